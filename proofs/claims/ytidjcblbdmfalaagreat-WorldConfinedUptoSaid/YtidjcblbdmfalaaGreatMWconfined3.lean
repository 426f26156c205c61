/-
  PROVED HERE: lemmas and contracts of functions (texts of this repo, joined; what the claim does not use is left out): Hv, Hw, Hx, Hy, Hz, Ac, Wo, Wx, ShelfS, SK, HG, Vp, Fz, Ws, GOk, Nw, Wn, WD, Hc, Hd, H1, H2, H3, H4.
  CONDITIONS: as the theorems say.
-/
import Derived.Test.YtidjcblbdmfalaaGreatMWconfined2
import Derived.Lib.Split
import Derived.Shelf.SlGeneric
import Derived.Shelf.SlIter.Nil
import Derived.Shelf.SortM.Plain
import Derived.Shelf.SortM.SortNone
import Derived.Ground.GgzProg
import Derived.Ground.SlgmProg
import Derived.Test.YtidjcblbdmfalaaGreatProg
set_option maxRecDepth 100000
set_option maxHeartbeats 4000000
namespace Go.Proofs.YtidjcblbdmfalaaGreat
section
open Go.RowKit Go.Maps bD aE
section ops
variable {S:aH} {d to:Nat} {name toName:ByteArray} {t:Th}
theorem Inv.link (hI:Inv S) (hd:Live S.idx ⟨d,2⟩) (iX:(obj S.O d).gone=false) (hn:aT name (obj S.O d).ah=none) (iP:bG name) (ht:Live S.idx t) (G5:(obj S.O t.k).gone=false) (hk:t.kind≠2) (hroom:S.X.ah < 8192) :
    Inv { S with X:={ S.X with ah:=S.X.ah+1 },O:=cU S.X S.O d name t }:=by
  have hne:t.k≠d:=fun e=>hk (congrArg Th.kind (gI ht hd e))
  have h1:=hI.toInv0.put hd iX hn iP ht G5 (fun e=>absurd e hk) hne hroom hI.now (fun k=>xJ hne)
  refine⟨h1,fun x hx hg=>?_⟩
  have hg:(obj (cU S.X S.O d name t) x.k).gone=true:=hg
  show 0 < (obj (cU S.X S.O d name t) x.k).opens
  rw [ng (g:=aR.gone) (fun _ _=>rfl) (fun _ _=>rfl) (fun _ _ _=>rfl) (fun _ _=>rfl)] at hg
  rw [ng (g:=aR.opens) (fun _ _=>rfl) (fun _ _=>rfl) (fun _ _ _=>rfl) (fun _ _=>rfl)]
  exact hI.full x hx hg
theorem kq (hne:t.k≠d) {X:FM} {O:bT} (h:aT toName (obj O to).ah=none):aT toName (obj (aQ X O d name t) to).ah=none:=by
  rw [jf hne]
  split
  ·rename_i e
   subst e
   show aT toName (fX name (obj O to).ah)=none
   rw [qD];split
   ·rfl
   exact h
  split
  ·exact h
  exact h
theorem Inv.move (hI:Inv S) (hd:Live S.idx ⟨d,2⟩) (hl:aT name (obj S.O d).ah=some t) (hto:Live S.idx ⟨to,2⟩) (iX:(obj S.O to).gone=false) (hn:aT toName (obj S.O to).ah=none) (iP:bG toName) (hb:t.kind=2->¬ jS S.O t.k to):Inv (kK S d name to toName t):=by
  have hne:=hI.ne hd hl
  have ht:=(hI.ent hd hl).2
  have Mv:t.k≠to:=fun e=>by
    have h1:t=⟨to,2⟩:=gI ht hto e
    exact hb (by rw [h1]) (by rw [e];exact .here)
  have hgt:(obj S.O t.k).gone=false:=by
    cases hg:(obj S.O t.k).gone with
    | false=>rfl
    | true=>
      have h1:=(hI.gone t ht hg).1
      have h2:=hI.links t ht
      have h3:0 < iW S.idx S.O t.k:=mZ hd hl
      omega
  have hO:∀ k,obj (orphan (aQ S.X S.O d name t) t.k) k=if k=d then { obj S.O d with ah:=fX name (obj S.O d).ah,sec:=S.X.cS,nano:=S.X.cZ } else if k=t.k then { obj S.O k with links:=(obj S.O k).links - 1,gone:=(obj S.O t.k).gone,up:=none } else obj S.O k:=fun k=>by
    unfold orphan
    rw [kC]
    by_cases e:k=t.k
    ·rw [if_pos e,jf hne,if_neg (fun e2=>hne (e.symm.trans e2)),if_pos e,if_neg (fun e2=>hne (e.symm.trans e2)),if_pos e,e]
    rw [if_neg e,jf hne,if_neg e,if_neg e]
  have h1:=hI.toInv0.cut hd hl hO (.inl rfl)
  have g0:∀ {α:Type} (g:aR->α),(∀ o es,g { o with ah:=es }=g o)->(∀ o l,g { o with links:=l }=g o)->(∀ o a b,g { o with sec:=a,nano:=b }=g o)->(∀ o u,g { o with up:=u }=g o)->∀ k,g (obj (orphan (aQ S.X S.O d name t) t.k) k)=g (obj S.O k):=fun g a b c e k=>(iZ (fun o=>e o none)).trans (dr a b c)
  have hlk:=hI.links t ht
  have hlp:0 < iW S.idx S.O t.k:=mZ hd hl
  have hend:(obj (orphan (aQ S.X S.O d name t) t.k) to).ah=(obj (aQ S.X S.O d name t) to).ah:=iZ (g:=aR.ah) (fun _=>rfl)
  have h2:=h1.put (d:=to) (name:=toName) (t:=t) (O':=(kK S d name to toName t).O) hto (by
      show (obj (orphan (aQ S.X S.O d name t) t.k) to).gone=false
      rw [g0 aR.gone (fun _ _=>rfl) (fun _ _=>rfl) (fun _ _ _=>rfl) (fun _ _=>rfl)];exact iX) (by
      show aT toName (obj (orphan (aQ S.X S.O d name t) t.k) to).ah=none
      rw [hend];exact kq hne hn) iP ht (by
      show (obj (orphan (aQ S.X S.O d name t) t.k) t.k).gone=false
      rw [g0 aR.gone (fun _ _=>rfl) (fun _ _=>rfl) (fun _ _ _=>rfl) (fun _ _=>rfl)];exact hgt) (fun hk=>⟨by
        have h3:=hI.once t ht hk
        show (obj (orphan (aQ S.X S.O d name t) t.k) t.k).links=0
        rw [hO,if_neg hne,if_pos rfl]
        show (obj S.O t.k).links - 1=0
        omega,fun hb2=>hb hk (IU (fun x e hx=>by
          have hx:(obj (orphan (aQ S.X S.O d name t) t.k) x).up=some e:=hx
          by_cases e1:x=t.k
          ·rw [hO,if_neg (by rw [e1];exact hne),if_pos e1] at hx;cases hx
          rw [hO] at hx
          split at hx
          ·rename_i e2;rw [e2];exact hx
          first|exact hx|(rw [if_neg e1] at hx;exact hx)) hb2)⟩) Mv (by
      have:=hI.total
      show S.X.ah - 1 < 8192
      omega) hI.now (fun k=>by
      show obj (cU S.X (aQ S.X S.O d name t) to toName t) k=_
      rw [xJ Mv]
      by_cases e:k=to
      ·rw [if_pos e,if_pos e]
       have h3:obj (orphan (aQ S.X S.O d name t) t.k) to=obj (aQ S.X S.O d name t) to:=bZ (fun e=>Mv e.symm)
       rw [show obj _ to=_ from h3]
      rw [if_neg e,if_neg e]
      by_cases e2:k=t.k
      ·rw [if_pos e2,if_pos e2,e2]
       show _={ obj (orphan (aQ S.X S.O d name t) t.k) t.k with links:=(obj (orphan (aQ S.X S.O d name t) t.k) t.k).links+1,up:=if t.kind=2 then some to else (obj (orphan (aQ S.X S.O d name t) t.k) t.k).up }
       have h3:obj (orphan (aQ S.X S.O d name t) t.k) t.k={ obj (aQ S.X S.O d name t) t.k with up:=none }:=bL
       rw [h3]
       by_cases hk:t.kind=2
       ·rw [if_pos hk,if_pos hk]
       rw [if_neg hk,if_neg hk]
       have IV:(obj (aQ S.X S.O d name t) t.k).up=none:=by
         rw [dr (g:=aR.up) (fun _ _=>rfl) (fun _ _=>rfl) (fun _ _ _=>rfl)]
         cases hu:(obj S.O t.k).up with
         | none=>rfl
         | some e=>exact absurd ((hI.up t ht e).1 hu).1 hk
       rw [IV]
      rw [if_neg e2,if_neg e2]
      have h3:obj (orphan (aQ S.X S.O d name t) t.k) k=obj (aQ S.X S.O d name t) k:=bZ e2
      exact h3.symm)
  refine⟨h2,fun x hx hg=>?_⟩
  have g3:∀ {α:Type} (g:aR->α),(∀ o es,g { o with ah:=es }=g o)->(∀ o l,g { o with links:=l }=g o)->(∀ o a b,g { o with sec:=a,nano:=b }=g o)->(∀ o u,g { o with up:=u }=g o)->∀ k,g (obj (kK S d name to toName t).O k)=g (obj S.O k):=fun g a b c e k=>(ng a b c e).trans (dr a b c)
  rw [g3 aR.gone (fun _ _=>rfl) (fun _ _=>rfl) (fun _ _ _=>rfl) (fun _ _=>rfl)] at hg
  rw [g3 aR.opens (fun _ _=>rfl) (fun _ _=>rfl) (fun _ _ _=>rfl) (fun _ _=>rfl)]
  exact hI.full x hx hg
theorem CC {us:Used Th} {h:Int} {k:Nat}:hnd (ins h t us) k=(if t.k=k then 1 else 0)+hnd us k:=zR
theorem Ph {us:Used Th} {h:Int} {k:Nat} (hr:aE.ct (keys us)) (e:aE.get us h=some t):hnd (del h us) k+(if t.k=k then 1 else 0)=hnd us k:=zT (g:=fun p:Int×Th=>if p.2.k=k then 1 else 0) hr e
theorem G9 {us:Used Th} {ay:Int} (hr:aE.ct (keys us)) (h1:∀ x∈keys us,1<=x/\x<=ay):aE.ct (keys (ins (aE.least us) t us))/\∀ x∈keys (ins (aE.least us) t us),1<=x/\x<=max ay ((us.length:Int)+1):=by
  obtain⟨g1,g2,_⟩:=least_le hr (fun x hx=>(h1 x hx).1)
  have g3:=Gq us
  refine⟨vK hr g2,fun x hx=>?_⟩
  rcases (lN _ _ _ _).1 hx with e|e
  ·subst e;omega
  have:=h1 x e;omega
theorem Inv.bR (hI:Inv S) (ht:Live S.idx t) (hk:t.kind≠3):Inv (Proofs.YtidjcblbdmfalaaGreat.bR S t).2.2:=by
  by_cases hlt:(S.us.length:Int) < S.X.cH
  ·rw [kf hlt]
   obtain⟨g1,g2,_⟩:=least_le hI.usr (fun x hx=>(hI.xI x hx).1)
   obtain⟨v1,v2⟩:=G9 (t:=t) hI.usr hI.xI
   have hb:bytes S.idx (aD S.O t.k (fun o=>{ o with opens:=o.opens+1 }))=bytes S.idx S.O:=gq (fun p _=>by rw [dF (f:=fun o=>{ o with opens:=o.opens+1 }) (g:=aR.data) (fun _=>rfl)])
   have h1:=hI.toInv0.own (k:=t.k) (f:=fun o=>{ o with opens:=o.opens+1 }) (kL:=S.X.used) (us':=ins (aE.least S.us) t S.us) (gu:=max S.ay ((S.us.length:Int)+1)) (fun _=>rfl) (fun _=>rfl) (fun _=>rfl) (fun _=>rfl) (fun _=>rfl) (fun _=>rfl)
     (fun u hu e=>by rw [← e];exact (hI.mt u hu).of rfl rfl rfl (hI.mt u hu).time rfl (.inl rfl) (.inl rfl) rfl)
     (fun u hu=>by
       have h2:=hI.opens u hu
       rw [CC]
       by_cases e:u.k=t.k
       ·rw [e,bL,if_pos rfl,← e]
        show (obj S.O u.k).opens+1=_
        omega
       rw [bZ e,if_neg (fun e2=>e e2.symm)];omega)
     v1 v2 (by rw [iR];omega) (by have:=hI.ay;omega) (fun h u e=>by
       rw [r9 g2] at e
       split at e
       ·cases e;exact⟨ht,hk⟩
       exact hI.us h u e) ⟨by rw [hb];exact hI.used.1,hI.used.2⟩
   refine⟨h1,fun u hu hg=>?_⟩
   have hg:(obj (aD S.O t.k (fun o=>{ o with opens:=o.opens+1 })) u.k).gone=true:=hg
   rw [dF (f:=fun o=>{ o with opens:=o.opens+1 }) (g:=aR.gone) (fun _=>rfl)] at hg
   have h2:=hI.full u hu hg
   show 0 < (obj (aD S.O t.k (fun o=>{ o with opens:=o.opens+1 })) u.k).opens
   by_cases e:u.k=t.k
   ·rw [e,bL];rw [e] at h2;show 0 < (obj S.O t.k).opens+1;omega
   rw [bZ e];exact h2
  rw [lD hlt];exact hI
theorem Inv.cW (hI:Inv S) {k:Nat} (ht:Live S.idx ⟨k,1⟩) (bs:List UInt8):Inv (Proofs.YtidjcblbdmfalaaGreat.cW S k bs).2.2:=by
  unfold Proofs.YtidjcblbdmfalaaGreat.cW
  split
  ·exact hI
  split
  ·exact hI
  rename_i hroom
  have hlen:(obj (aD S.O k (fun o=>{ o with data:=o.data++bs.take (aZ S.X bs.length),sec:=S.X.cS,nano:=S.X.cZ })) k).data.length=(obj S.O k).data.length+aZ S.X bs.length:=by
    rw [bL]
    show ((obj S.O k).data++bs.take (aZ S.X bs.length)).length=_
    rw [List.length_append,List.length_take]
    unfold aZ
    omega
  have hb:=zS (g:=fun p:Int×Th=>(obj S.O p.2.k).data.length) (g':=fun p:Int×Th=>(obj (aD S.O k (fun o=>{ o with data:=o.data++bs.take (aZ S.X bs.length),sec:=S.X.cS,nano:=S.X.cZ })) p.2.k).data.length) hI.rise ht (fun p hp hne=>by
    have h1:=hI.key (mY hI.rise hp)
    show (obj (aD _ k _) p.2.k).data.length=_
    rw [bZ (fun e=>hne (by rw [h1,e]))])
  have hb:bytes S.idx (aD S.O k (fun o=>{ o with data:=o.data++bs.take (aZ S.X bs.length),sec:=S.X.cS,nano:=S.X.cZ }))+(obj S.O k).data.length=bytes S.idx S.O+(obj (aD S.O k (fun o=>{ o with data:=o.data++bs.take (aZ S.X bs.length),sec:=S.X.cS,nano:=S.X.cZ })) k).data.length:=hb
  have hu:=hI.used
  have hcB:=hI.cB
  have h1:=hI.toInv0.own (k:=k) (f:=fun o=>{ o with data:=o.data++bs.take (aZ S.X bs.length),sec:=S.X.cS,nano:=S.X.cZ }) (kL:=S.X.used+(aZ S.X bs.length:Int)) (us':=S.us) (gu:=S.ay) (fun _=>rfl) (fun _=>rfl) (fun _=>rfl) (fun _=>rfl) (fun _=>rfl) (fun _=>rfl)
    (fun u hu e=>by
      have hk1:u=⟨k,1⟩:=gI hu ht e
      have Sw:=hI.kind hu
      rw [← e]
      exact (hI.mt u hu).of rfl rfl rfl hI.now rfl (.inr (by rw [Sw,hk1])) (.inl rfl) rfl)
    (fun u hu=>by rw [dF (f:=fun o=>{ o with data:=o.data++bs.take (aZ S.X bs.length),sec:=S.X.cS,nano:=S.X.cZ }) (g:=aR.opens) (fun _=>rfl)];exact hI.opens u hu)
    hI.usr hI.xI hI.Dq hI.ay hI.us ⟨by omega,by unfold aZ;omega⟩
  refine⟨h1,fun u hu hg=>?_⟩
  have hg:(obj (aD S.O k (fun o=>{ o with data:=o.data++bs.take (aZ S.X bs.length),sec:=S.X.cS,nano:=S.X.cZ })) u.k).gone=true:=hg
  rw [dF (f:=fun o=>{ o with data:=o.data++bs.take (aZ S.X bs.length),sec:=S.X.cS,nano:=S.X.cZ }) (g:=aR.gone) (fun _=>rfl)] at hg
  show 0 < (obj (aD S.O k (fun o=>{ o with data:=o.data++bs.take (aZ S.X bs.length),sec:=S.X.cS,nano:=S.X.cZ })) u.k).opens
  rw [dF (f:=fun o=>{ o with data:=o.data++bs.take (aZ S.X bs.length),sec:=S.X.cS,nano:=S.X.cZ }) (g:=aR.opens) (fun _=>rfl)]
  exact hI.full u hu hg
theorem Inv.Sy (hI:Inv S) {k:Nat} {mode uid gid sec nano:Int} (h1:nJ mode) (h2:Bk uid/\Bk gid) (h3:dU sec nano):Inv { S with O:=aD S.O k (fun o=>{ o with mode:=mode,uid:=uid,gid:=gid,sec:=sec,nano:=nano }) }:=by
  have hb:bytes S.idx (aD S.O k (fun o=>{ o with mode:=mode,uid:=uid,gid:=gid,sec:=sec,nano:=nano }))=bytes S.idx S.O:=gq (fun p _=>by rw [dF (f:=fun o=>{ o with mode:=mode,uid:=uid,gid:=gid,sec:=sec,nano:=nano }) (g:=aR.data) (fun _=>rfl)])
  have g1:=hI.toInv0.own (k:=k) (f:=fun o=>{ o with mode:=mode,uid:=uid,gid:=gid,sec:=sec,nano:=nano }) (kL:=S.X.used) (us':=S.us) (gu:=S.ay) (fun _=>rfl) (fun _=>rfl) (fun _=>rfl) (fun _=>rfl) (fun _=>rfl) (fun _=>rfl)
    (fun u hu e=>by
      have hm:=hI.mt u hu
      rw [e] at hm
      exact⟨h1,h2.1,h2.2,h3,hm.data,hm.ah,hm.target⟩)
    (fun u hu=>by rw [dF (f:=fun o=>{ o with mode:=mode,uid:=uid,gid:=gid,sec:=sec,nano:=nano }) (g:=aR.opens) (fun _=>rfl)];exact hI.opens u hu)
    hI.usr hI.xI hI.Dq hI.ay hI.us ⟨by rw [hb];exact hI.used.1,hI.used.2⟩
  refine⟨g1,fun u hu hg=>?_⟩
  have hg:(obj (aD S.O k (fun o=>{ o with mode:=mode,uid:=uid,gid:=gid,sec:=sec,nano:=nano })) u.k).gone=true:=hg
  rw [dF (f:=fun o=>{ o with mode:=mode,uid:=uid,gid:=gid,sec:=sec,nano:=nano }) (g:=aR.gone) (fun _=>rfl)] at hg
  show 0 < (obj (aD S.O k (fun o=>{ o with mode:=mode,uid:=uid,gid:=gid,sec:=sec,nano:=nano })) u.k).opens
  rw [dF (f:=fun o=>{ o with mode:=mode,uid:=uid,gid:=gid,sec:=sec,nano:=nano }) (g:=aR.opens) (fun _=>rfl)]
  exact hI.full u hu hg
theorem Inv.shut (hI:Inv S) {h:Int} (e:aE.get S.us h=some t):Inv { S with
      X:={ S.X with used:=j9 (qH S.O t.k) S.X.used t }
      O:=qH S.O t.k
      idx:=iA (qH S.O t.k) S.idx t
      us:=del h S.us }:=by
  have ht:=(hI.us h t e).1
  have hb:bytes S.idx (qH S.O t.k)=bytes S.idx S.O:=gq (fun p _=>by unfold qH;rw [dF (f:=fun o=>{ o with opens:=o.opens - 1 }) (g:=aR.data) (fun _=>rfl)])
  have hd:=fun k=>Ph (k:=k) hI.usr e
  have h1:=hI.toInv0.own (k:=t.k) (f:=fun o=>{ o with opens:=o.opens - 1 }) (kL:=S.X.used) (us':=del h S.us) (gu:=S.ay) (fun _=>rfl) (fun _=>rfl) (fun _=>rfl) (fun _=>rfl) (fun _=>rfl) (fun _=>rfl)
    (fun u hu e=>by rw [← e];exact (hI.mt u hu).of rfl rfl rfl (hI.mt u hu).time rfl (.inl rfl) (.inl rfl) rfl)
    (fun u hu=>by
      have h2:=hI.opens u hu
      have h3:=hd u.k
      by_cases e2:u.k=t.k
      ·rw [e2,bL]
       rw [e2] at h2 h3
       rw [if_pos rfl] at h3
       show (obj S.O t.k).opens - 1=_
       omega
      rw [if_neg (fun e3=>e2 e3.symm)] at h3
      rw [bZ e2];omega)
    (EU hI.usr) (fun x hx=>hI.xI x (by rw [nU] at hx;exact (List.mem_filter.1 hx).1)) (by have:=pY hI.usr (get_some e);have:=hI.Dq;omega) hI.ay (fun i u hu=>by
      rw [uP] at hu
      split at hu
      ·cases hu
      exact hI.us i u hu) ⟨by rw [show bytes S.idx (aD S.O t.k (fun o=>{ o with opens:=o.opens - 1 }))=bytes S.idx S.O from hb];exact hI.used.1,hI.used.2⟩
  exact h1.rN (t:=t) ht (fun u hu hut hg=>by
    have hk:u.k≠t.k:=fun e=>hut (gI hu ht e)
    have hg:(obj (aD S.O t.k (fun o=>{ o with opens:=o.opens - 1 })) u.k).gone=true:=hg
    rw [bZ hk] at hg
    show 0 < (obj (aD S.O t.k (fun o=>{ o with opens:=o.opens - 1 })) u.k).opens
    rw [bZ hk]
    exact hI.full u hu hg)
end ops
end
section
open Go.RowKit Go.Maps bD aE
section facts
variable {S:aH} {X:FM} {O:bT} {d k to:Nat} {name toName:ByteArray} {t o:Th}
def xO (dp:Nat->Nat):Option Nat->Nat
  | none=>0
  | some y=>dp y+1
theorem Kw {dp:Nat->Nat} (h:∀ k d,(obj O k).up=some d->dp d < dp k) {y:Nat}:xO dp (obj O y).up < xO dp (some y):=by
  cases e:(obj O y).up with
  | none=>exact Nat.succ_pos _
  | some z=>exact Nat.succ_lt_succ (h y z e)
theorem Br {s y:Nat} (h:¬ y=s):jS O s y↔∃ z,(obj O y).up=some z/\jS O s z:=Ds.trans (or_iff_right h)
theorem Bt (hne:t.k≠d):(obj (aI S d name t).O k).ah=if k=d then fX name (obj S.O d).ah else (obj S.O k).ah:=by
  have h1:(obj (aI S d name t).O k).ah=(obj (aQ S.X S.O d name t) k).ah:=by
    unfold aI
    simp only
    split
    ·exact p6 (g:=aR.ah) (fun _ _=>rfl)
    rfl
  rw [h1,jf hne]
  split
  ·rfl
  split<;>rfl
theorem qI (hI:Inv0 S) (hto:Live S.idx ⟨to,2⟩) (hl2:aT toName (obj S.O to).ah=some o) (hl:aT name (obj S.O d).ah=some t) (hot:o≠t):aT name (obj (aI S to toName o).O d).ah=some t:=by
  rw [Bt (hI.ne hto hl2)]
  split
  ·rename_i e
   subst e
   rw [qD,if_neg (fun e=>by rw [e,hl2] at hl;exact hot (Option.some.inj hl))]
   exact hl
  exact hl
theorem qJ (hI:Inv0 S) (hto:Live S.idx ⟨to,2⟩) (hl2:aT toName (obj S.O to).ah=some o):aT toName (obj (aI S to toName o).O to).ah=none:=by
  rw [Bt (hI.ne hto hl2),if_pos rfl,qD,if_pos rfl]
theorem jH (hI:Inv0 S) (hto:Live S.idx ⟨to,2⟩) (hl2:aT toName (obj S.O to).ah=some o) (hx:Live S.idx t) (hk:t.k≠o.k):Live (aI S to toName o).idx t:=by
  unfold aI
  simp only
  split
  ·unfold iA
   split
   ·unfold Live
    rw [uP,if_neg]
    ·exact hx
    intro e
    have h1:=(hI.ob o (hI.ent hto hl2).2).1
    rw [p6 (g:=aR.id) (fun _ _=>rfl),dr (g:=aR.id) (fun _ _=>rfl) (fun _ _=>rfl) (fun _ _ _=>rfl),h1] at e
    exact hk (by omega)
   exact hx
  exact hx
theorem mF (hne:t.k≠d):(obj (aQ X O d name t) k).ah.length<=(obj O k).ah.length:=by
  rw [jf hne]
  split
  ·rename_i e
   subst e
   exact List.length_filter_le _ _
  split<;>exact Nat.le_refl _
theorem kG (hI:Inv0 S) (hd:Live S.idx ⟨d,2⟩) (hl:aT name (obj S.O d).ah=some t):0<=(obj (aQ S.X S.O d name t) t.k).links/\(obj (aQ S.X S.O d name t) t.k).links<=1048576:=by
  have ht:=(hI.ent hd hl).2
  have h1:=hI.links t ht
  have h2:0 < iW S.idx S.O t.k:=mZ hd hl
  have h3:=hI.lb ht
  rw [jf (hI.ne hd hl),if_neg (hI.ne hd hl),if_pos rfl]
  show 0<=(obj S.O t.k).links - 1/\(obj S.O t.k).links - 1<=1048576
  omega
end facts
end
section
open Go.RowKit Go.Maps bD aE
theorem bA.take {β:Bs} {A:Option Addr} {d:List UInt8} (h:bA β A d) (n:Nat):bA β A (d.take n):=by
  intro j v hj
  refine h j v ?_
  unfold bY at hj ⊢
  rw [List.map_take] at hj
  rw [List.getElem?_take] at hj
  split at hj
  ·exact hj
  cases hj
theorem IW {a b:List UInt8}:bY (a++b)=bY a++bY b:=List.map_append
theorem Inv0.Sz {S:aH} {t:Th} (h:Inv0 S) (hl:Live S.idx t):((obj S.O t.k).data.length:Int)<=S.X.used:=by
  have h1:=h.used
  have h2:(obj S.O t.k).data.length<=bytes S.idx S.O:=lY (g:=fun p:Int×Th=>(obj S.O p.2.k).data.length) hl
  omega
theorem Kx {X:FM} {n:Nat} (h:0 < X.cB - X.used):min (n:Int) (X.cB - X.used)=(aZ X n:Int):=by
  unfold aZ
  omega
theorem Ky {X:FM} {n:Nat} (h:0 < X.cB - X.used):aZ X n<=n/\(aZ X n:Int)<=X.cB - X.used:=by
  unfold aZ
  omega
section data
variable {O:bT} {us:Used Th} {L L':HL} {k c:Nat} {A:Option Addr} {t:Th}
theorem E4 (hL:L'=L.data k A c):aY L' us=aY L us:=by subst hL;rfl
theorem Mw (hL:L'=L.data k A c):cK O L'=cK O L:=by
  subst hL
  funext x
  rfl
theorem Mx (hL:L'=L.data k A c) {x:Nat} (h:x≠k):bI O L' x=bI O L x:=by
  have e2:gD L' x (obj O x)=gD L x (obj O x):=by
    subst hL
    unfold gD yG
    simp only [HL.data,if_neg h]
    rfl
  unfold bI
  rw [e2]
  subst hL
  rfl
theorem Mz (hL:L'=L.data k A c) {x:Nat} (h:x≠k):bJ O L' x=bJ O L x:=by
  unfold bJ
  subst hL
  simp only [HL.data,if_neg h]
theorem He (hL:L'=L.data k A c):L'.dA k=A:=by subst hL;exact if_pos rfl
theorem Hf (hL:L'=L.data k A c):L'.dC k=c:=by subst hL;exact if_pos rfl
theorem Kz (hL:L'=L.data k A c) {x:Nat}:L'.b x=L.b x:=by subst hL;rfl
end data
section sat
variable {β:Bs} {l l':List HP} {w:World} {i j k c n:Nat} {O:bT} {L L':HL} {f:aR->aR} {cs:List Value} {T:TypeId} {ix:List Nat} {A:Option Addr} {R:Nat->cr} {xs:List Value}
theorem Sat.Qx (h:Sat β l w) (hL:L'=L.data k A c) (hp:l[i]?=some (.abs (ax (kD (bI O L) k cr.none)))) (hq:l[j]?=some (.blk (L.b k) cs T)) (hd:bB (i::j::ix)=true) (hl:bQ l ix=some l') (h0:(f (obj O k)).kind≠0) (hc:gD L' k (f (obj O k))=cs) (hT:kE (f (obj O k)).kind=T):Sat β (.abs (ax (bI (aD O k f) L'))::l') w:=by
  refine h.qo (a:=zN (L.b k) cs T) hp hq (fun _ _ h=>h) hd hl k (fun x hx=>?_) (by rw [uM,if_neg h0,hc,hT,Kz hL])
  rw [uN hx,Mx hL hx,oz hx]
theorem Sat.Qy (h:Sat β l w) (hL:L'=L.data k A c) (hp:l[i]?=some (.abs (ax (kD (bJ O L) k cr.none)))) (hq:l[j]?=some (.abs (aK 5 1 A n c xs))) (hd:bB (i::j::ix)=true) (hl:bQ l ix=some l') (h1:(f (obj O k)).kind=1) (hn:n=(f (obj O k)).data.length) (hx:xs=bY (f (obj O k)).data):Sat β (.abs (ax (bJ (aD O k f) L'))::l') w:=by
  refine h.qo hp hq (fun _ _ h=>h) hd hl k (fun x hx=>by rw [xw hx,Mz hL hx,oz hx]) ?_
  rw [sG (by rw [bL];exact h1),bL,He hL,Hf hL,hn,hx]
end sat
end
section
open Go.RowKit Go.Maps bD aE
structure gh (β:Bs) (c:aF):Prop where
  hw:(Lit.int .i64 c.handle).wf=true
  ow:(Lit.int .i64 c.other).wf=true
  nm:c.name.size<=1048576
  tx:c.text.size<=1048576
  da:bA β c.dA c.data
  dl:c.data.length<=1099511627776
  dc:c.data.length<=c.dC
section facts
variable {S:aH} {h:Int} {name:ByteArray} {need:Int} {t:Th} {c:aF}
theorem kT (hI:Inv0 S) (h:Int) (name:ByteArray) (need:Int):(∃ e,dX S.O S.us h name need=.error e/\e≠0)\/∃ d,dX S.O S.us h name need=.ok d/\Live S.idx ⟨d,2⟩/\(obj S.O d).gone=false/\bG name/\aE.get S.us h=some ⟨d,2⟩:=by
  unfold dX
  cases e:aE.get S.us h with
  | none=>exact .inl ⟨131,rfl,by decide⟩
  | some t=>
    simp only
    split
    ·rename_i hk
     split
     ·exact .inl ⟨170,rfl,by decide⟩
     rename_i hg
     split
     ·rename_i hn
      split
      ·obtain⟨k,kd⟩:=t
       simp only at hk
       subst hk
       exact .inr ⟨k,rfl,(hI.us h _ e).1,by simpa using hg,hn,rfl⟩
      exact .inl ⟨175,rfl,by decide⟩
     exact .inl ⟨95,rfl,by decide⟩
    exact .inl ⟨173,rfl,by decide⟩
theorem Bu (hI:Inv0 S) (c:aF):(∃ e,fK S.O S.us c=.error e/\e≠0)\/(∃ k,fK S.O S.us c=.ok ⟨k,1⟩/\Live S.idx ⟨k,1⟩)\/(∃ k,fK S.O S.us c=.ok ⟨k,2⟩/\Live S.idx ⟨k,2⟩)\/∃ k,fK S.O S.us c=.ok ⟨k,3⟩/\Live S.idx ⟨k,3⟩:=by
  unfold fK
  rcases kT hI c.handle c.name 64 with ⟨e,h1,h2⟩|⟨d,h1,h2,_⟩
  ·rw [h1];exact .inl ⟨e,rfl,h2⟩
  rw [h1]
  simp only
  rcases hI.mr h2 c.name with h3|⟨k,h3,h4⟩|⟨k,h3,h4⟩|⟨k,h3,h4⟩
  ·rw [h3];exact .inl ⟨170,rfl,by decide⟩
  ·rw [h3];exact .inr (.inl ⟨k,rfl,h4⟩)
  ·rw [h3];exact .inr (.inr (.inl ⟨k,rfl,h4⟩))
  rw [h3];exact .inr (.inr (.inr ⟨k,rfl,h4⟩))
theorem E5 {L:HL} {us:Used Th} {h:Int}:aY L (del h us)=del h (aY L us):=G3 (dQ L) h us
theorem Hg {us:Used Th} {h:Int} (e:aE.get us h=some t):0 < hnd us t.k:=Nat.lt_of_lt_of_le (by simp) (lY (g:=fun p:Int×Th=>if p.2.k=t.k then 1 else 0) e)
theorem zW {L:HL}:bJ (bR S t).2.2.O L=bJ S.O L:=by
  by_cases h:(S.us.length:Int) < S.X.cH
  ·rw [kf h];exact sK (fun _=>dF (f:=fun o=>{ o with opens:=o.opens+1 }) (g:=aR.data) (fun _=>rfl)) (fun _=>jO (f:=fun o=>{ o with opens:=o.opens+1 }) (fun _=>rfl))
  rw [lD h]
theorem zX {L:HL}:cK (bR S t).2.2.O L=cK S.O L:=by
  by_cases h:(S.us.length:Int) < S.X.cH
  ·rw [kf h];exact mW (f:=fun o=>{ o with opens:=o.opens+1 }) rfl rfl
  rw [lD h]
theorem Pj:(jl S c).2.2.op=c.op:=by unfold jl;(repeat' split)<;>rfl
theorem IX:(fH S c).2.2.op=c.op:=by unfold fH;(repeat' split)<;>rfl
theorem Gr:(eP S c).2.2.op=c.op:=by unfold eP;(repeat' split)<;>rfl
theorem IY:(fP S c).2.2.op=c.op:=by unfold fP;(repeat' split)<;>rfl
theorem Gs:(dY S c).2.2.op=c.op:=by unfold dY;(repeat' split)<;>rfl
theorem E6:(fI S c).2.2.op=c.op:=by unfold fI;(repeat' split)<;>rfl
theorem KA:(cM S c).2.2.op=c.op:=by unfold cM;(repeat' split)<;>rfl
theorem Gt:(fY S c).2.2.op=c.op:=by unfold fY;(repeat' split)<;>rfl
theorem IZ:(gZ S c).2.2.op=c.op:=by unfold gZ;(repeat' split)<;>rfl
theorem Gu:(fw S c).2.2.op=c.op:=by unfold fw;(repeat' split)<;>rfl
theorem I0:(fZ S c).2.2.op=c.op:=by unfold fZ;(repeat' split)<;>rfl
theorem I3:(bH S c).2.2.op=c.op:=by unfold bH;(repeat' split)<;>rfl
theorem Pk:(kg S c).2.2.op=c.op:=by unfold kg;(repeat' split)<;>rfl
theorem KC:(gn S c).2.2.op=c.op:=by unfold gn;(repeat' split)<;>rfl
theorem MB:(je S c).2.2.op=c.op:=by unfold je;(repeat' split)<;>rfl
end facts
theorem tV {S:aH} {c:aF} (h:c.op=1):cP S c=jl S c:=by
  unfold cP
  simp [h]
theorem vQ {S:aH} {c:aF} (h:c.op=2):cP S c=fH S c:=by
  unfold cP
  simp [h]
theorem vR {S:aH} {c:aF} (h:c.op=3):cP S c=eP S c:=by
  unfold cP
  simp [h]
theorem tW {S:aH} {c:aF} (h:c.op=4):cP S c=fP S c:=by
  unfold cP
  simp [h]
theorem vS {S:aH} {c:aF} (h:c.op=5):cP S c=dY S c:=by
  unfold cP
  simp [h]
theorem vT {S:aH} {c:aF} (h:c.op=6):cP S c=fI S c:=by
  unfold cP
  simp [h]
theorem vU {S:aH} {c:aF} (h:c.op=7):cP S c=cM S c:=by
  unfold cP
  simp [h]
theorem vV {S:aH} {c:aF} (h:c.op=8):cP S c=fY S c:=by
  unfold cP
  simp [h]
theorem vW {S:aH} {c:aF} (h:c.op=9):cP S c=fZ S c:=by
  unfold cP
  simp [h]
theorem sN {S:aH} {c:aF} (h:c.op=10):cP S c=bH S c:=by
  unfold cP
  simp [h]
theorem sO {S:aH} {c:aF} (h:c.op=11):cP S c=kg S c:=by
  unfold cP
  simp [h]
theorem sP {S:aH} {c:aF} (h:c.op=12):cP S c=gn S c:=by
  unfold cP
  simp [h]
theorem sQ {S:aH} {c:aF} (h:c.op=13):cP S c=je S c:=by
  unfold cP
  simp [h]
theorem sR {S:aH} {c:aF} (h:c.op=14):cP S c=gZ S c:=by
  unfold cP
  simp [h]
theorem sS {S:aH} {c:aF} (h:c.op=15):cP S c=fw S c:=by
  unfold cP
  simp [h]
theorem sU {S:aH} {c:aF} (h:¬ (1<=c.op/\c.op<=15)):cP S c=(230,S,c):=by
  unfold cP
  repeat rw [if_neg (by omega)]
end
section
open Go.RowKit Go.Maps bD aE
section inv
variable {S:aH} {d to:Nat} {name toName text:ByteArray} {mode:Int} {c:aF}
theorem E7 (hI:Inv0 S):hnd S.us (aO S.X)=0:=by
  have:hnd S.us (aO S.X)=dP (fun _=>0) S.us:=gq (fun p hp=>if_neg (hI.fresh.us p hp))
  rw [this]
  have h0:∀ us:Used Th,dP (fun _=>0) us=0:=fun us=>by
    induction us with
    | nil=>rfl
    | cons p r ih=>show 0+_=0;rw [ih]
  exact h0 _
theorem za (hI:Inv0 S) {kind mode:Int} {tg:ByteArray} (hm:nJ mode) (ht:eW kind tg):kS { aU S.X kind mode with target:=tg }:=
  ⟨hm,⟨Int.le_refl _,by show (0:Int)<=2147483647;decide⟩,⟨Int.le_refl _,by show (0:Int)<=2147483647;decide⟩,hI.now,fun _=>rfl,fun _=>rfl,ht⟩
theorem Inv.Ed (hI:Inv S) (hd:Live S.idx ⟨d,2⟩) (iX:(obj S.O d).gone=false) (iP:bG name) (h0:ck S.X S.O S.idx d name=0) {kind mode:Int} {tg:ByteArray} (hk:kind=1\/kind=2\/kind=3) (hm:nJ mode) (ht:eW kind tg) :
    Inv (d9 S d name { aU S.X kind mode with target:=tg }):=by
  have h:=hI.add (us':=S.us) (gu:=S.ay) (o:={ aU S.X kind mode with target:=tg }) hd iX (oF h0) iP (uy h0) rfl hk rfl rfl rfl rfl rfl (za hI.toInv0 hm ht) hI.usr hI.xI hI.Dq hI.ay (fun h t e=>⟨.inl (hI.us h t e).1,(hI.us h t e).2⟩) (fun _ _=>rfl) (by rw [E7 hI.toInv0];rfl)
  exact h
theorem Inv.fq (hI:Inv S) (hd:Live S.idx ⟨d,2⟩) (iX:(obj S.O d).gone=false) (iP:bG name) (hm:nJ mode):Inv (Proofs.YtidjcblbdmfalaaGreat.fq S d name mode).2:=by
  unfold Proofs.YtidjcblbdmfalaaGreat.fq
  split
  ·rename_i h0
   exact hI.Ed hd iX iP h0 (.inr (.inl rfl)) hm (.inl ⟨by decide,rfl⟩)
  exact hI
theorem Pm {s:ByteArray} (h:nA s=0):eW 3 s:=by
  unfold nA at h
  split at h
  ·cases h
  rename_i h1
  split at h
  ·cases h
  split at h
  ·rename_i h2 h3
   refine .inr ⟨rfl,?_,by omega,h3⟩
   apply Classical.byContradiction
   intro hn
   have:s.size=0:=by omega
   exact h1 (lG.1 this)
  cases h
theorem Inv.dO (hI:Inv S) (hd:Live S.idx ⟨d,2⟩) (iX:(obj S.O d).gone=false) (iP:bG name):Inv (Proofs.YtidjcblbdmfalaaGreat.dO S d name text).2:=by
  unfold Proofs.YtidjcblbdmfalaaGreat.dO
  split
  ·rename_i hb
   split
   ·rename_i h0
    exact hI.Ed hd iX iP h0 (.inr (.inr rfl)) ⟨by decide,by decide⟩ (Pm hb)
   exact hI
  exact hI
theorem Inv.dG (hI:Inv S) (hd:Live S.idx ⟨d,2⟩):Inv (Proofs.YtidjcblbdmfalaaGreat.dG S d name).2:=by
  unfold Proofs.YtidjcblbdmfalaaGreat.dG
  split
  ·exact hI
  rename_i t hl
  split
  ·exact hI
  rename_i hk
  exact hI.yM hd hl hk
theorem Inv.dV (hI:Inv S) (hd:Live S.idx ⟨d,2⟩):Inv (Proofs.YtidjcblbdmfalaaGreat.dV S d name).2:=by
  unfold Proofs.YtidjcblbdmfalaaGreat.dV
  split
  ·exact hI
  rename_i t hl
  split
  ·split
   ·rename_i he
    exact hI.drop hd hl (fun _=>he)
   exact hI
  exact hI
theorem I4 {t:Th} (ht:t.k≠to):(obj (aI S d name t).O to).gone=(obj S.O to).gone:=by
  have h1:(obj (aI S d name t).O to).gone=(obj (aQ S.X S.O d name t) to).gone:=by
    unfold aI
    simp only
    split
    ·show (obj (aD _ t.k _) to).gone=_
     rw [bZ (fun e=>ht e.symm)]
    rfl
  rw [h1]
  exact dr (g:=aR.gone) (fun _ _=>rfl) (fun _ _=>rfl) (fun _ _ _=>rfl)
theorem Inv.bq (hI:Inv S) (hd:Live S.idx ⟨d,2⟩) (hto:Live S.idx ⟨to,2⟩) (iX:(obj S.O to).gone=false) (iP:bG toName):Inv (Proofs.YtidjcblbdmfalaaGreat.bq S d name to toName).2:=by
  unfold Proofs.YtidjcblbdmfalaaGreat.bq
  split
  ·exact hI
  rename_i t hl
  split
  ·exact hI
  rename_i hb
  have hb:t.kind=2->¬ jS S.O t.k to:=fun h1 h2=>hb ⟨h1,h2⟩
  split
  ·rename_i hn
   exact hI.move hd hl hto iX hn iP hb
  rename_i o hl2
  split
  ·exact hI
  rename_i hot
  split
  ·exact hI
  rename_i hok
  split
  ·exact hI
  rename_i Qz
  have ho:=(hI.ent hto hl2).2
  have QA:o.k≠to:=hI.ne hto hl2
  have h1:=hI.yM hto hl2 hok
  have hd1:Live (aI S to toName o).idx ⟨d,2⟩:=jH hI.toInv0 hto hl2 hd (fun e=>hok (by have:=gI hd ho e;rw [← this]))
  have jW:Live (aI S to toName o).idx ⟨to,2⟩:=jH hI.toInv0 hto hl2 hto (fun e=>QA e.symm)
  exact h1.move hd1 (qI hI.toInv0 hto hl2 hl hot) jW (by rw [I4 QA];exact iX) (qJ hI.toInv0 hto hl2) iP (fun h=>absurd h Qz)
theorem Inv.eT (hI:Inv S) (hd:Live S.idx ⟨d,2⟩) (hto:Live S.idx ⟨to,2⟩) (iX:(obj S.O to).gone=false) (iP:bG toName):Inv (Proofs.YtidjcblbdmfalaaGreat.eT S d name to toName).2:=by
  unfold Proofs.YtidjcblbdmfalaaGreat.eT
  split
  ·exact hI
  rename_i t hl
  have ht:=(hI.ent hd hl).2
  split
  ·exact hI
  rename_i hk
  split
  ·rename_i hn
   split
   ·rename_i hr
    have hgt:(obj S.O t.k).gone=false:=by
      cases hg:(obj S.O t.k).gone with
      | false=>rfl
      | true=>
        have h1:=(hI.gone t ht hg).1
        have h2:=hI.links t ht
        have h3:0 < iW S.idx S.O t.k:=mZ hd hl
        omega
    exact hI.link hto iX hn iP ht hgt hk hr
   exact hI
  exact hI
theorem Inv.jJ (hI:Inv S) (hd:Live S.idx ⟨d,2⟩) (iX:(obj S.O d).gone=false) (iP:bG name) (hm:nJ mode):Inv (Proofs.YtidjcblbdmfalaaGreat.jJ S d name mode).2.2:=by
  unfold Proofs.YtidjcblbdmfalaaGreat.jJ
  split
  ·rename_i h0
   split
   ·rename_i hlt
    obtain⟨g1,g2,_⟩:=least_le hI.usr (fun x hx=>(hI.xI x hx).1)
    obtain⟨v1,v2⟩:=G9 (t:=⟨aO S.X,1⟩) hI.usr hI.xI
    have hm2:=za (kind:=1) (tg:=⟨#[]⟩) hI.toInv0 hm (.inl ⟨by decide,rfl⟩)
    refine hI.add (us':=ins (aE.least S.us) ⟨aO S.X,1⟩ S.us) (gu:=max S.ay ((S.us.length:Int)+1)) (o:={ aU S.X 1 mode with opens:=1 }) hd iX (oF h0) iP (uy h0) rfl (.inl rfl) rfl rfl rfl rfl rfl ⟨hm2.mode,hm2.uid,hm2.gid,hm2.time,hm2.data,hm2.ah,hm2.target⟩ v1 v2 (by rw [iR];omega) (by have:=hI.ay;omega) (fun h t e=>?_) (fun k hk=>?_) ?_
    ·rw [r9 g2] at e
     split at e
     ·cases e;exact⟨.inr rfl,by show (1:Int)≠3;decide⟩
     exact⟨.inl (hI.us h t e).1,(hI.us h t e).2⟩
    ·rw [CC,if_neg (fun e=>hk e.symm),Nat.zero_add]
    rw [CC,if_pos rfl,E7 hI.toInv0];rfl
   exact hI
  exact hI
theorem Inv.cP (hI:Inv S) (c:aF):Inv (Proofs.YtidjcblbdmfalaaGreat.cP S c).2.1:=by
  have habout:∀ {need:Int} {d:Nat} {h:Int} {n:ByteArray},dX S.O S.us h n need=.ok d->Live S.idx ⟨d,2⟩/\(obj S.O d).gone=false/\bG n:=fun {need d h n} e=>by
    rcases kT hI.toInv0 h n need with ⟨e2,h1,_⟩|⟨d2,h1,h2,h3,h4,_⟩
    ·rw [e] at h1;cases h1
    rw [e] at h1;cases h1;exact⟨h2,h3,h4⟩
  have xP:∀ {t:Th},fK S.O S.us c=.ok t->Live S.idx t:=fun {t} e=>by
    rcases Bu hI.toInv0 c with ⟨e2,h1,_⟩|⟨k,h1,h2⟩|⟨k,h1,h2⟩|⟨k,h1,h2⟩<;>rw [e] at h1<;>cases h1<;>exact h2
  by_cases h:1<=c.op/\c.op<=15
  ·have h:c.op=1\/c.op=2\/c.op=3\/c.op=4\/c.op=5\/c.op=6\/c.op=7\/c.op=8\/c.op=9\/c.op=10\/c.op=11\/c.op=12\/c.op=13\/c.op=14\/c.op=15:=by omega
   rcases h with h|h|h|h|h|h|h|h|h|h|h|h|h|h|h
   ·rw [tV h]
    unfold jl
    split
    ·exact hI
    rename_i t e
    split
    ·rename_i hk;exact hI.bR (hI.live e) (by rw [hk];decide)
    exact hI
   ·rw [vQ h]
    unfold fH
    split
    ·exact hI
    rename_i t e
    split
    ·exact hI
    rename_i hk
    split
    ·exact hI
    exact hI.bR (xP e) hk
   ·rw [vR h]
    unfold eP
    split
    ·exact hI
    rename_i t e
    split
    ·exact hI
    rename_i hk
    split
    ·exact hI
    exact hI.bR (xP e) hk
   ·rw [tW h]
    unfold fP
    split
    ·exact hI
    rename_i d e
    obtain⟨h1,h2,h3⟩:=habout e
    split
    ·rename_i hm;exact hI.fq h1 h2 h3 hm
    exact hI
   ·rw [vS h]
    unfold dY
    split
    ·exact hI
    rename_i d e
    obtain⟨h1,h2,h3⟩:=habout e
    split
    ·rename_i hm
     split
     ·exact hI.jJ h1 h2 h3 hm
     exact hI
    exact hI
   ·rw [vT h]
    unfold fI
    split
    ·exact hI
    rename_i d e
    obtain⟨h1,h2,h3⟩:=habout e
    exact hI.dO h1 h2 h3
   ·rw [vU h]
    unfold cM
    split
    ·exact hI
    rename_i d e
    split
    ·exact hI
    rename_i to e2
    obtain⟨h1,h2,h3⟩:=habout e2
    exact hI.eT (habout e).1 h1 h2 h3
   ·rw [vV h]
    unfold fY
    split
    ·exact hI
    rename_i d e
    exact hI.dG (habout e).1
   ·rw [vW h]
    unfold fZ
    split
    ·exact hI
    rename_i t e
    split
    ·rename_i hk
     obtain⟨k,kd⟩:=t
     simp only at hk
     subst hk
     exact hI.cW (hI.us _ _ e).1 _
    exact hI
   ·rw [sN h]
    unfold bH
    split
    ·exact hI
    split
    ·exact hI
    split
    ·rename_i hm
     split
     ·rename_i ho
      split
      ·rename_i ht;exact hI.Sy hm ho ht
      exact hI
     exact hI
    exact hI
   ·rw [sO h]
    unfold kg
    split<;>exact hI
   ·rw [sP h]
    unfold gn
    split<;>exact hI
   ·rw [sQ h]
    unfold je
    split
    ·exact hI
    rename_i t e;exact hI.shut e
   ·rw [sR h]
    unfold gZ
    split
    ·exact hI
    rename_i d e
    exact hI.dV (habout e).1
   rw [sS h]
   unfold fw
   split
   ·exact hI
   rename_i d e
   split
   ·exact hI
   rename_i to e2
   obtain⟨h1,h2,h3⟩:=habout e2
   exact hI.bq (habout e).1 h1 h2 h3
  rw [sU h];exact hI
theorem Inv.cA (hI:Inv S) (c:aF):Inv (Proofs.YtidjcblbdmfalaaGreat.cA S c).1:=hI.cP _
end inv
end
section
open Go.RowKit Go.Maps bD aE
structure cO where
  at_:Int
  op:Int
  path:ByteArray
  to:ByteArray
  text:ByteArray
def slash:ByteArray:=⟨#[47]⟩
def jo (s:ByteArray):List ByteArray:=Lib.splitB slash 0 (Lib.countB s slash) s
noncomputable section
def iM (O:bT):Nat->List ByteArray->Except Int (Nat×ByteArray)
  | _,[]=>.error 170
  | d,[p]=>if (obj O d).gone=true then .error 170 else .ok (d,p)
  | d,p::q::r=>match aT p (obj O d).ah with
    | none=>.error 170
    | some t=>if t.kind=3 then .error 174 else if t.kind=1 then .error 173 else iM O t.k (q::r)
instance (ps:List ByteArray):Decidable (∀ p∈ps,bG p):=Classical.propDecidable _
def iB (O:bT) (d:Nat) (path:ByteArray):Except Int (Nat×ByteArray):=if ∀ p∈jo path,bG p then iM O d (jo path) else .error 95
def qK (S:aH) (d:Nat) (name text:ByteArray):Int×aH:=
  if ck S.X S.O S.idx d name=0 then (0,(cW (d9 S d name (aU S.X 1 420)) (aO S.X) text.data.toList).2.2) else (ck S.X S.O S.idx d name,S)
def kH (S:aH) (d:Nat) (name text:ByteArray):Int×aH:=
  match aT name (obj S.O d).ah with
  | none=>(170,S)
  | some t=>if t.kind=3 then (174,S) else if t.kind=2 then (172,S) else ((cW S t.k text.data.toList).2.1,(cW S t.k text.data.toList).2.2)
def lZ (S:aH) (top:Nat) (a:cO) (d:Nat) (name:ByteArray):Int×aH:=
  if a.op=1 then qK S d name a.text
  else if a.op=2 then fq S d name 493
  else if a.op=3 then dO S d name a.text
  else if a.op=4 then dG S d name
  else if a.op=5 then dV S d name
  else if a.op=6 then match iB S.O top a.to with
    | .error e=>(e,S)
    | .ok (to,toName)=>bq S d name to toName
  else kH S d name a.text
def cF (S:aH) (root:Int) (a:cO):Int×aH:=
  if a.op < 1\/a.op > 7 then (230,S)
  else match aE.get S.idx root with
    | none=>(141,S)
    | some t=>if t.kind=2 then
        match iB S.O t.k a.path with
        | .error e=>(e,S)
        | .ok (d,name)=>lZ S t.k a d name
      else (173,S)
end
section facts
variable {S:aH} {O:bT} {d d':Nat} {name:ByteArray} {t:Th}
theorem Hj (hI:Inv0 S):∀ (ps:List ByteArray) (d:Nat),Live S.idx ⟨d,2⟩->(∀ p∈ps,bG p)->iM S.O d ps=.ok (d',name)->Live S.idx ⟨d',2⟩/\(obj S.O d').gone=false/\bG name
  | [],d,_,_,h=>by cases h
  | [p],d,hd,hg,h=>by
    unfold iM at h
    split at h
    ·cases h
    rename_i hn
    cases h
    exact⟨hd,by simpa using hn,hg _ (List.mem_singleton.2 rfl)⟩
  | p::q::r,d,hd,hg,h=>by
    unfold iM at h
    cases e:aT p (obj S.O d).ah with
    | none=>rw [e] at h;cases h
    | some t=>
      rw [e] at h
      simp only at h
      split at h
      ·cases h
      rename_i h3
      split at h
      ·cases h
      rename_i h1
      have hl:=(hI.ent hd e).2
      have hk:t=⟨t.k,2⟩:=by
        have:=(hI.ob _ hl).2.2
        obtain⟨k,kd⟩:=t
        simp only at this h1 h3
        have:kd=2:=by omega
        rw [this]
      rw [hk] at hl
      exact Hj hI (q::r) t.k hl (fun p hp=>hg p (List.mem_cons_of_mem _ hp)) h
theorem uV {path:ByteArray} (hI:Inv0 S) (hd:Live S.idx ⟨d,2⟩) (h:iB S.O d path=.ok (d',name)):Live S.idx ⟨d',2⟩/\(obj S.O d').gone=false/\bG name:=by
  unfold iB at h
  split at h
  ·rename_i hg
   exact Hj hI _ _ hd hg h
  cases h
theorem E8 (hI:Inv S) {o:aR}:Live (ins (S.X.last+1) ⟨aO S.X,o.kind⟩ S.idx) ⟨aO S.X,o.kind⟩:=by
  unfold Live
  have h1:=oA hI.toInv0
  have hn:S.X.last+1∉keys S.idx:=by
    cases e:aE.get S.idx (S.X.last+1) with
    | none=>exact get_none.1 e
    | some t=>have:=hI.idx _ _ e;omega
  rw [r9 hn]
  simp only
  rw [h1,if_pos rfl]
theorem Inv.qK {text:ByteArray} (hI:Inv S) (hd:Live S.idx ⟨d,2⟩) (iX:(obj S.O d).gone=false) (iP:bG name):Inv (Proofs.YtidjcblbdmfalaaGreat.qK S d name text).2:=by
  unfold Proofs.YtidjcblbdmfalaaGreat.qK
  split
  ·rename_i h0
   exact (hI.Ed hd iX iP h0 (.inl rfl) ⟨by decide,by decide⟩ (.inl ⟨by decide,rfl⟩)).cW (E8 hI (o:=aU S.X 1 420)) _
  exact hI
theorem Inv.kH {text:ByteArray} (hI:Inv S) (hd:Live S.idx ⟨d,2⟩):Inv (Proofs.YtidjcblbdmfalaaGreat.kH S d name text).2:=by
  unfold Proofs.YtidjcblbdmfalaaGreat.kH
  split
  ·exact hI
  rename_i t e
  split
  ·exact hI
  split
  ·exact hI
  rename_i h3 h2
  have hl:=(hI.ent hd e).2
  have hk:t=⟨t.k,1⟩:=by
    have:=(hI.ob _ hl).2.2
    obtain⟨k,kd⟩:=t
    simp only at this h2 h3
    have:kd=1:=by omega
    rw [this]
  rw [hk] at hl
  exact hI.cW hl _
theorem Inv.lZ {top:Nat} {a:cO} (hI:Inv S) (ht:Live S.idx ⟨top,2⟩) (hd:Live S.idx ⟨d,2⟩) (iX:(obj S.O d).gone=false) (iP:bG name):Inv (Proofs.YtidjcblbdmfalaaGreat.lZ S top a d name).2:=by
  unfold Proofs.YtidjcblbdmfalaaGreat.lZ
  split
  ·exact hI.qK hd iX iP
  split
  ·exact hI.fq hd iX iP ⟨by decide,by decide⟩
  split
  ·exact hI.dO hd iX iP
  split
  ·exact hI.dG hd
  split
  ·exact hI.dV hd
  split
  ·split
   ·exact hI
   rename_i to toName e
   obtain⟨h1,h2,h3⟩:=uV hI.toInv0 ht e
   exact hI.bq hd h1 h2 h3
  exact hI.kH hd
theorem Hl {i:Int} (hI:Inv0 S) (e:aE.get S.idx i=some t) (hk:t.kind=2):Live S.idx ⟨t.k,2⟩:=by
  have:=hI.live e
  obtain⟨k,kd⟩:=t
  simp only at hk
  subst hk
  exact this
theorem Inv.cF {root:Int} {a:cO} (hI:Inv S):Inv (Proofs.YtidjcblbdmfalaaGreat.cF S root a).2:=by
  unfold Proofs.YtidjcblbdmfalaaGreat.cF
  split
  ·exact hI
  split
  ·exact hI
  rename_i t e
  split
  ·rename_i hk
   split
   ·exact hI
   rename_i d name e2
   have ht:=Hl hI.toInv0 e hk
   obtain⟨h1,h2,h3⟩:=uV hI.toInv0 ht e2
   exact hI.lZ ht h1 h2 h3
  exact hI
end facts
section err
variable {S:aH} {c:aF} {d to:Nat} {name toName text:ByteArray} {t:Th}
end err
end
section
open Go.RowKit Go.Maps bD aE
noncomputable section
structure bP where
  at_:Int
  kind:Int
def eX (f:bP):List Value:=[.int .i64 f.at_,.int .i64 f.kind]
instance:Inhabited bP:=⟨⟨0,0⟩⟩
instance:Inhabited cO:=⟨⟨0,0,⟨#[]⟩,⟨#[]⟩,⟨#[]⟩⟩⟩
def jT (fs:List bP) (i:Nat):bP:=fs.getD i default
def act (xs:List cO) (i:Nat):cO:=xs.getD i default
def FK (f:bP):Prop:=1<=f.kind/\f.kind<=3
instance (f:bP):Decidable (FK f):=inferInstanceAs (Decidable (_/\_))
def iq:List bP->Int->Int
  | [],_=>0
  | f::r,n=>if f.at_=n/\FK f then f.kind else iq r n
def bK (xs:List cO) (n:Int):List cO:=xs.filter (fun a=>decide (a.at_=n))
def fN (root:Int) (S:aH) (xs:List cO):aH:=xs.foldl (fun S a=>(cF S root a).2) S
def cY (c:aF) (e:Int):aF:=if c.op=11\/c.op=12 then ⟨c.op,c.handle,0,c.name,c.text,c.dA,c.dC,c.data,0,0,0,0,0,e,0⟩ else { c with answer:=0,code:=e }
def br (k:Int) (S:aH) (c:aF):aH×aF:=
  if k=1 then (if c.op=13 then (cA S c).1 else S,cY c 180)
  else if k=2/\(c.op=4\/c.op=5\/c.op=6\/c.op=7\/c.op=9) then (S,cY c 176)
  else if k=3/\c.op=9/\2<=c.data.length then ((cA S { c with data:=c.data.take (c.data.length / 2) }).1,{ (cA S { c with data:=c.data.take (c.data.length / 2) }).2 with dA:=c.dA,dC:=c.dC,data:=c.data })
  else cA S c
def kr (root:Int) (c:aF):aF:=if c.op=1 then { c with other:=root } else c
def gU (fs:List bP) (xs:List cO) (root:Int) (n:Nat) (S:aH) (c:aF):aH×aF:=br (iq fs n) (fN root S (bK xs n)) (kr root c)
section p
variable {S:aH} {c:aF} {fs gs:List bP} {xs ys:List cO} {root k:Int} {n:Nat} {A:Option Addr} {m:Nat}
theorem rO (f:bP) (x:Int):∀ fs:List bP,iq (fs++[f]) x=if iq fs x=0 then (if f.at_=x/\FK f then f.kind else 0) else iq fs x
  | []=>rfl
  | g::r=>by
    show (if g.at_=x/\FK g then g.kind else iq (r++[f]) x)=if (if g.at_=x/\FK g then g.kind else iq r x)=0 then _ else (if g.at_=x/\FK g then g.kind else iq r x)
    by_cases h:g.at_=x/\FK g
    ·have:¬ g.kind=0:=by have:=h.2.1;omega
     rw [if_pos h,if_pos h,if_neg this]
    rw [if_neg h,if_neg h,rO f x r]
theorem ze (a:cO) (x:Int):bK (xs++[a]) x=if a.at_=x then bK xs x++[a] else bK xs x:=by
  unfold bK
  rw [List.filter_append]
  by_cases h:a.at_=x
  ·rw [if_pos h,List.filter_cons_of_pos (by simpa using h),List.filter_nil]
  rw [if_neg h,List.filter_cons_of_neg (by simpa using h),List.filter_nil,List.append_nil]
theorem Bv (x:Int):(bK xs x).length<=xs.length:=List.length_filter_le ..
theorem I5 {x:Int} {a:cO} (h:a∈bK xs x):a∈xs:=(List.mem_filter.1 h).1
theorem I6 (a:cO):fN root S (xs++[a])=(cF (fN root S xs) root a).2:=by
  unfold fN;rw [List.foldl_append];rfl
theorem sj {i:Nat} (h:i < xs.length):xs[i]?=some (act xs i):=getD_some h
theorem yN {i:Nat} (h:i < fs.length):fs[i]?=some (jT fs i):=getD_some h
theorem I7 {i:Nat} (h:i < xs.length):fN root S (xs.take (i+1))=(cF (fN root S (xs.take i)) root (act xs i)).2:=by
  rw [List.take_add_one,sj h];exact I6 _
theorem Inv.fN (h:Inv S):∀ xs:List cO,Inv (Proofs.YtidjcblbdmfalaaGreat.fN root S xs):=fun xs=>by
  induction xs generalizing S with
  | nil=>exact h
  | cons a r ih=>exact ih h.cF
theorem Inv.br (h:Inv S):Inv (Proofs.YtidjcblbdmfalaaGreat.br k S c).1:=by
  unfold Proofs.YtidjcblbdmfalaaGreat.br
  split
  ·show Inv (if c.op=13 then _ else _)
   split
   ·exact h.cA _
   exact h
  split
  ·exact h
  split
  ·exact h.cA _
  exact h.cA _
theorem Inv.gU (h:Inv S):Inv (Proofs.YtidjcblbdmfalaaGreat.gU fs xs root n S c).1:=(h.fN _).br
def bW (A:Option Addr) (m:Nat) (c:aF):aF:={ c with dA:=A,dC:=m }
theorem QB:cP S (bW A m c)=((cP S c).1,(cP S c).2.1,bW A m (cP S c).2.2):=by
  by_cases hop:1<=c.op/\c.op<=15
  case neg=>rw [sU hop,sU (c:=bW A m c) hop]
  have hop:c.op=1\/c.op=2\/c.op=3\/c.op=4\/c.op=5\/c.op=6\/c.op=7\/c.op=8\/c.op=9\/c.op=10\/c.op=11\/c.op=12\/c.op=13\/c.op=14\/c.op=15:=by omega
  rcases hop with q|q|q|q|q|q|q|q|q|q|q|q|q|q|q
  ·rw [tV q,tV (c:=bW A m c) q];unfold jl bW;simp only;cases aE.get S.idx c.other<;>(try simp only)<;>(repeat' split)<;>rfl
  ·rw [vQ q,vQ (c:=bW A m c) q];unfold fH fK bW;simp only;split<;>(repeat' split)<;>rfl
  ·rw [vR q,vR (c:=bW A m c) q];unfold eP fK bW;simp only;split<;>(repeat' split)<;>rfl
  ·rw [tW q,tW (c:=bW A m c) q];unfold fP bW;simp only;split<;>(repeat' split)<;>rfl
  ·rw [vS q,vS (c:=bW A m c) q];unfold dY bW;simp only;split<;>(repeat' split)<;>rfl
  ·rw [vT q,vT (c:=bW A m c) q];unfold fI bW;simp only;split<;>(repeat' split)<;>rfl
  ·rw [vU q,vU (c:=bW A m c) q];unfold cM bW;simp only;split<;>(repeat' split)<;>rfl
  ·rw [vV q,vV (c:=bW A m c) q];unfold fY bW;simp only;split<;>(repeat' split)<;>rfl
  ·rw [vW q,vW (c:=bW A m c) q];unfold fZ bW;simp only;split<;>(repeat' split)<;>rfl
  ·rw [sN q,sN (c:=bW A m c) q];unfold bH bW;simp only;split<;>(repeat' split)<;>rfl
  ·rw [sO q,sO (c:=bW A m c) q];unfold kg bW;simp only;split<;>(repeat' split)<;>rfl
  ·rw [sP q,sP (c:=bW A m c) q];unfold gn fK bW;simp only;split<;>(repeat' split)<;>rfl
  ·rw [sQ q,sQ (c:=bW A m c) q];unfold je bW;simp only;split<;>(repeat' split)<;>rfl
  ·rw [sR q,sR (c:=bW A m c) q];unfold gZ bW;simp only;split<;>(repeat' split)<;>rfl
  rw [sS q,sS (c:=bW A m c) q];unfold fw bW;simp only;split<;>(repeat' split)<;>rfl
theorem MC:(cP S c).2.2.data=c.data:=by
  by_cases hop:1<=c.op/\c.op<=15
  case neg=>rw [sU hop]
  have hop:c.op=1\/c.op=2\/c.op=3\/c.op=4\/c.op=5\/c.op=6\/c.op=7\/c.op=8\/c.op=9\/c.op=10\/c.op=11\/c.op=12\/c.op=13\/c.op=14\/c.op=15:=by omega
  rcases hop with q|q|q|q|q|q|q|q|q|q|q|q|q|q|q
  ·rw [tV q];unfold jl;(repeat' split)<;>rfl
  ·rw [vQ q];unfold fH;(repeat' split)<;>rfl
  ·rw [vR q];unfold eP;(repeat' split)<;>rfl
  ·rw [tW q];unfold fP;(repeat' split)<;>rfl
  ·rw [vS q];unfold dY;(repeat' split)<;>rfl
  ·rw [vT q];unfold fI;(repeat' split)<;>rfl
  ·rw [vU q];unfold cM;(repeat' split)<;>rfl
  ·rw [vV q];unfold fY;(repeat' split)<;>rfl
  ·rw [vW q];unfold fZ;(repeat' split)<;>rfl
  ·rw [sN q];unfold bH;(repeat' split)<;>rfl
  ·rw [sO q];unfold kg mq;(repeat' split)<;>rfl
  ·rw [sP q];unfold gn mq;(repeat' split)<;>rfl
  ·rw [sQ q];unfold je;(repeat' split)<;>rfl
  ·rw [sR q];unfold gZ;(repeat' split)<;>rfl
  rw [sS q];unfold fw;(repeat' split)<;>rfl
theorem E9:cA S (bW A m c)=((cA S c).1,bW A m (cA S c).2):=by
  have h:=QB (S:=S) (A:=A) (m:=m) (c:={ c with answer:=0,code:=230 })
  unfold cA
  rw [show ({ bW A m c with answer:=0,code:=230 }:aF)=bW A m { c with answer:=0,code:=230 } from rfl,h]
  rfl
theorem ME:(cA S c).2.data=c.data:=MC (c:={ c with answer:=0,code:=230 })
theorem Fa {e:Int}:cY (bW A m c) e=bW A m (cY c e):=by
  unfold cY
  by_cases h:c.op=11\/c.op=12
  ·rw [if_pos h,if_pos (show (bW A m c).op=11\/(bW A m c).op=12 from h)];rfl
  rw [if_neg h,if_neg (show ¬ ((bW A m c).op=11\/(bW A m c).op=12) from h)];rfl
theorem Bw {e:Int}:(cY c e).data=c.data:=by
  unfold cY;split<;>rfl
theorem Gv:(br k S c).2.data=c.data:=by
  unfold br
  split
  ·exact Bw
  split
  ·exact Bw
  split
  ·rfl
  exact ME
theorem Dt:br k S (bW A m c)=((br k S c).1,bW A m (br k S c).2):=by
  unfold br
  by_cases h1:k=1
  ·rw [if_pos h1,if_pos h1]
   show (if c.op=13 then (cA S (bW A m c)).1 else S,cY (bW A m c) 180)=_
   rw [E9,Fa]
  rw [if_neg h1,if_neg h1]
  by_cases h2:k=2/\(c.op=4\/c.op=5\/c.op=6\/c.op=7\/c.op=9)
  ·rw [if_pos h2,if_pos (show k=2/\((bW A m c).op=4\/(bW A m c).op=5\/(bW A m c).op=6\/(bW A m c).op=7\/(bW A m c).op=9) from h2),Fa]
  rw [if_neg h2,if_neg (show ¬ (k=2/\((bW A m c).op=4\/(bW A m c).op=5\/(bW A m c).op=6\/(bW A m c).op=7\/(bW A m c).op=9)) from h2)]
  by_cases h3:k=3/\c.op=9/\2<=c.data.length
  ·rw [if_pos h3,if_pos (show k=3/\(bW A m c).op=9/\2<=(bW A m c).data.length from h3)]
   show ((cA S (bW A m { c with data:=c.data.take (c.data.length / 2) })).1,{ (cA S (bW A m { c with data:=c.data.take (c.data.length / 2) })).2 with dA:=A,dC:=m,data:=c.data })=_
   rw [E9];rfl
  rw [if_neg h3,if_neg (show ¬ (k=3/\(bW A m c).op=9/\2<=(bW A m c).data.length) from h3)]
  exact E9
theorem MF:kr root (bW A m c)=bW A m (kr root c):=by
  unfold kr
  by_cases h:c.op=1
  ·rw [if_pos h,if_pos (show (bW A m c).op=1 from h)];rfl
  rw [if_neg h,if_neg (show ¬ (bW A m c).op=1 from h)]
theorem KD:gU fs xs root n S (bW A m c)=((gU fs xs root n S c).1,bW A m (gU fs xs root n S c).2):=by
  unfold gU
  rw [MF,Dt]
theorem I8:(kr root c).data=c.data:=by
  unfold kr;split<;>rfl
theorem Gw:(gU fs xs root n S c).2.data=c.data:=Gv.trans I8
theorem Gx {kJ:Int} (h:kJ=if c.op=1 then root else c.other):kr root c={ c with other:=kJ }:=by
  unfold kr
  by_cases e:c.op=1
  ·rw [if_pos e] at h ⊢;rw [h]
  rw [if_neg e] at h ⊢;rw [h]
end p
end
end
section
open Go.RowKit Go.WideShapes Go.ChangeShapes Go.ChangeAt Go.Deep
def bS {α:Type} (f:α->List Value) (xs:List α):List Value:=dK (fun _ x=>f x) 0 xs
theorem KE {α:Type} {f:α->List Value} {s:Nat} (hf:∀ a,(f a).length=s) {xs:List α} {i j:Nat} {a:α} (h:xs[i]?=some a) (hj:j < s):(bS f xs)[i * s+j]?=(f a)[j]?:=qw (f:=fun _ x=>f x) (s:=s) (fun _ a=>hf a) xs 0 i j _ h hj
def fT (a:cO):List Value:=[.int .i64 a.at_,.int .i64 a.op,.string a.path,.string a.to,.string a.text]
structure xQ (a:cO) (b:Nat):Prop where
  aw:(Lit.int .i64 a.at_).wf=true
  path:a.path.size<=b
  to:a.to.size<=b
  text:a.text.size<=b
theorem xQ.wide {a:cO} {b b':Nat} (h:xQ a b) (g:b<=b'):xQ a b':=⟨h.aw,Nat.le_trans h.path g,Nat.le_trans h.to g,Nat.le_trans h.text g⟩
structure rP (β:Bs) (c:aF) (b:Nat):Prop where
  data:bA β c.dA c.data
  len:c.data.length<=b
  name:c.name.size<=b
  text:c.text.size<=b
  hw:(Lit.int .i64 c.handle).wf=true
  ow:(Lit.int .i64 c.other).wf=true
theorem rP.le {β β':Bs} {c:aF} {b:Nat} (h:rP β c b) (g:β.le β'):rP β' c b:=⟨h.data.le g,h.len,h.name,h.text,h.hw,h.ow⟩
theorem rP.wide {β:Bs} {c:aF} {b b':Nat} (h:rP β c b) (g:b<=b'):rP β c b':=⟨h.data,Nat.le_trans h.len g,Nat.le_trans h.name g,Nat.le_trans h.text g,h.hw,h.ow⟩
instance:Inhabited aF:=⟨⟨0,0,0,⟨#[]⟩,⟨#[]⟩,none,0,[],0,0,0,0,0,0,0⟩⟩
def fA (xs:List aF) (i:Nat):aF:=xs.getD i default
structure ja (xs:List cO) (b:Nat):Prop where
  len:xs.length<=b
  q:∀ a∈xs,xQ a b
structure ig (xs:List bP) (b:Nat):Prop where
  len:xs.length<=b
  q:∀ a∈xs,(Lit.int .i64 a.at_).wf=true
theorem ja.wide {xs:List cO} {b b':Nat} (h:ja xs b) (g:b<=b'):ja xs b':=⟨Nat.le_trans h.len g,fun a ha=>(h.q a ha).wide g⟩
theorem ig.wide {xs:List bP} {b b':Nat} (h:ig xs b) (g:b<=b'):ig xs b':=⟨Nat.le_trans h.len g,h.q⟩
structure ez (β:Bs) (A:Option Addr) (xs:List aF):Prop where
  row:cE β A (bS bN xs)
  q:∀ i,i < xs.length->rP β (fA xs i) 1048576
section s
variable {β β':Bs} {A:Option Addr} {i j:Nat} {v:Value}
theorem Ho {α:Type} {f:α->List Value} {s:Nat} {xs:List α} {a:α} (h:cE β A (bS f xs)) (hf:∀ a,(f a).length=s) (hi:xs[i]?=some a) (hv:(f a)[j]?=some v):A=some ⟨ar A,aq A,none⟩/\Rd β ⟨ar A,aq A+i * s+j,none⟩ v:=by
  have hj:j < s:=by rw [← hf a];exact bp hv
  have:=h (i * s+j) v ((KE hf hi hj).trans hv)
  rw [← Nat.add_assoc] at this
  exact this
theorem ez.le {xs:List aF} (h:ez β A xs) (g:β.le β'):ez β' A xs:=⟨h.row.le g,fun i hi=>(h.q i hi).le g⟩
theorem Hq {xs:List aF} (h:i < xs.length):xs[i]?=some (fA xs i):=getD_some h
theorem ez.hd {xs:List aF} (h:ez β A xs) (hi:i < xs.length):A=some ⟨ar A,aq A,none⟩:=(Ho (s:=13) (j:=0) h.row (fun _=>rfl) (Hq hi) rfl).1
theorem ez.rd {xs:List aF} (h:ez β A xs) (hi:i < xs.length) (hv:(bN (fA xs i))[j]?=some v):Rd β ⟨ar A,aq A+i * 13+j,none⟩ v:=(Ho h.row (fun _=>rfl) (Hq hi) hv).2
theorem Oa {xs:List cO} (h:cE β A (bS fT xs)) (hi:i < xs.length):A=some ⟨ar A,aq A,none⟩:=(Ho (s:=5) (j:=0) h (fun _=>rfl) (sj hi) rfl).1
theorem qt {xs:List cO} (h:cE β A (bS fT xs)) (hi:i < xs.length) (hv:(fT (act xs i))[j]?=some v):Rd β ⟨ar A,aq A+i * 5+j,none⟩ v:=(Ho h (fun _=>rfl) (sj hi) hv).2
theorem SB {xs:List bP} (h:cE β A (bS eX xs)) (hi:i < xs.length):A=some ⟨ar A,aq A,none⟩:=(Ho (s:=2) (j:=0) h (fun _=>rfl) (yN hi) rfl).1
theorem Ob {xs:List bP} (h:cE β A (bS eX xs)) (hi:i < xs.length) (hv:(eX (jT xs i))[j]?=some v):Rd β ⟨ar A,aq A+i * 2+j,none⟩ v:=(Ho h (fun _=>rfl) (yN hi) hv).2
theorem ig.at {xs:List bP} {b:Nat} (h:ig xs b) (hi:i < xs.length):(Lit.int .i64 (jT xs i).at_).wf=true:=h.q _ (List.mem_of_getElem? (yN hi))
theorem ja.at {xs:List cO} {b:Nat} (h:ja xs b) (hi:i < xs.length):xQ (act xs i) b:=h.q _ (List.mem_of_getElem? (sj hi))
end s
section a
variable {H:Type} {enc:TypeId×Value->H} {W:World} {sp:Nat->Bool}
theorem iT {t:TypeId} {n:Nat} {c:Value} {x:DataW H×List MemPlace} (ht:Tryz.prog.underlying t=some (.int .i64)) (h:DataW.trod enc Tryz.prog W 0 sp true n t [c]=some x):∃ z,c=.int .i64 z/\(Lit.int .i64 z).wf=true:=by
  obtain⟨z,h1,_,h3⟩:=DataW.trod_int ht h
  cases h1
  exact⟨z,rfl,h3⟩
theorem MG {n:Nat} {cs:List Value} {x:DataW H×List MemPlace} (h:DataW.trod enc Tryz.prog W 0 sp true n 41 cs=some x):∃ a:cO,cs=fT a/\xQ a (Rows.uptoBulk x.1):=by
  obtain⟨vs,m,_,hx,hl,hvl,hv⟩:=DataW.trod_struct Tryz.underlying41 h
  have hC:Tryz.prog.cellsOf 41=5:=by kernel_rfl
  rw [hC] at hl
  match cs,hl with
  | [c0,c1,c2,c3,c4],_=>
    obtain⟨a0,_⟩:=aW (hv 0 _ rfl) (by rw [hvl];decide)
    obtain⟨a1,_⟩:=aW (hv 1 _ rfl) (by rw [hvl];decide)
    obtain⟨a2,e2⟩:=aW (hv 2 _ rfl) (by rw [hvl];decide)
    obtain⟨a3,e3⟩:=aW (hv 3 _ rfl) (by rw [hvl];decide)
    obtain⟨a4,e4⟩:=aW (hv 4 _ rfl) (by rw [hvl];decide)
    obtain⟨z0,rfl,w0⟩:=iT (c:=c0) Tryz.underlying3 a0
    obtain⟨z1,rfl,_⟩:=iT (c:=c1) Tryz.underlying3 a1
    obtain⟨s2,rfl,l2⟩:=nR (c:=c2) Tryz.underlying9 a2
    obtain⟨s3,rfl,l3⟩:=nR (c:=c3) Tryz.underlying9 a3
    obtain⟨s4,rfl,l4⟩:=nR (c:=c4) Tryz.underlying9 a4
    have hb:Rows.uptoBulk x.1=Rows.uptoBulk (.agg (vs.map (·.1))):=by rw [hx]
    exact⟨⟨z0,z1,s2,s3,s4⟩,rfl,⟨w0,by show s2.size<=_;omega,by show s3.size<=_;omega,by show s4.size<=_;omega⟩⟩
theorem I9 {n:Nat} {cs:List Value} {x:DataW H×List MemPlace} (h:DataW.trod enc Tryz.prog W 0 sp true n 39 cs=some x):∃ a:bP,cs=eX a/\(Lit.int .i64 a.at_).wf=true:=by
  obtain⟨vs,m,_,hx,hl,hvl,hv⟩:=DataW.trod_struct Tryz.underlying39 h
  have hC:Tryz.prog.cellsOf 39=2:=by kernel_rfl
  rw [hC] at hl
  match cs,hl with
  | [c0,c1],_=>
    obtain⟨a0,_⟩:=aW (hv 0 _ rfl) (by rw [hvl];decide)
    obtain⟨a1,_⟩:=aW (hv 1 _ rfl) (by rw [hvl];decide)
    obtain⟨z0,rfl,w0⟩:=iT (c:=c0) Tryz.underlying3 a0
    obtain⟨z1,rfl,_⟩:=iT (c:=c1) Tryz.underlying3 a1
    exact⟨⟨z0,z1⟩,rfl,w0⟩
theorem KF {n:Nat} {cs:List Value} {x:DataW H×List MemPlace} (h:DataW.trod enc Tryz.prog W 0 sp true n 48 cs=some x):∃ c:aF,cs=bN c/\rP (B0 W) c (Rows.uptoBulk x.1):=by
  obtain⟨us,_,_,QC,hl,pu,hu⟩:=DataW.trod_struct Tryz.underlying48 h
  have hC:Tryz.prog.cellsOf 48=13:=by kernel_rfl
  rw [hC] at hl
  match cs,hl with
  | [c0,c1,c2,c3,c4,c5,c6,c7,c8,c9,c10,c11,Vl],_=>
    obtain⟨h0,_⟩:=aW (hu 0 _ rfl) (by rw [pu];decide)
    obtain⟨h1,_⟩:=aW (hu 1 _ rfl) (by rw [pu];decide)
    obtain⟨h2,_⟩:=aW (hu 2 _ rfl) (by rw [pu];decide)
    obtain⟨h3,b3⟩:=aW (hu 3 _ rfl) (by rw [pu];decide)
    obtain⟨h4,b4⟩:=aW (hu 4 _ rfl) (by rw [pu];decide)
    obtain⟨h5,b5⟩:=aW (hu 5 _ rfl) (by rw [pu];decide)
    obtain⟨h6,_⟩:=aW (hu 6 _ rfl) (by rw [pu];decide)
    obtain⟨h7,_⟩:=aW (hu 7 _ rfl) (by rw [pu];decide)
    obtain⟨h8,_⟩:=aW (hu 8 _ rfl) (by rw [pu];decide)
    obtain⟨h9,_⟩:=aW (hu 9 _ rfl) (by rw [pu];decide)
    obtain⟨h10,_⟩:=aW (hu 10 _ rfl) (by rw [pu];decide)
    obtain⟨h11,_⟩:=aW (hu 11 _ rfl) (by rw [pu];decide)
    obtain⟨ts,_,_,_,_,htl,ht⟩:=DataW.trod_struct Tryz.underlying26 h9
    obtain⟨t0,_⟩:=aW (ht 0 _ rfl) (by rw [htl];decide)
    obtain⟨t1,_⟩:=aW (ht 1 _ rfl) (by rw [htl];decide)
    obtain⟨z0,rfl,w0⟩:=iT (c:=c0) Tryz.underlying3 h0
    obtain⟨z1,rfl,w1⟩:=iT (c:=c1) Tryz.underlying3 h1
    obtain⟨z2,rfl,w2⟩:=iT (c:=c2) Tryz.underlying3 h2
    obtain⟨s3,rfl,l3⟩:=nR (c:=c3) Tryz.underlying9 h3
    obtain⟨s4,rfl,l4⟩:=nR (c:=c4) Tryz.underlying9 h4
    obtain⟨A5,p5,d5,rfl,q5,l5⟩:=AF (c:=c5) h5
    obtain⟨z6,rfl,w6⟩:=iT (c:=c6) Tryz.underlying3 h6
    obtain⟨z7,rfl,w7⟩:=iT (c:=c7) Tryz.underlying3 h7
    obtain⟨z8,rfl,w8⟩:=iT (c:=c8) Tryz.underlying3 h8
    obtain⟨z9,rfl,w9⟩:=iT (c:=c9) Tryz.underlying3 t0
    obtain⟨Vm,rfl,WR⟩:=iT (c:=c10) Tryz.underlying3 t1
    obtain⟨Vn,rfl,WS⟩:=iT (c:=c11) Tryz.underlying43 h10
    obtain⟨z12,rfl,WT⟩:=iT (c:=Vl) Tryz.underlying3 h11
    have hb:Rows.uptoBulk x.1=Rows.uptoBulk (.agg (us.map (·.1))):=by rw [QC]
    exact⟨⟨z0,z1,z2,s3,s4,A5,p5,d5,z6,z7,z8,z9,Vm,Vn,z12⟩,rfl,⟨q5,by show d5.length<=_;omega,by show s3.size<=_;omega,by show s4.size<=_;omega,w1,w2⟩⟩
theorem Ja {n:Nat} {c:Value} {x:DataW H×List MemPlace} (h:DataW.trod enc Tryz.prog W 0 sp true n 30 [c]=some x):∃ A cp,∃ xs:List cO,c=.slice A xs.length cp/\cE (B0 W) A (bS fT xs)/\ja xs (Rows.uptoBulk x.1)/\xs.length<=cp:=by
  obtain⟨A,cp,xs,D,h1,Fb,_,h2,h4,h3⟩:=pU (α:=cO) (f:=fT) (Q:=fun a d=>xQ a (Rows.uptoBulk d)) Tryz.underlying30 (size:=5) (by kernel_rfl) (by decide) (fun n cs x h=>MG h) (fun _=>rfl) h
  cases h1
  have h5:=pR ((List.range xs.length).map D)
  refine⟨A,cp,xs,rfl,h2,⟨by simp at h5;omega,fun a ha=>?_⟩,Fb⟩
  obtain⟨i,hi,e⟩:=List.mem_iff_getElem.1 ha
  have h6:=h4 i hi
  rw [show xs.getD i default=a by rw [← e];simp [hi]] at h6
  exact h6.wide (by have:=vz (D:=D) hi;omega)
theorem Fc {n:Nat} {c:Value} {x:DataW H×List MemPlace} (h:DataW.trod enc Tryz.prog W 0 sp true n 29 [c]=some x):∃ A cp,∃ xs:List bP,c=.slice A xs.length cp/\cE (B0 W) A (bS eX xs)/\ig xs (Rows.uptoBulk x.1)/\xs.length<=cp:=by
  obtain⟨A,cp,xs,D,h1,Fb,_,h2,h4,h3⟩:=pU (α:=bP) (f:=eX) (Q:=fun a _=>(Lit.int .i64 a.at_).wf=true) Tryz.underlying29 (size:=2) (by kernel_rfl) (by decide) (fun n cs x h=>I9 h) (fun _=>rfl) h
  cases h1
  have h5:=pR ((List.range xs.length).map D)
  refine⟨A,cp,xs,rfl,h2,⟨by simp at h5;omega,fun a ha=>?_⟩,Fb⟩
  obtain⟨i,hi,e⟩:=List.mem_iff_getElem.1 ha
  have h6:=h4 i hi
  rw [show xs.getD i default=a by rw [← e];simp [hi]] at h6
  exact h6
theorem open_calls {v:Value} {d:DataW H} {ps:List MemPlace} {r:Go.Reach} {b0:Nat} (hval:Value.okWide Tryz.prog W r b0 35 v) (h:DataW.Trod enc Tryz.prog W 0 sp true 35 v d ps) (hb:Rows.uptoBulk d<=1048576) :
    ∃ A cp,∃ xs:List aF,v=.slice A xs.length cp/\ez (B0 W) A xs/\xs.length<=1048576/\xs.length<=cp:=by
  obtain⟨a,n,c,rfl⟩:=okWide_slice Tryz.underlying35 hval
  obtain⟨fuel,h⟩:=h
  obtain⟨A,cp,xs,D,h1,Fb,_,h2,h4,h3⟩:=pU (α:=aF) (f:=bN) (Q:=fun a d=>rP (B0 W) a (Rows.uptoBulk d)) Tryz.underlying35 (size:=13) (by kernel_rfl) (by decide) (fun n cs x h=>KF h) (fun _=>rfl) h
  cases h1
  have h5:=pR ((List.range xs.length).map D)
  have h3:Rows.uptoBulkAll ((List.range xs.length).map D)+1<=Rows.uptoBulk d:=h3
  refine⟨a,c,xs,rfl,⟨h2,fun i hi=>(h4 i hi).wide ?_⟩,by simp at h5;omega,Fb⟩
  have h7:=vz (D:=D) hi
  omega
def CD (A:Option Addr) (n cp:Nat) (root:Int) (X:FM) (Af:Option Addr) (nf cf:Nat) (Aa:Option Addr) (na ca:Nat):Value:=.agg #[.slice A n cp,.int .i64 root,.int .i64 X.cN,.int .i64 X.cB,.int .i64 X.cH,.int .i64 X.cS,.int .i64 X.cZ,.slice Af nf cf,.slice Aa na ca]
theorem open_wstart {v:Value} {d:DataW H} {ps:List MemPlace} {r:Go.Reach} {b0:Nat} (hval:Value.okWide Tryz.prog W r b0 34 v) (h:DataW.Trod enc Tryz.prog W 0 sp true 34 v d ps) :
    ∃ A cp,∃ ns:List aB,∃ L:Lay,∃ root:Int,∃ X:FM,∃ Af cf,∃ fs:List bP,∃ Aa ca,∃ xs:List cO,v=CD A ns.length cp root X Af fs.length cf Aa xs.length ca/\au (B0 W) A ns L/\eV ns (Rows.uptoBulk d)/\Uo X/\(Lit.int .i64 root).wf=true ∧
      cE (B0 W) Af (bS eX fs)/\ig fs (Rows.uptoBulk d)/\fs.length<=cf/\cE (B0 W) Aa (bS fT xs)/\ja xs (Rows.uptoBulk d)/\xs.length<=ca:=by
  obtain⟨cs,rfl,hcs⟩:=okWide_struct Tryz.underlying34 hval
  obtain⟨fuel,h⟩:=h
  obtain⟨ys,m,_,hx,hl,pq,hf⟩:=DataW.trod_struct Tryz.underlying34 h
  have hC:Tryz.prog.cellsOf 34=9:=by kernel_rfl
  rw [hC] at hcs
  obtain⟨cs⟩:=cs
  match cs,hcs with
  | [c0,c1,c2,c3,c4,c5,c6,c7,c8],_=>
    obtain⟨h0,b0⟩:=aW (hf 0 _ rfl) (by rw [pq];decide)
    obtain⟨hr,_⟩:=aW (hf 1 _ rfl) (by rw [pq];decide)
    obtain⟨h1,_⟩:=aW (hf 2 _ rfl) (by rw [pq];decide)
    obtain⟨h3,b3⟩:=aW (hf 3 _ rfl) (by rw [pq];decide)
    obtain⟨us,_,_,QC,_,pu,hu⟩:=DataW.trod_struct Tryz.underlying24 h0
    obtain⟨g0,e0⟩:=aW (hu 0 _ rfl) (by rw [pu];decide)
    obtain⟨A,cp,ns,L,rfl,hG,hB⟩:=Im (c:=c0) g0
    obtain⟨vs,_,_,_,_,hvl,hv⟩:=DataW.trod_struct Tryz.underlying28 h1
    obtain⟨k0,_⟩:=aW (hv 0 _ rfl) (by rw [hvl];decide)
    obtain⟨k1,_⟩:=aW (hv 1 _ rfl) (by rw [hvl];decide)
    obtain⟨k2,_⟩:=aW (hv 2 _ rfl) (by rw [hvl];decide)
    obtain⟨k3,_⟩:=aW (hv 3 _ rfl) (by rw [hvl];decide)
    obtain⟨ts,_,_,_,_,htl,ht⟩:=DataW.trod_struct Tryz.underlying26 k3
    obtain⟨t0,_⟩:=aW (ht 0 _ rfl) (by rw [htl];decide)
    obtain⟨t1,_⟩:=aW (ht 1 _ rfl) (by rw [htl];decide)
    obtain⟨zr,rfl,wr⟩:=iT (c:=c1) Tryz.underlying3 hr
    obtain⟨z0,rfl,w0⟩:=iQ (c:=c2) Tryz.underlying3 k0
    obtain⟨z1,rfl,w1⟩:=iQ (c:=c3) Tryz.underlying3 k1
    obtain⟨z2,rfl,w2⟩:=iQ (c:=c4) Tryz.underlying3 k2
    obtain⟨z3,rfl,w3⟩:=iQ (c:=c5) Tryz.underlying3 t0
    obtain⟨z4,rfl,w4⟩:=iQ (c:=c6) Tryz.underlying3 t1
    obtain⟨ws,_,_,hwx,_,hwl,hw⟩:=DataW.trod_struct Tryz.underlying32 h3
    obtain⟨q0,d0⟩:=aW (hw 0 _ rfl) (by rw [hwl];decide)
    obtain⟨q1,d1⟩:=aW (hw 1 _ rfl) (by rw [hwl];decide)
    obtain⟨Af,cf,fs,rfl,hF,Tc,Vo⟩:=Fc (c:=c7) q0
    obtain⟨Aa,ca,xs,rfl,hA,Td,Vp⟩:=Ja (c:=c8) q1
    cases hx
    rw [QC] at b0
    rw [hwx] at b3
    exact⟨A,cp,ns,L,zr,⟨z0,z1,z2,z3,z4,0,0,0⟩,Af,cf,fs,Aa,ca,xs,rfl,hG,hB.wide (Nat.le_trans e0 b0),⟨w0,w1,w2,w3,w4⟩,wr,hF,⟨Nat.le_trans Tc.len (Nat.le_trans d0 b3),Tc.q⟩,Vo,hA,⟨Nat.le_trans Td.len (Nat.le_trans d1 b3),fun a ha=>(Td.q a ha).wide (Nat.le_trans d1 b3)⟩,Vp⟩
end a
end
end Go.Proofs.YtidjcblbdmfalaaGreat
section
namespace Go.Proofs
open Go.Shelf
def Tryz.keysS_ren:Go.Shelf.Ren:=⟨fun|7=>69|10=>109|n=>n,fun|23=>136|26=>9|3=>124|28=>157|0=>0|27=>156|33=>203|4=>4|n=>n,fun|n=>n⟩
theorem Tryz.keysS:Go.Proofs.SlLaysZ.n7 Tryz.prog Tryz.keysS_ren:={
  mixed:=by kernel_rfl
  f7:=⟨Tryz.f69.name,by decide,Tryz.func69.trans (congrArg some (by kernel_rfl))⟩
  f10:=⟨Tryz.f109.name,by decide,Tryz.func109.trans (congrArg some (by kernel_rfl))⟩
  t0:=Tryz.underlying0
  a0:=Tryz.isAgg0
  z0:=Tryz.sizeOf0
  v0:=Tryz.zeroValue0
  t4:=Tryz.underlying4
  a4:=Tryz.isAgg4
  z4:=Tryz.sizeOf4
  v4:=Tryz.zeroValue4
  t23:=Tryz.underlying136
  a23:=Tryz.isAgg136
  z23:=Tryz.sizeOf136
  v23:=Tryz.zeroValue136
  t26:=Tryz.underlying9
  a26:=Tryz.isAgg9
  z26:=Tryz.sizeOf9
  v26:=Tryz.zeroValue9
  t27:=Tryz.underlying156
  a27:=Tryz.isAgg156
  z27:=Tryz.sizeOf156
  v27:=Tryz.zeroValue156
  t28:=Tryz.underlying157
  a28:=Tryz.isAgg157
  z28:=Tryz.sizeOf157
  v28:=Tryz.zeroValue157
  t33:=Tryz.underlying203
  a33:=Tryz.isAgg203
  z33:=Tryz.sizeOf203
  v33:=Tryz.zeroValue203 }
def Tryz.sortedS_ren:Go.Shelf.Ren:=⟨fun|6=>68|8=>107|9=>108|11=>142|13=>141|12=>143|23=>180|24=>181|14=>182|15=>183|16=>184|17=>185|18=>186|19=>187|20=>188|21=>189|22=>190|25=>211|26=>206|27=>207|28=>212|29=>213|30=>214|31=>223|n=>n,fun|26=>9|28=>157|24=>154|0=>0|3=>3|37=>234|48=>266|50=>268|4=>4|40=>260|39=>259|45=>251|5=>5|9=>9|51=>286|55=>290|57=>299|58=>300|33=>203|n=>n,fun|n=>n⟩
theorem Tryz.sortedS:Go.Proofs.SlLaysZ.n6 Tryz.prog Tryz.sortedS_ren:={
  mixed:=by kernel_rfl
  f6:=⟨Tryz.f68.name,by decide,Tryz.func68.trans (congrArg some (by kernel_rfl))⟩
  f8:=⟨Tryz.f107.name,by decide,Tryz.func107.trans (congrArg some (by kernel_rfl))⟩
  f11:=⟨Tryz.f142.name,by decide,Tryz.func142.trans (congrArg some (by kernel_rfl))⟩
  t0:=Tryz.underlying0
  a0:=Tryz.isAgg0
  z0:=Tryz.sizeOf0
  v0:=Tryz.zeroValue0
  t24:=Tryz.underlying154
  a24:=Tryz.isAgg154
  z24:=Tryz.sizeOf154
  v24:=Tryz.zeroValue154
  t26:=Tryz.underlying9
  a26:=Tryz.isAgg9
  z26:=Tryz.sizeOf9
  v26:=Tryz.zeroValue9
  t28:=Tryz.underlying157
  a28:=Tryz.isAgg157
  z28:=Tryz.sizeOf157
  v28:=Tryz.zeroValue157
  i26:=by kernel_rfl }
def Tryz.sortS_ren:Go.Shelf.Ren:=⟨fun|6=>108|8=>141|9=>143|19=>180|20=>181|21=>182|22=>183|23=>184|24=>185|25=>186|26=>187|27=>188|28=>189|29=>190|36=>211|31=>206|32=>207|37=>212|38=>213|39=>214|41=>223|n=>n,fun|27=>154|29=>9|3=>3|32=>234|26=>154|0=>0|44=>266|46=>268|4=>4|36=>260|35=>259|41=>251|5=>5|9=>9|53=>286|57=>290|63=>299|64=>300|n=>n,fun|n=>n⟩
theorem Tryz.sortS:Go.Proofs.SlLaysM.n6 Tryz.prog Tryz.sortS_ren:={
  mixed:=by kernel_rfl
  f6:=⟨Tryz.f108.name,by decide,Tryz.func108.trans (congrArg some (by kernel_rfl))⟩
  f8:=Tryz.func141.trans (congrArg some (by kernel_rfl))
  f9:=⟨Tryz.f143.name,by decide,Tryz.func143.trans (congrArg some (by kernel_rfl))⟩
  f19:=Tryz.func180.trans (congrArg some (by kernel_rfl))
  f20:=Tryz.func181.trans (congrArg some (by kernel_rfl))
  f21:=⟨Tryz.f182.name,by decide,Tryz.func182.trans (congrArg some (by kernel_rfl))⟩
  f22:=⟨Tryz.f183.name,by decide,Tryz.func183.trans (congrArg some (by kernel_rfl))⟩
  f23:=⟨Tryz.f184.name,by decide,Tryz.func184.trans (congrArg some (by kernel_rfl))⟩
  f24:=⟨Tryz.f185.name,by decide,Tryz.func185.trans (congrArg some (by kernel_rfl))⟩
  f25:=⟨Tryz.f186.name,by decide,Tryz.func186.trans (congrArg some (by kernel_rfl))⟩
  f26:=⟨Tryz.f187.name,by decide,Tryz.func187.trans (congrArg some (by kernel_rfl))⟩
  f27:=⟨Tryz.f188.name,by decide,Tryz.func188.trans (congrArg some (by kernel_rfl))⟩
  f28:=⟨Tryz.f189.name,by decide,Tryz.func189.trans (congrArg some (by kernel_rfl))⟩
  f29:=⟨Tryz.f190.name,by decide,Tryz.func190.trans (congrArg some (by kernel_rfl))⟩
  f31:=Tryz.func206.trans (congrArg some (by kernel_rfl))
  f32:=Tryz.func207.trans (congrArg some (by kernel_rfl))
  f36:=⟨Tryz.f211.name,by decide,Tryz.func211.trans (congrArg some (by kernel_rfl))⟩
  f37:=⟨Tryz.f212.name,by decide,Tryz.func212.trans (congrArg some (by kernel_rfl))⟩
  f38:=⟨Tryz.f213.name,by decide,Tryz.func213.trans (congrArg some (by kernel_rfl))⟩
  f39:=⟨Tryz.f214.name,by decide,Tryz.func214.trans (congrArg some (by kernel_rfl))⟩
  f41:=⟨Tryz.f223.name,by decide,Tryz.func223.trans (congrArg some (by kernel_rfl))⟩
  t0:=Tryz.underlying0
  a0:=Tryz.isAgg0
  z0:=Tryz.sizeOf0
  v0:=Tryz.zeroValue0
  t3:=Tryz.underlying3
  a3:=Tryz.isAgg3
  z3:=Tryz.sizeOf3
  v3:=Tryz.zeroValue3
  t4:=Tryz.underlying4
  a4:=Tryz.isAgg4
  z4:=Tryz.sizeOf4
  v4:=Tryz.zeroValue4
  t5:=Tryz.underlying5
  a5:=Tryz.isAgg5
  z5:=Tryz.sizeOf5
  v5:=Tryz.zeroValue5
  t9:=Tryz.underlying9
  a9:=Tryz.isAgg9
  z9:=Tryz.sizeOf9
  v9:=Tryz.zeroValue9
  t26:=Tryz.underlying154
  a26:=Tryz.isAgg154
  z26:=Tryz.sizeOf154
  v26:=Tryz.zeroValue154
  t27:=Tryz.underlying154
  a27:=Tryz.isAgg154
  z27:=Tryz.sizeOf154
  v27:=Tryz.zeroValue154
  t29:=Tryz.underlying9
  a29:=Tryz.isAgg9
  z29:=Tryz.sizeOf9
  v29:=Tryz.zeroValue9
  t32:=Tryz.underlying234
  a32:=Tryz.isAgg234
  z32:=Tryz.sizeOf234
  v32:=Tryz.zeroValue234
  t35:=Tryz.underlying259
  a35:=Tryz.isAgg259
  z35:=Tryz.sizeOf259
  v35:=Tryz.zeroValue259
  t36:=Tryz.underlying260
  a36:=Tryz.isAgg260
  z36:=Tryz.sizeOf260
  v36:=Tryz.zeroValue260
  t41:=Tryz.underlying251
  a41:=Tryz.isAgg251
  z41:=Tryz.sizeOf251
  v41:=Tryz.zeroValue251
  t44:=Tryz.underlying266
  a44:=Tryz.isAgg266
  z44:=Tryz.sizeOf266
  v44:=Tryz.zeroValue266
  t46:=Tryz.underlying268
  a46:=Tryz.isAgg268
  z46:=Tryz.sizeOf268
  v46:=Tryz.zeroValue268
  t53:=Tryz.underlying286
  a53:=Tryz.isAgg286
  z53:=Tryz.sizeOf286
  v53:=Tryz.zeroValue286
  t57:=Tryz.underlying290
  a57:=Tryz.isAgg290
  z57:=Tryz.sizeOf290
  v57:=Tryz.zeroValue290
  t63:=Tryz.underlying299
  a63:=Tryz.isAgg299
  z63:=Tryz.sizeOf299
  v63:=Tryz.zeroValue299
  t64:=Tryz.underlying300
  a64:=Tryz.isAgg300
  z64:=Tryz.sizeOf300
  v64:=Tryz.zeroValue300 }
end Go.Proofs
end
namespace Go.Proofs.YtidjcblbdmfalaaGreat
section
open Go.RowKit Go.Maps Go.Sort Go.Shelf
theorem QD (m:Nat):AnyZ.SortsIn Tryz.prog Tryz.sortedS_ren Fence.wide m:=
  ⟨fun blk off cap ss W hH hblk hsz=>callsIn_wide.2 (AnyM.slices_Sort_string Tryz.sortS blk off cap ss W hH hblk hsz),
   fun p cap W=>callsIn_wide.2 (AnyM.slices_Sort_string_none Tryz.sortS p cap W)⟩
def CG (bk:Nat):Value:=.func (.func 109) #[] #[.pointer (some ⟨bk,0,none⟩)]
theorem MH {β:Bs} (mb:Option Nat):Spec Tryz.prog β 69 #[.map mb] [] (fun v l=>∃ bk,v=CG bk/\l=[.blk bk [.map mb] 136]):=
  Spec.Ar fun W _=>by
    have h:CallsIn Fence.wide 5 Tryz.prog 69 #[.map mb] W fun e w'=>e=.returned (CG W.heap.size)/\w'=W.alloc (.cells #[.map mb] 136):=AnyZ.keys_in Tryz.keysS Fence.wide 5 trivial rfl mb W
    refine ((callsIn_wide (n:=5)).1 h).mono ?_
    rintro e w' ⟨rfl,rfl⟩
    refine⟨_,_,rfl,⟨W.heap.size,rfl,rfl⟩,(Keeps.refl _ _).alloc _,fun k=>k=W.heap.size,⟨?_,fun k=>Iff.rfl⟩,fun k hk=>Nat.le_of_eq hk.symm⟩
    show (W.heap.push _)[W.heap.size]?=_
    simp
def qL (es:fF Th):List Value:=es.map (fun e=>.string e.1)
theorem Gy {es:fF Th} (h:jQ es):(es.map (fun e=>e.1.data.toList)).Pairwise (· < ·):=by
  refine List.pairwise_map.2 (h.imp (fun {a b} hab=>?_))
  unfold mo at hab
  have h1:¬ Op.bytesLess b.1.toList a.1.toList=true:=fun e=>hab (by rw [e];rfl)
  have h2:¬ b.1.toList=a.1.toList:=fun e=>hab (by rw [e];simp)
  rw [bytesLess_eq,Lib.toList_data,Lib.toList_data] at h1
  rw [Lib.toList_data,Lib.toList_data] at h2
  by_cases e:a.1.data.toList < b.1.data.toList
  ·exact e
  exfalso
  have e:=List.not_lt.1 e
  rcases List.le_iff_lt_or_eq.1 e with e|e
  ·exact h1 (by simpa using e)
  exact h2 e
theorem MI {w:World} {b n:Nat} {L:HL} {es:fF Th} {D:DataW Value} (hr:jQ es) (hown:w.ownsMap Tryz.prog 9 rE b n D) (hf:∀ kl,Maps.has D kl=(iL L es kl).isSome) {ss:List (List UInt8)} (hp:ss.Perm (strKeys D)) :
    ss.mergeSort (fun x y=>decide (x<=y))=es.map (fun e=>e.1.data.toList):=by
  have hsort:=Gy hr
  obtain⟨es',hD,hpw,_⟩:=hown.entries zM
  obtain⟨Vq,NW,hko⟩:=hown.keysOf
  obtain rfl:es'=Vq:=by rw [hD] at NW;simpa using NW
  have hp2:(es.map (fun e=>e.1.data.toList)).Perm (strKeys D):=by
    rw [hD]
    refine perm_strKeys hpw (fun p hp=>?_) (hsort.imp (fun {a b} h e=>by subst e;exact absurd h (List.lt_irrefl a))) (fun x=>?_)
    ·obtain⟨v,hv⟩:=hko p hp
     obtain⟨x,_,h,_⟩:=keyOf_str Tryz.underlying9 hv
     exact⟨x,h⟩
    rw [← hD,hf]
    show _↔((aT ⟨x.toArray⟩ es).map (dQ L)).isSome=true
    rw [Option.isSome_map]
    constructor
    ·intro hx
     obtain⟨e,he,rfl⟩:=List.mem_map.1 hx
     have h1:(⟨e.1.data.toList.toArray⟩:ByteArray)=e.1:=by rw [Array.toArray_toList]
     rw [h1,sJ (t:=e.2) (jQ.twice hr) he];rfl
    intro hx
    obtain⟨t,ht⟩:=Option.isSome_iff_exists.1 hx
    exact List.mem_map.2 ⟨_,lC ht,by simp⟩
  have h3:=mergeSort_of_perm (hp.trans hp2.symm)
  have h4:(es.map (fun e=>e.1.data.toList)).mergeSort leB=es.map (fun e=>e.1.data.toList):=List.mergeSort_of_pairwise (hsort.imp (fun {a b} h=>by simp only [leB,decide_eq_true_eq];exact List.le_of_lt h))
  exact h3.trans h4
theorem Jb {β:Bs} (L:HL) (b bk n:Nat) (es:fF Th) (hr:jQ es) (hn:n<=8192) :
    Spec Tryz.prog β 68 #[CG bk] [.abs (aL Tryz.prog 9 b (iL L es) n),.blk bk [.map (some b)] 136] (fun v l=>∃ A cap,v=.slice A es.length cap ∧
      l=[.abs (aL Tryz.prog 9 b (iL L es) n),.blk bk [.map (some b)] 136,.abs (aK 9 1 A es.length cap (qL es))]):=by
  intro R w hS
  obtain⟨F1,h1⟩:=hS.get (i:=0) (p:=.abs (aL Tryz.prog 9 b (iL L es) n)) rfl
  obtain⟨F2,h2⟩:=hS.get (i:=1) (p:=.blk bk [.map (some b)] 136) rfl
  obtain⟨D,hown,hsz,hhas,_⟩:=h1.1
  have hcell:w.cell? ⟨bk,0,none⟩=some (.map (some b)):=(gi h2.1 rfl rfl rfl).1
  have hseq:SeqGives Fence.wide 2 Tryz.prog 109 #[.pointer (some ⟨bk,0,none⟩)] encStr (fun ss=>ss.Perm (strKeys D)) (Maps.size D) w:=
    AnyZ.keys_gives (ρ:=Tryz.keysS_ren) { Tryz.keysS with } Fence.wide _ trivial rfl (by omega) bk b n D w (lt_of_some h2.1) hcell hown
  have cS:=AnyZ.sorted_in Tryz.sortedS Fence.wide 5 trivial trivial trivial trivial rfl (by omega) (QD _) (enters_of Tryz.func108 (by kernel_rfl) rfl) 109 #[.pointer (some ⟨bk,0,none⟩)] trivial (enters_of Tryz.func109 (by kernel_rfl) rfl)
    (fun ss=>ss.Perm (strKeys D)) (Maps.size D) (by rw [hsz];unfold maxLen;omega) (by rw [hsz];omega) w hseq
  change CallsIn _ _ Tryz.prog 68 _ _ _ at cS
  refine ((callsIn_wide (n:=5)).1 cS).mono ?_
  rintro e w' ⟨v,ss,rfl,hp,hrow,hnil,hb⟩
  have hkeys:=MI hr hown hhas hp
  have hl2:ss.length=es.length:=by
    have h3:(ss.mergeSort (fun x y=>decide (x<=y))).length=ss.length:=List.length_mergeSort ss
    rw [hkeys,List.length_map] at h3
    exact h3.symm
  rw [hkeys,hl2] at hrow
  have sC:∃ A cap,v=.slice A es.length cap:=by
    rcases hrow.2 with ⟨e1,e2⟩|⟨g,cp,cur,e1,_⟩
    ·exact⟨none,0,by rw [e1,e2]⟩
    exact⟨_,cp,e1⟩
  obtain⟨A,cap,rfl⟩:=sC
  have Vr:(es.map (fun e=>e.1.data.toList)).map encStr=qL es:=by
    rw [List.map_map]
    refine List.map_congr_left (fun e _=>?_)
    show encStr e.1.data.toList=.string e.1
    unfold encStr
    rw [Array.toArray_toList]
  rw [Vr] at hrow
  have hq:Sat β ([.abs (aL Tryz.prog 9 b (iL L es) n),.blk bk [.map (some b)] 136,.abs R]++[.abs (aK 9 1 A es.length cap (qL es))]) w':=by
    refine Sat.new (F:=fun k=>(Value.slice A es.length cap).ownBlock=some k) hS ⟨?_,fun k=>Iff.rfl⟩ ⟨hb.os,hb.tape,hb.output,hb.size,fun k hk _=>hb.block k hk⟩ (fun k hk=>(hrow.lt k hk).1)
    refine⟨hrow.1,?_⟩
    rcases hrow.2 with h|⟨g,cp,cur,e1,_,h3,h4⟩
    ·exact .inl h
    exact .inr ⟨g,cp,cur,e1,Nat.zero_le _,h3,h4⟩
  exact⟨_,[.abs (aL Tryz.prog 9 b (iL L es) n),.blk bk [.map (some b)] 136,.abs (aK 9 1 A es.length cap (qL es))],rfl,⟨A,cap,rfl,rfl⟩,hq.pick (idx:=[0,1,3,2]) rfl rfl⟩
end
section
open Go.RowKit Go.Maps bD aE
theorem Hr {ns:List aB} {n:aB} {k:Nat} (h:k < ns.length):nd (ns++[n]) k=nd ns k:=by
  unfold nd;rw [List.getD_eq_getElem?_getD,List.getD_eq_getElem?_getD,List.getElem?_append_left h]
theorem CH {ns:List aB} {n:aB}:nd (ns++[n]) ns.length=n:=by
  unfold nd;rw [List.getD_eq_getElem?_getD,List.getElem?_append_right (Nat.le_refl _)];simp
def MJ:Lay:=⟨fun _=>none,fun _=>none,fun _=>0,fun _=>0⟩
def lQ (ns:List aB) (L:Lay) (k:Nat):cr:=aK 140 2 (L.eA k) (nd ns k).ah.length (L.eC k) (gV (nd ns k).ah)
def lS (ns:List aB) (L:Lay) (k:Nat):cr:=aK 5 1 (L.dA k) (nd ns k).data.length (L.dC k) (bY (nd ns k).data)
def Uv (A:Option Addr) (c:Nat) (ns:List aB) (L:Lay):HP:=.abs (aK 70 10 A ns.length c (dI L ns))
def MK (A:Option Addr) (c:Nat) (ns:List aB) (L:Lay):List HP:=[Uv A c ns L,.abs (jB (lQ ns L) ns.length),.abs (jB (lS ns L) ns.length)]
theorem qU.graph {β β':Bs} {A:Option Addr} {c:Nat} {ns:List aB} {L:Lay} (h:qU β (MK A c ns L) β'):au β' A ns L:=by
  obtain⟨F,h1,h2⟩:=h.get 0 rfl
  obtain⟨G,g1,g2⟩:=h.get 1 rfl
  obtain⟨K,k1,k2⟩:=h.get 2 rfl
  exact⟨cE.kQ h1 h2 rfl,
    jB.base k1 k2 rfl (Φ:=fun i b=>bA b (L.dA i) (nd ns i).data) (fun i _ F hF hO=>cE.kQ (show (HP.abs (aK 5 1 (L.dA i) (nd ns i).data.length (L.dC i) (bY (nd ns i).data))).h F _ from hF) hO rfl),
    jB.base g1 g2 rfl (Φ:=fun i b=>dN b (L.eA i) (nd ns i).ah) (fun i _ F hF hO=>cE.kQ (show (HP.abs (aK 140 2 (L.eA i) (nd ns i).ah.length (L.eC i) (gV (nd ns i).ah))).h F _ from hF) hO rfl)⟩
theorem Gz {L:Lay} {ns:List aB} {n:aB} {dA eA:Option Addr} {dC eC:Nat}:dI L ns++[.int .i64 n.id,.int .i64 n.kind,.int .i64 n.mode,.int .i64 n.uid,.int .i64 n.gid,.int .i64 n.sec,.int .i64 n.nano,.slice dA n.data.length dC,.string n.target,.slice eA n.ah.length eC]=dI (L.put ns.length dA dC eA eC) (ns++[n]):=by
  have h:=AA (ns:=ns++[n]) (L:=L) (k:=ns.length) (by simp) dA dC eA eC
  rw [CH,List.take_left,List.take_of_length_le (by simp)] at h
  exact h
theorem Du {ns:List aB} {L:Lay} {n:aB} {dA eA:Option Addr} {dC eC:Nat}:(∀ x,x < ns.length->lS (ns++[n]) (L.put ns.length dA dC eA eC) x=lS ns L x)/\lS (ns++[n]) (L.put ns.length dA dC eA eC) ns.length=aK 5 1 dA n.data.length dC (bY n.data):=by
  refine⟨fun x hx=>?_,?_⟩
  ·unfold lS Lay.put
   rw [Hr hx]
   have:¬ x=ns.length:=by omega
   simp [this]
  unfold lS Lay.put
  rw [CH]
  simp
theorem Dv {ns:List aB} {L:Lay} {n:aB} {dA eA:Option Addr} {dC eC:Nat}:(∀ x,x < ns.length->lQ (ns++[n]) (L.put ns.length dA dC eA eC) x=lQ ns L x)/\lQ (ns++[n]) (L.put ns.length dA dC eA eC) ns.length=aK 140 2 eA n.ah.length eC (gV n.ah):=by
  refine⟨fun x hx=>?_,?_⟩
  ·unfold lQ Lay.put
   rw [Hr hx]
   have:¬ x=ns.length:=by omega
   simp [this]
  unfold lQ Lay.put
  rw [CH]
  simp
def jP (O:bT) (e:ByteArray×Th):jt:=⟨e.1,(obj O e.2.k).id⟩
def rQ (O:bT) (id:Int) (t:Th):aB:=⟨id,t.kind,(obj O t.k).mode,(obj O t.k).uid,(obj O t.k).gid,(obj O t.k).sec,(obj O t.k).nano,(obj O t.k).data,(obj O t.k).target,(obj O t.k).ah.map (jP O)⟩
def av (S:aH):List aB:=S.idx.map (fun p=>rQ S.O p.1 p.2)
theorem iC {S:aH}:(av S).length=S.idx.length:=List.length_map ..
def fJ (S:aH) (i:Nat):Th:=(S.idx.getD i (0,⟨0,0⟩)).2
def cJ (S:aH) (i:Nat):Int:=(S.idx.getD i (0,⟨0,0⟩)).1
section at_
variable {S:aH} {i:Nat}
theorem sV (hi:i < S.idx.length):S.idx[i]?=some (cJ S i,fJ S i):=by
  unfold cJ fJ
  rw [List.getD_eq_getElem?_getD,List.getElem?_eq_getElem hi];rfl
theorem get_at (h:Inv0 S) (hi:i < S.idx.length):aE.get S.idx (cJ S i)=some (fJ S i):=mY h.rise (List.mem_of_getElem? (sV hi))
theorem oG (h:Inv0 S) (hi:i < S.idx.length):Live S.idx (fJ S i)/\cJ S i=((fJ S i).k:Int):=⟨h.live (get_at h hi),h.key (get_at h hi)⟩
theorem Fe (hi:i < S.idx.length):(keys S.idx)[i]?=some (cJ S i):=by
  unfold keys
  rw [List.getElem?_map,sV hi];rfl
theorem vX (hi:i < S.idx.length):(av S).take (i+1)=(av S).take i++[rQ S.O (cJ S i) (fJ S i)]:=by
  rw [List.take_add_one]
  congr 1
  unfold av
  rw [List.getElem?_map,sV hi];rfl
theorem dS (hi:i<=S.idx.length):((av S).take i).length=i:=by rw [List.length_take,iC];omega
end at_
section sat
variable {β:Bs} {l l':List HP} {w:World} {i j k:Nat} {O:bT} {L:HL} {ix:List Nat}
theorem Sat.QE (h:Sat β l w) (hp:l[i]?=some (.abs (ax (kD (bJ O L) k cr.none)))) (hq:l[j]?=some (.abs (aK 5 1 (L.dA k) (obj O k).data.length (L.dC k) (bY (obj O k).data)))) (hd:bB (i::j::ix)=true) (hl:bQ l ix=some l') (h2:(obj O k).kind=1):Sat β (.abs (ax (bJ O L))::l') w:=
  h.qo hp hq (fun _ _ h=>h) hd hl k (fun _ hx=>(oz hx).symm) (sG h2)
end sat
theorem Jc {es:List jt} {e:jt}:gV es++[.string e.name,.int .i64 e.id]=gV (es++[e]):=(vw e es 0).symm
section grow
variable {ns G':List aB} {n:aB} {L:Lay} {i dn en:Nat} {dA eA:Option Addr} {dC eC:Nat}
theorem vY (hl:ns.length=i) (hG:G'=ns++[n]) (hd:n.data.length=dn) (he:n.ah.length=en):dI L ns++[.int .i64 n.id,.int .i64 n.kind,.int .i64 n.mode,.int .i64 n.uid,.int .i64 n.gid,.int .i64 n.sec,.int .i64 n.nano,.slice dA dn dC,.string n.target,.slice eA en eC]=dI (L.put i dA dC eA eC) G':=by
  subst hl hG hd he;exact Gz
theorem zY (hl:ns.length=i) (hG:G'=ns++[n]):∀ x,x < i->lS G' (L.put i dA dC eA eC) x=lS ns L x:=by
  subst hl hG;exact Du.1
theorem xR (hl:ns.length=i) (hG:G'=ns++[n]) (hd:n.data.length=dn):lS G' (L.put i dA dC eA eC) i=aK 5 1 dA dn dC (bY n.data):=by
  subst hl hG hd;exact Du.2
theorem zZ (hl:ns.length=i) (hG:G'=ns++[n]):∀ x,x < i->lQ G' (L.put i dA dC eA eC) x=lQ ns L x:=by
  subst hl hG;exact Dv.1
theorem xS (hl:ns.length=i) (hG:G'=ns++[n]) (he:n.ah.length=en):lQ G' (L.put i dA dC eA eC) i=aK 140 2 eA en eC (gV n.ah):=by
  subst hl hG he;exact Dv.2
end grow
section more
variable {S:aH} {i j k:Nat}
theorem SC (h:Inv0 S) (hi:i < S.idx.length):(∃ k,fJ S i=⟨k,1⟩/\Live S.idx ⟨k,1⟩)\/(∃ k,fJ S i=⟨k,2⟩/\Live S.idx ⟨k,2⟩)\/∃ k,fJ S i=⟨k,3⟩/\Live S.idx ⟨k,3⟩:=by
  have h1:=(oG h hi).1
  generalize fJ S i=t at h1 ⊢
  obtain⟨k,kd⟩:=t
  rcases (h.ob _ h1).2.2 with e|e|e<;>simp only at e<;>subst e
  ·exact .inl ⟨k,rfl,h1⟩
  ·exact .inr (.inl ⟨k,rfl,h1⟩)
  exact .inr (.inr ⟨k,rfl,h1⟩)
theorem CI (h:Inv0 S) (hi:i < S.idx.length):(Lit.int .i64 (cJ S i)).wf=true:=by
  have h1:=h.idx _ _ (get_at h hi)
  have h2:=h.last
  exact WalkArith.wf_i64 (by omega)
theorem ML (hi:i < S.idx.length):(ints (keys S.idx))[i * 1+0]?=some (.int .i64 (cJ S i)):=by
  rw [Nat.mul_one,Nat.add_zero]
  unfold ints
  rw [List.getElem?_map,Fe hi];rfl
theorem Ff (h:Inv0 S) {t:Th} (hl:Live S.idx t) (hk:t.kind≠3):(obj S.O t.k).target=⟨#[]⟩:=by
  rcases (h.mt t hl).target with e|e
  ·exact e.2
  exact absurd (h.kind hl ▸ e.1) hk
theorem qM (h:Inv0 S) (hi:i < S.idx.length) (lE:fJ S i=⟨k,1⟩) (hl:Live S.idx ⟨k,1⟩):(av S).take (i+1)=(av S).take i++[⟨cJ S i,1,(obj S.O k).mode,(obj S.O k).uid,(obj S.O k).gid,(obj S.O k).sec,(obj S.O k).nano,(obj S.O k).data,⟨#[]⟩,[]⟩]:=by
  rw [vX hi,lE]
  unfold rQ
  rw [show (obj S.O k).target=⟨#[]⟩ from Ff h hl (by simp),show (obj S.O k).ah=[] from (h.mt _ hl).ah (by rw [h.kind hl];simp)];rfl
theorem qN (h:Inv0 S) (hi:i < S.idx.length) (lE:fJ S i=⟨k,3⟩) (hl:Live S.idx ⟨k,3⟩):(av S).take (i+1)=(av S).take i++[⟨cJ S i,3,(obj S.O k).mode,(obj S.O k).uid,(obj S.O k).gid,(obj S.O k).sec,(obj S.O k).nano,[],(obj S.O k).target,[]⟩]:=by
  rw [vX hi,lE]
  unfold rQ
  rw [show (obj S.O k).data=[] from (h.mt _ hl).data (by rw [h.kind hl];simp),show (obj S.O k).ah=[] from (h.mt _ hl).ah (by rw [h.kind hl];simp)];rfl
theorem sW (h:Inv0 S) (hi:i < S.idx.length) (lE:fJ S i=⟨k,2⟩) (hl:Live S.idx ⟨k,2⟩):(av S).take (i+1)=(av S).take i++[⟨cJ S i,2,(obj S.O k).mode,(obj S.O k).uid,(obj S.O k).gid,(obj S.O k).sec,(obj S.O k).nano,[],⟨#[]⟩,(obj S.O k).ah.map (jP S.O)⟩]:=by
  rw [vX hi,lE]
  unfold rQ
  rw [show (obj S.O k).target=⟨#[]⟩ from Ff h hl (by simp),show (obj S.O k).data=[] from (h.mt _ hl).data (by rw [h.kind hl];simp)]
def eU (es:fF Th) (j:Nat):ByteArray:=(es.getD j (⟨#[]⟩,⟨0,0⟩)).1
def qV (es:fF Th) (j:Nat):Th:=(es.getD j (⟨#[]⟩,⟨0,0⟩)).2
theorem yO {es:fF Th} (hj:j < es.length):es[j]?=some (eU es j,qV es j):=by
  unfold eU qV
  rw [List.getD_eq_getElem?_getD,List.getElem?_eq_getElem hj];rfl
theorem Jd {es:fF Th} (hj:j < es.length):(qL es)[j * 1+0]?=some (.string (eU es j)):=by
  rw [Nat.mul_one,Nat.add_zero]
  unfold qL
  rw [List.getElem?_map,yO hj];rfl
theorem Uw (h:Inv0 S) {t:Th} (hl:Live S.idx t) (hj:j < (obj S.O t.k).ah.length):bG (eU (obj S.O t.k).ah j)/\((∃ k,aT (eU (obj S.O t.k).ah j) (obj S.O t.k).ah=some ⟨k,1⟩/\Live S.idx ⟨k,1⟩/\qV (obj S.O t.k).ah j=⟨k,1⟩)\/(∃ k,aT (eU (obj S.O t.k).ah j) (obj S.O t.k).ah=some ⟨k,2⟩/\Live S.idx ⟨k,2⟩/\qV (obj S.O t.k).ah j=⟨k,2⟩)\/∃ k,aT (eU (obj S.O t.k).ah j) (obj S.O t.k).ah=some ⟨k,3⟩/\Live S.idx ⟨k,3⟩/\qV (obj S.O t.k).ah j=⟨k,3⟩):=by
  have hm:=List.mem_of_getElem? (yO hj)
  have h1:=h.ah t hl _ hm
  have h2:=sJ (h.twice hl) hm
  refine⟨h1.1,?_⟩
  have h3:=h1.2
  generalize qV (obj S.O t.k).ah j=u at h2 h3 ⊢
  obtain⟨k,kd⟩:=u
  rcases (h.ob _ h3).2.2 with e|e|e<;>simp only at e<;>subst e
  ·exact .inl ⟨k,h2,h3,rfl⟩
  ·exact .inr (.inl ⟨k,h2,h3,rfl⟩)
  exact .inr (.inr ⟨k,h2,h3,rfl⟩)
theorem xT {O:bT} {es:fF Th} {kd:Int} (hj:j < es.length) (he:qV es j=⟨k,kd⟩):gV ((es.take j).map (jP O))++[.string (eU es j),.int .i64 (obj O k).id]=gV ((es.take (j+1)).map (jP O)):=by
  rw [List.take_add_one,yO hj,he,List.map_append]
  exact Jc (es:=(es.take j).map (jP O)) (e:=⟨eU es j,(obj O k).id⟩)
end more
theorem qU.bytes {β β':Bs} {A:Option Addr} {n c:Nat} {d:List UInt8} (h:qU β [.abs (aK 5 1 A n c (bY d))] β'):bA β' A d:=by
  obtain⟨F,h1,h2⟩:=h.get 0 rfl
  exact cE.kQ h1 h2 rfl
end
section
open Go.RowKit
section order
variable {P:Program} {ops:Array Oper} {Q Q':Post} {n:Nat} {S:World->Prop}
inductive sX
  | one (i:Nat)
  | two (i j:Nat)
  | three (i k j:Nat)
  | perm (G:List Nat)
  | beside (c:List Nat) (j:Nat)
def Fg (P:Program) (ops:Array Oper) (Q:Post) (S:World->Prop) (K:Act->World->Prop):Nat->List Nat->Act->World->Prop
  | 0,_,a,w=>K a w
  | n+1,G,a,w=>∀ i∈G,wpOp P ops Q i (fun a' w'=>S w'/\Fg P ops Q S K n (G.erase i) a' w') a w
def Ee (ops:Array Oper) (f:Array Bool->Bool):Nat->List Nat->Array Bool->Bool
  | 0,_,listed=>f listed
  | n+1,G,listed=>(Region.ready .any ops listed == G) && !G.isEmpty && G.all (fun i=>Ee ops f n (G.erase i) (listed.setIfInBounds i true))
def Ef (P:Program) (ops:Array Oper) (Q:Post) (S:World->Prop) (K:Act->World->Prop):List Nat->Act->World->Prop
  | [],a,w=>K a w
  | i::c,a,w=>wpOp P ops Q i (fun a' w'=>S w'/\Ef P ops Q S K c a' w') a w
def vZ (P:Program) (ops:Array Oper) (Q:Post) (S:World->Prop) (K:Act->World->Prop) (j:Nat):List Nat->Act->World->Prop
  | [],a,w=>wpOp P ops Q j (fun a' w'=>S w'/\K a' w') a w
  | i::c,a,w=>wpOp P ops Q i (fun a' w'=>S w'/\vZ P ops Q S K j c a' w') a w/\wpOp P ops Q j (fun a' w'=>S w'/\Ef P ops Q S K (i::c) a' w') a w
def seqB (ops:Array Oper) (f:Array Bool->Bool):List Nat->Array Bool->Bool
  | [],listed=>f listed
  | i::c,listed=>(Region.ready .any ops listed == [i]) && seqB ops f c (listed.setIfInBounds i true)
def uW (ops:Array Oper) (f:Array Bool->Bool) (j:Nat):List Nat->Array Bool->Bool
  | [],listed=>(Region.ready .any ops listed == [j]) && f (listed.setIfInBounds j true)
  | i::c,listed=>(Region.ready .any ops listed == (if i < j then [i,j] else [j,i])) && uW ops f j c (listed.setIfInBounds i true) && seqB ops f (i::c) (listed.setIfInBounds j true)
def lT (P:Program) (ops:Array Oper) (Q:Post) (S:World->Prop):List sX->Act->World->Prop
  | [],a,w=>Q .normal a w
  | .one i::l,a,w=>wpOp P ops Q i (fun a' w'=>(l=[]\/S w')/\lT P ops Q S l a' w') a w
  | .two i j::l,a,w=>
    wpOp P ops Q i (fun a' w'=>S w'/\wpOp P ops Q j (fun a2 w2=>S w2/\lT P ops Q S l a2 w2) a' w') a w ∧
    wpOp P ops Q j (fun a' w'=>S w'/\wpOp P ops Q i (fun a2 w2=>S w2/\lT P ops Q S l a2 w2) a' w') a w
  | .three i k j::l,a,w=>
    wpOp P ops Q i (fun a1 w1=>S w1/\wpOp P ops Q k (fun a2 w2=>S w2/\wpOp P ops Q j (fun a3 w3=>S w3/\lT P ops Q S l a3 w3) a2 w2) a1 w1 ∧
      wpOp P ops Q j (fun a2 w2=>S w2/\wpOp P ops Q k (fun a3 w3=>S w3/\lT P ops Q S l a3 w3) a2 w2) a1 w1) a w ∧
    wpOp P ops Q j (fun a1 w1=>S w1/\wpOp P ops Q i (fun a2 w2=>S w2/\wpOp P ops Q k (fun a3 w3=>S w3/\lT P ops Q S l a3 w3) a2 w2) a1 w1) a w
  | .perm G::l,a,w=>Fg P ops Q S (lT P ops Q S l) G.length G a w
  | .beside c j::l,a,w=>vZ P ops Q S (lT P ops Q S l) j c a w
def uz (ops:Array Oper) (n:Nat):List sX->Array Bool->Bool
  | [],listed=>(Region.ready .any ops listed).isEmpty
  | .one i::l,listed=>(Region.ready .any ops listed == [i]) && (!l.isEmpty || i == n) && uz ops n l (listed.setIfInBounds i true)
  | .two i j::l,listed=>(Region.ready .any ops listed == [i,j]) && (Region.ready .any ops (listed.setIfInBounds i true) == [j]) && (Region.ready .any ops (listed.setIfInBounds j true) == [i]) && decide (i≠j) && uz ops n l ((listed.setIfInBounds i true).setIfInBounds j true)
  | .three i k j::l,listed=>(Region.ready .any ops listed == [i,j]) && (Region.ready .any ops (listed.setIfInBounds i true) == [k,j]) && (Region.ready .any ops ((listed.setIfInBounds i true).setIfInBounds k true) == [j]) && (Region.ready .any ops ((listed.setIfInBounds i true).setIfInBounds j true) == [k]) &&
    (Region.ready .any ops (listed.setIfInBounds j true) == [i]) && decide (i≠j) && decide (k≠j) && uz ops n l (((listed.setIfInBounds i true).setIfInBounds k true).setIfInBounds j true)
  | .perm G::l,listed=>Ee ops (uz ops n l) G.length G listed
  | .beside c j::l,listed=>uW ops (uz ops n l) j c listed
def qW:List sX->Nat
  | []=>0
  | .one _::l=>qW l+1
  | .two _ _::l=>qW l+2
  | .three _ _ _::l=>qW l+3
  | .perm G::l=>qW l+G.length
  | .beside c _::l=>qW l+(c.length+1)
theorem Dw {m i:Nat} {listed:Array Bool} {a:Act} {w:World} (hr:Region.ready .any ops listed=[i]) (h:wpOp P ops (NP Q) i (fun a' w'=>S w'/\iw P ops (NP Q) n S m (listed.setIfInBounds i true) a' w') a w):iw P ops (NP Q) n S (m+1) listed a w:=by
  refine⟨fun h0=>(by rw [hr] at h0;cases h0),fun y hy=>?_⟩
  rw [hr] at hy
  have hy:y=i:=by simpa using hy
  subst hy
  exact wpOp_mono (fun a' w' h=>⟨.inr h.1,h.2⟩) h
theorem Hs {K:Act->World->Prop} {f:Array Bool->Bool} {m:Nat} (hK:∀ listed a w,f listed=true->K a w->iw P ops (NP Q) n S m listed a w):∀ (c:List Nat) (listed:Array Bool) (a:Act) (w:World),seqB ops f c listed=true->Ef P ops (NP Q) S K c a w->iw P ops (NP Q) n S (m+c.length) listed a w
  | [],listed,a,w,hb,h=>hK listed a w hb h
  | i::c,listed,a,w,hb,h=>by
    unfold seqB at hb
    simp only [Bool.and_eq_true,beq_iff_eq] at hb
    exact Dw hb.1 (wpOp_mono (fun a' w' g=>⟨g.1,Hs hK c _ a' w' hb.2 g.2⟩) h)
theorem Bx {K:Act->World->Prop} {f:Array Bool->Bool} {m j:Nat} (hK:∀ listed a w,f listed=true->K a w->iw P ops (NP Q) n S m listed a w):∀ (c:List Nat) (listed:Array Bool) (a:Act) (w:World),uW ops f j c listed=true->vZ P ops (NP Q) S K j c a w->iw P ops (NP Q) n S (m+(c.length+1)) listed a w
  | [],listed,a,w,hb,h=>by
    unfold uW at hb
    simp only [Bool.and_eq_true,beq_iff_eq] at hb
    exact Dw hb.1 (wpOp_mono (fun a' w' g=>⟨g.1,hK _ a' w' hb.2 g.2⟩) h)
  | i::c,listed,a,w,hb,h=>by
    unfold uW at hb
    simp only [Bool.and_eq_true,beq_iff_eq] at hb
    obtain⟨⟨h1,h2⟩,h3⟩:=hb
    refine⟨fun h0=>(by rw [h1] at h0;split at h0<;>cases h0),fun y hy=>?_⟩
    rw [h1] at hy
    have hy:y=i\/y=j:=by
      split at hy
      ·simpa using hy
      have:y=j\/y=i:=by simpa using hy
      exact this.symm
    rcases hy with rfl|rfl
    ·exact wpOp_mono (fun a' w' g=>⟨.inr g.1,Bx hK c _ a' w' h2 g.2⟩) h.1
    exact wpOp_mono (fun a' w' g=>⟨.inr g.1,Hs hK (i::c) _ a' w' h3 g.2⟩) h.2
theorem Fh {K:Act->World->Prop} {f:Array Bool->Bool} {m:Nat} (hK:∀ listed a w,f listed=true->K a w->iw P ops (NP Q) n S m listed a w):∀ (k:Nat) (G:List Nat) (listed:Array Bool) (a:Act) (w:World),Ee ops f k G listed=true->Fg P ops (NP Q) S K k G a w->iw P ops (NP Q) n S (m+k) listed a w
  | 0,G,listed,a,w,hb,h=>hK listed a w hb h
  | k+1,G,listed,a,w,hb,h=>by
    unfold Ee at hb
    simp only [Bool.and_eq_true,beq_iff_eq] at hb
    obtain⟨⟨h1,h2⟩,h3⟩:=hb
    refine⟨fun h0=>(by rw [h1] at h0;rw [h0] at h2;cases h2),fun j hj=>?_⟩
    rw [h1] at hj
    exact wpOp_mono (fun a' w' g=>⟨.inr g.1,Fh hK k (G.erase j) _ a' w' (List.all_eq_true.1 h3 j hj) g.2⟩) (h j hj)
theorem nh:∀ (l:List sX) (listed:Array Bool) (a:Act) (w:World),uz ops n l listed=true->lT P ops (NP Q) S l a w->iw P ops (NP Q) n S (qW l) listed a w
  | [],listed,a,w,hb,h=>⟨List.isEmpty_iff.1 hb,h⟩
  | .one i::l,listed,a,w,hb,h=>by
    unfold uz at hb
    simp only [Bool.and_eq_true,beq_iff_eq] at hb
    obtain⟨⟨h1,h2⟩,h3⟩:=hb
    refine⟨fun h0=>(by rw [h1] at h0;cases h0),fun j hj=>?_⟩
    rw [h1] at hj
    have hj:j=i:=by simpa using hj
    subst hj
    refine wpOp_mono (fun a' w' h4=>⟨?_,nh l _ a' w' h3 h4.2⟩) h
    rcases h4.1 with h5|h5
    ·subst h5;exact .inl (by simpa using h2)
    exact .inr h5
  | .two i j::l,listed,a,w,hb,h=>by
    unfold uz at hb
    simp only [Bool.and_eq_true,beq_iff_eq,decide_eq_true_iff] at hb
    obtain⟨⟨⟨⟨h1,h2⟩,h3⟩,hij⟩,h4⟩:=hb
    refine⟨fun h0=>(by rw [h1] at h0;cases h0),fun k hk=>?_⟩
    rw [h1] at hk
    have hk:k=i\/k=j:=by simpa using hk
    rcases hk with rfl|rfl
    ·refine wpOp_mono (fun a' w' h5=>⟨.inr h5.1,fun h0=>(by rw [h2] at h0;cases h0),fun k' hk'=>?_⟩) h.1
     rw [h2] at hk'
     have hk':k'=j:=by simpa using hk'
     subst hk'
     exact wpOp_mono (fun a2 w2 h6=>⟨.inr h6.1,nh l _ a2 w2 h4 h6.2⟩) h5.2
    refine wpOp_mono (fun a' w' h5=>⟨.inr h5.1,fun h0=>(by rw [h3] at h0;cases h0),fun k' hk'=>?_⟩) h.2
    rw [h3] at hk'
    have hk':k'=i:=by simpa using hk'
    subst hk'
    refine wpOp_mono (fun a2 w2 h6=>⟨.inr h6.1,?_⟩) h5.2
    rw [Array.setIfInBounds_comm _ _ (fun e=>hij e.symm)]
    exact nh l _ a2 w2 h4 h6.2
  | .three i k j::l,listed,a,w,hb,h=>by
    unfold uz at hb
    simp only [Bool.and_eq_true,beq_iff_eq,decide_eq_true_iff] at hb
    obtain⟨⟨⟨⟨⟨⟨⟨h1,h2⟩,h3⟩,h4⟩,h5⟩,hij⟩,hkj⟩,h6⟩:=hb
    have one:∀ {x:Nat} {ls:Array Bool} {fuel:Nat} {a:Act} {w:World},Region.ready .any ops ls=[x]->wpOp P ops (NP Q) x (fun a' w'=>S w'/\iw P ops (NP Q) n S fuel (ls.setIfInBounds x true) a' w') a w->iw P ops (NP Q) n S (fuel+1) ls a w:=fun {x ls fuel a w} hr hx=>by
      refine⟨fun h0=>(by rw [hr] at h0;cases h0),fun y hy=>?_⟩
      rw [hr] at hy
      have hy:y=x:=by simpa using hy
      subst hy
      exact wpOp_mono (fun a' w' h=>⟨.inr h.1,h.2⟩) hx
    have e1:(((listed.setIfInBounds i true).setIfInBounds j true).setIfInBounds k true)=(((listed.setIfInBounds i true).setIfInBounds k true).setIfInBounds j true):=Array.setIfInBounds_comm _ _ (fun e=>hkj e.symm)
    have e2:((listed.setIfInBounds j true).setIfInBounds i true)=((listed.setIfInBounds i true).setIfInBounds j true):=Array.setIfInBounds_comm _ _ (fun e=>hij e.symm)
    refine⟨fun h0=>(by rw [h1] at h0;cases h0),fun x hx=>?_⟩
    rw [h1] at hx
    have hx:x=i\/x=j:=by simpa using hx
    rcases hx with rfl|rfl
    ·refine wpOp_mono (fun a1 w1 g=>⟨.inr g.1,fun h0=>(by rw [h2] at h0;cases h0),fun y hy=>?_⟩) h.1
     rw [h2] at hy
     have hy:y=k\/y=j:=by simpa using hy
     rcases hy with rfl|rfl
     ·exact wpOp_mono (fun a2 w2 g2=>⟨.inr g2.1,one h3 (wpOp_mono (fun a3 w3 g3=>⟨g3.1,nh l _ a3 w3 h6 g3.2⟩) g2.2)⟩) g.2.1
     exact wpOp_mono (fun a2 w2 g2=>⟨.inr g2.1,one h4 (wpOp_mono (fun a3 w3 g3=>⟨g3.1,by rw [e1];exact nh l _ a3 w3 h6 g3.2⟩) g2.2)⟩) g.2.2
    refine wpOp_mono (fun a1 w1 g=>⟨.inr g.1,one h5 (wpOp_mono (fun a2 w2 g2=>⟨g2.1,?_⟩) g.2)⟩) h.2
    rw [e2]
    exact one h4 (wpOp_mono (fun a3 w3 g3=>⟨g3.1,by rw [e1];exact nh l _ a3 w3 h6 g3.2⟩) g2.2)
  | .perm G::l,listed,a,w,hb,h=>Fh (m:=qW l) (fun ls a w hb h=>nh l ls a w hb h) G.length G listed a w hb h
  | .beside c j::l,listed,a,w,hb,h=>Bx (m:=qW l) (fun ls a w hb h=>nh l ls a w hb h) c listed a w hb h
def oW (P:Program) (ops:Array Oper) (Q:Post) (S:World->Prop) (es:List sX):List Nat->Act->World->Prop
  | [],a,w=>lT P ops Q S es a w
  | i::l,a,w=>∃ o v,ops[i]?=some o/\YieldsIf P ops S o v a/\oW P ops Q S es l (a.put o.dst v) w
def Eg (ops:Array Oper) (n:Nat) (es:List sX):List Nat->Array Bool->Bool
  | [],listed=>uz ops n es listed
  | i::l,listed=>decide (i < n) && Region.free .any ops listed i && (Region.ready .any ops listed).contains i && Eg ops n es l (listed.setIfInBounds i true)
theorem Fj {es:List sX} (hsel:Region.noSelect ops=true) (oQ:Region.sinkB .any ops n=true):∀ (l:List Nat) (listed:Array Bool) (a:Act) (w:World),Eg ops n es l listed=true->Closed ops listed->S w->oW P ops (NP Q) S es l a w->iw P ops (NP Q) n S (l.length+qW es) listed a w
  | [],listed,a,w,hb,_,_,h=>by
    rw [List.length_nil,Nat.zero_add]
    exact nh es listed a w hb h
  | i::l,listed,a,w,hb,hc,hS,h=>by
    unfold Eg at hb
    simp only [Bool.and_eq_true,decide_eq_true_iff] at hb
    obtain⟨⟨⟨h1,h2⟩,h3⟩,h4⟩:=hb
    obtain⟨o,v,ho,hy,hk⟩:=h
    have hr:i∈Region.ready .any ops listed:=by simpa using h3
    have e:(i::l).length+qW es=(l.length+qW es)+1:=by rw [List.length_cons];omega
    rw [e]
    exact sD ho hsel oQ h1 _ listed a w hc (Region.free_spec ho h2) hr hy hS (Fj hsel oQ l _ _ w h4 (hc.set hr) hS hk)
def Ht (ops:Array Oper) (rs:List Nat) (es:List sX):Bool:=
  Region.noSelect ops && Region.sinkB .any ops (ops.size - 1) && (rs.length+qW es == ops.size) && Eg ops (ops.size - 1) es rs (Array.replicate ops.size false)
end order
section mix
variable {P:Program} {β:Bs} {N:Nat} {ops:Array Oper} {S:List HP} {rs:List Nat} {es:List sX} {fr fr':Fr} {hps:List HP} {Q:Post} {bC:List Prop} {i j:Nat}
def iN (P:Program) (β:Bs) (N:Nat) (ops:Array Oper) (S:List HP) (es:List sX) (rs:List Nat) (fr:Fr) (hps:List HP) (Q:Post):Prop:=
  ∀ junk w,Sat β hps w->oW P ops (NP Q) (Sat β S) es rs (bX N fr junk) w
theorem af.rR {id:Nat} (rs:List Nat) (es:List sX) (pk:List Nat) (hm:P.follows .mixedOrders=true) (hB:Ht ops rs es=true) (hn:bB pk=true) (hp:bQ hps pk=some S) (h:iN P β N ops S es rs fr hps Q):af P β N (.region id ops true) fr hps Q:=by
  intro junk w hS
  unfold Ht at hB
  simp only [Bool.and_eq_true,beq_iff_eq] at hB
  obtain⟨⟨⟨h1,h2⟩,h3⟩,h4⟩:=hB
  have dM:=hS.drewN 1
  have h5:=Fj (Q:=Q) h1 h2 rs _ _ _ h4 (fun j oj _ hl=>by simp [Array.getD_eq_getD_getElem?,Array.getElem?_replicate] at hl;split at hl<;>simp at hl) (dM.pick hn hp) (h junk (w.drewN 1) dM)
  rw [h3] at h5
  refine Code.wp_mono (fun e a w q=>?_) (wp_region_any hm (oP _ _ _ _ h5))
  cases e with
  | normal=>exact q
  | exit id=>exact q.elim
  | goto l=>exact q.elim
  | ret=>exact q.elim
  | panic ch=>exact q.elim
  | outgrown=>exact q.elim
theorem wG {junk:Nat->Value} {w:World}:∀ {hs:List OH} {is:List Nat} {fr fr':Fr} {T T':SS},qy P β N junk ops hs is fr T=some (fr',T')->(∀ p,p∈T'.bC->p)->T.used=true->T.hps=S →
    oW P ops (NP Q) (Sat β S) es rs (bX N fr' junk) w->oW P ops (NP Q) (Sat β S) es (is++rs) (bX N fr junk) w
  | [],[],fr,fr',T,T',h,ho,hu,hT,hK=>by cases h;exact hK
  | h::hs,i::is,fr,fr',T,T',hr,ho,hu,hT,hK=>by
    unfold qy at hr
    repeat' split at hr
    all_goals first|(cases hr;done)|skip
    rename_i o hget _ Es _ v T1 h0 _ hv
    obtain⟨e1,e2⟩:=rW h0
    rw [List.cons_append]
    unfold oW
    refine⟨o,v,hget,.inl ⟨by unfold Region.wanted;rw [Es],fun w' dM=>?_⟩,?_⟩
    ·rw [eF]
     obtain⟨w2,h1,_,_,h4⟩:=lF h0 (fun p hp=>ho p (vB hr p hp)) (by rw [hT];exact dM) (fun e=>by rw [hu] at e;cases e)
     obtain⟨ew,_⟩:=h4 rfl
     rw [ew] at h1
     rcases h1 with h1|⟨h1,_⟩
     ·exact h1
     exact absurd h1 (qx hv)
    rw [d6]
    exact wG hr ho (e2.trans hu) (e1.trans hT) hK
  | [],_::_,_,_,_,_,h,_,_,_,_=>by cases h
  | _::_,[],_,_,_,_,h,_,_,_,_=>by cases h
theorem iN.reads (is:List Nat) (hs:List OH) (idx:List Nat) (h:∀ junk,rX P β N junk ops hs is fr S idx=some (fr',bC)) (ho:kA bC) (K:iN P β N ops S es rs fr' hps Q):iN P β N ops S es (is++rs) fr hps Q:=by
  intro junk w hS
  have h0:=h junk
  unfold rX at h0
  split at h0
  ·rename_i lu S1 h1
   cases h0
   have hK:=K (lk lu junk) w hS
   rw [← jr] at hK
   exact wG h1 (fun p hp=>ho.mem hp) rfl rfl hK
  cases h0
theorem gP (nu:Fr) (is:List Nat) (os:List (Nat×OP)) (K:iN P β N ops S es [] nu hps Q)
    (h:∀ junk,rX P β N junk ops (jv (gT is.length os 0)) is fr S (bO nu)=some (nu,owed (gT is.length os 0)):=by intro _;kernel_rfl):iN P β N ops S es (is++[]) fr hps Q:=
  iN.reads is (jv (gT is.length os 0)) (bO nu) h (nT _) K
theorem iN.pair {ι QF QG:Type} {KG:QF->Fr} {hpi:QF->List HP} {KH:QG->Fr} {KI:QG->List HP} {fr':ι->Fr} {hp':ι->List HP} {oi oj:Oper} (Te Tf pk:List Nat)
    (hi:ops[i]?=some oi) (hgi:oi.guard=none) (hj:ops[j]?=some oj) (Tg:oj.guard=none)
    (h1:aj P β N #[oi] 0 fr hps (NP (oq β N KG hpi))) (h2:∀ a,aj P β N #[oj] 0 (KG a) (hpi a) (NP (oq β N fr' hp')))
    (h3:aj P β N #[oj] 0 fr hps (NP (oq β N KH KI))) (h4:∀ a,aj P β N #[oi] 0 (KH a) (KI a) (NP (oq β N fr' hp')))
    (hni:bB Te=true) (Ux:∀ a,bQ (hpi a) Te=some S) (Vs:bB Tf=true) (Uy:∀ a,bQ (KI a) Tf=some S) (hn:bB pk=true) (hp:∀ a,bQ (hp' a) pk=some S)
    (K:∀ a,iN P β N ops S es [] (fr' a) (hp' a) Q):iN P β N ops S (.two i j::es) [] fr hps Q:=by
  intro junk w hS
  unfold oW lT
  refine⟨gS hi hgi (jG (fun a w ⟨x,gj,ha,dM⟩=>?_) (show wpList P #[oi] (NP (oq β N KG hpi)) [oi] (bX N fr junk) w from h1 junk w hS)),gS hj Tg (jG (fun a w ⟨x,gj,ha,dM⟩=>?_) (show wpList P #[oj] (NP (oq β N KH KI)) [oj] (bX N fr junk) w from h3 junk w hS))⟩
  ·subst ha
   refine⟨dM.pick hni (Ux x),gS hj Tg (jG (fun a w ⟨y,wg,ha,uQ⟩=>?_) (show wpList P #[oj] (NP (oq β N fr' hp')) [oj] (bX N (KG x) gj) w from h2 x gj w dM))⟩
   subst ha
   exact⟨uQ.pick hn (hp y),K y wg _ uQ⟩
  subst ha
  refine⟨dM.pick Vs (Uy x),gS hi hgi (jG (fun a w ⟨y,wg,ha,uQ⟩=>?_) (show wpList P #[oi] (NP (oq β N fr' hp')) [oi] (bX N (KH x) gj) w from h4 x gj w dM))⟩
  subst ha
  exact⟨uQ.pick hn (hp y),K y wg _ uQ⟩
theorem iN.cut {ι:Type} {fr':ι->Fr} {hp':ι->List HP} {o:Oper} (pk:List Nat) (hop:ops[i]?=some o) (hg:o.guard=none) (h:aj P β N #[o] 0 fr hps (NP (oq β N fr' hp'))) (hn:bB pk=true) (hp:∀ j,bQ (hp' j) pk=some S)
    (K:∀ j,iN P β N ops S es [] (fr' j) (hp' j) Q):iN P β N ops S (.one i::es) [] fr hps Q:=by
  intro junk w hS
  unfold oW lT
  refine gS hop hg (jG (fun a w ⟨j,gj,ha,dM⟩=>?_) (show wpList P #[o] (NP (oq β N fr' hp')) [o] (bX N fr junk) w from h junk w hS))
  subst ha
  exact⟨.inr (dM.pick hn (hp j)),K j gj _ dM⟩
theorem Sat.left {a b:List HP} {w:World} (h:Sat β (a++b) w):Sat β a w:=by
  obtain⟨h0,φ,h1,h2,h3⟩:=h
  have hlen:a.length<=(a++b).length:=by simp
  exact⟨h0,φ,fun i p hp=>h1 i p (by rw [List.getElem?_append_left (bp hp)];exact hp),fun i hi=>h2 i (by omega),fun i j hi hj=>h3 i j (by omega) (by omega)⟩
def kU (P:Program) (β:Bs) (N:Nat) (ops:Array Oper) (Q:Post) (i d:Nat) (ds:List Nat) (fr:Fr) (pre:List HP) (post:Value->List HP->Prop):Prop:=
  ∀ junk w (A:cr),Sat β (pre++[.abs A]) w->wpOp P ops (NP Q) i (fun a' w'=>∃ v l gj,post v l/\a'=bX N fr gj/\gj d=v/\(∀ t∈ds,t≠d->gj t=junk t)/\Sat β (l++[.abs A]) w') (bX N fr junk) w
def kJ (nw:List Nat) (u:Nat->Value):Fr:=nw.map fun t=>(t,u t)
theorem xU {nw:List Nat} {u:Nat->Value}:bO (kJ nw u)=nw:=by
  induction nw with
  | nil=>rfl
  | cons a r ih=>exact congrArg (a::·) ih
theorem KJ {nw:List Nat} {u junk:Nat->Value} {t:Nat} (h:t∈nw):lk (kJ nw u) junk t=u t:=by
  induction nw with
  | nil=>cases h
  | cons a r ih=>
    show lk ((a,u a)::kJ r u) junk t=_
    rw [fU]
    by_cases e:a=t
    ·rw [if_pos e,e]
    rw [if_neg e]
    rcases List.mem_cons.1 h with h|h
    ·exact absurd h.symm e
    exact ih h
theorem oH {fr nu:Fr} {junk wg:Nat->Value} (h:∀ t,lk fr junk t=lk nu wg t):bX N fr junk=bX N nu wg:=by
  unfold bX
  rw [show lk fr junk=lk nu wg from funext h]
theorem kU.of {ι:Type} {v:ι->Value} {l:ι->List HP} {o:Oper} {d:Nat} {pre:List HP} (nw:List Nat) (hop:ops[i]?=some o) (hg:o.guard=none) (Uz:(d::nw).all (fun t=>!j8 t (bO fr))=true) (hd:j8 d nw=false)
    (h:∀ (u:Nat->Value) (A:cr),aj P β N #[o] 0 (kJ nw u++fr) (pre++[.abs A]) (NP (oq β N (fun x=>(d,v x)::(kJ nw u++fr)) (fun x=>l x++[.abs A])))):kU P β N ops Q i d (d::nw) fr pre (fun v' l'=>∃ x,v'=v x/\l'=l x):=by
  intro junk w A hS
  have hout:∀ t∈d::nw,t∉bO fr:=fun t ht hm=>by
    have h1:=List.all_eq_true.1 Uz t ht
    rw [jw.2 hm] at h1;cases h1
  have WU:d∉nw:=fun hm=>by rw [jw.2 hm] at hd;cases hd
  have e1:bX N fr junk=bX N (kJ nw junk++fr) junk:=oH fun t=>by
    rw [wZ,xU]
    by_cases ht:t∈nw
    ·rw [if_pos ht,KJ ht,lU (hout t (List.mem_cons_of_mem _ ht))]
    rw [if_neg ht]
  rw [e1]
  refine gS hop hg (jG (fun a w ⟨x,SD,ha,dM⟩=>?_) (show wpList P #[o] (NP (oq β N _ _)) [o] (bX N (kJ nw junk++fr) junk) w from h junk A junk w hS))
  refine⟨v x,l x,lk ((d,v x)::(kJ nw junk++fr)) SD,⟨x,rfl,rfl⟩,?_,by rw [fU,if_pos rfl],fun t ht hn=>?_,dM⟩
  ·rw [ha]
   refine oH fun t=>?_
   by_cases ht:t∈bO fr
   ·have h1:¬ d=t:=fun e=>hout d List.mem_cons_self (e ▸ ht)
    have h2:t∉nw:=fun hm=>hout t (List.mem_cons_of_mem _ hm) ht
    rw [fU,if_neg h1,wZ,xU,if_neg h2]
    exact D8 ht
   rw [lU ht]
  rw [fU,if_neg (fun e=>hn e.symm),wZ,xU,if_pos ((List.mem_cons.1 ht).resolve_left hn),KJ ((List.mem_cons.1 ht).resolve_left hn)]
theorem kU.at_ {d:Nat} {ds:List Nat} {pre X Y:List HP} {post:Value->List HP->Prop} {junk:Nat->Value} {w:World} {K:Act->World->Prop} (h:kU P β N ops Q i d ds fr pre post) (hS:Sat β (X++(pre++Y)) w)
    (hK:∀ v l gj w',post v l->gj d=v->(∀ t∈ds,t≠d->gj t=junk t)->Sat β (X++(l++Y)) w'->K (bX N fr gj) w'):wpOp P ops (NP Q) i K (bX N fr junk) w:=by
  have h1:=Sat.turn hS
  rw [List.append_assoc] at h1
  refine wpOp_mono (fun a' w' ⟨v,l,j2,g1,g2,g3,g4,g5⟩=>?_) (h junk w _ h1.fS)
  rw [g2]
  refine hK v l j2 w' g1 g3 g4 ?_
  have h2:=g5.qv
  rw [← List.append_assoc] at h2
  exact Sat.turn h2
theorem kU.grow {d d1:Nat} {ds:List Nat} {pre:List HP} {q:Value->List HP->Prop} (h:kU P β N ops Q i d (d::d1::ds) fr pre q) (h1:d1∉bO fr) (hd:d1≠d) (hn:d1∉ds) (v1:Value):kU P β N ops Q i d (d::ds) ((d1,v1)::fr) pre q:=by
  intro junk w A hS
  have e:bX N ((d1,v1)::fr) junk=bX N fr (fun t=>if t=d1 then v1 else junk t):=oH fun t=>by
    rw [fU]
    by_cases e1:d1=t
    ·subst e1;rw [if_pos rfl,lU h1,if_pos rfl]
    rw [if_neg e1]
    by_cases ht:t∈bO fr
    ·exact D8 ht
    rw [lU ht,lU ht,if_neg (fun e=>e1 e.symm)]
  rw [e]
  refine wpOp_mono (fun a' w' ⟨v,l,j2,g1,g2,g3,g4,g5⟩=>?_) (h _ w A hS)
  have k1:j2 d1=v1:=(g4 d1 (by simp) hd).trans (if_pos rfl)
  refine⟨v,l,j2,g1,?_,g3,fun t ht hne=>?_,g5⟩
  ·rw [g2]
   refine oH fun t=>?_
   rw [fU]
   by_cases e1:d1=t
   ·subst e1;rw [if_pos rfl,lU h1,k1]
   rw [if_neg e1]
  have h2:t≠d1:=fun e=>by
    subst e
    rcases List.mem_cons.1 ht with e|e
    ·exact hd e
    exact hn e
  refine (g4 t ?_ hne).trans (if_neg h2)
  rcases List.mem_cons.1 ht with e|e
  ·exact absurd e hne
  exact List.mem_cons_of_mem _ (List.mem_cons_of_mem _ e)
def kV (P:Program) (β:Bs) (N:Nat) (ops:Array Oper) (Q:Post) (dj:Nat):List (Nat×Nat)->Fr->List HP->(Fr->List HP->Prop)->Prop
  | [],fr,hps,R=>R fr hps
  | (i,d)::c,fr,hps,R=>(j8 d (bO fr)=false/\d≠dj)/\∃ q:Value->List HP->Prop,kU P β N ops Q i d [d,dj] fr hps q/\∀ v l,q v l->kV P β N ops Q dj c ((d,v)::fr) l R
theorem kV.step {dj d:Nat} {c:List (Nat×Nat)} {R:Fr->List HP->Prop} {q:Value->List HP->Prop} (h:kU P β N ops Q i d [d,dj] fr hps q) (h1:(!j8 d (bO fr) && decide (d≠dj))=true) (K:∀ v l,q v l->kV P β N ops Q dj c ((d,v)::fr) l R):kV P β N ops Q dj ((i,d)::c) fr hps R:=by
  simp only [Bool.and_eq_true,Bool.not_eq_true',decide_eq_true_iff] at h1
  exact⟨h1,q,h,K⟩
section Vt
variable {dj:Nat} {Z pj:List HP} {qj:Value->List HP->Prop} {R:Fr->List HP->Prop} {pS:List Nat} {F:Act->World->Prop}
theorem Sat.rest {X:List HP} {w:World} (wH:bB pS=true) (wJ:bQ Z pS=some S) (h:Sat β (X++Z) w):Sat β S w:=Sat.pick (idx:=pS) (l:=Z) (Sat.left (Sat.turn h)) wH wJ
theorem Dx {v:Value} {l2:List HP} (wH:bB pS=true) (wJ:bQ Z pS=some S) (hK:∀ f1 h1,R f1 h1->∀ junk w,Sat β (h1++(l2++Z)) w->F (bX N ((dj,v)::f1) junk) w) :
    ∀ (c:List (Nat×Nat)) (fr:Fr) (hps:List HP) (junk:Nat->Value) (w:World),j8 dj (bO fr)=false->kV P β N ops Q dj c fr hps R->junk dj=v->Sat β (hps++(l2++Z)) w->Ef P ops (NP Q) (Sat β S) F (c.map (·.1)) (bX N fr junk) w
  | [],fr,hps,junk,w,hdj,hc,hv,hS=>by
    have e:bX N fr junk=bX N ((dj,v)::fr) junk:=oH fun t=>by
      rw [fU]
      by_cases e1:dj=t
      ·subst e1;rw [if_pos rfl,lU (fun hm=>by rw [jw.2 hm] at hdj;cases hdj),hv]
      rw [if_neg e1]
    show F (bX N fr junk) w
    rw [e]
    exact hK fr hps hc junk w hS
  | (i,d)::c,fr,hps,junk,w,hdj,⟨⟨h1,h2⟩,q,h3,h4⟩,hv,hS=>by
    show wpOp P ops (NP Q) i _ _ _
    refine h3.at_ (X:=[]) hS (fun v' l j2 w' g1 g2 g3 g4=>⟨Sat.rest (X:=l++l2) wH wJ (by rw [List.append_assoc];exact g4),?_⟩)
    have e:bX N fr j2=bX N ((d,v')::fr) j2:=oH fun t=>by
      rw [fU]
      by_cases e1:d=t
      ·subst e1;rw [if_pos rfl,lU (fun hm=>by rw [jw.2 hm] at h1;cases h1),g2]
      rw [if_neg e1]
    rw [e]
    refine Dx wH wJ hK c _ l j2 w' ?_ (h4 v' l g1) ((g3 dj (by simp) (fun e=>h2 e.symm)).trans hv) g4
    cases hb:j8 dj (bO ((d,v')::fr)) with
    | false=>rfl
    | true=>
      rcases List.mem_cons.1 (jw.1 hb) with e|e
      ·exact absurd e.symm h2
      rw [jw.2 e] at hdj;cases hdj
theorem Dy {j:Nat} (wH:bB pS=true) (wJ:bQ Z pS=some S) (hK:∀ f1 h1,R f1 h1->∀ v l2,qj v l2->∀ junk w,Sat β (h1++(l2++Z)) w->F (bX N ((dj,v)::f1) junk) w) :
    ∀ (c:List (Nat×Nat)) (fr:Fr) (hps:List HP) (junk:Nat->Value) (w:World),bB (c.map (·.2))=true->j8 dj (bO fr)=false->kU P β N ops Q j dj (dj::c.map (·.2)) fr pj qj->kV P β N ops Q dj c fr hps R->Sat β (hps++(pj++Z)) w->vZ P ops (NP Q) (Sat β S) F j (c.map (·.1)) (bX N fr junk) w
  | [],fr,hps,junk,w,_,hdj,hj,hc,hS=>by
    show wpOp P ops (NP Q) j _ _ _
    refine hj.at_ (X:=hps) hS (fun v l j2 w' g1 g2 g3 g4=>⟨Sat.rest (X:=hps++l) wH wJ (by rw [List.append_assoc];exact g4),?_⟩)
    have e:bX N fr j2=bX N ((dj,v)::fr) j2:=oH fun t=>by
      rw [fU]
      by_cases e1:dj=t
      ·subst e1;rw [if_pos rfl,lU (fun hm=>by rw [jw.2 hm] at hdj;cases hdj),g2]
      rw [if_neg e1]
    rw [e]
    exact hK fr hps hc v l g1 j2 w' g4
  | (i,d)::c,fr,hps,junk,w,hnd,hdj,hj,hc,hS=>by
    obtain⟨⟨h1,h2⟩,q,h3,h4⟩:=hc
    have hout:d∉bO fr:=fun hm=>by rw [jw.2 hm] at h1;cases h1
    refine⟨h3.at_ (X:=[]) hS (fun v' l j2 w' g1 g2 g3 g4=>⟨Sat.rest (X:=l++pj) wH wJ (by rw [List.append_assoc];exact g4),?_⟩),hj.at_ (X:=hps) hS (fun v l j2 w' g1 g2 g3 g4=>⟨Sat.rest (X:=hps++l) wH wJ (by rw [List.append_assoc];exact g4),?_⟩)⟩
    ·have e:bX N fr j2=bX N ((d,v')::fr) j2:=oH fun t=>by
       rw [fU]
       by_cases e1:d=t
       ·subst e1;rw [if_pos rfl,lU hout,g2]
       rw [if_neg e1]
     rw [e]
     have QH:d∉c.map (·.2)/\bB (c.map (·.2))=true:=by
       have hx:bB (d::c.map (·.2))=true:=hnd
       unfold bB at hx
       simp only [Bool.and_eq_true] at hx
       exact⟨fun hm=>by have h:=hx.1;simp_all,hx.2⟩
     refine Dy wH wJ hK c _ l j2 w' QH.2 ?_ (hj.grow hout h2 QH.1 v') (h4 v' l g1) g4
     cases hb:j8 dj (bO ((d,v')::fr)) with
     | false=>rfl
     | true=>
       rcases List.mem_cons.1 (jw.1 hb) with e|e
       ·exact absurd e.symm h2
       rw [jw.2 e] at hdj;cases hdj
    exact Dx wH wJ (fun f1 h1 hr=>hK f1 h1 hr v l g1) ((i,d)::c) fr hps j2 w' hdj ⟨⟨h1,h2⟩,q,h3,h4⟩ g2 g4
theorem iN.beside {j:Nat} {pc:List HP} (pk pS:List Nat) (c:List (Nat×Nat)) (hn:bB pk=true) (hp:bQ hps pk=some (pc++(pj++Z))) (wH:bB pS=true) (wJ:bQ Z pS=some S) (hnd:bB (c.map (·.2))=true) (hdj:j8 dj (bO fr)=false)
    (hj:kU P β N ops Q j dj (dj::c.map (·.2)) fr pj qj) (hc:kV P β N ops Q dj c fr pc R)
    (K:∀ f1 h1,R f1 h1->∀ v l,qj v l->iN P β N ops S es [] ((dj,v)::f1) (h1++(l++Z)) Q):iN P β N ops S (.beside (c.map (·.1)) j::es) [] fr hps Q:=by
  intro junk w hS
  exact Dy (F:=lT P ops (NP Q) (Sat β S) es) wH wJ (fun f1 h1 hr v l2 hv junk w hS=>K f1 h1 hr v l2 hv junk w hS) c fr pc junk w hnd hdj hj hc (hS.pick hn hp)
end Vt
theorem iN.last {o:Oper} (hop:ops[i]?=some o) (hg:o.guard=none) (h:aj P β N #[o] 0 fr hps (NP Q)):iN P β N ops S [.one i] [] fr hps Q:=by
  intro junk w hS
  unfold oW lT
  exact gS hop hg (jG (fun a w hq=>⟨.inl rfl,by unfold lT;exact hq⟩) (show wpList P #[o] (NP Q) [o] (bX N fr junk) w from h junk w hS))
end mix
end
section
open Go.RowKit
def kW (β:Bs) (Φ:Bs->Prop):cr where
  h F w:=∃ β':Bs,β.le β'/\(∀ k,β'.O k->β.O k\/F k)/\(∀ k,F k->β'.O k)/\β'.w0.heap.size<=w.heap.size/\(∀ k,F k->k < β'.w0.heap.size/\w.heap[k]?=β'.w0.heap[k]?)/\Φ β'
  lt:=fun ⟨_,_,_,_,h4,h5,_⟩ k hk=>Nat.lt_of_lt_of_le (h5 k hk).1 h4
  st:=fun ⟨β',h1,h2,h3,h4,h5,h6⟩ _ _ hk hs=>⟨β',h1,h2,h3,Nat.le_trans h4 hk.size,fun k hF=>⟨(h5 k hF).1,(hk.block k (Nat.lt_of_lt_of_le (h5 k hF).1 h4) (hs k hF)).trans (h5 k hF).2⟩,h6⟩
section Oc
variable {P:Program} {β:Bs} {N:Nat} {ops:Array Oper} {k:Nat} {fr:Fr} {hps cR:List HP} {Q:Post} {f:FuncId} {args:Array Value} {pre:List HP}
theorem cC.Oc {ι:Type} {vv:ι->Value} {ll:ι->List HP} {Φ:ι->Bs->Prop} (h:cC P β f args pre (fun β' v l=>∃ x,v=vv x/\l=ll x/\Φ x β')):Spec P β f args pre (fun v l=>∃ x,v=vv x/\l=.abs (kW β (Φ x))::ll x):=by
  intro R w hS
  refine (h R w hS).mono ?_
  rintro e w' ⟨β',v,l,hle,he,⟨x,rfl,rfl,wU⟩,ho,φ,h1,h2,h3⟩
  refine⟨vv x,_,he,⟨x,rfl,rfl⟩,ho.le hle,fun i=>match i with
    | 0=>fun k=>β'.O k/\¬ β.O k
    | i+1=>φ i,fun i p hp=>?_,fun i hi k hk hO=>?_,fun i j hi hj hne k hk hk'=>?_⟩
  ·cases i with
   | zero=>
     have hp:some (HP.abs (kW β (Φ x)))=some p:=hp
     cases hp
     exact⟨β',hle,fun k hk=>(Classical.em (β.O k)).elim .inl (fun hn=>.inr ⟨hk,hn⟩),fun k hk=>hk.1,ho.size,fun k hk=>ho.old k hk.1,wU⟩
   | succ i=>exact h1 i p (by simpa using hp)
  ·cases i with
   | zero=>exact hk.2 hO
   | succ i=>exact h2 i (by simp at hi ⊢;omega) k hk (hle.O k hO)
  cases i with
  | zero=>
    cases j with
    | zero=>exact hne rfl
    | succ j=>exact h2 j (by simp at hj ⊢;omega) k hk' hk.1
  | succ i=>
    cases j with
    | zero=>exact h2 i (by simp at hi ⊢;omega) k hk hk'.1
    | succ j=>exact h3 i j (by simp at hi ⊢;omega) (by simp at hj ⊢;omega) (by omega) k hk hk'
theorem Sat.Fk {Φ:Bs->Prop} {l:List HP} {w:World} (h:Sat β (.abs (kW β Φ)::l) w):∃ β':Bs,β.le β'/\Φ β'/\Sat β' l w:=by
  obtain⟨ho,φ,h1,h2,h3⟩:=h
  have hF:(kW β Φ).h (φ 0) w:=h1 0 _ rfl
  obtain⟨β',g1,g2,g3,g4,g5,g6⟩:=hF
  refine⟨β',g1,g6,⟨ho.os.trans g1.os.symm,ho.tape.trans g1.tape.symm,ho.output.trans g1.output.symm,g4,fun k hk=>?_⟩,fun j=>φ (j+1),fun j p hp=>h1 (j+1) p (by simpa using hp),fun j hj k hk hO=>?_,fun a b ha hb hne=>h3 (a+1) (b+1) (by simp;omega) (by simp;omega) (by omega)⟩
  ·rcases g2 k hk with hb|hb
   ·have e1:=g1.old k hb
    have e2:=ho.old k hb
    exact⟨Nat.lt_of_lt_of_le e1.1 g1.size,e2.2.trans e1.2.symm⟩
   exact g5 k hb
  rcases g2 k hO with hb|hb
  ·exact h2 (j+1) (by simp;omega) k hk hb
  exact h3 (j+1) 0 (by simp;omega) (by simp) (by omega) k hk hb
theorem Spec.Je {Φ:Bs->Prop} {post:Value->List HP->Prop} (h:∀ β':Bs,β.le β'->Φ β'->Spec P β' f args pre post):Spec P β f args (.abs (kW β Φ)::pre) post:=by
  intro R w hS
  obtain⟨β',g1,g2,g3⟩:=Sat.Fk (l:=pre++[.abs R]) hS
  refine (h β' g1 g2 R w g3).mono ?_
  rintro e w' ⟨v,l,h1,h2,h3⟩
  exact⟨v,l,h1,h2,h3.Az g1⟩
end Oc
end
section
open Go.RowKit Go.Maps bD aE
theorem Jf (_:Nat) (f:bP):∀ u∈eX f,u.oneCell'=true:=by
  intro u hu
  simp only [eX,List.mem_cons,List.not_mem_nil,or_false] at hu
  rcases hu with rfl|rfl<;>rfl
theorem MN (_:Nat) (a:cO):∀ u∈fT a,u.oneCell'=true:=by
  intro u hu
  simp only [fT,List.mem_cons,List.not_mem_nil,or_false] at hu
  rcases hu with rfl|rfl|rfl|rfl|rfl<;>rfl
theorem Bz {α:Type} (f:α->List Value) (a:α) (ys:List α):bS f (ys++[a])=bS f ys++f a:=by
  have:∀ (k:Nat) (ys:List α),dK (fun _ x=>f x) k (ys++[a])=dK (fun _ x=>f x) k ys++f a:=fun k ys=>by
    induction ys generalizing k with
    | nil=>exact List.append_nil _
    | cons y r ih=>show f y++dK _ (k+1) (r++[a])=(f y++dK _ (k+1) r)++f a;rw [ih,List.append_assoc]
  exact this 0 ys
theorem Dz {α:Type} {f:α->List Value} {s:Nat} (hf:∀ a,(f a).length=s):∀ xs:List α,(bS f xs).length=xs.length * s:=fun xs=>by
  have:∀ (k:Nat) (xs:List α),(dK (fun _ x=>f x) k xs).length=xs.length * s:=fun k xs=>by
    induction xs generalizing k with
    | nil=>simp [dK]
    | cons y r ih=>show (f y++dK _ (k+1) r).length=_;rw [List.length_append,ih,hf,List.length_cons,Nat.succ_mul,Nat.add_comm]
  exact this 0 xs
structure AZ where
  A:Int->Option Addr
  c:Int->Nat
def AZ.none:AZ:=⟨fun _=>Option.none,fun _=>0⟩
def AZ.put (Z:AZ) (n:Int) (B:Option Addr) (k:Nat):AZ:=⟨fun x=>if x=n then B else Z.A x,fun x=>if x=n then k else Z.c x⟩
def aA (Z:AZ) (xs:List cO) (n:Int):Option Addr:=if bK xs n=[] then .none else Z.A n
def aC (Z:AZ) (xs:List cO) (n:Int):Nat:=if bK xs n=[] then 0 else Z.c n
def zz:Int->Nat
  | .ofNat n=>2 * n
  | .negSucc n=>2 * n+1
def zf (k:Nat):Int:=if k % 2=0 then .ofNat (k / 2) else .negSucc (k / 2)
def fQ (Z:AZ) (xs:List cO):Lit->Option Value
  | .int .i64 n=>if bK xs n=[] then .none else some (.slice (aA Z xs n) (bK xs n).length (aC Z xs n))
  | _=>.none
def eu (fs:List bP):Lit->Option Value
  | .int .i64 n=>if iq fs n=0 then .none else some (.int .i64 (iq fs n))
  | _=>.none
abbrev Ab (Z:AZ) (xs:List cO) (n:Int):cr:=aK 41 5 (aA Z xs n) (bK xs n).length (aC Z xs n) (bS fT (bK xs n))
def mG (Z:AZ) (xs:List cO) (k:Nat):cr:=if bK xs (zf k)=[] then cr.none else Ab Z xs (zf k)
def jX (β:Bs) (Z:AZ) (xs:List cO):Prop:=∀ n,cE β (aA Z xs n) (bS fT (bK xs n))
section z
variable {Z:AZ} {xs:List cO} {n x:Int} {k c:Nat} {B:Option Addr} {a:cO} {β β':Bs} {l l':List HP} {w:World} {i j:Nat}
theorem Fl:∀ n,zf (zz n)=n
  | .ofNat n=>by show zf (2 * n)=_;unfold zf;rw [if_pos (by omega)];exact congrArg Int.ofNat (by omega)
  | .negSucc n=>by show zf (2 * n+1)=_;unfold zf;rw [if_neg (by omega)];exact congrArg Int.negSucc (by omega)
theorem QI (k:Nat):zz (zf k)=k:=by
  unfold zf
  split
  ·show 2 * (k / 2)=k;omega
  show 2 * (k / 2)+1=k;omega
theorem jX.le (h:jX β Z xs) (g:β.le β'):jX β' Z xs:=fun n=>(h n).le g
theorem Ac:(fQ Z xs (.int .i64 n)).getD (.slice .none 0 0)=.slice (aA Z xs n) (bK xs n).length (aC Z xs n):=by
  unfold fQ
  by_cases h:bK xs n=[]
  ·simp only
   rw [if_pos h]
   unfold aA aC
   rw [if_pos h,if_pos h,h];rfl
  simp only
  rw [if_neg h];rfl
theorem DA {fs:List bP}:(eu fs (.int .i64 n)).getD (.int .i64 0)=.int .i64 (iq fs n):=by
  unfold eu
  simp only
  split
  ·rename_i h;rw [h];rfl
  rfl
theorem MO:fQ Z []=fun _=>.none:=funext fun l=>by
  unfold fQ
  split<;>rfl
theorem KL:eu []=fun _=>.none:=funext fun l=>by
  unfold eu
  split<;>rfl
theorem tX {m:Int} (h:m≠a.at_):bK (xs++[a]) m=bK xs m:=by
  rw [ze,if_neg (fun e=>h e.symm)]
theorem tY:bK (xs++[a]) a.at_=bK xs a.at_++[a]:=by
  rw [ze,if_pos rfl]
theorem Od {m:Int} (h:m≠a.at_):aA (Z.put a.at_ B c) (xs++[a]) m=aA Z xs m:=by
  unfold aA AZ.put
  rw [tX h]
  simp only
  rw [if_neg h]
theorem Oe {m:Int} (h:m≠a.at_):aC (Z.put a.at_ B c) (xs++[a]) m=aC Z xs m:=by
  unfold aC AZ.put
  rw [tX h]
  simp only
  rw [if_neg h]
theorem Og:aA (Z.put a.at_ B c) (xs++[a]) a.at_=B:=by
  unfold aA AZ.put
  rw [tY,if_neg (by simp)]
  simp
theorem Oh:aC (Z.put a.at_ B c) (xs++[a]) a.at_=c:=by
  unfold aC AZ.put
  rw [tY,if_neg (by simp)]
  simp
theorem Hu {f g:Lit->Option Value} {v:Option Value} (hv:g (.int .i64 n)=v) (ho:∀ l,l≠.int .i64 n->g l=f l):upd f (.int .i64 n) v=g:=funext fun l=>by
  unfold upd
  by_cases h:l.sameKey (.int .i64 n)=true
  ·rw [if_pos h]
   have:l=.int .i64 n:=by
     cases l with
     | int q a=>simp [Lit.sameKey] at h;obtain⟨rfl,rfl⟩:=h;rfl
     | _=>simp [Lit.sameKey] at h
   rw [this,hv]
  rw [if_neg h,ho l (fun e=>h (by rw [e];simp [Lit.sameKey]))]
theorem MP:upd (fQ Z xs) (.int .i64 a.at_) (some (.slice B ((bK xs a.at_).length+1) c))=fQ (Z.put a.at_ B c) (xs++[a]):=by
  refine Hu ?_ (fun l h=>?_)
  ·unfold fQ
   simp only
   rw [tY,if_neg (by simp),Og,Oh,List.length_append];rfl
  unfold fQ
  split
  ·rename_i m
   have hm:m≠a.at_:=fun e=>h (by rw [e])
   rw [tX hm,Od hm,Oe hm]
  rfl
theorem KM {fs:List bP} {f:bP} (h:FK f) (h0:iq fs f.at_=0):upd (eu fs) (.int .i64 f.at_) (some (.int .i64 f.kind))=eu (fs++[f]):=by
  have hk:¬ f.kind=0:=by have:=h.1;omega
  refine Hu ?_ (fun l hl=>?_)
  ·unfold eu
   simp only
   have e:iq (fs++[f]) f.at_=f.kind:=by rw [rO,if_pos h0,if_pos (show f.at_=f.at_/\FK f from ⟨rfl,h⟩)]
   rw [e,if_neg hk]
  unfold eu
  split
  ·rename_i m
   have hm:¬ (f.at_=m/\FK f):=fun e=>hl (by rw [e.1])
   rw [rO,if_neg hm]
   by_cases h2:iq fs m=0
   ·rw [if_pos h2,h2]
   rw [if_neg h2]
  rfl
theorem wh {fs:List bP} {f:bP} (h:¬ FK f\/iq fs f.at_≠0):eu (fs++[f])=eu fs:=funext fun l=>by
  unfold eu
  split
  ·rename_i m
   have:iq (fs++[f]) m=iq fs m:=by
     rw [rO]
     by_cases h2:iq fs m=0
     ·rw [if_pos h2,if_neg (fun e=>?_),h2]
      rcases h with h|h
      ·exact h e.2
      exact h (by rw [e.1];exact h2)
     rw [if_neg h2]
   rw [this]
  rfl
theorem Sat.QJ (h:Sat β l w):Sat β (l++[.abs (ax (mG AZ.none []))]) w:=h.Ea _ (fun _=>if_pos rfl)
theorem Sat.Pn (h:Sat β l w) (hp:l[i]?=some (.abs (ax (mG Z xs)))) (n:Int):Sat β (l.set i (.abs (ax (kD (mG Z xs) (zz n) cr.none)))++[.abs (Ab Z xs n)]) w:=by
  have h1:=h.A6 hp (zz n)
  by_cases e:bK xs n=[]
  ·have e2:Ab Z xs n=aK 41 5 .none 0 0 []:=by
     unfold Ab aA aC
     rw [if_pos e,if_pos e,e];rfl
   rw [e2]
   exact (Sat.left h1).j7 (e:=41) (size:=5)
  have e2:mG Z xs (zz n)=Ab Z xs n:=by
    unfold mG
    rw [Fl,if_neg e]
  rw [e2] at h1
  exact h1
theorem Sat.QK {idx:List Nat} (h:Sat β l w) (hp:l[i]?=some (.abs (ax (kD (mG Z xs) (zz a.at_) cr.none)))) (hq:l[j]?=some (.abs (aK 41 5 B ((bK xs a.at_).length+1) c (bS fT (bK xs a.at_)++fT a)))) (hn:bB (i::j::idx)=true) (hl:bQ l idx=some l') :
    Sat β (.abs (ax (mG (Z.put a.at_ B c) (xs++[a])))::l') w:=by
  refine h.qo hp hq (fun _ _ h=>h) hn hl (zz a.at_) (fun x hx=>?_) ?_
  ·have hne:zf x≠a.at_:=fun e=>hx (by rw [← e,QI])
   unfold kD
   rw [if_neg hx]
   unfold mG Ab
   rw [tX hne,Od hne,Oe hne]
  unfold mG Ab
  rw [Fl,tY,if_neg (by simp),Og,Oh]
  rw [Bz,List.length_append];rfl
theorem jX.of {F:Fp} (h:(HP.abs (ax (mG Z xs))).h F w) (h1:∀ k,F k->β.O k) (h2:β.w0=w):jX β Z xs:=fun n=>by
  by_cases e:bK xs n=[]
  ·rw [e];exact fun j v hj=>by simp [bS,dK] at hj
  obtain⟨φ,g1,_,g3⟩:=h
  have h3:=g1 (zz n)
  unfold mG at h3
  rw [Fl,if_neg e] at h3
  exact cE.kQ h3 (fun k hk=>h1 k ((g3 k).2 ⟨_,hk⟩)) h2
end z
theorem Fm {xs:List cO} {i:Nat} (h:i < xs.length):xs.take (i+1)=xs.take i++[act xs i]:=by
  rw [List.take_add_one,sj h];rfl
theorem wi {fs:List bP} {i:Nat} (h:i < fs.length):fs.take (i+1)=fs.take i++[jT fs i]:=by
  rw [List.take_add_one,yN h];rfl
theorem KN {n:Nat} (h:n<=9223372036854775807):(Lit.int .i64 (n:Int)).wf=true:=by
  simp [Lit.wf,IntKind.min,IntKind.max,IntKind.signed,IntKind.bits]
  omega
theorem MQ {d:List UInt8} {m j:Nat} {v:Value} (h:(bY (d.take m))[j]?=some v):(bY d)[j]?=some v:=by
  unfold bY at h ⊢
  rw [List.getElem?_map] at h ⊢
  rw [List.getElem?_take] at h
  split at h
  ·exact h
  cases h
theorem GA {β:Bs} {c:aF} (h:gh β c):gh β { c with data:=c.data.take (c.data.length / 2) }:=⟨h.hw,h.ow,h.nm,h.tx,fun j v hj=>h.da j v (MQ hj),by
  show (c.data.take _).length<=_
  rw [List.length_take];have:=h.dl;omega,by
  show (c.data.take _).length<=c.dC
  rw [List.length_take];have:=h.dc;omega⟩
structure WG where
  w:Nat
  o:Nat
  q:Nat
  am:Nat
  km:Nat
  an:Nat
  kn:Nat
  f:Nat
  m:Nat
  t:Nat
  Z:AZ
structure WV where
  L:HL
  A:Option Addr
  c:Nat
abbrev wB (w o f:Nat) (root:Int) (A:Option Addr) (n c:Nat):HP:=.blk w [.iface 42 (vP w),vP f,.iface 180 (vP o),.int .i64 root,.slice A n c] 93
abbrev oB (o q f:Nat) (root:Int) (am n:Nat):HP:=.blk o [.iface 181 (vP q),vP f,.int .i64 root,.map (some am),.int .i64 n] 185
abbrev qB (q f km n:Nat):HP:=.blk q [.iface 54 (vP f),.map (some km),.int .i64 n] 183
abbrev aM (am an:Nat) (Z:AZ) (xs:List cO):HP:=.abs (aL Tryz.prog 3 am (fQ Z xs) an)
abbrev kM (km kn:Nat) (fs:List bP):HP:=.abs (aL Tryz.prog 3 km (eu fs) kn)
abbrev tR (A:Option Addr) (c:Nat) (tr:List aF):HP:=.abs (aK 48 13 A tr.length c (bS bN tr))
abbrev wP (G:WG) (fs:List bP) (xs:List cO) (root:Int) (S:aH) (V:WV) (tr:List aF):List HP:=[wB G.w G.o G.f root V.A tr.length V.c,oB G.o G.q G.f root G.am tr.length,qB G.q G.f G.km tr.length,aM G.am G.an G.Z xs,kM G.km G.kn fs,tR V.A V.c tr]++pA G.f G.m G.t V.L S
def wA (G:WG) (fs:List bP) (xs:List cO) (root:Int) (S:aH) (V:WV) (tr:List aF):HP:=.abs (fS (wP G fs xs root S V tr))
def Wo (β:Bs) (tr:List aF):Prop:=∀ c∈tr,bA β c.dA c.data/\c.data.length<=1048576
theorem Spec.one {P:Program} {β:Bs} {f:FuncId} {args:Array Value} {pre:List HP} {post:Value->List HP->Prop} (h:Spec P β f args pre post):Spec P β f args [.abs (fS pre)] (fun v l=>∃ l0,post v l0/\l=[.abs (fS l0)]):=by
  intro R w hS
  have h1:Sat β ([.abs R]++[.abs (fS pre)]) w:=Sat.turn hS
  refine (h R w (Sat.turn h1.qv)).mono ?_
  rintro e w' ⟨v,l,h2,h3,h4⟩
  exact⟨v,[.abs (fS l)],h2,⟨l,h3,rfl⟩,Sat.turn (Sat.fS (Sat.turn h4))⟩
theorem cC.one {P:Program} {β:Bs} {f:FuncId} {args:Array Value} {pre:List HP} {post:Bs->Value->List HP->Prop} (h:cC P β f args pre post):cC P β f args [.abs (fS pre)] (fun β' v l=>∃ l0,post β' v l0/\l=[.abs (fS l0)]):=by
  intro R w hS
  have h1:Sat β ([.abs R]++[.abs (fS pre)]) w:=Sat.turn hS
  refine (h R w (Sat.turn h1.qv)).mono ?_
  rintro e w' ⟨β',v,l,hle,h2,h3,h4⟩
  exact⟨β',v,[.abs (fS l)],hle,h2,⟨l,h3,rfl⟩,Sat.turn (Sat.fS (Sat.turn h4))⟩
theorem ai.Fk {β:Bs} {N:Nat} {Q:Post} {e:Exit} {fr:Fr} {hps cR:List HP} {Φ:Bs->Prop} (i:Nat) (idx:List Nat) (hp:hps[i]?=some (.abs (kW β Φ))) (hn:bB (i::idx)=true) (hl:bQ hps idx=some cR) (K:∀ β':Bs,β.le β'->Φ β'->ai β' N Q e fr cR):ai β N Q e fr hps:=fun junk w hS=>by
  obtain⟨β',g1,g2,g3⟩:=(hS.pick (idx:=i::idx) (l':=.abs (kW β Φ)::cR) hn (by simp only [bQ,hp,hl])).Fk
  exact K β' g1 g2 junk w g3
theorem cC.Je {P:Program} {β:Bs} {f:FuncId} {args:Array Value} {pre:List HP} {Φ:Bs->Prop} {post:Bs->Value->List HP->Prop} (h:∀ β':Bs,β.le β'->Φ β'->cC P β' f args pre post):cC P β f args (.abs (kW β Φ)::pre) post:=by
  intro A w hS
  obtain⟨β',g1,g2,g3⟩:=Sat.Fk (l:=pre++[.abs A]) hS
  refine (h β' g1 g2 A w g3).mono ?_
  rintro e w' ⟨β'',v,l,hle,h2⟩
  exact⟨β'',v,l,g1.trans hle,h2⟩
theorem cC.QL {P:Program} {β:Bs} {f:FuncId} {args:Array Value} {R:List HP} {post:Bs->Value->List HP->Prop} (h:∀ β':Bs,qU β R β'->cC P β' f args [] post):cC P β f args R post:=by
  intro A w hS
  have h4:Sat β ([.abs A]++R) w:=Sat.turn hS
  obtain⟨β',g1,_,g3⟩:=h4.Cq
  refine (h β' g1 A w g3).mono ?_
  rintro e w' ⟨β'',v,l,hle,h2⟩
  exact⟨β'',v,l,g1.le.trans hle,h2⟩
theorem cC.QM {P:Program} {β:Bs} {f:FuncId} {args:Array Value} {pre:List HP} {post:Value->List HP->Prop} (h:cC P β f args pre (fun _ v l=>post v l)):Spec P β f args pre post:=by
  intro A w hS
  refine (h A w hS).mono ?_
  rintro e w' ⟨β',v,l,hle,h2,h3,h4⟩
  exact⟨v,l,h2,h3,h4.Az hle⟩
theorem cC.QN {P:Program} {β:Bs} {f:FuncId} {args:Array Value} {pre:List HP} {post post':Bs->Value->List HP->Prop} (h:cC P β f args pre post) (hp:∀ β' v l,post β' v l->(l=[]/\post' β' v [])\/post' β' v [.abs (fS l)]):cC P β f args pre post':=by
  intro R w hS
  refine (h R w hS).mono ?_
  rintro e w' ⟨β',v,l,hle,h2,h3,h4⟩
  rcases hp β' v l h3 with ⟨rfl,h5⟩|h5
  ·exact⟨β',v,[],hle,h2,h5,h4⟩
  exact⟨β',v,[.abs (fS l)],hle,h2,h5,Sat.turn (Sat.fS (Sat.turn h4))⟩
end
section
open Go.RowKit Go.Maps
structure CJ (ns:List aB) (i j:Nat):Prop where
  QO:i < ns.length
  DB:j < (nd ns i).ah.length
  dir:(nd ns (tgt ns (ent ns i j).id)).kind=2
section
variable {ns:List aB}
theorem sY {i m:Nat} {p:Nat×Nat}:p∈dz ns i m↔∃ j,j < m/\(nd ns (tgt ns (ent ns i j).id)).kind=2/\p=(tgt ns (ent ns i j).id,i):=by
  induction m with
  | zero=>simp [dz]
  | succ m ih=>
    by_cases h:(nd ns (tgt ns (ent ns i m).id)).kind=2
    ·rw [pW h,List.mem_cons,ih]
     refine⟨fun hp=>?_,fun ⟨j,hj,h1,h2⟩=>?_⟩
     ·rcases hp with rfl|⟨j,hj,h1,h2⟩
      ·exact⟨m,Nat.lt_succ_self m,h,rfl⟩
      exact⟨j,Nat.lt_succ_of_lt hj,h1,h2⟩
     rcases Nat.lt_succ_iff_lt_or_eq.1 hj with e|e
     ·exact .inr ⟨j,e,h1,h2⟩
     subst e;exact .inl h2
    rw [tP h,ih]
    refine⟨fun ⟨j,hj,h1⟩=>⟨j,Nat.lt_succ_of_lt hj,h1⟩,fun ⟨j,hj,h1,h2⟩=>?_⟩
    rcases Nat.lt_succ_iff_lt_or_eq.1 hj with e|e
    ·exact⟨j,e,h1,h2⟩
    subst e;exact absurd h1 h
theorem wj {m:Nat} {p:Nat×Nat}:p∈fO ns m↔∃ i j,i < m/\j < (nd ns i).ah.length/\(nd ns (tgt ns (ent ns i j).id)).kind=2/\p=(tgt ns (ent ns i j).id,i):=by
  induction m with
  | zero=>simp [fO]
  | succ m ih=>
    rw [fO,List.mem_append,sY,ih]
    refine⟨fun h=>?_,fun ⟨i,j,hi,hj,h1,h2⟩=>?_⟩
    ·rcases h with ⟨j,hj,h1,h2⟩|⟨i,j,hi,h⟩
     ·exact⟨m,j,Nat.lt_succ_self m,hj,h1,h2⟩
     exact⟨i,j,Nat.lt_succ_of_lt hi,h⟩
    rcases Nat.lt_succ_iff_lt_or_eq.1 hi with e|e
    ·exact .inr ⟨i,j,e,hj,h1,h2⟩
    subst e;exact .inl ⟨j,hj,h1,h2⟩
theorem CJ.mem {i j:Nat} (h:CJ ns i j):(tgt ns (ent ns i j).id,i)∈fO ns ns.length:=wj.2 ⟨i,j,h.QO,h.DB,h.dir,rfl⟩
def Oi (ns:List aB) (m:Nat):Prop:=∀ i j i' j',CJ ns i j->CJ ns i' j'->i < m->i' < m->tgt ns (ent ns i j).id=tgt ns (ent ns i' j').id->i=i'/\j=j'
theorem KO {i m:Nat} (h:((dz ns i m).map Prod.fst).Nodup):∀ j j',j < m->j' < m->(nd ns (tgt ns (ent ns i j).id)).kind=2->(nd ns (tgt ns (ent ns i j').id)).kind=2->tgt ns (ent ns i j).id=tgt ns (ent ns i j').id->j=j':=by
  induction m with
  | zero=>intro j j' hj;omega
  | succ m ih=>
    intro j j' hj hj' hk hk' e
    by_cases hm:(nd ns (tgt ns (ent ns i m).id)).kind=2
    ·rw [pW hm,List.map_cons,List.nodup_cons] at h
     rcases Nat.lt_succ_iff_lt_or_eq.1 hj with e1|e1
     ·rcases Nat.lt_succ_iff_lt_or_eq.1 hj' with e2|e2
      ·exact ih h.2 j j' e1 e2 hk hk' e
      subst e2;exact absurd (List.mem_map.2 ⟨_,sY.2 ⟨j,e1,hk,rfl⟩,e⟩) h.1
     rcases Nat.lt_succ_iff_lt_or_eq.1 hj' with e2|e2
     ·subst e1;exact absurd (List.mem_map.2 ⟨_,sY.2 ⟨j',e2,hk',rfl⟩,e.symm⟩) h.1
     omega
    rw [tP hm] at h
    rcases Nat.lt_succ_iff_lt_or_eq.1 hj with e1|e1
    ·rcases Nat.lt_succ_iff_lt_or_eq.1 hj' with e2|e2
     ·exact ih h j j' e1 e2 hk hk' e
     subst e2;exact absurd hk' hm
    subst e1;exact absurd hk hm
theorem KP {m:Nat} (h:((fO ns m).map Prod.fst).Nodup):Oi ns m:=by
  induction m with
  | zero=>intro i j i' j' _ _ hi;omega
  | succ m ih=>
    rw [fO,List.map_append] at h
    obtain⟨h1,h2,h3⟩:=List.nodup_append.1 h
    intro i j i' j' g g' hi hi' e
    rcases Nat.lt_succ_iff_lt_or_eq.1 hi with e1|e1
    ·rcases Nat.lt_succ_iff_lt_or_eq.1 hi' with e2|e2
     ·exact ih h2 i j i' j' g g' e1 e2 e
     subst e2
     exact absurd e.symm (h3 _ (List.mem_map.2 ⟨_,sY.2 ⟨j',g'.DB,g'.dir,rfl⟩,rfl⟩) _ (List.mem_map.2 ⟨_,wj.2 ⟨i,j,e1,g.DB,g.dir,rfl⟩,rfl⟩))
    rcases Nat.lt_succ_iff_lt_or_eq.1 hi' with e2|e2
    ·subst e1
     exact absurd e (h3 _ (List.mem_map.2 ⟨_,sY.2 ⟨j,g.DB,g.dir,rfl⟩,rfl⟩) _ (List.mem_map.2 ⟨_,wj.2 ⟨i',j',e2,g'.DB,g'.dir,rfl⟩,rfl⟩))
    subst e1;subst e2
    exact⟨rfl,KO h1 j j' g.DB g'.DB g.dir g'.dir e⟩
def Hv (ns:List aB) (d:Nat->Nat):Prop:=∀ i j,CJ ns i j->d i < d (tgt ns (ent ns i j).id)
theorem bh.uniq (h:bh ns):Oi ns ns.length:=KP h.nodup
theorem bh.deep (h:bh ns):∃ d,Hv ns d:=by
  refine⟨fun k=>Classical.choose (h.ends (nd ns k).id),fun i j g=>?_⟩
  have hp:=zK (ns:=ns) (Nat.le_refl _) h.ah
  have hat:=(h.ah i g.QO j g.DB).at_
  have htl:=jd hat
  have e1:=Classical.choose_spec (h.ends (nd ns i).id)
  have e2:=Classical.choose_spec (h.ends (nd ns (tgt ns (ent ns i j).id)).id)
  show Classical.choose (h.ends (nd ns i).id) < Classical.choose (h.ends (nd ns (tgt ns (ent ns i j).id)).id)
  generalize Classical.choose (h.ends (nd ns i).id)=x at e1 ⊢
  generalize Classical.choose (h.ends (nd ns (tgt ns (ent ns i j).id)).id)=y at e2 ⊢
  cases hu:up ((fO ns ns.length).map (jk ns)) (nd ns (tgt ns (ent ns i j).id)).id with
  | none=>
    have:=GY hu
    exact absurd (List.mem_map.2 ⟨_,g.mem,rfl⟩) this
  | some z=>
    obtain⟨_,p,g1,g2,g3⟩:=GZ h.rise htl.1 (fun p hp'=>(hp p hp').1) hu
    obtain⟨a,b,ha,hb,hk,rfl⟩:=wj.1 g1
    have g2:tgt ns (ent ns a b).id=tgt ns (ent ns i j).id:=g2
    obtain⟨rfl,rfl⟩:=h.uniq a b i j ⟨ha,hb,hk⟩ g ha g.QO g2
    have g3:z=(nd ns a).id:=g3
    cases y with
    | zero=>
      have e2:up _ _=none:=e2
      rw [hu] at e2;cases e2
    | succ y=>
      obtain⟨z',h1,h2⟩:=e2
      rw [hu] at h1
      cases h1
      rw [g3] at h2
      have:=e1.uniq h2
      show x < y+1
      omega
end
end
section
open Go.RowKit Go.Maps bD aE
structure jC (X:FM):Prop where
  cN:0<=X.cN/\X.cN<=4096
  cB:0<=X.cB/\X.cB<=1099511627776
  cH:0<=X.cH/\X.cH<=1024
  now:dU X.cS X.cZ
def fk (n:aB):Nat:=n.id.toNat
def oY (n:aB):Th:=⟨fk n,n.kind⟩
def pH (n:aB):aR:=⟨n.id,n.mode,n.uid,n.gid,n.sec,n.nano,0,0,false,n.kind,n.data,n.target,[],none⟩
def Eh:aR:=⟨0,0,0,0,0,0,0,0,false,0,[],⟨#[]⟩,[],none⟩
def gX (X:FM):aH:=⟨{ X with last:=0,ah:=0,used:=0 },fun _=>Eh,[],[],0⟩
def cG (S:aH) (n:aB):aH:={ S with X:={ S.X with last:=n.id,used:=S.X.used+n.data.length },O:=aD S.O (fk n) (fun _=>pH n),idx:=ins n.id (oY n) S.idx }
def kX (ns:List aB) (e:jt):Th:=oY (nd ns (tgt ns e.id))
def kY (ns:List aB) (S:aH) (n:aB) (e:jt):aH:={ S with X:={ S.X with ah:=S.X.ah+1 },O:=ny S.O (fk n) e.name (kX ns e) }
def sZ (ns:List aB):Nat->Nat
  | 0=>0
  | k+1=>sZ ns k+(nd ns k).data.length
def CK (ns:List aB):Used Th:=ns.map (fun n=>(n.id,oY n))
structure mw (X:FM) (ns:List aB) (k:Nat) (S:aH):Prop where
  inv:Inv0 S
  idx:S.idx=CK (ns.take k)
  us:S.us=[]
  ay:S.ay=0
  cap:S.X={ X with last:=lW ns k,ah:=0,used:=(sZ ns k:Int) }
  ob:∀ a,a < k->obj S.O (fk (nd ns a))=pH (nd ns a)
  free:∀ x,(∀ a,a < k->x≠fk (nd ns a))->obj S.O x=Eh
section base
variable {X:FM} {ns:List aB} {i j k a b:Nat} {S:aH}
theorem xV (h:bh ns) (hk:k < ns.length):(fk (nd ns k):Int)=(nd ns k).id:=by
  have:=h.ids k hk
  unfold fk;omega
theorem su (h:bh ns) (ha:a < ns.length) (hb:b < ns.length) (e:fk (nd ns a)=fk (nd ns b)):a=b:=
  h.rise.inj ha hb (by rw [← xV h ha,← xV h hb,e])
theorem xW (hk:k < ns.length):ns[k]?=some (nd ns k):=getD_some hk
theorem Po (hk:k < ns.length):ns.take (k+1)=ns.take k++[nd ns k]:=by
  rw [List.take_add_one,xW hk];rfl
theorem KQ (hX:jC X):mw X ns 0 (gX X):=by
  refine⟨?_,rfl,rfl,rfl,rfl,fun a h=>absurd h (Nat.not_lt_zero a),fun _ _=>rfl⟩
  have hn:∀ t,¬ Live ([]:Used Th) t:=fun t h=>by cases h
  exact⟨hX.cN,hX.cB,hX.cH,hX.now,by show (0:Int)<=0/\(0:Int)<=_;omega,.nil,Nat.zero_le _,fun _ _ e=>(by cases e),fun t h=>absurd h (hn t),fun t h=>absurd h (hn t),fun t h=>absurd h (hn t),fun t h=>absurd h (hn t),
    fun _ _=>⟨rfl,rfl⟩,fun _ _=>rfl,⟨rfl,by show (0:Int)<=8192;omega⟩,fun t h=>absurd h (hn t),fun t h=>absurd h (hn t),fun t h=>absurd h (hn t),.nil,fun x hx=>(by cases hx),(by show ((0:Nat):Int)<=X.cH;have:=hX.cH;omega),⟨Int.le_refl _,hX.cH.1⟩,fun _ _ e=>(by cases e),fun t h=>absurd h (hn t),fun t h=>absurd h (hn t),⟨fun _=>0,fun k d e=>(by cases e)⟩,⟨rfl,by show (0:Int)<=_;omega⟩⟩
theorem Hw (h:bh ns) (hk:k < ns.length):∀ x∈keys (CK (ns.take k)),x < (nd ns k).id:=by
  intro x hx
  obtain⟨p,hp,rfl⟩:=List.mem_map.1 hx
  obtain⟨n,hn,rfl⟩:=List.mem_map.1 hp
  obtain⟨a,ha,e⟩:=List.mem_iff_getElem.1 hn
  rw [List.length_take] at ha
  rw [List.getElem_take] at e
  have e2:nd ns a=n:=by
    have:=xW (ns:=ns) (k:=a) (by omega)
    rw [List.getElem?_eq_getElem (by omega),e] at this
    exact (Option.some.inj this).symm
  rw [← e2]
  exact h.rise a k (by omega) hk
theorem DC (hd:∀ i,i < ns.length->(nd ns i).data.length<=1048576) (hk:k<=ns.length):sZ ns k<=1048576 * k:=by
  induction k with
  | zero=>exact Nat.le_refl _
  | succ k ih=>
    have h1:=ih (by omega)
    have h2:=hd k hk
    show sZ ns k+(nd ns k).data.length<=_
    omega
theorem xX (h:bh ns) (hd:∀ i,i < ns.length->(nd ns i).data.length<=1048576) (hk:k < ns.length) (hB:mw X ns k S):mw X ns (k+1) (cG S (nd ns k)):=by
  have hs:=DC hd (Nat.le_of_lt hk)
  have hn:=h.node k hk
  have hid:=xV h hk
  have MR:=h.ids k hk
  have hu:S.X.used=(sZ ns k:Int):=by rw [hB.cap]
  have hl:S.X.last=lW ns k:=by rw [hB.cap]
  have hlen:=h.len
  have hdk:=hd k hk
  have V5:S.idx.length=k:=by
    rw [hB.idx];unfold CK;rw [List.length_map,List.length_take];omega
  have h1:=hB.inv.newAt (k0:=fk (nd ns k)) (o:=pH (nd ns k)) (kL:=S.X.used+(nd ns k).data.length) (us':=S.us) (gu:=S.ay) (by rw [hid,hl];exact h.last hk) (by rw [hid];exact MR.2) ⟨rfl,by rw [hu];omega⟩ hid.symm
    (by have:=hn.kind;show (nd ns k).kind=1\/(nd ns k).kind=2\/(nd ns k).kind=3;omega) rfl rfl rfl rfl
    ⟨hn.mode,hn.uid,hn.gid,hn.time,fun e=>List.eq_nil_of_length_eq_zero (hn.data e),fun _=>rfl,hn.target⟩ (by omega)
    hB.inv.usr hB.inv.xI hB.inv.Dq hB.inv.ay (fun h t e=>⟨.inl (hB.inv.us h t e).1,(hB.inv.us h t e).2⟩) (fun _ _=>rfl) (by rw [hB.us];rfl)
  rw [hid] at h1
  refine⟨h1,?_,hB.us,hB.ay,?_,fun a ha=>?_,fun x hx=>(show obj (aD S.O (fk (nd ns k)) fun _=>pH (nd ns k)) x=Eh from (bZ (hx k (Nat.lt_succ_self k))).trans (hB.free x fun a ha=>hx a (Nat.lt_succ_of_lt ha)))⟩
  ·show ins (nd ns k).id (oY (nd ns k)) S.idx=_
   rw [hB.idx,Mc (Hw h hk),Po hk]
   unfold CK;rw [List.map_append];rfl
  ·show ({ S.X with last:=(nd ns k).id,used:=S.X.used+((nd ns k).data.length:Int) }:FM)=_
   rw [hu,hB.cap]
   show (⟨_,_,_,_,_,_,_,_⟩:FM)=⟨_,_,_,_,_,_,_,_⟩
   congr 1
  show obj (aD S.O (fk (nd ns k)) (fun _=>pH (nd ns k))) (fk (nd ns a))=_
  rcases Nat.lt_succ_iff_lt_or_eq.1 ha with e|e
  ·rw [bZ (fun e2=>by have:=su h (by omega) hk e2;omega)]
   exact hB.ob a e
  subst e;exact bL
theorem mw.fresh (h:bh ns) (hk:k < ns.length) (hB:mw X ns k S):tT S.O S.idx S.us (fk (nd ns k)):=hB.inv.CA (by rw [xV h hk,hB.cap];exact h.last hk)
theorem mw.new (h:bh ns) (hk:k < ns.length) (hB:mw X ns k S):aE.get S.idx (nd ns k).id=none:=get_none.2 (fun hm=>by
  rw [hB.idx] at hm
  exact absurd (Hw h hk _ hm) (by omega))
theorem Ad (X:FM) (L:HL):(∀ k,bI (gX X).O L k=cr.none)/\(∀ k,bJ (gX X).O L k=cr.none)/\∀ k,cK (gX X).O L k=cr.none:=⟨fun _=>if_pos rfl,fun _=>if_neg (by show ¬ (0:Int)=1;omega),fun _=>if_neg (by show ¬ (0:Int)=2;omega)⟩
theorem Sat.SE {β:Bs} {l l':List HP} {w:World} {i j b m c:Nat} {ix:List Nat} {O:bT} {L L':HL} {A:Option Addr} {o:aR} (h:Sat β l w) (hL:L'=L.put k b m A c) (hp:l[i]?=some (.abs (ax (bJ O L)))) (hq:l[j]?=some (.abs (aK 5 1 A o.data.length c (bY o.data)))) (hd:bB (i::j::ix)=true) (hl:bQ l ix=some l') (h1:o.kind=1):Sat β (.abs (ax (bJ (aD O k (fun _=>o)) L'))::l') w:=by
  refine h.qo hp hq (fun _ _ h=>h) hd hl k (fun x hx=>by rw [xw hx,yL hL hx]) ?_
  rw [sG (by rw [bL];exact h1),bL]
  subst hL
  simp only [HL.put,if_true]
end base
theorem Pp {O:bT} {L:HL} {d:Nat} {name:ByteArray} {t:Th}:bJ (ny O d name t) L=bJ O L:=
  sK (fun _=>zO (g:=aR.data) (fun _ _=>rfl) (fun _ _=>rfl) (fun _ _=>rfl)) (fun _=>xB)
def mH (ns:List aB) (i j a:Nat):Nat:=if a < i then (nd ns a).ah.length else if a=i then j else 0
def oZ (ns:List aB) (a m:Nat):fF Th:=((nd ns a).ah.take m).map (fun e=>(e.name,kX ns e))
structure eY (X:FM) (ns:List aB) (i j:Nat) (S:aH):Prop where
  inv:Inv0 S
  idx:S.idx=CK ns
  us:S.us=[]
  ay:S.ay=0
  cap:S.X={ X with last:=lW ns ns.length,ah:=((eO ns i+j:Nat):Int),used:=(sZ ns ns.length:Int) }
  ob:∀ a,a < ns.length->∃ l u,obj S.O (fk (nd ns a))={ pH (nd ns a) with links:=l,ah:=oZ ns a (mH ns i j a),up:=u }
  free:∀ x,(∀ a,a < ns.length->x≠fk (nd ns a))->obj S.O x=Eh
section ah
variable {X:FM} {ns:List aB} {i j k a b m:Nat} {S:aH} {t:Th}
theorem mw.ah (h:mw X ns ns.length S):eY X ns 0 0 S:=by
  refine⟨h.inv,by rw [h.idx,List.take_of_length_le (Nat.le_refl _)],h.us,h.ay,h.cap,fun a ha=>⟨0,none,?_⟩,h.free⟩
  rw [h.ob a ha]
  have:mH ns 0 0 a=0:=by
    unfold mH;rw [if_neg (Nat.not_lt_zero a)];split<;>rfl
  rw [this];rfl
theorem eY.get (h:eY X ns i j S) (ha:a < ns.length):aE.get S.idx (nd ns a).id=some (oY (nd ns a)):=by
  refine mY h.inv.rise ?_
  rw [h.idx]
  exact List.mem_map.2 ⟨nd ns a,List.mem_of_getElem? (xW ha),rfl⟩
theorem eY.live (hG:bh ns) (h:eY X ns i j S) (ha:a < ns.length):Live S.idx (oY (nd ns a)):=by
  have:=h.get ha
  rw [← xV hG ha] at this
  exact this
theorem eY.of (h:eY X ns i j S) {x:Int} (e:aE.get S.idx x=some t):∃ a,a < ns.length/\t=oY (nd ns a):=by
  have hm:=get_mem e
  rw [h.idx] at hm
  obtain⟨n,hn,e2⟩:=List.mem_map.1 hm
  obtain⟨a,ha,e3⟩:=List.mem_iff_getElem.1 hn
  have e4:nd ns a=n:=by
    have:=xW ha
    rw [List.getElem?_eq_getElem ha,e3] at this
    exact (Option.some.inj this).symm
  cases e2
  exact⟨a,ha,by rw [e4]⟩
theorem Fo {es:List jt} {q:Nat} (hq:q < es.length):es[q]?=some (en es q):=getD_some hq
theorem wk {e:ByteArray×Th} (h:e∈oZ ns a m):∃ q,q < m/\q < (nd ns a).ah.length/\e.1=(ent ns a q).name/\e.2=kX ns (ent ns a q):=by
  obtain⟨x,hx,rfl⟩:=List.mem_map.1 h
  obtain⟨q,hq,e⟩:=List.mem_iff_getElem.1 hx
  rw [List.length_take] at hq
  rw [List.getElem_take] at e
  have e2:ent ns a q=x:=by
    have:=Fo (es:=(nd ns a).ah) (q:=q) (by omega)
    rw [List.getElem?_eq_getElem (by omega),e] at this
    exact (Option.some.inj this).symm
  exact⟨q,by omega,by omega,by rw [e2],by rw [e2]⟩
theorem KR (hj:j < (nd ns i).ah.length):oZ ns i (j+1)=oZ ns i j++[((ent ns i j).name,kX ns (ent ns i j))]:=by
  unfold oZ
  rw [List.take_add_one,Fo hj,List.map_append];rfl
theorem CM (hG:bh ns) (hi:i < ns.length) {q:Nat}:∀ {j},q < j->j < (nd ns i).ah.length->nS (ent ns i q).name (ent ns i j).name < 0
  | 0,h,_=>absurd h (Nat.not_lt_zero q)
  | j+1,h,hj=>by
    have h1:=sM.1 (hG.ah i hi (j+1) hj).ord
    have h1:nS (ent ns i j).name (ent ns i (j+1)).name < 0:=h1
    rcases Nat.lt_succ_iff_lt_or_eq.1 h with e|e
    ·exact AO (CM hG hi e (by omega)) (Int.le_of_lt h1)
    rw [e];exact h1
theorem MS (hG:bh ns) (hi:i < ns.length) (hj:j < (nd ns i).ah.length):aT (ent ns i j).name (oZ ns i j)=none:=by
  refine vF.2 (fun e he e1=>?_)
  obtain⟨q,h1,h2,h3,_⟩:=wk he
  have:=CM hG hi h1 hj
  rw [← h3,e1] at this
  have h4:=Dg (ent ns i j).name
  omega
theorem DE {n:ByteArray}:∀ {es:fF Th},(∀ e∈es,nS e.1 n < 0)->gA n t es=es++[(n,t)]
  | [],_=>rfl
  | e::r,h=>by
    have h1:=h e (List.mem_cons_self ..)
    unfold gA
    rw [if_neg (fun hc=>by have:=sM.1 hc;have:=wW e.1 n;omega),DE (fun x hx=>h x (List.mem_cons_of_mem _ hx))];rfl
theorem MT (hG:bh ns) (hi:i < ns.length) (hj:j < (nd ns i).ah.length):gA (ent ns i j).name (kX ns (ent ns i j)) (oZ ns i j)=oZ ns i (j+1):=by
  rw [KR hj]
  refine DE (fun e he=>?_)
  obtain⟨q,h1,_,h3,_⟩:=wk he
  rw [h3]
  exact CM hG hi h1 hj
theorem s5 (hG:bh ns) (hi:i < ns.length) (hj:j < (nd ns i).ah.length):tgt ns (ent ns i j).id < ns.length/\(nd ns (tgt ns (ent ns i j).id)).id=(ent ns i j).id:=by
  have:=jd (hG.ah i hi j hj).at_
  exact⟨this.1,this.2.1⟩
theorem CN {O:bT} {d x:Nat} {name:ByteArray} (h:t.k≠d):obj (ny O d name t) x=if x=d then { obj O d with ah:=gA name t (obj O d).ah } else if x=t.k then { obj O x with links:=(obj O x).links+1,up:=if t.kind=2 then some d else (obj O x).up } else obj O x:=by
  have key:∀ O2:bT,O2=aD (aD O d (fun o=>{ o with ah:=gA name t o.ah })) t.k (fun o=>{ o with links:=o.links+1 })->obj (if t.kind=2 then aD O2 t.k (fun o=>{ o with up:=some d }) else O2) x=if x=d then { obj O d with ah:=gA name t (obj O d).ah } else if x=t.k then { obj O x with links:=(obj O x).links+1,up:=if t.kind=2 then some d else (obj O x).up } else obj O x:=by
    intro O2 e
    by_cases hk:t.kind=2
    ·rw [if_pos hk,if_pos hk,kC,e,kC,kC]
     by_cases e1:x=d
     ·subst e1;rw [if_neg (fun e=>h e.symm),if_neg (fun e=>h e.symm),if_pos rfl,if_pos rfl]
     by_cases e2:x=t.k
     ·rw [if_pos e2,if_pos e2,if_neg e1,if_neg e1,if_pos e2]
     rw [if_neg e2,if_neg e2,if_neg e1,if_neg e1,if_neg e2]
    rw [if_neg hk,if_neg hk,e,kC,kC]
    by_cases e1:x=d
    ·subst e1;rw [if_neg (fun e=>h e.symm),if_pos rfl,if_pos rfl]
    by_cases e2:x=t.k
    ·rw [if_pos e2,if_neg e1,if_neg e1,if_pos e2]
    rw [if_neg e2,if_neg e1,if_neg e1,if_neg e2]
  exact key _ rfl
theorem eY.UA (hG:bh ns) (h:eY X ns i j S) {d:Nat} (hd:Live S.idx ⟨d,2⟩) {n:ByteArray} (ha:a < ns.length) (hk:(nd ns a).kind=2) (hl:aT n (obj S.O d).ah=some (oY (nd ns a))):∃ b q,b < ns.length/\d=fk (nd ns b)/\CJ ns b q/\tgt ns (ent ns b q).id=a:=by
  obtain⟨b,hb,e⟩:=h.of hd
  have e:(⟨d,2⟩:Th)=⟨fk (nd ns b),(nd ns b).kind⟩:=e
  have e1:d=fk (nd ns b):=congrArg Th.k e
  subst e1
  obtain⟨l,u,ho⟩:=h.ob b hb
  have hm:=lC hl
  rw [ho] at hm
  obtain⟨q,h1,h2,_,h4⟩:=wk hm
  have ht:=s5 hG hb h2
  have h5:fk (nd ns a)=fk (nd ns (tgt ns (ent ns b q).id)):=congrArg Th.k h4
  have h6:=su hG ha ht.1 h5
  exact⟨b,q,hb,rfl,⟨hb,h2,by rw [← h6];exact hk⟩,h6.symm⟩
theorem eY.below (hG:bh ns) (h:eY X ns i j S) {dp:Nat->Nat} (hdp:Hv ns dp) {s k:Nat} (hb:jS S.O s k):∀ {a b},a < ns.length->k=fk (nd ns a)->b < ns.length->s=fk (nd ns b)->dp b<=dp a:=by
  induction hb with
  | here=>
    intro a b ha e1 hb e2
    have:=su hG ha hb (by rw [← e1,← e2])
    rw [this];exact Nat.le_refl _
  | up hup _ ih=>
    intro a b ha e1 hb e2
    subst e1
    have hlv:=h.live hG ha
    obtain⟨h1,h2,n,h3⟩:=(h.inv.up _ hlv _).1 hup
    obtain⟨c,q,hc,e3,hD,e4⟩:=h.UA hG h2 ha h1 h3
    have h5:=hdp c q hD
    rw [e4] at h5
    have:=ih hc e3 hb e2
    omega
theorem eY.links (hG:bh ns) (h:eY X ns i j S) (hi:i < ns.length) (hj:j < (nd ns i).ah.length) (hk:(kX ns (ent ns i j)).kind=2):(obj S.O (kX ns (ent ns i j)).k).links=0:=by
  have ht:=s5 hG hi hj
  have hlv:Live S.idx (kX ns (ent ns i j)):=h.live hG ht.1
  rw [h.inv.links _ hlv]
  cases hz:iW S.idx S.O (kX ns (ent ns i j)).k with
  | zero=>rfl
  | succ z=>
    exfalso
    obtain⟨x,u,hu,e,he,e1⟩:=Bl h.inv.rise (show 0 < iW S.idx S.O (kX ns (ent ns i j)).k by omega)
    obtain⟨b,hb,rfl⟩:=h.of hu
    obtain⟨l,u,ho⟩:=h.ob b hb
    have he:e∈(obj S.O (fk (nd ns b))).ah:=he
    rw [ho] at he
    obtain⟨q,h1,h2,_,h4⟩:=wk he
    have ht2:=s5 hG hb h2
    have h5:fk (nd ns (tgt ns (ent ns b q).id))=fk (nd ns (tgt ns (ent ns i j).id)):=by
      rw [h4] at e1;exact e1
    have h6:=su hG ht2.1 ht.1 h5
    obtain⟨rfl,rfl⟩:=hG.uniq b q i j ⟨hb,h2,by rw [h6];exact hk⟩ ⟨hi,hj,hk⟩ hb hi h6
    unfold mH at h1
    rw [if_neg (Nat.lt_irrefl _),if_pos rfl] at h1
    omega
theorem eY.look (hG:bh ns) (h:eY X ns i j S) (hi:i < ns.length) (hj:j < (nd ns i).ah.length):(obj S.O (fk (nd ns i))).ah=oZ ns i j/\aT (ent ns i j).name (obj S.O (fk (nd ns i))).ah=none/\(nd ns i).kind=2:=by
  obtain⟨l,u,ho⟩:=h.ob i hi
  have e1:(obj S.O (fk (nd ns i))).ah=oZ ns i j:=by
    rw [ho]
    show oZ ns i (mH ns i j i)=_
    unfold mH;rw [if_neg (Nat.lt_irrefl _),if_pos rfl]
  refine⟨e1,by rw [e1];exact MS hG hi hj,?_⟩
  cases Decidable.em ((nd ns i).kind=2) with
  | inl h=>exact h
  | inr h=>have:=(hG.node i hi).ah h;omega
theorem eY.gone (h:eY X ns i j S) (ha:a < ns.length):(obj S.O (fk (nd ns a))).gone=false:=by
  obtain⟨l,u,ho⟩:=h.ob a ha
  rw [ho];rfl
theorem eY.ne (hG:bh ns) (hi:i < ns.length) (hj:j < (nd ns i).ah.length) (hk:(nd ns i).kind=2):(kX ns (ent ns i j)).k≠fk (nd ns i):=fun e=>by
  have ht:=s5 hG hi hj
  have h1:=su hG ht.1 hi e
  obtain⟨dp,hdp⟩:=hG.deep
  have:=hdp i j ⟨hi,hj,by rw [h1];exact hk⟩
  rw [h1] at this
  exact Nat.lt_irrefl _ this
theorem eY.step (hG:bh ns) (h:eY X ns i j S) (hi:i < ns.length) (hj:j < (nd ns i).ah.length):eY X ns i (j+1) (kY ns S (nd ns i) (ent ns i j)):=by
  obtain⟨l1,l2,l3⟩:=h.look hG hi hj
  have ht:=s5 hG hi hj
  have hne:=eY.ne hG hi hj l3
  have hld:Live S.idx ⟨fk (nd ns i),2⟩:=by
    have:=h.live hG hi
    unfold oY at this
    rw [l3] at this
    exact this
  have hlt:Live S.idx (kX ns (ent ns i j)):=h.live hG ht.1
  have hX:S.X.ah=((eO ns i+j:Nat):Int):=by rw [h.cap]
  have hsum:eO ns i+j < 8192:=by
    have h1:eO ns (i+1)<=eO ns ns.length:=ux hi
    have h2:eO ns (i+1)=eO ns i+(nd ns i).ah.length:=rfl
    have h3:=hG.sum
    omega
  have h1:=h.inv.put (O':=ny S.O (fk (nd ns i)) (ent ns i j).name (kX ns (ent ns i j))) (ta:=(obj S.O (fk (nd ns i))).sec) (tb:=(obj S.O (fk (nd ns i))).nano) hld (h.gone hi) l2 (hG.ah i hi j hj).good hlt (h.gone ht.1) (fun hk=>⟨h.links hG hi hj hk,fun hb=>by
      obtain⟨dp,hdp⟩:=hG.deep
      have h2:=h.below hG hdp hb hi rfl ht.1 rfl
      have h3:=hdp i j ⟨hi,hj,hk⟩
      omega⟩) hne (by rw [hX];omega) (h.inv.mt _ hld).time (fun x=>CN hne)
  refine⟨h1,h.idx,h.us,h.ay,?_,fun a ha=>?_,fun x hx=>(CN hne).trans (by rw [if_neg (hx i hi),if_neg (show ¬ x=(kX ns (ent ns i j)).k from hx _ ht.1)];exact h.free x hx)⟩
  ·show ({ S.X with ah:=S.X.ah+1 }:FM)=_
   rw [hX,h.cap]
   show (⟨_,_,_,_,_,_,_,_⟩:FM)=⟨_,_,_,_,_,_,_,_⟩
   congr 1
  obtain⟨l,u,ho⟩:=h.ob a ha
  show ∃ l u,obj (ny S.O (fk (nd ns i)) (ent ns i j).name (kX ns (ent ns i j))) (fk (nd ns a))=_
  rw [CN hne]
  by_cases e:a=i
  ·subst e
   refine⟨l,u,?_⟩
   rw [if_pos rfl,l1,MT hG hi hj,ho]
   have hc:mH ns a (j+1) a=j+1:=by unfold mH;rw [if_neg (Nat.lt_irrefl _),if_pos rfl]
   rw [hc]
  have hc:mH ns i (j+1) a=mH ns i j a:=by
    unfold mH;rw [if_neg e,if_neg e]
  rw [if_neg (fun e2=>e (su hG ha hi e2)),hc]
  split
  ·rw [ho];exact⟨_,_,rfl⟩
  exact⟨l,u,ho⟩
theorem eY.next (h:eY X ns i (nd ns i).ah.length S):eY X ns (i+1) 0 S:=by
  refine⟨h.inv,h.idx,h.us,h.ay,h.cap,fun a ha=>?_,h.free⟩
  obtain⟨l,u,ho⟩:=h.ob a ha
  refine⟨l,u,?_⟩
  rw [ho]
  have:mH ns (i+1) 0 a=mH ns i (nd ns i).ah.length a:=by
    unfold mH
    by_cases e:a=i
    ·subst e;rw [if_pos (by omega),if_neg (by omega),if_pos rfl]
    by_cases e2:a < i
    ·rw [if_pos (by omega),if_pos e2]
    rw [if_neg (by omega),if_neg e2,if_neg e];split<;>rfl
  rw [this]
theorem eY.full (h:eY X ns i j S):Inv S:=by
  refine⟨h.inv,fun t ht hg=>?_⟩
  obtain⟨a,ha,rfl⟩:=h.of ht
  have:(obj S.O (fk (nd ns a))).gone=true:=hg
  rw [h.gone ha] at this
  cases this
theorem eY.graph (hG:bh ns) (h:eY X ns ns.length 0 S):av S=ns:=by
  unfold av
  rw [h.idx]
  unfold CK
  rw [List.map_map]
  refine List.ext_getElem? (fun a=>?_)
  rw [List.getElem?_map]
  by_cases ha:a < ns.length
  ·rw [xW ha]
   refine congrArg some ?_
   show rQ S.O (nd ns a).id ⟨fk (nd ns a),(nd ns a).kind⟩=nd ns a
   unfold rQ
   obtain⟨l,u,ho⟩:=h.ob a ha
   rw [ho]
   have he:(oZ ns a (mH ns ns.length 0 a)).map (jP S.O)=(nd ns a).ah:=by
     unfold mH
     rw [if_pos ha]
     unfold oZ
     rw [List.take_of_length_le (Nat.le_refl _),List.map_map]
     refine List.ext_getElem? (fun q=>?_)
     rw [List.getElem?_map]
     by_cases hq:q < (nd ns a).ah.length
     ·rw [Fo hq]
      refine congrArg some ?_
      have ht:=s5 hG ha hq
      obtain⟨l,u,ho⟩:=h.ob _ ht.1
      have e1:(obj S.O (kX ns (en (nd ns a).ah q)).k).id=(en (nd ns a).ah q).id:=by
        show (obj S.O (fk (nd ns (tgt ns (ent ns a q).id)))).id=(ent ns a q).id
        rw [ho];exact ht.2
      show (⟨(en (nd ns a).ah q).name,(obj S.O (kX ns (en (nd ns a).ah q)).k).id⟩:jt)=_
      rw [e1]
     rw [List.getElem?_eq_none (by omega)];rfl
   show (⟨_,_,_,_,_,_,_,_,_,List.map (jP S.O) (oZ ns a (mH ns ns.length 0 a))⟩:aB)=_
   rw [he]
   rfl
  rw [List.getElem?_eq_none (by omega)];rfl
end ah
end
section
open Go.RowKit Go.Maps bD aE
noncomputable def cT (X:FM) (ns:List aB) (root:Int):Int:=
  open Classical in
  if jC X then if bh ns then
    match ns.find? (fun n=>decide (n.id=root)) with
    | none=>141
    | some n=>if n.kind=2 then 0 else 173
  else 140 else 179
def tf (ns:List aB) (root:Int) (i:Nat):Prop:=i < ns.length/\(nd ns i).id=root/\∀ q,q < i->(nd ns q).id≠root
section n
variable {X:FM} {ns:List aB} {root:Int} {i:Nat}
theorem Fq (ns:List aB) (root:Int):(∃ i,tf ns root i)\/∀ q,q < ns.length->(nd ns q).id≠root:=by
  have key:∀ n,n<=ns.length->(∃ i,tf ns root i)\/∀ q,q < n->(nd ns q).id≠root:=fun n=>by
    induction n with
    | zero=>exact fun _=>.inr fun q h=>absurd h (Nat.not_lt_zero q)
    | succ n ih=>
      intro h
      rcases ih (by omega) with h1|h1
      ·exact .inl h1
      by_cases e:(nd ns n).id=root
      ·exact .inl ⟨n,by omega,e,h1⟩
      exact .inr fun q hq=>(Nat.lt_succ_iff_lt_or_eq.1 hq).elim (h1 q) (fun e2=>e2 ▸ e)
  exact key _ (Nat.le_refl _)
theorem BA (h:tf ns root i):ns.find? (fun n=>decide (n.id=root))=some (nd ns i):=by
  obtain⟨h1,h2,h3⟩:=h
  rw [List.find?_eq_some_iff_getElem]
  have e:=getD_some (x:=default) h1
  have e2:ns[i]=nd ns i:=by rw [List.getElem?_eq_getElem h1] at e;exact Option.some.inj e
  refine⟨by simpa using h2,i,h1,e2,fun j hj=>?_⟩
  have e3:ns[j]=nd ns j:=by
    have:=getD_some (x:=default) (show j < ns.length by omega)
    rw [List.getElem?_eq_getElem (by omega)] at this;exact Option.some.inj this
  rw [e3]
  simpa using h3 j hj
theorem KS (h:∀ q,q < ns.length->(nd ns q).id≠root):ns.find? (fun n=>decide (n.id=root))=none:=by
  rw [List.find?_eq_none]
  intro n hn
  obtain⟨q,hq,e⟩:=List.mem_iff_getElem.1 hn
  have e3:ns[q]=nd ns q:=by
    have:=getD_some (x:=default) hq
    rw [List.getElem?_eq_getElem hq] at this;exact Option.some.inj this
  rw [← e,e3]
  simpa using h q hq
theorem BB (h:¬ jC X):cT X ns root=179:=if_neg h
theorem xY (h:jC X) (h2:¬ bh ns):cT X ns root=140:=(if_pos h).trans (if_neg h2)
theorem uD (h:jC X) (h2:bh ns) (h3:∀ q,q < ns.length->(nd ns q).id≠root):cT X ns root=141:=(if_pos h).trans ((if_pos h2).trans (by rw [KS h3]))
theorem BD (h:jC X) (h2:bh ns) (h3:tf ns root i) (h4:(nd ns i).kind=2):cT X ns root=0:=(if_pos h).trans ((if_pos h2).trans (by rw [BA h3];exact if_pos h4))
theorem wm (h:jC X) (h2:bh ns) (h3:tf ns root i) (h4:¬ (nd ns i).kind=2):cT X ns root=173:=(if_pos h).trans ((if_pos h2).trans (by rw [BA h3];exact if_neg h4))
theorem xZ (h:cT X ns root=0):jC X/\bh ns:=by
  by_cases h1:jC X
  ·by_cases h2:bh ns
   ·exact⟨h1,h2⟩
   rw [xY h1 h2] at h;exact absurd h (by decide)
  rw [BB h1] at h;exact absurd h (by decide)
end n
end
section
open Go.RowKit Go.Maps bD aE
attribute [local irreducible] aj aP af ai
noncomputable abbrev tj (b:Nat) (root):=(.blk b [vI (root)] 3:HP)
theorem MU {β:Bs} (b:Nat) (root z:Int) (v1 v2 v3 v4 v5 v6 v7 v8 v9:Value) :
    Spec Tryz.prog β 82 #[.agg #[vI (z),v1,v2,v3,v4,v5,v6,v7,v8,v9],vP b] [tj b root] (fun v l=>v=.bool (decide (z=root))/\l=[tj b root]):=by
 refine Spec.enter Tryz.func82 rfl Tryz.ntmps82 (Nat.le_of_ble_eq_true rfl) (fun R=>?_)
 refine SR (gN 2 (fun b1=>[(2,vP b1)]) (fun _=>[]) (fun _=>[]) (fun b1=>.blk b1 [vI (z),v1,v2,v3,v4,v5,v6,v7,v8,v9] 70) (fun b1=>?_))
 refine NS (gK 5 [(3,.bool (decide ((z:Int)=(root:Int))))] [(1,a_ 2 b1),(2,a_ 0 b)] ?_)
 refine NN (af.ret ?_)
 exact RT (.bool (decide ((z:Int)=(root:Int)))) [0,1] (⟨rfl,rfl⟩)
theorem Fs {β:Bs} (A:Option Addr) (c:Nat) (ns:List aB) (Y:Lay) (hG:au β A ns Y) (hl:ns.length<=1048576) (b:Nat) (root:Int) :
    Spec Tryz.prog β 81 #[.slice A (ns.length) (c),.func (.func 82) #[] #[vP b]] [tj b root] (fun v l=>(∃ i:Nat,tf ns root i/\v=vI (i:Int)/\l=[tj b root])\/((∀ q,q < ns.length->(nd ns q).id≠root)/\v=vI (-1)/\l=[tj b root])):=by
 refine Spec.enter Tryz.func81 rfl Tryz.ntmps81 (Nat.le_of_ble_eq_true rfl) (fun R=>?_)
 refine SR (gK 1 [] [] ?_)
 refine NN (af.seq (SR (gK 3 [(7,vI ↑ns.length),(8,vI 0)] [] ?_)))
 refine NN (af.block ?_)
 refine af.loop (ι:=Nat) (fun (i:Nat)=>(i<=ns.length)/\(∀ q,q < i->(nd ns q).id≠root)) (fun (i:Nat)=>ns.length - i) (fun (i:Nat)=>[(0,.slice A (ns.length) (c)),(1,.func (.func 82) #[] #[vP b]),(7,vI ↑ns.length),(8,vI ↑i)]) (fun (i:Nat)=>[tj b root,.abs R]) 0 (idx:=[0,1,7,8]) (pk:=[0,1]) (show (0<=ns.length)/\(∀ q,q < 0->(nd ns q).id≠root) from ⟨Nat.zero_le _,fun q h=>absurd h (Nat.not_lt_zero q)⟩) (fun _=>by kernel_rfl) rfl (by kernel_rfl) ?_
 rintro i ⟨hi,hlt⟩
 show af _ _ _ _ [(0,.slice A (ns.length) (c)),(1,.func (.func 82) #[] #[vP b]),(7,vI ↑ns.length),(8,vI ↑i)] [tj b root,.abs R] _
 refine SR (gK 1 [(9,.bool (decide ((((i:Nat):Int):Int) < (((ns.length:Nat):Int):Int))))] [] ?_)
 refine NN (af.seq (af.aV (p:=(((i:Nat):Int):Int) < (((ns.length:Nat):Int):Int)) (fun _=>by kernel_rfl) (fun h9=>?_) (fun h9=>?_)))
 ·refine af.skip (NX (af.seq (af.block (SR ?_))))
  refine gK 2 [(5,vI ↑i)] [] ?_
  refine NS (gK 5 [(11,.func (.func 82) #[] #[vP b]),(15,.agg #[vI ((nd ns i).id),vI ((nd ns i).kind),vI ((nd ns i).mode),vI ((nd ns i).uid),vI ((nd ns i).gid),vI ((nd ns i).sec),vI ((nd ns i).nano),.slice (Y.dA i) ((nd ns i).data.length) ((Y.dC i)),.string (nd ns i).target,.slice (Y.eA i) ((nd ns i).ah.length) ((Y.eC i))])] [(3,p_ ⟨[],some i,none,some ⟨(ar A),aq A,none⟩,none⟩ [((i:Nat):Int)=((i:Nat):Int),i < ns.length,(⟨(ar A),aq A,none⟩:Addr).spot=none,(A:Option Addr)=some ⟨(ar A),aq A,none⟩] ⟨rfl,by omega,rfl,au.hd hG (i:=i) (by omega),trivial⟩),(4,p_ ⟨[.old (.int .i64 ((nd ns i).id)),.old (.int .i64 ((nd ns i).kind)),.old (.int .i64 ((nd ns i).mode)),.old (.int .i64 ((nd ns i).uid)),.old (.int .i64 ((nd ns i).gid)),.old (.int .i64 ((nd ns i).sec)),.old (.int .i64 ((nd ns i).nano)),.old (.slice (Y.dA i) ((nd ns i).data.length) ((Y.dC i))),.old (.string (nd ns i).target),.old (.slice (Y.eA i) ((nd ns i).ah.length) ((Y.eC i)))],none,none,none,none⟩ [(Rd β ⟨(ar A),aq A+i * 10+9,none⟩ (.slice (Y.eA i) ((nd ns i).ah.length) ((Y.eC i)))),(Rd β ⟨(ar A),aq A+i * 10+8,none⟩ (.string (nd ns i).target)),(Rd β ⟨(ar A),aq A+i * 10+7,none⟩ (.slice (Y.dA i) ((nd ns i).data.length) ((Y.dC i)))),(Rd β ⟨(ar A),aq A+i * 10+6,none⟩ (.int .i64 ((nd ns i).nano))),(Rd β ⟨(ar A),aq A+i * 10+5,none⟩ (.int .i64 ((nd ns i).sec))),(Rd β ⟨(ar A),aq A+i * 10+4,none⟩ (.int .i64 ((nd ns i).gid))),(Rd β ⟨(ar A),aq A+i * 10+3,none⟩ (.int .i64 ((nd ns i).uid))),(Rd β ⟨(ar A),aq A+i * 10+2,none⟩ (.int .i64 ((nd ns i).mode))),(Rd β ⟨(ar A),aq A+i * 10+1,none⟩ (.int .i64 ((nd ns i).kind))),(Rd β ⟨(ar A),aq A+i * 10,none⟩ (.int .i64 ((nd ns i).id)))] ⟨au.rd hG (i:=i) (by omega) (j:=9) rfl,au.rd hG (i:=i) (by omega) (j:=8) rfl,au.rd hG (i:=i) (by omega) (j:=7) rfl,au.rd hG (i:=i) (by omega) (j:=6) rfl,au.rd hG (i:=i) (by omega) (j:=5) rfl,au.rd hG (i:=i) (by omega) (j:=4) rfl,au.rd hG (i:=i) (by omega) (j:=3) rfl,au.rd hG (i:=i) (by omega) (j:=2) rfl,au.rd hG (i:=i) (by omega) (j:=1) rfl,au.rd hG (i:=i) (by omega) (j:=0) rfl,trivial⟩)] ?_)
  refine gL [0] (MU b root ((nd ns i).id) (.int .i64 ((nd ns i).kind)) (.int .i64 ((nd ns i).mode)) (.int .i64 ((nd ns i).uid)) (.int .i64 ((nd ns i).gid)) (.int .i64 ((nd ns i).sec)) (.int .i64 ((nd ns i).nano)) (.slice (Y.dA i) ((nd ns i).data.length) ((Y.dC i))) (.string (nd ns i).target) (.slice (Y.eA i) ((nd ns i).ah.length) ((Y.eC i)))) ?_
  rintro _ _ ⟨rfl,rfl⟩
  refine NN (af.aV (p:=(nd ns i).id=root) (fun _=>by kernel_rfl) (fun uS=>?_) (fun uS=>?_))
  ·refine SR (gK 2 [(4,vI ↑i)] [] ?_)
   refine NN (af.ret (ai.aG (ai.ak (ai.ak (ai.aG (ai.ak ?_))))))
   exact RT (vI ↑i) [0,1] (.inl ⟨i,⟨by omega,uS,hlt⟩,rfl,rfl⟩)
  refine af.skip (ai.aJ (NX (af.region ?_)))
  refine gK 2 [(8,vI ↑(i+1))] [(0,p_ ⟨[],none,none,none,some (vI ↑(i+1))⟩ [(Value.int .i64 (IntKind.wrap .i64 (((i:Nat):Int)+1)))=(.int .i64 ↑(i+1))] ⟨bn (by omega) (by omega) (by omega),trivial⟩)] ?_
  refine NL ?_
  exact ai.turn ((i+1)) (idx:=[0,1,7,8]) (pk:=[0,1]) (show (((i+1))<=ns.length)/\(∀ q,q < ((i+1))->(nd ns q).id≠root) from ⟨by omega,fun q hq=>(Nat.lt_succ_iff_lt_or_eq.1 hq).elim (hlt q) (fun e=>e ▸ uS)⟩) (by show ns.length - ((i+1)) < ns.length - i;omega) (fun _=>by kernel_rfl) rfl (by kernel_rfl)
 refine af.exit (ai.aS (ai.aS (ai.cD (NX (SR ?_)))))
 refine gK 1 [(4,vI (-1))] [] ?_
 refine NN (af.ret ?_)
 exact RT (vI (-1)) [0,1] (.inr ⟨fun q hq=>hlt q (by omega),rfl,rfl⟩)
theorem QS {β:Bs} (b:Nat) :
    Spec Tryz.prog β 83 #[.iface 42 (vP b)] [] (fun v l=>v=.agg #[.iface 42 (vP b)]/\l=[]):=by
 refine Spec.enter Tryz.func83 rfl Tryz.ntmps83 (Nat.le_of_ble_eq_true rfl) (fun R=>?_)
 refine SR (gN 1 (fun b2=>[(2,vP b2)]) (fun _=>[]) (fun _=>[]) (fun b2=>.blk b2 [.nilIface] 90) (fun b2=>?_))
 refine NS (gC 3 [] [(2,a_ 1 b2)] [(1,[(0,.iface 42 (vP b))])] ?_)
 refine NN (af.ret ?_)
 exact ai.ret (v:=.agg #[.iface 42 (vP b)]) (l:=[]) (bC:=[b2=b2]) [.at 1] [0] (fun _=>by kernel_rfl) ⟨rfl,trivial⟩ rfl (by kernel_rfl) (⟨rfl,rfl⟩)
end
section
open Go.RowKit
section
variable {O:bT} {k:Nat} {kd:Int}
theorem qX (L:HL) (h:(obj O k).kind=kd) (h0:kd≠0:=by decide):∀ F w,(ax (bI O L)).h F w->w.cell? ⟨L.b k,0,none⟩=some (.int .i64 (obj O k).id):=d8 (by rw [h];exact h0) rfl
theorem tq (L:HL) (h:(obj O k).kind=kd) (h0:kd≠0:=by decide):∀ F w,(ax (bI O L)).h F w->w.cell? ⟨L.b k,1,none⟩=some (.int .i64 (obj O k).mode):=d8 (by rw [h];exact h0) rfl
theorem yP (L:HL) (h:(obj O k).kind=kd) (h0:kd≠0:=by decide):∀ F w,(ax (bI O L)).h F w->w.cell? ⟨L.b k,2,none⟩=some (.int .i64 (obj O k).uid):=d8 (by rw [h];exact h0) rfl
theorem yQ (L:HL) (h:(obj O k).kind=kd) (h0:kd≠0:=by decide):∀ F w,(ax (bI O L)).h F w->w.cell? ⟨L.b k,3,none⟩=some (.int .i64 (obj O k).gid):=d8 (by rw [h];exact h0) rfl
theorem ni (L:HL) (h:(obj O k).kind=kd) (h0:kd≠0:=by decide):∀ F w,(ax (bI O L)).h F w->w.cell? ⟨L.b k,6,none⟩=some (.int .i64 (obj O k).links):=d8 (by rw [h];exact h0) rfl
theorem j3 (L:HL) (h:(obj O k).kind=kd) (h0:kd≠0:=by decide):∀ F w,(ax (bI O L)).h F w->w.cell? ⟨L.b k,7,none⟩=some (.int .i64 (obj O k).opens):=d8 (by rw [h];exact h0) rfl
theorem nK (L:HL) (h:(obj O k).kind=kd) (h0:kd≠0:=by decide):∀ F w,(ax (bI O L)).h F w->w.cell? ⟨L.b k,8,none⟩=some (.bool (obj O k).gone):=d8 (by rw [h];exact h0) rfl
theorem Fu (L:HL) (h:(obj O k).kind=1):∀ F w,(ax (bI O L)).h F w->w.cell? ⟨L.b k,9,none⟩=some (.slice (L.dA k) (obj O k).data.length (L.dC k)):=d8 (by rw [h];decide) (by rw [ia h];rfl)
theorem bw (L:HL) (h:(obj O k).kind=2):∀ F w,(ax (bI O L)).h F w->w.cell? ⟨L.b k,9,none⟩=some (.map (some (L.m k))):=d8 (by rw [h];decide) (by rw [lM h];rfl)
theorem UB (L:HL) (h:(obj O k).kind=2):∀ F w,(ax (bI O L)).h F w->w.cell? ⟨L.b k,10,none⟩=some (uL L (obj O k).up):=d8 (by rw [h];decide) (by rw [lM h];rfl)
theorem SF (L:HL) (h:(obj O k).kind=3):∀ F w,(ax (bI O L)).h F w->w.cell? ⟨L.b k,9,none⟩=some (.string (obj O k).target):=d8 (by rw [h];decide) (by rw [xA h];rfl)
end
end
section
open Go.RowKit Go.Maps
theorem ax.step {R R':Nat->cr} {k:Nat} {F:Fp} {w w':World} (hF:(ax R).h F w) (hR:∀ x,x≠k->R' x=R x) (hs:∀ G,(R k).h G w->∃ G',(R' k).h G' w'/\Step G w G' w'):∃ F',(ax R').h F' w'/\Step F w F' w':=by
  obtain⟨φ,h1,h2,h3⟩:=hF
  obtain⟨G',g1,st⟩:=hs _ (h1 k)
  have hap:∀ i,i≠k->∀ x,G' x->φ i x->False:=fun i hne x hx hy=>by
    rcases st.grow x hx with e|e
    ·exact h2 i k hne x hy e
    have:=(R i).lt (h1 i) x hy;omega
  refine⟨fun x=>∃ i,(if i=k then G' else φ i) x,⟨fun i=>if i=k then G' else φ i,fun i=>?_,fun i j hne x hx hy=>?_,fun x=>Iff.rfl⟩,⟨st.keeps.mono (fun x _ hx=>(h3 x).2 ⟨k,hx⟩),fun x ⟨i,hx⟩=>?_⟩⟩
  ·by_cases e:i=k
   ·subst e;simp only [if_true];exact g1
   simp only [e,if_false]
   rw [hR i e]
   exact (R i).st (h1 i) st.keeps (fun x hx hk=>h2 i k e x hx hk)
  ·by_cases e1:i=k
   ·have e2:j≠k:=fun e=>hne (e1.trans e.symm)
    simp only [e1,if_true] at hx
    simp only [e2,if_false] at hy
    exact hap j e2 x hx hy
   simp only [e1,if_false] at hx
   by_cases e2:j=k
   ·simp only [e2,if_true] at hy
    exact hap i e1 x hy hx
   simp only [e2,if_false] at hy
   exact h2 i j hne x hx hy
  by_cases e:i=k
  ·simp only [e,if_true] at hx
   rcases st.grow x hx with h|h
   ·exact .inl ((h3 x).2 ⟨k,h⟩)
   exact .inr h
  simp only [e,if_false] at hx
  exact .inl ((h3 x).2 ⟨i,hx⟩)
def CO (O:bT) (L:HL):Nat->HP
  | 0=>.abs (ax (bI O L))
  | 1=>.abs (ax (cK O L))
  | _=>.abs (ax (bJ O L))
def p8 (O:bT) (L:HL):List (Nat×Nat)->List (Nat×HP)
  | []=>[]
  | q::r=>(q.1,CO O L q.2)::p8 O L r
def tZ (hps:List HP) (O:bT) (L:HL):List (Nat×Nat)->Prop
  | []=>True
  | q::r=>hps[q.1]?=some (CO O L q.2)/\tZ hps O L r
theorem uX {hps:List HP} {O O2:bT} {L:HL} {p:Nat} (he:∀ q,q≠p->CO O2 L q=CO O L q):∀ {js:List (Nat×Nat)},tZ hps O L js->j8 p (js.map (·.2))=false->mT hps (p8 O2 L js)=hps
  | [],_,_=>rfl
  | q::r,h,hn=>by
    have hq:q.2≠p:=fun e=>by
      rw [show j8 p ((q::r).map (·.2))=true from jw.2 (by simp [e])] at hn;cases hn
    have hr:j8 p (r.map (·.2))=false:=by
      cases hb:j8 p (r.map (·.2)) with
      | false=>rfl
      | true=>rw [show j8 p ((q::r).map (·.2))=true from jw.2 (List.mem_cons_of_mem _ (jw.1 hb))] at hn;cases hn
    show mT (hps.set q.1 (CO O2 L q.2)) (p8 O2 L r)=hps
    have e:hps.set q.1 (CO O2 L q.2)=hps:=by
      rw [he _ hq]
      refine List.ext_getElem? (fun n=>?_)
      rw [List.getElem?_set]
      split
      ·rename_i e;subst e
       rw [h.1];split
       ·rfl
       rename_i hlt;exact absurd (bp h.1) hlt
      rfl
    rw [e]
    exact uX he h.2 hr
def BF (P:Program) (N:Nat) (junk:Nat->Value) (ops:Array Oper) (fr:Fr) (k:Nat):Option (Addr×Value):=
  match fo N junk ops fr k with
  | some (.store T a y,_)=>match (P.info? T).map (·.size) with
    | some 1=>match di N fr junk a with
      | .pointer (some ad)=>some (ad,di N fr junk y)
      | _=>none
    | _=>none
  | _=>none
def BG (N:Nat) (junk:Nat->Value) (ops:Array Oper) (fr:Fr) (k:Nat):Option (TypeId×Nat×Value):=
  match fo N junk ops fr k with
  | some (.lookup t x ix false,_)=>match di N fr junk x with
    | .map (some b)=>some (t,b,di N fr junk ix)
    | _=>none
  | _=>none
def setAt (N:Nat) (junk:Nat->Value) (ops:Array Oper) (fr:Fr) (k:Nat):Option (TypeId×Nat×Value×Value):=
  match fo N junk ops fr k with
  | some (.mapUpdate t x ix y,_)=>match di N fr junk x with
    | .map (some b)=>some (t,b,di N fr junk ix,di N fr junk y)
    | _=>none
  | _=>none
def Jg (N:Nat) (junk:Nat->Value) (ops:Array Oper) (fr:Fr) (k:Nat):Option (TypeId×TypeId×Nat×Value):=
  match fo N junk ops fr k with
  | some (.call ⟨.builtin .delete,xs,ts⟩,_)=>match xs.toList with
    | [x,ix]=>match ts.toList with
      | [t,K]=>match di N fr junk x with
        | .map (some b)=>some (t,K,b,di N fr junk ix)
        | _=>none
      | _=>none
    | _=>none
  | _=>none
def Fv (L:HL):Option Th->Value
  | none=>.nilIface
  | some t=>dQ L t
section rules
variable {β:Bs} {N:Nat} {ops:Array Oper} {k x:Nat} {fr:Fr} {hps:List HP} {Q:Post} {O:bT} {L:HL} {name:ByteArray} {r:Option Th} {t:Th}
theorem uY {junk:Nat->Value} {op:Op} {d:Option Tmp} (h:fo N junk ops fr k=some (op,d)):d=jb ops k:=by
  obtain⟨o,h1,_,_,h4⟩:=dW h
  unfold jb
  rw [h1,← h4]
theorem Fw {P:Program} {junk:Nat->Value} {ad:Addr} {u:Value} (h:BF P N junk ops fr k=some (ad,u)):∃ T a y,fo N junk ops fr k=some (.store T a y,jb ops k)/\(P.info? T).map (·.size)=some 1/\di N fr junk a=.pointer (some ad)/\di N fr junk y=u:=by
  unfold BF at h
  repeat' split at h
  all_goals first|(cases h;done)|skip
  rename_i T a y d h0 _ h1 _ Vu h2
  cases h
  have:=uY h0
  subst this
  exact⟨T,a,y,h0,h1,h2,rfl⟩
theorem oI {junk:Nat->Value} {T:TypeId} {b:Nat} {key:Value} (h:BG N junk ops fr k=some (T,b,key)):∃ a y,fo N junk ops fr k=some (.lookup T a y false,jb ops k)/\di N fr junk a=.map (some b)/\di N fr junk y=key:=by
  unfold BG at h
  repeat' split at h
  all_goals first|(cases h;done)|skip
  rename_i T' a y d h0 _ b' h1
  cases h
  have:=uY h0
  subst this
  exact⟨a,y,h0,h1,rfl⟩
theorem MV {junk:Nat->Value} {T:TypeId} {b:Nat} {key u:Value} (h:setAt N junk ops fr k=some (T,b,key,u)):∃ a y z,fo N junk ops fr k=some (.mapUpdate T a y z,jb ops k)/\di N fr junk a=.map (some b)/\di N fr junk y=key/\di N fr junk z=u:=by
  unfold setAt at h
  repeat' split at h
  all_goals first|(cases h;done)|skip
  rename_i T' a y z d h0 _ b' h1
  cases h
  have:=uY h0
  subst this
  exact⟨a,y,z,h0,h1,rfl,rfl⟩
theorem KT {P:Program} {T:TypeId} {a y:Operand} {o:Oper} {ev:Operand->Value} {w:World} {ad:Addr} {u v0:Value} (ho:o.op=.store T a y) (hT:(P.info? T).map (·.size)=some 1) (ha:ev a=.pointer (some ad)) (hy:ev y=u) (hu:u.oneCell'=true) (hc:w.cell? ad=some v0) (hf:w.frozen? ad=false) (hs:ad.spot=none):nC P ev o w undef (w.setCell ad u):=by
  obtain⟨inf,hi,hsz⟩:∃ inf,P.info? T=some inf/\inf.size=1:=by
    cases h:P.info? T with
    | none=>rw [h] at hT;cases hT
    | some inf=>rw [h] at hT;exact⟨inf,rfl,by simpa using hT⟩
  have h3:=mQ hi w
  rw [hsz] at h3
  obtain⟨dst,op,type,pos,after,guard⟩:=o
  obtain⟨bk,off,spot⟩:=ad
  simp only at hs
  subst hs
  cases ho
  refine .inr ⟨rfl,?_⟩
  cases u<;>first
    | (simp [Value.oneCell'] at hu;done)
    | (simp only [execOp,ha,hy];simp [go_sem,Instr.storeAt,Instr.sureAddr,storeVar,h3,Value.cells,storeCells,store,Addr.add,Sem.run,hc,hf])
theorem Ti (i:Nat) (js:List (Nat×Nat)) (x j:Nat) (f:aR->aR) (u:Value) {kd:Int} (hk:(obj O x).kind=kd)
    (K:∀ O2,O2=aD O x f->aj Tryz.prog β N ops (k+1) (dJ fr (jb ops k) undef) ((mT hps (p8 O2 L js)).set i (.abs (ax (bI O2 L)))) Q)
    (hp:hps[i]?=some (.abs (ax (bI O L)))) (hj:tZ hps O L js)
    (ho:∀ junk,BF Tryz.prog N junk ops fr k=some (⟨L.b x,j,none⟩,u))
    (hn:j8 0 (js.map (·.2))=false) (h0:kd≠0) (hc:gD L x (f (obj O x))=(gD L x (obj O x)).set j u) (hu:u.oneCell'=true) (h9:j < (gD L x (obj O x)).length)
    (he:(f (obj O x)).ah=(obj O x).ah) (hd:(f (obj O x)).data=(obj O x).data) (BH:(f (obj O x)).kind=(obj O x).kind):aj Tryz.prog β N ops k fr hps Q:=by
  obtain⟨T,a,y,h1,h2,h3,h4⟩:=Fw (ho (fun _=>undef))
  intro junk w hS
  obtain⟨T,a,y,h1,h2,h3,h4⟩:=Fw (ho junk)
  obtain⟨o,g1,g2,g3,g4⟩:=dW h1
  have hx0:(obj O x).kind≠0:=by rw [hk];exact h0
  have Fx:mT hps (p8 (aD O x f) L js)=hps:=uX (p:=0) (fun q hq=>by
    match q,hq with
    | 0,hq=>exact absurd rfl hq
    | 1,_=>exact congrArg (fun R=>HP.abs (ax R)) (mW he BH)
    | q+2,_=>exact congrArg (fun R=>HP.abs (ax R)) (mV hd BH)) hj hn
  have hcell:∃ v0,(gD L x (obj O x))[j]?=some v0:=jF h9
  obtain⟨v0,hv0⟩:=hcell
  obtain⟨F,hF⟩:=hS.get hp
  obtain⟨G,hG⟩:=ax.at x hF
  have zh:=hG
  rw [lK hx0] at zh
  obtain⟨hb,_⟩:=zh
  obtain⟨c1,c2⟩:=gi (a:=⟨L.b x,j,none⟩) hb rfl rfl hv0
  have uQ:Sat β (hps.set i (.abs (ax (bI (aD O x f) L)))) (w.setCell ⟨L.b x,j,none⟩ (u)):=hS.set hp (fun F hF=>ax.step (k:=x) (show (ax (bI O L)).h F w from hF) (fun y hy=>uN hy) (fun G hG=>by
    rw [lK hx0] at hG
    rw [uM,if_neg (by rw [BH];exact hx0),hc,BH]
    exact sx hG rfl rfl))
  rw [drop_cons g1]
  unfold wpList
  rw [eM,if_pos g2]
  refine .inl (j5 (v:=undef) (w':=w.setCell ⟨L.b x,j,none⟩ (u)) (by rw [eF];exact KT g3 h2 h3 h4 hu c1 c2 rfl) ?_)
  rw [d6]
  have hK:=K _ rfl junk _ (by rw [Fx];exact uQ)
  rw [← g4] at hK
  exact hK
theorem tu (i:Nat) (js:List (Nat×Nat)) (x j:Nat) (f:aR->aR) {kd:Int} (hk:(obj O x).kind=kd)
    (K:∀ O2,O2=aD O x f->aj Tryz.prog β N ops (k+1) (dJ fr (jb ops k) undef) ((mT hps (p8 O2 L js)).set i (.abs (ax (bI O2 L)))) Q)
    (hp:hps[i]?=some (.abs (ax (bI O L))):=by rfl) (hj:tZ hps O L js:=by first|exact⟨rfl,trivial⟩|exact⟨rfl,rfl,trivial⟩|exact trivial)
    (ho:∀ junk,BF Tryz.prog N junk ops fr k=some (⟨L.b x,j,none⟩,(yE (f (obj O x))).getD j undef):=by intro _;kernel_rfl)
    (hn:j8 0 (js.map (·.2))=false:=by rfl) (h0:kd≠0:=by decide) (hc:gD L x (f (obj O x))=(gD L x (obj O x)).set j ((yE (f (obj O x))).getD j undef):=by rfl) (hu:((yE (f (obj O x))).getD j undef).oneCell'=true:=by rfl) (h9:Nat.blt j 9=true:=by rfl)
    (he:(f (obj O x)).ah=(obj O x).ah:=by rfl) (hd:(f (obj O x)).data=(obj O x).data:=by rfl) (BH:(f (obj O x)).kind=(obj O x).kind:=by rfl):aj Tryz.prog β N ops k fr hps Q:=
  Ti i js x j f _ hk K hp hj ho hn h0 hc hu (Nat.lt_of_lt_of_le (show j < 9 by simpa [Nat.blt_eq] using h9) (by unfold gD yE;simp)) he hd BH
theorem Tj (i:Nat) (js:List (Nat×Nat)) (x:Nat) (y:Option Nat) (hk:(obj O x).kind=2)
    (K:∀ O2,O2=aD O x (fun o=>{ o with up:=y })->aj Tryz.prog β N ops (k+1) (dJ fr (jb ops k) undef) ((mT hps (p8 O2 L js)).set i (.abs (ax (bI O2 L)))) Q)
    (hp:hps[i]?=some (.abs (ax (bI O L))):=by rfl) (hj:tZ hps O L js:=by first|exact⟨rfl,trivial⟩|exact⟨rfl,rfl,trivial⟩|exact trivial)
    (ho:∀ junk,BF Tryz.prog N junk ops fr k=some (⟨L.b x,10,none⟩,uL L y):=by intro _;kernel_rfl) (hn:j8 0 (js.map (·.2))=false:=by rfl):aj Tryz.prog β N ops k fr hps Q:=
  Ti i js x 10 (fun o=>{ o with up:=y }) (uL L y) hk K hp hj ho hn (by decide) (by rw [lM (show ({ obj O x with up:=y }:aR).kind=2 from hk),lM hk];rfl) (by cases y<;>rfl) (by rw [lM hk];exact Nat.lt_succ_self 10) rfl rfl rfl
theorem Sat.Oj {w:World} {i j:Nat} {f:aR->aR} {u:Value} (hS:Sat β hps w) (hp:hps[i]?=some (.abs (ax (bI O L)))) (hx0:(obj O x).kind≠0) (hc:gD L x (f (obj O x))=(gD L x (obj O x)).set j u) (BH:(f (obj O x)).kind=(obj O x).kind) (h9:j < (gD L x (obj O x)).length) :
    Sat β (hps.set i (.abs (ax (bI (aD O x f) L)))) (w.setCell ⟨L.b x,j,none⟩ u)/\(∃ v0,w.cell? ⟨L.b x,j,none⟩=some v0)/\w.frozen? ⟨L.b x,j,none⟩=false:=by
  obtain⟨v0,hv0⟩:=jF h9
  obtain⟨F,hF⟩:=hS.get hp
  obtain⟨G,hG⟩:=ax.at x (show (ax (bI O L)).h F w from hF)
  rw [lK hx0] at hG
  obtain⟨c1,c2⟩:=gi (a:=⟨L.b x,j,none⟩) hG.1 rfl rfl hv0
  refine⟨hS.set hp (fun F hF=>ax.step (k:=x) (show (ax (bI O L)).h F w from hF) (fun y hy=>uN hy) (fun G hG=>?_)),⟨v0,c1⟩,c2⟩
  rw [lK hx0] at hG
  rw [uM,if_neg (by rw [BH];exact hx0),hc,BH]
  exact sx hG rfl rfl
def Fy (P:Program) (N:Nat) (junk:Nat->Value) (ops:Array Oper) (fr:Fr) (k:Nat):Option (Addr×Value):=
  match fo N junk ops fr k with
  | some (.store T a y,_)=>match (P.info? T).map (·.size) with
    | some 2=>match di N fr junk a with
      | .pointer (some ad)=>some (ad,di N fr junk y)
      | _=>none
    | _=>none
  | _=>none
theorem KU {P:Program} {junk:Nat->Value} {ad:Addr} {u:Value} (h:Fy P N junk ops fr k=some (ad,u)):∃ T a y,fo N junk ops fr k=some (.store T a y,jb ops k)/\(P.info? T).map (·.size)=some 2/\di N fr junk a=.pointer (some ad)/\di N fr junk y=u:=by
  unfold Fy at h
  repeat' split at h
  all_goals first|(cases h;done)|skip
  rename_i T a y d h0 _ h1 _ Vu h2
  cases h
  have:=uY h0
  subst this
  exact⟨T,a,y,h0,h1,h2,rfl⟩
theorem Jh {P:Program} {T:TypeId} {a y:Operand} {o:Oper} {ev:Operand->Value} {w:World} {b j:Nat} {z1 z2:Int} {v0 v1:Value} (ho:o.op=.store T a y) (hT:(P.info? T).map (·.size)=some 2) (ha:ev a=.pointer (some ⟨b,j,none⟩)) (hy:ev y=.agg #[.int .i64 z1,.int .i64 z2])
    (hc:w.cell? ⟨b,j,none⟩=some v0) (hf:w.frozen? ⟨b,j,none⟩=false) (hc1:(w.setCell ⟨b,j,none⟩ (.int .i64 z1)).cell? ⟨b,j+1,none⟩=some v1) (hf1:(w.setCell ⟨b,j,none⟩ (.int .i64 z1)).frozen? ⟨b,j+1,none⟩=false) :
    nC P ev o w undef ((w.setCell ⟨b,j,none⟩ (.int .i64 z1)).setCell ⟨b,j+1,none⟩ (.int .i64 z2)):=by
  obtain⟨inf,hi,hsz⟩:∃ inf,P.info? T=some inf/\inf.size=2:=by
    cases h:P.info? T with
    | none=>rw [h] at hT;cases hT
    | some inf=>rw [h] at hT;exact⟨inf,rfl,by simpa using hT⟩
  have h3:=mQ hi w
  rw [hsz] at h3
  obtain⟨dst,op,type,pos,after,guard⟩:=o
  cases ho
  refine .inr ⟨rfl,?_⟩
  simp only [execOp,ha,hy]
  simp [go_sem,Instr.storeAt,Instr.sureAddr,storeVar,h3,Value.cells,storeCells,store,Addr.add,Sem.run,hc,hf,hc1,hf1]
theorem KV (i:Nat) (js:List (Nat×Nat)) (x:Nat) (z1 z2:Int) {kd:Int} (hk:(obj O x).kind=kd)
    (K:∀ O2,O2=aD O x (fun o=>{ o with sec:=z1,nano:=z2 })->aj Tryz.prog β N ops (k+1) (dJ fr (jb ops k) undef) ((mT hps (p8 O2 L js)).set i (.abs (ax (bI O2 L)))) Q)
    (hp:hps[i]?=some (.abs (ax (bI O L))):=by rfl) (hj:tZ hps O L js:=by first|exact⟨rfl,trivial⟩|exact⟨rfl,rfl,trivial⟩|exact trivial)
    (ho:∀ junk,Fy Tryz.prog N junk ops fr k=some (⟨L.b x,4,none⟩,.agg #[.int .i64 z1,.int .i64 z2]):=by intro _;kernel_rfl)
    (hn:j8 0 (js.map (·.2))=false:=by rfl) (h0:kd≠0:=by decide):aj Tryz.prog β N ops k fr hps Q:=by
  intro junk w hS
  obtain⟨T,a,y,h1,h2,h3,h4⟩:=KU (ho junk)
  obtain⟨o,g1,g2,g3,g4⟩:=dW h1
  have hx0:(obj O x).kind≠0:=by rw [hk];exact h0
  have Fx:mT hps (p8 (aD O x (fun o=>{ o with sec:=z1,nano:=z2 })) L js)=hps:=uX (p:=0) (fun q hq=>by
    match q,hq with
    | 0,hq=>exact absurd rfl hq
    | 1,_=>exact congrArg (fun R=>HP.abs (ax R)) (mW rfl rfl)
    | q+2,_=>exact congrArg (fun R=>HP.abs (ax R)) (mV rfl rfl)) hj hn
  have hlen:∀ o:aR,9<=(gD L x o).length:=fun o=>by unfold gD yE;simp
  obtain⟨s1,⟨v0,c1⟩,f1⟩:=hS.Oj (x:=x) (j:=4) (f:=fun o=>{ o with sec:=z1 }) (u:=.int .i64 z1) hp hx0 rfl rfl (by have:=hlen (obj O x);omega)
  have hi:i < hps.length:=bp hp
  have e1:obj (aD O x (fun o=>{ o with sec:=z1 })) x={ obj O x with sec:=z1 }:=bL
  obtain⟨s2,⟨v1,c2⟩,f2⟩:=s1.Oj (x:=x) (j:=5) (f:=fun o=>{ o with nano:=z2 }) (u:=.int .i64 z2) (i:=i) (O:=aD O x (fun o=>{ o with sec:=z1 })) (by rw [List.getElem?_set,if_pos rfl,if_pos hi]) (by rw [e1];exact hx0) rfl rfl (by have:=hlen (obj (aD O x (fun o=>{ o with sec:=z1 })) x);omega)
  rw [List.set_set,tQ] at s2
  rw [drop_cons g1]
  unfold wpList
  rw [eM,if_pos g2]
  refine .inl (j5 (v:=undef) (w':=_) (by rw [eF];exact Jh g3 h2 h3 h4 c1 f1 c2 f2) ?_)
  rw [d6]
  have hK:=K _ rfl junk _ (by rw [Fx];exact s2)
  rw [← g4] at hK
  exact hK
theorem yR {w:World} {i:Nat} (hS:Sat β hps w) (hp:hps[i]?=some (.abs (ax (cK O L)))) (hd:(obj O x).kind=2):fM Tryz.prog 9 w (L.m x) (iL L (obj O x).ah) (obj O x).ah.length:=by
  obtain⟨F,hF⟩:=hS.get hp
  obtain⟨G,hG⟩:=ax.at x (show (ax (cK O L)).h F w from hF)
  rw [oy hd] at hG
  exact hG.1
theorem Hy {w:World} {i:Nat} {o:Oper} {ev:Operand->Value} {a y:Operand} (hS:Sat β hps w) (hp:hps[i]?=some (.abs (ax (cK O L)))) (hd:(obj O x).kind=2) (hl:aT name (obj O x).ah=r) (h3:o.op=.lookup 136 a y false) (ha:ev a=.map (some (L.m x))) (hy:ev y=.string name) (hsz:name.size<=1048576):nC Tryz.prog ev o w (Fv L r) w:=by
  have h:=vr (z:=.nilIface) h3 (yR hS hp hd) ha hy zM Tryz.underlying136 (by kernel_rfl) (Cr (by omega))
  rw [r8,hl] at h
  cases r<;>exact h
theorem iD (i:Nat) (hd:(obj O x).kind=2) (hl:aT name (obj O x).ah=r) (K:aj Tryz.prog β N ops (k+1) (dJ fr (jb ops k) (Fv L r)) hps Q) (hp:hps[i]?=some (.abs (ax (cK O L))):=by rfl)
    (ho:∀ junk,BG N junk ops fr k=some (136,L.m x,.string name):=by intro _;kernel_rfl) (hsz:name.size<=1048576:=by omega):aj Tryz.prog β N ops k fr hps Q:=by
  intro junk w hS
  obtain⟨a,y,h1,h2,h3⟩:=oI (ho junk)
  exact aj.jy (cR:=hps) (v:=Fv L r) (d:=jb ops k) (op:=.lookup 136 a y false) (fun j=>by
    obtain⟨a',y',h1',_,_⟩:=oI (ho j)
    obtain⟨o,g1,g2,g3,g4⟩:=dW h1
    obtain⟨o',qO,KW,tv,KX⟩:=dW h1'
    rw [g1] at qO
    cases qO
    rw [g3] at tv
    cases tv
    exact h1') (fun o junk w ho' hS=>by
    obtain⟨a',y',h1',h2',h3'⟩:=oI (ho junk)
    obtain⟨o1,g1,g2,g3,g4⟩:=dW h1
    obtain⟨o',qO,KW,tv,KX⟩:=dW h1'
    rw [g1] at qO
    cases qO
    rw [g3] at tv
    cases tv
    exact⟨w,Hy hS hp hd hl ho' h2' h3' hsz,hS⟩) K junk w hS
theorem rz (i:Nat) (hd:(obj O x).kind=2) (hl:aT name (obj O x).ah=r) (K:aP Tryz.prog β N ops (k+1) (dJ fr (jb ops k) (Fv L r)) hps Q) (hp:hps[i]?=some (.abs (ax (cK O L))):=by rfl)
    (ho:∀ junk,BG N junk ops fr k=some (136,L.m x,.string name):=by intro _;kernel_rfl) (hsz:name.size<=1048576:=by omega):aP Tryz.prog β N ops k fr hps Q:=by
  intro junk
  obtain⟨a,y,h1,h2,h3⟩:=oI (ho junk)
  exact aP.jy (v:=Fv L r) (d:=jb ops k) (op:=.lookup 136 a y false) (fun j=>by
    obtain⟨a',y',h1',_,_⟩:=oI (ho j)
    obtain⟨o,g1,g2,g3,g4⟩:=dW h1
    obtain⟨o',qO,KW,tv,KX⟩:=dW h1'
    rw [g1] at qO
    cases qO
    rw [g3] at tv
    cases tv
    exact h1') (fun o junk w ho' hS=>by
    obtain⟨a',y',h1',h2',h3'⟩:=oI (ho junk)
    obtain⟨o1,g1,g2,g3,g4⟩:=dW h1
    obtain⟨o',qO,KW,tv,KX⟩:=dW h1'
    rw [g1] at qO
    cases qO
    rw [g3] at tv
    cases tv
    exact Hy hS hp hd hl ho' h2' h3' hsz) K junk
def Ji (N:Nat) (junk:Nat->Value) (ops:Array Oper) (fr:Fr) (k:Nat):Option (TypeId×Nat):=
  match fo N junk ops fr k with
  | some (.call ⟨.builtin .len,xs,ts⟩,_)=>match xs.toList with
    | [x]=>match ts.toList with
      | [t]=>match di N fr junk x with
        | .map (some b)=>some (t,b)
        | _=>none
      | _=>none
    | _=>none
  | _=>none
theorem Ag {junk:Nat->Value} {T:TypeId} {b:Nat} (h:Ji N junk ops fr k=some (T,b)):∃ a,fo N junk ops fr k=some (.call ⟨.builtin .len,#[a],#[T]⟩,jb ops k)/\di N fr junk a=.map (some b):=by
  unfold Ji at h
  repeat' split at h
  all_goals first|(cases h;done)|skip
  rename_i xs ts d h0 _ a h1 _ t' h2 _ b' h3
  cases h
  have:=uY h0
  subst this
  refine⟨a,?_,h3⟩
  rw [h0]
  obtain⟨xs⟩:=xs
  obtain⟨ts⟩:=ts
  cases h1
  cases h2
  rfl
theorem Vv (i:Nat) (hd:(obj O x).kind=2) (K:aj Tryz.prog β N ops (k+1) (dJ fr (jb ops k) (.int .i64 (((obj O x).ah.length:Nat):Int))) hps Q) (hp:hps[i]?=some (.abs (ax (cK O L))):=by rfl)
    (ho:∀ junk,Ji N junk ops fr k=some (136,L.m x):=by intro _;kernel_rfl):aj Tryz.prog β N ops k fr hps Q:=by
  obtain⟨a,h1,h2⟩:=Ag (ho (fun _=>undef))
  obtain⟨o,g1,g2,g3,g4⟩:=dW h1
  refine aj.jy (cR:=hps) (v:=.int .i64 (((obj O x).ah.length:Nat):Int)) (d:=jb ops k) (op:=o.op) (fun j=>?_) (fun o' junk w ho' hS=>?_) K
  ·obtain⟨a',h1',_⟩:=Ag (ho j)
   obtain⟨o',qO,KW,tv,KX⟩:=dW h1'
   rw [g1] at qO
   cases qO
   rw [tv]
   exact h1'
  obtain⟨a',h1',h2'⟩:=Ag (ho junk)
  obtain⟨o1,qO,KW,tv,KX⟩:=dW h1'
  rw [g1] at qO
  cases qO
  exact⟨w,yx (ho'.trans tv) rfl (yR hS hp hd) h2' Tryz.underlying136,hS⟩
theorem QT (i:Nat) (js:List (Nat×Nat)) {t:Th} (hd:(obj O x).kind=2) (hno:aT name (obj O x).ah=none)
    (K:∀ O2,O2=aD O x (fun o=>{ o with ah:=gA name t o.ah })->aj Tryz.prog β N ops (k+1) (dJ fr (jb ops k) undef) ((mT hps (p8 O2 L js)).set i (.abs (ax (cK O2 L)))) Q)
    (hp:hps[i]?=some (.abs (ax (cK O L))):=by rfl) (hj:tZ hps O L js:=by first|exact⟨rfl,trivial⟩|exact⟨rfl,rfl,trivial⟩|exact trivial)
    (ho:∀ junk,setAt N junk ops fr k=some (136,L.m x,.string name,dQ L t):=by intro _;kernel_rfl) (hn:j8 1 (js.map (·.2))=false:=by rfl) (hsz:name.size<=1048576:=by omega) (hel:(obj O x).ah.length<=1048576:=by omega):aj Tryz.prog β N ops k fr hps Q:=by
  intro junk w hS
  obtain⟨a,y,z,h1,h2,h3,h4⟩:=MV (ho junk)
  obtain⟨o,g1,g2,g3,g4⟩:=dW h1
  have Fx:mT hps (p8 (aD O x (fun o=>{ o with ah:=gA name t o.ah })) L js)=hps:=uX (p:=1) (fun q hq=>by
    match q,hq with
    | 0,_=>exact congrArg (fun R=>HP.abs (ax R)) (EN (es:=fun o=>gA name t o.ah))
    | 1,hq=>exact absurd rfl hq
    | q+2,_=>exact congrArg (fun R=>HP.abs (ax R)) (mV rfl rfl)) hj hn
  obtain⟨w',m1,m2,m3⟩:=(yR hS hp hd).store zM Tryz.underlying136 (by unfold maxLen;omega) (Cr (p:=name) (by omega)) (dQ L t)
  have e1:(iL L (obj O x).ah) (.string name.data.toList)=none:=by rw [r8,hno];rfl
  rw [e1,LZ hno] at m2
  have uQ:Sat β (hps.set i (.abs (ax (cK (aD O x (fun o=>{ o with ah:=gA name t o.ah })) L)))) w':=hS.set hp (fun F hF=>ax.step (k:=x) (show (ax (cK O L)).h F w from hF) (fun y hy=>xu hy) (fun G hG=>by
    rw [oy hd] at hG
    rw [oy (by rw [bL];exact hd),bL,EM]
    exact step_map hG m2 m3))
  rw [drop_cons g1]
  unfold wpList
  rw [eM,if_pos g2]
  refine .inl (j5 (v:=undef) (w':=w') (by
    rw [eF]
    refine .inr ⟨rfl,?_⟩
    obtain⟨dst,op,type,pos,after,guard⟩:=o
    cases g3
    simp only [execOp,h2,h3,h4]
    simp [go_sem,m1]) ?_)
  rw [d6]
  have hK:=K _ rfl junk _ (by rw [Fx];exact uQ)
  rw [← g4] at hK
  exact hK
theorem MW {junk:Nat->Value} {T K0:TypeId} {b:Nat} {key:Value} (h:Jg N junk ops fr k=some (T,K0,b,key)):∃ a y,fo N junk ops fr k=some (.call ⟨.builtin .delete,#[a,y],#[T,K0]⟩,jb ops k)/\di N fr junk a=.map (some b)/\di N fr junk y=key:=by
  unfold Jg at h
  repeat' split at h
  all_goals first|(cases h;done)|skip
  rename_i xs ts d h0 _ a y h1 _ t' K' h2 _ b' h3
  cases h
  have:=uY h0
  subst this
  refine⟨a,y,?_,h3,rfl⟩
  rw [h0]
  obtain⟨xs⟩:=xs
  obtain⟨ts⟩:=ts
  cases h1
  cases h2
  rfl
theorem QU (i:Nat) (js:List (Nat×Nat)) {t:Th} (hd:(obj O x).kind=2) (wo:aT name (obj O x).ah=some t) (hnt:ox (obj O x).ah)
    (K:∀ O2,O2=aD O x (fun o=>{ o with ah:=fX name o.ah })->aj Tryz.prog β N ops (k+1) (dJ fr (jb ops k) (.tuple #[])) ((mT hps (p8 O2 L js)).set i (.abs (ax (cK O2 L)))) Q)
    (hp:hps[i]?=some (.abs (ax (cK O L))):=by rfl) (hj:tZ hps O L js:=by first|exact⟨rfl,trivial⟩|exact⟨rfl,rfl,trivial⟩|exact trivial)
    (ho:∀ junk,Jg N junk ops fr k=some (136,9,L.m x,.string name):=by intro _;kernel_rfl) (hn:j8 1 (js.map (·.2))=false:=by rfl) (hsz:name.size<=1048576:=by omega):aj Tryz.prog β N ops k fr hps Q:=by
  intro junk w hS
  obtain⟨a,y,h1,h2,h3⟩:=MW (ho junk)
  obtain⟨o,g1,g2,g3,g4⟩:=dW h1
  have Fx:mT hps (p8 (aD O x (fun o=>{ o with ah:=fX name o.ah })) L js)=hps:=uX (p:=1) (fun q hq=>by
    match q,hq with
    | 0,_=>exact congrArg (fun R=>HP.abs (ax R)) (EN (es:=fun o=>fX name o.ah))
    | 1,hq=>exact absurd rfl hq
    | q+2,_=>exact congrArg (fun R=>HP.abs (ax R)) (mV rfl rfl)) hj hn
  obtain⟨w',m1,m2,m3⟩:=(yR hS hp hd).drop zM Tryz.underlying136 (Cr (p:=name) (by omega)) o.type
  have e1:(iL L (obj O x).ah) (.string name.data.toList)=some (dQ L t):=by rw [r8,wo];rfl
  rw [e1,L4] at m2
  have hlen:=LY hnt wo
  have uQ:Sat β (hps.set i (.abs (ax (cK (aD O x (fun o=>{ o with ah:=fX name o.ah })) L)))) w':=hS.set hp (fun F hF=>ax.step (k:=x) (show (ax (cK O L)).h F w from hF) (fun y hy=>xu hy) (fun G hG=>by
    rw [oy hd] at hG
    rw [oy (by rw [bL];exact hd),bL]
    rw [show (fX name (obj O x).ah).length=(obj O x).ah.length - 1 by omega]
    exact step_map hG m2 m3))
  rw [drop_cons g1]
  unfold wpList
  rw [eM,if_pos g2]
  refine .inl (j5 (v:=.tuple #[]) (w':=w') (by
    rw [eF]
    refine .inl ?_
    obtain⟨dst,op,type,pos,after,guard⟩:=o
    cases g3
    simp only [execOp,resolve,invoke,builtin]
    simp [go_sem,h2,h3,m1]) ?_)
  rw [d6]
  have hK:=K _ rfl junk _ (by rw [Fx];exact uQ)
  rw [← g4] at hK
  exact hK
end rules
section after
variable {O O2:bT} {j x:Nat} {f:aR->aR} {kd:Int}
theorem ku (e:O2=aD O j f) (h:(obj O x).kind=kd) (hf:∀ o,(f o).kind=o.kind:=by intro _;rfl):(obj O2 x).kind=kd:=by subst e;exact (jO hf).trans h
theorem fu {α:Type} (g:aR->α) {v:α} (e:O2=aD O j f) (h:g (obj O x)=v) (hf:∀ o,g (f o)=g o:=by intro _;rfl):g (obj O2 x)=v:=by subst e;exact (dF hf).trans h
end after
end
section
open Go.RowKit Go.Maps
attribute [local irreducible] aj aP af ai
theorem dg {β:Bs} (b:Nat):Spec Tryz.prog β 251 #[vP b] [] (fun v l=>v=vP b/\l=[]):=by
 refine Spec.enter Tryz.func251 rfl Tryz.ntmps251 (Nat.le_of_ble_eq_true rfl) (fun R=>?_)
 refine SR (gK 1 [] [] ?_)
 refine NS (gK 2 [(2,vP b)] [] ?_)
 refine NN (af.ret ?_)
 exact RT (vP b) [0] (⟨rfl,rfl⟩)
theorem mI {β:Bs} (a:Value):Spec Tryz.prog β 250 #[a] [] (fun v l=>v=vI 1/\l=[]):=by
 refine Spec.enter Tryz.func250 rfl Tryz.ntmps250 (Nat.le_of_ble_eq_true rfl) (fun R=>?_)
 refine SR (gK 1 [] [] ?_)
 refine NS (gK 1 [(2,vI 1)] [] ?_)
 refine NN (af.ret ?_)
 exact RT (vI 1) [0] (⟨rfl,rfl⟩)
theorem mJ {β:Bs} (a:Value):Spec Tryz.prog β 253 #[a] [] (fun v l=>v=vI 2/\l=[]):=by
 refine Spec.enter Tryz.func253 rfl Tryz.ntmps253 (Nat.le_of_ble_eq_true rfl) (fun R=>?_)
 refine SR (gK 1 [] [] ?_)
 refine NS (gK 1 [(2,vI 2)] [] ?_)
 refine NN (af.ret ?_)
 exact RT (vI 2) [0] (⟨rfl,rfl⟩)
theorem nY {β:Bs} (a:Value):Spec Tryz.prog β 252 #[a] [] (fun v l=>v=vI 3/\l=[]):=by
 refine Spec.enter Tryz.func252 rfl Tryz.ntmps252 (Nat.le_of_ble_eq_true rfl) (fun R=>?_)
 refine SR (gK 1 [] [] ?_)
 refine NS (gK 1 [(2,vI 3)] [] ?_)
 refine NN (af.ret ?_)
 exact RT (vI 3) [0] (⟨rfl,rfl⟩)
theorem Hz {β:Bs} (O:bT) (L:HL) (d:Nat) (hkd:(obj O d).kind=2) (name:ByteArray) (hsz:name.size<=1048576) (hno:aT name (obj O d).ah=none) (hel:(obj O d).ah.length<=1048576) (t:Th) (hkt:(obj O t.k).kind=t.kind) (h3:t.kind=1\/t.kind=2\/t.kind=3) (hb:0<=(obj O t.k).links/\(obj O t.k).links<=1048576) :
    Spec Tryz.prog β 63 #[vP (L.b d),.string name,(dQ L t)] [.abs (ax (bI O L)),.abs (ax (cK O L))] (fun v l=>v=.tuple #[]/\l=[.abs (ax (bI (ny O d name t) L)),.abs (ax (cK (ny O d name t) L))]):=by
 refine Spec.enter Tryz.func63 rfl Tryz.ntmps63 (Nat.le_of_ble_eq_true rfl) (fun R=>?_)
 refine af.seq ?_
 obtain⟨tk,kd⟩:=t;simp only at hkt h3;rcases h3 with rfl|rfl|rfl
 ·replace hkt:(obj O tk).kind=1:=hkt
  replace hb:0<=(obj O tk).links/\(obj O tk).links<=1048576:=hb
  refine af.region (gK 6 [(11,.map (some (L.m d))),(12,.string name),(13,.iface 129 (vP (L.b tk)))] [(3,v_ 0 (bw L hkd))] ?_)
  refine QT 1 [(0,0)] (t:=⟨tk,1⟩) hkd hno (fun cI cq=>?_)
  have jY:=ku cq hkd
  have mK:=ku cq hkt
  have hf3:(obj cI tk).links=(obj O tk).links:=fu aR.links cq rfl
  refine NS (gK 1 [(14,.iface 129 (vP (L.b tk)))] [] ?_)
  refine gL [] (dg (L.b tk)) ?_
  rintro _ _ ⟨rfl,rfl⟩
  refine gK 6 [(19,vI ((obj cI tk).links+1)),(21,.pointer (some ⟨(L.b tk),6,none⟩))] [(2,v_ 0 (ni L mK)),(3,p_ ⟨[],none,none,none,some (vI ((obj cI tk).links+1))⟩ [(Value.int .i64 (IntKind.wrap .i64 ((obj cI tk).links+1)))=(.int .i64 ((obj cI tk).links+1))] ⟨bn (by omega) (by omega) (by omega),trivial⟩)] ?_
  refine tu 0 [(1,1)] tk 6 (fun o=>{ o with links:=o.links+1 }) mK (fun ef dh=>?_)
  have x3:=ku dh jY
  have x5:=ku dh mK
  refine NS (gK 7 [(6,.pointer none),(7,.bool false)] [] ?_)
  refine NS (gK 1 [(27,.bool false)] [] ?_)
  refine NN (CF (af.skip ?_))
  exact RF (l:=[.abs (ax (bI ef L)),.abs (ax (cK ef L))]) (.tuple #[]) [0,1,2] (⟨rfl,by subst dh;subst cq;rfl⟩)
 ·replace hkt:(obj O tk).kind=2:=hkt
  replace hb:0<=(obj O tk).links/\(obj O tk).links<=1048576:=hb
  refine af.region (gK 6 [(11,.map (some (L.m d))),(12,.string name),(13,.iface 135 (vP (L.b tk)))] [(3,v_ 0 (bw L hkd))] ?_)
  refine QT 1 [(0,0)] (t:=⟨tk,2⟩) hkd hno (fun cI cq=>?_)
  have MX:=ku cq hkd
  have Jj:=ku cq hkt
  have WW:(obj cI tk).links=(obj O tk).links:=fu aR.links cq rfl
  refine NS (gK 1 [(14,.iface 135 (vP (L.b tk)))] [] ?_)
  refine gL [] (dg (L.b tk)) ?_
  rintro _ _ ⟨rfl,rfl⟩
  refine gK 6 [(19,vI ((obj cI tk).links+1)),(21,.pointer (some ⟨(L.b tk),6,none⟩))] [(2,v_ 0 (ni L Jj)),(3,p_ ⟨[],none,none,none,some (vI ((obj cI tk).links+1))⟩ [(Value.int .i64 (IntKind.wrap .i64 ((obj cI tk).links+1)))=(.int .i64 ((obj cI tk).links+1))] ⟨bn (by omega) (by omega) (by omega),trivial⟩)] ?_
  refine tu 0 [(1,1)] tk 6 (fun o=>{ o with links:=o.links+1 }) Jj (fun ef dh=>?_)
  have CP:=ku dh MX
  have Jk:=ku dh Jj
  refine NS (gK 7 [(6,vP (L.b tk)),(7,.bool true)] [] ?_)
  refine NS (gK 1 [(27,.bool true)] [] ?_)
  refine NN (CT (af.region (gK 4 [(29,vP (L.b d)),(31,.pointer (some ⟨(L.b tk),10,none⟩))] [] ?_)))
  refine Tj 0 [(1,1)] tk (some d) Jk (fun uZ l6=>?_)
  have Ol:=ku l6 CP
  have V6:=ku l6 Jk
  refine NL ?_
  exact RF (l:=[.abs (ax (bI uZ L)),.abs (ax (cK uZ L))]) (.tuple #[]) [0,1,2] (⟨rfl,by subst l6;subst dh;subst cq;rfl⟩)
 replace hkt:(obj O tk).kind=3:=hkt
 replace hb:0<=(obj O tk).links/\(obj O tk).links<=1048576:=hb
 refine af.region (gK 6 [(11,.map (some (L.m d))),(12,.string name),(13,.iface 132 (vP (L.b tk)))] [(3,v_ 0 (bw L hkd))] ?_)
 refine QT 1 [(0,0)] (t:=⟨tk,3⟩) hkd hno (fun cI cq=>?_)
 have SG:=ku cq hkd
 have Jl:=ku cq hkt
 have Wp:(obj cI tk).links=(obj O tk).links:=fu aR.links cq rfl
 refine NS (gK 1 [(14,.iface 132 (vP (L.b tk)))] [] ?_)
 refine gL [] (dg (L.b tk)) ?_
 rintro _ _ ⟨rfl,rfl⟩
 refine gK 6 [(19,vI ((obj cI tk).links+1)),(21,.pointer (some ⟨(L.b tk),6,none⟩))] [(2,v_ 0 (ni L Jl)),(3,p_ ⟨[],none,none,none,some (vI ((obj cI tk).links+1))⟩ [(Value.int .i64 (IntKind.wrap .i64 ((obj cI tk).links+1)))=(.int .i64 ((obj cI tk).links+1))] ⟨bn (by omega) (by omega) (by omega),trivial⟩)] ?_
 refine tu 0 [(1,1)] tk 6 (fun o=>{ o with links:=o.links+1 }) Jl (fun ef dh=>?_)
 have BI:=ku dh SG
 have SH:=ku dh Jl
 refine NS (gK 7 [(6,.pointer none),(7,.bool false)] [] ?_)
 refine NS (gK 1 [(27,.bool false)] [] ?_)
 refine NN (CF (af.skip ?_))
 exact RF (l:=[.abs (ax (bI ef L)),.abs (ax (cK ef L))]) (.tuple #[]) [0,1,2] (⟨rfl,by subst dh;subst cq;rfl⟩)
theorem iJ {β:Bs} (X:FM) (f m t:Nat) (hX:0<=X.ah/\X.ah<=1048576/\-1125899906842624<=X.used/\X.used<=1125899906842624/\0<=X.last/\X.last<=1125899906842624) (O:bT) (L:HL) (d:Nat) (hkd:(obj O d).kind=2) (name:ByteArray) (hsz:name.size<=1048576) (hno:aT name (obj O d).ah=none) (hel:(obj O d).ah.length<=1048576) (th:Th) (hkt:(obj O th.k).kind=th.kind) (h3:th.kind=1\/th.kind=2\/th.kind=3) (hb:0<=(obj O th.k).links/\(obj O th.k).links<=1048576) :
    Spec Tryz.prog β 130 #[vP f,vP (L.b d),.string name,(dQ L th)] [.blk f [vI (X.cN),vI (X.cB),vI (X.cH),vI (X.cS),vI (X.cZ),.map (some m),vP t,vI (X.last),vI (X.ah),vI (X.used)] 126,.abs (ax (bI O L)),.abs (ax (cK O L))] (fun v l=>v=.tuple #[]/\l=[.blk f [vI (X.cN),vI (X.cB),vI (X.cH),vI (X.cS),vI (X.cZ),.map (some m),vP t,vI (X.last),vI (X.ah+1),vI (X.used)] 126,.abs (ax (bI (cU X O d name th) L)),.abs (ax (cK (cU X O d name th) L))]):=by
 refine Spec.enter Tryz.func130 rfl Tryz.ntmps130 (Nat.le_of_ble_eq_true rfl) (fun R=>?_)
 refine af.seq ?_
 skip
 refine af.region (gK 3 [(8,vP (L.b d)),(9,.string name),(10,(dQ L th))] [] ?_)
 refine gL [1,2] (Hz O L d hkd name hsz hno hel th hkt h3 hb) ?_
 rintro _ _ ⟨rfl,rfl⟩
 refine NS ?_
 have BJ:(obj (ny O d name th) d).kind=2:=(xB).trans (hkd)
 generalize cq:(ny O d name th)=cI at BJ ⊢
 refine gK 9 [(17,.agg #[vI (X.cS),vI (X.cZ)]),(20,.pointer (some ⟨(L.b d),4,none⟩))] [(5,A_ 2 f 2)] ?_
 refine KV 0 [(1,1)] d X.cS X.cZ BJ (fun ef dh=>?_)
 have V7:=ku dh BJ
 refine NN (af.region (gC 8 [] [(3,a_ 2 f),(4,p_ ⟨[],none,none,none,some (vI (X.ah+1))⟩ [(Value.int .i64 (IntKind.wrap .i64 (X.ah+1)))=(.int .i64 (X.ah+1))] ⟨bn (by omega) (by omega) (by omega),trivial⟩),(7,a_ 2 f)] [(2,[(8,vI (X.ah+1))])] ?_))
 refine NL ?_
 exact RF (l:=[.blk f [vI (X.cN),vI (X.cB),vI (X.cH),vI (X.cS),vI (X.cZ),.map (some m),vP t,vI (X.last),vI (X.ah+1),vI (X.used)] 126,.abs (ax (bI ef L)),.abs (ax (cK ef L))]) (.tuple #[]) [2,0,1,3] (⟨rfl,by subst dh;subst cq;rfl⟩)
theorem jI {β:Bs} (X:FM) (f m t:Nat) (hX:0<=X.ah/\X.ah<=1048576/\-1125899906842624<=X.used/\X.used<=1125899906842624/\0<=X.last/\X.last<=1125899906842624) (O:bT) (L:HL) (d:Nat) (hkd:(obj O d).kind=2) (name:ByteArray) (hsz:name.size<=1048576) (th:Th) (hkt:(obj O th.k).kind=th.kind) (h3:th.kind=1\/th.kind=2\/th.kind=3) (wo:aT name (obj O d).ah=some th) (hnt:ox (obj O d).ah) (_:(obj O d).ah.length<=1048576) (hb:0<=(obj O th.k).links/\(obj O th.k).links<=1048576) :
    Spec Tryz.prog β 170 #[vP f,vP (L.b d),.string name] [.blk f [vI (X.cN),vI (X.cB),vI (X.cH),vI (X.cS),vI (X.cZ),.map (some m),vP t,vI (X.last),vI (X.ah),vI (X.used)] 126,.abs (ax (bI O L)),.abs (ax (cK O L))] (fun v l=>v=dQ L th/\l=[.blk f [vI (X.cN),vI (X.cB),vI (X.cH),vI (X.cS),vI (X.cZ),.map (some m),vP t,vI (X.last),vI (X.ah - 1),vI (X.used)] 126,.abs (ax (bI (aQ X O d name th) L)),.abs (ax (cK (aQ X O d name th) L))]):=by
 refine Spec.enter Tryz.func170 rfl Tryz.ntmps170 (Nat.le_of_ble_eq_true rfl) (fun R=>?_)
 refine af.seq ?_
 obtain⟨tk,kd⟩:=th;simp only at hkt h3;rcases h3 with rfl|rfl|rfl
 ·replace hkt:(obj O tk).kind=1:=hkt
  replace hb:0<=(obj O tk).links/\(obj O tk).links<=1048576:=hb
  refine af.region (gK 1 [] [] ?_)
  refine NS (gK 5 [(11,.map (some (L.m d))),(12,.string name)] [(3,v_ 1 (bw L hkd))] ?_)
  refine iD 2 hkd wo ?_
  refine gK 1 [(7,.iface 129 (vP (L.b tk)))] [] ?_
  refine NS (gK 5 [(17,.map (some (L.m d))),(18,.string name)] [(3,v_ 1 (bw L hkd))] ?_)
  refine QU 2 [(1,0)] hkd wo hnt (fun cI cq=>?_)
  have Om:=ku cq hkd
  have SI:=ku cq hkt
  have UC:(obj cI tk).links=(obj O tk).links:=fu aR.links cq rfl
  refine NS (gK 9 [(24,.agg #[vI (X.cS),vI (X.cZ)]),(27,.pointer (some ⟨(L.b d),4,none⟩))] [(5,A_ 0 f 2)] ?_)
  refine KV 1 [(2,1)] d X.cS X.cZ Om (fun ef dh=>?_)
  have Oo:=ku dh Om
  have Ei:=ku dh SI
  have Wq:(obj ef tk).links=(obj O tk).links:=fu aR.links dh UC
  refine NS (gC 8 [] [(3,a_ 0 f),(4,p_ ⟨[],none,none,none,some (vI (X.ah - 1))⟩ [(Value.int .i64 (IntKind.wrap .i64 (X.ah - 1)))=(.int .i64 (X.ah - 1))] ⟨bn (by omega) (by omega) (by omega),trivial⟩),(7,a_ 0 f)] [(0,[(8,vI (X.ah - 1))])] ?_)
  refine NS (gK 1 [(35,.iface 129 (vP (L.b tk)))] [] ?_)
  refine gL [] (dg (L.b tk)) ?_
  rintro _ _ ⟨rfl,rfl⟩
  refine gK 6 [(40,vI ((obj ef tk).links - 1)),(42,.pointer (some ⟨(L.b tk),6,none⟩))] [(2,v_ 1 (ni L Ei)),(3,p_ ⟨[],none,none,none,some (vI ((obj ef tk).links - 1))⟩ [(Value.int .i64 (IntKind.wrap .i64 ((obj ef tk).links - 1)))=(.int .i64 ((obj ef tk).links - 1))] ⟨bn (by omega) (by omega) (by omega),trivial⟩)] ?_
  refine tu 1 [(2,1)] tk 6 (fun o=>{ o with links:=o.links - 1 }) Ei (fun uZ l6=>?_)
  have V8:=ku l6 Oo
  have V9:=ku l6 Ei
  refine NS (gK 2 [(6,.iface 129 (vP (L.b tk)))] [] ?_)
  refine NN (af.ret ?_)
  exact RT (l:=[.blk f [vI (X.cN),vI (X.cB),vI (X.cH),vI (X.cS),vI (X.cZ),.map (some m),vP t,vI (X.last),vI (X.ah - 1),vI (X.used)] 126,.abs (ax (bI uZ L)),.abs (ax (cK uZ L))]) (.iface 129 (vP (L.b tk))) [0,1,2,3] (⟨rfl,by subst l6;subst dh;subst cq;rfl⟩)
 ·replace hkt:(obj O tk).kind=2:=hkt
  replace hb:0<=(obj O tk).links/\(obj O tk).links<=1048576:=hb
  refine af.region (gK 1 [] [] ?_)
  refine NS (gK 5 [(11,.map (some (L.m d))),(12,.string name)] [(3,v_ 1 (bw L hkd))] ?_)
  refine iD 2 hkd wo ?_
  refine gK 1 [(7,.iface 135 (vP (L.b tk)))] [] ?_
  refine NS (gK 5 [(17,.map (some (L.m d))),(18,.string name)] [(3,v_ 1 (bw L hkd))] ?_)
  refine QU 2 [(1,0)] hkd wo hnt (fun cI cq=>?_)
  have Oq:=ku cq hkd
  have SJ:=ku cq hkt
  have UD:(obj cI tk).links=(obj O tk).links:=fu aR.links cq rfl
  refine NS (gK 9 [(24,.agg #[vI (X.cS),vI (X.cZ)]),(27,.pointer (some ⟨(L.b d),4,none⟩))] [(5,A_ 0 f 2)] ?_)
  refine KV 1 [(2,1)] d X.cS X.cZ Oq (fun ef dh=>?_)
  have SK:=ku dh Oq
  have Jm:=ku dh SJ
  have Wr:(obj ef tk).links=(obj O tk).links:=fu aR.links dh UD
  refine NS (gC 8 [] [(3,a_ 0 f),(4,p_ ⟨[],none,none,none,some (vI (X.ah - 1))⟩ [(Value.int .i64 (IntKind.wrap .i64 (X.ah - 1)))=(.int .i64 (X.ah - 1))] ⟨bn (by omega) (by omega) (by omega),trivial⟩),(7,a_ 0 f)] [(0,[(8,vI (X.ah - 1))])] ?_)
  refine NS (gK 1 [(35,.iface 135 (vP (L.b tk)))] [] ?_)
  refine gL [] (dg (L.b tk)) ?_
  rintro _ _ ⟨rfl,rfl⟩
  refine gK 6 [(40,vI ((obj ef tk).links - 1)),(42,.pointer (some ⟨(L.b tk),6,none⟩))] [(2,v_ 1 (ni L Jm)),(3,p_ ⟨[],none,none,none,some (vI ((obj ef tk).links - 1))⟩ [(Value.int .i64 (IntKind.wrap .i64 ((obj ef tk).links - 1)))=(.int .i64 ((obj ef tk).links - 1))] ⟨bn (by omega) (by omega) (by omega),trivial⟩)] ?_
  refine tu 1 [(2,1)] tk 6 (fun o=>{ o with links:=o.links - 1 }) Jm (fun uZ l6=>?_)
  have Wa:=ku l6 SK
  have Wb:=ku l6 Jm
  refine NS (gK 2 [(6,.iface 135 (vP (L.b tk)))] [] ?_)
  refine NN (af.ret ?_)
  exact RT (l:=[.blk f [vI (X.cN),vI (X.cB),vI (X.cH),vI (X.cS),vI (X.cZ),.map (some m),vP t,vI (X.last),vI (X.ah - 1),vI (X.used)] 126,.abs (ax (bI uZ L)),.abs (ax (cK uZ L))]) (.iface 135 (vP (L.b tk))) [0,1,2,3] (⟨rfl,by subst l6;subst dh;subst cq;rfl⟩)
 replace hkt:(obj O tk).kind=3:=hkt
 replace hb:0<=(obj O tk).links/\(obj O tk).links<=1048576:=hb
 refine af.region (gK 1 [] [] ?_)
 refine NS (gK 5 [(11,.map (some (L.m d))),(12,.string name)] [(3,v_ 1 (bw L hkd))] ?_)
 refine iD 2 hkd wo ?_
 refine gK 1 [(7,.iface 132 (vP (L.b tk)))] [] ?_
 refine NS (gK 5 [(17,.map (some (L.m d))),(18,.string name)] [(3,v_ 1 (bw L hkd))] ?_)
 refine QU 2 [(1,0)] hkd wo hnt (fun cI cq=>?_)
 have Ot:=ku cq hkd
 have SL:=ku cq hkt
 have UE:(obj cI tk).links=(obj O tk).links:=fu aR.links cq rfl
 refine NS (gK 9 [(24,.agg #[vI (X.cS),vI (X.cZ)]),(27,.pointer (some ⟨(L.b d),4,none⟩))] [(5,A_ 0 f 2)] ?_)
 refine KV 1 [(2,1)] d X.cS X.cZ Ot (fun ef dh=>?_)
 have SM:=ku dh Ot
 have Jo:=ku dh SL
 have Ws:(obj ef tk).links=(obj O tk).links:=fu aR.links dh UE
 refine NS (gC 8 [] [(3,a_ 0 f),(4,p_ ⟨[],none,none,none,some (vI (X.ah - 1))⟩ [(Value.int .i64 (IntKind.wrap .i64 (X.ah - 1)))=(.int .i64 (X.ah - 1))] ⟨bn (by omega) (by omega) (by omega),trivial⟩),(7,a_ 0 f)] [(0,[(8,vI (X.ah - 1))])] ?_)
 refine NS (gK 1 [(35,.iface 132 (vP (L.b tk)))] [] ?_)
 refine gL [] (dg (L.b tk)) ?_
 rintro _ _ ⟨rfl,rfl⟩
 refine gK 6 [(40,vI ((obj ef tk).links - 1)),(42,.pointer (some ⟨(L.b tk),6,none⟩))] [(2,v_ 1 (ni L Jo)),(3,p_ ⟨[],none,none,none,some (vI ((obj ef tk).links - 1))⟩ [(Value.int .i64 (IntKind.wrap .i64 ((obj ef tk).links - 1)))=(.int .i64 ((obj ef tk).links - 1))] ⟨bn (by omega) (by omega) (by omega),trivial⟩)] ?_
 refine tu 1 [(2,1)] tk 6 (fun o=>{ o with links:=o.links - 1 }) Jo (fun uZ l6=>?_)
 have Wd:=ku l6 SM
 have Wf:=ku l6 Jo
 refine NS (gK 2 [(6,.iface 132 (vP (L.b tk)))] [] ?_)
 refine NN (af.ret ?_)
 exact RT (l:=[.blk f [vI (X.cN),vI (X.cB),vI (X.cH),vI (X.cS),vI (X.cZ),.map (some m),vP t,vI (X.last),vI (X.ah - 1),vI (X.used)] 126,.abs (ax (bI uZ L)),.abs (ax (cK uZ L))]) (.iface 132 (vP (L.b tk))) [0,1,2,3] (⟨rfl,by subst l6;subst dh;subst cq;rfl⟩)
end
section
open Go.RowKit Go.Maps bD aE
attribute [local irreducible] aj aP af ai
abbrev KY (f:Nat) (X:FM) (m:Nat) (t):=(.blk f [vI (X.cN),vI (X.cB),vI (X.cH),vI (X.cS),vI (X.cZ),.map (some m),vP t,vI (X.last),vI (X.ah),vI (X.used)] 126:HP)
theorem MY {β:Bs} (X:FM) (f m t:Nat) (hX:0<=X.ah/\X.ah<=1048576/\-1125899906842624<=X.used/\X.used<=1125899906842624/\0<=X.last/\X.last<=1125899906842624) (O:bT) (L:HL) (idx:Used Th) (KZ:aE.ct (keys idx)) (th:Th) (hkt:(obj O th.k).kind=th.kind) (h3:th.kind=1\/th.kind=2\/th.kind=3) (hg:(obj O th.k).gone=true) (ho:(obj O th.k).opens=0) (hix:aE.get idx (obj O th.k).id=some th) (hw:(Lit.int .i64 (obj O th.k).id).wf=true) (x6:(obj O th.k).data.length<=1125899906842624) :
    Spec Tryz.prog β 136 #[vP f,(dQ L th)] [pO O L,pF f m t X,pI m L idx] (fun v l=>v=.tuple #[]/\l=[pO O L,pF f m t { X with used:=if th.kind=1 then X.used - (obj O th.k).data.length else X.used },pI m L (del (obj O th.k).id idx)]):=by
 refine Spec.enter Tryz.func136 rfl Tryz.ntmps136 (Nat.le_of_ble_eq_true rfl) (fun R=>?_)
 refine af.seq ?_
 obtain⟨tk,kd⟩:=th;simp only at hkt h3;rcases h3 with rfl|rfl|rfl
 ·replace hkt:(obj O tk).kind=1:=hkt
  replace hg:(obj O tk).gone=true:=hg
  replace ho:(obj O tk).opens=0:=ho
  replace hix:aE.get idx (obj O tk).id=some _:=hix
  replace hw:(Lit.int .i64 (obj O tk).id).wf=true:=hw
  have hdl:=pY KZ (get_some hix)
  replace x6:(obj O tk).data.length<=1125899906842624:=x6
  refine af.region (gK 1 [(7,.iface 129 (vP (L.b tk)))] [] ?_)
  refine gL [] (dg (L.b tk)) ?_
  rintro _ _ ⟨rfl,rfl⟩
  refine gK 1 [(4,vP (L.b tk))] [] ?_
  refine NN (af.seq (SR (gK 6 [(14,.bool (!(obj O tk).gone))] [(3,v_ 0 (nK L hkt))] ?_)))
  refine aj.nN 14 (!(obj O tk).gone) (fun _=>by kernel_rfl) (fun jc=>?_) (fun jc=>?_)
  ·exact absurd jc (by simp [hg])
  refine gK 6 [(20,.bool (decide (((obj O tk).opens:Int) > (0:Int))))] [(3,v_ 0 (j3 L hkt))] ?_
  refine NN (af.aV (p:=((obj O tk).opens:Int) > (0:Int)) (fun _=>by kernel_rfl) (fun pG=>?_) (fun pG=>?_))
  ·exact absurd pG (by omega)
  refine af.skip (NX (af.seq (af.bM (S:=[pO O L,pF f m t X,pI m L idx,.abs R]) [0,1,2,3,4,5,6,7,8] 8 [0,1,2,3] (by kernel_rfl) (by kernel_rfl) rfl (by kernel_rfl) ?_)))
  refine gR 0 [8] [(0,vP f),(1,.iface 129 (vP (L.b tk))),(24,.map (some m)),(28,vI ((obj O tk).id))] [0,1,2,3,4,5,6,7] [(3,a_ 1 f),(7,v_ 0 (qX L hkt))] ?_
  refine aN.last rfl rfl ?_
  refine aj.Ay 2 (d:=none) (t:=120) (K:=3) (E:=124) (b:=m) (n:=idx.length) (f:=(aX (aY L idx))) (x:=(.tmp 24)) (ix:=(.tmp 28)) (key:=.int .i64 ((obj O tk).id)) (kl:=(.int .i64 (obj O tk).id)) (n':=(idx.length - 1)) (f':=(aX (aY L (del (obj O tk).id idx)))) (ats:=#[120,3]) (fun _=>by kernel_rfl) (by kernel_rfl) (fun _=>by kernel_rfl) (fun _=>by kernel_rfl) rfl dw Tryz.underlying120 (gY hw) (by rw [fC,hix];rfl) (Cw) ?_
  refine NL (ai.np (NX (SR ?_)))
  refine gK 7 [(5,vP (L.b tk)),(6,.bool true)] [] ?_
  refine NS (gK 1 [(34,.bool true)] [] ?_)
  refine NN (CT (af.bM (S:=[pO O L,pF f m t X,.abs (aL Tryz.prog 3 m (aX (aY L (del (obj O tk).id idx))) (idx.length - 1)),.abs R]) [0,1,2,3,4,5,6,7,8,9,10,11,12] 12 [0,1,2,3] (by kernel_rfl) (by kernel_rfl) rfl (by kernel_rfl) ?_))
  refine gR 0 [12] [(44,vI (X.used - (((obj O tk).data.length:Nat):Int))),(46,.pointer (some ⟨f,9,none⟩))] [0,1,2,3,4,5,6,7,8,9,10,11] [(3,a_ 1 f),(7,v_ 0 (Fu L hkt)),(9,p_ ⟨[],none,none,none,some (vI (X.used - (((obj O tk).data.length:Nat):Int)))⟩ [(Value.int .i64 (IntKind.wrap .i64 (X.used - (((obj O tk).data.length:Nat):Int))))=(.int .i64 (X.used - (((obj O tk).data.length:Nat):Int)))] ⟨bn (by omega) (by omega) (by omega),trivial⟩)] ?_
  refine aN.last rfl rfl ?_
  refine gC 1 [] [(0,a_ 1 f)] [(1,[(9,vI (X.used - (((obj O tk).data.length:Nat):Int)))])] ?_
  refine NL (ai.np ?_)
  refine ai.dx [(2,.abs (aL Tryz.prog 3 m (aX (aY L (del (obj O tk).id idx))) ((del (obj O tk).id idx).length)))] (fun w hS=>by rw [show (del (obj O tk).id idx).length=idx.length - 1 by omega];exact hS) ?_
  exact RF (.tuple #[]) [0,1,2,3] (⟨rfl,rfl⟩)
 ·replace hkt:(obj O tk).kind=2:=hkt
  replace hg:(obj O tk).gone=true:=hg
  replace ho:(obj O tk).opens=0:=ho
  replace hix:aE.get idx (obj O tk).id=some _:=hix
  replace hw:(Lit.int .i64 (obj O tk).id).wf=true:=hw
  have hdl:=pY KZ (get_some hix)
  replace x6:(obj O tk).data.length<=1125899906842624:=x6
  refine af.region (gK 1 [(7,.iface 135 (vP (L.b tk)))] [] ?_)
  refine gL [] (dg (L.b tk)) ?_
  rintro _ _ ⟨rfl,rfl⟩
  refine gK 1 [(4,vP (L.b tk))] [] ?_
  refine NN (af.seq (SR (gK 6 [(14,.bool (!(obj O tk).gone))] [(3,v_ 0 (nK L hkt))] ?_)))
  refine aj.nN 14 (!(obj O tk).gone) (fun _=>by kernel_rfl) (fun jc=>?_) (fun jc=>?_)
  ·exact absurd jc (by simp [hg])
  refine gK 6 [(20,.bool (decide (((obj O tk).opens:Int) > (0:Int))))] [(3,v_ 0 (j3 L hkt))] ?_
  refine NN (af.aV (p:=((obj O tk).opens:Int) > (0:Int)) (fun _=>by kernel_rfl) (fun pG=>?_) (fun pG=>?_))
  ·exact absurd pG (by omega)
  refine af.skip (NX (af.seq (af.bM (S:=[pO O L,pF f m t X,pI m L idx,.abs R]) [0,1,2,3,4,5,6,7,8] 8 [0,1,2,3] (by kernel_rfl) (by kernel_rfl) rfl (by kernel_rfl) ?_)))
  refine gR 0 [8] [(0,vP f),(1,.iface 135 (vP (L.b tk))),(24,.map (some m)),(28,vI ((obj O tk).id))] [0,1,2,3,4,5,6,7] [(3,a_ 1 f),(7,v_ 0 (qX L hkt))] ?_
  refine aN.last rfl rfl ?_
  refine aj.Ay 2 (d:=none) (t:=120) (K:=3) (E:=124) (b:=m) (n:=idx.length) (f:=(aX (aY L idx))) (x:=(.tmp 24)) (ix:=(.tmp 28)) (key:=.int .i64 ((obj O tk).id)) (kl:=(.int .i64 (obj O tk).id)) (n':=(idx.length - 1)) (f':=(aX (aY L (del (obj O tk).id idx)))) (ats:=#[120,3]) (fun _=>by kernel_rfl) (by kernel_rfl) (fun _=>by kernel_rfl) (fun _=>by kernel_rfl) rfl dw Tryz.underlying120 (gY hw) (by rw [fC,hix];rfl) (Cw) ?_
  refine NL (ai.np (NX (SR ?_)))
  refine gK 7 [(5,.pointer none),(6,.bool false)] [] ?_
  refine NS (gK 1 [(34,.bool false)] [] ?_)
  refine NN (CF (af.skip (ai.dx [(2,.abs (aL Tryz.prog 3 m (aX (aY L (del (obj O tk).id idx))) ((del (obj O tk).id idx).length)))] (fun w hS=>by rw [show (del (obj O tk).id idx).length=idx.length - 1 by omega];exact hS) ?_)))
  exact RF (.tuple #[]) [0,1,2,3] (⟨rfl,rfl⟩)
 replace hkt:(obj O tk).kind=3:=hkt
 replace hg:(obj O tk).gone=true:=hg
 replace ho:(obj O tk).opens=0:=ho
 replace hix:aE.get idx (obj O tk).id=some _:=hix
 replace hw:(Lit.int .i64 (obj O tk).id).wf=true:=hw
 have hdl:=pY KZ (get_some hix)
 replace x6:(obj O tk).data.length<=1125899906842624:=x6
 refine af.region (gK 1 [(7,.iface 132 (vP (L.b tk)))] [] ?_)
 refine gL [] (dg (L.b tk)) ?_
 rintro _ _ ⟨rfl,rfl⟩
 refine gK 1 [(4,vP (L.b tk))] [] ?_
 refine NN (af.seq (SR (gK 6 [(14,.bool (!(obj O tk).gone))] [(3,v_ 0 (nK L hkt))] ?_)))
 refine aj.nN 14 (!(obj O tk).gone) (fun _=>by kernel_rfl) (fun jc=>?_) (fun jc=>?_)
 ·exact absurd jc (by simp [hg])
 refine gK 6 [(20,.bool (decide (((obj O tk).opens:Int) > (0:Int))))] [(3,v_ 0 (j3 L hkt))] ?_
 refine NN (af.aV (p:=((obj O tk).opens:Int) > (0:Int)) (fun _=>by kernel_rfl) (fun pG=>?_) (fun pG=>?_))
 ·exact absurd pG (by omega)
 refine af.skip (NX (af.seq (af.bM (S:=[pO O L,pF f m t X,pI m L idx,.abs R]) [0,1,2,3,4,5,6,7,8] 8 [0,1,2,3] (by kernel_rfl) (by kernel_rfl) rfl (by kernel_rfl) ?_)))
 refine gR 0 [8] [(0,vP f),(1,.iface 132 (vP (L.b tk))),(24,.map (some m)),(28,vI ((obj O tk).id))] [0,1,2,3,4,5,6,7] [(3,a_ 1 f),(7,v_ 0 (qX L hkt))] ?_
 refine aN.last rfl rfl ?_
 refine aj.Ay 2 (d:=none) (t:=120) (K:=3) (E:=124) (b:=m) (n:=idx.length) (f:=(aX (aY L idx))) (x:=(.tmp 24)) (ix:=(.tmp 28)) (key:=.int .i64 ((obj O tk).id)) (kl:=(.int .i64 (obj O tk).id)) (n':=(idx.length - 1)) (f':=(aX (aY L (del (obj O tk).id idx)))) (ats:=#[120,3]) (fun _=>by kernel_rfl) (by kernel_rfl) (fun _=>by kernel_rfl) (fun _=>by kernel_rfl) rfl dw Tryz.underlying120 (gY hw) (by rw [fC,hix];rfl) (Cw) ?_
 refine NL (ai.np (NX (SR ?_)))
 refine gK 7 [(5,.pointer none),(6,.bool false)] [] ?_
 refine NS (gK 1 [(34,.bool false)] [] ?_)
 refine NN (CF (af.skip (ai.dx [(2,.abs (aL Tryz.prog 3 m (aX (aY L (del (obj O tk).id idx))) ((del (obj O tk).id idx).length)))] (fun w hS=>by rw [show (del (obj O tk).id idx).length=idx.length - 1 by omega];exact hS) ?_)))
 exact RF (.tuple #[]) [0,1,2,3] (⟨rfl,rfl⟩)
theorem Jp {β:Bs} (O:bT) (L:HL) (f:Nat) (th:Th) (hkt:(obj O th.k).kind=th.kind) (h3:th.kind=1\/th.kind=2\/th.kind=3) (hg:(obj O th.k).gone=false\/0 < (obj O th.k).opens) :
    Spec Tryz.prog β 136 #[vP f,(dQ L th)] [pO O L] (fun v l=>v=.tuple #[]/\l=[pO O L]):=by
 refine Spec.enter Tryz.func136 rfl Tryz.ntmps136 (Nat.le_of_ble_eq_true rfl) (fun R=>?_)
 refine af.seq ?_
 obtain⟨tk,kd⟩:=th;simp only at hkt h3;rcases h3 with rfl|rfl|rfl
 ·replace hkt:(obj O tk).kind=1:=hkt
  replace hg:(obj O tk).gone=false\/0 < (obj O tk).opens:=hg
  refine af.region (gK 1 [(7,.iface 129 (vP (L.b tk)))] [] ?_)
  refine gL [] (dg (L.b tk)) ?_
  rintro _ _ ⟨rfl,rfl⟩
  refine gK 1 [(4,vP (L.b tk))] [] ?_
  refine NN (af.seq (SR (gK 6 [(14,.bool (!(obj O tk).gone))] [(3,v_ 0 (nK L hkt))] ?_)))
  refine aj.nN 14 (!(obj O tk).gone) (fun _=>by kernel_rfl) (fun jc=>?_) (fun jc=>?_)
  ·refine gK 6 [(20,.bool true)] [] ?_
   refine NN (CT (af.ret (ai.ak ?_)))
   exact RT (.tuple #[]) [0,1] (⟨rfl,rfl⟩)
  refine gK 6 [(20,.bool (decide (((obj O tk).opens:Int) > (0:Int))))] [(3,v_ 0 (j3 L hkt))] ?_
  refine NN (af.aV (p:=((obj O tk).opens:Int) > (0:Int)) (fun _=>by kernel_rfl) (fun pG=>?_) (fun pG=>?_))
  ·refine af.ret (ai.ak ?_)
   exact RT (.tuple #[]) [0,1] (⟨rfl,rfl⟩)
  exact absurd hg (by simp at jc;rw [jc];simp;omega)
 ·replace hkt:(obj O tk).kind=2:=hkt
  replace hg:(obj O tk).gone=false\/0 < (obj O tk).opens:=hg
  refine af.region (gK 1 [(7,.iface 135 (vP (L.b tk)))] [] ?_)
  refine gL [] (dg (L.b tk)) ?_
  rintro _ _ ⟨rfl,rfl⟩
  refine gK 1 [(4,vP (L.b tk))] [] ?_
  refine NN (af.seq (SR (gK 6 [(14,.bool (!(obj O tk).gone))] [(3,v_ 0 (nK L hkt))] ?_)))
  refine aj.nN 14 (!(obj O tk).gone) (fun _=>by kernel_rfl) (fun jc=>?_) (fun jc=>?_)
  ·refine gK 6 [(20,.bool true)] [] ?_
   refine NN (CT (af.ret (ai.ak ?_)))
   exact RT (.tuple #[]) [0,1] (⟨rfl,rfl⟩)
  refine gK 6 [(20,.bool (decide (((obj O tk).opens:Int) > (0:Int))))] [(3,v_ 0 (j3 L hkt))] ?_
  refine NN (af.aV (p:=((obj O tk).opens:Int) > (0:Int)) (fun _=>by kernel_rfl) (fun pG=>?_) (fun pG=>?_))
  ·refine af.ret (ai.ak ?_)
   exact RT (.tuple #[]) [0,1] (⟨rfl,rfl⟩)
  exact absurd hg (by simp at jc;rw [jc];simp;omega)
 replace hkt:(obj O tk).kind=3:=hkt
 replace hg:(obj O tk).gone=false\/0 < (obj O tk).opens:=hg
 refine af.region (gK 1 [(7,.iface 132 (vP (L.b tk)))] [] ?_)
 refine gL [] (dg (L.b tk)) ?_
 rintro _ _ ⟨rfl,rfl⟩
 refine gK 1 [(4,vP (L.b tk))] [] ?_
 refine NN (af.seq (SR (gK 6 [(14,.bool (!(obj O tk).gone))] [(3,v_ 0 (nK L hkt))] ?_)))
 refine aj.nN 14 (!(obj O tk).gone) (fun _=>by kernel_rfl) (fun jc=>?_) (fun jc=>?_)
 ·refine gK 6 [(20,.bool true)] [] ?_
  refine NN (CT (af.ret (ai.ak ?_)))
  exact RT (.tuple #[]) [0,1] (⟨rfl,rfl⟩)
 refine gK 6 [(20,.bool (decide (((obj O tk).opens:Int) > (0:Int))))] [(3,v_ 0 (j3 L hkt))] ?_
 refine NN (af.aV (p:=((obj O tk).opens:Int) > (0:Int)) (fun _=>by kernel_rfl) (fun pG=>?_) (fun pG=>?_))
 ·refine af.ret (ai.ak ?_)
  exact RT (.tuple #[]) [0,1] (⟨rfl,rfl⟩)
 exact absurd hg (by simp at jc;rw [jc];simp;omega)
theorem qP {β:Bs} (X:FM) (f m t:Nat) (hX:0<=X.ah/\X.ah<=1048576/\-1125899906842624<=X.used/\X.used<=1125899906842624/\0<=X.last/\X.last<=1125899906842624) (O:bT) (L:HL) (idx:Used Th) (KZ:aE.ct (keys idx)) (th:Th) (hkt:(obj O th.k).kind=th.kind) (h3:th.kind=1\/th.kind=2\/th.kind=3) (ho:0<=(obj O th.k).opens) (hix:rL O th->aE.get idx (obj O th.k).id=some th) (hw:(Lit.int .i64 (obj O th.k).id).wf=true) (x6:(obj O th.k).data.length<=1125899906842624) :
    Spec Tryz.prog β 136 #[vP f,(dQ L th)] [pO O L,pF f m t X,pI m L idx] (fun v l=>v=.tuple #[]/\l=[pO O L,pF f m t { X with used:=j9 O X.used th },pI m L (iA O idx th)]):=by
  unfold j9 iA
  by_cases h:rL O th
  ·rw [if_pos h,if_pos h]
   exact MY X f m t hX O L idx KZ th hkt h3 h.1 h.2 (hix h) hw x6
  rw [if_neg h,if_neg h]
  refine (Spec.Cq (pre:=[pO O L]) (R:=[pF f m t X,pI m L idx]) (fun _ _=>Jp O L f th hkt h3 ?_)).mono (by rintro v l ⟨l0,⟨rfl,rfl⟩,rfl⟩;exact⟨rfl,rfl⟩)
  cases hg:(obj O th.k).gone with
  | false=>exact .inl rfl
  | true=>exact .inr (by have:¬ (obj O th.k).opens=0:=fun e=>h ⟨hg,e⟩;omega)
theorem uE {β:Bs} (X:FM) (f m t:Nat):Spec Tryz.prog β 129 #[vP f] [KY f X m t] (fun v l=>v=.bool (decide (X.ah < 8192))/\l=[KY f X m t]):=by
 refine Spec.enter Tryz.func129 rfl Tryz.ntmps129 (Nat.le_of_ble_eq_true rfl) (fun R=>?_)
 refine SR (gK 1 [] [] ?_)
 refine NS (gK 6 [(2,.bool (decide ((X.ah:Int) < (8192:Int))))] [(3,a_ 0 f)] ?_)
 refine NN (af.ret ?_)
 exact RT (.bool (decide ((X.ah:Int) < (8192:Int)))) [0,1] (⟨rfl,rfl⟩)
theorem fR {β:Bs} (a b:Int):Spec Tryz.prog β 59 #[vI a,vI b] [] (fun v l=>v=.bool (decide (0<=a/\a<=b))/\l=[]):=by
 refine Spec.enter Tryz.func59 rfl Tryz.ntmps59 (Nat.le_of_ble_eq_true rfl) (fun R=>?_)
 refine SR (gK 1 [] [] ?_)
 refine NS (gK 3 [(7,.bool (decide ((a:Int) ≥ (0:Int))))] [] ?_)
 refine aj.gE 7 ((a:Int) ≥ (0:Int)) (fun _=>by kernel_rfl) (fun h7=>?_) (fun h7=>?_)
 ·refine gK 5 [(4,.bool (decide ((a:Int)<=(b:Int))))] [] ?_
  refine NN (af.ret ?_)
  exact RT (.bool (decide ((a:Int)<=(b:Int)))) [0] (⟨by first|exact congrArg Value.bool (decide_eq_decide.2 (by omega))|exact congrArg Value.bool (decide_eq_true (by omega)).symm|exact congrArg Value.bool (decide_eq_false (by omega)).symm,rfl⟩)
 refine gK 5 [(4,.bool false)] [] ?_
 refine NN (af.ret ?_)
 exact RT (.bool false) [0] (⟨by first|exact congrArg Value.bool (decide_eq_decide.2 (by omega))|exact congrArg Value.bool (decide_eq_true (by omega)).symm|exact congrArg Value.bool (decide_eq_false (by omega)).symm,rfl⟩)
theorem Fz {β:Bs} (X:FM) (f m t:Nat) (L:HL) (idx:Used Th):Spec Tryz.prog β 166 #[vP f] [KY f X m t,.abs (aL Tryz.prog 3 m (aX (aY L idx)) idx.length)] (fun v l=>v=.bool (decide ((idx.length:Int) < X.cN/\X.last < 1099511627776/\X.ah < 8192))/\l=[KY f X m t,.abs (aL Tryz.prog 3 m (aX (aY L idx)) idx.length)]):=by
 refine Spec.enter Tryz.func166 rfl Tryz.ntmps166 (Nat.le_of_ble_eq_true rfl) (fun R=>?_)
 refine SR (gK 1 [] [] ?_)
 refine NN (af.seq (af.bF (by kernel_rfl) (by kernel_rfl) ?_))
 refine gQ 4 [(6,.map (some m))] [(3,a_ 0 f)] ?_
 refine aP.uI 1 (d:=(some 7)) (t:=120) (K:=3) (E:=124) (b:=m) (n:=idx.length) (f:=(aX (aY L idx))) (x:=(.tmp 6)) (ats:=#[120]) (fun _=>by kernel_rfl) (by kernel_rfl) (fun _=>by kernel_rfl) rfl Tryz.underlying120 ?_
 refine gQ 7 [(14,.bool (decide ((((idx.length:Nat):Int):Int) < (X.cN:Int))))] [(4,a_ 0 f)] ?_
 refine aP.gE 14 ((((idx.length:Nat):Int):Int) < (X.cN:Int)) (fun _=>by kernel_rfl) (fun jc=>?_) (fun jc=>?_)
 ·refine gQ 7 [(21,.bool (decide ((X.last:Int) < (1099511627776:Int))))] [(3,a_ 0 f)] ?_
  refine aP.gE 21 ((X.last:Int) < (1099511627776:Int)) (fun _=>by kernel_rfl) (fun vf=>?_) (fun vf=>?_)
  ·refine gQ 1 [(22,vP f)] [] ?_
   refine aP.call (f:=129) (args:=#[vP f]) (d:=(some 23)) (pre:=[pF f m t X]) (R:=[pI m L idx,.abs R]) (pk:=[0,1,2]) (ji:=[0,1,2]) (v0:=.bool (decide (X.ah < 8192))) (fun _=>by kernel_rfl) (uE X f m t) rfl (by kernel_rfl) rfl (by kernel_rfl) (fun _ _ h=>h) ?_
   refine gQ 2 [(2,.bool (decide (X.ah < 8192)))] [] ?_
   refine NQ (NX (af.ret ?_))
   exact RT (.bool (decide (X.ah < 8192))) [0,1,2] (⟨by first|exact congrArg Value.bool (decide_eq_decide.2 (by omega))|exact congrArg Value.bool (decide_eq_true (by omega)).symm|exact congrArg Value.bool (decide_eq_false (by omega)).symm,rfl⟩)
  refine gQ 4 [(2,.bool false)] [] ?_
  refine NQ (NX (af.ret ?_))
  exact RT (.bool false) [0,1,2] (⟨by first|exact congrArg Value.bool (decide_eq_decide.2 (by omega))|exact congrArg Value.bool (decide_eq_true (by omega)).symm|exact congrArg Value.bool (decide_eq_false (by omega)).symm,rfl⟩)
 refine gQ 11 [(2,.bool false)] [] ?_
 refine NQ (NX (af.ret ?_))
 exact RT (.bool false) [0,1,2] (⟨by first|exact congrArg Value.bool (decide_eq_decide.2 (by omega))|exact congrArg Value.bool (decide_eq_true (by omega)).symm|exact congrArg Value.bool (decide_eq_false (by omega)).symm,rfl⟩)
theorem t6 {β:Bs} (X:FM) (f m t:Nat) (hX:0<=X.ah/\X.ah<=1048576/\-1125899906842624<=X.used/\X.used<=1125899906842624/\0<=X.last/\X.last<=1125899906842624) (mode:Int):Spec Tryz.prog β 126 #[vP f,vI mode] [KY f X m t] (fun v l=>v=.agg #[vI (X.last+1),vI mode,vI 0,vI 0,vI X.cS,vI X.cZ,vI 0,vI 0,.bool false]/\l=[.blk f [vI (X.cN),vI (X.cB),vI (X.cH),vI (X.cS),vI (X.cZ),.map (some m),vP t,vI (X.last+1),vI (X.ah),vI (X.used)] 126]):=by
 refine Spec.enter Tryz.func126 rfl Tryz.ntmps126 (Nat.le_of_ble_eq_true rfl) (fun R=>?_)
 refine SR (gN 1 (fun b1=>[(4,vP b1)]) (fun _=>[]) (fun _=>[]) (fun b1=>.blk b1 [vI 0,vI 0,vI 0,vI 0,vI 0,vI 0,vI 0,vI 0,.bool false] 128) (fun b1=>?_))
 refine NS (gC 8 [] [(3,a_ 0 f),(4,p_ ⟨[],none,none,none,some (vI (X.last+1))⟩ [(Value.int .i64 (IntKind.wrap .i64 (X.last+1)))=(.int .i64 (X.last+1))] ⟨bn (by omega) (by omega) (by omega),trivial⟩),(7,a_ 0 f)] [(0,[(7,vI (X.last+1))])] ?_)
 refine NN (af.seq (af.bM (S:=[pF f m t { X with last:=X.last+1 },.abs R,.blk b1 [vI 0,vI 0,vI 0,vI 0,vI 0,vI 0,vI 0,vI 0,.bool false] 128]) [0,1,2,3,4,5,6,7,8,9,10,11] 11 [0,1,2] (by kernel_rfl) (by kernel_rfl) rfl (by kernel_rfl) ?_))
 refine gR 0 [11] [(4,vP b1),(22,.agg #[vI (X.last+1),vI (mode),vI 0,vI 0,vI (X.cS),vI (X.cZ),vI 0,vI 0,.bool false])] [0,1,2,3,4,5,6,7,8,9,10] [(3,a_ 0 f),(9,A_ 0 f 2)] ?_
 refine aN.last rfl rfl ?_
 refine gC 1 [] [(0,A_ 2 b1 9)] [(2,[(0,vI (X.last+1)),(1,vI (mode)),(4,vI (X.cS)),(5,vI (X.cZ))])] ?_
 refine NL (ai.np (NX (af.ret ?_)))
 exact ai.ret (v:=.agg #[vI (X.last+1),vI (mode),vI 0,vI 0,vI (X.cS),vI (X.cZ),vI 0,vI 0,.bool false]) (l:=[pF f m t { X with last:=X.last+1 }]) (bC:=[b1=b1,b1=b1,b1=b1,b1=b1,b1=b1,b1=b1,b1=b1,b1=b1,b1=b1]) [.at 2,.at 2,.at 2,.at 2,.at 2,.at 2,.at 2,.at 2,.at 2] [0,1] (fun _=>by kernel_rfl) ⟨rfl,rfl,rfl,rfl,rfl,rfl,rfl,rfl,rfl,trivial⟩ rfl (by kernel_rfl) (⟨rfl,rfl⟩)
end
section
open Go.RowKit Go.Maps bD aE
attribute [local irreducible] aj aP af ai
abbrev BK (f:Nat) (L:HL) (d:Nat) (name):=([(0,vP f),(1,vP (L.b d)),(2,.string name)]:Fr)
abbrev QV (f:Nat) (L:HL) (d:Nat) (name):=([(18,vP f),(19,vP (L.b d)),(20,.string name)]:Fr)
abbrev QW (f:Nat) (L:HL) (d:Nat) (name):=([(8,vP f),(9,vP (L.b d)),(10,.string name)]:Fr)
abbrev FA (f:Nat) (L:HL) (d:Nat) (name):=([(0,vP f),(1,vP (L.b d)),(2,.string name)]:Fr)
abbrev wK (f:Nat) (m:Nat) (t) (X:FM) (L:HL) (idx) (O:bT) (R:cr):=([pF f m t X,pI m L idx,pO O L,pE O L,.abs R]:List HP)
abbrev QX (S:aH) (tk:Nat) (L:HL):=([(24,vI ((obj S.O tk).opens+1)),(26,.pointer (some ⟨(L.b tk),7,none⟩))]:Fr)
theorem nZ {β:Bs} (S:aH) (L:HL) (f m t:Nat) (hI:Inv S) (d:Nat) (hd:Live S.idx ⟨d,2⟩) (name:ByteArray) (hsz:name.size<=1048576) (th:Th) (hlk:aT name (obj S.O d).ah=some th) :
    Spec Tryz.prog β 168 #[vP f,vP (L.b d),.string name] [pF f m t S.X,pO S.O L,pE S.O L,pI m L S.idx] (fun v l=>v=.tuple #[]/\l=[pF f m t ((aI S d name th).X),pO ((aI S d name th).O) L,pE ((aI S d name th).O) L,pI m L ((aI S d name th).idx)]):=by
 have hX:=hI.hX
 have hel:(obj S.O d).ah.length<=8192:=hI.gy hd
 have hkd:(obj S.O d).kind=2:=hI.kind hd
 refine Spec.enter Tryz.func168 rfl Tryz.ntmps168 (Nat.le_of_ble_eq_true rfl) (fun R=>?_)
 refine af.seq ?_
 obtain⟨tk,kd⟩:=th;have hlv:=(hI.ent hd hlk).2;have Wt:=hI.ne hd hlk;rcases (hI.ob _ hlv).2.2 with e0|e0|e0<;>simp only at e0<;>subst e0
 ·have hkt:(obj S.O tk).kind=1:=hI.kind hlv
  have hlb:=hI.lb hlv;have hid:=hI.ob _ hlv;have hop:=hI.Dr hlv;have hdl:=hI.EW hlv;have qb:=hI.Kq hlv
  refine af.region (gK 3 (QW f L d name) [] ?_)
  refine gL [0,1,2] (jI S.X f m t hX S.O L d hkd name hsz ⟨tk,1⟩ hkt (by simp) hlk (hI.twice hd) (by omega) (by simp only at hlb ⊢;omega)) ?_
  rintro _ _ ⟨rfl,rfl⟩
  refine gK 1 [(6,.iface 129 (vP (L.b tk)))] [] ?_
  refine NS ?_
  have jY:(obj (aQ S.X S.O d name ⟨tk,1⟩) d).kind=2:=(cQ).trans (hkd)
  have mK:(obj (aQ S.X S.O d name ⟨tk,1⟩) tk).kind=1:=(cQ).trans (hkt)
  have x7:(obj (aQ S.X S.O d name ⟨tk,1⟩) tk).id=(obj S.O tk).id:=dr (g:=aR.id) (fun _ _=>rfl) (fun _ _=>rfl) (fun _ _ _=>rfl)
  have x9:(obj (aQ S.X S.O d name ⟨tk,1⟩) tk).opens=(obj S.O tk).opens:=dr (g:=aR.opens) (fun _ _=>rfl) (fun _ _=>rfl) (fun _ _ _=>rfl)
  have yc:(obj (aQ S.X S.O d name ⟨tk,1⟩) tk).data=(obj S.O tk).data:=dr (g:=aR.data) (fun _ _=>rfl) (fun _ _=>rfl) (fun _ _ _=>rfl)
  generalize cq:(aQ S.X S.O d name ⟨tk,1⟩)=cI at jY mK x7 x9 yc ⊢
  refine gK 1 [(12,.iface 129 (vP (L.b tk)))] [] ?_
  refine gL [] (dg (L.b tk)) ?_
  rintro _ _ ⟨rfl,rfl⟩
  refine gK 1 [(7,vP (L.b tk))] [] ?_
  refine NS (gK 5 [(18,.bool (decide (((obj cI tk).links:Int)=(0:Int))))] [(3,v_ 1 (ni L mK))] ?_)
  refine NN (af.aV (p:=((obj cI tk).links:Int)=(0:Int)) (fun _=>by kernel_rfl) (fun ou=>?_) (fun ou=>?_))
  ·refine SR (gK 3 [(21,.pointer (some ⟨(L.b tk),8,none⟩))] [] ?_)
   refine tu 1 [(2,1)] tk 8 (fun o=>{ o with gone:=true }) mK (fun ef dh=>?_)
   have CQ:=ku dh jY
   have x3:=ku dh mK
   have K1:(obj ef tk).id=(obj S.O tk).id:=fu aR.id dh x7
   have QY:(obj ef tk).opens=(obj S.O tk).opens:=fu aR.opens dh x9
   have Vw:(obj ef tk).data=(obj S.O tk).data:=fu aR.data dh yc
   refine NN (af.region (gK 2 [(22,vP f),(23,.iface 129 (vP (L.b tk)))] [] ?_))
   refine gL [1,0,3] (qP { S.X with ah:=S.X.ah - 1 } f m t (hI.y8 hd hlk) ef L S.idx hI.rise ⟨tk,1⟩ x3 (by simp) (by rw [QY];exact hop.1) (fun _=>by rw [K1,hid.1];exact hlv) (by rw [K1];exact qb) (by rw [Vw];exact hdl)) ?_
   rintro _ _ ⟨rfl,rfl⟩
   refine NL ?_
   exact RF (l:=[pF f m t { S.X with ah:=S.X.ah - 1,used:=j9 ef S.X.used ⟨tk,1⟩ },pO ef L,pE ef L,pI m L (iA ef S.idx ⟨tk,1⟩)]) (.tuple #[]) [1,0,3,2,4] (⟨rfl,by subst dh;subst cq;rw [show aI S d name ⟨tk,1⟩=_ from qF ou]<;>rfl⟩)
  refine af.skip ?_
  exact RF (l:=[pF f m t { S.X with ah:=S.X.ah - 1 },pO cI L,pE cI L,pI m L S.idx]) (.tuple #[]) [0,1,2,3,4] (⟨rfl,by subst cq;rw [show aI S d name ⟨tk,1⟩=_ from qG ou]<;>rfl⟩)
 ·have hkt:(obj S.O tk).kind=2:=hI.kind hlv
  have hlb:=hI.lb hlv;have hid:=hI.ob _ hlv;have hop:=hI.Dr hlv;have hdl:=hI.EW hlv;have qb:=hI.Kq hlv
  refine af.region (gK 3 (QW f L d name) [] ?_)
  refine gL [0,1,2] (jI S.X f m t hX S.O L d hkd name hsz ⟨tk,2⟩ hkt (by simp) hlk (hI.twice hd) (by omega) (by simp only at hlb ⊢;omega)) ?_
  rintro _ _ ⟨rfl,rfl⟩
  refine gK 1 [(6,.iface 135 (vP (L.b tk)))] [] ?_
  refine NS ?_
  have QZ:(obj (aQ S.X S.O d name ⟨tk,2⟩) d).kind=2:=(cQ).trans (hkd)
  have CP:(obj (aQ S.X S.O d name ⟨tk,2⟩) tk).kind=2:=(cQ).trans (hkt)
  have x7:(obj (aQ S.X S.O d name ⟨tk,2⟩) tk).id=(obj S.O tk).id:=dr (g:=aR.id) (fun _ _=>rfl) (fun _ _=>rfl) (fun _ _ _=>rfl)
  have x9:(obj (aQ S.X S.O d name ⟨tk,2⟩) tk).opens=(obj S.O tk).opens:=dr (g:=aR.opens) (fun _ _=>rfl) (fun _ _=>rfl) (fun _ _ _=>rfl)
  have yc:(obj (aQ S.X S.O d name ⟨tk,2⟩) tk).data=(obj S.O tk).data:=dr (g:=aR.data) (fun _ _=>rfl) (fun _ _=>rfl) (fun _ _ _=>rfl)
  generalize cq:(aQ S.X S.O d name ⟨tk,2⟩)=cI at QZ CP x7 x9 yc ⊢
  refine gK 1 [(12,.iface 135 (vP (L.b tk)))] [] ?_
  refine gL [] (dg (L.b tk)) ?_
  rintro _ _ ⟨rfl,rfl⟩
  refine gK 1 [(7,vP (L.b tk))] [] ?_
  refine NS (gK 5 [(18,.bool (decide (((obj cI tk).links:Int)=(0:Int))))] [(3,v_ 1 (ni L CP))] ?_)
  refine NN (af.aV (p:=((obj cI tk).links:Int)=(0:Int)) (fun _=>by kernel_rfl) (fun ou=>?_) (fun ou=>?_))
  ·refine SR (gK 3 [(21,.pointer (some ⟨(L.b tk),8,none⟩))] [] ?_)
   refine tu 1 [(2,1)] tk 8 (fun o=>{ o with gone:=true }) CP (fun ef dh=>?_)
   have Jk:=ku dh QZ
   have Ol:=ku dh CP
   have Q0:(obj ef tk).id=(obj S.O tk).id:=fu aR.id dh x7
   have UF:(obj ef tk).opens=(obj S.O tk).opens:=fu aR.opens dh x9
   have UG:(obj ef tk).data=(obj S.O tk).data:=fu aR.data dh yc
   refine NN (af.region (gK 2 [(22,vP f),(23,.iface 135 (vP (L.b tk)))] [] ?_))
   refine gL [1,0,3] (qP { S.X with ah:=S.X.ah - 1 } f m t (hI.y8 hd hlk) ef L S.idx hI.rise ⟨tk,2⟩ Ol (by simp) (by rw [UF];exact hop.1) (fun _=>by rw [Q0,hid.1];exact hlv) (by rw [Q0];exact qb) (by rw [UG];exact hdl)) ?_
   rintro _ _ ⟨rfl,rfl⟩
   refine NL ?_
   exact RF (l:=[pF f m t { S.X with ah:=S.X.ah - 1,used:=j9 ef S.X.used ⟨tk,2⟩ },pO ef L,pE ef L,pI m L (iA ef S.idx ⟨tk,2⟩)]) (.tuple #[]) [1,0,3,2,4] (⟨rfl,by subst dh;subst cq;rw [show aI S d name ⟨tk,2⟩=_ from qF ou]<;>rfl⟩)
  refine af.skip ?_
  exact RF (l:=[pF f m t { S.X with ah:=S.X.ah - 1 },pO cI L,pE cI L,pI m L S.idx]) (.tuple #[]) [0,1,2,3,4] (⟨rfl,by subst cq;rw [show aI S d name ⟨tk,2⟩=_ from qG ou]<;>rfl⟩)
 have hkt:(obj S.O tk).kind=3:=hI.kind hlv
 have hlb:=hI.lb hlv;have hid:=hI.ob _ hlv;have hop:=hI.Dr hlv;have hdl:=hI.EW hlv;have qb:=hI.Kq hlv
 refine af.region (gK 3 (QW f L d name) [] ?_)
 refine gL [0,1,2] (jI S.X f m t hX S.O L d hkd name hsz ⟨tk,3⟩ hkt (by simp) hlk (hI.twice hd) (by omega) (by simp only at hlb ⊢;omega)) ?_
 rintro _ _ ⟨rfl,rfl⟩
 refine gK 1 [(6,.iface 132 (vP (L.b tk)))] [] ?_
 refine NS ?_
 have Ou:(obj (aQ S.X S.O d name ⟨tk,3⟩) d).kind=2:=(cQ).trans (hkd)
 have BI:(obj (aQ S.X S.O d name ⟨tk,3⟩) tk).kind=3:=(cQ).trans (hkt)
 have x7:(obj (aQ S.X S.O d name ⟨tk,3⟩) tk).id=(obj S.O tk).id:=dr (g:=aR.id) (fun _ _=>rfl) (fun _ _=>rfl) (fun _ _ _=>rfl)
 have x9:(obj (aQ S.X S.O d name ⟨tk,3⟩) tk).opens=(obj S.O tk).opens:=dr (g:=aR.opens) (fun _ _=>rfl) (fun _ _=>rfl) (fun _ _ _=>rfl)
 have yc:(obj (aQ S.X S.O d name ⟨tk,3⟩) tk).data=(obj S.O tk).data:=dr (g:=aR.data) (fun _ _=>rfl) (fun _ _=>rfl) (fun _ _ _=>rfl)
 generalize cq:(aQ S.X S.O d name ⟨tk,3⟩)=cI at Ou BI x7 x9 yc ⊢
 refine gK 1 [(12,.iface 132 (vP (L.b tk)))] [] ?_
 refine gL [] (dg (L.b tk)) ?_
 rintro _ _ ⟨rfl,rfl⟩
 refine gK 1 [(7,vP (L.b tk))] [] ?_
 refine NS (gK 5 [(18,.bool (decide (((obj cI tk).links:Int)=(0:Int))))] [(3,v_ 1 (ni L BI))] ?_)
 refine NN (af.aV (p:=((obj cI tk).links:Int)=(0:Int)) (fun _=>by kernel_rfl) (fun ou=>?_) (fun ou=>?_))
 ·refine SR (gK 3 [(21,.pointer (some ⟨(L.b tk),8,none⟩))] [] ?_)
  refine tu 1 [(2,1)] tk 8 (fun o=>{ o with gone:=true }) BI (fun ef dh=>?_)
  have SH:=ku dh Ou
  have BJ:=ku dh BI
  have Q5:(obj ef tk).id=(obj S.O tk).id:=fu aR.id dh x7
  have UH:(obj ef tk).opens=(obj S.O tk).opens:=fu aR.opens dh x9
  have UI:(obj ef tk).data=(obj S.O tk).data:=fu aR.data dh yc
  refine NN (af.region (gK 2 [(22,vP f),(23,.iface 132 (vP (L.b tk)))] [] ?_))
  refine gL [1,0,3] (qP { S.X with ah:=S.X.ah - 1 } f m t (hI.y8 hd hlk) ef L S.idx hI.rise ⟨tk,3⟩ BJ (by simp) (by rw [UH];exact hop.1) (fun _=>by rw [Q5,hid.1];exact hlv) (by rw [Q5];exact qb) (by rw [UI];exact hdl)) ?_
  rintro _ _ ⟨rfl,rfl⟩
  refine NL ?_
  exact RF (l:=[pF f m t { S.X with ah:=S.X.ah - 1,used:=j9 ef S.X.used ⟨tk,3⟩ },pO ef L,pE ef L,pI m L (iA ef S.idx ⟨tk,3⟩)]) (.tuple #[]) [1,0,3,2,4] (⟨rfl,by subst dh;subst cq;rw [show aI S d name ⟨tk,3⟩=_ from qF ou]<;>rfl⟩)
 refine af.skip ?_
 exact RF (l:=[pF f m t { S.X with ah:=S.X.ah - 1 },pO cI L,pE cI L,pI m L S.idx]) (.tuple #[]) [0,1,2,3,4] (⟨rfl,by subst cq;rw [show aI S d name ⟨tk,3⟩=_ from qG ou]<;>rfl⟩)
theorem t7 {β:Bs} (S:aH) (L:HL) (f m t:Nat) (hI:Inv S) (d:Nat) (hd:Live S.idx ⟨d,2⟩) (name:ByteArray) (hsz:name.size<=1048576) :
    Spec Tryz.prog β 125 #[vP f,vP (L.b d),.string name] [pF f m t S.X,pI m L S.idx,pE S.O L,pO S.O L] (fun v l=>v=vI (ck S.X S.O S.idx d name)/\l=[pF f m t S.X,pI m L S.idx,pE S.O L,pO S.O L]):=by
 have hX:=hI.hX
 have hel:(obj S.O d).ah.length<=8192:=hI.gy hd
 have hkd:(obj S.O d).kind=2:=hI.kind hd
 refine Spec.enter Tryz.func125 rfl Tryz.ntmps125 (Nat.le_of_ble_eq_true rfl) (fun R=>?_)
 refine af.seq ?_
 rcases hI.mr hd name with hlk|⟨tk,hlk,hlv⟩|⟨tk,hlk,hlv⟩|⟨tk,hlk,hlv⟩
 ·refine af.region (gK 1 [] [] ?_)
  refine NN (af.seq (SR (gK 5 [(10,.map (some (L.m d))),(11,.string name)] [(3,v_ 3 (bw L hkd))] ?_)))
  refine iD 2 hkd hlk ?_
  refine gK 1 [(13,.bool false)] [] ?_
  refine NN (CF (af.skip (NX (af.seq (SR (gK 1 [(14,vP f)] [] ?_))))))
  refine gL [0,1] (Fz S.X f m t L S.idx) ?_
  rintro _ _ ⟨rfl,rfl⟩
  refine gK 1 [(16,.bool (!(decide (((S.idx.length:Int) < S.X.cN/\S.X.last < 1099511627776/\S.X.ah < 8192)))))] [] ?_
  refine NN (af.cX (p:=((S.idx.length:Int) < S.X.cN/\S.X.last < 1099511627776/\S.X.ah < 8192)) (fun _=>by kernel_rfl) (fun uS=>?_) (fun uS=>?_))
  ·refine SR (gK 1 [(6,vI 177)] [] ?_)
   refine NN (af.ret (ai.ak ?_))
   exact RT (vI 177) [0,1,2,3,4] (⟨congrArg (Value.int .i64) (Eq.symm (show ck S.X S.O S.idx d name=_ from (if_pos hlk).trans (if_neg uS))),rfl⟩)
  refine af.skip (NX (SR (gK 1 [(6,vI 0)] [] ?_)))
  refine NN (af.ret ?_)
  exact RT (vI 0) [0,1,2,3,4] (⟨congrArg (Value.int .i64) (Eq.symm (show ck S.X S.O S.idx d name=_ from (if_pos hlk).trans (if_pos uS))),rfl⟩)
 ·have hkt:(obj S.O tk).kind=1:=hI.kind hlv
  refine af.region (gK 1 [] [] ?_)
  refine NN (af.seq (SR (gK 5 [(10,.map (some (L.m d))),(11,.string name)] [(3,v_ 3 (bw L hkd))] ?_)))
  refine iD 2 hkd hlk ?_
  refine gK 1 [(13,.bool true)] [] ?_
  refine NN (CT (SR (gK 1 [(6,vI 171)] [] ?_)))
  refine NN (af.ret (ai.ak ?_))
  exact RT (vI 171) [0,1,2,3,4] (⟨congrArg (Value.int .i64) (Eq.symm (show ck S.X S.O S.idx d name=_ from if_neg (by rw [hlk];simp))),rfl⟩)
 ·have hkt:(obj S.O tk).kind=2:=hI.kind hlv
  refine af.region (gK 1 [] [] ?_)
  refine NN (af.seq (SR (gK 5 [(10,.map (some (L.m d))),(11,.string name)] [(3,v_ 3 (bw L hkd))] ?_)))
  refine iD 2 hkd hlk ?_
  refine gK 1 [(13,.bool true)] [] ?_
  refine NN (CT (SR (gK 1 [(6,vI 171)] [] ?_)))
  refine NN (af.ret (ai.ak ?_))
  exact RT (vI 171) [0,1,2,3,4] (⟨congrArg (Value.int .i64) (Eq.symm (show ck S.X S.O S.idx d name=_ from if_neg (by rw [hlk];simp))),rfl⟩)
 have hkt:(obj S.O tk).kind=3:=hI.kind hlv
 refine af.region (gK 1 [] [] ?_)
 refine NN (af.seq (SR (gK 5 [(10,.map (some (L.m d))),(11,.string name)] [(3,v_ 3 (bw L hkd))] ?_)))
 refine iD 2 hkd hlk ?_
 refine gK 1 [(13,.bool true)] [] ?_
 refine NN (CT (SR (gK 1 [(6,vI 171)] [] ?_)))
 refine NN (af.ret (ai.ak ?_))
 exact RT (vI 171) [0,1,2,3,4] (⟨congrArg (Value.int .i64) (Eq.symm (show ck S.X S.O S.idx d name=_ from if_neg (by rw [hlk];simp))),rfl⟩)
theorem Pq {β:Bs} (s:ByteArray) (hsz:s.size<=1048576) :
    Spec Tryz.prog β 167 #[.string s] [] (fun v l=>v=vI (nA s)/\l=[]):=by
 refine Spec.enter Tryz.func167 rfl Tryz.ntmps167 (Nat.le_of_ble_eq_true rfl) (fun R=>?_)
 refine SR (gK 1 [] [] ?_)
 refine NN (af.seq (af.block (SR ?_)))
 refine gK 3 [(3,.bool (decide ((s:ByteArray)=⟨#[]⟩)))] [(1,p_ ⟨[],none,none,none,some (.bool (decide ((s:ByteArray)=⟨#[]⟩)))⟩ [(Value.bool ((s:ByteArray).toList == (⟨#[]⟩:ByteArray).toList))=(.bool (decide ((s:ByteArray)=⟨#[]⟩)))] ⟨uH _ _,trivial⟩)] ?_
 refine NN (af.aV (p:=(s:ByteArray)=⟨#[]⟩) (fun _=>by kernel_rfl) (fun h3=>?_) (fun h3=>?_))
 ·refine SR (gK 1 [(2,vI 90)] [] ?_)
  refine NN (af.ret (ai.aG (ai.ak ?_)))
  exact RT (vI 90) [0] (⟨congrArg (Value.int .i64) (Eq.symm (show nA s=_ from if_pos h3)),rfl⟩)
 refine SR (gK 4 [(6,.bool (decide (((((s:ByteArray).size:Nat):Int):Int) > (4096:Int))))] [] ?_)
 refine NN (af.aV (p:=((((s:ByteArray).size:Nat):Int):Int) > (4096:Int)) (fun _=>by kernel_rfl) (fun h6=>?_) (fun h6=>?_))
 ·refine SR (gK 1 [(2,vI 93)] [] ?_)
  refine NN (af.ret (ai.aG (ai.ak ?_)))
  exact RT (vI 93) [0] (⟨congrArg (Value.int .i64) (Eq.symm (show nA s=_ from (if_neg h3).trans (if_pos (by omega)))),rfl⟩)
 refine SR (gK 1 [(11,.string s)] [] ?_)
 refine gL [] (Gp s) ?_
 rintro _ _ ⟨⟨x,rfl,hx⟩,rfl⟩
 refine gK 2 [(10,.bool (decide ((x:Int) ≥ (0:Int))))] [] ?_
 refine NN (af.aV (p:=(x:Int) ≥ (0:Int)) (fun _=>by kernel_rfl) (fun h10=>?_) (fun h10=>?_))
 ·refine SR (gK 1 [(2,vI 91)] [] ?_)
  refine NN (af.ret (ai.aG (ai.ak ?_)))
  exact RT (vI 91) [0] (⟨congrArg (Value.int .i64) (Eq.symm (show nA s=_ from (if_neg h3).trans ((if_neg (by omega)).trans (if_neg (hx.1 (by omega)))))),rfl⟩)
 refine af.skip (ai.aJ (NX (SR ?_)))
 refine gK 1 [(2,vI 0)] [] ?_
 refine NN (af.ret ?_)
 exact RT (vI 0) [0] (⟨congrArg (Value.int .i64) (Eq.symm (show nA s=_ from (if_neg h3).trans ((if_neg (by omega)).trans (if_pos (Classical.byContradiction (fun hn=>absurd (hx.2 hn) (by omega))))))),rfl⟩)
theorem tB {β:Bs} (S:aH) (L:HL) (f m t:Nat) (th:Th) (hkt:(obj S.O th.k).kind=th.kind) (h3:th.kind=1\/th.kind=2\/th.kind=3) (hop:0<=(obj S.O th.k).opens/\(obj S.O th.k).opens<=1048576) :
    Spec Tryz.prog β 121 #[vP f,(dQ L th)] [pF f m t S.X,pT t S.X.cH S.ay L S.us,pO S.O L] (fun v l=>v=.tuple #[vI (bR S th).1,vI (bR S th).2.1]/\l=[pF f m t S.X,pT t S.X.cH ((bR S th).2.2.ay) L ((bR S th).2.2.us),pO ((bR S th).2.2.O) L]):=by
 refine Spec.enter Tryz.func121 rfl Tryz.ntmps121 (Nat.le_of_ble_eq_true rfl) (fun R=>?_)
 refine af.seq ?_
 obtain⟨tk,kd⟩:=th;simp only at hkt h3;rcases Int.lt_or_le (S.us.length:Int) S.X.cH with t8|t8<;>rcases h3 with e0|e0|e0<;>subst e0
 ·replace hkt:(obj S.O tk).kind=1:=hkt
  replace hop:0<=(obj S.O tk).opens/\(obj S.O tk).opens<=1048576:=hop
  refine af.region (gK 2 [] [] ?_)
  refine NS (gK 5 [(12,vP t),(13,.iface 129 (vP (L.b tk)))] [(3,a_ 0 f)] ?_)
  refine gL [1] ((zP t S.X.cH S.ay (aY L S.us) (dQ L ⟨tk,1⟩) (by rw [pZ];exact t8)).mono (fun v l h=>Cx h)) ?_
  rintro _ _ ⟨rfl,rfl⟩
  refine gK 5 [(6,vI ((aE.least S.us))),(7,vI 0)] [] ?_
  refine NN (af.seq (SR (gK 2 [(18,.bool true)] [] ?_)))
  refine NN (CT (af.region (gK 1 [(19,.iface 129 (vP (L.b tk)))] [] ?_)))
  refine gL [] (dg (L.b tk)) ?_
  rintro _ _ ⟨rfl,rfl⟩
  refine gK 6 (QX S tk L) [(2,v_ 2 (j3 L hkt)),(3,p_ ⟨[],none,none,none,some (vI ((obj S.O tk).opens+1))⟩ [(Value.int .i64 (IntKind.wrap .i64 ((obj S.O tk).opens+1)))=(.int .i64 ((obj S.O tk).opens+1))] ⟨bn (by omega) (by omega) (by omega),trivial⟩)] ?_
  refine tu 2 [] tk 7 (fun o=>{ o with opens:=o.opens+1 }) hkt (fun cI cq=>?_)
  have Wg:=ku cq hkt
  refine NS (gK 4 [(4,vI ((aE.least S.us))),(5,vI 0)] [] ?_)
  refine NN (af.ret ?_)
  exact RT (l:=[pF f m t S.X,pT t S.X.cH (max S.ay ((S.us.length:Int)+1)) L (ins (aE.least S.us) ⟨tk,1⟩ S.us),pO cI L]) (.tuple #[vI ((aE.least S.us)),vI 0]) [1,0,2,3] (by subst cq;rw [show bR S ⟨tk,1⟩=_ from kf t8]<;>exact⟨rfl,rfl⟩)
 ·replace hkt:(obj S.O tk).kind=2:=hkt
  replace hop:0<=(obj S.O tk).opens/\(obj S.O tk).opens<=1048576:=hop
  refine af.region (gK 2 [] [] ?_)
  refine NS (gK 5 [(12,vP t),(13,.iface 135 (vP (L.b tk)))] [(3,a_ 0 f)] ?_)
  refine gL [1] ((zP t S.X.cH S.ay (aY L S.us) (dQ L ⟨tk,2⟩) (by rw [pZ];exact t8)).mono (fun v l h=>Cx h)) ?_
  rintro _ _ ⟨rfl,rfl⟩
  refine gK 5 [(6,vI ((aE.least S.us))),(7,vI 0)] [] ?_
  refine NN (af.seq (SR (gK 2 [(18,.bool true)] [] ?_)))
  refine NN (CT (af.region (gK 1 [(19,.iface 135 (vP (L.b tk)))] [] ?_)))
  refine gL [] (dg (L.b tk)) ?_
  rintro _ _ ⟨rfl,rfl⟩
  refine gK 6 (QX S tk L) [(2,v_ 2 (j3 L hkt)),(3,p_ ⟨[],none,none,none,some (vI ((obj S.O tk).opens+1))⟩ [(Value.int .i64 (IntKind.wrap .i64 ((obj S.O tk).opens+1)))=(.int .i64 ((obj S.O tk).opens+1))] ⟨bn (by omega) (by omega) (by omega),trivial⟩)] ?_
  refine tu 2 [] tk 7 (fun o=>{ o with opens:=o.opens+1 }) hkt (fun cI cq=>?_)
  have Oo:=ku cq hkt
  refine NS (gK 4 [(4,vI ((aE.least S.us))),(5,vI 0)] [] ?_)
  refine NN (af.ret ?_)
  exact RT (l:=[pF f m t S.X,pT t S.X.cH (max S.ay ((S.us.length:Int)+1)) L (ins (aE.least S.us) ⟨tk,2⟩ S.us),pO cI L]) (.tuple #[vI ((aE.least S.us)),vI 0]) [1,0,2,3] (by subst cq;rw [show bR S ⟨tk,2⟩=_ from kf t8]<;>exact⟨rfl,rfl⟩)
 ·replace hkt:(obj S.O tk).kind=3:=hkt
  replace hop:0<=(obj S.O tk).opens/\(obj S.O tk).opens<=1048576:=hop
  refine af.region (gK 2 [] [] ?_)
  refine NS (gK 5 [(12,vP t),(13,.iface 132 (vP (L.b tk)))] [(3,a_ 0 f)] ?_)
  refine gL [1] ((zP t S.X.cH S.ay (aY L S.us) (dQ L ⟨tk,3⟩) (by rw [pZ];exact t8)).mono (fun v l h=>Cx h)) ?_
  rintro _ _ ⟨rfl,rfl⟩
  refine gK 5 [(6,vI ((aE.least S.us))),(7,vI 0)] [] ?_
  refine NN (af.seq (SR (gK 2 [(18,.bool true)] [] ?_)))
  refine NN (CT (af.region (gK 1 [(19,.iface 132 (vP (L.b tk)))] [] ?_)))
  refine gL [] (dg (L.b tk)) ?_
  rintro _ _ ⟨rfl,rfl⟩
  refine gK 6 (QX S tk L) [(2,v_ 2 (j3 L hkt)),(3,p_ ⟨[],none,none,none,some (vI ((obj S.O tk).opens+1))⟩ [(Value.int .i64 (IntKind.wrap .i64 ((obj S.O tk).opens+1)))=(.int .i64 ((obj S.O tk).opens+1))] ⟨bn (by omega) (by omega) (by omega),trivial⟩)] ?_
  refine tu 2 [] tk 7 (fun o=>{ o with opens:=o.opens+1 }) hkt (fun cI cq=>?_)
  have Ei:=ku cq hkt
  refine NS (gK 4 [(4,vI ((aE.least S.us))),(5,vI 0)] [] ?_)
  refine NN (af.ret ?_)
  exact RT (l:=[pF f m t S.X,pT t S.X.cH (max S.ay ((S.us.length:Int)+1)) L (ins (aE.least S.us) ⟨tk,3⟩ S.us),pO cI L]) (.tuple #[vI ((aE.least S.us)),vI 0]) [1,0,2,3] (by subst cq;rw [show bR S ⟨tk,3⟩=_ from kf t8]<;>exact⟨rfl,rfl⟩)
 ·replace hkt:(obj S.O tk).kind=1:=hkt
  replace hop:0<=(obj S.O tk).opens/\(obj S.O tk).opens<=1048576:=hop
  refine af.region (gK 2 [] [] ?_)
  refine NS (gK 5 [(12,vP t),(13,.iface 129 (vP (L.b tk)))] [(3,a_ 0 f)] ?_)
  refine gL [1] (xH t S.X.cH S.ay (aY L S.us) (dQ L ⟨tk,1⟩) (by rw [pZ];exact t8)) ?_
  rintro _ _ ⟨rfl,rfl⟩
  refine gK 5 [(6,vI 0),(7,vI 130)] [] ?_
  refine NN (af.seq (SR (gK 2 [(18,.bool false)] [] ?_)))
  refine NN (CF (af.skip (NX (SR (gK 4 [(4,vI 0),(5,vI 130)] [] ?_)))))
  refine NN (af.ret ?_)
  exact RT (.tuple #[vI 0,vI 130]) [1,0,2,3] (by skip;rw [show bR S ⟨tk,1⟩=_ from lD (by omega)]<;>exact⟨rfl,rfl⟩)
 ·replace hkt:(obj S.O tk).kind=2:=hkt
  replace hop:0<=(obj S.O tk).opens/\(obj S.O tk).opens<=1048576:=hop
  refine af.region (gK 2 [] [] ?_)
  refine NS (gK 5 [(12,vP t),(13,.iface 135 (vP (L.b tk)))] [(3,a_ 0 f)] ?_)
  refine gL [1] (xH t S.X.cH S.ay (aY L S.us) (dQ L ⟨tk,2⟩) (by rw [pZ];exact t8)) ?_
  rintro _ _ ⟨rfl,rfl⟩
  refine gK 5 [(6,vI 0),(7,vI 130)] [] ?_
  refine NN (af.seq (SR (gK 2 [(18,.bool false)] [] ?_)))
  refine NN (CF (af.skip (NX (SR (gK 4 [(4,vI 0),(5,vI 130)] [] ?_)))))
  refine NN (af.ret ?_)
  exact RT (.tuple #[vI 0,vI 130]) [1,0,2,3] (by skip;rw [show bR S ⟨tk,2⟩=_ from lD (by omega)]<;>exact⟨rfl,rfl⟩)
 replace hkt:(obj S.O tk).kind=3:=hkt
 replace hop:0<=(obj S.O tk).opens/\(obj S.O tk).opens<=1048576:=hop
 refine af.region (gK 2 [] [] ?_)
 refine NS (gK 5 [(12,vP t),(13,.iface 132 (vP (L.b tk)))] [(3,a_ 0 f)] ?_)
 refine gL [1] (xH t S.X.cH S.ay (aY L S.us) (dQ L ⟨tk,3⟩) (by rw [pZ];exact t8)) ?_
 rintro _ _ ⟨rfl,rfl⟩
 refine gK 5 [(6,vI 0),(7,vI 130)] [] ?_
 refine NN (af.seq (SR (gK 2 [(18,.bool false)] [] ?_)))
 refine NN (CF (af.skip (NX (SR (gK 4 [(4,vI 0),(5,vI 130)] [] ?_)))))
 refine NN (af.ret ?_)
 exact RT (.tuple #[vI 0,vI 130]) [1,0,2,3] (by skip;rw [show bR S ⟨tk,3⟩=_ from lD (by omega)]<;>exact⟨rfl,rfl⟩)
theorem eE {β:Bs} (S:aH) (L:HL) (f m t:Nat) (hI:Inv S) (h:Int) (hw:(Lit.int .i64 h).wf=true) (name:ByteArray) (hsz:name.size<=1048576) (need:Int) :
    Spec Tryz.prog β 123 #[vP f,vI (h),.string name,vI (need)] [pF f m t S.X,pT t S.X.cH S.ay L S.us,pO S.O L] (fun v l=>v=Us L (dX S.O S.us h name need)/\l=[pF f m t S.X,pT t S.X.cH S.ay L S.us,pO S.O L]):=by
 refine Spec.enter Tryz.func123 rfl Tryz.ntmps123 (Nat.le_of_ble_eq_true rfl) (fun R=>?_)
 refine af.seq ?_
 rcases hI.hand h with dL|⟨tk,dL,hlv⟩|⟨tk,dL,hlv⟩
 ·refine af.region (gK 2 [] [] ?_)
  refine NS (gK 5 [(18,vP t),(19,vI (h))] [(3,a_ 0 f)] ?_)
  refine gL [1] (qE t S.X.cH S.ay (aY L S.us) h hw (p4 dL)) ?_
  rintro _ _ ⟨rfl,rfl⟩
  refine gK 5 [(10,.nilIface),(11,vI 131)] [] ?_
  refine NN (af.seq (SR (gK 2 [(24,.bool true)] [] ?_)))
  refine NN (CT (SR (gK 3 [(8,.pointer none),(9,vI 131)] [] ?_)))
  refine NN (af.ret (ai.ak ?_))
  exact RT (.tuple #[.pointer none,vI 131]) [1,0,2,3] (⟨by rw [show dX S.O S.us h name need=.error 131 by unfold dX;rw [dL]];rfl,rfl⟩)
 ·have hkt:(obj S.O tk).kind=1:=hI.kind hlv
  refine af.region (gK 2 [] [] ?_)
  refine NS (gK 5 [(18,vP t),(19,vI (h))] [(3,a_ 0 f)] ?_)
  refine gL [1] (lP t S.X.cH S.ay (aY L S.us) h hw (dQ L ⟨tk,1⟩) (kF dL)) ?_
  rintro _ _ ⟨rfl,rfl⟩
  refine gK 5 [(10,.iface 129 (vP (L.b tk))),(11,vI 0)] [] ?_
  refine NN (af.seq (SR (gK 2 [(24,.bool false)] [] ?_)))
  refine NN (CF (af.skip (NX (SR (gK 7 [(12,.pointer none),(13,.bool false)] [] ?_)))))
  refine NN (af.seq (af.block (SR ?_)))
  refine gK 3 [(31,.bool true)] [] ?_
  refine NN (CT (SR (gK 2 [(8,.pointer none),(9,vI 173)] [] ?_)))
  refine NN (af.ret (ai.aG (ai.ak ?_)))
  exact RT (.tuple #[.pointer none,vI 173]) [1,0,2,3] (⟨by rw [show dX S.O S.us h name need=.error 173 by unfold dX;rw [dL];exact if_neg (by simp)];rfl,rfl⟩)
 have hkt:(obj S.O tk).kind=2:=hI.kind hlv
 refine af.region (gK 2 [] [] ?_)
 refine NS (gK 5 [(18,vP t),(19,vI (h))] [(3,a_ 0 f)] ?_)
 refine gL [1] (lP t S.X.cH S.ay (aY L S.us) h hw (dQ L ⟨tk,2⟩) (kF dL)) ?_
 rintro _ _ ⟨rfl,rfl⟩
 refine gK 5 [(10,.iface 135 (vP (L.b tk))),(11,vI 0)] [] ?_
 refine NN (af.seq (SR (gK 2 [(24,.bool false)] [] ?_)))
 refine NN (CF (af.skip (NX (SR (gK 7 [(12,vP (L.b tk)),(13,.bool true)] [] ?_)))))
 refine NN (af.seq (af.block (SR ?_)))
 refine gK 3 [(31,.bool false)] [] ?_
 refine NN (CF (SR (gK 6 [(34,.bool (obj S.O tk).gone)] [(4,v_ 2 (nK L hkt))] ?_)))
 refine NN (af.cond (b:=(obj S.O tk).gone) (fun _=>by kernel_rfl) (fun y7=>?_) (fun y7=>?_))
 ·refine SR (gK 2 [(8,.pointer none),(9,vI 170)] [] ?_)
  refine NN (af.ret (ai.aG (ai.ak ?_)))
  exact RT (.tuple #[.pointer none,vI 170]) [1,0,2,3] (⟨by rw [show dX S.O S.us h name need=.error 170 by unfold dX;rw [dL];exact (if_pos rfl).trans (if_pos y7)];rfl,rfl⟩)
 refine SR (gK 1 [(41,.string name)] [] ?_)
 refine gL [] (sF name hsz) ?_
 rintro _ _ ⟨rfl,rfl⟩
 refine gK 2 [(40,.bool (!(decide (bG name))))] [] ?_
 refine NN (af.cX (p:=bG name) (fun _=>by kernel_rfl) (fun Ov=>?_) (fun Ov=>?_))
 ·refine SR (gK 2 [(8,.pointer none),(9,vI 95)] [] ?_)
  refine NN (af.ret (ai.aG (ai.ak ?_)))
  exact RT (.tuple #[.pointer none,vI 95]) [1,0,2,3] (⟨by rw [show dX S.O S.us h name need=.error 95 by unfold dX;rw [dL];exact (if_pos rfl).trans ((if_neg (by rw [y7];decide)).trans (if_neg Ov))];rfl,rfl⟩)
 refine SR (gK 10 [(44,.bool (!(decide ((bits BinOp.and .i64 ((obj S.O tk).mode) need:Int)=(need:Int)))))] [(4,v_ 2 (tq L hkt))] ?_)
 refine NN (af.cX (p:=(bits BinOp.and .i64 ((obj S.O tk).mode) need:Int)=(need:Int)) (fun _=>by kernel_rfl) (fun JX=>?_) (fun JX=>?_))
 ·refine SR (gK 2 [(8,.pointer none),(9,vI 175)] [] ?_)
  refine NN (af.ret (ai.aG (ai.ak ?_)))
  exact RT (.tuple #[.pointer none,vI 175]) [1,0,2,3] (⟨by rw [show dX S.O S.us h name need=.error 175 by unfold dX;rw [dL];exact (if_pos rfl).trans ((if_neg (by rw [y7];decide)).trans ((if_pos Ov).trans (if_neg JX)))];rfl,rfl⟩)
 refine af.skip (ai.aJ (NX (SR ?_)))
 refine gK 3 [(8,vP (L.b tk)),(9,vI 0)] [] ?_
 refine NN (af.ret ?_)
 exact RT (.tuple #[vP (L.b tk),vI 0]) [1,0,2,3] (⟨by rw [show dX S.O S.us h name need=.ok tk by unfold dX;rw [dL];exact (if_pos rfl).trans ((if_neg (by rw [y7];decide)).trans ((if_pos Ov).trans (if_pos JX)))];rfl,rfl⟩)
theorem Pr {β:Bs} (X:FM) (f m t:Nat) (hX:0<=X.ah/\X.ah<=1048576/\-1125899906842624<=X.used/\X.used<=1125899906842624/\0<=X.last/\X.last<=1125899906842624) (O:bT) (L:HL) (d:Nat) (hkd:(obj O d).kind=2) (name:ByteArray) (hsz:name.size<=1048576) (hno:aT name (obj O d).ah=none) (hel:(obj O d).ah.length<=1048576) (idx:Used Th) (hil:idx.length<=1048576) (th:Th) (hkt:(obj O th.k).kind=th.kind) (h3:th.kind=1\/th.kind=2\/th.kind=3) (hb:0<=(obj O th.k).links/\(obj O th.k).links<=1048576) (hni:aE.get idx (obj O th.k).id=none) (hw:(Lit.int .i64 (obj O th.k).id).wf=true) :
    Spec Tryz.prog β 127 #[vP f,vP (L.b d),.string name,(dQ L th)] [pF f m t X,pI m L idx,pO O L,pE O L] (fun v l=>v=.tuple #[]/\l=[pF f m t { X with ah:=X.ah+1 },pI m L (ins (obj O th.k).id th idx),pO (cU X O d name th) L,pE (cU X O d name th) L]):=by
 refine Spec.enter Tryz.func127 rfl Tryz.ntmps127 (Nat.le_of_ble_eq_true rfl) (fun R=>?_)
 refine af.seq ?_
 obtain⟨tk,kd⟩:=th;simp only at hkt h3;rcases h3 with rfl|rfl|rfl
 ·replace hkt:(obj O tk).kind=1:=hkt
  replace hni:aE.get idx (obj O tk).id=none:=hni
  replace hw:(Lit.int .i64 (obj O tk).id).wf=true:=hw
  refine af.bM (S:=(wK f m t X L idx O R)) [0,1,2,3,4,9,5,6,7,8,10] 6 [0,1,2,3,4] (by kernel_rfl) (by kernel_rfl) rfl (by kernel_rfl) ?_
  refine gR 0 [5,6,7,8,10] (FA f L d name++[(3,.iface 129 (vP (L.b tk))),(11,.map (some m)),(12,.iface 129 (vP (L.b tk))),(17,.iface 129 (vP (L.b tk)))]) [0,1,2,3,4,9] [(3,a_ 0 f)] ?_
  refine mL [0,1,2,3,4] [] (dg (L.b tk)) ?_ (by rintro _ _ ⟨rfl,rfl⟩;rfl)
  rintro _ _ ⟨rfl,rfl⟩
  refine aN.cut (ι:=Unit) (fr':=fun (_:Unit)=>(BK f L d name++[(3,.iface 129 (vP (L.b tk))),(11,.map (some m)),(14,vP (L.b tk)),(17,.iface 129 (vP (L.b tk)))])) (hp':=fun (_:Unit)=>(wK f m t X L idx O R)) [0,1,2,3,4] rfl rfl ?_ rfl (fun _=>by kernel_rfl) ?_
  ·refine gK 1 [(14,vP (L.b tk))] [] ?_
   refine NL ?_
   exact MD () [0,1,2,3,11,14,17] [0,1,2,3,4]
  rintro _
  refine aN.cut (ι:=Unit) (fr':=fun (_:Unit)=>(BK f L d name++[(3,.iface 129 (vP (L.b tk))),(11,.map (some m)),(15,vP (L.b tk)),(17,.iface 129 (vP (L.b tk)))])) (hp':=fun (_:Unit)=>(wK f m t X L idx O R)) [0,1,2,3,4] rfl rfl ?_ rfl (fun _=>by kernel_rfl) ?_
  ·refine gK 1 [(15,vP (L.b tk))] [] ?_
   refine NL ?_
   exact MD () [0,1,2,3,11,15,17] [0,1,2,3,4]
  rintro _
  refine aN.cut (ι:=Unit) (fr':=fun (_:Unit)=>(BK f L d name++[(3,.iface 129 (vP (L.b tk))),(11,.map (some m)),(16,vI ((obj O tk).id)),(17,.iface 129 (vP (L.b tk)))])) (hp':=fun (_:Unit)=>(wK f m t X L idx O R)) [0,1,2,3,4] rfl rfl ?_ rfl (fun _=>by kernel_rfl) ?_
  ·refine gK 1 [(16,vI ((obj O tk).id))] [(0,v_ 2 (qX L hkt))] ?_
   refine NL ?_
   exact MD () [0,1,2,3,11,16,17] [0,1,2,3,4]
  rintro _
  refine aN.last rfl rfl ?_
  refine aj.j6 1 (d:=none) (t:=120) (K:=3) (E:=124) (b:=m) (n:=idx.length) (f:=(aX (aY L idx))) (x:=(.tmp 11)) (ix:=(.tmp 16)) (y:=(.tmp 17)) (key:=.int .i64 ((obj O tk).id)) (u:=.iface 129 (vP (L.b tk))) (kl:=(.int .i64 (obj O tk).id)) (n':=(idx.length+1)) (f':=(aX (aY L (ins (obj O tk).id ⟨tk,1⟩ idx)))) (fun _=>by kernel_rfl) (by kernel_rfl) (fun _=>by kernel_rfl) (fun _=>by kernel_rfl) (fun _=>by kernel_rfl) dw Tryz.underlying120 (by unfold maxLen;omega) (gY hw) (by rw [fC,hni];rfl) (si (L:=L) (t:=⟨tk,1⟩) hni) ?_
  refine NL (ai.np (NX (af.region ?_)))
  refine gK 4 (QV f L d name++[(21,.iface 129 (vP (L.b tk)))]) [] ?_
  refine gL [0,2,3] (iJ X f m t hX O L d hkd name hsz hno hel ⟨tk,1⟩ hkt (by simp) hb) ?_
  rintro _ _ ⟨rfl,rfl⟩
  refine NL (ai.dx [(3,.abs (aL Tryz.prog 3 m (aX (aY L (ins (obj O tk).id ⟨tk,1⟩ idx))) ((ins (obj O tk).id ⟨tk,1⟩ idx).length)))] (fun w hS=>by rw [show (ins (obj O tk).id ⟨tk,1⟩ idx).length=idx.length+1 from iR _ _ _];exact hS) ?_)
  exact RF (.tuple #[]) [0,3,1,2,4] (⟨rfl,rfl⟩)
 ·replace hkt:(obj O tk).kind=2:=hkt
  replace hni:aE.get idx (obj O tk).id=none:=hni
  replace hw:(Lit.int .i64 (obj O tk).id).wf=true:=hw
  refine af.bM (S:=(wK f m t X L idx O R)) [0,1,2,3,4,9,5,6,7,8,10] 6 [0,1,2,3,4] (by kernel_rfl) (by kernel_rfl) rfl (by kernel_rfl) ?_
  refine gR 0 [5,6,7,8,10] (FA f L d name++[(3,.iface 135 (vP (L.b tk))),(11,.map (some m)),(12,.iface 135 (vP (L.b tk))),(17,.iface 135 (vP (L.b tk)))]) [0,1,2,3,4,9] [(3,a_ 0 f)] ?_
  refine mL [0,1,2,3,4] [] (dg (L.b tk)) ?_ (by rintro _ _ ⟨rfl,rfl⟩;rfl)
  rintro _ _ ⟨rfl,rfl⟩
  refine aN.cut (ι:=Unit) (fr':=fun (_:Unit)=>(BK f L d name++[(3,.iface 135 (vP (L.b tk))),(11,.map (some m)),(14,vP (L.b tk)),(17,.iface 135 (vP (L.b tk)))])) (hp':=fun (_:Unit)=>(wK f m t X L idx O R)) [0,1,2,3,4] rfl rfl ?_ rfl (fun _=>by kernel_rfl) ?_
  ·refine gK 1 [(14,vP (L.b tk))] [] ?_
   refine NL ?_
   exact MD () [0,1,2,3,11,14,17] [0,1,2,3,4]
  rintro _
  refine aN.cut (ι:=Unit) (fr':=fun (_:Unit)=>(BK f L d name++[(3,.iface 135 (vP (L.b tk))),(11,.map (some m)),(15,vP (L.b tk)),(17,.iface 135 (vP (L.b tk)))])) (hp':=fun (_:Unit)=>(wK f m t X L idx O R)) [0,1,2,3,4] rfl rfl ?_ rfl (fun _=>by kernel_rfl) ?_
  ·refine gK 1 [(15,vP (L.b tk))] [] ?_
   refine NL ?_
   exact MD () [0,1,2,3,11,15,17] [0,1,2,3,4]
  rintro _
  refine aN.cut (ι:=Unit) (fr':=fun (_:Unit)=>(BK f L d name++[(3,.iface 135 (vP (L.b tk))),(11,.map (some m)),(16,vI ((obj O tk).id)),(17,.iface 135 (vP (L.b tk)))])) (hp':=fun (_:Unit)=>(wK f m t X L idx O R)) [0,1,2,3,4] rfl rfl ?_ rfl (fun _=>by kernel_rfl) ?_
  ·refine gK 1 [(16,vI ((obj O tk).id))] [(0,v_ 2 (qX L hkt))] ?_
   refine NL ?_
   exact MD () [0,1,2,3,11,16,17] [0,1,2,3,4]
  rintro _
  refine aN.last rfl rfl ?_
  refine aj.j6 1 (d:=none) (t:=120) (K:=3) (E:=124) (b:=m) (n:=idx.length) (f:=(aX (aY L idx))) (x:=(.tmp 11)) (ix:=(.tmp 16)) (y:=(.tmp 17)) (key:=.int .i64 ((obj O tk).id)) (u:=.iface 135 (vP (L.b tk))) (kl:=(.int .i64 (obj O tk).id)) (n':=(idx.length+1)) (f':=(aX (aY L (ins (obj O tk).id ⟨tk,2⟩ idx)))) (fun _=>by kernel_rfl) (by kernel_rfl) (fun _=>by kernel_rfl) (fun _=>by kernel_rfl) (fun _=>by kernel_rfl) dw Tryz.underlying120 (by unfold maxLen;omega) (gY hw) (by rw [fC,hni];rfl) (si (L:=L) (t:=⟨tk,2⟩) hni) ?_
  refine NL (ai.np (NX (af.region ?_)))
  refine gK 4 (QV f L d name++[(21,.iface 135 (vP (L.b tk)))]) [] ?_
  refine gL [0,2,3] (iJ X f m t hX O L d hkd name hsz hno hel ⟨tk,2⟩ hkt (by simp) hb) ?_
  rintro _ _ ⟨rfl,rfl⟩
  refine NL (ai.dx [(3,.abs (aL Tryz.prog 3 m (aX (aY L (ins (obj O tk).id ⟨tk,2⟩ idx))) ((ins (obj O tk).id ⟨tk,2⟩ idx).length)))] (fun w hS=>by rw [show (ins (obj O tk).id ⟨tk,2⟩ idx).length=idx.length+1 from iR _ _ _];exact hS) ?_)
  exact RF (.tuple #[]) [0,3,1,2,4] (⟨rfl,rfl⟩)
 replace hkt:(obj O tk).kind=3:=hkt
 replace hni:aE.get idx (obj O tk).id=none:=hni
 replace hw:(Lit.int .i64 (obj O tk).id).wf=true:=hw
 refine af.bM (S:=(wK f m t X L idx O R)) [0,1,2,3,4,9,5,6,7,8,10] 6 [0,1,2,3,4] (by kernel_rfl) (by kernel_rfl) rfl (by kernel_rfl) ?_
 refine gR 0 [5,6,7,8,10] (FA f L d name++[(3,.iface 132 (vP (L.b tk))),(11,.map (some m)),(12,.iface 132 (vP (L.b tk))),(17,.iface 132 (vP (L.b tk)))]) [0,1,2,3,4,9] [(3,a_ 0 f)] ?_
 refine mL [0,1,2,3,4] [] (dg (L.b tk)) ?_ (by rintro _ _ ⟨rfl,rfl⟩;rfl)
 rintro _ _ ⟨rfl,rfl⟩
 refine aN.cut (ι:=Unit) (fr':=fun (_:Unit)=>(BK f L d name++[(3,.iface 132 (vP (L.b tk))),(11,.map (some m)),(14,vP (L.b tk)),(17,.iface 132 (vP (L.b tk)))])) (hp':=fun (_:Unit)=>(wK f m t X L idx O R)) [0,1,2,3,4] rfl rfl ?_ rfl (fun _=>by kernel_rfl) ?_
 ·refine gK 1 [(14,vP (L.b tk))] [] ?_
  refine NL ?_
  exact MD () [0,1,2,3,11,14,17] [0,1,2,3,4]
 rintro _
 refine aN.cut (ι:=Unit) (fr':=fun (_:Unit)=>(BK f L d name++[(3,.iface 132 (vP (L.b tk))),(11,.map (some m)),(15,vP (L.b tk)),(17,.iface 132 (vP (L.b tk)))])) (hp':=fun (_:Unit)=>(wK f m t X L idx O R)) [0,1,2,3,4] rfl rfl ?_ rfl (fun _=>by kernel_rfl) ?_
 ·refine gK 1 [(15,vP (L.b tk))] [] ?_
  refine NL ?_
  exact MD () [0,1,2,3,11,15,17] [0,1,2,3,4]
 rintro _
 refine aN.cut (ι:=Unit) (fr':=fun (_:Unit)=>(BK f L d name++[(3,.iface 132 (vP (L.b tk))),(11,.map (some m)),(16,vI ((obj O tk).id)),(17,.iface 132 (vP (L.b tk)))])) (hp':=fun (_:Unit)=>(wK f m t X L idx O R)) [0,1,2,3,4] rfl rfl ?_ rfl (fun _=>by kernel_rfl) ?_
 ·refine gK 1 [(16,vI ((obj O tk).id))] [(0,v_ 2 (qX L hkt))] ?_
  refine NL ?_
  exact MD () [0,1,2,3,11,16,17] [0,1,2,3,4]
 rintro _
 refine aN.last rfl rfl ?_
 refine aj.j6 1 (d:=none) (t:=120) (K:=3) (E:=124) (b:=m) (n:=idx.length) (f:=(aX (aY L idx))) (x:=(.tmp 11)) (ix:=(.tmp 16)) (y:=(.tmp 17)) (key:=.int .i64 ((obj O tk).id)) (u:=.iface 132 (vP (L.b tk))) (kl:=(.int .i64 (obj O tk).id)) (n':=(idx.length+1)) (f':=(aX (aY L (ins (obj O tk).id ⟨tk,3⟩ idx)))) (fun _=>by kernel_rfl) (by kernel_rfl) (fun _=>by kernel_rfl) (fun _=>by kernel_rfl) (fun _=>by kernel_rfl) dw Tryz.underlying120 (by unfold maxLen;omega) (gY hw) (by rw [fC,hni];rfl) (si (L:=L) (t:=⟨tk,3⟩) hni) ?_
 refine NL (ai.np (NX (af.region ?_)))
 refine gK 4 (QV f L d name++[(21,.iface 132 (vP (L.b tk)))]) [] ?_
 refine gL [0,2,3] (iJ X f m t hX O L d hkd name hsz hno hel ⟨tk,3⟩ hkt (by simp) hb) ?_
 rintro _ _ ⟨rfl,rfl⟩
 refine NL (ai.dx [(3,.abs (aL Tryz.prog 3 m (aX (aY L (ins (obj O tk).id ⟨tk,3⟩ idx))) ((ins (obj O tk).id ⟨tk,3⟩ idx).length)))] (fun w hS=>by rw [show (ins (obj O tk).id ⟨tk,3⟩ idx).length=idx.length+1 from iR _ _ _];exact hS) ?_)
 exact RF (.tuple #[]) [0,3,1,2,4] (⟨rfl,rfl⟩)
end
section
open Go.RowKit Go.Maps bD aE
attribute [local irreducible] aj aP af ai
theorem rS {β:Bs} (S:aH) (L:HL) (f m t:Nat) (hI:Inv0 S) (d:Nat) (hd:Live S.idx ⟨d,2⟩) (name:ByteArray) (hsz:name.size<=1048576) (hno:aT name (obj S.O d).ah=none) (o:aR) (hid:o.id=S.X.last+1) (hk3:o.kind=1\/o.kind=2\/o.kind=3) (hl0:o.links=0) (hlast:S.X.last < 1099511627776) :
    Spec Tryz.prog β 127 #[vP f,vP (L.b d),.string name,dQ L ⟨(aO S.X),o.kind⟩] [pF f m t { S.X with last:=S.X.last+1 },pI m L S.idx,pO (aD S.O (aO S.X) (fun _=>o)) L,pE (aD S.O (aO S.X) (fun _=>o)) L] (fun v l=>v=.tuple #[]/\l=[pF f m t ((d9 S d name o).X),pI m L ((d9 S d name o).idx),pO ((d9 S d name o).O) L,pE ((d9 S d name o).O) L]):=by
  have hX:=hI.hX
  have hne:d≠(aO S.X):=hI.uT hd
  have hkd:(obj S.O d).kind=2:=hI.kind hd
  have hel:(obj S.O d).ah.length<=8192:=hI.gy hd
  have hlen:=hI.len
  have e1:obj (aD S.O (aO S.X) (fun _=>o)) (aO S.X)=o:=bL
  have e2:obj (aD S.O (aO S.X) (fun _=>o)) d=obj S.O d:=bZ hne
  have hnk:=oA hI
  have h:=Pr (β:=β) { S.X with last:=S.X.last+1 } f m t (by simp only;omega) (aD S.O (aO S.X) (fun _=>o)) L d (by rw [e2];exact hkd) name hsz (by rw [e2];exact hno) (by rw [e2];omega) S.idx (by omega) ⟨(aO S.X),o.kind⟩ (by rw [e1]) hk3 (by rw [e1,hl0];decide) (by
    rw [e1,hid]
    cases e:aE.get S.idx (S.X.last+1) with
    | none=>rfl
    | some u=>have:=(hI.idx _ u e).2.2;omega) (by rw [e1,hid];exact WalkArith.wf_i64 (by have:=hI.last;omega))
  rw [e1,hid] at h
  exact h
theorem DF {β:Bs} (S:aH) (L:HL) (f m t:Nat) (hI:Inv S) (d:Nat) (hd:Live S.idx ⟨d,2⟩) (name:ByteArray) (hsz:name.size<=1048576) (mode:Int) :
    Spec Tryz.prog β 124 #[vP f,vP (L.b d),.string name,vI (mode)] (pA f m t L S) (fun v l=>∃ L2,v=vI (fq S d name mode).1/\l=(pA f m t L2 ((fq S d name mode).2))):=by
 have hX:=hI.hX
 have hel:(obj S.O d).ah.length<=8192:=hI.gy hd
 have hkd:(obj S.O d).kind=2:=hI.kind hd
 refine Spec.enter Tryz.func124 rfl Tryz.ntmps124 (Nat.le_of_ble_eq_true rfl) (fun R=>?_)
 refine SR (gK 1 [] [] ?_)
 refine NS (gK 3 [(10,vP f),(11,vP (L.b d)),(12,.string name)] [] ?_)
 refine gL [0,1,5,3] (t7 S L f m t hI d hd name hsz) ?_
 rintro _ _ ⟨rfl,rfl⟩
 refine gK 1 [(9,vI ((ck S.X S.O S.idx d name)))] [] ?_
 refine NN (af.seq (SR (gK 2 [(15,.bool (decide (((ck S.X S.O S.idx d name):Int)=(0:Int))))] [] ?_)))
 refine NN (af.aV (p:=((ck S.X S.O S.idx d name):Int)=(0:Int)) (fun _=>by kernel_rfl) (fun h0=>?_) (fun h0=>?_))
 ·have hno:=oF h0
  refine af.region (gK 5 [(16,vP f),(17,vP (L.b d)),(18,.string name),(19,vP f),(20,vI (mode))] [] ?_)
  refine gL [0] (t6 S.X f m t hX mode) ?_
  rintro _ _ ⟨rfl,rfl⟩
  refine aj.kO (d:=(some 22)) (t:=136) (fun _=>by kernel_rfl) Tryz.prog rfl 9 (fun m1=>?_)
  refine gN 3 (fun b2=>[(25,.iface 135 (vP b2))]) (fun _=>[]) (fun _=>[]) (fun b2=>.blk b2 [vI (S.X.last+1),vI (mode),vI 0,vI 0,vI (S.X.cS),vI (S.X.cZ),vI 0,vI 0,.bool false,.map (some m1),.pointer none] 138) (fun b2=>?_)
  obtain⟨L2,hL2⟩:∃ L2:HL,L2=L.put (aO S.X) b2 m1 none 0:=⟨_,rfl⟩
  have hfr:=hI.toInv0.fresh
  refine aj.mem (fun w hS=>hS.tU hL2 hfr (o:=(aU S.X 2 mode)) (i:=3) (j:=8) (ix:=[0,1,2,4,5,6,7]) rfl rfl (by kernel_rfl) rfl (by show (2:Int)≠0;decide) ((lM (L:=L2) (k:=(aO S.X)) (o:=(aU S.X 2 mode)) rfl).trans (by rw [EY hL2];rfl)) rfl) ?_
  refine aj.mem (fun w hS=>hS.N9 hL2 hfr (o:=(aU S.X 2 mode)) (i:=3) (j:=7) (ix:=[0,1,2,4,5,6]) rfl rfl (by kernel_rfl) rfl rfl rfl) ?_
  refine aj.dx [(5,pD (aD S.O (aO S.X) (fun _=>(aU S.X 2 mode))) L2)] (fun w hS=>hS.Bp hL2 (o:=(aU S.X 2 mode)) (i:=5) rfl (by show (2:Int)≠1;decide)) ?_
  refine aj.dx [(3,.abs (aL Tryz.prog 3 m (aX (aY L2 S.idx)) S.idx.length)),(4,.abs (cV 197 t S.X.cH S.ay (aY L2 S.us)))] (fun w hS=>by rw [gJ hL2 hfr.idx,gJ hL2 hfr.us];exact hS) ?_
  refine gL (f:=127) (args:=#[vP f,vP (L.b d),.string name,.iface 135 (vP b2)]) (pre:=[pF f m t { S.X with last:=S.X.last+1 },pI m L2 S.idx,pO (aD S.O (aO S.X) (fun _=>(aU S.X 2 mode))) L2,pE (aD S.O (aO S.X) (fun _=>(aU S.X 2 mode))) L2]) [2,3,1,0] ((by have h:=rS (β:=β) S L2 f m t hI.toInv0 d hd name hsz hno (aU S.X 2 mode) rfl (by simp [aU]) rfl (qq h0);rw [vO hL2 (hI.uT hd),oC hL2] at h;exact h)) ?_
  rintro _ _ ⟨rfl,rfl⟩
  refine NS (aj.dx [(5,.abs (ax (bJ ((d9 S d name (aU S.X 2 mode)).O) L2)))] (fun w hS=>by rw [show bJ ((d9 S d name (aU S.X 2 mode)).O) L2=bJ (aD S.O (aO S.X) (fun _=>(aU S.X 2 mode))) L2 from ic];exact hS) ?_)
  refine gK 2 [(8,vI ((ck S.X S.O S.idx d name)))] [] ?_
  refine NN (af.ret ?_)
  exact RT (vI ((ck S.X S.O S.idx d name))) [0,1,4,2,5,3,6] (⟨L2,by rw [show fq S d name mode=_ from if_pos h0];refine⟨congrArg _ h0,?_⟩;rfl⟩)
 refine af.skip (NX (SR (gK 2 [(8,vI ((ck S.X S.O S.idx d name)))] [] ?_)))
 refine NN (af.ret ?_)
 exact RT (vI ((ck S.X S.O S.idx d name))) [0,1,4,3,5,2,6] (⟨L,by rw [show fq S d name mode=_ from if_neg h0]<;>exact⟨rfl,rfl⟩⟩)
theorem zi {β:Bs} (S:aH) (L:HL) (f m t:Nat) (hI:Inv S) (d:Nat) (hd:Live S.idx ⟨d,2⟩) (name:ByteArray) (hsz:name.size<=1048576) (text:ByteArray) (Ow:text.size<=1048576) :
    Spec Tryz.prog β 128 #[vP f,vP (L.b d),.string name,.string text] (pA f m t L S) (fun v l=>∃ L2,v=vI (dO S d name text).1/\l=(pA f m t L2 ((dO S d name text).2))):=by
 have hX:=hI.hX
 have hel:(obj S.O d).ah.length<=8192:=hI.gy hd
 have hkd:(obj S.O d).kind=2:=hI.kind hd
 refine Spec.enter Tryz.func128 rfl Tryz.ntmps128 (Nat.le_of_ble_eq_true rfl) (fun R=>?_)
 refine SR (gK 1 [] [] ?_)
 refine NS (gK 1 [(10,.string text)] [] ?_)
 refine gL [] (Pq text Ow) ?_
 rintro _ _ ⟨rfl,rfl⟩
 refine gK 1 [(9,vI ((nA text)))] [] ?_
 refine NN (af.seq (SR (gK 2 [(13,.bool (decide (((nA text):Int)=(0:Int))))] [] ?_)))
 refine NN (af.aV (p:=((nA text):Int)=(0:Int)) (fun _=>by kernel_rfl) (fun hb=>?_) (fun hb=>?_))
 ·refine af.region (gK 3 [(14,vP f),(15,vP (L.b d)),(16,.string name)] [] ?_)
  refine gL [0,1,5,3] (t7 S L f m t hI d hd name hsz) ?_
  rintro _ _ ⟨rfl,rfl⟩
  refine gK 1 [(9,vI ((ck S.X S.O S.idx d name)))] [] ?_
  refine NN (af.seq (SR (gK 2 [(19,.bool (decide (((ck S.X S.O S.idx d name):Int)=(0:Int))))] [] ?_)))
  refine NN (af.aV (p:=((ck S.X S.O S.idx d name):Int)=(0:Int)) (fun _=>by kernel_rfl) (fun h0=>?_) (fun h0=>?_))
  ·have hno:=oF h0
   refine af.region (gK 4 [(20,vP f),(21,vP (L.b d)),(22,.string name),(23,vP f)] [] ?_)
   refine gL [0] (t6 S.X f m t hX 511) ?_
   rintro _ _ ⟨rfl,rfl⟩
   refine gN 4 (fun b3=>[(28,.iface 132 (vP b3))]) (fun _=>[]) (fun _=>[]) (fun b3=>.blk b3 [vI (S.X.last+1),vI (511),vI 0,vI 0,vI (S.X.cS),vI (S.X.cZ),vI 0,vI 0,.bool false,.string text] 134) (fun b3=>?_)
   obtain⟨L2,hL2⟩:∃ L2:HL,L2=L.put (aO S.X) b3 0 none 0:=⟨_,rfl⟩
   have hfr:=hI.toInv0.fresh
   refine aj.mem (fun w hS=>hS.tU hL2 hfr (o:={ aU S.X 3 511 with target:=text }) (i:=3) (j:=7) (ix:=[0,1,2,4,5,6]) rfl rfl (by kernel_rfl) rfl (by show (3:Int)≠0;decide) ((xA (L:=L2) (k:=(aO S.X)) (o:={ aU S.X 3 511 with target:=text }) rfl).trans (by rfl)) rfl) ?_
   refine aj.dx [(3,pE (aD S.O (aO S.X) (fun _=>{ aU S.X 3 511 with target:=text })) L2)] (fun w hS=>hS.uU hL2 hfr (o:={ aU S.X 3 511 with target:=text }) (i:=3) rfl (by show (3:Int)≠2;decide)) ?_
   refine aj.dx [(5,pD (aD S.O (aO S.X) (fun _=>{ aU S.X 3 511 with target:=text })) L2)] (fun w hS=>hS.Bp hL2 (o:={ aU S.X 3 511 with target:=text }) (i:=5) rfl (by show (3:Int)≠1;decide)) ?_
   refine aj.dx [(2,.abs (aL Tryz.prog 3 m (aX (aY L2 S.idx)) S.idx.length)),(4,.abs (cV 197 t S.X.cH S.ay (aY L2 S.us)))] (fun w hS=>by rw [gJ hL2 hfr.idx,gJ hL2 hfr.us];exact hS) ?_
   refine gL (f:=127) (args:=#[vP f,vP (L.b d),.string name,.iface 132 (vP b3)]) (pre:=[pF f m t { S.X with last:=S.X.last+1 },pI m L2 S.idx,pO (aD S.O (aO S.X) (fun _=>{ aU S.X 3 511 with target:=text })) L2,pE (aD S.O (aO S.X) (fun _=>{ aU S.X 3 511 with target:=text })) L2]) [1,2,0,3] ((by have h:=rS (β:=β) S L2 f m t hI.toInv0 d hd name hsz hno { aU S.X 3 511 with target:=text } rfl (by simp [aU]) rfl (qq h0);rw [vO hL2 (hI.uT hd),oC hL2] at h;exact h)) ?_
   rintro _ _ ⟨rfl,rfl⟩
   refine NS (aj.dx [(5,.abs (ax (bJ ((d9 S d name { aU S.X 3 511 with target:=text }).O) L2)))] (fun w hS=>by rw [show bJ ((d9 S d name { aU S.X 3 511 with target:=text }).O) L2=bJ (aD S.O (aO S.X) (fun _=>{ aU S.X 3 511 with target:=text })) L2 from ic];exact hS) ?_)
   refine gK 2 [(8,vI ((ck S.X S.O S.idx d name)))] [] ?_
   refine NN (af.ret ?_)
   exact RT (vI ((ck S.X S.O S.idx d name))) [0,1,4,2,5,3,6] (⟨L2,by rw [show dO S d name text=_ from (if_pos hb).trans (if_pos h0)];refine⟨congrArg _ h0,?_⟩;rfl⟩)
  refine af.skip (NX (SR (gK 2 [(8,vI ((ck S.X S.O S.idx d name)))] [] ?_)))
  refine NN (af.ret ?_)
  exact RT (vI ((ck S.X S.O S.idx d name))) [0,1,4,3,5,2,6] (⟨L,by rw [show dO S d name text=_ from (if_pos hb).trans (if_neg h0)]<;>exact⟨rfl,rfl⟩⟩)
 refine af.skip (NX (af.seq (SR (gK 2 [(19,.bool (decide (((nA text):Int)=(0:Int))))] [] ?_))))
 refine NN (af.aV (p:=((nA text):Int)=(0:Int)) (fun _=>by kernel_rfl) (fun h0=>?_) (fun h0=>?_))
 ·exact absurd h0 hb
 refine af.skip (NX (SR (gK 2 [(8,vI ((nA text)))] [] ?_)))
 refine NN (af.ret ?_)
 exact RT (vI ((nA text))) [0,1,2,3,4,5,6] (⟨L,by rw [show dO S d name text=_ from if_neg hb]<;>exact⟨rfl,rfl⟩⟩)
theorem BL {β:Bs} (S:aH) (L:HL) (f m t:Nat) (hI:Inv S) (d:Nat) (hd:Live S.idx ⟨d,2⟩) (name:ByteArray) (hsz:name.size<=1048576) :
    Spec Tryz.prog β 131 #[vP f,vP (L.b d),.string name] (pA f m t L S) (fun v l=>∃ L2,v=vI (dG S d name).1/\l=(pA f m t L2 ((dG S d name).2))):=by
 have hX:=hI.hX
 have hel:(obj S.O d).ah.length<=8192:=hI.gy hd
 have hkd:(obj S.O d).kind=2:=hI.kind hd
 refine Spec.enter Tryz.func131 rfl Tryz.ntmps131 (Nat.le_of_ble_eq_true rfl) (fun R=>?_)
 refine af.seq ?_
 rcases hI.mr hd name with hlk|⟨tk,hlk,hlv⟩|⟨tk,hlk,hlv⟩|⟨tk,hlk,hlv⟩
 ·refine af.region (gK 1 [] [] ?_)
  refine NN (af.seq (SR (gK 5 [(10,.map (some (L.m d))),(11,.string name)] [(3,v_ 3 (bw L hkd))] ?_)))
  refine iD 5 hkd hlk ?_
  refine NN (af.block (SR ?_))
  refine gK 1 [(13,.bool true)] [] ?_
  refine NN (CT (SR (gK 1 [(6,vI 170)] [] ?_)))
  refine NN (af.ret (ai.aG (ai.ak ?_)))
  exact RT (vI 170) [0,1,2,3,4,5,6] (⟨L,by rw [show dG S d name=(170,S) by unfold dG;rw [hlk]]<;>exact⟨rfl,rfl⟩⟩)
 ·have hkt:(obj S.O tk).kind=1:=hI.kind hlv
  refine af.region (gK 1 [] [] ?_)
  refine NN (af.seq (SR (gK 5 [(10,.map (some (L.m d))),(11,.string name)] [(3,v_ 3 (bw L hkd))] ?_)))
  refine iD 5 hkd hlk ?_
  refine NN (af.block (SR ?_))
  refine gK 1 [(13,.bool false)] [] ?_
  refine NN (CF (SR (gK 3 [(15,.bool false)] [] ?_)))
  refine NN (CF (af.skip (ai.aJ (NX (SR ?_)))))
  refine gK 3 [(17,vP f),(18,vP (L.b d)),(19,.string name)] [] ?_
  refine gL [0,3,5,1] (nZ S L f m t hI d hd name hsz ⟨tk,1⟩ hlk) ?_
  rintro _ _ ⟨rfl,rfl⟩
  refine NS (aj.dx [(5,.abs (ax (bJ ((aI S d name ⟨tk,1⟩).O) L)))] (fun w hS=>by rw [show bJ ((aI S d name ⟨tk,1⟩).O) L=bJ S.O L from nX];exact hS) ?_)
  refine gK 1 [(6,vI 0)] [] ?_
  refine NN (af.ret ?_)
  exact RT (vI 0) [0,3,4,1,5,2,6] (⟨L,by rw [show dG S d name=(0,aI S d name ⟨tk,1⟩) by unfold dG;rw [hlk];exact if_neg (by simp)]<;>exact⟨rfl,rfl⟩⟩)
 ·have hkt:(obj S.O tk).kind=2:=hI.kind hlv
  refine af.region (gK 1 [] [] ?_)
  refine NN (af.seq (SR (gK 5 [(10,.map (some (L.m d))),(11,.string name)] [(3,v_ 3 (bw L hkd))] ?_)))
  refine iD 5 hkd hlk ?_
  refine NN (af.block (SR ?_))
  refine gK 1 [(13,.bool false)] [] ?_
  refine NN (CF (SR (gK 3 [(15,.bool true)] [] ?_)))
  refine NN (CT (SR (gK 1 [(6,vI 172)] [] ?_)))
  refine NN (af.ret (ai.aG (ai.ak ?_)))
  exact RT (vI 172) [0,1,2,3,4,5,6] (⟨L,by rw [show dG S d name=(172,S) by unfold dG;rw [hlk];exact if_pos rfl]<;>exact⟨rfl,rfl⟩⟩)
 have hkt:(obj S.O tk).kind=3:=hI.kind hlv
 refine af.region (gK 1 [] [] ?_)
 refine NN (af.seq (SR (gK 5 [(10,.map (some (L.m d))),(11,.string name)] [(3,v_ 3 (bw L hkd))] ?_)))
 refine iD 5 hkd hlk ?_
 refine NN (af.block (SR ?_))
 refine gK 1 [(13,.bool false)] [] ?_
 refine NN (CF (SR (gK 3 [(15,.bool false)] [] ?_)))
 refine NN (CF (af.skip (ai.aJ (NX (SR ?_)))))
 refine gK 3 [(17,vP f),(18,vP (L.b d)),(19,.string name)] [] ?_
 refine gL [0,3,5,1] (nZ S L f m t hI d hd name hsz ⟨tk,3⟩ hlk) ?_
 rintro _ _ ⟨rfl,rfl⟩
 refine NS (aj.dx [(5,.abs (ax (bJ ((aI S d name ⟨tk,3⟩).O) L)))] (fun w hS=>by rw [show bJ ((aI S d name ⟨tk,3⟩).O) L=bJ S.O L from nX];exact hS) ?_)
 refine gK 1 [(6,vI 0)] [] ?_
 refine NN (af.ret ?_)
 exact RT (vI 0) [0,3,4,1,5,2,6] (⟨L,by rw [show dG S d name=(0,aI S d name ⟨tk,3⟩) by unfold dG;rw [hlk];exact if_neg (by simp)]<;>exact⟨rfl,rfl⟩⟩)
theorem DG {β:Bs} (S:aH) (L:HL) (f m t:Nat) (hI:Inv S) (d:Nat) (hd:Live S.idx ⟨d,2⟩) (name:ByteArray) (hsz:name.size<=1048576) :
    Spec Tryz.prog β 137 #[vP f,vP (L.b d),.string name] (pA f m t L S) (fun v l=>∃ L2,v=vI (dV S d name).1/\l=(pA f m t L2 ((dV S d name).2))):=by
 have hX:=hI.hX
 have hel:(obj S.O d).ah.length<=8192:=hI.gy hd
 have hkd:(obj S.O d).kind=2:=hI.kind hd
 refine Spec.enter Tryz.func137 rfl Tryz.ntmps137 (Nat.le_of_ble_eq_true rfl) (fun R=>?_)
 refine af.seq ?_
 rcases hI.mr hd name with hlk|⟨tk,hlk,hlv⟩|⟨tk,hlk,hlv⟩|⟨tk,hlk,hlv⟩
 ·refine af.region (gK 1 [] [] ?_)
  refine NS (gK 5 [(13,.map (some (L.m d))),(14,.string name)] [(3,v_ 3 (bw L hkd))] ?_)
  refine iD 5 hkd hlk ?_
  refine gK 1 [(7,.nilIface)] [] ?_
  refine NN (af.seq (SR (gK 2 [(17,.bool true)] [] ?_)))
  refine NN (CT (SR (gK 1 [(6,vI 170)] [] ?_)))
  refine NN (af.ret (ai.ak ?_))
  exact RT (vI 170) [0,1,2,3,4,5,6] (⟨L,by skip;rw [show dV S d name=(170,S) by unfold dV;rw [hlk]]<;>exact⟨rfl,rfl⟩⟩)
 ·have hkt:(obj S.O tk).kind=1:=hI.kind hlv
  refine af.region (gK 1 [] [] ?_)
  refine NS (gK 5 [(13,.map (some (L.m d))),(14,.string name)] [(3,v_ 3 (bw L hkd))] ?_)
  refine iD 5 hkd hlk ?_
  refine gK 1 [(7,.iface 129 (vP (L.b tk)))] [] ?_
  refine NN (af.seq (SR (gK 2 [(17,.bool false)] [] ?_)))
  refine NN (CF (af.skip (NX (SR (gK 7 [(8,.pointer none),(9,.bool false)] [] ?_)))))
  refine NN (af.seq (SR (gK 2 [(24,.bool true)] [] ?_)))
  refine NN (CT (SR (gK 1 [(6,vI 173)] [] ?_)))
  refine NN (af.ret (ai.ak ?_))
  exact RT (vI 173) [0,1,2,3,4,5,6] (⟨L,by skip;rw [show dV S d name=(173,S) by unfold dV;rw [hlk];exact if_neg (by simp)]<;>exact⟨rfl,rfl⟩⟩)
 ·have hkt:(obj S.O tk).kind=2:=hI.kind hlv
  have Wu:(obj S.O tk).ah.length<=8192:=hI.gy hlv
  refine af.region (gK 1 [] [] ?_)
  refine NS (gK 5 [(13,.map (some (L.m d))),(14,.string name)] [(3,v_ 3 (bw L hkd))] ?_)
  refine iD 5 hkd hlk ?_
  refine gK 1 [(7,.iface 135 (vP (L.b tk)))] [] ?_
  refine NN (af.seq (SR (gK 2 [(17,.bool false)] [] ?_)))
  refine NN (CF (af.skip (NX (SR (gK 7 [(8,vP (L.b tk)),(9,.bool true)] [] ?_)))))
  refine NN (af.seq (SR (gK 2 [(24,.bool false)] [] ?_)))
  refine NN (CF (af.skip (NX (af.seq (SR (gK 4 [(28,.map (some (L.m tk)))] [(3,v_ 3 (bw L hkt))] ?_))))))
  refine Vv 5 hkt ?_
  refine gK 1 [(30,.bool (decide (((((obj S.O tk).ah.length:Nat):Int):Int) > (0:Int))))] [] ?_
  refine NN (af.aV (p:=((((obj S.O tk).ah.length:Nat):Int):Int) > (0:Int)) (fun _=>by kernel_rfl) (fun mM=>?_) (fun mM=>?_))
  ·refine SR (gK 1 [(6,vI 178)] [] ?_)
   refine NN (af.ret (ai.ak ?_))
   exact RT (vI 178) [0,1,2,3,4,5,6] (⟨L,by skip;rw [show dV S d name=(178,S) by unfold dV;rw [hlk];exact (if_pos rfl).trans (if_neg (fun e=>by rw [show (obj S.O tk).ah=[] from e] at mM;simp at mM))]<;>exact⟨rfl,rfl⟩⟩)
  refine af.skip (NX (SR (gK 3 [(31,vP f),(32,vP (L.b d)),(33,.string name)] [] ?_)))
  refine gL [0,3,5,1] (nZ S L f m t hI d hd name hsz ⟨tk,2⟩ hlk) ?_
  rintro _ _ ⟨rfl,rfl⟩
  refine NS (aj.dx [(5,.abs (ax (bJ ((aI S d name ⟨tk,2⟩).O) L)))] (fun w hS=>by rw [show bJ ((aI S d name ⟨tk,2⟩).O) L=bJ S.O L from nX];exact hS) ?_)
  have x3:(obj (aI S d name ⟨tk,2⟩).O d).kind=2:=(Bo).trans (hkd)
  have x5:(obj (aI S d name ⟨tk,2⟩).O tk).kind=2:=(Bo).trans (hkt)
  generalize cq:(aI S d name ⟨tk,2⟩).O=cI at x3 x5 ⊢
  refine gK 3 [(37,.pointer (some ⟨(L.b tk),10,none⟩))] [] ?_
  refine Tj 1 [(2,1),(5,2)] tk (none) x5 (fun ef dh=>?_)
  have MX:=ku dh x3
  have Jj:=ku dh x5
  refine NS (gK 1 [(6,vI 0)] [] ?_)
  refine NN (af.ret ?_)
  exact RT (l:=[pF f m t ((aI S d name ⟨tk,2⟩).X),pI m L ((aI S d name ⟨tk,2⟩).idx),pT t S.X.cH S.ay L S.us,pO ef L,pD ef L,pE ef L]) (.int .i64 0) [0,3,4,1,5,2,6] (⟨L,by subst dh;subst cq;rw [show dV S d name=(0,{ aI S d name ⟨tk,2⟩ with O:=orphan (aI S d name ⟨tk,2⟩).O tk }) by unfold dV;rw [hlk];exact (if_pos rfl).trans (if_pos (List.eq_nil_of_length_eq_zero (by show (obj S.O tk).ah.length=0;omega)))]<;>exact⟨rfl,rfl⟩⟩)
 have hkt:(obj S.O tk).kind=3:=hI.kind hlv
 refine af.region (gK 1 [] [] ?_)
 refine NS (gK 5 [(13,.map (some (L.m d))),(14,.string name)] [(3,v_ 3 (bw L hkd))] ?_)
 refine iD 5 hkd hlk ?_
 refine gK 1 [(7,.iface 132 (vP (L.b tk)))] [] ?_
 refine NN (af.seq (SR (gK 2 [(17,.bool false)] [] ?_)))
 refine NN (CF (af.skip (NX (SR (gK 7 [(8,.pointer none),(9,.bool false)] [] ?_)))))
 refine NN (af.seq (SR (gK 2 [(24,.bool true)] [] ?_)))
 refine NN (CT (SR (gK 1 [(6,vI 173)] [] ?_)))
 refine NN (af.ret (ai.ak ?_))
 exact RT (vI 173) [0,1,2,3,4,5,6] (⟨L,by skip;rw [show dV S d name=(173,S) by unfold dV;rw [hlk];exact if_neg (by simp)]<;>exact⟨rfl,rfl⟩⟩)
end
end Go.Proofs.YtidjcblbdmfalaaGreat
