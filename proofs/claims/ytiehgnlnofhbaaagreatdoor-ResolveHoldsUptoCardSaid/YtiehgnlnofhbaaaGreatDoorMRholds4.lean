/-
  PROVED HERE: lemmas and contracts of functions (texts of this repo, joined; what the claim does not use is left out): Rs, GOk, Nw, Wn, WD, H7, Vg, H8, H9, Vh, HD, H10, H11.
  CONDITIONS: as the theorems say.
-/
import Derived.Test.YtiehgnlnofhbaaaGreatDoorMRholds3
set_option maxRecDepth 100000
set_option maxHeartbeats 4000000
namespace Go.Proofs.YtiehgnlnofhbaaaGreatDoor
section
open Go.RowKit Go.Maps bF aB
noncomputable section
abbrev gF (h:Int) (name:ByteArray):ax:=⟨2,h,0,name,⟨#[]⟩,none,0,[],0,0,0,0,0,0,0⟩
abbrev yT (h:Int) (name:ByteArray) (mode:Int):ax:=⟨4,h,0,name,⟨#[]⟩,none,0,[],mode,0,0,0,0,0,0⟩
abbrev eu (h:Int):ax:=⟨13,h,0,⟨#[]⟩,⟨#[]⟩,none,0,[],0,0,0,0,0,0,0⟩
structure Ko where
  S:aG
  n:Nat
  next:Int
  made:Bool
  code:Int
section
variable (fs:List bq) (xs:List bP) (root:Int)
def dh (S:aG) (n:Nat) (cur:Int) (part:ByteArray) (mode:Int):Ko:=
  let a:=aV fs xs root (n+1) S (gF cur part)
  if a.2.code=0 then ⟨a.1,n+1,a.2.answer,false,0⟩
  else if ¬ a.2.code=170\/mode < 0 then ⟨a.1,n+1,0,false,a.2.code⟩
  else
    let b:=aV fs xs root (n+2) a.1 (yT cur part mode)
    if ¬ b.2.code=0/\¬ b.2.code=171 then ⟨b.1,n+2,0,false,b.2.code⟩
    else
      let d:=aV fs xs root (n+3) b.1 (gF cur part)
      if d.2.code=0 then ⟨d.1,n+3,d.2.answer,decide (b.2.code=0),0⟩ else ⟨d.1,n+3,0,decide (b.2.code=0),d.2.code⟩
structure I8 where
  S:aG
  n:Nat
  cur:Int
  own:Bool
  made:Int
  code:Int
  at_:Int
def mR (S:aG) (n:Nat) (cur:Int) (own:Bool) (made code at_:Int):I8:=
  if own=true then ⟨(aV fs xs root (n+1) S (eu cur)).1,n+1,0,false,made,code,at_⟩ else ⟨S,n,0,false,made,code,at_⟩
def gI (mode:Int):List ByteArray->Int->aG->Nat->Int->Bool->Int->I8
  | [],_,S,n,cur,own,made=>⟨S,n,cur,own,made,0,0⟩
  | p::r,i,S,n,cur,own,made=>
    let a:=dh fs xs root S n cur p mode
    let m2:=if a.made=true then made+1 else made
    if a.code=0 then if own=true then
      let b:=aV fs xs root (a.n+1) a.S (eu cur)
      if b.2.code=0 then gI mode r (i+1) b.1 (a.n+1) a.next true m2
      else mR fs xs root b.1 (a.n+1) a.next true m2 b.2.code i
    else gI mode r (i+1) a.S a.n a.next true m2
    else mR fs xs root a.S a.n cur own m2 a.code i
end
section
variable {fs:List bq} {xs:List bP} {root:Int} {S S2:aG} {c2:ax} {n:Nat} {cur mode made i:Int} {own:Bool} {p:ByteArray} {r:List ByteArray} {h:Int} {name:ByteArray}
theorem Er:gI fs xs root mode [] i S n cur own made=⟨S,n,cur,own,made,0,0⟩:=rfl
theorem uz (h:¬ (dh fs xs root S n cur p mode).code=0):gI fs xs root mode (p::r) i S n cur own made=mR fs xs root (dh fs xs root S n cur p mode).S (dh fs xs root S n cur p mode).n cur own (if (dh fs xs root S n cur p mode).made=true then made+1 else made) (dh fs xs root S n cur p mode).code i:=if_neg h
theorem yU (h:(dh fs xs root S n cur p mode).code=0) (ho:own=true) (h2:(aV fs xs root ((dh fs xs root S n cur p mode).n+1) (dh fs xs root S n cur p mode).S (eu cur)).2.code=0):gI fs xs root mode (p::r) i S n cur own made=gI fs xs root mode r (i+1) (aV fs xs root ((dh fs xs root S n cur p mode).n+1) (dh fs xs root S n cur p mode).S (eu cur)).1 ((dh fs xs root S n cur p mode).n+1) (dh fs xs root S n cur p mode).next true (if (dh fs xs root S n cur p mode).made=true then made+1 else made):=
  (if_pos h).trans ((if_pos ho).trans (if_pos h2))
theorem CA (h:(dh fs xs root S n cur p mode).code=0) (ho:own=true) (h2:¬ (aV fs xs root ((dh fs xs root S n cur p mode).n+1) (dh fs xs root S n cur p mode).S (eu cur)).2.code=0):gI fs xs root mode (p::r) i S n cur own made=mR fs xs root (aV fs xs root ((dh fs xs root S n cur p mode).n+1) (dh fs xs root S n cur p mode).S (eu cur)).1 ((dh fs xs root S n cur p mode).n+1) (dh fs xs root S n cur p mode).next true (if (dh fs xs root S n cur p mode).made=true then made+1 else made) (aV fs xs root ((dh fs xs root S n cur p mode).n+1) (dh fs xs root S n cur p mode).S (eu cur)).2.code i:=
  (if_pos h).trans ((if_pos ho).trans (if_neg h2))
theorem Bn (h:(dh fs xs root S n cur p mode).code=0) (ho:¬ own=true):gI fs xs root mode (p::r) i S n cur own made=gI fs xs root mode r (i+1) (dh fs xs root S n cur p mode).S (dh fs xs root S n cur p mode).n (dh fs xs root S n cur p mode).next true (if (dh fs xs root S n cur p mode).made=true then made+1 else made):=
  (if_pos h).trans (if_neg ho)
theorem Es {k:Nat} {bs:List UInt8}:(dK S k bs).2.2.us=S.us/\(dK S k bs).2.2.av=S.av:=by
  unfold dK;(repeat' split)<;>exact⟨rfl,rfl⟩
theorem QC {a:bP}:(cM S root a).2.us=S.us/\(cM S root a).2.av=S.av:=by
  unfold cM
  split
  ·exact⟨rfl,rfl⟩
  split
  ·exact⟨rfl,rfl⟩
  split
  ·split
   ·exact⟨rfl,rfl⟩
   unfold mJ
   split
   ·unfold ru;split
    ·exact Es
    exact⟨rfl,rfl⟩
   split
   ·unfold gS;split<;>exact⟨rfl,rfl⟩
   split
   ·unfold eV;(repeat' split)<;>exact⟨rfl,rfl⟩
   split
   ·unfold eF;(repeat' split)<;>exact⟨rfl,rfl⟩
   split
   ·unfold eZ;(repeat' split)<;>exact⟨rfl,rfl⟩
   split
   ·split
    ·exact⟨rfl,rfl⟩
    unfold bJ;(repeat' split)<;>exact⟨rfl,rfl⟩
   unfold kU;split
   ·exact⟨rfl,rfl⟩
   split
   ·exact⟨rfl,rfl⟩
   split
   ·exact⟨rfl,rfl⟩
   exact Es
  exact⟨rfl,rfl⟩
theorem tD:∀ {xs:List bP} {S:aG},(fB root S xs).us=S.us/\(fB root S xs).av=S.av
  | [],_=>⟨rfl,rfl⟩
  | a::r,S=>by
    have h1:=QC (S:=S) (root:=root) (a:=a)
    have h2:=tD (xs:=r) (S:=(cM S root a).2)
    exact⟨h2.1.trans h1.1,h2.2.trans h1.2⟩
theorem uW {c:ax} (h1:c.op≠1) (h9:c.op≠9):aV fs xs root n S c=bV (fB root S (bG xs n)) c\/∃ e,(e=180\/e=176)/\aV fs xs root n S c=(if c.op=13 then (bV (fB root S (bG xs n)) c).1 else fB root S (bG xs n),cQ c e):=by
  have hr:nM root c=c:=if_neg h1
  unfold aV
  rw [hr]
  unfold bE
  split
  ·exact .inr ⟨180,.inl rfl,rfl⟩
  split
  ·rename_i q;exact .inr ⟨176,.inr rfl,by rw [if_neg (by omega)]⟩
  split
  ·rename_i q;exact absurd q.2.1 h9
  exact .inl rfl
theorem Mc {O:ck} {us:Used Th} {need e:Int} (h':dS O us h name need=.error e):e≠0:=by
  unfold dS at h'
  (repeat' split at h')<;>(first|cases h'|skip)<;>decide
theorem Md {O:ck} {us:Used Th} {c:ax} {e:Int} (h':fH O us c=.error e):e≠0:=by
  unfold fH at h'
  split at h'
  ·rename_i h2;cases h';exact Mc h2
  split at h'
  ·cases h';decide
  cases h'
theorem GF {S2:aG} {c2:ax} (e:bV S (gF h name)=(S2,c2)) :
    (c2.code=0/\∃ t,c2.answer=least S.us/\S2.us=ins (least S.us) t S.us/\S2.av=max S.av ((S.us.length:Int)+1))\/(c2.code≠0/\c2.answer=0/\S2=S):=by
  unfold bV at e
  rw [sA (c:={ gF h name with answer:=0,code:=230 }) rfl] at e
  unfold fo at e
  split at e
  ·rename_i h1;cases e;exact .inr ⟨Md h1,rfl,rfl⟩
  split at e
  ·cases e;exact .inr ⟨by show (174:Int)≠0;decide,rfl,rfl⟩
  split at e
  ·cases e;exact .inr ⟨by show (173:Int)≠0;decide,rfl,rfl⟩
  rename_i t h1 h3 h2
  by_cases hl:(S.us.length:Int) < S.X.cH
  ·rw [jG hl] at e
   cases e
   exact .inl ⟨rfl,t,rfl,rfl,rfl⟩
  rw [kK hl] at e
  cases e
  exact .inr ⟨by show (130:Int)≠0;decide,rfl,rfl⟩
theorem z8 {S2:aG} {c2:ax} (e:aV fs xs root n S (gF h name)=(S2,c2)) :
    (c2.code=0/\∃ t,c2.answer=least S.us/\S2.us=ins (least S.us) t S.us/\S2.av=max S.av ((S.us.length:Int)+1))\/(c2.code≠0/\c2.answer=0/\S2.us=S.us/\S2.av=S.av):=by
  have hu:=tD (root:=root) (S:=S) (xs:=bG xs n)
  rcases uW (fs:=fs) (xs:=xs) (root:=root) (n:=n) (S:=S) (c:=gF h name) (by show (2:Int)≠1;decide) (by show (2:Int)≠9;decide) with h1|⟨k,hk,h1⟩
  ·rw [h1] at e
   rcases GF e with h|⟨h2,h3,h4⟩
   ·rw [hu.1,hu.2] at h;exact .inl h
   exact .inr ⟨h2,h3,by rw [h4];exact hu.1,by rw [h4];exact hu.2⟩
  rw [h1] at e
  cases e
  exact .inr ⟨by show k≠0;omega,rfl,hu.1,hu.2⟩
theorem GH {V:Type}:∀ (us:List (Int×V)) (h:Int),iC h (keys us)<=h+us.length
  | [],h=>by show h<=_;simp
  | p::r,h=>by
    show (if p.1=h then iC (h+1) (keys r) else h)<=_
    have:=GH r (h+1)
    rw [List.length_cons]
    split<;>omega
theorem GI (hI:Inv S) {S2:aG} {c2:ax} (e:aV fs xs root n S (gF h name)=(S2,c2)):(Lit.int .i64 c2.answer).wf=true:=by
  rcases z8 e with ⟨_,t,h1,_⟩|⟨_,h1,_⟩
  ·rw [h1]
   have a1:=GH S.us 1
   have a2:=(least_le hI.usr (fun x hx=>(hI.uf x hx).1)).1
   have a3:=hI.BX
   have a4:=hI.cH
   unfold aB.least at a2 ⊢
   exact WalkArith.wf_i64 (by omega)
  rw [h1];rfl
attribute [local irreducible] aV
section ways
variable {S1 S2 S3:aG} {c1 c2 c3:ax}
theorem Bo (e1:aV fs xs root (n+1) S (gF cur p)=(S1,c1)) (h1:c1.code=0):dh fs xs root S n cur p mode=⟨S1,n+1,c1.answer,false,0⟩:=by
  unfold dh;simp only [e1,if_pos h1]
theorem uD (e1:aV fs xs root (n+1) S (gF cur p)=(S1,c1)) (h1:¬ c1.code=0) (h2:¬ c1.code=170\/mode < 0):dh fs xs root S n cur p mode=⟨S1,n+1,0,false,c1.code⟩:=by
  unfold dh;simp only [e1,if_neg h1,if_pos h2]
theorem Et (e1:aV fs xs root (n+1) S (gF cur p)=(S1,c1)) (h1:¬ c1.code=0) (h2:¬ (¬ c1.code=170\/mode < 0)) (e2:aV fs xs root (n+2) S1 (yT cur p mode)=(S2,c2)) (h3:¬ c2.code=0/\¬ c2.code=171):dh fs xs root S n cur p mode=⟨S2,n+2,0,false,c2.code⟩:=by
  unfold dh;simp only [e1,e2,if_neg h1,if_neg h2,if_pos h3]
theorem wX (e1:aV fs xs root (n+1) S (gF cur p)=(S1,c1)) (h1:¬ c1.code=0) (h2:¬ (¬ c1.code=170\/mode < 0)) (e2:aV fs xs root (n+2) S1 (yT cur p mode)=(S2,c2)) (h3:¬ (¬ c2.code=0/\¬ c2.code=171)) (e3:aV fs xs root (n+3) S2 (gF cur p)=(S3,c3)) (h4:c3.code=0):dh fs xs root S n cur p mode=⟨S3,n+3,c3.answer,decide (c2.code=0),0⟩:=by
  unfold dh;simp only [e1,e2,e3,if_neg h1,if_neg h2,if_neg h3,if_pos h4]
theorem yV (e1:aV fs xs root (n+1) S (gF cur p)=(S1,c1)) (h1:¬ c1.code=0) (h2:¬ (¬ c1.code=170\/mode < 0)) (e2:aV fs xs root (n+2) S1 (yT cur p mode)=(S2,c2)) (h3:¬ (¬ c2.code=0/\¬ c2.code=171)) (e3:aV fs xs root (n+3) S2 (gF cur p)=(S3,c3)) (h4:¬ c3.code=0):dh fs xs root S n cur p mode=⟨S3,n+3,0,decide (c2.code=0),c3.code⟩:=by
  unfold dh;simp only [e1,e2,e3,if_neg h1,if_neg h2,if_neg h3,if_neg h4]
end ways
theorem GJ:(dh fs xs root S n cur p mode).n<=n+3:=by
  unfold dh
  simp only
  repeat' split
  all_goals (simp only;omega)
theorem Bp (hI:Inv S):Inv (dh fs xs root S n cur p mode).S:=by
  unfold dh
  simp only
  repeat' split
  all_goals first|exact hI.aV|exact hI.aV.aV|exact hI.aV.aV.aV
theorem QD:(Lit.int .i64 0).wf=true:=by decide
theorem I9 (hI:Inv S):(Lit.int .i64 (dh fs xs root S n cur p mode).next).wf=true:=by
  unfold dh
  simp only
  repeat' split
  all_goals first|exact GI hI rfl|exact GI hI.aV.aV rfl|exact QD
theorem Bq (e1:aV fs xs root (n+1) S (eu cur)=(S2,c2)) {code at_:Int}:mR fs xs root S n cur true made code at_=⟨S2,n+1,0,false,made,code,at_⟩:=by
  unfold mR;rw [if_pos rfl,e1]
theorem GK {code at_:Int}:mR fs xs root S n cur false made code at_=⟨S,n,0,false,made,code,at_⟩:=rfl
theorem Oo {d:List ByteArray}:∀ u∈ig d,u.oneCell'=true:=by
  intro u hu
  obtain⟨b,_,rfl⟩:=List.mem_map.1 hu
  rfl
theorem Me {d:List ByteArray}:(ig d).length=d.length:=by simp [ig]
def eU (β:Bs) (A:Option Addr) (ps:List ByteArray):Prop:=cW β A (ig ps)
variable {β β':Bs} {A:Option Addr} {ps:List ByteArray} {j:Nat}
theorem eU.le (h:eU β A ps) (hle:β.le β'):eU β' A ps:=cW.le h hle
theorem eU.get (h:eU β A ps) (hj:j < ps.length):A=some ⟨aE A,aD A,none⟩/\Rd β ⟨aE A,aD A+j * 1,none⟩ (.string (pc ps j)):=by
  have:=h j _ (wW hj)
  rw [Nat.mul_one]
  exact this
theorem eU.hd (h:eU β A ps) (hj:j < ps.length):A=some ⟨aE A,aD A,none⟩:=(h.get hj).1
theorem eU.rd (h:eU β A ps) (hj:j < ps.length):Rd β ⟨aE A,aD A+j * 1,none⟩ (.string (pc ps j)):=(h.get hj).2
end
end
end
section
open Go.RowKit Go.Maps
structure DB (ns:List aL) (i j:Nat):Prop where
  Sp:i < ns.length
  Eu:j < (nd ns i).ah.length
  dir:(nd ns (tgt ns (ent ns i j).id)).kind=2
section
variable {ns:List aL}
theorem tE {i m:Nat} {p:Nat×Nat}:p∈dO ns i m↔∃ j,j < m/\(nd ns (tgt ns (ent ns i j).id)).kind=2/\p=(tgt ns (ent ns i j).id,i):=by
  induction m with
  | zero=>simp [dO]
  | succ m ih=>
    by_cases h:(nd ns (tgt ns (ent ns i m).id)).kind=2
    ·rw [qo h,List.mem_cons,ih]
     refine⟨fun hp=>?_,fun ⟨j,hj,h1,h2⟩=>?_⟩
     ·rcases hp with rfl|⟨j,hj,h1,h2⟩
      ·exact⟨m,Nat.lt_succ_self m,h,rfl⟩
      exact⟨j,Nat.lt_succ_of_lt hj,h1,h2⟩
     rcases Nat.lt_succ_iff_lt_or_eq.1 hj with e|e
     ·exact .inr ⟨j,e,h1,h2⟩
     subst e;exact .inl h2
    rw [tY h,ih]
    refine⟨fun ⟨j,hj,h1⟩=>⟨j,Nat.lt_succ_of_lt hj,h1⟩,fun ⟨j,hj,h1,h2⟩=>?_⟩
    rcases Nat.lt_succ_iff_lt_or_eq.1 hj with e|e
    ·exact⟨j,e,h1,h2⟩
    subst e;exact absurd h1 h
theorem wY {m:Nat} {p:Nat×Nat}:p∈gi ns m↔∃ i j,i < m/\j < (nd ns i).ah.length/\(nd ns (tgt ns (ent ns i j).id)).kind=2/\p=(tgt ns (ent ns i j).id,i):=by
  induction m with
  | zero=>simp [gi]
  | succ m ih=>
    rw [gi,List.mem_append,tE,ih]
    refine⟨fun h=>?_,fun ⟨i,j,hi,hj,h1,h2⟩=>?_⟩
    ·rcases h with ⟨j,hj,h1,h2⟩|⟨i,j,hi,h⟩
     ·exact⟨m,j,Nat.lt_succ_self m,hj,h1,h2⟩
     exact⟨i,j,Nat.lt_succ_of_lt hi,h⟩
    rcases Nat.lt_succ_iff_lt_or_eq.1 hi with e|e
    ·exact .inr ⟨i,j,e,hj,h1,h2⟩
    subst e;exact .inl ⟨j,hj,h1,h2⟩
theorem DB.mem {i j:Nat} (h:DB ns i j):(tgt ns (ent ns i j).id,i)∈gi ns ns.length:=wY.2 ⟨i,j,h.Sp,h.Eu,h.dir,rfl⟩
def PN (ns:List aL) (m:Nat):Prop:=∀ i j i' j',DB ns i j->DB ns i' j'->i < m->i' < m->tgt ns (ent ns i j).id=tgt ns (ent ns i' j').id->i=i'/\j=j'
theorem Mf {i m:Nat} (h:((dO ns i m).map Prod.fst).Nodup):∀ j j',j < m->j' < m->(nd ns (tgt ns (ent ns i j).id)).kind=2->(nd ns (tgt ns (ent ns i j').id)).kind=2->tgt ns (ent ns i j).id=tgt ns (ent ns i j').id->j=j':=by
  induction m with
  | zero=>intro j j' hj;omega
  | succ m ih=>
    intro j j' hj hj' hk hk' e
    by_cases hm:(nd ns (tgt ns (ent ns i m).id)).kind=2
    ·rw [qo hm,List.map_cons,List.nodup_cons] at h
     rcases Nat.lt_succ_iff_lt_or_eq.1 hj with e1|e1
     ·rcases Nat.lt_succ_iff_lt_or_eq.1 hj' with e2|e2
      ·exact ih h.2 j j' e1 e2 hk hk' e
      subst e2;exact absurd (List.mem_map.2 ⟨_,tE.2 ⟨j,e1,hk,rfl⟩,e⟩) h.1
     rcases Nat.lt_succ_iff_lt_or_eq.1 hj' with e2|e2
     ·subst e1;exact absurd (List.mem_map.2 ⟨_,tE.2 ⟨j',e2,hk',rfl⟩,e.symm⟩) h.1
     omega
    rw [tY hm] at h
    rcases Nat.lt_succ_iff_lt_or_eq.1 hj with e1|e1
    ·rcases Nat.lt_succ_iff_lt_or_eq.1 hj' with e2|e2
     ·exact ih h j j' e1 e2 hk hk' e
     subst e2;exact absurd hk' hm
    subst e1;exact absurd hk hm
theorem Mg {m:Nat} (h:((gi ns m).map Prod.fst).Nodup):PN ns m:=by
  induction m with
  | zero=>intro i j i' j' _ _ hi;omega
  | succ m ih=>
    rw [gi,List.map_append] at h
    obtain⟨h1,h2,h3⟩:=List.nodup_append.1 h
    intro i j i' j' g g' hi hi' e
    rcases Nat.lt_succ_iff_lt_or_eq.1 hi with e1|e1
    ·rcases Nat.lt_succ_iff_lt_or_eq.1 hi' with e2|e2
     ·exact ih h2 i j i' j' g g' e1 e2 e
     subst e2
     exact absurd e.symm (h3 _ (List.mem_map.2 ⟨_,tE.2 ⟨j',g'.Eu,g'.dir,rfl⟩,rfl⟩) _ (List.mem_map.2 ⟨_,wY.2 ⟨i,j,e1,g.Eu,g.dir,rfl⟩,rfl⟩))
    rcases Nat.lt_succ_iff_lt_or_eq.1 hi' with e2|e2
    ·subst e1
     exact absurd e (h3 _ (List.mem_map.2 ⟨_,tE.2 ⟨j,g.Eu,g.dir,rfl⟩,rfl⟩) _ (List.mem_map.2 ⟨_,wY.2 ⟨i',j',e2,g'.Eu,g'.dir,rfl⟩,rfl⟩))
    subst e1;subst e2
    exact⟨rfl,Mf h1 j j' g.Eu g'.Eu g.dir g'.dir e⟩
def Ja (ns:List aL) (d:Nat->Nat):Prop:=∀ i j,DB ns i j->d i < d (tgt ns (ent ns i j).id)
theorem bS.uniq (h:bS ns):PN ns ns.length:=Mg h.nodup
theorem bS.deep (h:bS ns):∃ d,Ja ns d:=by
  refine⟨fun k=>Classical.choose (h.ends (nd ns k).id),fun i j g=>?_⟩
  have hp:=AB (ns:=ns) (Nat.le_refl _) h.ah
  have hat:=(h.ah i g.Sp j g.Eu).at_
  have htl:=nY hat
  have e1:=Classical.choose_spec (h.ends (nd ns i).id)
  have e2:=Classical.choose_spec (h.ends (nd ns (tgt ns (ent ns i j).id)).id)
  show Classical.choose (h.ends (nd ns i).id) < Classical.choose (h.ends (nd ns (tgt ns (ent ns i j).id)).id)
  generalize Classical.choose (h.ends (nd ns i).id)=x at e1 ⊢
  generalize Classical.choose (h.ends (nd ns (tgt ns (ent ns i j).id)).id)=y at e2 ⊢
  cases hu:up ((gi ns ns.length).map (jI ns)) (nd ns (tgt ns (ent ns i j).id)).id with
  | none=>
    have:=Iz hu
    exact absurd (List.mem_map.2 ⟨_,g.mem,rfl⟩) this
  | some z=>
    obtain⟨_,p,g1,g2,g3⟩:=IB h.rise htl.1 (fun p hp'=>(hp p hp').1) hu
    obtain⟨a,b,ha,hb,hk,rfl⟩:=wY.1 g1
    have g2:tgt ns (ent ns a b).id=tgt ns (ent ns i j).id:=g2
    obtain⟨rfl,rfl⟩:=h.uniq a b i j ⟨ha,hb,hk⟩ g ha g.Sp g2
    have g3:z=(nd ns a).id:=g3
    cases y with
    | zero=>
      have e2:up _ _=none:=e2
      rw [hu] at e2;cases e2
    | succ y=>
      obtain⟨z',h1,h2⟩:=e2
      rw [hu] at h1
      cases h1
      rw [g3] at h2
      have:=e1.uniq h2
      show x < y+1
      omega
end
end
section
open Go.RowKit Go.Maps bF aB
structure jT (X:FM):Prop where
  cN:0<=X.cN/\X.cN<=4096
  cB:0<=X.cB/\X.cB<=1099511627776
  cH:0<=X.cH/\X.cH<=1024
  now:ef X.cS X.cZ
def fU (n:aL):Nat:=n.id.toNat
def pV (n:aL):Th:=⟨fU n,n.kind⟩
def qc (n:aL):aT:=⟨n.id,n.mode,n.uid,n.gid,n.sec,n.nano,0,0,false,n.kind,n.data,n.target,[],none⟩
def E5:aT:=⟨0,0,0,0,0,0,0,0,false,0,[],⟨#[]⟩,[],none⟩
def iP (X:FM):aG:=⟨{ X with last:=0,ah:=0,used:=0 },fun _=>E5,[],[],0⟩
def cI (S:aG) (n:aL):aG:={ S with X:={ S.X with last:=n.id,used:=S.X.used+n.data.length },O:=aH S.O (fU n) (fun _=>qc n),idx:=ins n.id (pV n) S.idx }
def mE (ns:List aL) (e:j3):Th:=pV (nd ns (tgt ns e.id))
def lH (ns:List aL) (S:aG) (n:aL) (e:j3):aG:={ S with X:={ S.X with ah:=S.X.ah+1 },O:=pQ S.O (fU n) e.name (mE ns e) }
def tF (ns:List aL):Nat->Nat
  | 0=>0
  | k+1=>tF ns k+(nd ns k).data.length
def GL (ns:List aL):Used Th:=ns.map (fun n=>(n.id,pV n))
structure mT (X:FM) (ns:List aL) (k:Nat) (S:aG):Prop where
  inv:Inv0 S
  idx:S.idx=GL (ns.take k)
  us:S.us=[]
  av:S.av=0
  cap:S.X={ X with last:=mB ns k,ah:=0,used:=(tF ns k:Int) }
  ob:∀ a,a < k->obj S.O (fU (nd ns a))=qc (nd ns a)
  free:∀ x,(∀ a,a < k->x≠fU (nd ns a))->obj S.O x=E5
section base
variable {X:FM} {ns:List aL} {i j k a b:Nat} {S:aG}
theorem yX (h:bS ns) (hk:k < ns.length):(fU (nd ns k):Int)=(nd ns k).id:=by
  have:=h.ids k hk
  unfold fU;omega
theorem sN (h:bS ns) (ha:a < ns.length) (hb:b < ns.length) (e:fU (nd ns a)=fU (nd ns b)):a=b:=
  h.rise.inj ha hb (by rw [← yX h ha,← yX h hb,e])
theorem CB (hk:k < ns.length):ns[k]?=some (nd ns k):=getD_some hk
theorem QE (hk:k < ns.length):ns.take (k+1)=ns.take k++[nd ns k]:=by
  rw [List.take_add_one,CB hk];rfl
theorem Mh (hX:jT X):mT X ns 0 (iP X):=by
  refine⟨?_,rfl,rfl,rfl,rfl,fun a h=>absurd h (Nat.not_lt_zero a),fun _ _=>rfl⟩
  have hn:∀ t,¬ Live ([]:Used Th) t:=fun t h=>by cases h
  exact⟨hX.cN,hX.cB,hX.cH,hX.now,by show (0:Int)<=0/\(0:Int)<=_;omega,.nil,Nat.zero_le _,fun _ _ e=>(by cases e),fun t h=>absurd h (hn t),fun t h=>absurd h (hn t),fun t h=>absurd h (hn t),fun t h=>absurd h (hn t),
    fun _ _=>⟨rfl,rfl⟩,fun _ _=>rfl,⟨rfl,by show (0:Int)<=8192;omega⟩,fun t h=>absurd h (hn t),fun t h=>absurd h (hn t),fun t h=>absurd h (hn t),.nil,fun x hx=>(by cases hx),(by show ((0:Nat):Int)<=X.cH;have:=hX.cH;omega),⟨Int.le_refl _,hX.cH.1⟩,fun _ _ e=>(by cases e),fun t h=>absurd h (hn t),fun t h=>absurd h (hn t),⟨fun _=>0,fun k d e=>(by cases e)⟩,⟨rfl,by show (0:Int)<=_;omega⟩⟩
theorem Jb (h:bS ns) (hk:k < ns.length):∀ x∈keys (GL (ns.take k)),x < (nd ns k).id:=by
  intro x hx
  obtain⟨p,hp,rfl⟩:=List.mem_map.1 hx
  obtain⟨n,hn,rfl⟩:=List.mem_map.1 hp
  obtain⟨a,ha,e⟩:=List.mem_iff_getElem.1 hn
  rw [List.length_take] at ha
  rw [List.getElem_take] at e
  have e2:nd ns a=n:=by
    have:=CB (ns:=ns) (k:=a) (by omega)
    rw [List.getElem?_eq_getElem (by omega),e] at this
    exact (Option.some.inj this).symm
  rw [← e2]
  exact h.rise a k (by omega) hk
theorem Ev (hd:∀ i,i < ns.length->(nd ns i).data.length<=1048576) (hk:k<=ns.length):tF ns k<=1048576 * k:=by
  induction k with
  | zero=>exact Nat.le_refl _
  | succ k ih=>
    have h1:=ih (by omega)
    have h2:=hd k hk
    show tF ns k+(nd ns k).data.length<=_
    omega
theorem yY (h:bS ns) (hd:∀ i,i < ns.length->(nd ns i).data.length<=1048576) (hk:k < ns.length) (hB:mT X ns k S):mT X ns (k+1) (cI S (nd ns k)):=by
  have hs:=Ev hd (Nat.le_of_lt hk)
  have hn:=h.node k hk
  have hid:=yX h hk
  have Oq:=h.ids k hk
  have hu:S.X.used=(tF ns k:Int):=by rw [hB.cap]
  have hl:S.X.last=mB ns k:=by rw [hB.cap]
  have hlen:=h.len
  have hdk:=hd k hk
  have Xp:S.idx.length=k:=by
    rw [hB.idx];unfold GL;rw [List.length_map,List.length_take];omega
  have h1:=hB.inv.newAt (k0:=fU (nd ns k)) (o:=qc (nd ns k)) (kZ:=S.X.used+(nd ns k).data.length) (us':=S.us) (ia:=S.av) (by rw [hid,hl];exact h.last hk) (by rw [hid];exact Oq.2) ⟨rfl,by rw [hu];omega⟩ hid.symm
    (by have:=hn.kind;show (nd ns k).kind=1\/(nd ns k).kind=2\/(nd ns k).kind=3;omega) rfl rfl rfl rfl
    ⟨hn.mode,hn.uid,hn.gid,hn.time,fun e=>List.eq_nil_of_length_eq_zero (hn.data e),fun _=>rfl,hn.target⟩ (by omega)
    hB.inv.usr hB.inv.uf hB.inv.BX hB.inv.av (fun h t e=>⟨.inl (hB.inv.us h t e).1,(hB.inv.us h t e).2⟩) (fun _ _=>rfl) (by rw [hB.us];rfl)
  rw [hid] at h1
  refine⟨h1,?_,hB.us,hB.av,?_,fun a ha=>?_,fun x hx=>(show obj (aH S.O (fU (nd ns k)) fun _=>qc (nd ns k)) x=E5 from (cF (hx k (Nat.lt_succ_self k))).trans (hB.free x fun a ha=>hx a (Nat.lt_succ_of_lt ha)))⟩
  ·show ins (nd ns k).id (pV (nd ns k)) S.idx=_
   rw [hB.idx,Nt (Jb h hk),QE hk]
   unfold GL;rw [List.map_append];rfl
  ·show ({ S.X with last:=(nd ns k).id,used:=S.X.used+((nd ns k).data.length:Int) }:FM)=_
   rw [hu,hB.cap]
   show (⟨_,_,_,_,_,_,_,_⟩:FM)=⟨_,_,_,_,_,_,_,_⟩
   congr 1
  show obj (aH S.O (fU (nd ns k)) (fun _=>qc (nd ns k))) (fU (nd ns a))=_
  rcases Nat.lt_succ_iff_lt_or_eq.1 ha with e|e
  ·rw [cF (fun e2=>by have:=sN h (by omega) hk e2;omega)]
   exact hB.ob a e
  subst e;exact bR
theorem mT.fresh (h:bS ns) (hk:k < ns.length) (hB:mT X ns k S):ug S.O S.idx S.us (fU (nd ns k)):=hB.inv.Dn (by rw [yX h hk,hB.cap];exact h.last hk)
theorem mT.new (h:bS ns) (hk:k < ns.length) (hB:mT X ns k S):aB.get S.idx (nd ns k).id=none:=get_none.2 (fun hm=>by
  rw [hB.idx] at hm
  exact absurd (Jb h hk _ hm) (by omega))
theorem Br (X:FM) (L:HL):(∀ k,bN (iP X).O L k=bY.none)/\(∀ k,bO (iP X).O L k=bY.none)/\∀ k,cJ (iP X).O L k=bY.none:=⟨fun _=>if_pos rfl,fun _=>if_neg (by show ¬ (0:Int)=1;omega),fun _=>if_neg (by show ¬ (0:Int)=2;omega)⟩
theorem Sat.Uc {β:Bs} {l l':List HP} {w:World} {i j b m c:Nat} {ix:List Nat} {O:ck} {L L':HL} {A:Option Addr} {o:aT} (h:Sat β l w) (hL:L'=L.put k b m A c) (hp:l[i]?=some (.abs (ay (bO O L)))) (hq:l[j]?=some (.abs (aJ 5 1 A o.data.length c (cL o.data)))) (hd:nodupB (i::j::ix)=true) (hl:bT l ix=some l') (h1:o.kind=1):Sat β (.abs (ay (bO (aH O k (fun _=>o)) L'))::l') w:=by
  refine h.qL hp hq (fun _ _ h=>h) hd hl k (fun x hx=>by rw [ye hx,zw hL hx]) ?_
  rw [sW (by rw [bR];exact h1),bR]
  subst hL
  simp only [HL.put,if_true]
end base
theorem QF {O:ck} {L:HL} {d:Nat} {name:ByteArray} {t:Th}:bO (pQ O d name t) L=bO O L:=
  sZ (fun _=>AO (g:=aT.data) (fun _ _=>rfl) (fun _ _=>rfl) (fun _ _=>rfl)) (fun _=>yh)
def pW (ns:List aL) (i j a:Nat):Nat:=if a < i then (nd ns a).ah.length else if a=i then j else 0
def tG (ns:List aL) (a m:Nat):fS Th:=((nd ns a).ah.take m).map (fun e=>(e.name,mE ns e))
structure gy (X:FM) (ns:List aL) (i j:Nat) (S:aG):Prop where
  inv:Inv0 S
  idx:S.idx=GL ns
  us:S.us=[]
  av:S.av=0
  cap:S.X={ X with last:=mB ns ns.length,ah:=((fF ns i+j:Nat):Int),used:=(tF ns ns.length:Int) }
  ob:∀ a,a < ns.length->∃ l u,obj S.O (fU (nd ns a))={ qc (nd ns a) with links:=l,ah:=tG ns a (pW ns i j a),up:=u }
  free:∀ x,(∀ a,a < ns.length->x≠fU (nd ns a))->obj S.O x=E5
section ah
variable {X:FM} {ns:List aL} {i j k a b m:Nat} {S:aG} {t:Th}
theorem mT.ah (h:mT X ns ns.length S):gy X ns 0 0 S:=by
  refine⟨h.inv,by rw [h.idx,List.take_of_length_le (Nat.le_refl _)],h.us,h.av,h.cap,fun a ha=>⟨0,none,?_⟩,h.free⟩
  rw [h.ob a ha]
  have:pW ns 0 0 a=0:=by
    unfold pW;rw [if_neg (Nat.not_lt_zero a)];split<;>rfl
  rw [this];rfl
theorem gy.get (h:gy X ns i j S) (ha:a < ns.length):aB.get S.idx (nd ns a).id=some (pV (nd ns a)):=by
  refine oU h.inv.rise ?_
  rw [h.idx]
  exact List.mem_map.2 ⟨nd ns a,List.mem_of_getElem? (CB ha),rfl⟩
theorem gy.live (hG:bS ns) (h:gy X ns i j S) (ha:a < ns.length):Live S.idx (pV (nd ns a)):=by
  have:=h.get ha
  rw [← yX hG ha] at this
  exact this
theorem gy.of (h:gy X ns i j S) {x:Int} (e:aB.get S.idx x=some t):∃ a,a < ns.length/\t=pV (nd ns a):=by
  have hm:=get_mem e
  rw [h.idx] at hm
  obtain⟨n,hn,e2⟩:=List.mem_map.1 hm
  obtain⟨a,ha,e3⟩:=List.mem_iff_getElem.1 hn
  have e4:nd ns a=n:=by
    have:=CB ha
    rw [List.getElem?_eq_getElem ha,e3] at this
    exact (Option.some.inj this).symm
  cases e2
  exact⟨a,ha,by rw [e4]⟩
theorem Mi {es:List j3} {q:Nat} (hq:q < es.length):es[q]?=some (en es q):=getD_some hq
theorem wZ {e:ByteArray×Th} (h:e∈tG ns a m):∃ q,q < m/\q < (nd ns a).ah.length/\e.1=(ent ns a q).name/\e.2=mE ns (ent ns a q):=by
  obtain⟨x,hx,rfl⟩:=List.mem_map.1 h
  obtain⟨q,hq,e⟩:=List.mem_iff_getElem.1 hx
  rw [List.length_take] at hq
  rw [List.getElem_take] at e
  have e2:ent ns a q=x:=by
    have:=Mi (es:=(nd ns a).ah) (q:=q) (by omega)
    rw [List.getElem?_eq_getElem (by omega),e] at this
    exact (Option.some.inj this).symm
  exact⟨q,by omega,by omega,by rw [e2],by rw [e2]⟩
theorem Mj (hj:j < (nd ns i).ah.length):tG ns i (j+1)=tG ns i j++[((ent ns i j).name,mE ns (ent ns i j))]:=by
  unfold tG
  rw [List.take_add_one,Mi hj,List.map_append];rfl
theorem DC (hG:bS ns) (hi:i < ns.length) {q:Nat}:∀ {j},q < j->j < (nd ns i).ah.length->ox (ent ns i q).name (ent ns i j).name < 0
  | 0,h,_=>absurd h (Nat.not_lt_zero q)
  | j+1,h,hj=>by
    have h1:=s5.1 (hG.ah i hi (j+1) hj).ord
    have h1:ox (ent ns i j).name (ent ns i (j+1)).name < 0:=h1
    rcases Nat.lt_succ_iff_lt_or_eq.1 h with e|e
    ·exact BH (DC hG hi e (by omega)) (Int.le_of_lt h1)
    rw [e];exact h1
theorem Ot (hG:bS ns) (hi:i < ns.length) (hj:j < (nd ns i).ah.length):aU (ent ns i j).name (tG ns i j)=none:=by
  refine wG.2 (fun e he e1=>?_)
  obtain⟨q,h1,h2,h3,_⟩:=wZ he
  have:=DC hG hi h1 hj
  rw [← h3,e1] at this
  have h4:=D1 (ent ns i j).name
  omega
theorem Ew {n:ByteArray}:∀ {es:fS Th},(∀ e∈es,ox e.1 n < 0)->iq n t es=es++[(n,t)]
  | [],_=>rfl
  | e::r,h=>by
    have h1:=h e (List.mem_cons_self ..)
    unfold iq
    rw [if_neg (fun hc=>by have:=s5.1 hc;have:=xW e.1 n;omega),Ew (fun x hx=>h x (List.mem_cons_of_mem _ hx))];rfl
theorem Ou (hG:bS ns) (hi:i < ns.length) (hj:j < (nd ns i).ah.length):iq (ent ns i j).name (mE ns (ent ns i j)) (tG ns i j)=tG ns i (j+1):=by
  rw [Mj hj]
  refine Ew (fun e he=>?_)
  obtain⟨q,h1,_,h3,_⟩:=wZ he
  rw [h3]
  exact DC hG hi h1 hj
theorem vL (hG:bS ns) (hi:i < ns.length) (hj:j < (nd ns i).ah.length):tgt ns (ent ns i j).id < ns.length/\(nd ns (tgt ns (ent ns i j).id)).id=(ent ns i j).id:=by
  have:=nY (hG.ah i hi j hj).at_
  exact⟨this.1,this.2.1⟩
theorem DE {O:ck} {d x:Nat} {name:ByteArray} (h:t.k≠d):obj (pQ O d name t) x=if x=d then { obj O d with ah:=iq name t (obj O d).ah } else if x=t.k then { obj O x with links:=(obj O x).links+1,up:=if t.kind=2 then some d else (obj O x).up } else obj O x:=by
  have key:∀ O2:ck,O2=aH (aH O d (fun o=>{ o with ah:=iq name t o.ah })) t.k (fun o=>{ o with links:=o.links+1 })->obj (if t.kind=2 then aH O2 t.k (fun o=>{ o with up:=some d }) else O2) x=if x=d then { obj O d with ah:=iq name t (obj O d).ah } else if x=t.k then { obj O x with links:=(obj O x).links+1,up:=if t.kind=2 then some d else (obj O x).up } else obj O x:=by
    intro O2 e
    by_cases hk:t.kind=2
    ·rw [if_pos hk,if_pos hk,kP,e,kP,kP]
     by_cases e1:x=d
     ·subst e1;rw [if_neg (fun e=>h e.symm),if_neg (fun e=>h e.symm),if_pos rfl,if_pos rfl]
     by_cases e2:x=t.k
     ·rw [if_pos e2,if_pos e2,if_neg e1,if_neg e1,if_pos e2]
     rw [if_neg e2,if_neg e2,if_neg e1,if_neg e1,if_neg e2]
    rw [if_neg hk,if_neg hk,e,kP,kP]
    by_cases e1:x=d
    ·subst e1;rw [if_neg (fun e=>h e.symm),if_pos rfl,if_pos rfl]
    by_cases e2:x=t.k
    ·rw [if_pos e2,if_neg e1,if_neg e1,if_pos e2]
    rw [if_neg e2,if_neg e1,if_neg e1,if_neg e2]
  exact key _ rfl
theorem gy.VT (hG:bS ns) (h:gy X ns i j S) {d:Nat} (hd:Live S.idx ⟨d,2⟩) {n:ByteArray} (ha:a < ns.length) (hk:(nd ns a).kind=2) (hl:aU n (obj S.O d).ah=some (pV (nd ns a))):∃ b q,b < ns.length/\d=fU (nd ns b)/\DB ns b q/\tgt ns (ent ns b q).id=a:=by
  obtain⟨b,hb,e⟩:=h.of hd
  have e:(⟨d,2⟩:Th)=⟨fU (nd ns b),(nd ns b).kind⟩:=e
  have e1:d=fU (nd ns b):=congrArg Th.k e
  subst e1
  obtain⟨l,u,ho⟩:=h.ob b hb
  have hm:=mY hl
  rw [ho] at hm
  obtain⟨q,h1,h2,_,h4⟩:=wZ hm
  have ht:=vL hG hb h2
  have h5:fU (nd ns a)=fU (nd ns (tgt ns (ent ns b q).id)):=congrArg Th.k h4
  have h6:=sN hG ha ht.1 h5
  exact⟨b,q,hb,rfl,⟨hb,h2,by rw [← h6];exact hk⟩,h6.symm⟩
theorem gy.below (hG:bS ns) (h:gy X ns i j S) {dp:Nat->Nat} (hdp:Ja ns dp) {s k:Nat} (hb:kf S.O s k):∀ {a b},a < ns.length->k=fU (nd ns a)->b < ns.length->s=fU (nd ns b)->dp b<=dp a:=by
  induction hb with
  | here=>
    intro a b ha e1 hb e2
    have:=sN hG ha hb (by rw [← e1,← e2])
    rw [this];exact Nat.le_refl _
  | up hup _ ih=>
    intro a b ha e1 hb e2
    subst e1
    have hlv:=h.live hG ha
    obtain⟨h1,h2,n,h3⟩:=(h.inv.up _ hlv _).1 hup
    obtain⟨c,q,hc,e3,hD,e4⟩:=h.VT hG h2 ha h1 h3
    have h5:=hdp c q hD
    rw [e4] at h5
    have:=ih hc e3 hb e2
    omega
theorem gy.links (hG:bS ns) (h:gy X ns i j S) (hi:i < ns.length) (hj:j < (nd ns i).ah.length) (hk:(mE ns (ent ns i j)).kind=2):(obj S.O (mE ns (ent ns i j)).k).links=0:=by
  have ht:=vL hG hi hj
  have hlv:Live S.idx (mE ns (ent ns i j)):=h.live hG ht.1
  rw [h.inv.links _ hlv]
  cases hz:jA S.idx S.O (mE ns (ent ns i j)).k with
  | zero=>rfl
  | succ z=>
    exfalso
    obtain⟨x,u,hu,e,he,e1⟩:=BZ h.inv.rise (show 0 < jA S.idx S.O (mE ns (ent ns i j)).k by omega)
    obtain⟨b,hb,rfl⟩:=h.of hu
    obtain⟨l,u,ho⟩:=h.ob b hb
    have he:e∈(obj S.O (fU (nd ns b))).ah:=he
    rw [ho] at he
    obtain⟨q,h1,h2,_,h4⟩:=wZ he
    have ht2:=vL hG hb h2
    have h5:fU (nd ns (tgt ns (ent ns b q).id))=fU (nd ns (tgt ns (ent ns i j).id)):=by
      rw [h4] at e1;exact e1
    have h6:=sN hG ht2.1 ht.1 h5
    obtain⟨rfl,rfl⟩:=hG.uniq b q i j ⟨hb,h2,by rw [h6];exact hk⟩ ⟨hi,hj,hk⟩ hb hi h6
    unfold pW at h1
    rw [if_neg (Nat.lt_irrefl _),if_pos rfl] at h1
    omega
theorem gy.look (hG:bS ns) (h:gy X ns i j S) (hi:i < ns.length) (hj:j < (nd ns i).ah.length):(obj S.O (fU (nd ns i))).ah=tG ns i j/\aU (ent ns i j).name (obj S.O (fU (nd ns i))).ah=none/\(nd ns i).kind=2:=by
  obtain⟨l,u,ho⟩:=h.ob i hi
  have e1:(obj S.O (fU (nd ns i))).ah=tG ns i j:=by
    rw [ho]
    show tG ns i (pW ns i j i)=_
    unfold pW;rw [if_neg (Nat.lt_irrefl _),if_pos rfl]
  refine⟨e1,by rw [e1];exact Ot hG hi hj,?_⟩
  cases Decidable.em ((nd ns i).kind=2) with
  | inl h=>exact h
  | inr h=>have:=(hG.node i hi).ah h;omega
theorem gy.gone (h:gy X ns i j S) (ha:a < ns.length):(obj S.O (fU (nd ns a))).gone=false:=by
  obtain⟨l,u,ho⟩:=h.ob a ha
  rw [ho];rfl
theorem gy.ne (hG:bS ns) (hi:i < ns.length) (hj:j < (nd ns i).ah.length) (hk:(nd ns i).kind=2):(mE ns (ent ns i j)).k≠fU (nd ns i):=fun e=>by
  have ht:=vL hG hi hj
  have h1:=sN hG ht.1 hi e
  obtain⟨dp,hdp⟩:=hG.deep
  have:=hdp i j ⟨hi,hj,by rw [h1];exact hk⟩
  rw [h1] at this
  exact Nat.lt_irrefl _ this
theorem gy.step (hG:bS ns) (h:gy X ns i j S) (hi:i < ns.length) (hj:j < (nd ns i).ah.length):gy X ns i (j+1) (lH ns S (nd ns i) (ent ns i j)):=by
  obtain⟨l1,l2,l3⟩:=h.look hG hi hj
  have ht:=vL hG hi hj
  have hne:=gy.ne hG hi hj l3
  have hld:Live S.idx ⟨fU (nd ns i),2⟩:=by
    have:=h.live hG hi
    unfold pV at this
    rw [l3] at this
    exact this
  have hlt:Live S.idx (mE ns (ent ns i j)):=h.live hG ht.1
  have hX:S.X.ah=((fF ns i+j:Nat):Int):=by rw [h.cap]
  have hsum:fF ns i+j < 8192:=by
    have h1:fF ns (i+1)<=fF ns ns.length:=uS hi
    have h2:fF ns (i+1)=fF ns i+(nd ns i).ah.length:=rfl
    have h3:=hG.sum
    omega
  have h1:=h.inv.put (O':=pQ S.O (fU (nd ns i)) (ent ns i j).name (mE ns (ent ns i j))) (ta:=(obj S.O (fU (nd ns i))).sec) (tb:=(obj S.O (fU (nd ns i))).nano) hld (h.gone hi) l2 (hG.ah i hi j hj).good hlt (h.gone ht.1) (fun hk=>⟨h.links hG hi hj hk,fun hb=>by
      obtain⟨dp,hdp⟩:=hG.deep
      have h2:=h.below hG hdp hb hi rfl ht.1 rfl
      have h3:=hdp i j ⟨hi,hj,hk⟩
      omega⟩) hne (by rw [hX];omega) (h.inv.mt _ hld).time (fun x=>DE hne)
  refine⟨h1,h.idx,h.us,h.av,?_,fun a ha=>?_,fun x hx=>(DE hne).trans (by rw [if_neg (hx i hi),if_neg (show ¬ x=(mE ns (ent ns i j)).k from hx _ ht.1)];exact h.free x hx)⟩
  ·show ({ S.X with ah:=S.X.ah+1 }:FM)=_
   rw [hX,h.cap]
   show (⟨_,_,_,_,_,_,_,_⟩:FM)=⟨_,_,_,_,_,_,_,_⟩
   congr 1
  obtain⟨l,u,ho⟩:=h.ob a ha
  show ∃ l u,obj (pQ S.O (fU (nd ns i)) (ent ns i j).name (mE ns (ent ns i j))) (fU (nd ns a))=_
  rw [DE hne]
  by_cases e:a=i
  ·subst e
   refine⟨l,u,?_⟩
   rw [if_pos rfl,l1,Ou hG hi hj,ho]
   have hc:pW ns a (j+1) a=j+1:=by unfold pW;rw [if_neg (Nat.lt_irrefl _),if_pos rfl]
   rw [hc]
  have hc:pW ns i (j+1) a=pW ns i j a:=by
    unfold pW;rw [if_neg e,if_neg e]
  rw [if_neg (fun e2=>e (sN hG ha hi e2)),hc]
  split
  ·rw [ho];exact⟨_,_,rfl⟩
  exact⟨l,u,ho⟩
theorem gy.next (h:gy X ns i (nd ns i).ah.length S):gy X ns (i+1) 0 S:=by
  refine⟨h.inv,h.idx,h.us,h.av,h.cap,fun a ha=>?_,h.free⟩
  obtain⟨l,u,ho⟩:=h.ob a ha
  refine⟨l,u,?_⟩
  rw [ho]
  have:pW ns (i+1) 0 a=pW ns i (nd ns i).ah.length a:=by
    unfold pW
    by_cases e:a=i
    ·subst e;rw [if_pos (by omega),if_neg (by omega),if_pos rfl]
    by_cases e2:a < i
    ·rw [if_pos (by omega),if_pos e2]
    rw [if_neg (by omega),if_neg e2,if_neg e];split<;>rfl
  rw [this]
theorem gy.full (h:gy X ns i j S):Inv S:=by
  refine⟨h.inv,fun t ht hg=>?_⟩
  obtain⟨a,ha,rfl⟩:=h.of ht
  have:(obj S.O (fU (nd ns a))).gone=true:=hg
  rw [h.gone ha] at this
  cases this
end ah
end
section
open Go.RowKit Go.Maps bF aB
noncomputable def dg (X:FM) (ns:List aL) (root:Int):Int:=
  open Classical in
  if jT X then if bS ns then
    match ns.find? (fun n=>decide (n.id=root)) with
    | none=>141
    | some n=>if n.kind=2 then 0 else 173
  else 140 else 179
def tH (ns:List aL) (root:Int) (i:Nat):Prop:=i < ns.length/\(nd ns i).id=root/\∀ q,q < i->(nd ns q).id≠root
section n
variable {X:FM} {ns:List aL} {root:Int} {i:Nat}
theorem Ov (ns:List aL) (root:Int):(∃ i,tH ns root i)\/∀ q,q < ns.length->(nd ns q).id≠root:=by
  have key:∀ n,n<=ns.length->(∃ i,tH ns root i)\/∀ q,q < n->(nd ns q).id≠root:=fun n=>by
    induction n with
    | zero=>exact fun _=>.inr fun q h=>absurd h (Nat.not_lt_zero q)
    | succ n ih=>
      intro h
      rcases ih (by omega) with h1|h1
      ·exact .inl h1
      by_cases e:(nd ns n).id=root
      ·exact .inl ⟨n,by omega,e,h1⟩
      exact .inr fun q hq=>(Nat.lt_succ_iff_lt_or_eq.1 hq).elim (h1 q) (fun e2=>e2 ▸ e)
  exact key _ (Nat.le_refl _)
theorem CC (h:tH ns root i):ns.find? (fun n=>decide (n.id=root))=some (nd ns i):=by
  obtain⟨h1,h2,h3⟩:=h
  rw [List.find?_eq_some_iff_getElem]
  have e:=getD_some (x:=default) h1
  have e2:ns[i]=nd ns i:=by rw [List.getElem?_eq_getElem h1] at e;exact Option.some.inj e
  refine⟨by simpa using h2,i,h1,e2,fun j hj=>?_⟩
  have e3:ns[j]=nd ns j:=by
    have:=getD_some (x:=default) (show j < ns.length by omega)
    rw [List.getElem?_eq_getElem (by omega)] at this;exact Option.some.inj this
  rw [e3]
  simpa using h3 j hj
theorem Mk (h:∀ q,q < ns.length->(nd ns q).id≠root):ns.find? (fun n=>decide (n.id=root))=none:=by
  rw [List.find?_eq_none]
  intro n hn
  obtain⟨q,hq,e⟩:=List.mem_iff_getElem.1 hn
  have e3:ns[q]=nd ns q:=by
    have:=getD_some (x:=default) hq
    rw [List.getElem?_eq_getElem hq] at this;exact Option.some.inj this
  rw [← e,e3]
  simpa using h q hq
theorem CD (h:¬ jT X):dg X ns root=179:=if_neg h
theorem yZ (h:jT X) (h2:¬ bS ns):dg X ns root=140:=(if_pos h).trans (if_neg h2)
theorem Ab (h:jT X) (h2:bS ns) (h3:∀ q,q < ns.length->(nd ns q).id≠root):dg X ns root=141:=(if_pos h).trans ((if_pos h2).trans (by rw [Mk h3]))
theorem CG (h:jT X) (h2:bS ns) (h3:tH ns root i) (h4:(nd ns i).kind=2):dg X ns root=0:=(if_pos h).trans ((if_pos h2).trans (by rw [CC h3];exact if_pos h4))
theorem CH (h:jT X) (h2:bS ns) (h3:tH ns root i) (h4:¬ (nd ns i).kind=2):dg X ns root=173:=(if_pos h).trans ((if_pos h2).trans (by rw [CC h3];exact if_neg h4))
theorem Ey (h:dg X ns root=0):jT X/\bS ns:=by
  by_cases h1:jT X
  ·by_cases h2:bS ns
   ·exact⟨h1,h2⟩
   rw [yZ h1 h2] at h;exact absurd h (by decide)
  rw [CD h1] at h;exact absurd h (by decide)
end n
end
section
open Go.RowKit Go.Maps bF aB
attribute [local irreducible] ak aR af aj
noncomputable abbrev tI (b:Nat) (root):=(.blk b [vI (root)] 3:HP)
theorem Ow {β:Bs} (b:Nat) (root z:Int) (v1 v2 v3 v4 v5 v6 v7 v8 v9:Value) :
    Spec Tryz.prog β 50 #[.agg #[vI (z),v1,v2,v3,v4,v5,v6,v7,v8,v9],vP b] [tI b root] (fun v l=>v=.bool (decide (z=root))/\l=[tI b root]):=by
 refine Spec.enter Tryz.func50 rfl Tryz.ntmps50 (Nat.le_of_ble_eq_true rfl) (fun R=>?_)
 refine SR (gN 2 (fun b1=>[(2,vP b1)]) (fun _=>[]) (fun _=>[]) (fun b1=>.blk b1 [vI (z),v1,v2,v3,v4,v5,v6,v7,v8,v9] 108) (fun b1=>?_))
 refine NS (gK 5 [(3,.bool (decide ((z:Int)=(root:Int))))] [(1,a_ 2 b1),(2,a_ 0 b)] ?_)
 refine NN (af.ret ?_)
 exact RT (.bool (decide ((z:Int)=(root:Int)))) [0,1] (⟨rfl,rfl⟩)
theorem GN {β:Bs} (A:Option Addr) (c:Nat) (ns:List aL) (Y:Lay) (hG:aI β A ns Y) (hl:ns.length<=1048576) (b:Nat) (root:Int) :
    Spec Tryz.prog β 49 #[.slice A (ns.length) (c),.func (.func 50) #[] #[vP b]] [tI b root] (fun v l=>(∃ i:Nat,tH ns root i/\v=vI (i:Int)/\l=[tI b root])\/((∀ q,q < ns.length->(nd ns q).id≠root)/\v=vI (-1)/\l=[tI b root])):=by
 refine Spec.enter Tryz.func49 rfl Tryz.ntmps49 (Nat.le_of_ble_eq_true rfl) (fun R=>?_)
 refine SR (gK 1 [] [] ?_)
 refine NN (af.seq (SR (gK 3 [(7,vI ↑ns.length),(8,vI 0)] [] ?_)))
 refine NN (af.block ?_)
 refine af.loop (ι:=Nat) (fun (i:Nat)=>(i<=ns.length)/\(∀ q,q < i->(nd ns q).id≠root)) (fun (i:Nat)=>ns.length - i) (fun (i:Nat)=>[(0,.slice A (ns.length) (c)),(1,.func (.func 50) #[] #[vP b]),(7,vI ↑ns.length),(8,vI ↑i)]) (fun (i:Nat)=>[tI b root,.abs R]) 0 (idx:=[0,1,7,8]) (pk:=[0,1]) (show (0<=ns.length)/\(∀ q,q < 0->(nd ns q).id≠root) from ⟨Nat.zero_le _,fun q h=>absurd h (Nat.not_lt_zero q)⟩) (fun _=>by kernel_rfl) rfl (by kernel_rfl) ?_
 rintro i ⟨hi,hlt⟩
 show af _ _ _ _ [(0,.slice A (ns.length) (c)),(1,.func (.func 50) #[] #[vP b]),(7,vI ↑ns.length),(8,vI ↑i)] [tI b root,.abs R] _
 refine SR (gK 1 [(9,.bool (decide ((((i:Nat):Int):Int) < (((ns.length:Nat):Int):Int))))] [] ?_)
 refine NN (af.seq (af.bh (p:=(((i:Nat):Int):Int) < (((ns.length:Nat):Int):Int)) (fun _=>by kernel_rfl) (fun h9=>?_) (fun h9=>?_)))
 ·refine af.skip (NX (af.seq (af.block (SR ?_))))
  refine gK 2 [(5,vI ↑i)] [] ?_
  refine NS (gK 5 [(11,.func (.func 50) #[] #[vP b]),(15,.agg #[vI ((nd ns i).id),vI ((nd ns i).kind),vI ((nd ns i).mode),vI ((nd ns i).uid),vI ((nd ns i).gid),vI ((nd ns i).sec),vI ((nd ns i).nano),.slice (Y.dA i) ((nd ns i).data.length) ((Y.dC i)),.string (nd ns i).target,.slice (Y.eA i) ((nd ns i).ah.length) ((Y.eC i))])] [(3,p_ ⟨[],some i,none,some ⟨(aE A),aD A,none⟩,none⟩ [((i:Nat):Int)=((i:Nat):Int),i < ns.length,(⟨(aE A),aD A,none⟩:Addr).spot=none,(A:Option Addr)=some ⟨(aE A),aD A,none⟩] ⟨rfl,by omega,rfl,aI.hd hG (i:=i) (by omega),trivial⟩),(4,p_ ⟨[.old (.int .i64 ((nd ns i).id)),.old (.int .i64 ((nd ns i).kind)),.old (.int .i64 ((nd ns i).mode)),.old (.int .i64 ((nd ns i).uid)),.old (.int .i64 ((nd ns i).gid)),.old (.int .i64 ((nd ns i).sec)),.old (.int .i64 ((nd ns i).nano)),.old (.slice (Y.dA i) ((nd ns i).data.length) ((Y.dC i))),.old (.string (nd ns i).target),.old (.slice (Y.eA i) ((nd ns i).ah.length) ((Y.eC i)))],none,none,none,none⟩ [(Rd β ⟨(aE A),aD A+i * 10+9,none⟩ (.slice (Y.eA i) ((nd ns i).ah.length) ((Y.eC i)))),(Rd β ⟨(aE A),aD A+i * 10+8,none⟩ (.string (nd ns i).target)),(Rd β ⟨(aE A),aD A+i * 10+7,none⟩ (.slice (Y.dA i) ((nd ns i).data.length) ((Y.dC i)))),(Rd β ⟨(aE A),aD A+i * 10+6,none⟩ (.int .i64 ((nd ns i).nano))),(Rd β ⟨(aE A),aD A+i * 10+5,none⟩ (.int .i64 ((nd ns i).sec))),(Rd β ⟨(aE A),aD A+i * 10+4,none⟩ (.int .i64 ((nd ns i).gid))),(Rd β ⟨(aE A),aD A+i * 10+3,none⟩ (.int .i64 ((nd ns i).uid))),(Rd β ⟨(aE A),aD A+i * 10+2,none⟩ (.int .i64 ((nd ns i).mode))),(Rd β ⟨(aE A),aD A+i * 10+1,none⟩ (.int .i64 ((nd ns i).kind))),(Rd β ⟨(aE A),aD A+i * 10,none⟩ (.int .i64 ((nd ns i).id)))] ⟨aI.rd hG (i:=i) (by omega) (j:=9) rfl,aI.rd hG (i:=i) (by omega) (j:=8) rfl,aI.rd hG (i:=i) (by omega) (j:=7) rfl,aI.rd hG (i:=i) (by omega) (j:=6) rfl,aI.rd hG (i:=i) (by omega) (j:=5) rfl,aI.rd hG (i:=i) (by omega) (j:=4) rfl,aI.rd hG (i:=i) (by omega) (j:=3) rfl,aI.rd hG (i:=i) (by omega) (j:=2) rfl,aI.rd hG (i:=i) (by omega) (j:=1) rfl,aI.rd hG (i:=i) (by omega) (j:=0) rfl,trivial⟩)] ?_)
  refine gL [0] (Ow b root ((nd ns i).id) (.int .i64 ((nd ns i).kind)) (.int .i64 ((nd ns i).mode)) (.int .i64 ((nd ns i).uid)) (.int .i64 ((nd ns i).gid)) (.int .i64 ((nd ns i).sec)) (.int .i64 ((nd ns i).nano)) (.slice (Y.dA i) ((nd ns i).data.length) ((Y.dC i))) (.string (nd ns i).target) (.slice (Y.eA i) ((nd ns i).ah.length) ((Y.eC i)))) ?_
  rintro _ _ ⟨rfl,rfl⟩
  refine NN (af.bh (p:=(nd ns i).id=root) (fun _=>by kernel_rfl) (fun vr=>?_) (fun vr=>?_))
  ·refine SR (gK 2 [(4,vI ↑i)] [] ?_)
   refine NN (af.ret (aj.aF (aj.aq (aj.aq (aj.aF (aj.aq ?_))))))
   exact RT (vI ↑i) [0,1] (.inl ⟨i,⟨by omega,vr,hlt⟩,rfl,rfl⟩)
  refine af.skip (aj.aQ (NX (af.region ?_)))
  refine gK 2 [(8,vI ↑(i+1))] [(0,p_ ⟨[],none,none,none,some (vI ↑(i+1))⟩ [(Value.int .i64 (IntKind.wrap .i64 (((i:Nat):Int)+1)))=(.int .i64 ↑(i+1))] ⟨aY (by omega) (by omega) (by omega),trivial⟩)] ?_
  refine NL ?_
  exact aj.turn ((i+1)) (idx:=[0,1,7,8]) (pk:=[0,1]) (show (((i+1))<=ns.length)/\(∀ q,q < ((i+1))->(nd ns q).id≠root) from ⟨by omega,fun q hq=>(Nat.lt_succ_iff_lt_or_eq.1 hq).elim (hlt q) (fun e=>e ▸ vr)⟩) (by show ns.length - ((i+1)) < ns.length - i;omega) (fun _=>by kernel_rfl) rfl (by kernel_rfl)
 refine af.exit (aj.br (aj.br (aj.dM (NX (SR ?_)))))
 refine gK 1 [(4,vI (-1))] [] ?_
 refine NN (af.ret ?_)
 exact RT (vI (-1)) [0,1] (.inr ⟨fun q hq=>hlt q (by omega),rfl,rfl⟩)
theorem Sq {β:Bs} (b:Nat) :
    Spec Tryz.prog β 51 #[.iface 39 (vP b)] [] (fun v l=>v=.agg #[.iface 39 (vP b)]/\l=[]):=by
 refine Spec.enter Tryz.func51 rfl Tryz.ntmps51 (Nat.le_of_ble_eq_true rfl) (fun R=>?_)
 refine SR (gN 1 (fun b2=>[(2,vP b2)]) (fun _=>[]) (fun _=>[]) (fun b2=>.blk b2 [.nilIface] 48) (fun b2=>?_))
 refine NS (gC 3 [] [(2,a_ 1 b2)] [(1,[(0,.iface 39 (vP b))])] ?_)
 refine NN (af.ret ?_)
 exact aj.ret (v:=.agg #[.iface 39 (vP b)]) (l:=[]) (aZ:=[b2=b2]) [.at 1] [0] (fun _=>by kernel_rfl) ⟨rfl,trivial⟩ rfl (by kernel_rfl) (⟨rfl,rfl⟩)
end
section
open Go.RowKit Go.Maps bF aB
attribute [local irreducible] ak aR af aj
abbrev lP (t)(S:aG) (L:HL):=(pT t S.X.cH S.av L S.us:HP)
abbrev o6 (m:Nat) (L:HL) (S:aG) (cb:Nat) (c) (R:bY):=([pI m L S.idx,pD S.O L,pE S.O L,pC cb c,.abs R]:List HP)
abbrev PO (f:Nat) (c:ax):=([(8,vP f),(12,vI (c.handle)),(16,.string c.name)]:Fr)
abbrev GP (L:HL) (d:Nat):=([(5,vP (L.b d)),(6,vI 0)]:Fr)
abbrev St (f:Nat) (L:HL) (d:Nat) (c:ax):=([(23,vP f),(24,vP (L.b d)),(28,.string c.name)]:Fr)
abbrev qd (f:Nat) (m:Nat) (t) (S:aG) (L:HL):=([pF f m t S.X,lP t S L,pO S.O L]:List HP)
abbrev Ml (e):=([(5,.pointer none),(6,vI (e))]:Fr)
theorem jl {β:Bs} (S:aG) (L:HL) (f m t:Nat) (hI:Inv S) (cb:Nat) (c:ax) (hC:gT β c) :
    Spec Tryz.prog β 188 #[vP f,vP cb] ((pA f m t L S)++[pC cb c]) (fun v l=>v=VD L (fH S.O S.us c)/\l=((pA f m t L S)++[pC cb c])):=by
 refine Spec.enter Tryz.func188 rfl Tryz.ntmps188 (Nat.le_of_ble_eq_true rfl) (fun R=>?_)
 refine SR (gK 2 [] [] ?_)
 refine NN (af.seq (af.bI (by kernel_rfl) (by kernel_rfl) ?_))
 refine gQ 9 [(10,vP f),(14,vI (c.handle)),(18,.string c.name)] [(4,a_ 6 cb),(8,a_ 6 cb)] ?_
 rcases mD hI.toInv0 c.handle c.name 64 with ⟨e,hab,hne⟩|⟨d,hab,hd,jB,hgn,dL⟩
 ·refine aR.call (f:=189) (args:=#[vP f,vI (c.handle),.string c.name,vI 64]) (d:=(some 19)) (pre:=(qd f m t S L)) (R:=(o6 m L S cb c R)) (pk:=[0,2,3,1,4,5,6,7]) (ij:=[0,3,1,2,4,5,6,7]) (v0:=.tuple #[.pointer none,vI (e)]) (fun _=>by kernel_rfl) ((by have h:=eT S L f m t hI c.handle hC.hw c.name hC.nm 64 (β:=β);rw [hab] at h;exact h)) rfl (by kernel_rfl) rfl (by kernel_rfl) (fun _ _ h=>h) ?_
  refine gQ 5 [(6,.pointer none),(7,vI (e))] [] ?_
  refine NQ (NX (af.seq (SR ?_)))
  refine gK 2 [(23,.bool (!(decide ((e:Int)=(0:Int)))))] [] ?_
  refine NN (af.dx (p:=(e:Int)=(0:Int)) (fun _=>by kernel_rfl) (fun h23=>?_) (fun h23=>?_))
  ·refine SR (gK 3 [(4,.nilIface),(5,vI (e))] [] ?_)
   refine NN (af.ret (aj.aq ?_))
   exact RT (.tuple #[.nilIface,vI (e)]) [0,1,2,3,4,5,6,7] (⟨by rw [show fH S.O S.us c=.error e by unfold fH;rw [hab]];rfl,rfl⟩)
  exact absurd h23 hne
 have hkd:(obj S.O d).kind=2:=hI.kind hd
 refine aR.call (f:=189) (args:=#[vP f,vI (c.handle),.string c.name,vI 64]) (d:=(some 19)) (pre:=(qd f m t S L)) (R:=(o6 m L S cb c R)) (pk:=[0,2,3,1,4,5,6,7]) (ij:=[0,3,1,2,4,5,6,7]) (v0:=.tuple #[vP (L.b d),vI 0]) (fun _=>by kernel_rfl) ((by have h:=eT S L f m t hI c.handle hC.hw c.name hC.nm 64 (β:=β);rw [hab] at h;exact h)) rfl (by kernel_rfl) rfl (by kernel_rfl) (fun _ _ h=>h) ?_
 refine gQ 5 [(6,vP (L.b d)),(7,vI 0)] [] ?_
 refine NQ (NX (af.seq (SR ?_)))
 refine gK 2 [(23,.bool false)] [] ?_
 refine NN (CF (af.skip (NX (af.seq ?_))))
 have hel:(obj S.O d).ah.length<=8192:=hI.ic hd
 have Ud:=hC.nm
 rcases hI.mQ hd c.name with hlk|⟨tk,hlk,hlv⟩|⟨tk,hlk,hlv⟩|⟨tk,hlk,hlv⟩
 ·refine af.bI (by kernel_rfl) (by kernel_rfl) ?_
  refine gQ 8 [(28,.map (some (L.m d))),(32,.string c.name)] [(3,v_ 3 (bH L hkd)),(7,a_ 6 cb)] ?_
  refine rS 5 hkd hlk ?_
  refine gQ 1 [(8,.nilIface)] [] ?_
  refine NQ (NX (af.seq (SR ?_)))
  refine gK 2 [(35,.bool true)] [] ?_
  refine NN (CT (SR (gK 2 [(4,.nilIface),(5,vI 170)] [] ?_)))
  refine NN (af.ret (aj.aq ?_))
  exact RT (.tuple #[.nilIface,vI 170]) [0,1,2,3,4,5,6,7] (⟨by rw [show fH S.O S.us c=.error 170 by unfold fH;rw [hab];simp only;rw [hlk]];rfl,rfl⟩)
 ·have hkt:(obj S.O tk).kind=1:=hI.kind hlv
  refine af.bI (by kernel_rfl) (by kernel_rfl) ?_
  refine gQ 8 [(28,.map (some (L.m d))),(32,.string c.name)] [(3,v_ 3 (bH L hkd)),(7,a_ 6 cb)] ?_
  refine rS 5 hkd hlk ?_
  refine gQ 1 [(8,.iface 162 (vP (L.b tk)))] [] ?_
  refine NQ (NX (af.seq (SR ?_)))
  refine gK 2 [(35,.bool false)] [] ?_
  refine NN (CF (af.skip (NX (SR (gK 3 [(4,.iface 162 (vP (L.b tk))),(5,vI 0)] [] ?_)))))
  refine NN (af.ret ?_)
  exact RT (.tuple #[.iface 162 (vP (L.b tk)),vI 0]) [0,1,2,3,4,5,6,7] (⟨by rw [show fH S.O S.us c=.ok ⟨tk,1⟩ by unfold fH;rw [hab];simp only;rw [hlk]];rfl,rfl⟩)
 ·have hkt:(obj S.O tk).kind=2:=hI.kind hlv
  refine af.bI (by kernel_rfl) (by kernel_rfl) ?_
  refine gQ 8 [(28,.map (some (L.m d))),(32,.string c.name)] [(3,v_ 3 (bH L hkd)),(7,a_ 6 cb)] ?_
  refine rS 5 hkd hlk ?_
  refine gQ 1 [(8,.iface 169 (vP (L.b tk)))] [] ?_
  refine NQ (NX (af.seq (SR ?_)))
  refine gK 2 [(35,.bool false)] [] ?_
  refine NN (CF (af.skip (NX (SR (gK 3 [(4,.iface 169 (vP (L.b tk))),(5,vI 0)] [] ?_)))))
  refine NN (af.ret ?_)
  exact RT (.tuple #[.iface 169 (vP (L.b tk)),vI 0]) [0,1,2,3,4,5,6,7] (⟨by rw [show fH S.O S.us c=.ok ⟨tk,2⟩ by unfold fH;rw [hab];simp only;rw [hlk]];rfl,rfl⟩)
 have hkt:(obj S.O tk).kind=3:=hI.kind hlv
 refine af.bI (by kernel_rfl) (by kernel_rfl) ?_
 refine gQ 8 [(28,.map (some (L.m d))),(32,.string c.name)] [(3,v_ 3 (bH L hkd)),(7,a_ 6 cb)] ?_
 refine rS 5 hkd hlk ?_
 refine gQ 1 [(8,.iface 166 (vP (L.b tk)))] [] ?_
 refine NQ (NX (af.seq (SR ?_)))
 refine gK 2 [(35,.bool false)] [] ?_
 refine NN (CF (af.skip (NX (SR (gK 3 [(4,.iface 166 (vP (L.b tk))),(5,vI 0)] [] ?_)))))
 refine NN (af.ret ?_)
 exact RT (.tuple #[.iface 166 (vP (L.b tk)),vI 0]) [0,1,2,3,4,5,6,7] (⟨by rw [show fH S.O S.us c=.ok ⟨tk,3⟩ by unfold fH;rw [hab];simp only;rw [hlk]];rfl,rfl⟩)
theorem Kp {β:Bs} (S:aG) (L:HL) (f m t:Nat) (hI:Inv S) (cb:Nat) (c:ax) (hC:gT β c) :
    Spec Tryz.prog β 172 #[vP f,vP cb] ((pA f m t L S)++[pC cb c]) (fun v l=>∃ L2,v=vI (jC S c).1/\l=((pA f m t L2 ((jC S c).2.1))++[.blk cb (cC ((jC S c).2.2)) 88])):=by
 have hX:=hI.hX
 refine Spec.enter Tryz.func172 rfl Tryz.ntmps172 (Nat.le_of_ble_eq_true rfl) (fun R=>?_)
 refine SR (gK 1 [] [] ?_)
 refine NN (af.seq ?_)
 rcases hI.RH c.other with hix|⟨tk,hix,hlv⟩|⟨tk,hix,hlv⟩|⟨tk,hix,hlv⟩
 ·refine af.bI (by kernel_rfl) (by kernel_rfl) ?_
  refine gQ 8 [(10,.map (some m)),(14,vI (c.other))] [(3,a_ 0 f),(7,a_ 6 cb)] ?_
  refine aR.eP 1 (d:=(some 15)) (t:=151) (K:=3) (E:=156) (b:=m) (n:=S.idx.length) (f:=(bg (bn L S.idx))) (x:=(.tmp 10)) (ix:=(.tmp 14)) (key:=.int .i64 (c.other)) (z:=.nilIface) (kl:=(.int .i64 c.other)) (r:=none) (fun _=>by kernel_rfl) (by kernel_rfl) (fun _=>by kernel_rfl) (fun _=>by kernel_rfl) eE Tryz.underlying151 (fun _=>by kernel_rfl) (iR hC.ow) (by rw [fP,hix];rfl) ?_
  refine gQ 1 [(5,.nilIface)] [] ?_
  refine NQ (NX (af.seq (SR ?_)))
  refine gK 2 [(17,.bool true)] [] ?_
  refine NN (CT (SR (gK 1 [(4,vI 141)] [] ?_)))
  refine NN (af.ret (aj.aq ?_))
  exact RT (vI 141) [0,1,2,3,4,5,6,7] (⟨L,by rw [show (jC S c)=(141,S,c) by unfold jC;rw [hix]]<;>exact⟨rfl,rfl⟩⟩)
 ·have hkt:(obj S.O tk).kind=1:=hI.kind hlv
  refine af.bI (by kernel_rfl) (by kernel_rfl) ?_
  refine gQ 8 [(10,.map (some m)),(14,vI (c.other))] [(3,a_ 0 f),(7,a_ 6 cb)] ?_
  refine aR.eP 1 (d:=(some 15)) (t:=151) (K:=3) (E:=156) (b:=m) (n:=S.idx.length) (f:=(bg (bn L S.idx))) (x:=(.tmp 10)) (ix:=(.tmp 14)) (key:=.int .i64 (c.other)) (z:=.nilIface) (kl:=(.int .i64 c.other)) (r:=(some (dR L ⟨tk,1⟩))) (fun _=>by kernel_rfl) (by kernel_rfl) (fun _=>by kernel_rfl) (fun _=>by kernel_rfl) eE Tryz.underlying151 (fun _=>by kernel_rfl) (iR hC.ow) (by rw [fP,hix];rfl) ?_
  refine gQ 1 [(5,.iface 162 (vP (L.b tk)))] [] ?_
  refine NQ (NX (af.seq (SR ?_)))
  refine gK 2 [(17,.bool false)] [] ?_
  refine NN (CF (af.skip (NX (af.seq (SR (gK 1 [(18,.iface 162 (vP (L.b tk)))] [] ?_))))))
  refine gL [] (nj (vP (L.b tk))) ?_
  rintro _ _ ⟨rfl,rfl⟩
  refine gK 1 [(20,.bool true)] [] ?_
  refine NN (CT (SR (gK 1 [(4,vI 173)] [] ?_)))
  refine NN (af.ret (aj.aq ?_))
  exact RT (vI 173) [0,1,2,3,4,5,6,7] (⟨L,by rw [show (jC S c)=(173,S,c) by unfold jC;rw [hix];exact if_neg (by simp)]<;>exact⟨rfl,rfl⟩⟩)
 ·have hkt:(obj S.O tk).kind=2:=hI.kind hlv
  refine af.bI (by kernel_rfl) (by kernel_rfl) ?_
  refine gQ 8 [(10,.map (some m)),(14,vI (c.other))] [(3,a_ 0 f),(7,a_ 6 cb)] ?_
  refine aR.eP 1 (d:=(some 15)) (t:=151) (K:=3) (E:=156) (b:=m) (n:=S.idx.length) (f:=(bg (bn L S.idx))) (x:=(.tmp 10)) (ix:=(.tmp 14)) (key:=.int .i64 (c.other)) (z:=.nilIface) (kl:=(.int .i64 c.other)) (r:=(some (dR L ⟨tk,2⟩))) (fun _=>by kernel_rfl) (by kernel_rfl) (fun _=>by kernel_rfl) (fun _=>by kernel_rfl) eE Tryz.underlying151 (fun _=>by kernel_rfl) (iR hC.ow) (by rw [fP,hix];rfl) ?_
  refine gQ 1 [(5,.iface 169 (vP (L.b tk)))] [] ?_
  refine NQ (NX (af.seq (SR ?_)))
  refine gK 2 [(17,.bool false)] [] ?_
  refine NN (CF (af.skip (NX (af.seq (SR (gK 1 [(18,.iface 169 (vP (L.b tk)))] [] ?_))))))
  refine gL [] (nk (vP (L.b tk))) ?_
  rintro _ _ ⟨rfl,rfl⟩
  refine gK 1 [(20,.bool false)] [] ?_
  refine NN (CF (af.skip (NX (SR (gK 1 [] [] ?_)))))
  refine NS (gK 3 [(22,vP cb),(23,vP f),(24,.iface 169 (vP (L.b tk)))] [] ?_)
  refine gL [0,2,3] (tB S L f m t ⟨tk,2⟩ hkt (by simp) (by have:=hI.Eb hlv;simp only at this ⊢;omega)) ?_
  rintro _ _ ⟨rfl,rfl⟩
  refine gC 7 [(6,vI ((cD S ⟨tk,2⟩).2.1))] [(5,a_ 6 cb)] [(6,[(12,vI ((cD S ⟨tk,2⟩).1))])] ?_
  refine NS (ak.dN [(4,.abs (ay (bO ((cD S ⟨tk,2⟩).2.2.O) L))),(5,.abs (ay (cJ ((cD S ⟨tk,2⟩).2.2.O) L)))] (fun w hS=>by rw [Bb,Bc];exact hS) ?_)
  refine gK 2 [(4,vI ((cD S ⟨tk,2⟩).2.1))] [] ?_
  refine NN (af.ret ?_)
  exact RT (vI ((cD S ⟨tk,2⟩).2.1)) [0,3,1,2,4,5,6,7] (⟨L,by rw [show (jC S c)=((cD S ⟨tk,2⟩).2.1,(cD S ⟨tk,2⟩).2.2,{ c with answer:=(cD S ⟨tk,2⟩).1 }) by unfold jC;rw [hix];exact if_pos rfl]<;>exact⟨rfl,rfl⟩⟩)
 have hkt:(obj S.O tk).kind=3:=hI.kind hlv
 refine af.bI (by kernel_rfl) (by kernel_rfl) ?_
 refine gQ 8 [(10,.map (some m)),(14,vI (c.other))] [(3,a_ 0 f),(7,a_ 6 cb)] ?_
 refine aR.eP 1 (d:=(some 15)) (t:=151) (K:=3) (E:=156) (b:=m) (n:=S.idx.length) (f:=(bg (bn L S.idx))) (x:=(.tmp 10)) (ix:=(.tmp 14)) (key:=.int .i64 (c.other)) (z:=.nilIface) (kl:=(.int .i64 c.other)) (r:=(some (dR L ⟨tk,3⟩))) (fun _=>by kernel_rfl) (by kernel_rfl) (fun _=>by kernel_rfl) (fun _=>by kernel_rfl) eE Tryz.underlying151 (fun _=>by kernel_rfl) (iR hC.ow) (by rw [fP,hix];rfl) ?_
 refine gQ 1 [(5,.iface 166 (vP (L.b tk)))] [] ?_
 refine NQ (NX (af.seq (SR ?_)))
 refine gK 2 [(17,.bool false)] [] ?_
 refine NN (CF (af.skip (NX (af.seq (SR (gK 1 [(18,.iface 166 (vP (L.b tk)))] [] ?_))))))
 refine gL [] (oC (vP (L.b tk))) ?_
 rintro _ _ ⟨rfl,rfl⟩
 refine gK 1 [(20,.bool true)] [] ?_
 refine NN (CT (SR (gK 1 [(4,vI 173)] [] ?_)))
 refine NN (af.ret (aj.aq ?_))
 exact RT (vI 173) [0,1,2,3,4,5,6,7] (⟨L,by rw [show (jC S c)=(173,S,c) by unfold jC;rw [hix];exact if_neg (by simp)]<;>exact⟨rfl,rfl⟩⟩)
theorem EL {β:Bs} (S:aG) (L:HL) (f m t:Nat) (hI:Inv S) (cb:Nat) (c:ax) (hC:gT β c) :
    Spec Tryz.prog β 173 #[vP f,vP cb] ((pA f m t L S)++[pC cb c]) (fun v l=>∃ L2,v=vI (fo S c).1/\l=((pA f m t L2 ((fo S c).2.1))++[.blk cb (cC ((fo S c).2.2)) 88])):=by
 have hX:=hI.hX
 refine Spec.enter Tryz.func173 rfl Tryz.ntmps173 (Nat.le_of_ble_eq_true rfl) (fun R=>?_)
 refine SR (gK 1 [] [] ?_)
 refine NS (gK 2 [(8,vP f),(9,vP cb)] [] ?_)
 rcases Ch hI.toInv0 c with ⟨e,hnm,hne⟩|⟨tk,hnm,hlv⟩|⟨tk,hnm,hlv⟩|⟨tk,hnm,hlv⟩
 ·refine gL (f:=188) (args:=#[vP f,vP cb]) (pre:=((pA f m t L S)++[pC cb c])) [0,1,2,3,4,5,6] ((by have h:=jl S L f m t hI cb c hC (β:=β);rw [hnm] at h;exact h)) ?_
  rintro _ _ ⟨rfl,rfl⟩
  refine gK 5 [(5,.nilIface),(6,vI (e))] [] ?_
  refine NN (af.seq (SR (gK 2 [(14,.bool (!(decide ((e:Int)=(0:Int)))))] [] ?_)))
  refine NN (af.dx (p:=(e:Int)=(0:Int)) (fun _=>by kernel_rfl) (fun jN=>?_) (fun jN=>?_))
  ·refine SR (gK 2 [(4,vI (e))] [] ?_)
   refine NN (af.ret (aj.aq ?_))
   exact RT (vI (e)) [0,1,2,3,4,5,6,7] (⟨L,by rw [show (fo S c)=(e,S,c) by unfold fo;rw [hnm]]<;>exact⟨rfl,rfl⟩⟩)
  exact absurd jN hne
 ·have hkt:(obj S.O tk).kind=1:=hI.kind hlv
  refine gL (f:=188) (args:=#[vP f,vP cb]) (pre:=((pA f m t L S)++[pC cb c])) [0,1,2,3,4,5,6] ((by have h:=jl S L f m t hI cb c hC (β:=β);rw [hnm] at h;exact h)) ?_
  rintro _ _ ⟨rfl,rfl⟩
  refine gK 5 [(5,.iface 162 (vP (L.b tk))),(6,vI 0)] [] ?_
  refine NN (af.seq (SR (gK 2 [(14,.bool false)] [] ?_)))
  refine NN (CF (af.skip (NX (af.seq (SR (gK 1 [(16,.iface 162 (vP (L.b tk)))] [] ?_))))))
  refine NN (af.block (SR ?_))
  refine gK 3 [(18,.bool false)] [] ?_
  refine NN (CF (SR (gK 3 [(21,.bool true)] [] ?_)))
  refine NN (CT (SR (gK 1 [(4,vI 173)] [] ?_)))
  refine NN (af.ret (aj.aF (aj.aq ?_)))
  exact RT (vI 173) [0,1,2,3,4,5,6,7] (⟨L,by rw [show (fo S c)=(173,S,c) by unfold fo;rw [hnm];exact (if_neg (by simp)).trans (if_pos rfl)]<;>exact⟨rfl,rfl⟩⟩)
 ·have hkt:(obj S.O tk).kind=2:=hI.kind hlv
  refine gL (f:=188) (args:=#[vP f,vP cb]) (pre:=((pA f m t L S)++[pC cb c])) [0,1,2,3,4,5,6] ((by have h:=jl S L f m t hI cb c hC (β:=β);rw [hnm] at h;exact h)) ?_
  rintro _ _ ⟨rfl,rfl⟩
  refine gK 5 [(5,.iface 169 (vP (L.b tk))),(6,vI 0)] [] ?_
  refine NN (af.seq (SR (gK 2 [(14,.bool false)] [] ?_)))
  refine NN (CF (af.skip (NX (af.seq (SR (gK 1 [(16,.iface 169 (vP (L.b tk)))] [] ?_))))))
  refine NN (af.block (SR ?_))
  refine gK 3 [(18,.bool false)] [] ?_
  refine NN (CF (SR (gK 3 [(21,.bool false)] [] ?_)))
  refine NN (CF (af.skip (aj.aQ (NX (SR ?_)))))
  refine gK 3 [(24,vP cb),(25,vP f),(26,.iface 169 (vP (L.b tk)))] [] ?_
  refine gL [0,2,3] (tB S L f m t ⟨tk,2⟩ hkt (by simp) (by have:=hI.Eb hlv;simp only at this ⊢;omega)) ?_
  rintro _ _ ⟨rfl,rfl⟩
  refine gC 7 [(6,vI ((cD S ⟨tk,2⟩).2.1))] [(5,a_ 6 cb)] [(6,[(12,vI ((cD S ⟨tk,2⟩).1))])] ?_
  refine NS (ak.dN [(4,.abs (ay (bO ((cD S ⟨tk,2⟩).2.2.O) L))),(5,.abs (ay (cJ ((cD S ⟨tk,2⟩).2.2.O) L)))] (fun w hS=>by rw [Bb,Bc];exact hS) ?_)
  refine gK 2 [(4,vI ((cD S ⟨tk,2⟩).2.1))] [] ?_
  refine NN (af.ret ?_)
  exact RT (vI ((cD S ⟨tk,2⟩).2.1)) [0,3,1,2,4,5,6,7] (⟨L,by rw [show (fo S c)=((cD S ⟨tk,2⟩).2.1,(cD S ⟨tk,2⟩).2.2,{ c with answer:=(cD S ⟨tk,2⟩).1 }) by unfold fo;rw [hnm];exact (if_neg (by simp)).trans (if_neg (by simp))]<;>exact⟨rfl,rfl⟩⟩)
 have hkt:(obj S.O tk).kind=3:=hI.kind hlv
 refine gL (f:=188) (args:=#[vP f,vP cb]) (pre:=((pA f m t L S)++[pC cb c])) [0,1,2,3,4,5,6] ((by have h:=jl S L f m t hI cb c hC (β:=β);rw [hnm] at h;exact h)) ?_
 rintro _ _ ⟨rfl,rfl⟩
 refine gK 5 [(5,.iface 166 (vP (L.b tk))),(6,vI 0)] [] ?_
 refine NN (af.seq (SR (gK 2 [(14,.bool false)] [] ?_)))
 refine NN (CF (af.skip (NX (af.seq (SR (gK 1 [(16,.iface 166 (vP (L.b tk)))] [] ?_))))))
 refine NN (af.block (SR ?_))
 refine gK 3 [(18,.bool true)] [] ?_
 refine NN (CT (SR (gK 1 [(4,vI 174)] [] ?_)))
 refine NN (af.ret (aj.aF (aj.aq ?_)))
 exact RT (vI 174) [0,1,2,3,4,5,6,7] (⟨L,by rw [show (fo S c)=(174,S,c) by unfold fo;rw [hnm];exact if_pos rfl]<;>exact⟨rfl,rfl⟩⟩)
theorem DF {β:Bs} (S:aG) (L:HL) (f m t:Nat) (hI:Inv S) (cb:Nat) (c:ax) (hC:gT β c) :
    Spec Tryz.prog β 174 #[vP f,vP cb] ((pA f m t L S)++[pC cb c]) (fun v l=>∃ L2,v=vI (fA S c).1/\l=((pA f m t L2 ((fA S c).2.1))++[.blk cb (cC ((fA S c).2.2)) 88])):=by
 have hX:=hI.hX
 refine Spec.enter Tryz.func174 rfl Tryz.ntmps174 (Nat.le_of_ble_eq_true rfl) (fun R=>?_)
 refine SR (gK 1 [] [] ?_)
 refine NS (gK 2 [(8,vP f),(9,vP cb)] [] ?_)
 rcases Ch hI.toInv0 c with ⟨e,hnm,hne⟩|⟨tk,hnm,hlv⟩|⟨tk,hnm,hlv⟩|⟨tk,hnm,hlv⟩
 ·refine gL (f:=188) (args:=#[vP f,vP cb]) (pre:=((pA f m t L S)++[pC cb c])) [0,1,2,3,4,5,6] ((by have h:=jl S L f m t hI cb c hC (β:=β);rw [hnm] at h;exact h)) ?_
  rintro _ _ ⟨rfl,rfl⟩
  refine gK 5 [(5,.nilIface),(6,vI (e))] [] ?_
  refine NN (af.seq (SR (gK 2 [(14,.bool (!(decide ((e:Int)=(0:Int)))))] [] ?_)))
  refine NN (af.dx (p:=(e:Int)=(0:Int)) (fun _=>by kernel_rfl) (fun jN=>?_) (fun jN=>?_))
  ·refine SR (gK 2 [(4,vI (e))] [] ?_)
   refine NN (af.ret (aj.aq ?_))
   exact RT (vI (e)) [0,1,2,3,4,5,6,7] (⟨L,by rw [show (fA S c)=(e,S,c) by unfold fA;rw [hnm]]<;>exact⟨rfl,rfl⟩⟩)
  exact absurd jN hne
 ·have hkt:(obj S.O tk).kind=1:=hI.kind hlv
  refine gL (f:=188) (args:=#[vP f,vP cb]) (pre:=((pA f m t L S)++[pC cb c])) [0,1,2,3,4,5,6] ((by have h:=jl S L f m t hI cb c hC (β:=β);rw [hnm] at h;exact h)) ?_
  rintro _ _ ⟨rfl,rfl⟩
  refine gK 5 [(5,.iface 162 (vP (L.b tk))),(6,vI 0)] [] ?_
  refine NN (af.seq (SR (gK 2 [(14,.bool false)] [] ?_)))
  refine NN (CF (af.skip (NX (af.seq (SR (gK 1 [(16,.iface 162 (vP (L.b tk)))] [] ?_))))))
  refine NN (af.block (SR ?_))
  refine gK 3 [(18,.bool false)] [] ?_
  refine NN (CF (SR (gK 3 [(21,.bool false)] [] ?_)))
  refine NN (CF (af.skip (aj.aQ (NX (SR ?_)))))
  refine gK 3 [(24,vP cb),(25,vP f),(26,.iface 162 (vP (L.b tk)))] [] ?_
  refine gL [0,2,3] (tB S L f m t ⟨tk,1⟩ hkt (by simp) (by have:=hI.Eb hlv;simp only at this ⊢;omega)) ?_
  rintro _ _ ⟨rfl,rfl⟩
  refine gC 7 [(6,vI ((cD S ⟨tk,1⟩).2.1))] [(5,a_ 6 cb)] [(6,[(12,vI ((cD S ⟨tk,1⟩).1))])] ?_
  refine NS (ak.dN [(4,.abs (ay (bO ((cD S ⟨tk,1⟩).2.2.O) L))),(5,.abs (ay (cJ ((cD S ⟨tk,1⟩).2.2.O) L)))] (fun w hS=>by rw [Bb,Bc];exact hS) ?_)
  refine gK 2 [(4,vI ((cD S ⟨tk,1⟩).2.1))] [] ?_
  refine NN (af.ret ?_)
  exact RT (vI ((cD S ⟨tk,1⟩).2.1)) [0,3,1,2,4,5,6,7] (⟨L,by rw [show (fA S c)=((cD S ⟨tk,1⟩).2.1,(cD S ⟨tk,1⟩).2.2,{ c with answer:=(cD S ⟨tk,1⟩).1 }) by unfold fA;rw [hnm];exact (if_neg (by simp)).trans (if_neg (by simp))]<;>exact⟨rfl,rfl⟩⟩)
 ·have hkt:(obj S.O tk).kind=2:=hI.kind hlv
  refine gL (f:=188) (args:=#[vP f,vP cb]) (pre:=((pA f m t L S)++[pC cb c])) [0,1,2,3,4,5,6] ((by have h:=jl S L f m t hI cb c hC (β:=β);rw [hnm] at h;exact h)) ?_
  rintro _ _ ⟨rfl,rfl⟩
  refine gK 5 [(5,.iface 169 (vP (L.b tk))),(6,vI 0)] [] ?_
  refine NN (af.seq (SR (gK 2 [(14,.bool false)] [] ?_)))
  refine NN (CF (af.skip (NX (af.seq (SR (gK 1 [(16,.iface 169 (vP (L.b tk)))] [] ?_))))))
  refine NN (af.block (SR ?_))
  refine gK 3 [(18,.bool false)] [] ?_
  refine NN (CF (SR (gK 3 [(21,.bool true)] [] ?_)))
  refine NN (CT (SR (gK 1 [(4,vI 172)] [] ?_)))
  refine NN (af.ret (aj.aF (aj.aq ?_)))
  exact RT (vI 172) [0,1,2,3,4,5,6,7] (⟨L,by rw [show (fA S c)=(172,S,c) by unfold fA;rw [hnm];exact (if_neg (by simp)).trans (if_pos rfl)]<;>exact⟨rfl,rfl⟩⟩)
 have hkt:(obj S.O tk).kind=3:=hI.kind hlv
 refine gL (f:=188) (args:=#[vP f,vP cb]) (pre:=((pA f m t L S)++[pC cb c])) [0,1,2,3,4,5,6] ((by have h:=jl S L f m t hI cb c hC (β:=β);rw [hnm] at h;exact h)) ?_
 rintro _ _ ⟨rfl,rfl⟩
 refine gK 5 [(5,.iface 166 (vP (L.b tk))),(6,vI 0)] [] ?_
 refine NN (af.seq (SR (gK 2 [(14,.bool false)] [] ?_)))
 refine NN (CF (af.skip (NX (af.seq (SR (gK 1 [(16,.iface 166 (vP (L.b tk)))] [] ?_))))))
 refine NN (af.block (SR ?_))
 refine gK 3 [(18,.bool true)] [] ?_
 refine NN (CT (SR (gK 1 [(4,vI 174)] [] ?_)))
 refine NN (af.ret (aj.aF (aj.aq ?_)))
 exact RT (vI 174) [0,1,2,3,4,5,6,7] (⟨L,by rw [show (fA S c)=(174,S,c) by unfold fA;rw [hnm];exact if_pos rfl]<;>exact⟨rfl,rfl⟩⟩)
theorem Ii {β:Bs} (S:aG) (L:HL) (f m t:Nat) (hI:Inv S) (cb:Nat) (c:ax) (hC:gT β c) :
    Spec Tryz.prog β 175 #[vP f,vP cb] ((pA f m t L S)++[pC cb c]) (fun v l=>∃ L2,v=vI (gj S c).1/\l=((pA f m t L2 ((gj S c).2.1))++[.blk cb (cC ((gj S c).2.2)) 88])):=by
 have hX:=hI.hX
 refine Spec.enter Tryz.func175 rfl Tryz.ntmps175 (Nat.le_of_ble_eq_true rfl) (fun R=>?_)
 refine SR (gK 1 [] [] ?_)
 refine NN (af.seq (af.bI (by kernel_rfl) (by kernel_rfl) ?_))
 refine gQ 9 (PO f c) [(4,a_ 6 cb),(8,a_ 6 cb)] ?_
 rcases mD hI.toInv0 c.handle c.name 192 with ⟨e,hab,hne⟩|⟨d,hab,hd,jB,hgn,dL⟩
 ·refine aR.call (f:=189) (args:=#[vP f,vI (c.handle),.string c.name,vI 192]) (d:=(some 17)) (pre:=(qd f m t S L)) (R:=(o6 m L S cb c R)) (pk:=[0,2,3,1,4,5,6,7]) (ij:=[0,3,1,2,4,5,6,7]) (v0:=.tuple #[.pointer none,vI (e)]) (fun _=>by kernel_rfl) ((by have h:=eT S L f m t hI c.handle hC.hw c.name hC.nm 192 (β:=β);rw [hab] at h;exact h)) rfl (by kernel_rfl) rfl (by kernel_rfl) (fun _ _ h=>h) ?_
  refine gQ 5 (Ml e) [] ?_
  refine NQ (NX (af.seq (SR ?_)))
  refine gK 2 [(21,.bool (!(decide ((e:Int)=(0:Int)))))] [] ?_
  refine NN (af.dx (p:=(e:Int)=(0:Int)) (fun _=>by kernel_rfl) (fun vK=>?_) (fun vK=>?_))
  ·refine SR (gK 2 [(4,vI (e))] [] ?_)
   refine NN (af.ret (aj.aq ?_))
   exact RT (vI (e)) [0,1,2,3,4,5,6,7] (⟨L,by rw [show (gj S c)=(e,S,c) by unfold gj;rw [hab]]<;>exact⟨rfl,rfl⟩⟩)
  exact absurd vK hne
 have hkd:(obj S.O d).kind=2:=hI.kind hd
 refine aR.call (f:=189) (args:=#[vP f,vI (c.handle),.string c.name,vI 192]) (d:=(some 17)) (pre:=(qd f m t S L)) (R:=(o6 m L S cb c R)) (pk:=[0,2,3,1,4,5,6,7]) (ij:=[0,3,1,2,4,5,6,7]) (v0:=.tuple #[vP (L.b d),vI 0]) (fun _=>by kernel_rfl) ((by have h:=eT S L f m t hI c.handle hC.hw c.name hC.nm 192 (β:=β);rw [hab] at h;exact h)) rfl (by kernel_rfl) rfl (by kernel_rfl) (fun _ _ h=>h) ?_
 refine gQ 5 (GP L d) [] ?_
 refine NQ (NX (af.seq (SR ?_)))
 refine gK 2 [(21,.bool false)] [] ?_
 refine NN (CF (af.skip (NX (af.seq (SR (gK 4 [(26,vI (c.mode))] [(3,a_ 6 cb)] ?_))))))
 refine gL [] (gE (c.mode) 4095) ?_
 rintro _ _ ⟨rfl,rfl⟩
 refine gK 1 [(28,.bool (!(decide (0<=c.mode/\c.mode<=4095))))] [] ?_
 refine NN (af.dx (p:=0<=c.mode/\c.mode<=4095) (fun _=>by kernel_rfl) (fun Jc=>?_) (fun Jc=>?_))
 ·refine SR (gK 1 [(4,vI 120)] [] ?_)
  refine NN (af.ret (aj.aq ?_))
  exact RT (vI 120) [0,1,2,3,4,5,6,7] (⟨L,by rw [show (gj S c)=(120,S,c) by unfold gj;rw [hab];exact if_neg Jc]<;>exact⟨rfl,rfl⟩⟩)
 refine af.skip (NX (af.seq (af.bU (S:=[pC cb c]) [0,1,2,3,4,5,6,7,8,9,10,11] 10 [6] (by kernel_rfl) (by kernel_rfl) rfl (by kernel_rfl) ?_)))
 refine gR 0 [10,11] [(29,vP f),(30,vP (L.b d)),(34,.string c.name),(38,vI (c.mode))] [0,1,2,3,4,5,6,7,8,9] [(5,a_ 0 cb),(9,a_ 0 cb)] ?_
 refine mL [6] [0,1,2,3,4,5] (Ek S L f m t hI d hd c.name hC.nm c.mode) ?_ (by rintro _ _ ⟨L2,rfl,rfl⟩;rfl)
 rintro _ _ ⟨L2,rfl,rfl⟩
 refine aO.last rfl rfl ?_
 refine gK 1 [(4,vI ((gS S d c.name c.mode).1))] [] ?_
 refine NL (aj.np (NX (af.ret ?_)))
 exact RT (vI ((gS S d c.name c.mode).1)) [0,1,2,3,4,5,6,7] (⟨L2,by rw [show (gj S c)=((gS S d c.name c.mode).1,(gS S d c.name c.mode).2,c) by unfold gj;rw [hab];exact if_pos Jc]<;>exact⟨rfl,rfl⟩⟩)
theorem EM {β:Bs} (S:aG) (L:HL) (f m t:Nat) (hI:Inv S) (cb:Nat) (c:ax) (hC:gT β c) :
    Spec Tryz.prog β 177 #[vP f,vP cb] ((pA f m t L S)++[pC cb c]) (fun v l=>∃ L2,v=vI (gD S c).1/\l=((pA f m t L2 ((gD S c).2.1))++[.blk cb (cC ((gD S c).2.2)) 88])):=by
 have hX:=hI.hX
 refine Spec.enter Tryz.func177 rfl Tryz.ntmps177 (Nat.le_of_ble_eq_true rfl) (fun R=>?_)
 refine SR (gK 1 [] [] ?_)
 refine NN (af.seq (af.bI (by kernel_rfl) (by kernel_rfl) ?_))
 refine gQ 9 (PO f c) [(4,a_ 6 cb),(8,a_ 6 cb)] ?_
 rcases mD hI.toInv0 c.handle c.name 192 with ⟨e,hab,hne⟩|⟨d,hab,hd,jB,hgn,dL⟩
 ·refine aR.call (f:=189) (args:=#[vP f,vI (c.handle),.string c.name,vI 192]) (d:=(some 17)) (pre:=(qd f m t S L)) (R:=(o6 m L S cb c R)) (pk:=[0,2,3,1,4,5,6,7]) (ij:=[0,3,1,2,4,5,6,7]) (v0:=.tuple #[.pointer none,vI (e)]) (fun _=>by kernel_rfl) ((by have h:=eT S L f m t hI c.handle hC.hw c.name hC.nm 192 (β:=β);rw [hab] at h;exact h)) rfl (by kernel_rfl) rfl (by kernel_rfl) (fun _ _ h=>h) ?_
  refine gQ 5 (Ml e) [] ?_
  refine NQ (NX (af.seq (SR ?_)))
  refine gK 2 [(21,.bool (!(decide ((e:Int)=(0:Int)))))] [] ?_
  refine NN (af.dx (p:=(e:Int)=(0:Int)) (fun _=>by kernel_rfl) (fun vK=>?_) (fun vK=>?_))
  ·refine SR (gK 2 [(4,vI (e))] [] ?_)
   refine NN (af.ret (aj.aq ?_))
   exact RT (vI (e)) [0,1,2,3,4,5,6,7] (⟨L,by rw [show (gD S c)=(e,S,c) by unfold gD;rw [hab]]<;>exact⟨rfl,rfl⟩⟩)
  exact absurd vK hne
 have hkd:(obj S.O d).kind=2:=hI.kind hd
 refine aR.call (f:=189) (args:=#[vP f,vI (c.handle),.string c.name,vI 192]) (d:=(some 17)) (pre:=(qd f m t S L)) (R:=(o6 m L S cb c R)) (pk:=[0,2,3,1,4,5,6,7]) (ij:=[0,3,1,2,4,5,6,7]) (v0:=.tuple #[vP (L.b d),vI 0]) (fun _=>by kernel_rfl) ((by have h:=eT S L f m t hI c.handle hC.hw c.name hC.nm 192 (β:=β);rw [hab] at h;exact h)) rfl (by kernel_rfl) rfl (by kernel_rfl) (fun _ _ h=>h) ?_
 refine gQ 5 (GP L d) [] ?_
 refine NQ (NX (af.seq (SR ?_)))
 refine gK 2 [(21,.bool false)] [] ?_
 refine NN (CF (af.skip (NX (af.seq (af.bU (S:=[pC cb c]) [0,1,2,3,4,5,6,7,8,9,10,11] 10 [6] (by kernel_rfl) (by kernel_rfl) rfl (by kernel_rfl) ?_)))))
 refine gR 0 [10,11] (St f L d c++[(32,.string c.text)]) [0,1,2,3,4,5,6,7,8,9] [(5,a_ 0 cb),(9,a_ 0 cb)] ?_
 refine mL [6] [0,1,2,3,4,5] (zZ S L f m t hI d hd c.name hC.nm c.text hC.tx) ?_ (by rintro _ _ ⟨L2,rfl,rfl⟩;rfl)
 rintro _ _ ⟨L2,rfl,rfl⟩
 refine aO.last rfl rfl ?_
 refine gK 1 [(4,vI ((eV S d c.name c.text).1))] [] ?_
 refine NL (aj.np (NX (af.ret ?_)))
 exact RT (vI ((eV S d c.name c.text).1)) [0,1,2,3,4,5,6,7] (⟨L2,by rw [show (gD S c)=((eV S d c.name c.text).1,(eV S d c.name c.text).2,c) by unfold gD;rw [hab]]<;>exact⟨rfl,rfl⟩⟩)
theorem GQ {β:Bs} (S:aG) (L:HL) (f m t:Nat) (hI:Inv S) (cb:Nat) (c:ax) (hC:gT β c) :
    Spec Tryz.prog β 179 #[vP f,vP cb] ((pA f m t L S)++[pC cb c]) (fun v l=>∃ L2,v=vI (iD S c).1/\l=((pA f m t L2 ((iD S c).2.1))++[.blk cb (cC ((iD S c).2.2)) 88])):=by
 have hX:=hI.hX
 refine Spec.enter Tryz.func179 rfl Tryz.ntmps179 (Nat.le_of_ble_eq_true rfl) (fun R=>?_)
 refine SR (gK 1 [] [] ?_)
 refine NN (af.seq (af.bI (by kernel_rfl) (by kernel_rfl) ?_))
 refine gQ 9 (PO f c) [(4,a_ 6 cb),(8,a_ 6 cb)] ?_
 rcases mD hI.toInv0 c.handle c.name 192 with ⟨e,hab,hne⟩|⟨d,hab,hd,jB,hgn,dL⟩
 ·refine aR.call (f:=189) (args:=#[vP f,vI (c.handle),.string c.name,vI 192]) (d:=(some 17)) (pre:=(qd f m t S L)) (R:=(o6 m L S cb c R)) (pk:=[0,2,3,1,4,5,6,7]) (ij:=[0,3,1,2,4,5,6,7]) (v0:=.tuple #[.pointer none,vI (e)]) (fun _=>by kernel_rfl) ((by have h:=eT S L f m t hI c.handle hC.hw c.name hC.nm 192 (β:=β);rw [hab] at h;exact h)) rfl (by kernel_rfl) rfl (by kernel_rfl) (fun _ _ h=>h) ?_
  refine gQ 5 (Ml e) [] ?_
  refine NQ (NX (af.seq (SR ?_)))
  refine gK 2 [(21,.bool (!(decide ((e:Int)=(0:Int)))))] [] ?_
  refine NN (af.dx (p:=(e:Int)=(0:Int)) (fun _=>by kernel_rfl) (fun vK=>?_) (fun vK=>?_))
  ·refine SR (gK 2 [(4,vI (e))] [] ?_)
   refine NN (af.ret (aj.aq ?_))
   exact RT (vI (e)) [0,1,2,3,4,5,6,7] (⟨L,by rw [show (iD S c)=(e,S,c) by unfold iD;rw [hab]]<;>exact⟨rfl,rfl⟩⟩)
  exact absurd vK hne
 have hkd:(obj S.O d).kind=2:=hI.kind hd
 refine aR.call (f:=189) (args:=#[vP f,vI (c.handle),.string c.name,vI 192]) (d:=(some 17)) (pre:=(qd f m t S L)) (R:=(o6 m L S cb c R)) (pk:=[0,2,3,1,4,5,6,7]) (ij:=[0,3,1,2,4,5,6,7]) (v0:=.tuple #[vP (L.b d),vI 0]) (fun _=>by kernel_rfl) ((by have h:=eT S L f m t hI c.handle hC.hw c.name hC.nm 192 (β:=β);rw [hab] at h;exact h)) rfl (by kernel_rfl) rfl (by kernel_rfl) (fun _ _ h=>h) ?_
 refine gQ 5 (GP L d) [] ?_
 refine NQ (NX (af.seq (SR ?_)))
 refine gK 2 [(21,.bool false)] [] ?_
 refine NN (CF (af.skip (NX (SR (gK 6 (St f L d c) [(5,a_ 6 cb)] ?_)))))
 refine gL [0,1,2,3,4,5] (Cu S L f m t hI d hd c.name hC.nm) ?_
 rintro _ _ ⟨L2,rfl,rfl⟩
 refine gK 1 [(4,vI ((eF S d c.name).1))] [] ?_
 refine NN (af.ret ?_)
 exact RT (vI ((eF S d c.name).1)) [0,1,2,3,4,5,6,7] (⟨L2,by rw [show (iD S c)=((eF S d c.name).1,(eF S d c.name).2,c) by unfold iD;rw [hab]]<;>exact⟨rfl,rfl⟩⟩)
theorem Ij {β:Bs} (S:aG) (L:HL) (f m t:Nat) (hI:Inv S) (cb:Nat) (c:ax) (hC:gT β c) :
    Spec Tryz.prog β 185 #[vP f,vP cb] ((pA f m t L S)++[pC cb c]) (fun v l=>∃ L2,v=vI (jd S c).1/\l=((pA f m t L2 ((jd S c).2.1))++[.blk cb (cC ((jd S c).2.2)) 88])):=by
 have hX:=hI.hX
 refine Spec.enter Tryz.func185 rfl Tryz.ntmps185 (Nat.le_of_ble_eq_true rfl) (fun R=>?_)
 refine SR (gK 1 [] [] ?_)
 refine NN (af.seq (af.bI (by kernel_rfl) (by kernel_rfl) ?_))
 refine gQ 9 (PO f c) [(4,a_ 6 cb),(8,a_ 6 cb)] ?_
 rcases mD hI.toInv0 c.handle c.name 192 with ⟨e,hab,hne⟩|⟨d,hab,hd,jB,hgn,dL⟩
 ·refine aR.call (f:=189) (args:=#[vP f,vI (c.handle),.string c.name,vI 192]) (d:=(some 17)) (pre:=(qd f m t S L)) (R:=(o6 m L S cb c R)) (pk:=[0,2,3,1,4,5,6,7]) (ij:=[0,3,1,2,4,5,6,7]) (v0:=.tuple #[.pointer none,vI (e)]) (fun _=>by kernel_rfl) ((by have h:=eT S L f m t hI c.handle hC.hw c.name hC.nm 192 (β:=β);rw [hab] at h;exact h)) rfl (by kernel_rfl) rfl (by kernel_rfl) (fun _ _ h=>h) ?_
  refine gQ 5 (Ml e) [] ?_
  refine NQ (NX (af.seq (SR ?_)))
  refine gK 2 [(21,.bool (!(decide ((e:Int)=(0:Int)))))] [] ?_
  refine NN (af.dx (p:=(e:Int)=(0:Int)) (fun _=>by kernel_rfl) (fun vK=>?_) (fun vK=>?_))
  ·refine SR (gK 2 [(4,vI (e))] [] ?_)
   refine NN (af.ret (aj.aq ?_))
   exact RT (vI (e)) [0,1,2,3,4,5,6,7] (⟨L,by rw [show (jd S c)=(e,S,c) by unfold jd;rw [hab]]<;>exact⟨rfl,rfl⟩⟩)
  exact absurd vK hne
 have hkd:(obj S.O d).kind=2:=hI.kind hd
 refine aR.call (f:=189) (args:=#[vP f,vI (c.handle),.string c.name,vI 192]) (d:=(some 17)) (pre:=(qd f m t S L)) (R:=(o6 m L S cb c R)) (pk:=[0,2,3,1,4,5,6,7]) (ij:=[0,3,1,2,4,5,6,7]) (v0:=.tuple #[vP (L.b d),vI 0]) (fun _=>by kernel_rfl) ((by have h:=eT S L f m t hI c.handle hC.hw c.name hC.nm 192 (β:=β);rw [hab] at h;exact h)) rfl (by kernel_rfl) rfl (by kernel_rfl) (fun _ _ h=>h) ?_
 refine gQ 5 (GP L d) [] ?_
 refine NQ (NX (af.seq (SR ?_)))
 refine gK 2 [(21,.bool false)] [] ?_
 refine NN (CF (af.skip (NX (SR (gK 6 (St f L d c) [(5,a_ 6 cb)] ?_)))))
 refine gL [0,1,2,3,4,5] (El S L f m t hI d hd c.name hC.nm) ?_
 rintro _ _ ⟨L2,rfl,rfl⟩
 refine gK 1 [(4,vI ((eZ S d c.name).1))] [] ?_
 refine NN (af.ret ?_)
 exact RT (vI ((eZ S d c.name).1)) [0,1,2,3,4,5,6,7] (⟨L2,by rw [show (jd S c)=((eZ S d c.name).1,(eZ S d c.name).2,c) by unfold jd;rw [hab]]<;>exact⟨rfl,rfl⟩⟩)
theorem GR {β:Bs} (S:aG) (L:HL) (f m t:Nat) (hI:Inv S) (cb:Nat) (c:ax) (hC:gT β c) :
    Spec Tryz.prog β 186 #[vP f,vP cb] ((pA f m t L S)++[pC cb c]) (fun v l=>∃ L2,v=vI (gh S c).1/\l=((pA f m t L2 ((gh S c).2.1))++[.blk cb (cC ((gh S c).2.2)) 88])):=by
 have hX:=hI.hX
 refine Spec.enter Tryz.func186 rfl Tryz.ntmps186 (Nat.le_of_ble_eq_true rfl) (fun R=>?_)
 refine SR (gK 1 [] [] ?_)
 refine NN (af.seq (af.bI (by kernel_rfl) (by kernel_rfl) ?_))
 refine gQ 9 [(9,vP f),(13,vI (c.handle)),(17,.string c.name)] [(4,a_ 6 cb),(8,a_ 6 cb)] ?_
 rcases mD hI.toInv0 c.handle c.name 192 with ⟨e,hab,hne⟩|⟨d,hab,hd,jB,hgn,dL⟩
 ·refine aR.call (f:=189) (args:=#[vP f,vI (c.handle),.string c.name,vI 192]) (d:=(some 18)) (pre:=(qd f m t S L)) (R:=(o6 m L S cb c R)) (pk:=[0,2,3,1,4,5,6,7]) (ij:=[0,3,1,2,4,5,6,7]) (v0:=.tuple #[.pointer none,vI (e)]) (fun _=>by kernel_rfl) ((by have h:=eT S L f m t hI c.handle hC.hw c.name hC.nm 192 (β:=β);rw [hab] at h;exact h)) rfl (by kernel_rfl) rfl (by kernel_rfl) (fun _ _ h=>h) ?_
  refine gQ 5 (Ml e) [] ?_
  refine NQ (NX (af.seq (SR ?_)))
  refine gK 2 [(22,.bool (!(decide ((e:Int)=(0:Int)))))] [] ?_
  refine NN (af.dx (p:=(e:Int)=(0:Int)) (fun _=>by kernel_rfl) (fun xK=>?_) (fun xK=>?_))
  ·refine SR (gK 2 [(4,vI (e))] [] ?_)
   refine NN (af.ret (aj.aq ?_))
   exact RT (vI (e)) [0,1,2,3,4,5,6,7] (⟨L,by rw [show (gh S c)=(e,S,c) by unfold gh;rw [hab]]<;>exact⟨rfl,rfl⟩⟩)
  exact absurd xK hne
 have hkd:(obj S.O d).kind=2:=hI.kind hd
 refine aR.call (f:=189) (args:=#[vP f,vI (c.handle),.string c.name,vI 192]) (d:=(some 18)) (pre:=(qd f m t S L)) (R:=(o6 m L S cb c R)) (pk:=[0,2,3,1,4,5,6,7]) (ij:=[0,3,1,2,4,5,6,7]) (v0:=.tuple #[vP (L.b d),vI 0]) (fun _=>by kernel_rfl) ((by have h:=eT S L f m t hI c.handle hC.hw c.name hC.nm 192 (β:=β);rw [hab] at h;exact h)) rfl (by kernel_rfl) rfl (by kernel_rfl) (fun _ _ h=>h) ?_
 refine gQ 5 (GP L d) [] ?_
 refine NQ (NX (af.seq (SR ?_)))
 refine gK 2 [(22,.bool false)] [] ?_
 refine NN (CF (af.skip (NX (af.seq (af.bI (by kernel_rfl) (by kernel_rfl) ?_)))))
 refine gQ 9 [(25,vP f),(29,vI (c.other)),(33,.string c.text)] [(4,a_ 6 cb),(8,a_ 6 cb)] ?_
 rcases mD hI.toInv0 c.other c.text 192 with ⟨e2,kD,GS⟩|⟨to,kD,hd2,Sv,Ox,VU⟩
 ·refine aR.call (f:=189) (args:=#[vP f,vI (c.other),.string c.text,vI 192]) (d:=(some 34)) (pre:=(qd f m t S L)) (R:=(o6 m L S cb c R)) (pk:=[0,2,3,1,4,5,6,7]) (ij:=[0,3,1,2,4,5,6,7]) (v0:=.tuple #[.pointer none,vI (e2)]) (fun _=>by kernel_rfl) ((by have h:=eT S L f m t hI c.other hC.ow c.text hC.tx 192 (β:=β);rw [kD] at h;exact h)) rfl (by kernel_rfl) rfl (by kernel_rfl) (fun _ _ h=>h) ?_
  refine gQ 5 [(6,vI (e2)),(7,.pointer none)] [] ?_
  refine NQ (NX (af.seq (SR ?_)))
  refine gK 2 [(38,.bool (!(decide ((e2:Int)=(0:Int)))))] [] ?_
  refine NN (af.dx (p:=(e2:Int)=(0:Int)) (fun _=>by kernel_rfl) (fun BM=>?_) (fun BM=>?_))
  ·refine SR (gK 2 [(4,vI (e2))] [] ?_)
   refine NN (af.ret (aj.aq ?_))
   exact RT (vI (e2)) [0,1,2,3,4,5,6,7] (⟨L,by rw [show (gh S c)=(e2,S,c) by unfold gh;rw [hab];simp only;rw [kD]]<;>exact⟨rfl,rfl⟩⟩)
  exact absurd BM GS
 have eX:(obj S.O to).kind=2:=hI.kind hd2
 refine aR.call (f:=189) (args:=#[vP f,vI (c.other),.string c.text,vI 192]) (d:=(some 34)) (pre:=(qd f m t S L)) (R:=(o6 m L S cb c R)) (pk:=[0,2,3,1,4,5,6,7]) (ij:=[0,3,1,2,4,5,6,7]) (v0:=.tuple #[vP (L.b to),vI 0]) (fun _=>by kernel_rfl) ((by have h:=eT S L f m t hI c.other hC.ow c.text hC.tx 192 (β:=β);rw [kD] at h;exact h)) rfl (by kernel_rfl) rfl (by kernel_rfl) (fun _ _ h=>h) ?_
 refine gQ 5 [(6,vI 0),(7,vP (L.b to))] [] ?_
 refine NQ (NX (af.seq (SR ?_)))
 refine gK 2 [(38,.bool false)] [] ?_
 refine NN (CF (af.skip (NX (af.seq (af.bU (S:=[pC cb c]) [0,1,2,3,4,5,6,7,8,9,10,11,12] 11 [6] (by kernel_rfl) (by kernel_rfl) rfl (by kernel_rfl) ?_)))))
 refine gR 0 [11,12] [(40,vP f),(41,vP (L.b d)),(45,.string c.name),(46,vP (L.b to)),(50,.string c.text)] [0,1,2,3,4,5,6,7,8,9,10] [(5,a_ 0 cb),(10,a_ 0 cb)] ?_
 refine mL [6] [0,1,2,3,4,5] (Cv S L f m t hI d hd c.name hC.nm to hd2 c.text hC.tx) ?_ (by rintro _ _ ⟨L2,rfl,rfl⟩;rfl)
 rintro _ _ ⟨L2,rfl,rfl⟩
 refine aO.last rfl rfl ?_
 refine gK 1 [(4,vI ((bJ S d c.name to c.text).1))] [] ?_
 refine NL (aj.np (NX (af.ret ?_)))
 exact RT (vI ((bJ S d c.name to c.text).1)) [0,1,2,3,4,5,6,7] (⟨L2,by rw [show (gh S c)=((bJ S d c.name to c.text).1,(bJ S d c.name to c.text).2,c) by unfold gh;rw [hab];simp only;rw [kD]]<;>exact⟨rfl,rfl⟩⟩)
end
section
open Go.RowKit
section order
variable {P:Program} {ops:Array Oper} {Q Q':Post} {n:Nat} {S:World->Prop}
def fV (P:Program) (ops:Array Oper) (Q:Post) (S:World->Prop):List (Bool×Nat)->Act->World->Prop
  | [],a,w=>Q .normal a w
  | (false,i)::l,a,w=>wpOp P ops Q i (fun a' w'=>(l=[]\/S w')/\fV P ops Q S l a' w') a w
  | (true,i)::l,a,w=>∃ o v,ops[i]?=some o/\YieldsIf P ops S o v a/\fV P ops Q S l (a.put o.dst v) w
def uE (ops:Array Oper) (n:Nat):List (Bool×Nat)->Array Bool->Bool
  | [],listed=>(Region.ready .any ops listed).isEmpty
  | (false,i)::l,listed=>(Region.ready .any ops listed == [i]) && (!l.isEmpty || i == n) && uE ops n l (listed.setIfInBounds i true)
  | (true,i)::l,listed=>decide (i < n) && Region.free .any ops listed i && (Region.ready .any ops listed).contains i && uE ops n l (listed.setIfInBounds i true)
theorem qF (hsel:Region.noSelect ops=true) (kJ:Region.sinkB .any ops n=true):∀ (l:List (Bool×Nat)) (listed:Array Bool) (a:Act) (w:World),uE ops n l listed=true->Closed ops listed->(l=[]\/S w)->fV P ops (NP Q) S l a w->iT P ops (NP Q) n S l.length listed a w
  | [],listed,a,w,hb,_,_,h=>⟨List.isEmpty_iff.1 hb,h⟩
  | (false,i)::l,listed,a,w,hb,hc,_,h=>by
    unfold uE at hb
    simp only [Bool.and_eq_true,beq_iff_eq] at hb
    obtain⟨⟨h1,h2⟩,h3⟩:=hb
    refine⟨fun h0=>(by rw [h1] at h0;cases h0),fun j hj=>?_⟩
    have hr:=hj
    rw [h1] at hj
    have hj:j=i:=by simpa using hj
    subst hj
    refine wpOp_mono (fun a' w' h4=>⟨?_,qF hsel kJ l _ a' w' h3 (hc.set hr) h4.1 h4.2⟩) h
    rcases h4.1 with h5|h5
    ·subst h5;exact .inl (by simpa using h2)
    exact .inr h5
  | (true,i)::l,listed,a,w,hb,hc,hS,h=>by
    unfold uE at hb
    simp only [Bool.and_eq_true,decide_eq_true_iff] at hb
    obtain⟨⟨⟨h1,h2⟩,h3⟩,h4⟩:=hb
    obtain⟨o,v,ho,hy,hk⟩:=h
    have hS:S w:=hS.resolve_left (by simp)
    have hr:i∈Region.ready .any ops listed:=by simpa using h3
    exact pN ho hsel kJ h1 l.length listed a w hc (Region.free_spec ho h2) hr hy hS (qF hsel kJ l _ _ w h4 (hc.set hr) (.inr hS) hk)
def zJ (ops:Array Oper) (l:List (Bool×Nat)):Bool:=
  Region.noSelect ops && Region.sinkB .any ops (ops.size - 1) && (l.length == ops.size) && uE ops (ops.size - 1) l (Array.replicate ops.size false)
def ou (ops:Array Oper) (i:Nat):Array Oper:=⟨ops.toList.take (i+1)⟩
def gB (ops:Array Oper) (i:Nat):Bool:=match ops[i]? with
  | some o=>match o.guard with
    | none=>true
    | some (j,_)=>decide (j<=i)
  | none=>false
theorem Mn {i j:Nat} (h:j<=i):(ou ops i)[j]?=ops[j]?:=by
  unfold ou
  obtain⟨l⟩:=ops
  simp only [List.getElem?_toArray,List.getElem?_take]
  rw [if_pos (by omega)]
theorem nA {i:Nat} {a:Act} {w:World} {K:Act->World->Prop} (hg:gB ops i=true) (h:wpList P (ou ops i) (NP fun _ a w=>K a w) ((ou ops i).toList.drop i) a w):wpOp P ops (NP Q) i K a w:=by
  unfold gB at hg
  split at hg
  ·rename_i o ho
   have hd:(ou ops i).toList.drop i=[o]:=by
     have hl:ops.toList[i]?=some o:=by simpa using ho
     have hi:i < ops.toList.length:=bA hl
     show (ops.toList.take (i+1)).drop i=[o]
     rw [List.drop_take]
     rw [show i+1 - i=1 by omega,List.drop_eq_getElem_cons hi]
     rw [List.getElem?_eq_getElem hi] at hl
     cases hl
     rfl
   have hw:Region.wanted o (yielded (ou ops i) a.tmps)=Region.wanted o (yielded ops a.tmps):=by
     unfold Region.wanted
     split at hg
     ·rename_i hn;rw [hn]
     rename_i j b hn
     rw [hn]
     have hj:j<=i:=by simpa using hg
     have:yielded (ou ops i) a.tmps j=yielded ops a.tmps j:=by
       unfold yielded
       rw [Mn hj]
     simp only [this]
   rw [hd] at h
   unfold wpOp
   simp only [ho]
   unfold wpList at h
   rw [hw] at h
   split at h
   ·rename_i hw
    rw [if_pos hw]
    rcases h with h|⟨_,h⟩
    ·exact .inl (EQ (Oper.wp_mono (fun a w h=>h) h))
    exact (pK h).elim
   rename_i hw
   rw [if_neg hw]
   exact h
  cases hg
end order
theorem mw {P:Program} {ops:Array Oper} {Q Q':Post} (hq:∀ a w,Q .normal a w->Q' .normal a w):∀ (l:List Oper) {a:Act} {w:World},wpList P ops (NP Q) l a w->wpList P ops (NP Q') l a w
  | [],_,_,h=>hq _ _ h
  | o::r,a,w,h=>by
    unfold wpList at *
    split
    ·rename_i hw
     rw [if_pos hw] at h
     rcases h with h|⟨_,h⟩
     ·exact .inl (EQ (Oper.wp_mono (fun a w h=>mw hq r h) h))
     exact (pK h).elim
    rename_i hw
    rw [if_neg hw] at h
    exact mw hq r h
section mix
variable {P:Program} {β:Bs} {N:dF} {ops:Array Oper} {S:List HP} {l l':List (Bool×Nat)} {fr fr':Fr} {hps:List HP} {Q:Post} {aZ:List Prop} {i:Nat} {pk:List Nat}
def fk (P:Program) (β:Bs) (N:dF) (ops:Array Oper) (S:List HP) (l:List (Bool×Nat)) (fr:Fr) (hps:List HP) (Q:Post):Prop:=
  ∀ junk w,Sat β hps w->fV P ops (NP Q) (Sat β S) l (bQ N fr junk) w
theorem af.pX {id:Nat} (l:List (Bool×Nat)) (pk:List Nat) (hm:P.follows .mixedOrders=true) (hB:zJ ops l=true) (hn:nodupB pk=true) (hp:bT hps pk=some S) (h:fk P β N ops S l fr hps Q):af P β N (.region id ops true) fr hps Q:=by
  intro junk w hS
  unfold zJ at hB
  simp only [Bool.and_eq_true,beq_iff_eq] at hB
  obtain⟨⟨⟨h1,h2⟩,h3⟩,h4⟩:=hB
  have cT:=hS.drewN 1
  have h5:=qF (Q:=Q) h1 h2 l _ _ _ h4 (fun j oj _ hl=>by simp [Array.getD_eq_getD_getElem?,Array.getElem?_replicate] at hl;split at hl<;>simp at hl) (.inr (cT.pick hn hp)) (h junk (w.drewN 1) cT)
  rw [h3] at h5
  refine Code.wp_mono (fun e a w q=>?_) (wp_region_any hm (lS _ _ _ _ h5))
  cases e with
  | normal=>exact q
  | exit id=>exact q.elim
  | goto l=>exact q.elim
  | ret=>exact q.elim
  | panic ch=>exact q.elim
  | outgrown=>exact q.elim
def kO (P:Program) (β:Bs) (N:dF) (junk:Nat->Value) (ops:Array Oper):List OH->List Nat->Fr->SS->Option (Fr×SS)
  | [],[],fr,S=>some (fr,S)
  | h::hs,i::is,fr,S=>
    match ops[i]? with
    | some o=>
      match Region.wanted o (yF ops N fr junk) with
      | true=>
        match sP P β 0 true (dH N fr junk) o h S with
        | some (v,S')=>
          match xX v with
          | true=>kO P β N junk ops hs is (dw fr o.dst v) S'
          | false=>none
        | none=>none
      | false=>kO P β N junk ops hs is (dw fr o.dst undef) S
    | none=>none
  | _,_,_,_=>none
def mz (P:Program) (β:Bs) (N:dF) (junk:Nat->Value) (ops:Array Oper) (hs:List OH) (is:List Nat) (fr:Fr) (S:List HP) (idx:List Nat):Option (Fr×List Prop):=
  match kO P β N junk ops hs is fr ⟨[],S,[],true⟩ with
  | some (fr',S')=>some (iB fr' junk idx,S'.aZ)
  | none=>none
theorem pY {junk:Nat->Value}:∀ {hs:List OH} {is:List Nat} {fr fr':Fr} {S S':SS},kO P β N junk ops hs is fr S=some (fr',S')->∀ p,p∈S.aZ->p∈S'.aZ
  | [],[],fr,fr',S,S',h,p,hp=>by cases h;exact hp
  | h::hs,i::is,fr,fr',S,S',hr,p,hp=>by
    unfold kO at hr
    repeat' split at hr
    all_goals first|(cases hr;done)|skip
    ·rename_i h0 _ _
     exact pY hr p (Ak h0 p hp)
    exact pY hr p hp
  | [],_::_,_,_,_,_,h,_,_=>by cases h
  | _::_,[],_,_,_,_,h,_,_=>by cases h
theorem tJ {junk:Nat->Value} {w:World}:∀ {hs:List OH} {is:List Nat} {fr fr':Fr} {T T':SS},kO P β N junk ops hs is fr T=some (fr',T')->(∀ p,p∈T'.aZ->p)->T.used=true->T.hps=S →
    fV P ops (NP Q) (Sat β S) l (bQ N fr' junk) w->fV P ops (NP Q) (Sat β S) (is.map (fun i=>(true,i))++l) (bQ N fr junk) w
  | [],[],fr,fr',T,T',h,ho,hu,hT,hK=>by cases h;exact hK
  | h::hs,i::is,fr,fr',T,T',hr,ho,hu,hT,hK=>by
    unfold kO at hr
    repeat' split at hr
    all_goals first|(cases hr;done)|skip
    ·rename_i o hget _ hwant _ v T1 h0 _ hv
     obtain⟨e1,e2⟩:=qg h0
     rw [List.map_cons,List.cons_append]
     unfold fV
     refine⟨o,v,hget,.inl ⟨by rw [dJ];exact hwant,fun w' cT=>?_⟩,?_⟩
     ·rw [dY]
      obtain⟨w2,h1,_,_,h4⟩:=jP h0 (fun p hp=>ho p (pY hr p hp)) (by rw [hT];exact cT) (fun e=>by rw [hu] at e;cases e)
      obtain⟨ew,_⟩:=h4 rfl
      rw [ew] at h1
      rcases h1 with h1|⟨h1,_⟩
      ·exact h1
      exact absurd h1 (mW hv)
     rw [dI]
     exact tJ hr ho (e2.trans hu) (e1.trans hT) hK
    rename_i o hget _ hwant
    rw [List.map_cons,List.cons_append]
    unfold fV
    refine⟨o,undef,hget,.inr ⟨by rw [dJ];exact hwant,rfl⟩,?_⟩
    rw [dI]
    exact tJ hr ho hu hT hK
  | [],_::_,_,_,_,_,h,_,_,_,_=>by cases h
  | _::_,[],_,_,_,_,h,_,_,_,_=>by cases h
theorem fk.reads (is:List Nat) (hs:List OH) (idx:List Nat) (h:∀ junk,mz P β N junk ops hs is fr S idx=some (fr',aZ)) (ho:kz aZ) (hl:l'=is.map (fun i=>(true,i))++l) (K:fk P β N ops S l fr' hps Q):fk P β N ops S l' fr hps Q:=by
  intro junk w hS
  subst hl
  have h0:=h junk
  unfold mz at h0
  split at h0
  ·rename_i fr1 S1 h1
   cases h0
   have hK:=K (lk fr1 junk) w hS
   rw [← jw] at hK
   exact tJ h1 (fun p hp=>ho.mem hp) rfl rfl hK
  cases h0
theorem gG (l2:List (Bool×Nat)) (lM:Fr) (is:List Nat) (os:List (Nat×OP)) (K:fk P β N ops S l2 lM hps Q)
    (h:∀ junk,mz P β N junk ops (jE (gX is.length os 0)) is fr S (bp lM)=some (lM,owed (gX is.length os 0)):=by intro _;kernel_rfl) (hl:l'=is.map (fun i=>(true,i))++l2:=by rfl):fk P β N ops S l' fr hps Q:=
  fk.reads is (jE (gX is.length os 0)) (bp lM) h (mX _) hl K
theorem fk.cut {ι:Type} {fr':ι->Fr} {hp':ι->List HP} (pk:List Nat) (hg:gB ops i=true) (h:ak P β N (ou ops i) i fr hps (NP (nV β N fr' hp'))) (hn:nodupB pk=true) (hp:∀ j,bT (hp' j) pk=some S)
    (K:∀ j,fk P β N ops S l (fr' j) (hp' j) Q):fk P β N ops S ((false,i)::l) fr hps Q:=by
  intro junk w hS
  unfold fV
  refine nA hg (mw (Q':=_) (fun a w ⟨j,gA,ha,cT⟩=>?_) _ (h junk w hS))
  subst ha
  exact⟨.inr (cT.pick hn (hp j)),K j gA w cT⟩
theorem fk.last (hg:gB ops i=true) (h:ak P β N (ou ops i) i fr hps (NP Q)):fk P β N ops S [(false,i)] fr hps Q:=by
  intro junk w hS
  unfold fV
  exact nA hg (mw (Q':=_) (fun a w hq=>⟨.inl rfl,by unfold fV;exact hq⟩) _ (h junk w hS))
end mix
end
section
open Go.RowKit Go.Maps bF aB
attribute [local irreducible] ak aR af aj
abbrev Jd (cb:Nat) (c:ax):=(pC cb { c with other:=0,mode:=0,uid:=0,gid:=0,sec:=0,nano:=0 }:HP)
abbrev Je (cb:Nat) (c:ax) (S:aG) (tk:Nat):=(pC cb { c with other:=0,mode:=0,uid:=0,gid:=0,sec:=0,nano:=0,answer:=(obj S.O tk).id }:HP)
abbrev UC (cb:Nat) (c:ax) (S:aG) (tk:Nat):=(pC cb { c with other:=1,mode:=(obj S.O tk).mode,uid:=(obj S.O tk).uid,gid:=0,sec:=0,nano:=0,answer:=(obj S.O tk).id }:HP)
abbrev UD (cb:Nat) (c:ax) (S:aG) (tk:Nat):=(pC cb { c with other:=1,mode:=(obj S.O tk).mode,uid:=(obj S.O tk).uid,gid:=(obj S.O tk).gid,sec:=0,nano:=0,answer:=(obj S.O tk).id }:HP)
abbrev UE (cb:Nat) (c:ax) (S:aG) (tk:Nat):=(pC cb { c with other:=2,mode:=(obj S.O tk).mode,uid:=(obj S.O tk).uid,gid:=0,sec:=0,nano:=0,answer:=(obj S.O tk).id }:HP)
abbrev UF (cb:Nat) (c:ax) (S:aG) (tk:Nat):=(pC cb { c with other:=2,mode:=(obj S.O tk).mode,uid:=(obj S.O tk).uid,gid:=(obj S.O tk).gid,sec:=0,nano:=0,answer:=(obj S.O tk).id }:HP)
abbrev UG (cb:Nat) (c:ax) (S:aG) (tk:Nat):=(pC cb { c with other:=3,mode:=(obj S.O tk).mode,uid:=(obj S.O tk).uid,gid:=0,sec:=0,nano:=0,answer:=(obj S.O tk).id }:HP)
abbrev UH (cb:Nat) (c:ax) (S:aG) (tk:Nat):=(pC cb { c with other:=3,mode:=(obj S.O tk).mode,uid:=(obj S.O tk).uid,gid:=(obj S.O tk).gid,sec:=0,nano:=0,answer:=(obj S.O tk).id }:HP)
abbrev mU (S:aG) (tk:Nat):=([(44,vI ((obj S.O tk).uid)),(48,vI ((obj S.O tk).gid)),(52,.agg #[vI ((obj S.O tk).sec),vI ((obj S.O tk).nano)])]:Fr)
abbrev Oy (cb:Nat) (S:aG) (tk:Nat):=([(25,vP cb),(26,vP cb),(27,vP cb),(28,vP cb),(29,vP cb),(30,vP cb),(34,vI ((obj S.O tk).id))]:Fr)
abbrev DG (cb:Nat) (S:aG) (tk:Nat):=([(30,vP cb),(48,vI ((obj S.O tk).gid)),(52,.agg #[vI ((obj S.O tk).sec),vI ((obj S.O tk).nano)])]:Fr)
abbrev rK (cb:Nat):=([(27,vP cb),(28,vP cb),(29,vP cb),(30,vP cb)]:Fr)
abbrev Oz (S:aG) (tk:Nat):=([(40,vI ((obj S.O tk).mode)),(44,vI ((obj S.O tk).uid)),(48,vI ((obj S.O tk).gid)),(52,.agg #[vI ((obj S.O tk).sec),vI ((obj S.O tk).nano)])]:Fr)
abbrev rL (f:Nat) (m:Nat) (t) (S:aG) (L:HL) (cb:Nat) (c) (R:bY):=([pF f m t S.X,pI m L S.idx,pO S.O L,pD S.O L,pE S.O L,pC cb c,.abs R]:List HP)
abbrev DH:=([(2,vI 0),(6,vI 0),(7,vI 0),(8,vI 0),(9,vI 0),(10,vI 0)]:Fr)
abbrev DI (t)(c:ax):=([(11,vP t),(15,vI (c.handle))]:Fr)
abbrev DJ (cb:Nat) (S:aG) (tk:Nat):=([(28,vP cb),(29,vP cb),(30,vP cb),(40,vI ((obj S.O tk).mode))]:Fr)
abbrev y4 (L:HL) (to:Nat) (c:ax):=([(61,.map (some (L.m to))),(65,.string c.text)]:Fr)
abbrev OA (S:aG) (tk:Nat) (cb:Nat):=([(52,.agg #[vI ((obj S.O tk).sec),vI ((obj S.O tk).nano)]),(64,.pointer (some ⟨cb,9,none⟩))]:Fr)
abbrev Kq (L:HL) (tk:Nat):=([(5,.iface 162 (vP (L.b tk))),(6,vI 0)]:Fr)
abbrev Kr (L:HL) (tk:Nat):=([(5,.iface 169 (vP (L.b tk))),(6,vI 0)]:Fr)
abbrev OB (t)(c:ax):=([(13,vP t),(17,vI (c.handle))]:Fr)
abbrev OC (S:aG) (tk:Nat):=([(9,vI ((obj S.O tk).sec)),(10,vI ((obj S.O tk).nano))]:Fr)
theorem Kt {β:Bs} (S:aG) (L:HL) (f m t:Nat) (hI:Inv S) (cb:Nat) (c:ax) (hC:gT β c) :
    Spec Tryz.prog β 178 #[vP f,vP cb] ((pA f m t L S)++[pC cb c]) (fun v l=>∃ L2,v=vI (cO S c).1/\l=((pA f m t L2 ((cO S c).2.1))++[.blk cb (cC ((cO S c).2.2)) 88])):=by
 have hX:=hI.hX
 refine Spec.enter Tryz.func178 rfl Tryz.ntmps178 (Nat.le_of_ble_eq_true rfl) (fun R=>?_)
 refine SR (gK 1 [] [] ?_)
 refine NN (af.seq (af.bI (by kernel_rfl) (by kernel_rfl) ?_))
 refine gQ 9 [(10,vP f),(14,vI (c.handle)),(18,.string c.name)] [(4,a_ 6 cb),(8,a_ 6 cb)] ?_
 rcases mD hI.toInv0 c.handle c.name 64 with ⟨e,hab,hne⟩|⟨d,hab,hd,jB,hgn,dL⟩
 ·refine aR.call (f:=189) (args:=#[vP f,vI (c.handle),.string c.name,vI 64]) (d:=(some 19)) (pre:=(qd f m t S L)) (R:=(o6 m L S cb c R)) (pk:=[0,2,3,1,4,5,6,7]) (ij:=[0,3,1,2,4,5,6,7]) (v0:=.tuple #[.pointer none,vI (e)]) (fun _=>by kernel_rfl) ((by have h:=eT S L f m t hI c.handle hC.hw c.name hC.nm 64 (β:=β);rw [hab] at h;exact h)) rfl (by kernel_rfl) rfl (by kernel_rfl) (fun _ _ h=>h) ?_
  refine gQ 5 [(5,.pointer none),(6,vI (e))] [] ?_
  refine NQ (NX (af.seq (SR ?_)))
  refine gK 2 [(23,.bool (!(decide ((e:Int)=(0:Int)))))] [] ?_
  refine NN (af.dx (p:=(e:Int)=(0:Int)) (fun _=>by kernel_rfl) (fun h23=>?_) (fun h23=>?_))
  ·refine SR (gK 2 [(4,vI (e))] [] ?_)
   refine NN (af.ret (aj.aq ?_))
   exact RT (vI (e)) [0,1,2,3,4,5,6,7] (⟨L,by rw [show (cO S c)=(e,S,c) by unfold cO;rw [hab]]<;>exact⟨rfl,rfl⟩⟩)
  exact absurd h23 hne
 have hkd:(obj S.O d).kind=2:=hI.kind hd
 refine aR.call (f:=189) (args:=#[vP f,vI (c.handle),.string c.name,vI 64]) (d:=(some 19)) (pre:=(qd f m t S L)) (R:=(o6 m L S cb c R)) (pk:=[0,2,3,1,4,5,6,7]) (ij:=[0,3,1,2,4,5,6,7]) (v0:=.tuple #[vP (L.b d),vI 0]) (fun _=>by kernel_rfl) ((by have h:=eT S L f m t hI c.handle hC.hw c.name hC.nm 64 (β:=β);rw [hab] at h;exact h)) rfl (by kernel_rfl) rfl (by kernel_rfl) (fun _ _ h=>h) ?_
 refine gQ 5 (GP L d) [] ?_
 refine NQ (NX (af.seq (SR ?_)))
 refine gK 2 [(23,.bool false)] [] ?_
 refine NN (CF (af.skip (NX (af.seq (af.bI (by kernel_rfl) (by kernel_rfl) ?_)))))
 refine gQ 9 [(26,vP f),(30,vI (c.other)),(34,.string c.text)] [(4,a_ 6 cb),(8,a_ 6 cb)] ?_
 rcases mD hI.toInv0 c.other c.text 192 with ⟨e2,kD,GS⟩|⟨to,kD,hd2,Sv,Ox,VU⟩
 ·refine aR.call (f:=189) (args:=#[vP f,vI (c.other),.string c.text,vI 192]) (d:=(some 35)) (pre:=(qd f m t S L)) (R:=(o6 m L S cb c R)) (pk:=[0,2,3,1,4,5,6,7]) (ij:=[0,3,1,2,4,5,6,7]) (v0:=.tuple #[.pointer none,vI (e2)]) (fun _=>by kernel_rfl) ((by have h:=eT S L f m t hI c.other hC.ow c.text hC.tx 192 (β:=β);rw [kD] at h;exact h)) rfl (by kernel_rfl) rfl (by kernel_rfl) (fun _ _ h=>h) ?_
  refine gQ 5 [(6,vI (e2)),(7,.pointer none)] [] ?_
  refine NQ (NX (af.seq (SR ?_)))
  refine gK 2 [(39,.bool (!(decide ((e2:Int)=(0:Int)))))] [] ?_
  refine NN (af.dx (p:=(e2:Int)=(0:Int)) (fun _=>by kernel_rfl) (fun jb=>?_) (fun jb=>?_))
  ·refine SR (gK 2 [(4,vI (e2))] [] ?_)
   refine NN (af.ret (aj.aq ?_))
   exact RT (vI (e2)) [0,1,2,3,4,5,6,7] (⟨L,by rw [show (cO S c)=(e2,S,c) by unfold cO;rw [hab];simp only;rw [kD]]<;>exact⟨rfl,rfl⟩⟩)
  exact absurd jb GS
 have eX:(obj S.O to).kind=2:=hI.kind hd2
 refine aR.call (f:=189) (args:=#[vP f,vI (c.other),.string c.text,vI 192]) (d:=(some 35)) (pre:=(qd f m t S L)) (R:=(o6 m L S cb c R)) (pk:=[0,2,3,1,4,5,6,7]) (ij:=[0,3,1,2,4,5,6,7]) (v0:=.tuple #[vP (L.b to),vI 0]) (fun _=>by kernel_rfl) ((by have h:=eT S L f m t hI c.other hC.ow c.text hC.tx 192 (β:=β);rw [kD] at h;exact h)) rfl (by kernel_rfl) rfl (by kernel_rfl) (fun _ _ h=>h) ?_
 refine gQ 5 [(6,vI 0),(7,vP (L.b to))] [] ?_
 refine NQ (NX (af.seq (SR ?_)))
 refine gK 2 [(39,.bool false)] [] ?_
 refine NN (CF (af.skip (NX (af.seq ?_))))
 have hel:(obj S.O d).ah.length<=8192:=hI.ic hd
 have Ud:=hC.nm
 rcases hI.mQ hd c.name with hlk|⟨tk,hlk,hlv⟩|⟨tk,hlk,hlv⟩|⟨tk,hlk,hlv⟩
 ·refine af.bI (by kernel_rfl) (by kernel_rfl) ?_
  refine gQ 8 [(44,.map (some (L.m d))),(48,.string c.name)] [(3,v_ 3 (bH L hkd)),(7,a_ 6 cb)] ?_
  refine rS 5 hkd hlk ?_
  refine gQ 1 [(8,.nilIface)] [] ?_
  refine NQ (NX (af.seq (af.block (SR ?_))))
  refine gK 3 [(50,.bool true)] [] ?_
  refine NN (CT (SR (gK 1 [(4,vI 170)] [] ?_)))
  refine NN (af.ret (aj.aF (aj.aq ?_)))
  exact RT (vI 170) [0,1,2,3,4,5,6,7] (⟨L,by rw [show (cO S c)=(170,S,c) by unfold cO;rw [hab];simp only;rw [kD];simp only;rw [show (fY S d c.name to c.text)=(170,S) by unfold fY;rw [hlk]]]<;>exact⟨rfl,rfl⟩⟩)
 ·have hkt:(obj S.O tk).kind=1:=hI.kind hlv
  refine af.bI (by kernel_rfl) (by kernel_rfl) ?_
  refine gQ 8 [(44,.map (some (L.m d))),(48,.string c.name)] [(3,v_ 3 (bH L hkd)),(7,a_ 6 cb)] ?_
  refine rS 5 hkd hlk ?_
  refine gQ 1 [(8,.iface 162 (vP (L.b tk)))] [] ?_
  refine NQ (NX (af.seq (af.block (SR ?_))))
  refine gK 3 [(50,.bool false)] [] ?_
  refine NN (CF (SR (gK 1 [(54,.iface 162 (vP (L.b tk)))] [] ?_)))
  refine gL [] (nj (vP (L.b tk))) ?_
  rintro _ _ ⟨rfl,rfl⟩
  refine gK 2 [(53,.bool false)] [] ?_
  refine NN (CF (af.seq ?_))
  have Bt:(obj S.O to).ah.length<=8192:=hI.ic hd2
  have Mp:=hC.tx
  rcases hI.mQ hd2 c.text with bB|⟨ok,bB,fe⟩|⟨ok,bB,fe⟩|⟨ok,bB,fe⟩
  ·refine af.bI (by kernel_rfl) (by kernel_rfl) ?_
   refine gQ 8 (y4 L to c) [(3,v_ 3 (bH L eX)),(7,a_ 6 cb)] ?_
   refine rS 5 eX bB ?_
   refine gQ 2 [(57,.bool false)] [] ?_
   refine NQ (NX ?_)
   refine CF (SR (gK 1 [(69,vP f)] [] ?_))
   refine gL [0] (uV S.X f m t) ?_
   rintro _ _ ⟨rfl,rfl⟩
   refine gK 2 [(68,.bool (!(decide (S.X.ah < 8192))))] [] ?_
   refine NN (af.dx (p:=S.X.ah < 8192) (fun _=>by kernel_rfl) (fun h68=>?_) (fun h68=>?_))
   ·refine SR (gK 1 [(4,vI 177)] [] ?_)
    refine NN (af.ret (aj.aF (aj.aq ?_)))
    exact RT (vI 177) [0,1,2,3,4,5,6,7] (⟨L,by rw [show (cO S c)=(177,S,c) by unfold cO;rw [hab];simp only;rw [kD];simp only;rw [show (fY S d c.name to c.text)=(177,S) by unfold fY;rw [hlk];exact (if_neg (by simp)).trans ((if_pos bB).trans (if_neg h68))]]<;>exact⟨rfl,rfl⟩⟩)
   refine af.skip (aj.aQ (NX (SR ?_)))
   refine gK 7 [(72,vP f),(73,vP (L.b to)),(77,.string c.text),(78,.iface 162 (vP (L.b tk)))] [(5,a_ 6 cb)] ?_
   refine gL [0,3,5] (jk S.X f m t hX S.O L to eX c.text hC.tx bB (by omega) ⟨tk,1⟩ hkt (by simp) (by have:=hI.lb hlv;simp only at this ⊢;omega)) ?_
   rintro _ _ ⟨rfl,rfl⟩
   refine NS (ak.dN [(5,.abs (ay (bO (cV S.X S.O to c.text ⟨tk,1⟩) L)))] (fun w hS=>by rw [show bO (cV S.X S.O to c.text ⟨tk,1⟩) L=bO S.O L from iV];exact hS) ?_)
   refine gK 1 [(4,vI 0)] [] ?_
   refine NN (af.ret ?_)
   exact RT (vI 0) [0,3,4,1,5,2,6,7] (⟨L,by rw [show (cO S c)=(0,{ S with X:={ S.X with ah:=S.X.ah+1 },O:=cV S.X S.O to c.text ⟨tk,1⟩ },c) by unfold cO;rw [hab];simp only;rw [kD];simp only;rw [show (fY S d c.name to c.text)=(0,{ S with X:={ S.X with ah:=S.X.ah+1 },O:=cV S.X S.O to c.text ⟨tk,1⟩ }) by unfold fY;rw [hlk];exact (if_neg (by simp)).trans ((if_pos bB).trans (if_pos h68))]]<;>exact⟨rfl,rfl⟩⟩)
  ·have lG:(obj S.O ok).kind=1:=hI.kind fe
   refine af.bI (by kernel_rfl) (by kernel_rfl) ?_
   refine gQ 8 (y4 L to c) [(3,v_ 3 (bH L eX)),(7,a_ 6 cb)] ?_
   refine rS 5 eX bB ?_
   refine gQ 2 [(57,.bool true)] [] ?_
   refine NQ (NX ?_)
   refine CT (SR (gK 1 [(4,vI 171)] [] ?_))
   refine NN (af.ret (aj.aF (aj.aq ?_)))
   exact RT (vI 171) [0,1,2,3,4,5,6,7] (⟨L,by rw [show (cO S c)=(171,S,c) by unfold cO;rw [hab];simp only;rw [kD];simp only;rw [show (fY S d c.name to c.text)=(171,S) by unfold fY;rw [hlk];exact (if_neg (by simp)).trans (if_neg (by rw [bB];simp))]]<;>exact⟨rfl,rfl⟩⟩)
  ·have lG:(obj S.O ok).kind=2:=hI.kind fe
   refine af.bI (by kernel_rfl) (by kernel_rfl) ?_
   refine gQ 8 (y4 L to c) [(3,v_ 3 (bH L eX)),(7,a_ 6 cb)] ?_
   refine rS 5 eX bB ?_
   refine gQ 2 [(57,.bool true)] [] ?_
   refine NQ (NX ?_)
   refine CT (SR (gK 1 [(4,vI 171)] [] ?_))
   refine NN (af.ret (aj.aF (aj.aq ?_)))
   exact RT (vI 171) [0,1,2,3,4,5,6,7] (⟨L,by rw [show (cO S c)=(171,S,c) by unfold cO;rw [hab];simp only;rw [kD];simp only;rw [show (fY S d c.name to c.text)=(171,S) by unfold fY;rw [hlk];exact (if_neg (by simp)).trans (if_neg (by rw [bB];simp))]]<;>exact⟨rfl,rfl⟩⟩)
  have lG:(obj S.O ok).kind=3:=hI.kind fe
  refine af.bI (by kernel_rfl) (by kernel_rfl) ?_
  refine gQ 8 (y4 L to c) [(3,v_ 3 (bH L eX)),(7,a_ 6 cb)] ?_
  refine rS 5 eX bB ?_
  refine gQ 2 [(57,.bool true)] [] ?_
  refine NQ (NX ?_)
  refine CT (SR (gK 1 [(4,vI 171)] [] ?_))
  refine NN (af.ret (aj.aF (aj.aq ?_)))
  exact RT (vI 171) [0,1,2,3,4,5,6,7] (⟨L,by rw [show (cO S c)=(171,S,c) by unfold cO;rw [hab];simp only;rw [kD];simp only;rw [show (fY S d c.name to c.text)=(171,S) by unfold fY;rw [hlk];exact (if_neg (by simp)).trans (if_neg (by rw [bB];simp))]]<;>exact⟨rfl,rfl⟩⟩)
 ·have hkt:(obj S.O tk).kind=2:=hI.kind hlv
  refine af.bI (by kernel_rfl) (by kernel_rfl) ?_
  refine gQ 8 [(44,.map (some (L.m d))),(48,.string c.name)] [(3,v_ 3 (bH L hkd)),(7,a_ 6 cb)] ?_
  refine rS 5 hkd hlk ?_
  refine gQ 1 [(8,.iface 169 (vP (L.b tk)))] [] ?_
  refine NQ (NX (af.seq (af.block (SR ?_))))
  refine gK 3 [(50,.bool false)] [] ?_
  refine NN (CF (SR (gK 1 [(54,.iface 169 (vP (L.b tk)))] [] ?_)))
  refine gL [] (nk (vP (L.b tk))) ?_
  rintro _ _ ⟨rfl,rfl⟩
  refine gK 2 [(53,.bool true)] [] ?_
  refine NN (CT (SR (gK 1 [(4,vI 172)] [] ?_)))
  refine NN (af.ret (aj.aF (aj.aq ?_)))
  exact RT (vI 172) [0,1,2,3,4,5,6,7] (⟨L,by rw [show (cO S c)=(172,S,c) by unfold cO;rw [hab];simp only;rw [kD];simp only;rw [show (fY S d c.name to c.text)=(172,S) by unfold fY;rw [hlk];exact if_pos rfl]]<;>exact⟨rfl,rfl⟩⟩)
 have hkt:(obj S.O tk).kind=3:=hI.kind hlv
 refine af.bI (by kernel_rfl) (by kernel_rfl) ?_
 refine gQ 8 [(44,.map (some (L.m d))),(48,.string c.name)] [(3,v_ 3 (bH L hkd)),(7,a_ 6 cb)] ?_
 refine rS 5 hkd hlk ?_
 refine gQ 1 [(8,.iface 166 (vP (L.b tk)))] [] ?_
 refine NQ (NX (af.seq (af.block (SR ?_))))
 refine gK 3 [(50,.bool false)] [] ?_
 refine NN (CF (SR (gK 1 [(54,.iface 166 (vP (L.b tk)))] [] ?_)))
 refine gL [] (oC (vP (L.b tk))) ?_
 rintro _ _ ⟨rfl,rfl⟩
 refine gK 2 [(53,.bool false)] [] ?_
 refine NN (CF (af.seq ?_))
 have Bt:(obj S.O to).ah.length<=8192:=hI.ic hd2
 have Mp:=hC.tx
 rcases hI.mQ hd2 c.text with bB|⟨ok,bB,fe⟩|⟨ok,bB,fe⟩|⟨ok,bB,fe⟩
 ·refine af.bI (by kernel_rfl) (by kernel_rfl) ?_
  refine gQ 8 (y4 L to c) [(3,v_ 3 (bH L eX)),(7,a_ 6 cb)] ?_
  refine rS 5 eX bB ?_
  refine gQ 2 [(57,.bool false)] [] ?_
  refine NQ (NX ?_)
  refine CF (SR (gK 1 [(69,vP f)] [] ?_))
  refine gL [0] (uV S.X f m t) ?_
  rintro _ _ ⟨rfl,rfl⟩
  refine gK 2 [(68,.bool (!(decide (S.X.ah < 8192))))] [] ?_
  refine NN (af.dx (p:=S.X.ah < 8192) (fun _=>by kernel_rfl) (fun h68=>?_) (fun h68=>?_))
  ·refine SR (gK 1 [(4,vI 177)] [] ?_)
   refine NN (af.ret (aj.aF (aj.aq ?_)))
   exact RT (vI 177) [0,1,2,3,4,5,6,7] (⟨L,by rw [show (cO S c)=(177,S,c) by unfold cO;rw [hab];simp only;rw [kD];simp only;rw [show (fY S d c.name to c.text)=(177,S) by unfold fY;rw [hlk];exact (if_neg (by simp)).trans ((if_pos bB).trans (if_neg h68))]]<;>exact⟨rfl,rfl⟩⟩)
  refine af.skip (aj.aQ (NX (SR ?_)))
  refine gK 7 [(72,vP f),(73,vP (L.b to)),(77,.string c.text),(78,.iface 166 (vP (L.b tk)))] [(5,a_ 6 cb)] ?_
  refine gL [0,3,5] (jk S.X f m t hX S.O L to eX c.text hC.tx bB (by omega) ⟨tk,3⟩ hkt (by simp) (by have:=hI.lb hlv;simp only at this ⊢;omega)) ?_
  rintro _ _ ⟨rfl,rfl⟩
  refine NS (ak.dN [(5,.abs (ay (bO (cV S.X S.O to c.text ⟨tk,3⟩) L)))] (fun w hS=>by rw [show bO (cV S.X S.O to c.text ⟨tk,3⟩) L=bO S.O L from iV];exact hS) ?_)
  refine gK 1 [(4,vI 0)] [] ?_
  refine NN (af.ret ?_)
  exact RT (vI 0) [0,3,4,1,5,2,6,7] (⟨L,by rw [show (cO S c)=(0,{ S with X:={ S.X with ah:=S.X.ah+1 },O:=cV S.X S.O to c.text ⟨tk,3⟩ },c) by unfold cO;rw [hab];simp only;rw [kD];simp only;rw [show (fY S d c.name to c.text)=(0,{ S with X:={ S.X with ah:=S.X.ah+1 },O:=cV S.X S.O to c.text ⟨tk,3⟩ }) by unfold fY;rw [hlk];exact (if_neg (by simp)).trans ((if_pos bB).trans (if_pos h68))]]<;>exact⟨rfl,rfl⟩⟩)
 ·have lG:(obj S.O ok).kind=1:=hI.kind fe
  refine af.bI (by kernel_rfl) (by kernel_rfl) ?_
  refine gQ 8 (y4 L to c) [(3,v_ 3 (bH L eX)),(7,a_ 6 cb)] ?_
  refine rS 5 eX bB ?_
  refine gQ 2 [(57,.bool true)] [] ?_
  refine NQ (NX ?_)
  refine CT (SR (gK 1 [(4,vI 171)] [] ?_))
  refine NN (af.ret (aj.aF (aj.aq ?_)))
  exact RT (vI 171) [0,1,2,3,4,5,6,7] (⟨L,by rw [show (cO S c)=(171,S,c) by unfold cO;rw [hab];simp only;rw [kD];simp only;rw [show (fY S d c.name to c.text)=(171,S) by unfold fY;rw [hlk];exact (if_neg (by simp)).trans (if_neg (by rw [bB];simp))]]<;>exact⟨rfl,rfl⟩⟩)
 ·have lG:(obj S.O ok).kind=2:=hI.kind fe
  refine af.bI (by kernel_rfl) (by kernel_rfl) ?_
  refine gQ 8 (y4 L to c) [(3,v_ 3 (bH L eX)),(7,a_ 6 cb)] ?_
  refine rS 5 eX bB ?_
  refine gQ 2 [(57,.bool true)] [] ?_
  refine NQ (NX ?_)
  refine CT (SR (gK 1 [(4,vI 171)] [] ?_))
  refine NN (af.ret (aj.aF (aj.aq ?_)))
  exact RT (vI 171) [0,1,2,3,4,5,6,7] (⟨L,by rw [show (cO S c)=(171,S,c) by unfold cO;rw [hab];simp only;rw [kD];simp only;rw [show (fY S d c.name to c.text)=(171,S) by unfold fY;rw [hlk];exact (if_neg (by simp)).trans (if_neg (by rw [bB];simp))]]<;>exact⟨rfl,rfl⟩⟩)
 have lG:(obj S.O ok).kind=3:=hI.kind fe
 refine af.bI (by kernel_rfl) (by kernel_rfl) ?_
 refine gQ 8 (y4 L to c) [(3,v_ 3 (bH L eX)),(7,a_ 6 cb)] ?_
 refine rS 5 eX bB ?_
 refine gQ 2 [(57,.bool true)] [] ?_
 refine NQ (NX ?_)
 refine CT (SR (gK 1 [(4,vI 171)] [] ?_))
 refine NN (af.ret (aj.aF (aj.aq ?_)))
 exact RT (vI 171) [0,1,2,3,4,5,6,7] (⟨L,by rw [show (cO S c)=(171,S,c) by unfold cO;rw [hab];simp only;rw [kD];simp only;rw [show (fY S d c.name to c.text)=(171,S) by unfold fY;rw [hlk];exact (if_neg (by simp)).trans (if_neg (by rw [bB];simp))]]<;>exact⟨rfl,rfl⟩⟩)
theorem Ik {β:Bs} (S:aG) (L:HL) (f m t:Nat) (hI:Inv S) (cb:Nat) (c:ax) (hC:gT β c) :
    Spec Tryz.prog β 180 #[vP f,vP cb] ((pA f m t L S)++[pC cb c]) (fun v l=>∃ L2,v=vI (iz S c).1/\l=((pA f m t L2 ((iz S c).2.1))++[.blk cb (cC ((iz S c).2.2)) 88])):=by
 have hX:=hI.hX
 refine Spec.enter Tryz.func180 rfl Tryz.ntmps180 (Nat.le_of_ble_eq_true rfl) (fun R=>?_)
 refine af.seq ?_
 rcases hI.hand c.handle with dL|⟨tk,dL,hlv⟩|⟨tk,dL,hlv⟩
 ·refine af.region (gK 1 [] [] ?_)
  refine NN (af.seq (af.bI (by kernel_rfl) (by kernel_rfl) ?_))
  refine gQ 8 (OB t c) [(3,a_ 0 f),(7,a_ 6 cb)] ?_
  refine aR.call (f:=198) (args:=#[vP t,vI (c.handle)]) (d:=(some 18)) (pre:=[lP t S L]) (R:=(rL f m t S L cb c R)) (pk:=[2,0,1,3,4,5,6,7]) (ij:=[1,2,0,3,4,5,6,7]) (v0:=.tuple #[.nilIface,vI 131]) (fun _=>by kernel_rfl) (q5 t S.X.cH S.av (bn L S.us) c.handle hC.hw (qv dL)) rfl (by kernel_rfl) rfl (by kernel_rfl) (fun _ _ h=>h) ?_
  refine gQ 5 [(5,.nilIface),(6,vI 131)] [] ?_
  refine NQ (NX (af.seq (SR ?_)))
  refine gK 2 [(22,.bool true)] [] ?_
  refine NN (CT (SR (gK 2 [(4,vI 131)] [] ?_)))
  refine NN (af.ret (aj.aq ?_))
  exact RT (vI 131) [0,1,2,3,4,5,6,7] (⟨L,by rw [show (iz S c)=(131,S,c) by unfold iz;rw [dL]]<;>exact⟨rfl,rfl⟩⟩)
 ·have hkt:(obj S.O tk).kind=1:=hI.kind hlv
  refine af.region (gK 1 [] [] ?_)
  refine NN (af.seq (af.bI (by kernel_rfl) (by kernel_rfl) ?_))
  refine gQ 8 (OB t c) [(3,a_ 0 f),(7,a_ 6 cb)] ?_
  refine aR.call (f:=198) (args:=#[vP t,vI (c.handle)]) (d:=(some 18)) (pre:=[lP t S L]) (R:=(rL f m t S L cb c R)) (pk:=[2,0,1,3,4,5,6,7]) (ij:=[1,2,0,3,4,5,6,7]) (v0:=.tuple #[.iface 162 (vP (L.b tk)),vI 0]) (fun _=>by kernel_rfl) (mg t S.X.cH S.av (bn L S.us) c.handle hC.hw (dR L ⟨tk,1⟩) (kS dL)) rfl (by kernel_rfl) rfl (by kernel_rfl) (fun _ _ h=>h) ?_
  refine gQ 5 (Kq L tk) [] ?_
  refine NQ (NX (af.seq (SR ?_)))
  refine gK 2 [(22,.bool false)] [] ?_
  refine NN (CF (af.skip (NX (SR (gK 7 [(7,vP (L.b tk)),(8,.bool true)] [] ?_)))))
  refine NN (af.seq (SR (gK 2 [(30,.bool false)] [] ?_)))
  refine NN (CF (af.skip (NX (SR (gK 7 [(32,vP cb),(33,vP f),(34,vP (L.b tk)),(38,.slice c.dA (c.data.length) (c.dC))] [(6,a_ 6 cb)] ?_)))))
  refine gL [0,1,2,3,4,5] (Em S L f m t hI tk hlv c.dA c.dC c.data hC.da hC.dl hC.dc) ?_
  rintro _ _ ⟨L2,rfl,rfl⟩
  refine gC 7 [(6,vI ((dK S tk c.data).2.1))] [(5,a_ 6 cb)] [(6,[(12,vI ((dK S tk c.data).1))])] ?_
  refine NS (gK 2 [(4,vI ((dK S tk c.data).2.1))] [] ?_)
  refine NN (af.ret ?_)
  exact RT (vI ((dK S tk c.data).2.1)) [0,1,2,3,4,5,6,7] (⟨L2,by rw [show (iz S c)=((dK S tk c.data).2.1,(dK S tk c.data).2.2,{ c with answer:=(dK S tk c.data).1 }) by unfold iz;rw [dL];exact if_pos rfl]<;>exact⟨rfl,rfl⟩⟩)
 have hkt:(obj S.O tk).kind=2:=hI.kind hlv
 refine af.region (gK 1 [] [] ?_)
 refine NN (af.seq (af.bI (by kernel_rfl) (by kernel_rfl) ?_))
 refine gQ 8 (OB t c) [(3,a_ 0 f),(7,a_ 6 cb)] ?_
 refine aR.call (f:=198) (args:=#[vP t,vI (c.handle)]) (d:=(some 18)) (pre:=[lP t S L]) (R:=(rL f m t S L cb c R)) (pk:=[2,0,1,3,4,5,6,7]) (ij:=[1,2,0,3,4,5,6,7]) (v0:=.tuple #[.iface 169 (vP (L.b tk)),vI 0]) (fun _=>by kernel_rfl) (mg t S.X.cH S.av (bn L S.us) c.handle hC.hw (dR L ⟨tk,2⟩) (kS dL)) rfl (by kernel_rfl) rfl (by kernel_rfl) (fun _ _ h=>h) ?_
 refine gQ 5 (Kr L tk) [] ?_
 refine NQ (NX (af.seq (SR ?_)))
 refine gK 2 [(22,.bool false)] [] ?_
 refine NN (CF (af.skip (NX (SR (gK 7 [(7,.pointer none),(8,.bool false)] [] ?_)))))
 refine NN (af.seq (SR (gK 2 [(30,.bool true)] [] ?_)))
 refine NN (CT (SR (gK 1 [(4,vI 172)] [] ?_)))
 refine NN (af.ret (aj.aq ?_))
 exact RT (vI 172) [0,1,2,3,4,5,6,7] (⟨L,by rw [show (iz S c)=(172,S,c) by unfold iz;rw [dL];exact if_neg (by simp)]<;>exact⟨rfl,rfl⟩⟩)
theorem oG {β:Bs} (S:aG) (L:HL) (hI:Inv S) (cb:Nat) (c:ax) (ot:Option Th) (ht:ot=none\/(∃ k,ot=some ⟨k,1⟩/\Live S.idx ⟨k,1⟩)\/(∃ k,ot=some ⟨k,2⟩/\Live S.idx ⟨k,2⟩)\/∃ k,ot=some ⟨k,3⟩/\Live S.idx ⟨k,3⟩) :
    Spec Tryz.prog β 200 #[vP cb,(match ot with|none=>.nilIface|some th=>dR L th)] [pO S.O L,pC cb c] (fun v l=>v=.tuple #[]/\l=[pO S.O L,.blk cb (cC (mP S.O c ot)) 88]):=by
 refine Spec.enter Tryz.func200 rfl Tryz.ntmps200 (Nat.le_of_ble_eq_true rfl) (fun R=>?_)
 refine af.seq ?_
 rcases ht with rfl|⟨tk,rfl,hlv⟩|⟨tk,rfl,hlv⟩|⟨tk,rfl,hlv⟩
 ·refine af.region (gC 21 [] [(8,a_ 1 cb),(11,a_ 1 cb),(14,a_ 1 cb),(17,a_ 1 cb),(20,A_ 1 cb 2)] [(1,(DH))] ?_)
  refine NN (af.seq (SR (gK 2 [(22,.bool true)] [] ?_)))
  refine NN (CT (af.ret (aj.aq ?_)))
  exact RT (.tuple #[]) [0,1,2] (⟨rfl,rfl⟩)
 ·have hkt:(obj S.O tk).kind=1:=hI.kind hlv
  refine af.region (gC 21 [] [(8,a_ 1 cb),(11,a_ 1 cb),(14,a_ 1 cb),(17,a_ 1 cb),(20,A_ 1 cb 2)] [(1,(DH))] ?_)
  refine NN (af.seq (SR (gK 2 [(22,.bool false)] [] ?_)))
  refine NN (CF (af.skip (NX (SR (gK 1 [(23,.iface 162 (vP (L.b tk)))] [] ?_)))))
  refine gL [] (dr (L.b tk)) ?_
  rintro _ _ ⟨rfl,rfl⟩
  refine gK 1 [(4,vP (L.b tk))] [] ?_
  refine NN (af.bU (S:=[pO S.O L]) [0,1,2,3,4,5,6,7,8,9,10,12,13,14,15,16,17,18,19,20,21,22,23,24,25,26,27,11,28,29,30,31,32,33,34,35,36,37,38,39,40,41,42,43,44,45] 27 [0] (by kernel_rfl) (by kernel_rfl) rfl (by kernel_rfl) ?_)
  refine gR 0 [11,28,29,30,31,32,33,34,35,36,37,38,39,40,41,42,43,44,45] (Oy cb S tk++[(35,.iface 162 (vP (L.b tk)))]++Oz S tk) [0,1,2,3,4,5,6,7,8,9,10,12,13,14,15,16,17,18,19,20,21,22,23,24,25,26,27] [(9,v_ 0 (rJ L hkt)),(14,v_ 0 (tq L hkt)),(18,v_ 0 (zG L hkt)),(22,v_ 0 (zH L hkt)),(26,p_ ⟨[.view 0 (.int .i64 ((obj S.O tk).sec)),.view 0 (.int .i64 ((obj S.O tk).nano))],none,none,none,none⟩ [(∀ F w,(ay (bN S.O L)).h F w->w.cell? ⟨(L.b tk),5,none⟩=some (vI ((obj S.O tk).nano))),(∀ F w,(ay (bN S.O L)).h F w->w.cell? ⟨(L.b tk),4,none⟩=some (vI ((obj S.O tk).sec)))] ⟨eH (by rw [hkt];decide) (rfl),eH (by rw [hkt];decide) (rfl),trivial⟩)] ?_
  refine mL [0] [] (nj (vP (L.b tk))) ?_ (by rintro _ _ ⟨rfl,rfl⟩;rfl)
  rintro _ _ ⟨rfl,rfl⟩
  refine aO.cut (ι:=Unit) (fr':=fun (_:Unit)=>([(26,vP cb)]++rK cb++[(34,vI ((obj S.O tk).id)),(36,vI 1),(40,vI ((obj S.O tk).mode))]++mU S tk++[(53,vP cb)])) (hp':=fun (_:Unit)=>[pO S.O L,Jd cb c,.abs R]) [0] rfl rfl ?_ rfl (fun _=>by kernel_rfl) ?_
  ·refine gK 1 [(53,vP cb)] [] ?_
   refine NL ?_
   exact MD () [26,27,28,29,30,34,36,40,44,48,52,53] [0,1,2]
  rintro _
  refine aO.cut (ι:=Unit) (fr':=fun (_:Unit)=>([(26,vP cb)]++rK cb++[(34,vI ((obj S.O tk).id)),(36,vI 1),(40,vI ((obj S.O tk).mode))]++mU S tk++[(54,.pointer (some ⟨cb,12,none⟩))])) (hp':=fun (_:Unit)=>[pO S.O L,Jd cb c,.abs R]) [0] rfl rfl ?_ rfl (fun _=>by kernel_rfl) ?_
  ·refine gK 1 [(54,.pointer (some ⟨cb,12,none⟩))] [] ?_
   refine NL ?_
   exact MD () [26,27,28,29,30,34,36,40,44,48,52,54] [0,1,2]
  rintro _
  refine mC [0] [] [(0,a_ 1 cb)] [(1,[(12,vI ((obj S.O tk).id))])] ?_
  refine aO.cut (ι:=Unit) (fr':=fun (_:Unit)=>(rK cb++[(36,vI 1),(40,vI ((obj S.O tk).mode))]++mU S tk++[(55,vP cb)])) (hp':=fun (_:Unit)=>[pO S.O L,Je cb c S tk,.abs R]) [0] rfl rfl ?_ rfl (fun _=>by kernel_rfl) ?_
  ·refine gK 1 [(55,vP cb)] [] ?_
   refine NL ?_
   exact MD () [27,28,29,30,36,40,44,48,52,55] [0,1,2]
  rintro _
  refine aO.cut (ι:=Unit) (fr':=fun (_:Unit)=>(rK cb++[(36,vI 1),(40,vI ((obj S.O tk).mode))]++mU S tk++[(56,.pointer (some ⟨cb,2,none⟩))])) (hp':=fun (_:Unit)=>[pO S.O L,Je cb c S tk,.abs R]) [0] rfl rfl ?_ rfl (fun _=>by kernel_rfl) ?_
  ·refine gK 1 [(56,.pointer (some ⟨cb,2,none⟩))] [] ?_
   refine NL ?_
   exact MD () [27,28,29,30,36,40,44,48,52,56] [0,1,2]
  rintro _
  refine mC [0] [] [(0,a_ 1 cb)] [(1,[(2,vI 1)])] ?_
  refine aO.cut (ι:=Unit) (fr':=fun (_:Unit)=>(DJ cb S tk++mU S tk++[(57,vP cb)])) (hp':=fun (_:Unit)=>[pO S.O L,pC cb { c with other:=1,mode:=0,uid:=0,gid:=0,sec:=0,nano:=0,answer:=(obj S.O tk).id },.abs R]) [0] rfl rfl ?_ rfl (fun _=>by kernel_rfl) ?_
  ·refine gK 1 [(57,vP cb)] [] ?_
   refine NL ?_
   exact MD () [28,29,30,40,44,48,52,57] [0,1,2]
  rintro _
  refine aO.cut (ι:=Unit) (fr':=fun (_:Unit)=>(DJ cb S tk++mU S tk++[(58,.pointer (some ⟨cb,6,none⟩))])) (hp':=fun (_:Unit)=>[pO S.O L,pC cb { c with other:=1,mode:=0,uid:=0,gid:=0,sec:=0,nano:=0,answer:=(obj S.O tk).id },.abs R]) [0] rfl rfl ?_ rfl (fun _=>by kernel_rfl) ?_
  ·refine gK 1 [(58,.pointer (some ⟨cb,6,none⟩))] [] ?_
   refine NL ?_
   exact MD () [28,29,30,40,44,48,52,58] [0,1,2]
  rintro _
  refine mC [0] [] [(0,a_ 1 cb)] [(1,[(6,vI ((obj S.O tk).mode))])] ?_
  refine aO.cut (ι:=Unit) (fr':=fun (_:Unit)=>([(29,vP cb),(30,vP cb)]++mU S tk++[(59,vP cb)])) (hp':=fun (_:Unit)=>[pO S.O L,pC cb { c with other:=1,mode:=(obj S.O tk).mode,uid:=0,gid:=0,sec:=0,nano:=0,answer:=(obj S.O tk).id },.abs R]) [0] rfl rfl ?_ rfl (fun _=>by kernel_rfl) ?_
  ·refine gK 1 [(59,vP cb)] [] ?_
   refine NL ?_
   exact MD () [29,30,44,48,52,59] [0,1,2]
  rintro _
  refine aO.cut (ι:=Unit) (fr':=fun (_:Unit)=>([(29,vP cb),(30,vP cb)]++mU S tk++[(60,.pointer (some ⟨cb,7,none⟩))])) (hp':=fun (_:Unit)=>[pO S.O L,pC cb { c with other:=1,mode:=(obj S.O tk).mode,uid:=0,gid:=0,sec:=0,nano:=0,answer:=(obj S.O tk).id },.abs R]) [0] rfl rfl ?_ rfl (fun _=>by kernel_rfl) ?_
  ·refine gK 1 [(60,.pointer (some ⟨cb,7,none⟩))] [] ?_
   refine NL ?_
   exact MD () [29,30,44,48,52,60] [0,1,2]
  rintro _
  refine mC [0] [] [(0,a_ 1 cb)] [(1,[(7,vI ((obj S.O tk).uid))])] ?_
  refine aO.cut (ι:=Unit) (fr':=fun (_:Unit)=>(DG cb S tk++[(61,vP cb)])) (hp':=fun (_:Unit)=>[pO S.O L,UC cb c S tk,.abs R]) [0] rfl rfl ?_ rfl (fun _=>by kernel_rfl) ?_
  ·refine gK 1 [(61,vP cb)] [] ?_
   refine NL ?_
   exact MD () [30,48,52,61] [0,1,2]
  rintro _
  refine aO.cut (ι:=Unit) (fr':=fun (_:Unit)=>(DG cb S tk++[(62,.pointer (some ⟨cb,8,none⟩))])) (hp':=fun (_:Unit)=>[pO S.O L,UC cb c S tk,.abs R]) [0] rfl rfl ?_ rfl (fun _=>by kernel_rfl) ?_
  ·refine gK 1 [(62,.pointer (some ⟨cb,8,none⟩))] [] ?_
   refine NL ?_
   exact MD () [30,48,52,62] [0,1,2]
  rintro _
  refine mC [0] [] [(0,a_ 1 cb)] [(1,[(8,vI ((obj S.O tk).gid))])] ?_
  refine aO.cut (ι:=Unit) (fr':=fun (_:Unit)=>[(52,.agg #[vI ((obj S.O tk).sec),vI ((obj S.O tk).nano)]),(63,vP cb)]) (hp':=fun (_:Unit)=>[pO S.O L,UD cb c S tk,.abs R]) [0] rfl rfl ?_ rfl (fun _=>by kernel_rfl) ?_
  ·refine gK 1 [(63,vP cb)] [] ?_
   refine NL ?_
   exact MD () [52,63] [0,1,2]
  rintro _
  refine aO.cut (ι:=Unit) (fr':=fun (_:Unit)=>(OA S tk cb)) (hp':=fun (_:Unit)=>[pO S.O L,UD cb c S tk,.abs R]) [0] rfl rfl ?_ rfl (fun _=>by kernel_rfl) ?_
  ·refine gK 1 [(64,.pointer (some ⟨cb,9,none⟩))] [] ?_
   refine NL ?_
   exact MD () [52,64] [0,1,2]
  rintro _
  refine aO.last rfl rfl ?_
  refine gC 1 [] [(0,A_ 1 cb 2)] [(1,(OC S tk))] ?_
  refine NL (aj.np ?_)
  exact RF (.tuple #[]) [0,1,2] (⟨rfl,rfl⟩)
 ·have hkt:(obj S.O tk).kind=2:=hI.kind hlv
  refine af.region (gC 21 [] [(8,a_ 1 cb),(11,a_ 1 cb),(14,a_ 1 cb),(17,a_ 1 cb),(20,A_ 1 cb 2)] [(1,(DH))] ?_)
  refine NN (af.seq (SR (gK 2 [(22,.bool false)] [] ?_)))
  refine NN (CF (af.skip (NX (SR (gK 1 [(23,.iface 169 (vP (L.b tk)))] [] ?_)))))
  refine gL [] (dr (L.b tk)) ?_
  rintro _ _ ⟨rfl,rfl⟩
  refine gK 1 [(4,vP (L.b tk))] [] ?_
  refine NN (af.bU (S:=[pO S.O L]) [0,1,2,3,4,5,6,7,8,9,10,12,13,14,15,16,17,18,19,20,21,22,23,24,25,26,27,11,28,29,30,31,32,33,34,35,36,37,38,39,40,41,42,43,44,45] 27 [0] (by kernel_rfl) (by kernel_rfl) rfl (by kernel_rfl) ?_)
  refine gR 0 [11,28,29,30,31,32,33,34,35,36,37,38,39,40,41,42,43,44,45] (Oy cb S tk++[(35,.iface 169 (vP (L.b tk)))]++Oz S tk) [0,1,2,3,4,5,6,7,8,9,10,12,13,14,15,16,17,18,19,20,21,22,23,24,25,26,27] [(9,v_ 0 (rJ L hkt)),(14,v_ 0 (tq L hkt)),(18,v_ 0 (zG L hkt)),(22,v_ 0 (zH L hkt)),(26,p_ ⟨[.view 0 (.int .i64 ((obj S.O tk).sec)),.view 0 (.int .i64 ((obj S.O tk).nano))],none,none,none,none⟩ [(∀ F w,(ay (bN S.O L)).h F w->w.cell? ⟨(L.b tk),5,none⟩=some (vI ((obj S.O tk).nano))),(∀ F w,(ay (bN S.O L)).h F w->w.cell? ⟨(L.b tk),4,none⟩=some (vI ((obj S.O tk).sec)))] ⟨eH (by rw [hkt];decide) (rfl),eH (by rw [hkt];decide) (rfl),trivial⟩)] ?_
  refine mL [0] [] (nk (vP (L.b tk))) ?_ (by rintro _ _ ⟨rfl,rfl⟩;rfl)
  rintro _ _ ⟨rfl,rfl⟩
  refine aO.cut (ι:=Unit) (fr':=fun (_:Unit)=>([(26,vP cb)]++rK cb++[(34,vI ((obj S.O tk).id)),(36,vI 2),(40,vI ((obj S.O tk).mode))]++mU S tk++[(53,vP cb)])) (hp':=fun (_:Unit)=>[pO S.O L,Jd cb c,.abs R]) [0] rfl rfl ?_ rfl (fun _=>by kernel_rfl) ?_
  ·refine gK 1 [(53,vP cb)] [] ?_
   refine NL ?_
   exact MD () [26,27,28,29,30,34,36,40,44,48,52,53] [0,1,2]
  rintro _
  refine aO.cut (ι:=Unit) (fr':=fun (_:Unit)=>([(26,vP cb)]++rK cb++[(34,vI ((obj S.O tk).id)),(36,vI 2),(40,vI ((obj S.O tk).mode))]++mU S tk++[(54,.pointer (some ⟨cb,12,none⟩))])) (hp':=fun (_:Unit)=>[pO S.O L,Jd cb c,.abs R]) [0] rfl rfl ?_ rfl (fun _=>by kernel_rfl) ?_
  ·refine gK 1 [(54,.pointer (some ⟨cb,12,none⟩))] [] ?_
   refine NL ?_
   exact MD () [26,27,28,29,30,34,36,40,44,48,52,54] [0,1,2]
  rintro _
  refine mC [0] [] [(0,a_ 1 cb)] [(1,[(12,vI ((obj S.O tk).id))])] ?_
  refine aO.cut (ι:=Unit) (fr':=fun (_:Unit)=>(rK cb++[(36,vI 2),(40,vI ((obj S.O tk).mode))]++mU S tk++[(55,vP cb)])) (hp':=fun (_:Unit)=>[pO S.O L,Je cb c S tk,.abs R]) [0] rfl rfl ?_ rfl (fun _=>by kernel_rfl) ?_
  ·refine gK 1 [(55,vP cb)] [] ?_
   refine NL ?_
   exact MD () [27,28,29,30,36,40,44,48,52,55] [0,1,2]
  rintro _
  refine aO.cut (ι:=Unit) (fr':=fun (_:Unit)=>(rK cb++[(36,vI 2),(40,vI ((obj S.O tk).mode))]++mU S tk++[(56,.pointer (some ⟨cb,2,none⟩))])) (hp':=fun (_:Unit)=>[pO S.O L,Je cb c S tk,.abs R]) [0] rfl rfl ?_ rfl (fun _=>by kernel_rfl) ?_
  ·refine gK 1 [(56,.pointer (some ⟨cb,2,none⟩))] [] ?_
   refine NL ?_
   exact MD () [27,28,29,30,36,40,44,48,52,56] [0,1,2]
  rintro _
  refine mC [0] [] [(0,a_ 1 cb)] [(1,[(2,vI 2)])] ?_
  refine aO.cut (ι:=Unit) (fr':=fun (_:Unit)=>(DJ cb S tk++mU S tk++[(57,vP cb)])) (hp':=fun (_:Unit)=>[pO S.O L,pC cb { c with other:=2,mode:=0,uid:=0,gid:=0,sec:=0,nano:=0,answer:=(obj S.O tk).id },.abs R]) [0] rfl rfl ?_ rfl (fun _=>by kernel_rfl) ?_
  ·refine gK 1 [(57,vP cb)] [] ?_
   refine NL ?_
   exact MD () [28,29,30,40,44,48,52,57] [0,1,2]
  rintro _
  refine aO.cut (ι:=Unit) (fr':=fun (_:Unit)=>(DJ cb S tk++mU S tk++[(58,.pointer (some ⟨cb,6,none⟩))])) (hp':=fun (_:Unit)=>[pO S.O L,pC cb { c with other:=2,mode:=0,uid:=0,gid:=0,sec:=0,nano:=0,answer:=(obj S.O tk).id },.abs R]) [0] rfl rfl ?_ rfl (fun _=>by kernel_rfl) ?_
  ·refine gK 1 [(58,.pointer (some ⟨cb,6,none⟩))] [] ?_
   refine NL ?_
   exact MD () [28,29,30,40,44,48,52,58] [0,1,2]
  rintro _
  refine mC [0] [] [(0,a_ 1 cb)] [(1,[(6,vI ((obj S.O tk).mode))])] ?_
  refine aO.cut (ι:=Unit) (fr':=fun (_:Unit)=>([(29,vP cb),(30,vP cb)]++mU S tk++[(59,vP cb)])) (hp':=fun (_:Unit)=>[pO S.O L,pC cb { c with other:=2,mode:=(obj S.O tk).mode,uid:=0,gid:=0,sec:=0,nano:=0,answer:=(obj S.O tk).id },.abs R]) [0] rfl rfl ?_ rfl (fun _=>by kernel_rfl) ?_
  ·refine gK 1 [(59,vP cb)] [] ?_
   refine NL ?_
   exact MD () [29,30,44,48,52,59] [0,1,2]
  rintro _
  refine aO.cut (ι:=Unit) (fr':=fun (_:Unit)=>([(29,vP cb),(30,vP cb)]++mU S tk++[(60,.pointer (some ⟨cb,7,none⟩))])) (hp':=fun (_:Unit)=>[pO S.O L,pC cb { c with other:=2,mode:=(obj S.O tk).mode,uid:=0,gid:=0,sec:=0,nano:=0,answer:=(obj S.O tk).id },.abs R]) [0] rfl rfl ?_ rfl (fun _=>by kernel_rfl) ?_
  ·refine gK 1 [(60,.pointer (some ⟨cb,7,none⟩))] [] ?_
   refine NL ?_
   exact MD () [29,30,44,48,52,60] [0,1,2]
  rintro _
  refine mC [0] [] [(0,a_ 1 cb)] [(1,[(7,vI ((obj S.O tk).uid))])] ?_
  refine aO.cut (ι:=Unit) (fr':=fun (_:Unit)=>(DG cb S tk++[(61,vP cb)])) (hp':=fun (_:Unit)=>[pO S.O L,UE cb c S tk,.abs R]) [0] rfl rfl ?_ rfl (fun _=>by kernel_rfl) ?_
  ·refine gK 1 [(61,vP cb)] [] ?_
   refine NL ?_
   exact MD () [30,48,52,61] [0,1,2]
  rintro _
  refine aO.cut (ι:=Unit) (fr':=fun (_:Unit)=>(DG cb S tk++[(62,.pointer (some ⟨cb,8,none⟩))])) (hp':=fun (_:Unit)=>[pO S.O L,UE cb c S tk,.abs R]) [0] rfl rfl ?_ rfl (fun _=>by kernel_rfl) ?_
  ·refine gK 1 [(62,.pointer (some ⟨cb,8,none⟩))] [] ?_
   refine NL ?_
   exact MD () [30,48,52,62] [0,1,2]
  rintro _
  refine mC [0] [] [(0,a_ 1 cb)] [(1,[(8,vI ((obj S.O tk).gid))])] ?_
  refine aO.cut (ι:=Unit) (fr':=fun (_:Unit)=>[(52,.agg #[vI ((obj S.O tk).sec),vI ((obj S.O tk).nano)]),(63,vP cb)]) (hp':=fun (_:Unit)=>[pO S.O L,UF cb c S tk,.abs R]) [0] rfl rfl ?_ rfl (fun _=>by kernel_rfl) ?_
  ·refine gK 1 [(63,vP cb)] [] ?_
   refine NL ?_
   exact MD () [52,63] [0,1,2]
  rintro _
  refine aO.cut (ι:=Unit) (fr':=fun (_:Unit)=>(OA S tk cb)) (hp':=fun (_:Unit)=>[pO S.O L,UF cb c S tk,.abs R]) [0] rfl rfl ?_ rfl (fun _=>by kernel_rfl) ?_
  ·refine gK 1 [(64,.pointer (some ⟨cb,9,none⟩))] [] ?_
   refine NL ?_
   exact MD () [52,64] [0,1,2]
  rintro _
  refine aO.last rfl rfl ?_
  refine gC 1 [] [(0,A_ 1 cb 2)] [(1,(OC S tk))] ?_
  refine NL (aj.np ?_)
  exact RF (.tuple #[]) [0,1,2] (⟨rfl,rfl⟩)
 have hkt:(obj S.O tk).kind=3:=hI.kind hlv
 refine af.region (gC 21 [] [(8,a_ 1 cb),(11,a_ 1 cb),(14,a_ 1 cb),(17,a_ 1 cb),(20,A_ 1 cb 2)] [(1,(DH))] ?_)
 refine NN (af.seq (SR (gK 2 [(22,.bool false)] [] ?_)))
 refine NN (CF (af.skip (NX (SR (gK 1 [(23,.iface 166 (vP (L.b tk)))] [] ?_)))))
 refine gL [] (dr (L.b tk)) ?_
 rintro _ _ ⟨rfl,rfl⟩
 refine gK 1 [(4,vP (L.b tk))] [] ?_
 refine NN (af.bU (S:=[pO S.O L]) [0,1,2,3,4,5,6,7,8,9,10,12,13,14,15,16,17,18,19,20,21,22,23,24,25,26,27,11,28,29,30,31,32,33,34,35,36,37,38,39,40,41,42,43,44,45] 27 [0] (by kernel_rfl) (by kernel_rfl) rfl (by kernel_rfl) ?_)
 refine gR 0 [11,28,29,30,31,32,33,34,35,36,37,38,39,40,41,42,43,44,45] (Oy cb S tk++[(35,.iface 166 (vP (L.b tk)))]++Oz S tk) [0,1,2,3,4,5,6,7,8,9,10,12,13,14,15,16,17,18,19,20,21,22,23,24,25,26,27] [(9,v_ 0 (rJ L hkt)),(14,v_ 0 (tq L hkt)),(18,v_ 0 (zG L hkt)),(22,v_ 0 (zH L hkt)),(26,p_ ⟨[.view 0 (.int .i64 ((obj S.O tk).sec)),.view 0 (.int .i64 ((obj S.O tk).nano))],none,none,none,none⟩ [(∀ F w,(ay (bN S.O L)).h F w->w.cell? ⟨(L.b tk),5,none⟩=some (vI ((obj S.O tk).nano))),(∀ F w,(ay (bN S.O L)).h F w->w.cell? ⟨(L.b tk),4,none⟩=some (vI ((obj S.O tk).sec)))] ⟨eH (by rw [hkt];decide) (rfl),eH (by rw [hkt];decide) (rfl),trivial⟩)] ?_
 refine mL [0] [] (oC (vP (L.b tk))) ?_ (by rintro _ _ ⟨rfl,rfl⟩;rfl)
 rintro _ _ ⟨rfl,rfl⟩
 refine aO.cut (ι:=Unit) (fr':=fun (_:Unit)=>([(26,vP cb)]++rK cb++[(34,vI ((obj S.O tk).id)),(36,vI 3),(40,vI ((obj S.O tk).mode))]++mU S tk++[(53,vP cb)])) (hp':=fun (_:Unit)=>[pO S.O L,Jd cb c,.abs R]) [0] rfl rfl ?_ rfl (fun _=>by kernel_rfl) ?_
 ·refine gK 1 [(53,vP cb)] [] ?_
  refine NL ?_
  exact MD () [26,27,28,29,30,34,36,40,44,48,52,53] [0,1,2]
 rintro _
 refine aO.cut (ι:=Unit) (fr':=fun (_:Unit)=>([(26,vP cb)]++rK cb++[(34,vI ((obj S.O tk).id)),(36,vI 3),(40,vI ((obj S.O tk).mode))]++mU S tk++[(54,.pointer (some ⟨cb,12,none⟩))])) (hp':=fun (_:Unit)=>[pO S.O L,Jd cb c,.abs R]) [0] rfl rfl ?_ rfl (fun _=>by kernel_rfl) ?_
 ·refine gK 1 [(54,.pointer (some ⟨cb,12,none⟩))] [] ?_
  refine NL ?_
  exact MD () [26,27,28,29,30,34,36,40,44,48,52,54] [0,1,2]
 rintro _
 refine mC [0] [] [(0,a_ 1 cb)] [(1,[(12,vI ((obj S.O tk).id))])] ?_
 refine aO.cut (ι:=Unit) (fr':=fun (_:Unit)=>(rK cb++[(36,vI 3),(40,vI ((obj S.O tk).mode))]++mU S tk++[(55,vP cb)])) (hp':=fun (_:Unit)=>[pO S.O L,Je cb c S tk,.abs R]) [0] rfl rfl ?_ rfl (fun _=>by kernel_rfl) ?_
 ·refine gK 1 [(55,vP cb)] [] ?_
  refine NL ?_
  exact MD () [27,28,29,30,36,40,44,48,52,55] [0,1,2]
 rintro _
 refine aO.cut (ι:=Unit) (fr':=fun (_:Unit)=>(rK cb++[(36,vI 3),(40,vI ((obj S.O tk).mode))]++mU S tk++[(56,.pointer (some ⟨cb,2,none⟩))])) (hp':=fun (_:Unit)=>[pO S.O L,Je cb c S tk,.abs R]) [0] rfl rfl ?_ rfl (fun _=>by kernel_rfl) ?_
 ·refine gK 1 [(56,.pointer (some ⟨cb,2,none⟩))] [] ?_
  refine NL ?_
  exact MD () [27,28,29,30,36,40,44,48,52,56] [0,1,2]
 rintro _
 refine mC [0] [] [(0,a_ 1 cb)] [(1,[(2,vI 3)])] ?_
 refine aO.cut (ι:=Unit) (fr':=fun (_:Unit)=>(DJ cb S tk++mU S tk++[(57,vP cb)])) (hp':=fun (_:Unit)=>[pO S.O L,pC cb { c with other:=3,mode:=0,uid:=0,gid:=0,sec:=0,nano:=0,answer:=(obj S.O tk).id },.abs R]) [0] rfl rfl ?_ rfl (fun _=>by kernel_rfl) ?_
 ·refine gK 1 [(57,vP cb)] [] ?_
  refine NL ?_
  exact MD () [28,29,30,40,44,48,52,57] [0,1,2]
 rintro _
 refine aO.cut (ι:=Unit) (fr':=fun (_:Unit)=>(DJ cb S tk++mU S tk++[(58,.pointer (some ⟨cb,6,none⟩))])) (hp':=fun (_:Unit)=>[pO S.O L,pC cb { c with other:=3,mode:=0,uid:=0,gid:=0,sec:=0,nano:=0,answer:=(obj S.O tk).id },.abs R]) [0] rfl rfl ?_ rfl (fun _=>by kernel_rfl) ?_
 ·refine gK 1 [(58,.pointer (some ⟨cb,6,none⟩))] [] ?_
  refine NL ?_
  exact MD () [28,29,30,40,44,48,52,58] [0,1,2]
 rintro _
 refine mC [0] [] [(0,a_ 1 cb)] [(1,[(6,vI ((obj S.O tk).mode))])] ?_
 refine aO.cut (ι:=Unit) (fr':=fun (_:Unit)=>([(29,vP cb),(30,vP cb)]++mU S tk++[(59,vP cb)])) (hp':=fun (_:Unit)=>[pO S.O L,pC cb { c with other:=3,mode:=(obj S.O tk).mode,uid:=0,gid:=0,sec:=0,nano:=0,answer:=(obj S.O tk).id },.abs R]) [0] rfl rfl ?_ rfl (fun _=>by kernel_rfl) ?_
 ·refine gK 1 [(59,vP cb)] [] ?_
  refine NL ?_
  exact MD () [29,30,44,48,52,59] [0,1,2]
 rintro _
 refine aO.cut (ι:=Unit) (fr':=fun (_:Unit)=>([(29,vP cb),(30,vP cb)]++mU S tk++[(60,.pointer (some ⟨cb,7,none⟩))])) (hp':=fun (_:Unit)=>[pO S.O L,pC cb { c with other:=3,mode:=(obj S.O tk).mode,uid:=0,gid:=0,sec:=0,nano:=0,answer:=(obj S.O tk).id },.abs R]) [0] rfl rfl ?_ rfl (fun _=>by kernel_rfl) ?_
 ·refine gK 1 [(60,.pointer (some ⟨cb,7,none⟩))] [] ?_
  refine NL ?_
  exact MD () [29,30,44,48,52,60] [0,1,2]
 rintro _
 refine mC [0] [] [(0,a_ 1 cb)] [(1,[(7,vI ((obj S.O tk).uid))])] ?_
 refine aO.cut (ι:=Unit) (fr':=fun (_:Unit)=>(DG cb S tk++[(61,vP cb)])) (hp':=fun (_:Unit)=>[pO S.O L,UG cb c S tk,.abs R]) [0] rfl rfl ?_ rfl (fun _=>by kernel_rfl) ?_
 ·refine gK 1 [(61,vP cb)] [] ?_
  refine NL ?_
  exact MD () [30,48,52,61] [0,1,2]
 rintro _
 refine aO.cut (ι:=Unit) (fr':=fun (_:Unit)=>(DG cb S tk++[(62,.pointer (some ⟨cb,8,none⟩))])) (hp':=fun (_:Unit)=>[pO S.O L,UG cb c S tk,.abs R]) [0] rfl rfl ?_ rfl (fun _=>by kernel_rfl) ?_
 ·refine gK 1 [(62,.pointer (some ⟨cb,8,none⟩))] [] ?_
  refine NL ?_
  exact MD () [30,48,52,62] [0,1,2]
 rintro _
 refine mC [0] [] [(0,a_ 1 cb)] [(1,[(8,vI ((obj S.O tk).gid))])] ?_
 refine aO.cut (ι:=Unit) (fr':=fun (_:Unit)=>[(52,.agg #[vI ((obj S.O tk).sec),vI ((obj S.O tk).nano)]),(63,vP cb)]) (hp':=fun (_:Unit)=>[pO S.O L,UH cb c S tk,.abs R]) [0] rfl rfl ?_ rfl (fun _=>by kernel_rfl) ?_
 ·refine gK 1 [(63,vP cb)] [] ?_
  refine NL ?_
  exact MD () [52,63] [0,1,2]
 rintro _
 refine aO.cut (ι:=Unit) (fr':=fun (_:Unit)=>(OA S tk cb)) (hp':=fun (_:Unit)=>[pO S.O L,UH cb c S tk,.abs R]) [0] rfl rfl ?_ rfl (fun _=>by kernel_rfl) ?_
 ·refine gK 1 [(64,.pointer (some ⟨cb,9,none⟩))] [] ?_
  refine NL ?_
  exact MD () [52,64] [0,1,2]
 rintro _
 refine aO.last rfl rfl ?_
 refine gC 1 [] [(0,A_ 1 cb 2)] [(1,(OC S tk))] ?_
 refine NL (aj.np ?_)
 exact RF (.tuple #[]) [0,1,2] (⟨rfl,rfl⟩)
theorem Ku {β:Bs} (S:aG) (L:HL) (f m t:Nat) (hI:Inv S) (cb:Nat) (c:ax) (hC:gT β c) :
    Spec Tryz.prog β 182 #[vP f,vP cb] ((pA f m t L S)++[pC cb c]) (fun v l=>∃ L2,v=vI (kY S c).1/\l=((pA f m t L2 ((kY S c).2.1))++[.blk cb (cC ((kY S c).2.2)) 88])):=by
 have hX:=hI.hX
 refine Spec.enter Tryz.func182 rfl Tryz.ntmps182 (Nat.le_of_ble_eq_true rfl) (fun R=>?_)
 refine af.seq ?_
 rcases hI.hand c.handle with dL|⟨tk,dL,hlv⟩|⟨tk,dL,hlv⟩
 ·refine af.region (gK 1 [] [] ?_)
  refine NN (af.seq (af.bI (by kernel_rfl) (by kernel_rfl) ?_))
  refine gQ 8 (DI t c) [(3,a_ 0 f),(7,a_ 6 cb)] ?_
  refine aR.call (f:=198) (args:=#[vP t,vI (c.handle)]) (d:=(some 16)) (pre:=[lP t S L]) (R:=(rL f m t S L cb c R)) (pk:=[2,0,1,3,4,5,6,7]) (ij:=[1,2,0,3,4,5,6,7]) (v0:=.tuple #[.nilIface,vI 131]) (fun _=>by kernel_rfl) (q5 t S.X.cH S.av (bn L S.us) c.handle hC.hw (qv dL)) rfl (by kernel_rfl) rfl (by kernel_rfl) (fun _ _ h=>h) ?_
  refine gQ 5 [(5,.nilIface),(6,vI 131)] [] ?_
  refine NQ (NX (SR ?_))
  refine gK 2 [(19,vP cb),(20,.nilIface)] [] ?_
  refine gL [3,6] (oG S L hI cb c none (.inl rfl)) ?_
  rintro _ _ ⟨rfl,rfl⟩
  refine NS (gK 2 [(4,vI 131)] [] ?_)
  refine NN (af.ret ?_)
  exact RT (vI 131) [2,3,4,0,5,6,1,7] (⟨L,by rw [show (kY S c)=(131,S,mP S.O c none) by unfold kY;rw [dL]]<;>exact⟨rfl,rfl⟩⟩)
 ·have hkt:(obj S.O tk).kind=1:=hI.kind hlv
  refine af.region (gK 1 [] [] ?_)
  refine NN (af.seq (af.bI (by kernel_rfl) (by kernel_rfl) ?_))
  refine gQ 8 (DI t c) [(3,a_ 0 f),(7,a_ 6 cb)] ?_
  refine aR.call (f:=198) (args:=#[vP t,vI (c.handle)]) (d:=(some 16)) (pre:=[lP t S L]) (R:=(rL f m t S L cb c R)) (pk:=[2,0,1,3,4,5,6,7]) (ij:=[1,2,0,3,4,5,6,7]) (v0:=.tuple #[.iface 162 (vP (L.b tk)),vI 0]) (fun _=>by kernel_rfl) (mg t S.X.cH S.av (bn L S.us) c.handle hC.hw (dR L ⟨tk,1⟩) (kS dL)) rfl (by kernel_rfl) rfl (by kernel_rfl) (fun _ _ h=>h) ?_
  refine gQ 5 (Kq L tk) [] ?_
  refine NQ (NX (SR ?_))
  refine gK 2 [(19,vP cb),(20,.iface 162 (vP (L.b tk)))] [] ?_
  refine gL [3,6] (oG S L hI cb c (some ⟨tk,1⟩) (.inr (.inl ⟨tk,rfl,hlv⟩))) ?_
  rintro _ _ ⟨rfl,rfl⟩
  refine NS (gK 2 [(4,vI 0)] [] ?_)
  refine NN (af.ret ?_)
  exact RT (vI 0) [2,3,4,0,5,6,1,7] (⟨L,by rw [show (kY S c)=(0,S,mP S.O c (some ⟨tk,1⟩)) by unfold kY;rw [dL]]<;>exact⟨rfl,rfl⟩⟩)
 have hkt:(obj S.O tk).kind=2:=hI.kind hlv
 refine af.region (gK 1 [] [] ?_)
 refine NN (af.seq (af.bI (by kernel_rfl) (by kernel_rfl) ?_))
 refine gQ 8 (DI t c) [(3,a_ 0 f),(7,a_ 6 cb)] ?_
 refine aR.call (f:=198) (args:=#[vP t,vI (c.handle)]) (d:=(some 16)) (pre:=[lP t S L]) (R:=(rL f m t S L cb c R)) (pk:=[2,0,1,3,4,5,6,7]) (ij:=[1,2,0,3,4,5,6,7]) (v0:=.tuple #[.iface 169 (vP (L.b tk)),vI 0]) (fun _=>by kernel_rfl) (mg t S.X.cH S.av (bn L S.us) c.handle hC.hw (dR L ⟨tk,2⟩) (kS dL)) rfl (by kernel_rfl) rfl (by kernel_rfl) (fun _ _ h=>h) ?_
 refine gQ 5 (Kr L tk) [] ?_
 refine NQ (NX (SR ?_))
 refine gK 2 [(19,vP cb),(20,.iface 169 (vP (L.b tk)))] [] ?_
 refine gL [3,6] (oG S L hI cb c (some ⟨tk,2⟩) (.inr (.inr (.inl ⟨tk,rfl,hlv⟩)))) ?_
 rintro _ _ ⟨rfl,rfl⟩
 refine NS (gK 2 [(4,vI 0)] [] ?_)
 refine NN (af.ret ?_)
 exact RT (vI 0) [2,3,4,0,5,6,1,7] (⟨L,by rw [show (kY S c)=(0,S,mP S.O c (some ⟨tk,2⟩)) by unfold kY;rw [dL]]<;>exact⟨rfl,rfl⟩⟩)
theorem GU {β:Bs} (S:aG) (L:HL) (f m t:Nat) (hI:Inv S) (cb:Nat) (c:ax) (hC:gT β c) :
    Spec Tryz.prog β 183 #[vP f,vP cb] ((pA f m t L S)++[pC cb c]) (fun v l=>∃ L2,v=vI (iF S c).1/\l=((pA f m t L2 ((iF S c).2.1))++[.blk cb (cC ((iF S c).2.2)) 88])):=by
 have hX:=hI.hX
 refine Spec.enter Tryz.func183 rfl Tryz.ntmps183 (Nat.le_of_ble_eq_true rfl) (fun R=>?_)
 refine SR (gK 1 [] [] ?_)
 refine NS (gK 2 [(8,vP f),(9,vP cb)] [] ?_)
 rcases Ch hI.toInv0 c with ⟨e,hnm,hne⟩|⟨tk,hnm,hlv⟩|⟨tk,hnm,hlv⟩|⟨tk,hnm,hlv⟩
 ·refine gL (f:=188) (args:=#[vP f,vP cb]) (pre:=((pA f m t L S)++[pC cb c])) [0,1,2,3,4,5,6] ((by have h:=jl S L f m t hI cb c hC (β:=β);rw [hnm] at h;exact h)) ?_
  rintro _ _ ⟨rfl,rfl⟩
  refine gK 5 [(5,.nilIface),(6,vI (e))] [] ?_
  refine NS (gK 2 [(13,vP cb),(14,.nilIface)] [] ?_)
  refine gL [3,6] (oG S L hI cb c none (.inl rfl)) ?_
  rintro _ _ ⟨rfl,rfl⟩
  refine NS (gK 2 [(4,vI (e))] [] ?_)
  refine NN (af.ret ?_)
  exact RT (vI (e)) [2,3,4,0,5,6,1,7] (⟨L,by rw [show (iF S c)=(e,S,mP S.O c none) by unfold iF;rw [hnm]]<;>exact⟨rfl,rfl⟩⟩)
 ·have hkt:(obj S.O tk).kind=1:=hI.kind hlv
  refine gL (f:=188) (args:=#[vP f,vP cb]) (pre:=((pA f m t L S)++[pC cb c])) [0,1,2,3,4,5,6] ((by have h:=jl S L f m t hI cb c hC (β:=β);rw [hnm] at h;exact h)) ?_
  rintro _ _ ⟨rfl,rfl⟩
  refine gK 5 (Kq L tk) [] ?_
  refine NS (gK 2 [(13,vP cb),(14,.iface 162 (vP (L.b tk)))] [] ?_)
  refine gL [3,6] (oG S L hI cb c (some ⟨tk,1⟩) (.inr (.inl ⟨tk,rfl,hlv⟩))) ?_
  rintro _ _ ⟨rfl,rfl⟩
  refine NS (gK 2 [(4,vI 0)] [] ?_)
  refine NN (af.ret ?_)
  exact RT (vI 0) [2,3,4,0,5,6,1,7] (⟨L,by rw [show (iF S c)=(0,S,mP S.O c (some ⟨tk,1⟩)) by unfold iF;rw [hnm]]<;>exact⟨rfl,rfl⟩⟩)
 ·have hkt:(obj S.O tk).kind=2:=hI.kind hlv
  refine gL (f:=188) (args:=#[vP f,vP cb]) (pre:=((pA f m t L S)++[pC cb c])) [0,1,2,3,4,5,6] ((by have h:=jl S L f m t hI cb c hC (β:=β);rw [hnm] at h;exact h)) ?_
  rintro _ _ ⟨rfl,rfl⟩
  refine gK 5 (Kr L tk) [] ?_
  refine NS (gK 2 [(13,vP cb),(14,.iface 169 (vP (L.b tk)))] [] ?_)
  refine gL [3,6] (oG S L hI cb c (some ⟨tk,2⟩) (.inr (.inr (.inl ⟨tk,rfl,hlv⟩)))) ?_
  rintro _ _ ⟨rfl,rfl⟩
  refine NS (gK 2 [(4,vI 0)] [] ?_)
  refine NN (af.ret ?_)
  exact RT (vI 0) [2,3,4,0,5,6,1,7] (⟨L,by rw [show (iF S c)=(0,S,mP S.O c (some ⟨tk,2⟩)) by unfold iF;rw [hnm]]<;>exact⟨rfl,rfl⟩⟩)
 have hkt:(obj S.O tk).kind=3:=hI.kind hlv
 refine gL (f:=188) (args:=#[vP f,vP cb]) (pre:=((pA f m t L S)++[pC cb c])) [0,1,2,3,4,5,6] ((by have h:=jl S L f m t hI cb c hC (β:=β);rw [hnm] at h;exact h)) ?_
 rintro _ _ ⟨rfl,rfl⟩
 refine gK 5 [(5,.iface 166 (vP (L.b tk))),(6,vI 0)] [] ?_
 refine NS (gK 2 [(13,vP cb),(14,.iface 166 (vP (L.b tk)))] [] ?_)
 refine gL [3,6] (oG S L hI cb c (some ⟨tk,3⟩) (.inr (.inr (.inr ⟨tk,rfl,hlv⟩)))) ?_
 rintro _ _ ⟨rfl,rfl⟩
 refine NS (gK 2 [(4,vI 0)] [] ?_)
 refine NN (af.ret ?_)
 exact RT (vI 0) [2,3,4,0,5,6,1,7] (⟨L,by rw [show (iF S c)=(0,S,mP S.O c (some ⟨tk,3⟩)) by unfold iF;rw [hnm]]<;>exact⟨rfl,rfl⟩⟩)
theorem Il {β:Bs} (S:aG) (L:HL) (f m t:Nat) (hI:Inv S) (cb:Nat) (c:ax) (hC:gT β c) :
    Spec Tryz.prog β 184 #[vP f,vP cb] ((pA f m t L S)++[pC cb c]) (fun v l=>∃ L2,v=vI (jv S c).1/\l=((pA f m t L2 ((jv S c).2.1))++[.blk cb (cC ((jv S c).2.2)) 88])):=by
 have hX:=hI.hX
 refine Spec.enter Tryz.func184 rfl Tryz.ntmps184 (Nat.le_of_ble_eq_true rfl) (fun R=>?_)
 refine af.seq ?_
 rcases hI.hand c.handle with dL|⟨tk,dL,hlv⟩|⟨tk,dL,hlv⟩
 ·refine af.region (gK 1 [] [] ?_)
  refine NN (af.seq (af.pX (S:=[pF f m t S.X,pC cb c]) [(true,0),(true,1),(true,2),(true,3),(true,4),(true,5),(true,6),(true,7),(false,8),(true,9),(true,10),(true,11),(true,12),(false,13)] [0,6] (by kernel_rfl) (by kernel_rfl) rfl (by kernel_rfl) ?_))
  refine gG [(false,8),(true,9),(true,10),(true,11),(true,12),(false,13)] ([(0,vP f)]++DI t c) [0,1,2,3,4,5,6,7] [(3,a_ 0 f),(7,a_ 1 cb)] ?_
  refine fk.cut (ι:=Unit) (fr':=fun (_:Unit)=>[(0,vP f),(16,.tuple #[.nilIface,vI 131])]) (hp':=fun (_:Unit)=>([lP t S L]++rL f m t S L cb c R)) [1,6] (by kernel_rfl) ?_ rfl (fun _=>by kernel_rfl) ?_
  ·refine gL [2] (HV t S.X.cH S.av (bn L S.us) c.handle hC.hw (qv dL)) ?_
   rintro _ _ ⟨rfl,rfl⟩
   refine NL ?_
   exact MD () [0,16] [0,1,2,3,4,5,6,7]
  rintro _
  refine gG [(false,13)] [(0,vP f),(5,.nilIface),(18,vI 131)] [9,10,11,12] [] ?_
  refine fk.last (by kernel_rfl) ?_
  refine gK 1 [(6,vI 131)] [] ?_
  refine NL (aj.np (NX (af.seq (SR ?_))))
  refine gK 2 [(20,.bool true)] [] ?_
  refine NN (CT (SR (gK 2 [(4,vI 131)] [] ?_)))
  refine NN (af.ret (aj.aq ?_))
  exact RT (vI 131) [1,2,0,3,4,5,6,7] (⟨L,by rw [show (jv S c)=(131,S,c) by unfold jv;rw [dL]]<;>exact⟨rfl,rfl⟩⟩)
 ·have hkt:(obj S.O tk).kind=1:=hI.kind hlv
  have hid:=hI.ob _ hlv
  have qA:=hI.Lw hlv
  have hdl:=hI.FV hlv
  have hop:0 < (obj S.O tk).opens/\(obj S.O tk).opens<=1024:=⟨by have h1:=hI.opens _ hlv;have h2:=IX dL;simp only at h1 h2;omega,(hI.Eb hlv).2⟩
  refine af.region (gK 1 [] [] ?_)
  refine NN (af.seq (af.pX (S:=[pF f m t S.X,pC cb c]) [(true,0),(true,1),(true,2),(true,3),(true,4),(true,5),(true,6),(true,7),(false,8),(true,9),(true,10),(true,11),(true,12),(false,13)] [0,6] (by kernel_rfl) (by kernel_rfl) rfl (by kernel_rfl) ?_))
  refine gG [(false,8),(true,9),(true,10),(true,11),(true,12),(false,13)] ([(0,vP f)]++DI t c) [0,1,2,3,4,5,6,7] [(3,a_ 0 f),(7,a_ 1 cb)] ?_
  refine fk.cut (ι:=Unit) (fr':=fun (_:Unit)=>[(0,vP f),(16,.tuple #[.iface 162 (vP (L.b tk)),vI 0])]) (hp':=fun (_:Unit)=>([pT t S.X.cH S.av L (del c.handle S.us)]++rL f m t S L cb c R)) [1,6] (by kernel_rfl) ?_ rfl (fun _=>by kernel_rfl) ?_
  ·refine gL (f:=201) (args:=#[vP t,vI (c.handle)]) (pre:=[lP t S L]) [2] ((by have h:=Ea (β:=β) t S.X.cH S.av (bn L S.us) c.handle hC.hw (dR L ⟨tk,1⟩) (kS dL);rw [← F6] at h;exact h)) ?_
   rintro _ _ ⟨rfl,rfl⟩
   refine NL ?_
   exact MD () [0,16] [0,1,2,3,4,5,6,7]
  rintro _
  refine gG [(false,13)] [(0,vP f),(5,.iface 162 (vP (L.b tk))),(18,vI 0)] [9,10,11,12] [] ?_
  refine fk.last (by kernel_rfl) ?_
  refine gK 1 [(6,vI 0)] [] ?_
  refine NL (aj.np (NX (af.seq (SR ?_))))
  refine gK 2 [(20,.bool false)] [] ?_
  refine NN (CF (af.skip (NX (SR (gK 1 [(22,.iface 162 (vP (L.b tk)))] [] ?_)))))
  refine gL [] (dr (L.b tk)) ?_
  rintro _ _ ⟨rfl,rfl⟩
  refine gK 6 [(27,vI ((obj S.O tk).opens - 1)),(29,.pointer (some ⟨(L.b tk),7,none⟩))] [(2,v_ 3 (kE L hkt)),(3,p_ ⟨[],none,none,none,some (vI ((obj S.O tk).opens - 1))⟩ [(Value.int .i64 (IntKind.wrap .i64 ((obj S.O tk).opens - 1)))=(.int .i64 ((obj S.O tk).opens - 1))] ⟨aY (by omega) (by omega) (by omega),trivial⟩)] ?_
  refine tu 3 [(5,1),(4,2)] tk 7 (fun o=>{ o with opens:=o.opens - 1 }) hkt (fun cG cA=>?_)
  have kC:=ku cA hkt
  have hf2:(obj cG tk).id=(obj S.O tk).id:=fu aT.id cA rfl
  have hf3:(obj cG tk).data=(obj S.O tk).data:=fu aT.data cA rfl
  refine NS ?_
  have OD:(obj cG tk).opens=(obj S.O tk).opens - 1:=by rw [cA];exact congrArg aT.opens bR
  refine gK 2 [(30,vP f),(31,.iface 162 (vP (L.b tk)))] [] ?_
  refine gL [3,1,2] (rE S.X f m t hX cG L S.idx hI.rise ⟨tk,1⟩ kC (by simp) (by rw [OD];omega) (fun _=>by rw [hf2,hid.1];exact hlv) (by rw [hf2];exact qA) (by rw [hf3];exact hdl)) ?_
  rintro _ _ ⟨rfl,rfl⟩
  refine NS (gK 1 [(4,vI 0)] [] ?_)
  refine NN (af.ret ?_)
  exact RT (l:=[pF f m t { S.X with used:=jR cG S.X.used ⟨tk,1⟩ },pI m L (jr cG S.idx ⟨tk,1⟩),pT t S.X.cH S.av L (del c.handle S.us),pO cG L,pD cG L,pE cG L,pC cb c]) (.int .i64 0) [1,2,3,0,4,5,6,7] (⟨L,by subst cA;rw [show jv S c=(0,_,c) by unfold jv;rw [dL]];exact⟨rfl,rfl⟩⟩)
 have hkt:(obj S.O tk).kind=2:=hI.kind hlv
 have hid:=hI.ob _ hlv
 have qA:=hI.Lw hlv
 have hdl:=hI.FV hlv
 have hop:0 < (obj S.O tk).opens/\(obj S.O tk).opens<=1024:=⟨by have h1:=hI.opens _ hlv;have h2:=IX dL;simp only at h1 h2;omega,(hI.Eb hlv).2⟩
 refine af.region (gK 1 [] [] ?_)
 refine NN (af.seq (af.pX (S:=[pF f m t S.X,pC cb c]) [(true,0),(true,1),(true,2),(true,3),(true,4),(true,5),(true,6),(true,7),(false,8),(true,9),(true,10),(true,11),(true,12),(false,13)] [0,6] (by kernel_rfl) (by kernel_rfl) rfl (by kernel_rfl) ?_))
 refine gG [(false,8),(true,9),(true,10),(true,11),(true,12),(false,13)] ([(0,vP f)]++DI t c) [0,1,2,3,4,5,6,7] [(3,a_ 0 f),(7,a_ 1 cb)] ?_
 refine fk.cut (ι:=Unit) (fr':=fun (_:Unit)=>[(0,vP f),(16,.tuple #[.iface 169 (vP (L.b tk)),vI 0])]) (hp':=fun (_:Unit)=>([pT t S.X.cH S.av L (del c.handle S.us)]++rL f m t S L cb c R)) [1,6] (by kernel_rfl) ?_ rfl (fun _=>by kernel_rfl) ?_
 ·refine gL (f:=201) (args:=#[vP t,vI (c.handle)]) (pre:=[lP t S L]) [2] ((by have h:=Ea (β:=β) t S.X.cH S.av (bn L S.us) c.handle hC.hw (dR L ⟨tk,2⟩) (kS dL);rw [← F6] at h;exact h)) ?_
  rintro _ _ ⟨rfl,rfl⟩
  refine NL ?_
  exact MD () [0,16] [0,1,2,3,4,5,6,7]
 rintro _
 refine gG [(false,13)] [(0,vP f),(5,.iface 169 (vP (L.b tk))),(18,vI 0)] [9,10,11,12] [] ?_
 refine fk.last (by kernel_rfl) ?_
 refine gK 1 [(6,vI 0)] [] ?_
 refine NL (aj.np (NX (af.seq (SR ?_))))
 refine gK 2 [(20,.bool false)] [] ?_
 refine NN (CF (af.skip (NX (SR (gK 1 [(22,.iface 169 (vP (L.b tk)))] [] ?_)))))
 refine gL [] (dr (L.b tk)) ?_
 rintro _ _ ⟨rfl,rfl⟩
 refine gK 6 [(27,vI ((obj S.O tk).opens - 1)),(29,.pointer (some ⟨(L.b tk),7,none⟩))] [(2,v_ 3 (kE L hkt)),(3,p_ ⟨[],none,none,none,some (vI ((obj S.O tk).opens - 1))⟩ [(Value.int .i64 (IntKind.wrap .i64 ((obj S.O tk).opens - 1)))=(.int .i64 ((obj S.O tk).opens - 1))] ⟨aY (by omega) (by omega) (by omega),trivial⟩)] ?_
 refine tu 3 [(5,1),(4,2)] tk 7 (fun o=>{ o with opens:=o.opens - 1 }) hkt (fun cG cA=>?_)
 have yM:=ku cA hkt
 have L8:(obj cG tk).id=(obj S.O tk).id:=fu aT.id cA rfl
 have Sj:(obj cG tk).data=(obj S.O tk).data:=fu aT.data cA rfl
 refine NS ?_
 have OD:(obj cG tk).opens=(obj S.O tk).opens - 1:=by rw [cA];exact congrArg aT.opens bR
 refine gK 2 [(30,vP f),(31,.iface 169 (vP (L.b tk)))] [] ?_
 refine gL [3,1,2] (rE S.X f m t hX cG L S.idx hI.rise ⟨tk,2⟩ yM (by simp) (by rw [OD];omega) (fun _=>by rw [L8,hid.1];exact hlv) (by rw [L8];exact qA) (by rw [Sj];exact hdl)) ?_
 rintro _ _ ⟨rfl,rfl⟩
 refine NS (gK 1 [(4,vI 0)] [] ?_)
 refine NN (af.ret ?_)
 exact RT (l:=[pF f m t { S.X with used:=jR cG S.X.used ⟨tk,2⟩ },pI m L (jr cG S.idx ⟨tk,2⟩),pT t S.X.cH S.av L (del c.handle S.us),pO cG L,pD cG L,pE cG L,pC cb c]) (.int .i64 0) [1,2,3,0,4,5,6,7] (⟨L,by subst cA;rw [show jv S c=(0,_,c) by unfold jv;rw [dL]];exact⟨rfl,rfl⟩⟩)
end
section
open Go.RowKit Go.Maps bF aB
attribute [local irreducible] ak aR af aj
abbrev WI (S:aG) (L:HL) (tk:Nat):=(.abs (ay (kQ (bN S.O L) tk bY.none)):HP)
abbrev PS (L:HL) (tk:Nat) (S:aG) (c:ax):=(.blk (L.b tk) [vI ((obj S.O tk).id),vI (c.mode),vI ((obj S.O tk).uid),vI ((obj S.O tk).gid),vI ((obj S.O tk).sec),vI ((obj S.O tk).nano),vI ((obj S.O tk).links),vI ((obj S.O tk).opens),.bool (obj S.O tk).gone,.slice (L.dA tk) ((obj S.O tk).data.length) ((L.dC tk))] 165:HP)
abbrev PU (L:HL) (tk:Nat) (S:aG) (c:ax):=(.blk (L.b tk) [vI ((obj S.O tk).id),vI (c.mode),vI (c.uid),vI ((obj S.O tk).gid),vI ((obj S.O tk).sec),vI ((obj S.O tk).nano),vI ((obj S.O tk).links),vI ((obj S.O tk).opens),.bool (obj S.O tk).gone,.slice (L.dA tk) ((obj S.O tk).data.length) ((L.dC tk))] 165:HP)
abbrev PV (L:HL) (tk:Nat) (S:aG) (c:ax):=(.blk (L.b tk) [vI ((obj S.O tk).id),vI (c.mode),vI (c.uid),vI (c.gid),vI ((obj S.O tk).sec),vI ((obj S.O tk).nano),vI ((obj S.O tk).links),vI ((obj S.O tk).opens),.bool (obj S.O tk).gone,.slice (L.dA tk) ((obj S.O tk).data.length) ((L.dC tk))] 165:HP)
abbrev UI (L:HL) (tk:Nat) (S:aG) (c:ax):=(.blk (L.b tk) [vI ((obj S.O tk).id),vI (c.mode),vI ((obj S.O tk).uid),vI ((obj S.O tk).gid),vI ((obj S.O tk).sec),vI ((obj S.O tk).nano),vI ((obj S.O tk).links),vI ((obj S.O tk).opens),.bool (obj S.O tk).gone,.map (some (L.m tk)),(vk L (obj S.O tk).up)] 176:HP)
abbrev UJ (L:HL) (tk:Nat) (S:aG) (c:ax):=(.blk (L.b tk) [vI ((obj S.O tk).id),vI (c.mode),vI (c.uid),vI ((obj S.O tk).gid),vI ((obj S.O tk).sec),vI ((obj S.O tk).nano),vI ((obj S.O tk).links),vI ((obj S.O tk).opens),.bool (obj S.O tk).gone,.map (some (L.m tk)),(vk L (obj S.O tk).up)] 176:HP)
abbrev UK (L:HL) (tk:Nat) (S:aG) (c:ax):=(.blk (L.b tk) [vI ((obj S.O tk).id),vI (c.mode),vI (c.uid),vI (c.gid),vI ((obj S.O tk).sec),vI ((obj S.O tk).nano),vI ((obj S.O tk).links),vI ((obj S.O tk).opens),.bool (obj S.O tk).gone,.map (some (L.m tk)),(vk L (obj S.O tk).up)] 176:HP)
abbrev UL (S:aG) (c:ax) (L2:HL):=(pO (aH S.O (aN S.X) (fun _=>(⟨0,c.mode,0,0,0,0,0,0,false,1,[],⟨#[]⟩,[],none⟩:aT))) L2:HP)
abbrev qf (f:Nat) (m:Nat) (t) (S:aG) (L:HL) (tk:Nat) (cb:Nat) (c) (R:bY):=([pF f m t S.X,pI m L S.idx,lP t S L,WI S L tk,pD S.O L,pE S.O L,pC cb c,.abs R]:List HP)
abbrev OE (L:HL) (tk:Nat) (c:ax):=([(65,vP (L.b tk)),(66,vP (L.b tk)),(67,vP (L.b tk)),(71,vI (c.mode)),(75,vI (c.uid)),(79,vI (c.gid)),(83,.agg #[vI (c.sec),vI (c.nano)]),(85,.pointer (some ⟨(L.b tk),1,none⟩))]:Fr)
abbrev rM (c:ax):=([(79,vI (c.gid)),(83,.agg #[vI (c.sec),vI (c.nano)])]:Fr)
abbrev DK (L:HL) (tk:Nat) (c:ax):=([(66,vP (L.b tk)),(67,vP (L.b tk)),(75,vI (c.uid))]:Fr)
abbrev OG (c:ax) (L:HL) (tk:Nat):=([(83,.agg #[vI (c.sec),vI (c.nano)]),(91,.pointer (some ⟨(L.b tk),4,none⟩))]:Fr)
abbrev OI (t)(c:ax):=([(12,vP t),(16,vI (c.handle))]:Fr)
abbrev Sw (cb:Nat) (f:Nat) (b4:Nat):=([(49,vP cb),(50,vP f),(52,.iface 162 (vP b4))]:Fr)
theorem EN {β:Bs} (S:aG) (L:HL) (f m t:Nat) (hI:Inv S) (cb:Nat) (c:ax) (hC:gT β c) :
    Spec Tryz.prog β 181 #[vP f,vP cb] ((pA f m t L S)++[pC cb c]) (fun v l=>∃ L2,v=vI (bM S c).1/\l=((pA f m t L2 ((bM S c).2.1))++[.blk cb (cC ((bM S c).2.2)) 88])):=by
 have hX:=hI.hX
 refine Spec.enter Tryz.func181 rfl Tryz.ntmps181 (Nat.le_of_ble_eq_true rfl) (fun R=>?_)
 refine af.seq ?_
 rcases hI.hand c.handle with dL|⟨tk,dL,hlv⟩|⟨tk,dL,hlv⟩
 ·refine af.region (gK 1 [] [] ?_)
  refine NN (af.seq (af.bI (by kernel_rfl) (by kernel_rfl) ?_))
  refine gQ 8 (OI t c) [(3,a_ 0 f),(7,a_ 6 cb)] ?_
  refine aR.call (f:=198) (args:=#[vP t,vI (c.handle)]) (d:=(some 17)) (pre:=[lP t S L]) (R:=(rL f m t S L cb c R)) (pk:=[2,0,1,3,4,5,6,7]) (ij:=[1,2,0,3,4,5,6,7]) (v0:=.tuple #[.nilIface,vI 131]) (fun _=>by kernel_rfl) (q5 t S.X.cH S.av (bn L S.us) c.handle hC.hw (qv dL)) rfl (by kernel_rfl) rfl (by kernel_rfl) (fun _ _ h=>h) ?_
  refine gQ 5 [(5,.nilIface),(6,vI 131)] [] ?_
  refine NQ (NX (af.seq (SR ?_)))
  refine gK 2 [(21,.bool true)] [] ?_
  refine NN (CT (SR (gK 2 [(4,vI 131)] [] ?_)))
  refine NN (af.ret (aj.aq ?_))
  exact RT (vI 131) [0,1,2,3,4,5,6,7] (⟨L,by rw [show (bM S c)=(131,S,c) by unfold bM;rw [dL]]<;>exact⟨rfl,rfl⟩⟩)
 ·have hkt:(obj S.O tk).kind=1:=hI.kind hlv
  refine af.region (gK 1 [] [] ?_)
  refine NN (af.seq (af.bI (by kernel_rfl) (by kernel_rfl) ?_))
  refine gQ 8 (OI t c) [(3,a_ 0 f),(7,a_ 6 cb)] ?_
  refine aR.call (f:=198) (args:=#[vP t,vI (c.handle)]) (d:=(some 17)) (pre:=[lP t S L]) (R:=(rL f m t S L cb c R)) (pk:=[2,0,1,3,4,5,6,7]) (ij:=[1,2,0,3,4,5,6,7]) (v0:=.tuple #[.iface 162 (vP (L.b tk)),vI 0]) (fun _=>by kernel_rfl) (mg t S.X.cH S.av (bn L S.us) c.handle hC.hw (dR L ⟨tk,1⟩) (kS dL)) rfl (by kernel_rfl) rfl (by kernel_rfl) (fun _ _ h=>h) ?_
  refine gQ 5 (Kq L tk) [] ?_
  refine NQ (NX (af.seq (SR ?_)))
  refine gK 2 [(21,.bool false)] [] ?_
  refine NN (CF (af.skip (NX (SR (gK 1 [(23,.iface 162 (vP (L.b tk)))] [] ?_)))))
  refine gL [] (dr (L.b tk)) ?_
  rintro _ _ ⟨rfl,rfl⟩
  refine gK 1 [(7,vP (L.b tk))] [] ?_
  refine NN (af.seq (af.block (SR ?_)))
  refine gK 5 [(30,.bool (obj S.O tk).gone)] [(3,v_ 3 (oh L hkt))] ?_
  refine ak.om 30 (obj S.O tk).gone (fun _=>by kernel_rfl) (fun ny=>?_) (fun ny=>?_)
  ·refine gK 1 [(31,.iface 162 (vP (L.b tk)))] [] ?_
   refine gL [] (nj (vP (L.b tk))) ?_
   rintro _ _ ⟨rfl,rfl⟩
   refine gK 3 [(25,.bool false)] [] ?_
   refine NN (CF (SR (gK 4 [(39,vI (c.mode))] [(3,a_ 6 cb)] ?_)))
   refine gL [] (gE (c.mode) 4095) ?_
   rintro _ _ ⟨rfl,rfl⟩
   refine gK 2 [(35,.bool (!(decide (0<=c.mode/\c.mode<=4095))))] [] ?_
   refine NN (af.dx (p:=0<=c.mode/\c.mode<=4095) (fun _=>by kernel_rfl) (fun ko=>?_) (fun ko=>?_))
   ·refine SR (gK 1 [(4,vI 120)] [] ?_)
    refine NN (af.ret (aj.aF (aj.aq ?_)))
    exact RT (vI 120) [0,1,2,3,4,5,6,7] (⟨L,by rw [show (bM S c)=(120,S,c) by unfold bM;rw [dL];exact (if_neg (fun h=>absurd h.2 (by simp))).trans (if_neg ko)]<;>exact⟨rfl,rfl⟩⟩)
   refine SR (gK 4 [(46,vI (c.uid))] [(3,a_ 6 cb)] ?_)
   refine gL [] (gE (c.uid) 2147483647) ?_
   rintro _ _ ⟨rfl,rfl⟩
   refine gK 2 [(49,.bool (!(decide (0<=c.uid/\c.uid<=2147483647))))] [] ?_
   refine ak.kX 49 (0<=c.uid/\c.uid<=2147483647) (fun _=>by kernel_rfl) (fun uF=>?_) (fun uF=>?_)
   ·refine gK 8 [(42,.bool true)] [] ?_
    refine NN (CT (SR (gK 1 [(4,vI 11)] [] ?_)))
    refine NN (af.ret (aj.aF (aj.aq ?_)))
    exact RT (vI 11) [0,1,2,3,4,5,6,7] (⟨L,by rw [show (bM S c)=(11,S,c) by unfold bM;rw [dL];exact (if_neg (fun h=>absurd h.2 (by simp))).trans ((if_pos ko).trans (if_neg (fun h=>uF h.1)))]<;>exact⟨rfl,rfl⟩⟩)
   refine gK 4 [(53,vI (c.gid))] [(3,a_ 6 cb)] ?_
   refine gL [] (gE (c.gid) 2147483647) ?_
   rintro _ _ ⟨rfl,rfl⟩
   refine gK 3 [(42,.bool (!(decide (0<=c.gid/\c.gid<=2147483647))))] [] ?_
   refine NN (af.dx (p:=0<=c.gid/\c.gid<=2147483647) (fun _=>by kernel_rfl) (fun rT=>?_) (fun rT=>?_))
   ·refine SR (gK 1 [(4,vI 11)] [] ?_)
    refine NN (af.ret (aj.aF (aj.aq ?_)))
    exact RT (vI 11) [0,1,2,3,4,5,6,7] (⟨L,by rw [show (bM S c)=(11,S,c) by unfold bM;rw [dL];exact (if_neg (fun h=>absurd h.2 (by simp))).trans ((if_pos ko).trans (if_neg (fun h=>rT h.2)))]<;>exact⟨rfl,rfl⟩⟩)
   refine SR (gK 4 [(61,.agg #[vI (c.sec),vI (c.nano)])] [(3,A_ 6 cb 2)] ?_)
   refine gL [] (jj c.sec c.nano) ?_
   rintro _ _ ⟨rfl,rfl⟩
   refine gK 2 [(57,.bool (!(decide (ef c.sec c.nano))))] [] ?_
   refine NN (af.dx (p:=ef c.sec c.nano) (fun _=>by kernel_rfl) (fun vM=>?_) (fun vM=>?_))
   ·refine SR (gK 1 [(4,vI 20)] [] ?_)
    refine NN (af.ret (aj.aF (aj.aq ?_)))
    exact RT (vI 20) [0,1,2,3,4,5,6,7] (⟨L,by rw [show (bM S c)=(20,S,c) by unfold bM;rw [dL];exact (if_neg (fun h=>absurd h.2 (by simp))).trans ((if_pos ko).trans ((if_pos ⟨uF,rT⟩).trans (if_neg vM)))]<;>exact⟨rfl,rfl⟩⟩)
   refine af.skip (aj.aQ (NX (af.seq ?_)))
   skip
   refine af.mem (fun w hS=>hS.yj (i:=3) (k:=tk) rfl (by rw [hkt];decide) (iU (hkt)) (congrArg kR (hkt))) ?_
   refine af.bU (S:=[pC cb c]) [0,1,2,3,4,5,6,7,8,9,10,11,12,13,14,15,16,17,18,19,20,21,22,23,24,25,26,27,28,29,30,31] 22 [6] (by kernel_rfl) (by kernel_rfl) rfl (by kernel_rfl) ?_
   refine gR 0 [22,23,24,25,26,27,28,29,30,31] (OE L tk c) [0,1,2,3,4,5,6,7,8,9,10,11,12,13,14,15,16,17,18,19,20,21] [(7,a_ 0 cb),(11,a_ 0 cb),(15,a_ 0 cb),(19,A_ 0 cb 2)] ?_
   refine mC [6] [] [(0,a_ 8 (L.b tk))] [(8,[(1,vI (c.mode))])] ?_
   refine aO.cut (ι:=Unit) (fr':=fun (_:Unit)=>(DK L tk c++rM c++[(86,vP (L.b tk))])) (hp':=fun (_:Unit)=>(qf f m t S L tk cb c R++[PS L tk S c])) [6] rfl rfl ?_ rfl (fun _=>by kernel_rfl) ?_
   ·refine gK 1 [(86,vP (L.b tk))] [] ?_
    refine NL ?_
    exact MD () [66,67,75,79,83,86] [0,1,2,3,4,5,6,7,8]
   rintro _
   refine aO.cut (ι:=Unit) (fr':=fun (_:Unit)=>(DK L tk c++rM c++[(87,.pointer (some ⟨(L.b tk),2,none⟩))])) (hp':=fun (_:Unit)=>(qf f m t S L tk cb c R++[PS L tk S c])) [6] rfl rfl ?_ rfl (fun _=>by kernel_rfl) ?_
   ·refine gK 1 [(87,.pointer (some ⟨(L.b tk),2,none⟩))] [] ?_
    refine NL ?_
    exact MD () [66,67,75,79,83,87] [0,1,2,3,4,5,6,7,8]
   rintro _
   refine mC [6] [] [(0,a_ 8 (L.b tk))] [(8,[(2,vI (c.uid))])] ?_
   refine aO.cut (ι:=Unit) (fr':=fun (_:Unit)=>([(67,vP (L.b tk))]++rM c++[(88,vP (L.b tk))])) (hp':=fun (_:Unit)=>(qf f m t S L tk cb c R++[PU L tk S c])) [6] rfl rfl ?_ rfl (fun _=>by kernel_rfl) ?_
   ·refine gK 1 [(88,vP (L.b tk))] [] ?_
    refine NL ?_
    exact MD () [67,79,83,88] [0,1,2,3,4,5,6,7,8]
   rintro _
   refine aO.cut (ι:=Unit) (fr':=fun (_:Unit)=>([(67,vP (L.b tk))]++rM c++[(89,.pointer (some ⟨(L.b tk),3,none⟩))])) (hp':=fun (_:Unit)=>(qf f m t S L tk cb c R++[PU L tk S c])) [6] rfl rfl ?_ rfl (fun _=>by kernel_rfl) ?_
   ·refine gK 1 [(89,.pointer (some ⟨(L.b tk),3,none⟩))] [] ?_
    refine NL ?_
    exact MD () [67,79,83,89] [0,1,2,3,4,5,6,7,8]
   rintro _
   refine mC [6] [] [(0,a_ 8 (L.b tk))] [(8,[(3,vI (c.gid))])] ?_
   refine aO.cut (ι:=Unit) (fr':=fun (_:Unit)=>[(83,.agg #[vI (c.sec),vI (c.nano)]),(90,vP (L.b tk))]) (hp':=fun (_:Unit)=>(qf f m t S L tk cb c R++[PV L tk S c])) [6] rfl rfl ?_ rfl (fun _=>by kernel_rfl) ?_
   ·refine gK 1 [(90,vP (L.b tk))] [] ?_
    refine NL ?_
    exact MD () [83,90] [0,1,2,3,4,5,6,7,8]
   rintro _
   refine aO.cut (ι:=Unit) (fr':=fun (_:Unit)=>(OG c L tk)) (hp':=fun (_:Unit)=>(qf f m t S L tk cb c R++[PV L tk S c])) [6] rfl rfl ?_ rfl (fun _=>by kernel_rfl) ?_
   ·refine gK 1 [(91,.pointer (some ⟨(L.b tk),4,none⟩))] [] ?_
    refine NL ?_
    exact MD () [83,91] [0,1,2,3,4,5,6,7,8]
   rintro _
   refine aO.last rfl rfl ?_
   refine gC 1 [] [(0,A_ 8 (L.b tk) 2)] [(8,[(4,vI (c.sec)),(5,vI (c.nano))])] ?_
   refine NL (aj.np (NX (SR ?_)))
   refine ak.mem (cP:=[.abs (ay (bN (aH S.O tk (fun o=>{ o with mode:=c.mode,uid:=c.uid,gid:=c.gid,sec:=c.sec,nano:=c.nano })) L)),.blk f [vI (S.X.cN),vI (S.X.cB),vI (S.X.cH),vI (S.X.cS),vI (S.X.cZ),.map (some m),vP t,vI (S.X.last),vI (S.X.ah),vI (S.X.used)] 154,.abs (aP Tryz.prog 3 m (bg (bn L S.idx)) S.idx.length),.abs (cE 212 t S.X.cH S.av (bn L S.us)),.abs (ay (bO (aH S.O tk (fun o=>{ o with mode:=c.mode,uid:=c.uid,gid:=c.gid,sec:=c.sec,nano:=c.nano })) L)),.abs (ay (cJ (aH S.O tk (fun o=>{ o with mode:=c.mode,uid:=c.uid,gid:=c.gid,sec:=c.sec,nano:=c.nano })) L)),.blk cb [vI (c.op),vI (c.handle),vI (c.other),.string c.name,.string c.text,.slice c.dA (c.data.length) (c.dC),vI (c.mode),vI (c.uid),vI (c.gid),vI (c.sec),vI (c.nano),vI (c.code),vI (c.answer)] 88,.abs R]) (fun w hS=>by have h:=hS.zn (O:=S.O) (L:=L) (i:=3) (j:=8) (idx:=[0,1,2,4,5,6,7]) (k:=tk) (f:=(fun o=>{ o with mode:=c.mode,uid:=c.uid,gid:=c.gid,sec:=c.sec,nano:=c.nano })) rfl (fun _ hx=>oQ hx) rfl (by kernel_rfl) rfl (by show (obj S.O tk).kind≠0;rw [hkt];decide) ((iU (o:=(fun o=>{ o with mode:=c.mode,uid:=c.uid,gid:=c.gid,sec:=c.sec,nano:=c.nano }) (obj S.O tk)) (hkt)).trans rfl) (by show kR (obj S.O tk).kind=_;rw [hkt]<;>rfl);rw [nG (O:=S.O) (k:=tk) (f:=(fun o=>{ o with mode:=c.mode,uid:=c.uid,gid:=c.gid,sec:=c.sec,nano:=c.nano })) rfl rfl,nH (O:=S.O) (k:=tk) (f:=(fun o=>{ o with mode:=c.mode,uid:=c.uid,gid:=c.gid,sec:=c.sec,nano:=c.nano })) rfl rfl];exact h) ?_
   have kC:(obj (aH S.O tk (fun o=>{ o with mode:=c.mode,uid:=c.uid,gid:=c.gid,sec:=c.sec,nano:=c.nano })) tk).kind=1:=(j6 (f:=(fun o=>{ o with mode:=c.mode,uid:=c.uid,gid:=c.gid,sec:=c.sec,nano:=c.nano })) (fun _=>rfl)).trans (hkt)
   generalize cA:(aH S.O tk (fun o=>{ o with mode:=c.mode,uid:=c.uid,gid:=c.gid,sec:=c.sec,nano:=c.nano }))=cG at kC ⊢
   refine gK 1 [(4,vI 0)] [] ?_
   refine NN (af.ret ?_)
   exact RT (l:=[pF f m t S.X,pI m L S.idx,lP t S L,pO cG L,pD cG L,pE cG L,pC cb c]) (.int .i64 0) [1,2,3,0,4,5,6,7] (⟨L,by subst cA;rw [show (bM S c)=(0,{ S with O:=aH S.O tk (fun o=>{ o with mode:=c.mode,uid:=c.uid,gid:=c.gid,sec:=c.sec,nano:=c.nano }) },c) by unfold bM;rw [dL];exact (if_neg (fun h=>absurd h.2 (by simp))).trans ((if_pos ko).trans ((if_pos ⟨uF,rT⟩).trans (if_pos vM)))]<;>exact⟨rfl,rfl⟩⟩)
  refine gK 5 [(25,.bool false)] [] ?_
  refine NN (CF (SR (gK 4 [(39,vI (c.mode))] [(3,a_ 6 cb)] ?_)))
  refine gL [] (gE (c.mode) 4095) ?_
  rintro _ _ ⟨rfl,rfl⟩
  refine gK 2 [(35,.bool (!(decide (0<=c.mode/\c.mode<=4095))))] [] ?_
  refine NN (af.dx (p:=0<=c.mode/\c.mode<=4095) (fun _=>by kernel_rfl) (fun ko=>?_) (fun ko=>?_))
  ·refine SR (gK 1 [(4,vI 120)] [] ?_)
   refine NN (af.ret (aj.aF (aj.aq ?_)))
   exact RT (vI 120) [0,1,2,3,4,5,6,7] (⟨L,by rw [show (bM S c)=(120,S,c) by unfold bM;rw [dL];exact (if_neg (fun h=>absurd h.2 (by simp))).trans (if_neg ko)]<;>exact⟨rfl,rfl⟩⟩)
  refine SR (gK 4 [(46,vI (c.uid))] [(3,a_ 6 cb)] ?_)
  refine gL [] (gE (c.uid) 2147483647) ?_
  rintro _ _ ⟨rfl,rfl⟩
  refine gK 2 [(49,.bool (!(decide (0<=c.uid/\c.uid<=2147483647))))] [] ?_
  refine ak.kX 49 (0<=c.uid/\c.uid<=2147483647) (fun _=>by kernel_rfl) (fun uF=>?_) (fun uF=>?_)
  ·refine gK 8 [(42,.bool true)] [] ?_
   refine NN (CT (SR (gK 1 [(4,vI 11)] [] ?_)))
   refine NN (af.ret (aj.aF (aj.aq ?_)))
   exact RT (vI 11) [0,1,2,3,4,5,6,7] (⟨L,by rw [show (bM S c)=(11,S,c) by unfold bM;rw [dL];exact (if_neg (fun h=>absurd h.2 (by simp))).trans ((if_pos ko).trans (if_neg (fun h=>uF h.1)))]<;>exact⟨rfl,rfl⟩⟩)
  refine gK 4 [(53,vI (c.gid))] [(3,a_ 6 cb)] ?_
  refine gL [] (gE (c.gid) 2147483647) ?_
  rintro _ _ ⟨rfl,rfl⟩
  refine gK 3 [(42,.bool (!(decide (0<=c.gid/\c.gid<=2147483647))))] [] ?_
  refine NN (af.dx (p:=0<=c.gid/\c.gid<=2147483647) (fun _=>by kernel_rfl) (fun rT=>?_) (fun rT=>?_))
  ·refine SR (gK 1 [(4,vI 11)] [] ?_)
   refine NN (af.ret (aj.aF (aj.aq ?_)))
   exact RT (vI 11) [0,1,2,3,4,5,6,7] (⟨L,by rw [show (bM S c)=(11,S,c) by unfold bM;rw [dL];exact (if_neg (fun h=>absurd h.2 (by simp))).trans ((if_pos ko).trans (if_neg (fun h=>rT h.2)))]<;>exact⟨rfl,rfl⟩⟩)
  refine SR (gK 4 [(61,.agg #[vI (c.sec),vI (c.nano)])] [(3,A_ 6 cb 2)] ?_)
  refine gL [] (jj c.sec c.nano) ?_
  rintro _ _ ⟨rfl,rfl⟩
  refine gK 2 [(57,.bool (!(decide (ef c.sec c.nano))))] [] ?_
  refine NN (af.dx (p:=ef c.sec c.nano) (fun _=>by kernel_rfl) (fun vM=>?_) (fun vM=>?_))
  ·refine SR (gK 1 [(4,vI 20)] [] ?_)
   refine NN (af.ret (aj.aF (aj.aq ?_)))
   exact RT (vI 20) [0,1,2,3,4,5,6,7] (⟨L,by rw [show (bM S c)=(20,S,c) by unfold bM;rw [dL];exact (if_neg (fun h=>absurd h.2 (by simp))).trans ((if_pos ko).trans ((if_pos ⟨uF,rT⟩).trans (if_neg vM)))]<;>exact⟨rfl,rfl⟩⟩)
  refine af.skip (aj.aQ (NX (af.seq ?_)))
  skip
  refine af.mem (fun w hS=>hS.yj (i:=3) (k:=tk) rfl (by rw [hkt];decide) (iU (hkt)) (congrArg kR (hkt))) ?_
  refine af.bU (S:=[pC cb c]) [0,1,2,3,4,5,6,7,8,9,10,11,12,13,14,15,16,17,18,19,20,21,22,23,24,25,26,27,28,29,30,31] 22 [6] (by kernel_rfl) (by kernel_rfl) rfl (by kernel_rfl) ?_
  refine gR 0 [22,23,24,25,26,27,28,29,30,31] (OE L tk c) [0,1,2,3,4,5,6,7,8,9,10,11,12,13,14,15,16,17,18,19,20,21] [(7,a_ 0 cb),(11,a_ 0 cb),(15,a_ 0 cb),(19,A_ 0 cb 2)] ?_
  refine mC [6] [] [(0,a_ 8 (L.b tk))] [(8,[(1,vI (c.mode))])] ?_
  refine aO.cut (ι:=Unit) (fr':=fun (_:Unit)=>(DK L tk c++rM c++[(86,vP (L.b tk))])) (hp':=fun (_:Unit)=>(qf f m t S L tk cb c R++[PS L tk S c])) [6] rfl rfl ?_ rfl (fun _=>by kernel_rfl) ?_
  ·refine gK 1 [(86,vP (L.b tk))] [] ?_
   refine NL ?_
   exact MD () [66,67,75,79,83,86] [0,1,2,3,4,5,6,7,8]
  rintro _
  refine aO.cut (ι:=Unit) (fr':=fun (_:Unit)=>(DK L tk c++rM c++[(87,.pointer (some ⟨(L.b tk),2,none⟩))])) (hp':=fun (_:Unit)=>(qf f m t S L tk cb c R++[PS L tk S c])) [6] rfl rfl ?_ rfl (fun _=>by kernel_rfl) ?_
  ·refine gK 1 [(87,.pointer (some ⟨(L.b tk),2,none⟩))] [] ?_
   refine NL ?_
   exact MD () [66,67,75,79,83,87] [0,1,2,3,4,5,6,7,8]
  rintro _
  refine mC [6] [] [(0,a_ 8 (L.b tk))] [(8,[(2,vI (c.uid))])] ?_
  refine aO.cut (ι:=Unit) (fr':=fun (_:Unit)=>([(67,vP (L.b tk))]++rM c++[(88,vP (L.b tk))])) (hp':=fun (_:Unit)=>(qf f m t S L tk cb c R++[PU L tk S c])) [6] rfl rfl ?_ rfl (fun _=>by kernel_rfl) ?_
  ·refine gK 1 [(88,vP (L.b tk))] [] ?_
   refine NL ?_
   exact MD () [67,79,83,88] [0,1,2,3,4,5,6,7,8]
  rintro _
  refine aO.cut (ι:=Unit) (fr':=fun (_:Unit)=>([(67,vP (L.b tk))]++rM c++[(89,.pointer (some ⟨(L.b tk),3,none⟩))])) (hp':=fun (_:Unit)=>(qf f m t S L tk cb c R++[PU L tk S c])) [6] rfl rfl ?_ rfl (fun _=>by kernel_rfl) ?_
  ·refine gK 1 [(89,.pointer (some ⟨(L.b tk),3,none⟩))] [] ?_
   refine NL ?_
   exact MD () [67,79,83,89] [0,1,2,3,4,5,6,7,8]
  rintro _
  refine mC [6] [] [(0,a_ 8 (L.b tk))] [(8,[(3,vI (c.gid))])] ?_
  refine aO.cut (ι:=Unit) (fr':=fun (_:Unit)=>[(83,.agg #[vI (c.sec),vI (c.nano)]),(90,vP (L.b tk))]) (hp':=fun (_:Unit)=>(qf f m t S L tk cb c R++[PV L tk S c])) [6] rfl rfl ?_ rfl (fun _=>by kernel_rfl) ?_
  ·refine gK 1 [(90,vP (L.b tk))] [] ?_
   refine NL ?_
   exact MD () [83,90] [0,1,2,3,4,5,6,7,8]
  rintro _
  refine aO.cut (ι:=Unit) (fr':=fun (_:Unit)=>(OG c L tk)) (hp':=fun (_:Unit)=>(qf f m t S L tk cb c R++[PV L tk S c])) [6] rfl rfl ?_ rfl (fun _=>by kernel_rfl) ?_
  ·refine gK 1 [(91,.pointer (some ⟨(L.b tk),4,none⟩))] [] ?_
   refine NL ?_
   exact MD () [83,91] [0,1,2,3,4,5,6,7,8]
  rintro _
  refine aO.last rfl rfl ?_
  refine gC 1 [] [(0,A_ 8 (L.b tk) 2)] [(8,[(4,vI (c.sec)),(5,vI (c.nano))])] ?_
  refine NL (aj.np (NX (SR ?_)))
  refine ak.mem (cP:=[.abs (ay (bN (aH S.O tk (fun o=>{ o with mode:=c.mode,uid:=c.uid,gid:=c.gid,sec:=c.sec,nano:=c.nano })) L)),.blk f [vI (S.X.cN),vI (S.X.cB),vI (S.X.cH),vI (S.X.cS),vI (S.X.cZ),.map (some m),vP t,vI (S.X.last),vI (S.X.ah),vI (S.X.used)] 154,.abs (aP Tryz.prog 3 m (bg (bn L S.idx)) S.idx.length),.abs (cE 212 t S.X.cH S.av (bn L S.us)),.abs (ay (bO (aH S.O tk (fun o=>{ o with mode:=c.mode,uid:=c.uid,gid:=c.gid,sec:=c.sec,nano:=c.nano })) L)),.abs (ay (cJ (aH S.O tk (fun o=>{ o with mode:=c.mode,uid:=c.uid,gid:=c.gid,sec:=c.sec,nano:=c.nano })) L)),.blk cb [vI (c.op),vI (c.handle),vI (c.other),.string c.name,.string c.text,.slice c.dA (c.data.length) (c.dC),vI (c.mode),vI (c.uid),vI (c.gid),vI (c.sec),vI (c.nano),vI (c.code),vI (c.answer)] 88,.abs R]) (fun w hS=>by have h:=hS.zn (O:=S.O) (L:=L) (i:=3) (j:=8) (idx:=[0,1,2,4,5,6,7]) (k:=tk) (f:=(fun o=>{ o with mode:=c.mode,uid:=c.uid,gid:=c.gid,sec:=c.sec,nano:=c.nano })) rfl (fun _ hx=>oQ hx) rfl (by kernel_rfl) rfl (by show (obj S.O tk).kind≠0;rw [hkt];decide) ((iU (o:=(fun o=>{ o with mode:=c.mode,uid:=c.uid,gid:=c.gid,sec:=c.sec,nano:=c.nano }) (obj S.O tk)) (hkt)).trans rfl) (by show kR (obj S.O tk).kind=_;rw [hkt]<;>rfl);rw [nG (O:=S.O) (k:=tk) (f:=(fun o=>{ o with mode:=c.mode,uid:=c.uid,gid:=c.gid,sec:=c.sec,nano:=c.nano })) rfl rfl,nH (O:=S.O) (k:=tk) (f:=(fun o=>{ o with mode:=c.mode,uid:=c.uid,gid:=c.gid,sec:=c.sec,nano:=c.nano })) rfl rfl];exact h) ?_
  have nu:(obj (aH S.O tk (fun o=>{ o with mode:=c.mode,uid:=c.uid,gid:=c.gid,sec:=c.sec,nano:=c.nano })) tk).kind=1:=(j6 (f:=(fun o=>{ o with mode:=c.mode,uid:=c.uid,gid:=c.gid,sec:=c.sec,nano:=c.nano })) (fun _=>rfl)).trans (hkt)
  generalize cA:(aH S.O tk (fun o=>{ o with mode:=c.mode,uid:=c.uid,gid:=c.gid,sec:=c.sec,nano:=c.nano }))=cG at nu ⊢
  refine gK 1 [(4,vI 0)] [] ?_
  refine NN (af.ret ?_)
  exact RT (l:=[pF f m t S.X,pI m L S.idx,lP t S L,pO cG L,pD cG L,pE cG L,pC cb c]) (.int .i64 0) [1,2,3,0,4,5,6,7] (⟨L,by subst cA;rw [show (bM S c)=(0,{ S with O:=aH S.O tk (fun o=>{ o with mode:=c.mode,uid:=c.uid,gid:=c.gid,sec:=c.sec,nano:=c.nano }) },c) by unfold bM;rw [dL];exact (if_neg (fun h=>absurd h.2 (by simp))).trans ((if_pos ko).trans ((if_pos ⟨uF,rT⟩).trans (if_pos vM)))]<;>exact⟨rfl,rfl⟩⟩)
 have hkt:(obj S.O tk).kind=2:=hI.kind hlv
 refine af.region (gK 1 [] [] ?_)
 refine NN (af.seq (af.bI (by kernel_rfl) (by kernel_rfl) ?_))
 refine gQ 8 (OI t c) [(3,a_ 0 f),(7,a_ 6 cb)] ?_
 refine aR.call (f:=198) (args:=#[vP t,vI (c.handle)]) (d:=(some 17)) (pre:=[lP t S L]) (R:=(rL f m t S L cb c R)) (pk:=[2,0,1,3,4,5,6,7]) (ij:=[1,2,0,3,4,5,6,7]) (v0:=.tuple #[.iface 169 (vP (L.b tk)),vI 0]) (fun _=>by kernel_rfl) (mg t S.X.cH S.av (bn L S.us) c.handle hC.hw (dR L ⟨tk,2⟩) (kS dL)) rfl (by kernel_rfl) rfl (by kernel_rfl) (fun _ _ h=>h) ?_
 refine gQ 5 (Kr L tk) [] ?_
 refine NQ (NX (af.seq (SR ?_)))
 refine gK 2 [(21,.bool false)] [] ?_
 refine NN (CF (af.skip (NX (SR (gK 1 [(23,.iface 169 (vP (L.b tk)))] [] ?_)))))
 refine gL [] (dr (L.b tk)) ?_
 rintro _ _ ⟨rfl,rfl⟩
 refine gK 1 [(7,vP (L.b tk))] [] ?_
 refine NN (af.seq (af.block (SR ?_)))
 refine gK 5 [(30,.bool (obj S.O tk).gone)] [(3,v_ 3 (oh L hkt))] ?_
 refine ak.om 30 (obj S.O tk).gone (fun _=>by kernel_rfl) (fun ny=>?_) (fun ny=>?_)
 ·refine gK 1 [(31,.iface 169 (vP (L.b tk)))] [] ?_
  refine gL [] (nk (vP (L.b tk))) ?_
  rintro _ _ ⟨rfl,rfl⟩
  refine gK 3 [(25,.bool true)] [] ?_
  refine NN (CT (SR (gK 1 [(4,vI 170)] [] ?_)))
  refine NN (af.ret (aj.aF (aj.aq ?_)))
  exact RT (vI 170) [0,1,2,3,4,5,6,7] (⟨L,by rw [show (bM S c)=(170,S,c) by unfold bM;rw [dL];exact if_pos ⟨ny,rfl⟩]<;>exact⟨rfl,rfl⟩⟩)
 refine gK 5 [(25,.bool false)] [] ?_
 refine NN (CF (SR (gK 4 [(39,vI (c.mode))] [(3,a_ 6 cb)] ?_)))
 refine gL [] (gE (c.mode) 4095) ?_
 rintro _ _ ⟨rfl,rfl⟩
 refine gK 2 [(35,.bool (!(decide (0<=c.mode/\c.mode<=4095))))] [] ?_
 refine NN (af.dx (p:=0<=c.mode/\c.mode<=4095) (fun _=>by kernel_rfl) (fun ko=>?_) (fun ko=>?_))
 ·refine SR (gK 1 [(4,vI 120)] [] ?_)
  refine NN (af.ret (aj.aF (aj.aq ?_)))
  exact RT (vI 120) [0,1,2,3,4,5,6,7] (⟨L,by rw [show (bM S c)=(120,S,c) by unfold bM;rw [dL];exact (if_neg (fun h=>absurd h.1 (by rw [ny];decide))).trans (if_neg ko)]<;>exact⟨rfl,rfl⟩⟩)
 refine SR (gK 4 [(46,vI (c.uid))] [(3,a_ 6 cb)] ?_)
 refine gL [] (gE (c.uid) 2147483647) ?_
 rintro _ _ ⟨rfl,rfl⟩
 refine gK 2 [(49,.bool (!(decide (0<=c.uid/\c.uid<=2147483647))))] [] ?_
 refine ak.kX 49 (0<=c.uid/\c.uid<=2147483647) (fun _=>by kernel_rfl) (fun uF=>?_) (fun uF=>?_)
 ·refine gK 8 [(42,.bool true)] [] ?_
  refine NN (CT (SR (gK 1 [(4,vI 11)] [] ?_)))
  refine NN (af.ret (aj.aF (aj.aq ?_)))
  exact RT (vI 11) [0,1,2,3,4,5,6,7] (⟨L,by rw [show (bM S c)=(11,S,c) by unfold bM;rw [dL];exact (if_neg (fun h=>absurd h.1 (by rw [ny];decide))).trans ((if_pos ko).trans (if_neg (fun h=>uF h.1)))]<;>exact⟨rfl,rfl⟩⟩)
 refine gK 4 [(53,vI (c.gid))] [(3,a_ 6 cb)] ?_
 refine gL [] (gE (c.gid) 2147483647) ?_
 rintro _ _ ⟨rfl,rfl⟩
 refine gK 3 [(42,.bool (!(decide (0<=c.gid/\c.gid<=2147483647))))] [] ?_
 refine NN (af.dx (p:=0<=c.gid/\c.gid<=2147483647) (fun _=>by kernel_rfl) (fun rT=>?_) (fun rT=>?_))
 ·refine SR (gK 1 [(4,vI 11)] [] ?_)
  refine NN (af.ret (aj.aF (aj.aq ?_)))
  exact RT (vI 11) [0,1,2,3,4,5,6,7] (⟨L,by rw [show (bM S c)=(11,S,c) by unfold bM;rw [dL];exact (if_neg (fun h=>absurd h.1 (by rw [ny];decide))).trans ((if_pos ko).trans (if_neg (fun h=>rT h.2)))]<;>exact⟨rfl,rfl⟩⟩)
 refine SR (gK 4 [(61,.agg #[vI (c.sec),vI (c.nano)])] [(3,A_ 6 cb 2)] ?_)
 refine gL [] (jj c.sec c.nano) ?_
 rintro _ _ ⟨rfl,rfl⟩
 refine gK 2 [(57,.bool (!(decide (ef c.sec c.nano))))] [] ?_
 refine NN (af.dx (p:=ef c.sec c.nano) (fun _=>by kernel_rfl) (fun vM=>?_) (fun vM=>?_))
 ·refine SR (gK 1 [(4,vI 20)] [] ?_)
  refine NN (af.ret (aj.aF (aj.aq ?_)))
  exact RT (vI 20) [0,1,2,3,4,5,6,7] (⟨L,by rw [show (bM S c)=(20,S,c) by unfold bM;rw [dL];exact (if_neg (fun h=>absurd h.1 (by rw [ny];decide))).trans ((if_pos ko).trans ((if_pos ⟨uF,rT⟩).trans (if_neg vM)))]<;>exact⟨rfl,rfl⟩⟩)
 refine af.skip (aj.aQ (NX (af.seq ?_)))
 skip
 refine af.mem (fun w hS=>hS.yj (i:=3) (k:=tk) rfl (by rw [hkt];decide) (lY (hkt)) (congrArg kR (hkt))) ?_
 refine af.bU (S:=[pC cb c]) [0,1,2,3,4,5,6,7,8,9,10,11,12,13,14,15,16,17,18,19,20,21,22,23,24,25,26,27,28,29,30,31] 22 [6] (by kernel_rfl) (by kernel_rfl) rfl (by kernel_rfl) ?_
 refine gR 0 [22,23,24,25,26,27,28,29,30,31] (OE L tk c) [0,1,2,3,4,5,6,7,8,9,10,11,12,13,14,15,16,17,18,19,20,21] [(7,a_ 0 cb),(11,a_ 0 cb),(15,a_ 0 cb),(19,A_ 0 cb 2)] ?_
 refine mC [6] [] [(0,a_ 8 (L.b tk))] [(8,[(1,vI (c.mode))])] ?_
 refine aO.cut (ι:=Unit) (fr':=fun (_:Unit)=>(DK L tk c++rM c++[(86,vP (L.b tk))])) (hp':=fun (_:Unit)=>(qf f m t S L tk cb c R++[UI L tk S c])) [6] rfl rfl ?_ rfl (fun _=>by kernel_rfl) ?_
 ·refine gK 1 [(86,vP (L.b tk))] [] ?_
  refine NL ?_
  exact MD () [66,67,75,79,83,86] [0,1,2,3,4,5,6,7,8]
 rintro _
 refine aO.cut (ι:=Unit) (fr':=fun (_:Unit)=>(DK L tk c++rM c++[(87,.pointer (some ⟨(L.b tk),2,none⟩))])) (hp':=fun (_:Unit)=>(qf f m t S L tk cb c R++[UI L tk S c])) [6] rfl rfl ?_ rfl (fun _=>by kernel_rfl) ?_
 ·refine gK 1 [(87,.pointer (some ⟨(L.b tk),2,none⟩))] [] ?_
  refine NL ?_
  exact MD () [66,67,75,79,83,87] [0,1,2,3,4,5,6,7,8]
 rintro _
 refine mC [6] [] [(0,a_ 8 (L.b tk))] [(8,[(2,vI (c.uid))])] ?_
 refine aO.cut (ι:=Unit) (fr':=fun (_:Unit)=>([(67,vP (L.b tk))]++rM c++[(88,vP (L.b tk))])) (hp':=fun (_:Unit)=>(qf f m t S L tk cb c R++[UJ L tk S c])) [6] rfl rfl ?_ rfl (fun _=>by kernel_rfl) ?_
 ·refine gK 1 [(88,vP (L.b tk))] [] ?_
  refine NL ?_
  exact MD () [67,79,83,88] [0,1,2,3,4,5,6,7,8]
 rintro _
 refine aO.cut (ι:=Unit) (fr':=fun (_:Unit)=>([(67,vP (L.b tk))]++rM c++[(89,.pointer (some ⟨(L.b tk),3,none⟩))])) (hp':=fun (_:Unit)=>(qf f m t S L tk cb c R++[UJ L tk S c])) [6] rfl rfl ?_ rfl (fun _=>by kernel_rfl) ?_
 ·refine gK 1 [(89,.pointer (some ⟨(L.b tk),3,none⟩))] [] ?_
  refine NL ?_
  exact MD () [67,79,83,89] [0,1,2,3,4,5,6,7,8]
 rintro _
 refine mC [6] [] [(0,a_ 8 (L.b tk))] [(8,[(3,vI (c.gid))])] ?_
 refine aO.cut (ι:=Unit) (fr':=fun (_:Unit)=>[(83,.agg #[vI (c.sec),vI (c.nano)]),(90,vP (L.b tk))]) (hp':=fun (_:Unit)=>(qf f m t S L tk cb c R++[UK L tk S c])) [6] rfl rfl ?_ rfl (fun _=>by kernel_rfl) ?_
 ·refine gK 1 [(90,vP (L.b tk))] [] ?_
  refine NL ?_
  exact MD () [83,90] [0,1,2,3,4,5,6,7,8]
 rintro _
 refine aO.cut (ι:=Unit) (fr':=fun (_:Unit)=>(OG c L tk)) (hp':=fun (_:Unit)=>(qf f m t S L tk cb c R++[UK L tk S c])) [6] rfl rfl ?_ rfl (fun _=>by kernel_rfl) ?_
 ·refine gK 1 [(91,.pointer (some ⟨(L.b tk),4,none⟩))] [] ?_
  refine NL ?_
  exact MD () [83,91] [0,1,2,3,4,5,6,7,8]
 rintro _
 refine aO.last rfl rfl ?_
 refine gC 1 [] [(0,A_ 8 (L.b tk) 2)] [(8,[(4,vI (c.sec)),(5,vI (c.nano))])] ?_
 refine NL (aj.np (NX (SR ?_)))
 refine ak.mem (cP:=[.abs (ay (bN (aH S.O tk (fun o=>{ o with mode:=c.mode,uid:=c.uid,gid:=c.gid,sec:=c.sec,nano:=c.nano })) L)),.blk f [vI (S.X.cN),vI (S.X.cB),vI (S.X.cH),vI (S.X.cS),vI (S.X.cZ),.map (some m),vP t,vI (S.X.last),vI (S.X.ah),vI (S.X.used)] 154,.abs (aP Tryz.prog 3 m (bg (bn L S.idx)) S.idx.length),.abs (cE 212 t S.X.cH S.av (bn L S.us)),.abs (ay (bO (aH S.O tk (fun o=>{ o with mode:=c.mode,uid:=c.uid,gid:=c.gid,sec:=c.sec,nano:=c.nano })) L)),.abs (ay (cJ (aH S.O tk (fun o=>{ o with mode:=c.mode,uid:=c.uid,gid:=c.gid,sec:=c.sec,nano:=c.nano })) L)),.blk cb [vI (c.op),vI (c.handle),vI (c.other),.string c.name,.string c.text,.slice c.dA (c.data.length) (c.dC),vI (c.mode),vI (c.uid),vI (c.gid),vI (c.sec),vI (c.nano),vI (c.code),vI (c.answer)] 88,.abs R]) (fun w hS=>by have h:=hS.zn (O:=S.O) (L:=L) (i:=3) (j:=8) (idx:=[0,1,2,4,5,6,7]) (k:=tk) (f:=(fun o=>{ o with mode:=c.mode,uid:=c.uid,gid:=c.gid,sec:=c.sec,nano:=c.nano })) rfl (fun _ hx=>oQ hx) rfl (by kernel_rfl) rfl (by show (obj S.O tk).kind≠0;rw [hkt];decide) ((lY (o:=(fun o=>{ o with mode:=c.mode,uid:=c.uid,gid:=c.gid,sec:=c.sec,nano:=c.nano }) (obj S.O tk)) (hkt)).trans rfl) (by show kR (obj S.O tk).kind=_;rw [hkt]<;>rfl);rw [nG (O:=S.O) (k:=tk) (f:=(fun o=>{ o with mode:=c.mode,uid:=c.uid,gid:=c.gid,sec:=c.sec,nano:=c.nano })) rfl rfl,nH (O:=S.O) (k:=tk) (f:=(fun o=>{ o with mode:=c.mode,uid:=c.uid,gid:=c.gid,sec:=c.sec,nano:=c.nano })) rfl rfl];exact h) ?_
 have Dy:(obj (aH S.O tk (fun o=>{ o with mode:=c.mode,uid:=c.uid,gid:=c.gid,sec:=c.sec,nano:=c.nano })) tk).kind=2:=(j6 (f:=(fun o=>{ o with mode:=c.mode,uid:=c.uid,gid:=c.gid,sec:=c.sec,nano:=c.nano })) (fun _=>rfl)).trans (hkt)
 generalize cA:(aH S.O tk (fun o=>{ o with mode:=c.mode,uid:=c.uid,gid:=c.gid,sec:=c.sec,nano:=c.nano }))=cG at Dy ⊢
 refine gK 1 [(4,vI 0)] [] ?_
 refine NN (af.ret ?_)
 exact RT (l:=[pF f m t S.X,pI m L S.idx,lP t S L,pO cG L,pD cG L,pE cG L,pC cb c]) (.int .i64 0) [1,2,3,0,4,5,6,7] (⟨L,by subst cA;rw [show (bM S c)=(0,{ S with O:=aH S.O tk (fun o=>{ o with mode:=c.mode,uid:=c.uid,gid:=c.gid,sec:=c.sec,nano:=c.nano }) },c) by unfold bM;rw [dL];exact (if_neg (fun h=>absurd h.1 (by rw [ny];decide))).trans ((if_pos ko).trans ((if_pos ⟨uF,rT⟩).trans (if_pos vM)))]<;>exact⟨rfl,rfl⟩⟩)
theorem GV {β:Bs} (S:aG) (L:HL) (f m t:Nat) (hI:Inv S) (cb:Nat) (c:ax) (hC:gT β c) :
    Spec Tryz.prog β 176 #[vP f,vP cb] ((pA f m t L S)++[pC cb c]) (fun v l=>∃ L2,v=vI (eS S c).1/\l=((pA f m t L2 ((eS S c).2.1))++[.blk cb (cC ((eS S c).2.2)) 88])):=by
 have hX:=hI.hX
 refine Spec.enter Tryz.func176 rfl Tryz.ntmps176 (Nat.le_of_ble_eq_true rfl) (fun R=>?_)
 refine SR (gK 1 [] [] ?_)
 refine NN (af.seq (af.bI (by kernel_rfl) (by kernel_rfl) ?_))
 refine gQ 9 [(10,vP f),(14,vI (c.handle)),(18,.string c.name)] [(4,a_ 6 cb),(8,a_ 6 cb)] ?_
 rcases mD hI.toInv0 c.handle c.name 192 with ⟨e,hab,hne⟩|⟨d,hab,hd,jB,hgn,dL⟩
 ·refine aR.call (f:=189) (args:=#[vP f,vI (c.handle),.string c.name,vI 192]) (d:=(some 19)) (pre:=[pF f m t S.X,lP t S L,pO S.O L]) (R:=(o6 m L S cb c R)) (pk:=[0,2,3,1,4,5,6,7]) (ij:=[0,3,1,2,4,5,6,7]) (v0:=.tuple #[.pointer none,vI (e)]) (fun _=>by kernel_rfl) ((by have h:=eT S L f m t hI c.handle hC.hw c.name hC.nm 192 (β:=β);rw [hab] at h;exact h)) rfl (by kernel_rfl) rfl (by kernel_rfl) (fun _ _ h=>h) ?_
  refine gQ 5 [(5,.pointer none),(6,vI (e))] [] ?_
  refine NQ (NX (af.seq (SR ?_)))
  refine gK 2 [(23,.bool (!(decide ((e:Int)=(0:Int)))))] [] ?_
  refine NN (af.dx (p:=(e:Int)=(0:Int)) (fun _=>by kernel_rfl) (fun h23=>?_) (fun h23=>?_))
  ·refine SR (gK 2 [(4,vI (e))] [] ?_)
   refine NN (af.ret (aj.aq ?_))
   exact RT (vI (e)) [0,1,2,3,4,5,6,7] (⟨L,by rw [show (eS S c)=(e,S,c) by unfold eS;rw [hab]]<;>exact⟨rfl,rfl⟩⟩)
  exact absurd h23 hne
 have hkd:(obj S.O d).kind=2:=hI.kind hd
 refine aR.call (f:=189) (args:=#[vP f,vI (c.handle),.string c.name,vI 192]) (d:=(some 19)) (pre:=[pF f m t S.X,lP t S L,pO S.O L]) (R:=(o6 m L S cb c R)) (pk:=[0,2,3,1,4,5,6,7]) (ij:=[0,3,1,2,4,5,6,7]) (v0:=.tuple #[vP (L.b d),vI 0]) (fun _=>by kernel_rfl) ((by have h:=eT S L f m t hI c.handle hC.hw c.name hC.nm 192 (β:=β);rw [hab] at h;exact h)) rfl (by kernel_rfl) rfl (by kernel_rfl) (fun _ _ h=>h) ?_
 refine gQ 5 (GP L d) [] ?_
 refine NQ (NX (af.seq (SR ?_)))
 refine gK 2 [(23,.bool false)] [] ?_
 refine NN (CF (af.skip (NX (af.seq (SR (gK 4 [(28,vI (c.mode))] [(3,a_ 6 cb)] ?_))))))
 refine gL [] (gE (c.mode) 4095) ?_
 rintro _ _ ⟨rfl,rfl⟩
 refine gK 1 [(30,.bool (!(decide (0<=c.mode/\c.mode<=4095))))] [] ?_
 refine NN (af.dx (p:=0<=c.mode/\c.mode<=4095) (fun _=>by kernel_rfl) (fun ny=>?_) (fun ny=>?_))
 ·refine SR (gK 1 [(4,vI 120)] [] ?_)
  refine NN (af.ret (aj.aq ?_))
  exact RT (vI 120) [0,1,2,3,4,5,6,7] (⟨L,by rw [show (eS S c)=(120,S,c) by unfold eS;rw [hab];exact if_neg ny]<;>exact⟨rfl,rfl⟩⟩)
 refine af.skip (NX (af.seq (SR (gK 6 [(31,vP f),(32,vP (L.b d)),(36,.string c.name)] [(5,a_ 6 cb)] ?_))))
 refine gL [0,1,5,3] (uw S L f m t hI d hd c.name hC.nm) ?_
 rintro _ _ ⟨rfl,rfl⟩
 refine gK 1 [(6,vI ((cq S.X S.O S.idx d c.name)))] [] ?_
 refine NS (gK 2 [(39,.bool (!(decide (((cq S.X S.O S.idx d c.name):Int)=(0:Int)))))] [] ?_)
 refine NN (af.dx (p:=((cq S.X S.O S.idx d c.name):Int)=(0:Int)) (fun _=>by kernel_rfl) (fun h0=>?_) (fun h0=>?_))
 ·refine SR (gK 2 [(4,vI ((cq S.X S.O S.idx d c.name)))] [] ?_)
  refine NN (af.ret (aj.aq ?_))
  exact RT (vI ((cq S.X S.O S.idx d c.name))) [0,1,4,3,5,2,6,7] (⟨L,by rw [show (eS S c)=(cq S.X S.O S.idx d c.name,S,c) by unfold eS;rw [hab];exact (if_pos ny).trans (if_neg h0)]<;>exact⟨rfl,rfl⟩⟩)
 have hno:=oY h0
 refine af.skip (NX (SR (gN 8 (fun b4=>[(7,vP b4)]) (fun b4=>[(3,a_ 6 cb)]) (fun _=>[]) (fun b4=>.blk b4 [vI 0,vI (c.mode),vI 0,vI 0,vI 0,vI 0,vI 0,vI 0,.bool false,.slice none (0) (0)] 165) (fun b4=>?_))))
 refine NN (af.seq (af.seq ?_))
 rcases Int.lt_or_le (S.us.length:Int) S.X.cH with ux|ux
 ·refine af.region (gK 4 (Sw cb f b4) [] ?_)
  obtain⟨L2,hL2⟩:∃ L2:HL,L2=L.put (aN S.X) b4 0 none 0:=⟨_,rfl⟩
  have hfr:=hI.toInv0.fresh
  refine ak.mem (fun w hS=>hS.uh hL2 hfr (o:=(⟨0,c.mode,0,0,0,0,0,0,false,1,[],⟨#[]⟩,[],none⟩:aT)) (i:=3) (j:=8) (ix:=[0,1,2,4,5,6,7]) rfl rfl (by kernel_rfl) rfl (by show (1:Int)≠0;decide) ((iU (L:=L2) (k:=(aN S.X)) (o:=(⟨0,c.mode,0,0,0,0,0,0,false,1,[],⟨#[]⟩,[],none⟩:aT)) rfl).trans (by rw [show L2.dA (aN S.X)=none by rw [hL2];exact if_pos rfl,show L2.dC (aN S.X)=0 by rw [hL2];exact if_pos rfl];rfl)) rfl) ?_
  refine ak.dN [(3,pE (aH S.O (aN S.X) (fun _=>(⟨0,c.mode,0,0,0,0,0,0,false,1,[],⟨#[]⟩,[],none⟩:aT))) L2)] (fun w hS=>hS.vw hL2 hfr (o:=(⟨0,c.mode,0,0,0,0,0,0,false,1,[],⟨#[]⟩,[],none⟩:aT)) (i:=3) rfl (by show (1:Int)≠2;decide)) ?_
  refine ak.mem (fun w hS=>hS.kI (e:=5) (size:=1)) ?_
  refine ak.mem (fun w hS=>hS.JQ hL2 (o:=(⟨0,c.mode,0,0,0,0,0,0,false,1,[],⟨#[]⟩,[],none⟩:aT)) (i:=5) (j:=8) (ix:=[0,1,2,3,4,6,7]) rfl rfl (by kernel_rfl) rfl rfl rfl) ?_
  refine ak.dN [(3,.abs (aP Tryz.prog 3 m (bg (bn L2 S.idx)) S.idx.length)),(5,.abs (cE 212 t S.X.cH S.av (bn L2 S.us)))] (fun w hS=>by rw [iH hL2 hfr.idx,iH hL2 hfr.us];exact hS) ?_
  refine gL (f:=187) (args:=#[vP f,.iface 162 (vP b4)]) (pre:=[pF f m t S.X,lP t S L2,UL S c L2]) [2,5,1] ((by have h:=tB (β:=β) { S with O:=(aH S.O (aN S.X) (fun _=>(⟨0,c.mode,0,0,0,0,0,0,false,1,[],⟨#[]⟩,[],none⟩:aT))) } L2 f m t ⟨(aN S.X),1⟩ (by show (obj (aH S.O (aN S.X) (fun _=>(⟨0,c.mode,0,0,0,0,0,0,false,1,[],⟨#[]⟩,[],none⟩:aT))) (aN S.X)).kind=1;rw [bR]) (by simp) (by show 0<=(obj (aH S.O (aN S.X) (fun _=>(⟨0,c.mode,0,0,0,0,0,0,false,1,[],⟨#[]⟩,[],none⟩:aT))) (aN S.X)).opens/\(obj (aH S.O (aN S.X) (fun _=>(⟨0,c.mode,0,0,0,0,0,0,false,1,[],⟨#[]⟩,[],none⟩:aT))) (aN S.X)).opens<=1048576;rw [bR];exact⟨Int.le_refl _,by show (0:Int)<=1048576;decide⟩);rw [oW hL2,jG (S:={ S with O:=(aH S.O (aN S.X) (fun _=>(⟨0,c.mode,0,0,0,0,0,0,false,1,[],⟨#[]⟩,[],none⟩:aT))) }) (t:=⟨(aN S.X),1⟩) ux] at h;exact h)) ?_
  rintro _ _ ⟨rfl,rfl⟩
  refine gC 7 [(6,vI 0)] [(5,a_ 6 cb)] [(6,[(12,vI ((aB.least S.us)))])] ?_
  refine NS (gK 2 [(59,.bool false)] [] ?_)
  refine NN (CF (af.skip (NX (SR (ak.slot 7 (vP b4) (vP (L2.b (aN S.X))) (fun _=>by kernel_rfl) (by rw [Ca hL2]) ?_)))))
  refine ak.dN [(3,.abs (ay (bO (aH (aH S.O (aN S.X) (fun _=>(⟨0,c.mode,0,0,0,0,0,0,false,1,[],⟨#[]⟩,[],none⟩:aT))) (aN S.X) (fun o=>{ o with opens:=o.opens+1 })) L2))),(5,.abs (ay (cJ (aH (aH S.O (aN S.X) (fun _=>(⟨0,c.mode,0,0,0,0,0,0,false,1,[],⟨#[]⟩,[],none⟩:aT))) (aN S.X) (fun o=>{ o with opens:=o.opens+1 })) L2)))] (fun w hS=>by rw [nG (O:=(aH S.O (aN S.X) (fun _=>(⟨0,c.mode,0,0,0,0,0,0,false,1,[],⟨#[]⟩,[],none⟩:aT)))) (k:=(aN S.X)) (f:=(fun o=>{ o with opens:=o.opens+1 })) rfl rfl,nH (O:=(aH S.O (aN S.X) (fun _=>(⟨0,c.mode,0,0,0,0,0,0,false,1,[],⟨#[]⟩,[],none⟩:aT)))) (k:=(aN S.X)) (f:=(fun o=>{ o with opens:=o.opens+1 })) rfl rfl];exact hS) ?_
  have hkN:(obj (aH (aH S.O (aN S.X) (fun _=>(⟨0,c.mode,0,0,0,0,0,0,false,1,[],⟨#[]⟩,[],none⟩:aT))) (aN S.X) (fun o=>{ o with opens:=o.opens+1 })) (aN S.X)).kind=1:=by rw [bR,bR]
  have UM:(obj (aH (aH S.O (aN S.X) (fun _=>(⟨0,c.mode,0,0,0,0,0,0,false,1,[],⟨#[]⟩,[],none⟩:aT))) (aN S.X) (fun o=>{ o with opens:=o.opens+1 })) (aN S.X)).opens=1:=by rw [bR,bR];rfl
  generalize cA:(aH (aH S.O (aN S.X) (fun _=>(⟨0,c.mode,0,0,0,0,0,0,false,1,[],⟨#[]⟩,[],none⟩:aT))) (aN S.X) (fun o=>{ o with opens:=o.opens+1 }))=cG at hkN UM ⊢
  refine gK 6 [(8,vI ((obj cG (aN S.X)).opens))] [(4,v_ 2 (kE L2 hkN))] ?_
  refine NS (gK 6 [(66,vP (L2.b (aN S.X))),(67,vP f),(71,vI (c.mode))] [(5,a_ 6 cb)] ?_)
  refine gL [0] (ur S.X f m t hX c.mode) ?_
  rintro _ _ ⟨rfl,rfl⟩
  refine gK 2 [(74,vP (L2.b (aN S.X)))] [] ?_
  refine ak.mem (fun w hS=>hS.yj (i:=2) (k:=(aN S.X)) rfl (by rw [hkN];decide) (iU (hkN)) (congrArg kR (hkN))) ?_
  refine gC 1 [] [(0,A_ 8 (L2.b (aN S.X)) 9)] [(8,[(0,vI (S.X.last+1)),(1,vI (c.mode)),(2,vI 0),(3,vI 0),(4,vI (S.X.cS)),(5,vI (S.X.cZ)),(6,vI 0),(7,vI 0),(8,.bool false)])] ?_
  refine ak.mem (cP:=[.abs (ay (bN (aH cG (aN S.X) (fun o=>{ o with id:=S.X.last+1,mode:=c.mode,uid:=0,gid:=0,sec:=S.X.cS,nano:=S.X.cZ,links:=0,opens:=0,gone:=false })) L2)),.blk f [vI (S.X.cN),vI (S.X.cB),vI (S.X.cH),vI (S.X.cS),vI (S.X.cZ),.map (some m),vP t,vI (S.X.last+1),vI (S.X.ah),vI (S.X.used)] 154,.abs (cE 212 t S.X.cH (max S.av ((S.us.length:Int)+1)) (bn L2 (ins (aB.least S.us) ⟨(aN S.X),1⟩ S.us))),.abs (ay (bO (aH cG (aN S.X) (fun o=>{ o with id:=S.X.last+1,mode:=c.mode,uid:=0,gid:=0,sec:=S.X.cS,nano:=S.X.cZ,links:=0,opens:=0,gone:=false })) L2)),.abs (aP Tryz.prog 3 m (bg (bn L2 S.idx)) S.idx.length),.abs (ay (cJ (aH cG (aN S.X) (fun o=>{ o with id:=S.X.last+1,mode:=c.mode,uid:=0,gid:=0,sec:=S.X.cS,nano:=S.X.cZ,links:=0,opens:=0,gone:=false })) L2)),.blk cb [vI (c.op),vI (c.handle),vI (c.other),.string c.name,.string c.text,.slice c.dA (c.data.length) (c.dC),vI (c.mode),vI (c.uid),vI (c.gid),vI (c.sec),vI (c.nano),vI (c.code),vI ((aB.least S.us))] 88,.abs R]) (fun w hS=>by have h:=hS.zn (O:=cG) (L:=L2) (i:=2) (j:=8) (idx:=[0,1,3,4,5,6,7]) (k:=(aN S.X)) (f:=(fun o=>{ o with id:=S.X.last+1,mode:=c.mode,uid:=0,gid:=0,sec:=S.X.cS,nano:=S.X.cZ,links:=0,opens:=0,gone:=false })) rfl (fun _ hx=>oQ hx) rfl (by kernel_rfl) rfl (by show (obj cG (aN S.X)).kind≠0;rw [hkN];decide) ((iU (o:=(fun o=>{ o with id:=S.X.last+1,mode:=c.mode,uid:=0,gid:=0,sec:=S.X.cS,nano:=S.X.cZ,links:=0,opens:=0,gone:=false }) (obj cG (aN S.X))) (hkN)).trans rfl) (by show kR (obj cG (aN S.X)).kind=_;rw [hkN]<;>rfl);rw [nG (O:=cG) (k:=(aN S.X)) (f:=(fun o=>{ o with id:=S.X.last+1,mode:=c.mode,uid:=0,gid:=0,sec:=S.X.cS,nano:=S.X.cZ,links:=0,opens:=0,gone:=false })) rfl rfl,nH (O:=cG) (k:=(aN S.X)) (f:=(fun o=>{ o with id:=S.X.last+1,mode:=c.mode,uid:=0,gid:=0,sec:=S.X.cS,nano:=S.X.cZ,links:=0,opens:=0,gone:=false })) rfl rfl];exact h) ?_
  have yN:(obj (aH cG (aN S.X) (fun o=>{ o with id:=S.X.last+1,mode:=c.mode,uid:=0,gid:=0,sec:=S.X.cS,nano:=S.X.cZ,links:=0,opens:=0,gone:=false })) (aN S.X)).kind=1:=(j6 (f:=(fun o=>{ o with id:=S.X.last+1,mode:=c.mode,uid:=0,gid:=0,sec:=S.X.cS,nano:=S.X.cZ,links:=0,opens:=0,gone:=false })) (fun _=>rfl)).trans (hkN)
  generalize dD:(aH cG (aN S.X) (fun o=>{ o with id:=S.X.last+1,mode:=c.mode,uid:=0,gid:=0,sec:=S.X.cS,nano:=S.X.cZ,links:=0,opens:=0,gone:=false }))=eM at yN ⊢
  refine NS (gK 5 [(76,vI ((obj cG (aN S.X)).opens)),(79,.pointer (some ⟨(L2.b (aN S.X)),7,none⟩))] [] ?_)
  refine tu 0 [(5,1),(3,2)] (aN S.X) 7 (fun o=>{ o with opens:=(obj cG (aN S.X)).opens }) yN (fun vJ mM=>?_)
  have Oj:=ku mM yN
  refine NS ?_
  have hfin:vJ=aH S.O (aN S.X) (fun _=>{ aW S.X 1 c.mode with opens:=1 }):=by subst mM;subst dD;rw [UM];subst cA;simp only [tZ];rfl
  subst hfin
  show ak _ _ _ _ _ _ [pO (aH S.O (aN S.X) (fun _=>{ aW S.X 1 c.mode with opens:=1 })) L2,pF f m t { S.X with last:=S.X.last+1 },pT t S.X.cH (max S.av ((S.us.length:Int)+1)) L2 (ins (aB.least S.us) ⟨(aN S.X),1⟩ S.us),pD (aH S.O (aN S.X) (fun _=>{ aW S.X 1 c.mode with opens:=1 })) L2,pI m L2 S.idx,pE (aH S.O (aN S.X) (fun _=>{ aW S.X 1 c.mode with opens:=1 })) L2,pC cb { c with answer:=aB.least S.us },.abs R] _
  refine gK 8 [(80,vP f),(81,vP (L.b d)),(85,.string c.name),(87,.iface 162 (vP (L2.b (aN S.X))))] [(5,a_ 6 cb)] ?_
  refine gL (f:=193) (args:=#[vP f,vP (L.b d),.string c.name,.iface 162 (vP (L2.b (aN S.X)))]) (pre:=[pF f m t { S.X with last:=S.X.last+1 },pI m L2 S.idx,pO (aH S.O (aN S.X) (fun _=>{ aW S.X 1 c.mode with opens:=1 })) L2,pE (aH S.O (aN S.X) (fun _=>{ aW S.X 1 c.mode with opens:=1 })) L2]) [1,4,0,5] ((by have h:=sD (β:=β) S L2 f m t hI.toInv0 d hd c.name hC.nm hno { aW S.X 1 c.mode with opens:=1 } rfl (by simp [aW]) rfl (qN h0);rw [wM hL2 (hI.vu hd)] at h;exact h)) ?_
  rintro _ _ ⟨rfl,rfl⟩
  refine NS (ak.dN [(5,.abs (ay (bO ((fw S d c.name { aW S.X 1 c.mode with opens:=1 }).O) L2)))] (fun w hS=>by rw [show bO ((fw S d c.name { aW S.X 1 c.mode with opens:=1 }).O) L2=bO (aH S.O (aN S.X) (fun _=>{ aW S.X 1 c.mode with opens:=1 })) L2 from iV];exact hS) ?_)
  refine gK 1 [(4,vI 0)] [] ?_
  refine NN (af.ret ?_)
  exact RT (vI 0) [0,1,4,2,5,3,6,7] (⟨L2,by rw [show (eS S c)=(0,(fw { S with us:=(ins (aB.least S.us) ⟨(aN S.X),1⟩ S.us),av:=(max S.av ((S.us.length:Int)+1)) } d c.name { aW S.X 1 c.mode with opens:=1 }),{ c with answer:=aB.least S.us }) by unfold eS;rw [hab];exact (if_pos ny).trans ((if_pos h0).trans (by rw [show nJ S d c.name c.mode=(aB.least S.us,0,(fw { S with us:=(ins (aB.least S.us) ⟨(aN S.X),1⟩ S.us),av:=(max S.av ((S.us.length:Int)+1)) } d c.name { aW S.X 1 c.mode with opens:=1 })) from (if_pos h0).trans (if_pos ux)]))]<;>exact⟨rfl,rfl⟩⟩)
 refine af.region (gK 4 (Sw cb f b4) [] ?_)
 obtain⟨L2,hL2⟩:∃ L2:HL,L2=L.put (aN S.X) b4 0 none 0:=⟨_,rfl⟩
 have hfr:=hI.toInv0.fresh
 refine ak.mem (fun w hS=>hS.uh hL2 hfr (o:=(⟨0,c.mode,0,0,0,0,0,0,false,1,[],⟨#[]⟩,[],none⟩:aT)) (i:=3) (j:=8) (ix:=[0,1,2,4,5,6,7]) rfl rfl (by kernel_rfl) rfl (by show (1:Int)≠0;decide) ((iU (L:=L2) (k:=(aN S.X)) (o:=(⟨0,c.mode,0,0,0,0,0,0,false,1,[],⟨#[]⟩,[],none⟩:aT)) rfl).trans (by rw [show L2.dA (aN S.X)=none by rw [hL2];exact if_pos rfl,show L2.dC (aN S.X)=0 by rw [hL2];exact if_pos rfl];rfl)) rfl) ?_
 refine ak.dN [(3,pE (aH S.O (aN S.X) (fun _=>(⟨0,c.mode,0,0,0,0,0,0,false,1,[],⟨#[]⟩,[],none⟩:aT))) L2)] (fun w hS=>hS.vw hL2 hfr (o:=(⟨0,c.mode,0,0,0,0,0,0,false,1,[],⟨#[]⟩,[],none⟩:aT)) (i:=3) rfl (by show (1:Int)≠2;decide)) ?_
 refine ak.mem (fun w hS=>hS.kI (e:=5) (size:=1)) ?_
 refine ak.mem (fun w hS=>hS.JQ hL2 (o:=(⟨0,c.mode,0,0,0,0,0,0,false,1,[],⟨#[]⟩,[],none⟩:aT)) (i:=5) (j:=8) (ix:=[0,1,2,3,4,6,7]) rfl rfl (by kernel_rfl) rfl rfl rfl) ?_
 refine ak.dN [(3,.abs (aP Tryz.prog 3 m (bg (bn L2 S.idx)) S.idx.length)),(5,.abs (cE 212 t S.X.cH S.av (bn L2 S.us)))] (fun w hS=>by rw [iH hL2 hfr.idx,iH hL2 hfr.us];exact hS) ?_
 refine gL (f:=187) (args:=#[vP f,.iface 162 (vP b4)]) (pre:=[pF f m t S.X,lP t S L2,UL S c L2]) [2,5,1] ((by have h:=tB (β:=β) { S with O:=(aH S.O (aN S.X) (fun _=>(⟨0,c.mode,0,0,0,0,0,0,false,1,[],⟨#[]⟩,[],none⟩:aT))) } L2 f m t ⟨(aN S.X),1⟩ (by show (obj (aH S.O (aN S.X) (fun _=>(⟨0,c.mode,0,0,0,0,0,0,false,1,[],⟨#[]⟩,[],none⟩:aT))) (aN S.X)).kind=1;rw [bR]) (by simp) (by show 0<=(obj (aH S.O (aN S.X) (fun _=>(⟨0,c.mode,0,0,0,0,0,0,false,1,[],⟨#[]⟩,[],none⟩:aT))) (aN S.X)).opens/\(obj (aH S.O (aN S.X) (fun _=>(⟨0,c.mode,0,0,0,0,0,0,false,1,[],⟨#[]⟩,[],none⟩:aT))) (aN S.X)).opens<=1048576;rw [bR];exact⟨Int.le_refl _,by show (0:Int)<=1048576;decide⟩);rw [oW hL2,kK (S:={ S with O:=(aH S.O (aN S.X) (fun _=>(⟨0,c.mode,0,0,0,0,0,0,false,1,[],⟨#[]⟩,[],none⟩:aT))) }) (t:=⟨(aN S.X),1⟩) (by show ¬ (S.us.length:Int) < S.X.cH;omega)] at h;exact h)) ?_
 rintro _ _ ⟨rfl,rfl⟩
 refine gC 7 [(6,vI 130)] [(5,a_ 6 cb)] [(6,[(12,vI 0)])] ?_
 refine NS (gK 2 [(59,.bool true)] [] ?_)
 refine NN (CT (SR ?_))
 have hk0:(obj S.O (aN S.X)).kind=0:=hI.sx _ (by have:=qw hI.toInv0;omega)
 refine ak.dN [(2,.abs (ay (bN S.O L)))] (fun w hS=>hS.yB (i:=2) rfl (aN S.X) (fun x hx=>by rw [vm hx,IQ hL2 hfr hx]) (by unfold bN;rw [hk0];rfl)) ?_
 refine ak.dN [(5,.abs (ay (cJ S.O L)))] (fun w hS=>hS.yB (i:=5) rfl (aN S.X) (fun x hx=>by rw [yc hx,Dp hL2 hfr hx]) (by unfold cJ;rw [hk0];rfl)) ?_
 refine ak.mem (cP:=[.blk f [vI (S.X.cN),vI (S.X.cB),vI (S.X.cH),vI (S.X.cS),vI (S.X.cZ),.map (some m),vP t,vI (S.X.last),vI (S.X.ah),vI (S.X.used)] 154,.abs (cE 212 t S.X.cH S.av (bn L2 S.us)),.abs (ay (bN S.O L)),.abs (ay (bO S.O L)),.abs (aP Tryz.prog 3 m (bg (bn L2 S.idx)) S.idx.length),.abs (ay (cJ S.O L)),.blk cb [vI (c.op),vI (c.handle),vI (c.other),.string c.name,.string c.text,.slice c.dA (c.data.length) (c.dC),vI (c.mode),vI (c.uid),vI (c.gid),vI (c.sec),vI (c.nano),vI (c.code),vI 0] 88,.abs R]) (fun w hS=>hS.yB (i:=3) rfl (aN S.X) (fun x hx=>by rw [ye hx,zw hL2 hx]) (by unfold bO;rw [hk0];rfl)) ?_
 refine ak.mem (cP:=[.blk f [vI (S.X.cN),vI (S.X.cB),vI (S.X.cH),vI (S.X.cS),vI (S.X.cZ),.map (some m),vP t,vI (S.X.last),vI (S.X.ah),vI (S.X.used)] 154,.abs (cE 212 t S.X.cH S.av (bn L S.us)),.abs (ay (bN S.O L)),.abs (ay (bO S.O L)),.abs (aP Tryz.prog 3 m (bg (bn L S.idx)) S.idx.length),.abs (ay (cJ S.O L)),.blk cb [vI (c.op),vI (c.handle),vI (c.other),.string c.name,.string c.text,.slice c.dA (c.data.length) (c.dC),vI (c.mode),vI (c.uid),vI (c.gid),vI (c.sec),vI (c.nano),vI (c.code),vI 0] 88,.abs R]) (fun w hS=>by rw [iH hL2 hfr.idx,iH hL2 hfr.us] at hS;exact hS) ?_
 refine gK 2 [(4,vI 130)] [] ?_
 refine NN (af.ret (aj.aq ?_))
 exact RT (vI 130) [0,4,1,2,3,5,6,7] (⟨L,by rw [show (eS S c)=(130,S,{ c with answer:=0 }) by unfold eS;rw [hab];exact (if_pos ny).trans ((if_pos h0).trans (by rw [show nJ S d c.name c.mode=(0,130,S) from (if_pos h0).trans (if_neg (by omega))]))]<;>exact⟨rfl,rfl⟩⟩)
end
section
open Go.RowKit
def vN (b:Nat) (v:Value):bY where
  h F w:=∃ cs T,cs[0]?=some v/\(HP.blk b cs T).h F w
  lt:=fun ⟨_,_,_,h⟩=>HP.lt h
  st:=fun ⟨cs,T,hv,h⟩ _ _ hk hd=>⟨cs,T,hv,HP.st h hk hd⟩
theorem vN.cell {b:Nat} {v:Value}:∀ F w,(vN b v).h F w->w.cell? ⟨b,0,none⟩=some v:=by
  rintro F w ⟨cs,T,hv,h⟩
  exact (gU h.1 rfl rfl hv).1
theorem Sat.first {β:Bs} {l:List HP} {w:World} {i b:Nat} {cs:List Value} {T:TypeId} {v:Value} (h:Sat β l w) (hp:l[i]?=some (.blk b cs T)) (hv:cs[0]?=some v):Sat β [.abs (vN b v)] w:=by
  obtain⟨ho,φ,h1,h2,h3⟩:=h
  have hi:=bA hp
  refine⟨ho,fun _=>φ i,fun j q hq=>?_,fun j hj=>h2 i hi,fun j k hj hk hne=>?_⟩
  ·have hj:=bA hq
   simp at hj
   subst hj
   simp at hq
   subst hq
   exact⟨cs,T,hv,h1 i _ hp⟩
  simp at hj hk
  omega
section mix
variable {P:Program} {β:Bs} {N:dF} {ops:Array Oper} {S:List HP} {l:List Nat} {fr:Fr} {hps:List HP} {Q:Post} {i:Nat}
theorem af.Kv {id:Nat} (perm:List Nat) (nr:Nat) (hm:P.follows .mixedOrders=true) (hB:BI ops perm nr=true) (hp:∀ w,Sat β hps w->Sat β S w) (h:aO P β N ops S nr perm fr hps Q):af P β N (.region id ops true) fr hps Q:=by
  intro junk w hS
  unfold BI at hB
  simp only [Bool.and_eq_true,beq_iff_eq] at hB
  obtain⟨⟨⟨h1,h2⟩,h3⟩,h4⟩:=hB
  have cT:=hS.drewN 1
  have h5:=C4 (Q:=Q) h1 h2 nr perm _ _ _ h4 (fun j oj _ hl=>by simp [Array.getD_eq_getD_getElem?,Array.getElem?_replicate] at hl;split at hl<;>simp at hl) (hp _ cT) (h junk (w.drewN 1) cT)
  rw [h3] at h5
  refine Code.wp_mono (fun e a w q=>?_) (wp_region_any hm (lS _ _ _ _ h5))
  cases e with
  | normal=>exact q
  | exit id=>exact q.elim
  | goto l=>exact q.elim
  | ret=>exact q.elim
  | panic ch=>exact q.elim
  | outgrown=>exact q.elim
theorem aO.Kw {ι:Type} {fr':ι->Fr} {hp':ι->List HP} {o:Oper} (hop:ops[i]?=some o) (hg:o.guard=none) (h:ak P β N #[o] 0 fr hps (NP (nV β N fr' hp'))) (hp:∀ j w,Sat β (hp' j) w->Sat β S w)
    (K:∀ j,aO P β N ops S 0 l (fr' j) (hp' j) Q):aO P β N ops S 0 (i::l) fr hps Q:=by
  intro junk w hS
  unfold nD
  refine iL hop hg ?_
  have h1:=h junk w hS
  have h2:wpList P #[o] (NP (nV β N fr' hp')) [o] (bQ N fr junk) w:=h1
  refine jV (fun a w ⟨j,gA,ha,cT⟩=>?_) h2
  subst ha
  exact⟨.inr (hp j _ cT),K j gA w cT⟩
end mix
end
section
open Go.RowKit Go.Maps bF aB
def Mq:List Nat:=[172,173,174,175,176,177,178,179,180,181,182,183,184,185,186]
def UN:Value:=.agg ⟨.nilFunc::Mq.map (fun f=>.func (.func f) #[] #[])⟩
theorem Kx {n:Int} (h:1<=n/\n<=15):n=1\/n=2\/n=3\/n=4\/n=5\/n=6\/n=7\/n=8\/n=9\/n=10\/n=11\/n=12\/n=13\/n=14\/n=15:=by omega
theorem Sy {w:World} {o:Oper} {ev:Operand->Value} {x y:Operand} {n:Int} (ho:o.op=.index 292 x y) (hx:ev x=UN) (hy:ev y=.int .i64 n) (hn:1<=n/\n<=15):p8 Tryz.prog ev o w (.func (.func (Mq.getD (n.toNat - 1) 0)) #[] #[]) w:=by
  obtain⟨dst,op,type,pos,after,guard⟩:=o
  cases ho
  refine .inl ?_
  simp only [execOp,hx,hy]
  rcases Kx hn with h|h|h|h|h|h|h|h|h|h|h|h|h|h|h<;>subst h<;>kernel_rfl
theorem ak.hn {β:Bs} {N:dF} {k:Nat} {ops:Array Oper} {fr:Fr} {hps:List HP} {Q:Post} {d:Option Tmp} {x y:Operand} {n:Int} (hn:1<=n/\n<=15) (K:ak Tryz.prog β N ops (k+1) (dw fr d (.func (.func (Mq.getD (n.toNat - 1) 0)) #[] #[])) hps Q)
    (hop:∀ junk,fQ N junk ops fr k=some (.index 292 x y,d):=by intro _;kernel_rfl) (hx:∀ junk,dH N fr junk x=UN:=by intro _;kernel_rfl) (hy:∀ junk,dH N fr junk y=.int .i64 n:=by intro _;kernel_rfl):ak Tryz.prog β N ops k fr hps Q:=
  ak.jZ hop (fun _ junk w ho hS=>⟨w,Sy ho (hx junk) (hy junk) hn,hS⟩) K
theorem Ue {β:Bs} {S:aG} {L:HL} {f m t b:Nat} {c:ax} (n:Int) (hI:Inv S) (hC:gT β c) (h:1<=n/\n<=15) (he:c.op=n):Spec Tryz.prog β (Mq.getD (n.toNat - 1) 0) #[vP f,vP b] (pA f m t L S++[pC b c]) (fun v l=>∃ L2,v=vI (cU S c).1/\l=pA f m t L2 (cU S c).2.1++[pC b (cU S c).2.2]):=by
  subst he
  rcases Kx h with h|h|h|h|h|h|h|h|h|h|h|h|h|h|h<;>rw [h]
  ·rw [uj h];exact Kp S L f m t hI b c hC
  ·rw [sA h];exact EL S L f m t hI b c hC
  ·rw [zy h];exact DF S L f m t hI b c hC
  ·rw [ul h];exact Ii S L f m t hI b c hC
  ·rw [zA h];exact GV S L f m t hI b c hC
  ·rw [zB h];exact EM S L f m t hI b c hC
  ·rw [zC h];exact Kt S L f m t hI b c hC
  ·rw [zD h];exact GQ S L f m t hI b c hC
  ·rw [zE h];exact Ik S L f m t hI b c hC
  ·rw [vz h];exact EN S L f m t hI b c hC
  ·rw [vA h];exact Ku S L f m t hI b c hC
  ·rw [vB h];exact GU S L f m t hI b c hC
  ·rw [rf h];exact Il S L f m t hI b c hC
  ·rw [vC h];exact Ij S L f m t hI b c hC
  rw [vD h];exact GR S L f m t hI b c hC
theorem Mr {S:aG} {c:ax} (h:1<=c.op/\c.op<=15):(cU S c).2.2.op=c.op:=by
  rcases Kx h with h|h|h|h|h|h|h|h|h|h|h|h|h|h|h
  ·rw [uj h];exact Qu
  ·rw [sA h];exact JW
  ·rw [zy h];exact HZ
  ·rw [ul h];exact JX
  ·rw [zA h];exact H6
  ·rw [zB h];exact F7
  ·rw [zC h];exact LH
  ·rw [zD h];exact H7
  ·rw [zE h];exact JZ
  ·rw [vz h];exact J0
  ·rw [vA h];exact Qv
  ·rw [vB h];exact LI
  ·rw [rf h];exact NW
  ·rw [vC h];exact JY
  rw [vD h];exact H8
end
section
open Go.RowKit Go.Maps bF aB
attribute [local irreducible] ak aR af aj
abbrev rF (b3:Nat):=(.blk b3 [vI 0,vI 0,vI 0,.string ⟨#[]⟩,.string ⟨#[]⟩,.slice none (0) (0),vI 0,vI 0,vI 0,vI 0,vI 0,vI 0,vI 0] 88:HP)
abbrev UO (c:ax):=([(0,vI (c.op)),(1,vI (c.handle)),(2,vI (c.other)),(3,.string c.name),(4,.string c.text),(5,.slice c.dA (c.data.length) (c.dC)),(6,vI (c.mode)),(7,vI (c.uid)),(8,vI (c.gid)),(9,vI (c.sec)),(10,vI (c.nano)),(11,vI 230)]:Fr)
theorem Im {β:Bs}:Spec Tryz.prog β 171 #[] [] (fun v l=>v=.agg #[.nilFunc,.func (.func 172) #[] #[],.func (.func 173) #[] #[],.func (.func 174) #[] #[],.func (.func 175) #[] #[],.func (.func 176) #[] #[],.func (.func 177) #[] #[],.func (.func 178) #[] #[],.func (.func 179) #[] #[],.func (.func 180) #[] #[],.func (.func 181) #[] #[],.func (.func 182) #[] #[],.func (.func 183) #[] #[],.func (.func 184) #[] #[],.func (.func 185) #[] #[],.func (.func 186) #[] #[]]/\l=[]):=by
 refine Spec.enter Tryz.func171 rfl Tryz.ntmps171 (Nat.le_of_ble_eq_true rfl) (fun R=>?_)
 refine SR (gN 1 (fun b1=>[(0,vP b1)]) (fun _=>[]) (fun _=>[]) (fun b1=>.blk b1 [.nilFunc,.nilFunc,.nilFunc,.nilFunc,.nilFunc,.nilFunc,.nilFunc,.nilFunc,.nilFunc,.nilFunc,.nilFunc,.nilFunc,.nilFunc,.nilFunc,.nilFunc,.nilFunc] 292) (fun b1=>?_))
 refine NS (gC 2 [] [(1,A_ 1 b1 16)] [(1,[(1,.func (.func 172) #[] #[]),(2,.func (.func 173) #[] #[]),(3,.func (.func 174) #[] #[]),(4,.func (.func 175) #[] #[]),(5,.func (.func 176) #[] #[]),(6,.func (.func 177) #[] #[]),(7,.func (.func 178) #[] #[]),(8,.func (.func 179) #[] #[]),(9,.func (.func 180) #[] #[]),(10,.func (.func 181) #[] #[]),(11,.func (.func 182) #[] #[]),(12,.func (.func 183) #[] #[]),(13,.func (.func 184) #[] #[]),(14,.func (.func 185) #[] #[]),(15,.func (.func 186) #[] #[])])] ?_)
 refine NN (af.ret ?_)
 exact aj.ret (v:=.agg #[.nilFunc,.func (.func 172) #[] #[],.func (.func 173) #[] #[],.func (.func 174) #[] #[],.func (.func 175) #[] #[],.func (.func 176) #[] #[],.func (.func 177) #[] #[],.func (.func 178) #[] #[],.func (.func 179) #[] #[],.func (.func 180) #[] #[],.func (.func 181) #[] #[],.func (.func 182) #[] #[],.func (.func 183) #[] #[],.func (.func 184) #[] #[],.func (.func 185) #[] #[],.func (.func 186) #[] #[]]) (l:=[]) (aZ:=[b1=b1,b1=b1,b1=b1,b1=b1,b1=b1,b1=b1,b1=b1,b1=b1,b1=b1,b1=b1,b1=b1,b1=b1,b1=b1,b1=b1,b1=b1,b1=b1]) [.at 1,.at 1,.at 1,.at 1,.at 1,.at 1,.at 1,.at 1,.at 1,.at 1,.at 1,.at 1,.at 1,.at 1,.at 1,.at 1] [0] (fun _=>by kernel_rfl) ⟨rfl,rfl,rfl,rfl,rfl,rfl,rfl,rfl,rfl,rfl,rfl,rfl,rfl,rfl,rfl,rfl,trivial⟩ rfl (by kernel_rfl) (⟨rfl,rfl⟩)
theorem GW {β:Bs} (S:aG) (L:HL) (f m t:Nat) (hI:Inv S) (c:ax) (hC:gT β c) :
    Spec Tryz.prog β 170 #[vP f,.agg #[vI (c.op),vI (c.handle),vI (c.other),.string c.name,.string c.text,.slice c.dA (c.data.length) (c.dC),vI (c.mode),vI (c.uid),vI (c.gid),vI (c.sec),vI (c.nano),vI (c.code),vI (c.answer)]] (pA f m t L S) (fun v l=>∃ L2,v=.agg ⟨cC (bV S c).2⟩/\l=(pA f m t L2 ((bV S c).1))):=by
 have hX:=hI.hX
 refine Spec.enter Tryz.func170 rfl Tryz.ntmps170 (Nat.le_of_ble_eq_true rfl) (fun R=>?_)
 refine SR (gN 1 (fun b2=>[(3,vP b2)]) (fun _=>[]) (fun _=>[]) (fun b2=>pC b2 c) (fun b2=>?_))
 refine gN 1 (fun b3=>[(4,vP b3)]) (fun _=>[]) (fun _=>[]) (fun b3=>.blk b3 [vI 0,vI 0,vI 0,.string ⟨#[]⟩,.string ⟨#[]⟩,.slice none (0) (0),vI 0,vI 0,vI 0,vI 0,vI 0,vI 0,vI 0] 88) (fun b3=>?_)
 refine NS (gC 2 [] [(1,a_ 7 b2)] [(7,[(12,vI 0)])] ?_)
 refine NS (gC 2 [] [(1,a_ 7 b2)] [(7,[(11,vI 230)])] ?_)
 refine NN (af.seq (SR (gK 4 [(10,.bool (decide ((c.op:Int) ≥ (1:Int))))] [(1,a_ 7 b2)] ?_)))
 refine ak.iN 10 ((c.op:Int) ≥ (1:Int)) (fun _=>by kernel_rfl) (fun h10=>?_) (fun h10=>?_)
 ·refine gK 4 [(14,.bool (decide ((c.op:Int)<=(15:Int))))] [(1,a_ 7 b2)] ?_
  refine NN (af.bh (p:=(c.op:Int)<=(15:Int)) (fun _=>by kernel_rfl) (fun jN=>?_) (fun jN=>?_))
  ·have hop:1<=c.op/\c.op<=15:=⟨h10,jN⟩
   refine af.Kv (S:=[.abs (vN b2 (.int .i64 c.op))]) [1,2,4,0,3,5,6,7] 3 (by kernel_rfl) (by kernel_rfl) (fun w hS=>hS.first (i:=7) (b:=b2) rfl rfl) ?_
   refine gR 0 [0,3,5,6,7] [(3,vP b2),(4,vP b3),(17,vI (c.op)),(19,vP f)] [1,2,4] [(1,p_ ⟨[.view 0 (.int .i64 (c.op))],none,none,none,none⟩ [(∀ F w,(vN b2 (.int .i64 c.op)).h F w->w.cell? ⟨b2,0,none⟩=some (vI (c.op)))] ⟨vN.cell,trivial⟩)] ?_
   refine aO.Kw (ι:=Unit) (fr':=fun (_:Unit)=>[(3,vP b2),(4,vP b3),(15,.agg #[.nilFunc,.func (.func 172) #[] #[],.func (.func 173) #[] #[],.func (.func 174) #[] #[],.func (.func 175) #[] #[],.func (.func 176) #[] #[],.func (.func 177) #[] #[],.func (.func 178) #[] #[],.func (.func 179) #[] #[],.func (.func 180) #[] #[],.func (.func 181) #[] #[],.func (.func 182) #[] #[],.func (.func 183) #[] #[],.func (.func 184) #[] #[],.func (.func 185) #[] #[],.func (.func 186) #[] #[]]),(17,vI (c.op)),(19,vP f)]) (hp':=fun (_:Unit)=>((pA f m t L S)++[.abs R,pC b2 (c0 c),rF b3])) rfl rfl ?_ (by rintro _ w hS;exact hS.first (i:=7) (b:=b2) rfl rfl) ?_
   ·refine gL [] (Im) ?_
    rintro _ _ ⟨rfl,rfl⟩
    refine NL ?_
    exact MD () [3,4,15,17,19] [0,1,2,3,4,5,6,7,8]
   rintro _
   refine aO.Kw (ι:=Unit) (fr':=fun (_:Unit)=>[(3,vP b2),(4,vP b3),(18,.func (.func (Mq.getD (c.op.toNat - 1) 0)) #[] #[]),(19,vP f)]) (hp':=fun (_:Unit)=>((pA f m t L S)++[.abs R,pC b2 (c0 c),rF b3])) rfl rfl ?_ (by rintro _ w hS;exact hS.first (i:=7) (b:=b2) rfl rfl) ?_
   ·refine ak.hn (x:=(.tmp 15)) (y:=(.tmp 17)) (d:=(some 18)) hop ?_
    refine NL ?_
    exact MD () [3,4,18,19] [0,1,2,3,4,5,6,7,8]
   rintro _
   refine aO.Kw (ι:=HL) (fr':=fun (L2:HL)=>[(3,vP b2),(4,vP b3),(20,vI ((cU S (c0 c)).1))]) (hp':=fun (L2:HL)=>((pA f m t L2 ((cU S (c0 c)).2.1))++[pC b2 ((cU S (c0 c)).2.2),.abs R,rF b3])) rfl rfl ?_ (by rintro L2 w hS;exact hS.first (i:=6) (b:=b2) rfl (congrArg (fun z=>some (Value.int .i64 z)) (Mr (c:=(c0 c)) hop))) ?_
   ·refine gL [0,1,2,3,4,5,7] (Ue (S:=S) (L:=L) (f:=f) (m:=m) (t:=t) (b:=b2) (c:=(c0 c)) c.op hI ⟨hC.hw,hC.ow,hC.nm,hC.tx,hC.da,hC.dl,hC.dc⟩ hop rfl) ?_ (by intro _;rcases Kx hop with h|h|h|h|h|h|h|h|h|h|h|h|h|h|h<;>rw [h]<;>kernel_rfl)
    rintro _ _ ⟨L2,rfl,rfl⟩
    refine NL ?_
    exact MD L2 [3,4,20] [0,1,2,3,4,5,6,7,8]
   rintro L2
   refine aO.Kw (ι:=Unit) (fr':=fun (_:Unit)=>[(3,vP b2),(4,vP b3),(20,vI ((cU S (c0 c)).1)),(21,.pointer (some ⟨b2,11,none⟩))]) (hp':=fun (_:Unit)=>((pA f m t L2 ((cU S (c0 c)).2.1))++[pC b2 ((cU S (c0 c)).2.2),.abs R,rF b3])) rfl rfl ?_ (by rintro _ w hS;exact hS.first (i:=6) (b:=b2) rfl (congrArg (fun z=>some (Value.int .i64 z)) (Mr (c:=(c0 c)) hop))) ?_
   ·refine gK 1 [(21,.pointer (some ⟨b2,11,none⟩))] [] ?_
    refine NL ?_
    exact MD () [3,4,20,21] [0,1,2,3,4,5,6,7,8]
   rintro _
   refine aO.last rfl rfl ?_
   refine gC 1 [] [(0,a_ 6 b2)] [(6,[(11,vI ((cU S (c0 c)).1))])] ?_
   refine NL (aj.np (NX (SR ?_)))
   refine gC 2 [] [(0,A_ 6 b2 13),(1,A_ 8 b3 13)] [(8,[(0,vI ((cU S (c0 c)).2.2.op)),(1,vI ((cU S (c0 c)).2.2.handle)),(2,vI ((cU S (c0 c)).2.2.other)),(3,.string (cU S (c0 c)).2.2.name),(4,.string (cU S (c0 c)).2.2.text),(5,.slice (cU S (c0 c)).2.2.dA ((cU S (c0 c)).2.2.data.length) ((cU S (c0 c)).2.2.dC)),(6,vI ((cU S (c0 c)).2.2.mode)),(7,vI ((cU S (c0 c)).2.2.uid)),(8,vI ((cU S (c0 c)).2.2.gid)),(9,vI ((cU S (c0 c)).2.2.sec)),(10,vI ((cU S (c0 c)).2.2.nano)),(11,vI ((cU S (c0 c)).1)),(12,vI ((cU S (c0 c)).2.2.answer))])] ?_
   refine NN (af.ret ?_)
   exact aj.ret (v:=.agg #[vI ((cU S (c0 c)).2.2.op),vI ((cU S (c0 c)).2.2.handle),vI ((cU S (c0 c)).2.2.other),.string (cU S (c0 c)).2.2.name,.string (cU S (c0 c)).2.2.text,.slice (cU S (c0 c)).2.2.dA ((cU S (c0 c)).2.2.data.length) ((cU S (c0 c)).2.2.dC),vI ((cU S (c0 c)).2.2.mode),vI ((cU S (c0 c)).2.2.uid),vI ((cU S (c0 c)).2.2.gid),vI ((cU S (c0 c)).2.2.sec),vI ((cU S (c0 c)).2.2.nano),vI ((cU S (c0 c)).1),vI ((cU S (c0 c)).2.2.answer)]) (l:=(pA f m t L2 ((cU S (c0 c)).2.1))) (aZ:=[b3=b3,b3=b3,b3=b3,b3=b3,b3=b3,b3=b3,b3=b3,b3=b3,b3=b3,b3=b3,b3=b3,b3=b3,b3=b3]) [.at 8,.at 8,.at 8,.at 8,.at 8,.at 8,.at 8,.at 8,.at 8,.at 8,.at 8,.at 8,.at 8] [0,1,2,3,4,5,7] (fun _=>by kernel_rfl) ⟨rfl,rfl,rfl,rfl,rfl,rfl,rfl,rfl,rfl,rfl,rfl,rfl,rfl,trivial⟩ rfl (by kernel_rfl) (⟨L2,rfl,rfl⟩)
  refine af.skip (NX (SR (gC 2 [] [(0,A_ 7 b2 13),(1,A_ 8 b3 13)] [(8,(UO c))] ?_)))
  refine NN (af.ret ?_)
  exact aj.ret (v:=.agg #[vI (c.op),vI (c.handle),vI (c.other),.string c.name,.string c.text,.slice c.dA (c.data.length) (c.dC),vI (c.mode),vI (c.uid),vI (c.gid),vI (c.sec),vI (c.nano),vI 230,vI 0]) (l:=(pA f m t L S)) (aZ:=[b3=b3,b3=b3,b3=b3,b3=b3,b3=b3,b3=b3,b3=b3,b3=b3,b3=b3,b3=b3,b3=b3,b3=b3,b3=b3]) [.at 8,.at 8,.at 8,.at 8,.at 8,.at 8,.at 8,.at 8,.at 8,.at 8,.at 8,.at 8,.at 8] [0,1,2,3,4,5,6] (fun _=>by kernel_rfl) ⟨rfl,rfl,rfl,rfl,rfl,rfl,rfl,rfl,rfl,rfl,rfl,rfl,rfl,trivial⟩ rfl (by kernel_rfl) (⟨L,by unfold bV;rw [vE (S:=S) (c:=(c0 c)) (by show ¬ (1<=c.op/\c.op<=15);omega)];exact⟨rfl,rfl⟩⟩)
 refine gK 4 [(14,.bool false)] [] ?_
 refine NN (CF (af.skip (NX (SR (gC 2 [] [(0,A_ 7 b2 13),(1,A_ 8 b3 13)] [(8,(UO c))] ?_)))))
 refine NN (af.ret ?_)
 exact aj.ret (v:=.agg #[vI (c.op),vI (c.handle),vI (c.other),.string c.name,.string c.text,.slice c.dA (c.data.length) (c.dC),vI (c.mode),vI (c.uid),vI (c.gid),vI (c.sec),vI (c.nano),vI 230,vI 0]) (l:=(pA f m t L S)) (aZ:=[b3=b3,b3=b3,b3=b3,b3=b3,b3=b3,b3=b3,b3=b3,b3=b3,b3=b3,b3=b3,b3=b3,b3=b3,b3=b3]) [.at 8,.at 8,.at 8,.at 8,.at 8,.at 8,.at 8,.at 8,.at 8,.at 8,.at 8,.at 8,.at 8] [0,1,2,3,4,5,6] (fun _=>by kernel_rfl) ⟨rfl,rfl,rfl,rfl,rfl,rfl,rfl,rfl,rfl,rfl,rfl,rfl,rfl,trivial⟩ rfl (by kernel_rfl) (⟨L,by unfold bV;rw [vE (S:=S) (c:=(c0 c)) (by show ¬ (1<=c.op/\c.op<=15);omega)];exact⟨rfl,rfl⟩⟩)
end
section
open Go.RowKit Go.Maps bF aB
attribute [local irreducible] ak aR af aj
abbrev Jf (B)(d:List UInt8) (cap):=(.abs (aJ 5 1 B d.length cap (cL d)):HP)
abbrev UQ (b5:Nat) (An:Option Addr) (i:Nat) (cn:Nat):=(.blk b5 [.slice An (i) (cn)] 24:HP)
abbrev UR (An:Option Addr) (i:Nat) (cn:Nat) (K) (S:aG):=(.abs (aJ 108 10 An i cn (dQ K ((bC S).take i))):HP)
abbrev UU (S:aG) (i:Nat) (K):=(.abs (jQ (mh ((bC S).take i) K) i):HP)
abbrev UW (S:aG) (i:Nat) (K):=(.abs (jQ (mo ((bC S).take i) K) i):HP)
abbrev UX (A7:Option Addr) (S:aG) (c8:Nat):=(.abs (aJ 3 1 A7 ((keys S.idx).length) c8 (ints (keys S.idx))):HP)
abbrev UY (b4:Nat):=(.blk b4 [.slice none (0) (0)] 24:HP)
abbrev Sz (b9:Nat):=(.blk b9 [vI 0,vI 0,vI 0,vI 0,vI 0,vI 0,vI 0,.slice none (0) (0),.string ⟨#[]⟩,.slice none (0) (0)] 108:HP)
abbrev UZ (b9:Nat) (S:aG) (i:Nat) (tk:Nat):=(.blk b9 [vI ((cY S i)),vI 1,vI ((obj S.O tk).mode),vI ((obj S.O tk).uid),vI ((obj S.O tk).gid),vI ((obj S.O tk).sec),vI ((obj S.O tk).nano),.slice none (0) (0),.string ⟨#[]⟩,.slice none (0) (0)] 108:HP)
abbrev SB (S:aG) (L:HL) (tk:Nat):=(.abs (ay (kQ (cJ S.O L) tk bY.none)):HP)
abbrev GX (L:HL) (tk:Nat) (S:aG):=(.abs (aP Tryz.prog 9 (L.m tk) (jo L (obj S.O tk).ah) ((obj S.O tk).ah.length)):HP)
abbrev jU (b15:Nat) (S:aG) (i:Nat) (tk:Nat) (Ae:Option Addr) (j:Nat) (ce:Nat):=(.blk b15 [vI ((cY S i)),vI 2,vI ((obj S.O tk).mode),vI ((obj S.O tk).uid),vI ((obj S.O tk).gid),vI ((obj S.O tk).sec),vI ((obj S.O tk).nano),.slice none (0) (0),.string ⟨#[]⟩,.slice Ae (j) (ce)] 108:HP)
abbrev oH (Ae:Option Addr) (j:Nat) (ce:Nat) (S:aG) (tk:Nat):=(.abs (aJ 110 2 Ae j ce (iO (((obj S.O tk).ah.take j).map (mK S.O)))):HP)
abbrev SC (b16:Nat) (L:HL) (tk:Nat):=(.blk b16 [.map (some (L.m tk))] 174:HP)
abbrev SD (eD:Option Addr) (S:aG) (tk:Nat) (c18:Nat):=(.abs (aJ 9 1 eD ((obj S.O tk).ah.length) c18 (rz (obj S.O tk).ah)):HP)
abbrev DL (nW:Option Addr) (j:Nat) (nX:Nat) (S:aG) (tk:Nat):=(.abs (aJ 110 2 nW (j+1) nX (iO (((obj S.O tk).ah.take (j+1)).map (mK S.O)))):HP)
abbrev DM (b19:Nat) (S:aG) (tk:Nat) (j:Nat) (ek:Nat):=(.blk b19 [.string (fT (obj S.O tk).ah j),vI ((obj S.O ek).id)] 110:HP)
abbrev mO (f:Nat) (b4:Nat) (b5:Nat) (b15:Nat) (L:HL) (tk:Nat) (A7:Option Addr) (S:aG) (c8:Nat) (i:Nat) (eD:Option Addr) (c18:Nat) (j:Nat):=([(0,vP f),(2,vP b4),(3,vP b5),(8,vP b15),(11,vP (L.b tk)),(19,.slice A7 ((keys S.idx).length) (c8)),(20,vI ↑((keys S.idx).length)),(21,vI ↑i),(79,.slice eD ((obj S.O tk).ah.length) (c18)),(80,vI ↑((obj S.O tk).ah.length)),(81,vI ↑j)]:Fr)
abbrev lI (L:HL) (tk:Nat) (S:aG) (b16:Nat) (eD:Option Addr) (c18:Nat) (b5:Nat) (An:Option Addr) (i:Nat) (cn:Nat) (K) (A7:Option Addr) (c8:Nat) (b4:Nat) (f:Nat) (m:Nat) (t) (R:bY):=([GX L tk S,SC b16 L tk,SD eD S tk c18,UQ b5 An i cn,UR An i cn K S,UU S i K,UW S i K,UX A7 S c8,UY b4,pF f m t S.X,pI m L S.idx,pO S.O L,pD S.O L,SB S L tk,.abs R]:List HP)
abbrev GY (f:Nat) (b4:Nat) (b5:Nat) (b15:Nat) (L:HL) (tk:Nat) (A7:Option Addr) (S:aG) (c8:Nat) (i:Nat) (eD:Option Addr) (c18:Nat) (j:Nat):=([(0,vP f),(2,vP b4),(3,vP b5),(8,vP b15),(11,vP (L.b tk)),(19,.slice A7 ((keys S.idx).length) (c8)),(20,vI ↑((keys S.idx).length)),(21,vI ↑i),(79,.slice eD ((obj S.O tk).ah.length) (c18)),(80,vI ↑((obj S.O tk).ah.length)),(81,vI ↑j)]:Fr)
abbrev DN (S:aG) (tk:Nat):=([(39,vI ((obj S.O tk).mode)),(43,vI ((obj S.O tk).uid)),(47,vI ((obj S.O tk).gid)),(51,.agg #[vI ((obj S.O tk).sec),vI ((obj S.O tk).nano)])]:Fr)
abbrev y5 (f:Nat) (b4:Nat) (b5:Nat):=([(0,vP f),(2,vP b4),(3,vP b5)]:Fr)
abbrev y6 (A7:Option Addr) (S:aG) (c8:Nat) (i:Nat):=([(19,.slice A7 ((keys S.idx).length) (c8)),(20,vI ↑((keys S.idx).length)),(21,vI ↑i)]:Fr)
abbrev w9 (b5:Nat) (An:Option Addr) (i:Nat) (cn:Nat) (K) (S:aG) (A7:Option Addr) (c8:Nat) (b4:Nat) (f:Nat) (m:Nat) (t) (L:HL):=([UQ b5 An i cn,UR An i cn K S,UU S i K,UW S i K,UX A7 S c8,UY b4,pF f m t S.X,pI m L S.idx,pO S.O L]:List HP)
abbrev rN (Ae:Option Addr) (j:Nat) (ce:Nat) (S:aG) (tk:Nat):=([(86,.slice Ae (j) (ce)),(87,.string (fT (obj S.O tk).ah j))]:Fr)
abbrev OJ (S:aG) (tk:Nat):=([(2,vI ((obj S.O tk).mode)),(3,vI ((obj S.O tk).uid)),(4,vI ((obj S.O tk).gid)),(5,vI ((obj S.O tk).sec)),(6,vI ((obj S.O tk).nano))]:Fr)
theorem DP {β:Bs} (c:Nat):Spec Tryz.prog β 58 #[.slice none 0 c] [] (fun v l=>∃ B cap,v=.slice B 0 cap/\l=[.abs (aJ 5 1 B 0 cap [])]):=by
 refine Spec.enter Tryz.func58 rfl Tryz.ntmps58 (Nat.le_of_ble_eq_true rfl) (fun R=>?_)
 refine SR (gK 1 [] [] ?_)
 refine NN (af.seq (SR (gK 2 [(4,.bool true)] [] ?_)))
 refine NN (CT (SR (gK 1 [(2,.slice none (0) (0))] [] ?_)))
 refine NN (af.ret (aj.aq (aj.mem (fun w hS=>(hS.kI (e:=5) (size:=1)).pick (idx:=[1,0]) (l':=[.abs (aJ 5 1 none 0 0 ([])),.abs R]) rfl (by kernel_rfl)) ?_)))
 exact RT (.slice none (0) (0)) [0,1] (⟨none,0,rfl,rfl⟩)
theorem CI {β:Bs} (a:Addr) (c:Nat) (d:List UInt8) (hA:cg β (some a) d) (hl:d.length<=140737488355328):Spec Tryz.prog β 58 #[.slice (some a) d.length c] [] (fun v l=>∃ B cap,v=.slice B d.length cap/\l=[Jf B d cap]):=by
 refine Spec.enter Tryz.func58 rfl Tryz.ntmps58 (Nat.le_of_ble_eq_true rfl) (fun R=>?_)
 refine SR (gK 1 [] [] ?_)
 refine NN (af.seq (SR (gK 2 [(4,.bool false)] [] ?_)))
 refine NN (CF (af.skip (NX (SR (gN 1 (fun b1=>[(5,.slice (some ⟨b1,0,none⟩) (0) (0))]) (fun _=>[]) (fun _=>[]) (fun b1=>.blk b1 [] 5) (fun b1=>?_))))))
 refine ak.mem (fun w hS=>hS.pG (i:=1) (b:=b1) (cs:=[]) (e:=5) 1 0 (by kernel_rfl) rfl (by decide)) ?_
 refine gK 1 [(6,.slice (some a) (d.length) (c))] [] ?_
 refine ak.append 1 (d:=(some 7)) (t:=86) (e:=5) (z:=.int .u8 0) (size:=1) (bytes:=1) (n:=0) (cap:=0) (A:=some ⟨b1,0,none⟩) (xs:=[]) (s:=(.tmp 5)) (x:=(.tmp 6)) (ats:=#[86,86]) (A':=(some a)) (m:=d.length) (c':=c) (news:=(cL d)) (fun _=>by kernel_rfl) rfl (by kernel_rfl) (fun _=>by kernel_rfl) (fun _=>by kernel_rfl) Tryz.underlying86 (by kernel_rfl) rfl (by decide) (by rw [wu,Nat.mul_one]) (rH d) (hA.src) (by unfold maxLen;omega) (by omega) (fun A2 c3=>?_)
 refine ak.d9 1 (p:=.abs (aJ 5 1 A2 (0+d.length) c3 ([]++(cL d)))) (p':=.abs (aJ 5 1 A2 d.length c3 (cL d))) (by kernel_rfl) (by rw [Nat.zero_add,List.nil_append]) ?_
 refine ak.slot 7 (.slice A2 (0+d.length) (c3)) (.slice A2 (d.length) (c3)) (fun _=>by kernel_rfl) (by rw [Nat.zero_add]) ?_
 refine gK 1 [(2,.slice A2 (d.length) (c3))] [] ?_
 refine NN (af.ret ?_)
 exact RT (.slice A2 (d.length) (c3)) [1,0] (⟨A2,c3,rfl,rfl⟩)
theorem uX {β:Bs} (A:Option Addr) (c:Nat) (d:List UInt8) (hA:cg β A d) (hl:d.length<=140737488355328):Spec Tryz.prog β 58 #[.slice A d.length c] [] (fun v l=>∃ B cap,v=.slice B d.length cap/\l=[Jf B d cap]):=by
  cases A with
  | some a=>exact CI a c d hA hl
  | none=>
    cases d with
    | nil=>exact DP c
    | cons b r=>have h:=cg.hd hA (j:=0) (by simp);cases h
theorem GZ {β:Bs} (A:Option Addr) (c:Nat) (d:List UInt8) (hl:d.length<=140737488355328):Spec Tryz.prog β 58 #[.slice A d.length c] [Jf A d c] (fun v l=>∃ B cap,v=.slice B d.length cap/\l=[Jf B d cap,Jf A d c]):=
  (Spec.AJ (pre:=[]) (R:=[Jf A d c]) (fun _ h=>uX A c d h.bytes hl)).mono (by rintro v l ⟨l0,⟨B,cap,rfl,rfl⟩,rfl⟩;exact⟨B,cap,rfl,rfl⟩)
theorem G0 {β:Bs} (L:HL) (b bk:Nat) (idx:Used Th) (hr:aB.dm (keys idx)) (hn:idx.length<=4096) :
    Spec Tryz.prog β 37 #[BU bk] [pI b L idx,.blk bk [.map (some b)] 151] (fun v l=>∃ A cap,v=.slice A (keys idx).length cap/\l=[pI b L idx,.blk bk [.map (some b)] 151,.abs (aJ 3 1 A (keys idx).length cap (ints (keys idx)))]):=
  (BV b bk idx.length (bg (bn L idx)) (by omega)).mono (by
    rintro v l ⟨A,cap,ss,rfl,hk,_,rfl⟩
    have e:=IJ (us:=bn L idx) (by rw [AR];exact hr) hk
    rw [AR] at e
    subst e
    exact⟨A,cap,rfl,rfl⟩)
theorem Ms {β:Bs} (S:aG) (L:HL) (f m t:Nat) (hI:Inv S) :
    Spec Tryz.prog β 35 #[vP f] [pF f m t S.X,pI m L S.idx,pO S.O L,pD S.O L,pE S.O L] (fun v l=>∃ A c K,v=.agg #[.slice A (bC S).length c]/\l=[pF f m t S.X,pI m L S.idx,pO S.O L,pD S.O L,pE S.O L]++Oa A c (bC S) K):=by
 have hX:=hI.hX
 have hkl:(keys S.idx).length=S.idx.length:=A6 _
 have hil:=hI.len
 refine Spec.enter Tryz.func35 rfl Tryz.ntmps35 (Nat.le_of_ble_eq_true rfl) (fun R=>?_)
 refine SR (gN 1 (fun b4=>[(2,vP b4)]) (fun _=>[]) (fun _=>[]) (fun b4=>.blk b4 [.slice none (0) (0)] 24) (fun b4=>?_))
 refine NS (gN 1 (fun b5=>[(3,vP b5)]) (fun _=>[]) (fun _=>[]) (fun b5=>.blk b5 [.slice none (0) (0)] 24) (fun b5=>?_))
 refine NN (af.seq (SR (gK 4 [(17,.map (some m))] [(3,a_ 0 f)] ?_)))
 refine gL [] (FP (some m)) ?_
 rintro _ _ ⟨b6,rfl,rfl⟩
 refine gL [2,0] (G0 L m b6 S.idx hI.rise hI.len) ?_
 rintro _ _ ⟨A7,c8,rfl,rfl⟩
 refine gK 1 [(20,vI ↑((keys S.idx).length))] [] ?_
 refine ak.mem (fun w hS=>hS.kI (e:=108) (size:=10)) ?_
 refine ak.mem (fun w hS=>hS.K9 (mh [] N9)) ?_
 refine ak.mem (fun w hS=>hS.K9 (mo [] N9)) ?_
 refine gK 1 [(21,vI 0)] [] ?_
 refine NN (af.block ?_)
 refine af.loop (ι:=Nat×(Option Addr)×Nat×Lay) (fun ((i,An,cn,K):Nat×(Option Addr)×Nat×Lay)=>(i<=S.idx.length)) (fun ((i,An,cn,K):Nat×(Option Addr)×Nat×Lay)=>S.idx.length - i) (fun ((i,An,cn,K):Nat×(Option Addr)×Nat×Lay)=>(y5 f b4 b5++y6 A7 S c8 i)) (fun ((i,An,cn,K):Nat×(Option Addr)×Nat×Lay)=>(w9 b5 An i cn K S A7 c8 b4 f m t L++[pD S.O L,pE S.O L,.abs R])) (0,none,0,N9) (idx:=[0,2,3,19,20,21]) (pk:=[9,10,11,12,2,8,3,0,4,5,6,7]) (show (0<=S.idx.length) from (Nat.zero_le _)) (fun _=>by kernel_rfl) rfl (by kernel_rfl) ?_
 rintro⟨i,An,cn,K⟩ hi
 show af _ _ _ _ (y5 f b4 b5++y6 A7 S c8 i) (w9 b5 An i cn K S A7 c8 b4 f m t L++[pD S.O L,pE S.O L,.abs R]) _
 refine SR (gK 1 [(22,.bool (decide ((((i:Nat):Int):Int) < ((((keys S.idx).length:Nat):Int):Int))))] [] ?_)
 refine NN (af.seq (af.bh (p:=(((i:Nat):Int):Int) < ((((keys S.idx).length:Nat):Int):Int)) (fun _=>by kernel_rfl) (fun xK=>?_) (fun xK=>?_)))
 ·have hi2:i < S.idx.length:=by omega
  refine af.skip (NX (af.seq (af.block (SR ?_))))
  refine ak.tell (p:=(A7=some ⟨aE A7,aD A7,none⟩)) (fun w hS=>let ⟨F,h⟩:=hS.get (i:=4) rfl;(aJ.Jy h (by omega)).1) (fun hAk=>?_)
  refine gK 3 [(5,vI ((cY S i)))] [(0,p_ ⟨[],some i,none,some ⟨(aE A7),aD A7,none⟩,none⟩ [((i:Nat):Int)=((i:Nat):Int),i < (keys S.idx).length,(⟨(aE A7),aD A7,none⟩:Addr).spot=none,(A7:Option Addr)=some ⟨(aE A7),aD A7,none⟩] ⟨rfl,by omega,rfl,hAk,trivial⟩),(1,p_ ⟨[.view 4 (.int .i64 ((cY S i)))],none,none,none,none⟩ [(∀ F w,(aJ 3 1 A7 ((keys S.idx).length) c8 (ints (keys S.idx))).h F w->w.cell? ⟨(aE A7),aD A7+i * 1,none⟩=some (vI ((cY S i))))] ⟨aJ.cellAt (i:=i) (j:=0) (by omega) (Ob hi2),trivial⟩)] ?_
  refine NN (af.seq ?_)
  have XD:=(I0 hI.toInv0 hi2).1
  have hget:=get_at hI.toInv0 hi2
  rcases TQ hI.toInv0 hi2 with ⟨tk,lN,hlv⟩|⟨tk,lN,hlv⟩|⟨tk,lN,hlv⟩
  ·have hkt:(obj S.O tk).kind=1:=hI.kind hlv
   have hel:(obj S.O tk).ah.length<=8192:=hI.ic hlv
   have hdl:(obj S.O tk).data.length<=140737488355328:=hI.JO hlv
   refine af.region (gK 5 [(28,.map (some m)),(29,vI ((cY S i)))] [(3,a_ 6 f)] ?_)
   refine ak.eP 7 (d:=(some 30)) (t:=151) (K:=3) (E:=156) (b:=m) (n:=S.idx.length) (f:=(bg (bn L S.idx))) (x:=(.tmp 28)) (ix:=(.tmp 29)) (key:=.int .i64 ((cY S i))) (z:=.nilIface) (kl:=(.int .i64 (cY S i))) (r:=(some (dR L ⟨tk,1⟩))) (fun _=>by kernel_rfl) (by kernel_rfl) (fun _=>by kernel_rfl) (fun _=>by kernel_rfl) eE Tryz.underlying151 (fun _=>by kernel_rfl) (iR (Dv hI.toInv0 hi2)) (by rw [fP,hget,lN];rfl) ?_
   refine gK 1 [(6,.iface 162 (vP (L.b tk)))] [] ?_
   refine NS (gK 1 [(31,.iface 162 (vP (L.b tk)))] [] ?_)
   refine gL [] (dr (L.b tk)) ?_
   rintro _ _ ⟨rfl,rfl⟩
   refine gK 1 [(7,vP (L.b tk))] [] ?_
   refine NN (af.seq (af.sC (S:=[pO S.O L]) [0,1,3,4,5,6,7,8,9,10,11,12,13,14,15,16,17,18] [.beside [2,19] 20,.one 21] [8] (by kernel_rfl) (by kernel_rfl) rfl (by kernel_rfl) ?_))
   refine gP (y5 f b4 b5++[(6,.iface 162 (vP (L.b tk)))]++y6 A7 S c8 i++[(33,vI ((cY S i))),(34,.iface 162 (vP (L.b tk)))]++DN S tk) [0,1,3,4,5,6,7,8,9,10,11,12,13,14,15,16,17,18] [(5,v_ 0 (tq L hkt)),(9,v_ 0 (zG L hkt)),(13,v_ 0 (zH L hkt)),(17,p_ ⟨[.view 0 (.int .i64 ((obj S.O tk).sec)),.view 0 (.int .i64 ((obj S.O tk).nano))],none,none,none,none⟩ [(∀ F w,(ay (bN S.O L)).h F w->w.cell? ⟨(L.b tk),5,none⟩=some (vI ((obj S.O tk).nano))),(∀ F w,(ay (bN S.O L)).h F w->w.cell? ⟨(L.b tk),4,none⟩=some (vI ((obj S.O tk).sec)))] ⟨eH (by rw [hkt];decide) (rfl),eH (by rw [hkt];decide) (rfl),trivial⟩)] ?_
   refine jq.beside (j:=20) (dj:=8) (R:=fun f_ l_=>f_=([(52,.agg #[vI ((cY S i)),vI 1,vI ((obj S.O tk).mode),vI ((obj S.O tk).uid),vI ((obj S.O tk).gid),vI ((obj S.O tk).sec),vI ((obj S.O tk).nano),.slice none (0) (0),.string ⟨#[]⟩,.slice none (0) (0)]),(35,vI 1)]++y5 f b4 b5++[(6,.iface 162 (vP (L.b tk)))]++y6 A7 S c8 i++[(33,vI ((cY S i))),(34,.iface 162 (vP (L.b tk)))]++DN S tk)/\l_=[]) [0,1,2,3,4,5,6,7,8,9,10,11] [8] [(2,35),(19,52)] rfl (pc:=[]) (pj:=[]) (Z:=(w9 b5 An i cn K S A7 c8 b4 f m t L++[pD S.O L,pE S.O L,.abs R])) (by kernel_rfl) rfl (by kernel_rfl) rfl rfl (iA.of (ι:=Nat) (v:=fun (b9:Nat)=>vP b9) (l:=fun (b9:Nat)=>[Sz b9]) [35,52] rfl rfl rfl rfl ?_) ?_ ?_
   ·intro u Aq
    show ak _ _ _ _ _ [(35,(u 35)),(52,(u 52)),(0,vP f),(2,vP b4),(3,vP b5),(6,.iface 162 (vP (L.b tk))),(19,.slice A7 ((keys S.idx).length) (c8)),(20,vI ↑((keys S.idx).length)),(21,vI ↑i),(33,vI ((cY S i))),(34,.iface 162 (vP (L.b tk))),(39,vI ((obj S.O tk).mode)),(43,vI ((obj S.O tk).uid)),(47,vI ((obj S.O tk).gid)),(51,.agg #[vI ((obj S.O tk).sec),vI ((obj S.O tk).nano)])] [.abs Aq] _
    refine gN 1 (fun b9=>[(8,vP b9)]) (fun _=>[]) (fun _=>[]) (fun b9=>.blk b9 [vI 0,vI 0,vI 0,vI 0,vI 0,vI 0,vI 0,.slice none (0) (0),.string ⟨#[]⟩,.slice none (0) (0)] 108) (fun b9=>?_)
    refine NL ?_
    exact MD b9 [8,35,52,0,2,3,6,19,20,21,33,34,39,43,47,51] [1,0]
   ·refine lu.step (iA.of (ι:=Unit) (v:=fun (_:Unit)=>.int .i64 1) (l:=fun (_:Unit)=>[]) [8] rfl rfl rfl rfl ?_) rfl ?_
    ·intro u Aq
     show ak _ _ _ _ _ [(8,(u 8)),(0,vP f),(2,vP b4),(3,vP b5),(6,.iface 162 (vP (L.b tk))),(19,.slice A7 ((keys S.idx).length) (c8)),(20,vI ↑((keys S.idx).length)),(21,vI ↑i),(33,vI ((cY S i))),(34,.iface 162 (vP (L.b tk))),(39,vI ((obj S.O tk).mode)),(43,vI ((obj S.O tk).uid)),(47,vI ((obj S.O tk).gid)),(51,.agg #[vI ((obj S.O tk).sec),vI ((obj S.O tk).nano)])] [.abs Aq] _
     refine gL [] (nj (vP (L.b tk))) ?_
     rintro _ _ ⟨rfl,rfl⟩
     refine NL ?_
     exact MD () [35,8,0,2,3,6,19,20,21,33,34,39,43,47,51] [0]
    rintro _ _ ⟨_,rfl,rfl⟩
    refine lu.step (iA.of (ι:=Unit) (v:=fun (_:Unit)=>.agg #[vI ((cY S i)),vI 1,vI ((obj S.O tk).mode),vI ((obj S.O tk).uid),vI ((obj S.O tk).gid),vI ((obj S.O tk).sec),vI ((obj S.O tk).nano),.slice none (0) (0),.string ⟨#[]⟩,.slice none (0) (0)]) (l:=fun (_:Unit)=>[]) [8] rfl rfl rfl rfl ?_) rfl ?_
    ·intro u Aq
     show ak _ _ _ _ _ [(8,(u 8)),(35,vI 1),(0,vP f),(2,vP b4),(3,vP b5),(6,.iface 162 (vP (L.b tk))),(19,.slice A7 ((keys S.idx).length) (c8)),(20,vI ↑((keys S.idx).length)),(21,vI ↑i),(33,vI ((cY S i))),(34,.iface 162 (vP (L.b tk))),(39,vI ((obj S.O tk).mode)),(43,vI ((obj S.O tk).uid)),(47,vI ((obj S.O tk).gid)),(51,.agg #[vI ((obj S.O tk).sec),vI ((obj S.O tk).nano)])] [.abs Aq] _
     refine gK 1 [(52,.agg #[vI ((cY S i)),vI 1,vI ((obj S.O tk).mode),vI ((obj S.O tk).uid),vI ((obj S.O tk).gid),vI ((obj S.O tk).sec),vI ((obj S.O tk).nano),.slice none (0) (0),.string ⟨#[]⟩,.slice none (0) (0)])] [] ?_
     refine NL ?_
     exact MD () [52,8,35,0,2,3,6,19,20,21,33,34,39,43,47,51] [0]
    rintro _ _ ⟨_,rfl,rfl⟩
    exact⟨rfl,rfl⟩
   rintro _ _ ⟨rfl,rfl⟩ _ _ ⟨b9,rfl,rfl⟩
   refine jq.last rfl rfl ?_
   refine gC 1 [] [(0,A_ 0 b9 10)] [(0,([(0,vI ((cY S i))),(1,vI 1)]++OJ S tk))] ?_
   refine NL (aj.np (NX (af.seq (SR ?_))))
   refine gK 1 [(53,.iface 162 (vP (L.b tk)))] [] ?_
   refine NN (af.block (SR ?_))
   refine gK 3 [(55,.bool true),(56,vP (L.b tk))] [] ?_
   refine NN (CT (SR (gK 1 [(9,vP (L.b tk))] [] ?_)))
   refine NN (af.region (gK 4 [(60,.slice (L.dA tk) ((obj S.O tk).data.length) ((L.dC tk)))] [(3,v_ 9 (Gp L hkt))] ?_))
   refine ak.mem (cP:=([UZ b9 S i tk]++w9 b5 An i cn K S A7 c8 b4 f m t L++[UB S L tk,pE S.O L,.abs R,.abs (aJ 5 1 (L.dA tk) ((obj S.O tk).data.length) (L.dC tk) (cL (obj S.O tk).data))])) (fun w hS=>hS.Lb (i:=10) (k:=tk) rfl hkt) ?_
   refine gL [13] (GZ (L.dA tk) (L.dC tk) (obj S.O tk).data hdl) ?_
   rintro _ _ ⟨pZ,c11,rfl,rfl⟩
   refine ak.mem (cP:=([pD S.O L,.abs (aJ 5 1 pZ ((obj S.O tk).data.length) c11 (cL (obj S.O tk).data)),UZ b9 S i tk]++w9 b5 An i cn K S A7 c8 b4 f m t L++[pE S.O L,.abs R])) (fun w hS=>hS.RX (i:=12) (j:=1) (ix:=[0,2,3,4,5,6,7,8,9,10,11,13,14]) rfl rfl (by kernel_rfl) rfl hkt) ?_
   refine gC 2 [] [(1,a_ 2 b9)] [(2,[(7,.slice pZ ((obj S.O tk).data.length) (c11))])] ?_
   refine NL (aj.aQ (NX (af.region ?_)))
   refine gN 4 (fun b12=>[(104,.slice An (i) (cn)),(106,.slice (some ⟨b12,0,none⟩) (1) (1))]) (fun b12=>[(1,a_ 3 b5),(2,A_ 2 b9 10)]) (fun _=>[]) (fun b12=>.blk b12 [vI ((cY S i)),vI 1,vI ((obj S.O tk).mode),vI ((obj S.O tk).uid),vI ((obj S.O tk).gid),vI ((obj S.O tk).sec),vI ((obj S.O tk).nano),.slice pZ ((obj S.O tk).data.length) (c11),.string ⟨#[]⟩,.slice none (0) (0)] 108) (fun b12=>?_)
   refine ak.append 4 (d:=(some 107)) (t:=22) (e:=108) (z:=.agg #[vI 0,vI 0,vI 0,vI 0,vI 0,vI 0,vI 0,.slice none (0) (0),.string ⟨#[]⟩,.slice none (0) (0)]) (size:=10) (bytes:=120) (n:=i) (cap:=cn) (A:=An) (xs:=(dQ K ((bC S).take i))) (s:=(.tmp 104)) (x:=(.tmp 106)) (ats:=#[22,22]) (A':=some ⟨b12,0,none⟩) (m:=1) (c':=1) (news:=[vI ((cY S i)),vI 1,vI ((obj S.O tk).mode),vI ((obj S.O tk).uid),vI ((obj S.O tk).gid),vI ((obj S.O tk).sec),vI ((obj S.O tk).nano),.slice pZ ((obj S.O tk).data.length) (c11),.string ⟨#[]⟩,.slice none (0) (0)]) (fun _=>by kernel_rfl) rfl (by kernel_rfl) (fun _=>by kernel_rfl) (fun _=>by kernel_rfl) Tryz.underlying22 (by kernel_rfl) rfl (by decide) (rfl) (by simp [Value.oneCell']) (mG (j:=14) rfl) (by unfold maxLen;omega) (by omega) (fun Jg c14=>?_)
   refine ak.d9 4 (p:=.abs (aJ 108 10 Jg (i+1) c14 ((dQ K ((bC S).take i))++[vI ((cY S i)),vI 1,vI ((obj S.O tk).mode),vI ((obj S.O tk).uid),vI ((obj S.O tk).gid),vI ((obj S.O tk).sec),vI ((obj S.O tk).nano),.slice pZ ((obj S.O tk).data.length) (c11),.string ⟨#[]⟩,.slice none (0) (0)]))) (p':=.abs (aJ 108 10 Jg (i+1) c14 (dQ (K.put i pZ c11 none 0) ((bC S).take (i+1))))) (by kernel_rfl) (congrArg (fun x=>HP.abs (aJ 108 10 _ _ _ x)) (wQ (dZ (by omega)) (rA hI.toInv0 hi2 lN hlv) rfl rfl)) ?_
   refine ak.slot 107 (.slice Jg (i+1) (c14)) (.slice Jg ((i+1)) (c14)) (fun _=>by kernel_rfl) (rfl) ?_
   refine gC 2 [] [(1,a_ 3 b5)] [(3,[(0,.slice Jg ((i+1)) (c14))])] ?_
   refine NL (aj.aQ (NX (af.region ?_)))
   refine gK 2 [(21,vI ↑(i+1))] [(0,p_ ⟨[],none,none,none,some (vI ↑(i+1))⟩ [(Value.int .i64 (IntKind.wrap .i64 (((i:Nat):Int)+1)))=(.int .i64 ↑(i+1))] ⟨aY (by omega) (by omega) (by omega),trivial⟩)] ?_
   refine NL (aj.mem (fun w hS=>hS.kI (e:=110) (size:=2)) ?_)
   refine aj.mem (fun w hS=>hS.sG (R':=(mo ((bC S).take (i+1)) (K.put i pZ c11 none 0))) (i:=6) (j:=1) (idx:=[0,2,3,4,5,7,8,9,10,11,12,13,14,15]) rfl rfl (by kernel_rfl) rfl (Bd (dZ (by omega)) (rA hI.toInv0 hi2 lN hlv)) (yH (dZ (by omega)) (rA hI.toInv0 hi2 lN hlv) rfl)) ?_
   refine aj.mem (fun w hS=>hS.sG (R':=(mh ((bC S).take (i+1)) (K.put i pZ c11 none 0))) (i:=5) (j:=14) (idx:=[0,1,2,3,4,6,7,8,9,10,11,12,13]) rfl rfl (by kernel_rfl) rfl (Be (dZ (by omega)) (rA hI.toInv0 hi2 lN hlv)) ((yI (dZ (by omega)) (rA hI.toInv0 hi2 lN hlv) rfl))) ?_
   exact aj.turn ((i+1),Jg,c14,(K.put i pZ c11 none 0)) (idx:=[0,2,3,19,20,21]) (pk:=[4,5,0,1,6,7,8,9,10,2,11,12]) (show (((i+1))<=S.idx.length) from (by omega)) (by show S.idx.length - ((i+1)) < S.idx.length - i;omega) (fun _=>by kernel_rfl) rfl (by kernel_rfl)
  ·have hkt:(obj S.O tk).kind=2:=hI.kind hlv
   have hel:(obj S.O tk).ah.length<=8192:=hI.ic hlv
   have hdl:(obj S.O tk).data.length<=140737488355328:=hI.JO hlv
   refine af.region (gK 5 [(28,.map (some m)),(29,vI ((cY S i)))] [(3,a_ 6 f)] ?_)
   refine ak.eP 7 (d:=(some 30)) (t:=151) (K:=3) (E:=156) (b:=m) (n:=S.idx.length) (f:=(bg (bn L S.idx))) (x:=(.tmp 28)) (ix:=(.tmp 29)) (key:=.int .i64 ((cY S i))) (z:=.nilIface) (kl:=(.int .i64 (cY S i))) (r:=(some (dR L ⟨tk,2⟩))) (fun _=>by kernel_rfl) (by kernel_rfl) (fun _=>by kernel_rfl) (fun _=>by kernel_rfl) eE Tryz.underlying151 (fun _=>by kernel_rfl) (iR (Dv hI.toInv0 hi2)) (by rw [fP,hget,lN];rfl) ?_
   refine gK 1 [(6,.iface 169 (vP (L.b tk)))] [] ?_
   refine NS (gK 1 [(31,.iface 169 (vP (L.b tk)))] [] ?_)
   refine gL [] (dr (L.b tk)) ?_
   rintro _ _ ⟨rfl,rfl⟩
   refine gK 1 [(7,vP (L.b tk))] [] ?_
   refine NN (af.seq (af.sC (S:=[pO S.O L]) [0,1,3,4,5,6,7,8,9,10,11,12,13,14,15,16,17,18] [.beside [2,19] 20,.one 21] [8] (by kernel_rfl) (by kernel_rfl) rfl (by kernel_rfl) ?_))
   refine gP (y5 f b4 b5++[(6,.iface 169 (vP (L.b tk)))]++y6 A7 S c8 i++[(33,vI ((cY S i))),(34,.iface 169 (vP (L.b tk)))]++DN S tk) [0,1,3,4,5,6,7,8,9,10,11,12,13,14,15,16,17,18] [(5,v_ 0 (tq L hkt)),(9,v_ 0 (zG L hkt)),(13,v_ 0 (zH L hkt)),(17,p_ ⟨[.view 0 (.int .i64 ((obj S.O tk).sec)),.view 0 (.int .i64 ((obj S.O tk).nano))],none,none,none,none⟩ [(∀ F w,(ay (bN S.O L)).h F w->w.cell? ⟨(L.b tk),5,none⟩=some (vI ((obj S.O tk).nano))),(∀ F w,(ay (bN S.O L)).h F w->w.cell? ⟨(L.b tk),4,none⟩=some (vI ((obj S.O tk).sec)))] ⟨eH (by rw [hkt];decide) (rfl),eH (by rw [hkt];decide) (rfl),trivial⟩)] ?_
   refine jq.beside (j:=20) (dj:=8) (R:=fun f_ l_=>f_=([(52,.agg #[vI ((cY S i)),vI 2,vI ((obj S.O tk).mode),vI ((obj S.O tk).uid),vI ((obj S.O tk).gid),vI ((obj S.O tk).sec),vI ((obj S.O tk).nano),.slice none (0) (0),.string ⟨#[]⟩,.slice none (0) (0)]),(35,vI 2)]++y5 f b4 b5++[(6,.iface 169 (vP (L.b tk)))]++y6 A7 S c8 i++[(33,vI ((cY S i))),(34,.iface 169 (vP (L.b tk)))]++DN S tk)/\l_=[]) [0,1,2,3,4,5,6,7,8,9,10,11] [8] [(2,35),(19,52)] rfl (pc:=[]) (pj:=[]) (Z:=(w9 b5 An i cn K S A7 c8 b4 f m t L++[pD S.O L,pE S.O L,.abs R])) (by kernel_rfl) rfl (by kernel_rfl) rfl rfl (iA.of (ι:=Nat) (v:=fun (b15:Nat)=>vP b15) (l:=fun (b15:Nat)=>[Sz b15]) [35,52] rfl rfl rfl rfl ?_) ?_ ?_
   ·intro u Aq
    show ak _ _ _ _ _ [(35,(u 35)),(52,(u 52)),(0,vP f),(2,vP b4),(3,vP b5),(6,.iface 169 (vP (L.b tk))),(19,.slice A7 ((keys S.idx).length) (c8)),(20,vI ↑((keys S.idx).length)),(21,vI ↑i),(33,vI ((cY S i))),(34,.iface 169 (vP (L.b tk))),(39,vI ((obj S.O tk).mode)),(43,vI ((obj S.O tk).uid)),(47,vI ((obj S.O tk).gid)),(51,.agg #[vI ((obj S.O tk).sec),vI ((obj S.O tk).nano)])] [.abs Aq] _
    refine gN 1 (fun b15=>[(8,vP b15)]) (fun _=>[]) (fun _=>[]) (fun b15=>.blk b15 [vI 0,vI 0,vI 0,vI 0,vI 0,vI 0,vI 0,.slice none (0) (0),.string ⟨#[]⟩,.slice none (0) (0)] 108) (fun b15=>?_)
    refine NL ?_
    exact MD b15 [8,35,52,0,2,3,6,19,20,21,33,34,39,43,47,51] [1,0]
   ·refine lu.step (iA.of (ι:=Unit) (v:=fun (_:Unit)=>.int .i64 2) (l:=fun (_:Unit)=>[]) [8] rfl rfl rfl rfl ?_) rfl ?_
    ·intro u Aq
     show ak _ _ _ _ _ [(8,(u 8)),(0,vP f),(2,vP b4),(3,vP b5),(6,.iface 169 (vP (L.b tk))),(19,.slice A7 ((keys S.idx).length) (c8)),(20,vI ↑((keys S.idx).length)),(21,vI ↑i),(33,vI ((cY S i))),(34,.iface 169 (vP (L.b tk))),(39,vI ((obj S.O tk).mode)),(43,vI ((obj S.O tk).uid)),(47,vI ((obj S.O tk).gid)),(51,.agg #[vI ((obj S.O tk).sec),vI ((obj S.O tk).nano)])] [.abs Aq] _
     refine gL [] (nk (vP (L.b tk))) ?_
     rintro _ _ ⟨rfl,rfl⟩
     refine NL ?_
     exact MD () [35,8,0,2,3,6,19,20,21,33,34,39,43,47,51] [0]
    rintro _ _ ⟨_,rfl,rfl⟩
    refine lu.step (iA.of (ι:=Unit) (v:=fun (_:Unit)=>.agg #[vI ((cY S i)),vI 2,vI ((obj S.O tk).mode),vI ((obj S.O tk).uid),vI ((obj S.O tk).gid),vI ((obj S.O tk).sec),vI ((obj S.O tk).nano),.slice none (0) (0),.string ⟨#[]⟩,.slice none (0) (0)]) (l:=fun (_:Unit)=>[]) [8] rfl rfl rfl rfl ?_) rfl ?_
    ·intro u Aq
     show ak _ _ _ _ _ [(8,(u 8)),(35,vI 2),(0,vP f),(2,vP b4),(3,vP b5),(6,.iface 169 (vP (L.b tk))),(19,.slice A7 ((keys S.idx).length) (c8)),(20,vI ↑((keys S.idx).length)),(21,vI ↑i),(33,vI ((cY S i))),(34,.iface 169 (vP (L.b tk))),(39,vI ((obj S.O tk).mode)),(43,vI ((obj S.O tk).uid)),(47,vI ((obj S.O tk).gid)),(51,.agg #[vI ((obj S.O tk).sec),vI ((obj S.O tk).nano)])] [.abs Aq] _
     refine gK 1 [(52,.agg #[vI ((cY S i)),vI 2,vI ((obj S.O tk).mode),vI ((obj S.O tk).uid),vI ((obj S.O tk).gid),vI ((obj S.O tk).sec),vI ((obj S.O tk).nano),.slice none (0) (0),.string ⟨#[]⟩,.slice none (0) (0)])] [] ?_
     refine NL ?_
     exact MD () [52,8,35,0,2,3,6,19,20,21,33,34,39,43,47,51] [0]
    rintro _ _ ⟨_,rfl,rfl⟩
    exact⟨rfl,rfl⟩
   rintro _ _ ⟨rfl,rfl⟩ _ _ ⟨b15,rfl,rfl⟩
   refine jq.last rfl rfl ?_
   refine gC 1 [] [(0,A_ 0 b15 10)] [(0,([(0,vI ((cY S i))),(1,vI 2)]++OJ S tk))] ?_
   refine NL (aj.np (NX (af.seq (SR ?_))))
   refine gK 1 [(53,.iface 169 (vP (L.b tk)))] [] ?_
   refine NN (af.block (SR ?_))
   refine gK 3 [(55,.bool false),(56,.pointer none)] [] ?_
   refine NN (CF (SR (gK 3 [(64,.bool false),(65,.pointer none)] [] ?_)))
   refine NN (CF (SR (gK 3 [(72,.bool true),(73,vP (L.b tk))] [] ?_)))
   refine NN (CT (SR (gK 1 [(11,vP (L.b tk))] [] ?_)))
   refine NS (gK 4 [(77,.map (some (L.m tk)))] [(3,v_ 9 (bH L hkt))] ?_)
   refine ak.mem (cP:=([.blk b15 [vI ((cY S i)),vI 2,vI ((obj S.O tk).mode),vI ((obj S.O tk).uid),vI ((obj S.O tk).gid),vI ((obj S.O tk).sec),vI ((obj S.O tk).nano),.slice none (0) (0),.string ⟨#[]⟩,.slice none (0) (0)] 108]++w9 b5 An i cn K S A7 c8 b4 f m t L++[pD S.O L,SB S L tk,.abs R,GX L tk S])) (fun w hS=>hS.Rs (i:=11) (k:=tk) rfl (hkt)) ?_
   refine gL [] (N7 (some (L.m tk))) ?_
   rintro _ _ ⟨b16,rfl,rfl⟩
   refine gL [14,0] (J8 L (L.m tk) b16 (obj S.O tk).ah.length (obj S.O tk).ah (hI.sorted _ hlv) hel) ?_
   rintro _ _ ⟨eD,c18,rfl,rfl⟩
   refine gK 1 [(80,vI ↑((obj S.O tk).ah.length))] [] ?_
   refine ak.mem (fun w hS=>hS.kI (e:=110) (size:=2)) ?_
   refine gK 1 [(81,vI 0)] [] ?_
   refine NN (af.block ?_)
   refine af.loop (ι:=Nat×(Option Addr)×Nat) (fun ((j,Ae,ce):Nat×(Option Addr)×Nat)=>(j<=(obj S.O tk).ah.length)) (fun ((j,Ae,ce):Nat×(Option Addr)×Nat)=>(obj S.O tk).ah.length - j) (fun ((j,Ae,ce):Nat×(Option Addr)×Nat)=>(GY f b4 b5 b15 L tk A7 S c8 i eD c18 j)) (fun ((j,Ae,ce):Nat×(Option Addr)×Nat)=>([jU b15 S i tk Ae j ce,oH Ae j ce S tk]++lI L tk S b16 eD c18 b5 An i cn K A7 c8 b4 f m t R)) (0,none,0) (idx:=[0,2,3,8,11,19,20,21,79,80,81]) (pk:=[3,16,0,1,2,4,5,6,7,8,9,10,11,12,13,14,15]) (show (0<=(obj S.O tk).ah.length) from (Nat.zero_le _)) (fun _=>by kernel_rfl) rfl (by kernel_rfl) ?_
   rintro⟨j,Ae,ce⟩ hj
   show af _ _ _ _ (GY f b4 b5 b15 L tk A7 S c8 i eD c18 j) ([jU b15 S i tk Ae j ce,oH Ae j ce S tk]++lI L tk S b16 eD c18 b5 An i cn K A7 c8 b4 f m t R) _
   refine SR (gK 1 [(82,.bool (decide ((((j:Nat):Int):Int) < ((((obj S.O tk).ah.length:Nat):Int):Int))))] [] ?_)
   refine NN (af.seq (af.bh (p:=(((j:Nat):Int):Int) < ((((obj S.O tk).ah.length:Nat):Int):Int)) (fun _=>by kernel_rfl) (fun WJ=>?_) (fun WJ=>?_)))
   ·have hj2:j < (obj S.O tk).ah.length:=by omega
    refine af.skip (NX (af.seq (af.block (SR ?_))))
    refine ak.tell (p:=(eD=some ⟨aE eD,aD eD,none⟩)) (fun w hS=>let ⟨F,h⟩:=hS.get (i:=4) rfl;(aJ.Jy h (by omega)).1) (fun WK=>?_)
    refine gK 3 [(13,.string (fT (obj S.O tk).ah j))] [(0,p_ ⟨[],some j,none,some ⟨(aE eD),aD eD,none⟩,none⟩ [((j:Nat):Int)=((j:Nat):Int),j < (obj S.O tk).ah.length,(⟨(aE eD),aD eD,none⟩:Addr).spot=none,(eD:Option Addr)=some ⟨(aE eD),aD eD,none⟩] ⟨rfl,by omega,rfl,WK,trivial⟩),(1,p_ ⟨[.view 4 (.string (fT (obj S.O tk).ah j))],none,none,none,none⟩ [(∀ F w,(aJ 9 1 eD ((obj S.O tk).ah.length) c18 (rz (obj S.O tk).ah)).h F w->w.cell? ⟨(aE eD),aD eD+j * 1,none⟩=some (.string (fT (obj S.O tk).ah j)))] ⟨aJ.cellAt (i:=j) (j:=0) (by omega) (Kb hj2),trivial⟩)] ?_
    refine NN ?_
    obtain⟨hgd,h4⟩:=VG hI.toInv0 hlv hj2
    have hgs:(fT (obj S.O tk).ah j).size<=255:=hgd.2.1
    rcases h4 with ⟨ek,hle,Bt,Mt⟩|⟨ek,hle,Bt,Mt⟩|⟨ek,hle,Bt,Mt⟩
    ·have hke:(obj S.O ek).kind=1:=hI.kind Bt
     refine af.bU (S:=[GX L tk S,pO S.O L,jU b15 S i tk Ae j ce]) [0,1,2,3,4,5,6,7,8,9,10,11,12,13,14,15,16,17] 9 [2,13,0] (by kernel_rfl) (by kernel_rfl) rfl (by kernel_rfl) ?_
     refine gR 1 [8,9,10,11,12,13,14,15,16,17] (GY f b4 b5 b15 L tk A7 S c8 i eD c18 j++rN Ae j ce S tk++[(91,.map (some (L.m tk))),(92,.string (fT (obj S.O tk).ah j))]) [0,1,2,3,4,5,6,7] [(1,a_ 2 b15),(6,v_ 1 (bH L hkt))] ?_
     refine aO.eP 0 (d:=(some 93)) (t:=174) (K:=9) (E:=156) (b:=(L.m tk)) (cnt:=(obj S.O tk).ah.length) (f:=(jo L (obj S.O tk).ah)) (x:=(.tmp 91)) (ix:=(.tmp 92)) (key:=.string (fT (obj S.O tk).ah j)) (z:=.nilIface) (kl:=(.string (fT (obj S.O tk).ah j).data.toList)) (q:=(some (dR L ⟨ek,1⟩))) (by kernel_rfl) (by kernel_rfl) (fun _=>by kernel_rfl) (fun _=>by kernel_rfl) AK Tryz.underlying174 (fun _=>by kernel_rfl) (Dd (by omega)) (by rw [sH,hle];rfl) (by kernel_rfl) ?_
     refine mL [2,13,0] [] (dr (L.b ek)) ?_ (by rintro _ _ ⟨rfl,rfl⟩;rfl)
     rintro _ _ ⟨rfl,rfl⟩
     refine aO.cut (ι:=Unit) (fr':=fun (_:Unit)=>(mO f b4 b5 b15 L tk A7 S c8 i eD c18 j++rN Ae j ce S tk++[(95,vP (L.b ek))])) (hp':=fun (_:Unit)=>([jU b15 S i tk Ae j ce,oH Ae j ce S tk]++lI L tk S b16 eD c18 b5 An i cn K A7 c8 b4 f m t R)) [2,13,0] rfl rfl ?_ rfl (fun _=>by kernel_rfl) ?_
     ·refine gK 1 [(95,vP (L.b ek))] [] ?_
      refine NL ?_
      exact MD () [0,2,3,8,11,19,20,21,79,80,81,86,87,95] [0,1,2,3,4,5,6,7,8,9,10,11,12,13,14,15,16]
     rintro _
     refine aO.cut (ι:=Unit) (fr':=fun (_:Unit)=>(mO f b4 b5 b15 L tk A7 S c8 i eD c18 j++rN Ae j ce S tk++[(96,vP (L.b ek))])) (hp':=fun (_:Unit)=>([jU b15 S i tk Ae j ce,oH Ae j ce S tk]++lI L tk S b16 eD c18 b5 An i cn K A7 c8 b4 f m t R)) [2,13,0] rfl rfl ?_ rfl (fun _=>by kernel_rfl) ?_
     ·refine gK 1 [(96,vP (L.b ek))] [] ?_
      refine NL ?_
      exact MD () [0,2,3,8,11,19,20,21,79,80,81,86,87,96] [0,1,2,3,4,5,6,7,8,9,10,11,12,13,14,15,16]
     rintro _
     refine aO.cut (ι:=Unit) (fr':=fun (_:Unit)=>(mO f b4 b5 b15 L tk A7 S c8 i eD c18 j++rN Ae j ce S tk++[(97,vI ((obj S.O ek).id))])) (hp':=fun (_:Unit)=>([jU b15 S i tk Ae j ce,oH Ae j ce S tk]++lI L tk S b16 eD c18 b5 An i cn K A7 c8 b4 f m t R)) [2,13,0] rfl rfl ?_ rfl (fun _=>by kernel_rfl) ?_
     ·refine gK 1 [(97,vI ((obj S.O ek).id))] [(0,v_ 13 (rJ L hke))] ?_
      refine NL ?_
      exact MD () [0,2,3,8,11,19,20,21,79,80,81,86,87,97] [0,1,2,3,4,5,6,7,8,9,10,11,12,13,14,15,16]
     rintro _
     refine aO.cut (ι:=Unit) (fr':=fun (_:Unit)=>(mO f b4 b5 b15 L tk A7 S c8 i eD c18 j++[(86,.slice Ae (j) (ce)),(98,.agg #[.string (fT (obj S.O tk).ah j),vI ((obj S.O ek).id)])])) (hp':=fun (_:Unit)=>([jU b15 S i tk Ae j ce,oH Ae j ce S tk]++lI L tk S b16 eD c18 b5 An i cn K A7 c8 b4 f m t R)) [2,13,0] rfl rfl ?_ rfl (fun _=>by kernel_rfl) ?_
     ·refine gK 1 [(98,.agg #[.string (fT (obj S.O tk).ah j),vI ((obj S.O ek).id)])] [] ?_
      refine NL ?_
      exact MD () [0,2,3,8,11,19,20,21,79,80,81,86,98] [0,1,2,3,4,5,6,7,8,9,10,11,12,13,14,15,16]
     rintro _
     refine mN [2,13,0] (fun b19=>[(99,.slice (some ⟨b19,0,none⟩) (1) (1))]) (fun _=>[]) (fun b19=>.blk b19 [.string (fT (obj S.O tk).ah j),vI ((obj S.O ek).id)] 110) (fun b19=>?_)
     refine aO.cut (ι:=(Option Addr)×Nat) (fr':=fun ((nW,nX):(Option Addr)×Nat)=>(mO f b4 b5 b15 L tk A7 S c8 i eD c18 j++[(100,.slice nW ((j+1)) (nX))])) (hp':=fun ((nW,nX):(Option Addr)×Nat)=>([jU b15 S i tk Ae j ce,DL nW j nX S tk]++lI L tk S b16 eD c18 b5 An i cn K A7 c8 b4 f m t R++[DM b19 S tk j ek])) [2,13,0] rfl rfl ?_ rfl (fun _=>by kernel_rfl) ?_
     ·refine ak.append 1 (d:=(some 100)) (t:=106) (e:=110) (z:=.agg #[.string ⟨#[]⟩,vI 0]) (size:=2) (bytes:=24) (n:=j) (cap:=ce) (A:=Ae) (xs:=(iO (((obj S.O tk).ah.take j).map (mK S.O)))) (s:=(.tmp 86)) (x:=(.tmp 99)) (ats:=#[106,106]) (A':=some ⟨b19,0,none⟩) (m:=1) (c':=1) (news:=[.string (fT (obj S.O tk).ah j),vI ((obj S.O ek).id)]) (fun _=>by kernel_rfl) rfl (by kernel_rfl) (fun _=>by kernel_rfl) (fun _=>by kernel_rfl) Tryz.underlying106 (by kernel_rfl) rfl (by decide) (rfl) (by simp [Value.oneCell']) (mG (j:=17) rfl) (by unfold maxLen;omega) (by omega) (fun nW nX=>?_)
      refine ak.d9 1 (p:=.abs (aJ 110 2 nW (j+1) nX ((iO (((obj S.O tk).ah.take j).map (mK S.O)))++[.string (fT (obj S.O tk).ah j),vI ((obj S.O ek).id)]))) (p':=.abs (aJ 110 2 nW (j+1) nX (iO (((obj S.O tk).ah.take (j+1)).map (mK S.O))))) (by kernel_rfl) (congrArg (fun x=>HP.abs (aJ 110 2 _ _ _ x)) (yJ hj2 Mt)) ?_
      refine ak.slot 100 (.slice nW (j+1) (nX)) (.slice nW ((j+1)) (nX)) (fun _=>by kernel_rfl) (rfl) ?_
      refine NL ?_
      exact MD (nW,nX) [0,2,3,8,11,19,20,21,79,80,81,100] [0,1,2,3,4,5,6,7,8,9,10,11,12,13,14,15,16,17]
     rintro⟨nW,nX⟩
     refine aO.cut (ι:=Unit) (fr':=fun (_:Unit)=>(mO f b4 b5 b15 L tk A7 S c8 i eD c18 j++[(100,.slice nW ((j+1)) (nX)),(101,.pointer (some ⟨b15,9,none⟩))])) (hp':=fun (_:Unit)=>([jU b15 S i tk Ae j ce,DL nW j nX S tk]++lI L tk S b16 eD c18 b5 An i cn K A7 c8 b4 f m t R++[DM b19 S tk j ek])) [2,13,0] rfl rfl ?_ rfl (fun _=>by kernel_rfl) ?_
     ·refine gK 1 [(101,.pointer (some ⟨b15,9,none⟩))] [] ?_
      refine NL ?_
      exact MD () [0,2,3,8,11,19,20,21,79,80,81,100,101] [0,1,2,3,4,5,6,7,8,9,10,11,12,13,14,15,16,17]
     rintro _
     refine aO.last rfl rfl ?_
     refine gC 1 [] [(0,a_ 0 b15)] [(0,[(9,.slice nW ((j+1)) (nX))])] ?_
     refine NL (aj.np (aj.aQ (NX (af.region ?_))))
     refine gK 2 [(81,vI ↑(j+1))] [(0,p_ ⟨[],none,none,none,some (vI ↑(j+1))⟩ [(Value.int .i64 (IntKind.wrap .i64 (((j:Nat):Int)+1)))=(.int .i64 ↑(j+1))] ⟨aY (by omega) (by omega) (by omega),trivial⟩)] ?_
     refine NL ?_
     exact aj.turn ((j+1),nW,nX) (idx:=[0,2,3,8,11,19,20,21,79,80,81]) (pk:=[0,1,2,3,4,5,6,7,8,9,10,11,12,13,14,15,16]) (show (((j+1))<=(obj S.O tk).ah.length) from (by omega)) (by show (obj S.O tk).ah.length - ((j+1)) < (obj S.O tk).ah.length - j;omega) (fun _=>by kernel_rfl) rfl (by kernel_rfl)
    ·have hke:(obj S.O ek).kind=2:=hI.kind Bt
     refine af.bU (S:=[GX L tk S,pO S.O L,jU b15 S i tk Ae j ce]) [0,1,2,3,4,5,6,7,8,9,10,11,12,13,14,15,16,17] 9 [2,13,0] (by kernel_rfl) (by kernel_rfl) rfl (by kernel_rfl) ?_
     refine gR 1 [8,9,10,11,12,13,14,15,16,17] (GY f b4 b5 b15 L tk A7 S c8 i eD c18 j++rN Ae j ce S tk++[(91,.map (some (L.m tk))),(92,.string (fT (obj S.O tk).ah j))]) [0,1,2,3,4,5,6,7] [(1,a_ 2 b15),(6,v_ 1 (bH L hkt))] ?_
     refine aO.eP 0 (d:=(some 93)) (t:=174) (K:=9) (E:=156) (b:=(L.m tk)) (cnt:=(obj S.O tk).ah.length) (f:=(jo L (obj S.O tk).ah)) (x:=(.tmp 91)) (ix:=(.tmp 92)) (key:=.string (fT (obj S.O tk).ah j)) (z:=.nilIface) (kl:=(.string (fT (obj S.O tk).ah j).data.toList)) (q:=(some (dR L ⟨ek,2⟩))) (by kernel_rfl) (by kernel_rfl) (fun _=>by kernel_rfl) (fun _=>by kernel_rfl) AK Tryz.underlying174 (fun _=>by kernel_rfl) (Dd (by omega)) (by rw [sH,hle];rfl) (by kernel_rfl) ?_
     refine mL [2,13,0] [] (dr (L.b ek)) ?_ (by rintro _ _ ⟨rfl,rfl⟩;rfl)
     rintro _ _ ⟨rfl,rfl⟩
     refine aO.cut (ι:=Unit) (fr':=fun (_:Unit)=>(mO f b4 b5 b15 L tk A7 S c8 i eD c18 j++rN Ae j ce S tk++[(95,vP (L.b ek))])) (hp':=fun (_:Unit)=>([jU b15 S i tk Ae j ce,oH Ae j ce S tk]++lI L tk S b16 eD c18 b5 An i cn K A7 c8 b4 f m t R)) [2,13,0] rfl rfl ?_ rfl (fun _=>by kernel_rfl) ?_
     ·refine gK 1 [(95,vP (L.b ek))] [] ?_
      refine NL ?_
      exact MD () [0,2,3,8,11,19,20,21,79,80,81,86,87,95] [0,1,2,3,4,5,6,7,8,9,10,11,12,13,14,15,16]
     rintro _
     refine aO.cut (ι:=Unit) (fr':=fun (_:Unit)=>(mO f b4 b5 b15 L tk A7 S c8 i eD c18 j++rN Ae j ce S tk++[(96,vP (L.b ek))])) (hp':=fun (_:Unit)=>([jU b15 S i tk Ae j ce,oH Ae j ce S tk]++lI L tk S b16 eD c18 b5 An i cn K A7 c8 b4 f m t R)) [2,13,0] rfl rfl ?_ rfl (fun _=>by kernel_rfl) ?_
     ·refine gK 1 [(96,vP (L.b ek))] [] ?_
      refine NL ?_
      exact MD () [0,2,3,8,11,19,20,21,79,80,81,86,87,96] [0,1,2,3,4,5,6,7,8,9,10,11,12,13,14,15,16]
     rintro _
     refine aO.cut (ι:=Unit) (fr':=fun (_:Unit)=>(mO f b4 b5 b15 L tk A7 S c8 i eD c18 j++rN Ae j ce S tk++[(97,vI ((obj S.O ek).id))])) (hp':=fun (_:Unit)=>([jU b15 S i tk Ae j ce,oH Ae j ce S tk]++lI L tk S b16 eD c18 b5 An i cn K A7 c8 b4 f m t R)) [2,13,0] rfl rfl ?_ rfl (fun _=>by kernel_rfl) ?_
     ·refine gK 1 [(97,vI ((obj S.O ek).id))] [(0,v_ 13 (rJ L hke))] ?_
      refine NL ?_
      exact MD () [0,2,3,8,11,19,20,21,79,80,81,86,87,97] [0,1,2,3,4,5,6,7,8,9,10,11,12,13,14,15,16]
     rintro _
     refine aO.cut (ι:=Unit) (fr':=fun (_:Unit)=>(mO f b4 b5 b15 L tk A7 S c8 i eD c18 j++[(86,.slice Ae (j) (ce)),(98,.agg #[.string (fT (obj S.O tk).ah j),vI ((obj S.O ek).id)])])) (hp':=fun (_:Unit)=>([jU b15 S i tk Ae j ce,oH Ae j ce S tk]++lI L tk S b16 eD c18 b5 An i cn K A7 c8 b4 f m t R)) [2,13,0] rfl rfl ?_ rfl (fun _=>by kernel_rfl) ?_
     ·refine gK 1 [(98,.agg #[.string (fT (obj S.O tk).ah j),vI ((obj S.O ek).id)])] [] ?_
      refine NL ?_
      exact MD () [0,2,3,8,11,19,20,21,79,80,81,86,98] [0,1,2,3,4,5,6,7,8,9,10,11,12,13,14,15,16]
     rintro _
     refine mN [2,13,0] (fun G1=>[(99,.slice (some ⟨G1,0,none⟩) (1) (1))]) (fun _=>[]) (fun G1=>.blk G1 [.string (fT (obj S.O tk).ah j),vI ((obj S.O ek).id)] 110) (fun G1=>?_)
     refine aO.cut (ι:=(Option Addr)×Nat) (fr':=fun ((uG,uH):(Option Addr)×Nat)=>(mO f b4 b5 b15 L tk A7 S c8 i eD c18 j++[(100,.slice uG ((j+1)) (uH))])) (hp':=fun ((uG,uH):(Option Addr)×Nat)=>([jU b15 S i tk Ae j ce,DL uG j uH S tk]++lI L tk S b16 eD c18 b5 An i cn K A7 c8 b4 f m t R++[DM G1 S tk j ek])) [2,13,0] rfl rfl ?_ rfl (fun _=>by kernel_rfl) ?_
     ·refine ak.append 1 (d:=(some 100)) (t:=106) (e:=110) (z:=.agg #[.string ⟨#[]⟩,vI 0]) (size:=2) (bytes:=24) (n:=j) (cap:=ce) (A:=Ae) (xs:=(iO (((obj S.O tk).ah.take j).map (mK S.O)))) (s:=(.tmp 86)) (x:=(.tmp 99)) (ats:=#[106,106]) (A':=some ⟨G1,0,none⟩) (m:=1) (c':=1) (news:=[.string (fT (obj S.O tk).ah j),vI ((obj S.O ek).id)]) (fun _=>by kernel_rfl) rfl (by kernel_rfl) (fun _=>by kernel_rfl) (fun _=>by kernel_rfl) Tryz.underlying106 (by kernel_rfl) rfl (by decide) (rfl) (by simp [Value.oneCell']) (mG (j:=17) rfl) (by unfold maxLen;omega) (by omega) (fun uG uH=>?_)
      refine ak.d9 1 (p:=.abs (aJ 110 2 uG (j+1) uH ((iO (((obj S.O tk).ah.take j).map (mK S.O)))++[.string (fT (obj S.O tk).ah j),vI ((obj S.O ek).id)]))) (p':=.abs (aJ 110 2 uG (j+1) uH (iO (((obj S.O tk).ah.take (j+1)).map (mK S.O))))) (by kernel_rfl) (congrArg (fun x=>HP.abs (aJ 110 2 _ _ _ x)) (yJ hj2 Mt)) ?_
      refine ak.slot 100 (.slice uG (j+1) (uH)) (.slice uG ((j+1)) (uH)) (fun _=>by kernel_rfl) (rfl) ?_
      refine NL ?_
      exact MD (uG,uH) [0,2,3,8,11,19,20,21,79,80,81,100] [0,1,2,3,4,5,6,7,8,9,10,11,12,13,14,15,16,17]
     rintro⟨uG,uH⟩
     refine aO.cut (ι:=Unit) (fr':=fun (_:Unit)=>(mO f b4 b5 b15 L tk A7 S c8 i eD c18 j++[(100,.slice uG ((j+1)) (uH)),(101,.pointer (some ⟨b15,9,none⟩))])) (hp':=fun (_:Unit)=>([jU b15 S i tk Ae j ce,DL uG j uH S tk]++lI L tk S b16 eD c18 b5 An i cn K A7 c8 b4 f m t R++[DM G1 S tk j ek])) [2,13,0] rfl rfl ?_ rfl (fun _=>by kernel_rfl) ?_
     ·refine gK 1 [(101,.pointer (some ⟨b15,9,none⟩))] [] ?_
      refine NL ?_
      exact MD () [0,2,3,8,11,19,20,21,79,80,81,100,101] [0,1,2,3,4,5,6,7,8,9,10,11,12,13,14,15,16,17]
     rintro _
     refine aO.last rfl rfl ?_
     refine gC 1 [] [(0,a_ 0 b15)] [(0,[(9,.slice uG ((j+1)) (uH))])] ?_
     refine NL (aj.np (aj.aQ (NX (af.region ?_))))
     refine gK 2 [(81,vI ↑(j+1))] [(0,p_ ⟨[],none,none,none,some (vI ↑(j+1))⟩ [(Value.int .i64 (IntKind.wrap .i64 (((j:Nat):Int)+1)))=(.int .i64 ↑(j+1))] ⟨aY (by omega) (by omega) (by omega),trivial⟩)] ?_
     refine NL ?_
     exact aj.turn ((j+1),uG,uH) (idx:=[0,2,3,8,11,19,20,21,79,80,81]) (pk:=[0,1,2,3,4,5,6,7,8,9,10,11,12,13,14,15,16]) (show (((j+1))<=(obj S.O tk).ah.length) from (by omega)) (by show (obj S.O tk).ah.length - ((j+1)) < (obj S.O tk).ah.length - j;omega) (fun _=>by kernel_rfl) rfl (by kernel_rfl)
    have hke:(obj S.O ek).kind=3:=hI.kind Bt
    refine af.bU (S:=[GX L tk S,pO S.O L,jU b15 S i tk Ae j ce]) [0,1,2,3,4,5,6,7,8,9,10,11,12,13,14,15,16,17] 9 [2,13,0] (by kernel_rfl) (by kernel_rfl) rfl (by kernel_rfl) ?_
    refine gR 1 [8,9,10,11,12,13,14,15,16,17] (GY f b4 b5 b15 L tk A7 S c8 i eD c18 j++rN Ae j ce S tk++[(91,.map (some (L.m tk))),(92,.string (fT (obj S.O tk).ah j))]) [0,1,2,3,4,5,6,7] [(1,a_ 2 b15),(6,v_ 1 (bH L hkt))] ?_
    refine aO.eP 0 (d:=(some 93)) (t:=174) (K:=9) (E:=156) (b:=(L.m tk)) (cnt:=(obj S.O tk).ah.length) (f:=(jo L (obj S.O tk).ah)) (x:=(.tmp 91)) (ix:=(.tmp 92)) (key:=.string (fT (obj S.O tk).ah j)) (z:=.nilIface) (kl:=(.string (fT (obj S.O tk).ah j).data.toList)) (q:=(some (dR L ⟨ek,3⟩))) (by kernel_rfl) (by kernel_rfl) (fun _=>by kernel_rfl) (fun _=>by kernel_rfl) AK Tryz.underlying174 (fun _=>by kernel_rfl) (Dd (by omega)) (by rw [sH,hle];rfl) (by kernel_rfl) ?_
    refine mL [2,13,0] [] (dr (L.b ek)) ?_ (by rintro _ _ ⟨rfl,rfl⟩;rfl)
    rintro _ _ ⟨rfl,rfl⟩
    refine aO.cut (ι:=Unit) (fr':=fun (_:Unit)=>(mO f b4 b5 b15 L tk A7 S c8 i eD c18 j++rN Ae j ce S tk++[(95,vP (L.b ek))])) (hp':=fun (_:Unit)=>([jU b15 S i tk Ae j ce,oH Ae j ce S tk]++lI L tk S b16 eD c18 b5 An i cn K A7 c8 b4 f m t R)) [2,13,0] rfl rfl ?_ rfl (fun _=>by kernel_rfl) ?_
    ·refine gK 1 [(95,vP (L.b ek))] [] ?_
     refine NL ?_
     exact MD () [0,2,3,8,11,19,20,21,79,80,81,86,87,95] [0,1,2,3,4,5,6,7,8,9,10,11,12,13,14,15,16]
    rintro _
    refine aO.cut (ι:=Unit) (fr':=fun (_:Unit)=>(mO f b4 b5 b15 L tk A7 S c8 i eD c18 j++rN Ae j ce S tk++[(96,vP (L.b ek))])) (hp':=fun (_:Unit)=>([jU b15 S i tk Ae j ce,oH Ae j ce S tk]++lI L tk S b16 eD c18 b5 An i cn K A7 c8 b4 f m t R)) [2,13,0] rfl rfl ?_ rfl (fun _=>by kernel_rfl) ?_
    ·refine gK 1 [(96,vP (L.b ek))] [] ?_
     refine NL ?_
     exact MD () [0,2,3,8,11,19,20,21,79,80,81,86,87,96] [0,1,2,3,4,5,6,7,8,9,10,11,12,13,14,15,16]
    rintro _
    refine aO.cut (ι:=Unit) (fr':=fun (_:Unit)=>(mO f b4 b5 b15 L tk A7 S c8 i eD c18 j++rN Ae j ce S tk++[(97,vI ((obj S.O ek).id))])) (hp':=fun (_:Unit)=>([jU b15 S i tk Ae j ce,oH Ae j ce S tk]++lI L tk S b16 eD c18 b5 An i cn K A7 c8 b4 f m t R)) [2,13,0] rfl rfl ?_ rfl (fun _=>by kernel_rfl) ?_
    ·refine gK 1 [(97,vI ((obj S.O ek).id))] [(0,v_ 13 (rJ L hke))] ?_
     refine NL ?_
     exact MD () [0,2,3,8,11,19,20,21,79,80,81,86,87,97] [0,1,2,3,4,5,6,7,8,9,10,11,12,13,14,15,16]
    rintro _
    refine aO.cut (ι:=Unit) (fr':=fun (_:Unit)=>(mO f b4 b5 b15 L tk A7 S c8 i eD c18 j++[(86,.slice Ae (j) (ce)),(98,.agg #[.string (fT (obj S.O tk).ah j),vI ((obj S.O ek).id)])])) (hp':=fun (_:Unit)=>([jU b15 S i tk Ae j ce,oH Ae j ce S tk]++lI L tk S b16 eD c18 b5 An i cn K A7 c8 b4 f m t R)) [2,13,0] rfl rfl ?_ rfl (fun _=>by kernel_rfl) ?_
    ·refine gK 1 [(98,.agg #[.string (fT (obj S.O tk).ah j),vI ((obj S.O ek).id)])] [] ?_
     refine NL ?_
     exact MD () [0,2,3,8,11,19,20,21,79,80,81,86,98] [0,1,2,3,4,5,6,7,8,9,10,11,12,13,14,15,16]
    rintro _
    refine mN [2,13,0] (fun G2=>[(99,.slice (some ⟨G2,0,none⟩) (1) (1))]) (fun _=>[]) (fun G2=>.blk G2 [.string (fT (obj S.O tk).ah j),vI ((obj S.O ek).id)] 110) (fun G2=>?_)
    refine aO.cut (ι:=(Option Addr)×Nat) (fr':=fun ((uI,uJ):(Option Addr)×Nat)=>(mO f b4 b5 b15 L tk A7 S c8 i eD c18 j++[(100,.slice uI ((j+1)) (uJ))])) (hp':=fun ((uI,uJ):(Option Addr)×Nat)=>([jU b15 S i tk Ae j ce,DL uI j uJ S tk]++lI L tk S b16 eD c18 b5 An i cn K A7 c8 b4 f m t R++[DM G2 S tk j ek])) [2,13,0] rfl rfl ?_ rfl (fun _=>by kernel_rfl) ?_
    ·refine ak.append 1 (d:=(some 100)) (t:=106) (e:=110) (z:=.agg #[.string ⟨#[]⟩,vI 0]) (size:=2) (bytes:=24) (n:=j) (cap:=ce) (A:=Ae) (xs:=(iO (((obj S.O tk).ah.take j).map (mK S.O)))) (s:=(.tmp 86)) (x:=(.tmp 99)) (ats:=#[106,106]) (A':=some ⟨G2,0,none⟩) (m:=1) (c':=1) (news:=[.string (fT (obj S.O tk).ah j),vI ((obj S.O ek).id)]) (fun _=>by kernel_rfl) rfl (by kernel_rfl) (fun _=>by kernel_rfl) (fun _=>by kernel_rfl) Tryz.underlying106 (by kernel_rfl) rfl (by decide) (rfl) (by simp [Value.oneCell']) (mG (j:=17) rfl) (by unfold maxLen;omega) (by omega) (fun uI uJ=>?_)
     refine ak.d9 1 (p:=.abs (aJ 110 2 uI (j+1) uJ ((iO (((obj S.O tk).ah.take j).map (mK S.O)))++[.string (fT (obj S.O tk).ah j),vI ((obj S.O ek).id)]))) (p':=.abs (aJ 110 2 uI (j+1) uJ (iO (((obj S.O tk).ah.take (j+1)).map (mK S.O))))) (by kernel_rfl) (congrArg (fun x=>HP.abs (aJ 110 2 _ _ _ x)) (yJ hj2 Mt)) ?_
     refine ak.slot 100 (.slice uI (j+1) (uJ)) (.slice uI ((j+1)) (uJ)) (fun _=>by kernel_rfl) (rfl) ?_
     refine NL ?_
     exact MD (uI,uJ) [0,2,3,8,11,19,20,21,79,80,81,100] [0,1,2,3,4,5,6,7,8,9,10,11,12,13,14,15,16,17]
    rintro⟨uI,uJ⟩
    refine aO.cut (ι:=Unit) (fr':=fun (_:Unit)=>(mO f b4 b5 b15 L tk A7 S c8 i eD c18 j++[(100,.slice uI ((j+1)) (uJ)),(101,.pointer (some ⟨b15,9,none⟩))])) (hp':=fun (_:Unit)=>([jU b15 S i tk Ae j ce,DL uI j uJ S tk]++lI L tk S b16 eD c18 b5 An i cn K A7 c8 b4 f m t R++[DM G2 S tk j ek])) [2,13,0] rfl rfl ?_ rfl (fun _=>by kernel_rfl) ?_
    ·refine gK 1 [(101,.pointer (some ⟨b15,9,none⟩))] [] ?_
     refine NL ?_
     exact MD () [0,2,3,8,11,19,20,21,79,80,81,100,101] [0,1,2,3,4,5,6,7,8,9,10,11,12,13,14,15,16,17]
    rintro _
    refine aO.last rfl rfl ?_
    refine gC 1 [] [(0,a_ 0 b15)] [(0,[(9,.slice uI ((j+1)) (uJ))])] ?_
    refine NL (aj.np (aj.aQ (NX (af.region ?_))))
    refine gK 2 [(81,vI ↑(j+1))] [(0,p_ ⟨[],none,none,none,some (vI ↑(j+1))⟩ [(Value.int .i64 (IntKind.wrap .i64 (((j:Nat):Int)+1)))=(.int .i64 ↑(j+1))] ⟨aY (by omega) (by omega) (by omega),trivial⟩)] ?_
    refine NL ?_
    exact aj.turn ((j+1),uI,uJ) (idx:=[0,2,3,8,11,19,20,21,79,80,81]) (pk:=[0,1,2,3,4,5,6,7,8,9,10,11,12,13,14,15,16]) (show (((j+1))<=(obj S.O tk).ah.length) from (by omega)) (by show (obj S.O tk).ah.length - ((j+1)) < (obj S.O tk).ah.length - j;omega) (fun _=>by kernel_rfl) rfl (by kernel_rfl)
   refine af.exit (aj.br (aj.br (aj.dM (aj.aQ (NX (af.region ?_))))))
   have hjl:j=(obj S.O tk).ah.length:=by omega
   refine ak.mem (cP:=([pE S.O L,jU b15 S i tk Ae j ce,oH Ae j ce S tk,SC b16 L tk,SD eD S tk c18]++w9 b5 An i cn K S A7 c8 b4 f m t L++[pD S.O L,.abs R])) (fun w hS=>hS.Rt (i:=15) (j:=2) (idx:=[0,1,3,4,5,6,7,8,9,10,11,12,13,14,16]) (k:=tk) rfl rfl (by kernel_rfl) rfl (hkt)) ?_
   refine gN 4 (fun Jh=>[(104,.slice An (i) (cn)),(106,.slice (some ⟨Jh,0,none⟩) (1) (1))]) (fun Jh=>[(1,a_ 5 b5),(2,A_ 1 b15 10)]) (fun _=>[]) (fun Jh=>.blk Jh [vI ((cY S i)),vI 2,vI ((obj S.O tk).mode),vI ((obj S.O tk).uid),vI ((obj S.O tk).gid),vI ((obj S.O tk).sec),vI ((obj S.O tk).nano),.slice none (0) (0),.string ⟨#[]⟩,.slice Ae (j) (ce)] 108) (fun Jh=>?_)
   refine ak.append 6 (d:=(some 107)) (t:=22) (e:=108) (z:=.agg #[vI 0,vI 0,vI 0,vI 0,vI 0,vI 0,vI 0,.slice none (0) (0),.string ⟨#[]⟩,.slice none (0) (0)]) (size:=10) (bytes:=120) (n:=i) (cap:=cn) (A:=An) (xs:=(dQ K ((bC S).take i))) (s:=(.tmp 104)) (x:=(.tmp 106)) (ats:=#[22,22]) (A':=some ⟨Jh,0,none⟩) (m:=1) (c':=1) (news:=[vI ((cY S i)),vI 2,vI ((obj S.O tk).mode),vI ((obj S.O tk).uid),vI ((obj S.O tk).gid),vI ((obj S.O tk).sec),vI ((obj S.O tk).nano),.slice none (0) (0),.string ⟨#[]⟩,.slice Ae (j) (ce)]) (fun _=>by kernel_rfl) rfl (by kernel_rfl) (fun _=>by kernel_rfl) (fun _=>by kernel_rfl) Tryz.underlying22 (by kernel_rfl) rfl (by decide) (rfl) (by simp [Value.oneCell']) (mG (j:=16) rfl) (by unfold maxLen;omega) (by omega) (fun Ji Jj=>?_)
   refine ak.d9 6 (p:=.abs (aJ 108 10 Ji (i+1) Jj ((dQ K ((bC S).take i))++[vI ((cY S i)),vI 2,vI ((obj S.O tk).mode),vI ((obj S.O tk).uid),vI ((obj S.O tk).gid),vI ((obj S.O tk).sec),vI ((obj S.O tk).nano),.slice none (0) (0),.string ⟨#[]⟩,.slice Ae (j) (ce)]))) (p':=.abs (aJ 108 10 Ji (i+1) Jj (dQ (K.put i none 0 Ae ce) ((bC S).take (i+1))))) (by kernel_rfl) (congrArg (fun x=>HP.abs (aJ 108 10 _ _ _ x)) (wQ (dZ (by omega)) (tf hI.toInv0 hi2 lN hlv) rfl (by show ((obj S.O tk).ah.map (mK S.O)).length=j;rw [List.length_map,hjl]))) ?_
   refine ak.slot 107 (.slice Ji (i+1) (Jj)) (.slice Ji ((i+1)) (Jj)) (fun _=>by kernel_rfl) (rfl) ?_
   refine gC 2 [] [(1,a_ 5 b5)] [(5,[(0,.slice Ji ((i+1)) (Jj))])] ?_
   refine NL (aj.aQ (NX (af.region ?_)))
   refine gK 2 [(21,vI ↑(i+1))] [(0,p_ ⟨[],none,none,none,some (vI ↑(i+1))⟩ [(Value.int .i64 (IntKind.wrap .i64 (((i:Nat):Int)+1)))=(.int .i64 ↑(i+1))] ⟨aY (by omega) (by omega) (by omega),trivial⟩)] ?_
   refine NL (aj.mem (fun w hS=>hS.kI (e:=5) (size:=1)) ?_)
   refine aj.mem (fun w hS=>hS.sG (R':=(mo ((bC S).take (i+1)) (K.put i none 0 Ae ce))) (i:=8) (j:=17) (idx:=[0,1,2,3,4,5,6,7,9,10,11,12,13,14,15,16]) rfl rfl (by kernel_rfl) rfl (Bd (dZ (by omega)) (tf hI.toInv0 hi2 lN hlv)) (yH (dZ (by omega)) (tf hI.toInv0 hi2 lN hlv) rfl)) ?_
   refine aj.mem (fun w hS=>hS.sG (R':=(mh ((bC S).take (i+1)) (K.put i none 0 Ae ce))) (i:=8) (j:=3) (idx:=[0,1,2,4,5,6,7,9,10,11,12,13,14,15,16]) rfl rfl (by kernel_rfl) rfl (Be (dZ (by omega)) (tf hI.toInv0 hi2 lN hlv)) ((yI (dZ (by omega)) (tf hI.toInv0 hi2 lN hlv) (by show ((obj S.O tk).ah.map (mK S.O)).length=j;rw [List.length_map,hjl])).trans (by rw [hjl,List.take_length]))) ?_
   exact aj.turn ((i+1),Ji,Jj,(K.put i none 0 Ae ce)) (idx:=[0,2,3,19,20,21]) (pk:=[6,7,0,1,8,9,10,11,12,13,2,14]) (show (((i+1))<=S.idx.length) from (by omega)) (by show S.idx.length - ((i+1)) < S.idx.length - i;omega) (fun _=>by kernel_rfl) rfl (by kernel_rfl)
  have hkt:(obj S.O tk).kind=3:=hI.kind hlv
  have hel:(obj S.O tk).ah.length<=8192:=hI.ic hlv
  have hdl:(obj S.O tk).data.length<=140737488355328:=hI.JO hlv
  refine af.region (gK 5 [(28,.map (some m)),(29,vI ((cY S i)))] [(3,a_ 6 f)] ?_)
  refine ak.eP 7 (d:=(some 30)) (t:=151) (K:=3) (E:=156) (b:=m) (n:=S.idx.length) (f:=(bg (bn L S.idx))) (x:=(.tmp 28)) (ix:=(.tmp 29)) (key:=.int .i64 ((cY S i))) (z:=.nilIface) (kl:=(.int .i64 (cY S i))) (r:=(some (dR L ⟨tk,3⟩))) (fun _=>by kernel_rfl) (by kernel_rfl) (fun _=>by kernel_rfl) (fun _=>by kernel_rfl) eE Tryz.underlying151 (fun _=>by kernel_rfl) (iR (Dv hI.toInv0 hi2)) (by rw [fP,hget,lN];rfl) ?_
  refine gK 1 [(6,.iface 166 (vP (L.b tk)))] [] ?_
  refine NS (gK 1 [(31,.iface 166 (vP (L.b tk)))] [] ?_)
  refine gL [] (dr (L.b tk)) ?_
  rintro _ _ ⟨rfl,rfl⟩
  refine gK 1 [(7,vP (L.b tk))] [] ?_
  refine NN (af.seq (af.sC (S:=[pO S.O L]) [0,1,3,4,5,6,7,8,9,10,11,12,13,14,15,16,17,18] [.beside [2,19] 20,.one 21] [8] (by kernel_rfl) (by kernel_rfl) rfl (by kernel_rfl) ?_))
  refine gP (y5 f b4 b5++[(6,.iface 166 (vP (L.b tk)))]++y6 A7 S c8 i++[(33,vI ((cY S i))),(34,.iface 166 (vP (L.b tk)))]++DN S tk) [0,1,3,4,5,6,7,8,9,10,11,12,13,14,15,16,17,18] [(5,v_ 0 (tq L hkt)),(9,v_ 0 (zG L hkt)),(13,v_ 0 (zH L hkt)),(17,p_ ⟨[.view 0 (.int .i64 ((obj S.O tk).sec)),.view 0 (.int .i64 ((obj S.O tk).nano))],none,none,none,none⟩ [(∀ F w,(ay (bN S.O L)).h F w->w.cell? ⟨(L.b tk),5,none⟩=some (vI ((obj S.O tk).nano))),(∀ F w,(ay (bN S.O L)).h F w->w.cell? ⟨(L.b tk),4,none⟩=some (vI ((obj S.O tk).sec)))] ⟨eH (by rw [hkt];decide) (rfl),eH (by rw [hkt];decide) (rfl),trivial⟩)] ?_
  refine jq.beside (j:=20) (dj:=8) (R:=fun f_ l_=>f_=([(52,.agg #[vI ((cY S i)),vI 3,vI ((obj S.O tk).mode),vI ((obj S.O tk).uid),vI ((obj S.O tk).gid),vI ((obj S.O tk).sec),vI ((obj S.O tk).nano),.slice none (0) (0),.string ⟨#[]⟩,.slice none (0) (0)]),(35,vI 3)]++y5 f b4 b5++[(6,.iface 166 (vP (L.b tk)))]++y6 A7 S c8 i++[(33,vI ((cY S i))),(34,.iface 166 (vP (L.b tk)))]++DN S tk)/\l_=[]) [0,1,2,3,4,5,6,7,8,9,10,11] [8] [(2,35),(19,52)] rfl (pc:=[]) (pj:=[]) (Z:=(w9 b5 An i cn K S A7 c8 b4 f m t L++[pD S.O L,pE S.O L,.abs R])) (by kernel_rfl) rfl (by kernel_rfl) rfl rfl (iA.of (ι:=Nat) (v:=fun (vO:Nat)=>vP vO) (l:=fun (vO:Nat)=>[Sz vO]) [35,52] rfl rfl rfl rfl ?_) ?_ ?_
  ·intro u Aq
   show ak _ _ _ _ _ [(35,(u 35)),(52,(u 52)),(0,vP f),(2,vP b4),(3,vP b5),(6,.iface 166 (vP (L.b tk))),(19,.slice A7 ((keys S.idx).length) (c8)),(20,vI ↑((keys S.idx).length)),(21,vI ↑i),(33,vI ((cY S i))),(34,.iface 166 (vP (L.b tk))),(39,vI ((obj S.O tk).mode)),(43,vI ((obj S.O tk).uid)),(47,vI ((obj S.O tk).gid)),(51,.agg #[vI ((obj S.O tk).sec),vI ((obj S.O tk).nano)])] [.abs Aq] _
   refine gN 1 (fun vO=>[(8,vP vO)]) (fun _=>[]) (fun _=>[]) (fun vO=>.blk vO [vI 0,vI 0,vI 0,vI 0,vI 0,vI 0,vI 0,.slice none (0) (0),.string ⟨#[]⟩,.slice none (0) (0)] 108) (fun vO=>?_)
   refine NL ?_
   exact MD vO [8,35,52,0,2,3,6,19,20,21,33,34,39,43,47,51] [1,0]
  ·refine lu.step (iA.of (ι:=Unit) (v:=fun (_:Unit)=>.int .i64 3) (l:=fun (_:Unit)=>[]) [8] rfl rfl rfl rfl ?_) rfl ?_
   ·intro u Aq
    show ak _ _ _ _ _ [(8,(u 8)),(0,vP f),(2,vP b4),(3,vP b5),(6,.iface 166 (vP (L.b tk))),(19,.slice A7 ((keys S.idx).length) (c8)),(20,vI ↑((keys S.idx).length)),(21,vI ↑i),(33,vI ((cY S i))),(34,.iface 166 (vP (L.b tk))),(39,vI ((obj S.O tk).mode)),(43,vI ((obj S.O tk).uid)),(47,vI ((obj S.O tk).gid)),(51,.agg #[vI ((obj S.O tk).sec),vI ((obj S.O tk).nano)])] [.abs Aq] _
    refine gL [] (oC (vP (L.b tk))) ?_
    rintro _ _ ⟨rfl,rfl⟩
    refine NL ?_
    exact MD () [35,8,0,2,3,6,19,20,21,33,34,39,43,47,51] [0]
   rintro _ _ ⟨_,rfl,rfl⟩
   refine lu.step (iA.of (ι:=Unit) (v:=fun (_:Unit)=>.agg #[vI ((cY S i)),vI 3,vI ((obj S.O tk).mode),vI ((obj S.O tk).uid),vI ((obj S.O tk).gid),vI ((obj S.O tk).sec),vI ((obj S.O tk).nano),.slice none (0) (0),.string ⟨#[]⟩,.slice none (0) (0)]) (l:=fun (_:Unit)=>[]) [8] rfl rfl rfl rfl ?_) rfl ?_
   ·intro u Aq
    show ak _ _ _ _ _ [(8,(u 8)),(35,vI 3),(0,vP f),(2,vP b4),(3,vP b5),(6,.iface 166 (vP (L.b tk))),(19,.slice A7 ((keys S.idx).length) (c8)),(20,vI ↑((keys S.idx).length)),(21,vI ↑i),(33,vI ((cY S i))),(34,.iface 166 (vP (L.b tk))),(39,vI ((obj S.O tk).mode)),(43,vI ((obj S.O tk).uid)),(47,vI ((obj S.O tk).gid)),(51,.agg #[vI ((obj S.O tk).sec),vI ((obj S.O tk).nano)])] [.abs Aq] _
    refine gK 1 [(52,.agg #[vI ((cY S i)),vI 3,vI ((obj S.O tk).mode),vI ((obj S.O tk).uid),vI ((obj S.O tk).gid),vI ((obj S.O tk).sec),vI ((obj S.O tk).nano),.slice none (0) (0),.string ⟨#[]⟩,.slice none (0) (0)])] [] ?_
    refine NL ?_
    exact MD () [52,8,35,0,2,3,6,19,20,21,33,34,39,43,47,51] [0]
   rintro _ _ ⟨_,rfl,rfl⟩
   exact⟨rfl,rfl⟩
  rintro _ _ ⟨rfl,rfl⟩ _ _ ⟨vO,rfl,rfl⟩
  refine jq.last rfl rfl ?_
  refine gC 1 [] [(0,A_ 0 vO 10)] [(0,([(0,vI ((cY S i))),(1,vI 3)]++OJ S tk))] ?_
  refine NL (aj.np (NX (af.seq (SR ?_))))
  refine gK 1 [(53,.iface 166 (vP (L.b tk)))] [] ?_
  refine NN (af.block (SR ?_))
  refine gK 3 [(55,.bool false),(56,.pointer none)] [] ?_
  refine NN (CF (SR (gK 3 [(64,.bool true),(65,vP (L.b tk))] [] ?_)))
  refine NN (CT (SR (gK 1 [(10,vP (L.b tk))] [] ?_)))
  refine NN (af.region (gC 6 [] [(3,v_ 9 (TS L hkt)),(5,a_ 0 vO)] [(0,[(8,.string (obj S.O tk).target)])] ?_))
  refine NL (aj.aQ (NX (af.region ?_)))
  refine gN 4 (fun b32=>[(104,.slice An (i) (cn)),(106,.slice (some ⟨b32,0,none⟩) (1) (1))]) (fun b32=>[(1,a_ 1 b5),(2,A_ 0 vO 10)]) (fun _=>[]) (fun b32=>.blk b32 [vI ((cY S i)),vI 3,vI ((obj S.O tk).mode),vI ((obj S.O tk).uid),vI ((obj S.O tk).gid),vI ((obj S.O tk).sec),vI ((obj S.O tk).nano),.slice none (0) (0),.string (obj S.O tk).target,.slice none (0) (0)] 108) (fun b32=>?_)
  refine ak.append 2 (d:=(some 107)) (t:=22) (e:=108) (z:=.agg #[vI 0,vI 0,vI 0,vI 0,vI 0,vI 0,vI 0,.slice none (0) (0),.string ⟨#[]⟩,.slice none (0) (0)]) (size:=10) (bytes:=120) (n:=i) (cap:=cn) (A:=An) (xs:=(dQ K ((bC S).take i))) (s:=(.tmp 104)) (x:=(.tmp 106)) (ats:=#[22,22]) (A':=some ⟨b32,0,none⟩) (m:=1) (c':=1) (news:=[vI ((cY S i)),vI 3,vI ((obj S.O tk).mode),vI ((obj S.O tk).uid),vI ((obj S.O tk).gid),vI ((obj S.O tk).sec),vI ((obj S.O tk).nano),.slice none (0) (0),.string (obj S.O tk).target,.slice none (0) (0)]) (fun _=>by kernel_rfl) rfl (by kernel_rfl) (fun _=>by kernel_rfl) (fun _=>by kernel_rfl) Tryz.underlying22 (by kernel_rfl) rfl (by decide) (rfl) (by simp [Value.oneCell']) (mG (j:=13) rfl) (by unfold maxLen;omega) (by omega) (fun Jk Jl=>?_)
  refine ak.d9 2 (p:=.abs (aJ 108 10 Jk (i+1) Jl ((dQ K ((bC S).take i))++[vI ((cY S i)),vI 3,vI ((obj S.O tk).mode),vI ((obj S.O tk).uid),vI ((obj S.O tk).gid),vI ((obj S.O tk).sec),vI ((obj S.O tk).nano),.slice none (0) (0),.string (obj S.O tk).target,.slice none (0) (0)]))) (p':=.abs (aJ 108 10 Jk (i+1) Jl (dQ (K.put i none 0 none 0) ((bC S).take (i+1))))) (by kernel_rfl) (congrArg (fun x=>HP.abs (aJ 108 10 _ _ _ x)) (wQ (dZ (by omega)) (rB hI.toInv0 hi2 lN hlv) rfl rfl)) ?_
  refine ak.slot 107 (.slice Jk (i+1) (Jl)) (.slice Jk ((i+1)) (Jl)) (fun _=>by kernel_rfl) (rfl) ?_
  refine gC 2 [] [(1,a_ 1 b5)] [(1,[(0,.slice Jk ((i+1)) (Jl))])] ?_
  refine NL (aj.aQ (NX (af.region ?_)))
  refine gK 2 [(21,vI ↑(i+1))] [(0,p_ ⟨[],none,none,none,some (vI ↑(i+1))⟩ [(Value.int .i64 (IntKind.wrap .i64 (((i:Nat):Int)+1)))=(.int .i64 ↑(i+1))] ⟨aY (by omega) (by omega) (by omega),trivial⟩)] ?_
  refine NL (aj.mem (fun w hS=>hS.kI (e:=5) (size:=1)) ?_)
  refine aj.mem (fun w hS=>hS.kI (e:=110) (size:=2)) ?_
  refine aj.mem (fun w hS=>hS.sG (R':=(mo ((bC S).take (i+1)) (K.put i none 0 none 0))) (i:=4) (j:=14) (idx:=[0,1,2,3,5,6,7,8,9,10,11,12,13,15]) rfl rfl (by kernel_rfl) rfl (Bd (dZ (by omega)) (rB hI.toInv0 hi2 lN hlv)) (yH (dZ (by omega)) (rB hI.toInv0 hi2 lN hlv) rfl)) ?_
  refine aj.mem (fun w hS=>hS.sG (R':=(mh ((bC S).take (i+1)) (K.put i none 0 none 0))) (i:=4) (j:=14) (idx:=[0,1,2,3,5,6,7,8,9,10,11,12,13]) rfl rfl (by kernel_rfl) rfl (Be (dZ (by omega)) (rB hI.toInv0 hi2 lN hlv)) ((yI (dZ (by omega)) (rB hI.toInv0 hi2 lN hlv) rfl))) ?_
  exact aj.turn ((i+1),Jk,Jl,(K.put i none 0 none 0)) (idx:=[0,2,3,19,20,21]) (pk:=[3,4,0,1,5,6,7,8,9,10,11,12]) (show (((i+1))<=S.idx.length) from (by omega)) (by show S.idx.length - ((i+1)) < S.idx.length - i;omega) (fun _=>by kernel_rfl) rfl (by kernel_rfl)
 refine af.exit (aj.br (aj.br (aj.dM (NX (SR ?_)))))
 have hie:(bC S).length=i:=by rw [wN];omega
 have hgt:((bC S).take i)=(bC S):=by rw [← hie,List.take_length]
 refine ak.d9 1 (p:=.abs (aJ 108 10 An i cn (dQ K ((bC S).take i)))) (p':=.abs (aJ 108 10 An ((bC S).length) cn (dQ K (bC S)))) (by kernel_rfl) (by rw [hgt,hie]) ?_
 refine ak.d9 2 (p:=.abs (jQ (mh ((bC S).take i) K) i)) (p':=.abs (jQ (mh (bC S) K) ((bC S).length))) (by kernel_rfl) (by rw [hgt,hie]) ?_
 refine ak.d9 3 (p:=.abs (jQ (mo ((bC S).take i) K) i)) (p':=.abs (jQ (mo (bC S) K) ((bC S).length))) (by kernel_rfl) (by rw [hgt,hie]) ?_
 refine gC 2 [] [(0,a_ 0 b5),(1,a_ 5 b4)] [(5,[(0,.slice An (i) (cn))])] ?_
 refine NN (af.ret ?_)
 exact aj.ret (v:=.agg #[.slice An (i) (cn)]) (l:=[pF f m t S.X,pI m L S.idx,pO S.O L,pD S.O L,pE S.O L,.abs (aJ 108 10 An ((bC S).length) cn (dQ K (bC S))),.abs (jQ (mh (bC S) K) ((bC S).length)),.abs (jQ (mo (bC S) K) ((bC S).length))]) (aZ:=[b4=b4]) [.at 5] [6,7,8,9,10,1,2,3,11] (fun _=>by kernel_rfl) ⟨rfl,trivial⟩ rfl (by kernel_rfl) (⟨An,cn,K,by rw [hie],rfl⟩)
end
end Go.Proofs.YtiehgnlnofhbaaaGreatDoor
