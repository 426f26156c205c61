/-
  PROVED HERE: lemmas and contracts of functions (texts of this repo, joined; what the claim does not use is left out): HG, Ac, Row, GO, GEnter, GR, GRead, GP, GRef, GW, GFb, GFc, Cn, GOk, Nw, Il, Rt, Sr, Sd, Dl, Dm, DO, HW, Ib, DR, DT, Dp, DP, Do, Vp, Vu.
  CONDITIONS: as the theorems say.
-/
import Derived.Test.YtnipofpbcggjcaaGreatMHmemory2
import Derived.Lib.Split
import Derived.Test.YtnipofpbcggjcaaGreatRows
import Derived.ProofKit
import Derived.OpenShut
import Derived.Carry
import Derived.Deep.Slices
set_option maxRecDepth 100000
set_option maxHeartbeats 4000000
namespace Go.Proofs.YtnipofpbcggjcaaGreat
section
open Go.RowKit Go.Maps aX aq
theorem vf {ns:List ay} {n:ay} {k:Nat} (h:k < ns.length):nd (ns++[n]) k=nd ns k:=by
  grind [nd]
theorem sO {ns:List ay} {n:ay}:nd (ns++[n]) ns.length=n:=by
  grind [nd]
def Ds:Lay:=⟨fun _=>none,fun _=>none,fun _=>0,fun _=>0⟩
def mH (ns:List ay) (L:Lay) (k:Nat):ct:=av 68 2 (L.eA k) (nd ns k).ah.length (L.eC k) (ju (nd ns k).ah)
def jt (ns:List ay) (L:Lay) (k:Nat):ct:=av 5 1 (L.dA k) (nd ns k).data.length (L.dC k) (cx (nd ns k).data)
def aaK (A:Option Addr) (c:Nat) (ns:List ay) (L:Lay):HP:=.abs (av 66 10 A ns.length c (aR L ns))
def yJ (A:Option Addr) (c:Nat) (ns:List ay) (L:Lay):List HP:=[aaK A c ns L,.abs (eF (mH ns L) ns.length),.abs (eF (jt ns L) ns.length)]
theorem nU.graph {β β':Bs} {A:Option Addr} {c:Nat} {ns:List ay} {L:Lay} (h:nU β (yJ A c ns L) β'):aB β' A ns L:=by
  obtain⟨F,h1,h2⟩:=h.get 0 rfl
  obtain⟨G,g1,g2⟩:=h.get 1 rfl
  obtain⟨K,k1,k2⟩:=h.get 2 rfl
  exact⟨bU.gy h1 h2 rfl,
    eF.base k1 k2 rfl (Φ:=fun i b=>bh b (L.dA i) (nd ns i).data) (fun i _ F hF hO=>bU.gy (show (HP.abs (av 5 1 (L.dA i) (nd ns i).data.length (L.dC i) (cx (nd ns i).data))).h F _ from hF) hO rfl),
    eF.base g1 g2 rfl (Φ:=fun i b=>aZ b (L.eA i) (nd ns i).ah) (fun i _ F hF hO=>bU.gy (show (HP.abs (av 68 2 (L.eA i) (nd ns i).ah.length (L.eC i) (ju (nd ns i).ah))).h F _ from hF) hO rfl)⟩
theorem LJ {L:Lay} {ns:List ay} {n:ay} {dA eA:Option Addr} {dC eC:Nat}:aR L ns++[.int .i64 n.id,.int .i64 n.kind,.int .i64 n.mode,.int .i64 n.uid,.int .i64 n.gid,.int .i64 n.sec,.int .i64 n.nano,.slice dA n.data.length dC,.string n.target,.slice eA n.ah.length eC]=aR (L.put ns.length dA dC eA eC) (ns++[n]):=by
  have h:=D2 (ns:=ns++[n]) (L:=L) (k:=ns.length) (by simp) dA dC eA eC
  grind [sO]
theorem GW {ns:List ay} {L:Lay} {n:ay} {dA eA:Option Addr} {dC eC:Nat}:(∀ x,x < ns.length->jt (ns++[n]) (L.put ns.length dA dC eA eC) x=jt ns L x)/\jt (ns++[n]) (L.put ns.length dA dC eA eC) ns.length=av 5 1 dA n.data.length dC (cx n.data):=by
  grind [jt,Lay.put,vf,sO]
theorem GX {ns:List ay} {L:Lay} {n:ay} {dA eA:Option Addr} {dC eC:Nat}:(∀ x,x < ns.length->mH (ns++[n]) (L.put ns.length dA dC eA eC) x=mH ns L x)/\mH (ns++[n]) (L.put ns.length dA dC eA eC) ns.length=av 68 2 eA n.ah.length eC (ju n.ah):=by
  grind [mH,Lay.put,vf,sO]
def dK (O:bZ) (e:ByteArray×Th):cX:=⟨e.1,(obj O e.2.k).id⟩
def gH (O:bZ) (id:Int) (t:Th):ay:=⟨id,t.kind,(obj O t.k).mode,(obj O t.k).uid,(obj O t.k).gid,(obj O t.k).sec,(obj O t.k).nano,(obj O t.k).data,(obj O t.k).target,(obj O t.k).ah.map (dK O)⟩
def ax (S:aL):List ay:=S.idx.map (fun p=>gH S.O p.1 p.2)
theorem fe {S:aL}:(ax S).length=S.idx.length:=List.length_map ..
def fO (S:aL) (i:Nat):Th:=(S.idx.getD i (0,⟨0,0⟩)).2
def dQ (S:aL) (i:Nat):Int:=(S.idx.getD i (0,⟨0,0⟩)).1
section at_
variable {S:aL} {i:Nat}
theorem tX (hi:i < S.idx.length):S.idx[i]?=some (dQ S i,fO S i):=by
  grind [dQ,fO]
theorem get_at (h:Inv0 S) (hi:i < S.idx.length):aq.get S.idx (dQ S i)=some (fO S i):=kH h.rise (List.mem_of_getElem? (tX hi))
theorem FJ (h:Inv0 S) (hi:i < S.idx.length):Live S.idx (fO S i)/\dQ S i=((fO S i).k:Int):=⟨h.live (get_at h hi),h.key (get_at h hi)⟩
theorem JJ (hi:i < S.idx.length):(keys S.idx)[i]?=some (dQ S i):=by
  grind [keys,tX]
theorem yK (hi:i < S.idx.length):(ax S).take (i+1)=(ax S).take i++[gH S.O (dQ S i) (fO S i)]:=by
  rw [List.take_add_one]
  grind [ax,tX]
theorem eN (hi:i<=S.idx.length):((ax S).take i).length=i:=by rw [List.length_take,fe];omega
end at_
section sat
variable {β:Bs} {l l':List HP} {w:World} {i j k:Nat} {O:bZ} {L:HL} {ix:List Nat}
theorem Sat.XT (h:Sat β l w) (hp:l[i]?=some (.abs (aF (mZ (bX O L) k ct.none)))) (hq:l[j]?=some (.abs (av 5 1 (L.dA k) (obj O k).data.length (L.dC k) (cx (obj O k).data)))) (hd:aP (i::j::ix)=true) (hl:bp l ix=some l') (h2:(obj O k).kind=1):Sat β (.abs (aF (bX O L))::l') w:=
  h.uN hp hq (fun _ _ h=>h) hd hl k (fun _ hx=>(qX hx).symm) (vD h2)
end sat
theorem Et {es:List cX} {e:cX}:ju es++[.string e.name,.int .i64 e.id]=ju (es++[e]):=(yA e es 0).symm
section grow
variable {ns G':List ay} {n:ay} {L:Lay} {i dn en:Nat} {dA eA:Option Addr} {dC eC:Nat}
theorem rK (hl:ns.length=i) (hG:G'=ns++[n]) (hd:n.data.length=dn) (he:n.ah.length=en):aR L ns++[.int .i64 n.id,.int .i64 n.kind,.int .i64 n.mode,.int .i64 n.uid,.int .i64 n.gid,.int .i64 n.sec,.int .i64 n.nano,.slice dA dn dC,.string n.target,.slice eA en eC]=aR (L.put i dA dC eA eC) G':=by
  subst hl hG hd he;exact LJ
theorem yL (hl:ns.length=i) (hG:G'=ns++[n]):∀ x,x < i->jt G' (L.put i dA dC eA eC) x=jt ns L x:=by
  subst hl hG;exact GW.1
theorem wD (hl:ns.length=i) (hG:G'=ns++[n]) (hd:n.data.length=dn):jt G' (L.put i dA dC eA eC) i=av 5 1 dA dn dC (cx n.data):=by
  subst hl hG hd;exact GW.2
theorem yM (hl:ns.length=i) (hG:G'=ns++[n]):∀ x,x < i->mH G' (L.put i dA dC eA eC) x=mH ns L x:=by
  subst hl hG;exact GX.1
theorem wE (hl:ns.length=i) (hG:G'=ns++[n]) (he:n.ah.length=en):mH G' (L.put i dA dC eA eC) i=av 68 2 eA en eC (ju n.ah):=by
  subst hl hG he;exact GX.2
end grow
section more
variable {S:aL} {i j k:Nat}
theorem Z9 (h:Inv0 S) (hi:i < S.idx.length):(∃ k,fO S i=⟨k,1⟩/\Live S.idx ⟨k,1⟩)\/(∃ k,fO S i=⟨k,2⟩/\Live S.idx ⟨k,2⟩)\/∃ k,fO S i=⟨k,3⟩/\Live S.idx ⟨k,3⟩:=by
  have h1:=(FJ h hi).1
  generalize fO S i=t at h1 ⊢
  obtain⟨k,kd⟩:=t
  rcases (h.ob _ h1).2.2 with e|e|e<;>simp only at e<;>subst e
  all_goals grind
theorem FK (h:Inv0 S) (hi:i < S.idx.length):(Lit.int .i64 (dQ S i)).wf=true:=by
  have h1:=h.idx _ _ (get_at h hi)
  have h2:=h.last
  exact WalkArith.wf_i64 (by omega)
theorem Tw (hi:i < S.idx.length):(ints (keys S.idx))[i * 1+0]?=some (.int .i64 (dQ S i)):=by
  grind [ints,JJ]
theorem JK (h:Inv0 S) {t:Th} (hl:Live S.idx t) (hk:t.kind≠3):(obj S.O t.k).target=⟨#[]⟩:=by
  rcases (h.mt t hl).target with e|e
  ·exact e.2
  exact absurd (h.kind hl ▸ e.1) hk
theorem tY (h:Inv0 S) (hi:i < S.idx.length) (mO:fO S i=⟨k,1⟩) (hl:Live S.idx ⟨k,1⟩):(ax S).take (i+1)=(ax S).take i++[⟨dQ S i,1,(obj S.O k).mode,(obj S.O k).uid,(obj S.O k).gid,(obj S.O k).sec,(obj S.O k).nano,(obj S.O k).data,⟨#[]⟩,[]⟩]:=by
  rw [yK hi,mO]
  unfold gH
  rw [show (obj S.O k).target=⟨#[]⟩ from JK h hl (by simp),show (obj S.O k).ah=[] from (h.mt _ hl).ah (by rw [h.kind hl];simp)];rfl
theorem tZ (h:Inv0 S) (hi:i < S.idx.length) (mO:fO S i=⟨k,3⟩) (hl:Live S.idx ⟨k,3⟩):(ax S).take (i+1)=(ax S).take i++[⟨dQ S i,3,(obj S.O k).mode,(obj S.O k).uid,(obj S.O k).gid,(obj S.O k).sec,(obj S.O k).nano,[],(obj S.O k).target,[]⟩]:=by
  rw [yK hi,mO]
  unfold gH
  rw [show (obj S.O k).data=[] from (h.mt _ hl).data (by rw [h.kind hl];simp),show (obj S.O k).ah=[] from (h.mt _ hl).ah (by rw [h.kind hl];simp)];rfl
theorem vK (h:Inv0 S) (hi:i < S.idx.length) (mO:fO S i=⟨k,2⟩) (hl:Live S.idx ⟨k,2⟩):(ax S).take (i+1)=(ax S).take i++[⟨dQ S i,2,(obj S.O k).mode,(obj S.O k).uid,(obj S.O k).gid,(obj S.O k).sec,(obj S.O k).nano,[],⟨#[]⟩,(obj S.O k).ah.map (dK S.O)⟩]:=by
  rw [yK hi,mO]
  unfold gH
  rw [show (obj S.O k).target=⟨#[]⟩ from JK h hl (by simp),show (obj S.O k).data=[] from (h.mt _ hl).data (by rw [h.kind hl];simp)]
def jY (es:fB Th) (j:Nat):ByteArray:=(es.getD j (⟨#[]⟩,⟨0,0⟩)).1
def qh (es:fB Th) (j:Nat):Th:=(es.getD j (⟨#[]⟩,⟨0,0⟩)).2
theorem yN {es:fB Th} (hj:j < es.length):es[j]?=some (jY es j,qh es j):=by
  grind [jY,qh]
theorem N6 {es:fB Th} (hj:j < es.length):(tW es)[j * 1+0]?=some (.string (jY es j)):=by
  grind [tW,yN]
theorem aaL (h:Inv0 S) {t:Th} (hl:Live S.idx t) (hj:j < (obj S.O t.k).ah.length):bQ (jY (obj S.O t.k).ah j)/\((∃ k,aM (jY (obj S.O t.k).ah j) (obj S.O t.k).ah=some ⟨k,1⟩/\Live S.idx ⟨k,1⟩/\qh (obj S.O t.k).ah j=⟨k,1⟩)\/(∃ k,aM (jY (obj S.O t.k).ah j) (obj S.O t.k).ah=some ⟨k,2⟩/\Live S.idx ⟨k,2⟩/\qh (obj S.O t.k).ah j=⟨k,2⟩)\/∃ k,aM (jY (obj S.O t.k).ah j) (obj S.O t.k).ah=some ⟨k,3⟩/\Live S.idx ⟨k,3⟩/\qh (obj S.O t.k).ah j=⟨k,3⟩):=by
  have hm:=List.mem_of_getElem? (yN hj)
  have h1:=h.ah t hl _ hm
  have h2:=vH (h.twice hl) hm
  refine⟨h1.1,?_⟩
  have h3:=h1.2
  generalize qh (obj S.O t.k).ah j=u at h2 h3 ⊢
  obtain⟨k,kd⟩:=u
  rcases (h.ob _ h3).2.2 with e|e|e<;>simp only at e<;>subst e
  all_goals grind
theorem AV {O:bZ} {es:fB Th} {kd:Int} (hj:j < es.length) (he:qh es j=⟨k,kd⟩):ju ((es.take j).map (dK O))++[.string (jY es j),.int .i64 (obj O k).id]=ju ((es.take (j+1)).map (dK O)):=by
  rw [List.take_add_one,yN hj,he,List.map_append]
  exact Et (es:=(es.take j).map (dK O)) (e:=⟨jY es j,(obj O k).id⟩)
end more
theorem nU.bytes {β β':Bs} {A:Option Addr} {n c:Nat} {d:List UInt8} (h:nU β [.abs (av 5 1 A n c (cx d))] β'):bh β' A d:=by
  obtain⟨F,h1,h2⟩:=h.get 0 rfl
  exact bU.gy h1 h2 rfl
end
section
open Go.RowKit Go.Maps aX aq
structure Tx where
  at_:Int
  op:Int
  path:ByteArray
  to:ByteArray
  text:ByteArray
def slash:ByteArray:=⟨#[47]⟩
def ME (s:ByteArray):List ByteArray:=Lib.splitB slash 0 (Lib.countB s slash) s
noncomputable section
def XU (O:bZ):Nat->List ByteArray->Except Int (Nat×ByteArray)
  | _,[]=>.error 170
  | d,[p]=>if (obj O d).gone=true then .error 170 else .ok (d,p)
  | d,p::q::r=>match aM p (obj O d).ah with
    | none=>.error 170
    | some t=>if t.kind=3 then .error 174 else if t.kind=1 then .error 173 else XU O t.k (q::r)
instance (ps:List ByteArray):Decidable (∀ p∈ps,bQ p):=Classical.propDecidable _
def XV (O:bZ) (d:Nat) (path:ByteArray):Except Int (Nat×ByteArray):=if ∀ p∈ME path,bQ p then XU O d (ME path) else .error 95
def XW (S:aL) (d:Nat) (name text:ByteArray):Int×aL:=
  if dO S.X S.O S.idx d name=0 then (0,(fS (fA S d name (cD S.X 1 420)) (aK S.X) text.data.toList).2.2) else (dO S.X S.O S.idx d name,S)
def Ty (S:aL) (d:Nat) (name text:ByteArray):Int×aL:=
  match aM name (obj S.O d).ah with
  | none=>(170,S)
  | some t=>if t.kind=3 then (174,S) else if t.kind=2 then (172,S) else ((fS S t.k text.data.toList).2.1,(fS S t.k text.data.toList).2.2)
def aaM (S:aL) (top:Nat) (a:Tx) (d:Nat) (name:ByteArray):Int×aL:=
  if a.op=1 then XW S d name a.text
  else if a.op=2 then kx S d name 493
  else if a.op=3 then ia S d name a.text
  else if a.op=4 then fH S d name
  else if a.op=5 then fX S d name
  else if a.op=6 then match XV S.O top a.to with
    | .error e=>(e,S)
    | .ok (to,toName)=>bG S d name to toName
  else Ty S d name a.text
def XY (S:aL) (root:Int) (a:Tx):Int×aL:=
  if a.op < 1\/a.op > 7 then (230,S)
  else match aq.get S.idx root with
    | none=>(141,S)
    | some t=>if t.kind=2 then
        match XV S.O t.k a.path with
        | .error e=>(e,S)
        | .ok (d,name)=>aaM S t.k a d name
      else (173,S)
end
section facts
variable {S:aL} {O:bZ} {d d':Nat} {name:ByteArray} {t:Th}
end facts
section err
variable {S:aL} {c:aH} {d to:Nat} {name toName text:ByteArray} {t:Th}
theorem AX (h:(cr S t).2.1≠0):(cr S t).2.2=S:=by
  grind [jE,kV]
theorem N7 {m:Int} (h:(kx S d name m).1≠0):(kx S d name m).2=S:=by
  grind [kx]
theorem JL (h:(ia S d name text).1≠0):(ia S d name text).2=S:=by
  grind [ia]
theorem LK (h:(fH S d name).1≠0):(fH S d name).2=S:=by
  grind [fH]
theorem N8 (h:(fX S d name).1≠0):(fX S d name).2=S:=by
  grind [fX]
theorem LM (h:(bG S d name to toName).1≠0):(bG S d name to toName).2=S:=by
  unfold bG at *
  grind
theorem N9 {k:Nat} {bs:List UInt8} (h:(fS S k bs).2.1≠0):(fS S k bs).2.2=S:=by
  grind [fS]
theorem Qj (h:(jP S d name to toName).1≠0):(jP S d name to toName).2=S:=by
  unfold jP at *
  grind
theorem LO {m:Int} (h:(kG S d name m).2.1≠0):(kG S d name m).2.2=S:=by
  grind [kG]
theorem Wx (h:(eU S c).1≠0):(eU S c).2.1=S:=by
  by_cases hop:1<=c.op/\c.op<=15
  case neg=>rw [Es hop]
  have hop:c.op=1\/c.op=2\/c.op=3\/c.op=4\/c.op=5\/c.op=6\/c.op=7\/c.op=8\/c.op=9\/c.op=10\/c.op=11\/c.op=12\/c.op=13\/c.op=14\/c.op=15:=by omega
  rcases hop with e|e|e|e|e|e|e|e|e|e|e|e|e|e|e
  ·grind [Ca,iq,AX]
  ·grind [Cb,dG,AX]
  ·grind [El,dg,AX]
  ·grind [Cc,eZ,N7]
  ·grind [Em,cM,LO]
  ·grind [En,dZ,JL]
  ·grind [Eo,bT,Qj]
  ·grind [Ep,fI,LK]
  ·grind [Er,dU,N9]
  ·grind [AL,bw]
  ·rw [AO e]
   unfold jS
   split<;>rfl
  all_goals grind [AP,fL,AQ,fY,AR,gD,N8,AU,eO,LM]
theorem Wy (h:(iD S c).2.code≠0):(iD S c).1=S:=Wx h
end err
end
section
open Go.RowKit Go.WideShapes Go.ChangeShapes Go.ChangeAt Go.Deep
theorem laidOut:laidOutB Tryz.prog=true:=by kernel_rfl
theorem own:ownKnob Tryz.prog.godebug=none:=by kernel_rfl
section row
variable {H:Type} {enc:TypeId×Value->H} {P:Program}
theorem zB (hl:laidOutB P=true) {W W':World} (hb:Below W.heap.size W W') {sp:Nat->Bool}:∀ {ts:List TypeId} {vs:List Value} {ds:List (DataW H)} {ps:List MemPlace},
    (∀ t∈ts,P.readableRec t=true/\t < P.types.size)->DataW.TrodAll enc P W 0 (fun _=>true) true ts vs ds ps->(∀ x∈ps,x.block < W.heap.size)->(∀ x∈ps,sp x.block=true)->DataW.TrodAll enc P W' 0 sp true ts vs ds ps
  | [],vs,ds,ps,_,h,_,_=>by
    obtain⟨rfl,rfl,rfl⟩:=trodAll_nil h
    exact trodAll_mk0
  | t::ts,vs,ds,ps,hr,h,hlt,hsp=>by
    obtain⟨v,vs',d,ds',p,q,rfl,rfl,rfl,h1,h2⟩:=trodAll_cons h
    have h3:=hr t List.mem_cons_self
    exact trodAll_cons_mk (WideElems.Trod_stays hl h3.1 h3.2 h1 (fun x hx=>hb.same (hlt x (List.mem_append.2 (.inl hx)))) (fun x hx=>hsp x (List.mem_append.2 (.inl hx))))
      (zB hl hb (fun t ht=>hr t (List.mem_cons_of_mem _ ht)) h2 (fun x hx=>hlt x (List.mem_append.2 (.inr hx))) (fun x hx=>hsp x (List.mem_append.2 (.inr hx))))
def XZ (P:Program) (f:Func):Bool:=f.params.toList.all fun t=>P.readableRec t && decide (t < P.types.size)
theorem law_post (hl:laidOutB P=true) {f:Func} {s:ChangeSpec} {apart fresh handsOn again:Bool} {W W':World} {args:Array Value} {ds gs:List (DataW H)} {before:List MemPlace} {tb:TypeId} {rb:Bool}
    (hW:DataW.Whole enc P f.params.toList s.vars apart W args.toList ds gs before) (hvars:s.vars=[]) (hrow:XZ P f=true) (hres:f.resultTypes=#[tb]) (hb0:P.underlying tb=some .bool)
    (hfn:(s.fn H (ds++gs)).results=[.lit (.bool rb)]) (hargs:(s.fn H (ds++gs)).args=ds) (hv:(s.fn H (ds++gs)).vars=[]) (hb:Below W.heap.size W W') :
    s.post enc P f apart fresh handsOn again W args (.bool rb) W':=by
  have hW':=hW
  obtain⟨p,q,hA,hV,rfl,_,_⟩:=hW
  rw [hvars] at hV
  obtain⟨rfl,rfl⟩:=trodVars_none hV
  have hlt:∀ x∈p,x.block < W.heap.size:=fun x hx=>hW'.lt x (List.mem_append.2 (.inl hx))
  have hr:∀ t∈f.params.toList,P.readableRec t=true/\t < P.types.size:=fun t ht=>by
    grind [XZ]
  refine H7 (pa:=p) (pv:=[]) hW' (fun b sp hd=>?_) (fun sp hsp=>?_) (fun sp _=>?_) (by simp) hb ?_
  ·rw [hfn,hres]
   exact trodAll_cons_mk (shut_bool hb0 _) trodAll_mk0
  ·grind [zB]
  ·rw [hvars,hv]
   exact rfl
  exact ok_one hres rfl (okWide_bool_mk hb0 _)
end row
end
section
open Go.RowKit Go.WideShapes Go.ChangeShapes Go.ChangeAt Go.Deep
abbrev B0 (W:World):Bs:=⟨(· < W.heap.size),W⟩
theorem Wz {w:World} {a:Addr} {v:Value} (h:w.cell? a=some v):a.block < w.heap.size:=by
  unfold World.cell? at h
  grind
theorem Qk {w:World} {a:Addr} {v:Value} (h:w.cell? a=some v):a.spot=none:=by
  unfold World.cell? at h
  split at h
  ·split at h
   ·cases h
   rename_i h0
   cases hs:a.spot with
   | none=>rfl
   | some x=>rw [hs] at h0;exact absurd rfl h0
  cases h
theorem add_plain {a:Addr} (k:Nat) (h:a.spot=none):a.add k=⟨a.block,a.off+k,none⟩:=by
  obtain⟨b,o,s⟩:=a
  cases h
  unfold Addr.add
  split
  ·rename_i h0;subst h0;rfl
  rfl
theorem Dt {H:Type} {D:Nat->DataW H} {n i:Nat} (hi:i < n):Rows.uptoBulk (D i)<=Rows.uptoBulkAll ((List.range n).map D):=by
  have hm:D i∈(List.range n).map D:=by grind
  generalize (List.range n).map D=l at hm
  induction l with
  | nil=>cases hm
  | cons x r ih=>
    simp only [Rows.uptoBulkAll]
    grind
theorem Tz {H:Type} (d:DataW H):1<=Rows.uptoBulk d:=by
  cases d with
  | lit l=>cases l<;>simp [Rows.uptoBulk]
  | nil=>simp [Rows.uptoBulk]
  | ptr d=>simp [Rows.uptoBulk]
  | slice elems spare=>simp [Rows.uptoBulk]
  | agg parts=>simp [Rows.uptoBulk]
  | iface t d=>simp [Rows.uptoBulk]
  | map entries=>simp [Rows.uptoBulk]
  | held h=>simp [Rows.uptoBulk]
theorem yO {H:Type} (l:List (DataW H)):l.length<=Rows.uptoBulkAll l:=by
  induction l with
  | nil=>simp [Rows.uptoBulkAll]
  | cons x r ih=>have:=Tz x;simp only [Rows.uptoBulkAll,List.length_cons];omega
theorem bulk_mem {H:Type} {d:DataW H} {l:List (DataW H)} (h:d∈l):Rows.uptoBulk d<=Rows.uptoBulkAll l:=by
  induction l with
  | nil=>cases h
  | cons x r ih=>
    simp only [Rows.uptoBulkAll]
    grind
section open_
variable {H:Type} {enc:TypeId×Value->H} {P:Program} {W:World} {sp:Nat->Bool}
theorem vL {α:Type} [Inhabited α] {t e:TypeId} {size:Nat} {f:α->List Value} {Q:α->DataW H->Prop} (ht:P.underlying t=some (.slice e)) (hC:P.cellsOf e=size) (h0:0 < size)
    (hel:∀ n cs x,DataW.trod enc P W 0 sp true n e cs=some x->∃ a,cs=f a/\Q a x.1) (hf:∀ a,(f a).length=size)
    {fuel:Nat} {cs:List Value} {x:DataW H×List MemPlace} (h:DataW.trod enc P W 0 sp true fuel t cs=some x) :
    ∃ A c,∃ xs:List α,∃ D:Nat->DataW H,cs=[.slice A xs.length c]/\xs.length<=c/\c<=maxLen/\bU (B0 W) A (eY (fun _ a=>f a) 0 xs)/\(∀ i,i < xs.length->Q (xs.getD i default) (D i)) ∧
      Rows.uptoBulkAll ((List.range xs.length).map D)+1<=Rows.uptoBulk x.1:=by
  rcases open_slice ht h with ⟨hv,hx⟩|⟨a,len,cap,m,n,D,Pl,hcs,hb,hl,hm,hmm,hx,hi⟩
  ·subst hv
   refine⟨none,0,[],fun _=>.nil,rfl,Nat.le_refl _,Nat.zero_le _,fun j v hj=>by simp [eY] at hj,fun i hi=>absurd hi (Nat.not_lt_zero i),?_⟩
   rw [hx]
   simp [Rows.uptoBulk,Rows.uptoBulkAll]
  have hlm:len<=m:=by rw [hmm];split<;>omega
  have hch:∀ i,∃ b:α,i < len->(W.cells? 0 (a.add (i * P.cellsOf e)) (P.cellsOf e)=some (f b)/\Q b (D i)):=fun i=>by
    by_cases hil:i < len
    ·obtain⟨cs',h1,h2⟩:=hi i (by omega)
     grind
    exact⟨default,fun h=>absurd h hil⟩
  have hg:=fun i=>Classical.choose_spec (hch i)
  generalize hG:(fun i=>Classical.choose (hch i))=g at hg
  have hg:∀ i,i < len->W.cells? 0 (a.add (i * P.cellsOf e)) (P.cellsOf e)=some (f (g i))/\Q (g i) (D i):=fun i hi=>by
    grind
  have hlen:((List.range len).map g).length=len:=by simp
  have hget:∀ i,i < len->((List.range len).map g)[i]?=some (g i):=fun i hi=>by simp [hi]
  have abO:∀ i,i < len->((List.range len).map g).getD i default=g i:=by grind
  have hs1:0 < len->a.spot=none:=fun hl0=>by
    obtain⟨h2,-⟩:=hg 0 hl0
    rw [hC] at h2
    obtain⟨_,hcl,hat⟩:=World.cells?_some h2
    have h3:=hat 0 h0
    rw [List.getElem?_eq_getElem (by rw [hcl];exact h0)] at h3
    have e:(a.add (0 * size)).add 0=a:=by rw [Nat.zero_mul];rfl
    rw [e] at h3
    exact Qk h3
  refine⟨some a,cap,(List.range len).map g,D,by rw [hlen];exact hcs,by rw [hlen];exact hl,hm,fun j v hj=>?_,fun i hi'=>?_,?_⟩
  ·have hfl:=wu (f:=fun _ a=>f a) (s:=size) (fun _ a=>hf a) ((List.range len).map g) 0
   have hjl:=bN hj
   rw [hfl,hlen] at hjl
   have r8:j / size < len:=(Nat.div_lt_iff_lt_mul h0).2 hjl
   have hj2:j % size < size:=Nat.mod_lt _ h0
   have e:=Nat.div_add_mod j size
   rw [Nat.mul_comm] at e
   have h1:=qR (f:=fun _ a=>f a) (s:=size) (fun _ a=>hf a) _ 0 _ (j % size) _ (hget _ r8) hj2
   rw [e,hj] at h1
   obtain⟨h2,-⟩:=hg _ r8
   rw [hC] at h2
   obtain⟨_,_,hat⟩:=World.cells?_some h2
   have h3:=hat _ hj2
   rw [← h1] at h3
   have hs1:=hs1 (Nat.lt_of_le_of_lt (Nat.zero_le _) r8)
   rw [add_plain _ hs1] at h3
   rw [add_plain (a:=⟨a.block,a.off+j / size * size,none⟩) _ rfl] at h3
   have e2:a.off+j / size * size+j % size=a.off+j:=by omega
   have h4:W.cell? ⟨a.block,a.off+j,none⟩=some v:=by rw [← e2];exact h3
   have ea:(some a:Option Addr)=some ⟨aJ (some a),aI (some a),none⟩:=by
     obtain⟨b,o,s⟩:=a
     cases hs1
     rfl
   exact⟨ea,Wz h4,h4⟩
  ·grind
  rw [hx,hlen]
  simp only [Rows.uptoBulk]
  omega
theorem MF {t:TypeId} {n:Nat} {cs:List Value} {x:DataW H×List MemPlace} (ht:P.underlying t=some (.int .u8)) (h:DataW.trod enc P W 0 sp true n t cs=some x):∃ b:UInt8,cs=[yx b]/\True:=by
  obtain⟨z,h1,_,h3⟩:=DataW.trod_int ht h
  have h4:0<=z/\z<=255:=by simpa [Lit.wf,IntKind.min,IntKind.max,IntKind.signed,IntKind.bits] using h3
  refine⟨UInt8.ofNat z.toNat,?_,trivial⟩
  have e:(((UInt8.ofNat z.toNat).toNat:Nat):Int)=z:=by
    rw [UInt8.toNat_ofNat']
    omega
  rw [yx,e]
  exact h1
def uE (z:Int):Prop:=-9223372036854775808<=z/\z<=9223372036854775807
theorem jZ {t:TypeId} {n:Nat} {c:Value} {x:DataW H×List MemPlace} (ht:P.underlying t=some (.int .i64)) (h:DataW.trod enc P W 0 sp true n t [c]=some x):∃ z,c=.int .i64 z/\uE z:=by
  obtain⟨z,h1,_,h3⟩:=DataW.trod_int ht h
  cases h1
  exact⟨z,rfl,by unfold uE;simpa [Lit.wf,IntKind.min,IntKind.max,IntKind.signed,IntKind.bits] using h3⟩
theorem qK {t:TypeId} {n:Nat} {c:Value} {x:DataW H×List MemPlace} (ht:P.underlying t=some .string) (h:DataW.trod enc P W 0 sp true n t [c]=some x):∃ s:ByteArray,c=.string s/\s.size+1<=Rows.uptoBulk x.1:=by
  obtain⟨s,h1,h2,_⟩:=DataW.trod_string ht h
  cases h1
  refine⟨s,rfl,?_⟩
  rw [h2]
  simp only [Rows.uptoBulk,Array.length_toList]
  exact Nat.le_refl _
end open_
section graph
variable {H:Type} {enc:TypeId×Value->H} {W:World} {sp:Nat->Bool}
theorem Eu:∀ (d:List UInt8) (k:Nat),eY (fun _ b=>[yx b]) k d=cx d
  | [],_=>rfl
  | b::r,k=>by rw [eY,Eu r (k+1)];rfl
theorem Ev {n:Nat} {c:Value} {x:DataW H×List MemPlace} (h:DataW.trod enc Tryz.prog W 0 sp true n 51 [c]=some x) :
    ∃ A cp,∃ d:List UInt8,c=.slice A d.length cp/\bh (B0 W) A d/\d.length+1<=Rows.uptoBulk x.1:=by
  obtain⟨A,cp,xs,D,h1,_,_,h2,_,h3⟩:=vL (α:=UInt8) (f:=fun b=>[yx b]) (Q:=fun _ _=>True) Tryz.underlying51 (size:=1) (by kernel_rfl) (by decide) (fun n cs x h=>MF Tryz.underlying5 h) (fun _=>rfl) h
  cases h1
  have:=yO ((List.range xs.length).map D)
  refine⟨A,cp,xs,rfl,?_,by simp at this;omega⟩
  rw [Eu] at h2
  exact h2
structure Oa (e:cX) (b:Nat):Prop where
  id:uE e.id
  name:e.name.size+1<=b
theorem bg {n:Nat} {cs:List Value} {xs:List (DataW H×List MemPlace)} {i:Nat} {t:TypeId} (h:DataW.trod enc Tryz.prog W 0 sp true n t cs=xs[i]?) (hi:i < xs.length):DataW.trod enc Tryz.prog W 0 sp true n t cs=some xs[i]/\Rows.uptoBulk (xs[i]).1<=Rows.uptoBulk (.agg (xs.map (·.1))):=by
  refine⟨h.trans (List.getElem?_eq_getElem hi),?_⟩
  have hm:(xs[i]).1∈xs.map (·.1):=by grind
  have:=bulk_mem hm
  simp only [Rows.uptoBulk]
  omega
theorem TA {n:Nat} {cs:List Value} {x:DataW H×List MemPlace} (h:DataW.trod enc Tryz.prog W 0 sp true n 68 cs=some x):∃ e:cX,cs=C3 e/\Oa e (Rows.uptoBulk x.1):=by
  obtain⟨ys,m,_,hx,hl,qt,hf⟩:=DataW.trod_struct Tryz.underlying68 h
  have hC:Tryz.prog.cellsOf 68=2:=by kernel_rfl
  rw [hC] at hl
  match cs,hl with
  | [c0,c1],_=>
    obtain⟨h0,b0⟩:=bg (hf 0 _ rfl) (by rw [qt];decide)
    obtain⟨h1,_⟩:=bg (hf 1 _ rfl) (by rw [qt];decide)
    obtain⟨s,rfl,hs⟩:=qK Tryz.underlying9 h0
    obtain⟨z,rfl,hz⟩:=jZ Tryz.underlying3 h1
    exact⟨⟨s,z⟩,rfl,⟨hz,by rw [hx];exact Nat.le_trans hs b0⟩⟩
theorem Ql {n:Nat} {c:Value} {x:DataW H×List MemPlace} (h:DataW.trod enc Tryz.prog W 0 sp true n 64 [c]=some x) :
    ∃ A cp,∃ es:List cX,c=.slice A es.length cp/\aZ (B0 W) A es/\es.length+1<=Rows.uptoBulk x.1/\∀ i,i < es.length->Oa (en es i) (Rows.uptoBulk x.1):=by
  obtain⟨A,cp,xs,D,h1,_,_,h2,h4,h3⟩:=vL (α:=cX) (f:=C3) (Q:=fun e d=>Oa e (Rows.uptoBulk d)) Tryz.underlying64 (size:=2) (by kernel_rfl) (by decide) (fun n cs x h=>TA h) (fun _=>rfl) h
  cases h1
  have h5:=yO ((List.range xs.length).map D)
  refine⟨A,cp,xs,rfl,h2,by simp at h5;omega,fun i hi=>⟨(h4 i hi).id,?_⟩⟩
  have h6:=(h4 i hi).name
  have h7:=Dt (D:=D) hi
  unfold en
  omega
structure Vf (nd:ay) (b:Nat):Prop where
  ids:uE nd.id/\uE nd.kind/\uE nd.mode/\uE nd.uid/\uE nd.gid/\uE nd.sec/\uE nd.nano
  data:nd.data.length+1<=b
  target:nd.target.size+1<=b
  ah:nd.ah.length+1<=b
  ent:∀ i,i < nd.ah.length->Oa (en nd.ah i) b
structure Ew where
  n:ay
  dA:Option Addr
  dC:Nat
  eA:Option Addr
  eC:Nat
deriving Inhabited
def X1 (a:Ew):List Value:=[.int .i64 a.n.id,.int .i64 a.n.kind,.int .i64 a.n.mode,.int .i64 a.n.uid,.int .i64 a.n.gid,.int .i64 a.n.sec,.int .i64 a.n.nano,.slice a.dA a.n.data.length a.dC,.string a.n.target,.slice a.eA a.n.ah.length a.eC]
structure Vg (W:World) (a:Ew) (b:Nat):Prop where
  nb:Vf a.n b
  data:bh (B0 W) a.dA a.n.data
  ah:aZ (B0 W) a.eA a.n.ah
theorem Qm {n:Nat} {cs:List Value} {x:DataW H×List MemPlace} (h:DataW.trod enc Tryz.prog W 0 sp true n 66 cs=some x):∃ a:Ew,cs=X1 a/\Vg W a (Rows.uptoBulk x.1):=by
  obtain⟨ys,m,_,hx,hl,qt,hf⟩:=DataW.trod_struct Tryz.underlying66 h
  have hC:Tryz.prog.cellsOf 66=10:=by kernel_rfl
  rw [hC] at hl
  match cs,hl with
  | [c0,c1,c2,c3,c4,c5,c6,c7,c8,c9],_=>
    obtain⟨h0,_⟩:=bg (hf 0 _ rfl) (by rw [qt];decide)
    obtain⟨h1,_⟩:=bg (hf 1 _ rfl) (by rw [qt];decide)
    obtain⟨h2,_⟩:=bg (hf 2 _ rfl) (by rw [qt];decide)
    obtain⟨h3,_⟩:=bg (hf 3 _ rfl) (by rw [qt];decide)
    obtain⟨h4,_⟩:=bg (hf 4 _ rfl) (by rw [qt];decide)
    obtain⟨h5,_⟩:=bg (hf 5 _ rfl) (by rw [qt];decide)
    obtain⟨h6,b6⟩:=bg (hf 6 _ rfl) (by rw [qt];decide)
    obtain⟨h7,b7⟩:=bg (hf 7 _ rfl) (by rw [qt];decide)
    obtain⟨h8,b8⟩:=bg (hf 8 _ rfl) (by rw [qt];decide)
    obtain⟨z0,rfl,w0⟩:=jZ Tryz.underlying3 h0
    obtain⟨z1,rfl,w1⟩:=jZ Tryz.underlying3 h1
    obtain⟨z2,rfl,w2⟩:=jZ Tryz.underlying3 h2
    obtain⟨z3,rfl,w3⟩:=jZ Tryz.underlying3 h3
    obtain⟨z4,rfl,w4⟩:=jZ Tryz.underlying3 h4
    obtain⟨us,_,_,_,_,si,hu⟩:=DataW.trod_struct Tryz.underlying26 h5
    obtain⟨g0,_⟩:=bg (hu 0 _ rfl) (by rw [si];decide)
    obtain⟨g1,_⟩:=bg (hu 1 _ rfl) (by rw [si];decide)
    obtain⟨z5,rfl,w5⟩:=jZ (c:=c5) Tryz.underlying3 g0
    obtain⟨z6,rfl,w6⟩:=jZ (c:=c6) Tryz.underlying3 g1
    obtain⟨A7,p7,d7,rfl,q7,l7⟩:=Ev (c:=c7) h6
    obtain⟨s8,rfl,l8⟩:=qK (c:=c8) Tryz.underlying9 h7
    obtain⟨A9,p9,e9,rfl,q9,l9,k9⟩:=Ql (c:=c9) h8
    rw [hx]
    exact⟨⟨⟨z0,z1,z2,z3,z4,z5,z6,d7,s8,e9⟩,A7,p7,A9,p9⟩,rfl,⟨⟨w0,w1,w2,w3,w4,w5,w6⟩,Nat.le_trans l7 b6,Nat.le_trans l8 b7,Nat.le_trans l9 b8,fun i hi=>⟨(k9 i hi).id,Nat.le_trans (k9 i hi).name b8⟩⟩,q7,q9⟩
structure lu (ns:List ay) (b:Nat):Prop where
  len:ns.length+1<=b
  node:∀ i,i < ns.length->Vf (nd ns i) b
theorem Ey (L:Lay):∀ (xs:List Ew) (k:Nat),(∀ i,i < xs.length->L.dA (k+i)=(xs.getD i default).dA/\L.dC (k+i)=(xs.getD i default).dC/\L.eA (k+i)=(xs.getD i default).eA/\L.eC (k+i)=(xs.getD i default).eC)->eY (fun _ a=>X1 a) k xs=eY (eP L) k (xs.map (·.n))
  | [],_,_=>rfl
  | a::r,k,h=>by
    obtain⟨h1,h2,h3,h4⟩:=h 0 (by simp)
    simp only [Nat.add_zero,List.getD_cons_zero] at h1 h2 h3 h4
    rw [eY,List.map_cons,eY,Ey L r (k+1) (fun i hi=>by
      have:=h (i+1) (by simp;omega)
      rw [List.getD_cons_succ] at this
      have e:k+(i+1)=k+1+i:=by omega
      rw [e] at this
      exact this)]
    rw [eP,h1,h2,h3,h4]
    rfl
theorem Ob {n:Nat} {c:Value} {x:DataW H×List MemPlace} (h:DataW.trod enc Tryz.prog W 0 sp true n 22 [c]=some x) :
    ∃ A cp,∃ ns:List ay,∃ L:Lay,c=.slice A ns.length cp/\aB (B0 W) A ns L/\lu ns (Rows.uptoBulk x.1):=by
  obtain⟨A,cp,xs,D,h1,_,_,h2,h4,h3⟩:=vL (α:=Ew) (f:=X1) (Q:=fun a d=>Vg W a (Rows.uptoBulk d)) Tryz.underlying22 (size:=10) (by kernel_rfl) (by decide) (fun n cs x h=>Qm h) (fun _=>rfl) h
  cases h1
  have h5:=yO ((List.range xs.length).map D)
  have e:(xs.map (·.n)).length=xs.length:=by simp
  have hnd:∀ i,i < xs.length->nd (xs.map (·.n)) i=(xs.getD i default).n:=fun i hi=>by
    simp [nd,List.getD_eq_getElem?_getD,hi]
  refine⟨A,cp,xs.map (·.n),⟨fun i=>(xs.getD i default).dA,fun i=>(xs.getD i default).eA,fun i=>(xs.getD i default).dC,fun i=>(xs.getD i default).eC⟩,by rw [e],⟨?_,fun i hi=>?_,fun i hi=>?_⟩,by simp at h5;rw [e];omega,fun i hi=>?_⟩
  ·rw [Ey ⟨fun i=>(xs.getD i default).dA,fun i=>(xs.getD i default).eA,fun i=>(xs.getD i default).dC,fun i=>(xs.getD i default).eC⟩ xs 0 (fun i _=>by rw [Nat.zero_add];exact⟨rfl,rfl,rfl,rfl⟩)] at h2
   exact h2
  ·rw [e] at hi
   rw [hnd i hi]
   exact (h4 i hi).data
  ·rw [e] at hi
   rw [hnd i hi]
   exact (h4 i hi).ah
  rw [e] at hi
  rw [hnd i hi]
  have h7:=Dt (D:=D) hi
  have h8:=(h4 i hi).nb
  exact⟨h8.ids,by have:=h8.data;omega,by have:=h8.target;omega,by have:=h8.ah;omega,fun j hj=>⟨(h8.ent j hj).id,by have:=(h8.ent j hj).name;omega⟩⟩
end graph
end
section
open Go.RowKit
attribute [local irreducible] ak aV af ai iz
theorem TB {β:Bs} (A:Option Addr) (ns:List ay) (L:Lay) (hG:aB β A ns L) (hr:bH ns) (i:Nat) (hi:i < ns.length) (hel:(nd ns i).ah.length<=1048576) (hwf:∀ j,j < (nd ns i).ah.length->-9223372036854775808<=(ent ns i j).id/\(ent ns i j).id<=9223372036854775807) (hnm:∀ j,j < (nd ns i).ah.length->(ent ns i j).name.size<=1048576)
    (mb mp:Nat) (ps:List (Nat×Nat)) (hpl:ps.length<=16777216) (hps:∀ p,p∈ps->p.1 < ns.length) (hnp:(ps.map Prod.fst).Nodup) :
    Spec Tryz.prog β 105 #[.pointer (some ⟨(aJ A),aI A+i * 10,none⟩),.map (some mb),.map (some mp)] [.abs (bq Tryz.prog 3 mb (mf (bf A ns ns.length)) ns.length),.abs (bq Tryz.prog 3 mp (mf (pf ((ps).map (iN ns)))) ((ps).length))] (fun v l=>(v=.bool true/\yC ns i ps/\l=[.abs (bq Tryz.prog 3 mb (mf (bf A ns ns.length)) ns.length),.abs (bq Tryz.prog 3 mp (mf (pf ((eu ns i (nd ns i).ah.length++ps).map (iN ns)))) ((eu ns i (nd ns i).ah.length++ps).length))])\/(v=.bool false/\¬ yC ns i ps/\l=[])):=by
 refine SE Tryz.func105 Tryz.ntmps105 (fun R=>?_)
 refine SR (jK 1 [] [] ?_)
 refine NS (jK 1 [7] [] ?_)
 refine NN (af.seq (SR (jK 6 [16,17,18] [(3,r_ (aB.rd hG (i:=i) (by omega) (j:=9) rfl))] ?_)))
 refine NN (af.block ?_)
 refine lJ (fun (j:Nat)=>(j<=(nd ns i).ah.length)/\(∀ t,t < j->tE ns i t)/\(((eu ns i j++ps).map Prod.fst).Nodup)) (fun (j:Nat)=>(nd ns i).ah.length - j) (fun (j:Nat)=>[(0,.pointer (some ⟨(aJ A),aI A+i * 10,none⟩)),(1,.map (some mb)),(2,.map (some mp)),(7,.string (oY ns i j)),(16,.slice (L.eA i) ((nd ns i).ah.length) ((L.eC i))),(17,vI ↑((nd ns i).ah.length)),(18,vI ↑j)]) (fun (j:Nat)=>[.abs (bq Tryz.prog 3 mb (mf (bf A ns ns.length)) ns.length),.abs (bq Tryz.prog 3 mp (mf (pf ((eu ns i j++ps).map (iN ns)))) ((eu ns i j++ps).length)),.abs R]) 0 [0,1,2] (⟨Nat.zero_le _,fun t ht=>absurd ht (Nat.not_lt_zero t),hnp⟩) ?_
 rintro j ⟨hj,hok,hnd⟩
 refine SR (jK 1 [19] [] ?_)
 refine NN (af.seq (cP ((((j:Nat):Int):Int) < ((((nd ns i).ah.length:Nat):Int):Int)) (fun GK=>?_) (fun GK=>?_)))
 ·refine af.skip (NX (af.seq (af.block (SR ?_))))
  refine jN 4 [9] (fun b1=>[(0,x_ j ((nd ns i).ah.length) (aZ.hd (hG.ah i (by omega)) (i:=j) (by omega))),(1,p_ ⟨[.old (.string (en (nd ns i).ah j).name),.old (.int .i64 ((en (nd ns i).ah j).id))],none,none,none,none⟩ [(Rd β ⟨(aJ (L.eA i)),aI (L.eA i)+j * 2+1,none⟩ (.int .i64 ((en (nd ns i).ah j).id))),(Rd β ⟨(aJ (L.eA i)),aI (L.eA i)+j * 2,none⟩ (.string (en (nd ns i).ah j).name))] ⟨aZ.rd (hG.ah i (by omega)) (i:=j) (by omega) (j:=1) rfl,aZ.rd (hG.ah i (by omega)) (i:=j) (by omega) (j:=0) rfl,trivial⟩),(3,A_ 3 b1 2)]) (fun _=>[]) (fun b1=>.blk b1 [.string (en (nd ns i).ah j).name,vI ((en (nd ns i).ah j).id)] 68) (fun b1=>?_)
  refine NS (jK 3 [22,24] [(2,a_ 3 b1)] ?_)
  by_cases hat:0<=fP ns (en (nd ns i).ah j).id
  ·have htl:=kr hat
   refine ak.iY 0 (d:=(some 25)) (t:=135) (K:=3) (E:=169) (b:=mb) (n:=ns.length) (f:=(mf (bf A ns ns.length))) (x:=(.tmp 22)) (ix:=(.tmp 24)) (key:=.int .i64 ((en (nd ns i).ah j).id)) (z:=.pointer none) (kl:=(.int .i64 (en (nd ns i).ah j).id)) (r:=(some (.pointer (some ⟨(aJ A),aI A+(tgt ns (en (nd ns i).ah j).id) * 10,none⟩)))) (fun _=>by kernel_rfl) (by kernel_rfl) (fun _=>by kernel_rfl) (fun _=>by kernel_rfl) gU Tryz.underlying135 (fun _=>by kernel_rfl) (sD (hwf j (by omega)).1 (hwf j (by omega)).2) (ZU hat htl.1) ?_
   refine jK 1 [10] [] ?_
   refine NN (af.seq (SR (jK 5 [28,30] [(4,a_ 3 b1)] ?_)))
   refine gL [] (Ab (en (nd ns i).ah j).name (hnm j (by omega))) ?_
   rintro _ _ ⟨rfl,rfl⟩
   refine jK 3 [34] [] ?_
   refine sN 34 (bQ (en (nd ns i).ah j).name) (fun vM=>?_) (fun vM=>?_)
   ·refine jK 5 [39] [] ?_
    refine NN (CT (SR (jK 1 [6] [] ?_)))
    refine NN (af.ret (ai.aj (ai.au (ai.aj (ai.aj (ai.au (ai.aj ?_)))))))
    exact RT _ [2] (.inr ⟨rfl,fun h=>vM (h.ah j (by omega)).good,rfl⟩)
   refine jK 5 [39] [(1,a_ 3 b1),(3,p_ ⟨[],none,none,none,some (.bool (decide (eG ((en (nd ns i).ah j).name) (oY ns i j))))⟩ [(Value.bool (Op.bytesLess (((en (nd ns i).ah j).name):ByteArray).toList (((oY ns i j)):ByteArray).toList || (((en (nd ns i).ah j).name):ByteArray).toList == (((oY ns i j)):ByteArray).toList))=(.bool (decide (eG ((en (nd ns i).ah j).name) (oY ns i j))))] ⟨Jg _ _,trivial⟩)] ?_
   refine NN (cP (eG ((en (nd ns i).ah j).name) (oY ns i j)) (fun qU=>?_) (fun qU=>?_))
   ·refine SR (jK 1 [6] [] ?_)
    refine NN (af.ret (ai.aj (ai.au (ai.aj (ai.aj (ai.au (ai.aj ?_)))))))
    exact RT _ [2] (.inr ⟨rfl,fun h=>(h.ah j (by omega)).ord qU,rfl⟩)
   refine af.skip (NX (SR (jK 3 [7] [(1,a_ 3 b1)] ?_)))
   refine NN (af.seq (SR (jK 5 [46] [(3,r_ (aB.rd hG (i:=(tgt ns (en (nd ns i).ah j).id)) (by omega) (j:=1) rfl))] ?_)))
   refine NN (cN (((nd ns (tgt ns (en (nd ns i).ah j).id)).kind:Int)=(2:Int)) (fun h46=>?_) (fun h46=>?_))
   ·refine af.exit (ai.aC (ai.aU (NX (af.region ?_))))
    refine ak.bO 1 (p':=.abs (bq Tryz.prog 3 mp (mf (pf ((eu ns i (j+1)++ps).map (iN ns)))) ((eu ns i (j+1)++ps).length))) rfl (by rw [nM h46]) ?_
    refine jK 2 [18] [(0,wJ ((j:Int)+1) (↑(j+1)))] ?_
    refine NL ?_
    exact tJ ((j+1)) [0,1,2] (⟨by omega,fun t ht=>(by rcases Nat.lt_succ_iff_lt_or_eq.1 ht with h|h;exact hok t h;subst h;exact⟨hat,vM,qU⟩),(by rw [nM h46];exact hnd)⟩)
   refine af.skip (NX (af.seq (SR (jK 3 [48,50] [(2,a_ 3 b1)] ?_))))
   rcases hup:up ((eu ns i j++ps).map (iN ns)) (en (nd ns i).ah j).id with _|y
   ·refine ak.wo 1 (d:=(some 51)) (t:=171) (K:=3) (E:=3) (b:=mp) (n:=(eu ns i j++ps).length) (f:=(mf (pf ((eu ns i j++ps).map (iN ns))))) (x:=(.tmp 48)) (ix:=(.tmp 50)) (key:=.int .i64 ((en (nd ns i).ah j).id)) (z:=.int .i64 0) (kl:=(.int .i64 (en (nd ns i).ah j).id)) (r:=none) (fun _=>by kernel_rfl) (by kernel_rfl) (fun _=>by kernel_rfl) (fun _=>by kernel_rfl) gU Tryz.underlying171 (fun _=>by kernel_rfl) (sD (hwf j (by omega)).1 (hwf j (by omega)).2) (yB hup) ?_
    refine jK 5 [12] [] ?_
    refine NS (jK 1 [54] [] ?_)
    refine NN (CF (af.skip (NX (af.tC 7 (by kernel_rfl) (by kernel_rfl) ?_))))
    refine iz.seg (k':=7) (fr':=[(0,.pointer (some ⟨(aJ A),aI A+i * 10,none⟩)),(1,.map (some mb)),(2,.map (some mp)),(7,.string (en (nd ns i).ah j).name),(16,.slice (L.eA i) ((nd ns i).ah.length) ((L.eC i))),(17,vI ↑((nd ns i).ah.length)),(18,vI ↑j),(55,.map (some mp)),(57,vI ((en (nd ns i).ah j).id)),(61,vI ((nd ns i).id))]) (cC:=[(Rd β ⟨(aJ A),aI A+i * 10,none⟩ (.int .i64 ((nd ns i).id))),b1=b1]) [o_,o_,⟨[.at 3],none,none,none,none⟩,o_,o_,o_,⟨[.old (.int .i64 ((nd ns i).id))],none,none,none,none⟩] [0,1,2,7,16,17,18,55,57,61] (fun _ _=>by kernel_rfl) ⟨aB.rd hG (i:=i) (by omega) (j:=0) rfl,rfl,trivial⟩ (by decide) ?_
    refine iz.done rfl ?_
    refine ak.oO 1 (d:=none) (t:=171) (K:=3) (E:=3) (b:=mp) (n:=(eu ns i j++ps).length) (f:=(mf (pf ((eu ns i j++ps).map (iN ns))))) (x:=(.tmp 55)) (ix:=(.tmp 57)) (y:=(.tmp 61)) (key:=.int .i64 ((en (nd ns i).ah j).id)) (u:=.int .i64 ((nd ns i).id)) (kl:=(.int .i64 (en (nd ns i).ah j).id)) (n':=(eu ns i (j+1)++ps).length) (f':=(mf (pf ((eu ns i (j+1)++ps).map (iN ns))))) (fun _=>by kernel_rfl) (by kernel_rfl) (fun _=>by kernel_rfl) (fun _=>by kernel_rfl) (fun _=>by kernel_rfl) gU Tryz.underlying171 (by have:=Jh ns i j;rw [List.length_append];unfold maxLen;omega) (sD (hwf j (by omega)).1 (hwf j (by omega)).2) (SM (yB hup) h46) (SL hat h46) ?_
    refine NL (ai.aA (NX (af.region ?_)))
    refine jK 2 [18] [(0,wJ ((j:Int)+1) (↑(j+1)))] ?_
    refine NL ?_
    exact tJ ((j+1)) [0,1,2] (⟨by omega,fun t ht=>(by rcases Nat.lt_succ_iff_lt_or_eq.1 ht with h|h;exact hok t h;subst h;exact⟨hat,vM,qU⟩),(Nx hat h46 hup hnd)⟩)
   refine ak.wo 1 (d:=(some 51)) (t:=171) (K:=3) (E:=3) (b:=mp) (n:=(eu ns i j++ps).length) (f:=(mf (pf ((eu ns i j++ps).map (iN ns))))) (x:=(.tmp 48)) (ix:=(.tmp 50)) (key:=.int .i64 ((en (nd ns i).ah j).id)) (z:=.int .i64 0) (kl:=(.int .i64 (en (nd ns i).ah j).id)) (r:=(some (vI y))) (fun _=>by kernel_rfl) (by kernel_rfl) (fun _=>by kernel_rfl) (fun _=>by kernel_rfl) gU Tryz.underlying171 (fun _=>by kernel_rfl) (sD (hwf j (by omega)).1 (hwf j (by omega)).2) (U7 hup) ?_
   refine jK 5 [12] [] ?_
   refine NS (jK 1 [54] [] ?_)
   refine NN (CT (SR (jK 1 [6] [] ?_)))
   refine NN (af.ret (ai.aj (ai.au (ai.aj (ai.aj (ai.au (ai.aj ?_)))))))
   exact RT _ [2] (.inr ⟨rfl,Lw hr hps hok hat h46 hup (by omega),rfl⟩)
  refine ak.iY 0 (d:=(some 25)) (t:=135) (K:=3) (E:=169) (b:=mb) (n:=ns.length) (f:=(mf (bf A ns ns.length))) (x:=(.tmp 22)) (ix:=(.tmp 24)) (key:=.int .i64 ((en (nd ns i).ah j).id)) (z:=.pointer none) (kl:=(.int .i64 (en (nd ns i).ah j).id)) (r:=none) (fun _=>by kernel_rfl) (by kernel_rfl) (fun _=>by kernel_rfl) (fun _=>by kernel_rfl) gU Tryz.underlying135 (fun _=>by kernel_rfl) (sD (hwf j (by omega)).1 (hwf j (by omega)).2) (Wj hat) ?_
  refine jK 1 [10] [] ?_
  refine NN (af.seq (SR (jK 14 [39] [] ?_)))
  refine NN (CT (SR (jK 1 [6] [] ?_)))
  refine NN (af.ret (ai.aj (ai.au (ai.aj (ai.aj (ai.au (ai.aj ?_)))))))
  exact RT _ [2] (.inr ⟨rfl,fun h=>hat (h.ah j (by omega)).at_,rfl⟩)
 refine af.exit (ai.aC (ai.aC (ai.aU (NX (SR ?_)))))
 refine jK 1 [6] [] ?_
 refine NN (af.ret ?_)
 exact RT (l:=[.abs (bq Tryz.prog 3 mb (mf (bf A ns ns.length)) ns.length),.abs (bq Tryz.prog 3 mp (mf (pf ((eu ns i j++ps).map (iN ns)))) ((eu ns i j++ps).length))]) _ [0,1,2] (.inl ⟨rfl,⟨fun t ht=>hok t (by omega),by grind⟩,by grind⟩)
end
section
open Go.RowKit Go.Maps
def bJ (ns:List ay):Nat->Nat
  | 0=>0
  | k+1=>bJ ns k+(nd ns k).ah.length
def nB (ns:List ay):Nat->Int
  | 0=>0
  | k+1=>(nd ns k).id
structure aW (ns:List ay):Prop where
  len:ns.length<=4096
  node:∀ i,i < ns.length->oq (nd ns i)
  ids:∀ i,i < ns.length->1<=(nd ns i).id/\(nd ns i).id<=1099511627776
  rise:bH ns
  sum:bJ ns ns.length<=8192
  ah:∀ i,i < ns.length->∀ j,j < (nd ns i).ah.length->tE ns i j
  nodup:((fV ns ns.length).map Prod.fst).Nodup
  ends:xQ ((fV ns ns.length).map (iN ns))
noncomputable instance (ns:List ay):Decidable (aW ns):=Classical.propDecidable _
theorem aW.last {ns:List ay} (h:aW ns) {k:Nat} (hk:k < ns.length):nB ns k < (nd ns k).id:=by
  cases k with
  | zero=>have:=(h.ids 0 hk).1;show (0:Int) < _;omega
  | succ k=>exact h.rise k (k+1) (Nat.lt_succ_self k) hk
structure sQ (ns:List ay) (k:Nat):Prop where
  node:∀ i,i < k->oq (nd ns i)
  ids:∀ i,i < k->1<=(nd ns i).id/\(nd ns i).id<=1099511627776
  rise:∀ i j,i < j->j < k->(nd ns i).id < (nd ns j).id
theorem sQ.zero (ns:List ay):sQ ns 0:=⟨fun i h=>absurd h (Nat.not_lt_zero i),fun i h=>absurd h (Nat.not_lt_zero i),fun _ j _ h=>absurd h (Nat.not_lt_zero j)⟩
theorem sQ.last {ns:List ay} {k:Nat} (h:sQ ns k):0<=nB ns k/\nB ns k<=1099511627776:=by
  cases k with
  | zero=>exact⟨Int.le_refl _,by show (0:Int)<=1099511627776;decide⟩
  | succ k=>have:=h.ids k (Nat.lt_succ_self k);exact⟨by show 0<=(nd ns k).id;omega,this.2⟩
theorem sQ.step {ns:List ay} {k:Nat} (h:sQ ns k) (h1:nB ns k < (nd ns k).id) (h2:(nd ns k).id<=1099511627776) (h3:oq (nd ns k)):sQ ns (k+1):=by
  have hl:=h.last
  refine⟨fun i hi=>?_,fun i hi=>?_,fun i j hij hj=>?_⟩
  ·rcases Nat.lt_succ_iff_lt_or_eq.1 hi with e|e
   ·exact h.node i e
   rw [e];exact h3
  ·rcases Nat.lt_succ_iff_lt_or_eq.1 hi with e|e
   ·exact h.ids i e
   rw [e];omega
  rcases Nat.lt_succ_iff_lt_or_eq.1 hj with e|e
  ·exact h.rise i j hij e
  subst e
  cases j with
  | zero=>omega
  | succ m=>
    have h4:(nd ns m).id < (nd ns (m+1)).id:=h1
    rcases Nat.lt_succ_iff_lt_or_eq.1 hij with e|e
    ·have:=h.rise i m e (Nat.lt_succ_self m);omega
    rw [e];exact h4
theorem JM {ns:List ay} {k:Nat} (h:∀ i,i < k->(nd ns i).id < (nd ns k).id) (hk:k < ns.length):fP ns (nd ns k).id=(k:Int):=by
  unfold fP
  have hg:∀ j (hj:j < ns.length),nd ns j=ns[j]:=fun j hj=>by
    grind [nd]
  have:ns.findIdx? (fun n=>n.id == (nd ns k).id)=some k:=by
    rw [List.findIdx?_eq_some_iff_getElem]
    grind
  rw [this]
theorem X2 {A:Option Addr} {ns:List ay} {k:Nat} (h:∀ i,i < k->(nd ns i).id < (nd ns k).id) (hk:k < ns.length) :
    om (mf (bf A ns k)) (.int .i64 (nd ns k).id) (some (.pointer (some ⟨aJ A,aI A+k * 10,none⟩)))=mf (bf A ns (k+1)):=by
  have ha:=JM h hk
  rw [I3]
  congr 1
  funext z
  unfold bf
  by_cases e:z=(nd ns k).id
  ·grind [tgt]
  rw [if_neg e]
  by_cases e1:0<=fP ns z/\fP ns z < (k:Int)
  ·rw [if_pos e1,if_pos ⟨e1.1,by omega⟩]
  rw [if_neg e1,if_neg (fun e2=>?_)]
  have e3:fP ns z=(k:Int):=by omega
  have e4:=(kr e2.1).2
  grind
theorem TD {A:Option Addr} {ns:List ay} {k:Nat} (h:∀ i,i < k->(nd ns i).id < (nd ns k).id) (hk:k < ns.length):(if ((mf (bf A ns k)) (.int .i64 (nd ns k).id)).isSome then k else k+1)=k+1:=by
  grind [JM,mf,bf,nd]
theorem sQ.below {ns:List ay} {k:Nat} (h:sQ ns k) (h1:nB ns k < (nd ns k).id):∀ i,i < k->(nd ns i).id < (nd ns k).id:=by
  intro i hi
  cases k with
  | zero=>omega
  | succ m=>
    have h1:(nd ns m).id < (nd ns (m+1)).id:=h1
    rcases Nat.lt_succ_iff_lt_or_eq.1 hi with e|e
    ·have:=h.rise i m e (Nat.lt_succ_self m);omega
    rw [e];exact h1
theorem WA {A:Option Addr} {ns:List ay}:mf (bf A ns 0)=fun _=>none:=by
  rw [← Fk]
  congr 1
  funext z
  exact if_neg (fun e=>by omega)
theorem WB {ns:List ay}:mf (pf ((fV ns 0).map (iN ns)))=fun _=>none:=by
  rw [← Fk]
  congr 1
theorem vN {ns:List ay} {i:Nat} (hi:i<=ns.length) (h:∀ a,a < i->∀ j,j < (nd ns a).ah.length->tE ns a j):∀ p,p∈fV ns i->p.1 < ns.length/\p.2 < ns.length:=by
  induction i with
  | zero=>intro p hp;cases hp
  | succ i ih=>
    intro p hp
    grind [fV,Ji]
theorem JN (ns:List ay) (i:Nat):(fV ns i).length<=bJ ns i:=by
  induction i with
  | zero=>exact Nat.le_refl _
  | succ i ih=>
    grind [fV,bJ,Jh,nd]
theorem mI {ns:List ay} {i m:Nat} (h:i<=m):bJ ns i<=bJ ns m:=by
  induction m with
  | zero=>rw [Nat.le_zero.1 h];exact Nat.le_refl _
  | succ m ih=>
    grind [bJ]
theorem Qn {ns:List ay} {ps:List (Nat×Nat)} (hp:∀ p,p∈ps->p.1 < ns.length/\p.2 < ns.length) (hid:∀ i,i < ns.length->1<=(nd ns i).id/\(nd ns i).id<=1099511627776) :
    ∀ z y,up (ps.map (iN ns)) z=some y->(-9223372036854775808<=z/\z<=9223372036854775807)/\(-9223372036854775808<=y/\y<=9223372036854775807):=by
  intro z y h
  unfold up at h
  induction ps with
  | nil=>cases h
  | cons p ps ih=>
    grind [iN,nd]
theorem X3 {p:Prop} [Decidable p] {v:Value} {l:List HP} (h:v=.bool (decide p)/\l=[]):(v=.bool true/\p/\l=[])\/(v=.bool false/\¬ p/\l=[]):=by
  by_cases hp:p
  all_goals grind
theorem yC.next {ns:List ay} {i:Nat} (h:yC ns i (fV ns i)):((fV ns (i+1)).map Prod.fst).Nodup:=h.nodup
theorem aW.row {ns:List ay} (h:aW ns) {i:Nat} (hi:i < ns.length):yC ns i (fV ns i):=by
  refine⟨h.ah i hi,?_⟩
  obtain⟨l,hl⟩:=PI (ns:=ns) (show i+1<=ns.length from hi)
  have:=h.nodup
  rw [hl] at this
  exact Af this
end
section
open Go.RowKit
attribute [local irreducible] ak aV af ai
theorem WC {β:Bs} (A:Option Addr) (c:Nat) (ns:List ay) (L:Lay) (hG:aB β A ns L) (hl:ns.length<=1048576) (hd:∀ i,i < ns.length->(nd ns i).data.length<=140737488355328/\(nd ns i).ah.length<=1048576) (hwf:∀ i,i < ns.length->∀ j,j < (nd ns i).ah.length->-9223372036854775808<=(ent ns i j).id/\(ent ns i j).id<=9223372036854775807) (hnm:∀ i,i < ns.length->∀ j,j < (nd ns i).ah.length->(ent ns i j).name.size<=1048576) :
    Spec Tryz.prog β 55 #[.agg #[.slice A ns.length c]] [] (fun v l=>(∃ mb,v=.tuple #[.map (some mb),.bool true]/\aW ns/\l=[.abs (bq Tryz.prog 3 mb (mf (bf A ns ns.length)) ns.length)])\/(∃ m,v=.tuple #[m,.bool false]/\¬ aW ns/\l=[])):=by
 refine SE Tryz.func55 Tryz.ntmps55 (fun R=>?_)
 refine SR (jN 3 [1] (fun _=>[]) (fun _=>[]) (fun b1=>.blk b1 [.slice A (ns.length) (c)] 24) (fun b1=>?_))
 refine NN (af.seq (SR (jK 4 [14] [(1,a_ 1 b1)] ?_)))
 refine NN (cP ((((ns.length:Nat):Int):Int) > (4096:Int)) (fun iU=>?_) (fun iU=>?_))
 ·refine SR (jK 2 [2,3] [] ?_)
  refine NN (af.ret (ai.aj ?_))
  exact RT (.tuple #[.map none,.bool false]) [0] (.inr ⟨_,rfl,fun h=>by have:=h.len;omega,rfl⟩)
 refine af.skip (NX (SR (ak.qQ (d:=(some 15)) (t:=135) (fun _=>by kernel_rfl) Tryz.prog rfl 3 (fun m2=>?_))))
 refine jK 1 [4] [] ?_
 refine NS (ak.bO 2 (p':=.abs (bq Tryz.prog 3 m2 (mf (bf A ns 0)) 0)) rfl (by rw [WA]) ?_)
 refine jK 2 [5,6] [] ?_
 refine NN (af.seq (SR (jK 4 [18,19] [(1,a_ 1 b1)] ?_)))
 refine NN (af.block ?_)
 refine lJ (ι:=Nat) (fun (k:Nat)=>(k<=ns.length)/\(sQ ns k)/\(bJ ns k<=k * 1048576)) (fun (k:Nat)=>ns.length - k) (fun (k:Nat)=>[(1,vP b1),(4,.map (some m2)),(5,vI (nB ns k)),(6,vI ↑(bJ ns k)),(18,vI ↑ns.length),(19,vI ↑k)]) (fun (k:Nat)=>[.blk b1 [.slice A (ns.length) (c)] 24,.abs (bq Tryz.prog 3 m2 (mf (bf A ns k)) k),.abs R]) 0 [1,2,0] (⟨Nat.zero_le _,sQ.zero ns,Nat.zero_le _⟩) ?_
 rintro k ⟨hk,hu,hs⟩
 have hk4:=(hd k)
 refine SR (jK 1 [20] [] ?_)
 refine NN (af.seq (cP ((((k:Nat):Int):Int) < (((ns.length:Nat):Int):Int)) (fun nL=>?_) (fun nL=>?_)))
 ·refine af.skip (NX (af.seq (af.block (SR ?_))))
  refine jK 2 [7] [] ?_
  refine NS (jK 5 [8] [(1,a_ 0 b1),(3,x_ k ns.length (aB.hd hG (i:=k) (by omega)))] ?_)
  refine NN (af.seq (SR (jK 7 [32] [(3,r_ (aB.rd hG (i:=k) (by omega) (j:=0) rfl))] ?_)))
  refine sP 32 (((nd ns k).id:Int)<=(nB ns k:Int)) (fun oV=>?_) (fun oV=>?_)
  ·refine jK 11 [43] [] ?_
   refine NN (CT (SR (jK 2 [2,3] [] ?_)))
   refine NN (af.ret (ai.aj (ai.au (ai.aj (ai.aj (ai.au (ai.aj ?_)))))))
   exact RT (.tuple #[.map none,.bool false]) [2] (.inr ⟨_,rfl,fun h=>by have:=h.last (show k < ns.length by omega);omega,rfl⟩)
  refine jK 7 [39] [(3,r_ (aB.rd hG (i:=k) (by omega) (j:=0) rfl))] ?_
  refine sP 39 (((nd ns k).id:Int) > (1099511627776:Int)) (fun qU=>?_) (fun qU=>?_)
  ·refine jK 4 [43] [] ?_
   refine NN (CT (SR (jK 2 [2,3] [] ?_)))
   refine NN (af.ret (ai.aj (ai.au (ai.aj (ai.aj (ai.au (ai.aj ?_)))))))
   exact RT (.tuple #[.map none,.bool false]) [2] (.inr ⟨_,rfl,fun h=>by have:=(h.ids k (by omega)).2;omega,rfl⟩)
  refine jK 1 [40] [] ?_
  refine gL [] (SK A ns L hG k (by omega)) ?_
  rintro _ _ ⟨rfl,rfl⟩
  refine jK 2 [43] [] ?_
  refine NN (cN (oq (nd ns k)) (fun Ez=>?_) (fun Ez=>?_))
  ·refine SR (jK 2 [2,3] [] ?_)
   refine NN (af.ret (ai.aj (ai.au (ai.aj (ai.aj (ai.au (ai.aj ?_)))))))
   exact RT (.tuple #[.map none,.bool false]) [2] (.inr ⟨_,rfl,fun h=>Ez (h.node k (by omega)),rfl⟩)
  refine af.skip (NX (SR (jK 5 [5] [(3,r_ (aB.rd hG (i:=k) (by omega) (j:=0) rfl))] ?_)))
  refine NS (jK 6 [48,52,53] [(4,r_ (aB.rd hG (i:=k) (by omega) (j:=0) rfl))] ?_)
  refine ak.oO 1 (d:=none) (t:=135) (K:=3) (E:=169) (b:=m2) (n:=k) (f:=(mf (bf A ns k))) (x:=(.tmp 48)) (ix:=(.tmp 52)) (y:=(.tmp 53)) (key:=.int .i64 ((nd ns k).id)) (u:=.pointer (some ⟨(aJ A),aI A+k * 10,none⟩)) (kl:=(.int .i64 (nd ns k).id)) (n':=k+1) (f':=(mf (bf A ns (k+1)))) (fun _=>by kernel_rfl) (by kernel_rfl) (fun _=>by kernel_rfl) (fun _=>by kernel_rfl) (fun _=>by kernel_rfl) gU Tryz.underlying135 (by unfold maxLen;omega) (sD (by have:=hu.last;omega) (by omega)) (TD (hu.below (by omega)) (by omega)) (X2 (hu.below (by omega)) (by omega)) ?_
  refine NN (af.region (jK 8 [6] [(4,r_ (aB.rd hG (i:=k) (by omega) (j:=9) rfl)),(6,wJ (((bJ ns k:Nat):Int)+(((nd ns k).ah.length:Nat):Int)) (↑((bJ ns k)+((nd ns k).ah.length))))] ?_))
  refine NL (ai.aA (NX (af.region ?_)))
  refine jK 2 [19] [(0,wJ ((k:Int)+1) (↑(k+1)))] ?_
  refine NL ?_
  exact tJ ((k+1)) [0,1,2] (⟨by omega,hu.step (by omega) (by omega) Ez,by grind [bJ]⟩)
 refine af.exit (ai.aC (ai.aC (ai.aU (NX (af.seq (SR ?_))))))
 refine jK 2 [63] [] ?_
 refine NN (cP ((((bJ ns k:Nat):Int):Int) > (8192:Int)) (fun h63=>?_) (fun h63=>?_))
 ·refine SR (jK 2 [2,3] [] ?_)
  refine NN (af.ret (ai.aj ?_))
  exact RT (.tuple #[.map none,.bool false]) [2] (.inr ⟨_,rfl,fun h=>by have h1:=h.sum;grind,rfl⟩)
 refine af.skip (NX (SR (ak.qQ (d:=(some 64)) (t:=171) (fun _=>by kernel_rfl) Tryz.prog rfl 3 (fun m3=>?_))))
 refine jK 1 [9] [] ?_
 refine NN (af.seq (SR (ak.bO 3 (p':=.abs (bq Tryz.prog 3 m3 (mf (pf ((fV ns 0).map (iN ns)))) ((fV ns 0).length))) rfl (by rw [WB];rfl) ?_)))
 refine ak.bO 1 (p':=.abs (bq Tryz.prog 3 m2 (mf (bf A ns ns.length)) ns.length)) rfl (by rw [show k=ns.length by omega]) ?_
 refine jK 4 [67,68] [(1,a_ 0 b1)] ?_
 refine NN (af.block ?_)
 have yP:bH ns:=fun a b hab hb=>hu.rise a b hab (by omega)
 have hsum:bJ ns ns.length<=8192:=by rw [show ns.length=k by omega];omega
 refine lJ (ι:=Nat) (fun (i:Nat)=>(i<=ns.length)/\(∀ a,a < i->∀ j,j < (nd ns a).ah.length->tE ns a j)/\(((fV ns i).map Prod.fst).Nodup)) (fun (i:Nat)=>ns.length - i) (fun (i:Nat)=>[(1,vP b1),(4,.map (some m2)),(9,.map (some m3)),(67,vI ↑ns.length),(68,vI ↑i)]) (fun (i:Nat)=>[.blk b1 [.slice A (ns.length) (c)] 24,.abs (bq Tryz.prog 3 m2 (mf (bf A ns ns.length)) ns.length),.abs (bq Tryz.prog 3 m3 (mf (pf ((fV ns i).map (iN ns)))) ((fV ns i).length)),.abs R]) 0 [0,1,3,2] (⟨Nat.zero_le _,fun a ha=>absurd ha (Nat.not_lt_zero a),List.nodup_nil⟩) ?_
 rintro i ⟨hi,wG,hnd⟩
 refine SR (jK 1 [69] [] ?_)
 refine NN (af.seq (cP ((((i:Nat):Int):Int) < (((ns.length:Nat):Int):Int)) (fun U6=>?_) (fun U6=>?_)))
 ·refine af.skip (NX (af.seq (af.block (SR ?_))))
  refine jK 2 [10] [] ?_
  refine NS (jK 6 [74,75,76] [(1,a_ 0 b1),(3,x_ i ns.length (aB.hd hG (i:=i) (by omega)))] ?_)
  refine gL [1,2] (TB A ns L hG yP i (by omega) (hd i (by omega)).2 (hwf i (by omega)) (hnm i (by omega)) m2 m3 (fV ns i) (by have:=JN ns i;have:=mI (ns:=ns) (show i<=ns.length by omega);omega) (fun p hp=>(vN (by omega) wG p hp).1) hnd) ?_
  rintro _ _ (⟨rfl,hro,rfl⟩|⟨rfl,hro,rfl⟩)
  ·refine jK 1 [78] [] ?_
   refine NN (CF (af.skip (ai.aA (NX (af.region ?_)))))
   refine jK 2 [68] [(0,wJ ((i:Int)+1) (↑(i+1)))] ?_
   refine NL ?_
   exact tJ ((i+1)) [2,0,1,3] (⟨by omega,fun a ha=>(by rcases Nat.lt_succ_iff_lt_or_eq.1 ha with h|h;exact wG a h;subst h;exact hro.ah),hro.next⟩)
  refine jK 1 [78] [] ?_
  refine NN (CT (SR (jK 2 [2,3] [] ?_)))
  refine NN (af.ret (ai.au (ai.aj (ai.aj (ai.au (ai.aj ?_))))))
  exact RT (.tuple #[.map none,.bool false]) [1] (.inr ⟨_,rfl,fun h=>hro (h.row (by omega)),rfl⟩)
 refine af.exit (ai.aC (ai.aC (ai.aU (NX (SR ?_)))))
 refine jK 2 [80,81] [] ?_
 refine ak.bO 2 (p':=.abs (bq Tryz.prog 3 m3 (mf (pf ((fV ns i).map (iN ns)))) (((fV ns i).map (iN ns)).length))) rfl (by rw [List.length_map]) ?_
 refine gL [2] ((PE m3 ((fV ns i).map (iN ns)) (by grind [JN,mI]) (Qn (vN (by omega) wG) (fun a ha=>hu.ids a (by omega)))).mono (fun v l h=>X3 h)) ?_
 rintro _ _ (⟨rfl,hae,rfl⟩|⟨rfl,hae,rfl⟩)
 ·refine jK 2 [2,3] [] ?_
  refine NN (af.ret ?_)
  exact RT (.tuple #[.map (some m2),.bool true]) [1,2] (.inl ⟨m2,rfl,⟨by omega,fun a ha=>hu.node a (by omega),fun a ha=>hu.ids a (by omega),yP,by omega,fun a ha=>wG a (by omega),by grind,by grind⟩,rfl⟩)
 refine jK 2 [2,3] [] ?_
 refine NN (af.ret ?_)
 exact RT (.tuple #[.map (some m2),.bool false]) [2] (.inr ⟨_,rfl,fun h=>hae (by have:=h.ends;grind),rfl⟩)
theorem TF {β:Bs} (A:Option Addr) (c:Nat) (ns:List ay) (L:Lay) (hG:aB β A ns L) (hl:ns.length<=1048576) (hd:∀ i,i < ns.length->(nd ns i).data.length<=140737488355328/\(nd ns i).ah.length<=1048576) (hwf:∀ i,i < ns.length->∀ j,j < (nd ns i).ah.length->-9223372036854775808<=(ent ns i j).id/\(ent ns i j).id<=9223372036854775807) (hnm:∀ i,i < ns.length->∀ j,j < (nd ns i).ah.length->(ent ns i j).name.size<=1048576) :
    Spec Tryz.prog β 22 #[.agg #[.slice A ns.length c]] [] (fun v l=>v=vI (if aW ns then 0 else 140)/\l=[]):=by
 refine SE Tryz.func22 Tryz.ntmps22 (fun R=>?_)
 refine SR (jN 2 [1] (fun _=>[]) (fun _=>[]) (fun b4=>.blk b4 [.slice A (ns.length) (c)] 24) (fun b4=>?_))
 refine NN (af.seq (SR (jK 1 [6] [(0,a_ 1 b4)] ?_)))
 refine gL [] (WC A c ns L hG hl hd hwf hnm) ?_
 rintro _ _ (⟨mb,rfl,hok,rfl⟩|⟨m,rfl,hok,rfl⟩)
 ·refine jK 5 [4] [] ?_
  refine NS (jK 2 [11] [] ?_)
  refine NN (CF (af.skip (NX (SR (jK 1 [2] [] ?_)))))
  refine NN (af.ret ?_)
  exact RT _ [1] (⟨congrArg (Value.int .i64) (if_pos hok).symm,rfl⟩)
 refine jK 5 [4] [] ?_
 refine NS (jK 2 [11] [] ?_)
 refine NN (CT (SR (jK 1 [2] [] ?_)))
 refine NN (af.ret (ai.aj ?_))
 exact RT _ [0] (⟨congrArg (Value.int .i64) (if_neg hok).symm,rfl⟩)
end
section
open Go.RowKit Go.Maps
def yQ (ed:List (Nat×Nat)) (k:Nat):Int:=match ed.lookup k with|some a=>(a:Int)|none=>-1
structure JO (n:Nat) (pl:List Int) (ed:List (Nat×Nat)):Prop where
  len:pl.length=n
  at_:∀ k,k < n->pl.getD k 0=yQ ed k
theorem wH {w:List Int} {j:Nat} (hj:j < w.length):(gu w)[j]?=some (.int .i64 (w.getD j 0)):=by
  grind [gu,getD_some]
theorem AY (pl:List Int) (k:Nat) (x:Int):(gu pl).set k (.int .i64 x)=gu (pl.set k x):=by
  unfold gu
  rw [List.map_set]
theorem JQ {pl:List Int} {k j:Nat} {x:Int} (hk:k < pl.length):(pl.set k x).getD j 0=if j=k then x else pl.getD j 0:=by
  grind
theorem JO.put {n:Nat} {pl:List Int} {ed:List (Nat×Nat)} (h:JO n pl ed) {k a:Nat} (hk:k < n):JO n (pl.set k (a:Int)) ((k,a)::ed):=by
  refine⟨by rw [List.length_set];exact h.len,fun j hj=>?_⟩
  rw [JQ (by rw [h.len];exact hk)]
  unfold yQ
  rw [List.lookup_cons]
  by_cases e:j=k
  ·subst e;simp
  have:(j == k)=false:=by simp [e]
  rw [if_neg e,this,h.at_ j hj]
  rfl
theorem wK {ed:List (Nat×Nat)} {k:Nat}:yQ ed k < 0↔k∉ed.map Prod.fst:=by
  grind [yQ]
theorem WD {ns:List ay} {ed:List (Nat×Nat)} {k:Nat} (hr:bH ns) (hk:k < ns.length) (hp:∀ p,p∈ed->p.1 < ns.length) :
    (yQ ed k < 0/\up (ed.map (iN ns)) (nd ns k).id=none)\/∃ a:Nat,yQ ed k=(a:Int)/\(k,a)∈ed/\up (ed.map (iN ns)) (nd ns k).id=some (nd ns a).id:=by
  unfold yQ up
  induction ed with
  | nil=>exact .inl ⟨by simp,rfl⟩
  | cons p ed ih=>
    obtain⟨a,b⟩:=p
    rw [List.map_cons,iN,List.lookup_cons,List.lookup_cons]
    by_cases e:k=a
    ·grind
    have h1:(k == a)=false:=by simp [e]
    have h2:((nd ns k).id == (nd ns a).id)=false:=by
      simp
      exact fun h=>e (hr.inj hk (hp (a,b) (List.mem_cons_self ..)) h)
    grind
theorem Way.back {ps:List (Int×Int)} {z0:Int} {w:List Int} (h:Way ps z0 w z0) (hl:0 < w.length):¬ Ends ps z0:=fun ⟨k,hk⟩=>by
  obtain⟨j,hj,h2⟩:=h.long hk
  have:=kq.uniq hk h2
  omega
theorem JR:∀ (n:Nat) (l:List Nat),l.Nodup->(∀ x,x∈l->x < n)->l.length<=n
  | 0,[],_,_=>Nat.le_refl _
  | 0,a::l,_,h=>absurd (h a (List.mem_cons_self ..)) (Nat.not_lt_zero a)
  | n+1,l,hn,h=>by
    have h1:=JR n (l.erase n) (hn.erase n) (fun x hx=>by
      have h2:=(List.Nodup.mem_erase_iff hn).1 hx
      have:=h x h2.2
      omega)
    by_cases hm:n∈l
    ·have:=List.length_erase_of_mem hm
     omega
    rw [List.erase_of_not_mem hm] at h1
    omega
theorem Qo {ns:List ay} {ed:List (Nat×Nat)} (hp:∀ p,p∈ed->p.1 < ns.length) (h:∀ i,i < ns.length->Ends (ed.map (iN ns)) (nd ns i).id):xQ (ed.map (iN ns)):=by
  intro z
  cases hu:up (ed.map (iN ns)) z with
  | none=>exact⟨0,hu⟩
  | some y=>
    have:∃ p,p∈ed/\z=(nd ns p.1).id:=by
      unfold up at hu
      clear h
      induction ed with
      | nil=>cases hu
      | cons p ed ih=>
        grind [iN,nd]
    obtain⟨p,h1,rfl⟩:=this
    exact h p.1 (hp p h1)
theorem JS {ns:List ay} {ed:List (Nat×Nat)} {pl:List Int} {z:Int} {b m:Nat} {w:List Int} (hr:bH ns) (hp:∀ p,p∈ed->p.1 < ns.length/\p.2 < ns.length) (hpar:JO ns.length pl ed) (hb:b < ns.length) (hw:Way (ed.map (iN ns)) z w (nd ns b).id) (hm:w.length=m) :
    (pl.getD b 0 < 0/\Ends (ed.map (iN ns)) z)\/∃ q:Nat,pl.getD b 0=(q:Int)/\q < ns.length/\Way (ed.map (iN ns)) z (w++[(nd ns b).id]) (nd ns q).id/\(w++[(nd ns b).id]).length=m+1:=by
  rw [hpar.at_ b hb]
  rcases WD hr hb (fun p h=>(hp p h).1) with ⟨h1,h2⟩|⟨a,h1,h2,h3⟩
  ·exact .inl ⟨h1,(hw.ends ⟨0,h2⟩).1⟩
  exact .inr ⟨a,h1,(hp _ h2).2,hw.snoc h3,by simp;omega⟩
theorem yR {ns:List ay} {i j:Nat} (h1:0<=fP ns (ent ns i j).id) (h2:bQ (ent ns i j).name) (h3:0 < j->¬ eG (ent ns i j).name (ent ns i (j - 1)).name):tE ns i j:=by
  refine⟨h1,h2,?_⟩
  cases j with
  | zero=>
    intro h
    have:=Lv.1 h
    have h4:=h2.1
    rw [this] at h4
    exact absurd h4 (by decide)
  | succ j=>exact h3 (Nat.succ_pos j)
theorem Oc {ns:List ay} {k:Nat} (h:0 < k):nB ns k=(nd ns (k - 1)).id:=by
  cases k with
  | zero=>omega
  | succ k=>rfl
theorem JT {ns:List ay} {i j:Nat} (h:0 < j):oY ns i j=(ent ns i (j - 1)).name:=by
  cases j with
  | zero=>omega
  | succ j=>rfl
theorem aW.few {ns:List ay} (h:aW ns):((fV ns ns.length).map (iN ns)).length<=ns.length:=by
  rw [List.length_map]
  have h1:=vN (ns:=ns) (Nat.le_refl _) h.ah
  have h2:=JR ns.length ((fV ns ns.length).map Prod.fst) h.nodup (fun x hx=>by
    obtain⟨p,hp,rfl⟩:=List.mem_map.1 hx
    exact (h1 p hp).1)
  rwa [List.length_map] at h2
end
section
open Go.RowKit
attribute [local irreducible] ak aV af ai
theorem LP {β:Bs} (A:Option Addr) (c:Nat) (ns:List ay) (L:Lay) (hG:aB β A ns L) (hl:ns.length<=1048576) (hd:∀ i,i < ns.length->(nd ns i).data.length<=1048576/\(nd ns i).ah.length<=1048576) (_:∀ i,i < ns.length->∀ j,j < (nd ns i).ah.length->-9223372036854775808<=(ent ns i j).id/\(ent ns i j).id<=9223372036854775807) (hnm:∀ i,i < ns.length->∀ j,j < (nd ns i).ah.length->(ent ns i j).name.size<=1048576) (ht:∀ i,i < ns.length->(nd ns i).target.size<=1048576) :
    Spec Tryz.prog β 28 #[.agg #[.slice A ns.length c]] [] (fun v l=>v=vI (if aW ns then 0 else 140)/\l=[]):=by
 refine SE Tryz.func28 Tryz.ntmps28 (fun R=>?_)
 refine SR (jN 2 [1] (fun _=>[]) (fun _=>[]) (fun b1=>.blk b1 [.slice A (ns.length) (c)] 24) (fun b1=>?_))
 refine NN (af.seq (SR (jK 4 [18] [(1,a_ 1 b1)] ?_)))
 refine NN (cP ((((ns.length:Nat):Int):Int) > (4096:Int)) (fun nK=>?_) (fun nK=>?_))
 ·refine SR (jK 1 [2] [] ?_)
  refine NN (af.ret (ai.aj ?_))
  exact RT _ [0] (⟨congrArg (Value.int .i64) (if_neg (c:=aW ns) (fun h=>by have:=h.len;omega)).symm,rfl⟩)
 refine af.skip (NX (SR (jK 1 [3] [] ?_)))
 refine NN (af.seq (SR (jK 1 [4] [] ?_)))
 refine NN (af.block ?_)
 refine lJ (fun (k:Nat)=>(k<=ns.length)/\(sQ ns k)/\(bJ ns k<=k * 1048576)) (fun (k:Nat)=>ns.length - k) (fun (k:Nat)=>[(1,vP b1),(3,vI ↑(bJ ns k)),(4,vI ↑k)]) (fun (k:Nat)=>[.blk b1 [.slice A (ns.length) (c)] 24,.abs R]) 0 [1,0] (⟨Nat.zero_le _,sQ.zero ns,Nat.zero_le _⟩) ?_
 rintro k ⟨hk,hu,hs⟩
 have hk4:=(hd k)
 refine af.seq (SR (jK 5 [23] [(2,a_ 0 b1)] ?_))
 refine NN (cP ((((k:Nat):Int):Int) < (((ns.length:Nat):Int):Int)) (fun h23=>?_) (fun h23=>?_))
 ·refine af.skip (NX (af.seq (af.block (SR ?_))))
  refine jN 7 [5] (fun b2=>[(1,a_ 0 b1),(3,x_ k ns.length (aB.hd hG (i:=k) (by omega))),(4,zU (eP L k (nd ns k)) (fun _ _ h=>aB.rd hG (by omega) h)),(6,A_ 2 b2 10)]) (fun _=>[]) (fun b2=>.blk b2 (eP L k (nd ns k)) 66) (fun b2=>?_)
  refine NN (af.seq (af.seq (af.bF (by kernel_rfl) (by kernel_rfl) ?_)))
  refine jQ 4 [34] [(1,a_ 2 b2)] ?_
  refine aV.tv 34 (((nd ns k).id:Int) < (1:Int)) (fun _=>by kernel_rfl) (fun vM=>?_) (fun vM=>?_)
  ·refine jQ 25 [59] [] ?_
   refine NQ (NX ?_)
   refine CT (SR (jK 1 [2] [] ?_))
   refine NN (af.ret (ai.aj (ai.au (ai.aj (ai.aj (ai.au (ai.aj ?_)))))))
   exact RT _ [1] (⟨congrArg (Value.int .i64) (if_neg (c:=aW ns) (fun h=>by have:=(h.ids k (by omega)).1;omega)).symm,rfl⟩)
  refine jQ 5 [39] [(1,a_ 2 b2)] ?_
  refine aV.tv 39 (((nd ns k).id:Int) > (1099511627776:Int)) (fun _=>by kernel_rfl) (fun qU=>?_) (fun qU=>?_)
  ·refine jQ 20 [59] [] ?_
   refine NQ (NX ?_)
   refine CT (SR (jK 1 [2] [] ?_))
   refine NN (af.ret (ai.aj (ai.au (ai.aj (ai.aj (ai.au (ai.aj ?_)))))))
   exact RT _ [1] (⟨congrArg (Value.int .i64) (if_neg (c:=aW ns) (fun h=>by have:=(h.ids k (by omega)).2;omega)).symm,rfl⟩)
  refine jQ 3 [42] [] ?_
  refine aV.tv 42 ((((k:Nat):Int):Int) > (0:Int)) (fun _=>by kernel_rfl) (fun iy=>?_) (fun iy=>?_)
  ·refine jQ 13 [55] [(1,a_ 2 b2),(3,a_ 0 b1),(5,wJ ((k:Int) - 1) (↑(k - 1))),(6,x_ (k - 1) ns.length (aB.hd hG (i:=(k - 1)) (by omega))),(8,r_ (aB.rd hG (i:=(k - 1)) (by omega) (j:=0) rfl))] ?_
   refine aV.tv 55 (((nd ns k).id:Int)<=((nd ns (k - 1)).id:Int)) (fun _=>by kernel_rfl) (fun h55=>?_) (fun h55=>?_)
   ·refine jQ 4 [59] [] ?_
    refine NQ (NX ?_)
    refine CT (SR (jK 1 [2] [] ?_))
    refine NN (af.ret (ai.aj (ai.au (ai.aj (ai.aj (ai.au (ai.aj ?_)))))))
    exact RT _ [1] (⟨congrArg (Value.int .i64) (if_neg (c:=aW ns) (fun h=>by have:=h.rise (k - 1) k (by omega) (by omega);omega)).symm,rfl⟩)
   refine jQ 1 [56] [(0,A_ 2 b2 10)] ?_
   refine jT [] [0,1,2] (.bool (decide (oq (nd ns k)))) (I8 (nd ns k) (L.dA k) (L.eA k) (L.dC k) (L.eC k) (ht k (by omega))) ?_
   refine jQ 2 [59] [] ?_
   refine NQ (NX ?_)
   refine cN (oq (nd ns k)) (fun JU=>?_) (fun JU=>?_)
   ·refine SR (jK 1 [2] [] ?_)
    refine NN (af.ret (ai.aj (ai.au (ai.aj (ai.aj (ai.au (ai.aj ?_)))))))
    exact RT _ [1] (⟨congrArg (Value.int .i64) (if_neg (c:=aW ns) (fun h=>by exact JU (h.node k (by omega)))).symm,rfl⟩)
   refine af.skip (NX (af.region (jK 6 [3] [(2,a_ 2 b2),(4,wJ (((bJ ns k:Nat):Int)+(((nd ns k).ah.length:Nat):Int)) (↑((bJ ns k)+((nd ns k).ah.length))))] ?_)))
   refine NL (ai.aA (NX (af.region ?_)))
   refine jK 3 [4] [(1,wJ ((k:Int)+1) (↑(k+1)))] ?_
   refine NL ?_
   exact tJ ((k+1)) [0,1] (⟨by omega,hu.step (by rw [Oc (by omega)];omega) (by omega) JU,by show bJ ns k+_<=_;omega⟩)
  refine jQ 14 [55,56] [(13,A_ 2 b2 10)] ?_
  refine jT [] [0,1,2] (.bool (decide (oq (nd ns k)))) (I8 (nd ns k) (L.dA k) (L.eA k) (L.dC k) (L.eC k) (ht k (by omega))) ?_
  refine jQ 2 [59] [] ?_
  refine NQ (NX ?_)
  refine cN (oq (nd ns k)) (fun JU=>?_) (fun JU=>?_)
  ·refine SR (jK 1 [2] [] ?_)
   refine NN (af.ret (ai.aj (ai.au (ai.aj (ai.aj (ai.au (ai.aj ?_)))))))
   exact RT _ [1] (⟨congrArg (Value.int .i64) (if_neg (c:=aW ns) (fun h=>by exact JU (h.node k (by omega)))).symm,rfl⟩)
  refine af.skip (NX (af.region (jK 6 [3] [(2,a_ 2 b2),(4,wJ (((bJ ns k:Nat):Int)+(((nd ns k).ah.length:Nat):Int)) (↑((bJ ns k)+((nd ns k).ah.length))))] ?_)))
  refine NL (ai.aA (NX (af.region ?_)))
  refine jK 3 [4] [(1,wJ ((k:Int)+1) (↑(k+1)))] ?_
  refine NL ?_
  exact tJ ((k+1)) [0,1] (⟨by omega,hu.step (by rw [show k=0 by omega];rw [show k=0 by omega] at vM;show (0:Int) < _;omega) (by omega) JU,by show bJ ns k+_<=_;omega⟩)
 refine af.exit (ai.aC (ai.aC (ai.aU (NX (af.seq (SR ?_))))))
 refine jK 2 [66] [] ?_
 refine NN (cP ((((bJ ns k:Nat):Int):Int) > (8192:Int)) (fun jq=>?_) (fun jq=>?_))
 ·refine SR (jK 1 [2] [] ?_)
  refine NN (af.ret (ai.aj ?_))
  exact RT _ [1] (⟨congrArg (Value.int .i64) (if_neg (c:=aW ns) (fun h=>by have h1:=h.sum;grind)).symm,rfl⟩)
 refine af.skip (NX (SR (jK 3 [69] [(1,a_ 0 b1)] ?_)))
 refine ak.Sy (d:=(some 70)) (t:=38) (e:=3) (z:=.int .i64 0) (bytes:=8) (n:=ns.length) (l:=(.tmp 69)) (c:=(.tmp 69)) (fun _=>by kernel_rfl) (fun _=>by kernel_rfl) (fun _=>by kernel_rfl) Tryz.underlying38 (by kernel_rfl) rfl (by omega) (by omega) (fun b3=>?_)
 refine jK 1 [6] [] ?_
 refine NN (af.seq (SR (ak.bO 2 (p':=.abs (av 3 1 (some ⟨b3,0,none⟩) ns.length ns.length (gu (List.replicate ns.length 0)))) rfl (by rw [gu,List.map_replicate]) ?_)))
 refine jK 1 [7] [] ?_
 refine NN (af.block ?_)
 refine lJ (fun (t,pl)=>(t<=ns.length)/\(pl.length=ns.length)/\(∀ a,a < t->pl.getD a 0 = -1)) (fun (t,pl)=>ns.length - t) (fun (t,pl)=>[(1,vP b1),(6,.slice (some ⟨b3,0,none⟩) (ns.length) (ns.length)),(7,vI ↑t)]) (fun (t,pl)=>[.blk b1 [.slice A (ns.length) (c)] 24,.abs (av 3 1 (some ⟨b3,0,none⟩) ns.length ns.length (gu pl)),.abs R]) (0,(List.replicate ns.length 0)) [0,2,1] (⟨Nat.zero_le _,by simp,fun a ha=>absurd ha (Nat.not_lt_zero a)⟩) ?_
 rintro⟨t,pl⟩ ⟨ht2,hpl,hpa⟩
 refine af.seq (SR (jK 4 [74] [] ?_))
 refine NN (cP ((((t:Nat):Int):Int) < (((ns.length:Nat):Int):Int)) (fun Xl=>?_) (fun Xl=>?_))
 ·refine af.skip (NX (af.seq (af.block (af.region ?_))))
  refine jK 3 [79] [(2,p_ ⟨[],some t,none,none,some (.pointer (some ⟨b3,t,none⟩))⟩ [(Value.pointer (some ⟨b3,0+t * 1,none⟩))=(.pointer (some ⟨b3,t,none⟩)),((t:Nat):Int)=((t:Nat):Int),t < ns.length,(⟨b3,0,none⟩:Addr).spot=none] ⟨by simp,rfl,by omega,rfl,trivial⟩)] ?_
  refine ak.DW 1 (t) (d:=none) (T:=3) (e:=3) (size:=1) (n:=ns.length) (cap:=ns.length) (g:=b3) (xs:=(gu pl)) (u:=.int .i64 (-1)) (a:=(.tmp 79)) (y:=(.const (.int .i64 (-1)))) (fun _=>by kernel_rfl) (by kernel_rfl) (fun _=>by kernel_rfl) (fun _=>by kernel_rfl) (by kernel_rfl) rfl (by rw [gu,List.length_map];omega) ?_
  refine ak.bO 1 rfl (by rw [AY]) ?_
  refine NL (ai.aA (NX (af.region ?_)))
  refine jK 3 [7] [(1,wJ ((t:Int)+1) (↑(t+1)))] ?_
  refine NL ?_
  exact tJ ((t+1),(pl.set t (-1))) [0,1,2] (⟨by omega,by rw [List.length_set];exact hpl,fun a ha=>(by grind [JQ])⟩)
 refine af.exit (ai.aC (ai.aC (ai.aU (NX (af.seq (SR ?_))))))
 refine jK 1 [8] [] ?_
 refine NN (af.block ?_)
 have yP:bH ns:=fun a b hab hb=>hu.rise a b hab (by omega)
 have hsum:bJ ns ns.length<=8192:=by rw [show ns.length=k by omega];omega
 refine lJ (fun (i,sj)=>(i<=ns.length)/\(∀ a,a < i->∀ j,j < (nd ns a).ah.length->tE ns a j)/\(((fV ns i).map Prod.fst).Nodup)/\(JO ns.length sj (fV ns i))) (fun (i,sj)=>ns.length - i) (fun (i,sj)=>[(1,vP b1),(6,.slice (some ⟨b3,0,none⟩) (ns.length) (ns.length)),(8,vI ↑i)]) (fun (i,sj)=>[.blk b1 [.slice A (ns.length) (c)] 24,.abs (av 3 1 (some ⟨b3,0,none⟩) ns.length ns.length (gu sj)),.abs R]) (0,pl) [0,1,2] (⟨Nat.zero_le _,fun a ha=>absurd ha (Nat.not_lt_zero a),List.nodup_nil,⟨hpl,fun a ha=>hpa a (by omega)⟩⟩) ?_
 rintro⟨i,sj⟩ ⟨hi,wG,hnd,hpar⟩
 refine af.seq (SR (jK 5 [84] [(2,a_ 0 b1)] ?_))
 refine NN (cP ((((i:Nat):Int):Int) < (((ns.length:Nat):Int):Int)) (fun h84=>?_) (fun h84=>?_))
 ·refine af.skip (NX (af.seq (af.block (SR ?_))))
  refine jK 1 [9] [] ?_
  refine NN (af.block ?_)
  refine lJ (fun (j,qu)=>(j<=(nd ns i).ah.length)/\(∀ t,t < j->tE ns i t)/\(((eu ns i j++fV ns i).map Prod.fst).Nodup)/\(JO ns.length qu (eu ns i j++fV ns i))) (fun (j,qu)=>(nd ns i).ah.length - j) (fun (j,qu)=>[(1,vP b1),(6,.slice (some ⟨b3,0,none⟩) (ns.length) (ns.length)),(8,vI ↑i),(9,vI ↑j)]) (fun (j,qu)=>[.blk b1 [.slice A (ns.length) (c)] 24,.abs (av 3 1 (some ⟨b3,0,none⟩) ns.length ns.length (gu qu)),.abs R]) (0,sj) [0,1,2] (⟨Nat.zero_le _,fun t ht=>absurd ht (Nat.not_lt_zero t),hnd,hpar⟩) ?_
  rintro⟨j,qu⟩ ⟨hj,hok,rL,tF⟩
  have hd3:=(hd i (by omega)).2
  have hln:=tF.len
  refine af.seq (SR (jK 9 [95] [(2,a_ 0 b1),(4,x_ i ns.length (aB.hd hG (i:=i) (by omega))),(6,r_ (aB.rd hG (i:=i) (by omega) (j:=9) rfl))] ?_))
  refine NN (cP ((((j:Nat):Int):Int) < ((((nd ns i).ah.length:Nat):Int):Int)) (fun h95=>?_) (fun h95=>?_))
  ·refine af.skip (NX (af.seq (af.block (SR ?_))))
   refine jN 11 [10] (fun b4=>[(1,a_ 0 b1),(3,x_ i ns.length (aB.hd hG (i:=i) (by omega))),(5,r_ (aB.rd hG (i:=i) (by omega) (j:=9) rfl)),(7,x_ j ((nd ns i).ah.length) (aZ.hd (hG.ah i (by omega)) (i:=j) (by omega))),(8,p_ ⟨[.old (.string (en (nd ns i).ah j).name),.old (.int .i64 ((en (nd ns i).ah j).id))],none,none,none,none⟩ [(Rd β ⟨(aJ (L.eA i)),aI (L.eA i)+j * 2+1,none⟩ (.int .i64 ((en (nd ns i).ah j).id))),(Rd β ⟨(aJ (L.eA i)),aI (L.eA i)+j * 2,none⟩ (.string (en (nd ns i).ah j).name))] ⟨aZ.rd (hG.ah i (by omega)) (i:=j) (by omega) (j:=1) rfl,aZ.rd (hG.ah i (by omega)) (i:=j) (by omega) (j:=0) rfl,trivial⟩),(10,A_ 3 b4 2)]) (fun _=>[]) (fun b4=>.blk b4 [.string (en (nd ns i).ah j).name,vI ((en (nd ns i).ah j).id)] 68) (fun b4=>?_)
   refine NS (jK 3 [107,109] [(0,a_ 0 b1),(2,a_ 3 b4)] ?_)
   refine gL [] (D6 A c ns L hG yP hl (en (nd ns i).ah j).id) ?_
   rintro _ _ ⟨rfl,rfl⟩
   refine jK 1 [11] [] ?_
   refine NN (af.seq (af.seq (af.bF (by kernel_rfl) (by kernel_rfl) ?_)))
   refine jQ 3 [113] [] ?_
   refine aV.tv 113 ((fP ns (en (nd ns i).ah j).id:Int) < (0:Int)) (fun _=>by kernel_rfl) (fun FL=>?_) (fun FL=>?_)
   ·refine jQ 25 [138] [] ?_
    refine NQ (NX ?_)
    refine CT (SR (jK 1 [2] [] ?_))
    refine NN (af.ret (ai.aj (ai.au (ai.aj (ai.aj (ai.au (ai.au (ai.aj (ai.aj (ai.au (ai.aj ?_)))))))))))
    exact RT _ [2] (⟨congrArg (Value.int .i64) (if_neg (c:=aW ns) (fun h=>by have h1:=(h.ah i (by omega) j (by omega)).at_;change 0<=fP ns (en (nd ns i).ah j).id at h1;omega)).symm,rfl⟩)
   have htl:=kr (Int.not_lt.1 FL)
   refine jQ 2 [115] [(1,a_ 3 b4)] ?_
   refine jT [] [0,1,2,3] (.bool (decide (bQ (en (nd ns i).ah j).name))) (D5 (en (nd ns i).ah j).name (hnm i (by omega) j (by omega))) ?_
   refine jQ 3 [119] [] ?_
   refine aV.Ns 119 (bQ (en (nd ns i).ah j).name) (fun _=>by kernel_rfl) (fun FN=>?_) (fun FN=>?_)
   ·refine jQ 19 [138] [] ?_
    refine NQ (NX ?_)
    refine CT (SR (jK 1 [2] [] ?_))
    refine NN (af.ret (ai.aj (ai.au (ai.aj (ai.aj (ai.au (ai.au (ai.aj (ai.aj (ai.au (ai.aj ?_)))))))))))
    exact RT _ [2] (⟨congrArg (Value.int .i64) (if_neg (c:=aW ns) (fun h=>by exact FN (h.ah i (by omega) j (by omega)).good)).symm,rfl⟩)
   refine jQ 3 [122] [] ?_
   refine aV.tv 122 ((((j:Nat):Int):Int) > (0:Int)) (fun _=>by kernel_rfl) (fun aaN=>?_) (fun aaN=>?_)
   ·refine jQ 16 [138] [(1,a_ 3 b4),(3,a_ 0 b1),(5,x_ i ns.length (aB.hd hG (i:=i) (by omega))),(7,r_ (aB.rd hG (i:=i) (by omega) (j:=9) rfl)),(9,wJ ((j:Int) - 1) (↑(j - 1))),(10,x_ (j - 1) ((nd ns i).ah.length) (aZ.hd (hG.ah i (by omega)) (i:=(j - 1)) (by omega))),(12,r_ (aZ.rd (hG.ah i (by omega)) (i:=(j - 1)) (by omega) (j:=0) rfl)),(13,p_ ⟨[],none,none,none,some (.bool (decide (eG ((en (nd ns i).ah j).name) ((en (nd ns i).ah (j - 1)).name))))⟩ [(Value.bool (Op.bytesLess (((en (nd ns i).ah j).name):ByteArray).toList (((en (nd ns i).ah (j - 1)).name):ByteArray).toList || (((en (nd ns i).ah j).name):ByteArray).toList == (((en (nd ns i).ah (j - 1)).name):ByteArray).toList))=(.bool (decide (eG ((en (nd ns i).ah j).name) ((en (nd ns i).ah (j - 1)).name))))] ⟨Jg _ _,trivial⟩)] ?_
    refine NQ (NX ?_)
    refine cP (eG ((en (nd ns i).ah j).name) ((en (nd ns i).ah (j - 1)).name)) (fun Od=>?_) (fun Od=>?_)
    ·refine SR (jK 1 [2] [] ?_)
     refine NN (af.ret (ai.aj (ai.au (ai.aj (ai.aj (ai.au (ai.au (ai.aj (ai.aj (ai.au (ai.aj ?_)))))))))))
     exact RT _ [2] (⟨congrArg (Value.int .i64) (if_neg (c:=aW ns) (fun h=>by have h1:=(h.ah i (by omega) j (by omega)).ord;rw [JT (by omega)] at h1;exact h1 Od)).symm,rfl⟩)
    refine af.skip (NX (SR (jK 7 [145] [(1,a_ 0 b1),(3,p_ ⟨[],some (tgt ns (en (nd ns i).ah j).id),none,some ⟨(aJ A),aI A,none⟩,none⟩ [fP ns (en (nd ns i).ah j).id=(((tgt ns (en (nd ns i).ah j).id):Nat):Int),(tgt ns (en (nd ns i).ah j).id) < ns.length,(⟨(aJ A),aI A,none⟩:Addr).spot=none,(A:Option Addr)=some ⟨(aJ A),aI A,none⟩] ⟨htl.2.2,by omega,rfl,aB.hd hG (i:=(tgt ns (en (nd ns i).ah j).id)) (by omega),trivial⟩),(5,r_ (aB.rd hG (i:=(tgt ns (en (nd ns i).ah j).id)) (by omega) (j:=1) rfl))] ?_)))
    refine NN (cP (((nd ns (tgt ns (en (nd ns i).ah j).id)).kind:Int)=(2:Int)) (fun lC=>?_) (fun lC=>?_))
    ·refine af.seq (SR (jK 5 [150] [(2,p_ ⟨[],some (tgt ns (en (nd ns i).ah j).id),none,none,some (.pointer (some ⟨b3,(tgt ns (en (nd ns i).ah j).id),none⟩))⟩ [(Value.pointer (some ⟨b3,0+(tgt ns (en (nd ns i).ah j).id) * 1,none⟩))=(.pointer (some ⟨b3,(tgt ns (en (nd ns i).ah j).id),none⟩)),fP ns (en (nd ns i).ah j).id=(((tgt ns (en (nd ns i).ah j).id):Nat):Int),(tgt ns (en (nd ns i).ah j).id) < ns.length,(⟨b3,0,none⟩:Addr).spot=none] ⟨by simp,htl.2.2,by omega,rfl,trivial⟩),(3,p_ ⟨[.view 1 (.int .i64 ((qu.getD (tgt ns (en (nd ns i).ah j).id) 0)))],none,none,none,none⟩ [(∀ F w,(av 3 1 (some ⟨b3,0,none⟩) ns.length ns.length (gu qu)).h F w->w.cell? ⟨b3,(tgt ns (en (nd ns i).ah j).id),none⟩=some (vI ((qu.getD (tgt ns (en (nd ns i).ah j).id) 0))))] ⟨av.cell (wH (by omega)),trivial⟩)] ?_))
     refine NN (cP (((qu.getD (tgt ns (en (nd ns i).ah j).id) 0):Int) ≥ (0:Int)) (fun TG=>?_) (fun TG=>?_))
     ·refine SR (jK 1 [2] [] ?_)
      refine NN (af.ret (ai.aj (ai.au (ai.aj (ai.aj (ai.au (ai.au (ai.aj (ai.aj (ai.au (ai.aj ?_)))))))))))
      exact RT _ [2] (⟨congrArg (Value.int .i64) (if_neg (c:=aW ns) (fun h=>by have h1:yQ (eu ns i j++fV ns i) (tgt ns (en (nd ns i).ah j).id) < 0:=wK.2 (xA (h.row (by omega)) (by omega) lC);rw [← tF.at_ (tgt ns (en (nd ns i).ah j).id) (by omega)] at h1;omega)).symm,rfl⟩)
     refine af.skip (NX (af.region (jK 4 [153,154] [(3,p_ ⟨[],some (tgt ns (en (nd ns i).ah j).id),none,none,some (.pointer (some ⟨b3,(tgt ns (en (nd ns i).ah j).id),none⟩))⟩ [(Value.pointer (some ⟨b3,0+(tgt ns (en (nd ns i).ah j).id) * 1,none⟩))=(.pointer (some ⟨b3,(tgt ns (en (nd ns i).ah j).id),none⟩)),fP ns (en (nd ns i).ah j).id=(((tgt ns (en (nd ns i).ah j).id):Nat):Int),(tgt ns (en (nd ns i).ah j).id) < ns.length,(⟨b3,0,none⟩:Addr).spot=none] ⟨by simp,htl.2.2,by omega,rfl,trivial⟩)] ?_)))
     refine ak.DW 1 ((tgt ns (en (nd ns i).ah j).id)) (d:=none) (T:=3) (e:=3) (size:=1) (n:=ns.length) (cap:=ns.length) (g:=b3) (xs:=(gu qu)) (u:=.int .i64 ↑i) (a:=(.tmp 154)) (y:=(.tmp 153)) (fun _=>by kernel_rfl) (by kernel_rfl) (fun _=>by kernel_rfl) (fun _=>by kernel_rfl) (by kernel_rfl) rfl (by rw [gu,List.length_map];omega) ?_
     refine ak.bO 1 rfl (by rw [AY]) ?_
     refine NL (ai.aA (NX (af.region ?_)))
     refine jK 3 [9] [(1,wJ ((j:Int)+1) (↑(j+1)))] ?_
     refine NL ?_
     exact tJ ((j+1),(qu.set (tgt ns (en (nd ns i).ah j).id) ((i:Nat):Int))) [0,1,2] (⟨by omega,fun t ht=>(by rcases Nat.lt_succ_iff_lt_or_eq.1 ht with h|h;exact hok t h;subst h;exact yR (Int.not_lt.1 FL) FN (fun _=>Od)),(by rw [mD lC,List.cons_append,List.map_cons];exact List.nodup_cons.2 ⟨show tgt ns (en (nd ns i).ah j).id∉_ from wK.1 (by rw [← tF.at_ (tgt ns (en (nd ns i).ah j).id) (by omega)];omega),rL⟩),(by rw [mD lC];exact tF.put (by omega))⟩)
    refine af.skip (ai.aA (NX (af.region ?_)))
    refine jK 3 [9] [(1,wJ ((j:Int)+1) (↑(j+1)))] ?_
    refine NL ?_
    exact tJ ((j+1),qu) [0,1,2] (⟨by omega,fun t ht=>(by rcases Nat.lt_succ_iff_lt_or_eq.1 ht with h|h;exact hok t h;subst h;exact yR (Int.not_lt.1 FL) FN (fun _=>Od)),(by rw [nM lC];exact rL),(by rw [nM lC];exact tF)⟩)
   refine jQ 16 [138] [] ?_
   refine NQ (NX ?_)
   refine CF (af.skip (NX (SR (jK 7 [145] [(1,a_ 0 b1),(3,p_ ⟨[],some (tgt ns (en (nd ns i).ah j).id),none,some ⟨(aJ A),aI A,none⟩,none⟩ [fP ns (en (nd ns i).ah j).id=(((tgt ns (en (nd ns i).ah j).id):Nat):Int),(tgt ns (en (nd ns i).ah j).id) < ns.length,(⟨(aJ A),aI A,none⟩:Addr).spot=none,(A:Option Addr)=some ⟨(aJ A),aI A,none⟩] ⟨htl.2.2,by omega,rfl,aB.hd hG (i:=(tgt ns (en (nd ns i).ah j).id)) (by omega),trivial⟩),(5,r_ (aB.rd hG (i:=(tgt ns (en (nd ns i).ah j).id)) (by omega) (j:=1) rfl))] ?_))))
   refine NN (cP (((nd ns (tgt ns (en (nd ns i).ah j).id)).kind:Int)=(2:Int)) (fun lC=>?_) (fun lC=>?_))
   ·refine af.seq (SR (jK 5 [150] [(2,p_ ⟨[],some (tgt ns (en (nd ns i).ah j).id),none,none,some (.pointer (some ⟨b3,(tgt ns (en (nd ns i).ah j).id),none⟩))⟩ [(Value.pointer (some ⟨b3,0+(tgt ns (en (nd ns i).ah j).id) * 1,none⟩))=(.pointer (some ⟨b3,(tgt ns (en (nd ns i).ah j).id),none⟩)),fP ns (en (nd ns i).ah j).id=(((tgt ns (en (nd ns i).ah j).id):Nat):Int),(tgt ns (en (nd ns i).ah j).id) < ns.length,(⟨b3,0,none⟩:Addr).spot=none] ⟨by simp,htl.2.2,by omega,rfl,trivial⟩),(3,p_ ⟨[.view 1 (.int .i64 ((qu.getD (tgt ns (en (nd ns i).ah j).id) 0)))],none,none,none,none⟩ [(∀ F w,(av 3 1 (some ⟨b3,0,none⟩) ns.length ns.length (gu qu)).h F w->w.cell? ⟨b3,(tgt ns (en (nd ns i).ah j).id),none⟩=some (vI ((qu.getD (tgt ns (en (nd ns i).ah j).id) 0))))] ⟨av.cell (wH (by omega)),trivial⟩)] ?_))
    refine NN (cP (((qu.getD (tgt ns (en (nd ns i).ah j).id) 0):Int) ≥ (0:Int)) (fun TG=>?_) (fun TG=>?_))
    ·refine SR (jK 1 [2] [] ?_)
     refine NN (af.ret (ai.aj (ai.au (ai.aj (ai.aj (ai.au (ai.au (ai.aj (ai.aj (ai.au (ai.aj ?_)))))))))))
     exact RT _ [2] (⟨congrArg (Value.int .i64) (if_neg (c:=aW ns) (fun h=>by have h1:yQ (eu ns i j++fV ns i) (tgt ns (en (nd ns i).ah j).id) < 0:=wK.2 (xA (h.row (by omega)) (by omega) lC);rw [← tF.at_ (tgt ns (en (nd ns i).ah j).id) (by omega)] at h1;omega)).symm,rfl⟩)
    refine af.skip (NX (af.region (jK 4 [153,154] [(3,p_ ⟨[],some (tgt ns (en (nd ns i).ah j).id),none,none,some (.pointer (some ⟨b3,(tgt ns (en (nd ns i).ah j).id),none⟩))⟩ [(Value.pointer (some ⟨b3,0+(tgt ns (en (nd ns i).ah j).id) * 1,none⟩))=(.pointer (some ⟨b3,(tgt ns (en (nd ns i).ah j).id),none⟩)),fP ns (en (nd ns i).ah j).id=(((tgt ns (en (nd ns i).ah j).id):Nat):Int),(tgt ns (en (nd ns i).ah j).id) < ns.length,(⟨b3,0,none⟩:Addr).spot=none] ⟨by simp,htl.2.2,by omega,rfl,trivial⟩)] ?_)))
    refine ak.DW 1 ((tgt ns (en (nd ns i).ah j).id)) (d:=none) (T:=3) (e:=3) (size:=1) (n:=ns.length) (cap:=ns.length) (g:=b3) (xs:=(gu qu)) (u:=.int .i64 ↑i) (a:=(.tmp 154)) (y:=(.tmp 153)) (fun _=>by kernel_rfl) (by kernel_rfl) (fun _=>by kernel_rfl) (fun _=>by kernel_rfl) (by kernel_rfl) rfl (by rw [gu,List.length_map];omega) ?_
    refine ak.bO 1 rfl (by rw [AY]) ?_
    refine NL (ai.aA (NX (af.region ?_)))
    refine jK 3 [9] [(1,wJ ((j:Int)+1) (↑(j+1)))] ?_
    refine NL ?_
    exact tJ ((j+1),(qu.set (tgt ns (en (nd ns i).ah j).id) ((i:Nat):Int))) [0,1,2] (⟨by omega,fun t ht=>(by rcases Nat.lt_succ_iff_lt_or_eq.1 ht with h|h;exact hok t h;subst h;exact yR (Int.not_lt.1 FL) FN (fun h=>absurd h (by omega))),(by rw [mD lC,List.cons_append,List.map_cons];exact List.nodup_cons.2 ⟨show tgt ns (en (nd ns i).ah j).id∉_ from wK.1 (by rw [← tF.at_ (tgt ns (en (nd ns i).ah j).id) (by omega)];omega),rL⟩),(by rw [mD lC];exact tF.put (by omega))⟩)
   refine af.skip (ai.aA (NX (af.region ?_)))
   refine jK 3 [9] [(1,wJ ((j:Int)+1) (↑(j+1)))] ?_
   refine NL ?_
   exact tJ ((j+1),qu) [0,1,2] (⟨by omega,fun t ht=>(by rcases Nat.lt_succ_iff_lt_or_eq.1 ht with h|h;exact hok t h;subst h;exact yR (Int.not_lt.1 FL) FN (fun h=>absurd h (by omega))),(by rw [nM lC];exact rL),(by rw [nM lC];exact tF)⟩)
  refine af.exit (ai.aC (ai.aC (ai.aU (ai.aA (NX (af.region ?_))))))
  refine jK 3 [8] [(1,wJ ((i:Int)+1) (↑(i+1)))] ?_
  refine NL ?_
  exact tJ ((i+1),qu) [0,1,2] (⟨by omega,fun a ha=>(by grind),(by have:=rL;rwa [show j=(nd ns i).ah.length by omega] at this),(by have:=tF;rwa [show j=(nd ns i).ah.length by omega] at this)⟩)
 refine af.exit (ai.aC (ai.aC (ai.aU (NX (af.seq (SR ?_))))))
 refine jK 1 [12] [] ?_
 refine NN (af.block ?_)
 have Vh:JO ns.length sj (fV ns ns.length):=by grind
 have hed:=vN (ns:=ns) (Nat.le_refl _) (fun a ha=>wG a (by omega))
 refine lJ (fun (a:Nat)=>(a<=ns.length)/\(∀ b,b < a->Ends ((fV ns ns.length).map (iN ns)) (nd ns b).id)) (fun (a:Nat)=>ns.length - a) (fun (a:Nat)=>[(6,.slice (some ⟨b3,0,none⟩) (ns.length) (ns.length)),(12,vI ↑a)]) (fun (a:Nat)=>[.abs (av 3 1 (some ⟨b3,0,none⟩) ns.length ns.length (gu sj)),.abs R]) 0 [1,2] (⟨Nat.zero_le _,fun b hb=>absurd hb (Nat.not_lt_zero b)⟩) ?_
 rintro a ⟨ha,hend⟩
 have hln:=hpar.len
 refine af.seq (SR (jK 4 [158] [] ?_))
 refine NN (cP ((((a:Nat):Int):Int) < (((ns.length:Nat):Int):Int)) (fun aaO=>?_) (fun aaO=>?_))
 ·refine af.skip (NX (af.seq (af.block (SR ?_))))
  refine jK 5 [13] [(2,p_ ⟨[],some a,none,none,some (.pointer (some ⟨b3,a,none⟩))⟩ [(Value.pointer (some ⟨b3,0+a * 1,none⟩))=(.pointer (some ⟨b3,a,none⟩)),((a:Nat):Int)=((a:Nat):Int),a < ns.length,(⟨b3,0,none⟩:Addr).spot=none] ⟨by simp,rfl,by omega,rfl,trivial⟩),(3,p_ ⟨[.view 0 (.int .i64 ((sj.getD a 0)))],none,none,none,none⟩ [(∀ F w,(av 3 1 (some ⟨b3,0,none⟩) ns.length ns.length (gu sj)).h F w->w.cell? ⟨b3,a,none⟩=some (vI ((sj.getD a 0))))] ⟨av.cell (wH (by omega)),trivial⟩)] ?_
  refine NS (jK 1 [14] [] ?_)
  refine NN (af.block ?_)
  refine lJ (fun (at_,step,w)=>((at_ < 0/\Ends ((fV ns ns.length).map (iN ns)) (nd ns a).id)\/∃ q:Nat,at_=(q:Int)/\q < ns.length/\Way ((fV ns ns.length).map (iN ns)) (nd ns a).id w (nd ns q).id/\w.length=step+1)) (fun (at_,step,w)=>ns.length+2 - step) (fun (at_,step,w)=>[(6,.slice (some ⟨b3,0,none⟩) (ns.length) (ns.length)),(12,vI ↑a),(13,vI (at_)),(14,vI ↑step)]) (fun (at_,step,w)=>[.abs (av 3 1 (some ⟨b3,0,none⟩) ns.length ns.length (gu sj)),.abs R]) ((sj.getD a 0),0,[(nd ns a).id]) [0,1] (JS yP hed Vh (by omega) .nil rfl) ?_
  rintro⟨at_,step,w⟩ hst
  refine af.seq (SR (jK 2 [166] [] ?_))
  refine NN (cP ((at_:Int) ≥ (0:Int)) (fun aaP=>?_) (fun aaP=>?_))
  ·obtain⟨b,hb0,hb1,hb2,hb3⟩:=hst.resolve_left (fun h=>by omega)
   refine af.skip (NX (af.seq (af.block (af.seq (SR ?_)))))
   refine jK 4 [172] [] ?_
   refine sP 172 ((at_:Int)=(((a:Nat):Int):Int)) (fun aaQ=>?_) (fun aaQ=>?_)
   ·refine jK 5 [177] [] ?_
    refine NN (CT (SR (jK 1 [2] [] ?_)))
    refine NN (af.ret (ai.aj (ai.au (ai.aj (ai.aj (ai.au (ai.au (ai.aj (ai.aj (ai.au (ai.aj ?_)))))))))))
    exact RT _ [1] (⟨congrArg (Value.int .i64) (if_neg (c:=aW ns) (fun h=>by rw [show b=a by omega] at hb2;exact hb2.back (by omega) (h.ends _))).symm,rfl⟩)
   refine jK 5 [177] [] ?_
   refine NN (cP ((((step:Nat):Int):Int) > (((ns.length:Nat):Int):Int)) (fun aaR=>?_) (fun aaR=>?_))
   ·refine SR (jK 1 [2] [] ?_)
    refine NN (af.ret (ai.aj (ai.au (ai.aj (ai.aj (ai.au (ai.au (ai.aj (ai.aj (ai.au (ai.aj ?_)))))))))))
    exact RT _ [1] (⟨congrArg (Value.int .i64) (if_neg (c:=aW ns) (fun h=>by exact hb2.never (by have:=h.few;omega) (h.ends _))).symm,rfl⟩)
   refine af.skip (NX (af.region (jK 5 [13] [(2,p_ ⟨[],some b,none,none,some (.pointer (some ⟨b3,b,none⟩))⟩ [(Value.pointer (some ⟨b3,0+b * 1,none⟩))=(.pointer (some ⟨b3,b,none⟩)),at_=((b:Nat):Int),b < ns.length,(⟨b3,0,none⟩:Addr).spot=none] ⟨by simp,hb0,by omega,rfl,trivial⟩),(3,p_ ⟨[.view 0 (.int .i64 ((sj.getD b 0)))],none,none,none,none⟩ [(∀ F w,(av 3 1 (some ⟨b3,0,none⟩) ns.length ns.length (gu sj)).h F w->w.cell? ⟨b3,b,none⟩=some (vI ((sj.getD b 0))))] ⟨av.cell (wH (by omega)),trivial⟩)] ?_)))
   refine NL (ai.aA (NX (af.region ?_)))
   refine jK 3 [14] [(1,wJ ((step:Int)+1) (↑(step+1)))] ?_
   refine NL ?_
   exact tJ ((sj.getD b 0),(step+1),(w++[(nd ns b).id])) [0,1] (JS yP hed Vh hb1 hb2 hb3)
  refine af.exit (ai.aC (ai.aC (ai.aU (ai.aA (NX (af.region ?_))))))
  refine jK 3 [12] [(1,wJ ((a:Int)+1) (↑(a+1)))] ?_
  refine NL ?_
  exact tJ ((a+1)) [0,1] (⟨by omega,fun b hb=>by grind⟩)
 refine af.exit (ai.aC (ai.aC (ai.aU (NX (SR ?_)))))
 refine jK 1 [2] [] ?_
 refine NN (af.ret ?_)
 exact RT _ [1] (⟨congrArg (Value.int .i64) (if_pos (c:=aW ns) ⟨by omega,fun a ha=>hu.node a (by omega),fun a ha=>hu.ids a (by omega),yP,by omega,fun a ha=>wG a (by omega),by grind,Qo (fun p hp=>(hed p hp).1) (fun b hb=>hend b (by omega))⟩).symm,rfl⟩)
end
section
open Go.RowKit
theorem B0.refl (W:World):(B0 W).le (B0 W):=⟨fun _ h=>h,rfl,rfl,rfl,Nat.le_refl _,fun _ hk=>⟨hk,rfl⟩⟩
theorem Spec.val {P:Program} {β:Bs} {f:FuncId} {args:Array Value} {pre:List HP} {x y:Value} {l0:List HP} (h:Spec P β f args pre (fun v l=>v=x/\l=l0)) (e:x=y):Spec P β f args pre (fun v l=>v=y/\l=l0):=h.mono fun _ _ h=>⟨h.1.trans e,h.2⟩
section gb
variable {ns:List ay} {b:Nat}
variable (h:lu ns 1048576)
include h
end gb
structure abL (ns:List ay):Prop where
  hl:ns.length<=1048576
  hd:∀ i,i < ns.length->(nd ns i).data.length<=140737488355328/\(nd ns i).ah.length<=1048576
  hwf:∀ i,i < ns.length->∀ j,j < (nd ns i).ah.length->-9223372036854775808<=(ent ns i j).id/\(ent ns i j).id<=9223372036854775807
  hnm:∀ i,i < ns.length->∀ j,j < (nd ns i).ah.length->(ent ns i j).name.size<=1048576
  ids:∀ i,i < ns.length->uE (nd ns i).id
def L0:Lay:=⟨fun _=>none,fun _=>none,fun _=>0,fun _=>0⟩
theorem bU.nil {β:Bs} {A:Option Addr}:bU β A []:=fun j v hj=>by simp at hj
end
section
open Go.RowKit Go.Maps
def aac (l:List ByteArray):List Value:=l.map Value.string
def sAt (l:List ByteArray) (i:Nat):ByteArray:=l.getD i ⟨#[]⟩
def abM (β:Bs) (A:Option Addr) (l:List ByteArray):Prop:=bU β A (aac l)
section strs
variable {β β':Bs} {A:Option Addr} {l:List ByteArray}
end strs
def Sorted (es:List cX):Prop:=∀ i j,i < j->j < es.length->rC (en es i).name (en es j).name < 0
def wL (es:List cX) (p:ByteArray):Option Nat:=es.findIdx? (fun e=>decide (e.name=p))
theorem Oe {es:List cX} {p:ByteArray} (h:∀ j,j < es.length->¬ (en es j).name=p):wL es p=none:=by
  unfold wL
  rw [List.findIdx?_eq_none_iff]
  intro x hx
  obtain⟨j,hj,rfl⟩:=List.getElem_of_mem hx
  grind [en]
section find
variable {ns:List ay} {k i:Nat} {ps:List ByteArray}
end find
end
section
open Go.RowKit
def fw (es:List cX) (id:Int):Nat->Nat
  | 0=>0
  | j+1=>fw es id j+(if (en es j).id=id then 1 else 0)
def jU (ns:List ay) (id:Int):Nat->Nat
  | 0=>0
  | i+1=>jU ns id i+fw (nd ns i).ah id (nd ns i).ah.length
theorem GY (es:List cX) (id:Int) (j:Nat):fw es id j<=j:=by
  induction j with
  | zero=>exact Nat.le_refl _
  | succ j ih=>
    rw [fw]
    split<;>omega
theorem EA {es:List cX} {id:Int} {j:Nat} (h:(en es j).id=id):fw es id j+1=fw es id (j+1):=by rw [fw,if_pos h]
theorem CD {es:List cX} {id:Int} {j:Nat} (h:¬ (en es j).id=id):fw es id j=fw es id (j+1):=by rw [fw,if_neg h];rfl
theorem Og (ns:List ay) (id:Int) (i:Nat):jU ns id i<=bJ ns i:=by
  induction i with
  | zero=>exact Nat.le_refl _
  | succ i ih=>
    grind [jU,bJ,GY,nd]
end
section
open Go.RowKit Go.Maps
structure FO (ns:List ay) (i j:Nat):Prop where
  X4:i < ns.length
  GZ:j < (nd ns i).ah.length
  dir:(nd ns (tgt ns (ent ns i j).id)).kind=2
section
variable {ns:List ay}
theorem vO {i m:Nat} {p:Nat×Nat}:p∈eu ns i m↔∃ j,j < m/\(nd ns (tgt ns (ent ns i j).id)).kind=2/\p=(tgt ns (ent ns i j).id,i):=by
  induction m with
  | zero=>simp [eu]
  | succ m ih=>
    grind [nd,tgt,ent,mD,nM]
theorem yS {m:Nat} {p:Nat×Nat}:p∈fV ns m↔∃ i j,i < m/\j < (nd ns i).ah.length/\(nd ns (tgt ns (ent ns i j).id)).kind=2/\p=(tgt ns (ent ns i j).id,i):=by
  induction m with
  | zero=>simp [fV]
  | succ m ih=>
    grind [fV,vO]
theorem FO.mem {i j:Nat} (h:FO ns i j):(tgt ns (ent ns i j).id,i)∈fV ns ns.length:=yS.2 ⟨i,j,h.X4,h.GZ,h.dir,rfl⟩
def Vi (ns:List ay) (m:Nat):Prop:=∀ i j i' j',FO ns i j->FO ns i' j'->i < m->i' < m->tgt ns (ent ns i j).id=tgt ns (ent ns i' j').id->i=i'/\j=j'
theorem Qp {i m:Nat} (h:((eu ns i m).map Prod.fst).Nodup):∀ j j',j < m->j' < m->(nd ns (tgt ns (ent ns i j).id)).kind=2->(nd ns (tgt ns (ent ns i j').id)).kind=2->tgt ns (ent ns i j).id=tgt ns (ent ns i j').id->j=j':=by
  induction m with
  | zero=>intro j j' hj;omega
  | succ m ih=>
    intro j j' hj hj' hk hk' e
    by_cases hm:(nd ns (tgt ns (ent ns i m).id)).kind=2
    ·rw [mD hm,List.map_cons,List.nodup_cons] at h
     rcases Nat.lt_succ_iff_lt_or_eq.1 hj with e1|e1
     ·rcases Nat.lt_succ_iff_lt_or_eq.1 hj' with e2|e2
      ·exact ih h.2 j j' e1 e2 hk hk' e
      subst e2;exact absurd (List.mem_map.2 ⟨_,vO.2 ⟨j,e1,hk,rfl⟩,e⟩) h.1
     rcases Nat.lt_succ_iff_lt_or_eq.1 hj' with e2|e2
     ·subst e1;exact absurd (List.mem_map.2 ⟨_,vO.2 ⟨j',e2,hk',rfl⟩,e.symm⟩) h.1
     omega
    grind [nM]
theorem Qq {m:Nat} (h:((fV ns m).map Prod.fst).Nodup):Vi ns m:=by
  induction m with
  | zero=>intro i j i' j' _ _ hi;omega
  | succ m ih=>
    rw [fV,List.map_append] at h
    obtain⟨h1,h2,h3⟩:=List.nodup_append.1 h
    intro i j i' j' g g' hi hi' e
    rcases Nat.lt_succ_iff_lt_or_eq.1 hi with e1|e1
    ·rcases Nat.lt_succ_iff_lt_or_eq.1 hi' with e2|e2
     ·exact ih h2 i j i' j' g g' e1 e2 e
     subst e2
     exact absurd e.symm (h3 _ (List.mem_map.2 ⟨_,vO.2 ⟨j',g'.GZ,g'.dir,rfl⟩,rfl⟩) _ (List.mem_map.2 ⟨_,yS.2 ⟨i,j,e1,g.GZ,g.dir,rfl⟩,rfl⟩))
    rcases Nat.lt_succ_iff_lt_or_eq.1 hi' with e2|e2
    ·subst e1
     exact absurd e (h3 _ (List.mem_map.2 ⟨_,vO.2 ⟨j,g.GZ,g.dir,rfl⟩,rfl⟩) _ (List.mem_map.2 ⟨_,yS.2 ⟨i',j',e2,g'.GZ,g'.dir,rfl⟩,rfl⟩))
    subst e1;subst e2
    exact⟨rfl,Qp h1 j j' g.GZ g'.GZ g.dir g'.dir e⟩
def FP (ns:List ay) (d:Nat->Nat):Prop:=∀ i j,FO ns i j->d i < d (tgt ns (ent ns i j).id)
theorem aW.uniq (h:aW ns):Vi ns ns.length:=Qq h.nodup
theorem aW.deep (h:aW ns):∃ d,FP ns d:=by
  refine⟨fun k=>Classical.choose (h.ends (nd ns k).id),fun i j g=>?_⟩
  have hp:=vN (ns:=ns) (Nat.le_refl _) h.ah
  have hat:=(h.ah i g.X4 j g.GZ).at_
  have htl:=kr hat
  have e1:=Classical.choose_spec (h.ends (nd ns i).id)
  have e2:=Classical.choose_spec (h.ends (nd ns (tgt ns (ent ns i j).id)).id)
  show Classical.choose (h.ends (nd ns i).id) < Classical.choose (h.ends (nd ns (tgt ns (ent ns i j).id)).id)
  generalize Classical.choose (h.ends (nd ns i).id)=x at e1 ⊢
  generalize Classical.choose (h.ends (nd ns (tgt ns (ent ns i j).id)).id)=y at e2 ⊢
  cases hu:up ((fV ns ns.length).map (iN ns)) (nd ns (tgt ns (ent ns i j).id)).id with
  | none=>
    have:=Ml hu
    exact absurd (List.mem_map.2 ⟨_,g.mem,rfl⟩) this
  | some z=>
    obtain⟨_,p,g1,g2,g3⟩:=Mn h.rise htl.1 (fun p hp'=>(hp p hp').1) hu
    obtain⟨a,b,ha,hb,hk,rfl⟩:=yS.1 g1
    have g2:tgt ns (ent ns a b).id=tgt ns (ent ns i j).id:=g2
    obtain⟨rfl,rfl⟩:=h.uniq a b i j ⟨ha,hb,hk⟩ g ha g.X4 g2
    have g3:z=(nd ns a).id:=g3
    cases y with
    | zero=>
      have e2:up _ _=none:=e2
      rw [hu] at e2;cases e2
    | succ y=>
      obtain⟨z',h1,h2⟩:=e2
      rw [hu] at h1
      cases h1
      rw [g3] at h2
      have:=e1.uniq h2
      show x < y+1
      omega
end
end
section
open Go.RowKit Go.Maps aX aq
structure kT (X:FM):Prop where
  cN:0<=X.cN/\X.cN<=4096
  cB:0<=X.cB/\X.cB<=1099511627776
  cH:0<=X.cH/\X.cH<=1024
  now:dw X.cS X.cZ
def gE (n:ay):Nat:=n.id.toNat
def qY (n:ay):Th:=⟨gE n,n.kind⟩
def su (n:ay):aN:=⟨n.id,n.mode,n.uid,n.gid,n.sec,n.nano,0,0,false,n.kind,n.data,n.target,[],none⟩
def Ir:aN:=⟨0,0,0,0,0,0,0,0,false,0,[],⟨#[]⟩,[],none⟩
def wM (X:FM):aL:=⟨{ X with last:=0,ah:=0,used:=0 },fun _=>Ir,[],[],0⟩
def dm (S:aL) (n:ay):aL:={ S with X:={ S.X with last:=n.id,used:=S.X.used+n.data.length },O:=aD S.O (gE n) (fun _=>su n),idx:=ins n.id (qY n) S.idx }
def mP (ns:List ay) (e:cX):Th:=qY (nd ns (tgt ns e.id))
def og (ns:List ay) (S:aL) (n:ay) (e:cX):aL:={ S with X:={ S.X with ah:=S.X.ah+1 },O:=qH S.O (gE n) e.name (mP ns e) }
def cT (ns:List ay):Nat->Nat
  | 0=>0
  | k+1=>cT ns k+(nd ns k).data.length
def Du (ns:List ay):Used Th:=ns.map (fun n=>(n.id,qY n))
structure tG (X:FM) (ns:List ay) (k:Nat) (S:aL):Prop where
  inv:Inv0 S
  idx:S.idx=Du (ns.take k)
  us:S.us=[]
  ar:S.ar=0
  cap:S.X={ X with last:=nB ns k,ah:=0,used:=(cT ns k:Int) }
  ob:∀ a,a < k->obj S.O (gE (nd ns a))=su (nd ns a)
  free:∀ x,(∀ a,a < k->x≠gE (nd ns a))->obj S.O x=Ir
section base
variable {X:FM} {ns:List ay} {i j k a b:Nat} {S:aL}
theorem AZ (h:aW ns) (hk:k < ns.length):(gE (nd ns k):Int)=(nd ns k).id:=by
  have:=h.ids k hk
  unfold gE;omega
theorem vg (h:aW ns) (ha:a < ns.length) (hb:b < ns.length) (e:gE (nd ns a)=gE (nd ns b)):a=b:=
  h.rise.inj ha hb (by rw [← AZ h ha,← AZ h hb,e])
theorem A6 (hk:k < ns.length):ns[k]?=some (nd ns k):=getD_some hk
theorem WE (hk:k < ns.length):ns.take (k+1)=ns.take k++[nd ns k]:=by
  rw [List.take_add_one,A6 hk];rfl
theorem Qr (hX:kT X):tG X ns 0 (wM X):=by
  refine⟨?_,rfl,rfl,rfl,rfl,fun a h=>absurd h (Nat.not_lt_zero a),fun _ _=>rfl⟩
  have hn:∀ t,¬ Live ([]:Used Th) t:=fun t h=>by cases h
  exact⟨hX.cN,hX.cB,hX.cH,hX.now,by show (0:Int)<=0/\(0:Int)<=_;omega,.nil,Nat.zero_le _,fun _ _ e=>(by cases e),fun t h=>absurd h (hn t),fun t h=>absurd h (hn t),fun t h=>absurd h (hn t),fun t h=>absurd h (hn t),
    fun _ _=>⟨rfl,rfl⟩,fun _ _=>rfl,⟨rfl,by show (0:Int)<=8192;omega⟩,fun t h=>absurd h (hn t),fun t h=>absurd h (hn t),fun t h=>absurd h (hn t),.nil,fun x hx=>(by cases hx),(by show ((0:Nat):Int)<=X.cH;have:=hX.cH;omega),⟨Int.le_refl _,hX.cH.1⟩,fun _ _ e=>(by cases e),fun t h=>absurd h (hn t),fun t h=>absurd h (hn t),⟨fun _=>0,fun k d e=>(by cases e)⟩,⟨rfl,by show (0:Int)<=_;omega⟩⟩
theorem MG (h:aW ns) (hk:k < ns.length):∀ x∈keys (Du (ns.take k)),x < (nd ns k).id:=by
  intro x hx
  obtain⟨p,hp,rfl⟩:=List.mem_map.1 hx
  obtain⟨n,hn,rfl⟩:=List.mem_map.1 hp
  obtain⟨a,ha,e⟩:=List.mem_iff_getElem.1 hn
  rw [List.length_take] at ha
  rw [List.getElem_take] at e
  have e2:nd ns a=n:=by
    grind [A6,keys,Du,nd]
  rw [← e2]
  exact h.rise a k (by omega) hk
theorem G0 (hd:∀ i,i < ns.length->(nd ns i).data.length<=1048576) (hk:k<=ns.length):cT ns k<=1048576 * k:=by
  induction k with
  | zero=>exact Nat.le_refl _
  | succ k ih=>
    grind [cT,nd]
theorem Ba (h:aW ns) (hd:∀ i,i < ns.length->(nd ns i).data.length<=1048576) (hk:k < ns.length) (hB:tG X ns k S):tG X ns (k+1) (dm S (nd ns k)):=by
  have hs:=G0 hd (Nat.le_of_lt hk)
  have hn:=h.node k hk
  have hid:=AZ h hk
  have ul:=h.ids k hk
  have hu:S.X.used=(cT ns k:Int):=by rw [hB.cap]
  have hl:S.X.last=nB ns k:=by rw [hB.cap]
  have hlen:=h.len
  have hdk:=hd k hk
  have abP:S.idx.length=k:=by
    rw [hB.idx];unfold Du;rw [List.length_map,List.length_take];omega
  have h1:=hB.inv.newAt (k0:=gE (nd ns k)) (o:=su (nd ns k)) (oH:=S.X.used+(nd ns k).data.length) (us':=S.us) (iK:=S.ar) (by rw [hid,hl];exact h.last hk) (by rw [hid];exact ul.2) ⟨rfl,by rw [hu];omega⟩ hid.symm
    (by have:=hn.kind;show (nd ns k).kind=1\/(nd ns k).kind=2\/(nd ns k).kind=3;omega) rfl rfl rfl rfl
    ⟨hn.mode,hn.uid,hn.gid,hn.time,fun e=>List.eq_nil_of_length_eq_zero (hn.data e),fun _=>rfl,hn.target⟩ (by omega)
    hB.inv.usr hB.inv.tR hB.inv.Az hB.inv.ar (fun h t e=>⟨.inl (hB.inv.us h t e).1,(hB.inv.us h t e).2⟩) (fun _ _=>rfl) (by rw [hB.us];rfl)
  rw [hid] at h1
  refine⟨h1,?_,hB.us,hB.ar,?_,fun a ha=>?_,fun x hx=>(show obj (aD S.O (gE (nd ns k)) fun _=>su (nd ns k)) x=Ir from (fC (hx k (Nat.lt_succ_self k))).trans (hB.free x fun a ha=>hx a (Nat.lt_succ_of_lt ha)))⟩
  ·show ins (nd ns k).id (qY (nd ns k)) S.idx=_
   rw [hB.idx,Jq (MG h hk),WE hk]
   unfold Du;rw [List.map_append];rfl
  ·show ({ S.X with last:=(nd ns k).id,used:=S.X.used+((nd ns k).data.length:Int) }:FM)=_
   rw [hu,hB.cap]
   show (⟨_,_,_,_,_,_,_,_⟩:FM)=⟨_,_,_,_,_,_,_,_⟩
   congr 1
  show obj (aD S.O (gE (nd ns k)) (fun _=>su (nd ns k))) (gE (nd ns a))=_
  rcases Nat.lt_succ_iff_lt_or_eq.1 ha with e|e
  ·rw [fC (fun e2=>by have:=vg h (by omega) hk e2;omega)]
   exact hB.ob a e
  subst e;exact cV
theorem tG.fresh (h:aW ns) (hk:k < ns.length) (hB:tG X ns k S):wC S.O S.idx S.us (gE (nd ns k)):=hB.inv.FD (by rw [AZ h hk,hB.cap];exact h.last hk)
theorem tG.new (h:aW ns) (hk:k < ns.length) (hB:tG X ns k S):aq.get S.idx (nd ns k).id=none:=get_none.2 (fun hm=>by
  rw [hB.idx] at hm
  exact absurd (MG h hk _ hm) (by omega))
theorem Dv (X:FM) (L:HL):(∀ k,cJ (wM X).O L k=ct.none)/\(∀ k,bX (wM X).O L k=ct.none)/\∀ k,dL (wM X).O L k=ct.none:=⟨fun _=>if_pos rfl,fun _=>if_neg (by show ¬ (0:Int)=1;omega),fun _=>if_neg (by show ¬ (0:Int)=2;omega)⟩
theorem Sat.aad {β:Bs} {l l':List HP} {w:World} {i j b m c:Nat} {ix:List Nat} {O:bZ} {L L':HL} {A:Option Addr} {o:aN} (h:Sat β l w) (hL:L'=L.put k b m A c) (hp:l[i]?=some (.abs (aF (bX O L)))) (hq:l[j]?=some (.abs (av 5 1 A o.data.length c (cx o.data)))) (hd:aP (i::j::ix)=true) (hl:bp l ix=some l') (h1:o.kind=1):Sat β (.abs (aF (bX (aD O k (fun _=>o)) L'))::l') w:=by
  refine h.uN hp hq (fun _ _ h=>h) hd hl k (fun x hx=>by rw [Ak hx,BX hL hx]) ?_
  grind [vD,cV,HL.put]
end base
theorem WG {O:bZ} {L:HL} {d:Nat} {name:ByteArray} {t:Th}:bX (qH O d name t) L=bX O L:=
  vJ (fun _=>Dh (g:=aN.data) (fun _ _=>rfl) (fun _ _=>rfl) (fun _ _=>rfl)) (fun _=>Am)
def rN (ns:List ay) (i j a:Nat):Nat:=if a < i then (nd ns a).ah.length else if a=i then j else 0
def qL (ns:List ay) (a m:Nat):fB Th:=((nd ns a).ah.take m).map (fun e=>(e.name,mP ns e))
structure iF (X:FM) (ns:List ay) (i j:Nat) (S:aL):Prop where
  inv:Inv0 S
  idx:S.idx=Du ns
  us:S.us=[]
  ar:S.ar=0
  cap:S.X={ X with last:=nB ns ns.length,ah:=((bJ ns i+j:Nat):Int),used:=(cT ns ns.length:Int) }
  ob:∀ a,a < ns.length->∃ l u,obj S.O (gE (nd ns a))={ su (nd ns a) with links:=l,ah:=qL ns a (rN ns i j a),up:=u }
  free:∀ x,(∀ a,a < ns.length->x≠gE (nd ns a))->obj S.O x=Ir
section ah
variable {X:FM} {ns:List ay} {i j k a b m:Nat} {S:aL} {t:Th}
theorem tG.ah (h:tG X ns ns.length S):iF X ns 0 0 S:=by
  refine⟨h.inv,by rw [h.idx,List.take_of_length_le (Nat.le_refl _)],h.us,h.ar,h.cap,fun a ha=>⟨0,none,?_⟩,h.free⟩
  rw [h.ob a ha]
  have:rN ns 0 0 a=0:=by
    grind [rN]
  rw [this];rfl
theorem iF.get (h:iF X ns i j S) (ha:a < ns.length):aq.get S.idx (nd ns a).id=some (qY (nd ns a)):=by
  refine kH h.inv.rise ?_
  rw [h.idx]
  exact List.mem_map.2 ⟨nd ns a,List.mem_of_getElem? (A6 ha),rfl⟩
theorem iF.live (hG:aW ns) (h:iF X ns i j S) (ha:a < ns.length):Live S.idx (qY (nd ns a)):=by
  have:=h.get ha
  rw [← AZ hG ha] at this
  exact this
theorem iF.of (h:iF X ns i j S) {x:Int} (e:aq.get S.idx x=some t):∃ a,a < ns.length/\t=qY (nd ns a):=by
  have hm:=get_mem e
  rw [h.idx] at hm
  obtain⟨n,hn,e2⟩:=List.mem_map.1 hm
  obtain⟨a,ha,e3⟩:=List.mem_iff_getElem.1 hn
  have e4:nd ns a=n:=by
    grind [A6,qY,nd]
  cases e2
  exact⟨a,ha,by rw [e4]⟩
theorem JV {es:List cX} {q:Nat} (hq:q < es.length):es[q]?=some (en es q):=getD_some hq
theorem yT {e:ByteArray×Th} (h:e∈qL ns a m):∃ q,q < m/\q < (nd ns a).ah.length/\e.1=(ent ns a q).name/\e.2=mP ns (ent ns a q):=by
  obtain⟨x,hx,rfl⟩:=List.mem_map.1 h
  obtain⟨q,hq,e⟩:=List.mem_iff_getElem.1 hx
  rw [List.length_take] at hq
  rw [List.getElem_take] at e
  have e2:ent ns a q=x:=by
    have:=JV (es:=(nd ns a).ah) (q:=q) (by omega)
    grind [qL,nd,ent,mP]
  grind
theorem Qs (hj:j < (nd ns i).ah.length):qL ns i (j+1)=qL ns i j++[((ent ns i j).name,mP ns (ent ns i j))]:=by
  unfold qL
  rw [List.take_add_one,JV hj,List.map_append];rfl
theorem FQ (hG:aW ns) (hi:i < ns.length) {q:Nat}:∀ {j},q < j->j < (nd ns i).ah.length->rC (ent ns i q).name (ent ns i j).name < 0
  | 0,h,_=>absurd h (Nat.not_lt_zero q)
  | j+1,h,hj=>by
    have h1:=Eg.1 (hG.ah i hi (j+1) hj).ord
    have h1:rC (ent ns i j).name (ent ns i (j+1)).name < 0:=h1
    rcases Nat.lt_succ_iff_lt_or_eq.1 h with e|e
    ·exact DY (FQ hG hi e (by omega)) (Int.le_of_lt h1)
    rw [e];exact h1
theorem TH (hG:aW ns) (hi:i < ns.length) (hj:j < (nd ns i).ah.length):aM (ent ns i j).name (qL ns i j)=none:=by
  refine yD.2 (fun e he e1=>?_)
  obtain⟨q,h1,h2,h3,_⟩:=yT he
  have:=FQ hG hi h1 hj
  grind [Gu,ent]
theorem G3 {n:ByteArray}:∀ {es:fB Th},(∀ e∈es,rC e.1 n < 0)->gV n t es=es++[(n,t)]
  | [],_=>rfl
  | e::r,h=>by
    have h1:=h e (List.mem_cons_self ..)
    unfold gV
    rw [if_neg (fun hc=>by have:=Eg.1 hc;have:=zR e.1 n;omega),G3 (fun x hx=>h x (List.mem_cons_of_mem _ hx))];rfl
theorem TJ (hG:aW ns) (hi:i < ns.length) (hj:j < (nd ns i).ah.length):gV (ent ns i j).name (mP ns (ent ns i j)) (qL ns i j)=qL ns i (j+1):=by
  grind [Qs,G3,yT,FQ]
theorem vQ (hG:aW ns) (hi:i < ns.length) (hj:j < (nd ns i).ah.length):tgt ns (ent ns i j).id < ns.length/\(nd ns (tgt ns (ent ns i j).id)).id=(ent ns i j).id:=by
  have:=kr (hG.ah i hi j hj).at_
  exact⟨this.1,this.2.1⟩
theorem FR {O:bZ} {d x:Nat} {name:ByteArray} (h:t.k≠d):obj (qH O d name t) x=if x=d then { obj O d with ah:=gV name t (obj O d).ah } else if x=t.k then { obj O x with links:=(obj O x).links+1,up:=if t.kind=2 then some d else (obj O x).up } else obj O x:=by
  grind [aD,gV,obj,up,gM,qH]
theorem iF.aaS (hG:aW ns) (h:iF X ns i j S) {d:Nat} (hd:Live S.idx ⟨d,2⟩) {n:ByteArray} (ha:a < ns.length) (hk:(nd ns a).kind=2) (hl:aM n (obj S.O d).ah=some (qY (nd ns a))):∃ b q,b < ns.length/\d=gE (nd ns b)/\FO ns b q/\tgt ns (ent ns b q).id=a:=by
  obtain⟨b,hb,e⟩:=h.of hd
  have e:(⟨d,2⟩:Th)=⟨gE (nd ns b),(nd ns b).kind⟩:=e
  have e1:d=gE (nd ns b):=congrArg Th.k e
  subst e1
  obtain⟨l,u,ho⟩:=h.ob b hb
  have hm:=nN hl
  rw [ho] at hm
  obtain⟨q,h1,h2,_,h4⟩:=yT hm
  have ht:=vQ hG hb h2
  have h5:gE (nd ns a)=gE (nd ns (tgt ns (ent ns b q).id)):=congrArg Th.k h4
  have h6:=vg hG ha ht.1 h5
  exact⟨b,q,hb,rfl,⟨hb,h2,by rw [← h6];exact hk⟩,h6.symm⟩
theorem iF.below (hG:aW ns) (h:iF X ns i j S) {dp:Nat->Nat} (hdp:FP ns dp) {s k:Nat} (hb:ox S.O s k):∀ {a b},a < ns.length->k=gE (nd ns a)->b < ns.length->s=gE (nd ns b)->dp b<=dp a:=by
  induction hb with
  | here=>
    grind [vg]
  | up hup _ ih=>
    intro a b ha e1 hb e2
    subst e1
    have hlv:=h.live hG ha
    obtain⟨h1,h2,n,h3⟩:=(h.inv.up _ hlv _).1 hup
    obtain⟨c,q,hc,e3,hD,e4⟩:=h.aaS hG h2 ha h1 h3
    grind [FP,gE,nd]
theorem iF.links (hG:aW ns) (h:iF X ns i j S) (hi:i < ns.length) (hj:j < (nd ns i).ah.length) (hk:(mP ns (ent ns i j)).kind=2):(obj S.O (mP ns (ent ns i j)).k).links=0:=by
  have ht:=vQ hG hi hj
  have hlv:Live S.idx (mP ns (ent ns i j)):=h.live hG ht.1
  rw [h.inv.links _ hlv]
  cases hz:jx S.idx S.O (mP ns (ent ns i j)).k with
  | zero=>rfl
  | succ z=>
    exfalso
    obtain⟨x,u,hu,e,he,e1⟩:=Ed h.inv.rise (show 0 < jx S.idx S.O (mP ns (ent ns i j)).k by omega)
    obtain⟨b,hb,rfl⟩:=h.of hu
    obtain⟨l,u,ho⟩:=h.ob b hb
    have he:e∈(obj S.O (gE (nd ns b))).ah:=he
    rw [ho] at he
    obtain⟨q,h1,h2,_,h4⟩:=yT he
    have ht2:=vQ hG hb h2
    have h5:gE (nd ns (tgt ns (ent ns b q).id))=gE (nd ns (tgt ns (ent ns i j).id)):=by
      rw [h4] at e1;exact e1
    have h6:=vg hG ht2.1 ht.1 h5
    obtain⟨rfl,rfl⟩:=hG.uniq b q i j ⟨hb,h2,by rw [h6];exact hk⟩ ⟨hi,hj,hk⟩ hb hi h6
    grind [rN]
theorem iF.look (hG:aW ns) (h:iF X ns i j S) (hi:i < ns.length) (hj:j < (nd ns i).ah.length):(obj S.O (gE (nd ns i))).ah=qL ns i j/\aM (ent ns i j).name (obj S.O (gE (nd ns i))).ah=none/\(nd ns i).kind=2:=by
  obtain⟨l,u,ho⟩:=h.ob i hi
  have e1:(obj S.O (gE (nd ns i))).ah=qL ns i j:=by
    grind [qL,rN]
  refine⟨e1,by rw [e1];exact TH hG hi hj,?_⟩
  cases Decidable.em ((nd ns i).kind=2) with
  | inl h=>exact h
  | inr h=>have:=(hG.node i hi).ah h;omega
theorem iF.gone (h:iF X ns i j S) (ha:a < ns.length):(obj S.O (gE (nd ns a))).gone=false:=by
  obtain⟨l,u,ho⟩:=h.ob a ha
  rw [ho];rfl
theorem iF.ne (hG:aW ns) (hi:i < ns.length) (hj:j < (nd ns i).ah.length) (hk:(nd ns i).kind=2):(mP ns (ent ns i j)).k≠gE (nd ns i):=fun e=>by
  have ht:=vQ hG hi hj
  have h1:=vg hG ht.1 hi e
  obtain⟨dp,hdp⟩:=hG.deep
  have:=hdp i j ⟨hi,hj,by rw [h1];exact hk⟩
  rw [h1] at this
  exact Nat.lt_irrefl _ this
theorem iF.step (hG:aW ns) (h:iF X ns i j S) (hi:i < ns.length) (hj:j < (nd ns i).ah.length):iF X ns i (j+1) (og ns S (nd ns i) (ent ns i j)):=by
  obtain⟨l1,l2,l3⟩:=h.look hG hi hj
  have ht:=vQ hG hi hj
  have hne:=iF.ne hG hi hj l3
  have hld:Live S.idx ⟨gE (nd ns i),2⟩:=by
    have:=h.live hG hi
    unfold qY at this
    rw [l3] at this
    exact this
  have hlt:Live S.idx (mP ns (ent ns i j)):=h.live hG ht.1
  have hX:S.X.ah=((bJ ns i+j:Nat):Int):=by rw [h.cap]
  have hsum:bJ ns i+j < 8192:=by
    have h1:bJ ns (i+1)<=bJ ns ns.length:=mI hi
    have h2:bJ ns (i+1)=bJ ns i+(nd ns i).ah.length:=rfl
    have h3:=hG.sum
    omega
  have h1:=h.inv.put (O':=qH S.O (gE (nd ns i)) (ent ns i j).name (mP ns (ent ns i j))) (ta:=(obj S.O (gE (nd ns i))).sec) (tb:=(obj S.O (gE (nd ns i))).nano) hld (h.gone hi) l2 (hG.ah i hi j hj).good hlt (h.gone ht.1) (fun hk=>⟨h.links hG hi hj hk,fun hb=>by
      obtain⟨dp,hdp⟩:=hG.deep
      have h2:=h.below hG hdp hb hi rfl ht.1 rfl
      have h3:=hdp i j ⟨hi,hj,hk⟩
      omega⟩) hne (by rw [hX];omega) (h.inv.mt _ hld).time (fun x=>FR hne)
  refine⟨h1,h.idx,h.us,h.ar,?_,fun a ha=>?_,fun x hx=>(FR hne).trans (by rw [if_neg (hx i hi),if_neg (show ¬ x=(mP ns (ent ns i j)).k from hx _ ht.1)];exact h.free x hx)⟩
  ·show ({ S.X with ah:=S.X.ah+1 }:FM)=_
   rw [hX,h.cap]
   show (⟨_,_,_,_,_,_,_,_⟩:FM)=⟨_,_,_,_,_,_,_,_⟩
   congr 1
  obtain⟨l,u,ho⟩:=h.ob a ha
  show ∃ l u,obj (qH S.O (gE (nd ns i)) (ent ns i j).name (mP ns (ent ns i j))) (gE (nd ns a))=_
  rw [FR hne]
  by_cases e:a=i
  ·subst e
   refine⟨l,u,?_⟩
   rw [if_pos rfl,l1,TJ hG hi hj,ho]
   have hc:rN ns a (j+1) a=j+1:=by unfold rN;rw [if_neg (Nat.lt_irrefl _),if_pos rfl]
   rw [hc]
  have hc:rN ns i (j+1) a=rN ns i j a:=by
    unfold rN;rw [if_neg e,if_neg e]
  rw [if_neg (fun e2=>e (vg hG ha hi e2)),hc]
  split
  ·rw [ho];exact⟨_,_,rfl⟩
  exact⟨l,u,ho⟩
theorem iF.next (h:iF X ns i (nd ns i).ah.length S):iF X ns (i+1) 0 S:=by
  refine⟨h.inv,h.idx,h.us,h.ar,h.cap,fun a ha=>?_,h.free⟩
  obtain⟨l,u,ho⟩:=h.ob a ha
  grind [rN,nd]
theorem iF.full (h:iF X ns i j S):Inv S:=by
  refine⟨h.inv,fun t ht hg=>?_⟩
  obtain⟨a,ha,rfl⟩:=h.of ht
  have:(obj S.O (gE (nd ns a))).gone=true:=hg
  rw [h.gone ha] at this
  cases this
theorem iF.graph (hG:aW ns) (h:iF X ns ns.length 0 S):ax S=ns:=by
  unfold ax
  rw [h.idx]
  unfold Du
  rw [List.map_map]
  refine List.ext_getElem? (fun a=>?_)
  rw [List.getElem?_map]
  by_cases ha:a < ns.length
  ·rw [A6 ha]
   refine congrArg some ?_
   show gH S.O (nd ns a).id ⟨gE (nd ns a),(nd ns a).kind⟩=nd ns a
   unfold gH
   obtain⟨l,u,ho⟩:=h.ob a ha
   rw [ho]
   have he:(qL ns a (rN ns ns.length 0 a)).map (dK S.O)=(nd ns a).ah:=by
     unfold rN
     rw [if_pos ha]
     unfold qL
     rw [List.take_of_length_le (Nat.le_refl _),List.map_map]
     refine List.ext_getElem? (fun q=>?_)
     rw [List.getElem?_map]
     by_cases hq:q < (nd ns a).ah.length
     ·rw [JV hq]
      refine congrArg some ?_
      have ht:=vQ hG ha hq
      obtain⟨l,u,ho⟩:=h.ob _ ht.1
      have e1:(obj S.O (mP ns (en (nd ns a).ah q)).k).id=(en (nd ns a).ah q).id:=by
        show (obj S.O (gE (nd ns (tgt ns (ent ns a q).id)))).id=(ent ns a q).id
        rw [ho];exact ht.2
      show (⟨(en (nd ns a).ah q).name,(obj S.O (mP ns (en (nd ns a).ah q)).k).id⟩:cX)=_
      rw [e1]
     rw [List.getElem?_eq_none (by omega)];rfl
   show (⟨_,_,_,_,_,_,_,_,_,List.map (dK S.O) (qL ns a (rN ns ns.length 0 a))⟩:ay)=_
   rw [he]
   rfl
  rw [List.getElem?_eq_none (by omega)];rfl
end ah
end
section
open Go.RowKit aX aq Go.Maps
theorem Qt {l:List Int} {j:Nat} (h:j < l.length):(ints l)[j]?=some (.int .i64 (l.getD j 0)):=by
  simp [ints,List.getD_eq_getElem?_getD,h]
theorem EB {ks:List Int} (h:aq.bH ks) {i j:Nat} (hij:i < j) (hj:j < ks.length):ks.getD i 0 < ks.getD j 0:=by
  have:=List.pairwise_iff_getElem.1 h i j (by omega) hj hij
  grind
theorem wN {ks:List Int} {j:Nat} (h:j < ks.length):ks.getD j 0∈ks:=by
  grind
end
section
open Go.RowKit aX aq Go.Maps
theorem iW.get {β:Bs} {A:Option Addr} {l:List Int} (h:bU β A (ints l)) {j:Nat} (hj:j < l.length):A=some ⟨aJ A,aI A,none⟩/\Rd β ⟨aJ A,aI A+j * 1,none⟩ (.int .i64 (l.getD j 0)):=by
  have:=h j _ (Qt hj)
  rw [Nat.mul_one];exact this
theorem iW.hd {β:Bs} {A:Option Addr} {l:List Int} (h:bU β A (ints l)) {j:Nat} (hj:j < l.length):A=some ⟨aJ A,aI A,none⟩:=(iW.get h hj).1
theorem iW.rd {β:Bs} {A:Option Addr} {l:List Int} (h:bU β A (ints l)) {j:Nat} (hj:j < l.length):Rd β ⟨aJ A,aI A+j * 1,none⟩ (.int .i64 (l.getD j 0)):=(iW.get h hj).2
def gq (us:Used Int):List Int:=us.map (·.2)
theorem jr (us:Used Int):(gq us).length=us.length:=by simp [gq]
theorem gF {V:Type} (us:Used V):(keys us).length=us.length:=by simp [keys]
def qv:List Int->Int->Int
  | [],_=>-1
  | k::r,h=>if k=h then 0 else if qv r h < 0 then -1 else qv r h+1
theorem JW {ks:List Int} {h:Int}:(∀ j,j < ks.length->¬ ks.getD j 0=h)->qv ks h = -1:=by
  induction ks with
  | nil=>intro _;rfl
  | cons k r ih=>
    intro hn
    have h0:¬ k=h:=hn 0 (by simp)
    have:=ih (fun j hj=>by have:=hn (j+1) (by simpa using hj);simpa using this)
    rw [qv,if_neg h0,this];rfl
theorem Qu:∀ {ks:List Int} {h:Int} {i:Nat},i < ks.length->ks.getD i 0=h->(∀ j,j < i->¬ ks.getD j 0=h)->qv ks h=i
  | k::r,h,0,_,e,_=>by
    have e:k=h:=e
    rw [qv,if_pos e];rfl
  | k::r,h,i+1,hi,e,hn=>by
    have h0:¬ k=h:=hn 0 (by omega)
    have:=Qu (ks:=r) (h:=h) (i:=i) (by simpa using hi) (by simpa using e) (fun j hj=>by have:=hn (j+1) (by omega);simpa using this)
    rw [qv,if_neg h0,this,if_neg (by omega)]
    omega
theorem MH {ks:List Int} {h:Int} (hm:h∈ks):∃ i:Nat,qv ks h=i/\i < ks.length/\ks.getD i 0=h:=by
  induction ks with
  | nil=>cases hm
  | cons k r ih=>
    by_cases e:k=h
    ·exact⟨0,by rw [qv,if_pos e];rfl,by simp,e⟩
    rcases List.mem_cons.1 hm with e2|hm
    ·exact absurd e2.symm e
    obtain⟨i,h1,h2,h3⟩:=ih hm
    exact⟨i+1,by rw [qv,if_neg e,h1,if_neg (by omega)];omega,by simpa using h2,by simpa using h3⟩
theorem MI {ks:List Int} {h:Int} (hm:h∉ks):qv ks h = -1:=JW (fun _ hj e=>hm (e ▸ wN hj))
theorem MJ {ks:List Int} {h:Int}:0<=qv ks h↔h∈ks:=by
  grind [MH,MI]
theorem o3:∀ (ks:List Int) (h:Int),iV h ks<=h+ks.length
  | [],h=>by simp [iV]
  | k::r,h=>by
    rw [iV]
    split
    ·have:=o3 r (h+1);simp only [List.length_cons];omega
    simp only [List.length_cons];omega
theorem least_le {V:Type} (us:Used V):aq.least us<=1+us.length:=by
  have:=o3 (keys us) 1
  rw [gF] at this
  exact this
theorem Oh {V:Type} {us:Used V} (hr:aq.bH (keys us)) (hp:∀ x∈keys us,1<=x):1<=aq.least us/\aq.least us∉keys us/\∀ x,1<=x->x < aq.least us->x∈keys us:=nj (keys us) 1 hr hp
section ins
variable {h v:Int}
theorem JX:∀ {l:Used Int},(∀ p∈l,¬ h < p.1)->ins h v l=l++[(h,v)]
  | [],_=>rfl
  | p::r,hn=>by
    rw [ins,if_neg (hn p (List.mem_cons_self ..)),JX (fun q hq=>hn q (List.mem_cons_of_mem _ hq))];rfl
theorem G4:∀ {l:Used Int} {x:Int×Int},(∀ p∈l,¬ h < p.1)->h < x.1->ins h v (l++[x])=l++[(h,v),x]
  | [],x,_,hx=>by show ins h v [x]=_;rw [ins,if_pos hx];rfl
  | p::r,x,hn,hx=>by
    rw [List.cons_append,ins,if_neg (hn p (List.mem_cons_self ..)),G4 (fun q hq=>hn q (List.mem_cons_of_mem _ hq)) hx];rfl
theorem JY:∀ {l:Used Int} {x:Int×Int},(∃ p∈l,h < p.1)->ins h v (l++[x])=ins h v l++[x]
  | [],_,hd=>by obtain⟨p,hp,_⟩:=hd;cases hp
  | p::r,x,hd=>by
    rw [List.cons_append,ins,ins]
    split
    ·rfl
    rename_i hp
    obtain⟨q,hq,hlt⟩:=hd
    rcases List.mem_cons.1 hq with e|hq
    ·exact absurd (e ▸ hlt) hp
    rw [JY ⟨q,hq,hlt⟩];rfl
end ins
def pr (us:Used Int) (i:Nat):Int×Int:=us.getD i (0,0)
theorem sR {us:Used Int} {i:Nat} (hi:i < us.length):us.take (i+1)=us.take i++[pr us i]:=by
  rw [List.take_add_one]
  grind [pr]
theorem vk {us:Used Int} {i:Nat} (hi:i < us.length):(keys us).getD i 0=(pr us i).1/\(gq us).getD i 0=(pr us i).2:=by
  grind [keys,gq,pr]
structure iX (us:Used Int) (h v:Int) (i:Nat) (d:Bool) (q:Used Int):Prop where
  yes:d=true->(∃ p∈us.take i,h < p.1)/\q=ins h v (us.take i)
  no:d=false->(∀ p∈us.take i,¬ h < p.1)/\q=us.take i
  len:q.length=i+(if d then 1 else 0)
section put
variable {us q:Used Int} {h v:Int} {i:Nat} {d:Bool}
theorem iX.zero:iX us h v 0 false []:=⟨fun e=>(by cases e),fun _=>⟨fun p hp=>(by simp at hp),(by simp)⟩,rfl⟩
theorem iX.hit (hp:iX us h v i false q) (hi:i < us.length) (hk:h < (pr us i).1):iX us h v (i+1) true (q++[(h,v)]++[pr us i]):=by
  obtain⟨h1,rfl⟩:=hp.no rfl
  refine⟨fun _=>⟨⟨pr us i,by rw [sR hi];simp,hk⟩,by rw [sR hi,G4 h1 hk];simp⟩,fun e=>(by cases e),?_⟩
  simp
  omega
theorem iX.miss (hp:iX us h v i false q) (hi:i < us.length) (hk:¬ h < (pr us i).1):iX us h v (i+1) false (q++[pr us i]):=by
  obtain⟨h1,rfl⟩:=hp.no rfl
  refine⟨fun e=>(by cases e),fun _=>⟨fun p hpm=>?_,(sR hi).symm⟩,by simp;omega⟩
  grind [sR]
theorem iX.more (hp:iX us h v i true q) (hi:i < us.length):iX us h v (i+1) true (q++[pr us i]):=by
  obtain⟨⟨p,h1,h2⟩,rfl⟩:=hp.yes rfl
  refine⟨fun _=>⟨⟨p,by rw [sR hi];exact List.mem_append_left _ h1,h2⟩,by rw [sR hi,JY ⟨p,h1,h2⟩]⟩,fun e=>(by cases e),?_⟩
  have:=hp.len
  simp at this ⊢
  omega
theorem iX.last (hp:iX us h v us.length false q):q++[(h,v)]=ins h v us:=by
  obtain⟨h1,rfl⟩:=hp.no rfl
  grind [JX]
theorem iX.end_ (hp:iX us h v us.length true q):q=ins h v us:=by
  obtain⟨_,rfl⟩:=hp.yes rfl
  rw [List.take_length]
end put
theorem TK (q:Used Int) (x:Int×Int):gq (q++[x])=gq q++[x.2]:=by simp [gq]
theorem GV (q:Used Int) (x:Int×Int):keys (q++[x])=keys q++[x.1]:=by simp [keys]
theorem JZ {us:Used Int} {h:Int} {i:Nat} (hi:i < us.length):del h (us.take (i+1))=if (pr us i).1=h then del h (us.take i) else del h (us.take i)++[pr us i]:=by
  grind [sR,del,pr]
theorem Oi {us:Used Int} {h:Int}:(del h us).length<=us.length:=List.length_filter_le ..
theorem EC {us:Used Int} (hr:aq.bH (keys us)) {i j:Nat} (hi:i < us.length) (hj:j < us.length) (e:(pr us i).1=(pr us j).1):i=j:=by
  rw [← (vk hi).1,← (vk hj).1] at e
  rcases Nat.lt_trichotomy i j with h|h|h
  ·have:=EB hr h (by rw [gF];exact hj);omega
  ·exact h
  have:=EB hr h (by rw [gF];exact hi);omega
theorem X5 {us:Used Int} (hr:aq.bH (keys us)) {i:Nat} (hi:i < us.length) {h:Int} (e:(pr us i).1=h):aq.get us h=some (pr us i).2:=by
  have hm:pr us i∈us:=by unfold pr;rw [List.getD_eq_getElem?_getD,List.getElem?_eq_getElem hi];exact List.getElem_mem hi
  unfold aq.get
  cases hf:us.find? (fun p=>p.1 == h) with
  | none=>
    grind
  | some p=>
    have h1:=List.mem_of_find?_eq_some hf
    have h2:=List.find?_some hf
    obtain⟨j,hj,rfl⟩:=List.getElem_of_mem h1
    grind [pr,EC]
end
section
open Go.RowKit Go.Maps aX aq
noncomputable section
structure RS where
  ns:List ay
  gone:List Int
  us:Used Int
  ar:Int
  cN:Int
  cB:Int
  cH:Int
  cS:Int
  cZ:Int
  last:Int
def jm (name:ByteArray) (id:Int):List cX->List cX
  | []=>[⟨name,id⟩]
  | e::r=>if ¬ eG e.name name then ⟨name,id⟩::e::r else e::jm name id r
def oh (name:ByteArray) (es:List cX):List cX:=es.filter (fun e=>decide (e.name≠name))
def jL (s z:Int) (ns:List ay) (d:Nat) (es:List cX):List ay:=ns.set d { nd ns d with ah:=es,sec:=s,nano:=z }
def bn (ns:List ay) (d:Nat) (name:ByteArray):Int:=match wL (nd ns d).ah name with|none=>-1|some j=>fP ns (en (nd ns d).ah j).id
def qw (ns:List ay) (id:Int):Int:=(jU ns id ns.length:Int)
def nD (name:ByteArray):List cX->Int->Int
  | [],z=>z
  | e::r,z=>nD name r (if e.name=name then e.id else z)
variable (R:RS)
def eH (h:Int):Except Int Nat:=match aq.get R.us h with|none=>.error 131|some id=>.ok (tgt R.ns id)
def d6 (h:Int) (name:ByteArray) (need:Int):Except Int Nat:=
  match eH R h with
  | .error e=>.error e
  | .ok d=>
    if (nd R.ns d).kind=2 then
      if (nd R.ns d).id∈R.gone then .error 170
      else if bQ name then if bits BinOp.and .i64 (nd R.ns d).mode need=need then .ok d else .error 175
      else .error 95
    else .error 173
def bD (d:Nat) (name:ByteArray) (id:Int):RS:={ R with ns:=jL R.cS R.cZ R.ns d (jm name id (nd R.ns d).ah) }
def bA (d:Nat) (name:ByteArray) (free:Bool):RS:=
  let ns:=jL R.cS R.cZ R.ns d (oh name (nd R.ns d).ah)
  let id:=nD name (nd R.ns d).ah 0
  { R with ns:=ns,gone:=if free=true/\qw ns id=0 then R.gone++[id] else R.gone }
def ol (n:ay):Bool:=decide (n.id∈R.gone->n.id∈gq R.us)
def dx:RS:={ R with ns:=R.ns.filter (ol R),gone:=((R.ns.filter (ol R)).filter (fun n=>decide (n.id∈R.gone))).map ay.id }
def sS (d:Nat) (name:ByteArray) (n:ay):RS:=
  let id:=R.last+1
  let R1:=bD { R with last:=id } d name id
  { R1 with ns:=R1.ns++[{ n with id:=id,sec:=R.cS,nano:=R.cZ }] }
def rO:Prop:=(R.ns.length:Int) < R.cN/\R.last < 1099511627776/\(bJ R.ns R.ns.length:Int) < 8192
instance:Decidable (rO R):=inferInstanceAs (Decidable (_/\_/\_))
abbrev sU:=RS×Int×Int
def iC (k:Nat):sU:=
  if (R.us.length:Int) < R.cH then ({ R with us:=ins (least R.us) (nd R.ns k).id R.us,ar:=max R.ar ((R.us.length:Int)+1) },least R.us,0) else (R,0,130)
def lP (k:Nat) (bs:List UInt8):sU:=
  if bs=[] then (R,0,0)
  else if R.cB - (cT R.ns R.ns.length:Int)<=0 then (R,0,176)
  else
    let n:=(min (bs.length:Int) (R.cB - (cT R.ns R.ns.length:Int))).toNat
    ({ R with ns:=R.ns.set k { nd R.ns k with data:=(nd R.ns k).data++bs.take n,sec:=R.cS,nano:=R.cZ } },(n:Int),0)
def bK (d:Nat) (name:ByteArray) (n:ay):RS×Int:=
  if n.kind=3/\iQ n.target≠0 then (R,iQ n.target)
  else if 0<=bn R.ns d name then (R,171)
  else if rO R then (sS R d name n,0) else (R,177)
def fZ (d:Nat) (name:ByteArray) (dir:Bool):RS×Int:=
  if 0<=bn R.ns d name then
    let k:=(bn R.ns d name).toNat
    if dir=false/\(nd R.ns k).kind=2 then (R,172)
    else if dir=true/\(nd R.ns k).kind≠2 then (R,173)
    else if dir=true/\0 < (nd R.ns k).ah.length then (R,178)
    else (dx (bA R d name true),0)
  else (R,170)
def kJ (ns:List ay) (id:Int):Nat->Int
  | 0=>-1
  | i+1=>if 0 < fw (nd ns i).ah id (nd ns i).ah.length then (i:Int) else kJ ns id i
def fT (ns:List ay) (top:Nat):Nat->Nat->Bool
  | 0,_=>false
  | k+1,d=>if d=top then true else if kJ ns (nd ns d).id ns.length < 0 then false else fT ns top k (kJ ns (nd ns d).id ns.length).toNat
def eV (f:Nat) (name:ByteArray) (to:Nat) (toName:ByteArray):RS×Int:=
  if 0<=bn R.ns f name then
    let k:=(bn R.ns f name).toNat
    if (nd R.ns k).kind=2/\fT R.ns k (R.ns.length+1) to=true then (R,174)
    else if bn R.ns to toName=(k:Int) then (R,0)
    else if 0<=bn R.ns to toName then
      if (nd R.ns (bn R.ns to toName).toNat).kind=2 then (R,172)
      else if (nd R.ns k).kind=2 then (R,173)
      else (dx (bD (bA (bA R to toName true) f name false) to toName (nd R.ns k).id),0)
    else (dx (bD (bA R f name false) to toName (nd R.ns k).id),0)
  else (R,170)
def fN (c:aH) (want:Int):sU:=
  match d6 R c.handle c.name 64 with
  | .error e=>(R,0,e)
  | .ok d=>
    if 0<=bn R.ns d c.name then
      let k:=(bn R.ns d c.name).toNat
      if (nd R.ns k).kind=3 then (R,0,174)
      else if (nd R.ns k).kind≠want then (R,0,if (nd R.ns k).kind=1 then 173 else 172)
      else iC R k
    else (R,0,170)
def mK (c:aH) (need:Int):Except Int (Nat×Nat):=
  match d6 R c.handle c.name need with
  | .error e=>.error e
  | .ok f=>match d6 R c.other c.text 192 with
    | .error e=>.error e
    | .ok to=>.ok (f,to)
def jj (c:aH):sU:=
  match eH R c.handle with
  | .error e=>(R,0,e)
  | .ok k=>
    if (nd R.ns k).kind=2/\(nd R.ns k).id∈R.gone then (R,0,170)
    else if gA c.mode then
      if mh c.uid/\mh c.gid then
        if dw c.sec c.nano then ({ R with ns:=R.ns.set k { nd R.ns k with mode:=c.mode,uid:=c.uid,gid:=c.gid,sec:=c.sec,nano:=c.nano } },0,0)
        else (R,0,20)
      else (R,0,11)
    else (R,0,120)
def eM (c:aH) (d:Nat):sU:=
  if c.op=8\/c.op=14 then ((fZ R d c.name (decide (c.op=14))).1,0,(fZ R d c.name (decide (c.op=14))).2)
  else if c.op=6 then ((bK R d c.name ⟨0,3,511,0,0,0,0,[],c.text,[]⟩).1,0,(bK R d c.name ⟨0,3,511,0,0,0,0,[],c.text,[]⟩).2)
  else if gA c.mode then
    if c.op=5 then
      let m:=bK R d c.name ⟨0,1,c.mode,0,0,0,0,[],⟨#[]⟩,[]⟩
      if m.2=0 then iC m.1 (m.1.ns.length - 1) else (m.1,0,m.2)
    else ((bK R d c.name ⟨0,2,c.mode,0,0,0,0,[],⟨#[]⟩,[]⟩).1,0,(bK R d c.name ⟨0,2,c.mode,0,0,0,0,[],⟨#[]⟩,[]⟩).2)
  else (R,0,120)
def rP (c:aH):sU:=
  match mK R c 64 with
  | .error e=>(R,0,e)
  | .ok (f,to)=>
    if 0<=bn R.ns f c.name then
      if (nd R.ns (bn R.ns f c.name).toNat).kind=2 then (R,0,172)
      else if 0<=bn R.ns to c.text then (R,0,171)
      else if (bJ R.ns R.ns.length:Int) < 8192 then (bD R to c.text (nd R.ns (bn R.ns f c.name).toNat).id,0,0)
      else (R,0,177)
    else (R,0,170)
def aS (c:aH):sU:=
  if c.op=1 then
    if 0<=fP R.ns c.other then if (nd R.ns (tgt R.ns c.other)).kind=2 then iC R (tgt R.ns c.other) else (R,0,173)
    else (R,0,141)
  else if c.op=2 then fN R c 2
  else if c.op=3 then fN R c 1
  else if c.op=4\/c.op=5\/c.op=6\/c.op=8\/c.op=14 then
    match d6 R c.handle c.name 192 with
    | .error e=>(R,0,e)
    | .ok d=>eM R c d
  else if c.op=7 then rP R c
  else if c.op=9 then
    match eH R c.handle with
    | .error e=>(R,0,e)
    | .ok k=>if (nd R.ns k).kind=2 then (R,0,172) else lP R k c.data
  else if c.op=10 then jj R c
  else if c.op=13 then
    if c.handle∈keys R.us then (dx { R with us:=del c.handle R.us },0,0) else (dx R,0,131)
  else if c.op=15 then
    match mK R c 192 with
    | .error e=>(R,0,e)
    | .ok (f,to)=>((eV R f c.name to c.text).1,0,(eV R f c.name to c.text).2)
  else (R,0,230)
def Cd (c:aH) (k:Nat):aH:={ c with answer:=(nd R.ns k).id,other:=(nd R.ns k).kind,mode:=(nd R.ns k).mode,uid:=(nd R.ns k).uid,gid:=(nd R.ns k).gid,sec:=(nd R.ns k).sec,nano:=(nd R.ns k).nano,code:=0 }
def ED (c:aH) (e:Int):aH:={ c with answer:=0,other:=0,mode:=0,uid:=0,gid:=0,sec:=0,nano:=0,code:=e }
def mV (c:aH):aH:=
  if c.op=12 then
    match d6 R c.handle c.name 64 with
    | .error e=>ED c e
    | .ok d=>if 0<=bn R.ns d c.name then Cd R c (bn R.ns d c.name).toNat else ED c 170
  else match eH R c.handle with
    | .error e=>ED c e
    | .ok k=>Cd R c k
def pX (c:aH):RS×aH:=
  if c.op=11\/c.op=12 then (R,mV R c)
  else if (aS R c).2.2=0 then ((aS R c).1,{ c with answer:=(aS R c).2.1,code:=0 }) else (R,{ c with answer:=0,code:=(aS R c).2.2 })
end
end
section
open Go.RowKit Go.Maps aX aq
structure RL where
  A:Option Addr
  c:Nat
  L:Lay
  G:Option Addr
  cg:Nat
  H:Option Addr
  ch:Nat
  V:Option Addr
  cv:Nat
def rV (R:RS) (Y:RL):List Value:=[.slice Y.A R.ns.length Y.c,.slice Y.G R.gone.length Y.cg,.int .i64 R.cH,.int .i64 R.ar,.slice Y.H R.us.length Y.ch,.slice Y.V R.us.length Y.cv,.int .i64 R.cN,.int .i64 R.cB,.int .i64 R.cH,.int .i64 R.cS,.int .i64 R.cZ,.int .i64 R.last]
abbrev ck (c:aH) (A:Option Addr) (p:Nat):aH:={ c with dA:=A,dC:=p }
def rW (R:RS) (A:Option Addr) (c:Nat) (G:Option Addr) (cg:Nat) (H:Option Addr) (ch:Nat) (V:Option Addr) (cv:Nat):List Value:=rV R ⟨A,c,⟨fun _=>none,fun _=>none,fun _=>0,fun _=>0⟩,G,cg,H,ch,V,cv⟩
def rZ:List Value:=[.slice none 0 0,.slice none 0 0,.int .i64 0,.int .i64 0,.slice none 0 0,.slice none 0 0,.int .i64 0,.int .i64 0,.int .i64 0,.int .i64 0,.int .i64 0,.int .i64 0]
structure RowsAt (β:Bs) (R:RS) (Y:RL):Prop where
  g:bU β Y.G (ints R.gone)
  h:bU β Y.H (ints (keys R.us))
  v:bU β Y.V (ints (gq R.us))
structure cq (β:Bs) (R:RS) (Y:RL):Prop extends RowsAt β R Y where
  n:aB β Y.A R.ns Y.L
structure RB (R:RS):Prop where
  ns:R.ns.length<=4097
  gone:R.gone.length<=8200
  us:R.us.length<=1024
  ah:bJ R.ns R.ns.length<=8200
  dat:cT R.ns R.ns.length<=140737488355328
structure RC (R:RS):Prop extends RB R where
  rise:bH R.ns
  hand:∀ id∈gq R.us,0<=fP R.ns id
  kind:∀ i,i < R.ns.length->(nd R.ns i).kind=1\/(nd R.ns i).kind=2\/(nd R.ns i).kind=3
  cap:0<=R.cN/\R.cN<=4096/\0<=R.cB/\R.cB<=1099511627776/\0<=R.cH/\R.cH<=1024/\0<=R.last/\R.last<=1099511627776/\0<=R.ar/\R.ar<=R.cH
  usr:aq.bH (keys R.us)
  tR:∀ z∈keys R.us,1<=z
  Az:(R.us.length:Int)<=R.cH
section d
variable {β β':Bs} {R:RS} {Y:RL} {i:Nat}
theorem RowsAt.le (h:RowsAt β R Y) (hle:β.le β'):RowsAt β' R Y:=⟨h.g.le hle,h.h.le hle,h.v.le hle⟩
theorem cq.le (h:cq β R Y) (hle:β.le β'):cq β' R Y:=⟨h.toRowsAt.le hle,h.n.le hle⟩
theorem RB.row (h:RB R) (hi:i < R.ns.length):(nd R.ns i).ah.length<=8200:=by
  have h1:=mI (ns:=R.ns) (show i+1<=R.ns.length by omega)
  have h2:=h.ah
  grind [bJ,nd]
end d
end
section
open Go.RowKit Go.Maps aX aq
section l
variable {ns:List ay} {es:List cX} {name:ByteArray} {id:Int} {i j d top k:Nat} {R:RS} {l:List Int}
theorem Qv (hj:j < es.length) (e:(en es j).name=name) (hno:∀ q,q < j->¬ (en es q).name=name):wL es name=some j:=by
  unfold wL
  rw [List.findIdx?_eq_some_iff_getElem]
  have hg:∀ k (hk:k < es.length),en es k=es[k]:=fun k hk=>by
    grind [en]
  grind
theorem Qw (hj:j < (nd ns d).ah.length) (e:(en (nd ns d).ah j).name=name) (hno:∀ q,q < j->¬ (en (nd ns d).ah q).name=name):fP ns (en (nd ns d).ah j).id=bn ns d name:=by
  unfold bn;rw [Qv hj e hno]
theorem Oj (hno:∀ q,q < (nd ns d).ah.length->¬ (en (nd ns d).ah q).name=name):(-1:Int)=bn ns d name:=by
  unfold bn;rw [Oe hno]
theorem WH (hj:j < l.length) (e:l.getD j 0=id):true=decide (id∈l):=by
  grind
theorem TL (hno:∀ q,q < l.length->¬ l.getD q 0=id):false=decide (id∈l):=by
  refine (decide_eq_false (fun h=>?_)).symm
  obtain⟨j,hj,e⟩:=List.getElem_of_mem h
  grind
def wO (ns:List ay) (id:Int) (i j:Nat):Int:=if 0 < fw (nd ns i).ah id j then (i:Int) else kJ ns id i
theorem TM:kJ ns id i=wO ns id i 0:=by unfold wO;rw [if_neg (by unfold fw;omega)]
theorem WI:wO ns id i (nd ns i).ah.length=kJ ns id (i+1):=rfl
theorem WJ (e:(en (nd ns i).ah j).id=id):(i:Int)=wO ns id i (j+1):=by unfold wO;rw [if_pos (by have:=EA e;omega)]
theorem TN (e:¬ (en (nd ns i).ah j).id=id):wO ns id i j=wO ns id i (j+1):=by unfold wO;rw [CD e]
theorem Qx:∀ n:Nat,-1<=kJ ns id n/\kJ ns id n < n
  | 0=>⟨by unfold kJ;omega,by unfold kJ;omega⟩
  | n+1=>by
    have:=Qx n
    unfold kJ
    split<;>omega
theorem Qy:fT ns d (k+1) d=true:=by unfold fT;rw [if_pos rfl]
theorem Ol (h:¬ d=top) (hu:kJ ns (nd ns d).id ns.length < 0):fT ns top (k+1) d=false:=by unfold fT;rw [if_neg h,if_pos hu]
theorem TP (h:¬ d=top) (hu:¬ kJ ns (nd ns d).id ns.length < 0):fT ns top (k+1) d=fT ns top k (kJ ns (nd ns d).id ns.length).toNat:=by
  grind [fT]
end l
end
section
open Go.RowKit Go.Maps aX aq
section m
variable {ns:List ay} {es l:List cX} {name:ByteArray} {id z:Int} {i j d k:Nat} {R:RS} {x:cX}
theorem G5:∀ {l:List cX},(∀ e∈l,eG e.name name)->jm name id l=l++[⟨name,id⟩]
  | [],_=>rfl
  | e::r,h=>by
    unfold jm
    rw [if_neg (fun q=>q (h e (List.mem_cons_self ..))),G5 (fun y hy=>h y (List.mem_cons_of_mem _ hy))];rfl
theorem EF:∀ {l:List cX},(∀ e∈l,eG e.name name)->¬ eG x.name name->jm name id (l++[x])=l++[⟨name,id⟩,x]
  | [],_,hx=>by show jm name id [x]=_;unfold jm;rw [if_pos hx];rfl
  | e::r,h,hx=>by
    show jm name id (e::(r++[x]))=_
    unfold jm
    rw [if_neg (fun q=>q (h e (List.mem_cons_self ..))),EF (fun y hy=>h y (List.mem_cons_of_mem _ hy)) hx];rfl
theorem G6:∀ {l:List cX},(∃ e∈l,¬ eG e.name name)->jm name id (l++[x])=jm name id l++[x]
  | [],h=>by obtain⟨_,h,_⟩:=h;cases h
  | e::r,h=>by
    show jm name id (e::(r++[x]))=jm name id (e::r)++[x]
    unfold jm
    by_cases he:¬ eG e.name name
    ·rw [if_pos he,if_pos he];rfl
    rw [if_neg he,if_neg he]
    obtain⟨y,hy,hny⟩:=h
    rcases List.mem_cons.1 hy with rfl|hy
    ·exact absurd hny he
    rw [G6 ⟨y,hy,hny⟩];rfl
theorem sV (hj:j < es.length):es.take (j+1)=es.take j++[en es j]:=by
  rw [List.take_add_one,List.getElem?_eq_getElem hj]
  grind [en]
def dM (es:List cX) (name:ByteArray) (id:Int) (j:Nat) (put:Bool) (out:List cX):Prop:=
  (put=false/\out=es.take j/\∀ e∈es.take j,eG e.name name)\/(put=true/\out=jm name id (es.take j)/\∃ e∈es.take j,¬ eG e.name name)
theorem dM.start:dM es name id 0 false []:=.inl ⟨rfl,rfl,fun e he=>by cases he⟩
theorem dM.put (h:dM es name id j false l) (hj:j < es.length) (hx:¬ eG (en es j).name name):dM es name id (j+1) true (l++[⟨name,id⟩]++[en es j]):=by
  grind [en,sV,EF,dM,eG]
theorem dM.more (h:dM es name id j true l) (hj:j < es.length):dM es name id (j+1) true (l++[en es j]):=by
  grind [sV,G6,dM,en]
theorem dM.miss (h:dM es name id j false l) (hj:j < es.length) (hx:eG (en es j).name name):dM es name id (j+1) false (l++[en es j]):=by
  grind [sV,dM,eG,en]
theorem dM.last (h:dM es name id es.length false l):l++[⟨name,id⟩]=jm name id es:=by
  grind [G5,dM,jm]
theorem dM.end_ (h:dM es name id es.length true l):l=jm name id es:=by
  grind [dM,jm]
theorem dM.len {b:Bool} (h:dM es name id j b l) (hj:j<=es.length):l.length<=j+1:=by
  have hl:∀ q:List cX,(jm name id q).length=q.length+1:=fun q=>by
    induction q with
    | nil=>rfl
    | cons e r ih=>
      grind [jm]
  grind [dM]
theorem Ia (hj:j < es.length) (h:(en es j).name=name):oh name (es.take j)=oh name (es.take (j+1)):=by
  grind [oh,sV]
theorem FT (hj:j < es.length) (h:¬ (en es j).name=name):oh name (es.take j)++[en es j]=oh name (es.take (j+1)):=by
  grind [oh,sV]
theorem FU:∀ (l:List cX) (z:Int),nD name (l++[x]) z=if x.name=name then x.id else nD name l z
  | [],z=>rfl
  | e::r,z=>by
    show nD name (r++[x]) _=_
    rw [FU r]
    split<;>rfl
theorem WK (hj:j < es.length) (h:(en es j).name=name):(en es j).id=nD name (es.take (j+1)) z:=by rw [sV hj,FU,if_pos h]
theorem TQ (hj:j < es.length) (h:¬ (en es j).name=name):nD name (es.take j) z=nD name (es.take (j+1)) z:=by rw [sV hj,FU,if_neg h]
theorem TR:(oh name (es.take j)).length<=j:=Nat.le_trans (List.length_filter_le ..) (by rw [List.length_take];omega)
theorem qM (hj:j < ns.length):ns.take (j+1)=ns.take j++[nd ns j]:=by
  rw [List.take_add_one,List.getElem?_eq_getElem hj]
  grind [nd]
def pY (R:RS) (i:Nat):List ay:=(R.ns.take i).filter (ol R)
def lQ (R:RS) (i:Nat):List Int:=((pY R i).filter (fun n=>decide (n.id∈R.gone))).map ay.id
theorem wP (hi:i < R.ns.length) (h:ol R (nd R.ns i)=true):pY R (i+1)=pY R i++[nd R.ns i]:=by
  grind [pY,qM]
theorem J0 (hi:i < R.ns.length) (h:¬ ol R (nd R.ns i)=true):pY R (i+1)=pY R i:=by
  grind [pY,qM]
theorem G7 (hi:i < R.ns.length) (h:ol R (nd R.ns i)=true) (hg:(nd R.ns i).id∈R.gone):lQ R (i+1)=lQ R i++[(nd R.ns i).id]:=by
  unfold lQ;rw [wP hi h,List.filter_append,List.map_append];simp [hg]
theorem J1 (hi:i < R.ns.length) (h:ol R (nd R.ns i)=true) (hg:¬ (nd R.ns i).id∈R.gone):lQ R (i+1)=lQ R i:=by
  grind [lQ,wP]
theorem Om (hi:i < R.ns.length) (h:¬ ol R (nd R.ns i)=true):lQ R (i+1)=lQ R i:=by
  unfold lQ;rw [J0 hi h]
theorem Dw {n:ay}:ol R n=true↔(n.id∈R.gone->n.id∈gq R.us):=by unfold ol;exact decide_eq_true_iff
theorem G8:dx R={ R with ns:=pY R R.ns.length,gone:=lQ R R.ns.length }:=by
  unfold dx lQ pY
  rw [List.take_length]
theorem G9:(pY R i).length<=i:=Nat.le_trans (List.length_filter_le ..) (by rw [List.length_take];omega)
theorem Qz:(lQ R i).length<=i:=by
  grind [lQ,G9]
end m
end
section
open Go.RowKit Go.Maps aX aq
attribute [local irreducible] ak aV af ai
theorem um {β:Bs} (A:Option Addr) (c:Nat) (d:List UInt8) (hA:bh β A d) (hl:d.length<=140737488355328) :
    Spec Tryz.prog β 37 #[.slice A d.length c] [] (fun v l=>∃ B cap,v=.slice B d.length cap/\l=[.abs (av 5 1 B d.length cap (cx d))]):=by
 refine SE Tryz.func37 Tryz.ntmps37 (fun R=>?_)
 refine SR (jK 1 [] [] ?_)
 refine NS (jN 2 [3] (fun _=>[]) (fun _=>[]) (fun b1=>.blk b1 [] 5) (fun b1=>?_))
 refine NS (ak.mem (fun w hS=>hS.oF (i:=1) (b:=b1) (cs:=[]) (e:=5) 1 0 (by kernel_rfl) rfl (by decide)) ?_)
 refine jK 2 [5,6] [] ?_
 refine Xj 1 51 A d.length c (cx d) rfl (hA.src) (fun A2 c3=>?_) (hl:=by rw [rI,Nat.mul_one]) (h1:=oo d)
 refine ak.bO 1 rfl (by rw [Nat.zero_add,List.nil_append]) ?_
 refine sl 7 (.slice A2 (0+d.length) (c3)) (.slice A2 (d.length) (c3)) (by rw [Nat.zero_add]) ?_
 refine jK 1 [3] [] ?_
 refine NS (jK 2 [2] [] ?_)
 refine NN (af.ret ?_)
 exact RT _ [1,0] (⟨A2,c3,rfl,rfl⟩)
theorem J2 {β:Bs} (n:ay) (dA eA:Option Addr) (dC eC:Nat) (hD:bh β dA n.data) (hE:aZ β eA n.ah) (hl1:n.data.length<=140737488355328) (hl2:n.ah.length<=1048576) :
    Spec Tryz.prog β 26 #[.agg #[vI (n.id),vI (n.kind),vI (n.mode),vI (n.uid),vI (n.gid),vI (n.sec),vI (n.nano),.slice dA (n.data.length) (dC),.string n.target,.slice eA (n.ah.length) (eC)]] [] (fun v l=>∃ dB cd eB ce,v=.agg #[vI (n.id),vI (n.kind),vI (n.mode),vI (n.uid),vI (n.gid),vI (n.sec),vI (n.nano),.slice dB (n.data.length) (cd),.string n.target,.slice eB (n.ah.length) (ce)]/\l=[.abs (av 5 1 dB n.data.length cd (cx n.data)),.abs (av 68 2 eB n.ah.length ce (ju n.ah))]):=by
 refine SE Tryz.func26 Tryz.ntmps26 (fun R=>?_)
 refine SR (jN 1 [1] (fun _=>[]) (fun _=>[]) (fun b4=>.blk b4 [vI (n.id),vI (n.kind),vI (n.mode),vI (n.uid),vI (n.gid),vI (n.sec),vI (n.nano),.slice dA (n.data.length) (dC),.string n.target,.slice eA (n.ah.length) (eC)] 66) (fun b4=>?_))
 refine jN 1 [2] (fun _=>[]) (fun _=>[]) (fun b5=>.blk b5 [vI 0,vI 0,vI 0,vI 0,vI 0,vI 0,vI 0,.slice none (0) (0),.string ⟨#[]⟩,.slice none (0) (0)] 66) (fun b5=>?_)
 refine NS (jK 2 [5] [(1,a_ 1 b4)] ?_)
 refine gL [] (um dA dC n.data hD hl1) ?_
 rintro _ _ ⟨dB,cd,rfl,rfl⟩
 refine jC 2 [] [(1,a_ 2 b4)] [(2,[(7,.slice dB (n.data.length) (cd))])] ?_
 refine NS (jN 2 [3] (fun _=>[]) (fun _=>[]) (fun b6=>.blk b6 [] 68) (fun b6=>?_))
 refine NS (ak.mem (fun w hS=>hS.oF (i:=4) (b:=b6) (cs:=[]) (e:=68) 2 0 (by kernel_rfl) rfl (by decide)) ?_)
 refine jK 3 [9,11] [(2,a_ 2 b4)] ?_
 refine j3 4 64 eA n.ah.length eC (ju n.ah) rfl (hE.src) (fun A7 c8=>?_) (hl:=by rw [Gz]) (h1:=zX n.ah)
 refine ak.bO 4 rfl (by rw [Nat.zero_add,List.nil_append]) ?_
 refine sl 12 (.slice A7 (0+n.ah.length) (c8)) (.slice A7 (n.ah.length) (c8)) (by rw [Nat.zero_add]) ?_
 refine jK 1 [3] [] ?_
 refine NS (jC 3 [] [(2,a_ 2 b4)] [(2,[(9,.slice A7 (n.ah.length) (c8))])] ?_)
 refine NS (jC 2 [] [(0,A_ 2 b4 10),(1,A_ 3 b5 10)] [(3,[(0,vI (n.id)),(1,vI (n.kind)),(2,vI (n.mode)),(3,vI (n.uid)),(4,vI (n.gid)),(5,vI (n.sec)),(6,vI (n.nano)),(7,.slice dB (n.data.length) (cd)),(8,.string n.target),(9,.slice A7 (n.ah.length) (c8))])] ?_)
 refine NN (af.ret ?_)
 exact rT _ [A_ 3 b5 10] [0,4,1] (⟨dB,cd,A7,c8,rfl,rfl⟩)
theorem hkl {ns:List ay} {k:Nat} (hk:k<=ns.length):(ns.take k).length=k:=by rw [List.length_take];omega
theorem uo {β:Bs} (A:Option Addr) (c:Nat) (ns:List ay) (L:Lay) (hG:aB β A ns L) (hl:ns.length<=1048576) (hd:∀ i,i < ns.length->(nd ns i).data.length<=140737488355328/\(nd ns i).ah.length<=1048576) :
    Spec Tryz.prog β 7 #[.agg #[.slice A ns.length c]] [] (fun v l=>∃ B cap K,v=.agg #[.slice B ns.length cap]/\l=yJ B cap ns K):=by
 refine SE Tryz.func7 Tryz.ntmps7 (fun R=>?_)
 refine SR (jN 1 [1] (fun _=>[]) (fun _=>[]) (fun b9=>.blk b9 [.slice A (ns.length) (c)] 24) (fun b9=>?_))
 refine jN 1 [2] (fun _=>[]) (fun _=>[]) (fun b10=>.blk b10 [.slice none (0) (0)] 24) (fun b10=>?_)
 refine NS (jN 2 [3] (fun _=>[]) (fun _=>[]) (fun b11=>.blk b11 [] 66) (fun b11=>?_))
 refine NN (af.seq (SR (ak.mem (fun w hS=>hS.oF (i:=3) (b:=b11) (cs:=[]) (e:=66) 10 0 (by kernel_rfl) rfl (by decide)) ?_)))
 refine ak.mem (fun w hS=>hS.D7 (mH [] Ds)) ?_
 refine ak.mem (fun w hS=>hS.D7 (jt [] Ds)) ?_
 refine jK 1 [4] [] ?_
 refine NN (af.block ?_)
 refine lJ (fun (k,Ao,cp,K)=>(k<=ns.length)) (fun (k,Ao,cp,K)=>ns.length - k) (fun (k,Ao,cp,K)=>[(1,vP b9),(2,vP b10),(3,.slice Ao (k) (cp)),(4,vI ↑k)]) (fun (k,Ao,cp,K)=>[.blk b9 [.slice A (ns.length) (c)] 24,.blk b10 [.slice none (0) (0)] 24,.abs (av 66 10 Ao k cp (aR K (ns.take k))),.abs (eF (mH (ns.take k) K) k),.abs (eF (jt (ns.take k) K) k),.abs R]) (0,some ⟨b11,0,none⟩,0,Ds) [1,2,3,4,5,0] (Nat.zero_le _) ?_
 rintro⟨k,Ao,cp,K⟩ hk
 refine af.seq (SR (jK 5 [10] [(2,a_ 0 b9)] ?_))
 refine NN (cP ((((k:Nat):Int):Int) < (((ns.length:Nat):Int):Int)) (fun h10=>?_) (fun h10=>?_))
 ·refine af.skip (NX (af.seq (af.block (af.region ?_))))
  refine jK 6 [13,18] [(2,a_ 0 b9),(4,x_ k ns.length (aB.hd hG (i:=k) (by omega))),(5,zU (eP L k (nd ns k)) (fun _ _ h=>aB.rd hG (by omega) h))] ?_
  refine gL [] (J2 (nd ns k) (L.dA k) (L.eA k) (L.dC k) (L.eC k) (hG.data k (by omega)) (hG.ah k (by omega)) (hd k (by omega)).1 (hd k (by omega)).2) ?_
  rintro _ _ ⟨dB,cd,eB,ce,rfl,rfl⟩
  refine jN 1 [20] (fun _=>[]) (fun _=>[]) (fun b12=>.blk b12 [vI ((nd ns k).id),vI ((nd ns k).kind),vI ((nd ns k).mode),vI ((nd ns k).uid),vI ((nd ns k).gid),vI ((nd ns k).sec),vI ((nd ns k).nano),.slice dB ((nd ns k).data.length) (cd),.string (nd ns k).target,.slice eB ((nd ns k).ah.length) (ce)] 66) (fun b12=>?_)
  refine j3 4 22 (some ⟨b12,0,none⟩) 1 1 [vI ((nd ns k).id),vI ((nd ns k).kind),vI ((nd ns k).mode),vI ((nd ns k).uid),vI ((nd ns k).gid),vI ((nd ns k).sec),vI ((nd ns k).nano),.slice dB ((nd ns k).data.length) (cd),.string (nd ns k).target,.slice eB ((nd ns k).ah.length) (ce)] rfl (dS (j:=8) rfl) (fun He CG=>?_) (hl:=rfl)
  refine ak.bO 4 rfl (congrArg (fun x=>HP.abs (av 66 10 _ _ _ x)) (rK (hkl hk) (qM (by omega)) rfl rfl)) ?_
  refine sl 21 (.slice He (k+1) (CG)) (.slice He ((k+1)) (CG)) (rfl) ?_
  refine jK 1 [3] [] ?_
  refine NL (ai.aA (NX (af.region ?_)))
  refine jK 3 [4] [(1,wJ ((k:Int)+1) (↑(k+1)))] ?_
  refine NL (ai.mem (fun w hS=>hS.qV (R':=(jt (ns.take (k+1)) (K.put k dB cd eB ce))) (i:=6) (j:=0) (idx:=[1,2,3,4,5,7,8]) rfl rfl (by kernel_rfl) rfl (yL (hkl hk) (qM (by omega))) (wD (hkl hk) (qM (by omega)) rfl)) ?_)
  refine ai.mem (fun w hS=>hS.qV (R':=(mH (ns.take (k+1)) (K.put k dB cd eB ce))) (i:=5) (j:=1) (idx:=[0,2,3,4,6,7]) rfl rfl (by kernel_rfl) rfl (yM (hkl hk) (qM (by omega))) (wE (hkl hk) (qM (by omega)) rfl)) ?_
  exact tJ ((k+1),He,CG,(K.put k dB cd eB ce)) [2,3,4,0,1,5] ((by omega))
 refine af.exit (ai.aC (ai.aC (ai.aU (NX (SR ?_)))))
 have hkn:k=ns.length:=by omega
 have hgt:ns.take k=ns:=by rw [hkn,List.take_length]
 refine ak.bO 2 rfl (by rw [hgt,hkn]) ?_
 refine ak.bO 3 rfl (by rw [hgt,hkn]) ?_
 refine ak.bO 4 rfl (by rw [hgt,hkn]) ?_
 refine sl 3 (.slice Ao (k) (cp)) (.slice Ao (ns.length) (cp)) (by rw [hkn]) ?_
 refine jC 3 [] [(2,a_ 1 b10)] [(1,[(0,.slice Ao (ns.length) (cp))])] ?_
 refine NN (af.ret ?_)
 exact rT _ [a_ 1 b10] [2,3,4,5] (⟨Ao,cp,K,rfl,rfl⟩)
end
section
open Go.RowKit Go.Maps aX aq
theorem J3 {V:Type} {g:Int×V->Nat}:∀ {a b:Used V},dP g (a++b)=dP g a+dP g b
  | [],b=>(Nat.zero_add _).symm
  | p::r,b=>by
    show g p+dP g (r++b)=g p+dP g r+dP g b
    rw [J3];omega
theorem LQ {ns:List ay} {i j:Nat} (h:i<=j):cT ns i<=cT ns j:=by
  induction j with
  | zero=>rw [Nat.le_zero.1 h];exact Nat.le_refl _
  | succ j ih=>
    grind [cT]
theorem EG {ns:List ay} {i:Nat} (h:i<=ns.length):cT ns i<=cT ns ns.length:=LQ h
section at_
variable {S:aL} {i j:Nat}
theorem lD (hi:i < S.idx.length):nd (ax S) i=gH S.O (dQ S i) (fO S i):=by
  grind [nd,ax,tX]
theorem X6 {t:Th} (hl:Live S.idx t):∃ i,i < S.idx.length/\fO S i=t/\dQ S i=(t.k:Int):=by
  obtain⟨i,hi,e⟩:=List.getElem_of_mem (get_mem hl)
  have h1:=tX hi
  grind
theorem wQ (f:aN->Nat) (s:List ay->Nat->Nat) (h0:∀ ns,s ns 0=0) (hs:∀ k,k < S.idx.length->s (ax S) (k+1)=s (ax S) k+f (obj S.O (fO S k).k)):∀ k,k<=S.idx.length->s (ax S) k=dP (fun p=>f (obj S.O p.2.k)) (S.idx.take k)
  | 0,_=>by rw [h0];rfl
  | k+1,hk=>by
    rw [hs k hk,wQ f s h0 hs k (by omega),List.take_add_one,tX hk,J3]
    rfl
theorem J4:cT (ax S) S.idx.length=bytes S.idx S.O:=by
  have h:=wQ (S:=S) (fun o=>o.data.length) cT (fun _=>rfl) (fun k hk=>by show cT (ax S) k+_=_;rw [lD hk];rfl) S.idx.length (Nat.le_refl _)
  rw [List.take_length] at h
  exact h
theorem Bb:bJ (ax S) S.idx.length=tot S.idx S.O:=by
  have h:=wQ (S:=S) (fun o=>o.ah.length) bJ (fun _=>rfl) (fun k hk=>by
    show bJ (ax S) k+_=_
    rw [lD hk]
    show _+((obj S.O (fO S k).k).ah.map _).length=_
    rw [List.length_map]) S.idx.length (Nat.le_refl _)
  rw [List.take_length] at h
  exact h
end at_
end
section
open Go.RowKit aX aq Go.Maps
section ints
variable {β:Bs} {A:Option Addr} {l:List Int} {j:Nat}
theorem oI.get (h:bU β A (ints l)) (hj:j < l.length):A=some ⟨aJ A,aI A,none⟩/\Rd β ⟨aJ A,aI A+j * 1,none⟩ (.int .i64 (l.getD j 0)):=by
  grind [ints,bU,aJ,aI,Rd]
theorem oI.hd (h:bU β A (ints l)) (hj:j < l.length):A=some ⟨aJ A,aI A,none⟩:=(oI.get h hj).1
theorem oI.rd (h:bU β A (ints l)) (hj:j < l.length):Rd β ⟨aJ A,aI A+j * 1,none⟩ (.int .i64 (l.getD j 0)):=(oI.get h hj).2
end ints
end
section
open Go.RowKit Go.Maps aX aq
attribute [local irreducible] ak aV af ai dH
theorem vR {β:Bs} (Z:RS) (Y:RL) (hR:cq β Z Y) (hB:RB Z) (id:Int) :
    Spec Tryz.prog β 109 #[.agg ⟨rV Z Y⟩,vI (id)] [] (fun v l=>v=.bool (decide (id∈Z.gone))/\l=[]):=by
 refine SE Tryz.func109 Tryz.ntmps109 (fun R=>?_)
 refine SR (jN 2 [2] (fun _=>[]) (fun _=>[]) (fun b1=>.blk b1 (rV Z Y) 42) (fun b1=>?_))
 refine NN (af.seq (SR (jK 1 [5] [] ?_)))
 refine NN (af.block ?_)
 refine lJ (fun (i:Nat)=>(i<=Z.gone.length)/\(∀ q,q < i->¬ Z.gone.getD q 0=id)) (fun (i:Nat)=>Z.gone.length - i) (fun (i:Nat)=>[(1,vI (id)),(2,vP b1),(5,vI ↑i)]) (fun (i:Nat)=>[.abs R,.blk b1 (rV Z Y) 42]) 0 [0,1] (⟨Nat.zero_le _,fun q hq=>absurd hq (Nat.not_lt_zero q)⟩) ?_
 rintro i ⟨hi,hno⟩
 have hbg:=hB.gone
 refine af.seq (SR (jK 5 [10] [(2,a_ 1 b1)] ?_))
 refine NN (cP ((((i:Nat):Int):Int) < (((Z.gone.length:Nat):Int):Int)) (fun h10=>?_) (fun h10=>?_))
 ·refine af.skip (NX (af.seq (af.block (SR ?_))))
  refine jK 7 [19] [(1,a_ 1 b1),(3,x_ i Z.gone.length (oI.hd (l:=Z.gone) hR.g (j:=i) (by grind))),(4,r_ (oI.rd (l:=Z.gone) hR.g (j:=i) (by grind)))] ?_
  refine NN (cP (((Z.gone.getD i 0):Int)=(id:Int)) (fun hhit=>?_) (fun hhit=>?_))
  ·refine SR (jK 1 [4] [] ?_)
   refine NN (af.ret (ai.au (ai.aj (ai.aj (ai.au (ai.aj ?_))))))
   exact RT _ [0] (⟨congrArg Value.bool (WH (j:=i) (by omega) hhit),rfl⟩)
  refine af.skip (ai.aA (NX (af.region ?_)))
  refine jK 3 [5] [(1,wJ ((i:Int)+1) (↑(i+1)))] ?_
  refine NL ?_
  exact tJ ((i+1)) [0,1] (⟨by omega,fun q hq=>by grind⟩)
 refine af.exit (ai.aC (ai.aC (ai.aU (NX (SR ?_)))))
 refine jK 1 [4] [] ?_
 refine NN (af.ret ?_)
 exact RT _ [0] (⟨congrArg Value.bool (TL (fun q hq=>hno q (by omega))),rfl⟩)
theorem J5 {β:Bs} (Z:RS) (Y:RL) (hR:cq β Z Y) (hB:RB Z) :
    Spec Tryz.prog β 47 #[.agg ⟨rV Z Y⟩] [] (fun v l=>v=vI ((cT Z.ns Z.ns.length:Nat):Int)/\l=[]):=by
 refine SE Tryz.func47 Tryz.ntmps47 (fun R=>?_)
 refine SR (jN 2 [1] (fun _=>[]) (fun _=>[]) (fun b2=>.blk b2 (rV Z Y) 42) (fun b2=>?_))
 refine NS (jK 1 [3] [] ?_)
 refine NN (af.seq (SR (jK 1 [4] [] ?_)))
 refine NN (af.block ?_)
 refine lJ (fun (i:Nat)=>(i<=Z.ns.length)) (fun (i:Nat)=>Z.ns.length - i) (fun (i:Nat)=>[(1,vP b2),(3,vI ↑(cT Z.ns i)),(4,vI ↑i)]) (fun (i:Nat)=>[.abs R,.blk b2 (rV Z Y) 42]) 0 [0,1] (Nat.zero_le _) ?_
 rintro i hi
 have Vj:=hB.ns
 have hbd:=hB.dat
 have hdt:=EG (ns:=Z.ns) (i:=i) hi
 refine af.seq (SR (jK 6 [10] [(3,a_ 1 b2)] ?_))
 refine NN (cP ((((i:Nat):Int):Int) < (((Z.ns.length:Nat):Int):Int)) (fun h10=>?_) (fun h10=>?_))
 ·refine af.skip (NX (af.seq (af.block (af.region ?_))))
  refine jK 11 [3] [(3,a_ 1 b2),(5,x_ i Z.ns.length (aB.hd hR.n (i:=i) (by omega))),(7,r_ (aB.rd hR.n (i:=i) (by omega) (j:=7) rfl)),(9,p_ ⟨[],none,none,none,some (vI ↑(cT Z.ns (i+1)))⟩ [(Value.int .i64 (IntKind.wrap .i64 ((((cT Z.ns i):Nat):Int)+(((nd Z.ns i).data.length:Nat):Int))))=(.int .i64 ↑(cT Z.ns (i+1)))] ⟨xI (Int.natCast_add _ _).symm (by omega) (by grind [EG]),trivial⟩)] ?_
  refine NL (ai.aA (NX (af.region ?_)))
  refine jK 3 [4] [(1,wJ ((i:Int)+1) (↑(i+1)))] ?_
  refine NL ?_
  exact tJ ((i+1)) [0,1] (by omega)
 refine af.exit (ai.aC (ai.aC (ai.aU (NX (SR ?_)))))
 refine jK 2 [2] [] ?_
 refine NN (af.ret ?_)
 exact RT (vI ↑(cT Z.ns i)) [0] (⟨by rw [show i=Z.ns.length by omega],rfl⟩)
theorem J6 {β:Bs} (Z:RS) (Y:RL) (hR:cq β Z Y) (hB:RB Z) :
    Spec Tryz.prog β 74 #[.agg ⟨rV Z Y⟩] [] (fun v l=>v=vI ((bJ Z.ns Z.ns.length:Nat):Int)/\l=[]):=by
 refine SE Tryz.func74 Tryz.ntmps74 (fun R=>?_)
 refine SR (jN 2 [1] (fun _=>[]) (fun _=>[]) (fun b3=>.blk b3 (rV Z Y) 42) (fun b3=>?_))
 refine NS (jK 1 [3] [] ?_)
 refine NN (af.seq (SR (jK 1 [4] [] ?_)))
 refine NN (af.block ?_)
 refine lJ (fun (i:Nat)=>(i<=Z.ns.length)) (fun (i:Nat)=>Z.ns.length - i) (fun (i:Nat)=>[(1,vP b3),(3,vI ↑(bJ Z.ns i)),(4,vI ↑i)]) (fun (i:Nat)=>[.abs R,.blk b3 (rV Z Y) 42]) 0 [0,1] (Nat.zero_le _) ?_
 rintro i hi
 have Vj:=hB.ns
 have hbe:=hB.ah
 have hmo:=mI (ns:=Z.ns) hi
 refine af.seq (SR (jK 6 [10] [(3,a_ 1 b3)] ?_))
 refine NN (cP ((((i:Nat):Int):Int) < (((Z.ns.length:Nat):Int):Int)) (fun h10=>?_) (fun h10=>?_))
 ·refine af.skip (NX (af.seq (af.block (af.region ?_))))
  refine jK 11 [3] [(3,a_ 1 b3),(5,x_ i Z.ns.length (aB.hd hR.n (i:=i) (by omega))),(7,r_ (aB.rd hR.n (i:=i) (by omega) (j:=9) rfl)),(9,p_ ⟨[],none,none,none,some (vI ↑(bJ Z.ns (i+1)))⟩ [(Value.int .i64 (IntKind.wrap .i64 ((((bJ Z.ns i):Nat):Int)+(((nd Z.ns i).ah.length:Nat):Int))))=(.int .i64 ↑(bJ Z.ns (i+1)))] ⟨xI (Int.natCast_add _ _).symm (by omega) (by have:=mI (ns:=Z.ns) (show i+1<=Z.ns.length by omega);have:=hB.ah;omega),trivial⟩)] ?_
  refine NL (ai.aA (NX (af.region ?_)))
  refine jK 3 [4] [(1,wJ ((i:Int)+1) (↑(i+1)))] ?_
  refine NL ?_
  exact tJ ((i+1)) [0,1] (by omega)
 refine af.exit (ai.aC (ai.aC (ai.aU (NX (SR ?_)))))
 refine jK 2 [2] [] ?_
 refine NN (af.ret ?_)
 exact RT (vI ↑(bJ Z.ns i)) [0] (⟨by rw [show i=Z.ns.length by omega],rfl⟩)
theorem QA {β:Bs} (Z:RS) (Y:RL) (hR:cq β Z Y) (hB:RB Z) (id:Int) :
    Spec Tryz.prog β 145 #[.agg ⟨rV Z Y⟩,vI (id)] [] (fun v l=>v=vI (qw Z.ns id)/\l=[]):=by
 refine SE Tryz.func145 Tryz.ntmps145 (fun R=>?_)
 refine SR (jN 2 [2] (fun _=>[]) (fun _=>[]) (fun b4=>.blk b4 (rV Z Y) 42) (fun b4=>?_))
 refine NS (jK 1 [5] [] ?_)
 refine NN (af.seq (SR (jK 1 [6] [] ?_)))
 refine NN (af.block ?_)
 refine lJ (fun (i:Nat)=>(i<=Z.ns.length)) (fun (i:Nat)=>Z.ns.length - i) (fun (i:Nat)=>[(1,vI (id)),(2,vP b4),(5,vI ↑(jU Z.ns id i)),(6,vI ↑i)]) (fun (i:Nat)=>[.abs R,.blk b4 (rV Z Y) 42]) 0 [0,1] (Nat.zero_le _) ?_
 rintro i hi
 have Vj:=hB.ns
 have hbe:=hB.ah
 have hcs:=Og Z.ns id i
 have hmo:=mI (ns:=Z.ns) hi
 refine af.seq (SR (jK 6 [13] [(3,a_ 1 b4)] ?_))
 refine NN (cP ((((i:Nat):Int):Int) < (((Z.ns.length:Nat):Int):Int)) (fun qc=>?_) (fun qc=>?_))
 ·refine af.skip (NX (af.seq (af.block (SR ?_))))
  refine jK 1 [7] [] ?_
  refine NN (af.block ?_)
  refine lJ (fun (j:Nat)=>(j<=(nd Z.ns i).ah.length)) (fun (j:Nat)=>(nd Z.ns i).ah.length - j) (fun (j:Nat)=>[(1,vI (id)),(2,vP b4),(5,vI ↑(jU Z.ns id i+fw (nd Z.ns i).ah id j)),(6,vI ↑i),(7,vI ↑j)]) (fun (j:Nat)=>[.abs R,.blk b4 (rV Z Y) 42]) 0 [0,1] (Nat.zero_le _) ?_
  rintro j hj
  have hrl:=GY (nd Z.ns i).ah id j
  have hrw:=hB.row (i:=i) (by omega)
  refine af.seq (SR (jK 10 [25] [(3,a_ 1 b4),(5,x_ i Z.ns.length (aB.hd hR.n (i:=i) (by omega))),(7,r_ (aB.rd hR.n (i:=i) (by omega) (j:=9) rfl))] ?_))
  refine NN (cP ((((j:Nat):Int):Int) < ((((nd Z.ns i).ah.length:Nat):Int):Int)) (fun oG=>?_) (fun oG=>?_))
  ·refine af.skip (NX (af.seq (af.block (SR ?_))))
   refine jK 13 [40] [(2,a_ 1 b4),(4,x_ i Z.ns.length (aB.hd hR.n (i:=i) (by omega))),(6,r_ (aB.rd hR.n (i:=i) (by omega) (j:=9) rfl)),(8,x_ j ((nd Z.ns i).ah.length) (aZ.hd (hR.n.ah i (by omega)) (i:=j) (by omega))),(10,r_ (aZ.rd (hR.n.ah i (by omega)) (i:=j) (by omega) (j:=1) rfl))] ?_
   refine NN (cP (((en (nd Z.ns i).ah j).id:Int)=(id:Int)) (fun qx=>?_) (fun qx=>?_))
   ·refine af.region (jK 3 [5] [(1,wJ (((jU Z.ns id i+fw (nd Z.ns i).ah id j:Nat):Int)+1) (↑((jU Z.ns id i+fw (nd Z.ns i).ah id j)+1)))] ?_)
    refine NL (ai.aA (NX (af.region ?_)))
    refine sl 5 (.int .i64 ↑((jU Z.ns id i+fw (nd Z.ns i).ah id j)+1)) (.int .i64 ↑(jU Z.ns id i+fw (nd Z.ns i).ah id (j+1))) (by rw [← EA qx,Nat.add_assoc]) ?_
    refine jK 3 [7] [(1,wJ ((j:Int)+1) (↑(j+1)))] ?_
    refine NL ?_
    exact tJ ((j+1)) [0,1] ((by omega))
   refine af.skip (ai.aA (NX (af.region ?_)))
   refine sl 5 (.int .i64 ↑(jU Z.ns id i+fw (nd Z.ns i).ah id j)) (.int .i64 ↑(jU Z.ns id i+fw (nd Z.ns i).ah id (j+1))) (by rw [← CD qx]) ?_
   refine jK 3 [7] [(1,wJ ((j:Int)+1) (↑(j+1)))] ?_
   refine NL ?_
   exact tJ ((j+1)) [0,1] ((by omega))
  refine af.exit (ai.aC (ai.aC (ai.aU (ai.aA (NX (af.region ?_))))))
  refine sl 5 (.int .i64 ↑(jU Z.ns id i+fw (nd Z.ns i).ah id j)) (.int .i64 ↑(jU Z.ns id (i+1))) (by grind [jU,nd]) ?_
  refine jK 3 [6] [(1,wJ ((i:Int)+1) (↑(i+1)))] ?_
  refine NL ?_
  exact tJ ((i+1)) [0,1] ((by omega))
 refine af.exit (ai.aC (ai.aC (ai.aU (NX (SR ?_)))))
 refine jK 2 [4] [] ?_
 refine NN (af.ret ?_)
 exact RT (vI ↑(jU Z.ns id i)) [0] (⟨by rw [show i=Z.ns.length by omega];rfl,rfl⟩)
theorem iR {β:Bs} (Z:RS) (Y:RL) (hR:cq β Z Y) (hB:RC Z) (d:Nat) (hd:d < Z.ns.length) (name:ByteArray) :
    Spec Tryz.prog β 69 #[.agg ⟨rV Z Y⟩,vI (((d:Nat):Int)),.string name] [] (fun v l=>v=vI (bn Z.ns d name)/\l=[]):=by
 refine SE Tryz.func69 Tryz.ntmps69 (fun R=>?_)
 refine SR (jN 2 [3] (fun _=>[]) (fun _=>[]) (fun b5=>.blk b5 (rV Z Y) 42) (fun b5=>?_))
 refine NN (af.seq (SR (jK 1 [7] [] ?_)))
 refine NN (af.block ?_)
 refine lJ (fun (j:Nat)=>(j<=(nd Z.ns d).ah.length)/\(∀ q,q < j->¬ (en (nd Z.ns d).ah q).name=name)) (fun (j:Nat)=>(nd Z.ns d).ah.length - j) (fun (j:Nat)=>[(1,vI ↑d),(2,.string name),(3,vP b5),(7,vI ↑j)]) (fun (j:Nat)=>[.abs R,.blk b5 (rV Z Y) 42]) 0 [0,1] (⟨Nat.zero_le _,fun q hq=>absurd hq (Nat.not_lt_zero q)⟩) ?_
 rintro j ⟨hj,hno⟩
 have hrw:=hB.toRB.row hd
 refine af.seq (SR (jK 10 [17] [(3,a_ 1 b5),(5,x_ d Z.ns.length (aB.hd hR.n (i:=d) (by omega))),(7,r_ (aB.rd hR.n (i:=d) (by omega) (j:=9) rfl))] ?_))
 refine NN (cP ((((j:Nat):Int):Int) < ((((nd Z.ns d).ah.length:Nat):Int):Int)) (fun D3=>?_) (fun D3=>?_))
 ·refine af.skip (NX (af.seq (af.block (SR ?_))))
  refine jK 13 [32] [(2,a_ 1 b5),(4,x_ d Z.ns.length (aB.hd hR.n (i:=d) (by omega))),(6,r_ (aB.rd hR.n (i:=d) (by omega) (j:=9) rfl)),(8,x_ j ((nd Z.ns d).ah.length) (aZ.hd (hR.n.ah d (by omega)) (i:=j) (by omega))),(10,r_ (aZ.rd (hR.n.ah d (by omega)) (i:=j) (by omega) (j:=0) rfl)),(12,w_ (.bool (decide (((en (nd Z.ns d).ah j).name:ByteArray)=name))) (mY _ _))] ?_
  refine NN (cP (((en (nd Z.ns d).ah j).name:ByteArray)=name) (fun oV=>?_) (fun oV=>?_))
  ·refine af.seq (jM [0,1,2,3,4,5,6,7,8,9,10,11,12,513,514] [1] ?_)
   refine jG 13 [34,45] [(1,a_ 0 b5),(4,a_ 0 b5),(6,x_ d Z.ns.length (aB.hd hR.n (i:=d) (by omega))),(8,r_ (aB.rd hR.n (i:=d) (by omega) (j:=9) rfl)),(10,x_ j ((nd Z.ns d).ah.length) (aZ.hd (hR.n.ah d (by omega)) (i:=j) (by omega))),(12,r_ (aZ.rd (hR.n.ah d (by omega)) (i:=j) (by omega) (j:=1) rfl))] ?_
   refine kL [1] [] (D6 Y.A Y.c Z.ns Y.L hR.n hB.rise (by have:=hB.ns;omega) (en (nd Z.ns d).ah j).id) ?_ (by rintro _ _ ⟨rfl,rfl⟩;kernel_rfl)
   rintro _ _ ⟨rfl,rfl⟩
   refine dH.last (by kernel_rfl) ?_
   refine jK 1 [6] [] ?_
   refine NL (ai.np (NX (af.ret (ai.au (ai.aj (ai.aj (ai.au (ai.aj ?_))))))))
   exact RT _ [0] (⟨congrArg (Value.int .i64) (Qw (by omega) oV hno),rfl⟩)
  refine af.skip (ai.aA (NX (af.region ?_)))
  refine jK 3 [7] [(1,wJ ((j:Int)+1) (↑(j+1)))] ?_
  refine NL ?_
  exact tJ ((j+1)) [0,1] (⟨by omega,fun q hq=>by grind⟩)
 refine af.exit (ai.aC (ai.aC (ai.aU (NX (SR ?_)))))
 refine jK 1 [6] [] ?_
 refine NN (af.ret ?_)
 exact RT _ [0] (⟨congrArg (Value.int .i64) (Oj (fun q hq=>hno q (by omega))),rfl⟩)
end
section
open Go.RowKit Go.Maps aX aq
attribute [local irreducible] ak aV af ai aY
noncomputable abbrev t6 (b1)(M)(p)(A)(us:List (Int×Int)) (c) (B) (d):=(.blk b1 [vI (M),vI (p),.slice A (us.length) (c),.slice B (us.length) (d)] 40:HP)
noncomputable abbrev EH (b5):=(.blk b5 [vI 0,vI 0,.slice none (0) (0),.slice none (0) (0)] 40:HP)
noncomputable abbrev QB (Av)(q:List (Int×Int)) (cv):=(.abs (av 3 1 Av q.length cv (ints (gq q))):HP)
noncomputable abbrev MK (b13)(us:List (Int×Int)) (i):=(.blk b13 [vI (((keys us).getD i 0))] 3:HP)
noncomputable abbrev Vk (jv)(q:List (Int×Int)) (us:List (Int×Int)) (i) (jw):=(.abs (av 3 1 jv ((q++[(pr us i)]).length) jw (ints (keys (q++[(pr us i)])))):HP)
noncomputable abbrev X7 (b6)(M)(p)(jv)(q:List (Int×Int)) (us:List (Int×Int)) (i) (jw) (Av) (cv) (o5) (o6) (b5) (R) (b19) (jl):=([.blk b6 [vI (M),vI (p),.slice jv ((q++[(pr us i)]).length) (jw),.slice Av (q.length) (cv)] 40,Vk jv q us i jw,.abs (av 3 1 o5 ((q++[(pr us i)]).length) o6 (ints (gq (q++[(pr us i)])))),EH b5,.abs R,MK b19 us i,.blk jl [vI (((gq us).getD i 0))] 3]:List HP)
noncomputable abbrev ML (x)(b4)(b5)(us:List (Int×Int)) (b6):=([(1,vI (x)),(2,vP b4),(4,vP b5),(7,vI (aq.least us)),(8,vP b6)]:Fr)
noncomputable abbrev Vl (M)(p)(A)(us:List (Int×Int)) (c) (B) (d):=([(0,vI (M)),(1,vI (p)),(2,.slice A (us.length) (c)),(3,.slice B (us.length) (d))]:Fr)
noncomputable abbrev X8 (b4)(b5):=([(2,vP b4),(4,vP b5)]:Fr)
theorem Hf (l:List Int) (x:Int):ints l++[vI x]=ints (l++[x]):=by simp [ints]
theorem kK (q:Used Int) (x:Int×Int):(q++[x]).length=q.length+1:=List.length_append
theorem FV {q:Used Int} {x:Int×Int} {B:Option Addr} {c:Nat} {k:Int} (h:k=x.1):HP.abs (av 3 1 B (q.length+1) c (ints (keys q)++[vI k]))=HP.abs (av 3 1 B (q++[x]).length c (ints (keys (q++[x])))):=by
  rw [GV,← Hf,kK,h]
theorem FW {q:Used Int} {x:Int×Int} {B:Option Addr} {c:Nat} {k:Int} (h:k=x.2):HP.abs (av 3 1 B (q.length+1) c (ints (gq q)++[vI k]))=HP.abs (av 3 1 B (q++[x]).length c (ints (gq (q++[x])))):=by
  rw [TK,← Hf,kK,h]
theorem iX.keep {us q:Used Int} {h v:Int} {i:Nat} {d:Bool} (hp:iX us h v i d q) (hi:i < us.length) (hk:¬ h < (pr us i).1):iX us h v (i+1) d (q++[pr us i]):=by
  cases d with
  | false=>exact hp.miss hi hk
  | true=>exact hp.more hi
theorem Bc {β:Bs} (M p:Int) (A B:Option Addr) (c d:Nat) (us:Used Int) (hA:bU β A (ints (keys us))) (hl:us.length<=16777216) (h:Int) :
    Spec Tryz.prog β 108 #[.agg #[vI (M),vI (p),.slice A (us.length) (c),.slice B (us.length) (d)],vI h] [] (fun v l=>v=vI (qv (keys us) h)/\l=[]):=by
 refine SE Tryz.func108 Tryz.ntmps108 (fun R=>?_)
 refine SR (jN 2 [2] (fun _=>[]) (fun _=>[]) (fun b1=>.blk b1 [vI (M),vI (p),.slice A (us.length) (c),.slice B (us.length) (d)] 40) (fun b1=>?_))
 refine NN (af.seq (SR (jK 1 [5] [] ?_)))
 refine NN (af.block ?_)
 refine lJ (fun (i:Nat)=>(i<=us.length)/\(∀ j,j < i->¬ (keys us).getD j 0=h)) (fun (i:Nat)=>us.length - i) (fun (i:Nat)=>[(1,vI (h)),(2,vP b1),(5,vI ↑i)]) (fun (i:Nat)=>[.abs R,t6 b1 M p A us c B d]) 0 [0,1] (⟨Nat.zero_le _,fun j hj=>absurd hj (Nat.not_lt_zero j)⟩) ?_
 rintro i ⟨hi,hno⟩
 refine af.seq (SR (jK 5 [10] [(2,a_ 1 b1)] ?_))
 refine NN (cP ((((i:Nat):Int):Int) < (((us.length:Nat):Int):Int)) (fun h10=>?_) (fun h10=>?_))
 ·refine af.skip (NX (af.seq (af.block (SR ?_))))
  refine jK 7 [19] [(1,a_ 1 b1),(3,x_ i us.length (iW.hd hA (j:=i) (by rw [gF];omega))),(4,r_ (iW.rd hA (j:=i) (by rw [gF];omega)))] ?_
  refine NN (cP ((((keys us).getD i 0):Int)=(h:Int)) (fun GK=>?_) (fun GK=>?_))
  ·refine SR (jK 2 [4] [] ?_)
   refine NN (af.ret (ai.au (ai.aj (ai.aj (ai.au (ai.aj ?_))))))
   exact RT (vI ↑i) [0] (⟨by grind [Qu,gF],rfl⟩)
  refine af.skip (ai.aA (NX (af.region ?_)))
  refine jK 3 [5] [(1,wJ ((i:Int)+1) (↑(i+1)))] ?_
  refine NL ?_
  exact tJ ((i+1)) [0,1] (⟨by omega,fun j hj=>(Nat.lt_succ_iff_lt_or_eq.1 hj).elim (hno j) (fun e=>e ▸ GK)⟩)
 refine af.exit (ai.aC (ai.aC (ai.aU (NX (SR ?_)))))
 refine jK 1 [4] [] ?_
 refine NN (af.ret ?_)
 exact RT (vI (-1)) [0] (⟨by grind [JW,gF],rfl⟩)
theorem TS {β:Bs} (M p:Int) (A B:Option Addr) (c d:Nat) (us:Used Int) (x:Int) (hf:M<=(us.length:Int)) :
    Spec Tryz.prog β 110 #[.agg #[vI (M),vI (p),.slice A (us.length) (c),.slice B (us.length) (d)],vI x] [] (fun v l=>v=.tuple #[.agg #[vI (M),vI (p),.slice A (us.length) (c),.slice B (us.length) (d)],vI 0,vI 130]/\l=[]):=by
 refine SE Tryz.func110 Tryz.ntmps110 (fun R=>?_)
 refine SR (jN 1 [2] (fun _=>[]) (fun _=>[]) (fun b2=>.blk b2 [vI (M),vI (p),.slice A (us.length) (c),.slice B (us.length) (d)] 40) (fun b2=>?_))
 refine jN 3 [4] (fun _=>[]) (fun _=>[]) (fun b3=>.blk b3 [vI 0,vI 0,.slice none (0) (0),.slice none (0) (0)] 40) (fun b3=>?_)
 refine NN (af.seq (SR (jK 6 [16] [(1,a_ 1 b2),(4,a_ 1 b2)] ?_)))
 refine NN (cP ((((us.length:Nat):Int):Int) ≥ (M:Int)) (fun ou=>?_) (fun ou=>?_))
 ·refine SR (jC 4 [5,6] [(0,A_ 1 b2 4),(1,A_ 2 b3 4)] [(2,(Vl M p A us c B d))] ?_)
  refine NN (af.ret (ai.aj ?_))
  exact rT _ [A_ 2 b3 4] [0] (⟨rfl,rfl⟩)
 exact absurd ou (by omega)
theorem WL {β:Bs} (M p:Int) (A B:Option Addr) (c d:Nat) (us:Used Int) (hA:bU β A (ints (keys us))) (hB:bU β B (ints (gq us))) (hl:us.length<=16777216) (hr:aq.bH (keys us)) (hp:∀ z∈keys us,1<=z) (x:Int) (hf:(us.length:Int) < M) :
    Spec Tryz.prog β 110 #[.agg #[vI (M),vI (p),.slice A (us.length) (c),.slice B (us.length) (d)],vI x] [] (fun v l=>∃ A' c' B' d',v=.tuple #[.agg #[vI (M),vI (max p ((us.length:Int)+1)),.slice A' (ins (aq.least us) x us).length c',.slice B' (ins (aq.least us) x us).length d'],vI (aq.least us),vI 0]/\l=[.abs (av 3 1 A' (ins (aq.least us) x us).length c' (ints (keys (ins (aq.least us) x us)))),.abs (av 3 1 B' (ins (aq.least us) x us).length d' (ints (gq (ins (aq.least us) x us))))]):=by
 have hls:=Oh hr hp
 have hle:=least_le us
 refine SE Tryz.func110 Tryz.ntmps110 (fun R=>?_)
 refine SR (jN 1 [2] (fun _=>[]) (fun _=>[]) (fun b4=>.blk b4 [vI (M),vI (p),.slice A (us.length) (c),.slice B (us.length) (d)] 40) (fun b4=>?_))
 refine jN 3 [4] (fun _=>[]) (fun _=>[]) (fun b5=>.blk b5 [vI 0,vI 0,.slice none (0) (0),.slice none (0) (0)] 40) (fun b5=>?_)
 refine NN (af.seq (SR (jK 6 [16] [(1,a_ 1 b4),(4,a_ 1 b4)] ?_)))
 refine NN (cP ((((us.length:Nat):Int):Int) ≥ (M:Int)) (fun ou=>?_) (fun ou=>?_))
 ·exact absurd ou (by omega)
 refine af.skip (NX (SR (jK 1 [7] [] ?_)))
 refine NN (af.seq (af.block ?_))
 refine lJ (fun (g:Int)=>(1<=g)/\(g<=aq.least us)) (fun (g:Int)=>(aq.least us+1 - g).toNat) (fun (g:Int)=>([(1,vI (x))]++X8 b4 b5++[(7,vI (g))])) (fun (g:Int)=>[.abs R,t6 b4 M p A us c B d,EH b5]) 1 [0,1,2] (⟨by omega,hls.1⟩) ?_
 rintro g ⟨hg1,hg2⟩
 refine af.seq (SR (jK 2 [18,19] [(0,A_ 1 b4 4)] ?_))
 refine gL [] (Bc M p A B c d us hA hl g) ?_
 rintro _ _ ⟨rfl,rfl⟩
 refine jK 1 [21] [] ?_
 refine NN (cP (((qv (keys us) g):Int) ≥ (0:Int)) (fun oy=>?_) (fun oy=>?_))
 ·refine af.skip (NX (af.block (af.region ?_)))
  refine jK 3 [7] [(1,wJ (g+1) (g+1))] ?_
  refine NL (ai.aA ?_)
  exact tJ ((g+1)) [0,1,2] (⟨by omega,by grind [keys,MJ]⟩)
 refine af.exit (ai.aC (ai.aC (ai.aU (NX (SR ?_)))))
 refine sl 7 (.int .i64 (g)) (.int .i64 ((aq.least us))) (U2 (by rcases Int.lt_or_le g (aq.least us) with h0|h0;exact absurd (MJ.2 (hls.2.2 g (by omega) h0)) oy;omega)) ?_
 refine jN 7 [8] (fun b6=>[(1,a_ 1 b4),(3,a_ 1 b4),(6,A_ 3 b6 4)]) (fun _=>[]) (fun b6=>.blk b6 [vI (M),vI (p),.slice none (0) (0),.slice none (0) (0)] 40) (fun b6=>?_)
 refine NS (ak.mem (fun w hS=>(hS.ld (e:=3) (size:=1)).ld (e:=3) (size:=1)) ?_)
 refine jK 1 [9] [] ?_
 refine NN (af.seq (SR (jK 1 [10] [] ?_)))
 refine NN (af.block ?_)
 refine lJ (fun (i,dn,q,Ah,ch,Av,cv)=>(i<=us.length)/\(iX us (aq.least us) x i dn q)) (fun (i,dn,q,Ah,ch,Av,cv)=>us.length - i) (fun (i,dn,q,Ah,ch,Av,cv)=>([(1,vI (x))]++X8 b4 b5++[(7,vI ((aq.least us))),(8,vP b6),(9,.bool dn),(10,vI ↑i)])) (fun (i,dn,q,Ah,ch,Av,cv)=>[t6 b4 M p A us c B d,t6 b6 M p Ah q ch Av cv,.abs (av 3 1 Ah q.length ch (ints (keys q))),QB Av q cv,EH b5,.abs R]) (0,false,[],none,0,none,0) [1,3,4,5,2,0] (⟨Nat.zero_le _,iX.zero⟩) ?_
 rintro⟨i,dn,q,Ah,ch,Av,cv⟩ ⟨hi,hpt⟩
 refine af.seq (SR (jK 5 [33] [(2,a_ 0 b4)] ?_))
 refine NN (cP ((((i:Nat):Int):Int) < (((us.length:Nat):Int):Int)) (fun GJ=>?_) (fun GJ=>?_))
 ·refine af.skip (NX (af.seq (af.block (af.seq (SR ?_)))))
  have hpi:=vk (us:=us) (i:=i) (by omega)
  have Hg:q.length<=i+1:=by have:=hpt.len;cases dn<;>simp at this<;>omega
  refine jK 8 [43] [(1,a_ 0 b4),(3,x_ i us.length (iW.hd hA (j:=i) (by rw [gF];omega))),(4,r_ (iW.rd hA (j:=i) (by rw [gF];omega)))] ?_
  refine sP 43 ((((keys us).getD i 0):Int) > ((aq.least us):Int)) (fun Ez=>?_) (fun Ez=>?_)
  ·refine jK 3 [46] [] ?_
   refine NN (af.cond (b:=(!dn)) (fun _=>by kernel_rfl) (fun h46=>?_) (fun h46=>?_))
   ·refine SR (jN 4 [48,50] (fun b7=>[(1,a_ 1 b6)]) (fun _=>[]) (fun b7=>.blk b7 [vI ((aq.least us))] 3) (fun b7=>?_))
    refine j3 2 38 (some ⟨b7,0,none⟩) 1 1 [vI ((aq.least us))] rfl (dS (j:=6) rfl) (fun A8 c9=>?_) (hb:=by grind)
    refine ak.bO 2 rfl (FV (x:=(aq.least us,x)) rfl) ?_
    refine sl 51 (.slice A8 (q.length+1) (c9)) (.slice A8 ((q++[(aq.least us,x)]).length) (c9)) (by rw [kK q (aq.least us,x)]) ?_
    refine jC 2 [] [(1,a_ 1 b6)] [(1,[(2,.slice A8 ((q++[(aq.least us,x)]).length) (c9))])] ?_
    refine NS (jN 4 [54,56] (fun b10=>[(1,a_ 1 b6)]) (fun _=>[]) (fun b10=>.blk b10 [vI (x)] 3) (fun b10=>?_))
    refine j3 3 38 (some ⟨b10,0,none⟩) 1 1 [vI (x)] rfl (dS (j:=7) rfl) (fun CH zD=>?_) (hb:=by grind)
    refine ak.bO 3 rfl (FW (x:=(aq.least us,x)) rfl) ?_
    refine sl 57 (.slice CH (q.length+1) (zD)) (.slice CH ((q++[(aq.least us,x)]).length) (zD)) (by rw [kK q (aq.least us,x)]) ?_
    refine jC 2 [] [(1,a_ 1 b6)] [(1,[(3,.slice CH ((q++[(aq.least us,x)]).length) (zD))])] ?_
    refine NN (af.region (jK 1 [9] [] ?_))
    refine NN (af.seq (rM (List.range 11) 7 [0,1,4,5,6,7] ?_))
    refine jR 7 [1,2,4,7,8,9,10,60,65] [(1,a_ 1 b6),(3,a_ 0 b4),(5,x_ i us.length (iW.hd hA (j:=i) (by rw [gF];omega))),(6,r_ (iW.rd hA (j:=i) (by rw [gF];omega)))] ?_
    refine mN [0,1,4,5,6,7] (fun b13=>[(66,.slice (some ⟨b13,0,none⟩) (1) (1))]) (fun _=>[]) (fun b13=>.blk b13 [vI (((keys us).getD i 0))] 3) (fun b13=>?_)
    refine aY.cut (ι:=(Option Addr)×Nat) (fr':=fun ((zE,wR):(Option Addr)×Nat)=>(ML x b4 b5 us b6++[(9,.bool true),(10,vI ↑i),(67,.slice zE (((q++[(aq.least us,x)])++[(pr us i)]).length) (wR))])) (hp':=fun ((zE,wR):(Option Addr)×Nat)=>[t6 b4 M p A us c B d,.blk b6 [vI (M),vI (p),.slice A8 ((q++[(aq.least us,x)]).length) (c9),.slice CH ((q++[(aq.least us,x)]).length) (zD)] 40,.abs (av 3 1 zE (((q++[(aq.least us,x)])++[(pr us i)]).length) wR (ints (keys ((q++[(aq.least us,x)])++[(pr us i)])))),.abs (av 3 1 CH ((q++[(aq.least us,x)]).length) zD (ints (gq (q++[(aq.least us,x)])))),EH b5,.abs R,.blk b7 [vI ((aq.least us))] 3,.blk b10 [vI (x)] 3,MK b13 us i]) [0,1,4,5,6,7] rfl rfl ?_ rfl (fun _=>by kernel_rfl) ?_
    ·refine j3 2 38 (some ⟨b13,0,none⟩) 1 1 [vI (((keys us).getD i 0))] rfl (dS (j:=8) rfl) (fun zE wR=>?_) (hb:=by grind)
     refine ak.bO 2 rfl (FV (x:=(pr us i)) hpi.1) ?_
     refine sl 67 (.slice zE (((q++[(aq.least us,x)]).length)+1) (wR)) (.slice zE (((q++[(aq.least us,x)])++[(pr us i)]).length) (wR)) (by grind) ?_
     refine NL ?_
     exact MD (zE,wR) [1,2,4,7,8,9,10,67] [0,1,2,3,4,5,6,7,8]
    rintro⟨zE,wR⟩
    refine nC [0,1,4,5,6,7] [68] [] [] ?_
    refine aY.last rfl rfl ?_
    refine jC 1 [] [(0,a_ 1 b6)] [(1,[(2,.slice zE (((q++[(aq.least us,x)])++[(pr us i)]).length) (wR))])] ?_
    refine NL (ai.np (NX ?_))
    refine rM (List.range 11) 7 [0,1,4,5,6,7,8] ?_
    refine jR 7 [1,2,4,7,8,9,10,70,75] [(1,a_ 1 b6),(3,a_ 0 b4),(5,x_ i us.length (iW.hd hB (j:=i) (by rw [jr];omega))),(6,r_ (iW.rd hB (j:=i) (by rw [jr];omega)))] ?_
    refine mN [0,1,4,5,6,7,8] (fun b16=>[(76,.slice (some ⟨b16,0,none⟩) (1) (1))]) (fun _=>[]) (fun b16=>.blk b16 [vI (((gq us).getD i 0))] 3) (fun b16=>?_)
    refine aY.cut (ι:=(Option Addr)×Nat) (fr':=fun ((kO,lT):(Option Addr)×Nat)=>(ML x b4 b5 us b6++[(9,.bool true),(10,vI ↑i),(77,.slice kO (((q++[(aq.least us,x)])++[(pr us i)]).length) (lT))])) (hp':=fun ((kO,lT):(Option Addr)×Nat)=>[t6 b4 M p A us c B d,.blk b6 [vI (M),vI (p),.slice zE (((q++[(aq.least us,x)])++[(pr us i)]).length) (wR),.slice CH ((q++[(aq.least us,x)]).length) (zD)] 40,.abs (av 3 1 zE (((q++[(aq.least us,x)])++[(pr us i)]).length) wR (ints (keys ((q++[(aq.least us,x)])++[(pr us i)])))),.abs (av 3 1 kO (((q++[(aq.least us,x)])++[(pr us i)]).length) lT (ints (gq ((q++[(aq.least us,x)])++[(pr us i)])))),EH b5,.abs R,.blk b7 [vI ((aq.least us))] 3,.blk b10 [vI (x)] 3,MK b13 us i,.blk b16 [vI (((gq us).getD i 0))] 3]) [0,1,4,5,6,7,8] rfl rfl ?_ rfl (fun _=>by kernel_rfl) ?_
    ·refine j3 3 38 (some ⟨b16,0,none⟩) 1 1 [vI (((gq us).getD i 0))] rfl (dS (j:=9) rfl) (fun kO lT=>?_) (hb:=by grind)
     refine ak.bO 3 rfl (FW (x:=(pr us i)) hpi.2) ?_
     refine sl 77 (.slice kO (((q++[(aq.least us,x)]).length)+1) (lT)) (.slice kO (((q++[(aq.least us,x)])++[(pr us i)]).length) (lT)) (by grind) ?_
     refine NL ?_
     exact MD (kO,lT) [1,2,4,7,8,9,10,77] [0,1,2,3,4,5,6,7,8,9]
    rintro⟨kO,lT⟩
    refine nC [0,1,4,5,6,7,8] [78] [] [] ?_
    refine aY.last rfl rfl ?_
    refine jC 1 [] [(0,a_ 1 b6)] [(1,[(3,.slice kO (((q++[(aq.least us,x)])++[(pr us i)]).length) (lT))])] ?_
    refine NL (ai.np (ai.aA (NX (af.region ?_))))
    refine jK 3 [10] [(1,wJ ((i:Int)+1) (↑(i+1)))] ?_
    refine NL ?_
    exact tJ ((i+1),true,((q++[(aq.least us,x)])++[(pr us i)]),zE,wR,kO,lT) [0,1,2,3,4,5] (⟨by omega,iX.hit ((show dn=false by simpa using h46) ▸ hpt) (by omega) (by rw [← hpi.1];omega)⟩)
   refine af.skip (NX (af.seq (rM (List.range 11) 7 [0,1,4,5] ?_)))
   refine jR 7 [1,2,4,7,8,9,10,60,65] [(1,a_ 1 b6),(3,a_ 0 b4),(5,x_ i us.length (iW.hd hA (j:=i) (by rw [gF];omega))),(6,r_ (iW.rd hA (j:=i) (by rw [gF];omega)))] ?_
   refine mN [0,1,4,5] (fun b19=>[(66,.slice (some ⟨b19,0,none⟩) (1) (1))]) (fun _=>[]) (fun b19=>.blk b19 [vI (((keys us).getD i 0))] 3) (fun b19=>?_)
   refine aY.cut (ι:=(Option Addr)×Nat) (fr':=fun ((jv,jw):(Option Addr)×Nat)=>(ML x b4 b5 us b6++[(9,.bool dn),(10,vI ↑i),(67,.slice jv ((q++[(pr us i)]).length) (jw))])) (hp':=fun ((jv,jw):(Option Addr)×Nat)=>[t6 b4 M p A us c B d,t6 b6 M p Ah q ch Av cv,Vk jv q us i jw,QB Av q cv,EH b5,.abs R,MK b19 us i]) [0,1,4,5] rfl rfl ?_ rfl (fun _=>by kernel_rfl) ?_
   ·refine j3 2 38 (some ⟨b19,0,none⟩) 1 1 [vI (((keys us).getD i 0))] rfl (dS (j:=6) rfl) (fun jv jw=>?_) (hb:=by grind)
    refine ak.bO 2 rfl (FV (x:=(pr us i)) hpi.1) ?_
    refine sl 67 (.slice jv (q.length+1) (jw)) (.slice jv ((q++[(pr us i)]).length) (jw)) (by rw [kK q (pr us i)]) ?_
    refine NL ?_
    exact MD (jv,jw) [1,2,4,7,8,9,10,67] [0,1,2,3,4,5,6]
   rintro⟨jv,jw⟩
   refine nC [0,1,4,5] [68] [] [] ?_
   refine aY.last rfl rfl ?_
   refine jC 1 [] [(0,a_ 1 b6)] [(1,[(2,.slice jv ((q++[(pr us i)]).length) (jw))])] ?_
   refine NL (ai.np (NX ?_))
   refine rM (List.range 11) 7 [0,1,4,5,6] ?_
   refine jR 7 [1,2,4,7,8,9,10,70,75] [(1,a_ 1 b6),(3,a_ 0 b4),(5,x_ i us.length (iW.hd hB (j:=i) (by rw [jr];omega))),(6,r_ (iW.rd hB (j:=i) (by rw [jr];omega)))] ?_
   refine mN [0,1,4,5,6] (fun jl=>[(76,.slice (some ⟨jl,0,none⟩) (1) (1))]) (fun _=>[]) (fun jl=>.blk jl [vI (((gq us).getD i 0))] 3) (fun jl=>?_)
   refine aY.cut (ι:=(Option Addr)×Nat) (fr':=fun ((o5,o6):(Option Addr)×Nat)=>(ML x b4 b5 us b6++[(9,.bool dn),(10,vI ↑i),(77,.slice o5 ((q++[(pr us i)]).length) (o6))])) (hp':=fun ((o5,o6):(Option Addr)×Nat)=>([t6 b4 M p A us c B d]++X7 b6 M p jv q us i jw Av cv o5 o6 b5 R b19 jl)) [0,1,4,5,6] rfl rfl ?_ rfl (fun _=>by kernel_rfl) ?_
   ·refine j3 3 38 (some ⟨jl,0,none⟩) 1 1 [vI (((gq us).getD i 0))] rfl (dS (j:=7) rfl) (fun o5 o6=>?_) (hb:=by grind)
    refine ak.bO 3 rfl (FW (x:=(pr us i)) hpi.2) ?_
    refine sl 77 (.slice o5 (q.length+1) (o6)) (.slice o5 ((q++[(pr us i)]).length) (o6)) (by rw [kK q (pr us i)]) ?_
    refine NL ?_
    exact MD (o5,o6) [1,2,4,7,8,9,10,77] [0,1,2,3,4,5,6,7]
   rintro⟨o5,o6⟩
   refine nC [0,1,4,5,6] [78] [] [] ?_
   refine aY.last rfl rfl ?_
   refine jC 1 [] [(0,a_ 1 b6)] [(1,[(3,.slice o5 ((q++[(pr us i)]).length) (o6))])] ?_
   refine NL (ai.np (ai.aA (NX (af.region ?_))))
   refine jK 3 [10] [(1,wJ ((i:Int)+1) (↑(i+1)))] ?_
   refine NL ?_
   exact tJ ((i+1),dn,(q++[(pr us i)]),jv,jw,o5,o6) [0,1,2,3,4,5] (⟨by omega,(show dn=true by simpa using h46) ▸ iX.more ((show dn=true by simpa using h46) ▸ hpt) (by omega)⟩)
  refine jK 3 [46] [] ?_
  refine NN (CF (af.skip (NX (af.seq (rM (List.range 11) 7 [0,1,4,5] ?_)))))
  refine jR 7 [1,2,4,7,8,9,10,60,65] [(1,a_ 1 b6),(3,a_ 0 b4),(5,x_ i us.length (iW.hd hA (j:=i) (by rw [gF];omega))),(6,r_ (iW.rd hA (j:=i) (by rw [gF];omega)))] ?_
  refine mN [0,1,4,5] (fun rQ=>[(66,.slice (some ⟨rQ,0,none⟩) (1) (1))]) (fun _=>[]) (fun rQ=>.blk rQ [vI (((keys us).getD i 0))] 3) (fun rQ=>?_)
  refine aY.cut (ι:=(Option Addr)×Nat) (fr':=fun ((mQ,mR):(Option Addr)×Nat)=>(ML x b4 b5 us b6++[(9,.bool dn),(10,vI ↑i),(67,.slice mQ ((q++[(pr us i)]).length) (mR))])) (hp':=fun ((mQ,mR):(Option Addr)×Nat)=>[t6 b4 M p A us c B d,t6 b6 M p Ah q ch Av cv,Vk mQ q us i mR,QB Av q cv,EH b5,.abs R,MK rQ us i]) [0,1,4,5] rfl rfl ?_ rfl (fun _=>by kernel_rfl) ?_
  ·refine j3 2 38 (some ⟨rQ,0,none⟩) 1 1 [vI (((keys us).getD i 0))] rfl (dS (j:=6) rfl) (fun mQ mR=>?_) (hb:=by grind)
   refine ak.bO 2 rfl (FV (x:=(pr us i)) hpi.1) ?_
   refine sl 67 (.slice mQ (q.length+1) (mR)) (.slice mQ ((q++[(pr us i)]).length) (mR)) (by rw [kK q (pr us i)]) ?_
   refine NL ?_
   exact MD (mQ,mR) [1,2,4,7,8,9,10,67] [0,1,2,3,4,5,6]
  rintro⟨mQ,mR⟩
  refine nC [0,1,4,5] [68] [] [] ?_
  refine aY.last rfl rfl ?_
  refine jC 1 [] [(0,a_ 1 b6)] [(1,[(2,.slice mQ ((q++[(pr us i)]).length) (mR))])] ?_
  refine NL (ai.np (NX ?_))
  refine rM (List.range 11) 7 [0,1,4,5,6] ?_
  refine jR 7 [1,2,4,7,8,9,10,70,75] [(1,a_ 1 b6),(3,a_ 0 b4),(5,x_ i us.length (iW.hd hB (j:=i) (by rw [jr];omega))),(6,r_ (iW.rd hB (j:=i) (by rw [jr];omega)))] ?_
  refine mN [0,1,4,5,6] (fun fF=>[(76,.slice (some ⟨fF,0,none⟩) (1) (1))]) (fun _=>[]) (fun fF=>.blk fF [vI (((gq us).getD i 0))] 3) (fun fF=>?_)
  refine aY.cut (ι:=(Option Addr)×Nat) (fr':=fun ((vS,vT):(Option Addr)×Nat)=>(ML x b4 b5 us b6++[(9,.bool dn),(10,vI ↑i),(77,.slice vS ((q++[(pr us i)]).length) (vT))])) (hp':=fun ((vS,vT):(Option Addr)×Nat)=>([t6 b4 M p A us c B d]++X7 b6 M p mQ q us i mR Av cv vS vT b5 R rQ fF)) [0,1,4,5,6] rfl rfl ?_ rfl (fun _=>by kernel_rfl) ?_
  ·refine j3 3 38 (some ⟨fF,0,none⟩) 1 1 [vI (((gq us).getD i 0))] rfl (dS (j:=7) rfl) (fun vS vT=>?_) (hb:=by grind)
   refine ak.bO 3 rfl (FW (x:=(pr us i)) hpi.2) ?_
   refine sl 77 (.slice vS (q.length+1) (vT)) (.slice vS ((q++[(pr us i)]).length) (vT)) (by rw [kK q (pr us i)]) ?_
   refine NL ?_
   exact MD (vS,vT) [1,2,4,7,8,9,10,77] [0,1,2,3,4,5,6,7]
  rintro⟨vS,vT⟩
  refine nC [0,1,4,5,6] [78] [] [] ?_
  refine aY.last rfl rfl ?_
  refine jC 1 [] [(0,a_ 1 b6)] [(1,[(3,.slice vS ((q++[(pr us i)]).length) (vT))])] ?_
  refine NL (ai.np (ai.aA (NX (af.region ?_))))
  refine jK 3 [10] [(1,wJ ((i:Int)+1) (↑(i+1)))] ?_
  refine NL ?_
  exact tJ ((i+1),dn,(q++[(pr us i)]),mQ,mR,vS,vT) [0,1,2,3,4,5] (⟨by omega,hpt.keep (by omega) (by rw [← hpi.1];omega)⟩)
 refine af.exit (ai.aC (ai.aC (ai.aU (NX (af.seq (SR ?_))))))
 have hiu:i=us.length:=by omega
 subst hiu
 have Hg:q.length<=us.length+1:=by have:=hpt.len;cases dn<;>simp at this<;>omega
 refine jK 2 [80] [] ?_
 refine NN (af.cond (b:=(!dn)) (fun _=>by kernel_rfl) (fun QC=>?_) (fun QC=>?_))
 ·refine SR (jN 4 [82,84] (fun qy=>[(1,a_ 1 b6)]) (fun _=>[]) (fun qy=>.blk qy [vI ((aq.least us))] 3) (fun qy=>?_))
  refine j3 2 38 (some ⟨qy,0,none⟩) 1 1 [vI ((aq.least us))] rfl (dS (j:=6) rfl) (fun EI EJ=>?_) (hb:=by grind)
  refine ak.bO 2 rfl (FV (x:=(aq.least us,x)) rfl) ?_
  refine sl 85 (.slice EI (q.length+1) (EJ)) (.slice EI ((q++[(aq.least us,x)]).length) (EJ)) (by rw [kK q (aq.least us,x)]) ?_
  refine jC 2 [] [(1,a_ 1 b6)] [(1,[(2,.slice EI ((q++[(aq.least us,x)]).length) (EJ))])] ?_
  refine NN (af.region (jN 4 [88,90] (fun rJ=>[(1,a_ 1 b6)]) (fun _=>[]) (fun rJ=>.blk rJ [vI (x)] 3) (fun rJ=>?_)))
  refine j3 3 38 (some ⟨rJ,0,none⟩) 1 1 [vI (x)] rfl (dS (j:=7) rfl) (fun EK EL=>?_) (hb:=by grind)
  refine ak.bO 3 rfl (FW (x:=(aq.least us,x)) rfl) ?_
  refine sl 91 (.slice EK (q.length+1) (EL)) (.slice EK ((q++[(aq.least us,x)]).length) (EL)) (by rw [kK q (aq.least us,x)]) ?_
  refine jC 2 [] [(1,a_ 1 b6)] [(1,[(3,.slice EK ((q++[(aq.least us,x)]).length) (EL))])] ?_
  refine NN (af.seq (SR (jK 6 [98] [(1,a_ 1 b6),(4,a_ 1 b6)] ?_)))
  refine NN (cP (((((q++[(aq.least us,x)]).length:Nat):Int):Int) > (p:Int)) (fun X9=>?_) (fun X9=>?_))
  ·refine af.region (jC 5 [] [(1,a_ 1 b6),(4,a_ 1 b6)] [(1,[(1,vI ↑((q++[(aq.least us,x)]).length))])] ?_)
   refine NS (jC 5 [5,6] [(0,A_ 1 b6 4),(2,A_ 4 b5 4)] [(4,[(0,vI (M)),(1,vI ↑((q++[(aq.least us,x)]).length)),(2,.slice EI ((q++[(aq.least us,x)]).length) (EJ)),(3,.slice EK ((q++[(aq.least us,x)]).length) (EL))])] ?_)
   refine NN (af.ret ?_)
   have hq:(q++[(aq.least us,x)])=ins (aq.least us) x us:=iX.last ((show dn=false by simpa using QC) ▸ hpt)
   have Ya:((q++[(aq.least us,x)])).length=us.length+1:=by rw [hq,iH]
   skip
   exact rT (.tuple #[.agg #[vI (M),vI ↑((q++[(aq.least us,x)]).length),.slice EI ((q++[(aq.least us,x)]).length) (EJ),.slice EK ((q++[(aq.least us,x)]).length) (EL)],vI ((aq.least us)),vI 0]) [A_ 4 b5 4] [2,3,5] (⟨EI,EJ,EK,EL,by grind,by rw [← hq]⟩)
  refine af.skip (NX (SR (jC 5 [5,6] [(0,A_ 1 b6 4),(2,A_ 4 b5 4)] [(4,[(0,vI (M)),(1,vI (p)),(2,.slice EI ((q++[(aq.least us,x)]).length) (EJ)),(3,.slice EK ((q++[(aq.least us,x)]).length) (EL))])] ?_)))
  refine NN (af.ret ?_)
  have hq:(q++[(aq.least us,x)])=ins (aq.least us) x us:=iX.last ((show dn=false by simpa using QC) ▸ hpt)
  have Ya:((q++[(aq.least us,x)])).length=us.length+1:=by rw [hq,iH]
  skip
  exact rT (.tuple #[.agg #[vI (M),vI (p),.slice EI ((q++[(aq.least us,x)]).length) (EJ),.slice EK ((q++[(aq.least us,x)]).length) (EL)],vI ((aq.least us)),vI 0]) [A_ 4 b5 4] [2,3,5] (⟨EI,EJ,EK,EL,by grind,by rw [← hq]⟩)
 refine af.skip (NX (af.seq (SR (jK 6 [98] [(1,a_ 1 b6),(4,a_ 1 b6)] ?_))))
 refine NN (cP ((((q.length:Nat):Int):Int) > (p:Int)) (fun X9=>?_) (fun X9=>?_))
 ·refine af.region (jC 5 [] [(1,a_ 1 b6),(4,a_ 1 b6)] [(1,[(1,vI ↑q.length)])] ?_)
  refine NS (jC 5 [5,6] [(0,A_ 1 b6 4),(2,A_ 4 b5 4)] [(4,[(0,vI (M)),(1,vI ↑q.length),(2,.slice Ah (q.length) (ch)),(3,.slice Av (q.length) (cv))])] ?_)
  refine NN (af.ret ?_)
  have hq:q=ins (aq.least us) x us:=iX.end_ ((show dn=true by simpa using QC) ▸ hpt)
  have Ya:(q).length=us.length+1:=by rw [hq,iH]
  skip
  exact rT (.tuple #[.agg #[vI (M),vI ↑q.length,.slice Ah (q.length) (ch),.slice Av (q.length) (cv)],vI ((aq.least us)),vI 0]) [A_ 4 b5 4] [2,3,5] (⟨Ah,ch,Av,cv,by grind,by rw [← hq]⟩)
 refine af.skip (NX (SR (jC 5 [5,6] [(0,A_ 1 b6 4),(2,A_ 4 b5 4)] [(4,(Vl M p Ah q ch Av cv))] ?_)))
 refine NN (af.ret ?_)
 have hq:q=ins (aq.least us) x us:=iX.end_ ((show dn=true by simpa using QC) ▸ hpt)
 have Ya:(q).length=us.length+1:=by rw [hq,iH]
 skip
 exact rT (.tuple #[.agg #[vI (M),vI (p),.slice Ah (q.length) (ch),.slice Av (q.length) (cv)],vI ((aq.least us)),vI 0]) [A_ 4 b5 4] [2,3,5] (⟨Ah,ch,Av,cv,by grind,by rw [← hq]⟩)
theorem TU {β:Bs} (M p:Int) (A B:Option Addr) (c d:Nat) (us:Used Int) (hA:bU β A (ints (keys us))) (hB:bU β B (ints (gq us))) (hl:us.length<=16777216) (h:Int) (hr:aq.bH (keys us)) (k:Nat) (hk:k < us.length) (gn:qv (keys us) h=(k:Int)) (hx:(keys us).getD k 0=h) :
    Spec Tryz.prog β 78 #[.agg #[vI (M),vI (p),.slice A (us.length) (c),.slice B (us.length) (d)],vI h] [] (fun v l=>∃ A' c' B' d',v=.tuple #[.agg #[vI (M),vI (p),.slice A' (del h us).length c',.slice B' (del h us).length d'],vI ((gq us).getD k 0),vI 0]/\l=[.abs (av 3 1 A' (del h us).length c' (ints (keys (del h us)))),.abs (av 3 1 B' (del h us).length d' (ints (gq (del h us))))]):=by
 have hkp:=vk hk
 refine SE Tryz.func78 Tryz.ntmps78 (fun R=>?_)
 refine SR (jN 1 [2] (fun _=>[]) (fun _=>[]) (fun vU=>.blk vU [vI (M),vI (p),.slice A (us.length) (c),.slice B (us.length) (d)] 40) (fun vU=>?_))
 refine jN 3 [4] (fun _=>[]) (fun _=>[]) (fun vV=>.blk vV [vI 0,vI 0,.slice none (0) (0),.slice none (0) (0)] 40) (fun vV=>?_)
 refine NS (jK 2 [10,11] [(0,A_ 1 vU 4)] ?_)
 refine gL [] (Bc M p A B c d us hA hl h) ?_
 rintro _ _ ⟨rfl,rfl⟩
 refine sl 12 (.int .i64 ((qv (keys us) h))) (.int .i64 ↑k) (U2 gn) ?_
 refine jK 1 [7] [] ?_
 refine NN (af.seq (SR (jK 2 [14] [(1,wF (((k:Int):Int) < (0:Int)))] ?_)))
 refine NN (CF (af.skip (NX (SR (jN 7 [8] (fun vW=>[(1,a_ 1 vU),(3,a_ 1 vU),(6,A_ 3 vW 4)]) (fun _=>[]) (fun vW=>.blk vW [vI (M),vI (p),.slice none (0) (0),.slice none (0) (0)] 40) (fun vW=>?_))))))
 refine NN (af.seq (SR (ak.mem (fun w hS=>(hS.ld (e:=3) (size:=1)).ld (e:=3) (size:=1)) ?_)))
 refine jK 1 [9] [] ?_
 refine NN (af.block ?_)
 refine lJ (fun (i,q,Ah,ch,Av,cv)=>(i<=us.length)/\(q=del h (us.take i))/\(q.length<=i)) (fun (i,q,Ah,ch,Av,cv)=>us.length - i) (fun (i,q,Ah,ch,Av,cv)=>(X8 vU vV++[(7,vI ↑k),(8,vP vW),(9,vI ↑i)])) (fun (i,q,Ah,ch,Av,cv)=>[t6 vU M p A us c B d,t6 vW M p Ah q ch Av cv,.abs (av 3 1 Ah q.length ch (ints (keys q))),QB Av q cv,EH vV,.abs R]) (0,[],none,0,none,0) [1,3,4,5,2,0] (⟨Nat.zero_le _,by rw [List.take_zero];rfl,Nat.le_refl _⟩) ?_
 rintro⟨i,q,Ah,ch,Av,cv⟩ ⟨hi,hq,Hg⟩
 refine af.seq (SR (jK 5 [25] [(2,a_ 0 vU)] ?_))
 refine NN (cP ((((i:Nat):Int):Int) < (((us.length:Nat):Int):Int)) (fun oG=>?_) (fun oG=>?_))
 ·refine af.skip (NX (af.seq (af.block (SR ?_))))
  have hpi:=vk (us:=us) (i:=i) (by omega)
  refine jK 3 [30] [] ?_
  refine NN (cN ((((i:Nat):Int):Int)=(((k:Nat):Int):Int)) (fun lE=>?_) (fun lE=>?_))
  ·refine af.seq (rM (List.range 11) 7 [0,1,4,5] ?_)
   refine jR 7 [2,4,7,8,9,32,37] [(1,a_ 1 vW),(3,a_ 0 vU),(5,x_ i us.length (iW.hd hA (j:=i) (by rw [gF];omega))),(6,r_ (iW.rd hA (j:=i) (by rw [gF];omega)))] ?_
   refine mN [0,1,4,5] (fun J7=>[(38,.slice (some ⟨J7,0,none⟩) (1) (1))]) (fun _=>[]) (fun J7=>.blk J7 [vI (((keys us).getD i 0))] 3) (fun J7=>?_)
   refine aY.cut (ι:=(Option Addr)×Nat) (fr':=fun ((Bd,Be):(Option Addr)×Nat)=>[(2,vP vU),(4,vP vV),(7,vI ↑k),(8,vP vW),(9,vI ↑i),(39,.slice Bd ((q++[(pr us i)]).length) (Be))]) (hp':=fun ((Bd,Be):(Option Addr)×Nat)=>[t6 vU M p A us c B d,t6 vW M p Ah q ch Av cv,Vk Bd q us i Be,QB Av q cv,EH vV,.abs R,MK J7 us i]) [0,1,4,5] rfl rfl ?_ rfl (fun _=>by kernel_rfl) ?_
   ·refine j3 2 38 (some ⟨J7,0,none⟩) 1 1 [vI (((keys us).getD i 0))] rfl (dS (j:=6) rfl) (fun Bd Be=>?_) (hb:=by have:=Hg;have:=Hg;omega)
    refine ak.bO 2 rfl (FV (x:=(pr us i)) hpi.1) ?_
    refine sl 39 (.slice Bd (q.length+1) (Be)) (.slice Bd ((q++[(pr us i)]).length) (Be)) (by rw [kK q (pr us i)]) ?_
    refine NL ?_
    exact MD (Bd,Be) [2,4,7,8,9,39] [0,1,2,3,4,5,6]
   rintro⟨Bd,Be⟩
   refine nC [0,1,4,5] [40] [] [] ?_
   refine aY.last rfl rfl ?_
   refine jC 1 [] [(0,a_ 1 vW)] [(1,[(2,.slice Bd ((q++[(pr us i)]).length) (Be))])] ?_
   refine NL (ai.np (NX ?_))
   refine rM (List.range 11) 7 [0,1,4,5,6] ?_
   refine jR 7 [2,4,7,8,9,42,47] [(1,a_ 1 vW),(3,a_ 0 vU),(5,x_ i us.length (iW.hd hB (j:=i) (by rw [jr];omega))),(6,r_ (iW.rd hB (j:=i) (by rw [jr];omega)))] ?_
   refine mN [0,1,4,5,6] (fun MN=>[(48,.slice (some ⟨MN,0,none⟩) (1) (1))]) (fun _=>[]) (fun MN=>.blk MN [vI (((gq us).getD i 0))] 3) (fun MN=>?_)
   refine aY.cut (ι:=(Option Addr)×Nat) (fr':=fun ((CI,CJ):(Option Addr)×Nat)=>[(2,vP vU),(4,vP vV),(7,vI ↑k),(8,vP vW),(9,vI ↑i),(49,.slice CI ((q++[(pr us i)]).length) (CJ))]) (hp':=fun ((CI,CJ):(Option Addr)×Nat)=>([t6 vU M p A us c B d]++X7 vW M p Bd q us i Be Av cv CI CJ vV R J7 MN)) [0,1,4,5,6] rfl rfl ?_ rfl (fun _=>by kernel_rfl) ?_
   ·refine j3 3 38 (some ⟨MN,0,none⟩) 1 1 [vI (((gq us).getD i 0))] rfl (dS (j:=7) rfl) (fun CI CJ=>?_) (hb:=by have:=Hg;have:=Hg;omega)
    refine ak.bO 3 rfl (FW (x:=(pr us i)) hpi.2) ?_
    refine sl 49 (.slice CI (q.length+1) (CJ)) (.slice CI ((q++[(pr us i)]).length) (CJ)) (by rw [kK q (pr us i)]) ?_
    refine NL ?_
    exact MD (CI,CJ) [2,4,7,8,9,49] [0,1,2,3,4,5,6,7]
   rintro⟨CI,CJ⟩
   refine nC [0,1,4,5,6] [50] [] [] ?_
   refine aY.last rfl rfl ?_
   refine jC 1 [] [(0,a_ 1 vW)] [(1,[(3,.slice CI ((q++[(pr us i)]).length) (CJ))])] ?_
   refine NL (ai.np (ai.aA (NX (af.region ?_))))
   refine jK 3 [9] [(1,wJ ((i:Int)+1) (↑(i+1)))] ?_
   refine NL ?_
   exact tJ ((i+1),(q++[(pr us i)]),Bd,Be,CI,CJ) [0,1,2,3,4,5] (⟨by omega,(by grind [JZ,EC]),by grind⟩)
  refine af.skip (ai.aA (NX (af.region ?_)))
  refine jK 3 [9] [(1,wJ ((i:Int)+1) (↑(i+1)))] ?_
  refine NL ?_
  exact tJ ((i+1),q,Ah,ch,Av,cv) [0,1,2,3,4,5] (⟨by omega,by grind [JZ],by grind⟩)
 refine af.exit (ai.aC (ai.aC (ai.aU (NX (af.seq ?_)))))
 refine rM (List.range 9) 6 [0,1] ?_
 refine jR 6 [4,51,56] [(0,A_ 1 vW 4),(2,a_ 0 vU),(4,x_ k us.length (iW.hd hB (j:=k) (by rw [jr];omega))),(5,r_ (iW.rd hB (j:=k) (by rw [jr];omega)))] ?_
 refine nC [0,1] [] [(0,A_ 4 vV 4)] [(4,(Vl M p Ah q ch Av cv))] ?_
 refine nC [0,1] [5] [] [] ?_
 refine aY.last rfl rfl ?_
 refine jK 1 [6] [] ?_
 refine NL (ai.np (NX (af.ret ?_)))
 have MO:q=del h us:=by grind
 exact rT _ [A_ 4 vV 4] [2,3,5] (⟨Ah,ch,Av,cv,by rw [← MO],by rw [← MO]⟩)
theorem Oo {β:Bs} (M p:Int) (A B:Option Addr) (c d:Nat) (us:Used Int) (hA:bU β A (ints (keys us))) (hl:us.length<=16777216) (h:Int) (gn:qv (keys us) h = -1) :
    Spec Tryz.prog β 78 #[.agg #[vI (M),vI (p),.slice A (us.length) (c),.slice B (us.length) (d)],vI h] [] (fun v l=>v=.tuple #[.agg #[vI (M),vI (p),.slice A (us.length) (c),.slice B (us.length) (d)],vI 0,vI 131]/\l=[]):=by
 refine SE Tryz.func78 Tryz.ntmps78 (fun R=>?_)
 refine SR (jN 1 [2] (fun _=>[]) (fun _=>[]) (fun qz=>.blk qz [vI (M),vI (p),.slice A (us.length) (c),.slice B (us.length) (d)] 40) (fun qz=>?_))
 refine jN 3 [4] (fun _=>[]) (fun _=>[]) (fun t7=>.blk t7 [vI 0,vI 0,.slice none (0) (0),.slice none (0) (0)] 40) (fun t7=>?_)
 refine NS (jK 2 [10,11] [(0,A_ 1 qz 4)] ?_)
 refine gL [] (Bc M p A B c d us hA hl h) ?_
 rintro _ _ ⟨rfl,rfl⟩
 refine jK 1 [7] [] ?_
 refine NN (af.seq (SR (jK 2 [14] [] ?_)))
 refine NN (cP (((qv (keys us) h):Int) < (0:Int)) (fun iU=>?_) (fun iU=>?_))
 ·refine SR (jC 4 [5,6] [(0,A_ 1 qz 4),(1,A_ 2 t7 4)] [(2,(Vl M p A us c B d))] ?_)
  refine NN (af.ret (ai.aj ?_))
  exact rT _ [A_ 2 t7 4] [0] (⟨rfl,rfl⟩)
 exact absurd iU (by omega)
end
section
open Go.RowKit Go.Maps aX aq
section p
variable {R:RS} {h need e id:Int} {name:ByteArray} {d k to:Nat} {c:aH} {n:ay}
def exV:Except Int Nat->Value
  | .error e=>.tuple #[.int .i64 0,.int .i64 e]
  | .ok k=>.tuple #[.int .i64 k,.int .i64 0]
theorem QD {us:Used Int} (hr:aq.bH (keys us)) {h:Int} (hm:h∈keys us):∃ k:Nat,qv (keys us) h=(k:Int)/\k < us.length/\(keys us).getD k 0=h/\aq.get us h=some ((gq us).getD k 0):=by
  grind [MH,gF,vk,X5]
theorem FX (hm:h∉keys R.us):qv (keys R.us) h = -1/\eH R h=.error 131:=⟨MI hm,by unfold eH;rw [get_none.2 hm]⟩
theorem MP (hC:RC R) (hm:h∈keys R.us):∃ k:Nat,qv (keys R.us) h=(k:Int)/\k < R.us.length/\eH R h=.ok (tgt R.ns ((gq R.us).getD k 0))/\fP R.ns ((gq R.us).getD k 0)=(tgt R.ns ((gq R.us).getD k 0):Int):=by
  obtain⟨k,h1,h2,h3,h4⟩:=QD hC.usr hm
  refine⟨k,h1,h2,by unfold eH;rw [h4],?_⟩
  exact (kr (hC.hand _ (wN (by rw [jr];exact h2)))).2.2
theorem pZ (hC:RC R) (h:Int):eH R h=.error 131\/∃ k,eH R h=.ok k/\k < R.ns.length:=by
  by_cases hm:h∈keys R.us
  ·obtain⟨k,_,h2,h3,_⟩:=MP hC hm
   exact .inr ⟨_,h3,(kr (hC.hand _ (wN (by rw [jr];exact h2)))).1⟩
  exact .inl (FX hm).2
theorem QE (hh:eH R h=.error e):d6 R h name need=.error e:=by unfold d6;rw [hh]
theorem MQ (hh:eH R h=.ok d) (hk:¬ (nd R.ns d).kind=2):d6 R h name need=.error 173:=by unfold d6;rw [hh];exact if_neg hk
theorem J8 (hh:eH R h=.ok d) (hk:(nd R.ns d).kind=2) (hg:(nd R.ns d).id∈R.gone):d6 R h name need=.error 170:=by unfold d6;rw [hh];exact (if_pos hk).trans (if_pos hg)
theorem J9 (hh:eH R h=.ok d) (hk:(nd R.ns d).kind=2) (hg:¬ (nd R.ns d).id∈R.gone) (hn:¬ bQ name):d6 R h name need=.error 95:=by unfold d6;rw [hh];exact (if_pos hk).trans ((if_neg hg).trans (if_neg hn))
theorem Ka (hh:eH R h=.ok d) (hk:(nd R.ns d).kind=2) (hg:¬ (nd R.ns d).id∈R.gone) (hn:bQ name) (hb:¬ bits BinOp.and .i64 (nd R.ns d).mode need=need):d6 R h name need=.error 175:=by unfold d6;rw [hh];exact (if_pos hk).trans ((if_neg hg).trans ((if_pos hn).trans (if_neg hb)))
theorem QF (hh:eH R h=.ok d) (hk:(nd R.ns d).kind=2) (hg:¬ (nd R.ns d).id∈R.gone) (hn:bQ name) (hb:bits BinOp.and .i64 (nd R.ns d).mode need=need):d6 R h name need=.ok d:=by unfold d6;rw [hh];exact (if_pos hk).trans ((if_neg hg).trans ((if_pos hn).trans (if_pos hb)))
theorem nO (hC:RC R) (h:Int) (name:ByteArray) (need:Int):(∃ e,d6 R h name need=.error e/\¬ e=0)\/∃ d,d6 R h name need=.ok d/\d < R.ns.length:=by
  rcases pZ hC h with hh|⟨k,hh,hk⟩
  all_goals grind [QE,nd,J8,bQ,QF,Ka,J9,MQ]
noncomputable def yU (R:RS) (c:aH) (need:Int):Value:=match d6 R c.handle c.name need with
  | .error e=>.tuple #[.int .i64 0,.int .i64 0,.int .i64 e]
  | .ok f=>match d6 R c.other c.text 192 with
    | .error e=>.tuple #[.int .i64 f,.int .i64 0,.int .i64 e]
    | .ok to=>.tuple #[.int .i64 f,.int .i64 to,.int .i64 0]
theorem QG (h:d6 R c.handle c.name need=.error e):yU R c need=.tuple #[.int .i64 0,.int .i64 0,.int .i64 e]:=by unfold yU;rw [h]
theorem QH (h:d6 R c.handle c.name need=.ok d) (h2:d6 R c.other c.text 192=.error e):yU R c need=.tuple #[.int .i64 d,.int .i64 0,.int .i64 e]:=by unfold yU;rw [h];simp only [h2]
theorem QI (h:d6 R c.handle c.name need=.ok d) (h2:d6 R c.other c.text 192=.ok to):yU R c need=.tuple #[.int .i64 d,.int .i64 to,.int .i64 0]:=by unfold yU;rw [h];simp only [h2]
theorem Hj (hC:RC R) (c:aH) (need:Int):(∃ a e,mK R c need=.error e/\¬ e=0/\yU R c need=.tuple #[.int .i64 a,.int .i64 0,.int .i64 e])\/∃ f to,mK R c need=.ok (f,to)/\f < R.ns.length/\to < R.ns.length/\yU R c need=.tuple #[.int .i64 f,.int .i64 to,.int .i64 0]:=by
  rcases nO hC c.handle c.name need with ⟨e,h1,h2⟩|⟨f,h1,h2⟩
  ·exact .inl ⟨0,e,by unfold mK;rw [h1],h2,QG h1⟩
  rcases nO hC c.other c.text 192 with ⟨e,h3,h4⟩|⟨to,h3,h4⟩
  ·exact .inl ⟨f,e,by unfold mK;rw [h1];simp only [h3],h4,QH h1 h3⟩
  exact .inr ⟨f,to,by unfold mK;rw [h1];simp only [h3],h2,h4,QI h1 h3⟩
theorem j7 (ns:List ay) (d:Nat) (name:ByteArray):bn ns d name = -1\/∃ k:Nat,bn ns d name=(k:Int)/\k < ns.length:=by
  unfold bn
  split
  ·exact .inl rfl
  rename_i j _
  by_cases h:0<=fP ns (en (nd ns d).ah j).id
  ·exact .inr ⟨_,(kr h).2.2,(kr h).1⟩
  exact .inl (BP h)
theorem TV (h:¬ (R.ns.length:Int) < R.cN):false=decide (rO R):=(decide_eq_false (fun q=>h q.1)).symm
theorem TW (h:¬ R.last < 1099511627776):false=decide (rO R):=(decide_eq_false (fun q=>h q.2.1)).symm
theorem Yb (h:(R.ns.length:Int) < R.cN) (h2:R.last < 1099511627776):decide ((bJ R.ns R.ns.length:Int) < 8192)=decide (rO R):=decide_eq_decide.2 ⟨fun q=>⟨h,h2,q⟩,fun q=>q.2.2⟩
theorem Yc (h:¬ 0<=id):false=decide (gA id):=(decide_eq_false (fun q=>h q.1)).symm
theorem aae (h:0<=id):decide (id<=4095)=decide (gA id):=decide_eq_decide.2 ⟨fun q=>⟨h,q⟩,fun q=>q.2⟩
theorem TY (h:name=⟨#[]⟩):90=iQ name:=by unfold iQ;rw [if_pos h]
theorem QJ (h:¬ name=⟨#[]⟩) (h2:4096 < (name.size:Int)):93=iQ name:=by unfold iQ;rw [if_neg h,if_pos (by omega)]
theorem QK (h:¬ name=⟨#[]⟩) (h2:¬ 4096 < (name.size:Int)) (h3:∀ q,q < name.size->¬ cR name q=0):0=iQ name:=by unfold iQ;rw [if_neg h,if_neg (by omega),if_pos (show pP name from h3)]
theorem T3 (h:¬ name=⟨#[]⟩) (h2:¬ 4096 < (name.size:Int)) {q:Nat} (hq:q < name.size) (h3:cR name q=0):91=iQ name:=by unfold iQ;rw [if_neg h,if_neg (by omega),if_neg (fun g=>g q hq h3)]
def Yd:Except Int Nat->Int
  | .error _=>0
  | .ok k=>k
def Vm:Except Int Nat->Int
  | .error e=>e
  | .ok _=>0
theorem Ye (x:Except Int Nat):exV x=.tuple #[.int .i64 (Yd x),.int .i64 (Vm x)]:=by cases x<;>rfl
noncomputable def mw (R:RS) (c:aH):Except Int Nat:=if c.op=12 then (match d6 R c.handle c.name 64 with|.error e=>.error e|.ok d=>if 0<=bn R.ns d c.name then .ok (bn R.ns d c.name).toNat else .error 170) else eH R c.handle
theorem Kb:mV R c=match mw R c with|.error e=>ED c e|.ok k=>Cd R c k:=by
  unfold mV mw
  grind
theorem T4 (h:mw R c=.error e):mV R c=ED c e:=by rw [Kb,h]
theorem T5 (h:mw R c=.ok k):mV R c=Cd R c k:=by rw [Kb,h]
theorem EM (h:¬ c.op=12):eH R c.handle=mw R c:=by unfold mw;rw [if_neg h]
theorem Hl (h:c.op=12) (ha:d6 R c.handle c.name 64=.error e):.error e=mw R c:=by unfold mw;rw [if_pos h,ha]
theorem EN (h:c.op=12) (ha:d6 R c.handle c.name 64=.ok d) (hl:bn R.ns d c.name = -1):.error 170=mw R c:=by unfold mw;rw [if_pos h,ha];simp only;rw [if_neg (by rw [hl];decide)]
theorem EO (h:c.op=12) (ha:d6 R c.handle c.name 64=.ok d) (hl:bn R.ns d c.name=(k:Int)):.ok k=mw R c:=by unfold mw;rw [if_pos h,ha];simp only;rw [if_pos (by rw [hl];omega),hl];rfl
theorem LR (hC:RC R) (c:aH):(∃ e,mw R c=.error e/\¬ e=0)\/∃ k,mw R c=.ok k/\k < R.ns.length:=by
  by_cases h:c.op=12
  ·rcases nO hC c.handle c.name 64 with ⟨e,h1,h2⟩|⟨d,h1,_⟩
   ·exact .inl ⟨e,(Hl h h1).symm,h2⟩
   rcases j7 R.ns d c.name with h2|⟨k,h2,h3⟩
   ·grind [EN]
   exact .inr ⟨k,(EO h h1 h2).symm,h3⟩
  rw [← EM h]
  rcases pZ hC c.handle with h1|h1
  ·exact .inl ⟨_,h1,by decide⟩
  exact .inr h1
end p
end
section
open Go.RowKit Go.Maps aX aq
attribute [local irreducible] ak aV af ai
noncomputable abbrev Yf (dc)(top)(b5:Nat) (st):=([(1,vI ↑dc),(2,vI ↑top),(3,vP b5),(7,vI ↑st)]:Fr)
theorem T6 {β:Bs} (Z:RS) (Y:RL) (hR:cq β Z Y) (hB:RB Z) :
    Spec Tryz.prog β 143 #[.agg ⟨rV Z Y⟩] [] (fun v l=>v=.bool (decide (rO Z))/\l=[]):=by
 refine SE Tryz.func143 Tryz.ntmps143 (fun R=>?_)
 refine SR (jN 2 [1] (fun _=>[]) (fun _=>[]) (fun b1=>.blk b1 (rV Z Y) 42) (fun b1=>?_))
 refine NS (jK 9 [11] [(2,a_ 1 b1),(6,a_ 1 b1)] ?_)
 refine sP 11 ((((Z.ns.length:Nat):Int):Int) < (Z.cN:Int)) (fun h11=>?_) (fun h11=>?_)
 ·refine jK 5 [16] [(1,a_ 1 b1)] ?_
  refine sP 16 ((Z.last:Int) < (1099511627776:Int)) (fun ou=>?_) (fun ou=>?_)
  ·refine jK 1 [17] [(0,A_ 1 b1 12)] ?_
   refine gL [] (J6 Z Y hR hB) ?_
   rintro _ _ ⟨rfl,rfl⟩
   refine jK 3 [2] [] ?_
   refine NN (af.ret ?_)
   exact RT _ [0] (⟨congrArg Value.bool (Yb h11 ou),rfl⟩)
  refine jK 5 [2] [] ?_
  refine NN (af.ret ?_)
  exact RT _ [0] (⟨congrArg Value.bool (TW ou),rfl⟩)
 refine jK 10 [2] [] ?_
 refine NN (af.ret ?_)
 exact RT _ [0] (⟨congrArg Value.bool (TV h11),rfl⟩)
theorem o7 {β:Bs} (Z:RS) (Y:RL) (hR:cq β Z Y) (hC:RC Z) (hx:Int) :
    Spec Tryz.prog β 67 #[.agg ⟨rV Z Y⟩,vI (hx)] [] (fun v l=>v=exV (eH Z hx)/\l=[]):=by
 refine SE Tryz.func67 Tryz.ntmps67 (fun R=>?_)
 refine SR (jN 3 [2] (fun _=>[]) (fun _=>[]) (fun b2=>.blk b2 (rV Z Y) 42) (fun b2=>?_))
 refine NN (af.seq ?_)
 by_cases hm:hx∈keys Z.us
 ·obtain⟨k,gn,hk,hh,hat⟩:=MP hC hm
  refine af.region (jK 3 [8,9] [(1,A_ 1 b2 4)] ?_)
  refine gL [] ((Bc Z.cH Z.ar Y.H Y.V Y.ch Y.cv Z.us hR.h (by have:=hC.us;omega) hx).val (congrArg (Value.int .i64) gn)) ?_
  rintro _ _ ⟨rfl,rfl⟩
  refine jK 1 [6] [] ?_
  refine NN (af.seq (SR (jK 2 [12] [(1,wF (((k:Int):Int) < (0:Int)))] ?_)))
  refine NN (CF (af.skip (NX (af.seq (af.bF (by kernel_rfl) (by kernel_rfl) ?_)))))
  refine jQ 8 [14,20] [(1,a_ 1 b2),(4,a_ 1 b2),(6,x_ k Z.us.length (oI.hd (l:=(gq Z.us)) hR.v (j:=k) (by grind [gF,jr]))),(7,r_ (oI.rd (l:=(gq Z.us)) hR.v (j:=k) (by grind [gF,jr])))] ?_
  refine jT [] [0,1] (.int .i64 ↑(tgt Z.ns ((gq Z.us).getD k 0))) ((D6 Y.A Y.c Z.ns Y.L hR.n hC.rise (by have:=hC.ns;omega) ((gq Z.us).getD k 0)).val (congrArg (Value.int .i64) hat)) ?_
  refine jQ 2 [4,5] [] ?_
  refine NQ (NX (af.ret ?_))
  exact RT _ [0] (⟨(congrArg exV hh).symm,rfl⟩)
 obtain⟨gn,hh⟩:=FX hm
 refine af.region (jK 3 [8,9] [(1,A_ 1 b2 4)] ?_)
 refine gL [] ((Bc Z.cH Z.ar Y.H Y.V Y.ch Y.cv Z.us hR.h (by have:=hC.us;omega) hx).val (congrArg (Value.int .i64) gn)) ?_
 rintro _ _ ⟨rfl,rfl⟩
 refine jK 1 [6] [] ?_
 refine NN (af.seq (SR (jK 2 [12] [] ?_)))
 refine NN (CT (SR (jK 2 [4,5] [] ?_)))
 refine NN (af.ret (ai.aj ?_))
 exact RT _ [0] (⟨(congrArg exV hh).symm,rfl⟩)
theorem kX {β:Bs} (Z:RS) (Y:RL) (hR:cq β Z Y) (hC:RC Z) (hx:Int) (name:ByteArray) (hn:name.size<=1048576) (need:Int) :
    Spec Tryz.prog β 68 #[.agg ⟨rV Z Y⟩,vI (hx),.string name,vI (need)] [] (fun v l=>v=exV (d6 Z hx name need)/\l=[]):=by
 refine SE Tryz.func68 Tryz.ntmps68 (fun R=>?_)
 refine SR (jN 3 [4] (fun _=>[]) (fun _=>[]) (fun b3=>.blk b3 (rV Z Y) 42) (fun b3=>?_))
 refine NS (jK 2 [14,15] [(0,A_ 1 b3 12)] ?_)
 rcases pZ hC hx with hh|⟨d,hh,hd⟩
 ·refine gL [] ((o7 Z Y hR hC hx).val (congrArg exV hh)) ?_
  rintro _ _ ⟨rfl,rfl⟩
  refine jK 5 [10,11] [] ?_
  refine NN (af.seq (SR (jK 2 [20] [] ?_)))
  refine NN (CT (SR (jK 3 [8,9] [] ?_)))
  refine NN (af.ret (ai.aj ?_))
  exact RT _ [0] (⟨(congrArg exV (QE hh)).symm,rfl⟩)
 refine gL [] ((o7 Z Y hR hC hx).val (congrArg exV hh)) ?_
 rintro _ _ ⟨rfl,rfl⟩
 refine jK 5 [10,11] [] ?_
 refine NN (af.seq (SR (jK 2 [20] [] ?_)))
 refine NN (CF (af.skip (NX (SR (jN 8 [12] (fun b4=>[(2,a_ 1 b3),(4,x_ d Z.ns.length (aB.hd hR.n (i:=d) (by omega))),(5,zU (eP Y.L d (nd Z.ns d)) (fun _ _ h=>aB.rd hR.n (by omega) h)),(7,A_ 2 b4 10)]) (fun _=>[]) (fun b4=>.blk b4 (eP Y.L d (nd Z.ns d)) 66) (fun b4=>?_))))))
 refine NN (af.seq (SR (jK 3 [30] [(1,a_ 2 b4)] ?_)))
 refine NN (cN (((nd Z.ns d).kind:Int)=(2:Int)) (fun lE=>?_) (fun lE=>?_))
 ·refine SR (jK 2 [8,9] [] ?_)
  refine NN (af.ret (ai.aj ?_))
  exact RT _ [0] (⟨(congrArg exV (MQ hh lE)).symm,rfl⟩)
 refine af.skip (NX (af.seq (SR (jK 3 [31,33] [(0,A_ 1 b3 12),(2,a_ 2 b4)] ?_))))
 refine gL [] (vR Z Y hR hC.toRB (nd Z.ns d).id) ?_
 rintro _ _ ⟨rfl,rfl⟩
 refine NN (cP ((nd Z.ns d).id∈Z.gone) (fun vM=>?_) (fun vM=>?_))
 ·refine SR (jK 2 [8,9] [] ?_)
  refine NN (af.ret (ai.aj ?_))
  exact RT _ [0] (⟨(congrArg exV (J8 hh lE vM)).symm,rfl⟩)
 refine af.skip (NX (af.seq (SR (jK 1 [35] [] ?_))))
 refine gL [] (D5 name hn) ?_
 rintro _ _ ⟨rfl,rfl⟩
 refine jK 1 [37] [] ?_
 refine NN (cN (bQ name) (fun uD=>?_) (fun uD=>?_))
 ·refine SR (jK 2 [8,9] [] ?_)
  refine NN (af.ret (ai.aj ?_))
  exact RT _ [0] (⟨(congrArg exV (J9 hh lE vM uD)).symm,rfl⟩)
 refine af.skip (NX (af.seq (SR (jK 6 [43] [(1,a_ 2 b4)] ?_))))
 refine NN (cN ((bits BinOp.and .i64 ((nd Z.ns d).mode) need:Int)=(need:Int)) (fun Ez=>?_) (fun Ez=>?_))
 ·refine SR (jK 2 [8,9] [] ?_)
  refine NN (af.ret (ai.aj ?_))
  exact RT _ [0] (⟨(congrArg exV (Ka hh lE vM uD Ez)).symm,rfl⟩)
 refine af.skip (NX (SR (jK 3 [8,9] [] ?_)))
 refine NN (af.ret ?_)
 exact RT _ [0] (⟨(congrArg exV (QF hh lE vM uD Ez)).symm,rfl⟩)
theorem T7 {β:Bs} (name:ByteArray) (hn:name.size<=1048576) :
    Spec Tryz.prog β 142 #[.string name] [] (fun v l=>v=vI (iQ name)/\l=[]):=by
 refine SE Tryz.func142 Tryz.ntmps142 (fun R=>?_)
 refine SR (jK 1 [] [] ?_)
 refine NN (af.seq (SR (jK 2 [5] [(1,w_ (.bool (decide ((name:ByteArray)=⟨#[]⟩))) (mY _ _))] ?_)))
 refine NN (cP ((name:ByteArray)=⟨#[]⟩) (fun h5=>?_) (fun h5=>?_))
 ·refine SR (jK 1 [2] [] ?_)
  refine NN (af.ret (ai.aj ?_))
  exact RT _ [0] (⟨congrArg (Value.int .i64) (TY h5),rfl⟩)
 refine af.skip (NX (af.seq (SR (jK 3 [8] [] ?_))))
 refine NN (cP (((((name:ByteArray).size:Nat):Int):Int) > (4096:Int)) (fun h8=>?_) (fun h8=>?_))
 ·refine SR (jK 1 [2] [] ?_)
  refine NN (af.ret (ai.aj ?_))
  exact RT _ [0] (⟨congrArg (Value.int .i64) (QJ h5 h8),rfl⟩)
 refine af.skip (NX (af.seq (SR (jK 1 [3] [] ?_))))
 refine NN (af.block ?_)
 refine lJ (fun (i:Nat)=>(i<=name.size)/\(∀ q,q < i->¬ cR name q=0)) (fun (i:Nat)=>name.size - i) (fun (i:Nat)=>[(0,.string name),(3,vI ↑i)]) (fun (i:Nat)=>[.abs R]) 0 [0] (⟨Nat.zero_le _,fun q hq=>absurd hq (Nat.not_lt_zero q)⟩) ?_
 rintro i ⟨hi,hno⟩
 refine af.seq (SR (jK 4 [12] [] ?_))
 refine NN (cP ((((i:Nat):Int):Int) < ((((name:ByteArray).size:Nat):Int):Int)) (fun h12=>?_) (fun h12=>?_))
 ·refine af.skip (NX (af.seq (af.block (SR ?_))))
  refine jK 4 [18] [(2,xP i (i < (name:ByteArray).size))] ?_
  refine NN (cP ((((((name:ByteArray).data.getD (i) 0).toNat:Nat):Int):Int)=(0:Int)) (fun nK=>?_) (fun nK=>?_))
  ·refine SR (jK 1 [2] [] ?_)
   refine NN (af.ret (ai.au (ai.aj (ai.aj (ai.au (ai.aj ?_))))))
   exact RT _ [0] (⟨congrArg (Value.int .i64) (T3 h5 h8 (q:=i) (by omega) (by unfold cR;omega)),rfl⟩)
  refine af.skip (ai.aA (NX (af.region ?_)))
  refine jK 3 [3] [(1,wJ ((i:Int)+1) (↑(i+1)))] ?_
  refine NL ?_
  exact tJ ((i+1)) [0] (⟨by omega,fun q hq=>by grind [cR]⟩)
 refine af.exit (ai.aC (ai.aC (ai.aU (NX (SR ?_)))))
 refine jK 1 [2] [] ?_
 refine NN (af.ret ?_)
 exact RT _ [0] (⟨congrArg (Value.int .i64) (QK h5 h8 (fun q hq=>hno q (by omega))),rfl⟩)
theorem Kc {β:Bs} (m:Int) :
    Spec Tryz.prog β 112 #[vI m] [] (fun v l=>v=.bool (decide (gA m))/\l=[]):=by
 refine SE Tryz.func112 Tryz.ntmps112 (fun R=>?_)
 refine SR (jK 1 [] [] ?_)
 refine NS (jK 3 [5] [] ?_)
 refine sP 5 ((m:Int) ≥ (0:Int)) (fun h5=>?_) (fun h5=>?_)
 ·refine jK 4 [2] [] ?_
  refine NN (af.ret ?_)
  exact RT _ [0] (⟨congrArg Value.bool (aae h5),rfl⟩)
 refine jK 4 [2] [] ?_
 refine NN (af.ret ?_)
 exact RT _ [0] (⟨congrArg Value.bool (Yc h5),rfl⟩)
theorem QL {β:Bs} (Z:RS) (Y:RL) (hR:cq β Z Y) (hB:RB Z) (d top:Nat) (hd:d < Z.ns.length) :
    Spec Tryz.prog β 114 #[.agg ⟨rV Z Y⟩,vI (((d:Nat):Int)),vI (((top:Nat):Int))] [] (fun v l=>v=.bool (fT Z.ns top (Z.ns.length+1) d)/\l=[]):=by
 refine SE Tryz.func114 Tryz.ntmps114 (fun R=>?_)
 refine SR (jN 2 [3] (fun _=>[]) (fun _=>[]) (fun b5=>.blk b5 (rV Z Y) 42) (fun b5=>?_))
 refine NN (af.seq (SR (jK 1 [7] [] ?_)))
 refine NN (af.block ?_)
 refine lJ (fun (st,dc)=>(st<=Z.ns.length+1)/\(dc < Z.ns.length)/\(fT Z.ns top (Z.ns.length+1 - st) dc=(fT Z.ns top (Z.ns.length+1) d))) (fun (st,dc)=>Z.ns.length+1 - st) (fun (st,dc)=>(Yf dc top b5 st)) (fun (st,dc)=>[.abs R,.blk b5 (rV Z Y) 42]) (0,d) [0,1] (⟨Nat.zero_le _,hd,rfl⟩) ?_
 rintro⟨st,dc⟩ ⟨hst,hdc,hbl⟩
 have Vj:=hB.ns
 refine af.seq (SR (jK 6 [16] [(3,a_ 1 b5)] ?_))
 refine NN (cP ((((st:Nat):Int):Int)<=(((Z.ns.length:Nat):Int):Int)) (fun ou=>?_) (fun ou=>?_))
 ·refine af.skip (NX (af.seq (af.block (af.seq (SR ?_)))))
  refine jK 3 [21] [] ?_
  refine NN (cP ((((dc:Nat):Int):Int)=(((top:Nat):Int):Int)) (fun oy=>?_) (fun oy=>?_))
  ·replace oy:dc=top:=by omega
   refine SR (jK 1 [6] [] ?_)
   refine NN (af.ret (ai.aj (ai.au (ai.aj (ai.aj (ai.au (ai.aj ?_)))))))
   exact RT _ [0] (⟨by rw [← hbl,show Z.ns.length+1 - st=(Z.ns.length - st)+1 by omega,oy,Qy],rfl⟩)
  replace oy:¬ dc=top:=by omega
  refine af.skip (NX (SR (jK 1 [8] [] ?_)))
  refine NN (af.seq (SR (sl 8 (.int .i64 (-1)) (.int .i64 ((kJ Z.ns (nd Z.ns dc).id 0))) (rfl) ?_)))
  refine jK 1 [9] [] ?_
  refine NN (af.block ?_)
  refine lJ (fun (i:Nat)=>(i<=Z.ns.length)) (fun (i:Nat)=>Z.ns.length - i) (fun (i:Nat)=>(Yf dc top b5 st++[(8,vI ((kJ Z.ns (nd Z.ns dc).id i))),(9,vI ↑i)])) (fun (i:Nat)=>[.abs R,.blk b5 (rV Z Y) 42]) 0 [0,1] (Nat.zero_le _) ?_
  rintro i hi
  refine af.seq (SR (jK 6 [27] [(3,a_ 1 b5)] ?_))
  refine NN (cP ((((i:Nat):Int):Int) < (((Z.ns.length:Nat):Int):Int)) (fun I9=>?_) (fun I9=>?_))
  ·refine af.skip (NX (af.seq (af.block (SR ?_))))
   refine sl 8 (.int .i64 ((kJ Z.ns (nd Z.ns dc).id i))) (.int .i64 ((wO Z.ns (nd Z.ns dc).id i 0))) (congrArg (Value.int .i64) TM) ?_
   refine jK 1 [10] [] ?_
   refine NN (af.block ?_)
   refine lJ (fun (j:Nat)=>(j<=(nd Z.ns i).ah.length)) (fun (j:Nat)=>(nd Z.ns i).ah.length - j) (fun (j:Nat)=>(Yf dc top b5 st++[(8,vI ((wO Z.ns (nd Z.ns dc).id i j))),(9,vI ↑i),(10,vI ↑j)])) (fun (j:Nat)=>[.abs R,.blk b5 (rV Z Y) 42]) 0 [0,1] (Nat.zero_le _) ?_
   rintro j hj
   have hrw:=hB.row (i:=i) (by omega)
   refine af.seq (SR (jK 10 [39] [(3,a_ 1 b5),(5,x_ i Z.ns.length (aB.hd hR.n (i:=i) (by omega))),(7,r_ (aB.rd hR.n (i:=i) (by omega) (j:=9) rfl))] ?_))
   refine NN (cP ((((j:Nat):Int):Int) < ((((nd Z.ns i).ah.length:Nat):Int):Int)) (fun qU=>?_) (fun qU=>?_))
   ·refine af.skip (NX (af.seq (af.block (af.seq ?_))))
    refine af.bF (by kernel_rfl) (by kernel_rfl) ?_
    refine jQ 19 [60] [(2,a_ 1 b5),(4,x_ i Z.ns.length (aB.hd hR.n (i:=i) (by omega))),(6,r_ (aB.rd hR.n (i:=i) (by omega) (j:=9) rfl)),(8,x_ j ((nd Z.ns i).ah.length) (aZ.hd (hR.n.ah i (by omega)) (i:=j) (by omega))),(10,r_ (aZ.rd (hR.n.ah i (by omega)) (i:=j) (by omega) (j:=1) rfl)),(13,a_ 1 b5),(15,x_ dc Z.ns.length (aB.hd hR.n (i:=dc) (by omega))),(17,r_ (aB.rd hR.n (i:=dc) (by omega) (j:=0) rfl))] ?_
    refine NQ (NX ?_)
    refine cP (((en (nd Z.ns i).ah j).id:Int)=((nd Z.ns dc).id:Int)) (fun Jf=>?_) (fun Jf=>?_)
    ·refine af.region (jK 2 [8] [] ?_)
     refine NL (ai.aA (NX (af.region ?_)))
     refine sl 8 (.int .i64 ↑i) (.int .i64 ((wO Z.ns (nd Z.ns dc).id i (j+1)))) (congrArg (Value.int .i64) (WJ Jf)) ?_
     refine jK 3 [10] [(1,wJ ((j:Int)+1) (↑(j+1)))] ?_
     refine NL ?_
     exact tJ ((j+1)) [0,1] ((by omega))
    refine af.skip (ai.aA (NX (af.region ?_)))
    refine sl 8 (.int .i64 ((wO Z.ns (nd Z.ns dc).id i j))) (.int .i64 ((wO Z.ns (nd Z.ns dc).id i (j+1)))) (congrArg (Value.int .i64) (TN Jf)) ?_
    refine jK 3 [10] [(1,wJ ((j:Int)+1) (↑(j+1)))] ?_
    refine NL ?_
    exact tJ ((j+1)) [0,1] ((by omega))
   refine af.exit (ai.aC (ai.aC (ai.aU (ai.aA (NX (af.region ?_))))))
   refine sl 8 (.int .i64 ((wO Z.ns (nd Z.ns dc).id i j))) (.int .i64 ((kJ Z.ns (nd Z.ns dc).id (i+1)))) (by grind [WI,nd]) ?_
   refine jK 3 [9] [(1,wJ ((i:Int)+1) (↑(i+1)))] ?_
   refine NL ?_
   exact tJ ((i+1)) [0,1] ((by omega))
  refine af.exit (ai.aC (ai.aC (ai.aU (NX (af.seq (SR ?_))))))
  refine sl 8 (.int .i64 ((kJ Z.ns (nd Z.ns dc).id i))) (.int .i64 ((kJ Z.ns (nd Z.ns dc).id Z.ns.length))) (by rw [show i=Z.ns.length by omega]) ?_
  refine jK 2 [63] [] ?_
  refine NN (cP (((kJ Z.ns (nd Z.ns dc).id Z.ns.length):Int) < (0:Int)) (fun h63=>?_) (fun h63=>?_))
  ·refine SR (jK 1 [6] [] ?_)
   refine NN (af.ret (ai.aj (ai.au (ai.aj (ai.aj (ai.au (ai.aj ?_)))))))
   exact RT _ [0] (⟨by rw [← hbl,show Z.ns.length+1 - st=(Z.ns.length - st)+1 by omega,Ol oy h63],rfl⟩)
  refine af.skip (NX (af.region (sl 8 (.int .i64 ((kJ Z.ns (nd Z.ns dc).id Z.ns.length))) (.int .i64 ↑((kJ Z.ns (nd Z.ns dc).id Z.ns.length).toNat)) (congrArg (Value.int .i64) (by omega)) ?_)))
  refine jK 2 [1] [] ?_
  refine NL (ai.aA (NX (af.region ?_)))
  refine jK 3 [7] [(1,wJ ((st:Int)+1) (↑(st+1)))] ?_
  refine NL ?_
  exact tJ ((st+1),(kJ Z.ns (nd Z.ns dc).id Z.ns.length).toNat) [0,1] (⟨by omega,by have:=Qx (ns:=Z.ns) (id:=(nd Z.ns dc).id) Z.ns.length;omega,by rw [← hbl,show Z.ns.length+1 - st=(Z.ns.length+1 - (st+1))+1 by omega,TP oy h63]⟩)
 refine af.exit (ai.aC (ai.aC (ai.aU (NX (SR ?_)))))
 refine jK 1 [6] [] ?_
 refine NN (af.ret ?_)
 exact RT (.bool false) [0] (⟨by rw [← hbl,show Z.ns.length+1 - st=0 by omega];rfl,rfl⟩)
theorem Ce {β:Bs} (Z:RS) (Y:RL) (hR:cq β Z Y) (hC:RC Z) (c:aH) (hn:c.name.size<=1048576) (ht:c.text.size<=1048576) (need:Int) :
    Spec Tryz.prog β 73 #[.agg ⟨rV Z Y⟩,.agg ⟨aO c⟩,vI (need)] [] (fun v l=>v=yU Z c need/\l=[]):=by
 refine SE Tryz.func73 Tryz.ntmps73 (fun R=>?_)
 refine SR (jN 1 [3] (fun _=>[]) (fun _=>[]) (fun b6=>.blk b6 (rV Z Y) 42) (fun b6=>?_))
 refine jN 4 [4] (fun _=>[]) (fun _=>[]) (fun b7=>.blk b7 (aO c) 53) (fun b7=>?_)
 refine NS (jK 6 [13,15,17,18] [(0,A_ 1 b6 12),(2,a_ 2 b7),(4,a_ 2 b7)] ?_)
 rcases nO hC c.handle c.name need with ⟨e,h1,Bf⟩|⟨f,h1,hf⟩
 ·refine gL [] ((kX Z Y hR hC c.handle c.name hn need).val (congrArg exV h1)) ?_
  rintro _ _ ⟨rfl,rfl⟩
  refine jK 5 [9,10] [] ?_
  refine NN (af.seq (SR (jK 2 [23] [(1,IQ ((e:Int)=(0:Int)) Bf)] ?_)))
  refine NN (CT (SR (jK 4 [6,7,8] [] ?_)))
  refine NN (af.ret (ai.aj ?_))
  exact RT _ [0] (⟨(QG h1).symm,rfl⟩)
 refine gL [] ((kX Z Y hR hC c.handle c.name hn need).val (congrArg exV h1)) ?_
 rintro _ _ ⟨rfl,rfl⟩
 refine jK 5 [9,10] [] ?_
 refine NN (af.seq (SR (jK 2 [23] [(1,p_ ⟨[],none,none,none,some (.bool false)⟩ [((.bool false:Value))=(.bool false)] ⟨rfl,trivial⟩)] ?_)))
 refine NN (CF (af.skip (NX (SR (jK 5 [26,28,30] [(0,A_ 1 b6 12),(2,a_ 2 b7),(4,a_ 2 b7)] ?_)))))
 rcases nO hC c.other c.text 192 with ⟨e,h2,h2e⟩|⟨to,h2,hto⟩
 ·refine gL [] ((kX Z Y hR hC c.other c.text ht 192).val (congrArg exV h2)) ?_
  rintro _ _ ⟨rfl,rfl⟩
  refine jK 5 [10,11] [] ?_
  refine NS (jK 6 [6,7,8] [] ?_)
  refine NN (af.ret ?_)
  exact RT _ [0] (⟨(QH h1 h2).symm,rfl⟩)
 refine gL [] ((kX Z Y hR hC c.other c.text ht 192).val (congrArg exV h2)) ?_
 rintro _ _ ⟨rfl,rfl⟩
 refine jK 5 [10,11] [] ?_
 refine NS (jK 6 [6,7,8] [] ?_)
 refine NN (af.ret ?_)
 exact RT _ [0] (⟨(QI h1 h2).symm,rfl⟩)
theorem Ke {β:Bs} (Z:RS) (Y:RL) (hR:cq β Z Y) (hC:RC Z) (c:aH) (hn:c.name.size<=1048576) (A:Option Addr) (cc:Nat) (an:Int) :
    Spec Tryz.prog β 41 #[.agg ⟨rV Z Y⟩,.agg ⟨aO (ck { c with answer:=an } A cc)⟩,.agg ⟨aO { c with answer:=0 }⟩] [] (fun v l=>v=.agg ⟨aO (mV Z c)⟩/\l=[]):=by
 refine SE Tryz.func41 Tryz.ntmps41 (fun R=>?_)
 refine SR (jN 1 [3] (fun _=>[]) (fun _=>[]) (fun b8=>.blk b8 (rV Z Y) 42) (fun b8=>?_))
 refine jN 1 [4] (fun _=>[]) (fun _=>[]) (fun b9=>.blk b9 (aO (ck { c with answer:=an } A cc)) 53) (fun b9=>?_)
 refine jN 1 [5] (fun _=>[]) (fun _=>[]) (fun b10=>.blk b10 (aO { c with answer:=0 }) 53) (fun b10=>?_)
 refine jN 1 [6] (fun _=>[]) (fun _=>[]) (fun b11=>.blk b11 [vI 0,vI 0,vI 0,.string ⟨#[]⟩,.string ⟨#[]⟩,.slice none (0) (0),vI 0,vI 0,vI 0,vI 0,vI 0,vI 0,vI 0] 53) (fun b11=>?_)
 refine NS (jC 8 [] [(1,a_ 3 b10),(3,a_ 3 b10),(5,a_ 3 b10),(7,a_ 3 b10)] [(3,[(2,vI 0),(6,vI 0),(7,vI 0),(8,vI 0)])] ?_)
 refine NS (jC 3 [] [(2,A_ 3 b10 2)] [(3,[(9,vI 0),(10,vI 0)])] ?_)
 refine NS (jK 3 [19,21] [(0,A_ 1 b8 12),(2,a_ 2 b9)] ?_)
 refine gL [] ((o7 Z Y hR hC c.handle).val (Ye _)) ?_
 rintro _ _ ⟨rfl,rfl⟩
 refine jK 5 [7,8] [] ?_
 refine NN (af.join (fun (x,a)=>(x=(mw Z c))/\(∀ z:Nat,x=.ok z->a=(z:Int))) (fun (x,a)=>[(3,vP b8),(5,vP b10),(6,vP b11),(7,vI (a)),(8,vI ((Vm x)))]) (fun (x,a)=>[.abs R,.blk b8 (rV Z Y) 42,.blk b9 (aO (ck { c with answer:=an } A cc)) 53,pC b10 { c with other:=0,mode:=0,uid:=0,gid:=0,sec:=0,nano:=0,answer:=0 },.blk b11 [vI 0,vI 0,vI 0,.string ⟨#[]⟩,.string ⟨#[]⟩,.slice none (0) (0),vI 0,vI 0,vI 0,vI 0,vI 0,vI 0,vI 0] 53]) ?_ ?_)
 ·rintro⟨x,a⟩ ⟨hx2,ha2⟩
  refine af.seq ?_
  subst hx2
  rcases LR hC c with ⟨e,hs,hse⟩|⟨k,hs,hk⟩
  ·refine af.region (sl 8 (.int .i64 ((Vm (mw Z c)))) (.int .i64 (e)) (by rw [hs];rfl) ?_)
   refine jC 3 [] [(2,a_ 3 b10)] [(3,[(11,vI (e))])] ?_
   refine NN (af.seq (SR (jK 2 [50] [(1,IQ ((e:Int)=(0:Int)) hse)] ?_)))
   refine NN (CT (SR (jC 2 [] [(0,A_ 3 b10 13),(1,A_ 4 b11 13)] [(4,[(0,vI (c.op)),(1,vI (c.handle)),(3,.string c.name),(4,.string c.text),(5,.slice c.dA (c.data.length) (c.dC)),(11,vI (e))])] ?_)))
   refine NN (af.ret (ai.aj ?_))
   exact rT (.agg ⟨aO { c with other:=0,mode:=0,uid:=0,gid:=0,sec:=0,nano:=0,code:=e,answer:=0 }⟩) [A_ 4 b11 13] [0] (⟨by rw [T4 hs];rfl,rfl⟩)
  refine af.region (sl 7 (.int .i64 (a)) (.int .i64 ↑k) (congrArg (Value.int .i64) (ha2 k hs)) ?_)
  refine sl 8 (.int .i64 ((Vm (mw Z c)))) (.int .i64 0) (by rw [hs];rfl) ?_
  refine jC 3 [] [(2,a_ 3 b10)] [(3,[(11,vI 0)])] ?_
  refine NN (af.seq (SR (jK 2 [50] [(1,p_ ⟨[],none,none,none,some (.bool false)⟩ [((.bool false:Value))=(.bool false)] ⟨rfl,trivial⟩)] ?_)))
  refine NN (CF (af.skip (NX (SR (jN 8 [11] (fun b12=>[(2,a_ 1 b8),(4,x_ k Z.ns.length (aB.hd hR.n (i:=k) (by omega))),(5,zU (eP Y.L k (nd Z.ns k)) (fun _ _ h=>aB.rd hR.n (by omega) h)),(7,A_ 5 b12 10)]) (fun _=>[]) (fun b12=>.blk b12 (eP Y.L k (nd Z.ns k)) 66) (fun b12=>?_))))))
  refine NS (jC 4 [] [(1,a_ 5 b12),(3,a_ 3 b10)] [(3,[(12,vI ((nd Z.ns k).id))])] ?_)
  refine NS (jC 4 [] [(1,a_ 5 b12),(3,a_ 3 b10)] [(3,[(2,vI ((nd Z.ns k).kind))])] ?_)
  refine NS (jC 4 [] [(1,a_ 5 b12),(3,a_ 3 b10)] [(3,[(6,vI ((nd Z.ns k).mode))])] ?_)
  refine NS (jC 4 [] [(1,a_ 5 b12),(3,a_ 3 b10)] [(3,[(7,vI ((nd Z.ns k).uid))])] ?_)
  refine NS (jC 4 [] [(1,a_ 5 b12),(3,a_ 3 b10)] [(3,[(8,vI ((nd Z.ns k).gid))])] ?_)
  refine NS (jC 4 [] [(1,A_ 5 b12 2),(3,A_ 3 b10 2)] [(3,[(9,vI ((nd Z.ns k).sec)),(10,vI ((nd Z.ns k).nano))])] ?_)
  refine NS (jC 2 [] [(0,A_ 3 b10 13),(1,A_ 4 b11 13)] [(4,[(0,vI (c.op)),(1,vI (c.handle)),(2,vI ((nd Z.ns k).kind)),(3,.string c.name),(4,.string c.text),(5,.slice c.dA (c.data.length) (c.dC)),(6,vI ((nd Z.ns k).mode)),(7,vI ((nd Z.ns k).uid)),(8,vI ((nd Z.ns k).gid)),(9,vI ((nd Z.ns k).sec)),(10,vI ((nd Z.ns k).nano)),(12,vI ((nd Z.ns k).id))])] ?_)
  refine NN (af.ret ?_)
  exact rT (.agg ⟨aO { c with other:=(nd Z.ns k).kind,mode:=(nd Z.ns k).mode,uid:=(nd Z.ns k).uid,gid:=(nd Z.ns k).gid,sec:=(nd Z.ns k).sec,nano:=(nd Z.ns k).nano,code:=0,answer:=(nd Z.ns k).id }⟩) [A_ 4 b11 13] [0] (⟨by rw [T5 hs];rfl,rfl⟩)
 refine SR (jK 3 [27] [(1,a_ 2 b9)] ?_)
 refine NN (cP ((c.op:Int)=(12:Int)) (fun I9=>?_) (fun I9=>?_))
 ·refine SR (jK 5 [29,31,33] [(0,A_ 1 b8 12),(2,a_ 2 b9),(4,a_ 2 b9)] ?_)
  rcases nO hC c.handle c.name 64 with ⟨e,h1,Bf⟩|⟨f,h1,hf⟩
  ·refine gL [] ((kX Z Y hR hC c.handle c.name hn 64).val (congrArg exV h1)) ?_
   rintro _ _ ⟨rfl,rfl⟩
   refine jK 5 [9,10] [] ?_
   refine NS (jK 2 [8] [] ?_)
   refine NS (jK 2 [39] [(1,wF ((e:Int)=(0:Int)) Bf)] ?_)
   refine NN (CF (af.skip ?_))
   exact mJ ((.error e:Except Int Nat),(Yd (eH Z c.handle))) [0,1,2,3,4] (⟨Hl (by omega) h1,fun k e=>by cases e⟩)
  refine gL [] ((kX Z Y hR hC c.handle c.name hn 64).val (congrArg exV h1)) ?_
  rintro _ _ ⟨rfl,rfl⟩
  refine jK 5 [9,10] [] ?_
  refine NS (jK 2 [8] [] ?_)
  refine NS (jK 2 [39] [(1,p_ ⟨[],none,none,none,some (.bool true)⟩ [((.bool true:Value))=(.bool true)] ⟨rfl,trivial⟩)] ?_)
  refine NN (CT (SR (jK 4 [40,41,43] [(0,A_ 1 b8 12),(3,a_ 2 b9)] ?_)))
  rcases j7 Z.ns f c.name with hl|⟨k,hl,hk⟩
  ·refine gL [] ((iR Z Y hR hC f hf c.name).val (congrArg (Value.int .i64) hl)) ?_
   rintro _ _ ⟨rfl,rfl⟩
   refine jK 1 [7] [] ?_
   refine NS (jK 2 [46] [] ?_)
   refine NN (CT (af.region (jK 1 [8] [] ?_)))
   refine NL ?_
   exact mJ ((.error 170:Except Int Nat),(-1)) [0,1,2,3,4] (⟨EN (by omega) h1 hl,fun k e=>by cases e⟩)
  refine gL [] ((iR Z Y hR hC f hf c.name).val (congrArg (Value.int .i64) hl)) ?_
  rintro _ _ ⟨rfl,rfl⟩
  refine jK 1 [7] [] ?_
  refine NS (jK 2 [46] [(1,wF (((k:Int):Int) < (0:Int)))] ?_)
  refine NN (CF (af.skip ?_))
  exact mJ ((.ok k:Except Int Nat),(k:Int)) [0,1,2,3,4] (⟨EO (by omega) h1 hl,fun k e=>by cases e;rfl⟩)
 refine af.skip ?_
 exact mJ ((eH Z c.handle),(Yd (eH Z c.handle))) [0,1,2,3,4] (⟨EM (by omega),fun k e=>by rw [e];rfl⟩)
end
section
open Go.RowKit Go.Maps aX aq
section fl
theorem Ho {α:Type} {f g:Nat->α->List Value} {s:Nat} (hf:∀ i a,(f i a).length=s) (hg:∀ i a,(g i a).length=s):∀ (xs:List α) (b k j:Nat) (a:α) (u:Value),k < xs.length->j < s →
    (∀ i,i≠k->∀ x,xs[i]?=some x->g (b+i) x=f (b+i) x)->(∀ x,xs[k]?=some x->g (b+k) a=(f (b+k) x).set j u)->(eY f b xs).set (k * s+j) u=eY g b (xs.set k a)
  | [],_,k,_,_,_,h,_,_,_=>absurd h (Nat.not_lt_zero k)
  | x::r,b,0,j,a,u,_,hj,h1,h2=>by
    rw [eY,List.set_cons_zero,eY,Nat.zero_mul,Nat.zero_add,List.set_append_left _ _ (by rw [hf];exact hj)]
    have e:=h2 x rfl
    rw [Nat.add_zero] at e
    rw [e]
    congr 1
    exact xu _ _ (fun i a hi=>by
      have:=h1 (i+1) (by omega) a (by simpa using hi)
      rw [show b+1+i=b+(i+1) by omega]
      exact this.symm)
  | x::r,b,k+1,j,a,u,h,hj,h1,h2=>by
    rw [eY,List.set_cons_succ,eY,List.set_append_right _ _ (by rw [hf,Nat.add_mul];omega),hf]
    have e0:=h1 0 (by omega) x rfl
    rw [Nat.add_zero] at e0
    rw [e0,show (k+1) * s+j - s=k * s+j by rw [Nat.add_mul];omega]
    congr 1
    refine Ho hf hg r (b+1) k j a u (by simpa using h) hj (fun i hi y hy=>?_) (fun y hy=>?_)
    ·rw [show b+1+i=b+(i+1) by omega];exact h1 (i+1) (by omega) y (by simpa using hy)
    rw [show b+1+k=b+(k+1) by omega];exact h2 y (by simpa using hy)
end fl
section st
variable {P:Program} {β:Bs} {N:di} {ops:Array Oper} {k:Nat} {fr:Fr} {hps:List HP} {Q:Post} {d:Option Tmp}
theorem ak.WM (i j:Nat) {T e:TypeId} {size n cap g:Nat} {xs:List Value} {u u2:Value} {a y:Operand} (hop:∀ junk,eX N junk ops fr k=some (.store T a y,d)) (hp:hps[i]?=some (.abs (av e size (some ⟨g,0,none⟩) n cap xs)))
    (ha:∀ junk,cQ N fr junk a=.pointer (some ⟨g,j,none⟩)) (hy:∀ junk,cQ N fr junk y=.agg #[u,u2]) (hT:(P.info? T).map (·.size)=some 2) (hu:u.oneCell'=true) (Hq:u2.oneCell'=true) (hj:j+1 < xs.length)
    (K':ak P β N ops (k+1) (cO fr d undef) (hps.set i (.abs (av e size (some ⟨g,0,none⟩) n cap ((xs.set j u).set (j+1) u2)))) Q):ak P β N ops k fr hps Q:=by
  refine ak.jX hop (fun o junk w ho hS=>?_) K'
  have r8:j < xs.length:=by omega
  have hi:=bN hp
  have qd:=hS.set hp (tA (u:=u) r8)
  have hp2:(hps.set i (.abs (av e size (some ⟨g,0,none⟩) n cap (xs.set j u))))[i]?=some (.abs (av e size (some ⟨g,0,none⟩) n cap (xs.set j u))):=List.getElem?_set_self hi
  have hS3:=qd.set hp2 (tA (u:=u2) (by rw [List.length_set];exact hj))
  rw [List.set_set] at hS3
  refine⟨_,.inr ⟨rfl,?_⟩,hS3⟩
  have key:∀ (w:World) (l:List HP) (ys:List Value) (q:Nat),Sat β l w->l[i]?=some (.abs (av e size (some ⟨g,0,none⟩) n cap ys))->q < ys.length->(∃ x,w.cell? ⟨g,q,none⟩=some x)/\w.frozen? ⟨g,q,none⟩=false:=fun w l ys q hS hp hq=>by
    obtain⟨F,hF⟩:=hS.get hp
    obtain⟨x,hx⟩:=jb hq
    refine⟨⟨x,av.cell hx F w hF⟩,?_⟩
    obtain⟨⟨_,h2⟩,_⟩:=hF
    rcases h2 with ⟨e,_⟩|⟨g',cp,cur,e,_,hb,_⟩
    ·cases e
    cases e;simp [World.frozen?,hb]
  obtain⟨⟨x1,hc1⟩,hf1⟩:=key w hps xs j hS hp r8
  obtain⟨⟨x2,hc2⟩,hf2⟩:=key _ _ _ (j+1) qd hp2 (by rw [List.length_set];exact hj)
  obtain⟨inf,hi,hsz⟩:∃ inf,P.info? T=some inf/\inf.size=2:=by
    cases h:P.info? T with
    | none=>rw [h] at hT;cases hT
    | some inf=>rw [h] at hT;exact⟨inf,rfl,by simpa using hT⟩
  have h3:=mW hi w
  rw [hsz] at h3
  obtain⟨dst,op,type,pos,after,guard⟩:=o
  cases ho
  have st:∀ (u x:Value) (a:Addr) (w:World),u.oneCell'=true->w.cell? a=some x->w.frozen? a=false->Sem.run P (Sem.store Mode.plain a u (Sem.pure ())) w=.ok () (w.setCell a u):=fun u x a w hu hc hf=>by
    cases u<;>first
      | (simp [Value.oneCell'] at hu;done)
      | simp [Sem.run,hc,hf]
  simp only [execOp,ha junk,hy junk]
  simp [go_sem,Instr.storeAt,Instr.sureAddr,storeVar,h3,Value.cells,storeCells,store,Addr.add,st u x1 _ _ hu hc1 hf1,st u2 x2 _ _ Hq hc2 hf2]
theorem ak.vl (i j:Nat) {T e:TypeId} {size n cap:Nat} {A:Option Addr} {xs:List Value} {u:Value} {a y:Operand} (hop:∀ junk,eX N junk ops fr k=some (.store T a y,d)) (hp:hps[i]?=some (.abs (av e size A n cap xs)))
    (ha:∀ junk,cQ N fr junk a=.pointer (some ⟨aJ A,aI A+j,none⟩)) (hy:∀ junk,cQ N fr junk y=u) (hT:(P.info? T).map (·.size)=some 1) (hu:u.oneCell'=true) (hn:0 < n) (hj:j < xs.length)
    (K':ak P β N ops (k+1) (cO fr d undef) (hps.set i (.abs (av e size A n cap (xs.set j u)))) Q):ak P β N ops k fr hps Q:=by
  refine ak.tell (p:=∃ g,A=some ⟨g,0,none⟩) (fun _ hS=>let ⟨_,h⟩:=hS.get hp;av.head h hn) ?_
  rintro⟨g,rfl⟩
  exact ak.DW i j hop hp (fun junk=>(ha junk).trans (congrArg (fun o=>Value.pointer (some ⟨g,o,none⟩)) (Nat.zero_add j))) hy hT hu hj K'
theorem ak.yV (i j:Nat) {T e:TypeId} {size n cap:Nat} {A:Option Addr} {xs:List Value} {u u2:Value} {a y:Operand} (hop:∀ junk,eX N junk ops fr k=some (.store T a y,d)) (hp:hps[i]?=some (.abs (av e size A n cap xs)))
    (ha:∀ junk,cQ N fr junk a=.pointer (some ⟨aJ A,aI A+j,none⟩)) (hy:∀ junk,cQ N fr junk y=.agg #[u,u2]) (hT:(P.info? T).map (·.size)=some 2) (hu:u.oneCell'=true) (Hq:u2.oneCell'=true) (hn:0 < n) (hj:j+1 < xs.length)
    (K':ak P β N ops (k+1) (cO fr d undef) (hps.set i (.abs (av e size A n cap ((xs.set j u).set (j+1) u2)))) Q):ak P β N ops k fr hps Q:=by
  refine ak.tell (p:=∃ g,A=some ⟨g,0,none⟩) (fun _ hS=>let ⟨_,h⟩:=hS.get hp;av.head h hn) ?_
  rintro⟨g,rfl⟩
  exact ak.WM i j hop hp (fun junk=>(ha junk).trans (congrArg (fun o=>Value.pointer (some ⟨g,o,none⟩)) (Nat.zero_add j))) hy hT hu Hq hj K'
theorem ak.qF (i:Nat) {e:TypeId} {size n cap:Nat} {A:Option Addr} {xs:List Value} (hp:hps[i]?=some (.abs (av e size A n cap xs))) (hn:0 < n) (K:A=some ⟨aJ A,aI A,none⟩->ak P β N ops k fr hps Q):ak P β N ops k fr hps Q:=
  ak.tell (fun _ hS=>let ⟨_,h⟩:=hS.get hp;(av.wq h hn).1) K
end st
theorem Yg (x y:ByteArray):Value.bool (!(Op.bytesLess x.toList y.toList || (x.toList == y.toList)))=Value.bool (!(decide (eG x y))):=congrArg (fun v=>match v with|Value.bool b=>Value.bool (!b)|v=>v) (Jg x y)
theorem dM.keep {es l:List cX} {name:ByteArray} {id:Int} {j:Nat} {p:Bool} (h:dM es name id j p l) (hj:j < es.length) (hx:p=false->eG (en es j).name name):dM es name id (j+1) p (l++[en es j]):=by
  cases p with
  | true=>exact h.more hj
  | false=>exact h.miss hj (hx rfl)
theorem yX {q:List cX} {e:cX} {B:Option Addr} {c:Nat}:HP.abs (av 68 2 B (q.length+1) c (ju q++[.string e.name,.int .i64 e.id]))=HP.abs (av 68 2 B (q++[e]).length c (ju (q++[e]))):=by
  rw [Et,List.length_append];rfl
theorem kz {α:Type} {q:List α} {e:α}:q.length+1=(q++[e]).length:=by rw [List.length_append];rfl
section o
variable {P:Program} {β β':Bs} {R:RS} {Y:RL} {f:FuncId} {args:Array Value} {x u:Value} {d k i j:Nat} {ns:List ay} {L L':Lay} {n:ay} {es:List cX} {B:Option Addr} {c:Nat}
theorem mz (hk:k < ns.length) (hj:j < 10) (hL:∀ i,i≠k->∀ x,eP L' i x=eP L i x) (h:eP L' k n=(eP L k (nd ns k)).set j u):(aR L ns).set (k * 10+j) u=aR L' (ns.set k n):=by
  refine Ho (s:=10) (fun _ _=>rfl) (fun _ _=>rfl) ns 0 k j _ _ hk hj (fun i hi x _=>?_) (fun x hx=>?_)
  all_goals grind [nd]
theorem Oq (hk:k < ns.length) {v:Value} (hv:(eP L k (nd ns k))[j]?=some v):(aR L ns)[k * 10+j]?=some v:=by
  have hj:j < 10:=bN hv
  have h1:=qR (f:=eP L) (s:=10) (fun _ _=>rfl) ns 0 k j _ (getD_some (x:=default) hk) hj
  rw [Nat.zero_add] at h1
  exact h1.trans hv
theorem lF (hk:k < ns.length):nd (ns.set k n) i=if i=k then n else nd ns i:=by
  grind [nd]
def Lay.ent (L:Lay) (k:Nat) (B:Option Addr) (c:Nat):Lay:=⟨L.dA,fun i=>if i=k then B else L.eA i,L.dC,fun i=>if i=k then c else L.eC i⟩
def Lay.dat (L:Lay) (k:Nat) (B:Option Addr) (c:Nat):Lay:=⟨fun i=>if i=k then B else L.dA i,L.eA,fun i=>if i=k then c else L.dC i,L.eC⟩
structure jV (β:Bs) (R:RS) (L:Lay) (H V:Option Addr):Prop where
  data:∀ i,i < R.ns.length->bh β (L.dA i) (nd R.ns i).data
  ah:∀ i,i < R.ns.length->aZ β (L.eA i) (nd R.ns i).ah
  h:bU β H (ints (keys R.us))
  v:bU β V (ints (gq R.us))
theorem jV.le {H V:Option Addr} (h:jV β R L H V) (hle:β.le β'):jV β' R L H V:=⟨fun i hi=>(h.data i hi).le hle,fun i hi=>(h.ah i hi).le hle,h.h.le hle,h.v.le hle⟩
theorem jV.at {A G H V:Option Addr} {c cg ch cv:Nat} (h:jV β R L H V) (g:nU β [.abs (av 66 10 A R.ns.length c (aR L R.ns)),.abs (av 3 1 G R.gone.length cg (ints R.gone))] β'):cq β' R ⟨A,c,L,G,cg,H,ch,V,cv⟩:=by
  obtain⟨F,h1,h2⟩:=g.get 0 rfl
  obtain⟨G,g1,g2⟩:=g.get 1 rfl
  have h':=h.le g.le
  exact⟨⟨bU.gy g1 g2 rfl,h'.h,h'.v⟩,bU.gy h1 h2 rfl,h'.data,h'.ah⟩
theorem cW {A G H V:Option Addr} {c cg ch cv:Nat} (h:jV β R L H V) (hs:∀ β',β.le β'->cq β' R ⟨A,c,L,G,cg,H,ch,V,cv⟩->Spec P β' f args [] (fun v l=>v=x/\l=[])) :
    Spec P β f args [.abs (av 66 10 A R.ns.length c (aR L R.ns)),.abs (av 3 1 G R.gone.length cg (ints R.gone))] (fun v l=>v=x/\l=[.abs (av 66 10 A R.ns.length c (aR L R.ns)),.abs (av 3 1 G R.gone.length cg (ints R.gone))]):=
  (Spec.uj (pre:=[]) (R:=[.abs (av 66 10 A R.ns.length c (aR L R.ns)),.abs (av 3 1 G R.gone.length cg (ints R.gone))]) (fun β' g=>hs β' g.le (h.at g))).mono (by rintro v l ⟨l0,⟨rfl,rfl⟩,rfl⟩;exact⟨rfl,rfl⟩)
theorem nA (ns:List ay) (L:Lay) (A:Option Addr) (cap i j:Nat) (hi:i < ns.length) {v:Value} (hv:(eP L i (nd ns i))[j]?=some v):∀ F w,(av 66 10 A ns.length cap (aR L ns)).h F w->w.cell? ⟨aJ A,aI A+i * 10+j,none⟩=some v:=av.cellAt hi (Oq hi hv)
theorem LU (hk:k < ns.length):(aR L ns).set (k * 10+9) (.slice B es.length c)=aR (L.ent k B c) (ns.set k { nd ns k with ah:=es }):=
  mz hk (by decide) (fun i hi x=>by unfold eP Lay.ent;simp [hi]) (by unfold eP Lay.ent;simp)
theorem Ot (hk:k < ns.length) {bs:List UInt8}:(aR L ns).set (k * 10+7) (.slice B bs.length c)=aR (L.dat k B c) (ns.set k { nd ns k with data:=bs }):=
  mz hk (by decide) (fun i hi x=>by unfold eP Lay.dat;simp [hi]) (by unfold eP Lay.dat;simp)
theorem xD (hk:k < ns.length) {s z:Int}:((aR L ns).set (k * 10+5) (.int .i64 s)).set (k * 10+5+1) (.int .i64 z)=aR L (ns.set k { nd ns k with sec:=s,nano:=z }):=by
  rw [mz (n:={ nd ns k with sec:=s }) hk (by decide) (fun _ _ _=>rfl) rfl]
  have:=mz (ns:=ns.set k { nd ns k with sec:=s }) (L:=L) (L':=L) (k:=k) (j:=6) (n:={ nd ns k with sec:=s,nano:=z }) (u:=.int .i64 z) (by rw [List.length_set];exact hk) (by decide) (fun _ _ _=>rfl) (by rw [lF hk,if_pos rfl];rfl)
  rw [List.set_set] at this
  exact this
theorem LV (hk:k < ns.length) {s z:Int}:(((aR L ns).set (k * 10+9) (.slice B es.length c)).set (k * 10+5) (.int .i64 s)).set (k * 10+5+1) (.int .i64 z)=aR (L.ent k B c) (jL s z ns k es):=by
  rw [LU hk,xD (by rw [List.length_set];exact hk),lF hk,if_pos rfl,List.set_set];rfl
theorem vX {s z:Int}:(jL s z ns k es).length=ns.length:=List.length_set ..
theorem MR {s z:Int} (hk:k < ns.length):nd (jL s z ns k es) i=if i=k then { nd ns k with ah:=es,sec:=s,nano:=z } else nd ns i:=lF hk
theorem MS {A:Option Addr} {cN:Nat} {ns':List ay} {s z:Int} (hk:k < ns.length) (h:ns'=jL s z ns k es) :
    HP.abs (av 66 10 A ns.length cN ((((aR L ns).set (k * 10+9) (.slice B es.length c)).set (k * 10+5) (.int .i64 s)).set (k * 10+5+1) (.int .i64 z)))=HP.abs (av 66 10 A ns'.length cN (aR (L.ent k B c) ns')):=by
  rw [LV hk,h,vX]
theorem jV.jL {H V:Option Addr} (h:jV β R L H V) (hk:k < R.ns.length) (he:aZ β B es) {R':RS} (hn:R'.ns=jL R.cS R.cZ R.ns k es) (hu:R'.us=R.us):jV β R' (L.ent k B c) H V:=by
  refine⟨fun i hi=>?_,fun i hi=>?_,by rw [hu];exact h.h,by rw [hu];exact h.v⟩
  ·rw [hn,vX] at hi
   rw [hn,MR hk]
   by_cases e:i=k
   ·rw [if_pos e];subst e;exact h.data i hi
   rw [if_neg e];exact h.data i hi
  rw [hn,vX] at hi
  rw [hn,MR hk]
  show aZ β (if i=k then B else L.eA i) _
  by_cases e:i=k
  ·rw [if_pos e,if_pos e];exact he
  rw [if_neg e,if_neg e];exact h.ah i hi
theorem FY {name:ByteArray} {id:Int}:(bD R d name id).ns.length=R.ns.length:=List.length_set ..
theorem qZ {name:ByteArray} {b:Bool}:(bA R d name b).ns.length=R.ns.length:=List.length_set ..
theorem aaT {L:Lay} {F:Fp} {w:World} {m:Nat} (h:(HP.abs (eF (mH ns L) m)).h F w) (h1:∀ k,F k->β'.O k) (h2:β'.w0=w):∀ i,i < m->aZ β' (L.eA i) (nd ns i).ah:=
  eF.base h h1 h2 (Φ:=fun i b=>aZ b (L.eA i) (nd ns i).ah) (fun i _ F hF hO=>bU.gy (show (HP.abs (av 68 2 (L.eA i) (nd ns i).ah.length (L.eC i) (ju (nd ns i).ah))).h F _ from hF) hO h2)
theorem aaU {L:Lay} {F:Fp} {w:World} {m:Nat} (h:(HP.abs (eF (jt ns L) m)).h F w) (h1:∀ k,F k->β'.O k) (h2:β'.w0=w):∀ i,i < m->bh β' (L.dA i) (nd ns i).data:=
  eF.base h h1 h2 (Φ:=fun i b=>bh b (L.dA i) (nd ns i).data) (fun i _ F hF hO=>bU.gy (show (HP.abs (av 5 1 (L.dA i) (nd ns i).data.length (L.dC i) (cx (nd ns i).data))).h F _ from hF) hO h2)
theorem Kf:∀ m,i < m->(nd ns i).data.length<=cT ns m
  | 0,h=>absurd h (Nat.not_lt_zero _)
  | m+1,h=>by
    show _<=cT ns m+(nd ns m).data.length
    by_cases e:i=m
    ·subst e;omega
    have:=Kf m (by omega);omega
theorem RB.hd (h:RB R):∀ i,i < R.ns.length->(nd R.ns i).data.length<=140737488355328/\(nd R.ns i).ah.length<=1048576:=fun i hi=>⟨Nat.le_trans (Kf _ hi) h.dat,Nat.le_trans (h.row hi) (by decide)⟩
structure RD (q:Nat) (R:RS):Prop where
  ns:R.ns.length<=4097
  gone:R.gone.length<=4096+q
  us:R.us.length<=1024
  ah:bJ R.ns R.ns.length<=8192+q
  dat:cT R.ns R.ns.length<=140737488355328
theorem RD.rb {q:Nat} (h:RD q R) (hq:q<=8):RB R:=⟨h.ns,by have:=h.gone;omega,h.us,by have:=h.ah;omega,h.dat⟩
theorem RD.up {q m:Nat} (h:RD q R) (hm:q<=m):RD m R:=⟨h.ns,by have:=h.gone;omega,h.us,by have:=h.ah;omega,h.dat⟩
theorem EP (hk:k < ns.length):∀ m:Nat,bJ (ns.set k n) m+(if k < m then (nd ns k).ah.length else 0)=bJ ns m+(if k < m then n.ah.length else 0)
  | 0=>rfl
  | m+1=>by
    have h:=EP hk m
    show bJ (ns.set k n) m+(nd (ns.set k n) m).ah.length+_=bJ ns m+(nd ns m).ah.length+_
    rw [lF hk]
    by_cases e:m=k
    ·subst e
     rw [if_neg (Nat.lt_irrefl _),if_neg (Nat.lt_irrefl _)] at h
     rw [if_pos rfl,if_pos (Nat.lt_succ_self _),if_pos (Nat.lt_succ_self _)]
     omega
    rw [if_neg e]
    by_cases e2:k < m
    ·rw [if_pos e2,if_pos e2] at h;rw [if_pos (by omega),if_pos (by omega)];omega
    rw [if_neg e2,if_neg e2] at h;rw [if_neg (by omega),if_neg (by omega)];omega
theorem EQ (hk:k < ns.length):∀ m:Nat,cT (ns.set k n) m+(if k < m then (nd ns k).data.length else 0)=cT ns m+(if k < m then n.data.length else 0)
  | 0=>rfl
  | m+1=>by
    have h:=EQ hk m
    show cT (ns.set k n) m+(nd (ns.set k n) m).data.length+_=cT ns m+(nd ns m).data.length+_
    rw [lF hk]
    by_cases e:m=k
    ·subst e
     rw [if_neg (Nat.lt_irrefl _),if_neg (Nat.lt_irrefl _)] at h
     rw [if_pos rfl,if_pos (Nat.lt_succ_self _),if_pos (Nat.lt_succ_self _)]
     omega
    rw [if_neg e]
    by_cases e2:k < m
    ·rw [if_pos e2,if_pos e2] at h;rw [if_pos (by omega),if_pos (by omega)];omega
    rw [if_neg e2,if_neg e2] at h;rw [if_neg (by omega),if_neg (by omega)];omega
theorem QM {s z:Int} (hk:k < ns.length) (he:es.length<=(nd ns k).ah.length+1):bJ (jL s z ns k es) (jL s z ns k es).length<=bJ ns ns.length+1/\cT (jL s z ns k es) (jL s z ns k es).length=cT ns ns.length:=by
  grind [vX,EP,nd,EQ,jL]
theorem RD.jL {q:Nat} (h:RD q R) (hk:k < R.ns.length) (he:es.length<=(nd R.ns k).ah.length+1) {R':RS} (hn:R'.ns=jL R.cS R.cZ R.ns k es) (hu:R'.us=R.us) (hg:R'.gone.length<=R.gone.length+1):RD (q+1) R':=by
  have h1:=QM (s:=R.cS) (z:=R.cZ) hk he
  have h2:R'.ns.length=R.ns.length:=by rw [hn,vX]
  refine⟨by rw [h2];exact h.ns,by have:=h.gone;omega,by rw [hu];exact h.us,?_,?_⟩
  ·rw [hn];have:=h.ah;omega
  rw [hn];have:=h.dat;omega
def yY (R:RS) (d:Nat) (name:ByteArray):RS:={ R with ns:=jL R.cS R.cZ R.ns d (oh name (nd R.ns d).ah) }
theorem WN {name:ByteArray}:(yY R d name).ns.length=R.ns.length:=List.length_set ..
theorem MT {name:ByteArray} {b:Bool} (hf:b=true) (h:qw (yY R d name).ns (nD name (nd R.ns d).ah 0)=0):(bA R d name b).gone=R.gone++[nD name (nd R.ns d).ah 0]:=if_pos ⟨hf,h⟩
theorem ER {name:ByteArray} {b:Bool} (h:b=true->¬ qw (yY R d name).ns (nD name (nd R.ns d).ah 0)=0):(bA R d name b).gone=R.gone:=if_neg (fun q=>h q.1 q.2)
theorem QN {name:ByteArray}:(oh name es).length<=es.length:=List.length_filter_le ..
theorem RD.del {q:Nat} {name:ByteArray} (h:RD q R) (hk:d < R.ns.length):RD (q+1) (yY R d name):=h.jL hk (Nat.le_succ_of_le QN) rfl rfl (Nat.le_succ _)
theorem RD.MU {q:Nat} {name:ByteArray} {b:Bool} (h:RD q R) (hk:d < R.ns.length):RD (q+1) (bA R d name b):=by
  refine h.jL hk (Nat.le_succ_of_le QN) rfl rfl ?_
  grind [bA]
theorem MV {name:ByteArray} {id:Int}:∀ l:List cX,(jm name id l).length=l.length+1
  | []=>rfl
  | e::r=>by
    unfold jm
    split
    ·rfl
    rw [List.length_cons,MV r];rfl
theorem RD.ent {q:Nat} {name:ByteArray} {id:Int} (h:RD q R) (hk:d < R.ns.length):RD (q+1) (bD R d name id):=h.jL hk (Nat.le_of_eq (MV _)) rfl rfl (Nat.le_succ _)
theorem Bg {q:List Int} {z:Int} {B:Option Addr} {c:Nat}:HP.abs (av 3 1 B (q.length+1) c (ints q++[.int .i64 z]))=HP.abs (av 3 1 B (q++[z]).length c (ints (q++[z]))):=by
  rw [Cz,List.length_append];rfl
theorem Kh (l:List Int):∀ u∈ints l,u.oneCell'=true:=by
  intro u hu
  obtain⟨b,_,rfl⟩:=List.mem_map.1 hu
  rfl
theorem jV.same {H V:Option Addr} (h:jV β R L H V) {R':RS} (hn:R'.ns=R.ns) (hu:R'.us=R.us):jV β R' L H V:=⟨by rw [hn];exact h.data,by rw [hn];exact h.ah,by rw [hu];exact h.h,by rw [hu];exact h.v⟩
theorem jV.snoc {H V:Option Addr} (h:jV β R L H V) {R':RS} (hn:R'.ns=R.ns++[n]) (hd:n.data=[]) (he:n.ah=[]) (hu:R'.us=R.us):jV β R' (L.put R.ns.length none 0 none 0) H V:=by
  have h0:∀ {xs:List Value},xs=[]->bU β none xs:=fun e j v hj=>by rw [e] at hj;cases hj
  have hl:R'.ns.length=R.ns.length+1:=by rw [hn,List.length_append];rfl
  refine⟨fun i hi=>?_,fun i hi=>?_,by rw [hu];exact h.h,by rw [hu];exact h.v⟩
  ·rw [hn]
   show bh β (if i=R.ns.length then none else L.dA i) _
   by_cases e:i=R.ns.length
   ·subst e;rw [if_pos rfl,sO,hd];exact h0 rfl
   rw [if_neg e,vf (by omega)];exact h.data i (by omega)
  rw [hn]
  show aZ β (if i=R.ns.length then none else L.eA i) _
  by_cases e:i=R.ns.length
  ·subst e;rw [if_pos rfl,sO,he];exact h0 rfl
  rw [if_neg e,vf (by omega)];exact h.ah i (by omega)
theorem RD.last {q:Nat} (h:RD q R) (z:Int):RD q { R with last:=z }:=⟨h.ns,h.gone,h.us,h.ah,h.dat⟩
theorem Ki (h:(R.us.length:Int) < R.cH):iC R k=({ R with us:=ins (least R.us) (nd R.ns k).id R.us,ar:=max R.ar ((R.us.length:Int)+1) },least R.us,0):=if_pos h
theorem MW (h:¬ (R.us.length:Int) < R.cH):iC R k=(R,0,130):=if_neg h
structure RU (R:RS):Prop where
  us:R.us.length<=1024
  usr:aq.bH (keys R.us)
  tR:∀ z∈keys R.us,1<=z
theorem RC.ru (h:RC R):RU R:=⟨h.us,h.usr,h.tR⟩
theorem RU.same {R':RS} (h:RU R) (hu:R'.us=R.us):RU R':=⟨by rw [hu];exact h.us,by rw [hu];exact h.usr,by rw [hu];exact h.tR⟩
theorem aaV {z:Int}:z∈gq R.us↔∃ q,q < R.us.length/\(gq R.us).getD q 0=z:=by
  have hl:=jr R.us
  refine⟨fun h=>?_,fun ⟨q,h1,h2⟩=>h2 ▸ wN (by omega)⟩
  obtain⟨q,hq,e⟩:=List.getElem_of_mem h
  exact⟨q,by omega,by rw [List.getD_eq_getElem?_getD,List.getElem?_eq_getElem hq,e];rfl⟩
theorem Kj {p:List ay} (h:p=pY R R.ns.length):(dx R).ns=p:=by rw [G8,h]
theorem ES {l:List Int} (h:l=lQ R R.ns.length):(dx R).gone=l:=by rw [G8,h]
theorem T8 {An Ag:Option Addr} {cn cg:Nat} {p:List ay} {l:List Int} {K:Lay} (hR:cq β R Y) (hN:bU β An (aR K p)) (hG:bU β Ag (ints l)) (hp:p=pY R R.ns.length) (hl:l=lQ R R.ns.length) (hK:kF β p p.length K):cq β (dx R) ⟨An,cn,K,Ag,cg,Y.H,Y.ch,Y.V,Y.cv⟩:=by
  have e1:=Kj hp
  have e2:=ES hl
  refine⟨⟨by rw [e2];exact hG,hR.h,hR.v⟩,⟨by rw [e1];exact hN,by rw [e1];exact hK.data,by rw [e1];exact hK.ah⟩⟩
theorem kF.snoc {p:List ay} {K:Lay} {dA eA:Option Addr} {dC eC:Nat} (h:kF β p p.length K) (hd:bh β dA n.data) (he:aZ β eA n.ah):kF β (p++[n]) (p++[n]).length (K.put p.length dA dC eA eC):=by
  have e:(p++[n]).length=p.length+1:=by rw [List.length_append];rfl
  rw [e]
  refine kF.put (k:=p.length) ⟨fun i hi=>?_,fun i hi=>?_⟩ (by rw [sO];exact hd) (by rw [sO];exact he)
  ·rw [vf hi];exact h.data i hi
  rw [vf hi];exact h.ah i hi
theorem Dx {p:List ay} {K:Lay} {dA eA A:Option Addr} {dC eC cN:Nat} {dn en:Nat} (hd:n.data.length=dn) (he:n.ah.length=en) :
    HP.abs (av 66 10 A (p.length+1) cN (aR K p++[.int .i64 n.id,.int .i64 n.kind,.int .i64 n.mode,.int .i64 n.uid,.int .i64 n.gid,.int .i64 n.sec,.int .i64 n.nano,.slice dA dn dC,.string n.target,.slice eA en eC]))=HP.abs (av 66 10 A (p++[n]).length cN (aR (K.put p.length dA dC eA eC) (p++[n]))):=by
  grind [rK]
end o
end
section
open Go.RowKit
section order
variable {P:Program} {ops:Array Oper} {Q Q':Post} {n:Nat} {S:World->Prop}
inductive vY
  | one (i:Nat)
  | two (i j:Nat)
  | three (i k j:Nat)
  | perm (G:List Nat)
  | beside (c:List Nat) (j:Nat)
def Kk (P:Program) (ops:Array Oper) (Q:Post) (S:World->Prop) (K:Act->World->Prop):Nat->List Nat->Act->World->Prop
  | 0,_,a,w=>K a w
  | n+1,G,a,w=>∀ i∈G,wpOp P ops Q i (fun a' w'=>S w'/\Kk P ops Q S K n (G.erase i) a' w') a w
def Iu (ops:Array Oper) (f:Array Bool->Bool):Nat->List Nat->Array Bool->Bool
  | 0,_,listed=>f listed
  | n+1,G,listed=>(Region.ready .any ops listed == G) && !G.isEmpty && G.all (fun i=>Iu ops f n (G.erase i) (listed.setIfInBounds i true))
def Iw (P:Program) (ops:Array Oper) (Q:Post) (S:World->Prop) (K:Act->World->Prop):List Nat->Act->World->Prop
  | [],a,w=>K a w
  | i::c,a,w=>wpOp P ops Q i (fun a' w'=>S w'/\Iw P ops Q S K c a' w') a w
def yZ (P:Program) (ops:Array Oper) (Q:Post) (S:World->Prop) (K:Act->World->Prop) (j:Nat):List Nat->Act->World->Prop
  | [],a,w=>wpOp P ops Q j (fun a' w'=>S w'/\K a' w') a w
  | i::c,a,w=>wpOp P ops Q i (fun a' w'=>S w'/\yZ P ops Q S K j c a' w') a w/\wpOp P ops Q j (fun a' w'=>S w'/\Iw P ops Q S K (i::c) a' w') a w
def seqB (ops:Array Oper) (f:Array Bool->Bool):List Nat->Array Bool->Bool
  | [],listed=>f listed
  | i::c,listed=>(Region.ready .any ops listed == [i]) && seqB ops f c (listed.setIfInBounds i true)
def xV (ops:Array Oper) (f:Array Bool->Bool) (j:Nat):List Nat->Array Bool->Bool
  | [],listed=>(Region.ready .any ops listed == [j]) && f (listed.setIfInBounds j true)
  | i::c,listed=>(Region.ready .any ops listed == (if i < j then [i,j] else [j,i])) && xV ops f j c (listed.setIfInBounds i true) && seqB ops f (i::c) (listed.setIfInBounds j true)
def oJ (P:Program) (ops:Array Oper) (Q:Post) (S:World->Prop):List vY->Act->World->Prop
  | [],a,w=>Q .normal a w
  | .one i::l,a,w=>wpOp P ops Q i (fun a' w'=>(l=[]\/S w')/\oJ P ops Q S l a' w') a w
  | .two i j::l,a,w=>
    wpOp P ops Q i (fun a' w'=>S w'/\wpOp P ops Q j (fun a2 w2=>S w2/\oJ P ops Q S l a2 w2) a' w') a w ∧
    wpOp P ops Q j (fun a' w'=>S w'/\wpOp P ops Q i (fun a2 w2=>S w2/\oJ P ops Q S l a2 w2) a' w') a w
  | .three i k j::l,a,w=>
    wpOp P ops Q i (fun a1 w1=>S w1/\wpOp P ops Q k (fun a2 w2=>S w2/\wpOp P ops Q j (fun a3 w3=>S w3/\oJ P ops Q S l a3 w3) a2 w2) a1 w1 ∧
      wpOp P ops Q j (fun a2 w2=>S w2/\wpOp P ops Q k (fun a3 w3=>S w3/\oJ P ops Q S l a3 w3) a2 w2) a1 w1) a w ∧
    wpOp P ops Q j (fun a1 w1=>S w1/\wpOp P ops Q i (fun a2 w2=>S w2/\wpOp P ops Q k (fun a3 w3=>S w3/\oJ P ops Q S l a3 w3) a2 w2) a1 w1) a w
  | .perm G::l,a,w=>Kk P ops Q S (oJ P ops Q S l) G.length G a w
  | .beside c j::l,a,w=>yZ P ops Q S (oJ P ops Q S l) j c a w
def xE (ops:Array Oper) (n:Nat):List vY->Array Bool->Bool
  | [],listed=>(Region.ready .any ops listed).isEmpty
  | .one i::l,listed=>(Region.ready .any ops listed == [i]) && (!l.isEmpty || i == n) && xE ops n l (listed.setIfInBounds i true)
  | .two i j::l,listed=>(Region.ready .any ops listed == [i,j]) && (Region.ready .any ops (listed.setIfInBounds i true) == [j]) && (Region.ready .any ops (listed.setIfInBounds j true) == [i]) && decide (i≠j) && xE ops n l ((listed.setIfInBounds i true).setIfInBounds j true)
  | .three i k j::l,listed=>(Region.ready .any ops listed == [i,j]) && (Region.ready .any ops (listed.setIfInBounds i true) == [k,j]) && (Region.ready .any ops ((listed.setIfInBounds i true).setIfInBounds k true) == [j]) && (Region.ready .any ops ((listed.setIfInBounds i true).setIfInBounds j true) == [k]) &&
    (Region.ready .any ops (listed.setIfInBounds j true) == [i]) && decide (i≠j) && decide (k≠j) && xE ops n l (((listed.setIfInBounds i true).setIfInBounds k true).setIfInBounds j true)
  | .perm G::l,listed=>Iu ops (xE ops n l) G.length G listed
  | .beside c j::l,listed=>xV ops (xE ops n l) j c listed
def uq:List vY->Nat
  | []=>0
  | .one _::l=>uq l+1
  | .two _ _::l=>uq l+2
  | .three _ _ _::l=>uq l+3
  | .perm G::l=>uq l+G.length
  | .beside c _::l=>uq l+(c.length+1)
theorem Hr {m i:Nat} {listed:Array Bool} {a:Act} {w:World} (hr:Region.ready .any ops listed=[i]) (h:wpOp P ops (NP Q) i (fun a' w'=>S w'/\je P ops (NP Q) n S m (listed.setIfInBounds i true) a' w') a w):je P ops (NP Q) n S (m+1) listed a w:=by
  refine⟨fun h0=>(by rw [hr] at h0;cases h0),fun y hy=>?_⟩
  rw [hr] at hy
  have hy:y=i:=by simpa using hy
  subst hy
  exact wpOp_mono (fun a' w' h=>⟨.inr h.1,h.2⟩) h
theorem MX {K:Act->World->Prop} {f:Array Bool->Bool} {m:Nat} (hK:∀ listed a w,f listed=true->K a w->je P ops (NP Q) n S m listed a w):∀ (c:List Nat) (listed:Array Bool) (a:Act) (w:World),seqB ops f c listed=true->Iw P ops (NP Q) S K c a w->je P ops (NP Q) n S (m+c.length) listed a w
  | [],listed,a,w,hb,h=>hK listed a w hb h
  | i::c,listed,a,w,hb,h=>by
    unfold seqB at hb
    simp only [Bool.and_eq_true,beq_iff_eq] at hb
    exact Hr hb.1 (wpOp_mono (fun a' w' g=>⟨g.1,MX hK c _ a' w' hb.2 g.2⟩) h)
theorem ET {K:Act->World->Prop} {f:Array Bool->Bool} {m j:Nat} (hK:∀ listed a w,f listed=true->K a w->je P ops (NP Q) n S m listed a w):∀ (c:List Nat) (listed:Array Bool) (a:Act) (w:World),xV ops f j c listed=true->yZ P ops (NP Q) S K j c a w->je P ops (NP Q) n S (m+(c.length+1)) listed a w
  | [],listed,a,w,hb,h=>by
    unfold xV at hb
    simp only [Bool.and_eq_true,beq_iff_eq] at hb
    exact Hr hb.1 (wpOp_mono (fun a' w' g=>⟨g.1,hK _ a' w' hb.2 g.2⟩) h)
  | i::c,listed,a,w,hb,h=>by
    unfold xV at hb
    simp only [Bool.and_eq_true,beq_iff_eq] at hb
    obtain⟨⟨h1,h2⟩,h3⟩:=hb
    refine⟨fun h0=>(by rw [h1] at h0;split at h0<;>cases h0),fun y hy=>?_⟩
    rw [h1] at hy
    have hy:y=i\/y=j:=by
      split at hy
      ·simpa using hy
      have:y=j\/y=i:=by simpa using hy
      exact this.symm
    rcases hy with rfl|rfl
    ·exact wpOp_mono (fun a' w' g=>⟨.inr g.1,ET hK c _ a' w' h2 g.2⟩) h.1
    exact wpOp_mono (fun a' w' g=>⟨.inr g.1,MX hK (i::c) _ a' w' h3 g.2⟩) h.2
theorem Kl {K:Act->World->Prop} {f:Array Bool->Bool} {m:Nat} (hK:∀ listed a w,f listed=true->K a w->je P ops (NP Q) n S m listed a w):∀ (k:Nat) (G:List Nat) (listed:Array Bool) (a:Act) (w:World),Iu ops f k G listed=true->Kk P ops (NP Q) S K k G a w->je P ops (NP Q) n S (m+k) listed a w
  | 0,G,listed,a,w,hb,h=>hK listed a w hb h
  | k+1,G,listed,a,w,hb,h=>by
    unfold Iu at hb
    simp only [Bool.and_eq_true,beq_iff_eq] at hb
    obtain⟨⟨h1,h2⟩,h3⟩:=hb
    refine⟨fun h0=>(by rw [h1] at h0;rw [h0] at h2;cases h2),fun j hj=>?_⟩
    rw [h1] at hj
    exact wpOp_mono (fun a' w' g=>⟨.inr g.1,Kl hK k (G.erase j) _ a' w' (List.all_eq_true.1 h3 j hj) g.2⟩) (h j hj)
theorem p4:∀ (l:List vY) (listed:Array Bool) (a:Act) (w:World),xE ops n l listed=true->oJ P ops (NP Q) S l a w->je P ops (NP Q) n S (uq l) listed a w
  | [],listed,a,w,hb,h=>⟨List.isEmpty_iff.1 hb,h⟩
  | .one i::l,listed,a,w,hb,h=>by
    unfold xE at hb
    simp only [Bool.and_eq_true,beq_iff_eq] at hb
    obtain⟨⟨h1,h2⟩,h3⟩:=hb
    refine⟨fun h0=>(by rw [h1] at h0;cases h0),fun j hj=>?_⟩
    rw [h1] at hj
    have hj:j=i:=by simpa using hj
    subst hj
    refine wpOp_mono (fun a' w' h4=>⟨?_,p4 l _ a' w' h3 h4.2⟩) h
    rcases h4.1 with h5|h5
    ·subst h5;exact .inl (by simpa using h2)
    exact .inr h5
  | .two i j::l,listed,a,w,hb,h=>by
    unfold xE at hb
    simp only [Bool.and_eq_true,beq_iff_eq,decide_eq_true_iff] at hb
    obtain⟨⟨⟨⟨h1,h2⟩,h3⟩,hij⟩,h4⟩:=hb
    refine⟨fun h0=>(by rw [h1] at h0;cases h0),fun k hk=>?_⟩
    rw [h1] at hk
    have hk:k=i\/k=j:=by simpa using hk
    rcases hk with rfl|rfl
    ·refine wpOp_mono (fun a' w' h5=>⟨.inr h5.1,fun h0=>(by rw [h2] at h0;cases h0),fun k' hk'=>?_⟩) h.1
     rw [h2] at hk'
     have hk':k'=j:=by simpa using hk'
     subst hk'
     exact wpOp_mono (fun a2 w2 h6=>⟨.inr h6.1,p4 l _ a2 w2 h4 h6.2⟩) h5.2
    refine wpOp_mono (fun a' w' h5=>⟨.inr h5.1,fun h0=>(by rw [h3] at h0;cases h0),fun k' hk'=>?_⟩) h.2
    rw [h3] at hk'
    have hk':k'=i:=by simpa using hk'
    subst hk'
    refine wpOp_mono (fun a2 w2 h6=>⟨.inr h6.1,?_⟩) h5.2
    rw [Array.setIfInBounds_comm _ _ (fun e=>hij e.symm)]
    exact p4 l _ a2 w2 h4 h6.2
  | .three i k j::l,listed,a,w,hb,h=>by
    unfold xE at hb
    simp only [Bool.and_eq_true,beq_iff_eq,decide_eq_true_iff] at hb
    obtain⟨⟨⟨⟨⟨⟨⟨h1,h2⟩,h3⟩,h4⟩,h5⟩,hij⟩,hkj⟩,h6⟩:=hb
    have one:∀ {x:Nat} {ls:Array Bool} {fuel:Nat} {a:Act} {w:World},Region.ready .any ops ls=[x]->wpOp P ops (NP Q) x (fun a' w'=>S w'/\je P ops (NP Q) n S fuel (ls.setIfInBounds x true) a' w') a w->je P ops (NP Q) n S (fuel+1) ls a w:=fun {x ls fuel a w} hr hx=>by
      refine⟨fun h0=>(by rw [hr] at h0;cases h0),fun y hy=>?_⟩
      rw [hr] at hy
      have hy:y=x:=by simpa using hy
      subst hy
      exact wpOp_mono (fun a' w' h=>⟨.inr h.1,h.2⟩) hx
    have e1:(((listed.setIfInBounds i true).setIfInBounds j true).setIfInBounds k true)=(((listed.setIfInBounds i true).setIfInBounds k true).setIfInBounds j true):=Array.setIfInBounds_comm _ _ (fun e=>hkj e.symm)
    have e2:((listed.setIfInBounds j true).setIfInBounds i true)=((listed.setIfInBounds i true).setIfInBounds j true):=Array.setIfInBounds_comm _ _ (fun e=>hij e.symm)
    refine⟨fun h0=>(by rw [h1] at h0;cases h0),fun x hx=>?_⟩
    rw [h1] at hx
    have hx:x=i\/x=j:=by simpa using hx
    rcases hx with rfl|rfl
    ·refine wpOp_mono (fun a1 w1 g=>⟨.inr g.1,fun h0=>(by rw [h2] at h0;cases h0),fun y hy=>?_⟩) h.1
     rw [h2] at hy
     have hy:y=k\/y=j:=by simpa using hy
     rcases hy with rfl|rfl
     ·exact wpOp_mono (fun a2 w2 g2=>⟨.inr g2.1,one h3 (wpOp_mono (fun a3 w3 g3=>⟨g3.1,p4 l _ a3 w3 h6 g3.2⟩) g2.2)⟩) g.2.1
     exact wpOp_mono (fun a2 w2 g2=>⟨.inr g2.1,one h4 (wpOp_mono (fun a3 w3 g3=>⟨g3.1,by rw [e1];exact p4 l _ a3 w3 h6 g3.2⟩) g2.2)⟩) g.2.2
    refine wpOp_mono (fun a1 w1 g=>⟨.inr g.1,one h5 (wpOp_mono (fun a2 w2 g2=>⟨g2.1,?_⟩) g.2)⟩) h.2
    rw [e2]
    exact one h4 (wpOp_mono (fun a3 w3 g3=>⟨g3.1,by rw [e1];exact p4 l _ a3 w3 h6 g3.2⟩) g2.2)
  | .perm G::l,listed,a,w,hb,h=>Kl (m:=uq l) (fun ls a w hb h=>p4 l ls a w hb h) G.length G listed a w hb h
  | .beside c j::l,listed,a,w,hb,h=>ET (m:=uq l) (fun ls a w hb h=>p4 l ls a w hb h) c listed a w hb h
def rR (P:Program) (ops:Array Oper) (Q:Post) (S:World->Prop) (es:List vY):List Nat->Act->World->Prop
  | [],a,w=>oJ P ops Q S es a w
  | i::l,a,w=>∃ o v,ops[i]?=some o/\YieldsIf P ops S o v a/\rR P ops Q S es l (a.put o.dst v) w
def Ix (ops:Array Oper) (n:Nat) (es:List vY):List Nat->Array Bool->Bool
  | [],listed=>xE ops n es listed
  | i::l,listed=>decide (i < n) && Region.free .any ops listed i && (Region.ready .any ops listed).contains i && Ix ops n es l (listed.setIfInBounds i true)
theorem Km {es:List vY} (hsel:Region.noSelect ops=true) (iT:Region.sinkB .any ops n=true):∀ (l:List Nat) (listed:Array Bool) (a:Act) (w:World),Ix ops n es l listed=true->Closed ops listed->S w->rR P ops (NP Q) S es l a w->je P ops (NP Q) n S (l.length+uq es) listed a w
  | [],listed,a,w,hb,_,_,h=>by
    rw [List.length_nil,Nat.zero_add]
    exact p4 es listed a w hb h
  | i::l,listed,a,w,hb,hc,hS,h=>by
    unfold Ix at hb
    simp only [Bool.and_eq_true,decide_eq_true_iff] at hb
    obtain⟨⟨⟨h1,h2⟩,h3⟩,h4⟩:=hb
    obtain⟨o,v,ho,hy,hk⟩:=h
    have hr:i∈Region.ready .any ops listed:=by simpa using h3
    have e:(i::l).length+uq es=(l.length+uq es)+1:=by rw [List.length_cons];omega
    rw [e]
    exact oP ho hsel iT h1 _ listed a w hc (Region.free_spec ho h2) hr hy hS (Km hsel iT l _ _ w h4 (hc.set hr) hS hk)
def MY (ops:Array Oper) (rs:List Nat) (es:List vY):Bool:=
  Region.noSelect ops && Region.sinkB .any ops (ops.size - 1) && (rs.length+uq es == ops.size) && Ix ops (ops.size - 1) es rs (Array.replicate ops.size false)
end order
section mix
variable {P:Program} {β:Bs} {N:di} {ops:Array Oper} {S:List HP} {rs:List Nat} {es:List vY} {fr fr':Fr} {hps:List HP} {Q:Post} {cC:List Prop} {i j:Nat}
def iL (P:Program) (β:Bs) (N:di) (ops:Array Oper) (S:List HP) (es:List vY) (rs:List Nat) (fr:Fr) (hps:List HP) (Q:Post):Prop:=
  ∀ junk w,Sat β hps w->rR P ops (NP Q) (Sat β S) es rs (bY N fr junk) w
theorem af.rS {id:Nat} (rs:List Nat) (es:List vY) (pk:List Nat) (hm:P.follows .mixedOrders=true) (hB:MY ops rs es=true) (hn:aP pk=true) (hp:bp hps pk=some S) (h:iL P β N ops S es rs fr hps Q):af P β N (.region id ops true) fr hps Q:=by
  intro junk w hS
  unfold MY at hB
  simp only [Bool.and_eq_true,beq_iff_eq] at hB
  obtain⟨⟨⟨h1,h2⟩,h3⟩,h4⟩:=hB
  have dr:=hS.drewN 1
  have h5:=Km (Q:=Q) h1 h2 rs _ _ _ h4 (fun j oj _ hl=>by simp [Array.getD_eq_getD_getElem?,Array.getElem?_replicate] at hl;split at hl<;>simp at hl) (dr.pick hn hp) (h junk (w.drewN 1) dr)
  rw [h3] at h5
  refine Code.wp_mono (fun e a w q=>?_) (wp_region_any hm (nR _ _ _ _ h5))
  cases e with
  | normal=>exact q
  | exit id=>exact q.elim
  | goto l=>exact q.elim
  | ret=>exact q.elim
  | panic ch=>exact q.elim
  | outgrown=>exact q.elim
theorem zF {junk:Nat->Value} {w:World}:∀ {hs:List OH} {is:List Nat} {fr fr':Fr} {T T':SS},tK P β N junk ops hs is fr T=some (fr',T')->(∀ p,p∈T'.cC->p)->T.used=true->T.hps=S →
    rR P ops (NP Q) (Sat β S) es rs (bY N fr' junk) w->rR P ops (NP Q) (Sat β S) es (is++rs) (bY N fr junk) w
  | [],[],fr,fr',T,T',h,ho,hu,hT,hK=>by cases h;exact hK
  | h::hs,i::is,fr,fr',T,T',hr,ho,hu,hT,hK=>by
    unfold tK at hr
    repeat' split at hr
    all_goals first|(cases hr;done)|skip
    rename_i o hget _ IJ _ v T1 h0 _ hv
    obtain⟨e1,e2⟩:=sy h0
    rw [List.cons_append]
    unfold rR
    refine⟨o,v,hget,.inl ⟨by unfold Region.wanted;rw [IJ],fun w' dr=>?_⟩,?_⟩
    ·rw [eW]
     obtain⟨w2,h1,_,_,h4⟩:=kQ h0 (fun p hp=>ho p (yu hr p hp)) (by rw [hT];exact dr) (fun e=>by rw [hu] at e;cases e)
     obtain⟨ew,_⟩:=h4 rfl
     rw [ew] at h1
     rcases h1 with h1|⟨h1,_⟩
     ·exact h1
     exact absurd h1 (oQ hv)
    rw [dR]
    exact zF hr ho (e2.trans hu) (e1.trans hT) hK
  | [],_::_,_,_,_,_,h,_,_,_,_=>by cases h
  | _::_,[],_,_,_,_,h,_,_,_,_=>by cases h
theorem iL.reads (is:List Nat) (hs:List OH) (idx:List Nat) (h:∀ junk,sA P β N junk ops hs is fr S idx=some (fr',cC)) (ho:kP cC) (K:iL P β N ops S es rs fr' hps Q):iL P β N ops S es (is++rs) fr hps Q:=by
  intro junk w hS
  have h0:=h junk
  unfold sA at h0
  split at h0
  ·rename_i mX S1 h1
   cases h0
   have hK:=K (lk mX junk) w hS
   rw [← jW] at hK
   exact zF h1 (fun p hp=>ho.mem hp) rfl rfl hK
  cases h0
theorem gP (uF:Fr) (is:List Nat) (os:List (Nat×OP)) (K:iL P β N ops S es [] uF hps Q)
    (h:∀ junk,sA P β N junk ops (bP (bV is.length os 0)) is fr S (aQ uF)=some (uF,owed (bV is.length os 0)):=by intro _;kernel_rfl):iL P β N ops S es (is++[]) fr hps Q:=
  iL.reads is (bP (bV is.length os 0)) (aQ uF) h (oR _) K
theorem iL.pair {ι Yh Yi:Type} {QO:Yh->Fr} {hpi:Yh->List HP} {QS:Yi->Fr} {QT:Yi->List HP} {fr':ι->Fr} {hp':ι->List HP} {oi oj:Oper} (pki pkj pk:List Nat)
    (hi:ops[i]?=some oi) (Vn:oi.guard=none) (hj:ops[j]?=some oj) (hgj:oj.guard=none)
    (h1:ak P β N #[oi] 0 fr hps (NP (ql β N QO hpi))) (h2:∀ a,ak P β N #[oj] 0 (QO a) (hpi a) (NP (ql β N fr' hp')))
    (h3:ak P β N #[oj] 0 fr hps (NP (ql β N QS QT))) (h4:∀ a,ak P β N #[oi] 0 (QS a) (QT a) (NP (ql β N fr' hp')))
    (hni:aP pki=true) (aaW:∀ a,bp (hpi a) pki=some S) (hnj:aP pkj=true) (aaX:∀ a,bp (QT a) pkj=some S) (hn:aP pk=true) (hp:∀ a,bp (hp' a) pk=some S)
    (K:∀ a,iL P β N ops S es [] (fr' a) (hp' a) Q):iL P β N ops S (.two i j::es) [] fr hps Q:=by
  intro junk w hS
  unfold rR oJ
  refine⟨jd hi Vn (kU (fun a w ⟨x,iG,ha,dr⟩=>?_) (show wpList P #[oi] (NP (ql β N QO hpi)) [oi] (bY N fr junk) w from h1 junk w hS)),jd hj hgj (kU (fun a w ⟨x,iG,ha,dr⟩=>?_) (show wpList P #[oj] (NP (ql β N QS QT)) [oj] (bY N fr junk) w from h3 junk w hS))⟩
  ·subst ha
   refine⟨dr.pick hni (aaW x),jd hj hgj (kU (fun a w ⟨y,y4,ha,qd⟩=>?_) (show wpList P #[oj] (NP (ql β N fr' hp')) [oj] (bY N (QO x) iG) w from h2 x iG w dr))⟩
   subst ha
   exact⟨qd.pick hn (hp y),K y y4 _ qd⟩
  subst ha
  refine⟨dr.pick hnj (aaX x),jd hi Vn (kU (fun a w ⟨y,y4,ha,qd⟩=>?_) (show wpList P #[oi] (NP (ql β N fr' hp')) [oi] (bY N (QS x) iG) w from h4 x iG w dr))⟩
  subst ha
  exact⟨qd.pick hn (hp y),K y y4 _ qd⟩
theorem iL.cut {ι:Type} {fr':ι->Fr} {hp':ι->List HP} {o:Oper} (pk:List Nat) (hop:ops[i]?=some o) (hg:o.guard=none) (h:ak P β N #[o] 0 fr hps (NP (ql β N fr' hp'))) (hn:aP pk=true) (hp:∀ j,bp (hp' j) pk=some S)
    (K:∀ j,iL P β N ops S es [] (fr' j) (hp' j) Q):iL P β N ops S (.one i::es) [] fr hps Q:=by
  intro junk w hS
  unfold rR oJ
  refine jd hop hg (kU (fun a w ⟨j,iG,ha,dr⟩=>?_) (show wpList P #[o] (NP (ql β N fr' hp')) [o] (bY N fr junk) w from h junk w hS))
  subst ha
  exact⟨.inr (dr.pick hn (hp j)),K j iG _ dr⟩
theorem Sat.left {a b:List HP} {w:World} (h:Sat β (a++b) w):Sat β a w:=by
  obtain⟨h0,φ,h1,h2,h3⟩:=h
  have hlen:a.length<=(a++b).length:=by simp
  exact⟨h0,φ,fun i p hp=>h1 i p (by rw [List.getElem?_append_left (bN hp)];exact hp),fun i hi=>h2 i (by omega),fun i j hi hj=>h3 i j (by omega) (by omega)⟩
def ic (P:Program) (β:Bs) (N:di) (ops:Array Oper) (Q:Post) (i d:Nat) (ds:List Nat) (fr:Fr) (pre:List HP) (post:Value->List HP->Prop):Prop:=
  ∀ junk w (A:ct),Sat β (pre++[.abs A]) w->wpOp P ops (NP Q) i (fun a' w'=>∃ v l iG,post v l/\a'=bY N fr iG/\iG d=v/\(∀ t∈ds,t≠d->iG t=junk t)/\Sat β (l++[.abs A]) w') (bY N fr junk) w
def Hs (q4:List Nat) (u:Nat->Value):Fr:=q4.map fun t=>(t,u t)
theorem Ht {q4:List Nat} {u:Nat->Value}:aQ (Hs q4 u)=q4:=by
  induction q4 with
  | nil=>rfl
  | cons a r ih=>exact congrArg (a::·) ih
theorem QU {q4:List Nat} {u junk:Nat->Value} {t:Nat} (h:t∈q4):lk (Hs q4 u) junk t=u t:=by
  induction q4 with
  | nil=>cases h
  | cons a r ih=>
    grind [lk,Hs,gI]
theorem p6 {fr uF:Fr} {junk y4:Nat->Value} (h:∀ t,lk fr junk t=lk uF y4 t):bY N fr junk=bY N uF y4:=by
  unfold bY
  rw [show lk fr junk=lk uF y4 from funext h]
theorem ic.of {ι:Type} {v:ι->Value} {l:ι->List HP} {o:Oper} {d:Nat} {pre:List HP} (q4:List Nat) (hop:ops[i]?=some o) (hg:o.guard=none) (ab7:(d::q4).all (fun t=>!jk t (aQ fr))=true) (hd:jk d q4=false)
    (h:∀ (u:Nat->Value) (A:ct),ak P β N #[o] 0 (Hs q4 u++fr) (pre++[.abs A]) (NP (ql β N (fun x=>(d,v x)::(Hs q4 u++fr)) (fun x=>l x++[.abs A])))):ic P β N ops Q i d (d::q4) fr pre (fun v' l'=>∃ x,v'=v x/\l'=l x):=by
  intro junk w A hS
  have hout:∀ t∈d::q4,t∉aQ fr:=fun t ht hm=>by
    grind [jo]
  have hdo:d∉q4:=by grind [jo]
  have e1:bY N fr junk=bY N (Hs q4 junk++fr) junk:=p6 fun t=>by
    grind [DZ,Ht,QU,oU]
  rw [e1]
  refine jd hop hg (kU (fun a w ⟨x,aaf,ha,dr⟩=>?_) (show wpList P #[o] (NP (ql β N _ _)) [o] (bY N (Hs q4 junk++fr) junk) w from h junk A junk w hS))
  refine⟨v x,l x,lk ((d,v x)::(Hs q4 junk++fr)) aaf,⟨x,rfl,rfl⟩,?_,by rw [gI,if_pos rfl],fun t ht hn=>?_,dr⟩
  all_goals grind [p6,aQ,gI,DZ,Ht,Im,oU,QU]
theorem ic.at_ {d:Nat} {ds:List Nat} {pre X Y:List HP} {post:Value->List HP->Prop} {junk:Nat->Value} {w:World} {K:Act->World->Prop} (h:ic P β N ops Q i d ds fr pre post) (hS:Sat β (X++(pre++Y)) w)
    (hK:∀ v l iG w',post v l->iG d=v->(∀ t∈ds,t≠d->iG t=junk t)->Sat β (X++(l++Y)) w'->K (bY N fr iG) w'):wpOp P ops (NP Q) i K (bY N fr junk) w:=by
  have h1:=Sat.turn hS
  rw [List.append_assoc] at h1
  refine wpOp_mono (fun a' w' ⟨v,l,j2,g1,g2,g3,g4,g5⟩=>?_) (h junk w _ h1.lU)
  rw [g2]
  refine hK v l j2 w' g1 g3 g4 ?_
  have h2:=g5.zM
  rw [← List.append_assoc] at h2
  exact Sat.turn h2
theorem ic.grow {d d1:Nat} {ds:List Nat} {pre:List HP} {q:Value->List HP->Prop} (h:ic P β N ops Q i d (d::d1::ds) fr pre q) (h1:d1∉aQ fr) (hd:d1≠d) (hn:d1∉ds) (v1:Value):ic P β N ops Q i d (d::ds) ((d1,v1)::fr) pre q:=by
  intro junk w A hS
  have e:bY N ((d1,v1)::fr) junk=bY N fr (fun t=>if t=d1 then v1 else junk t):=p6 fun t=>by
    grind [gI,oU,aQ,Im]
  rw [e]
  refine wpOp_mono (fun a' w' ⟨v,l,j2,g1,g2,g3,g4,g5⟩=>?_) (h _ w A hS)
  have k1:j2 d1=v1:=by grind
  refine⟨v,l,j2,g1,?_,g3,fun t ht hne=>?_,g5⟩
  ·rw [g2]
   refine p6 fun t=>?_
   grind [gI,oU]
  grind
def kA (P:Program) (β:Bs) (N:di) (ops:Array Oper) (Q:Post) (dj:Nat):List (Nat×Nat)->Fr->List HP->(Fr->List HP->Prop)->Prop
  | [],fr,hps,R=>R fr hps
  | (i,d)::c,fr,hps,R=>(jk d (aQ fr)=false/\d≠dj)/\∃ q:Value->List HP->Prop,ic P β N ops Q i d [d,dj] fr hps q/\∀ v l,q v l->kA P β N ops Q dj c ((d,v)::fr) l R
theorem kA.step {dj d:Nat} {c:List (Nat×Nat)} {R:Fr->List HP->Prop} {q:Value->List HP->Prop} (h:ic P β N ops Q i d [d,dj] fr hps q) (h1:(!jk d (aQ fr) && decide (d≠dj))=true) (K:∀ v l,q v l->kA P β N ops Q dj c ((d,v)::fr) l R):kA P β N ops Q dj ((i,d)::c) fr hps R:=by
  grind [ic,jk,aQ,kA]
section Yj
variable {dj:Nat} {Z pj:List HP} {qj:Value->List HP->Prop} {R:Fr->List HP->Prop} {pS:List Nat} {F:Act->World->Prop}
theorem Sat.rest {X:List HP} {w:World} (zG:aP pS=true) (zH:bp Z pS=some S) (h:Sat β (X++Z) w):Sat β S w:=Sat.pick (idx:=pS) (l:=Z) (Sat.left (Sat.turn h)) zG zH
theorem Hu {v:Value} {l2:List HP} (zG:aP pS=true) (zH:bp Z pS=some S) (hK:∀ f1 h1,R f1 h1->∀ junk w,Sat β (h1++(l2++Z)) w->F (bY N ((dj,v)::f1) junk) w) :
    ∀ (c:List (Nat×Nat)) (fr:Fr) (hps:List HP) (junk:Nat->Value) (w:World),jk dj (aQ fr)=false->kA P β N ops Q dj c fr hps R->junk dj=v->Sat β (hps++(l2++Z)) w->Iw P ops (NP Q) (Sat β S) F (c.map (·.1)) (bY N fr junk) w
  | [],fr,hps,junk,w,hdj,hc,hv,hS=>by
    have e:bY N fr junk=bY N ((dj,v)::fr) junk:=p6 fun t=>by
      rw [gI]
      by_cases e1:dj=t
      ·subst e1;rw [if_pos rfl,oU (fun hm=>by rw [jo.2 hm] at hdj;cases hdj),hv]
      rw [if_neg e1]
    show F (bY N fr junk) w
    rw [e]
    exact hK fr hps hc junk w hS
  | (i,d)::c,fr,hps,junk,w,hdj,⟨⟨h1,h2⟩,q,h3,h4⟩,hv,hS=>by
    show wpOp P ops (NP Q) i _ _ _
    refine h3.at_ (X:=[]) hS (fun v' l j2 w' g1 g2 g3 g4=>⟨Sat.rest (X:=l++l2) zG zH (by rw [List.append_assoc];exact g4),?_⟩)
    have e:bY N fr j2=bY N ((d,v')::fr) j2:=p6 fun t=>by
      rw [gI]
      by_cases e1:d=t
      ·subst e1;rw [if_pos rfl,oU (fun hm=>by rw [jo.2 hm] at h1;cases h1),g2]
      rw [if_neg e1]
    rw [e]
    refine Hu zG zH hK c _ l j2 w' ?_ (h4 v' l g1) ((g3 dj (by simp) (fun e=>h2 e.symm)).trans hv) g4
    cases hb:jk dj (aQ ((d,v')::fr)) with
    | false=>rfl
    | true=>
      rcases List.mem_cons.1 (jo.1 hb) with e|e
      ·exact absurd e.symm h2
      rw [jo.2 e] at hdj;cases hdj
theorem Hv {j:Nat} (zG:aP pS=true) (zH:bp Z pS=some S) (hK:∀ f1 h1,R f1 h1->∀ v l2,qj v l2->∀ junk w,Sat β (h1++(l2++Z)) w->F (bY N ((dj,v)::f1) junk) w) :
    ∀ (c:List (Nat×Nat)) (fr:Fr) (hps:List HP) (junk:Nat->Value) (w:World),aP (c.map (·.2))=true->jk dj (aQ fr)=false->ic P β N ops Q j dj (dj::c.map (·.2)) fr pj qj->kA P β N ops Q dj c fr hps R->Sat β (hps++(pj++Z)) w->yZ P ops (NP Q) (Sat β S) F j (c.map (·.1)) (bY N fr junk) w
  | [],fr,hps,junk,w,_,hdj,hj,hc,hS=>by
    show wpOp P ops (NP Q) j _ _ _
    refine hj.at_ (X:=hps) hS (fun v l j2 w' g1 g2 g3 g4=>⟨Sat.rest (X:=hps++l) zG zH (by rw [List.append_assoc];exact g4),?_⟩)
    have e:bY N fr j2=bY N ((dj,v)::fr) j2:=p6 fun t=>by
      rw [gI]
      by_cases e1:dj=t
      ·subst e1;rw [if_pos rfl,oU (fun hm=>by rw [jo.2 hm] at hdj;cases hdj),g2]
      rw [if_neg e1]
    rw [e]
    exact hK fr hps hc v l g1 j2 w' g4
  | (i,d)::c,fr,hps,junk,w,hnd,hdj,hj,hc,hS=>by
    obtain⟨⟨h1,h2⟩,q,h3,h4⟩:=hc
    have hout:d∉aQ fr:=fun hm=>by rw [jo.2 hm] at h1;cases h1
    refine⟨h3.at_ (X:=[]) hS (fun v' l j2 w' g1 g2 g3 g4=>⟨Sat.rest (X:=l++pj) zG zH (by rw [List.append_assoc];exact g4),?_⟩),hj.at_ (X:=hps) hS (fun v l j2 w' g1 g2 g3 g4=>⟨Sat.rest (X:=hps++l) zG zH (by rw [List.append_assoc];exact g4),?_⟩)⟩
    ·have e:bY N fr j2=bY N ((d,v')::fr) j2:=p6 fun t=>by
       rw [gI]
       by_cases e1:d=t
       ·subst e1;rw [if_pos rfl,oU hout,g2]
       rw [if_neg e1]
     rw [e]
     have rL:d∉c.map (·.2)/\aP (c.map (·.2))=true:=by
       have hx:aP (d::c.map (·.2))=true:=hnd
       unfold aP at hx
       simp only [Bool.and_eq_true] at hx
       exact⟨fun hm=>by have h:=hx.1;simp_all,hx.2⟩
     refine Hv zG zH hK c _ l j2 w' rL.2 ?_ (hj.grow hout h2 rL.1 v') (h4 v' l g1) g4
     cases hb:jk dj (aQ ((d,v')::fr)) with
     | false=>rfl
     | true=>
       rcases List.mem_cons.1 (jo.1 hb) with e|e
       ·exact absurd e.symm h2
       rw [jo.2 e] at hdj;cases hdj
    exact Hu zG zH (fun f1 h1 hr=>hK f1 h1 hr v l g1) ((i,d)::c) fr hps j2 w' hdj ⟨⟨h1,h2⟩,q,h3,h4⟩ g2 g4
theorem iL.beside {j:Nat} {pc:List HP} (pk pS:List Nat) (c:List (Nat×Nat)) (hn:aP pk=true) (hp:bp hps pk=some (pc++(pj++Z))) (zG:aP pS=true) (zH:bp Z pS=some S) (hnd:aP (c.map (·.2))=true) (hdj:jk dj (aQ fr)=false)
    (hj:ic P β N ops Q j dj (dj::c.map (·.2)) fr pj qj) (hc:kA P β N ops Q dj c fr pc R)
    (K:∀ f1 h1,R f1 h1->∀ v l,qj v l->iL P β N ops S es [] ((dj,v)::f1) (h1++(l++Z)) Q):iL P β N ops S (.beside (c.map (·.1)) j::es) [] fr hps Q:=by
  intro junk w hS
  exact Hv (F:=oJ P ops (NP Q) (Sat β S) es) zG zH (fun f1 h1 hr v l2 hv junk w hS=>K f1 h1 hr v l2 hv junk w hS) c fr pc junk w hnd hdj hj hc (hS.pick hn hp)
end Yj
theorem iL.last {o:Oper} (hop:ops[i]?=some o) (hg:o.guard=none) (h:ak P β N #[o] 0 fr hps (NP Q)):iL P β N ops S [.one i] [] fr hps Q:=by
  grind [rR,oJ,jd,kU,NP,bY,ak,iL]
end mix
end
section
open Go.RowKit
section order
variable {P:Program} {ops:Array Oper} {Q Q':Post} {n:Nat} {S:World->Prop} {j:Nat} {l2:List (Bool×Nat)}
def o8 (P:Program) (ops:Array Oper) (Q:Post) (S:World->Prop) (j:Nat) (l2:List (Bool×Nat)):List (Bool×Nat)->Act->World->Prop
  | [],a,w=>wpOp P ops Q j (fun a' w'=>S w'/\jf P ops Q S l2 a' w') a w
  | (false,i)::l,a,w=>wpOp P ops Q i (fun a' w'=>S w'/\o8 P ops Q S j l2 l a' w') a w/\wpOp P ops Q j (fun a' w'=>S w'/\jf P ops Q S ((false,i)::(l++l2)) a' w') a w
  | (true,i)::l,a,w=>∃ o v,ops[i]?=some o/\YieldsIf P ops S o v a/\o8 P ops Q S j l2 l (a.put o.dst v) w
def y5 (ops:Array Oper) (n j:Nat) (l2:List (Bool×Nat)):List (Bool×Nat)->Array Bool->Bool
  | [],listed=>(Region.ready .any ops listed == [j]) && uM ops n l2 (listed.setIfInBounds j true)
  | (false,i)::l,listed=>(Region.ready .any ops listed == (if i < j then [i,j] else [j,i])) && y5 ops n j l2 l (listed.setIfInBounds i true) && uM ops n ((false,i)::(l++l2)) (listed.setIfInBounds j true)
  | (true,i)::l,listed=>decide (i < n) && Region.free .any ops listed i && (Region.ready .any ops listed).contains i && y5 ops n j l2 l (listed.setIfInBounds i true)
theorem Dy (hsel:Region.noSelect ops=true) (iT:Region.sinkB .any ops n=true):∀ (l:List (Bool×Nat)) (listed:Array Bool) (a:Act) (w:World),y5 ops n j l2 l listed=true->Closed ops listed->S w->o8 P ops (NP Q) S j l2 l a w->je P ops (NP Q) n S (l.length+(l2.length+1)) listed a w
  | [],listed,a,w,hb,hc,_,h=>by
    unfold y5 at hb
    simp only [Bool.and_eq_true,beq_iff_eq] at hb
    obtain⟨h1,h3⟩:=hb
    rw [List.length_nil,Nat.zero_add]
    refine⟨fun h0=>(by rw [h1] at h0;cases h0),fun k hk=>?_⟩
    have hr:=hk
    rw [h1] at hk
    have hk:k=j:=by simpa using hk
    subst hk
    exact wpOp_mono (fun a' w' h4=>⟨.inr h4.1,sB hsel iT l2 _ a' w' h3 (hc.set hr) (.inr h4.1) h4.2⟩) h
  | (false,i)::l,listed,a,w,hb,hc,_,h=>by
    unfold y5 at hb
    simp only [Bool.and_eq_true,beq_iff_eq] at hb
    obtain⟨⟨h1,h2⟩,h3⟩:=hb
    rw [List.length_cons,Nat.succ_add]
    refine⟨fun h0=>(by rw [h1] at h0;split at h0<;>cases h0),fun k hk=>?_⟩
    have hr:=hk
    rw [h1] at hk
    have hk:k=i\/k=j:=by
      split at hk<;>(simp at hk;omega)
    rcases hk with rfl|rfl
    ·exact wpOp_mono (fun a' w' h4=>⟨.inr h4.1,Dy hsel iT l _ a' w' h2 (hc.set hr) h4.1 h4.2⟩) h.1
    refine wpOp_mono (fun a' w' h4=>⟨.inr h4.1,?_⟩) h.2
    have:=sB hsel iT ((false,i)::(l++l2)) _ a' w' h3 (hc.set hr) (.inr h4.1) h4.2
    rw [List.length_cons,List.length_append] at this
    exact this
  | (true,i)::l,listed,a,w,hb,hc,hS,h=>by
    unfold y5 at hb
    simp only [Bool.and_eq_true,decide_eq_true_iff] at hb
    obtain⟨⟨⟨h1,h2⟩,h3⟩,h4⟩:=hb
    obtain⟨o,v,ho,hy,hk⟩:=h
    have hr:i∈Region.ready .any ops listed:=by simpa using h3
    rw [List.length_cons,Nat.succ_add]
    exact oP ho hsel iT h1 _ listed a w hc (Region.free_spec ho h2) hr hy hS (Dy hsel iT l _ _ w h4 (hc.set hr) hS hk)
def MZ (ops:Array Oper) (j:Nat) (l l2:List (Bool×Nat)):Bool:=
  Region.noSelect ops && Region.sinkB .any ops (ops.size - 1) && (l.length+(l2.length+1) == ops.size) && y5 ops (ops.size - 1) j l2 l (Array.replicate ops.size false)
end order
section mix
variable {P:Program} {β:Bs} {N:di} {ops:Array Oper} {S:List HP} {l l' l2:List (Bool×Nat)} {fr fr':Fr} {hps:List HP} {Q:Post} {cC:List Prop} {i j:Nat}
def xG (P:Program) (β:Bs) (N:di) (ops:Array Oper) (S:List HP) (j:Nat) (l2 l:List (Bool×Nat)) (fr:Fr) (hps:List HP) (Q:Post):Prop:=
  ∀ junk w,Sat β hps w->o8 P ops (NP Q) (Sat β S) j l2 l (bY N fr junk) w
theorem af.FZ {id:Nat} (j:Nat) (l l2:List (Bool×Nat)) (hm:P.follows .mixedOrders=true) (hB:MZ ops j l l2=true) (hp:∀ w,Sat β hps w->Sat β S w) (h:xG P β N ops S j l2 l fr hps Q):af P β N (.region id ops true) fr hps Q:=by
  intro junk w hS
  unfold MZ at hB
  simp only [Bool.and_eq_true,beq_iff_eq] at hB
  obtain⟨⟨⟨h1,h2⟩,h3⟩,h4⟩:=hB
  have dr:=hS.drewN 1
  have h5:=Dy (Q:=Q) h1 h2 l _ _ _ h4 (fun j oj _ hl=>by simp [Array.getD_eq_getD_getElem?,Array.getElem?_replicate] at hl;split at hl<;>simp at hl) (hp _ dr) (h junk (w.drewN 1) dr)
  rw [h3] at h5
  refine Code.wp_mono (fun e a w q=>?_) (wp_region_any hm (nR _ _ _ _ h5))
  cases e with
  | normal=>exact q
  | exit id=>exact q.elim
  | goto l=>exact q.elim
  | ret=>exact q.elim
  | panic ch=>exact q.elim
  | outgrown=>exact q.elim
theorem vZ {junk:Nat->Value} {w:World}:∀ {hs:List OH} {is:List Nat} {fr fr':Fr} {T T':SS},lf P β N junk ops hs is fr T=some (fr',T')->(∀ p,p∈T'.cC->p)->T.used=true->T.hps=S →
    o8 P ops (NP Q) (Sat β S) j l2 l (bY N fr' junk) w->o8 P ops (NP Q) (Sat β S) j l2 (is.map (fun i=>(true,i))++l) (bY N fr junk) w
  | [],[],fr,fr',T,T',h,ho,hu,hT,hK=>by cases h;exact hK
  | h::hs,i::is,fr,fr',T,T',hr,ho,hu,hT,hK=>by
    unfold lf at hr
    repeat' split at hr
    all_goals first|(cases hr;done)|skip
    ·rename_i o hget _ nT _ v T1 h0 _ hv
     obtain⟨e1,e2⟩:=sy h0
     rw [List.map_cons,List.cons_append]
     unfold o8
     refine⟨o,v,hget,.inl ⟨by rw [dY];exact nT,fun w' dr=>?_⟩,?_⟩
     ·rw [eW]
      obtain⟨w2,h1,_,_,h4⟩:=kQ h0 (fun p hp=>ho p (rH hr p hp)) (by rw [hT];exact dr) (fun e=>by rw [hu] at e;cases e)
      obtain⟨ew,_⟩:=h4 rfl
      rw [ew] at h1
      rcases h1 with h1|⟨h1,_⟩
      ·exact h1
      exact absurd h1 (oQ hv)
     rw [dR]
     exact vZ hr ho (e2.trans hu) (e1.trans hT) hK
    rename_i o hget _ nT
    rw [List.map_cons,List.cons_append]
    unfold o8
    refine⟨o,undef,hget,.inr ⟨by rw [dY];exact nT,rfl⟩,?_⟩
    rw [dR]
    exact vZ hr ho hu hT hK
  | [],_::_,_,_,_,_,h,_,_,_,_=>by cases h
  | _::_,[],_,_,_,_,h,_,_,_,_=>by cases h
theorem gJ (l3:List (Bool×Nat)) (uF:Fr) (is:List Nat) (os:List (Nat×OP)) (K:xG P β N ops S j l2 l3 uF hps Q)
    (h:∀ junk,nS P β N junk ops (bP (bV is.length os 0)) is fr S (aQ uF)=some (uF,owed (bV is.length os 0)):=by intro _;kernel_rfl) (hl:l'=is.map (fun i=>(true,i))++l3:=by rfl):xG P β N ops S j l2 l' fr hps Q:=by
  intro junk w hS
  subst hl
  have h0:=h junk
  unfold nS at h0
  split at h0
  ·rename_i mX S1 h1
   injection h0 with h0
   injection h0 with ha hb
   have hK:=K (lk mX junk) w hS
   rw [← ha,← jW] at hK
   refine vZ h1 (fun p hp=>?_) rfl rfl hK
   rw [hb] at hp
   exact (oR _).mem hp
  cases h0
def gh (P:Program) (β:Bs) (N:di) (ops:Array Oper) (Q:Post) (S:List HP) (G:List HP->Prop) (dj:Nat):List (Bool×Nat×Nat)->Fr->List HP->(Fr->List HP->Prop)->Prop
  | [],fr,hps,R=>R fr hps
  | (false,i,d)::c,fr,hps,R=>(jk d (aQ fr)=false/\d≠dj)/\∃ q:Value->List HP->Prop,ic P β N ops Q i d [d,dj] fr hps q/\∀ v l,q v l->G l/\gh P β N ops Q S G dj c ((d,v)::fr) l R
  | (true,i,d)::c,fr,hps,R=>(jk d (aQ fr)=false/\d≠dj)/\∃ o v,ops[i]?=some o/\o.dst=some d/\(∀ junk,YieldsIf P ops (Sat β S) o v (bY N fr junk))/\gh P β N ops Q S G dj c ((d,v)::fr) hps R
theorem gh.step {G:List HP->Prop} {dj d:Nat} {c:List (Bool×Nat×Nat)} {R:Fr->List HP->Prop} {q:Value->List HP->Prop} (h:ic P β N ops Q i d [d,dj] fr hps q) (h1:(!jk d (aQ fr) && decide (d≠dj))=true) (K:∀ v l,q v l->G l/\gh P β N ops Q S G dj c ((d,v)::fr) l R):gh P β N ops Q S G dj ((false,i,d)::c) fr hps R:=by
  grind [ic,jk,aQ,gh]
theorem gh.read {G:List HP->Prop} {dj d:Nat} {c:List (Bool×Nat×Nat)} {R:Fr->List HP->Prop} {v:Value} (h:∀ junk,nS P β N junk ops [o_] [i] fr S (d::aQ fr)=some ((d,v)::fr,[])) (hd:(ops[i]?).map Oper.dst=some (some d)) (h1:(!jk d (aQ fr) && decide (d≠dj))=true) (K:gh P β N ops Q S G dj c ((d,v)::fr) hps R):gh P β N ops Q S G dj ((true,i,d)::c) fr hps R:=by
  simp only [Bool.and_eq_true,Bool.not_eq_true',decide_eq_true_iff] at h1
  obtain⟨o,ho,hod⟩:=Option.map_eq_some_iff.1 hd
  refine⟨h1,o,v,ho,hod,fun junk=>?_,K⟩
  have h0:=h junk
  unfold nS at h0
  split at h0
  ·rename_i mX S1 hr
   injection h0 with h0
   injection h0 with ha hb
   unfold lf at hr
   rw [ho] at hr
   simp only at hr
   repeat' split at hr
   all_goals first|(cases hr;done)|skip
   ·rename_i _ nT _ v1 T1 hrun _ hv
    unfold lf at hr
    injection hr with hr
    injection hr with hr1 hr2
    have hv1:v1=v:=by
      grind [lk,ij,cO,aQ,gI]
    refine .inl ⟨by rw [dY];exact nT,fun w' dr=>?_⟩
    rw [eW]
    obtain⟨w2,g1,_,_,g4⟩:=kQ hrun (fun p hp=>by rw [hr2,hb] at hp;cases hp) (by exact dr) (fun e=>by cases e)
    obtain⟨ew,_⟩:=g4 rfl
    rw [ew] at g1
    rcases g1 with g1|⟨g1,_⟩
    all_goals grind [oQ]
   rename_i _ nT
   unfold lf at hr
   injection hr with hr
   injection hr with hr1 hr2
   have hv1:undef=v:=by
     grind [lk,ij,cO,aQ,gI]
   exact .inr ⟨by rw [dY];exact nT,hv1.symm⟩
  cases h0
theorem Ou {Z S1:List HP} {pS:List Nat} (hn:aP pS=true) (hp:bp Z pS=some S1) (h X:List HP) (w:World) (_:True) (hS:Sat β (h++(X++Z)) w):Sat β S1 w:=by
  rw [← List.append_assoc] at hS
  obtain⟨β',h1,_,h3⟩:=(Sat.turn hS).uj
  exact (h3.Pt h1.le).pick hn hp
section Yj
variable {dj:Nat} {Z pj:List HP} {qj:Value->List HP->Prop} {R:Fr->List HP->Prop} {G:List HP->Prop}
theorem Cg {v:Value} {junk:Nat->Value} (hv:junk dj=v) (hdj:jk dj (aQ fr)=false):bY N fr junk=bY N ((dj,v)::fr) junk:=p6 fun t=>by
  rw [gI]
  by_cases e1:dj=t
  ·subst e1;rw [if_pos rfl,oU (fun hm=>by rw [jo.2 hm] at hdj;cases hdj),hv]
  rw [if_neg e1]
theorem y6 {d:Nat} {v:Value} (h1:d≠dj) (hdj:jk dj (aQ fr)=false):jk dj (aQ ((d,v)::fr))=false:=by
  grind [jk,aQ,jo]
abbrev M0 (c:List (Bool×Nat×Nat)):List (Bool×Nat):=c.map (fun x=>(x.1,x.2.1))
theorem y7 {v:Value} {lp:List HP} (hG:∀ h X w,G h->Sat β (h++(X++Z)) w->Sat β S w) (hK:∀ f1 h1,R f1 h1->∀ junk w,Sat β (h1++(lp++Z)) w->jf P ops (NP Q) (Sat β S) l2 (bY N ((dj,v)::f1) junk) w) :
    ∀ (c:List (Bool×Nat×Nat)) (fr:Fr) (hps:List HP) (junk:Nat->Value) (w:World),jk dj (aQ fr)=false->gh P β N ops Q S G dj c fr hps R->junk dj=v->Sat β (hps++(lp++Z)) w->jf P ops (NP Q) (Sat β S) (M0 c++l2) (bY N fr junk) w
  | [],fr,hps,junk,w,hdj,hc,hv,hS=>by
    show jf _ _ _ _ l2 _ _
    rw [Cg hv hdj]
    exact hK fr hps hc junk w hS
  | (false,i,d)::c,fr,hps,junk,w,hdj,⟨⟨h1,h2⟩,q,h3,h4⟩,hv,hS=>by
    show jf _ _ _ _ ((false,i)::(M0 c++l2)) _ _
    unfold jf
    refine h3.at_ (X:=[]) hS (fun v' l j2 w' g1 g2 g3 g4=>?_)
    obtain⟨k1,k2⟩:=h4 v' l g1
    refine⟨.inr (hG l lp w' k1 g4),?_⟩
    rw [Cg g2 h1]
    exact y7 hG hK c _ l j2 w' (y6 h2 hdj) k2 ((g3 dj (by simp) (fun e=>h2 e.symm)).trans hv) g4
  | (true,i,d)::c,fr,hps,junk,w,hdj,⟨⟨h1,h2⟩,o,v',h3,h4,h5,h6⟩,hv,hS=>by
    show jf _ _ _ _ ((true,i)::(M0 c++l2)) _ _
    unfold jf
    refine⟨o,v',h3,h5 junk,?_⟩
    rw [h4,dR]
    exact y7 hG hK c _ hps junk w (y6 h2 hdj) h6 hv hS
theorem y8 {j:Nat} (hG:∀ h X w,G h->Sat β (h++(X++Z)) w->Sat β S w) (hK:∀ f1 h1,R f1 h1->∀ v lp,qj v lp->∀ junk w,Sat β (h1++(lp++Z)) w->jf P ops (NP Q) (Sat β S) l2 (bY N ((dj,v)::f1) junk) w) :
    ∀ (c:List (Bool×Nat×Nat)) (fr:Fr) (hps:List HP) (junk:Nat->Value) (w:World),aP (c.map (·.2.2))=true->jk dj (aQ fr)=false->ic P β N ops Q j dj (dj::c.map (·.2.2)) fr pj qj->gh P β N ops Q S G dj c fr hps R->G hps->Sat β (hps++(pj++Z)) w->o8 P ops (NP Q) (Sat β S) j l2 (M0 c) (bY N fr junk) w
  | [],fr,hps,junk,w,_,hdj,hj,hc,hg,hS=>by
    show wpOp P ops (NP Q) j _ _ _
    refine hj.at_ (X:=hps) hS (fun v l j2 w' g1 g2 g3 g4=>⟨hG hps l w' hg g4,?_⟩)
    rw [Cg g2 hdj]
    exact hK fr hps hc v l g1 j2 w' g4
  | (false,i,d)::c,fr,hps,junk,w,hnd,hdj,hj,hc,hg,hS=>by
    have hc0:=hc
    obtain⟨⟨h1,h2⟩,q,h3,h4⟩:=hc
    have hout:d∉aQ fr:=fun hm=>by rw [jo.2 hm] at h1;cases h1
    have rL:d∉c.map (·.2.2)/\aP (c.map (·.2.2))=true:=by
      have hx:aP (d::c.map (·.2.2))=true:=hnd
      unfold aP at hx
      simp only [Bool.and_eq_true] at hx
      exact⟨fun hm=>by have h:=hx.1;simp_all,hx.2⟩
    refine⟨h3.at_ (X:=[]) hS (fun v' l j2 w' g1 g2 g3 g4=>?_),hj.at_ (X:=hps) hS (fun v l j2 w' g1 g2 g3 g4=>⟨hG hps l w' hg g4,?_⟩)⟩
    ·obtain⟨k1,k2⟩:=h4 v' l g1
     refine⟨hG l pj w' k1 g4,?_⟩
     rw [Cg g2 h1]
     exact y8 hG hK c _ l j2 w' rL.2 (y6 h2 hdj) (hj.grow hout h2 rL.1 v') k2 k1 g4
    exact y7 hG (fun f1 h1 hr=>hK f1 h1 hr v l g1) ((false,i,d)::c) fr hps j2 w' hdj hc0 g2 g4
  | (true,i,d)::c,fr,hps,junk,w,hnd,hdj,hj,⟨⟨h1,h2⟩,o,v',h3,h4,h5,h6⟩,hg,hS=>by
    have hout:d∉aQ fr:=fun hm=>by rw [jo.2 hm] at h1;cases h1
    have rL:d∉c.map (·.2.2)/\aP (c.map (·.2.2))=true:=by
      have hx:aP (d::c.map (·.2.2))=true:=hnd
      unfold aP at hx
      simp only [Bool.and_eq_true] at hx
      exact⟨fun hm=>by have h:=hx.1;simp_all,hx.2⟩
    show o8 _ _ _ _ _ _ ((true,i)::M0 c) _ _
    unfold o8
    refine⟨o,v',h3,h5 junk,?_⟩
    rw [h4,dR]
    exact y8 hG hK c _ hps junk w rL.2 (y6 h2 hdj) (hj.grow hout h2 rL.1 v') h6 hg hS
theorem xG.beside {j:Nat} {pc:List HP} (pk:List Nat) (G:List HP->Prop) (c:List (Bool×Nat×Nat)) (hn:aP pk=true) (hp:bp hps pk=some (pc++(pj++Z))) (hl:l=M0 c) (hG:∀ h X w,G h->Sat β (h++(X++Z)) w->Sat β S w) (hg:G pc) (hnd:aP (c.map (·.2.2))=true) (hdj:jk dj (aQ fr)=false)
    (hj:ic P β N ops Q j dj (dj::c.map (·.2.2)) fr pj qj) (hc:gh P β N ops Q S G dj c fr pc R)
    (K:∀ f1 h1,R f1 h1->∀ v lp,qj v lp->dH P β N ops S l2 ((dj,v)::f1) (h1++(lp++Z)) Q):xG P β N ops S j l2 l fr hps Q:=by
  intro junk w hS
  subst hl
  exact y8 hG (fun f1 h1 hr v lp hv junk w hS=>K f1 h1 hr v lp hv junk w hS) c fr pc junk w hnd hdj hj hc hg (hS.pick hn hp)
end Yj
end mix
end
end Go.Proofs.YtnipofpbcggjcaaGreat
