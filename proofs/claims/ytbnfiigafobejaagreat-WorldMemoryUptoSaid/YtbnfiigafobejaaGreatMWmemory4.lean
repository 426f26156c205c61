/-
  PROVED HERE: lemmas and contracts of functions (texts of this repo, joined; what the claim does not use is left out): Dq, DM, DN, DS, DO, DK, Dr, DU, Co, Ss, Sv, Sw, So, Sy, Sz, Sq, Sj, Sg, Dg, Db, Dn, Hc, Hd, H1, H2, H3, H4, H5.
  CONDITIONS: as the theorems say.
-/
import Derived.Test.YtbnfiigafobejaaGreatMWmemory3
set_option maxRecDepth 100000
set_option maxHeartbeats 4000000
namespace Go.Proofs.YtbnfiigafobejaaGreat
section
open Go.RowKit Go.Maps bG aF
section q
variable {β β':Bs} {N:fQ} {Q:Post} {e:Exit} {fr:Fr} {ax l:List HP}
theorem aB.freeze (R:List HP) (pk:List Nat) (hn:cC pk=true) (hp:cW ax pk=some (l++R)) (K:∀β':Bs,β.le β'->mX β R β'->aB β' N Q e fr l):aB β N Q e fr ax:=λai w hS=>by
 obtain⟨β',h,_,jh⟩:=(hS.pick hn hp).sZ
 exact K β' h.le h ai w jh
variable {P:Program} {ops:Array Oper} {k:Nat}
theorem av.freeze (R:List HP) (pk:List Nat) (hn:cC pk=true) (hp:cW ax pk=some (l++R)) (K:∀β':Bs,β.le β'->mX β R β'->av P β' N ops k fr l Q):av P β N ops k fr ax Q:=λai w hS=>by
 obtain⟨β',h,_,jh⟩:=(hS.pick hn hp).sZ
 exact K β' h.le h ai w jh
theorem aB.cT (ix:List Nat) (R:List HP) (K:∀β':Bs,β.le β'->mX β R β'->aB β' N Q e fr (lP ix ax 0)) (hn:cC (oF ix ax.length 0++ix)=true:=by kernel_rfl) (hp:cW ax (oF ix ax.length 0++ix)=some (lP ix ax 0++R):=by kernel_rfl):aB β N Q e fr ax:=aB.freeze R _ hn hp K
theorem av.cT (ix:List Nat) (R:List HP) (K:∀β':Bs,β.le β'->mX β R β'->av P β' N ops k fr (lP ix ax 0) Q) (hn:cC (oF ix ax.length 0++ix)=true:=by kernel_rfl) (hp:cW ax (oF ix ax.length 0++ix)=some (lP ix ax 0++R):=by kernel_rfl):av P β N ops k fr ax Q:=av.freeze R _ hn hp K
variable {c:Code}
theorem aq.r9 (i:Nat) {e:TypeId} {size n cap:Nat} {A:Option Addr} {xs:List Value} (hp:ax[i]?=some (.abs (aG e size A n cap xs))) (hn:0<n) (K:A=some ⟨br A,bq A,none⟩->aq P β N c fr ax Q):aq P β N c fr ax Q:=λai w hS=>
 let ⟨_,h⟩:=hS.get hp;K (aG.Bo h hn).1 ai w hS
def aa0 (N:fQ) {ι:Type} (B:ι->Bs) (bT:ι->Prop) (fr:ι->Fr) (hp:ι->List HP):Act->World->Prop:=λa w=>∃i,bT i/\∃ai,a=fI N (fr i) ai/\aR (B i) (hp i) w
theorem aq.aa1 {x y:Code} {ι:Type} (B:ι->Bs) (bT:ι->Prop) (bY:ι->Fr) (dK:ι->List HP) (hr:∀i,bT i->aq P (B i) N y (bY i) (dK i) Q) (hf:aq P β N x fr ax (Exit.then (aa0 N B bT bY dK) Q)):aq P β N (.seq x y) fr ax Q:=by
 intro ai w hS
 refine wp_seq (ah8 (λe a w q=>?_) (hf ai w hS))
 cases e with
 |normal=>
   obtain⟨i,hi,qo,rfl,jh⟩:=q
   exact hr i hi qo w jh
 |exit id=>exact q
 |goto l=>exact q
 |ret=>exact q
 |panic ch=>exact q
 |outgrown=>exact q
theorem aB.aa2 {ι:Type} {B:ι->Bs} {bT:ι->Prop} {bY:ι->Fr} {dK:ι->List HP} (i:ι) (hb:B i=β) {ar pk:List Nat} (hi:bT i) (hf:∀ai,kG fr ai ar=bY i) (hn:cC pk=true) (hp:cW ax pk=some (dK i)) :
 aB β N (Exit.then (aa0 N B bT bY dK) Q) .normal fr ax:=λai _ hS=>⟨i,hi,lk fr ai,by rw [o6 N fr ai ar,hf ai],hb ▸ hS.pick hn hp⟩
end q
section k
variable {P:Program} {β β':Bs} {R R':RS} {f:FuncId} {args:Array Value} {x:Value} {ns ns':List aO} {L:eP} {A B G H V:Option Addr} {c cb cg ch cv d k to:Nat} {n:aO} {bs ds:List UInt8} {name aD:ByteArray} {c0:aP}
structure Bb (β:Bs) (R:RS) (L:eP) (H V:Option Addr) (k:Nat):Prop where
 data:∀i,i<R.ns.length->i≠k->bJ β (L.dA i) (nd R.ns i).data
 ah:∀i,i<R.ns.length->cV β (L.eA i) (nd R.ns i).ah
 h:cD β H (bL (bn R.us))
 v:cD β V (bL (iZ R.us))
theorem Bb.le (h:Bb β R L H V k) (dW:β.le β'):Bb β' R L H V k:=⟨λi hi hk=>(h.data i hi hk).le dW,λi hi=>(h.ah i hi).le dW,h.h.le dW,h.v.le dW⟩
theorem Bb.at (h:Bb β R L H V k) (hA:B=L.dA k) (hd:ds=(nd R.ns k).data) (g:mX β [.abs (aG 95 10 A R.ns.length c (bH L R.ns)),.abs (aG 3 1 G R.aH.length cg (bL R.aH)),.abs (aG 5 1 B ds.length cb (dL ds))] β'):dz β' R ⟨A,c,L,G,cg,H,ch,V,cv⟩:=by
 obtain⟨F,h1,h2⟩:=g.get 0 rfl
 obtain⟨F2,g1,g2⟩:=g.get 1 rfl
 obtain⟨F3,k1,k2⟩:=g.get 2 rfl
 have h':=h.le g.le
 refine⟨⟨cD.gU g1 g2 rfl,h'.h,h'.v⟩,cD.gU h1 h2 rfl,λi hi=>?_,h'.ah⟩
 by_cases e:i=k
 ·subst e;rw [←hA,←hd];exact cD.gU k1 k2 rfl
 exact h'.data i hi e
theorem Ib (h:Bb β R L H V k) (hA:B=L.dA k) (hd:ds=(nd R.ns k).data) (hs:∀β',β.le β'->dz β' R ⟨A,c,L,G,cg,H,ch,V,cv⟩->aX P β' f args [] (λv l=>v=x/\l=[])) :
 aX P β f args [.abs (aG 95 10 A R.ns.length c (bH L R.ns)),.abs (aG 3 1 G R.aH.length cg (bL R.aH)),.abs (aG 5 1 B ds.length cb (dL ds))] (λv l=>v=x/\l=[.abs (aG 95 10 A R.ns.length c (bH L R.ns)),.abs (aG 3 1 G R.aH.length cg (bL R.aH)),.abs (aG 5 1 B ds.length cb (dL ds))]):=
 (aX.sZ (pre:=[]) (R:=[.abs (aG 95 10 A R.ns.length c (bH L R.ns)),.abs (aG 3 1 G R.aH.length cg (bL R.aH)),.abs (aG 5 1 B ds.length cb (dL ds))]) (λβ' g=>hs β' g.le (h.at hA hd g))).mono (by rintro v l ⟨l0,⟨rfl,rfl⟩,rfl⟩;exact⟨rfl,rfl⟩)
theorem Bb.set (h:Bb β R L H V k) (hk:k<R.ns.length) (hn:R'.ns=R.ns.set k n) (he:n.ah=(nd R.ns k).ah) (hu:R'.us=R.us):Bb β R' (L.dat k B c) H V k:=by
 refine⟨λi hi hk2=>?_,λi hi=>?_,by rw [hu];exact h.h,by rw [hu];exact h.v⟩
 ·rw [hn,ahp] at hi
  rw [hn,qx hk,ahe hk2]
  show bJ β (if i=k then B else L.dA i) _
  rw [ahe hk2];exact h.data i hi hk2
 rw [hn,ahp] at hi
 rw [hn,qx hk]
 by_cases e:i=k
 ·rw [ahf e,he];subst e;exact h.ah i hi
 rw [ahe e];exact h.ah i hi
theorem Sh {m:Nat} (h:ds.length=m):bs.length+m=(bs++ds).length:=by rw [ahl,h]
theorem Wt {m:Nat} (h:ds.length=m):HP.abs (aG 5 1 B (bs.length+m) c (dL bs++dL ds))=HP.abs (aG 5 1 B (bs++ds).length c (dL (bs++ds))):=by
 grind [Sh,dL]
theorem Zq:(L.dat k B c).dA k=B:=ahf rfl
theorem ack {s z:Int} (hk:k<ns.length) (h:ns'=ns.set k {nd ns k with data:=ds,aU:=s,aJ:=z}) :
 HP.abs (aG 95 10 A ns.length c ((((bH L ns).set (k*10+7) (.slice B ds.length cb)).set (k*10+5) (.int .i64 s)).set (k*10+5+1) (.int .i64 z)))=HP.abs (aG 95 10 A ns'.length c (bH (L.dat k B cb) ns')):=by
 rw [TR hk,Cy (by rw [ahp];exact hk),qx hk,ahf rfl,List.set_set,h,ahp]
def kr (R:RS) (bs:List UInt8):Nat:=(min (bs.length:Int) (R.cB-(fW R.ns R.ns.length:Int))).toNat
def F7 (R:RS) (k:Nat) (bs:List UInt8):RS:={R with ns:=R.ns.set k {nd R.ns k with data:=(nd R.ns k).data++bs.take (kr R bs),aU:=R.cS,aJ:=R.cZ}}
theorem Wu (h:(bs.length:Int)=0):jT R k bs=(R,0,0):=ahf (ahV zc)
theorem Wv (h:¬(bs.length:Int)=0) (h2:R.cB-(fW R.ns R.ns.length:Int)<=0):jT R k bs=(R,0,176):=(ahe (λe=>h (by rw [e];rfl))).trans (ahf h2)
theorem Ww (h:¬(bs.length:Int)=0) (h2:¬R.cB-(fW R.ns R.ns.length:Int)<=0):jT R k bs=(F7 R k bs,(kr R bs:Int),0):=(ahe (λe=>h (by rw [e];rfl))).trans (ahe h2)
theorem afc:(bR R d name n).1.us=R.us:=by unfold bR;(repeat' split)<;>rfl
theorem QY (hk:k<ns.length) {m u g s z:Int}:(((((bH L ns).set (k*10+2) (.int .i64 m)).set (k*10+3) (.int .i64 u)).set (k*10+4) (.int .i64 g)).set (k*10+5) (.int .i64 s)).set (k*10+5+1) (.int .i64 z)=bH L (ns.set k {nd ns k with mode:=m,bg:=u,bh:=g,aU:=s,aJ:=z}):=by
 have e:∀a:aO,k<(ns.set k a).length:=Pe
 rw [si (n:={nd ns k with mode:=m}) hk Pd (λ_ _ _=>rfl) rfl,
  si (n:={nd ns k with mode:=m,bg:=u}) (e _) Pd (λ_ _ _=>rfl) (by rw [qx hk,ahf rfl];rfl),List.set_set,
  si (n:={nd ns k with mode:=m,bg:=u,bh:=g}) (e _) Pd (λ_ _ _=>rfl) (by rw [qx hk,ahf rfl];rfl),List.set_set,
  Cy (e _),qx hk,ahf rfl,List.set_set]
def zu (R:RS) (k:Nat) (c:aP):RS:={R with ns:=R.ns.set k {nd R.ns k with mode:=c.mode,bg:=c.bg,bh:=c.bh,aU:=c.aU,aJ:=c.aJ}}
theorem Zr (hk:k<R.ns.length):HP.abs (aG 95 10 A R.ns.length c ((((((bH L R.ns).set (k*10+2) (.int .i64 c0.mode)).set (k*10+3) (.int .i64 c0.bg)).set (k*10+4) (.int .i64 c0.bh)).set (k*10+5) (.int .i64 c0.aU)).set (k*10+5+1) (.int .i64 c0.aJ)))=HP.abs (aG 95 10 A (zu R k c0).ns.length c (bH L (zu R k c0).ns)):=by
 grind [QY,zu]
theorem Ic:(zu R k c0).ns.length=R.ns.length:=ahp ..
theorem lV.meta (h:lV β R L H V) (hk:k<R.ns.length):lV β (zu R k c0) L H V:=by
 refine⟨λi hi=>?_,λi hi=>?_,h.h,h.v⟩
 ·rw [Ic] at hi
  show bJ β _ (nd (R.ns.set k _) i).data
  rw [qx hk]
  by_cases e:i=k
  ·rw [ahf e];subst e;exact h.data i hi
  rw [ahe e];exact h.data i hi
 rw [Ic] at hi
 show cV β _ (nd (R.ns.set k _) i).ah
 rw [qx hk]
 by_cases e:i=k
 ·rw [ahf e];subst e;exact h.ah i hi
 rw [ahe e];exact h.ah i hi
theorem Wx {z:Int} (h:iG R c0.aN=.error z):mq R c0=(R,0,z):=by unfold mq;rw [h]
theorem Wy (h:iG R c0.aN=.ok k) (h1:(nd R.ns k).kind=2/\(nd R.ns k).id∈R.aH):mq R c0=(R,0,170):=by unfold mq;rw [h];exact ahf h1
theorem Wz (h:iG R c0.aN=.ok k) (h1:¬((nd R.ns k).kind=2/\(nd R.ns k).id∈R.aH)) (h2:¬jV c0.mode):mq R c0=(R,0,120):=by unfold mq;rw [h];exact (ahe h1).trans (ahe h2)
theorem yE (h:iG R c0.aN=.ok k) (h1:¬((nd R.ns k).kind=2/\(nd R.ns k).id∈R.aH)) (h2:jV c0.mode) (h3:¬(qu c0.bg/\qu c0.bh)):mq R c0=(R,0,11):=by unfold mq;rw [h];exact (ahe h1).trans ((ahf h2).trans (ahe h3))
theorem WA (h:iG R c0.aN=.ok k) (h1:¬((nd R.ns k).kind=2/\(nd R.ns k).id∈R.aH)) (h2:jV c0.mode) (h3:qu c0.bg/\qu c0.bh) (h4:¬gj c0.aU c0.aJ):mq R c0=(R,0,20):=by unfold mq;rw [h];exact (ahe h1).trans ((ahf h2).trans ((ahf h3).trans (ahe h4)))
theorem WB (h:iG R c0.aN=.ok k) (h1:¬((nd R.ns k).kind=2/\(nd R.ns k).id∈R.aH)) (h2:jV c0.mode) (h3:qu c0.bg/\qu c0.bh) (h4:gj c0.aU c0.aJ):mq R c0=(zu R k c0,0,0):=by unfold mq;rw [h];exact (ahe h1).trans ((ahf h2).trans ((ahf h3).trans (ahf h4)))
theorem JU (h:n.kind=3) (h1:¬ld n.target=0):bR R d name n=(R,ld n.target):=ahf ⟨h,h1⟩
theorem Nc (h:¬(n.kind=3/\ld n.target≠0)) (h1:bZ R.ns d name=(k:Int)):bR R d name n=(R,171):=(ahe h).trans (ahf (by rw [h1];omega))
theorem F8 (h:¬(n.kind=3/\ld n.target≠0)) (h1:bZ R.ns d name = -1) (h2:¬vO R):bR R d name n=(R,177):=(ahe h).trans ((ahe (by rw [h1];decide)).trans (ahe h2))
theorem Nd (h:¬(n.kind=3/\ld n.target≠0)) (h1:bZ R.ns d name = -1) (h2:vO R):bR R d name n=(jY R d name n,0):=(ahe h).trans ((ahe (by rw [h1];decide)).trans (ahf h2))
variable {b:Bool}
theorem aa3 (h:bZ R.ns d name = -1):iH R d name b=(R,170):=ahe (by rw [h];decide)
theorem F9 (h:bZ R.ns d name=(k:Int)):iH R d name b=if b=false/\(nd R.ns k).kind=2 then (R,172) else if b=true/\(nd R.ns k).kind≠2 then (R,173) else if b=true/\0<(nd R.ns k).ah.length then (R,178) else (gn (cX R d name true),0):=by
 grind [iH]
theorem adK (h:bZ R.ns d name=(k:Int)) (h1:b=false/\(nd R.ns k).kind=2):iH R d name b=(R,172):=(F9 h).trans (ahf h1)
theorem adL (h:bZ R.ns d name=(k:Int)) (h1:¬(b=false/\(nd R.ns k).kind=2)) (h2:b=true/\(nd R.ns k).kind≠2):iH R d name b=(R,173):=(F9 h).trans ((ahe h1).trans (ahf h2))
theorem adM (h:bZ R.ns d name=(k:Int)) (h1:¬(b=false/\(nd R.ns k).kind=2)) (h2:¬(b=true/\(nd R.ns k).kind≠2)) (h3:b=true/\0<(nd R.ns k).ah.length):iH R d name b=(R,178):=(F9 h).trans ((ahe h1).trans ((ahe h2).trans (ahf h3)))
theorem adN (h:bZ R.ns d name=(k:Int)) (h1:¬(b=false/\(nd R.ns k).kind=2)) (h2:¬(b=true/\(nd R.ns k).kind≠2)) (h3:¬(b=true/\0<(nd R.ns k).ah.length)):iH R d name b=(gn (cX R d name true),0):=(F9 h).trans ((ahe h1).trans ((ahe h2).trans (ahe h3)))
variable {w:Int}
theorem adO {z:Int} (h:ij R c0.aN c0.name 64=.error z):jl R c0 w=(R,0,z):=by unfold jl;rw [h]
theorem adP (h:ij R c0.aN c0.name 64=.ok d) (h1:bZ R.ns d c0.name = -1):jl R c0 w=(R,0,170):=by unfold jl;rw [h];exact ahe (by rw [h1];decide)
theorem Ga (h:ij R c0.aN c0.name 64=.ok d) (h1:bZ R.ns d c0.name=(k:Int)):jl R c0 w=if (nd R.ns k).kind=3 then (R,0,174) else if (nd R.ns k).kind≠w then (R,0,if (nd R.ns k).kind=1 then 173 else 172) else kY R k:=by
 grind [jl]
theorem adQ (h:ij R c0.aN c0.name 64=.ok d) (h1:bZ R.ns d c0.name=(k:Int)) (h2:(nd R.ns k).kind=3):jl R c0 w=(R,0,174):=(Ga h h1).trans (ahf h2)
theorem adR (h:ij R c0.aN c0.name 64=.ok d) (h1:bZ R.ns d c0.name=(k:Int)) (h2:¬(nd R.ns k).kind=3) (h3:¬(nd R.ns k).kind=w) (h4:(nd R.ns k).kind=1):jl R c0 w=(R,0,173):=(Ga h h1).trans ((ahe h2).trans ((ahf h3).trans (by rw [ahf h4])))
theorem adS (h:ij R c0.aN c0.name 64=.ok d) (h1:bZ R.ns d c0.name=(k:Int)) (h2:¬(nd R.ns k).kind=3) (h3:¬(nd R.ns k).kind=w) (h4:¬(nd R.ns k).kind=1):jl R c0 w=(R,0,172):=(Ga h h1).trans ((ahe h2).trans ((ahf h3).trans (by rw [ahe h4])))
theorem adT (h:ij R c0.aN c0.name 64=.ok d) (h1:bZ R.ns d c0.name=(k:Int)) (h2:¬(nd R.ns k).kind=3) (h3:(nd R.ns k).kind=w):jl R c0 w=kY R k:=(Ga h h1).trans ((ahe h2).trans (ahe (λq=>q h3)))
theorem adU (h:bZ R.ns d name = -1):ia R d name to aD=(R,170):=ahe (by rw [h];decide)
def Bc (R:RS) (d:Nat) (name:ByteArray) (to:Nat) (aD:ByteArray) (k:Nat) (R1:RS):RS:=gn (dh (cX R1 d name false) to aD (nd R.ns k).id)
theorem Gb (h:bZ R.ns d name=(k:Int)):ia R d name to aD=if (nd R.ns k).kind=2/\jF R.ns k (R.ns.length+1) to=true then (R,174) else if bZ R.ns to aD=(k:Int) then (R,0) else if 0<=bZ R.ns to aD then (if (nd R.ns (bZ R.ns to aD).toNat).kind=2 then (R,172) else if (nd R.ns k).kind=2 then (R,173) else (Bc R d name to aD k (cX R to aD true),0)) else (Bc R d name to aD k R,0):=by
 unfold ia
 rw [ahf (by rw [h];omega),h];rfl
variable {t:Nat}
theorem adV (h:bZ R.ns d name=(k:Int)) (h1:(nd R.ns k).kind=2/\jF R.ns k (R.ns.length+1) to=true):ia R d name to aD=(R,174):=(Gb h).trans (ahf h1)
theorem adW (h:bZ R.ns d name=(k:Int)) (h1:¬((nd R.ns k).kind=2/\jF R.ns k (R.ns.length+1) to=true)) (h2:bZ R.ns to aD=(k:Int)):ia R d name to aD=(R,0):=(Gb h).trans ((ahe h1).trans (ahf h2))
theorem afS (h:bZ R.ns d name=(k:Int)) (h1:¬((nd R.ns k).kind=2/\jF R.ns k (R.ns.length+1) to=true)) (h2:bZ R.ns to aD = -1):ia R d name to aD=(Bc R d name to aD k R,0):=(Gb h).trans ((ahe h1).trans ((ahe (by rw [h2];omega)).trans (ahe (by rw [h2];decide))))
theorem Zs (h:bZ R.ns d name=(k:Int)) (h1:¬((nd R.ns k).kind=2/\jF R.ns k (R.ns.length+1) to=true)) (h2:bZ R.ns to aD=(t:Int)) (h3:¬(t:Int)=(k:Int)):ia R d name to aD=if (nd R.ns t).kind=2 then (R,172) else if (nd R.ns k).kind=2 then (R,173) else (Bc R d name to aD k (cX R to aD true),0):=by
 grind [Gb]
theorem adX (h:bZ R.ns d name=(k:Int)) (h1:¬((nd R.ns k).kind=2/\jF R.ns k (R.ns.length+1) to=true)) (h2:bZ R.ns to aD=(t:Int)) (h3:¬(t:Int)=(k:Int)) (h4:(nd R.ns t).kind=2):ia R d name to aD=(R,172):=(Zs h h1 h2 h3).trans (ahf h4)
theorem adY (h:bZ R.ns d name=(k:Int)) (h1:¬((nd R.ns k).kind=2/\jF R.ns k (R.ns.length+1) to=true)) (h2:bZ R.ns to aD=(t:Int)) (h3:¬(t:Int)=(k:Int)) (h4:¬(nd R.ns t).kind=2) (h5:(nd R.ns k).kind=2):ia R d name to aD=(R,173):=(Zs h h1 h2 h3).trans ((ahe h4).trans (ahf h5))
theorem afT (h:bZ R.ns d name=(k:Int)) (h1:¬((nd R.ns k).kind=2/\jF R.ns k (R.ns.length+1) to=true)) (h2:bZ R.ns to aD=(t:Int)) (h3:¬(t:Int)=(k:Int)) (h4:¬(nd R.ns t).kind=2) (h5:¬(nd R.ns k).kind=2):ia R d name to aD=(Bc R d name to aD k (cX R to aD true),0):=(Zs h h1 h2 h3).trans ((ahe h4).trans (ahe h5))
noncomputable def Ie (R:RS) (c:aP) (d:Nat) (n:aO):wN:=if (bR R d c.name n).2=0/\c.op=5 then kY (bR R d c.name n).1 ((bR R d c.name n).1.ns.length-1) else ((bR R d c.name n).1,0,(bR R d c.name n).2)
theorem T6 (h:c0.op=8\/c0.op=14):iI R c0 d=((iH R d c0.name (decide (c0.op=14))).1,0,(iH R d c0.name (decide (c0.op=14))).2):=ahf h
theorem afU (h:¬(c0.op=8\/c0.op=14)) (h1:c0.op=6):iI R c0 d=Ie R c0 d ⟨0,3,511,0,0,0,0,[],c0.text,[]⟩:=((ahe h).trans (ahf h1)).trans (ahe (λq=>by have:=q.2;omega)).symm
theorem adZ (h:¬(c0.op=8\/c0.op=14)) (h1:¬c0.op=6) (h2:¬jV c0.mode):iI R c0 d=(R,0,120):=(ahe h).trans ((ahe h1).trans (ahe h2))
theorem afV (h:¬(c0.op=8\/c0.op=14)) (h1:¬c0.op=6) (h2:jV c0.mode) (h3:c0.op=5):iI R c0 d=Ie R c0 d ⟨0,1,c0.mode,0,0,0,0,[],⟨#[]⟩,[]⟩:=by
 refine ((ahe h).trans ((ahe h1).trans ((ahf h2).trans (ahf h3)))).trans ?_
 unfold Ie
 grind
theorem afW (h:¬(c0.op=8\/c0.op=14)) (h1:¬c0.op=6) (h2:jV c0.mode) (h3:¬c0.op=5):iI R c0 d=Ie R c0 d ⟨0,2,c0.mode,0,0,0,0,[],⟨#[]⟩,[]⟩:=((ahe h).trans ((ahe h1).trans ((ahf h2).trans (ahe h3)))).trans (ahe (λq=>h3 q.2)).symm
theorem JV (h:¬((bR R d c0.name n).2=0/\c0.op=5)):Ie R c0 d n=((bR R d c0.name n).1,0,(bR R d c0.name n).2):=ahe h
theorem Si (h:(bR R d c0.name n).2=0) (h1:c0.op=5):Ie R c0 d n=kY (bR R d c0.name n).1 ((bR R d c0.name n).1.ns.length-1):=ahf ⟨h,h1⟩
theorem WC (h:(bR R d name n).2=0):(bR R d name n).1.ns.length=R.ns.length+1:=by
 unfold bR at h ⊢
 split
 ·grind
 rename_i q
 rw [ahe q] at h
 split
 ·grind
 rename_i q2
 rw [ahe q2] at h
 split
 ·show (_++_:List aO).length=_
  grind [CS]
 grind
theorem Zt (h:c0.op=1):cF R c0=if 0<=gJ R.ns c0.other then (if (nd R.ns (cq R.ns c0.other)).kind=2 then kY R (cq R.ns c0.other) else (R,0,173)) else (R,0,141):=ahf h
theorem aa4 (h:c0.op=1) (h1:gJ R.ns c0.other = -1):cF R c0=(R,0,141):=(Zt h).trans (ahe (by rw [h1];decide))
theorem aa5 (h:c0.op=1) (h1:0<=gJ R.ns c0.other) (h2:¬(nd R.ns (cq R.ns c0.other)).kind=2):cF R c0=(R,0,173):=(Zt h).trans ((ahf h1).trans (ahe h2))
theorem aa6 (h:c0.op=1) (h1:0<=gJ R.ns c0.other) (h2:(nd R.ns (cq R.ns c0.other)).kind=2):cF R c0=kY R (cq R.ns c0.other):=(Zt h).trans ((ahf h1).trans (ahf h2))
theorem ad0 (h:c0.op=2):cF R c0=jl R c0 2:=by unfold cF;rw [ahe zc,ahf h]
theorem ad1 (h:c0.op=3):cF R c0=jl R c0 1:=by unfold cF;rw [ahe zc,ahe zc,ahf h]
abbrev JW (n:Int):Prop:=n=4\/n=5\/n=6\/n=8\/n=14
theorem ad2 (h:JW c0.op):cF R c0=match ij R c0.aN c0.name 192 with|.error e=>(R,0,e)|.ok d=>iI R c0 d:=by unfold cF;rw [ahe zc,ahe zc,ahe zc,ahf h];rfl
theorem aa7 {z:Int} (h:JW c0.op) (h1:ij R c0.aN c0.name 192=.error z):cF R c0=(R,0,z):=by rw [ad2 h,h1]
theorem aa8 (h:JW c0.op) (h1:ij R c0.aN c0.name 192=.ok d):cF R c0=iI R c0 d:=by rw [ad2 h,h1]
theorem ad3 (h:c0.op=7):cF R c0=vQ R c0:=by unfold cF;rw [ahe zc,ahe zc,ahe zc,ahe zc,ahf h]
theorem aa9 {z:Int} (h:c0.op=7) (h1:qH R c0 64=.error z):cF R c0=(R,0,z):=by rw [ad3 h];unfold vQ;rw [h1]
theorem abb (h:c0.op=7) (h1:qH R c0 64=.ok (d,to)):cF R c0=if 0<=bZ R.ns d c0.name then (if (nd R.ns (bZ R.ns d c0.name).toNat).kind=2 then (R,0,172) else if 0<=bZ R.ns to c0.text then (R,0,171) else if (dM R.ns R.ns.length:Int)<8192 then (dh R to c0.text (nd R.ns (bZ R.ns d c0.name).toNat).id,0,0) else (R,0,177)) else (R,0,170):=by rw [ad3 h];unfold vQ;rw [h1]
theorem abd (h:c0.op=7) (h1:qH R c0 64=.ok (d,to)) (h2:bZ R.ns d c0.name = -1):cF R c0=(R,0,170):=(abb h h1).trans (ahe (by rw [h2];decide))
theorem Nf (h:c0.op=7) (h1:qH R c0 64=.ok (d,to)) (h2:bZ R.ns d c0.name=(k:Int)):cF R c0=if (nd R.ns k).kind=2 then (R,0,172) else if 0<=bZ R.ns to c0.text then (R,0,171) else if (dM R.ns R.ns.length:Int)<8192 then (dh R to c0.text (nd R.ns k).id,0,0) else (R,0,177):=by
 refine (abb h h1).trans ((ahf (by rw [h2];omega)).trans ?_)
 rw [h2];rfl
theorem abe (h:c0.op=7) (h1:qH R c0 64=.ok (d,to)) (h2:bZ R.ns d c0.name=(k:Int)) (h3:(nd R.ns k).kind=2):cF R c0=(R,0,172):=(Nf h h1 h2).trans (ahf h3)
theorem abf (h:c0.op=7) (h1:qH R c0 64=.ok (d,to)) (h2:bZ R.ns d c0.name=(k:Int)) (h3:¬(nd R.ns k).kind=2) (h4:bZ R.ns to c0.text=(t:Int)):cF R c0=(R,0,171):=(Nf h h1 h2).trans ((ahe h3).trans (ahf (by rw [h4];omega)))
theorem abg (h:c0.op=7) (h1:qH R c0 64=.ok (d,to)) (h2:bZ R.ns d c0.name=(k:Int)) (h3:¬(nd R.ns k).kind=2) (h4:bZ R.ns to c0.text = -1) (h5:¬(dM R.ns R.ns.length:Int)<8192):cF R c0=(R,0,177):=(Nf h h1 h2).trans ((ahe h3).trans ((ahe (by rw [h4];decide)).trans (ahe h5)))
theorem abh (h:c0.op=7) (h1:qH R c0 64=.ok (d,to)) (h2:bZ R.ns d c0.name=(k:Int)) (h3:¬(nd R.ns k).kind=2) (h4:bZ R.ns to c0.text = -1) (h5:(dM R.ns R.ns.length:Int)<8192):cF R c0=(dh R to c0.text (nd R.ns k).id,0,0):=(Nf h h1 h2).trans ((ahe h3).trans ((ahe (by rw [h4];decide)).trans (ahf h5)))
theorem Zu (h:c0.op=9):cF R c0=match iG R c0.aN with|.error e=>(R,0,e)|.ok k=>if (nd R.ns k).kind=2 then (R,0,172) else jT R k c0.data:=by unfold cF;rw [ahe zc,ahe zc,ahe zc,ahe zc,ahe zc,ahf h];rfl
theorem abj {z:Int} (h:c0.op=9) (h1:iG R c0.aN=.error z):cF R c0=(R,0,z):=by rw [Zu h,h1]
theorem abk (h:c0.op=9) (h1:iG R c0.aN=.ok k) (h2:(nd R.ns k).kind=2):cF R c0=(R,0,172):=by rw [Zu h,h1];exact ahf h2
theorem abl (h:c0.op=9) (h1:iG R c0.aN=.ok k) (h2:¬(nd R.ns k).kind=2):cF R c0=jT R k c0.data:=by rw [Zu h,h1];exact ahe h2
theorem abm (h:c0.op=10):cF R c0=mq R c0:=by unfold cF;rw [ahe zc,ahe zc,ahe zc,ahe zc,ahe zc,ahe zc,ahf h]
theorem abn (h:c0.op=13):cF R c0=if c0.aN∈bn R.us then (gn {R with us:=del c0.aN R.us},0,0) else (gn R,0,131):=by unfold cF;rw [ahe zc,ahe zc,ahe zc,ahe zc,ahe zc,ahe zc,ahe zc,ahf h]
theorem WD (h:c0.op=13) (h1:c0.aN∈bn R.us):cF R c0=(gn {R with us:=del c0.aN R.us},0,0):=(abn h).trans (ahf h1)
theorem WE (h:c0.op=13) (h1:c0.aN∉bn R.us):cF R c0=(gn R,0,131):=(abn h).trans (ahe h1)
theorem abo (h:c0.op=15):cF R c0=match qH R c0 192 with|.error e=>(R,0,e)|.ok (f,to)=>((ia R f c0.name to c0.text).1,0,(ia R f c0.name to c0.text).2):=by unfold cF;rw [ahe zc,ahe zc,ahe zc,ahe zc,ahe zc,ahe zc,ahe zc,ahe zc,ahf h];rfl
theorem WH {z:Int} (h:c0.op=15) (h1:qH R c0 192=.error z):cF R c0=(R,0,z):=by rw [abo h,h1]
theorem WI (h:c0.op=15) (h1:qH R c0 192=.ok (d,to)):cF R c0=((ia R d c0.name to c0.text).1,0,(ia R d c0.name to c0.text).2):=by rw [abo h,h1]
theorem abp (h:¬(1<=c0.op/\c0.op<=10\/13<=c0.op/\c0.op<=15)):cF R c0=(R,0,230):=by unfold cF;rw [ahe zc,ahe zc,ahe zc,ahe zc,ahe zc,ahe zc,ahe zc,ahe zc,ahe zc]
end k
end
section
open Go.RowKit Go.Maps bG aF
attribute [local irreducible] av bP aq aB fF
noncomputable abbrev Sj (Y:RL) (k:Nat) (Z:RS):=(.abs (aG 5 1 (Y.L.dA k) ((nd Z.ns k).data.length) (Y.L.dC k) (dL (nd Z.ns k).data)):HP)
noncomputable abbrev zU2 (b11:Nat) (b12:Nat):=([(4,vP b11),(8,vP b12)]:Fr)
theorem Ig {β:Bs} (Z:RS) (Y:RL) (k:Nat) (hI:Bb β Z Y.L Y.H Y.V k) (hC:RC Z) (hk:k<Z.ns.length) (dA:Option Addr) (dC:Nat) (bs:List UInt8) (hbs:bJ β dA bs) (hbl:bs.length<=140737488355328) (hbc:bs.length<=dC) :
 cr Tryz.prog β 83 #[.agg ⟨rV Z Y⟩,vI (((k:Nat):Int)),.slice dA (bs.length) (dC)] [ic Y Z,gP Y Z,Sj Y k Z] (λβ' v l=>∃Y',v=.tuple #[.agg ⟨rV ((jT Z k bs).1) Y'⟩,vI (jT Z k bs).2.1,vI (jT Z k bs).2.2]/\l=[]/\dz β' (jT Z k bs).1 Y'):=by
 refine o8 Tryz.func83 Tryz.ntmps83 (λaE R=>SR (jB 1 [3] (λb1=>.ay b1 (rV Z Y) 45) (λb1=>jB 3 [6] (λb2=>.ay b2 (rZ) 45) (λb2=>NZ (jK 3 [13] [] (NN (cP ((((bs.length:Nat):Int):Int)=(0:Int)) (λsB=>?_) (λsB=>?_))))))))
 ·refine SR (jC 4 [7,8] [(0,A_ 4 b1 12),(1,A_ 5 b2 12)] [(5,(zC (rV Z Y)))] (NN (aq.ret (aB.bE (aB.cT [0,1,2] [ic Y Z,gP Y Z,Sj Y k Z] (λvT kS hL=>?_))))))
  have fS:dz vT Z Y:=hI.at rfl rfl hL
  replace aE:=aE.trans kS
  exact rB _ [A_ 2 b2 12] [0] aE (⟨Y,by rw [Wu sB]<;>rfl,rfl,by rw [Wu sB];exact fS⟩)
 refine KX (aq.seq (rQ (jQ 4 [17,18] [(2,a_ 4 b1),(3,A_ 4 b1 12)] (mG (pre:=[ic Y Z,gP Y Z,Sj Y k Z]) [0,1,2] [0,1,2,3,4,5] (.int .i64 ↑(fW Z.ns Z.ns.length)) (Ib hI rfl rfl (λ_ _ h=>Zf Z Y h hC.toRB)) (jQ 2 [9] [(0,w_ (.int .i64 ((Z.cB-((fW Z.ns Z.ns.length):Int)))) (vB rfl (by have:=hC.cap;have:=hC.dat;omega) (by have:=hC.cap;omega)))] (NQ (NX (SQ (jK 2 [22] [] (NN (cP (((Z.cB-((fW Z.ns Z.ns.length):Int)):Int)<=(0:Int)) (λsC=>?_) (λsC=>?_))))))))))))
 ·refine SR (jC 4 [7,8] [(0,A_ 4 b1 12),(1,A_ 5 b2 12)] [(5,(zC (rV Z Y)))] (NN (aq.ret (aB.bE (aB.cT [0,1,2] [ic Y Z,gP Y Z,Sj Y k Z] (λCW kT hL=>?_))))))
  have fS:dz CW Z Y:=hI.at rfl rfl hL
  replace aE:=aE.trans kT
  exact rB _ [A_ 2 b2 12] [0] aE (⟨Y,by rw [Wv sB sC]<;>rfl,rfl,by rw [Wv sB sC];exact fS⟩)
 refine KX (SR (jK 3 [10] [] (NN (aq.join (λ(u:Unit)=>True) (λ(u:Unit)=>[(1,vI ↑k),(2,.slice dA (bs.length) (dC)),(3,vP b1),(6,vP b2),(10,vI ↑(kr Z bs))]) (λ(u:Unit)=>([ic Y Z,gP Y Z,Sj Y k Z,.abs R]++qI b1 Z Y b2)) ?_ (SR (jK 3 [28] [] (NN (cP ((((bs.length:Nat):Int):Int)>((Z.cB-((fW Z.ns Z.ns.length):Int)):Int)) (λvZ=>aq.region (jK 2 [10] [] (NL (aB.slot 10 (vI ((Z.cB-((fW Z.ns Z.ns.length):Int)))) (.int .i64 ↑(kr Z bs)) (λ_=>KB) (ahg (Value.int .i64) (by unfold kr;omega)) (mJ () [0,1,2,3,4,5] (trivial)))))) (λvZ=>aq.skip (aB.slot 10 (vI ↑bs.length) (.int .i64 ↑(kr Z bs)) (λ_=>KB) (ahg (Value.int .i64) (by unfold kr;omega)) (mJ () [0,1,2,3,4,5] (trivial))))))))))))
 rintro u _
 refine aq.seq ?_
 have hml:(bs.take (kr Z bs)).length=kr Z bs:=by grind [kr]
 have hdk:=OX (ns:=Z.ns) Z.ns.length hk
 have hmb:kr Z bs<=bs.length:=by unfold kr;omega
 have hmr:(kr Z bs:Int)<=Z.cB-(fW Z.ns Z.ns.length:Int):=by unfold kr;omega
 have hcb:=hC.cap
 refine aq.r9 0 rfl zc (λlM=>?_)
 refine jM [0,1,2,3,4,5,6,7,8,9,10,11,12,13,514,15,16,517] [4,0] (jG 14 [1,3,6,10,32,33,40,43] [(2,a_ 0 b1),(6,a_ 0 b1),(8,x_ k Z.ns.length (lM)),(10,v_ 1 (nA Z.ns Y.L Y.A Y.c k 7 hk rfl)),(13,xP (kr Z bs) ((kr Z bs)<=dC))] (fF.cut (ι:=(Option Addr)×Nat) (bY:=λ((A5,c6):(Option Addr)×Nat)=>[(1,vI ↑k),(3,vP b1),(6,vP b2),(10,vI ↑(kr Z bs)),(32,.slice Y.A (Z.ns.length) (Y.c)),(33,vI ↑k),(44,.slice A5 (((nd Z.ns k).data++bs.take (kr Z bs)).length) (c6))]) (dK:=λ((A5,c6):(Option Addr)×Nat)=>([ic Y Z,gP Y Z,.abs (aG 5 1 A5 (((nd Z.ns k).data++bs.take (kr Z bs)).length) c6 (dL ((nd Z.ns k).data++bs.take (kr Z bs)))),.abs R]++qI b1 Z Y b2)) [4,0] KB ?_ rfl (λ_=>KB) ?_))
 ·exact U7 2 51 dA (kr Z bs) dC (dL (bs.take (kr Z bs))) rfl ((bJ.take hbs (kr Z bs)).src) (λA5 c6=>av.cO 2 rfl (Wt hml) (sl 44 (.slice A5 (((nd Z.ns k).data.length)+(kr Z bs)) (c6)) (.slice A5 (((nd Z.ns k).data++bs.take (kr Z bs)).length) (c6)) (by rw [Sh hml]) (NL (MD (A5,c6) [1,3,6,10,32,33,44] [0,1,2,3,4,5])))) (hl:=by rw [vJ,hml,Nat.mul_one]) (h1:=sx _)
 rintro⟨A5,c6⟩
 refine jG 2 [1,3,6,10,44,46] [(0,x_ k Z.ns.length (lM))] (fF.last KB (av.zJ 0 (k*10+7) (d:=none) (T:=51) (e:=95) (size:=10) (n:=Z.ns.length) (cap:=Y.c) (A:=Y.A) (xs:=(bH Y.L Z.ns)) (u:=.slice A5 (((nd Z.ns k).data++bs.take (kr Z bs)).length) (c6)) (a:=(.tmp 46)) (y:=(.tmp 44)) (λ_=>KB) KB (λ_=>KB) (λ_=>KB) KB rfl zc (by rw [nZ];omega) (NL (aB.np (NX (SR (jK 9 [53,55] [(2,a_ 4 b1),(6,A_ 4 b1 2),(7,x_ k Z.ns.length (lM))] (av.DB 0 (k*10+5) (d:=none) (T:=26) (e:=95) (size:=10) (n:=Z.ns.length) (cap:=Y.c) (A:=Y.A) (xs:=((bH Y.L Z.ns).set (k*10+7) (.slice A5 (((nd Z.ns k).data++bs.take (kr Z bs)).length) (c6)))) (u:=.int .i64 (Z.cS)) (u2:=.int .i64 (Z.cZ)) (a:=(.tmp 55)) (y:=(.tmp 53)) (λ_=>KB) KB (λ_=>KB) (λ_=>KB) KB rfl rfl zc (by rw [ahp,nZ];omega) (av.cO 0 rfl (ack hk rfl) (NS (jC 5 [7,8] [(0,A_ 4 b1 12),(2,A_ 5 b2 12)] [(5,(zC (rV Z Y)))] (NN (aq.ret (aB.cT [0,1,2] [.abs (aG 95 10 Y.A ((F7 Z k bs).ns.length) Y.c (bH (Y.L.dat k A5 c6) (F7 Z k bs).ns)),gP Y Z,.abs (aG 5 1 A5 (((nd Z.ns k).data++bs.take (kr Z bs)).length) c6 (dL ((nd Z.ns k).data++bs.take (kr Z bs))))] (λJX kU hL=>?_)))))))))))))))
 have fS:dz JX (F7 Z k bs) ⟨Y.A,Y.c,(Y.L.dat k A5 c6),Y.G,Y.cg,Y.H,Y.ch,Y.V,Y.cv⟩:=(hI.set (R':=F7 Z k bs) hk rfl rfl rfl).at Zq.symm (by show _=(nd (Z.ns.set k _) k).data;rw [qx hk,ahf rfl]) hL
 replace aE:=aE.trans kU
 exact rB (.tuple #[.agg ⟨rV Z Y⟩,vI ↑(kr Z bs),vI 0]) [A_ 2 b2 12] [0] aE (⟨⟨Y.A,Y.c,(Y.L.dat k A5 c6),Y.G,Y.cg,Y.H,Y.ch,Y.V,Y.cv⟩,by grind [rV,Ww,F7,kr],rfl,by rw [Ww sB sC];exact fS⟩)
theorem yG {β:Bs} (Z:RS) (Y:RL) (hI:lV β Z Y.L Y.H Y.V) (hC:RC Z) {n:Nat} (hD:RD n Z) (hn:n<=7) (d:Nat) (hd:d<Z.ns.length) (name:ByteArray) (x:aO) (hxd:x.data=[]) (Mb:x.ah=[]) (LH:x.target.size<=1048576) :
 cr Tryz.prog β 99 #[.agg ⟨rV Z Y⟩,vI (((d:Nat):Int)),.string name,.agg #[vI (x.id),vI (x.kind),vI (x.mode),vI (x.bg),vI (x.bh),vI (x.aU),vI (x.aJ),.slice none (0) (0),.string x.target,.slice none (0) (0)]] [ic Y Z,gP Y Z] (λβ' v l=>∃A' c' L',v=.tuple #[.agg ⟨rW ((bR Z d name x).1) A' c' Y.G Y.cg Y.H Y.ch Y.V Y.cv⟩,vI (bR Z d name x).2]/\l=[.abs (aG 95 10 A' ((bR Z d name x).1.ns.length) c' (bH L' (bR Z d name x).1.ns)),.abs (aG 3 1 Y.G ((bR Z d name x).1.aH.length) Y.cg (bL (bR Z d name x).1.aH))]/\lV β' (bR Z d name x).1 L' Y.H Y.V/\(((bR Z d name x).2=0/\L'.dA Z.ns.length=none/\L'.dC Z.ns.length=0)\/((bR Z d name x).2≠0/\A'=Y.A/\c'=Y.c/\L'=Y.L))):=by
 refine o8 Tryz.func99 Tryz.ntmps99 (λaE R=>SR (jB 1 [4] (λb8=>.ay b8 (rV Z Y) 45) (λb8=>jB 1 [7] (λb9=>.ay b9 [vI (x.id),vI (x.kind),vI (x.mode),vI (x.bg),vI (x.bh),vI (x.aU),vI (x.aJ),.slice none (0) (0),.string x.target,.slice none (0) (0)] 95) (λb9=>jB 2 [8] (λb10=>.ay b10 (rZ) 45) (λb10=>NN (aq.join (λ(u:Unit)=>(¬(x.kind=3/\ld x.target≠0))) (λ(u:Unit)=>[(1,vI ↑d),(2,.string name),(4,vP b8),(7,vP b9),(8,vP b10)]) (λ(u:Unit)=>[ic Y Z,gP Y Z,.abs R,.ay b8 (rV Z Y) 45,.ay b9 [vI (x.id),vI (x.kind),vI (x.mode),vI (x.bg),vI (x.bh),vI (x.aU),vI (x.aJ),.slice none (0) (0),.string x.target,.slice none (0) (0)] 95,.ay b10 (rZ) 45]) ?_ (SR (jK 3 [13] [(1,a_ 4 b9)] (NN (cP ((x.kind:Int)=(3:Int)) (λsB=>SR (jK 2 [15] [(1,a_ 4 b9)] (gE [] (Zp x.target LH) (jK 1 [10] [] (NS (jK 2 [18] [] (NN (cN (((ld x.target):Int)=(0:Int)) (λp4=>SR (jC 4 [9] [(0,A_ 3 b8 12),(2,A_ 5 b10 12)] [(5,(zC (rV Z Y)))] (eO [A_ 5 b10 12] aE ⟨Y.A,Y.c,Y.L,by rw [JU sB p4]<;>rfl,by rw [JU sB p4],by rw [JU sB p4];exact hI,.inr (by rw [JU sB p4];exact⟨p4,rfl,rfl,rfl⟩)⟩))) (λp4=>aq.skip (mJ () [0,1,2,3,4,5] (λq=>q.2 zc))))))))))) (λsB=>aq.skip (mJ () [0,1,2,3,4,5] (λq=>sB q.1)))))))))))))
 rintro u hb
 refine SQ (jK 3 [21,22,23] [(0,A_ 3 b8 12)] ?_)
 rcases kB Z.ns d name with hl|⟨k,hl,hk⟩
 ·refine gE [0,1] ((eU hI (λ_ _ h=>jJ Z Y h hC d hd name)).val (ahg (Value.int .i64) hl)) (jK 1 [25] [] (NF (KX (SQ (jK 1 [27] [(0,A_ 3 b8 12)] (gE [0,1] (eU hI (λ_ _ h=>Zo Z Y h hC.toRB)) (jK 1 [29] [] (NN (cN (vO Z) (λvZ=>SR (jC 3 [9] [(0,A_ 3 b8 12),(1,A_ 5 b10 12)] [(5,(zC (rV Z Y)))] (eO [A_ 5 b10 12] aE ⟨Y.A,Y.c,Y.L,by rw [F8 hb hl vZ]<;>rfl,by rw [F8 hb hl vZ],by rw [F8 hb hl vZ];exact hI,.inr (by rw [F8 hb hl vZ];exact⟨(show (177:Int)≠0 by decide),rfl,rfl,rfl⟩)⟩))) (λvZ=>KX (SR (jK 4 [31,32,33,34] [(0,A_ 3 b8 12),(3,A_ 4 b9 10)] (j3 [0,1] (acj Z Y hI hD zc ⟨hC.cap.2.2.2.2.2.2.1,vZ.2.1⟩ d hd name x hxd Mb) ?_)))))))))))))
  rintro β1 _ _ cJ ⟨A1,c1,L1,rfl,rfl,di,hnd⟩
  replace aE:=aE.trans cJ
  exact jC 2 [9] [(0,A_ 5 b10 12)] [(5,(zC (rW (jY Z d name x) A1 c1 Y.G Y.cg Y.H Y.ch Y.V Y.cv)))] (eO [A_ 5 b10 12] aE ⟨A1,c1,L1,by rw [Nd hb hl vZ]<;>rfl,by rw [Nd hb hl vZ],by rw [Nd hb hl vZ];exact di,.inl (by rw [Nd hb hl vZ];exact⟨rfl,hnd⟩)⟩)
 exact gE [0,1] ((eU hI (λ_ _ h=>jJ Z Y h hC d hd name)).val (ahg (Value.int .i64) hl)) (jK 1 [25] [(0,wT (((k:Int):Int)>=(0:Int)))] (NT (SR (jC 3 [9] [(0,A_ 3 b8 12),(1,A_ 5 b10 12)] [(5,(zC (rV Z Y)))] (eO [A_ 5 b10 12] aE ⟨Y.A,Y.c,Y.L,by rw [Nc hb hl]<;>rfl,by rw [Nc hb hl],by rw [Nc hb hl];exact hI,.inr (by rw [Nc hb hl];exact⟨(show (171:Int)≠0 by decide),rfl,rfl,rfl⟩)⟩)))))
theorem Cd {β:Bs} (Z:RS) (Y:RL) (hI:lV β Z Y.L Y.H Y.V) (hC:RC Z) {n:Nat} (hD:RD n Z) (hn:n<=7) (d:Nat) (hd:d<Z.ns.length) (name:ByteArray) (dir:Bool) :
 cr Tryz.prog β 100 #[.agg ⟨rV Z Y⟩,vI (((d:Nat):Int)),.string name,.bool dir] [ic Y Z,gP Y Z] (λβ' v l=>∃Y',v=.tuple #[.agg ⟨rV ((iH Z d name dir).1) Y'⟩,vI (iH Z d name dir).2]/\l=[]/\dz β' (iH Z d name dir).1 Y'):=by
 refine o8 Tryz.func100 Tryz.ntmps100 (λaE R=>SR (jB 1 [4] (λb11=>.ay b11 (rV Z Y) 45) (λb11=>jB 2 [8] (λb12=>.ay b12 (rZ) 45) (λb12=>NS (jK 3 [11,12,13] [(0,A_ 3 b11 12)] ?_)))))
 rcases kB Z.ns d name with hl|⟨k,hl,hk⟩
 ·refine gE [0,1] ((eU hI (λ_ _ h=>jJ Z Y h hC d hd name)).val (ahg (Value.int .i64) hl)) (jK 1 [10] [] (NZ (jK 2 [16] [] (NT (SR (jC 3 [9] [(0,A_ 3 b11 12),(1,A_ 4 b12 12)] [(4,(zC (rV Z Y)))] (NN (aq.ret (aB.bE (aB.cT [0,1] [ic Y Z,gP Y Z] (λIh uP hL=>?_)))))))))))
  have fS:dz Ih Z Y:=hI.at hL
  replace aE:=aE.trans uP
  exact rB _ [A_ 2 b12 12] [0] aE (⟨Y,by rw [aa3 hl]<;>rfl,rfl,by rw [aa3 hl];exact fS⟩)
 refine av.r9 0 rfl zc (λlM=>gE [0,1] ((eU hI (λ_ _ h=>jJ Z Y h hC d hd name)).val (ahg (Value.int .i64) hl)) (jK 1 [10] [] (NZ (jK 2 [16] [(1,wF (((k:Int):Int)<(0:Int)))] (NF (KX (aq.join (λ(u:Unit)=>(¬(dir=false/\(nd Z.ns k).kind=2))) (λ(u:Unit)=>([(1,vI ↑d),(2,.string name),(3,.bool dir)]++zU2 b11 b12++[(10,vI ↑k)])) (λ(u:Unit)=>([ic Y Z,gP Y Z,.abs R]++qI b11 Z Y b12)) ?_ ?_)))))))
 ·rintro u n1
  refine aq.join (λ(u:Unit)=>(¬(dir=true/\(nd Z.ns k).kind≠2))) (λ(u:Unit)=>([(1,vI ↑d),(2,.string name),(3,.bool dir)]++zU2 b11 b12++[(10,vI ↑k)])) (λ(u:Unit)=>([ic Y Z,gP Y Z,.abs R]++qI b11 Z Y b12)) ?_ ?_
  ·rintro u n2
   refine aq.join (λ(u:Unit)=>(¬(dir=true/\0<(nd Z.ns k).ah.length))) (λ(u:Unit)=>([(1,vI ↑d),(2,.string name)]++zU2 b11 b12)) (λ(u:Unit)=>([ic Y Z,gP Y Z,.abs R]++qI b11 Z Y b12)) ?_ ?_
   ·rintro u n3
    refine SR (jK 3 [56,57,58] [(0,A_ 3 b11 12)] (j3 [0,1] (Cc Z Y hI hD zc d hd name true) ?_))
    rintro β1 _ _ cJ ⟨L1,G1,g1,rfl,rfl,di⟩
    replace aE:=aE.trans cJ
    refine av.cT [0,1] [.abs (aG 95 10 Y.A ((cX Z d name true).ns.length) Y.c (bH L1 (cX Z d name true).ns)),.abs (aG 3 1 G1 ((cX Z d name true).aH.length) g1 (bL (cX Z d name true).aH))] (λkx fA hL=>?_)
    have ux:dz kx (cX Z d name true) ⟨Y.A,Y.c,L1,G1,g1,Y.H,Y.ch,Y.V,Y.cv⟩:=di.at hL
    replace aE:=aE.trans fA
    refine j3 [] (yD (cX Z d name true) ⟨Y.A,Y.c,L1,G1,g1,Y.H,Y.ch,Y.V,Y.cv⟩ ux ((hD.R5 hd).rb zc)) ?_
    rintro vT _ _ kS ⟨Y3,rfl,rfl,mh⟩
    replace aE:=aE.trans kS
    exact jC 2 [9] [(0,A_ 2 b12 12)] [(2,(zC (rV (gn (cX Z d name true)) Y3)))] (eO [A_ 2 b12 12] aE ⟨Y3,by rw [adN hl n1 n2 n3]<;>rfl,rfl,by rw [adN hl n1 n2 n3];exact mh⟩)
   refine SR (jK 2 [44] [] (av.pU 44 dir (λ_=>KB) (λyT=>jK 10 [54] [(2,a_ 3 b11),(4,x_ k Z.ns.length (lM)),(6,v_ 0 (nA Z.ns Y.L Y.A Y.c k 9 hk rfl))] (NN (cP (((((nd Z.ns k).ah.length:Nat):Int):Int)>(0:Int)) (λE7=>SR (jC 3 [9] [(0,A_ 3 b11 12),(1,A_ 4 b12 12)] [(4,(zC (rV Z Y)))] (NN (aq.ret (aB.bE (aB.cT [0,1] [ic Y Z,gP Y Z] (λIi uQ hL=>?_))))))) (λE7=>aq.skip (mJ () [0,1,2,3,4] ((λq=>E7 zc))))))) (λyT=>jK 10 [54] [] (NF (aq.skip (mJ () [0,1,2,3,4] ((λq=>by rw [q.1] at yT;cases yT))))))))
   have fS:dz Ii Z Y:=hI.at hL
   replace aE:=aE.trans uQ
   exact rB (.tuple #[.agg ⟨rV Z Y⟩,vI 178]) [A_ 2 b12 12] [0] aE (⟨Y,by grind [adM],rfl,by grind [adM]⟩)
  refine SR (jK 2 [32] [] (av.pU 32 dir (λ_=>KB) (λsy=>jK 9 [41] [(2,a_ 3 b11),(4,x_ k Z.ns.length (lM)),(6,v_ 0 (nA Z.ns Y.L Y.A Y.c k 1 hk rfl))] (NN (cN (((nd Z.ns k).kind:Int)=(2:Int)) (λAY=>SR (jC 3 [9] [(0,A_ 3 b11 12),(1,A_ 4 b12 12)] [(4,(zC (rV Z Y)))] (NN (aq.ret (aB.bE (aB.cT [0,1] [ic Y Z,gP Y Z] (λE8 qJ hL=>?_))))))) (λAY=>aq.skip (mJ () [0,1,2,3,4] ((λq=>q.2 AY))))))) (λsy=>jK 9 [41] [] (NF (aq.skip (mJ () [0,1,2,3,4] ((λq=>by rw [q.1] at sy;cases sy))))))))
  have fS:dz E8 Z Y:=hI.at hL
  replace aE:=aE.trans qJ
  exact rB _ [A_ 2 b12 12] [0] aE (⟨Y,by rw [adL hl n1 ⟨sy,AY⟩]<;>rfl,rfl,by grind [adL]⟩)
 refine SR (jK 3 [20] [] (av.pU 20 (!dir) (λ_=>KB) (λpu=>jK 9 [29] [(2,a_ 3 b11),(4,x_ k Z.ns.length (lM)),(6,v_ 0 (nA Z.ns Y.L Y.A Y.c k 1 hk rfl))] (NN (cP (((nd Z.ns k).kind:Int)=(2:Int)) (λCV=>SR (jC 3 [9] [(0,A_ 3 b11 12),(1,A_ 4 b12 12)] [(4,(zC (rV Z Y)))] (NN (aq.ret (aB.bE (aB.cT [0,1] [ic Y Z,gP Y Z] (λPn mD hL=>?_))))))) (λCV=>aq.skip (mJ () [0,1,2,3,4] ((λq=>CV q.2))))))) (λpu=>jK 9 [29] [] (NF (aq.skip (mJ () [0,1,2,3,4] ((λq=>by rw [q.1] at pu;cases pu))))))))
 have fS:dz Pn Z Y:=hI.at hL
 replace aE:=aE.trans mD
 exact rB (.tuple #[.agg ⟨rV Z Y⟩,vI 172]) [A_ 2 b12 12] [0] aE (⟨Y,by grind [adK],rfl,by grind [adK]⟩)
noncomputable abbrev zV1 (A1:Option Addr) (Z) (d:Nat) (c:aP) (x:aO) (c1:Nat) (L1):=(.abs (aG 95 10 A1 ((bR Z d c.name x).1.ns.length) c1 (bH L1 (bR Z d c.name x).1.ns)):HP)
noncomputable abbrev zV2 (Y:RL) (Z) (d:Nat) (c:aP) (x:aO):=(.abs (aG 3 1 Y.G ((bR Z d c.name x).1.aH.length) Y.cg (bL (bR Z d c.name x).1.aH)):HP)
noncomputable abbrev zV3 (f:Nat) (name) (to:Nat) (aD) (b1:Nat) (b2:Nat):=([(1,vI ↑f),(2,.string name),(3,vI ↑to),(4,.string aD),(5,vP b1),(10,vP b2)]:Fr)
noncomputable abbrev zV4 (Y:RL) (Z1) (f:Nat) (name) (to:Nat) (aD) (Z:RS) (k:Nat) (L3) (G2) (g2):=([.abs (aG 95 10 Y.A ((dh (cX Z1 f name false) to aD (nd Z.ns k).id).ns.length) Y.c (bH L3 (dh (cX Z1 f name false) to aD (nd Z.ns k).id).ns)),.abs (aG 3 1 G2 ((dh (cX Z1 f name false) to aD (nd Z.ns k).id).aH.length) g2 (bL (dh (cX Z1 f name false) to aD (nd Z.ns k).id).aH))]:List HP)
noncomputable abbrev zV5 (b1:Nat) (Z1:RS) (Y:RL) (G1) (g1) (b2:Nat) (L1):=([.ay b1 (rW Z1 Y.A Y.c G1 g1 Y.H Y.ch Y.V Y.cv) 45,.ay b2 (rZ) 45,.abs (aG 95 10 Y.A Z1.ns.length Y.c (bH L1 Z1.ns)),.abs (aG 3 1 G1 Z1.aH.length g1 (bL Z1.aH))]:List HP)
theorem Me {β:Bs} (Z:RS) (Y:RL) (hI:lV β Z Y.L Y.H Y.V) (hC:RC Z) {n:Nat} (hD:RD n Z) (hn:n<=4) (f:Nat) (hf:f<Z.ns.length) (name:ByteArray) (to:Nat) (d9:to<Z.ns.length) (aD:ByteArray) :
 cr Tryz.prog β 87 #[.agg ⟨rV Z Y⟩,vI (((f:Nat):Int)),.string name,vI (((to:Nat):Int)),.string aD] [ic Y Z,gP Y Z] (λβ' v l=>∃Y',v=.tuple #[.agg ⟨rV ((ia Z f name to aD).1) Y'⟩,vI (ia Z f name to aD).2]/\l=[]/\dz β' (ia Z f name to aD).1 Y'):=by
 refine o8 Tryz.func87 Tryz.ntmps87 (λaE R=>SR (jB 1 [5] (λb1=>.ay b1 (rV Z Y) 45) (λb1=>jB 2 [10] (λb2=>.ay b2 (rZ) 45) (λb2=>NS (jK 3 [16,17,18] [(0,A_ 3 b1 12)] ?_)))))
 rcases kB Z.ns f name with hl|⟨k,hl,hk⟩
 ·refine gE [0,1] ((eU hI (λ_ _ h=>jJ Z Y h hC f hf name)).val (ahg (Value.int .i64) hl)) (jK 1 [12] [] (NZ (jK 2 [21] [] (NT (SR (jC 3 [11] [(0,A_ 3 b1 12),(1,A_ 4 b2 12)] [(4,(zC (rV Z Y)))] (NN (aq.ret (aB.bE (aB.cT [0,1] [ic Y Z,gP Y Z] (λvT kS hL=>?_)))))))))))
  have fS:dz vT Z Y:=hI.at hL
  replace aE:=aE.trans kS
  exact rB _ [A_ 2 b2 12] [0] aE (⟨Y,by rw [adU hl]<;>rfl,rfl,by rw [adU hl];exact fS⟩)
 refine av.r9 0 rfl zc (λlM=>gE [0,1] ((eU hI (λ_ _ h=>jJ Z Y h hC f hf name)).val (ahg (Value.int .i64) hl)) (jK 1 [12] [] (NZ (jK 2 [21] [(1,wF (((k:Int):Int)<(0:Int)))] (NF (KX (SR (jK 9 [13] [(2,a_ 3 b1),(4,x_ k Z.ns.length (lM)),(6,v_ 0 (nA Z.ns Y.L Y.A Y.c k 1 hk rfl))] (NN (aq.join (λ(u:Unit)=>(¬((nd Z.ns k).kind=2/\jF Z.ns k (Z.ns.length+1) to=true))) (λ(u:Unit)=>(zV3 f name to aD b1 b2++[(12,vI ↑k),(13,.bool (decide (((nd Z.ns k).kind:Int)=(2:Int))))])) (λ(u:Unit)=>[ic Y Z,gP Y Z,.abs R,.ay b1 (rV Z Y) 45,.ay b2 (rZ) 45]) ?_ ?_))))))))))
 ·rintro u n1
  refine SR (jK 3 [39,40,41] [(0,A_ 3 b1 12)] ?_)
  rcases kB Z.ns to aD with hl2|⟨t,hl2,ht⟩
  ·refine gE [0,1] ((eU hI (λ_ _ h=>jJ Z Y h hC to d9 aD)).val (ahg (Value.int .i64) hl2)) (jK 1 [14] [] (NS (jK 8 [15] [(2,a_ 3 b1),(4,x_ k Z.ns.length (lM)),(6,v_ 0 (nA Z.ns Y.L Y.A Y.c k 0 hk rfl))] (NZ (jK 3 [52] [] (NN (cP (((-1):Int)=(((k:Nat):Int):Int)) (λyV=>ahh yV (by omega)) (λyV=>KX (aq.aa1 (ι:=Bs×RS×eP×(Option Addr)×Nat) (λ(b,Z1,L1,G1,g1)=>b) (λ(b,Z1,L1,G1,g1)=>(β.le b)/\(lV b Z1 L1 Y.H Y.V)/\(RD (n+1) Z1)/\(Z1.ns.length=Z.ns.length)/\((ia Z f name to aD)=(Bc Z f name to aD k Z1,0))) (λ(b,Z1,L1,G1,g1)=>(zV3 f name to aD b1 b2++[(15,vI ((nd Z.ns k).id))])) (λ(b,Z1,L1,G1,g1)=>(zV5 b1 Z1 Y G1 g1 b2 L1++[.abs R])) ?_ (SR (jK 2 [55] [] (NF (aq.skip (aB.aa2 (β,Z,Y.L,Y.G,Y.cg) rfl (ar:=[1,2,3,4,5,10,15]) (pk:=[3,4,0,1,2]) (⟨aE,hI,(hD.up zc),rfl,afS hl n1 hl2⟩) (λ_=>KB) rfl KB))))))))))))))
   rintro⟨b,Z1,L1,G1,g1⟩ ⟨aE,di,CJ,hz1,WJ⟩
   refine SR (jK 3 [71,72,73] [(0,A_ 0 b1 12)] (j3 [2,3] (Cc Z1 ⟨Y.A,Y.c,L1,G1,g1,Y.H,Y.ch,Y.V,Y.cv⟩ di CJ zc f zc name false) ?_))
   rintro kx _ _ fA ⟨L2,G2,g2,rfl,rfl,WK⟩
   replace aE:=aE.trans fA
   refine jC 1 [] [(0,A_ 2 b1 12)] [(2,(zC (rW (cX Z1 f name false) Y.A Y.c G2 g2 Y.H Y.ch Y.V Y.cv)))] (NS (jK 4 [75,76,77,78] [(0,A_ 2 b1 12)] (j3 [0,1] (Cb (cX Z1 f name false) ⟨Y.A,Y.c,L2,G2,g2,Y.H,Y.ch,Y.V,Y.cv⟩ WK ((CJ.R5 zc).rb zc) to (by rw [vu];omega) aD (nd Z.ns k).id) ?_)))
   rintro vT _ _ kS ⟨L3,rfl,rfl,WL⟩
   replace aE:=aE.trans kS
   refine jC 1 [] [(0,A_ 2 b1 12)] [(2,(zC (rW (dh (cX Z1 f name false) to aD (nd Z.ns k).id) Y.A Y.c G2 g2 Y.H Y.ch Y.V Y.cv)))] (NS (av.cT [0,1] (zV4 Y Z1 f name to aD Z k L3 G2 g2) (λCW kT hL=>?_)))
   have mh:dz CW (dh (cX Z1 f name false) to aD (nd Z.ns k).id) ⟨Y.A,Y.c,L3,G2,g2,Y.H,Y.ch,Y.V,Y.cv⟩:=WL.at hL
   replace aE:=aE.trans kT
   refine jK 1 [80] [(0,A_ 0 b1 12)] (j3 [] (yD (dh (cX Z1 f name false) to aD (nd Z.ns k).id) ⟨Y.A,Y.c,L3,G2,g2,Y.H,Y.ch,Y.V,Y.cv⟩ mh (((CJ.R5 zc).bU (by rw [vu];omega)).rb zc)) ?_)
   rintro E9 _ _ iq ⟨Y5,rfl,rfl,hR5⟩
   replace aE:=aE.trans iq
   exact jC 2 [11] [(0,A_ 1 b2 12)] [(1,(zC (rV (gn (dh (cX Z1 f name false) to aD (nd Z.ns k).id)) Y5)))] (eO [A_ 1 b2 12] aE ⟨Y5,by rw [WJ]<;>rfl,rfl,by rw [WJ];exact hR5⟩ [2])
  refine gE [0,1] ((eU hI (λ_ _ h=>jJ Z Y h hC to d9 aD)).val (ahg (Value.int .i64) hl2)) (jK 1 [14] [] (NS (jK 8 [15] [(2,a_ 3 b1),(4,x_ k Z.ns.length (lM)),(6,v_ 0 (nA Z.ns Y.L Y.A Y.c k 0 hk rfl))] (NZ (jK 3 [52] [] (NN (cP ((((t:Nat):Int):Int)=(((k:Nat):Int):Int)) (λyV=>?_) (λyV=>?_))))))))
  ·refine SR (jC 3 [11] [(0,A_ 3 b1 12),(1,A_ 4 b2 12)] [(4,(zC (rV Z Y)))] (NN (aq.ret (aB.bE (aB.cT [0,1] [ic Y Z,gP Y Z] (λCW kT hL=>?_))))))
   have fS:dz CW Z Y:=hI.at hL
   replace aE:=aE.trans kT
   exact rB (.tuple #[.agg ⟨rV Z Y⟩,vI 0]) [A_ 2 b2 12] [0] aE (⟨Y,by grind [adW],rfl,by grind [adW]⟩)
  refine KX (aq.aa1 (ι:=Bs×RS×eP×(Option Addr)×Nat) (λ(b,Z1,L1,G1,g1)=>b) (λ(b,Z1,L1,G1,g1)=>(β.le b)/\(lV b Z1 L1 Y.H Y.V)/\(RD (n+1) Z1)/\(Z1.ns.length=Z.ns.length)/\((ia Z f name to aD)=(Bc Z f name to aD k Z1,0))) (λ(b,Z1,L1,G1,g1)=>(zV3 f name to aD b1 b2++[(15,vI ((nd Z.ns k).id))])) (λ(b,Z1,L1,G1,g1)=>(zV5 b1 Z1 Y G1 g1 b2 L1++[.abs R])) ?_ ?_)
  ·rintro⟨b,Z1,L1,G1,g1⟩ ⟨aE,di,CJ,hz1,WJ⟩
   refine SR (jK 3 [71,72,73] [(0,A_ 0 b1 12)] (j3 [2,3] (Cc Z1 ⟨Y.A,Y.c,L1,G1,g1,Y.H,Y.ch,Y.V,Y.cv⟩ di CJ zc f zc name false) ?_))
   rintro kx _ _ fA ⟨L2,G2,g2,rfl,rfl,WK⟩
   replace aE:=aE.trans fA
   refine jC 1 [] [(0,A_ 2 b1 12)] [(2,(zC (rW (cX Z1 f name false) Y.A Y.c G2 g2 Y.H Y.ch Y.V Y.cv)))] (NS (jK 4 [75,76,77,78] [(0,A_ 2 b1 12)] (j3 [0,1] (Cb (cX Z1 f name false) ⟨Y.A,Y.c,L2,G2,g2,Y.H,Y.ch,Y.V,Y.cv⟩ WK ((CJ.R5 zc).rb zc) to (by rw [vu];omega) aD (nd Z.ns k).id) ?_)))
   rintro vT _ _ kS ⟨L3,rfl,rfl,WL⟩
   replace aE:=aE.trans kS
   refine jC 1 [] [(0,A_ 2 b1 12)] [(2,(zC (rW (dh (cX Z1 f name false) to aD (nd Z.ns k).id) Y.A Y.c G2 g2 Y.H Y.ch Y.V Y.cv)))] (NS (av.cT [0,1] (zV4 Y Z1 f name to aD Z k L3 G2 g2) (λCW kT hL=>?_)))
   have mh:dz CW (dh (cX Z1 f name false) to aD (nd Z.ns k).id) ⟨Y.A,Y.c,L3,G2,g2,Y.H,Y.ch,Y.V,Y.cv⟩:=WL.at hL
   replace aE:=aE.trans kT
   refine jK 1 [80] [(0,A_ 0 b1 12)] (j3 [] (yD (dh (cX Z1 f name false) to aD (nd Z.ns k).id) ⟨Y.A,Y.c,L3,G2,g2,Y.H,Y.ch,Y.V,Y.cv⟩ mh (((CJ.R5 zc).bU (by rw [vu];omega)).rb zc)) ?_)
   rintro E9 _ _ iq ⟨Y5,rfl,rfl,hR5⟩
   replace aE:=aE.trans iq
   exact jC 2 [11] [(0,A_ 1 b2 12)] [(1,(zC (rV (gn (dh (cX Z1 f name false) to aD (nd Z.ns k).id)) Y5)))] (eO [A_ 1 b2 12] aE ⟨Y5,by rw [WJ]<;>rfl,rfl,by rw [WJ];exact hR5⟩ [2])
  refine SR (jK 2 [55] [(1,wT (((t:Int):Int)>=(0:Int)))] (NT (SQ (jK 8 [63] [(2,a_ 3 b1),(4,x_ t Z.ns.length (lM)),(6,v_ 0 (nA Z.ns Y.L Y.A Y.c t 1 ht rfl))] (NN (cP (((nd Z.ns t).kind:Int)=(2:Int)) (λh63=>?_) (λh63=>?_)))))))
  ·refine SR (jC 3 [11] [(0,A_ 3 b1 12),(1,A_ 4 b2 12)] [(4,(zC (rV Z Y)))] (NN (aq.ret (aB.bE (aB.bE (aB.cT [0,1] [ic Y Z,gP Y Z] (λE9 iq hL=>?_)))))))
   have fS:dz E9 Z Y:=hI.at hL
   replace aE:=aE.trans iq
   exact rB _ [A_ 2 b2 12] [0] aE (⟨Y,by rw [adX hl n1 hl2 yV h63]<;>rfl,rfl,by rw [adX hl n1 hl2 yV h63];exact fS⟩)
  refine KX (SQ (jK 1 [65] [] (NN (cP (((nd Z.ns k).kind:Int)=(2:Int)) (λh65=>?_) (λh65=>?_)))))
  ·refine SR (jC 3 [11] [(0,A_ 3 b1 12),(1,A_ 4 b2 12)] [(4,(zC (rV Z Y)))] (NN (aq.ret (aB.bE (aB.bE (aB.cT [0,1] [ic Y Z,gP Y Z] (λβ6 zM hL=>?_)))))))
   have fS:dz β6 Z Y:=hI.at hL
   replace aE:=aE.trans zM
   exact rB _ [A_ 2 b2 12] [0] aE (⟨Y,by rw [adY hl n1 hl2 yV h63 h65]<;>rfl,rfl,by grind [adY]⟩)
  refine KX (aq.region (jK 3 [67,68,69] [(0,A_ 3 b1 12)] (j3 [0,1] (Cc Z Y hI hD zc to d9 aD true) ?_)))
  rintro β1 _ _ cJ ⟨L1,G1,g1,rfl,rfl,di⟩
  replace aE:=aE.trans cJ
  exact jC 1 [] [(0,A_ 3 b1 12)] [(3,(zC (rW (cX Z to aD true) Y.A Y.c G1 g1 Y.H Y.ch Y.V Y.cv)))] (NL (aB.aa2 (β1,(cX Z to aD true),L1,G1,g1) rfl (ar:=[1,2,3,4,5,10,15]) (pk:=[3,4,0,1,2]) (⟨aE,di,hD.R5 d9,vu,afT hl n1 hl2 yV h63 h65⟩) (λ_=>KB) rfl KB))
 refine SR (jK 2 [32] [] (sP 32 (((nd Z.ns k).kind:Int)=(2:Int)) (λsy=>jK 3 [33,34,35] [(0,A_ 3 b1 12)] (gE [0,1] (eU hI (λ_ _ h=>Wq Z Y h hC.toRB to k d9)) (jK 1 [37] [] (NN (aq.cond (b:=(jF Z.ns k (Z.ns.length+1) to)) (λ_=>KB) (λyU=>SR (jC 3 [11] [(0,A_ 3 b1 12),(1,A_ 4 b2 12)] [(4,(zC (rV Z Y)))] (NN (aq.ret (aB.bE (aB.cT [0,1] [ic Y Z,gP Y Z] (λJX kU hL=>?_))))))) (λyU=>aq.skip (mJ () [0,1,2,3,4] ((λq=>by rw [q.2] at yU;cases yU))))))))) (λsy=>jK 5 [37] [] (NF (aq.skip (mJ () [0,1,2,3,4] ((λq=>sy q.1))))))))
 have fS:dz JX Z Y:=hI.at hL
 replace aE:=aE.trans kU
 exact rB _ [A_ 2 b2 12] [0] aE (⟨Y,by rw [adV hl ⟨sy,yU⟩]<;>rfl,rfl,by rw [adV hl ⟨sy,yU⟩];exact fS⟩)
theorem Mf {β:Bs} (Z:RS) (Y:RL) (hI:lV β Z Y.L Y.H Y.V) (hC:RC Z) (c:aP) (hn:c.name.size<=1048576) (want:Int) :
 cr Tryz.prog β 78 #[.agg ⟨rV Z Y⟩,.agg ⟨aL c⟩,vI (want)] [ic Y Z,gP Y Z] (λβ' v l=>∃Y',v=.tuple #[.agg ⟨rV ((jl Z c want).1) Y'⟩,vI (jl Z c want).2.1,vI (jl Z c want).2.2]/\l=[]/\dz β' (jl Z c want).1 Y'):=by
 refine o8 Tryz.func78 Tryz.ntmps78 (λaE R=>SR (jB 1 [3] (λb8=>.ay b8 (rV Z Y) 45) (λb8=>jB 1 [4] (λb9=>.ay b9 (aL c) 53) (λb9=>jB 3 [6] (λb10=>.ay b10 (rZ) 45) (λb10=>NS (jK 5 [14,16,18] [(0,A_ 3 b8 12),(2,a_ 4 b9),(4,a_ 4 b9)] ?_))))))
 rcases rJ hC c.aN c.name 64 with ⟨e,h1,E5⟩|⟨d,h1,hd⟩
 ·refine gE [0,1] ((eU hI (λ_ _ h=>o4 Z Y h hC c.aN c.name hn 64)).val (ahg exV h1)) (jK 5 [9,10] [] (NZ (jK 2 [23] [(1,Nt ((e:Int)=(0:Int)) E5)] (NT (SR (jC 5 [7,8] [(0,A_ 3 b8 12),(2,A_ 5 b10 12)] [(5,(zC (rV Z Y)))] (NN (aq.ret (aB.bE (aB.cT [0,1] [ic Y Z,gP Y Z] (λIj pQ hL=>?_)))))))))))
  have fS:dz Ij Z Y:=hI.at hL
  replace aE:=aE.trans pQ
  exact rB _ [A_ 3 b10 12] [0] aE (⟨Y,by rw [adO h1]<;>rfl,rfl,by rw [adO h1];exact fS⟩)
 refine gE [0,1] ((eU hI (λ_ _ h=>o4 Z Y h hC c.aN c.name hn 64)).val (ahg exV h1)) (jK 5 [9,10] [] (NZ (jK 2 [23] [(1,w_ (.bool false) rfl)] (NF (KX (SR (jK 4 [26,27,29] [(0,A_ 3 b8 12),(3,a_ 4 b9)] ?_)))))))
 rcases kB Z.ns d c.name with hl|⟨k,hl,hk⟩
 ·refine gE [0,1] ((eU hI (λ_ _ h=>jJ Z Y h hC d hd c.name)).val (ahg (Value.int .i64) hl)) (jK 1 [11] [] (NZ (jK 2 [32] [] (NT (SR (jC 4 [7,8] [(0,A_ 3 b8 12),(1,A_ 5 b10 12)] [(5,(zC (rV Z Y)))] (NN (aq.ret (aB.bE (aB.cT [0,1] [ic Y Z,gP Y Z] (λDK kF hL=>?_)))))))))))
  have fS:dz DK Z Y:=hI.at hL
  replace aE:=aE.trans kF
  exact rB _ [A_ 3 b10 12] [0] aE (⟨Y,by rw [adP h1 hl]<;>rfl,rfl,by rw [adP h1 hl];exact fS⟩)
 refine av.r9 0 rfl zc (λlM=>gE [0,1] ((eU hI (λ_ _ h=>jJ Z Y h hC d hd c.name)).val (ahg (Value.int .i64) hl)) (jK 1 [11] [] (NZ (jK 2 [32] [(1,wF (((k:Int):Int)<(0:Int)))] (NF (KX (SR (jK 8 [12] [(2,a_ 3 b8),(4,x_ k Z.ns.length (lM)),(6,v_ 0 (nA Z.ns Y.L Y.A Y.c k 1 hk rfl))] (NZ (jK 2 [42] [] (NN (cP (((nd Z.ns k).kind:Int)=(3:Int)) (λkQ=>?_) (λkQ=>?_)))))))))))))
 ·refine SR (jC 4 [7,8] [(0,A_ 3 b8 12),(1,A_ 5 b10 12)] [(5,(zC (rV Z Y)))] (NN (aq.ret (aB.bE (aB.cT [0,1] [ic Y Z,gP Y Z] (λIh uP hL=>?_))))))
  have fS:dz Ih Z Y:=hI.at hL
  replace aE:=aE.trans uP
  exact rB _ [A_ 3 b10 12] [0] aE (⟨Y,by rw [adQ h1 hl kQ]<;>rfl,rfl,by rw [adQ h1 hl kQ];exact fS⟩)
 refine KX (SQ (jK 3 [46] [] (NN (cN (((nd Z.ns k).kind:Int)=(want:Int)) (λh46=>?_) (λh46=>?_)))))
 ·refine SQ (jK 2 [48] [] (NN (cP (((nd Z.ns k).kind:Int)=(1:Int)) (λh48=>?_) (λh48=>?_))))
  ·refine SR (jC 4 [7,8] [(0,A_ 3 b8 12),(1,A_ 5 b10 12)] [(5,(zC (rV Z Y)))] (NN (aq.ret (aB.bE (aB.bE (aB.cT [0,1] [ic Y Z,gP Y Z] (λIi uQ hL=>?_)))))))
   have fS:dz Ii Z Y:=hI.at hL
   replace aE:=aE.trans uQ
   exact rB _ [A_ 3 b10 12] [0] aE (⟨Y,by rw [adR h1 hl kQ h46 h48]<;>rfl,rfl,by rw [adR h1 hl kQ h46 h48];exact fS⟩)
  refine KX (SR (jC 4 [7,8] [(0,A_ 3 b8 12),(1,A_ 5 b10 12)] [(5,(zC (rV Z Y)))] (NN (aq.ret (aB.bE (aB.cT [0,1] [ic Y Z,gP Y Z] (λE8 qJ hL=>?_)))))))
  have fS:dz E8 Z Y:=hI.at hL
  replace aE:=aE.trans qJ
  exact rB _ [A_ 3 b10 12] [0] aE (⟨Y,by rw [adS h1 hl kQ h46 h48]<;>rfl,rfl,by rw [adS h1 hl kQ h46 h48];exact fS⟩)
 refine KX (SR (jK 2 [51,52] [(0,A_ 3 b8 12)] (av.cT [0,1] [ic Y Z,gP Y Z] (λβ1 cJ hL=>?_))))
 have ux:dz β1 Z Y:=hI.at hL
 replace aE:=aE.trans cJ
 refine j3 [] (Ia Z Y ux hC.ru k hk) ?_
 rintro kx _ _ fA ⟨Y3,rfl,rfl,mh⟩
 replace aE:=aE.trans fA
 exact jC 6 [7,8] [(3,A_ 3 b10 12)] [(3,(zC (rV ((kY Z k).1) Y3)))] (eO [A_ 3 b10 12] aE ⟨Y3,by rw [adT h1 hl kQ h46]<;>rfl,rfl,by rw [adT h1 hl kQ h46];exact mh⟩)
theorem T7 {β:Bs} (Z:RS) (Y:RL) (hI:lV β Z Y.L Y.H Y.V) (hC:RC Z) {n:Nat} (hD:RD n Z) (hn:n<=7) (c:aP) (vU:c.text.size<=1048576) (d:Nat) (hd:d<Z.ns.length) :
 cr Tryz.prog β 79 #[.agg ⟨rV Z Y⟩,.agg ⟨aL c⟩,vI (((d:Nat):Int))] [ic Y Z,gP Y Z] (λβ' v l=>∃Y',v=.tuple #[.agg ⟨rV ((iI Z c d).1) Y'⟩,vI (iI Z c d).2.1,vI (iI Z c d).2.2]/\l=[]/\dz β' (iI Z c d).1 Y'):=by
 refine o8 Tryz.func79 Tryz.ntmps79 (λaE R=>SR (jB 1 [3] (λb16=>.ay b16 (rV Z Y) 45) (λb16=>jB 1 [4] (λb17=>.ay b17 (aL c) 53) (λb17=>jB 3 [6] (λb18=>.ay b18 (rZ) 45) (λb18=>NN (aq.seq (aq.seq ?_)))))))
 by_cases n8:c.op=8\/c.op=14
 ·refine aq.region (jK 4 [17] [(1,a_ 4 b17),(2,w_ (.bool (decide ((c.op:Int)=(8:Int)))) rfl)] (sP 17 ((c.op:Int)=(8:Int)) (λEt=>?_) (λEt=>?_)))
  ·refine jK 4 [21] [] (NT (SR (jK 7 [23,24,26,29] [(0,A_ 3 b16 12),(3,a_ 4 b17),(5,a_ 4 b17)] (j3 [0,1] (Cd Z Y hI hC hD zc d hd c.name (decide (c.op=14))) ?_))))
   rintro β1 _ _ cJ ⟨Y3,rfl,rfl,mh⟩
   replace aE:=aE.trans cJ
   exact jN 6 [9,10] (λb19=>[(4,A_ 4 b19 12)]) (λ_=>[]) (λb19=>.ay b19 (rV ((iH Z d c.name (decide (c.op=14))).1) Y3) 45) (λb19=>NS (jC 5 [7,8] [(0,A_ 4 b19 12),(2,A_ 3 b18 12)] [(3,(zC (rV ((iH Z d c.name (decide (c.op=14))).1) Y3)))] (eO [A_ 3 b18 12] aE ⟨Y3,by rw [T6 n8]<;>rfl,rfl,by rw [T6 n8];exact mh⟩)))
  refine jK 4 [21] [(1,a_ 4 b17),(2,w_ (.bool (decide ((c.op:Int)=(14:Int)))) rfl)] (NN (cP ((c.op:Int)=(14:Int)) (λsF=>SR (jK 7 [23,24,26,29] [(0,A_ 3 b16 12),(3,a_ 4 b17),(5,a_ 4 b17)] (j3 [0,1] (Cd Z Y hI hC hD zc d hd c.name (decide (c.op=14))) ?_))) (λsF=>ahh n8 (by omega))))
  rintro β1 _ _ cJ ⟨Y3,rfl,rfl,mh⟩
  replace aE:=aE.trans cJ
  exact jN 6 [9,10] (λb20=>[(4,A_ 4 b20 12)]) (λ_=>[]) (λb20=>.ay b20 (rV ((iH Z d c.name (decide (c.op=14))).1) Y3) 45) (λb20=>NS (jC 5 [7,8] [(0,A_ 4 b20 12),(2,A_ 3 b18 12)] [(3,(zC (rV ((iH Z d c.name (decide (c.op=14))).1) Y3)))] (eO [A_ 3 b18 12] aE ⟨Y3,by rw [T6 n8]<;>rfl,rfl,by rw [T6 n8];exact mh⟩)))
 refine aq.region (jK 8 [21] [(1,a_ 4 b17),(2,wF ((c.op:Int)=(8:Int))),(5,a_ 4 b17),(6,wF ((c.op:Int)=(14:Int)))] (NF (KX (SR (jN 5 [11] (λyH=>[(1,a_ 4 b17),(4,A_ 6 yH 10)]) (λ_=>[]) (λyH=>.ay yH [vI 0,vI 3,vI 511,vI 0,vI 0,vI 0,vI 0,.slice none (0) (0),.string c.text,.slice none (0) (0)] 95) (λyH=>NN (aq.join (λ(x:aO)=>(x.data=[]/\x.ah=[]/\x.target.size<=1048576)/\((iI Z c d)=Ie Z c d x)) (λ(x:aO)=>[(2,vI ↑d),(3,vP b16),(4,vP b17),(6,vP b18),(11,vP yH)]) (λ(x:aO)=>[.ay b16 (rV Z Y) 45,pC b17 c,.ay b18 (rZ) 45,.ay yH [vI (x.id),vI (x.kind),vI (x.mode),vI (x.bg),vI (x.bh),vI (x.aU),vI (x.aJ),.slice none (0) (0),.string x.target,.slice none (0) (0)] 95,ic Y Z,gP Y Z,.abs R]) ?_ ?_)))))))
 ·rintro x ⟨hx,hch⟩
  refine SR (jK 5 [54,55,57,58] [(0,A_ 0 b16 12),(3,a_ 1 b17),(4,A_ 3 yH 10)] (j3 [4,5] (yG Z Y hI hC hD zc d hd c.name x hx.1 hx.2.1 hx.2.2) ?_))
  rintro β1 _ _ cJ ⟨A1,c1,L1,rfl,rfl,di,_⟩
  replace aE:=aE.trans cJ
  refine jN 6 [12,13] (λmR=>[(4,A_ 7 mR 12)]) (λ_=>[]) (λmR=>.ay mR (rW ((bR Z d c.name x).1) A1 c1 Y.G Y.cg Y.H Y.ch Y.V Y.cv) 45) (λmR=>NN (aq.seq (aq.seq ?_)))
  by_cases iU:(bR Z d c.name x).2=0/\c.op=5
  ·obtain⟨hm0,hm5⟩:=iU
   have hml:=WC hm0
   have hbz:=hD.ns
   refine aq.region (jK 7 [68] [(1,wNT (((bR Z d c.name x).2:Int)=(0:Int)) hm0),(4,a_ 3 b17),(5,wNT ((c.op:Int)=(5:Int)) hm5)] (NF (KX (SR (jK 6 [71,76] [(0,A_ 7 mR 12),(3,a_ 7 mR),(5,wJ ((((bR Z d c.name x).1.ns.length:Nat):Int)-1) (↑((bR Z d c.name x).1.ns.length-1)))] (av.cT [0,1] [zV1 A1 Z d c x c1 L1,zV2 Y Z d c x] (λkx fA hL=>?_)))))))
   have ux:dz kx (bR Z d c.name x).1 ⟨A1,c1,L1,Y.G,Y.cg,Y.H,Y.ch,Y.V,Y.cv⟩:=di.at hL
   replace aE:=aE.trans fA
   refine j3 [] (Ia (bR Z d c.name x).1 ⟨A1,c1,L1,Y.G,Y.cg,Y.H,Y.ch,Y.V,Y.cv⟩ ux (hC.ru.same afc) ((bR Z d c.name x).1.ns.length-1) (by have:=WC hm0;omega)) ?_
   rintro vT _ _ kS ⟨Y3,rfl,rfl,mh⟩
   replace aE:=aE.trans kS
   exact jC 6 [7,8] [(3,A_ 2 b18 12)] [(2,(zC (rV ((kY (bR Z d c.name x).1 ((bR Z d c.name x).1.ns.length-1)).1) Y3)))] (eO [A_ 2 b18 12] aE ⟨Y3,by rw [hch,Si hm0 hm5]<;>rfl,rfl,by rw [hch,Si hm0 hm5];exact mh⟩ [4])
  refine aq.region (jK 3 [64] [(1,w_ (.bool (!(decide (((bR Z d c.name x).2:Int)=(0:Int))))) rfl)] (sN 64 (((bR Z d c.name x).2:Int)=(0:Int)) (λWM=>?_) (λWM=>?_)))
  ·refine jK 4 [68] [] (NT (SR (jC 5 [7,8] [(0,A_ 7 mR 12),(2,A_ 4 b18 12)] [(4,(zC (rW ((bR Z d c.name x).1) A1 c1 Y.G Y.cg Y.H Y.ch Y.V Y.cv)))] (NN (aq.ret (aB.bE (aB.cT [0,1] [zV1 A1 Z d c x c1 L1,zV2 Y Z d c x] (λafX Zv hL=>?_))))))))
   have fS:dz afX (bR Z d c.name x).1 ⟨A1,c1,L1,Y.G,Y.cg,Y.H,Y.ch,Y.V,Y.cv⟩:=di.at hL
   replace aE:=aE.trans Zv
   exact rB _ [A_ 2 b18 12] [4] aE (⟨⟨A1,c1,L1,Y.G,Y.cg,Y.H,Y.ch,Y.V,Y.cv⟩,by rw [hch,JV iU]<;>rfl,rfl,by rw [hch,JV iU];exact fS⟩)
  refine jK 4 [68] [(1,a_ 3 b17),(2,w_ (.bool (!(decide ((c.op:Int)=(5:Int))))) rfl)] (NN (cN ((c.op:Int)=(5:Int)) (λh68=>SR (jC 5 [7,8] [(0,A_ 7 mR 12),(2,A_ 4 b18 12)] [(4,(zC (rW ((bR Z d c.name x).1) A1 c1 Y.G Y.cg Y.H Y.ch Y.V Y.cv)))] (NN (aq.ret (aB.bE (aB.cT [0,1] [zV1 A1 Z d c x c1 L1,zV2 Y Z d c x] (λT8 tv hL=>?_))))))) (λh68=>ahh ⟨zc,zc⟩ iU)))
  have fS:dz T8 (bR Z d c.name x).1 ⟨A1,c1,L1,Y.G,Y.cg,Y.H,Y.ch,Y.V,Y.cv⟩:=di.at hL
  replace aE:=aE.trans tv
  exact rB _ [A_ 2 b18 12] [4] aE (⟨⟨A1,c1,L1,Y.G,Y.cg,Y.H,Y.ch,Y.V,Y.cv⟩,by rw [hch,JV iU]<;>rfl,rfl,by rw [hch,JV iU];exact fS⟩)
 refine SR (jK 3 [40] [(1,a_ 4 b17)] (NN (cN ((c.op:Int)=(6:Int)) (λuj=>SQ (jK 2 [42] [(1,a_ 4 b17)] (gE [] (Pk c.mode) (jK 1 [44] [] (NN (cN (jV c.mode) (λyT=>SR (jC 4 [7,8] [(0,A_ 3 b16 12),(1,A_ 5 b18 12)] [(5,(zC (rV Z Y)))] (NN (aq.ret (aB.bE (aB.bE (aB.cT [0,1] [ic Y Z,gP Y Z] (λad4 Ik hL=>?_)))))))) (λyT=>KX (SR (jC 4 [] [(1,a_ 4 b17),(3,A_ 6 yH 10)] [(6,[(1,vI 2),(2,vI (c.mode)),(8,.string ⟨#[]⟩)])] (NS (jK 3 [51] [(1,a_ 4 b17)] (NN (cP ((c.op:Int)=(5:Int)) (λxR=>aq.region (jC 2 [] [(1,a_ 6 yH)] [(6,[(1,vI 1)])] (NL (mJ ((⟨0,1,c.mode,0,0,0,0,[],⟨#[]⟩,[]⟩:aO)) [3,4,5,6,0,1,2] (⟨⟨rfl,rfl,ahj _⟩,afV n8 uj yT zc⟩))))) (λxR=>aq.skip (mJ ((⟨0,2,c.mode,0,0,0,0,[],⟨#[]⟩,[]⟩:aO)) [3,4,5,6,0,1,2] (⟨⟨rfl,rfl,ahj _⟩,afW n8 uj yT xR⟩)))))))))))))))) (λuj=>aq.skip (mJ ((⟨0,3,511,0,0,0,0,[],c.text,[]⟩:aO)) [3,4,5,6,0,1,2] (⟨⟨rfl,rfl,vU⟩,afU n8 zc⟩))))))
 have fS:dz ad4 Z Y:=hI.at hL
 replace aE:=aE.trans Ik
 exact rB _ [A_ 3 b18 12] [0] aE (⟨Y,by rw [adZ n8 uj yT]<;>rfl,rfl,by rw [adZ n8 uj yT];exact fS⟩)
theorem Zw {β:Bs} (Z:RS) (Y:RL) (hI:lV β Z Y.L Y.H Y.V) (hC:RC Z) (c:aP) :
 cr Tryz.prog β 84 #[.agg ⟨rV Z Y⟩,.agg ⟨aL c⟩] [ic Y Z,gP Y Z] (λβ' v l=>∃Y',v=.tuple #[.agg ⟨rV ((mq Z c).1) Y'⟩,vI (mq Z c).2.1,vI (mq Z c).2.2]/\l=[]/\dz β' (mq Z c).1 Y'):=by
 refine o8 Tryz.func84 Tryz.ntmps84 (λaE R=>SR (jB 1 [2] (λp8=>.ay p8 (rV Z Y) 45) (λp8=>jB 1 [3] (λuy=>.ay uy (aL c) 53) (λuy=>jB 3 [4] (λjf=>.ay jf (rZ) 45) (λjf=>NS (jK 3 [10,12] [(0,A_ 3 p8 12),(2,a_ 4 uy)] ?_))))))
 rcases tT hC c.aN with hh|⟨k,hh,hk⟩
 ·refine gE [0,1] ((eU hI (λ_ _ h=>tu Z Y h hC c.aN)).val (ahg exV hh)) (jK 5 [7,8] [] (NZ (jK 2 [17] [] (NT (SR (jC 5 [5,6] [(0,A_ 3 p8 12),(2,A_ 5 jf 12)] [(5,(zC (rV Z Y)))] (NN (aq.ret (aB.bE (aB.cT [0,1] [ic Y Z,gP Y Z] (λafY Zx hL=>?_)))))))))))
  have fS:dz afY Z Y:=hI.at hL
  replace aE:=aE.trans Zx
  exact rB _ [A_ 3 jf 12] [0] aE (⟨Y,by rw [Wx hh]<;>rfl,rfl,by rw [Wx hh];exact fS⟩)
 refine av.r9 0 rfl zc (λlM=>gE [0,1] ((eU hI (λ_ _ h=>tu Z Y h hC c.aN)).val (ahg exV hh)) (jK 5 [7,8] [] (NZ (jK 2 [17] [] (NF (KX (aq.join (λ(u:Unit)=>(¬((nd Z.ns k).kind=2/\(nd Z.ns k).id∈Z.aH))) (λ(u:Unit)=>[(2,vP p8),(3,vP uy),(4,vP jf),(7,vI ↑k)]) (λ(u:Unit)=>[ic Y Z,gP Y Z,.abs R,.ay p8 (rV Z Y) 45,pC uy c,.ay jf (rZ) 45]) ?_ ?_)))))))
 ·rintro u n1
  refine SQ (jK 2 [41] [(1,a_ 4 uy)] (gE [] (Pk c.mode) (jK 1 [43] [] (NN (cN (jV c.mode) (λkQ=>?_) (λkQ=>?_))))))
  ·refine SR (jC 4 [5,6] [(0,A_ 3 p8 12),(1,A_ 5 jf 12)] [(5,(zC (rV Z Y)))] (NN (aq.ret (aB.bE (aB.cT [0,1] [ic Y Z,gP Y Z] (λafZ Zy hL=>?_))))))
   have fS:dz afZ Z Y:=hI.at hL
   replace aE:=aE.trans Zy
   exact rB _ [A_ 3 jf 12] [0] aE (⟨Y,by rw [Wz hh n1 kQ]<;>rfl,rfl,by rw [Wz hh n1 kQ];exact fS⟩)
  refine KX (aq.seq (aq.seq ?_))
  by_cases kD:qu c.bg/\qu c.bh
  ·have hw1:=kD.1.1
   have hw2:=kD.1.2
   have hw3:=kD.2.1
   have hw4:=kD.2.2
   refine aq.region (jK 18 [62] [(1,a_ 4 uy),(2,wF ((c.bg:Int)<(0:Int))),(5,a_ 4 uy),(6,wF ((c.bg:Int)>(2147483647:Int))),(10,a_ 4 uy),(11,wF ((c.bh:Int)<(0:Int))),(15,a_ 4 uy),(16,wF ((c.bh:Int)>(2147483647:Int)))] (NF (KX (SQ (jK 2 [65] [(1,A_ 4 uy 2)] (gE [] (Cv c.aU c.aJ) (jK 1 [67] [] (NN (cN (gj c.aU c.aJ) (λI3=>?_) (λI3=>?_))))))))))
   ·refine SR (jC 4 [5,6] [(0,A_ 3 p8 12),(1,A_ 5 jf 12)] [(5,(zC (rV Z Y)))] (NN (aq.ret (aB.bE (aB.cT [0,1] [ic Y Z,gP Y Z] (λT9 Il hL=>?_))))))
    have fS:dz T9 Z Y:=hI.at hL
    replace aE:=aE.trans Il
    exact rB _ [A_ 3 jf 12] [0] aE (⟨Y,by rw [WA hh n1 kQ kD I3]<;>rfl,rfl,by grind [WA]⟩)
   refine KX (SR (jK 8 [74,76] [(2,a_ 3 p8),(5,a_ 4 uy),(6,x_ k Z.ns.length (lM))] (av.zJ 0 (k*10+2) (d:=none) (T:=3) (e:=95) (size:=10) (n:=Z.ns.length) (cap:=Y.c) (A:=Y.A) (xs:=(bH Y.L Z.ns)) (u:=.int .i64 (c.mode)) (a:=(.tmp 76)) (y:=(.tmp 74)) (λ_=>KB) KB (λ_=>KB) (λ_=>KB) KB rfl zc (by rw [nZ];omega) (NS (jK 8 [82,84] [(2,a_ 3 p8),(5,a_ 4 uy),(6,x_ k Z.ns.length (lM))] (av.zJ 0 (k*10+3) (d:=none) (T:=3) (e:=95) (size:=10) (n:=Z.ns.length) (cap:=Y.c) (A:=Y.A) (xs:=((bH Y.L Z.ns).set (k*10+2) (.int .i64 (c.mode)))) (u:=.int .i64 (c.bg)) (a:=(.tmp 84)) (y:=(.tmp 82)) (λ_=>KB) KB (λ_=>KB) (λ_=>KB) KB rfl zc (by rw [ahp,nZ];omega) (NS (jK 8 [90,92] [(2,a_ 3 p8),(5,a_ 4 uy),(6,x_ k Z.ns.length (lM))] (av.zJ 0 (k*10+4) (d:=none) (T:=3) (e:=95) (size:=10) (n:=Z.ns.length) (cap:=Y.c) (A:=Y.A) (xs:=(((bH Y.L Z.ns).set (k*10+2) (.int .i64 (c.mode))).set (k*10+3) (.int .i64 (c.bg)))) (u:=.int .i64 (c.bh)) (a:=(.tmp 92)) (y:=(.tmp 90)) (λ_=>KB) KB (λ_=>KB) (λ_=>KB) KB rfl zc (by rw [ahp,ahp,nZ];omega) (NS (jK 8 [98,100] [(2,a_ 3 p8),(5,A_ 4 uy 2),(6,x_ k Z.ns.length (lM))] (av.DB 0 (k*10+5) (d:=none) (T:=26) (e:=95) (size:=10) (n:=Z.ns.length) (cap:=Y.c) (A:=Y.A) (xs:=((((bH Y.L Z.ns).set (k*10+2) (.int .i64 (c.mode))).set (k*10+3) (.int .i64 (c.bg))).set (k*10+4) (.int .i64 (c.bh)))) (u:=.int .i64 (c.aU)) (u2:=.int .i64 (c.aJ)) (a:=(.tmp 100)) (y:=(.tmp 98)) (λ_=>KB) KB (λ_=>KB) (λ_=>KB) KB rfl rfl zc (by rw [ahp,ahp,ahp,nZ];omega) (av.cO 0 rfl (Zr hk) (NS (jC 4 [5,6] [(0,A_ 3 p8 12),(1,A_ 5 jf 12)] [(5,(zC (rV Z Y)))] (NN (aq.ret (aB.cT [0,1] [.abs (aG 95 10 Y.A ((zu Z k c).ns.length) Y.c (bH Y.L (zu Z k c).ns)),gP Y Z] (λaf0 Zz hL=>?_)))))))))))))))))))
   have fS:dz af0 (zu Z k c) Y:=(hI.meta hk).at hL
   replace aE:=aE.trans Zz
   exact rB (.tuple #[.agg ⟨rV Z Y⟩,vI 0,vI 0]) [A_ 3 jf 12] [0] aE (⟨Y,by simp only [rV];rw [WB hh n1 kQ kD I3];show _=_;rw [Ic]<;>rfl,rfl,by grind [WB]⟩)
  refine aq.region (jK 4 [48] [(1,a_ 4 uy),(2,w_ (.bool (decide ((c.bg:Int)<(0:Int)))) rfl)] (sP 48 ((c.bg:Int)<(0:Int)) (λh48=>?_) (λh48=>?_)))
  ·refine jK 14 [62] [] (NT (SR (jC 4 [5,6] [(0,A_ 3 p8 12),(1,A_ 5 jf 12)] [(5,(zC (rV Z Y)))] (NN (aq.ret (aB.bE (aB.cT [0,1] [ic Y Z,gP Y Z] (λad5 Im hL=>?_))))))))
   have fS:dz ad5 Z Y:=hI.at hL
   replace aE:=aE.trans Im
   exact rB _ [A_ 3 jf 12] [0] aE (⟨Y,by rw [yE hh n1 kQ kD]<;>rfl,rfl,by rw [yE hh n1 kQ kD];exact fS⟩)
  refine jK 5 [53] [(1,a_ 4 uy),(2,w_ (.bool (decide ((c.bg:Int)>(2147483647:Int)))) rfl)] (sP 53 ((c.bg:Int)>(2147483647:Int)) (λLw=>?_) (λLw=>?_))
  ·refine jK 9 [62] [] (NT (SR (jC 4 [5,6] [(0,A_ 3 p8 12),(1,A_ 5 jf 12)] [(5,(zC (rV Z Y)))] (NN (aq.ret (aB.bE (aB.cT [0,1] [ic Y Z,gP Y Z] (λaf2 ZA hL=>?_))))))))
   have fS:dz af2 Z Y:=hI.at hL
   replace aE:=aE.trans ZA
   exact rB _ [A_ 3 jf 12] [0] aE (⟨Y,by rw [yE hh n1 kQ kD]<;>rfl,rfl,by rw [yE hh n1 kQ kD];exact fS⟩)
  refine jK 5 [58] [(1,a_ 4 uy),(2,w_ (.bool (decide ((c.bh:Int)<(0:Int)))) rfl)] (sP 58 ((c.bh:Int)<(0:Int)) (λMg=>?_) (λMg=>?_))
  ·refine jK 4 [62] [] (NT (SR (jC 4 [5,6] [(0,A_ 3 p8 12),(1,A_ 5 jf 12)] [(5,(zC (rV Z Y)))] (NN (aq.ret (aB.bE (aB.cT [0,1] [ic Y Z,gP Y Z] (λaf3 ZB hL=>?_))))))))
   have fS:dz af3 Z Y:=hI.at hL
   replace aE:=aE.trans ZB
   exact rB _ [A_ 3 jf 12] [0] aE (⟨Y,by rw [yE hh n1 kQ kD]<;>rfl,rfl,by rw [yE hh n1 kQ kD];exact fS⟩)
  refine jK 4 [62] [(1,a_ 4 uy),(2,w_ (.bool (decide ((c.bh:Int)>(2147483647:Int)))) rfl)] (NN (cP ((c.bh:Int)>(2147483647:Int)) (λGu=>SR (jC 4 [5,6] [(0,A_ 3 p8 12),(1,A_ 5 jf 12)] [(5,(zC (rV Z Y)))] (NN (aq.ret (aB.bE (aB.cT [0,1] [ic Y Z,gP Y Z] (λaf4 ZC hL=>?_))))))) (λGu=>ahh ⟨⟨zc,zc⟩,⟨zc,zc⟩⟩ kD)))
  have fS:dz af4 Z Y:=hI.at hL
  replace aE:=aE.trans ZC
  exact rB _ [A_ 3 jf 12] [0] aE (⟨Y,by rw [yE hh n1 kQ kD]<;>rfl,rfl,by rw [yE hh n1 kQ kD];exact fS⟩)
 refine aq.seq ?_
 by_cases hk2:(nd Z.ns k).kind=2
 ·refine jM [0,1,2,3,4,5,6,7,8,9,10,11,12,13,14,15,16,517,518] [3,0] (jG 17 [2,3,4,7,28,29,36] [(2,a_ 0 p8),(4,x_ k Z.ns.length (lM)),(6,v_ 1 (nA Z.ns Y.L Y.A Y.c k 1 hk rfl)),(7,wT (((nd Z.ns k).kind:Int)=(2:Int)) hk2),(9,A_ 0 p8 12),(12,a_ 0 p8),(14,x_ k Z.ns.length (lM)),(16,v_ 1 (nA Z.ns Y.L Y.A Y.c k 0 hk rfl))] (kL [3,0] [0,1] (eU hI (λ_ _ h=>wR Z Y h hC.toRB (nd Z.ns k).id)) ?_ (by rintro _ _ ⟨rfl,rfl⟩;kernel_rfl)))
  rintro _ _ ⟨rfl,rfl⟩
  refine fF.last KB (jK 1 [38] [] (NL (aB.np (NX (cP ((nd Z.ns k).id∈Z.aH) (λEw=>SR (jC 4 [5,6] [(0,A_ 3 p8 12),(1,A_ 5 jf 12)] [(5,(zC (rV Z Y)))] (NN (aq.ret (aB.bE (aB.cT [0,1] [ic Y Z,gP Y Z] (λaf5 ZE hL=>?_))))))) (λEw=>aq.skip (mJ () [0,1,2,3,4,5] ((λq=>Ew q.2)))))))))
  have fS:dz af5 Z Y:=hI.at hL
  replace aE:=aE.trans ZE
  exact rB _ [A_ 3 jf 12] [0] aE (⟨Y,by rw [Wy hh ⟨hk2,Ew⟩]<;>rfl,rfl,by grind [Wy]⟩)
 refine jM [0,1,2,3,4,5,6,7,8,9,10,11,12,13,14,15,16,517,518] [3,0] (jG 17 [2,3,4,7,28,29,36] [(2,a_ 0 p8),(4,x_ k Z.ns.length (lM)),(6,v_ 1 (nA Z.ns Y.L Y.A Y.c k 1 hk rfl)),(7,wF (((nd Z.ns k).kind:Int)=(2:Int)) hk2)] (fF.cut (ι:=Unit) (bY:=λ(_:Unit)=>[(2,vP p8),(3,vP uy),(4,vP jf),(7,vI ↑k),(28,.bool false),(37,undef)]) (dK:=λ(_:Unit)=>[ic Y Z,gP Y Z,.abs R,.ay p8 (rV Z Y) 45,.ay uy (aL c) 53,.ay jf (rZ) 45]) [3,0] KB ?_ rfl (λ_=>KB) ?_))
 ·exact jK 1 [37] [] (NL (MD () [2,3,4,7,28,37] [0,1,2,3,4,5]))
 rintro _
 exact fF.last KB (jK 1 [38] [] (NL (aB.np (NX (CF (aq.skip (mJ () [0,1,2,3,4,5] ((λq=>hk2 q.1)))))))))
end
section
open Go.RowKit Go.Maps bG aF
attribute [local irreducible] av bP aq aB kV
noncomputable abbrev zW1 (b1:Nat) (Y:RL) (Z:RS) (A1:Option Addr) (c:aP) (c1:Nat) (B1) (d1):=(.ay b1 [.slice Y.A (Z.ns.length) (Y.c),.slice Y.G (Z.aH.length) (Y.cg),vI (Z.cH),vI (Z.aI),.slice A1 ((del c.aN Z.us).length) (c1),.slice B1 ((del c.aN Z.us).length) (d1),vI (Z.cN),vI (Z.cB),vI (Z.cH),vI (Z.cS),vI (Z.cZ),vI (Z.last)] 45:HP)
theorem WN {β:Bs} (Z:RS) (Y:RL) (hI:lV β Z Y.L Y.H Y.V) (hC:RC Z) (hD:RD 0 Z) (c:aP) (hn:c.name.size<=1048576) (ht:c.text.size<=1048576) (iU:c.op=9->∀k,iG Z c.aN=.ok k->(nd Z.ns k).kind=2) :
 cr Tryz.prog β 57 #[.agg ⟨rV Z Y⟩,.agg ⟨aL c⟩] [ic Y Z,gP Y Z] (λβ' v l=>∃Y',v=.tuple #[.agg ⟨rV ((cF Z c).1) Y'⟩,vI (cF Z c).2.1,vI (cF Z c).2.2]/\l=[]/\dz β' (cF Z c).1 Y'):=by
 refine o8 Tryz.func57 Tryz.ntmps57 (λaE R=>SR (jB 1 [2] (λb1=>.ay b1 (rV Z Y) 45) (λb1=>jB 1 [3] (λb2=>.ay b2 (aL c) 53) (λb2=>jB 3 [4] (λb3=>.ay b3 (rZ) 45) (λb3=>NZ (jK 2 [24] [(1,a_ 4 b2)] (NN (aq.block (SR (jK 2 [25] [] (NN (cP ((c.op:Int)=(1:Int)) (λpZ=>?_) (λpZ=>?_)))))))))))))
 ·refine SR (jK 4 [28,30] [(1,a_ 3 b1),(3,a_ 4 b2)] ?_)
  by_cases h1:0<=gJ Z.ns c.other
  ·have hk1:=(mW h1).1
   refine av.r9 0 rfl zc (λlM=>gE [0,1] ((eU hI (λ_ _ h=>ze Y.A Y.c Z.ns Y.L h.n hC.fO (by have:=hC.ns;omega) c.other)).val (ahg (Value.int .i64) (mW h1).2.2)) (jK 1 [7] [] (NZ (jK 2 [33] [(1,wF (((((cq Z.ns c.other):Nat):Int):Int)<(0:Int)))] (NF (KX (SQ (jK 8 [42] [(2,a_ 3 b1),(4,x_ (cq Z.ns c.other) Z.ns.length (lM)),(6,v_ 0 (nA Z.ns Y.L Y.A Y.c (cq Z.ns c.other) 1 hk1 rfl))] (NN (cN (((nd Z.ns (cq Z.ns c.other)).kind:Int)=(2:Int)) (λkQ=>?_) (λkQ=>?_)))))))))))
   ·refine SR (jC 4 [5,6] [(0,A_ 3 b1 12),(1,A_ 5 b3 12)] [(5,(zC (rV Z Y)))] (NN (aq.ret (aB.bE (aB.gi (aB.bE (aB.cT [0,1] [ic Y Z,gP Y Z] (λCW kT hL=>?_))))))))
    have fS:dz CW Z Y:=hI.at hL
    replace aE:=aE.trans kT
    exact rB _ [A_ 3 b3 12] [0] aE (⟨Y,by rw [aa5 pZ h1 kQ]<;>rfl,rfl,by rw [aa5 pZ h1 kQ];exact fS⟩)
   refine KX (SR (jK 2 [44,45] [(0,A_ 3 b1 12)] (av.cT [0,1] [ic Y Z,gP Y Z] (λβ1 cJ hL=>?_))))
   have ux:dz β1 Z Y:=hI.at hL
   replace aE:=aE.trans cJ
   refine j3 [] (Ia Z Y ux hC.ru (cq Z.ns c.other) hk1) ?_
   rintro kx _ _ fA ⟨Y3,rfl,rfl,mh⟩
   replace aE:=aE.trans fA
   exact jC 6 [5,6] [(3,A_ 3 b3 12)] [(3,(zC (rV ((kY Z (cq Z.ns c.other)).1) Y3)))] (eO [A_ 3 b3 12] aE ⟨Y3,by rw [aa6 pZ h1 kQ]<;>rfl,rfl,by rw [aa6 pZ h1 kQ];exact mh⟩)
  refine gE [0,1] ((eU hI (λ_ _ h=>ze Y.A Y.c Z.ns Y.L h.n hC.fO (by have:=hC.ns;omega) c.other)).val (ahg (Value.int .i64) (CM h1))) (jK 1 [7] [] (NZ (jK 2 [33] [] (NT (SR (jC 4 [5,6] [(0,A_ 3 b1 12),(1,A_ 5 b3 12)] [(5,(zC (rV Z Y)))] (NN (aq.ret (aB.bE (aB.gi (aB.bE (aB.cT [0,1] [ic Y Z,gP Y Z] (λE9 iq hL=>?_)))))))))))))
  have fS:dz E9 Z Y:=hI.at hL
  replace aE:=aE.trans iq
  exact rB _ [A_ 3 b3 12] [0] aE (⟨Y,by rw [aa4 pZ (CM h1)]<;>rfl,rfl,by rw [aa4 pZ (CM h1)];exact fS⟩)
 refine SR (jK 2 [50] [] (NN (cP ((c.op:Int)=(2:Int)) (λh50=>?_) (λh50=>?_))))
 ·refine SR (jK 2 [52,53] [(0,A_ 3 b1 12),(1,A_ 4 b2 13)] (j3 [0,1] (Mf Z Y hI hC c hn 2) ?_))
  rintro β1 _ _ cJ ⟨Y3,rfl,rfl,mh⟩
  replace aE:=aE.trans cJ
  exact jC 6 [5,6] [(3,A_ 3 b3 12)] [(3,(zC (rV ((jl Z c 2).1) Y3)))] (eO [A_ 3 b3 12] aE ⟨Y3,by rw [ad0 h50]<;>rfl,rfl,by rw [ad0 h50];exact mh⟩)
 refine SR (jK 2 [58] [] (NN (cP ((c.op:Int)=(3:Int)) (λMg=>?_) (λMg=>?_))))
 ·refine SR (jK 2 [60,61] [(0,A_ 3 b1 12),(1,A_ 4 b2 13)] (j3 [0,1] (Mf Z Y hI hC c hn 1) ?_))
  rintro β1 _ _ cJ ⟨Y3,rfl,rfl,mh⟩
  replace aE:=aE.trans cJ
  exact jC 6 [5,6] [(3,A_ 3 b3 12)] [(3,(zC (rV ((jl Z c 1).1) Y3)))] (eO [A_ 3 b3 12] aE ⟨Y3,by rw [ad1 Mg]<;>rfl,rfl,by rw [ad1 Mg];exact mh⟩)
 refine aq.join (λ(q:Bool)=>(q=true↔JW c.op)) (λ(q:Bool)=>[(2,vP b1),(3,vP b2),(4,vP b3),(24,vI (c.op)),(66,.bool q)]) (λ(q:Bool)=>[ic Y Z,gP Y Z,.abs R,.ay b1 (rV Z Y) 45,pC b2 c,.ay b3 (rZ) 45]) ?_ (SR (jK 2 [66] [] (NN (cP ((c.op:Int)=(4:Int)) (λmg=>aq.skip (mJ ((decide ((c.op:Int)=(4:Int)))) [0,1,2,3,4,5] (⟨λe=>Pe,λe=>ahB (by unfold JW at e;omega)⟩))) (λmg=>SR (jK 2 [66] [] (NN (cP ((c.op:Int)=(5:Int)) (λmg=>aq.skip (mJ ((decide ((c.op:Int)=(5:Int)))) [0,1,2,3,4,5] (⟨λe=>Pe,λe=>ahB (by unfold JW at e;omega)⟩))) (λmg=>SR (jK 2 [66] [] (NN (cP ((c.op:Int)=(6:Int)) (λmg=>aq.skip (mJ ((decide ((c.op:Int)=(6:Int)))) [0,1,2,3,4,5] (⟨λe=>Pe,λe=>ahB (by unfold JW at e;omega)⟩))) (λmg=>SR (jK 2 [66] [] (NN (cP ((c.op:Int)=(8:Int)) (λmg=>aq.skip (mJ ((decide ((c.op:Int)=(8:Int)))) [0,1,2,3,4,5] (⟨λe=>Pe,λe=>ahB (by unfold JW at e;omega)⟩))) (λmg=>aq.region (jK 2 [66] [] (NL (mJ ((decide ((c.op:Int)=(14:Int)))) [0,1,2,3,4,5] (⟨λe=>Pe,λe=>ahB (by unfold JW at e;omega)⟩)))))))))))))))))))))
 rintro q hq
 refine aq.cond (b:=q) (λ_=>KB) (λmg=>?_) (λmg=>?_)
 ·have JQ:=hq.1 mg
  refine SR (jK 5 [73,75,77] [(0,A_ 3 b1 12),(2,a_ 4 b2),(4,a_ 4 b2)] ?_)
  rcases rJ hC c.aN c.name 192 with ⟨e,h1,E5⟩|⟨d,h1,hd⟩
  ·refine gE [0,1] ((eU hI (λ_ _ h=>o4 Z Y h hC c.aN c.name hn 192)).val (ahg exV h1)) (jK 5 [8,9] [] (NZ (jK 2 [82] [(1,Nt ((e:Int)=(0:Int)) E5)] (NT (SR (jC 5 [5,6] [(0,A_ 3 b1 12),(2,A_ 5 b3 12)] [(5,(zC (rV Z Y)))] (NN (aq.ret (aB.bE (aB.gi (aB.bE (aB.cT [0,1] [ic Y Z,gP Y Z] (λβ6 zM hL=>?_)))))))))))))
   have fS:dz β6 Z Y:=hI.at hL
   replace aE:=aE.trans zM
   exact rB _ [A_ 3 b3 12] [0] aE (⟨Y,by rw [aa7 (hq.1 mg) h1]<;>rfl,rfl,by rw [aa7 (hq.1 mg) h1];exact fS⟩)
  refine gE [0,1] ((eU hI (λ_ _ h=>o4 Z Y h hC c.aN c.name hn 192)).val (ahg exV h1)) (jK 5 [8,9] [] (NZ (jK 2 [82] [(1,w_ (.bool false) rfl)] (NF (KX (SR (jK 3 [85,86,87] [(0,A_ 3 b1 12),(1,A_ 4 b2 13)] (j3 [0,1] (T7 Z Y hI hC hD zc c ht d hd) ?_))))))))
  rintro β1 _ _ cJ ⟨Y3,rfl,rfl,mh⟩
  replace aE:=aE.trans cJ
  exact jC 6 [5,6] [(3,A_ 3 b3 12)] [(3,(zC (rV ((iI Z c d).1) Y3)))] (eO [A_ 3 b3 12] aE ⟨Y3,by rw [aa8 (hq.1 mg) h1]<;>rfl,rfl,by rw [aa8 (hq.1 mg) h1];exact mh⟩)
 have JQ:¬(c.op=4\/c.op=5\/c.op=6\/c.op=8\/c.op=14):=λe=>by rw [hq.2 e] at mg;cases mg
 refine SR (jK 2 [92] [] (NN (cP ((c.op:Int)=(7:Int)) (λEd=>?_) (λEd=>?_))))
 ·refine SR (jK 2 [95,96] [(0,A_ 3 b1 12),(1,A_ 4 b2 13)] ?_)
  rcases L9 hC c 64 with ⟨a,e,h1,E5,Po⟩|⟨f,to,h1,hf,d9,Po⟩
  ·refine gE [0,1] ((eU hI (λ_ _ h=>F6 Z Y h hC c hn ht 64)).val Po) (jK 7 [10,11,12] [] (NZ (jK 2 [102] [(1,Nt ((e:Int)=(0:Int)) E5)] (NT (SR (jC 5 [5,6] [(0,A_ 3 b1 12),(2,A_ 5 b3 12)] [(5,(zC (rV Z Y)))] (NN (aq.ret (aB.bE (aB.gi (aB.bE (aB.cT [0,1] [ic Y Z,gP Y Z] (λJX kU hL=>?_)))))))))))))
   have fS:dz JX Z Y:=hI.at hL
   replace aE:=aE.trans kU
   exact rB _ [A_ 3 b3 12] [0] aE (⟨Y,by rw [aa9 Ed h1]<;>rfl,rfl,by rw [aa9 Ed h1];exact fS⟩)
  refine gE [0,1] ((eU hI (λ_ _ h=>F6 Z Y h hC c hn ht 64)).val Po) (jK 7 [10,11,12] [] (NZ (jK 2 [102] [(1,w_ (.bool false) rfl)] (NF (KX (SR (jK 4 [105,106,108] [(0,A_ 3 b1 12),(3,a_ 4 b2)] ?_)))))))
  rcases kB Z.ns f c.name with hl|⟨k,hl,hk⟩
  ·refine gE [0,1] ((eU hI (λ_ _ h=>jJ Z Y h hC f hf c.name)).val (ahg (Value.int .i64) hl)) (jK 1 [13] [] (NZ (jK 2 [111] [] (NT (SR (jC 4 [5,6] [(0,A_ 3 b1 12),(1,A_ 5 b3 12)] [(5,(zC (rV Z Y)))] (NN (aq.ret (aB.bE (aB.gi (aB.bE (aB.cT [0,1] [ic Y Z,gP Y Z] (λWO tU hL=>?_)))))))))))))
   have fS:dz WO Z Y:=hI.at hL
   replace aE:=aE.trans tU
   exact rB _ [A_ 3 b3 12] [0] aE (⟨Y,by rw [abd Ed h1 hl]<;>rfl,rfl,by rw [abd Ed h1 hl];exact fS⟩)
  refine av.r9 0 rfl zc (λlM=>gE [0,1] ((eU hI (λ_ _ h=>jJ Z Y h hC f hf c.name)).val (ahg (Value.int .i64) hl)) (jK 1 [13] [] (NZ (jK 2 [111] [(1,wF (((k:Int):Int)<(0:Int)))] (NF (KX (SQ (jK 8 [120] [(2,a_ 3 b1),(4,x_ k Z.ns.length (lM)),(6,v_ 0 (nA Z.ns Y.L Y.A Y.c k 1 hk rfl))] (NN (cP (((nd Z.ns k).kind:Int)=(2:Int)) (λPp=>?_) (λPp=>?_)))))))))))
  ·refine SR (jC 4 [5,6] [(0,A_ 3 b1 12),(1,A_ 5 b3 12)] [(5,(zC (rV Z Y)))] (NN (aq.ret (aB.bE (aB.gi (aB.bE (aB.cT [0,1] [ic Y Z,gP Y Z] (λvz lY hL=>?_))))))))
   have fS:dz vz Z Y:=hI.at hL
   replace aE:=aE.trans lY
   exact rB _ [A_ 3 b3 12] [0] aE (⟨Y,by rw [abe Ed h1 hl Pp]<;>rfl,rfl,by rw [abe Ed h1 hl Pp];exact fS⟩)
  refine KX (SQ (jK 4 [122,123,125] [(0,A_ 3 b1 12),(3,a_ 4 b2)] ?_))
  rcases kB Z.ns to c.text with hl2|⟨t,hl2,ht⟩
  ·refine gE [0,1] ((eU hI (λ_ _ h=>jJ Z Y h hC to d9 c.text)).val (ahg (Value.int .i64) hl2)) (jK 1 [127] [] (NF (KX (SQ (jK 1 [129] [(0,A_ 3 b1 12)] (gE [0,1] (eU hI (λ_ _ h=>Pb Z Y h hC.toRB)) (jK 1 [131] [] (NN (cP (((((dM Z.ns Z.ns.length):Nat):Int):Int)>=(8192:Int)) (λaf6=>?_) (λaf6=>?_))))))))))
   ·refine SR (jC 4 [5,6] [(0,A_ 3 b1 12),(1,A_ 5 b3 12)] [(5,(zC (rV Z Y)))] (NN (aq.ret (aB.bE (aB.gi (aB.bE (aB.cT [0,1] [ic Y Z,gP Y Z] (λKY oO hL=>?_))))))))
    have fS:dz KY Z Y:=hI.at hL
    replace aE:=aE.trans oO
    exact rB (.tuple #[.agg ⟨rV Z Y⟩,vI 0,vI 177]) [A_ 3 b3 12] [0] aE (⟨Y,by grind [abg],rfl,by grind [abg]⟩)
   refine KX (aq.seq (aq.xj 11 KB KB (kV.seg (k':=11) (bY:=[(4,vP b3),(133,.agg #[.slice Y.A (Z.ns.length) (Y.c),.slice Y.G (Z.aH.length) (Y.cg),vI (Z.cH),vI (Z.aI),.slice Y.H (Z.us.length) (Y.ch),.slice Y.V (Z.us.length) (Y.cv),vI (Z.cN),vI (Z.cB),vI (Z.cH),vI (Z.cS),vI (Z.cZ),vI (Z.last)]),(134,vI ↑to),(136,.string c.text),(143,vI ((nd Z.ns k).id))]) (fe:=[(∀F w,(aG 95 10 Y.A Z.ns.length Y.c (bH Y.L Z.ns)).h F w->w.cell? ⟨(br Y.A),bq Y.A+k*10,none⟩=some (vI ((nd Z.ns k).id))),((k:Nat):Int)=((k:Nat):Int),k<Z.ns.length,(⟨(br Y.A),bq Y.A,none⟩:Addr).spot=none,(Y.A:Option Addr)=some ⟨(br Y.A),bq Y.A,none⟩,b1=b1,b2=b2,b1=b1,b1=b1,b1=b1,b1=b1,b1=b1,b1=b1,b1=b1,b1=b1,b1=b1,b1=b1,b1=b1,b1=b1]) [⟨[.at 3,.at 3,.at 3,.at 3,.at 3,.at 3,.at 3,.at 3,.at 3,.at 3,.at 3,.at 3],none,none,none,none⟩,o_,o_,⟨[.at 4],none,none,none,none⟩,o_,o_,⟨[.at 3],none,none,none,none⟩,o_,⟨[],some k,none,some ⟨(br Y.A),bq Y.A,none⟩,none⟩,o_,⟨[.view 0 (.int .i64 ((nd Z.ns k).id))],none,none,none,none⟩] [4,133,134,136,143] (λ_ _=>KB) ⟨nA Z.ns Y.L Y.A Y.c k 0 hk rfl,rfl,zc,rfl,lM,rfl,rfl,rfl,rfl,rfl,rfl,rfl,rfl,rfl,rfl,rfl,rfl,rfl,rfl,trivial⟩ Pd (kV.done rfl (j3 [0,1] (Cb Z Y hI hC.toRB to d9 c.text (nd Z.ns k).id) ?_)))))
   rintro Ij _ _ pQ ⟨L1,rfl,rfl,di⟩
   replace aE:=aE.trans pQ
   refine jC 3 [5,6] [(0,A_ 5 b3 12)] [(5,(zC (rV (dh Z to c.text (nd Z.ns k).id) Y)))] (NN (aq.ret (aB.gi (aB.bE (aB.cT [0,1] [.abs (aG 95 10 Y.A ((dh Z to c.text (nd Z.ns k).id).ns.length) Y.c (bH L1 (dh Z to c.text (nd Z.ns k).id).ns)),.abs (aG 3 1 Y.G ((dh Z to c.text (nd Z.ns k).id).aH.length) Y.cg (bL (dh Z to c.text (nd Z.ns k).id).aH))] (λDK kF hL=>?_))))))
   have fS:dz DK (dh Z to c.text (nd Z.ns k).id) ⟨Y.A,Y.c,L1,Y.G,Y.cg,Y.H,Y.ch,Y.V,Y.cv⟩:=di.at hL
   replace aE:=aE.trans kF
   exact rB _ [A_ 3 b3 12] [0] aE (⟨⟨Y.A,Y.c,L1,Y.G,Y.cg,Y.H,Y.ch,Y.V,Y.cv⟩,by rw [abh Ed h1 hl Pp hl2 zc]<;>rfl,rfl,by grind [abh]⟩)
  refine gE [0,1] ((eU hI (λ_ _ h=>jJ Z Y h hC to d9 c.text)).val (ahg (Value.int .i64) hl2)) (jK 1 [127] [(0,wT (((t:Int):Int)>=(0:Int)))] (NT (SR (jC 4 [5,6] [(0,A_ 3 b1 12),(1,A_ 5 b3 12)] [(5,(zC (rV Z Y)))] (NN (aq.ret (aB.bE (aB.gi (aB.bE (aB.cT [0,1] [ic Y Z,gP Y Z] (λIh uP hL=>?_)))))))))))
  have fS:dz Ih Z Y:=hI.at hL
  replace aE:=aE.trans uP
  exact rB _ [A_ 3 b3 12] [0] aE (⟨Y,by rw [abf Ed h1 hl Pp hl2]<;>rfl,rfl,by grind [abf]⟩)
 refine SR (jK 2 [145] [] (NN (cP ((c.op:Int)=(9:Int)) (λpJ=>?_) (λpJ=>?_))))
 ·refine SR (jK 3 [148,150] [(0,A_ 3 b1 12),(2,a_ 4 b2)] ?_)
  rcases tT hC c.aN with hh|⟨k,hh,hk⟩
  ·refine gE [0,1] ((eU hI (λ_ _ h=>tu Z Y h hC c.aN)).val (ahg exV hh)) (jK 5 [14,15] [] (NZ (jK 2 [155] [] (NT (SR (jC 5 [5,6] [(0,A_ 3 b1 12),(2,A_ 5 b3 12)] [(5,(zC (rV Z Y)))] (NN (aq.ret (aB.bE (aB.gi (aB.bE (aB.cT [0,1] [ic Y Z,gP Y Z] (λIi uQ hL=>?_)))))))))))))
   have fS:dz Ii Z Y:=hI.at hL
   replace aE:=aE.trans uQ
   exact rB _ [A_ 3 b3 12] [0] aE (⟨Y,by rw [abj pJ hh]<;>rfl,rfl,by rw [abj pJ hh];exact fS⟩)
  refine av.r9 0 rfl zc (λlM=>gE [0,1] ((eU hI (λ_ _ h=>tu Z Y h hC c.aN)).val (ahg exV hh)) (jK 5 [14,15] [] (NZ (jK 2 [155] [] (NF (KX (SQ (jK 8 [165] [(2,a_ 3 b1),(4,x_ k Z.ns.length (lM)),(6,v_ 0 (nA Z.ns Y.L Y.A Y.c k 1 hk rfl))] (NN (cP (((nd Z.ns k).kind:Int)=(2:Int)) (λIo=>SR (jC 4 [5,6] [(0,A_ 3 b1 12),(1,A_ 5 b3 12)] [(5,(zC (rV Z Y)))] (NN (aq.ret (aB.bE (aB.gi (aB.bE (aB.cT [0,1] [ic Y Z,gP Y Z] (λE8 qJ hL=>?_))))))))) (λIo=>ahh (iU pJ k hh) Io)))))))))))
  have fS:dz E8 Z Y:=hI.at hL
  replace aE:=aE.trans qJ
  exact rB _ [A_ 3 b3 12] [0] aE (⟨Y,by rw [abk pJ hh Io]<;>rfl,rfl,by rw [abk pJ hh Io];exact fS⟩)
 refine SR (jK 2 [175] [] (NN (cP ((c.op:Int)=(10:Int)) (λZF=>?_) (λZF=>?_))))
 ·refine SR (jK 2 [177,178] [(0,A_ 3 b1 12),(1,A_ 4 b2 13)] (j3 [0,1] (Zw Z Y hI hC c) ?_))
  rintro β1 _ _ cJ ⟨Y3,rfl,rfl,mh⟩
  replace aE:=aE.trans cJ
  exact jC 6 [5,6] [(3,A_ 3 b3 12)] [(3,(zC (rV ((mq Z c).1) Y3)))] (eO [A_ 3 b3 12] aE ⟨Y3,by rw [abm ZF]<;>rfl,rfl,by rw [abm ZF];exact mh⟩)
 refine SR (jK 2 [183] [] (NN (cP ((c.op:Int)=(13:Int)) (λPq=>?_) (λPq=>?_))))
 ·refine SR (jK 4 [187,189] [(1,A_ 3 b1 4),(3,a_ 4 b2)] ?_)
  by_cases hm:c.aN∈bn Z.us
  ·obtain⟨k,fL,hk,hx,_⟩:=Wi hC.usr hm
   refine gL [] (Zh Z.cH Z.aI Y.H Y.V Y.ch Y.cv Z.us hI.h hI.v (by have:=hC.us;omega) c.aN hC.usr k hk fL hx) ?_
   rintro _ _ ⟨A1,c1,B1,d1,rfl,rfl⟩
   refine jN 8 [16,18] (λb16=>[(5,A_ 8 b16 4)]) (λ_=>[]) (λb16=>.ay b16 [vI (Z.cH),vI (Z.aI),.slice A1 ((del c.aN Z.us).length) (c1),.slice B1 ((del c.aN Z.us).length) (d1)] 43) (λb16=>NS (jC 3 [] [(0,A_ 8 b16 4),(2,A_ 5 b1 4)] [(5,[(4,.slice A1 ((del c.aN Z.us).length) (c1)),(5,.slice B1 ((del c.aN Z.us).length) (d1))])] (NS (jK 1 [196] [(0,A_ 5 b1 12)] (av.ol (Φ:=λβ'=>cD β' A1 (bL (bn (del c.aN Z.us)))) 0 [1,2,3,4,5,6,7,8] (eZ:=[.abs (aG 3 1 B1 ((del c.aN Z.us).length) d1 (bL (iZ (del c.aN Z.us)))),ic Y Z,gP Y Z,.abs R,zW1 b1 Y Z A1 c c1 B1 d1,.ay b2 (aL c) 53,.ay b3 (rZ) 45,.ay b16 [vI (Z.cH),vI (Z.aI),.slice A1 ((del c.aN Z.us).length) (c1),.slice B1 ((del c.aN Z.us).length) (d1)] 43]) rfl rfl KB (λF w h β' h1 h2=>cD.gU h h1 h2) (λβ1 cJ hH=>?_))))))
   replace hI:=hI.le cJ
   replace aE:=aE.trans cJ
   refine av.ol (Φ:=λβ'=>cD β' B1 (bL (iZ (del c.aN Z.us)))) 0 [1,2,3,4,5,6,7] (eZ:=[ic Y Z,gP Y Z,.abs R,zW1 b1 Y Z A1 c c1 B1 d1,.ay b2 (aL c) 53,.ay b3 (rZ) 45,.ay b16 [vI (Z.cH),vI (Z.aI),.slice A1 ((del c.aN Z.us).length) (c1),.slice B1 ((del c.aN Z.us).length) (d1)] 43]) rfl rfl KB (λF w h β' h1 h2=>cD.gU h h1 h2) (λkx fA hV=>?_)
   replace hI:=hI.le fA
   replace hH:=hH.le fA
   replace aE:=aE.trans fA
   refine av.cT [0,1] [ic Y Z,gP Y Z] (λvT kS hL=>?_)
   have ux:dz vT ({Z with us:=(del c.aN Z.us)}:RS) ⟨Y.A,Y.c,Y.L,Y.G,Y.cg,A1,c1,B1,d1⟩:=have q:=hI.at (ch:=Y.ch) (cv:=Y.cv) hL;⟨⟨q.g,hH.le hL.le,hV.le hL.le⟩,q.n⟩
   replace aE:=aE.trans kS
   refine j3 [] (yD ({Z with us:=(del c.aN Z.us)}:RS) ⟨Y.A,Y.c,Y.L,Y.G,Y.cg,A1,c1,B1,d1⟩ ux ⟨hC.ns,hC.aH,ahk TL hC.us,hC.ah,hC.dat⟩) ?_
   rintro CW _ _ kT ⟨Y3,rfl,rfl,mh⟩
   replace aE:=aE.trans kT
   exact jC 4 [5,6] [(1,A_ 3 b3 12)] [(3,(zC (rV (gn ({Z with us:=(del c.aN Z.us)}:RS)) Y3)))] (eO [A_ 3 b3 12] aE ⟨Y3,by rw [WD Pq hm]<;>rfl,rfl,by rw [WD Pq hm];exact mh⟩)
  refine gE [] (T5 Z.cH Z.aI Y.H Y.V Y.ch Y.cv Z.us hI.h (by have:=hC.us;omega) c.aN (KW hm).1) (jN 8 [16,18] (λb17=>[(5,A_ 6 b17 4)]) (λ_=>[]) (λb17=>.ay b17 [vI (Z.cH),vI (Z.aI),.slice Y.H (Z.us.length) (Y.ch),.slice Y.V (Z.us.length) (Y.cv)] 43) (λb17=>NS (jC 3 [] [(0,A_ 6 b17 4),(2,A_ 3 b1 4)] [] (NS (jK 1 [196] [(0,A_ 3 b1 12)] (av.cT [0,1] [ic Y Z,gP Y Z] (λvT kS hL=>?_)))))))
  have ux:dz vT Z Y:=hI.at hL
  replace aE:=aE.trans kS
  refine j3 [] (yD Z Y ux hC.toRB) ?_
  rintro CW _ _ kT ⟨Y3,rfl,rfl,mh⟩
  replace aE:=aE.trans kT
  exact jC 4 [5,6] [(1,A_ 3 b3 12)] [(3,(zC (rV (gn Z) Y3)))] (eO [A_ 3 b3 12] aE ⟨Y3,by rw [WE Pq hm]<;>rfl,rfl,by rw [WE Pq hm];exact mh⟩)
 refine SR (jK 2 [199] [] (NN (cP ((c.op:Int)=(15:Int)) (λPr=>?_) (λPr=>?_))))
 ·refine SR (jK 2 [202,203] [(0,A_ 3 b1 12),(1,A_ 4 b2 13)] ?_)
  rcases L9 hC c 192 with ⟨a,e,h1,E5,Po⟩|⟨f,to,h1,hf,d9,Po⟩
  ·refine gE [0,1] ((eU hI (λ_ _ h=>F6 Z Y h hC c hn ht 192)).val Po) (jK 7 [19,20,21] [] (NZ (jK 2 [209] [(1,Nt ((e:Int)=(0:Int)) E5)] (NT (SR (jC 5 [5,6] [(0,A_ 3 b1 12),(2,A_ 5 b3 12)] [(5,(zC (rV Z Y)))] (NN (aq.ret (aB.bE (aB.gi (aB.bE (aB.cT [0,1] [ic Y Z,gP Y Z] (λXZ Ac hL=>?_)))))))))))))
   have fS:dz XZ Z Y:=hI.at hL
   replace aE:=aE.trans Ac
   exact rB _ [A_ 3 b3 12] [0] aE (⟨Y,by rw [WH Pr h1]<;>rfl,rfl,by rw [WH Pr h1];exact fS⟩)
  refine gE [0,1] ((eU hI (λ_ _ h=>F6 Z Y h hC c hn ht 192)).val Po) (jK 7 [19,20,21] [] (NZ (jK 2 [209] [(1,w_ (.bool false) rfl)] (NF (KX (SR (jK 7 [213,214,216,217,219] [(0,A_ 3 b1 12),(3,a_ 4 b2),(6,a_ 4 b2)] (j3 [0,1] (Me Z Y hI hC hD zc f hf c.name to d9 c.text) ?_))))))))
  rintro β1 _ _ cJ ⟨Y3,rfl,rfl,mh⟩
  replace aE:=aE.trans cJ
  exact jN 6 [21,22] (λb19=>[(4,A_ 4 b19 12)]) (λ_=>[]) (λb19=>.ay b19 (rV ((ia Z f c.name to c.text).1) Y3) 45) (λb19=>NS (jC 5 [5,6] [(0,A_ 4 b19 12),(2,A_ 3 b3 12)] [(3,(zC (rV ((ia Z f c.name to c.text).1) Y3)))] (eO [A_ 3 b3 12] aE ⟨Y3,by rw [WI Pr h1]<;>rfl,rfl,by rw [WI Pr h1];exact mh⟩)))
 refine KX (SR (jC 4 [5,6] [(0,A_ 3 b1 12),(1,A_ 5 b3 12)] [(5,(zC (rV Z Y)))] (NN (aq.ret (aB.cT [0,1] [ic Y Z,gP Y Z] (λaf7 ZG hL=>?_))))))
 have fS:dz af7 Z Y:=hI.at hL
 replace aE:=aE.trans ZG
 exact rB _ [A_ 3 b3 12] [0] aE (⟨Y,by rw [abp zc]<;>rfl,rfl,by rw [abp zc];exact fS⟩)
theorem WQ {β:Bs} (Z:RS) (Y:RL) (k:Nat) (hI:Bb β Z Y.L Y.H Y.V k) (hC:RC Z) (hk:k<Z.ns.length) (c:aP) (h9:c.op=9) (hh:iG Z c.aN=.ok k) (hk2:¬(nd Z.ns k).kind=2) (hb:bJ β c.dA c.data) (hl:c.data.length<=140737488355328) (hc:c.data.length<=c.dC) :
 cr Tryz.prog β 57 #[.agg ⟨rV Z Y⟩,.agg ⟨aL c⟩] [ic Y Z,gP Y Z,Sj Y k Z] (λβ' v l=>∃Y',v=.tuple #[.agg ⟨rV ((cF Z c).1) Y'⟩,vI (cF Z c).2.1,vI (cF Z c).2.2]/\l=[]/\dz β' (cF Z c).1 Y'):=by
 refine o8 Tryz.func57 Tryz.ntmps57 (λaE R=>SR (jB 1 [2] (λyH=>.ay yH (rV Z Y) 45) (λyH=>jB 1 [3] (λmR=>.ay mR (aL c) 53) (λmR=>jB 3 [4] (λE6=>.ay E6 (rZ) 45) (λE6=>NZ (jK 2 [24] [(1,a_ 5 mR)] (NN (aq.block (SR (jK 2 [25] [] (NN (cP ((c.op:Int)=(1:Int)) (λpZ=>ahh pZ (by omega)) (λpZ=>SR (jK 2 [50] [] (NN (cP ((c.op:Int)=(2:Int)) (λh50=>ahh h50 (by omega)) (λh50=>SR (jK 2 [58] [] (NN (cP ((c.op:Int)=(3:Int)) (λMg=>ahh Mg (by omega)) (λMg=>SQ (jK 2 [66] [] (NN (cP ((c.op:Int)=(4:Int)) (λmg=>ahh mg (by omega)) (λmg=>SR (jK 2 [66] [] (NN (cP ((c.op:Int)=(5:Int)) (λmg=>ahh mg (by omega)) (λmg=>SR (jK 2 [66] [] (NN (cP ((c.op:Int)=(6:Int)) (λmg=>ahh mg (by omega)) (λmg=>SR (jK 2 [66] [] (NN (cP ((c.op:Int)=(8:Int)) (λmg=>ahh mg (by omega)) (λmg=>aq.region (jK 2 [66] [] (NN (cP ((c.op:Int)=(14:Int)) (λmg=>ahh mg (by omega)) (λmg=>SR (jK 2 [92] [] (NN (cP ((c.op:Int)=(7:Int)) (λEd=>ahh Ed (by omega)) (λEd=>SR (jK 2 [145] [] (NN (cP ((c.op:Int)=(9:Int)) (λpJ=>SR (jK 3 [148,150] [(0,A_ 4 yH 12),(2,a_ 5 mR)] (gE [0,1,2] (Ib (x:=exV (.ok k)) (cb:=Y.L.dC k) hI rfl rfl (λ_ _ h=>(tu Z Y h hC c.aN).val (ahg exV hh))) (jK 5 [14,15] [] (NZ (jK 2 [155] [] (NF (KX (SQ (av.r9 0 rfl zc (λlM=>jK 8 [165] [(2,a_ 4 yH),(4,x_ k Z.ns.length (lM)),(6,v_ 0 (nA Z.ns Y.L Y.A Y.c k 1 hk rfl))] (NN (cP (((nd Z.ns k).kind:Int)=(2:Int)) (λIo=>ahh Io hk2) (λIo=>KX (SR (jK 4 [167,168,170] [(0,A_ 4 yH 12),(3,a_ 5 mR)] (j3 [0,1,2] (Ig Z Y k hI hC hk c.dA c.dC c.data hb hl hc) ?_))))))))))))))))) (λpJ=>ahh h9 pJ)))))))))))))))))))))))))))))))))))))))))))))))))
 rintro β1 _ _ cJ ⟨Y3,rfl,rfl,mh⟩
 replace aE:=aE.trans cJ
 exact jC 6 [5,6] [(3,A_ 3 E6 12)] [(3,(zC (rV ((jT Z k c.data).1) Y3)))] (eO [A_ 3 E6 12] aE ⟨Y3,by rw [abl h9 hh hk2]<;>rfl,rfl,by rw [abl h9 hh hk2];exact mh⟩)
end
section
open Go.RowKit Go.Maps bG aF
attribute [local irreducible] av bP aq aB
theorem qg {β:Bs} (A:Option Addr) (c:Nat) (d:List UInt8) (hA:bJ β A d) (hl:d.length<=140737488355328) :
 aX Tryz.prog β 25 #[.slice A d.length c] [] (λv l=>∃B cap,v=.slice B d.length cap/\l=[.abs (aG 5 1 B d.length cap (dL d))]):=by
 exact SE Tryz.func25 Tryz.ntmps25 (λR=>SR (jK 1 [] [] (NS (jB 2 [3] (λb1=>.ay b1 [] 5) (λb1=>NS (av.mem (λw hS=>hS.oW (i:=1) (b:=b1) (cs:=[]) (e:=5) 1 0 KB rfl Pd) (jK 2 [5,6] [] (U7 1 51 A d.length c (dL d) rfl (hA.src) (λA2 c3=>av.cO 1 rfl (by rw [ahy,List.nil_append]) (sl 7 (.slice A2 (0+d.length) (c3)) (.slice A2 (d.length) (c3)) (by rw [ahy]) (jK 1 [3] [] (NS (jK 2 [2] [] (eN ⟨A2,c3,rfl,rfl⟩ [1,0])))))) (hl:=by rw [vJ,Nat.mul_one]) (h1:=sx d)))))))))
theorem Pt {β:Bs} (n:aO) (dA eA:Option Addr) (dC eC:Nat) (hD:bJ β dA n.data) (hE:cV β eA n.ah) (hl1:n.data.length<=140737488355328) (hl2:n.ah.length<=1048576) :
 aX Tryz.prog β 47 #[.agg #[vI (n.id),vI (n.kind),vI (n.mode),vI (n.bg),vI (n.bh),vI (n.aU),vI (n.aJ),.slice dA (n.data.length) (dC),.string n.target,.slice eA (n.ah.length) (eC)]] [] (λv l=>∃dB cd eB ce,v=.agg #[vI (n.id),vI (n.kind),vI (n.mode),vI (n.bg),vI (n.bh),vI (n.aU),vI (n.aJ),.slice dB (n.data.length) (cd),.string n.target,.slice eB (n.ah.length) (ce)]/\l=[.abs (aG 5 1 dB n.data.length cd (dL n.data)),.abs (aG 149 2 eB n.ah.length ce (mV n.ah))]):=by
 refine SE Tryz.func47 Tryz.ntmps47 (λR=>SR (jB 1 [1] (λb4=>.ay b4 [vI (n.id),vI (n.kind),vI (n.mode),vI (n.bg),vI (n.bh),vI (n.aU),vI (n.aJ),.slice dA (n.data.length) (dC),.string n.target,.slice eA (n.ah.length) (eC)] 95) (λb4=>jB 1 [2] (λb5=>.ay b5 [vI 0,vI 0,vI 0,vI 0,vI 0,vI 0,vI 0,.slice none (0) (0),.string ⟨#[]⟩,.slice none (0) (0)] 95) (λb5=>NS (jK 2 [5] [(1,a_ 1 b4)] (gL [] (qg dA dC n.data hD hl1) ?_))))))
 rintro _ _ ⟨dB,cd,rfl,rfl⟩
 exact jC 2 [] [(1,a_ 2 b4)] [(2,[(7,.slice dB (n.data.length) (cd))])] (NS (jB 2 [3] (λb6=>.ay b6 [] 149) (λb6=>NS (av.mem (λw hS=>hS.oW (i:=4) (b:=b6) (cs:=[]) (e:=149) 2 0 KB rfl Pd) (jK 3 [9,11] [(2,a_ 2 b4)] (mU 4 93 eA n.ah.length eC (mV n.ah) rfl (hE.src) (λA7 c8=>av.cO 4 rfl (by rw [ahy,List.nil_append]) (sl 12 (.slice A7 (0+n.ah.length) (c8)) (.slice A7 (n.ah.length) (c8)) (by rw [ahy]) (jK 1 [3] [] (NS (jC 3 [] [(2,a_ 2 b4)] [(2,[(9,.slice A7 (n.ah.length) (c8))])] (NS (jC 2 [] [(0,A_ 2 b4 10),(1,A_ 3 b5 10)] [(3,[(0,vI (n.id)),(1,vI (n.kind)),(2,vI (n.mode)),(3,vI (n.bg)),(4,vI (n.bh)),(5,vI (n.aU)),(6,vI (n.aJ)),(7,.slice dB (n.data.length) (cd)),(8,.string n.target),(9,.slice A7 (n.ah.length) (c8))])] (eS [A_ 3 b5 10] ⟨dB,cd,A7,c8,rfl,rfl⟩ [0,4,1])))))))) (hl:=by rw [Lv]) (h1:=Ep n.ah)))))))
theorem hkl {ns:List aO} {k:Nat} (hk:k<=ns.length):(ns.take k).length=k:=by rw [ahC];omega
theorem MQ {β:Bs} (A:Option Addr) (c:Nat) (ns:List aO) (L:eP) (hG:aQ β A ns L) (hl:ns.length<=1048576) (hd:∀i,i<ns.length->(nd ns i).data.length<=140737488355328/\(nd ns i).ah.length<=1048576) :
 aX Tryz.prog β 19 #[.agg #[.slice A ns.length c]] [] (λv l=>∃B cap K,v=.agg #[.slice B ns.length cap]/\l=KL B cap ns K):=by
 refine SE Tryz.func19 Tryz.ntmps19 (λR=>SR (jB 1 [1] (λb9=>.ay b9 [.slice A (ns.length) (c)] 24) (λb9=>jB 1 [2] (λb10=>.ay b10 [.slice none (0) (0)] 24) (λb10=>NS (jB 2 [3] (λb11=>.ay b11 [] 95) (λb11=>NZ (av.mem (λw hS=>hS.oW (i:=3) (b:=b11) (cs:=[]) (e:=95) 10 0 KB rfl Pd) (av.mem (λw hS=>hS.EA (q8 [] HX)) (av.mem (λw hS=>hS.EA (lg [] HX)) (jK 1 [4] [] (NN (aq.block (lJ (λ(k,Ao,cp,K)=>(k<=ns.length)) (λ(k,Ao,cp,K)=>ns.length-k) (λ(k,Ao,cp,K)=>[(1,vP b9),(2,vP b10),(3,.slice Ao (k) (cp)),(4,vI ↑k)]) (λ(k,Ao,cp,K)=>[.ay b9 [.slice A (ns.length) (c)] 24,.ay b10 [.slice none (0) (0)] 24,.abs (aG 95 10 Ao k cp (bH K (ns.take k))),.abs (iL (q8 (ns.take k) K) k),.abs (iL (lg (ns.take k) K) k),.abs R]) (0,some ⟨b11,0,none⟩,0,HX) [1,2,3,4,5,0] (ahj _) ?_)))))))))))))
 rintro⟨k,Ao,cp,K⟩ hk
 refine SQ (jK 5 [10] [(2,a_ 0 b9)] (NN (cP ((((k:Nat):Int):Int)<(((ns.length:Nat):Int):Int)) (λh10=>?_) (λh10=>?_))))
 ·refine KX (aq.seq (aq.block (aq.region (jK 6 [13,18] [(2,a_ 0 b9),(4,x_ k ns.length (aQ.hd hG (i:=k) zc)),(5,D2 (iy L k (nd ns k)) (λ_ _ h=>aQ.rd hG zc h))] (gL [] (Pt (nd ns k) (L.dA k) (L.eA k) (L.dC k) (L.eC k) (hG.data k zc) (hG.ah k zc) (hd k zc).1 (hd k zc).2) ?_)))))
  rintro _ _ ⟨dB,cd,eB,ce,rfl,rfl⟩
  exact jB 1 [20] (λb12=>.ay b12 [vI ((nd ns k).id),vI ((nd ns k).kind),vI ((nd ns k).mode),vI ((nd ns k).bg),vI ((nd ns k).bh),vI ((nd ns k).aU),vI ((nd ns k).aJ),.slice dB ((nd ns k).data.length) (cd),.string (nd ns k).target,.slice eB ((nd ns k).ah.length) (ce)] 95) (λb12=>mU 4 22 (some ⟨b12,0,none⟩) 1 1 [vI ((nd ns k).id),vI ((nd ns k).kind),vI ((nd ns k).mode),vI ((nd ns k).bg),vI ((nd ns k).bh),vI ((nd ns k).aU),vI ((nd ns k).aJ),.slice dB ((nd ns k).data.length) (cd),.string (nd ns k).target,.slice eB ((nd ns k).ah.length) (ce)] rfl (fU (j:=8) rfl) (λMh Mi=>av.cO 4 rfl (ahg (λx=>HP.abs (aG 95 10 _ _ _ x)) (vM (hkl hk) (uO zc) rfl rfl)) (sl 21 (.slice Mh (k+1) (Mi)) (.slice Mh ((k+1)) (Mi)) (rfl) (jK 1 [3] [] (LX (aq.region (jK 3 [4] [(1,wJ ((k:Int)+1) (↑(k+1)))] (NL (aB.mem (λw hS=>hS.tK (R':=(lg (ns.take (k+1)) (K.put k dB cd eB ce))) (i:=6) (j:=0) (ar:=[1,2,3,4,5,7,8]) rfl rfl KB rfl (Dw (hkl hk) (uO zc)) (BO (hkl hk) (uO zc) rfl)) (aB.mem (λw hS=>hS.tK (R':=(q8 (ns.take (k+1)) (K.put k dB cd eB ce))) (i:=5) (j:=1) (ar:=[0,2,3,4,6,7]) rfl rfl KB rfl (Dx (hkl hk) (uO zc)) (BP (hkl hk) (uO zc) rfl)) (tJ ((k+1),Mh,Mi,(K.put k dB cd eB ce)) [2,3,4,0,1,5] (zc))))))))))))
 refine XX (SR ?_)
 have hkn:k=ns.length:=zc
 have hgt:ns.take k=ns:=by rw [hkn,ahG]
 exact av.cO 2 rfl (by rw [hgt,hkn]) (av.cO 3 rfl (by rw [hgt,hkn]) (av.cO 4 rfl (by rw [hgt,hkn]) (sl 3 (.slice Ao (k) (cp)) (.slice Ao (ns.length) (cp)) (by rw [hkn]) (jC 3 [] [(2,a_ 1 b10)] [(1,[(0,.slice Ao (ns.length) (cp))])] (eS [a_ 1 b10] ⟨Ao,cp,K,rfl,rfl⟩ [2,3,4,5])))))
theorem Ua {β:Bs} (Z:RS) (Y:RL) (hR:dz β Z Y) (hB:RB Z) :
 cr Tryz.prog β 56 #[.agg ⟨rV Z Y⟩] [] (λβ' v l=>∃A1 c1 K G1 g1,v=.agg ⟨rW Z A1 c1 G1 g1 Y.H Y.ch Y.V Y.cv⟩/\l=[.abs (aG 95 10 A1 Z.ns.length c1 (bH K Z.ns)),.abs (aG 3 1 G1 Z.aH.length g1 (bL Z.aH)),.abs (iL (lg Z.ns K) Z.ns.length)]/\∀i,i<Z.ns.length->cV β' (K.eA i) (nd Z.ns i).ah):=by
 have hbg:=hB.aH
 refine o8 Tryz.func56 Tryz.ntmps56 (λaE R=>SR (jB 1 [1] (λb1=>.ay b1 (rV Z Y) 45) (λb1=>jB 1 [2] (λb2=>.ay b2 (rZ) 45) (λb2=>NS (jK 2 [5] [(1,a_ 1 b1)] (gL [] (MQ Y.A Y.c Z.ns Y.L hR.n (by have:=hB.ns;omega) hB.hd) ?_))))))
 rintro _ _ ⟨A1,c1,K,rfl,rfl⟩
 refine jC 2 [] [(1,a_ 4 b1)] [(4,[(0,.slice A1 (Z.ns.length) (c1))])] (NS (jB 2 [3] (λb3=>.ay b3 [] 3) (λb3=>NS (av.mem (λw hS=>hS.oW (i:=6) (b:=b3) (cs:=[]) (e:=3) 1 0 KB rfl Pd) (jK 3 [9,11] [(2,a_ 4 b1)] (mU 6 41 Y.G Z.aH.length Y.cg (bL Z.aH) rfl (hR.g.src) (λA4 c5=>av.cO 6 rfl (by rw [ahy,List.nil_append]) (sl 12 (.slice A4 (0+Z.aH.length) (c5)) (.slice A4 (Z.aH.length) (c5)) (by rw [ahy]) (jK 1 [3] [] (NS (av.ol (Φ:=λβ'=>∀i,i<Z.ns.length->cV β' (K.eA i) (nd Z.ns i).ah) 1 [0,2,3,4,5,6] (eZ:=[.abs (aG 95 10 A1 Z.ns.length c1 (bH K Z.ns)),.abs (iL (lg Z.ns K) Z.ns.length),.abs R,.ay b1 (rW Z A1 c1 Y.G Y.cg Y.H Y.ch Y.V Y.cv) 45,.ay b2 (rZ) 45,.abs (aG 3 1 A4 Z.aH.length c5 (bL Z.aH))]) rfl rfl KB (λF w h β' h1 h2=>afP h h1 h2) (λβ1 cJ hE=>?_)))))) (hl:=by rw [show (bL Z.aH).length=Z.aH.length from ahz ..];omega) (h1:=OY _)))))))
 replace aE:=aE.trans cJ
 exact jC 3 [] [(2,a_ 3 b1)] [(3,[(1,.slice A4 (Z.aH.length) (c5))])] (NS (jC 2 [] [(0,A_ 3 b1 12),(1,A_ 4 b2 12)] [(4,(zC (rW Z A1 c1 A4 c5 Y.H Y.ch Y.V Y.cv)))] (eO [A_ 4 b2 12] aE ⟨A1,c1,K,A4,c5,rfl,rfl,hE⟩ [0,5,1,2])))
end
section
open Go.RowKit Go.Maps bG aF
section b
variable {P:Program} {β:Bs} {f:FuncId} {args:Array Value} {pre pre' R:List HP} {post:Bs->Value->List HP->Prop}
theorem cr.Ng (h:∀β':Bs,mX β R β'->cr P β' f args pre post):cr P β f args (pre++R) post:=by
 intro A w hS
 have h1:=aR.turn hS
 rw [←ahD] at h1
 obtain⟨β',g1,_,g3⟩:=h1.sZ
 refine (h β' g1 A w (aR.turn g3)).mono ?_
 rintro e w' ⟨kx,v,l,dW,h2⟩
 exact⟨kx,v,l,g1.le.trans dW,h2⟩
theorem cr.abq {Φ:Bs->Prop} (h:∀β':Bs,β.le β'->Φ β'->cr P β' f args pre post):cr P β f args (.abs (j5 β Φ)::pre) post:=by
 intro A w hS
 obtain⟨β',g1,g2,g3⟩:=aR.tZ (l:=pre++[.abs A]) hS
 refine (h β' g1 g2 A w g3).mono ?_
 rintro e w' ⟨kx,v,l,dW,h2⟩
 exact⟨kx,v,l,g1.trans dW,h2⟩
theorem cr.ad6 (h:cr P β f args pre' post) (hp:∀A w,aR β (pre++[.abs A]) w->aR β (pre'++[.abs A]) w):cr P β f args pre post:=λA w hS=>h A w (hp A w hS)
end b
section s
variable {β:Bs} {R Z:RS} {Y:RL} {c:aP} {e:Int} {k:Nat}
theorem Mj {A:Option Addr} {p:Nat}:qO R (fk c A p)=fk (qO R c) A p:=by
 unfold qO
 show (if c.op=12 then _ else _:aP)=fk (if c.op=12 then _ else _) A p
 by_cases h:c.op=12
 ·rw [ahf h,ahf h]
  show (match ij R c.aN c.name 64 with|.error e=>_|.ok d=>_:aP)=_
  cases ij R c.aN c.name 64 with
  |error e=>rfl
  |ok d=>
    simp only
    split<;>rfl
 rw [ahe h,ahe h]
 show (match iG R c.aN with|.error e=>_|.ok d=>_:aP)=_
 cases iG R c.aN<;>rfl
theorem DL (h:c.op=11\/c.op=12):tO R c=(R,qO R c):=ahf h
theorem WR (h:¬(c.op=11\/c.op=12)) (h1:(cF R c).2.2=0):tO R c=((cF R c).1,{c with answer:=(cF R c).2.1,code:=0}):=(ahe h).trans (ahf h1)
theorem WS (h:¬(c.op=11\/c.op=12)) (h1:¬(cF R c).2.2=0):tO R c=(R,{c with answer:=0,code:=(cF R c).2.2}):=(ahe h).trans (ahe h1)
abbrev KZ (R:RS) (K:eP):HP:=.abs (iL (lg R.ns K) R.ns.length)
abbrev CX (R:RS) (K:eP) (β:Bs):Prop:=∀i,i<R.ns.length->cV β (K.eA i) (nd R.ns i).ah
theorem GR (hR:dz β Z Y) (hB:RB Z):aX Tryz.prog β 56 #[.agg ⟨rV Z Y⟩] [] (λv l=>∃A1 c1 K G1 g1,v=.agg ⟨rV Z ⟨A1,c1,K,G1,g1,Y.H,Y.ch,Y.V,Y.cv⟩⟩/\l=[.abs (j5 β (CX Z K)),.abs (aG 95 10 A1 Z.ns.length c1 (bH K Z.ns)),.abs (aG 3 1 G1 Z.aH.length g1 (bL Z.aH)),KZ Z K]):=
 (cr.GJ (ι:=Option Addr×Nat×eP×Option Addr×Nat) (vv:=λx=>.agg ⟨rV Z ⟨x.1,x.2.1,x.2.2.1,x.2.2.2.1,x.2.2.2.2,Y.H,Y.ch,Y.V,Y.cv⟩⟩) (ll:=λx=>[.abs (aG 95 10 x.1 Z.ns.length x.2.1 (bH x.2.2.1 Z.ns)),.abs (aG 3 1 x.2.2.2.1 Z.aH.length x.2.2.2.2 (bL Z.aH)),KZ Z x.2.2.1]) (Φ:=λx=>CX Z x.2.2.1)
  ((Ua Z Y hR hB).mono (by rintro β' v l _ ⟨A1,c1,K,G1,g1,rfl,rfl,h⟩;exact⟨(A1,c1,K,G1,g1),rfl,rfl,h⟩))).mono Pe
theorem WT {A1 G1:Option Addr} {c1 g1:Nat} {K:eP} (hR:dz β Z Y) (hC:RC Z) (hD:RD 0 Z) (hn:c.name.size<=1048576) (ht:c.text.size<=1048576) (hb:bJ β c.dA c.data) (hl:c.data.length<=140737488355328) (hc:c.data.length<=c.dC) :
 aX Tryz.prog β 57 #[.agg ⟨rV Z ⟨A1,c1,K,G1,g1,Y.H,Y.ch,Y.V,Y.cv⟩⟩,.agg ⟨aL c⟩] [.abs (j5 β (CX Z K)),.abs (aG 95 10 A1 Z.ns.length c1 (bH K Z.ns)),.abs (aG 3 1 G1 Z.aH.length g1 (bL Z.aH)),KZ Z K]
  (λv l=>∃Y',v=.tuple #[.agg ⟨rV (cF Z c).1 Y'⟩,.int .i64 (cF Z c).2.1,.int .i64 (cF Z c).2.2]/\l=[.abs (j5 β (λβ'=>dz β' (cF Z c).1 Y'))]):=by
 refine (cr.GJ (ι:=RL) (vv:=λY'=>.tuple #[.agg ⟨rV (cF Z c).1 Y'⟩,.int .i64 (cF Z c).2.1,.int .i64 (cF Z c).2.2]) (ll:=λ_=>[]) (Φ:=λY' β'=>dz β' (cF Z c).1 Y') (cr.abq λβ' dW hE=>?_)).mono Pe
 by_cases h9:∃k,c.op=9/\iG Z c.aN=.ok k/\¬(nd Z.ns k).kind=2
 ·obtain⟨k,h1,h2,h3⟩:=h9
  have hk:k<Z.ns.length:=by
   grind [tT]
  refine cr.ad6 (pre':=[.abs (aG 95 10 A1 Z.ns.length c1 (bH K Z.ns)),.abs (aG 3 1 G1 Z.aH.length g1 (bL Z.aH)),.abs (lg Z.ns K k)]++[.abs (iL (nU (lg Z.ns K) k dV.none) Z.ns.length)]) (cr.Ng λkx hL=>?_) (λA w hS=>?_)
  ·have hd:∀i,i<Z.ns.length->i≠k->bJ kx (K.dA i) (nd Z.ns i).data:=by
    obtain⟨F,q1,q2⟩:=hL.get 0 rfl
    refine iL.base q1 q2 rfl (Φ:=λi b=>i≠k->bJ b (K.dA i) (nd Z.ns i).data) (λi _ F hF hO bV=>?_)
    have hF:(HP.abs (lg Z.ns K i)).h F kx.w0:=by
     have e:nU (lg Z.ns K) k dV.none i=lg Z.ns K i:=ahe bV
     rw [e] at hF;exact hF
    exact cD.gU (show (HP.abs (aG 5 1 (K.dA i) (nd Z.ns i).data.length (K.dC i) (dL (nd Z.ns i).data))).h F _ from hF) hO rfl
   have hI:Bb kx Z K Y.H Y.V k:=⟨hd,λi hi=>(hE i hi).le hL.le,(hR.h.le dW).le hL.le,(hR.v.le dW).le hL.le⟩
   refine (WQ Z ⟨A1,c1,K,G1,g1,Y.H,Y.ch,Y.V,Y.cv⟩ k hI hC hk c h1 h2 h3 ((hb.le dW).le hL.le) hl hc).mono ?_
   grind
  have:=hS.Ru (i:=2) (k:=k) rfl hk
  exact this.pick (ar:=[0,1,4,2,3]) rfl rfl
 refine cr.Ng (pre:=[.abs (aG 95 10 A1 Z.ns.length c1 (bH K Z.ns)),.abs (aG 3 1 G1 Z.aH.length g1 (bL Z.aH))]) (R:=[KZ Z K]) λkx hL=>?_
 have hI:lV kx Z K Y.H Y.V:=by
  obtain⟨F,q1,q2⟩:=hL.get 0 rfl
  exact⟨adt q1 q2 rfl,λi hi=>(hE i hi).le hL.le,(hR.h.le dW).le hL.le,(hR.v.le dW).le hL.le⟩
 refine (WN Z ⟨A1,c1,K,G1,g1,Y.H,Y.ch,Y.V,Y.cv⟩ hI hC hD c hn ht (λh1 k h2=>ahF (λh3=>h9 ⟨k,h1,h2,h3⟩))).mono ?_
 grind
end s
end
section
open Go.RowKit Go.Maps bG aF
attribute [local irreducible] av bP aq aB fF cu oA
noncomputable abbrev zX1 (b4:Nat):=(.ay b4 [vI 0,vI 0,vI 0,.string ⟨#[]⟩,.string ⟨#[]⟩,.slice none (0) (0),vI 0,vI 0,vI 0,vI 0,vI 0,vI 0,vI 0] 53:HP)
noncomputable abbrev zX2 (R:dV) (b1:Nat) (Z) (Y:RL) (b2:Nat) (c:aP) (b3:Nat) (b4:Nat) (b5:Nat) (B1) (p1):=([.abs R,.ay b1 (rV Z Y) 45,.ay b2 (aL c) 53,.ay b3 (rZ) 45,zX1 b4,.ay b5 (aL (fk {c with answer:=0} B1 p1)) 53]:List HP)
theorem ZH {β:Bs} (Z:RS) (Y:RL) (hR:dz β Z Y) (hC:RC Z) (hD:RD 0 Z) (c:aP) (hn:c.name.size<=1048576) (ht:c.text.size<=1048576) (hb:bJ β c.dA c.data) (hl:c.data.length<=140737488355328) (hc:c.data.length<=c.dC) :
 cr Tryz.prog β 35 #[.agg ⟨rV Z Y⟩,.agg ⟨aL c⟩] [] (λβ' v l=>∃Y' B p,v=.tuple #[.agg ⟨rV ((tO Z c).1) Y'⟩,.agg ⟨aL (fk (tO Z c).2 B p)⟩]/\l=[]/\dz β' (tO Z c).1 Y'/\bJ β' B c.data):=by
 refine o8 Tryz.func35 Tryz.ntmps35 (λaE R=>SR (jB 1 [2] (λb1=>.ay b1 (rV Z Y) 45) (λb1=>jB 1 [3] (λb2=>.ay b2 (aL c) 53) (λb2=>jB 1 [4] (λb3=>.ay b3 (rZ) 45) (λb3=>jB 1 [5] (λb4=>.ay b4 [vI 0,vI 0,vI 0,.string ⟨#[]⟩,.string ⟨#[]⟩,.slice none (0) (0),vI 0,vI 0,vI 0,vI 0,vI 0,vI 0,vI 0] 53) (λb4=>NS (jN 3 [6] (λb5=>[(0,A_ 2 b2 13),(2,A_ 5 b5 13)]) (λ_=>[]) (λb5=>.ay b5 (aL c) 53) (λb5=>NS (jK 2 [12] [(1,a_ 2 b2)] (gL [] (qg c.dA c.dC c.data hb hl) ?_))))))))))
 rintro _ _ ⟨B1,p1,rfl,rfl⟩
 refine jC 2 [] [(1,a_ 6 b5)] [(6,[(5,.slice B1 (c.data.length) (p1))])] (NS (av.ol (Φ:=λβ'=>bJ β' B1 c.data) 0 [1,2,3,4,5,6] (eZ:=[.abs R,.ay b1 (rV Z Y) 45,.ay b2 (aL c) 53,.ay b3 (rZ) 45,zX1 b4,.ay b5 (aL (fk c B1 p1)) 53]) rfl rfl KB (λF w h β' h1 h2=>cD.gU h h1 h2) (λβ1 cJ Ee=>?_)))
 replace hR:=hR.le cJ
 replace hb:=hb.le cJ
 replace aE:=aE.trans cJ
 refine jC 2 [] [(1,a_ 5 b5)] [(5,[(12,vI 0)])] (NN (aq.seq (aq.seq ?_)))
 by_cases bX:c.op=11\/c.op=12
 ·refine aq.region (jK 4 [19] [(1,a_ 2 b2),(2,w_ (.bool (decide ((c.op:Int)=(11:Int)))) rfl)] (sP 19 ((c.op:Int)=(11:Int)) (λGv=>?_) (λGv=>?_)))
  ·refine jK 4 [23] [] (NT (aq.seq (rM (List.range 7) 4 [1,2,5] (jR 4 [4,5,24,25,26,27] [(0,A_ 0 b1 12),(1,A_ 0 b1 12),(2,A_ 1 b2 13),(3,A_ 2 b5 13)] (mL [1,2,5] [] (Pm Z Y hR hC (fk c B1 p1) hn c.dA c.dC c.answer) ?_ (by rintro _ _ ⟨rfl,rfl⟩;rfl))))))
   rintro _ _ ⟨rfl,rfl⟩
   exact nC [1,2,5] [] [(0,A_ 3 b3 12)] [(3,(zC (rV Z Y)))] (cu.last rfl rfl (jC 1 [] [(0,A_ 4 b4 13)] [(4,(zC (aL (qO Z (fk c B1 p1)))))] (NL (aB.np (NX (aq.ret (aB.bE (rB (.tuple #[.agg ⟨rV Z Y⟩,.agg ⟨aL (qO Z (fk c B1 p1))⟩]) [A_ 3 b3 12,A_ 4 b4 13] [0] aE (⟨Y,B1,p1,by rw [DL bX,Mj]<;>rfl,rfl,by rw [DL bX];exact hR,Ee⟩)))))))))
  refine jK 4 [23] [(1,a_ 2 b2),(2,w_ (.bool (decide ((c.op:Int)=(12:Int)))) rfl)] (NN (cP ((c.op:Int)=(12:Int)) (λh23=>aq.seq (rM (List.range 7) 4 [1,2,5] (jR 4 [4,5,24,25,26,27] [(0,A_ 0 b1 12),(1,A_ 0 b1 12),(2,A_ 1 b2 13),(3,A_ 2 b5 13)] (mL [1,2,5] [] (Pm Z Y hR hC (fk c B1 p1) hn c.dA c.dC c.answer) ?_ (by rintro _ _ ⟨rfl,rfl⟩;rfl))))) (λh23=>ahh bX (by omega))))
  rintro _ _ ⟨rfl,rfl⟩
  exact nC [1,2,5] [] [(0,A_ 3 b3 12)] [(3,(zC (rV Z Y)))] (cu.last rfl rfl (jC 1 [] [(0,A_ 4 b4 13)] [(4,(zC (aL (qO Z (fk c B1 p1)))))] (NL (aB.np (NX (aq.ret (aB.bE (rB (.tuple #[.agg ⟨rV Z Y⟩,.agg ⟨aL (qO Z (fk c B1 p1))⟩]) [A_ 3 b3 12,A_ 4 b4 13] [0] aE (⟨Y,B1,p1,by rw [DL bX,Mj]<;>rfl,rfl,by rw [DL bX];exact hR,Ee⟩)))))))))
 refine aq.region (jK 8 [23] [(1,a_ 2 b2),(2,wF ((c.op:Int)=(11:Int))),(5,a_ 2 b2),(6,wF ((c.op:Int)=(12:Int)))] (NF (KX (aq.seq (aq.rz (S:=[.ay b1 (rV Z Y) 45,.ay b2 (aL c) 53]) (yY [0,2] (oJ 8 [(false,9),(false,10),(false,11)] [(false,1),(false,3),(true,4),(true,5),(true,6),(true,7)])) [1,2] (gT (oJ 8 [(false,9),(false,10),(false,11)] [(false,1),(false,3),(true,4),(true,5),(true,6),(true,7)]) [(2,vP b1),(4,vP b3),(5,vP b4),(6,vP b5),(30,.agg ⟨rV Z Y⟩),(32,.agg ⟨aL c⟩)] [0,2] [(0,A_ 0 b1 12),(1,A_ 1 b2 13)] (oA.one (j:=8) (dj:=7) (R:=λf_ l_=>∃A2:Option Addr,∃c2:Nat,∃K:eP,∃G2:Option Addr,∃g2:Nat,∃Y2:RL,f_=[(36,vI ((cF Z c).2.2)),(35,vI ((cF Z c).2.1)),(34,.agg ⟨rV ((cF Z c).1) Y2⟩),(29,.tuple #[.agg ⟨rV ((cF Z c).1) Y2⟩,vI ((cF Z c).2.1),vI ((cF Z c).2.2)]),(33,.tuple #[.agg ⟨rV ((cF Z c).1) Y2⟩,vI ((cF Z c).2.1),vI ((cF Z c).2.2)]),(31,.agg ⟨rW Z A2 c2 G2 g2 Y.H Y.ch Y.V Y.cv⟩),(2,vP b1),(4,vP b3),(5,vP b4),(6,vP b5),(30,.agg ⟨rV Z Y⟩),(32,.agg ⟨aL c⟩)]/\l_=[.abs (j5 β1 (λβ'=>dz β' (cF Z c).1 Y2))]) [1,2] [(false,1,31),(false,3,33),(true,4,29),(true,5,34),(true,6,35),(true,7,36)] (jt.of (ι:=Nat) (v:=λ(b6:Nat)=>vP b6) (l:=λ(b6:Nat)=>[.ay b6 (rZ) 45]) [31,33,29,34,35,36] rfl rfl rfl rfl ?_) ?_ ?_)))))))
 ·intro u Aq
  exact jB 1 [7] (λb6=>.ay b6 (rZ) 45) (λb6=>NL (MD b6 [7,31,33,29,34,35,36,2,4,5,6,30,32] [1,0]))
 ·refine eF.step (jt.of (ι:=(Option Addr)×Nat×eP×(Option Addr)×Nat) (v:=λ((A2,c2,K,G2,g2):(Option Addr)×Nat×eP×(Option Addr)×Nat)=>.agg ⟨rW Z A2 c2 G2 g2 Y.H Y.ch Y.V Y.cv⟩) (l:=λ((A2,c2,K,G2,g2):(Option Addr)×Nat×eP×(Option Addr)×Nat)=>[.abs (j5 β1 (CX Z K)),.abs (aG 95 10 A2 Z.ns.length c2 (bH K Z.ns)),.abs (aG 3 1 G2 Z.aH.length g2 (bL Z.aH)),.abs (iL (lg Z.ns K) Z.ns.length)]) [7] rfl rfl rfl rfl ?_) ?_
  ·intro u Aq
   refine gL [] (GR hR hC.toRB) ?_
   rintro _ _ ⟨A2,c2,K,G2,g2,rfl,rfl⟩
   exact NL (MD (A2,c2,K,G2,g2) [31,7,2,4,5,6,30,32] [0,1,2,3,4])
  rintro _ _ ⟨⟨A2,c2,K,G2,g2⟩,rfl,rfl⟩
  refine (eF.step (jt.of (ι:=RL) (v:=λ(Y2:RL)=>.tuple #[.agg ⟨rV ((cF Z c).1) Y2⟩,vI ((cF Z c).2.1),vI ((cF Z c).2.2)]) (l:=λ(Y2:RL)=>[.abs (j5 β1 (λβ'=>dz β' (cF Z c).1 Y2))]) [7] rfl rfl rfl rfl ?_) ?_)
  ·intro u Aq
   exact gX [0,1,2,3] (WT (A1:=A2) (c1:=c2) (K:=K) (G1:=G2) (g1:=g2) hR hC hD hn ht hb hl hc) (λY2=>NL (MD Y2 [33,7,31,2,4,5,6,30,32] [0,1]))
  rintro _ _ ⟨Y2,rfl,rfl⟩
  exact (eF.read (.tuple #[.agg ⟨rV ((cF Z c).1) Y2⟩,vI ((cF Z c).2.1),vI ((cF Z c).2.2)]) (eF.read (.agg ⟨rV ((cF Z c).1) Y2⟩) (eF.read (.int .i64 ((cF Z c).2.1)) (eF.read (.int .i64 ((cF Z c).2.2)) ⟨A2,c2,K,G2,g2,Y2,rfl,rfl⟩))))
 rintro _ _ ⟨A2,c2,K,G2,g2,Y2,rfl,rfl⟩ _ _ ⟨b6,rfl,rfl⟩
 refine kC [3,4] [] [(0,A_ 1 b6 12)] [(1,(zC (rV ((cF Z c).1) Y2)))] (fF.cut (ι:=Unit) (bY:=λ(_:Unit)=>[(2,vP b1),(4,vP b3),(5,vP b4),(6,vP b5),(7,vP b6),(8,vI ((cF Z c).2.1)),(36,vI ((cF Z c).2.2))]) (dK:=λ(_:Unit)=>([.abs (j5 β1 (λβ'=>dz β' (cF Z c).1 Y2)),.ay b6 (rV ((cF Z c).1) Y2) 45]++zX2 R b1 Z Y b2 c b3 b4 b5 B1 p1)) [3,4] KB ?_ rfl (λ_=>KB) ?_)
 ·exact jK 1 [8] [] (NL (MD () [2,4,5,6,7,8,36] [0,1,2,3,4,5,6,7]))
 rintro _
 refine fF.last KB (jK 1 [9] [] (NL (aB.np (NX (SR (av.tZ 0 [1,2,3,4,5,6,7] (eZ:=([.ay b6 (rV ((cF Z c).1) Y2) 45]++zX2 R b1 Z Y b2 c b3 b4 b5 B1 p1)) rfl rfl KB (λJX kU yI=>?_)))))))
 replace hR:=hR.le kU
 replace Ee:=Ee.le kU
 replace aE:=aE.trans kU
 exact jC 3 [] [(2,a_ 6 b5)] [(6,[(11,vI ((cF Z c).2.2))])] (NZ (jK 2 [40] [] (NN (cN (((cF Z c).2.2:Int)=(0:Int)) (λuj=>aq.seq (rM [0,1,2,3] 2 [2,6] (jR 2 [4,5,41,42] [(0,A_ 0 b1 12),(1,A_ 1 b5 13)] (nC [2,6] [] [(0,A_ 4 b3 12)] [(4,(zC (rV Z Y)))] (cu.last rfl rfl (jC 1 [] [(0,A_ 5 b4 13)] [(5,[(0,vI (c.op)),(1,vI (c.aN)),(2,vI (c.other)),(3,.string c.name),(4,.string c.text),(5,.slice B1 (c.data.length) (p1)),(6,vI (c.mode)),(7,vI (c.bg)),(8,vI (c.bh)),(9,vI (c.aU)),(10,vI (c.aJ)),(11,vI ((cF Z c).2.2))])] (NL (aB.np (NX (aq.ret (aB.bE (rB (.tuple #[.agg ⟨rV Z Y⟩,.agg ⟨aL (fk {c with code:=(cF Z c).2.2,answer:=0} B1 p1)⟩]) [A_ 4 b3 12,A_ 5 b4 13] [1] aE (⟨Y,B1,p1,by rw [WS bX uj]<;>rfl,rfl,by rw [WS bX uj];exact hR,Ee⟩))))))))))))) (λuj=>KX (SR (jC 3 [] [(2,a_ 6 b5)] [(6,[(12,vI ((cF Z c).2.1))])] (NN (aq.seq (rM [0,1,2,3] 2 [0,6] (jR 2 [4,5,45,46] [(0,A_ 0 b6 12),(1,A_ 1 b5 13)] (nC [0,6] [] [(0,A_ 4 b3 12)] [(4,(zC (rV ((cF Z c).1) Y2)))] (cu.last rfl rfl (jC 1 [] [(0,A_ 5 b4 13)] [(5,(zC (aL (fk {c with code:=(cF Z c).2.2,answer:=(cF Z c).2.1} B1 p1))))] (NL (aB.np (NX (aq.ret (rB (.tuple #[.agg ⟨rV ((cF Z c).1) Y2⟩,.agg ⟨aL (fk {c with code:=(cF Z c).2.2,answer:=(cF Z c).2.1} B1 p1)⟩]) [A_ 4 b3 12,A_ 5 b4 13] [1] aE (⟨Y2,B1,p1,by rw [WR bX uj,uj]<;>rfl,rfl,by rw [WR bX uj];exact yI,Ee⟩))))))))))))))))))))
end
section
def core (o:bM):bM:={o with aV:=0,aK:=0,aH:=false,up:=none}
end
section
open Go.RowKit Go.Maps bG aF
noncomputable section
def tX (us:bF Th):bF Int:=us.map (λp=>(p.1,(p.2.k:Int)))
def bW (S:bB) (t:Th):Nat:=cq (aY S) (t.k:Int)
def toR (S:bB) (g:List Int):RS:=⟨aY S,g,tX S.us,S.aI,S.X.cN,S.X.cB,S.X.cH,S.X.cS,S.X.cZ,S.X.last⟩
structure xE (ar:bF Th) (O:eu) (g:List Int):Prop where
 Cz:∀t,aT ar t->((t.k:Int)∈g↔(af O t.k).aH=true)
 live:∀z∈g,∃t,aT ar t/\(t.k:Int)=z
structure qC (ar:bF Th):Prop where
 fO:aF.dH (bn ar)
 key:∀p∈ar,p.1=(p.2.k:Int)
end
section p
variable {S:bB} {g:List Int} {t u:Th} {d k i j:Nat} {name:ByteArray} {O O':eu} {h d6 id:Int} {es:ja Th} {X:FM}
theorem Inv0.ix (h:Inv0 S):qC S.ar:=⟨h.fO,λ_ hp=>h.key (oI h.fO hp)⟩
theorem Gc (hx:qC S.ar) (hi:i<S.ar.length):aT S.ar (jr S i)/\gI S i=((jr S i).k:Int):=by
 have hm:=ahN (yt hi)
 have hk:=hx.key _ hm
 have hg:=oI hx.fO hm
 grind [gI,jr,aT]
theorem K1 (hx:qC S.ar) (hij:i<j) (hj:j<S.ar.length):gI S i<gI S j:=by
 have h1:=OI (S:=S) (show i<S.ar.length by omega)
 have h2:=OI hj
 obtain⟨g1,e1⟩:=List.getElem?_eq_some_iff.1 h1
 obtain⟨g2,e2⟩:=List.getElem?_eq_some_iff.1 h2
 have:=aib.1 hx.fO i j g1 g2 hij
 rw [e1,e2] at this
 exact this
theorem Pu (hx:qC S.ar):dH (aY S):=λi j hij hj=>by
 rw [ig] at hj
 rw [pP zc,pP hj]
 exact K1 hx hij hj
theorem JY (hx:qC S.ar) (hi:i<S.ar.length) (hj:j<S.ar.length) (e:gI S i=gI S j):i=j:=by
 rcases ah4 i j with h1|h1|h1
 ·have:=K1 hx h1 hj;omega
 ·exact h1
 have:=K1 hx h1 hi;omega
theorem nR (hI:qC S.ar) (hl:aT S.ar t):bW S t<(aY S).length/\bW S t<S.ar.length/\jr S (bW S t)=t/\gI S (bW S t)=(t.k:Int)/\gJ (aY S) (t.k:Int)=(bW S t:Int)/\nd (aY S) (bW S t)=jS S.O (t.k:Int) t:=by
 grind [adD,nd,aY,pP,Hf,Pu,ig,bW,cq,aT,jr,gI,gJ,jS]
theorem Sk (hI:qC S.ar) (hl:aT S.ar t) (hu:aT S.ar u) (e:bW S t=bW S u):t=u:=by
 have h1:=(nR hI hl).2.2.1
 rw [e,(nR hI hu).2.2.1] at h1
 exact h1.symm
theorem acn {us:bF Th}:aF.get (tX us) h=(aF.get us h).map (λt=>(t.k:Int)):=get_map (λt:Th=>(t.k:Int)) us h
theorem CY {us:bF Th}:(tX us).length=us.length:=ahz ..
theorem Ip {us:bF Th}:bn (tX us)=bn us:=keys_map (λt:Th=>(t.k:Int)) us
theorem Fa {us:bF Th}:aF.aS (tX us)=aF.aS us:=by unfold aF.aS;rw [Ip]
theorem Sl {us:bF Th}:tX (ins h t us)=ins h (t.k:Int) (tX us):=Ku (λt:Th=>(t.k:Int)) h t us
theorem Sm {us:bF Th}:tX (del h us)=del h (tX us):=Kv (λt:Th=>(t.k:Int)) h us
theorem aco {us:bF Th}:(k:Int)∈iZ (tX us)↔0<hnd us k:=by
 unfold iZ tX hnd
 rw [List.map_map]
 induction us with
 |nil=>simp [gV]
 |cons p r ih=>
   grind [gV]
theorem WU (n:ByteArray):∀es:ja Th,BN (es.map (gA O)) n=es.findIdx? (λe=>decide (e.1=n)):=λes=>by
 unfold BN
 rw [List.findIdx?_map];rfl
theorem Pv (n:ByteArray):∀es:ja Th,bN n es=(es.findIdx? (λe=>decide (e.1=n))).map (tY es)
 |[]=>rfl
 |e::r=>by
   rw [qq,List.findIdx?_cons]
   by_cases hn:e.1=n
   ·rw [ahf hn];simp [hn,tY]
   rw [ahe hn,Pv n r]
   simp only [hn,decide_false,Bool.false_eq_true,if_false,Option.map_map]
   congr 1
theorem Pw (hid:∀x,(af O' x).id=(af O x).id) (ht:(af O t.k).id=id):∀es:ja Th,(kO name t es).map (gA O')=mP name id (es.map (gA O))
 |[]=>by
   show [gA O' (name,t)]=[⟨name,id⟩]
   unfold gA;rw [hid,ht]
 |e::r=>by
   have he:gA O' e=gA O e:=by unfold gA;rw [hid]
   have hr:r.map (gA O')=r.map (gA O):=ahR (λx _=>by unfold gA;rw [hid])
   unfold kO
   rw [ahM]
   unfold mP
   show _=if ¬jA e.1 name then _ else _
   split
   ·rw [ahM,ahM,he,hr]
    congr 1
    unfold gA;rw [hid,ht]
   rw [ahM,he,Pw hid ht r]
theorem ZI (hid:∀x,(af O' x).id=(af O x).id):(kE name es).map (gA O')=rY name (es.map (gA O)):=by
 unfold kE rY
 rw [List.filter_map]
 have:es.map (gA O')=es.map (gA O):=ahR (λx _=>by unfold gA;rw [hid])
 have h2:(es.filter (λe=>decide (e.1≠name))).map (gA O')=(es.filter (λe=>decide (e.1≠name))).map (gA O):=ahR (λx _=>by unfold gA;rw [hid])
 rw [h2];rfl
theorem Px {z:Int}:∀es:List fH,(∀e∈es,e.name≠name)->rf name es z=z
 |[],_=>rfl
 |e::r,hn=>by
   unfold rf
   rw [ahe (hn e (ahr ..)),Px r (λx hx=>hn x (ahq _ hx))]
theorem Sn {z:Int}:∀es:ja Th,qf es->bN name es=some t->rf name (es.map (gA O)) z=(af O t.k).id
 |[],_,h=>by cases h
 |e::r,hd,h=>by
   rw [qq] at h
   rw [ahM]
   unfold rf
   show rf name (r.map (gA O)) (if e.1=name then (af O e.2.k).id else z)=_
   by_cases hn:e.1=name
   ·rw [ahf hn] at h ⊢
    injection h with h
    rw [h]
    refine Px _ (λx hx=>?_)
    obtain⟨y,hy,rfl⟩:=ahx.1 hx
    exact λq=>(ahw.1 hd).1 y hy (hn.trans q.symm)
   rw [ahe hn] at h ⊢
   exact Sn r (ahw.1 hd).2 h
theorem Fb (hc:core (af O' t.k)=core (af O t.k)) (hid:∀x,(af O' x).id=(af O x).id):jS O' id t=jS O id t:=by
 have f:∀{α:Type} (g:bM->α),(∀o,g (core o)=g o)->g (af O' t.k)=g (af O t.k):=λg hg=>by rw [←hg,hc,hg]
 have he:gA O'=gA O:=by grind [gA]
 grind [jS,core,af]
theorem DM {S':bB} (hi:S'.ar=S.ar) (hc:∀x,core (af S'.O x)=core (af S.O x)):aY S'=aY S:=by
 grind [aY,Fb,core,af]
theorem Fc (hI:qC S.ar) (hl:aT S.ar t) {S':bB} (hi:S'.ar=S.ar) (hc:∀x,x≠t.k->core (af S'.O x)=core (af S.O x)) (hid:(af S'.O t.k).id=(af S.O t.k).id):aY S'=(aY S).set (bW S t) (jS S'.O (t.k:Int) t):=by
 have ag3:∀x,(af S'.O x).id=(af S.O x).id:=λx=>by
  grind [aT,core,af,aY,bW,jS]
 obtain⟨h1,h2,h3,h4,_⟩:=nR hI hl
 apply List.ext_getElem?
 grind [aY,bW,yt,Fb,Gc,jx,nR,JY]
theorem WW {ar:bF Th} {f:Int×Th->aO} (hr:aF.dH (bn ar)) (hk:∀p∈ar,p.1=(p.2.k:Int)) {q:aO->Bool} {b:Bool} (hq:∀p∈ar,q (f p)=true↔¬(p.2=t/\b=true)) (hl:aT ar t):(ar.map f).filter q=(if b=true then del (t.k:Int) ar else ar).map f:=by
 rw [List.filter_map]
 by_cases hb:b=true
 ·rw [ahf hb]
  unfold del
  refine ahg (List.map f) (List.filter_congr (λp hp=>?_))
  have h1:=hq p hp
  have h2:(q ∘ f) p=true↔decide (p.1≠(t.k:Int))=true:=by
   show q (f p)=true↔_
   rw [h1,decide_eq_true_iff]
   refine not_congr ⟨λh=>by rw [hk p hp,h.1],λh=>⟨?_,hb⟩⟩
   have h3:aF.get ar p.1=some p.2:=oI hr hp
   grind [bn,aT,del]
  exact Bool.eq_iff_iff.2 (h2.trans ahd)
 rw [ahe hb]
 exact ahg (List.map f) (List.filter_eq_self.2 (λp hp=>(hq p hp).2 (λh=>hb h.2)))
end p
section v
variable {S S':bB} {g:List Int} {t u:Th} {d to k i j:Nat} {name aD:ByteArray} {O O':eu} {h d6 id:Int} {es:ja Th}
structure RelR (S:bB) (g:List Int):Prop where
 inv:bT S
 aH:xE S.ar S.O g
theorem DN:iG (toR S g) h=match aF.get S.us h with|none=>.error 131|some t=>.ok (bW S t):=by
 grind [iG,tX,acn,toR,bW]
theorem qh (hr:RelR S g):ij (toR S g) h name d6=match iO S.O S.us h name d6 with|.error e=>.error e|.ok d=>.ok (bW S ⟨d,2⟩):=by
 unfold ij iO
 rw [DN]
 cases e:aF.get S.us h with
 |none=>rfl
 |some t=>
   have hl:=(hr.inv.us _ _ e).1
   have hp:=(nR hr.inv.ix hl).2.2.2.2.2
   simp only
   have hp2:nd (toR S g).ns (bW S t)=jS S.O (t.k:Int) t:=hp
   rw [hp2]
   show (if t.kind=2 then if (t.k:Int)∈g then _ else if cA name then if bits BinOp.and .i64 (af S.O t.k).mode d6=d6 then Except.ok (bW S t) else _ else _ else _)=_
   by_cases h2:t.kind=2
   ·have ht:t=⟨t.k,2⟩:=by rw [←h2]
    rw [ahf h2,ahf h2]
    by_cases hg:(t.k:Int)∈g
    ·rw [ahf hg,ahf ((hr.aH.Cz t hl).1 hg)]
    rw [ahe hg,ahe (λq=>hg ((hr.aH.Cz t hl).2 q))]
    grind
   rw [ahe h2,ahe h2]
theorem WX {es:ja Th} (hj:j<es.length):en (es.map (gA O)) j=⟨nX es j,(af O (tY es j).k).id⟩:=by
 grind [en,Dy,gA,nX,af,tY]
theorem ZJ (hI:Inv0 S) (hd:aT S.ar ⟨d,2⟩):bZ (aY S) (bW S ⟨d,2⟩) name=match bN name (af S.O d).ah with|none=>-1|some t=>(bW S t:Int):=by
 unfold bZ
 rw [(nR hI.ix hd).2.2.2.2.2]
 show (match BN ((af S.O d).ah.map (gA S.O)) name with|none=>_|some j=>gJ (aY S) (en ((af S.O d).ah.map (gA S.O)) j).id)=_
 rw [WU,Pv]
 cases e:(af S.O d).ah.findIdx? (λe=>decide (e.1=name)) with
 |none=>rfl
 |some j=>
   have hj:j<(af S.O d).ah.length:=by
    rw [ahY] at e
    exact e.1
   show gJ (aY S) (en ((af S.O d).ah.map (gA S.O)) j).id=(bW S (tY (af S.O d).ah j):Int)
   have hl:aT S.ar (tY (af S.O d).ah j):=(hI.ah _ hd _ (ahN (Dy hj))).2
   rw [WX hj,(hI.ob _ hl).1,(nR hI.ix hl).2.2.2.2.1]
theorem Py (hI:Inv0 S):vO (toR S g)↔Room S.X S.ar:=by
 have h1:(dM (aY S) (aY S).length:Int)=S.X.ah:=by rw [ig,E0];exact hI.total.1.symm
 grind [aY,dM,ig,vO,toR,Room]
theorem Pz (hI:Inv0 S):(fW (toR S g).ns (toR S g).ns.length:Int)=S.X.used:=by
 show (fW (aY S) (aY S).length:Int)=_
 rw [ig,Pa];exact hI.used.1.symm
theorem DP (hx:qC S.ar) (hd:aT S.ar ⟨d,2⟩) (htd:t.k≠d) (hid:(af S.O t.k).id=id) (hS:S'={S with X:=S'.X,O:=dg S.X S.O d name t,us:=S'.us,aI:=S'.aI}):aY S'=nK S.X.cS S.X.cZ (aY S) (bW S ⟨d,2⟩) (mP name id (nd (aY S) (bW S ⟨d,2⟩)).ah):=by
 have hO:S'.O=dg S.X S.O d name t:=by rw [hS]
 have yM:∀x,(af (dg S.X S.O d name t) x).id=(af S.O x).id:=λx=>mo (g:=bM.id) (λ_ _=>rfl) (λ_ _=>rfl) (λ_ _ _=>rfl) (λ_ _=>rfl)
 rw [Fc hx hd (S':=S') (by rw [hS]) (λx bV=>by rw [hO,s5 htd,ahe bV];split<;>rfl) (by rw [hO];exact yM d)]
 unfold nK
 rw [(nR hx hd).2.2.2.2.2,hO]
 congr 1
 show (⟨(d:Int),2,(af (dg S.X S.O d name t) d).mode,(af (dg S.X S.O d name t) d).bg,(af (dg S.X S.O d name t) d).bh,(af (dg S.X S.O d name t) d).aU,(af (dg S.X S.O d name t) d).aJ,(af (dg S.X S.O d name t) d).data,(af (dg S.X S.O d name t) d).target,(af (dg S.X S.O d name t) d).ah.map (gA (dg S.X S.O d name t))⟩:aO)=_
 have h1:(af (dg S.X S.O d name t) d)={af S.O d with ah:=kO name t (af S.O d).ah,aU:=S.X.cS,aJ:=S.X.cZ}:=by rw [s5 htd,ahf rfl]
 rw [h1]
 show (⟨_,_,_,_,_,_,_,_,_,(kO name t (af S.O d).ah).map (gA (dg S.X S.O d name t))⟩:aO)=_
 rw [Pw (O:=S.O) yM hid];rfl
theorem zw (hx:qC S.ar) (hd:aT S.ar ⟨d,2⟩) (htd:t.k≠d) (hi:S'.ar=S.ar) (hO:∀x,core (af S'.O x)=core (af (bw S.X S.O d name t) x)):aY S'=nK S.X.cS S.X.cZ (aY S) (bW S ⟨d,2⟩) (rY name (nd (aY S) (bW S ⟨d,2⟩)).ah):=by
 have yM:∀x,(af (bw S.X S.O d name t) x).id=(af S.O x).id:=λx=>eW (g:=bM.id) (λ_ _=>rfl) (λ_ _=>rfl) (λ_ _ _=>rfl)
 have e1:aY S'=aY {S with O:=bw S.X S.O d name t}:=DM (S:={S with O:=bw S.X S.O d name t}) hi hO
 rw [e1,Fc hx hd (S':={S with O:=bw S.X S.O d name t}) rfl (λx bV=>by
  show core (af (bw S.X S.O d name t) x)=_
  rw [lf htd,ahe bV];split<;>rfl) (yM d)]
 unfold nK
 rw [(nR hx hd).2.2.2.2.2]
 congr 1
 show (⟨(d:Int),2,(af (bw S.X S.O d name t) d).mode,(af (bw S.X S.O d name t) d).bg,(af (bw S.X S.O d name t) d).bh,(af (bw S.X S.O d name t) d).aU,(af (bw S.X S.O d name t) d).aJ,(af (bw S.X S.O d name t) d).data,(af (bw S.X S.O d name t) d).target,(af (bw S.X S.O d name t) d).ah.map (gA (bw S.X S.O d name t))⟩:aO)=_
 have h1:(af (bw S.X S.O d name t) d)={af S.O d with ah:=kE name (af S.O d).ah,aU:=S.X.cS,aJ:=S.X.cZ}:=by rw [lf htd,ahf rfl]
 rw [h1]
 show (⟨_,_,_,_,_,_,_,_,_,(kE name (af S.O d).ah).map (gA (bw S.X S.O d name t))⟩:aO)=_
 rw [ZI (O:=S.O) yM];rfl
theorem DQ {es:ja Th} (hid:∀e∈es,(af O e.2.k).id=(e.2.k:Int)):∀j,j<=es.length->iW (es.map (gA O)) (k:Int) j=(es.take j).countP (λe=>decide (e.2.k=k))
 |0,_=>rfl
 |j+1,hj=>by
   rw [iW,DQ hid j zc,ahK,Dy (show j<es.length by omega),List.countP_append,WX zc]
   congr 1
   have:=hid _ (ahN (Dy (show j<es.length by omega)))
   have h2:(af O (tY es j).k).id=((tY es j).k:Int):=this
   simp only [h2,Option.toList,List.countP_cons,List.countP_nil]
   by_cases hk:(tY es j).k=k
   ·simp [hk]
   simp [hk]
   omega
theorem WY (hid:∀i,i<S.ar.length->∀e∈(af S.O (jr S i).k).ah,(af S.O e.2.k).id=(e.2.k:Int)):uh (aY S) (k:Int)=(nG S.ar S.O k:Int):=by
 unfold uh
 rw [ig]
 have h:=Ca (S:=S) (λo=>o.ah.countP (λe=>decide (e.2.k=k))) (λns n=>nP ns (k:Int) n) (λ_=>rfl) (λi hi=>by
  show nP (aY S) _ i+iW (nd (aY S) i).ah _ (nd (aY S) i).ah.length=_
  rw [pP hi]
  show _+iW ((af S.O (jr S i).k).ah.map (gA S.O)) _ ((af S.O (jr S i).k).ah.map (gA S.O)).length=_
  rw [ahz,DQ (hid i hi) _ (aho _),ahG]) S.ar.length (aho _)
 rw [ahG] at h
 exact ahg Nat.cast h
theorem QZ (hI:Inv0 S) (hd:aT S.ar ⟨d,2⟩) (hl:bN name (af S.O d).ah=some t) (hi:S'.ar=S.ar) (hO:∀x,core (af S'.O x)=core (af (bw S.X S.O d name t) x)):uh (aY S') (t.k:Int)=(af S.O t.k).aV-1:=by
 have htd:=hI.ne hd hl
 have yM:∀x,(af S'.O x).id=(af S.O x).id:=λx=>(show (af S'.O x).id=(af (bw S.X S.O d name t) x).id by have h:=ahg bM.id (hO x);exact h).trans (eW (g:=bM.id) (λ_ _=>rfl) (λ_ _=>rfl) (λ_ _ _=>rfl))
 have BK:∀x,(af S'.O x).ah=(af (bw S.X S.O d name t) x).ah:=λx=>by have h:=ahg bM.ah (hO x);exact h
 have he:∀x,(af S'.O x).ah=if x=d then kE name (af S.O d).ah else (af S.O x).ah:=λx=>by
  grind [lf]
 rw [WY (λi hi2 e hem=>by
  rw [yM]
  rw [hi] at hi2
  have qK:jr S' i=jr S i:=by unfold jr;rw [hi]
  rw [qK,he] at hem
  have ck:=(Gc hI.ix hi2).1
  have:e∈(af S.O (jr S i).k).ah:=by
   grind [Oh]
  exact (hI.ob _ (hI.ah _ ck _ this).2).1),hi]
 have h1:=Oi (q:=λe=>decide (e.2.k=t.k)) (O':=S'.O) hI.fO hd (λ_ _ e=>hI.key e) (λx hx=>by rw [he,ahe hx]) (by rw [he,ahf rfl]) (hI.pX hd) hl
 have h2:=hI.aV t (hI.bU hd hl).2
 grind [nG]
theorem ZK {V:Type} {z:Int} {p:Int×V} {us:bF V}:p∈del z us↔p∈us/\p.1≠z:=by
 unfold del
 rw [List.mem_filter]
 simp
theorem Ce {S1 S2:bB} {O2:eu} {PA:bF Th} {R:RS} (hx:qC S1.ar) (hns:R.ns=aY S1) (iA:R.us=tX PA) (hg:xE S1.ar O2 R.aH) (hl:aT S1.ar t)
 (hfull:∀u,aT S1.ar u->u≠t->(af O2 u.k).aH=true->0<hnd PA u.k) (bX:(af O2 t.k).aK=(hnd PA t.k:Int)) (hid:(af O2 t.k).id=(t.k:Int))
 (hi:S2.ar=kW O2 S1.ar t) (hc:∀x,core (af S2.O x)=core (af S1.O x)) (hgo:∀x,(af S2.O x).aH=(af O2 x).aH) :
 (gn R).ns=aY S2/\xE S2.ar S2.O (gn R).aH:=by
 have yM:∀x,(af S2.O x).id=(af S1.O x).id:=λx=>by have h:=ahg bM.id (hc x);exact h
 have kA:∀p∈S1.ar,aT S1.ar p.2:=λp hp=>by
  unfold aT;rw [←hx.key p hp];exact oI hx.fO hp
 have hkept:∀p∈S1.ar,r8 R (jS S1.O p.1 p.2)=true↔¬(p.2=t/\decide (uE O2 t)=true):=λp hp=>by
  have hlp:=kA p hp
  show decide (p.1∈R.aH->p.1∈iZ R.us)=true↔_
  rw [decide_eq_true_iff,hx.key p hp,hg.Cz _ hlp,iA,aco,decide_eq_true_iff]
  constructor
  ·rintro h ⟨h1,h2⟩
   rw [h1] at h
   have:=h h2.1
   have h3:=h2.2
   rw [bX] at h3
   omega
  intro h j6
  by_cases hpt:p.2=t
  ·rw [hpt] at j6 ⊢
   have:¬(af O2 t.k).aK=0:=λq=>h ⟨hpt,j6,q⟩
   rw [bX] at this
   omega
  exact hfull _ hlp hpt j6
 have ad7:(gn R).ns=aY S2:=by
  show R.ns.filter (r8 R)=aY S2
  rw [hns]
  unfold aY
  rw [WW hx.fO hx.key hkept hl,hi]
  grind [kW,jS,Fb,uE]
 refine⟨ad7,?_⟩
 have hsub:∀u,aT S2.ar u->aT S1.ar u:=λu hu=>by
  grind [kW,aT,zB]
 have hx2:qC S2.ar:=by
  rw [hi]
  unfold kW
  split
  ·refine⟨?_,λp hp=>hx.key p (ZK.1 hp).1⟩
   unfold bn del
   exact hx.fO.sublist (List.Sublist.map _ List.filter_sublist)
  exact hx
 have hmem:∀z,z∈(gn R).aH↔(z∈R.aH/\∃p∈S2.ar,p.1=z):=λz=>by
  show z∈((gn R).ns.filter (λn=>decide (n.id∈R.aH))).map aO.id↔_
  rw [ad7]
  simp only [ahx,List.mem_filter,decide_eq_true_iff]
  constructor
  ·rintro⟨n,⟨h1,h2⟩,h3⟩
   obtain⟨p,hp,rfl⟩:=ahx.1 h1
   exact⟨by rw [←h3];exact h2,p,hp,h3⟩
  rintro⟨h1,p,hp,h2⟩
  exact⟨jS S2.O p.1 p.2,⟨ahx.2 ⟨p,hp,rfl⟩,by show p.1∈_;rw [h2];exact h1⟩,h2⟩
 refine⟨λu hu=>?_,λz hz=>?_⟩
 ·rw [hmem,hg.Cz u (hsub u hu),hgo]
  exact⟨λh=>h.1,λh=>⟨h,_,get_mem hu,rfl⟩⟩
 obtain⟨_,p,hp,h1⟩:=(hmem z).1 hz
 refine⟨p.2,?_,(hx2.key p hp).symm.trans h1⟩
 unfold aT;rw [←hx2.key p hp];exact oI hx2.fO hp
end v
def ez (a:wN) (code:Int) (S':bB) (an:Int):Prop:=a.2.2=code/\(code=0->∃g',a.1=toR S' g'/\xE S'.ar S'.O g'/\a.2.1=an)
section w
variable {S S':bB} {g:List Int} {t u:Th} {d to k i j:Nat} {name aD:ByteArray} {O O':eu} {h d6 id z:Int} {c:aP} {R:RS}
theorem ez.bad {a:wN} {e an:Int} {S':bB} (h:a.2.2=e) (he:e≠0):ez a e S' an:=⟨h,λq=>ahh q he⟩
theorem WZ (h1:R.ns=aY S') (h3:R.us=tX S'.us) (h4:R.aI=S'.aI) (h5:R.cN=S'.X.cN/\R.cB=S'.X.cB/\R.cH=S'.X.cH/\R.cS=S'.X.cS/\R.cZ=S'.X.cZ/\R.last=S'.X.last):R=toR S' R.aH:=by
 obtain⟨ns,aH,us,aI,cN,cB,cH,cS,cZ,last⟩:=R
 grind [aY,tX,toR]
theorem xE.same {ar:bF Th} (h:xE ar O g) (hg:∀x,(af O' x).aH=(af O x).aH):xE ar O' g:=⟨λt ht=>(h.Cz t ht).trans (by rw [hg]),h.live⟩
theorem PB (hI:Inv0 S) (z:Int):gJ (aY S) z=match aF.get S.ar z with|none=>-1|some t=>(bW S t:Int):=by
 cases e:aF.get S.ar z with
 |none=>
   refine Dh (λj hj he=>?_)
   rw [ig] at hj
   rw [pP hj] at he
   have h1:gI S j=z:=he
   have h2:=(KM hI hj)
   have h3:aF.get S.ar ((jr S j).k:Int)=some (jr S j):=h2.1
   rw [←h2.2,h1,e] at h3
   cases h3
 |some t=>
   have hk:=(hI.ar _ _ e).1
   have hl:aT S.ar t:=by show aF.get S.ar (t.k:Int)=some t;rw [←hk];exact e
   show gJ (aY S) z=_
   rw [hk];exact (nR hI.ix hl).2.2.2.2.1
theorem Iq (hI:Inv0 S) (e:aF.get S.ar z=some t):aT S.ar t/\z=(t.k:Int):=by
 have hk:=(hI.ar _ _ e).1
 grind [aT]
theorem nh (hI:Inv0 S) (hl:aT S.ar t):nd (toR S g).ns (bW S t)=jS S.O (t.k:Int) t:=(nR hI.ix hl).2.2.2.2.2
theorem ez.ok {a:wN} {an:Int} (hc:a.2.2=0) (h1:a.1.ns=aY S') (h3:a.1.us=tX S'.us) (h4:a.1.aI=S'.aI) (h5:a.1.cN=S'.X.cN/\a.1.cB=S'.X.cB/\a.1.cH=S'.X.cH/\a.1.cS=S'.X.cS/\a.1.cZ=S'.X.cZ/\a.1.last=S'.X.last) (hg:xE S'.ar S'.O a.1.aH) (ha:a.2.1=an):ez a 0 S' an:=
 ⟨hc,λ_=>⟨_,WZ h1 h3 h4 h5,hg,ha⟩⟩
theorem ez.same {an:Int} (hr:RelR S g) (ha:an=0):ez (toR S g,0,0) 0 S an:=⟨rfl,λ_=>⟨g,rfl,hr.aH,ha.symm⟩⟩
theorem Ir (hr:RelR S g) (hl:aT S.ar t):ez (kY (toR S g) (bW S t)) (eH S t).2.1 (eH S t).2.2 (eH S t).1:=by
 have jy:(toR S g).us.length=S.us.length:=CY
 unfold kY
 by_cases hc:(S.us.length:Int)<S.X.cH
 ·rw [ox hc,ahf (by rw [jy];exact hc)]
  refine .ok rfl ?_ ?_ ?_ ⟨rfl,rfl,rfl,rfl,rfl,rfl⟩ (hr.aH.same (λx=>eT (g:=bM.aH) (λ_=>rfl))) Fa
  ·show aY S=aY _
   exact (DM (S:=S) (S':={S with O:=aZ S.O t.k (λo=>{o with aK:=o.aK+1}),us:=ins (aS S.us) t S.us,aI:=max S.aI ((S.us.length:Int)+1)}) rfl (λx=>eT (g:=core) (f:=λo=>{o with aK:=o.aK+1}) (λ_=>rfl))).symm
  ·show ins (aS (tX S.us)) (nd (toR S g).ns (bW S t)).id (tX S.us)=tX (ins (aS S.us) t S.us)
   rw [nh hr.inv.toInv0 hl,Sl,Fa];rfl
  grind [tX,CY,aT,ez,kY,toR,bW,eH]
 grind [oZ,aT,ez,kY,toR,bW,eH]
theorem ZL (hr:RelR S g) (c:aP):ez (if 0<=gJ (toR S g).ns c.other then if (nd (toR S g).ns (cq (toR S g).ns c.other)).kind=2 then kY (toR S g) (cq (toR S g).ns c.other) else (toR S g,0,173) else (toR S g,0,141)) (kX S c).1 (kX S c).2.1 (kX S c).2.2.answer:=by
 have hI:=hr.inv.toInv0
 have ha:gJ (toR S g).ns c.other=_:=PB hI c.other
 unfold kX
 cases e:aF.get S.ar c.other with
 |none=>
   grind [gJ,toR,ez,nd,cq,kY,kX]
 |some t=>
   rw [e] at ha
   replace ha:gJ (toR S g).ns c.other=(bW S t:Int):=ha
   obtain⟨hl,_⟩:=Iq hI e
   have ht:cq (toR S g).ns c.other=bW S t:=by grind [cq]
   rw [ahf (by rw [ha];omega),ht,nh hI hl]
   show ez (if t.kind=2 then _ else _) _ _ _
   grind [Ir,ez,gJ,toR,nd,cq,kY,kX]
theorem mr (hr:RelR S g) (hd:aT S.ar ⟨d,2⟩) (name:ByteArray):(bN name (af S.O d).ah=none/\bZ (toR S g).ns (bW S ⟨d,2⟩) name = -1)\/∃t,bN name (af S.O d).ah=some t/\bZ (toR S g).ns (bW S ⟨d,2⟩) name=(bW S t:Int)/\aT S.ar t/\(t.kind=1\/t.kind=2\/t.kind=3)/\t.k≠d:=by
 have hI:=hr.inv.toInv0
 have hl:bZ (toR S g).ns (bW S ⟨d,2⟩) name=_:=ZJ (name:=name) hI hd
 cases e:bN name (af S.O d).ah with
 |none=>rw [e] at hl;exact .inl ⟨rfl,hl⟩
 |some t=>
   rw [e] at hl
   have h1:=(hr.inv.bU hd e).2
   exact .inr ⟨t,rfl,hl,h1,(hI.ob t h1).2.2,hr.inv.ne hd e⟩
theorem Q0 (hr:RelR S g) (c:aP):ez (jl (toR S g) c 2) (gZ S c).1 (gZ S c).2.1 (gZ S c).2.2.answer:=by
 have hI:=hr.inv.toInv0
 unfold jl gZ jL
 rw [qh hr]
 rcases kI hI c.aN c.name 64 with ⟨e,h,he⟩|⟨d,h,hd,-⟩
 ·rw [h];exact .bad rfl he
 rw [h]
 simp only
 rcases mr hr hd c.name with ⟨h1,h2⟩|⟨t,h1,h2,hl,hk,-⟩
 ·grind [ez,jl,toR,gZ]
 rw [h1,ahf (by rw [h2];omega),h2,ahJ,nh hI hl]
 show ez (if t.kind=3 then _ else if t.kind≠2 then (_,_,if t.kind=1 then _ else _) else _) _ _ _
 grind [Ir,ez,jl,toR,gZ]
theorem PD (hr:RelR S g) (c:aP):ez (jl (toR S g) c 1) (fZ S c).1 (fZ S c).2.1 (fZ S c).2.2.answer:=by
 have hI:=hr.inv.toInv0
 unfold jl fZ jL
 rw [qh hr]
 rcases kI hI c.aN c.name 64 with ⟨e,h,he⟩|⟨d,h,hd,-⟩
 ·rw [h];exact .bad rfl he
 rw [h]
 simp only
 rcases mr hr hd c.name with ⟨h1,h2⟩|⟨t,h1,h2,hl,hk,-⟩
 ·grind [ez,jl,toR,fZ]
 rw [h1,ahf (by rw [h2];omega),h2,ahJ,nh hI hl]
 show ez (if t.kind=3 then _ else if t.kind≠1 then (_,_,if t.kind=1 then _ else _) else _) _ _ _
 grind [Ir,ez,jl,toR,fZ]
theorem PE (hI:Inv0 S) (hl:aT S.ar t) (c:aP):FZ (toR S g) c (bW S t)={oe S.O (c0 c) (some t) with code:=0}:=by
 unfold FZ
 rw [nh hI hl]
 unfold oe
 simp only
 rw [(hI.ob t hl).1];rfl
theorem ZM (hr:RelR S g) (c:aP) (bX:c.op=11\/c.op=12):gG S c=(S,qO (toR S g) c):=by
 have hI:=hr.inv.toInv0
 show ((iF S (c0 c)).2.1,{ (iF S (c0 c)).2.2 with code:=(iF S (c0 c)).1})=_
 unfold qO
 rcases bX with h|h
 ·rw [x6 (c:=c0 c) h,ahe zc,DN]
  cases e:aF.get S.us c.aN with
  |none=>rw [show og S (c0 c)=(131,S,oe S.O (c0 c) none) by grind [og]];rfl
  |some t=>rw [show og S (c0 c)=(0,S,oe S.O (c0 c) (some t)) by grind [og]];exact ahg (Prod.mk S) (PE hI (hr.inv.us _ _ e).1 c).symm
 rw [x7 (c:=c0 c) h,ahf h,qh hr]
 rcases kI hI c.aN c.name 64 with ⟨e,h,he⟩|⟨d,h,hd,-⟩
 ·rw [show jw S (c0 c)=(e,S,oe S.O (c0 c) none) by unfold jw jL;grind,h];rfl
 rw [h]
 simp only
 rcases mr hr hd c.name with ⟨h1,h2⟩|⟨t,h1,h2,hl,hk,-⟩
 ·rw [show jw S (c0 c)=(170,S,oe S.O (c0 c) none) by unfold jw jL;grind,ahe (by rw [h2];decide)];rfl
 rw [show jw S (c0 c)=(0,S,oe S.O (c0 c) (some t)) by unfold jw jL;grind,ahf (by rw [h2];omega),h2,ahJ]
 grind [PE]
theorem PF {f:bM->bM} (hid:∀o,(f o).id=o.id):jS (aZ O t.k f) z t=⟨z,t.kind,(f (af O t.k)).mode,(f (af O t.k)).bg,(f (af O t.k)).bh,(f (af O t.k)).aU,(f (af O t.k)).aJ,(f (af O t.k)).data,(f (af O t.k)).target,(f (af O t.k)).ah.map (gA O)⟩:=by
 have h1:af (aZ O t.k f) t.k=f (af O t.k):=by rw [ko,ahf rfl]
 have h2:gA (aZ O t.k f)=gA O:=funext λe=>by unfold gA;rw [eT (g:=bM.id) hid]
 unfold jS
 rw [h1,h2]
theorem Mk (hI:Inv0 S) (hl:aT S.ar t) {f:bM->bM} (hid:∀o,(f o).id=o.id) (hi:S'.ar=S.ar) (hO:S'.O=aZ S.O t.k f):aY S'=(aY S).set (bW S t) (jS (aZ S.O t.k f) (t.k:Int) t):=by
 rw [Fc hI.ix hl (S':=S') hi (λx hx=>by rw [hO,ko,ahe hx]) (by rw [hO];exact eT (g:=bM.id) hid),hO]
theorem ZN (hr:RelR S g) (c:aP):ez (mq (toR S g) c) (cY S c).1 (cY S c).2.1 0:=by
 have hI:=hr.inv.toInv0
 unfold mq cY
 rw [DN]
 cases e:aF.get S.us c.aN with
 |none=>exact .bad rfl (show (131:Int)≠0 by decide)
 |some t=>
   have hl:=(hr.inv.us _ _ e).1
   simp only
   rw [nh hI hl]
   show ez (if t.kind=2/\(t.k:Int)∈g then _ else _) _ _ _
   by_cases hg:(af S.O t.k).aH=true/\t.kind=2
   ·rw [ahf ⟨hg.2,(hr.aH.Cz t hl).2 hg.1⟩,ahf hg];exact .bad rfl (show (170:Int)≠0 by decide)
   rw [ahe (λq=>hg ⟨(hr.aH.Cz t hl).1 q.2,q.1⟩),ahe hg]
   by_cases h1:jV c.mode
   ·by_cases h2:qu c.bg/\qu c.bh
    ·by_cases h3:gj c.aU c.aJ
     ·rw [ahf h1,ahf h1,ahf h2,ahf h2,ahf h3,ahf h3]
      refine .ok rfl ?_ rfl rfl ⟨rfl,rfl,rfl,rfl,rfl,rfl⟩ (hr.aH.same (λx=>eT (g:=bM.aH) (f:=λo=>{o with mode:=c.mode,bg:=c.bg,bh:=c.bh,aU:=c.aU,aJ:=c.aJ}) (λ_=>rfl))) rfl
      refine aio ?_ (Mk (S:=S) (S':={S with O:=aZ S.O t.k (λo=>{o with mode:=c.mode,bg:=c.bg,bh:=c.bh,aU:=c.aU,aJ:=c.aJ})}) (t:=t) hI hl (f:=λo=>{o with mode:=c.mode,bg:=c.bg,bh:=c.bh,aU:=c.aU,aJ:=c.aJ}) (λ_=>rfl) rfl rfl).symm
      rw [PF (f:=λo=>{o with mode:=c.mode,bg:=c.bg,bh:=c.bh,aU:=c.aU,aJ:=c.aJ}) (λ_=>rfl)]
      rfl
     grind [ez,mq,toR,cY]
    grind [ez,mq,toR,cY]
   grind [ez,mq,toR,cY]
theorem Fe (hr:RelR S g) (hl:aT S.ar t) (bs:List UInt8):ez (jT (toR S g) (bW S t) bs) (gF S t.k bs).2.1 (gF S t.k bs).2.2 (gF S t.k bs).1:=by
 have hI:=hr.inv.toInv0
 unfold jT gF
 by_cases hb:bs=[]
 ·rw [ahf hb,ahf hb];exact .same hr rfl
 rw [ahe hb,ahe hb,Pz hI]
 show ez (if S.X.cB-S.X.used<=0 then _ else _) _ _ _
 by_cases hu:S.X.cB-S.X.used<=0
 ·grind [aT,ez,jT,toR,bW,gF]
 rw [ahe hu,ahe hu]
 refine .ok rfl (aio ?_ (Mk (S:=S) (S':={S with X:={S.X with used:=S.X.used+(dR S.X bs.length:Int)},O:=aZ S.O t.k (λo=>{o with data:=o.data++bs.take (dR S.X bs.length),aU:=S.X.cS,aJ:=S.X.cZ})}) (t:=t) hI hl (f:=λo=>{o with data:=o.data++bs.take (dR S.X bs.length),aU:=S.X.cS,aJ:=S.X.cZ}) (λ_=>rfl) rfl rfl).symm) rfl rfl ⟨rfl,rfl,rfl,rfl,rfl,rfl⟩ (hr.aH.same (λx=>eT (g:=bM.aH) (f:=λo=>{o with data:=o.data++bs.take (dR S.X bs.length),aU:=S.X.cS,aJ:=S.X.cZ}) (λ_=>rfl))) rfl
 rw [PF (f:=λo=>{o with data:=o.data++bs.take (dR S.X bs.length),aU:=S.X.cS,aJ:=S.X.cZ}) (λ_=>rfl)]
 simp only
 rw [nh hI hl]
 rfl
theorem ZO (hr:RelR S g) (c:aP):ez (match iG (toR S g) c.aN with|.error e=>(toR S g,0,e)|.ok k=>if (nd (toR S g).ns k).kind=2 then (toR S g,0,172) else jT (toR S g) k c.data) (iw S c).1 (iw S c).2.1 (if (iw S c).1=0 then (iw S c).2.2.answer else 0):=by
 have hI:=hr.inv.toInv0
 unfold iw
 rw [DN]
 cases e:aF.get S.us c.aN with
 |none=>exact .bad rfl (show (131:Int)≠0 by decide)
 |some t=>
   obtain⟨hl,h3⟩:=hr.inv.us _ _ e
   have hk:=(hI.ob t hl).2.2
   simp only
   rw [nh hI hl]
   show ez (if t.kind=2 then _ else _) _ _ _
   grind [Fe,ez,iG,toR,nd,jT,iw]
theorem W4 (hr:RelR S g) (c:aP):ez (if c.aN∈bn (toR S g).us then (gn {toR S g with us:=del c.aN (toR S g).us},0,0) else (gn (toR S g),0,131)) (jW S c).1 (jW S c).2.1 0:=by
 have hI:=hr.inv.toInv0
 have hk:bn (toR S g).us=bn S.us:=Ip
 unfold jW
 cases e:aF.get S.us c.aN with
 |none=>
   grind [get_none,ez,bn,toR,gn,del,jW]
 |some t=>
   have hl:=(hr.inv.us _ _ e).1
   rw [ahf (by rw [hk];exact ahx.2 ⟨_,get_mem e,rfl⟩)]
   have hdel:=λk=>RH (k:=k) hI.usr e
   have hsw:=Ce (S1:=S) (S2:=(jW S c).2.1) (O2:=ud S.O t.k) (PA:=del c.aN S.us) (R:={toR S g with us:=del c.aN (toR S g).us}) (t:=t) hI.ix rfl Sm.symm
    (hr.aH.same (λx=>eT (g:=bM.aH) (f:=λo=>{o with aK:=o.aK-1}) (λ_=>rfl))) hl
    (λu hu bV Ml=>by
     have h1:(af S.O u.k).aH=true:=aio (eT (g:=bM.aH) (f:=λo=>{o with aK:=o.aK-1}) (λ_=>rfl)).symm Ml
     have h2:=hr.inv.full u hu h1
     rw [hI.aK u hu] at h2
     have h3:=hdel u.k
     rw [ahe (λq=>bV (jx hu hl q.symm))] at h3
     omega)
    (by
     show (af (aZ S.O t.k _) t.k).aK=_
     rw [ko,ahf rfl]
     show (af S.O t.k).aK-1=_
     rw [hI.aK t hl]
     have h3:=hdel t.k
     rw [ahf rfl] at h3
     omega)
    (by rw [show (af (ud S.O t.k) t.k).id=(af S.O t.k).id from eT (g:=bM.id) (f:=λo=>{o with aK:=o.aK-1}) (λ_=>rfl)];exact (hI.ob t hl).1)
    (by unfold jW;rw [e]) (λx=>by unfold jW;rw [e];exact eT (g:=core) (f:=λo=>{o with aK:=o.aK-1}) (λ_=>rfl)) (λx=>by unfold jW;rw [e])
   unfold jW at hsw
   rw [e] at hsw
   refine .ok rfl hsw.1 ?_ rfl ⟨rfl,rfl,rfl,rfl,rfl,rfl⟩ hsw.2 rfl
   exact Sm.symm
end w
section x
variable {S S':bB} {g:List Int} {t u:Th} {d to k i j:Nat} {name aD:ByteArray} {O O':eu} {h d6 id z:Int} {c:aP} {R:RS} {o:bM} {n:aO}
theorem ZP (hx:qC S.ar) (hl:aT S.ar t) (hi:S'.ar=S.ar):bW S' t=bW S t:=by
 have hl':aT S'.ar t:=by rw [hi];exact hl
 have hx':qC S'.ar:=by rw [hi];exact hx
 have h1:=nR hx hl
 have h2:=nR hx' hl'
 grind [JY,gI]
theorem W5 (hr:RelR S g) (hd:aT S.ar ⟨d,2⟩) (hl:aT S.ar t) (htd:t.k≠d) {e:Int}:ez (dh (toR S g) (bW S ⟨d,2⟩) name (t.k:Int),0,0) 0 {S with X:={S.X with ah:=e},O:=dg S.X S.O d name t} 0:=by
 exact .ok rfl ((DP (S':={S with X:={S.X with ah:=e},O:=dg S.X S.O d name t}) hr.inv.ix hd htd (hr.inv.ob t hl).1 rfl).symm) rfl rfl ⟨rfl,rfl,rfl,rfl,rfl,rfl⟩ (hr.aH.same (λx=>mo (g:=bM.aH) (λ_ _=>rfl) (λ_ _=>rfl) (λ_ _ _=>rfl) (λ_ _=>rfl))) rfl
theorem Iu (hI:Inv0 S):(dM (toR S g).ns (toR S g).ns.length:Int)=S.X.ah:=by
 show (dM (aY S) (aY S).length:Int)=S.X.ah
 rw [ig,E0];exact hI.total.1.symm
theorem ZQ (hr:RelR S g) (c:aP):ez (vQ (toR S g) c) (dX S c).1 (dX S c).2.1 0:=by
 have hI:=hr.inv.toInv0
 unfold vQ qH dX
 rw [qh hr,qh hr]
 rcases kI hI c.aN c.name 64 with ⟨e,h,he⟩|⟨d,h,hd,-⟩
 ·rw [h];exact .bad rfl he
 rw [h]
 simp only
 rcases kI hI c.other c.text 192 with ⟨e,h,he⟩|⟨to,h,d9,-⟩
 ·rw [h];exact .bad rfl he
 rw [h]
 simp only
 unfold nN
 rcases mr hr hd c.name with ⟨h1,h2⟩|⟨t,h1,h2,hl,hk,htd⟩
 ·grind [ez,vQ,toR,dX]
 rw [h1,ahf (by rw [h2];omega),h2,ahJ,nh hI hl]
 show ez (if t.kind=2 then _ else _) _ _ _
 simp only
 by_cases h3:t.kind=2
 ·grind [ez,vQ,toR,dX]
 rw [ahe h3,ahe h3]
 have Cg:t.k≠to:=by grind [jx]
 rcases mr hr d9 c.text with ⟨h4,h5⟩|⟨u,h4,h5,-⟩
 ·rw [ahe (by rw [h5];decide),ahf h4,Iu hI]
  by_cases h6:S.X.ah<8192
  ·rw [ahf h6,ahf h6];exact W5 hr d9 hl Cg
  grind [ez,vQ,toR,dX]
 grind [ez,vQ,toR,dX]
theorem GS (hI:Inv0 S):aY {S with O:=aZ S.O (bA S.X) (λ_=>o)}=aY S:=by
 refine ahR (λp hp=>?_)
 have h1:af (aZ S.O (bA S.X) (λ_=>o)) p.2.k=af S.O p.2.k:=by rw [ko,ahe (hI.fresh.ar p hp)]
 have h2:(af S.O p.2.k).ah.map (gA (aZ S.O (bA S.X) (λ_=>o)))=(af S.O p.2.k).ah.map (gA S.O):=ahR (λe he=>by
  unfold gA;rw [ko,ahe (hI.fresh.ah _ e he)])
 unfold jS
 rw [h1,h2]
theorem W6 (hI:Inv0 S):∀x∈bn S.ar,x<S.X.last+1:=λx hx=>by
 cases e:aF.get S.ar x with
 |none=>exact ahh hx (get_none.1 e)
 |some t=>have:=(hI.ar _ _ e).2.2;omega
theorem Gd (hI:Inv0 S):(gu S d name o).ar=S.ar++[(S.X.last+1,⟨bA S.X,o.kind⟩)]:=N9 (W6 hI)
theorem PG (hI:Inv0 S):qC (gu S d name o).ar/\aT (gu S d name o).ar ⟨bA S.X,o.kind⟩/\∀u,aT (gu S d name o).ar u↔u=⟨bA S.X,o.kind⟩\/aT S.ar u:=by
 have hn:S.X.last+1∉bn S.ar:=λh=>by have:=W6 hI _ h;omega
 have hk:=q4 hI
 have hg:∀x,aF.get (gu S d name o).ar x=if x=S.X.last+1 then some ⟨bA S.X,o.kind⟩ else aF.get S.ar x:=λx=>by
  show aF.get (ins _ _ _) x=_
  rw [wz hn]
 have hl:aT (gu S d name o).ar ⟨bA S.X,o.kind⟩:=by show aF.get _ ((bA S.X:Nat):Int)=_;rw [hg,ahf hk]
 refine⟨⟨Au hI.fO hn,λp hp=>?_⟩,hl,λu=>?_⟩
 ·rw [Gd hI] at hp
  rcases ahE.1 hp with h|h
  ·exact hI.ix.key p h
  grind
 constructor
 ·grind [gu,aT,bA]
 rintro (rfl|hu)
 ·exact hl
 show aF.get _ (u.k:Int)=some u
 rw [hg,ahe (λq=>hn (by rw [←q];exact ahx.2 ⟨_,get_mem hu,rfl⟩))];exact hu
theorem Ge (hr:RelR S g) (hd:aT S.ar ⟨d,2⟩) (ho:o.id=S.X.last+1/\o.aU=S.X.cS/\o.aJ=S.X.cZ/\o.aH=false/\o.ah=[]) (hn:n.kind=o.kind/\n.mode=o.mode/\n.bg=o.bg/\n.bh=o.bh/\n.data=o.data/\n.target=o.target/\n.ah=[]) :
 jY (toR S g) (bW S ⟨d,2⟩) name n=toR (gu S d name o) g/\xE (gu S d name o).ar (gu S d name o).O g:=by
 have hI:=hr.inv.toInv0
 have hk:=q4 hI
 have htd:bA S.X≠d:=λe=>hI.fresh.ar _ (get_mem hd) e.symm
 have hat:=λx=>s5 (X:=S.X) (O:=aZ S.O (bA S.X) (λ_=>o)) (d:=d) (name:=name) (t:=⟨bA S.X,o.kind⟩) (k:=x) htd
 obtain⟨h1,h2,h3,h4,h5⟩:=ho
 have hnew:af (gu S d name o).O (bA S.X)={o with aV:=o.aV+1,up:=if o.kind=2 then some d else o.up}:=by
  show af (dg _ _ _ _ _) _=_
  rw [hat,ahe htd,ahf rfl,ko,ahf rfl]
 refine⟨WZ (R:=jY (toR S g) (bW S ⟨d,2⟩) name n) ?_ rfl rfl ⟨rfl,rfl,rfl,rfl,rfl,rfl⟩,⟨λu hu=>?_,λz hz=>?_⟩⟩
 ·have hg2:=DP (S:={S with O:=aZ S.O (bA S.X) (λ_=>o)}) (S':={S with X:=(gu S d name o).X,O:=(gu S d name o).O}) (d:=d) (name:=name) (t:=⟨bA S.X,o.kind⟩) (id:=S.X.last+1) hI.ix hd htd (by
   show (af (aZ _ _ _) (bA S.X)).id=_
   rw [ko,ahf rfl];exact h1) rfl
  rw [GS hI,show bW {S with O:=aZ S.O (bA S.X) (λ_=>o)} ⟨d,2⟩=bW S ⟨d,2⟩ by unfold bW;rw [GS hI]] at hg2
  have hg3:aY (gu S d name o)=aY {S with X:=(gu S d name o).X,O:=(gu S d name o).O}++[jS (gu S d name o).O (S.X.last+1) ⟨bA S.X,o.kind⟩]:=by
   unfold aY
   rw [Gd hI,ahP];rfl
  have hN:({n with id:=S.X.last+1,aU:=S.X.cS,aJ:=S.X.cZ}:aO)=jS (gu S d name o).O (S.X.last+1) ⟨bA S.X,o.kind⟩:=by
   unfold jS
   simp only
   rw [hnew,h5]
   obtain⟨ni,nk,nm,nu,ng,ns,nn,nda,nt,ne⟩:=n
   obtain⟨g1,g2,g3,g4,g5,g6,g7⟩:=hn
   simp only at g1 g2 g3 g4 g5 g6 g7 ⊢
   rw [g1,g2,g3,g4,g5,g6,g7,h2,h3];rfl
  rw [hg3,hg2,←hN];rfl
 ·rcases ((PG hI).2.2 u).1 hu with rfl|RY
  ·constructor
   ·intro hz
    obtain⟨v,hv,e⟩:=hr.aH.live _ hz
    exact ahh (show v.k=bA S.X by exact Int.ofNat.inj e) (hI.fresh.ar _ (get_mem hv))
   intro h
   rw [hnew] at h
   have h:o.aH=true:=h
   rw [h4] at h;cases h
  refine (hr.aH.Cz u RY).trans ?_
  have:(af (gu S d name o).O u.k).aH=(af S.O u.k).aH:=by
   refine aio (mo (g:=bM.aH) (λ_ _=>rfl) (λ_ _=>rfl) (λ_ _ _=>rfl) (λ_ _=>rfl)) ?_
   rw [ko,ahe (hI.fresh.ar _ (get_mem RY))]
  rw [this]
 obtain⟨v,hv,e⟩:=hr.aH.live z hz
 exact⟨v,((PG hI).2.2 v).2 (.inr hv),e⟩
end x
section y
variable {S S' S2:bB} {g:List Int} {t u:Th} {d to k i j:Nat} {name aD:ByteArray} {O O':eu} {h d6 id z:Int} {c:aP} {R:RS} {o:bM} {n:aO}
theorem xG (hr:RelR S g) (hd:aT S.ar ⟨d,2⟩) (name:ByteArray) (hb:¬(n.kind=3/\ld n.target≠0)):(gy S.X S.O S.ar d name=0/\bR (toR S g) (bW S ⟨d,2⟩) name n=(jY (toR S g) (bW S ⟨d,2⟩) name n,0))\/(gy S.X S.O S.ar d name≠0/\bR (toR S g) (bW S ⟨d,2⟩) name n=(toR S g,gy S.X S.O S.ar d name)):=by
 unfold bR gy
 rw [ahe hb]
 rcases mr hr hd name with ⟨h1,h2⟩|⟨t,h1,h2,-⟩
 ·rw [ahf h1,ahe (show ¬0<=bZ (toR S g).ns (bW S ⟨d,2⟩) name by rw [h2];decide)]
  by_cases h3:Room S.X S.ar
  ·rw [ahf ((Py hr.inv.toInv0).2 h3),ahf h3];exact .inl ⟨rfl,rfl⟩
  rw [ahe (λq=>h3 ((Py hr.inv.toInv0).1 q)),ahe h3];exact .inr ⟨Pd,rfl⟩
 grind
theorem DR (hr:RelR S g) (hd:aT S.ar ⟨d,2⟩) (name:ByteArray) (hb:¬(n.kind=3/\ld n.target≠0)) (ho:o.id=S.X.last+1/\o.aU=S.X.cS/\o.aJ=S.X.cZ/\o.aH=false/\o.ah=[]) (hn:n.kind=o.kind/\n.mode=o.mode/\n.bg=o.bg/\n.bh=o.bh/\n.data=o.data/\n.target=o.target/\n.ah=[]) :
 ez ((bR (toR S g) (bW S ⟨d,2⟩) name n).1,0,(bR (toR S g) (bW S ⟨d,2⟩) name n).2) (if gy S.X S.O S.ar d name=0 then (0,gu S d name o) else (gy S.X S.O S.ar d name,S)).1 (if gy S.X S.O S.ar d name=0 then ((0:Int),gu S d name o) else (gy S.X S.O S.ar d name,S)).2 0:=by
 grind [xG,Ge,aT,ld,ez,bR,toR,bW,gy,gu]
theorem W7 (hr:RelR S g) (c:aP) (bX:c.op=4):ez (match ij (toR S g) c.aN c.name 192 with|.error e=>(toR S g,0,e)|.ok d=>iI (toR S g) c d) (je S c).1 (je S c).2.1 0:=by
 unfold je
 rw [qh hr]
 rcases kI hr.inv.toInv0 c.aN c.name 192 with ⟨e,h,he⟩|⟨d,h,hd,-⟩
 ·rw [h];exact .bad rfl he
 rw [h]
 simp only
 unfold iI
 rw [ahe zc,ahe zc]
 by_cases hm:jV c.mode
 ·rw [ahf hm,ahf hm,ahe zc]
  exact DR (o:=cU S.X 2 c.mode) hr hd c.name (λq=>ahh (show (2:Int)=3 from q.1) Pd) ⟨rfl,rfl,rfl,rfl,rfl⟩ ⟨rfl,rfl,rfl,rfl,rfl,rfl,rfl⟩
 grind [ez,ij,toR,iI,je]
theorem Q5 (hr:RelR S g) (c:aP) (bX:c.op=6):ez (match ij (toR S g) c.aN c.name 192 with|.error e=>(toR S g,0,e)|.ok d=>iI (toR S g) c d) (iE S c).1 (iE S c).2.1 0:=by
 unfold iE
 rw [qh hr]
 rcases kI hr.inv.toInv0 c.aN c.name 192 with ⟨e,h,he⟩|⟨d,h,hd,-⟩
 all_goals grind [iI,jq,ld,DR,cU,bR,ez,ij,toR,iE]
theorem acp (hr:RelR S g) (hd:aT S.ar ⟨d,2⟩) (hl:bN name (af S.O d).ah=some t):rf name (nd (aY S) (bW S ⟨d,2⟩)).ah 0=(t.k:Int):=by
 have hI:=hr.inv.toInv0
 rw [(nR hI.ix hd).2.2.2.2.2]
 show rf name ((af S.O d).ah.map (gA S.O)) 0=_
 exact (Sn _ (hI.pX hd) hl).trans (hI.ob _ (hr.inv.bU hd hl).2).1
theorem W8 (hr:RelR S g) (hd:aT S.ar ⟨d,2⟩) (hl:bN name (af S.O d).ah=some t):(cX (toR S g) (bW S ⟨d,2⟩) name true).aH=if (af S.O t.k).aV-1=0 then g++[(t.k:Int)] else g:=by
 have hI:=hr.inv.toInv0
 have h2:uh (nK S.X.cS S.X.cZ (aY S) (bW S ⟨d,2⟩) (rY name (nd (aY S) (bW S ⟨d,2⟩)).ah)) (t.k:Int)=(af S.O t.k).aV-1:=by
  rw [←zw (S:=S) (S':={S with O:=bw S.X S.O d name t}) hI.ix hd (hr.inv.ne hd hl) rfl (λ_=>rfl)]
  grind [QZ,bw]
 grind [uh,nK,aY,bW,rY,nd,rf,acp,af,aT,bN,cX,toR]
structure afd (S:bB) (d:Nat) (name:ByteArray) (t:Th) (g':List Int):Prop where
 aH:xE S.ar (bp S d name t).O g'
 ar:(bp S d name t).ar=kW (bp S d name t).O S.ar t
 core:∀x,Proofs.YtbnfiigafobejaaGreat.core (af (bp S d name t).O x)=Proofs.YtbnfiigafobejaaGreat.core (af (bw S.X S.O d name t) x)
 aK:∀x,(af (bp S d name t).O x).aK=(af S.O x).aK
 others:∀x,x≠t.k->(af (bp S d name t).O x).aH=(af S.O x).aH
theorem PI (hr:RelR S g) (hd:aT S.ar ⟨d,2⟩) (hl:bN name (af S.O d).ah=some t):afd S d name t (cX (toR S g) (bW S ⟨d,2⟩) name true).aH:=by
 have hI:=hr.inv.toInv0
 have fV:=(hr.inv.bU hd hl).2
 have htd:=hr.inv.ne hd hl
 have eM:(af (bw S.X S.O d name t) t.k).aV=(af S.O t.k).aV-1:=by grind [lf]
 have hgo:∀x,(af (bw S.X S.O d name t) x).aH=(af S.O x).aH:=λx=>eW (g:=bM.aH) (λ_ _=>rfl) (λ_ _=>rfl) (λ_ _ _=>rfl)
 have bX:∀x,(af (bw S.X S.O d name t) x).aK=(af S.O x).aK:=λx=>eW (g:=bM.aK) (λ_ _=>rfl) (λ_ _=>rfl) (λ_ _ _=>rfl)
 rw [W8 hr hd hl]
 by_cases h0:(af S.O t.k).aV-1=0
 ·have hm:=xV (S:=S) (d:=d) (name:=name) (t:=t) (eM.trans h0)
  have hO:(bp S d name t).O=tN (bw S.X S.O d name t) t.k:=by rw [hm]
  have hat:∀x,(af (tN (bw S.X S.O d name t) t.k) x).aH=if x=t.k then true else (af S.O x).aH:=λx=>by
   grind [tN,ko]
  rw [ahf h0]
  refine⟨⟨λu hu=>?_,λz hz=>?_⟩,by rw [hO,hm],λx=>?_,λx=>?_,λx hx=>?_⟩
  ·rw [hO,hat,ahE,ahO]
   by_cases hx:u.k=t.k
   ·grind
   rw [ahe hx,←hr.aH.Cz u hu]
   grind
  ·rcases ahE.1 hz with hz|hz
   ·exact hr.aH.live z hz
   grind
  ·rw [hO];exact eT (g:=Proofs.YtbnfiigafobejaaGreat.core) (f:=λo=>{o with aH:=true}) (λ_=>rfl)
  ·rw [hO];exact aio (eT (g:=bM.aK) (f:=λo=>{o with aH:=true}) (λ_=>rfl)) (bX x)
  rw [hO,hat,ahe hx]
 have hm:=xW (S:=S) (d:=d) (name:=name) (t:=t) (λq=>h0 (eM.symm.trans q))
 have hO:(bp S d name t).O=bw S.X S.O d name t:=by rw [hm]
 rw [ahe h0]
 refine⟨by rw [hO];exact hr.aH.same hgo,?_,λx=>by rw [hO],λx=>by rw [hO];exact bX x,λx _=>by rw [hO];exact hgo x⟩
 rw [hO,hm]
 unfold kW
 rw [ahe]
 rintro⟨h1,_⟩
 rw [hgo] at h1
 have h2:=hI.aH t fV h1
 have h3:=hI.aV t fV
 have h4:=qZ (ar:=S.ar) hd hl
 omega
theorem K2 (hr:RelR S g) (hu:aT S.ar u) (h:(af S.O u.k).aH=true):0<hnd S.us u.k:=by
 have h1:=hr.inv.full u hu h
 rw [hr.inv.aK u hu] at h1;omega
theorem PJ (hr:RelR S g) (hd:aT S.ar ⟨d,2⟩) (hl:bN name (af S.O d).ah=some t) (h1:S2={bp S d name t with O:=S2.O}) (hc:∀x,core (af S2.O x)=core (af (bp S d name t).O x)) (hgo:∀x,(af S2.O x).aH=(af (bp S d name t).O x).aH) :
 ez (gn (cX (toR S g) (bW S ⟨d,2⟩) name true),0,0) 0 S2 0:=by
 have hI:=hr.inv.toInv0
 have fV:=(hr.inv.bU hd hl).2
 have Sp:=PI hr hd hl
 have hX:S2.X=(bp S d name t).X:=by rw [h1]
 have hsw:=Ce (S1:={S with O:=bw S.X S.O d name t}) (S2:=S2) (O2:=(bp S d name t).O) (PA:=S.us) (R:=cX (toR S g) (bW S ⟨d,2⟩) name true) (t:=t) hI.ix
  (zw (S:=S) (S':={S with O:=bw S.X S.O d name t}) hI.ix hd (hr.inv.ne hd hl) rfl (λ_=>rfl)).symm rfl Sp.aH fV
  (λu hu bV Ml=>by
   rw [Sp.others u.k (λe=>bV (jx hu fV e))] at Ml
   exact K2 hr hu Ml)
  (by rw [Sp.aK];exact hI.aK t fV)
  (by have h:=ahg bM.id (Sp.core t.k);exact h.trans ((eW (g:=bM.id) (λ_ _=>rfl) (λ_ _=>rfl) (λ_ _ _=>rfl)).trans (hI.ob t fV).1))
  (by rw [h1];exact Sp.ar) (λx=>(hc x).trans (Sp.core x)) hgo
 grind [aT,bN,af,bp,core,ez,gn,cX,toR,bW]
end y
section z
variable {S S' S2:bB} {g:List Int} {t u:Th} {d to k i j:Nat} {name aD:ByteArray} {O O':eu} {h d6 id z:Int} {c:aP} {R:RS} {o:bM} {n:aO}
theorem Ub (hr:RelR S g) (c:aP) (bX:c.op=5):ez (match ij (toR S g) c.aN c.name 192 with|.error e=>(toR S g,0,e)|.ok d=>iI (toR S g) c d) (fq S c).1 (fq S c).2.1 (fq S c).2.2.answer:=by
 have hI:=hr.inv.toInv0
 unfold fq
 rw [qh hr]
 rcases kI hI c.aN c.name 192 with ⟨e,h,he⟩|⟨d,h,hd,-⟩
 ·rw [h];exact .bad rfl he
 rw [h]
 simp only
 unfold iI
 rw [ahe zc,ahe zc]
 by_cases hm:jV c.mode
 rotate_left
 ·grind [ez,ij,toR,iI,fq]
 rw [ahf hm,ahf hm,ahf bX]
 rcases xG (n:=⟨0,1,c.mode,0,0,0,0,[],⟨#[]⟩,[]⟩) hr hd c.name (λq=>ahh (show (1:Int)=3 from q.1) Pd) with ⟨h1,h2⟩|⟨h1,h2⟩
 rotate_left
 ·simp only
  rw [h2,ahe h1,ahe h1];exact .bad rfl h1
 simp only
 rw [h2,ahf h1,ahf (show (jY (toR S g) (bW S ⟨d,2⟩) c.name ⟨0,1,c.mode,0,0,0,0,[],⟨#[]⟩,[]⟩,(0:Int)).2=0 from rfl)]
 obtain⟨hA,hG⟩:=Ge (name:=c.name) (o:=cU S.X 1 c.mode) (n:=⟨0,1,c.mode,0,0,0,0,[],⟨#[]⟩,[]⟩) hr hd ⟨rfl,rfl,rfl,rfl,rfl⟩ ⟨rfl,rfl,rfl,rfl,rfl,rfl,rfl⟩
 rw [hA]
 obtain⟨S1,hS1⟩:∃S1,S1=gu S d c.name (cU S.X 1 c.mode):=⟨_,rfl⟩
 rw [←hS1] at hG ⊢
 have hk:=q4 hI
 have htd:bA S.X≠d:=λe=>hI.fresh.ar _ (get_mem hd) e.symm
 have hidx:S1.ar=S.ar++[(S.X.last+1,⟨bA S.X,1⟩)]:=by rw [hS1];exact Gd hI
 have jy:(toR S1 g).ns.length-1=S.ar.length:=by
  show (aY S1).length-1=_
  rw [ig,hidx,ahl];rfl
 have hnd:(nd (toR S1 g).ns S.ar.length).id=(bA S.X:Int):=by
  show (nd (aY S1) S.ar.length).id=_
  rw [pP Pe,hk]
  show gI S1 S.ar.length=_
  grind [gI]
 unfold oH
 rw [ahf h1]
 unfold kY
 have iA:(toR S1 g).us=tX S.us:=by rw [hS1];rfl
 have hcH:(toR S1 g).cH=S.X.cH:=by rw [hS1];rfl
 have hpk:(toR S1 g).aI=S.aI:=by rw [hS1];rfl
 rw [jy,hnd,iA,hcH,hpk,CY,Fa]
 by_cases hc:(S.us.length:Int)<S.X.cH
 rotate_left
 ·grind [ez,ij,toR,iI,fq]
 rw [ahf hc,ahf hc]
 have hat:∀(o:bM) x,af (dg S.X (aZ S.O (bA S.X) (λ_=>o)) d c.name ⟨bA S.X,1⟩) x=_:=λo x=>s5 (X:=S.X) (O:=aZ S.O (bA S.X) (λ_=>o)) (d:=d) (name:=c.name) (t:=⟨bA S.X,1⟩) (k:=x) htd
 have hO1:S1.O=dg S.X (aZ S.O (bA S.X) (λ_=>cU S.X 1 c.mode)) d c.name ⟨bA S.X,1⟩:=by rw [hS1];rfl
 have hboth:∀x,core (af (dg S.X (aZ S.O (bA S.X) (λ_=>{cU S.X 1 c.mode with aK:=1})) d c.name ⟨bA S.X,1⟩) x)=core (af S1.O x)/\(af (dg S.X (aZ S.O (bA S.X) (λ_=>{cU S.X 1 c.mode with aK:=1})) d c.name ⟨bA S.X,1⟩) x).aH=(af S1.O x).aH:=λx=>by
  rw [hO1,hat,hat]
  by_cases hx:x=d
  ·grind [ko]
  rw [ahe hx,ahe hx]
  by_cases hx2:x=bA S.X
  ·rw [ahf hx2,ahf hx2,ko,ko,ahf hx2,ahf hx2];exact⟨rfl,rfl⟩
  grind [ko]
 refine .ok rfl ?_ (Sl (t:=⟨bA S.X,1⟩)).symm rfl ?_ ?_ rfl
 ·show aY S1=aY _
  grind [DM,gu,ins,bA,cU]
 ·rw [hS1];exact⟨rfl,rfl,rfl,rfl,rfl,rfl⟩
 rw [hS1] at hG
 exact hG.same (λx=>by have h:=(hboth x).2;rw [hS1] at h;exact h)
theorem Mn (hr:RelR S g) (hd:aT S.ar ⟨d,2⟩) (name:ByteArray):ez ((iH (toR S g) (bW S ⟨d,2⟩) name false).1,0,(iH (toR S g) (bW S ⟨d,2⟩) name false).2) (iD S d name).1 (iD S d name).2 0:=by
 have hI:=hr.inv.toInv0
 unfold iH iD
 rcases mr hr hd name with ⟨h1,h2⟩|⟨t,h1,h2,hl,hk,htd⟩
 ·grind [bZ,toR,bW,aT,ez,iH,iD]
 rw [h1,ahf (show 0<=bZ (toR S g).ns (bW S ⟨d,2⟩) name by rw [h2];omega),h2,ahJ]
 simp only
 rw [nh hI hl]
 by_cases h3:t.kind=2
 ·rw [ahf ⟨trivial,h3⟩,ahf h3];exact .bad rfl (show (172:Int)≠0 by decide)
 rw [ahe (λq=>h3 q.2),ahe (λq=>by cases q.1),ahe (λq=>by cases q.1),ahe h3]
 exact PJ hr hd h1 rfl (λ_=>rfl) (λ_=>rfl)
theorem Mp (hr:RelR S g) (hd:aT S.ar ⟨d,2⟩) (name:ByteArray):ez ((iH (toR S g) (bW S ⟨d,2⟩) name true).1,0,(iH (toR S g) (bW S ⟨d,2⟩) name true).2) (jd S d name).1 (jd S d name).2 0:=by
 have hI:=hr.inv.toInv0
 unfold iH jd
 rcases mr hr hd name with ⟨h1,h2⟩|⟨t,h1,h2,hl,hk,htd⟩
 ·grind [bZ,toR,bW,aT,ez,iH,jd]
 rw [h1,ahf (show 0<=bZ (toR S g).ns (bW S ⟨d,2⟩) name by rw [h2];omega),h2,ahJ]
 simp only
 rw [nh hI hl,ahe (λq=>by cases q.1)]
 by_cases h3:t.kind=2
 rotate_left
 ·rw [ahf ⟨trivial,h3⟩,ahe h3];exact .bad rfl (show (173:Int)≠0 by decide)
 rw [ahe (λq=>q.2 h3),ahf h3]
 have hel:(jS S.O (t.k:Int) t).ah.length=(af S.O t.k).ah.length:=ahz ..
 rw [hel]
 by_cases h4:(af S.O t.k).ah=[]
 ·rw [ahe Pe,ahf h4]
  exact PJ hr hd h1 (S2:={bp S d name t with O:=jk (bp S d name t).O t.k}) rfl (λx=>eT (g:=core) (f:=λo=>{o with up:=none}) (λ_=>rfl)) (λx=>eT (g:=bM.aH) (f:=λo=>{o with up:=none}) (λ_=>rfl))
 rw [ahf ⟨trivial,List.length_pos_iff.2 h4⟩,ahe h4];exact .bad rfl (show (178:Int)≠0 by decide)
theorem Uc (hr:RelR S g) (c:aP) (bX:c.op=8):ez (match ij (toR S g) c.aN c.name 192 with|.error e=>(toR S g,0,e)|.ok d=>iI (toR S g) c d) (jD S c).1 (jD S c).2.1 0:=by
 unfold jD
 rw [qh hr]
 rcases kI hr.inv.toInv0 c.aN c.name 192 with ⟨e,h,he⟩|⟨d,h,hd,-⟩
 ·rw [h];exact .bad rfl he
 rw [h]
 simp only
 unfold iI
 rw [ahf (.inl bX),show decide (c.op=14)=false from ahi zc]
 exact Mn hr hd c.name
theorem W9 (hr:RelR S g) (c:aP) (bX:c.op=14):ez (match ij (toR S g) c.aN c.name 192 with|.error e=>(toR S g,0,e)|.ok d=>iI (toR S g) c d) (kq S c).1 (kq S c).2.1 0:=by
 unfold kq
 rw [qh hr]
 rcases kI hr.inv.toInv0 c.aN c.name 192 with ⟨e,h,he⟩|⟨d,h,hd,-⟩
 ·rw [h];exact .bad rfl he
 grind [iI,Mp]
end z
theorem GU {α:Type} {p q:α->Bool} (h:∀x,p x=true->q x=true):∀{l:List α} {a:α},a∈l->q a=true->p a=false->l.countP p<l.countP q
 |b::r,a,ha,hq,hp=>by
   rw [List.countP_cons,List.countP_cons]
   have hm:r.countP p<=r.countP q:=List.countP_mono_left (λx _ hx=>h x hx)
   rcases aht.1 ha with rfl|ha
   ·rw [ahf hq,ahe (by rw [hp];decide)];omega
   have:=GU h ha hq hp
   by_cases hb:p b=true
   ·rw [ahf hb,ahf (h b hb)];omega
   rw [ahe hb];omega
theorem PK {ns:List aO} {id:Int}:∀n,(∀i,i<n->¬0<iW (nd ns i).ah id (nd ns i).ah.length)->oM ns id n = -1
 |0,_=>rfl
 |n+1,h=>by
   unfold oM
   rw [ahe (h n (ahI n))];exact PK n (λi hi=>h i zc)
theorem PL {ns:List aO} {id:Int} {z:Nat} (hp:0<iW (nd ns z).ah id (nd ns z).ah.length):∀n,z<n->(∀i,i<n->0<iW (nd ns i).ah id (nd ns i).ah.length->i=z)->oM ns id n=(z:Int)
 |n+1,hz,hu=>by
   unfold oM
   by_cases h:0<iW (nd ns n).ah id (nd ns n).ah.length
   ·rw [ahf h,hu n (ahI n) h]
   rw [ahe h]
   exact PL hp n Pe (λi hi=>hu i zc)
section q
variable {S S' S2:bB} {g:List Int} {t u:Th} {d to k i j:Nat} {name aD:ByteArray} {O O':eu} {h d6 id z:Int} {c:aP} {R:RS} {o:bM} {n:aO}
theorem Sq (hI:Inv0 S) (hi:i<S.ar.length):0<iW (nd (aY S) i).ah (k:Int) (nd (aY S) i).ah.length↔∃e∈(af S.O (jr S i).k).ah,e.2.k=k:=by
 have hl:=(Gc hI.ix hi).1
 rw [pP hi]
 show 0<iW ((af S.O (jr S i).k).ah.map (gA S.O)) _ ((af S.O (jr S i).k).ah.map (gA S.O)).length↔_
 rw [ahz,DQ (λe he=>(hI.ob _ (hI.ah _ hl e he).2).1) _ (aho _),ahG,List.countP_pos_iff]
 grind
theorem ad8 (hI:Inv0 S) (hu:aT S.ar u) (h2:u.kind=2):oM (aY S) (u.k:Int) (aY S).length=match (af S.O u.k).up with|none=>-1|some j=>(bW S ⟨j,2⟩:Int):=by
 have key:∀i,i<S.ar.length->0<iW (nd (aY S) i).ah (u.k:Int) (nd (aY S) i).ah.length->(af S.O u.k).up=some (jr S i).k/\jr S i=⟨(jr S i).k,2⟩:=λi hi hp=>by
  obtain⟨e,he,hek⟩:=(Sq hI hi).1 hp
  have hl:=(Gc hI.ix hi).1
  have hk2:(jr S i).kind=2:=by
   apply ahF
   intro hn
   have h3:=(hI.mt _ hl).ah (by rw [(hI.ob _ hl).2.1];exact hn)
   rw [h3] at he;cases he
  have ht:jr S i=⟨(jr S i).k,2⟩:=by rw [←hk2]
  have heu:e.2=u:=jx (hI.ah _ hl e he).2 hu hek
  refine⟨(hI.up u hu _).2 ⟨h2,by rw [←ht];exact hl,e.1,?_⟩,ht⟩
  exact Ay (hI.pX hl) (by rw [←heu];exact he)
 rw [ig]
 cases e:(af S.O u.k).up with
 |none=>
   grind [PK]
 |some j=>
   obtain⟨_,hj,nm,hnm⟩:=(hI.up u hu j).1 e
   have hp:=nR hI.ix hj
   refine PL ((Sq hI hp.2.1).2 ⟨(nm,u),?_,rfl⟩) _ hp.2.1 (λi hi hq=>?_)
   ·rw [hp.2.2.1];exact rI hnm
   obtain⟨h3,h4⟩:=key i hi hq
   rw [e] at h3
   injection h3 with h3
   refine JY hI.ix hi hp.2.1 ?_
   rw [(Gc hI.ix hi).2,hp.2.2.2.1,←h3]
theorem Xa (hI:Inv0 S) (ht:aT S.ar t) (h2:t.kind=2) (d9:aT S.ar ⟨to,2⟩):jF (aY S) (bW S t) ((aY S).length+1) (bW S ⟨to,2⟩)=true↔sD S.O t.k to:=by
 obtain⟨dp,hdp⟩:=hI.deep
 have main:∀(f d:Nat),aT S.ar ⟨d,2⟩->S.ar.countP (λp=>decide (dp p.2.k<dp d))<f->(jF (aY S) (bW S t) f (bW S ⟨d,2⟩)=true↔sD S.O t.k d):=by
  intro f
  induction f with
  |zero=>intro d _ h;omega
  |succ f ih=>
    intro d hd hm
    have hp:=nR hI.ix hd
    unfold jF
    by_cases hdt:bW S ⟨d,2⟩=bW S t
    ·rw [ahf hdt]
     have:=Sk hI.ix hd ht hdt
     rw [←this]
     exact⟨λ_=>.here,λ_=>rfl⟩
    rw [ahe hdt,hp.2.2.2.2.2]
    show (if oM (aY S) (d:Int) (aY S).length<0 then false else jF (aY S) (bW S t) f (oM (aY S) (d:Int) (aY S).length).toNat)=true↔_
    have hu:oM (aY S) (d:Int) (aY S).length=_:=ad8 hI hd rfl
    have hdk:d≠t.k:=λe=>hdt (by rw [show (⟨d,2⟩:Th)=t by rw [e,←h2]])
    cases e:(af S.O d).up with
    |none=>
      rw [show (af S.O (⟨d,2⟩:Th).k).up=none from e] at hu
      replace hu:oM (aY S) (d:Int) (aY S).length = -1:=hu
      rw [hu,ahf Pd]
      refine⟨λq=>ahh q (by decide),λq=>?_⟩
      cases q with
      |here=>exact ahh rfl hdk
      |up h3 _=>rw [e] at h3;cases h3
    |some j=>
      rw [show (af S.O (⟨d,2⟩:Th).k).up=some j from e] at hu
      replace hu:oM (aY S) (d:Int) (aY S).length=(bW S ⟨j,2⟩:Int):=hu
      obtain⟨_,hj,_⟩:=(hI.up _ hd j).1 e
      have fV:=hdp d j e
      rw [hu,ahe zc,ahJ,ih j hj (ahA (GU (p:=λp:Int×Th=>decide (dp p.2.k<dp j)) (q:=λp=>decide (dp p.2.k<dp d)) (λx hx=>ahB (by have:=ah3 hx;omega)) (get_mem hj) (ahB fV) (ahi (ah9 _))) (Nat.lt_succ_iff.1 hm))]
      refine⟨λq=>.up e q,λq=>?_⟩
      cases q with
      |here=>exact ahh rfl hdk
      |up h3 h4=>rw [e] at h3;injection h3 with h3;rw [h3];exact h4
 grind [ig]
end q
section j
variable {S S' S2:bB} {g:List Int} {t u:Th} {d to k i j:Nat} {name aD:ByteArray} {O O':eu} {h d6 id z:Int} {c:aP} {R:RS} {o:Th} {n:aO}
theorem GV {X:FM} {x:Nat}:(af (bw X O d name t) x).aH=(af O x).aH:=eW (g:=bM.aH) (λ_ _=>rfl) (λ_ _=>rfl) (λ_ _ _=>rfl)
theorem Ff {X:FM} {x:Nat}:(af (bw X O d name t) x).aK=(af O x).aK:=eW (g:=bM.aK) (λ_ _=>rfl) (λ_ _=>rfl) (λ_ _ _=>rfl)
theorem Ch {X:FM} {x:Nat}:(af (bw X O d name t) x).id=(af O x).id:=eW (g:=bM.id) (λ_ _=>rfl) (λ_ _=>rfl) (λ_ _ _=>rfl)
theorem GW {X:FM} {x:Nat}:(af (dg X O d name t) x).aH=(af O x).aH:=mo (g:=bM.aH) (λ_ _=>rfl) (λ_ _=>rfl) (λ_ _ _=>rfl) (λ_ _=>rfl)
theorem Fg {X:FM} {x:Nat}:(af (dg X O d name t) x).aK=(af O x).aK:=mo (g:=bM.aK) (λ_ _=>rfl) (λ_ _=>rfl) (λ_ _ _=>rfl) (λ_ _=>rfl)
theorem Mq {X:FM} {x:Nat}:(af (dg X O d name t) x).id=(af O x).id:=mo (g:=bM.id) (λ_ _=>rfl) (λ_ _=>rfl) (λ_ _ _=>rfl) (λ_ _=>rfl)
theorem ZR (hr:RelR S g) (hd:aT S.ar ⟨d,2⟩) (hl:bN name (af S.O d).ah=some t):(af S.O t.k).aH≠true:=λh=>by
 have hI:=hr.inv.toInv0
 have fV:=(hr.inv.bU hd hl).2
 have h2:=hI.aH t fV h
 have h3:=hI.aV t fV
 have h4:=qZ (ar:=S.ar) hd hl
 omega
theorem GX (R:RS) (d:Nat) (name:ByteArray):(cX R d name false).aH=R.aH:=by
 grind [cX]
theorem Sr {S1:bB} (hx:qC S.ar) (hi:S1.ar=S.ar) (hX:S1.X.cS=S.X.cS/\S1.X.cZ=S.X.cZ) (hns:R.ns=aY S1) (hRs:R.cS=S.X.cS/\R.cZ=S.X.cZ) (hd:aT S.ar ⟨d,2⟩) (d9:aT S.ar ⟨to,2⟩) (htd:t.k≠d) (Cg:t.k≠to) (hid:(af S1.O t.k).id=(t.k:Int))
 (hi2:S2.ar=S.ar) (hO:S2.O=dg S1.X (bw S1.X S1.O d name t) to aD t) :
 (dh (cX R (bW S ⟨d,2⟩) name false) (bW S ⟨to,2⟩) aD (t.k:Int)).ns=aY S2:=by
 have hx1:qC S1.ar:=by rw [hi];exact hx
 have jE:aT S1.ar ⟨d,2⟩:=by rw [hi];exact hd
 have oY:aT S1.ar ⟨to,2⟩:=by rw [hi];exact d9
 have hl:=zw (S:=S1) (S':={S1 with O:=bw S1.X S1.O d name t}) (name:=name) hx1 jE htd rfl (λ_=>rfl)
 have he:=DP (S:={S1 with O:=bw S1.X S1.O d name t}) (S':={S1 with O:=dg S1.X (bw S1.X S1.O d name t) to aD t}) (name:=aD) (id:=(t.k:Int)) hx1 oY Cg (Ch.trans hid) rfl
 grind [aY,dg,bw,bW,ZP,nK,mP,nd,aT,af,dh,cX]
theorem Xb (hr:RelR S g) (hd:aT S.ar ⟨d,2⟩) (hl:bN name (af S.O d).ah=some t) (d9:aT S.ar ⟨to,2⟩) (Cg:t.k≠to) :
 ez (gn (dh (cX (toR S g) (bW S ⟨d,2⟩) name false) (bW S ⟨to,2⟩) aD (t.k:Int)),0,0) 0 (pV S d name to aD t) 0:=by
 have hI:=hr.inv.toInv0
 have fV:=(hr.inv.bU hd hl).2
 have htd:=hr.inv.ne hd hl
 obtain⟨S2,yX⟩:∃S2,S2=pV S d name to aD t:=⟨_,rfl⟩
 have hi2:S2.ar=S.ar:=by rw [yX];rfl
 have JZ:S2.O=dg S.X (bw S.X S.O d name t) to aD t:=by rw [yX];rfl
 have hgo:∀x,(af S2.O x).aH=(af S.O x).aH:=λx=>by rw [JZ];exact GW.trans GV
 have hns:(dh (cX (toR S g) (bW S ⟨d,2⟩) name false) (bW S ⟨to,2⟩) aD (t.k:Int)).ns=aY S2:=Sr (S1:=S) hI.ix rfl ⟨rfl,rfl⟩ rfl ⟨rfl,rfl⟩ hd d9 htd Cg (hI.ob t fV).1 hi2 JZ
 have j6:(dh (cX (toR S g) (bW S ⟨d,2⟩) name false) (bW S ⟨to,2⟩) aD (t.k:Int)).aH=g:=GX (toR S g) (bW S ⟨d,2⟩) name
 have hsw:=Ce (S1:=S2) (S2:=S2) (O2:=S2.O) (PA:=S.us) (R:=dh (cX (toR S g) (bW S ⟨d,2⟩) name false) (bW S ⟨to,2⟩) aD (t.k:Int)) (t:=t) (by rw [hi2];exact hI.ix) hns rfl
  (by rw [j6,hi2];exact hr.aH.same hgo) (by rw [hi2];exact fV)
  (λu hu _ Ml=>by grind [K2])
  (by rw [JZ,Fg,Ff];exact hI.aK t fV) (by rw [JZ,Mq,Ch];exact (hI.ob t fV).1)
  (by unfold kW;rw [ahe];exact λq=>ZR hr hd hl ((hgo _).symm.trans q.1)) (λ_=>rfl) (λ_=>rfl)
 grind [aT,bN,af,ez,gn,dh,cX,toR,bW,pV]
theorem Ud {ar:bF Th} (h1:(af O' o.k).aH=(af O o.k).aH) (h2:(af O' o.k).aK=(af O o.k).aK) (h3:(af O' o.k).id=(af O o.k).id):kW O' ar o=kW O ar o:=by
 grind [uE,kW]
theorem Xc (hr:RelR S g) (hd:aT S.ar ⟨d,2⟩) (hl:bN name (af S.O d).ah=some t) (d9:aT S.ar ⟨to,2⟩) (Cg:t.k≠to) (ho:bN aD (af S.O to).ah=some o) :
 ez (gn (dh (cX (cX (toR S g) (bW S ⟨to,2⟩) aD true) (bW S ⟨d,2⟩) name false) (bW S ⟨to,2⟩) aD (t.k:Int)),0,0) 0 (pV (bp S to aD o) d name to aD t) 0:=by
 have hI:=hr.inv.toInv0
 have fV:=(hr.inv.bU hd hl).2
 have hlo:=(hr.inv.bU d9 ho).2
 have htd:=hr.inv.ne hd hl
 obtain⟨e1,e2,e3,e4,e5⟩:=PI hr d9 ho
 obtain⟨D,hD⟩:∃D,D=bp S to aD o:=⟨_,rfl⟩
 rw [←hD] at e1 e2 e3 e4 e5 ⊢
 obtain⟨g1,hg1⟩:∃g1,g1=(cX (toR S g) (bW S ⟨to,2⟩) aD true).aH:=⟨_,rfl⟩
 rw [←hg1] at e1
 have hDX:D.X.cS=S.X.cS/\D.X.cZ=S.X.cZ:=by rw [hD];exact⟨rfl,rfl⟩
 obtain⟨R,hR⟩:∃R,R=dh (cX (cX (toR S g) (bW S ⟨to,2⟩) aD true) (bW S ⟨d,2⟩) name false) (bW S ⟨to,2⟩) aD (t.k:Int):=⟨_,rfl⟩
 obtain⟨S2,yX⟩:∃S2,S2=pV D d name to aD t:=⟨_,rfl⟩
 have JZ:S2.O=dg D.X (bw D.X D.O d name t) to aD t:=by rw [yX];rfl
 have hi2:S2.ar=D.ar:=by rw [yX];rfl
 have hgo:∀x,(af S2.O x).aH=(af D.O x).aH:=λx=>by rw [JZ];exact GW.trans GV
 have bX:∀x,(af S2.O x).aK=(af S.O x).aK:=λx=>by rw [JZ];exact (Fg.trans Ff).trans (e4 x)
 have ad9:∀x,(af D.O x).id=(af S.O x).id:=λx=>by
  have h:=ahg bM.id (e3 x)
  have h:(af D.O x).id=(af (bw S.X S.O to aD o) x).id:=h
  exact h.trans Ch
 have hid:∀x,(af S2.O x).id=(af D.O x).id:=λx=>by rw [JZ];exact Mq.trans Ch
 have hn1:(cX (toR S g) (bW S ⟨to,2⟩) aD true).ns=aY {S with O:=D.O,X:=D.X}:=
  (zw (S:=S) (S':={S with O:=D.O,X:=D.X}) hI.ix d9 (hr.inv.ne d9 ho) rfl e3).symm
 have hns:R.ns=aY {S2 with ar:=S.ar}:=by
  rw [hR]
  exact Sr (S:=S) (S1:={S with O:=D.O,X:=D.X}) (S2:={S2 with ar:=S.ar}) hI.ix rfl hDX hn1 ⟨rfl,rfl⟩ hd d9 htd Cg ((ad9 _).trans (hI.ob t fV).1) rfl JZ
 have j6:R.aH=g1:=by rw [hR,hg1];exact GX (cX (toR S g) (bW S ⟨to,2⟩) aD true) (bW S ⟨d,2⟩) name
 have hsw:=Ce (S1:={S2 with ar:=S.ar}) (S2:=S2) (O2:=S2.O) (PA:=S.us) (R:=R) (t:=o) hI.ix hns (by rw [hR];rfl)
  (by rw [j6];exact e1.same hgo) hlo
  (λu hu bV Ml=>by
   rw [hgo,e5 u.k (λe=>bV (jx hu hlo e))] at Ml
   exact K2 hr hu Ml)
  (by rw [bX];exact hI.aK o hlo) (by rw [hid,ad9];exact (hI.ob o hlo).1)
  (by
   rw [hi2,e2]
   exact (Ud (hgo _) ((bX _).trans (e4 _).symm) (hid _)).symm) (λ_=>rfl) (λ_=>rfl)
 grind [aT,bN,af,ez,gn,dh,cX,toR,bW,pV,bp]
theorem Mr (hr:RelR S g) (hd:aT S.ar ⟨d,2⟩) (d9:aT S.ar ⟨to,2⟩) (name aD:ByteArray):ez ((ia (toR S g) (bW S ⟨d,2⟩) name (bW S ⟨to,2⟩) aD).1,0,(ia (toR S g) (bW S ⟨d,2⟩) name (bW S ⟨to,2⟩) aD).2) (dm S d name to aD).1 (dm S d name to aD).2 0:=by
 have hI:=hr.inv.toInv0
 unfold ia dm
 rcases mr hr hd name with ⟨h1,h2⟩|⟨t,h1,h2,hl,hk,htd⟩
 ·grind [bZ,toR,bW,aT,ez,ia,dm]
 rw [h1,ahf (show 0<=bZ (toR S g).ns (bW S ⟨d,2⟩) name by rw [h2];omega),h2,ahJ]
 simp only
 rw [nh hI hl]
 have hb:t.kind=2->(jF (toR S g).ns (bW S t) ((toR S g).ns.length+1) (bW S ⟨to,2⟩)=true↔sD S.O t.k to):=λq=>Xa hI hl q d9
 simp only [show (jS S.O (t.k:Int) t).kind=t.kind from rfl,show (jS S.O (t.k:Int) t).id=(t.k:Int) from rfl]
 by_cases h3:t.kind=2/\sD S.O t.k to
 ·grind [jF,toR,bW,aT,ez,ia,dm]
 rw [ahe (show ¬(t.kind=2/\jF (toR S g).ns (bW S t) ((toR S g).ns.length+1) (bW S ⟨to,2⟩)=true) from λq=>h3 ⟨q.1,(hb q.1).1 q.2⟩),ahe h3]
 have Cg:t.k≠to:=λe=>by
  have h4:t=⟨to,2⟩:=jx hl d9 e
  exact h3 ⟨by rw [h4],by rw [e];exact .here⟩
 rcases mr hr d9 aD with ⟨h4,h5⟩|⟨o,h4,h5,hlo,hko,hot⟩
 ·grind [bZ,toR,bW,Xb]
 rw [h4,h5]
 simp only
 by_cases h6:o=t
 ·rw [ahf (by rw [h6]),ahf h6];exact .same hr rfl
 rw [ahe (λq=>h6 (Sk hI.ix hlo hl zc)),ahe h6,ahf zc,ahJ,nh hI hlo]
 grind [jS,Xc,aT,ez,ia,toR,bW,dm]
theorem Ue (hr:RelR S g) (c:aP):ez (match qH (toR S g) c 192 with|.error e=>(toR S g,0,e)|.ok (f,to)=>((ia (toR S g) f c.name to c.text).1,0,(ia (toR S g) f c.name to c.text).2)) (iV S c).1 (iV S c).2.1 0:=by
 unfold qH iV
 rw [qh hr,qh hr]
 rcases kI hr.inv.toInv0 c.aN c.name 192 with ⟨e,h,he⟩|⟨d,h,hd,-⟩
 ·rw [h];exact .bad rfl he
 rw [h]
 simp only
 rcases kI hr.inv.toInv0 c.other c.text 192 with ⟨e,h,he⟩|⟨to,h,d9,-⟩
 ·rw [h];exact .bad rfl he
 grind [Mr]
end j
section g
variable {S S' S2:bB} {g:List Int} {t u:Th} {d to k i j:Nat} {c:aP}
theorem ez.an {a:wN} {code an an':Int} (h:ez a code S' an) (h2:code=0->an=an'):ez a code S' an':=⟨h.1,λq=>by obtain⟨g',h3,h4,h5⟩:=h.2 q;exact⟨g',h3,h4,h5.trans (h2 q)⟩⟩
theorem ZS (h:(eH S t).2.1≠0):(eH S t).1=0:=by
 grind [ox,oZ]
def Told (c:aP) (m:vL):Prop:=m.2.2={c with answer:=m.2.2.answer}/\(m.1≠0->m.2.2.answer=c.answer)
theorem Told.plain {m:vL} (h:m.2.2=c):Told c m:=⟨by rw [h],λ_=>by rw [h]⟩
theorem Fh (h0:c.answer=0):Told c ((eH S t).2.1,(eH S t).2.2,{c with answer:=(eH S t).1}):=⟨rfl,λh=>aio (ZS (S:=S) (t:=t) h) h0.symm⟩
theorem Xd (h0:c.answer=0):Told c (kX S c):=by
 unfold kX
 split
 ·exact .plain rfl
 split
 ·exact Fh h0
 exact .plain rfl
theorem ZT (h0:c.answer=0):Told c (gZ S c):=by
 unfold gZ
 split
 ·exact .plain rfl
 split
 ·exact .plain rfl
 split
 ·exact .plain rfl
 exact Fh h0
theorem Xe (h0:c.answer=0):Told c (fZ S c):=by
 unfold fZ
 split
 ·exact .plain rfl
 split
 ·exact .plain rfl
 split
 ·exact .plain rfl
 exact Fh h0
theorem Q6 (h0:c.answer=0):Told c (fq S c):=by
 unfold fq
 split
 ·exact .plain rfl
 split
 ·split
  all_goals grind [oH,Told,fq]
 exact .plain rfl
theorem Uf (h0:c.answer=0):Told c (iw S c):=by
 unfold iw
 split
 ·exact .plain rfl
 split
 all_goals grind [gF,Told,iw]
theorem Xf (hr:RelR S g) (c:aP) (bX:¬(c.op=11\/c.op=12)):ez (cF (toR S g) c) (iF S (c0 c)).1 (iF S (c0 c)).2.1 (iF S (c0 c)).2.2.answer/\Told (c0 c) (iF S (c0 c)):=by
 have plain:∀{a:wN} {m:vL},m.2.2=c0 c->ez a m.1 m.2.1 0->ez a m.1 m.2.1 m.2.2.answer/\Told (c0 c) m:=λ{a m} h1 h2=>⟨h2.an (λ_=>by rw [h1]),.plain h1⟩
 unfold cF
 by_cases h1:c.op=1
 ·rw [ahf h1,zl (c:=c0 c) h1];exact⟨ZL hr (c0 c),Xd rfl⟩
 rw [ahe h1]
 by_cases h2:c.op=2
 ·rw [ahf h2,BB (c:=c0 c) h2];exact⟨Q0 hr (c0 c),ZT rfl⟩
 rw [ahe h2]
 by_cases h3:c.op=3
 ·rw [ahf h3,BD (c:=c0 c) h3];exact⟨PD hr (c0 c),Xe rfl⟩
 rw [ahe h3]
 by_cases h4:c.op=4\/c.op=5\/c.op=6\/c.op=8\/c.op=14
 ·rw [ahf h4]
  rcases h4 with h|h|h|h|h
  ·grind [zm,je,W7]
  ·rw [BF (c:=c0 c) h];exact⟨Ub hr (c0 c) h,Q6 rfl⟩
  ·grind [BG,iE,Q5]
  ·grind [BI,jD,Uc]
  grind [yc,kq,W9]
 rw [ahe h4]
 by_cases h7:c.op=7
 ·grind [BH,dX,ZQ]
 rw [ahe h7]
 by_cases h9:c.op=9
 ·rw [ahf h9,BJ (c:=c0 c) h9]
  exact⟨(ZO hr (c0 c)).an (λq=>ahf q),Uf rfl⟩
 rw [ahe h9]
 by_cases h10:c.op=10
 ·grind [x5,cY,ZN]
 rw [ahe h10]
 by_cases sB:c.op=13
 ·grind [x9,jW,W4]
 rw [ahe sB]
 by_cases NG:c.op=15
 ·grind [ye,iV,Ue]
 grind [iF,ez,cF,toR,Told]
theorem ZU (hr:RelR S g) (c:aP):∃g',tO (toR S g) c=(toR (gG S c).1 g',(gG S c).2)/\RelR (gG S c).1 g':=by
 unfold tO
 by_cases bX:c.op=11\/c.op=12
 ·rw [ahf bX,ZM hr c bX];exact⟨g,rfl,hr⟩
 rw [ahe bX]
 obtain⟨h1,h2,h3⟩:=Xf hr c bX
 by_cases h0:(iF S (c0 c)).1=0
 ·rw [ahf (h1.1.trans h0)]
  obtain⟨g',e1,e2,e3⟩:=h1.2 h0
  refine⟨g',?_,hr.inv.gG c,e2⟩
  grind [toR,iF,tO,gG]
 rw [ahe (λq=>h0 (h1.1.symm.trans q))]
 have hS:(gG S c).1=S:=ab1 (c:=c) h0
 refine⟨g,?_,by rw [hS];exact hr⟩
 rw [hS,h1.1]
 grind [iF,tO,toR,gG]
end g
section g
variable {R:RS} {d k to f:Nat} {name aD:ByteArray} {n:aO} {c:aP} {b:Bool} {id:Int}
def GL (R:RS):Prop:=R.aH.length<=4096
theorem Iw (h:R.ns.length<=4096):GL (gn R):=by
 grind [GL,gn]
theorem J0:(cX R d name b).ns.length=R.ns.length:=ahp ..
theorem Ug:(dh R d name id).ns.length=R.ns.length:=ahp ..
theorem K3 (h:GL R):GL (kY R k).1:=by unfold kY;split<;>exact h
theorem St {bs:List UInt8} (h:GL R):GL (jT R k bs).1:=by unfold jT;(repeat' split)<;>exact h
theorem PN (h:GL R):GL (bR R d name n).1:=by unfold bR;(repeat' split)<;>exact h
theorem PO (h:GL R) (hn:R.ns.length<=4096):GL (iH R d name b).1:=by
 grind [iH,Iw,J0]
theorem PS (h:GL R) (hn:R.ns.length<=4096):GL (ia R f name to aD).1:=by
 grind [ia,Iw,Ug,J0]
theorem PU {w:Int} (h:GL R):GL (jl R c w).1:=by
 grind [jl,K3]
theorem Xg (h:GL R) (hn:R.ns.length<=4096):GL (iI R c d).1:=by
 grind [iI,PO,PN,K3]
theorem ZV (h:GL R) (hn:R.ns.length<=4096):GL (cF R c).1:=by
 unfold cF
 split
 ·grind [K3]
 split
 ·exact PU h
 split
 ·exact PU h
 split
 ·split
  ·exact h
  exact Xg h hn
 split
 ·unfold vQ
  (repeat' split)<;>exact h
 grind [St,mq,Iw,PS,GL,cF]
theorem acq (h:GL R) (hn:R.ns.length<=4096):GL (tO R c).1:=by
 grind [tO,ZV,GL]
end g
section b
variable {S:bB} {g:List Int}
theorem abr (hr:RelR S g) (hg:g.length<=4096):RC (toR S g):=by
 have hI:=hr.inv.toInv0
 have jy:(toR S g).ns.length=S.ar.length:=ig
 have iA:(toR S g).us.length=S.us.length:=CY
 have hk:bn (toR S g).us=bn S.us:=Ip
 have h1:=hI.len
 have h2:=hI.Gx
 have h3:=hI.cH
 have h4:=hI.cN
 have h5:=hI.cB
 have h6:=hI.last
 have h7:=hI.aI
 refine⟨⟨zc,by show g.length<=8200;omega,zc,?_,?_⟩,Pu hI.ix,λid hid=>?_,λi hi=>?_,⟨h4.1,h4.2,h5.1,h5.2,h3.1,h3.2,h6.1,h6.2,h7.1,h7.2⟩,by rw [hk];exact hI.usr,λz hz=>(hI.xX z (by rw [←hk];exact hz)).1,by rw [iA];exact h2⟩
 ·have h8:=Iu (g:=g) hI
  have h9:=hI.total.2
  omega
 ·have h8:=Pz (g:=g) hI
  have h9:=hI.used.2
  omega
 ·have hid:id∈(tX S.us).map Prod.snd:=hid
  obtain⟨p,hp,rfl⟩:=ahx.1 hid
  obtain⟨q,hq,rfl⟩:=ahx.1 hp
  have hl:=(hr.inv.us q.1 q.2 (oI hI.usr hq)).1
  show 0<=gJ (aY S) (q.2.k:Int)
  rw [(nR hI.ix hl).2.2.2.2.1];omega
 rw [jy] at hi
 rw [show nd (toR S g).ns i=jS S.O (gI S i) (jr S i) from pP hi]
 exact (hI.ob _ (Gc hI.ix hi).1).2.2
end b
theorem Ms {X:FM} {ns:List aO} {S:bB} (h:kP X ns ns.length 0 S) (hok:cG ns):RelR S []/\toR S []=⟨ns,[],[],0,X.cN,X.cB,X.cH,X.cS,X.cZ,q6 ns ns.length⟩:=by
 refine⟨⟨h.full,⟨λt ht=>?_,λz hz=>by cases hz⟩⟩,?_⟩
 ·obtain⟨a,ha,e⟩:=h.of ht
  obtain⟨l,u,h1⟩:=h.ob a ha
  have hk:t.k=jX (nd ns a):=by rw [e];rfl
  rw [hk,h1]
  exact Iff.intro (λq=>ahh q (List.not_mem_nil)) (λq=>ahh (show false=true from q) Pd)
 unfold toR
 rw [h.graph hok,h.us,h.aI,h.cap];rfl
end
section
open Go.RowKit
section
variable {O:eu} {k:Nat} {kd:Int}
theorem yP (L:HL) (h:(af O k).kind=kd) (h0:kd≠0:=by decide):∀F w,(aW (d8 O L)).h F w->w.cell? ⟨L.b k,0,none⟩=some (.int .i64 (af O k).id):=jc (by rw [h];exact h0) rfl
theorem Bd (L:HL) (h:(af O k).kind=kd) (h0:kd≠0:=by decide):∀F w,(aW (d8 O L)).h F w->w.cell? ⟨L.b k,1,none⟩=some (.int .i64 (af O k).mode):=jc (by rw [h];exact h0) rfl
theorem Gf (L:HL) (h:(af O k).kind=kd) (h0:kd≠0:=by decide):∀F w,(aW (d8 O L)).h F w->w.cell? ⟨L.b k,2,none⟩=some (.int .i64 (af O k).bg):=jc (by rw [h];exact h0) rfl
theorem Gg (L:HL) (h:(af O k).kind=kd) (h0:kd≠0:=by decide):∀F w,(aW (d8 O L)).h F w->w.cell? ⟨L.b k,3,none⟩=some (.int .i64 (af O k).bh):=jc (by rw [h];exact h0) rfl
theorem tV (L:HL) (h:(af O k).kind=kd) (h0:kd≠0:=by decide):∀F w,(aW (d8 O L)).h F w->w.cell? ⟨L.b k,6,none⟩=some (.int .i64 (af O k).aV):=jc (by rw [h];exact h0) rfl
theorem qi (L:HL) (h:(af O k).kind=kd) (h0:kd≠0:=by decide):∀F w,(aW (d8 O L)).h F w->w.cell? ⟨L.b k,7,none⟩=some (.int .i64 (af O k).aK):=jc (by rw [h];exact h0) rfl
theorem uz (L:HL) (h:(af O k).kind=kd) (h0:kd≠0:=by decide):∀F w,(aW (d8 O L)).h F w->w.cell? ⟨L.b k,8,none⟩=some (.bool (af O k).aH):=jc (by rw [h];exact h0) rfl
theorem PV (L:HL) (h:(af O k).kind=1):∀F w,(aW (d8 O L)).h F w->w.cell? ⟨L.b k,9,none⟩=some (.slice (L.dA k) (af O k).data.length (L.dC k)):=jc (by rw [h];decide) (by rw [mH h];rfl)
theorem dw (L:HL) (h:(af O k).kind=2):∀F w,(aW (d8 O L)).h F w->w.cell? ⟨L.b k,9,none⟩=some (.map (some (L.m k))):=jc (by rw [h];decide) (by rw [rO h];rfl)
theorem af8 (L:HL) (h:(af O k).kind=2):∀F w,(aW (d8 O L)).h F w->w.cell? ⟨L.b k,10,none⟩=some (I5 L (af O k).up):=jc (by rw [h];decide) (by rw [rO h];rfl)
theorem afe (L:HL) (h:(af O k).kind=3):∀F w,(aW (d8 O L)).h F w->w.cell? ⟨L.b k,9,none⟩=some (.string (af O k).target):=jc (by rw [h];decide) (by rw [ED h];rfl)
end
end
section
open Go.RowKit Go.Maps
theorem aW.step {R R':Nat->dV} {k:Nat} {F:Fp} {w w':World} (hF:(aW R).h F w) (hR:∀x,x≠k->R' x=R x) (hs:∀G,(R k).h G w->∃G',(R' k).h G' w'/\Step G w G' w'):∃F',(aW R').h F' w'/\Step F w F' w':=by
 obtain⟨φ,h1,h2,h3⟩:=hF
 obtain⟨G',g1,st⟩:=hs _ (h1 k)
 have hap:∀i,i≠k->∀x,G' x->φ i x->False:=λi bV x hx hy=>by
  rcases st.grow x hx with e|e
  ·exact h2 i k bV x hy e
  have:=(R i).lt (h1 i) x hy;omega
 refine⟨λx=>∃i,(if i=k then G' else φ i) x,⟨λi=>if i=k then G' else φ i,λi=>?_,λi j bV x hx hy=>?_,λx=>Iff.rfl⟩,⟨st.keeps.mono (λx _ hx=>(h3 x).2 ⟨k,hx⟩),λx ⟨i,hx⟩=>?_⟩⟩
 ·by_cases e:i=k
  ·subst e;simp only [if_true];exact g1
  simp only [e,if_false]
  rw [hR i e]
  exact (R i).st (h1 i) st.keeps (λx hx hk=>h2 i k e x hx hk)
 ·by_cases e1:i=k
  ·grind
  simp only [e1,if_false] at hx
  by_cases e2:j=k
  ·grind
  simp only [e2,if_false] at hy
  exact h2 i j bV x hx hy
 by_cases e:i=k
 ·simp only [e,if_true] at hx
  rcases st.grow x hx with h|h
  ·exact .inl ((h3 x).2 ⟨k,h⟩)
  exact .inr h
 grind
def K5 (O:eu) (L:HL):Nat->HP
 |0=>.abs (aW (d8 O L))
 |1=>.abs (aW (fM O L))
 |_=>.abs (aW (dN O L))
def wU (O:eu) (L:HL):List (Nat×Nat)->List (Nat×HP)
 |[]=>[]
 |q::r=>(q.1,K5 O L q.2)::wU O L r
def Ci (ax:List HP) (O:eu) (L:HL):List (Nat×Nat)->Prop
 |[]=>True
 |q::r=>ax[q.1]?=some (K5 O L q.2)/\Ci ax O L r
theorem CZ {ax:List HP} {O O2:eu} {L:HL} {p:Nat} (he:∀q,q≠p->K5 O2 L q=K5 O L q):∀{js:List (Nat×Nat)},Ci ax O L js->oC p (js.map (·.2))=false->tH ax (wU O2 L js)=ax
 |[],_,_=>rfl
 |q::r,h,hn=>by
   have hq:q.2≠p:=λe=>by
    rw [show oC p ((q::r).map (·.2))=true from t6.2 (by simp [e])] at hn;cases hn
   have hr:oC p (r.map (·.2))=false:=by
    cases hb:oC p (r.map (·.2)) with
    |false=>rfl
    |true=>rw [show oC p ((q::r).map (·.2))=true from t6.2 (ahq _ (t6.1 hb))] at hn;cases hn
   show tH (ax.set q.1 (K5 O2 L q.2)) (wU O2 L r)=ax
   have e:ax.set q.1 (K5 O2 L q.2)=ax:=by
    rw [he _ hq]
    refine List.ext_getElem? (λn=>?_)
    rw [List.getElem?_set]
    split
    ·rename_i e;subst e
     rw [h.1];split
     ·rfl
     rename_i fV;exact ahh (dF h.1) fV
    rfl
   rw [e]
   exact CZ he h.2 hr
def J1 (P:Program) (N:fQ) (ai:Nat->Value) (ops:Array Oper) (fr:Fr) (k:Nat):Option (Addr×Value):=
 match iK N ai ops fr k with
 |some (.store T a y,_)=>match (P.info? T).map (·.size) with
   |some 1=>match eX N fr ai a with
     |.pointer (some ad)=>some (ad,eX N fr ai y)
     |_=>none
   |_=>none
 |_=>none
def J2 (N:fQ) (ai:Nat->Value) (ops:Array Oper) (fr:Fr) (k:Nat):Option (TypeId×Nat×Value):=
 match iK N ai ops fr k with
 |some (.lookup t x ix false,_)=>match eX N fr ai x with
   |.map (some b)=>some (t,b,eX N fr ai ix)
   |_=>none
 |_=>none
def setAt (N:fQ) (ai:Nat->Value) (ops:Array Oper) (fr:Fr) (k:Nat):Option (TypeId×Nat×Value×Value):=
 match iK N ai ops fr k with
 |some (.mapUpdate t x ix y,_)=>match eX N fr ai x with
   |.map (some b)=>some (t,b,eX N fr ai ix,eX N fr ai y)
   |_=>none
 |_=>none
def Uh (N:fQ) (ai:Nat->Value) (ops:Array Oper) (fr:Fr) (k:Nat):Option (TypeId×TypeId×Nat×Value):=
 match iK N ai ops fr k with
 |some (.call ⟨.builtin .delete,xs,ts⟩,_)=>match xs.toList with
   |[x,ix]=>match ts.toList with
     |[t,K]=>match eX N fr ai x with
       |.map (some b)=>some (t,K,b,eX N fr ai ix)
       |_=>none
     |_=>none
   |_=>none
 |_=>none
def PW (L:HL):Option Th->Value
 |none=>.nilIface
 |some t=>iz L t
section rules
variable {β:Bs} {N:fQ} {ops:Array Oper} {k x:Nat} {fr:Fr} {ax:List HP} {Q:Post} {O:eu} {L:HL} {name:ByteArray} {r:Option Th} {t:Th}
theorem C0 {ai:Nat->Value} {op:Op} {d:Option Tmp} (h:iK N ai ops fr k=some (op,d)):d=iX ops k:=by
 grind [iT,iX]
theorem PX {P:Program} {ai:Nat->Value} {ad:Addr} {u:Value} (h:J1 P N ai ops fr k=some (ad,u)):∃T a y,iK N ai ops fr k=some (.store T a y,iX ops k)/\(P.info? T).map (·.size)=some 1/\eX N fr ai a=.pointer (some ad)/\eX N fr ai y=u:=by
 grind [J1,C0]
theorem vA {ai:Nat->Value} {T:TypeId} {b:Nat} {key:Value} (h:J2 N ai ops fr k=some (T,b,key)):∃a y,iK N ai ops fr k=some (.lookup T a y false,iX ops k)/\eX N fr ai a=.map (some b)/\eX N fr ai y=key:=by
 grind [J2,C0]
theorem ZW {ai:Nat->Value} {T:TypeId} {b:Nat} {key u:Value} (h:setAt N ai ops fr k=some (T,b,key,u)):∃a y z,iK N ai ops fr k=some (.mapUpdate T a y z,iX ops k)/\eX N fr ai a=.map (some b)/\eX N fr ai y=key/\eX N fr ai z=u:=by
 grind [setAt,C0]
theorem Xh {P:Program} {T:TypeId} {a y:Operand} {o:Oper} {ev:Operand->Value} {w:World} {ad:Addr} {u v0:Value} (ho:o.op=.store T a y) (hT:(P.info? T).map (·.size)=some 1) (ha:ev a=.pointer (some ad)) (hy:ev y=u) (hu:u.oneCell'=true) (hc:w.cell? ad=some v0) (hf:w.frozen? ad=false) (hs:ad.spot=none):sQ P ev o w undef (w.setCell ad u):=by
 obtain⟨inf,hi,eG⟩:∃inf,P.info? T=some inf/\inf.size=1:=by
  cases h:P.info? T with
  |none=>rw [h] at hT;cases hT
  |some inf=>rw [h] at hT;exact⟨inf,rfl,by simpa using hT⟩
 have h3:=qd hi w
 rw [eG] at h3
 obtain⟨dst,op,type,pos,after,guard⟩:=o
 obtain⟨bk,off,spot⟩:=ad
 simp only at hs
 subst hs
 cases ho
 refine .inr ⟨rfl,?_⟩
 cases u<;>first
  |(simp [Value.oneCell'] at hu;done)
  |(simp only [execOp,ha,hy];simp [go_sem,Instr.storeAt,Instr.sureAddr,storeVar,h3,Value.cells,storeCells,store,Addr.add,Sem.run,hc,hf])
theorem oSt (i:Nat) (js:List (Nat×Nat)) (x j:Nat) (f:bM->bM) (u:Value) {kd:Int} (hk:(af O x).kind=kd)
 (K:∀O2,O2=aZ O x f->av Tryz.prog β N ops (k+1) (eV fr (iX ops k) undef) ((tH ax (wU O2 L js)).set i (.abs (aW (d8 O2 L)))) Q)
 (hp:ax[i]?=some (.abs (aW (d8 O L)))) (hj:Ci ax O L js)
 (ho:∀ai,J1 Tryz.prog N ai ops fr k=some (⟨L.b x,j,none⟩,u))
 (hn:oC 0 (js.map (·.2))=false) (h0:kd≠0) (hc:lN L x (f (af O x))=(lN L x (af O x)).set j u) (hu:u.oneCell'=true) (h9:j<(lN L x (af O x)).length)
 (he:(f (af O x)).ah=(af O x).ah) (hd:(f (af O x)).data=(af O x).data) (Cj:(f (af O x)).kind=(af O x).kind):av Tryz.prog β N ops k fr ax Q:=by
 obtain⟨T,a,y,h1,h2,h3,h4⟩:=PX (ho (λ_=>undef))
 intro ai w hS
 obtain⟨T,a,y,h1,h2,h3,h4⟩:=PX (ho ai)
 obtain⟨o,g1,g2,g3,g4⟩:=iT h1
 have hx0:(af O x).kind≠0:=by rw [hk];exact h0
 have PY:tH ax (wU (aZ O x f) L js)=ax:=CZ (p:=0) (λq hq=>by
  match q,hq with
  |0,hq=>exact ahh rfl hq
  |1,_=>exact ahg (λR=>HP.abs (aW R)) (tM he Cj)
  |q+2,_=>exact ahg (λR=>HP.abs (aW R)) (tL hd Cj)) hj hn
 have hcell:∃v0,(lN L x (af O x))[j]?=some v0:=lq h9
 obtain⟨v0,hv0⟩:=hcell
 obtain⟨F,hF⟩:=hS.get hp
 obtain⟨G,hG⟩:=aW.at x hF
 have hG2:=hG
 rw [rN hx0] at hG2
 obtain⟨hb,_⟩:=hG2
 obtain⟨c1,c2⟩:=lZ (a:=⟨L.b x,j,none⟩) hb rfl rfl hv0
 have yX:aR β (ax.set i (.abs (aW (d8 (aZ O x f) L)))) (w.setCell ⟨L.b x,j,none⟩ (u)):=hS.set hp (λF hF=>aW.step (k:=x) (show (aW (d8 O L)).h F w from hF) (λy hy=>CO hy) (λG hG=>by
  rw [rN hx0] at hG
  rw [CN,ahe (by rw [Cj];exact hx0),hc,Cj]
  exact zQ hG rfl rfl))
 rw [drop_cons g1]
 unfold wpList
 rw [iP,ahf g2]
 refine .inl (qm (v:=undef) (w':=w.setCell ⟨L.b x,j,none⟩ (u)) (by rw [jm];grind [Xh]) ?_)
 rw [iC]
 have hK:=K _ rfl ai _ (by rw [PY];exact yX)
 rw [←g4] at hK
 exact hK
theorem Be (i:Nat) (js:List (Nat×Nat)) (x j:Nat) (f:bM->bM) {kd:Int} (hk:(af O x).kind=kd)
 (K:∀O2,O2=aZ O x f->av Tryz.prog β N ops (k+1) (eV fr (iX ops k) undef) ((tH ax (wU O2 L js)).set i (.abs (aW (d8 O2 L)))) Q)
 (hp:ax[i]?=some (.abs (aW (d8 O L))):=by rfl) (hj:Ci ax O L js:=by first|exact⟨rfl,trivial⟩|exact⟨rfl,rfl,trivial⟩|exact trivial)
 (ho:∀ai,J1 Tryz.prog N ai ops fr k=some (⟨L.b x,j,none⟩,(FQ (f (af O x))).getD j undef):=by intro _;kernel_rfl)
 (hn:oC 0 (js.map (·.2))=false:=by rfl) (h0:kd≠0:=by decide) (hc:lN L x (f (af O x))=(lN L x (af O x)).set j ((FQ (f (af O x))).getD j undef):=by rfl) (hu:((FQ (f (af O x))).getD j undef).oneCell'=true:=by rfl) (h9:Nat.blt j 9=true:=by rfl)
 (he:(f (af O x)).ah=(af O x).ah:=by rfl) (hd:(f (af O x)).data=(af O x).data:=by rfl) (Cj:(f (af O x)).kind=(af O x).kind:=by rfl):av Tryz.prog β N ops k fr ax Q:=
 oSt i js x j f _ hk K hp hj ho hn h0 hc hu (ahA (show j<9 by simpa [Nat.blt_eq] using h9) (by unfold lN FQ;simp)) he hd Cj
theorem uSt (i:Nat) (js:List (Nat×Nat)) (x:Nat) (y:Option Nat) (hk:(af O x).kind=2)
 (K:∀O2,O2=aZ O x (λo=>{o with up:=y})->av Tryz.prog β N ops (k+1) (eV fr (iX ops k) undef) ((tH ax (wU O2 L js)).set i (.abs (aW (d8 O2 L)))) Q)
 (hp:ax[i]?=some (.abs (aW (d8 O L))):=by rfl) (hj:Ci ax O L js:=by first|exact⟨rfl,trivial⟩|exact⟨rfl,rfl,trivial⟩|exact trivial)
 (ho:∀ai,J1 Tryz.prog N ai ops fr k=some (⟨L.b x,10,none⟩,I5 L y):=by intro _;kernel_rfl) (hn:oC 0 (js.map (·.2))=false:=by rfl):av Tryz.prog β N ops k fr ax Q:=
 oSt i js x 10 (λo=>{o with up:=y}) (I5 L y) hk K hp hj ho hn Pd (by rw [rO (show ({af O x with up:=y}:bM).kind=2 from hk),rO hk];rfl) (by cases y<;>rfl) (by rw [rO hk];exact ahI 10) rfl rfl rfl
theorem aR.abt {w:World} {i j:Nat} {f:bM->bM} {u:Value} (hS:aR β ax w) (hp:ax[i]?=some (.abs (aW (d8 O L)))) (hx0:(af O x).kind≠0) (hc:lN L x (f (af O x))=(lN L x (af O x)).set j u) (Cj:(f (af O x)).kind=(af O x).kind) (h9:j<(lN L x (af O x)).length) :
 aR β (ax.set i (.abs (aW (d8 (aZ O x f) L)))) (w.setCell ⟨L.b x,j,none⟩ u)/\(∃v0,w.cell? ⟨L.b x,j,none⟩=some v0)/\w.frozen? ⟨L.b x,j,none⟩=false:=by
 obtain⟨v0,hv0⟩:=lq h9
 obtain⟨F,hF⟩:=hS.get hp
 obtain⟨G,hG⟩:=aW.at x (show (aW (d8 O L)).h F w from hF)
 rw [rN hx0] at hG
 obtain⟨c1,c2⟩:=lZ (a:=⟨L.b x,j,none⟩) hG.1 rfl rfl hv0
 refine⟨hS.set hp (λF hF=>aW.step (k:=x) (show (aW (d8 O L)).h F w from hF) (λy hy=>CO hy) (λG hG=>?_)),⟨v0,c1⟩,c2⟩
 rw [rN hx0] at hG
 rw [CN,ahe (by rw [Cj];exact hx0),hc,Cj]
 exact zQ hG rfl rfl
def PZ (P:Program) (N:fQ) (ai:Nat->Value) (ops:Array Oper) (fr:Fr) (k:Nat):Option (Addr×Value):=
 match iK N ai ops fr k with
 |some (.store T a y,_)=>match (P.info? T).map (·.size) with
   |some 2=>match eX N fr ai a with
     |.pointer (some ad)=>some (ad,eX N fr ai y)
     |_=>none
   |_=>none
 |_=>none
theorem Xi {P:Program} {ai:Nat->Value} {ad:Addr} {u:Value} (h:PZ P N ai ops fr k=some (ad,u)):∃T a y,iK N ai ops fr k=some (.store T a y,iX ops k)/\(P.info? T).map (·.size)=some 2/\eX N fr ai a=.pointer (some ad)/\eX N fr ai y=u:=by
 grind [PZ,C0]
theorem Ui {P:Program} {T:TypeId} {a y:Operand} {o:Oper} {ev:Operand->Value} {w:World} {b j:Nat} {z1 z2:Int} {v0 v1:Value} (ho:o.op=.store T a y) (hT:(P.info? T).map (·.size)=some 2) (ha:ev a=.pointer (some ⟨b,j,none⟩)) (hy:ev y=.agg #[.int .i64 z1,.int .i64 z2])
 (hc:w.cell? ⟨b,j,none⟩=some v0) (hf:w.frozen? ⟨b,j,none⟩=false) (hc1:(w.setCell ⟨b,j,none⟩ (.int .i64 z1)).cell? ⟨b,j+1,none⟩=some v1) (hf1:(w.setCell ⟨b,j,none⟩ (.int .i64 z1)).frozen? ⟨b,j+1,none⟩=false) :
 sQ P ev o w undef ((w.setCell ⟨b,j,none⟩ (.int .i64 z1)).setCell ⟨b,j+1,none⟩ (.int .i64 z2)):=by
 obtain⟨inf,hi,eG⟩:∃inf,P.info? T=some inf/\inf.size=2:=by
  cases h:P.info? T with
  |none=>rw [h] at hT;cases hT
  |some inf=>rw [h] at hT;exact⟨inf,rfl,by simpa using hT⟩
 have h3:=qd hi w
 rw [eG] at h3
 obtain⟨dst,op,type,pos,after,guard⟩:=o
 cases ho
 refine .inr ⟨rfl,?_⟩
 simp only [execOp,ha,hy]
 simp [go_sem,Instr.storeAt,Instr.sureAddr,storeVar,h3,Value.cells,storeCells,store,Addr.add,Sem.run,hc,hf,hc1,hf1]
theorem Xj (i:Nat) (js:List (Nat×Nat)) (x:Nat) (z1 z2:Int) {kd:Int} (hk:(af O x).kind=kd)
 (K:∀O2,O2=aZ O x (λo=>{o with aU:=z1,aJ:=z2})->av Tryz.prog β N ops (k+1) (eV fr (iX ops k) undef) ((tH ax (wU O2 L js)).set i (.abs (aW (d8 O2 L)))) Q)
 (hp:ax[i]?=some (.abs (aW (d8 O L))):=by rfl) (hj:Ci ax O L js:=by first|exact⟨rfl,trivial⟩|exact⟨rfl,rfl,trivial⟩|exact trivial)
 (ho:∀ai,PZ Tryz.prog N ai ops fr k=some (⟨L.b x,4,none⟩,.agg #[.int .i64 z1,.int .i64 z2]):=by intro _;kernel_rfl)
 (hn:oC 0 (js.map (·.2))=false:=by rfl) (h0:kd≠0:=by decide):av Tryz.prog β N ops k fr ax Q:=by
 intro ai w hS
 obtain⟨T,a,y,h1,h2,h3,h4⟩:=Xi (ho ai)
 obtain⟨o,g1,g2,g3,g4⟩:=iT h1
 have hx0:(af O x).kind≠0:=by rw [hk];exact h0
 have PY:tH ax (wU (aZ O x (λo=>{o with aU:=z1,aJ:=z2})) L js)=ax:=CZ (p:=0) (λq hq=>by
  match q,hq with
  |0,hq=>exact ahh rfl hq
  |1,_=>exact ahg (λR=>HP.abs (aW R)) (tM rfl rfl)
  |q+2,_=>exact ahg (λR=>HP.abs (aW R)) (tL rfl rfl)) hj hn
 have jy:∀o:bM,9<=(lN L x o).length:=λo=>by unfold lN FQ;simp
 obtain⟨s1,⟨v0,c1⟩,f1⟩:=hS.abt (x:=x) (j:=4) (f:=λo=>{o with aU:=z1}) (u:=.int .i64 z1) hp hx0 rfl rfl (by have:=jy (af O x);omega)
 have hi:i<ax.length:=dF hp
 have e1:af (aZ O x (λo=>{o with aU:=z1})) x={af O x with aU:=z1}:=fB
 obtain⟨s2,⟨v1,c2⟩,f2⟩:=s1.abt (x:=x) (j:=5) (f:=λo=>{o with aJ:=z2}) (u:=.int .i64 z2) (i:=i) (O:=aZ O x (λo=>{o with aU:=z1})) (by rw [List.getElem?_set,ahf rfl,ahf hi]) (by rw [e1];exact hx0) rfl rfl Pe
 rw [List.set_set,Bv] at s2
 rw [drop_cons g1]
 unfold wpList
 rw [iP,ahf g2]
 refine .inl (qm (v:=undef) (w':=_) (by rw [jm];exact Ui g3 h2 h3 h4 c1 f1 c2 f2) ?_)
 rw [iC]
 have hK:=K _ rfl ai _ (by rw [PY];exact s2)
 rw [←g4] at hK
 exact hK
theorem Gh {w:World} {i:Nat} (hS:aR β ax w) (hp:ax[i]?=some (.abs (aW (fM O L)))) (hd:(af O x).kind=2):kz Tryz.prog 9 w (L.m x) (nJ L (af O x).ah) (af O x).ah.length:=by
 obtain⟨F,hF⟩:=hS.get hp
 obtain⟨G,hG⟩:=aW.at x (show (aW (fM O L)).h F w from hF)
 rw [vl hd] at hG
 exact hG.1
theorem Sv {w:World} {i:Nat} {o:Oper} {ev:Operand->Value} {a y:Operand} (hS:aR β ax w) (hp:ax[i]?=some (.abs (aW (fM O L)))) (hd:(af O x).kind=2) (hl:bN name (af O x).ah=r) (h3:o.op=.lookup 145 a y false) (ha:ev a=.map (some (L.m x))) (hy:ev y=.string name) (eG:name.size<=1048576):sQ Tryz.prog ev o w (PW L r) w:=by
 have h:=C9 (z:=.nilIface) h3 (Gh hS hp hd) ha hy Hs Tryz.underlying145 KB (Kp zc)
 rw [zA,hl] at h
 cases r<;>exact h
theorem nj (i:Nat) (hd:(af O x).kind=2) (hl:bN name (af O x).ah=r) (K:av Tryz.prog β N ops (k+1) (eV fr (iX ops k) (PW L r)) ax Q) (hp:ax[i]?=some (.abs (aW (fM O L))):=by rfl)
 (ho:∀ai,J2 N ai ops fr k=some (145,L.m x,.string name):=by intro _;kernel_rfl) (eG:name.size<=1048576:=by omega):av Tryz.prog β N ops k fr ax Q:=by
 intro ai w hS
 obtain⟨a,y,h1,h2,h3⟩:=vA (ho ai)
 exact av.mT (eZ:=ax) (v:=PW L r) (d:=iX ops k) (op:=.lookup 145 a y false) (λj=>by
  obtain⟨a',y',h1',_,_⟩:=vA (ho j)
  obtain⟨o,g1,g2,g3,g4⟩:=iT h1
  obtain⟨o',Ck,g2',C2,g4'⟩:=iT h1'
  rw [g1] at Ck
  cases Ck
  rw [g3] at C2
  cases C2
  exact h1') (λo ai w ho' hS=>by
  obtain⟨a',y',h1',h2',h3'⟩:=vA (ho ai)
  obtain⟨o1,g1,g2,g3,g4⟩:=iT h1
  obtain⟨o',Ck,g2',C2,g4'⟩:=iT h1'
  rw [g1] at Ck
  cases Ck
  rw [g3] at C2
  cases C2
  exact⟨w,Sv hS hp hd hl ho' h2' h3' eG,hS⟩) K ai w hS
theorem y4 (i:Nat) (hd:(af O x).kind=2) (hl:bN name (af O x).ah=r) (K:bP Tryz.prog β N ops (k+1) (eV fr (iX ops k) (PW L r)) ax Q) (hp:ax[i]?=some (.abs (aW (fM O L))):=by rfl)
 (ho:∀ai,J2 N ai ops fr k=some (145,L.m x,.string name):=by intro _;kernel_rfl) (eG:name.size<=1048576:=by omega):bP Tryz.prog β N ops k fr ax Q:=by
 intro ai
 obtain⟨a,y,h1,h2,h3⟩:=vA (ho ai)
 exact bP.mT (v:=PW L r) (d:=iX ops k) (op:=.lookup 145 a y false) (λj=>by
  obtain⟨a',y',h1',_,_⟩:=vA (ho j)
  obtain⟨o,g1,g2,g3,g4⟩:=iT h1
  obtain⟨o',Ck,g2',C2,g4'⟩:=iT h1'
  rw [g1] at Ck
  cases Ck
  rw [g3] at C2
  cases C2
  exact h1') (λo ai w ho' hS=>by
  obtain⟨a',y',h1',h2',h3'⟩:=vA (ho ai)
  obtain⟨o1,g1,g2,g3,g4⟩:=iT h1
  obtain⟨o',Ck,g2',C2,g4'⟩:=iT h1'
  rw [g1] at Ck
  cases Ck
  rw [g3] at C2
  cases C2
  exact Sv hS hp hd hl ho' h2' h3' eG) K ai
def Uj (N:fQ) (ai:Nat->Value) (ops:Array Oper) (fr:Fr) (k:Nat):Option (TypeId×Nat):=
 match iK N ai ops fr k with
 |some (.call ⟨.builtin .len,xs,ts⟩,_)=>match xs.toList with
   |[x]=>match ts.toList with
     |[t]=>match eX N fr ai x with
       |.map (some b)=>some (t,b)
       |_=>none
     |_=>none
   |_=>none
 |_=>none
theorem Ix {ai:Nat->Value} {T:TypeId} {b:Nat} (h:Uj N ai ops fr k=some (T,b)):∃a,iK N ai ops fr k=some (.call ⟨.builtin .len,#[a],#[T]⟩,iX ops k)/\eX N fr ai a=.map (some b):=by
 unfold Uj at h
 repeat' split at h
 all_goals first|(cases h;done)|skip
 rename_i xs ts d h0 _ a h1 _ t' h2 _ b' h3
 cases h
 have:=C0 h0
 subst this
 refine⟨a,?_,h3⟩
 rw [h0]
 obtain⟨xs⟩:=xs
 obtain⟨ts⟩:=ts
 cases h1
 cases h2
 rfl
theorem eNk (i:Nat) (hd:(af O x).kind=2) (K:av Tryz.prog β N ops (k+1) (eV fr (iX ops k) (.int .i64 (((af O x).ah.length:Nat):Int))) ax Q) (hp:ax[i]?=some (.abs (aW (fM O L))):=by rfl)
 (ho:∀ai,Uj N ai ops fr k=some (145,L.m x):=by intro _;kernel_rfl):av Tryz.prog β N ops k fr ax Q:=by
 obtain⟨a,h1,h2⟩:=Ix (ho (λ_=>undef))
 obtain⟨o,g1,g2,g3,g4⟩:=iT h1
 refine av.mT (eZ:=ax) (v:=.int .i64 (((af O x).ah.length:Nat):Int)) (d:=iX ops k) (op:=o.op) (λj=>?_) (λo' ai w ho' hS=>?_) K
 ·obtain⟨a',h1',_⟩:=Ix (ho j)
  grind [iT]
 obtain⟨a',h1',h2'⟩:=Ix (ho ai)
 obtain⟨o1,Ck,g2',C2,g4'⟩:=iT h1'
 rw [g1] at Ck
 cases Ck
 exact⟨w,FJ (ho'.trans C2) rfl (Gh hS hp hd) h2' Tryz.underlying145,hS⟩
theorem eSt (i:Nat) (js:List (Nat×Nat)) {t:Th} (hd:(af O x).kind=2) (iU:bN name (af O x).ah=none)
 (K:∀O2,O2=aZ O x (λo=>{o with ah:=kO name t o.ah})->av Tryz.prog β N ops (k+1) (eV fr (iX ops k) undef) ((tH ax (wU O2 L js)).set i (.abs (aW (fM O2 L)))) Q)
 (hp:ax[i]?=some (.abs (aW (fM O L))):=by rfl) (hj:Ci ax O L js:=by first|exact⟨rfl,trivial⟩|exact⟨rfl,rfl,trivial⟩|exact trivial)
 (ho:∀ai,setAt N ai ops fr k=some (145,L.m x,.string name,iz L t):=by intro _;kernel_rfl) (hn:oC 1 (js.map (·.2))=false:=by rfl) (eG:name.size<=1048576:=by omega) (hel:(af O x).ah.length<=1048576:=by omega):av Tryz.prog β N ops k fr ax Q:=by
 intro ai w hS
 obtain⟨a,y,z,h1,h2,h3,h4⟩:=ZW (ho ai)
 obtain⟨o,g1,g2,g3,g4⟩:=iT h1
 have PY:tH ax (wU (aZ O x (λo=>{o with ah:=kO name t o.ah})) L js)=ax:=CZ (p:=1) (λq hq=>by
  match q,hq with
  |0,_=>exact ahg (λR=>HP.abs (aW R)) (N5 (es:=λo=>kO name t o.ah))
  |1,hq=>exact ahh rfl hq
  |q+2,_=>exact ahg (λR=>HP.abs (aW R)) (tL rfl rfl)) hj hn
 obtain⟨w',m1,m2,m3⟩:=(Gh hS hp hd).store Hs Tryz.underlying145 (by unfold maxLen;omega) (Kp (p:=name) zc) (iz L t)
 have e1:(nJ L (af O x).ah) (.string name.data.toList)=none:=by rw [zA,iU];rfl
 rw [e1,Yg iU] at m2
 have yX:aR β (ax.set i (.abs (aW (fM (aZ O x (λo=>{o with ah:=kO name t o.ah})) L)))) w':=hS.set hp (λF hF=>aW.step (k:=x) (show (aW (fM O L)).h F w from hF) (λy hy=>EB hy) (λG hG=>by
  rw [vl hd] at hG
  rw [vl (by rw [fB];exact hd),fB,NY]
  exact step_map hG m2 m3))
 rw [drop_cons g1]
 unfold wpList
 rw [iP,ahf g2]
 refine .inl (qm (v:=undef) (w':=w') (by
  rw [jm]
  refine .inr ⟨rfl,?_⟩
  obtain⟨dst,op,type,pos,after,guard⟩:=o
  cases g3
  simp only [execOp,h2,h3,h4]
  simp [go_sem,m1]) ?_)
 rw [iC]
 have hK:=K _ rfl ai _ (by rw [PY];exact yX)
 rw [←g4] at hK
 exact hK
theorem ZX {ai:Nat->Value} {T K0:TypeId} {b:Nat} {key:Value} (h:Uh N ai ops fr k=some (T,K0,b,key)):∃a y,iK N ai ops fr k=some (.call ⟨.builtin .delete,#[a,y],#[T,K0]⟩,iX ops k)/\eX N fr ai a=.map (some b)/\eX N fr ai y=key:=by
 unfold Uh at h
 repeat' split at h
 all_goals first|(cases h;done)|skip
 rename_i xs ts d h0 _ a y h1 _ t' K' h2 _ b' h3
 cases h
 have:=C0 h0
 subst this
 refine⟨a,y,?_,h3,rfl⟩
 rw [h0]
 obtain⟨xs⟩:=xs
 obtain⟨ts⟩:=ts
 cases h1
 cases h2
 rfl
theorem eDl (i:Nat) (js:List (Nat×Nat)) {t:Th} (hd:(af O x).kind=2) (DS:bN name (af O x).ah=some t) (hnt:qf (af O x).ah)
 (K:∀O2,O2=aZ O x (λo=>{o with ah:=kE name o.ah})->av Tryz.prog β N ops (k+1) (eV fr (iX ops k) (.tuple #[])) ((tH ax (wU O2 L js)).set i (.abs (aW (fM O2 L)))) Q)
 (hp:ax[i]?=some (.abs (aW (fM O L))):=by rfl) (hj:Ci ax O L js:=by first|exact⟨rfl,trivial⟩|exact⟨rfl,rfl,trivial⟩|exact trivial)
 (ho:∀ai,Uh N ai ops fr k=some (145,9,L.m x,.string name):=by intro _;kernel_rfl) (hn:oC 1 (js.map (·.2))=false:=by rfl) (eG:name.size<=1048576:=by omega):av Tryz.prog β N ops k fr ax Q:=by
 intro ai w hS
 obtain⟨a,y,h1,h2,h3⟩:=ZX (ho ai)
 obtain⟨o,g1,g2,g3,g4⟩:=iT h1
 have PY:tH ax (wU (aZ O x (λo=>{o with ah:=kE name o.ah})) L js)=ax:=CZ (p:=1) (λq hq=>by
  match q,hq with
  |0,_=>exact ahg (λR=>HP.abs (aW R)) (N5 (es:=λo=>kE name o.ah))
  |1,hq=>exact ahh rfl hq
  |q+2,_=>exact ahg (λR=>HP.abs (aW R)) (tL rfl rfl)) hj hn
 obtain⟨w',m1,m2,m3⟩:=(Gh hS hp hd).drop Hs Tryz.underlying145 (Kp (p:=name) zc) o.type
 have e1:(nJ L (af O x).ah) (.string name.data.toList)=some (iz L t):=by rw [zA,DS];rfl
 rw [e1,Yh] at m2
 have jy:=Ye hnt DS
 have yX:aR β (ax.set i (.abs (aW (fM (aZ O x (λo=>{o with ah:=kE name o.ah})) L)))) w':=hS.set hp (λF hF=>aW.step (k:=x) (show (aW (fM O L)).h F w from hF) (λy hy=>EB hy) (λG hG=>by
  rw [vl hd] at hG
  rw [vl (by rw [fB];exact hd),fB]
  rw [show (kE name (af O x).ah).length=(af O x).ah.length-1 by omega]
  exact step_map hG m2 m3))
 rw [drop_cons g1]
 unfold wpList
 rw [iP,ahf g2]
 refine .inl (qm (v:=.tuple #[]) (w':=w') (by
  rw [jm]
  refine .inl ?_
  obtain⟨dst,op,type,pos,after,guard⟩:=o
  cases g3
  simp only [execOp,resolve,invoke,builtin]
  simp [go_sem,h2,h3,m1]) ?_)
 rw [iC]
 have hK:=K _ rfl ai _ (by rw [PY];exact yX)
 rw [←g4] at hK
 exact hK
end rules
section after
variable {O O2:eu} {j x:Nat} {f:bM->bM} {kd:Int}
theorem ku (e:O2=aZ O j f) (h:(af O x).kind=kd) (hf:∀o,(f o).kind=o.kind:=by intro _;rfl):(af O2 x).kind=kd:=by subst e;exact (pG hf).trans h
theorem fu {α:Type} (g:bM->α) {v:α} (e:O2=aZ O j f) (h:g (af O x)=v) (hf:∀o,g (f o)=g o:=by intro _;rfl):g (af O2 x)=v:=by subst e;exact (eT hf).trans h
end after
end
section
open Go.RowKit Go.Maps
attribute [local irreducible] av bP aq aB
theorem gq {β:Bs} (b:Nat):aX Tryz.prog β 245 #[vP b] [] (λv l=>v=vP b/\l=[]):=by
 exact SE Tryz.func245 Tryz.ntmps245 (λR=>SR (jK 1 [] [] (NS (jK 2 [2] [] (eN ⟨rfl,rfl⟩)))))
theorem tD {β:Bs} (a:Value):aX Tryz.prog β 244 #[a] [] (λv l=>v=vI 1/\l=[]):=by
 exact SE Tryz.func244 Tryz.ntmps244 (λR=>SR (jK 1 [] [] (NS (jK 1 [2] [] (eN ⟨rfl,rfl⟩)))))
theorem tE {β:Bs} (a:Value):aX Tryz.prog β 247 #[a] [] (λv l=>v=vI 2/\l=[]):=by
 exact SE Tryz.func247 Tryz.ntmps247 (λR=>SR (jK 1 [] [] (NS (jK 1 [2] [] (eN ⟨rfl,rfl⟩)))))
theorem uR {β:Bs} (a:Value):aX Tryz.prog β 246 #[a] [] (λv l=>v=vI 3/\l=[]):=by
 exact SE Tryz.func246 Tryz.ntmps246 (λR=>SR (jK 1 [] [] (NS (jK 1 [2] [] (eN ⟨rfl,rfl⟩)))))
theorem Sw {β:Bs} (O:eu) (L:HL) (d:Nat) (dU:(af O d).kind=2) (name:ByteArray) (eG:name.size<=1048576) (iU:bN name (af O d).ah=none) (hel:(af O d).ah.length<=1048576) (t:Th) (bC:(af O t.k).kind=t.kind) (h3:t.kind=1\/t.kind=2\/t.kind=3) (hb:0<=(af O t.k).aV/\(af O t.k).aV<=1048576) :
 aX Tryz.prog β 65 #[vP (L.b d),.string name,(iz L t)] [.abs (aW (d8 O L)),.abs (aW (fM O L))] (λv l=>v=.tuple #[]/\l=[.abs (aW (d8 (uI O d name t) L)),.abs (aW (fM (uI O d name t) L))]):=by
 refine SE Tryz.func65 Tryz.ntmps65 (λR=>aq.seq ?_)
 obtain⟨tk,kd⟩:=t;simp only at bC h3;rcases h3 with rfl|rfl|rfl
 ·replace bC:(af O tk).kind=1:=bC
  replace hb:0<=(af O tk).aV/\(af O tk).aV<=1048576:=hb
  refine aq.region (jK 6 [11,12,13] [(3,v_ 0 (dw L dU))] (eSt 1 [(0,0)] (t:=⟨tk,1⟩) dU iU (λgY fT=>?_)))
  have qc:=ku fT dU
  have tF:=ku fT bC
  have hf3:(af gY tk).aV=(af O tk).aV:=fu bM.aV fT rfl
  refine NS (jK 1 [14] [] (gE [] (gq (L.b tk)) (jK 6 [19,21] [(2,v_ 0 (tV L tF)),(3,wJ ((af gY tk).aV+1) ((af gY tk).aV+1))] (Be 0 [(1,1)] tk 6 (λo=>{o with aV:=o.aV+1}) tF (λjO gD=>?_)))))
  have Fj:=ku gD qc
  have Fk:=ku gD tF
  exact NS (jK 7 [6,7] [] (NS (jK 1 [27] [] (NF (aq.skip (RF (l:=[.abs (aW (d8 jO L)),.abs (aW (fM jO L))]) (.tuple #[]) [0,1,2] (⟨rfl,by subst gD;subst fT;rfl⟩)))))))
 ·replace bC:(af O tk).kind=2:=bC
  replace hb:0<=(af O tk).aV/\(af O tk).aV<=1048576:=hb
  refine aq.region (jK 6 [11,12,13] [(3,v_ 0 (dw L dU))] (eSt 1 [(0,0)] (t:=⟨tk,2⟩) dU iU (λgY fT=>?_)))
  have ZY:=ku fT dU
  have Uk:=ku fT bC
  have hf8:(af gY tk).aV=(af O tk).aV:=fu bM.aV fT rfl
  refine NS (jK 1 [14] [] (gE [] (gq (L.b tk)) (jK 6 [19,21] [(2,v_ 0 (tV L Uk)),(3,wJ ((af gY tk).aV+1) ((af gY tk).aV+1))] (Be 0 [(1,1)] tk 6 (λo=>{o with aV:=o.aV+1}) Uk (λjO gD=>?_)))))
  have K6:=ku gD ZY
  have Ul:=ku gD Uk
  refine NS (jK 7 [6,7] [] (NS (jK 1 [27] [] (NT (aq.region (jK 4 [29,31] [] (uSt 0 [(1,1)] tk (some d) Ul (λC3 sO=>?_))))))))
  have abu:=ku sO K6
  have agJ:=ku sO Ul
  exact NL (RF (l:=[.abs (aW (d8 C3 L)),.abs (aW (fM C3 L))]) (.tuple #[]) [0,1,2] (⟨rfl,by subst sO;subst gD;subst fT;rfl⟩))
 replace bC:(af O tk).kind=3:=bC
 replace hb:0<=(af O tk).aV/\(af O tk).aV<=1048576:=hb
 refine aq.region (jK 6 [11,12,13] [(3,v_ 0 (dw L dU))] (eSt 1 [(0,0)] (t:=⟨tk,3⟩) dU iU (λgY fT=>?_)))
 have aff:=ku fT dU
 have Um:=ku fT bC
 have ag4:(af gY tk).aV=(af O tk).aV:=fu bM.aV fT rfl
 refine NS (jK 1 [14] [] (gE [] (gq (L.b tk)) (jK 6 [19,21] [(2,v_ 0 (tV L Um)),(3,wJ ((af gY tk).aV+1) ((af gY tk).aV+1))] (Be 0 [(1,1)] tk 6 (λo=>{o with aV:=o.aV+1}) Um (λjO gD=>?_)))))
 have J3:=ku gD aff
 have afg:=ku gD Um
 exact NS (jK 7 [6,7] [] (NS (jK 1 [27] [] (NF (aq.skip (RF (l:=[.abs (aW (d8 jO L)),.abs (aW (fM jO L))]) (.tuple #[]) [0,1,2] (⟨rfl,by subst gD;subst fT;rfl⟩)))))))
theorem nH {β:Bs} (X:FM) (f m t:Nat) (hX:0<=X.ah/\X.ah<=1048576/\-1125899906842624<=X.used/\X.used<=1125899906842624/\0<=X.last/\X.last<=1125899906842624) (O:eu) (L:HL) (d:Nat) (dU:(af O d).kind=2) (name:ByteArray) (eG:name.size<=1048576) (iU:bN name (af O d).ah=none) (hel:(af O d).ah.length<=1048576) (th:Th) (bC:(af O th.k).kind=th.kind) (h3:th.kind=1\/th.kind=2\/th.kind=3) (hb:0<=(af O th.k).aV/\(af O th.k).aV<=1048576) :
 aX Tryz.prog β 208 #[vP f,vP (L.b d),.string name,(iz L th)] [.ay f [vI (X.cN),vI (X.cB),vI (X.cH),vI (X.cS),vI (X.cZ),.map (some m),vP t,vI (X.last),vI (X.ah),vI (X.used)] 135,.abs (aW (d8 O L)),.abs (aW (fM O L))] (λv l=>v=.tuple #[]/\l=[.ay f [vI (X.cN),vI (X.cB),vI (X.cH),vI (X.cS),vI (X.cZ),.map (some m),vP t,vI (X.last),vI (X.ah+1),vI (X.used)] 135,.abs (aW (d8 (dg X O d name th) L)),.abs (aW (fM (dg X O d name th) L))]):=by
 refine SE Tryz.func208 Tryz.ntmps208 (λR=>aq.seq ?_)
 skip
 refine aq.region (jK 3 [8,9,10] [] (gE [1,2] (Sw O L d dU name eG iU hel th bC h3 hb) (NS ?_)))
 have J4:(af (uI O d name th) d).kind=2:=(EF).trans (dU)
 generalize fT:(uI O d name th)=gY at J4 ⊢
 refine jK 9 [17,20] [(5,A_ 2 f 2)] (Xj 0 [(1,1)] d X.cS X.cZ J4 (λjO gD=>?_))
 have agK:=ku gD J4
 exact NN (aq.region (jC 8 [] [(3,a_ 2 f),(4,wJ (X.ah+1) (X.ah+1)),(7,a_ 2 f)] [(2,[(8,vI (X.ah+1))])] (NL (RF (l:=[.ay f [vI (X.cN),vI (X.cB),vI (X.cH),vI (X.cS),vI (X.cZ),.map (some m),vP t,vI (X.last),vI (X.ah+1),vI (X.used)] 135,.abs (aW (d8 jO L)),.abs (aW (fM jO L))]) (.tuple #[]) [2,0,1,3] (⟨rfl,by subst gD;subst fT;rfl⟩)))))
theorem o5 {β:Bs} (X:FM) (f m t:Nat) (hX:0<=X.ah/\X.ah<=1048576/\-1125899906842624<=X.used/\X.used<=1125899906842624/\0<=X.last/\X.last<=1125899906842624) (O:eu) (L:HL) (d:Nat) (dU:(af O d).kind=2) (name:ByteArray) (eG:name.size<=1048576) (th:Th) (bC:(af O th.k).kind=th.kind) (h3:th.kind=1\/th.kind=2\/th.kind=3) (DS:bN name (af O d).ah=some th) (hnt:qf (af O d).ah) (_:(af O d).ah.length<=1048576) (hb:0<=(af O th.k).aV/\(af O th.k).aV<=1048576) :
 aX Tryz.prog β 222 #[vP f,vP (L.b d),.string name] [.ay f [vI (X.cN),vI (X.cB),vI (X.cH),vI (X.cS),vI (X.cZ),.map (some m),vP t,vI (X.last),vI (X.ah),vI (X.used)] 135,.abs (aW (d8 O L)),.abs (aW (fM O L))] (λv l=>v=iz L th/\l=[.ay f [vI (X.cN),vI (X.cB),vI (X.cH),vI (X.cS),vI (X.cZ),.map (some m),vP t,vI (X.last),vI (X.ah-1),vI (X.used)] 135,.abs (aW (d8 (bw X O d name th) L)),.abs (aW (fM (bw X O d name th) L))]):=by
 refine SE Tryz.func222 Tryz.ntmps222 (λR=>aq.seq ?_)
 obtain⟨tk,kd⟩:=th;simp only at bC h3;rcases h3 with rfl|rfl|rfl
 ·replace bC:(af O tk).kind=1:=bC
  replace hb:0<=(af O tk).aV/\(af O tk).aV<=1048576:=hb
  refine aq.region (jK 1 [] [] (NS (jK 5 [11,12] [(3,v_ 1 (dw L dU))] (nj 2 dU DS (jK 1 [7] [] (NS (jK 5 [17,18] [(3,v_ 1 (dw L dU))] (eDl 2 [(1,0)] dU DS hnt (λgY fT=>?_)))))))))
  have abv:=ku fT dU
  have afh:=ku fT bC
  have af9:(af gY tk).aV=(af O tk).aV:=fu bM.aV fT rfl
  refine NS (jK 9 [24,27] [(5,A_ 0 f 2)] (Xj 1 [(2,1)] d X.cS X.cZ abv (λjO gD=>?_)))
  have abw:=ku gD abv
  have Nh:=ku gD afh
  have ag5:(af jO tk).aV=(af O tk).aV:=fu bM.aV gD af9
  refine NS (jC 8 [] [(3,a_ 0 f),(4,wJ (X.ah-1) (X.ah-1)),(7,a_ 0 f)] [(0,[(8,vI (X.ah-1))])] (NS (jK 1 [35] [] (gE [] (gq (L.b tk)) (jK 6 [40,42] [(2,v_ 1 (tV L Nh)),(3,wJ ((af jO tk).aV-1) ((af jO tk).aV-1))] (Be 1 [(2,1)] tk 6 (λo=>{o with aV:=o.aV-1}) Nh (λC3 sO=>?_)))))))
  have agL:=ku sO abw
  have agM:=ku sO Nh
  exact NS (jK 2 [6] [] (eN (l:=[.ay f [vI (X.cN),vI (X.cB),vI (X.cH),vI (X.cS),vI (X.cZ),.map (some m),vP t,vI (X.last),vI (X.ah-1),vI (X.used)] 135,.abs (aW (d8 C3 L)),.abs (aW (fM C3 L))]) (v:=(.iface 138 (vP (L.b tk)))) ⟨rfl,by subst sO;subst gD;subst fT;rfl⟩))
 ·replace bC:(af O tk).kind=2:=bC
  replace hb:0<=(af O tk).aV/\(af O tk).aV<=1048576:=hb
  refine aq.region (jK 1 [] [] (NS (jK 5 [11,12] [(3,v_ 1 (dw L dU))] (nj 2 dU DS (jK 1 [7] [] (NS (jK 5 [17,18] [(3,v_ 1 (dw L dU))] (eDl 2 [(1,0)] dU DS hnt (λgY fT=>?_)))))))))
  have abx:=ku fT dU
  have afi:=ku fT bC
  have aga:(af gY tk).aV=(af O tk).aV:=fu bM.aV fT rfl
  refine NS (jK 9 [24,27] [(5,A_ 0 f 2)] (Xj 1 [(2,1)] d X.cS X.cZ abx (λjO gD=>?_)))
  have afj:=ku gD abx
  have Un:=ku gD afi
  have ag6:(af jO tk).aV=(af O tk).aV:=fu bM.aV gD aga
  refine NS (jC 8 [] [(3,a_ 0 f),(4,wJ (X.ah-1) (X.ah-1)),(7,a_ 0 f)] [(0,[(8,vI (X.ah-1))])] (NS (jK 1 [35] [] (gE [] (gq (L.b tk)) (jK 6 [40,42] [(2,v_ 1 (tV L Un)),(3,wJ ((af jO tk).aV-1) ((af jO tk).aV-1))] (Be 1 [(2,1)] tk 6 (λo=>{o with aV:=o.aV-1}) Un (λC3 sO=>?_)))))))
  have agN:=ku sO afj
  have agO:=ku sO Un
  exact NS (jK 2 [6] [] (eN (l:=[.ay f [vI (X.cN),vI (X.cB),vI (X.cH),vI (X.cS),vI (X.cZ),.map (some m),vP t,vI (X.last),vI (X.ah-1),vI (X.used)] 135,.abs (aW (d8 C3 L)),.abs (aW (fM C3 L))]) (v:=(.iface 144 (vP (L.b tk)))) ⟨rfl,by subst sO;subst gD;subst fT;rfl⟩))
 replace bC:(af O tk).kind=3:=bC
 replace hb:0<=(af O tk).aV/\(af O tk).aV<=1048576:=hb
 refine aq.region (jK 1 [] [] (NS (jK 5 [11,12] [(3,v_ 1 (dw L dU))] (nj 2 dU DS (jK 1 [7] [] (NS (jK 5 [17,18] [(3,v_ 1 (dw L dU))] (eDl 2 [(1,0)] dU DS hnt (λgY fT=>?_)))))))))
 have aby:=ku fT dU
 have afk:=ku fT bC
 have agb:(af gY tk).aV=(af O tk).aV:=fu bM.aV fT rfl
 refine NS (jK 9 [24,27] [(5,A_ 0 f 2)] (Xj 1 [(2,1)] d X.cS X.cZ aby (λjO gD=>?_)))
 have afl:=ku gD aby
 have Uo:=ku gD afk
 have ag7:(af jO tk).aV=(af O tk).aV:=fu bM.aV gD agb
 refine NS (jC 8 [] [(3,a_ 0 f),(4,wJ (X.ah-1) (X.ah-1)),(7,a_ 0 f)] [(0,[(8,vI (X.ah-1))])] (NS (jK 1 [35] [] (gE [] (gq (L.b tk)) (jK 6 [40,42] [(2,v_ 1 (tV L Uo)),(3,wJ ((af jO tk).aV-1) ((af jO tk).aV-1))] (Be 1 [(2,1)] tk 6 (λo=>{o with aV:=o.aV-1}) Uo (λC3 sO=>?_)))))))
 have agP:=ku sO afl
 have agQ:=ku sO Uo
 exact NS (jK 2 [6] [] (eN (l:=[.ay f [vI (X.cN),vI (X.cB),vI (X.cH),vI (X.cS),vI (X.cZ),.map (some m),vP t,vI (X.last),vI (X.ah-1),vI (X.used)] 135,.abs (aW (d8 C3 L)),.abs (aW (fM C3 L))]) (v:=(.iface 141 (vP (L.b tk)))) ⟨rfl,by subst sO;subst gD;subst fT;rfl⟩))
end
section
open Go.RowKit Go.Maps bG aF
attribute [local irreducible] av bP aq aB cu
abbrev Xk (f:Nat) (X:FM) (m:Nat) (t):=(.ay f [vI (X.cN),vI (X.cB),vI (X.cH),vI (X.cS),vI (X.cZ),.map (some m),vP t,vI (X.last),vI (X.ah),vI (X.used)] 135:HP)
theorem Z0 {β:Bs} (X:FM) (f m t:Nat) (hX:0<=X.ah/\X.ah<=1048576/\-1125899906842624<=X.used/\X.used<=1125899906842624/\0<=X.last/\X.last<=1125899906842624) (O:eu) (L:HL) (ar:bF Th) (Xl:aF.dH (bn ar)) (th:Th) (bC:(af O th.k).kind=th.kind) (h3:th.kind=1\/th.kind=2\/th.kind=3) (hg:(af O th.k).aH=true) (ho:(af O th.k).aK=0) (fL:aF.get ar (af O th.k).id=some th) (hw:(Lit.int .i64 (af O th.k).id).wf=true) (Fl:(af O th.k).data.length<=1125899906842624) :
 aX Tryz.prog β 214 #[vP f,(iz L th)] [pO O L,pF f m t X,pI m L ar] (λv l=>v=.tuple #[]/\l=[pO O L,pF f m t {X with used:=if th.kind=1 then X.used-(af O th.k).data.length else X.used},pI m L (del (af O th.k).id ar)]):=by
 refine SE Tryz.func214 Tryz.ntmps214 (λR=>aq.seq ?_)
 obtain⟨tk,kd⟩:=th;simp only at bC h3;rcases h3 with rfl|rfl|rfl
 ·replace bC:(af O tk).kind=1:=bC
  replace hg:(af O tk).aH=true:=hg
  replace ho:(af O tk).aK=0:=ho
  replace fL:aF.get ar (af O tk).id=some _:=fL
  replace hw:(Lit.int .i64 (af O tk).id).wf=true:=hw
  have hdl:=wC Xl (get_some fL)
  replace Fl:(af O tk).data.length<=1125899906842624:=Fl
  exact aq.region (jK 1 [7] [] (gE [] (gq (L.b tk)) (jK 1 [4] [] (NZ (jK 6 [14] [(3,v_ 0 (uz L bC))] (av.pU 14 (!(af O tk).aH) (λ_=>KB) (λmz=>ahh mz (by simp [hg])) (λmz=>jK 6 [20] [(3,v_ 0 (qi L bC))] (NN (cP (((af O tk).aK:Int)>(0:Int)) (λpu=>ahh pu (by omega)) (λpu=>KX (aq.seq (rM (List.range 9) 8 [0,1,2,3] (jR 8 [0,1,24,28] [(3,a_ 1 f),(7,v_ 0 (yP L bC))] (cu.last rfl rfl (av.IL 2 (d:=none) (t:=129) (K:=3) (E:=133) (b:=m) (n:=ar.length) (f:=(cQ (cM L ar))) (x:=(.tmp 24)) (ix:=(.tmp 28)) (key:=vI ((af O tk).id)) (kl:=(.int .i64 (af O tk).id)) (n':=(ar.length-1)) (f':=(cQ (cM L (del (af O tk).id ar)))) (ats:=#[129,3]) (λ_=>KB) KB (λ_=>KB) (λ_=>KB) rfl iY Tryz.underlying129 (mB hw) (by rw [j8,fL];rfl) (Kx) (NL (aB.np (NX (SR (jK 7 [5,6] [] (NS (jK 1 [34] [] (NT (rM (List.range 13) 12 [0,1,2,3] (jR 12 [44,46] [(3,a_ 1 f),(7,v_ 0 (PV L bC)),(9,wJ (X.used-(((af O tk).data.length:Nat):Int)) (X.used-(((af O tk).data.length:Nat):Int)))] (cu.last rfl rfl (jC 1 [] [(0,a_ 1 f)] [(1,[(9,vI (X.used-(((af O tk).data.length:Nat):Int)))])] (NL (aB.np (aB.gH [(2,.abs (bD Tryz.prog 3 m (cQ (cM L (del (af O tk).id ar))) ((del (af O tk).id ar).length)))] (λw hS=>by rw [show (del (af O tk).id ar).length=ar.length-1 by omega];exact hS) (RF (.tuple #[]) [0,1,2,3] (⟨rfl,rfl⟩))))))))))))))))))))))))))))))))
 ·replace bC:(af O tk).kind=2:=bC
  replace hg:(af O tk).aH=true:=hg
  replace ho:(af O tk).aK=0:=ho
  replace fL:aF.get ar (af O tk).id=some _:=fL
  replace hw:(Lit.int .i64 (af O tk).id).wf=true:=hw
  have hdl:=wC Xl (get_some fL)
  replace Fl:(af O tk).data.length<=1125899906842624:=Fl
  exact aq.region (jK 1 [7] [] (gE [] (gq (L.b tk)) (jK 1 [4] [] (NZ (jK 6 [14] [(3,v_ 0 (uz L bC))] (av.pU 14 (!(af O tk).aH) (λ_=>KB) (λmz=>ahh mz (by simp [hg])) (λmz=>jK 6 [20] [(3,v_ 0 (qi L bC))] (NN (cP (((af O tk).aK:Int)>(0:Int)) (λpu=>ahh pu (by omega)) (λpu=>KX (aq.seq (rM (List.range 9) 8 [0,1,2,3] (jR 8 [0,1,24,28] [(3,a_ 1 f),(7,v_ 0 (yP L bC))] (cu.last rfl rfl (av.IL 2 (d:=none) (t:=129) (K:=3) (E:=133) (b:=m) (n:=ar.length) (f:=(cQ (cM L ar))) (x:=(.tmp 24)) (ix:=(.tmp 28)) (key:=vI ((af O tk).id)) (kl:=(.int .i64 (af O tk).id)) (n':=(ar.length-1)) (f':=(cQ (cM L (del (af O tk).id ar)))) (ats:=#[129,3]) (λ_=>KB) KB (λ_=>KB) (λ_=>KB) rfl iY Tryz.underlying129 (mB hw) (by rw [j8,fL];rfl) (Kx) (NL (aB.np (NX (SR (jK 7 [5,6] [] (NS (jK 1 [34] [] (NF (aq.skip (aB.gH [(2,.abs (bD Tryz.prog 3 m (cQ (cM L (del (af O tk).id ar))) ((del (af O tk).id ar).length)))] (λw hS=>by rw [show (del (af O tk).id ar).length=ar.length-1 by omega];exact hS) (RF (.tuple #[]) [0,1,2,3] (⟨rfl,rfl⟩)))))))))))))))))))))))))))
 replace bC:(af O tk).kind=3:=bC
 replace hg:(af O tk).aH=true:=hg
 replace ho:(af O tk).aK=0:=ho
 replace fL:aF.get ar (af O tk).id=some _:=fL
 replace hw:(Lit.int .i64 (af O tk).id).wf=true:=hw
 have hdl:=wC Xl (get_some fL)
 replace Fl:(af O tk).data.length<=1125899906842624:=Fl
 exact aq.region (jK 1 [7] [] (gE [] (gq (L.b tk)) (jK 1 [4] [] (NZ (jK 6 [14] [(3,v_ 0 (uz L bC))] (av.pU 14 (!(af O tk).aH) (λ_=>KB) (λmz=>ahh mz (by simp [hg])) (λmz=>jK 6 [20] [(3,v_ 0 (qi L bC))] (NN (cP (((af O tk).aK:Int)>(0:Int)) (λpu=>ahh pu (by omega)) (λpu=>KX (aq.seq (rM (List.range 9) 8 [0,1,2,3] (jR 8 [0,1,24,28] [(3,a_ 1 f),(7,v_ 0 (yP L bC))] (cu.last rfl rfl (av.IL 2 (d:=none) (t:=129) (K:=3) (E:=133) (b:=m) (n:=ar.length) (f:=(cQ (cM L ar))) (x:=(.tmp 24)) (ix:=(.tmp 28)) (key:=vI ((af O tk).id)) (kl:=(.int .i64 (af O tk).id)) (n':=(ar.length-1)) (f':=(cQ (cM L (del (af O tk).id ar)))) (ats:=#[129,3]) (λ_=>KB) KB (λ_=>KB) (λ_=>KB) rfl iY Tryz.underlying129 (mB hw) (by rw [j8,fL];rfl) (Kx) (NL (aB.np (NX (SR (jK 7 [5,6] [] (NS (jK 1 [34] [] (NF (aq.skip (aB.gH [(2,.abs (bD Tryz.prog 3 m (cQ (cM L (del (af O tk).id ar))) ((del (af O tk).id ar).length)))] (λw hS=>by rw [show (del (af O tk).id ar).length=ar.length-1 by omega];exact hS) (RF (.tuple #[]) [0,1,2,3] (⟨rfl,rfl⟩)))))))))))))))))))))))))))
theorem Uq {β:Bs} (O:eu) (L:HL) (f:Nat) (th:Th) (bC:(af O th.k).kind=th.kind) (h3:th.kind=1\/th.kind=2\/th.kind=3) (hg:(af O th.k).aH=false\/0<(af O th.k).aK) :
 aX Tryz.prog β 214 #[vP f,(iz L th)] [pO O L] (λv l=>v=.tuple #[]/\l=[pO O L]):=by
 refine SE Tryz.func214 Tryz.ntmps214 (λR=>aq.seq ?_)
 obtain⟨tk,kd⟩:=th;simp only at bC h3;rcases h3 with rfl|rfl|rfl
 ·replace bC:(af O tk).kind=1:=bC
  replace hg:(af O tk).aH=false\/0<(af O tk).aK:=hg
  exact aq.region (jK 1 [7] [] (gE [] (gq (L.b tk)) (jK 1 [4] [] (NZ (jK 6 [14] [(3,v_ 0 (uz L bC))] (av.pU 14 (!(af O tk).aH) (λ_=>KB) (λmz=>jK 6 [20] [] (NT (aq.ret (aB.bE (RT _ [0,1] (⟨rfl,rfl⟩)))))) (λmz=>jK 6 [20] [(3,v_ 0 (qi L bC))] (NN (cP (((af O tk).aK:Int)>(0:Int)) (λpu=>aq.ret (aB.bE (RT _ [0,1] (⟨rfl,rfl⟩)))) (λpu=>ahh hg (by simp at mz;rw [mz];simp;omega)))))))))))
 ·replace bC:(af O tk).kind=2:=bC
  replace hg:(af O tk).aH=false\/0<(af O tk).aK:=hg
  exact aq.region (jK 1 [7] [] (gE [] (gq (L.b tk)) (jK 1 [4] [] (NZ (jK 6 [14] [(3,v_ 0 (uz L bC))] (av.pU 14 (!(af O tk).aH) (λ_=>KB) (λmz=>jK 6 [20] [] (NT (aq.ret (aB.bE (RT _ [0,1] (⟨rfl,rfl⟩)))))) (λmz=>jK 6 [20] [(3,v_ 0 (qi L bC))] (NN (cP (((af O tk).aK:Int)>(0:Int)) (λpu=>aq.ret (aB.bE (RT _ [0,1] (⟨rfl,rfl⟩)))) (λpu=>ahh hg (by simp at mz;rw [mz];simp;omega)))))))))))
 replace bC:(af O tk).kind=3:=bC
 replace hg:(af O tk).aH=false\/0<(af O tk).aK:=hg
 exact aq.region (jK 1 [7] [] (gE [] (gq (L.b tk)) (jK 1 [4] [] (NZ (jK 6 [14] [(3,v_ 0 (uz L bC))] (av.pU 14 (!(af O tk).aH) (λ_=>KB) (λmz=>jK 6 [20] [] (NT (aq.ret (aB.bE (RT _ [0,1] (⟨rfl,rfl⟩)))))) (λmz=>jK 6 [20] [(3,v_ 0 (qi L bC))] (NN (cP (((af O tk).aK:Int)>(0:Int)) (λpu=>aq.ret (aB.bE (RT _ [0,1] (⟨rfl,rfl⟩)))) (λpu=>ahh hg (by simp at mz;rw [mz];simp;omega)))))))))))
theorem yJ {β:Bs} (X:FM) (f m t:Nat) (hX:0<=X.ah/\X.ah<=1048576/\-1125899906842624<=X.used/\X.used<=1125899906842624/\0<=X.last/\X.last<=1125899906842624) (O:eu) (L:HL) (ar:bF Th) (Xl:aF.dH (bn ar)) (th:Th) (bC:(af O th.k).kind=th.kind) (h3:th.kind=1\/th.kind=2\/th.kind=3) (ho:0<=(af O th.k).aK) (fL:uE O th->aF.get ar (af O th.k).id=some th) (hw:(Lit.int .i64 (af O th.k).id).wf=true) (Fl:(af O th.k).data.length<=1125899906842624) :
 aX Tryz.prog β 214 #[vP f,(iz L th)] [pO O L,pF f m t X,pI m L ar] (λv l=>v=.tuple #[]/\l=[pO O L,pF f m t {X with used:=qt O X.used th},pI m L (kW O ar th)]):=by
 unfold qt kW
 by_cases h:uE O th
 ·rw [ahf h,ahf h]
  exact Z0 X f m t hX O L ar Xl th bC h3 h.1 h.2 (fL h) hw Fl
 rw [ahe h,ahe h]
 refine (aX.sZ (pre:=[pO O L]) (R:=[pF f m t X,pI m L ar]) (λ_ _=>Uq O L f th bC h3 ?_)).mono Pe
 cases hg:(af O th.k).aH with
 |false=>exact .inl rfl
 |true=>exact .inr (by have:¬(af O th.k).aK=0:=λe=>h ⟨hg,e⟩;omega)
theorem CA {β:Bs} (X:FM) (f m t:Nat):aX Tryz.prog β 207 #[vP f] [Xk f X m t] (λv l=>v=.bool (decide (X.ah<8192))/\l=[Xk f X m t]):=by
 exact SE Tryz.func207 Tryz.ntmps207 (λR=>SR (jK 1 [] [] (NS (jK 6 [2] [(3,a_ 0 f)] (eN ⟨rfl,rfl⟩)))))
theorem kN {β:Bs} (a b:Int):aX Tryz.prog β 61 #[vI a,vI b] [] (λv l=>v=.bool (decide (0<=a/\a<=b))/\l=[]):=by
 exact SE Tryz.func61 Tryz.ntmps61 (λR=>SR (jK 1 [] [] (NS (jK 3 [7] [] (sP 7 ((a:Int)>=(0:Int)) (λh7=>jK 5 [4] [] (eN (v:=(.bool (decide ((a:Int)<=(b:Int))))) ⟨Pe,rfl⟩)) (λh7=>jK 5 [4] [] (eN (v:=(.bool false)) ⟨Pe,rfl⟩)))))))
theorem P0 {β:Bs} (X:FM) (f m t:Nat) (L:HL) (ar:bF Th):aX Tryz.prog β 218 #[vP f] [Xk f X m t,.abs (bD Tryz.prog 3 m (cQ (cM L ar)) ar.length)] (λv l=>v=.bool (decide ((ar.length:Int)<X.cN/\X.last<1099511627776/\X.ah<8192))/\l=[Xk f X m t,.abs (bD Tryz.prog 3 m (cQ (cM L ar)) ar.length)]):=by
 exact SE Tryz.func218 Tryz.ntmps218 (λR=>SR (jK 1 [] [] (NN (aq.seq (rQ (jQ 4 [6] [(3,a_ 0 f)] (bP.CD 1 (d:=(some 7)) (t:=129) (K:=3) (E:=133) (b:=m) (n:=ar.length) (f:=(cQ (cM L ar))) (x:=(.tmp 6)) (ats:=#[129]) (λ_=>KB) KB (λ_=>KB) rfl Tryz.underlying129 (jQ 7 [14] [(4,a_ 0 f)] (bP.xg 14 ((((ar.length:Nat):Int):Int)<(X.cN:Int)) (λ_=>KB) (λmz=>jQ 7 [21] [(3,a_ 0 f)] (bP.xg 21 ((X.last:Int)<(1099511627776:Int)) (λ_=>KB) (λsF=>jQ 1 [22] [] (mG [0] [0,1,2] (.bool (decide (X.ah<8192))) (CA X f m t) (jQ 2 [2] [] (NQ (NX (aq.ret (RT (.bool (decide (X.ah<8192))) [0,1,2] (⟨Pe,rfl⟩)))))))) (λsF=>jQ 4 [2] [] (NQ (NX (aq.ret (RT (.bool false) [0,1,2] (⟨Pe,rfl⟩)))))))) (λmz=>jQ 11 [2] [] (NQ (NX (aq.ret (RT (.bool false) [0,1,2] (⟨Pe,rfl⟩)))))))))))))))
theorem Cl {β:Bs} (X:FM) (f m t:Nat) (hX:0<=X.ah/\X.ah<=1048576/\-1125899906842624<=X.used/\X.used<=1125899906842624/\0<=X.last/\X.last<=1125899906842624) (mode:Int):aX Tryz.prog β 204 #[vP f,vI mode] [Xk f X m t] (λv l=>v=.agg #[vI (X.last+1),vI mode,vI 0,vI 0,vI X.cS,vI X.cZ,vI 0,vI 0,.bool false]/\l=[.ay f [vI (X.cN),vI (X.cB),vI (X.cH),vI (X.cS),vI (X.cZ),.map (some m),vP t,vI (X.last+1),vI (X.ah),vI (X.used)] 135]):=by
 exact SE Tryz.func204 Tryz.ntmps204 (λR=>SR (jB 1 [4] (λb1=>.ay b1 [vI 0,vI 0,vI 0,vI 0,vI 0,vI 0,vI 0,vI 0,.bool false] 137) (λb1=>NS (jC 8 [] [(3,a_ 0 f),(4,wJ (X.last+1) (X.last+1)),(7,a_ 0 f)] [(0,[(7,vI (X.last+1))])] (NN (aq.seq (rM (List.range 12) 11 [0,1,2] (jR 11 [4,22] [(3,a_ 0 f),(9,A_ 0 f 2)] (cu.last rfl rfl (jC 1 [] [(0,A_ 2 b1 9)] [(2,[(0,vI (X.last+1)),(1,vI (mode)),(4,vI (X.cS)),(5,vI (X.cZ))])] (NL (aB.np (NX (aq.ret (rT _ [A_ 2 b1 9] [0,1] (⟨rfl,rfl⟩))))))))))))))))
theorem uS {β:Bs} (S:bB) (L:HL) (f m t:Nat) (hI:bT S) (d:Nat) (hd:aT S.ar ⟨d,2⟩) (name:ByteArray) (eG:name.size<=1048576) (th:Th) (eM:bN name (af S.O d).ah=some th) :
 aX Tryz.prog β 220 #[vP f,vP (L.b d),.string name] [pF f m t S.X,pO S.O L,pE S.O L,pI m L S.ar] (λv l=>v=.tuple #[]/\l=[pF f m t ((bp S d name th).X),pO ((bp S d name th).O) L,pE ((bp S d name th).O) L,pI m L ((bp S d name th).ar)]):=by
 have hX:=hI.hX
 have hel:(af S.O d).ah.length<=8192:=hI.lI hd
 have dU:(af S.O d).kind=2:=hI.kind hd
 refine SE Tryz.func220 Tryz.ntmps220 (λR=>aq.seq ?_)
 obtain⟨tk,kd⟩:=th;have ck:=(hI.bU hd eM).2;have ag8:=hI.ne hd eM;rcases (hI.ob _ ck).2.2 with e0|e0|e0<;>simp only at e0<;>subst e0
 ·have bC:(af S.O tk).kind=1:=hI.kind ck
  have hlb:=hI.lb ck;have hid:=hI.ob _ ck;have bX:=hI.LF ck;have hdl:=hI.Oj ck;have wV:=hI.Vv ck
  refine aq.region (jK 3 [8,9,10] [] (gE [0,1,2] (o5 S.X f m t hX S.O L d dU name eG ⟨tk,1⟩ bC ahd eM (hI.pX hd) zc (by simp only at hlb ⊢;omega)) (jK 1 [6] [] (NS ?_))))
  have qc:(af (bw S.X S.O d name ⟨tk,1⟩) d).kind=2:=(fN).trans (dU)
  have tF:(af (bw S.X S.O d name ⟨tk,1⟩) tk).kind=1:=(fN).trans (bC)
  have Fm:(af (bw S.X S.O d name ⟨tk,1⟩) tk).id=(af S.O tk).id:=eW (g:=bM.id) (λ_ _=>rfl) (λ_ _=>rfl) (λ_ _ _=>rfl)
  have Fo:(af (bw S.X S.O d name ⟨tk,1⟩) tk).aK=(af S.O tk).aK:=eW (g:=bM.aK) (λ_ _=>rfl) (λ_ _=>rfl) (λ_ _ _=>rfl)
  have Fq:(af (bw S.X S.O d name ⟨tk,1⟩) tk).data=(af S.O tk).data:=eW (g:=bM.data) (λ_ _=>rfl) (λ_ _=>rfl) (λ_ _ _=>rfl)
  generalize fT:(bw S.X S.O d name ⟨tk,1⟩)=gY at qc tF Fm Fo Fq ⊢
  refine jK 1 [12] [] (gE [] (gq (L.b tk)) (jK 1 [7] [] (NS (jK 5 [18] [(3,v_ 1 (tV L tF))] (NN (cP (((af gY tk).aV:Int)=(0:Int)) (λp4=>SR (jK 3 [21] [] (Be 1 [(2,1)] tk 8 (λo=>{o with aH:=true}) tF (λjO gD=>?_)))) (λp4=>aq.skip (RF (l:=[pF f m t {S.X with ah:=S.X.ah-1},pO gY L,pE gY L,pI m L S.ar]) (.tuple #[]) [0,1,2,3,4] (⟨rfl,by grind [bp,xW]⟩)))))))))
  have K7:=ku gD qc
  have Fj:=ku gD tF
  have Xm:(af jO tk).id=(af S.O tk).id:=fu bM.id gD Fm
  have hf6:(af jO tk).aK=(af S.O tk).aK:=fu bM.aK gD Fo
  have hf7:(af jO tk).data=(af S.O tk).data:=fu bM.data gD Fq
  exact NN (aq.region (jK 2 [22,23] [] (gE [1,0,3] (yJ {S.X with ah:=S.X.ah-1} f m t (hI.Gy hd eM) jO L S.ar hI.fO ⟨tk,1⟩ Fj ahd (by rw [hf6];exact bX.1) (λ_=>by rw [Xm,hid.1];exact ck) (by rw [Xm];exact wV) (by rw [hf7];exact hdl)) (NL (RF (l:=[pF f m t {S.X with ah:=S.X.ah-1,used:=qt jO S.X.used ⟨tk,1⟩},pO jO L,pE jO L,pI m L (kW jO S.ar ⟨tk,1⟩)]) (.tuple #[]) [1,0,3,2,4] (⟨rfl,by subst gD;subst fT;rw [show bp S d name ⟨tk,1⟩=_ from xV p4]<;>rfl⟩))))))
 ·have bC:(af S.O tk).kind=2:=hI.kind ck
  have hlb:=hI.lb ck;have hid:=hI.ob _ ck;have bX:=hI.LF ck;have hdl:=hI.Oj ck;have wV:=hI.Vv ck
  refine aq.region (jK 3 [8,9,10] [] (gE [0,1,2] (o5 S.X f m t hX S.O L d dU name eG ⟨tk,2⟩ bC ahd eM (hI.pX hd) zc (by simp only at hlb ⊢;omega)) (jK 1 [6] [] (NS ?_))))
  have aea:(af (bw S.X S.O d name ⟨tk,2⟩) d).kind=2:=(fN).trans (dU)
  have K6:(af (bw S.X S.O d name ⟨tk,2⟩) tk).kind=2:=(fN).trans (bC)
  have Fm:(af (bw S.X S.O d name ⟨tk,2⟩) tk).id=(af S.O tk).id:=eW (g:=bM.id) (λ_ _=>rfl) (λ_ _=>rfl) (λ_ _ _=>rfl)
  have Fo:(af (bw S.X S.O d name ⟨tk,2⟩) tk).aK=(af S.O tk).aK:=eW (g:=bM.aK) (λ_ _=>rfl) (λ_ _=>rfl) (λ_ _ _=>rfl)
  have Fq:(af (bw S.X S.O d name ⟨tk,2⟩) tk).data=(af S.O tk).data:=eW (g:=bM.data) (λ_ _=>rfl) (λ_ _=>rfl) (λ_ _ _=>rfl)
  generalize fT:(bw S.X S.O d name ⟨tk,2⟩)=gY at aea K6 Fm Fo Fq ⊢
  refine jK 1 [12] [] (gE [] (gq (L.b tk)) (jK 1 [7] [] (NS (jK 5 [18] [(3,v_ 1 (tV L K6))] (NN (cP (((af gY tk).aV:Int)=(0:Int)) (λp4=>SR (jK 3 [21] [] (Be 1 [(2,1)] tk 8 (λo=>{o with aH:=true}) K6 (λjO gD=>?_)))) (λp4=>aq.skip (RF (l:=[pF f m t {S.X with ah:=S.X.ah-1},pO gY L,pE gY L,pI m L S.ar]) (.tuple #[]) [0,1,2,3,4] (⟨rfl,by grind [bp,xW]⟩)))))))))
  have Ul:=ku gD aea
  have abu:=ku gD K6
  have aeb:(af jO tk).id=(af S.O tk).id:=fu bM.id gD Fm
  have agc:(af jO tk).aK=(af S.O tk).aK:=fu bM.aK gD Fo
  have agd:(af jO tk).data=(af S.O tk).data:=fu bM.data gD Fq
  exact NN (aq.region (jK 2 [22,23] [] (gE [1,0,3] (yJ {S.X with ah:=S.X.ah-1} f m t (hI.Gy hd eM) jO L S.ar hI.fO ⟨tk,2⟩ abu ahd (by rw [agc];exact bX.1) (λ_=>by rw [aeb,hid.1];exact ck) (by rw [aeb];exact wV) (by rw [agd];exact hdl)) (NL (RF (l:=[pF f m t {S.X with ah:=S.X.ah-1,used:=qt jO S.X.used ⟨tk,2⟩},pO jO L,pE jO L,pI m L (kW jO S.ar ⟨tk,2⟩)]) (.tuple #[]) [1,0,3,2,4] (⟨rfl,by subst gD;subst fT;rw [show bp S d name ⟨tk,2⟩=_ from xV p4]<;>rfl⟩))))))
 have bC:(af S.O tk).kind=3:=hI.kind ck
 have hlb:=hI.lb ck;have hid:=hI.ob _ ck;have bX:=hI.LF ck;have hdl:=hI.Oj ck;have wV:=hI.Vv ck
 refine aq.region (jK 3 [8,9,10] [] (gE [0,1,2] (o5 S.X f m t hX S.O L d dU name eG ⟨tk,3⟩ bC ahd eM (hI.pX hd) zc (by simp only at hlb ⊢;omega)) (jK 1 [6] [] (NS ?_))))
 have abz:(af (bw S.X S.O d name ⟨tk,3⟩) d).kind=2:=(fN).trans (dU)
 have J3:(af (bw S.X S.O d name ⟨tk,3⟩) tk).kind=3:=(fN).trans (bC)
 have Fm:(af (bw S.X S.O d name ⟨tk,3⟩) tk).id=(af S.O tk).id:=eW (g:=bM.id) (λ_ _=>rfl) (λ_ _=>rfl) (λ_ _ _=>rfl)
 have Fo:(af (bw S.X S.O d name ⟨tk,3⟩) tk).aK=(af S.O tk).aK:=eW (g:=bM.aK) (λ_ _=>rfl) (λ_ _=>rfl) (λ_ _ _=>rfl)
 have Fq:(af (bw S.X S.O d name ⟨tk,3⟩) tk).data=(af S.O tk).data:=eW (g:=bM.data) (λ_ _=>rfl) (λ_ _=>rfl) (λ_ _ _=>rfl)
 generalize fT:(bw S.X S.O d name ⟨tk,3⟩)=gY at abz J3 Fm Fo Fq ⊢
 refine jK 1 [12] [] (gE [] (gq (L.b tk)) (jK 1 [7] [] (NS (jK 5 [18] [(3,v_ 1 (tV L J3))] (NN (cP (((af gY tk).aV:Int)=(0:Int)) (λp4=>SR (jK 3 [21] [] (Be 1 [(2,1)] tk 8 (λo=>{o with aH:=true}) J3 (λjO gD=>?_)))) (λp4=>aq.skip (RF (l:=[pF f m t {S.X with ah:=S.X.ah-1},pO gY L,pE gY L,pI m L S.ar]) (.tuple #[]) [0,1,2,3,4] (⟨rfl,by grind [bp,xW]⟩)))))))))
 have afg:=ku gD abz
 have J4:=ku gD J3
 have aec:(af jO tk).id=(af S.O tk).id:=fu bM.id gD Fm
 have agf:(af jO tk).aK=(af S.O tk).aK:=fu bM.aK gD Fo
 have agh:(af jO tk).data=(af S.O tk).data:=fu bM.data gD Fq
 exact NN (aq.region (jK 2 [22,23] [] (gE [1,0,3] (yJ {S.X with ah:=S.X.ah-1} f m t (hI.Gy hd eM) jO L S.ar hI.fO ⟨tk,3⟩ J4 ahd (by rw [agf];exact bX.1) (λ_=>by rw [aec,hid.1];exact ck) (by rw [aec];exact wV) (by rw [agh];exact hdl)) (NL (RF (l:=[pF f m t {S.X with ah:=S.X.ah-1,used:=qt jO S.X.used ⟨tk,3⟩},pO jO L,pE jO L,pI m L (kW jO S.ar ⟨tk,3⟩)]) (.tuple #[]) [1,0,3,2,4] (⟨rfl,by subst gD;subst fT;rw [show bp S d name ⟨tk,3⟩=_ from xV p4]<;>rfl⟩))))))
theorem Cm {β:Bs} (S:bB) (L:HL) (f m t:Nat) (hI:bT S) (d:Nat) (hd:aT S.ar ⟨d,2⟩) (name:ByteArray) (eG:name.size<=1048576) :
 aX Tryz.prog β 203 #[vP f,vP (L.b d),.string name] [pF f m t S.X,pI m L S.ar,pE S.O L,pO S.O L] (λv l=>v=vI (gy S.X S.O S.ar d name)/\l=[pF f m t S.X,pI m L S.ar,pE S.O L,pO S.O L]):=by
 have hX:=hI.hX
 have hel:(af S.O d).ah.length<=8192:=hI.lI hd
 have dU:(af S.O d).kind=2:=hI.kind hd
 refine SE Tryz.func203 Tryz.ntmps203 (λR=>aq.seq ?_)
 rcases hI.sU hd name with eM|⟨tk,eM,ck⟩|⟨tk,eM,ck⟩|⟨tk,eM,ck⟩
 ·exact aq.region (jK 1 [] [] (NZ (jK 5 [10,11] [(3,v_ 3 (dw L dU))] (nj 2 dU eM (jK 1 [13] [] (NF (KX (SQ (jK 1 [14] [] (gE [0,1] (P0 S.X f m t L S.ar) (jK 1 [16] [] (NN (cN ((S.ar.length:Int)<S.X.cN/\S.X.last<1099511627776/\S.X.ah<8192) (λpz=>zR ⟨ahg (Value.int .i64) (ahX (show gy S.X S.O S.ar d name=_ from (ahf eM).trans (ahe pz))),rfl⟩) (λpz=>KX (zR ⟨ahg (Value.int .i64) (ahX (show gy S.X S.O S.ar d name=_ from (ahf eM).trans (ahf pz))),rfl⟩)))))))))))))))
 ·have bC:(af S.O tk).kind=1:=hI.kind ck
  exact aq.region (jK 1 [] [] (NZ (jK 5 [10,11] [(3,v_ 3 (dw L dU))] (nj 2 dU eM (jK 1 [13] [] (NT (zR ⟨ahg (Value.int .i64) (ahX (show gy S.X S.O S.ar d name=_ from ahe (by rw [eM];simp))),rfl⟩)))))))
 ·have bC:(af S.O tk).kind=2:=hI.kind ck
  exact aq.region (jK 1 [] [] (NZ (jK 5 [10,11] [(3,v_ 3 (dw L dU))] (nj 2 dU eM (jK 1 [13] [] (NT (zR ⟨ahg (Value.int .i64) (ahX (show gy S.X S.O S.ar d name=_ from ahe (by rw [eM];simp))),rfl⟩)))))))
 have bC:(af S.O tk).kind=3:=hI.kind ck
 exact aq.region (jK 1 [] [] (NZ (jK 5 [10,11] [(3,v_ 3 (dw L dU))] (nj 2 dU eM (jK 1 [13] [] (NT (zR ⟨ahg (Value.int .i64) (ahX (show gy S.X S.O S.ar d name=_ from ahe (by rw [eM];simp))),rfl⟩)))))))
theorem acr {β:Bs} (s:ByteArray) (eG:s.size<=1048576) :
 aX Tryz.prog β 219 #[.string s] [] (λv l=>v=vI (ld s)/\l=[]):=by
 refine SE Tryz.func219 Tryz.ntmps219 (λR=>SR (jK 1 [] [] (NN (aq.seq (aq.block (SR (jK 3 [3] [(1,w_ (.bool (decide ((s:ByteArray)=⟨#[]⟩))) (qR _ _))] (NN (cP ((s:ByteArray)=⟨#[]⟩) (λh3=>zR ⟨ahg (Value.int .i64) (ahX (show ld s=_ from ahf h3)),rfl⟩) (λh3=>SR (jK 4 [6] [] (NN (cP (((((s:ByteArray).size:Nat):Int):Int)>(4096:Int)) (λh6=>zR ⟨ahg (Value.int .i64) (ahX (show ld s=_ from (ahe h3).trans (ahf zc))),rfl⟩) (λh6=>SR (jK 1 [11] [] (gL [] (QD s) ?_))))))))))))))))
 rintro _ _ ⟨⟨x,rfl,hx⟩,rfl⟩
 exact jK 2 [10] [] (NN (cP ((x:Int)>=(0:Int)) (λh10=>zR ⟨ahg (Value.int .i64) (ahX (show ld s=_ from (ahe h3).trans ((ahe zc).trans (ahe (hx.1 zc))))),rfl⟩) (λh10=>KX (zR ⟨ahg (Value.int .i64) (ahX (show ld s=_ from (ahe h3).trans ((ahe zc).trans (ahf (ahF (λhn=>ahh (hx.2 hn) zc)))))),rfl⟩))))
theorem Bg {β:Bs} (S:bB) (L:HL) (f m t:Nat) (th:Th) (bC:(af S.O th.k).kind=th.kind) (h3:th.kind=1\/th.kind=2\/th.kind=3) (bX:0<=(af S.O th.k).aK/\(af S.O th.k).aK<=1048576) :
 aX Tryz.prog β 199 #[vP f,(iz L th)] [pF f m t S.X,pT t S.X.cH S.aI L S.us,pO S.O L] (λv l=>v=.tuple #[vI (eH S th).1,vI (eH S th).2.1]/\l=[pF f m t S.X,pT t S.X.cH ((eH S th).2.2.aI) L ((eH S th).2.2.us),pO ((eH S th).2.2.O) L]):=by
 refine SE Tryz.func199 Tryz.ntmps199 (λR=>aq.seq ?_)
 obtain⟨tk,kd⟩:=th;simp only at bC h3;rcases Int.lt_or_le (S.us.length:Int) S.X.cH with GY|GY<;>rcases h3 with e0|e0|e0<;>subst e0
 ·replace bC:(af S.O tk).kind=1:=bC
  replace bX:0<=(af S.O tk).aK/\(af S.O tk).aK<=1048576:=bX
  refine aq.region (jK 2 [] [] (NS (jK 5 [12,13] [(3,a_ 0 f)] (gE [1] ((Hw t S.X.cH S.aI (cM L S.us) (iz L ⟨tk,1⟩) (by rw [wE];exact GY)).mono (λv l h=>Ky h)) (jK 5 [6,7] [] (NZ (jK 2 [18] [] (NT (aq.region (jK 1 [19] [] (gE [] (gq (L.b tk)) (jK 6 [24,26] [(2,v_ 2 (qi L bC)),(3,wJ ((af S.O tk).aK+1) ((af S.O tk).aK+1))] (Be 2 [] tk 7 (λo=>{o with aK:=o.aK+1}) bC (λgY fT=>?_))))))))))))))
  have agR:=ku fT bC
  exact NS (jK 4 [4,5] [] (eN (l:=[pF f m t S.X,pT t S.X.cH (max S.aI ((S.us.length:Int)+1)) L (ins (aF.aS S.us) ⟨tk,1⟩ S.us),pO gY L]) (v:=(.tuple #[vI ((aF.aS S.us)),vI 0])) (by grind [eH,ox]) [1,0,2,3]))
 ·replace bC:(af S.O tk).kind=2:=bC
  replace bX:0<=(af S.O tk).aK/\(af S.O tk).aK<=1048576:=bX
  refine aq.region (jK 2 [] [] (NS (jK 5 [12,13] [(3,a_ 0 f)] (gE [1] ((Hw t S.X.cH S.aI (cM L S.us) (iz L ⟨tk,2⟩) (by rw [wE];exact GY)).mono (λv l h=>Ky h)) (jK 5 [6,7] [] (NZ (jK 2 [18] [] (NT (aq.region (jK 1 [19] [] (gE [] (gq (L.b tk)) (jK 6 [24,26] [(2,v_ 2 (qi L bC)),(3,wJ ((af S.O tk).aK+1) ((af S.O tk).aK+1))] (Be 2 [] tk 7 (λo=>{o with aK:=o.aK+1}) bC (λgY fT=>?_))))))))))))))
  have abw:=ku fT bC
  exact NS (jK 4 [4,5] [] (eN (l:=[pF f m t S.X,pT t S.X.cH (max S.aI ((S.us.length:Int)+1)) L (ins (aF.aS S.us) ⟨tk,2⟩ S.us),pO gY L]) (v:=(.tuple #[vI ((aF.aS S.us)),vI 0])) (by grind [eH,ox]) [1,0,2,3]))
 ·replace bC:(af S.O tk).kind=3:=bC
  replace bX:0<=(af S.O tk).aK/\(af S.O tk).aK<=1048576:=bX
  refine aq.region (jK 2 [] [] (NS (jK 5 [12,13] [(3,a_ 0 f)] (gE [1] ((Hw t S.X.cH S.aI (cM L S.us) (iz L ⟨tk,3⟩) (by rw [wE];exact GY)).mono (λv l h=>Ky h)) (jK 5 [6,7] [] (NZ (jK 2 [18] [] (NT (aq.region (jK 1 [19] [] (gE [] (gq (L.b tk)) (jK 6 [24,26] [(2,v_ 2 (qi L bC)),(3,wJ ((af S.O tk).aK+1) ((af S.O tk).aK+1))] (Be 2 [] tk 7 (λo=>{o with aK:=o.aK+1}) bC (λgY fT=>?_))))))))))))))
  have Nh:=ku fT bC
  exact NS (jK 4 [4,5] [] (eN (l:=[pF f m t S.X,pT t S.X.cH (max S.aI ((S.us.length:Int)+1)) L (ins (aF.aS S.us) ⟨tk,3⟩ S.us),pO gY L]) (v:=(.tuple #[vI ((aF.aS S.us)),vI 0])) (by grind [eH,ox]) [1,0,2,3]))
 ·replace bC:(af S.O tk).kind=1:=bC
  replace bX:0<=(af S.O tk).aK/\(af S.O tk).aK<=1048576:=bX
  exact aq.region (jK 2 [] [] (NS (jK 5 [12,13] [(3,a_ 0 f)] (gE [1] (EK t S.X.cH S.aI (cM L S.us) (iz L ⟨tk,1⟩) (by rw [wE];exact GY)) (jK 5 [6,7] [] (NZ (jK 2 [18] [] (NF (KX (zR (by skip;rw [show eH S ⟨tk,1⟩=_ from oZ zc]<;>exact⟨rfl,rfl⟩) [1,0,2,3]))))))))))
 ·replace bC:(af S.O tk).kind=2:=bC
  replace bX:0<=(af S.O tk).aK/\(af S.O tk).aK<=1048576:=bX
  exact aq.region (jK 2 [] [] (NS (jK 5 [12,13] [(3,a_ 0 f)] (gE [1] (EK t S.X.cH S.aI (cM L S.us) (iz L ⟨tk,2⟩) (by rw [wE];exact GY)) (jK 5 [6,7] [] (NZ (jK 2 [18] [] (NF (KX (zR (by skip;rw [show eH S ⟨tk,2⟩=_ from oZ zc]<;>exact⟨rfl,rfl⟩) [1,0,2,3]))))))))))
 replace bC:(af S.O tk).kind=3:=bC
 replace bX:0<=(af S.O tk).aK/\(af S.O tk).aK<=1048576:=bX
 exact aq.region (jK 2 [] [] (NS (jK 5 [12,13] [(3,a_ 0 f)] (gE [1] (EK t S.X.cH S.aI (cM L S.us) (iz L ⟨tk,3⟩) (by rw [wE];exact GY)) (jK 5 [6,7] [] (NZ (jK 2 [18] [] (NF (KX (zR (by skip;rw [show eH S ⟨tk,3⟩=_ from oZ zc]<;>exact⟨rfl,rfl⟩) [1,0,2,3]))))))))))
theorem jj {β:Bs} (S:bB) (L:HL) (f m t:Nat) (hI:bT S) (h:Int) (hw:(Lit.int .i64 h).wf=true) (name:ByteArray) (eG:name.size<=1048576) (d6:Int) :
 aX Tryz.prog β 201 #[vP f,vI (h),.string name,vI (d6)] [pF f m t S.X,pT t S.X.cH S.aI L S.us,pO S.O L] (λv l=>v=afF L (iO S.O S.us h name d6)/\l=[pF f m t S.X,pT t S.X.cH S.aI L S.us,pO S.O L]):=by
 refine SE Tryz.func201 Tryz.ntmps201 (λR=>aq.seq ?_)
 rcases hI.hand h with iA|⟨tk,iA,ck⟩|⟨tk,iA,ck⟩
 ·exact aq.region (jK 2 [] [] (NS (jK 5 [18,19] [(3,a_ 0 f)] (gE [1] (xU t S.X.cH S.aI (cM L S.us) h hw (wG iA)) (jK 5 [10,11] [] (NZ (jK 2 [24] [] (NT (zR (v:=(.tuple #[.pointer none,vI 131])) ⟨by rw [show iO S.O S.us h name d6=.error 131 by unfold iO;rw [iA]];rfl,rfl⟩ [1,0,2,3])))))))))
 ·have bC:(af S.O tk).kind=1:=hI.kind ck
  exact aq.region (jK 2 [] [] (NS (jK 5 [18,19] [(3,a_ 0 f)] (gE [1] (rU t S.X.cH S.aI (cM L S.us) h hw (iz L ⟨tk,1⟩) (qE iA)) (jK 5 [10,11] [] (NZ (jK 2 [24] [] (NF (KX (SR (jK 7 [12,13] [] (NN (aq.seq (aq.block (SR (jK 3 [31] [] (NT (zR (v:=(.tuple #[.pointer none,vI 173])) ⟨by rw [show iO S.O S.us h name d6=.error 173 by grind [iO]];rfl,rfl⟩ [1,0,2,3]))))))))))))))))))
 have bC:(af S.O tk).kind=2:=hI.kind ck
 exact aq.region (jK 2 [] [] (NS (jK 5 [18,19] [(3,a_ 0 f)] (gE [1] (rU t S.X.cH S.aI (cM L S.us) h hw (iz L ⟨tk,2⟩) (qE iA)) (jK 5 [10,11] [] (NZ (jK 2 [24] [] (NF (KX (SR (jK 7 [12,13] [] (NN (aq.seq (aq.block (SR (jK 3 [31] [] (NF (SR (jK 6 [34] [(4,v_ 2 (uz L bC))] (NN (aq.cond (b:=(af S.O tk).aH) (λ_=>KB) (λyj=>zR (v:=(.tuple #[.pointer none,vI 170])) ⟨by rw [show iO S.O S.us h name d6=.error 170 by grind [iO]];rfl,rfl⟩ [1,0,2,3]) (λyj=>SR (jK 1 [41] [] (gE [] (Aj name eG) (jK 2 [40] [] (NN (cN (cA name) (λuj=>zR (v:=(.tuple #[.pointer none,vI 95])) ⟨by rw [show iO S.O S.us h name d6=.error 95 by grind [iO]];rfl,rfl⟩ [1,0,2,3]) (λuj=>SR (jK 10 [44] [(4,v_ 2 (Bd L bC))] (NN (cN ((bits BinOp.and .i64 ((af S.O tk).mode) d6:Int)=(d6:Int)) (λyT=>zR (v:=(.tuple #[.pointer none,vI 175])) ⟨by rw [show iO S.O S.us h name d6=.error 175 by grind [iO]];rfl,rfl⟩ [1,0,2,3]) (λyT=>KX (zR (v:=(.tuple #[vP (L.b tk),vI 0])) ⟨by rw [show iO S.O S.us h name d6=.ok tk by grind [iO]];rfl,rfl⟩ [1,0,2,3])))))))))))))))))))))))))))))))))
theorem acs {β:Bs} (X:FM) (f m t:Nat) (hX:0<=X.ah/\X.ah<=1048576/\-1125899906842624<=X.used/\X.used<=1125899906842624/\0<=X.last/\X.last<=1125899906842624) (O:eu) (L:HL) (d:Nat) (dU:(af O d).kind=2) (name:ByteArray) (eG:name.size<=1048576) (iU:bN name (af O d).ah=none) (hel:(af O d).ah.length<=1048576) (ar:bF Th) (hil:ar.length<=1048576) (th:Th) (bC:(af O th.k).kind=th.kind) (h3:th.kind=1\/th.kind=2\/th.kind=3) (hb:0<=(af O th.k).aV/\(af O th.k).aV<=1048576) (hni:aF.get ar (af O th.k).id=none) (hw:(Lit.int .i64 (af O th.k).id).wf=true) :
 aX Tryz.prog β 205 #[vP f,vP (L.b d),.string name,(iz L th)] [pF f m t X,pI m L ar,pO O L,pE O L] (λv l=>v=.tuple #[]/\l=[pF f m t {X with ah:=X.ah+1},pI m L (ins (af O th.k).id th ar),pO (dg X O d name th) L,pE (dg X O d name th) L]):=by
 refine SE Tryz.func205 Tryz.ntmps205 (λR=>aq.seq ?_)
 obtain⟨tk,kd⟩:=th;simp only at bC h3;rcases h3 with rfl|rfl|rfl
 ·replace bC:(af O tk).kind=1:=bC
  replace hni:aF.get ar (af O tk).id=none:=hni
  replace hw:(Lit.int .i64 (af O tk).id).wf=true:=hw
  refine rM [0,1,2,3,4,9,5,6,7,8,10] 6 [0,1,2,3,4] (jR 6 [0,1,2,3,11,12,17] [(3,a_ 0 f)] (mL [0,1,2,3,4] [] (gq (L.b tk)) ?_ (by rintro _ _ ⟨rfl,rfl⟩;rfl)))
  rintro _ _ ⟨rfl,rfl⟩
  exact nC [0,1,2,3,4] [14] [] [] (nC [0,1,2,3,4] [15] [] [] (nC [0,1,2,3,4] [16] [(0,v_ 2 (yP L bC))] [] (cu.last rfl rfl (av.qU 1 (d:=none) (t:=129) (K:=3) (E:=133) (b:=m) (n:=ar.length) (f:=(cQ (cM L ar))) (x:=(.tmp 11)) (ix:=(.tmp 16)) (y:=(.tmp 17)) (key:=vI ((af O tk).id)) (u:=.iface 138 (vP (L.b tk))) (kl:=(.int .i64 (af O tk).id)) (n':=(ar.length+1)) (f':=(cQ (cM L (ins (af O tk).id ⟨tk,1⟩ ar)))) (λ_=>KB) KB (λ_=>KB) (λ_=>KB) (λ_=>KB) iY Tryz.underlying129 (by unfold maxLen;omega) (mB hw) (by rw [j8,hni];rfl) (zD (L:=L) (t:=⟨tk,1⟩) hni) (NL (aB.np (NX (aq.region (jK 4 [18,19,20,21] [] (gE [0,2,3] (nH X f m t hX O L d dU name eG iU hel ⟨tk,1⟩ bC ahd hb) (NL (aB.gH [(3,.abs (bD Tryz.prog 3 m (cQ (cM L (ins (af O tk).id ⟨tk,1⟩ ar))) ((ins (af O tk).id ⟨tk,1⟩ ar).length)))] (λw hS=>by rw [show (ins (af O tk).id ⟨tk,1⟩ ar).length=ar.length+1 from lE _ _ _];exact hS) (RF (.tuple #[]) [0,3,1,2,4] (⟨rfl,rfl⟩))))))))))))))
 ·replace bC:(af O tk).kind=2:=bC
  replace hni:aF.get ar (af O tk).id=none:=hni
  replace hw:(Lit.int .i64 (af O tk).id).wf=true:=hw
  refine rM [0,1,2,3,4,9,5,6,7,8,10] 6 [0,1,2,3,4] (jR 6 [0,1,2,3,11,12,17] [(3,a_ 0 f)] (mL [0,1,2,3,4] [] (gq (L.b tk)) ?_ (by rintro _ _ ⟨rfl,rfl⟩;rfl)))
  rintro _ _ ⟨rfl,rfl⟩
  exact nC [0,1,2,3,4] [14] [] [] (nC [0,1,2,3,4] [15] [] [] (nC [0,1,2,3,4] [16] [(0,v_ 2 (yP L bC))] [] (cu.last rfl rfl (av.qU 1 (d:=none) (t:=129) (K:=3) (E:=133) (b:=m) (n:=ar.length) (f:=(cQ (cM L ar))) (x:=(.tmp 11)) (ix:=(.tmp 16)) (y:=(.tmp 17)) (key:=vI ((af O tk).id)) (u:=.iface 144 (vP (L.b tk))) (kl:=(.int .i64 (af O tk).id)) (n':=(ar.length+1)) (f':=(cQ (cM L (ins (af O tk).id ⟨tk,2⟩ ar)))) (λ_=>KB) KB (λ_=>KB) (λ_=>KB) (λ_=>KB) iY Tryz.underlying129 (by unfold maxLen;omega) (mB hw) (by rw [j8,hni];rfl) (zD (L:=L) (t:=⟨tk,2⟩) hni) (NL (aB.np (NX (aq.region (jK 4 [18,19,20,21] [] (gE [0,2,3] (nH X f m t hX O L d dU name eG iU hel ⟨tk,2⟩ bC ahd hb) (NL (aB.gH [(3,.abs (bD Tryz.prog 3 m (cQ (cM L (ins (af O tk).id ⟨tk,2⟩ ar))) ((ins (af O tk).id ⟨tk,2⟩ ar).length)))] (λw hS=>by rw [show (ins (af O tk).id ⟨tk,2⟩ ar).length=ar.length+1 from lE _ _ _];exact hS) (RF (.tuple #[]) [0,3,1,2,4] (⟨rfl,rfl⟩))))))))))))))
 replace bC:(af O tk).kind=3:=bC
 replace hni:aF.get ar (af O tk).id=none:=hni
 replace hw:(Lit.int .i64 (af O tk).id).wf=true:=hw
 refine rM [0,1,2,3,4,9,5,6,7,8,10] 6 [0,1,2,3,4] (jR 6 [0,1,2,3,11,12,17] [(3,a_ 0 f)] (mL [0,1,2,3,4] [] (gq (L.b tk)) ?_ (by rintro _ _ ⟨rfl,rfl⟩;rfl)))
 rintro _ _ ⟨rfl,rfl⟩
 exact nC [0,1,2,3,4] [14] [] [] (nC [0,1,2,3,4] [15] [] [] (nC [0,1,2,3,4] [16] [(0,v_ 2 (yP L bC))] [] (cu.last rfl rfl (av.qU 1 (d:=none) (t:=129) (K:=3) (E:=133) (b:=m) (n:=ar.length) (f:=(cQ (cM L ar))) (x:=(.tmp 11)) (ix:=(.tmp 16)) (y:=(.tmp 17)) (key:=vI ((af O tk).id)) (u:=.iface 141 (vP (L.b tk))) (kl:=(.int .i64 (af O tk).id)) (n':=(ar.length+1)) (f':=(cQ (cM L (ins (af O tk).id ⟨tk,3⟩ ar)))) (λ_=>KB) KB (λ_=>KB) (λ_=>KB) (λ_=>KB) iY Tryz.underlying129 (by unfold maxLen;omega) (mB hw) (by rw [j8,hni];rfl) (zD (L:=L) (t:=⟨tk,3⟩) hni) (NL (aB.np (NX (aq.region (jK 4 [18,19,20,21] [] (gE [0,2,3] (nH X f m t hX O L d dU name eG iU hel ⟨tk,3⟩ bC ahd hb) (NL (aB.gH [(3,.abs (bD Tryz.prog 3 m (cQ (cM L (ins (af O tk).id ⟨tk,3⟩ ar))) ((ins (af O tk).id ⟨tk,3⟩ ar).length)))] (λw hS=>by rw [show (ins (af O tk).id ⟨tk,3⟩ ar).length=ar.length+1 from lE _ _ _];exact hS) (RF (.tuple #[]) [0,3,1,2,4] (⟨rfl,rfl⟩))))))))))))))
end
section
open Go.RowKit Go.Maps bG aF
attribute [local irreducible] av bP aq aB
theorem zx {β:Bs} (S:bB) (L:HL) (f m t:Nat) (hI:Inv0 S) (d:Nat) (hd:aT S.ar ⟨d,2⟩) (name:ByteArray) (eG:name.size<=1048576) (iU:bN name (af S.O d).ah=none) (o:bM) (hid:o.id=S.X.last+1) (hk3:o.kind=1\/o.kind=2\/o.kind=3) (hl0:o.aV=0) (hlast:S.X.last<1099511627776) :
 aX Tryz.prog β 205 #[vP f,vP (L.b d),.string name,iz L ⟨(bA S.X),o.kind⟩] [pF f m t {S.X with last:=S.X.last+1},pI m L S.ar,pO (aZ S.O (bA S.X) (λ_=>o)) L,pE (aZ S.O (bA S.X) (λ_=>o)) L] (λv l=>v=.tuple #[]/\l=[pF f m t ((gu S d name o).X),pI m L ((gu S d name o).ar),pO ((gu S d name o).O) L,pE ((gu S d name o).O) L]):=by
 have hX:=hI.hX
 have bV:d≠(bA S.X):=hI.CQ hd
 have dU:(af S.O d).kind=2:=hI.kind hd
 have hel:(af S.O d).ah.length<=8192:=hI.lI hd
 have jy:=hI.len
 have e1:af (aZ S.O (bA S.X) (λ_=>o)) (bA S.X)=o:=fB
 have e2:af (aZ S.O (bA S.X) (λ_=>o)) d=af S.O d:=jb bV
 have hnk:=q4 hI
 have h:=acs (β:=β) {S.X with last:=S.X.last+1} f m t (by simp only;omega) (aZ S.O (bA S.X) (λ_=>o)) L d (by rw [e2];exact dU) name eG (by rw [e2];exact iU) (by rw [e2];omega) S.ar zc ⟨(bA S.X),o.kind⟩ (by rw [e1]) hk3 (by rw [e1,hl0];decide) (by
  rw [e1,hid]
  cases e:aF.get S.ar (S.X.last+1) with
  |none=>rfl
  |some u=>have:=(hI.ar _ u e).2.2;omega) (by rw [e1,hid];exact WalkArith.wf_i64 (by have:=hI.last;omega))
 rw [e1,hid] at h
 exact h
theorem Mt {β:Bs} (S:bB) (L:HL) (f m t:Nat) (hI:bT S) (d:Nat) (hd:aT S.ar ⟨d,2⟩) (name:ByteArray) (eG:name.size<=1048576) (mode:Int) :
 aX Tryz.prog β 202 #[vP f,vP (L.b d),.string name,vI (mode)] (pA f m t L S) (λv l=>∃L2,v=vI (mI S d name mode).1/\l=(pA f m t L2 ((mI S d name mode).2))):=by
 have hX:=hI.hX
 have hel:(af S.O d).ah.length<=8192:=hI.lI hd
 have dU:(af S.O d).kind=2:=hI.kind hd
 refine SE Tryz.func202 Tryz.ntmps202 (λR=>SR (jK 1 [] [] (NS (jK 3 [10,11,12] [] (gE [0,1,5,3] (Cm S L f m t hI d hd name eG) (jK 1 [9] [] (NZ (jK 2 [15] [] (NN (cP (((gy S.X S.O S.ar d name):Int)=(0:Int)) (λh0=>?_) (λh0=>KX (zR ⟨L,by rw [show mI S d name mode=_ from ahe h0]<;>exact⟨rfl,rfl⟩⟩ [0,1,4,3,5,2,6]))))))))))))
 have iU:=vo h0
 refine aq.region (jK 5 [16,17,18,19,20] [] (gE [0] (Cl S.X f m t hX mode) (av.tG (d:=(some 22)) (t:=145) (λ_=>KB) Tryz.prog rfl 9 (λm1=>jB 3 [25] (λb2=>.ay b2 [vI (S.X.last+1),vI (mode),vI 0,vI 0,vI (S.X.cS),vI (S.X.cZ),vI 0,vI 0,.bool false,.map (some m1),.pointer none] 147) (λb2=>?_)))))
 obtain⟨L2,fX⟩:∃L2:HL,L2=L.put (bA S.X) b2 m1 none 0:=⟨_,rfl⟩
 have hfr:=hI.toInv0.fresh
 exact av.mem (λw hS=>hS.BA fX hfr (o:=(cU S.X 2 mode)) (i:=3) (j:=8) (ix:=[0,1,2,4,5,6,7]) rfl rfl KB rfl (by show (2:Int)≠0;decide) ((rO (L:=L2) (k:=(bA S.X)) (o:=(cU S.X 2 mode)) rfl).trans (by rw [Ol fX];rfl)) rfl) (av.mem (λw hS=>hS.aaP fX hfr (o:=(cU S.X 2 mode)) (i:=3) (j:=7) (ix:=[0,1,2,4,5,6]) rfl rfl KB rfl rfl rfl) (av.gH [(5,pD (aZ S.O (bA S.X) (λ_=>(cU S.X 2 mode))) L2)] (λw hS=>hS.Jd fX (o:=(cU S.X 2 mode)) (i:=5) rfl (by show (2:Int)≠1;decide)) (av.gH [(3,.abs (bD Tryz.prog 3 m (cQ (cM L2 S.ar)) S.ar.length)),(4,.abs (fD 182 t S.X.cH S.aI (cM L2 S.us)))] (λw hS=>by rw [lX fX hfr.ar,lX fX hfr.us];exact hS) (gE [2,3,1,0] ((by have h:=zx (β:=β) S L2 f m t hI.toInv0 d hd name eG iU (cU S.X 2 mode) rfl (by simp [cU]) rfl (xw h0);rw [Dq fX (hI.CQ hd),vn fX] at h;exact h)) (NS (av.gH [(5,.abs (aW (dN ((gu S d name (cU S.X 2 mode)).O) L2)))] (λw hS=>by rw [show dN ((gu S d name (cU S.X 2 mode)).O) L2=dN (aZ S.O (bA S.X) (λ_=>(cU S.X 2 mode))) L2 from mK];exact hS) (jK 2 [8] [] (eN ⟨L2,by rw [show mI S d name mode=_ from ahf h0];refine⟨ahg _ h0,?_⟩;rfl⟩ [0,1,4,2,5,3,6]))))))))
theorem GZ {β:Bs} (S:bB) (L:HL) (f m t:Nat) (hI:bT S) (d:Nat) (hd:aT S.ar ⟨d,2⟩) (name:ByteArray) (eG:name.size<=1048576) (text:ByteArray) (htz:text.size<=1048576) :
 aX Tryz.prog β 206 #[vP f,vP (L.b d),.string name,.string text] (pA f m t L S) (λv l=>∃L2,v=vI (jq S d name text).1/\l=(pA f m t L2 ((jq S d name text).2))):=by
 have hX:=hI.hX
 have hel:(af S.O d).ah.length<=8192:=hI.lI hd
 have dU:(af S.O d).kind=2:=hI.kind hd
 refine SE Tryz.func206 Tryz.ntmps206 (λR=>SR (jK 1 [] [] (NS (jK 1 [10] [] (gE [] (acr text htz) (jK 1 [9] [] (NZ (jK 2 [13] [] (NN (cP (((ld text):Int)=(0:Int)) (λhb=>aq.region (jK 3 [14,15,16] [] (gE [0,1,5,3] (Cm S L f m t hI d hd name eG) (jK 1 [9] [] (NZ (jK 2 [19] [] (NN (cP (((gy S.X S.O S.ar d name):Int)=(0:Int)) (λh0=>?_) (λh0=>KX (zR ⟨L,by rw [show jq S d name text=_ from (ahf hb).trans (ahe h0)]<;>exact⟨rfl,rfl⟩⟩ [0,1,4,3,5,2,6])))))))))) (λhb=>KX (SQ (jK 2 [19] [] (NN (cP (((ld text):Int)=(0:Int)) (λh0=>ahh h0 hb) (λh0=>KX (zR ⟨L,by rw [show jq S d name text=_ from ahe hb]<;>exact⟨rfl,rfl⟩⟩)))))))))))))))))
 have iU:=vo h0
 refine aq.region (jK 4 [20,21,22,23] [] (gE [0] (Cl S.X f m t hX 511) (jB 4 [28] (λb3=>.ay b3 [vI (S.X.last+1),vI (511),vI 0,vI 0,vI (S.X.cS),vI (S.X.cZ),vI 0,vI 0,.bool false,.string text] 143) (λb3=>?_))))
 obtain⟨L2,fX⟩:∃L2:HL,L2=L.put (bA S.X) b3 0 none 0:=⟨_,rfl⟩
 have hfr:=hI.toInv0.fresh
 exact av.mem (λw hS=>hS.BA fX hfr (o:={cU S.X 3 511 with target:=text}) (i:=3) (j:=7) (ix:=[0,1,2,4,5,6]) rfl rfl KB rfl (by show (3:Int)≠0;decide) ((ED (L:=L2) (k:=(bA S.X)) (o:={cU S.X 3 511 with target:=text}) rfl).trans ahc) rfl) (av.gH [(3,pE (aZ S.O (bA S.X) (λ_=>{cU S.X 3 511 with target:=text})) L2)] (λw hS=>hS.CR fX hfr (o:={cU S.X 3 511 with target:=text}) (i:=3) rfl (by show (3:Int)≠2;decide)) (av.gH [(5,pD (aZ S.O (bA S.X) (λ_=>{cU S.X 3 511 with target:=text})) L2)] (λw hS=>hS.Jd fX (o:={cU S.X 3 511 with target:=text}) (i:=5) rfl (by show (3:Int)≠1;decide)) (av.gH [(2,.abs (bD Tryz.prog 3 m (cQ (cM L2 S.ar)) S.ar.length)),(4,.abs (fD 182 t S.X.cH S.aI (cM L2 S.us)))] (λw hS=>by rw [lX fX hfr.ar,lX fX hfr.us];exact hS) (gE [1,2,0,3] ((by have h:=zx (β:=β) S L2 f m t hI.toInv0 d hd name eG iU {cU S.X 3 511 with target:=text} rfl (by simp [cU]) rfl (xw h0);rw [Dq fX (hI.CQ hd),vn fX] at h;exact h)) (NS (av.gH [(5,.abs (aW (dN ((gu S d name {cU S.X 3 511 with target:=text}).O) L2)))] (λw hS=>by rw [show dN ((gu S d name {cU S.X 3 511 with target:=text}).O) L2=dN (aZ S.O (bA S.X) (λ_=>{cU S.X 3 511 with target:=text})) L2 from mK];exact hS) (jK 2 [8] [] (eN ⟨L2,by rw [show jq S d name text=_ from (ahf hb).trans (ahf h0)];refine⟨ahg _ h0,?_⟩;rfl⟩ [0,1,4,2,5,3,6]))))))))
theorem J5 {β:Bs} (S:bB) (L:HL) (f m t:Nat) (hI:bT S) (d:Nat) (hd:aT S.ar ⟨d,2⟩) (name:ByteArray) (eG:name.size<=1048576) :
 aX Tryz.prog β 209 #[vP f,vP (L.b d),.string name] (pA f m t L S) (λv l=>∃L2,v=vI (iD S d name).1/\l=(pA f m t L2 ((iD S d name).2))):=by
 have hX:=hI.hX
 have hel:(af S.O d).ah.length<=8192:=hI.lI hd
 have dU:(af S.O d).kind=2:=hI.kind hd
 refine SE Tryz.func209 Tryz.ntmps209 (λR=>aq.seq ?_)
 rcases hI.sU hd name with eM|⟨tk,eM,ck⟩|⟨tk,eM,ck⟩|⟨tk,eM,ck⟩
 ·exact aq.region (jK 1 [] [] (NZ (jK 5 [10,11] [(3,v_ 3 (dw L dU))] (nj 5 dU eM (NN (aq.block (SR (jK 1 [13] [] (NT (zR ⟨L,by rw [show iD S d name=(170,S) by unfold iD;rw [eM]]<;>exact⟨rfl,rfl⟩⟩))))))))))
 ·have bC:(af S.O tk).kind=1:=hI.kind ck
  exact aq.region (jK 1 [] [] (NZ (jK 5 [10,11] [(3,v_ 3 (dw L dU))] (nj 5 dU eM (NN (aq.block (SR (jK 1 [13] [] (NF (SR (jK 3 [15] [] (NF (KX (SR (jK 3 [17,18,19] [] (gE [0,3,5,1] (uS S L f m t hI d hd name eG ⟨tk,1⟩ eM) (NS (av.gH [(5,.abs (aW (dN ((bp S d name ⟨tk,1⟩).O) L)))] (λw hS=>by rw [show dN ((bp S d name ⟨tk,1⟩).O) L=dN S.O L from uK];exact hS) (jK 1 [6] [] (eN ⟨L,by rw [show iD S d name=(0,bp S d name ⟨tk,1⟩) by grind [iD]]<;>exact⟨rfl,rfl⟩⟩ [0,3,4,1,5,2,6]))))))))))))))))))))
 ·have bC:(af S.O tk).kind=2:=hI.kind ck
  exact aq.region (jK 1 [] [] (NZ (jK 5 [10,11] [(3,v_ 3 (dw L dU))] (nj 5 dU eM (NN (aq.block (SR (jK 1 [13] [] (NF (SR (jK 3 [15] [] (NT (zR ⟨L,by rw [show iD S d name=(172,S) by grind [iD]]<;>exact⟨rfl,rfl⟩⟩)))))))))))))
 have bC:(af S.O tk).kind=3:=hI.kind ck
 exact aq.region (jK 1 [] [] (NZ (jK 5 [10,11] [(3,v_ 3 (dw L dU))] (nj 5 dU eM (NN (aq.block (SR (jK 1 [13] [] (NF (SR (jK 3 [15] [] (NF (KX (SR (jK 3 [17,18,19] [] (gE [0,3,5,1] (uS S L f m t hI d hd name eG ⟨tk,3⟩ eM) (NS (av.gH [(5,.abs (aW (dN ((bp S d name ⟨tk,3⟩).O) L)))] (λw hS=>by rw [show dN ((bp S d name ⟨tk,3⟩).O) L=dN S.O L from uK];exact hS) (jK 1 [6] [] (eN ⟨L,by rw [show iD S d name=(0,bp S d name ⟨tk,3⟩) by grind [iD]]<;>exact⟨rfl,rfl⟩⟩ [0,3,4,1,5,2,6]))))))))))))))))))))
theorem Mu {β:Bs} (S:bB) (L:HL) (f m t:Nat) (hI:bT S) (d:Nat) (hd:aT S.ar ⟨d,2⟩) (name:ByteArray) (eG:name.size<=1048576) :
 aX Tryz.prog β 215 #[vP f,vP (L.b d),.string name] (pA f m t L S) (λv l=>∃L2,v=vI (jd S d name).1/\l=(pA f m t L2 ((jd S d name).2))):=by
 have hX:=hI.hX
 have hel:(af S.O d).ah.length<=8192:=hI.lI hd
 have dU:(af S.O d).kind=2:=hI.kind hd
 refine SE Tryz.func215 Tryz.ntmps215 (λR=>aq.seq ?_)
 rcases hI.sU hd name with eM|⟨tk,eM,ck⟩|⟨tk,eM,ck⟩|⟨tk,eM,ck⟩
 ·exact aq.region (jK 1 [] [] (NS (jK 5 [13,14] [(3,v_ 3 (dw L dU))] (nj 5 dU eM (jK 1 [7] [] (NZ (jK 2 [17] [] (NT (zR (v:=(vI 170)) ⟨L,by skip;rw [show jd S d name=(170,S) by unfold jd;rw [eM]]<;>exact⟨rfl,rfl⟩⟩)))))))))
 ·have bC:(af S.O tk).kind=1:=hI.kind ck
  exact aq.region (jK 1 [] [] (NS (jK 5 [13,14] [(3,v_ 3 (dw L dU))] (nj 5 dU eM (jK 1 [7] [] (NZ (jK 2 [17] [] (NF (KX (SR (jK 7 [8,9] [] (NZ (jK 2 [24] [] (NT (zR (v:=(vI 173)) ⟨L,by skip;rw [show jd S d name=(173,S) by grind [jd]]<;>exact⟨rfl,rfl⟩⟩)))))))))))))))
 ·have bC:(af S.O tk).kind=2:=hI.kind ck
  have ag9:(af S.O tk).ah.length<=8192:=hI.lI ck
  refine aq.region (jK 1 [] [] (NS (jK 5 [13,14] [(3,v_ 3 (dw L dU))] (nj 5 dU eM (jK 1 [7] [] (NZ (jK 2 [17] [] (NF (KX (SR (jK 7 [8,9] [] (NZ (jK 2 [24] [] (NF (KX (SQ (jK 4 [28] [(3,v_ 3 (dw L bC))] (eNk 5 bC (jK 1 [30] [] (NN (cP (((((af S.O tk).ah.length:Nat):Int):Int)>(0:Int)) (λnQ=>zR (v:=(vI 178)) ⟨L,by skip;rw [show jd S d name=(178,S) by grind [jd,af]]<;>exact⟨rfl,rfl⟩⟩) (λnQ=>KX (SR (jK 3 [31,32,33] [] (gE [0,3,5,1] (uS S L f m t hI d hd name eG ⟨tk,2⟩ eM) (NS (av.gH [(5,.abs (aW (dN ((bp S d name ⟨tk,2⟩).O) L)))] (λw hS=>by rw [show dN ((bp S d name ⟨tk,2⟩).O) L=dN S.O L from uK];exact hS) ?_)))))))))))))))))))))))))))
  have Fj:(af (bp S d name ⟨tk,2⟩).O d).kind=2:=(Jc).trans (dU)
  have Fk:(af (bp S d name ⟨tk,2⟩).O tk).kind=2:=(Jc).trans (bC)
  generalize fT:(bp S d name ⟨tk,2⟩).O=gY at Fj Fk ⊢
  refine jK 3 [37] [] (uSt 1 [(2,1),(5,2)] tk (none) Fk (λjO gD=>?_))
  have ZY:=ku gD Fj
  have Uk:=ku gD Fk
  exact NS (jK 1 [6] [] (eN (l:=[pF f m t ((bp S d name ⟨tk,2⟩).X),pI m L ((bp S d name ⟨tk,2⟩).ar),pT t S.X.cH S.aI L S.us,pO jO L,pD jO L,pE jO L]) (v:=(vI 0)) ⟨L,by subst gD;subst fT;rw [show jd S d name=(0,{bp S d name ⟨tk,2⟩ with O:=jk (bp S d name ⟨tk,2⟩).O tk}) by unfold jd;rw [eM];exact (ahf rfl).trans (ahf (ahV Pe))]<;>exact⟨rfl,rfl⟩⟩ [0,3,4,1,5,2,6]))
 have bC:(af S.O tk).kind=3:=hI.kind ck
 exact aq.region (jK 1 [] [] (NS (jK 5 [13,14] [(3,v_ 3 (dw L dU))] (nj 5 dU eM (jK 1 [7] [] (NZ (jK 2 [17] [] (NF (KX (SR (jK 7 [8,9] [] (NZ (jK 2 [24] [] (NT (zR (v:=(vI 173)) ⟨L,by skip;rw [show jd S d name=(173,S) by grind [jd]]<;>exact⟨rfl,rfl⟩⟩)))))))))))))))
theorem J6 {β:Bs} (S:bB) (L:HL) (f m t:Nat) (hI:bT S) (d:Nat) (hd:aT S.ar ⟨d,2⟩) (name:ByteArray) (eG:name.size<=1048576) (to:Nat) (d9:aT S.ar ⟨to,2⟩) (aD:ByteArray) (vV:aD.size<=1048576) :
 aX Tryz.prog β 216 #[vP f,vP (L.b d),.string name,vP (L.b to),.string aD] (pA f m t L S) (λv l=>∃L2,v=vI (dm S d name to aD).1/\l=(pA f m t L2 ((dm S d name to aD).2))):=by
 have hX:=hI.hX
 have hel:(af S.O d).ah.length<=8192:=hI.lI hd
 have dU:(af S.O d).kind=2:=hI.kind hd
 have jv:(af S.O to).kind=2:=hI.kind d9
 have agS:(af S.O to).ah.length<=8192:=hI.lI d9
 refine SE Tryz.func216 Tryz.ntmps216 (λR=>aq.seq ?_)
 rcases hI.sU hd name with eM|⟨tk,eM,ck⟩|⟨tk,eM,ck⟩|⟨tk,eM,ck⟩
 ·exact aq.region (jK 1 [] [] (NS (jK 5 [19,20] [(3,v_ 3 (dw L dU))] (nj 5 dU eM (jK 1 [11] [] (NZ (jK 2 [23] [] (NT (zR ⟨L,by rw [show dm S d name to aD=(170,S) by unfold dm;rw [eM]]<;>exact⟨rfl,rfl⟩⟩)))))))))
 ·have bC:(af S.O tk).kind=1:=hI.kind ck
  refine aq.region (jK 1 [] [] (NS (jK 5 [19,20] [(3,v_ 3 (dw L dU))] (nj 5 dU eM (jK 1 [11] [] (NZ (jK 2 [23] [] (NF (KX (SR (jK 7 [12,13] [] (NZ (jK 2 [14] [] (NN (aq.block (lJ (λ(u:Unit)=>True) (λ(u:Unit)=>0) (λ(u:Unit)=>[(0,vP f),(1,vP (L.b d)),(2,.string name),(3,vP (L.b to)),(4,.string aD),(11,.iface 138 (vP (L.b tk))),(12,.pointer none),(13,.bool false),(14,vP (L.b to))]) (λ(u:Unit)=>((pA f m t L S)++[.abs R])) () [0,1,2,3,4,5,6] (trivial) ?_))))))))))))))))
  rintro u _
  refine SQ (jK 5 [34] [] (NF (XX (aq.seq ?_))))
  skip
  rcases hI.sU d9 aD with eE|⟨ok,eE,jH⟩|⟨ok,eE,jH⟩|⟨ok,eE,jH⟩
  ·refine aq.region (jK 5 [45,46] [(3,v_ 3 (dw L jv))] (nj 5 jv eE (jK 1 [15] [] (NZ (jK 3 [50] [] (NF (KX (SQ (jK 2 [52] [] (NF (KX (SR ?_))))))))))))
   have di:bT S:=hI
   have jE:=hd
   have jZ:=eM
   have wW:=eE
   have oY:=d9
   have qc:(af S.O d).kind=2:=di.kind jE
   have wX:(af S.O to).kind=2:=di.kind oY
   have rA:aT S.ar ⟨tk,1⟩:=(di.bU jE jZ).2
   have rC:(af S.O tk).kind=1:=di.kind rA
   have K8:(af S.O d).ah.length<=8192:=di.lI jE
   have K9:(af S.O to).ah.length<=8192:=di.lI oY
   have wY:=di.lb rA
   have rE:tk≠d:=di.ne jE jZ
   exact jK 3 [61,62,63] [] (gE [0,3,5] (o5 S.X f m t di.hX S.O L d qc name eG ⟨tk,1⟩ rC ahd jZ (di.pX jE) zc (by simp only at wY ⊢;omega)) (NS (jK 4 [65,66,67,68] [] (gE [0,1,2] (nH {S.X with ah:=S.X.ah-1} f m t (di.Gy jE jZ) (bw S.X S.O d name ⟨tk,1⟩) L to (fN.trans wX) aD vV (qw rE wW) (ahk (tj rE) zc) ⟨tk,1⟩ (fN.trans rC) ahd (qF di.toInv0 jE jZ)) (NS (av.gH [(5,.abs (aW (dN (dg S.X (bw S.X S.O d name ⟨tk,1⟩) to aD ⟨tk,1⟩) L)))] (λw hS=>by rw [show dN (dg S.X (bw S.X S.O d name ⟨tk,1⟩) to aD ⟨tk,1⟩) L=dN S.O L from mK.trans qv];exact hS) (jK 1 [10] [] (eN ⟨L,by rw [show dm S d name to aD=(0,pV S d name to aD ⟨tk,1⟩) by grind [dm]]<;>exact⟨rfl,rfl⟩⟩ [0,3,4,1,5,2,6]))))))))
  ·have rF:(af S.O ok).kind=1:=hI.kind jH
   refine aq.region (jK 5 [45,46] [(3,v_ 3 (dw L jv))] (nj 5 jv eE (jK 1 [15] [] (NZ (jK 2 [48,49] [] (av.mT (d:=(some 50)) (op:=.binOp .eql 133 (.tmp 48) (.tmp 49) 133) (v:=.bool (decide (ok=tk))) (λ_=>KB) (λo ai w ho hS=>by obtain⟨F,hF⟩:=hS.get (i:=3) rfl;exact⟨w,HF adg ho KB KB (by rw [rF];decide) (by rw [bC];decide) hF,hS⟩) (NN (cP (ok=tk) (λh50=>zR ⟨L,by rw [show dm S d name to aD=(0,S) by grind [dm]]<;>exact⟨rfl,rfl⟩⟩) (λh50=>KX (SQ (jK 2 [52] [] (NT (SQ (jK 1 [53] [] (gE [] (tD (vP (L.b ok))) (jK 1 [55] [] (NF (KX (SQ (jK 1 [56] [] (NF (KX (aq.region (jK 3 [57,58,59] [] (gE [0,3,5,1] (uS S L f m t hI to d9 aD vV ⟨ok,1⟩ eE) (NS ?_))))))))))))))))))))))))))
   have di:bT (bp S to aD ⟨ok,1⟩):=hI.FX d9 eE ahd
   have hot:(⟨ok,1⟩:Th)≠⟨tk,1⟩:=λe=>h50 (ahg Th.k e)
   have jE:aT (bp S to aD ⟨ok,1⟩).ar ⟨d,2⟩:=o3 hI.toInv0 d9 eE hd (λe=>by have:=jx hd jH e;cases this)
   have oY:aT (bp S to aD ⟨ok,1⟩).ar ⟨to,2⟩:=o3 hI.toInv0 d9 eE d9 (λe=>by have:=jx d9 jH e;cases this)
   have jZ:bN name (af (bp S to aD ⟨ok,1⟩).O d).ah=some ⟨tk,1⟩:=xZ hI.toInv0 d9 eE eM hot
   have wW:bN aD (af (bp S to aD ⟨ok,1⟩).O to).ah=none:=x3 hI.toInv0 d9 eE
   have qc:(af (bp S to aD ⟨ok,1⟩).O d).kind=2:=di.kind jE
   have wX:(af (bp S to aD ⟨ok,1⟩).O to).kind=2:=di.kind oY
   have rA:aT (bp S to aD ⟨ok,1⟩).ar ⟨tk,1⟩:=(di.bU jE jZ).2
   have rC:(af (bp S to aD ⟨ok,1⟩).O tk).kind=1:=di.kind rA
   have K8:(af (bp S to aD ⟨ok,1⟩).O d).ah.length<=8192:=di.lI jE
   have K9:(af (bp S to aD ⟨ok,1⟩).O to).ah.length<=8192:=di.lI oY
   have wY:=di.lb rA
   have rE:tk≠d:=di.ne jE jZ
   exact jK 3 [61,62,63] [] (gE [0,1,2] (o5 (bp S to aD ⟨ok,1⟩).X f m t di.hX (bp S to aD ⟨ok,1⟩).O L d qc name eG ⟨tk,1⟩ rC ahd jZ (di.pX jE) zc (by simp only at wY ⊢;omega)) (NS (jK 4 [65,66,67,68] [] (gE [0,1,2] (nH { (bp S to aD ⟨ok,1⟩).X with ah:=(bp S to aD ⟨ok,1⟩).X.ah-1} f m t (di.Gy jE jZ) (bw (bp S to aD ⟨ok,1⟩).X (bp S to aD ⟨ok,1⟩).O d name ⟨tk,1⟩) L to (fN.trans wX) aD vV (qw rE wW) (ahk (tj rE) zc) ⟨tk,1⟩ (fN.trans rC) ahd (qF di.toInv0 jE jZ)) (NS (av.gH [(5,.abs (aW (dN (dg (bp S to aD ⟨ok,1⟩).X (bw (bp S to aD ⟨ok,1⟩).X (bp S to aD ⟨ok,1⟩).O d name ⟨tk,1⟩) to aD ⟨tk,1⟩) L)))] (λw hS=>by rw [show dN (dg (bp S to aD ⟨ok,1⟩).X (bw (bp S to aD ⟨ok,1⟩).X (bp S to aD ⟨ok,1⟩).O d name ⟨tk,1⟩) to aD ⟨tk,1⟩) L=dN S.O L from mK.trans (qv.trans uK)];exact hS) (jK 1 [10] [] (eN ⟨L,by rw [show dm S d name to aD=(0,pV (bp S to aD ⟨ok,1⟩) d name to aD ⟨tk,1⟩) by grind [dm]]<;>exact⟨rfl,rfl⟩⟩ [0,3,4,1,5,2,6]))))))))
  ·have rF:(af S.O ok).kind=2:=hI.kind jH
   exact aq.region (jK 5 [45,46] [(3,v_ 3 (dw L jv))] (nj 5 jv eE (jK 1 [15] [] (NZ (jK 3 [50] [] (NF (KX (SQ (jK 2 [52] [] (NT (SQ (jK 1 [53] [] (gE [] (tE (vP (L.b ok))) (jK 1 [55] [] (NT (zR ⟨L,by rw [show dm S d name to aD=(172,S) by grind [dm]]<;>exact⟨rfl,rfl⟩⟩))))))))))))))))
  have rF:(af S.O ok).kind=3:=hI.kind jH
  refine aq.region (jK 5 [45,46] [(3,v_ 3 (dw L jv))] (nj 5 jv eE (jK 1 [15] [] (NZ (jK 3 [50] [] (NF (KX (SQ (jK 2 [52] [] (NT (SQ (jK 1 [53] [] (gE [] (uR (vP (L.b ok))) (jK 1 [55] [] (NF (KX (SQ (jK 1 [56] [] (NF (KX (aq.region (jK 3 [57,58,59] [] (gE [0,3,5,1] (uS S L f m t hI to d9 aD vV ⟨ok,3⟩ eE) (NS ?_))))))))))))))))))))))))
  have di:bT (bp S to aD ⟨ok,3⟩):=hI.FX d9 eE ahd
  have hot:(⟨ok,3⟩:Th)≠⟨tk,1⟩:=λe=>by cases e
  have jE:aT (bp S to aD ⟨ok,3⟩).ar ⟨d,2⟩:=o3 hI.toInv0 d9 eE hd (λe=>by have:=jx hd jH e;cases this)
  have oY:aT (bp S to aD ⟨ok,3⟩).ar ⟨to,2⟩:=o3 hI.toInv0 d9 eE d9 (λe=>by have:=jx d9 jH e;cases this)
  have jZ:bN name (af (bp S to aD ⟨ok,3⟩).O d).ah=some ⟨tk,1⟩:=xZ hI.toInv0 d9 eE eM hot
  have wW:bN aD (af (bp S to aD ⟨ok,3⟩).O to).ah=none:=x3 hI.toInv0 d9 eE
  have qc:(af (bp S to aD ⟨ok,3⟩).O d).kind=2:=di.kind jE
  have wX:(af (bp S to aD ⟨ok,3⟩).O to).kind=2:=di.kind oY
  have rA:aT (bp S to aD ⟨ok,3⟩).ar ⟨tk,1⟩:=(di.bU jE jZ).2
  have rC:(af (bp S to aD ⟨ok,3⟩).O tk).kind=1:=di.kind rA
  have K8:(af (bp S to aD ⟨ok,3⟩).O d).ah.length<=8192:=di.lI jE
  have K9:(af (bp S to aD ⟨ok,3⟩).O to).ah.length<=8192:=di.lI oY
  have wY:=di.lb rA
  have rE:tk≠d:=di.ne jE jZ
  exact jK 3 [61,62,63] [] (gE [0,1,2] (o5 (bp S to aD ⟨ok,3⟩).X f m t di.hX (bp S to aD ⟨ok,3⟩).O L d qc name eG ⟨tk,1⟩ rC ahd jZ (di.pX jE) zc (by simp only at wY ⊢;omega)) (NS (jK 4 [65,66,67,68] [] (gE [0,1,2] (nH { (bp S to aD ⟨ok,3⟩).X with ah:=(bp S to aD ⟨ok,3⟩).X.ah-1} f m t (di.Gy jE jZ) (bw (bp S to aD ⟨ok,3⟩).X (bp S to aD ⟨ok,3⟩).O d name ⟨tk,1⟩) L to (fN.trans wX) aD vV (qw rE wW) (ahk (tj rE) zc) ⟨tk,1⟩ (fN.trans rC) ahd (qF di.toInv0 jE jZ)) (NS (av.gH [(5,.abs (aW (dN (dg (bp S to aD ⟨ok,3⟩).X (bw (bp S to aD ⟨ok,3⟩).X (bp S to aD ⟨ok,3⟩).O d name ⟨tk,1⟩) to aD ⟨tk,1⟩) L)))] (λw hS=>by rw [show dN (dg (bp S to aD ⟨ok,3⟩).X (bw (bp S to aD ⟨ok,3⟩).X (bp S to aD ⟨ok,3⟩).O d name ⟨tk,1⟩) to aD ⟨tk,1⟩) L=dN S.O L from mK.trans (qv.trans uK)];exact hS) (jK 1 [10] [] (eN ⟨L,by rw [show dm S d name to aD=(0,pV (bp S to aD ⟨ok,3⟩) d name to aD ⟨tk,1⟩) by grind [dm]]<;>exact⟨rfl,rfl⟩⟩ [0,3,4,1,5,2,6]))))))))
 ·have bC:(af S.O tk).kind=2:=hI.kind ck
  refine aq.region (jK 1 [] [] (NS (jK 5 [19,20] [(3,v_ 3 (dw L dU))] (nj 5 dU eM (jK 1 [11] [] (NZ (jK 2 [23] [] (NF (KX (SR (jK 7 [12,13] [] (NZ (jK 2 [14] [] (NN (aq.block ?_)))))))))))))))
  obtain⟨dp,hdp⟩:=hI.deep
  refine lJ (λ(x:Option Nat)=>(sD S.O tk to↔∃z0,x=some z0/\sD S.O tk z0)/\(∀z0,x=some z0->aT S.ar ⟨z0,2⟩)) (λ(x:Option Nat)=>EN dp x) (λ(x:Option Nat)=>[(0,vP f),(1,vP (L.b d)),(2,.string name),(3,vP (L.b to)),(4,.string aD),(11,.iface 144 (vP (L.b tk))),(12,vP (L.b tk)),(13,.bool true),(14,(I5 L x))]) (λ(x:Option Nat)=>((pA f m t L S)++[.abs R])) ((some to)) [0,1,2,3,4,5,6] (⟨⟨λh=>⟨to,rfl,h⟩,λ⟨y,e,h⟩=>by cases e;exact h⟩,λy e=>by cases e;exact d9⟩) ?_
  rintro x ⟨hbx,hlx⟩
  refine aq.seq (aq.seq ?_)
  rcases hx:x with _|y
  ·refine aq.region (jK 5 [34] [] (NF (XX (aq.seq ?_))))
   have hnb:¬sD S.O tk to:=λh=>Pe
   rcases hI.sU d9 aD with eE|⟨ok,eE,jH⟩|⟨ok,eE,jH⟩|⟨ok,eE,jH⟩
   ·refine aq.region (jK 5 [45,46] [(3,v_ 3 (dw L jv))] (nj 5 jv eE (jK 1 [15] [] (NZ (jK 3 [50] [] (NF (KX (SQ (jK 2 [52] [] (NF (KX (SR ?_))))))))))))
    have di:bT S:=hI
    have jE:=hd
    have jZ:=eM
    have wW:=eE
    have oY:=d9
    have qc:(af S.O d).kind=2:=di.kind jE
    have wX:(af S.O to).kind=2:=di.kind oY
    have rA:aT S.ar ⟨tk,2⟩:=(di.bU jE jZ).2
    have rC:(af S.O tk).kind=2:=di.kind rA
    have K8:(af S.O d).ah.length<=8192:=di.lI jE
    have K9:(af S.O to).ah.length<=8192:=di.lI oY
    have wY:=di.lb rA
    have rE:tk≠d:=di.ne jE jZ
    exact jK 3 [61,62,63] [] (gE [0,3,5] (o5 S.X f m t di.hX S.O L d qc name eG ⟨tk,2⟩ rC ahd jZ (di.pX jE) zc (by simp only at wY ⊢;omega)) (NS (jK 4 [65,66,67,68] [] (gE [0,1,2] (nH {S.X with ah:=S.X.ah-1} f m t (di.Gy jE jZ) (bw S.X S.O d name ⟨tk,2⟩) L to (fN.trans wX) aD vV (qw rE wW) (ahk (tj rE) zc) ⟨tk,2⟩ (fN.trans rC) ahd (qF di.toInv0 jE jZ)) (NS (av.gH [(5,.abs (aW (dN (dg S.X (bw S.X S.O d name ⟨tk,2⟩) to aD ⟨tk,2⟩) L)))] (λw hS=>by rw [show dN (dg S.X (bw S.X S.O d name ⟨tk,2⟩) to aD ⟨tk,2⟩) L=dN S.O L from mK.trans qv];exact hS) (jK 1 [10] [] (eN ⟨L,by rw [show dm S d name to aD=(0,pV S d name to aD ⟨tk,2⟩) by grind [dm]]<;>exact⟨rfl,rfl⟩⟩ [0,3,4,1,5,2,6]))))))))
   ·have rF:(af S.O ok).kind=1:=hI.kind jH
    exact aq.region (jK 5 [45,46] [(3,v_ 3 (dw L jv))] (nj 5 jv eE (jK 1 [15] [] (NZ (jK 3 [50] [] (NF (KX (SQ (jK 2 [52] [] (NT (SQ (jK 1 [53] [] (gE [] (tD (vP (L.b ok))) (jK 1 [55] [] (NF (KX (SQ (jK 1 [56] [] (NT (zR ⟨L,by rw [show dm S d name to aD=(173,S) by grind [dm]]<;>exact⟨rfl,rfl⟩⟩))))))))))))))))))))
   ·have rF:(af S.O ok).kind=2:=hI.kind jH
    exact aq.region (jK 5 [45,46] [(3,v_ 3 (dw L jv))] (nj 5 jv eE (jK 1 [15] [] (NZ (jK 2 [48,49] [] (av.mT (d:=(some 50)) (op:=.binOp .eql 133 (.tmp 48) (.tmp 49) 133) (v:=.bool (decide (ok=tk))) (λ_=>KB) (λo ai w ho hS=>by obtain⟨F,hF⟩:=hS.get (i:=3) rfl;exact⟨w,HF ae1 ho KB KB (by rw [rF];decide) (by rw [bC];decide) hF,hS⟩) (NN (cP (ok=tk) (λh50=>zR ⟨L,by rw [show dm S d name to aD=(0,S) by grind [dm]]<;>exact⟨rfl,rfl⟩⟩) (λh50=>KX (SQ (jK 2 [52] [] (NT (SQ (jK 1 [53] [] (gE [] (tE (vP (L.b ok))) (jK 1 [55] [] (NT (zR ⟨L,by rw [show dm S d name to aD=(172,S) by grind [dm]]<;>exact⟨rfl,rfl⟩⟩))))))))))))))))))
   have rF:(af S.O ok).kind=3:=hI.kind jH
   exact aq.region (jK 5 [45,46] [(3,v_ 3 (dw L jv))] (nj 5 jv eE (jK 1 [15] [] (NZ (jK 3 [50] [] (NF (KX (SQ (jK 2 [52] [] (NT (SQ (jK 1 [53] [] (gE [] (uR (vP (L.b ok))) (jK 1 [55] [] (NF (KX (SQ (jK 1 [56] [] (NT (zR ⟨L,by rw [show dm S d name to aD=(173,S) by grind [dm]]<;>exact⟨rfl,rfl⟩⟩))))))))))))))))))))
  have hky:(af S.O y).kind=2:=hI.kind (hlx y hx)
  exact aq.region (jK 5 [34] [] (NT (KX (aq.seq (aq.block (SR (jK 2 [39,40] [] (av.mT (d:=(some 41)) (op:=.binOp .eql 144 (.tmp 39) (.tmp 40) 144) (v:=.bool (decide (y=tk))) (λ_=>KB) (λo ai w ho hS=>by obtain⟨F,hF⟩:=hS.get (i:=3) rfl;exact⟨w,Vx ho KB KB (by rw [hky];decide) (by rw [bC];decide) hF,hS⟩) (NN (cP (y=tk) (λAY=>zR ⟨L,by rw [show dm S d name to aD=(174,S) by unfold dm;rw [eM];exact ahf ⟨rfl,hbx.2 ⟨y,hx,by rw [AY];exact .here⟩⟩]<;>exact⟨rfl,rfl⟩⟩) (λAY=>KX (aq.region (jK 5 [14] [(3,v_ 3 (af8 L hky))] (NL (tJ (((af S.O y).up)) [0,1,2,3,4,5,6] (⟨hbx.trans ⟨λ⟨y2,e,h⟩=>by grind [Jg],λh=>⟨y,hx,(Jg AY).2 h⟩⟩,λz e=>((hI.up ⟨y,2⟩ (hlx y hx) z).1 e).2.1⟩) (hm:=by show EN dp (((af S.O y).up))<EN dp (some y);exact Vz hdp))))))))))))))))
 have bC:(af S.O tk).kind=3:=hI.kind ck
 refine aq.region (jK 1 [] [] (NS (jK 5 [19,20] [(3,v_ 3 (dw L dU))] (nj 5 dU eM (jK 1 [11] [] (NZ (jK 2 [23] [] (NF (KX (SR (jK 7 [12,13] [] (NZ (jK 2 [14] [] (NN (aq.block (lJ (λ(u:Unit)=>True) (λ(u:Unit)=>0) (λ(u:Unit)=>[(0,vP f),(1,vP (L.b d)),(2,.string name),(3,vP (L.b to)),(4,.string aD),(11,.iface 141 (vP (L.b tk))),(12,.pointer none),(13,.bool false),(14,vP (L.b to))]) (λ(u:Unit)=>((pA f m t L S)++[.abs R])) () [0,1,2,3,4,5,6] (trivial) ?_))))))))))))))))
 rintro u _
 refine SQ (jK 5 [34] [] (NF (XX (aq.seq ?_))))
 skip
 rcases hI.sU d9 aD with eE|⟨ok,eE,jH⟩|⟨ok,eE,jH⟩|⟨ok,eE,jH⟩
 ·refine aq.region (jK 5 [45,46] [(3,v_ 3 (dw L jv))] (nj 5 jv eE (jK 1 [15] [] (NZ (jK 3 [50] [] (NF (KX (SQ (jK 2 [52] [] (NF (KX (SR ?_))))))))))))
  have di:bT S:=hI
  have jE:=hd
  have jZ:=eM
  have wW:=eE
  have oY:=d9
  have qc:(af S.O d).kind=2:=di.kind jE
  have wX:(af S.O to).kind=2:=di.kind oY
  have rA:aT S.ar ⟨tk,3⟩:=(di.bU jE jZ).2
  have rC:(af S.O tk).kind=3:=di.kind rA
  have K8:(af S.O d).ah.length<=8192:=di.lI jE
  have K9:(af S.O to).ah.length<=8192:=di.lI oY
  have wY:=di.lb rA
  have rE:tk≠d:=di.ne jE jZ
  exact jK 3 [61,62,63] [] (gE [0,3,5] (o5 S.X f m t di.hX S.O L d qc name eG ⟨tk,3⟩ rC ahd jZ (di.pX jE) zc (by simp only at wY ⊢;omega)) (NS (jK 4 [65,66,67,68] [] (gE [0,1,2] (nH {S.X with ah:=S.X.ah-1} f m t (di.Gy jE jZ) (bw S.X S.O d name ⟨tk,3⟩) L to (fN.trans wX) aD vV (qw rE wW) (ahk (tj rE) zc) ⟨tk,3⟩ (fN.trans rC) ahd (qF di.toInv0 jE jZ)) (NS (av.gH [(5,.abs (aW (dN (dg S.X (bw S.X S.O d name ⟨tk,3⟩) to aD ⟨tk,3⟩) L)))] (λw hS=>by rw [show dN (dg S.X (bw S.X S.O d name ⟨tk,3⟩) to aD ⟨tk,3⟩) L=dN S.O L from mK.trans qv];exact hS) (jK 1 [10] [] (eN ⟨L,by rw [show dm S d name to aD=(0,pV S d name to aD ⟨tk,3⟩) by grind [dm]]<;>exact⟨rfl,rfl⟩⟩ [0,3,4,1,5,2,6]))))))))
 ·have rF:(af S.O ok).kind=1:=hI.kind jH
  refine aq.region (jK 5 [45,46] [(3,v_ 3 (dw L jv))] (nj 5 jv eE (jK 1 [15] [] (NZ (jK 3 [50] [] (NF (KX (SQ (jK 2 [52] [] (NT (SQ (jK 1 [53] [] (gE [] (tD (vP (L.b ok))) (jK 1 [55] [] (NF (KX (SQ (jK 1 [56] [] (NF (KX (aq.region (jK 3 [57,58,59] [] (gE [0,3,5,1] (uS S L f m t hI to d9 aD vV ⟨ok,1⟩ eE) (NS ?_))))))))))))))))))))))))
  have di:bT (bp S to aD ⟨ok,1⟩):=hI.FX d9 eE ahd
  have hot:(⟨ok,1⟩:Th)≠⟨tk,3⟩:=λe=>by cases e
  have jE:aT (bp S to aD ⟨ok,1⟩).ar ⟨d,2⟩:=o3 hI.toInv0 d9 eE hd (λe=>by have:=jx hd jH e;cases this)
  have oY:aT (bp S to aD ⟨ok,1⟩).ar ⟨to,2⟩:=o3 hI.toInv0 d9 eE d9 (λe=>by have:=jx d9 jH e;cases this)
  have jZ:bN name (af (bp S to aD ⟨ok,1⟩).O d).ah=some ⟨tk,3⟩:=xZ hI.toInv0 d9 eE eM hot
  have wW:bN aD (af (bp S to aD ⟨ok,1⟩).O to).ah=none:=x3 hI.toInv0 d9 eE
  have qc:(af (bp S to aD ⟨ok,1⟩).O d).kind=2:=di.kind jE
  have wX:(af (bp S to aD ⟨ok,1⟩).O to).kind=2:=di.kind oY
  have rA:aT (bp S to aD ⟨ok,1⟩).ar ⟨tk,3⟩:=(di.bU jE jZ).2
  have rC:(af (bp S to aD ⟨ok,1⟩).O tk).kind=3:=di.kind rA
  have K8:(af (bp S to aD ⟨ok,1⟩).O d).ah.length<=8192:=di.lI jE
  have K9:(af (bp S to aD ⟨ok,1⟩).O to).ah.length<=8192:=di.lI oY
  have wY:=di.lb rA
  have rE:tk≠d:=di.ne jE jZ
  exact jK 3 [61,62,63] [] (gE [0,1,2] (o5 (bp S to aD ⟨ok,1⟩).X f m t di.hX (bp S to aD ⟨ok,1⟩).O L d qc name eG ⟨tk,3⟩ rC ahd jZ (di.pX jE) zc (by simp only at wY ⊢;omega)) (NS (jK 4 [65,66,67,68] [] (gE [0,1,2] (nH { (bp S to aD ⟨ok,1⟩).X with ah:=(bp S to aD ⟨ok,1⟩).X.ah-1} f m t (di.Gy jE jZ) (bw (bp S to aD ⟨ok,1⟩).X (bp S to aD ⟨ok,1⟩).O d name ⟨tk,3⟩) L to (fN.trans wX) aD vV (qw rE wW) (ahk (tj rE) zc) ⟨tk,3⟩ (fN.trans rC) ahd (qF di.toInv0 jE jZ)) (NS (av.gH [(5,.abs (aW (dN (dg (bp S to aD ⟨ok,1⟩).X (bw (bp S to aD ⟨ok,1⟩).X (bp S to aD ⟨ok,1⟩).O d name ⟨tk,3⟩) to aD ⟨tk,3⟩) L)))] (λw hS=>by rw [show dN (dg (bp S to aD ⟨ok,1⟩).X (bw (bp S to aD ⟨ok,1⟩).X (bp S to aD ⟨ok,1⟩).O d name ⟨tk,3⟩) to aD ⟨tk,3⟩) L=dN S.O L from mK.trans (qv.trans uK)];exact hS) (jK 1 [10] [] (eN ⟨L,by rw [show dm S d name to aD=(0,pV (bp S to aD ⟨ok,1⟩) d name to aD ⟨tk,3⟩) by grind [dm]]<;>exact⟨rfl,rfl⟩⟩ [0,3,4,1,5,2,6]))))))))
 ·have rF:(af S.O ok).kind=2:=hI.kind jH
  exact aq.region (jK 5 [45,46] [(3,v_ 3 (dw L jv))] (nj 5 jv eE (jK 1 [15] [] (NZ (jK 3 [50] [] (NF (KX (SQ (jK 2 [52] [] (NT (SQ (jK 1 [53] [] (gE [] (tE (vP (L.b ok))) (jK 1 [55] [] (NT (zR ⟨L,by rw [show dm S d name to aD=(172,S) by grind [dm]]<;>exact⟨rfl,rfl⟩⟩))))))))))))))))
 have rF:(af S.O ok).kind=3:=hI.kind jH
 refine aq.region (jK 5 [45,46] [(3,v_ 3 (dw L jv))] (nj 5 jv eE (jK 1 [15] [] (NZ (jK 2 [48,49] [] (av.mT (d:=(some 50)) (op:=.binOp .eql 133 (.tmp 48) (.tmp 49) 133) (v:=.bool (decide (ok=tk))) (λ_=>KB) (λo ai w ho hS=>by obtain⟨F,hF⟩:=hS.get (i:=3) rfl;exact⟨w,HF adh ho KB KB (by rw [rF];decide) (by rw [bC];decide) hF,hS⟩) (NN (cP (ok=tk) (λh50=>zR ⟨L,by rw [show dm S d name to aD=(0,S) by grind [dm]]<;>exact⟨rfl,rfl⟩⟩) (λh50=>KX (SQ (jK 2 [52] [] (NT (SQ (jK 1 [53] [] (gE [] (uR (vP (L.b ok))) (jK 1 [55] [] (NF (KX (SQ (jK 1 [56] [] (NF (KX (aq.region (jK 3 [57,58,59] [] (gE [0,3,5,1] (uS S L f m t hI to d9 aD vV ⟨ok,3⟩ eE) (NS ?_))))))))))))))))))))))))))
 have di:bT (bp S to aD ⟨ok,3⟩):=hI.FX d9 eE ahd
 have hot:(⟨ok,3⟩:Th)≠⟨tk,3⟩:=λe=>h50 (ahg Th.k e)
 have jE:aT (bp S to aD ⟨ok,3⟩).ar ⟨d,2⟩:=o3 hI.toInv0 d9 eE hd (λe=>by have:=jx hd jH e;cases this)
 have oY:aT (bp S to aD ⟨ok,3⟩).ar ⟨to,2⟩:=o3 hI.toInv0 d9 eE d9 (λe=>by have:=jx d9 jH e;cases this)
 have jZ:bN name (af (bp S to aD ⟨ok,3⟩).O d).ah=some ⟨tk,3⟩:=xZ hI.toInv0 d9 eE eM hot
 have wW:bN aD (af (bp S to aD ⟨ok,3⟩).O to).ah=none:=x3 hI.toInv0 d9 eE
 have qc:(af (bp S to aD ⟨ok,3⟩).O d).kind=2:=di.kind jE
 have wX:(af (bp S to aD ⟨ok,3⟩).O to).kind=2:=di.kind oY
 have rA:aT (bp S to aD ⟨ok,3⟩).ar ⟨tk,3⟩:=(di.bU jE jZ).2
 have rC:(af (bp S to aD ⟨ok,3⟩).O tk).kind=3:=di.kind rA
 have K8:(af (bp S to aD ⟨ok,3⟩).O d).ah.length<=8192:=di.lI jE
 have K9:(af (bp S to aD ⟨ok,3⟩).O to).ah.length<=8192:=di.lI oY
 have wY:=di.lb rA
 have rE:tk≠d:=di.ne jE jZ
 exact jK 3 [61,62,63] [] (gE [0,1,2] (o5 (bp S to aD ⟨ok,3⟩).X f m t di.hX (bp S to aD ⟨ok,3⟩).O L d qc name eG ⟨tk,3⟩ rC ahd jZ (di.pX jE) zc (by simp only at wY ⊢;omega)) (NS (jK 4 [65,66,67,68] [] (gE [0,1,2] (nH { (bp S to aD ⟨ok,3⟩).X with ah:=(bp S to aD ⟨ok,3⟩).X.ah-1} f m t (di.Gy jE jZ) (bw (bp S to aD ⟨ok,3⟩).X (bp S to aD ⟨ok,3⟩).O d name ⟨tk,3⟩) L to (fN.trans wX) aD vV (qw rE wW) (ahk (tj rE) zc) ⟨tk,3⟩ (fN.trans rC) ahd (qF di.toInv0 jE jZ)) (NS (av.gH [(5,.abs (aW (dN (dg (bp S to aD ⟨ok,3⟩).X (bw (bp S to aD ⟨ok,3⟩).X (bp S to aD ⟨ok,3⟩).O d name ⟨tk,3⟩) to aD ⟨tk,3⟩) L)))] (λw hS=>by rw [show dN (dg (bp S to aD ⟨ok,3⟩).X (bw (bp S to aD ⟨ok,3⟩).X (bp S to aD ⟨ok,3⟩).O d name ⟨tk,3⟩) to aD ⟨tk,3⟩) L=dN S.O L from mK.trans (qv.trans uK)];exact hS) (jK 1 [10] [] (eN ⟨L,by rw [show dm S d name to aD=(0,pV (bp S to aD ⟨ok,3⟩) d name to aD ⟨tk,3⟩) by grind [dm]]<;>exact⟨rfl,rfl⟩⟩ [0,3,4,1,5,2,6]))))))))
end
end Go.Proofs.YtbnfiigafobejaaGreat
