/-
  PROVED HERE: lemmas and contracts of functions (texts of this repo, joined; what the claim does not use is left out): Dq, DM, DN, Co, Ss, Sv, Sw, So, Sy, Sz, Sq, Sj, Sg, Hc, Hd, H1, H2, H3, H4, H5, H6, ShelfP, As, Si, Pw, Ad, Pc, FP, FW.
  CONDITIONS: as the theorems say.
-/
import Derived.Test.YtbnfiigafobejaaGreatMWdoes3
import Derived.Shelf.Strings.Split
import Derived.Test.YtbnfiigafobejaaGreatProg
import Derived.Laws.IdiomStrings
import Derived.Lib.SplitLaws
set_option maxRecDepth 100000
set_option maxHeartbeats 4000000
namespace Go.Proofs.YtbnfiigafobejaaGreat
section
open Go.RowKit Go.Maps bK aF
section q
variable {β β':Bs} {N:fY} {Q:Post} {e:Exit} {fr:Fr} {ax l:List HP}
theorem aB.freeze (R:List HP) (pk:List Nat) (hn:cD pk=true) (hp:cW ax pk=some (l++R)) (K:∀β':Bs,β.le β'->pW β R β'->aB β' N Q e fr l):aB β N Q e fr ax:=λai w hS=>by
 obtain⟨β',h,_,ju⟩:=(hS.pick hn hp).wg
 exact K β' h.le h ai w ju
variable {P:Program} {ops:Array Oper} {k:Nat}
theorem av.freeze (R:List HP) (pk:List Nat) (hn:cD pk=true) (hp:cW ax pk=some (l++R)) (K:∀β':Bs,β.le β'->pW β R β'->av P β' N ops k fr l Q):av P β N ops k fr ax Q:=λai w hS=>by
 obtain⟨β',h,_,ju⟩:=(hS.pick hn hp).wg
 exact K β' h.le h ai w ju
theorem aB.cQ (ix:List Nat) (R:List HP) (K:∀β':Bs,β.le β'->pW β R β'->aB β' N Q e fr (lN ix ax 0)) (hn:cD (oy ix ax.length 0++ix)=true:=by kernel_rfl) (hp:cW ax (oy ix ax.length 0++ix)=some (lN ix ax 0++R):=by kernel_rfl):aB β N Q e fr ax:=aB.freeze R _ hn hp K
theorem av.cQ (ix:List Nat) (R:List HP) (K:∀β':Bs,β.le β'->pW β R β'->av P β' N ops k fr (lN ix ax 0) Q) (hn:cD (oy ix ax.length 0++ix)=true:=by kernel_rfl) (hp:cW ax (oy ix ax.length 0++ix)=some (lN ix ax 0++R):=by kernel_rfl):av P β N ops k fr ax Q:=av.freeze R _ hn hp K
variable {c:Code}
theorem aq.rX (i:Nat) {e:TypeId} {size n cap:Nat} {A:Option Addr} {xs:List Value} (hp:ax[i]?=some (.abs (aH e size A n cap xs))) (hn:0<n) (K:A=some ⟨bw A,br A,none⟩->aq P β N c fr ax Q):aq P β N c fr ax Q:=λai w hS=>
 let ⟨_,h⟩:=hS.get hp;K (aH.Ix h hn).1 ai w hS
def aaV (N:fY) {ι:Type} (B:ι->Bs) (bR:ι->Prop) (fr:ι->Fr) (hp:ι->List HP):Act->World->Prop:=λa w=>∃i,bR i/\∃ai,a=fF N (fr i) ai/\aR (B i) (hp i) w
theorem aq.aaW {x y:Code} {ι:Type} (B:ι->Bs) (bR:ι->Prop) (bU:ι->Fr) (dI:ι->List HP) (hr:∀i,bR i->aq P (B i) N y (bU i) (dI i) Q) (hf:aq P β N x fr ax (Exit.then (aaV N B bR bU dI) Q)):aq P β N (.seq x y) fr ax Q:=by
 intro ai w hS
 refine wp_seq (ahN (λe a w q=>?_) (hf ai w hS))
 cases e with
 |normal=>
   obtain⟨i,hi,qg,rfl,ju⟩:=q
   exact hr i hi qg w ju
 |exit id=>exact q
 |goto l=>exact q
 |ret=>exact q
 |panic ch=>exact q
 |outgrown=>exact q
theorem aB.aaX {ι:Type} {B:ι->Bs} {bR:ι->Prop} {bU:ι->Fr} {dI:ι->List HP} (i:ι) (hb:B i=β) {ar pk:List Nat} (hi:bR i) (hf:∀ai,kG fr ai ar=bU i) (hn:cD pk=true) (hp:cW ax pk=some (dI i)) :
 aB β N (Exit.then (aaV N B bR bU dI) Q) .normal fr ax:=λai _ hS=>⟨i,hi,lk fr ai,by rw [oW N fr ai ar,hf ai],hb ▸ hS.pick hn hp⟩
end q
section k
variable {P:Program} {β β':Bs} {R R':RS} {f:FuncId} {args:Array Value} {x:Value} {ns ns':List aO} {L:eV} {A B G H V:Option Addr} {c cb cg ch cv d k to:Nat} {n:aO} {bs ds:List UInt8} {name ay:ByteArray} {c0:aN}
structure AF (β:Bs) (R:RS) (L:eV) (H V:Option Addr) (k:Nat):Prop where
 data:∀i,i<R.ns.length->i≠k->bF β (L.dA i) (nd R.ns i).data
 ah:∀i,i<R.ns.length->cU β (L.eA i) (nd R.ns i).ah
 h:cC β H (bH (bn R.us))
 v:cC β V (bH (iV R.us))
theorem AF.le (h:AF β R L H V k) (dU:β.le β'):AF β' R L H V k:=⟨λi hi hk=>(h.data i hi hk).le dU,λi hi=>(h.ah i hi).le dU,h.h.le dU,h.v.le dU⟩
theorem AF.at (h:AF β R L H V k) (hA:B=L.dA k) (hd:ds=(nd R.ns k).data) (g:pW β [.abs (aH 95 10 A R.ns.length c (bG L R.ns)),.abs (aH 3 1 G R.aG.length cg (bH R.aG)),.abs (aH 5 1 B ds.length cb (dR ds))] β'):dz β' R ⟨A,c,L,G,cg,H,ch,V,cv⟩:=by
 obtain⟨F,h1,h2⟩:=g.get 0 rfl
 obtain⟨F2,g1,g2⟩:=g.get 1 rfl
 obtain⟨F3,k1,k2⟩:=g.get 2 rfl
 have h':=h.le g.le
 refine⟨⟨cC.iH g1 g2 rfl,h'.h,h'.v⟩,cC.iH h1 h2 rfl,λi hi=>?_,h'.ah⟩
 by_cases e:i=k
 ·subst e;rw [←hA,←hd];exact cC.iH k1 k2 rfl
 exact h'.data i hi e
theorem HT (h:AF β R L H V k) (hA:B=L.dA k) (hd:ds=(nd R.ns k).data) (hs:∀β',β.le β'->dz β' R ⟨A,c,L,G,cg,H,ch,V,cv⟩->aW P β' f args [] (λv l=>v=x/\l=[])) :
 aW P β f args [.abs (aH 95 10 A R.ns.length c (bG L R.ns)),.abs (aH 3 1 G R.aG.length cg (bH R.aG)),.abs (aH 5 1 B ds.length cb (dR ds))] (λv l=>v=x/\l=[.abs (aH 95 10 A R.ns.length c (bG L R.ns)),.abs (aH 3 1 G R.aG.length cg (bH R.aG)),.abs (aH 5 1 B ds.length cb (dR ds))]):=
 (aW.wg (pre:=[]) (R:=[.abs (aH 95 10 A R.ns.length c (bG L R.ns)),.abs (aH 3 1 G R.aG.length cg (bH R.aG)),.abs (aH 5 1 B ds.length cb (dR ds))]) (λβ' g=>hs β' g.le (h.at hA hd g))).mono (by rintro v l ⟨l0,⟨rfl,rfl⟩,rfl⟩;exact⟨rfl,rfl⟩)
theorem AF.set (h:AF β R L H V k) (hk:k<R.ns.length) (hn:R'.ns=R.ns.set k n) (he:n.ah=(nd R.ns k).ah) (hu:R'.us=R.us):AF β R' (L.dat k B c) H V k:=by
 refine⟨λi hi hk2=>?_,λi hi=>?_,by rw [hu];exact h.h,by rw [hu];exact h.v⟩
 ·rw [hn,ag8] at hi
  rw [hn,qv hk,agV hk2]
  show bF β (if i=k then B else L.dA i) _
  rw [agV hk2];exact h.data i hi hk2
 rw [hn,ag8] at hi
 rw [hn,qv hk]
 by_cases e:i=k
 ·rw [agW e,he];subst e;exact h.ah i hi
 rw [agV e];exact h.ah i hi
theorem R9 {m:Nat} (h:ds.length=m):bs.length+m=(bs++ds).length:=by rw [ag4,h]
theorem Wo {m:Nat} (h:ds.length=m):HP.abs (aH 5 1 B (bs.length+m) c (dR bs++dR ds))=HP.abs (aH 5 1 B (bs++ds).length c (dR (bs++ds))):=by
 grind [R9,dR]
theorem Zm:(L.dat k B c).dA k=B:=agW rfl
theorem acf {s z:Int} (hk:k<ns.length) (h:ns'=ns.set k {nd ns k with data:=ds,aU:=s,aI:=z}) :
 HP.abs (aH 95 10 A ns.length c ((((bG L ns).set (k*10+7) (.slice B ds.length cb)).set (k*10+5) (.int .i64 s)).set (k*10+5+1) (.int .i64 z)))=HP.abs (aH 95 10 A ns'.length c (bG (L.dat k B cb) ns')):=by
 rw [TY hk,Cm (by rw [ag8];exact hk),qv hk,agW rfl,List.set_set,h,ag8]
def kq (R:RS) (bs:List UInt8):Nat:=(min (bs.length:Int) (R.cB-(fQ R.ns R.ns.length:Int))).toNat
def FR (R:RS) (k:Nat) (bs:List UInt8):RS:={R with ns:=R.ns.set k {nd R.ns k with data:=(nd R.ns k).data++bs.take (kq R bs),aU:=R.cS,aI:=R.cZ}}
theorem Wp (h:(bs.length:Int)=0):jO R k bs=(R,0,0):=agW (ahC zc)
theorem Wq (h:¬(bs.length:Int)=0) (h2:R.cB-(fQ R.ns R.ns.length:Int)<=0):jO R k bs=(R,0,176):=(agV (λe=>h (by rw [e];rfl))).trans (agW h2)
theorem Wr (h:¬(bs.length:Int)=0) (h2:¬R.cB-(fQ R.ns R.ns.length:Int)<=0):jO R k bs=(FR R k bs,(kq R bs:Int),0):=(agV (λe=>h (by rw [e];rfl))).trans (agV h2)
theorem ae1:(bP R d name n).1.us=R.us:=by unfold bP;(repeat' split)<;>rfl
theorem QS (hk:k<ns.length) {m u g s z:Int}:(((((bG L ns).set (k*10+2) (.int .i64 m)).set (k*10+3) (.int .i64 u)).set (k*10+4) (.int .i64 g)).set (k*10+5) (.int .i64 s)).set (k*10+5+1) (.int .i64 z)=bG L (ns.set k {nd ns k with mode:=m,bg:=u,bh:=g,aU:=s,aI:=z}):=by
 have e:∀a:aO,k<(ns.set k a).length:=Pe
 rw [rY (n:={nd ns k with mode:=m}) hk Pd (λ_ _ _=>rfl) rfl,
  rY (n:={nd ns k with mode:=m,bg:=u}) (e _) Pd (λ_ _ _=>rfl) (by rw [qv hk,agW rfl];rfl),List.set_set,
  rY (n:={nd ns k with mode:=m,bg:=u,bh:=g}) (e _) Pd (λ_ _ _=>rfl) (by rw [qv hk,agW rfl];rfl),List.set_set,
  Cm (e _),qv hk,agW rfl,List.set_set]
def zh (R:RS) (k:Nat) (c:aN):RS:={R with ns:=R.ns.set k {nd R.ns k with mode:=c.mode,bg:=c.bg,bh:=c.bh,aU:=c.aU,aI:=c.aI}}
theorem Zn (hk:k<R.ns.length):HP.abs (aH 95 10 A R.ns.length c ((((((bG L R.ns).set (k*10+2) (.int .i64 c0.mode)).set (k*10+3) (.int .i64 c0.bg)).set (k*10+4) (.int .i64 c0.bh)).set (k*10+5) (.int .i64 c0.aU)).set (k*10+5+1) (.int .i64 c0.aI)))=HP.abs (aH 95 10 A (zh R k c0).ns.length c (bG L (zh R k c0).ns)):=by
 grind [QS,zh]
theorem HV:(zh R k c0).ns.length=R.ns.length:=ag8 ..
theorem lU.meta (h:lU β R L H V) (hk:k<R.ns.length):lU β (zh R k c0) L H V:=by
 refine⟨λi hi=>?_,λi hi=>?_,h.h,h.v⟩
 ·rw [HV] at hi
  show bF β _ (nd (R.ns.set k _) i).data
  rw [qv hk]
  by_cases e:i=k
  ·rw [agW e];subst e;exact h.data i hi
  rw [agV e];exact h.data i hi
 rw [HV] at hi
 show cU β _ (nd (R.ns.set k _) i).ah
 rw [qv hk]
 by_cases e:i=k
 ·rw [agW e];subst e;exact h.ah i hi
 rw [agV e];exact h.ah i hi
theorem Ws {z:Int} (h:iD R c0.aL=.error z):mo R c0=(R,0,z):=by unfold mo;rw [h]
theorem Wt (h:iD R c0.aL=.ok k) (h1:(nd R.ns k).kind=2/\(nd R.ns k).id∈R.aG):mo R c0=(R,0,170):=by unfold mo;rw [h];exact agW h1
theorem Wu (h:iD R c0.aL=.ok k) (h1:¬((nd R.ns k).kind=2/\(nd R.ns k).id∈R.aG)) (h2:¬jS c0.mode):mo R c0=(R,0,120):=by unfold mo;rw [h];exact (agV h1).trans (agV h2)
theorem yj (h:iD R c0.aL=.ok k) (h1:¬((nd R.ns k).kind=2/\(nd R.ns k).id∈R.aG)) (h2:jS c0.mode) (h3:¬(qm c0.bg/\qm c0.bh)):mo R c0=(R,0,11):=by unfold mo;rw [h];exact (agV h1).trans ((agW h2).trans (agV h3))
theorem Wv (h:iD R c0.aL=.ok k) (h1:¬((nd R.ns k).kind=2/\(nd R.ns k).id∈R.aG)) (h2:jS c0.mode) (h3:qm c0.bg/\qm c0.bh) (h4:¬fZ c0.aU c0.aI):mo R c0=(R,0,20):=by unfold mo;rw [h];exact (agV h1).trans ((agW h2).trans ((agW h3).trans (agV h4)))
theorem Ww (h:iD R c0.aL=.ok k) (h1:¬((nd R.ns k).kind=2/\(nd R.ns k).id∈R.aG)) (h2:jS c0.mode) (h3:qm c0.bg/\qm c0.bh) (h4:fZ c0.aU c0.aI):mo R c0=(zh R k c0,0,0):=by unfold mo;rw [h];exact (agV h1).trans ((agW h2).trans ((agW h3).trans (agW h4)))
theorem JL (h:n.kind=3) (h1:¬kW n.target=0):bP R d name n=(R,kW n.target):=agW ⟨h,h1⟩
theorem M8 (h:¬(n.kind=3/\kW n.target≠0)) (h1:bV R.ns d name=(k:Int)):bP R d name n=(R,171):=(agV h).trans (agW (by rw [h1];omega))
theorem FT (h:¬(n.kind=3/\kW n.target≠0)) (h1:bV R.ns d name = -1) (h2:¬vE R):bP R d name n=(R,177):=(agV h).trans ((agV (by rw [h1];decide)).trans (agV h2))
theorem M9 (h:¬(n.kind=3/\kW n.target≠0)) (h1:bV R.ns d name = -1) (h2:vE R):bP R d name n=(jV R d name n,0):=(agV h).trans ((agV (by rw [h1];decide)).trans (agW h2))
variable {b:Bool}
theorem aaY (h:bV R.ns d name = -1):iE R d name b=(R,170):=agV (by rw [h];decide)
theorem FU (h:bV R.ns d name=(k:Int)):iE R d name b=if b=false/\(nd R.ns k).kind=2 then (R,172) else if b=true/\(nd R.ns k).kind≠2 then (R,173) else if b=true/\0<(nd R.ns k).ah.length then (R,178) else (gh (cX R d name true),0):=by
 grind [iE]
theorem adC (h:bV R.ns d name=(k:Int)) (h1:b=false/\(nd R.ns k).kind=2):iE R d name b=(R,172):=(FU h).trans (agW h1)
theorem adD (h:bV R.ns d name=(k:Int)) (h1:¬(b=false/\(nd R.ns k).kind=2)) (h2:b=true/\(nd R.ns k).kind≠2):iE R d name b=(R,173):=(FU h).trans ((agV h1).trans (agW h2))
theorem adE (h:bV R.ns d name=(k:Int)) (h1:¬(b=false/\(nd R.ns k).kind=2)) (h2:¬(b=true/\(nd R.ns k).kind≠2)) (h3:b=true/\0<(nd R.ns k).ah.length):iE R d name b=(R,178):=(FU h).trans ((agV h1).trans ((agV h2).trans (agW h3)))
theorem adF (h:bV R.ns d name=(k:Int)) (h1:¬(b=false/\(nd R.ns k).kind=2)) (h2:¬(b=true/\(nd R.ns k).kind≠2)) (h3:¬(b=true/\0<(nd R.ns k).ah.length)):iE R d name b=(gh (cX R d name true),0):=(FU h).trans ((agV h1).trans ((agV h2).trans (agV h3)))
variable {w:Int}
theorem adG {z:Int} (h:ic R c0.aL c0.name 64=.error z):jh R c0 w=(R,0,z):=by unfold jh;rw [h]
theorem adH (h:ic R c0.aL c0.name 64=.ok d) (h1:bV R.ns d c0.name = -1):jh R c0 w=(R,0,170):=by unfold jh;rw [h];exact agV (by rw [h1];decide)
theorem FV (h:ic R c0.aL c0.name 64=.ok d) (h1:bV R.ns d c0.name=(k:Int)):jh R c0 w=if (nd R.ns k).kind=3 then (R,0,174) else if (nd R.ns k).kind≠w then (R,0,if (nd R.ns k).kind=1 then 173 else 172) else kV R k:=by
 grind [jh]
theorem adI (h:ic R c0.aL c0.name 64=.ok d) (h1:bV R.ns d c0.name=(k:Int)) (h2:(nd R.ns k).kind=3):jh R c0 w=(R,0,174):=(FV h h1).trans (agW h2)
theorem adJ (h:ic R c0.aL c0.name 64=.ok d) (h1:bV R.ns d c0.name=(k:Int)) (h2:¬(nd R.ns k).kind=3) (h3:¬(nd R.ns k).kind=w) (h4:(nd R.ns k).kind=1):jh R c0 w=(R,0,173):=(FV h h1).trans ((agV h2).trans ((agW h3).trans (by rw [agW h4])))
theorem adK (h:ic R c0.aL c0.name 64=.ok d) (h1:bV R.ns d c0.name=(k:Int)) (h2:¬(nd R.ns k).kind=3) (h3:¬(nd R.ns k).kind=w) (h4:¬(nd R.ns k).kind=1):jh R c0 w=(R,0,172):=(FV h h1).trans ((agV h2).trans ((agW h3).trans (by rw [agV h4])))
theorem adL (h:ic R c0.aL c0.name 64=.ok d) (h1:bV R.ns d c0.name=(k:Int)) (h2:¬(nd R.ns k).kind=3) (h3:(nd R.ns k).kind=w):jh R c0 w=kV R k:=(FV h h1).trans ((agV h2).trans (agV (λq=>q h3)))
theorem adM (h:bV R.ns d name = -1):gY R d name to ay=(R,170):=agV (by rw [h];decide)
def AJ (R:RS) (d:Nat) (name:ByteArray) (to:Nat) (ay:ByteArray) (k:Nat) (R1:RS):RS:=gh (dh (cX R1 d name false) to ay (nd R.ns k).id)
theorem FW (h:bV R.ns d name=(k:Int)):gY R d name to ay=if (nd R.ns k).kind=2/\jE R.ns k (R.ns.length+1) to=true then (R,174) else if bV R.ns to ay=(k:Int) then (R,0) else if 0<=bV R.ns to ay then (if (nd R.ns (bV R.ns to ay).toNat).kind=2 then (R,172) else if (nd R.ns k).kind=2 then (R,173) else (AJ R d name to ay k (cX R to ay true),0)) else (AJ R d name to ay k R,0):=by
 unfold gY
 rw [agW (by rw [h];omega),h];rfl
variable {t:Nat}
theorem adN (h:bV R.ns d name=(k:Int)) (h1:(nd R.ns k).kind=2/\jE R.ns k (R.ns.length+1) to=true):gY R d name to ay=(R,174):=(FW h).trans (agW h1)
theorem adO (h:bV R.ns d name=(k:Int)) (h1:¬((nd R.ns k).kind=2/\jE R.ns k (R.ns.length+1) to=true)) (h2:bV R.ns to ay=(k:Int)):gY R d name to ay=(R,0):=(FW h).trans ((agV h1).trans (agW h2))
theorem afF (h:bV R.ns d name=(k:Int)) (h1:¬((nd R.ns k).kind=2/\jE R.ns k (R.ns.length+1) to=true)) (h2:bV R.ns to ay = -1):gY R d name to ay=(AJ R d name to ay k R,0):=(FW h).trans ((agV h1).trans ((agV (by rw [h2];omega)).trans (agV (by rw [h2];decide))))
theorem Zo (h:bV R.ns d name=(k:Int)) (h1:¬((nd R.ns k).kind=2/\jE R.ns k (R.ns.length+1) to=true)) (h2:bV R.ns to ay=(t:Int)) (h3:¬(t:Int)=(k:Int)):gY R d name to ay=if (nd R.ns t).kind=2 then (R,172) else if (nd R.ns k).kind=2 then (R,173) else (AJ R d name to ay k (cX R to ay true),0):=by
 grind [FW]
theorem adP (h:bV R.ns d name=(k:Int)) (h1:¬((nd R.ns k).kind=2/\jE R.ns k (R.ns.length+1) to=true)) (h2:bV R.ns to ay=(t:Int)) (h3:¬(t:Int)=(k:Int)) (h4:(nd R.ns t).kind=2):gY R d name to ay=(R,172):=(Zo h h1 h2 h3).trans (agW h4)
theorem adQ (h:bV R.ns d name=(k:Int)) (h1:¬((nd R.ns k).kind=2/\jE R.ns k (R.ns.length+1) to=true)) (h2:bV R.ns to ay=(t:Int)) (h3:¬(t:Int)=(k:Int)) (h4:¬(nd R.ns t).kind=2) (h5:(nd R.ns k).kind=2):gY R d name to ay=(R,173):=(Zo h h1 h2 h3).trans ((agV h4).trans (agW h5))
theorem afG (h:bV R.ns d name=(k:Int)) (h1:¬((nd R.ns k).kind=2/\jE R.ns k (R.ns.length+1) to=true)) (h2:bV R.ns to ay=(t:Int)) (h3:¬(t:Int)=(k:Int)) (h4:¬(nd R.ns t).kind=2) (h5:¬(nd R.ns k).kind=2):gY R d name to ay=(AJ R d name to ay k (cX R to ay true),0):=(Zo h h1 h2 h3).trans ((agV h4).trans (agV h5))
noncomputable def HX (R:RS) (c:aN) (d:Nat) (n:aO):wz:=if (bP R d c.name n).2=0/\c.op=5 then kV (bP R d c.name n).1 ((bP R d c.name n).1.ns.length-1) else ((bP R d c.name n).1,0,(bP R d c.name n).2)
theorem T3 (h:c0.op=8\/c0.op=14):iF R c0 d=((iE R d c0.name (decide (c0.op=14))).1,0,(iE R d c0.name (decide (c0.op=14))).2):=agW h
theorem afH (h:¬(c0.op=8\/c0.op=14)) (h1:c0.op=6):iF R c0 d=HX R c0 d ⟨0,3,511,0,0,0,0,[],c0.text,[]⟩:=((agV h).trans (agW h1)).trans (agV (λq=>by have:=q.2;omega)).symm
theorem adR (h:¬(c0.op=8\/c0.op=14)) (h1:¬c0.op=6) (h2:¬jS c0.mode):iF R c0 d=(R,0,120):=(agV h).trans ((agV h1).trans (agV h2))
theorem afI (h:¬(c0.op=8\/c0.op=14)) (h1:¬c0.op=6) (h2:jS c0.mode) (h3:c0.op=5):iF R c0 d=HX R c0 d ⟨0,1,c0.mode,0,0,0,0,[],⟨#[]⟩,[]⟩:=by
 refine ((agV h).trans ((agV h1).trans ((agW h2).trans (agW h3)))).trans ?_
 unfold HX
 grind
theorem afJ (h:¬(c0.op=8\/c0.op=14)) (h1:¬c0.op=6) (h2:jS c0.mode) (h3:¬c0.op=5):iF R c0 d=HX R c0 d ⟨0,2,c0.mode,0,0,0,0,[],⟨#[]⟩,[]⟩:=((agV h).trans ((agV h1).trans ((agW h2).trans (agV h3)))).trans (agV (λq=>h3 q.2)).symm
theorem JM (h:¬((bP R d c0.name n).2=0/\c0.op=5)):HX R c0 d n=((bP R d c0.name n).1,0,(bP R d c0.name n).2):=agV h
theorem Sb (h:(bP R d c0.name n).2=0) (h1:c0.op=5):HX R c0 d n=kV (bP R d c0.name n).1 ((bP R d c0.name n).1.ns.length-1):=agW ⟨h,h1⟩
theorem Wx (h:(bP R d name n).2=0):(bP R d name n).1.ns.length=R.ns.length+1:=by
 unfold bP at h ⊢
 split
 ·grind
 rename_i q
 rw [agV q] at h
 split
 ·grind
 rename_i q2
 rw [agV q2] at h
 split
 ·show (_++_:List aO).length=_
  grind [CI]
 grind
theorem Zp (h:c0.op=1):cu R c0=if 0<=gI R.ns c0.other then (if (nd R.ns (bY R.ns c0.other)).kind=2 then kV R (bY R.ns c0.other) else (R,0,173)) else (R,0,141):=agW h
theorem aaZ (h:c0.op=1) (h1:gI R.ns c0.other = -1):cu R c0=(R,0,141):=(Zp h).trans (agV (by rw [h1];decide))
theorem aa0 (h:c0.op=1) (h1:0<=gI R.ns c0.other) (h2:¬(nd R.ns (bY R.ns c0.other)).kind=2):cu R c0=(R,0,173):=(Zp h).trans ((agW h1).trans (agV h2))
theorem aa1 (h:c0.op=1) (h1:0<=gI R.ns c0.other) (h2:(nd R.ns (bY R.ns c0.other)).kind=2):cu R c0=kV R (bY R.ns c0.other):=(Zp h).trans ((agW h1).trans (agW h2))
theorem adS (h:c0.op=2):cu R c0=jh R c0 2:=by unfold cu;rw [agV zc,agW h]
theorem adT (h:c0.op=3):cu R c0=jh R c0 1:=by unfold cu;rw [agV zc,agV zc,agW h]
abbrev JN (n:Int):Prop:=n=4\/n=5\/n=6\/n=8\/n=14
theorem adU (h:JN c0.op):cu R c0=match ic R c0.aL c0.name 192 with|.error e=>(R,0,e)|.ok d=>iF R c0 d:=by unfold cu;rw [agV zc,agV zc,agV zc,agW h];rfl
theorem aa2 {z:Int} (h:JN c0.op) (h1:ic R c0.aL c0.name 192=.error z):cu R c0=(R,0,z):=by rw [adU h,h1]
theorem aa3 (h:JN c0.op) (h1:ic R c0.aL c0.name 192=.ok d):cu R c0=iF R c0 d:=by rw [adU h,h1]
theorem adV (h:c0.op=7):cu R c0=vF R c0:=by unfold cu;rw [agV zc,agV zc,agV zc,agV zc,agW h]
theorem aa4 {z:Int} (h:c0.op=7) (h1:qC R c0 64=.error z):cu R c0=(R,0,z):=by rw [adV h];unfold vF;rw [h1]
theorem aa5 (h:c0.op=7) (h1:qC R c0 64=.ok (d,to)):cu R c0=if 0<=bV R.ns d c0.name then (if (nd R.ns (bV R.ns d c0.name).toNat).kind=2 then (R,0,172) else if 0<=bV R.ns to c0.text then (R,0,171) else if (dJ R.ns R.ns.length:Int)<8192 then (dh R to c0.text (nd R.ns (bV R.ns d c0.name).toNat).id,0,0) else (R,0,177)) else (R,0,170):=by rw [adV h];unfold vF;rw [h1]
theorem aa6 (h:c0.op=7) (h1:qC R c0 64=.ok (d,to)) (h2:bV R.ns d c0.name = -1):cu R c0=(R,0,170):=(aa5 h h1).trans (agV (by rw [h2];decide))
theorem Na (h:c0.op=7) (h1:qC R c0 64=.ok (d,to)) (h2:bV R.ns d c0.name=(k:Int)):cu R c0=if (nd R.ns k).kind=2 then (R,0,172) else if 0<=bV R.ns to c0.text then (R,0,171) else if (dJ R.ns R.ns.length:Int)<8192 then (dh R to c0.text (nd R.ns k).id,0,0) else (R,0,177):=by
 refine (aa5 h h1).trans ((agW (by rw [h2];omega)).trans ?_)
 rw [h2];rfl
theorem aa7 (h:c0.op=7) (h1:qC R c0 64=.ok (d,to)) (h2:bV R.ns d c0.name=(k:Int)) (h3:(nd R.ns k).kind=2):cu R c0=(R,0,172):=(Na h h1 h2).trans (agW h3)
theorem aa8 (h:c0.op=7) (h1:qC R c0 64=.ok (d,to)) (h2:bV R.ns d c0.name=(k:Int)) (h3:¬(nd R.ns k).kind=2) (h4:bV R.ns to c0.text=(t:Int)):cu R c0=(R,0,171):=(Na h h1 h2).trans ((agV h3).trans (agW (by rw [h4];omega)))
theorem aa9 (h:c0.op=7) (h1:qC R c0 64=.ok (d,to)) (h2:bV R.ns d c0.name=(k:Int)) (h3:¬(nd R.ns k).kind=2) (h4:bV R.ns to c0.text = -1) (h5:¬(dJ R.ns R.ns.length:Int)<8192):cu R c0=(R,0,177):=(Na h h1 h2).trans ((agV h3).trans ((agV (by rw [h4];decide)).trans (agV h5)))
theorem abb (h:c0.op=7) (h1:qC R c0 64=.ok (d,to)) (h2:bV R.ns d c0.name=(k:Int)) (h3:¬(nd R.ns k).kind=2) (h4:bV R.ns to c0.text = -1) (h5:(dJ R.ns R.ns.length:Int)<8192):cu R c0=(dh R to c0.text (nd R.ns k).id,0,0):=(Na h h1 h2).trans ((agV h3).trans ((agV (by rw [h4];decide)).trans (agW h5)))
theorem Zq (h:c0.op=9):cu R c0=match iD R c0.aL with|.error e=>(R,0,e)|.ok k=>if (nd R.ns k).kind=2 then (R,0,172) else jO R k c0.data:=by unfold cu;rw [agV zc,agV zc,agV zc,agV zc,agV zc,agW h];rfl
theorem abd {z:Int} (h:c0.op=9) (h1:iD R c0.aL=.error z):cu R c0=(R,0,z):=by rw [Zq h,h1]
theorem abe (h:c0.op=9) (h1:iD R c0.aL=.ok k) (h2:(nd R.ns k).kind=2):cu R c0=(R,0,172):=by rw [Zq h,h1];exact agW h2
theorem abf (h:c0.op=9) (h1:iD R c0.aL=.ok k) (h2:¬(nd R.ns k).kind=2):cu R c0=jO R k c0.data:=by rw [Zq h,h1];exact agV h2
theorem abg (h:c0.op=10):cu R c0=mo R c0:=by unfold cu;rw [agV zc,agV zc,agV zc,agV zc,agV zc,agV zc,agW h]
theorem abh (h:c0.op=13):cu R c0=if c0.aL∈bn R.us then (gh {R with us:=del c0.aL R.us},0,0) else (gh R,0,131):=by unfold cu;rw [agV zc,agV zc,agV zc,agV zc,agV zc,agV zc,agV zc,agW h]
theorem Wy (h:c0.op=13) (h1:c0.aL∈bn R.us):cu R c0=(gh {R with us:=del c0.aL R.us},0,0):=(abh h).trans (agW h1)
theorem Wz (h:c0.op=13) (h1:c0.aL∉bn R.us):cu R c0=(gh R,0,131):=(abh h).trans (agV h1)
theorem abj (h:c0.op=15):cu R c0=match qC R c0 192 with|.error e=>(R,0,e)|.ok (f,to)=>((gY R f c0.name to c0.text).1,0,(gY R f c0.name to c0.text).2):=by unfold cu;rw [agV zc,agV zc,agV zc,agV zc,agV zc,agV zc,agV zc,agV zc,agW h];rfl
theorem WA {z:Int} (h:c0.op=15) (h1:qC R c0 192=.error z):cu R c0=(R,0,z):=by rw [abj h,h1]
theorem WB (h:c0.op=15) (h1:qC R c0 192=.ok (d,to)):cu R c0=((gY R d c0.name to c0.text).1,0,(gY R d c0.name to c0.text).2):=by rw [abj h,h1]
theorem abk (h:¬(1<=c0.op/\c0.op<=10\/13<=c0.op/\c0.op<=15)):cu R c0=(R,0,230):=by unfold cu;rw [agV zc,agV zc,agV zc,agV zc,agV zc,agV zc,agV zc,agV zc,agV zc]
end k
end
section
open Go.RowKit Go.Maps bK aF
attribute [local irreducible] av bN aq aB fN
noncomputable abbrev Sc (Y:RL) (k:Nat) (Z:RS):=(.abs (aH 5 1 (Y.L.dA k) ((nd Z.ns k).data.length) (Y.L.dC k) (dR (nd Z.ns k).data)):HP)
noncomputable abbrev zU2 (b11:Nat) (b12:Nat):=([(4,vP b11),(8,vP b12)]:Fr)
theorem HY {β:Bs} (Z:RS) (Y:RL) (k:Nat) (hI:AF β Z Y.L Y.H Y.V k) (hC:RC Z) (hk:k<Z.ns.length) (dA:Option Addr) (dC:Nat) (bs:List UInt8) (hbs:bF β dA bs) (hbl:bs.length<=140737488355328) (hbc:bs.length<=dC) :
 cE Tryz.prog β 83 #[.agg ⟨rV Z Y⟩,vI (((k:Nat):Int)),.slice dA (bs.length) (dC)] [gZ Y Z,gM Y Z,Sc Y k Z] (λβ' v l=>∃Y',v=.tuple #[.agg ⟨rV ((jO Z k bs).1) Y'⟩,vI (jO Z k bs).2.1,vI (jO Z k bs).2.2]/\l=[]/\dz β' (jO Z k bs).1 Y'):=by
 refine oI Tryz.func83 Tryz.ntmps83 (λaE R=>SR (jB 1 [3] (λb1=>.aD b1 (rV Z Y) 45) (λb1=>jB 3 [6] (λb2=>.aD b2 (rZ) 45) (λb2=>NZ (jK 3 [13] [] (NN (cP ((((bs.length:Nat):Int):Int)=(0:Int)) (λsi=>?_) (λsi=>?_))))))))
 ·refine SR (jC 4 [7,8] [(0,A_ 4 b1 12),(1,A_ 5 b2 12)] [(5,(zC (rV Z Y)))] (NN (aq.ret (aB.bD (aB.cQ [0,1,2] [gZ Y Z,gM Y Z,Sc Y k Z] (λyP iK hL=>?_))))))
  have fM:dz yP Z Y:=hI.at rfl rfl hL
  replace aE:=aE.trans iK
  exact rB _ [A_ 2 b2 12] [0] aE (⟨Y,by rw [Wp si]<;>rfl,rfl,by rw [Wp si];exact fM⟩)
 refine KX (aq.seq (rQ (jQ 4 [17,18] [(2,a_ 4 b1),(3,A_ 4 b1 12)] (mD (pre:=[gZ Y Z,gM Y Z,Sc Y k Z]) [0,1,2] [0,1,2,3,4,5] (.int .i64 ↑(fQ Z.ns Z.ns.length)) (HT hI rfl rfl (λ_ _ h=>Y8 Z Y h hC.toRB)) (jQ 2 [9] [(0,w_ (.int .i64 ((Z.cB-((fQ Z.ns Z.ns.length):Int)))) (vg rfl (by have:=hC.cap;have:=hC.dat;omega) (by have:=hC.cap;omega)))] (NQ (NX (SQ (jK 2 [22] [] (NN (cP (((Z.cB-((fQ Z.ns Z.ns.length):Int)):Int)<=(0:Int)) (λsj=>?_) (λsj=>?_))))))))))))
 ·refine SR (jC 4 [7,8] [(0,A_ 4 b1 12),(1,A_ 5 b2 12)] [(5,(zC (rV Z Y)))] (NN (aq.ret (aB.bD (aB.cQ [0,1,2] [gZ Y Z,gM Y Z,Sc Y k Z] (λCK lX hL=>?_))))))
  have fM:dz CK Z Y:=hI.at rfl rfl hL
  replace aE:=aE.trans lX
  exact rB _ [A_ 2 b2 12] [0] aE (⟨Y,by rw [Wq si sj]<;>rfl,rfl,by rw [Wq si sj];exact fM⟩)
 refine KX (SR (jK 3 [10] [] (NN (aq.join (λ(u:Unit)=>True) (λ(u:Unit)=>[(1,vI ↑k),(2,.slice dA (bs.length) (dC)),(3,vP b1),(6,vP b2),(10,vI ↑(kq Z bs))]) (λ(u:Unit)=>([gZ Y Z,gM Y Z,Sc Y k Z,.abs R]++qD b1 Z Y b2)) ?_ (SR (jK 3 [28] [] (NN (cP ((((bs.length:Nat):Int):Int)>((Z.cB-((fQ Z.ns Z.ns.length):Int)):Int)) (λvL=>aq.region (jK 2 [10] [] (NL (aB.slot 10 (vI ((Z.cB-((fQ Z.ns Z.ns.length):Int)))) (.int .i64 ↑(kq Z bs)) (λ_=>KB) (agX (Value.int .i64) (by unfold kq;omega)) (mJ () [0,1,2,3,4,5] (trivial)))))) (λvL=>aq.skip (aB.slot 10 (vI ↑bs.length) (.int .i64 ↑(kq Z bs)) (λ_=>KB) (agX (Value.int .i64) (by unfold kq;omega)) (mJ () [0,1,2,3,4,5] (trivial))))))))))))
 rintro u _
 refine aq.seq ?_
 have hml:(bs.take (kq Z bs)).length=kq Z bs:=by grind [kq]
 have hdk:=Pb (ns:=Z.ns) Z.ns.length hk
 have hmb:kq Z bs<=bs.length:=by unfold kq;omega
 have hmr:(kq Z bs:Int)<=Z.cB-(fQ Z.ns Z.ns.length:Int):=by unfold kq;omega
 have hcb:=hC.cap
 refine aq.rX 0 rfl zc (λlK=>?_)
 refine jM [0,1,2,3,4,5,6,7,8,9,10,11,12,13,514,15,16,517] [4,0] (jG 14 [1,3,6,10,32,33,40,43] [(2,a_ 0 b1),(6,a_ 0 b1),(8,x_ k Z.ns.length (lK)),(10,v_ 1 (nA Z.ns Y.L Y.A Y.c k 7 hk rfl)),(13,xP (kq Z bs) ((kq Z bs)<=dC))] (fN.cut (ι:=(Option Addr)×Nat) (bU:=λ((A5,c6):(Option Addr)×Nat)=>[(1,vI ↑k),(3,vP b1),(6,vP b2),(10,vI ↑(kq Z bs)),(32,.slice Y.A (Z.ns.length) (Y.c)),(33,vI ↑k),(44,.slice A5 (((nd Z.ns k).data++bs.take (kq Z bs)).length) (c6))]) (dI:=λ((A5,c6):(Option Addr)×Nat)=>([gZ Y Z,gM Y Z,.abs (aH 5 1 A5 (((nd Z.ns k).data++bs.take (kq Z bs)).length) c6 (dR ((nd Z.ns k).data++bs.take (kq Z bs)))),.abs R]++qD b1 Z Y b2)) [4,0] KB ?_ rfl (λ_=>KB) ?_))
 ·exact Ri 2 51 dA (kq Z bs) dC (dR (bs.take (kq Z bs))) rfl ((bF.take hbs (kq Z bs)).src) (λA5 c6=>av.cL 2 rfl (Wo hml) (sl 44 (.slice A5 (((nd Z.ns k).data.length)+(kq Z bs)) (c6)) (.slice A5 (((nd Z.ns k).data++bs.take (kq Z bs)).length) (c6)) (by rw [R9 hml]) (NL (MD (A5,c6) [1,3,6,10,32,33,44] [0,1,2,3,4,5])))) (hl:=by rw [tu,hml,Nat.mul_one]) (h1:=pZ _)
 rintro⟨A5,c6⟩
 refine jG 2 [1,3,6,10,44,46] [(0,x_ k Z.ns.length (lK))] (fN.last KB (av.zA 0 (k*10+7) (d:=none) (T:=51) (e:=95) (size:=10) (n:=Z.ns.length) (cap:=Y.c) (A:=Y.A) (xs:=(bG Y.L Z.ns)) (u:=.slice A5 (((nd Z.ns k).data++bs.take (kq Z bs)).length) (c6)) (a:=(.tmp 46)) (y:=(.tmp 44)) (λ_=>KB) KB (λ_=>KB) (λ_=>KB) KB rfl zc (by rw [nW];omega) (NL (aB.np (NX (SR (jK 9 [53,55] [(2,a_ 4 b1),(6,A_ 4 b1 2),(7,x_ k Z.ns.length (lK))] (av.Dw 0 (k*10+5) (d:=none) (T:=26) (e:=95) (size:=10) (n:=Z.ns.length) (cap:=Y.c) (A:=Y.A) (xs:=((bG Y.L Z.ns).set (k*10+7) (.slice A5 (((nd Z.ns k).data++bs.take (kq Z bs)).length) (c6)))) (u:=.int .i64 (Z.cS)) (u2:=.int .i64 (Z.cZ)) (a:=(.tmp 55)) (y:=(.tmp 53)) (λ_=>KB) KB (λ_=>KB) (λ_=>KB) KB rfl rfl zc (by rw [ag8,nW];omega) (av.cL 0 rfl (acf hk rfl) (NS (jC 5 [7,8] [(0,A_ 4 b1 12),(2,A_ 5 b2 12)] [(5,(zC (rV Z Y)))] (NN (aq.ret (aB.cQ [0,1,2] [.abs (aH 95 10 Y.A ((FR Z k bs).ns.length) Y.c (bG (Y.L.dat k A5 c6) (FR Z k bs).ns)),gM Y Z,.abs (aH 5 1 A5 (((nd Z.ns k).data++bs.take (kq Z bs)).length) c6 (dR ((nd Z.ns k).data++bs.take (kq Z bs))))] (λES kA hL=>?_)))))))))))))))
 have fM:dz ES (FR Z k bs) ⟨Y.A,Y.c,(Y.L.dat k A5 c6),Y.G,Y.cg,Y.H,Y.ch,Y.V,Y.cv⟩:=(hI.set (R':=FR Z k bs) hk rfl rfl rfl).at Zm.symm (by show _=(nd (Z.ns.set k _) k).data;rw [qv hk,agW rfl]) hL
 replace aE:=aE.trans kA
 exact rB (.tuple #[.agg ⟨rV Z Y⟩,vI ↑(kq Z bs),vI 0]) [A_ 2 b2 12] [0] aE (⟨⟨Y.A,Y.c,(Y.L.dat k A5 c6),Y.G,Y.cg,Y.H,Y.ch,Y.V,Y.cv⟩,by grind [rV,Wr,FR,kq],rfl,by rw [Wr si sj];exact fM⟩)
theorem yq {β:Bs} (Z:RS) (Y:RL) (hI:lU β Z Y.L Y.H Y.V) (hC:RC Z) {n:Nat} (hD:RD n Z) (hn:n<=7) (d:Nat) (hd:d<Z.ns.length) (name:ByteArray) (x:aO) (hxd:x.data=[]) (L5:x.ah=[]) (Lx:x.target.size<=1048576) :
 cE Tryz.prog β 99 #[.agg ⟨rV Z Y⟩,vI (((d:Nat):Int)),.string name,.agg #[vI (x.id),vI (x.kind),vI (x.mode),vI (x.bg),vI (x.bh),vI (x.aU),vI (x.aI),.slice none (0) (0),.string x.target,.slice none (0) (0)]] [gZ Y Z,gM Y Z] (λβ' v l=>∃A' c' L',v=.tuple #[.agg ⟨rW ((bP Z d name x).1) A' c' Y.G Y.cg Y.H Y.ch Y.V Y.cv⟩,vI (bP Z d name x).2]/\l=[.abs (aH 95 10 A' ((bP Z d name x).1.ns.length) c' (bG L' (bP Z d name x).1.ns)),.abs (aH 3 1 Y.G ((bP Z d name x).1.aG.length) Y.cg (bH (bP Z d name x).1.aG))]/\lU β' (bP Z d name x).1 L' Y.H Y.V/\(((bP Z d name x).2=0/\L'.dA Z.ns.length=none/\L'.dC Z.ns.length=0)\/((bP Z d name x).2≠0/\A'=Y.A/\c'=Y.c/\L'=Y.L))):=by
 refine oI Tryz.func99 Tryz.ntmps99 (λaE R=>SR (jB 1 [4] (λb8=>.aD b8 (rV Z Y) 45) (λb8=>jB 1 [7] (λb9=>.aD b9 [vI (x.id),vI (x.kind),vI (x.mode),vI (x.bg),vI (x.bh),vI (x.aU),vI (x.aI),.slice none (0) (0),.string x.target,.slice none (0) (0)] 95) (λb9=>jB 2 [8] (λb10=>.aD b10 (rZ) 45) (λb10=>NN (aq.join (λ(u:Unit)=>(¬(x.kind=3/\kW x.target≠0))) (λ(u:Unit)=>[(1,vI ↑d),(2,.string name),(4,vP b8),(7,vP b9),(8,vP b10)]) (λ(u:Unit)=>[gZ Y Z,gM Y Z,.abs R,.aD b8 (rV Z Y) 45,.aD b9 [vI (x.id),vI (x.kind),vI (x.mode),vI (x.bg),vI (x.bh),vI (x.aU),vI (x.aI),.slice none (0) (0),.string x.target,.slice none (0) (0)] 95,.aD b10 (rZ) 45]) ?_ (SR (jK 3 [13] [(1,a_ 4 b9)] (NN (cP ((x.kind:Int)=(3:Int)) (λsi=>SR (jK 2 [15] [(1,a_ 4 b9)] (gE [] (Zi x.target Lx) (jK 1 [10] [] (NS (jK 2 [18] [] (NN (cN (((kW x.target):Int)=(0:Int)) (λpU=>SR (jC 4 [9] [(0,A_ 3 b8 12),(2,A_ 5 b10 12)] [(5,(zC (rV Z Y)))] (eO [A_ 5 b10 12] aE ⟨Y.A,Y.c,Y.L,by rw [JL si pU]<;>rfl,by rw [JL si pU],by rw [JL si pU];exact hI,.inr (by rw [JL si pU];exact⟨pU,rfl,rfl,rfl⟩)⟩))) (λpU=>aq.skip (mJ () [0,1,2,3,4,5] (λq=>q.2 zc))))))))))) (λsi=>aq.skip (mJ () [0,1,2,3,4,5] (λq=>si q.1)))))))))))))
 rintro u hb
 refine SQ (jK 3 [21,22,23] [(0,A_ 3 b8 12)] ?_)
 rcases kz Z.ns d name with hl|⟨k,hl,hk⟩
 ·refine gE [0,1] ((eP hI (λ_ _ h=>jH Z Y h hC d hd name)).val (agX (Value.int .i64) hl)) (jK 1 [25] [] (NF (KX (SQ (jK 1 [27] [(0,A_ 3 b8 12)] (gE [0,1] (eP hI (λ_ _ h=>Zh Z Y h hC.toRB)) (jK 1 [29] [] (NN (cN (vE Z) (λvL=>SR (jC 3 [9] [(0,A_ 3 b8 12),(1,A_ 5 b10 12)] [(5,(zC (rV Z Y)))] (eO [A_ 5 b10 12] aE ⟨Y.A,Y.c,Y.L,by rw [FT hb hl vL]<;>rfl,by rw [FT hb hl vL],by rw [FT hb hl vL];exact hI,.inr (by rw [FT hb hl vL];exact⟨(show (177:Int)≠0 by decide),rfl,rfl,rfl⟩)⟩))) (λvL=>KX (SR (jK 4 [31,32,33,34] [(0,A_ 3 b8 12),(3,A_ 4 b9 10)] (jx [0,1] (ace Z Y hI hD zc ⟨hC.cap.2.2.2.2.2.2.1,vL.2.1⟩ d hd name x hxd L5) ?_)))))))))))))
  rintro β1 _ _ cG ⟨A1,c1,L1,rfl,rfl,di,hnd⟩
  replace aE:=aE.trans cG
  exact jC 2 [9] [(0,A_ 5 b10 12)] [(5,(zC (rW (jV Z d name x) A1 c1 Y.G Y.cg Y.H Y.ch Y.V Y.cv)))] (eO [A_ 5 b10 12] aE ⟨A1,c1,L1,by rw [M9 hb hl vL]<;>rfl,by rw [M9 hb hl vL],by rw [M9 hb hl vL];exact di,.inl (by rw [M9 hb hl vL];exact⟨rfl,hnd⟩)⟩)
 exact gE [0,1] ((eP hI (λ_ _ h=>jH Z Y h hC d hd name)).val (agX (Value.int .i64) hl)) (jK 1 [25] [(0,wT (((k:Int):Int)>=(0:Int)))] (NT (SR (jC 3 [9] [(0,A_ 3 b8 12),(1,A_ 5 b10 12)] [(5,(zC (rV Z Y)))] (eO [A_ 5 b10 12] aE ⟨Y.A,Y.c,Y.L,by rw [M8 hb hl]<;>rfl,by rw [M8 hb hl],by rw [M8 hb hl];exact hI,.inr (by rw [M8 hb hl];exact⟨(show (171:Int)≠0 by decide),rfl,rfl,rfl⟩)⟩)))))
theorem BN {β:Bs} (Z:RS) (Y:RL) (hI:lU β Z Y.L Y.H Y.V) (hC:RC Z) {n:Nat} (hD:RD n Z) (hn:n<=7) (d:Nat) (hd:d<Z.ns.length) (name:ByteArray) (dir:Bool) :
 cE Tryz.prog β 100 #[.agg ⟨rV Z Y⟩,vI (((d:Nat):Int)),.string name,.bool dir] [gZ Y Z,gM Y Z] (λβ' v l=>∃Y',v=.tuple #[.agg ⟨rV ((iE Z d name dir).1) Y'⟩,vI (iE Z d name dir).2]/\l=[]/\dz β' (iE Z d name dir).1 Y'):=by
 refine oI Tryz.func100 Tryz.ntmps100 (λaE R=>SR (jB 1 [4] (λb11=>.aD b11 (rV Z Y) 45) (λb11=>jB 2 [8] (λb12=>.aD b12 (rZ) 45) (λb12=>NS (jK 3 [11,12,13] [(0,A_ 3 b11 12)] ?_)))))
 rcases kz Z.ns d name with hl|⟨k,hl,hk⟩
 ·refine gE [0,1] ((eP hI (λ_ _ h=>jH Z Y h hC d hd name)).val (agX (Value.int .i64) hl)) (jK 1 [10] [] (NZ (jK 2 [16] [] (NT (SR (jC 3 [9] [(0,A_ 3 b11 12),(1,A_ 4 b12 12)] [(4,(zC (rV Z Y)))] (NN (aq.ret (aB.bD (aB.cQ [0,1] [gZ Y Z,gM Y Z] (λCn ld hL=>?_)))))))))))
  have fM:dz Cn Z Y:=hI.at hL
  replace aE:=aE.trans ld
  exact rB _ [A_ 2 b12 12] [0] aE (⟨Y,by rw [aaY hl]<;>rfl,rfl,by rw [aaY hl];exact fM⟩)
 refine av.rX 0 rfl zc (λlK=>gE [0,1] ((eP hI (λ_ _ h=>jH Z Y h hC d hd name)).val (agX (Value.int .i64) hl)) (jK 1 [10] [] (NZ (jK 2 [16] [(1,wF (((k:Int):Int)<(0:Int)))] (NF (KX (aq.join (λ(u:Unit)=>(¬(dir=false/\(nd Z.ns k).kind=2))) (λ(u:Unit)=>([(1,vI ↑d),(2,.string name),(3,.bool dir)]++zU2 b11 b12++[(10,vI ↑k)])) (λ(u:Unit)=>([gZ Y Z,gM Y Z,.abs R]++qD b11 Z Y b12)) ?_ ?_)))))))
 ·rintro u n1
  refine aq.join (λ(u:Unit)=>(¬(dir=true/\(nd Z.ns k).kind≠2))) (λ(u:Unit)=>([(1,vI ↑d),(2,.string name),(3,.bool dir)]++zU2 b11 b12++[(10,vI ↑k)])) (λ(u:Unit)=>([gZ Y Z,gM Y Z,.abs R]++qD b11 Z Y b12)) ?_ ?_
  ·rintro u n2
   refine aq.join (λ(u:Unit)=>(¬(dir=true/\0<(nd Z.ns k).ah.length))) (λ(u:Unit)=>([(1,vI ↑d),(2,.string name)]++zU2 b11 b12)) (λ(u:Unit)=>([gZ Y Z,gM Y Z,.abs R]++qD b11 Z Y b12)) ?_ ?_
   ·rintro u n3
    refine SR (jK 3 [56,57,58] [(0,A_ 3 b11 12)] (jx [0,1] (BM Z Y hI hD zc d hd name true) ?_))
    rintro β1 _ _ cG ⟨L1,G1,g1,rfl,rfl,di⟩
    replace aE:=aE.trans cG
    refine av.cQ [0,1] [.abs (aH 95 10 Y.A ((cX Z d name true).ns.length) Y.c (bG L1 (cX Z d name true).ns)),.abs (aH 3 1 G1 ((cX Z d name true).aG.length) g1 (bH (cX Z d name true).aG))] (λnV fw hL=>?_)
    have uf:dz nV (cX Z d name true) ⟨Y.A,Y.c,L1,G1,g1,Y.H,Y.ch,Y.V,Y.cv⟩:=di.at hL
    replace aE:=aE.trans fw
    refine jx [] (yh (cX Z d name true) ⟨Y.A,Y.c,L1,G1,g1,Y.H,Y.ch,Y.V,Y.cv⟩ uf ((hD.R6 hd).rb zc)) ?_
    rintro yP _ _ iK ⟨Y3,rfl,rfl,mg⟩
    replace aE:=aE.trans iK
    exact jC 2 [9] [(0,A_ 2 b12 12)] [(2,(zC (rV (gh (cX Z d name true)) Y3)))] (eO [A_ 2 b12 12] aE ⟨Y3,by rw [adF hl n1 n2 n3]<;>rfl,rfl,by rw [adF hl n1 n2 n3];exact mg⟩)
   refine SR (jK 2 [44] [] (av.pJ 44 dir (λ_=>KB) (λyJ=>jK 10 [54] [(2,a_ 3 b11),(4,x_ k Z.ns.length (lK)),(6,v_ 0 (nA Z.ns Y.L Y.A Y.c k 9 hk rfl))] (NN (cP (((((nd Z.ns k).ah.length:Nat):Int):Int)>(0:Int)) (λET=>SR (jC 3 [9] [(0,A_ 3 b11 12),(1,A_ 4 b12 12)] [(4,(zC (rV Z Y)))] (NN (aq.ret (aB.bD (aB.cQ [0,1] [gZ Y Z,gM Y Z] (λHZ uF hL=>?_))))))) (λET=>aq.skip (mJ () [0,1,2,3,4] ((λq=>ET zc))))))) (λyJ=>jK 10 [54] [] (NF (aq.skip (mJ () [0,1,2,3,4] ((λq=>by rw [q.1] at yJ;cases yJ))))))))
   have fM:dz HZ Z Y:=hI.at hL
   replace aE:=aE.trans uF
   exact rB (.tuple #[.agg ⟨rV Z Y⟩,vI 178]) [A_ 2 b12 12] [0] aE (⟨Y,by grind [adE],rfl,by grind [adE]⟩)
  refine SR (jK 2 [32] [] (av.pJ 32 dir (λ_=>KB) (λr8=>jK 9 [41] [(2,a_ 3 b11),(4,x_ k Z.ns.length (lK)),(6,v_ 0 (nA Z.ns Y.L Y.A Y.c k 1 hk rfl))] (NN (cN (((nd Z.ns k).kind:Int)=(2:Int)) (λAB=>SR (jC 3 [9] [(0,A_ 3 b11 12),(1,A_ 4 b12 12)] [(4,(zC (rV Z Y)))] (NN (aq.ret (aB.bD (aB.cQ [0,1] [gZ Y Z,gM Y Z] (λEU qE hL=>?_))))))) (λAB=>aq.skip (mJ () [0,1,2,3,4] ((λq=>q.2 AB))))))) (λr8=>jK 9 [41] [] (NF (aq.skip (mJ () [0,1,2,3,4] ((λq=>by rw [q.1] at r8;cases r8))))))))
  have fM:dz EU Z Y:=hI.at hL
  replace aE:=aE.trans qE
  exact rB _ [A_ 2 b12 12] [0] aE (⟨Y,by rw [adD hl n1 ⟨r8,AB⟩]<;>rfl,rfl,by grind [adD]⟩)
 refine SR (jK 3 [20] [] (av.pJ 20 (!dir) (λ_=>KB) (λo5=>jK 9 [29] [(2,a_ 3 b11),(4,x_ k Z.ns.length (lK)),(6,v_ 0 (nA Z.ns Y.L Y.A Y.c k 1 hk rfl))] (NN (cP (((nd Z.ns k).kind:Int)=(2:Int)) (λCJ=>SR (jC 3 [9] [(0,A_ 3 b11 12),(1,A_ 4 b12 12)] [(4,(zC (rV Z Y)))] (NN (aq.ret (aB.bD (aB.cQ [0,1] [gZ Y Z,gM Y Z] (λT4 wE hL=>?_))))))) (λCJ=>aq.skip (mJ () [0,1,2,3,4] ((λq=>CJ q.2))))))) (λo5=>jK 9 [29] [] (NF (aq.skip (mJ () [0,1,2,3,4] ((λq=>by rw [q.1] at o5;cases o5))))))))
 have fM:dz T4 Z Y:=hI.at hL
 replace aE:=aE.trans wE
 exact rB (.tuple #[.agg ⟨rV Z Y⟩,vI 172]) [A_ 2 b12 12] [0] aE (⟨Y,by grind [adC],rfl,by grind [adC]⟩)
noncomputable abbrev zV1 (A1:Option Addr) (Z) (d:Nat) (c:aN) (x:aO) (c1:Nat) (L1):=(.abs (aH 95 10 A1 ((bP Z d c.name x).1.ns.length) c1 (bG L1 (bP Z d c.name x).1.ns)):HP)
noncomputable abbrev zV2 (Y:RL) (Z) (d:Nat) (c:aN) (x:aO):=(.abs (aH 3 1 Y.G ((bP Z d c.name x).1.aG.length) Y.cg (bH (bP Z d c.name x).1.aG)):HP)
noncomputable abbrev zV3 (f:Nat) (name) (to:Nat) (ay) (b1:Nat) (b2:Nat):=([(1,vI ↑f),(2,.string name),(3,vI ↑to),(4,.string ay),(5,vP b1),(10,vP b2)]:Fr)
noncomputable abbrev zV4 (Y:RL) (Z1) (f:Nat) (name) (to:Nat) (ay) (Z:RS) (k:Nat) (L3) (G2) (g2):=([.abs (aH 95 10 Y.A ((dh (cX Z1 f name false) to ay (nd Z.ns k).id).ns.length) Y.c (bG L3 (dh (cX Z1 f name false) to ay (nd Z.ns k).id).ns)),.abs (aH 3 1 G2 ((dh (cX Z1 f name false) to ay (nd Z.ns k).id).aG.length) g2 (bH (dh (cX Z1 f name false) to ay (nd Z.ns k).id).aG))]:List HP)
noncomputable abbrev zV5 (b1:Nat) (Z1:RS) (Y:RL) (G1) (g1) (b2:Nat) (L1):=([.aD b1 (rW Z1 Y.A Y.c G1 g1 Y.H Y.ch Y.V Y.cv) 45,.aD b2 (rZ) 45,.abs (aH 95 10 Y.A Z1.ns.length Y.c (bG L1 Z1.ns)),.abs (aH 3 1 G1 Z1.aG.length g1 (bH Z1.aG))]:List HP)
theorem L8 {β:Bs} (Z:RS) (Y:RL) (hI:lU β Z Y.L Y.H Y.V) (hC:RC Z) {n:Nat} (hD:RD n Z) (hn:n<=4) (f:Nat) (hf:f<Z.ns.length) (name:ByteArray) (to:Nat) (d6:to<Z.ns.length) (ay:ByteArray) :
 cE Tryz.prog β 87 #[.agg ⟨rV Z Y⟩,vI (((f:Nat):Int)),.string name,vI (((to:Nat):Int)),.string ay] [gZ Y Z,gM Y Z] (λβ' v l=>∃Y',v=.tuple #[.agg ⟨rV ((gY Z f name to ay).1) Y'⟩,vI (gY Z f name to ay).2]/\l=[]/\dz β' (gY Z f name to ay).1 Y'):=by
 refine oI Tryz.func87 Tryz.ntmps87 (λaE R=>SR (jB 1 [5] (λb1=>.aD b1 (rV Z Y) 45) (λb1=>jB 2 [10] (λb2=>.aD b2 (rZ) 45) (λb2=>NS (jK 3 [16,17,18] [(0,A_ 3 b1 12)] ?_)))))
 rcases kz Z.ns f name with hl|⟨k,hl,hk⟩
 ·refine gE [0,1] ((eP hI (λ_ _ h=>jH Z Y h hC f hf name)).val (agX (Value.int .i64) hl)) (jK 1 [12] [] (NZ (jK 2 [21] [] (NT (SR (jC 3 [11] [(0,A_ 3 b1 12),(1,A_ 4 b2 12)] [(4,(zC (rV Z Y)))] (NN (aq.ret (aB.bD (aB.cQ [0,1] [gZ Y Z,gM Y Z] (λyP iK hL=>?_)))))))))))
  have fM:dz yP Z Y:=hI.at hL
  replace aE:=aE.trans iK
  exact rB _ [A_ 2 b2 12] [0] aE (⟨Y,by rw [adM hl]<;>rfl,rfl,by rw [adM hl];exact fM⟩)
 refine av.rX 0 rfl zc (λlK=>gE [0,1] ((eP hI (λ_ _ h=>jH Z Y h hC f hf name)).val (agX (Value.int .i64) hl)) (jK 1 [12] [] (NZ (jK 2 [21] [(1,wF (((k:Int):Int)<(0:Int)))] (NF (KX (SR (jK 9 [13] [(2,a_ 3 b1),(4,x_ k Z.ns.length (lK)),(6,v_ 0 (nA Z.ns Y.L Y.A Y.c k 1 hk rfl))] (NN (aq.join (λ(u:Unit)=>(¬((nd Z.ns k).kind=2/\jE Z.ns k (Z.ns.length+1) to=true))) (λ(u:Unit)=>(zV3 f name to ay b1 b2++[(12,vI ↑k),(13,.bool (decide (((nd Z.ns k).kind:Int)=(2:Int))))])) (λ(u:Unit)=>[gZ Y Z,gM Y Z,.abs R,.aD b1 (rV Z Y) 45,.aD b2 (rZ) 45]) ?_ ?_))))))))))
 ·rintro u n1
  refine SR (jK 3 [39,40,41] [(0,A_ 3 b1 12)] ?_)
  rcases kz Z.ns to ay with hl2|⟨t,hl2,ht⟩
  ·refine gE [0,1] ((eP hI (λ_ _ h=>jH Z Y h hC to d6 ay)).val (agX (Value.int .i64) hl2)) (jK 1 [14] [] (NS (jK 8 [15] [(2,a_ 3 b1),(4,x_ k Z.ns.length (lK)),(6,v_ 0 (nA Z.ns Y.L Y.A Y.c k 0 hk rfl))] (NZ (jK 3 [52] [] (NN (cP (((-1):Int)=(((k:Nat):Int):Int)) (λyL=>agY yL (by omega)) (λyL=>KX (aq.aaW (ι:=Bs×RS×eV×(Option Addr)×Nat) (λ(b,Z1,L1,G1,g1)=>b) (λ(b,Z1,L1,G1,g1)=>(β.le b)/\(lU b Z1 L1 Y.H Y.V)/\(RD (n+1) Z1)/\(Z1.ns.length=Z.ns.length)/\((gY Z f name to ay)=(AJ Z f name to ay k Z1,0))) (λ(b,Z1,L1,G1,g1)=>(zV3 f name to ay b1 b2++[(15,vI ((nd Z.ns k).id))])) (λ(b,Z1,L1,G1,g1)=>(zV5 b1 Z1 Y G1 g1 b2 L1++[.abs R])) ?_ (SR (jK 2 [55] [] (NF (aq.skip (aB.aaX (β,Z,Y.L,Y.G,Y.cg) rfl (ar:=[1,2,3,4,5,10,15]) (pk:=[3,4,0,1,2]) (⟨aE,hI,(hD.up zc),rfl,afF hl n1 hl2⟩) (λ_=>KB) rfl KB))))))))))))))
   rintro⟨b,Z1,L1,G1,g1⟩ ⟨aE,di,Cx,hz1,WC⟩
   refine SR (jK 3 [71,72,73] [(0,A_ 0 b1 12)] (jx [2,3] (BM Z1 ⟨Y.A,Y.c,L1,G1,g1,Y.H,Y.ch,Y.V,Y.cv⟩ di Cx zc f zc name false) ?_))
   rintro nV _ _ fw ⟨L2,G2,g2,rfl,rfl,WD⟩
   replace aE:=aE.trans fw
   refine jC 1 [] [(0,A_ 2 b1 12)] [(2,(zC (rW (cX Z1 f name false) Y.A Y.c G2 g2 Y.H Y.ch Y.V Y.cv)))] (NS (jK 4 [75,76,77,78] [(0,A_ 2 b1 12)] (jx [0,1] (BL (cX Z1 f name false) ⟨Y.A,Y.c,L2,G2,g2,Y.H,Y.ch,Y.V,Y.cv⟩ WD ((Cx.R6 zc).rb zc) to (by rw [uY];omega) ay (nd Z.ns k).id) ?_)))
   rintro yP _ _ iK ⟨L3,rfl,rfl,WE⟩
   replace aE:=aE.trans iK
   refine jC 1 [] [(0,A_ 2 b1 12)] [(2,(zC (rW (dh (cX Z1 f name false) to ay (nd Z.ns k).id) Y.A Y.c G2 g2 Y.H Y.ch Y.V Y.cv)))] (NS (av.cQ [0,1] (zV4 Y Z1 f name to ay Z k L3 G2 g2) (λCK lX hL=>?_)))
   have mg:dz CK (dh (cX Z1 f name false) to ay (nd Z.ns k).id) ⟨Y.A,Y.c,L3,G2,g2,Y.H,Y.ch,Y.V,Y.cv⟩:=WE.at hL
   replace aE:=aE.trans lX
   refine jK 1 [80] [(0,A_ 0 b1 12)] (jx [] (yh (dh (cX Z1 f name false) to ay (nd Z.ns k).id) ⟨Y.A,Y.c,L3,G2,g2,Y.H,Y.ch,Y.V,Y.cv⟩ mg (((Cx.R6 zc).bS (by rw [uY];omega)).rb zc)) ?_)
   rintro JO _ _ j6 ⟨Y5,rfl,rfl,hR5⟩
   replace aE:=aE.trans j6
   exact jC 2 [11] [(0,A_ 1 b2 12)] [(1,(zC (rV (gh (dh (cX Z1 f name false) to ay (nd Z.ns k).id)) Y5)))] (eO [A_ 1 b2 12] aE ⟨Y5,by rw [WC]<;>rfl,rfl,by rw [WC];exact hR5⟩ [2])
  refine gE [0,1] ((eP hI (λ_ _ h=>jH Z Y h hC to d6 ay)).val (agX (Value.int .i64) hl2)) (jK 1 [14] [] (NS (jK 8 [15] [(2,a_ 3 b1),(4,x_ k Z.ns.length (lK)),(6,v_ 0 (nA Z.ns Y.L Y.A Y.c k 0 hk rfl))] (NZ (jK 3 [52] [] (NN (cP ((((t:Nat):Int):Int)=(((k:Nat):Int):Int)) (λyL=>?_) (λyL=>?_))))))))
  ·refine SR (jC 3 [11] [(0,A_ 3 b1 12),(1,A_ 4 b2 12)] [(4,(zC (rV Z Y)))] (NN (aq.ret (aB.bD (aB.cQ [0,1] [gZ Y Z,gM Y Z] (λCK lX hL=>?_))))))
   have fM:dz CK Z Y:=hI.at hL
   replace aE:=aE.trans lX
   exact rB (.tuple #[.agg ⟨rV Z Y⟩,vI 0]) [A_ 2 b2 12] [0] aE (⟨Y,by grind [adO],rfl,by grind [adO]⟩)
  refine KX (aq.aaW (ι:=Bs×RS×eV×(Option Addr)×Nat) (λ(b,Z1,L1,G1,g1)=>b) (λ(b,Z1,L1,G1,g1)=>(β.le b)/\(lU b Z1 L1 Y.H Y.V)/\(RD (n+1) Z1)/\(Z1.ns.length=Z.ns.length)/\((gY Z f name to ay)=(AJ Z f name to ay k Z1,0))) (λ(b,Z1,L1,G1,g1)=>(zV3 f name to ay b1 b2++[(15,vI ((nd Z.ns k).id))])) (λ(b,Z1,L1,G1,g1)=>(zV5 b1 Z1 Y G1 g1 b2 L1++[.abs R])) ?_ ?_)
  ·rintro⟨b,Z1,L1,G1,g1⟩ ⟨aE,di,Cx,hz1,WC⟩
   refine SR (jK 3 [71,72,73] [(0,A_ 0 b1 12)] (jx [2,3] (BM Z1 ⟨Y.A,Y.c,L1,G1,g1,Y.H,Y.ch,Y.V,Y.cv⟩ di Cx zc f zc name false) ?_))
   rintro nV _ _ fw ⟨L2,G2,g2,rfl,rfl,WD⟩
   replace aE:=aE.trans fw
   refine jC 1 [] [(0,A_ 2 b1 12)] [(2,(zC (rW (cX Z1 f name false) Y.A Y.c G2 g2 Y.H Y.ch Y.V Y.cv)))] (NS (jK 4 [75,76,77,78] [(0,A_ 2 b1 12)] (jx [0,1] (BL (cX Z1 f name false) ⟨Y.A,Y.c,L2,G2,g2,Y.H,Y.ch,Y.V,Y.cv⟩ WD ((Cx.R6 zc).rb zc) to (by rw [uY];omega) ay (nd Z.ns k).id) ?_)))
   rintro yP _ _ iK ⟨L3,rfl,rfl,WE⟩
   replace aE:=aE.trans iK
   refine jC 1 [] [(0,A_ 2 b1 12)] [(2,(zC (rW (dh (cX Z1 f name false) to ay (nd Z.ns k).id) Y.A Y.c G2 g2 Y.H Y.ch Y.V Y.cv)))] (NS (av.cQ [0,1] (zV4 Y Z1 f name to ay Z k L3 G2 g2) (λCK lX hL=>?_)))
   have mg:dz CK (dh (cX Z1 f name false) to ay (nd Z.ns k).id) ⟨Y.A,Y.c,L3,G2,g2,Y.H,Y.ch,Y.V,Y.cv⟩:=WE.at hL
   replace aE:=aE.trans lX
   refine jK 1 [80] [(0,A_ 0 b1 12)] (jx [] (yh (dh (cX Z1 f name false) to ay (nd Z.ns k).id) ⟨Y.A,Y.c,L3,G2,g2,Y.H,Y.ch,Y.V,Y.cv⟩ mg (((Cx.R6 zc).bS (by rw [uY];omega)).rb zc)) ?_)
   rintro JO _ _ j6 ⟨Y5,rfl,rfl,hR5⟩
   replace aE:=aE.trans j6
   exact jC 2 [11] [(0,A_ 1 b2 12)] [(1,(zC (rV (gh (dh (cX Z1 f name false) to ay (nd Z.ns k).id)) Y5)))] (eO [A_ 1 b2 12] aE ⟨Y5,by rw [WC]<;>rfl,rfl,by rw [WC];exact hR5⟩ [2])
  refine SR (jK 2 [55] [(1,wT (((t:Int):Int)>=(0:Int)))] (NT (SQ (jK 8 [63] [(2,a_ 3 b1),(4,x_ t Z.ns.length (lK)),(6,v_ 0 (nA Z.ns Y.L Y.A Y.c t 1 ht rfl))] (NN (cP (((nd Z.ns t).kind:Int)=(2:Int)) (λh63=>?_) (λh63=>?_)))))))
  ·refine SR (jC 3 [11] [(0,A_ 3 b1 12),(1,A_ 4 b2 12)] [(4,(zC (rV Z Y)))] (NN (aq.ret (aB.bD (aB.bD (aB.cQ [0,1] [gZ Y Z,gM Y Z] (λJO j6 hL=>?_)))))))
   have fM:dz JO Z Y:=hI.at hL
   replace aE:=aE.trans j6
   exact rB _ [A_ 2 b2 12] [0] aE (⟨Y,by rw [adP hl n1 hl2 yL h63]<;>rfl,rfl,by rw [adP hl n1 hl2 yL h63];exact fM⟩)
  refine KX (SQ (jK 1 [65] [] (NN (cP (((nd Z.ns k).kind:Int)=(2:Int)) (λh65=>?_) (λh65=>?_)))))
  ·refine SR (jC 3 [11] [(0,A_ 3 b1 12),(1,A_ 4 b2 12)] [(4,(zC (rV Z Y)))] (NN (aq.ret (aB.bD (aB.bD (aB.cQ [0,1] [gZ Y Z,gM Y Z] (λβ6 zB hL=>?_)))))))
   have fM:dz β6 Z Y:=hI.at hL
   replace aE:=aE.trans zB
   exact rB _ [A_ 2 b2 12] [0] aE (⟨Y,by rw [adQ hl n1 hl2 yL h63 h65]<;>rfl,rfl,by grind [adQ]⟩)
  refine KX (aq.region (jK 3 [67,68,69] [(0,A_ 3 b1 12)] (jx [0,1] (BM Z Y hI hD zc to d6 ay true) ?_)))
  rintro β1 _ _ cG ⟨L1,G1,g1,rfl,rfl,di⟩
  replace aE:=aE.trans cG
  exact jC 1 [] [(0,A_ 3 b1 12)] [(3,(zC (rW (cX Z to ay true) Y.A Y.c G1 g1 Y.H Y.ch Y.V Y.cv)))] (NL (aB.aaX (β1,(cX Z to ay true),L1,G1,g1) rfl (ar:=[1,2,3,4,5,10,15]) (pk:=[3,4,0,1,2]) (⟨aE,di,hD.R6 d6,uY,afG hl n1 hl2 yL h63 h65⟩) (λ_=>KB) rfl KB))
 refine SR (jK 2 [32] [] (sP 32 (((nd Z.ns k).kind:Int)=(2:Int)) (λr8=>jK 3 [33,34,35] [(0,A_ 3 b1 12)] (gE [0,1] (eP hI (λ_ _ h=>Wj Z Y h hC.toRB to k d6)) (jK 1 [37] [] (NN (aq.cond (b:=(jE Z.ns k (Z.ns.length+1) to)) (λ_=>KB) (λyK=>SR (jC 3 [11] [(0,A_ 3 b1 12),(1,A_ 4 b2 12)] [(4,(zC (rV Z Y)))] (NN (aq.ret (aB.bD (aB.cQ [0,1] [gZ Y Z,gM Y Z] (λES kA hL=>?_))))))) (λyK=>aq.skip (mJ () [0,1,2,3,4] ((λq=>by rw [q.2] at yK;cases yK))))))))) (λr8=>jK 5 [37] [] (NF (aq.skip (mJ () [0,1,2,3,4] ((λq=>r8 q.1))))))))
 have fM:dz ES Z Y:=hI.at hL
 replace aE:=aE.trans kA
 exact rB _ [A_ 2 b2 12] [0] aE (⟨Y,by rw [adN hl ⟨r8,yK⟩]<;>rfl,rfl,by rw [adN hl ⟨r8,yK⟩];exact fM⟩)
theorem L9 {β:Bs} (Z:RS) (Y:RL) (hI:lU β Z Y.L Y.H Y.V) (hC:RC Z) (c:aN) (hn:c.name.size<=1048576) (want:Int) :
 cE Tryz.prog β 78 #[.agg ⟨rV Z Y⟩,.agg ⟨aQ c⟩,vI (want)] [gZ Y Z,gM Y Z] (λβ' v l=>∃Y',v=.tuple #[.agg ⟨rV ((jh Z c want).1) Y'⟩,vI (jh Z c want).2.1,vI (jh Z c want).2.2]/\l=[]/\dz β' (jh Z c want).1 Y'):=by
 refine oI Tryz.func78 Tryz.ntmps78 (λaE R=>SR (jB 1 [3] (λb8=>.aD b8 (rV Z Y) 45) (λb8=>jB 1 [4] (λb9=>.aD b9 (aQ c) 53) (λb9=>jB 3 [6] (λb10=>.aD b10 (rZ) 45) (λb10=>NS (jK 5 [14,16,18] [(0,A_ 3 b8 12),(2,a_ 4 b9),(4,a_ 4 b9)] ?_))))))
 rcases rF hC c.aL c.name 64 with ⟨e,h1,EP⟩|⟨d,h1,hd⟩
 ·refine gE [0,1] ((eP hI (λ_ _ h=>oU Z Y h hC c.aL c.name hn 64)).val (agX exV h1)) (jK 5 [9,10] [] (NZ (jK 2 [23] [(1,Np ((e:Int)=(0:Int)) EP)] (NT (SR (jC 5 [7,8] [(0,A_ 3 b8 12),(2,A_ 5 b10 12)] [(5,(zC (rV Z Y)))] (NN (aq.ret (aB.bD (aB.cQ [0,1] [gZ Y Z,gM Y Z] (λH6 pz hL=>?_)))))))))))
  have fM:dz H6 Z Y:=hI.at hL
  replace aE:=aE.trans pz
  exact rB _ [A_ 3 b10 12] [0] aE (⟨Y,by rw [adG h1]<;>rfl,rfl,by rw [adG h1];exact fM⟩)
 refine gE [0,1] ((eP hI (λ_ _ h=>oU Z Y h hC c.aL c.name hn 64)).val (agX exV h1)) (jK 5 [9,10] [] (NZ (jK 2 [23] [(1,w_ (.bool false) rfl)] (NF (KX (SR (jK 4 [26,27,29] [(0,A_ 3 b8 12),(3,a_ 4 b9)] ?_)))))))
 rcases kz Z.ns d c.name with hl|⟨k,hl,hk⟩
 ·refine gE [0,1] ((eP hI (λ_ _ h=>jH Z Y h hC d hd c.name)).val (agX (Value.int .i64) hl)) (jK 1 [11] [] (NZ (jK 2 [32] [] (NT (SR (jC 4 [7,8] [(0,A_ 3 b8 12),(1,A_ 5 b10 12)] [(5,(zC (rV Z Y)))] (NN (aq.ret (aB.bD (aB.cQ [0,1] [gZ Y Z,gM Y Z] (λEV kF hL=>?_)))))))))))
  have fM:dz EV Z Y:=hI.at hL
  replace aE:=aE.trans kF
  exact rB _ [A_ 3 b10 12] [0] aE (⟨Y,by rw [adH h1 hl]<;>rfl,rfl,by rw [adH h1 hl];exact fM⟩)
 refine av.rX 0 rfl zc (λlK=>gE [0,1] ((eP hI (λ_ _ h=>jH Z Y h hC d hd c.name)).val (agX (Value.int .i64) hl)) (jK 1 [11] [] (NZ (jK 2 [32] [(1,wF (((k:Int):Int)<(0:Int)))] (NF (KX (SR (jK 8 [12] [(2,a_ 3 b8),(4,x_ k Z.ns.length (lK)),(6,v_ 0 (nA Z.ns Y.L Y.A Y.c k 1 hk rfl))] (NZ (jK 2 [42] [] (NN (cP (((nd Z.ns k).kind:Int)=(3:Int)) (λkQ=>?_) (λkQ=>?_)))))))))))))
 ·refine SR (jC 4 [7,8] [(0,A_ 3 b8 12),(1,A_ 5 b10 12)] [(5,(zC (rV Z Y)))] (NN (aq.ret (aB.bD (aB.cQ [0,1] [gZ Y Z,gM Y Z] (λCn ld hL=>?_))))))
  have fM:dz Cn Z Y:=hI.at hL
  replace aE:=aE.trans ld
  exact rB _ [A_ 3 b10 12] [0] aE (⟨Y,by rw [adI h1 hl kQ]<;>rfl,rfl,by rw [adI h1 hl kQ];exact fM⟩)
 refine KX (SQ (jK 3 [46] [] (NN (cN (((nd Z.ns k).kind:Int)=(want:Int)) (λh46=>?_) (λh46=>?_)))))
 ·refine SQ (jK 2 [48] [] (NN (cP (((nd Z.ns k).kind:Int)=(1:Int)) (λh48=>?_) (λh48=>?_))))
  ·refine SR (jC 4 [7,8] [(0,A_ 3 b8 12),(1,A_ 5 b10 12)] [(5,(zC (rV Z Y)))] (NN (aq.ret (aB.bD (aB.bD (aB.cQ [0,1] [gZ Y Z,gM Y Z] (λHZ uF hL=>?_)))))))
   have fM:dz HZ Z Y:=hI.at hL
   replace aE:=aE.trans uF
   exact rB _ [A_ 3 b10 12] [0] aE (⟨Y,by rw [adJ h1 hl kQ h46 h48]<;>rfl,rfl,by rw [adJ h1 hl kQ h46 h48];exact fM⟩)
  refine KX (SR (jC 4 [7,8] [(0,A_ 3 b8 12),(1,A_ 5 b10 12)] [(5,(zC (rV Z Y)))] (NN (aq.ret (aB.bD (aB.cQ [0,1] [gZ Y Z,gM Y Z] (λEU qE hL=>?_)))))))
  have fM:dz EU Z Y:=hI.at hL
  replace aE:=aE.trans qE
  exact rB _ [A_ 3 b10 12] [0] aE (⟨Y,by rw [adK h1 hl kQ h46 h48]<;>rfl,rfl,by rw [adK h1 hl kQ h46 h48];exact fM⟩)
 refine KX (SR (jK 2 [51,52] [(0,A_ 3 b8 12)] (av.cQ [0,1] [gZ Y Z,gM Y Z] (λβ1 cG hL=>?_))))
 have uf:dz β1 Z Y:=hI.at hL
 replace aE:=aE.trans cG
 refine jx [] (HM Z Y uf hC.ru k hk) ?_
 rintro nV _ _ fw ⟨Y3,rfl,rfl,mg⟩
 replace aE:=aE.trans fw
 exact jC 6 [7,8] [(3,A_ 3 b10 12)] [(3,(zC (rV ((kV Z k).1) Y3)))] (eO [A_ 3 b10 12] aE ⟨Y3,by rw [adL h1 hl kQ h46]<;>rfl,rfl,by rw [adL h1 hl kQ h46];exact mg⟩)
theorem T5 {β:Bs} (Z:RS) (Y:RL) (hI:lU β Z Y.L Y.H Y.V) (hC:RC Z) {n:Nat} (hD:RD n Z) (hn:n<=7) (c:aN) (yt:c.text.size<=1048576) (d:Nat) (hd:d<Z.ns.length) :
 cE Tryz.prog β 79 #[.agg ⟨rV Z Y⟩,.agg ⟨aQ c⟩,vI (((d:Nat):Int))] [gZ Y Z,gM Y Z] (λβ' v l=>∃Y',v=.tuple #[.agg ⟨rV ((iF Z c d).1) Y'⟩,vI (iF Z c d).2.1,vI (iF Z c d).2.2]/\l=[]/\dz β' (iF Z c d).1 Y'):=by
 refine oI Tryz.func79 Tryz.ntmps79 (λaE R=>SR (jB 1 [3] (λb16=>.aD b16 (rV Z Y) 45) (λb16=>jB 1 [4] (λb17=>.aD b17 (aQ c) 53) (λb17=>jB 3 [6] (λb18=>.aD b18 (rZ) 45) (λb18=>NN (aq.seq (aq.seq ?_)))))))
 by_cases n8:c.op=8\/c.op=14
 ·refine aq.region (jK 4 [17] [(1,a_ 4 b17),(2,w_ (.bool (decide ((c.op:Int)=(8:Int)))) rfl)] (sP 17 ((c.op:Int)=(8:Int)) (λEj=>?_) (λEj=>?_)))
  ·refine jK 4 [21] [] (NT (SR (jK 7 [23,24,26,29] [(0,A_ 3 b16 12),(3,a_ 4 b17),(5,a_ 4 b17)] (jx [0,1] (BN Z Y hI hC hD zc d hd c.name (decide (c.op=14))) ?_))))
   rintro β1 _ _ cG ⟨Y3,rfl,rfl,mg⟩
   replace aE:=aE.trans cG
   exact jN 6 [9,10] (λb19=>[(4,A_ 4 b19 12)]) (λ_=>[]) (λb19=>.aD b19 (rV ((iE Z d c.name (decide (c.op=14))).1) Y3) 45) (λb19=>NS (jC 5 [7,8] [(0,A_ 4 b19 12),(2,A_ 3 b18 12)] [(3,(zC (rV ((iE Z d c.name (decide (c.op=14))).1) Y3)))] (eO [A_ 3 b18 12] aE ⟨Y3,by rw [T3 n8]<;>rfl,rfl,by rw [T3 n8];exact mg⟩)))
  refine jK 4 [21] [(1,a_ 4 b17),(2,w_ (.bool (decide ((c.op:Int)=(14:Int)))) rfl)] (NN (cP ((c.op:Int)=(14:Int)) (λsy=>SR (jK 7 [23,24,26,29] [(0,A_ 3 b16 12),(3,a_ 4 b17),(5,a_ 4 b17)] (jx [0,1] (BN Z Y hI hC hD zc d hd c.name (decide (c.op=14))) ?_))) (λsy=>agY n8 (by omega))))
  rintro β1 _ _ cG ⟨Y3,rfl,rfl,mg⟩
  replace aE:=aE.trans cG
  exact jN 6 [9,10] (λb20=>[(4,A_ 4 b20 12)]) (λ_=>[]) (λb20=>.aD b20 (rV ((iE Z d c.name (decide (c.op=14))).1) Y3) 45) (λb20=>NS (jC 5 [7,8] [(0,A_ 4 b20 12),(2,A_ 3 b18 12)] [(3,(zC (rV ((iE Z d c.name (decide (c.op=14))).1) Y3)))] (eO [A_ 3 b18 12] aE ⟨Y3,by rw [T3 n8]<;>rfl,rfl,by rw [T3 n8];exact mg⟩)))
 refine aq.region (jK 8 [21] [(1,a_ 4 b17),(2,wF ((c.op:Int)=(8:Int))),(5,a_ 4 b17),(6,wF ((c.op:Int)=(14:Int)))] (NF (KX (SR (jN 5 [11] (λyu=>[(1,a_ 4 b17),(4,A_ 6 yu 10)]) (λ_=>[]) (λyu=>.aD yu [vI 0,vI 3,vI 511,vI 0,vI 0,vI 0,vI 0,.slice none (0) (0),.string c.text,.slice none (0) (0)] 95) (λyu=>NN (aq.join (λ(x:aO)=>(x.data=[]/\x.ah=[]/\x.target.size<=1048576)/\((iF Z c d)=HX Z c d x)) (λ(x:aO)=>[(2,vI ↑d),(3,vP b16),(4,vP b17),(6,vP b18),(11,vP yu)]) (λ(x:aO)=>[.aD b16 (rV Z Y) 45,pC b17 c,.aD b18 (rZ) 45,.aD yu [vI (x.id),vI (x.kind),vI (x.mode),vI (x.bg),vI (x.bh),vI (x.aU),vI (x.aI),.slice none (0) (0),.string x.target,.slice none (0) (0)] 95,gZ Y Z,gM Y Z,.abs R]) ?_ ?_)))))))
 ·rintro x ⟨hx,hch⟩
  refine SR (jK 5 [54,55,57,58] [(0,A_ 0 b16 12),(3,a_ 1 b17),(4,A_ 3 yu 10)] (jx [4,5] (yq Z Y hI hC hD zc d hd c.name x hx.1 hx.2.1 hx.2.2) ?_))
  rintro β1 _ _ cG ⟨A1,c1,L1,rfl,rfl,di,_⟩
  replace aE:=aE.trans cG
  refine jN 6 [12,13] (λlI=>[(4,A_ 7 lI 12)]) (λ_=>[]) (λlI=>.aD lI (rW ((bP Z d c.name x).1) A1 c1 Y.G Y.cg Y.H Y.ch Y.V Y.cv) 45) (λlI=>NN (aq.seq (aq.seq ?_)))
  by_cases iP:(bP Z d c.name x).2=0/\c.op=5
  ·obtain⟨hm0,hm5⟩:=iP
   have hml:=Wx hm0
   have hbz:=hD.ns
   refine aq.region (jK 7 [68] [(1,wNT (((bP Z d c.name x).2:Int)=(0:Int)) hm0),(4,a_ 3 b17),(5,wNT ((c.op:Int)=(5:Int)) hm5)] (NF (KX (SR (jK 6 [71,76] [(0,A_ 7 lI 12),(3,a_ 7 lI),(5,wJ ((((bP Z d c.name x).1.ns.length:Nat):Int)-1) (↑((bP Z d c.name x).1.ns.length-1)))] (av.cQ [0,1] [zV1 A1 Z d c x c1 L1,zV2 Y Z d c x] (λnV fw hL=>?_)))))))
   have uf:dz nV (bP Z d c.name x).1 ⟨A1,c1,L1,Y.G,Y.cg,Y.H,Y.ch,Y.V,Y.cv⟩:=di.at hL
   replace aE:=aE.trans fw
   refine jx [] (HM (bP Z d c.name x).1 ⟨A1,c1,L1,Y.G,Y.cg,Y.H,Y.ch,Y.V,Y.cv⟩ uf (hC.ru.same ae1) ((bP Z d c.name x).1.ns.length-1) (by have:=Wx hm0;omega)) ?_
   rintro yP _ _ iK ⟨Y3,rfl,rfl,mg⟩
   replace aE:=aE.trans iK
   exact jC 6 [7,8] [(3,A_ 2 b18 12)] [(2,(zC (rV ((kV (bP Z d c.name x).1 ((bP Z d c.name x).1.ns.length-1)).1) Y3)))] (eO [A_ 2 b18 12] aE ⟨Y3,by rw [hch,Sb hm0 hm5]<;>rfl,rfl,by rw [hch,Sb hm0 hm5];exact mg⟩ [4])
  refine aq.region (jK 3 [64] [(1,w_ (.bool (!(decide (((bP Z d c.name x).2:Int)=(0:Int))))) rfl)] (sN 64 (((bP Z d c.name x).2:Int)=(0:Int)) (λWH=>?_) (λWH=>?_)))
  ·refine jK 4 [68] [] (NT (SR (jC 5 [7,8] [(0,A_ 7 lI 12),(2,A_ 4 b18 12)] [(4,(zC (rW ((bP Z d c.name x).1) A1 c1 Y.G Y.cg Y.H Y.ch Y.V Y.cv)))] (NN (aq.ret (aB.bD (aB.cQ [0,1] [zV1 A1 Z d c x c1 L1,zV2 Y Z d c x] (λafK Zr hL=>?_))))))))
   have fM:dz afK (bP Z d c.name x).1 ⟨A1,c1,L1,Y.G,Y.cg,Y.H,Y.ch,Y.V,Y.cv⟩:=di.at hL
   replace aE:=aE.trans Zr
   exact rB _ [A_ 2 b18 12] [4] aE (⟨⟨A1,c1,L1,Y.G,Y.cg,Y.H,Y.ch,Y.V,Y.cv⟩,by rw [hch,JM iP]<;>rfl,rfl,by rw [hch,JM iP];exact fM⟩)
  refine jK 4 [68] [(1,a_ 3 b17),(2,w_ (.bool (!(decide ((c.op:Int)=(5:Int))))) rfl)] (NN (cN ((c.op:Int)=(5:Int)) (λh68=>SR (jC 5 [7,8] [(0,A_ 7 lI 12),(2,A_ 4 b18 12)] [(4,(zC (rW ((bP Z d c.name x).1) A1 c1 Y.G Y.cg Y.H Y.ch Y.V Y.cv)))] (NN (aq.ret (aB.bD (aB.cQ [0,1] [zV1 A1 Z d c x c1 L1,zV2 Y Z d c x] (λT6 sY hL=>?_))))))) (λh68=>agY ⟨zc,zc⟩ iP)))
  have fM:dz T6 (bP Z d c.name x).1 ⟨A1,c1,L1,Y.G,Y.cg,Y.H,Y.ch,Y.V,Y.cv⟩:=di.at hL
  replace aE:=aE.trans sY
  exact rB _ [A_ 2 b18 12] [4] aE (⟨⟨A1,c1,L1,Y.G,Y.cg,Y.H,Y.ch,Y.V,Y.cv⟩,by rw [hch,JM iP]<;>rfl,rfl,by rw [hch,JM iP];exact fM⟩)
 refine SR (jK 3 [40] [(1,a_ 4 b17)] (NN (cN ((c.op:Int)=(6:Int)) (λtZ=>SQ (jK 2 [42] [(1,a_ 4 b17)] (gE [] (O7 c.mode) (jK 1 [44] [] (NN (cN (jS c.mode) (λyJ=>SR (jC 4 [7,8] [(0,A_ 3 b16 12),(1,A_ 5 b18 12)] [(5,(zC (rV Z Y)))] (NN (aq.ret (aB.bD (aB.bD (aB.cQ [0,1] [gZ Y Z,gM Y Z] (λadW H7 hL=>?_)))))))) (λyJ=>KX (SR (jC 4 [] [(1,a_ 4 b17),(3,A_ 6 yu 10)] [(6,[(1,vI 2),(2,vI (c.mode)),(8,.string ⟨#[]⟩)])] (NS (jK 3 [51] [(1,a_ 4 b17)] (NN (cP ((c.op:Int)=(5:Int)) (λxG=>aq.region (jC 2 [] [(1,a_ 6 yu)] [(6,[(1,vI 1)])] (NL (mJ ((⟨0,1,c.mode,0,0,0,0,[],⟨#[]⟩,[]⟩:aO)) [3,4,5,6,0,1,2] (⟨⟨rfl,rfl,ag0 _⟩,afI n8 tZ yJ zc⟩))))) (λxG=>aq.skip (mJ ((⟨0,2,c.mode,0,0,0,0,[],⟨#[]⟩,[]⟩:aO)) [3,4,5,6,0,1,2] (⟨⟨rfl,rfl,ag0 _⟩,afJ n8 tZ yJ xG⟩)))))))))))))))) (λtZ=>aq.skip (mJ ((⟨0,3,511,0,0,0,0,[],c.text,[]⟩:aO)) [3,4,5,6,0,1,2] (⟨⟨rfl,rfl,yt⟩,afH n8 zc⟩))))))
 have fM:dz adW Z Y:=hI.at hL
 replace aE:=aE.trans H7
 exact rB _ [A_ 3 b18 12] [0] aE (⟨Y,by rw [adR n8 tZ yJ]<;>rfl,rfl,by rw [adR n8 tZ yJ];exact fM⟩)
theorem Zs {β:Bs} (Z:RS) (Y:RL) (hI:lU β Z Y.L Y.H Y.V) (hC:RC Z) (c:aN) :
 cE Tryz.prog β 84 #[.agg ⟨rV Z Y⟩,.agg ⟨aQ c⟩] [gZ Y Z,gM Y Z] (λβ' v l=>∃Y',v=.tuple #[.agg ⟨rV ((mo Z c).1) Y'⟩,vI (mo Z c).2.1,vI (mo Z c).2.2]/\l=[]/\dz β' (mo Z c).1 Y'):=by
 refine oI Tryz.func84 Tryz.ntmps84 (λaE R=>SR (jB 1 [2] (λpV=>.aD pV (rV Z Y) 45) (λpV=>jB 1 [3] (λug=>.aD ug (aQ c) 53) (λug=>jB 3 [4] (λjc=>.aD jc (rZ) 45) (λjc=>NS (jK 3 [10,12] [(0,A_ 3 pV 12),(2,a_ 4 ug)] ?_))))))
 rcases tI hC c.aL with hh|⟨k,hh,hk⟩
 ·refine gE [0,1] ((eP hI (λ_ _ h=>sX Z Y h hC c.aL)).val (agX exV hh)) (jK 5 [7,8] [] (NZ (jK 2 [17] [] (NT (SR (jC 5 [5,6] [(0,A_ 3 pV 12),(2,A_ 5 jc 12)] [(5,(zC (rV Z Y)))] (NN (aq.ret (aB.bD (aB.cQ [0,1] [gZ Y Z,gM Y Z] (λafL Zt hL=>?_)))))))))))
  have fM:dz afL Z Y:=hI.at hL
  replace aE:=aE.trans Zt
  exact rB _ [A_ 3 jc 12] [0] aE (⟨Y,by rw [Ws hh]<;>rfl,rfl,by rw [Ws hh];exact fM⟩)
 refine av.rX 0 rfl zc (λlK=>gE [0,1] ((eP hI (λ_ _ h=>sX Z Y h hC c.aL)).val (agX exV hh)) (jK 5 [7,8] [] (NZ (jK 2 [17] [] (NF (KX (aq.join (λ(u:Unit)=>(¬((nd Z.ns k).kind=2/\(nd Z.ns k).id∈Z.aG))) (λ(u:Unit)=>[(2,vP pV),(3,vP ug),(4,vP jc),(7,vI ↑k)]) (λ(u:Unit)=>[gZ Y Z,gM Y Z,.abs R,.aD pV (rV Z Y) 45,pC ug c,.aD jc (rZ) 45]) ?_ ?_)))))))
 ·rintro u n1
  refine SQ (jK 2 [41] [(1,a_ 4 ug)] (gE [] (O7 c.mode) (jK 1 [43] [] (NN (cN (jS c.mode) (λkQ=>?_) (λkQ=>?_))))))
  ·refine SR (jC 4 [5,6] [(0,A_ 3 pV 12),(1,A_ 5 jc 12)] [(5,(zC (rV Z Y)))] (NN (aq.ret (aB.bD (aB.cQ [0,1] [gZ Y Z,gM Y Z] (λafM Zu hL=>?_))))))
   have fM:dz afM Z Y:=hI.at hL
   replace aE:=aE.trans Zu
   exact rB _ [A_ 3 jc 12] [0] aE (⟨Y,by rw [Wu hh n1 kQ]<;>rfl,rfl,by rw [Wu hh n1 kQ];exact fM⟩)
  refine KX (aq.seq (aq.seq ?_))
  by_cases kB:qm c.bg/\qm c.bh
  ·have hw1:=kB.1.1
   have hw2:=kB.1.2
   have hw3:=kB.2.1
   have hw4:=kB.2.2
   refine aq.region (jK 18 [62] [(1,a_ 4 ug),(2,wF ((c.bg:Int)<(0:Int))),(5,a_ 4 ug),(6,wF ((c.bg:Int)>(2147483647:Int))),(10,a_ 4 ug),(11,wF ((c.bh:Int)<(0:Int))),(15,a_ 4 ug),(16,wF ((c.bh:Int)>(2147483647:Int)))] (NF (KX (SQ (jK 2 [65] [(1,A_ 4 ug 2)] (gE [] (Cj c.aU c.aI) (jK 1 [67] [] (NN (cN (fZ c.aU c.aI) (λIV=>?_) (λIV=>?_))))))))))
   ·refine SR (jC 4 [5,6] [(0,A_ 3 pV 12),(1,A_ 5 jc 12)] [(5,(zC (rV Z Y)))] (NN (aq.ret (aB.bD (aB.cQ [0,1] [gZ Y Z,gM Y Z] (λT7 H8 hL=>?_))))))
    have fM:dz T7 Z Y:=hI.at hL
    replace aE:=aE.trans H8
    exact rB _ [A_ 3 jc 12] [0] aE (⟨Y,by rw [Wv hh n1 kQ kB IV]<;>rfl,rfl,by grind [Wv]⟩)
   refine KX (SR (jK 8 [74,76] [(2,a_ 3 pV),(5,a_ 4 ug),(6,x_ k Z.ns.length (lK))] (av.zA 0 (k*10+2) (d:=none) (T:=3) (e:=95) (size:=10) (n:=Z.ns.length) (cap:=Y.c) (A:=Y.A) (xs:=(bG Y.L Z.ns)) (u:=.int .i64 (c.mode)) (a:=(.tmp 76)) (y:=(.tmp 74)) (λ_=>KB) KB (λ_=>KB) (λ_=>KB) KB rfl zc (by rw [nW];omega) (NS (jK 8 [82,84] [(2,a_ 3 pV),(5,a_ 4 ug),(6,x_ k Z.ns.length (lK))] (av.zA 0 (k*10+3) (d:=none) (T:=3) (e:=95) (size:=10) (n:=Z.ns.length) (cap:=Y.c) (A:=Y.A) (xs:=((bG Y.L Z.ns).set (k*10+2) (.int .i64 (c.mode)))) (u:=.int .i64 (c.bg)) (a:=(.tmp 84)) (y:=(.tmp 82)) (λ_=>KB) KB (λ_=>KB) (λ_=>KB) KB rfl zc (by rw [ag8,nW];omega) (NS (jK 8 [90,92] [(2,a_ 3 pV),(5,a_ 4 ug),(6,x_ k Z.ns.length (lK))] (av.zA 0 (k*10+4) (d:=none) (T:=3) (e:=95) (size:=10) (n:=Z.ns.length) (cap:=Y.c) (A:=Y.A) (xs:=(((bG Y.L Z.ns).set (k*10+2) (.int .i64 (c.mode))).set (k*10+3) (.int .i64 (c.bg)))) (u:=.int .i64 (c.bh)) (a:=(.tmp 92)) (y:=(.tmp 90)) (λ_=>KB) KB (λ_=>KB) (λ_=>KB) KB rfl zc (by rw [ag8,ag8,nW];omega) (NS (jK 8 [98,100] [(2,a_ 3 pV),(5,A_ 4 ug 2),(6,x_ k Z.ns.length (lK))] (av.Dw 0 (k*10+5) (d:=none) (T:=26) (e:=95) (size:=10) (n:=Z.ns.length) (cap:=Y.c) (A:=Y.A) (xs:=((((bG Y.L Z.ns).set (k*10+2) (.int .i64 (c.mode))).set (k*10+3) (.int .i64 (c.bg))).set (k*10+4) (.int .i64 (c.bh)))) (u:=.int .i64 (c.aU)) (u2:=.int .i64 (c.aI)) (a:=(.tmp 100)) (y:=(.tmp 98)) (λ_=>KB) KB (λ_=>KB) (λ_=>KB) KB rfl rfl zc (by rw [ag8,ag8,ag8,nW];omega) (av.cL 0 rfl (Zn hk) (NS (jC 4 [5,6] [(0,A_ 3 pV 12),(1,A_ 5 jc 12)] [(5,(zC (rV Z Y)))] (NN (aq.ret (aB.cQ [0,1] [.abs (aH 95 10 Y.A ((zh Z k c).ns.length) Y.c (bG Y.L (zh Z k c).ns)),gM Y Z] (λafN Zv hL=>?_)))))))))))))))))))
   have fM:dz afN (zh Z k c) Y:=(hI.meta hk).at hL
   replace aE:=aE.trans Zv
   exact rB (.tuple #[.agg ⟨rV Z Y⟩,vI 0,vI 0]) [A_ 3 jc 12] [0] aE (⟨Y,by simp only [rV];rw [Ww hh n1 kQ kB IV];show _=_;rw [HV]<;>rfl,rfl,by grind [Ww]⟩)
  refine aq.region (jK 4 [48] [(1,a_ 4 ug),(2,w_ (.bool (decide ((c.bg:Int)<(0:Int)))) rfl)] (sP 48 ((c.bg:Int)<(0:Int)) (λh48=>?_) (λh48=>?_)))
  ·refine jK 14 [62] [] (NT (SR (jC 4 [5,6] [(0,A_ 3 pV 12),(1,A_ 5 jc 12)] [(5,(zC (rV Z Y)))] (NN (aq.ret (aB.bD (aB.cQ [0,1] [gZ Y Z,gM Y Z] (λadX H9 hL=>?_))))))))
   have fM:dz adX Z Y:=hI.at hL
   replace aE:=aE.trans H9
   exact rB _ [A_ 3 jc 12] [0] aE (⟨Y,by rw [yj hh n1 kQ kB]<;>rfl,rfl,by rw [yj hh n1 kQ kB];exact fM⟩)
  refine jK 5 [53] [(1,a_ 4 ug),(2,w_ (.bool (decide ((c.bg:Int)>(2147483647:Int)))) rfl)] (sP 53 ((c.bg:Int)>(2147483647:Int)) (λLl=>?_) (λLl=>?_))
  ·refine jK 9 [62] [] (NT (SR (jC 4 [5,6] [(0,A_ 3 pV 12),(1,A_ 5 jc 12)] [(5,(zC (rV Z Y)))] (NN (aq.ret (aB.bD (aB.cQ [0,1] [gZ Y Z,gM Y Z] (λafO Zw hL=>?_))))))))
   have fM:dz afO Z Y:=hI.at hL
   replace aE:=aE.trans Zw
   exact rB _ [A_ 3 jc 12] [0] aE (⟨Y,by rw [yj hh n1 kQ kB]<;>rfl,rfl,by rw [yj hh n1 kQ kB];exact fM⟩)
  refine jK 5 [58] [(1,a_ 4 ug),(2,w_ (.bool (decide ((c.bh:Int)<(0:Int)))) rfl)] (sP 58 ((c.bh:Int)<(0:Int)) (λMa=>?_) (λMa=>?_))
  ·refine jK 4 [62] [] (NT (SR (jC 4 [5,6] [(0,A_ 3 pV 12),(1,A_ 5 jc 12)] [(5,(zC (rV Z Y)))] (NN (aq.ret (aB.bD (aB.cQ [0,1] [gZ Y Z,gM Y Z] (λafP Zx hL=>?_))))))))
   have fM:dz afP Z Y:=hI.at hL
   replace aE:=aE.trans Zx
   exact rB _ [A_ 3 jc 12] [0] aE (⟨Y,by rw [yj hh n1 kQ kB]<;>rfl,rfl,by rw [yj hh n1 kQ kB];exact fM⟩)
  refine jK 4 [62] [(1,a_ 4 ug),(2,w_ (.bool (decide ((c.bh:Int)>(2147483647:Int)))) rfl)] (NN (cP ((c.bh:Int)>(2147483647:Int)) (λGh=>SR (jC 4 [5,6] [(0,A_ 3 pV 12),(1,A_ 5 jc 12)] [(5,(zC (rV Z Y)))] (NN (aq.ret (aB.bD (aB.cQ [0,1] [gZ Y Z,gM Y Z] (λafQ Zy hL=>?_))))))) (λGh=>agY ⟨⟨zc,zc⟩,⟨zc,zc⟩⟩ kB)))
  have fM:dz afQ Z Y:=hI.at hL
  replace aE:=aE.trans Zy
  exact rB _ [A_ 3 jc 12] [0] aE (⟨Y,by rw [yj hh n1 kQ kB]<;>rfl,rfl,by rw [yj hh n1 kQ kB];exact fM⟩)
 refine aq.seq ?_
 by_cases hk2:(nd Z.ns k).kind=2
 ·refine jM [0,1,2,3,4,5,6,7,8,9,10,11,12,13,14,15,16,517,518] [3,0] (jG 17 [2,3,4,7,28,29,36] [(2,a_ 0 pV),(4,x_ k Z.ns.length (lK)),(6,v_ 1 (nA Z.ns Y.L Y.A Y.c k 1 hk rfl)),(7,wT (((nd Z.ns k).kind:Int)=(2:Int)) hk2),(9,A_ 0 pV 12),(12,a_ 0 pV),(14,x_ k Z.ns.length (lK)),(16,v_ 1 (nA Z.ns Y.L Y.A Y.c k 0 hk rfl))] (kL [3,0] [0,1] (eP hI (λ_ _ h=>wC Z Y h hC.toRB (nd Z.ns k).id)) ?_ (by rintro _ _ ⟨rfl,rfl⟩;kernel_rfl)))
  rintro _ _ ⟨rfl,rfl⟩
  refine fN.last KB (jK 1 [38] [] (NL (aB.np (NX (cP ((nd Z.ns k).id∈Z.aG) (λEm=>SR (jC 4 [5,6] [(0,A_ 3 pV 12),(1,A_ 5 jc 12)] [(5,(zC (rV Z Y)))] (NN (aq.ret (aB.bD (aB.cQ [0,1] [gZ Y Z,gM Y Z] (λafR Zz hL=>?_))))))) (λEm=>aq.skip (mJ () [0,1,2,3,4,5] ((λq=>Em q.2)))))))))
  have fM:dz afR Z Y:=hI.at hL
  replace aE:=aE.trans Zz
  exact rB _ [A_ 3 jc 12] [0] aE (⟨Y,by rw [Wt hh ⟨hk2,Em⟩]<;>rfl,rfl,by grind [Wt]⟩)
 refine jM [0,1,2,3,4,5,6,7,8,9,10,11,12,13,14,15,16,517,518] [3,0] (jG 17 [2,3,4,7,28,29,36] [(2,a_ 0 pV),(4,x_ k Z.ns.length (lK)),(6,v_ 1 (nA Z.ns Y.L Y.A Y.c k 1 hk rfl)),(7,wF (((nd Z.ns k).kind:Int)=(2:Int)) hk2)] (fN.cut (ι:=Unit) (bU:=λ(_:Unit)=>[(2,vP pV),(3,vP ug),(4,vP jc),(7,vI ↑k),(28,.bool false),(37,undef)]) (dI:=λ(_:Unit)=>[gZ Y Z,gM Y Z,.abs R,.aD pV (rV Z Y) 45,.aD ug (aQ c) 53,.aD jc (rZ) 45]) [3,0] KB ?_ rfl (λ_=>KB) ?_))
 ·exact jK 1 [37] [] (NL (MD () [2,3,4,7,28,37] [0,1,2,3,4,5]))
 rintro _
 exact fN.last KB (jK 1 [38] [] (NL (aB.np (NX (CF (aq.skip (mJ () [0,1,2,3,4,5] ((λq=>hk2 q.1)))))))))
end
section
def core (o:bJ):bJ:={o with aV:=0,aK:=0,aG:=false,up:=none}
end
section
open Go.RowKit Go.Maps bK aF
noncomputable section
def tM (us:bE Th):bE Int:=us.map (λp=>(p.1,(p.2.k:Int)))
def bT (S:bB) (t:Th):Nat:=bY (aX S) (t.k:Int)
def toR (S:bB) (g:List Int):RS:=⟨aX S,g,tM S.us,S.aJ,S.X.cN,S.X.cB,S.X.cH,S.X.cS,S.X.cZ,S.X.last⟩
structure xh (ar:bE Th) (O:d9) (g:List Int):Prop where
 Co:∀t,aT ar t->((t.k:Int)∈g↔(af O t.k).aG=true)
 live:∀z∈g,∃t,aT ar t/\(t.k:Int)=z
structure qw (ar:bE Th):Prop where
 fI:aF.dH (bn ar)
 key:∀p∈ar,p.1=(p.2.k:Int)
end
section p
variable {S:bB} {g:List Int} {t u:Th} {d k i j:Nat} {name:ByteArray} {O O':d9} {h dZ id:Int} {es:iW Th} {X:FM}
theorem Inv0.ix (h:Inv0 S):qw S.ar:=⟨h.fI,λ_ hp=>h.key (oC h.fI hp)⟩
theorem FX (hx:qw S.ar) (hi:i<S.ar.length):aT S.ar (jl S i)/\gH S i=((jl S i).k:Int):=by
 have hm:=aht (x5 hi)
 have hk:=hx.key _ hm
 have hg:=oC hx.fI hm
 grind [gH,jl,aT]
theorem KS (hx:qw S.ar) (hij:i<j) (hj:j<S.ar.length):gH S i<gH S j:=by
 have h1:=OI (S:=S) (show i<S.ar.length by omega)
 have h2:=OI hj
 obtain⟨g1,e1⟩:=List.getElem?_eq_some_iff.1 h1
 obtain⟨g2,e2⟩:=List.getElem?_eq_some_iff.1 h2
 have:=ahR.1 hx.fI i j g1 g2 hij
 rw [e1,e2] at this
 exact this
theorem Ph (hx:qw S.ar):dH (aX S):=λi j hij hj=>by
 rw [ia] at hj
 rw [pu zc,pu hj]
 exact KS hx hij hj
theorem JQ (hx:qw S.ar) (hi:i<S.ar.length) (hj:j<S.ar.length) (e:gH S i=gH S j):i=j:=by
 rcases ahK i j with h1|h1|h1
 ·have:=KS hx h1 hj;omega
 ·exact h1
 have:=KS hx h1 hi;omega
theorem nN (hI:qw S.ar) (hl:aT S.ar t):bT S t<(aX S).length/\bT S t<S.ar.length/\jl S (bT S t)=t/\gH S (bT S t)=(t.k:Int)/\gI (aX S) (t.k:Int)=(bT S t:Int)/\nd (aX S) (bT S t)=jL S.O (t.k:Int) t:=by
 grind [adt,nd,aX,pu,GZ,Ph,ia,bT,bY,aT,jl,gH,gI,jL]
theorem Sd (hI:qw S.ar) (hl:aT S.ar t) (hu:aT S.ar u) (e:bT S t=bT S u):t=u:=by
 have h1:=(nN hI hl).2.2.1
 rw [e,(nN hI hu).2.2.1] at h1
 exact h1.symm
theorem acg {us:bE Th}:aF.get (tM us) h=(aF.get us h).map (λt=>(t.k:Int)):=get_map (λt:Th=>(t.k:Int)) us h
theorem CM {us:bE Th}:(tM us).length=us.length:=ahf ..
theorem Ia {us:bE Th}:bn (tM us)=bn us:=keys_map (λt:Th=>(t.k:Int)) us
theorem EW {us:bE Th}:aF.aS (tM us)=aF.aS us:=by unfold aF.aS;rw [Ia]
theorem Sg {us:bE Th}:tM (ins h t us)=ins h (t.k:Int) (tM us):=Kp (λt:Th=>(t.k:Int)) h t us
theorem Sh {us:bE Th}:tM (del h us)=del h (tM us):=Kq (λt:Th=>(t.k:Int)) h us
theorem ach {us:bE Th}:(k:Int)∈iV (tM us)↔0<hnd us k:=by
 unfold iV tM hnd
 rw [List.map_map]
 induction us with
 |nil=>simp [gP]
 |cons p r ih=>
   grind [gP]
theorem WI (n:ByteArray):∀es:iW Th,BF (es.map (gy O)) n=es.findIdx? (λe=>decide (e.1=n)):=λes=>by
 unfold BF
 rw [List.findIdx?_map];rfl
theorem Pj (n:ByteArray):∀es:iW Th,bL n es=(es.findIdx? (λe=>decide (e.1=n))).map (tO es)
 |[]=>rfl
 |e::r=>by
   rw [qi,List.findIdx?_cons]
   by_cases hn:e.1=n
   ·rw [agW hn];simp [hn,tO]
   rw [agV hn,Pj n r]
   simp only [hn,decide_false,Bool.false_eq_true,if_false,Option.map_map]
   congr 1
theorem Pk (hid:∀x,(af O' x).id=(af O x).id) (ht:(af O t.k).id=id):∀es:iW Th,(kO name t es).map (gy O')=mM name id (es.map (gy O))
 |[]=>by
   show [gy O' (name,t)]=[⟨name,id⟩]
   unfold gy;rw [hid,ht]
 |e::r=>by
   have he:gy O' e=gy O e:=by unfold gy;rw [hid]
   have hr:r.map (gy O')=r.map (gy O):=ahx (λx _=>by unfold gy;rw [hid])
   unfold kO
   rw [ahs]
   unfold mM
   show _=if ¬jy e.1 name then _ else _
   split
   ·rw [ahs,ahs,he,hr]
    congr 1
    unfold gy;rw [hid,ht]
   rw [ahs,he,Pk hid ht r]
theorem ZA (hid:∀x,(af O' x).id=(af O x).id):(kD name es).map (gy O')=rS name (es.map (gy O)):=by
 unfold kD rS
 rw [List.filter_map]
 have:es.map (gy O')=es.map (gy O):=ahx (λx _=>by unfold gy;rw [hid])
 have h2:(es.filter (λe=>decide (e.1≠name))).map (gy O')=(es.filter (λe=>decide (e.1≠name))).map (gy O):=ahx (λx _=>by unfold gy;rw [hid])
 rw [h2];rfl
theorem Pm {z:Int}:∀es:List fD,(∀e∈es,e.name≠name)->q4 name es z=z
 |[],_=>rfl
 |e::r,hn=>by
   unfold q4
   rw [agV (hn e (ag7 ..)),Pm r (λx hx=>hn x (ag6 _ hx))]
theorem Si {z:Int}:∀es:iW Th,p4 es->bL name es=some t->q4 name (es.map (gy O)) z=(af O t.k).id
 |[],_,h=>by cases h
 |e::r,hd,h=>by
   rw [qi] at h
   rw [ahs]
   unfold q4
   show q4 name (r.map (gy O)) (if e.1=name then (af O e.2.k).id else z)=_
   by_cases hn:e.1=name
   ·rw [agW hn] at h ⊢
    injection h with h
    rw [h]
    refine Pm _ (λx hx=>?_)
    obtain⟨y,hy,rfl⟩:=ahe.1 hx
    exact λq=>(ahc.1 hd).1 y hy (hn.trans q.symm)
   rw [agV hn] at h ⊢
   exact Si r (ahc.1 hd).2 h
theorem EX (hc:core (af O' t.k)=core (af O t.k)) (hid:∀x,(af O' x).id=(af O x).id):jL O' id t=jL O id t:=by
 have f:∀{α:Type} (g:bJ->α),(∀o,g (core o)=g o)->g (af O' t.k)=g (af O t.k):=λg hg=>by rw [←hg,hc,hg]
 have he:gy O'=gy O:=by grind [gy]
 grind [jL,core,af]
theorem Dz {S':bB} (hi:S'.ar=S.ar) (hc:∀x,core (af S'.O x)=core (af S.O x)):aX S'=aX S:=by
 grind [aX,EX,core,af]
theorem EY (hI:qw S.ar) (hl:aT S.ar t) {S':bB} (hi:S'.ar=S.ar) (hc:∀x,x≠t.k->core (af S'.O x)=core (af S.O x)) (hid:(af S'.O t.k).id=(af S.O t.k).id):aX S'=(aX S).set (bT S t) (jL S'.O (t.k:Int) t):=by
 have agJ:∀x,(af S'.O x).id=(af S.O x).id:=λx=>by
  grind [aT,core,af,aX,bT,jL]
 obtain⟨h1,h2,h3,h4,_⟩:=nN hI hl
 apply List.ext_getElem?
 grind [aX,bT,x5,EX,FX,jt,nN,JQ]
theorem WJ {ar:bE Th} {f:Int×Th->aO} (hr:aF.dH (bn ar)) (hk:∀p∈ar,p.1=(p.2.k:Int)) {q:aO->Bool} {b:Bool} (hq:∀p∈ar,q (f p)=true↔¬(p.2=t/\b=true)) (hl:aT ar t):(ar.map f).filter q=(if b=true then del (t.k:Int) ar else ar).map f:=by
 rw [List.filter_map]
 by_cases hb:b=true
 ·rw [agW hb]
  unfold del
  refine agX (List.map f) (List.filter_congr (λp hp=>?_))
  have h1:=hq p hp
  have h2:(q ∘ f) p=true↔decide (p.1≠(t.k:Int))=true:=by
   show q (f p)=true↔_
   rw [h1,decide_eq_true_iff]
   refine not_congr ⟨λh=>by rw [hk p hp,h.1],λh=>⟨?_,hb⟩⟩
   have h3:aF.get ar p.1=some p.2:=oC hr hp
   grind [bn,aT,del]
  exact Bool.eq_iff_iff.2 (h2.trans agU)
 rw [agV hb]
 exact agX (List.map f) (List.filter_eq_self.2 (λp hp=>(hq p hp).2 (λh=>hb h.2)))
end p
section v
variable {S S':bB} {g:List Int} {t u:Th} {d to k i j:Nat} {name ay:ByteArray} {O O':d9} {h dZ id:Int} {es:iW Th}
structure RelR (S:bB) (g:List Int):Prop where
 inv:bR S
 aG:xh S.ar S.O g
theorem DA:iD (toR S g) h=match aF.get S.us h with|none=>.error 131|some t=>.ok (bT S t):=by
 grind [iD,tM,acg,toR,bT]
theorem p8 (hr:RelR S g):ic (toR S g) h name dZ=match iJ S.O S.us h name dZ with|.error e=>.error e|.ok d=>.ok (bT S ⟨d,2⟩):=by
 unfold ic iJ
 rw [DA]
 cases e:aF.get S.us h with
 |none=>rfl
 |some t=>
   have hl:=(hr.inv.us _ _ e).1
   have hp:=(nN hr.inv.ix hl).2.2.2.2.2
   simp only
   have hp2:nd (toR S g).ns (bT S t)=jL S.O (t.k:Int) t:=hp
   rw [hp2]
   show (if t.kind=2 then if (t.k:Int)∈g then _ else if cq name then if bits BinOp.and .i64 (af S.O t.k).mode dZ=dZ then Except.ok (bT S t) else _ else _ else _)=_
   by_cases h2:t.kind=2
   ·have ht:t=⟨t.k,2⟩:=by rw [←h2]
    rw [agW h2,agW h2]
    by_cases hg:(t.k:Int)∈g
    ·rw [agW hg,agW ((hr.aG.Co t hl).1 hg)]
    rw [agV hg,agV (λq=>hg ((hr.aG.Co t hl).2 q))]
    grind
   rw [agV h2,agV h2]
theorem WK {es:iW Th} (hj:j<es.length):en (es.map (gy O)) j=⟨nU es j,(af O (tO es j).k).id⟩:=by
 grind [en,Dn,gy,nU,af,tO]
theorem ZB (hI:Inv0 S) (hd:aT S.ar ⟨d,2⟩):bV (aX S) (bT S ⟨d,2⟩) name=match bL name (af S.O d).ah with|none=>-1|some t=>(bT S t:Int):=by
 unfold bV
 rw [(nN hI.ix hd).2.2.2.2.2]
 show (match BF ((af S.O d).ah.map (gy S.O)) name with|none=>_|some j=>gI (aX S) (en ((af S.O d).ah.map (gy S.O)) j).id)=_
 rw [WI,Pj]
 cases e:(af S.O d).ah.findIdx? (λe=>decide (e.1=name)) with
 |none=>rfl
 |some j=>
   have hj:j<(af S.O d).ah.length:=by
    rw [ahE] at e
    exact e.1
   show gI (aX S) (en ((af S.O d).ah.map (gy S.O)) j).id=(bT S (tO (af S.O d).ah j):Int)
   have hl:aT S.ar (tO (af S.O d).ah j):=(hI.ah _ hd _ (aht (Dn hj))).2
   rw [WK hj,(hI.ob _ hl).1,(nN hI.ix hl).2.2.2.2.1]
theorem Pn (hI:Inv0 S):vE (toR S g)↔Room S.X S.ar:=by
 have h1:(dJ (aX S) (aX S).length:Int)=S.X.ah:=by rw [ia,EN];exact hI.total.1.symm
 grind [aX,dJ,ia,vE,toR,Room]
theorem Po (hI:Inv0 S):(fQ (toR S g).ns (toR S g).ns.length:Int)=S.X.used:=by
 show (fQ (aX S) (aX S).length:Int)=_
 rw [ia,OY];exact hI.used.1.symm
theorem DB (hx:qw S.ar) (hd:aT S.ar ⟨d,2⟩) (htd:t.k≠d) (hid:(af S.O t.k).id=id) (hS:S'={S with X:=S'.X,O:=dg S.X S.O d name t,us:=S'.us,aJ:=S'.aJ}):aX S'=nG S.X.cS S.X.cZ (aX S) (bT S ⟨d,2⟩) (mM name id (nd (aX S) (bT S ⟨d,2⟩)).ah):=by
 have hO:S'.O=dg S.X S.O d name t:=by rw [hS]
 have yC:∀x,(af (dg S.X S.O d name t) x).id=(af S.O x).id:=λx=>mh (g:=bJ.id) (λ_ _=>rfl) (λ_ _=>rfl) (λ_ _ _=>rfl) (λ_ _=>rfl)
 rw [EY hx hd (S':=S') (by rw [hS]) (λx bX=>by rw [hO,sU htd,agV bX];split<;>rfl) (by rw [hO];exact yC d)]
 unfold nG
 rw [(nN hx hd).2.2.2.2.2,hO]
 congr 1
 show (⟨(d:Int),2,(af (dg S.X S.O d name t) d).mode,(af (dg S.X S.O d name t) d).bg,(af (dg S.X S.O d name t) d).bh,(af (dg S.X S.O d name t) d).aU,(af (dg S.X S.O d name t) d).aI,(af (dg S.X S.O d name t) d).data,(af (dg S.X S.O d name t) d).target,(af (dg S.X S.O d name t) d).ah.map (gy (dg S.X S.O d name t))⟩:aO)=_
 have h1:(af (dg S.X S.O d name t) d)={af S.O d with ah:=kO name t (af S.O d).ah,aU:=S.X.cS,aI:=S.X.cZ}:=by rw [sU htd,agW rfl]
 rw [h1]
 show (⟨_,_,_,_,_,_,_,_,_,(kO name t (af S.O d).ah).map (gy (dg S.X S.O d name t))⟩:aO)=_
 rw [Pk (O:=S.O) yC hid];rfl
theorem zi (hx:qw S.ar) (hd:aT S.ar ⟨d,2⟩) (htd:t.k≠d) (hi:S'.ar=S.ar) (hO:∀x,core (af S'.O x)=core (af (bq S.X S.O d name t) x)):aX S'=nG S.X.cS S.X.cZ (aX S) (bT S ⟨d,2⟩) (rS name (nd (aX S) (bT S ⟨d,2⟩)).ah):=by
 have yC:∀x,(af (bq S.X S.O d name t) x).id=(af S.O x).id:=λx=>eU (g:=bJ.id) (λ_ _=>rfl) (λ_ _=>rfl) (λ_ _ _=>rfl)
 have e1:aX S'=aX {S with O:=bq S.X S.O d name t}:=Dz (S:={S with O:=bq S.X S.O d name t}) hi hO
 rw [e1,EY hx hd (S':={S with O:=bq S.X S.O d name t}) rfl (λx bX=>by
  show core (af (bq S.X S.O d name t) x)=_
  rw [kX htd,agV bX];split<;>rfl) (yC d)]
 unfold nG
 rw [(nN hx hd).2.2.2.2.2]
 congr 1
 show (⟨(d:Int),2,(af (bq S.X S.O d name t) d).mode,(af (bq S.X S.O d name t) d).bg,(af (bq S.X S.O d name t) d).bh,(af (bq S.X S.O d name t) d).aU,(af (bq S.X S.O d name t) d).aI,(af (bq S.X S.O d name t) d).data,(af (bq S.X S.O d name t) d).target,(af (bq S.X S.O d name t) d).ah.map (gy (bq S.X S.O d name t))⟩:aO)=_
 have h1:(af (bq S.X S.O d name t) d)={af S.O d with ah:=kD name (af S.O d).ah,aU:=S.X.cS,aI:=S.X.cZ}:=by rw [kX htd,agW rfl]
 rw [h1]
 show (⟨_,_,_,_,_,_,_,_,_,(kD name (af S.O d).ah).map (gy (bq S.X S.O d name t))⟩:aO)=_
 rw [ZA (O:=S.O) yC];rfl
theorem DC {es:iW Th} (hid:∀e∈es,(af O e.2.k).id=(e.2.k:Int)):∀j,j<=es.length->iR (es.map (gy O)) (k:Int) j=(es.take j).countP (λe=>decide (e.2.k=k))
 |0,_=>rfl
 |j+1,hj=>by
   rw [iR,DC hid j zc,ahq,Dn (show j<es.length by omega),List.countP_append,WK zc]
   congr 1
   have:=hid _ (aht (Dn (show j<es.length by omega)))
   have h2:(af O (tO es j).k).id=((tO es j).k:Int):=this
   simp only [h2,Option.toList,List.countP_cons,List.countP_nil]
   by_cases hk:(tO es j).k=k
   ·simp [hk]
   simp [hk]
   omega
theorem WL (hid:∀i,i<S.ar.length->∀e∈(af S.O (jl S i).k).ah,(af S.O e.2.k).id=(e.2.k:Int)):tY (aX S) (k:Int)=(nw S.ar S.O k:Int):=by
 unfold tY
 rw [ia]
 have h:=BJ (S:=S) (λo=>o.ah.countP (λe=>decide (e.2.k=k))) (λns n=>nK ns (k:Int) n) (λ_=>rfl) (λi hi=>by
  show nK (aX S) _ i+iR (nd (aX S) i).ah _ (nd (aX S) i).ah.length=_
  rw [pu hi]
  show _+iR ((af S.O (jl S i).k).ah.map (gy S.O)) _ ((af S.O (jl S i).k).ah.map (gy S.O)).length=_
  rw [ahf,DC (hid i hi) _ (ag5 _),ahl]) S.ar.length (ag5 _)
 rw [ahl] at h
 exact agX Nat.cast h
theorem QT (hI:Inv0 S) (hd:aT S.ar ⟨d,2⟩) (hl:bL name (af S.O d).ah=some t) (hi:S'.ar=S.ar) (hO:∀x,core (af S'.O x)=core (af (bq S.X S.O d name t) x)):tY (aX S') (t.k:Int)=(af S.O t.k).aV-1:=by
 have htd:=hI.ne hd hl
 have yC:∀x,(af S'.O x).id=(af S.O x).id:=λx=>(show (af S'.O x).id=(af (bq S.X S.O d name t) x).id by have h:=agX bJ.id (hO x);exact h).trans (eU (g:=bJ.id) (λ_ _=>rfl) (λ_ _=>rfl) (λ_ _ _=>rfl))
 have Bg:∀x,(af S'.O x).ah=(af (bq S.X S.O d name t) x).ah:=λx=>by have h:=agX bJ.ah (hO x);exact h
 have he:∀x,(af S'.O x).ah=if x=d then kD name (af S.O d).ah else (af S.O x).ah:=λx=>by
  grind [kX]
 rw [WL (λi hi2 e hem=>by
  rw [yC]
  rw [hi] at hi2
  have qG:jl S' i=jl S i:=by unfold jl;rw [hi]
  rw [qG,he] at hem
  have bW:=(FX hI.ix hi2).1
  have:e∈(af S.O (jl S i).k).ah:=by
   grind [Ol]
  exact (hI.ob _ (hI.ah _ bW _ this).2).1),hi]
 have h1:=Om (q:=λe=>decide (e.2.k=t.k)) (O':=S'.O) hI.fI hd (λ_ _ e=>hI.key e) (λx hx=>by rw [he,agV hx]) (by rw [he,agW rfl]) (hI.pP hd) hl
 have h2:=hI.aV t (hI.bS hd hl).2
 grind [nw]
theorem ZC {V:Type} {z:Int} {p:Int×V} {us:bE V}:p∈del z us↔p∈us/\p.1≠z:=by
 unfold del
 rw [List.mem_filter]
 simp
theorem BO {S1 S2:bB} {O2:d9} {Pp:bE Th} {R:RS} (hx:qw S1.ar) (hns:R.ns=aX S1) (iy:R.us=tM Pp) (hg:xh S1.ar O2 R.aG) (hl:aT S1.ar t)
 (hfull:∀u,aT S1.ar u->u≠t->(af O2 u.k).aG=true->0<hnd Pp u.k) (bZ:(af O2 t.k).aK=(hnd Pp t.k:Int)) (hid:(af O2 t.k).id=(t.k:Int))
 (hi:S2.ar=kT O2 S1.ar t) (hc:∀x,core (af S2.O x)=core (af S1.O x)) (hgo:∀x,(af S2.O x).aG=(af O2 x).aG) :
 (gh R).ns=aX S2/\xh S2.ar S2.O (gh R).aG:=by
 have yC:∀x,(af S2.O x).id=(af S1.O x).id:=λx=>by have h:=agX bJ.id (hc x);exact h
 have kx:∀p∈S1.ar,aT S1.ar p.2:=λp hp=>by
  unfold aT;rw [←hx.key p hp];exact oC hx.fI hp
 have hkept:∀p∈S1.ar,rU R (jL S1.O p.1 p.2)=true↔¬(p.2=t/\decide (ul O2 t)=true):=λp hp=>by
  have hlp:=kx p hp
  show decide (p.1∈R.aG->p.1∈iV R.us)=true↔_
  rw [decide_eq_true_iff,hx.key p hp,hg.Co _ hlp,iy,ach,decide_eq_true_iff]
  constructor
  ·rintro h ⟨h1,h2⟩
   rw [h1] at h
   have:=h h2.1
   have h3:=h2.2
   rw [bZ] at h3
   omega
  intro h j3
  by_cases hpt:p.2=t
  ·rw [hpt] at j3 ⊢
   have:¬(af O2 t.k).aK=0:=λq=>h ⟨hpt,j3,q⟩
   rw [bZ] at this
   omega
  exact hfull _ hlp hpt j3
 have adY:(gh R).ns=aX S2:=by
  show R.ns.filter (rU R)=aX S2
  rw [hns]
  unfold aX
  rw [WJ hx.fI hx.key hkept hl,hi]
  grind [kT,jL,EX,ul]
 refine⟨adY,?_⟩
 have hsub:∀u,aT S2.ar u->aT S1.ar u:=λu hu=>by
  grind [kT,aT,zm]
 have hx2:qw S2.ar:=by
  rw [hi]
  unfold kT
  split
  ·refine⟨?_,λp hp=>hx.key p (ZC.1 hp).1⟩
   unfold bn del
   exact hx.fI.sublist (List.Sublist.map _ List.filter_sublist)
  exact hx
 have hmem:∀z,z∈(gh R).aG↔(z∈R.aG/\∃p∈S2.ar,p.1=z):=λz=>by
  show z∈((gh R).ns.filter (λn=>decide (n.id∈R.aG))).map aO.id↔_
  rw [adY]
  simp only [ahe,List.mem_filter,decide_eq_true_iff]
  constructor
  ·rintro⟨n,⟨h1,h2⟩,h3⟩
   obtain⟨p,hp,rfl⟩:=ahe.1 h1
   exact⟨by rw [←h3];exact h2,p,hp,h3⟩
  rintro⟨h1,p,hp,h2⟩
  exact⟨jL S2.O p.1 p.2,⟨ahe.2 ⟨p,hp,rfl⟩,by show p.1∈_;rw [h2];exact h1⟩,h2⟩
 refine⟨λu hu=>?_,λz hz=>?_⟩
 ·rw [hmem,hg.Co u (hsub u hu),hgo]
  exact⟨λh=>h.1,λh=>⟨h,_,get_mem hu,rfl⟩⟩
 obtain⟨_,p,hp,h1⟩:=(hmem z).1 hz
 refine⟨p.2,?_,(hx2.key p hp).symm.trans h1⟩
 unfold aT;rw [←hx2.key p hp];exact oC hx2.fI hp
end v
def ef (a:wz) (code:Int) (S':bB) (an:Int):Prop:=a.2.2=code/\(code=0->∃g',a.1=toR S' g'/\xh S'.ar S'.O g'/\a.2.1=an)
section w
variable {S S':bB} {g:List Int} {t u:Th} {d to k i j:Nat} {name ay:ByteArray} {O O':d9} {h dZ id z:Int} {c:aN} {R:RS}
theorem ef.bad {a:wz} {e an:Int} {S':bB} (h:a.2.2=e) (he:e≠0):ef a e S' an:=⟨h,λq=>agY q he⟩
theorem WM (h1:R.ns=aX S') (h3:R.us=tM S'.us) (h4:R.aJ=S'.aJ) (h5:R.cN=S'.X.cN/\R.cB=S'.X.cB/\R.cH=S'.X.cH/\R.cS=S'.X.cS/\R.cZ=S'.X.cZ/\R.last=S'.X.last):R=toR S' R.aG:=by
 obtain⟨ns,aG,us,aJ,cN,cB,cH,cS,cZ,last⟩:=R
 grind [aX,tM,toR]
theorem xh.same {ar:bE Th} (h:xh ar O g) (hg:∀x,(af O' x).aG=(af O x).aG):xh ar O' g:=⟨λt ht=>(h.Co t ht).trans (by rw [hg]),h.live⟩
theorem Pq (hI:Inv0 S) (z:Int):gI (aX S) z=match aF.get S.ar z with|none=>-1|some t=>(bT S t:Int):=by
 cases e:aF.get S.ar z with
 |none=>
   refine C6 (λj hj he=>?_)
   rw [ia] at hj
   rw [pu hj] at he
   have h1:gH S j=z:=he
   have h2:=(KG hI hj)
   have h3:aF.get S.ar ((jl S j).k:Int)=some (jl S j):=h2.1
   rw [←h2.2,h1,e] at h3
   cases h3
 |some t=>
   have hk:=(hI.ar _ _ e).1
   have hl:aT S.ar t:=by show aF.get S.ar (t.k:Int)=some t;rw [←hk];exact e
   show gI (aX S) z=_
   rw [hk];exact (nN hI.ix hl).2.2.2.2.1
theorem Ib (hI:Inv0 S) (e:aF.get S.ar z=some t):aT S.ar t/\z=(t.k:Int):=by
 have hk:=(hI.ar _ _ e).1
 grind [aT]
theorem mW (hI:Inv0 S) (hl:aT S.ar t):nd (toR S g).ns (bT S t)=jL S.O (t.k:Int) t:=(nN hI.ix hl).2.2.2.2.2
theorem ef.ok {a:wz} {an:Int} (hc:a.2.2=0) (h1:a.1.ns=aX S') (h3:a.1.us=tM S'.us) (h4:a.1.aJ=S'.aJ) (h5:a.1.cN=S'.X.cN/\a.1.cB=S'.X.cB/\a.1.cH=S'.X.cH/\a.1.cS=S'.X.cS/\a.1.cZ=S'.X.cZ/\a.1.last=S'.X.last) (hg:xh S'.ar S'.O a.1.aG) (ha:a.2.1=an):ef a 0 S' an:=
 ⟨hc,λ_=>⟨_,WM h1 h3 h4 h5,hg,ha⟩⟩
theorem ef.same {an:Int} (hr:RelR S g) (ha:an=0):ef (toR S g,0,0) 0 S an:=⟨rfl,λ_=>⟨g,rfl,hr.aG,ha.symm⟩⟩
theorem Ic (hr:RelR S g) (hl:aT S.ar t):ef (kV (toR S g) (bT S t)) (eE S t).2.1 (eE S t).2.2 (eE S t).1:=by
 have jv:(toR S g).us.length=S.us.length:=CM
 unfold kV
 by_cases hc:(S.us.length:Int)<S.X.cH
 ·rw [om hc,agW (by rw [jv];exact hc)]
  refine .ok rfl ?_ ?_ ?_ ⟨rfl,rfl,rfl,rfl,rfl,rfl⟩ (hr.aG.same (λx=>eG (g:=bJ.aG) (λ_=>rfl))) EW
  ·show aX S=aX _
   exact (Dz (S:=S) (S':={S with O:=aZ S.O t.k (λo=>{o with aK:=o.aK+1}),us:=ins (aS S.us) t S.us,aJ:=max S.aJ ((S.us.length:Int)+1)}) rfl (λx=>eG (g:=core) (f:=λo=>{o with aK:=o.aK+1}) (λ_=>rfl))).symm
  ·show ins (aS (tM S.us)) (nd (toR S g).ns (bT S t)).id (tM S.us)=tM (ins (aS S.us) t S.us)
   rw [mW hr.inv.toInv0 hl,Sg,EW];rfl
  grind [tM,CM,aT,ef,kV,toR,bT,eE]
 grind [oQ,aT,ef,kV,toR,bT,eE]
theorem ZE (hr:RelR S g) (c:aN):ef (if 0<=gI (toR S g).ns c.other then if (nd (toR S g).ns (bY (toR S g).ns c.other)).kind=2 then kV (toR S g) (bY (toR S g).ns c.other) else (toR S g,0,173) else (toR S g,0,141)) (kU S c).1 (kU S c).2.1 (kU S c).2.2.answer:=by
 have hI:=hr.inv.toInv0
 have ha:gI (toR S g).ns c.other=_:=Pq hI c.other
 unfold kU
 cases e:aF.get S.ar c.other with
 |none=>
   grind [gI,toR,ef,nd,bY,kV,kU]
 |some t=>
   rw [e] at ha
   replace ha:gI (toR S g).ns c.other=(bT S t:Int):=ha
   obtain⟨hl,_⟩:=Ib hI e
   have ht:bY (toR S g).ns c.other=bT S t:=by grind [bY]
   rw [agW (by rw [ha];omega),ht,mW hI hl]
   show ef (if t.kind=2 then _ else _) _ _ _
   grind [Ic,ef,gI,toR,nd,bY,kV,kU]
theorem mq (hr:RelR S g) (hd:aT S.ar ⟨d,2⟩) (name:ByteArray):(bL name (af S.O d).ah=none/\bV (toR S g).ns (bT S ⟨d,2⟩) name = -1)\/∃t,bL name (af S.O d).ah=some t/\bV (toR S g).ns (bT S ⟨d,2⟩) name=(bT S t:Int)/\aT S.ar t/\(t.kind=1\/t.kind=2\/t.kind=3)/\t.k≠d:=by
 have hI:=hr.inv.toInv0
 have hl:bV (toR S g).ns (bT S ⟨d,2⟩) name=_:=ZB (name:=name) hI hd
 cases e:bL name (af S.O d).ah with
 |none=>rw [e] at hl;exact .inl ⟨rfl,hl⟩
 |some t=>
   rw [e] at hl
   have h1:=(hr.inv.bS hd e).2
   exact .inr ⟨t,rfl,hl,h1,(hI.ob t h1).2.2,hr.inv.ne hd e⟩
theorem QU (hr:RelR S g) (c:aN):ef (jh (toR S g) c 2) (gV S c).1 (gV S c).2.1 (gV S c).2.2.answer:=by
 have hI:=hr.inv.toInv0
 unfold jh gV jI
 rw [p8 hr]
 rcases kI hI c.aL c.name 64 with ⟨e,h,he⟩|⟨d,h,hd,-⟩
 ·rw [h];exact .bad rfl he
 rw [h]
 simp only
 rcases mq hr hd c.name with ⟨h1,h2⟩|⟨t,h1,h2,hl,hk,-⟩
 ·grind [ef,jh,toR,gV]
 rw [h1,agW (by rw [h2];omega),h2,aho,mW hI hl]
 show ef (if t.kind=3 then _ else if t.kind≠2 then (_,_,if t.kind=1 then _ else _) else _) _ _ _
 grind [Ic,ef,jh,toR,gV]
theorem Pr (hr:RelR S g) (c:aN):ef (jh (toR S g) c 1) (fV S c).1 (fV S c).2.1 (fV S c).2.2.answer:=by
 have hI:=hr.inv.toInv0
 unfold jh fV jI
 rw [p8 hr]
 rcases kI hI c.aL c.name 64 with ⟨e,h,he⟩|⟨d,h,hd,-⟩
 ·rw [h];exact .bad rfl he
 rw [h]
 simp only
 rcases mq hr hd c.name with ⟨h1,h2⟩|⟨t,h1,h2,hl,hk,-⟩
 ·grind [ef,jh,toR,fV]
 rw [h1,agW (by rw [h2];omega),h2,aho,mW hI hl]
 show ef (if t.kind=3 then _ else if t.kind≠1 then (_,_,if t.kind=1 then _ else _) else _) _ _ _
 grind [Ic,ef,jh,toR,fV]
theorem Pt (hI:Inv0 S) (hl:aT S.ar t) (c:aN):FP (toR S g) c (bT S t)={nX S.O (c0 c) (some t) with code:=0}:=by
 unfold FP
 rw [mW hI hl]
 unfold nX
 simp only
 rw [(hI.ob t hl).1];rfl
theorem ZF (hr:RelR S g) (c:aN) (bZ:c.op=11\/c.op=12):gF S c=(S,qL (toR S g) c):=by
 have hI:=hr.inv.toInv0
 show ((iC S (c0 c)).2.1,{ (iC S (c0 c)).2.2 with code:=(iC S (c0 c)).1})=_
 unfold qL
 rcases bZ with h|h
 ·rw [xV (c:=c0 c) h,agV zc,DA]
  cases e:aF.get S.us c.aL with
  |none=>rw [show nY S (c0 c)=(131,S,nX S.O (c0 c) none) by grind [nY]];rfl
  |some t=>rw [show nY S (c0 c)=(0,S,nX S.O (c0 c) (some t)) by grind [nY]];exact agX (Prod.mk S) (Pt hI (hr.inv.us _ _ e).1 c).symm
 rw [xW (c:=c0 c) h,agW h,p8 hr]
 rcases kI hI c.aL c.name 64 with ⟨e,h,he⟩|⟨d,h,hd,-⟩
 ·rw [show jr S (c0 c)=(e,S,nX S.O (c0 c) none) by unfold jr jI;grind,h];rfl
 rw [h]
 simp only
 rcases mq hr hd c.name with ⟨h1,h2⟩|⟨t,h1,h2,hl,hk,-⟩
 ·rw [show jr S (c0 c)=(170,S,nX S.O (c0 c) none) by unfold jr jI;grind,agV (by rw [h2];decide)];rfl
 rw [show jr S (c0 c)=(0,S,nX S.O (c0 c) (some t)) by unfold jr jI;grind,agW (by rw [h2];omega),h2,aho]
 grind [Pt]
theorem Pu {f:bJ->bJ} (hid:∀o,(f o).id=o.id):jL (aZ O t.k f) z t=⟨z,t.kind,(f (af O t.k)).mode,(f (af O t.k)).bg,(f (af O t.k)).bh,(f (af O t.k)).aU,(f (af O t.k)).aI,(f (af O t.k)).data,(f (af O t.k)).target,(f (af O t.k)).ah.map (gy O)⟩:=by
 have h1:af (aZ O t.k f) t.k=f (af O t.k):=by rw [j8,agW rfl]
 have h2:gy (aZ O t.k f)=gy O:=funext λe=>by unfold gy;rw [eG (g:=bJ.id) hid]
 unfold jL
 rw [h1,h2]
theorem Mb (hI:Inv0 S) (hl:aT S.ar t) {f:bJ->bJ} (hid:∀o,(f o).id=o.id) (hi:S'.ar=S.ar) (hO:S'.O=aZ S.O t.k f):aX S'=(aX S).set (bT S t) (jL (aZ S.O t.k f) (t.k:Int) t):=by
 rw [EY hI.ix hl (S':=S') hi (λx hx=>by rw [hO,j8,agV hx]) (by rw [hO];exact eG (g:=bJ.id) hid),hO]
theorem ZG (hr:RelR S g) (c:aN):ef (mo (toR S g) c) (cY S c).1 (cY S c).2.1 0:=by
 have hI:=hr.inv.toInv0
 unfold mo cY
 rw [DA]
 cases e:aF.get S.us c.aL with
 |none=>exact .bad rfl (show (131:Int)≠0 by decide)
 |some t=>
   have hl:=(hr.inv.us _ _ e).1
   simp only
   rw [mW hI hl]
   show ef (if t.kind=2/\(t.k:Int)∈g then _ else _) _ _ _
   by_cases hg:(af S.O t.k).aG=true/\t.kind=2
   ·rw [agW ⟨hg.2,(hr.aG.Co t hl).2 hg.1⟩,agW hg];exact .bad rfl (show (170:Int)≠0 by decide)
   rw [agV (λq=>hg ⟨(hr.aG.Co t hl).1 q.2,q.1⟩),agV hg]
   by_cases h1:jS c.mode
   ·by_cases h2:qm c.bg/\qm c.bh
    ·by_cases h3:fZ c.aU c.aI
     ·rw [agW h1,agW h1,agW h2,agW h2,agW h3,agW h3]
      refine .ok rfl ?_ rfl rfl ⟨rfl,rfl,rfl,rfl,rfl,rfl⟩ (hr.aG.same (λx=>eG (g:=bJ.aG) (f:=λo=>{o with mode:=c.mode,bg:=c.bg,bh:=c.bh,aU:=c.aU,aI:=c.aI}) (λ_=>rfl))) rfl
      refine ahY ?_ (Mb (S:=S) (S':={S with O:=aZ S.O t.k (λo=>{o with mode:=c.mode,bg:=c.bg,bh:=c.bh,aU:=c.aU,aI:=c.aI})}) (t:=t) hI hl (f:=λo=>{o with mode:=c.mode,bg:=c.bg,bh:=c.bh,aU:=c.aU,aI:=c.aI}) (λ_=>rfl) rfl rfl).symm
      rw [Pu (f:=λo=>{o with mode:=c.mode,bg:=c.bg,bh:=c.bh,aU:=c.aU,aI:=c.aI}) (λ_=>rfl)]
      rfl
     grind [ef,mo,toR,cY]
    grind [ef,mo,toR,cY]
   grind [ef,mo,toR,cY]
theorem EZ (hr:RelR S g) (hl:aT S.ar t) (bs:List UInt8):ef (jO (toR S g) (bT S t) bs) (gD S t.k bs).2.1 (gD S t.k bs).2.2 (gD S t.k bs).1:=by
 have hI:=hr.inv.toInv0
 unfold jO gD
 by_cases hb:bs=[]
 ·rw [agW hb,agW hb];exact .same hr rfl
 rw [agV hb,agV hb,Po hI]
 show ef (if S.X.cB-S.X.used<=0 then _ else _) _ _ _
 by_cases hu:S.X.cB-S.X.used<=0
 ·grind [aT,ef,jO,toR,bT,gD]
 rw [agV hu,agV hu]
 refine .ok rfl (ahY ?_ (Mb (S:=S) (S':={S with X:={S.X with used:=S.X.used+(dN S.X bs.length:Int)},O:=aZ S.O t.k (λo=>{o with data:=o.data++bs.take (dN S.X bs.length),aU:=S.X.cS,aI:=S.X.cZ})}) (t:=t) hI hl (f:=λo=>{o with data:=o.data++bs.take (dN S.X bs.length),aU:=S.X.cS,aI:=S.X.cZ}) (λ_=>rfl) rfl rfl).symm) rfl rfl ⟨rfl,rfl,rfl,rfl,rfl,rfl⟩ (hr.aG.same (λx=>eG (g:=bJ.aG) (f:=λo=>{o with data:=o.data++bs.take (dN S.X bs.length),aU:=S.X.cS,aI:=S.X.cZ}) (λ_=>rfl))) rfl
 rw [Pu (f:=λo=>{o with data:=o.data++bs.take (dN S.X bs.length),aU:=S.X.cS,aI:=S.X.cZ}) (λ_=>rfl)]
 simp only
 rw [mW hI hl]
 rfl
theorem ZH (hr:RelR S g) (c:aN):ef (match iD (toR S g) c.aL with|.error e=>(toR S g,0,e)|.ok k=>if (nd (toR S g).ns k).kind=2 then (toR S g,0,172) else jO (toR S g) k c.data) (ij S c).1 (ij S c).2.1 (if (ij S c).1=0 then (ij S c).2.2.answer else 0):=by
 have hI:=hr.inv.toInv0
 unfold ij
 rw [DA]
 cases e:aF.get S.us c.aL with
 |none=>exact .bad rfl (show (131:Int)≠0 by decide)
 |some t=>
   obtain⟨hl,h3⟩:=hr.inv.us _ _ e
   have hk:=(hI.ob t hl).2.2
   simp only
   rw [mW hI hl]
   show ef (if t.kind=2 then _ else _) _ _ _
   grind [EZ,ef,iD,toR,nd,jO,ij]
theorem WN (hr:RelR S g) (c:aN):ef (if c.aL∈bn (toR S g).us then (gh {toR S g with us:=del c.aL (toR S g).us},0,0) else (gh (toR S g),0,131)) (jT S c).1 (jT S c).2.1 0:=by
 have hI:=hr.inv.toInv0
 have hk:bn (toR S g).us=bn S.us:=Ia
 unfold jT
 cases e:aF.get S.us c.aL with
 |none=>
   grind [get_none,ef,bn,toR,gh,del,jT]
 |some t=>
   have hl:=(hr.inv.us _ _ e).1
   rw [agW (by rw [hk];exact ahe.2 ⟨_,get_mem e,rfl⟩)]
   have hdel:=λk=>RA (k:=k) hI.usr e
   have hsw:=BO (S1:=S) (S2:=(jT S c).2.1) (O2:=tV S.O t.k) (Pp:=del c.aL S.us) (R:={toR S g with us:=del c.aL (toR S g).us}) (t:=t) hI.ix rfl Sh.symm
    (hr.aG.same (λx=>eG (g:=bJ.aG) (f:=λo=>{o with aK:=o.aK-1}) (λ_=>rfl))) hl
    (λu hu bX Mc=>by
     have h1:(af S.O u.k).aG=true:=ahY (eG (g:=bJ.aG) (f:=λo=>{o with aK:=o.aK-1}) (λ_=>rfl)).symm Mc
     have h2:=hr.inv.full u hu h1
     rw [hI.aK u hu] at h2
     have h3:=hdel u.k
     rw [agV (λq=>bX (jt hu hl q.symm))] at h3
     omega)
    (by
     show (af (aZ S.O t.k _) t.k).aK=_
     rw [j8,agW rfl]
     show (af S.O t.k).aK-1=_
     rw [hI.aK t hl]
     have h3:=hdel t.k
     rw [agW rfl] at h3
     omega)
    (by rw [show (af (tV S.O t.k) t.k).id=(af S.O t.k).id from eG (g:=bJ.id) (f:=λo=>{o with aK:=o.aK-1}) (λ_=>rfl)];exact (hI.ob t hl).1)
    (by unfold jT;rw [e]) (λx=>by unfold jT;rw [e];exact eG (g:=core) (f:=λo=>{o with aK:=o.aK-1}) (λ_=>rfl)) (λx=>by unfold jT;rw [e])
   unfold jT at hsw
   rw [e] at hsw
   refine .ok rfl hsw.1 ?_ rfl ⟨rfl,rfl,rfl,rfl,rfl,rfl⟩ hsw.2 rfl
   exact Sh.symm
end w
section x
variable {S S':bB} {g:List Int} {t u:Th} {d to k i j:Nat} {name ay:ByteArray} {O O':d9} {h dZ id z:Int} {c:aN} {R:RS} {o:bJ} {n:aO}
theorem ZI (hx:qw S.ar) (hl:aT S.ar t) (hi:S'.ar=S.ar):bT S' t=bT S t:=by
 have hl':aT S'.ar t:=by rw [hi];exact hl
 have hx':qw S'.ar:=by rw [hi];exact hx
 have h1:=nN hx hl
 have h2:=nN hx' hl'
 grind [JQ,gH]
theorem WO (hr:RelR S g) (hd:aT S.ar ⟨d,2⟩) (hl:aT S.ar t) (htd:t.k≠d) {e:Int}:ef (dh (toR S g) (bT S ⟨d,2⟩) name (t.k:Int),0,0) 0 {S with X:={S.X with ah:=e},O:=dg S.X S.O d name t} 0:=by
 exact .ok rfl ((DB (S':={S with X:={S.X with ah:=e},O:=dg S.X S.O d name t}) hr.inv.ix hd htd (hr.inv.ob t hl).1 rfl).symm) rfl rfl ⟨rfl,rfl,rfl,rfl,rfl,rfl⟩ (hr.aG.same (λx=>mh (g:=bJ.aG) (λ_ _=>rfl) (λ_ _=>rfl) (λ_ _ _=>rfl) (λ_ _=>rfl))) rfl
theorem Ie (hI:Inv0 S):(dJ (toR S g).ns (toR S g).ns.length:Int)=S.X.ah:=by
 show (dJ (aX S) (aX S).length:Int)=S.X.ah
 rw [ia,EN];exact hI.total.1.symm
theorem ZJ (hr:RelR S g) (c:aN):ef (vF (toR S g) c) (dV S c).1 (dV S c).2.1 0:=by
 have hI:=hr.inv.toInv0
 unfold vF qC dV
 rw [p8 hr,p8 hr]
 rcases kI hI c.aL c.name 64 with ⟨e,h,he⟩|⟨d,h,hd,-⟩
 ·rw [h];exact .bad rfl he
 rw [h]
 simp only
 rcases kI hI c.other c.text 192 with ⟨e,h,he⟩|⟨to,h,d6,-⟩
 ·rw [h];exact .bad rfl he
 rw [h]
 simp only
 unfold nH
 rcases mq hr hd c.name with ⟨h1,h2⟩|⟨t,h1,h2,hl,hk,htd⟩
 ·grind [ef,vF,toR,dV]
 rw [h1,agW (by rw [h2];omega),h2,aho,mW hI hl]
 show ef (if t.kind=2 then _ else _) _ _ _
 simp only
 by_cases h3:t.kind=2
 ·grind [ef,vF,toR,dV]
 rw [agV h3,agV h3]
 have BP:t.k≠to:=by grind [jt]
 rcases mq hr d6 c.text with ⟨h4,h5⟩|⟨u,h4,h5,-⟩
 ·rw [agV (by rw [h5];decide),agW h4,Ie hI]
  by_cases h6:S.X.ah<8192
  ·rw [agW h6,agW h6];exact WO hr d6 hl BP
  grind [ef,vF,toR,dV]
 grind [ef,vF,toR,dV]
theorem Gz (hI:Inv0 S):aX {S with O:=aZ S.O (bA S.X) (λ_=>o)}=aX S:=by
 refine ahx (λp hp=>?_)
 have h1:af (aZ S.O (bA S.X) (λ_=>o)) p.2.k=af S.O p.2.k:=by rw [j8,agV (hI.fresh.ar p hp)]
 have h2:(af S.O p.2.k).ah.map (gy (aZ S.O (bA S.X) (λ_=>o)))=(af S.O p.2.k).ah.map (gy S.O):=ahx (λe he=>by
  unfold gy;rw [j8,agV (hI.fresh.ah _ e he)])
 unfold jL
 rw [h1,h2]
theorem WQ (hI:Inv0 S):∀x∈bn S.ar,x<S.X.last+1:=λx hx=>by
 cases e:aF.get S.ar x with
 |none=>exact agY hx (get_none.1 e)
 |some t=>have:=(hI.ar _ _ e).2.2;omega
theorem FY (hI:Inv0 S):(gn S d name o).ar=S.ar++[(S.X.last+1,⟨bA S.X,o.kind⟩)]:=Oc (WQ hI)
theorem Pv (hI:Inv0 S):qw (gn S d name o).ar/\aT (gn S d name o).ar ⟨bA S.X,o.kind⟩/\∀u,aT (gn S d name o).ar u↔u=⟨bA S.X,o.kind⟩\/aT S.ar u:=by
 have hn:S.X.last+1∉bn S.ar:=λh=>by have:=WQ hI _ h;omega
 have hk:=qX hI
 have hg:∀x,aF.get (gn S d name o).ar x=if x=S.X.last+1 then some ⟨bA S.X,o.kind⟩ else aF.get S.ar x:=λx=>by
  show aF.get (ins _ _ _) x=_
  rw [wh hn]
 have hl:aT (gn S d name o).ar ⟨bA S.X,o.kind⟩:=by show aF.get _ ((bA S.X:Nat):Int)=_;rw [hg,agW hk]
 refine⟨⟨zZ hI.fI hn,λp hp=>?_⟩,hl,λu=>?_⟩
 ·rw [FY hI] at hp
  rcases ahj.1 hp with h|h
  ·exact hI.ix.key p h
  grind
 constructor
 ·grind [gn,aT,bA]
 rintro (rfl|hu)
 ·exact hl
 show aF.get _ (u.k:Int)=some u
 rw [hg,agV (λq=>hn (by rw [←q];exact ahe.2 ⟨_,get_mem hu,rfl⟩))];exact hu
theorem FZ (hr:RelR S g) (hd:aT S.ar ⟨d,2⟩) (ho:o.id=S.X.last+1/\o.aU=S.X.cS/\o.aI=S.X.cZ/\o.aG=false/\o.ah=[]) (hn:n.kind=o.kind/\n.mode=o.mode/\n.bg=o.bg/\n.bh=o.bh/\n.data=o.data/\n.target=o.target/\n.ah=[]) :
 jV (toR S g) (bT S ⟨d,2⟩) name n=toR (gn S d name o) g/\xh (gn S d name o).ar (gn S d name o).O g:=by
 have hI:=hr.inv.toInv0
 have hk:=qX hI
 have htd:bA S.X≠d:=λe=>hI.fresh.ar _ (get_mem hd) e.symm
 have hat:=λx=>sU (X:=S.X) (O:=aZ S.O (bA S.X) (λ_=>o)) (d:=d) (name:=name) (t:=⟨bA S.X,o.kind⟩) (k:=x) htd
 obtain⟨h1,h2,h3,h4,h5⟩:=ho
 have hnew:af (gn S d name o).O (bA S.X)={o with aV:=o.aV+1,up:=if o.kind=2 then some d else o.up}:=by
  show af (dg _ _ _ _ _) _=_
  rw [hat,agV htd,agW rfl,j8,agW rfl]
 refine⟨WM (R:=jV (toR S g) (bT S ⟨d,2⟩) name n) ?_ rfl rfl ⟨rfl,rfl,rfl,rfl,rfl,rfl⟩,⟨λu hu=>?_,λz hz=>?_⟩⟩
 ·have hg2:=DB (S:={S with O:=aZ S.O (bA S.X) (λ_=>o)}) (S':={S with X:=(gn S d name o).X,O:=(gn S d name o).O}) (d:=d) (name:=name) (t:=⟨bA S.X,o.kind⟩) (id:=S.X.last+1) hI.ix hd htd (by
   show (af (aZ _ _ _) (bA S.X)).id=_
   rw [j8,agW rfl];exact h1) rfl
  rw [Gz hI,show bT {S with O:=aZ S.O (bA S.X) (λ_=>o)} ⟨d,2⟩=bT S ⟨d,2⟩ by unfold bT;rw [Gz hI]] at hg2
  have hg3:aX (gn S d name o)=aX {S with X:=(gn S d name o).X,O:=(gn S d name o).O}++[jL (gn S d name o).O (S.X.last+1) ⟨bA S.X,o.kind⟩]:=by
   unfold aX
   rw [FY hI,ahv];rfl
  have hN:({n with id:=S.X.last+1,aU:=S.X.cS,aI:=S.X.cZ}:aO)=jL (gn S d name o).O (S.X.last+1) ⟨bA S.X,o.kind⟩:=by
   unfold jL
   simp only
   rw [hnew,h5]
   obtain⟨ni,nk,nm,nu,ng,ns,nn,nda,nt,ne⟩:=n
   obtain⟨g1,g2,g3,g4,g5,g6,g7⟩:=hn
   simp only at g1 g2 g3 g4 g5 g6 g7 ⊢
   rw [g1,g2,g3,g4,g5,g6,g7,h2,h3];rfl
  rw [hg3,hg2,←hN];rfl
 ·rcases ((Pv hI).2.2 u).1 hu with rfl|RZ
  ·constructor
   ·intro hz
    obtain⟨v,hv,e⟩:=hr.aG.live _ hz
    exact agY (show v.k=bA S.X by exact Int.ofNat.inj e) (hI.fresh.ar _ (get_mem hv))
   intro h
   rw [hnew] at h
   have h:o.aG=true:=h
   rw [h4] at h;cases h
  refine (hr.aG.Co u RZ).trans ?_
  have:(af (gn S d name o).O u.k).aG=(af S.O u.k).aG:=by
   refine ahY (mh (g:=bJ.aG) (λ_ _=>rfl) (λ_ _=>rfl) (λ_ _ _=>rfl) (λ_ _=>rfl)) ?_
   rw [j8,agV (hI.fresh.ar _ (get_mem RZ))]
  rw [this]
 obtain⟨v,hv,e⟩:=hr.aG.live z hz
 exact⟨v,((Pv hI).2.2 v).2 (.inr hv),e⟩
end x
section y
variable {S S' S2:bB} {g:List Int} {t u:Th} {d to k i j:Nat} {name ay:ByteArray} {O O':d9} {h dZ id z:Int} {c:aN} {R:RS} {o:bJ} {n:aO}
theorem xj (hr:RelR S g) (hd:aT S.ar ⟨d,2⟩) (name:ByteArray) (hb:¬(n.kind=3/\kW n.target≠0)):(gu S.X S.O S.ar d name=0/\bP (toR S g) (bT S ⟨d,2⟩) name n=(jV (toR S g) (bT S ⟨d,2⟩) name n,0))\/(gu S.X S.O S.ar d name≠0/\bP (toR S g) (bT S ⟨d,2⟩) name n=(toR S g,gu S.X S.O S.ar d name)):=by
 unfold bP gu
 rw [agV hb]
 rcases mq hr hd name with ⟨h1,h2⟩|⟨t,h1,h2,-⟩
 ·rw [agW h1,agV (show ¬0<=bV (toR S g).ns (bT S ⟨d,2⟩) name by rw [h2];decide)]
  by_cases h3:Room S.X S.ar
  ·rw [agW ((Pn hr.inv.toInv0).2 h3),agW h3];exact .inl ⟨rfl,rfl⟩
  rw [agV (λq=>h3 ((Pn hr.inv.toInv0).1 q)),agV h3];exact .inr ⟨Pd,rfl⟩
 grind
theorem DE (hr:RelR S g) (hd:aT S.ar ⟨d,2⟩) (name:ByteArray) (hb:¬(n.kind=3/\kW n.target≠0)) (ho:o.id=S.X.last+1/\o.aU=S.X.cS/\o.aI=S.X.cZ/\o.aG=false/\o.ah=[]) (hn:n.kind=o.kind/\n.mode=o.mode/\n.bg=o.bg/\n.bh=o.bh/\n.data=o.data/\n.target=o.target/\n.ah=[]) :
 ef ((bP (toR S g) (bT S ⟨d,2⟩) name n).1,0,(bP (toR S g) (bT S ⟨d,2⟩) name n).2) (if gu S.X S.O S.ar d name=0 then (0,gn S d name o) else (gu S.X S.O S.ar d name,S)).1 (if gu S.X S.O S.ar d name=0 then ((0:Int),gn S d name o) else (gu S.X S.O S.ar d name,S)).2 0:=by
 grind [xj,FZ,aT,kW,ef,bP,toR,bT,gu,gn]
theorem WR (hr:RelR S g) (c:aN) (bZ:c.op=4):ef (match ic (toR S g) c.aL c.name 192 with|.error e=>(toR S g,0,e)|.ok d=>iF (toR S g) c d) (ja S c).1 (ja S c).2.1 0:=by
 unfold ja
 rw [p8 hr]
 rcases kI hr.inv.toInv0 c.aL c.name 192 with ⟨e,h,he⟩|⟨d,h,hd,-⟩
 ·rw [h];exact .bad rfl he
 rw [h]
 simp only
 unfold iF
 rw [agV zc,agV zc]
 by_cases hm:jS c.mode
 ·rw [agW hm,agW hm,agV zc]
  exact DE (o:=cR S.X 2 c.mode) hr hd c.name (λq=>agY (show (2:Int)=3 from q.1) Pd) ⟨rfl,rfl,rfl,rfl,rfl⟩ ⟨rfl,rfl,rfl,rfl,rfl,rfl,rfl⟩
 grind [ef,ic,toR,iF,ja]
theorem QV (hr:RelR S g) (c:aN) (bZ:c.op=6):ef (match ic (toR S g) c.aL c.name 192 with|.error e=>(toR S g,0,e)|.ok d=>iF (toR S g) c d) (iB S c).1 (iB S c).2.1 0:=by
 unfold iB
 rw [p8 hr]
 rcases kI hr.inv.toInv0 c.aL c.name 192 with ⟨e,h,he⟩|⟨d,h,hd,-⟩
 all_goals grind [iF,jk,kW,DE,cR,bP,ef,ic,toR,iB]
theorem aci (hr:RelR S g) (hd:aT S.ar ⟨d,2⟩) (hl:bL name (af S.O d).ah=some t):q4 name (nd (aX S) (bT S ⟨d,2⟩)).ah 0=(t.k:Int):=by
 have hI:=hr.inv.toInv0
 rw [(nN hI.ix hd).2.2.2.2.2]
 show q4 name ((af S.O d).ah.map (gy S.O)) 0=_
 exact (Si _ (hI.pP hd) hl).trans (hI.ob _ (hr.inv.bS hd hl).2).1
theorem WS (hr:RelR S g) (hd:aT S.ar ⟨d,2⟩) (hl:bL name (af S.O d).ah=some t):(cX (toR S g) (bT S ⟨d,2⟩) name true).aG=if (af S.O t.k).aV-1=0 then g++[(t.k:Int)] else g:=by
 have hI:=hr.inv.toInv0
 have h2:tY (nG S.X.cS S.X.cZ (aX S) (bT S ⟨d,2⟩) (rS name (nd (aX S) (bT S ⟨d,2⟩)).ah)) (t.k:Int)=(af S.O t.k).aV-1:=by
  rw [←zi (S:=S) (S':={S with O:=bq S.X S.O d name t}) hI.ix hd (hr.inv.ne hd hl) rfl (λ_=>rfl)]
  grind [QT,bq]
 grind [tY,nG,aX,bT,rS,nd,q4,aci,af,aT,bL,cX,toR]
structure ae2 (S:bB) (d:Nat) (name:ByteArray) (t:Th) (g':List Int):Prop where
 aG:xh S.ar (bp S d name t).O g'
 ar:(bp S d name t).ar=kT (bp S d name t).O S.ar t
 core:∀x,Proofs.YtbnfiigafobejaaGreat.core (af (bp S d name t).O x)=Proofs.YtbnfiigafobejaaGreat.core (af (bq S.X S.O d name t) x)
 aK:∀x,(af (bp S d name t).O x).aK=(af S.O x).aK
 others:∀x,x≠t.k->(af (bp S d name t).O x).aG=(af S.O x).aG
theorem Pw (hr:RelR S g) (hd:aT S.ar ⟨d,2⟩) (hl:bL name (af S.O d).ah=some t):ae2 S d name t (cX (toR S g) (bT S ⟨d,2⟩) name true).aG:=by
 have hI:=hr.inv.toInv0
 have fU:=(hr.inv.bS hd hl).2
 have htd:=hr.inv.ne hd hl
 have eF:(af (bq S.X S.O d name t) t.k).aV=(af S.O t.k).aV-1:=by grind [kX]
 have hgo:∀x,(af (bq S.X S.O d name t) x).aG=(af S.O x).aG:=λx=>eU (g:=bJ.aG) (λ_ _=>rfl) (λ_ _=>rfl) (λ_ _ _=>rfl)
 have bZ:∀x,(af (bq S.X S.O d name t) x).aK=(af S.O x).aK:=λx=>eU (g:=bJ.aK) (λ_ _=>rfl) (λ_ _=>rfl) (λ_ _ _=>rfl)
 rw [WS hr hd hl]
 by_cases h0:(af S.O t.k).aV-1=0
 ·have hm:=xM (S:=S) (d:=d) (name:=name) (t:=t) (eF.trans h0)
  have hO:(bp S d name t).O=tF (bq S.X S.O d name t) t.k:=by rw [hm]
  have hat:∀x,(af (tF (bq S.X S.O d name t) t.k) x).aG=if x=t.k then true else (af S.O x).aG:=λx=>by
   grind [tF,j8]
  rw [agW h0]
  refine⟨⟨λu hu=>?_,λz hz=>?_⟩,by rw [hO,hm],λx=>?_,λx=>?_,λx hx=>?_⟩
  ·rw [hO,hat,ahj,ahu]
   by_cases hx:u.k=t.k
   ·grind
   rw [agV hx,←hr.aG.Co u hu]
   grind
  ·rcases ahj.1 hz with hz|hz
   ·exact hr.aG.live z hz
   grind
  ·rw [hO];exact eG (g:=Proofs.YtbnfiigafobejaaGreat.core) (f:=λo=>{o with aG:=true}) (λ_=>rfl)
  ·rw [hO];exact ahY (eG (g:=bJ.aK) (f:=λo=>{o with aG:=true}) (λ_=>rfl)) (bZ x)
  rw [hO,hat,agV hx]
 have hm:=xO (S:=S) (d:=d) (name:=name) (t:=t) (λq=>h0 (eF.symm.trans q))
 have hO:(bp S d name t).O=bq S.X S.O d name t:=by rw [hm]
 rw [agV h0]
 refine⟨by rw [hO];exact hr.aG.same hgo,?_,λx=>by rw [hO],λx=>by rw [hO];exact bZ x,λx _=>by rw [hO];exact hgo x⟩
 rw [hO,hm]
 unfold kT
 rw [agV]
 rintro⟨h1,_⟩
 rw [hgo] at h1
 have h2:=hI.aG t fU h1
 have h3:=hI.aV t fU
 have h4:=qW (ar:=S.ar) hd hl
 omega
theorem KT (hr:RelR S g) (hu:aT S.ar u) (h:(af S.O u.k).aG=true):0<hnd S.us u.k:=by
 have h1:=hr.inv.full u hu h
 rw [hr.inv.aK u hu] at h1;omega
theorem Px (hr:RelR S g) (hd:aT S.ar ⟨d,2⟩) (hl:bL name (af S.O d).ah=some t) (h1:S2={bp S d name t with O:=S2.O}) (hc:∀x,core (af S2.O x)=core (af (bp S d name t).O x)) (hgo:∀x,(af S2.O x).aG=(af (bp S d name t).O x).aG) :
 ef (gh (cX (toR S g) (bT S ⟨d,2⟩) name true),0,0) 0 S2 0:=by
 have hI:=hr.inv.toInv0
 have fU:=(hr.inv.bS hd hl).2
 have Sj:=Pw hr hd hl
 have hX:S2.X=(bp S d name t).X:=by rw [h1]
 have hsw:=BO (S1:={S with O:=bq S.X S.O d name t}) (S2:=S2) (O2:=(bp S d name t).O) (Pp:=S.us) (R:=cX (toR S g) (bT S ⟨d,2⟩) name true) (t:=t) hI.ix
  (zi (S:=S) (S':={S with O:=bq S.X S.O d name t}) hI.ix hd (hr.inv.ne hd hl) rfl (λ_=>rfl)).symm rfl Sj.aG fU
  (λu hu bX Mc=>by
   rw [Sj.others u.k (λe=>bX (jt hu fU e))] at Mc
   exact KT hr hu Mc)
  (by rw [Sj.aK];exact hI.aK t fU)
  (by have h:=agX bJ.id (Sj.core t.k);exact h.trans ((eU (g:=bJ.id) (λ_ _=>rfl) (λ_ _=>rfl) (λ_ _ _=>rfl)).trans (hI.ob t fU).1))
  (by rw [h1];exact Sj.ar) (λx=>(hc x).trans (Sj.core x)) hgo
 grind [aT,bL,af,bp,core,ef,gh,cX,toR,bT]
end y
section z
variable {S S' S2:bB} {g:List Int} {t u:Th} {d to k i j:Nat} {name ay:ByteArray} {O O':d9} {h dZ id z:Int} {c:aN} {R:RS} {o:bJ} {n:aO}
theorem T8 (hr:RelR S g) (c:aN) (bZ:c.op=5):ef (match ic (toR S g) c.aL c.name 192 with|.error e=>(toR S g,0,e)|.ok d=>iF (toR S g) c d) (fo S c).1 (fo S c).2.1 (fo S c).2.2.answer:=by
 have hI:=hr.inv.toInv0
 unfold fo
 rw [p8 hr]
 rcases kI hI c.aL c.name 192 with ⟨e,h,he⟩|⟨d,h,hd,-⟩
 ·rw [h];exact .bad rfl he
 rw [h]
 simp only
 unfold iF
 rw [agV zc,agV zc]
 by_cases hm:jS c.mode
 rotate_left
 ·grind [ef,ic,toR,iF,fo]
 rw [agW hm,agW hm,agW bZ]
 rcases xj (n:=⟨0,1,c.mode,0,0,0,0,[],⟨#[]⟩,[]⟩) hr hd c.name (λq=>agY (show (1:Int)=3 from q.1) Pd) with ⟨h1,h2⟩|⟨h1,h2⟩
 rotate_left
 ·simp only
  rw [h2,agV h1,agV h1];exact .bad rfl h1
 simp only
 rw [h2,agW h1,agW (show (jV (toR S g) (bT S ⟨d,2⟩) c.name ⟨0,1,c.mode,0,0,0,0,[],⟨#[]⟩,[]⟩,(0:Int)).2=0 from rfl)]
 obtain⟨hA,hG⟩:=FZ (name:=c.name) (o:=cR S.X 1 c.mode) (n:=⟨0,1,c.mode,0,0,0,0,[],⟨#[]⟩,[]⟩) hr hd ⟨rfl,rfl,rfl,rfl,rfl⟩ ⟨rfl,rfl,rfl,rfl,rfl,rfl,rfl⟩
 rw [hA]
 obtain⟨S1,hS1⟩:∃S1,S1=gn S d c.name (cR S.X 1 c.mode):=⟨_,rfl⟩
 rw [←hS1] at hG ⊢
 have hk:=qX hI
 have htd:bA S.X≠d:=λe=>hI.fresh.ar _ (get_mem hd) e.symm
 have hidx:S1.ar=S.ar++[(S.X.last+1,⟨bA S.X,1⟩)]:=by rw [hS1];exact FY hI
 have jv:(toR S1 g).ns.length-1=S.ar.length:=by
  show (aX S1).length-1=_
  rw [ia,hidx,ag4];rfl
 have hnd:(nd (toR S1 g).ns S.ar.length).id=(bA S.X:Int):=by
  show (nd (aX S1) S.ar.length).id=_
  rw [pu Pe,hk]
  show gH S1 S.ar.length=_
  grind [gH]
 unfold oA
 rw [agW h1]
 unfold kV
 have iy:(toR S1 g).us=tM S.us:=by rw [hS1];rfl
 have hcH:(toR S1 g).cH=S.X.cH:=by rw [hS1];rfl
 have hpk:(toR S1 g).aJ=S.aJ:=by rw [hS1];rfl
 rw [jv,hnd,iy,hcH,hpk,CM,EW]
 by_cases hc:(S.us.length:Int)<S.X.cH
 rotate_left
 ·grind [ef,ic,toR,iF,fo]
 rw [agW hc,agW hc]
 have hat:∀(o:bJ) x,af (dg S.X (aZ S.O (bA S.X) (λ_=>o)) d c.name ⟨bA S.X,1⟩) x=_:=λo x=>sU (X:=S.X) (O:=aZ S.O (bA S.X) (λ_=>o)) (d:=d) (name:=c.name) (t:=⟨bA S.X,1⟩) (k:=x) htd
 have hO1:S1.O=dg S.X (aZ S.O (bA S.X) (λ_=>cR S.X 1 c.mode)) d c.name ⟨bA S.X,1⟩:=by rw [hS1];rfl
 have hboth:∀x,core (af (dg S.X (aZ S.O (bA S.X) (λ_=>{cR S.X 1 c.mode with aK:=1})) d c.name ⟨bA S.X,1⟩) x)=core (af S1.O x)/\(af (dg S.X (aZ S.O (bA S.X) (λ_=>{cR S.X 1 c.mode with aK:=1})) d c.name ⟨bA S.X,1⟩) x).aG=(af S1.O x).aG:=λx=>by
  rw [hO1,hat,hat]
  by_cases hx:x=d
  ·grind [j8]
  rw [agV hx,agV hx]
  by_cases hx2:x=bA S.X
  ·rw [agW hx2,agW hx2,j8,j8,agW hx2,agW hx2];exact⟨rfl,rfl⟩
  grind [j8]
 refine .ok rfl ?_ (Sg (t:=⟨bA S.X,1⟩)).symm rfl ?_ ?_ rfl
 ·show aX S1=aX _
  grind [Dz,gn,ins,bA,cR]
 ·rw [hS1];exact⟨rfl,rfl,rfl,rfl,rfl,rfl⟩
 rw [hS1] at hG
 exact hG.same (λx=>by have h:=(hboth x).2;rw [hS1] at h;exact h)
theorem Md (hr:RelR S g) (hd:aT S.ar ⟨d,2⟩) (name:ByteArray):ef ((iE (toR S g) (bT S ⟨d,2⟩) name false).1,0,(iE (toR S g) (bT S ⟨d,2⟩) name false).2) (iA S d name).1 (iA S d name).2 0:=by
 have hI:=hr.inv.toInv0
 unfold iE iA
 rcases mq hr hd name with ⟨h1,h2⟩|⟨t,h1,h2,hl,hk,htd⟩
 ·grind [bV,toR,bT,aT,ef,iE,iA]
 rw [h1,agW (show 0<=bV (toR S g).ns (bT S ⟨d,2⟩) name by rw [h2];omega),h2,aho]
 simp only
 rw [mW hI hl]
 by_cases h3:t.kind=2
 ·rw [agW ⟨trivial,h3⟩,agW h3];exact .bad rfl (show (172:Int)≠0 by decide)
 rw [agV (λq=>h3 q.2),agV (λq=>by cases q.1),agV (λq=>by cases q.1),agV h3]
 exact Px hr hd h1 rfl (λ_=>rfl) (λ_=>rfl)
theorem Me (hr:RelR S g) (hd:aT S.ar ⟨d,2⟩) (name:ByteArray):ef ((iE (toR S g) (bT S ⟨d,2⟩) name true).1,0,(iE (toR S g) (bT S ⟨d,2⟩) name true).2) (iZ S d name).1 (iZ S d name).2 0:=by
 have hI:=hr.inv.toInv0
 unfold iE iZ
 rcases mq hr hd name with ⟨h1,h2⟩|⟨t,h1,h2,hl,hk,htd⟩
 ·grind [bV,toR,bT,aT,ef,iE,iZ]
 rw [h1,agW (show 0<=bV (toR S g).ns (bT S ⟨d,2⟩) name by rw [h2];omega),h2,aho]
 simp only
 rw [mW hI hl,agV (λq=>by cases q.1)]
 by_cases h3:t.kind=2
 rotate_left
 ·rw [agW ⟨trivial,h3⟩,agV h3];exact .bad rfl (show (173:Int)≠0 by decide)
 rw [agV (λq=>q.2 h3),agW h3]
 have hel:(jL S.O (t.k:Int) t).ah.length=(af S.O t.k).ah.length:=ahf ..
 rw [hel]
 by_cases h4:(af S.O t.k).ah=[]
 ·rw [agV Pe,agW h4]
  exact Px hr hd h1 (S2:={bp S d name t with O:=jg (bp S d name t).O t.k}) rfl (λx=>eG (g:=core) (f:=λo=>{o with up:=none}) (λ_=>rfl)) (λx=>eG (g:=bJ.aG) (f:=λo=>{o with up:=none}) (λ_=>rfl))
 rw [agW ⟨trivial,List.length_pos_iff.2 h4⟩,agV h4];exact .bad rfl (show (178:Int)≠0 by decide)
theorem T9 (hr:RelR S g) (c:aN) (bZ:c.op=8):ef (match ic (toR S g) c.aL c.name 192 with|.error e=>(toR S g,0,e)|.ok d=>iF (toR S g) c d) (jA S c).1 (jA S c).2.1 0:=by
 unfold jA
 rw [p8 hr]
 rcases kI hr.inv.toInv0 c.aL c.name 192 with ⟨e,h,he⟩|⟨d,h,hd,-⟩
 ·rw [h];exact .bad rfl he
 rw [h]
 simp only
 unfold iF
 rw [agW (.inl bZ),show decide (c.op=14)=false from agZ zc]
 exact Md hr hd c.name
theorem WT (hr:RelR S g) (c:aN) (bZ:c.op=14):ef (match ic (toR S g) c.aL c.name 192 with|.error e=>(toR S g,0,e)|.ok d=>iF (toR S g) c d) (j9 S c).1 (j9 S c).2.1 0:=by
 unfold j9
 rw [p8 hr]
 rcases kI hr.inv.toInv0 c.aL c.name 192 with ⟨e,h,he⟩|⟨d,h,hd,-⟩
 ·rw [h];exact .bad rfl he
 grind [iF,Me]
end z
theorem GA {α:Type} {p q:α->Bool} (h:∀x,p x=true->q x=true):∀{l:List α} {a:α},a∈l->q a=true->p a=false->l.countP p<l.countP q
 |b::r,a,ha,hq,hp=>by
   rw [List.countP_cons,List.countP_cons]
   have hm:r.countP p<=r.countP q:=List.countP_mono_left (λx _ hx=>h x hx)
   rcases aha.1 ha with rfl|ha
   ·rw [agW hq,agV (by rw [hp];decide)];omega
   have:=GA h ha hq hp
   by_cases hb:p b=true
   ·rw [agW hb,agW (h b hb)];omega
   rw [agV hb];omega
theorem Py {ns:List aO} {id:Int}:∀n,(∀i,i<n->¬0<iR (nd ns i).ah id (nd ns i).ah.length)->oG ns id n = -1
 |0,_=>rfl
 |n+1,h=>by
   unfold oG
   rw [agV (h n (ahn n))];exact Py n (λi hi=>h i zc)
theorem Pz {ns:List aO} {id:Int} {z:Nat} (hp:0<iR (nd ns z).ah id (nd ns z).ah.length):∀n,z<n->(∀i,i<n->0<iR (nd ns i).ah id (nd ns i).ah.length->i=z)->oG ns id n=(z:Int)
 |n+1,hz,hu=>by
   unfold oG
   by_cases h:0<iR (nd ns n).ah id (nd ns n).ah.length
   ·rw [agW h,hu n (ahn n) h]
   rw [agV h]
   exact Pz hp n Pe (λi hi=>hu i zc)
section q
variable {S S' S2:bB} {g:List Int} {t u:Th} {d to k i j:Nat} {name ay:ByteArray} {O O':d9} {h dZ id z:Int} {c:aN} {R:RS} {o:bJ} {n:aO}
theorem Sk (hI:Inv0 S) (hi:i<S.ar.length):0<iR (nd (aX S) i).ah (k:Int) (nd (aX S) i).ah.length↔∃e∈(af S.O (jl S i).k).ah,e.2.k=k:=by
 have hl:=(FX hI.ix hi).1
 rw [pu hi]
 show 0<iR ((af S.O (jl S i).k).ah.map (gy S.O)) _ ((af S.O (jl S i).k).ah.map (gy S.O)).length↔_
 rw [ahf,DC (λe he=>(hI.ob _ (hI.ah _ hl e he).2).1) _ (ag5 _),ahl,List.countP_pos_iff]
 grind
theorem adZ (hI:Inv0 S) (hu:aT S.ar u) (h2:u.kind=2):oG (aX S) (u.k:Int) (aX S).length=match (af S.O u.k).up with|none=>-1|some j=>(bT S ⟨j,2⟩:Int):=by
 have key:∀i,i<S.ar.length->0<iR (nd (aX S) i).ah (u.k:Int) (nd (aX S) i).ah.length->(af S.O u.k).up=some (jl S i).k/\jl S i=⟨(jl S i).k,2⟩:=λi hi hp=>by
  obtain⟨e,he,hek⟩:=(Sk hI hi).1 hp
  have hl:=(FX hI.ix hi).1
  have hk2:(jl S i).kind=2:=by
   apply ahk
   intro hn
   have h3:=(hI.mt _ hl).ah (by rw [(hI.ob _ hl).2.1];exact hn)
   rw [h3] at he;cases he
  have ht:jl S i=⟨(jl S i).k,2⟩:=by rw [←hk2]
  have heu:e.2=u:=jt (hI.ah _ hl e he).2 hu hek
  refine⟨(hI.up u hu _).2 ⟨h2,by rw [←ht];exact hl,e.1,?_⟩,ht⟩
  exact Ac (hI.pP hl) (by rw [←heu];exact he)
 rw [ia]
 cases e:(af S.O u.k).up with
 |none=>
   grind [Py]
 |some j=>
   obtain⟨_,hj,nm,hnm⟩:=(hI.up u hu j).1 e
   have hp:=nN hI.ix hj
   refine Pz ((Sk hI hp.2.1).2 ⟨(nm,u),?_,rfl⟩) _ hp.2.1 (λi hi hq=>?_)
   ·rw [hp.2.2.1];exact rE hnm
   obtain⟨h3,h4⟩:=key i hi hq
   rw [e] at h3
   injection h3 with h3
   refine JQ hI.ix hi hp.2.1 ?_
   rw [(FX hI.ix hi).2,hp.2.2.2.1,←h3]
theorem WU (hI:Inv0 S) (ht:aT S.ar t) (h2:t.kind=2) (d6:aT S.ar ⟨to,2⟩):jE (aX S) (bT S t) ((aX S).length+1) (bT S ⟨to,2⟩)=true↔su S.O t.k to:=by
 obtain⟨dp,hdp⟩:=hI.deep
 have main:∀(f d:Nat),aT S.ar ⟨d,2⟩->S.ar.countP (λp=>decide (dp p.2.k<dp d))<f->(jE (aX S) (bT S t) f (bT S ⟨d,2⟩)=true↔su S.O t.k d):=by
  intro f
  induction f with
  |zero=>intro d _ h;omega
  |succ f ih=>
    intro d hd hm
    have hp:=nN hI.ix hd
    unfold jE
    by_cases hdt:bT S ⟨d,2⟩=bT S t
    ·rw [agW hdt]
     have:=Sd hI.ix hd ht hdt
     rw [←this]
     exact⟨λ_=>.here,λ_=>rfl⟩
    rw [agV hdt,hp.2.2.2.2.2]
    show (if oG (aX S) (d:Int) (aX S).length<0 then false else jE (aX S) (bT S t) f (oG (aX S) (d:Int) (aX S).length).toNat)=true↔_
    have hu:oG (aX S) (d:Int) (aX S).length=_:=adZ hI hd rfl
    have hdk:d≠t.k:=λe=>hdt (by rw [show (⟨d,2⟩:Th)=t by rw [e,←h2]])
    cases e:(af S.O d).up with
    |none=>
      rw [show (af S.O (⟨d,2⟩:Th).k).up=none from e] at hu
      replace hu:oG (aX S) (d:Int) (aX S).length = -1:=hu
      rw [hu,agW Pd]
      refine⟨λq=>agY q (by decide),λq=>?_⟩
      cases q with
      |here=>exact agY rfl hdk
      |up h3 _=>rw [e] at h3;cases h3
    |some j=>
      rw [show (af S.O (⟨d,2⟩:Th).k).up=some j from e] at hu
      replace hu:oG (aX S) (d:Int) (aX S).length=(bT S ⟨j,2⟩:Int):=hu
      obtain⟨_,hj,_⟩:=(hI.up _ hd j).1 e
      have fU:=hdp d j e
      rw [hu,agV zc,aho,ih j hj (ahg (GA (p:=λp:Int×Th=>decide (dp p.2.k<dp j)) (q:=λp=>decide (dp p.2.k<dp d)) (λx hx=>ahh (by have:=ahL hx;omega)) (get_mem hj) (ahh fU) (agZ (ahO _))) (Nat.lt_succ_iff.1 hm))]
      refine⟨λq=>.up e q,λq=>?_⟩
      cases q with
      |here=>exact agY rfl hdk
      |up h3 h4=>rw [e] at h3;injection h3 with h3;rw [h3];exact h4
 grind [ia]
end q
section j
variable {S S' S2:bB} {g:List Int} {t u:Th} {d to k i j:Nat} {name ay:ByteArray} {O O':d9} {h dZ id z:Int} {c:aN} {R:RS} {o:Th} {n:aO}
theorem GD {X:FM} {x:Nat}:(af (bq X O d name t) x).aG=(af O x).aG:=eU (g:=bJ.aG) (λ_ _=>rfl) (λ_ _=>rfl) (λ_ _ _=>rfl)
theorem E0 {X:FM} {x:Nat}:(af (bq X O d name t) x).aK=(af O x).aK:=eU (g:=bJ.aK) (λ_ _=>rfl) (λ_ _=>rfl) (λ_ _ _=>rfl)
theorem BQ {X:FM} {x:Nat}:(af (bq X O d name t) x).id=(af O x).id:=eU (g:=bJ.id) (λ_ _=>rfl) (λ_ _=>rfl) (λ_ _ _=>rfl)
theorem GF {X:FM} {x:Nat}:(af (dg X O d name t) x).aG=(af O x).aG:=mh (g:=bJ.aG) (λ_ _=>rfl) (λ_ _=>rfl) (λ_ _ _=>rfl) (λ_ _=>rfl)
theorem E4 {X:FM} {x:Nat}:(af (dg X O d name t) x).aK=(af O x).aK:=mh (g:=bJ.aK) (λ_ _=>rfl) (λ_ _=>rfl) (λ_ _ _=>rfl) (λ_ _=>rfl)
theorem Mf {X:FM} {x:Nat}:(af (dg X O d name t) x).id=(af O x).id:=mh (g:=bJ.id) (λ_ _=>rfl) (λ_ _=>rfl) (λ_ _ _=>rfl) (λ_ _=>rfl)
theorem ZK (hr:RelR S g) (hd:aT S.ar ⟨d,2⟩) (hl:bL name (af S.O d).ah=some t):(af S.O t.k).aG≠true:=λh=>by
 have hI:=hr.inv.toInv0
 have fU:=(hr.inv.bS hd hl).2
 have h2:=hI.aG t fU h
 have h3:=hI.aV t fU
 have h4:=qW (ar:=S.ar) hd hl
 omega
theorem GH (R:RS) (d:Nat) (name:ByteArray):(cX R d name false).aG=R.aG:=by
 grind [cX]
theorem Sl {S1:bB} (hx:qw S.ar) (hi:S1.ar=S.ar) (hX:S1.X.cS=S.X.cS/\S1.X.cZ=S.X.cZ) (hns:R.ns=aX S1) (hRs:R.cS=S.X.cS/\R.cZ=S.X.cZ) (hd:aT S.ar ⟨d,2⟩) (d6:aT S.ar ⟨to,2⟩) (htd:t.k≠d) (BP:t.k≠to) (hid:(af S1.O t.k).id=(t.k:Int))
 (hi2:S2.ar=S.ar) (hO:S2.O=dg S1.X (bq S1.X S1.O d name t) to ay t) :
 (dh (cX R (bT S ⟨d,2⟩) name false) (bT S ⟨to,2⟩) ay (t.k:Int)).ns=aX S2:=by
 have hx1:qw S1.ar:=by rw [hi];exact hx
 have jD:aT S1.ar ⟨d,2⟩:=by rw [hi];exact hd
 have oP:aT S1.ar ⟨to,2⟩:=by rw [hi];exact d6
 have hl:=zi (S:=S1) (S':={S1 with O:=bq S1.X S1.O d name t}) (name:=name) hx1 jD htd rfl (λ_=>rfl)
 have he:=DB (S:={S1 with O:=bq S1.X S1.O d name t}) (S':={S1 with O:=dg S1.X (bq S1.X S1.O d name t) to ay t}) (name:=ay) (id:=(t.k:Int)) hx1 oP BP (BQ.trans hid) rfl
 grind [aX,dg,bq,bT,ZI,nG,mM,nd,aT,af,dh,cX]
theorem WW (hr:RelR S g) (hd:aT S.ar ⟨d,2⟩) (hl:bL name (af S.O d).ah=some t) (d6:aT S.ar ⟨to,2⟩) (BP:t.k≠to) :
 ef (gh (dh (cX (toR S g) (bT S ⟨d,2⟩) name false) (bT S ⟨to,2⟩) ay (t.k:Int)),0,0) 0 (pK S d name to ay t) 0:=by
 have hI:=hr.inv.toInv0
 have fU:=(hr.inv.bS hd hl).2
 have htd:=hr.inv.ne hd hl
 obtain⟨S2,yM⟩:∃S2,S2=pK S d name to ay t:=⟨_,rfl⟩
 have hi2:S2.ar=S.ar:=by rw [yM];rfl
 have JR:S2.O=dg S.X (bq S.X S.O d name t) to ay t:=by rw [yM];rfl
 have hgo:∀x,(af S2.O x).aG=(af S.O x).aG:=λx=>by rw [JR];exact GF.trans GD
 have hns:(dh (cX (toR S g) (bT S ⟨d,2⟩) name false) (bT S ⟨to,2⟩) ay (t.k:Int)).ns=aX S2:=Sl (S1:=S) hI.ix rfl ⟨rfl,rfl⟩ rfl ⟨rfl,rfl⟩ hd d6 htd BP (hI.ob t fU).1 hi2 JR
 have j3:(dh (cX (toR S g) (bT S ⟨d,2⟩) name false) (bT S ⟨to,2⟩) ay (t.k:Int)).aG=g:=GH (toR S g) (bT S ⟨d,2⟩) name
 have hsw:=BO (S1:=S2) (S2:=S2) (O2:=S2.O) (Pp:=S.us) (R:=dh (cX (toR S g) (bT S ⟨d,2⟩) name false) (bT S ⟨to,2⟩) ay (t.k:Int)) (t:=t) (by rw [hi2];exact hI.ix) hns rfl
  (by rw [j3,hi2];exact hr.aG.same hgo) (by rw [hi2];exact fU)
  (λu hu _ Mc=>by grind [KT])
  (by rw [JR,E4,E0];exact hI.aK t fU) (by rw [JR,Mf,BQ];exact (hI.ob t fU).1)
  (by unfold kT;rw [agV];exact λq=>ZK hr hd hl ((hgo _).symm.trans q.1)) (λ_=>rfl) (λ_=>rfl)
 grind [aT,bL,af,ef,gh,dh,cX,toR,bT,pK]
theorem Ua {ar:bE Th} (h1:(af O' o.k).aG=(af O o.k).aG) (h2:(af O' o.k).aK=(af O o.k).aK) (h3:(af O' o.k).id=(af O o.k).id):kT O' ar o=kT O ar o:=by
 grind [ul,kT]
theorem WX (hr:RelR S g) (hd:aT S.ar ⟨d,2⟩) (hl:bL name (af S.O d).ah=some t) (d6:aT S.ar ⟨to,2⟩) (BP:t.k≠to) (ho:bL ay (af S.O to).ah=some o) :
 ef (gh (dh (cX (cX (toR S g) (bT S ⟨to,2⟩) ay true) (bT S ⟨d,2⟩) name false) (bT S ⟨to,2⟩) ay (t.k:Int)),0,0) 0 (pK (bp S to ay o) d name to ay t) 0:=by
 have hI:=hr.inv.toInv0
 have fU:=(hr.inv.bS hd hl).2
 have hlo:=(hr.inv.bS d6 ho).2
 have htd:=hr.inv.ne hd hl
 obtain⟨e1,e2,e3,e4,e5⟩:=Pw hr d6 ho
 obtain⟨D,hD⟩:∃D,D=bp S to ay o:=⟨_,rfl⟩
 rw [←hD] at e1 e2 e3 e4 e5 ⊢
 obtain⟨g1,hg1⟩:∃g1,g1=(cX (toR S g) (bT S ⟨to,2⟩) ay true).aG:=⟨_,rfl⟩
 rw [←hg1] at e1
 have hDX:D.X.cS=S.X.cS/\D.X.cZ=S.X.cZ:=by rw [hD];exact⟨rfl,rfl⟩
 obtain⟨R,hR⟩:∃R,R=dh (cX (cX (toR S g) (bT S ⟨to,2⟩) ay true) (bT S ⟨d,2⟩) name false) (bT S ⟨to,2⟩) ay (t.k:Int):=⟨_,rfl⟩
 obtain⟨S2,yM⟩:∃S2,S2=pK D d name to ay t:=⟨_,rfl⟩
 have JR:S2.O=dg D.X (bq D.X D.O d name t) to ay t:=by rw [yM];rfl
 have hi2:S2.ar=D.ar:=by rw [yM];rfl
 have hgo:∀x,(af S2.O x).aG=(af D.O x).aG:=λx=>by rw [JR];exact GF.trans GD
 have bZ:∀x,(af S2.O x).aK=(af S.O x).aK:=λx=>by rw [JR];exact (E4.trans E0).trans (e4 x)
 have ad0:∀x,(af D.O x).id=(af S.O x).id:=λx=>by
  have h:=agX bJ.id (e3 x)
  have h:(af D.O x).id=(af (bq S.X S.O to ay o) x).id:=h
  exact h.trans BQ
 have hid:∀x,(af S2.O x).id=(af D.O x).id:=λx=>by rw [JR];exact Mf.trans BQ
 have hn1:(cX (toR S g) (bT S ⟨to,2⟩) ay true).ns=aX {S with O:=D.O,X:=D.X}:=
  (zi (S:=S) (S':={S with O:=D.O,X:=D.X}) hI.ix d6 (hr.inv.ne d6 ho) rfl e3).symm
 have hns:R.ns=aX {S2 with ar:=S.ar}:=by
  rw [hR]
  exact Sl (S:=S) (S1:={S with O:=D.O,X:=D.X}) (S2:={S2 with ar:=S.ar}) hI.ix rfl hDX hn1 ⟨rfl,rfl⟩ hd d6 htd BP ((ad0 _).trans (hI.ob t fU).1) rfl JR
 have j3:R.aG=g1:=by rw [hR,hg1];exact GH (cX (toR S g) (bT S ⟨to,2⟩) ay true) (bT S ⟨d,2⟩) name
 have hsw:=BO (S1:={S2 with ar:=S.ar}) (S2:=S2) (O2:=S2.O) (Pp:=S.us) (R:=R) (t:=o) hI.ix hns (by rw [hR];rfl)
  (by rw [j3];exact e1.same hgo) hlo
  (λu hu bX Mc=>by
   rw [hgo,e5 u.k (λe=>bX (jt hu hlo e))] at Mc
   exact KT hr hu Mc)
  (by rw [bZ];exact hI.aK o hlo) (by rw [hid,ad0];exact (hI.ob o hlo).1)
  (by
   rw [hi2,e2]
   exact (Ua (hgo _) ((bZ _).trans (e4 _).symm) (hid _)).symm) (λ_=>rfl) (λ_=>rfl)
 grind [aT,bL,af,ef,gh,dh,cX,toR,bT,pK,bp]
theorem Mg (hr:RelR S g) (hd:aT S.ar ⟨d,2⟩) (d6:aT S.ar ⟨to,2⟩) (name ay:ByteArray):ef ((gY (toR S g) (bT S ⟨d,2⟩) name (bT S ⟨to,2⟩) ay).1,0,(gY (toR S g) (bT S ⟨d,2⟩) name (bT S ⟨to,2⟩) ay).2) (dm S d name to ay).1 (dm S d name to ay).2 0:=by
 have hI:=hr.inv.toInv0
 unfold gY dm
 rcases mq hr hd name with ⟨h1,h2⟩|⟨t,h1,h2,hl,hk,htd⟩
 ·grind [bV,toR,bT,aT,ef,gY,dm]
 rw [h1,agW (show 0<=bV (toR S g).ns (bT S ⟨d,2⟩) name by rw [h2];omega),h2,aho]
 simp only
 rw [mW hI hl]
 have hb:t.kind=2->(jE (toR S g).ns (bT S t) ((toR S g).ns.length+1) (bT S ⟨to,2⟩)=true↔su S.O t.k to):=λq=>WU hI hl q d6
 simp only [show (jL S.O (t.k:Int) t).kind=t.kind from rfl,show (jL S.O (t.k:Int) t).id=(t.k:Int) from rfl]
 by_cases h3:t.kind=2/\su S.O t.k to
 ·grind [jE,toR,bT,aT,ef,gY,dm]
 rw [agV (show ¬(t.kind=2/\jE (toR S g).ns (bT S t) ((toR S g).ns.length+1) (bT S ⟨to,2⟩)=true) from λq=>h3 ⟨q.1,(hb q.1).1 q.2⟩),agV h3]
 have BP:t.k≠to:=λe=>by
  have h4:t=⟨to,2⟩:=jt hl d6 e
  exact h3 ⟨by rw [h4],by rw [e];exact .here⟩
 rcases mq hr d6 ay with ⟨h4,h5⟩|⟨o,h4,h5,hlo,hko,hot⟩
 ·grind [bV,toR,bT,WW]
 rw [h4,h5]
 simp only
 by_cases h6:o=t
 ·rw [agW (by rw [h6]),agW h6];exact .same hr rfl
 rw [agV (λq=>h6 (Sd hI.ix hlo hl zc)),agV h6,agW zc,aho,mW hI hlo]
 grind [jL,WX,aT,ef,gY,toR,bT,dm]
theorem Ub (hr:RelR S g) (c:aN):ef (match qC (toR S g) c 192 with|.error e=>(toR S g,0,e)|.ok (f,to)=>((gY (toR S g) f c.name to c.text).1,0,(gY (toR S g) f c.name to c.text).2)) (iQ S c).1 (iQ S c).2.1 0:=by
 unfold qC iQ
 rw [p8 hr,p8 hr]
 rcases kI hr.inv.toInv0 c.aL c.name 192 with ⟨e,h,he⟩|⟨d,h,hd,-⟩
 ·rw [h];exact .bad rfl he
 rw [h]
 simp only
 rcases kI hr.inv.toInv0 c.other c.text 192 with ⟨e,h,he⟩|⟨to,h,d6,-⟩
 ·rw [h];exact .bad rfl he
 grind [Mg]
end j
section g
variable {S S' S2:bB} {g:List Int} {t u:Th} {d to k i j:Nat} {c:aN}
theorem ef.an {a:wz} {code an an':Int} (h:ef a code S' an) (h2:code=0->an=an'):ef a code S' an':=⟨h.1,λq=>by obtain⟨g',h3,h4,h5⟩:=h.2 q;exact⟨g',h3,h4,h5.trans (h2 q)⟩⟩
theorem ZL (h:(eE S t).2.1≠0):(eE S t).1=0:=by
 grind [om,oQ]
def Told (c:aN) (m:vz):Prop:=m.2.2={c with answer:=m.2.2.answer}/\(m.1≠0->m.2.2.answer=c.answer)
theorem Told.plain {m:vz} (h:m.2.2=c):Told c m:=⟨by rw [h],λ_=>by rw [h]⟩
theorem E5 (h0:c.answer=0):Told c ((eE S t).2.1,(eE S t).2.2,{c with answer:=(eE S t).1}):=⟨rfl,λh=>ahY (ZL (S:=S) (t:=t) h) h0.symm⟩
theorem WY (h0:c.answer=0):Told c (kU S c):=by
 unfold kU
 split
 ·exact .plain rfl
 split
 ·exact E5 h0
 exact .plain rfl
theorem ZM (h0:c.answer=0):Told c (gV S c):=by
 unfold gV
 split
 ·exact .plain rfl
 split
 ·exact .plain rfl
 split
 ·exact .plain rfl
 exact E5 h0
theorem WZ (h0:c.answer=0):Told c (fV S c):=by
 unfold fV
 split
 ·exact .plain rfl
 split
 ·exact .plain rfl
 split
 ·exact .plain rfl
 exact E5 h0
theorem QW (h0:c.answer=0):Told c (fo S c):=by
 unfold fo
 split
 ·exact .plain rfl
 split
 ·split
  all_goals grind [oA,Told,fo]
 exact .plain rfl
theorem Uc (h0:c.answer=0):Told c (ij S c):=by
 unfold ij
 split
 ·exact .plain rfl
 split
 all_goals grind [gD,Told,ij]
theorem W4 (hr:RelR S g) (c:aN) (bZ:¬(c.op=11\/c.op=12)):ef (cu (toR S g) c) (iC S (c0 c)).1 (iC S (c0 c)).2.1 (iC S (c0 c)).2.2.answer/\Told (c0 c) (iC S (c0 c)):=by
 have plain:∀{a:wz} {m:vz},m.2.2=c0 c->ef a m.1 m.2.1 0->ef a m.1 m.2.1 m.2.2.answer/\Told (c0 c) m:=λ{a m} h1 h2=>⟨h2.an (λ_=>by rw [h1]),.plain h1⟩
 unfold cu
 by_cases h1:c.op=1
 ·rw [agW h1,y8 (c:=c0 c) h1];exact⟨ZE hr (c0 c),WY rfl⟩
 rw [agV h1]
 by_cases h2:c.op=2
 ·rw [agW h2,Bp (c:=c0 c) h2];exact⟨QU hr (c0 c),ZM rfl⟩
 rw [agV h2]
 by_cases h3:c.op=3
 ·rw [agW h3,Bq (c:=c0 c) h3];exact⟨Pr hr (c0 c),WZ rfl⟩
 rw [agV h3]
 by_cases h4:c.op=4\/c.op=5\/c.op=6\/c.op=8\/c.op=14
 ·rw [agW h4]
  rcases h4 with h|h|h|h|h
  ·grind [y9,ja,WR]
  ·rw [Br (c:=c0 c) h];exact⟨T8 hr (c0 c) h,QW rfl⟩
  ·grind [Bt,iB,QV]
  ·grind [Bv,jA,T9]
  grind [xY,j9,WT]
 rw [agV h4]
 by_cases h7:c.op=7
 ·grind [Bu,dV,ZJ]
 rw [agV h7]
 by_cases h9:c.op=9
 ·rw [agW h9,Bw (c:=c0 c) h9]
  exact⟨(ZH hr (c0 c)).an (λq=>agW q),Uc rfl⟩
 rw [agV h9]
 by_cases h10:c.op=10
 ·grind [xU,cY,ZG]
 rw [agV h10]
 by_cases si:c.op=13
 ·grind [xX,jT,WN]
 rw [agV si]
 by_cases NA:c.op=15
 ·grind [xZ,iQ,Ub]
 grind [iC,ef,cu,toR,Told]
theorem ZN (hr:RelR S g) (c:aN):∃g',tH (toR S g) c=(toR (gF S c).1 g',(gF S c).2)/\RelR (gF S c).1 g':=by
 unfold tH
 by_cases bZ:c.op=11\/c.op=12
 ·rw [agW bZ,ZF hr c bZ];exact⟨g,rfl,hr⟩
 rw [agV bZ]
 obtain⟨h1,h2,h3⟩:=W4 hr c bZ
 by_cases h0:(iC S (c0 c)).1=0
 ·rw [agW (h1.1.trans h0)]
  obtain⟨g',e1,e2,e3⟩:=h1.2 h0
  refine⟨g',?_,hr.inv.gF c,e2⟩
  grind [toR,iC,tH,gF]
 rw [agV (λq=>h0 (h1.1.symm.trans q))]
 have hS:(gF S c).1=S:=ab0 (c:=c) h0
 refine⟨g,?_,by rw [hS];exact hr⟩
 rw [hS,h1.1]
 grind [iC,tH,toR,gF]
end g
end
section
open Go.RowKit
section
variable {O:d9} {k:Nat} {kd:Int}
theorem yD (L:HL) (h:(af O k).kind=kd) (h0:kd≠0:=by decide):∀F w,(aY (eM O L)).h F w->w.cell? ⟨L.b k,0,none⟩=some (.int .i64 (af O k).id):=iY (by rw [h];exact h0) rfl
theorem AK (L:HL) (h:(af O k).kind=kd) (h0:kd≠0:=by decide):∀F w,(aY (eM O L)).h F w->w.cell? ⟨L.b k,1,none⟩=some (.int .i64 (af O k).mode):=iY (by rw [h];exact h0) rfl
theorem F5 (L:HL) (h:(af O k).kind=kd) (h0:kd≠0:=by decide):∀F w,(aY (eM O L)).h F w->w.cell? ⟨L.b k,2,none⟩=some (.int .i64 (af O k).bg):=iY (by rw [h];exact h0) rfl
theorem F6 (L:HL) (h:(af O k).kind=kd) (h0:kd≠0:=by decide):∀F w,(aY (eM O L)).h F w->w.cell? ⟨L.b k,3,none⟩=some (.int .i64 (af O k).bh):=iY (by rw [h];exact h0) rfl
theorem tL (L:HL) (h:(af O k).kind=kd) (h0:kd≠0:=by decide):∀F w,(aY (eM O L)).h F w->w.cell? ⟨L.b k,6,none⟩=some (.int .i64 (af O k).aV):=iY (by rw [h];exact h0) rfl
theorem qb (L:HL) (h:(af O k).kind=kd) (h0:kd≠0:=by decide):∀F w,(aY (eM O L)).h F w->w.cell? ⟨L.b k,7,none⟩=some (.int .i64 (af O k).aK):=iY (by rw [h];exact h0) rfl
theorem uh (L:HL) (h:(af O k).kind=kd) (h0:kd≠0:=by decide):∀F w,(aY (eM O L)).h F w->w.cell? ⟨L.b k,8,none⟩=some (.bool (af O k).aG):=iY (by rw [h];exact h0) rfl
theorem PA (L:HL) (h:(af O k).kind=1):∀F w,(aY (eM O L)).h F w->w.cell? ⟨L.b k,9,none⟩=some (.slice (L.dA k) (af O k).data.length (L.dC k)):=iY (by rw [h];decide) (by rw [mE h];rfl)
theorem dw (L:HL) (h:(af O k).kind=2):∀F w,(aY (eM O L)).h F w->w.cell? ⟨L.b k,9,none⟩=some (.map (some (L.m k))):=iY (by rw [h];decide) (by rw [rJ h];rfl)
theorem afS (L:HL) (h:(af O k).kind=2):∀F w,(aY (eM O L)).h F w->w.cell? ⟨L.b k,10,none⟩=some (IZ L (af O k).up):=iY (by rw [h];decide) (by rw [rJ h];rfl)
theorem ae3 (L:HL) (h:(af O k).kind=3):∀F w,(aY (eM O L)).h F w->w.cell? ⟨L.b k,9,none⟩=some (.string (af O k).target):=iY (by rw [h];decide) (by rw [Et h];rfl)
end
end
section
open Go.RowKit Go.Maps
theorem aY.step {R R':Nat->eH} {k:Nat} {F:Fp} {w w':World} (hF:(aY R).h F w) (hR:∀x,x≠k->R' x=R x) (hs:∀G,(R k).h G w->∃G',(R' k).h G' w'/\Step G w G' w'):∃F',(aY R').h F' w'/\Step F w F' w':=by
 obtain⟨φ,h1,h2,h3⟩:=hF
 obtain⟨G',g1,st⟩:=hs _ (h1 k)
 have hap:∀i,i≠k->∀x,G' x->φ i x->False:=λi bX x hx hy=>by
  rcases st.grow x hx with e|e
  ·exact h2 i k bX x hy e
  have:=(R i).lt (h1 i) x hy;omega
 refine⟨λx=>∃i,(if i=k then G' else φ i) x,⟨λi=>if i=k then G' else φ i,λi=>?_,λi j bX x hx hy=>?_,λx=>Iff.rfl⟩,⟨st.keeps.mono (λx _ hx=>(h3 x).2 ⟨k,hx⟩),λx ⟨i,hx⟩=>?_⟩⟩
 ·by_cases e:i=k
  ·subst e;simp only [if_true];exact g1
  simp only [e,if_false]
  rw [hR i e]
  exact (R i).st (h1 i) st.keeps (λx hx hk=>h2 i k e x hx hk)
 ·by_cases e1:i=k
  ·grind
  simp only [e1,if_false] at hx
  by_cases e2:j=k
  ·grind
  simp only [e2,if_false] at hy
  exact h2 i j bX x hx hy
 by_cases e:i=k
 ·simp only [e,if_true] at hx
  rcases st.grow x hx with h|h
  ·exact .inl ((h3 x).2 ⟨k,h⟩)
  exact .inr h
 grind
def KU (O:d9) (L:HL):Nat->HP
 |0=>.abs (aY (eM O L))
 |1=>.abs (aY (gq O L))
 |_=>.abs (aY (dS O L))
def wG (O:d9) (L:HL):List (Nat×Nat)->List (Nat×HP)
 |[]=>[]
 |q::r=>(q.1,KU O L q.2)::wG O L r
def BR (ax:List HP) (O:d9) (L:HL):List (Nat×Nat)->Prop
 |[]=>True
 |q::r=>ax[q.1]?=some (KU O L q.2)/\BR ax O L r
theorem CN {ax:List HP} {O O2:d9} {L:HL} {p:Nat} (he:∀q,q≠p->KU O2 L q=KU O L q):∀{js:List (Nat×Nat)},BR ax O L js->ox p (js.map (·.2))=false->tq ax (wG O2 L js)=ax
 |[],_,_=>rfl
 |q::r,h,hn=>by
   have hq:q.2≠p:=λe=>by
    rw [show ox p ((q::r).map (·.2))=true from tQ.2 (by simp [e])] at hn;cases hn
   have hr:ox p (r.map (·.2))=false:=by
    cases hb:ox p (r.map (·.2)) with
    |false=>rfl
    |true=>rw [show ox p ((q::r).map (·.2))=true from tQ.2 (ag6 _ (tQ.1 hb))] at hn;cases hn
   show tq (ax.set q.1 (KU O2 L q.2)) (wG O2 L r)=ax
   have e:ax.set q.1 (KU O2 L q.2)=ax:=by
    rw [he _ hq]
    refine List.ext_getElem? (λn=>?_)
    rw [List.getElem?_set]
    split
    ·rename_i e;subst e
     rw [h.1];split
     ·rfl
     rename_i fU;exact agY (dP h.1) fU
    rfl
   rw [e]
   exact CN he h.2 hr
def JS (P:Program) (N:fY) (ai:Nat->Value) (ops:Array Oper) (fr:Fr) (k:Nat):Option (Addr×Value):=
 match iT N ai ops fr k with
 |some (.store T a y,_)=>match (P.info? T).map (·.size) with
   |some 1=>match eY N fr ai a with
     |.pointer (some ad)=>some (ad,eY N fr ai y)
     |_=>none
   |_=>none
 |_=>none
def JT (N:fY) (ai:Nat->Value) (ops:Array Oper) (fr:Fr) (k:Nat):Option (TypeId×Nat×Value):=
 match iT N ai ops fr k with
 |some (.lookup t x ix false,_)=>match eY N fr ai x with
   |.map (some b)=>some (t,b,eY N fr ai ix)
   |_=>none
 |_=>none
def setAt (N:fY) (ai:Nat->Value) (ops:Array Oper) (fr:Fr) (k:Nat):Option (TypeId×Nat×Value×Value):=
 match iT N ai ops fr k with
 |some (.mapUpdate t x ix y,_)=>match eY N fr ai x with
   |.map (some b)=>some (t,b,eY N fr ai ix,eY N fr ai y)
   |_=>none
 |_=>none
def Ud (N:fY) (ai:Nat->Value) (ops:Array Oper) (fr:Fr) (k:Nat):Option (TypeId×TypeId×Nat×Value):=
 match iT N ai ops fr k with
 |some (.call ⟨.builtin .delete,xs,ts⟩,_)=>match xs.toList with
   |[x,ix]=>match ts.toList with
     |[t,K]=>match eY N fr ai x with
       |.map (some b)=>some (t,K,b,eY N fr ai ix)
       |_=>none
     |_=>none
   |_=>none
 |_=>none
def PB (L:HL):Option Th->Value
 |none=>.nilIface
 |some t=>iw L t
section rules
variable {β:Bs} {N:fY} {ops:Array Oper} {k x:Nat} {fr:Fr} {ax:List HP} {Q:Post} {O:d9} {L:HL} {name:ByteArray} {r:Option Th} {t:Th}
theorem CO {ai:Nat->Value} {op:Op} {d:Option Tmp} (h:iT N ai ops fr k=some (op,d)):d=jw ops k:=by
 grind [iO,jw]
theorem PD {P:Program} {ai:Nat->Value} {ad:Addr} {u:Value} (h:JS P N ai ops fr k=some (ad,u)):∃T a y,iT N ai ops fr k=some (.store T a y,jw ops k)/\(P.info? T).map (·.size)=some 1/\eY N fr ai a=.pointer (some ad)/\eY N fr ai y=u:=by
 grind [JS,CO]
theorem vf {ai:Nat->Value} {T:TypeId} {b:Nat} {key:Value} (h:JT N ai ops fr k=some (T,b,key)):∃a y,iT N ai ops fr k=some (.lookup T a y false,jw ops k)/\eY N fr ai a=.map (some b)/\eY N fr ai y=key:=by
 grind [JT,CO]
theorem ZO {ai:Nat->Value} {T:TypeId} {b:Nat} {key u:Value} (h:setAt N ai ops fr k=some (T,b,key,u)):∃a y z,iT N ai ops fr k=some (.mapUpdate T a y z,jw ops k)/\eY N fr ai a=.map (some b)/\eY N fr ai y=key/\eY N fr ai z=u:=by
 grind [setAt,CO]
theorem W5 {P:Program} {T:TypeId} {a y:Operand} {o:Oper} {ev:Operand->Value} {w:World} {ad:Addr} {u v0:Value} (ho:o.op=.store T a y) (hT:(P.info? T).map (·.size)=some 1) (ha:ev a=.pointer (some ad)) (hy:ev y=u) (hu:u.oneCell'=true) (hc:w.cell? ad=some v0) (hf:w.frozen? ad=false) (hs:ad.spot=none):sG P ev o w undef (w.setCell ad u):=by
 obtain⟨inf,hi,eT⟩:∃inf,P.info? T=some inf/\inf.size=1:=by
  cases h:P.info? T with
  |none=>rw [h] at hT;cases hT
  |some inf=>rw [h] at hT;exact⟨inf,rfl,by simpa using hT⟩
 have h3:=sC hi w
 rw [eT] at h3
 obtain⟨dst,op,type,pos,after,guard⟩:=o
 obtain⟨bk,off,spot⟩:=ad
 simp only at hs
 subst hs
 cases ho
 refine .inr ⟨rfl,?_⟩
 cases u<;>first
  |(simp [Value.oneCell'] at hu;done)
  |(simp only [execOp,ha,hy];simp [go_sem,Instr.storeAt,Instr.sureAddr,storeVar,h3,Value.cells,storeCells,store,Addr.add,Sem.run,hc,hf])
theorem oSt (i:Nat) (js:List (Nat×Nat)) (x j:Nat) (f:bJ->bJ) (u:Value) {kd:Int} (hk:(af O x).kind=kd)
 (K:∀O2,O2=aZ O x f->av Tryz.prog β N ops (k+1) (eW fr (jw ops k) undef) ((tq ax (wG O2 L js)).set i (.abs (aY (eM O2 L)))) Q)
 (hp:ax[i]?=some (.abs (aY (eM O L)))) (hj:BR ax O L js)
 (ho:∀ai,JS Tryz.prog N ai ops fr k=some (⟨L.b x,j,none⟩,u))
 (hn:ox 0 (js.map (·.2))=false) (h0:kd≠0) (hc:lM L x (f (af O x))=(lM L x (af O x)).set j u) (hu:u.oneCell'=true) (h9:j<(lM L x (af O x)).length)
 (he:(f (af O x)).ah=(af O x).ah) (hd:(f (af O x)).data=(af O x).data) (BS:(f (af O x)).kind=(af O x).kind):av Tryz.prog β N ops k fr ax Q:=by
 obtain⟨T,a,y,h1,h2,h3,h4⟩:=PD (ho (λ_=>undef))
 intro ai w hS
 obtain⟨T,a,y,h1,h2,h3,h4⟩:=PD (ho ai)
 obtain⟨o,g1,g2,g3,g4⟩:=iO h1
 have hx0:(af O x).kind≠0:=by rw [hk];exact h0
 have PE:tq ax (wG (aZ O x f) L js)=ax:=CN (p:=0) (λq hq=>by
  match q,hq with
  |0,hq=>exact agY rfl hq
  |1,_=>exact agX (λR=>HP.abs (aY R)) (tE he BS)
  |q+2,_=>exact agX (λR=>HP.abs (aY R)) (tD hd BS)) hj hn
 have hcell:∃v0,(lM L x (af O x))[j]?=some v0:=mP h9
 obtain⟨v0,hv0⟩:=hcell
 obtain⟨F,hF⟩:=hS.get hp
 obtain⟨G,hG⟩:=aY.at x hF
 have hG2:=hG
 rw [rI hx0] at hG2
 obtain⟨hb,_⟩:=hG2
 obtain⟨c1,c2⟩:=lY (a:=⟨L.b x,j,none⟩) hb rfl rfl hv0
 have yM:aR β (ax.set i (.abs (aY (eM (aZ O x f) L)))) (w.setCell ⟨L.b x,j,none⟩ (u)):=hS.set hp (λF hF=>aY.step (k:=x) (show (aY (eM O L)).h F w from hF) (λy hy=>CB hy) (λG hG=>by
  rw [rI hx0] at hG
  rw [CA,agV (by rw [BS];exact hx0),hc,BS]
  exact zF hG rfl rfl))
 rw [drop_cons g1]
 unfold wpList
 rw [iL,agW g2]
 refine .inl (qf (v:=undef) (w':=w.setCell ⟨L.b x,j,none⟩ (u)) (by rw [ji];grind [W5]) ?_)
 rw [iz]
 have hK:=K _ rfl ai _ (by rw [PE];exact yM)
 rw [←g4] at hK
 exact hK
theorem AL (i:Nat) (js:List (Nat×Nat)) (x j:Nat) (f:bJ->bJ) {kd:Int} (hk:(af O x).kind=kd)
 (K:∀O2,O2=aZ O x f->av Tryz.prog β N ops (k+1) (eW fr (jw ops k) undef) ((tq ax (wG O2 L js)).set i (.abs (aY (eM O2 L)))) Q)
 (hp:ax[i]?=some (.abs (aY (eM O L))):=by rfl) (hj:BR ax O L js:=by first|exact⟨rfl,trivial⟩|exact⟨rfl,rfl,trivial⟩|exact trivial)
 (ho:∀ai,JS Tryz.prog N ai ops fr k=some (⟨L.b x,j,none⟩,(FB (f (af O x))).getD j undef):=by intro _;kernel_rfl)
 (hn:ox 0 (js.map (·.2))=false:=by rfl) (h0:kd≠0:=by decide) (hc:lM L x (f (af O x))=(lM L x (af O x)).set j ((FB (f (af O x))).getD j undef):=by rfl) (hu:((FB (f (af O x))).getD j undef).oneCell'=true:=by rfl) (h9:Nat.blt j 9=true:=by rfl)
 (he:(f (af O x)).ah=(af O x).ah:=by rfl) (hd:(f (af O x)).data=(af O x).data:=by rfl) (BS:(f (af O x)).kind=(af O x).kind:=by rfl):av Tryz.prog β N ops k fr ax Q:=
 oSt i js x j f _ hk K hp hj ho hn h0 hc hu (ahg (show j<9 by simpa [Nat.blt_eq] using h9) (by unfold lM FB;simp)) he hd BS
theorem uSt (i:Nat) (js:List (Nat×Nat)) (x:Nat) (y:Option Nat) (hk:(af O x).kind=2)
 (K:∀O2,O2=aZ O x (λo=>{o with up:=y})->av Tryz.prog β N ops (k+1) (eW fr (jw ops k) undef) ((tq ax (wG O2 L js)).set i (.abs (aY (eM O2 L)))) Q)
 (hp:ax[i]?=some (.abs (aY (eM O L))):=by rfl) (hj:BR ax O L js:=by first|exact⟨rfl,trivial⟩|exact⟨rfl,rfl,trivial⟩|exact trivial)
 (ho:∀ai,JS Tryz.prog N ai ops fr k=some (⟨L.b x,10,none⟩,IZ L y):=by intro _;kernel_rfl) (hn:ox 0 (js.map (·.2))=false:=by rfl):av Tryz.prog β N ops k fr ax Q:=
 oSt i js x 10 (λo=>{o with up:=y}) (IZ L y) hk K hp hj ho hn Pd (by rw [rJ (show ({af O x with up:=y}:bJ).kind=2 from hk),rJ hk];rfl) (by cases y<;>rfl) (by rw [rJ hk];exact ahn 10) rfl rfl rfl
theorem aR.abl {w:World} {i j:Nat} {f:bJ->bJ} {u:Value} (hS:aR β ax w) (hp:ax[i]?=some (.abs (aY (eM O L)))) (hx0:(af O x).kind≠0) (hc:lM L x (f (af O x))=(lM L x (af O x)).set j u) (BS:(f (af O x)).kind=(af O x).kind) (h9:j<(lM L x (af O x)).length) :
 aR β (ax.set i (.abs (aY (eM (aZ O x f) L)))) (w.setCell ⟨L.b x,j,none⟩ u)/\(∃v0,w.cell? ⟨L.b x,j,none⟩=some v0)/\w.frozen? ⟨L.b x,j,none⟩=false:=by
 obtain⟨v0,hv0⟩:=mP h9
 obtain⟨F,hF⟩:=hS.get hp
 obtain⟨G,hG⟩:=aY.at x (show (aY (eM O L)).h F w from hF)
 rw [rI hx0] at hG
 obtain⟨c1,c2⟩:=lY (a:=⟨L.b x,j,none⟩) hG.1 rfl rfl hv0
 refine⟨hS.set hp (λF hF=>aY.step (k:=x) (show (aY (eM O L)).h F w from hF) (λy hy=>CB hy) (λG hG=>?_)),⟨v0,c1⟩,c2⟩
 rw [rI hx0] at hG
 rw [CA,agV (by rw [BS];exact hx0),hc,BS]
 exact zF hG rfl rfl
def PF (P:Program) (N:fY) (ai:Nat->Value) (ops:Array Oper) (fr:Fr) (k:Nat):Option (Addr×Value):=
 match iT N ai ops fr k with
 |some (.store T a y,_)=>match (P.info? T).map (·.size) with
   |some 2=>match eY N fr ai a with
     |.pointer (some ad)=>some (ad,eY N fr ai y)
     |_=>none
   |_=>none
 |_=>none
theorem W6 {P:Program} {ai:Nat->Value} {ad:Addr} {u:Value} (h:PF P N ai ops fr k=some (ad,u)):∃T a y,iT N ai ops fr k=some (.store T a y,jw ops k)/\(P.info? T).map (·.size)=some 2/\eY N fr ai a=.pointer (some ad)/\eY N fr ai y=u:=by
 grind [PF,CO]
theorem Ue {P:Program} {T:TypeId} {a y:Operand} {o:Oper} {ev:Operand->Value} {w:World} {b j:Nat} {z1 z2:Int} {v0 v1:Value} (ho:o.op=.store T a y) (hT:(P.info? T).map (·.size)=some 2) (ha:ev a=.pointer (some ⟨b,j,none⟩)) (hy:ev y=.agg #[.int .i64 z1,.int .i64 z2])
 (hc:w.cell? ⟨b,j,none⟩=some v0) (hf:w.frozen? ⟨b,j,none⟩=false) (hc1:(w.setCell ⟨b,j,none⟩ (.int .i64 z1)).cell? ⟨b,j+1,none⟩=some v1) (hf1:(w.setCell ⟨b,j,none⟩ (.int .i64 z1)).frozen? ⟨b,j+1,none⟩=false) :
 sG P ev o w undef ((w.setCell ⟨b,j,none⟩ (.int .i64 z1)).setCell ⟨b,j+1,none⟩ (.int .i64 z2)):=by
 obtain⟨inf,hi,eT⟩:∃inf,P.info? T=some inf/\inf.size=2:=by
  cases h:P.info? T with
  |none=>rw [h] at hT;cases hT
  |some inf=>rw [h] at hT;exact⟨inf,rfl,by simpa using hT⟩
 have h3:=sC hi w
 rw [eT] at h3
 obtain⟨dst,op,type,pos,after,guard⟩:=o
 cases ho
 refine .inr ⟨rfl,?_⟩
 simp only [execOp,ha,hy]
 simp [go_sem,Instr.storeAt,Instr.sureAddr,storeVar,h3,Value.cells,storeCells,store,Addr.add,Sem.run,hc,hf,hc1,hf1]
theorem W7 (i:Nat) (js:List (Nat×Nat)) (x:Nat) (z1 z2:Int) {kd:Int} (hk:(af O x).kind=kd)
 (K:∀O2,O2=aZ O x (λo=>{o with aU:=z1,aI:=z2})->av Tryz.prog β N ops (k+1) (eW fr (jw ops k) undef) ((tq ax (wG O2 L js)).set i (.abs (aY (eM O2 L)))) Q)
 (hp:ax[i]?=some (.abs (aY (eM O L))):=by rfl) (hj:BR ax O L js:=by first|exact⟨rfl,trivial⟩|exact⟨rfl,rfl,trivial⟩|exact trivial)
 (ho:∀ai,PF Tryz.prog N ai ops fr k=some (⟨L.b x,4,none⟩,.agg #[.int .i64 z1,.int .i64 z2]):=by intro _;kernel_rfl)
 (hn:ox 0 (js.map (·.2))=false:=by rfl) (h0:kd≠0:=by decide):av Tryz.prog β N ops k fr ax Q:=by
 intro ai w hS
 obtain⟨T,a,y,h1,h2,h3,h4⟩:=W6 (ho ai)
 obtain⟨o,g1,g2,g3,g4⟩:=iO h1
 have hx0:(af O x).kind≠0:=by rw [hk];exact h0
 have PE:tq ax (wG (aZ O x (λo=>{o with aU:=z1,aI:=z2})) L js)=ax:=CN (p:=0) (λq hq=>by
  match q,hq with
  |0,hq=>exact agY rfl hq
  |1,_=>exact agX (λR=>HP.abs (aY R)) (tE rfl rfl)
  |q+2,_=>exact agX (λR=>HP.abs (aY R)) (tD rfl rfl)) hj hn
 have jv:∀o:bJ,9<=(lM L x o).length:=λo=>by unfold lM FB;simp
 obtain⟨s1,⟨v0,c1⟩,f1⟩:=hS.abl (x:=x) (j:=4) (f:=λo=>{o with aU:=z1}) (u:=.int .i64 z1) hp hx0 rfl rfl (by have:=jv (af O x);omega)
 have hi:i<ax.length:=dP hp
 have e1:af (aZ O x (λo=>{o with aU:=z1})) x={af O x with aU:=z1}:=fA
 obtain⟨s2,⟨v1,c2⟩,f2⟩:=s1.abl (x:=x) (j:=5) (f:=λo=>{o with aI:=z2}) (u:=.int .i64 z2) (i:=i) (O:=aZ O x (λo=>{o with aU:=z1})) (by rw [List.getElem?_set,agW rfl,agW hi]) (by rw [e1];exact hx0) rfl rfl Pe
 rw [List.set_set,Bk] at s2
 rw [drop_cons g1]
 unfold wpList
 rw [iL,agW g2]
 refine .inl (qf (v:=undef) (w':=_) (by rw [ji];exact Ue g3 h2 h3 h4 c1 f1 c2 f2) ?_)
 rw [iz]
 have hK:=K _ rfl ai _ (by rw [PE];exact s2)
 rw [←g4] at hK
 exact hK
theorem F7 {w:World} {i:Nat} (hS:aR β ax w) (hp:ax[i]?=some (.abs (aY (gq O L)))) (hd:(af O x).kind=2):kr Tryz.prog 9 w (L.m x) (nE L (af O x).ah) (af O x).ah.length:=by
 obtain⟨F,hF⟩:=hS.get hp
 obtain⟨G,hG⟩:=aY.at x (show (aY (gq O L)).h F w from hF)
 rw [uQ hd] at hG
 exact hG.1
theorem Sm {w:World} {i:Nat} {o:Oper} {ev:Operand->Value} {a y:Operand} (hS:aR β ax w) (hp:ax[i]?=some (.abs (aY (gq O L)))) (hd:(af O x).kind=2) (hl:bL name (af O x).ah=r) (h3:o.op=.lookup 145 a y false) (ha:ev a=.map (some (L.m x))) (hy:ev y=.string name) (eT:name.size<=1048576):sG Tryz.prog ev o w (PB L r) w:=by
 have h:=CX (z:=.nilIface) h3 (F7 hS hp hd) ha hy G8 Tryz.underlying145 KB (Kk zc)
 rw [zl,hl] at h
 cases r<;>exact h
theorem mX (i:Nat) (hd:(af O x).kind=2) (hl:bL name (af O x).ah=r) (K:av Tryz.prog β N ops (k+1) (eW fr (jw ops k) (PB L r)) ax Q) (hp:ax[i]?=some (.abs (aY (gq O L))):=by rfl)
 (ho:∀ai,JT N ai ops fr k=some (145,L.m x,.string name):=by intro _;kernel_rfl) (eT:name.size<=1048576:=by omega):av Tryz.prog β N ops k fr ax Q:=by
 intro ai w hS
 obtain⟨a,y,h1,h2,h3⟩:=vf (ho ai)
 exact av.nP (fe:=ax) (v:=PB L r) (d:=jw ops k) (op:=.lookup 145 a y false) (λj=>by
  obtain⟨a',y',h1',_,_⟩:=vf (ho j)
  obtain⟨o,g1,g2,g3,g4⟩:=iO h1
  obtain⟨o',BU,g2',CP,g4'⟩:=iO h1'
  rw [g1] at BU
  cases BU
  rw [g3] at CP
  cases CP
  exact h1') (λo ai w ho' hS=>by
  obtain⟨a',y',h1',h2',h3'⟩:=vf (ho ai)
  obtain⟨o1,g1,g2,g3,g4⟩:=iO h1
  obtain⟨o',BU,g2',CP,g4'⟩:=iO h1'
  rw [g1] at BU
  cases BU
  rw [g3] at CP
  cases CP
  exact⟨w,Sm hS hp hd hl ho' h2' h3' eT,hS⟩) K ai w hS
theorem yQ (i:Nat) (hd:(af O x).kind=2) (hl:bL name (af O x).ah=r) (K:bN Tryz.prog β N ops (k+1) (eW fr (jw ops k) (PB L r)) ax Q) (hp:ax[i]?=some (.abs (aY (gq O L))):=by rfl)
 (ho:∀ai,JT N ai ops fr k=some (145,L.m x,.string name):=by intro _;kernel_rfl) (eT:name.size<=1048576:=by omega):bN Tryz.prog β N ops k fr ax Q:=by
 intro ai
 obtain⟨a,y,h1,h2,h3⟩:=vf (ho ai)
 exact bN.nP (v:=PB L r) (d:=jw ops k) (op:=.lookup 145 a y false) (λj=>by
  obtain⟨a',y',h1',_,_⟩:=vf (ho j)
  obtain⟨o,g1,g2,g3,g4⟩:=iO h1
  obtain⟨o',BU,g2',CP,g4'⟩:=iO h1'
  rw [g1] at BU
  cases BU
  rw [g3] at CP
  cases CP
  exact h1') (λo ai w ho' hS=>by
  obtain⟨a',y',h1',h2',h3'⟩:=vf (ho ai)
  obtain⟨o1,g1,g2,g3,g4⟩:=iO h1
  obtain⟨o',BU,g2',CP,g4'⟩:=iO h1'
  rw [g1] at BU
  cases BU
  rw [g3] at CP
  cases CP
  exact Sm hS hp hd hl ho' h2' h3' eT) K ai
def Uf (N:fY) (ai:Nat->Value) (ops:Array Oper) (fr:Fr) (k:Nat):Option (TypeId×Nat):=
 match iT N ai ops fr k with
 |some (.call ⟨.builtin .len,xs,ts⟩,_)=>match xs.toList with
   |[x]=>match ts.toList with
     |[t]=>match eY N fr ai x with
       |.map (some b)=>some (t,b)
       |_=>none
     |_=>none
   |_=>none
 |_=>none
theorem Ig {ai:Nat->Value} {T:TypeId} {b:Nat} (h:Uf N ai ops fr k=some (T,b)):∃a,iT N ai ops fr k=some (.call ⟨.builtin .len,#[a],#[T]⟩,jw ops k)/\eY N fr ai a=.map (some b):=by
 unfold Uf at h
 repeat' split at h
 all_goals first|(cases h;done)|skip
 rename_i xs ts d h0 _ a h1 _ t' h2 _ b' h3
 cases h
 have:=CO h0
 subst this
 refine⟨a,?_,h3⟩
 rw [h0]
 obtain⟨xs⟩:=xs
 obtain⟨ts⟩:=ts
 cases h1
 cases h2
 rfl
theorem eNk (i:Nat) (hd:(af O x).kind=2) (K:av Tryz.prog β N ops (k+1) (eW fr (jw ops k) (.int .i64 (((af O x).ah.length:Nat):Int))) ax Q) (hp:ax[i]?=some (.abs (aY (gq O L))):=by rfl)
 (ho:∀ai,Uf N ai ops fr k=some (145,L.m x):=by intro _;kernel_rfl):av Tryz.prog β N ops k fr ax Q:=by
 obtain⟨a,h1,h2⟩:=Ig (ho (λ_=>undef))
 obtain⟨o,g1,g2,g3,g4⟩:=iO h1
 refine av.nP (fe:=ax) (v:=.int .i64 (((af O x).ah.length:Nat):Int)) (d:=jw ops k) (op:=o.op) (λj=>?_) (λo' ai w ho' hS=>?_) K
 ·obtain⟨a',h1',_⟩:=Ig (ho j)
  grind [iO]
 obtain⟨a',h1',h2'⟩:=Ig (ho ai)
 obtain⟨o1,BU,g2',CP,g4'⟩:=iO h1'
 rw [g1] at BU
 cases BU
 exact⟨w,Fw (ho'.trans CP) rfl (F7 hS hp hd) h2' Tryz.underlying145,hS⟩
theorem eSt (i:Nat) (js:List (Nat×Nat)) {t:Th} (hd:(af O x).kind=2) (iP:bL name (af O x).ah=none)
 (K:∀O2,O2=aZ O x (λo=>{o with ah:=kO name t o.ah})->av Tryz.prog β N ops (k+1) (eW fr (jw ops k) undef) ((tq ax (wG O2 L js)).set i (.abs (aY (gq O2 L)))) Q)
 (hp:ax[i]?=some (.abs (aY (gq O L))):=by rfl) (hj:BR ax O L js:=by first|exact⟨rfl,trivial⟩|exact⟨rfl,rfl,trivial⟩|exact trivial)
 (ho:∀ai,setAt N ai ops fr k=some (145,L.m x,.string name,iw L t):=by intro _;kernel_rfl) (hn:ox 1 (js.map (·.2))=false:=by rfl) (eT:name.size<=1048576:=by omega) (hel:(af O x).ah.length<=1048576:=by omega):av Tryz.prog β N ops k fr ax Q:=by
 intro ai w hS
 obtain⟨a,y,z,h1,h2,h3,h4⟩:=ZO (ho ai)
 obtain⟨o,g1,g2,g3,g4⟩:=iO h1
 have PE:tq ax (wG (aZ O x (λo=>{o with ah:=kO name t o.ah})) L js)=ax:=CN (p:=1) (λq hq=>by
  match q,hq with
  |0,_=>exact agX (λR=>HP.abs (aY R)) (N8 (es:=λo=>kO name t o.ah))
  |1,hq=>exact agY rfl hq
  |q+2,_=>exact agX (λR=>HP.abs (aY R)) (tD rfl rfl)) hj hn
 obtain⟨w',m1,m2,m3⟩:=(F7 hS hp hd).store G8 Tryz.underlying145 (by unfold maxLen;omega) (Kk (p:=name) zc) (iw L t)
 have e1:(nE L (af O x).ah) (.string name.data.toList)=none:=by rw [zl,iP];rfl
 rw [e1,Yi iP] at m2
 have yM:aR β (ax.set i (.abs (aY (gq (aZ O x (λo=>{o with ah:=kO name t o.ah})) L)))) w':=hS.set hp (λF hF=>aY.step (k:=x) (show (aY (gq O L)).h F w from hF) (λy hy=>Er hy) (λG hG=>by
  rw [uQ hd] at hG
  rw [uQ (by rw [fA];exact hd),fA,N7]
  exact step_map hG m2 m3))
 rw [drop_cons g1]
 unfold wpList
 rw [iL,agW g2]
 refine .inl (qf (v:=undef) (w':=w') (by
  rw [ji]
  refine .inr ⟨rfl,?_⟩
  obtain⟨dst,op,type,pos,after,guard⟩:=o
  cases g3
  simp only [execOp,h2,h3,h4]
  simp [go_sem,m1]) ?_)
 rw [iz]
 have hK:=K _ rfl ai _ (by rw [PE];exact yM)
 rw [←g4] at hK
 exact hK
theorem ZP {ai:Nat->Value} {T K0:TypeId} {b:Nat} {key:Value} (h:Ud N ai ops fr k=some (T,K0,b,key)):∃a y,iT N ai ops fr k=some (.call ⟨.builtin .delete,#[a,y],#[T,K0]⟩,jw ops k)/\eY N fr ai a=.map (some b)/\eY N fr ai y=key:=by
 unfold Ud at h
 repeat' split at h
 all_goals first|(cases h;done)|skip
 rename_i xs ts d h0 _ a y h1 _ t' K' h2 _ b' h3
 cases h
 have:=CO h0
 subst this
 refine⟨a,y,?_,h3,rfl⟩
 rw [h0]
 obtain⟨xs⟩:=xs
 obtain⟨ts⟩:=ts
 cases h1
 cases h2
 rfl
theorem eDl (i:Nat) (js:List (Nat×Nat)) {t:Th} (hd:(af O x).kind=2) (DF:bL name (af O x).ah=some t) (hnt:p4 (af O x).ah)
 (K:∀O2,O2=aZ O x (λo=>{o with ah:=kD name o.ah})->av Tryz.prog β N ops (k+1) (eW fr (jw ops k) (.tuple #[])) ((tq ax (wG O2 L js)).set i (.abs (aY (gq O2 L)))) Q)
 (hp:ax[i]?=some (.abs (aY (gq O L))):=by rfl) (hj:BR ax O L js:=by first|exact⟨rfl,trivial⟩|exact⟨rfl,rfl,trivial⟩|exact trivial)
 (ho:∀ai,Ud N ai ops fr k=some (145,9,L.m x,.string name):=by intro _;kernel_rfl) (hn:ox 1 (js.map (·.2))=false:=by rfl) (eT:name.size<=1048576:=by omega):av Tryz.prog β N ops k fr ax Q:=by
 intro ai w hS
 obtain⟨a,y,h1,h2,h3⟩:=ZP (ho ai)
 obtain⟨o,g1,g2,g3,g4⟩:=iO h1
 have PE:tq ax (wG (aZ O x (λo=>{o with ah:=kD name o.ah})) L js)=ax:=CN (p:=1) (λq hq=>by
  match q,hq with
  |0,_=>exact agX (λR=>HP.abs (aY R)) (N8 (es:=λo=>kD name o.ah))
  |1,hq=>exact agY rfl hq
  |q+2,_=>exact agX (λR=>HP.abs (aY R)) (tD rfl rfl)) hj hn
 obtain⟨w',m1,m2,m3⟩:=(F7 hS hp hd).drop G8 Tryz.underlying145 (Kk (p:=name) zc) o.type
 have e1:(nE L (af O x).ah) (.string name.data.toList)=some (iw L t):=by rw [zl,DF];rfl
 rw [e1,Yj] at m2
 have jv:=Yg hnt DF
 have yM:aR β (ax.set i (.abs (aY (gq (aZ O x (λo=>{o with ah:=kD name o.ah})) L)))) w':=hS.set hp (λF hF=>aY.step (k:=x) (show (aY (gq O L)).h F w from hF) (λy hy=>Er hy) (λG hG=>by
  rw [uQ hd] at hG
  rw [uQ (by rw [fA];exact hd),fA]
  rw [show (kD name (af O x).ah).length=(af O x).ah.length-1 by omega]
  exact step_map hG m2 m3))
 rw [drop_cons g1]
 unfold wpList
 rw [iL,agW g2]
 refine .inl (qf (v:=.tuple #[]) (w':=w') (by
  rw [ji]
  refine .inl ?_
  obtain⟨dst,op,type,pos,after,guard⟩:=o
  cases g3
  simp only [execOp,resolve,invoke,builtin]
  simp [go_sem,h2,h3,m1]) ?_)
 rw [iz]
 have hK:=K _ rfl ai _ (by rw [PE];exact yM)
 rw [←g4] at hK
 exact hK
end rules
section after
variable {O O2:d9} {j x:Nat} {f:bJ->bJ} {kd:Int}
theorem ku (e:O2=aZ O j f) (h:(af O x).kind=kd) (hf:∀o,(f o).kind=o.kind:=by intro _;rfl):(af O2 x).kind=kd:=by subst e;exact (o8 hf).trans h
theorem fu {α:Type} (g:bJ->α) {v:α} (e:O2=aZ O j f) (h:g (af O x)=v) (hf:∀o,g (f o)=g o:=by intro _;rfl):g (af O2 x)=v:=by subst e;exact (eG hf).trans h
end after
end
section
open Go.RowKit Go.Maps
attribute [local irreducible] av bN aq aB
theorem gi {β:Bs} (b:Nat):aW Tryz.prog β 245 #[vP b] [] (λv l=>v=vP b/\l=[]):=by
 exact SE Tryz.func245 Tryz.ntmps245 (λR=>SR (jK 1 [] [] (NS (jK 2 [2] [] (eN ⟨rfl,rfl⟩)))))
theorem sZ {β:Bs} (a:Value):aW Tryz.prog β 244 #[a] [] (λv l=>v=vI 1/\l=[]):=by
 exact SE Tryz.func244 Tryz.ntmps244 (λR=>SR (jK 1 [] [] (NS (jK 1 [2] [] (eN ⟨rfl,rfl⟩)))))
theorem s5 {β:Bs} (a:Value):aW Tryz.prog β 247 #[a] [] (λv l=>v=vI 2/\l=[]):=by
 exact SE Tryz.func247 Tryz.ntmps247 (λR=>SR (jK 1 [] [] (NS (jK 1 [2] [] (eN ⟨rfl,rfl⟩)))))
theorem uG {β:Bs} (a:Value):aW Tryz.prog β 246 #[a] [] (λv l=>v=vI 3/\l=[]):=by
 exact SE Tryz.func246 Tryz.ntmps246 (λR=>SR (jK 1 [] [] (NS (jK 1 [2] [] (eN ⟨rfl,rfl⟩)))))
theorem Sn {β:Bs} (O:d9) (L:HL) (d:Nat) (dQ:(af O d).kind=2) (name:ByteArray) (eT:name.size<=1048576) (iP:bL name (af O d).ah=none) (hel:(af O d).ah.length<=1048576) (t:Th) (bC:(af O t.k).kind=t.kind) (h3:t.kind=1\/t.kind=2\/t.kind=3) (hb:0<=(af O t.k).aV/\(af O t.k).aV<=1048576) :
 aW Tryz.prog β 65 #[vP (L.b d),.string name,(iw L t)] [.abs (aY (eM O L)),.abs (aY (gq O L))] (λv l=>v=.tuple #[]/\l=[.abs (aY (eM (uw O d name t) L)),.abs (aY (gq (uw O d name t) L))]):=by
 refine SE Tryz.func65 Tryz.ntmps65 (λR=>aq.seq ?_)
 obtain⟨tk,kd⟩:=t;simp only at bC h3;rcases h3 with rfl|rfl|rfl
 ·replace bC:(af O tk).kind=1:=bC
  replace hb:0<=(af O tk).aV/\(af O tk).aV<=1048576:=hb
  refine aq.region (jK 6 [11,12,13] [(3,v_ 0 (dw L dQ))] (eSt 1 [(0,0)] (t:=⟨tk,1⟩) dQ iP (λgS fO=>?_)))
  have pY:=ku fO dQ
  have tf:=ku fO bC
  have hf3:(af gS tk).aV=(af O tk).aV:=fu bJ.aV fO rfl
  refine NS (jK 1 [14] [] (gE [] (gi (L.b tk)) (jK 6 [19,21] [(2,v_ 0 (tL L tf)),(3,wJ ((af gS tk).aV+1) ((af gS tk).aV+1))] (AL 0 [(1,1)] tk 6 (λo=>{o with aV:=o.aV+1}) tf (λjJ gA=>?_)))))
  have E6:=ku gA pY
  have E7:=ku gA tf
  exact NS (jK 7 [6,7] [] (NS (jK 1 [27] [] (NF (aq.skip (RF (l:=[.abs (aY (eM jJ L)),.abs (aY (gq jJ L))]) (.tuple #[]) [0,1,2] (⟨rfl,by subst gA;subst fO;rfl⟩)))))))
 ·replace bC:(af O tk).kind=2:=bC
  replace hb:0<=(af O tk).aV/\(af O tk).aV<=1048576:=hb
  refine aq.region (jK 6 [11,12,13] [(3,v_ 0 (dw L dQ))] (eSt 1 [(0,0)] (t:=⟨tk,2⟩) dQ iP (λgS fO=>?_)))
  have ZQ:=ku fO dQ
  have Ug:=ku fO bC
  have hf8:(af gS tk).aV=(af O tk).aV:=fu bJ.aV fO rfl
  refine NS (jK 1 [14] [] (gE [] (gi (L.b tk)) (jK 6 [19,21] [(2,v_ 0 (tL L Ug)),(3,wJ ((af gS tk).aV+1) ((af gS tk).aV+1))] (AL 0 [(1,1)] tk 6 (λo=>{o with aV:=o.aV+1}) Ug (λjJ gA=>?_)))))
  have KV:=ku gA ZQ
  have Uh:=ku gA Ug
  refine NS (jK 7 [6,7] [] (NS (jK 1 [27] [] (NT (aq.region (jK 4 [29,31] [] (uSt 0 [(1,1)] tk (some d) Uh (λCQ sF=>?_))))))))
  have abm:=ku sF KV
  have agq:=ku sF Uh
  exact NL (RF (l:=[.abs (aY (eM CQ L)),.abs (aY (gq CQ L))]) (.tuple #[]) [0,1,2] (⟨rfl,by subst sF;subst gA;subst fO;rfl⟩))
 replace bC:(af O tk).kind=3:=bC
 replace hb:0<=(af O tk).aV/\(af O tk).aV<=1048576:=hb
 refine aq.region (jK 6 [11,12,13] [(3,v_ 0 (dw L dQ))] (eSt 1 [(0,0)] (t:=⟨tk,3⟩) dQ iP (λgS fO=>?_)))
 have ae4:=ku fO dQ
 have Ui:=ku fO bC
 have agK:(af gS tk).aV=(af O tk).aV:=fu bJ.aV fO rfl
 refine NS (jK 1 [14] [] (gE [] (gi (L.b tk)) (jK 6 [19,21] [(2,v_ 0 (tL L Ui)),(3,wJ ((af gS tk).aV+1) ((af gS tk).aV+1))] (AL 0 [(1,1)] tk 6 (λo=>{o with aV:=o.aV+1}) Ui (λjJ gA=>?_)))))
 have JU:=ku gA ae4
 have ae5:=ku gA Ui
 exact NS (jK 7 [6,7] [] (NS (jK 1 [27] [] (NF (aq.skip (RF (l:=[.abs (aY (eM jJ L)),.abs (aY (gq jJ L))]) (.tuple #[]) [0,1,2] (⟨rfl,by subst gA;subst fO;rfl⟩)))))))
theorem ny {β:Bs} (X:FM) (f m t:Nat) (hX:0<=X.ah/\X.ah<=1048576/\-1125899906842624<=X.used/\X.used<=1125899906842624/\0<=X.last/\X.last<=1125899906842624) (O:d9) (L:HL) (d:Nat) (dQ:(af O d).kind=2) (name:ByteArray) (eT:name.size<=1048576) (iP:bL name (af O d).ah=none) (hel:(af O d).ah.length<=1048576) (th:Th) (bC:(af O th.k).kind=th.kind) (h3:th.kind=1\/th.kind=2\/th.kind=3) (hb:0<=(af O th.k).aV/\(af O th.k).aV<=1048576) :
 aW Tryz.prog β 208 #[vP f,vP (L.b d),.string name,(iw L th)] [.aD f [vI (X.cN),vI (X.cB),vI (X.cH),vI (X.cS),vI (X.cZ),.map (some m),vP t,vI (X.last),vI (X.ah),vI (X.used)] 135,.abs (aY (eM O L)),.abs (aY (gq O L))] (λv l=>v=.tuple #[]/\l=[.aD f [vI (X.cN),vI (X.cB),vI (X.cH),vI (X.cS),vI (X.cZ),.map (some m),vP t,vI (X.last),vI (X.ah+1),vI (X.used)] 135,.abs (aY (eM (dg X O d name th) L)),.abs (aY (gq (dg X O d name th) L))]):=by
 refine SE Tryz.func208 Tryz.ntmps208 (λR=>aq.seq ?_)
 skip
 refine aq.region (jK 3 [8,9,10] [] (gE [1,2] (Sn O L d dQ name eT iP hel th bC h3 hb) (NS ?_)))
 have JV:(af (uw O d name th) d).kind=2:=(Eu).trans (dQ)
 generalize fO:(uw O d name th)=gS at JV ⊢
 refine jK 9 [17,20] [(5,A_ 2 f 2)] (W7 0 [(1,1)] d X.cS X.cZ JV (λjJ gA=>?_))
 have agr:=ku gA JV
 exact NN (aq.region (jC 8 [] [(3,a_ 2 f),(4,wJ (X.ah+1) (X.ah+1)),(7,a_ 2 f)] [(2,[(8,vI (X.ah+1))])] (NL (RF (l:=[.aD f [vI (X.cN),vI (X.cB),vI (X.cH),vI (X.cS),vI (X.cZ),.map (some m),vP t,vI (X.last),vI (X.ah+1),vI (X.used)] 135,.abs (aY (eM jJ L)),.abs (aY (gq jJ L))]) (.tuple #[]) [2,0,1,3] (⟨rfl,by subst gA;subst fO;rfl⟩)))))
theorem oV {β:Bs} (X:FM) (f m t:Nat) (hX:0<=X.ah/\X.ah<=1048576/\-1125899906842624<=X.used/\X.used<=1125899906842624/\0<=X.last/\X.last<=1125899906842624) (O:d9) (L:HL) (d:Nat) (dQ:(af O d).kind=2) (name:ByteArray) (eT:name.size<=1048576) (th:Th) (bC:(af O th.k).kind=th.kind) (h3:th.kind=1\/th.kind=2\/th.kind=3) (DF:bL name (af O d).ah=some th) (hnt:p4 (af O d).ah) (_:(af O d).ah.length<=1048576) (hb:0<=(af O th.k).aV/\(af O th.k).aV<=1048576) :
 aW Tryz.prog β 222 #[vP f,vP (L.b d),.string name] [.aD f [vI (X.cN),vI (X.cB),vI (X.cH),vI (X.cS),vI (X.cZ),.map (some m),vP t,vI (X.last),vI (X.ah),vI (X.used)] 135,.abs (aY (eM O L)),.abs (aY (gq O L))] (λv l=>v=iw L th/\l=[.aD f [vI (X.cN),vI (X.cB),vI (X.cH),vI (X.cS),vI (X.cZ),.map (some m),vP t,vI (X.last),vI (X.ah-1),vI (X.used)] 135,.abs (aY (eM (bq X O d name th) L)),.abs (aY (gq (bq X O d name th) L))]):=by
 refine SE Tryz.func222 Tryz.ntmps222 (λR=>aq.seq ?_)
 obtain⟨tk,kd⟩:=th;simp only at bC h3;rcases h3 with rfl|rfl|rfl
 ·replace bC:(af O tk).kind=1:=bC
  replace hb:0<=(af O tk).aV/\(af O tk).aV<=1048576:=hb
  refine aq.region (jK 1 [] [] (NS (jK 5 [11,12] [(3,v_ 1 (dw L dQ))] (mX 2 dQ DF (jK 1 [7] [] (NS (jK 5 [17,18] [(3,v_ 1 (dw L dQ))] (eDl 2 [(1,0)] dQ DF hnt (λgS fO=>?_)))))))))
  have abn:=ku fO dQ
  have ae6:=ku fO bC
  have afT:(af gS tk).aV=(af O tk).aV:=fu bJ.aV fO rfl
  refine NS (jK 9 [24,27] [(5,A_ 0 f 2)] (W7 1 [(2,1)] d X.cS X.cZ abn (λjJ gA=>?_)))
  have abo:=ku gA abn
  have Nb:=ku gA ae6
  have agL:(af jJ tk).aV=(af O tk).aV:=fu bJ.aV gA afT
  refine NS (jC 8 [] [(3,a_ 0 f),(4,wJ (X.ah-1) (X.ah-1)),(7,a_ 0 f)] [(0,[(8,vI (X.ah-1))])] (NS (jK 1 [35] [] (gE [] (gi (L.b tk)) (jK 6 [40,42] [(2,v_ 1 (tL L Nb)),(3,wJ ((af jJ tk).aV-1) ((af jJ tk).aV-1))] (AL 1 [(2,1)] tk 6 (λo=>{o with aV:=o.aV-1}) Nb (λCQ sF=>?_)))))))
  have ags:=ku sF abo
  have agt:=ku sF Nb
  exact NS (jK 2 [6] [] (eN (l:=[.aD f [vI (X.cN),vI (X.cB),vI (X.cH),vI (X.cS),vI (X.cZ),.map (some m),vP t,vI (X.last),vI (X.ah-1),vI (X.used)] 135,.abs (aY (eM CQ L)),.abs (aY (gq CQ L))]) (v:=(.iface 138 (vP (L.b tk)))) ⟨rfl,by subst sF;subst gA;subst fO;rfl⟩))
 ·replace bC:(af O tk).kind=2:=bC
  replace hb:0<=(af O tk).aV/\(af O tk).aV<=1048576:=hb
  refine aq.region (jK 1 [] [] (NS (jK 5 [11,12] [(3,v_ 1 (dw L dQ))] (mX 2 dQ DF (jK 1 [7] [] (NS (jK 5 [17,18] [(3,v_ 1 (dw L dQ))] (eDl 2 [(1,0)] dQ DF hnt (λgS fO=>?_)))))))))
  have abp:=ku fO dQ
  have ae7:=ku fO bC
  have afU:(af gS tk).aV=(af O tk).aV:=fu bJ.aV fO rfl
  refine NS (jK 9 [24,27] [(5,A_ 0 f 2)] (W7 1 [(2,1)] d X.cS X.cZ abp (λjJ gA=>?_)))
  have ae8:=ku gA abp
  have Uj:=ku gA ae7
  have agM:(af jJ tk).aV=(af O tk).aV:=fu bJ.aV gA afU
  refine NS (jC 8 [] [(3,a_ 0 f),(4,wJ (X.ah-1) (X.ah-1)),(7,a_ 0 f)] [(0,[(8,vI (X.ah-1))])] (NS (jK 1 [35] [] (gE [] (gi (L.b tk)) (jK 6 [40,42] [(2,v_ 1 (tL L Uj)),(3,wJ ((af jJ tk).aV-1) ((af jJ tk).aV-1))] (AL 1 [(2,1)] tk 6 (λo=>{o with aV:=o.aV-1}) Uj (λCQ sF=>?_)))))))
  have agu:=ku sF ae8
  have agv:=ku sF Uj
  exact NS (jK 2 [6] [] (eN (l:=[.aD f [vI (X.cN),vI (X.cB),vI (X.cH),vI (X.cS),vI (X.cZ),.map (some m),vP t,vI (X.last),vI (X.ah-1),vI (X.used)] 135,.abs (aY (eM CQ L)),.abs (aY (gq CQ L))]) (v:=(.iface 144 (vP (L.b tk)))) ⟨rfl,by subst sF;subst gA;subst fO;rfl⟩))
 replace bC:(af O tk).kind=3:=bC
 replace hb:0<=(af O tk).aV/\(af O tk).aV<=1048576:=hb
 refine aq.region (jK 1 [] [] (NS (jK 5 [11,12] [(3,v_ 1 (dw L dQ))] (mX 2 dQ DF (jK 1 [7] [] (NS (jK 5 [17,18] [(3,v_ 1 (dw L dQ))] (eDl 2 [(1,0)] dQ DF hnt (λgS fO=>?_)))))))))
 have abq:=ku fO dQ
 have ae9:=ku fO bC
 have afV:(af gS tk).aV=(af O tk).aV:=fu bJ.aV fO rfl
 refine NS (jK 9 [24,27] [(5,A_ 0 f 2)] (W7 1 [(2,1)] d X.cS X.cZ abq (λjJ gA=>?_)))
 have afa:=ku gA abq
 have Uk:=ku gA ae9
 have agN:(af jJ tk).aV=(af O tk).aV:=fu bJ.aV gA afV
 refine NS (jC 8 [] [(3,a_ 0 f),(4,wJ (X.ah-1) (X.ah-1)),(7,a_ 0 f)] [(0,[(8,vI (X.ah-1))])] (NS (jK 1 [35] [] (gE [] (gi (L.b tk)) (jK 6 [40,42] [(2,v_ 1 (tL L Uk)),(3,wJ ((af jJ tk).aV-1) ((af jJ tk).aV-1))] (AL 1 [(2,1)] tk 6 (λo=>{o with aV:=o.aV-1}) Uk (λCQ sF=>?_)))))))
 have agw:=ku sF afa
 have agx:=ku sF Uk
 exact NS (jK 2 [6] [] (eN (l:=[.aD f [vI (X.cN),vI (X.cB),vI (X.cH),vI (X.cS),vI (X.cZ),.map (some m),vP t,vI (X.last),vI (X.ah-1),vI (X.used)] 135,.abs (aY (eM CQ L)),.abs (aY (gq CQ L))]) (v:=(.iface 141 (vP (L.b tk)))) ⟨rfl,by subst sF;subst gA;subst fO;rfl⟩))
end
section
open Go.RowKit Go.Maps bK aF
attribute [local irreducible] av bN aq aB ck
abbrev W8 (f:Nat) (X:FM) (m:Nat) (t):=(.aD f [vI (X.cN),vI (X.cB),vI (X.cH),vI (X.cS),vI (X.cZ),.map (some m),vP t,vI (X.last),vI (X.ah),vI (X.used)] 135:HP)
theorem ZR {β:Bs} (X:FM) (f m t:Nat) (hX:0<=X.ah/\X.ah<=1048576/\-1125899906842624<=X.used/\X.used<=1125899906842624/\0<=X.last/\X.last<=1125899906842624) (O:d9) (L:HL) (ar:bE Th) (W9:aF.dH (bn ar)) (th:Th) (bC:(af O th.k).kind=th.kind) (h3:th.kind=1\/th.kind=2\/th.kind=3) (hg:(af O th.k).aG=true) (ho:(af O th.k).aK=0) (fH:aF.get ar (af O th.k).id=some th) (hw:(Lit.int .i64 (af O th.k).id).wf=true) (E8:(af O th.k).data.length<=1125899906842624) :
 aW Tryz.prog β 214 #[vP f,(iw L th)] [pO O L,pF f m t X,pI m L ar] (λv l=>v=.tuple #[]/\l=[pO O L,pF f m t {X with used:=if th.kind=1 then X.used-(af O th.k).data.length else X.used},pI m L (del (af O th.k).id ar)]):=by
 refine SE Tryz.func214 Tryz.ntmps214 (λR=>aq.seq ?_)
 obtain⟨tk,kd⟩:=th;simp only at bC h3;rcases h3 with rfl|rfl|rfl
 ·replace bC:(af O tk).kind=1:=bC
  replace hg:(af O tk).aG=true:=hg
  replace ho:(af O tk).aK=0:=ho
  replace fH:aF.get ar (af O tk).id=some _:=fH
  replace hw:(Lit.int .i64 (af O tk).id).wf=true:=hw
  have hdl:=wi W9 (get_some fH)
  replace E8:(af O tk).data.length<=1125899906842624:=E8
  exact aq.region (jK 1 [7] [] (gE [] (gi (L.b tk)) (jK 1 [4] [] (NZ (jK 6 [14] [(3,v_ 0 (uh L bC))] (av.pJ 14 (!(af O tk).aG) (λ_=>KB) (λmw=>agY mw (by simp [hg])) (λmw=>jK 6 [20] [(3,v_ 0 (qb L bC))] (NN (cP (((af O tk).aK:Int)>(0:Int)) (λo5=>agY o5 (by omega)) (λo5=>KX (aq.seq (rM (List.range 9) 8 [0,1,2,3] (jR 8 [0,1,24,28] [(3,a_ 1 f),(7,v_ 0 (yD L bC))] (ck.last rfl rfl (av.Iw 2 (d:=none) (t:=129) (K:=3) (E:=133) (b:=m) (n:=ar.length) (f:=(cT (cV L ar))) (x:=(.tmp 24)) (ix:=(.tmp 28)) (key:=vI ((af O tk).id)) (kl:=(.int .i64 (af O tk).id)) (n':=(ar.length-1)) (f':=(cT (cV L (del (af O tk).id ar)))) (ats:=#[129,3]) (λ_=>KB) KB (λ_=>KB) (λ_=>KB) rfl iU Tryz.underlying129 (mA hw) (by rw [j4,fH];rfl) (Kt) (NL (aB.np (NX (SR (jK 7 [5,6] [] (NS (jK 1 [34] [] (NT (rM (List.range 13) 12 [0,1,2,3] (jR 12 [44,46] [(3,a_ 1 f),(7,v_ 0 (PA L bC)),(9,wJ (X.used-(((af O tk).data.length:Nat):Int)) (X.used-(((af O tk).data.length:Nat):Int)))] (ck.last rfl rfl (jC 1 [] [(0,a_ 1 f)] [(1,[(9,vI (X.used-(((af O tk).data.length:Nat):Int)))])] (NL (aB.np (aB.gG [(2,.abs (bM Tryz.prog 3 m (cT (cV L (del (af O tk).id ar))) ((del (af O tk).id ar).length)))] (λw hS=>by rw [show (del (af O tk).id ar).length=ar.length-1 by omega];exact hS) (RF (.tuple #[]) [0,1,2,3] (⟨rfl,rfl⟩))))))))))))))))))))))))))))))))
 ·replace bC:(af O tk).kind=2:=bC
  replace hg:(af O tk).aG=true:=hg
  replace ho:(af O tk).aK=0:=ho
  replace fH:aF.get ar (af O tk).id=some _:=fH
  replace hw:(Lit.int .i64 (af O tk).id).wf=true:=hw
  have hdl:=wi W9 (get_some fH)
  replace E8:(af O tk).data.length<=1125899906842624:=E8
  exact aq.region (jK 1 [7] [] (gE [] (gi (L.b tk)) (jK 1 [4] [] (NZ (jK 6 [14] [(3,v_ 0 (uh L bC))] (av.pJ 14 (!(af O tk).aG) (λ_=>KB) (λmw=>agY mw (by simp [hg])) (λmw=>jK 6 [20] [(3,v_ 0 (qb L bC))] (NN (cP (((af O tk).aK:Int)>(0:Int)) (λo5=>agY o5 (by omega)) (λo5=>KX (aq.seq (rM (List.range 9) 8 [0,1,2,3] (jR 8 [0,1,24,28] [(3,a_ 1 f),(7,v_ 0 (yD L bC))] (ck.last rfl rfl (av.Iw 2 (d:=none) (t:=129) (K:=3) (E:=133) (b:=m) (n:=ar.length) (f:=(cT (cV L ar))) (x:=(.tmp 24)) (ix:=(.tmp 28)) (key:=vI ((af O tk).id)) (kl:=(.int .i64 (af O tk).id)) (n':=(ar.length-1)) (f':=(cT (cV L (del (af O tk).id ar)))) (ats:=#[129,3]) (λ_=>KB) KB (λ_=>KB) (λ_=>KB) rfl iU Tryz.underlying129 (mA hw) (by rw [j4,fH];rfl) (Kt) (NL (aB.np (NX (SR (jK 7 [5,6] [] (NS (jK 1 [34] [] (NF (aq.skip (aB.gG [(2,.abs (bM Tryz.prog 3 m (cT (cV L (del (af O tk).id ar))) ((del (af O tk).id ar).length)))] (λw hS=>by rw [show (del (af O tk).id ar).length=ar.length-1 by omega];exact hS) (RF (.tuple #[]) [0,1,2,3] (⟨rfl,rfl⟩)))))))))))))))))))))))))))
 replace bC:(af O tk).kind=3:=bC
 replace hg:(af O tk).aG=true:=hg
 replace ho:(af O tk).aK=0:=ho
 replace fH:aF.get ar (af O tk).id=some _:=fH
 replace hw:(Lit.int .i64 (af O tk).id).wf=true:=hw
 have hdl:=wi W9 (get_some fH)
 replace E8:(af O tk).data.length<=1125899906842624:=E8
 exact aq.region (jK 1 [7] [] (gE [] (gi (L.b tk)) (jK 1 [4] [] (NZ (jK 6 [14] [(3,v_ 0 (uh L bC))] (av.pJ 14 (!(af O tk).aG) (λ_=>KB) (λmw=>agY mw (by simp [hg])) (λmw=>jK 6 [20] [(3,v_ 0 (qb L bC))] (NN (cP (((af O tk).aK:Int)>(0:Int)) (λo5=>agY o5 (by omega)) (λo5=>KX (aq.seq (rM (List.range 9) 8 [0,1,2,3] (jR 8 [0,1,24,28] [(3,a_ 1 f),(7,v_ 0 (yD L bC))] (ck.last rfl rfl (av.Iw 2 (d:=none) (t:=129) (K:=3) (E:=133) (b:=m) (n:=ar.length) (f:=(cT (cV L ar))) (x:=(.tmp 24)) (ix:=(.tmp 28)) (key:=vI ((af O tk).id)) (kl:=(.int .i64 (af O tk).id)) (n':=(ar.length-1)) (f':=(cT (cV L (del (af O tk).id ar)))) (ats:=#[129,3]) (λ_=>KB) KB (λ_=>KB) (λ_=>KB) rfl iU Tryz.underlying129 (mA hw) (by rw [j4,fH];rfl) (Kt) (NL (aB.np (NX (SR (jK 7 [5,6] [] (NS (jK 1 [34] [] (NF (aq.skip (aB.gG [(2,.abs (bM Tryz.prog 3 m (cT (cV L (del (af O tk).id ar))) ((del (af O tk).id ar).length)))] (λw hS=>by rw [show (del (af O tk).id ar).length=ar.length-1 by omega];exact hS) (RF (.tuple #[]) [0,1,2,3] (⟨rfl,rfl⟩)))))))))))))))))))))))))))
theorem Ul {β:Bs} (O:d9) (L:HL) (f:Nat) (th:Th) (bC:(af O th.k).kind=th.kind) (h3:th.kind=1\/th.kind=2\/th.kind=3) (hg:(af O th.k).aG=false\/0<(af O th.k).aK) :
 aW Tryz.prog β 214 #[vP f,(iw L th)] [pO O L] (λv l=>v=.tuple #[]/\l=[pO O L]):=by
 refine SE Tryz.func214 Tryz.ntmps214 (λR=>aq.seq ?_)
 obtain⟨tk,kd⟩:=th;simp only at bC h3;rcases h3 with rfl|rfl|rfl
 ·replace bC:(af O tk).kind=1:=bC
  replace hg:(af O tk).aG=false\/0<(af O tk).aK:=hg
  exact aq.region (jK 1 [7] [] (gE [] (gi (L.b tk)) (jK 1 [4] [] (NZ (jK 6 [14] [(3,v_ 0 (uh L bC))] (av.pJ 14 (!(af O tk).aG) (λ_=>KB) (λmw=>jK 6 [20] [] (NT (aq.ret (aB.bD (RT _ [0,1] (⟨rfl,rfl⟩)))))) (λmw=>jK 6 [20] [(3,v_ 0 (qb L bC))] (NN (cP (((af O tk).aK:Int)>(0:Int)) (λo5=>aq.ret (aB.bD (RT _ [0,1] (⟨rfl,rfl⟩)))) (λo5=>agY hg (by simp at mw;rw [mw];simp;omega)))))))))))
 ·replace bC:(af O tk).kind=2:=bC
  replace hg:(af O tk).aG=false\/0<(af O tk).aK:=hg
  exact aq.region (jK 1 [7] [] (gE [] (gi (L.b tk)) (jK 1 [4] [] (NZ (jK 6 [14] [(3,v_ 0 (uh L bC))] (av.pJ 14 (!(af O tk).aG) (λ_=>KB) (λmw=>jK 6 [20] [] (NT (aq.ret (aB.bD (RT _ [0,1] (⟨rfl,rfl⟩)))))) (λmw=>jK 6 [20] [(3,v_ 0 (qb L bC))] (NN (cP (((af O tk).aK:Int)>(0:Int)) (λo5=>aq.ret (aB.bD (RT _ [0,1] (⟨rfl,rfl⟩)))) (λo5=>agY hg (by simp at mw;rw [mw];simp;omega)))))))))))
 replace bC:(af O tk).kind=3:=bC
 replace hg:(af O tk).aG=false\/0<(af O tk).aK:=hg
 exact aq.region (jK 1 [7] [] (gE [] (gi (L.b tk)) (jK 1 [4] [] (NZ (jK 6 [14] [(3,v_ 0 (uh L bC))] (av.pJ 14 (!(af O tk).aG) (λ_=>KB) (λmw=>jK 6 [20] [] (NT (aq.ret (aB.bD (RT _ [0,1] (⟨rfl,rfl⟩)))))) (λmw=>jK 6 [20] [(3,v_ 0 (qb L bC))] (NN (cP (((af O tk).aK:Int)>(0:Int)) (λo5=>aq.ret (aB.bD (RT _ [0,1] (⟨rfl,rfl⟩)))) (λo5=>agY hg (by simp at mw;rw [mw];simp;omega)))))))))))
theorem yw {β:Bs} (X:FM) (f m t:Nat) (hX:0<=X.ah/\X.ah<=1048576/\-1125899906842624<=X.used/\X.used<=1125899906842624/\0<=X.last/\X.last<=1125899906842624) (O:d9) (L:HL) (ar:bE Th) (W9:aF.dH (bn ar)) (th:Th) (bC:(af O th.k).kind=th.kind) (h3:th.kind=1\/th.kind=2\/th.kind=3) (ho:0<=(af O th.k).aK) (fH:ul O th->aF.get ar (af O th.k).id=some th) (hw:(Lit.int .i64 (af O th.k).id).wf=true) (E8:(af O th.k).data.length<=1125899906842624) :
 aW Tryz.prog β 214 #[vP f,(iw L th)] [pO O L,pF f m t X,pI m L ar] (λv l=>v=.tuple #[]/\l=[pO O L,pF f m t {X with used:=ql O X.used th},pI m L (kT O ar th)]):=by
 unfold ql kT
 by_cases h:ul O th
 ·rw [agW h,agW h]
  exact ZR X f m t hX O L ar W9 th bC h3 h.1 h.2 (fH h) hw E8
 rw [agV h,agV h]
 refine (aW.wg (pre:=[pO O L]) (R:=[pF f m t X,pI m L ar]) (λ_ _=>Ul O L f th bC h3 ?_)).mono Pe
 cases hg:(af O th.k).aG with
 |false=>exact .inl rfl
 |true=>exact .inr (by have:¬(af O th.k).aK=0:=λe=>h ⟨hg,e⟩;omega)
theorem Cp {β:Bs} (X:FM) (f m t:Nat):aW Tryz.prog β 207 #[vP f] [W8 f X m t] (λv l=>v=.bool (decide (X.ah<8192))/\l=[W8 f X m t]):=by
 exact SE Tryz.func207 Tryz.ntmps207 (λR=>SR (jK 1 [] [] (NS (jK 6 [2] [(3,a_ 0 f)] (eN ⟨rfl,rfl⟩)))))
theorem kN {β:Bs} (a b:Int):aW Tryz.prog β 61 #[vI a,vI b] [] (λv l=>v=.bool (decide (0<=a/\a<=b))/\l=[]):=by
 exact SE Tryz.func61 Tryz.ntmps61 (λR=>SR (jK 1 [] [] (NS (jK 3 [7] [] (sP 7 ((a:Int)>=(0:Int)) (λh7=>jK 5 [4] [] (eN (v:=(.bool (decide ((a:Int)<=(b:Int))))) ⟨Pe,rfl⟩)) (λh7=>jK 5 [4] [] (eN (v:=(.bool false)) ⟨Pe,rfl⟩)))))))
theorem PG {β:Bs} (X:FM) (f m t:Nat) (L:HL) (ar:bE Th):aW Tryz.prog β 218 #[vP f] [W8 f X m t,.abs (bM Tryz.prog 3 m (cT (cV L ar)) ar.length)] (λv l=>v=.bool (decide ((ar.length:Int)<X.cN/\X.last<1099511627776/\X.ah<8192))/\l=[W8 f X m t,.abs (bM Tryz.prog 3 m (cT (cV L ar)) ar.length)]):=by
 exact SE Tryz.func218 Tryz.ntmps218 (λR=>SR (jK 1 [] [] (NN (aq.seq (rQ (jQ 4 [6] [(3,a_ 0 f)] (bN.Ct 1 (d:=(some 7)) (t:=129) (K:=3) (E:=133) (b:=m) (n:=ar.length) (f:=(cT (cV L ar))) (x:=(.tmp 6)) (ats:=#[129]) (λ_=>KB) KB (λ_=>KB) rfl Tryz.underlying129 (jQ 7 [14] [(4,a_ 0 f)] (bN.wQ 14 ((((ar.length:Nat):Int):Int)<(X.cN:Int)) (λ_=>KB) (λmw=>jQ 7 [21] [(3,a_ 0 f)] (bN.wQ 21 ((X.last:Int)<(1099511627776:Int)) (λ_=>KB) (λsy=>jQ 1 [22] [] (mD [0] [0,1,2] (.bool (decide (X.ah<8192))) (Cp X f m t) (jQ 2 [2] [] (NQ (NX (aq.ret (RT (.bool (decide (X.ah<8192))) [0,1,2] (⟨Pe,rfl⟩)))))))) (λsy=>jQ 4 [2] [] (NQ (NX (aq.ret (RT (.bool false) [0,1,2] (⟨Pe,rfl⟩)))))))) (λmw=>jQ 11 [2] [] (NQ (NX (aq.ret (RT (.bool false) [0,1,2] (⟨Pe,rfl⟩)))))))))))))))
theorem BV {β:Bs} (X:FM) (f m t:Nat) (hX:0<=X.ah/\X.ah<=1048576/\-1125899906842624<=X.used/\X.used<=1125899906842624/\0<=X.last/\X.last<=1125899906842624) (mode:Int):aW Tryz.prog β 204 #[vP f,vI mode] [W8 f X m t] (λv l=>v=.agg #[vI (X.last+1),vI mode,vI 0,vI 0,vI X.cS,vI X.cZ,vI 0,vI 0,.bool false]/\l=[.aD f [vI (X.cN),vI (X.cB),vI (X.cH),vI (X.cS),vI (X.cZ),.map (some m),vP t,vI (X.last+1),vI (X.ah),vI (X.used)] 135]):=by
 exact SE Tryz.func204 Tryz.ntmps204 (λR=>SR (jB 1 [4] (λb1=>.aD b1 [vI 0,vI 0,vI 0,vI 0,vI 0,vI 0,vI 0,vI 0,.bool false] 137) (λb1=>NS (jC 8 [] [(3,a_ 0 f),(4,wJ (X.last+1) (X.last+1)),(7,a_ 0 f)] [(0,[(7,vI (X.last+1))])] (NN (aq.seq (rM (List.range 12) 11 [0,1,2] (jR 11 [4,22] [(3,a_ 0 f),(9,A_ 0 f 2)] (ck.last rfl rfl (jC 1 [] [(0,A_ 2 b1 9)] [(2,[(0,vI (X.last+1)),(1,vI (mode)),(4,vI (X.cS)),(5,vI (X.cZ))])] (NL (aB.np (NX (aq.ret (rT _ [A_ 2 b1 9] [0,1] (⟨rfl,rfl⟩))))))))))))))))
theorem uH {β:Bs} (S:bB) (L:HL) (f m t:Nat) (hI:bR S) (d:Nat) (hd:aT S.ar ⟨d,2⟩) (name:ByteArray) (eT:name.size<=1048576) (th:Th) (eF:bL name (af S.O d).ah=some th) :
 aW Tryz.prog β 220 #[vP f,vP (L.b d),.string name] [pF f m t S.X,pO S.O L,pE S.O L,pI m L S.ar] (λv l=>v=.tuple #[]/\l=[pF f m t ((bp S d name th).X),pO ((bp S d name th).O) L,pE ((bp S d name th).O) L,pI m L ((bp S d name th).ar)]):=by
 have hX:=hI.hX
 have hel:(af S.O d).ah.length<=8192:=hI.lF hd
 have dQ:(af S.O d).kind=2:=hI.kind hd
 refine SE Tryz.func220 Tryz.ntmps220 (λR=>aq.seq ?_)
 obtain⟨tk,kd⟩:=th;have bW:=(hI.bS hd eF).2;have agO:=hI.ne hd eF;rcases (hI.ob _ bW).2.2 with e0|e0|e0<;>simp only at e0<;>subst e0
 ·have bC:(af S.O tk).kind=1:=hI.kind bW
  have hlb:=hI.lb bW;have hid:=hI.ob _ bW;have bZ:=hI.Lv bW;have hdl:=hI.Oo bW;have wH:=hI.Vy bW
  refine aq.region (jK 3 [8,9,10] [] (gE [0,1,2] (oV S.X f m t hX S.O L d dQ name eT ⟨tk,1⟩ bC agU eF (hI.pP hd) zc (by simp only at hlb ⊢;omega)) (jK 1 [6] [] (NS ?_))))
  have pY:(af (bq S.X S.O d name ⟨tk,1⟩) d).kind=2:=(fL).trans (dQ)
  have tf:(af (bq S.X S.O d name ⟨tk,1⟩) tk).kind=1:=(fL).trans (bC)
  have E9:(af (bq S.X S.O d name ⟨tk,1⟩) tk).id=(af S.O tk).id:=eU (g:=bJ.id) (λ_ _=>rfl) (λ_ _=>rfl) (λ_ _ _=>rfl)
  have Fa:(af (bq S.X S.O d name ⟨tk,1⟩) tk).aK=(af S.O tk).aK:=eU (g:=bJ.aK) (λ_ _=>rfl) (λ_ _=>rfl) (λ_ _ _=>rfl)
  have Fb:(af (bq S.X S.O d name ⟨tk,1⟩) tk).data=(af S.O tk).data:=eU (g:=bJ.data) (λ_ _=>rfl) (λ_ _=>rfl) (λ_ _ _=>rfl)
  generalize fO:(bq S.X S.O d name ⟨tk,1⟩)=gS at pY tf E9 Fa Fb ⊢
  refine jK 1 [12] [] (gE [] (gi (L.b tk)) (jK 1 [7] [] (NS (jK 5 [18] [(3,v_ 1 (tL L tf))] (NN (cP (((af gS tk).aV:Int)=(0:Int)) (λpU=>SR (jK 3 [21] [] (AL 1 [(2,1)] tk 8 (λo=>{o with aG:=true}) tf (λjJ gA=>?_)))) (λpU=>aq.skip (RF (l:=[pF f m t {S.X with ah:=S.X.ah-1},pO gS L,pE gS L,pI m L S.ar]) (.tuple #[]) [0,1,2,3,4] (⟨rfl,by grind [bp,xO]⟩)))))))))
  have KW:=ku gA pY
  have E6:=ku gA tf
  have Xa:(af jJ tk).id=(af S.O tk).id:=fu bJ.id gA E9
  have hf6:(af jJ tk).aK=(af S.O tk).aK:=fu bJ.aK gA Fa
  have hf7:(af jJ tk).data=(af S.O tk).data:=fu bJ.data gA Fb
  exact NN (aq.region (jK 2 [22,23] [] (gE [1,0,3] (yw {S.X with ah:=S.X.ah-1} f m t (hI.Gn hd eF) jJ L S.ar hI.fI ⟨tk,1⟩ E6 agU (by rw [hf6];exact bZ.1) (λ_=>by rw [Xa,hid.1];exact bW) (by rw [Xa];exact wH) (by rw [hf7];exact hdl)) (NL (RF (l:=[pF f m t {S.X with ah:=S.X.ah-1,used:=ql jJ S.X.used ⟨tk,1⟩},pO jJ L,pE jJ L,pI m L (kT jJ S.ar ⟨tk,1⟩)]) (.tuple #[]) [1,0,3,2,4] (⟨rfl,by subst gA;subst fO;rw [show bp S d name ⟨tk,1⟩=_ from xM pU]<;>rfl⟩))))))
 ·have bC:(af S.O tk).kind=2:=hI.kind bW
  have hlb:=hI.lb bW;have hid:=hI.ob _ bW;have bZ:=hI.Lv bW;have hdl:=hI.Oo bW;have wH:=hI.Vy bW
  refine aq.region (jK 3 [8,9,10] [] (gE [0,1,2] (oV S.X f m t hX S.O L d dQ name eT ⟨tk,2⟩ bC agU eF (hI.pP hd) zc (by simp only at hlb ⊢;omega)) (jK 1 [6] [] (NS ?_))))
  have ad1:(af (bq S.X S.O d name ⟨tk,2⟩) d).kind=2:=(fL).trans (dQ)
  have KV:(af (bq S.X S.O d name ⟨tk,2⟩) tk).kind=2:=(fL).trans (bC)
  have E9:(af (bq S.X S.O d name ⟨tk,2⟩) tk).id=(af S.O tk).id:=eU (g:=bJ.id) (λ_ _=>rfl) (λ_ _=>rfl) (λ_ _ _=>rfl)
  have Fa:(af (bq S.X S.O d name ⟨tk,2⟩) tk).aK=(af S.O tk).aK:=eU (g:=bJ.aK) (λ_ _=>rfl) (λ_ _=>rfl) (λ_ _ _=>rfl)
  have Fb:(af (bq S.X S.O d name ⟨tk,2⟩) tk).data=(af S.O tk).data:=eU (g:=bJ.data) (λ_ _=>rfl) (λ_ _=>rfl) (λ_ _ _=>rfl)
  generalize fO:(bq S.X S.O d name ⟨tk,2⟩)=gS at ad1 KV E9 Fa Fb ⊢
  refine jK 1 [12] [] (gE [] (gi (L.b tk)) (jK 1 [7] [] (NS (jK 5 [18] [(3,v_ 1 (tL L KV))] (NN (cP (((af gS tk).aV:Int)=(0:Int)) (λpU=>SR (jK 3 [21] [] (AL 1 [(2,1)] tk 8 (λo=>{o with aG:=true}) KV (λjJ gA=>?_)))) (λpU=>aq.skip (RF (l:=[pF f m t {S.X with ah:=S.X.ah-1},pO gS L,pE gS L,pI m L S.ar]) (.tuple #[]) [0,1,2,3,4] (⟨rfl,by grind [bp,xO]⟩)))))))))
  have Uh:=ku gA ad1
  have abm:=ku gA KV
  have ad2:(af jJ tk).id=(af S.O tk).id:=fu bJ.id gA E9
  have afW:(af jJ tk).aK=(af S.O tk).aK:=fu bJ.aK gA Fa
  have afX:(af jJ tk).data=(af S.O tk).data:=fu bJ.data gA Fb
  exact NN (aq.region (jK 2 [22,23] [] (gE [1,0,3] (yw {S.X with ah:=S.X.ah-1} f m t (hI.Gn hd eF) jJ L S.ar hI.fI ⟨tk,2⟩ abm agU (by rw [afW];exact bZ.1) (λ_=>by rw [ad2,hid.1];exact bW) (by rw [ad2];exact wH) (by rw [afX];exact hdl)) (NL (RF (l:=[pF f m t {S.X with ah:=S.X.ah-1,used:=ql jJ S.X.used ⟨tk,2⟩},pO jJ L,pE jJ L,pI m L (kT jJ S.ar ⟨tk,2⟩)]) (.tuple #[]) [1,0,3,2,4] (⟨rfl,by subst gA;subst fO;rw [show bp S d name ⟨tk,2⟩=_ from xM pU]<;>rfl⟩))))))
 have bC:(af S.O tk).kind=3:=hI.kind bW
 have hlb:=hI.lb bW;have hid:=hI.ob _ bW;have bZ:=hI.Lv bW;have hdl:=hI.Oo bW;have wH:=hI.Vy bW
 refine aq.region (jK 3 [8,9,10] [] (gE [0,1,2] (oV S.X f m t hX S.O L d dQ name eT ⟨tk,3⟩ bC agU eF (hI.pP hd) zc (by simp only at hlb ⊢;omega)) (jK 1 [6] [] (NS ?_))))
 have abr:(af (bq S.X S.O d name ⟨tk,3⟩) d).kind=2:=(fL).trans (dQ)
 have JU:(af (bq S.X S.O d name ⟨tk,3⟩) tk).kind=3:=(fL).trans (bC)
 have E9:(af (bq S.X S.O d name ⟨tk,3⟩) tk).id=(af S.O tk).id:=eU (g:=bJ.id) (λ_ _=>rfl) (λ_ _=>rfl) (λ_ _ _=>rfl)
 have Fa:(af (bq S.X S.O d name ⟨tk,3⟩) tk).aK=(af S.O tk).aK:=eU (g:=bJ.aK) (λ_ _=>rfl) (λ_ _=>rfl) (λ_ _ _=>rfl)
 have Fb:(af (bq S.X S.O d name ⟨tk,3⟩) tk).data=(af S.O tk).data:=eU (g:=bJ.data) (λ_ _=>rfl) (λ_ _=>rfl) (λ_ _ _=>rfl)
 generalize fO:(bq S.X S.O d name ⟨tk,3⟩)=gS at abr JU E9 Fa Fb ⊢
 refine jK 1 [12] [] (gE [] (gi (L.b tk)) (jK 1 [7] [] (NS (jK 5 [18] [(3,v_ 1 (tL L JU))] (NN (cP (((af gS tk).aV:Int)=(0:Int)) (λpU=>SR (jK 3 [21] [] (AL 1 [(2,1)] tk 8 (λo=>{o with aG:=true}) JU (λjJ gA=>?_)))) (λpU=>aq.skip (RF (l:=[pF f m t {S.X with ah:=S.X.ah-1},pO gS L,pE gS L,pI m L S.ar]) (.tuple #[]) [0,1,2,3,4] (⟨rfl,by grind [bp,xO]⟩)))))))))
 have ae5:=ku gA abr
 have JV:=ku gA JU
 have ad3:(af jJ tk).id=(af S.O tk).id:=fu bJ.id gA E9
 have afY:(af jJ tk).aK=(af S.O tk).aK:=fu bJ.aK gA Fa
 have afZ:(af jJ tk).data=(af S.O tk).data:=fu bJ.data gA Fb
 exact NN (aq.region (jK 2 [22,23] [] (gE [1,0,3] (yw {S.X with ah:=S.X.ah-1} f m t (hI.Gn hd eF) jJ L S.ar hI.fI ⟨tk,3⟩ JV agU (by rw [afY];exact bZ.1) (λ_=>by rw [ad3,hid.1];exact bW) (by rw [ad3];exact wH) (by rw [afZ];exact hdl)) (NL (RF (l:=[pF f m t {S.X with ah:=S.X.ah-1,used:=ql jJ S.X.used ⟨tk,3⟩},pO jJ L,pE jJ L,pI m L (kT jJ S.ar ⟨tk,3⟩)]) (.tuple #[]) [1,0,3,2,4] (⟨rfl,by subst gA;subst fO;rw [show bp S d name ⟨tk,3⟩=_ from xM pU]<;>rfl⟩))))))
theorem BW {β:Bs} (S:bB) (L:HL) (f m t:Nat) (hI:bR S) (d:Nat) (hd:aT S.ar ⟨d,2⟩) (name:ByteArray) (eT:name.size<=1048576) :
 aW Tryz.prog β 203 #[vP f,vP (L.b d),.string name] [pF f m t S.X,pI m L S.ar,pE S.O L,pO S.O L] (λv l=>v=vI (gu S.X S.O S.ar d name)/\l=[pF f m t S.X,pI m L S.ar,pE S.O L,pO S.O L]):=by
 have hX:=hI.hX
 have hel:(af S.O d).ah.length<=8192:=hI.lF hd
 have dQ:(af S.O d).kind=2:=hI.kind hd
 refine SE Tryz.func203 Tryz.ntmps203 (λR=>aq.seq ?_)
 rcases hI.sJ hd name with eF|⟨tk,eF,bW⟩|⟨tk,eF,bW⟩|⟨tk,eF,bW⟩
 ·exact aq.region (jK 1 [] [] (NZ (jK 5 [10,11] [(3,v_ 3 (dw L dQ))] (mX 2 dQ eF (jK 1 [13] [] (NF (KX (SQ (jK 1 [14] [] (gE [0,1] (PG S.X f m t L S.ar) (jK 1 [16] [] (NN (cN ((S.ar.length:Int)<S.X.cN/\S.X.last<1099511627776/\S.X.ah<8192) (λo6=>zR ⟨agX (Value.int .i64) (ahD (show gu S.X S.O S.ar d name=_ from (agW eF).trans (agV o6))),rfl⟩) (λo6=>KX (zR ⟨agX (Value.int .i64) (ahD (show gu S.X S.O S.ar d name=_ from (agW eF).trans (agW o6))),rfl⟩)))))))))))))))
 ·have bC:(af S.O tk).kind=1:=hI.kind bW
  exact aq.region (jK 1 [] [] (NZ (jK 5 [10,11] [(3,v_ 3 (dw L dQ))] (mX 2 dQ eF (jK 1 [13] [] (NT (zR ⟨agX (Value.int .i64) (ahD (show gu S.X S.O S.ar d name=_ from agV (by rw [eF];simp))),rfl⟩)))))))
 ·have bC:(af S.O tk).kind=2:=hI.kind bW
  exact aq.region (jK 1 [] [] (NZ (jK 5 [10,11] [(3,v_ 3 (dw L dQ))] (mX 2 dQ eF (jK 1 [13] [] (NT (zR ⟨agX (Value.int .i64) (ahD (show gu S.X S.O S.ar d name=_ from agV (by rw [eF];simp))),rfl⟩)))))))
 have bC:(af S.O tk).kind=3:=hI.kind bW
 exact aq.region (jK 1 [] [] (NZ (jK 5 [10,11] [(3,v_ 3 (dw L dQ))] (mX 2 dQ eF (jK 1 [13] [] (NT (zR ⟨agX (Value.int .i64) (ahD (show gu S.X S.O S.ar d name=_ from agV (by rw [eF];simp))),rfl⟩)))))))
theorem acj {β:Bs} (s:ByteArray) (eT:s.size<=1048576) :
 aW Tryz.prog β 219 #[.string s] [] (λv l=>v=vI (kW s)/\l=[]):=by
 refine SE Tryz.func219 Tryz.ntmps219 (λR=>SR (jK 1 [] [] (NN (aq.seq (aq.block (SR (jK 3 [3] [(1,w_ (.bool (decide ((s:ByteArray)=⟨#[]⟩))) (qN _ _))] (NN (cP ((s:ByteArray)=⟨#[]⟩) (λh3=>zR ⟨agX (Value.int .i64) (ahD (show kW s=_ from agW h3)),rfl⟩) (λh3=>SR (jK 4 [6] [] (NN (cP (((((s:ByteArray).size:Nat):Int):Int)>(4096:Int)) (λh6=>zR ⟨agX (Value.int .i64) (ahD (show kW s=_ from (agV h3).trans (agW zc))),rfl⟩) (λh6=>SR (jK 1 [11] [] (gL [] (Qy s) ?_))))))))))))))))
 rintro _ _ ⟨⟨x,rfl,hx⟩,rfl⟩
 exact jK 2 [10] [] (NN (cP ((x:Int)>=(0:Int)) (λh10=>zR ⟨agX (Value.int .i64) (ahD (show kW s=_ from (agV h3).trans ((agV zc).trans (agV (hx.1 zc))))),rfl⟩) (λh10=>KX (zR ⟨agX (Value.int .i64) (ahD (show kW s=_ from (agV h3).trans ((agV zc).trans (agW (ahk (λhn=>agY (hx.2 hn) zc)))))),rfl⟩))))
theorem AO {β:Bs} (S:bB) (L:HL) (f m t:Nat) (th:Th) (bC:(af S.O th.k).kind=th.kind) (h3:th.kind=1\/th.kind=2\/th.kind=3) (bZ:0<=(af S.O th.k).aK/\(af S.O th.k).aK<=1048576) :
 aW Tryz.prog β 199 #[vP f,(iw L th)] [pF f m t S.X,pT t S.X.cH S.aJ L S.us,pO S.O L] (λv l=>v=.tuple #[vI (eE S th).1,vI (eE S th).2.1]/\l=[pF f m t S.X,pT t S.X.cH ((eE S th).2.2.aJ) L ((eE S th).2.2.us),pO ((eE S th).2.2.O) L]):=by
 refine SE Tryz.func199 Tryz.ntmps199 (λR=>aq.seq ?_)
 obtain⟨tk,kd⟩:=th;simp only at bC h3;rcases Int.lt_or_le (S.us.length:Int) S.X.cH with GI|GI<;>rcases h3 with e0|e0|e0<;>subst e0
 ·replace bC:(af S.O tk).kind=1:=bC
  replace bZ:0<=(af S.O tk).aK/\(af S.O tk).aK<=1048576:=bZ
  refine aq.region (jK 2 [] [] (NS (jK 5 [12,13] [(3,a_ 0 f)] (gE [1] ((Hg t S.X.cH S.aJ (cV L S.us) (iw L ⟨tk,1⟩) (by rw [wk];exact GI)).mono (λv l h=>Ku h)) (jK 5 [6,7] [] (NZ (jK 2 [18] [] (NT (aq.region (jK 1 [19] [] (gE [] (gi (L.b tk)) (jK 6 [24,26] [(2,v_ 2 (qb L bC)),(3,wJ ((af S.O tk).aK+1) ((af S.O tk).aK+1))] (AL 2 [] tk 7 (λo=>{o with aK:=o.aK+1}) bC (λgS fO=>?_))))))))))))))
  have agy:=ku fO bC
  exact NS (jK 4 [4,5] [] (eN (l:=[pF f m t S.X,pT t S.X.cH (max S.aJ ((S.us.length:Int)+1)) L (ins (aF.aS S.us) ⟨tk,1⟩ S.us),pO gS L]) (v:=(.tuple #[vI ((aF.aS S.us)),vI 0])) (by grind [eE,om]) [1,0,2,3]))
 ·replace bC:(af S.O tk).kind=2:=bC
  replace bZ:0<=(af S.O tk).aK/\(af S.O tk).aK<=1048576:=bZ
  refine aq.region (jK 2 [] [] (NS (jK 5 [12,13] [(3,a_ 0 f)] (gE [1] ((Hg t S.X.cH S.aJ (cV L S.us) (iw L ⟨tk,2⟩) (by rw [wk];exact GI)).mono (λv l h=>Ku h)) (jK 5 [6,7] [] (NZ (jK 2 [18] [] (NT (aq.region (jK 1 [19] [] (gE [] (gi (L.b tk)) (jK 6 [24,26] [(2,v_ 2 (qb L bC)),(3,wJ ((af S.O tk).aK+1) ((af S.O tk).aK+1))] (AL 2 [] tk 7 (λo=>{o with aK:=o.aK+1}) bC (λgS fO=>?_))))))))))))))
  have abo:=ku fO bC
  exact NS (jK 4 [4,5] [] (eN (l:=[pF f m t S.X,pT t S.X.cH (max S.aJ ((S.us.length:Int)+1)) L (ins (aF.aS S.us) ⟨tk,2⟩ S.us),pO gS L]) (v:=(.tuple #[vI ((aF.aS S.us)),vI 0])) (by grind [eE,om]) [1,0,2,3]))
 ·replace bC:(af S.O tk).kind=3:=bC
  replace bZ:0<=(af S.O tk).aK/\(af S.O tk).aK<=1048576:=bZ
  refine aq.region (jK 2 [] [] (NS (jK 5 [12,13] [(3,a_ 0 f)] (gE [1] ((Hg t S.X.cH S.aJ (cV L S.us) (iw L ⟨tk,3⟩) (by rw [wk];exact GI)).mono (λv l h=>Ku h)) (jK 5 [6,7] [] (NZ (jK 2 [18] [] (NT (aq.region (jK 1 [19] [] (gE [] (gi (L.b tk)) (jK 6 [24,26] [(2,v_ 2 (qb L bC)),(3,wJ ((af S.O tk).aK+1) ((af S.O tk).aK+1))] (AL 2 [] tk 7 (λo=>{o with aK:=o.aK+1}) bC (λgS fO=>?_))))))))))))))
  have Nb:=ku fO bC
  exact NS (jK 4 [4,5] [] (eN (l:=[pF f m t S.X,pT t S.X.cH (max S.aJ ((S.us.length:Int)+1)) L (ins (aF.aS S.us) ⟨tk,3⟩ S.us),pO gS L]) (v:=(.tuple #[vI ((aF.aS S.us)),vI 0])) (by grind [eE,om]) [1,0,2,3]))
 ·replace bC:(af S.O tk).kind=1:=bC
  replace bZ:0<=(af S.O tk).aK/\(af S.O tk).aK<=1048576:=bZ
  exact aq.region (jK 2 [] [] (NS (jK 5 [12,13] [(3,a_ 0 f)] (gE [1] (EA t S.X.cH S.aJ (cV L S.us) (iw L ⟨tk,1⟩) (by rw [wk];exact GI)) (jK 5 [6,7] [] (NZ (jK 2 [18] [] (NF (KX (zR (by skip;rw [show eE S ⟨tk,1⟩=_ from oQ zc]<;>exact⟨rfl,rfl⟩) [1,0,2,3]))))))))))
 ·replace bC:(af S.O tk).kind=2:=bC
  replace bZ:0<=(af S.O tk).aK/\(af S.O tk).aK<=1048576:=bZ
  exact aq.region (jK 2 [] [] (NS (jK 5 [12,13] [(3,a_ 0 f)] (gE [1] (EA t S.X.cH S.aJ (cV L S.us) (iw L ⟨tk,2⟩) (by rw [wk];exact GI)) (jK 5 [6,7] [] (NZ (jK 2 [18] [] (NF (KX (zR (by skip;rw [show eE S ⟨tk,2⟩=_ from oQ zc]<;>exact⟨rfl,rfl⟩) [1,0,2,3]))))))))))
 replace bC:(af S.O tk).kind=3:=bC
 replace bZ:0<=(af S.O tk).aK/\(af S.O tk).aK<=1048576:=bZ
 exact aq.region (jK 2 [] [] (NS (jK 5 [12,13] [(3,a_ 0 f)] (gE [1] (EA t S.X.cH S.aJ (cV L S.us) (iw L ⟨tk,3⟩) (by rw [wk];exact GI)) (jK 5 [6,7] [] (NZ (jK 2 [18] [] (NF (KX (zR (by skip;rw [show eE S ⟨tk,3⟩=_ from oQ zc]<;>exact⟨rfl,rfl⟩) [1,0,2,3]))))))))))
theorem jf {β:Bs} (S:bB) (L:HL) (f m t:Nat) (hI:bR S) (h:Int) (hw:(Lit.int .i64 h).wf=true) (name:ByteArray) (eT:name.size<=1048576) (dZ:Int) :
 aW Tryz.prog β 201 #[vP f,vI (h),.string name,vI (dZ)] [pF f m t S.X,pT t S.X.cH S.aJ L S.us,pO S.O L] (λv l=>v=afx L (iJ S.O S.us h name dZ)/\l=[pF f m t S.X,pT t S.X.cH S.aJ L S.us,pO S.O L]):=by
 refine SE Tryz.func201 Tryz.ntmps201 (λR=>aq.seq ?_)
 rcases hI.hand h with iy|⟨tk,iy,bW⟩|⟨tk,iy,bW⟩
 ·exact aq.region (jK 2 [] [] (NS (jK 5 [18,19] [(3,a_ 0 f)] (gE [1] (xL t S.X.cH S.aJ (cV L S.us) h hw (wm iy)) (jK 5 [10,11] [] (NZ (jK 2 [24] [] (NT (zR (v:=(.tuple #[.pointer none,vI 131])) ⟨by rw [show iJ S.O S.us h name dZ=.error 131 by unfold iJ;rw [iy]];rfl,rfl⟩ [1,0,2,3])))))))))
 ·have bC:(af S.O tk).kind=1:=hI.kind bW
  exact aq.region (jK 2 [] [] (NS (jK 5 [18,19] [(3,a_ 0 f)] (gE [1] (rO t S.X.cH S.aJ (cV L S.us) h hw (iw L ⟨tk,1⟩) (qz iy)) (jK 5 [10,11] [] (NZ (jK 2 [24] [] (NF (KX (SR (jK 7 [12,13] [] (NN (aq.seq (aq.block (SR (jK 3 [31] [] (NT (zR (v:=(.tuple #[.pointer none,vI 173])) ⟨by rw [show iJ S.O S.us h name dZ=.error 173 by grind [iJ]];rfl,rfl⟩ [1,0,2,3]))))))))))))))))))
 have bC:(af S.O tk).kind=2:=hI.kind bW
 exact aq.region (jK 2 [] [] (NS (jK 5 [18,19] [(3,a_ 0 f)] (gE [1] (rO t S.X.cH S.aJ (cV L S.us) h hw (iw L ⟨tk,2⟩) (qz iy)) (jK 5 [10,11] [] (NZ (jK 2 [24] [] (NF (KX (SR (jK 7 [12,13] [] (NN (aq.seq (aq.block (SR (jK 3 [31] [] (NF (SR (jK 6 [34] [(4,v_ 2 (uh L bC))] (NN (aq.cond (b:=(af S.O tk).aG) (λ_=>KB) (λxI=>zR (v:=(.tuple #[.pointer none,vI 170])) ⟨by rw [show iJ S.O S.us h name dZ=.error 170 by grind [iJ]];rfl,rfl⟩ [1,0,2,3]) (λxI=>SR (jK 1 [41] [] (gE [] (zU name eT) (jK 2 [40] [] (NN (cN (cq name) (λtZ=>zR (v:=(.tuple #[.pointer none,vI 95])) ⟨by rw [show iJ S.O S.us h name dZ=.error 95 by grind [iJ]];rfl,rfl⟩ [1,0,2,3]) (λtZ=>SR (jK 10 [44] [(4,v_ 2 (AK L bC))] (NN (cN ((bits BinOp.and .i64 ((af S.O tk).mode) dZ:Int)=(dZ:Int)) (λyJ=>zR (v:=(.tuple #[.pointer none,vI 175])) ⟨by rw [show iJ S.O S.us h name dZ=.error 175 by grind [iJ]];rfl,rfl⟩ [1,0,2,3]) (λyJ=>KX (zR (v:=(.tuple #[vP (L.b tk),vI 0])) ⟨by rw [show iJ S.O S.us h name dZ=.ok tk by grind [iJ]];rfl,rfl⟩ [1,0,2,3])))))))))))))))))))))))))))))))))
theorem ack {β:Bs} (X:FM) (f m t:Nat) (hX:0<=X.ah/\X.ah<=1048576/\-1125899906842624<=X.used/\X.used<=1125899906842624/\0<=X.last/\X.last<=1125899906842624) (O:d9) (L:HL) (d:Nat) (dQ:(af O d).kind=2) (name:ByteArray) (eT:name.size<=1048576) (iP:bL name (af O d).ah=none) (hel:(af O d).ah.length<=1048576) (ar:bE Th) (hil:ar.length<=1048576) (th:Th) (bC:(af O th.k).kind=th.kind) (h3:th.kind=1\/th.kind=2\/th.kind=3) (hb:0<=(af O th.k).aV/\(af O th.k).aV<=1048576) (hni:aF.get ar (af O th.k).id=none) (hw:(Lit.int .i64 (af O th.k).id).wf=true) :
 aW Tryz.prog β 205 #[vP f,vP (L.b d),.string name,(iw L th)] [pF f m t X,pI m L ar,pO O L,pE O L] (λv l=>v=.tuple #[]/\l=[pF f m t {X with ah:=X.ah+1},pI m L (ins (af O th.k).id th ar),pO (dg X O d name th) L,pE (dg X O d name th) L]):=by
 refine SE Tryz.func205 Tryz.ntmps205 (λR=>aq.seq ?_)
 obtain⟨tk,kd⟩:=th;simp only at bC h3;rcases h3 with rfl|rfl|rfl
 ·replace bC:(af O tk).kind=1:=bC
  replace hni:aF.get ar (af O tk).id=none:=hni
  replace hw:(Lit.int .i64 (af O tk).id).wf=true:=hw
  refine rM [0,1,2,3,4,9,5,6,7,8,10] 6 [0,1,2,3,4] (jR 6 [0,1,2,3,11,12,17] [(3,a_ 0 f)] (mL [0,1,2,3,4] [] (gi (L.b tk)) ?_ (by rintro _ _ ⟨rfl,rfl⟩;rfl)))
  rintro _ _ ⟨rfl,rfl⟩
  exact nC [0,1,2,3,4] [14] [] [] (nC [0,1,2,3,4] [15] [] [] (nC [0,1,2,3,4] [16] [(0,v_ 2 (yD L bC))] [] (ck.last rfl rfl (av.qO 1 (d:=none) (t:=129) (K:=3) (E:=133) (b:=m) (n:=ar.length) (f:=(cT (cV L ar))) (x:=(.tmp 11)) (ix:=(.tmp 16)) (y:=(.tmp 17)) (key:=vI ((af O tk).id)) (u:=.iface 138 (vP (L.b tk))) (kl:=(.int .i64 (af O tk).id)) (n':=(ar.length+1)) (f':=(cT (cV L (ins (af O tk).id ⟨tk,1⟩ ar)))) (λ_=>KB) KB (λ_=>KB) (λ_=>KB) (λ_=>KB) iU Tryz.underlying129 (by unfold maxLen;omega) (mA hw) (by rw [j4,hni];rfl) (zn (L:=L) (t:=⟨tk,1⟩) hni) (NL (aB.np (NX (aq.region (jK 4 [18,19,20,21] [] (gE [0,2,3] (ny X f m t hX O L d dQ name eT iP hel ⟨tk,1⟩ bC agU hb) (NL (aB.gG [(3,.abs (bM Tryz.prog 3 m (cT (cV L (ins (af O tk).id ⟨tk,1⟩ ar))) ((ins (af O tk).id ⟨tk,1⟩ ar).length)))] (λw hS=>by rw [show (ins (af O tk).id ⟨tk,1⟩ ar).length=ar.length+1 from lu _ _ _];exact hS) (RF (.tuple #[]) [0,3,1,2,4] (⟨rfl,rfl⟩))))))))))))))
 ·replace bC:(af O tk).kind=2:=bC
  replace hni:aF.get ar (af O tk).id=none:=hni
  replace hw:(Lit.int .i64 (af O tk).id).wf=true:=hw
  refine rM [0,1,2,3,4,9,5,6,7,8,10] 6 [0,1,2,3,4] (jR 6 [0,1,2,3,11,12,17] [(3,a_ 0 f)] (mL [0,1,2,3,4] [] (gi (L.b tk)) ?_ (by rintro _ _ ⟨rfl,rfl⟩;rfl)))
  rintro _ _ ⟨rfl,rfl⟩
  exact nC [0,1,2,3,4] [14] [] [] (nC [0,1,2,3,4] [15] [] [] (nC [0,1,2,3,4] [16] [(0,v_ 2 (yD L bC))] [] (ck.last rfl rfl (av.qO 1 (d:=none) (t:=129) (K:=3) (E:=133) (b:=m) (n:=ar.length) (f:=(cT (cV L ar))) (x:=(.tmp 11)) (ix:=(.tmp 16)) (y:=(.tmp 17)) (key:=vI ((af O tk).id)) (u:=.iface 144 (vP (L.b tk))) (kl:=(.int .i64 (af O tk).id)) (n':=(ar.length+1)) (f':=(cT (cV L (ins (af O tk).id ⟨tk,2⟩ ar)))) (λ_=>KB) KB (λ_=>KB) (λ_=>KB) (λ_=>KB) iU Tryz.underlying129 (by unfold maxLen;omega) (mA hw) (by rw [j4,hni];rfl) (zn (L:=L) (t:=⟨tk,2⟩) hni) (NL (aB.np (NX (aq.region (jK 4 [18,19,20,21] [] (gE [0,2,3] (ny X f m t hX O L d dQ name eT iP hel ⟨tk,2⟩ bC agU hb) (NL (aB.gG [(3,.abs (bM Tryz.prog 3 m (cT (cV L (ins (af O tk).id ⟨tk,2⟩ ar))) ((ins (af O tk).id ⟨tk,2⟩ ar).length)))] (λw hS=>by rw [show (ins (af O tk).id ⟨tk,2⟩ ar).length=ar.length+1 from lu _ _ _];exact hS) (RF (.tuple #[]) [0,3,1,2,4] (⟨rfl,rfl⟩))))))))))))))
 replace bC:(af O tk).kind=3:=bC
 replace hni:aF.get ar (af O tk).id=none:=hni
 replace hw:(Lit.int .i64 (af O tk).id).wf=true:=hw
 refine rM [0,1,2,3,4,9,5,6,7,8,10] 6 [0,1,2,3,4] (jR 6 [0,1,2,3,11,12,17] [(3,a_ 0 f)] (mL [0,1,2,3,4] [] (gi (L.b tk)) ?_ (by rintro _ _ ⟨rfl,rfl⟩;rfl)))
 rintro _ _ ⟨rfl,rfl⟩
 exact nC [0,1,2,3,4] [14] [] [] (nC [0,1,2,3,4] [15] [] [] (nC [0,1,2,3,4] [16] [(0,v_ 2 (yD L bC))] [] (ck.last rfl rfl (av.qO 1 (d:=none) (t:=129) (K:=3) (E:=133) (b:=m) (n:=ar.length) (f:=(cT (cV L ar))) (x:=(.tmp 11)) (ix:=(.tmp 16)) (y:=(.tmp 17)) (key:=vI ((af O tk).id)) (u:=.iface 141 (vP (L.b tk))) (kl:=(.int .i64 (af O tk).id)) (n':=(ar.length+1)) (f':=(cT (cV L (ins (af O tk).id ⟨tk,3⟩ ar)))) (λ_=>KB) KB (λ_=>KB) (λ_=>KB) (λ_=>KB) iU Tryz.underlying129 (by unfold maxLen;omega) (mA hw) (by rw [j4,hni];rfl) (zn (L:=L) (t:=⟨tk,3⟩) hni) (NL (aB.np (NX (aq.region (jK 4 [18,19,20,21] [] (gE [0,2,3] (ny X f m t hX O L d dQ name eT iP hel ⟨tk,3⟩ bC agU hb) (NL (aB.gG [(3,.abs (bM Tryz.prog 3 m (cT (cV L (ins (af O tk).id ⟨tk,3⟩ ar))) ((ins (af O tk).id ⟨tk,3⟩ ar).length)))] (λw hS=>by rw [show (ins (af O tk).id ⟨tk,3⟩ ar).length=ar.length+1 from lu _ _ _];exact hS) (RF (.tuple #[]) [0,3,1,2,4] (⟨rfl,rfl⟩))))))))))))))
end
section
open Go.RowKit Go.Maps bK aF
attribute [local irreducible] av bN aq aB
theorem zj {β:Bs} (S:bB) (L:HL) (f m t:Nat) (hI:Inv0 S) (d:Nat) (hd:aT S.ar ⟨d,2⟩) (name:ByteArray) (eT:name.size<=1048576) (iP:bL name (af S.O d).ah=none) (o:bJ) (hid:o.id=S.X.last+1) (hk3:o.kind=1\/o.kind=2\/o.kind=3) (hl0:o.aV=0) (hlast:S.X.last<1099511627776) :
 aW Tryz.prog β 205 #[vP f,vP (L.b d),.string name,iw L ⟨(bA S.X),o.kind⟩] [pF f m t {S.X with last:=S.X.last+1},pI m L S.ar,pO (aZ S.O (bA S.X) (λ_=>o)) L,pE (aZ S.O (bA S.X) (λ_=>o)) L] (λv l=>v=.tuple #[]/\l=[pF f m t ((gn S d name o).X),pI m L ((gn S d name o).ar),pO ((gn S d name o).O) L,pE ((gn S d name o).O) L]):=by
 have hX:=hI.hX
 have bX:d≠(bA S.X):=hI.CD hd
 have dQ:(af S.O d).kind=2:=hI.kind hd
 have hel:(af S.O d).ah.length<=8192:=hI.lF hd
 have jv:=hI.len
 have e1:af (aZ S.O (bA S.X) (λ_=>o)) (bA S.X)=o:=fA
 have e2:af (aZ S.O (bA S.X) (λ_=>o)) d=af S.O d:=iX bX
 have hnk:=qX hI
 have h:=ack (β:=β) {S.X with last:=S.X.last+1} f m t (by simp only;omega) (aZ S.O (bA S.X) (λ_=>o)) L d (by rw [e2];exact dQ) name eT (by rw [e2];exact iP) (by rw [e2];omega) S.ar zc ⟨(bA S.X),o.kind⟩ (by rw [e1]) hk3 (by rw [e1,hl0];decide) (by
  rw [e1,hid]
  cases e:aF.get S.ar (S.X.last+1) with
  |none=>rfl
  |some u=>have:=(hI.ar _ u e).2.2;omega) (by rw [e1,hid];exact WalkArith.wf_i64 (by have:=hI.last;omega))
 rw [e1,hid] at h
 exact h
theorem Mh {β:Bs} (S:bB) (L:HL) (f m t:Nat) (hI:bR S) (d:Nat) (hd:aT S.ar ⟨d,2⟩) (name:ByteArray) (eT:name.size<=1048576) (mode:Int) :
 aW Tryz.prog β 202 #[vP f,vP (L.b d),.string name,vI (mode)] (pA f m t L S) (λv l=>∃L2,v=vI (mF S d name mode).1/\l=(pA f m t L2 ((mF S d name mode).2))):=by
 have hX:=hI.hX
 have hel:(af S.O d).ah.length<=8192:=hI.lF hd
 have dQ:(af S.O d).kind=2:=hI.kind hd
 refine SE Tryz.func202 Tryz.ntmps202 (λR=>SR (jK 1 [] [] (NS (jK 3 [10,11,12] [] (gE [0,1,5,3] (BW S L f m t hI d hd name eT) (jK 1 [9] [] (NZ (jK 2 [15] [] (NN (cP (((gu S.X S.O S.ar d name):Int)=(0:Int)) (λh0=>?_) (λh0=>KX (zR ⟨L,by rw [show mF S d name mode=_ from agV h0]<;>exact⟨rfl,rfl⟩⟩ [0,1,4,3,5,2,6]))))))))))))
 have iP:=uT h0
 refine aq.region (jK 5 [16,17,18,19,20] [] (gE [0] (BV S.X f m t hX mode) (av.tj (d:=(some 22)) (t:=145) (λ_=>KB) Tryz.prog rfl 9 (λm1=>jB 3 [25] (λb2=>.aD b2 [vI (S.X.last+1),vI (mode),vI 0,vI 0,vI (S.X.cS),vI (S.X.cZ),vI 0,vI 0,.bool false,.map (some m1),.pointer none] 147) (λb2=>?_)))))
 obtain⟨L2,fS⟩:∃L2:HL,L2=L.put (bA S.X) b2 m1 none 0:=⟨_,rfl⟩
 have hfr:=hI.toInv0.fresh
 exact av.mem (λw hS=>hS.Bo fS hfr (o:=(cR S.X 2 mode)) (i:=3) (j:=8) (ix:=[0,1,2,4,5,6,7]) rfl rfl KB rfl (by show (2:Int)≠0;decide) ((rJ (L:=L2) (k:=(bA S.X)) (o:=(cR S.X 2 mode)) rfl).trans (by rw [Oq fS];rfl)) rfl) (av.mem (λw hS=>hS.aaO fS hfr (o:=(cR S.X 2 mode)) (i:=3) (j:=7) (ix:=[0,1,2,4,5,6]) rfl rfl KB rfl rfl rfl) (av.gG [(5,pD (aZ S.O (bA S.X) (λ_=>(cR S.X 2 mode))) L2)] (λw hS=>hS.Jb fS (o:=(cR S.X 2 mode)) (i:=5) rfl (by show (2:Int)≠1;decide)) (av.gG [(3,.abs (bM Tryz.prog 3 m (cT (cV L2 S.ar)) S.ar.length)),(4,.abs (gj 182 t S.X.cH S.aJ (cV L2 S.us)))] (λw hS=>by rw [lW fS hfr.ar,lW fS hfr.us];exact hS) (gE [2,3,1,0] ((by have h:=zj (β:=β) S L2 f m t hI.toInv0 d hd name eT iP (cR S.X 2 mode) rfl (by simp [cR]) rfl (wX h0);rw [Dj fS (hI.CD hd),uS fS] at h;exact h)) (NS (av.gG [(5,.abs (aY (dS ((gn S d name (cR S.X 2 mode)).O) L2)))] (λw hS=>by rw [show dS ((gn S d name (cR S.X 2 mode)).O) L2=dS (aZ S.O (bA S.X) (λ_=>(cR S.X 2 mode))) L2 from mG];exact hS) (jK 2 [8] [] (eN ⟨L2,by rw [show mF S d name mode=_ from agW h0];refine⟨agX _ h0,?_⟩;rfl⟩ [0,1,4,2,5,3,6]))))))))
theorem GJ {β:Bs} (S:bB) (L:HL) (f m t:Nat) (hI:bR S) (d:Nat) (hd:aT S.ar ⟨d,2⟩) (name:ByteArray) (eT:name.size<=1048576) (text:ByteArray) (htz:text.size<=1048576) :
 aW Tryz.prog β 206 #[vP f,vP (L.b d),.string name,.string text] (pA f m t L S) (λv l=>∃L2,v=vI (jk S d name text).1/\l=(pA f m t L2 ((jk S d name text).2))):=by
 have hX:=hI.hX
 have hel:(af S.O d).ah.length<=8192:=hI.lF hd
 have dQ:(af S.O d).kind=2:=hI.kind hd
 refine SE Tryz.func206 Tryz.ntmps206 (λR=>SR (jK 1 [] [] (NS (jK 1 [10] [] (gE [] (acj text htz) (jK 1 [9] [] (NZ (jK 2 [13] [] (NN (cP (((kW text):Int)=(0:Int)) (λhb=>aq.region (jK 3 [14,15,16] [] (gE [0,1,5,3] (BW S L f m t hI d hd name eT) (jK 1 [9] [] (NZ (jK 2 [19] [] (NN (cP (((gu S.X S.O S.ar d name):Int)=(0:Int)) (λh0=>?_) (λh0=>KX (zR ⟨L,by rw [show jk S d name text=_ from (agW hb).trans (agV h0)]<;>exact⟨rfl,rfl⟩⟩ [0,1,4,3,5,2,6])))))))))) (λhb=>KX (SQ (jK 2 [19] [] (NN (cP (((kW text):Int)=(0:Int)) (λh0=>agY h0 hb) (λh0=>KX (zR ⟨L,by rw [show jk S d name text=_ from agV hb]<;>exact⟨rfl,rfl⟩⟩)))))))))))))))))
 have iP:=uT h0
 refine aq.region (jK 4 [20,21,22,23] [] (gE [0] (BV S.X f m t hX 511) (jB 4 [28] (λb3=>.aD b3 [vI (S.X.last+1),vI (511),vI 0,vI 0,vI (S.X.cS),vI (S.X.cZ),vI 0,vI 0,.bool false,.string text] 143) (λb3=>?_))))
 obtain⟨L2,fS⟩:∃L2:HL,L2=L.put (bA S.X) b3 0 none 0:=⟨_,rfl⟩
 have hfr:=hI.toInv0.fresh
 exact av.mem (λw hS=>hS.Bo fS hfr (o:={cR S.X 3 511 with target:=text}) (i:=3) (j:=7) (ix:=[0,1,2,4,5,6]) rfl rfl KB rfl (by show (3:Int)≠0;decide) ((Et (L:=L2) (k:=(bA S.X)) (o:={cR S.X 3 511 with target:=text}) rfl).trans agS) rfl) (av.gG [(3,pE (aZ S.O (bA S.X) (λ_=>{cR S.X 3 511 with target:=text})) L2)] (λw hS=>hS.CG fS hfr (o:={cR S.X 3 511 with target:=text}) (i:=3) rfl (by show (3:Int)≠2;decide)) (av.gG [(5,pD (aZ S.O (bA S.X) (λ_=>{cR S.X 3 511 with target:=text})) L2)] (λw hS=>hS.Jb fS (o:={cR S.X 3 511 with target:=text}) (i:=5) rfl (by show (3:Int)≠1;decide)) (av.gG [(2,.abs (bM Tryz.prog 3 m (cT (cV L2 S.ar)) S.ar.length)),(4,.abs (gj 182 t S.X.cH S.aJ (cV L2 S.us)))] (λw hS=>by rw [lW fS hfr.ar,lW fS hfr.us];exact hS) (gE [1,2,0,3] ((by have h:=zj (β:=β) S L2 f m t hI.toInv0 d hd name eT iP {cR S.X 3 511 with target:=text} rfl (by simp [cR]) rfl (wX h0);rw [Dj fS (hI.CD hd),uS fS] at h;exact h)) (NS (av.gG [(5,.abs (aY (dS ((gn S d name {cR S.X 3 511 with target:=text}).O) L2)))] (λw hS=>by rw [show dS ((gn S d name {cR S.X 3 511 with target:=text}).O) L2=dS (aZ S.O (bA S.X) (λ_=>{cR S.X 3 511 with target:=text})) L2 from mG];exact hS) (jK 2 [8] [] (eN ⟨L2,by rw [show jk S d name text=_ from (agW hb).trans (agW h0)];refine⟨agX _ h0,?_⟩;rfl⟩ [0,1,4,2,5,3,6]))))))))
theorem JW {β:Bs} (S:bB) (L:HL) (f m t:Nat) (hI:bR S) (d:Nat) (hd:aT S.ar ⟨d,2⟩) (name:ByteArray) (eT:name.size<=1048576) :
 aW Tryz.prog β 209 #[vP f,vP (L.b d),.string name] (pA f m t L S) (λv l=>∃L2,v=vI (iA S d name).1/\l=(pA f m t L2 ((iA S d name).2))):=by
 have hX:=hI.hX
 have hel:(af S.O d).ah.length<=8192:=hI.lF hd
 have dQ:(af S.O d).kind=2:=hI.kind hd
 refine SE Tryz.func209 Tryz.ntmps209 (λR=>aq.seq ?_)
 rcases hI.sJ hd name with eF|⟨tk,eF,bW⟩|⟨tk,eF,bW⟩|⟨tk,eF,bW⟩
 ·exact aq.region (jK 1 [] [] (NZ (jK 5 [10,11] [(3,v_ 3 (dw L dQ))] (mX 5 dQ eF (NN (aq.block (SR (jK 1 [13] [] (NT (zR ⟨L,by rw [show iA S d name=(170,S) by unfold iA;rw [eF]]<;>exact⟨rfl,rfl⟩⟩))))))))))
 ·have bC:(af S.O tk).kind=1:=hI.kind bW
  exact aq.region (jK 1 [] [] (NZ (jK 5 [10,11] [(3,v_ 3 (dw L dQ))] (mX 5 dQ eF (NN (aq.block (SR (jK 1 [13] [] (NF (SR (jK 3 [15] [] (NF (KX (SR (jK 3 [17,18,19] [] (gE [0,3,5,1] (uH S L f m t hI d hd name eT ⟨tk,1⟩ eF) (NS (av.gG [(5,.abs (aY (dS ((bp S d name ⟨tk,1⟩).O) L)))] (λw hS=>by rw [show dS ((bp S d name ⟨tk,1⟩).O) L=dS S.O L from uy];exact hS) (jK 1 [6] [] (eN ⟨L,by rw [show iA S d name=(0,bp S d name ⟨tk,1⟩) by grind [iA]]<;>exact⟨rfl,rfl⟩⟩ [0,3,4,1,5,2,6]))))))))))))))))))))
 ·have bC:(af S.O tk).kind=2:=hI.kind bW
  exact aq.region (jK 1 [] [] (NZ (jK 5 [10,11] [(3,v_ 3 (dw L dQ))] (mX 5 dQ eF (NN (aq.block (SR (jK 1 [13] [] (NF (SR (jK 3 [15] [] (NT (zR ⟨L,by rw [show iA S d name=(172,S) by grind [iA]]<;>exact⟨rfl,rfl⟩⟩)))))))))))))
 have bC:(af S.O tk).kind=3:=hI.kind bW
 exact aq.region (jK 1 [] [] (NZ (jK 5 [10,11] [(3,v_ 3 (dw L dQ))] (mX 5 dQ eF (NN (aq.block (SR (jK 1 [13] [] (NF (SR (jK 3 [15] [] (NF (KX (SR (jK 3 [17,18,19] [] (gE [0,3,5,1] (uH S L f m t hI d hd name eT ⟨tk,3⟩ eF) (NS (av.gG [(5,.abs (aY (dS ((bp S d name ⟨tk,3⟩).O) L)))] (λw hS=>by rw [show dS ((bp S d name ⟨tk,3⟩).O) L=dS S.O L from uy];exact hS) (jK 1 [6] [] (eN ⟨L,by rw [show iA S d name=(0,bp S d name ⟨tk,3⟩) by grind [iA]]<;>exact⟨rfl,rfl⟩⟩ [0,3,4,1,5,2,6]))))))))))))))))))))
theorem Mi {β:Bs} (S:bB) (L:HL) (f m t:Nat) (hI:bR S) (d:Nat) (hd:aT S.ar ⟨d,2⟩) (name:ByteArray) (eT:name.size<=1048576) :
 aW Tryz.prog β 215 #[vP f,vP (L.b d),.string name] (pA f m t L S) (λv l=>∃L2,v=vI (iZ S d name).1/\l=(pA f m t L2 ((iZ S d name).2))):=by
 have hX:=hI.hX
 have hel:(af S.O d).ah.length<=8192:=hI.lF hd
 have dQ:(af S.O d).kind=2:=hI.kind hd
 refine SE Tryz.func215 Tryz.ntmps215 (λR=>aq.seq ?_)
 rcases hI.sJ hd name with eF|⟨tk,eF,bW⟩|⟨tk,eF,bW⟩|⟨tk,eF,bW⟩
 ·exact aq.region (jK 1 [] [] (NS (jK 5 [13,14] [(3,v_ 3 (dw L dQ))] (mX 5 dQ eF (jK 1 [7] [] (NZ (jK 2 [17] [] (NT (zR (v:=(vI 170)) ⟨L,by skip;rw [show iZ S d name=(170,S) by unfold iZ;rw [eF]]<;>exact⟨rfl,rfl⟩⟩)))))))))
 ·have bC:(af S.O tk).kind=1:=hI.kind bW
  exact aq.region (jK 1 [] [] (NS (jK 5 [13,14] [(3,v_ 3 (dw L dQ))] (mX 5 dQ eF (jK 1 [7] [] (NZ (jK 2 [17] [] (NF (KX (SR (jK 7 [8,9] [] (NZ (jK 2 [24] [] (NT (zR (v:=(vI 173)) ⟨L,by skip;rw [show iZ S d name=(173,S) by grind [iZ]]<;>exact⟨rfl,rfl⟩⟩)))))))))))))))
 ·have bC:(af S.O tk).kind=2:=hI.kind bW
  have agP:(af S.O tk).ah.length<=8192:=hI.lF bW
  refine aq.region (jK 1 [] [] (NS (jK 5 [13,14] [(3,v_ 3 (dw L dQ))] (mX 5 dQ eF (jK 1 [7] [] (NZ (jK 2 [17] [] (NF (KX (SR (jK 7 [8,9] [] (NZ (jK 2 [24] [] (NF (KX (SQ (jK 4 [28] [(3,v_ 3 (dw L bC))] (eNk 5 bC (jK 1 [30] [] (NN (cP (((((af S.O tk).ah.length:Nat):Int):Int)>(0:Int)) (λnM=>zR (v:=(vI 178)) ⟨L,by skip;rw [show iZ S d name=(178,S) by grind [iZ,af]]<;>exact⟨rfl,rfl⟩⟩) (λnM=>KX (SR (jK 3 [31,32,33] [] (gE [0,3,5,1] (uH S L f m t hI d hd name eT ⟨tk,2⟩ eF) (NS (av.gG [(5,.abs (aY (dS ((bp S d name ⟨tk,2⟩).O) L)))] (λw hS=>by rw [show dS ((bp S d name ⟨tk,2⟩).O) L=dS S.O L from uy];exact hS) ?_)))))))))))))))))))))))))))
  have E6:(af (bp S d name ⟨tk,2⟩).O d).kind=2:=(Ja).trans (dQ)
  have E7:(af (bp S d name ⟨tk,2⟩).O tk).kind=2:=(Ja).trans (bC)
  generalize fO:(bp S d name ⟨tk,2⟩).O=gS at E6 E7 ⊢
  refine jK 3 [37] [] (uSt 1 [(2,1),(5,2)] tk (none) E7 (λjJ gA=>?_))
  have ZQ:=ku gA E6
  have Ug:=ku gA E7
  exact NS (jK 1 [6] [] (eN (l:=[pF f m t ((bp S d name ⟨tk,2⟩).X),pI m L ((bp S d name ⟨tk,2⟩).ar),pT t S.X.cH S.aJ L S.us,pO jJ L,pD jJ L,pE jJ L]) (v:=(vI 0)) ⟨L,by subst gA;subst fO;rw [show iZ S d name=(0,{bp S d name ⟨tk,2⟩ with O:=jg (bp S d name ⟨tk,2⟩).O tk}) by unfold iZ;rw [eF];exact (agW rfl).trans (agW (ahC Pe))]<;>exact⟨rfl,rfl⟩⟩ [0,3,4,1,5,2,6]))
 have bC:(af S.O tk).kind=3:=hI.kind bW
 exact aq.region (jK 1 [] [] (NS (jK 5 [13,14] [(3,v_ 3 (dw L dQ))] (mX 5 dQ eF (jK 1 [7] [] (NZ (jK 2 [17] [] (NF (KX (SR (jK 7 [8,9] [] (NZ (jK 2 [24] [] (NT (zR (v:=(vI 173)) ⟨L,by skip;rw [show iZ S d name=(173,S) by grind [iZ]]<;>exact⟨rfl,rfl⟩⟩)))))))))))))))
theorem JX {β:Bs} (S:bB) (L:HL) (f m t:Nat) (hI:bR S) (d:Nat) (hd:aT S.ar ⟨d,2⟩) (name:ByteArray) (eT:name.size<=1048576) (to:Nat) (d6:aT S.ar ⟨to,2⟩) (ay:ByteArray) (vG:ay.size<=1048576) :
 aW Tryz.prog β 216 #[vP f,vP (L.b d),.string name,vP (L.b to),.string ay] (pA f m t L S) (λv l=>∃L2,v=vI (dm S d name to ay).1/\l=(pA f m t L2 ((dm S d name to ay).2))):=by
 have hX:=hI.hX
 have hel:(af S.O d).ah.length<=8192:=hI.lF hd
 have dQ:(af S.O d).kind=2:=hI.kind hd
 have jo:(af S.O to).kind=2:=hI.kind d6
 have agz:(af S.O to).ah.length<=8192:=hI.lF d6
 refine SE Tryz.func216 Tryz.ntmps216 (λR=>aq.seq ?_)
 rcases hI.sJ hd name with eF|⟨tk,eF,bW⟩|⟨tk,eF,bW⟩|⟨tk,eF,bW⟩
 ·exact aq.region (jK 1 [] [] (NS (jK 5 [19,20] [(3,v_ 3 (dw L dQ))] (mX 5 dQ eF (jK 1 [11] [] (NZ (jK 2 [23] [] (NT (zR ⟨L,by rw [show dm S d name to ay=(170,S) by unfold dm;rw [eF]]<;>exact⟨rfl,rfl⟩⟩)))))))))
 ·have bC:(af S.O tk).kind=1:=hI.kind bW
  refine aq.region (jK 1 [] [] (NS (jK 5 [19,20] [(3,v_ 3 (dw L dQ))] (mX 5 dQ eF (jK 1 [11] [] (NZ (jK 2 [23] [] (NF (KX (SR (jK 7 [12,13] [] (NZ (jK 2 [14] [] (NN (aq.block (lJ (λ(u:Unit)=>True) (λ(u:Unit)=>0) (λ(u:Unit)=>[(0,vP f),(1,vP (L.b d)),(2,.string name),(3,vP (L.b to)),(4,.string ay),(11,.iface 138 (vP (L.b tk))),(12,.pointer none),(13,.bool false),(14,vP (L.b to))]) (λ(u:Unit)=>((pA f m t L S)++[.abs R])) () [0,1,2,3,4,5,6] (trivial) ?_))))))))))))))))
  rintro u _
  refine SQ (jK 5 [34] [] (NF (XX (aq.seq ?_))))
  skip
  rcases hI.sJ d6 ay with eu|⟨ok,eu,jF⟩|⟨ok,eu,jF⟩|⟨ok,eu,jF⟩
  ·refine aq.region (jK 5 [45,46] [(3,v_ 3 (dw L jo))] (mX 5 jo eu (jK 1 [15] [] (NZ (jK 3 [50] [] (NF (KX (SQ (jK 2 [52] [] (NF (KX (SR ?_))))))))))))
   have di:bR S:=hI
   have jD:=hd
   have jW:=eF
   have wK:=eu
   have oP:=d6
   have pY:(af S.O d).kind=2:=di.kind jD
   have wL:(af S.O to).kind=2:=di.kind oP
   have q6:aT S.ar ⟨tk,1⟩:=(di.bS jD jW).2
   have q8:(af S.O tk).kind=1:=di.kind q6
   have KY:(af S.O d).ah.length<=8192:=di.lF jD
   have KZ:(af S.O to).ah.length<=8192:=di.lF oP
   have wM:=di.lb q6
   have rf:tk≠d:=di.ne jD jW
   exact jK 3 [61,62,63] [] (gE [0,3,5] (oV S.X f m t di.hX S.O L d pY name eT ⟨tk,1⟩ q8 agU jW (di.pP jD) zc (by simp only at wM ⊢;omega)) (NS (jK 4 [65,66,67,68] [] (gE [0,1,2] (ny {S.X with ah:=S.X.ah-1} f m t (di.Gn jD jW) (bq S.X S.O d name ⟨tk,1⟩) L to (fL.trans wL) ay vG (qp rf wK) (ag1 (sW rf) zc) ⟨tk,1⟩ (fL.trans q8) agU (qA di.toInv0 jD jW)) (NS (av.gG [(5,.abs (aY (dS (dg S.X (bq S.X S.O d name ⟨tk,1⟩) to ay ⟨tk,1⟩) L)))] (λw hS=>by rw [show dS (dg S.X (bq S.X S.O d name ⟨tk,1⟩) to ay ⟨tk,1⟩) L=dS S.O L from mG.trans qo];exact hS) (jK 1 [10] [] (eN ⟨L,by rw [show dm S d name to ay=(0,pK S d name to ay ⟨tk,1⟩) by grind [dm]]<;>exact⟨rfl,rfl⟩⟩ [0,3,4,1,5,2,6]))))))))
  ·have rz:(af S.O ok).kind=1:=hI.kind jF
   refine aq.region (jK 5 [45,46] [(3,v_ 3 (dw L jo))] (mX 5 jo eu (jK 1 [15] [] (NZ (jK 2 [48,49] [] (av.nP (d:=(some 50)) (op:=.binOp .eql 133 (.tmp 48) (.tmp 49) 133) (v:=.bool (decide (ok=tk))) (λ_=>KB) (λo ai w ho hS=>by obtain⟨F,hF⟩:=hS.get (i:=3) rfl;exact⟨w,Hr ada ho KB KB (by rw [rz];decide) (by rw [bC];decide) hF,hS⟩) (NN (cP (ok=tk) (λh50=>zR ⟨L,by rw [show dm S d name to ay=(0,S) by grind [dm]]<;>exact⟨rfl,rfl⟩⟩) (λh50=>KX (SQ (jK 2 [52] [] (NT (SQ (jK 1 [53] [] (gE [] (sZ (vP (L.b ok))) (jK 1 [55] [] (NF (KX (SQ (jK 1 [56] [] (NF (KX (aq.region (jK 3 [57,58,59] [] (gE [0,3,5,1] (uH S L f m t hI to d6 ay vG ⟨ok,1⟩ eu) (NS ?_))))))))))))))))))))))))))
   have di:bR (bp S to ay ⟨ok,1⟩):=hI.FL d6 eu agU
   have hot:(⟨ok,1⟩:Th)≠⟨tk,1⟩:=λe=>h50 (agX Th.k e)
   have jD:aT (bp S to ay ⟨ok,1⟩).ar ⟨d,2⟩:=oR hI.toInv0 d6 eu hd (λe=>by have:=jt hd jF e;cases this)
   have oP:aT (bp S to ay ⟨ok,1⟩).ar ⟨to,2⟩:=oR hI.toInv0 d6 eu d6 (λe=>by have:=jt d6 jF e;cases this)
   have jW:bL name (af (bp S to ay ⟨ok,1⟩).O d).ah=some ⟨tk,1⟩:=xS hI.toInv0 d6 eu eF hot
   have wK:bL ay (af (bp S to ay ⟨ok,1⟩).O to).ah=none:=xT hI.toInv0 d6 eu
   have pY:(af (bp S to ay ⟨ok,1⟩).O d).kind=2:=di.kind jD
   have wL:(af (bp S to ay ⟨ok,1⟩).O to).kind=2:=di.kind oP
   have q6:aT (bp S to ay ⟨ok,1⟩).ar ⟨tk,1⟩:=(di.bS jD jW).2
   have q8:(af (bp S to ay ⟨ok,1⟩).O tk).kind=1:=di.kind q6
   have KY:(af (bp S to ay ⟨ok,1⟩).O d).ah.length<=8192:=di.lF jD
   have KZ:(af (bp S to ay ⟨ok,1⟩).O to).ah.length<=8192:=di.lF oP
   have wM:=di.lb q6
   have rf:tk≠d:=di.ne jD jW
   exact jK 3 [61,62,63] [] (gE [0,1,2] (oV (bp S to ay ⟨ok,1⟩).X f m t di.hX (bp S to ay ⟨ok,1⟩).O L d pY name eT ⟨tk,1⟩ q8 agU jW (di.pP jD) zc (by simp only at wM ⊢;omega)) (NS (jK 4 [65,66,67,68] [] (gE [0,1,2] (ny { (bp S to ay ⟨ok,1⟩).X with ah:=(bp S to ay ⟨ok,1⟩).X.ah-1} f m t (di.Gn jD jW) (bq (bp S to ay ⟨ok,1⟩).X (bp S to ay ⟨ok,1⟩).O d name ⟨tk,1⟩) L to (fL.trans wL) ay vG (qp rf wK) (ag1 (sW rf) zc) ⟨tk,1⟩ (fL.trans q8) agU (qA di.toInv0 jD jW)) (NS (av.gG [(5,.abs (aY (dS (dg (bp S to ay ⟨ok,1⟩).X (bq (bp S to ay ⟨ok,1⟩).X (bp S to ay ⟨ok,1⟩).O d name ⟨tk,1⟩) to ay ⟨tk,1⟩) L)))] (λw hS=>by rw [show dS (dg (bp S to ay ⟨ok,1⟩).X (bq (bp S to ay ⟨ok,1⟩).X (bp S to ay ⟨ok,1⟩).O d name ⟨tk,1⟩) to ay ⟨tk,1⟩) L=dS S.O L from mG.trans (qo.trans uy)];exact hS) (jK 1 [10] [] (eN ⟨L,by rw [show dm S d name to ay=(0,pK (bp S to ay ⟨ok,1⟩) d name to ay ⟨tk,1⟩) by grind [dm]]<;>exact⟨rfl,rfl⟩⟩ [0,3,4,1,5,2,6]))))))))
  ·have rz:(af S.O ok).kind=2:=hI.kind jF
   exact aq.region (jK 5 [45,46] [(3,v_ 3 (dw L jo))] (mX 5 jo eu (jK 1 [15] [] (NZ (jK 3 [50] [] (NF (KX (SQ (jK 2 [52] [] (NT (SQ (jK 1 [53] [] (gE [] (s5 (vP (L.b ok))) (jK 1 [55] [] (NT (zR ⟨L,by rw [show dm S d name to ay=(172,S) by grind [dm]]<;>exact⟨rfl,rfl⟩⟩))))))))))))))))
  have rz:(af S.O ok).kind=3:=hI.kind jF
  refine aq.region (jK 5 [45,46] [(3,v_ 3 (dw L jo))] (mX 5 jo eu (jK 1 [15] [] (NZ (jK 3 [50] [] (NF (KX (SQ (jK 2 [52] [] (NT (SQ (jK 1 [53] [] (gE [] (uG (vP (L.b ok))) (jK 1 [55] [] (NF (KX (SQ (jK 1 [56] [] (NF (KX (aq.region (jK 3 [57,58,59] [] (gE [0,3,5,1] (uH S L f m t hI to d6 ay vG ⟨ok,3⟩ eu) (NS ?_))))))))))))))))))))))))
  have di:bR (bp S to ay ⟨ok,3⟩):=hI.FL d6 eu agU
  have hot:(⟨ok,3⟩:Th)≠⟨tk,1⟩:=λe=>by cases e
  have jD:aT (bp S to ay ⟨ok,3⟩).ar ⟨d,2⟩:=oR hI.toInv0 d6 eu hd (λe=>by have:=jt hd jF e;cases this)
  have oP:aT (bp S to ay ⟨ok,3⟩).ar ⟨to,2⟩:=oR hI.toInv0 d6 eu d6 (λe=>by have:=jt d6 jF e;cases this)
  have jW:bL name (af (bp S to ay ⟨ok,3⟩).O d).ah=some ⟨tk,1⟩:=xS hI.toInv0 d6 eu eF hot
  have wK:bL ay (af (bp S to ay ⟨ok,3⟩).O to).ah=none:=xT hI.toInv0 d6 eu
  have pY:(af (bp S to ay ⟨ok,3⟩).O d).kind=2:=di.kind jD
  have wL:(af (bp S to ay ⟨ok,3⟩).O to).kind=2:=di.kind oP
  have q6:aT (bp S to ay ⟨ok,3⟩).ar ⟨tk,1⟩:=(di.bS jD jW).2
  have q8:(af (bp S to ay ⟨ok,3⟩).O tk).kind=1:=di.kind q6
  have KY:(af (bp S to ay ⟨ok,3⟩).O d).ah.length<=8192:=di.lF jD
  have KZ:(af (bp S to ay ⟨ok,3⟩).O to).ah.length<=8192:=di.lF oP
  have wM:=di.lb q6
  have rf:tk≠d:=di.ne jD jW
  exact jK 3 [61,62,63] [] (gE [0,1,2] (oV (bp S to ay ⟨ok,3⟩).X f m t di.hX (bp S to ay ⟨ok,3⟩).O L d pY name eT ⟨tk,1⟩ q8 agU jW (di.pP jD) zc (by simp only at wM ⊢;omega)) (NS (jK 4 [65,66,67,68] [] (gE [0,1,2] (ny { (bp S to ay ⟨ok,3⟩).X with ah:=(bp S to ay ⟨ok,3⟩).X.ah-1} f m t (di.Gn jD jW) (bq (bp S to ay ⟨ok,3⟩).X (bp S to ay ⟨ok,3⟩).O d name ⟨tk,1⟩) L to (fL.trans wL) ay vG (qp rf wK) (ag1 (sW rf) zc) ⟨tk,1⟩ (fL.trans q8) agU (qA di.toInv0 jD jW)) (NS (av.gG [(5,.abs (aY (dS (dg (bp S to ay ⟨ok,3⟩).X (bq (bp S to ay ⟨ok,3⟩).X (bp S to ay ⟨ok,3⟩).O d name ⟨tk,1⟩) to ay ⟨tk,1⟩) L)))] (λw hS=>by rw [show dS (dg (bp S to ay ⟨ok,3⟩).X (bq (bp S to ay ⟨ok,3⟩).X (bp S to ay ⟨ok,3⟩).O d name ⟨tk,1⟩) to ay ⟨tk,1⟩) L=dS S.O L from mG.trans (qo.trans uy)];exact hS) (jK 1 [10] [] (eN ⟨L,by rw [show dm S d name to ay=(0,pK (bp S to ay ⟨ok,3⟩) d name to ay ⟨tk,1⟩) by grind [dm]]<;>exact⟨rfl,rfl⟩⟩ [0,3,4,1,5,2,6]))))))))
 ·have bC:(af S.O tk).kind=2:=hI.kind bW
  refine aq.region (jK 1 [] [] (NS (jK 5 [19,20] [(3,v_ 3 (dw L dQ))] (mX 5 dQ eF (jK 1 [11] [] (NZ (jK 2 [23] [] (NF (KX (SR (jK 7 [12,13] [] (NZ (jK 2 [14] [] (NN (aq.block ?_)))))))))))))))
  obtain⟨dp,hdp⟩:=hI.deep
  refine lJ (λ(x:Option Nat)=>(su S.O tk to↔∃z0,x=some z0/\su S.O tk z0)/\(∀z0,x=some z0->aT S.ar ⟨z0,2⟩)) (λ(x:Option Nat)=>ED dp x) (λ(x:Option Nat)=>[(0,vP f),(1,vP (L.b d)),(2,.string name),(3,vP (L.b to)),(4,.string ay),(11,.iface 144 (vP (L.b tk))),(12,vP (L.b tk)),(13,.bool true),(14,(IZ L x))]) (λ(x:Option Nat)=>((pA f m t L S)++[.abs R])) ((some to)) [0,1,2,3,4,5,6] (⟨⟨λh=>⟨to,rfl,h⟩,λ⟨y,e,h⟩=>by cases e;exact h⟩,λy e=>by cases e;exact d6⟩) ?_
  rintro x ⟨hbx,hlx⟩
  refine aq.seq (aq.seq ?_)
  rcases hx:x with _|y
  ·refine aq.region (jK 5 [34] [] (NF (XX (aq.seq ?_))))
   have hnb:¬su S.O tk to:=λh=>Pe
   rcases hI.sJ d6 ay with eu|⟨ok,eu,jF⟩|⟨ok,eu,jF⟩|⟨ok,eu,jF⟩
   ·refine aq.region (jK 5 [45,46] [(3,v_ 3 (dw L jo))] (mX 5 jo eu (jK 1 [15] [] (NZ (jK 3 [50] [] (NF (KX (SQ (jK 2 [52] [] (NF (KX (SR ?_))))))))))))
    have di:bR S:=hI
    have jD:=hd
    have jW:=eF
    have wK:=eu
    have oP:=d6
    have pY:(af S.O d).kind=2:=di.kind jD
    have wL:(af S.O to).kind=2:=di.kind oP
    have q6:aT S.ar ⟨tk,2⟩:=(di.bS jD jW).2
    have q8:(af S.O tk).kind=2:=di.kind q6
    have KY:(af S.O d).ah.length<=8192:=di.lF jD
    have KZ:(af S.O to).ah.length<=8192:=di.lF oP
    have wM:=di.lb q6
    have rf:tk≠d:=di.ne jD jW
    exact jK 3 [61,62,63] [] (gE [0,3,5] (oV S.X f m t di.hX S.O L d pY name eT ⟨tk,2⟩ q8 agU jW (di.pP jD) zc (by simp only at wM ⊢;omega)) (NS (jK 4 [65,66,67,68] [] (gE [0,1,2] (ny {S.X with ah:=S.X.ah-1} f m t (di.Gn jD jW) (bq S.X S.O d name ⟨tk,2⟩) L to (fL.trans wL) ay vG (qp rf wK) (ag1 (sW rf) zc) ⟨tk,2⟩ (fL.trans q8) agU (qA di.toInv0 jD jW)) (NS (av.gG [(5,.abs (aY (dS (dg S.X (bq S.X S.O d name ⟨tk,2⟩) to ay ⟨tk,2⟩) L)))] (λw hS=>by rw [show dS (dg S.X (bq S.X S.O d name ⟨tk,2⟩) to ay ⟨tk,2⟩) L=dS S.O L from mG.trans qo];exact hS) (jK 1 [10] [] (eN ⟨L,by rw [show dm S d name to ay=(0,pK S d name to ay ⟨tk,2⟩) by grind [dm]]<;>exact⟨rfl,rfl⟩⟩ [0,3,4,1,5,2,6]))))))))
   ·have rz:(af S.O ok).kind=1:=hI.kind jF
    exact aq.region (jK 5 [45,46] [(3,v_ 3 (dw L jo))] (mX 5 jo eu (jK 1 [15] [] (NZ (jK 3 [50] [] (NF (KX (SQ (jK 2 [52] [] (NT (SQ (jK 1 [53] [] (gE [] (sZ (vP (L.b ok))) (jK 1 [55] [] (NF (KX (SQ (jK 1 [56] [] (NT (zR ⟨L,by rw [show dm S d name to ay=(173,S) by grind [dm]]<;>exact⟨rfl,rfl⟩⟩))))))))))))))))))))
   ·have rz:(af S.O ok).kind=2:=hI.kind jF
    exact aq.region (jK 5 [45,46] [(3,v_ 3 (dw L jo))] (mX 5 jo eu (jK 1 [15] [] (NZ (jK 2 [48,49] [] (av.nP (d:=(some 50)) (op:=.binOp .eql 133 (.tmp 48) (.tmp 49) 133) (v:=.bool (decide (ok=tk))) (λ_=>KB) (λo ai w ho hS=>by obtain⟨F,hF⟩:=hS.get (i:=3) rfl;exact⟨w,Hr aeS ho KB KB (by rw [rz];decide) (by rw [bC];decide) hF,hS⟩) (NN (cP (ok=tk) (λh50=>zR ⟨L,by rw [show dm S d name to ay=(0,S) by grind [dm]]<;>exact⟨rfl,rfl⟩⟩) (λh50=>KX (SQ (jK 2 [52] [] (NT (SQ (jK 1 [53] [] (gE [] (s5 (vP (L.b ok))) (jK 1 [55] [] (NT (zR ⟨L,by rw [show dm S d name to ay=(172,S) by grind [dm]]<;>exact⟨rfl,rfl⟩⟩))))))))))))))))))
   have rz:(af S.O ok).kind=3:=hI.kind jF
   exact aq.region (jK 5 [45,46] [(3,v_ 3 (dw L jo))] (mX 5 jo eu (jK 1 [15] [] (NZ (jK 3 [50] [] (NF (KX (SQ (jK 2 [52] [] (NT (SQ (jK 1 [53] [] (gE [] (uG (vP (L.b ok))) (jK 1 [55] [] (NF (KX (SQ (jK 1 [56] [] (NT (zR ⟨L,by rw [show dm S d name to ay=(173,S) by grind [dm]]<;>exact⟨rfl,rfl⟩⟩))))))))))))))))))))
  have hky:(af S.O y).kind=2:=hI.kind (hlx y hx)
  exact aq.region (jK 5 [34] [] (NT (KX (aq.seq (aq.block (SR (jK 2 [39,40] [] (av.nP (d:=(some 41)) (op:=.binOp .eql 144 (.tmp 39) (.tmp 40) 144) (v:=.bool (decide (y=tk))) (λ_=>KB) (λo ai w ho hS=>by obtain⟨F,hF⟩:=hS.get (i:=3) rfl;exact⟨w,VA ho KB KB (by rw [hky];decide) (by rw [bC];decide) hF,hS⟩) (NN (cP (y=tk) (λAB=>zR ⟨L,by rw [show dm S d name to ay=(174,S) by unfold dm;rw [eF];exact agW ⟨rfl,hbx.2 ⟨y,hx,by rw [AB];exact .here⟩⟩]<;>exact⟨rfl,rfl⟩⟩) (λAB=>KX (aq.region (jK 5 [14] [(3,v_ 3 (afS L hky))] (NL (tJ (((af S.O y).up)) [0,1,2,3,4,5,6] (⟨hbx.trans ⟨λ⟨y2,e,h⟩=>by grind [Je],λh=>⟨y,hx,(Je AB).2 h⟩⟩,λz e=>((hI.up ⟨y,2⟩ (hlx y hx) z).1 e).2.1⟩) (hm:=by show ED dp (((af S.O y).up))<ED dp (some y);exact VD hdp))))))))))))))))
 have bC:(af S.O tk).kind=3:=hI.kind bW
 refine aq.region (jK 1 [] [] (NS (jK 5 [19,20] [(3,v_ 3 (dw L dQ))] (mX 5 dQ eF (jK 1 [11] [] (NZ (jK 2 [23] [] (NF (KX (SR (jK 7 [12,13] [] (NZ (jK 2 [14] [] (NN (aq.block (lJ (λ(u:Unit)=>True) (λ(u:Unit)=>0) (λ(u:Unit)=>[(0,vP f),(1,vP (L.b d)),(2,.string name),(3,vP (L.b to)),(4,.string ay),(11,.iface 141 (vP (L.b tk))),(12,.pointer none),(13,.bool false),(14,vP (L.b to))]) (λ(u:Unit)=>((pA f m t L S)++[.abs R])) () [0,1,2,3,4,5,6] (trivial) ?_))))))))))))))))
 rintro u _
 refine SQ (jK 5 [34] [] (NF (XX (aq.seq ?_))))
 skip
 rcases hI.sJ d6 ay with eu|⟨ok,eu,jF⟩|⟨ok,eu,jF⟩|⟨ok,eu,jF⟩
 ·refine aq.region (jK 5 [45,46] [(3,v_ 3 (dw L jo))] (mX 5 jo eu (jK 1 [15] [] (NZ (jK 3 [50] [] (NF (KX (SQ (jK 2 [52] [] (NF (KX (SR ?_))))))))))))
  have di:bR S:=hI
  have jD:=hd
  have jW:=eF
  have wK:=eu
  have oP:=d6
  have pY:(af S.O d).kind=2:=di.kind jD
  have wL:(af S.O to).kind=2:=di.kind oP
  have q6:aT S.ar ⟨tk,3⟩:=(di.bS jD jW).2
  have q8:(af S.O tk).kind=3:=di.kind q6
  have KY:(af S.O d).ah.length<=8192:=di.lF jD
  have KZ:(af S.O to).ah.length<=8192:=di.lF oP
  have wM:=di.lb q6
  have rf:tk≠d:=di.ne jD jW
  exact jK 3 [61,62,63] [] (gE [0,3,5] (oV S.X f m t di.hX S.O L d pY name eT ⟨tk,3⟩ q8 agU jW (di.pP jD) zc (by simp only at wM ⊢;omega)) (NS (jK 4 [65,66,67,68] [] (gE [0,1,2] (ny {S.X with ah:=S.X.ah-1} f m t (di.Gn jD jW) (bq S.X S.O d name ⟨tk,3⟩) L to (fL.trans wL) ay vG (qp rf wK) (ag1 (sW rf) zc) ⟨tk,3⟩ (fL.trans q8) agU (qA di.toInv0 jD jW)) (NS (av.gG [(5,.abs (aY (dS (dg S.X (bq S.X S.O d name ⟨tk,3⟩) to ay ⟨tk,3⟩) L)))] (λw hS=>by rw [show dS (dg S.X (bq S.X S.O d name ⟨tk,3⟩) to ay ⟨tk,3⟩) L=dS S.O L from mG.trans qo];exact hS) (jK 1 [10] [] (eN ⟨L,by rw [show dm S d name to ay=(0,pK S d name to ay ⟨tk,3⟩) by grind [dm]]<;>exact⟨rfl,rfl⟩⟩ [0,3,4,1,5,2,6]))))))))
 ·have rz:(af S.O ok).kind=1:=hI.kind jF
  refine aq.region (jK 5 [45,46] [(3,v_ 3 (dw L jo))] (mX 5 jo eu (jK 1 [15] [] (NZ (jK 3 [50] [] (NF (KX (SQ (jK 2 [52] [] (NT (SQ (jK 1 [53] [] (gE [] (sZ (vP (L.b ok))) (jK 1 [55] [] (NF (KX (SQ (jK 1 [56] [] (NF (KX (aq.region (jK 3 [57,58,59] [] (gE [0,3,5,1] (uH S L f m t hI to d6 ay vG ⟨ok,1⟩ eu) (NS ?_))))))))))))))))))))))))
  have di:bR (bp S to ay ⟨ok,1⟩):=hI.FL d6 eu agU
  have hot:(⟨ok,1⟩:Th)≠⟨tk,3⟩:=λe=>by cases e
  have jD:aT (bp S to ay ⟨ok,1⟩).ar ⟨d,2⟩:=oR hI.toInv0 d6 eu hd (λe=>by have:=jt hd jF e;cases this)
  have oP:aT (bp S to ay ⟨ok,1⟩).ar ⟨to,2⟩:=oR hI.toInv0 d6 eu d6 (λe=>by have:=jt d6 jF e;cases this)
  have jW:bL name (af (bp S to ay ⟨ok,1⟩).O d).ah=some ⟨tk,3⟩:=xS hI.toInv0 d6 eu eF hot
  have wK:bL ay (af (bp S to ay ⟨ok,1⟩).O to).ah=none:=xT hI.toInv0 d6 eu
  have pY:(af (bp S to ay ⟨ok,1⟩).O d).kind=2:=di.kind jD
  have wL:(af (bp S to ay ⟨ok,1⟩).O to).kind=2:=di.kind oP
  have q6:aT (bp S to ay ⟨ok,1⟩).ar ⟨tk,3⟩:=(di.bS jD jW).2
  have q8:(af (bp S to ay ⟨ok,1⟩).O tk).kind=3:=di.kind q6
  have KY:(af (bp S to ay ⟨ok,1⟩).O d).ah.length<=8192:=di.lF jD
  have KZ:(af (bp S to ay ⟨ok,1⟩).O to).ah.length<=8192:=di.lF oP
  have wM:=di.lb q6
  have rf:tk≠d:=di.ne jD jW
  exact jK 3 [61,62,63] [] (gE [0,1,2] (oV (bp S to ay ⟨ok,1⟩).X f m t di.hX (bp S to ay ⟨ok,1⟩).O L d pY name eT ⟨tk,3⟩ q8 agU jW (di.pP jD) zc (by simp only at wM ⊢;omega)) (NS (jK 4 [65,66,67,68] [] (gE [0,1,2] (ny { (bp S to ay ⟨ok,1⟩).X with ah:=(bp S to ay ⟨ok,1⟩).X.ah-1} f m t (di.Gn jD jW) (bq (bp S to ay ⟨ok,1⟩).X (bp S to ay ⟨ok,1⟩).O d name ⟨tk,3⟩) L to (fL.trans wL) ay vG (qp rf wK) (ag1 (sW rf) zc) ⟨tk,3⟩ (fL.trans q8) agU (qA di.toInv0 jD jW)) (NS (av.gG [(5,.abs (aY (dS (dg (bp S to ay ⟨ok,1⟩).X (bq (bp S to ay ⟨ok,1⟩).X (bp S to ay ⟨ok,1⟩).O d name ⟨tk,3⟩) to ay ⟨tk,3⟩) L)))] (λw hS=>by rw [show dS (dg (bp S to ay ⟨ok,1⟩).X (bq (bp S to ay ⟨ok,1⟩).X (bp S to ay ⟨ok,1⟩).O d name ⟨tk,3⟩) to ay ⟨tk,3⟩) L=dS S.O L from mG.trans (qo.trans uy)];exact hS) (jK 1 [10] [] (eN ⟨L,by rw [show dm S d name to ay=(0,pK (bp S to ay ⟨ok,1⟩) d name to ay ⟨tk,3⟩) by grind [dm]]<;>exact⟨rfl,rfl⟩⟩ [0,3,4,1,5,2,6]))))))))
 ·have rz:(af S.O ok).kind=2:=hI.kind jF
  exact aq.region (jK 5 [45,46] [(3,v_ 3 (dw L jo))] (mX 5 jo eu (jK 1 [15] [] (NZ (jK 3 [50] [] (NF (KX (SQ (jK 2 [52] [] (NT (SQ (jK 1 [53] [] (gE [] (s5 (vP (L.b ok))) (jK 1 [55] [] (NT (zR ⟨L,by rw [show dm S d name to ay=(172,S) by grind [dm]]<;>exact⟨rfl,rfl⟩⟩))))))))))))))))
 have rz:(af S.O ok).kind=3:=hI.kind jF
 refine aq.region (jK 5 [45,46] [(3,v_ 3 (dw L jo))] (mX 5 jo eu (jK 1 [15] [] (NZ (jK 2 [48,49] [] (av.nP (d:=(some 50)) (op:=.binOp .eql 133 (.tmp 48) (.tmp 49) 133) (v:=.bool (decide (ok=tk))) (λ_=>KB) (λo ai w ho hS=>by obtain⟨F,hF⟩:=hS.get (i:=3) rfl;exact⟨w,Hr adb ho KB KB (by rw [rz];decide) (by rw [bC];decide) hF,hS⟩) (NN (cP (ok=tk) (λh50=>zR ⟨L,by rw [show dm S d name to ay=(0,S) by grind [dm]]<;>exact⟨rfl,rfl⟩⟩) (λh50=>KX (SQ (jK 2 [52] [] (NT (SQ (jK 1 [53] [] (gE [] (uG (vP (L.b ok))) (jK 1 [55] [] (NF (KX (SQ (jK 1 [56] [] (NF (KX (aq.region (jK 3 [57,58,59] [] (gE [0,3,5,1] (uH S L f m t hI to d6 ay vG ⟨ok,3⟩ eu) (NS ?_))))))))))))))))))))))))))
 have di:bR (bp S to ay ⟨ok,3⟩):=hI.FL d6 eu agU
 have hot:(⟨ok,3⟩:Th)≠⟨tk,3⟩:=λe=>h50 (agX Th.k e)
 have jD:aT (bp S to ay ⟨ok,3⟩).ar ⟨d,2⟩:=oR hI.toInv0 d6 eu hd (λe=>by have:=jt hd jF e;cases this)
 have oP:aT (bp S to ay ⟨ok,3⟩).ar ⟨to,2⟩:=oR hI.toInv0 d6 eu d6 (λe=>by have:=jt d6 jF e;cases this)
 have jW:bL name (af (bp S to ay ⟨ok,3⟩).O d).ah=some ⟨tk,3⟩:=xS hI.toInv0 d6 eu eF hot
 have wK:bL ay (af (bp S to ay ⟨ok,3⟩).O to).ah=none:=xT hI.toInv0 d6 eu
 have pY:(af (bp S to ay ⟨ok,3⟩).O d).kind=2:=di.kind jD
 have wL:(af (bp S to ay ⟨ok,3⟩).O to).kind=2:=di.kind oP
 have q6:aT (bp S to ay ⟨ok,3⟩).ar ⟨tk,3⟩:=(di.bS jD jW).2
 have q8:(af (bp S to ay ⟨ok,3⟩).O tk).kind=3:=di.kind q6
 have KY:(af (bp S to ay ⟨ok,3⟩).O d).ah.length<=8192:=di.lF jD
 have KZ:(af (bp S to ay ⟨ok,3⟩).O to).ah.length<=8192:=di.lF oP
 have wM:=di.lb q6
 have rf:tk≠d:=di.ne jD jW
 exact jK 3 [61,62,63] [] (gE [0,1,2] (oV (bp S to ay ⟨ok,3⟩).X f m t di.hX (bp S to ay ⟨ok,3⟩).O L d pY name eT ⟨tk,3⟩ q8 agU jW (di.pP jD) zc (by simp only at wM ⊢;omega)) (NS (jK 4 [65,66,67,68] [] (gE [0,1,2] (ny { (bp S to ay ⟨ok,3⟩).X with ah:=(bp S to ay ⟨ok,3⟩).X.ah-1} f m t (di.Gn jD jW) (bq (bp S to ay ⟨ok,3⟩).X (bp S to ay ⟨ok,3⟩).O d name ⟨tk,3⟩) L to (fL.trans wL) ay vG (qp rf wK) (ag1 (sW rf) zc) ⟨tk,3⟩ (fL.trans q8) agU (qA di.toInv0 jD jW)) (NS (av.gG [(5,.abs (aY (dS (dg (bp S to ay ⟨ok,3⟩).X (bq (bp S to ay ⟨ok,3⟩).X (bp S to ay ⟨ok,3⟩).O d name ⟨tk,3⟩) to ay ⟨tk,3⟩) L)))] (λw hS=>by rw [show dS (dg (bp S to ay ⟨ok,3⟩).X (bq (bp S to ay ⟨ok,3⟩).X (bp S to ay ⟨ok,3⟩).O d name ⟨tk,3⟩) to ay ⟨tk,3⟩) L=dS S.O L from mG.trans (qo.trans uy)];exact hS) (jK 1 [10] [] (eN ⟨L,by rw [show dm S d name to ay=(0,pK (bp S to ay ⟨ok,3⟩) d name to ay ⟨tk,3⟩) by grind [dm]]<;>exact⟨rfl,rfl⟩⟩ [0,3,4,1,5,2,6]))))))))
end
section
open Go.RowKit Go.Maps bK aF
attribute [local irreducible] av bN aq aB ck
theorem Mj {β:Bs} (S:bB) (L:HL) (f m t:Nat) (hI:bR S) (k:Nat) (hk:aT S.ar ⟨k,1⟩) (A:Option Addr) (c:Nat) (bs:List UInt8) (hA:bF β A bs) (hbl:bs.length<=1099511627776) (hbc:bs.length<=c) :
 aW Tryz.prog β 211 #[vP f,vP (L.b k),.slice A (bs.length) (c)] (pA f m t L S) (λv l=>∃L2,v=.tuple #[vI (gD S k bs).1,vI (gD S k bs).2.1]/\l=(pA f m t L2 ((gD S k bs).2.2))):=by
 have hX:=hI.hX
 have hkk:(af S.O k).kind=1:=hI.kind hk
 have hdu:((af S.O k).data.length:Int)<=S.X.used:=hI.aeV hk
 have hcB:=hI.cB
 refine SE Tryz.func211 Tryz.ntmps211 (λR=>SR (jK 2 [] [] (NZ (jK 3 [12] [] (NN (cP ((((bs.length:Nat):Int):Int)=(0:Int)) (λh12=>?_) (λh12=>?_)))))))
 ·have he:bs=[]:=ahC zc
  exact zR ⟨L,by rw [show gD S k bs=(0,0,S) from agW he]<;>exact⟨rfl,rfl⟩⟩
 have jv:0<bs.length:=zc
 refine KX (aq.seq (rQ (jQ 11 [8] [(4,a_ 0 f),(8,a_ 0 f),(9,wJ (S.X.cB-S.X.used) (S.X.cB-S.X.used))] (NQ (NX (SQ (jK 2 [24] [] (NN (cP ((S.X.cB-S.X.used:Int)<=(0:Int)) (λrA=>zR ⟨L,by rw [show gD S k bs=(0,176,S) from (agV (λe=>Pe)).trans (agW rA)]<;>exact⟨rfl,rfl⟩⟩) (λrA=>KX (SR (jK 4 [28] [(3,w_ (.int .i64 (min ((bs.length:Nat):Int) (S.X.cB-S.X.used))) (agX (Value.int .i64) (aaN _ _)))] (sl 28 (vI (min ((bs.length:Nat):Int) (S.X.cB-S.X.used))) (.int .i64 ↑(dN S.X bs.length)) (agX (Value.int .i64) (VE zc)) (jK 1 [9] [] (NN (aq.seq ?_))))))))))))))))
 have hwl:=VF (X:=S.X) (n:=bs.length) zc
 refine aq.mem (λw hS=>hS.Vj (i:=4) (k:=k) rfl hkk) (rM (List.range 12) 8 [0,1,2,3,4,5,6] (jR 8 [0,1,9,29,33,36] [(4,v_ 3 (PA L hkk)),(7,xP (dN S.X bs.length) ((dN S.X bs.length)<=c))] (ck.cut (ι:=(Option Addr)×Nat) (bU:=λ((A1,c2):(Option Addr)×Nat)=>[(0,vP f),(1,vP (L.b k)),(9,vI ↑(dN S.X bs.length)),(29,vP (L.b k)),(37,.slice A1 (((af S.O k).data++bs.take (dN S.X bs.length)).length) (c2))]) (dI:=λ((A1,c2):(Option Addr)×Nat)=>[pF f m t S.X,pI m L S.ar,pT t S.X.cH S.aJ L S.us,pO S.O L,.abs (aY (nR (dS S.O L) k eH.none)),pE S.O L,.abs R,.abs (aH 5 1 A1 (((af S.O k).data++bs.take (dN S.X bs.length)).length) c2 (dR ((af S.O k).data++bs.take (dN S.X bs.length))))]) [0,1,2,3,4,5,6] rfl rfl ?_ rfl (λ_=>KB) ?_)))
 ·exact Ri 7 51 A (dN S.X bs.length) c (dR (bs.take (dN S.X bs.length))) rfl ((hA.take (dN S.X bs.length)).src) (λA1 c2=>av.cL 7 (p':=.abs (aH 5 1 A1 (((af S.O k).data++bs.take (dN S.X bs.length)).length) c2 (dR ((af S.O k).data++bs.take (dN S.X bs.length))))) rfl (by rw [Ts,ag4,ahi,ahS hwl.1]) (sl 37 (.slice A1 (((af S.O k).data.length)+(dN S.X bs.length)) (c2)) (.slice A1 (((af S.O k).data++bs.take (dN S.X bs.length)).length) (c2)) (by rw [ag4,ahi,ahS hwl.1]) (NL (MD (A1,c2) [0,1,9,29,37] [0,1,2,3,4,5,6,7])))) (hl:=by rw [tu,ahi,ahS hwl.1,Nat.mul_one]) (h1:=pZ (bs.take (dN S.X bs.length)))
 rintro⟨A1,c2⟩
 refine nC [0,1,2,3,4,5,6] [38] [] [] (nC [0,1,2,3,4,5,6] [39] [] [] (ck.last rfl rfl (av.mem (λw hS=>hS.Ev (i:=3) (k:=k) rfl (by rw [hkk];decide) (mE (hkk)) (agX sE (hkk))) (jC 1 [] [(0,a_ 8 (L.b k))] [(8,[(9,.slice A1 (((af S.O k).data++bs.take (dN S.X bs.length)).length) (c2))])] ?_))))
 obtain⟨L2,fS⟩:∃L2:HL,L2=L.data k A1 c2:=⟨_,rfl⟩
 refine av.mem (λw hS=>hS.adf fS (f:=(λo=>{o with data:=o.data++bs.take (dN S.X bs.length)})) (i:=3) (j:=8) (ix:=[0,1,2,4,5,6,7]) rfl rfl KB rfl (by show (af S.O k).kind≠0;rw [hkk];decide) ((mE (L:=L2) (k:=k) (o:=(λo=>{o with data:=o.data++bs.take (dN S.X bs.length)}) (af S.O k)) hkk).trans (by rw [RH fS,RI fS]<;>rfl)) (by show sE (af S.O k).kind=_;rw [hkk]<;>rfl)) (av.mem (λw hS=>hS.adg fS (f:=(λo=>{o with data:=o.data++bs.take (dN S.X bs.length)})) (i:=4) (j:=7) (ix:=[0,1,2,3,5,6]) rfl rfl KB rfl hkk rfl rfl) (av.gG [(3,.abs (bM Tryz.prog 3 m (cT (cV L2 S.ar)) S.ar.length)),(4,.abs (gj 182 t S.X.cH S.aJ (cV L2 S.us))),(5,.abs (aY (gq (aZ S.O k (λo=>{o with data:=o.data++bs.take (dN S.X bs.length)})) L2)))] (λw hS=>by rw [Ow fS,Ow fS,show gq (aZ S.O k (λo=>{o with data:=o.data++bs.take (dN S.X bs.length)})) L2=gq S.O L from (tE (O:=S.O) (k:=k) (f:=(λo=>{o with data:=o.data++bs.take (dN S.X bs.length)})) rfl rfl).trans (YG fS)];exact hS) ?_))
 have KW:(af (aZ S.O k (λo=>{o with data:=o.data++bs.take (dN S.X bs.length)})) k).kind=1:=(o8 (f:=(λo=>{o with data:=o.data++bs.take (dN S.X bs.length)})) (λ_=>rfl)).trans hkk
 have hbk:L2.b k=L.b k:=VG fS
 generalize fO:(aZ S.O k (λo=>{o with data:=o.data++bs.take (dN S.X bs.length)}))=gS at KW ⊢
 refine NL (aB.np (NX (SR (jK 1 [40] [] (sl 40 (vP (L.b k)) (vP (L2.b k)) (by rw [hbk]) (jK 8 [45,48] [(4,A_ 2 f 2)] (W7 1 [(5,1),(0,2)] k S.X.cS S.X.cZ KW (λjJ gA=>?_))))))))
 have E6:=ku gA KW
 exact NS (jC 9 [] [(3,a_ 2 f),(5,wJ (S.X.used+(((dN S.X bs.length):Nat):Int)) (S.X.used+(((dN S.X bs.length):Nat):Int))),(8,a_ 2 f)] [(2,[(9,vI (S.X.used+(((dN S.X bs.length):Nat):Int)))])] (NS (jK 3 [6,7] [] (eN (l:=[pF f m t {S.X with used:=S.X.used+(((dN S.X bs.length):Nat):Int)},pI m L2 S.ar,pT t S.X.cH S.aJ L2 S.us,pO jJ L2,pD jJ L2,pE jJ L2]) (v:=(.tuple #[vI ↑(dN S.X bs.length),vI 0])) ⟨L2,by grind [gD,Bk]⟩ [2,3,4,1,0,5,6]))))
end
end Go.Proofs.YtbnfiigafobejaaGreat
section
namespace Go.Proofs
open Go.Shelf
def Tryz.lays146_ren:Go.Shelf.Ren:=⟨fun|146=>229|221=>230|268=>231|138=>232|143=>233|195=>234|197=>235|218=>236|219=>237|260=>238|217=>154|225=>165|224=>164|267=>239|266=>158|314=>240|n=>n,fun|9=>9|31=>157|3=>3|4=>4|0=>0|105=>301|21=>21|5=>5|46=>199|119=>303|139=>306|138=>305|146=>307|51=>214|n=>n,fun|1=>0|3=>1|4=>2|n=>n⟩
theorem Tryz.lays146:Go.Proofs.Lays.n146 Tryz.prog Tryz.lays146_ren:={
 mixed:=by kernel_rfl
 f138:=Tryz.func232.trans (congrArg some (by kernel_rfl))
 f143:=Tryz.func233.trans (congrArg some (by kernel_rfl))
 f146:=Tryz.func229.trans (congrArg some (by kernel_rfl))
 f195:=Tryz.func234.trans (congrArg some (by kernel_rfl))
 f197:=Tryz.func235.trans (congrArg some (by kernel_rfl))
 f217:=Tryz.func154.trans (congrArg some (by kernel_rfl))
 f218:=Tryz.func236.trans (congrArg some (by kernel_rfl))
 f219:=Tryz.func237.trans (congrArg some (by kernel_rfl))
 f221:=Tryz.func230.trans (congrArg some (by kernel_rfl))
 f224:=Tryz.func164.trans (congrArg some (by kernel_rfl))
 f225:=Tryz.func165.trans (congrArg some (by kernel_rfl))
 f260:=Tryz.func238.trans (congrArg some (by kernel_rfl))
 f266:=Tryz.func158.trans (congrArg some (by kernel_rfl))
 f267:=Tryz.func239.trans (congrArg some (by kernel_rfl))
 f268:=Tryz.func231.trans (congrArg some (by kernel_rfl))
 f314:=Tryz.func240.trans (congrArg some (by kernel_rfl))
 t0:=Tryz.underlying0
 a0:=Tryz.isAgg0
 z0:=Tryz.sizeOf0
 v0:=Tryz.zeroValue0
 t3:=Tryz.underlying3
 a3:=Tryz.isAgg3
 z3:=Tryz.sizeOf3
 v3:=Tryz.zeroValue3
 t4:=Tryz.underlying4
 a4:=Tryz.isAgg4
 z4:=Tryz.sizeOf4
 v4:=Tryz.zeroValue4
 t5:=Tryz.underlying5
 a5:=Tryz.isAgg5
 z5:=Tryz.sizeOf5
 v5:=Tryz.zeroValue5
 t9:=Tryz.underlying9
 a9:=Tryz.isAgg9
 z9:=Tryz.sizeOf9
 v9:=Tryz.zeroValue9
 t21:=Tryz.underlying21
 a21:=Tryz.isAgg21
 z21:=Tryz.sizeOf21
 v21:=Tryz.zeroValue21
 t31:=Tryz.underlying157
 a31:=Tryz.isAgg157
 z31:=Tryz.sizeOf157
 v31:=Tryz.zeroValue157
 t46:=Tryz.underlying199
 a46:=Tryz.isAgg199
 z46:=Tryz.sizeOf199
 v46:=Tryz.zeroValue199
 t51:=Tryz.underlying214
 a51:=Tryz.isAgg214
 z51:=Tryz.sizeOf214
 v51:=Tryz.zeroValue214
 t105:=Tryz.underlying301
 a105:=Tryz.isAgg301
 z105:=Tryz.sizeOf301
 v105:=Tryz.zeroValue301
 t119:=Tryz.underlying303
 a119:=Tryz.isAgg303
 z119:=Tryz.sizeOf303
 t138:=Tryz.underlying305
 a138:=Tryz.isAgg305
 z138:=Tryz.sizeOf305
 v138:=Tryz.zeroValue305
 t139:=Tryz.underlying306
 a139:=Tryz.isAgg306
 z139:=Tryz.sizeOf306
 v139:=Tryz.zeroValue306
 t146:=Tryz.underlying307
 a146:=Tryz.isAgg307
 z146:=Tryz.sizeOf307
 v146:=Tryz.zeroValue307
 g1:=by kernel_rfl
 g3:=by kernel_rfl
 g4:=by kernel_rfl}
open Go.RowKit Go.Lib in
theorem Tryz.strings_Split (s sep:ByteArray) (m:Int) (w:World) (hs:s.size<4294967281) (hm:w.cell? ⟨0,0,none⟩=some (.int .i64 m)) (h1:1<=sep.size) :
 Calls Tryz.prog 229 #[.string s,.string sep] w λe w'=>
  e=.returned (.slice (some ⟨w.heap.size,0,none⟩) (Lib.countB s sep+1) (Lib.countB s sep+1))/\w'=w.alloc (.cells ((Lib.splitB sep 0 (Lib.countB s sep) s).map Value.string).toArray 9):=Any.strings_Split Tryz.lays146 (by kernel_rfl) s sep m w hs hm h1
end Go.Proofs
end
namespace Go.Proofs.YtbnfiigafobejaaGreat
section
open Go.RowKit Go.Maps bK aF
def pG (β:Bs):Prop:=∃m,Rd β ⟨0,0,none⟩ (.int .i64 m)
theorem pG.le {β β':Bs} (h:pG β) (dU:β.le β'):pG β':=h.imp λ_ h=>h.le dU
theorem DG (s:ByteArray):(bQ s).length=Lib.countB s slash+1:=Lib.splitB_all slash Pd 0 _ s rfl
theorem AP (s:ByteArray):Lib.countB s slash<=s.size:=Lib.countB_le slash Pd _ s (ag5 _)
theorem GK (sep:ByteArray):∀(k:Nat) (s:ByteArray),∀p∈Lib.splitB sep 0 k s,p.size<=s.size
 |0,s,p,hp=>by
   rw [Lib.splitB_zero] at hp
   rw [ahu.1 hp];exact ag5 _
 |k+1,s,p,hp=>by
   rcases Lib.indexB_cases s sep with fH|⟨i,fH,_⟩
   ·rw [Lib.splitB_miss sep 0 (k+1) s fH] at hp
    rw [ahu.1 hp];exact ag5 _
   rw [Lib.splitB_hit sep 0 k s i fH] at hp
   rcases aha.1 hp with rfl|hp
   ·rw [ahH];omega
   have:=GK sep k _ p hp
   rw [ahH] at this
   omega
theorem GN {s p:ByteArray} (hp:p∈bQ s):p.size<=s.size:=GK slash _ s p hp
def mY (ps:List ByteArray):List Value:=ps.map Value.string
theorem ZS {β:Bs} (hg:pG β) (s:ByteArray) (hs:s.size<=1048576):aW Tryz.prog β 229 #[.string s,.string ⟨#[47]⟩] [] (λv l=>∃b,v=.slice (some ⟨b,0,none⟩) (bQ s).length (bQ s).length/\l=[.abs (aH 9 1 (some ⟨b,0,none⟩) (bQ s).length (bQ s).length (mY (bQ s)))]):=
 aW.Ng λW hW=>by
  obtain⟨m,hg⟩:=hg
  have hm:W.cell? ⟨0,0,none⟩=some (.int .i64 m):=(World.cell?_of_block (w:=β.w0) (hW.old _ hg.1).2).trans hg.2
  have hl:=DG s
  have hc:=AP s
  refine (Tryz.strings_Split s slash m W zc hm Pd).mono ?_
  rintro e w' ⟨rfl,rfl⟩
  refine⟨_,_,rfl,⟨W.heap.size,by rw [hl],rfl⟩,(cJ.refl _ _).alloc _,λk=>k=W.heap.size,⟨⟨?_,.inr ⟨W.heap.size,(bQ s).length,(mY (bQ s)).toArray,rfl,ag0 _,?_,ag5 _,?_,?_,?_⟩⟩,λk=>?_⟩,λk hk=>Nat.le_of_eq hk.symm⟩
  ·simp [mY]
  ·show (W.heap.push _)[W.heap.size]?=_
   simp [mY,bQ]
  ·unfold maxLen;omega
  ·first|(simp [mY];done)|(simp [mY];exact ahF agU)
  ·first|(simp [mY];done)|(simp [mY];exact ahF agU)
  simp [Value.ownBlock,eq_comm]
theorem Xb {β:Bs} {ps:List ByteArray} (hg:pG β) (s:ByteArray) (hs:s.size<=1048576) (hp:ps=bQ s):aW Tryz.prog β 229 #[.string s,.string ⟨#[47]⟩] [] (λv l=>∃b,v=.slice (some ⟨b,0,none⟩) ps.length ps.length/\l=[.abs (aH 9 1 (some ⟨b,0,none⟩) ps.length ps.length (mY ps))]):=by
 subst hp;exact ZS hg s hs
def pc (ps:List ByteArray) (j:Nat):ByteArray:=ps.getD j ⟨#[]⟩
theorem PI {ps:List ByteArray} {j:Nat} (hj:j<ps.length):pc ps j∈ps:=by
 grind [pc]
theorem DH {ps:List ByteArray} {j:Nat} (hj:j<ps.length):(mY ps)[j]?=some (.string (pc ps j)):=by
 grind [mY,pc]
theorem zD {ps:List ByteArray} {j:Nat} (hj:j<ps.length):ps.drop j=pc ps j::ps.drop (j+1):=by
 unfold pc
 rw [ahy,ag9 hj]
 exact ahJ hj
theorem DI {ps:List ByteArray}:(∀p∈ps,cq p)↔∀j,j<ps.length->cq (pc ps j):=by
 refine⟨λh j hj=>h _ (PI hj),λh p hp=>?_⟩
 obtain⟨j,hj,rfl⟩:=ahG hp
 grind [pc]
theorem Mk {n:ByteArray} (h:cq n):n.size<=1048576:=ag1 h.2.1 Pd
theorem PJ {O:d9}:∀{ps:List ByteArray} {d:Nat} {e:Int},pX O d ps=.error e->e≠0
 |[],d,e,h=>by cases h;decide
 |[p],d,e,h=>by
   unfold pX at h
   split at h
   ·cases h;decide
   cases h
 |p::q::r,d,e,h=>by
   unfold pX at h
   split at h
   ·cases h;decide
   split at h
   ·cases h;decide
   split at h
   ·cases h;decide
   exact PJ h
theorem yx {S:bB} {d:Nat} (hI:bR S) (hd:aT S.ar ⟨d,2⟩) (path:ByteArray):(∃e,mV S.O d path=.error e/\e≠0)\/∃d' name,mV S.O d path=.ok (d',name)/\aT S.ar ⟨d',2⟩/\(af S.O d').aG=false/\cq name:=by
 cases h:mV S.O d path with
 |error e=>
   grind [mV,PJ]
 |ok x=>
   obtain⟨d',name⟩:=x
   exact .inr ⟨d',name,rfl,KC hI.toInv0 hd h⟩
section way
variable {O:d9} {d:Nat} {ps:List ByteArray} {j:Nat}
theorem Ml (hj:j+1=ps.length):pX O d (ps.drop j)=if (af O d).aG=true then .error 170 else .ok (d,pc ps j):=by
 grind [zD,pX,af,pc]
theorem BZ (hj:j+1<ps.length):pX O d (ps.drop j)=match bL (pc ps j) (af O d).ah with
 |none=>.error 170
 |some t=>if t.kind=3 then .error 174 else if t.kind=1 then .error 173 else pX O t.k (ps.drop (j+1)):=by
 rw [zD (j:=j) zc,zD (j:=j+1) hj]
 rfl
end way
section bytes
variable {P:Program} {β:Bs} {N:fY} {ops:Array Oper} {k:Nat} {fr:Fr} {ax:List HP} {Q:Post} {d:Option Tmp} {s:ByteArray}
theorem Bs.ok.acn {β:Bs} {w:World} (h:β.ok w) (F:Nat->Prop):β.le ⟨λk=>β.O k\/F k,w⟩:=⟨λ_ h=>.inl h,h.os,h.tape,h.output,h.size,λk hk=>h.old k hk⟩
theorem av.DJ {t1 t2 e:TypeId} {x:Operand} (bZ:∀ai,iT N ai ops fr k=some (.convert t1 t2 x,d)) (hx:∀ai,eY N fr ai x=.string s) (h1:P.underlying t1=some .string) (h2:P.underlying t2=some (.slice e)) (h3:P.underlying e=some (.int .u8))
 (K:∀b cap,s.data.toList.length<=cap->av P β N ops (k+1) (eW fr d (.slice (some ⟨b,0,none⟩) s.data.toList.length cap)) (ax++[.abs (ko β (λβ'=>bF β' (some ⟨b,0,none⟩) s.data.toList))]) Q):av P β N ops k fr ax Q:=by
 refine av.J9 (ι:={p:Nat×Nat // s.data.toList.length<=p.2}) (v:=λp=>.slice (some ⟨p.1.1,0,none⟩) s.data.toList.length p.1.2) (dI:=λp=>ax++[.abs (ko β (λβ'=>bF β' (some ⟨p.1.1,0,none⟩) s.data.toList))]) bZ (λo ai w ho hS=>?_) (λp=>K p.1.1 p.1.2 p.2)
 have hr:=run_bytes_of_string (P:=P) w t1 t2 e s h1 h2 h3
 have eT:s.data.toList.length=s.size:=Array.length_toList ..
 generalize hw:(w.drew.alloc (.cells (bytesRow s (grownCap w s.size 0 e)) e ((bytesRow s (grownCap w s.size 0 e)).size,(bytesRow s (grownCap w s.size 0 e)).size+1)))=w' at hr
 have hk:cJ (λ_=>False) w w':=by rw [←hw];exact (cJ.refl _ _).drew.alloc _
 have hok:=hS.1.keeps hk (λ_ _ h=>h)
 have hheap:w'.heap[w.heap.size]?=some (.cells (bytesRow s (grownCap w s.size 0 e)) e ((bytesRow s (grownCap w s.size 0 e)).size,(bytesRow s (grownCap w s.size 0 e)).size+1)):=by
  rw [←hw]
  show (w.heap.push _)[w.heap.size]?=_
  simp
 have hsize:w.heap.size<w'.heap.size:=by
  grind
 refine⟨⟨(w.heap.size,grownCap w s.size 0 e),by rw [eT];exact grownCap_ge w s.size 0 e⟩,w',.inl ?_,hS.new (F:=λk=>k=w.heap.size) ?_ hk (λk e=>Nat.le_of_eq e.symm)⟩
 ·obtain⟨dst,op,type,pos,after,guard⟩:=o
  cases ho
  have hr2:(convert t1 t2 (.string s)).run P w=.ok (.slice (some ⟨w.heap.size,0,none⟩) s.data.toList.length (grownCap w s.size 0 e)) w':=by rw [hr,eT]
  simp only [execOp,hx]
  simp [hr2,Result.andThen]
 refine⟨⟨λk=>β.O k\/k=w.heap.size,w'⟩,hok.acn _,λ_ h=>h,λ_ h=>.inr h,ag5 _,λk hk=>⟨by rw [hk];exact hsize,rfl⟩,λj v hj=>⟨rfl,.inr rfl,?_⟩⟩
 show World.cell? w' ⟨w.heap.size,0+j,none⟩=some v
 have hj2:=dP hj
 unfold World.cell?
 rw [hheap]
 unfold dR at hj hj2
 rw [ahf] at hj2
 rw [List.getElem?_map,ag9 hj2] at hj
 simp only [Option.map_some,Option.some.injEq] at hj
 subst hj
 unfold bytesRow
 grind [Bb]
end bytes
theorem JY {β:Bs} (S:bB) (L:HL) (f m t:Nat) (hI:bR S) (k:Nat) (hk:aT S.ar ⟨k,1⟩) (A:Option Addr) (c:Nat) (bs:List UInt8) (hbl:bs.length<=1099511627776) (hbc:bs.length<=c) :
 aW Tryz.prog β 211 #[vP f,vP (L.b k),.slice A bs.length c] (.abs (ko β (λβ'=>bF β' A bs))::pA f m t L S) (λv l=>∃L2,v=.tuple #[vI (gD S k bs).1,vI (gD S k bs).2.1]/\l=pA f m t L2 (gD S k bs).2.2):=
 aW.TK λ_ _ hA=>Mj S L f m t hI k hk A c bs hA hbl hbc
def Ih (L:HL):Except Int (Nat×ByteArray)->Value
 |.error e=>.tuple #[.pointer none,.string ⟨#[]⟩,.int .i64 e]
 |.ok (d,p)=>.tuple #[.pointer (some ⟨L.b d,0,none⟩),.string p,.int .i64 0]
noncomputable section
def oH (R:RS):Nat->List ByteArray->Except Int (Nat×ByteArray)
 |_,[]=>.error 170
 |d,[p]=>if (nd R.ns d).id∈R.aG then .error 170 else .ok (d,p)
 |d,p::q::r=>
   if 0<=bV R.ns d p then
    if (nd R.ns (bV R.ns d p).toNat).kind=3 then .error 174
    else if (nd R.ns (bV R.ns d p).toNat).kind=1 then .error 173
    else oH R (bV R.ns d p).toNat (q::r)
   else .error 170
def mO (R:RS) (d:Nat) (path:ByteArray):Except Int (Nat×ByteArray):=if ∀p∈bQ path,cq p then oH R d (bQ path) else .error 95
def fk (R:RS) (top d:Nat) (name:ByteArray) (a:dK):RS×Int:=
 if a.op=1 then
  let m:=bP R d name ⟨0,1,420,0,0,0,0,[],⟨#[]⟩,[]⟩
  if m.2=0 then ((jO m.1 (m.1.ns.length-1) a.text.data.toList).1,0) else (R,m.2)
 else if a.op=2 then bP R d name ⟨0,2,493,0,0,0,0,[],⟨#[]⟩,[]⟩
 else if a.op=3 then bP R d name ⟨0,3,511,0,0,0,0,[],a.text,[]⟩
 else if a.op=4 then iE R d name false
 else if a.op=5 then iE R d name true
 else if a.op=6 then match mO R top a.to with
  |.error e=>(R,e)
  |.ok (to,ay)=>gY R d name to ay
 else if 0<=bV R.ns d name then
  if (nd R.ns (bV R.ns d name).toNat).kind=3 then (R,174)
  else if (nd R.ns (bV R.ns d name).toNat).kind=2 then (R,172)
  else ((jO R (bV R.ns d name).toNat a.text.data.toList).1,(jO R (bV R.ns d name).toNat a.text.data.toList).2.2)
 else (R,170)
def mr (R:RS) (au:Int) (a:dK):RS×Int:=
 if a.op<1\/a.op>7 then (R,230)
 else if 0<=gI R.ns au then
  if (nd R.ns (bY R.ns au)).kind=2 then
   match mO R (bY R.ns au) a.path with
   |.error e=>(R,e)
   |.ok (d,name)=>if (fk R (bY R.ns au) d name a).2=0 then ((fk R (bY R.ns au) d name a).1,0) else (R,(fk R (bY R.ns au) d name a).2)
  else (R,173)
 else (R,141)
end
section i
variable {S S' S2:bB} {g:List Int} {t u:Th} {d top k i j:Nat} {name:ByteArray} {a:dK}
theorem PK (hr:RelR S g):∀(ps:List ByteArray) (d:Nat),aT S.ar ⟨d,2⟩->oH (toR S g) (bT S ⟨d,2⟩) ps=match pX S.O d ps with|.error e=>.error e|.ok (d',n)=>.ok (bT S ⟨d',2⟩,n)
 |[],d,hd=>rfl
 |[p],d,hd=>by
   have hI:=hr.inv.toInv0
   unfold oH pX
   rw [mW hI hd]
   show (if (d:Int)∈g then _ else _)=_
   have hiff:=hr.aG.Co ⟨d,2⟩ hd
   by_cases h:(af S.O d).aG=true
   ·rw [agW (hiff.2 h),agW h]
   rw [agV (λq=>h (hiff.1 q)),agV h]
 |p::q::r,d,hd=>by
   have hI:=hr.inv.toInv0
   unfold oH pX
   rcases mq hr hd p with ⟨h1,h2⟩|⟨t,h1,h2,hl,hk,-⟩
   ·rw [h1,agV (by rw [h2];decide)]
   rw [h1,agW (by rw [h2];omega),h2,aho,mW hI hl]
   show (if t.kind=3 then _ else if t.kind=1 then _ else _)=_
   simp only
   by_cases h3:t.kind=3
   ·rw [agW h3,agW h3]
   rw [agV h3,agV h3]
   by_cases h4:t.kind=1
   ·rw [agW h4,agW h4]
   rw [agV h4,agV h4]
   have ht:t=⟨t.k,2⟩:=by
    have:t.kind=2:=zc
    rw [←this]
   rw [ht] at hl
   rw [show bT S t=bT S ⟨t.k,2⟩ by rw [←ht]]
   exact PK hr (q::r) t.k hl
theorem Ii (hr:RelR S g) (hd:aT S.ar ⟨d,2⟩) (path:ByteArray):mO (toR S g) (bT S ⟨d,2⟩) path=match mV S.O d path with|.error e=>.error e|.ok (d',n)=>.ok (bT S ⟨d',2⟩,n):=by
 grind [mO,mV,bQ,cq,PK]
theorem Um (hr:RelR S g) (hd:aT S.ar ⟨d,2⟩) (lQ:(af S.O d).aG=false) (j3:cq name) (text:ByteArray):∃m,m=bP (toR S g) (bT S ⟨d,2⟩) name ⟨0,1,420,0,0,0,0,[],⟨#[]⟩,[]⟩ ∧
 ef ((if m.2=0 then ((jO m.1 (m.1.ns.length-1) text.data.toList).1,0) else (toR S g,m.2)).1,0,(if m.2=0 then ((jO m.1 (m.1.ns.length-1) text.data.toList).1,0) else (toR S g,m.2)).2) (sx S d name text).1 (sx S d name text).2 0:=by
 refine⟨_,rfl,?_⟩
 have hI:=hr.inv.toInv0
 unfold sx
 rcases xj (n:=⟨0,1,420,0,0,0,0,[],⟨#[]⟩,[]⟩) hr hd name (λq=>agY (show (1:Int)=3 from q.1) Pd) with ⟨h1,h2⟩|⟨h1,h2⟩
 rotate_left
 ·rw [h2,agV h1,agV h1];exact .bad rfl h1
 rw [h2,agW h1]
 obtain⟨hA,hG⟩:=FZ (name:=name) (o:=cR S.X 1 420) (n:=⟨0,1,420,0,0,0,0,[],⟨#[]⟩,[]⟩) hr hd ⟨rfl,rfl,rfl,rfl,rfl⟩ ⟨rfl,rfl,rfl,rfl,rfl,rfl,rfl⟩
 have di:bR (gn S d name (cR S.X 1 420)):=hr.inv.FN hd lQ j3 h1 (.inl rfl) ⟨Pd,Pd⟩ (.inl ⟨Pd,rfl⟩)
 have hl1:aT (gn S d name (cR S.X 1 420)).ar ⟨bA S.X,1⟩:=(Pv hI).2.1
 rw [agW rfl,hA]
 have hidx:(gn S d name (cR S.X 1 420)).ar=_:=FY hI
 have hp:=nN di.ix hl1
 have jv:(toR (gn S d name (cR S.X 1 420)) g).ns.length-1=bT (gn S d name (cR S.X 1 420)) ⟨bA S.X,1⟩:=by
  show (aX _).length-1=_
  rw [ia,hidx,ag4]
  refine JQ di.ix (by rw [hidx,ag4];exact ahn _) hp.2.1 ?_
  grind [gH,qX]
 rw [jv]
 have hg:=EZ (t:=⟨bA S.X,1⟩) ⟨di,hG⟩ hl1 text.data.toList
 grind [gD,gn,cR,bA,jO,toR,bT,aT,af,cq,bP,ef,sx]
theorem ZT (hr:RelR S g) (ht:aT S.ar ⟨top,2⟩) (hd:aT S.ar ⟨d,2⟩) (lQ:(af S.O d).aG=false) (j3:cq name) (a:dK):ef ((fk (toR S g) (bT S ⟨top,2⟩) (bT S ⟨d,2⟩) name a).1,0,(fk (toR S g) (bT S ⟨top,2⟩) (bT S ⟨d,2⟩) name a).2) (nS S top a d name).1 (nS S top a d name).2 0:=by
 have hI:=hr.inv.toInv0
 unfold fk nS
 by_cases h1:a.op=1
 ·rw [agW h1,agW h1]
  obtain⟨m,hm,h⟩:=Um hr hd lQ j3 a.text
  rw [hm] at h;exact h
 rw [agV h1,agV h1]
 by_cases h2:a.op=2
 ·rw [agW h2,agW h2]
  exact DE (o:=cR S.X 2 493) hr hd name (λq=>agY (show (2:Int)=3 from q.1) Pd) ⟨rfl,rfl,rfl,rfl,rfl⟩ ⟨rfl,rfl,rfl,rfl,rfl,rfl,rfl⟩
 rw [agV h2,agV h2]
 by_cases h3:a.op=3
 ·grind [jk,kW,DE,cR,bP,aT,af,cq,ef,fk,toR,bT,nS]
 rw [agV h3,agV h3]
 by_cases h4:a.op=4
 ·grind [Md]
 rw [agV h4,agV h4]
 by_cases h5:a.op=5
 ·grind [Me]
 rw [agV h5,agV h5]
 by_cases h6:a.op=6
 ·rw [agW h6,agW h6,Ii hr ht]
  rcases yx hr.inv ht a.to with ⟨e,h,he⟩|⟨to,ay,h,d6,-⟩
  ·rw [h];exact .bad rfl he
  rw [h];exact Mg hr hd d6 name ay
 rw [agV h6,agV h6]
 unfold o9
 rcases mq hr hd name with ⟨h7,h8⟩|⟨t,h7,h8,hl,hk,-⟩
 ·grind [aT,af,cq,ef,fk,toR,bT,nS]
 rw [h7,agW (by rw [h8];omega),h8,aho,mW hI hl]
 grind [jL,EZ,aT,af,cq,ef,fk,toR,bT,nS]
theorem aco (hr:RelR S g) (au:Int) (a:dK):∃g',mr (toR S g) au a=(toR (cO S au a).2 g',(cO S au a).1)/\RelR (cO S au a).2 g':=by
 have hI:=hr.inv.toInv0
 have hIa:bR (cO S au a).2:=hr.inv.cO
 have Fc:∀{e:Int},(cO S au a).1=e->e≠0->mr (toR S g) au a=(toR S g,e)->∃g',mr (toR S g) au a=(toR (cO S au a).2 g',(cO S au a).1)/\RelR (cO S au a).2 g':=λ{e} h1 h2 h3=>by
  grind [YK]
 by_cases h0:a.op<1\/a.op>7
 ·grind [cO,mr]
 have ha:gI (toR S g).ns au=_:=Pq hI au
 cases e:aF.get S.ar au with
 |none=>
   grind [gI,toR,cO,mr]
 |some t=>
   rw [e] at ha
   replace ha:gI (toR S g).ns au=(bT S t:Int):=ha
   obtain⟨hl,_⟩:=Ib hI e
   have BP:bY (toR S g).ns au=bT S t:=by unfold bY;rw [ha];exact aho _
   by_cases h2:t.kind=2
   rotate_left
   ·exact Fc (by unfold cO;rw [agV h0,e];exact agX Prod.fst (agV h2)) (show (173:Int)≠0 by decide) (by unfold mr;rw [agV h0,agW (by rw [ha];omega),BP,mW hI hl];exact agV h2)
   have ht:t=⟨t.k,2⟩:=by rw [←h2]
   have hl2:aT S.ar ⟨t.k,2⟩:=by rw [←ht];exact hl
   have hA:cO S au a=match mV S.O t.k a.path with|.error e=>(e,S)|.ok (d,name)=>nS S t.k a d name:=by
    unfold cO;rw [agV h0,e];exact agW h2
   have hB:mr (toR S g) au a=match mO (toR S g) (bT S ⟨t.k,2⟩) a.path with|.error e=>(toR S g,e)|.ok (d,name)=>if (fk (toR S g) (bT S ⟨t.k,2⟩) d name a).2=0 then ((fk (toR S g) (bT S ⟨t.k,2⟩) d name a).1,0) else (toR S g,(fk (toR S g) (bT S ⟨t.k,2⟩) d name a).2):=by
    unfold mr;rw [agV h0,agW (by rw [ha];omega),BP,mW hI hl,←ht];exact agW h2
   rw [Ii hr hl2] at hB
   rcases yx hr.inv hl2 a.path with ⟨e,h,he⟩|⟨d,name,h,hd,lQ,j3⟩
   ·rw [h] at hA hB
    exact Fc (by rw [hA]) he hB
   rw [h] at hA hB
   replace hA:cO S au a=nS S t.k a d name:=hA
   obtain⟨e1,e2⟩:=ZT hr hl2 hd lQ j3 a
   by_cases hc:(nS S t.k a d name).1=0
   ·obtain⟨g',q1,q2,_⟩:=e2 hc
    have e3:(fk (toR S g) (bT S ⟨t.k,2⟩) (bT S ⟨d,2⟩) name a).2=0:=e1.trans hc
    refine⟨g',?_,hIa,by rw [hA];exact q2⟩
    grind
   grind
end i
def AQ:Except Int (Nat×ByteArray)->Value
 |.error e=>.tuple #[.int .i64 0,.string ⟨#[]⟩,.int .i64 e]
 |.ok x=>.tuple #[.int .i64 ((x.1:Nat):Int),.string x.2,.int .i64 0]
section w
variable {R:RS} {ps:List ByteArray} {d j k:Nat}
theorem Ca {B:Option Addr} {c:Nat} (hj:j<ps.length):∀F w,(aH 9 1 B ps.length c (mY ps)).h F w->w.cell? ⟨bw B,br B+j*1,none⟩=some (.string (pc ps j)):=
 aH.cellAt (size:=1) (j:=0) hj (by rw [Nat.mul_one];exact DH hj)
theorem Xc (hj:j+1<ps.length) (hl:bV R.ns d (pc ps j) = -1):oH R d (ps.drop j)=.error 170:=by
 grind [zD,bV,pc,oH]
theorem Fe (hj:j+1<ps.length) (hl:bV R.ns d (pc ps j)=(k:Int)):oH R d (ps.drop j)=if (nd R.ns k).kind=3 then .error 174 else if (nd R.ns k).kind=1 then .error 173 else oH R k (ps.drop (j+1)):=by
 have e:(bV R.ns d (pc ps j)).toNat=k:=by rw [hl];rfl
 grind [zD,bV,pc,oH,nd]
theorem Mn (hj:j+1=ps.length):oH R d (ps.drop j)=if (nd R.ns d).id∈R.aG then .error 170 else .ok (d,pc ps j):=by
 grind [zD,oH,nd,pc]
end w
abbrev nF:aO:=⟨0,1,420,0,0,0,0,[],⟨#[]⟩,[]⟩
abbrev nD:aO:=⟨0,2,493,0,0,0,0,[],⟨#[]⟩,[]⟩
abbrev nL (t:ByteArray):aO:=⟨0,3,511,0,0,0,0,[],t,[]⟩
section a
variable {R Z:RS} {Y:RL} {β:Bs} {d au k to n:Nat} {name ay:ByteArray} {a:dK} {e:Int} {x:aO}
theorem acp (h:(bP R d name x).2≠0):(bP R d name x).1=R:=by
 grind [bP]
theorem Xd (h:(bP R d name x).2=0):bP R d name x=(jV R d name x,0):=by
 grind [kW,bP]
theorem K1:(jV R d name x).ns.length=R.ns.length+1:=by
 unfold jV
 simp [List.length_append,CI]
theorem ZU:(nd (jV R d name x).ns R.ns.length).data=x.data:=by
 grind [jV,nd,dh,CI]
theorem lU.toK {L:eV} {H V:Option Addr} (h:lU β R L H V):AF β R L H V k:=⟨λi hi _=>h.data i hi,h.ah,h.h,h.v⟩
theorem abt (h:a.op=1) (hm:(bP R d name nF).2≠0):fk R au d name a=(R,(bP R d name nF).2):=by unfold fk;rw [agW h];exact agV hm
theorem abu (h:a.op=1) (hm:(bP R d name nF).2=0):fk R au d name a=((jO (jV R d name nF) R.ns.length a.text.data.toList).1,0):=by
 grind [fk,Xd,K1]
theorem ad4 (h:a.op=2):fk R au d name a=bP R d name nD:=by unfold fk;rw [agV zc,agW h]
theorem ad5 (h:a.op=3):fk R au d name a=bP R d name (nL a.text):=by unfold fk;rw [agV zc,agV zc,agW h]
theorem ad6 (h:a.op=4):fk R au d name a=iE R d name false:=by unfold fk;rw [agV zc,agV zc,agV zc,agW h]
theorem ad7 (h:a.op=5):fk R au d name a=iE R d name true:=by unfold fk;rw [agV zc,agV zc,agV zc,agV zc,agW h]
theorem abv (h:a.op=6) (hw:mO R au a.to=.error e):fk R au d name a=(R,e):=by unfold fk;rw [agV zc,agV zc,agV zc,agV zc,agV zc,agW h,hw]
theorem abw (h:a.op=6) (hw:mO R au a.to=.ok (to,ay)):fk R au d name a=gY R d name to ay:=by unfold fk;rw [agV zc,agV zc,agV zc,agV zc,agV zc,agW h,hw]
theorem ad8 (h:¬(1<=a.op/\a.op<=6)):fk R au d name a=if 0<=bV R.ns d name then if (nd R.ns (bV R.ns d name).toNat).kind=3 then (R,174) else if (nd R.ns (bV R.ns d name).toNat).kind=2 then (R,172) else ((jO R (bV R.ns d name).toNat a.text.data.toList).1,(jO R (bV R.ns d name).toNat a.text.data.toList).2.2) else (R,170):=by
 grind [fk]
theorem abx (h:¬(1<=a.op/\a.op<=6)) (hl:bV R.ns d name = -1):fk R au d name a=(R,170):=(ad8 h).trans (agV (by rw [hl];decide))
theorem F8 (h:¬(1<=a.op/\a.op<=6)) (hl:bV R.ns d name=(k:Int)):fk R au d name a=if (nd R.ns k).kind=3 then (R,174) else if (nd R.ns k).kind=2 then (R,172) else ((jO R k a.text.data.toList).1,(jO R k a.text.data.toList).2.2):=by
 rw [ad8 h,agW (by rw [hl];omega),hl];rfl
theorem PL:∀{ps:List ByteArray} {d:Nat},oH R d ps=.error e->e≠0
 |[],d,h=>by cases h;decide
 |[p],d,h=>by
   unfold oH at h
   split at h<;>first|(cases h;done)|(cases h;decide)
 |p::q::r,d,h=>by
   unfold oH at h
   (repeat' split at h)<;>first|exact PL h|(cases h;done)|(cases h;decide)
theorem PN {p:ByteArray} (h:mO R au p=.error e):e≠0:=by
 grind [mO,PL]
theorem Sp:∀{ps:List ByteArray} {d:Nat},d<R.ns.length->oH R d ps=.ok (to,ay)->to<R.ns.length
 |[],d,_,h=>by cases h
 |[p],d,hd,h=>by
   unfold oH at h
   split at h
   ·cases h
   cases h;exact hd
 |p::q::r,d,hd,h=>by
   unfold oH at h
   split at h
   ·rename_i h0
    split at h
    ·cases h
    split at h
    ·cases h
    refine Sp ?_ h
    rcases kz R.ns d p with hl|⟨k,hl,hk⟩
    ·rw [hl] at h0;exact agY h0 (by decide)
    rw [hl];exact hk
   cases h
theorem Sq {p:ByteArray} (hr:au<R.ns.length) (h:mO R au p=.ok (to,ay)):to<R.ns.length:=by
 unfold mO at h
 split at h
 ·exact Sp hr h
 cases h
theorem Un (hI:lU β Z Y.L Y.H Y.V) (hC:RC Z) (hD:RD n Z) (hn:n<=7) (d:Nat) (hd:d<Z.ns.length) (name:ByteArray) (x:aO) (hxd:x.data=[]) (L5:x.ah=[]) (Lx:x.target.size<=1048576) (hm:(bP Z d name x).2≠0) :
 cE Tryz.prog β 99 #[.agg ⟨rV Z Y⟩,.int .i64 ((d:Nat):Int),.string name,.agg #[.int .i64 x.id,.int .i64 x.kind,.int .i64 x.mode,.int .i64 x.bg,.int .i64 x.bh,.int .i64 x.aU,.int .i64 x.aI,.slice none 0 0,.string x.target,.slice none 0 0]]
  [.abs (aH 95 10 Y.A Z.ns.length Y.c (bG Y.L Z.ns)),.abs (aH 3 1 Y.G Z.aG.length Y.cg (bH Z.aG))] (λ_ v l=>v=.tuple #[.agg ⟨rV Z Y⟩,.int .i64 (bP Z d name x).2]/\l=[.abs (aH 95 10 Y.A Z.ns.length Y.c (bG Y.L Z.ns)),.abs (aH 3 1 Y.G Z.aG.length Y.cg (bH Z.aG))]):=by
 refine (yq Z Y hI hC hD hn d hd name x hxd L5 Lx).mono ?_
 rintro β' v l _ ⟨A1,c1,L1,rfl,rfl,_,hmk⟩
 obtain⟨_,rfl,rfl,rfl⟩:=hmk.resolve_left (λh=>hm h.1)
 rw [acp hm]
 exact⟨rfl,rfl⟩
theorem Uo (hI:lU β Z Y.L Y.H Y.V) (hC:RC Z) (hD:RD n Z) (hn:n<=7) (d:Nat) (hd:d<Z.ns.length) (name:ByteArray) (x:aO) (hxd:x.data=[]) (L5:x.ah=[]) (Lx:x.target.size<=1048576) (hm:(bP Z d name x).2=0) :
 cE Tryz.prog β 99 #[.agg ⟨rV Z Y⟩,.int .i64 ((d:Nat):Int),.string name,.agg #[.int .i64 x.id,.int .i64 x.kind,.int .i64 x.mode,.int .i64 x.bg,.int .i64 x.bh,.int .i64 x.aU,.int .i64 x.aI,.slice none 0 0,.string x.target,.slice none 0 0]]
  [.abs (aH 95 10 Y.A Z.ns.length Y.c (bG Y.L Z.ns)),.abs (aH 3 1 Y.G Z.aG.length Y.cg (bH Z.aG))] (λβ' v l=>∃A' c' L',v=.tuple #[.agg ⟨rW (jV Z d name x) A' c' Y.G Y.cg Y.H Y.ch Y.V Y.cv⟩,.int .i64 0] ∧
   l=[.abs (aH 95 10 A' (jV Z d name x).ns.length c' (bG L' (jV Z d name x).ns)),.abs (aH 3 1 Y.G (jV Z d name x).aG.length Y.cg (bH (jV Z d name x).aG))]/\lU β' (jV Z d name x) L' Y.H Y.V/\L'.dA Z.ns.length=none/\L'.dC Z.ns.length=0):=by
 grind [yq,Xd]
end a
theorem Sr {l:List UInt8} {c:UInt8} {j:Nat}:Lib.occAt l [c] j=(l[j]? == some c):=by
 unfold Lib.occAt
 rw [←List.head?_drop]
 cases l.drop j with
 |nil=>rfl
 |cons b r=>
   grind
theorem ext_get {s:ByteArray} {a b j:Nat} (hb:b<=s.size) (hj:a+j<b):(s.extract a b).data.toList[j]?=some (s.data.getD (a+j) 0):=by
 have h:a+j<s.data.size:=ahg hj hb
 simp only [ByteArray.data_extract,Array.getElem?_toList,Array.getElem?_extract]
 rw [agW (by have:s.data.size=s.size:=rfl;omega)]
 have h2:s.data[a+j]?=some s.data[a+j]:=Array.getElem?_eq_getElem h
 rw [h2]
 simp only [Array.getD,h,dite_true];rfl
section p
variable {s:ByteArray} {a i:Nat}
theorem ad9 {j:Nat}:(s.data.getD j 0 == 47)=decide (dL s j=47):=by
 unfold dL
 generalize s.data.getD j 0=x
 by_cases h:x=47
 ·subst h;rfl
 have h2:¬x.toNat=47:=λe=>h (ahz.1 e)
 rw [agZ h2]
 simpa using h
theorem St {j:Nat} (hj:a+j<s.size):Lib.occAt (s.extract a s.size).data.toList slash.data.toList j=decide (dL s (a+j)=47):=by
 show Lib.occAt _ [47] j=_
 rw [Sr,ext_get (ag5 _) hj,←ad9]
 simp
theorem acq {j:Nat} (hj:s.size<=a+j):Lib.occAt (s.extract a s.size).data.toList slash.data.toList j=false:=by
 show Lib.occAt _ [47] j=_
 rw [Sr,ahT (by simp only [Array.length_toList,ByteArray.size_data,ahH];omega)]
 rfl
theorem QX (iP:∀j,a<=j->j<s.size->¬dL s j=47):bQ (s.extract a s.size)=[s.extract a s.size]:=by
 refine Lib.splitB_miss _ _ _ _ (Lib.index_none (λj _=>?_))
 grind [St,acq]
theorem QY (ha:a<=i) (hi:i<s.size) (hb:dL s i=47) (iP:∀j,a<=j->j<i->¬dL s j=47):bQ (s.extract a s.size)=s.extract a i::bQ (s.extract (i+1) s.size):=by
 have fH:Lib.indexB (s.extract a s.size) slash=((i-a:Nat):Int):=by
  refine Lib.index_first (by simp only [Array.length_toList,ByteArray.size_data,ahH];omega) ?_ (λj hj=>?_)
  all_goals grind [St]
 have hc:=Lib.countB_hit (s.extract a s.size) slash (i-a) Pd fH
 have e:(s.extract a s.size).extract (i-a+slash.size) (s.extract a s.size).size=s.extract (i+1) s.size:=by
  rw [ByteArray.extract_extract,ahH]
  congr 1
  ·show a+(i-a+1)=i+1;omega
  omega
 unfold bQ
 rw [hc,ah0,Lib.splitB_hit _ _ _ _ _ fH,e]
 congr 1
 rw [ByteArray.extract_extract]
 congr 1
 omega
structure GP (s:ByteArray) (i a:Nat) (ps:List ByteArray):Prop where
 le:a<=i
 at_:i<=s.size->ps++bQ (s.extract a s.size)=bQ s/\∀j,a<=j->j<i->¬dL s j=47
 fin:s.size<i->ps=bQ s
 len:ps.length<=a
theorem GP.start:GP s 0 0 []:=⟨ag5 _,λ_=>⟨by rw [ByteArray.extract_zero_size];rfl,λj _ h=>agY h (ag2 j)⟩,λh=>agY h (ag2 _),ag5 _⟩
theorem GP.miss {ps:List ByteArray} (h:GP s i a ps) (hi:i<s.size) (hb:¬dL s i=47):GP s (i+1) a ps:=
 ⟨Nat.le_succ_of_le h.le,λ_=>⟨(h.at_ (ah1 hi)).1,λj h1 h2=>(ag3.1 h2).elim ((h.at_ (ah1 hi)).2 j h1) (λe=>e ▸ hb)⟩,λh=>zc,h.len⟩
theorem GP.hit {ps:List ByteArray} (h:GP s i a ps) (hi:i<=s.size) (hb:i=s.size\/dL s i=47):GP s (i+1) (i+1) (ps++[s.extract a i]):=by
 obtain⟨h1,h2⟩:=h.at_ hi
 have dU:=h.le
 have Vg:=h.len
 refine⟨ag5 _,λh3=>⟨?_,λj h4 h5=>zc⟩,λh3=>?_,by rw [ag4];show ps.length+1<=i+1;omega⟩
 all_goals grind [QY,QX]
theorem Mp {ps:List ByteArray} {x:ByteArray}:mY (ps++[x])=mY ps++[.string x]:=ahv
end p
end
section
open Go.RowKit Go.Maps bK aF
attribute [local irreducible] av bN aq aB
theorem Xe {β:Bs} (s:ByteArray) (hs:s.size<=1048576) :
 aW Tryz.prog β 97 #[.string s] [] (λv l=>∃B c,v=.slice B (bQ s).length c/\l=[.abs (aH 9 1 B ((bQ s).length) c (mY (bQ s)))]):=by
 refine SE Tryz.func97 Tryz.ntmps97 (λR=>SR (jK 1 [] [] (NS (jB 2 [3] (λb1=>.aD b1 [] 9) (λb1=>NS (av.mem (λw hS=>hS.ou (i:=1) (b:=b1) (cs:=[]) (e:=9) 1 0 KB rfl Pd) (jK 1 [4] [] (NZ (jK 1 [5] [] (NN (aq.block (lJ (λ(i,A8,c8,ps,a)=>(i<=s.size+1)/\(GP s i a ps)) (λ(i,A8,c8,ps,a)=>s.size+2-i) (λ(i,A8,c8,ps,a)=>[(0,.string s),(3,.slice A8 (ps.length) (c8)),(4,vI ↑a),(5,vI ↑i)]) (λ(i,A8,c8,ps,a)=>[.abs (aH 9 1 A8 ps.length c8 (mY ps)),.abs R]) (0,some ⟨b1,0,none⟩,0,[],0) [1,0] (⟨ag0 _,GP.start⟩) ?_))))))))))))
 rintro⟨i,A8,c8,ps,a⟩ ⟨hi,hp⟩
 have dU:=hp.le
 have Vg:=hp.len
 exact SQ (jK 4 [10] [] (NN (cP ((((i:Nat):Int):Int)<=((((s:ByteArray).size:Nat):Int):Int)) (λh10=>KX (aq.seq (aq.block (SR (jK 5 [17] [] (sP 17 ((((i:Nat):Int):Int)=((((s:ByteArray).size:Nat):Int):Int)) (λEj=>jK 5 [22] [] (NT (SR (jN 6 [23,28] (λb2=>[(4,p_ ⟨[],some i,some a,none,none⟩ [((i:Nat):Int)=((i:Nat):Int),((a:Nat):Int)=((a:Nat):Int),i<=(s:ByteArray).size,a<=i] ⟨rfl,rfl,zc,zc,trivial⟩)]) (λ_=>[]) (λb2=>.aD b2 [.string ((s:ByteArray).extract a i)] 9) (λb2=>mR 0 157 (some ⟨b2,0,none⟩) 1 1 [.string ((s:ByteArray).extract a i)] rfl (fP (j:=2) rfl) (λA3 c4=>av.cL 0 (p':=.abs (aH 9 1 A3 ((ps++[s.extract a i]).length) c4 (mY (ps++[s.extract a i])))) rfl (by rw [Mp];simp) (sl 29 (.slice A3 (ps.length+1) (c4)) (.slice A3 ((ps++[s.extract a i]).length) (c4)) agU (jK 1 [3] [] (NN (aq.region (jK 3 [4] [(1,wJ ((i:Int)+1) (↑(i+1)))] (LX (aq.region (jK 3 [5] [(1,wJ ((i:Int)+1) (↑(i+1)))] (NL (tJ ((i+1),A3,c4,(ps++[s.extract a i]),(i+1)) [0,1] (⟨zc,hp.hit zc (.inl zc)⟩))))))))))))))))) (λEj=>jK 5 [22] [(2,xP i (i<(s:ByteArray).size))] (NN (cP ((((((s:ByteArray).data.getD (i) 0).toNat:Nat):Int):Int)=(47:Int)) (λsj=>SR (jN 6 [23,28] (λb5=>[(4,p_ ⟨[],some i,some a,none,none⟩ [((i:Nat):Int)=((i:Nat):Int),((a:Nat):Int)=((a:Nat):Int),i<=(s:ByteArray).size,a<=i] ⟨rfl,rfl,zc,zc,trivial⟩)]) (λ_=>[]) (λb5=>.aD b5 [.string ((s:ByteArray).extract a i)] 9) (λb5=>mR 0 157 (some ⟨b5,0,none⟩) 1 1 [.string ((s:ByteArray).extract a i)] rfl (fP (j:=2) rfl) (λA6 c7=>av.cL 0 (p':=.abs (aH 9 1 A6 ((ps++[s.extract a i]).length) c7 (mY (ps++[s.extract a i])))) rfl (by rw [Mp];simp) (sl 29 (.slice A6 (ps.length+1) (c7)) (.slice A6 ((ps++[s.extract a i]).length) (c7)) agU (jK 1 [3] [] (NN (aq.region (jK 3 [4] [(1,wJ ((i:Int)+1) (↑(i+1)))] (LX (aq.region (jK 3 [5] [(1,wJ ((i:Int)+1) (↑(i+1)))] (NL (tJ ((i+1),A6,c7,(ps++[s.extract a i]),(i+1)) [0,1] (⟨zc,hp.hit zc (.inr (by unfold dL;omega))⟩))))))))))))))) (λsj=>KX (aq.region (jK 3 [5] [(1,wJ ((i:Int)+1) (↑(i+1)))] (NL (tJ ((i+1),A8,c8,ps,a) [0,1] (⟨zc,hp.miss zc (by unfold dL;omega)⟩))))))))))))))) (λh10=>XX (zR ((by have e:=hp.fin zc;rw [←e];exact⟨A8,c8,rfl,rfl⟩)))))))
theorem F9 {β:Bs} (Z:RS) (Y:RL) (hR:dz β Z Y) (hC:RC Z) (au:Nat) (Cb:au<Z.ns.length) (path:ByteArray) (eT:path.size<=1048576) :
 aW Tryz.prog β 72 #[.agg ⟨rV Z Y⟩,vI (((au:Nat):Int)),.string path] [] (λv l=>v=AQ (mO Z au path)/\l=[]):=by
 have hpl:1<=(bQ path).length/\(bQ path).length<=1048577:=by rw [DG];have:=AP path;omega
 have hnl:=hC.toRB.ns
 refine SE Tryz.func72 Tryz.ntmps72 (λR=>SR (jN 4 [3] (λ_=>[]) (λ_=>[]) (λb1=>.aD b1 (rV Z Y) 45) (λb1=>NS (jK 1 [13] [] (gL [] (Xe path eT) ?_)))))
 rintro _ _ ⟨B,c,rfl,rfl⟩
 refine jK 1 [9] [] (NN (aq.seq (SR (av.rX 0 rfl zc (λhgB=>jK 1 [10] [] (NN (aq.block (lJ (λ(j:Nat)=>(j<=(bQ path).length)/\(∀q,q<j->cq (pc (bQ path) q))) (λ(j:Nat)=>(bQ path).length-j) (λ(j:Nat)=>[(1,vI ↑au),(3,vP b1),(9,.slice B ((bQ path).length) (c)),(10,vI ↑j)]) (λ(j:Nat)=>[.abs (aH 9 1 B ((bQ path).length) c (mY (bQ path))),.abs R,.aD b1 (rV Z Y) 45]) 0 [0,1,2] (⟨ag0 _,λq h=>agY h (ag2 q)⟩) ?_))))))))
 rintro j ⟨hj,hgd⟩
 refine aq.seq (SR (jK 4 [18] [] (NN (cP ((((j:Nat):Int):Int)<((((bQ path).length:Nat):Int):Int)) (λpU=>aq.skip (NX (aq.seq (aq.block (SR (jK 4 [24] [(2,x_ j ((bQ path).length) (hgB)),(3,p_ ⟨[.view 0 (.string (pc (bQ path) j))],none,none,none,none⟩ [(∀F w,(aH 9 1 B ((bQ path).length) c (mY (bQ path))).h F w->w.cell? ⟨(bw B),br B+j*1,none⟩=some (.string (pc (bQ path) j)))] ⟨Ca zc,trivial⟩)] (gE [] (C9 (pc (bQ path) j) (ag1 (GN (PI zc)) eT)) (jK 1 [26] [] (NN (cN (cq (pc (bQ path) j)) (λyI=>SR (jK 3 [6,7,8] [] (NN (aq.ret (aB.fW (aB.bD (aB.bD (aB.fW (aB.bD (RT _ [1] (⟨agX AQ (ahD (show mO Z au path=.error 95 from agV (λh=>yI (DI.1 h j zc)))),rfl⟩))))))))))) (λyI=>aq.skip (aB.jX (NX (aq.region (jK 3 [10] [(1,wJ ((j:Int)+1) (↑(j+1)))] (NL (tJ ((j+1)) [0,1,2] (⟨zc,λq hq=>(ag3.1 hq).elim (hgd q) (λe=>e ▸ yI)⟩)))))))))))))))))) (λpU=>aq.exit (aB.oZ (aB.oZ (aB.vU (NX (SR ?_))))))))))
 have jP:∀p∈(bQ path),cq p:=DI.2 (λq hq=>hgd q zc)
 refine jK 2 [11] [] (NN (aq.seq (SR (jK 1 [12] [] (NN (aq.block (lJ (λ(j,at_)=>(j<=(bQ path).length-1)/\(at_<Z.ns.length)/\(oH Z au (bQ path)=oH Z at_ ((bQ path).drop j))) (λ(j,at_)=>(bQ path).length-1-j) (λ(j,at_)=>[(3,vP b1),(9,.slice B ((bQ path).length) (c)),(11,vI ↑at_),(12,vI ↑j)]) (λ(j,at_)=>[.abs (aH 9 1 B ((bQ path).length) c (mY (bQ path))),.abs R,.aD b1 (rV Z Y) 45]) (0,au) [0,1,2] (⟨ag0 _,Cb,rfl⟩) ?_)))))))
 rintro⟨j,at_⟩ ⟨hj,hat,hw⟩
 refine aq.seq (SR (jK 5 [32] [(3,wJ ((((bQ path).length:Nat):Int)-1) (↑((bQ path).length-1)))] (NN (cP ((((j:Nat):Int):Int)<(((((bQ path).length-1):Nat):Int):Int)) (λr8=>aq.skip (NX (aq.seq (aq.block (aq.seq ?_))))) (λr8=>aq.exit (aB.oZ (aB.oZ (aB.vU (NX (aq.seq (aq.seq (aq.Fv KB KB (jQ 8 [60,67] [(0,A_ 2 b1 12),(3,a_ 2 b1),(5,x_ at_ Z.ns.length (aP.hd hR.n (i:=at_) zc)),(7,r_ (aP.rd hR.n (i:=at_) zc (j:=0) rfl))] (mD [] [0,1,2] (.bool (decide ((nd Z.ns at_).id∈Z.aG))) (wC Z Y hR hC.toRB (nd Z.ns at_).id) (NQ (NX (cP ((nd Z.ns at_).id∈Z.aG) (λh68=>SR (jK 3 [6,7,8] [] (NN (aq.ret (aB.bD (RT _ [1] (⟨agX AQ (ahD (show mO Z au path=.error 170 from (show mO Z au path=oH Z au (bQ path) from agW jP).trans (hw.trans ((Mn zc).trans (agW h68))))),rfl⟩))))))) (λh68=>aq.skip (NX (aq.seq (aq.Fv KB KB (jQ 10 [6,7,8] [(4,wJ ((((bQ path).length:Nat):Int)-1) (↑((bQ path).length-1))),(5,x_ ((bQ path).length-1) ((bQ path).length) (hgB)),(6,p_ ⟨[.view 0 (.string (pc (bQ path) ((bQ path).length-1)))],none,none,none,none⟩ [(∀F w,(aH 9 1 B ((bQ path).length) c (mY (bQ path))).h F w->w.cell? ⟨(bw B),br B+((bQ path).length-1)*1,none⟩=some (.string (pc (bQ path) ((bQ path).length-1))))] ⟨Ca zc,trivial⟩)] (NQ (NX (aq.ret (RT _ [1] (⟨agX AQ (ahD (show mO Z au path=.ok (at_,pc (bQ path) ((bQ path).length-1)) from (show mO Z au path=oH Z au (bQ path) from agW jP).trans (hw.trans ((Mn zc).trans ((agV h68).trans (by rw [show j=(bQ path).length-1 by omega])))))),rfl⟩)))))))))))))))))))))))))))
 rcases kz Z.ns at_ (pc (bQ path) j) with hl|⟨k,hl,hk⟩
 ·exact aq.Fv KB KB (jQ 6 [35,36,40] [(0,A_ 2 b1 12),(4,x_ j ((bQ path).length) (hgB)),(5,p_ ⟨[.view 0 (.string (pc (bQ path) j))],none,none,none,none⟩ [(∀F w,(aH 9 1 B ((bQ path).length) c (mY (bQ path))).h F w->w.cell? ⟨(bw B),br B+j*1,none⟩=some (.string (pc (bQ path) j)))] ⟨Ca zc,trivial⟩)] (mD [] [0,1,2] (.int .i64 (-1)) ((jH Z Y hR hC at_ hat (pc (bQ path) j)).val (agX (Value.int .i64) hl)) (jQ 1 [11] [] (NQ (NX (aq.seq (SR (jK 2 [43] [] (NN (CT (zR ⟨agX AQ (ahD (show mO Z au path=.error 170 from (show mO Z au path=oH Z au (bQ path) from agW jP).trans (hw.trans (Xc zc hl)))),rfl⟩ [1])))))))))))
 exact rQ (jQ 6 [35,36,40] [(0,A_ 2 b1 12),(4,x_ j ((bQ path).length) (hgB)),(5,p_ ⟨[.view 0 (.string (pc (bQ path) j))],none,none,none,none⟩ [(∀F w,(aH 9 1 B ((bQ path).length) c (mY (bQ path))).h F w->w.cell? ⟨(bw B),br B+j*1,none⟩=some (.string (pc (bQ path) j)))] ⟨Ca zc,trivial⟩)] (mD [] [0,1,2] (.int .i64 ↑k) ((jH Z Y hR hC at_ hat (pc (bQ path) j)).val (agX (Value.int .i64) hl)) (jQ 1 [11] [] (NQ (NX (SQ (jK 2 [43] [(1,wF (((k:Int):Int)<(0:Int)))] (NF (KX (SQ (jK 8 [51] [(2,a_ 2 b1),(4,x_ k Z.ns.length (aP.hd hR.n (i:=k) zc)),(6,r_ (aP.rd hR.n (i:=k) zc (j:=1) rfl))] (NN (cP (((nd Z.ns k).kind:Int)=(3:Int)) (λxG=>zR ⟨agX AQ (ahD (show mO Z au path=.error 174 from (show mO Z au path=oH Z au (bQ path) from agW jP).trans (hw.trans ((Fe zc hl).trans (agW xG))))),rfl⟩ [1]) (λxG=>KX (SR (jK 8 [59] [(2,a_ 2 b1),(4,x_ k Z.ns.length (aP.hd hR.n (i:=k) zc)),(6,r_ (aP.rd hR.n (i:=k) zc (j:=1) rfl))] (NN (cP (((nd Z.ns k).kind:Int)=(1:Int)) (λvN=>zR ⟨agX AQ (ahD (show mO Z au path=.error 173 from (show mO Z au path=oH Z au (bQ path) from agW jP).trans (hw.trans ((Fe zc hl).trans ((agV xG).trans (agW vN)))))),rfl⟩ [1]) (λvN=>KX (aq.region (jK 3 [12] [(1,wJ ((j:Int)+1) (↑(j+1)))] (NL (tJ ((j+1),k) [0,1,2] (⟨zc,hk,hw.trans ((Fe zc hl).trans ((agV xG).trans (agV vN)))⟩))))))))))))))))))))))))
end
end Go.Proofs.YtbnfiigafobejaaGreat
