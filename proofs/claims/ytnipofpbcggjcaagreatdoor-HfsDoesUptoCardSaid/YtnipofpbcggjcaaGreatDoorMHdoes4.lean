/-
  PROVED HERE: lemmas and contracts of functions (texts of this repo, joined; what the claim does not use is left out): Dq, DM, DN, Co, Ss, Sv, Sw, So, Sy, Sz, Sq, Sj, Sg, Fz, Hc, Hd, H1, H2, H3, H4, H5, H6, ShelfP, As, Si, Pw, Ad, Pc, FP.
  CONDITIONS: as the theorems say.
-/
import Derived.Test.YtnipofpbcggjcaaGreatDoorMHdoes3
import Derived.Shelf.Strings.Split
import Derived.Test.YtnipofpbcggjcaaGreatDoorProg
import Derived.Laws.IdiomStrings
import Derived.Lib.SplitLaws
set_option maxRecDepth 100000
set_option maxHeartbeats 4000000
namespace Go.Proofs.YtnipofpbcggjcaaGreatDoor
section
open Go.RowKit Go.Maps aR ak
section q
variable {β β':Bs} {N:dx} {Q:Post} {e:Exit} {fr:Fr} {hps l:List HP}
theorem aj.freeze (R:List HP) (pk:List Nat) (hn:nodupB pk=true) (hp:bh hps pk=some (l++R)) (K:∀β':Bs,β.le β'->oK β R β'->aj β' N Q e fr l):aj β N Q e fr hps:=λjunk w hS=>by
 obtain⟨β',h,_,dY⟩:=(hS.pick hn hp).uQ
 exact K β' h.le h junk w dY
variable {P:Program} {ops:Array Oper} {k:Nat}
theorem ai.freeze (R:List HP) (pk:List Nat) (hn:nodupB pk=true) (hp:bh hps pk=some (l++R)) (K:∀β':Bs,β.le β'->oK β R β'->ai P β' N ops k fr l Q):ai P β N ops k fr hps Q:=λjunk w hS=>by
 obtain⟨β',h,_,dY⟩:=(hS.pick hn hp).uQ
 exact K β' h.le h junk w dY
theorem aj.bD (ix:List Nat) (R:List HP) (K:∀β':Bs,β.le β'->oK β R β'->aj β' N Q e fr (jf ix hps 0)) (hn:nodupB (kW ix hps.length 0++ix)=true:=by kernel_rfl) (hp:bh hps (kW ix hps.length 0++ix)=some (jf ix hps 0++R):=by kernel_rfl):aj β N Q e fr hps:=aj.freeze R _ hn hp K
theorem ai.bD (ix:List Nat) (R:List HP) (K:∀β':Bs,β.le β'->oK β R β'->ai P β' N ops k fr (jf ix hps 0) Q) (hn:nodupB (kW ix hps.length 0++ix)=true:=by kernel_rfl) (hp:bh hps (kW ix hps.length 0++ix)=some (jf ix hps 0++R):=by kernel_rfl):ai P β N ops k fr hps Q:=ai.freeze R _ hn hp K
variable {c:Code}
theorem ah.oZ (i:Nat) {e:TypeId} {size n cap:Nat} {A:Option Addr} {xs:List Value} (hp:hps[i]?=some (.abs (aq e size A n cap xs))) (hn:0<n) (K:A=some ⟨aV A,aU A,none⟩->ah P β N c fr hps Q):ah P β N c fr hps Q:=λjunk w hS=>
 let ⟨_,h⟩:=hS.get hp;K (aq.EX h hn).1 junk w hS
def W4 (N:dx) {ι:Type} (B:ι->Bs) (Inv:ι->Prop) (fr:ι->Fr) (hp:ι->List HP):Act->World->Prop:=λa w=>∃i,Inv i/\∃junk,a=cr N (fr i) junk/\Sat (B i) (hp i) w
theorem ah.W5 {x y:Code} {ι:Type} (B:ι->Bs) (Inv:ι->Prop) (fr':ι->Fr) (hp':ι->List HP) (hr:∀i,Inv i->ah P (B i) N y (fr' i) (hp' i) Q) (hf:ah P β N x fr hps (Exit.then (W4 N B Inv fr' hp') Q)):ah P β N (.seq x y) fr hps Q:=by
 intro junk w hS
 refine wp_seq (Code.wp_mono (λe a w q=>?_) (hf junk w hS))
 cases e with
 |normal=>
   obtain⟨i,hi,jr,rfl,dY⟩:=q
   exact hr i hi jr w dY
 |exit id=>exact q
 |goto l=>exact q
 |ret=>exact q
 |panic ch=>exact q
 |outgrown=>exact q
theorem aj.W6 {ι:Type} {B:ι->Bs} {Inv:ι->Prop} {fr':ι->Fr} {hp':ι->List HP} (i:ι) (hb:B i=β) {idx pk:List Nat} (hi:Inv i) (hf:∀junk,iG fr junk idx=fr' i) (hn:nodupB pk=true) (hp:bh hps pk=some (hp' i)) :
 aj β N (Exit.then (W4 N B Inv fr' hp') Q) .normal fr hps:=λjunk _ hS=>⟨i,hi,lk fr junk,by rw [lq N fr junk idx,hf junk],hb ▸ hS.pick hn hp⟩
end q
section k
variable {P:Program} {β β':Bs} {R R':RS} {f:FuncId} {args:Array Value} {x:Value} {ns ns':List au} {L:Lay} {A B G H V:Option Addr} {c cb cg ch cv d k to:Nat} {n:au} {bs ds:List UInt8} {name toName:ByteArray} {c0:aD}
structure wR (β:Bs) (R:RS) (L:Lay) (H V:Option Addr) (k:Nat):Prop where
 data:∀i,i<R.ns.length->i≠k->aW β (L.dA i) (nd R.ns i).data
 af:∀i,i<R.ns.length->bp β (L.eA i) (nd R.ns i).af
 h:bW β H (ints (keys R.us))
 v:bW β V (ints (fN R.us))
theorem wR.le (h:wR β R L H V k) (hle:β.le β'):wR β' R L H V k:=⟨λi hi hk=>(h.data i hi hk).le hle,λi hi=>(h.af i hi).le hle,h.h.le hle,h.v.le hle⟩
theorem wR.at (h:wR β R L H V k) (hA:B=L.dA k) (hd:ds=(nd R.ns k).data) (g:oK β [.abs (aq 75 10 A R.ns.length c (aJ L R.ns)),.abs (aq 3 1 G R.gone.length cg (ints R.gone)),.abs (aq 5 1 B ds.length cb (bY ds))] β'):bS β' R ⟨A,c,L,G,cg,H,ch,V,cv⟩:=by
 obtain⟨F,h1,h2⟩:=g.get 0 rfl
 obtain⟨F2,g1,g2⟩:=g.get 1 rfl
 obtain⟨F3,k1,k2⟩:=g.get 2 rfl
 have h':=h.le g.le
 refine⟨⟨bW.gF g1 g2 rfl,h'.h,h'.v⟩,bW.gF h1 h2 rfl,λi hi=>?_,h'.af⟩
 by_cases e:i=k
 ·subst e;rw [←hA,←hd];exact bW.gF k1 k2 rfl
 exact h'.data i hi e
theorem Ev (h:wR β R L H V k) (hA:B=L.dA k) (hd:ds=(nd R.ns k).data) (hs:∀β',β.le β'->bS β' R ⟨A,c,L,G,cg,H,ch,V,cv⟩->Spec P β' f args [] (λv l=>v=x/\l=[])) :
 Spec P β f args [.abs (aq 75 10 A R.ns.length c (aJ L R.ns)),.abs (aq 3 1 G R.gone.length cg (ints R.gone)),.abs (aq 5 1 B ds.length cb (bY ds))] (λv l=>v=x/\l=[.abs (aq 75 10 A R.ns.length c (aJ L R.ns)),.abs (aq 3 1 G R.gone.length cg (ints R.gone)),.abs (aq 5 1 B ds.length cb (bY ds))]):=
 (Spec.uQ (pre:=[]) (R:=[.abs (aq 75 10 A R.ns.length c (aJ L R.ns)),.abs (aq 3 1 G R.gone.length cg (ints R.gone)),.abs (aq 5 1 B ds.length cb (bY ds))]) (λβ' g=>hs β' g.le (h.at hA hd g))).mono (by rintro v l ⟨l0,⟨rfl,rfl⟩,rfl⟩;exact⟨rfl,rfl⟩)
theorem wR.set (h:wR β R L H V k) (hk:k<R.ns.length) (hn:R'.ns=R.ns.set k n) (he:n.af=(nd R.ns k).af) (hu:R'.us=R.us):wR β R' (L.dat k B c) H V k:=by
 refine⟨λi hi hk2=>?_,λi hi=>?_,by rw [hu];exact h.h,by rw [hu];exact h.v⟩
 ·rw [hn,List.length_set] at hi
  rw [hn,nG hk,if_neg hk2]
  show aW β (if i=k then B else L.dA i) _
  rw [if_neg hk2];exact h.data i hi hk2
 rw [hn,List.length_set] at hi
 rw [hn,nG hk]
 by_cases e:i=k
 ·rw [if_pos e,he];subst e;exact h.af i hi
 rw [if_neg e];exact h.af i hi
theorem OV {m:Nat} (h:ds.length=m):bs.length+m=(bs++ds).length:=by rw [List.length_append,h]
theorem SK {m:Nat} (h:ds.length=m):HP.abs (aq 5 1 B (bs.length+m) c (bY bs++bY ds))=HP.abs (aq 5 1 B (bs++ds).length c (bY (bs++ds))):=by
 grind [OV,bY]
theorem VD:(L.dat k B c).dA k=B:=if_pos rfl
theorem Ys {s z:Int} (hk:k<ns.length) (h:ns'=ns.set k {nd ns k with data:=ds,sec:=s,nano:=z}) :
 HP.abs (aq 75 10 A ns.length c ((((aJ L ns).set (k*10+7) (.slice B ds.length cb)).set (k*10+5) (.int .i64 s)).set (k*10+5+1) (.int .i64 z)))=HP.abs (aq 75 10 A ns'.length c (aJ (L.dat k B cb) ns')):=by
 rw [Qi hk,yu (by rw [List.length_set];exact hk),nG hk,if_pos rfl,List.set_set,h,List.length_set]
def iy (R:RS) (bs:List UInt8):Nat:=(min (bs.length:Int) (R.cB-(cW R.ns R.ns.length:Int))).toNat
def C3 (R:RS) (k:Nat) (bs:List UInt8):RS:={R with ns:=R.ns.set k {nd R.ns k with data:=(nd R.ns k).data++bs.take (iy R bs),sec:=R.cS,nano:=R.cZ}}
theorem SL (h:(bs.length:Int)=0):gM R k bs=(R,0,0):=if_pos (List.eq_nil_of_length_eq_zero (by omega))
theorem SM (h:¬(bs.length:Int)=0) (h2:R.cB-(cW R.ns R.ns.length:Int)<=0):gM R k bs=(R,0,176):=(if_neg (λe=>h (by rw [e];rfl))).trans (if_pos h2)
theorem SN (h:¬(bs.length:Int)=0) (h2:¬R.cB-(cW R.ns R.ns.length:Int)<=0):gM R k bs=(C3 R k bs,(iy R bs:Int),0):=(if_neg (λe=>h (by rw [e];rfl))).trans (if_neg h2)
theorem abA:(aL R d name n).1.us=R.us:=by unfold aL;(repeat' split)<;>rfl
theorem Nw (hk:k<ns.length) {m u g s z:Int}:(((((aJ L ns).set (k*10+2) (.int .i64 m)).set (k*10+3) (.int .i64 u)).set (k*10+4) (.int .i64 g)).set (k*10+5) (.int .i64 s)).set (k*10+5+1) (.int .i64 z)=aJ L (ns.set k {nd ns k with mode:=m,uid:=u,gid:=g,sec:=s,nano:=z}):=by
 have e:∀a:au,k<(ns.set k a).length:=by grind
 rw [o3 (n:={nd ns k with mode:=m}) hk (by decide) (λ_ _ _=>rfl) rfl,
  o3 (n:={nd ns k with mode:=m,uid:=u}) (e _) (by decide) (λ_ _ _=>rfl) (by rw [nG hk,if_pos rfl];rfl),List.set_set,
  o3 (n:={nd ns k with mode:=m,uid:=u,gid:=g}) (e _) (by decide) (λ_ _ _=>rfl) (by rw [nG hk,if_pos rfl];rfl),List.set_set,
  yu (e _),nG hk,if_pos rfl,List.set_set]
def vD (R:RS) (k:Nat) (c:aD):RS:={R with ns:=R.ns.set k {nd R.ns k with mode:=c.mode,uid:=c.uid,gid:=c.gid,sec:=c.sec,nano:=c.nano}}
theorem VE (hk:k<R.ns.length):HP.abs (aq 75 10 A R.ns.length c ((((((aJ L R.ns).set (k*10+2) (.int .i64 c0.mode)).set (k*10+3) (.int .i64 c0.uid)).set (k*10+4) (.int .i64 c0.gid)).set (k*10+5) (.int .i64 c0.sec)).set (k*10+5+1) (.int .i64 c0.nano)))=HP.abs (aq 75 10 A (vD R k c0).ns.length c (aJ L (vD R k c0).ns)):=by
 grind [Nw,vD]
theorem Ew:(vD R k c0).ns.length=R.ns.length:=List.length_set ..
theorem jl.meta (h:jl β R L H V) (hk:k<R.ns.length):jl β (vD R k c0) L H V:=by
 refine⟨λi hi=>?_,λi hi=>?_,h.h,h.v⟩
 ·rw [Ew] at hi
  show aW β _ (nd (R.ns.set k _) i).data
  rw [nG hk]
  by_cases e:i=k
  ·rw [if_pos e];subst e;exact h.data i hi
  rw [if_neg e];exact h.data i hi
 rw [Ew] at hi
 show bp β _ (nd (R.ns.set k _) i).af
 rw [nG hk]
 by_cases e:i=k
 ·rw [if_pos e];subst e;exact h.af i hi
 rw [if_neg e];exact h.af i hi
theorem SV {z:Int} (h:eV R c0.handle=.error z):ju R c0=(R,0,z):=by unfold ju;rw [h]
theorem SW (h:eV R c0.handle=.ok k) (h1:(nd R.ns k).kind=2/\(nd R.ns k).id∈R.gone):ju R c0=(R,0,170):=by unfold ju;rw [h];exact if_pos h1
theorem SX (h:eV R c0.handle=.ok k) (h1:¬((nd R.ns k).kind=2/\(nd R.ns k).id∈R.gone)) (h2:¬gS c0.mode):ju R c0=(R,0,120):=by unfold ju;rw [h];exact (if_neg h1).trans (if_neg h2)
theorem uK (h:eV R c0.handle=.ok k) (h1:¬((nd R.ns k).kind=2/\(nd R.ns k).id∈R.gone)) (h2:gS c0.mode) (h3:¬(mY c0.uid/\mY c0.gid)):ju R c0=(R,0,11):=by unfold ju;rw [h];exact (if_neg h1).trans ((if_pos h2).trans (if_neg h3))
theorem SY (h:eV R c0.handle=.ok k) (h1:¬((nd R.ns k).kind=2/\(nd R.ns k).id∈R.gone)) (h2:gS c0.mode) (h3:mY c0.uid/\mY c0.gid) (h4:¬dz c0.sec c0.nano):ju R c0=(R,0,20):=by unfold ju;rw [h];exact (if_neg h1).trans ((if_pos h2).trans ((if_pos h3).trans (if_neg h4)))
theorem SZ (h:eV R c0.handle=.ok k) (h1:¬((nd R.ns k).kind=2/\(nd R.ns k).id∈R.gone)) (h2:gS c0.mode) (h3:mY c0.uid/\mY c0.gid) (h4:dz c0.sec c0.nano):ju R c0=(vD R k c0,0,0):=by unfold ju;rw [h];exact (if_neg h1).trans ((if_pos h2).trans ((if_pos h3).trans (if_pos h4)))
theorem F5 (h:n.kind=3) (h1:¬iP n.target=0):aL R d name n=(R,iP n.target):=if_pos ⟨h,h1⟩
theorem JU (h:¬(n.kind=3/\iP n.target≠0)) (h1:aP R.ns d name=(k:Int)):aL R d name n=(R,171):=(if_neg h).trans (if_pos (by rw [h1];omega))
theorem C4 (h:¬(n.kind=3/\iP n.target≠0)) (h1:aP R.ns d name = -1) (h2:¬sI R):aL R d name n=(R,177):=(if_neg h).trans ((if_neg (by rw [h1];decide)).trans (if_neg h2))
theorem JV (h:¬(n.kind=3/\iP n.target≠0)) (h1:aP R.ns d name = -1) (h2:sI R):aL R d name n=(gV R d name n,0):=(if_neg h).trans ((if_neg (by rw [h1];decide)).trans (if_pos h2))
variable {b:Bool}
theorem W7 (h:aP R.ns d name = -1):eW R d name b=(R,170):=if_neg (by rw [h];decide)
theorem C5 (h:aP R.ns d name=(k:Int)):eW R d name b=if b=false/\(nd R.ns k).kind=2 then (R,172) else if b=true/\(nd R.ns k).kind≠2 then (R,173) else if b=true/\0<(nd R.ns k).af.length then (R,178) else (dF (bC R d name true),0):=by
 grind [eW]
theorem aac (h:aP R.ns d name=(k:Int)) (h1:b=false/\(nd R.ns k).kind=2):eW R d name b=(R,172):=(C5 h).trans (if_pos h1)
theorem aad (h:aP R.ns d name=(k:Int)) (h1:¬(b=false/\(nd R.ns k).kind=2)) (h2:b=true/\(nd R.ns k).kind≠2):eW R d name b=(R,173):=(C5 h).trans ((if_neg h1).trans (if_pos h2))
theorem aae (h:aP R.ns d name=(k:Int)) (h1:¬(b=false/\(nd R.ns k).kind=2)) (h2:¬(b=true/\(nd R.ns k).kind≠2)) (h3:b=true/\0<(nd R.ns k).af.length):eW R d name b=(R,178):=(C5 h).trans ((if_neg h1).trans ((if_neg h2).trans (if_pos h3)))
theorem aaf (h:aP R.ns d name=(k:Int)) (h1:¬(b=false/\(nd R.ns k).kind=2)) (h2:¬(b=true/\(nd R.ns k).kind≠2)) (h3:¬(b=true/\0<(nd R.ns k).af.length)):eW R d name b=(dF (bC R d name true),0):=(C5 h).trans ((if_neg h1).trans ((if_neg h2).trans (if_neg h3)))
variable {w:Int}
theorem aag {z:Int} (h:ez R c0.handle c0.name 64=.error z):fW R c0 w=(R,0,z):=by unfold fW;rw [h]
theorem aah (h:ez R c0.handle c0.name 64=.ok d) (h1:aP R.ns d c0.name = -1):fW R c0 w=(R,0,170):=by unfold fW;rw [h];exact if_neg (by rw [h1];decide)
theorem C6 (h:ez R c0.handle c0.name 64=.ok d) (h1:aP R.ns d c0.name=(k:Int)):fW R c0 w=if (nd R.ns k).kind=3 then (R,0,174) else if (nd R.ns k).kind≠w then (R,0,if (nd R.ns k).kind=1 then 173 else 172) else iN R k:=by
 grind [fW]
theorem aai (h:ez R c0.handle c0.name 64=.ok d) (h1:aP R.ns d c0.name=(k:Int)) (h2:(nd R.ns k).kind=3):fW R c0 w=(R,0,174):=(C6 h h1).trans (if_pos h2)
theorem aaj (h:ez R c0.handle c0.name 64=.ok d) (h1:aP R.ns d c0.name=(k:Int)) (h2:¬(nd R.ns k).kind=3) (h3:¬(nd R.ns k).kind=w) (h4:(nd R.ns k).kind=1):fW R c0 w=(R,0,173):=(C6 h h1).trans ((if_neg h2).trans ((if_pos h3).trans (by rw [if_pos h4])))
theorem aak (h:ez R c0.handle c0.name 64=.ok d) (h1:aP R.ns d c0.name=(k:Int)) (h2:¬(nd R.ns k).kind=3) (h3:¬(nd R.ns k).kind=w) (h4:¬(nd R.ns k).kind=1):fW R c0 w=(R,0,172):=(C6 h h1).trans ((if_neg h2).trans ((if_pos h3).trans (by rw [if_neg h4])))
theorem aal (h:ez R c0.handle c0.name 64=.ok d) (h1:aP R.ns d c0.name=(k:Int)) (h2:¬(nd R.ns k).kind=3) (h3:(nd R.ns k).kind=w):fW R c0 w=iN R k:=(C6 h h1).trans ((if_neg h2).trans (if_neg (λq=>q h3)))
theorem aam (h:aP R.ns d name = -1):d9 R d name to toName=(R,170):=if_neg (by rw [h];decide)
def wS (R:RS) (d:Nat) (name:ByteArray) (to:Nat) (toName:ByteArray) (k:Nat) (R1:RS):RS:=dF (bE (bC R1 d name false) to toName (nd R.ns k).id)
theorem C8 (h:aP R.ns d name=(k:Int)):d9 R d name to toName=if (nd R.ns k).kind=2/\gu R.ns k (R.ns.length+1) to=true then (R,174) else if aP R.ns to toName=(k:Int) then (R,0) else if 0<=aP R.ns to toName then (if (nd R.ns (aP R.ns to toName).toNat).kind=2 then (R,172) else if (nd R.ns k).kind=2 then (R,173) else (wS R d name to toName k (bC R to toName true),0)) else (wS R d name to toName k R,0):=by
 unfold d9
 rw [if_pos (by rw [h];omega),h];rfl
variable {t:Nat}
theorem aan (h:aP R.ns d name=(k:Int)) (h1:(nd R.ns k).kind=2/\gu R.ns k (R.ns.length+1) to=true):d9 R d name to toName=(R,174):=(C8 h).trans (if_pos h1)
theorem aao (h:aP R.ns d name=(k:Int)) (h1:¬((nd R.ns k).kind=2/\gu R.ns k (R.ns.length+1) to=true)) (h2:aP R.ns to toName=(k:Int)):d9 R d name to toName=(R,0):=(C8 h).trans ((if_neg h1).trans (if_pos h2))
theorem acg (h:aP R.ns d name=(k:Int)) (h1:¬((nd R.ns k).kind=2/\gu R.ns k (R.ns.length+1) to=true)) (h2:aP R.ns to toName = -1):d9 R d name to toName=(wS R d name to toName k R,0):=(C8 h).trans ((if_neg h1).trans ((if_neg (by rw [h2];omega)).trans (if_neg (by rw [h2];decide))))
theorem VF (h:aP R.ns d name=(k:Int)) (h1:¬((nd R.ns k).kind=2/\gu R.ns k (R.ns.length+1) to=true)) (h2:aP R.ns to toName=(t:Int)) (h3:¬(t:Int)=(k:Int)):d9 R d name to toName=if (nd R.ns t).kind=2 then (R,172) else if (nd R.ns k).kind=2 then (R,173) else (wS R d name to toName k (bC R to toName true),0):=by
 grind [C8]
theorem aap (h:aP R.ns d name=(k:Int)) (h1:¬((nd R.ns k).kind=2/\gu R.ns k (R.ns.length+1) to=true)) (h2:aP R.ns to toName=(t:Int)) (h3:¬(t:Int)=(k:Int)) (h4:(nd R.ns t).kind=2):d9 R d name to toName=(R,172):=(VF h h1 h2 h3).trans (if_pos h4)
theorem aaq (h:aP R.ns d name=(k:Int)) (h1:¬((nd R.ns k).kind=2/\gu R.ns k (R.ns.length+1) to=true)) (h2:aP R.ns to toName=(t:Int)) (h3:¬(t:Int)=(k:Int)) (h4:¬(nd R.ns t).kind=2) (h5:(nd R.ns k).kind=2):d9 R d name to toName=(R,173):=(VF h h1 h2 h3).trans ((if_neg h4).trans (if_pos h5))
theorem ach (h:aP R.ns d name=(k:Int)) (h1:¬((nd R.ns k).kind=2/\gu R.ns k (R.ns.length+1) to=true)) (h2:aP R.ns to toName=(t:Int)) (h3:¬(t:Int)=(k:Int)) (h4:¬(nd R.ns t).kind=2) (h5:¬(nd R.ns k).kind=2):d9 R d name to toName=(wS R d name to toName k (bC R to toName true),0):=(VF h h1 h2 h3).trans ((if_neg h4).trans (if_neg h5))
noncomputable def Ey (R:RS) (c:aD) (d:Nat) (n:au):tI:=if (aL R d c.name n).2=0/\c.op=5 then iN (aL R d c.name n).1 ((aL R d c.name n).1.ns.length-1) else ((aL R d c.name n).1,0,(aL R d c.name n).2)
theorem Qj (h:c0.op=8\/c0.op=14):eX R c0 d=((eW R d c0.name (decide (c0.op=14))).1,0,(eW R d c0.name (decide (c0.op=14))).2):=if_pos h
theorem aci (h:¬(c0.op=8\/c0.op=14)) (h1:c0.op=6):eX R c0 d=Ey R c0 d ⟨0,3,511,0,0,0,0,[],c0.text,[]⟩:=((if_neg h).trans (if_pos h1)).trans (if_neg (λq=>by have:=q.2;omega)).symm
theorem aar (h:¬(c0.op=8\/c0.op=14)) (h1:¬c0.op=6) (h2:¬gS c0.mode):eX R c0 d=(R,0,120):=(if_neg h).trans ((if_neg h1).trans (if_neg h2))
theorem acj (h:¬(c0.op=8\/c0.op=14)) (h1:¬c0.op=6) (h2:gS c0.mode) (h3:c0.op=5):eX R c0 d=Ey R c0 d ⟨0,1,c0.mode,0,0,0,0,[],⟨#[]⟩,[]⟩:=by
 refine ((if_neg h).trans ((if_neg h1).trans ((if_pos h2).trans (if_pos h3)))).trans ?_
 unfold Ey
 grind
theorem ack (h:¬(c0.op=8\/c0.op=14)) (h1:¬c0.op=6) (h2:gS c0.mode) (h3:¬c0.op=5):eX R c0 d=Ey R c0 d ⟨0,2,c0.mode,0,0,0,0,[],⟨#[]⟩,[]⟩:=((if_neg h).trans ((if_neg h1).trans ((if_pos h2).trans (if_neg h3)))).trans (if_neg (λq=>h3 q.2)).symm
theorem F6 (h:¬((aL R d c0.name n).2=0/\c0.op=5)):Ey R c0 d n=((aL R d c0.name n).1,0,(aL R d c0.name n).2):=if_neg h
theorem OW (h:(aL R d c0.name n).2=0) (h1:c0.op=5):Ey R c0 d n=iN (aL R d c0.name n).1 ((aL R d c0.name n).1.ns.length-1):=if_pos ⟨h,h1⟩
theorem S5 (h:(aL R d name n).2=0):(aL R d name n).1.ns.length=R.ns.length+1:=by
 unfold aL at h ⊢
 split
 ·grind
 rename_i q
 rw [if_neg q] at h
 split
 ·grind
 rename_i q2
 rw [if_neg q2] at h
 split
 ·show (_++_:List au).length=_
  grind [yX]
 grind
theorem VG (h:c0.op=1):aT R c0=if 0<=dV R.ns c0.other then (if (nd R.ns (tgt R.ns c0.other)).kind=2 then iN R (tgt R.ns c0.other) else (R,0,173)) else (R,0,141):=if_pos h
theorem W8 (h:c0.op=1) (h1:dV R.ns c0.other = -1):aT R c0=(R,0,141):=(VG h).trans (if_neg (by rw [h1];decide))
theorem W9 (h:c0.op=1) (h1:0<=dV R.ns c0.other) (h2:¬(nd R.ns (tgt R.ns c0.other)).kind=2):aT R c0=(R,0,173):=(VG h).trans ((if_pos h1).trans (if_neg h2))
theorem Xa (h:c0.op=1) (h1:0<=dV R.ns c0.other) (h2:(nd R.ns (tgt R.ns c0.other)).kind=2):aT R c0=iN R (tgt R.ns c0.other):=(VG h).trans ((if_pos h1).trans (if_pos h2))
theorem aas (h:c0.op=2):aT R c0=fW R c0 2:=by unfold aT;rw [if_neg (by omega),if_pos h]
theorem aat (h:c0.op=3):aT R c0=fW R c0 1:=by unfold aT;rw [if_neg (by omega),if_neg (by omega),if_pos h]
abbrev F7 (n:Int):Prop:=n=4\/n=5\/n=6\/n=8\/n=14
theorem aau (h:F7 c0.op):aT R c0=match ez R c0.handle c0.name 192 with|.error e=>(R,0,e)|.ok d=>eX R c0 d:=by unfold aT;rw [if_neg (by omega),if_neg (by omega),if_neg (by omega),if_pos h];rfl
theorem Xb {z:Int} (h:F7 c0.op) (h1:ez R c0.handle c0.name 192=.error z):aT R c0=(R,0,z):=by rw [aau h,h1]
theorem Xc (h:F7 c0.op) (h1:ez R c0.handle c0.name 192=.ok d):aT R c0=eX R c0 d:=by rw [aau h,h1]
theorem aav (h:c0.op=7):aT R c0=sJ R c0:=by unfold aT;rw [if_neg (by omega),if_neg (by omega),if_neg (by omega),if_neg (by omega),if_pos h]
theorem Xd {z:Int} (h:c0.op=7) (h1:nQ R c0 64=.error z):aT R c0=(R,0,z):=by rw [aav h];unfold sJ;rw [h1]
theorem Xe (h:c0.op=7) (h1:nQ R c0 64=.ok (d,to)):aT R c0=if 0<=aP R.ns d c0.name then (if (nd R.ns (aP R.ns d c0.name).toNat).kind=2 then (R,0,172) else if 0<=aP R.ns to c0.text then (R,0,171) else if (bN R.ns R.ns.length:Int)<8192 then (bE R to c0.text (nd R.ns (aP R.ns d c0.name).toNat).id,0,0) else (R,0,177)) else (R,0,170):=by rw [aav h];unfold sJ;rw [h1]
theorem Xf (h:c0.op=7) (h1:nQ R c0 64=.ok (d,to)) (h2:aP R.ns d c0.name = -1):aT R c0=(R,0,170):=(Xe h h1).trans (if_neg (by rw [h2];decide))
theorem JW (h:c0.op=7) (h1:nQ R c0 64=.ok (d,to)) (h2:aP R.ns d c0.name=(k:Int)):aT R c0=if (nd R.ns k).kind=2 then (R,0,172) else if 0<=aP R.ns to c0.text then (R,0,171) else if (bN R.ns R.ns.length:Int)<8192 then (bE R to c0.text (nd R.ns k).id,0,0) else (R,0,177):=by
 refine (Xe h h1).trans ((if_pos (by rw [h2];omega)).trans ?_)
 rw [h2];rfl
theorem Xg (h:c0.op=7) (h1:nQ R c0 64=.ok (d,to)) (h2:aP R.ns d c0.name=(k:Int)) (h3:(nd R.ns k).kind=2):aT R c0=(R,0,172):=(JW h h1 h2).trans (if_pos h3)
theorem Xh (h:c0.op=7) (h1:nQ R c0 64=.ok (d,to)) (h2:aP R.ns d c0.name=(k:Int)) (h3:¬(nd R.ns k).kind=2) (h4:aP R.ns to c0.text=(t:Int)):aT R c0=(R,0,171):=(JW h h1 h2).trans ((if_neg h3).trans (if_pos (by rw [h4];omega)))
theorem Xi (h:c0.op=7) (h1:nQ R c0 64=.ok (d,to)) (h2:aP R.ns d c0.name=(k:Int)) (h3:¬(nd R.ns k).kind=2) (h4:aP R.ns to c0.text = -1) (h5:¬(bN R.ns R.ns.length:Int)<8192):aT R c0=(R,0,177):=(JW h h1 h2).trans ((if_neg h3).trans ((if_neg (by rw [h4];decide)).trans (if_neg h5)))
theorem Xj (h:c0.op=7) (h1:nQ R c0 64=.ok (d,to)) (h2:aP R.ns d c0.name=(k:Int)) (h3:¬(nd R.ns k).kind=2) (h4:aP R.ns to c0.text = -1) (h5:(bN R.ns R.ns.length:Int)<8192):aT R c0=(bE R to c0.text (nd R.ns k).id,0,0):=(JW h h1 h2).trans ((if_neg h3).trans ((if_neg (by rw [h4];decide)).trans (if_pos h5)))
theorem VH (h:c0.op=9):aT R c0=match eV R c0.handle with|.error e=>(R,0,e)|.ok k=>if (nd R.ns k).kind=2 then (R,0,172) else gM R k c0.data:=by unfold aT;rw [if_neg (by omega),if_neg (by omega),if_neg (by omega),if_neg (by omega),if_neg (by omega),if_pos h];rfl
theorem Xk {z:Int} (h:c0.op=9) (h1:eV R c0.handle=.error z):aT R c0=(R,0,z):=by rw [VH h,h1]
theorem Xl (h:c0.op=9) (h1:eV R c0.handle=.ok k) (h2:(nd R.ns k).kind=2):aT R c0=(R,0,172):=by rw [VH h,h1];exact if_pos h2
theorem Xm (h:c0.op=9) (h1:eV R c0.handle=.ok k) (h2:¬(nd R.ns k).kind=2):aT R c0=gM R k c0.data:=by rw [VH h,h1];exact if_neg h2
theorem Xn (h:c0.op=10):aT R c0=ju R c0:=by unfold aT;rw [if_neg (by omega),if_neg (by omega),if_neg (by omega),if_neg (by omega),if_neg (by omega),if_neg (by omega),if_pos h]
theorem Xo (h:c0.op=13):aT R c0=if c0.handle∈keys R.us then (dF {R with us:=del c0.handle R.us},0,0) else (dF R,0,131):=by unfold aT;rw [if_neg (by omega),if_neg (by omega),if_neg (by omega),if_neg (by omega),if_neg (by omega),if_neg (by omega),if_neg (by omega),if_pos h]
theorem S6 (h:c0.op=13) (h1:c0.handle∈keys R.us):aT R c0=(dF {R with us:=del c0.handle R.us},0,0):=(Xo h).trans (if_pos h1)
theorem S7 (h:c0.op=13) (h1:c0.handle∉keys R.us):aT R c0=(dF R,0,131):=(Xo h).trans (if_neg h1)
theorem Xp (h:c0.op=15):aT R c0=match nQ R c0 192 with|.error e=>(R,0,e)|.ok (f,to)=>((d9 R f c0.name to c0.text).1,0,(d9 R f c0.name to c0.text).2):=by unfold aT;rw [if_neg (by omega),if_neg (by omega),if_neg (by omega),if_neg (by omega),if_neg (by omega),if_neg (by omega),if_neg (by omega),if_neg (by omega),if_pos h];rfl
theorem S8 {z:Int} (h:c0.op=15) (h1:nQ R c0 192=.error z):aT R c0=(R,0,z):=by rw [Xp h,h1]
theorem S9 (h:c0.op=15) (h1:nQ R c0 192=.ok (d,to)):aT R c0=((d9 R d c0.name to c0.text).1,0,(d9 R d c0.name to c0.text).2):=by rw [Xp h,h1]
theorem Xq (h:¬(1<=c0.op/\c0.op<=10\/13<=c0.op/\c0.op<=15)):aT R c0=(R,0,230):=by unfold aT;rw [if_neg (by omega),if_neg (by omega),if_neg (by omega),if_neg (by omega),if_neg (by omega),if_neg (by omega),if_neg (by omega),if_neg (by omega),if_neg (by omega)]
end k
end
section
open Go.RowKit Go.Maps aR ak
attribute [local irreducible] ai aQ ah aj eM
noncomputable abbrev OX (Y:RL) (k:Nat) (Z:RS):=(.abs (aq 5 1 (Y.L.dA k) ((nd Z.ns k).data.length) (Y.L.dC k) (bY (nd Z.ns k).data)):HP)
noncomputable abbrev zU2 (b11:Nat) (b12:Nat):=([(4,vP b11),(8,vP b12)]:Fr)
theorem Ez {β:Bs} (Z:RS) (Y:RL) (k:Nat) (hI:wR β Z Y.L Y.H Y.V k) (hC:RC Z) (hk:k<Z.ns.length) (dA:Option Addr) (dC:Nat) (bs:List UInt8) (hbs:aW β dA bs) (hbl:bs.length<=140737488355328) (hbc:bs.length<=dC) :
 bV Tryz.prog β 64 #[.agg ⟨rV Z Y⟩,vI (((k:Nat):Int)),.slice dA (bs.length) (dC)] [ef Y Z,dP Y Z,OX Y k Z] (λβ' v l=>∃Y',v=.tuple #[.agg ⟨rV ((gM Z k bs).1) Y'⟩,vI (gM Z k bs).2.1,vI (gM Z k bs).2.2]/\l=[]/\bS β' (gM Z k bs).1 Y'):=by
 refine o6 Tryz.func64 Tryz.ntmps64 (λhle0 R=>SR (jB 1 [3] (λb1=>.blk b1 (rV Z Y) 42) (λb1=>jB 3 [6] (λb2=>.blk b2 (rZ) 42) (λb2=>NZ (jK 3 [13] [] (NN (cP ((((bs.length:Nat):Int):Int)=(0:Int)) (λp6=>?_) (λp6=>?_))))))))
 ·refine SR (jC 4 [7,8] [(0,A_ 4 b1 12),(1,A_ 5 b2 12)] [(5,(zC (rV Z Y)))] (NN (ah.ret (aj.aG (aj.bD [0,1,2] [ef Y Z,dP Y Z,OX Y k Z] (λy4 dg hL=>?_))))))
  have cU:bS y4 Z Y:=hI.at rfl rfl hL
  replace hI:=hI.le dg
  replace hbs:=hbs.le dg
  replace hle0:=hle0.trans dg
  exact rB _ [A_ 2 b2 12] [0] hle0 (⟨Y,by rw [SL p6]<;>rfl,rfl,by rw [SL p6];exact cU⟩)
 refine KX (ah.seq (rQ (jQ 4 [17,18] [(2,a_ 4 b1),(3,A_ 4 b1 12)] (jU (pre:=[ef Y Z,dP Y Z,OX Y k Z]) [0,1,2] [0,1,2,3,4,5] (.int .i64 ↑(cW Z.ns Z.ns.length)) (Ev hI rfl rfl (λ_ _ h=>Ll Z Y h hC.toRB)) (jQ 2 [9] [(0,w_ (.int .i64 ((Z.cB-((cW Z.ns Z.ns.length):Int)))) (vW rfl (by have:=hC.cap;have:=hC.dat;omega) (by have:=hC.cap;omega)))] (NQ (NX (SQ (jK 2 [22] [] (NN (cP (((Z.cB-((cW Z.ns Z.ns.length):Int)):Int)<=(0:Int)) (λyH=>?_) (λyH=>?_))))))))))))
 ·refine SR (jC 4 [7,8] [(0,A_ 4 b1 12),(1,A_ 5 b2 12)] [(5,(zC (rV Z Y)))] (NN (ah.ret (aj.aG (aj.bD [0,1,2] [ef Y Z,dP Y Z,OX Y k Z] (λCe fL hL=>?_))))))
  have cU:bS Ce Z Y:=hI.at rfl rfl hL
  replace hI:=hI.le fL
  replace hbs:=hbs.le fL
  replace hle0:=hle0.trans fL
  exact rB _ [A_ 2 b2 12] [0] hle0 (⟨Y,by rw [SM p6 yH]<;>rfl,rfl,by rw [SM p6 yH];exact cU⟩)
 refine KX (SR (jK 3 [10] [] (NN (ah.join (λ(u:Unit)=>True) (λ(u:Unit)=>[(1,vI ↑k),(2,.slice dA (bs.length) (dC)),(3,vP b1),(6,vP b2),(10,vI ↑(iy Z bs))]) (λ(u:Unit)=>([ef Y Z,dP Y Z,OX Y k Z,.abs R]++mq b1 Z Y b2)) ?_ (SR (jK 3 [28] [] (NN (cP ((((bs.length:Nat):Int):Int)>((Z.cB-((cW Z.ns Z.ns.length):Int)):Int)) (λsU=>ah.region (jK 2 [10] [] (NL (aj.slot 10 (.int .i64 ((Z.cB-((cW Z.ns Z.ns.length):Int)))) (.int .i64 ↑(iy Z bs)) (λ_=>by kernel_rfl) (congrArg (Value.int .i64) (by unfold iy;omega)) (mJ () [0,1,2,3,4,5] (trivial)))))) (λsU=>ah.skip (aj.slot 10 (.int .i64 ↑bs.length) (.int .i64 ↑(iy Z bs)) (λ_=>by kernel_rfl) (congrArg (Value.int .i64) (by unfold iy;omega)) (mJ () [0,1,2,3,4,5] (trivial))))))))))))
 rintro u _
 refine ah.seq ?_
 have hml:(bs.take (iy Z bs)).length=iy Z bs:=by grind [iy]
 have hdk:=LA (ns:=Z.ns) Z.ns.length hk
 have hmb:iy Z bs<=bs.length:=by unfold iy;omega
 have hmr:(iy Z bs:Int)<=Z.cB-(cW Z.ns Z.ns.length:Int):=by unfold iy;omega
 have hcb:=hC.cap
 refine ah.oZ 0 rfl (by omega) (λjc=>?_)
 refine jM [0,1,2,3,4,5,6,7,8,9,10,11,12,13,514,15,16,517] [4,0] (jG 14 [1,3,6,10,32,33,40,43] [(2,a_ 0 b1),(6,a_ 0 b1),(8,x_ k Z.ns.length (jc)),(10,v_ 1 (nA Z.ns Y.L Y.A Y.c k 7 hk rfl)),(13,xP (iy Z bs) ((iy Z bs)<=dC))] (eM.cut (ι:=(Option Addr)×Nat) (fr':=λ((A5,c6):(Option Addr)×Nat)=>[(1,vI ↑k),(3,vP b1),(6,vP b2),(10,vI ↑(iy Z bs)),(32,.slice Y.A (Z.ns.length) (Y.c)),(33,vI ↑k),(44,.slice A5 (((nd Z.ns k).data++bs.take (iy Z bs)).length) (c6))]) (hp':=λ((A5,c6):(Option Addr)×Nat)=>([ef Y Z,dP Y Z,.abs (aq 5 1 A5 (((nd Z.ns k).data++bs.take (iy Z bs)).length) c6 (bY ((nd Z.ns k).data++bs.take (iy Z bs)))),.abs R]++mq b1 Z Y b2)) [4,0] (by kernel_rfl) ?_ rfl (λ_=>by kernel_rfl) ?_))
 ·exact Rc 2 46 dA (iy Z bs) dC (bY (bs.take (iy Z bs))) rfl ((aW.take hbs (iy Z bs)).src) (λA5 c6=>ai.bL 2 rfl (SK hml) (sl 44 (.slice A5 (((nd Z.ns k).data.length)+(iy Z bs)) (c6)) (.slice A5 (((nd Z.ns k).data++bs.take (iy Z bs)).length) (c6)) (by rw [OV hml]) (NL (MD (A5,c6) [1,3,6,10,32,33,44] [0,1,2,3,4,5])))) (hl:=by rw [sD,hml,Nat.mul_one]) (h1:=o7 _)
 rintro⟨A5,c6⟩
 refine jG 2 [1,3,6,10,44,46] [(0,x_ k Z.ns.length (jc))] (eM.last (by kernel_rfl) (ai.vQ 0 (k*10+7) (d:=none) (T:=46) (e:=75) (size:=10) (n:=Z.ns.length) (cap:=Y.c) (A:=Y.A) (xs:=(aJ Y.L Z.ns)) (u:=.slice A5 (((nd Z.ns k).data++bs.take (iy Z bs)).length) (c6)) (a:=(.tmp 46)) (y:=(.tmp 44)) (λ_=>by kernel_rfl) (by kernel_rfl) (λ_=>by kernel_rfl) (λ_=>by kernel_rfl) (by kernel_rfl) rfl (by omega) (by rw [kK];omega) (NL (aj.np (NX (SR (jK 9 [53,55] [(2,a_ 4 b1),(6,A_ 4 b1 2),(7,x_ k Z.ns.length (jc))] (ai.zW 0 (k*10+5) (d:=none) (T:=26) (e:=75) (size:=10) (n:=Z.ns.length) (cap:=Y.c) (A:=Y.A) (xs:=((aJ Y.L Z.ns).set (k*10+7) (.slice A5 (((nd Z.ns k).data++bs.take (iy Z bs)).length) (c6)))) (u:=.int .i64 (Z.cS)) (u2:=.int .i64 (Z.cZ)) (a:=(.tmp 55)) (y:=(.tmp 53)) (λ_=>by kernel_rfl) (by kernel_rfl) (λ_=>by kernel_rfl) (λ_=>by kernel_rfl) (by kernel_rfl) rfl rfl (by omega) (by rw [List.length_set,kK];omega) (ai.bL 0 rfl (Ys hk rfl) (NS (jC 5 [7,8] [(0,A_ 4 b1 12),(2,A_ 5 b2 12)] [(5,(zC (rV Z Y)))] (NN (ah.ret (aj.bD [0,1,2] [.abs (aq 75 10 Y.A ((C3 Z k bs).ns.length) Y.c (aJ (Y.L.dat k A5 c6) (C3 Z k bs).ns)),dP Y Z,.abs (aq 5 1 A5 (((nd Z.ns k).data++bs.take (iy Z bs)).length) c6 (bY ((nd Z.ns k).data++bs.take (iy Z bs))))] (λOY lg hL=>?_)))))))))))))))
 have cU:bS OY (C3 Z k bs) ⟨Y.A,Y.c,(Y.L.dat k A5 c6),Y.G,Y.cg,Y.H,Y.ch,Y.V,Y.cv⟩:=(hI.set (R':=C3 Z k bs) hk rfl rfl rfl).at VD.symm (by show _=(nd (Z.ns.set k _) k).data;rw [nG hk,if_pos rfl]) hL
 replace hI:=hI.le lg
 replace hbs:=hbs.le lg
 replace hle0:=hle0.trans lg
 exact rB (.tuple #[.agg ⟨rV Z Y⟩,vI ↑(iy Z bs),vI 0]) [A_ 2 b2 12] [0] hle0 (⟨⟨Y.A,Y.c,(Y.L.dat k A5 c6),Y.G,Y.cg,Y.H,Y.ch,Y.V,Y.cv⟩,by grind [rV,SN,C3,iy],rfl,by rw [SN p6 yH];exact cU⟩)
theorem uL {β:Bs} (Z:RS) (Y:RL) (hI:jl β Z Y.L Y.H Y.V) (hC:RC Z) {n:Nat} (hD:RD n Z) (hn:n<=7) (d:Nat) (hd:d<Z.ns.length) (name:ByteArray) (x:au) (hxd:x.data=[]) (I8:x.af=[]) (Iw:x.target.size<=1048576) :
 bV Tryz.prog β 63 #[.agg ⟨rV Z Y⟩,vI (((d:Nat):Int)),.string name,.agg #[vI (x.id),vI (x.kind),vI (x.mode),vI (x.uid),vI (x.gid),vI (x.sec),vI (x.nano),.slice none (0) (0),.string x.target,.slice none (0) (0)]] [ef Y Z,dP Y Z] (λβ' v l=>∃A' c' L',v=.tuple #[.agg ⟨rW ((aL Z d name x).1) A' c' Y.G Y.cg Y.H Y.ch Y.V Y.cv⟩,vI (aL Z d name x).2]/\l=[.abs (aq 75 10 A' ((aL Z d name x).1.ns.length) c' (aJ L' (aL Z d name x).1.ns)),.abs (aq 3 1 Y.G ((aL Z d name x).1.gone.length) Y.cg (ints (aL Z d name x).1.gone))]/\jl β' (aL Z d name x).1 L' Y.H Y.V/\(((aL Z d name x).2=0/\L'.dA Z.ns.length=none/\L'.dC Z.ns.length=0)\/((aL Z d name x).2≠0/\A'=Y.A/\c'=Y.c/\L'=Y.L))):=by
 refine o6 Tryz.func63 Tryz.ntmps63 (λhle0 R=>SR (jB 1 [4] (λb8=>.blk b8 (rV Z Y) 42) (λb8=>jB 1 [7] (λb9=>.blk b9 [vI (x.id),vI (x.kind),vI (x.mode),vI (x.uid),vI (x.gid),vI (x.sec),vI (x.nano),.slice none (0) (0),.string x.target,.slice none (0) (0)] 75) (λb9=>jB 2 [8] (λb10=>.blk b10 (rZ) 42) (λb10=>NN (ah.join (λ(u:Unit)=>(¬(x.kind=3/\iP x.target≠0))) (λ(u:Unit)=>[(1,vI ↑d),(2,.string name),(4,vP b8),(7,vP b9),(8,vP b10)]) (λ(u:Unit)=>[ef Y Z,dP Y Z,.abs R,.blk b8 (rV Z Y) 42,.blk b9 [vI (x.id),vI (x.kind),vI (x.mode),vI (x.uid),vI (x.gid),vI (x.sec),vI (x.nano),.slice none (0) (0),.string x.target,.slice none (0) (0)] 75,.blk b10 (rZ) 42]) ?_ (SR (jK 3 [13] [(1,a_ 4 b9)] (NN (cP ((x.kind:Int)=(3:Int)) (λp6=>SR (jK 2 [15] [(1,a_ 4 b9)] (gE [] (Vy x.target Iw) (jK 1 [10] [] (NS (jK 2 [18] [] (NN (cN (((iP x.target):Int)=(0:Int)) (λmF=>SR (jC 4 [9] [(0,A_ 3 b8 12),(2,A_ 5 b10 12)] [(5,(zC (rV Z Y)))] (eO [A_ 5 b10 12] hle0 ⟨Y.A,Y.c,Y.L,by rw [F5 p6 mF]<;>rfl,by rw [F5 p6 mF],by rw [F5 p6 mF];exact hI,.inr (by rw [F5 p6 mF];exact⟨mF,rfl,rfl,rfl⟩)⟩))) (λmF=>ah.skip (mJ () [0,1,2,3,4,5] (λq=>q.2 (by omega)))))))))))) (λp6=>ah.skip (mJ () [0,1,2,3,4,5] (λq=>p6 q.1)))))))))))))
 rintro u hb
 refine SQ (jK 3 [21,22,23] [(0,A_ 3 b8 12)] ?_)
 rcases iD Z.ns d name with hl|⟨k,hl,hk⟩
 ·refine gE [0,1] ((cA hI (λ_ _ h=>gD Z Y h hC d hd name)).val (congrArg (Value.int .i64) hl)) (jK 1 [25] [] (NF (KX (SQ (jK 1 [27] [(0,A_ 3 b8 12)] (gE [0,1] (cA hI (λ_ _ h=>Vx Z Y h hC.toRB)) (jK 1 [29] [] (NN (cN (sI Z) (λsU=>SR (jC 3 [9] [(0,A_ 3 b8 12),(1,A_ 5 b10 12)] [(5,(zC (rV Z Y)))] (eO [A_ 5 b10 12] hle0 ⟨Y.A,Y.c,Y.L,by rw [C4 hb hl sU]<;>rfl,by rw [C4 hb hl sU],by rw [C4 hb hl sU];exact hI,.inr (by rw [C4 hb hl sU];exact⟨(show (177:Int)≠0 by decide),rfl,rfl,rfl⟩)⟩))) (λsU=>KX (SR (jK 4 [31,32,33,34] [(0,A_ 3 b8 12),(3,A_ 4 b9 10)] (jE [0,1] (Yr Z Y hI hD (by omega) ⟨hC.cap.2.2.2.2.2.2.1,sU.2.1⟩ d hd name x hxd I8) ?_)))))))))))))
  rintro β1 _ _ aF ⟨A1,c1,L1,rfl,rfl,bn,hnd⟩
  replace hI:=hI.le aF
  replace hle0:=hle0.trans aF
  exact jC 2 [9] [(0,A_ 5 b10 12)] [(5,(zC (rW (gV Z d name x) A1 c1 Y.G Y.cg Y.H Y.ch Y.V Y.cv)))] (eO [A_ 5 b10 12] hle0 ⟨A1,c1,L1,by rw [JV hb hl sU]<;>rfl,by rw [JV hb hl sU],by rw [JV hb hl sU];exact bn,.inl (by rw [JV hb hl sU];exact⟨rfl,hnd⟩)⟩)
 exact gE [0,1] ((cA hI (λ_ _ h=>gD Z Y h hC d hd name)).val (congrArg (Value.int .i64) hl)) (jK 1 [25] [(0,wT (((k:Int):Int)>=(0:Int)))] (NT (SR (jC 3 [9] [(0,A_ 3 b8 12),(1,A_ 5 b10 12)] [(5,(zC (rV Z Y)))] (eO [A_ 5 b10 12] hle0 ⟨Y.A,Y.c,Y.L,by rw [JU hb hl]<;>rfl,by rw [JU hb hl],by rw [JU hb hl];exact hI,.inr (by rw [JU hb hl];exact⟨(show (171:Int)≠0 by decide),rfl,rfl,rfl⟩)⟩)))))
theorem xT {β:Bs} (Z:RS) (Y:RL) (hI:jl β Z Y.L Y.H Y.V) (hC:RC Z) {n:Nat} (hD:RD n Z) (hn:n<=7) (d:Nat) (hd:d<Z.ns.length) (name:ByteArray) (dir:Bool) :
 bV Tryz.prog β 65 #[.agg ⟨rV Z Y⟩,vI (((d:Nat):Int)),.string name,.bool dir] [ef Y Z,dP Y Z] (λβ' v l=>∃Y',v=.tuple #[.agg ⟨rV ((eW Z d name dir).1) Y'⟩,vI (eW Z d name dir).2]/\l=[]/\bS β' (eW Z d name dir).1 Y'):=by
 refine o6 Tryz.func65 Tryz.ntmps65 (λhle0 R=>SR (jB 1 [4] (λb11=>.blk b11 (rV Z Y) 42) (λb11=>jB 2 [8] (λb12=>.blk b12 (rZ) 42) (λb12=>NS (jK 3 [11,12,13] [(0,A_ 3 b11 12)] ?_)))))
 rcases iD Z.ns d name with hl|⟨k,hl,hk⟩
 ·refine gE [0,1] ((cA hI (λ_ _ h=>gD Z Y h hC d hd name)).val (congrArg (Value.int .i64) hl)) (jK 1 [10] [] (NZ (jK 2 [16] [] (NT (SR (jC 3 [9] [(0,A_ 3 b11 12),(1,A_ 4 b12 12)] [(4,(zC (rV Z Y)))] (NN (ah.ret (aj.aG (aj.bD [0,1] [ef Y Z,dP Y Z] (λEA lC hL=>?_)))))))))))
  have cU:bS EA Z Y:=hI.at hL
  replace hI:=hI.le lC
  replace hle0:=hle0.trans lC
  exact rB _ [A_ 2 b12 12] [0] hle0 (⟨Y,by rw [W7 hl]<;>rfl,rfl,by rw [W7 hl];exact cU⟩)
 refine ai.oZ 0 rfl (by omega) (λjc=>gE [0,1] ((cA hI (λ_ _ h=>gD Z Y h hC d hd name)).val (congrArg (Value.int .i64) hl)) (jK 1 [10] [] (NZ (jK 2 [16] [(1,wF (((k:Int):Int)<(0:Int)))] (NF (KX (ah.join (λ(u:Unit)=>(¬(dir=false/\(nd Z.ns k).kind=2))) (λ(u:Unit)=>([(1,vI ↑d),(2,.string name),(3,.bool dir)]++zU2 b11 b12++[(10,vI ↑k)])) (λ(u:Unit)=>([ef Y Z,dP Y Z,.abs R]++mq b11 Z Y b12)) ?_ ?_)))))))
 ·rintro u n1
  refine ah.join (λ(u:Unit)=>(¬(dir=true/\(nd Z.ns k).kind≠2))) (λ(u:Unit)=>([(1,vI ↑d),(2,.string name),(3,.bool dir)]++zU2 b11 b12++[(10,vI ↑k)])) (λ(u:Unit)=>([ef Y Z,dP Y Z,.abs R]++mq b11 Z Y b12)) ?_ ?_
  ·rintro u n2
   refine ah.join (λ(u:Unit)=>(¬(dir=true/\0<(nd Z.ns k).af.length))) (λ(u:Unit)=>([(1,vI ↑d),(2,.string name)]++zU2 b11 b12)) (λ(u:Unit)=>([ef Y Z,dP Y Z,.abs R]++mq b11 Z Y b12)) ?_ ?_
   ·rintro u n3
    refine SR (jK 3 [56,57,58] [(0,A_ 3 b11 12)] (jE [0,1] (xS Z Y hI hD (by omega) d hd name true) ?_))
    rintro β1 _ _ aF ⟨L1,G1,g1,rfl,rfl,bn⟩
    replace hI:=hI.le aF
    replace hle0:=hle0.trans aF
    refine ai.bD [0,1] [.abs (aq 75 10 Y.A ((bC Z d name true).ns.length) Y.c (aJ L1 (bC Z d name true).ns)),.abs (aq 3 1 G1 ((bC Z d name true).gone.length) g1 (ints (bC Z d name true).gone))] (λkI cC hL=>?_)
    have qg:bS kI (bC Z d name true) ⟨Y.A,Y.c,L1,G1,g1,Y.H,Y.ch,Y.V,Y.cv⟩:=bn.at hL
    replace hI:=hI.le cC
    replace bn:=bn.le cC
    replace hle0:=hle0.trans cC
    refine jE [] (uJ (bC Z d name true) ⟨Y.A,Y.c,L1,G1,g1,Y.H,Y.ch,Y.V,Y.cv⟩ qg ((hD.OJ hd).rb (by omega))) ?_
    rintro y4 _ _ dg ⟨Y3,rfl,rfl,jd⟩
    replace hI:=hI.le dg
    replace bn:=bn.le dg
    replace qg:=qg.le dg
    replace hle0:=hle0.trans dg
    exact jC 2 [9] [(0,A_ 2 b12 12)] [(2,(zC (rV (dF (bC Z d name true)) Y3)))] (eO [A_ 2 b12 12] hle0 ⟨Y3,by rw [aaf hl n1 n2 n3]<;>rfl,rfl,by rw [aaf hl n1 n2 n3];exact jd⟩)
   refine SR (jK 2 [44] [] (ai.mA 44 dir (λ_=>by kernel_rfl) (λuY=>jK 10 [54] [(2,a_ 3 b11),(4,x_ k Z.ns.length (jc)),(6,v_ 0 (nA Z.ns Y.L Y.A Y.c k 9 hk rfl))] (NN (cP (((((nd Z.ns k).af.length:Nat):Int):Int)>(0:Int)) (λF8=>SR (jC 3 [9] [(0,A_ 3 b11 12),(1,A_ 4 b12 12)] [(4,(zC (rV Z Y)))] (NN (ah.ret (aj.aG (aj.bD [0,1] [ef Y Z,dP Y Z] (λEB mr hL=>?_))))))) (λF8=>ah.skip (mJ () [0,1,2,3,4] ((λq=>F8 (by omega)))))))) (λuY=>jK 10 [54] [] (NF (ah.skip (mJ () [0,1,2,3,4] ((λq=>by rw [q.1] at uY;cases uY))))))))
   have cU:bS EB Z Y:=hI.at hL
   replace hI:=hI.le mr
   replace hle0:=hle0.trans mr
   exact rB (.tuple #[.agg ⟨rV Z Y⟩,vI 178]) [A_ 2 b12 12] [0] hle0 (⟨Y,by grind [aae],rfl,by grind [aae]⟩)
  refine SR (jK 2 [32] [] (ai.mA 32 dir (λ_=>by kernel_rfl) (λo8=>jK 9 [41] [(2,a_ 3 b11),(4,x_ k Z.ns.length (jc)),(6,v_ 0 (nA Z.ns Y.L Y.A Y.c k 1 hk rfl))] (NN (cN (((nd Z.ns k).kind:Int)=(2:Int)) (λDI=>SR (jC 3 [9] [(0,A_ 3 b11 12),(1,A_ 4 b12 12)] [(4,(zC (rV Z Y)))] (NN (ah.ret (aj.aG (aj.bD [0,1] [ef Y Z,dP Y Z] (λEC mw hL=>?_))))))) (λDI=>ah.skip (mJ () [0,1,2,3,4] ((λq=>q.2 DI))))))) (λo8=>jK 9 [41] [] (NF (ah.skip (mJ () [0,1,2,3,4] ((λq=>by rw [q.1] at o8;cases o8))))))))
  have cU:bS EC Z Y:=hI.at hL
  replace hI:=hI.le mw
  replace hle0:=hle0.trans mw
  exact rB _ [A_ 2 b12 12] [0] hle0 (⟨Y,by rw [aad hl n1 ⟨o8,DI⟩]<;>rfl,rfl,by grind [aad]⟩)
 refine SR (jK 3 [20] [] (ai.mA 20 (!dir) (λ_=>by kernel_rfl) (λnS=>jK 9 [29] [(2,a_ 3 b11),(4,x_ k Z.ns.length (jc)),(6,v_ 0 (nA Z.ns Y.L Y.A Y.c k 1 hk rfl))] (NN (cP (((nd Z.ns k).kind:Int)=(2:Int)) (λyZ=>SR (jC 3 [9] [(0,A_ 3 b11 12),(1,A_ 4 b12 12)] [(4,(zC (rV Z Y)))] (NN (ah.ret (aj.aG (aj.bD [0,1] [ef Y Z,dP Y Z] (λVI wU hL=>?_))))))) (λyZ=>ah.skip (mJ () [0,1,2,3,4] ((λq=>yZ q.2))))))) (λnS=>jK 9 [29] [] (NF (ah.skip (mJ () [0,1,2,3,4] ((λq=>by rw [q.1] at nS;cases nS))))))))
 have cU:bS VI Z Y:=hI.at hL
 replace hI:=hI.le wU
 replace hle0:=hle0.trans wU
 exact rB (.tuple #[.agg ⟨rV Z Y⟩,vI 172]) [A_ 2 b12 12] [0] hle0 (⟨Y,by grind [aac],rfl,by grind [aac]⟩)
end
section
open Go.RowKit Go.Maps aR ak
attribute [local irreducible] ai aQ ah aj eM
noncomputable abbrev zV1 (A1:Option Addr) (Z) (d:Nat) (c:aD) (x:au) (c1:Nat) (L1):=(.abs (aq 75 10 A1 ((aL Z d c.name x).1.ns.length) c1 (aJ L1 (aL Z d c.name x).1.ns)):HP)
noncomputable abbrev zV2 (Y:RL) (Z) (d:Nat) (c:aD) (x:au):=(.abs (aq 3 1 Y.G ((aL Z d c.name x).1.gone.length) Y.cg (ints (aL Z d c.name x).1.gone)):HP)
noncomputable abbrev zV3 (f:Nat) (name) (to:Nat) (toName) (b1:Nat) (b2:Nat):=([(1,vI ↑f),(2,.string name),(3,vI ↑to),(4,.string toName),(5,vP b1),(10,vP b2)]:Fr)
noncomputable abbrev zV4 (Y:RL) (Z1) (f:Nat) (name) (to:Nat) (toName) (Z:RS) (k:Nat) (L3) (G2) (g2):=([.abs (aq 75 10 Y.A ((bE (bC Z1 f name false) to toName (nd Z.ns k).id).ns.length) Y.c (aJ L3 (bE (bC Z1 f name false) to toName (nd Z.ns k).id).ns)),.abs (aq 3 1 G2 ((bE (bC Z1 f name false) to toName (nd Z.ns k).id).gone.length) g2 (ints (bE (bC Z1 f name false) to toName (nd Z.ns k).id).gone))]:List HP)
noncomputable abbrev zV5 (b1:Nat) (Z1:RS) (Y:RL) (G1) (g1) (b2:Nat) (L1):=([.blk b1 (rW Z1 Y.A Y.c G1 g1 Y.H Y.ch Y.V Y.cv) 42,.blk b2 (rZ) 42,.abs (aq 75 10 Y.A Z1.ns.length Y.c (aJ L1 Z1.ns)),.abs (aq 3 1 G1 Z1.gone.length g1 (ints Z1.gone))]:List HP)
theorem Jb {β:Bs} (Z:RS) (Y:RL) (hI:jl β Z Y.L Y.H Y.V) (hC:RC Z) {n:Nat} (hD:RD n Z) (hn:n<=4) (f:Nat) (hf:f<Z.ns.length) (name:ByteArray) (to:Nat) (hto:to<Z.ns.length) (toName:ByteArray) :
 bV Tryz.prog β 66 #[.agg ⟨rV Z Y⟩,vI (((f:Nat):Int)),.string name,vI (((to:Nat):Int)),.string toName] [ef Y Z,dP Y Z] (λβ' v l=>∃Y',v=.tuple #[.agg ⟨rV ((d9 Z f name to toName).1) Y'⟩,vI (d9 Z f name to toName).2]/\l=[]/\bS β' (d9 Z f name to toName).1 Y'):=by
 refine o6 Tryz.func66 Tryz.ntmps66 (λhle0 R=>SR (jB 1 [5] (λb1=>.blk b1 (rV Z Y) 42) (λb1=>jB 2 [10] (λb2=>.blk b2 (rZ) 42) (λb2=>NS (jK 3 [16,17,18] [(0,A_ 3 b1 12)] ?_)))))
 rcases iD Z.ns f name with hl|⟨k,hl,hk⟩
 ·refine gE [0,1] ((cA hI (λ_ _ h=>gD Z Y h hC f hf name)).val (congrArg (Value.int .i64) hl)) (jK 1 [12] [] (NZ (jK 2 [21] [] (NT (SR (jC 3 [11] [(0,A_ 3 b1 12),(1,A_ 4 b2 12)] [(4,(zC (rV Z Y)))] (NN (ah.ret (aj.aG (aj.bD [0,1] [ef Y Z,dP Y Z] (λy4 dg hL=>?_)))))))))))
  have cU:bS y4 Z Y:=hI.at hL
  replace hI:=hI.le dg
  replace hle0:=hle0.trans dg
  exact rB _ [A_ 2 b2 12] [0] hle0 (⟨Y,by rw [aam hl]<;>rfl,rfl,by rw [aam hl];exact cU⟩)
 refine ai.oZ 0 rfl (by omega) (λjc=>gE [0,1] ((cA hI (λ_ _ h=>gD Z Y h hC f hf name)).val (congrArg (Value.int .i64) hl)) (jK 1 [12] [] (NZ (jK 2 [21] [(1,wF (((k:Int):Int)<(0:Int)))] (NF (KX (SR (jK 9 [13] [(2,a_ 3 b1),(4,x_ k Z.ns.length (jc)),(6,v_ 0 (nA Z.ns Y.L Y.A Y.c k 1 hk rfl))] (NN (ah.join (λ(u:Unit)=>(¬((nd Z.ns k).kind=2/\gu Z.ns k (Z.ns.length+1) to=true))) (λ(u:Unit)=>(zV3 f name to toName b1 b2++[(12,vI ↑k),(13,.bool (decide (((nd Z.ns k).kind:Int)=(2:Int))))])) (λ(u:Unit)=>[ef Y Z,dP Y Z,.abs R,.blk b1 (rV Z Y) 42,.blk b2 (rZ) 42]) ?_ ?_))))))))))
 ·rintro u n1
  refine SR (jK 3 [39,40,41] [(0,A_ 3 b1 12)] ?_)
  rcases iD Z.ns to toName with hl2|⟨t,hl2,ht⟩
  ·refine gE [0,1] ((cA hI (λ_ _ h=>gD Z Y h hC to hto toName)).val (congrArg (Value.int .i64) hl2)) (jK 1 [14] [] (NS (jK 8 [15] [(2,a_ 3 b1),(4,x_ k Z.ns.length (jc)),(6,v_ 0 (nA Z.ns Y.L Y.A Y.c k 0 hk rfl))] (NZ (jK 3 [52] [] (NN (cP (((-1):Int)=(((k:Nat):Int):Int)) (λxu=>absurd xu (by omega)) (λxu=>KX (ah.W5 (ι:=Bs×RS×Lay×(Option Addr)×Nat) (λ(b,Z1,L1,G1,g1)=>b) (λ(b,Z1,L1,G1,g1)=>(β.le b)/\(jl b Z1 L1 Y.H Y.V)/\(RD (n+1) Z1)/\(Z1.ns.length=Z.ns.length)/\((d9 Z f name to toName)=(wS Z f name to toName k Z1,0))) (λ(b,Z1,L1,G1,g1)=>(zV3 f name to toName b1 b2++[(15,vI ((nd Z.ns k).id))])) (λ(b,Z1,L1,G1,g1)=>(zV5 b1 Z1 Y G1 g1 b2 L1++[.abs R])) ?_ (SR (jK 2 [55] [] (NF (ah.skip (aj.W6 (β,Z,Y.L,Y.G,Y.cg) rfl (idx:=[1,2,3,4,5,10,15]) (pk:=[3,4,0,1,2]) (⟨hle0,hI,(hD.up (by omega)),rfl,acg hl n1 hl2⟩) (λ_=>by kernel_rfl) rfl (by kernel_rfl)))))))))))))))
   rintro⟨b,Z1,L1,G1,g1⟩ ⟨hle0,bn,yE,hz1,Ta⟩
   refine SR (jK 3 [71,72,73] [(0,A_ 0 b1 12)] (jE [2,3] (xS Z1 ⟨Y.A,Y.c,L1,G1,g1,Y.H,Y.ch,Y.V,Y.cv⟩ bn yE (by omega) f (by omega) name false) ?_))
   rintro kI _ _ cC ⟨L2,G2,g2,rfl,rfl,su⟩
   replace hle0:=hle0.trans cC
   refine jC 1 [] [(0,A_ 2 b1 12)] [(2,(zC (rW (bC Z1 f name false) Y.A Y.c G2 g2 Y.H Y.ch Y.V Y.cv)))] (NS (jK 4 [75,76,77,78] [(0,A_ 2 b1 12)] (jE [0,1] (xR (bC Z1 f name false) ⟨Y.A,Y.c,L2,G2,g2,Y.H,Y.ch,Y.V,Y.cv⟩ su ((yE.OJ (by omega)).rb (by omega)) to (by rw [r9];omega) toName (nd Z.ns k).id) ?_)))
   rintro y4 _ _ dg ⟨L3,rfl,rfl,y5⟩
   replace su:=su.le dg
   replace hle0:=hle0.trans dg
   refine jC 1 [] [(0,A_ 2 b1 12)] [(2,(zC (rW (bE (bC Z1 f name false) to toName (nd Z.ns k).id) Y.A Y.c G2 g2 Y.H Y.ch Y.V Y.cv)))] (NS (ai.bD [0,1] (zV4 Y Z1 f name to toName Z k L3 G2 g2) (λCe fL hL=>?_)))
   have jd:bS Ce (bE (bC Z1 f name false) to toName (nd Z.ns k).id) ⟨Y.A,Y.c,L3,G2,g2,Y.H,Y.ch,Y.V,Y.cv⟩:=y5.at hL
   replace su:=su.le fL
   replace y5:=y5.le fL
   replace hle0:=hle0.trans fL
   refine jK 1 [80] [(0,A_ 0 b1 12)] (jE [] (uJ (bE (bC Z1 f name false) to toName (nd Z.ns k).id) ⟨Y.A,Y.c,L3,G2,g2,Y.H,Y.ch,Y.V,Y.cv⟩ jd (((yE.OJ (by omega)).ent (by rw [r9];omega)).rb (by omega))) ?_)
   rintro LI _ _ iE ⟨Y5,rfl,rfl,hR5⟩
   replace su:=su.le iE
   replace y5:=y5.le iE
   replace jd:=jd.le iE
   replace hle0:=hle0.trans iE
   exact jC 2 [11] [(0,A_ 1 b2 12)] [(1,(zC (rV (dF (bE (bC Z1 f name false) to toName (nd Z.ns k).id)) Y5)))] (eO [A_ 1 b2 12] hle0 ⟨Y5,by rw [Ta]<;>rfl,rfl,by rw [Ta];exact hR5⟩ [2])
  refine gE [0,1] ((cA hI (λ_ _ h=>gD Z Y h hC to hto toName)).val (congrArg (Value.int .i64) hl2)) (jK 1 [14] [] (NS (jK 8 [15] [(2,a_ 3 b1),(4,x_ k Z.ns.length (jc)),(6,v_ 0 (nA Z.ns Y.L Y.A Y.c k 0 hk rfl))] (NZ (jK 3 [52] [] (NN (cP ((((t:Nat):Int):Int)=(((k:Nat):Int):Int)) (λxu=>?_) (λxu=>?_))))))))
  ·refine SR (jC 3 [11] [(0,A_ 3 b1 12),(1,A_ 4 b2 12)] [(4,(zC (rV Z Y)))] (NN (ah.ret (aj.aG (aj.bD [0,1] [ef Y Z,dP Y Z] (λCe fL hL=>?_))))))
   have cU:bS Ce Z Y:=hI.at hL
   replace hI:=hI.le fL
   replace hle0:=hle0.trans fL
   exact rB (.tuple #[.agg ⟨rV Z Y⟩,vI 0]) [A_ 2 b2 12] [0] hle0 (⟨Y,by grind [aao],rfl,by grind [aao]⟩)
  refine KX (ah.W5 (ι:=Bs×RS×Lay×(Option Addr)×Nat) (λ(b,Z1,L1,G1,g1)=>b) (λ(b,Z1,L1,G1,g1)=>(β.le b)/\(jl b Z1 L1 Y.H Y.V)/\(RD (n+1) Z1)/\(Z1.ns.length=Z.ns.length)/\((d9 Z f name to toName)=(wS Z f name to toName k Z1,0))) (λ(b,Z1,L1,G1,g1)=>(zV3 f name to toName b1 b2++[(15,vI ((nd Z.ns k).id))])) (λ(b,Z1,L1,G1,g1)=>(zV5 b1 Z1 Y G1 g1 b2 L1++[.abs R])) ?_ ?_)
  ·rintro⟨b,Z1,L1,G1,g1⟩ ⟨hle0,bn,yE,hz1,Ta⟩
   refine SR (jK 3 [71,72,73] [(0,A_ 0 b1 12)] (jE [2,3] (xS Z1 ⟨Y.A,Y.c,L1,G1,g1,Y.H,Y.ch,Y.V,Y.cv⟩ bn yE (by omega) f (by omega) name false) ?_))
   rintro kI _ _ cC ⟨L2,G2,g2,rfl,rfl,su⟩
   replace hle0:=hle0.trans cC
   refine jC 1 [] [(0,A_ 2 b1 12)] [(2,(zC (rW (bC Z1 f name false) Y.A Y.c G2 g2 Y.H Y.ch Y.V Y.cv)))] (NS (jK 4 [75,76,77,78] [(0,A_ 2 b1 12)] (jE [0,1] (xR (bC Z1 f name false) ⟨Y.A,Y.c,L2,G2,g2,Y.H,Y.ch,Y.V,Y.cv⟩ su ((yE.OJ (by omega)).rb (by omega)) to (by rw [r9];omega) toName (nd Z.ns k).id) ?_)))
   rintro y4 _ _ dg ⟨L3,rfl,rfl,y5⟩
   replace su:=su.le dg
   replace hle0:=hle0.trans dg
   refine jC 1 [] [(0,A_ 2 b1 12)] [(2,(zC (rW (bE (bC Z1 f name false) to toName (nd Z.ns k).id) Y.A Y.c G2 g2 Y.H Y.ch Y.V Y.cv)))] (NS (ai.bD [0,1] (zV4 Y Z1 f name to toName Z k L3 G2 g2) (λCe fL hL=>?_)))
   have jd:bS Ce (bE (bC Z1 f name false) to toName (nd Z.ns k).id) ⟨Y.A,Y.c,L3,G2,g2,Y.H,Y.ch,Y.V,Y.cv⟩:=y5.at hL
   replace su:=su.le fL
   replace y5:=y5.le fL
   replace hle0:=hle0.trans fL
   refine jK 1 [80] [(0,A_ 0 b1 12)] (jE [] (uJ (bE (bC Z1 f name false) to toName (nd Z.ns k).id) ⟨Y.A,Y.c,L3,G2,g2,Y.H,Y.ch,Y.V,Y.cv⟩ jd (((yE.OJ (by omega)).ent (by rw [r9];omega)).rb (by omega))) ?_)
   rintro LI _ _ iE ⟨Y5,rfl,rfl,hR5⟩
   replace su:=su.le iE
   replace y5:=y5.le iE
   replace jd:=jd.le iE
   replace hle0:=hle0.trans iE
   exact jC 2 [11] [(0,A_ 1 b2 12)] [(1,(zC (rV (dF (bE (bC Z1 f name false) to toName (nd Z.ns k).id)) Y5)))] (eO [A_ 1 b2 12] hle0 ⟨Y5,by rw [Ta]<;>rfl,rfl,by rw [Ta];exact hR5⟩ [2])
  refine SR (jK 2 [55] [(1,wT (((t:Int):Int)>=(0:Int)))] (NT (SQ (jK 8 [63] [(2,a_ 3 b1),(4,x_ t Z.ns.length (jc)),(6,v_ 0 (nA Z.ns Y.L Y.A Y.c t 1 ht rfl))] (NN (cP (((nd Z.ns t).kind:Int)=(2:Int)) (λh63=>?_) (λh63=>?_)))))))
  ·refine SR (jC 3 [11] [(0,A_ 3 b1 12),(1,A_ 4 b2 12)] [(4,(zC (rV Z Y)))] (NN (ah.ret (aj.aG (aj.aG (aj.bD [0,1] [ef Y Z,dP Y Z] (λLI iE hL=>?_)))))))
   have cU:bS LI Z Y:=hI.at hL
   replace hI:=hI.le iE
   replace hle0:=hle0.trans iE
   exact rB _ [A_ 2 b2 12] [0] hle0 (⟨Y,by rw [aap hl n1 hl2 xu h63]<;>rfl,rfl,by rw [aap hl n1 hl2 xu h63];exact cU⟩)
  refine KX (SQ (jK 1 [65] [] (NN (cP (((nd Z.ns k).kind:Int)=(2:Int)) (λh65=>?_) (λh65=>?_)))))
  ·refine SR (jC 3 [11] [(0,A_ 3 b1 12),(1,A_ 4 b2 12)] [(4,(zC (rV Z Y)))] (NN (ah.ret (aj.aG (aj.aG (aj.bD [0,1] [ef Y Z,dP Y Z] (λLJ pJ hL=>?_)))))))
   have cU:bS LJ Z Y:=hI.at hL
   replace hI:=hI.le pJ
   replace hle0:=hle0.trans pJ
   exact rB _ [A_ 2 b2 12] [0] hle0 (⟨Y,by rw [aaq hl n1 hl2 xu h63 h65]<;>rfl,rfl,by grind [aaq]⟩)
  refine KX (ah.region (jK 3 [67,68,69] [(0,A_ 3 b1 12)] (jE [0,1] (xS Z Y hI hD (by omega) to hto toName true) ?_)))
  rintro β1 _ _ aF ⟨L1,G1,g1,rfl,rfl,bn⟩
  replace hI:=hI.le aF
  replace hle0:=hle0.trans aF
  exact jC 1 [] [(0,A_ 3 b1 12)] [(3,(zC (rW (bC Z to toName true) Y.A Y.c G1 g1 Y.H Y.ch Y.V Y.cv)))] (NL (aj.W6 (β1,(bC Z to toName true),L1,G1,g1) rfl (idx:=[1,2,3,4,5,10,15]) (pk:=[3,4,0,1,2]) (⟨hle0,bn,hD.OJ hto,r9,ach hl n1 hl2 xu h63 h65⟩) (λ_=>by kernel_rfl) rfl (by kernel_rfl)))
 refine SR (jK 2 [32] [] (sP 32 (((nd Z.ns k).kind:Int)=(2:Int)) (λo8=>jK 3 [33,34,35] [(0,A_ 3 b1 12)] (gE [0,1] (cA hI (λ_ _ h=>SA Z Y h hC.toRB to k hto)) (jK 1 [37] [] (NN (ah.cond (b:=(gu Z.ns k (Z.ns.length+1) to)) (λ_=>by kernel_rfl) (λuZ=>SR (jC 3 [11] [(0,A_ 3 b1 12),(1,A_ 4 b2 12)] [(4,(zC (rV Z Y)))] (NN (ah.ret (aj.aG (aj.bD [0,1] [ef Y Z,dP Y Z] (λOY lg hL=>?_))))))) (λuZ=>ah.skip (mJ () [0,1,2,3,4] ((λq=>by rw [q.2] at uZ;cases uZ))))))))) (λo8=>jK 5 [37] [] (NF (ah.skip (mJ () [0,1,2,3,4] ((λq=>o8 q.1))))))))
 have cU:bS OY Z Y:=hI.at hL
 replace hI:=hI.le lg
 replace hle0:=hle0.trans lg
 exact rB _ [A_ 2 b2 12] [0] hle0 (⟨Y,by rw [aan hl ⟨o8,uZ⟩]<;>rfl,rfl,by rw [aan hl ⟨o8,uZ⟩];exact cU⟩)
theorem Jc {β:Bs} (Z:RS) (Y:RL) (hI:jl β Z Y.L Y.H Y.V) (hC:RC Z) (c:aD) (hn:c.name.size<=1048576) (want:Int) :
 bV Tryz.prog β 77 #[.agg ⟨rV Z Y⟩,.agg ⟨aO c⟩,vI (want)] [ef Y Z,dP Y Z] (λβ' v l=>∃Y',v=.tuple #[.agg ⟨rV ((fW Z c want).1) Y'⟩,vI (fW Z c want).2.1,vI (fW Z c want).2.2]/\l=[]/\bS β' (fW Z c want).1 Y'):=by
 refine o6 Tryz.func77 Tryz.ntmps77 (λhle0 R=>SR (jB 1 [3] (λb8=>.blk b8 (rV Z Y) 42) (λb8=>jB 1 [4] (λb9=>.blk b9 (aO c) 48) (λb9=>jB 3 [6] (λb10=>.blk b10 (rZ) 42) (λb10=>NS (jK 5 [14,16,18] [(0,A_ 3 b8 12),(2,a_ 4 b9),(4,a_ 4 b9)] ?_))))))
 rcases oH hC c.handle c.name 64 with ⟨e,h1,Cb⟩|⟨d,h1,hd⟩
 ·refine gE [0,1] ((cA hI (λ_ _ h=>lP Z Y h hC c.handle c.name hn 64)).val (congrArg exV h1)) (jK 5 [9,10] [] (NZ (jK 2 [23] [(1,J8 ((e:Int)=(0:Int)) Cb)] (NT (SR (jC 5 [7,8] [(0,A_ 3 b8 12),(2,A_ 5 b10 12)] [(5,(zC (rV Z Y)))] (NN (ah.ret (aj.aG (aj.bD [0,1] [ef Y Z,dP Y Z] (λLK kG hL=>?_)))))))))))
  have cU:bS LK Z Y:=hI.at hL
  replace hI:=hI.le kG
  replace hle0:=hle0.trans kG
  exact rB _ [A_ 3 b10 12] [0] hle0 (⟨Y,by rw [aag h1]<;>rfl,rfl,by rw [aag h1];exact cU⟩)
 refine gE [0,1] ((cA hI (λ_ _ h=>lP Z Y h hC c.handle c.name hn 64)).val (congrArg exV h1)) (jK 5 [9,10] [] (NZ (jK 2 [23] [(1,w_ (.bool false) rfl)] (NF (KX (SR (jK 4 [26,27,29] [(0,A_ 3 b8 12),(3,a_ 4 b9)] ?_)))))))
 rcases iD Z.ns d c.name with hl|⟨k,hl,hk⟩
 ·refine gE [0,1] ((cA hI (λ_ _ h=>gD Z Y h hC d hd c.name)).val (congrArg (Value.int .i64) hl)) (jK 1 [11] [] (NZ (jK 2 [32] [] (NT (SR (jC 4 [7,8] [(0,A_ 3 b8 12),(1,A_ 5 b10 12)] [(5,(zC (rV Z Y)))] (NN (ah.ret (aj.aG (aj.bD [0,1] [ef Y Z,dP Y Z] (λLM nR hL=>?_)))))))))))
  have cU:bS LM Z Y:=hI.at hL
  replace hI:=hI.le nR
  replace hle0:=hle0.trans nR
  exact rB _ [A_ 3 b10 12] [0] hle0 (⟨Y,by rw [aah h1 hl]<;>rfl,rfl,by rw [aah h1 hl];exact cU⟩)
 refine ai.oZ 0 rfl (by omega) (λjc=>gE [0,1] ((cA hI (λ_ _ h=>gD Z Y h hC d hd c.name)).val (congrArg (Value.int .i64) hl)) (jK 1 [11] [] (NZ (jK 2 [32] [(1,wF (((k:Int):Int)<(0:Int)))] (NF (KX (SR (jK 8 [12] [(2,a_ 3 b8),(4,x_ k Z.ns.length (jc)),(6,v_ 0 (nA Z.ns Y.L Y.A Y.c k 1 hk rfl))] (NZ (jK 2 [42] [] (NN (cP (((nd Z.ns k).kind:Int)=(3:Int)) (λiK=>?_) (λiK=>?_)))))))))))))
 ·refine SR (jC 4 [7,8] [(0,A_ 3 b8 12),(1,A_ 5 b10 12)] [(5,(zC (rV Z Y)))] (NN (ah.ret (aj.aG (aj.bD [0,1] [ef Y Z,dP Y Z] (λEA lC hL=>?_))))))
  have cU:bS EA Z Y:=hI.at hL
  replace hI:=hI.le lC
  replace hle0:=hle0.trans lC
  exact rB _ [A_ 3 b10 12] [0] hle0 (⟨Y,by rw [aai h1 hl iK]<;>rfl,rfl,by rw [aai h1 hl iK];exact cU⟩)
 refine KX (SQ (jK 3 [46] [] (NN (cN (((nd Z.ns k).kind:Int)=(want:Int)) (λh46=>?_) (λh46=>?_)))))
 ·refine SQ (jK 2 [48] [] (NN (cP (((nd Z.ns k).kind:Int)=(1:Int)) (λh48=>?_) (λh48=>?_))))
  ·refine SR (jC 4 [7,8] [(0,A_ 3 b8 12),(1,A_ 5 b10 12)] [(5,(zC (rV Z Y)))] (NN (ah.ret (aj.aG (aj.aG (aj.bD [0,1] [ef Y Z,dP Y Z] (λEB mr hL=>?_)))))))
   have cU:bS EB Z Y:=hI.at hL
   replace hI:=hI.le mr
   replace hle0:=hle0.trans mr
   exact rB _ [A_ 3 b10 12] [0] hle0 (⟨Y,by rw [aaj h1 hl iK h46 h48]<;>rfl,rfl,by rw [aaj h1 hl iK h46 h48];exact cU⟩)
  refine KX (SR (jC 4 [7,8] [(0,A_ 3 b8 12),(1,A_ 5 b10 12)] [(5,(zC (rV Z Y)))] (NN (ah.ret (aj.aG (aj.bD [0,1] [ef Y Z,dP Y Z] (λEC mw hL=>?_)))))))
  have cU:bS EC Z Y:=hI.at hL
  replace hI:=hI.le mw
  replace hle0:=hle0.trans mw
  exact rB _ [A_ 3 b10 12] [0] hle0 (⟨Y,by rw [aak h1 hl iK h46 h48]<;>rfl,rfl,by rw [aak h1 hl iK h46 h48];exact cU⟩)
 refine KX (SR (jK 2 [51,52] [(0,A_ 3 b8 12)] (ai.bD [0,1] [ef Y Z,dP Y Z] (λβ1 aF hL=>?_))))
 have qg:bS β1 Z Y:=hI.at hL
 replace hI:=hI.le aF
 replace hle0:=hle0.trans aF
 refine jE [] (Eu Z Y qg hC.ru k hk) ?_
 rintro kI _ _ cC ⟨Y3,rfl,rfl,jd⟩
 replace hI:=hI.le cC
 replace qg:=qg.le cC
 replace hle0:=hle0.trans cC
 exact jC 6 [7,8] [(3,A_ 3 b10 12)] [(3,(zC (rV ((iN Z k).1) Y3)))] (eO [A_ 3 b10 12] hle0 ⟨Y3,by rw [aal h1 hl iK h46]<;>rfl,rfl,by rw [aal h1 hl iK h46];exact jd⟩)
theorem Qk {β:Bs} (Z:RS) (Y:RL) (hI:jl β Z Y.L Y.H Y.V) (hC:RC Z) {n:Nat} (hD:RD n Z) (hn:n<=7) (c:aD) (Cg:c.text.size<=1048576) (d:Nat) (hd:d<Z.ns.length) :
 bV Tryz.prog β 78 #[.agg ⟨rV Z Y⟩,.agg ⟨aO c⟩,vI (((d:Nat):Int))] [ef Y Z,dP Y Z] (λβ' v l=>∃Y',v=.tuple #[.agg ⟨rV ((eX Z c d).1) Y'⟩,vI (eX Z c d).2.1,vI (eX Z c d).2.2]/\l=[]/\bS β' (eX Z c d).1 Y'):=by
 refine o6 Tryz.func78 Tryz.ntmps78 (λhle0 R=>SR (jB 1 [3] (λb16=>.blk b16 (rV Z Y) 42) (λb16=>jB 1 [4] (λb17=>.blk b17 (aO c) 48) (λb17=>jB 3 [6] (λb18=>.blk b18 (rZ) 42) (λb18=>NN (ah.seq (ah.seq ?_)))))))
 by_cases n8:c.op=8\/c.op=14
 ·refine ah.region (jK 4 [17] [(1,a_ 4 b17),(2,w_ (.bool (decide ((c.op:Int)=(8:Int)))) rfl)] (sP 17 ((c.op:Int)=(8:Int)) (λBr=>?_) (λBr=>?_)))
  ·refine jK 4 [21] [] (NT (SR (jK 7 [23,24,26,29] [(0,A_ 3 b16 12),(3,a_ 4 b17),(5,a_ 4 b17)] (jE [0,1] (xT Z Y hI hC hD (by omega) d hd c.name (decide (c.op=14))) ?_))))
   rintro β1 _ _ aF ⟨Y3,rfl,rfl,jd⟩
   replace hI:=hI.le aF
   replace hle0:=hle0.trans aF
   exact jN 6 [9,10] (λb19=>[(4,A_ 4 b19 12)]) (λ_=>[]) (λb19=>.blk b19 (rV ((eW Z d c.name (decide (c.op=14))).1) Y3) 42) (λb19=>NS (jC 5 [7,8] [(0,A_ 4 b19 12),(2,A_ 3 b18 12)] [(3,(zC (rV ((eW Z d c.name (decide (c.op=14))).1) Y3)))] (eO [A_ 3 b18 12] hle0 ⟨Y3,by rw [Qj n8]<;>rfl,rfl,by rw [Qj n8];exact jd⟩)))
  refine jK 4 [21] [(1,a_ 4 b17),(2,w_ (.bool (decide ((c.op:Int)=(14:Int)))) rfl)] (NN (cP ((c.op:Int)=(14:Int)) (λpz=>SR (jK 7 [23,24,26,29] [(0,A_ 3 b16 12),(3,a_ 4 b17),(5,a_ 4 b17)] (jE [0,1] (xT Z Y hI hC hD (by omega) d hd c.name (decide (c.op=14))) ?_))) (λpz=>absurd n8 (by omega))))
  rintro β1 _ _ aF ⟨Y3,rfl,rfl,jd⟩
  replace hI:=hI.le aF
  replace hle0:=hle0.trans aF
  exact jN 6 [9,10] (λb20=>[(4,A_ 4 b20 12)]) (λ_=>[]) (λb20=>.blk b20 (rV ((eW Z d c.name (decide (c.op=14))).1) Y3) 42) (λb20=>NS (jC 5 [7,8] [(0,A_ 4 b20 12),(2,A_ 3 b18 12)] [(3,(zC (rV ((eW Z d c.name (decide (c.op=14))).1) Y3)))] (eO [A_ 3 b18 12] hle0 ⟨Y3,by rw [Qj n8]<;>rfl,rfl,by rw [Qj n8];exact jd⟩)))
 refine ah.region (jK 8 [21] [(1,a_ 4 b17),(2,wF ((c.op:Int)=(8:Int))),(5,a_ 4 b17),(6,wF ((c.op:Int)=(14:Int)))] (NF (KX (SR (jN 5 [11] (λuM=>[(1,a_ 4 b17),(4,A_ 6 uM 10)]) (λ_=>[]) (λuM=>.blk uM [vI 0,vI 3,vI 511,vI 0,vI 0,vI 0,vI 0,.slice none (0) (0),.string c.text,.slice none (0) (0)] 75) (λuM=>NN (ah.join (λ(x:au)=>(x.data=[]/\x.af=[]/\x.target.size<=1048576)/\((eX Z c d)=Ey Z c d x)) (λ(x:au)=>[(2,vI ↑d),(3,vP b16),(4,vP b17),(6,vP b18),(11,vP uM)]) (λ(x:au)=>[.blk b16 (rV Z Y) 42,pC b17 c,.blk b18 (rZ) 42,.blk uM [vI (x.id),vI (x.kind),vI (x.mode),vI (x.uid),vI (x.gid),vI (x.sec),vI (x.nano),.slice none (0) (0),.string x.target,.slice none (0) (0)] 75,ef Y Z,dP Y Z,.abs R]) ?_ ?_)))))))
 ·rintro x ⟨hx,hch⟩
  refine SR (jK 5 [54,55,57,58] [(0,A_ 0 b16 12),(3,a_ 1 b17),(4,A_ 3 uM 10)] (jE [4,5] (uL Z Y hI hC hD (by omega) d hd c.name x hx.1 hx.2.1 hx.2.2) ?_))
  rintro β1 _ _ aF ⟨A1,c1,L1,rfl,rfl,bn,_⟩
  replace hI:=hI.le aF
  replace hle0:=hle0.trans aF
  refine jN 6 [12,13] (λjV=>[(4,A_ 7 jV 12)]) (λ_=>[]) (λjV=>.blk jV (rW ((aL Z d c.name x).1) A1 c1 Y.G Y.cg Y.H Y.ch Y.V Y.cv) 42) (λjV=>NN (ah.seq (ah.seq ?_)))
  by_cases hno:(aL Z d c.name x).2=0/\c.op=5
  ·obtain⟨hm0,hm5⟩:=hno
   have hml:=S5 hm0
   have hbz:=hD.ns
   refine ah.region (jK 7 [68] [(1,wNT (((aL Z d c.name x).2:Int)=(0:Int)) hm0),(4,a_ 3 b17),(5,wNT ((c.op:Int)=(5:Int)) hm5)] (NF (KX (SR (jK 6 [71,76] [(0,A_ 7 jV 12),(3,a_ 7 jV),(5,wJ ((((aL Z d c.name x).1.ns.length:Nat):Int)-1) (↑((aL Z d c.name x).1.ns.length-1)))] (ai.bD [0,1] [zV1 A1 Z d c x c1 L1,zV2 Y Z d c x] (λkI cC hL=>?_)))))))
   have qg:bS kI (aL Z d c.name x).1 ⟨A1,c1,L1,Y.G,Y.cg,Y.H,Y.ch,Y.V,Y.cv⟩:=bn.at hL
   replace hI:=hI.le cC
   replace bn:=bn.le cC
   replace hle0:=hle0.trans cC
   refine jE [] (Eu (aL Z d c.name x).1 ⟨A1,c1,L1,Y.G,Y.cg,Y.H,Y.ch,Y.V,Y.cv⟩ qg (hC.ru.same abA) ((aL Z d c.name x).1.ns.length-1) (by have:=S5 hm0;omega)) ?_
   rintro y4 _ _ dg ⟨Y3,rfl,rfl,jd⟩
   replace hI:=hI.le dg
   replace bn:=bn.le dg
   replace qg:=qg.le dg
   replace hle0:=hle0.trans dg
   exact jC 6 [7,8] [(3,A_ 2 b18 12)] [(2,(zC (rV ((iN (aL Z d c.name x).1 ((aL Z d c.name x).1.ns.length-1)).1) Y3)))] (eO [A_ 2 b18 12] hle0 ⟨Y3,by rw [hch,OW hm0 hm5]<;>rfl,rfl,by rw [hch,OW hm0 hm5];exact jd⟩ [4])
  refine ah.region (jK 3 [64] [(1,w_ (.bool (!(decide (((aL Z d c.name x).2:Int)=(0:Int))))) rfl)] (sN 64 (((aL Z d c.name x).2:Int)=(0:Int)) (λTb=>?_) (λTb=>?_)))
  ·refine jK 4 [68] [] (NT (SR (jC 5 [7,8] [(0,A_ 7 jV 12),(2,A_ 4 b18 12)] [(4,(zC (rW ((aL Z d c.name x).1) A1 c1 Y.G Y.cg Y.H Y.ch Y.V Y.cv)))] (NN (ah.ret (aj.aG (aj.bD [0,1] [zV1 A1 Z d c x c1 L1,zV2 Y Z d c x] (λacn ED hL=>?_))))))))
   have cU:bS acn (aL Z d c.name x).1 ⟨A1,c1,L1,Y.G,Y.cg,Y.H,Y.ch,Y.V,Y.cv⟩:=bn.at hL
   replace hI:=hI.le ED
   replace bn:=bn.le ED
   replace hle0:=hle0.trans ED
   exact rB _ [A_ 2 b18 12] [4] hle0 (⟨⟨A1,c1,L1,Y.G,Y.cg,Y.H,Y.ch,Y.V,Y.cv⟩,by rw [hch,F6 hno]<;>rfl,rfl,by rw [hch,F6 hno];exact cU⟩)
  refine jK 4 [68] [(1,a_ 3 b17),(2,w_ (.bool (!(decide ((c.op:Int)=(5:Int))))) rfl)] (NN (cN ((c.op:Int)=(5:Int)) (λh68=>SR (jC 5 [7,8] [(0,A_ 7 jV 12),(2,A_ 4 b18 12)] [(4,(zC (rW ((aL Z d c.name x).1) A1 c1 Y.G Y.cg Y.H Y.ch Y.V Y.cv)))] (NN (ah.ret (aj.aG (aj.bD [0,1] [zV1 A1 Z d c x c1 L1,zV2 Y Z d c x] (λaaw tM hL=>?_))))))) (λh68=>absurd ⟨by omega,by omega⟩ hno)))
  have cU:bS aaw (aL Z d c.name x).1 ⟨A1,c1,L1,Y.G,Y.cg,Y.H,Y.ch,Y.V,Y.cv⟩:=bn.at hL
  replace hI:=hI.le tM
  replace bn:=bn.le tM
  replace hle0:=hle0.trans tM
  exact rB _ [A_ 2 b18 12] [4] hle0 (⟨⟨A1,c1,L1,Y.G,Y.cg,Y.H,Y.ch,Y.V,Y.cv⟩,by rw [hch,F6 hno]<;>rfl,rfl,by rw [hch,F6 hno];exact cU⟩)
 refine SR (jK 3 [40] [(1,a_ 4 b17)] (NN (cN ((c.op:Int)=(6:Int)) (λqN=>SQ (jK 2 [42] [(1,a_ 4 b17)] (gE [] (Lv c.mode) (jK 1 [44] [] (NN (cN (gS c.mode) (λuY=>SR (jC 4 [7,8] [(0,A_ 3 b16 12),(1,A_ 5 b18 12)] [(5,(zC (rV Z Y)))] (NN (ah.ret (aj.aG (aj.aG (aj.bD [0,1] [ef Y Z,dP Y Z] (λaax tN hL=>?_)))))))) (λuY=>KX (SR (jC 4 [] [(1,a_ 4 b17),(3,A_ 6 uM 10)] [(6,[(1,vI 2),(2,vI (c.mode)),(8,.string ⟨#[]⟩)])] (NS (jK 3 [51] [(1,a_ 4 b17)] (NN (cP ((c.op:Int)=(5:Int)) (λuj=>ah.region (jC 2 [] [(1,a_ 6 uM)] [(6,[(1,vI 1)])] (NL (mJ ((⟨0,1,c.mode,0,0,0,0,[],⟨#[]⟩,[]⟩:au)) [3,4,5,6,0,1,2] (⟨⟨rfl,rfl,Nat.zero_le _⟩,acj n8 qN uY (by omega)⟩))))) (λuj=>ah.skip (mJ ((⟨0,2,c.mode,0,0,0,0,[],⟨#[]⟩,[]⟩:au)) [3,4,5,6,0,1,2] (⟨⟨rfl,rfl,Nat.zero_le _⟩,ack n8 qN uY uj⟩)))))))))))))))) (λqN=>ah.skip (mJ ((⟨0,3,511,0,0,0,0,[],c.text,[]⟩:au)) [3,4,5,6,0,1,2] (⟨⟨rfl,rfl,Cg⟩,aci n8 (by omega)⟩))))))
 have cU:bS aax Z Y:=hI.at hL
 replace hI:=hI.le tN
 replace hle0:=hle0.trans tN
 exact rB _ [A_ 3 b18 12] [0] hle0 (⟨Y,by rw [aar n8 qN uY]<;>rfl,rfl,by rw [aar n8 qN uY];exact cU⟩)
theorem VJ {β:Bs} (Z:RS) (Y:RL) (hI:jl β Z Y.L Y.H Y.V) (hC:RC Z) (c:aD) :
 bV Tryz.prog β 82 #[.agg ⟨rV Z Y⟩,.agg ⟨aO c⟩] [ef Y Z,dP Y Z] (λβ' v l=>∃Y',v=.tuple #[.agg ⟨rV ((ju Z c).1) Y'⟩,vI (ju Z c).2.1,vI (ju Z c).2.2]/\l=[]/\bS β' (ju Z c).1 Y'):=by
 refine o6 Tryz.func82 Tryz.ntmps82 (λhle0 R=>SR (jB 1 [2] (λmG=>.blk mG (rV Z Y) 42) (λmG=>jB 1 [3] (λqU=>.blk qU (aO c) 48) (λqU=>jB 3 [4] (λfU=>.blk fU (rZ) 42) (λfU=>NS (jK 3 [10,12] [(0,A_ 3 mG 12),(2,a_ 4 qU)] ?_))))))
 rcases qw hC c.handle with hh|⟨k,hh,hk⟩
 ·refine gE [0,1] ((cA hI (λ_ _ h=>qd Z Y h hC c.handle)).val (congrArg exV hh)) (jK 5 [7,8] [] (NZ (jK 2 [17] [] (NT (SR (jC 5 [5,6] [(0,A_ 3 mG 12),(2,A_ 5 fU 12)] [(5,(zC (rV Z Y)))] (NN (ah.ret (aj.aG (aj.bD [0,1] [ef Y Z,dP Y Z] (λaco LO hL=>?_)))))))))))
  have cU:bS aco Z Y:=hI.at hL
  replace hI:=hI.le LO
  replace hle0:=hle0.trans LO
  exact rB _ [A_ 3 fU 12] [0] hle0 (⟨Y,by rw [SV hh]<;>rfl,rfl,by rw [SV hh];exact cU⟩)
 refine ai.oZ 0 rfl (by omega) (λjc=>gE [0,1] ((cA hI (λ_ _ h=>qd Z Y h hC c.handle)).val (congrArg exV hh)) (jK 5 [7,8] [] (NZ (jK 2 [17] [] (NF (KX (ah.join (λ(u:Unit)=>(¬((nd Z.ns k).kind=2/\(nd Z.ns k).id∈Z.gone))) (λ(u:Unit)=>[(2,vP mG),(3,vP qU),(4,vP fU),(7,vI ↑k)]) (λ(u:Unit)=>[ef Y Z,dP Y Z,.abs R,.blk mG (rV Z Y) 42,pC qU c,.blk fU (rZ) 42]) ?_ ?_)))))))
 ·rintro u n1
  refine SQ (jK 2 [41] [(1,a_ 4 qU)] (gE [] (Lv c.mode) (jK 1 [43] [] (NN (cN (gS c.mode) (λiK=>?_) (λiK=>?_))))))
  ·refine SR (jC 4 [5,6] [(0,A_ 3 mG 12),(1,A_ 5 fU 12)] [(5,(zC (rV Z Y)))] (NN (ah.ret (aj.aG (aj.bD [0,1] [ef Y Z,dP Y Z] (λacp LP hL=>?_))))))
   have cU:bS acp Z Y:=hI.at hL
   replace hI:=hI.le LP
   replace hle0:=hle0.trans LP
   exact rB _ [A_ 3 fU 12] [0] hle0 (⟨Y,by rw [SX hh n1 iK]<;>rfl,rfl,by rw [SX hh n1 iK];exact cU⟩)
  refine KX (ah.seq (ah.seq ?_))
  by_cases hown:mY c.uid/\mY c.gid
  ·have hw1:=hown.1.1
   have hw2:=hown.1.2
   have hw3:=hown.2.1
   have hw4:=hown.2.2
   refine ah.region (jK 18 [62] [(1,a_ 4 qU),(2,wF ((c.uid:Int)<(0:Int))),(5,a_ 4 qU),(6,wF ((c.uid:Int)>(2147483647:Int))),(10,a_ 4 qU),(11,wF ((c.gid:Int)<(0:Int))),(15,a_ 4 qU),(16,wF ((c.gid:Int)>(2147483647:Int)))] (NF (KX (SQ (jK 2 [65] [(1,A_ 4 qU 2)] (gE [] (yj c.sec c.nano) (jK 1 [67] [] (NN (cN (dz c.sec c.nano) (λKp=>?_) (λKp=>?_))))))))))
   ·refine SR (jC 4 [5,6] [(0,A_ 3 mG 12),(1,A_ 5 fU 12)] [(5,(zC (rV Z Y)))] (NN (ah.ret (aj.aG (aj.bD [0,1] [ef Y Z,dP Y Z] (λacq LQ hL=>?_))))))
    have cU:bS acq Z Y:=hI.at hL
    replace hI:=hI.le LQ
    replace hle0:=hle0.trans LQ
    exact rB _ [A_ 3 fU 12] [0] hle0 (⟨Y,by rw [SY hh n1 iK hown Kp]<;>rfl,rfl,by grind [SY]⟩)
   refine KX (SR (jK 8 [74,76] [(2,a_ 3 mG),(5,a_ 4 qU),(6,x_ k Z.ns.length (jc))] (ai.vQ 0 (k*10+2) (d:=none) (T:=3) (e:=75) (size:=10) (n:=Z.ns.length) (cap:=Y.c) (A:=Y.A) (xs:=(aJ Y.L Z.ns)) (u:=.int .i64 (c.mode)) (a:=(.tmp 76)) (y:=(.tmp 74)) (λ_=>by kernel_rfl) (by kernel_rfl) (λ_=>by kernel_rfl) (λ_=>by kernel_rfl) (by kernel_rfl) rfl (by omega) (by rw [kK];omega) (NS (jK 8 [82,84] [(2,a_ 3 mG),(5,a_ 4 qU),(6,x_ k Z.ns.length (jc))] (ai.vQ 0 (k*10+3) (d:=none) (T:=3) (e:=75) (size:=10) (n:=Z.ns.length) (cap:=Y.c) (A:=Y.A) (xs:=((aJ Y.L Z.ns).set (k*10+2) (.int .i64 (c.mode)))) (u:=.int .i64 (c.uid)) (a:=(.tmp 84)) (y:=(.tmp 82)) (λ_=>by kernel_rfl) (by kernel_rfl) (λ_=>by kernel_rfl) (λ_=>by kernel_rfl) (by kernel_rfl) rfl (by omega) (by rw [List.length_set,kK];omega) (NS (jK 8 [90,92] [(2,a_ 3 mG),(5,a_ 4 qU),(6,x_ k Z.ns.length (jc))] (ai.vQ 0 (k*10+4) (d:=none) (T:=3) (e:=75) (size:=10) (n:=Z.ns.length) (cap:=Y.c) (A:=Y.A) (xs:=(((aJ Y.L Z.ns).set (k*10+2) (.int .i64 (c.mode))).set (k*10+3) (.int .i64 (c.uid)))) (u:=.int .i64 (c.gid)) (a:=(.tmp 92)) (y:=(.tmp 90)) (λ_=>by kernel_rfl) (by kernel_rfl) (λ_=>by kernel_rfl) (λ_=>by kernel_rfl) (by kernel_rfl) rfl (by omega) (by rw [List.length_set,List.length_set,kK];omega) (NS (jK 8 [98,100] [(2,a_ 3 mG),(5,A_ 4 qU 2),(6,x_ k Z.ns.length (jc))] (ai.zW 0 (k*10+5) (d:=none) (T:=26) (e:=75) (size:=10) (n:=Z.ns.length) (cap:=Y.c) (A:=Y.A) (xs:=((((aJ Y.L Z.ns).set (k*10+2) (.int .i64 (c.mode))).set (k*10+3) (.int .i64 (c.uid))).set (k*10+4) (.int .i64 (c.gid)))) (u:=.int .i64 (c.sec)) (u2:=.int .i64 (c.nano)) (a:=(.tmp 100)) (y:=(.tmp 98)) (λ_=>by kernel_rfl) (by kernel_rfl) (λ_=>by kernel_rfl) (λ_=>by kernel_rfl) (by kernel_rfl) rfl rfl (by omega) (by rw [List.length_set,List.length_set,List.length_set,kK];omega) (ai.bL 0 rfl (VE hk) (NS (jC 4 [5,6] [(0,A_ 3 mG 12),(1,A_ 5 fU 12)] [(5,(zC (rV Z Y)))] (NN (ah.ret (aj.bD [0,1] [.abs (aq 75 10 Y.A ((vD Z k c).ns.length) Y.c (aJ Y.L (vD Z k c).ns)),dP Y Z] (λacr LR hL=>?_)))))))))))))))))))
   have cU:bS acr (vD Z k c) Y:=(hI.meta hk).at hL
   replace hI:=hI.le LR
   replace hle0:=hle0.trans LR
   exact rB (.tuple #[.agg ⟨rV Z Y⟩,vI 0,vI 0]) [A_ 3 fU 12] [0] hle0 (⟨Y,by simp only [rV];rw [SZ hh n1 iK hown Kp];show _=_;rw [Ew]<;>rfl,rfl,by grind [SZ]⟩)
  refine ah.region (jK 4 [48] [(1,a_ 4 qU),(2,w_ (.bool (decide ((c.uid:Int)<(0:Int)))) rfl)] (sP 48 ((c.uid:Int)<(0:Int)) (λh48=>?_) (λh48=>?_)))
  ·refine jK 14 [62] [] (NT (SR (jC 4 [5,6] [(0,A_ 3 mG 12),(1,A_ 5 fU 12)] [(5,(zC (rV Z Y)))] (NN (ah.ret (aj.aG (aj.bD [0,1] [ef Y Z,dP Y Z] (λacs LU hL=>?_))))))))
   have cU:bS acs Z Y:=hI.at hL
   replace hI:=hI.le LU
   replace hle0:=hle0.trans LU
   exact rB _ [A_ 3 fU 12] [0] hle0 (⟨Y,by rw [uK hh n1 iK hown]<;>rfl,rfl,by rw [uK hh n1 iK hown];exact cU⟩)
  refine jK 5 [53] [(1,a_ 4 qU),(2,w_ (.bool (decide ((c.uid:Int)>(2147483647:Int)))) rfl)] (sP 53 ((c.uid:Int)>(2147483647:Int)) (λDu=>?_) (λDu=>?_))
  ·refine jK 9 [62] [] (NT (SR (jC 4 [5,6] [(0,A_ 3 mG 12),(1,A_ 5 fU 12)] [(5,(zC (rV Z Y)))] (NN (ah.ret (aj.aG (aj.bD [0,1] [ef Y Z,dP Y Z] (λacu LV hL=>?_))))))))
   have cU:bS acu Z Y:=hI.at hL
   replace hI:=hI.le LV
   replace hle0:=hle0.trans LV
   exact rB _ [A_ 3 fU 12] [0] hle0 (⟨Y,by rw [uK hh n1 iK hown]<;>rfl,rfl,by rw [uK hh n1 iK hown];exact cU⟩)
  refine jK 5 [58] [(1,a_ 4 qU),(2,w_ (.bool (decide ((c.gid:Int)<(0:Int)))) rfl)] (sP 58 ((c.gid:Int)<(0:Int)) (λJd=>?_) (λJd=>?_))
  ·refine jK 4 [62] [] (NT (SR (jC 4 [5,6] [(0,A_ 3 mG 12),(1,A_ 5 fU 12)] [(5,(zC (rV Z Y)))] (NN (ah.ret (aj.aG (aj.bD [0,1] [ef Y Z,dP Y Z] (λacv LW hL=>?_))))))))
   have cU:bS acv Z Y:=hI.at hL
   replace hI:=hI.le LW
   replace hle0:=hle0.trans LW
   exact rB _ [A_ 3 fU 12] [0] hle0 (⟨Y,by rw [uK hh n1 iK hown]<;>rfl,rfl,by rw [uK hh n1 iK hown];exact cU⟩)
  refine jK 4 [62] [(1,a_ 4 qU),(2,w_ (.bool (decide ((c.gid:Int)>(2147483647:Int)))) rfl)] (NN (cP ((c.gid:Int)>(2147483647:Int)) (λDv=>SR (jC 4 [5,6] [(0,A_ 3 mG 12),(1,A_ 5 fU 12)] [(5,(zC (rV Z Y)))] (NN (ah.ret (aj.aG (aj.bD [0,1] [ef Y Z,dP Y Z] (λacw LY hL=>?_))))))) (λDv=>absurd ⟨⟨by omega,by omega⟩,⟨by omega,by omega⟩⟩ hown)))
  have cU:bS acw Z Y:=hI.at hL
  replace hI:=hI.le LY
  replace hle0:=hle0.trans LY
  exact rB _ [A_ 3 fU 12] [0] hle0 (⟨Y,by rw [uK hh n1 iK hown]<;>rfl,rfl,by rw [uK hh n1 iK hown];exact cU⟩)
 refine ah.seq ?_
 by_cases hk2:(nd Z.ns k).kind=2
 ·refine jM [0,1,2,3,4,5,6,7,8,9,10,11,12,13,14,15,16,517,518] [3,0] (jG 17 [2,3,4,7,28,29,36] [(2,a_ 0 mG),(4,x_ k Z.ns.length (jc)),(6,v_ 1 (nA Z.ns Y.L Y.A Y.c k 1 hk rfl)),(7,wT (((nd Z.ns k).kind:Int)=(2:Int)) hk2),(9,A_ 0 mG 12),(12,a_ 0 mG),(14,x_ k Z.ns.length (jc)),(16,v_ 1 (nA Z.ns Y.L Y.A Y.c k 0 hk rfl))] (kL [3,0] [0,1] (cA hI (λ_ _ h=>tK Z Y h hC.toRB (nd Z.ns k).id)) ?_ (by rintro _ _ ⟨rfl,rfl⟩;kernel_rfl)))
  rintro _ _ ⟨rfl,rfl⟩
  refine eM.last (by kernel_rfl) (jK 1 [38] [] (NL (aj.np (NX (cP ((nd Z.ns k).id∈Z.gone) (λBv=>SR (jC 4 [5,6] [(0,A_ 3 mG 12),(1,A_ 5 fU 12)] [(5,(zC (rV Z Y)))] (NN (ah.ret (aj.aG (aj.bD [0,1] [ef Y Z,dP Y Z] (λacy LZ hL=>?_))))))) (λBv=>ah.skip (mJ () [0,1,2,3,4,5] ((λq=>Bv q.2)))))))))
  have cU:bS acy Z Y:=hI.at hL
  replace hI:=hI.le LZ
  replace hle0:=hle0.trans LZ
  exact rB _ [A_ 3 fU 12] [0] hle0 (⟨Y,by rw [SW hh ⟨hk2,Bv⟩]<;>rfl,rfl,by grind [SW]⟩)
 refine jM [0,1,2,3,4,5,6,7,8,9,10,11,12,13,14,15,16,517,518] [3,0] (jG 17 [2,3,4,7,28,29,36] [(2,a_ 0 mG),(4,x_ k Z.ns.length (jc)),(6,v_ 1 (nA Z.ns Y.L Y.A Y.c k 1 hk rfl)),(7,wF (((nd Z.ns k).kind:Int)=(2:Int)) hk2)] (eM.cut (ι:=Unit) (fr':=λ(_:Unit)=>[(2,vP mG),(3,vP qU),(4,vP fU),(7,vI ↑k),(28,.bool false),(37,undef)]) (hp':=λ(_:Unit)=>[ef Y Z,dP Y Z,.abs R,.blk mG (rV Z Y) 42,.blk qU (aO c) 48,.blk fU (rZ) 42]) [3,0] (by kernel_rfl) ?_ rfl (λ_=>by kernel_rfl) ?_))
 ·exact jK 1 [37] [] (NL (MD () [2,3,4,7,28,37] [0,1,2,3,4,5]))
 rintro _
 exact eM.last (by kernel_rfl) (jK 1 [38] [] (NL (aj.np (NX (CF (ah.skip (mJ () [0,1,2,3,4,5] ((λq=>hk2 q.1)))))))))
end
section
def core (o:aI):aI:={o with links:=0,opens:=0,gone:=false,up:=none}
end
section
open Go.RowKit Go.Maps aR ak
noncomputable section
def qD (us:Used Th):Used Int:=us.map (λp=>(p.1,(p.2.k:Int)))
def posR (S:aK) (t:Th):Nat:=tgt (aA S) (t.k:Int)
def toR (S:aK) (g:List Int):RS:=⟨aA S,g,qD S.us,S.ar,S.X.cN,S.X.cB,S.X.cH,S.X.cS,S.X.cZ,S.X.last⟩
structure t7 (idx:Used Th) (O:bZ) (g:List Int):Prop where
 yx:∀t,Live idx t->((t.k:Int)∈g↔(obj O t.k).gone=true)
 live:∀z∈g,∃t,Live idx t/\(t.k:Int)=z
structure nH (idx:Used Th):Prop where
 rise:ak.bK (keys idx)
 key:∀p∈idx,p.1=(p.2.k:Int)
end
section p
variable {S:aK} {g:List Int} {t u:Th} {d k i j:Nat} {name:ByteArray} {O O':bZ} {h need id:Int} {es:fP Th} {X:FM}
theorem Inv0.ix (h:Inv0 S):nH S.idx:=⟨h.rise,λ_ hp=>h.key (kZ h.rise hp)⟩
theorem C9 (hx:nH S.idx) (hi:i<S.idx.length):Live S.idx (fZ S i)/\dN S i=((fZ S i).k:Int):=by
 have hm:=List.mem_of_getElem? (uF hi)
 have hk:=hx.key _ hm
 have hg:=kZ hx.rise hm
 grind [dN,fZ,Live]
theorem Hr (hx:nH S.idx) (hij:i<j) (hj:j<S.idx.length):dN S i<dN S j:=by
 have h1:=Lb (S:=S) (show i<S.idx.length by omega)
 have h2:=Lb hj
 obtain⟨g1,e1⟩:=List.getElem?_eq_some_iff.1 h1
 obtain⟨g2,e2⟩:=List.getElem?_eq_some_iff.1 h2
 have:=List.pairwise_iff_getElem.1 hx.rise i j g1 g2 hij
 rw [e1,e2] at this
 exact this
theorem L5 (hx:nH S.idx):bK (aA S):=λi j hij hj=>by
 rw [eu] at hj
 rw [mh (by omega),mh hj]
 exact Hr hx hij hj
theorem F9 (hx:nH S.idx) (hi:i<S.idx.length) (hj:j<S.idx.length) (e:dN S i=dN S j):i=j:=by
 rcases Nat.lt_trichotomy i j with h1|h1|h1
 ·have:=Hr hx h1 hj;omega
 ·exact h1
 have:=Hr hx h1 hi;omega
theorem kA (hI:nH S.idx) (hl:Live S.idx t):posR S t<(aA S).length/\posR S t<S.idx.length/\fZ S (posR S t)=t/\dN S (posR S t)=(t.k:Int)/\dV (aA S) (t.k:Int)=(posR S t:Int)/\nd (aA S) (posR S t)=gI S.O (t.k:Int) t:=by
 grind [ZJ,nd,aA,mh,Kf,L5,eu,posR,tgt,Live,fZ,dN,dV,gI]
theorem OZ (hI:nH S.idx) (hl:Live S.idx t) (hu:Live S.idx u) (e:posR S t=posR S u):t=u:=by
 have h1:=(kA hI hl).2.2.1
 rw [e,(kA hI hu).2.2.1] at h1
 exact h1.symm
theorem Yt {us:Used Th}:ak.get (qD us) h=(ak.get us h).map (λt=>(t.k:Int)):=get_map (λt:Th=>(t.k:Int)) us h
theorem Da {us:Used Th}:(qD us).length=us.length:=List.length_map ..
theorem Ai {us:Used Th}:keys (qD us)=keys us:=keys_map (λt:Th=>(t.k:Int)) us
theorem Ch {us:Used Th}:ak.least (qD us)=ak.least us:=by unfold ak.least;rw [Ai]
theorem O0 {us:Used Th}:qD (ins h t us)=ins h (t.k:Int) (qD us):=GN (λt:Th=>(t.k:Int)) h t us
theorem O3 {us:Used Th}:qD (del h us)=del h (qD us):=GP (λt:Th=>(t.k:Int)) h us
theorem Yu {us:Used Th}:(k:Int)∈fN (qD us)↔0<hnd us k:=by
 unfold fN qD hnd
 rw [List.map_map]
 induction us with
 |nil=>simp [dU]
 |cons p r ih=>
   grind [dU]
theorem Tc (n:ByteArray):∀es:fP Th,xH (es.map (dJ O)) n=es.findIdx? (λe=>decide (e.1=n)):=λes=>by
 unfold xH
 rw [List.findIdx?_map];rfl
theorem L6 (n:ByteArray):∀es:fP Th,aH n es=(es.findIdx? (λe=>decide (e.1=n))).map (qE es)
 |[]=>rfl
 |e::r=>by
   rw [mW,List.findIdx?_cons]
   by_cases hn:e.1=n
   ·rw [if_pos hn];simp [hn,qE]
   rw [if_neg hn,L6 n r]
   simp only [hn,decide_false,Bool.false_eq_true,if_false,Option.map_map]
   congr 1
theorem L7 (hid:∀x,(obj O' x).id=(obj O x).id) (ht:(obj O t.k).id=id):∀es:fP Th,(iz name t es).map (dJ O')=jP name id (es.map (dJ O))
 |[]=>by
   show [dJ O' (name,t)]=[⟨name,id⟩]
   unfold dJ;rw [hid,ht]
 |e::r=>by
   have he:dJ O' e=dJ O e:=by unfold dJ;rw [hid]
   have hr:r.map (dJ O')=r.map (dJ O):=List.map_congr_left (λx _=>by unfold dJ;rw [hid])
   unfold iz
   rw [List.map_cons]
   unfold jP
   show _=if ¬fM e.1 name then _ else _
   split
   ·rw [List.map_cons,List.map_cons,he,hr]
    congr 1
    unfold dJ;rw [hid,ht]
   rw [List.map_cons,he,L7 hid ht r]
theorem VK (hid:∀x,(obj O' x).id=(obj O x).id):(iF name es).map (dJ O')=oW name (es.map (dJ O)):=by
 unfold iF oW
 rw [List.filter_map]
 have:es.map (dJ O')=es.map (dJ O):=List.map_congr_left (λx _=>by unfold dJ;rw [hid])
 have h2:(es.filter (λe=>decide (e.1≠name))).map (dJ O')=(es.filter (λe=>decide (e.1≠name))).map (dJ O):=List.map_congr_left (λx _=>by unfold dJ;rw [hid])
 rw [h2];rfl
theorem L8 {z:Int}:∀es:List cR,(∀e∈es,e.name≠name)->ox name es z=z
 |[],_=>rfl
 |e::r,hn=>by
   unfold ox
   rw [if_neg (hn e (List.mem_cons_self ..)),L8 r (λx hx=>hn x (List.mem_cons_of_mem _ hx))]
theorem O4 {z:Int}:∀es:fP Th,mP es->aH name es=some t->ox name (es.map (dJ O)) z=(obj O t.k).id
 |[],_,h=>by cases h
 |e::r,hd,h=>by
   rw [mW] at h
   rw [List.map_cons]
   unfold ox
   show ox name (r.map (dJ O)) (if e.1=name then (obj O e.2.k).id else z)=_
   by_cases hn:e.1=name
   ·rw [if_pos hn] at h ⊢
    injection h with h
    rw [h]
    refine L8 _ (λx hx=>?_)
    obtain⟨y,hy,rfl⟩:=List.mem_map.1 hx
    exact λq=>(List.pairwise_cons.1 hd).1 y hy (hn.trans q.symm)
   rw [if_neg hn] at h ⊢
   exact O4 r (List.pairwise_cons.1 hd).2 h
theorem Ci (hc:core (obj O' t.k)=core (obj O t.k)) (hid:∀x,(obj O' x).id=(obj O x).id):gI O' id t=gI O id t:=by
 have f:∀{α:Type} (g:aI->α),(∀o,g (core o)=g o)->g (obj O' t.k)=g (obj O t.k):=λg hg=>by rw [←hg,hc,hg]
 have he:dJ O'=dJ O:=by grind [dJ]
 grind [gI,core,obj]
theorem Aj {S':aK} (hi:S'.idx=S.idx) (hc:∀x,core (obj S'.O x)=core (obj S.O x)):aA S'=aA S:=by
 grind [aA,Ci,core,obj]
theorem Cj (hI:nH S.idx) (hl:Live S.idx t) {S':aK} (hi:S'.idx=S.idx) (hc:∀x,x≠t.k->core (obj S'.O x)=core (obj S.O x)) (hid:(obj S'.O t.k).id=(obj S.O t.k).id):aA S'=(aA S).set (posR S t) (gI S'.O (t.k:Int) t):=by
 have adl:∀x,(obj S'.O x).id=(obj S.O x).id:=λx=>by
  grind [Live,core,obj,aA,posR,gI]
 obtain⟨h1,h2,h3,h4,_⟩:=kA hI hl
 apply List.ext_getElem?
 grind [aA,posR,uF,Ci,C9,gi,kA,F9]
theorem Td {idx:Used Th} {f:Int×Th->au} (hr:ak.bK (keys idx)) (hk:∀p∈idx,p.1=(p.2.k:Int)) {q:au->Bool} {b:Bool} (hq:∀p∈idx,q (f p)=true↔¬(p.2=t/\b=true)) (hl:Live idx t):(idx.map f).filter q=(if b=true then del (t.k:Int) idx else idx).map f:=by
 rw [List.filter_map]
 by_cases hb:b=true
 ·rw [if_pos hb]
  unfold del
  refine congrArg (List.map f) (List.filter_congr (λp hp=>?_))
  have h1:=hq p hp
  have h2:(q ∘ f) p=true↔decide (p.1≠(t.k:Int))=true:=by
   show q (f p)=true↔_
   rw [h1,decide_eq_true_iff]
   refine not_congr ⟨λh=>by rw [hk p hp,h.1],λh=>⟨?_,hb⟩⟩
   have h3:ak.get idx p.1=some p.2:=kZ hr hp
   grind [keys,Live,del]
  exact Bool.eq_iff_iff.2 (h2.trans (by simp))
 rw [if_neg hb]
 exact congrArg (List.map f) (List.filter_eq_self.2 (λp hp=>(hq p hp).2 (λh=>hb h.2)))
end p
end
section
open Go.RowKit Go.Maps aR ak
section v
variable {S S':aK} {g:List Int} {t u:Th} {d to k i j:Nat} {name toName:ByteArray} {O O':bZ} {h need id:Int} {es:fP Th}
structure RelR (S:aK) (g:List Int):Prop where
 inv:Inv S
 gone:t7 S.idx S.O g
theorem Ak:eV (toR S g) h=match ak.get S.us h with|none=>.error 131|some t=>.ok (posR S t):=by
 grind [eV,qD,Yt,toR,posR]
theorem mQ (hr:RelR S g):ez (toR S g) h name need=match dZ S.O S.us h name need with|.error e=>.error e|.ok d=>.ok (posR S ⟨d,2⟩):=by
 unfold ez dZ
 rw [Ak]
 cases e:ak.get S.us h with
 |none=>rfl
 |some t=>
   have hl:=(hr.inv.us _ _ e).1
   have hp:=(kA hr.inv.ix hl).2.2.2.2.2
   simp only
   have hp2:nd (toR S g).ns (posR S t)=gI S.O (t.k:Int) t:=hp
   rw [hp2]
   show (if t.kind=2 then if (t.k:Int)∈g then _ else if aS name then if bits BinOp.and .i64 (obj S.O t.k).mode need=need then Except.ok (posR S t) else _ else _ else _)=_
   by_cases h2:t.kind=2
   ·have ht:t=⟨t.k,2⟩:=by rw [←h2]
    rw [if_pos h2,if_pos h2]
    by_cases hg:(t.k:Int)∈g
    ·rw [if_pos hg,if_pos ((hr.gone.yx t hl).1 hg)]
    rw [if_neg hg,if_neg (λq=>hg ((hr.gone.yx t hl).2 q))]
    grind
   rw [if_neg h2,if_neg h2]
theorem Te {es:fP Th} (hj:j<es.length):en (es.map (dJ O)) j=⟨kF es j,(obj O (qE es j).k).id⟩:=by
 grind [en,zS,dJ,kF,obj,qE]
theorem VL (hI:Inv0 S) (hd:Live S.idx ⟨d,2⟩):aP (aA S) (posR S ⟨d,2⟩) name=match aH name (obj S.O d).af with|none=>-1|some t=>(posR S t:Int):=by
 unfold aP
 rw [(kA hI.ix hd).2.2.2.2.2]
 show (match xH ((obj S.O d).af.map (dJ S.O)) name with|none=>_|some j=>dV (aA S) (en ((obj S.O d).af.map (dJ S.O)) j).id)=_
 rw [Tc,L6]
 cases e:(obj S.O d).af.findIdx? (λe=>decide (e.1=name)) with
 |none=>rfl
 |some j=>
   have hj:j<(obj S.O d).af.length:=by
    rw [List.findIdx?_eq_some_iff_getElem] at e
    exact e.1
   show dV (aA S) (en ((obj S.O d).af.map (dJ S.O)) j).id=(posR S (qE (obj S.O d).af j):Int)
   have hl:Live S.idx (qE (obj S.O d).af j):=(hI.af _ hd _ (List.mem_of_getElem? (zS hj))).2
   rw [Te hj,(hI.ob _ hl).1,(kA hI.ix hl).2.2.2.2.1]
theorem L9 (hI:Inv0 S):sI (toR S g)↔Room S.X S.idx:=by
 have h1:(bN (aA S) (aA S).length:Int)=S.X.af:=by rw [eu,BZ];exact hI.total.1.symm
 grind [aA,bN,eu,sI,toR,Room]
theorem EF (hI:Inv0 S):(cW (toR S g).ns (toR S g).ns.length:Int)=S.X.used:=by
 show (cW (aA S) (aA S).length:Int)=_
 rw [eu,Lj];exact hI.used.1.symm
theorem Al (hx:nH S.idx) (hd:Live S.idx ⟨d,2⟩) (htd:t.k≠d) (hid:(obj S.O t.k).id=id) (hS:S'={S with X:=S'.X,O:=bB S.X S.O d name t,us:=S'.us,ar:=S'.ar}):aA S'=kq S.X.cS S.X.cZ (aA S) (posR S ⟨d,2⟩) (jP name id (nd (aA S) (posR S ⟨d,2⟩)).af):=by
 have hO:S'.O=bB S.X S.O d name t:=by rw [hS]
 have uR:∀x,(obj (bB S.X S.O d name t) x).id=(obj S.O x).id:=λx=>jt (g:=aI.id) (λ_ _=>rfl) (λ_ _=>rfl) (λ_ _ _=>rfl) (λ_ _=>rfl)
 rw [Cj hx hd (S':=S') (by rw [hS]) (λx hne=>by rw [hO,p8 htd,if_neg hne];split<;>rfl) (by rw [hO];exact uR d)]
 unfold kq
 rw [(kA hx hd).2.2.2.2.2,hO]
 congr 1
 show (⟨(d:Int),2,(obj (bB S.X S.O d name t) d).mode,(obj (bB S.X S.O d name t) d).uid,(obj (bB S.X S.O d name t) d).gid,(obj (bB S.X S.O d name t) d).sec,(obj (bB S.X S.O d name t) d).nano,(obj (bB S.X S.O d name t) d).data,(obj (bB S.X S.O d name t) d).target,(obj (bB S.X S.O d name t) d).af.map (dJ (bB S.X S.O d name t))⟩:au)=_
 have h1:(obj (bB S.X S.O d name t) d)={obj S.O d with af:=iz name t (obj S.O d).af,sec:=S.X.cS,nano:=S.X.cZ}:=by rw [p8 htd,if_pos rfl]
 rw [h1]
 show (⟨_,_,_,_,_,_,_,_,_,(iz name t (obj S.O d).af).map (dJ (bB S.X S.O d name t))⟩:au)=_
 rw [L7 (O:=S.O) uR hid];rfl
theorem vE (hx:nH S.idx) (hd:Live S.idx ⟨d,2⟩) (htd:t.k≠d) (hi:S'.idx=S.idx) (hO:∀x,core (obj S'.O x)=core (obj (aC S.X S.O d name t) x)):aA S'=kq S.X.cS S.X.cZ (aA S) (posR S ⟨d,2⟩) (oW name (nd (aA S) (posR S ⟨d,2⟩)).af):=by
 have uR:∀x,(obj (aC S.X S.O d name t) x).id=(obj S.O x).id:=λx=>cD (g:=aI.id) (λ_ _=>rfl) (λ_ _=>rfl) (λ_ _ _=>rfl)
 have e1:aA S'=aA {S with O:=aC S.X S.O d name t}:=Aj (S:={S with O:=aC S.X S.O d name t}) hi hO
 rw [e1,Cj hx hd (S':={S with O:=aC S.X S.O d name t}) rfl (λx hne=>by
  show core (obj (aC S.X S.O d name t) x)=_
  rw [iQ htd,if_neg hne];split<;>rfl) (uR d)]
 unfold kq
 rw [(kA hx hd).2.2.2.2.2]
 congr 1
 show (⟨(d:Int),2,(obj (aC S.X S.O d name t) d).mode,(obj (aC S.X S.O d name t) d).uid,(obj (aC S.X S.O d name t) d).gid,(obj (aC S.X S.O d name t) d).sec,(obj (aC S.X S.O d name t) d).nano,(obj (aC S.X S.O d name t) d).data,(obj (aC S.X S.O d name t) d).target,(obj (aC S.X S.O d name t) d).af.map (dJ (aC S.X S.O d name t))⟩:au)=_
 have h1:(obj (aC S.X S.O d name t) d)={obj S.O d with af:=iF name (obj S.O d).af,sec:=S.X.cS,nano:=S.X.cZ}:=by rw [iQ htd,if_pos rfl]
 rw [h1]
 show (⟨_,_,_,_,_,_,_,_,_,(iF name (obj S.O d).af).map (dJ (aC S.X S.O d name t))⟩:au)=_
 rw [VK (O:=S.O) uR];rfl
theorem Am {es:fP Th} (hid:∀e∈es,(obj O e.2.k).id=(e.2.k:Int)):∀j,j<=es.length->fF (es.map (dJ O)) (k:Int) j=(es.take j).countP (λe=>decide (e.2.k=k))
 |0,_=>rfl
 |j+1,hj=>by
   rw [fF,Am hid j (by omega),List.take_add_one,zS (show j<es.length by omega),List.countP_append,Te (by omega)]
   congr 1
   have:=hid _ (List.mem_of_getElem? (zS (show j<es.length by omega)))
   have h2:(obj O (qE es j).k).id=((qE es j).k:Int):=this
   simp only [h2,Option.toList,List.countP_cons,List.countP_nil]
   by_cases hk:(qE es j).k=k
   ·simp [hk]
   simp [hk]
   omega
theorem Tf (hid:∀i,i<S.idx.length->∀e∈(obj S.O (fZ S i).k).af,(obj S.O e.2.k).id=(e.2.k:Int)):qM (aA S) (k:Int)=(j3 S.idx S.O k:Int):=by
 unfold qM
 rw [eu]
 have h:=xO (S:=S) (λo=>o.af.countP (λe=>decide (e.2.k=k))) (λns n=>kz ns (k:Int) n) (λ_=>rfl) (λi hi=>by
  show kz (aA S) _ i+fF (nd (aA S) i).af _ (nd (aA S) i).af.length=_
  rw [mh hi]
  show _+fF ((obj S.O (fZ S i).k).af.map (dJ S.O)) _ ((obj S.O (fZ S i).k).af.map (dJ S.O)).length=_
  rw [List.length_map,Am (hid i hi) _ (Nat.le_refl _),List.take_length]) S.idx.length (Nat.le_refl _)
 rw [List.take_length] at h
 exact congrArg Nat.cast h
theorem Nx (hI:Inv0 S) (hd:Live S.idx ⟨d,2⟩) (hl:aH name (obj S.O d).af=some t) (hi:S'.idx=S.idx) (hO:∀x,core (obj S'.O x)=core (obj (aC S.X S.O d name t) x)):qM (aA S') (t.k:Int)=(obj S.O t.k).links-1:=by
 have htd:=hI.ne hd hl
 have uR:∀x,(obj S'.O x).id=(obj S.O x).id:=λx=>(show (obj S'.O x).id=(obj (aC S.X S.O d name t) x).id by have h:=congrArg aI.id (hO x);exact h).trans (cD (g:=aI.id) (λ_ _=>rfl) (λ_ _=>rfl) (λ_ _ _=>rfl))
 have xD:∀x,(obj S'.O x).af=(obj (aC S.X S.O d name t) x).af:=λx=>by have h:=congrArg aI.af (hO x);exact h
 have he:∀x,(obj S'.O x).af=if x=d then iF name (obj S.O d).af else (obj S.O x).af:=λx=>by
  grind [iQ]
 rw [Tf (λi hi2 e hem=>by
  rw [uR]
  rw [hi] at hi2
  have nT:fZ S' i=fZ S i:=by unfold fZ;rw [hi]
  rw [nT,he] at hem
  have hlv:=(C9 hI.ix hi2).1
  have:e∈(obj S.O (fZ S i).k).af:=by
   grind [KO]
  exact (hI.ob _ (hI.af _ hlv _ this).2).1),hi]
 have h1:=KP (q:=λe=>decide (e.2.k=t.k)) (O':=S'.O) hI.rise hd (λ_ _ e=>hI.key e) (λx hx=>by rw [he,if_neg hx]) (by rw [he,if_pos rfl]) (hI.twice hd) hl
 have h2:=hI.links t (hI.ent hd hl).2
 grind [j3]
theorem VN {V:Type} {z:Int} {p:Int×V} {us:Used V}:p∈del z us↔p∈us/\p.1≠z:=by
 unfold del
 rw [List.mem_filter]
 simp
theorem xU {S1 S2:aK} {O2:bZ} {Ma:Used Th} {R:RS} (hx:nH S1.idx) (hns:R.ns=aA S1) (eH:R.us=qD Ma) (hg:t7 S1.idx O2 R.gone) (hl:Live S1.idx t)
 (hfull:∀u,Live S1.idx u->u≠t->(obj O2 u.k).gone=true->0<hnd Ma u.k) (hop:(obj O2 t.k).opens=(hnd Ma t.k:Int)) (hid:(obj O2 t.k).id=(t.k:Int))
 (hi:S2.idx=iM O2 S1.idx t) (hc:∀x,core (obj S2.O x)=core (obj S1.O x)) (hgo:∀x,(obj S2.O x).gone=(obj O2 x).gone) :
 (dF R).ns=aA S2/\t7 S2.idx S2.O (dF R).gone:=by
 have uR:∀x,(obj S2.O x).id=(obj S1.O x).id:=λx=>by have h:=congrArg aI.id (hc x);exact h
 have iC:∀p∈S1.idx,Live S1.idx p.2:=λp hp=>by
  unfold Live;rw [←hx.key p hp];exact kZ hx.rise hp
 have hkept:∀p∈S1.idx,oY R (gI S1.O p.1 p.2)=true↔¬(p.2=t/\decide (qY O2 t)=true):=λp hp=>by
  have hlp:=iC p hp
  show decide (p.1∈R.gone->p.1∈fN R.us)=true↔_
  rw [decide_eq_true_iff,hx.key p hp,hg.yx _ hlp,eH,Yu,decide_eq_true_iff]
  constructor
  ·rintro h ⟨h1,h2⟩
   rw [h1] at h
   have:=h h2.1
   have h3:=h2.2
   rw [hop] at h3
   omega
  intro h hgn
  by_cases hpt:p.2=t
  ·rw [hpt] at hgn ⊢
   have:¬(obj O2 t.k).opens=0:=λq=>h ⟨hpt,hgn,q⟩
   rw [hop] at this
   omega
  exact hfull _ hlp hpt hgn
 have aay:(dF R).ns=aA S2:=by
  show R.ns.filter (oY R)=aA S2
  rw [hns]
  unfold aA
  rw [Td hx.rise hx.key hkept hl,hi]
  grind [iM,gI,Ci,qY]
 refine⟨aay,?_⟩
 have hsub:∀u,Live S2.idx u->Live S1.idx u:=λu hu=>by
  grind [iM,Live,vJ]
 have hx2:nH S2.idx:=by
  rw [hi]
  unfold iM
  split
  ·refine⟨?_,λp hp=>hx.key p (VN.1 hp).1⟩
   unfold keys del
   exact hx.rise.sublist (List.Sublist.map _ List.filter_sublist)
  exact hx
 have hmem:∀z,z∈(dF R).gone↔(z∈R.gone/\∃p∈S2.idx,p.1=z):=λz=>by
  show z∈((dF R).ns.filter (λn=>decide (n.id∈R.gone))).map au.id↔_
  rw [aay]
  simp only [List.mem_map,List.mem_filter,decide_eq_true_iff]
  constructor
  ·rintro⟨n,⟨h1,h2⟩,h3⟩
   obtain⟨p,hp,rfl⟩:=List.mem_map.1 h1
   exact⟨by rw [←h3];exact h2,p,hp,h3⟩
  rintro⟨h1,p,hp,h2⟩
  exact⟨gI S2.O p.1 p.2,⟨List.mem_map.2 ⟨p,hp,rfl⟩,by show p.1∈_;rw [h2];exact h1⟩,h2⟩
 refine⟨λu hu=>?_,λz hz=>?_⟩
 ·rw [hmem,hg.yx u (hsub u hu),hgo]
  exact⟨λh=>h.1,λh=>⟨h,_,get_mem hu,rfl⟩⟩
 obtain⟨_,p,hp,h1⟩:=(hmem z).1 hz
 refine⟨p.2,?_,(hx2.key p hp).symm.trans h1⟩
 unfold Live;rw [←hx2.key p hp];exact kZ hx2.rise hp
end v
end
section
open Go.RowKit Go.Maps aR ak
def ck (a:tI) (code:Int) (S':aK) (an:Int):Prop:=a.2.2=code/\(code=0->∃g',a.1=toR S' g'/\t7 S'.idx S'.O g'/\a.2.1=an)
section w
variable {S S':aK} {g:List Int} {t u:Th} {d to k i j:Nat} {name toName:ByteArray} {O O':bZ} {h need id z:Int} {c:aD} {R:RS}
theorem ck.bad {a:tI} {e an:Int} {S':aK} (h:a.2.2=e) (he:e≠0):ck a e S' an:=⟨h,λq=>absurd q he⟩
theorem Tg (h1:R.ns=aA S') (h3:R.us=qD S'.us) (h4:R.ar=S'.ar) (h5:R.cN=S'.X.cN/\R.cB=S'.X.cB/\R.cH=S'.X.cH/\R.cS=S'.X.cS/\R.cZ=S'.X.cZ/\R.last=S'.X.last):R=toR S' R.gone:=by
 obtain⟨ns,gone,us,ar,cN,cB,cH,cS,cZ,last⟩:=R
 grind [aA,qD,toR]
theorem t7.same {idx:Used Th} (h:t7 idx O g) (hg:∀x,(obj O' x).gone=(obj O x).gone):t7 idx O' g:=⟨λt ht=>(h.yx t ht).trans (by rw [hg]),h.live⟩
theorem Mb (hI:Inv0 S) (z:Int):dV (aA S) z=match ak.get S.idx z with|none=>-1|some t=>(posR S t:Int):=by
 cases e:ak.get S.idx z with
 |none=>
   refine D3 (λj hj he=>?_)
   rw [eu] at hj
   rw [mh hj] at he
   have h1:dN S j=z:=he
   have h2:=(G6 hI hj)
   have h3:ak.get S.idx ((fZ S j).k:Int)=some (fZ S j):=h2.1
   rw [←h2.2,h1,e] at h3
   cases h3
 |some t=>
   have hk:=(hI.idx _ _ e).1
   have hl:Live S.idx t:=by show ak.get S.idx (t.k:Int)=some t;rw [←hk];exact e
   show dV (aA S) z=_
   rw [hk];exact (kA hI.ix hl).2.2.2.2.1
theorem EG (hI:Inv0 S) (e:ak.get S.idx z=some t):Live S.idx t/\z=(t.k:Int):=by
 have hk:=(hI.idx _ _ e).1
 grind [Live]
theorem j5 (hI:Inv0 S) (hl:Live S.idx t):nd (toR S g).ns (posR S t)=gI S.O (t.k:Int) t:=(kA hI.ix hl).2.2.2.2.2
theorem ck.ok {a:tI} {an:Int} (hc:a.2.2=0) (h1:a.1.ns=aA S') (h3:a.1.us=qD S'.us) (h4:a.1.ar=S'.ar) (h5:a.1.cN=S'.X.cN/\a.1.cB=S'.X.cB/\a.1.cH=S'.X.cH/\a.1.cS=S'.X.cS/\a.1.cZ=S'.X.cZ/\a.1.last=S'.X.last) (hg:t7 S'.idx S'.O a.1.gone) (ha:a.2.1=an):ck a 0 S' an:=
 ⟨hc,λ_=>⟨_,Tg h1 h3 h4 h5,hg,ha⟩⟩
theorem ck.same {an:Int} (hr:RelR S g) (ha:an=0):ck (toR S g,0,0) 0 S an:=⟨rfl,λ_=>⟨g,rfl,hr.gone,ha.symm⟩⟩
theorem EH (hr:RelR S g) (hl:Live S.idx t):ck (iN (toR S g) (posR S t)) (cu S t).2.1 (cu S t).2.2 (cu S t).1:=by
 have hlen:(toR S g).us.length=S.us.length:=Da
 unfold iN
 by_cases hc:(S.us.length:Int)<S.X.cH
 ·rw [j9 hc,if_pos (by rw [hlen];exact hc)]
  refine .ok rfl ?_ ?_ ?_ ⟨rfl,rfl,rfl,rfl,rfl,rfl⟩ (hr.gone.same (λx=>cx (g:=aI.gone) (λ_=>rfl))) Ch
  ·show aA S=aA _
   exact (Aj (S:=S) (S':={S with O:=ay S.O t.k (λo=>{o with opens:=o.opens+1}),us:=ins (least S.us) t S.us,ar:=max S.ar ((S.us.length:Int)+1)}) rfl (λx=>cx (g:=core) (f:=λo=>{o with opens:=o.opens+1}) (λ_=>rfl))).symm
  ·show ins (least (qD S.us)) (nd (toR S g).ns (posR S t)).id (qD S.us)=qD (ins (least S.us) t S.us)
   rw [j5 hr.inv.toInv0 hl,O0,Ch];rfl
  grind [qD,Da,Live,ck,iN,toR,posR,cu]
 grind [lM,Live,ck,iN,toR,posR,cu]
theorem VO (hr:RelR S g) (c:aD):ck (if 0<=dV (toR S g).ns c.other then if (nd (toR S g).ns (tgt (toR S g).ns c.other)).kind=2 then iN (toR S g) (tgt (toR S g).ns c.other) else (toR S g,0,173) else (toR S g,0,141)) (iB S c).1 (iB S c).2.1 (iB S c).2.2.answer:=by
 have hI:=hr.inv.toInv0
 have ha:dV (toR S g).ns c.other=_:=Mb hI c.other
 unfold iB
 cases e:ak.get S.idx c.other with
 |none=>
   grind [dV,toR,ck,nd,tgt,iN,iB]
 |some t=>
   rw [e] at ha
   replace ha:dV (toR S g).ns c.other=(posR S t:Int):=ha
   obtain⟨hl,_⟩:=EG hI e
   have ht:tgt (toR S g).ns c.other=posR S t:=by grind [tgt]
   rw [if_pos (by rw [ha];omega),ht,j5 hI hl]
   show ck (if t.kind=2 then _ else _) _ _ _
   grind [EH,ck,dV,toR,nd,tgt,iN,iB]
theorem jv (hr:RelR S g) (hd:Live S.idx ⟨d,2⟩) (name:ByteArray):(aH name (obj S.O d).af=none/\aP (toR S g).ns (posR S ⟨d,2⟩) name = -1)\/∃t,aH name (obj S.O d).af=some t/\aP (toR S g).ns (posR S ⟨d,2⟩) name=(posR S t:Int)/\Live S.idx t/\(t.kind=1\/t.kind=2\/t.kind=3)/\t.k≠d:=by
 have hI:=hr.inv.toInv0
 have hl:aP (toR S g).ns (posR S ⟨d,2⟩) name=_:=VL (name:=name) hI hd
 cases e:aH name (obj S.O d).af with
 |none=>rw [e] at hl;exact .inl ⟨rfl,hl⟩
 |some t=>
   rw [e] at hl
   have h1:=(hr.inv.ent hd e).2
   exact .inr ⟨t,rfl,hl,h1,(hI.ob t h1).2.2,hr.inv.ne hd e⟩
theorem Ny (hr:RelR S g) (c:aD):ck (fW (toR S g) c 2) (dw S c).1 (dw S c).2.1 (dw S c).2.2.answer:=by
 have hI:=hr.inv.toInv0
 unfold fW dw fC
 rw [mQ hr]
 rcases iI hI c.handle c.name 64 with ⟨e,h,he⟩|⟨d,h,hd,-⟩
 ·rw [h];exact .bad rfl he
 rw [h]
 simp only
 rcases jv hr hd c.name with ⟨h1,h2⟩|⟨t,h1,h2,hl,hk,-⟩
 ·grind [ck,fW,toR,dw]
 rw [h1,if_pos (by rw [h2];omega),h2,Int.toNat_natCast,j5 hI hl]
 show ck (if t.kind=3 then _ else if t.kind≠2 then (_,_,if t.kind=1 then _ else _) else _) _ _ _
 grind [EH,ck,fW,toR,dw]
theorem Mc (hr:RelR S g) (c:aD):ck (fW (toR S g) c 1) (cQ S c).1 (cQ S c).2.1 (cQ S c).2.2.answer:=by
 have hI:=hr.inv.toInv0
 unfold fW cQ fC
 rw [mQ hr]
 rcases iI hI c.handle c.name 64 with ⟨e,h,he⟩|⟨d,h,hd,-⟩
 ·rw [h];exact .bad rfl he
 rw [h]
 simp only
 rcases jv hr hd c.name with ⟨h1,h2⟩|⟨t,h1,h2,hl,hk,-⟩
 ·grind [ck,fW,toR,cQ]
 rw [h1,if_pos (by rw [h2];omega),h2,Int.toNat_natCast,j5 hI hl]
 show ck (if t.kind=3 then _ else if t.kind≠1 then (_,_,if t.kind=1 then _ else _) else _) _ _ _
 grind [EH,ck,fW,toR,cQ]
theorem Md (hI:Inv0 S) (hl:Live S.idx t) (c:aD):CY (toR S g) c (posR S t)={kM S.O (c0 c) (some t) with code:=0}:=by
 unfold CY
 rw [j5 hI hl]
 unfold kM
 simp only
 rw [(hI.ob t hl).1];rfl
theorem VP (hr:RelR S g) (c:aD) (hop:c.op=11\/c.op=12):iH S c=(S,nX (toR S g) c):=by
 have hI:=hr.inv.toInv0
 show ((fe S (c0 c)).2.1,{ (fe S (c0 c)).2.2 with code:=(fe S (c0 c)).1})=_
 unfold nX
 rcases hop with h|h
 ·rw [yQ (c:=c0 c) h,if_neg (by omega),Ak]
  cases e:ak.get S.us c.handle with
  |none=>rw [show jZ S (c0 c)=(131,S,kM S.O (c0 c) none) by grind [jZ]];rfl
  |some t=>rw [show jZ S (c0 c)=(0,S,kM S.O (c0 c) (some t)) by grind [jZ]];exact congrArg (Prod.mk S) (Md hI (hr.inv.us _ _ e).1 c).symm
 rw [yR (c:=c0 c) h,if_pos h,mQ hr]
 rcases iI hI c.handle c.name 64 with ⟨e,h,he⟩|⟨d,h,hd,-⟩
 ·rw [show fI S (c0 c)=(e,S,kM S.O (c0 c) none) by unfold fI fC;grind,h];rfl
 rw [h]
 simp only
 rcases jv hr hd c.name with ⟨h1,h2⟩|⟨t,h1,h2,hl,hk,-⟩
 ·rw [show fI S (c0 c)=(170,S,kM S.O (c0 c) none) by unfold fI fC;grind,if_neg (by rw [h2];decide)];rfl
 rw [show fI S (c0 c)=(0,S,kM S.O (c0 c) (some t)) by unfold fI fC;grind,if_pos (by rw [h2];omega),h2,Int.toNat_natCast]
 grind [Md]
theorem Me {f:aI->aI} (hid:∀o,(f o).id=o.id):gI (ay O t.k f) z t=⟨z,t.kind,(f (obj O t.k)).mode,(f (obj O t.k)).uid,(f (obj O t.k)).gid,(f (obj O t.k)).sec,(f (obj O t.k)).nano,(f (obj O t.k)).data,(f (obj O t.k)).target,(f (obj O t.k)).af.map (dJ O)⟩:=by
 have h1:obj (ay O t.k f) t.k=f (obj O t.k):=by rw [iw,if_pos rfl]
 have h2:dJ (ay O t.k f)=dJ O:=funext λe=>by unfold dJ;rw [cx (g:=aI.id) hid]
 unfold gI
 rw [h1,h2]
theorem Je (hI:Inv0 S) (hl:Live S.idx t) {f:aI->aI} (hid:∀o,(f o).id=o.id) (hi:S'.idx=S.idx) (hO:S'.O=ay S.O t.k f):aA S'=(aA S).set (posR S t) (gI (ay S.O t.k f) (t.k:Int) t):=by
 rw [Cj hI.ix hl (S':=S') hi (λx hx=>by rw [hO,iw,if_neg hx]) (by rw [hO];exact cx (g:=aI.id) hid),hO]
theorem VQ (hr:RelR S g) (c:aD):ck (ju (toR S g) c) (bA S c).1 (bA S c).2.1 0:=by
 have hI:=hr.inv.toInv0
 unfold ju bA
 rw [Ak]
 cases e:ak.get S.us c.handle with
 |none=>exact .bad rfl (show (131:Int)≠0 by decide)
 |some t=>
   have hl:=(hr.inv.us _ _ e).1
   simp only
   rw [j5 hI hl]
   show ck (if t.kind=2/\(t.k:Int)∈g then _ else _) _ _ _
   by_cases hg:(obj S.O t.k).gone=true/\t.kind=2
   ·rw [if_pos ⟨hg.2,(hr.gone.yx t hl).2 hg.1⟩,if_pos hg];exact .bad rfl (show (170:Int)≠0 by decide)
   rw [if_neg (λq=>hg ⟨(hr.gone.yx t hl).1 q.2,q.1⟩),if_neg hg]
   by_cases h1:gS c.mode
   ·by_cases h2:mY c.uid/\mY c.gid
    ·by_cases h3:dz c.sec c.nano
     ·rw [if_pos h1,if_pos h1,if_pos h2,if_pos h2,if_pos h3,if_pos h3]
      refine .ok rfl ?_ rfl rfl ⟨rfl,rfl,rfl,rfl,rfl,rfl⟩ (hr.gone.same (λx=>cx (g:=aI.gone) (f:=λo=>{o with mode:=c.mode,uid:=c.uid,gid:=c.gid,sec:=c.sec,nano:=c.nano}) (λ_=>rfl))) rfl
      refine Eq.trans ?_ (Je (S:=S) (S':={S with O:=ay S.O t.k (λo=>{o with mode:=c.mode,uid:=c.uid,gid:=c.gid,sec:=c.sec,nano:=c.nano})}) (t:=t) hI hl (f:=λo=>{o with mode:=c.mode,uid:=c.uid,gid:=c.gid,sec:=c.sec,nano:=c.nano}) (λ_=>rfl) rfl rfl).symm
      rw [Me (f:=λo=>{o with mode:=c.mode,uid:=c.uid,gid:=c.gid,sec:=c.sec,nano:=c.nano}) (λ_=>rfl)]
      rfl
     grind [ck,ju,toR,bA]
    grind [ck,ju,toR,bA]
   grind [ck,ju,toR,bA]
theorem Ck (hr:RelR S g) (hl:Live S.idx t) (bs:List UInt8):ck (gM (toR S g) (posR S t) bs) (dL S t.k bs).2.1 (dL S t.k bs).2.2 (dL S t.k bs).1:=by
 have hI:=hr.inv.toInv0
 unfold gM dL
 by_cases hb:bs=[]
 ·rw [if_pos hb,if_pos hb];exact .same hr rfl
 rw [if_neg hb,if_neg hb,EF hI]
 show ck (if S.X.cB-S.X.used<=0 then _ else _) _ _ _
 by_cases hu:S.X.cB-S.X.used<=0
 ·grind [Live,ck,gM,toR,posR,dL]
 rw [if_neg hu,if_neg hu]
 refine .ok rfl (Eq.trans ?_ (Je (S:=S) (S':={S with X:={S.X with used:=S.X.used+(bR S.X bs.length:Int)},O:=ay S.O t.k (λo=>{o with data:=o.data++bs.take (bR S.X bs.length),sec:=S.X.cS,nano:=S.X.cZ})}) (t:=t) hI hl (f:=λo=>{o with data:=o.data++bs.take (bR S.X bs.length),sec:=S.X.cS,nano:=S.X.cZ}) (λ_=>rfl) rfl rfl).symm) rfl rfl ⟨rfl,rfl,rfl,rfl,rfl,rfl⟩ (hr.gone.same (λx=>cx (g:=aI.gone) (f:=λo=>{o with data:=o.data++bs.take (bR S.X bs.length),sec:=S.X.cS,nano:=S.X.cZ}) (λ_=>rfl))) rfl
 rw [Me (f:=λo=>{o with data:=o.data++bs.take (bR S.X bs.length),sec:=S.X.cS,nano:=S.X.cZ}) (λ_=>rfl)]
 simp only
 rw [j5 hI hl]
 rfl
theorem VR (hr:RelR S g) (c:aD):ck (match eV (toR S g) c.handle with|.error e=>(toR S g,0,e)|.ok k=>if (nd (toR S g).ns k).kind=2 then (toR S g,0,172) else gM (toR S g) k c.data) (dM S c).1 (dM S c).2.1 (if (dM S c).1=0 then (dM S c).2.2.answer else 0):=by
 have hI:=hr.inv.toInv0
 unfold dM
 rw [Ak]
 cases e:ak.get S.us c.handle with
 |none=>exact .bad rfl (show (131:Int)≠0 by decide)
 |some t=>
   obtain⟨hl,h3⟩:=hr.inv.us _ _ e
   have hk:=(hI.ob t hl).2.2
   simp only
   rw [j5 hI hl]
   show ck (if t.kind=2 then _ else _) _ _ _
   grind [Ck,ck,eV,toR,nd,gM,dM]
theorem Ti (hr:RelR S g) (c:aD):ck (if c.handle∈keys (toR S g).us then (dF {toR S g with us:=del c.handle (toR S g).us},0,0) else (dF (toR S g),0,131)) (gq S c).1 (gq S c).2.1 0:=by
 have hI:=hr.inv.toInv0
 have hk:keys (toR S g).us=keys S.us:=Ai
 unfold gq
 cases e:ak.get S.us c.handle with
 |none=>
   grind [get_none,ck,keys,toR,dF,del,gq]
 |some t=>
   have hl:=(hr.inv.us _ _ e).1
   rw [if_pos (by rw [hk];exact List.mem_map.2 ⟨_,get_mem e,rfl⟩)]
   have hdel:=λk=>Oj (k:=k) hI.usr e
   have hsw:=xU (S1:=S) (S2:=(gq S c).2.1) (O2:=qI S.O t.k) (Ma:=del c.handle S.us) (R:={toR S g with us:=del c.handle (toR S g).us}) (t:=t) hI.ix rfl O3.symm
    (hr.gone.same (λx=>cx (g:=aI.gone) (f:=λo=>{o with opens:=o.opens-1}) (λ_=>rfl))) hl
    (λu hu hne Jf=>by
     have h1:(obj S.O u.k).gone=true:=Eq.trans (cx (g:=aI.gone) (f:=λo=>{o with opens:=o.opens-1}) (λ_=>rfl)).symm Jf
     have h2:=hr.inv.full u hu h1
     rw [hI.opens u hu] at h2
     have h3:=hdel u.k
     rw [if_neg (λq=>hne (gi hu hl q.symm))] at h3
     omega)
    (by
     show (obj (ay S.O t.k _) t.k).opens=_
     rw [iw,if_pos rfl]
     show (obj S.O t.k).opens-1=_
     rw [hI.opens t hl]
     have h3:=hdel t.k
     rw [if_pos rfl] at h3
     omega)
    (by rw [show (obj (qI S.O t.k) t.k).id=(obj S.O t.k).id from cx (g:=aI.id) (f:=λo=>{o with opens:=o.opens-1}) (λ_=>rfl)];exact (hI.ob t hl).1)
    (by unfold gq;rw [e]) (λx=>by unfold gq;rw [e];exact cx (g:=core) (f:=λo=>{o with opens:=o.opens-1}) (λ_=>rfl)) (λx=>by unfold gq;rw [e])
   unfold gq at hsw
   rw [e] at hsw
   refine .ok rfl hsw.1 ?_ rfl ⟨rfl,rfl,rfl,rfl,rfl,rfl⟩ hsw.2 rfl
   exact O3.symm
end w
end
section
open Go.RowKit Go.Maps aR ak
section x
variable {S S':aK} {g:List Int} {t u:Th} {d to k i j:Nat} {name toName:ByteArray} {O O':bZ} {h need id z:Int} {c:aD} {R:RS} {o:aI} {n:au}
theorem VS (hx:nH S.idx) (hl:Live S.idx t) (hi:S'.idx=S.idx):posR S' t=posR S t:=by
 have hl':Live S'.idx t:=by rw [hi];exact hl
 have hx':nH S'.idx:=by rw [hi];exact hx
 have h1:=kA hx hl
 have h2:=kA hx' hl'
 grind [F9,dN]
theorem Tj (hr:RelR S g) (hd:Live S.idx ⟨d,2⟩) (hl:Live S.idx t) (htd:t.k≠d) {e:Int}:ck (bE (toR S g) (posR S ⟨d,2⟩) name (t.k:Int),0,0) 0 {S with X:={S.X with af:=e},O:=bB S.X S.O d name t} 0:=by
 exact .ok rfl ((Al (S':={S with X:={S.X with af:=e},O:=bB S.X S.O d name t}) hr.inv.ix hd htd (hr.inv.ob t hl).1 rfl).symm) rfl rfl ⟨rfl,rfl,rfl,rfl,rfl,rfl⟩ (hr.gone.same (λx=>jt (g:=aI.gone) (λ_ _=>rfl) (λ_ _=>rfl) (λ_ _ _=>rfl) (λ_ _=>rfl))) rfl
theorem EI (hI:Inv0 S):(bN (toR S g).ns (toR S g).ns.length:Int)=S.X.af:=by
 show (bN (aA S) (aA S).length:Int)=S.X.af
 rw [eu,BZ];exact hI.total.1.symm
theorem VT (hr:RelR S g) (c:aD):ck (sJ (toR S g) c) (bU S c).1 (bU S c).2.1 0:=by
 have hI:=hr.inv.toInv0
 unfold sJ nQ bU
 rw [mQ hr,mQ hr]
 rcases iI hI c.handle c.name 64 with ⟨e,h,he⟩|⟨d,h,hd,-⟩
 ·rw [h];exact .bad rfl he
 rw [h]
 simp only
 rcases iI hI c.other c.text 192 with ⟨e,h,he⟩|⟨to,h,hto,-⟩
 ·rw [h];exact .bad rfl he
 rw [h]
 simp only
 unfold kr
 rcases jv hr hd c.name with ⟨h1,h2⟩|⟨t,h1,h2,hl,hk,htd⟩
 ·grind [ck,sJ,toR,bU]
 rw [h1,if_pos (by rw [h2];omega),h2,Int.toNat_natCast,j5 hI hl]
 show ck (if t.kind=2 then _ else _) _ _ _
 simp only
 by_cases h3:t.kind=2
 ·grind [ck,sJ,toR,bU]
 rw [if_neg h3,if_neg h3]
 have xV:t.k≠to:=by grind [gi]
 rcases jv hr hto c.text with ⟨h4,h5⟩|⟨u,h4,h5,-⟩
 ·rw [if_neg (by rw [h5];decide),if_pos h4,EI hI]
  by_cases h6:S.X.af<8192
  ·rw [if_pos h6,if_pos h6];exact Tj hr hto hl xV
  grind [ck,sJ,toR,bU]
 grind [ck,sJ,toR,bU]
theorem DJ (hI:Inv0 S):aA {S with O:=ay S.O (aE S.X) (λ_=>o)}=aA S:=by
 refine List.map_congr_left (λp hp=>?_)
 have h1:obj (ay S.O (aE S.X) (λ_=>o)) p.2.k=obj S.O p.2.k:=by rw [iw,if_neg (hI.fresh.idx p hp)]
 have h2:(obj S.O p.2.k).af.map (dJ (ay S.O (aE S.X) (λ_=>o)))=(obj S.O p.2.k).af.map (dJ S.O):=List.map_congr_left (λe he=>by
  unfold dJ;rw [iw,if_neg (hI.fresh.af _ e he)])
 unfold gI
 rw [h1,h2]
theorem Tk (hI:Inv0 S):∀x∈keys S.idx,x<S.X.last+1:=λx hx=>by
 cases e:ak.get S.idx x with
 |none=>exact absurd hx (get_none.1 e)
 |some t=>have:=(hI.idx _ _ e).2.2;omega
theorem Db (hI:Inv0 S):(dr S d name o).idx=S.idx++[(S.X.last+1,⟨aE S.X,o.kind⟩)]:=KF (Tk hI)
theorem Mf (hI:Inv0 S):nH (dr S d name o).idx/\Live (dr S d name o).idx ⟨aE S.X,o.kind⟩/\∀u,Live (dr S d name o).idx u↔u=⟨aE S.X,o.kind⟩\/Live S.idx u:=by
 have hn:S.X.last+1∉keys S.idx:=λh=>by have:=Tk hI _ h;omega
 have hk:=oq hI
 have hg:∀x,ak.get (dr S d name o).idx x=if x=S.X.last+1 then some ⟨aE S.X,o.kind⟩ else ak.get S.idx x:=λx=>by
  show ak.get (ins _ _ _) x=_
  rw [tv hn]
 have hl:Live (dr S d name o).idx ⟨aE S.X,o.kind⟩:=by show ak.get _ ((aE S.X:Nat):Int)=_;rw [hg,if_pos hk]
 refine⟨⟨wo hI.rise hn,λp hp=>?_⟩,hl,λu=>?_⟩
 ·rw [Db hI] at hp
  rcases List.mem_append.1 hp with h|h
  ·exact hI.ix.key p h
  grind
 constructor
 ·grind [dr,Live,aE]
 rintro (rfl|hu)
 ·exact hl
 show ak.get _ (u.k:Int)=some u
 rw [hg,if_neg (λq=>hn (by rw [←q];exact List.mem_map.2 ⟨_,get_mem hu,rfl⟩))];exact hu
theorem Dc (hr:RelR S g) (hd:Live S.idx ⟨d,2⟩) (ho:o.id=S.X.last+1/\o.sec=S.X.cS/\o.nano=S.X.cZ/\o.gone=false/\o.af=[]) (hn:n.kind=o.kind/\n.mode=o.mode/\n.uid=o.uid/\n.gid=o.gid/\n.data=o.data/\n.target=o.target/\n.af=[]) :
 gV (toR S g) (posR S ⟨d,2⟩) name n=toR (dr S d name o) g/\t7 (dr S d name o).idx (dr S d name o).O g:=by
 have hI:=hr.inv.toInv0
 have hk:=oq hI
 have htd:aE S.X≠d:=λe=>hI.fresh.idx _ (get_mem hd) e.symm
 have hat:=λx=>p8 (X:=S.X) (O:=ay S.O (aE S.X) (λ_=>o)) (d:=d) (name:=name) (t:=⟨aE S.X,o.kind⟩) (k:=x) htd
 obtain⟨h1,h2,h3,h4,h5⟩:=ho
 have hnew:obj (dr S d name o).O (aE S.X)={o with links:=o.links+1,up:=if o.kind=2 then some d else o.up}:=by
  show obj (bB _ _ _ _ _) _=_
  rw [hat,if_neg htd,if_pos rfl,iw,if_pos rfl]
 refine⟨Tg (R:=gV (toR S g) (posR S ⟨d,2⟩) name n) ?_ rfl rfl ⟨rfl,rfl,rfl,rfl,rfl,rfl⟩,⟨λu hu=>?_,λz hz=>?_⟩⟩
 ·have hg2:=Al (S:={S with O:=ay S.O (aE S.X) (λ_=>o)}) (S':={S with X:=(dr S d name o).X,O:=(dr S d name o).O}) (d:=d) (name:=name) (t:=⟨aE S.X,o.kind⟩) (id:=S.X.last+1) hI.ix hd htd (by
   show (obj (ay _ _ _) (aE S.X)).id=_
   rw [iw,if_pos rfl];exact h1) rfl
  rw [DJ hI,show posR {S with O:=ay S.O (aE S.X) (λ_=>o)} ⟨d,2⟩=posR S ⟨d,2⟩ by unfold posR;rw [DJ hI]] at hg2
  have hg3:aA (dr S d name o)=aA {S with X:=(dr S d name o).X,O:=(dr S d name o).O}++[gI (dr S d name o).O (S.X.last+1) ⟨aE S.X,o.kind⟩]:=by
   unfold aA
   rw [Db hI,List.map_append];rfl
  have hN:({n with id:=S.X.last+1,sec:=S.X.cS,nano:=S.X.cZ}:au)=gI (dr S d name o).O (S.X.last+1) ⟨aE S.X,o.kind⟩:=by
   unfold gI
   simp only
   rw [hnew,h5]
   obtain⟨ni,nk,nm,nu,ng,ns,nn,nda,nt,ne⟩:=n
   obtain⟨g1,g2,g3,g4,g5,g6,g7⟩:=hn
   simp only at g1 g2 g3 g4 g5 g6 g7 ⊢
   rw [g1,g2,g3,g4,g5,g6,g7,h2,h3];rfl
  rw [hg3,hg2,←hN];rfl
 ·rcases ((Mf hI).2.2 u).1 hu with rfl|I0
  ·constructor
   ·intro hz
    obtain⟨v,hv,e⟩:=hr.gone.live _ hz
    exact absurd (show v.k=aE S.X by exact Int.ofNat.inj e) (hI.fresh.idx _ (get_mem hv))
   intro h
   rw [hnew] at h
   have h:o.gone=true:=h
   rw [h4] at h;cases h
  refine (hr.gone.yx u I0).trans ?_
  have:(obj (dr S d name o).O u.k).gone=(obj S.O u.k).gone:=by
   refine Eq.trans (jt (g:=aI.gone) (λ_ _=>rfl) (λ_ _=>rfl) (λ_ _ _=>rfl) (λ_ _=>rfl)) ?_
   rw [iw,if_neg (hI.fresh.idx _ (get_mem I0))]
  rw [this]
 obtain⟨v,hv,e⟩:=hr.gone.live z hz
 exact⟨v,((Mf hI).2.2 v).2 (.inr hv),e⟩
end x
end
section
open Go.RowKit Go.Maps aR ak
section y
variable {S S' S2:aK} {g:List Int} {t u:Th} {d to k i j:Nat} {name toName:ByteArray} {O O':bZ} {h need id z:Int} {c:aD} {R:RS} {o:aI} {n:au}
theorem ud (hr:RelR S g) (hd:Live S.idx ⟨d,2⟩) (name:ByteArray) (hb:¬(n.kind=3/\iP n.target≠0)):(dH S.X S.O S.idx d name=0/\aL (toR S g) (posR S ⟨d,2⟩) name n=(gV (toR S g) (posR S ⟨d,2⟩) name n,0))\/(dH S.X S.O S.idx d name≠0/\aL (toR S g) (posR S ⟨d,2⟩) name n=(toR S g,dH S.X S.O S.idx d name)):=by
 unfold aL dH
 rw [if_neg hb]
 rcases jv hr hd name with ⟨h1,h2⟩|⟨t,h1,h2,-⟩
 ·rw [if_pos h1,if_neg (show ¬0<=aP (toR S g).ns (posR S ⟨d,2⟩) name by rw [h2];decide)]
  by_cases h3:Room S.X S.idx
  ·rw [if_pos ((L9 hr.inv.toInv0).2 h3),if_pos h3];exact .inl ⟨rfl,rfl⟩
  rw [if_neg (λq=>h3 ((L9 hr.inv.toInv0).1 q)),if_neg h3];exact .inr ⟨by decide,rfl⟩
 grind
theorem Ap (hr:RelR S g) (hd:Live S.idx ⟨d,2⟩) (name:ByteArray) (hb:¬(n.kind=3/\iP n.target≠0)) (ho:o.id=S.X.last+1/\o.sec=S.X.cS/\o.nano=S.X.cZ/\o.gone=false/\o.af=[]) (hn:n.kind=o.kind/\n.mode=o.mode/\n.uid=o.uid/\n.gid=o.gid/\n.data=o.data/\n.target=o.target/\n.af=[]) :
 ck ((aL (toR S g) (posR S ⟨d,2⟩) name n).1,0,(aL (toR S g) (posR S ⟨d,2⟩) name n).2) (if dH S.X S.O S.idx d name=0 then (0,dr S d name o) else (dH S.X S.O S.idx d name,S)).1 (if dH S.X S.O S.idx d name=0 then ((0:Int),dr S d name o) else (dH S.X S.O S.idx d name,S)).2 0:=by
 grind [ud,Dc,Live,iP,ck,aL,toR,posR,dH,dr]
theorem Tl (hr:RelR S g) (c:aD) (hop:c.op=4):ck (match ez (toR S g) c.handle c.name 192 with|.error e=>(toR S g,0,e)|.ok d=>eX (toR S g) c d) (eY S c).1 (eY S c).2.1 0:=by
 unfold eY
 rw [mQ hr]
 rcases iI hr.inv.toInv0 c.handle c.name 192 with ⟨e,h,he⟩|⟨d,h,hd,-⟩
 ·rw [h];exact .bad rfl he
 rw [h]
 simp only
 unfold eX
 rw [if_neg (by omega),if_neg (by omega)]
 by_cases hm:gS c.mode
 ·rw [if_pos hm,if_pos hm,if_neg (by omega)]
  exact Ap (o:=aZ S.X 2 c.mode) hr hd c.name (λq=>absurd (show (2:Int)=3 from q.1) (by decide)) ⟨rfl,rfl,rfl,rfl,rfl⟩ ⟨rfl,rfl,rfl,rfl,rfl,rfl,rfl⟩
 grind [ck,ez,toR,eX,eY]
theorem Nz (hr:RelR S g) (c:aD) (hop:c.op=6):ck (match ez (toR S g) c.handle c.name 192 with|.error e=>(toR S g,0,e)|.ok d=>eX (toR S g) c d) (dR S c).1 (dR S c).2.1 0:=by
 unfold dR
 rw [mQ hr]
 rcases iI hr.inv.toInv0 c.handle c.name 192 with ⟨e,h,he⟩|⟨d,h,hd,-⟩
 all_goals grind [eX,fY,iP,Ap,aZ,aL,ck,ez,toR,dR]
theorem Yv (hr:RelR S g) (hd:Live S.idx ⟨d,2⟩) (hl:aH name (obj S.O d).af=some t):ox name (nd (aA S) (posR S ⟨d,2⟩)).af 0=(t.k:Int):=by
 have hI:=hr.inv.toInv0
 rw [(kA hI.ix hd).2.2.2.2.2]
 show ox name ((obj S.O d).af.map (dJ S.O)) 0=_
 exact (O4 _ (hI.twice hd) hl).trans (hI.ob _ (hr.inv.ent hd hl).2).1
theorem Tm (hr:RelR S g) (hd:Live S.idx ⟨d,2⟩) (hl:aH name (obj S.O d).af=some t):(bC (toR S g) (posR S ⟨d,2⟩) name true).gone=if (obj S.O t.k).links-1=0 then g++[(t.k:Int)] else g:=by
 have hI:=hr.inv.toInv0
 have h2:qM (kq S.X.cS S.X.cZ (aA S) (posR S ⟨d,2⟩) (oW name (nd (aA S) (posR S ⟨d,2⟩)).af)) (t.k:Int)=(obj S.O t.k).links-1:=by
  rw [←vE (S:=S) (S':={S with O:=aC S.X S.O d name t}) hI.ix hd (hr.inv.ne hd hl) rfl (λ_=>rfl)]
  grind [Nx,aC]
 grind [qM,kq,aA,posR,oW,nd,ox,Yv,obj,Live,aH,bC,toR]
structure abB (S:aK) (d:Nat) (name:ByteArray) (t:Th) (g':List Int):Prop where
 gone:t7 S.idx (aB S d name t).O g'
 idx:(aB S d name t).idx=iM (aB S d name t).O S.idx t
 core:∀x,Proofs.YtnipofpbcggjcaaGreatDoor.core (obj (aB S d name t).O x)=Proofs.YtnipofpbcggjcaaGreatDoor.core (obj (aC S.X S.O d name t) x)
 opens:∀x,(obj (aB S d name t).O x).opens=(obj S.O x).opens
 others:∀x,x≠t.k->(obj (aB S d name t).O x).gone=(obj S.O x).gone
theorem Mg (hr:RelR S g) (hd:Live S.idx ⟨d,2⟩) (hl:aH name (obj S.O d).af=some t):abB S d name t (bC (toR S g) (posR S ⟨d,2⟩) name true).gone:=by
 have hI:=hr.inv.toInv0
 have hlt:=(hr.inv.ent hd hl).2
 have htd:=hr.inv.ne hd hl
 have hlk:(obj (aC S.X S.O d name t) t.k).links=(obj S.O t.k).links-1:=by grind [iQ]
 have hgo:∀x,(obj (aC S.X S.O d name t) x).gone=(obj S.O x).gone:=λx=>cD (g:=aI.gone) (λ_ _=>rfl) (λ_ _=>rfl) (λ_ _ _=>rfl)
 have hop:∀x,(obj (aC S.X S.O d name t) x).opens=(obj S.O x).opens:=λx=>cD (g:=aI.opens) (λ_ _=>rfl) (λ_ _=>rfl) (λ_ _ _=>rfl)
 rw [Tm hr hd hl]
 by_cases h0:(obj S.O t.k).links-1=0
 ·have hm:=uq (S:=S) (d:=d) (name:=name) (t:=t) (hlk.trans h0)
  have hO:(aB S d name t).O=qu (aC S.X S.O d name t) t.k:=by rw [hm]
  have hat:∀x,(obj (qu (aC S.X S.O d name t) t.k) x).gone=if x=t.k then true else (obj S.O x).gone:=λx=>by
   grind [qu,iw]
  rw [if_pos h0]
  refine⟨⟨λu hu=>?_,λz hz=>?_⟩,by rw [hO,hm],λx=>?_,λx=>?_,λx hx=>?_⟩
  ·rw [hO,hat,List.mem_append,List.mem_singleton]
   by_cases hx:u.k=t.k
   ·grind
   rw [if_neg hx,←hr.gone.yx u hu]
   grind
  ·rcases List.mem_append.1 hz with hz|hz
   ·exact hr.gone.live z hz
   grind
  ·rw [hO];exact cx (g:=Proofs.YtnipofpbcggjcaaGreatDoor.core) (f:=λo=>{o with gone:=true}) (λ_=>rfl)
  ·rw [hO];exact Eq.trans (cx (g:=aI.opens) (f:=λo=>{o with gone:=true}) (λ_=>rfl)) (hop x)
  rw [hO,hat,if_neg hx]
 have hm:=ur (S:=S) (d:=d) (name:=name) (t:=t) (λq=>h0 (hlk.symm.trans q))
 have hO:(aB S d name t).O=aC S.X S.O d name t:=by rw [hm]
 rw [if_neg h0]
 refine⟨by rw [hO];exact hr.gone.same hgo,?_,λx=>by rw [hO],λx=>by rw [hO];exact hop x,λx _=>by rw [hO];exact hgo x⟩
 rw [hO,hm]
 unfold iM
 rw [if_neg]
 rintro⟨h1,_⟩
 rw [hgo] at h1
 have h2:=hI.gone t hlt h1
 have h3:=hI.links t hlt
 have h4:=oo (idx:=S.idx) hd hl
 omega
theorem Hs (hr:RelR S g) (hu:Live S.idx u) (h:(obj S.O u.k).gone=true):0<hnd S.us u.k:=by
 have h1:=hr.inv.full u hu h
 rw [hr.inv.opens u hu] at h1;omega
theorem Mh (hr:RelR S g) (hd:Live S.idx ⟨d,2⟩) (hl:aH name (obj S.O d).af=some t) (h1:S2={aB S d name t with O:=S2.O}) (hc:∀x,core (obj S2.O x)=core (obj (aB S d name t).O x)) (hgo:∀x,(obj S2.O x).gone=(obj (aB S d name t).O x).gone) :
 ck (dF (bC (toR S g) (posR S ⟨d,2⟩) name true),0,0) 0 S2 0:=by
 have hI:=hr.inv.toInv0
 have hlt:=(hr.inv.ent hd hl).2
 have O5:=Mg hr hd hl
 have hX:S2.X=(aB S d name t).X:=by rw [h1]
 have hsw:=xU (S1:={S with O:=aC S.X S.O d name t}) (S2:=S2) (O2:=(aB S d name t).O) (Ma:=S.us) (R:=bC (toR S g) (posR S ⟨d,2⟩) name true) (t:=t) hI.ix
  (vE (S:=S) (S':={S with O:=aC S.X S.O d name t}) hI.ix hd (hr.inv.ne hd hl) rfl (λ_=>rfl)).symm rfl O5.gone hlt
  (λu hu hne Jf=>by
   rw [O5.others u.k (λe=>hne (gi hu hlt e))] at Jf
   exact Hs hr hu Jf)
  (by rw [O5.opens];exact hI.opens t hlt)
  (by have h:=congrArg aI.id (O5.core t.k);exact h.trans ((cD (g:=aI.id) (λ_ _=>rfl) (λ_ _=>rfl) (λ_ _ _=>rfl)).trans (hI.ob t hlt).1))
  (by rw [h1];exact O5.idx) (λx=>(hc x).trans (O5.core x)) hgo
 grind [Live,aH,obj,aB,core,ck,dF,bC,toR,posR]
end y
end
section
open Go.RowKit Go.Maps aR ak
section z
variable {S S' S2:aK} {g:List Int} {t u:Th} {d to k i j:Nat} {name toName:ByteArray} {O O':bZ} {h need id z:Int} {c:aD} {R:RS} {o:aI} {n:au}
theorem Ql (hr:RelR S g) (c:aD) (hop:c.op=5):ck (match ez (toR S g) c.handle c.name 192 with|.error e=>(toR S g,0,e)|.ok d=>eX (toR S g) c d) (cE S c).1 (cE S c).2.1 (cE S c).2.2.answer:=by
 have hI:=hr.inv.toInv0
 unfold cE
 rw [mQ hr]
 rcases iI hI c.handle c.name 192 with ⟨e,h,he⟩|⟨d,h,hd,-⟩
 ·rw [h];exact .bad rfl he
 rw [h]
 simp only
 unfold eX
 rw [if_neg (by omega),if_neg (by omega)]
 by_cases hm:gS c.mode
 rotate_left
 ·grind [ck,ez,toR,eX,cE]
 rw [if_pos hm,if_pos hm,if_pos hop]
 rcases ud (n:=⟨0,1,c.mode,0,0,0,0,[],⟨#[]⟩,[]⟩) hr hd c.name (λq=>absurd (show (1:Int)=3 from q.1) (by decide)) with ⟨h1,h2⟩|⟨h1,h2⟩
 rotate_left
 ·simp only
  rw [h2,if_neg h1,if_neg h1];exact .bad rfl h1
 simp only
 rw [h2,if_pos h1,if_pos (show (gV (toR S g) (posR S ⟨d,2⟩) c.name ⟨0,1,c.mode,0,0,0,0,[],⟨#[]⟩,[]⟩,(0:Int)).2=0 from rfl)]
 obtain⟨hA,hG⟩:=Dc (name:=c.name) (o:=aZ S.X 1 c.mode) (n:=⟨0,1,c.mode,0,0,0,0,[],⟨#[]⟩,[]⟩) hr hd ⟨rfl,rfl,rfl,rfl,rfl⟩ ⟨rfl,rfl,rfl,rfl,rfl,rfl,rfl⟩
 rw [hA]
 obtain⟨S1,hS1⟩:∃S1,S1=dr S d c.name (aZ S.X 1 c.mode):=⟨_,rfl⟩
 rw [←hS1] at hG ⊢
 have hk:=oq hI
 have htd:aE S.X≠d:=λe=>hI.fresh.idx _ (get_mem hd) e.symm
 have hidx:S1.idx=S.idx++[(S.X.last+1,⟨aE S.X,1⟩)]:=by rw [hS1];exact Db hI
 have hlen:(toR S1 g).ns.length-1=S.idx.length:=by
  show (aA S1).length-1=_
  rw [eu,hidx,List.length_append];rfl
 have hnd:(nd (toR S1 g).ns S.idx.length).id=(aE S.X:Int):=by
  show (nd (aA S1) S.idx.length).id=_
  rw [mh (by grind),hk]
  show dN S1 S.idx.length=_
  grind [dN]
 unfold kY
 rw [if_pos h1]
 unfold iN
 have eH:(toR S1 g).us=qD S.us:=by rw [hS1];rfl
 have hcH:(toR S1 g).cH=S.X.cH:=by rw [hS1];rfl
 have hpk:(toR S1 g).ar=S.ar:=by rw [hS1];rfl
 rw [hlen,hnd,eH,hcH,hpk,Da,Ch]
 by_cases hc:(S.us.length:Int)<S.X.cH
 rotate_left
 ·grind [ck,ez,toR,eX,cE]
 rw [if_pos hc,if_pos hc]
 have hat:∀(o:aI) x,obj (bB S.X (ay S.O (aE S.X) (λ_=>o)) d c.name ⟨aE S.X,1⟩) x=_:=λo x=>p8 (X:=S.X) (O:=ay S.O (aE S.X) (λ_=>o)) (d:=d) (name:=c.name) (t:=⟨aE S.X,1⟩) (k:=x) htd
 have hO1:S1.O=bB S.X (ay S.O (aE S.X) (λ_=>aZ S.X 1 c.mode)) d c.name ⟨aE S.X,1⟩:=by rw [hS1];rfl
 have hboth:∀x,core (obj (bB S.X (ay S.O (aE S.X) (λ_=>{aZ S.X 1 c.mode with opens:=1})) d c.name ⟨aE S.X,1⟩) x)=core (obj S1.O x)/\(obj (bB S.X (ay S.O (aE S.X) (λ_=>{aZ S.X 1 c.mode with opens:=1})) d c.name ⟨aE S.X,1⟩) x).gone=(obj S1.O x).gone:=λx=>by
  rw [hO1,hat,hat]
  by_cases hx:x=d
  ·grind [iw]
  rw [if_neg hx,if_neg hx]
  by_cases hx2:x=aE S.X
  ·rw [if_pos hx2,if_pos hx2,iw,iw,if_pos hx2,if_pos hx2];exact⟨rfl,rfl⟩
  grind [iw]
 refine .ok rfl ?_ (O0 (t:=⟨aE S.X,1⟩)).symm rfl ?_ ?_ rfl
 ·show aA S1=aA _
  grind [Aj,dr,ins,aE,aZ]
 ·rw [hS1];exact⟨rfl,rfl,rfl,rfl,rfl,rfl⟩
 rw [hS1] at hG
 exact hG.same (λx=>by have h:=(hboth x).2;rw [hS1] at h;exact h)
theorem Jg (hr:RelR S g) (hd:Live S.idx ⟨d,2⟩) (name:ByteArray):ck ((eW (toR S g) (posR S ⟨d,2⟩) name false).1,0,(eW (toR S g) (posR S ⟨d,2⟩) name false).2) (eU S d name).1 (eU S d name).2 0:=by
 have hI:=hr.inv.toInv0
 unfold eW eU
 rcases jv hr hd name with ⟨h1,h2⟩|⟨t,h1,h2,hl,hk,htd⟩
 ·grind [aP,toR,posR,Live,ck,eW,eU]
 rw [h1,if_pos (show 0<=aP (toR S g).ns (posR S ⟨d,2⟩) name by rw [h2];omega),h2,Int.toNat_natCast]
 simp only
 rw [j5 hI hl]
 by_cases h3:t.kind=2
 ·rw [if_pos ⟨trivial,h3⟩,if_pos h3];exact .bad rfl (show (172:Int)≠0 by decide)
 rw [if_neg (λq=>h3 q.2),if_neg (λq=>by cases q.1),if_neg (λq=>by cases q.1),if_neg h3]
 exact Mh hr hd h1 rfl (λ_=>rfl) (λ_=>rfl)
theorem Jh (hr:RelR S g) (hd:Live S.idx ⟨d,2⟩) (name:ByteArray):ck ((eW (toR S g) (posR S ⟨d,2⟩) name true).1,0,(eW (toR S g) (posR S ⟨d,2⟩) name true).2) (fT S d name).1 (fT S d name).2 0:=by
 have hI:=hr.inv.toInv0
 unfold eW fT
 rcases jv hr hd name with ⟨h1,h2⟩|⟨t,h1,h2,hl,hk,htd⟩
 ·grind [aP,toR,posR,Live,ck,eW,fT]
 rw [h1,if_pos (show 0<=aP (toR S g).ns (posR S ⟨d,2⟩) name by rw [h2];omega),h2,Int.toNat_natCast]
 simp only
 rw [j5 hI hl,if_neg (λq=>by cases q.1)]
 by_cases h3:t.kind=2
 rotate_left
 ·rw [if_pos ⟨trivial,h3⟩,if_neg h3];exact .bad rfl (show (173:Int)≠0 by decide)
 rw [if_neg (λq=>q.2 h3),if_pos h3]
 have hel:(gI S.O (t.k:Int) t).af.length=(obj S.O t.k).af.length:=List.length_map ..
 rw [hel]
 by_cases h4:(obj S.O t.k).af=[]
 ·rw [if_neg (by grind),if_pos h4]
  exact Mh hr hd h1 (S2:={aB S d name t with O:=orphan (aB S d name t).O t.k}) rfl (λx=>cx (g:=core) (f:=λo=>{o with up:=none}) (λ_=>rfl)) (λx=>cx (g:=aI.gone) (f:=λo=>{o with up:=none}) (λ_=>rfl))
 rw [if_pos ⟨trivial,List.length_pos_iff.2 h4⟩,if_neg h4];exact .bad rfl (show (178:Int)≠0 by decide)
theorem Qm (hr:RelR S g) (c:aD) (hop:c.op=8):ck (match ez (toR S g) c.handle c.name 192 with|.error e=>(toR S g,0,e)|.ok d=>eX (toR S g) c d) (fD S c).1 (fD S c).2.1 0:=by
 unfold fD
 rw [mQ hr]
 rcases iI hr.inv.toInv0 c.handle c.name 192 with ⟨e,h,he⟩|⟨d,h,hd,-⟩
 ·rw [h];exact .bad rfl he
 rw [h]
 simp only
 unfold eX
 rw [if_pos (.inl hop),show decide (c.op=14)=false from decide_eq_false (by omega)]
 exact Jg hr hd c.name
theorem Tn (hr:RelR S g) (c:aD) (hop:c.op=14):ck (match ez (toR S g) c.handle c.name 192 with|.error e=>(toR S g,0,e)|.ok d=>eX (toR S g) c d) (gA S c).1 (gA S c).2.1 0:=by
 unfold gA
 rw [mQ hr]
 rcases iI hr.inv.toInv0 c.handle c.name 192 with ⟨e,h,he⟩|⟨d,h,hd,-⟩
 ·rw [h];exact .bad rfl he
 grind [eX,Jh]
end z
end
section
open Go.RowKit Go.Maps aR ak
theorem DK {α:Type} {p q:α->Bool} (h:∀x,p x=true->q x=true):∀{l:List α} {a:α},a∈l->q a=true->p a=false->l.countP p<l.countP q
 |b::r,a,ha,hq,hp=>by
   rw [List.countP_cons,List.countP_cons]
   have hm:r.countP p<=r.countP q:=List.countP_mono_left (λx _ hx=>h x hx)
   rcases List.mem_cons.1 ha with rfl|ha
   ·rw [if_pos hq,if_neg (by rw [hp];decide)];omega
   have:=DK h ha hq hp
   by_cases hb:p b=true
   ·rw [if_pos hb,if_pos (h b hb)];omega
   rw [if_neg hb];omega
theorem Mi {ns:List au} {id:Int}:∀n,(∀i,i<n->¬0<fF (nd ns i).af id (nd ns i).af.length)->lf ns id n = -1
 |0,_=>rfl
 |n+1,h=>by
   unfold lf
   rw [if_neg (h n (Nat.lt_succ_self n))];exact Mi n (λi hi=>h i (by omega))
theorem Mj {ns:List au} {id:Int} {z:Nat} (hp:0<fF (nd ns z).af id (nd ns z).af.length):∀n,z<n->(∀i,i<n->0<fF (nd ns i).af id (nd ns i).af.length->i=z)->lf ns id n=(z:Int)
 |n+1,hz,hu=>by
   unfold lf
   by_cases h:0<fF (nd ns n).af id (nd ns n).af.length
   ·rw [if_pos h,hu n (Nat.lt_succ_self n) h]
   rw [if_neg h]
   exact Mj hp n (by grind) (λi hi=>hu i (by omega))
section q
variable {S S' S2:aK} {g:List Int} {t u:Th} {d to k i j:Nat} {name toName:ByteArray} {O O':bZ} {h need id z:Int} {c:aD} {R:RS} {o:aI} {n:au}
theorem O6 (hI:Inv0 S) (hi:i<S.idx.length):0<fF (nd (aA S) i).af (k:Int) (nd (aA S) i).af.length↔∃e∈(obj S.O (fZ S i).k).af,e.2.k=k:=by
 have hl:=(C9 hI.ix hi).1
 rw [mh hi]
 show 0<fF ((obj S.O (fZ S i).k).af.map (dJ S.O)) _ ((obj S.O (fZ S i).k).af.map (dJ S.O)).length↔_
 rw [List.length_map,Am (λe he=>(hI.ob _ (hI.af _ hl e he).2).1) _ (Nat.le_refl _),List.take_length,List.countP_pos_iff]
 grind
theorem aaz (hI:Inv0 S) (hu:Live S.idx u) (h2:u.kind=2):lf (aA S) (u.k:Int) (aA S).length=match (obj S.O u.k).up with|none=>-1|some j=>(posR S ⟨j,2⟩:Int):=by
 have key:∀i,i<S.idx.length->0<fF (nd (aA S) i).af (u.k:Int) (nd (aA S) i).af.length->(obj S.O u.k).up=some (fZ S i).k/\fZ S i=⟨(fZ S i).k,2⟩:=λi hi hp=>by
  obtain⟨e,he,hek⟩:=(O6 hI hi).1 hp
  have hl:=(C9 hI.ix hi).1
  have hk2:(fZ S i).kind=2:=by
   apply Classical.byContradiction
   intro hn
   have h3:=(hI.mt _ hl).af (by rw [(hI.ob _ hl).2.1];exact hn)
   rw [h3] at he;cases he
  have ht:fZ S i=⟨(fZ S i).k,2⟩:=by rw [←hk2]
  have heu:e.2=u:=gi (hI.af _ hl e he).2 hu hek
  refine⟨(hI.up u hu _).2 ⟨h2,by rw [←ht];exact hl,e.1,?_⟩,ht⟩
  exact wu (hI.twice hl) (by rw [←heu];exact he)
 rw [eu]
 cases e:(obj S.O u.k).up with
 |none=>
   grind [Mi]
 |some j=>
   obtain⟨_,hj,nm,hnm⟩:=(hI.up u hu j).1 e
   have hp:=kA hI.ix hj
   refine Mj ((O6 hI hp.2.1).2 ⟨(nm,u),?_,rfl⟩) _ hp.2.1 (λi hi hq=>?_)
   ·rw [hp.2.2.1];exact oG hnm
   obtain⟨h3,h4⟩:=key i hi hq
   rw [e] at h3
   injection h3 with h3
   refine F9 hI.ix hi hp.2.1 ?_
   rw [(C9 hI.ix hi).2,hp.2.2.2.1,←h3]
theorem Tp (hI:Inv0 S) (ht:Live S.idx t) (h2:t.kind=2) (hto:Live S.idx ⟨to,2⟩):gu (aA S) (posR S t) ((aA S).length+1) (posR S ⟨to,2⟩)=true↔pq S.O t.k to:=by
 obtain⟨dp,hdp⟩:=hI.deep
 have main:∀(f d:Nat),Live S.idx ⟨d,2⟩->S.idx.countP (λp=>decide (dp p.2.k<dp d))<f->(gu (aA S) (posR S t) f (posR S ⟨d,2⟩)=true↔pq S.O t.k d):=by
  intro f
  induction f with
  |zero=>intro d _ h;omega
  |succ f ih=>
    intro d hd hm
    have hp:=kA hI.ix hd
    unfold gu
    by_cases hdt:posR S ⟨d,2⟩=posR S t
    ·rw [if_pos hdt]
     have:=OZ hI.ix hd ht hdt
     rw [←this]
     exact⟨λ_=>.here,λ_=>rfl⟩
    rw [if_neg hdt,hp.2.2.2.2.2]
    show (if lf (aA S) (d:Int) (aA S).length<0 then false else gu (aA S) (posR S t) f (lf (aA S) (d:Int) (aA S).length).toNat)=true↔_
    have hu:lf (aA S) (d:Int) (aA S).length=_:=aaz hI hd rfl
    have hdk:d≠t.k:=λe=>hdt (by rw [show (⟨d,2⟩:Th)=t by rw [e,←h2]])
    cases e:(obj S.O d).up with
    |none=>
      rw [show (obj S.O (⟨d,2⟩:Th).k).up=none from e] at hu
      replace hu:lf (aA S) (d:Int) (aA S).length = -1:=hu
      rw [hu,if_pos (by decide)]
      refine⟨λq=>absurd q (by decide),λq=>?_⟩
      cases q with
      |here=>exact absurd rfl hdk
      |up h3 _=>rw [e] at h3;cases h3
    |some j=>
      rw [show (obj S.O (⟨d,2⟩:Th).k).up=some j from e] at hu
      replace hu:lf (aA S) (d:Int) (aA S).length=(posR S ⟨j,2⟩:Int):=hu
      obtain⟨_,hj,_⟩:=(hI.up _ hd j).1 e
      have hlt:=hdp d j e
      rw [hu,if_neg (by omega),Int.toNat_natCast,ih j hj (Nat.lt_of_lt_of_le (DK (p:=λp:Int×Th=>decide (dp p.2.k<dp j)) (q:=λp=>decide (dp p.2.k<dp d)) (λx hx=>decide_eq_true (by have:=of_decide_eq_true hx;omega)) (get_mem hj) (decide_eq_true hlt) (decide_eq_false (Nat.lt_irrefl _))) (Nat.lt_succ_iff.1 hm))]
      refine⟨λq=>.up e q,λq=>?_⟩
      cases q with
      |here=>exact absurd rfl hdk
      |up h3 h4=>rw [e] at h3;injection h3 with h3;rw [h3];exact h4
 grind [eu]
end q
end
section
open Go.RowKit Go.Maps aR ak
section j
variable {S S' S2:aK} {g:List Int} {t u:Th} {d to k i j:Nat} {name toName:ByteArray} {O O':bZ} {h need id z:Int} {c:aD} {R:RS} {o:Th} {n:au}
theorem DL {X:FM} {x:Nat}:(obj (aC X O d name t) x).gone=(obj O x).gone:=cD (g:=aI.gone) (λ_ _=>rfl) (λ_ _=>rfl) (λ_ _ _=>rfl)
theorem Cl {X:FM} {x:Nat}:(obj (aC X O d name t) x).opens=(obj O x).opens:=cD (g:=aI.opens) (λ_ _=>rfl) (λ_ _=>rfl) (λ_ _ _=>rfl)
theorem xW {X:FM} {x:Nat}:(obj (aC X O d name t) x).id=(obj O x).id:=cD (g:=aI.id) (λ_ _=>rfl) (λ_ _=>rfl) (λ_ _ _=>rfl)
theorem DM {X:FM} {x:Nat}:(obj (bB X O d name t) x).gone=(obj O x).gone:=jt (g:=aI.gone) (λ_ _=>rfl) (λ_ _=>rfl) (λ_ _ _=>rfl) (λ_ _=>rfl)
theorem Cm {X:FM} {x:Nat}:(obj (bB X O d name t) x).opens=(obj O x).opens:=jt (g:=aI.opens) (λ_ _=>rfl) (λ_ _=>rfl) (λ_ _ _=>rfl) (λ_ _=>rfl)
theorem Ji {X:FM} {x:Nat}:(obj (bB X O d name t) x).id=(obj O x).id:=jt (g:=aI.id) (λ_ _=>rfl) (λ_ _=>rfl) (λ_ _ _=>rfl) (λ_ _=>rfl)
theorem VU (hr:RelR S g) (hd:Live S.idx ⟨d,2⟩) (hl:aH name (obj S.O d).af=some t):(obj S.O t.k).gone≠true:=λh=>by
 have hI:=hr.inv.toInv0
 have hlt:=(hr.inv.ent hd hl).2
 have h2:=hI.gone t hlt h
 have h3:=hI.links t hlt
 have h4:=oo (idx:=S.idx) hd hl
 omega
theorem DN (R:RS) (d:Nat) (name:ByteArray):(bC R d name false).gone=R.gone:=by
 grind [bC]
theorem O7 {S1:aK} (hx:nH S.idx) (hi:S1.idx=S.idx) (hX:S1.X.cS=S.X.cS/\S1.X.cZ=S.X.cZ) (hns:R.ns=aA S1) (hRs:R.cS=S.X.cS/\R.cZ=S.X.cZ) (hd:Live S.idx ⟨d,2⟩) (hto:Live S.idx ⟨to,2⟩) (htd:t.k≠d) (xV:t.k≠to) (hid:(obj S1.O t.k).id=(t.k:Int))
 (hi2:S2.idx=S.idx) (hO:S2.O=bB S1.X (aC S1.X S1.O d name t) to toName t) :
 (bE (bC R (posR S ⟨d,2⟩) name false) (posR S ⟨to,2⟩) toName (t.k:Int)).ns=aA S2:=by
 have hx1:nH S1.idx:=by rw [hi];exact hx
 have hd1:Live S1.idx ⟨d,2⟩:=by rw [hi];exact hd
 have lH:Live S1.idx ⟨to,2⟩:=by rw [hi];exact hto
 have hl:=vE (S:=S1) (S':={S1 with O:=aC S1.X S1.O d name t}) (name:=name) hx1 hd1 htd rfl (λ_=>rfl)
 have he:=Al (S:={S1 with O:=aC S1.X S1.O d name t}) (S':={S1 with O:=bB S1.X (aC S1.X S1.O d name t) to toName t}) (name:=toName) (id:=(t.k:Int)) hx1 lH xV (xW.trans hid) rfl
 grind [aA,bB,aC,posR,VS,kq,jP,nd,Live,obj,bE,bC]
theorem Tq (hr:RelR S g) (hd:Live S.idx ⟨d,2⟩) (hl:aH name (obj S.O d).af=some t) (hto:Live S.idx ⟨to,2⟩) (xV:t.k≠to) :
 ck (dF (bE (bC (toR S g) (posR S ⟨d,2⟩) name false) (posR S ⟨to,2⟩) toName (t.k:Int)),0,0) 0 (mB S d name to toName t) 0:=by
 have hI:=hr.inv.toInv0
 have hlt:=(hr.inv.ent hd hl).2
 have htd:=hr.inv.ne hd hl
 obtain⟨S2,qC⟩:∃S2,S2=mB S d name to toName t:=⟨_,rfl⟩
 have hi2:S2.idx=S.idx:=by rw [qC];rfl
 have Ga:S2.O=bB S.X (aC S.X S.O d name t) to toName t:=by rw [qC];rfl
 have hgo:∀x,(obj S2.O x).gone=(obj S.O x).gone:=λx=>by rw [Ga];exact DM.trans DL
 have hns:(bE (bC (toR S g) (posR S ⟨d,2⟩) name false) (posR S ⟨to,2⟩) toName (t.k:Int)).ns=aA S2:=O7 (S1:=S) hI.ix rfl ⟨rfl,rfl⟩ rfl ⟨rfl,rfl⟩ hd hto htd xV (hI.ob t hlt).1 hi2 Ga
 have hgn:(bE (bC (toR S g) (posR S ⟨d,2⟩) name false) (posR S ⟨to,2⟩) toName (t.k:Int)).gone=g:=DN (toR S g) (posR S ⟨d,2⟩) name
 have hsw:=xU (S1:=S2) (S2:=S2) (O2:=S2.O) (Ma:=S.us) (R:=bE (bC (toR S g) (posR S ⟨d,2⟩) name false) (posR S ⟨to,2⟩) toName (t.k:Int)) (t:=t) (by rw [hi2];exact hI.ix) hns rfl
  (by rw [hgn,hi2];exact hr.gone.same hgo) (by rw [hi2];exact hlt)
  (λu hu _ Jf=>by grind [Hs])
  (by rw [Ga,Cm,Cl];exact hI.opens t hlt) (by rw [Ga,Ji,xW];exact (hI.ob t hlt).1)
  (by unfold iM;rw [if_neg];exact λq=>VU hr hd hl ((hgo _).symm.trans q.1)) (λ_=>rfl) (λ_=>rfl)
 grind [Live,aH,obj,ck,dF,bE,bC,toR,posR,mB]
theorem Qn {idx:Used Th} (h1:(obj O' o.k).gone=(obj O o.k).gone) (h2:(obj O' o.k).opens=(obj O o.k).opens) (h3:(obj O' o.k).id=(obj O o.k).id):iM O' idx o=iM O idx o:=by
 grind [qY,iM]
theorem Tr (hr:RelR S g) (hd:Live S.idx ⟨d,2⟩) (hl:aH name (obj S.O d).af=some t) (hto:Live S.idx ⟨to,2⟩) (xV:t.k≠to) (ho:aH toName (obj S.O to).af=some o) :
 ck (dF (bE (bC (bC (toR S g) (posR S ⟨to,2⟩) toName true) (posR S ⟨d,2⟩) name false) (posR S ⟨to,2⟩) toName (t.k:Int)),0,0) 0 (mB (aB S to toName o) d name to toName t) 0:=by
 have hI:=hr.inv.toInv0
 have hlt:=(hr.inv.ent hd hl).2
 have hlo:=(hr.inv.ent hto ho).2
 have htd:=hr.inv.ne hd hl
 obtain⟨e1,e2,e3,e4,e5⟩:=Mg hr hto ho
 obtain⟨D,hD⟩:∃D,D=aB S to toName o:=⟨_,rfl⟩
 rw [←hD] at e1 e2 e3 e4 e5 ⊢
 obtain⟨g1,hg1⟩:∃g1,g1=(bC (toR S g) (posR S ⟨to,2⟩) toName true).gone:=⟨_,rfl⟩
 rw [←hg1] at e1
 have hDX:D.X.cS=S.X.cS/\D.X.cZ=S.X.cZ:=by rw [hD];exact⟨rfl,rfl⟩
 obtain⟨R,hR⟩:∃R,R=bE (bC (bC (toR S g) (posR S ⟨to,2⟩) toName true) (posR S ⟨d,2⟩) name false) (posR S ⟨to,2⟩) toName (t.k:Int):=⟨_,rfl⟩
 obtain⟨S2,qC⟩:∃S2,S2=mB D d name to toName t:=⟨_,rfl⟩
 have Ga:S2.O=bB D.X (aC D.X D.O d name t) to toName t:=by rw [qC];rfl
 have hi2:S2.idx=D.idx:=by rw [qC];rfl
 have hgo:∀x,(obj S2.O x).gone=(obj D.O x).gone:=λx=>by rw [Ga];exact DM.trans DL
 have hop:∀x,(obj S2.O x).opens=(obj S.O x).opens:=λx=>by rw [Ga];exact (Cm.trans Cl).trans (e4 x)
 have aaA:∀x,(obj D.O x).id=(obj S.O x).id:=λx=>by
  have h:=congrArg aI.id (e3 x)
  have h:(obj D.O x).id=(obj (aC S.X S.O to toName o) x).id:=h
  exact h.trans xW
 have hid:∀x,(obj S2.O x).id=(obj D.O x).id:=λx=>by rw [Ga];exact Ji.trans xW
 have hn1:(bC (toR S g) (posR S ⟨to,2⟩) toName true).ns=aA {S with O:=D.O,X:=D.X}:=
  (vE (S:=S) (S':={S with O:=D.O,X:=D.X}) hI.ix hto (hr.inv.ne hto ho) rfl e3).symm
 have hns:R.ns=aA {S2 with idx:=S.idx}:=by
  rw [hR]
  exact O7 (S:=S) (S1:={S with O:=D.O,X:=D.X}) (S2:={S2 with idx:=S.idx}) hI.ix rfl hDX hn1 ⟨rfl,rfl⟩ hd hto htd xV ((aaA _).trans (hI.ob t hlt).1) rfl Ga
 have hgn:R.gone=g1:=by rw [hR,hg1];exact DN (bC (toR S g) (posR S ⟨to,2⟩) toName true) (posR S ⟨d,2⟩) name
 have hsw:=xU (S1:={S2 with idx:=S.idx}) (S2:=S2) (O2:=S2.O) (Ma:=S.us) (R:=R) (t:=o) hI.ix hns (by rw [hR];rfl)
  (by rw [hgn];exact e1.same hgo) hlo
  (λu hu hne Jf=>by
   rw [hgo,e5 u.k (λe=>hne (gi hu hlo e))] at Jf
   exact Hs hr hu Jf)
  (by rw [hop];exact hI.opens o hlo) (by rw [hid,aaA];exact (hI.ob o hlo).1)
  (by
   rw [hi2,e2]
   exact (Qn (hgo _) ((hop _).trans (e4 _).symm) (hid _)).symm) (λ_=>rfl) (λ_=>rfl)
 grind [Live,aH,obj,ck,dF,bE,bC,toR,posR,mB,aB]
theorem Jj (hr:RelR S g) (hd:Live S.idx ⟨d,2⟩) (hto:Live S.idx ⟨to,2⟩) (name toName:ByteArray):ck ((d9 (toR S g) (posR S ⟨d,2⟩) name (posR S ⟨to,2⟩) toName).1,0,(d9 (toR S g) (posR S ⟨d,2⟩) name (posR S ⟨to,2⟩) toName).2) (bF S d name to toName).1 (bF S d name to toName).2 0:=by
 have hI:=hr.inv.toInv0
 unfold d9 bF
 rcases jv hr hd name with ⟨h1,h2⟩|⟨t,h1,h2,hl,hk,htd⟩
 ·grind [aP,toR,posR,Live,ck,d9,bF]
 rw [h1,if_pos (show 0<=aP (toR S g).ns (posR S ⟨d,2⟩) name by rw [h2];omega),h2,Int.toNat_natCast]
 simp only
 rw [j5 hI hl]
 have hb:t.kind=2->(gu (toR S g).ns (posR S t) ((toR S g).ns.length+1) (posR S ⟨to,2⟩)=true↔pq S.O t.k to):=λq=>Tp hI hl q hto
 simp only [show (gI S.O (t.k:Int) t).kind=t.kind from rfl,show (gI S.O (t.k:Int) t).id=(t.k:Int) from rfl]
 by_cases h3:t.kind=2/\pq S.O t.k to
 ·grind [gu,toR,posR,Live,ck,d9,bF]
 rw [if_neg (show ¬(t.kind=2/\gu (toR S g).ns (posR S t) ((toR S g).ns.length+1) (posR S ⟨to,2⟩)=true) from λq=>h3 ⟨q.1,(hb q.1).1 q.2⟩),if_neg h3]
 have xV:t.k≠to:=λe=>by
  have h4:t=⟨to,2⟩:=gi hl hto e
  exact h3 ⟨by rw [h4],by rw [e];exact .here⟩
 rcases jv hr hto toName with ⟨h4,h5⟩|⟨o,h4,h5,hlo,hko,hot⟩
 ·grind [aP,toR,posR,Tq]
 rw [h4,h5]
 simp only
 by_cases h6:o=t
 ·rw [if_pos (by rw [h6]),if_pos h6];exact .same hr rfl
 rw [if_neg (λq=>h6 (OZ hI.ix hlo hl (by omega))),if_neg h6,if_pos (by omega),Int.toNat_natCast,j5 hI hlo]
 grind [gI,Tr,Live,ck,d9,toR,posR,bF]
theorem Qo (hr:RelR S g) (c:aD):ck (match nQ (toR S g) c 192 with|.error e=>(toR S g,0,e)|.ok (f,to)=>((d9 (toR S g) f c.name to c.text).1,0,(d9 (toR S g) f c.name to c.text).2)) (eF S c).1 (eF S c).2.1 0:=by
 unfold nQ eF
 rw [mQ hr,mQ hr]
 rcases iI hr.inv.toInv0 c.handle c.name 192 with ⟨e,h,he⟩|⟨d,h,hd,-⟩
 ·rw [h];exact .bad rfl he
 rw [h]
 simp only
 rcases iI hr.inv.toInv0 c.other c.text 192 with ⟨e,h,he⟩|⟨to,h,hto,-⟩
 ·rw [h];exact .bad rfl he
 grind [Jj]
end j
end
section
open Go.RowKit Go.Maps aR ak
section g
variable {S S' S2:aK} {g:List Int} {t u:Th} {d to k i j:Nat} {c:aD}
theorem ck.an {a:tI} {code an an':Int} (h:ck a code S' an) (h2:code=0->an=an'):ck a code S' an':=⟨h.1,λq=>by obtain⟨g',h3,h4,h5⟩:=h.2 q;exact⟨g',h3,h4,h5.trans (h2 q)⟩⟩
theorem VW (h:(cu S t).2.1≠0):(cu S t).1=0:=by
 grind [j9,lM]
def Told (c:aD) (m:qH):Prop:=m.2.2={c with answer:=m.2.2.answer}/\(m.1≠0->m.2.2.answer=c.answer)
theorem Told.plain {m:qH} (h:m.2.2=c):Told c m:=⟨by rw [h],λ_=>by rw [h]⟩
theorem Cn (h0:c.answer=0):Told c ((cu S t).2.1,(cu S t).2.2,{c with answer:=(cu S t).1}):=⟨rfl,λh=>Eq.trans (VW (S:=S) (t:=t) h) h0.symm⟩
theorem Ts (h0:c.answer=0):Told c (iB S c):=by
 unfold iB
 split
 ·exact .plain rfl
 split
 ·exact Cn h0
 exact .plain rfl
theorem VX (h0:c.answer=0):Told c (dw S c):=by
 unfold dw
 split
 ·exact .plain rfl
 split
 ·exact .plain rfl
 split
 ·exact .plain rfl
 exact Cn h0
theorem Tt (h0:c.answer=0):Told c (cQ S c):=by
 unfold cQ
 split
 ·exact .plain rfl
 split
 ·exact .plain rfl
 split
 ·exact .plain rfl
 exact Cn h0
theorem NA (h0:c.answer=0):Told c (cE S c):=by
 unfold cE
 split
 ·exact .plain rfl
 split
 ·split
  all_goals grind [kY,Told,cE]
 exact .plain rfl
theorem Qp (h0:c.answer=0):Told c (dM S c):=by
 unfold dM
 split
 ·exact .plain rfl
 split
 all_goals grind [dL,Told,dM]
theorem Tv (hr:RelR S g) (c:aD) (hop:¬(c.op=11\/c.op=12)):ck (aT (toR S g) c) (fe S (c0 c)).1 (fe S (c0 c)).2.1 (fe S (c0 c)).2.2.answer/\Told (c0 c) (fe S (c0 c)):=by
 have plain:∀{a:tI} {m:qH},m.2.2=c0 c->ck a m.1 m.2.1 0->ck a m.1 m.2.1 m.2.2.answer/\Told (c0 c) m:=λ{a m} h1 h2=>⟨h2.an (λ_=>by rw [h1]),.plain h1⟩
 unfold aT
 by_cases h1:c.op=1
 ·rw [if_pos h1,zF (c:=c0 c) h1];exact⟨VO hr (c0 c),Ts rfl⟩
 rw [if_neg h1]
 by_cases h2:c.op=2
 ·rw [if_pos h2,zG (c:=c0 c) h2];exact⟨Ny hr (c0 c),VX rfl⟩
 rw [if_neg h2]
 by_cases h3:c.op=3
 ·rw [if_pos h3,CQ (c:=c0 c) h3];exact⟨Mc hr (c0 c),Tt rfl⟩
 rw [if_neg h3]
 by_cases h4:c.op=4\/c.op=5\/c.op=6\/c.op=8\/c.op=14
 ·rw [if_pos h4]
  rcases h4 with h|h|h|h|h
  ·grind [zH,eY,Tl]
  ·rw [CR (c:=c0 c) h];exact⟨Ql hr (c0 c) h,NA rfl⟩
  ·grind [CS,dR,Nz]
  ·grind [CV,fD,Qm]
  grind [yT,gA,Tn]
 rw [if_neg h4]
 by_cases h7:c.op=7
 ·grind [CU,bU,VT]
 rw [if_neg h7]
 by_cases h9:c.op=9
 ·rw [if_pos h9,CW (c:=c0 c) h9]
  exact⟨(VR hr (c0 c)).an (λq=>if_pos q),Qp rfl⟩
 rw [if_neg h9]
 by_cases h10:c.op=10
 ·grind [yP,bA,VQ]
 rw [if_neg h10]
 by_cases p6:c.op=13
 ·grind [yS,gq,Ti]
 rw [if_neg p6]
 by_cases Kl:c.op=15
 ·grind [yU,eF,Qo]
 grind [fe,ck,aT,toR,Told]
theorem VY (hr:RelR S g) (c:aD):∃g',qv (toR S g) c=(toR (iH S c).1 g',(iH S c).2)/\RelR (iH S c).1 g':=by
 unfold qv
 by_cases hop:c.op=11\/c.op=12
 ·rw [if_pos hop,VP hr c hop];exact⟨g,rfl,hr⟩
 rw [if_neg hop]
 obtain⟨h1,h2,h3⟩:=Tv hr c hop
 by_cases h0:(fe S (c0 c)).1=0
 ·rw [if_pos (h1.1.trans h0)]
  obtain⟨g',e1,e2,e3⟩:=h1.2 h0
  refine⟨g',?_,hr.inv.iH c,e2⟩
  grind [toR,fe,qv,iH]
 rw [if_neg (λq=>h0 (h1.1.symm.trans q))]
 have hS:(iH S c).1=S:=Yd (c:=c) h0
 refine⟨g,?_,by rw [hS];exact hr⟩
 rw [hS,h1.1]
 grind [fe,qv,toR,iH]
end g
end
section
open Go.RowKit
def jS (β:Bs) (Φ:Bs->Prop):cK where
 h F w:=∃β':Bs,β.le β'/\(∀k,β'.O k->β.O k\/F k)/\(∀k,F k->β'.O k)/\β'.w0.heap.size<=w.heap.size/\(∀k,F k->k<β'.w0.heap.size/\w.heap[k]?=β'.w0.heap[k]?)/\Φ β'
 lt:=λ⟨_,_,_,_,h4,h5,_⟩ k hk=>Nat.lt_of_lt_of_le (h5 k hk).1 h4
 st:=λ⟨β',h1,h2,h3,h4,h5,h6⟩ _ _ hk hs=>⟨β',h1,h2,h3,Nat.le_trans h4 hk.size,λk hF=>⟨(h5 k hF).1,(hk.block k (Nat.lt_of_lt_of_le (h5 k hF).1 h4) (hs k hF)).trans (h5 k hF).2⟩,h6⟩
section O8
variable {P:Program} {β:Bs} {N:dx} {ops:Array Oper} {k:Nat} {fr:Fr} {hps dS:List HP} {Q:Post} {f:FuncId} {args:Array Value} {pre:List HP}
theorem bV.O8 {ι:Type} {vv:ι->Value} {ll:ι->List HP} {Φ:ι->Bs->Prop} (h:bV P β f args pre (λβ' v l=>∃x,v=vv x/\l=ll x/\Φ x β')):Spec P β f args pre (λv l=>∃x,v=vv x/\l=.abs (jS β (Φ x))::ll x):=by
 intro R w hS
 refine (h R w hS).mono ?_
 rintro e w' ⟨β',v,l,hle,he,⟨x,rfl,rfl,NU⟩,ho,φ,h1,h2,h3⟩
 refine⟨vv x,_,he,⟨x,rfl,rfl⟩,ho.le hle,λi=>match i with
  |0=>λk=>β'.O k/\¬β.O k
  |i+1=>φ i,λi p hp=>?_,λi hi k hk hO=>?_,λi j hi hj hne k hk hk'=>?_⟩
 ·cases i with
  |zero=>
    have hp:some (HP.abs (jS β (Φ x)))=some p:=hp
    cases hp
    exact⟨β',hle,λk hk=>(Classical.em (β.O k)).elim .inl (λhn=>.inr ⟨hk,hn⟩),λk hk=>hk.1,ho.size,λk hk=>ho.old k hk.1,NU⟩
  |succ i=>exact h1 i p (by simpa using hp)
 ·cases i with
  |zero=>exact hk.2 hO
  |succ i=>exact h2 i (by simp at hi ⊢;omega) k hk (hle.O k hO)
 cases i with
 |zero=>
   cases j with
   |zero=>exact hne rfl
   |succ j=>exact h2 j (by simp at hj ⊢;omega) k hk' hk.1
 |succ i=>
   cases j with
   |zero=>exact h2 i (by simp at hi ⊢;omega) k hk hk'.1
   |succ j=>exact h3 i j (by simp at hi ⊢;omega) (by simp at hj ⊢;omega) (by omega) k hk hk'
theorem Sat.Ar {Φ:Bs->Prop} {l:List HP} {w:World} (h:Sat β (.abs (jS β Φ)::l) w):∃β':Bs,β.le β'/\Φ β'/\Sat β' l w:=by
 obtain⟨ho,φ,h1,h2,h3⟩:=h
 have hF:(jS β Φ).h (φ 0) w:=h1 0 _ rfl
 obtain⟨β',g1,g2,g3,g4,g5,g6⟩:=hF
 refine⟨β',g1,g6,⟨ho.os.trans g1.os.symm,ho.tape.trans g1.tape.symm,ho.output.trans g1.output.symm,g4,λk hk=>?_⟩,λj=>φ (j+1),λj p hp=>h1 (j+1) p (by simpa using hp),λj hj k hk hO=>?_,λa b ha hb hne=>h3 (a+1) (b+1) (by simp;omega) (by simp;omega) (by omega)⟩
 ·rcases g2 k hk with hb|hb
  ·have e1:=g1.old k hb
   have e2:=ho.old k hb
   grind
  exact g5 k hb
 rcases g2 k hO with hb|hb
 ·exact h2 (j+1) (by simp;omega) k hk hb
 exact h3 (j+1) 0 (by simp;omega) (by simp) (by omega) k hk hb
theorem ai.Ar {Φ:Bs->Prop} (i:Nat) (idx:List Nat) (hp:hps[i]?=some (.abs (jS β Φ))) (hn:nodupB (i::idx)=true) (hl:bh hps idx=some dS)
 (K:∀β':Bs,β.le β'->Φ β'->ai P β' N ops k fr dS Q):ai P β N ops k fr hps Q:=λjunk w hS=>by
 obtain⟨β',g1,g2,g3⟩:=(hS.pick (idx:=i::idx) (l':=.abs (jS β Φ)::dS) hn (by simp only [bh,hp,hl])).Ar
 exact K β' g1 g2 junk w g3
theorem Spec.Qq {Φ:Bs->Prop} {post:Value->List HP->Prop} (h:∀β':Bs,β.le β'->Φ β'->Spec P β' f args pre post):Spec P β f args (.abs (jS β Φ)::pre) post:=by
 intro R w hS
 obtain⟨β',g1,g2,g3⟩:=Sat.Ar (l:=pre++[.abs R]) hS
 refine (h β' g1 g2 R w g3).mono ?_
 rintro e w' ⟨v,l,h1,h2,h3⟩
 exact⟨v,l,h1,h2,h3.J1 g1⟩
end O8
end
section
open Go.RowKit
section
variable {O:bZ} {k:Nat} {kd:Int}
theorem uU (L:HL) (h:(obj O k).kind=kd) (h0:kd≠0:=by decide):∀F w,(ax (ct O L)).h F w->w.cell? ⟨L.b k,0,none⟩=some (.int .i64 (obj O k).id):=fS (by rw [h];exact h0) rfl
theorem wV (L:HL) (h:(obj O k).kind=kd) (h0:kd≠0:=by decide):∀F w,(ax (ct O L)).h F w->w.cell? ⟨L.b k,1,none⟩=some (.int .i64 (obj O k).mode):=fS (by rw [h];exact h0) rfl
theorem Dd (L:HL) (h:(obj O k).kind=kd) (h0:kd≠0:=by decide):∀F w,(ax (ct O L)).h F w->w.cell? ⟨L.b k,2,none⟩=some (.int .i64 (obj O k).uid):=fS (by rw [h];exact h0) rfl
theorem Df (L:HL) (h:(obj O k).kind=kd) (h0:kd≠0:=by decide):∀F w,(ax (ct O L)).h F w->w.cell? ⟨L.b k,3,none⟩=some (.int .i64 (obj O k).gid):=fS (by rw [h];exact h0) rfl
theorem qA (L:HL) (h:(obj O k).kind=kd) (h0:kd≠0:=by decide):∀F w,(ax (ct O L)).h F w->w.cell? ⟨L.b k,6,none⟩=some (.int .i64 (obj O k).links):=fS (by rw [h];exact h0) rfl
theorem mR (L:HL) (h:(obj O k).kind=kd) (h0:kd≠0:=by decide):∀F w,(ax (ct O L)).h F w->w.cell? ⟨L.b k,7,none⟩=some (.int .i64 (obj O k).opens):=fS (by rw [h];exact h0) rfl
theorem qV (L:HL) (h:(obj O k).kind=kd) (h0:kd≠0:=by decide):∀F w,(ax (ct O L)).h F w->w.cell? ⟨L.b k,8,none⟩=some (.bool (obj O k).gone):=fS (by rw [h];exact h0) rfl
theorem Mk (L:HL) (h:(obj O k).kind=1):∀F w,(ax (ct O L)).h F w->w.cell? ⟨L.b k,9,none⟩=some (.slice (L.dA k) (obj O k).data.length (L.dC k)):=fS (by rw [h];decide) (by rw [jH h];rfl)
theorem bG (L:HL) (h:(obj O k).kind=2):∀F w,(ax (ct O L)).h F w->w.cell? ⟨L.b k,9,none⟩=some (.map (some (L.m k))):=fS (by rw [h];decide) (by rw [oM h];rfl)
theorem acz (L:HL) (h:(obj O k).kind=2):∀F w,(ax (ct O L)).h F w->w.cell? ⟨L.b k,10,none⟩=some (Fa L (obj O k).up):=fS (by rw [h];decide) (by rw [oM h];rfl)
theorem abC (L:HL) (h:(obj O k).kind=3):∀F w,(ax (ct O L)).h F w->w.cell? ⟨L.b k,9,none⟩=some (.string (obj O k).target):=fS (by rw [h];decide) (by rw [BD h];rfl)
end
end
section
open Go.RowKit Go.Maps
theorem ax.step {R R':Nat->cK} {k:Nat} {F:Fp} {w w':World} (hF:(ax R).h F w) (hR:∀x,x≠k->R' x=R x) (hs:∀G,(R k).h G w->∃G',(R' k).h G' w'/\Step G w G' w'):∃F',(ax R').h F' w'/\Step F w F' w':=by
 obtain⟨φ,h1,h2,h3⟩:=hF
 obtain⟨G',g1,st⟩:=hs _ (h1 k)
 have hap:∀i,i≠k->∀x,G' x->φ i x->False:=λi hne x hx hy=>by
  rcases st.grow x hx with e|e
  ·exact h2 i k hne x hy e
  have:=(R i).lt (h1 i) x hy;omega
 refine⟨λx=>∃i,(if i=k then G' else φ i) x,⟨λi=>if i=k then G' else φ i,λi=>?_,λi j hne x hx hy=>?_,λx=>Iff.rfl⟩,⟨st.keeps.mono (λx _ hx=>(h3 x).2 ⟨k,hx⟩),λx ⟨i,hx⟩=>?_⟩⟩
 ·by_cases e:i=k
  ·subst e;simp only [if_true];exact g1
  simp only [e,if_false]
  rw [hR i e]
  exact (R i).st (h1 i) st.keeps (λx hx hk=>h2 i k e x hx hk)
 ·by_cases e1:i=k
  ·grind
  simp only [e1,if_false] at hx
  by_cases e2:j=k
  ·grind
  simp only [e2,if_false] at hy
  exact h2 i j hne x hx hy
 by_cases e:i=k
 ·simp only [e,if_true] at hx
  rcases st.grow x hx with h|h
  ·exact .inl ((h3 x).2 ⟨k,h⟩)
  exact .inr h
 grind
def Ht (O:bZ) (L:HL):Nat->HP
 |0=>.abs (ax (ct O L))
 |1=>.abs (ax (di O L))
 |_=>.abs (ax (bQ O L))
def tO (O:bZ) (L:HL):List (Nat×Nat)->List (Nat×HP)
 |[]=>[]
 |q::r=>(q.1,Ht O L q.2)::tO O L r
def xX (hps:List HP) (O:bZ) (L:HL):List (Nat×Nat)->Prop
 |[]=>True
 |q::r=>hps[q.1]?=some (Ht O L q.2)/\xX hps O L r
theorem y6 {hps:List HP} {O O2:bZ} {L:HL} {p:Nat} (he:∀q,q≠p->Ht O2 L q=Ht O L q):∀{js:List (Nat×Nat)},xX hps O L js->jx p (js.map (·.2))=false->qo hps (tO O2 L js)=hps
 |[],_,_=>rfl
 |q::r,h,hn=>by
   have hq:q.2≠p:=λe=>by
    rw [show jx p ((q::r).map (·.2))=true from jA.2 (by simp [e])] at hn;cases hn
   have hr:jx p (r.map (·.2))=false:=by
    cases hb:jx p (r.map (·.2)) with
    |false=>rfl
    |true=>rw [show jx p ((q::r).map (·.2))=true from jA.2 (List.mem_cons_of_mem _ (jA.1 hb))] at hn;cases hn
   show qo (hps.set q.1 (Ht O2 L q.2)) (tO O2 L r)=hps
   have e:hps.set q.1 (Ht O2 L q.2)=hps:=by
    rw [he _ hq]
    refine List.ext_getElem? (λn=>?_)
    rw [List.getElem?_set]
    split
    ·rename_i e;subst e
     rw [h.1];split
     ·rfl
     rename_i hlt;exact absurd (bT h.1) hlt
    rfl
   rw [e]
   exact y6 he h.2 hr
def Gb (P:Program) (N:dx) (junk:Nat->Value) (ops:Array Oper) (fr:Fr) (k:Nat):Option (Addr×Value):=
 match fH N junk ops fr k with
 |some (.store T a y,_)=>match (P.info? T).map (·.size) with
   |some 1=>match cL N fr junk a with
     |.pointer (some ad)=>some (ad,cL N fr junk y)
     |_=>none
   |_=>none
 |_=>none
def Gc (N:dx) (junk:Nat->Value) (ops:Array Oper) (fr:Fr) (k:Nat):Option (TypeId×Nat×Value):=
 match fH N junk ops fr k with
 |some (.lookup t x ix false,_)=>match cL N fr junk x with
   |.map (some b)=>some (t,b,cL N fr junk ix)
   |_=>none
 |_=>none
def setAt (N:dx) (junk:Nat->Value) (ops:Array Oper) (fr:Fr) (k:Nat):Option (TypeId×Nat×Value×Value):=
 match fH N junk ops fr k with
 |some (.mapUpdate t x ix y,_)=>match cL N fr junk x with
   |.map (some b)=>some (t,b,cL N fr junk ix,cL N fr junk y)
   |_=>none
 |_=>none
def Qr (N:dx) (junk:Nat->Value) (ops:Array Oper) (fr:Fr) (k:Nat):Option (TypeId×TypeId×Nat×Value):=
 match fH N junk ops fr k with
 |some (.call ⟨.builtin .delete,xs,ts⟩,_)=>match xs.toList with
   |[x,ix]=>match ts.toList with
     |[t,K]=>match cL N fr junk x with
       |.map (some b)=>some (t,K,b,cL N fr junk ix)
       |_=>none
     |_=>none
   |_=>none
 |_=>none
def Ml (L:HL):Option Th->Value
 |none=>.nilIface
 |some t=>eG L t
section rules
variable {β:Bs} {N:dx} {ops:Array Oper} {k x:Nat} {fr:Fr} {hps:List HP} {Q:Post} {O:bZ} {L:HL} {name:ByteArray} {r:Option Th} {t:Th}
theorem y7 {junk:Nat->Value} {op:Op} {d:Option Tmp} (h:fH N junk ops fr k=some (op,d)):d=gj ops k:=by
 grind [fB,gj]
theorem Mn {P:Program} {junk:Nat->Value} {ad:Addr} {u:Value} (h:Gb P N junk ops fr k=some (ad,u)):∃T a y,fH N junk ops fr k=some (.store T a y,gj ops k)/\(P.info? T).map (·.size)=some 1/\cL N fr junk a=.pointer (some ad)/\cL N fr junk y=u:=by
 grind [Gb,y7]
theorem sx {junk:Nat->Value} {T:TypeId} {b:Nat} {key:Value} (h:Gc N junk ops fr k=some (T,b,key)):∃a y,fH N junk ops fr k=some (.lookup T a y false,gj ops k)/\cL N fr junk a=.map (some b)/\cL N fr junk y=key:=by
 grind [Gc,y7]
theorem VZ {junk:Nat->Value} {T:TypeId} {b:Nat} {key u:Value} (h:setAt N junk ops fr k=some (T,b,key,u)):∃a y z,fH N junk ops fr k=some (.mapUpdate T a y z,gj ops k)/\cL N fr junk a=.map (some b)/\cL N fr junk y=key/\cL N fr junk z=u:=by
 grind [setAt,y7]
theorem Tw {P:Program} {T:TypeId} {a y:Operand} {o:Oper} {ev:Operand->Value} {w:World} {ad:Addr} {u v0:Value} (ho:o.op=.store T a y) (hT:(P.info? T).map (·.size)=some 1) (ha:ev a=.pointer (some ad)) (hy:ev y=u) (hu:u.oneCell'=true) (hc:w.cell? ad=some v0) (hf:w.frozen? ad=false) (hs:ad.spot=none):pP P ev o w undef (w.setCell ad u):=by
 obtain⟨inf,hi,hsz⟩:∃inf,P.info? T=some inf/\inf.size=1:=by
  cases h:P.info? T with
  |none=>rw [h] at hT;cases hT
  |some inf=>rw [h] at hT;exact⟨inf,rfl,by simpa using hT⟩
 have h3:=pG hi w
 rw [hsz] at h3
 obtain⟨dst,op,type,pos,after,guard⟩:=o
 obtain⟨bk,off,spot⟩:=ad
 simp only at hs
 subst hs
 cases ho
 refine .inr ⟨rfl,?_⟩
 cases u<;>first
  |(simp [Value.oneCell'] at hu;done)
  |(simp only [execOp,ha,hy];simp [go_sem,Instr.storeAt,Instr.sureAddr,storeVar,h3,Value.cells,storeCells,store,Addr.add,Sem.run,hc,hf])
theorem oSt (i:Nat) (js:List (Nat×Nat)) (x j:Nat) (f:aI->aI) (u:Value) {kd:Int} (hk:(obj O x).kind=kd)
 (K:∀O2,O2=ay O x f->ai Tryz.prog β N ops (k+1) (cI fr (gj ops k) undef) ((qo hps (tO O2 L js)).set i (.abs (ax (ct O2 L)))) Q)
 (hp:hps[i]?=some (.abs (ax (ct O L)))) (hj:xX hps O L js)
 (ho:∀junk,Gb Tryz.prog N junk ops fr k=some (⟨L.b x,j,none⟩,u))
 (hn:jx 0 (js.map (·.2))=false) (h0:kd≠0) (hc:je L x (f (obj O x))=(je L x (obj O x)).set j u) (hu:u.oneCell'=true) (h9:j<(je L x (obj O x)).length)
 (he:(f (obj O x)).af=(obj O x).af) (hd:(f (obj O x)).data=(obj O x).data) (Gd:(f (obj O x)).kind=(obj O x).kind):ai Tryz.prog β N ops k fr hps Q:=by
 obtain⟨T,a,y,h1,h2,h3,h4⟩:=Mn (ho (λ_=>undef))
 intro junk w hS
 obtain⟨T,a,y,h1,h2,h3,h4⟩:=Mn (ho junk)
 obtain⟨o,g1,g2,g3,g4⟩:=fB h1
 have hx0:(obj O x).kind≠0:=by rw [hk];exact h0
 have Mp:qo hps (tO (ay O x f) L js)=hps:=y6 (p:=0) (λq hq=>by
  match q,hq with
  |0,hq=>exact absurd rfl hq
  |1,_=>exact congrArg (λR=>HP.abs (ax R)) (qt he Gd)
  |q+2,_=>exact congrArg (λR=>HP.abs (ax R)) (qq hd Gd)) hj hn
 have hcell:∃v0,(je L x (obj O x))[j]?=some v0:=jW h9
 obtain⟨v0,hv0⟩:=hcell
 obtain⟨F,hF⟩:=hS.get hp
 obtain⟨G,hG⟩:=ax.at x hF
 have hG2:=hG
 rw [oL hx0] at hG2
 obtain⟨hb,_⟩:=hG2
 obtain⟨c1,c2⟩:=jo (a:=⟨L.b x,j,none⟩) hb rfl rfl hv0
 have qC:Sat β (hps.set i (.abs (ax (ct (ay O x f) L)))) (w.setCell ⟨L.b x,j,none⟩ (u)):=hS.set hp (λF hF=>ax.step (k:=x) (show (ax (ct O L)).h F w from hF) (λy hy=>yL hy) (λG hG=>by
  rw [oL hx0] at hG
  rw [yK,if_neg (by rw [Gd];exact hx0),hc,Gd]
  exact vS hG rfl rfl))
 rw [drop_cons g1]
 unfold wpList
 rw [fq,if_pos g2]
 refine .inl (mU (v:=undef) (w':=w.setCell ⟨L.b x,j,none⟩ (u)) (by rw [fO];grind [Tw]) ?_)
 rw [eP]
 have hK:=K _ rfl junk _ (by rw [Mp];exact qC)
 rw [←g4] at hK
 exact hK
theorem wW (i:Nat) (js:List (Nat×Nat)) (x j:Nat) (f:aI->aI) {kd:Int} (hk:(obj O x).kind=kd)
 (K:∀O2,O2=ay O x f->ai Tryz.prog β N ops (k+1) (cI fr (gj ops k) undef) ((qo hps (tO O2 L js)).set i (.abs (ax (ct O2 L)))) Q)
 (hp:hps[i]?=some (.abs (ax (ct O L))):=by rfl) (hj:xX hps O L js:=by first|exact⟨rfl,trivial⟩|exact⟨rfl,rfl,trivial⟩|exact trivial)
 (ho:∀junk,Gb Tryz.prog N junk ops fr k=some (⟨L.b x,j,none⟩,(CI (f (obj O x))).getD j undef):=by intro _;kernel_rfl)
 (hn:jx 0 (js.map (·.2))=false:=by rfl) (h0:kd≠0:=by decide) (hc:je L x (f (obj O x))=(je L x (obj O x)).set j ((CI (f (obj O x))).getD j undef):=by rfl) (hu:((CI (f (obj O x))).getD j undef).oneCell'=true:=by rfl) (h9:Nat.blt j 9=true:=by rfl)
 (he:(f (obj O x)).af=(obj O x).af:=by rfl) (hd:(f (obj O x)).data=(obj O x).data:=by rfl) (Gd:(f (obj O x)).kind=(obj O x).kind:=by rfl):ai Tryz.prog β N ops k fr hps Q:=
 oSt i js x j f _ hk K hp hj ho hn h0 hc hu (Nat.lt_of_lt_of_le (show j<9 by simpa [Nat.blt_eq] using h9) (by unfold je CI;simp)) he hd Gd
theorem uSt (i:Nat) (js:List (Nat×Nat)) (x:Nat) (y:Option Nat) (hk:(obj O x).kind=2)
 (K:∀O2,O2=ay O x (λo=>{o with up:=y})->ai Tryz.prog β N ops (k+1) (cI fr (gj ops k) undef) ((qo hps (tO O2 L js)).set i (.abs (ax (ct O2 L)))) Q)
 (hp:hps[i]?=some (.abs (ax (ct O L))):=by rfl) (hj:xX hps O L js:=by first|exact⟨rfl,trivial⟩|exact⟨rfl,rfl,trivial⟩|exact trivial)
 (ho:∀junk,Gb Tryz.prog N junk ops fr k=some (⟨L.b x,10,none⟩,Fa L y):=by intro _;kernel_rfl) (hn:jx 0 (js.map (·.2))=false:=by rfl):ai Tryz.prog β N ops k fr hps Q:=
 oSt i js x 10 (λo=>{o with up:=y}) (Fa L y) hk K hp hj ho hn (by decide) (by rw [oM (show ({obj O x with up:=y}:aI).kind=2 from hk),oM hk];rfl) (by cases y<;>rfl) (by rw [oM hk];exact Nat.lt_succ_self 10) rfl rfl rfl
theorem Sat.Xr {w:World} {i j:Nat} {f:aI->aI} {u:Value} (hS:Sat β hps w) (hp:hps[i]?=some (.abs (ax (ct O L)))) (hx0:(obj O x).kind≠0) (hc:je L x (f (obj O x))=(je L x (obj O x)).set j u) (Gd:(f (obj O x)).kind=(obj O x).kind) (h9:j<(je L x (obj O x)).length) :
 Sat β (hps.set i (.abs (ax (ct (ay O x f) L)))) (w.setCell ⟨L.b x,j,none⟩ u)/\(∃v0,w.cell? ⟨L.b x,j,none⟩=some v0)/\w.frozen? ⟨L.b x,j,none⟩=false:=by
 obtain⟨v0,hv0⟩:=jW h9
 obtain⟨F,hF⟩:=hS.get hp
 obtain⟨G,hG⟩:=ax.at x (show (ax (ct O L)).h F w from hF)
 rw [oL hx0] at hG
 obtain⟨c1,c2⟩:=jo (a:=⟨L.b x,j,none⟩) hG.1 rfl rfl hv0
 refine⟨hS.set hp (λF hF=>ax.step (k:=x) (show (ax (ct O L)).h F w from hF) (λy hy=>yL hy) (λG hG=>?_)),⟨v0,c1⟩,c2⟩
 rw [oL hx0] at hG
 rw [yK,if_neg (by rw [Gd];exact hx0),hc,Gd]
 exact vS hG rfl rfl
def Mq (P:Program) (N:dx) (junk:Nat->Value) (ops:Array Oper) (fr:Fr) (k:Nat):Option (Addr×Value):=
 match fH N junk ops fr k with
 |some (.store T a y,_)=>match (P.info? T).map (·.size) with
   |some 2=>match cL N fr junk a with
     |.pointer (some ad)=>some (ad,cL N fr junk y)
     |_=>none
   |_=>none
 |_=>none
theorem Tx {P:Program} {junk:Nat->Value} {ad:Addr} {u:Value} (h:Mq P N junk ops fr k=some (ad,u)):∃T a y,fH N junk ops fr k=some (.store T a y,gj ops k)/\(P.info? T).map (·.size)=some 2/\cL N fr junk a=.pointer (some ad)/\cL N fr junk y=u:=by
 grind [Mq,y7]
theorem Qs {P:Program} {T:TypeId} {a y:Operand} {o:Oper} {ev:Operand->Value} {w:World} {b j:Nat} {z1 z2:Int} {v0 v1:Value} (ho:o.op=.store T a y) (hT:(P.info? T).map (·.size)=some 2) (ha:ev a=.pointer (some ⟨b,j,none⟩)) (hy:ev y=.agg #[.int .i64 z1,.int .i64 z2])
 (hc:w.cell? ⟨b,j,none⟩=some v0) (hf:w.frozen? ⟨b,j,none⟩=false) (hc1:(w.setCell ⟨b,j,none⟩ (.int .i64 z1)).cell? ⟨b,j+1,none⟩=some v1) (hf1:(w.setCell ⟨b,j,none⟩ (.int .i64 z1)).frozen? ⟨b,j+1,none⟩=false) :
 pP P ev o w undef ((w.setCell ⟨b,j,none⟩ (.int .i64 z1)).setCell ⟨b,j+1,none⟩ (.int .i64 z2)):=by
 obtain⟨inf,hi,hsz⟩:∃inf,P.info? T=some inf/\inf.size=2:=by
  cases h:P.info? T with
  |none=>rw [h] at hT;cases hT
  |some inf=>rw [h] at hT;exact⟨inf,rfl,by simpa using hT⟩
 have h3:=pG hi w
 rw [hsz] at h3
 obtain⟨dst,op,type,pos,after,guard⟩:=o
 cases ho
 refine .inr ⟨rfl,?_⟩
 simp only [execOp,ha,hy]
 simp [go_sem,Instr.storeAt,Instr.sureAddr,storeVar,h3,Value.cells,storeCells,store,Addr.add,Sem.run,hc,hf,hc1,hf1]
theorem Ty (i:Nat) (js:List (Nat×Nat)) (x:Nat) (z1 z2:Int) {kd:Int} (hk:(obj O x).kind=kd)
 (K:∀O2,O2=ay O x (λo=>{o with sec:=z1,nano:=z2})->ai Tryz.prog β N ops (k+1) (cI fr (gj ops k) undef) ((qo hps (tO O2 L js)).set i (.abs (ax (ct O2 L)))) Q)
 (hp:hps[i]?=some (.abs (ax (ct O L))):=by rfl) (hj:xX hps O L js:=by first|exact⟨rfl,trivial⟩|exact⟨rfl,rfl,trivial⟩|exact trivial)
 (ho:∀junk,Mq Tryz.prog N junk ops fr k=some (⟨L.b x,4,none⟩,.agg #[.int .i64 z1,.int .i64 z2]):=by intro _;kernel_rfl)
 (hn:jx 0 (js.map (·.2))=false:=by rfl) (h0:kd≠0:=by decide):ai Tryz.prog β N ops k fr hps Q:=by
 intro junk w hS
 obtain⟨T,a,y,h1,h2,h3,h4⟩:=Tx (ho junk)
 obtain⟨o,g1,g2,g3,g4⟩:=fB h1
 have hx0:(obj O x).kind≠0:=by rw [hk];exact h0
 have Mp:qo hps (tO (ay O x (λo=>{o with sec:=z1,nano:=z2})) L js)=hps:=y6 (p:=0) (λq hq=>by
  match q,hq with
  |0,hq=>exact absurd rfl hq
  |1,_=>exact congrArg (λR=>HP.abs (ax R)) (qt rfl rfl)
  |q+2,_=>exact congrArg (λR=>HP.abs (ax R)) (qq rfl rfl)) hj hn
 have hlen:∀o:aI,9<=(je L x o).length:=λo=>by unfold je CI;simp
 obtain⟨s1,⟨v0,c1⟩,f1⟩:=hS.Xr (x:=x) (j:=4) (f:=λo=>{o with sec:=z1}) (u:=.int .i64 z1) hp hx0 rfl rfl (by have:=hlen (obj O x);omega)
 have hi:i<hps.length:=bT hp
 have e1:obj (ay O x (λo=>{o with sec:=z1})) x={obj O x with sec:=z1}:=cO
 obtain⟨s2,⟨v1,c2⟩,f2⟩:=s1.Xr (x:=x) (j:=5) (f:=λo=>{o with nano:=z2}) (u:=.int .i64 z2) (i:=i) (O:=ay O x (λo=>{o with sec:=z1})) (by rw [List.getElem?_set,if_pos rfl,if_pos hi]) (by rw [e1];exact hx0) rfl rfl (by grind)
 rw [List.set_set,xw] at s2
 rw [drop_cons g1]
 unfold wpList
 rw [fq,if_pos g2]
 refine .inl (mU (v:=undef) (w':=_) (by rw [fO];exact Qs g3 h2 h3 h4 c1 f1 c2 f2) ?_)
 rw [eP]
 have hK:=K _ rfl junk _ (by rw [Mp];exact s2)
 rw [←g4] at hK
 exact hK
theorem Dg {w:World} {i:Nat} (hS:Sat β hps w) (hp:hps[i]?=some (.abs (ax (di O L)))) (hd:(obj O x).kind=2):iA Tryz.prog 9 w (L.m x) (ko L (obj O x).af) (obj O x).af.length:=by
 obtain⟨F,hF⟩:=hS.get hp
 obtain⟨G,hG⟩:=ax.at x (show (ax (di O L)).h F w from hF)
 rw [rS hd] at hG
 exact hG.1
theorem O9 {w:World} {i:Nat} {o:Oper} {ev:Operand->Value} {a y:Operand} (hS:Sat β hps w) (hp:hps[i]?=some (.abs (ax (di O L)))) (hd:(obj O x).kind=2) (hl:aH name (obj O x).af=r) (h3:o.op=.lookup 86 a y false) (ha:ev a=.map (some (L.m x))) (hy:ev y=.string name) (hsz:name.size<=1048576):pP Tryz.prog ev o w (Ml L r) w:=by
 have h:=zj (z:=.nilIface) h3 (Dg hS hp hd) ha hy Ea Tryz.underlying86 (by kernel_rfl) (GH (by omega))
 rw [vH,hl] at h
 cases r<;>exact h
theorem j6 (i:Nat) (hd:(obj O x).kind=2) (hl:aH name (obj O x).af=r) (K:ai Tryz.prog β N ops (k+1) (cI fr (gj ops k) (Ml L r)) hps Q) (hp:hps[i]?=some (.abs (ax (di O L))):=by rfl)
 (ho:∀junk,Gc N junk ops fr k=some (86,L.m x,.string name):=by intro _;kernel_rfl) (hsz:name.size<=1048576:=by omega):ai Tryz.prog β N ops k fr hps Q:=by
 intro junk w hS
 obtain⟨a,y,h1,h2,h3⟩:=sx (ho junk)
 exact ai.kB (dS:=hps) (v:=Ml L r) (d:=gj ops k) (op:=.lookup 86 a y false) (λj=>by
  obtain⟨a',y',h1',_,_⟩:=sx (ho j)
  obtain⟨o,g1,g2,g3,g4⟩:=fB h1
  obtain⟨o',xY,Xs,y8,Xt⟩:=fB h1'
  rw [g1] at xY
  cases xY
  rw [g3] at y8
  cases y8
  exact h1') (λo junk w ho' hS=>by
  obtain⟨a',y',h1',h2',h3'⟩:=sx (ho junk)
  obtain⟨o1,g1,g2,g3,g4⟩:=fB h1
  obtain⟨o',xY,Xs,y8,Xt⟩:=fB h1'
  rw [g1] at xY
  cases xY
  rw [g3] at y8
  cases y8
  exact⟨w,O9 hS hp hd hl ho' h2' h3' hsz,hS⟩) K junk w hS
theorem vk (i:Nat) (hd:(obj O x).kind=2) (hl:aH name (obj O x).af=r) (K:aQ Tryz.prog β N ops (k+1) (cI fr (gj ops k) (Ml L r)) hps Q) (hp:hps[i]?=some (.abs (ax (di O L))):=by rfl)
 (ho:∀junk,Gc N junk ops fr k=some (86,L.m x,.string name):=by intro _;kernel_rfl) (hsz:name.size<=1048576:=by omega):aQ Tryz.prog β N ops k fr hps Q:=by
 intro junk
 obtain⟨a,y,h1,h2,h3⟩:=sx (ho junk)
 exact aQ.kB (v:=Ml L r) (d:=gj ops k) (op:=.lookup 86 a y false) (λj=>by
  obtain⟨a',y',h1',_,_⟩:=sx (ho j)
  obtain⟨o,g1,g2,g3,g4⟩:=fB h1
  obtain⟨o',xY,Xs,y8,Xt⟩:=fB h1'
  rw [g1] at xY
  cases xY
  rw [g3] at y8
  cases y8
  exact h1') (λo junk w ho' hS=>by
  obtain⟨a',y',h1',h2',h3'⟩:=sx (ho junk)
  obtain⟨o1,g1,g2,g3,g4⟩:=fB h1
  obtain⟨o',xY,Xs,y8,Xt⟩:=fB h1'
  rw [g1] at xY
  cases xY
  rw [g3] at y8
  cases y8
  exact O9 hS hp hd hl ho' h2' h3' hsz) K junk
def Qt (N:dx) (junk:Nat->Value) (ops:Array Oper) (fr:Fr) (k:Nat):Option (TypeId×Nat):=
 match fH N junk ops fr k with
 |some (.call ⟨.builtin .len,xs,ts⟩,_)=>match xs.toList with
   |[x]=>match ts.toList with
     |[t]=>match cL N fr junk x with
       |.map (some b)=>some (t,b)
       |_=>none
     |_=>none
   |_=>none
 |_=>none
theorem EJ {junk:Nat->Value} {T:TypeId} {b:Nat} (h:Qt N junk ops fr k=some (T,b)):∃a,fH N junk ops fr k=some (.call ⟨.builtin .len,#[a],#[T]⟩,gj ops k)/\cL N fr junk a=.map (some b):=by
 unfold Qt at h
 repeat' split at h
 all_goals first|(cases h;done)|skip
 rename_i xs ts d h0 _ a h1 _ t' h2 _ b' h3
 cases h
 have:=y7 h0
 subst this
 refine⟨a,?_,h3⟩
 rw [h0]
 obtain⟨xs⟩:=xs
 obtain⟨ts⟩:=ts
 cases h1
 cases h2
 rfl
theorem eNk (i:Nat) (hd:(obj O x).kind=2) (K:ai Tryz.prog β N ops (k+1) (cI fr (gj ops k) (.int .i64 (((obj O x).af.length:Nat):Int))) hps Q) (hp:hps[i]?=some (.abs (ax (di O L))):=by rfl)
 (ho:∀junk,Qt N junk ops fr k=some (86,L.m x):=by intro _;kernel_rfl):ai Tryz.prog β N ops k fr hps Q:=by
 obtain⟨a,h1,h2⟩:=EJ (ho (λ_=>undef))
 obtain⟨o,g1,g2,g3,g4⟩:=fB h1
 refine ai.kB (dS:=hps) (v:=.int .i64 (((obj O x).af.length:Nat):Int)) (d:=gj ops k) (op:=o.op) (λj=>?_) (λo' junk w ho' hS=>?_) K
 ·obtain⟨a',h1',_⟩:=EJ (ho j)
  grind [fB]
 obtain⟨a',h1',h2'⟩:=EJ (ho junk)
 obtain⟨o1,xY,Xs,y8,Xt⟩:=fB h1'
 rw [g1] at xY
 cases xY
 exact⟨w,CC (ho'.trans y8) rfl (Dg hS hp hd) h2' Tryz.underlying86,hS⟩
theorem eSt (i:Nat) (js:List (Nat×Nat)) {t:Th} (hd:(obj O x).kind=2) (hno:aH name (obj O x).af=none)
 (K:∀O2,O2=ay O x (λo=>{o with af:=iz name t o.af})->ai Tryz.prog β N ops (k+1) (cI fr (gj ops k) undef) ((qo hps (tO O2 L js)).set i (.abs (ax (di O2 L)))) Q)
 (hp:hps[i]?=some (.abs (ax (di O L))):=by rfl) (hj:xX hps O L js:=by first|exact⟨rfl,trivial⟩|exact⟨rfl,rfl,trivial⟩|exact trivial)
 (ho:∀junk,setAt N junk ops fr k=some (86,L.m x,.string name,eG L t):=by intro _;kernel_rfl) (hn:jx 1 (js.map (·.2))=false:=by rfl) (hsz:name.size<=1048576:=by omega) (hel:(obj O x).af.length<=1048576:=by omega):ai Tryz.prog β N ops k fr hps Q:=by
 intro junk w hS
 obtain⟨a,y,z,h1,h2,h3,h4⟩:=VZ (ho junk)
 obtain⟨o,g1,g2,g3,g4⟩:=fB h1
 have Mp:qo hps (tO (ay O x (λo=>{o with af:=iz name t o.af})) L js)=hps:=y6 (p:=1) (λq hq=>by
  match q,hq with
  |0,_=>exact congrArg (λR=>HP.abs (ax R)) (KA (es:=λo=>iz name t o.af))
  |1,hq=>exact absurd rfl hq
  |q+2,_=>exact congrArg (λR=>HP.abs (ax R)) (qq rfl rfl)) hj hn
 obtain⟨w',m1,m2,m3⟩:=(Dg hS hp hd).store Ea Tryz.underlying86 (by unfold maxLen;omega) (GH (p:=name) (by omega)) (eG L t)
 have e1:(ko L (obj O x).af) (.string name.data.toList)=none:=by rw [vH,hno];rfl
 rw [e1,UD hno] at m2
 have qC:Sat β (hps.set i (.abs (ax (di (ay O x (λo=>{o with af:=iz name t o.af})) L)))) w':=hS.set hp (λF hF=>ax.step (k:=x) (show (ax (di O L)).h F w from hF) (λy hy=>BA hy) (λG hG=>by
  rw [rS hd] at hG
  rw [rS (by rw [cO];exact hd),cO,Ky]
  exact step_map hG m2 m3))
 rw [drop_cons g1]
 unfold wpList
 rw [fq,if_pos g2]
 refine .inl (mU (v:=undef) (w':=w') (by
  rw [fO]
  refine .inr ⟨rfl,?_⟩
  obtain⟨dst,op,type,pos,after,guard⟩:=o
  cases g3
  simp only [execOp,h2,h3,h4]
  simp [go_sem,m1]) ?_)
 rw [eP]
 have hK:=K _ rfl junk _ (by rw [Mp];exact qC)
 rw [←g4] at hK
 exact hK
theorem V0 {junk:Nat->Value} {T K0:TypeId} {b:Nat} {key:Value} (h:Qr N junk ops fr k=some (T,K0,b,key)):∃a y,fH N junk ops fr k=some (.call ⟨.builtin .delete,#[a,y],#[T,K0]⟩,gj ops k)/\cL N fr junk a=.map (some b)/\cL N fr junk y=key:=by
 unfold Qr at h
 repeat' split at h
 all_goals first|(cases h;done)|skip
 rename_i xs ts d h0 _ a y h1 _ t' K' h2 _ b' h3
 cases h
 have:=y7 h0
 subst this
 refine⟨a,y,?_,h3,rfl⟩
 rw [h0]
 obtain⟨xs⟩:=xs
 obtain⟨ts⟩:=ts
 cases h1
 cases h2
 rfl
theorem eDl (i:Nat) (js:List (Nat×Nat)) {t:Th} (hd:(obj O x).kind=2) (Au:aH name (obj O x).af=some t) (hnt:mP (obj O x).af)
 (K:∀O2,O2=ay O x (λo=>{o with af:=iF name o.af})->ai Tryz.prog β N ops (k+1) (cI fr (gj ops k) (.tuple #[])) ((qo hps (tO O2 L js)).set i (.abs (ax (di O2 L)))) Q)
 (hp:hps[i]?=some (.abs (ax (di O L))):=by rfl) (hj:xX hps O L js:=by first|exact⟨rfl,trivial⟩|exact⟨rfl,rfl,trivial⟩|exact trivial)
 (ho:∀junk,Qr N junk ops fr k=some (86,9,L.m x,.string name):=by intro _;kernel_rfl) (hn:jx 1 (js.map (·.2))=false:=by rfl) (hsz:name.size<=1048576:=by omega):ai Tryz.prog β N ops k fr hps Q:=by
 intro junk w hS
 obtain⟨a,y,h1,h2,h3⟩:=V0 (ho junk)
 obtain⟨o,g1,g2,g3,g4⟩:=fB h1
 have Mp:qo hps (tO (ay O x (λo=>{o with af:=iF name o.af})) L js)=hps:=y6 (p:=1) (λq hq=>by
  match q,hq with
  |0,_=>exact congrArg (λR=>HP.abs (ax R)) (KA (es:=λo=>iF name o.af))
  |1,hq=>exact absurd rfl hq
  |q+2,_=>exact congrArg (λR=>HP.abs (ax R)) (qq rfl rfl)) hj hn
 obtain⟨w',m1,m2,m3⟩:=(Dg hS hp hd).drop Ea Tryz.underlying86 (GH (p:=name) (by omega)) o.type
 have e1:(ko L (obj O x).af) (.string name.data.toList)=some (eG L t):=by rw [vH,Au];rfl
 rw [e1,UE] at m2
 have hlen:=UC hnt Au
 have qC:Sat β (hps.set i (.abs (ax (di (ay O x (λo=>{o with af:=iF name o.af})) L)))) w':=hS.set hp (λF hF=>ax.step (k:=x) (show (ax (di O L)).h F w from hF) (λy hy=>BA hy) (λG hG=>by
  rw [rS hd] at hG
  rw [rS (by rw [cO];exact hd),cO]
  rw [show (iF name (obj O x).af).length=(obj O x).af.length-1 by omega]
  exact step_map hG m2 m3))
 rw [drop_cons g1]
 unfold wpList
 rw [fq,if_pos g2]
 refine .inl (mU (v:=.tuple #[]) (w':=w') (by
  rw [fO]
  refine .inl ?_
  obtain⟨dst,op,type,pos,after,guard⟩:=o
  cases g3
  simp only [execOp,resolve,invoke,builtin]
  simp [go_sem,h2,h3,m1]) ?_)
 rw [eP]
 have hK:=K _ rfl junk _ (by rw [Mp];exact qC)
 rw [←g4] at hK
 exact hK
end rules
section after
variable {O O2:bZ} {j x:Nat} {f:aI->aI} {kd:Int}
theorem ku (e:O2=ay O j f) (h:(obj O x).kind=kd) (hf:∀o,(f o).kind=o.kind:=by intro _;rfl):(obj O2 x).kind=kd:=by subst e;exact (lY hf).trans h
theorem fu {α:Type} (g:aI->α) {v:α} (e:O2=ay O j f) (h:g (obj O x)=v) (hf:∀o,g (f o)=g o:=by intro _;rfl):g (obj O2 x)=v:=by subst e;exact (cx hf).trans h
end after
end
section
open Go.RowKit Go.Maps
attribute [local irreducible] ai aQ ah aj
theorem dG {β:Bs} (b:Nat):Spec Tryz.prog β 215 #[vP b] [] (λv l=>v=vP b/\l=[]):=by
 exact SE Tryz.func215 Tryz.ntmps215 (λR=>SR (jK 1 [] [] (NS (jK 2 [2] [] (eN ⟨rfl,rfl⟩)))))
theorem qh {β:Bs} (a:Value):Spec Tryz.prog β 214 #[a] [] (λv l=>v=vI 1/\l=[]):=by
 exact SE Tryz.func214 Tryz.ntmps214 (λR=>SR (jK 1 [] [] (NS (jK 1 [2] [] (eN ⟨rfl,rfl⟩)))))
theorem qi {β:Bs} (a:Value):Spec Tryz.prog β 217 #[a] [] (λv l=>v=vI 2/\l=[]):=by
 exact SE Tryz.func217 Tryz.ntmps217 (λR=>SR (jK 1 [] [] (NS (jK 1 [2] [] (eN ⟨rfl,rfl⟩)))))
theorem rF {β:Bs} (a:Value):Spec Tryz.prog β 216 #[a] [] (λv l=>v=vI 3/\l=[]):=by
 exact SE Tryz.func216 Tryz.ntmps216 (λR=>SR (jK 1 [] [] (NS (jK 1 [2] [] (eN ⟨rfl,rfl⟩)))))
theorem Pa {β:Bs} (O:bZ) (L:HL) (d:Nat) (hkd:(obj O d).kind=2) (name:ByteArray) (hsz:name.size<=1048576) (hno:aH name (obj O d).af=none) (hel:(obj O d).af.length<=1048576) (t:Th) (hkt:(obj O t.k).kind=t.kind) (h3:t.kind=1\/t.kind=2\/t.kind=3) (hb:0<=(obj O t.k).links/\(obj O t.k).links<=1048576) :
 Spec Tryz.prog β 23 #[vP (L.b d),.string name,(eG L t)] [.abs (ax (ct O L)),.abs (ax (di O L))] (λv l=>v=.tuple #[]/\l=[.abs (ax (ct (q8 O d name t) L)),.abs (ax (di (q8 O d name t) L))]):=by
 refine SE Tryz.func23 Tryz.ntmps23 (λR=>ah.seq ?_)
 obtain⟨tk,kd⟩:=t;simp only at hkt h3;rcases h3 with rfl|rfl|rfl
 ·replace hkt:(obj O tk).kind=1:=hkt
  replace hb:0<=(obj O tk).links/\(obj O tk).links<=1048576:=hb
  refine ah.region (jK 6 [11,12,13] [(3,v_ 0 (bG L hkd))] (eSt 1 [(0,0)] (t:=⟨tk,1⟩) hkd hno (λdW cV=>?_)))
  have mO:=ku cV hkd
  have ql:=ku cV hkt
  have hf3:(obj dW tk).links=(obj O tk).links:=fu aI.links cV rfl
  refine NS (jK 1 [14] [] (gE [] (dG (L.b tk)) (jK 6 [19,21] [(2,v_ 0 (qA L ql)),(3,wJ ((obj dW tk).links+1) ((obj dW tk).links+1))] (wW 0 [(1,1)] tk 6 (λo=>{o with links:=o.links+1}) ql (λgG dK=>?_)))))
  have Co:=ku dK mO
  have Cp:=ku dK ql
  exact NS (jK 7 [6,7] [] (NS (jK 1 [27] [] (NF (ah.skip (RF (l:=[.abs (ax (ct gG L)),.abs (ax (di gG L))]) (.tuple #[]) [0,1,2] (⟨rfl,by subst dK;subst cV;rfl⟩)))))))
 ·replace hkt:(obj O tk).kind=2:=hkt
  replace hb:0<=(obj O tk).links/\(obj O tk).links<=1048576:=hb
  refine ah.region (jK 6 [11,12,13] [(3,v_ 0 (bG L hkd))] (eSt 1 [(0,0)] (t:=⟨tk,2⟩) hkd hno (λdW cV=>?_)))
  have V1:=ku cV hkd
  have Qu:=ku cV hkt
  have hf8:(obj dW tk).links=(obj O tk).links:=fu aI.links cV rfl
  refine NS (jK 1 [14] [] (gE [] (dG (L.b tk)) (jK 6 [19,21] [(2,v_ 0 (qA L Qu)),(3,wJ ((obj dW tk).links+1) ((obj dW tk).links+1))] (wW 0 [(1,1)] tk 6 (λo=>{o with links:=o.links+1}) Qu (λgG dK=>?_)))))
  have Hu:=ku dK V1
  have Qv:=ku dK Qu
  refine NS (jK 7 [6,7] [] (NS (jK 1 [27] [] (NT (ah.region (jK 4 [29,31] [] (uSt 0 [(1,1)] tk (some d) Qv (λy9 pN=>?_))))))))
  have Xu:=ku pN Hu
  have ac1:=ku pN Qv
  exact NL (RF (l:=[.abs (ax (ct y9 L)),.abs (ax (di y9 L))]) (.tuple #[]) [0,1,2] (⟨rfl,by subst pN;subst dK;subst cV;rfl⟩))
 replace hkt:(obj O tk).kind=3:=hkt
 replace hb:0<=(obj O tk).links/\(obj O tk).links<=1048576:=hb
 refine ah.region (jK 6 [11,12,13] [(3,v_ 0 (bG L hkd))] (eSt 1 [(0,0)] (t:=⟨tk,3⟩) hkd hno (λdW cV=>?_)))
 have abD:=ku cV hkd
 have Qw:=ku cV hkt
 have adm:(obj dW tk).links=(obj O tk).links:=fu aI.links cV rfl
 refine NS (jK 1 [14] [] (gE [] (dG (L.b tk)) (jK 6 [19,21] [(2,v_ 0 (qA L Qw)),(3,wJ ((obj dW tk).links+1) ((obj dW tk).links+1))] (wW 0 [(1,1)] tk 6 (λo=>{o with links:=o.links+1}) Qw (λgG dK=>?_)))))
 have Ge:=ku dK abD
 have abE:=ku dK Qw
 exact NS (jK 7 [6,7] [] (NS (jK 1 [27] [] (NF (ah.skip (RF (l:=[.abs (ax (ct gG L)),.abs (ax (di gG L))]) (.tuple #[]) [0,1,2] (⟨rfl,by subst dK;subst cV;rfl⟩)))))))
theorem kf {β:Bs} (X:FM) (f m t:Nat) (hX:0<=X.af/\X.af<=1048576/\-1125899906842624<=X.used/\X.used<=1125899906842624/\0<=X.last/\X.last<=1125899906842624) (O:bZ) (L:HL) (d:Nat) (hkd:(obj O d).kind=2) (name:ByteArray) (hsz:name.size<=1048576) (hno:aH name (obj O d).af=none) (hel:(obj O d).af.length<=1048576) (th:Th) (hkt:(obj O th.k).kind=th.kind) (h3:th.kind=1\/th.kind=2\/th.kind=3) (hb:0<=(obj O th.k).links/\(obj O th.k).links<=1048576) :
 Spec Tryz.prog β 70 #[vP f,vP (L.b d),.string name,(eG L th)] [.blk f [vI (X.cN),vI (X.cB),vI (X.cH),vI (X.cS),vI (X.cZ),.map (some m),vP t,vI (X.last),vI (X.af),vI (X.used)] 72,.abs (ax (ct O L)),.abs (ax (di O L))] (λv l=>v=.tuple #[]/\l=[.blk f [vI (X.cN),vI (X.cB),vI (X.cH),vI (X.cS),vI (X.cZ),.map (some m),vP t,vI (X.last),vI (X.af+1),vI (X.used)] 72,.abs (ax (ct (bB X O d name th) L)),.abs (ax (di (bB X O d name th) L))]):=by
 refine SE Tryz.func70 Tryz.ntmps70 (λR=>ah.seq ?_)
 skip
 refine ah.region (jK 3 [8,9,10] [] (gE [1,2] (Pa O L d hkd name hsz hno hel th hkt h3 hb) (NS ?_)))
 have Gf:(obj (q8 O d name th) d).kind=2:=(BF).trans (hkd)
 generalize cV:(q8 O d name th)=dW at Gf ⊢
 refine jK 9 [17,20] [(5,A_ 2 f 2)] (Ty 0 [(1,1)] d X.cS X.cZ Gf (λgG dK=>?_))
 have ac2:=ku dK Gf
 exact NN (ah.region (jC 8 [] [(3,a_ 2 f),(4,wJ (X.af+1) (X.af+1)),(7,a_ 2 f)] [(2,[(8,vI (X.af+1))])] (NL (RF (l:=[.blk f [vI (X.cN),vI (X.cB),vI (X.cH),vI (X.cS),vI (X.cZ),.map (some m),vP t,vI (X.last),vI (X.af+1),vI (X.used)] 72,.abs (ax (ct gG L)),.abs (ax (di gG L))]) (.tuple #[]) [2,0,1,3] (⟨rfl,by subst dK;subst cV;rfl⟩)))))
theorem lQ {β:Bs} (X:FM) (f m t:Nat) (hX:0<=X.af/\X.af<=1048576/\-1125899906842624<=X.used/\X.used<=1125899906842624/\0<=X.last/\X.last<=1125899906842624) (O:bZ) (L:HL) (d:Nat) (hkd:(obj O d).kind=2) (name:ByteArray) (hsz:name.size<=1048576) (th:Th) (hkt:(obj O th.k).kind=th.kind) (h3:th.kind=1\/th.kind=2\/th.kind=3) (Au:aH name (obj O d).af=some th) (hnt:mP (obj O d).af) (_:(obj O d).af.length<=1048576) (hb:0<=(obj O th.k).links/\(obj O th.k).links<=1048576) :
 Spec Tryz.prog β 73 #[vP f,vP (L.b d),.string name] [.blk f [vI (X.cN),vI (X.cB),vI (X.cH),vI (X.cS),vI (X.cZ),.map (some m),vP t,vI (X.last),vI (X.af),vI (X.used)] 72,.abs (ax (ct O L)),.abs (ax (di O L))] (λv l=>v=eG L th/\l=[.blk f [vI (X.cN),vI (X.cB),vI (X.cH),vI (X.cS),vI (X.cZ),.map (some m),vP t,vI (X.last),vI (X.af-1),vI (X.used)] 72,.abs (ax (ct (aC X O d name th) L)),.abs (ax (di (aC X O d name th) L))]):=by
 refine SE Tryz.func73 Tryz.ntmps73 (λR=>ah.seq ?_)
 obtain⟨tk,kd⟩:=th;simp only at hkt h3;rcases h3 with rfl|rfl|rfl
 ·replace hkt:(obj O tk).kind=1:=hkt
  replace hb:0<=(obj O tk).links/\(obj O tk).links<=1048576:=hb
  refine ah.region (jK 1 [] [] (NS (jK 5 [11,12] [(3,v_ 1 (bG L hkd))] (j6 2 hkd Au (jK 1 [7] [] (NS (jK 5 [17,18] [(3,v_ 1 (bG L hkd))] (eDl 2 [(1,0)] hkd Au hnt (λdW cV=>?_)))))))))
  have Xv:=ku cV hkd
  have abF:=ku cV hkt
  have acA:(obj dW tk).links=(obj O tk).links:=fu aI.links cV rfl
  refine NS (jK 9 [24,27] [(5,A_ 0 f 2)] (Ty 1 [(2,1)] d X.cS X.cZ Xv (λgG dK=>?_)))
  have Xw:=ku dK Xv
  have JX:=ku dK abF
  have adn:(obj gG tk).links=(obj O tk).links:=fu aI.links dK acA
  refine NS (jC 8 [] [(3,a_ 0 f),(4,wJ (X.af-1) (X.af-1)),(7,a_ 0 f)] [(0,[(8,vI (X.af-1))])] (NS (jK 1 [35] [] (gE [] (dG (L.b tk)) (jK 6 [40,42] [(2,v_ 1 (qA L JX)),(3,wJ ((obj gG tk).links-1) ((obj gG tk).links-1))] (wW 1 [(2,1)] tk 6 (λo=>{o with links:=o.links-1}) JX (λy9 pN=>?_)))))))
  have ac3:=ku pN Xw
  have ac4:=ku pN JX
  exact NS (jK 2 [6] [] (eN (l:=[.blk f [vI (X.cN),vI (X.cB),vI (X.cH),vI (X.cS),vI (X.cZ),.map (some m),vP t,vI (X.last),vI (X.af-1),vI (X.used)] 72,.abs (ax (ct y9 L)),.abs (ax (di y9 L))]) (v:=(.iface 78 (vP (L.b tk)))) ⟨rfl,by subst pN;subst dK;subst cV;rfl⟩))
 ·replace hkt:(obj O tk).kind=2:=hkt
  replace hb:0<=(obj O tk).links/\(obj O tk).links<=1048576:=hb
  refine ah.region (jK 1 [] [] (NS (jK 5 [11,12] [(3,v_ 1 (bG L hkd))] (j6 2 hkd Au (jK 1 [7] [] (NS (jK 5 [17,18] [(3,v_ 1 (bG L hkd))] (eDl 2 [(1,0)] hkd Au hnt (λdW cV=>?_)))))))))
  have Xx:=ku cV hkd
  have abG:=ku cV hkt
  have acB:(obj dW tk).links=(obj O tk).links:=fu aI.links cV rfl
  refine NS (jK 9 [24,27] [(5,A_ 0 f 2)] (Ty 1 [(2,1)] d X.cS X.cZ Xx (λgG dK=>?_)))
  have abH:=ku dK Xx
  have Qx:=ku dK abG
  have ado:(obj gG tk).links=(obj O tk).links:=fu aI.links dK acB
  refine NS (jC 8 [] [(3,a_ 0 f),(4,wJ (X.af-1) (X.af-1)),(7,a_ 0 f)] [(0,[(8,vI (X.af-1))])] (NS (jK 1 [35] [] (gE [] (dG (L.b tk)) (jK 6 [40,42] [(2,v_ 1 (qA L Qx)),(3,wJ ((obj gG tk).links-1) ((obj gG tk).links-1))] (wW 1 [(2,1)] tk 6 (λo=>{o with links:=o.links-1}) Qx (λy9 pN=>?_)))))))
  have ac5:=ku pN abH
  have ac6:=ku pN Qx
  exact NS (jK 2 [6] [] (eN (l:=[.blk f [vI (X.cN),vI (X.cB),vI (X.cH),vI (X.cS),vI (X.cZ),.map (some m),vP t,vI (X.last),vI (X.af-1),vI (X.used)] 72,.abs (ax (ct y9 L)),.abs (ax (di y9 L))]) (v:=(.iface 85 (vP (L.b tk)))) ⟨rfl,by subst pN;subst dK;subst cV;rfl⟩))
 replace hkt:(obj O tk).kind=3:=hkt
 replace hb:0<=(obj O tk).links/\(obj O tk).links<=1048576:=hb
 refine ah.region (jK 1 [] [] (NS (jK 5 [11,12] [(3,v_ 1 (bG L hkd))] (j6 2 hkd Au (jK 1 [7] [] (NS (jK 5 [17,18] [(3,v_ 1 (bG L hkd))] (eDl 2 [(1,0)] hkd Au hnt (λdW cV=>?_)))))))))
 have Xy:=ku cV hkd
 have abI:=ku cV hkt
 have acC:(obj dW tk).links=(obj O tk).links:=fu aI.links cV rfl
 refine NS (jK 9 [24,27] [(5,A_ 0 f 2)] (Ty 1 [(2,1)] d X.cS X.cZ Xy (λgG dK=>?_)))
 have abJ:=ku dK Xy
 have Qy:=ku dK abI
 have adp:(obj gG tk).links=(obj O tk).links:=fu aI.links dK acC
 refine NS (jC 8 [] [(3,a_ 0 f),(4,wJ (X.af-1) (X.af-1)),(7,a_ 0 f)] [(0,[(8,vI (X.af-1))])] (NS (jK 1 [35] [] (gE [] (dG (L.b tk)) (jK 6 [40,42] [(2,v_ 1 (qA L Qy)),(3,wJ ((obj gG tk).links-1) ((obj gG tk).links-1))] (wW 1 [(2,1)] tk 6 (λo=>{o with links:=o.links-1}) Qy (λy9 pN=>?_)))))))
 have ac7:=ku pN abJ
 have ac8:=ku pN Qy
 exact NS (jK 2 [6] [] (eN (l:=[.blk f [vI (X.cN),vI (X.cB),vI (X.cH),vI (X.cS),vI (X.cZ),.map (some m),vP t,vI (X.last),vI (X.af-1),vI (X.used)] 72,.abs (ax (ct y9 L)),.abs (ax (di y9 L))]) (v:=(.iface 82 (vP (L.b tk)))) ⟨rfl,by subst pN;subst dK;subst cV;rfl⟩))
end
section
open Go.RowKit Go.Maps aR ak
attribute [local irreducible] ai aQ ah aj bg
abbrev Tz (f:Nat) (X:FM) (m:Nat) (t):=(.blk f [vI (X.cN),vI (X.cB),vI (X.cH),vI (X.cS),vI (X.cZ),.map (some m),vP t,vI (X.last),vI (X.af),vI (X.used)] 72:HP)
theorem V2 {β:Bs} (X:FM) (f m t:Nat) (hX:0<=X.af/\X.af<=1048576/\-1125899906842624<=X.used/\X.used<=1125899906842624/\0<=X.last/\X.last<=1125899906842624) (O:bZ) (L:HL) (idx:Used Th) (TA:ak.bK (keys idx)) (th:Th) (hkt:(obj O th.k).kind=th.kind) (h3:th.kind=1\/th.kind=2\/th.kind=3) (hg:(obj O th.k).gone=true) (ho:(obj O th.k).opens=0) (hix:ak.get idx (obj O th.k).id=some th) (hw:(Lit.int .i64 (obj O th.k).id).wf=true) (Cq:(obj O th.k).data.length<=1125899906842624) :
 Spec Tryz.prog β 121 #[vP f,(eG L th)] [pO O L,pF f m t X,pI m L idx] (λv l=>v=.tuple #[]/\l=[pO O L,pF f m t {X with used:=if th.kind=1 then X.used-(obj O th.k).data.length else X.used},pI m L (del (obj O th.k).id idx)]):=by
 refine SE Tryz.func121 Tryz.ntmps121 (λR=>ah.seq ?_)
 obtain⟨tk,kd⟩:=th;simp only at hkt h3;rcases h3 with rfl|rfl|rfl
 ·replace hkt:(obj O tk).kind=1:=hkt
  replace hg:(obj O tk).gone=true:=hg
  replace ho:(obj O tk).opens=0:=ho
  replace hix:ak.get idx (obj O tk).id=some _:=hix
  replace hw:(Lit.int .i64 (obj O tk).id).wf=true:=hw
  have hdl:=tA TA (get_some hix)
  replace Cq:(obj O tk).data.length<=1125899906842624:=Cq
  exact ah.region (jK 1 [7] [] (gE [] (dG (L.b tk)) (jK 1 [4] [] (NZ (jK 6 [14] [(3,v_ 0 (qV L hkt))] (ai.mA 14 (!(obj O tk).gone) (λ_=>by kernel_rfl) (λjg=>absurd jg (by simp [hg])) (λjg=>jK 6 [20] [(3,v_ 0 (mR L hkt))] (NN (cP (((obj O tk).opens:Int)>(0:Int)) (λnS=>absurd nS (by omega)) (λnS=>KX (ah.seq (rM (List.range 9) 8 [0,1,2,3] (jR 8 [0,1,24,28] [(3,a_ 1 f),(7,v_ 0 (uU L hkt))] (bg.last rfl rfl (ai.EW 2 (d:=none) (t:=66) (K:=3) (E:=70) (b:=m) (n:=idx.length) (f:=(br (bw L idx))) (x:=(.tmp 24)) (ix:=(.tmp 28)) (key:=.int .i64 ((obj O tk).id)) (kl:=(.int .i64 (obj O tk).id)) (n':=(idx.length-1)) (f':=(br (bw L (del (obj O tk).id idx)))) (ats:=#[66,3]) (λ_=>by kernel_rfl) (by kernel_rfl) (λ_=>by kernel_rfl) (λ_=>by kernel_rfl) rfl gH Tryz.underlying66 (lu hw) (by rw [ij,hix];rfl) (GR) (NL (aj.np (NX (SR (jK 7 [5,6] [] (NS (jK 1 [34] [] (NT (rM (List.range 13) 12 [0,1,2,3] (jR 12 [44,46] [(3,a_ 1 f),(7,v_ 0 (Mk L hkt)),(9,wJ (X.used-(((obj O tk).data.length:Nat):Int)) (X.used-(((obj O tk).data.length:Nat):Int)))] (bg.last rfl rfl (jC 1 [] [(0,a_ 1 f)] [(1,[(9,vI (X.used-(((obj O tk).data.length:Nat):Int)))])] (NL (aj.np (aj.dX [(2,.abs (aY Tryz.prog 3 m (br (bw L (del (obj O tk).id idx))) ((del (obj O tk).id idx).length)))] (λw hS=>by rw [show (del (obj O tk).id idx).length=idx.length-1 by omega];exact hS) (RF (.tuple #[]) [0,1,2,3] (⟨rfl,rfl⟩))))))))))))))))))))))))))))))))
 ·replace hkt:(obj O tk).kind=2:=hkt
  replace hg:(obj O tk).gone=true:=hg
  replace ho:(obj O tk).opens=0:=ho
  replace hix:ak.get idx (obj O tk).id=some _:=hix
  replace hw:(Lit.int .i64 (obj O tk).id).wf=true:=hw
  have hdl:=tA TA (get_some hix)
  replace Cq:(obj O tk).data.length<=1125899906842624:=Cq
  exact ah.region (jK 1 [7] [] (gE [] (dG (L.b tk)) (jK 1 [4] [] (NZ (jK 6 [14] [(3,v_ 0 (qV L hkt))] (ai.mA 14 (!(obj O tk).gone) (λ_=>by kernel_rfl) (λjg=>absurd jg (by simp [hg])) (λjg=>jK 6 [20] [(3,v_ 0 (mR L hkt))] (NN (cP (((obj O tk).opens:Int)>(0:Int)) (λnS=>absurd nS (by omega)) (λnS=>KX (ah.seq (rM (List.range 9) 8 [0,1,2,3] (jR 8 [0,1,24,28] [(3,a_ 1 f),(7,v_ 0 (uU L hkt))] (bg.last rfl rfl (ai.EW 2 (d:=none) (t:=66) (K:=3) (E:=70) (b:=m) (n:=idx.length) (f:=(br (bw L idx))) (x:=(.tmp 24)) (ix:=(.tmp 28)) (key:=.int .i64 ((obj O tk).id)) (kl:=(.int .i64 (obj O tk).id)) (n':=(idx.length-1)) (f':=(br (bw L (del (obj O tk).id idx)))) (ats:=#[66,3]) (λ_=>by kernel_rfl) (by kernel_rfl) (λ_=>by kernel_rfl) (λ_=>by kernel_rfl) rfl gH Tryz.underlying66 (lu hw) (by rw [ij,hix];rfl) (GR) (NL (aj.np (NX (SR (jK 7 [5,6] [] (NS (jK 1 [34] [] (NF (ah.skip (aj.dX [(2,.abs (aY Tryz.prog 3 m (br (bw L (del (obj O tk).id idx))) ((del (obj O tk).id idx).length)))] (λw hS=>by rw [show (del (obj O tk).id idx).length=idx.length-1 by omega];exact hS) (RF (.tuple #[]) [0,1,2,3] (⟨rfl,rfl⟩)))))))))))))))))))))))))))
 replace hkt:(obj O tk).kind=3:=hkt
 replace hg:(obj O tk).gone=true:=hg
 replace ho:(obj O tk).opens=0:=ho
 replace hix:ak.get idx (obj O tk).id=some _:=hix
 replace hw:(Lit.int .i64 (obj O tk).id).wf=true:=hw
 have hdl:=tA TA (get_some hix)
 replace Cq:(obj O tk).data.length<=1125899906842624:=Cq
 exact ah.region (jK 1 [7] [] (gE [] (dG (L.b tk)) (jK 1 [4] [] (NZ (jK 6 [14] [(3,v_ 0 (qV L hkt))] (ai.mA 14 (!(obj O tk).gone) (λ_=>by kernel_rfl) (λjg=>absurd jg (by simp [hg])) (λjg=>jK 6 [20] [(3,v_ 0 (mR L hkt))] (NN (cP (((obj O tk).opens:Int)>(0:Int)) (λnS=>absurd nS (by omega)) (λnS=>KX (ah.seq (rM (List.range 9) 8 [0,1,2,3] (jR 8 [0,1,24,28] [(3,a_ 1 f),(7,v_ 0 (uU L hkt))] (bg.last rfl rfl (ai.EW 2 (d:=none) (t:=66) (K:=3) (E:=70) (b:=m) (n:=idx.length) (f:=(br (bw L idx))) (x:=(.tmp 24)) (ix:=(.tmp 28)) (key:=.int .i64 ((obj O tk).id)) (kl:=(.int .i64 (obj O tk).id)) (n':=(idx.length-1)) (f':=(br (bw L (del (obj O tk).id idx)))) (ats:=#[66,3]) (λ_=>by kernel_rfl) (by kernel_rfl) (λ_=>by kernel_rfl) (λ_=>by kernel_rfl) rfl gH Tryz.underlying66 (lu hw) (by rw [ij,hix];rfl) (GR) (NL (aj.np (NX (SR (jK 7 [5,6] [] (NS (jK 1 [34] [] (NF (ah.skip (aj.dX [(2,.abs (aY Tryz.prog 3 m (br (bw L (del (obj O tk).id idx))) ((del (obj O tk).id idx).length)))] (λw hS=>by rw [show (del (obj O tk).id idx).length=idx.length-1 by omega];exact hS) (RF (.tuple #[]) [0,1,2,3] (⟨rfl,rfl⟩)))))))))))))))))))))))))))
theorem Qz {β:Bs} (O:bZ) (L:HL) (f:Nat) (th:Th) (hkt:(obj O th.k).kind=th.kind) (h3:th.kind=1\/th.kind=2\/th.kind=3) (hg:(obj O th.k).gone=false\/0<(obj O th.k).opens) :
 Spec Tryz.prog β 121 #[vP f,(eG L th)] [pO O L] (λv l=>v=.tuple #[]/\l=[pO O L]):=by
 refine SE Tryz.func121 Tryz.ntmps121 (λR=>ah.seq ?_)
 obtain⟨tk,kd⟩:=th;simp only at hkt h3;rcases h3 with rfl|rfl|rfl
 ·replace hkt:(obj O tk).kind=1:=hkt
  replace hg:(obj O tk).gone=false\/0<(obj O tk).opens:=hg
  exact ah.region (jK 1 [7] [] (gE [] (dG (L.b tk)) (jK 1 [4] [] (NZ (jK 6 [14] [(3,v_ 0 (qV L hkt))] (ai.mA 14 (!(obj O tk).gone) (λ_=>by kernel_rfl) (λjg=>jK 6 [20] [] (NT (ah.ret (aj.aG (RT _ [0,1] (⟨rfl,rfl⟩)))))) (λjg=>jK 6 [20] [(3,v_ 0 (mR L hkt))] (NN (cP (((obj O tk).opens:Int)>(0:Int)) (λnS=>ah.ret (aj.aG (RT _ [0,1] (⟨rfl,rfl⟩)))) (λnS=>absurd hg (by simp at jg;rw [jg];simp;omega)))))))))))
 ·replace hkt:(obj O tk).kind=2:=hkt
  replace hg:(obj O tk).gone=false\/0<(obj O tk).opens:=hg
  exact ah.region (jK 1 [7] [] (gE [] (dG (L.b tk)) (jK 1 [4] [] (NZ (jK 6 [14] [(3,v_ 0 (qV L hkt))] (ai.mA 14 (!(obj O tk).gone) (λ_=>by kernel_rfl) (λjg=>jK 6 [20] [] (NT (ah.ret (aj.aG (RT _ [0,1] (⟨rfl,rfl⟩)))))) (λjg=>jK 6 [20] [(3,v_ 0 (mR L hkt))] (NN (cP (((obj O tk).opens:Int)>(0:Int)) (λnS=>ah.ret (aj.aG (RT _ [0,1] (⟨rfl,rfl⟩)))) (λnS=>absurd hg (by simp at jg;rw [jg];simp;omega)))))))))))
 replace hkt:(obj O tk).kind=3:=hkt
 replace hg:(obj O tk).gone=false\/0<(obj O tk).opens:=hg
 exact ah.region (jK 1 [7] [] (gE [] (dG (L.b tk)) (jK 1 [4] [] (NZ (jK 6 [14] [(3,v_ 0 (qV L hkt))] (ai.mA 14 (!(obj O tk).gone) (λ_=>by kernel_rfl) (λjg=>jK 6 [20] [] (NT (ah.ret (aj.aG (RT _ [0,1] (⟨rfl,rfl⟩)))))) (λjg=>jK 6 [20] [(3,v_ 0 (mR L hkt))] (NN (cP (((obj O tk).opens:Int)>(0:Int)) (λnS=>ah.ret (aj.aG (RT _ [0,1] (⟨rfl,rfl⟩)))) (λnS=>absurd hg (by simp at jg;rw [jg];simp;omega)))))))))))
theorem uN {β:Bs} (X:FM) (f m t:Nat) (hX:0<=X.af/\X.af<=1048576/\-1125899906842624<=X.used/\X.used<=1125899906842624/\0<=X.last/\X.last<=1125899906842624) (O:bZ) (L:HL) (idx:Used Th) (TA:ak.bK (keys idx)) (th:Th) (hkt:(obj O th.k).kind=th.kind) (h3:th.kind=1\/th.kind=2\/th.kind=3) (ho:0<=(obj O th.k).opens) (hix:qY O th->ak.get idx (obj O th.k).id=some th) (hw:(Lit.int .i64 (obj O th.k).id).wf=true) (Cq:(obj O th.k).data.length<=1125899906842624) :
 Spec Tryz.prog β 121 #[vP f,(eG L th)] [pO O L,pF f m t X,pI m L idx] (λv l=>v=.tuple #[]/\l=[pO O L,pF f m t {X with used:=mX O X.used th},pI m L (iM O idx th)]):=by
 unfold mX iM
 by_cases h:qY O th
 ·rw [if_pos h,if_pos h]
  exact V2 X f m t hX O L idx TA th hkt h3 h.1 h.2 (hix h) hw Cq
 rw [if_neg h,if_neg h]
 refine (Spec.uQ (pre:=[pO O L]) (R:=[pF f m t X,pI m L idx]) (λ_ _=>Qz O L f th hkt h3 ?_)).mono (by grind)
 cases hg:(obj O th.k).gone with
 |false=>exact .inl rfl
 |true=>exact .inr (by have:¬(obj O th.k).opens=0:=λe=>h ⟨hg,e⟩;omega)
theorem yA {β:Bs} (X:FM) (f m t:Nat):Spec Tryz.prog β 119 #[vP f] [Tz f X m t] (λv l=>v=.bool (decide (X.af<8192))/\l=[Tz f X m t]):=by
 exact SE Tryz.func119 Tryz.ntmps119 (λR=>SR (jK 1 [] [] (NS (jK 6 [2] [(3,a_ 0 f)] (eN ⟨rfl,rfl⟩)))))
theorem iJ {β:Bs} (a b:Int):Spec Tryz.prog β 18 #[vI a,vI b] [] (λv l=>v=.bool (decide (0<=a/\a<=b))/\l=[]):=by
 exact SE Tryz.func18 Tryz.ntmps18 (λR=>SR (jK 1 [] [] (NS (jK 3 [7] [] (sP 7 ((a:Int)>=(0:Int)) (λh7=>jK 5 [4] [] (eN (v:=(.bool (decide ((a:Int)<=(b:Int))))) ⟨by grind,rfl⟩)) (λh7=>jK 5 [4] [] (eN (v:=(.bool false)) ⟨by grind,rfl⟩)))))))
theorem Mr {β:Bs} (X:FM) (f m t:Nat) (L:HL) (idx:Used Th):Spec Tryz.prog β 69 #[vP f] [Tz f X m t,.abs (aY Tryz.prog 3 m (br (bw L idx)) idx.length)] (λv l=>v=.bool (decide ((idx.length:Int)<X.cN/\X.last<1099511627776/\X.af<8192))/\l=[Tz f X m t,.abs (aY Tryz.prog 3 m (br (bw L idx)) idx.length)]):=by
 exact SE Tryz.func69 Tryz.ntmps69 (λR=>SR (jK 1 [] [] (NN (ah.seq (rQ (jQ 4 [6] [(3,a_ 0 f)] (aQ.yB 1 (d:=(some 7)) (t:=66) (K:=3) (E:=70) (b:=m) (n:=idx.length) (f:=(br (bw L idx))) (x:=(.tmp 6)) (ats:=#[66]) (λ_=>by kernel_rfl) (by kernel_rfl) (λ_=>by kernel_rfl) rfl Tryz.underlying66 (jQ 7 [14] [(4,a_ 0 f)] (aQ.tU 14 ((((idx.length:Nat):Int):Int)<(X.cN:Int)) (λ_=>by kernel_rfl) (λjg=>jQ 7 [21] [(3,a_ 0 f)] (aQ.tU 21 ((X.last:Int)<(1099511627776:Int)) (λ_=>by kernel_rfl) (λpz=>jQ 1 [22] [] (jU [0] [0,1,2] (.bool (decide (X.af<8192))) (yA X f m t) (jQ 2 [2] [] (NQ (NX (ah.ret (RT (.bool (decide (X.af<8192))) [0,1,2] (⟨by grind,rfl⟩)))))))) (λpz=>jQ 4 [2] [] (NQ (NX (ah.ret (RT (.bool false) [0,1,2] (⟨by grind,rfl⟩)))))))) (λjg=>jQ 11 [2] [] (NQ (NX (ah.ret (RT (.bool false) [0,1,2] (⟨by grind,rfl⟩)))))))))))))))
theorem xZ {β:Bs} (X:FM) (f m t:Nat) (hX:0<=X.af/\X.af<=1048576/\-1125899906842624<=X.used/\X.used<=1125899906842624/\0<=X.last/\X.last<=1125899906842624) (mode:Int):Spec Tryz.prog β 34 #[vP f,vI mode] [Tz f X m t] (λv l=>v=.agg #[vI (X.last+1),vI mode,vI 0,vI 0,vI X.cS,vI X.cZ,vI 0,vI 0,.bool false]/\l=[.blk f [vI (X.cN),vI (X.cB),vI (X.cH),vI (X.cS),vI (X.cZ),.map (some m),vP t,vI (X.last+1),vI (X.af),vI (X.used)] 72]):=by
 exact SE Tryz.func34 Tryz.ntmps34 (λR=>SR (jB 1 [4] (λb1=>.blk b1 [vI 0,vI 0,vI 0,vI 0,vI 0,vI 0,vI 0,vI 0,.bool false] 77) (λb1=>NS (jC 8 [] [(3,a_ 0 f),(4,wJ (X.last+1) (X.last+1)),(7,a_ 0 f)] [(0,[(7,vI (X.last+1))])] (NN (ah.seq (rM (List.range 12) 11 [0,1,2] (jR 11 [4,22] [(3,a_ 0 f),(9,A_ 0 f 2)] (bg.last rfl rfl (jC 1 [] [(0,A_ 2 b1 9)] [(2,[(0,vI (X.last+1)),(1,vI (mode)),(4,vI (X.cS)),(5,vI (X.cZ))])] (NL (aj.np (NX (ah.ret (rT _ [A_ 2 b1 9] [0,1] (⟨rfl,rfl⟩))))))))))))))))
end
section
open Go.RowKit Go.Maps aR ak
attribute [local irreducible] ai aQ ah aj bg
theorem rG {β:Bs} (S:aK) (L:HL) (f m t:Nat) (hI:Inv S) (d:Nat) (hd:Live S.idx ⟨d,2⟩) (name:ByteArray) (hsz:name.size<=1048576) (th:Th) (hlk:aH name (obj S.O d).af=some th) :
 Spec Tryz.prog β 72 #[vP f,vP (L.b d),.string name] [pF f m t S.X,pO S.O L,pE S.O L,pI m L S.idx] (λv l=>v=.tuple #[]/\l=[pF f m t ((aB S d name th).X),pO ((aB S d name th).O) L,pE ((aB S d name th).O) L,pI m L ((aB S d name th).idx)]):=by
 have hX:=hI.hX
 have hel:(obj S.O d).af.length<=8192:=hI.iY hd
 have hkd:(obj S.O d).kind=2:=hI.kind hd
 refine SE Tryz.func72 Tryz.ntmps72 (λR=>ah.seq ?_)
 obtain⟨tk,kd⟩:=th;have hlv:=(hI.ent hd hlk).2;have adq:=hI.ne hd hlk;rcases (hI.ob _ hlv).2.2 with e0|e0|e0<;>simp only at e0<;>subst e0
 ·have hkt:(obj S.O tk).kind=1:=hI.kind hlv
  have hlb:=hI.lb hlv;have hid:=hI.ob _ hlv;have hop:=hI.Ir hlv;have hdl:=hI.KQ hlv;have tP:=hI.RM hlv
  refine ah.region (jK 3 [8,9,10] [] (gE [0,1,2] (lQ S.X f m t hX S.O L d hkd name hsz ⟨tk,1⟩ hkt (by simp) hlk (hI.twice hd) (by omega) (by simp only at hlb ⊢;omega)) (jK 1 [6] [] (NS ?_))))
  have mO:(obj (aC S.X S.O d name ⟨tk,1⟩) d).kind=2:=(cT).trans (hkd)
  have ql:(obj (aC S.X S.O d name ⟨tk,1⟩) tk).kind=1:=(cT).trans (hkt)
  have Cr:(obj (aC S.X S.O d name ⟨tk,1⟩) tk).id=(obj S.O tk).id:=cD (g:=aI.id) (λ_ _=>rfl) (λ_ _=>rfl) (λ_ _ _=>rfl)
  have Cs:(obj (aC S.X S.O d name ⟨tk,1⟩) tk).opens=(obj S.O tk).opens:=cD (g:=aI.opens) (λ_ _=>rfl) (λ_ _=>rfl) (λ_ _ _=>rfl)
  have Ct:(obj (aC S.X S.O d name ⟨tk,1⟩) tk).data=(obj S.O tk).data:=cD (g:=aI.data) (λ_ _=>rfl) (λ_ _=>rfl) (λ_ _ _=>rfl)
  generalize cV:(aC S.X S.O d name ⟨tk,1⟩)=dW at mO ql Cr Cs Ct ⊢
  refine jK 1 [12] [] (gE [] (dG (L.b tk)) (jK 1 [7] [] (NS (jK 5 [18] [(3,v_ 1 (qA L ql))] (NN (cP (((obj dW tk).links:Int)=(0:Int)) (λmF=>SR (jK 3 [21] [] (wW 1 [(2,1)] tk 8 (λo=>{o with gone:=true}) ql (λgG dK=>?_)))) (λmF=>ah.skip (RF (l:=[pF f m t {S.X with af:=S.X.af-1},pO dW L,pE dW L,pI m L S.idx]) (.tuple #[]) [0,1,2,3,4] (⟨rfl,by grind [aB,ur]⟩)))))))))
  have Hv:=ku dK mO
  have Co:=ku dK ql
  have TB:(obj gG tk).id=(obj S.O tk).id:=fu aI.id dK Cr
  have hf6:(obj gG tk).opens=(obj S.O tk).opens:=fu aI.opens dK Cs
  have hf7:(obj gG tk).data=(obj S.O tk).data:=fu aI.data dK Ct
  exact NN (ah.region (jK 2 [22,23] [] (gE [1,0,3] (uN {S.X with af:=S.X.af-1} f m t (hI.Dy hd hlk) gG L S.idx hI.rise ⟨tk,1⟩ Co (by simp) (by rw [hf6];exact hop.1) (λ_=>by rw [TB,hid.1];exact hlv) (by rw [TB];exact tP) (by rw [hf7];exact hdl)) (NL (RF (l:=[pF f m t {S.X with af:=S.X.af-1,used:=mX gG S.X.used ⟨tk,1⟩},pO gG L,pE gG L,pI m L (iM gG S.idx ⟨tk,1⟩)]) (.tuple #[]) [1,0,3,2,4] (⟨rfl,by subst dK;subst cV;rw [show aB S d name ⟨tk,1⟩=_ from uq mF]<;>rfl⟩))))))
 ·have hkt:(obj S.O tk).kind=2:=hI.kind hlv
  have hlb:=hI.lb hlv;have hid:=hI.ob _ hlv;have hop:=hI.Ir hlv;have hdl:=hI.KQ hlv;have tP:=hI.RM hlv
  refine ah.region (jK 3 [8,9,10] [] (gE [0,1,2] (lQ S.X f m t hX S.O L d hkd name hsz ⟨tk,2⟩ hkt (by simp) hlk (hI.twice hd) (by omega) (by simp only at hlb ⊢;omega)) (jK 1 [6] [] (NS ?_))))
  have aaB:(obj (aC S.X S.O d name ⟨tk,2⟩) d).kind=2:=(cT).trans (hkd)
  have Hu:(obj (aC S.X S.O d name ⟨tk,2⟩) tk).kind=2:=(cT).trans (hkt)
  have Cr:(obj (aC S.X S.O d name ⟨tk,2⟩) tk).id=(obj S.O tk).id:=cD (g:=aI.id) (λ_ _=>rfl) (λ_ _=>rfl) (λ_ _ _=>rfl)
  have Cs:(obj (aC S.X S.O d name ⟨tk,2⟩) tk).opens=(obj S.O tk).opens:=cD (g:=aI.opens) (λ_ _=>rfl) (λ_ _=>rfl) (λ_ _ _=>rfl)
  have Ct:(obj (aC S.X S.O d name ⟨tk,2⟩) tk).data=(obj S.O tk).data:=cD (g:=aI.data) (λ_ _=>rfl) (λ_ _=>rfl) (λ_ _ _=>rfl)
  generalize cV:(aC S.X S.O d name ⟨tk,2⟩)=dW at aaB Hu Cr Cs Ct ⊢
  refine jK 1 [12] [] (gE [] (dG (L.b tk)) (jK 1 [7] [] (NS (jK 5 [18] [(3,v_ 1 (qA L Hu))] (NN (cP (((obj dW tk).links:Int)=(0:Int)) (λmF=>SR (jK 3 [21] [] (wW 1 [(2,1)] tk 8 (λo=>{o with gone:=true}) Hu (λgG dK=>?_)))) (λmF=>ah.skip (RF (l:=[pF f m t {S.X with af:=S.X.af-1},pO dW L,pE dW L,pI m L S.idx]) (.tuple #[]) [0,1,2,3,4] (⟨rfl,by grind [aB,ur]⟩)))))))))
  have Qv:=ku dK aaB
  have Xu:=ku dK Hu
  have aaC:(obj gG tk).id=(obj S.O tk).id:=fu aI.id dK Cr
  have acD:(obj gG tk).opens=(obj S.O tk).opens:=fu aI.opens dK Cs
  have acE:(obj gG tk).data=(obj S.O tk).data:=fu aI.data dK Ct
  exact NN (ah.region (jK 2 [22,23] [] (gE [1,0,3] (uN {S.X with af:=S.X.af-1} f m t (hI.Dy hd hlk) gG L S.idx hI.rise ⟨tk,2⟩ Xu (by simp) (by rw [acD];exact hop.1) (λ_=>by rw [aaC,hid.1];exact hlv) (by rw [aaC];exact tP) (by rw [acE];exact hdl)) (NL (RF (l:=[pF f m t {S.X with af:=S.X.af-1,used:=mX gG S.X.used ⟨tk,2⟩},pO gG L,pE gG L,pI m L (iM gG S.idx ⟨tk,2⟩)]) (.tuple #[]) [1,0,3,2,4] (⟨rfl,by subst dK;subst cV;rw [show aB S d name ⟨tk,2⟩=_ from uq mF]<;>rfl⟩))))))
 have hkt:(obj S.O tk).kind=3:=hI.kind hlv
 have hlb:=hI.lb hlv;have hid:=hI.ob _ hlv;have hop:=hI.Ir hlv;have hdl:=hI.KQ hlv;have tP:=hI.RM hlv
 refine ah.region (jK 3 [8,9,10] [] (gE [0,1,2] (lQ S.X f m t hX S.O L d hkd name hsz ⟨tk,3⟩ hkt (by simp) hlk (hI.twice hd) (by omega) (by simp only at hlb ⊢;omega)) (jK 1 [6] [] (NS ?_))))
 have Xz:(obj (aC S.X S.O d name ⟨tk,3⟩) d).kind=2:=(cT).trans (hkd)
 have Ge:(obj (aC S.X S.O d name ⟨tk,3⟩) tk).kind=3:=(cT).trans (hkt)
 have Cr:(obj (aC S.X S.O d name ⟨tk,3⟩) tk).id=(obj S.O tk).id:=cD (g:=aI.id) (λ_ _=>rfl) (λ_ _=>rfl) (λ_ _ _=>rfl)
 have Cs:(obj (aC S.X S.O d name ⟨tk,3⟩) tk).opens=(obj S.O tk).opens:=cD (g:=aI.opens) (λ_ _=>rfl) (λ_ _=>rfl) (λ_ _ _=>rfl)
 have Ct:(obj (aC S.X S.O d name ⟨tk,3⟩) tk).data=(obj S.O tk).data:=cD (g:=aI.data) (λ_ _=>rfl) (λ_ _=>rfl) (λ_ _ _=>rfl)
 generalize cV:(aC S.X S.O d name ⟨tk,3⟩)=dW at Xz Ge Cr Cs Ct ⊢
 refine jK 1 [12] [] (gE [] (dG (L.b tk)) (jK 1 [7] [] (NS (jK 5 [18] [(3,v_ 1 (qA L Ge))] (NN (cP (((obj dW tk).links:Int)=(0:Int)) (λmF=>SR (jK 3 [21] [] (wW 1 [(2,1)] tk 8 (λo=>{o with gone:=true}) Ge (λgG dK=>?_)))) (λmF=>ah.skip (RF (l:=[pF f m t {S.X with af:=S.X.af-1},pO dW L,pE dW L,pI m L S.idx]) (.tuple #[]) [0,1,2,3,4] (⟨rfl,by grind [aB,ur]⟩)))))))))
 have abE:=ku dK Xz
 have Gf:=ku dK Ge
 have aaD:(obj gG tk).id=(obj S.O tk).id:=fu aI.id dK Cr
 have acF:(obj gG tk).opens=(obj S.O tk).opens:=fu aI.opens dK Cs
 have acG:(obj gG tk).data=(obj S.O tk).data:=fu aI.data dK Ct
 exact NN (ah.region (jK 2 [22,23] [] (gE [1,0,3] (uN {S.X with af:=S.X.af-1} f m t (hI.Dy hd hlk) gG L S.idx hI.rise ⟨tk,3⟩ Gf (by simp) (by rw [acF];exact hop.1) (λ_=>by rw [aaD,hid.1];exact hlv) (by rw [aaD];exact tP) (by rw [acG];exact hdl)) (NL (RF (l:=[pF f m t {S.X with af:=S.X.af-1,used:=mX gG S.X.used ⟨tk,3⟩},pO gG L,pE gG L,pI m L (iM gG S.idx ⟨tk,3⟩)]) (.tuple #[]) [1,0,3,2,4] (⟨rfl,by subst dK;subst cV;rw [show aB S d name ⟨tk,3⟩=_ from uq mF]<;>rfl⟩))))))
theorem x3 {β:Bs} (S:aK) (L:HL) (f m t:Nat) (hI:Inv S) (d:Nat) (hd:Live S.idx ⟨d,2⟩) (name:ByteArray) (hsz:name.size<=1048576) :
 Spec Tryz.prog β 33 #[vP f,vP (L.b d),.string name] [pF f m t S.X,pI m L S.idx,pE S.O L,pO S.O L] (λv l=>v=vI (dH S.X S.O S.idx d name)/\l=[pF f m t S.X,pI m L S.idx,pE S.O L,pO S.O L]):=by
 have hX:=hI.hX
 have hel:(obj S.O d).af.length<=8192:=hI.iY hd
 have hkd:(obj S.O d).kind=2:=hI.kind hd
 refine SE Tryz.func33 Tryz.ntmps33 (λR=>ah.seq ?_)
 rcases hI.pV hd name with hlk|⟨tk,hlk,hlv⟩|⟨tk,hlk,hlv⟩|⟨tk,hlk,hlv⟩
 ·exact ah.region (jK 1 [] [] (NZ (jK 5 [10,11] [(3,v_ 3 (bG L hkd))] (j6 2 hkd hlk (jK 1 [13] [] (NF (KX (SQ (jK 1 [14] [] (gE [0,1] (Mr S.X f m t L S.idx) (jK 1 [16] [] (NN (cN ((S.idx.length:Int)<S.X.cN/\S.X.last<1099511627776/\S.X.af<8192) (λog=>zR ⟨congrArg (Value.int .i64) (Eq.symm (show dH S.X S.O S.idx d name=_ from (if_pos hlk).trans (if_neg og))),rfl⟩) (λog=>KX (zR ⟨congrArg (Value.int .i64) (Eq.symm (show dH S.X S.O S.idx d name=_ from (if_pos hlk).trans (if_pos og))),rfl⟩)))))))))))))))
 ·have hkt:(obj S.O tk).kind=1:=hI.kind hlv
  exact ah.region (jK 1 [] [] (NZ (jK 5 [10,11] [(3,v_ 3 (bG L hkd))] (j6 2 hkd hlk (jK 1 [13] [] (NT (zR ⟨congrArg (Value.int .i64) (Eq.symm (show dH S.X S.O S.idx d name=_ from if_neg (by rw [hlk];simp))),rfl⟩)))))))
 ·have hkt:(obj S.O tk).kind=2:=hI.kind hlv
  exact ah.region (jK 1 [] [] (NZ (jK 5 [10,11] [(3,v_ 3 (bG L hkd))] (j6 2 hkd hlk (jK 1 [13] [] (NT (zR ⟨congrArg (Value.int .i64) (Eq.symm (show dH S.X S.O S.idx d name=_ from if_neg (by rw [hlk];simp))),rfl⟩)))))))
 have hkt:(obj S.O tk).kind=3:=hI.kind hlv
 exact ah.region (jK 1 [] [] (NZ (jK 5 [10,11] [(3,v_ 3 (bG L hkd))] (j6 2 hkd hlk (jK 1 [13] [] (NT (zR ⟨congrArg (Value.int .i64) (Eq.symm (show dH S.X S.O S.idx d name=_ from if_neg (by rw [hlk];simp))),rfl⟩)))))))
theorem Yw {β:Bs} (s:ByteArray) (hsz:s.size<=1048576) :
 Spec Tryz.prog β 71 #[.string s] [] (λv l=>v=vI (iP s)/\l=[]):=by
 refine SE Tryz.func71 Tryz.ntmps71 (λR=>SR (jK 1 [] [] (NN (ah.seq (ah.block (SR (jK 3 [3] [(1,w_ (.bool (decide ((s:ByteArray)=⟨#[]⟩))) (nZ _ _))] (NN (cP ((s:ByteArray)=⟨#[]⟩) (λh3=>zR ⟨congrArg (Value.int .i64) (Eq.symm (show iP s=_ from if_pos h3)),rfl⟩) (λh3=>SR (jK 4 [6] [] (NN (cP (((((s:ByteArray).size:Nat):Int):Int)>(4096:Int)) (λh6=>zR ⟨congrArg (Value.int .i64) (Eq.symm (show iP s=_ from (if_neg h3).trans (if_pos (by omega)))),rfl⟩) (λh6=>SR (jK 1 [11] [] (gL [] (Ng s) ?_))))))))))))))))
 rintro _ _ ⟨⟨x,rfl,hx⟩,rfl⟩
 exact jK 2 [10] [] (NN (cP ((x:Int)>=(0:Int)) (λh10=>zR ⟨congrArg (Value.int .i64) (Eq.symm (show iP s=_ from (if_neg h3).trans ((if_neg (by omega)).trans (if_neg (hx.1 (by omega)))))),rfl⟩) (λh10=>KX (zR ⟨congrArg (Value.int .i64) (Eq.symm (show iP s=_ from (if_neg h3).trans ((if_neg (by omega)).trans (if_pos (Classical.byContradiction (λhn=>absurd (hx.2 hn) (by omega))))))),rfl⟩))))
theorem wX {β:Bs} (S:aK) (L:HL) (f m t:Nat) (th:Th) (hkt:(obj S.O th.k).kind=th.kind) (h3:th.kind=1\/th.kind=2\/th.kind=3) (hop:0<=(obj S.O th.k).opens/\(obj S.O th.k).opens<=1048576) :
 Spec Tryz.prog β 125 #[vP f,(eG L th)] [pF f m t S.X,pT t S.X.cH S.ar L S.us,pO S.O L] (λv l=>v=.tuple #[vI (cu S th).1,vI (cu S th).2.1]/\l=[pF f m t S.X,pT t S.X.cH ((cu S th).2.2.ar) L ((cu S th).2.2.us),pO ((cu S th).2.2.O) L]):=by
 refine SE Tryz.func125 Tryz.ntmps125 (λR=>ah.seq ?_)
 obtain⟨tk,kd⟩:=th;simp only at hkt h3;rcases Int.lt_or_le (S.us.length:Int) S.X.cH with DP|DP<;>rcases h3 with e0|e0|e0<;>subst e0
 ·replace hkt:(obj S.O tk).kind=1:=hkt
  replace hop:0<=(obj S.O tk).opens/\(obj S.O tk).opens<=1048576:=hop
  refine ah.region (jK 2 [] [] (NS (jK 5 [12,13] [(3,a_ 0 f)] (gE [1] ((Ee t S.X.cH S.ar (bw L S.us) (eG L ⟨tk,1⟩) (by rw [tD];exact DP)).mono (λv l h=>GS h)) (jK 5 [6,7] [] (NZ (jK 2 [18] [] (NT (ah.region (jK 1 [19] [] (gE [] (dG (L.b tk)) (jK 6 [24,26] [(2,v_ 2 (mR L hkt)),(3,wJ ((obj S.O tk).opens+1) ((obj S.O tk).opens+1))] (wW 2 [] tk 7 (λo=>{o with opens:=o.opens+1}) hkt (λdW cV=>?_))))))))))))))
  have ac9:=ku cV hkt
  exact NS (jK 4 [4,5] [] (eN (l:=[pF f m t S.X,pT t S.X.cH (max S.ar ((S.us.length:Int)+1)) L (ins (ak.least S.us) ⟨tk,1⟩ S.us),pO dW L]) (v:=(.tuple #[vI ((ak.least S.us)),vI 0])) (by grind [cu,j9]) [1,0,2,3]))
 ·replace hkt:(obj S.O tk).kind=2:=hkt
  replace hop:0<=(obj S.O tk).opens/\(obj S.O tk).opens<=1048576:=hop
  refine ah.region (jK 2 [] [] (NS (jK 5 [12,13] [(3,a_ 0 f)] (gE [1] ((Ee t S.X.cH S.ar (bw L S.us) (eG L ⟨tk,2⟩) (by rw [tD];exact DP)).mono (λv l h=>GS h)) (jK 5 [6,7] [] (NZ (jK 2 [18] [] (NT (ah.region (jK 1 [19] [] (gE [] (dG (L.b tk)) (jK 6 [24,26] [(2,v_ 2 (mR L hkt)),(3,wJ ((obj S.O tk).opens+1) ((obj S.O tk).opens+1))] (wW 2 [] tk 7 (λo=>{o with opens:=o.opens+1}) hkt (λdW cV=>?_))))))))))))))
  have Xw:=ku cV hkt
  exact NS (jK 4 [4,5] [] (eN (l:=[pF f m t S.X,pT t S.X.cH (max S.ar ((S.us.length:Int)+1)) L (ins (ak.least S.us) ⟨tk,2⟩ S.us),pO dW L]) (v:=(.tuple #[vI ((ak.least S.us)),vI 0])) (by grind [cu,j9]) [1,0,2,3]))
 ·replace hkt:(obj S.O tk).kind=3:=hkt
  replace hop:0<=(obj S.O tk).opens/\(obj S.O tk).opens<=1048576:=hop
  refine ah.region (jK 2 [] [] (NS (jK 5 [12,13] [(3,a_ 0 f)] (gE [1] ((Ee t S.X.cH S.ar (bw L S.us) (eG L ⟨tk,3⟩) (by rw [tD];exact DP)).mono (λv l h=>GS h)) (jK 5 [6,7] [] (NZ (jK 2 [18] [] (NT (ah.region (jK 1 [19] [] (gE [] (dG (L.b tk)) (jK 6 [24,26] [(2,v_ 2 (mR L hkt)),(3,wJ ((obj S.O tk).opens+1) ((obj S.O tk).opens+1))] (wW 2 [] tk 7 (λo=>{o with opens:=o.opens+1}) hkt (λdW cV=>?_))))))))))))))
  have JX:=ku cV hkt
  exact NS (jK 4 [4,5] [] (eN (l:=[pF f m t S.X,pT t S.X.cH (max S.ar ((S.us.length:Int)+1)) L (ins (ak.least S.us) ⟨tk,3⟩ S.us),pO dW L]) (v:=(.tuple #[vI ((ak.least S.us)),vI 0])) (by grind [cu,j9]) [1,0,2,3]))
 ·replace hkt:(obj S.O tk).kind=1:=hkt
  replace hop:0<=(obj S.O tk).opens/\(obj S.O tk).opens<=1048576:=hop
  exact ah.region (jK 2 [] [] (NS (jK 5 [12,13] [(3,a_ 0 f)] (gE [1] (BK t S.X.cH S.ar (bw L S.us) (eG L ⟨tk,1⟩) (by rw [tD];exact DP)) (jK 5 [6,7] [] (NZ (jK 2 [18] [] (NF (KX (zR (by skip;rw [show cu S ⟨tk,1⟩=_ from lM (by omega)]<;>exact⟨rfl,rfl⟩) [1,0,2,3]))))))))))
 ·replace hkt:(obj S.O tk).kind=2:=hkt
  replace hop:0<=(obj S.O tk).opens/\(obj S.O tk).opens<=1048576:=hop
  exact ah.region (jK 2 [] [] (NS (jK 5 [12,13] [(3,a_ 0 f)] (gE [1] (BK t S.X.cH S.ar (bw L S.us) (eG L ⟨tk,2⟩) (by rw [tD];exact DP)) (jK 5 [6,7] [] (NZ (jK 2 [18] [] (NF (KX (zR (by skip;rw [show cu S ⟨tk,2⟩=_ from lM (by omega)]<;>exact⟨rfl,rfl⟩) [1,0,2,3]))))))))))
 replace hkt:(obj S.O tk).kind=3:=hkt
 replace hop:0<=(obj S.O tk).opens/\(obj S.O tk).opens<=1048576:=hop
 exact ah.region (jK 2 [] [] (NS (jK 5 [12,13] [(3,a_ 0 f)] (gE [1] (BK t S.X.cH S.ar (bw L S.us) (eG L ⟨tk,3⟩) (by rw [tD];exact DP)) (jK 5 [6,7] [] (NZ (jK 2 [18] [] (NF (KX (zR (by skip;rw [show cu S ⟨tk,3⟩=_ from lM (by omega)]<;>exact⟨rfl,rfl⟩) [1,0,2,3]))))))))))
theorem fV {β:Bs} (S:aK) (L:HL) (f m t:Nat) (hI:Inv S) (h:Int) (hw:(Lit.int .i64 h).wf=true) (name:ByteArray) (hsz:name.size<=1048576) (need:Int) :
 Spec Tryz.prog β 127 #[vP f,vI (h),.string name,vI (need)] [pF f m t S.X,pT t S.X.cH S.ar L S.us,pO S.O L] (λv l=>v=abZ L (dZ S.O S.us h name need)/\l=[pF f m t S.X,pT t S.X.cH S.ar L S.us,pO S.O L]):=by
 refine SE Tryz.func127 Tryz.ntmps127 (λR=>ah.seq ?_)
 rcases hI.hand h with eH|⟨tk,eH,hlv⟩|⟨tk,eH,hlv⟩
 ·exact ah.region (jK 2 [] [] (NS (jK 5 [18,19] [(3,a_ 0 f)] (gE [1] (uo t S.X.cH S.ar (bw L S.us) h hw (tE eH)) (jK 5 [10,11] [] (NZ (jK 2 [24] [] (NT (zR (v:=(.tuple #[.pointer none,vI 131])) ⟨by rw [show dZ S.O S.us h name need=.error 131 by unfold dZ;rw [eH]];rfl,rfl⟩ [1,0,2,3])))))))))
 ·have hkt:(obj S.O tk).kind=1:=hI.kind hlv
  exact ah.region (jK 2 [] [] (NS (jK 5 [18,19] [(3,a_ 0 f)] (gE [1] (oR t S.X.cH S.ar (bw L S.us) h hw (eG L ⟨tk,1⟩) (nN eH)) (jK 5 [10,11] [] (NZ (jK 2 [24] [] (NF (KX (SR (jK 7 [12,13] [] (NN (ah.seq (ah.block (SR (jK 3 [31] [] (NT (zR (v:=(.tuple #[.pointer none,vI 173])) ⟨by rw [show dZ S.O S.us h name need=.error 173 by grind [dZ]];rfl,rfl⟩ [1,0,2,3]))))))))))))))))))
 have hkt:(obj S.O tk).kind=2:=hI.kind hlv
 exact ah.region (jK 2 [] [] (NS (jK 5 [18,19] [(3,a_ 0 f)] (gE [1] (oR t S.X.cH S.ar (bw L S.us) h hw (eG L ⟨tk,2⟩) (nN eH)) (jK 5 [10,11] [] (NZ (jK 2 [24] [] (NF (KX (SR (jK 7 [12,13] [] (NN (ah.seq (ah.block (SR (jK 3 [31] [] (NF (SR (jK 6 [34] [(4,v_ 2 (qV L hkt))] (NN (ah.cond (b:=(obj S.O tk).gone) (λ_=>by kernel_rfl) (λwB=>zR (v:=(.tuple #[.pointer none,vI 170])) ⟨by rw [show dZ S.O S.us h name need=.error 170 by grind [dZ]];rfl,rfl⟩ [1,0,2,3]) (λwB=>SR (jK 1 [41] [] (gE [] (wi name hsz) (jK 2 [40] [] (NN (cN (aS name) (λqN=>zR (v:=(.tuple #[.pointer none,vI 95])) ⟨by rw [show dZ S.O S.us h name need=.error 95 by grind [dZ]];rfl,rfl⟩ [1,0,2,3]) (λqN=>SR (jK 10 [44] [(4,v_ 2 (wV L hkt))] (NN (cN ((bits BinOp.and .i64 ((obj S.O tk).mode) need:Int)=(need:Int)) (λuY=>zR (v:=(.tuple #[.pointer none,vI 175])) ⟨by rw [show dZ S.O S.us h name need=.error 175 by grind [dZ]];rfl,rfl⟩ [1,0,2,3]) (λuY=>KX (zR (v:=(.tuple #[vP (L.b tk),vI 0])) ⟨by rw [show dZ S.O S.us h name need=.ok tk by grind [dZ]];rfl,rfl⟩ [1,0,2,3])))))))))))))))))))))))))))))))))
theorem Yx {β:Bs} (X:FM) (f m t:Nat) (hX:0<=X.af/\X.af<=1048576/\-1125899906842624<=X.used/\X.used<=1125899906842624/\0<=X.last/\X.last<=1125899906842624) (O:bZ) (L:HL) (d:Nat) (hkd:(obj O d).kind=2) (name:ByteArray) (hsz:name.size<=1048576) (hno:aH name (obj O d).af=none) (hel:(obj O d).af.length<=1048576) (idx:Used Th) (hil:idx.length<=1048576) (th:Th) (hkt:(obj O th.k).kind=th.kind) (h3:th.kind=1\/th.kind=2\/th.kind=3) (hb:0<=(obj O th.k).links/\(obj O th.k).links<=1048576) (hni:ak.get idx (obj O th.k).id=none) (hw:(Lit.int .i64 (obj O th.k).id).wf=true) :
 Spec Tryz.prog β 35 #[vP f,vP (L.b d),.string name,(eG L th)] [pF f m t X,pI m L idx,pO O L,pE O L] (λv l=>v=.tuple #[]/\l=[pF f m t {X with af:=X.af+1},pI m L (ins (obj O th.k).id th idx),pO (bB X O d name th) L,pE (bB X O d name th) L]):=by
 refine SE Tryz.func35 Tryz.ntmps35 (λR=>ah.seq ?_)
 obtain⟨tk,kd⟩:=th;simp only at hkt h3;rcases h3 with rfl|rfl|rfl
 ·replace hkt:(obj O tk).kind=1:=hkt
  replace hni:ak.get idx (obj O tk).id=none:=hni
  replace hw:(Lit.int .i64 (obj O tk).id).wf=true:=hw
  refine rM [0,1,2,3,4,9,5,6,7,8,10] 6 [0,1,2,3,4] (jR 6 [0,1,2,3,11,12,17] [(3,a_ 0 f)] (mL [0,1,2,3,4] [] (dG (L.b tk)) ?_ (by rintro _ _ ⟨rfl,rfl⟩;rfl)))
  rintro _ _ ⟨rfl,rfl⟩
  exact nC [0,1,2,3,4] [14] [] [] (nC [0,1,2,3,4] [15] [] [] (nC [0,1,2,3,4] [16] [(0,v_ 2 (uU L hkt))] [] (bg.last rfl rfl (ai.pY 1 (d:=none) (t:=66) (K:=3) (E:=70) (b:=m) (n:=idx.length) (f:=(br (bw L idx))) (x:=(.tmp 11)) (ix:=(.tmp 16)) (y:=(.tmp 17)) (key:=.int .i64 ((obj O tk).id)) (u:=.iface 78 (vP (L.b tk))) (kl:=(.int .i64 (obj O tk).id)) (n':=(idx.length+1)) (f':=(br (bw L (ins (obj O tk).id ⟨tk,1⟩ idx)))) (λ_=>by kernel_rfl) (by kernel_rfl) (λ_=>by kernel_rfl) (λ_=>by kernel_rfl) (λ_=>by kernel_rfl) gH Tryz.underlying66 (by unfold maxLen;omega) (lu hw) (by rw [ij,hni];rfl) (vK (L:=L) (t:=⟨tk,1⟩) hni) (NL (aj.np (NX (ah.region (jK 4 [18,19,20,21] [] (gE [0,2,3] (kf X f m t hX O L d hkd name hsz hno hel ⟨tk,1⟩ hkt (by simp) hb) (NL (aj.dX [(3,.abs (aY Tryz.prog 3 m (br (bw L (ins (obj O tk).id ⟨tk,1⟩ idx))) ((ins (obj O tk).id ⟨tk,1⟩ idx).length)))] (λw hS=>by rw [show (ins (obj O tk).id ⟨tk,1⟩ idx).length=idx.length+1 from iU _ _ _];exact hS) (RF (.tuple #[]) [0,3,1,2,4] (⟨rfl,rfl⟩))))))))))))))
 ·replace hkt:(obj O tk).kind=2:=hkt
  replace hni:ak.get idx (obj O tk).id=none:=hni
  replace hw:(Lit.int .i64 (obj O tk).id).wf=true:=hw
  refine rM [0,1,2,3,4,9,5,6,7,8,10] 6 [0,1,2,3,4] (jR 6 [0,1,2,3,11,12,17] [(3,a_ 0 f)] (mL [0,1,2,3,4] [] (dG (L.b tk)) ?_ (by rintro _ _ ⟨rfl,rfl⟩;rfl)))
  rintro _ _ ⟨rfl,rfl⟩
  exact nC [0,1,2,3,4] [14] [] [] (nC [0,1,2,3,4] [15] [] [] (nC [0,1,2,3,4] [16] [(0,v_ 2 (uU L hkt))] [] (bg.last rfl rfl (ai.pY 1 (d:=none) (t:=66) (K:=3) (E:=70) (b:=m) (n:=idx.length) (f:=(br (bw L idx))) (x:=(.tmp 11)) (ix:=(.tmp 16)) (y:=(.tmp 17)) (key:=.int .i64 ((obj O tk).id)) (u:=.iface 85 (vP (L.b tk))) (kl:=(.int .i64 (obj O tk).id)) (n':=(idx.length+1)) (f':=(br (bw L (ins (obj O tk).id ⟨tk,2⟩ idx)))) (λ_=>by kernel_rfl) (by kernel_rfl) (λ_=>by kernel_rfl) (λ_=>by kernel_rfl) (λ_=>by kernel_rfl) gH Tryz.underlying66 (by unfold maxLen;omega) (lu hw) (by rw [ij,hni];rfl) (vK (L:=L) (t:=⟨tk,2⟩) hni) (NL (aj.np (NX (ah.region (jK 4 [18,19,20,21] [] (gE [0,2,3] (kf X f m t hX O L d hkd name hsz hno hel ⟨tk,2⟩ hkt (by simp) hb) (NL (aj.dX [(3,.abs (aY Tryz.prog 3 m (br (bw L (ins (obj O tk).id ⟨tk,2⟩ idx))) ((ins (obj O tk).id ⟨tk,2⟩ idx).length)))] (λw hS=>by rw [show (ins (obj O tk).id ⟨tk,2⟩ idx).length=idx.length+1 from iU _ _ _];exact hS) (RF (.tuple #[]) [0,3,1,2,4] (⟨rfl,rfl⟩))))))))))))))
 replace hkt:(obj O tk).kind=3:=hkt
 replace hni:ak.get idx (obj O tk).id=none:=hni
 replace hw:(Lit.int .i64 (obj O tk).id).wf=true:=hw
 refine rM [0,1,2,3,4,9,5,6,7,8,10] 6 [0,1,2,3,4] (jR 6 [0,1,2,3,11,12,17] [(3,a_ 0 f)] (mL [0,1,2,3,4] [] (dG (L.b tk)) ?_ (by rintro _ _ ⟨rfl,rfl⟩;rfl)))
 rintro _ _ ⟨rfl,rfl⟩
 exact nC [0,1,2,3,4] [14] [] [] (nC [0,1,2,3,4] [15] [] [] (nC [0,1,2,3,4] [16] [(0,v_ 2 (uU L hkt))] [] (bg.last rfl rfl (ai.pY 1 (d:=none) (t:=66) (K:=3) (E:=70) (b:=m) (n:=idx.length) (f:=(br (bw L idx))) (x:=(.tmp 11)) (ix:=(.tmp 16)) (y:=(.tmp 17)) (key:=.int .i64 ((obj O tk).id)) (u:=.iface 82 (vP (L.b tk))) (kl:=(.int .i64 (obj O tk).id)) (n':=(idx.length+1)) (f':=(br (bw L (ins (obj O tk).id ⟨tk,3⟩ idx)))) (λ_=>by kernel_rfl) (by kernel_rfl) (λ_=>by kernel_rfl) (λ_=>by kernel_rfl) (λ_=>by kernel_rfl) gH Tryz.underlying66 (by unfold maxLen;omega) (lu hw) (by rw [ij,hni];rfl) (vK (L:=L) (t:=⟨tk,3⟩) hni) (NL (aj.np (NX (ah.region (jK 4 [18,19,20,21] [] (gE [0,2,3] (kf X f m t hX O L d hkd name hsz hno hel ⟨tk,3⟩ hkt (by simp) hb) (NL (aj.dX [(3,.abs (aY Tryz.prog 3 m (br (bw L (ins (obj O tk).id ⟨tk,3⟩ idx))) ((ins (obj O tk).id ⟨tk,3⟩ idx).length)))] (λw hS=>by rw [show (ins (obj O tk).id ⟨tk,3⟩ idx).length=idx.length+1 from iU _ _ _];exact hS) (RF (.tuple #[]) [0,3,1,2,4] (⟨rfl,rfl⟩))))))))))))))
end
section
open Go.RowKit Go.Maps aR ak
attribute [local irreducible] ai aQ ah aj
theorem vF {β:Bs} (S:aK) (L:HL) (f m t:Nat) (hI:Inv0 S) (d:Nat) (hd:Live S.idx ⟨d,2⟩) (name:ByteArray) (hsz:name.size<=1048576) (hno:aH name (obj S.O d).af=none) (o:aI) (hid:o.id=S.X.last+1) (hk3:o.kind=1\/o.kind=2\/o.kind=3) (hl0:o.links=0) (hlast:S.X.last<1099511627776) :
 Spec Tryz.prog β 35 #[vP f,vP (L.b d),.string name,eG L ⟨(aE S.X),o.kind⟩] [pF f m t {S.X with last:=S.X.last+1},pI m L S.idx,pO (ay S.O (aE S.X) (λ_=>o)) L,pE (ay S.O (aE S.X) (λ_=>o)) L] (λv l=>v=.tuple #[]/\l=[pF f m t ((dr S d name o).X),pI m L ((dr S d name o).idx),pO ((dr S d name o).O) L,pE ((dr S d name o).O) L]):=by
 have hX:=hI.hX
 have hne:d≠(aE S.X):=hI.yN hd
 have hkd:(obj S.O d).kind=2:=hI.kind hd
 have hel:(obj S.O d).af.length<=8192:=hI.iY hd
 have hlen:=hI.len
 have e1:obj (ay S.O (aE S.X) (λ_=>o)) (aE S.X)=o:=cO
 have e2:obj (ay S.O (aE S.X) (λ_=>o)) d=obj S.O d:=fQ hne
 have hnk:=oq hI
 have h:=Yx (β:=β) {S.X with last:=S.X.last+1} f m t (by simp only;omega) (ay S.O (aE S.X) (λ_=>o)) L d (by rw [e2];exact hkd) name hsz (by rw [e2];exact hno) (by rw [e2];omega) S.idx (by omega) ⟨(aE S.X),o.kind⟩ (by rw [e1]) hk3 (by rw [e1,hl0];decide) (by
  rw [e1,hid]
  cases e:ak.get S.idx (S.X.last+1) with
  |none=>rfl
  |some u=>have:=(hI.idx _ u e).2.2;omega) (by rw [e1,hid];exact WalkArith.wf_i64 (by have:=hI.last;omega))
 rw [e1,hid] at h
 exact h
theorem Jk {β:Bs} (S:aK) (L:HL) (f m t:Nat) (hI:Inv S) (d:Nat) (hd:Live S.idx ⟨d,2⟩) (name:ByteArray) (hsz:name.size<=1048576) (mode:Int) :
 Spec Tryz.prog β 37 #[vP f,vP (L.b d),.string name,vI (mode)] (pA f m t L S) (λv l=>∃L2,v=vI (jI S d name mode).1/\l=(pA f m t L2 ((jI S d name mode).2))):=by
 have hX:=hI.hX
 have hel:(obj S.O d).af.length<=8192:=hI.iY hd
 have hkd:(obj S.O d).kind=2:=hI.kind hd
 refine SE Tryz.func37 Tryz.ntmps37 (λR=>SR (jK 1 [] [] (NS (jK 3 [10,11,12] [] (gE [0,1,5,3] (x3 S L f m t hI d hd name hsz) (jK 1 [9] [] (NZ (jK 2 [15] [] (NN (cP (((dH S.X S.O S.idx d name):Int)=(0:Int)) (λh0=>?_) (λh0=>KX (zR ⟨L,by rw [show jI S d name mode=_ from if_neg h0]<;>exact⟨rfl,rfl⟩⟩ [0,1,4,3,5,2,6]))))))))))))
 have hno:=rY h0
 refine ah.region (jK 5 [16,17,18,19,20] [] (gE [0] (xZ S.X f m t hX mode) (ai.rI (d:=(some 22)) (t:=86) (λ_=>by kernel_rfl) Tryz.prog rfl 9 (λm1=>jB 3 [25] (λb2=>.blk b2 [vI (S.X.last+1),vI (mode),vI 0,vI 0,vI (S.X.cS),vI (S.X.cZ),vI 0,vI 0,.bool false,.map (some m1),.pointer none] 88) (λb2=>?_)))))
 obtain⟨L2,hL2⟩:∃L2:HL,L2=L.put (aE S.X) b2 m1 none 0:=⟨_,rfl⟩
 have hfr:=hI.toInv0.fresh
 exact ai.mem (λw hS=>hS.xC hL2 hfr (o:=(aZ S.X 2 mode)) (i:=3) (j:=8) (ix:=[0,1,2,4,5,6,7]) rfl rfl (by kernel_rfl) rfl (by show (2:Int)≠0;decide) ((oM (L:=L2) (k:=(aE S.X)) (o:=(aZ S.X 2 mode)) rfl).trans (by rw [KR hL2];rfl)) rfl) (ai.mem (λw hS=>hS.WL hL2 hfr (o:=(aZ S.X 2 mode)) (i:=3) (j:=7) (ix:=[0,1,2,4,5,6]) rfl rfl (by kernel_rfl) rfl rfl rfl) (ai.dX [(5,pD (ay S.O (aE S.X) (λ_=>(aZ S.X 2 mode))) L2)] (λw hS=>hS.Fk hL2 (o:=(aZ S.X 2 mode)) (i:=5) rfl (by show (2:Int)≠1;decide)) (ai.dX [(3,.abs (aY Tryz.prog 3 m (br (bw L2 S.idx)) S.idx.length)),(4,.abs (cX 140 t S.X.cH S.ar (bw L2 S.us)))] (λw hS=>by rw [jm hL2 hfr.idx,jm hL2 hfr.us];exact hS) (gE [2,3,1,0] ((by have h:=vF (β:=β) S L2 f m t hI.toInv0 d hd name hsz hno (aZ S.X 2 mode) rfl (by simp [aZ]) rfl (tY h0);rw [zE hL2 (hI.yN hd),rX hL2] at h;exact h)) (NS (ai.dX [(5,.abs (ax (bQ ((dr S d name (aZ S.X 2 mode)).O) L2)))] (λw hS=>by rw [show bQ ((dr S d name (aZ S.X 2 mode)).O) L2=bQ (ay S.O (aE S.X) (λ_=>(aZ S.X 2 mode))) L2 from jJ];exact hS) (jK 2 [8] [] (eN ⟨L2,by rw [show jI S d name mode=_ from if_pos h0];refine⟨congrArg _ h0,?_⟩;rfl⟩ [0,1,4,2,5,3,6]))))))))
theorem DQ {β:Bs} (S:aK) (L:HL) (f m t:Nat) (hI:Inv S) (d:Nat) (hd:Live S.idx ⟨d,2⟩) (name:ByteArray) (hsz:name.size<=1048576) (text:ByteArray) (XA:text.size<=1048576) :
 Spec Tryz.prog β 38 #[vP f,vP (L.b d),.string name,.string text] (pA f m t L S) (λv l=>∃L2,v=vI (fY S d name text).1/\l=(pA f m t L2 ((fY S d name text).2))):=by
 have hX:=hI.hX
 have hel:(obj S.O d).af.length<=8192:=hI.iY hd
 have hkd:(obj S.O d).kind=2:=hI.kind hd
 refine SE Tryz.func38 Tryz.ntmps38 (λR=>SR (jK 1 [] [] (NS (jK 1 [10] [] (gE [] (Yw text XA) (jK 1 [9] [] (NZ (jK 2 [13] [] (NN (cP (((iP text):Int)=(0:Int)) (λhb=>ah.region (jK 3 [14,15,16] [] (gE [0,1,5,3] (x3 S L f m t hI d hd name hsz) (jK 1 [9] [] (NZ (jK 2 [19] [] (NN (cP (((dH S.X S.O S.idx d name):Int)=(0:Int)) (λh0=>?_) (λh0=>KX (zR ⟨L,by rw [show fY S d name text=_ from (if_pos hb).trans (if_neg h0)]<;>exact⟨rfl,rfl⟩⟩ [0,1,4,3,5,2,6])))))))))) (λhb=>KX (SQ (jK 2 [19] [] (NN (cP (((iP text):Int)=(0:Int)) (λh0=>absurd h0 hb) (λh0=>KX (zR ⟨L,by rw [show fY S d name text=_ from if_neg hb]<;>exact⟨rfl,rfl⟩⟩)))))))))))))))))
 have hno:=rY h0
 refine ah.region (jK 4 [20,21,22,23] [] (gE [0] (xZ S.X f m t hX 511) (jB 4 [28] (λb3=>.blk b3 [vI (S.X.last+1),vI (511),vI 0,vI 0,vI (S.X.cS),vI (S.X.cZ),vI 0,vI 0,.bool false,.string text] 84) (λb3=>?_))))
 obtain⟨L2,hL2⟩:∃L2:HL,L2=L.put (aE S.X) b3 0 none 0:=⟨_,rfl⟩
 have hfr:=hI.toInv0.fresh
 exact ai.mem (λw hS=>hS.xC hL2 hfr (o:={aZ S.X 3 511 with target:=text}) (i:=3) (j:=7) (ix:=[0,1,2,4,5,6]) rfl rfl (by kernel_rfl) rfl (by show (3:Int)≠0;decide) ((BD (L:=L2) (k:=(aE S.X)) (o:={aZ S.X 3 511 with target:=text}) rfl).trans (by rfl)) rfl) (ai.dX [(3,pE (ay S.O (aE S.X) (λ_=>{aZ S.X 3 511 with target:=text})) L2)] (λw hS=>hS.yO hL2 hfr (o:={aZ S.X 3 511 with target:=text}) (i:=3) rfl (by show (3:Int)≠2;decide)) (ai.dX [(5,pD (ay S.O (aE S.X) (λ_=>{aZ S.X 3 511 with target:=text})) L2)] (λw hS=>hS.Fk hL2 (o:={aZ S.X 3 511 with target:=text}) (i:=5) rfl (by show (3:Int)≠1;decide)) (ai.dX [(2,.abs (aY Tryz.prog 3 m (br (bw L2 S.idx)) S.idx.length)),(4,.abs (cX 140 t S.X.cH S.ar (bw L2 S.us)))] (λw hS=>by rw [jm hL2 hfr.idx,jm hL2 hfr.us];exact hS) (gE [1,2,0,3] ((by have h:=vF (β:=β) S L2 f m t hI.toInv0 d hd name hsz hno {aZ S.X 3 511 with target:=text} rfl (by simp [aZ]) rfl (tY h0);rw [zE hL2 (hI.yN hd),rX hL2] at h;exact h)) (NS (ai.dX [(5,.abs (ax (bQ ((dr S d name {aZ S.X 3 511 with target:=text}).O) L2)))] (λw hS=>by rw [show bQ ((dr S d name {aZ S.X 3 511 with target:=text}).O) L2=bQ (ay S.O (aE S.X) (λ_=>{aZ S.X 3 511 with target:=text})) L2 from jJ];exact hS) (jK 2 [8] [] (eN ⟨L2,by rw [show fY S d name text=_ from (if_pos hb).trans (if_pos h0)];refine⟨congrArg _ h0,?_⟩;rfl⟩ [0,1,4,2,5,3,6]))))))))
theorem Gg {β:Bs} (S:aK) (L:HL) (f m t:Nat) (hI:Inv S) (d:Nat) (hd:Live S.idx ⟨d,2⟩) (name:ByteArray) (hsz:name.size<=1048576) :
 Spec Tryz.prog β 39 #[vP f,vP (L.b d),.string name] (pA f m t L S) (λv l=>∃L2,v=vI (eU S d name).1/\l=(pA f m t L2 ((eU S d name).2))):=by
 have hX:=hI.hX
 have hel:(obj S.O d).af.length<=8192:=hI.iY hd
 have hkd:(obj S.O d).kind=2:=hI.kind hd
 refine SE Tryz.func39 Tryz.ntmps39 (λR=>ah.seq ?_)
 rcases hI.pV hd name with hlk|⟨tk,hlk,hlv⟩|⟨tk,hlk,hlv⟩|⟨tk,hlk,hlv⟩
 ·exact ah.region (jK 1 [] [] (NZ (jK 5 [10,11] [(3,v_ 3 (bG L hkd))] (j6 5 hkd hlk (NN (ah.block (SR (jK 1 [13] [] (NT (zR ⟨L,by rw [show eU S d name=(170,S) by unfold eU;rw [hlk]]<;>exact⟨rfl,rfl⟩⟩))))))))))
 ·have hkt:(obj S.O tk).kind=1:=hI.kind hlv
  exact ah.region (jK 1 [] [] (NZ (jK 5 [10,11] [(3,v_ 3 (bG L hkd))] (j6 5 hkd hlk (NN (ah.block (SR (jK 1 [13] [] (NF (SR (jK 3 [15] [] (NF (KX (SR (jK 3 [17,18,19] [] (gE [0,3,5,1] (rG S L f m t hI d hd name hsz ⟨tk,1⟩ hlk) (NS (ai.dX [(5,.abs (ax (bQ ((aB S d name ⟨tk,1⟩).O) L)))] (λw hS=>by rw [show bQ ((aB S d name ⟨tk,1⟩).O) L=bQ S.O L from rz];exact hS) (jK 1 [6] [] (eN ⟨L,by rw [show eU S d name=(0,aB S d name ⟨tk,1⟩) by grind [eU]]<;>exact⟨rfl,rfl⟩⟩ [0,3,4,1,5,2,6]))))))))))))))))))))
 ·have hkt:(obj S.O tk).kind=2:=hI.kind hlv
  exact ah.region (jK 1 [] [] (NZ (jK 5 [10,11] [(3,v_ 3 (bG L hkd))] (j6 5 hkd hlk (NN (ah.block (SR (jK 1 [13] [] (NF (SR (jK 3 [15] [] (NT (zR ⟨L,by rw [show eU S d name=(172,S) by grind [eU]]<;>exact⟨rfl,rfl⟩⟩)))))))))))))
 have hkt:(obj S.O tk).kind=3:=hI.kind hlv
 exact ah.region (jK 1 [] [] (NZ (jK 5 [10,11] [(3,v_ 3 (bG L hkd))] (j6 5 hkd hlk (NN (ah.block (SR (jK 1 [13] [] (NF (SR (jK 3 [15] [] (NF (KX (SR (jK 3 [17,18,19] [] (gE [0,3,5,1] (rG S L f m t hI d hd name hsz ⟨tk,3⟩ hlk) (NS (ai.dX [(5,.abs (ax (bQ ((aB S d name ⟨tk,3⟩).O) L)))] (λw hS=>by rw [show bQ ((aB S d name ⟨tk,3⟩).O) L=bQ S.O L from rz];exact hS) (jK 1 [6] [] (eN ⟨L,by rw [show eU S d name=(0,aB S d name ⟨tk,3⟩) by grind [eU]]<;>exact⟨rfl,rfl⟩⟩ [0,3,4,1,5,2,6]))))))))))))))))))))
theorem Jl {β:Bs} (S:aK) (L:HL) (f m t:Nat) (hI:Inv S) (d:Nat) (hd:Live S.idx ⟨d,2⟩) (name:ByteArray) (hsz:name.size<=1048576) :
 Spec Tryz.prog β 40 #[vP f,vP (L.b d),.string name] (pA f m t L S) (λv l=>∃L2,v=vI (fT S d name).1/\l=(pA f m t L2 ((fT S d name).2))):=by
 have hX:=hI.hX
 have hel:(obj S.O d).af.length<=8192:=hI.iY hd
 have hkd:(obj S.O d).kind=2:=hI.kind hd
 refine SE Tryz.func40 Tryz.ntmps40 (λR=>ah.seq ?_)
 rcases hI.pV hd name with hlk|⟨tk,hlk,hlv⟩|⟨tk,hlk,hlv⟩|⟨tk,hlk,hlv⟩
 ·exact ah.region (jK 1 [] [] (NS (jK 5 [13,14] [(3,v_ 3 (bG L hkd))] (j6 5 hkd hlk (jK 1 [7] [] (NZ (jK 2 [17] [] (NT (zR (v:=(.int .i64 170)) ⟨L,by skip;rw [show fT S d name=(170,S) by unfold fT;rw [hlk]]<;>exact⟨rfl,rfl⟩⟩)))))))))
 ·have hkt:(obj S.O tk).kind=1:=hI.kind hlv
  exact ah.region (jK 1 [] [] (NS (jK 5 [13,14] [(3,v_ 3 (bG L hkd))] (j6 5 hkd hlk (jK 1 [7] [] (NZ (jK 2 [17] [] (NF (KX (SR (jK 7 [8,9] [] (NZ (jK 2 [24] [] (NT (zR (v:=(.int .i64 173)) ⟨L,by skip;rw [show fT S d name=(173,S) by grind [fT]]<;>exact⟨rfl,rfl⟩⟩)))))))))))))))
 ·have hkt:(obj S.O tk).kind=2:=hI.kind hlv
  have adr:(obj S.O tk).af.length<=8192:=hI.iY hlv
  refine ah.region (jK 1 [] [] (NS (jK 5 [13,14] [(3,v_ 3 (bG L hkd))] (j6 5 hkd hlk (jK 1 [7] [] (NZ (jK 2 [17] [] (NF (KX (SR (jK 7 [8,9] [] (NZ (jK 2 [24] [] (NF (KX (SQ (jK 4 [28] [(3,v_ 3 (bG L hkt))] (eNk 5 hkt (jK 1 [30] [] (NN (cP (((((obj S.O tk).af.length:Nat):Int):Int)>(0:Int)) (λmo=>zR (v:=(.int .i64 178)) ⟨L,by skip;rw [show fT S d name=(178,S) by grind [fT,obj]]<;>exact⟨rfl,rfl⟩⟩) (λmo=>KX (SR (jK 3 [31,32,33] [] (gE [0,3,5,1] (rG S L f m t hI d hd name hsz ⟨tk,2⟩ hlk) (NS (ai.dX [(5,.abs (ax (bQ ((aB S d name ⟨tk,2⟩).O) L)))] (λw hS=>by rw [show bQ ((aB S d name ⟨tk,2⟩).O) L=bQ S.O L from rz];exact hS) ?_)))))))))))))))))))))))))))
  have Co:(obj (aB S d name ⟨tk,2⟩).O d).kind=2:=(Fj).trans (hkd)
  have Cp:(obj (aB S d name ⟨tk,2⟩).O tk).kind=2:=(Fj).trans (hkt)
  generalize cV:(aB S d name ⟨tk,2⟩).O=dW at Co Cp ⊢
  refine jK 3 [37] [] (uSt 1 [(2,1),(5,2)] tk (none) Cp (λgG dK=>?_))
  have V1:=ku dK Co
  have Qu:=ku dK Cp
  exact NS (jK 1 [6] [] (eN (l:=[pF f m t ((aB S d name ⟨tk,2⟩).X),pI m L ((aB S d name ⟨tk,2⟩).idx),pT t S.X.cH S.ar L S.us,pO gG L,pD gG L,pE gG L]) (v:=(.int .i64 0)) ⟨L,by subst dK;subst cV;rw [show fT S d name=(0,{aB S d name ⟨tk,2⟩ with O:=orphan (aB S d name ⟨tk,2⟩).O tk}) by unfold fT;rw [hlk];exact (if_pos rfl).trans (if_pos (List.eq_nil_of_length_eq_zero (by grind)))]<;>exact⟨rfl,rfl⟩⟩ [0,3,4,1,5,2,6]))
 have hkt:(obj S.O tk).kind=3:=hI.kind hlv
 exact ah.region (jK 1 [] [] (NS (jK 5 [13,14] [(3,v_ 3 (bG L hkd))] (j6 5 hkd hlk (jK 1 [7] [] (NZ (jK 2 [17] [] (NF (KX (SR (jK 7 [8,9] [] (NZ (jK 2 [24] [] (NT (zR (v:=(.int .i64 173)) ⟨L,by skip;rw [show fT S d name=(173,S) by grind [fT]]<;>exact⟨rfl,rfl⟩⟩)))))))))))))))
end
section
open Go.RowKit Go.Maps aR ak
attribute [local irreducible] ai aQ ah aj
theorem Gh {β:Bs} (S:aK) (L:HL) (f m t:Nat) (hI:Inv S) (d:Nat) (hd:Live S.idx ⟨d,2⟩) (name:ByteArray) (hsz:name.size<=1048576) (to:Nat) (hto:Live S.idx ⟨to,2⟩) (toName:ByteArray) (sQ:toName.size<=1048576) :
 Spec Tryz.prog β 41 #[vP f,vP (L.b d),.string name,vP (L.b to),.string toName] (pA f m t L S) (λv l=>∃L2,v=vI (bF S d name to toName).1/\l=(pA f m t L2 ((bF S d name to toName).2))):=by
 have hX:=hI.hX
 have hel:(obj S.O d).af.length<=8192:=hI.iY hd
 have hkd:(obj S.O d).kind=2:=hI.kind hd
 have gh:(obj S.O to).kind=2:=hI.kind hto
 have ada:(obj S.O to).af.length<=8192:=hI.iY hto
 refine SE Tryz.func41 Tryz.ntmps41 (λR=>ah.seq ?_)
 rcases hI.pV hd name with hlk|⟨tk,hlk,hlv⟩|⟨tk,hlk,hlv⟩|⟨tk,hlk,hlv⟩
 ·exact ah.region (jK 1 [] [] (NS (jK 5 [19,20] [(3,v_ 3 (bG L hkd))] (j6 5 hkd hlk (jK 1 [11] [] (NZ (jK 2 [23] [] (NT (zR ⟨L,by rw [show bF S d name to toName=(170,S) by unfold bF;rw [hlk]]<;>exact⟨rfl,rfl⟩⟩)))))))))
 ·have hkt:(obj S.O tk).kind=1:=hI.kind hlv
  refine ah.region (jK 1 [] [] (NS (jK 5 [19,20] [(3,v_ 3 (bG L hkd))] (j6 5 hkd hlk (jK 1 [11] [] (NZ (jK 2 [23] [] (NF (KX (SR (jK 7 [12,13] [] (NZ (jK 2 [14] [] (NN (ah.block (lJ (λ(u:Unit)=>True) (λ(u:Unit)=>0) (λ(u:Unit)=>[(0,vP f),(1,vP (L.b d)),(2,.string name),(3,vP (L.b to)),(4,.string toName),(11,.iface 78 (vP (L.b tk))),(12,.pointer none),(13,.bool false),(14,vP (L.b to))]) (λ(u:Unit)=>((pA f m t L S)++[.abs R])) () [0,1,2,3,4,5,6] (trivial) ?_))))))))))))))))
  rintro u _
  refine SQ (jK 5 [34] [] (NF (XX (ah.seq ?_))))
  skip
  rcases hI.pV hto toName with cq|⟨ok,cq,gy⟩|⟨ok,cq,gy⟩|⟨ok,cq,gy⟩
  ·refine ah.region (jK 5 [45,46] [(3,v_ 3 (bG L gh))] (j6 5 gh cq (jK 1 [15] [] (NZ (jK 3 [50] [] (NF (KX (SQ (jK 2 [52] [] (NF (KX (SR ?_))))))))))))
   have bn:Inv S:=hI
   have hd1:=hd
   have gY:=hlk
   have tQ:=cq
   have lH:=hto
   have mO:(obj S.O d).kind=2:=bn.kind hd1
   have tR:(obj S.O to).kind=2:=bn.kind lH
   have oy:Live S.idx ⟨tk,1⟩:=(bn.ent hd1 gY).2
   have oz:(obj S.O tk).kind=1:=bn.kind oy
   have Hw:(obj S.O d).af.length<=8192:=bn.iY hd1
   have Hy:(obj S.O to).af.length<=8192:=bn.iY lH
   have tS:=bn.lb oy
   have oA:tk≠d:=bn.ne hd1 gY
   exact jK 3 [61,62,63] [] (gE [0,3,5] (lQ S.X f m t bn.hX S.O L d mO name hsz ⟨tk,1⟩ oz (by simp) gY (bn.twice hd1) (by omega) (by simp only at tS ⊢;omega)) (NS (jK 4 [65,66,67,68] [] (gE [0,1,2] (kf {S.X with af:=S.X.af-1} f m t (bn.Dy hd1 gY) (aC S.X S.O d name ⟨tk,1⟩) L to (cT.trans tR) toName sQ (nj oA tQ) (Nat.le_trans (qc oA) (by omega)) ⟨tk,1⟩ (cT.trans oz) (by simp) (nO bn.toInv0 hd1 gY)) (NS (ai.dX [(5,.abs (ax (bQ (bB S.X (aC S.X S.O d name ⟨tk,1⟩) to toName ⟨tk,1⟩) L)))] (λw hS=>by rw [show bQ (bB S.X (aC S.X S.O d name ⟨tk,1⟩) to toName ⟨tk,1⟩) L=bQ S.O L from jJ.trans mZ];exact hS) (jK 1 [10] [] (eN ⟨L,by rw [show bF S d name to toName=(0,mB S d name to toName ⟨tk,1⟩) by grind [bF]]<;>exact⟨rfl,rfl⟩⟩ [0,3,4,1,5,2,6]))))))))
  ·have oB:(obj S.O ok).kind=1:=hI.kind gy
   refine ah.region (jK 5 [45,46] [(3,v_ 3 (bG L gh))] (j6 5 gh cq (jK 1 [15] [] (NZ (jK 2 [48,49] [] (ai.kB (d:=(some 50)) (op:=.binOp .eql 70 (.tmp 48) (.tmp 49) 70) (v:=.bool (decide (ok=tk))) (λ_=>by kernel_rfl) (λo junk w ho hS=>by obtain⟨F,hF⟩:=hS.get (i:=3) rfl;exact⟨w,Ej Zq ho (by kernel_rfl) (by kernel_rfl) (by rw [oB];decide) (by rw [hkt];decide) hF,hS⟩) (NN (cP (ok=tk) (λh50=>zR ⟨L,by rw [show bF S d name to toName=(0,S) by grind [bF]]<;>exact⟨rfl,rfl⟩⟩) (λh50=>KX (SQ (jK 2 [52] [] (NT (SQ (jK 1 [53] [] (gE [] (qh (vP (L.b ok))) (jK 1 [55] [] (NF (KX (SQ (jK 1 [56] [] (NF (KX (ah.region (jK 3 [57,58,59] [] (gE [0,3,5,1] (rG S L f m t hI to hto toName sQ ⟨ok,1⟩ cq) (NS ?_))))))))))))))))))))))))))
   have bn:Inv (aB S to toName ⟨ok,1⟩):=hI.CP hto cq (by simp)
   have hot:(⟨ok,1⟩:Th)≠⟨tk,1⟩:=λe=>h50 (congrArg Th.k e)
   have hd1:Live (aB S to toName ⟨ok,1⟩).idx ⟨d,2⟩:=lN hI.toInv0 hto cq hd (λe=>by have:=gi hd gy e;cases this)
   have lH:Live (aB S to toName ⟨ok,1⟩).idx ⟨to,2⟩:=lN hI.toInv0 hto cq hto (λe=>by have:=gi hto gy e;cases this)
   have gY:aH name (obj (aB S to toName ⟨ok,1⟩).O d).af=some ⟨tk,1⟩:=uy hI.toInv0 hto cq hlk hot
   have tQ:aH toName (obj (aB S to toName ⟨ok,1⟩).O to).af=none:=uz hI.toInv0 hto cq
   have mO:(obj (aB S to toName ⟨ok,1⟩).O d).kind=2:=bn.kind hd1
   have tR:(obj (aB S to toName ⟨ok,1⟩).O to).kind=2:=bn.kind lH
   have oy:Live (aB S to toName ⟨ok,1⟩).idx ⟨tk,1⟩:=(bn.ent hd1 gY).2
   have oz:(obj (aB S to toName ⟨ok,1⟩).O tk).kind=1:=bn.kind oy
   have Hw:(obj (aB S to toName ⟨ok,1⟩).O d).af.length<=8192:=bn.iY hd1
   have Hy:(obj (aB S to toName ⟨ok,1⟩).O to).af.length<=8192:=bn.iY lH
   have tS:=bn.lb oy
   have oA:tk≠d:=bn.ne hd1 gY
   exact jK 3 [61,62,63] [] (gE [0,1,2] (lQ (aB S to toName ⟨ok,1⟩).X f m t bn.hX (aB S to toName ⟨ok,1⟩).O L d mO name hsz ⟨tk,1⟩ oz (by simp) gY (bn.twice hd1) (by omega) (by simp only at tS ⊢;omega)) (NS (jK 4 [65,66,67,68] [] (gE [0,1,2] (kf { (aB S to toName ⟨ok,1⟩).X with af:=(aB S to toName ⟨ok,1⟩).X.af-1} f m t (bn.Dy hd1 gY) (aC (aB S to toName ⟨ok,1⟩).X (aB S to toName ⟨ok,1⟩).O d name ⟨tk,1⟩) L to (cT.trans tR) toName sQ (nj oA tQ) (Nat.le_trans (qc oA) (by omega)) ⟨tk,1⟩ (cT.trans oz) (by simp) (nO bn.toInv0 hd1 gY)) (NS (ai.dX [(5,.abs (ax (bQ (bB (aB S to toName ⟨ok,1⟩).X (aC (aB S to toName ⟨ok,1⟩).X (aB S to toName ⟨ok,1⟩).O d name ⟨tk,1⟩) to toName ⟨tk,1⟩) L)))] (λw hS=>by rw [show bQ (bB (aB S to toName ⟨ok,1⟩).X (aC (aB S to toName ⟨ok,1⟩).X (aB S to toName ⟨ok,1⟩).O d name ⟨tk,1⟩) to toName ⟨tk,1⟩) L=bQ S.O L from jJ.trans (mZ.trans rz)];exact hS) (jK 1 [10] [] (eN ⟨L,by rw [show bF S d name to toName=(0,mB (aB S to toName ⟨ok,1⟩) d name to toName ⟨tk,1⟩) by grind [bF]]<;>exact⟨rfl,rfl⟩⟩ [0,3,4,1,5,2,6]))))))))
  ·have oB:(obj S.O ok).kind=2:=hI.kind gy
   exact ah.region (jK 5 [45,46] [(3,v_ 3 (bG L gh))] (j6 5 gh cq (jK 1 [15] [] (NZ (jK 3 [50] [] (NF (KX (SQ (jK 2 [52] [] (NT (SQ (jK 1 [53] [] (gE [] (qi (vP (L.b ok))) (jK 1 [55] [] (NT (zR ⟨L,by rw [show bF S d name to toName=(172,S) by grind [bF]]<;>exact⟨rfl,rfl⟩⟩))))))))))))))))
  have oB:(obj S.O ok).kind=3:=hI.kind gy
  refine ah.region (jK 5 [45,46] [(3,v_ 3 (bG L gh))] (j6 5 gh cq (jK 1 [15] [] (NZ (jK 3 [50] [] (NF (KX (SQ (jK 2 [52] [] (NT (SQ (jK 1 [53] [] (gE [] (rF (vP (L.b ok))) (jK 1 [55] [] (NF (KX (SQ (jK 1 [56] [] (NF (KX (ah.region (jK 3 [57,58,59] [] (gE [0,3,5,1] (rG S L f m t hI to hto toName sQ ⟨ok,3⟩ cq) (NS ?_))))))))))))))))))))))))
  have bn:Inv (aB S to toName ⟨ok,3⟩):=hI.CP hto cq (by simp)
  have hot:(⟨ok,3⟩:Th)≠⟨tk,1⟩:=λe=>by cases e
  have hd1:Live (aB S to toName ⟨ok,3⟩).idx ⟨d,2⟩:=lN hI.toInv0 hto cq hd (λe=>by have:=gi hd gy e;cases this)
  have lH:Live (aB S to toName ⟨ok,3⟩).idx ⟨to,2⟩:=lN hI.toInv0 hto cq hto (λe=>by have:=gi hto gy e;cases this)
  have gY:aH name (obj (aB S to toName ⟨ok,3⟩).O d).af=some ⟨tk,1⟩:=uy hI.toInv0 hto cq hlk hot
  have tQ:aH toName (obj (aB S to toName ⟨ok,3⟩).O to).af=none:=uz hI.toInv0 hto cq
  have mO:(obj (aB S to toName ⟨ok,3⟩).O d).kind=2:=bn.kind hd1
  have tR:(obj (aB S to toName ⟨ok,3⟩).O to).kind=2:=bn.kind lH
  have oy:Live (aB S to toName ⟨ok,3⟩).idx ⟨tk,1⟩:=(bn.ent hd1 gY).2
  have oz:(obj (aB S to toName ⟨ok,3⟩).O tk).kind=1:=bn.kind oy
  have Hw:(obj (aB S to toName ⟨ok,3⟩).O d).af.length<=8192:=bn.iY hd1
  have Hy:(obj (aB S to toName ⟨ok,3⟩).O to).af.length<=8192:=bn.iY lH
  have tS:=bn.lb oy
  have oA:tk≠d:=bn.ne hd1 gY
  exact jK 3 [61,62,63] [] (gE [0,1,2] (lQ (aB S to toName ⟨ok,3⟩).X f m t bn.hX (aB S to toName ⟨ok,3⟩).O L d mO name hsz ⟨tk,1⟩ oz (by simp) gY (bn.twice hd1) (by omega) (by simp only at tS ⊢;omega)) (NS (jK 4 [65,66,67,68] [] (gE [0,1,2] (kf { (aB S to toName ⟨ok,3⟩).X with af:=(aB S to toName ⟨ok,3⟩).X.af-1} f m t (bn.Dy hd1 gY) (aC (aB S to toName ⟨ok,3⟩).X (aB S to toName ⟨ok,3⟩).O d name ⟨tk,1⟩) L to (cT.trans tR) toName sQ (nj oA tQ) (Nat.le_trans (qc oA) (by omega)) ⟨tk,1⟩ (cT.trans oz) (by simp) (nO bn.toInv0 hd1 gY)) (NS (ai.dX [(5,.abs (ax (bQ (bB (aB S to toName ⟨ok,3⟩).X (aC (aB S to toName ⟨ok,3⟩).X (aB S to toName ⟨ok,3⟩).O d name ⟨tk,1⟩) to toName ⟨tk,1⟩) L)))] (λw hS=>by rw [show bQ (bB (aB S to toName ⟨ok,3⟩).X (aC (aB S to toName ⟨ok,3⟩).X (aB S to toName ⟨ok,3⟩).O d name ⟨tk,1⟩) to toName ⟨tk,1⟩) L=bQ S.O L from jJ.trans (mZ.trans rz)];exact hS) (jK 1 [10] [] (eN ⟨L,by rw [show bF S d name to toName=(0,mB (aB S to toName ⟨ok,3⟩) d name to toName ⟨tk,1⟩) by grind [bF]]<;>exact⟨rfl,rfl⟩⟩ [0,3,4,1,5,2,6]))))))))
 ·have hkt:(obj S.O tk).kind=2:=hI.kind hlv
  refine ah.region (jK 1 [] [] (NS (jK 5 [19,20] [(3,v_ 3 (bG L hkd))] (j6 5 hkd hlk (jK 1 [11] [] (NZ (jK 2 [23] [] (NF (KX (SR (jK 7 [12,13] [] (NZ (jK 2 [14] [] (NN (ah.block ?_)))))))))))))))
  obtain⟨dp,hdp⟩:=hI.deep
  refine lJ (λ(x:Option Nat)=>(pq S.O tk to↔∃z0,x=some z0/\pq S.O tk z0)/\(∀z0,x=some z0->Live S.idx ⟨z0,2⟩)) (λ(x:Option Nat)=>BO dp x) (λ(x:Option Nat)=>[(0,vP f),(1,vP (L.b d)),(2,.string name),(3,vP (L.b to)),(4,.string toName),(11,.iface 85 (vP (L.b tk))),(12,vP (L.b tk)),(13,.bool true),(14,(Fa L x))]) (λ(x:Option Nat)=>((pA f m t L S)++[.abs R])) ((some to)) [0,1,2,3,4,5,6] (⟨⟨λh=>⟨to,rfl,h⟩,λ⟨y,e,h⟩=>by cases e;exact h⟩,λy e=>by cases e;exact hto⟩) ?_
  rintro x ⟨hbx,hlx⟩
  refine ah.seq (ah.seq ?_)
  rcases hx:x with _|y
  ·refine ah.region (jK 5 [34] [] (NF (XX (ah.seq ?_))))
   have hnb:¬pq S.O tk to:=λh=>by grind
   rcases hI.pV hto toName with cq|⟨ok,cq,gy⟩|⟨ok,cq,gy⟩|⟨ok,cq,gy⟩
   ·refine ah.region (jK 5 [45,46] [(3,v_ 3 (bG L gh))] (j6 5 gh cq (jK 1 [15] [] (NZ (jK 3 [50] [] (NF (KX (SQ (jK 2 [52] [] (NF (KX (SR ?_))))))))))))
    have bn:Inv S:=hI
    have hd1:=hd
    have gY:=hlk
    have tQ:=cq
    have lH:=hto
    have mO:(obj S.O d).kind=2:=bn.kind hd1
    have tR:(obj S.O to).kind=2:=bn.kind lH
    have oy:Live S.idx ⟨tk,2⟩:=(bn.ent hd1 gY).2
    have oz:(obj S.O tk).kind=2:=bn.kind oy
    have Hw:(obj S.O d).af.length<=8192:=bn.iY hd1
    have Hy:(obj S.O to).af.length<=8192:=bn.iY lH
    have tS:=bn.lb oy
    have oA:tk≠d:=bn.ne hd1 gY
    exact jK 3 [61,62,63] [] (gE [0,3,5] (lQ S.X f m t bn.hX S.O L d mO name hsz ⟨tk,2⟩ oz (by simp) gY (bn.twice hd1) (by omega) (by simp only at tS ⊢;omega)) (NS (jK 4 [65,66,67,68] [] (gE [0,1,2] (kf {S.X with af:=S.X.af-1} f m t (bn.Dy hd1 gY) (aC S.X S.O d name ⟨tk,2⟩) L to (cT.trans tR) toName sQ (nj oA tQ) (Nat.le_trans (qc oA) (by omega)) ⟨tk,2⟩ (cT.trans oz) (by simp) (nO bn.toInv0 hd1 gY)) (NS (ai.dX [(5,.abs (ax (bQ (bB S.X (aC S.X S.O d name ⟨tk,2⟩) to toName ⟨tk,2⟩) L)))] (λw hS=>by rw [show bQ (bB S.X (aC S.X S.O d name ⟨tk,2⟩) to toName ⟨tk,2⟩) L=bQ S.O L from jJ.trans mZ];exact hS) (jK 1 [10] [] (eN ⟨L,by rw [show bF S d name to toName=(0,mB S d name to toName ⟨tk,2⟩) by grind [bF]]<;>exact⟨rfl,rfl⟩⟩ [0,3,4,1,5,2,6]))))))))
   ·have oB:(obj S.O ok).kind=1:=hI.kind gy
    exact ah.region (jK 5 [45,46] [(3,v_ 3 (bG L gh))] (j6 5 gh cq (jK 1 [15] [] (NZ (jK 3 [50] [] (NF (KX (SQ (jK 2 [52] [] (NT (SQ (jK 1 [53] [] (gE [] (qh (vP (L.b ok))) (jK 1 [55] [] (NF (KX (SQ (jK 1 [56] [] (NT (zR ⟨L,by rw [show bF S d name to toName=(173,S) by grind [bF]]<;>exact⟨rfl,rfl⟩⟩))))))))))))))))))))
   ·have oB:(obj S.O ok).kind=2:=hI.kind gy
    exact ah.region (jK 5 [45,46] [(3,v_ 3 (bG L gh))] (j6 5 gh cq (jK 1 [15] [] (NZ (jK 2 [48,49] [] (ai.kB (d:=(some 50)) (op:=.binOp .eql 70 (.tmp 48) (.tmp 49) 70) (v:=.bool (decide (ok=tk))) (λ_=>by kernel_rfl) (λo junk w ho hS=>by obtain⟨F,hF⟩:=hS.get (i:=3) rfl;exact⟨w,Ej abq ho (by kernel_rfl) (by kernel_rfl) (by rw [oB];decide) (by rw [hkt];decide) hF,hS⟩) (NN (cP (ok=tk) (λh50=>zR ⟨L,by rw [show bF S d name to toName=(0,S) by grind [bF]]<;>exact⟨rfl,rfl⟩⟩) (λh50=>KX (SQ (jK 2 [52] [] (NT (SQ (jK 1 [53] [] (gE [] (qi (vP (L.b ok))) (jK 1 [55] [] (NT (zR ⟨L,by rw [show bF S d name to toName=(172,S) by grind [bF]]<;>exact⟨rfl,rfl⟩⟩))))))))))))))))))
   have oB:(obj S.O ok).kind=3:=hI.kind gy
   exact ah.region (jK 5 [45,46] [(3,v_ 3 (bG L gh))] (j6 5 gh cq (jK 1 [15] [] (NZ (jK 3 [50] [] (NF (KX (SQ (jK 2 [52] [] (NT (SQ (jK 1 [53] [] (gE [] (rF (vP (L.b ok))) (jK 1 [55] [] (NF (KX (SQ (jK 1 [56] [] (NT (zR ⟨L,by rw [show bF S d name to toName=(173,S) by grind [bF]]<;>exact⟨rfl,rfl⟩⟩))))))))))))))))))))
  have hky:(obj S.O y).kind=2:=hI.kind (hlx y hx)
  exact ah.region (jK 5 [34] [] (NT (KX (ah.seq (ah.block (SR (jK 2 [39,40] [] (ai.kB (d:=(some 41)) (op:=.binOp .eql 85 (.tmp 39) (.tmp 40) 85) (v:=.bool (decide (y=tk))) (λ_=>by kernel_rfl) (λo junk w ho hS=>by obtain⟨F,hF⟩:=hS.get (i:=3) rfl;exact⟨w,RO ho (by kernel_rfl) (by kernel_rfl) (by rw [hky];decide) (by rw [hkt];decide) hF,hS⟩) (NN (cP (y=tk) (λDI=>zR ⟨L,by rw [show bF S d name to toName=(174,S) by unfold bF;rw [hlk];exact if_pos ⟨rfl,hbx.2 ⟨y,hx,by rw [DI];exact .here⟩⟩]<;>exact⟨rfl,rfl⟩⟩) (λDI=>KX (ah.region (jK 5 [14] [(3,v_ 3 (acz L hky))] (NL (tJ (((obj S.O y).up)) [0,1,2,3,4,5,6] (⟨hbx.trans ⟨λ⟨y2,e,h⟩=>by grind [Fo],λh=>⟨y,hx,(Fo DI).2 h⟩⟩,λz e=>((hI.up ⟨y,2⟩ (hlx y hx) z).1 e).2.1⟩) (hm:=by show BO dp (((obj S.O y).up))<BO dp (some y);exact RQ hdp))))))))))))))))
 have hkt:(obj S.O tk).kind=3:=hI.kind hlv
 refine ah.region (jK 1 [] [] (NS (jK 5 [19,20] [(3,v_ 3 (bG L hkd))] (j6 5 hkd hlk (jK 1 [11] [] (NZ (jK 2 [23] [] (NF (KX (SR (jK 7 [12,13] [] (NZ (jK 2 [14] [] (NN (ah.block (lJ (λ(u:Unit)=>True) (λ(u:Unit)=>0) (λ(u:Unit)=>[(0,vP f),(1,vP (L.b d)),(2,.string name),(3,vP (L.b to)),(4,.string toName),(11,.iface 82 (vP (L.b tk))),(12,.pointer none),(13,.bool false),(14,vP (L.b to))]) (λ(u:Unit)=>((pA f m t L S)++[.abs R])) () [0,1,2,3,4,5,6] (trivial) ?_))))))))))))))))
 rintro u _
 refine SQ (jK 5 [34] [] (NF (XX (ah.seq ?_))))
 skip
 rcases hI.pV hto toName with cq|⟨ok,cq,gy⟩|⟨ok,cq,gy⟩|⟨ok,cq,gy⟩
 ·refine ah.region (jK 5 [45,46] [(3,v_ 3 (bG L gh))] (j6 5 gh cq (jK 1 [15] [] (NZ (jK 3 [50] [] (NF (KX (SQ (jK 2 [52] [] (NF (KX (SR ?_))))))))))))
  have bn:Inv S:=hI
  have hd1:=hd
  have gY:=hlk
  have tQ:=cq
  have lH:=hto
  have mO:(obj S.O d).kind=2:=bn.kind hd1
  have tR:(obj S.O to).kind=2:=bn.kind lH
  have oy:Live S.idx ⟨tk,3⟩:=(bn.ent hd1 gY).2
  have oz:(obj S.O tk).kind=3:=bn.kind oy
  have Hw:(obj S.O d).af.length<=8192:=bn.iY hd1
  have Hy:(obj S.O to).af.length<=8192:=bn.iY lH
  have tS:=bn.lb oy
  have oA:tk≠d:=bn.ne hd1 gY
  exact jK 3 [61,62,63] [] (gE [0,3,5] (lQ S.X f m t bn.hX S.O L d mO name hsz ⟨tk,3⟩ oz (by simp) gY (bn.twice hd1) (by omega) (by simp only at tS ⊢;omega)) (NS (jK 4 [65,66,67,68] [] (gE [0,1,2] (kf {S.X with af:=S.X.af-1} f m t (bn.Dy hd1 gY) (aC S.X S.O d name ⟨tk,3⟩) L to (cT.trans tR) toName sQ (nj oA tQ) (Nat.le_trans (qc oA) (by omega)) ⟨tk,3⟩ (cT.trans oz) (by simp) (nO bn.toInv0 hd1 gY)) (NS (ai.dX [(5,.abs (ax (bQ (bB S.X (aC S.X S.O d name ⟨tk,3⟩) to toName ⟨tk,3⟩) L)))] (λw hS=>by rw [show bQ (bB S.X (aC S.X S.O d name ⟨tk,3⟩) to toName ⟨tk,3⟩) L=bQ S.O L from jJ.trans mZ];exact hS) (jK 1 [10] [] (eN ⟨L,by rw [show bF S d name to toName=(0,mB S d name to toName ⟨tk,3⟩) by grind [bF]]<;>exact⟨rfl,rfl⟩⟩ [0,3,4,1,5,2,6]))))))))
 ·have oB:(obj S.O ok).kind=1:=hI.kind gy
  refine ah.region (jK 5 [45,46] [(3,v_ 3 (bG L gh))] (j6 5 gh cq (jK 1 [15] [] (NZ (jK 3 [50] [] (NF (KX (SQ (jK 2 [52] [] (NT (SQ (jK 1 [53] [] (gE [] (qh (vP (L.b ok))) (jK 1 [55] [] (NF (KX (SQ (jK 1 [56] [] (NF (KX (ah.region (jK 3 [57,58,59] [] (gE [0,3,5,1] (rG S L f m t hI to hto toName sQ ⟨ok,1⟩ cq) (NS ?_))))))))))))))))))))))))
  have bn:Inv (aB S to toName ⟨ok,1⟩):=hI.CP hto cq (by simp)
  have hot:(⟨ok,1⟩:Th)≠⟨tk,3⟩:=λe=>by cases e
  have hd1:Live (aB S to toName ⟨ok,1⟩).idx ⟨d,2⟩:=lN hI.toInv0 hto cq hd (λe=>by have:=gi hd gy e;cases this)
  have lH:Live (aB S to toName ⟨ok,1⟩).idx ⟨to,2⟩:=lN hI.toInv0 hto cq hto (λe=>by have:=gi hto gy e;cases this)
  have gY:aH name (obj (aB S to toName ⟨ok,1⟩).O d).af=some ⟨tk,3⟩:=uy hI.toInv0 hto cq hlk hot
  have tQ:aH toName (obj (aB S to toName ⟨ok,1⟩).O to).af=none:=uz hI.toInv0 hto cq
  have mO:(obj (aB S to toName ⟨ok,1⟩).O d).kind=2:=bn.kind hd1
  have tR:(obj (aB S to toName ⟨ok,1⟩).O to).kind=2:=bn.kind lH
  have oy:Live (aB S to toName ⟨ok,1⟩).idx ⟨tk,3⟩:=(bn.ent hd1 gY).2
  have oz:(obj (aB S to toName ⟨ok,1⟩).O tk).kind=3:=bn.kind oy
  have Hw:(obj (aB S to toName ⟨ok,1⟩).O d).af.length<=8192:=bn.iY hd1
  have Hy:(obj (aB S to toName ⟨ok,1⟩).O to).af.length<=8192:=bn.iY lH
  have tS:=bn.lb oy
  have oA:tk≠d:=bn.ne hd1 gY
  exact jK 3 [61,62,63] [] (gE [0,1,2] (lQ (aB S to toName ⟨ok,1⟩).X f m t bn.hX (aB S to toName ⟨ok,1⟩).O L d mO name hsz ⟨tk,3⟩ oz (by simp) gY (bn.twice hd1) (by omega) (by simp only at tS ⊢;omega)) (NS (jK 4 [65,66,67,68] [] (gE [0,1,2] (kf { (aB S to toName ⟨ok,1⟩).X with af:=(aB S to toName ⟨ok,1⟩).X.af-1} f m t (bn.Dy hd1 gY) (aC (aB S to toName ⟨ok,1⟩).X (aB S to toName ⟨ok,1⟩).O d name ⟨tk,3⟩) L to (cT.trans tR) toName sQ (nj oA tQ) (Nat.le_trans (qc oA) (by omega)) ⟨tk,3⟩ (cT.trans oz) (by simp) (nO bn.toInv0 hd1 gY)) (NS (ai.dX [(5,.abs (ax (bQ (bB (aB S to toName ⟨ok,1⟩).X (aC (aB S to toName ⟨ok,1⟩).X (aB S to toName ⟨ok,1⟩).O d name ⟨tk,3⟩) to toName ⟨tk,3⟩) L)))] (λw hS=>by rw [show bQ (bB (aB S to toName ⟨ok,1⟩).X (aC (aB S to toName ⟨ok,1⟩).X (aB S to toName ⟨ok,1⟩).O d name ⟨tk,3⟩) to toName ⟨tk,3⟩) L=bQ S.O L from jJ.trans (mZ.trans rz)];exact hS) (jK 1 [10] [] (eN ⟨L,by rw [show bF S d name to toName=(0,mB (aB S to toName ⟨ok,1⟩) d name to toName ⟨tk,3⟩) by grind [bF]]<;>exact⟨rfl,rfl⟩⟩ [0,3,4,1,5,2,6]))))))))
 ·have oB:(obj S.O ok).kind=2:=hI.kind gy
  exact ah.region (jK 5 [45,46] [(3,v_ 3 (bG L gh))] (j6 5 gh cq (jK 1 [15] [] (NZ (jK 3 [50] [] (NF (KX (SQ (jK 2 [52] [] (NT (SQ (jK 1 [53] [] (gE [] (qi (vP (L.b ok))) (jK 1 [55] [] (NT (zR ⟨L,by rw [show bF S d name to toName=(172,S) by grind [bF]]<;>exact⟨rfl,rfl⟩⟩))))))))))))))))
 have oB:(obj S.O ok).kind=3:=hI.kind gy
 refine ah.region (jK 5 [45,46] [(3,v_ 3 (bG L gh))] (j6 5 gh cq (jK 1 [15] [] (NZ (jK 2 [48,49] [] (ai.kB (d:=(some 50)) (op:=.binOp .eql 70 (.tmp 48) (.tmp 49) 70) (v:=.bool (decide (ok=tk))) (λ_=>by kernel_rfl) (λo junk w ho hS=>by obtain⟨F,hF⟩:=hS.get (i:=3) rfl;exact⟨w,Ej Zr ho (by kernel_rfl) (by kernel_rfl) (by rw [oB];decide) (by rw [hkt];decide) hF,hS⟩) (NN (cP (ok=tk) (λh50=>zR ⟨L,by rw [show bF S d name to toName=(0,S) by grind [bF]]<;>exact⟨rfl,rfl⟩⟩) (λh50=>KX (SQ (jK 2 [52] [] (NT (SQ (jK 1 [53] [] (gE [] (rF (vP (L.b ok))) (jK 1 [55] [] (NF (KX (SQ (jK 1 [56] [] (NF (KX (ah.region (jK 3 [57,58,59] [] (gE [0,3,5,1] (rG S L f m t hI to hto toName sQ ⟨ok,3⟩ cq) (NS ?_))))))))))))))))))))))))))
 have bn:Inv (aB S to toName ⟨ok,3⟩):=hI.CP hto cq (by simp)
 have hot:(⟨ok,3⟩:Th)≠⟨tk,3⟩:=λe=>h50 (congrArg Th.k e)
 have hd1:Live (aB S to toName ⟨ok,3⟩).idx ⟨d,2⟩:=lN hI.toInv0 hto cq hd (λe=>by have:=gi hd gy e;cases this)
 have lH:Live (aB S to toName ⟨ok,3⟩).idx ⟨to,2⟩:=lN hI.toInv0 hto cq hto (λe=>by have:=gi hto gy e;cases this)
 have gY:aH name (obj (aB S to toName ⟨ok,3⟩).O d).af=some ⟨tk,3⟩:=uy hI.toInv0 hto cq hlk hot
 have tQ:aH toName (obj (aB S to toName ⟨ok,3⟩).O to).af=none:=uz hI.toInv0 hto cq
 have mO:(obj (aB S to toName ⟨ok,3⟩).O d).kind=2:=bn.kind hd1
 have tR:(obj (aB S to toName ⟨ok,3⟩).O to).kind=2:=bn.kind lH
 have oy:Live (aB S to toName ⟨ok,3⟩).idx ⟨tk,3⟩:=(bn.ent hd1 gY).2
 have oz:(obj (aB S to toName ⟨ok,3⟩).O tk).kind=3:=bn.kind oy
 have Hw:(obj (aB S to toName ⟨ok,3⟩).O d).af.length<=8192:=bn.iY hd1
 have Hy:(obj (aB S to toName ⟨ok,3⟩).O to).af.length<=8192:=bn.iY lH
 have tS:=bn.lb oy
 have oA:tk≠d:=bn.ne hd1 gY
 exact jK 3 [61,62,63] [] (gE [0,1,2] (lQ (aB S to toName ⟨ok,3⟩).X f m t bn.hX (aB S to toName ⟨ok,3⟩).O L d mO name hsz ⟨tk,3⟩ oz (by simp) gY (bn.twice hd1) (by omega) (by simp only at tS ⊢;omega)) (NS (jK 4 [65,66,67,68] [] (gE [0,1,2] (kf { (aB S to toName ⟨ok,3⟩).X with af:=(aB S to toName ⟨ok,3⟩).X.af-1} f m t (bn.Dy hd1 gY) (aC (aB S to toName ⟨ok,3⟩).X (aB S to toName ⟨ok,3⟩).O d name ⟨tk,3⟩) L to (cT.trans tR) toName sQ (nj oA tQ) (Nat.le_trans (qc oA) (by omega)) ⟨tk,3⟩ (cT.trans oz) (by simp) (nO bn.toInv0 hd1 gY)) (NS (ai.dX [(5,.abs (ax (bQ (bB (aB S to toName ⟨ok,3⟩).X (aC (aB S to toName ⟨ok,3⟩).X (aB S to toName ⟨ok,3⟩).O d name ⟨tk,3⟩) to toName ⟨tk,3⟩) L)))] (λw hS=>by rw [show bQ (bB (aB S to toName ⟨ok,3⟩).X (aC (aB S to toName ⟨ok,3⟩).X (aB S to toName ⟨ok,3⟩).O d name ⟨tk,3⟩) to toName ⟨tk,3⟩) L=bQ S.O L from jJ.trans (mZ.trans rz)];exact hS) (jK 1 [10] [] (eN ⟨L,by rw [show bF S d name to toName=(0,mB (aB S to toName ⟨ok,3⟩) d name to toName ⟨tk,3⟩) by grind [bF]]<;>exact⟨rfl,rfl⟩⟩ [0,3,4,1,5,2,6]))))))))
end
section
open Go.RowKit Go.Maps aR ak
attribute [local irreducible] ai aQ ah aj bg
theorem Jm {β:Bs} (S:aK) (L:HL) (f m t:Nat) (hI:Inv S) (k:Nat) (hk:Live S.idx ⟨k,1⟩) (A:Option Addr) (c:Nat) (bs:List UInt8) (hA:aW β A bs) (hbl:bs.length<=1099511627776) (hbc:bs.length<=c) :
 Spec Tryz.prog β 36 #[vP f,vP (L.b k),.slice A (bs.length) (c)] (pA f m t L S) (λv l=>∃L2,v=.tuple #[vI (dL S k bs).1,vI (dL S k bs).2.1]/\l=(pA f m t L2 ((dL S k bs).2.2))):=by
 have hX:=hI.hX
 have hkk:(obj S.O k).kind=1:=hI.kind hk
 have hdu:((obj S.O k).data.length:Int)<=S.X.used:=hI.abu hk
 have hcB:=hI.cB
 refine SE Tryz.func36 Tryz.ntmps36 (λR=>SR (jK 2 [] [] (NZ (jK 3 [12] [] (NN (cP ((((bs.length:Nat):Int):Int)=(0:Int)) (λh12=>?_) (λh12=>?_)))))))
 ·have he:bs=[]:=List.eq_nil_of_length_eq_zero (by omega)
  exact zR ⟨L,by rw [show dL S k bs=(0,0,S) from if_pos he]<;>exact⟨rfl,rfl⟩⟩
 have hlen:0<bs.length:=by omega
 refine KX (ah.seq (rQ (jQ 11 [8] [(4,a_ 0 f),(8,a_ 0 f),(9,wJ (S.X.cB-S.X.used) (S.X.cB-S.X.used))] (NQ (NX (SQ (jK 2 [24] [] (NN (cP ((S.X.cB-S.X.used:Int)<=(0:Int)) (λpR=>zR ⟨L,by rw [show dL S k bs=(0,176,S) from (if_neg (λe=>by grind)).trans (if_pos pR)]<;>exact⟨rfl,rfl⟩⟩) (λpR=>KX (SR (jK 4 [28] [(3,w_ (.int .i64 (min ((bs.length:Nat):Int) (S.X.cB-S.X.used))) (congrArg (Value.int .i64) (WK _ _)))] (sl 28 (.int .i64 (min ((bs.length:Nat):Int) (S.X.cB-S.X.used))) (.int .i64 ↑(bR S.X bs.length)) (congrArg (Value.int .i64) (RR (by omega))) (jK 1 [9] [] (NN (ah.seq ?_))))))))))))))))
 have hwl:=RV (X:=S.X) (n:=bs.length) (by omega)
 refine ah.mem (λw hS=>hS.Rp (i:=4) (k:=k) rfl hkk) (rM (List.range 12) 8 [0,1,2,3,4,5,6] (jR 8 [0,1,9,29,33,36] [(4,v_ 3 (Mk L hkk)),(7,xP (bR S.X bs.length) ((bR S.X bs.length)<=c))] (bg.cut (ι:=(Option Addr)×Nat) (fr':=λ((A1,c2):(Option Addr)×Nat)=>[(0,vP f),(1,vP (L.b k)),(9,vI ↑(bR S.X bs.length)),(29,vP (L.b k)),(37,.slice A1 (((obj S.O k).data++bs.take (bR S.X bs.length)).length) (c2))]) (hp':=λ((A1,c2):(Option Addr)×Nat)=>[pF f m t S.X,pI m L S.idx,pT t S.X.cH S.ar L S.us,pO S.O L,.abs (ax (mI (bQ S.O L) k cK.none)),pE S.O L,.abs R,.abs (aq 5 1 A1 (((obj S.O k).data++bs.take (bR S.X bs.length)).length) c2 (bY ((obj S.O k).data++bs.take (bR S.X bs.length))))]) [0,1,2,3,4,5,6] rfl rfl ?_ rfl (λ_=>by kernel_rfl) ?_)))
 ·exact Rc 7 46 A (bR S.X bs.length) c (bY (bs.take (bR S.X bs.length))) rfl ((hA.take (bR S.X bs.length)).src) (λA1 c2=>ai.bL 7 (p':=.abs (aq 5 1 A1 (((obj S.O k).data++bs.take (bR S.X bs.length)).length) c2 (bY ((obj S.O k).data++bs.take (bR S.X bs.length))))) rfl (by rw [PO,List.length_append,List.length_take,Nat.min_eq_left hwl.1]) (sl 37 (.slice A1 (((obj S.O k).data.length)+(bR S.X bs.length)) (c2)) (.slice A1 (((obj S.O k).data++bs.take (bR S.X bs.length)).length) (c2)) (by rw [List.length_append,List.length_take,Nat.min_eq_left hwl.1]) (NL (MD (A1,c2) [0,1,9,29,37] [0,1,2,3,4,5,6,7])))) (hl:=by rw [sD,List.length_take,Nat.min_eq_left hwl.1,Nat.mul_one]) (h1:=o7 (bs.take (bR S.X bs.length)))
 rintro⟨A1,c2⟩
 refine nC [0,1,2,3,4,5,6] [38] [] [] (nC [0,1,2,3,4,5,6] [39] [] [] (bg.last rfl rfl (ai.mem (λw hS=>hS.BG (i:=3) (k:=k) rfl (by rw [hkk];decide) (jH (hkk)) (congrArg pK (hkk))) (jC 1 [] [(0,a_ 8 (L.b k))] [(8,[(9,.slice A1 (((obj S.O k).data++bs.take (bR S.X bs.length)).length) (c2))])] ?_))))
 obtain⟨L2,hL2⟩:∃L2:HL,L2=L.data k A1 c2:=⟨_,rfl⟩
 refine ai.mem (λw hS=>hS.Zw hL2 (f:=(λo=>{o with data:=o.data++bs.take (bR S.X bs.length)})) (i:=3) (j:=8) (ix:=[0,1,2,4,5,6,7]) rfl rfl (by kernel_rfl) rfl (by show (obj S.O k).kind≠0;rw [hkk];decide) ((jH (L:=L2) (k:=k) (o:=(λo=>{o with data:=o.data++bs.take (bR S.X bs.length)}) (obj S.O k)) hkk).trans (by rw [Om hL2,Oo hL2]<;>rfl)) (by show pK (obj S.O k).kind=_;rw [hkk]<;>rfl)) (ai.mem (λw hS=>hS.Zx hL2 (f:=(λo=>{o with data:=o.data++bs.take (bR S.X bs.length)})) (i:=4) (j:=7) (ix:=[0,1,2,3,5,6]) rfl rfl (by kernel_rfl) rfl hkk rfl rfl) (ai.dX [(3,.abs (aY Tryz.prog 3 m (br (bw L2 S.idx)) S.idx.length)),(4,.abs (cX 140 t S.X.cH S.ar (bw L2 S.us))),(5,.abs (ax (di (ay S.O k (λo=>{o with data:=o.data++bs.take (bR S.X bs.length)})) L2)))] (λw hS=>by rw [KV hL2,KV hL2,show di (ay S.O k (λo=>{o with data:=o.data++bs.take (bR S.X bs.length)})) L2=di S.O L from (qt (O:=S.O) (k:=k) (f:=(λo=>{o with data:=o.data++bs.take (bR S.X bs.length)})) rfl rfl).trans (U4 hL2)];exact hS) ?_))
 have Hv:(obj (ay S.O k (λo=>{o with data:=o.data++bs.take (bR S.X bs.length)})) k).kind=1:=(lY (f:=(λo=>{o with data:=o.data++bs.take (bR S.X bs.length)})) (λ_=>rfl)).trans hkk
 have hbk:L2.b k=L.b k:=RW hL2
 generalize cV:(ay S.O k (λo=>{o with data:=o.data++bs.take (bR S.X bs.length)}))=dW at Hv ⊢
 refine NL (aj.np (NX (SR (jK 1 [40] [] (sl 40 (vP (L.b k)) (vP (L2.b k)) (by rw [hbk]) (jK 8 [45,48] [(4,A_ 2 f 2)] (Ty 1 [(5,1),(0,2)] k S.X.cS S.X.cZ Hv (λgG dK=>?_))))))))
 have Co:=ku dK Hv
 exact NS (jC 9 [] [(3,a_ 2 f),(5,wJ (S.X.used+(((bR S.X bs.length):Nat):Int)) (S.X.used+(((bR S.X bs.length):Nat):Int))),(8,a_ 2 f)] [(2,[(9,vI (S.X.used+(((bR S.X bs.length):Nat):Int)))])] (NS (jK 3 [6,7] [] (eN (l:=[pF f m t {S.X with used:=S.X.used+(((bR S.X bs.length):Nat):Int)},pI m L2 S.idx,pT t S.X.cH S.ar L2 S.us,pO gG L2,pD gG L2,pE gG L2]) (v:=(.tuple #[vI ↑(bR S.X bs.length),vI 0])) ⟨L2,by grind [dL,xw]⟩ [2,3,4,1,0,5,6]))))
end
end Go.Proofs.YtnipofpbcggjcaaGreatDoor
section
namespace Go.Proofs
open Go.Shelf
def Tryz.lays146_ren:Go.Shelf.Ren:=⟨fun|146=>67|221=>117|268=>139|138=>140|143=>141|195=>166|197=>167|218=>168|219=>169|260=>187|217=>143|225=>188|224=>189|267=>190|266=>174|314=>195|n=>n,fun|9=>9|31=>129|3=>3|4=>4|0=>0|105=>217|21=>21|5=>5|46=>190|119=>247|139=>250|138=>249|146=>251|51=>208|n=>n,fun|1=>0|3=>1|4=>2|n=>n⟩
theorem Tryz.lays146:Go.Proofs.Lays.n146 Tryz.prog Tryz.lays146_ren:={
 mixed:=by kernel_rfl
 f138:=Tryz.func140.trans (congrArg some (by kernel_rfl))
 f143:=Tryz.func141.trans (congrArg some (by kernel_rfl))
 f146:=Tryz.func67.trans (congrArg some (by kernel_rfl))
 f195:=Tryz.func166.trans (congrArg some (by kernel_rfl))
 f197:=Tryz.func167.trans (congrArg some (by kernel_rfl))
 f217:=Tryz.func143.trans (congrArg some (by kernel_rfl))
 f218:=Tryz.func168.trans (congrArg some (by kernel_rfl))
 f219:=Tryz.func169.trans (congrArg some (by kernel_rfl))
 f221:=Tryz.func117.trans (congrArg some (by kernel_rfl))
 f224:=Tryz.func189.trans (congrArg some (by kernel_rfl))
 f225:=Tryz.func188.trans (congrArg some (by kernel_rfl))
 f260:=Tryz.func187.trans (congrArg some (by kernel_rfl))
 f266:=Tryz.func174.trans (congrArg some (by kernel_rfl))
 f267:=Tryz.func190.trans (congrArg some (by kernel_rfl))
 f268:=Tryz.func139.trans (congrArg some (by kernel_rfl))
 f314:=Tryz.func195.trans (congrArg some (by kernel_rfl))
 t0:=Tryz.underlying0
 a0:=Tryz.isAgg0
 z0:=Tryz.sizeOf0
 v0:=Tryz.zeroValue0
 t3:=Tryz.underlying3
 a3:=Tryz.isAgg3
 z3:=Tryz.sizeOf3
 v3:=Tryz.zeroValue3
 t4:=Tryz.underlying4
 a4:=Tryz.isAgg4
 z4:=Tryz.sizeOf4
 v4:=Tryz.zeroValue4
 t5:=Tryz.underlying5
 a5:=Tryz.isAgg5
 z5:=Tryz.sizeOf5
 v5:=Tryz.zeroValue5
 t9:=Tryz.underlying9
 a9:=Tryz.isAgg9
 z9:=Tryz.sizeOf9
 v9:=Tryz.zeroValue9
 t21:=Tryz.underlying21
 a21:=Tryz.isAgg21
 z21:=Tryz.sizeOf21
 v21:=Tryz.zeroValue21
 t31:=Tryz.underlying129
 a31:=Tryz.isAgg129
 z31:=Tryz.sizeOf129
 v31:=Tryz.zeroValue129
 t46:=Tryz.underlying190
 a46:=Tryz.isAgg190
 z46:=Tryz.sizeOf190
 v46:=Tryz.zeroValue190
 t51:=Tryz.underlying208
 a51:=Tryz.isAgg208
 z51:=Tryz.sizeOf208
 v51:=Tryz.zeroValue208
 t105:=Tryz.underlying217
 a105:=Tryz.isAgg217
 z105:=Tryz.sizeOf217
 v105:=Tryz.zeroValue217
 t119:=Tryz.underlying247
 a119:=Tryz.isAgg247
 z119:=Tryz.sizeOf247
 t138:=Tryz.underlying249
 a138:=Tryz.isAgg249
 z138:=Tryz.sizeOf249
 v138:=Tryz.zeroValue249
 t139:=Tryz.underlying250
 a139:=Tryz.isAgg250
 z139:=Tryz.sizeOf250
 v139:=Tryz.zeroValue250
 t146:=Tryz.underlying251
 a146:=Tryz.isAgg251
 z146:=Tryz.sizeOf251
 v146:=Tryz.zeroValue251
 g1:=by kernel_rfl
 g3:=by kernel_rfl
 g4:=by kernel_rfl}
open Go.RowKit Go.Lib in
theorem Tryz.strings_Split (s sep:ByteArray) (m:Int) (w:World) (hs:s.size<4294967281) (hm:w.cell? ⟨0,0,none⟩=some (.int .i64 m)) (h1:1<=sep.size) :
 Calls Tryz.prog 67 #[.string s,.string sep] w λe w'=>
  e=.returned (.slice (some ⟨w.heap.size,0,none⟩) (Lib.countB s sep+1) (Lib.countB s sep+1))/\w'=w.alloc (.cells ((Lib.splitB sep 0 (Lib.countB s sep) s).map Value.string).toArray 9):=Any.strings_Split Tryz.lays146 (by kernel_rfl) s sep m w hs hm h1
end Go.Proofs
end
namespace Go.Proofs.YtnipofpbcggjcaaGreatDoor
section
open Go.RowKit Go.Maps aR ak
def qW (β:Bs):Prop:=∃m,Rd β ⟨0,0,none⟩ (.int .i64 m)
theorem qW.le {β β':Bs} (h:qW β) (hle:β.le β'):qW β':=h.imp λ_ h=>h.le hle
theorem Ax (s:ByteArray):(aM s).length=Lib.countB s slash+1:=Lib.splitB_all slash (by decide) 0 _ s rfl
theorem wY (s:ByteArray):Lib.countB s slash<=s.size:=Lib.countB_le slash (by decide) _ s (Nat.le_refl _)
theorem DR (sep:ByteArray):∀(k:Nat) (s:ByteArray),∀p∈Lib.splitB sep 0 k s,p.size<=s.size
 |0,s,p,hp=>by
   rw [Lib.splitB_zero] at hp
   rw [List.mem_singleton.1 hp];exact Nat.le_refl _
 |k+1,s,p,hp=>by
   rcases Lib.indexB_cases s sep with hix|⟨i,hix,_⟩
   ·rw [Lib.splitB_miss sep 0 (k+1) s hix] at hp
    rw [List.mem_singleton.1 hp];exact Nat.le_refl _
   rw [Lib.splitB_hit sep 0 k s i hix] at hp
   rcases List.mem_cons.1 hp with rfl|hp
   ·rw [ByteArray.size_extract];omega
   have:=DR sep k _ p hp
   rw [ByteArray.size_extract] at this
   omega
theorem DS {s p:ByteArray} (hp:p∈aM s):p.size<=s.size:=DR slash _ s p hp
def j7 (ps:List ByteArray):List Value:=ps.map Value.string
theorem V3 {β:Bs} (hg:qW β) (s:ByteArray) (hs:s.size<=1048576):Spec Tryz.prog β 67 #[.string s,.string ⟨#[47]⟩] [] (λv l=>∃b,v=.slice (some ⟨b,0,none⟩) (aM s).length (aM s).length/\l=[.abs (aq 9 1 (some ⟨b,0,none⟩) (aM s).length (aM s).length (j7 (aM s)))]):=
 Spec.J0 λW hW=>by
  obtain⟨m,hg⟩:=hg
  have hm:W.cell? ⟨0,0,none⟩=some (.int .i64 m):=(World.cell?_of_block (w:=β.w0) (hW.old _ hg.1).2).trans hg.2
  have hl:=Ax s
  have hc:=wY s
  refine (Tryz.strings_Split s slash m W (by omega) hm (by decide)).mono ?_
  rintro e w' ⟨rfl,rfl⟩
  refine⟨_,_,rfl,⟨W.heap.size,by rw [hl],rfl⟩,(Keeps.refl _ _).alloc _,λk=>k=W.heap.size,⟨⟨?_,.inr ⟨W.heap.size,(aM s).length,(j7 (aM s)).toArray,rfl,Nat.zero_le _,?_,Nat.le_refl _,?_,?_,?_⟩⟩,λk=>?_⟩,λk hk=>Nat.le_of_eq hk.symm⟩
  ·simp [j7]
  ·show (W.heap.push _)[W.heap.size]?=_
   simp [j7,aM]
  ·unfold maxLen;omega
  ·first|(simp [j7];done)|(simp [j7];exact List.take_of_length_le (by simp))
  ·first|(simp [j7];done)|(simp [j7];exact List.take_of_length_le (by simp))
  simp [Value.ownBlock,eq_comm]
theorem TD {β:Bs} {ps:List ByteArray} (hg:qW β) (s:ByteArray) (hs:s.size<=1048576) (hp:ps=aM s):Spec Tryz.prog β 67 #[.string s,.string ⟨#[47]⟩] [] (λv l=>∃b,v=.slice (some ⟨b,0,none⟩) ps.length ps.length/\l=[.abs (aq 9 1 (some ⟨b,0,none⟩) ps.length ps.length (j7 ps))]):=by
 subst hp;exact V3 hg s hs
def pc (ps:List ByteArray) (j:Nat):ByteArray:=ps.getD j ⟨#[]⟩
theorem Ms {ps:List ByteArray} {j:Nat} (hj:j<ps.length):pc ps j∈ps:=by
 grind [pc]
theorem Ay {ps:List ByteArray} {j:Nat} (hj:j<ps.length):(j7 ps)[j]?=some (.string (pc ps j)):=by
 grind [j7,pc]
theorem vR {ps:List ByteArray} {j:Nat} (hj:j<ps.length):ps.drop j=pc ps j::ps.drop (j+1):=by
 unfold pc
 rw [List.getD_eq_getElem?_getD,List.getElem?_eq_getElem hj]
 exact List.drop_eq_getElem_cons hj
theorem Az {ps:List ByteArray}:(∀p∈ps,aS p)↔∀j,j<ps.length->aS (pc ps j):=by
 refine⟨λh j hj=>h _ (Ms hj),λh p hp=>?_⟩
 obtain⟨j,hj,rfl⟩:=List.getElem_of_mem hp
 grind [pc]
theorem Jo {n:ByteArray} (h:aS n):n.size<=1048576:=Nat.le_trans h.2.1 (by decide)
theorem Mt {O:bZ}:∀{ps:List ByteArray} {d:Nat} {e:Int},mM O d ps=.error e->e≠0
 |[],d,e,h=>by cases h;decide
 |[p],d,e,h=>by
   unfold mM at h
   split at h
   ·cases h;decide
   cases h
 |p::q::r,d,e,h=>by
   unfold mM at h
   split at h
   ·cases h;decide
   split at h
   ·cases h;decide
   split at h
   ·cases h;decide
   exact Mt h
theorem uO {S:aK} {d:Nat} (hI:Inv S) (hd:Live S.idx ⟨d,2⟩) (path:ByteArray):(∃e,j4 S.O d path=.error e/\e≠0)\/∃d' name,j4 S.O d path=.ok (d',name)/\Live S.idx ⟨d',2⟩/\(obj S.O d').gone=false/\aS name:=by
 cases h:j4 S.O d path with
 |error e=>
   grind [j4,Mt]
 |ok x=>
   obtain⟨d',name⟩:=x
   exact .inr ⟨d',name,rfl,G0 hI.toInv0 hd h⟩
section way
variable {O:bZ} {d:Nat} {ps:List ByteArray} {j:Nat}
theorem Jp (hj:j+1=ps.length):mM O d (ps.drop j)=if (obj O d).gone=true then .error 170 else .ok (d,pc ps j):=by
 grind [vR,mM,obj,pc]
theorem x5 (hj:j+1<ps.length):mM O d (ps.drop j)=match aH (pc ps j) (obj O d).af with
 |none=>.error 170
 |some t=>if t.kind=3 then .error 174 else if t.kind=1 then .error 173 else mM O t.k (ps.drop (j+1)):=by
 rw [vR (j:=j) (by omega),vR (j:=j+1) hj]
 rfl
end way
section bytes
variable {P:Program} {β:Bs} {N:dx} {ops:Array Oper} {k:Nat} {fr:Fr} {hps:List HP} {Q:Post} {d:Option Tmp} {s:ByteArray}
theorem Bs.ok.Yy {β:Bs} {w:World} (h:β.ok w) (F:Nat->Prop):β.le ⟨λk=>β.O k\/F k,w⟩:=⟨λ_ h=>.inl h,h.os,h.tape,h.output,h.size,λk hk=>h.old k hk⟩
theorem ai.AA {t1 t2 e:TypeId} {x:Operand} (hop:∀junk,fH N junk ops fr k=some (.convert t1 t2 x,d)) (hx:∀junk,cL N fr junk x=.string s) (h1:P.underlying t1=some .string) (h2:P.underlying t2=some (.slice e)) (h3:P.underlying e=some (.int .u8))
 (K:∀b cap,s.data.toList.length<=cap->ai P β N ops (k+1) (cI fr d (.slice (some ⟨b,0,none⟩) s.data.toList.length cap)) (hps++[.abs (jS β (λβ'=>aW β' (some ⟨b,0,none⟩) s.data.toList))]) Q):ai P β N ops k fr hps Q:=by
 refine ai.Gu (ι:={p:Nat×Nat // s.data.toList.length<=p.2}) (v:=λp=>.slice (some ⟨p.1.1,0,none⟩) s.data.toList.length p.1.2) (hp':=λp=>hps++[.abs (jS β (λβ'=>aW β' (some ⟨p.1.1,0,none⟩) s.data.toList))]) hop (λo junk w ho hS=>?_) (λp=>K p.1.1 p.1.2 p.2)
 have hr:=run_bytes_of_string (P:=P) w t1 t2 e s h1 h2 h3
 have hsz:s.data.toList.length=s.size:=Array.length_toList ..
 generalize hw:(w.drew.alloc (.cells (bytesRow s (grownCap w s.size 0 e)) e ((bytesRow s (grownCap w s.size 0 e)).size,(bytesRow s (grownCap w s.size 0 e)).size+1)))=w' at hr
 have hk:Keeps (λ_=>False) w w':=by rw [←hw];exact (Keeps.refl _ _).drew.alloc _
 have hok:=hS.1.keeps hk (λ_ _ h=>h)
 have hheap:w'.heap[w.heap.size]?=some (.cells (bytesRow s (grownCap w s.size 0 e)) e ((bytesRow s (grownCap w s.size 0 e)).size,(bytesRow s (grownCap w s.size 0 e)).size+1)):=by
  rw [←hw]
  show (w.heap.push _)[w.heap.size]?=_
  simp
 have hsize:w.heap.size<w'.heap.size:=by
  grind
 refine⟨⟨(w.heap.size,grownCap w s.size 0 e),by rw [hsz];exact grownCap_ge w s.size 0 e⟩,w',.inl ?_,hS.new (F:=λk=>k=w.heap.size) ?_ hk (λk e=>Nat.le_of_eq e.symm)⟩
 ·obtain⟨dst,op,type,pos,after,guard⟩:=o
  cases ho
  have hr2:(convert t1 t2 (.string s)).run P w=.ok (.slice (some ⟨w.heap.size,0,none⟩) s.data.toList.length (grownCap w s.size 0 e)) w':=by rw [hr,hsz]
  simp only [execOp,hx]
  simp [hr2,Result.andThen]
 refine⟨⟨λk=>β.O k\/k=w.heap.size,w'⟩,hok.Yy _,λ_ h=>h,λ_ h=>.inr h,Nat.le_refl _,λk hk=>⟨by rw [hk];exact hsize,rfl⟩,λj v hj=>⟨rfl,.inr rfl,?_⟩⟩
 show World.cell? w' ⟨w.heap.size,0+j,none⟩=some v
 have hj2:=bT hj
 unfold World.cell?
 rw [hheap]
 unfold bY at hj hj2
 rw [List.length_map] at hj2
 rw [List.getElem?_map,List.getElem?_eq_getElem hj2] at hj
 simp only [Option.map_some,Option.some.injEq] at hj
 subst hj
 unfold bytesRow
 grind [xj]
end bytes
theorem Gi {β:Bs} (S:aK) (L:HL) (f m t:Nat) (hI:Inv S) (k:Nat) (hk:Live S.idx ⟨k,1⟩) (A:Option Addr) (c:Nat) (bs:List UInt8) (hbl:bs.length<=1099511627776) (hbc:bs.length<=c) :
 Spec Tryz.prog β 36 #[vP f,vP (L.b k),.slice A bs.length c] (.abs (jS β (λβ'=>aW β' A bs))::pA f m t L S) (λv l=>∃L2,v=.tuple #[vI (dL S k bs).1,vI (dL S k bs).2.1]/\l=pA f m t L2 (dL S k bs).2.2):=
 Spec.Qq λ_ _ hA=>Jm S L f m t hI k hk A c bs hA hbl hbc
def EK (L:HL):Except Int (Nat×ByteArray)->Value
 |.error e=>.tuple #[.pointer none,.string ⟨#[]⟩,.int .i64 e]
 |.ok (d,p)=>.tuple #[.pointer (some ⟨L.b d,0,none⟩),.string p,.int .i64 0]
end
section
open Go.RowKit Go.Maps aR ak
noncomputable section
def lD (R:RS):Nat->List ByteArray->Except Int (Nat×ByteArray)
 |_,[]=>.error 170
 |d,[p]=>if (nd R.ns d).id∈R.gone then .error 170 else .ok (d,p)
 |d,p::q::r=>
   if 0<=aP R.ns d p then
    if (nd R.ns (aP R.ns d p).toNat).kind=3 then .error 174
    else if (nd R.ns (aP R.ns d p).toNat).kind=1 then .error 173
    else lD R (aP R.ns d p).toNat (q::r)
   else .error 170
def jT (R:RS) (d:Nat) (path:ByteArray):Except Int (Nat×ByteArray):=if ∀p∈aM path,aS p then lD R d (aM path) else .error 95
def cM (R:RS) (top d:Nat) (name:ByteArray) (a:mK):RS×Int:=
 if a.op=1 then
  let m:=aL R d name ⟨0,1,420,0,0,0,0,[],⟨#[]⟩,[]⟩
  if m.2=0 then ((gM m.1 (m.1.ns.length-1) a.text.data.toList).1,0) else (R,m.2)
 else if a.op=2 then aL R d name ⟨0,2,493,0,0,0,0,[],⟨#[]⟩,[]⟩
 else if a.op=3 then aL R d name ⟨0,3,511,0,0,0,0,[],a.text,[]⟩
 else if a.op=4 then eW R d name false
 else if a.op=5 then eW R d name true
 else if a.op=6 then match jT R top a.to with
  |.error e=>(R,e)
  |.ok (to,toName)=>d9 R d name to toName
 else if 0<=aP R.ns d name then
  if (nd R.ns (aP R.ns d name).toNat).kind=3 then (R,174)
  else if (nd R.ns (aP R.ns d name).toNat).kind=2 then (R,172)
  else ((gM R (aP R.ns d name).toNat a.text.data.toList).1,(gM R (aP R.ns d name).toNat a.text.data.toList).2.2)
 else (R,170)
def jw (R:RS) (root:Int) (a:mK):RS×Int:=
 if a.op<1\/a.op>7 then (R,230)
 else if 0<=dV R.ns root then
  if (nd R.ns (tgt R.ns root)).kind=2 then
   match jT R (tgt R.ns root) a.path with
   |.error e=>(R,e)
   |.ok (d,name)=>if (cM R (tgt R.ns root) d name a).2=0 then ((cM R (tgt R.ns root) d name a).1,0) else (R,(cM R (tgt R.ns root) d name a).2)
  else (R,173)
 else (R,141)
end
section i
variable {S S' S2:aK} {g:List Int} {t u:Th} {d top k i j:Nat} {name:ByteArray} {a:mK}
theorem Mu (hr:RelR S g):∀(ps:List ByteArray) (d:Nat),Live S.idx ⟨d,2⟩->lD (toR S g) (posR S ⟨d,2⟩) ps=match mM S.O d ps with|.error e=>.error e|.ok (d',n)=>.ok (posR S ⟨d',2⟩,n)
 |[],d,hd=>rfl
 |[p],d,hd=>by
   have hI:=hr.inv.toInv0
   unfold lD mM
   rw [j5 hI hd]
   show (if (d:Int)∈g then _ else _)=_
   have hiff:=hr.gone.yx ⟨d,2⟩ hd
   by_cases h:(obj S.O d).gone=true
   ·rw [if_pos (hiff.2 h),if_pos h]
   rw [if_neg (λq=>h (hiff.1 q)),if_neg h]
 |p::q::r,d,hd=>by
   have hI:=hr.inv.toInv0
   unfold lD mM
   rcases jv hr hd p with ⟨h1,h2⟩|⟨t,h1,h2,hl,hk,-⟩
   ·rw [h1,if_neg (by rw [h2];decide)]
   rw [h1,if_pos (by rw [h2];omega),h2,Int.toNat_natCast,j5 hI hl]
   show (if t.kind=3 then _ else if t.kind=1 then _ else _)=_
   simp only
   by_cases h3:t.kind=3
   ·rw [if_pos h3,if_pos h3]
   rw [if_neg h3,if_neg h3]
   by_cases h4:t.kind=1
   ·rw [if_pos h4,if_pos h4]
   rw [if_neg h4,if_neg h4]
   have ht:t=⟨t.k,2⟩:=by
    have:t.kind=2:=by omega
    rw [←this]
   rw [ht] at hl
   rw [show posR S t=posR S ⟨t.k,2⟩ by rw [←ht]]
   exact Mu hr (q::r) t.k hl
theorem EL (hr:RelR S g) (hd:Live S.idx ⟨d,2⟩) (path:ByteArray):jT (toR S g) (posR S ⟨d,2⟩) path=match j4 S.O d path with|.error e=>.error e|.ok (d',n)=>.ok (posR S ⟨d',2⟩,n):=by
 grind [jT,j4,aM,aS,Mu]
theorem QA (hr:RelR S g) (hd:Live S.idx ⟨d,2⟩) (ji:(obj S.O d).gone=false) (hgn:aS name) (text:ByteArray):∃m,m=aL (toR S g) (posR S ⟨d,2⟩) name ⟨0,1,420,0,0,0,0,[],⟨#[]⟩,[]⟩ ∧
 ck ((if m.2=0 then ((gM m.1 (m.1.ns.length-1) text.data.toList).1,0) else (toR S g,m.2)).1,0,(if m.2=0 then ((gM m.1 (m.1.ns.length-1) text.data.toList).1,0) else (toR S g,m.2)).2) (pu S d name text).1 (pu S d name text).2 0:=by
 refine⟨_,rfl,?_⟩
 have hI:=hr.inv.toInv0
 unfold pu
 rcases ud (n:=⟨0,1,420,0,0,0,0,[],⟨#[]⟩,[]⟩) hr hd name (λq=>absurd (show (1:Int)=3 from q.1) (by decide)) with ⟨h1,h2⟩|⟨h1,h2⟩
 rotate_left
 ·rw [h2,if_neg h1,if_neg h1];exact .bad rfl h1
 rw [h2,if_pos h1]
 obtain⟨hA,hG⟩:=Dc (name:=name) (o:=aZ S.X 1 420) (n:=⟨0,1,420,0,0,0,0,[],⟨#[]⟩,[]⟩) hr hd ⟨rfl,rfl,rfl,rfl,rfl⟩ ⟨rfl,rfl,rfl,rfl,rfl,rfl,rfl⟩
 have bn:Inv (dr S d name (aZ S.X 1 420)):=hr.inv.CX hd ji hgn h1 (.inl rfl) ⟨by decide,by decide⟩ (.inl ⟨by decide,rfl⟩)
 have hl1:Live (dr S d name (aZ S.X 1 420)).idx ⟨aE S.X,1⟩:=(Mf hI).2.1
 rw [if_pos rfl,hA]
 have hidx:(dr S d name (aZ S.X 1 420)).idx=_:=Db hI
 have hp:=kA bn.ix hl1
 have hlen:(toR (dr S d name (aZ S.X 1 420)) g).ns.length-1=posR (dr S d name (aZ S.X 1 420)) ⟨aE S.X,1⟩:=by
  show (aA _).length-1=_
  rw [eu,hidx,List.length_append]
  refine F9 bn.ix (by rw [hidx,List.length_append];exact Nat.lt_succ_self _) hp.2.1 ?_
  grind [dN,oq]
 rw [hlen]
 have hg:=Ck (t:=⟨aE S.X,1⟩) ⟨bn,hG⟩ hl1 text.data.toList
 grind [dL,dr,aZ,aE,gM,toR,posR,Live,obj,aS,aL,ck,pu]
theorem V4 (hr:RelR S g) (ht:Live S.idx ⟨top,2⟩) (hd:Live S.idx ⟨d,2⟩) (ji:(obj S.O d).gone=false) (hgn:aS name) (a:mK):ck ((cM (toR S g) (posR S ⟨top,2⟩) (posR S ⟨d,2⟩) name a).1,0,(cM (toR S g) (posR S ⟨top,2⟩) (posR S ⟨d,2⟩) name a).2) (kD S top a d name).1 (kD S top a d name).2 0:=by
 have hI:=hr.inv.toInv0
 unfold cM kD
 by_cases h1:a.op=1
 ·rw [if_pos h1,if_pos h1]
  obtain⟨m,hm,h⟩:=QA hr hd ji hgn a.text
  rw [hm] at h;exact h
 rw [if_neg h1,if_neg h1]
 by_cases h2:a.op=2
 ·rw [if_pos h2,if_pos h2]
  exact Ap (o:=aZ S.X 2 493) hr hd name (λq=>absurd (show (2:Int)=3 from q.1) (by decide)) ⟨rfl,rfl,rfl,rfl,rfl⟩ ⟨rfl,rfl,rfl,rfl,rfl,rfl,rfl⟩
 rw [if_neg h2,if_neg h2]
 by_cases h3:a.op=3
 ·grind [fY,iP,Ap,aZ,aL,Live,obj,aS,ck,cM,toR,posR,kD]
 rw [if_neg h3,if_neg h3]
 by_cases h4:a.op=4
 ·grind [Jg]
 rw [if_neg h4,if_neg h4]
 by_cases h5:a.op=5
 ·grind [Jh]
 rw [if_neg h5,if_neg h5]
 by_cases h6:a.op=6
 ·rw [if_pos h6,if_pos h6,EL hr ht]
  rcases uO hr.inv ht a.to with ⟨e,h,he⟩|⟨to,toName,h,hto,-⟩
  ·rw [h];exact .bad rfl he
  rw [h];exact Jj hr hd hto name toName
 rw [if_neg h6,if_neg h6]
 unfold lZ
 rcases jv hr hd name with ⟨h7,h8⟩|⟨t,h7,h8,hl,hk,-⟩
 ·grind [Live,obj,aS,ck,cM,toR,posR,kD]
 rw [h7,if_pos (by rw [h8];omega),h8,Int.toNat_natCast,j5 hI hl]
 grind [gI,Ck,Live,obj,aS,ck,cM,toR,posR,kD]
theorem Yz (hr:RelR S g) (root:Int) (a:mK):∃g',jw (toR S g) root a=(toR (bP S root a).2 g',(bP S root a).1)/\RelR (bP S root a).2 g':=by
 have hI:=hr.inv.toInv0
 have hIa:Inv (bP S root a).2:=hr.inv.bP
 have Cu:∀{e:Int},(bP S root a).1=e->e≠0->jw (toR S g) root a=(toR S g,e)->∃g',jw (toR S g) root a=(toR (bP S root a).2 g',(bP S root a).1)/\RelR (bP S root a).2 g':=λ{e} h1 h2 h3=>by
  grind [U8]
 by_cases h0:a.op<1\/a.op>7
 ·grind [bP,jw]
 have ha:dV (toR S g).ns root=_:=Mb hI root
 cases e:ak.get S.idx root with
 |none=>
   grind [dV,toR,bP,jw]
 |some t=>
   rw [e] at ha
   replace ha:dV (toR S g).ns root=(posR S t:Int):=ha
   obtain⟨hl,_⟩:=EG hI e
   have xV:tgt (toR S g).ns root=posR S t:=by unfold tgt;rw [ha];exact Int.toNat_natCast _
   by_cases h2:t.kind=2
   rotate_left
   ·exact Cu (by unfold bP;rw [if_neg h0,e];exact congrArg Prod.fst (if_neg h2)) (show (173:Int)≠0 by decide) (by unfold jw;rw [if_neg h0,if_pos (by rw [ha];omega),xV,j5 hI hl];exact if_neg h2)
   have ht:t=⟨t.k,2⟩:=by rw [←h2]
   have hl2:Live S.idx ⟨t.k,2⟩:=by rw [←ht];exact hl
   have hA:bP S root a=match j4 S.O t.k a.path with|.error e=>(e,S)|.ok (d,name)=>kD S t.k a d name:=by
    unfold bP;rw [if_neg h0,e];exact if_pos h2
   have hB:jw (toR S g) root a=match jT (toR S g) (posR S ⟨t.k,2⟩) a.path with|.error e=>(toR S g,e)|.ok (d,name)=>if (cM (toR S g) (posR S ⟨t.k,2⟩) d name a).2=0 then ((cM (toR S g) (posR S ⟨t.k,2⟩) d name a).1,0) else (toR S g,(cM (toR S g) (posR S ⟨t.k,2⟩) d name a).2):=by
    unfold jw;rw [if_neg h0,if_pos (by rw [ha];omega),xV,j5 hI hl,←ht];exact if_pos h2
   rw [EL hr hl2] at hB
   rcases uO hr.inv hl2 a.path with ⟨e,h,he⟩|⟨d,name,h,hd,ji,hgn⟩
   ·rw [h] at hA hB
    exact Cu (by rw [hA]) he hB
   rw [h] at hA hB
   replace hA:bP S root a=kD S t.k a d name:=hA
   obtain⟨e1,e2⟩:=V4 hr hl2 hd ji hgn a
   by_cases hc:(kD S t.k a d name).1=0
   ·obtain⟨g',q1,q2,_⟩:=e2 hc
    have e3:(cM (toR S g) (posR S ⟨t.k,2⟩) (posR S ⟨d,2⟩) name a).2=0:=e1.trans hc
    refine⟨g',?_,hIa,by rw [hA];exact q2⟩
    grind
   grind
end i
end
section
open Go.RowKit Go.Maps aR ak
def wZ:Except Int (Nat×ByteArray)->Value
 |.error e=>.tuple #[.int .i64 0,.string ⟨#[]⟩,.int .i64 e]
 |.ok x=>.tuple #[.int .i64 ((x.1:Nat):Int),.string x.2,.int .i64 0]
section w
variable {R:RS} {ps:List ByteArray} {d j k:Nat}
theorem x6 {B:Option Addr} {c:Nat} (hj:j<ps.length):∀F w,(aq 9 1 B ps.length c (j7 ps)).h F w->w.cell? ⟨aV B,aU B+j*1,none⟩=some (.string (pc ps j)):=
 aq.cellAt (size:=1) (j:=0) hj (by rw [Nat.mul_one];exact Ay hj)
theorem TF (hj:j+1<ps.length) (hl:aP R.ns d (pc ps j) = -1):lD R d (ps.drop j)=.error 170:=by
 grind [vR,aP,pc,lD]
theorem Cv (hj:j+1<ps.length) (hl:aP R.ns d (pc ps j)=(k:Int)):lD R d (ps.drop j)=if (nd R.ns k).kind=3 then .error 174 else if (nd R.ns k).kind=1 then .error 173 else lD R k (ps.drop (j+1)):=by
 have e:(aP R.ns d (pc ps j)).toNat=k:=by rw [hl];rfl
 grind [vR,aP,pc,lD,nd]
theorem Jq (hj:j+1=ps.length):lD R d (ps.drop j)=if (nd R.ns d).id∈R.gone then .error 170 else .ok (d,pc ps j):=by
 grind [vR,lD,nd,pc]
end w
end
section
open Go.RowKit Go.Maps aR ak
abbrev nF:au:=⟨0,1,420,0,0,0,0,[],⟨#[]⟩,[]⟩
abbrev nD:au:=⟨0,2,493,0,0,0,0,[],⟨#[]⟩,[]⟩
abbrev nL (t:ByteArray):au:=⟨0,3,511,0,0,0,0,[],t,[]⟩
section a
variable {R Z:RS} {Y:RL} {β:Bs} {d root k to n:Nat} {name toName:ByteArray} {a:mK} {e:Int} {x:au}
theorem YA (h:(aL R d name x).2≠0):(aL R d name x).1=R:=by
 grind [aL]
theorem TG (h:(aL R d name x).2=0):aL R d name x=(gV R d name x,0):=by
 grind [iP,aL]
theorem Hz:(gV R d name x).ns.length=R.ns.length+1:=by
 unfold gV
 simp [List.length_append,yX]
theorem V5:(nd (gV R d name x).ns R.ns.length).data=x.data:=by
 grind [gV,nd,bE,yX]
theorem jl.toK {L:Lay} {H V:Option Addr} (h:jl β R L H V):wR β R L H V k:=⟨λi hi _=>h.data i hi,h.af,h.h,h.v⟩
theorem XB (h:a.op=1) (hm:(aL R d name nF).2≠0):cM R root d name a=(R,(aL R d name nF).2):=by unfold cM;rw [if_pos h];exact if_neg hm
theorem XC (h:a.op=1) (hm:(aL R d name nF).2=0):cM R root d name a=((gM (gV R d name nF) R.ns.length a.text.data.toList).1,0):=by
 grind [cM,TG,Hz]
theorem aaE (h:a.op=2):cM R root d name a=aL R d name nD:=by unfold cM;rw [if_neg (by omega),if_pos h]
theorem aaF (h:a.op=3):cM R root d name a=aL R d name (nL a.text):=by unfold cM;rw [if_neg (by omega),if_neg (by omega),if_pos h]
theorem aaG (h:a.op=4):cM R root d name a=eW R d name false:=by unfold cM;rw [if_neg (by omega),if_neg (by omega),if_neg (by omega),if_pos h]
theorem aaH (h:a.op=5):cM R root d name a=eW R d name true:=by unfold cM;rw [if_neg (by omega),if_neg (by omega),if_neg (by omega),if_neg (by omega),if_pos h]
theorem XD (h:a.op=6) (hw:jT R root a.to=.error e):cM R root d name a=(R,e):=by unfold cM;rw [if_neg (by omega),if_neg (by omega),if_neg (by omega),if_neg (by omega),if_neg (by omega),if_pos h,hw]
theorem XE (h:a.op=6) (hw:jT R root a.to=.ok (to,toName)):cM R root d name a=d9 R d name to toName:=by unfold cM;rw [if_neg (by omega),if_neg (by omega),if_neg (by omega),if_neg (by omega),if_neg (by omega),if_pos h,hw]
theorem aaI (h:¬(1<=a.op/\a.op<=6)):cM R root d name a=if 0<=aP R.ns d name then if (nd R.ns (aP R.ns d name).toNat).kind=3 then (R,174) else if (nd R.ns (aP R.ns d name).toNat).kind=2 then (R,172) else ((gM R (aP R.ns d name).toNat a.text.data.toList).1,(gM R (aP R.ns d name).toNat a.text.data.toList).2.2) else (R,170):=by
 grind [cM]
theorem XF (h:¬(1<=a.op/\a.op<=6)) (hl:aP R.ns d name = -1):cM R root d name a=(R,170):=(aaI h).trans (if_neg (by rw [hl];decide))
theorem Dh (h:¬(1<=a.op/\a.op<=6)) (hl:aP R.ns d name=(k:Int)):cM R root d name a=if (nd R.ns k).kind=3 then (R,174) else if (nd R.ns k).kind=2 then (R,172) else ((gM R k a.text.data.toList).1,(gM R k a.text.data.toList).2.2):=by
 rw [aaI h,if_pos (by rw [hl];omega),hl];rfl
theorem Mv:∀{ps:List ByteArray} {d:Nat},lD R d ps=.error e->e≠0
 |[],d,h=>by cases h;decide
 |[p],d,h=>by
   unfold lD at h
   split at h<;>first|(cases h;done)|(cases h;decide)
 |p::q::r,d,h=>by
   unfold lD at h
   (repeat' split at h)<;>first|exact Mv h|(cases h;done)|(cases h;decide)
theorem Mw {p:ByteArray} (h:jT R root p=.error e):e≠0:=by
 grind [jT,Mv]
theorem Pb:∀{ps:List ByteArray} {d:Nat},d<R.ns.length->lD R d ps=.ok (to,toName)->to<R.ns.length
 |[],d,_,h=>by cases h
 |[p],d,hd,h=>by
   unfold lD at h
   split at h
   ·cases h
   cases h;exact hd
 |p::q::r,d,hd,h=>by
   unfold lD at h
   split at h
   ·rename_i h0
    split at h
    ·cases h
    split at h
    ·cases h
    refine Pb ?_ h
    rcases iD R.ns d p with hl|⟨k,hl,hk⟩
    ·rw [hl] at h0;exact absurd h0 (by decide)
    rw [hl];exact hk
   cases h
theorem Pc {p:ByteArray} (hr:root<R.ns.length) (h:jT R root p=.ok (to,toName)):to<R.ns.length:=by
 unfold jT at h
 split at h
 ·exact Pb hr h
 cases h
theorem QB (hI:jl β Z Y.L Y.H Y.V) (hC:RC Z) (hD:RD n Z) (hn:n<=7) (d:Nat) (hd:d<Z.ns.length) (name:ByteArray) (x:au) (hxd:x.data=[]) (I8:x.af=[]) (Iw:x.target.size<=1048576) (hm:(aL Z d name x).2≠0) :
 bV Tryz.prog β 63 #[.agg ⟨rV Z Y⟩,.int .i64 ((d:Nat):Int),.string name,.agg #[.int .i64 x.id,.int .i64 x.kind,.int .i64 x.mode,.int .i64 x.uid,.int .i64 x.gid,.int .i64 x.sec,.int .i64 x.nano,.slice none 0 0,.string x.target,.slice none 0 0]]
  [.abs (aq 75 10 Y.A Z.ns.length Y.c (aJ Y.L Z.ns)),.abs (aq 3 1 Y.G Z.gone.length Y.cg (ints Z.gone))] (λ_ v l=>v=.tuple #[.agg ⟨rV Z Y⟩,.int .i64 (aL Z d name x).2]/\l=[.abs (aq 75 10 Y.A Z.ns.length Y.c (aJ Y.L Z.ns)),.abs (aq 3 1 Y.G Z.gone.length Y.cg (ints Z.gone))]):=by
 refine (uL Z Y hI hC hD hn d hd name x hxd I8 Iw).mono ?_
 rintro β' v l _ ⟨A1,c1,L1,rfl,rfl,_,hmk⟩
 obtain⟨_,rfl,rfl,rfl⟩:=hmk.resolve_left (λh=>hm h.1)
 rw [YA hm]
 exact⟨rfl,rfl⟩
theorem QC (hI:jl β Z Y.L Y.H Y.V) (hC:RC Z) (hD:RD n Z) (hn:n<=7) (d:Nat) (hd:d<Z.ns.length) (name:ByteArray) (x:au) (hxd:x.data=[]) (I8:x.af=[]) (Iw:x.target.size<=1048576) (hm:(aL Z d name x).2=0) :
 bV Tryz.prog β 63 #[.agg ⟨rV Z Y⟩,.int .i64 ((d:Nat):Int),.string name,.agg #[.int .i64 x.id,.int .i64 x.kind,.int .i64 x.mode,.int .i64 x.uid,.int .i64 x.gid,.int .i64 x.sec,.int .i64 x.nano,.slice none 0 0,.string x.target,.slice none 0 0]]
  [.abs (aq 75 10 Y.A Z.ns.length Y.c (aJ Y.L Z.ns)),.abs (aq 3 1 Y.G Z.gone.length Y.cg (ints Z.gone))] (λβ' v l=>∃A' c' L',v=.tuple #[.agg ⟨rW (gV Z d name x) A' c' Y.G Y.cg Y.H Y.ch Y.V Y.cv⟩,.int .i64 0] ∧
   l=[.abs (aq 75 10 A' (gV Z d name x).ns.length c' (aJ L' (gV Z d name x).ns)),.abs (aq 3 1 Y.G (gV Z d name x).gone.length Y.cg (ints (gV Z d name x).gone))]/\jl β' (gV Z d name x) L' Y.H Y.V/\L'.dA Z.ns.length=none/\L'.dC Z.ns.length=0):=by
 grind [uL,TG]
end a
end
section
open Go.RowKit Go.Maps aR ak
theorem Pf {l:List UInt8} {c:UInt8} {j:Nat}:Lib.occAt l [c] j=(l[j]? == some c):=by
 unfold Lib.occAt
 rw [←List.head?_drop]
 cases l.drop j with
 |nil=>rfl
 |cons b r=>
   grind
theorem ext_get {s:ByteArray} {a b j:Nat} (hb:b<=s.size) (hj:a+j<b):(s.extract a b).data.toList[j]?=some (s.data.getD (a+j) 0):=by
 have h:a+j<s.data.size:=Nat.lt_of_lt_of_le hj hb
 simp only [ByteArray.data_extract,Array.getElem?_toList,Array.getElem?_extract]
 rw [if_pos (by have:s.data.size=s.size:=rfl;omega)]
 have h2:s.data[a+j]?=some s.data[a+j]:=Array.getElem?_eq_getElem h
 rw [h2]
 simp only [Array.getD,h,dite_true];rfl
section p
variable {s:ByteArray} {a i:Nat}
theorem aaJ {j:Nat}:(s.data.getD j 0 == 47)=decide (bO s j=47):=by
 unfold bO
 generalize s.data.getD j 0=x
 by_cases h:x=47
 ·subst h;rfl
 have h2:¬x.toNat=47:=λe=>h (UInt8.toNat_inj.1 e)
 rw [decide_eq_false h2]
 simpa using h
theorem Pg {j:Nat} (hj:a+j<s.size):Lib.occAt (s.extract a s.size).data.toList slash.data.toList j=decide (bO s (a+j)=47):=by
 show Lib.occAt _ [47] j=_
 rw [Pf,ext_get (Nat.le_refl _) hj,←aaJ]
 simp
theorem YB {j:Nat} (hj:s.size<=a+j):Lib.occAt (s.extract a s.size).data.toList slash.data.toList j=false:=by
 show Lib.occAt _ [47] j=_
 rw [Pf,List.getElem?_eq_none (by simp only [Array.length_toList,ByteArray.size_data,ByteArray.size_extract];omega)]
 rfl
theorem NC (hno:∀j,a<=j->j<s.size->¬bO s j=47):aM (s.extract a s.size)=[s.extract a s.size]:=by
 refine Lib.splitB_miss _ _ _ _ (Lib.index_none (λj _=>?_))
 grind [Pg,YB]
theorem ND (ha:a<=i) (hi:i<s.size) (hb:bO s i=47) (hno:∀j,a<=j->j<i->¬bO s j=47):aM (s.extract a s.size)=s.extract a i::aM (s.extract (i+1) s.size):=by
 have hix:Lib.indexB (s.extract a s.size) slash=((i-a:Nat):Int):=by
  refine Lib.index_first (by simp only [Array.length_toList,ByteArray.size_data,ByteArray.size_extract];omega) ?_ (λj hj=>?_)
  all_goals grind [Pg]
 have hc:=Lib.countB_hit (s.extract a s.size) slash (i-a) (by decide) hix
 have e:(s.extract a s.size).extract (i-a+slash.size) (s.extract a s.size).size=s.extract (i+1) s.size:=by
  rw [ByteArray.extract_extract,ByteArray.size_extract]
  congr 1
  ·show a+(i-a+1)=i+1;omega
  omega
 unfold aM
 rw [hc,Nat.add_comm,Lib.splitB_hit _ _ _ _ _ hix,e]
 congr 1
 rw [ByteArray.extract_extract]
 congr 1
 omega
structure DT (s:ByteArray) (i a:Nat) (ps:List ByteArray):Prop where
 le:a<=i
 at_:i<=s.size->ps++aM (s.extract a s.size)=aM s/\∀j,a<=j->j<i->¬bO s j=47
 fin:s.size<i->ps=aM s
 len:ps.length<=a
theorem DT.start:DT s 0 0 []:=⟨Nat.le_refl _,λ_=>⟨by rw [ByteArray.extract_zero_size];rfl,λj _ h=>absurd h (Nat.not_lt_zero j)⟩,λh=>absurd h (Nat.not_lt_zero _),Nat.le_refl _⟩
theorem DT.miss {ps:List ByteArray} (h:DT s i a ps) (hi:i<s.size) (hb:¬bO s i=47):DT s (i+1) a ps:=
 ⟨Nat.le_succ_of_le h.le,λ_=>⟨(h.at_ (Nat.le_of_lt hi)).1,λj h1 h2=>(Nat.lt_succ_iff_lt_or_eq.1 h2).elim ((h.at_ (Nat.le_of_lt hi)).2 j h1) (λe=>e ▸ hb)⟩,λh=>by omega,h.len⟩
theorem DT.hit {ps:List ByteArray} (h:DT s i a ps) (hi:i<=s.size) (hb:i=s.size\/bO s i=47):DT s (i+1) (i+1) (ps++[s.extract a i]):=by
 obtain⟨h1,h2⟩:=h.at_ hi
 have hle:=h.le
 have R8:=h.len
 refine⟨Nat.le_refl _,λh3=>⟨?_,λj h4 h5=>by omega⟩,λh3=>?_,by rw [List.length_append];show ps.length+1<=i+1;omega⟩
 all_goals grind [ND,NC]
theorem Jr {ps:List ByteArray} {x:ByteArray}:j7 (ps++[x])=j7 ps++[.string x]:=List.map_append
end p
end
section
open Go.RowKit Go.Maps aR ak
attribute [local irreducible] ai aQ ah aj
theorem TH {β:Bs} (s:ByteArray) (hs:s.size<=1048576) :
 Spec Tryz.prog β 60 #[.string s] [] (λv l=>∃B c,v=.slice B (aM s).length c/\l=[.abs (aq 9 1 B ((aM s).length) c (j7 (aM s)))]):=by
 refine SE Tryz.func60 Tryz.ntmps60 (λR=>SR (jK 1 [] [] (NS (jB 2 [3] (λb1=>.blk b1 [] 9) (λb1=>NS (ai.mem (λw hS=>hS.oI (i:=1) (b:=b1) (cs:=[]) (e:=9) 1 0 (by kernel_rfl) rfl (by decide)) (jK 1 [4] [] (NZ (jK 1 [5] [] (NN (ah.block (lJ (λ(i,A8,c8,ps,a)=>(i<=s.size+1)/\(DT s i a ps)) (λ(i,A8,c8,ps,a)=>s.size+2-i) (λ(i,A8,c8,ps,a)=>[(0,.string s),(3,.slice A8 (ps.length) (c8)),(4,vI ↑a),(5,vI ↑i)]) (λ(i,A8,c8,ps,a)=>[.abs (aq 9 1 A8 ps.length c8 (j7 ps)),.abs R]) (0,some ⟨b1,0,none⟩,0,[],0) [1,0] (⟨Nat.zero_le _,DT.start⟩) ?_))))))))))))
 rintro⟨i,A8,c8,ps,a⟩ ⟨hi,hp⟩
 have hle:=hp.le
 have R8:=hp.len
 exact SQ (jK 4 [10] [] (NN (cP ((((i:Nat):Int):Int)<=((((s:ByteArray).size:Nat):Int):Int)) (λh10=>KX (ah.seq (ah.block (SR (jK 5 [17] [] (sP 17 ((((i:Nat):Int):Int)=((((s:ByteArray).size:Nat):Int):Int)) (λBr=>jK 5 [22] [] (NT (SR (jN 6 [23,28] (λb2=>[(4,p_ ⟨[],some i,some a,none,none⟩ [((i:Nat):Int)=((i:Nat):Int),((a:Nat):Int)=((a:Nat):Int),i<=(s:ByteArray).size,a<=i] ⟨rfl,rfl,by omega,by omega,trivial⟩)]) (λ_=>[]) (λb2=>.blk b2 [.string ((s:ByteArray).extract a i)] 9) (λb2=>kH 0 129 (some ⟨b2,0,none⟩) 1 1 [.string ((s:ByteArray).extract a i)] rfl (dI (j:=2) rfl) (λA3 c4=>ai.bL 0 (p':=.abs (aq 9 1 A3 ((ps++[s.extract a i]).length) c4 (j7 (ps++[s.extract a i])))) rfl (by rw [Jr];simp) (sl 29 (.slice A3 (ps.length+1) (c4)) (.slice A3 ((ps++[s.extract a i]).length) (c4)) (by simp) (jK 1 [3] [] (NN (ah.region (jK 3 [4] [(1,wJ ((i:Int)+1) (↑(i+1)))] (LX (ah.region (jK 3 [5] [(1,wJ ((i:Int)+1) (↑(i+1)))] (NL (tJ ((i+1),A3,c4,(ps++[s.extract a i]),(i+1)) [0,1] (⟨by omega,hp.hit (by omega) (.inl (by omega))⟩))))))))))))))))) (λBr=>jK 5 [22] [(2,xP i (i<(s:ByteArray).size))] (NN (cP ((((((s:ByteArray).data.getD (i) 0).toNat:Nat):Int):Int)=(47:Int)) (λyH=>SR (jN 6 [23,28] (λb5=>[(4,p_ ⟨[],some i,some a,none,none⟩ [((i:Nat):Int)=((i:Nat):Int),((a:Nat):Int)=((a:Nat):Int),i<=(s:ByteArray).size,a<=i] ⟨rfl,rfl,by omega,by omega,trivial⟩)]) (λ_=>[]) (λb5=>.blk b5 [.string ((s:ByteArray).extract a i)] 9) (λb5=>kH 0 129 (some ⟨b5,0,none⟩) 1 1 [.string ((s:ByteArray).extract a i)] rfl (dI (j:=2) rfl) (λA6 c7=>ai.bL 0 (p':=.abs (aq 9 1 A6 ((ps++[s.extract a i]).length) c7 (j7 (ps++[s.extract a i])))) rfl (by rw [Jr];simp) (sl 29 (.slice A6 (ps.length+1) (c7)) (.slice A6 ((ps++[s.extract a i]).length) (c7)) (by simp) (jK 1 [3] [] (NN (ah.region (jK 3 [4] [(1,wJ ((i:Int)+1) (↑(i+1)))] (LX (ah.region (jK 3 [5] [(1,wJ ((i:Int)+1) (↑(i+1)))] (NL (tJ ((i+1),A6,c7,(ps++[s.extract a i]),(i+1)) [0,1] (⟨by omega,hp.hit (by omega) (.inr (by unfold bO;omega))⟩))))))))))))))) (λyH=>KX (ah.region (jK 3 [5] [(1,wJ ((i:Int)+1) (↑(i+1)))] (NL (tJ ((i+1),A8,c8,ps,a) [0,1] (⟨by omega,hp.miss (by omega) (by unfold bO;omega)⟩))))))))))))))) (λh10=>XX (zR ((by have e:=hp.fin (by omega);rw [←e];exact⟨A8,c8,rfl,rfl⟩)))))))
end
end Go.Proofs.YtnipofpbcggjcaaGreatDoor
