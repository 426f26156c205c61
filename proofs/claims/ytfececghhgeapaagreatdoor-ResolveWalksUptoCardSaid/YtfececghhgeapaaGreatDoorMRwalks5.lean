/-
  PROVED HERE: lemmas and contracts of functions (texts of this repo, joined; what the claim does not use is left out): Ae, FT, DU, Dg, Db, Dn, H7, H8, H9, Vh, HD, H10, H11, H12, Lw, LA, Lc, Og, LC, St, LD, Ns, Ds, Dh, Aw, Ua, Ub, UA, UB, Wn, WD, Oh, Wm, Ud, Nb, WE, WF, UC, WA, HA, HB, WB, Wc, WC, Wd, UD, Ue, VA, VB, Dt, GTe, XS, Wt.
  CONDITIONS: as the theorems say.
-/
import Derived.Test.YtfececghhgeapaaGreatDoorMRwalks4
set_option maxRecDepth 100000
set_option maxHeartbeats 4000000
namespace Go.Proofs.YtfececghhgeapaaGreatDoor
section
open Go.RowKit Go.Maps bw aI
section s
variable {β:Bs} {Z:RS} {Y:RL} {af d:Nat} {name:ByteArray} {a:cM}
theorem aaM {A1 G1:Option Addr} {c1 g1:Nat} {K:fk} (hR:dP β Z Y) (hC:RC Z) (hD:RD 0 Z) (hroot:af<Z.ns.length) (hd:d<Z.ns.length) (fq:a.to.size<=1048576) (tS:a.text.size<=1048576) (XU:a.op=1->(cI Z d name nF).2=0->RC (ko Z d name nF)) :
 aW Tryz.prog β 84 #[.agg ⟨rV Z ⟨A1,c1,K,G1,g1,Y.H,Y.ch,Y.V,Y.cv⟩⟩,.int .i64 ((af:Nat):Int),.int .i64 ((d:Nat):Int),.string name,.agg #[.int .i64 a.at_,.int .i64 a.op,.string a.path,.string a.to,.string a.text]]
  [.abs (jl β (CP Z K)),.abs (aK 102 10 A1 Z.ns.length c1 (bP K Z.ns)),.abs (aK 3 1 G1 Z.aJ.length g1 (bG Z.aJ)),Lb Z K]
  (λv l=>∃Y',v=.tuple #[.agg ⟨rV (fH Z af d name a).1 Y'⟩,.int .i64 (fH Z af d name a).2]/\l=[.abs (jl β (λβ'=>dP β' (fH Z af d name a).1 Y'))]):=by
 refine (bN.GD (ι:=RL) (vv:=λY'=>.tuple #[.agg ⟨rV (fH Z af d name a).1 Y'⟩,.int .i64 (fH Z af d name a).2]) (ll:=λ_=>[]) (Φ:=λY' β'=>dP β' (fH Z af d name a).1 Y') (bN.ab9 λβ' dV hE=>?_)).mono gn
 by_cases h9:∃k:Nat,¬(1<=a.op/\a.op<=6)/\cL Z.ns d name=(k:Int)/\¬(nd Z.ns k).kind=3/\¬(nd Z.ns k).kind=2
 ·obtain⟨k,h1,h2,h3,h4⟩:=h9
  have hk:k<Z.ns.length:=by
   grind [nV]
  refine bN.agQ (pre':=[.abs (aK 102 10 A1 Z.ns.length c1 (bP K Z.ns)),.abs (aK 3 1 G1 Z.aJ.length g1 (bG Z.aJ)),.abs (mG Z.ns K k)]++[.abs (kY (pW (mG Z.ns K) k eG.none) Z.ns.length)]) (bN.UY λoL hL=>?_) (λA w hS=>?_)
  ·have hd2:∀i,i<Z.ns.length->i≠k->ck oL (K.dA i) (nd Z.ns i).data:=by
    obtain⟨F,q1,q2⟩:=hL.get 0 rfl
    refine kY.base q1 q2 rfl (Φ:=λi b=>i≠k->ck b (K.dA i) (nd Z.ns i).data) (λi _ F hF hO cG=>?_)
    have hF:(HP.abs (mG Z.ns K i)).h F oL.w0:=by
     have e:pW (mG Z.ns K) k eG.none i=mG Z.ns K i:=nw cG
     rw [e] at hF;exact hF
    exact cE.iD (show (HP.abs (aK 5 1 (K.dA i) (nd Z.ns i).data.length (K.dC i) (ez (nd Z.ns i).data))).h F _ from hF) hO rfl
   have hI:CM oL Z K Y.H Y.V k:=⟨hd2,λi hi=>(hE i hi).le hL.le,(hR.h.le dV).le hL.le,(hR.v.le dV).le hL.le⟩
   refine (aaL Z ⟨A1,c1,K,G1,g1,Y.H,Y.ch,Y.V,Y.cv⟩ k hI hC hk af hroot d hd name a fq tS h1 h2 h3 h4).mono ?_
   grind
  have:=hS.acB (i:=2) (k:=k) rfl hk
  exact this.pick (ay:=[0,1,4,2,3]) rfl rfl
 refine bN.UY (pre:=[.abs (aK 102 10 A1 Z.ns.length c1 (bP K Z.ns)),.abs (aK 3 1 G1 Z.aJ.length g1 (bG Z.aJ))]) (R:=[Lb Z K]) λoL hL=>?_
 have hI:mO oL Z K Y.H Y.V:=by
  obtain⟨F,q1,q2⟩:=hL.get 0 rfl
  exact⟨aer q1 q2 rfl,λi hi=>(hE i hi).le hL.le,(hR.h.le dV).le hL.le,(hR.v.le dV).le hL.le⟩
 refine (aaK Z ⟨A1,c1,K,G1,g1,Y.H,Y.ch,Y.V,Y.cv⟩ hI hC hD af hroot d hd name a fq tS XU (λh1 k h2=>ahY (λh3=>h9 ⟨k,h1,h2,λe=>h3 (.inl e),λe=>h3 (.inr e)⟩))).mono ?_
 grind
theorem Ng {r:Int} (h:a.op<1\/a.op>7):l6 Z r a=(Z,230):=t8 h
theorem acd {r:Int} (h:¬(a.op<1\/a.op>7)) (h1:¬0<=gF Z.ns r):l6 Z r a=(Z,141):=by unfold l6;rw [nw h,nw h1]
theorem SX {r:Int} (h:¬(a.op<1\/a.op>7)) (h1:0<=gF Z.ns r) (h2:¬(nd Z.ns (bV Z.ns r)).kind=2):l6 Z r a=(Z,173):=by unfold l6;rw [nw h,t8 h1,nw h2]
theorem X3 {r e:Int} (h:¬(a.op<1\/a.op>7)) (h1:0<=gF Z.ns r) (h2:(nd Z.ns (bV Z.ns r)).kind=2) (hw:mI Z (bV Z.ns r) a.path=.error e):l6 Z r a=(Z,e):=by unfold l6;rw [nw h,t8 h1,t8 h2,hw]
theorem ace {r:Int} (h:¬(a.op<1\/a.op>7)) (h1:0<=gF Z.ns r) (h2:(nd Z.ns (bV Z.ns r)).kind=2) (hw:mI Z (bV Z.ns r) a.path=.ok (d,name)) (h3:¬(fH Z (bV Z.ns r) d name a).2=0):l6 Z r a=(Z,(fH Z (bV Z.ns r) d name a).2):=by
 grind [l6]
theorem acf {r:Int} (h:¬(a.op<1\/a.op>7)) (h1:0<=gF Z.ns r) (h2:(nd Z.ns (bV Z.ns r)).kind=2) (hw:mI Z (bV Z.ns r) a.path=.ok (d,name)) (h3:(fH Z (bV Z.ns r) d name a).2=0):l6 Z r a=((fH Z (bV Z.ns r) d name a).1,0):=by
 grind [l6]
end s
end
section
open Go.RowKit Go.Maps bw aI
attribute [local irreducible] aE bH ax aF eu lK
theorem adg {β:Bs} (Z:RS) (Y:RL) (hR:dP β Z Y) (hC:RC Z) (hD:RD 0 Z) (af:Int) (a:cM) (hpa:a.path.size<=1048576) (fq:a.to.size<=1048576) (tS:a.text.size<=1048576) (XU:0<=gF Z.ns af->(nd Z.ns (bV Z.ns af)).kind=2->∀d name,mI Z (bV Z.ns af) a.path=.ok (d,name)->a.op=1->(cI Z d name nF).2=0->RC (ko Z d name nF)) :
 bN Tryz.prog β 58 #[.agg ⟨rV Z Y⟩,vI (af),.agg #[vI (a.at_),vI (a.op),.string a.path,.string a.to,.string a.text]] [] (λβ' v l=>∃Y',v=.tuple #[.agg ⟨rV ((l6 Z af a).1) Y'⟩,vI (l6 Z af a).2]/\l=[]/\dP β' (l6 Z af a).1 Y'):=by
 refine mK Tryz.func58 Tryz.ntmps58 (λaH R=>SR (jB 1 [3] (λb1=>.aD b1 (rV Z Y) 45) (λb1=>jB 1 [5] (λb2=>.aD b2 [vI (a.at_),vI (a.op),.string a.path,.string a.to,.string a.text] 133) (λb2=>jB 2 [6] (λb3=>.aD b3 (rZ) 45) (λb3=>NZ (jK 4 [16] [(1,a_ 2 b2)] (sP 16 ((a.op:Int)<(1:Int)) (λpz=>jK 4 [20] [] (NT (SR (jC 3 [7] [(0,A_ 1 b1 12),(1,A_ 3 b3 12)] [(3,(zC (rV Z Y)))] (eO [A_ 3 b3 12] aH ⟨Y,by rw [Ng d5]<;>rfl,rfl,by rw [Ng d5];exact hR⟩))))) (λpz=>jK 4 [20] [(1,a_ 2 b2)] (NN (cP ((a.op:Int)>(7:Int)) (λlX=>SR (jC 3 [7] [(0,A_ 1 b1 12),(1,A_ 3 b3 12)] [(3,(zC (rV Z Y)))] (eO [A_ 3 b3 12] aH ⟨Y,by rw [Ng d5]<;>rfl,rfl,by rw [Ng d5];exact hR⟩))) (λlX=>KX (SR (jK 3 [23,24] [(1,a_ 1 b1)] ?_)))))))))))))
 by_cases h1:0<=gF Z.ns af
 ·have hk1:=(mR h1).1
  refine gE [] ((yO Y.A Y.c Z.ns Y.L hR.n hC.fP (by have:=hC.ns;omega) af).val (zc (Value.int .i64) (mR h1).2.2)) (jK 1 [8] [] (NZ (jK 2 [27] [(1,wF (((((bV Z.ns af):Nat):Int):Int)<(0:Int)))] (NF (KX (SQ (jK 8 [36] [(2,a_ 1 b1),(4,x_ (bV Z.ns af) Z.ns.length (aO.hd hR.n (i:=(bV Z.ns af)) d5)),(6,r_ (aO.rd hR.n (i:=(bV Z.ns af)) d5 (j:=1) rfl))] (NN (cN (((nd Z.ns (bV Z.ns af)).kind:Int)=(2:Int)) (λDY=>SR (jC 3 [7] [(0,A_ 1 b1 12),(1,A_ 3 b3 12)] [(3,(zC (rV Z Y)))] (eO [A_ 3 b3 12] aH ⟨Y,by rw [SX d5 h1 DY]<;>rfl,rfl,by rw [SX d5 h1 DY];exact hR⟩))) (λDY=>KX (SR (jK 4 [39,40,42] [(0,A_ 1 b1 12),(3,a_ 2 b2)] ?_))))))))))))
  rcases hw:mI Z (bV Z.ns af) a.path with e|⟨d,name⟩
  ·have he:=P5 hw
   exact gE [] ((Gi Z Y hR hC (bV Z.ns af) hk1 a.path hpa).val (zc AA hw)) (jK 7 [9,10,11] [] (NZ (jK 2 [48] [] (NN (cN ((e:Int)=(0:Int)) (λh48=>SR (jC 4 [7] [(0,A_ 1 b1 12),(2,A_ 3 b3 12)] [(3,(zC (rV Z Y)))] (eO [A_ 3 b3 12] aH ⟨Y,by rw [X3 d5 h1 DY hw]<;>rfl,rfl,by rw [X3 d5 h1 DY hw];exact hR⟩))) (λh48=>KB (by simpa using h48) he))))))
  have hd:=SM hk1 hw
  refine gE [] ((Gi Z Y hR hC (bV Z.ns af) hk1 a.path hpa).val (zc AA hw)) (jK 7 [9,10,11] [] (NZ (jK 2 [48] [] (NF (KX (ax.seq (ax.o7 (S:=[.aD b1 (rV Z Y) 45,.aD b2 [vI (a.at_),vI (a.op),.string a.path,.string a.to,.string a.text] 133]) (uR [0,2,3,4,5] (oJ 10 [(false,11),(false,12)] [(false,1),(false,6),(true,7),(true,8),(true,9)])) [1,2] (gT (oJ 10 [(false,11),(false,12)] [(false,1),(false,6),(true,7),(true,8),(true,9)]) [(3,vP b1),(6,vP b3),(52,.agg ⟨rV Z Y⟩),(54,vI ↑(bV Z.ns af)),(55,vI ↑d),(56,.string name),(57,.agg #[vI (a.at_),vI (a.op),.string a.path,.string a.to,.string a.text])] [0,2,3,4,5] [(0,A_ 0 b1 12),(4,A_ 1 b2 5)] (lK.one (j:=10) (dj:=12) (R:=λf_ l_=>∃A2:Option Addr,∃c2:Nat,∃K:fk,∃G2:Option Addr,∃g2:Nat,∃Y2:RL,f_=[(60,vI ((fH Z (bV Z.ns af) d name a).2)),(59,.agg ⟨rV ((fH Z (bV Z.ns af) d name a).1) Y2⟩),(51,.tuple #[.agg ⟨rV ((fH Z (bV Z.ns af) d name a).1) Y2⟩,vI ((fH Z (bV Z.ns af) d name a).2)]),(58,.tuple #[.agg ⟨rV ((fH Z (bV Z.ns af) d name a).1) Y2⟩,vI ((fH Z (bV Z.ns af) d name a).2)]),(53,.agg ⟨rW Z A2 c2 G2 g2 Y.H Y.ch Y.V Y.cv⟩),(3,vP b1),(6,vP b3),(52,.agg ⟨rV Z Y⟩),(54,vI ↑(bV Z.ns af)),(55,vI ↑d),(56,.string name),(57,.agg #[vI (a.at_),vI (a.op),.string a.path,.string a.to,.string a.text])]/\l_=[.abs (jl β (λβ'=>dP β' (fH Z (bV Z.ns af) d name a).1 Y2))]) [1,2] [(false,1,53),(false,6,58),(true,7,51),(true,8,59),(true,9,60)] (gJ.of (ι:=Nat) (v:=λ(b4:Nat)=>vP b4) (l:=λ(b4:Nat)=>[.aD b4 (rZ) 45]) [53,58,51,59,60] rfl rfl rfl rfl ?_) ?_ ?_)))))))))
  ·intro u Aq
   exact jB 1 [12] (λb4=>.aD b4 (rZ) 45) (λb4=>NL (MD b4 [12,53,58,51,59,60,3,6,52,54,55,56,57] [1,0]))
  ·refine dO.step (gJ.of (ι:=(Option Addr)×Nat×fk×(Option Addr)×Nat) (v:=λ((A2,c2,K,G2,g2):(Option Addr)×Nat×fk×(Option Addr)×Nat)=>.agg ⟨rW Z A2 c2 G2 g2 Y.H Y.ch Y.V Y.cv⟩) (l:=λ((A2,c2,K,G2,g2):(Option Addr)×Nat×fk×(Option Addr)×Nat)=>[.abs (jl β (CP Z K)),.abs (aK 102 10 A2 Z.ns.length c2 (bP K Z.ns)),.abs (aK 3 1 G2 Z.aJ.length g2 (bG Z.aJ)),.abs (kY (mG Z.ns K) Z.ns.length)]) [12] rfl rfl rfl rfl ?_) ?_
   ·intro u Aq
    refine gL [] (G3 hR hC.toRB) ?_
    rintro _ _ ⟨A2,c2,K,G2,g2,rfl,rfl⟩
    exact NL (MD (A2,c2,K,G2,g2) [53,12,3,6,52,54,55,56,57] [0,1,2,3,4])
   rintro _ _ ⟨⟨A2,c2,K,G2,g2⟩,rfl,rfl⟩
   refine (dO.step (gJ.of (ι:=RL) (v:=λ(Y2:RL)=>.tuple #[.agg ⟨rV ((fH Z (bV Z.ns af) d name a).1) Y2⟩,vI ((fH Z (bV Z.ns af) d name a).2)]) (l:=λ(Y2:RL)=>[.abs (jl β (λβ'=>dP β' (fH Z (bV Z.ns af) d name a).1 Y2))]) [12] rfl rfl rfl rfl ?_) ?_)
   ·intro u Aq
    exact gX [0,1,2,3] (aaM (A1:=A2) (c1:=c2) (K:=K) (G1:=G2) (g1:=g2) hR hC hD hk1 hd fq tS (XU h1 DY d name hw)) (λY2=>NL (MD Y2 [58,12,53,3,6,52,54,55,56,57] [0,1]))
   rintro _ _ ⟨Y2,rfl,rfl⟩
   exact (dO.read (.tuple #[.agg ⟨rV ((fH Z (bV Z.ns af) d name a).1) Y2⟩,vI ((fH Z (bV Z.ns af) d name a).2)]) (dO.read (.agg ⟨rV ((fH Z (bV Z.ns af) d name a).1) Y2⟩) (dO.read (.int .i64 ((fH Z (bV Z.ns af) d name a).2)) ⟨A2,c2,K,G2,g2,Y2,rfl,rfl⟩)))
  rintro _ _ ⟨A2,c2,K,G2,g2,Y2,rfl,rfl⟩ _ _ ⟨b4,rfl,rfl⟩
  refine kC [3,4] [] [(0,A_ 1 b4 12)] [(1,(zC (rV ((fH Z (bV Z.ns af) d name a).1) Y2)))] (eu.last d6 (jK 1 [11] [] (NL (aF.np (NX (SQ (aE.sI 0 [1,2,3,4,5] (fY:=[.aD b4 (rV ((fH Z (bV Z.ns af) d name a).1) Y2) 45,.abs R,.aD b1 (rV Z Y) 45,.aD b2 [vI (a.at_),vI (a.op),.string a.path,.string a.to,.string a.text] 133,.aD b3 (rZ) 45]) rfl rfl d6 (λE7 iP CQ=>?_))))))))
  replace hR:=hR.le iP
  replace aH:=aH.trans iP
  exact jK 2 [62] [] (NN (cN (((fH Z (bV Z.ns af) d name a).2:Int)=(0:Int)) (λDW=>SR (jC 4 [7] [(0,A_ 2 b1 12),(2,A_ 4 b3 12)] [(4,(zC (rV Z Y)))] (eO [A_ 4 b3 12] aH ⟨Y,by rw [ace d5 h1 DY hw DW]<;>rfl,rfl,by rw [ace d5 h1 DY hw DW];exact hR⟩ [1]))) (λDW=>KX (SR (jC 3 [7] [(0,A_ 0 b4 12),(1,A_ 4 b3 12)] [(4,(zC (rV ((fH Z (bV Z.ns af) d name a).1) Y2)))] (eO [A_ 4 b3 12] aH ⟨Y2,by rw [acf d5 h1 DY hw DW]<;>rfl,rfl,by rw [acf d5 h1 DY hw DW];exact CQ⟩ [1]))))))
 exact gE [] ((yO Y.A Y.c Z.ns Y.L hR.n hC.fP (by have:=hC.ns;omega) af).val (zc (Value.int .i64) (Cv h1))) (jK 1 [8] [] (NZ (jK 2 [27] [] (NT (SR (jC 3 [7] [(0,A_ 1 b1 12),(1,A_ 3 b3 12)] [(3,(zC (rV Z Y)))] (eO [A_ 3 b3 12] aH ⟨Y,by rw [acd d5 h1]<;>rfl,rfl,by rw [acd d5 h1];exact hR⟩)))))))
end
section
open Go.RowKit Go.Maps bw aI
attribute [local irreducible] aE bH ax aF eu ct lK
noncomputable abbrev zX1 (b4:Nat):=(.aD b4 [vI 0,vI 0,vI 0,.string ⟨#[]⟩,.string ⟨#[]⟩,.slice none (0) (0),vI 0,vI 0,vI 0,vI 0,vI 0,vI 0,vI 0] 63:HP)
noncomputable abbrev zX2 (R:eG) (b1:Nat) (Z) (Y:RL) (b2:Nat) (c:aN) (b3:Nat) (b4:Nat) (b5:Nat) (B1) (p1):=([.abs R,.aD b1 (rV Z Y) 45,.aD b2 (bA c) 63,.aD b3 (rZ) 45,zX1 b4,.aD b5 (bA (iJ {c with answer:=0} B1 p1)) 63]:List HP)
theorem aaN {β:Bs} (Z:RS) (Y:RL) (hR:dP β Z Y) (hC:RC Z) (hD:RD 0 Z) (c:aN) (yK:mV c.op) (hn:c.name.size<=1048576) (hb:ck β c.dA c.data) (hl:c.data.length<=140737488355328) (_:c.data.length<=c.dC) :
 bN Tryz.prog β 34 #[.agg ⟨rV Z Y⟩,.agg ⟨bA c⟩] [] (λβ' v l=>∃Y' B p,v=.tuple #[.agg ⟨rV ((tX Z c).1) Y'⟩,.agg ⟨bA (iJ (tX Z c).2 B p)⟩]/\l=[]/\dP β' (tX Z c).1 Y'/\ck β' B c.data):=by
 refine mK Tryz.func34 Tryz.ntmps34 (λaH R=>SR (jB 1 [2] (λb1=>.aD b1 (rV Z Y) 45) (λb1=>jB 1 [3] (λb2=>.aD b2 (bA c) 63) (λb2=>jB 1 [4] (λb3=>.aD b3 (rZ) 45) (λb3=>jB 1 [5] (λb4=>.aD b4 [vI 0,vI 0,vI 0,.string ⟨#[]⟩,.string ⟨#[]⟩,.slice none (0) (0),vI 0,vI 0,vI 0,vI 0,vI 0,vI 0,vI 0] 63) (λb4=>NS (jN 3 [6] (λb5=>[(0,A_ 2 b2 13),(2,A_ 5 b5 13)]) (λ_=>[]) (λb5=>.aD b5 (bA c) 63) (λb5=>NS (jK 2 [12] [(1,a_ 2 b2)] (gL [] (tY c.dA c.dC c.data hb hl) ?_))))))))))
 rintro _ _ ⟨B1,p1,rfl,rfl⟩
 refine jC 2 [] [(1,a_ 6 b5)] [(6,[(5,.slice B1 (c.data.length) (p1))])] (NS (aE.mA (Φ:=λβ'=>ck β' B1 c.data) 0 [1,2,3,4,5,6] (fY:=[.abs R,.aD b1 (rV Z Y) 45,.aD b2 (bA c) 63,.aD b3 (rZ) 45,zX1 b4,.aD b5 (bA (iJ c B1 p1)) 63]) rfl rfl d6 (λF w h β' h1 h2=>cE.iD h h1 h2) (λβ1 cV G4=>?_)))
 replace hR:=hR.le cV
 replace hb:=hb.le cV
 replace aH:=aH.trans cV
 refine jC 2 [] [(1,a_ 5 b5)] [(5,[(12,vI 0)])] (NN (ax.seq (ax.seq ?_)))
 have cA:¬(c.op=11\/c.op=12):=by unfold mV at yK;omega
 refine ax.region (jK 8 [23] [(1,a_ 2 b2),(2,wF ((c.op:Int)=(11:Int))),(5,a_ 2 b2),(6,wF ((c.op:Int)=(12:Int)))] (NF (KX (ax.seq (ax.o7 (S:=[.aD b1 (rV Z Y) 45,.aD b2 (bA c) 63]) (uR [0,2] (oJ 8 [(false,9),(false,10),(false,11)] [(false,1),(false,3),(true,4),(true,5),(true,6),(true,7)])) [1,2] (gT (oJ 8 [(false,9),(false,10),(false,11)] [(false,1),(false,3),(true,4),(true,5),(true,6),(true,7)]) [(2,vP b1),(4,vP b3),(5,vP b4),(6,vP b5),(30,.agg ⟨rV Z Y⟩),(32,.agg ⟨bA c⟩)] [0,2] [(0,A_ 0 b1 12),(1,A_ 1 b2 13)] (lK.one (j:=8) (dj:=7) (R:=λf_ l_=>∃A2:Option Addr,∃c2:Nat,∃K:fk,∃G2:Option Addr,∃g2:Nat,∃Y2:RL,f_=[(36,vI ((dH Z c).2.2)),(35,vI ((dH Z c).2.1)),(34,.agg ⟨rV ((dH Z c).1) Y2⟩),(29,.tuple #[.agg ⟨rV ((dH Z c).1) Y2⟩,vI ((dH Z c).2.1),vI ((dH Z c).2.2)]),(33,.tuple #[.agg ⟨rV ((dH Z c).1) Y2⟩,vI ((dH Z c).2.1),vI ((dH Z c).2.2)]),(31,.agg ⟨rW Z A2 c2 G2 g2 Y.H Y.ch Y.V Y.cv⟩),(2,vP b1),(4,vP b3),(5,vP b4),(6,vP b5),(30,.agg ⟨rV Z Y⟩),(32,.agg ⟨bA c⟩)]/\l_=[.abs (jl β1 (λβ'=>dP β' (dH Z c).1 Y2))]) [1,2] [(false,1,31),(false,3,33),(true,4,29),(true,5,34),(true,6,35),(true,7,36)] (gJ.of (ι:=Nat) (v:=λ(b6:Nat)=>vP b6) (l:=λ(b6:Nat)=>[.aD b6 (rZ) 45]) [31,33,29,34,35,36] rfl rfl rfl rfl ?_) ?_ ?_)))))))
 ·intro u Aq
  exact jB 1 [7] (λb6=>.aD b6 (rZ) 45) (λb6=>NL (MD b6 [7,31,33,29,34,35,36,2,4,5,6,30,32] [1,0]))
 ·refine dO.step (gJ.of (ι:=(Option Addr)×Nat×fk×(Option Addr)×Nat) (v:=λ((A2,c2,K,G2,g2):(Option Addr)×Nat×fk×(Option Addr)×Nat)=>.agg ⟨rW Z A2 c2 G2 g2 Y.H Y.ch Y.V Y.cv⟩) (l:=λ((A2,c2,K,G2,g2):(Option Addr)×Nat×fk×(Option Addr)×Nat)=>[.abs (jl β1 (CP Z K)),.abs (aK 102 10 A2 Z.ns.length c2 (bP K Z.ns)),.abs (aK 3 1 G2 Z.aJ.length g2 (bG Z.aJ)),.abs (kY (mG Z.ns K) Z.ns.length)]) [7] rfl rfl rfl rfl ?_) ?_
  ·intro u Aq
   refine gL [] (G3 hR hC.toRB) ?_
   rintro _ _ ⟨A2,c2,K,G2,g2,rfl,rfl⟩
   exact NL (MD (A2,c2,K,G2,g2) [31,7,2,4,5,6,30,32] [0,1,2,3,4])
  rintro _ _ ⟨⟨A2,c2,K,G2,g2⟩,rfl,rfl⟩
  refine (dO.step (gJ.of (ι:=RL) (v:=λ(Y2:RL)=>.tuple #[.agg ⟨rV ((dH Z c).1) Y2⟩,vI ((dH Z c).2.1),vI ((dH Z c).2.2)]) (l:=λ(Y2:RL)=>[.abs (jl β1 (λβ'=>dP β' (dH Z c).1 Y2))]) [7] rfl rfl rfl rfl ?_) ?_)
  ·intro u Aq
   exact gX [0,1,2,3] (X2 (A1:=A2) (c1:=c2) (K:=K) (G1:=G2) (g1:=g2) hR hC hD yK hn) (λY2=>NL (MD Y2 [33,7,31,2,4,5,6,30,32] [0,1]))
  rintro _ _ ⟨Y2,rfl,rfl⟩
  exact (dO.read (.tuple #[.agg ⟨rV ((dH Z c).1) Y2⟩,vI ((dH Z c).2.1),vI ((dH Z c).2.2)]) (dO.read (.agg ⟨rV ((dH Z c).1) Y2⟩) (dO.read (.int .i64 ((dH Z c).2.1)) (dO.read (.int .i64 ((dH Z c).2.2)) ⟨A2,c2,K,G2,g2,Y2,rfl,rfl⟩))))
 rintro _ _ ⟨A2,c2,K,G2,g2,Y2,rfl,rfl⟩ _ _ ⟨b6,rfl,rfl⟩
 refine kC [3,4] [] [(0,A_ 1 b6 12)] [(1,(zC (rV ((dH Z c).1) Y2)))] (eu.cut (ι:=Unit) (bQ:=λ(_:Unit)=>[(2,vP b1),(4,vP b3),(5,vP b4),(6,vP b5),(7,vP b6),(8,vI ((dH Z c).2.1)),(36,vI ((dH Z c).2.2))]) (dz:=λ(_:Unit)=>([.abs (jl β1 (λβ'=>dP β' (dH Z c).1 Y2)),.aD b6 (rV ((dH Z c).1) Y2) 45]++zX2 R b1 Z Y b2 c b3 b4 b5 B1 p1)) [3,4] d6 ?_ rfl (λ_=>d6) ?_)
 ·exact jK 1 [8] [] (NL (MD () [2,4,5,6,7,8,36] [0,1,2,3,4,5,6,7]))
 rintro _
 refine eu.last d6 (jK 1 [9] [] (NL (aF.np (NX (SR (aE.sI 0 [1,2,3,4,5,6,7] (fY:=([.aD b6 (rV ((dH Z c).1) Y2) 45]++zX2 R b1 Z Y b2 c b3 b4 b5 B1 p1)) rfl rfl d6 (λAy d9 CQ=>?_)))))))
 replace hR:=hR.le d9
 replace G4:=G4.le d9
 replace aH:=aH.trans d9
 exact jC 3 [] [(2,a_ 6 b5)] [(6,[(11,vI ((dH Z c).2.2))])] (NZ (jK 2 [40] [] (NN (cN (((dH Z c).2.2:Int)=(0:Int)) (λtI=>ax.seq (rM [0,1,2,3] 2 [2,6] (jR 2 [4,5,41,42] [(0,A_ 0 b1 12),(1,A_ 1 b5 13)] (nC [2,6] [] [(0,A_ 4 b3 12)] [(4,(zC (rV Z Y)))] (ct.last rfl rfl (jC 1 [] [(0,A_ 5 b4 13)] [(5,[(0,vI (c.op)),(1,vI (c.bD)),(2,vI (c.other)),(3,.string c.name),(4,.string c.text),(5,.slice B1 (c.data.length) (p1)),(6,vI (c.mode)),(7,vI (c.cO)),(8,vI (c.cQ)),(9,vI (c.bJ)),(10,vI (c.bh)),(11,vI ((dH Z c).2.2))])] (NL (aF.np (NX (ax.ret (aF.bq (rB (.tuple #[.agg ⟨rV Z Y⟩,.agg ⟨bA (iJ {c with code:=(dH Z c).2.2,answer:=0} B1 p1)⟩]) [A_ 4 b3 12,A_ 5 b4 13] [1] aH (⟨Y,B1,p1,by rw [X1 cA tI]<;>rfl,rfl,by rw [X1 cA tI];exact hR,G4⟩))))))))))))) (λtI=>KX (SR (jC 3 [] [(2,a_ 6 b5)] [(6,[(12,vI ((dH Z c).2.1))])] (NN (ax.seq (rM [0,1,2,3] 2 [0,6] (jR 2 [4,5,45,46] [(0,A_ 0 b6 12),(1,A_ 1 b5 13)] (nC [0,6] [] [(0,A_ 4 b3 12)] [(4,(zC (rV ((dH Z c).1) Y2)))] (ct.last rfl rfl (jC 1 [] [(0,A_ 5 b4 13)] [(5,(zC (bA (iJ {c with code:=(dH Z c).2.2,answer:=(dH Z c).2.1} B1 p1))))] (NL (aF.np (NX (ax.ret (rB (.tuple #[.agg ⟨rV ((dH Z c).1) Y2⟩,.agg ⟨bA (iJ {c with code:=(dH Z c).2.2,answer:=(dH Z c).2.1} B1 p1)⟩]) [A_ 4 b3 12,A_ 5 b4 13] [1] aH (⟨Y2,B1,p1,by rw [XZ cA tI,tI]<;>rfl,rfl,by rw [XZ cA tI];exact CQ,G4⟩))))))))))))))))))))
end
section
open Go.RowKit Go.Maps bw aI
section g
variable {R:RS} {d k to f:Nat} {name aG:ByteArray} {n:aP} {c:aN} {b:Bool} {id:Int}
def GL (R:RS):Prop:=R.aJ.length<=4096
theorem Iw (h:R.ns.length<=4096):GL (gu R):=by
 grind [GL,gu]
theorem JZ:(cY R d name b).ns.length=R.ns.length:=T7 ..
theorem UZ:(dX R d name id).ns.length=R.ns.length:=T7 ..
theorem Lc (h:GL R):GL (l5 R k).1:=by unfold l5;split<;>exact h
theorem SY {bs:List UInt8} (h:GL R):GL (kX R k bs).1:=by unfold kX;(repeat' split)<;>exact h
theorem P9 (h:GL R):GL (cI R d name n).1:=by unfold cI;(repeat' split)<;>exact h
theorem Qa (h:GL R) (hn:R.ns.length<=4096):GL (jP R d name b).1:=by
 grind [jP,Iw,JZ]
theorem Qb (h:GL R) (hn:R.ns.length<=4096):GL (jS R f name to aG).1:=by
 grind [jS,Iw,UZ,JZ]
theorem Qc {w:Int} (h:GL R):GL (kV R c w).1:=by
 grind [kV,Lc]
theorem X4 (h:GL R) (hn:R.ns.length<=4096):GL (nj R c d).1:=by
 grind [nj,Qa,P9,Lc]
theorem aaO (h:GL R) (hn:R.ns.length<=4096):GL (dH R c).1:=by
 unfold dH
 split
 ·grind [Lc]
 split
 ·exact Qc h
 split
 ·exact Qc h
 split
 ·split
  ·exact h
  exact X4 h hn
 split
 ·unfold abS
  (repeat' split)<;>exact h
 grind [SY,abR,Iw,Qb,GL,dH]
theorem adh (h:GL R) (hn:R.ns.length<=4096):GL (tX R c).1:=by
 grind [tX,aaO,GL]
end g
section b
variable {S:bg} {g:List Int}
theorem acg (hr:RelR S g) (hg:g.length<=4096):RC (toR S g):=by
 have hI:=hr.inv.toInv0
 have jT:(toR S g).ns.length=S.ay.length:=iF
 have qU:(toR S g).us.length=S.us.length:=CO
 have hk:aY (toR S g).us=aY S.us:=Io
 have h1:=hI.len
 have h2:=hI.Ez
 have h3:=hI.cH
 have h4:=hI.cN
 have h5:=hI.cB
 have h6:=hI.last
 have h7:=hI.aL
 refine⟨⟨d5,by show g.length<=8200;omega,d5,?_,?_⟩,PF hI.ix,λid hid=>?_,λi hi=>?_,⟨h4.1,h4.2,h5.1,h5.2,h3.1,h3.2,h6.1,h6.2,h7.1,h7.2⟩,by rw [hk];exact hI.usr,λz hz=>(hI.wj z (by rw [←hk];exact hz)).1,by rw [qU];exact h2⟩
 ·have h8:=PU (g:=g) hI
  have h9:=hI.total.2
  omega
 ·have h8:=PL (g:=g) hI
  have h9:=hI.used.2
  omega
 ·have hid:id∈(tQ S.us).map Prod.snd:=hid
  obtain⟨p,hp,rfl⟩:=ahN.1 hid
  obtain⟨q,hq,rfl⟩:=ahN.1 hp
  have hl:=(hr.inv.us q.1 q.2 (ox hI.usr hq)).1
  show 0<=gF (aV S) (q.2.k:Int)
  rw [(nP hI.ix hl).2.2.2.2.1];omega
 rw [jT] at hi
 rw [show nd (toR S g).ns i=jV S.O (gV S i) (jv S i) from qt hi]
 exact (hI.ob _ (Gg hI.ix hi).1).2.2
end b
theorem MG {X:FM} {ns:List aP} {S:bg} (h:kR X ns ns.length 0 S) (hok:cD ns):RelR S []/\toR S []=⟨ns,[],[],0,X.cN,X.cB,X.cH,X.cS,X.cZ,qI ns ns.length⟩:=by
 refine⟨⟨h.full,⟨λt ht=>?_,λz hz=>by cases hz⟩⟩,?_⟩
 ·obtain⟨a,ha,e⟩:=h.of ht
  obtain⟨l,u,h1⟩:=h.ob a ha
  have hk:t.k=jZ (nd ns a):=by rw [e];rfl
  rw [hk,h1]
  exact Iff.intro (λq=>KB q (List.not_mem_nil)) (λq=>KB (show false=true from q) d8)
 unfold toR
 rw [h.graph hok,h.us,h.aL,h.cap];rfl
end
section
open Go.RowKit Go.Maps bw aI
attribute [local irreducible] aE bH ax aF ct
theorem BP {β:Bs} (S:bg) (L:HL) (f m t:Nat) (hI:bC S) (cb:Nat) (c:aN) (hC:qN β c) :
 aW Tryz.prog β 216 #[vP f,vP cb] ((pA f m t L S)++[.aD cb (bA c) 63]) (λv l=>v=agu L (jO S.O S.us c)/\l=((pA f m t L S)++[.aD cb (bA c) 63])):=by
 refine SE Tryz.func216 Tryz.ntmps216 (λR=>SR (jK 2 [] [] (NN (ax.seq (rQ (jQ 9 [10,14,18] [(4,a_ 6 cb),(8,a_ 6 cb)] ?_))))))
 rcases Cx hI.toInv0 c.bD c.name 64 with ⟨e,gA,cG⟩|⟨d,gA,hd,nG,hgn,qU⟩
 ·exact zy [0,2,3] [0,3,1,2,4,5,6,7] (.tuple #[.pointer none,vI (e)]) ((by have h:=Bv S L f m t hI c.bD hC.hw c.name hC.nm 64 (β:=β);rw [gA] at h;exact h)) (jQ 5 [6,7] [] (NQ (NX (SQ (jK 2 [23] [] (NN (cN ((e:Int)=(0:Int)) (λh23=>zR (v:=(.tuple #[.nilIface,vI (e)])) ⟨by rw [show jO S.O S.us c=.error e by unfold jO;rw [gA]];rfl,rfl⟩) (λh23=>KB h23 cG))))))))
 have eH:(ah S.O d).kind=2:=hI.kind hd
 refine zy [0,2,3] [0,3,1,2,4,5,6,7] (.tuple #[vP (L.b d),vI 0]) ((by have h:=Bv S L f m t hI c.bD hC.hw c.name hC.nm 64 (β:=β);rw [gA] at h;exact h)) (jQ 5 [6,7] [] (NQ (NX (SQ (jK 2 [23] [] (NF (KX (ax.seq ?_))))))))
 have hel:(ah S.O d).aq.length<=8192:=hI.mq hd
 have ahp:=hC.nm
 rcases hI.vC hd c.name with fA|⟨tk,fA,cW⟩|⟨tk,fA,cW⟩|⟨tk,fA,cW⟩
 ·exact rQ (jQ 8 [28,32] [(3,v_ 3 (eF L eH)),(7,a_ 6 cb)] (eLq 5 eH fA (jQ 1 [8] [] (NQ (NX (SQ (jK 2 [35] [] (NT (zR (v:=(.tuple #[.nilIface,vI 170])) ⟨by rw [show jO S.O S.us c=.error 170 by grind [jO]];rfl,rfl⟩)))))))))
 ·have bZ:(ah S.O tk).kind=1:=hI.kind cW
  exact rQ (jQ 8 [28,32] [(3,v_ 3 (eF L eH)),(7,a_ 6 cb)] (eLq 5 eH fA (jQ 1 [8] [] (NQ (NX (SQ (jK 2 [35] [] (NF (KX (zR (v:=(.tuple #[.iface 184 (vP (L.b tk)),vI 0])) ⟨by rw [show jO S.O S.us c=.ok ⟨tk,1⟩ by unfold jO;rw [gA];simp only;rw [fA]];rfl,rfl⟩))))))))))
 ·have bZ:(ah S.O tk).kind=2:=hI.kind cW
  exact rQ (jQ 8 [28,32] [(3,v_ 3 (eF L eH)),(7,a_ 6 cb)] (eLq 5 eH fA (jQ 1 [8] [] (NQ (NX (SQ (jK 2 [35] [] (NF (KX (zR (v:=(.tuple #[.iface 190 (vP (L.b tk)),vI 0])) ⟨by rw [show jO S.O S.us c=.ok ⟨tk,2⟩ by unfold jO;rw [gA];simp only;rw [fA]];rfl,rfl⟩))))))))))
 have bZ:(ah S.O tk).kind=3:=hI.kind cW
 exact rQ (jQ 8 [28,32] [(3,v_ 3 (eF L eH)),(7,a_ 6 cb)] (eLq 5 eH fA (jQ 1 [8] [] (NQ (NX (SQ (jK 2 [35] [] (NF (KX (zR (v:=(.tuple #[.iface 187 (vP (L.b tk)),vI 0])) ⟨by rw [show jO S.O S.us c=.ok ⟨tk,3⟩ by unfold jO;rw [gA];simp only;rw [fA]];rfl,rfl⟩))))))))))
theorem U0 {β:Bs} (S:bg) (L:HL) (f m t:Nat) (hI:bC S) (cb:Nat) (c:aN) (hC:qN β c) :
 aW Tryz.prog β 200 #[vP f,vP cb] ((pA f m t L S)++[.aD cb (bA c) 63]) (λv l=>∃L2,v=vI (kI S c).1/\l=((pA f m t L2 ((kI S c).2.1))++[.aD cb (bA ((kI S c).2.2)) 63])):=by
 have hX:=hI.hX
 refine SE Tryz.func200 Tryz.ntmps200 (λR=>SR (jK 1 [] [] (NN (ax.seq ?_))))
 rcases hI.adX c.other with fO|⟨tk,fO,cW⟩|⟨tk,fO,cW⟩|⟨tk,fO,cW⟩
 ·exact rQ (jQ 8 [10,14] [(3,a_ 0 f),(7,a_ 6 cb)] (bH.ji 1 (d:=(some 15)) (t:=170) (K:=3) (E:=175) (b:=m) (n:=S.ay.length) (f:=(dg (dM L S.ay))) (x:=(.tmp 10)) (ix:=(.tmp 14)) (key:=vI (c.other)) (z:=.nilIface) (kl:=(.int .i64 c.other)) (r:=none) (λ_=>d6) d6 (λ_=>d6) (λ_=>d6) ja Tryz.underlying170 (λ_=>d6) (mo hC.ow) (by rw [kx,fO];rfl) (jQ 1 [5] [] (NQ (NX (SQ (jK 2 [17] [] (NT (zR ⟨L,by rw [show (kI S c)=(141,S,c) by unfold kI;rw [fO]]<;>exact⟨rfl,rfl⟩⟩)))))))))
 ·have bZ:(ah S.O tk).kind=1:=hI.kind cW
  exact rQ (jQ 8 [10,14] [(3,a_ 0 f),(7,a_ 6 cb)] (bH.ji 1 (d:=(some 15)) (t:=170) (K:=3) (E:=175) (b:=m) (n:=S.ay.length) (f:=(dg (dM L S.ay))) (x:=(.tmp 10)) (ix:=(.tmp 14)) (key:=vI (c.other)) (z:=.nilIface) (kl:=(.int .i64 c.other)) (r:=(some (jg L ⟨tk,1⟩))) (λ_=>d6) d6 (λ_=>d6) (λ_=>d6) ja Tryz.underlying170 (λ_=>d6) (mo hC.ow) (by rw [kx,fO];rfl) (jQ 1 [5] [] (NQ (NX (SQ (jK 2 [17] [] (NF (KX (SQ (jK 1 [18] [] (gE [] (zV (vP (L.b tk))) (jK 1 [20] [] (NT (zR ⟨L,by rw [show (kI S c)=(173,S,c) by grind [kI]]<;>exact⟨rfl,rfl⟩⟩)))))))))))))))
 ·have bZ:(ah S.O tk).kind=2:=hI.kind cW
  exact rQ (jQ 8 [10,14] [(3,a_ 0 f),(7,a_ 6 cb)] (bH.ji 1 (d:=(some 15)) (t:=170) (K:=3) (E:=175) (b:=m) (n:=S.ay.length) (f:=(dg (dM L S.ay))) (x:=(.tmp 10)) (ix:=(.tmp 14)) (key:=vI (c.other)) (z:=.nilIface) (kl:=(.int .i64 c.other)) (r:=(some (jg L ⟨tk,2⟩))) (λ_=>d6) d6 (λ_=>d6) (λ_=>d6) ja Tryz.underlying170 (λ_=>d6) (mo hC.ow) (by rw [kx,fO];rfl) (jQ 1 [5] [] (NQ (NX (SQ (jK 2 [17] [] (NF (KX (SQ (jK 1 [18] [] (gE [] (zW (vP (L.b tk))) (jK 1 [20] [] (NF (KX (SR (jK 1 [] [] (NS (jK 3 [22,23,24] [] (gE [0,2,3] (O6 S L f m t ⟨tk,2⟩ bZ nh (by have:=hI.Ot cW;simp only at this ⊢;omega)) (jC 7 [6] [(5,a_ 6 cb)] [(6,[(12,vI ((fB S ⟨tk,2⟩).1))])] (NS (aE.jk [(4,.abs (bp (eX ((fB S ⟨tk,2⟩).2.2.O) L))),(5,.abs (bp (ig ((fB S ⟨tk,2⟩).2.2.O) L)))] (λw hS=>by rw [OC,OD];exact hS) (jK 2 [4] [] (eN ⟨L,by rw [show (kI S c)=((fB S ⟨tk,2⟩).2.1,(fB S ⟨tk,2⟩).2.2,{c with answer:=(fB S ⟨tk,2⟩).1}) by grind [kI]]<;>exact⟨rfl,rfl⟩⟩ [0,3,1,2,4,5,6,7])))))))))))))))))))))))))
 have bZ:(ah S.O tk).kind=3:=hI.kind cW
 exact rQ (jQ 8 [10,14] [(3,a_ 0 f),(7,a_ 6 cb)] (bH.ji 1 (d:=(some 15)) (t:=170) (K:=3) (E:=175) (b:=m) (n:=S.ay.length) (f:=(dg (dM L S.ay))) (x:=(.tmp 10)) (ix:=(.tmp 14)) (key:=vI (c.other)) (z:=.nilIface) (kl:=(.int .i64 c.other)) (r:=(some (jg L ⟨tk,3⟩))) (λ_=>d6) d6 (λ_=>d6) (λ_=>d6) ja Tryz.underlying170 (λ_=>d6) (mo hC.ow) (by rw [kx,fO];rfl) (jQ 1 [5] [] (NQ (NX (SQ (jK 2 [17] [] (NF (KX (SQ (jK 1 [18] [] (gE [] (zX (vP (L.b tk))) (jK 1 [20] [] (NT (zR ⟨L,by rw [show (kI S c)=(173,S,c) by grind [kI]]<;>exact⟨rfl,rfl⟩⟩)))))))))))))))
theorem MY {β:Bs} (S:bg) (L:HL) (f m t:Nat) (hI:bC S) (cb:Nat) (c:aN) (hC:qN β c) :
 aW Tryz.prog β 201 #[vP f,vP cb] ((pA f m t L S)++[.aD cb (bA c) 63]) (λv l=>∃L2,v=vI (fZ S c).1/\l=((pA f m t L2 ((fZ S c).2.1))++[.aD cb (bA ((fZ S c).2.2)) 63])):=by
 have hX:=hI.hX
 refine SE Tryz.func201 Tryz.ntmps201 (λR=>SR (jK 1 [] [] (NS (jK 2 [8,9] [] ?_))))
 rcases Wu hI.toInv0 c with ⟨e,hnm,cG⟩|⟨tk,hnm,cW⟩|⟨tk,hnm,cW⟩|⟨tk,hnm,cW⟩
 ·exact gE [0,1,2,3,4,5,6] ((by have h:=BP S L f m t hI cb c hC (β:=β);rw [hnm] at h;exact h)) (jK 5 [5,6] [] (NZ (jK 2 [14] [] (NN (cN ((e:Int)=(0:Int)) (λmQ=>zR ⟨L,by rw [show (fZ S c)=(e,S,c) by unfold fZ;rw [hnm]]<;>exact⟨rfl,rfl⟩⟩) (λmQ=>KB mQ cG))))))
 ·have bZ:(ah S.O tk).kind=1:=hI.kind cW
  exact gE [0,1,2,3,4,5,6] ((by have h:=BP S L f m t hI cb c hC (β:=β);rw [hnm] at h;exact h)) (jK 5 [5,6] [] (NZ (jK 2 [14] [] (NF (KX (SQ (jK 1 [16] [] (NN (ax.block (SR (jK 3 [18] [] (NF (SR (jK 3 [21] [] (NT (zR ⟨L,by rw [show (fZ S c)=(173,S,c) by grind [fZ]]<;>exact⟨rfl,rfl⟩⟩))))))))))))))))
 ·have bZ:(ah S.O tk).kind=2:=hI.kind cW
  exact gE [0,1,2,3,4,5,6] ((by have h:=BP S L f m t hI cb c hC (β:=β);rw [hnm] at h;exact h)) (jK 5 [5,6] [] (NZ (jK 2 [14] [] (NF (KX (SQ (jK 1 [16] [] (NN (ax.block (SR (jK 3 [18] [] (NF (SR (jK 3 [21] [] (NF (KX (SR (jK 3 [24,25,26] [] (gE [0,2,3] (O6 S L f m t ⟨tk,2⟩ bZ nh (by have:=hI.Ot cW;simp only at this ⊢;omega)) (jC 7 [6] [(5,a_ 6 cb)] [(6,[(12,vI ((fB S ⟨tk,2⟩).1))])] (NS (aE.jk [(4,.abs (bp (eX ((fB S ⟨tk,2⟩).2.2.O) L))),(5,.abs (bp (ig ((fB S ⟨tk,2⟩).2.2.O) L)))] (λw hS=>by rw [OC,OD];exact hS) (jK 2 [4] [] (eN ⟨L,by rw [show (fZ S c)=((fB S ⟨tk,2⟩).2.1,(fB S ⟨tk,2⟩).2.2,{c with answer:=(fB S ⟨tk,2⟩).1}) by grind [fZ]]<;>exact⟨rfl,rfl⟩⟩ [0,3,1,2,4,5,6,7]))))))))))))))))))))))))
 have bZ:(ah S.O tk).kind=3:=hI.kind cW
 exact gE [0,1,2,3,4,5,6] ((by have h:=BP S L f m t hI cb c hC (β:=β);rw [hnm] at h;exact h)) (jK 5 [5,6] [] (NZ (jK 2 [14] [] (NF (KX (SQ (jK 1 [16] [] (NN (ax.block (SR (jK 3 [18] [] (NT (zR ⟨L,by rw [show (fZ S c)=(174,S,c) by grind [fZ]]<;>exact⟨rfl,rfl⟩⟩)))))))))))))
theorem Rl {β:Bs} (S:bg) (L:HL) (f m t:Nat) (hI:bC S) (cb:Nat) (c:aN) (hC:qN β c) :
 aW Tryz.prog β 203 #[vP f,vP cb] ((pA f m t L S)++[.aD cb (bA c) 63]) (λv l=>∃L2,v=vI (iH S c).1/\l=((pA f m t L2 ((iH S c).2.1))++[.aD cb (bA ((iH S c).2.2)) 63])):=by
 have hX:=hI.hX
 refine SE Tryz.func203 Tryz.ntmps203 (λR=>SR (jK 1 [] [] (NN (ax.seq (rQ (jQ 9 [8,12,16] [(4,a_ 6 cb),(8,a_ 6 cb)] ?_))))))
 rcases Cx hI.toInv0 c.bD c.name 192 with ⟨e,gA,cG⟩|⟨d,gA,hd,nG,hgn,qU⟩
 ·exact zy [0,2,3] [0,3,1,2,4,5,6,7] (.tuple #[.pointer none,vI (e)]) ((by have h:=Bv S L f m t hI c.bD hC.hw c.name hC.nm 192 (β:=β);rw [gA] at h;exact h)) (jQ 5 [5,6] [] (NQ (NX (SQ (jK 2 [21] [] (NN (cN ((e:Int)=(0:Int)) (λyE=>zR ⟨L,by rw [show (iH S c)=(e,S,c) by unfold iH;rw [gA]]<;>exact⟨rfl,rfl⟩⟩) (λyE=>KB yE cG))))))))
 have eH:(ah S.O d).kind=2:=hI.kind hd
 refine zy [0,2,3] [0,3,1,2,4,5,6,7] (.tuple #[vP (L.b d),vI 0]) ((by have h:=Bv S L f m t hI c.bD hC.hw c.name hC.nm 192 (β:=β);rw [gA] at h;exact h)) (jQ 5 [5,6] [] (NQ (NX (SQ (jK 2 [21] [] (NF (KX (SQ (jK 4 [26] [(3,a_ 6 cb)] (gE [] (yV (c.mode) 4095) (jK 1 [28] [] (NN (cN (0<=c.mode/\c.mode<=4095) (λtD=>zR ⟨L,by rw [show (iH S c)=(120,S,c) by unfold iH;rw [gA];exact nw tD]<;>exact⟨rfl,rfl⟩⟩) (λtD=>KX (ax.seq (rM (List.range 12) 10 [6] (jR 10 [29,30,34,38] [(5,a_ 0 cb),(9,a_ 0 cb)] (mL [6] [0,1,2,3,4,5] (L6 S L f m t hI d hd c.name hC.nm c.mode) ?_ (by rintro _ _ ⟨L2,rfl,rfl⟩;rfl)))))))))))))))))))
 rintro _ _ ⟨L2,rfl,rfl⟩
 exact ct.last rfl rfl (jK 1 [4] [] (NL (aF.np (NX (ax.ret (RT _ [0,1,2,3,4,5,6,7] (⟨L2,by rw [show (iH S c)=((lP S d c.name c.mode).1,(lP S d c.name c.mode).2,c) by unfold iH;rw [gA];exact t8 tD]<;>exact⟨rfl,rfl⟩⟩)))))))
end
section
open Go.RowKit Go.Maps bw aI
attribute [local irreducible] aE bH ax aF eu ct
theorem Rm {β:Bs} (S:bg) (L:HL) (f m t:Nat) (hI:bC S) (cb:Nat) (c:aN) (hC:qN β c) :
 aW Tryz.prog β 212 #[vP f,vP cb] ((pA f m t L S)++[.aD cb (bA c) 63]) (λv l=>∃L2,v=vI (jq S c).1/\l=((pA f m t L2 ((jq S c).2.1))++[.aD cb (bA ((jq S c).2.2)) 63])):=by
 have hX:=hI.hX
 refine SE Tryz.func212 Tryz.ntmps212 (λR=>ax.seq ?_)
 rcases hI.hand c.bD with qU|⟨tk,qU,cW⟩|⟨tk,qU,cW⟩
 ·refine ax.region (jK 1 [] [] (NN (ax.seq (jM [0,1,2,3,4,5,6,7,508,9,10,11,12,513] [0,6] (jG 8 [0,11,15] [(3,a_ 0 f),(7,a_ 1 cb)] (kL [1,6] [2] (QS t S.X.cH S.aL (dM L S.us) c.bD hC.hw (HY qU)) ?_ (by rintro _ _ ⟨rfl,rfl⟩;kernel_rfl)))))))
  rintro _ _ ⟨rfl,rfl⟩
  exact jG 4 [0,5,18] [] (eu.last d6 (jK 1 [6] [] (NL (aF.np (NX (SQ (jK 2 [20] [] (NT (zR (v:=(vI 131)) ⟨L,by rw [show (jq S c)=(131,S,c) by unfold jq;rw [qU]]<;>exact⟨rfl,rfl⟩⟩ [1,2,0,3,4,5,6,7])))))))))
 ·have bZ:(ah S.O tk).kind=1:=hI.kind cW
  have hid:=hI.ob _ cW
  have wR:=hI.Wl cW
  have hdl:=hI.Ou cW
  have cA:0<(ah S.O tk).aR/\(ah S.O tk).aR<=1024:=⟨by have h1:=hI.aR _ cW;have h2:=R5 qU;simp only at h1 h2;omega,(hI.Ot cW).2⟩
  refine ax.region (jK 1 [] [] (NN (ax.seq (jM [0,1,2,3,4,5,6,7,508,9,10,11,12,513] [0,6] (jG 8 [0,11,15] [(3,a_ 0 f),(7,a_ 1 cb)] (eu.cut (ι:=Unit) (bQ:=λ(_:Unit)=>[(0,vP f),(16,.tuple #[.iface 184 (vP (L.b tk)),vI 0])]) (dz:=λ(_:Unit)=>[pT t S.X.cH S.aL L (del c.bD S.us),pF f m t S.X,pI m L S.ay,pO S.O L,pD S.O L,pE S.O L,.aD cb (bA c) 63,.abs R]) [1,6] d6 ?_ rfl (λ_=>d6) ?_))))))
  ·exact gE (f:=229) (args:=#[vP t,vI (c.bD)]) (pre:=[pT t S.X.cH S.aL L S.us]) [2] ((by have h:=LM (β:=β) t S.X.cH S.aL (dM L S.us) c.bD hC.hw (jg L ⟨tk,1⟩) (Dm qU);rw [←OB] at h;exact h)) (NL (MD () [0,16] [0,1,2,3,4,5,6,7]))
  rintro _
  refine jG 4 [0,5,18] [] (eu.last d6 (jK 1 [6] [] (NL (aF.np (NX (SQ (jK 2 [20] [] (NF (KX (SR (jK 1 [22] [] (gE [] (iG (L.b tk)) (jK 6 [27,29] [(2,v_ 3 (qQ L bZ)),(3,wJ ((ah S.O tk).aR-1) ((ah S.O tk).aR-1))] (Bt 3 [(5,1),(4,2)] tk 7 (λo=>{o with aR:=o.aR-1}) bZ (λjI gM=>?_)))))))))))))))
  have qR:=ku gM bZ
  have hf2:(ah jI tk).id=(ah S.O tk).id:=fu bT.id gM rfl
  have hf3:(ah jI tk).data=(ah S.O tk).data:=fu bT.data gM rfl
  refine NS ?_
  have aaP:(ah jI tk).aR=(ah S.O tk).aR-1:=by grind [iq]
  exact jK 2 [30,31] [] (gE [3,1,2] (x5 S.X f m t hX jI L S.ay hI.fP ⟨tk,1⟩ qR nh (by rw [aaP];omega) (λ_=>by rw [hf2,hid.1];exact cW) (by rw [hf2];exact wR) (by rw [hf3];exact hdl)) (NS (jK 1 [4] [] (eN (l:=[pF f m t {S.X with used:=oU jI S.X.used ⟨tk,1⟩},pI m L (j7 jI S.ay ⟨tk,1⟩),pT t S.X.cH S.aL L (del c.bD S.us),pO jI L,pD jI L,pE jI L,.aD cb (bA c) 63]) (v:=(vI 0)) ⟨L,by subst gM;rw [show jq S c=(0,_,c) by unfold jq;rw [qU]];exact⟨rfl,rfl⟩⟩ [1,2,3,0,4,5,6,7]))))
 have bZ:(ah S.O tk).kind=2:=hI.kind cW
 have hid:=hI.ob _ cW
 have wR:=hI.Wl cW
 have hdl:=hI.Ou cW
 have cA:0<(ah S.O tk).aR/\(ah S.O tk).aR<=1024:=⟨by have h1:=hI.aR _ cW;have h2:=R5 qU;simp only at h1 h2;omega,(hI.Ot cW).2⟩
 refine ax.region (jK 1 [] [] (NN (ax.seq (jM [0,1,2,3,4,5,6,7,508,9,10,11,12,513] [0,6] (jG 8 [0,11,15] [(3,a_ 0 f),(7,a_ 1 cb)] (eu.cut (ι:=Unit) (bQ:=λ(_:Unit)=>[(0,vP f),(16,.tuple #[.iface 190 (vP (L.b tk)),vI 0])]) (dz:=λ(_:Unit)=>[pT t S.X.cH S.aL L (del c.bD S.us),pF f m t S.X,pI m L S.ay,pO S.O L,pD S.O L,pE S.O L,.aD cb (bA c) 63,.abs R]) [1,6] d6 ?_ rfl (λ_=>d6) ?_))))))
 ·exact gE (f:=229) (args:=#[vP t,vI (c.bD)]) (pre:=[pT t S.X.cH S.aL L S.us]) [2] ((by have h:=LM (β:=β) t S.X.cH S.aL (dM L S.us) c.bD hC.hw (jg L ⟨tk,2⟩) (Dm qU);rw [←OB] at h;exact h)) (NL (MD () [0,16] [0,1,2,3,4,5,6,7]))
 rintro _
 refine jG 4 [0,5,18] [] (eu.last d6 (jK 1 [6] [] (NL (aF.np (NX (SQ (jK 2 [20] [] (NF (KX (SR (jK 1 [22] [] (gE [] (iG (L.b tk)) (jK 6 [27,29] [(2,v_ 3 (qQ L bZ)),(3,wJ ((ah S.O tk).aR-1) ((ah S.O tk).aR-1))] (Bt 3 [(5,1),(4,2)] tk 7 (λo=>{o with aR:=o.aR-1}) bZ (λjI gM=>?_)))))))))))))))
 have EK:=ku gM bZ
 have WM:(ah jI tk).id=(ah S.O tk).id:=fu bT.id gM rfl
 have hf6:(ah jI tk).data=(ah S.O tk).data:=fu bT.data gM rfl
 refine NS ?_
 have aaP:(ah jI tk).aR=(ah S.O tk).aR-1:=by grind [iq]
 exact jK 2 [30,31] [] (gE [3,1,2] (x5 S.X f m t hX jI L S.ay hI.fP ⟨tk,2⟩ EK nh (by rw [aaP];omega) (λ_=>by rw [WM,hid.1];exact cW) (by rw [WM];exact wR) (by rw [hf6];exact hdl)) (NS (jK 1 [4] [] (eN (l:=[pF f m t {S.X with used:=oU jI S.X.used ⟨tk,2⟩},pI m L (j7 jI S.ay ⟨tk,2⟩),pT t S.X.cH S.aL L (del c.bD S.us),pO jI L,pD jI L,pE jI L,.aD cb (bA c) 63]) (v:=(vI 0)) ⟨L,by subst gM;rw [show jq S c=(0,_,c) by unfold jq;rw [qU]];exact⟨rfl,rfl⟩⟩ [1,2,3,0,4,5,6,7]))))
end
section
open Go.RowKit
def CR (b:Nat) (v:Value):eG where
 h F w:=∃cs T,cs[0]?=some v/\(HP.aD b cs T).h F w
 lt:=λ⟨_,_,_,h⟩=>HP.lt h
 st:=λ⟨cs,T,hv,h⟩ _ _ hk hd=>⟨cs,T,hv,HP.st h hk hd⟩
theorem CR.cell {b:Nat} {v:Value}:∀F w,(CR b v).h F w->w.cell? ⟨b,0,none⟩=some v:=by
 rintro F w ⟨cs,T,hv,h⟩
 exact (lq h.1 rfl rfl hv).1
theorem aQ.first {β:Bs} {l:List HP} {w:World} {i b:Nat} {cs:List Value} {T:TypeId} {v:Value} (h:aQ β l w) (hp:l[i]?=some (.aD b cs T)) (hv:cs[0]?=some v):aQ β [.abs (CR b v)] w:=by
 obtain⟨ho,φ,h1,h2,h3⟩:=h
 have hi:=dG hp
 refine⟨ho,λ_=>φ i,λj q hq=>?_,λj hj=>h2 i hi,λj k hj hk cG=>?_⟩
 ·have hj:=dG hq
  simp at hj
  subst hj
  simp at hq
  subst hq
  exact⟨cs,T,hv,h1 i _ hp⟩
 simp at hj hk
 omega
section mix
variable {P:Program} {β:Bs} {N:fN} {ops:Array Oper} {S:List HP} {l:List Nat} {fr:Fr} {aB:List HP} {Q:Post} {i:Nat}
theorem ax.U1 {id:Nat} (perm:List Nat) (nr:Nat) (hm:P.follows .mixedOrders=true) (hB:Ed ops perm nr=true) (hp:∀w,aQ β aB w->aQ β S w) (h:ct P β N ops S nr perm fr aB Q):ax P β N (.region id ops true) fr aB Q:=by
 intro av w hS
 unfold Ed at hB
 simp only [ahU,aiw] at hB
 obtain⟨⟨⟨h1,h2⟩,h3⟩,h4⟩:=hB
 have iA:=hS.drewN 1
 have h5:=Ke (Q:=Q) h1 h2 nr perm _ _ _ h4 (λj oj _ hl=>by simp [Array.getD_eq_getD_getElem?,Array.getElem?_replicate] at hl;split at hl<;>simp at hl) (hp _ iA) (h av (w.drewN 1) iA)
 rw [h3] at h5
 refine ait (λe a w q=>?_) (wp_region_any hm (sM _ _ _ _ h5))
 cases e with
 |normal=>exact q
 |exit id=>exact q.elim
 |goto l=>exact q.elim
 |ret=>exact q.elim
 |panic ch=>exact q.elim
 |outgrown=>exact q.elim
theorem ct.U2 {ι:Type} {bQ:ι->Fr} {dz:ι->List HP} {o:Oper} (cA:ops[i]?=some o) (hg:o.guard=none) (h:aE P β N #[o] 0 fr aB (NP (Ef β N bQ dz))) (hp:∀j w,aQ β (dz j) w->aQ β S w)
 (K:∀j,ct P β N ops S 0 l (bQ j) (dz j) Q):ct P β N ops S 0 (i::l) fr aB Q:=by
 grind [tU,vo,NP,Ef,fw,AU,aE,aQ,ct]
end mix
end
section
open Go.RowKit Go.Maps bw aI
def P6:List Nat:=[200,201,202,203,204,205,206,207,208,209,210,211,212,213,214]
def hnV:Value:=.agg ⟨.nilFunc::P6.map (λf=>.func (.func f) #[] #[])⟩
theorem U3 {n:Int} (h:1<=n/\n<=15):n=1\/n=2\/n=3\/n=4\/n=5\/n=6\/n=7\/n=8\/n=9\/n=10\/n=11\/n=12\/n=13\/n=14\/n=15:=d5
theorem aeZ {w:World} {o:Oper} {ev:Operand->Value} {x y:Operand} {n:Int} (ho:o.op=.index 319 x y) (hx:ev x=hnV) (hy:ev y=.int .i64 n) (hn:1<=n/\n<=15):sx Tryz.prog ev o w (.func (.func (P6.getD (n.toNat-1) 0)) #[] #[]) w:=by
 obtain⟨dst,op,type,pos,after,guard⟩:=o
 cases ho
 refine .inl ?_
 simp only [execOp,hx,hy]
 rcases U3 hn with h|h|h|h|h|h|h|h|h|h|h|h|h|h|h<;>subst h<;>kernel_rfl
theorem aE.hn {β:Bs} {N:fN} {k:Nat} {ops:Array Oper} {fr:Fr} {aB:List HP} {Q:Post} {d:Option Tmp} {x y:Operand} {n:Int} (hn:1<=n/\n<=15) (K:aE Tryz.prog β N ops (k+1) (eU fr d (.func (.func (P6.getD (n.toNat-1) 0)) #[] #[])) aB Q)
 (cA:∀av,iQ N av ops fr k=some (.index 319 x y,d):=by intro _;kernel_rfl) (hx:∀av,fe N fr av x=hnV:=by intro _;kernel_rfl) (hy:∀av,fe N fr av y=.int .i64 n:=by intro _;kernel_rfl):aE Tryz.prog β N ops k fr aB Q:=
 aE.nQ cA (λ_ av w ho hS=>⟨w,aeZ ho (hx av) (hy av) hn,hS⟩) K
theorem af4 {β:Bs} {S:bg} {L:HL} {f m t b:Nat} {c:aN} (n:Int) (hI:bC S) (hC:qN β c) (h:1<=n/\n<=15) (he:c.op=n):aW Tryz.prog β (P6.getD (n.toNat-1) 0) #[vP f,vP b] (pA f m t L S++[pC b c]) (λv l=>∃L2,v=vI (iE S c).1/\l=pA f m t L2 (iE S c).2.1++[pC b (iE S c).2.2]):=by
 subst he
 rcases U3 h with h|h|h|h|h|h|h|h|h|h|h|h|h|h|h<;>rw [h]
 ·rw [vD h];exact U0 S L f m t hI b c hC
 ·rw [tW h];exact MY S L f m t hI b c hC
 ·exact KB hC.op (by rw [h];unfold mV;decide)
 ·rw [vE h];exact Rl S L f m t hI b c hC
 ·exact KB hC.op (by rw [h];unfold mV;decide)
 ·exact KB hC.op (by rw [h];unfold mV;decide)
 ·exact KB hC.op (by rw [h];unfold mV;decide)
 ·exact KB hC.op (by rw [h];unfold mV;decide)
 ·exact KB hC.op (by rw [h];unfold mV;decide)
 ·exact KB hC.op (by rw [h];unfold mV;decide)
 ·exact KB hC.op (by rw [h];unfold mV;decide)
 ·exact KB hC.op (by rw [h];unfold mV;decide)
 ·rw [sG h];exact Rm S L f m t hI b c hC
 ·exact KB hC.op (by rw [h];unfold mV;decide)
 exact KB hC.op (by rw [h];unfold mV;decide)
theorem X5 {S:bg} {c:aN} (h:1<=c.op/\c.op<=15):(iE S c).2.2.op=c.op:=by
 rcases U3 h with h|h|h|h|h|h|h|h|h|h|h|h|h|h|h
 ·rw [vD h];exact acK
 ·rw [tW h];exact TV
 ·rw [FW h];exact QV
 ·rw [vE h];exact TW
 ·rw [FX h];exact QW
 ·rw [FY h];exact OE
 ·rw [FZ h];exact Wv
 ·rw [F5 h];exact QX
 ·rw [F6 h];exact T9
 ·rw [Cy h];exact Ua
 ·rw [Cz h];exact acL
 ·rw [CA h];exact Ww
 ·rw [sG h];exact ZH
 ·rw [CB h];exact TY
 rw [CC h];exact QY
end
section
open Go.RowKit Go.Maps bw aI
attribute [local irreducible] aE bH ax aF ct
abbrev zj1 (b3:Nat):=(.aD b3 [vI 0,vI 0,vI 0,.string ⟨#[]⟩,.string ⟨#[]⟩,.slice none (0) (0),vI 0,vI 0,vI 0,vI 0,vI 0,vI 0,vI 0] 63:HP)
abbrev zj2 (c:aN):=([(0,vI (c.op)),(1,vI (c.bD)),(2,vI (c.other)),(3,.string c.name),(4,.string c.text),(5,.slice c.dA (c.data.length) (c.dC)),(6,vI (c.mode)),(7,vI (c.cO)),(8,vI (c.cQ)),(9,vI (c.bJ)),(10,vI (c.bh)),(11,vI 230)]:Fr)
theorem Rn {β:Bs}:aW Tryz.prog β 199 #[] [] (λv l=>v=.agg #[.nilFunc,.func (.func 200) #[] #[],.func (.func 201) #[] #[],.func (.func 202) #[] #[],.func (.func 203) #[] #[],.func (.func 204) #[] #[],.func (.func 205) #[] #[],.func (.func 206) #[] #[],.func (.func 207) #[] #[],.func (.func 208) #[] #[],.func (.func 209) #[] #[],.func (.func 210) #[] #[],.func (.func 211) #[] #[],.func (.func 212) #[] #[],.func (.func 213) #[] #[],.func (.func 214) #[] #[]]/\l=[]):=by
 exact SE Tryz.func199 Tryz.ntmps199 (λR=>SR (jB 1 [0] (λb1=>.aD b1 [.nilFunc,.nilFunc,.nilFunc,.nilFunc,.nilFunc,.nilFunc,.nilFunc,.nilFunc,.nilFunc,.nilFunc,.nilFunc,.nilFunc,.nilFunc,.nilFunc,.nilFunc,.nilFunc] 319) (λb1=>NS (jC 2 [] [(1,A_ 1 b1 16)] [(1,[(1,.func (.func 200) #[] #[]),(2,.func (.func 201) #[] #[]),(3,.func (.func 202) #[] #[]),(4,.func (.func 203) #[] #[]),(5,.func (.func 204) #[] #[]),(6,.func (.func 205) #[] #[]),(7,.func (.func 206) #[] #[]),(8,.func (.func 207) #[] #[]),(9,.func (.func 208) #[] #[]),(10,.func (.func 209) #[] #[]),(11,.func (.func 210) #[] #[]),(12,.func (.func 211) #[] #[]),(13,.func (.func 212) #[] #[]),(14,.func (.func 213) #[] #[]),(15,.func (.func 214) #[] #[])])] (eS [A_ 1 b1 16] ⟨rfl,rfl⟩)))))
theorem Qd {β:Bs} (S:bg) (L:HL) (f m t:Nat) (hI:bC S) (c:aN) (hC:qN β c) :
 aW Tryz.prog β 198 #[vP f,.agg ⟨bA c⟩] (pA f m t L S) (λv l=>∃L2,v=.agg ⟨bA (fC S c).2⟩/\l=(pA f m t L2 ((fC S c).1))):=by
 have hX:=hI.hX
 refine SE Tryz.func198 Tryz.ntmps198 (λR=>SR (jB 1 [3] (λb2=>.aD b2 (bA c) 63) (λb2=>jB 1 [4] (λb3=>.aD b3 [vI 0,vI 0,vI 0,.string ⟨#[]⟩,.string ⟨#[]⟩,.slice none (0) (0),vI 0,vI 0,vI 0,vI 0,vI 0,vI 0,vI 0] 63) (λb3=>NS (jC 2 [] [(1,a_ 7 b2)] [(7,[(12,vI 0)])] (NS (jC 2 [] [(1,a_ 7 b2)] [(7,[(11,vI 230)])] (NZ (jK 4 [10] [(1,a_ 7 b2)] (sP 10 ((c.op:Int)>=(1:Int)) (λh10=>jK 4 [14] [(1,a_ 7 b2)] (NN (cP ((c.op:Int)<=(15:Int)) (λmQ=>?_) (λmQ=>KX (SR (jC 2 [] [(0,A_ 7 b2 13),(1,A_ 8 b3 13)] [(8,(zj2 c))] (eS [A_ 8 b3 13] ⟨L,by unfold fC;rw [zS (S:=S) (c:=(c0 c)) gn];exact⟨rfl,rfl⟩⟩))))))) (λh10=>jK 4 [14] [] (NF (KX (SR (jC 2 [] [(0,A_ 7 b2 13),(1,A_ 8 b3 13)] [(8,(zj2 c))] (eS [A_ 8 b3 13] ⟨L,by unfold fC;rw [zS (S:=S) (c:=(c0 c)) gn];exact⟨rfl,rfl⟩⟩))))))))))))))))
 have cA:1<=c.op/\c.op<=15:=⟨h10,mQ⟩
 refine ax.U1 (S:=[.abs (CR b2 (.int .i64 c.op))]) [1,2,4,0,3,5,6,7] 3 d6 d6 (λw hS=>hS.first (i:=7) (b:=b2) rfl rfl) (jR 3 [3,4,17,19] [(1,p_ ⟨[.view 0 (.int .i64 (c.op))],none,none,none,none⟩ [(∀F w,(CR b2 (.int .i64 c.op)).h F w->w.cell? ⟨b2,0,none⟩=some (vI (c.op)))] ⟨CR.cell,trivial⟩)] (ct.U2 (ι:=Unit) (bQ:=λ(_:Unit)=>[(3,vP b2),(4,vP b3),(15,.agg #[.nilFunc,.func (.func 200) #[] #[],.func (.func 201) #[] #[],.func (.func 202) #[] #[],.func (.func 203) #[] #[],.func (.func 204) #[] #[],.func (.func 205) #[] #[],.func (.func 206) #[] #[],.func (.func 207) #[] #[],.func (.func 208) #[] #[],.func (.func 209) #[] #[],.func (.func 210) #[] #[],.func (.func 211) #[] #[],.func (.func 212) #[] #[],.func (.func 213) #[] #[],.func (.func 214) #[] #[]]),(17,vI (c.op)),(19,vP f)]) (dz:=λ(_:Unit)=>((pA f m t L S)++[.abs R,pC b2 (c0 c),zj1 b3])) rfl rfl ?_ (by rintro _ w hS;exact hS.first (i:=7) (b:=b2) rfl rfl) ?_))
 ·exact gE [] (Rn) (NL (MD () [3,4,15,17,19] [0,1,2,3,4,5,6,7,8]))
 rintro _
 refine ct.U2 (ι:=Unit) (bQ:=λ(_:Unit)=>[(3,vP b2),(4,vP b3),(18,.func (.func (P6.getD (c.op.toNat-1) 0)) #[] #[]),(19,vP f)]) (dz:=λ(_:Unit)=>((pA f m t L S)++[.abs R,pC b2 (c0 c),zj1 b3])) rfl rfl ?_ (by rintro _ w hS;exact hS.first (i:=7) (b:=b2) rfl rfl) ?_
 ·exact aE.hn (x:=(.tmp 15)) (y:=(.tmp 17)) (d:=(some 18)) cA (NL (MD () [3,4,18,19] [0,1,2,3,4,5,6,7,8]))
 rintro _
 refine ct.U2 (ι:=HL) (bQ:=λ(L2:HL)=>[(3,vP b2),(4,vP b3),(20,vI ((iE S (c0 c)).1))]) (dz:=λ(L2:HL)=>((pA f m t L2 ((iE S (c0 c)).2.1))++[pC b2 ((iE S (c0 c)).2.2),.abs R,zj1 b3])) rfl rfl ?_ (by rintro L2 w hS;exact hS.first (i:=6) (b:=b2) rfl (zc (λz=>some (Value.int .i64 z)) (X5 (c:=(c0 c)) cA))) ?_
 ·refine gL [0,1,2,3,4,5,7] (af4 (S:=S) (L:=L) (f:=f) (m:=m) (t:=t) (b:=b2) (c:=(c0 c)) c.op hI ⟨hC.hw,hC.ow,hC.nm,hC.tx,hC.da,hC.dl,hC.dc,hC.op⟩ cA rfl) ?_ (by intro _;rcases U3 cA with h|h|h|h|h|h|h|h|h|h|h|h|h|h|h<;>rw [h]<;>kernel_rfl)
  rintro _ _ ⟨L2,rfl,rfl⟩
  exact NL (MD L2 [3,4,20] [0,1,2,3,4,5,6,7,8])
 rintro L2
 refine ct.U2 (ι:=Unit) (bQ:=λ(_:Unit)=>[(3,vP b2),(4,vP b3),(20,vI ((iE S (c0 c)).1)),(21,.pointer (some ⟨b2,11,none⟩))]) (dz:=λ(_:Unit)=>((pA f m t L2 ((iE S (c0 c)).2.1))++[pC b2 ((iE S (c0 c)).2.2),.abs R,zj1 b3])) rfl rfl ?_ (by rintro _ w hS;exact hS.first (i:=6) (b:=b2) rfl (zc (λz=>some (Value.int .i64 z)) (X5 (c:=(c0 c)) cA))) ?_
 ·exact jK 1 [21] [] (NL (MD () [3,4,20,21] [0,1,2,3,4,5,6,7,8]))
 rintro _
 exact ct.last rfl rfl (jC 1 [] [(0,a_ 6 b2)] [(6,[(11,vI ((iE S (c0 c)).1))])] (NL (aF.np (NX (SR (jC 2 [] [(0,A_ 6 b2 13),(1,A_ 8 b3 13)] [(8,(zC (bA { (iE S (c0 c)).2.2 with code:=(iE S (c0 c)).1})))] (eS [A_ 8 b3 13] ⟨L2,rfl,rfl⟩ [0,1,2,3,4,5,7])))))))
end
section
open Go.RowKit Go.Maps bw aI
attribute [local irreducible] aE bH ax aF ct lK
abbrev SZ (B)(d:List UInt8) (cap):=(.abs (aK 5 1 B d.length cap (ez d)):HP)
abbrev zk2 (b5:Nat) (An:Option Addr) (i:Nat) (cn:Nat):=(.aD b5 [.slice An (i) (cn)] 24:HP)
abbrev zk3 (An:Option Addr) (i:Nat) (cn:Nat) (K:fk) (S:bg):=(.abs (aK 102 10 An i cn (bP K ((aV S).take i))):HP)
abbrev zk4 (S:bg) (i:Nat) (K:fk):=(.abs (kY (qP ((aV S).take i) K) i):HP)
abbrev zk5 (S:bg) (i:Nat) (K:fk):=(.abs (kY (mG ((aV S).take i) K) i):HP)
abbrev zk6 (A7:Option Addr) (S:bg) (c8:Nat):=(.abs (aK 3 1 A7 ((aY S.ay).length) c8 (bG (aY S.ay))):HP)
abbrev zk7 (b4:Nat):=(.aD b4 [.slice none (0) (0)] 24:HP)
abbrev zk8 (b9:Nat):=(.aD b9 [vI 0,vI 0,vI 0,vI 0,vI 0,vI 0,vI 0,.slice none (0) (0),.string ⟨#[]⟩,.slice none (0) (0)] 102:HP)
abbrev ae0 (S:bg) (L:HL) (tk:Nat):=(.abs (bp (pW (ig S.O L) tk eG.none)):HP)
abbrev U4 (L:HL) (tk:Nat) (S:bg):=(.abs (bK Tryz.prog 9 (L.m tk) (nI L (ah S.O tk).aq) ((ah S.O tk).aq.length)):HP)
abbrev U5 (b15:Nat) (S:bg) (i:Nat) (tk:Nat) (Ae:Option Addr) (j:Nat) (ce:Nat):=(.aD b15 [vI ((gV S i)),vI 2,vI ((ah S.O tk).mode),vI ((ah S.O tk).cO),vI ((ah S.O tk).cQ),vI ((ah S.O tk).bJ),vI ((ah S.O tk).bh),.slice none (0) (0),.string ⟨#[]⟩,.slice Ae (j) (ce)] 102:HP)
abbrev U6 (oP:Option Addr) (S:bg) (tk:Nat) (c18:Nat):=(.abs (aK 9 1 oP ((ah S.O tk).aq.length) c18 (xU (ah S.O tk).aq)):HP)
abbrev aaQ (nY:Option Addr) (j:Nat) (nZ:Nat) (S:bg) (tk:Nat):=(.abs (aK 126 2 nY (j+1) nZ (mP (((ah S.O tk).aq.take (j+1)).map (gD S.O)))):HP)
abbrev Ld (S:bg) (tk:Nat):=([(39,vI ((ah S.O tk).mode)),(43,vI ((ah S.O tk).cO)),(47,vI ((ah S.O tk).cQ)),(51,.agg #[vI ((ah S.O tk).bJ),vI ((ah S.O tk).bh)])]:Fr)
abbrev Fg (f:Nat) (b4:Nat) (b5:Nat):=([(0,vP f),(2,vP b4),(3,vP b5)]:Fr)
abbrev Qe (b5:Nat) (An:Option Addr) (i:Nat) (cn:Nat) (K:fk) (S:bg) (A7:Option Addr) (c8:Nat) (b4:Nat) (f:Nat) (m:Nat) (t) (L:HL):=([zk2 b5 An i cn,zk3 An i cn K S,zk4 S i K,zk5 S i K,zk6 A7 S c8,zk7 b4,pF f m t S.X,pI m L S.ay,pO S.O L]:List HP)
abbrev Fh (A7:Option Addr) (S:bg) (c8:Nat) (i:Nat):=([(19,.slice A7 ((aY S.ay).length) (c8)),(20,vI ↑((aY S.ay).length)),(21,vI ↑i)]:Fr)
abbrev aaR (f:Nat) (b4:Nat) (b5:Nat) (b15:Nat) (L:HL) (tk:Nat) (A7:Option Addr) (S:bg) (c8:Nat) (i:Nat) (oP:Option Addr) (c18:Nat) (j:Nat) (nY:Option Addr) (nZ:Nat):=([(0,vP f),(2,vP b4),(3,vP b5),(8,vP b15),(11,vP (L.b tk)),(19,.slice A7 ((aY S.ay).length) (c8)),(20,vI ↑((aY S.ay).length)),(21,vI ↑i),(79,.slice oP ((ah S.O tk).aq.length) (c18)),(80,vI ↑((ah S.O tk).aq.length)),(81,vI ↑j),(100,.slice nY ((j+1)) (nZ))]:Fr)
abbrev aaS (S:bg) (tk:Nat):=([(2,vI ((ah S.O tk).mode)),(3,vI ((ah S.O tk).cO)),(4,vI ((ah S.O tk).cQ)),(5,vI ((ah S.O tk).bJ)),(6,vI ((ah S.O tk).bh))]:Fr)
abbrev aaT (S:bg) (L:HL) (tk:Nat) (R:eG) (b19:Nat) (j:Nat) (ek:Nat):=([pD S.O L,ae0 S L tk,.abs R,.aD b19 [.string (nS (ah S.O tk).aq j),vI ((ah S.O ek).id)] 126]:List HP)
theorem Le {β:Bs} (c:Nat):aW Tryz.prog β 48 #[.slice none 0 c] [] (λv l=>∃B cap,v=.slice B 0 cap/\l=[.abs (aK 5 1 B 0 cap [])]):=by
 exact SE Tryz.func48 Tryz.ntmps48 (λR=>SR (jK 1 [] [] (NZ (jK 2 [4] [] (NT (SR (jK 1 [2] [] (NN (ax.ret (aF.bq (aF.mem (λw hS=>(hS.nW (e:=5) (size:=1)).pick (ay:=[1,0]) (l':=[.abs (aK 5 1 none 0 0 ([])),.abs R]) rfl d6) (RT _ [0,1] (⟨none,0,rfl,rfl⟩)))))))))))))
theorem J0 {β:Bs} (a:Addr) (c:Nat) (d:List UInt8) (hA:ck β (some a) d) (hl:d.length<=140737488355328):aW Tryz.prog β 48 #[.slice (some a) d.length c] [] (λv l=>∃B cap,v=.slice B d.length cap/\l=[SZ B d cap]):=by
 exact SE Tryz.func48 Tryz.ntmps48 (λR=>SR (jK 1 [] [] (NZ (jK 2 [4] [] (NF (KX (SR (jB 1 [5] (λb1=>.aD b1 [] 5) (λb1=>aE.mem (λw hS=>hS.oo (i:=1) (b:=b1) (cs:=[]) (e:=5) 1 0 d6 rfl d8) (jK 1 [6] [] (VH 1 61 (some a) d.length c (ez d) rfl (hA.src) (λA2 c3=>aE.cT 1 rfl (by rw [ahS,List.nil_append]) (sl 7 (.slice A2 (0+d.length) (c3)) (.slice A2 (d.length) (c3)) (by rw [ahS]) (jK 1 [2] [] (eN ⟨A2,c3,rfl,rfl⟩ [1,0])))) (hl:=by rw [vu,Nat.mul_one]) (h1:=rR d))))))))))))
theorem Cj {β:Bs} (A:Option Addr) (c:Nat) (d:List UInt8) (hA:ck β A d) (hl:d.length<=140737488355328):aW Tryz.prog β 48 #[.slice A d.length c] [] (λv l=>∃B cap,v=.slice B d.length cap/\l=[SZ B d cap]):=by
 cases A with
 |some a=>exact J0 a c d hA hl
 |none=>
   cases d with
   |nil=>exact Le c
   |cons b r=>have h:=ck.hd hA (j:=0) nh;cases h
theorem Qf {β:Bs} (A:Option Addr) (c:Nat) (d:List UInt8) (hl:d.length<=140737488355328):aW Tryz.prog β 48 #[.slice A d.length c] [SZ A d c] (λv l=>∃B cap,v=.slice B d.length cap/\l=[SZ B d cap,SZ A d c]):=
 (aW.uf (pre:=[]) (R:=[SZ A d c]) (λ_ h=>Cj A c d h.bytes hl)).mono gn
theorem Qg {β:Bs} (L:HL) (b bk:Nat) (ay:bB Th) (hr:aI.dK (aY ay)) (hn:ay.length<=4096) :
 aW Tryz.prog β 71 #[Jc bk] [pI b L ay,.aD bk [.map (some b)] 170] (λv l=>∃A cap,v=.slice A (aY ay).length cap/\l=[pI b L ay,.aD bk [.map (some b)] 170,.abs (aK 3 1 A (aY ay).length cap (bG (aY ay)))]):=
 (Jd b bk ay.length (dg (dM L ay)) d5).mono (by
  rintro v l ⟨A,cap,ss,rfl,hk,_,rfl⟩
  have e:=RR (us:=dM L ay) (by rw [HM];exact hr) hk
  rw [HM] at e
  subst e
  exact⟨A,cap,rfl,rfl⟩)
theorem X6 {β:Bs} (S:bg) (L:HL) (f m t:Nat) (hI:bC S) :
 aW Tryz.prog β 45 #[vP f] [pF f m t S.X,pI m L S.ay,pO S.O L,pD S.O L,pE S.O L] (λv l=>∃A c K,v=.agg #[.slice A (aV S).length c]/\l=[pF f m t S.X,pI m L S.ay,pO S.O L,pD S.O L,pE S.O L]++KH A c (aV S) K):=by
 have hX:=hI.hX
 have hkl:(aY S.ay).length=S.ay.length:=H6 _
 have hil:=hI.len
 refine SE Tryz.func45 Tryz.ntmps45 (λR=>SR (jB 1 [2] (λb4=>.aD b4 [.slice none (0) (0)] 24) (λb4=>NS (jB 1 [3] (λb5=>.aD b5 [.slice none (0) (0)] 24) (λb5=>NZ (jK 4 [17] [(3,a_ 0 f)] (gX [] (Oi (some m)) (λb6=>gL [2,0] (Qg L m b6 S.ay hI.fP hI.len) ?_))))))))
 rintro _ _ ⟨A7,c8,rfl,rfl⟩
 refine jK 1 [20] [] (aE.mem (λw hS=>hS.nW (e:=102) (size:=10)) (aE.mem (λw hS=>hS.I0 (qP [] H7)) (aE.mem (λw hS=>hS.I0 (mG [] H7)) (jK 1 [21] [] (NN (ax.block (lJ (λ(i,An,cn,K)=>(i<=S.ay.length)) (λ(i,An,cn,K)=>S.ay.length-i) (λ(i,An,cn,K)=>(Fg f b4 b5++Fh A7 S c8 i)) (λ(i,An,cn,K)=>(Qe b5 An i cn K S A7 c8 b4 f m t L++[pD S.O L,pE S.O L,.abs R])) (0,none,0,H7) [9,10,11,12,2,8,3,0,4,5,6,7] ((L4 _)) ?_)))))))
 rintro⟨i,An,cn,K⟩ hi
 refine SR (jK 1 [22] [] (NN (ax.seq (cP ((((i:Nat):Int):Int)<((((aY S.ay).length:Nat):Int):Int)) (λtj=>?_) (λtj=>?_)))))
 ·have hi2:i<S.ay.length:=d5
  refine KX (ax.seq (ax.block (SR (aE.tell (p:=(A7=some ⟨cC A7,cq A7,none⟩)) (λw hS=>let ⟨F,h⟩:=hS.get (i:=4) rfl;(aK.IC h d5).1) (λhAk=>jK 3 [5] [(0,x_ i ((aY S.ay).length) (hAk)),(1,p_ ⟨[.view 4 (.int .i64 ((gV S i)))],none,none,none,none⟩ [(∀F w,(aK 3 1 A7 ((aY S.ay).length) c8 (bG (aY S.ay))).h F w->w.cell? ⟨(cC A7),cq A7+i*1,none⟩=some (vI ((gV S i))))] ⟨aK.cellAt (i:=i) (j:=0) d5 (ZO hi2),trivial⟩)] (NN (ax.seq ?_)))))))
  have ahH:=(KI hI.toInv0 hi2).1
  have hget:=get_at hI.toInv0 hi2
  rcases afN hI.toInv0 hi2 with ⟨tk,qw,cW⟩|⟨tk,qw,cW⟩|⟨tk,qw,cW⟩
  ·have bZ:(ah S.O tk).kind=1:=hI.kind cW
   have hel:(ah S.O tk).aq.length<=8192:=hI.mq cW
   have hdl:(ah S.O tk).data.length<=140737488355328:=hI.TP cW
   refine ax.region (jK 5 [28,29] [(3,a_ 6 f)] (aE.ji 7 (d:=(some 30)) (t:=170) (K:=3) (E:=175) (b:=m) (n:=S.ay.length) (f:=(dg (dM L S.ay))) (x:=(.tmp 28)) (ix:=(.tmp 29)) (key:=vI ((gV S i))) (z:=.nilIface) (kl:=(.int .i64 (gV S i))) (r:=(some (jg L ⟨tk,1⟩))) (λ_=>d6) d6 (λ_=>d6) (λ_=>d6) ja Tryz.underlying170 (λ_=>d6) (mo (KJ hI.toInv0 hi2)) (by rw [kx,hget,qw];rfl) (jK 1 [6] [] (NS (jK 1 [31] [] (gE [] (iG (L.b tk)) (jK 1 [7] [] (NN (ax.seq (ax.o7 (S:=[pO S.O L]) (uR [0,1,3,4,5,6,7,8,9,10,11,12,13,14,15,16,17,18] (oJ 20 [(false,21)] [(false,2),(false,19)])) [8] (gT (oJ 20 [(false,21)] [(false,2),(false,19)]) (Fg f b4 b5++[(6,.iface 184 (vP (L.b tk)))]++Fh A7 S c8 i++[(33,vI ((gV S i))),(34,.iface 184 (vP (L.b tk)))]++Ld S tk) [0,1,3,4,5,6,7,8,9,10,11,12,13,14,15,16,17,18] [(5,v_ 0 (Jw L bZ)),(9,v_ 0 (Ul L bZ)),(13,v_ 0 (Um L bZ)),(17,p_ ⟨[.view 0 (.int .i64 ((ah S.O tk).bJ)),.view 0 (.int .i64 ((ah S.O tk).bh))],none,none,none,none⟩ [(∀F w,(bp (fQ S.O L)).h F w->w.cell? ⟨(L.b tk),5,none⟩=some (vI ((ah S.O tk).bh))),(∀F w,(bp (fQ S.O L)).h F w->w.cell? ⟨(L.b tk),4,none⟩=some (vI ((ah S.O tk).bJ)))] ⟨kZ (by rw [bZ];decide) (rfl),kZ (by rw [bZ];decide) (rfl),trivial⟩)] (lK.one (j:=20) (dj:=8) (R:=λf_ l_=>f_=([(52,.agg #[vI ((gV S i)),vI 1,vI ((ah S.O tk).mode),vI ((ah S.O tk).cO),vI ((ah S.O tk).cQ),vI ((ah S.O tk).bJ),vI ((ah S.O tk).bh),.slice none (0) (0),.string ⟨#[]⟩,.slice none (0) (0)]),(35,vI 1)]++Fg f b4 b5++[(6,.iface 184 (vP (L.b tk)))]++Fh A7 S c8 i++[(33,vI ((gV S i))),(34,.iface 184 (vP (L.b tk)))]++Ld S tk)/\l_=[]) [8] [(false,2,35),(false,19,52)] (gJ.of (ι:=Nat) (v:=λ(b9:Nat)=>vP b9) (l:=λ(b9:Nat)=>[zk8 b9]) [35,52] rfl rfl rfl rfl ?_) ?_ ?_))))))))))))
   ·intro u Aq
    exact jB 1 [8] (λb9=>.aD b9 [vI 0,vI 0,vI 0,vI 0,vI 0,vI 0,vI 0,.slice none (0) (0),.string ⟨#[]⟩,.slice none (0) (0)] 102) (λb9=>NL (MD b9 [8,35,52,0,2,3,6,19,20,21,33,34,39,43,47,51] [1,0]))
   ·refine dO.step (gJ.of (ι:=Unit) (v:=λ(_:Unit)=>.int .i64 1) (l:=λ(_:Unit)=>[]) [8] rfl rfl rfl rfl ?_) ?_
    ·intro u Aq
     exact gE [] (zV (vP (L.b tk))) (NL (MD () [35,8,0,2,3,6,19,20,21,33,34,39,43,47,51] [0]))
    rintro _ _ ⟨_,rfl,rfl⟩
    refine dO.step (gJ.of (ι:=Unit) (v:=λ(_:Unit)=>.agg #[vI ((gV S i)),vI 1,vI ((ah S.O tk).mode),vI ((ah S.O tk).cO),vI ((ah S.O tk).cQ),vI ((ah S.O tk).bJ),vI ((ah S.O tk).bh),.slice none (0) (0),.string ⟨#[]⟩,.slice none (0) (0)]) (l:=λ(_:Unit)=>[]) [8] rfl rfl rfl rfl ?_) ?_
    ·intro u Aq
     exact jK 1 [52] [] (NL (MD () [52,8,35,0,2,3,6,19,20,21,33,34,39,43,47,51] [0]))
    rintro _ _ ⟨_,rfl,rfl⟩
    exact⟨rfl,rfl⟩
   rintro _ _ ⟨rfl,rfl⟩ _ _ ⟨b9,rfl,rfl⟩
   refine eu.last d6 (jC 1 [] [(0,A_ 0 b9 10)] [(0,([(0,vI ((gV S i))),(1,vI 1)]++aaS S tk))] (NL (aF.np (NX (SQ (jK 1 [53] [] (NN (ax.block (SR (jK 3 [55,56] [] (NT (SR (jK 1 [9] [] (NN (ax.region (jK 4 [60] [(3,v_ 9 (OY L bZ))] (aE.mem (λw hS=>hS.VZ (i:=10) (k:=tk) rfl bZ) (gL [13] (Qf (L.dA tk) (L.dC tk) (ah S.O tk).data hdl) ?_))))))))))))))))))
   rintro _ _ ⟨Fj,c11,rfl,rfl⟩
   exact aE.mem (λw hS=>hS.ad6 (i:=12) (j:=1) (ix:=[0,2,3,4,5,6,7,8,9,10,11,13,14]) rfl rfl d6 rfl bZ) (jC 2 [] [(1,a_ 2 b9)] [(2,[(7,.slice Fj ((ah S.O tk).data.length) (c11))])] (LX (ax.region (jN 4 [104,106] (λb12=>[(1,a_ 3 b5),(2,A_ 2 b9 10)]) (λ_=>[]) (λb12=>.aD b12 [vI ((gV S i)),vI 1,vI ((ah S.O tk).mode),vI ((ah S.O tk).cO),vI ((ah S.O tk).cQ),vI ((ah S.O tk).bJ),vI ((ah S.O tk).bh),.slice Fj ((ah S.O tk).data.length) (c11),.string ⟨#[]⟩,.slice none (0) (0)] 102) (λb12=>mM 4 22 (some ⟨b12,0,none⟩) 1 1 [vI ((gV S i)),vI 1,vI ((ah S.O tk).mode),vI ((ah S.O tk).cO),vI ((ah S.O tk).cQ),vI ((ah S.O tk).bJ),vI ((ah S.O tk).bh),.slice Fj ((ah S.O tk).data.length) (c11),.string ⟨#[]⟩,.slice none (0) (0)] rfl (gi (j:=14) rfl) (λMF c14=>aE.cT 4 rfl (zc (λx=>HP.abs (aK 102 10 _ _ _ x)) (vH (iI d5) (xW hI.toInv0 hi2 qw cW) rfl rfl)) (sl 107 (.slice MF (i+1) (c14)) (.slice MF ((i+1)) (c14)) (rfl) (jC 2 [] [(1,a_ 3 b5)] [(3,[(0,.slice MF ((i+1)) (c14))])] (LX (ax.region (jK 2 [21] [(0,wJ ((i:Int)+1) (↑(i+1)))] (NL (aF.mem (λw hS=>hS.nW (e:=126) (size:=2)) (aF.mem (λw hS=>hS.uM (R':=(mG ((aV S).take (i+1)) (K.put i Fj c11 none 0))) (i:=6) (j:=1) (ay:=[0,2,3,4,5,7,8,9,10,11,12,13,14,15]) rfl rfl d6 rfl (Dp (iI d5) (xW hI.toInv0 hi2 qw cW)) (Bk (iI d5) (xW hI.toInv0 hi2 qw cW) rfl)) (aF.mem (λw hS=>hS.uM (R':=(qP ((aV S).take (i+1)) (K.put i Fj c11 none 0))) (i:=5) (j:=14) (ay:=[0,1,2,3,4,6,7,8,9,10,11,12,13]) rfl rfl d6 rfl (Dq (iI d5) (xW hI.toInv0 hi2 qw cW)) ((Bl (iI d5) (xW hI.toInv0 hi2 qw cW) rfl))) (tJ ((i+1),MF,c14,(K.put i Fj c11 none 0)) [4,5,0,1,6,7,8,9,10,2,11,12] (d5)))))))))))))))))
  ·have bZ:(ah S.O tk).kind=2:=hI.kind cW
   have hel:(ah S.O tk).aq.length<=8192:=hI.mq cW
   have hdl:(ah S.O tk).data.length<=140737488355328:=hI.TP cW
   refine ax.region (jK 5 [28,29] [(3,a_ 6 f)] (aE.ji 7 (d:=(some 30)) (t:=170) (K:=3) (E:=175) (b:=m) (n:=S.ay.length) (f:=(dg (dM L S.ay))) (x:=(.tmp 28)) (ix:=(.tmp 29)) (key:=vI ((gV S i))) (z:=.nilIface) (kl:=(.int .i64 (gV S i))) (r:=(some (jg L ⟨tk,2⟩))) (λ_=>d6) d6 (λ_=>d6) (λ_=>d6) ja Tryz.underlying170 (λ_=>d6) (mo (KJ hI.toInv0 hi2)) (by rw [kx,hget,qw];rfl) (jK 1 [6] [] (NS (jK 1 [31] [] (gE [] (iG (L.b tk)) (jK 1 [7] [] (NN (ax.seq (ax.o7 (S:=[pO S.O L]) (uR [0,1,3,4,5,6,7,8,9,10,11,12,13,14,15,16,17,18] (oJ 20 [(false,21)] [(false,2),(false,19)])) [8] (gT (oJ 20 [(false,21)] [(false,2),(false,19)]) (Fg f b4 b5++[(6,.iface 190 (vP (L.b tk)))]++Fh A7 S c8 i++[(33,vI ((gV S i))),(34,.iface 190 (vP (L.b tk)))]++Ld S tk) [0,1,3,4,5,6,7,8,9,10,11,12,13,14,15,16,17,18] [(5,v_ 0 (Jw L bZ)),(9,v_ 0 (Ul L bZ)),(13,v_ 0 (Um L bZ)),(17,p_ ⟨[.view 0 (.int .i64 ((ah S.O tk).bJ)),.view 0 (.int .i64 ((ah S.O tk).bh))],none,none,none,none⟩ [(∀F w,(bp (fQ S.O L)).h F w->w.cell? ⟨(L.b tk),5,none⟩=some (vI ((ah S.O tk).bh))),(∀F w,(bp (fQ S.O L)).h F w->w.cell? ⟨(L.b tk),4,none⟩=some (vI ((ah S.O tk).bJ)))] ⟨kZ (by rw [bZ];decide) (rfl),kZ (by rw [bZ];decide) (rfl),trivial⟩)] (lK.one (j:=20) (dj:=8) (R:=λf_ l_=>f_=([(52,.agg #[vI ((gV S i)),vI 2,vI ((ah S.O tk).mode),vI ((ah S.O tk).cO),vI ((ah S.O tk).cQ),vI ((ah S.O tk).bJ),vI ((ah S.O tk).bh),.slice none (0) (0),.string ⟨#[]⟩,.slice none (0) (0)]),(35,vI 2)]++Fg f b4 b5++[(6,.iface 190 (vP (L.b tk)))]++Fh A7 S c8 i++[(33,vI ((gV S i))),(34,.iface 190 (vP (L.b tk)))]++Ld S tk)/\l_=[]) [8] [(false,2,35),(false,19,52)] (gJ.of (ι:=Nat) (v:=λ(b15:Nat)=>vP b15) (l:=λ(b15:Nat)=>[zk8 b15]) [35,52] rfl rfl rfl rfl ?_) ?_ ?_))))))))))))
   ·intro u Aq
    exact jB 1 [8] (λb15=>.aD b15 [vI 0,vI 0,vI 0,vI 0,vI 0,vI 0,vI 0,.slice none (0) (0),.string ⟨#[]⟩,.slice none (0) (0)] 102) (λb15=>NL (MD b15 [8,35,52,0,2,3,6,19,20,21,33,34,39,43,47,51] [1,0]))
   ·refine dO.step (gJ.of (ι:=Unit) (v:=λ(_:Unit)=>.int .i64 2) (l:=λ(_:Unit)=>[]) [8] rfl rfl rfl rfl ?_) ?_
    ·intro u Aq
     exact gE [] (zW (vP (L.b tk))) (NL (MD () [35,8,0,2,3,6,19,20,21,33,34,39,43,47,51] [0]))
    rintro _ _ ⟨_,rfl,rfl⟩
    refine dO.step (gJ.of (ι:=Unit) (v:=λ(_:Unit)=>.agg #[vI ((gV S i)),vI 2,vI ((ah S.O tk).mode),vI ((ah S.O tk).cO),vI ((ah S.O tk).cQ),vI ((ah S.O tk).bJ),vI ((ah S.O tk).bh),.slice none (0) (0),.string ⟨#[]⟩,.slice none (0) (0)]) (l:=λ(_:Unit)=>[]) [8] rfl rfl rfl rfl ?_) ?_
    ·intro u Aq
     exact jK 1 [52] [] (NL (MD () [52,8,35,0,2,3,6,19,20,21,33,34,39,43,47,51] [0]))
    rintro _ _ ⟨_,rfl,rfl⟩
    exact⟨rfl,rfl⟩
   rintro _ _ ⟨rfl,rfl⟩ _ _ ⟨b15,rfl,rfl⟩
   refine eu.last d6 (jC 1 [] [(0,A_ 0 b15 10)] [(0,([(0,vI ((gV S i))),(1,vI 2)]++aaS S tk))] (NL (aF.np (NX (SQ (jK 1 [53] [] (NN (ax.block (SR (jK 3 [55,56] [] (NF (SR (jK 3 [64,65] [] (NF (SR (jK 3 [72,73] [] (NT (SR (jK 1 [11] [] (NS (jK 4 [77] [(3,v_ 9 (eF L bZ))] (aE.mem (λw hS=>hS.adM (i:=11) (k:=tk) rfl (bZ)) (gX [] (ZM (some (L.m tk))) (λb16=>gL [14,0] (Ug L (L.m tk) b16 (ah S.O tk).aq.length (ah S.O tk).aq (hI.sorted _ cW) hel) ?_))))))))))))))))))))))))
   rintro _ _ ⟨oP,c18,rfl,rfl⟩
   refine jK 1 [80] [] (aE.mem (λw hS=>hS.nW (e:=126) (size:=2)) (jK 1 [81] [] (NN (ax.block (lJ (λ(j,Ae,ce)=>(j<=(ah S.O tk).aq.length)) (λ(j,Ae,ce)=>(ah S.O tk).aq.length-j) (λ(j,Ae,ce)=>(Fg f b4 b5++[(8,vP b15),(11,vP (L.b tk))]++Fh A7 S c8 i++[(79,.slice oP ((ah S.O tk).aq.length) (c18)),(80,vI ↑((ah S.O tk).aq.length)),(81,vI ↑j)])) (λ(j,Ae,ce)=>([U5 b15 S i tk Ae j ce,.abs (aK 126 2 Ae j ce (mP (((ah S.O tk).aq.take j).map (gD S.O)))),U4 L tk S,.aD b16 [.map (some (L.m tk))] 195,U6 oP S tk c18]++Qe b5 An i cn K S A7 c8 b4 f m t L++[pD S.O L,ae0 S L tk,.abs R])) (0,none,0) [3,16,0,1,2,4,5,6,7,8,9,10,11,12,13,14,15] ((L4 _)) ?_)))))
   rintro⟨j,Ae,ce⟩ hj
   refine SR (jK 1 [82] [] (NN (ax.seq (cP ((((j:Nat):Int):Int)<((((ah S.O tk).aq.length:Nat):Int):Int)) (λME=>?_) (λME=>?_)))))
   ·have hj2:j<(ah S.O tk).aq.length:=d5
    refine KX (ax.seq (ax.block (SR (aE.tell (p:=(oP=some ⟨cC oP,cq oP,none⟩)) (λw hS=>let ⟨F,h⟩:=hS.get (i:=4) rfl;(aK.IC h d5).1) (λhAs=>jK 3 [13] [(0,x_ j ((ah S.O tk).aq.length) (hAs)),(1,p_ ⟨[.view 4 (.string (nS (ah S.O tk).aq j))],none,none,none,none⟩ [(∀F w,(aK 9 1 oP ((ah S.O tk).aq.length) c18 (xU (ah S.O tk).aq)).h F w->w.cell? ⟨(cC oP),cq oP+j*1,none⟩=some (.string (nS (ah S.O tk).aq j)))] ⟨aK.cellAt (i:=j) (j:=0) d5 (Uh hj2),trivial⟩)] (NN ?_))))))
    obtain⟨hgd,h4⟩:=agx hI.toInv0 cW hj2
    have hgs:(nS (ah S.O tk).aq j).size<=255:=hgd.2.1
    rcases h4 with ⟨ek,dV,Qh,X7⟩|⟨ek,dV,Qh,X7⟩|⟨ek,dV,Qh,X7⟩
    ·have hke:(ah S.O ek).kind=1:=hI.kind Qh
     refine rM (List.range 18) 9 [2,13,0] (jR 8 [0,2,3,8,11,19,20,21,79,80,81,86,87,91,92] [(1,a_ 2 b15),(6,v_ 1 (eF L bZ))] (ct.ji 0 (d:=(some 93)) (t:=195) (K:=9) (E:=175) (b:=(L.m tk)) (cnt:=(ah S.O tk).aq.length) (f:=(nI L (ah S.O tk).aq)) (x:=(.tmp 91)) (ix:=(.tmp 92)) (key:=.string (nS (ah S.O tk).aq j)) (z:=.nilIface) (kl:=(.string (nS (ah S.O tk).aq j).data.toList)) (q:=(some (jg L ⟨ek,1⟩))) d6 d6 (λ_=>d6) (λ_=>d6) Hy Tryz.underlying195 (λ_=>d6) (Kl d5) (by rw [y4,dV];rfl) d6 (mL [2,13,0] [] (iG (L.b ek)) ?_ (by rintro _ _ ⟨rfl,rfl⟩;rfl))))
     rintro _ _ ⟨rfl,rfl⟩
     refine nC [2,13,0] [95] [] [] (nC [2,13,0] [96] [] [] (nC [2,13,0] [97] [(0,v_ 13 (Dv L hke))] [] (nC [2,13,0] [98] [] [] (mN [2,13,0] (λb19=>[(99,.slice (some ⟨b19,0,none⟩) (1) (1))]) (λ_=>[]) (λb19=>.aD b19 [.string (nS (ah S.O tk).aq j),vI ((ah S.O ek).id)] 126) (λb19=>ct.cut (ι:=(Option Addr)×Nat) (bQ:=λ((nY,nZ):(Option Addr)×Nat)=>(aaR f b4 b5 b15 L tk A7 S c8 i oP c18 j nY nZ)) (dz:=λ((nY,nZ):(Option Addr)×Nat)=>([U5 b15 S i tk Ae j ce,aaQ nY j nZ S tk,U4 L tk S,.aD b16 [.map (some (L.m tk))] 195,U6 oP S tk c18]++Qe b5 An i cn K S A7 c8 b4 f m t L++aaT S L tk R b19 j ek)) [2,13,0] rfl rfl ?_ rfl (λ_=>d6) ?_)))))
     ·exact mM 1 100 (some ⟨b19,0,none⟩) 1 1 [.string (nS (ah S.O tk).aq j),vI ((ah S.O ek).id)] rfl (gi (j:=17) rfl) (λnY nZ=>aE.cT 1 rfl (zc (λx=>HP.abs (aK 126 2 _ _ _ x)) (EH hj2 X7)) (sl 100 (.slice nY (j+1) (nZ)) (.slice nY ((j+1)) (nZ)) (rfl) (NL (MD (nY,nZ) [0,2,3,8,11,19,20,21,79,80,81,100] [0,1,2,3,4,5,6,7,8,9,10,11,12,13,14,15,16,17]))))
     rintro⟨nY,nZ⟩
     exact nC [2,13,0] [101] [] [] (ct.last rfl rfl (jC 1 [] [(0,a_ 0 b15)] [(0,[(9,.slice nY ((j+1)) (nZ))])] (NL (aF.np (BX (ax.region (jK 2 [81] [(0,wJ ((j:Int)+1) (↑(j+1)))] (NL (tJ ((j+1),nY,nZ) [0,1,2,3,4,5,6,7,8,9,10,11,12,13,14,15,16] (d5))))))))))
    ·have hke:(ah S.O ek).kind=2:=hI.kind Qh
     refine rM (List.range 18) 9 [2,13,0] (jR 8 [0,2,3,8,11,19,20,21,79,80,81,86,87,91,92] [(1,a_ 2 b15),(6,v_ 1 (eF L bZ))] (ct.ji 0 (d:=(some 93)) (t:=195) (K:=9) (E:=175) (b:=(L.m tk)) (cnt:=(ah S.O tk).aq.length) (f:=(nI L (ah S.O tk).aq)) (x:=(.tmp 91)) (ix:=(.tmp 92)) (key:=.string (nS (ah S.O tk).aq j)) (z:=.nilIface) (kl:=(.string (nS (ah S.O tk).aq j).data.toList)) (q:=(some (jg L ⟨ek,2⟩))) d6 d6 (λ_=>d6) (λ_=>d6) Hy Tryz.underlying195 (λ_=>d6) (Kl d5) (by rw [y4,dV];rfl) d6 (mL [2,13,0] [] (iG (L.b ek)) ?_ (by rintro _ _ ⟨rfl,rfl⟩;rfl))))
     rintro _ _ ⟨rfl,rfl⟩
     refine nC [2,13,0] [95] [] [] (nC [2,13,0] [96] [] [] (nC [2,13,0] [97] [(0,v_ 13 (Dv L hke))] [] (nC [2,13,0] [98] [] [] (mN [2,13,0] (λnO=>[(99,.slice (some ⟨nO,0,none⟩) (1) (1))]) (λ_=>[]) (λnO=>.aD nO [.string (nS (ah S.O tk).aq j),vI ((ah S.O ek).id)] 126) (λnO=>ct.cut (ι:=(Option Addr)×Nat) (bQ:=λ((tM,tN):(Option Addr)×Nat)=>(aaR f b4 b5 b15 L tk A7 S c8 i oP c18 j tM tN)) (dz:=λ((tM,tN):(Option Addr)×Nat)=>([U5 b15 S i tk Ae j ce,aaQ tM j tN S tk,U4 L tk S,.aD b16 [.map (some (L.m tk))] 195,U6 oP S tk c18]++Qe b5 An i cn K S A7 c8 b4 f m t L++aaT S L tk R nO j ek)) [2,13,0] rfl rfl ?_ rfl (λ_=>d6) ?_)))))
     ·exact mM 1 100 (some ⟨nO,0,none⟩) 1 1 [.string (nS (ah S.O tk).aq j),vI ((ah S.O ek).id)] rfl (gi (j:=17) rfl) (λtM tN=>aE.cT 1 rfl (zc (λx=>HP.abs (aK 126 2 _ _ _ x)) (EH hj2 X7)) (sl 100 (.slice tM (j+1) (tN)) (.slice tM ((j+1)) (tN)) (rfl) (NL (MD (tM,tN) [0,2,3,8,11,19,20,21,79,80,81,100] [0,1,2,3,4,5,6,7,8,9,10,11,12,13,14,15,16,17]))))
     rintro⟨tM,tN⟩
     exact nC [2,13,0] [101] [] [] (ct.last rfl rfl (jC 1 [] [(0,a_ 0 b15)] [(0,[(9,.slice tM ((j+1)) (tN))])] (NL (aF.np (BX (ax.region (jK 2 [81] [(0,wJ ((j:Int)+1) (↑(j+1)))] (NL (tJ ((j+1),tM,tN) [0,1,2,3,4,5,6,7,8,9,10,11,12,13,14,15,16] (d5))))))))))
    have hke:(ah S.O ek).kind=3:=hI.kind Qh
    refine rM (List.range 18) 9 [2,13,0] (jR 8 [0,2,3,8,11,19,20,21,79,80,81,86,87,91,92] [(1,a_ 2 b15),(6,v_ 1 (eF L bZ))] (ct.ji 0 (d:=(some 93)) (t:=195) (K:=9) (E:=175) (b:=(L.m tk)) (cnt:=(ah S.O tk).aq.length) (f:=(nI L (ah S.O tk).aq)) (x:=(.tmp 91)) (ix:=(.tmp 92)) (key:=.string (nS (ah S.O tk).aq j)) (z:=.nilIface) (kl:=(.string (nS (ah S.O tk).aq j).data.toList)) (q:=(some (jg L ⟨ek,3⟩))) d6 d6 (λ_=>d6) (λ_=>d6) Hy Tryz.underlying195 (λ_=>d6) (Kl d5) (by rw [y4,dV];rfl) d6 (mL [2,13,0] [] (iG (L.b ek)) ?_ (by rintro _ _ ⟨rfl,rfl⟩;rfl))))
    rintro _ _ ⟨rfl,rfl⟩
    refine nC [2,13,0] [95] [] [] (nC [2,13,0] [96] [] [] (nC [2,13,0] [97] [(0,v_ 13 (Dv L hke))] [] (nC [2,13,0] [98] [] [] (mN [2,13,0] (λvQ=>[(99,.slice (some ⟨vQ,0,none⟩) (1) (1))]) (λ_=>[]) (λvQ=>.aD vQ [.string (nS (ah S.O tk).aq j),vI ((ah S.O ek).id)] 126) (λvQ=>ct.cut (ι:=(Option Addr)×Nat) (bQ:=λ((qf,qg):(Option Addr)×Nat)=>(aaR f b4 b5 b15 L tk A7 S c8 i oP c18 j qf qg)) (dz:=λ((qf,qg):(Option Addr)×Nat)=>([U5 b15 S i tk Ae j ce,aaQ qf j qg S tk,U4 L tk S,.aD b16 [.map (some (L.m tk))] 195,U6 oP S tk c18]++Qe b5 An i cn K S A7 c8 b4 f m t L++aaT S L tk R vQ j ek)) [2,13,0] rfl rfl ?_ rfl (λ_=>d6) ?_)))))
    ·exact mM 1 100 (some ⟨vQ,0,none⟩) 1 1 [.string (nS (ah S.O tk).aq j),vI ((ah S.O ek).id)] rfl (gi (j:=17) rfl) (λqf qg=>aE.cT 1 rfl (zc (λx=>HP.abs (aK 126 2 _ _ _ x)) (EH hj2 X7)) (sl 100 (.slice qf (j+1) (qg)) (.slice qf ((j+1)) (qg)) (rfl) (NL (MD (qf,qg) [0,2,3,8,11,19,20,21,79,80,81,100] [0,1,2,3,4,5,6,7,8,9,10,11,12,13,14,15,16,17]))))
    rintro⟨qf,qg⟩
    exact nC [2,13,0] [101] [] [] (ct.last rfl rfl (jC 1 [] [(0,a_ 0 b15)] [(0,[(9,.slice qf ((j+1)) (qg))])] (NL (aF.np (BX (ax.region (jK 2 [81] [(0,wJ ((j:Int)+1) (↑(j+1)))] (NL (tJ ((j+1),qf,qg) [0,1,2,3,4,5,6,7,8,9,10,11,12,13,14,15,16] (d5))))))))))
   refine XX (ax.region ?_)
   have hjl:j=(ah S.O tk).aq.length:=d5
   exact aE.mem (λw hS=>hS.adN (i:=15) (j:=2) (ay:=[0,1,3,4,5,6,7,8,9,10,11,12,13,14,16]) (k:=tk) rfl rfl d6 rfl (bZ)) (jN 4 [104,106] (λnH=>[(1,a_ 5 b5),(2,A_ 1 b15 10)]) (λ_=>[]) (λnH=>.aD nH [vI ((gV S i)),vI 2,vI ((ah S.O tk).mode),vI ((ah S.O tk).cO),vI ((ah S.O tk).cQ),vI ((ah S.O tk).bJ),vI ((ah S.O tk).bh),.slice none (0) (0),.string ⟨#[]⟩,.slice Ae (j) (ce)] 102) (λnH=>mM 6 22 (some ⟨nH,0,none⟩) 1 1 [vI ((gV S i)),vI 2,vI ((ah S.O tk).mode),vI ((ah S.O tk).cO),vI ((ah S.O tk).cQ),vI ((ah S.O tk).bJ),vI ((ah S.O tk).bh),.slice none (0) (0),.string ⟨#[]⟩,.slice Ae (j) (ce)] rfl (gi (j:=16) rfl) (λAk Al=>aE.cT 6 rfl (zc (λx=>HP.abs (aK 102 10 _ _ _ x)) (vH (iI d5) (zT hI.toInv0 hi2 qw cW) rfl (by show ((ah S.O tk).aq.map (gD S.O)).length=j;rw [ahQ,hjl]))) (sl 107 (.slice Ak (i+1) (Al)) (.slice Ak ((i+1)) (Al)) (rfl) (jC 2 [] [(1,a_ 5 b5)] [(5,[(0,.slice Ak ((i+1)) (Al))])] (LX (ax.region (jK 2 [21] [(0,wJ ((i:Int)+1) (↑(i+1)))] (NL (aF.mem (λw hS=>hS.nW (e:=5) (size:=1)) (aF.mem (λw hS=>hS.uM (R':=(mG ((aV S).take (i+1)) (K.put i none 0 Ae ce))) (i:=8) (j:=17) (ay:=[0,1,2,3,4,5,6,7,9,10,11,12,13,14,15,16]) rfl rfl d6 rfl (Dp (iI d5) (zT hI.toInv0 hi2 qw cW)) (Bk (iI d5) (zT hI.toInv0 hi2 qw cW) rfl)) (aF.mem (λw hS=>hS.uM (R':=(qP ((aV S).take (i+1)) (K.put i none 0 Ae ce))) (i:=8) (j:=3) (ay:=[0,1,2,4,5,6,7,9,10,11,12,13,14,15,16]) rfl rfl d6 rfl (Dq (iI d5) (zT hI.toInv0 hi2 qw cW)) ((Bl (iI d5) (zT hI.toInv0 hi2 qw cW) (by show ((ah S.O tk).aq.map (gD S.O)).length=j;rw [ahQ,hjl])).trans (by rw [hjl,ahW]))) (tJ ((i+1),Ak,Al,(K.put i none 0 Ae ce)) [6,7,0,1,8,9,10,11,12,13,2,14] (d5))))))))))))))
  have bZ:(ah S.O tk).kind=3:=hI.kind cW
  have hel:(ah S.O tk).aq.length<=8192:=hI.mq cW
  have hdl:(ah S.O tk).data.length<=140737488355328:=hI.TP cW
  refine ax.region (jK 5 [28,29] [(3,a_ 6 f)] (aE.ji 7 (d:=(some 30)) (t:=170) (K:=3) (E:=175) (b:=m) (n:=S.ay.length) (f:=(dg (dM L S.ay))) (x:=(.tmp 28)) (ix:=(.tmp 29)) (key:=vI ((gV S i))) (z:=.nilIface) (kl:=(.int .i64 (gV S i))) (r:=(some (jg L ⟨tk,3⟩))) (λ_=>d6) d6 (λ_=>d6) (λ_=>d6) ja Tryz.underlying170 (λ_=>d6) (mo (KJ hI.toInv0 hi2)) (by rw [kx,hget,qw];rfl) (jK 1 [6] [] (NS (jK 1 [31] [] (gE [] (iG (L.b tk)) (jK 1 [7] [] (NN (ax.seq (ax.o7 (S:=[pO S.O L]) (uR [0,1,3,4,5,6,7,8,9,10,11,12,13,14,15,16,17,18] (oJ 20 [(false,21)] [(false,2),(false,19)])) [8] (gT (oJ 20 [(false,21)] [(false,2),(false,19)]) (Fg f b4 b5++[(6,.iface 187 (vP (L.b tk)))]++Fh A7 S c8 i++[(33,vI ((gV S i))),(34,.iface 187 (vP (L.b tk)))]++Ld S tk) [0,1,3,4,5,6,7,8,9,10,11,12,13,14,15,16,17,18] [(5,v_ 0 (Jw L bZ)),(9,v_ 0 (Ul L bZ)),(13,v_ 0 (Um L bZ)),(17,p_ ⟨[.view 0 (.int .i64 ((ah S.O tk).bJ)),.view 0 (.int .i64 ((ah S.O tk).bh))],none,none,none,none⟩ [(∀F w,(bp (fQ S.O L)).h F w->w.cell? ⟨(L.b tk),5,none⟩=some (vI ((ah S.O tk).bh))),(∀F w,(bp (fQ S.O L)).h F w->w.cell? ⟨(L.b tk),4,none⟩=some (vI ((ah S.O tk).bJ)))] ⟨kZ (by rw [bZ];decide) (rfl),kZ (by rw [bZ];decide) (rfl),trivial⟩)] (lK.one (j:=20) (dj:=8) (R:=λf_ l_=>f_=([(52,.agg #[vI ((gV S i)),vI 3,vI ((ah S.O tk).mode),vI ((ah S.O tk).cO),vI ((ah S.O tk).cQ),vI ((ah S.O tk).bJ),vI ((ah S.O tk).bh),.slice none (0) (0),.string ⟨#[]⟩,.slice none (0) (0)]),(35,vI 3)]++Fg f b4 b5++[(6,.iface 187 (vP (L.b tk)))]++Fh A7 S c8 i++[(33,vI ((gV S i))),(34,.iface 187 (vP (L.b tk)))]++Ld S tk)/\l_=[]) [8] [(false,2,35),(false,19,52)] (gJ.of (ι:=Nat) (v:=λ(tO:Nat)=>vP tO) (l:=λ(tO:Nat)=>[zk8 tO]) [35,52] rfl rfl rfl rfl ?_) ?_ ?_))))))))))))
  ·intro u Aq
   exact jB 1 [8] (λtO=>.aD tO [vI 0,vI 0,vI 0,vI 0,vI 0,vI 0,vI 0,.slice none (0) (0),.string ⟨#[]⟩,.slice none (0) (0)] 102) (λtO=>NL (MD tO [8,35,52,0,2,3,6,19,20,21,33,34,39,43,47,51] [1,0]))
  ·refine dO.step (gJ.of (ι:=Unit) (v:=λ(_:Unit)=>.int .i64 3) (l:=λ(_:Unit)=>[]) [8] rfl rfl rfl rfl ?_) ?_
   ·intro u Aq
    exact gE [] (zX (vP (L.b tk))) (NL (MD () [35,8,0,2,3,6,19,20,21,33,34,39,43,47,51] [0]))
   rintro _ _ ⟨_,rfl,rfl⟩
   refine dO.step (gJ.of (ι:=Unit) (v:=λ(_:Unit)=>.agg #[vI ((gV S i)),vI 3,vI ((ah S.O tk).mode),vI ((ah S.O tk).cO),vI ((ah S.O tk).cQ),vI ((ah S.O tk).bJ),vI ((ah S.O tk).bh),.slice none (0) (0),.string ⟨#[]⟩,.slice none (0) (0)]) (l:=λ(_:Unit)=>[]) [8] rfl rfl rfl rfl ?_) ?_
   ·intro u Aq
    exact jK 1 [52] [] (NL (MD () [52,8,35,0,2,3,6,19,20,21,33,34,39,43,47,51] [0]))
   rintro _ _ ⟨_,rfl,rfl⟩
   exact⟨rfl,rfl⟩
  rintro _ _ ⟨rfl,rfl⟩ _ _ ⟨tO,rfl,rfl⟩
  exact eu.last d6 (jC 1 [] [(0,A_ 0 tO 10)] [(0,([(0,vI ((gV S i))),(1,vI 3)]++aaS S tk))] (NL (aF.np (NX (SQ (jK 1 [53] [] (NN (ax.block (SR (jK 3 [55,56] [] (NF (SR (jK 3 [64,65] [] (NT (SR (jK 1 [10] [] (NN (ax.region (jC 6 [] [(3,v_ 9 (afP L bZ)),(5,a_ 0 tO)] [(0,[(8,.string (ah S.O tk).target)])] (LX (ax.region (jN 4 [104,106] (λb32=>[(1,a_ 1 b5),(2,A_ 0 tO 10)]) (λ_=>[]) (λb32=>.aD b32 [vI ((gV S i)),vI 3,vI ((ah S.O tk).mode),vI ((ah S.O tk).cO),vI ((ah S.O tk).cQ),vI ((ah S.O tk).bJ),vI ((ah S.O tk).bh),.slice none (0) (0),.string (ah S.O tk).target,.slice none (0) (0)] 102) (λb32=>mM 2 22 (some ⟨b32,0,none⟩) 1 1 [vI ((gV S i)),vI 3,vI ((ah S.O tk).mode),vI ((ah S.O tk).cO),vI ((ah S.O tk).cQ),vI ((ah S.O tk).bJ),vI ((ah S.O tk).bh),.slice none (0) (0),.string (ah S.O tk).target,.slice none (0) (0)] rfl (gi (j:=13) rfl) (λMr Ms=>aE.cT 2 rfl (zc (λx=>HP.abs (aK 102 10 _ _ _ x)) (vH (iI d5) (xX hI.toInv0 hi2 qw cW) rfl rfl)) (sl 107 (.slice Mr (i+1) (Ms)) (.slice Mr ((i+1)) (Ms)) (rfl) (jC 2 [] [(1,a_ 1 b5)] [(1,[(0,.slice Mr ((i+1)) (Ms))])] (LX (ax.region (jK 2 [21] [(0,wJ ((i:Int)+1) (↑(i+1)))] (NL (aF.mem (λw hS=>hS.nW (e:=5) (size:=1)) (aF.mem (λw hS=>hS.nW (e:=126) (size:=2)) (aF.mem (λw hS=>hS.uM (R':=(mG ((aV S).take (i+1)) (K.put i none 0 none 0))) (i:=4) (j:=14) (ay:=[0,1,2,3,5,6,7,8,9,10,11,12,13,15]) rfl rfl d6 rfl (Dp (iI d5) (xX hI.toInv0 hi2 qw cW)) (Bk (iI d5) (xX hI.toInv0 hi2 qw cW) rfl)) (aF.mem (λw hS=>hS.uM (R':=(qP ((aV S).take (i+1)) (K.put i none 0 none 0))) (i:=4) (j:=14) (ay:=[0,1,2,3,5,6,7,8,9,10,11,12,13]) rfl rfl d6 rfl (Dq (iI d5) (xX hI.toInv0 hi2 qw cW)) ((Bl (iI d5) (xX hI.toInv0 hi2 qw cW) rfl))) (tJ ((i+1),Mr,Ms,(K.put i none 0 none 0)) [3,4,0,1,5,6,7,8,9,10,11,12] (d5))))))))))))))))))))))))))))))))))))
 refine XX (SR ?_)
 have hie:(aV S).length=i:=by rw [iF];omega
 have hgt:((aV S).take i)=(aV S):=by rw [←hie,ahW]
 exact aE.cT 1 (p:=.abs (aK 102 10 An i cn (bP K ((aV S).take i)))) (p':=.abs (aK 102 10 An ((aV S).length) cn (bP K (aV S)))) d6 (by rw [hgt,hie]) (aE.cT 2 (p:=.abs (kY (qP ((aV S).take i) K) i)) (p':=.abs (kY (qP (aV S) K) ((aV S).length))) d6 (by rw [hgt,hie]) (aE.cT 3 (p:=.abs (kY (mG ((aV S).take i) K) i)) (p':=.abs (kY (mG (aV S) K) ((aV S).length))) d6 (by rw [hgt,hie]) (jC 2 [] [(0,a_ 0 b5),(1,a_ 5 b4)] [(5,[(0,.slice An (i) (cn))])] (eS [a_ 5 b4] ⟨An,cn,K,by rw [hie],rfl⟩ [6,7,8,9,10,1,2,3,11]))))
end
section
open Go.RowKit Go.Maps bw aI
attribute [local irreducible] aE bH ax aF ct eu lK
abbrev zl1 (b2:Nat) (X:FM):=(.aD b2 [vI (X.cN),vI (X.cB),vI (X.cH),vI (X.cS),vI (X.cZ)] 28:HP)
abbrev S5 (b1:Nat) (A:Option Addr) (ns:List aP) (c):=(.aD b1 [.slice A (ns.length) (c)] 24:HP)
abbrev zl3 (b9:Nat) (ns) (k:Nat):=(.aD b9 [vI ((nd ns k).id),vI ((nd ns k).mode),vI ((nd ns k).cO),vI ((nd ns k).cQ),vI ((nd ns k).bJ),vI ((nd ns k).bh),vI 0,vI 0,.bool false] 183:HP)
abbrev zl4 (b1:Nat) (X:FM):=([(2,vP b1),(39,.agg #[vI (X.cN),vI (X.cB),vI (X.cH),vI (X.cS),vI (X.cZ)])]:Fr)
abbrev zl5 (b7:Nat) (m3:Nat) (t4:Nat) (S:bg) (L:HL) (R:eG):=([pF b7 m3 t4 S.X,pI m3 L S.ay,pT t4 S.X.cH S.aL L S.us,pO S.O L,pD S.O L,pE S.O L,.abs R]:List HP)
theorem S6 {β:Bs} (A:Option Addr) (c:Nat) (ns:List aP) (Y:fk) (hG:aO β A ns Y) (hl:ns.length<=1048576) (hd:∀i,i<ns.length->(nd ns i).data.length<=1048576/\(nd ns i).aq.length<=1048576) (hwf:∀i,i<ns.length->∀j,j<(nd ns i).aq.length->-9223372036854775808<=(bO ns i j).id/\(bO ns i j).id<=9223372036854775807) (hnm:∀i,i<ns.length->∀j,j<(nd ns i).aq.length->(bO ns i j).name.size<=1048576) (X:FM) :
 aW Tryz.prog β 50 #[.agg #[.slice A (ns.length) (c)],.agg #[vI (X.cN),vI (X.cB),vI (X.cH),vI (X.cS),vI (X.cZ)]] [] (λv l=>(¬kU X/\v=.tuple #[.pointer none,vI 179]/\l=[])\/(kU X/\¬cD ns/\v=.tuple #[.pointer none,vI 140]/\l=[])\/(kU X/\cD ns/\∃S f m t L,kR X ns ns.length 0 S/\v=.tuple #[vP f,vI 0]/\l=pA f m t L S)):=by
 refine SE Tryz.func50 Tryz.ntmps50 (λR=>SR (jB 1 [2] (λb1=>.aD b1 [.slice A (ns.length) (c)] 24) (λb1=>jB 3 [3] (λb2=>.aD b2 [vI (X.cN),vI (X.cB),vI (X.cH),vI (X.cS),vI (X.cZ)] 28) (λb2=>NZ (jK 2 [15] [(1,a_ 2 b2)] (gE [] (yV X.cN 4096) (jK 2 [18] [] (sN 18 ((0<=X.cN/\X.cN<=4096)) (λpU=>jK 17 [35] [] (NT (zR (.inl ⟨λh=>pU h.cN,rfl,rfl⟩)))) (λpU=>jK 2 [20] [(1,a_ 2 b2)] (gE [] (yV X.cB 1099511627776) (jK 3 [24] [] (sN 24 ((0<=X.cB/\X.cB<=1099511627776)) (λqZ=>jK 11 [35] [] (NT (zR (.inl ⟨λh=>qZ h.cB,rfl,rfl⟩)))) (λqZ=>jK 2 [26] [(1,a_ 2 b2)] (gE [] (yV X.cH 1024) (jK 3 [30] [] (sN 30 ((0<=X.cH/\X.cH<=1024)) (λrA=>jK 5 [35] [] (NT (zR (.inl ⟨λh=>rA h.cH,rfl,rfl⟩)))) (λrA=>jK 2 [32] [(1,A_ 2 b2 2)] (gE [] (rX X.cS X.cZ) (jK 2 [35] [] (NN (cN (iM X.cS X.cZ) (λyJ=>zR (.inl ⟨λh=>yJ h.now,rfl,rfl⟩)) (λyJ=>?_))))))))))))))))))))))
 have hcap:kU X:=⟨pU,qZ,rA,yJ⟩
 refine KX (SQ (jK 1 [36] [(0,a_ 1 b1)] (gE [] (Zb A c ns Y hG hl (λi hi=>⟨Pd (hd i hi).1 d8,(hd i hi).2⟩) hwf hnm) (jK 1 [38] [] (NN (cN (((if cD ns then 0 else 140):Int)=(0:Int)) (λh38=>?_) (λh38=>?_)))))))
 ·have hng:¬cD ns:=λh=>h38 (t8 h)
  exact zR (.inr (.inl ⟨hcap,hng,rfl,rfl⟩))
 have hok:cD ns:=ahY (λh=>gn)
 refine KX (ax.seq (ax.o7 (S:=[zl1 b2 X]) (uR [0,2,3] (oJ 4 [(false,5),(false,6),(false,7)] [(false,1)])) [2] (gT (oJ 4 [(false,5),(false,6),(false,7)] [(false,1)]) (zl4 b1 X++[(42,vI (X.cH))]) [0,2,3] [(0,A_ 0 b2 5),(2,a_ 0 b2)] (lK.one (j:=4) (dj:=43) (R:=λf_ l_=>∃m3:Nat,f_=(40,.map (some m3))::(zl4 b1 X++[(42,vI (X.cH))])/\l_=[.abs (bK Tryz.prog 3 m3 (λ_=>none) 0)]) [2] [(false,1,40)] (gJ.of (ι:=Nat) (v:=λ(t4:Nat)=>vP t4) (l:=λ(t4:Nat)=>[.abs (ia 233 t4 (min (max X.cH 0) 1024) 0 [])]) [40] rfl rfl rfl rfl ?_) ?_ ?_))))
 ·intro u Aq
  exact gX [] (Zq X.cH) (λt4=>NL (MD t4 [43,40,2,39,42] [0,1]))
 ·refine dO.step (gJ.of (ι:=Nat) (v:=λ(m3:Nat)=>.map (some m3)) (l:=λ(m3:Nat)=>[.abs (bK Tryz.prog 3 m3 (λ_=>none) 0)]) [43] rfl rfl rfl rfl ?_) ?_
  ·intro u Aq
   exact aE.sK (d:=(some 40)) (t:=170) (λ_=>d6) Tryz.prog rfl 3 (λm3=>NL (MD m3 [40,43,2,39,42] [1,0]))
  rintro _ _ ⟨m3,rfl,rfl⟩
  exact⟨m3,rfl,rfl⟩
 rintro _ _ ⟨m3,rfl,rfl⟩ _ _ ⟨t4,rfl,rfl⟩
 refine eu.cut (ι:=Unit) (bQ:=λ(_:Unit)=>[(2,vP b1),(44,.agg #[vI (X.cN),vI (X.cB),vI (X.cH),vI (X.cS),vI (X.cZ),.map (some m3),vP t4,vI 0,vI 0,vI 0])]) (dz:=λ(_:Unit)=>[.abs (ia 233 t4 (min (max X.cH 0) 1024) 0 []),.abs R,S5 b1 A ns c,zl1 b2 X,.abs (bK Tryz.prog 3 m3 (λ_=>none) 0)]) [3] d6 ?_ rfl (λ_=>d6) ?_
 ·exact jK 1 [44] [] (NL (MD () [2,44] [1,2,3,4,0]))
 rintro _
 refine eu.cut (ι:=Nat) (bQ:=λ(b7:Nat)=>[(2,vP b1),(45,vP b7)]) (dz:=λ(b7:Nat)=>[.abs (ia 233 t4 (min (max X.cH 0) 1024) 0 []),.abs R,S5 b1 A ns c,zl1 b2 X,.abs (bK Tryz.prog 3 m3 (λ_=>none) 0),pF b7 m3 t4 {X with last:=0,aq:=0,used:=0}]) [3] d6 ?_ rfl (λ_=>d6) ?_
 ·exact jB 1 [45] (λb7=>pF b7 m3 t4 {X with last:=0,aq:=0,used:=0}) (λb7=>NL (MD b7 [2,45] [0,1,2,3,4,5]))
 rintro b7
 refine eu.last d6 (jK 1 [6] [] (NL (aF.np (NX (ax.seq (SR ?_))))))
 obtain⟨L,hL0⟩:∃L:HL,L=⟨λ_=>0,λ_=>0,λ_=>none,λ_=>0⟩:=⟨_,rfl⟩
 refine aE.mem (λw hS=>hS.M6 (fQ (BD X).O L) (Ih X L).1) (aE.mem (λw hS=>hS.M6 (eX (BD X).O L) (Ih X L).2.1) (aE.mem (λw hS=>hS.M6 (ig (BD X).O L) (Ih X L).2.2) ?_))
 have hc:min (max X.cH 0) 1024=X.cH:=by have:=hcap.cH;omega
 refine aE.mem (λw hS=>by rw [hc,←Oh] at hS;exact hS) (jK 4 [47,48,49] [(1,a_ 2 b1)] (NN (ax.block (lJ (λ(k,S,L)=>(k<=ns.length)/\(xq X ns k S)) (λ(k,S,L)=>ns.length-k) (λ(k,S,L)=>[(2,vP b1),(6,vP b7),(47,.slice A (ns.length) (c)),(48,vI ↑ns.length),(49,vI ↑k)]) (λ(k,S,L)=>([S5 b1 A ns c]++zl5 b7 m3 t4 S L R)) (0,(BD X),L) [2,5,4,0,6,7,8,1] (⟨L4 _,WX hcap⟩) ?_))))
 rintro⟨k,S,L⟩ ⟨hk,hB⟩
 refine SR (jK 1 [50] [] (NN (ax.seq (cP ((((k:Nat):Int):Int)<(((ns.length:Nat):Int):Int)) (λh50=>?_) (λh50=>?_)))))
 ·have hk2:k<ns.length:=d5
  have hdk:=hd k hk2
  have hds:=Md (λi hi=>(hd i hi).1) hk
  have yq:=hok.ids k hk2
  have hni:=hB.new hok hk2
  have wR:(Lit.int .i64 (nd ns k).id).wf=true:=WalkArith.wf_i64 d5
  have hkk:=(hok.node k hk2).kind
  have qU:S.X.used=(fX ns k:Int):=by rw [hB.cap]
  have hil:=hB.inv.len
  refine KX (ax.seq (ax.block (SR (jN 4 [8] (λb8=>[(0,x_ k ns.length (aO.hd hG (i:=k) d5)),(1,Eh (iL Y k (nd ns k)) (λ_ _ h=>aO.rd hG d5 h)),(3,A_ 8 b8 10)]) (λ_=>[]) (λb8=>.aD b8 (iL Y k (nd ns k)) 102) (λb8=>NS (jN 13 [9] (λb9=>[(1,a_ 8 b8),(3,a_ 8 b8),(5,a_ 8 b8),(7,a_ 8 b8),(9,A_ 8 b8 2),(12,A_ 9 b9 9)]) (λ_=>[]) (λb9=>.aD b9 [vI ((nd ns k).id),vI ((nd ns k).mode),vI ((nd ns k).cO),vI ((nd ns k).cQ),vI ((nd ns k).bJ),vI ((nd ns k).bh),vI 0,vI 0,.bool false] 183) (λb9=>NZ (jK 2 [65] [(1,a_ 8 b8)] (NN (ax.block (SR (jK 2 [77] [] (NN (cP (((nd ns k).kind:Int)=(1:Int)) (λhk1=>?_) (λhk1=>?_)))))))))))))))
  ·refine rM (List.range 14) 9 [1,8,9] (jR 9 [2,6,8,47,48,49,82,84,85,87] [(3,a_ 0 b7),(5,a_ 1 b8),(6,A_ 2 b9 9),(8,a_ 1 b8)] (mL [2,9,10] [] (Cj (Y.dA k) (Y.dC k) (nd ns k).data (hG.data k d5) (by have:=(hd k d5).1;omega)) ?_ (by rintro _ _ ⟨Fj,c11,rfl,rfl⟩;rfl)))
   rintro _ _ ⟨Fj,c11,rfl,rfl⟩
   refine nC [2,9,10] [89] [] [] (mN [2,9,10] (λb12=>[(90,vP b12)]) (λ_=>[]) (λb12=>.aD b12 [vI ((nd ns k).id),vI ((nd ns k).mode),vI ((nd ns k).cO),vI ((nd ns k).cQ),vI ((nd ns k).bJ),vI ((nd ns k).bh),vI 0,vI 0,.bool false,.slice Fj ((nd ns k).data.length) (c11)] 186) (λb12=>nC [2,9,10] [91] [] [] (ct.last rfl rfl ?_)))
   obtain⟨L2,jy⟩:∃L2:HL,L2=L.put (jZ (nd ns k)) b12 0 Fj c11:=⟨_,rfl⟩
   have hfr:=hB.fresh hok d5
   refine aE.mem (λw hS=>hS.FU jy hfr (o:=(wk (nd ns k))) (i:=5) (j:=11) (ix:=[0,1,2,3,4,6,7,8,9,10]) rfl rfl d6 rfl (by show (nd ns k).kind≠0;rw [hk1];decide) ((xJ (L:=L2) (k:=(jZ (nd ns k))) (o:=(wk (nd ns k))) hk1).trans (by rw [show L2.dA (jZ (nd ns k))=Fj by rw [jy];exact t8 rfl,show L2.dC (jZ (nd ns k))=c11 by rw [jy];exact t8 rfl];rfl)) (by show yh (nd ns k).kind=_;rw [hk1]<;>rfl)) (aE.jk [(7,.abs (bp (ig ((gh S (nd ns k)).O) L2)))] (λw hS=>hS.Jg jy hfr (o:=(wk (nd ns k))) (i:=7) rfl (by show ¬(nd ns k).kind=2;rw [hk1];decide)) (aE.mem (λw hS=>hS.afY jy (o:=(wk (nd ns k))) (i:=6) (j:=1) (ix:=[0,2,3,4,5,7,8,9,10]) rfl rfl d6 rfl hk1) (aE.jk [(4,.abs (bK Tryz.prog 3 m3 (dg (dM L2 S.ay)) S.ay.length)),(5,.abs (ia 233 t4 S.X.cH S.aL (dM L2 S.us)))] (λw hS=>by rw [pZ jy hfr.ay,pZ jy hfr.us];exact hS) ?_)))
   have Qi:jg L2 (uX (nd ns k))=.iface 184 (vP b12):=by unfold uX;rw [y6 jy,hk1];rfl
   exact aE.qF 4 (d:=none) (t:=170) (K:=3) (E:=175) (b:=m3) (n:=S.ay.length) (f:=(dg (dM L2 S.ay))) (x:=(.tmp 82)) (ix:=(.tmp 84)) (y:=(.tmp 91)) (key:=vI ((nd ns k).id)) (u:=.iface 184 (vP b12)) (kl:=(.int .i64 (nd ns k).id)) (n':=(S.ay.length+1)) (f':=(dg (dM L2 (ins (nd ns k).id (uX (nd ns k)) S.ay)))) (λ_=>d6) d6 (λ_=>d6) (λ_=>d6) (λ_=>d6) ja Tryz.underlying170 (by unfold maxLen;omega) (mo wR) (by rw [kx,hni];rfl) (by rw [←Qi];exact y5 hni) (NL (aF.np (BX (SR (jC 6 [] [(2,a_ 8 b8),(5,a_ 3 b7)] [(3,[(7,vI ((nd ns k).id))])] (NN (rM (List.range 11) 10 [3,8] (jR 10 [2,6,47,48,49,118,120] [(3,a_ 0 b7),(5,a_ 1 b8),(7,wJ (S.X.used+(((nd ns k).data.length:Nat):Int)) (S.X.used+(((nd ns k).data.length:Nat):Int)))] (ct.last rfl rfl (jC 1 [] [(0,a_ 3 b7)] [(3,[(9,vI (S.X.used+(((nd ns k).data.length:Nat):Int)))])] (NL (aF.np (BX (ax.region (jK 2 [49] [(0,wJ ((k:Int)+1) (↑(k+1)))] (NL (aF.jk [(3,.aD b7 [vI ((gh S (nd ns k)).X.cN),vI ((gh S (nd ns k)).X.cB),vI ((gh S (nd ns k)).X.cH),vI ((gh S (nd ns k)).X.cS),vI ((gh S (nd ns k)).X.cZ),.map (some m3),vP t4,vI ((gh S (nd ns k)).X.last),vI ((gh S (nd ns k)).X.aq),vI ((gh S (nd ns k)).X.used)] 173),(4,.abs (bK Tryz.prog 3 m3 (dg (dM L2 (gh S (nd ns k)).ay)) ((gh S (nd ns k)).ay.length))),(5,.abs (ia 233 t4 (gh S (nd ns k)).X.cH (gh S (nd ns k)).aL (dM L2 (gh S (nd ns k)).us)))] (λw hS=>by rw [show (gh S (nd ns k)).ay.length=S.ay.length+1 from kK _ _ _];exact hS) (tJ ((k+1),(gh S (nd ns k)),L2) [2,3,4,5,1,0,6,7] (⟨d5,EX hok (λi hi=>(hd i hi).1) d5 hB⟩)))))))))))))))))))
  refine SR (jK 2 [92] [] (NN (cP (((nd ns k).kind:Int)=(3:Int)) (λhk3=>?_) (λhk3=>?_))))
  ·refine rM (List.range 13) 10 [1,8,9] (jR 10 [2,6,8,47,48,49,97,99,103] [(3,a_ 0 b7),(5,a_ 1 b8),(6,A_ 2 b9 9),(8,a_ 1 b8)] (mN [1,8,9] (λb13=>[(104,vP b13)]) (λ_=>[]) (λb13=>.aD b13 [vI ((nd ns k).id),vI ((nd ns k).mode),vI ((nd ns k).cO),vI ((nd ns k).cQ),vI ((nd ns k).bJ),vI ((nd ns k).bh),vI 0,vI 0,.bool false,.string (nd ns k).target] 189) (λb13=>nC [1,8,9] [105] [] [] (ct.last rfl rfl ?_))))
   obtain⟨L2,jy⟩:∃L2:HL,L2=L.put (jZ (nd ns k)) b13 0 none 0:=⟨_,rfl⟩
   have hfr:=hB.fresh hok d5
   refine aE.mem (λw hS=>hS.FU jy hfr (o:=(wk (nd ns k))) (i:=4) (j:=10) (ix:=[0,1,2,3,5,6,7,8,9]) rfl rfl d6 rfl (by show (nd ns k).kind≠0;rw [hk3];decide) ((Es (L:=L2) (k:=(jZ (nd ns k))) (o:=(wk (nd ns k))) hk3).trans iu) (by show yh (nd ns k).kind=_;rw [hk3]<;>rfl)) (aE.jk [(6,.abs (bp (ig ((gh S (nd ns k)).O) L2)))] (λw hS=>hS.Jg jy hfr (o:=(wk (nd ns k))) (i:=6) rfl (by show ¬(nd ns k).kind=2;rw [hk3];decide)) (aE.jk [(5,.abs (bp (eX ((gh S (nd ns k)).O) L2)))] (λw hS=>hS.Jh jy (o:=(wk (nd ns k))) (i:=5) rfl (by show ¬(nd ns k).kind=1;rw [hk3];decide)) (aE.jk [(3,.abs (bK Tryz.prog 3 m3 (dg (dM L2 S.ay)) S.ay.length)),(4,.abs (ia 233 t4 S.X.cH S.aL (dM L2 S.us)))] (λw hS=>by rw [pZ jy hfr.ay,pZ jy hfr.us];exact hS) ?_)))
   have Qi:jg L2 (uX (nd ns k))=.iface 187 (vP b13):=by unfold uX;rw [y6 jy,hk3];rfl
   exact aE.qF 3 (d:=none) (t:=170) (K:=3) (E:=175) (b:=m3) (n:=S.ay.length) (f:=(dg (dM L2 S.ay))) (x:=(.tmp 97)) (ix:=(.tmp 99)) (y:=(.tmp 105)) (key:=vI ((nd ns k).id)) (u:=.iface 187 (vP b13)) (kl:=(.int .i64 (nd ns k).id)) (n':=(S.ay.length+1)) (f':=(dg (dM L2 (ins (nd ns k).id (uX (nd ns k)) S.ay)))) (λ_=>d6) d6 (λ_=>d6) (λ_=>d6) (λ_=>d6) ja Tryz.underlying170 (by unfold maxLen;omega) (mo wR) (by rw [kx,hni];rfl) (by rw [←Qi];exact y5 hni) (NL (aF.np (BX (SR (jC 6 [] [(2,a_ 8 b8),(5,a_ 2 b7)] [(2,[(7,vI ((nd ns k).id))])] (NN (rM (List.range 11) 10 [2,8] (jR 10 [2,6,47,48,49,118,120] [(3,a_ 0 b7),(5,a_ 1 b8),(7,wJ (S.X.used+(((nd ns k).data.length:Nat):Int)) (S.X.used+(((nd ns k).data.length:Nat):Int)))] (ct.last rfl rfl (jC 1 [] [(0,a_ 2 b7)] [(2,[(9,vI (S.X.used+(((nd ns k).data.length:Nat):Int)))])] (NL (aF.np (BX (ax.region (jK 2 [49] [(0,wJ ((k:Int)+1) (↑(k+1)))] (NL (aF.jk [(2,.aD b7 [vI ((gh S (nd ns k)).X.cN),vI ((gh S (nd ns k)).X.cB),vI ((gh S (nd ns k)).X.cH),vI ((gh S (nd ns k)).X.cS),vI ((gh S (nd ns k)).X.cZ),.map (some m3),vP t4,vI ((gh S (nd ns k)).X.last),vI ((gh S (nd ns k)).X.aq),vI ((gh S (nd ns k)).X.used)] 173),(3,.abs (bK Tryz.prog 3 m3 (dg (dM L2 (gh S (nd ns k)).ay)) ((gh S (nd ns k)).ay.length))),(4,.abs (ia 233 t4 (gh S (nd ns k)).X.cH (gh S (nd ns k)).aL (dM L2 (gh S (nd ns k)).us)))] (λw hS=>by rw [show (gh S (nd ns k)).ay.length=S.ay.length+1 from kK _ _ _];exact hS) (tJ ((k+1),(gh S (nd ns k)),L2) [1,2,3,4,0,5,6,7] (⟨d5,EX hok (λi hi=>(hd i hi).1) d5 hB⟩)))))))))))))))))))
  have uo:(nd ns k).kind=2:=d5
  refine rM (List.range 12) 7 [1,8,9] (jR 7 [2,6,8,47,48,49,69,71,72] [(3,a_ 0 b7),(5,a_ 1 b8),(6,A_ 2 b9 9)] (ct.cut (ι:=Nat) (bQ:=λ(m14:Nat)=>[(2,vP b1),(6,vP b7),(8,vP b8),(47,.slice A (ns.length) (c)),(48,vI ↑ns.length),(49,vI ↑k),(69,.map (some m3)),(71,vI ((nd ns k).id)),(72,.agg #[vI ((nd ns k).id),vI ((nd ns k).mode),vI ((nd ns k).cO),vI ((nd ns k).cQ),vI ((nd ns k).bJ),vI ((nd ns k).bh),vI 0,vI 0,.bool false]),(73,.map (some m14))]) (dz:=λ(m14:Nat)=>([S5 b1 A ns c]++zl5 b7 m3 t4 S L R++[.aD b8 (iL Y k (nd ns k)) 102,zl3 b9 ns k,.abs (bK Tryz.prog 9 m14 (λ_=>none) 0)])) [1,8,9] rfl rfl ?_ rfl (λ_=>d6) ?_))
  ·exact aE.sK (d:=(some 73)) (t:=195) (λ_=>d6) Tryz.prog rfl 9 (λm14=>NL (MD m14 [2,6,8,47,48,49,69,71,72,73] [0,1,2,3,4,5,6,7,8,9,10]))
  rintro m14
  refine nC [1,8,9] [74] [] [] (mN [1,8,9] (λb15=>[(75,vP b15)]) (λ_=>[]) (λb15=>.aD b15 [vI ((nd ns k).id),vI ((nd ns k).mode),vI ((nd ns k).cO),vI ((nd ns k).cQ),vI ((nd ns k).bJ),vI ((nd ns k).bh),vI 0,vI 0,.bool false,.map (some m14),.pointer none] 197) (λb15=>nC [1,8,9] [76] [] [] (ct.last rfl rfl ?_)))
  obtain⟨L2,jy⟩:∃L2:HL,L2=L.put (jZ (nd ns k)) b15 m14 none 0:=⟨_,rfl⟩
  have hfr:=hB.fresh hok d5
  refine aE.mem (λw hS=>hS.FU jy hfr (o:=(wk (nd ns k))) (i:=4) (j:=11) (ix:=[0,1,2,3,5,6,7,8,9,10]) rfl rfl d6 rfl (by show (nd ns k).kind≠0;rw [uo];decide) ((uh (L:=L2) (k:=(jZ (nd ns k))) (o:=(wk (nd ns k))) uo).trans (by rw [Ow jy];rfl)) (by show yh (nd ns k).kind=_;rw [uo]<;>rfl)) (aE.mem (λw hS=>hS.abD jy hfr (o:=(wk (nd ns k))) (i:=6) (j:=10) (ix:=[0,1,2,3,4,5,7,8,9]) rfl rfl d6 rfl uo rfl) (aE.jk [(6,.abs (bp (eX ((gh S (nd ns k)).O) L2)))] (λw hS=>hS.Jh jy (o:=(wk (nd ns k))) (i:=6) rfl (by show ¬(nd ns k).kind=1;rw [uo];decide)) (aE.jk [(4,.abs (bK Tryz.prog 3 m3 (dg (dM L2 S.ay)) S.ay.length)),(5,.abs (ia 233 t4 S.X.cH S.aL (dM L2 S.us)))] (λw hS=>by rw [pZ jy hfr.ay,pZ jy hfr.us];exact hS) ?_)))
  have Qi:jg L2 (uX (nd ns k))=.iface 190 (vP b15):=by unfold uX;rw [y6 jy,uo];rfl
  exact aE.qF 4 (d:=none) (t:=170) (K:=3) (E:=175) (b:=m3) (n:=S.ay.length) (f:=(dg (dM L2 S.ay))) (x:=(.tmp 69)) (ix:=(.tmp 71)) (y:=(.tmp 76)) (key:=vI ((nd ns k).id)) (u:=.iface 190 (vP b15)) (kl:=(.int .i64 (nd ns k).id)) (n':=(S.ay.length+1)) (f':=(dg (dM L2 (ins (nd ns k).id (uX (nd ns k)) S.ay)))) (λ_=>d6) d6 (λ_=>d6) (λ_=>d6) (λ_=>d6) ja Tryz.underlying170 (by unfold maxLen;omega) (mo wR) (by rw [kx,hni];rfl) (by rw [←Qi];exact y5 hni) (NL (aF.np (BX (SR (jC 6 [] [(2,a_ 8 b8),(5,a_ 3 b7)] [(3,[(7,vI ((nd ns k).id))])] (NN (rM (List.range 11) 10 [3,8] (jR 10 [2,6,47,48,49,118,120] [(3,a_ 0 b7),(5,a_ 1 b8),(7,wJ (S.X.used+(((nd ns k).data.length:Nat):Int)) (S.X.used+(((nd ns k).data.length:Nat):Int)))] (ct.last rfl rfl (jC 1 [] [(0,a_ 3 b7)] [(3,[(9,vI (S.X.used+(((nd ns k).data.length:Nat):Int)))])] (NL (aF.np (BX (ax.region (jK 2 [49] [(0,wJ ((k:Int)+1) (↑(k+1)))] (NL (aF.jk [(3,.aD b7 [vI ((gh S (nd ns k)).X.cN),vI ((gh S (nd ns k)).X.cB),vI ((gh S (nd ns k)).X.cH),vI ((gh S (nd ns k)).X.cS),vI ((gh S (nd ns k)).X.cZ),.map (some m3),vP t4,vI ((gh S (nd ns k)).X.last),vI ((gh S (nd ns k)).X.aq),vI ((gh S (nd ns k)).X.used)] 173),(4,.abs (bK Tryz.prog 3 m3 (dg (dM L2 (gh S (nd ns k)).ay)) ((gh S (nd ns k)).ay.length))),(5,.abs (ia 233 t4 (gh S (nd ns k)).X.cH (gh S (nd ns k)).aL (dM L2 (gh S (nd ns k)).us)))] (λw hS=>by rw [show (gh S (nd ns k)).ay.length=S.ay.length+1 from kK _ _ _];exact hS) (tJ ((k+1),(gh S (nd ns k)),L2) [2,3,4,5,1,6,0,7] (⟨d5,EX hok (λi hi=>(hd i hi).1) d5 hB⟩)))))))))))))))))))
 refine XX (SQ (jK 4 [123,124,125] [(1,a_ 0 b1)] (NN (ax.block (lJ (λ(i,S1)=>(i<=ns.length)/\(kR X ns i 0 S1)) (λ(i,S1)=>ns.length-i) (λ(i,S1)=>[(6,vP b7),(123,.slice A (ns.length) (c)),(124,vI ↑ns.length),(125,vI ↑i)]) (λ(i,S1)=>([S5 b1 A ns c]++zl5 b7 m3 t4 S1 L R)) (0,S) [0,1,2,3,4,5,6,7] (⟨L4 _,by have h:=hB;rw [show k=ns.length by omega] at h;exact h.aq⟩) ?_)))))
 rintro⟨i,S1⟩ ⟨hi,hE⟩
 refine SR (jK 1 [126] [] (NN (ax.seq (cP ((((i:Nat):Int):Int)<(((ns.length:Nat):Int):Int)) (λagR=>KX (ax.seq (ax.block (SR (jN 4 [11] (λb16=>[(0,x_ i ns.length (aO.hd hG (i:=i) d5)),(1,Eh (iL Y i (nd ns i)) (λ_ _ h=>aO.rd hG d5 h)),(3,A_ 8 b16 10)]) (λ_=>[]) (λb16=>.aD b16 (iL Y i (nd ns i)) 102) (λb16=>NS (jK 4 [130,131,132] [(1,a_ 8 b16)] (NN (ax.block (lJ (λ(j,S2)=>(j<=(nd ns i).aq.length)/\(kR X ns i j S2)) (λ(j,S2)=>(nd ns i).aq.length-j) (λ(j,S2)=>[(6,vP b7),(11,vP b16),(123,.slice A (ns.length) (c)),(124,vI ↑ns.length),(125,vI ↑i),(130,.slice (Y.eA i) ((nd ns i).aq.length) ((Y.eC i))),(131,vI ↑((nd ns i).aq.length)),(132,vI ↑j)]) (λ(j,S2)=>([.aD b16 (iL Y i (nd ns i)) 102,S5 b1 A ns c]++zl5 b7 m3 t4 S2 L R)) (0,S1) [8,0,1,2,3,4,5,6,7] (⟨L4 _,hE⟩) ?_)))))))))) (λagR=>XX (zR (.inr (.inr ⟨hcap,hok,S1,b7,m3,t4,L,gn,rfl,rfl⟩)) [1,2,3,4,5,6,7]))))))
 rintro⟨j,S2⟩ ⟨hj,xE⟩
 refine SR (jK 1 [133] [] (NN (ax.seq (cP ((((j:Nat):Int):Int)<((((nd ns i).aq.length:Nat):Int):Int)) (λagS=>?_) (λagS=>XX (ax.region (jK 2 [125] [(0,wJ ((i:Int)+1) (↑(i+1)))] (NL (tJ ((i+1),S2) [1,2,3,4,5,6,7,8] (⟨d5,by have h:=xE;rw [show j=(nd ns i).aq.length by omega] at h;exact h.next⟩))))))))))
 have hj2:j<(nd ns i).aq.length:=d5
 have hi2:i<ns.length:=d5
 have agT:=xE.get hi2
 obtain⟨hes,jx,hk2⟩:=xE.look hok hi2 hj2
 have hti:=Ai hok hi2 hj2
 have hgi:aI.get S2.ay (nd ns i).id=some ⟨(jZ (nd ns i)),2⟩:=by rw [agT];unfold uX;rw [hk2]
 have hge:aI.get S2.ay (bO ns i j).id=some (qx ns (bO ns i j)):=by rw [←hti.2];exact xE.get hti.1
 have yq:=hok.ids i hi2
 have hiw:(Lit.int .i64 (nd ns i).id).wf=true:=WalkArith.wf_i64 d5
 have hew:(Lit.int .i64 (bO ns i j).id).wf=true:=WalkArith.wf_i64 (by have:=hwf i hi2 j hj2;omega)
 have hld:=xE.live hok hi2
 have fT:=xE.live hok hti.1
 have eH:(ah S2.O (jZ (nd ns i))).kind=2:=(xE.inv.kind hld).trans hk2
 have bZ:(ah S2.O (qx ns (bO ns i j)).k).kind=(qx ns (bO ns i j)).kind:=xE.inv.kind fT
 have h3:(qx ns (bO ns i j)).kind=1\/(qx ns (bO ns i j)).kind=2\/(qx ns (bO ns i j)).kind=3:=(xE.inv.ob _ fT).2.2
 have hlb:0<=(ah S2.O (qx ns (bO ns i j)).k).aU/\(ah S2.O (qx ns (bO ns i j)).k).aU<=8192:=xE.inv.lb fT
 have hel:(ah S2.O (jZ (nd ns i))).aq.length<=8192:=xE.inv.mq hld
 have eT:=hnm i hi2 j hj2
 have hde:=hd i hi2
 have Mq:=xE.inv.hX
 exact KX (ax.seq (ax.block (SR (jN 4 [13] (λb17=>[(0,x_ j ((nd ns i).aq.length) (cU.hd (hG.aq i d5) (i:=j) d5)),(1,r2 (cU.rd (hG.aq i d5) (i:=j) d5 (j:=0) rfl) (cU.rd (hG.aq i d5) (i:=j) d5 (j:=1) rfl)),(3,A_ 9 b17 2)]) (λ_=>[]) (λb17=>.aD b17 [.string (en (nd ns i).aq j).name,vI ((en (nd ns i).aq j).id)] 126) (λb17=>NN (ax.seq (rM (List.range 18) 17 [2,3,0,9] (jR 6 [6,11,13,123,124,125,130,131,132,139,141] [(3,a_ 0 b7),(5,a_ 2 b16)] (ct.ji 1 (d:=(some 142)) (t:=170) (K:=3) (E:=175) (b:=m3) (cnt:=S2.ay.length) (f:=(dg (dM L S2.ay))) (x:=(.tmp 139)) (ix:=(.tmp 141)) (key:=vI ((nd ns i).id)) (z:=.nilIface) (kl:=(.int .i64 (nd ns i).id)) (q:=(some (jg L ⟨(jZ (nd ns i)),2⟩))) d6 d6 (λ_=>d6) (λ_=>d6) ja Tryz.underlying170 (λ_=>d6) (mo hiw) (by rw [kx,hgi];rfl) d6 (jR 9 [6,11,123,124,125,130,131,132,143,145,149,151] [(2,a_ 3 b17),(6,a_ 0 b7),(8,a_ 3 b17)] (ct.ji 1 (d:=(some 152)) (t:=170) (K:=3) (E:=175) (b:=m3) (cnt:=S2.ay.length) (f:=(dg (dM L S2.ay))) (x:=(.tmp 149)) (ix:=(.tmp 151)) (key:=vI ((en (nd ns i).aq j).id)) (z:=.nilIface) (kl:=(.int .i64 (bO ns i j).id)) (q:=(some (jg L (qx ns (bO ns i j))))) d6 d6 (λ_=>d6) (λ_=>d6) ja Tryz.underlying170 (λ_=>d6) (mo hew) (by rw [kx,hge];rfl) d6 (ct.last rfl rfl (gE [5,7] (Sg S2.O L (jZ (nd ns i)) eH (bO ns i j).name eT jx d5 (qx ns (bO ns i j)) bZ h3 d5) (NL (aF.np (NX (ax.region (jC 8 [] [(3,a_ 4 b7),(4,wJ (S2.X.aq+1) (S2.X.aq+1)),(7,a_ 4 b7)] [(4,[(8,vI (S2.X.aq+1))])] (LX (ax.region (jK 2 [132] [(0,wJ ((j:Int)+1) (↑(j+1)))] (NL (aF.jk [(0,.abs (bp (fQ ((rL ns S2 (nd ns i) (bO ns i j)).O) L))),(1,.abs (bp (ig ((rL ns S2 (nd ns i) (bO ns i j)).O) L))),(4,.aD b7 [vI ((rL ns S2 (nd ns i) (bO ns i j)).X.cN),vI ((rL ns S2 (nd ns i) (bO ns i j)).X.cB),vI ((rL ns S2 (nd ns i) (bO ns i j)).X.cH),vI ((rL ns S2 (nd ns i) (bO ns i j)).X.cS),vI ((rL ns S2 (nd ns i) (bO ns i j)).X.cZ),.map (some m3),vP t4,vI ((rL ns S2 (nd ns i) (bO ns i j)).X.last),vI ((rL ns S2 (nd ns i) (bO ns i j)).X.aq),vI ((rL ns S2 (nd ns i) (bO ns i j)).X.used)] 173),(5,.abs (bK Tryz.prog 3 m3 (dg (dM L (rL ns S2 (nd ns i) (bO ns i j)).ay)) ((rL ns S2 (nd ns i) (bO ns i j)).ay.length))),(6,.abs (ia 233 t4 (rL ns S2 (nd ns i) (bO ns i j)).X.cH (rL ns S2 (nd ns i) (bO ns i j)).aL (dM L (rL ns S2 (nd ns i) (bO ns i j)).us))),(7,.abs (bp (eX ((rL ns S2 (nd ns i) (bO ns i j)).O) L)))] (λw hS=>by rw [show eX (rL ns S2 (nd ns i) (bO ns i j)).O L=eX S2.O L from acX];exact hS) (tJ ((j+1),(rL ns S2 (nd ns i) (bO ns i j))) [2,3,4,5,6,0,7,1,8] (⟨d5,xE.step hok d5 d5⟩)))))))))))))))))))))))))
end
section
open Go.RowKit Go.Maps bw aI
theorem AB {b:UInt8} (h0:¬b=0) (h1:¬b=47) (h2:¬b=46):bU ⟨#[b]⟩:=by
 refine⟨N6 _,(by show 1<=255;decide),λe=>h2 ?_,λe=>?_,λj hj=>?_⟩
 ·grind
 ·grind
 have:j=0:=by have hj:j<1:=hj;omega
 subst this
 show ¬b.toNat=0/\¬b.toNat=47
 exact⟨λe=>h0 (aia.1 e),λe=>h1 (aia.1 e)⟩
theorem BQ:iM 0 0:=⟨d8,d8,d8,d8,d8⟩
def Qj (room:Int):FM:=⟨9,room,9,0,0,0,0,0⟩
theorem adi {room:Int} (h:0<=room/\room<=1099511627776):kU (Qj room):=⟨by show (0:Int)<=9/\(9:Int)<=4096;decide,h,by show (0:Int)<=9/\(9:Int)<=1024;decide,BQ⟩
section ops
variable {S:bg} {c:aN} {t:Th} {d:Nat}
theorem DJ {O:eE} {us:bB Th} {h:Int} {name:ByteArray} {fD:Int} (h1:aI.get us h=some t) (h2:t.kind=2) (h3:(ah O t.k).aJ=false) (h4:bU name) (h5:bits BinOp.and .i64 (ah O t.k).mode fD=fD):gH O us h name fD=.ok t.k:=by
 grind [gH]
theorem adj (cA:c.op=1) (h1:aI.get S.ay c.other=some t) (h2:t.kind=2) (h3:(S.us.length:Int)<S.X.cH):fC S c=({S with O:=bE S.O t.k (λo=>{o with aR:=o.aR+1}),us:=ins (aS S.us) t S.us,aL:=max S.aL ((S.us.length:Int)+1)},{c with answer:=aS S.us,code:=0}):=by
 grind [fC,vD,kI,mB]
theorem J1 (cA:c.op=2) (ha:gH S.O S.us c.bD c.name 64=.ok d) (hl:bF c.name (ah S.O d).aq=some t) (h2:t.kind=2) (h3:(S.us.length:Int)<S.X.cH):fC S c=({S with O:=bE S.O t.k (λo=>{o with aR:=o.aR+1}),us:=ins (aS S.us) t S.us,aL:=max S.aL ((S.us.length:Int)+1)},{c with answer:=aS S.us,code:=0}):=by
 grind [fC,tW,fZ,jO,mB]
theorem aaU (cA:c.op=4) (ha:gH S.O S.us c.bD c.name 192=.ok d) (hm:mT c.mode) (hl:bF c.name (ah S.O d).aq=none) (hr:Room S.X S.ay):fC S c=(gU S d c.name (dN S.X 2 c.mode),{c with answer:=0,code:=0}):=by
 grind [fC,vE,iH,lP,gY]
theorem aaV (cA:c.op=13) (h1:aI.get S.us c.bD=some t):fC S c=({S with
 X:={S.X with used:=oU (mD S.O t.k) S.X.used t}
 O:=mD S.O t.k
 ay:=j7 (mD S.O t.k) S.ay t
 us:=del c.bD S.us},{c with answer:=0,code:=0}):=by
 grind [fC,sG,jq]
end ops
structure ahI (room:Int) (S:bg):Prop where
 inv:bC S
 ay:S.ay=[(1,⟨1,2⟩),(2,⟨2,1⟩)]
 us:S.us=[]
 X:S.X=⟨9,room,9,0,0,2,1,0⟩
 o1:∃l u,ah S.O 1=⟨1,493,0,0,0,0,l,0,false,2,[],⟨#[]⟩,[(⟨#[102]⟩,⟨2,1⟩)],u⟩
 o2:∃u,ah S.O 2=⟨2,420,0,0,0,0,1,0,false,1,[],⟨#[]⟩,[],u⟩
theorem ae1:bits BinOp.and .i64 493 192=192:=d6
theorem J2:bits BinOp.and .i64 493 64=64:=d6
section chain
variable {room:Int} {S:bg}
def S1 (S:bg):bg:={S with O:=bE S.O 1 (λo=>{o with aR:=o.aR+1}),us:=[(1,⟨1,2⟩)],aL:=max S.aL 1}
theorem agU:ah (S1 S).O 1={ah S.O 1 with aR:=(ah S.O 1).aR+1}:=rfl
theorem agV:ah (S1 S).O 2=ah S.O 2:=rfl
structure WrS (room:Int) (ds:List UInt8) (S:bg):Prop where
 inv:bC S
 ay:S.ay=[(1,⟨1,2⟩),(2,⟨2,1⟩)]
 us:S.us=[(1,⟨1,2⟩),(2,⟨2,1⟩)]
 X:S.X=⟨9,room,9,0,0,2,1,ds.length⟩
 o1:∃l n u,ah S.O 1=⟨1,493,0,0,0,0,l,n,false,2,[],⟨#[]⟩,[(⟨#[102]⟩,⟨2,1⟩)],u⟩
 o2:∃u,ah S.O 2=⟨2,420,0,0,0,0,1,1,false,1,ds,⟨#[]⟩,[],u⟩
structure UnS (ds:List UInt8) (S:bg):Prop where
 inv:bC S
 ay:S.ay=[(1,⟨1,2⟩),(2,⟨2,1⟩)]
 us:S.us=[(1,⟨1,2⟩),(2,⟨2,1⟩)]
 used:S.X.used=ds.length
 o2:∃s z u,ah S.O 2=⟨2,420,0,0,s,z,0,1,true,1,ds,⟨#[]⟩,[],u⟩
end chain
theorem aW.ach {P:Program} {β:Bs} {f:FuncId} {args:Array Value} {pre:List HP} {post:Value->List HP->Prop} {Ψ:Bs->Value->List HP->Prop} (h:aW P β f args pre post) (Rx:∀v l,post v l->∃l1 l2,l=l1++l2/\∀β',oF β l2 β'->Ψ β' v l1):bN P β f args pre Ψ:=by
 intro A w hS
 refine (h A w hS).mono ?_
 rintro e w' ⟨v,l,h1,h2,h3⟩
 obtain⟨l1,l2,rfl,hl⟩:=Rx v l h2
 have h4:aQ β (([.abs A]++l1)++l2) w':=by rw [ah1];exact aQ.turn h3
 obtain⟨β',g1,_,g3⟩:=h4.uf
 exact⟨β',v,l1,g1.le,h1,hl β' g1,aQ.turn g3⟩
section c
variable {β:Bs} {S S2:bg} {L:HL} {f m t:Nat} {c c2:aN}
end c
end
section
open Go.RowKit bw aI Go.Maps
theorem aW.Ze {P:Program} {β:Bs} {f:FuncId} {args:Array Value} {pre R:List HP} {post:Value->List HP->Prop} (h:∀β':Bs,oF β R β'->aW P β' f args pre post):aW P β f args (pre++R) (λv l=>∃l0,post v l0/\l=l0++R):=by
 intro A w hS
 have h1:=aQ.turn hS
 rw [←ah1] at h1
 obtain⟨β',g1,_,g3⟩:=h1.uf
 refine (h β' g1 A w (aQ.turn g3)).mono ?_
 rintro e w' ⟨v,l,h1,h2,h3⟩
 refine⟨v,l++R,h1,⟨l,h2,rfl⟩,?_⟩
 have h4:=g1.back (aQ.turn h3)
 rw [ah1] at h4
 exact aQ.turn h4
theorem D6 {β:Bs} (A B:Option Addr) (c c':Nat) (ns ms:List aP) (L K:fk) (hH:aO β B ms K) (hl:ns.length<=1048576) (hd:∀i,i<ns.length->(nd ns i).data.length<=140737488355328/\(nd ns i).aq.length<=1048576) {b:Bool} (hb:decide (ns=ms)=b) :
 aW Tryz.prog β 18 #[.agg #[.slice A ns.length c],.agg #[.slice B ms.length c']] (KH A c ns L) (λv l=>v=.bool b/\l=KH A c ns L):=
 (aW.Ze (pre:=[]) (λ_ g=>Nw A B c c' ns ms L K g.graph (hH.le g.le) hl hd)).mono (by rintro v l ⟨l0,⟨rfl,rfl⟩,rfl⟩;exact⟨zc Value.bool hb,rfl⟩)
theorem Qk {β:Bs} (t:Nat) (most aL:Int) (L:HL) (us:bB Th) :
 aW Tryz.prog β 70 #[.pointer (some ⟨t,0,none⟩)] [.abs (ia 233 t most aL (dM L us))] (λv l=>∃A c,v=.slice A us.length c/\l=[.abs (ia 233 t most aL (dM L us)),.abs (aK 3 1 A us.length c (bG (aY us)))]):=by
 have h:=Ol (β:=β) t most aL (dM L us)
 have e:aY (dM L us)=aY us:=keys_map (jg L) us
 grind [aY]
theorem Ql {S:bg} (h:Inv0 S):∀i,i<(aV S).length->(nd (aV S) i).data.length<=140737488355328/\(nd (aV S) i).aq.length<=1048576:=λi hi=>by
 rw [iF] at hi
 have h1:(ah S.O (jv S i).k).data.length<=bytes S.ay S.O:=si (g:=λp:Int×Th=>(ah S.O p.2.k).data.length) (get_at h hi)
 have h2:(ah S.O (jv S i).k).aq.length<=tot S.ay S.O:=si (g:=λp:Int×Th=>(ah S.O p.2.k).aq.length) (get_at h hi)
 have h3:=h.used
 have h4:=h.total
 rw [qt hi]
 refine⟨by show (ah S.O (jv S i).k).data.length<=_;omega,?_⟩
 show ((ah S.O (jv S i).k).aq.map _).length<=_
 rw [ahQ]
 omega
theorem yt {β:Bs} (A:Option Addr) (c:Nat) (ns:List aP) (L:fk) (hG:aO β A ns L) (hl:ns.length<=1048576) (hd:∀i,i<ns.length->(nd ns i).data.length<=1048576/\(nd ns i).aq.length<=1048576) :
 aW Tryz.prog β 27 #[.agg #[.slice A ns.length c]] [] (λv l=>∃B cap,v=.agg #[.slice B ns.length cap]/\l=[.abs (jl β (λβ'=>∃K,aO β' B ns K))]):=
 (bN.GD (ι:=Option Addr×Nat) (vv:=λx=>.agg #[.slice x.1 ns.length x.2]) (ll:=λ_=>[]) (Φ:=λx β'=>∃K,aO β' x.1 ns K)
  ((Nv A c ns L hG hl hd).mono (by rintro β' v l _ ⟨B,cap,K,rfl,rfl,h⟩;exact⟨(B,cap),rfl,rfl,K,h⟩))).mono (by rintro v l ⟨⟨B,cap⟩,rfl,rfl⟩;exact⟨B,cap,rfl,rfl⟩)
end
section
open Go.RowKit Go.Maps bw aI
attribute [local irreducible] aE bH ax aF
theorem X8 {β:Bs} (S:bg) (L:HL) (f m t:Nat):aW Tryz.prog β 43 #[vP f] [pF f m t S.X,pT t S.X.cH S.aL L S.us] (λv l=>∃A c,v=.slice A S.us.length c/\l=[pF f m t S.X,pT t S.X.cH S.aL L S.us,.abs (aK 3 1 A S.us.length c (bG (aY S.us)))]):=by
 refine SE Tryz.func43 Tryz.ntmps43 (λR=>SR (jK 1 [] [] (NS (jK 4 [6] [(3,a_ 0 f)] (gL [1] (Qk t S.X.cH S.aL L S.us) ?_)))))
 rintro _ _ ⟨A,c,rfl,rfl⟩
 exact jK 1 [2] [] (eN ⟨A,c,rfl,rfl⟩ [2,0,1,3])
theorem aaW {β:Bs} (S:bg) (L:HL) (f m t:Nat):aW Tryz.prog β 46 #[vP f] [pF f m t S.X,pT t S.X.cH S.aL L S.us] (λv l=>v=vI S.aL/\l=[pF f m t S.X,pT t S.X.cH S.aL L S.us]):=by
 exact SE Tryz.func46 Tryz.ntmps46 (λR=>SR (jK 1 [] [] (NS (jK 4 [6] [(3,a_ 0 f)] (gE [1] (Wg t S.X.cH S.aL (dM L S.us)) (jK 1 [2] [] (eN ⟨rfl,rfl⟩ [1,0,2])))))))
theorem X9 {β:Bs} (most:Int) (h:0<=most/\most<=1024):aW Tryz.prog β 57 #[vI most] [] (λv l=>v=.agg #[vI most,vI 0,.slice none 0 0,.slice none 0 0]/\l=[]):=by
 exact SE Tryz.func57 Tryz.ntmps57 (λR=>SR (jB 1 [2] (λb1=>.aD b1 [vI 0,vI 0,.slice none (0) (0),.slice none (0) (0)] 43) (λb1=>NZ (jK 2 [4] [] (NN (cP ((most:Int)<(0:Int)) (λh4=>KB h4 (by omega)) (λh4=>KX (SQ (jK 2 [6] [] (NN (cP ((most:Int)>(1024:Int)) (λh6=>KB h6 (by omega)) (λh6=>KX (SR (jC 3 [] [(2,A_ 1 b1 4)] [(1,[(0,vI (most))])] (eS [A_ 1 b1 4] ⟨rfl,rfl⟩)))))))))))))))
end
section
open Go.RowKit Go.Maps bw aI
attribute [local irreducible] aE bH ax aF lK
theorem S7 {β:Bs} (A:Option Addr) (c:Nat) (ns:List aP) (Y:fk) (hG:aO β A ns Y) (hl:ns.length<=1048576) (hd:∀i,i<ns.length->(nd ns i).data.length<=1048576/\(nd ns i).aq.length<=1048576) (hwf:∀i,i<ns.length->∀j,j<(nd ns i).aq.length->-9223372036854775808<=(bO ns i j).id/\(bO ns i j).id<=9223372036854775807) (hnm:∀i,i<ns.length->∀j,j<(nd ns i).aq.length->(bO ns i j).name.size<=1048576) (ht:∀i,i<ns.length->(nd ns i).target.size<=1048576) (X:FM) :
 bN Tryz.prog β 29 #[.agg #[.slice A (ns.length) (c)],.agg #[vI (X.cN),vI (X.cB),vI (X.cH),vI (X.cS),vI (X.cZ)]] [] (λβ' v l=>(¬kU X/\v=.tuple #[.agg ⟨rZ⟩,vI 179]/\l=[])\/(kU X/\¬cD ns/\v=.tuple #[.agg ⟨rZ⟩,vI 140]/\l=[])\/(kU X/\cD ns/\∃B cp K,v=.tuple #[.agg #[.slice B (ns.length) (cp),.slice none (0) (0),vI (X.cH),vI 0,.slice none (0) (0),.slice none (0) (0),vI (X.cN),vI (X.cB),vI (X.cH),vI (X.cS),vI (X.cZ),vI ((if ns.length=0 then 0 else (nd ns (ns.length-1)).id))],vI 0]/\l=[]/\aO β' B ns K)):=by
 refine mK Tryz.func29 Tryz.ntmps29 (λaH R=>SR (jB 1 [2] (λb1=>.aD b1 [.slice A (ns.length) (c)] 24) (λb1=>jB 1 [3] (λb2=>.aD b2 [vI (X.cN),vI (X.cB),vI (X.cH),vI (X.cS),vI (X.cZ)] 28) (λb2=>jB 2 [4] (λb3=>.aD b3 (rZ) 45) (λb3=>NZ (jK 4 [10] [(1,a_ 2 b2)] (sP 10 ((X.cN:Int)<(0:Int)) (λh10=>jK 30 [40] [] (NT (SR (jC 3 [5] [(1,A_ 3 b3 12)] [] (eO [A_ 3 b3 12] aH (.inl ⟨λh=>by first|(have:=h.cN;omega)|(have:=h.cB;omega)|(have:=h.cH;omega)|exact KB h.now (by assumption),rfl,rfl⟩)))))) (λh10=>jK 5 [15] [(1,a_ 2 b2)] (sP 15 ((X.cN:Int)>(4096:Int)) (λRI=>jK 25 [40] [] (NT (SR (jC 3 [5] [(1,A_ 3 b3 12)] [] (eO [A_ 3 b3 12] aH (.inl ⟨λh=>by first|(have:=h.cN;omega)|(have:=h.cB;omega)|(have:=h.cH;omega)|exact KB h.now (by assumption),rfl,rfl⟩)))))) (λRI=>jK 5 [20] [(1,a_ 2 b2)] (sP 20 ((X.cB:Int)<(0:Int)) (λlX=>jK 20 [40] [] (NT (SR (jC 3 [5] [(1,A_ 3 b3 12)] [] (eO [A_ 3 b3 12] aH (.inl ⟨λh=>by first|(have:=h.cN;omega)|(have:=h.cB;omega)|(have:=h.cH;omega)|exact KB h.now (by assumption),rfl,rfl⟩)))))) (λlX=>jK 5 [25] [(1,a_ 2 b2)] (sP 25 ((X.cB:Int)>(1099511627776:Int)) (λqH=>jK 15 [40] [] (NT (SR (jC 3 [5] [(1,A_ 3 b3 12)] [] (eO [A_ 3 b3 12] aH (.inl ⟨λh=>by first|(have:=h.cN;omega)|(have:=h.cB;omega)|(have:=h.cH;omega)|exact KB h.now (by assumption),rfl,rfl⟩)))))) (λqH=>jK 5 [30] [(1,a_ 2 b2)] (sP 30 ((X.cH:Int)<(0:Int)) (λrA=>jK 10 [40] [] (NT (SR (jC 3 [5] [(1,A_ 3 b3 12)] [] (eO [A_ 3 b3 12] aH (.inl ⟨λh=>by first|(have:=h.cN;omega)|(have:=h.cB;omega)|(have:=h.cH;omega)|exact KB h.now (by assumption),rfl,rfl⟩)))))) (λrA=>jK 5 [35] [(1,a_ 2 b2)] (sP 35 ((X.cH:Int)>(1024:Int)) (λyJ=>jK 5 [40] [] (NT (SR (jC 3 [5] [(1,A_ 3 b3 12)] [] (eO [A_ 3 b3 12] aH (.inl ⟨λh=>by first|(have:=h.cN;omega)|(have:=h.cB;omega)|(have:=h.cH;omega)|exact KB h.now (by assumption),rfl,rfl⟩)))))) (λyJ=>jK 2 [37] [(1,A_ 2 b2 2)] (gE [] (Gs X.cS X.cZ) (jK 2 [40] [] (NN (cN (iM X.cS X.cZ) (λtI=>SR (jC 3 [5] [(1,A_ 3 b3 12)] [] (eO [A_ 3 b3 12] aH (.inl ⟨λh=>by first|(have:=h.cN;omega)|(have:=h.cB;omega)|(have:=h.cH;omega)|exact KB h.now (by assumption),rfl,rfl⟩)))) (λtI=>?_)))))))))))))))))))))))
 have hcap:kU X:=⟨⟨d5,d5⟩,⟨d5,d5⟩,⟨d5,d5⟩,tI⟩
 refine KX (SQ (jK 1 [42] [(0,a_ 1 b1)] (gE [] (QM A c ns Y hG hl hd hwf hnm ht) (jK 1 [44] [] (NN (cN (((if cD ns then 0 else 140):Int)=(0:Int)) (λzG=>?_) (λzG=>?_)))))))
 ·have hng:¬cD ns:=λh=>zG (t8 h)
  exact SR (jC 3 [5] [(1,A_ 3 b3 12)] [] (eO [A_ 3 b3 12] aH (.inr (.inl ⟨hcap,hng,rfl,rfl⟩))))
 have hok:cD ns:=ahY (λh=>gn)
 refine KX (ax.seq (ax.o7 (S:=[.aD b1 [.slice A (ns.length) (c)] 24,.aD b2 [vI (X.cN),vI (X.cB),vI (X.cH),vI (X.cS),vI (X.cZ)] 28]) (uR [0,2,3,5] (oJ 7 [(false,8)] [(false,1),(false,4),(false,6)])) [1,2] (gT (oJ 7 [(false,8)] [(false,1),(false,4),(false,6)]) [(2,vP b1),(4,vP b3),(46,.agg #[.slice A (ns.length) (c)]),(49,vI (X.cH)),(51,.agg #[vI (X.cN),vI (X.cB),vI (X.cH),vI (X.cS),vI (X.cZ)])] [0,2,3,5] [(0,a_ 0 b1),(2,a_ 1 b2),(3,A_ 1 b2 5)] (lK.one (j:=7) (dj:=6) (R:=λf_ l_=>∃B:Option Addr,∃cp:Nat,f_=[(52,.agg #[.slice B (ns.length) (cp),.slice none (0) (0),vI (X.cH),vI 0,.slice none (0) (0),.slice none (0) (0),vI (X.cN),vI (X.cB),vI (X.cH),vI (X.cS),vI (X.cZ),vI 0]),(50,.agg #[vI (X.cH),vI 0,.slice none (0) (0),.slice none (0) (0)]),(47,.agg #[.slice B (ns.length) (cp)]),(2,vP b1),(4,vP b3),(46,.agg #[.slice A (ns.length) (c)]),(49,vI (X.cH)),(51,.agg #[vI (X.cN),vI (X.cB),vI (X.cH),vI (X.cS),vI (X.cZ)])]/\l_=[.abs (jl β (λβ'=>∃K,aO β' B ns K))]) [1,2] [(false,1,47),(false,4,50),(false,6,52)] (gJ.of (ι:=Nat) (v:=λ(b4:Nat)=>vP b4) (l:=λ(b4:Nat)=>[.aD b4 (rZ) 45]) [47,50,52] rfl rfl rfl rfl ?_) ?_ ?_))))
 ·intro u Aq
  exact jB 1 [6] (λb4=>.aD b4 (rZ) 45) (λb4=>NL (MD b4 [6,47,50,52,2,4,46,49,51] [1,0]))
 ·refine dO.step (gJ.of (ι:=(Option Addr)×Nat) (v:=λ((B,cp):(Option Addr)×Nat)=>.agg #[.slice B (ns.length) (cp)]) (l:=λ((B,cp):(Option Addr)×Nat)=>[.abs (jl β (λβ'=>∃K,aO β' B ns K))]) [6] rfl rfl rfl rfl ?_) ?_
  ·intro u Aq
   refine gL [] (yt (β:=β) A c ns Y hG hl hd) ?_
   rintro _ _ ⟨B,cp,rfl,rfl⟩
   exact NL (MD (B,cp) [47,6,2,4,46,49,51] [0,1])
  rintro _ _ ⟨⟨B,cp⟩,rfl,rfl⟩
  refine dO.step (gJ.of (ι:=Unit) (v:=λ(_:Unit)=>.agg #[vI (X.cH),vI 0,.slice none (0) (0),.slice none (0) (0)]) (l:=λ(_:Unit)=>[.abs (jl β (λβ'=>∃K,aO β' B ns K))]) [6] rfl rfl rfl rfl ?_) ?_
  ·intro u Aq
   exact gE [] (X9 X.cH hcap.cH) (NL (MD () [50,6,47,2,4,46,49,51] [0,1]))
  rintro _ _ ⟨_,rfl,rfl⟩
  refine dO.step (gJ.of (ι:=Unit) (v:=λ(_:Unit)=>.agg #[.slice B (ns.length) (cp),.slice none (0) (0),vI (X.cH),vI 0,.slice none (0) (0),.slice none (0) (0),vI (X.cN),vI (X.cB),vI (X.cH),vI (X.cS),vI (X.cZ),vI 0]) (l:=λ(_:Unit)=>[.abs (jl β (λβ'=>∃K,aO β' B ns K))]) [6] rfl rfl rfl rfl ?_) ?_
  ·intro u Aq
   exact jK 1 [52] [] (NL (MD () [52,6,50,47,2,4,46,49,51] [0,1]))
  rintro _ _ ⟨_,rfl,rfl⟩
  exact⟨B,cp,rfl,rfl⟩
 rintro _ _ ⟨B,cp,rfl,rfl⟩ _ _ ⟨b4,rfl,rfl⟩
 refine eu.last d6 (jC 1 [] [(0,A_ 1 b4 12)] [(1,[(0,.slice B (ns.length) (cp)),(2,vI (X.cH)),(6,vI (X.cN)),(7,vI (X.cB)),(8,vI (X.cH)),(9,vI (X.cS)),(10,vI (X.cZ))])] (NL (aF.np (NX (SQ (aE.sI 0 [1,2,3,4,5] (fY:=[.aD b4 [.slice B (ns.length) (cp),.slice none (0) (0),vI (X.cH),vI 0,.slice none (0) (0),.slice none (0) (0),vI (X.cN),vI (X.cB),vI (X.cH),vI (X.cS),vI (X.cZ),vI 0] 45,.abs R,.aD b1 [.slice A (ns.length) (c)] 24,.aD b2 [vI (X.cN),vI (X.cB),vI (X.cH),vI (X.cS),vI (X.cZ)] 28,.aD b3 (rZ) 45]) rfl rfl d6 (λE7 iP ⟨K,hH⟩=>?_)))))))
 replace hG:=hG.le iP
 replace aH:=aH.trans iP
 exact jK 4 [56] [(1,a_ 2 b1)] (NN (cP ((((ns.length:Nat):Int):Int)>(0:Int)) (λAF=>ax.region (jC 11 [] [(1,a_ 2 b1),(3,a_ 2 b1),(5,wJ ((ns.length:Int)-1) (((ns.length:Nat):Int)-1)),(6,p_ ⟨[],some (ns.length-1),none,some ⟨(cC A),cq A,none⟩,none⟩ [((ns.length:Nat):Int)-1=(((ns.length-1):Nat):Int),(ns.length-1)<ns.length,(⟨(cC A),cq A,none⟩:Addr).spot=none,(A:Option Addr)=some ⟨(cC A),cq A,none⟩] ⟨d5,d5,rfl,aO.hd hG (i:=(ns.length-1)) d5,trivial⟩),(8,r_ (aO.rd hG (i:=(ns.length-1)) d5 (j:=0) rfl)),(10,a_ 0 b4)] [(0,[(11,vI ((nd ns (ns.length-1)).id))])] (NS (jC 3 [5] [(0,A_ 0 b4 12),(1,A_ 4 b3 12)] [(4,[(0,.slice B (ns.length) (cp)),(2,vI (X.cH)),(6,vI (X.cN)),(7,vI (X.cB)),(8,vI (X.cH)),(9,vI (X.cS)),(10,vI (X.cZ)),(11,vI ((nd ns (ns.length-1)).id))])] (eO [A_ 4 b3 12] aH (.inr (.inr ⟨hcap,hok,B,cp,K,by rw [nw d5],rfl,hH⟩)) [1]))))) (λAF=>KX (SR (jC 3 [5] [(0,A_ 0 b4 12),(1,A_ 4 b3 12)] [(4,[(0,.slice B (ns.length) (cp)),(2,vI (X.cH)),(6,vI (X.cN)),(7,vI (X.cB)),(8,vI (X.cH)),(9,vI (X.cS)),(10,vI (X.cZ))])] (eO [A_ 4 b3 12] aH (.inr (.inr ⟨hcap,hok,B,cp,K,by rw [t8 d5],rfl,hH⟩)) [1]))))))
end
section
open Go.RowKit Go.Maps bw aI
noncomputable def Fk (X:FM):Int:=open Classical in if kU X then 140 else 179
theorem adk (X:FM):Fk X≠0:=by
 unfold Fk
 split<;>decide
def agW (X:FM) (ns:List aP):Type:={S:bg // kR X ns ns.length 0 S}
section m
variable {β:Bs} {ns:List aP} {Y:fk} {X:FM}
theorem aaX (hcap:kU X) (hok:cD ns) (A:Option Addr) (c:Nat) (hG:aO β A ns Y) (hB:kq ns 1048576) :
 bN Tryz.prog β 29 #[.agg #[.slice A ns.length c],.agg #[.int .i64 X.cN,.int .i64 X.cB,.int .i64 X.cH,.int .i64 X.cS,.int .i64 X.cZ]] [] (λβ' v l=>∃B cp K,v=.tuple #[.agg #[.slice B ns.length cp,.slice none 0 0,.int .i64 X.cH,.int .i64 0,.slice none 0 0,.slice none 0 0,.int .i64 X.cN,.int .i64 X.cB,.int .i64 X.cH,.int .i64 X.cS,.int .i64 X.cZ,.int .i64 (if ns.length=0 then 0 else (nd ns (ns.length-1)).id)],.int .i64 0]/\l=[]/\aO β' B ns K):=
 (S7 A c ns Y hG (vA hB) (FO hB) (I7 hB) (I8 hB) (abA hB) X).mono (by
  rintro β' v l _ (⟨h,_⟩|⟨_,h,_⟩|⟨_,_,h⟩)
  ·exact KB hcap h
  ·exact KB hok h
  exact h)
theorem aaY (Fe:¬(kU X/\cD ns)) (A:Option Addr) (c:Nat) (hG:aO β A ns Y) (hB:kq ns 1048576) :
 bN Tryz.prog β 29 #[.agg #[.slice A ns.length c],.agg #[.int .i64 X.cN,.int .i64 X.cB,.int .i64 X.cH,.int .i64 X.cS,.int .i64 X.cZ]] [] (λ_ v l=>v=.tuple #[.agg #[.slice none 0 0,.slice none 0 0,.int .i64 0,.int .i64 0,.slice none 0 0,.slice none 0 0,.int .i64 0,.int .i64 0,.int .i64 0,.int .i64 0,.int .i64 0,.int .i64 0],.int .i64 (Fk X)]/\l=[]):=
 (S7 A c ns Y hG (vA hB) (FO hB) (I7 hB) (I8 hB) (abA hB) X).mono (by
  rintro β' v l _ (⟨h,h1,h2⟩|⟨h,h',h1,h2⟩|⟨h1,h2,_⟩)
  ·exact⟨by rw [show Fk X=179 from nw h];exact h1,h2⟩
  ·exact⟨by rw [show Fk X=140 from t8 h];exact h1,h2⟩
  exact KB ⟨h1,h2⟩ Fe)
end m
section p
variable {S:bg} {g:List Int} {X:FM} {ns:List aP} {Y:fk} {β:Bs}
structure Pair (S:bg) (g:List Int):Prop extends RelR S g where
 gl:g.length<=4096
theorem Pair.rc (h:Pair S g):RC (toR S g):=acg h.toRelR h.gl
theorem Pair.rd (h:Pair S g):RD 0 (toR S g):=by
 have hI:=h.inv.toInv0
 have h1:=hI.len
 have h2:(toR S g).ns.length=S.ay.length:=iF
 have h8:=PU (g:=g) hI
 have h9:=hI.total.2
 exact⟨d5,h.gl,h.rc.us,d5,h.rc.dat⟩
theorem Pair.step (h:Pair S g) (c:aN) (cA:mV c.op):∃g',tX (toR S g) c=(toR (fC S c).1 g',(fC S c).2)/\Pair (fC S c).1 g':=by
 obtain⟨g',h1,h2⟩:=aaH h.toRelR c cA
 have h3:GL (toR S g):=h.gl
 have h4:=adh (c:=c) h3 (by have h5:=h.inv.toInv0.len;grind [toR,iF])
 rw [h1] at h4
 exact⟨g',h1,h2,h4⟩
theorem MH (h:Pair S g) {Y:RL} (hR:dP β (toR S g) Y) {c c2:aN} {S2:bg} (hD:fC S c=(S2,c2)) (yK:mV c.op) (hn:c.name.size<=1048576) (hb:ck β c.dA c.data) (hl:c.data.length<=140737488355328) (hc:c.data.length<=c.dC) :
 bN Tryz.prog β 34 #[.agg ⟨rV (toR S g) Y⟩,.agg ⟨bA c⟩] [] (λβ' v l=>∃g' Y' B p,v=.tuple #[.agg ⟨rV (toR S2 g') Y'⟩,.agg ⟨bA (iJ c2 B p)⟩]/\l=[]/\Pair S2 g'/\dP β' (toR S2 g') Y'/\ck β' B c.data):=by
 obtain⟨g',h1,h2⟩:=h.step c yK
 rw [hD] at h1 h2
 refine (aaN (toR S g) Y hR h.rc h.rd c yK hn hb hl hc).mono ?_
 grind
theorem Pair.start (N:agW X ns) (hok:cD ns):Pair N.1 []:=⟨(MG N.2 hok).1,L4 _⟩
end p
section g
variable {R:RS} {d k to f:Nat} {name aG:ByteArray} {n:aP} {c:aN} {b:Bool} {id:Int}
theorem adl {top:Nat} {a:cM} (h:GL R) (hn:R.ns.length<=4096):GL (fH R top d name a).1:=by
 grind [fH,SY,P9,Qa,Qb]
theorem ae2 {af:Int} {a:cM} (h:GL R) (hn:R.ns.length<=4096):GL (l6 R af a).1:=by
 grind [l6,adl,GL]
end g
section p
variable {S S2:bg} {g:List Int} {β:Bs} {Y:RL}
theorem Pair.af5 (h:Pair S g) {af:Int} {a:cM} {d:Nat} {name:ByteArray} (h1:0<=gF (toR S g).ns af) (hk:(nd (toR S g).ns (bV (toR S g).ns af)).kind=2) (hw:mI (toR S g) (bV (toR S g).ns af) a.path=.ok (d,name)) (hm:(cI (toR S g) d name nF).2=0):RC (ko (toR S g) d name nF):=by
 have hr:=h.toRelR
 have hI:=hr.inv.toInv0
 have ha:gF (toR S g).ns af=_:=PO hI af
 cases e:aI.get S.ay af with
 |none=>
   grind
 |some t=>
   rw [e] at ha
   replace ha:gF (toR S g).ns af=(bR S t:Int):=ha
   obtain⟨hl,_⟩:=Ip hI e
   have D4:bV (toR S g).ns af=bR S t:=by unfold bV;rw [ha];exact ah7 _
   have h2:t.kind=2:=by rw [D4,qi hI hl] at hk;exact hk
   have ht:t=⟨t.k,2⟩:=by rw [←h2]
   have hl2:aT S.ay ⟨t.k,2⟩:=by rw [←ht];exact hl
   rw [D4,ht,Ir hr hl2] at hw
   rcases x6 hr.inv hl2 a.path with ⟨e,h,he⟩|⟨d',name',h',hd,nG,hgn⟩
   ·rw [h] at hw;cases hw
   rw [h'] at hw
   cases hw
   rcases Ci (n:=nF) hr hd name (λq=>KB (show (1:Int)=3 from q.1) d8) with ⟨q1,q2⟩|⟨q1,q2⟩
   ·obtain⟨hA,hG⟩:=K8 (name:=name) (o:=dN S.X 1 420) (n:=nF) hr hd ⟨rfl,rfl,rfl,rfl,rfl⟩ ⟨rfl,rfl,rfl,rfl,rfl,rfl,rfl⟩
    have dw:bC (gU S d' name (dN S.X 1 420)):=hr.inv.F7 hd nG hgn q1 (.inl rfl) ⟨d8,d8⟩ (.inl ⟨d8,rfl⟩)
    rw [hA]
    exact acg ⟨dw,hG⟩ h.gl
   rw [q2] at hm;exact KB hm q1
theorem Pair.act (h:Pair S g) (af:Int) (a:cM):∃g',l6 (toR S g) af a=(toR (cJ S af a).2 g',(cJ S af a).1)/\Pair (cJ S af a).2 g':=by
 obtain⟨g',h1,h2⟩:=adb h.toRelR af a
 have h3:GL (toR S g):=h.gl
 have h4:=ae2 (af:=af) (a:=a) h3 (by have h5:=h.inv.toInv0.len;grind [toR,iF])
 rw [h1] at h4
 exact⟨g',h1,h2,h4⟩
theorem aaZ (h:Pair S g) (hR:dP β (toR S g) Y) (af:Int) (a:cM) (hpa:a.path.size<=1048576) (fq:a.to.size<=1048576) (tS:a.text.size<=1048576) :
 bN Tryz.prog β 58 #[.agg ⟨rV (toR S g) Y⟩,.int .i64 af,.agg #[.int .i64 a.at_,.int .i64 a.op,.string a.path,.string a.to,.string a.text]] [] (λβ' v l=>∃g' Y',v=.tuple #[.agg ⟨rV (toR (cJ S af a).2 g') Y'⟩,.int .i64 (cJ S af a).1]/\l=[]/\Pair (cJ S af a).2 g'/\dP β' (toR (cJ S af a).2 g') Y'):=by
 obtain⟨g',h1,h2⟩:=h.act af a
 refine (adg (toR S g) Y hR h.rc h.rd af a hpa fq tS (λq1 q2 d name hw _ hm=>h.af5 q1 q2 hw hm)).mono ?_
 grind
end p
structure UL where
 A:Option Addr
 a:Nat
 B:Option Addr
 b:Nat
def uV (Z:RS) (Y:RL) (af:Int) (U:UL) (nf na:Nat) (n:Int):List Value:=rV Z Y++[.int .i64 af,.slice U.A nf U.a,.slice U.B na U.b,.int .i64 n]
def uZ:List Value:=rZ++[.int .i64 0,.slice none 0 0,.slice none 0 0,.int .i64 0]
structure CS (β:Bs) (U:UL) (fs:List cF) (xs:List cM):Prop where
 f:cE β U.A (dL jr fs)
 x:cE β U.B (dL kg xs)
theorem CS.le {β β':Bs} {U:UL} {fs:List cF} {xs:List cM} (h:CS β U fs xs) (g:β.le β'):CS β' U fs xs:=⟨h.f.le g,h.x.le g⟩
section u
variable {S S2:bg} {g:List Int} {fs:List cF} {xs:List cM} {af z k:Int} {j n:Nat} {c c2:aN} {A:Option Addr} {p:Nat}
theorem U7 (h:j<xs.length) (e:(act xs j).at_=z):jb af S (dh (xs.take (j+1)) z)=(cJ (jb af S (dh (xs.take j) z)) af (act xs j)).2:=by
 rw [Du h,xk,t8 e,Js]
theorem U8 (h:j<xs.length) (e:¬(act xs j).at_=z):jb af S (dh (xs.take (j+1)) z)=jb af S (dh (xs.take j) z):=by
 rw [Du h,xk,nw e]
theorem DK (h:j<fs.length) (h0:iT (fs.take j) z=0) (e:¬((pG fs j).at_=z/\FK (pG fs j))):iT (fs.take (j+1)) z=0:=by
 rw [wO h,sY,t8 h0,nw e]
theorem U9 (h:iT fs z≠0) (gs:List cF):iT (fs++gs) z=iT fs z:=by
 induction fs with
 |nil=>exact KB rfl h
 |cons f r ih=>
   show (if f.at_=z/\FK f then f.kind else iT (r++gs) z)=(if f.at_=z/\FK f then f.kind else iT r z)
   split
   ·rfl
   rename_i e
   exact ih (λq=>h ((nw e).trans q))
theorem Ye (h:j<fs.length) (h0:iT (fs.take j) z=0) (e:(pG fs j).at_=z/\FK (pG fs j)):iT fs z=(pG fs j).kind:=by
 have h1:iT (fs.take (j+1)) z=(pG fs j).kind:=by rw [wO h,sY,t8 h0,t8 e]
 have h2:iT (fs.take (j+1)) z≠0:=by have:=e.2.1;omega
 have h3:=U9 h2 (fs.drop (j+1))
 rw [List.take_append_drop] at h3
 rw [h3,h1]
theorem Yf (h:¬j<fs.length) (h0:iT (fs.take j) z=0):iT fs z=0:=by
 rwa [aii d5] at h0
end u
section p
variable {S S2:bg} {g:List Int} {β:Bs} {Y:RL} {c c2:aN}
theorem aa0 (h:Pair S g) (hR:dP β (toR S g) Y) (af:Int) (a:cM) (hpa:a.path.size<=1048576) (fq:a.to.size<=1048576) (tS:a.text.size<=1048576) :
 aW Tryz.prog β 58 #[.agg ⟨rV (toR S g) Y⟩,.int .i64 af,.agg #[.int .i64 a.at_,.int .i64 a.op,.string a.path,.string a.to,.string a.text]] [] (λv l=>∃g' Y',v=.tuple #[.agg ⟨rV (toR (cJ S af a).2 g') Y'⟩,.int .i64 (cJ S af a).1]/\l=[.abs (jl β (λβ'=>Pair (cJ S af a).2 g'/\dP β' (toR (cJ S af a).2 g') Y'))]):=
 (bN.GD (ι:=List Int×RL) (vv:=λx=>.tuple #[.agg ⟨rV (toR (cJ S af a).2 x.1) x.2⟩,.int .i64 (cJ S af a).1]) (ll:=λ_=>[]) (Φ:=λx β'=>Pair (cJ S af a).2 x.1/\dP β' (toR (cJ S af a).2 x.1) x.2)
  ((aaZ h hR af a hpa fq tS).mono (by rintro β' v l _ ⟨g',Y',rfl,rfl,h1,h2⟩;exact⟨(g',Y'),rfl,rfl,h1,h2⟩))).mono (by rintro v l ⟨⟨g',Y'⟩,rfl,rfl⟩;exact⟨g',Y',rfl,rfl⟩)
theorem Lf {xs:List cM} {j:Nat} (h:j<xs.length):act xs j∈xs:=by
 unfold act
 rw [ah3,T6 h]
 exact List.getElem_mem h
variable {af e k:Int} {A:Option Addr}
theorem Vd:(bY af c).name=c.name:=by unfold bY;split<;>rfl
theorem aa1:(bY af c).dA=c.dA:=by unfold bY;split<;>rfl
theorem aa2:(bY af c).dC=c.dC:=by unfold bY;split<;>rfl
theorem aa3 {d:List UInt8} (h:c.data=d):({c with data:=d}:aN)=c:=by subst h;rfl
theorem Ve (h:fC S c=(S2,c2)):c2.data=c.data:=by
 have h1:=OL (S:=S) (c:=c)
 rwa [h] at h1
theorem oF.rowAt {β':Bs} {R:List HP} {T:TypeId} {s n cp:Nat} {xs:List Value} (h:oF β R β') (i:Nat) (hp:R[i]?=some (.abs (aK T s A n cp xs))):cE β' A xs:=by
 obtain⟨F,h1,h2⟩:=h.get i hp
 exact cE.iD h1 h2 rfl
end p
end
section
open Go.RowKit Go.Maps bw aI
attribute [local irreducible] aE bH ax aF eu lK
noncomputable abbrev yR1 (c:aN) (B) (p) (e):=([(0,vI (c.op)),(1,vI (c.bD)),(3,.string c.name),(4,.string c.text),(5,.slice B (c.data.length) (p)),(11,vI (e))]:Fr)
theorem Yg {β:Bs} (Z:RS) (Y:RL) (af:Int) (U:UL) (fs:List cF) (na k:Nat) (hk:k<=8388600) (hF:cE β U.A (dL jr fs)) (hfl:fs.length<=2097152) {kf:Int} (Br:iT fs ((k+1:Nat):Int)=kf) :
 aW Tryz.prog β 33 #[.agg ⟨uV Z Y af U fs.length na ((k:Nat):Int)⟩] [] (λv l=>v=vI kf/\l=[]):=by
 subst Br
 refine SE Tryz.func33 Tryz.ntmps33 (λR=>SR (jB 2 [1] (λb1=>.aD b1 (uV Z Y af U fs.length na (↑k)) 47) (λb1=>NZ (jK 1 [3] [] (NN (ax.block (lJ (ι:=Nat) (λ(j:Nat)=>(j<=fs.length)/\(iT (fs.take j) ((k+1:Nat):Int)=0)) (λ(j:Nat)=>fs.length-j) (λ(j:Nat)=>[(1,vP b1),(3,vI ↑j)]) (λ(j:Nat)=>[.abs R,.aD b1 (uV Z Y af U fs.length na (↑k)) 47]) 0 [0,1] (⟨L4 _,rfl⟩) ?_)))))))
 rintro j ⟨hj,h0⟩
 exact SQ (jK 6 [10] [(3,a_ 1 b1)] (NN (cP ((((j:Nat):Int):Int)<(((fs.length:Nat):Int):Int)) (λh10=>KX (ax.seq (ax.block (SR (jN 8 [4] (λb2=>[(2,a_ 1 b1),(4,x_ j fs.length (abE hF (i:=j) d5)),(5,r2 (Na hF (i:=j) d5 (j:=0) rfl) (Na hF (i:=j) d5 (j:=1) rfl)),(7,A_ 2 b2 2)]) (λ_=>[]) (λb2=>.aD b2 [vI ((pG fs j).at_),vI ((pG fs j).kind)] 136) (λb2=>NS (jK 7 [25] [(1,a_ 2 b2),(3,a_ 1 b1),(4,wJ ((k:Int)+1) (↑(k+1)))] (sP 25 (((pG fs j).at_:Int)=(((k+1:Nat):Int):Int)) (λqH=>jK 5 [30] [(1,a_ 2 b2)] (sP 30 (((pG fs j).kind:Int)>=(1:Int)) (λrA=>jK 4 [34] [(1,a_ 2 b2)] (NN (cP (((pG fs j).kind:Int)<=(3:Int)) (λxG=>SR (jK 3 [2] [(1,a_ 2 b2)] (eN (v:=(vI ((pG fs j).kind))) ⟨zc (Value.int .i64) (Ye d5 h0 ⟨d5,d5,d5⟩).symm,rfl⟩))) (λxG=>KX (ax.region (jK 3 [3] [(1,wJ ((j:Int)+1) (↑(j+1)))] (NL (tJ ((j+1)) [0,1] (⟨d5,DK d5 h0 (by unfold FK;omega)⟩))))))))) (λrA=>jK 4 [34] [] (NF (KX (ax.region (jK 3 [3] [(1,wJ ((j:Int)+1) (↑(j+1)))] (NL (tJ ((j+1)) [0,1] (⟨d5,DK d5 h0 (by unfold FK;omega)⟩)))))))))) (λqH=>jK 9 [34] [] (NF (KX (ax.region (jK 3 [3] [(1,wJ ((j:Int)+1) (↑(j+1)))] (NL (tJ ((j+1)) [0,1] (⟨d5,DK d5 h0 (by unfold FK;omega)⟩)))))))))))))))) (λh10=>XX (zR (v:=(vI 0)) ⟨zc (Value.int .i64) (Yf d5 h0).symm,rfl⟩)))))
theorem Ck {β:Bs} (c:aN) (hb:ck β c.dA c.data) (hl:c.data.length<=140737488355328) (e:Int) :
 aW Tryz.prog β 35 #[.agg ⟨bA c⟩,vI (e)] [] (λv l=>∃B p,v=.agg ⟨bA (iJ (iz c e) B p)⟩/\l=[.abs (aK 5 1 B c.data.length p (ez c.data))]):=by
 refine SE Tryz.func35 Tryz.ntmps35 (λR=>SR (jB 1 [2] (λb3=>.aD b3 (bA c) 63) (λb3=>jB 1 [4] (λb4=>.aD b4 [vI 0,vI 0,vI 0,.string ⟨#[]⟩,.string ⟨#[]⟩,.slice none (0) (0),vI 0,vI 0,vI 0,vI 0,vI 0,vI 0,vI 0] 63) (λb4=>NS (jK 2 [6] [(1,a_ 1 b3)] (gL [] (tY c.dA c.dC c.data hb hl) ?_))))))
 rintro _ _ ⟨B,p,rfl,rfl⟩
 exact jC 2 [] [(1,a_ 2 b3)] [(2,[(5,.slice B (c.data.length) (p))])] (NS (jC 2 [] [(1,a_ 2 b3)] [(2,[(12,vI 0)])] (NS (jC 3 [] [(2,a_ 2 b3)] [(2,[(11,vI (e))])] (NZ (jK 4 [15] [(1,a_ 2 b3)] (sP 15 ((c.op:Int)=(11:Int)) (λRI=>jK 4 [19] [] (NT (SR (jC 8 [] [(1,a_ 2 b3),(3,a_ 2 b3),(5,a_ 2 b3),(7,a_ 2 b3)] [(2,[(2,vI 0),(6,vI 0),(7,vI 0),(8,vI 0)])] (NN (ax.region (jC 3 [] [(2,A_ 2 b3 2)] [(2,[(9,vI 0),(10,vI 0)])] (NS (jC 2 [] [(0,A_ 2 b3 13),(1,A_ 3 b4 13)] [(3,(yR1 c B p e))] (eS (v:=(.agg ⟨bA (iJ {c with other:=0,mode:=0,cO:=0,cQ:=0,bJ:=0,bh:=0,code:=e,answer:=0} B p)⟩)) [A_ 3 b4 13] ⟨B,p,zc (λx=>Value.agg ⟨bA x⟩) (show _=iJ (iz c e) B p by unfold iz;rw [t8 d5]<;>rfl),rfl⟩)))))))))) (λRI=>jK 4 [19] [(1,a_ 2 b3)] (NN (cP ((c.op:Int)=(12:Int)) (λGt=>SR (jC 8 [] [(1,a_ 2 b3),(3,a_ 2 b3),(5,a_ 2 b3),(7,a_ 2 b3)] [(2,[(2,vI 0),(6,vI 0),(7,vI 0),(8,vI 0)])] (NN (ax.region (jC 3 [] [(2,A_ 2 b3 2)] [(2,[(9,vI 0),(10,vI 0)])] (NS (jC 2 [] [(0,A_ 2 b3 13),(1,A_ 3 b4 13)] [(3,(yR1 c B p e))] (eS (v:=(.agg ⟨bA (iJ {c with other:=0,mode:=0,cO:=0,cQ:=0,bJ:=0,bh:=0,code:=e,answer:=0} B p)⟩)) [A_ 3 b4 13] ⟨B,p,zc (λx=>Value.agg ⟨bA x⟩) (show _=iJ (iz c e) B p by unfold iz;rw [t8 d5]<;>rfl),rfl⟩)))))))) (λGt=>KX (SR (jC 2 [] [(0,A_ 2 b3 13),(1,A_ 3 b4 13)] [(3,[(0,vI (c.op)),(1,vI (c.bD)),(2,vI (c.other)),(3,.string c.name),(4,.string c.text),(5,.slice B (c.data.length) (p)),(6,vI (c.mode)),(7,vI (c.cO)),(8,vI (c.cQ)),(9,vI (c.bJ)),(10,vI (c.bh)),(11,vI (e))])] (eS (v:=(.agg ⟨bA (iJ {c with code:=e,answer:=0} B p)⟩)) [A_ 3 b4 13] ⟨B,p,zc (λx=>Value.agg ⟨bA x⟩) (show _=iJ (iz c e) B p by unfold iz;rw [nw d5]<;>rfl),rfl⟩))))))))))))))
theorem Yh {β:Bs} {S:bg} {g:List Int} (hp:Pair S g) (Y:RL) (hR:dP β (toR S g) Y) (af:Int) (U:UL) (nf:Nat) (xs:List cM) (k:Nat) (hk:k<=8388600) (hA:cE β U.B (dL kg xs)) (hX:gy xs 1048576) {SW:bg} (hSW:jb af S (dh xs ((k+1:Nat):Int))=SW) :
 bN Tryz.prog β 32 #[.agg ⟨uV (toR S g) Y af U nf xs.length ((k:Nat):Int)⟩] [] (λβ' v l=>∃g' Y',v=.agg ⟨uV (toR SW g') Y' af U nf xs.length ((k:Nat):Int)⟩/\l=[]/\Pair SW g'/\dP β' (toR SW g') Y'):=by
 subst hSW
 have hxl:=hX.len
 refine mK Tryz.func32 Tryz.ntmps32 (λaH R=>SR (jB 1 [1] (λb5=>.aD b5 (uV (toR S g) Y af U nf xs.length (↑k)) 47) (λb5=>jB 1 [2] (λb6=>.aD b6 (uZ) 47) (λb6=>NZ (jK 1 [3] [] (NN (ax.block (lB (ι:=Nat×Bs×bg×(List Int)×RL) (λ(j,b,S2,g2,Y2)=>b) (λ(j,b,S2,g2,Y2)=>(j<=xs.length)/\(β.le b)/\(cE b U.B (dL kg xs))/\(Pair S2 g2)/\(dP b (toR S2 g2) Y2)/\(S2=jb af S (dh (xs.take j) ((k+1:Nat):Int)))) (λ(j,b,S2,g2,Y2)=>xs.length-j) (λ(j,b,S2,g2,Y2)=>[(1,vP b5),(2,vP b6),(3,vI ↑j)]) (λ(j,b,S2,g2,Y2)=>[.aD b5 (uV (toR S2 g2) Y2 af U nf xs.length (↑k)) 47,.aD b6 (uZ) 47,.abs R]) (0,β,S,g,Y) [1,2,0] (⟨L4 _,aH,hA,hp,hR,rfl⟩) ?_))))))))
 rintro⟨j,b,S2,g2,Y2⟩ ⟨hj,aH,hA,hp,hR,hS⟩
 refine SQ (jK 6 [11] [(3,a_ 0 b5)] (NN (cP ((((j:Nat):Int):Int)<(((xs.length:Nat):Int):Int)) (λh11=>KX (ax.seq (ax.block (ax.seq (rQ (jQ 11 [24] [(2,a_ 0 b5),(4,x_ j xs.length (M9 hA (i:=j) d5)),(6,r_ (qA hA (i:=j) d5 (j:=0) rfl)),(8,a_ 0 b5),(9,wJ ((k:Int)+1) (↑(k+1)))] (NQ (NX (cP (((act xs j).at_:Int)=(((k+1:Nat):Int):Int)) (λqZ=>ax.seq (ax.o7 (S:=[.aD b5 (uV (toR S2 g2) Y2 af U nf xs.length (↑k)) 47,.aD b6 (uZ) 47]) (uR [0,1,2,3,4,5,6,7,8,9] (oJ 14 [(false,15),(false,16)] [(false,10),(true,11),(true,12),(true,13)])) [0,1] (gT (oJ 14 [(false,15),(false,16)] [(false,10),(true,11),(true,12),(true,13)]) [(1,vP b5),(2,vP b6),(3,vI ↑j),(27,.agg ⟨rV (toR S2 g2) Y2⟩),(29,vI (af)),(35,.agg #[vI ((act xs j).at_),vI ((act xs j).op),.string (act xs j).path,.string (act xs j).to,.string (act xs j).text])] [0,1,2,3,4,5,6,7,8,9] [(1,A_ 0 b5 12),(3,a_ 0 b5),(6,a_ 0 b5),(8,x_ j xs.length (M9 hA (i:=j) d5)),(9,p_ ⟨[.old (.int .i64 ((act xs j).at_)),.old (.int .i64 ((act xs j).op)),.old (.string (act xs j).path),.old (.string (act xs j).to),.old (.string (act xs j).text)],none,none,none,none⟩ [(Rd b ⟨(cC U.B),cq U.B+j*5+4,none⟩ (.string (act xs j).text)),(Rd b ⟨(cC U.B),cq U.B+j*5+3,none⟩ (.string (act xs j).to)),(Rd b ⟨(cC U.B),cq U.B+j*5+2,none⟩ (.string (act xs j).path)),(Rd b ⟨(cC U.B),cq U.B+j*5+1,none⟩ (vI ((act xs j).op))),(Rd b ⟨(cC U.B),cq U.B+j*5,none⟩ (vI ((act xs j).at_)))] ⟨qA hA (i:=j) d5 (j:=4) rfl,qA hA (i:=j) d5 (j:=3) rfl,qA hA (i:=j) d5 (j:=2) rfl,qA hA (i:=j) d5 (j:=1) rfl,qA hA (i:=j) d5 (j:=0) rfl,trivial⟩)] (lK.one (j:=14) (dj:=4) (R:=λf_ l_=>∃g3:List Int,∃Y3:RL,f_=[(38,vI ((cJ S2 af (act xs j)).1)),(37,.agg ⟨rV (toR (cJ S2 af (act xs j)).2 g3) Y3⟩),(25,.tuple #[.agg ⟨rV (toR (cJ S2 af (act xs j)).2 g3) Y3⟩,vI ((cJ S2 af (act xs j)).1)]),(36,.tuple #[.agg ⟨rV (toR (cJ S2 af (act xs j)).2 g3) Y3⟩,vI ((cJ S2 af (act xs j)).1)]),(1,vP b5),(2,vP b6),(3,vI ↑j),(27,.agg ⟨rV (toR S2 g2) Y2⟩),(29,vI (af)),(35,.agg #[vI ((act xs j).at_),vI ((act xs j).op),.string (act xs j).path,.string (act xs j).to,.string (act xs j).text])]/\l_=[.abs (jl b (λβ'=>Pair (cJ S2 af (act xs j)).2 g3/\dP β' (toR (cJ S2 af (act xs j)).2 g3) Y3))]) [0,1] [(false,10,36),(true,11,25),(true,12,37),(true,13,38)] (gJ.of (ι:=Nat) (v:=λ(b7:Nat)=>vP b7) (l:=λ(b7:Nat)=>[.aD b7 (rZ) 45]) [36,25,37,38] rfl rfl rfl rfl ?_) ?_ ?_)))) (λqZ=>KX (ax.region (jK 3 [3] [(1,wJ ((j:Int)+1) (↑(j+1)))] (NL (tB ((j+1),b,S2,g2,Y2) [0,1,2] (⟨d5,aH,hA,hp,hR,by rw [hS,U8 d5 d5]⟩))))))))))))))) (λh11=>XX (SR (jC 2 [] [(0,A_ 0 b5 16),(1,A_ 1 b6 16)] [(1,(zC (uV (toR S2 g2) Y2 af U nf xs.length (↑k))))] (eO (v:=(.agg ⟨uV (toR S2 g2) Y2 af U nf xs.length (↑k)⟩)) [A_ 1 b6 16] aH (by rw [aii (show xs.length<=j by omega)] at hS;subst hS;exact⟨g2,Y2,rfl,rfl,hp,hR⟩) [2])))))))
 ·intro u Aq
  exact jB 1 [4] (λb7=>.aD b7 (rZ) 45) (λb7=>NL (MD b7 [4,36,25,37,38,1,2,3,27,29,35] [1,0]))
 ·refine dO.step (gJ.of (ι:=(List Int)×RL) (v:=λ((g3,Y3):(List Int)×RL)=>.tuple #[.agg ⟨rV (toR (cJ S2 af (act xs j)).2 g3) Y3⟩,vI ((cJ S2 af (act xs j)).1)]) (l:=λ((g3,Y3):(List Int)×RL)=>[.abs (jl b (λβ'=>Pair (cJ S2 af (act xs j)).2 g3/\dP β' (toR (cJ S2 af (act xs j)).2 g3) Y3))]) [4] rfl rfl rfl rfl ?_) ?_
  ·intro u Aq
   refine gL [] (aa0 hp hR af (act xs j) (hX.q _ (Lf (show j<xs.length by omega))).path (hX.q _ (Lf (show j<xs.length by omega))).to (hX.q _ (Lf (show j<xs.length by omega))).text) ?_
   rintro _ _ ⟨g3,Y3,rfl,rfl⟩
   exact NL (MD (g3,Y3) [36,4,1,2,3,27,29,35] [0,1])
  rintro _ _ ⟨⟨g3,Y3⟩,rfl,rfl⟩
  exact dO.read (.tuple #[.agg ⟨rV (toR (cJ S2 af (act xs j)).2 g3) Y3⟩,vI ((cJ S2 af (act xs j)).1)]) (dO.read (.agg ⟨rV (toR (cJ S2 af (act xs j)).2 g3) Y3⟩) (dO.read (.int .i64 ((cJ S2 af (act xs j)).1)) ⟨g3,Y3,rfl,rfl⟩))
 rintro _ _ ⟨g3,Y3,rfl,rfl⟩ _ _ ⟨b7,rfl,rfl⟩
 refine kC [2,3] [] [(0,A_ 1 b7 12)] [(1,(zC (rV (toR (cJ S2 af (act xs j)).2 g3) Y3)))] (eu.last d6 (jK 1 [] [] (NL (aF.np (NX (ax.region (aE.sI 0 [1,2,3,4] (fY:=[.aD b7 (rV (toR (cJ S2 af (act xs j)).2 g3) Y3) 45,.aD b5 (uV (toR S2 g2) Y2 af U nf xs.length (↑k)) 47,.aD b6 (uZ) 47,.abs R]) rfl rfl d6 (λD5 jD ⟨Fl,ol⟩=>?_))))))))
 replace hA:=hA.le jD
 replace aH:=aH.trans jD
 exact jC 3 [] [(0,A_ 0 b7 12),(2,A_ 1 b5 12)] [(1,(zC (rV (toR (cJ S2 af (act xs j)).2 g3) Y3)))] (LX (ax.region (jK 3 [3] [(1,wJ ((j:Int)+1) (↑(j+1)))] (NL (tB ((j+1),D5,(cJ S2 af (act xs j)).2,g3,Y3) [1,2,3] (⟨d5,aH,hA,Fl,ol,by rw [hS,U7 d5 d5]⟩))))))
end
section
open Go.RowKit Go.Maps bw aI
attribute [local irreducible] aE bH ax aF ct
noncomputable abbrev yS1 (b4:Nat):=(.aD b4 [vI 0,vI 0,vI 0,.string ⟨#[]⟩,.string ⟨#[]⟩,.slice none (0) (0),vI 0,vI 0,vI 0,vI 0,vI 0,vI 0,vI 0] 63:HP)
noncomputable abbrev yS2 (B3)(af)(c)(p3):=(.abs (aK 5 1 B3 ((bY af c).data.length) p3 (ez (bY af c).data)):HP)
noncomputable abbrev yS3 (cx:aN) (B3) (af) (c) (p3):=([(0,vI (cx.op)),(1,vI (cx.bD)),(2,vI (cx.other)),(3,.string cx.name),(4,.string cx.text),(5,.slice B3 ((bY af c).data.length) (p3)),(6,vI (cx.mode)),(7,vI (cx.cO)),(8,vI (cx.cQ)),(9,vI (cx.bJ)),(10,vI (cx.bh)),(11,vI (cx.code)),(12,vI (cx.answer))]:Fr)
noncomputable abbrev yS4 (b1:Nat) (b2:Nat) (b3:Nat) (b4:Nat):=([(2,vP b1),(3,vP b2),(4,vP b3),(5,vP b4)]:Fr)
theorem AJ {β:Bs} {S S2:bg} {g:List Int} {c c2:aN} (hp:Pair S g) (Y:RL) (hR:dP β (toR S g) Y) (af:Int) (U:UL) (fs:List cF) (xs:List cM) (k:Nat) (hk:k<=8388600) (hF:cE β U.A (dL jr fs)) (hfl:fs.length<=2097152) (hA:cE β U.B (dL kg xs)) (hX:gy xs 1048576) (hD:br fs xs af (k+1) S c=(S2,c2)) (yK:mV c.op) (hn:c.name.size<=1048576) (hb:ck β c.dA c.data) (hl:c.data.length<=140737488355328) (hc:c.data.length<=c.dC) :
 bN Tryz.prog β 9 #[.agg ⟨uV (toR S g) Y af U fs.length xs.length ((k:Nat):Int)⟩,.agg ⟨bA c⟩] [] (λβ' v l=>∃g' Y' B p,v=.tuple #[.agg ⟨uV (toR S2 g') Y' af U fs.length xs.length (((k+1):Nat):Int)⟩,.agg ⟨bA (iJ c2 B p)⟩]/\l=[]/\Pair S2 g'/\dP β' (toR S2 g') Y'/\ck β' B c2.data):=by
 have hwn:(bY af c).name.size<=1048576:=by rw [Vd];exact hn
 have yA:ck β (bY af c).dA (bY af c).data:=by rw [aa1,vG];exact hb
 have hwl:(bY af c).data.length<=140737488355328:=by rw [vG];exact hl
 have hwc:(bY af c).data.length<=(bY af c).dC:=by rw [vG,aa2];exact hc
 have aa4:mV (bY af c).op:=by rw [show (bY af c).op=c.op from by unfold bY;split<;>rfl];exact yK
 obtain⟨SW,hSW⟩:∃q,jb af S (dh xs ((k+1:Nat):Int))=q:=⟨_,rfl⟩
 obtain⟨kf,Br⟩:∃q,iT fs ((k+1:Nat):Int)=q:=⟨_,rfl⟩
 replace hD:dZ kf SW (bY af c)=(S2,c2):=by rw [←Br,←hSW];exact hD
 refine mK Tryz.func9 Tryz.ntmps9 (λaH R=>SR (jB 1 [2] (λb1=>.aD b1 (uV (toR S g) Y af U fs.length xs.length (↑k)) 47) (λb1=>jB 1 [3] (λb2=>.aD b2 (bA c) 63) (λb2=>jB 1 [4] (λb3=>.aD b3 (uZ) 47) (λb3=>jB 1 [5] (λb4=>.aD b4 [vI 0,vI 0,vI 0,.string ⟨#[]⟩,.string ⟨#[]⟩,.slice none (0) (0),vI 0,vI 0,vI 0,vI 0,vI 0,vI 0,vI 0] 63) (λb4=>NS (jK 1 [12] [(0,A_ 1 b1 16)] (iK [] (Yh hp Y hR af U fs.length xs k hk hA hX hSW) ?_))))))))
 rintro E7 _ _ iP ⟨g1,Y1,rfl,rfl,hp1,wq⟩
 replace hF:=hF.le iP
 replace yA:=yA.le iP
 replace aH:=aH.trans iP
 refine jC 1 [] [(0,A_ 1 b1 16)] [(1,(zC (rV (toR SW g1) Y1)))] (NS (jK 1 [14] [(0,A_ 1 b1 16)] (gE [] (Yg (toR SW g1) Y1 af U fs xs.length k hk hF hfl Br) (jK 1 [6] [] (NS (jC 5 [] [(1,a_ 1 b1),(2,wJ ((k:Int)+1) (↑(k+1))),(4,a_ 1 b1)] [(1,[(15,vI ↑(k+1))])] (NN (ax.join (ι:=Unit) (λ(u:Unit)=>True) (λ(u:Unit)=>(yS4 b1 b2 b3 b4++[(6,vI (kf))])) (λ(u:Unit)=>[.abs R,.aD b1 (uV (toR SW g1) Y1 af U fs.length xs.length (↑(k+1))) 47,pC b2 (bY af c),.aD b3 (uZ) 47,yS1 b4]) ?_ (SR (jK 3 [22] [(1,a_ 2 b2)] (NN (cP ((c.op:Int)=(1:Int)) (λtj=>ax.region (jC 4 [] [(1,a_ 1 b1),(3,a_ 2 b2)] [(2,[(2,vI (af))])] (NL (aF.jk [(2,.aD b2 (bA (bY af c)) 63)] (λw hS=>by rw [show (bY af c)={c with other:=af} from t8 tj];exact hS) (mJ () [0,1,2,3,4] (trivial)))))) (λtj=>ax.skip (aF.jk [(2,.aD b2 (bA (bY af c)) 63)] (λw hS=>by rw [show (bY af c)=c from nw tj];exact hS) (mJ () [0,1,2,3,4] (trivial))))))))))))))))
 rintro u _
 refine SQ (jK 2 [27] [] (NN (cP ((kf:Int)=(1:Int)) (λyB=>?_) (λyB=>?_))))
 ·refine SQ (jK 3 [30] [(1,a_ 2 b2)] (NN (cP (((bY af c).op:Int)=(13:Int)) (λrA=>?_) (λrA=>?_))))
  ·refine SR (jK 3 [33,34] [(1,A_ 1 b1 12),(2,A_ 2 b2 13)] ?_)
   obtain⟨Sx,cx,S8⟩:∃S2 c2,fC SW (bY af c)=(S2,c2):=⟨_,_,rfl⟩
   refine iK [] (MH hp1 wq S8 aa4 hwn yA hwl hwc) ?_
   rintro CN _ _ iw ⟨g2,Y2,B2,p2,rfl,rfl,hp2,CQ,hB2⟩
   replace yA:=yA.le iw
   replace aH:=aH.trans iw
   refine jB 4 [7,36,37] (λb7=>.aD b7 (rZ) 45) (λb7=>jN 3 [] (λb8=>[(1,A_ 5 b7 12),(2,A_ 6 b8 13)]) (λb8=>[(5,(zC (rV (toR Sx g2) Y2)))]) (λb8=>.aD b8 (bA (iJ cx B2 p2)) 63) (λb8=>NN (ax.region (jC 3 [] [(0,A_ 5 b7 12),(2,A_ 1 b1 12)] [(1,(zC (rV (toR Sx g2) Y2)))] (NN (ax.seq (rM (List.range 5) 2 [1,2] (jR 2 [4,5,40,41] [(0,A_ 0 b1 16),(1,A_ 1 b2 13)] (mL [2,3] [] (Ck (bY af c) yA hwl 180) ?_ (by rintro _ _ ⟨B3,p3,rfl,rfl⟩;rfl))))))))))
   rintro _ _ ⟨B3,p3,rfl,rfl⟩
   refine nC [2,3] [] [(0,A_ 4 b3 16)] [(4,(zC (uV (toR Sx g2) Y2 af U fs.length xs.length (↑(k+1)))))] (ct.last rfl rfl (jC 1 [] [(0,A_ 5 b4 13)] [(5,(zC (bA (iJ (iz (bY af c) 180) B3 p3))))] (NL (aF.np (NX (ax.ret (aF.bq (aF.eM [0] [yS2 B3 af c p3] (λβ9 ny hL=>?_)))))))))
   have Qm:=hL.bytes
   replace CQ:=CQ.le ny
   replace aH:=aH.trans ny
   have DV:((Sx,iz (bY af c) 180):bg×aN)=(S2,c2):=(show dZ kf SW (bY af c)=_ from by unfold dZ;rw [t8 yB,t8 rA,S8]).symm.trans hD
   exact rB (.tuple #[.agg ⟨uV (toR Sx g2) Y2 af U fs.length xs.length (↑(k+1))⟩,.agg ⟨bA (iJ (iz (bY af c) 180) B3 p3)⟩]) [A_ 3 b3 16,A_ 4 b4 13] [0] aH (by cases DV;exact⟨g2,Y2,B3,p3,rfl,rfl,hp2,CQ,by rw [vF];exact Qm⟩)
  refine KX (ax.seq (rM (List.range 5) 2 [1,2] (jR 2 [4,5,40,41] [(0,A_ 0 b1 16),(1,A_ 1 b2 13)] (mL [2,3] [] (Ck (bY af c) yA hwl 180) ?_ (by rintro _ _ ⟨B3,p3,rfl,rfl⟩;rfl)))))
  rintro _ _ ⟨B3,p3,rfl,rfl⟩
  refine nC [2,3] [] [(0,A_ 4 b3 16)] [(4,(zC (uV (toR SW g1) Y1 af U fs.length xs.length (↑(k+1)))))] (ct.last rfl rfl (jC 1 [] [(0,A_ 5 b4 13)] [(5,(zC (bA (iJ (iz (bY af c) 180) B3 p3))))] (NL (aF.np (NX (ax.ret (aF.bq (aF.eM [0] [yS2 B3 af c p3] (λVf mz hL=>?_)))))))))
  have Qm:=hL.bytes
  replace wq:=wq.le mz
  replace aH:=aH.trans mz
  have DV:((SW,iz (bY af c) 180):bg×aN)=(S2,c2):=(show dZ kf SW (bY af c)=_ from by unfold dZ;rw [t8 yB,nw rA]).symm.trans hD
  exact rB (.tuple #[.agg ⟨uV (toR SW g1) Y1 af U fs.length xs.length (↑(k+1))⟩,.agg ⟨bA (iJ (iz (bY af c) 180) B3 p3)⟩]) [A_ 3 b3 16,A_ 4 b4 13] [0] aH (by cases DV;exact⟨g1,Y1,B3,p3,rfl,rfl,hp1,wq,by rw [vF];exact Qm⟩)
 refine KX (ax.seq (ax.join (ι:=Bool) (λ(S9:Bool)=>(S9=decide (kf=2/\((bY af c).op=4\/(bY af c).op=5\/(bY af c).op=6\/(bY af c).op=7\/(bY af c).op=9)))) (λ(S9:Bool)=>(yS4 b1 b2 b3 b4++[(6,vI (kf)),(59,.bool S9)])) (λ(S9:Bool)=>[.abs R,.aD b1 (uV (toR SW g1) Y1 af U fs.length xs.length (↑(k+1))) 47,pC b2 (bY af c),.aD b3 (uZ) 47,yS1 b4]) ?_ (ax.region (jK 3 [45] [] (sP 45 ((kf:Int)=(2:Int)) (λvz=>jK 4 [49] [(1,a_ 2 b2)] (sP 49 (((bY af c).op:Int)>=(4:Int)) (λh49=>jK 5 [54] [(1,a_ 2 b2)] (sP 54 (((bY af c).op:Int)<=(7:Int)) (λE5=>jK 5 [59] [] (NL (mJ true [0,1,2,3,4] ((ahO d5).symm)))) (λE5=>jK 5 [59] [(1,a_ 2 b2)] (NL (mJ ((decide (((bY af c).op:Int)=(9:Int)))) [0,1,2,3,4] ((T8.2 ⟨λh=>d5,λh=>d5⟩))))))) (λh49=>jK 10 [59] [(6,a_ 2 b2)] (NL (mJ ((decide (((bY af c).op:Int)=(9:Int)))) [0,1,2,3,4] ((T8.2 ⟨λh=>d5,λh=>d5⟩))))))) (λvz=>jK 14 [59] [] (NL (mJ false [0,1,2,3,4] ((Lk d5).symm)))))))))
 rintro S9 hq1
 refine ax.cond (b:=S9) (λ_=>d6) (λxH=>?_) (λxH=>?_)
 ·refine ax.seq (rM (List.range 5) 2 [1,2] (jR 2 [4,5,60,61] [(0,A_ 0 b1 16),(1,A_ 1 b2 13)] (mL [2,3] [] (Ck (bY af c) yA hwl 176) ?_ (by rintro _ _ ⟨B3,p3,rfl,rfl⟩;rfl))))
  rintro _ _ ⟨B3,p3,rfl,rfl⟩
  refine nC [2,3] [] [(0,A_ 4 b3 16)] [(4,(zC (uV (toR SW g1) Y1 af U fs.length xs.length (↑(k+1)))))] (ct.last rfl rfl (jC 1 [] [(0,A_ 5 b4 13)] [(5,(zC (bA (iJ (iz (bY af c) 176) B3 p3))))] (NL (aF.np (NX (ax.ret (aF.bq (aF.eM [0] [yS2 B3 af c p3] (λuy j4 hL=>?_)))))))))
  have Qm:=hL.bytes
  replace wq:=wq.le j4
  replace aH:=aH.trans j4
  have DV:((SW,iz (bY af c) 176):bg×aN)=(S2,c2):=(show dZ kf SW (bY af c)=_ from by unfold dZ;rw [nw yB,t8 (aij (hq1.symm.trans xH))]).symm.trans hD
  exact rB (.tuple #[.agg ⟨uV (toR SW g1) Y1 af U fs.length xs.length (↑(k+1))⟩,.agg ⟨bA (iJ (iz (bY af c) 176) B3 p3)⟩]) [A_ 3 b3 16,A_ 4 b4 13] [0] aH (by cases DV;exact⟨g1,Y1,B3,p3,rfl,rfl,hp1,wq,by rw [vF];exact Qm⟩)
 refine KX (SR (jK 3 [9] [(1,a_ 2 b2)] (NN (ax.seq (ax.join (ι:=Bool) (λ(Ta:Bool)=>(Ta=decide (kf=3/\(bY af c).op=9/\2<=(bY af c).data.length))) (λ(Ta:Bool)=>(yS4 b1 b2 b3 b4++[(9,.slice (bY af c).dA ((bY af c).data.length) ((bY af c).dC)),(76,.bool Ta)])) (λ(Ta:Bool)=>[.abs R,.aD b1 (uV (toR SW g1) Y1 af U fs.length xs.length (↑(k+1))) 47,pC b2 (bY af c),.aD b3 (uZ) 47,yS1 b4]) ?_ (ax.region (jK 3 [67] [] (sP 67 ((kf:Int)=(3:Int)) (λVQ=>jK 5 [72] [(1,a_ 2 b2)] (sP 72 (((bY af c).op:Int)=(9:Int)) (λh72=>jK 4 [76] [] (NL (mJ ((decide (((((bY af c).data.length:Nat):Int):Int)>=(2:Int)))) [0,1,2,3,4] ((T8.2 ⟨λh=>d5,λh=>d5⟩))))) (λh72=>jK 4 [76] [] (NL (mJ false [0,1,2,3,4] ((Lk d5).symm)))))) (λVQ=>jK 9 [76] [] (NL (mJ false [0,1,2,3,4] ((Lk d5).symm))))))))))))
 rintro Ta CJ
 refine ax.cond (b:=Ta) (λ_=>d6) (λh76=>KB (aij (CJ.symm.trans h76)) (by unfold mV at aa4;omega)) (λh76=>?_)
 refine KX (SR (jK 3 [85,86] [(1,A_ 1 b1 12),(2,A_ 2 b2 13)] ?_))
 obtain⟨Sx,cx,S8⟩:∃S2 c2,fC SW (bY af c)=(S2,c2):=⟨_,_,rfl⟩
 refine iK [] (MH hp1 wq S8 aa4 hwn yA hwl hwc) ?_
 rintro K5 _ _ nT ⟨g2,Y2,B2,p2,rfl,rfl,hp2,CQ,hB2⟩
 replace yA:=yA.le nT
 replace aH:=aH.trans nT
 refine jB 4 [10,88,89] (λb17=>.aD b17 (rZ) 45) (λb17=>jN 3 [11] (λb18=>[(1,A_ 5 b17 12),(2,A_ 6 b18 13)]) (λb18=>[(5,(zC (rV (toR Sx g2) Y2)))]) (λb18=>.aD b18 (bA (iJ cx B2 p2)) 63) (λb18=>NS (jC 3 [] [(0,A_ 5 b17 12),(2,A_ 1 b1 12)] [(1,(zC (rV (toR Sx g2) Y2)))] (NS (jK 1 [92] [] (gL [] (tY (bY af c).dA (bY af c).dC (bY af c).data yA hwl) ?_))))))
 rintro _ _ ⟨B3,p3,rfl,rfl⟩
 refine jC 2 [] [(1,a_ 7 b18)] [(7,[(5,.slice B3 ((bY af c).data.length) (p3))])] (NN (ax.seq (rM [0,1,2,3] 2 [2,7] (jR 2 [4,5,95,96] [(0,A_ 0 b1 16),(1,A_ 1 b18 13)] (nC [2,7] [] [(0,A_ 4 b3 16)] [(4,(zC (uV (toR Sx g2) Y2 af U fs.length xs.length (↑(k+1)))))] (ct.last rfl rfl (jC 1 [] [(0,A_ 5 b4 13)] [(5,(yS3 cx B3 af c p3))] (NL (aF.np (NX (ax.ret (aF.eM [0] [yS2 B3 af c p3] (λaa5 lf hL=>?_)))))))))))))
 have Qm:=hL.bytes
 replace CQ:=CQ.le lf
 replace aH:=aH.trans lf
 have DV:((Sx,{cx with data:=(bY af c).data}):bg×aN)=(S2,c2):=(show dZ kf SW (bY af c)=_ from by unfold dZ;rw [nw yB,nw (of_decide_eq_false (hq1.symm.trans xH)),nw (of_decide_eq_false (CJ.symm.trans h76)),S8,aa3 (Ve S8)]).symm.trans hD
 exact rB (.tuple #[.agg ⟨uV (toR Sx g2) Y2 af U fs.length xs.length (↑(k+1))⟩,.agg #[vI (cx.op),vI (cx.bD),vI (cx.other),.string cx.name,.string cx.text,.slice B3 ((bY af c).data.length) (p3),vI (cx.mode),vI (cx.cO),vI (cx.cQ),vI (cx.bJ),vI (cx.bh),vI (cx.code),vI (cx.answer)]]) [A_ 3 b3 16,A_ 4 b4 13] [0] aH (by cases DV;exact⟨g2,Y2,B3,p3,rfl,rfl,hp2,CQ,Qm⟩)
end
section
open Go.RowKit Go.Maps bw aI
noncomputable def fL (X:FM) (ns:List aP) (af:Int):Int:=
 open Classical in
 if kU X then if cD ns then
  match ns.find? (λn=>decide (n.id=af)) with
  |none=>141
  |some n=>if n.kind=2 then 0 else 173
 else 140 else 179
def AK (ns:List aP) (af:Int) (i:Nat):Prop:=i<ns.length/\(nd ns i).id=af/\∀q,q<i->(nd ns q).id≠af
section n
variable {X:FM} {ns:List aP} {af:Int} {i:Nat}
theorem Qn (ns:List aP) (af:Int):(∃i,AK ns af i)\/∀q,q<ns.length->(nd ns q).id≠af:=by
 have key:∀n,n<=ns.length->(∃i,AK ns af i)\/∀q,q<n->(nd ns q).id≠af:=λn=>by
  induction n with
  |zero=>exact λ_=>.inr λq h=>KB h (N5 q)
  |succ n ih=>
    intro h
    rcases ih d5 with h1|h1
    ·exact .inl h1
    by_cases e:(nd ns n).id=af
    ·exact .inl ⟨n,d5,e,h1⟩
    exact .inr λq hq=>(Pe.1 hq).elim (h1 q) (λe2=>e2 ▸ e)
 exact key _ (N6 _)
theorem J3 (h:AK ns af i):ns.find? (λn=>decide (n.id=af))=some (nd ns i):=by
 obtain⟨h1,h2,h3⟩:=h
 rw [List.find?_eq_some_iff_getElem]
 have e:=getD_some (x:=default) h1
 have e2:ns[i]=nd ns i:=by rw [T6 h1] at e;exact aiy e
 refine⟨by simpa using h2,i,h1,e2,λj hj=>?_⟩
 have e3:ns[j]=nd ns j:=by
  have:=getD_some (x:=default) (show j<ns.length by omega)
  rw [T6 d5] at this;exact aiy this
 rw [e3]
 simpa using h3 j hj
theorem Yi (h:∀q,q<ns.length->(nd ns q).id≠af):ns.find? (λn=>decide (n.id=af))=none:=by
 rw [List.find?_eq_none]
 intro n hn
 obtain⟨q,hq,e⟩:=ah9.1 hn
 have e3:ns[q]=nd ns q:=by
  have:=getD_some (x:=default) hq
  rw [T6 hq] at this;exact aiy this
 rw [←e,e3]
 simpa using h q hq
theorem DL (h:¬kU X):fL X ns af=179:=nw h
theorem AL (h:kU X) (h2:¬cD ns):fL X ns af=140:=(t8 h).trans (nw h2)
theorem xA (h:kU X) (h2:cD ns) (h3:∀q,q<ns.length->(nd ns q).id≠af):fL X ns af=141:=(t8 h).trans ((t8 h2).trans (by rw [Yi h3]))
theorem DM (h:kU X) (h2:cD ns) (h3:AK ns af i) (h4:(nd ns i).kind=2):fL X ns af=0:=(t8 h).trans ((t8 h2).trans (by rw [J3 h3];exact t8 h4))
theorem yZ (h:kU X) (h2:cD ns) (h3:AK ns af i) (h4:¬(nd ns i).kind=2):fL X ns af=173:=(t8 h).trans ((t8 h2).trans (by rw [J3 h3];exact nw h4))
theorem Fm (h:fL X ns af=0):kU X/\cD ns:=by
 by_cases h1:kU X
 ·by_cases h2:cD ns
  ·exact⟨h1,h2⟩
  rw [AL h1 h2] at h;exact KB h (by decide)
 rw [DL h1] at h;exact KB h (by decide)
end n
end
section
open Go.RowKit Go.Maps bw aI
attribute [local irreducible] aE bH ax aF
theorem aa6 {β:Bs} (b:Nat) (af z:Int) (v1 v2 v3 v4 v5 v6 v7 v8 v9:Value) :
 aW Tryz.prog β 52 #[.agg #[vI (z),v1,v2,v3,v4,v5,v6,v7,v8,v9],vP b] [.aD b [vI (af)] 3] (λv l=>v=.bool (decide (z=af))/\l=[.aD b [vI (af)] 3]):=by
 exact SE Tryz.func52 Tryz.ntmps52 (λR=>SR (jB 2 [2] (λb1=>.aD b1 [vI (z),v1,v2,v3,v4,v5,v6,v7,v8,v9] 102) (λb1=>NS (jK 5 [3] [(1,a_ 2 b1),(2,a_ 0 b)] (eN (v:=(.bool (decide ((z:Int)=(af:Int))))) ⟨rfl,rfl⟩)))))
theorem Qo {β:Bs} (A:Option Addr) (c:Nat) (ns:List aP) (Y:fk) (hG:aO β A ns Y) (hl:ns.length<=1048576) (b:Nat) (af:Int) :
 aW Tryz.prog β 51 #[.slice A (ns.length) (c),.func (.func 52) #[] #[vP b]] [.aD b [vI (af)] 3] (λv l=>(∃i:Nat,AK ns af i/\v=vI (i:Int)/\l=[.aD b [vI (af)] 3])\/((∀q,q<ns.length->(nd ns q).id≠af)/\v=vI (-1)/\l=[.aD b [vI (af)] 3])):=by
 refine SE Tryz.func51 Tryz.ntmps51 (λR=>SR (jK 1 [] [] (NZ (jK 3 [7,8] [] (NN (ax.block (lJ (ι:=Nat) (λ(i:Nat)=>(i<=ns.length)/\(∀q,q<i->(nd ns q).id≠af)) (λ(i:Nat)=>ns.length-i) (λ(i:Nat)=>[(0,.slice A (ns.length) (c)),(1,.func (.func 52) #[] #[vP b]),(7,vI ↑ns.length),(8,vI ↑i)]) (λ(i:Nat)=>[.aD b [vI (af)] 3,.abs R]) 0 [0,1] (⟨L4 _,λq h=>KB h (N5 q)⟩) ?_)))))))
 rintro i ⟨hi,fT⟩
 exact SR (jK 1 [9] [] (NN (ax.seq (cP ((((i:Nat):Int):Int)<(((ns.length:Nat):Int):Int)) (λh9=>KX (ax.seq (ax.block (SR (jK 2 [5] [] (NS (jK 5 [11,15] [(3,x_ i ns.length (aO.hd hG (i:=i) d5)),(4,Eh (iL Y i (nd ns i)) (λ_ _ h=>aO.rd hG d5 h))] (gE [0] (aa6 b af ((nd ns i).id) (.int .i64 ((nd ns i).kind)) (.int .i64 ((nd ns i).mode)) (.int .i64 ((nd ns i).cO)) (.int .i64 ((nd ns i).cQ)) (.int .i64 ((nd ns i).bJ)) (.int .i64 ((nd ns i).bh)) (.slice (Y.dA i) ((nd ns i).data.length) ((Y.dC i))) (.string (nd ns i).target) (.slice (Y.eA i) ((nd ns i).aq.length) ((Y.eC i)))) (NN (cP ((nd ns i).id=af) (λpz=>zR (v:=(vI ↑i)) (.inl ⟨i,⟨d5,pz,fT⟩,rfl,rfl⟩)) (λpz=>KX (ax.region (jK 2 [8] [(0,wJ ((i:Int)+1) (↑(i+1)))] (NL (tJ ((i+1)) [0,1] (⟨d5,λq hq=>(Pe.1 hq).elim (fT q) (λe=>e ▸ pz)⟩)))))))))))))))) (λh9=>XX (zR (v:=(vI (-1))) (.inr ⟨λq hq=>fT q d5,rfl,rfl⟩)))))))
theorem ae3 {β:Bs} (b:Nat) :
 aW Tryz.prog β 53 #[.iface 37 (vP b)] [] (λv l=>v=.agg #[.iface 37 (vP b)]/\l=[]):=by
 exact SE Tryz.func53 Tryz.ntmps53 (λR=>SR (jB 1 [2] (λb2=>.aD b2 [.nilIface] 55) (λb2=>NS (jC 3 [] [(2,a_ 1 b2)] [(1,[(0,.iface 37 (vP b))])] (eS (v:=(.agg #[.iface 37 (vP b)])) [a_ 1 b2] ⟨rfl,rfl⟩)))))
end
section
open Go.RowKit bw aI Go.Maps
abbrev DN (X:FM) (ns:List aP):={S:bg // kR X ns ns.length 0 S}
theorem H6 (us:bB Th):us.length=(aY us).length:=(ahQ ..).symm
theorem Qp {S:bg} (h:Inv0 S):(aV S).length<=1048576:=by
 rw [iF]
 have:=h.len
 omega
end
section
open Go.RowKit Go.Maps bw aI
section m
variable {β:Bs} {ns:List aP} {Y:fk} {X:FM} {af:Int}
theorem aa7 (hcap:kU X) (hok:cD ns) (A:Option Addr) (c:Nat) (hG:aO β A ns Y) (hB:kq ns 1048576) :
 aW Tryz.prog β 50 #[.agg #[.slice A ns.length c],.agg #[.int .i64 X.cN,.int .i64 X.cB,.int .i64 X.cH,.int .i64 X.cS,.int .i64 X.cZ]] [] (λv l=>∃(S:DN X ns) (f m t:Nat) (L:HL),v=.tuple #[.pointer (some ⟨f,0,none⟩),.int .i64 0]/\l=pA f m t L S.1):=
 (S6 A c ns Y hG (vA hB) (FO hB) (I7 hB) (I8 hB) X).mono (by
  rintro v l (⟨h,_⟩|⟨_,h,_⟩|⟨_,_,h⟩)
  ·exact KB hcap h
  ·exact KB hok h
  obtain⟨S,f,m,t,L,h1,h2,h3⟩:=h
  exact⟨⟨S,h1⟩,f,m,t,L,h2,h3⟩)
theorem aa8 (Fe:¬(kU X/\cD ns)) (A:Option Addr) (c:Nat) (hG:aO β A ns Y) (hB:kq ns 1048576) :
 aW Tryz.prog β 50 #[.agg #[.slice A ns.length c],.agg #[.int .i64 X.cN,.int .i64 X.cB,.int .i64 X.cH,.int .i64 X.cS,.int .i64 X.cZ]] [] (λv l=>v=.tuple #[.pointer none,.int .i64 (fL X ns af)]/\l=[]):=
 (S6 A c ns Y hG (vA hB) (FO hB) (I7 hB) (I8 hB) X).mono (by
  rintro v l (⟨h,h1,h2⟩|⟨h,h',h1,h2⟩|⟨h1,h2,_⟩)
  ·exact⟨by rw [DL h];exact h1,h2⟩
  ·exact⟨by rw [AL h h'];exact h1,h2⟩
  exact KB ⟨h1,h2⟩ Fe)
theorem DP (Fe:¬(kU X/\cD ns)):fL X ns af≠0:=λh=>Fe (Fm h)
theorem Yj {i:Nat} (hi:AK ns af i) (A:Option Addr) (c:Nat) (hG:aO β A ns Y) (hB:kq ns 1048576) (b:Nat) :
 aW Tryz.prog β 51 #[.slice A ns.length c,.func (.func 52) #[] #[.pointer (some ⟨b,0,none⟩)]] [.aD b [.int .i64 af] 3] (λv l=>v=.int .i64 (i:Int)/\l=[.aD b [.int .i64 af] 3]):=
 (Qo A c ns Y hG (vA hB) b af).mono (by
  rintro v l (⟨j,hj,h1,h2⟩|⟨h,_⟩)
  ·have e:i=j:=by
    obtain⟨a1,a2,a3⟩:=hi
    obtain⟨b1,b2,b3⟩:=hj
    rcases ail i j with h|h|h
    ·exact KB a2 (b3 i h)
    ·exact h
    exact KB b2 (a3 j h)
   subst e
   exact⟨h1,h2⟩
  exact KB hi.2.1 (h i hi.1))
theorem aa9 (hi:∀q,q<ns.length->(nd ns q).id≠af) (A:Option Addr) (c:Nat) (hG:aO β A ns Y) (hB:kq ns 1048576) (b:Nat) :
 aW Tryz.prog β 51 #[.slice A ns.length c,.func (.func 52) #[] #[.pointer (some ⟨b,0,none⟩)]] [.aD b [.int .i64 af] 3] (λv l=>v=.int .i64 (-1)/\l=[.aD b [.int .i64 af] 3]):=
 (Qo A c ns Y hG (vA hB) b af).mono (by
  rintro v l (⟨j,hj,_⟩|⟨_,h1,h2⟩)
  ·exact KB hj.2.1 (hi j hj.1)
  exact⟨h1,h2⟩)
end m
theorem Ro {X:FM} {ns:List aP} {af:Int} (h:¬(kU X/\cD ns)):fL X ns af=Fk X:=by
 by_cases h1:kU X
 ·rw [AL h1 (λh2=>h ⟨h1,h2⟩)];exact (t8 h1).symm
 rw [DL h1];exact (nw h1).symm
def NB (β β':Bs):Bs:=⟨λk=>β'.O k/\¬β.O k,β'.w0⟩
section n
variable {a b c β β' oL:Bs} {A:Option Addr} {d:List UInt8} {Z:AZ} {xs:List cM} {l R:List HP} {w:World} {p:HP} {i:Nat} {P:Program} {f:FuncId} {args:Array Value} {pre:List HP}
theorem NB.le (h:b.le c):(NB a b).le (NB a c):=⟨λk hk=>⟨h.O k hk.1,hk.2⟩,h.os,h.tape,h.output,h.size,λk hk=>h.old k hk.1⟩
structure Fo (a b:Bs) (A:Option Addr) (d:List UInt8):Prop where
 at_:ck b A d
 nb:ck (NB a b) A d
theorem Fo.le (h:Fo a b A d) (g:b.le c):Fo a c A d:=⟨h.at_.le g,h.nb.le (NB.le g)⟩
structure abb (a b:Bs) (Z:AZ) (xs:List cM):Prop where
 at_:kW b Z xs
 nb:kW (NB a b) Z xs
theorem oF.ae4 (h:oF β R β') (i:Nat) (hp:R[i]?=some p):∃F,p.h F β'.w0/\∀k,F k->(NB β β').O k:=by
 obtain⟨φ,h1,h2,_⟩:=h.fp
 exact⟨φ i,(h1 i p hp).1,λk hk=>⟨(h1 i p hp).2 k hk,h2 i (dG hp) k hk⟩⟩
theorem MI {β:Bs} (A:Option Addr) (c:Nat) (d:List UInt8) (hA:ck β A d) (hl:d.length<=1048576):bN Tryz.prog β 48 #[.slice A d.length c] [] (λβ' v l=>∃B cap,v=.slice B d.length cap/\l=[]/\Fo β β' B d/\d.length<=cap):=
 (Cj A c d hA d5).ach (by
  rintro v l ⟨B,cap,rfl,rfl⟩
  refine⟨[],_,rfl,λβ' h=>⟨B,cap,rfl,rfl,⟨h.bytes,?_⟩,?_⟩⟩
  ·obtain⟨F,h1,h2⟩:=h.ae4 0 rfl
   exact cE.iD h1 h2 rfl
  obtain⟨F,h1,_⟩:=h.get 0 rfl
  exact (aK.len h1).2)
end n
end
section
open Go.RowKit Go.Maps bw aI
attribute [local irreducible] aE bH ax aF ct
theorem abd {β:Bs} (A:Option Addr) (c:Nat) (ns:List aP) (Y:fk) (hG:aO β A ns Y) (hB:kq ns 1048576) (X:FM) (af:Int) (Af:Option Addr) (cf:Nat) (fs:List cF) (hF:cE β Af (dL jr fs)) (oM:lI fs 2097152) (Aa:Option Addr) (ca:Nat) (xs:List cM) (hA:cE β Aa (dL kg xs)) (gA:gy xs 1048576) :
 bN Tryz.prog β 26 #[.agg #[.slice A (ns.length) (c)],vI (af),.agg #[vI (X.cN),vI (X.cB),vI (X.cH),vI (X.cS),vI (X.cZ)],.agg #[.slice Af (fs.length) (cf),.slice Aa (xs.length) (ca)]] [] (λβ' v l=>(fL X ns af≠0/\v=.tuple #[.pointer none,vI (fL X ns af)]/\l=[])\/(fL X ns af=0/\∃(N:DN X ns) (L:HL) (w o q f m t am an km kn:Nat) (Z:AZ),v=.tuple #[vP w,vI 0]/\l=[.aD w [.iface 37 (vP w),vP f,.iface 137 (vP o),vI (af),.slice none (0) (0)] 60,.aD o [.iface 138 (vP q),vP f,vI (af),.map (some am),vI 0] 142,.aD q [.iface 56 (vP f),.map (some km),vI 0] 140,.abs (bK Tryz.prog 3 am (kD Z xs) an),.abs (bK Tryz.prog 3 km (ic fs) kn),.abs (aK 63 13 none 0 0 ([])),.aD f [vI (N.1.X.cN),vI (N.1.X.cB),vI (N.1.X.cH),vI (N.1.X.cS),vI (N.1.X.cZ),.map (some m),vP t,vI (N.1.X.last),vI (N.1.X.aq),vI (N.1.X.used)] 173,.abs (bK Tryz.prog 3 m (dg (dM L N.1.ay)) N.1.ay.length),.abs (ia 233 t N.1.X.cH N.1.aL (dM L N.1.us)),.abs (bp (fQ N.1.O L)),.abs (bp (eX N.1.O L)),.abs (bp (ig N.1.O L))]/\abb β β' Z xs)):=by
 have hfl:=oM.len
 have hxl:=gA.len
 refine mK Tryz.func26 Tryz.ntmps26 (λaH R=>SR (jB 1 [4] (λb1=>.aD b1 [.slice A (ns.length) (c)] 24) (λb1=>jB 1 [5] (λb2=>.aD b2 [vI (af)] 3) (λb2=>jB 1 [6] (λb3=>.aD b3 [vI (X.cN),vI (X.cB),vI (X.cH),vI (X.cS),vI (X.cZ)] 28) (λb3=>jB 3 [7] (λb4=>.aD b4 [.slice Af (fs.length) (cf),.slice Aa (xs.length) (ca)] 32) (λb4=>NN (ax.seq ?_)))))))
 by_cases lN:kU X/\cD ns
 ·refine ax.region (jK 2 [21,22] [(0,a_ 1 b1),(1,A_ 3 b3 5)] (gL [] (aa7 (β:=β) lN.1 lN.2 A c hG hB) ?_))
  rintro _ _ ⟨N,f,m,t,L,rfl,rfl⟩
  refine jK 5 [10,11] [] (NZ (jK 2 [27] [] (NF (KX (ax.seq ?_)))))
  rcases Qn ns af with ⟨r,hr⟩|jx
  ·have hr1:r<ns.length:=hr.1
   refine ax.region (jK 3 [30,31] [(1,a_ 7 b1)] (gE [8] (Yj (β:=β) hr A c hG hB b2) (jK 1 [12] [] (NZ (jK 2 [34] [(1,wF (((r:Int):Int)<(0:Int)))] (NF (KX (SQ (jK 7 [41] [(1,a_ 8 b1),(3,x_ r ns.length (aO.hd hG (i:=r) d5)),(5,r_ (aO.rd hG (i:=r) d5 (j:=1) rfl))] (NN (cN (((nd ns r).kind:Int)=(2:Int)) (λzY=>SR (jK 2 [8,9] [] (eO (v:=(.tuple #[.pointer none,vI 173])) [] aH (.inl ⟨by rw [yZ lN.1 lN.2 hr zY];decide,by rw [yZ lN.1 lN.2 hr zY],rfl⟩) [7]))) (λzY=>KX (SR (aE.sK (d:=(some 42)) (t:=131) (λ_=>d6) Tryz.prog rfl 3 (λm5=>jK 1 [13] [] (NZ (aE.cT 11 (p':=.abs (bK Tryz.prog 3 m5 (kD AZ.none (xs.take 0)) 0)) rfl (zc (λf=>HP.abs (bK Tryz.prog 3 _ f 0)) ZR.symm) (aE.mem (fY:=[.aD b2 [vI (af)] 3,pF f m t N.1.X,pI m L N.1.ay,pT t N.1.X.cH N.1.aL L N.1.us,pO N.1.O L,pD N.1.O L,pE N.1.O L,.abs R,.aD b1 [.slice A (ns.length) (c)] 24,.aD b3 [vI (X.cN),vI (X.cB),vI (X.cH),vI (X.cS),vI (X.cZ)] 28,.aD b4 [.slice Af (fs.length) (cf),.slice Aa (xs.length) (ca)] 32,.abs (bK Tryz.prog 3 m5 (kD AZ.none (xs.take 0)) 0),.abs (bp (sJ AZ.none (xs.take 0)))]) (λw hS=>hS.ad9) (jK 4 [44,45,46] [(1,a_ 10 b4)] (NN (ax.block (lJ (ι:=Nat×AZ×Nat) (λ(i,Z,an)=>(i<=xs.length)/\(an<=i)) (λ(i,Z,an)=>xs.length-i) (λ(i,Z,an)=>[(5,vP b2),(7,vP b4),(10,vP f),(13,.map (some m5)),(44,.slice Aa (xs.length) (ca)),(45,vI ↑xs.length),(46,vI ↑i)]) (λ(i,Z,an)=>[.aD b2 [vI (af)] 3,pF f m t N.1.X,pI m L N.1.ay,pT t N.1.X.cH N.1.aL L N.1.us,pO N.1.O L,pD N.1.O L,pE N.1.O L,.aD b1 [.slice A (ns.length) (c)] 24,.aD b3 [vI (X.cN),vI (X.cB),vI (X.cH),vI (X.cS),vI (X.cZ)] 28,.aD b4 [.slice Af (fs.length) (cf),.slice Aa (xs.length) (ca)] 32,.abs (bK Tryz.prog 3 m5 (kD Z (xs.take i)) an),.abs (bp (sJ Z (xs.take i))),.abs R]) (0,AZ.none,0) [0,1,2,3,4,5,6,8,9,10,11,12,7] (⟨L4 _,N6 _⟩) ?_))))))))))))))))))))))
   rintro⟨i,Z,an⟩ ⟨hi,han⟩
   refine SR (jK 1 [47] [] (NN (ax.seq (cP ((((i:Nat):Int):Int)<(((xs.length:Nat):Int):Int)) (λRJ=>?_) (λRJ=>?_)))))
   ·refine KX (ax.seq (ax.block (SR (jN 4 [15] (λb6=>[(0,x_ i xs.length (M9 hA (i:=i) d5)),(1,p_ ⟨[.old (.int .i64 ((act xs i).at_)),.old (.int .i64 ((act xs i).op)),.old (.string (act xs i).path),.old (.string (act xs i).to),.old (.string (act xs i).text)],none,none,none,none⟩ [(Rd β ⟨(cC Aa),cq Aa+i*5+4,none⟩ (.string (act xs i).text)),(Rd β ⟨(cC Aa),cq Aa+i*5+3,none⟩ (.string (act xs i).to)),(Rd β ⟨(cC Aa),cq Aa+i*5+2,none⟩ (.string (act xs i).path)),(Rd β ⟨(cC Aa),cq Aa+i*5+1,none⟩ (vI ((act xs i).op))),(Rd β ⟨(cC Aa),cq Aa+i*5,none⟩ (vI ((act xs i).at_)))] ⟨qA hA (i:=i) d5 (j:=4) rfl,qA hA (i:=i) d5 (j:=3) rfl,qA hA (i:=i) d5 (j:=2) rfl,qA hA (i:=i) d5 (j:=1) rfl,qA hA (i:=i) d5 (j:=0) rfl,trivial⟩),(3,A_ 13 b6 5)]) (λ_=>[]) (λb6=>.aD b6 [vI ((act xs i).at_),vI ((act xs i).op),.string (act xs i).path,.string (act xs i).to,.string (act xs i).text] 133) (λb6=>NN (rM (List.range 11) 8 [10,13] (jR 6 [5,7,10,13,15,44,45,46,50,52,53,55] [(2,a_ 1 b6),(5,a_ 1 b6)] (ct.ji 0 (d:=(some 56)) (t:=131) (K:=3) (E:=30) (b:=m5) (cnt:=an) (f:=(kD Z (xs.take i))) (x:=(.tmp 53)) (ix:=(.tmp 55)) (key:=vI ((act xs i).at_)) (z:=.slice none (0) (0)) (kl:=(Lit.int IntKind.i64 (act xs i).at_)) (q:=(kD Z (xs.take i) (Lit.int IntKind.i64 (act xs i).at_))) d6 d6 (λ_=>d6) (λ_=>d6) ja Tryz.underlying131 (λ_=>d6) (mo (gA.at d5).aw) (rfl) (by rw [Ia];rfl) (jR 1 [5,7,10,13,44,45,46,50,52,56,57] [(0,A_ 1 b6 5)] (mN [10,13] (λb7=>[(58,.slice (some ⟨b7,0,none⟩) (1) (1))]) (λ_=>[]) (λb7=>.aD b7 [vI ((act xs i).at_),vI ((act xs i).op),.string (act xs i).path,.string (act xs i).to,.string (act xs i).text] 133) (λb7=>ct.cut (ι:=(Option Addr)×Nat) (bQ:=λ((A8,c9):(Option Addr)×Nat)=>[(5,vP b2),(7,vP b4),(10,vP f),(13,.map (some m5)),(44,.slice Aa (xs.length) (ca)),(45,vI ↑xs.length),(46,vI ↑i),(50,.map (some m5)),(52,vI ((act xs i).at_)),(59,.slice A8 (((dh (xs.take i) (act xs i).at_).length+1)) (c9))]) (dz:=λ((A8,c9):(Option Addr)×Nat)=>[.aD b2 [vI (af)] 3,pF f m t N.1.X,pI m L N.1.ay,pT t N.1.X.cH N.1.aL L N.1.us,pO N.1.O L,pD N.1.O L,pE N.1.O L,.aD b1 [.slice A (ns.length) (c)] 24,.aD b3 [vI (X.cN),vI (X.cB),vI (X.cH),vI (X.cS),vI (X.cZ)] 28,.aD b4 [.slice Af (fs.length) (cf),.slice Aa (xs.length) (ca)] 32,.abs (bK Tryz.prog 3 m5 (kD Z (xs.take i)) an),.abs (bp (pW (sJ Z (xs.take i)) (zz (act xs i).at_) eG.none)),.abs R,.aD b6 [vI ((act xs i).at_),vI ((act xs i).op),.string (act xs i).path,.string (act xs i).to,.string (act xs i).text] 133,.aD b7 [vI ((act xs i).at_),vI ((act xs i).op),.string (act xs i).path,.string (act xs i).to,.string (act xs i).text] 133,.abs (aK 133 5 A8 ((dh (xs.take i) (act xs i).at_).length+1) c9 (dL kg (dh (xs.take i) (act xs i).at_)++kg (act xs i)))]) [10,13] rfl rfl ?_ rfl (λ_=>d6) ?_)))))))))))
    ·refine sl 56 (((kD Z (xs.take i) (Lit.int IntKind.i64 (act xs i).at_)).getD (.slice none 0 0))) (.slice (aA Z (xs.take i) (act xs i).at_) ((dh (xs.take i) (act xs i).at_).length) ((aC Z (xs.take i) (act xs i).at_))) (Ia) (aE.mem (fY:=[.aD b2 [vI (af)] 3,pF f m t N.1.X,pI m L N.1.ay,pT t N.1.X.cH N.1.aL L N.1.us,pO N.1.O L,pD N.1.O L,pE N.1.O L,.aD b1 [.slice A (ns.length) (c)] 24,.aD b3 [vI (X.cN),vI (X.cB),vI (X.cH),vI (X.cS),vI (X.cZ)] 28,.aD b4 [.slice Af (fs.length) (cf),.slice Aa (xs.length) (ca)] 32,.abs (bK Tryz.prog 3 m5 (kD Z (xs.take i)) an),.abs (bp (pW (sJ Z (xs.take i)) (zz (act xs i).at_) eG.none)),.abs R,.aD b6 [vI ((act xs i).at_),vI ((act xs i).op),.string (act xs i).path,.string (act xs i).to,.string (act xs i).text] 133,.aD b7 [vI ((act xs i).at_),vI ((act xs i).op),.string (act xs i).path,.string (act xs i).to,.string (act xs i).text] 133,.abs (aK 133 5 (aA Z (xs.take i) (act xs i).at_) ((dh (xs.take i) (act xs i).at_).length) (aC Z (xs.take i) (act xs i).at_) (dL kg (dh (xs.take i) (act xs i).at_)))]) (λw hS=>hS.acQ (i:=11) rfl (act xs i).at_) ?_)
     have hay:(dh (xs.take i) (act xs i).at_).length<=1048576:=Pd (Jr _) (by rw [ahZ];omega)
     exact mM 15 30 (some ⟨b7,0,none⟩) 1 1 [vI ((act xs i).at_),vI ((act xs i).op),.string (act xs i).path,.string (act xs i).to,.string (act xs i).text] rfl (gi (j:=14) rfl) (λA8 c9=>aE.cT 15 (p':=.abs (aK 133 5 A8 ((dh (xs.take i) (act xs i).at_).length+1) c9 (dL kg (dh (xs.take i) (act xs i).at_)++kg (act xs i)))) rfl (rfl) (sl 59 (.slice A8 (((dh (xs.take i) (act xs i).at_).length)+1) (c9)) (.slice A8 (((dh (xs.take i) (act xs i).at_).length+1)) (c9)) (rfl) (NL (MD (A8,c9) [5,7,10,13,44,45,46,50,52,59] [0,1,2,3,4,5,6,7,8,9,10,11,12,13,14,15]))))
    rintro⟨A8,c9⟩
    exact ct.last rfl rfl (aE.mem (fY:=[.abs (bp (sJ (Z.put (act xs i).at_ A8 c9) (xs.take (i+1)))),.aD b2 [vI (af)] 3,.aD f [vI (N.1.X.cN),vI (N.1.X.cB),vI (N.1.X.cH),vI (N.1.X.cS),vI (N.1.X.cZ),.map (some m),vP t,vI (N.1.X.last),vI (N.1.X.aq),vI (N.1.X.used)] 173,.abs (bK Tryz.prog 3 m (dg (dM L N.1.ay)) N.1.ay.length),.abs (ia 233 t N.1.X.cH N.1.aL (dM L N.1.us)),.abs (bp (fQ N.1.O L)),.abs (bp (eX N.1.O L)),.abs (bp (ig N.1.O L)),.aD b1 [.slice A (ns.length) (c)] 24,.aD b3 [vI (X.cN),vI (X.cB),vI (X.cH),vI (X.cS),vI (X.cZ)] 28,.aD b4 [.slice Af (fs.length) (cf),.slice Aa (xs.length) (ca)] 32,.abs (bK Tryz.prog 3 m5 (kD Z (xs.take i)) an),.abs R,.aD b6 [vI ((act xs i).at_),vI ((act xs i).op),.string (act xs i).path,.string (act xs i).to,.string (act xs i).text] 133,.aD b7 [vI ((act xs i).at_),vI ((act xs i).op),.string (act xs i).path,.string (act xs i).to,.string (act xs i).text] 133]) (λw hS=>by rw [Du d5];exact hS.aea (i:=11) (j:=15) (ay:=[0,1,2,3,4,5,6,7,8,9,10,12,13,14]) rfl rfl d6 rfl) (aE.qF 11 (d:=none) (t:=131) (K:=3) (E:=30) (b:=m5) (n:=an) (f:=(kD Z (xs.take i))) (x:=(.tmp 50)) (ix:=(.tmp 52)) (y:=(.tmp 59)) (key:=vI ((act xs i).at_)) (u:=.slice A8 (((dh (xs.take i) (act xs i).at_).length+1)) (c9)) (kl:=(Lit.int IntKind.i64 (act xs i).at_)) (n':=(if (kD Z (xs.take i) (Lit.int IntKind.i64 (act xs i).at_)).isSome then an else an+1)) (f':=(kD (Z.put (act xs i).at_ A8 c9) (xs.take (i+1)))) (λ_=>d6) d6 (λ_=>d6) (λ_=>d6) (λ_=>d6) ja Tryz.underlying131 (by unfold maxLen;omega) (mo (gA.at d5).aw) (rfl) (by rw [Du d5];exact ZS) (NL (aF.np (BX (ax.region (jK 2 [46] [(0,wJ ((i:Int)+1) (↑(i+1)))] (NL (tJ ((i+1),(Z.put (act xs i).at_ A8 c9),(if (kD Z (xs.take i) (Lit.int IntKind.i64 (act xs i).at_)).isSome then an else an+1)) [1,2,3,4,5,6,7,8,9,10,11,0,12] (⟨d5,by split<;>omega⟩))))))))))
   refine XX (SR (aE.uf (l:=[.aD b2 [vI (af)] 3,.aD f [vI (N.1.X.cN),vI (N.1.X.cB),vI (N.1.X.cH),vI (N.1.X.cS),vI (N.1.X.cZ),.map (some m),vP t,vI (N.1.X.last),vI (N.1.X.aq),vI (N.1.X.used)] 173,.abs (bK Tryz.prog 3 m (dg (dM L N.1.ay)) N.1.ay.length),.abs (ia 233 t N.1.X.cH N.1.aL (dM L N.1.us)),.abs (bp (fQ N.1.O L)),.abs (bp (eX N.1.O L)),.abs (bp (ig N.1.O L)),.aD b1 [.slice A (ns.length) (c)] 24,.aD b3 [vI (X.cN),vI (X.cB),vI (X.cH),vI (X.cS),vI (X.cZ)] 28,.aD b4 [.slice Af (fs.length) (cf),.slice Aa (xs.length) (ca)] 32,.abs (bK Tryz.prog 3 m5 (kD Z (xs.take i)) an),.abs R]) [.abs (bp (sJ Z (xs.take i)))] [0,1,2,3,4,5,6,7,8,9,10,12,11] rfl d6 (λVf mz _ hL=>?_)))
   have hZ:abb β Vf Z xs:=by obtain⟨F,h,h2⟩:=hL.ae4 0 rfl;rw [show xs.take i=xs by rw [show i=xs.length by omega,ahW]] at h;exact⟨kW.of h (λk hk=>(h2 k hk).1) rfl,kW.of h (λk hk=>⟨(h2 k hk).1,λz=>(h2 k hk).2 (aH.O k z)⟩) rfl⟩
   replace hG:=hG.le mz
   replace hA:=hA.le mz
   replace hF:=hF.le mz
   replace aH:=aH.trans mz
   refine aE.cT 10 (p:=.abs (bK Tryz.prog 3 m5 (kD Z (xs.take i)) an)) (p':=.abs (bK Tryz.prog 3 m5 (kD Z xs) an)) d6 (by rw [show xs.take i=xs by rw [show i=xs.length by omega,ahW]]) (aE.sK (d:=(some 61)) (t:=134) (λ_=>d6) Tryz.prog rfl 3 (λm11=>jK 1 [16] [] (NZ (aE.cT 12 (p':=.abs (bK Tryz.prog 3 m11 (ic (fs.take 0)) 0)) rfl (zc (λf=>HP.abs (bK Tryz.prog 3 _ f 0)) WC.symm) (jK 4 [63,64,65] [(1,a_ 9 b4)] (NN (ax.block (lJ (ι:=Nat×Nat) (λ(j,kn)=>(j<=fs.length)/\(kn<=j)) (λ(j,kn)=>fs.length-j) (λ(j,kn)=>[(5,vP b2),(10,vP f),(13,.map (some m5)),(16,.map (some m11)),(63,.slice Af (fs.length) (cf)),(64,vI ↑fs.length),(65,vI ↑j)]) (λ(j,kn)=>[.aD b2 [vI (af)] 3,pF f m t N.1.X,pI m L N.1.ay,pT t N.1.X.cH N.1.aL L N.1.us,pO N.1.O L,pD N.1.O L,pE N.1.O L,.aD b1 [.slice A (ns.length) (c)] 24,.aD b3 [vI (X.cN),vI (X.cB),vI (X.cH),vI (X.cS),vI (X.cZ)] 28,.aD b4 [.slice Af (fs.length) (cf),.slice Aa (xs.length) (ca)] 32,.abs (bK Tryz.prog 3 m5 (kD Z xs) an),.abs (bK Tryz.prog 3 m11 (ic (fs.take j)) kn),.abs R]) (0,0) [0,1,2,3,4,5,6,7,8,9,10,12,11] (⟨L4 _,N6 _⟩) ?_))))))))
   rintro⟨j,kn⟩ ⟨hj,hkn⟩
   refine SR (jK 1 [66] [] (NN (ax.seq (cP ((((j:Nat):Int):Int)<(((fs.length:Nat):Int):Int)) (λqv=>KX (ax.seq (ax.block (SR (jN 4 [18] (λb12=>[(0,x_ j fs.length (abE hF (i:=j) d5)),(1,r2 (Na hF (i:=j) d5 (j:=0) rfl) (Na hF (i:=j) d5 (j:=1) rfl)),(3,A_ 13 b12 2)]) (λ_=>[]) (λb12=>.aD b12 [vI ((pG fs j).at_),vI ((pG fs j).kind)] 136) (λb12=>NS (jK 4 [72] [(1,a_ 13 b12)] (sP 72 (((pG fs j).kind:Int)>=(1:Int)) (λh72=>jK 5 [77] [(1,a_ 13 b12)] (sP 77 (((pG fs j).kind:Int)<=(3:Int)) (λh77=>jK 3 [78,80] [(2,a_ 13 b12)] (aE.ji 11 (d:=(some 81)) (t:=134) (K:=3) (E:=3) (b:=m11) (n:=kn) (f:=(ic (fs.take j))) (x:=(.tmp 78)) (ix:=(.tmp 80)) (key:=vI ((pG fs j).at_)) (z:=.int .i64 0) (kl:=(Lit.int IntKind.i64 (pG fs j).at_)) (r:=(ic (fs.take j) (Lit.int IntKind.i64 (pG fs j).at_))) (λ_=>d6) d6 (λ_=>d6) (λ_=>d6) ja Tryz.underlying134 (λ_=>d6) (mo (oM.at d5)) (rfl) (sl 81 (((ic (fs.take j) (Lit.int IntKind.i64 (pG fs j).at_)).getD (.int .i64 0))) (.int .i64 ((iT (fs.take j) (pG fs j).at_))) (L5) (jK 2 [83] [] (NN (cP (((iT (fs.take j) (pG fs j).at_):Int)=(0:Int)) (λh83=>ax.region (jK 5 [84,86,88] [(2,a_ 13 b12),(4,a_ 13 b12)] (aE.qF 11 (d:=none) (t:=134) (K:=3) (E:=3) (b:=m11) (n:=kn) (f:=(ic (fs.take j))) (x:=(.tmp 84)) (ix:=(.tmp 86)) (y:=(.tmp 88)) (key:=vI ((pG fs j).at_)) (u:=.int .i64 ((pG fs j).kind)) (kl:=(Lit.int IntKind.i64 (pG fs j).at_)) (n':=(if (ic (fs.take j) (Lit.int IntKind.i64 (pG fs j).at_)).isSome then kn else kn+1)) (f':=(ic (fs.take (j+1)))) (λ_=>d6) d6 (λ_=>d6) (λ_=>d6) (λ_=>d6) ja Tryz.underlying134 (by unfold maxLen;omega) (mo (oM.at d5)) (rfl) (by rw [wO d5];exact WD ⟨d5,d5⟩ d5) (LX (ax.region (jK 2 [65] [(0,wJ ((j:Int)+1) (↑(j+1)))] (NL (tJ ((j+1),(if (ic (fs.take j) (Lit.int IntKind.i64 (pG fs j).at_)).isSome then kn else kn+1)) [0,1,2,3,4,5,6,7,8,9,10,11,12] (⟨d5,by split<;>omega⟩))))))))) (λh83=>KX (ax.region (aE.cT 11 (p:=.abs (bK Tryz.prog 3 m11 (ic (fs.take j)) kn)) (p':=.abs (bK Tryz.prog 3 m11 (ic (fs.take (j+1))) kn)) d6 (by rw [wO d5,Dt];unfold FK;omega) (jK 2 [65] [(0,wJ ((j:Int)+1) (↑(j+1)))] (NL (tJ ((j+1),kn) [0,1,2,3,4,5,6,7,8,9,10,11,12] (⟨d5,d5⟩))))))))))))) (λh77=>jK 4 [81] [] (jK 2 [83] [] (NF (KX (ax.region (aE.cT 11 (p:=.abs (bK Tryz.prog 3 m11 (ic (fs.take j)) kn)) (p':=.abs (bK Tryz.prog 3 m11 (ic (fs.take (j+1))) kn)) d6 (by rw [wO d5,Dt];unfold FK;omega) (jK 2 [65] [(0,wJ ((j:Int)+1) (↑(j+1)))] (NL (tJ ((j+1),kn) [0,1,2,3,4,5,6,7,8,9,10,11,12] (⟨d5,d5⟩)))))))))))) (λh72=>jK 9 [77,81] [] (jK 2 [83] [] (NF (KX (ax.region (aE.cT 11 (p:=.abs (bK Tryz.prog 3 m11 (ic (fs.take j)) kn)) (p':=.abs (bK Tryz.prog 3 m11 (ic (fs.take (j+1))) kn)) d6 (by rw [wO d5,Dt];unfold FK;omega) (jK 2 [65] [(0,wJ ((j:Int)+1) (↑(j+1)))] (NL (tJ ((j+1),kn) [0,1,2,3,4,5,6,7,8,9,10,11,12] (⟨d5,d5⟩)))))))))))))))))) (λqv=>?_)))))
   exact XX (SR (aE.cT 11 (p:=.abs (bK Tryz.prog 3 m11 (ic (fs.take j)) kn)) (p':=.abs (bK Tryz.prog 3 m11 (ic fs) kn)) d6 (by rw [show fs.take j=fs by rw [show j=fs.length by omega,ahW]]) (jN 5 [19] (λb13=>[(1,a_ 0 b2)]) (λ_=>[]) (λb13=>.aD b13 [.nilIface,vP f,.nilIface,vI (af),.slice none (0) (0)] 60) (λb13=>NS (jN 11 [94,104] (λb14=>[(8,a_ 0 b2)]) (λ_=>[]) (λb14=>.aD b14 [.iface 56 (vP f),.map (some m11),vI 0] 140) (λb14=>jN 5 [] (λb15=>[(4,a_ 13 b13)]) (λb15=>[(13,[(2,.iface 137 (vP b15))])]) (λb15=>.aD b15 [.iface 138 (vP b14),vP f,vI (af),.map (some m5),vI 0] 142) (λb15=>NS (jK 3 [109,111] [] (gE [] (ae3 b13) (jC 3 [] [(2,a_ 13 b13)] [(13,[(0,.iface 37 (vP b13))])] (NS (jK 3 [8,9] [] (NN (ax.ret (aF.mem (fY:=[.aD b2 [vI (af)] 3,pF f m t N.1.X,pI m L N.1.ay,pT t N.1.X.cH N.1.aL L N.1.us,pO N.1.O L,pD N.1.O L,pE N.1.O L,.aD b1 [.slice A (ns.length) (c)] 24,.aD b3 [vI (X.cN),vI (X.cB),vI (X.cH),vI (X.cS),vI (X.cZ)] 28,.aD b4 [.slice Af (fs.length) (cf),.slice Aa (xs.length) (ca)] 32,.abs (bK Tryz.prog 3 m5 (kD Z xs) an),.abs (bK Tryz.prog 3 m11 (ic fs) kn),.abs R,.aD b13 [.iface 37 (vP b13),vP f,.iface 137 (vP b15),vI (af),.slice none (0) (0)] 60,.aD b14 [.iface 56 (vP f),.map (some m11),vI 0] 140,.aD b15 [.iface 138 (vP b14),vP f,vI (af),.map (some m5),vI 0] 142,.abs (aK 63 13 none 0 0 ([]))]) (λw hS=>hS.nW (e:=63) (size:=13)) (rB (.tuple #[vP b13,vI 0]) [] [13,15,14,10,11,16,1,2,3,4,5,6,12] aH (.inr ⟨DM lN.1 lN.2 hr zY,N,L,b13,b15,b14,f,m,t,m5,an,m11,kn,Z,rfl,rfl,hZ⟩)))))))))))))))))
  exact ax.region (jK 3 [30,31] [(1,a_ 7 b1)] (gE [8] (aa9 (β:=β) jx A c hG hB b2) (jK 1 [12] [] (NZ (jK 2 [34] [] (NT (SR (jK 2 [8,9] [] (eO (v:=(.tuple #[.pointer none,vI 141])) [] aH (.inl ⟨by rw [xA lN.1 lN.2 jx];decide,by rw [xA lN.1 lN.2 jx],rfl⟩) [7])))))))))
 exact ax.region (jK 2 [21,22] [(0,a_ 1 b1),(1,A_ 3 b3 5)] (gE [] (aa8 (β:=β) (af:=af) lN A c hG hB) (jK 5 [10,11] [] (NZ (jK 2 [27] [] (NN (cN (((fL X ns af):Int)=(0:Int)) (λyB=>SR (jK 3 [8,9] [] (eO (v:=(.tuple #[.pointer none,vI ((fL X ns af))])) [] aH (.inl ⟨DP lN,rfl,rfl⟩)))) (λyB=>KB yB (DP lN)))))))))
end
section
open Go.RowKit Go.Maps bw aI
attribute [local irreducible] aE bH ax aF
noncomputable abbrev zF1 (w)(f:Nat) (o) (af) (tA) (tr:List aN) (tC):=(.aD w [.iface 37 (vP w),vP f,.iface 137 (vP o),vI (af),.slice tA (tr.length) (tC)] 60:HP)
noncomputable abbrev zF2 (o)(q:Nat) (f:Nat) (af) (am) (tr:List aN):=(.aD o [.iface 138 (vP q),vP f,vI (af),.map (some am),vI (((tr.length:Nat):Int))] 142:HP)
noncomputable abbrev zF3 (q:Nat) (f:Nat) (km) (tr:List aN):=(.aD q [.iface 56 (vP f),.map (some km),vI (((tr.length:Nat):Int))] 140:HP)
noncomputable abbrev zF4 (am)(Z)(xs)(an):=(.abs (bK Tryz.prog 3 am (kD Z xs) an):HP)
noncomputable abbrev zF5 (km)(fs)(kn):=(.abs (bK Tryz.prog 3 km (ic fs) kn):HP)
noncomputable abbrev zF6 (tA)(tr:List aN) (tC):=(.abs (aK 63 13 tA tr.length tC (dL bA tr)):HP)
noncomputable abbrev zF7 (t)(S:bg) (L:HL):=(pT t S.X.cH S.aL L S.us:HP)
noncomputable abbrev MJ (w)(f:Nat) (o) (af) (tA) (tr) (tC) (q:Nat) (am) (km) (Z) (xs) (an) (fs) (kn) (m:Nat) (t) (S:bg) (L:HL):=([zF1 w f o af tA tr tC,zF2 o q f af am tr,zF3 q f km tr,zF4 am Z xs an,zF5 km fs kn,zF6 tA tr tC,pF f m t S.X,pI m L S.ay,zF7 t S L,pO S.O L,pD S.O L,pE S.O L]:List HP)
theorem Vg {β:Bs} (S:bg) (L:HL) (w o q f m t am an km kn:Nat) (Z:AZ) (fs:List cF) (xs:List cM) (af:Int) (tr:List aN) (tA:Option Addr) (tC:Nat)  :
 aW Tryz.prog β 16 #[vP w] (MJ w f o af tA tr tC q am km Z xs an fs kn m t S L) (λv l=>v=vI (tr.length:Int)/\l=(MJ w f o af tA tr tC q am km Z xs an fs kn m t S L)):=by
 exact SE Tryz.func16 Tryz.ntmps16 (λR=>SR (jK 1 [] [] (NS (jK 6 [2] [(3,a_ 0 w)] (eN (v:=(vI ↑tr.length)) ⟨rfl,rfl⟩)))))
theorem Yk {β:Bs} (S:bg) (L:HL) (w o q f m t am an km kn:Nat) (Z:AZ) (fs:List cF) (xs:List cM) (af:Int) (tr:List aN) (tA:Option Addr) (tC:Nat)  :
 aW Tryz.prog β 17 #[vP w] (MJ w f o af tA tr tC q am km Z xs an fs kn m t S L) (λv l=>v=vI (S.us.length:Int)/\l=(MJ w f o af tA tr tC q am km Z xs an fs kn m t S L)):=by
 refine SE Tryz.func17 Tryz.ntmps17 (λR=>SR (jK 1 [] [] (NS (jK 4 [6] [(3,a_ 0 w)] (gL [6,8] (X8 S L f m t) ?_)))))
 rintro _ _ ⟨Ah,ch,rfl,rfl⟩
 exact jK 2 [2] [] (eN (v:=(vI ↑S.us.length)) ⟨rfl,rfl⟩ [3,4,5,6,7,8,0,9,1,10,11,12,13])
theorem Yl {β:Bs} (S:bg) (L:HL) (w o q f m t am an km kn:Nat) (Z:AZ) (fs:List cF) (xs:List cM) (af:Int) (tr:List aN) (tA:Option Addr) (tC:Nat)  :
 aW Tryz.prog β 20 #[vP w] (MJ w f o af tA tr tC q am km Z xs an fs kn m t S L) (λv l=>v=vI S.aL/\l=(MJ w f o af tA tr tC q am km Z xs an fs kn m t S L)):=by
 exact SE Tryz.func20 Tryz.ntmps20 (λR=>SR (jK 1 [] [] (NS (jK 4 [6] [(3,a_ 0 w)] (gE [6,8] (aaW S L f m t) (jK 1 [2] [] (eN (v:=(vI (S.aL))) ⟨rfl,rfl⟩ [2,3,4,5,6,7,0,8,1,9,10,11,12])))))))
theorem Vh {β:Bs} (S:bg) (L:HL) (w o q f m t am an km kn:Nat) (Z:AZ) (fs:List cF) (xs:List cM) (af:Int) (tr:List aN) (tA:Option Addr) (tC:Nat) (hI:bC S) :
 aW Tryz.prog β 19 #[vP w] (MJ w f o af tA tr tC q am km Z xs an fs kn m t S L) (λv l=>∃A cp K,v=.agg #[.slice A (aV S).length cp]/\l=(MJ w f o af tA tr tC q am km Z xs an fs kn m t S L)++[.abs (aK 102 10 A (aV S).length cp (bP K (aV S))),.abs (kY (qP (aV S) K) (aV S).length),.abs (kY (mG (aV S) K) (aV S).length)]):=by
 refine SE Tryz.func19 Tryz.ntmps19 (λR=>SR (jB 1 [2] (λb1=>.aD b1 [.slice none (0) (0)] 24) (λb1=>NS (jK 4 [6] [(3,a_ 0 w)] (gL [6,7,9,10,11] (X6 S L f m t hI) ?_)))))
 rintro _ _ ⟨Ao,cp,K,rfl,rfl⟩
 exact jC 1 [] [(0,a_ 16 b1)] [(16,[(0,.slice Ao ((aV S).length) (cp))])] (eS (v:=(.agg #[.slice Ao ((aV S).length) (cp)])) [a_ 16 b1] ⟨Ao,cp,K,rfl,rfl⟩ [8,9,10,11,12,13,0,1,14,2,3,4,5,6,7,15])
theorem yu {β:Bs} (Af:Option Addr) (cf:Nat) (fs:List cF) (hF:cE β Af (dL jr fs)) (hfl:fs.length<=2097152) (Aa:Option Addr) (ca:Nat) (xs:List cM) (hA:cE β Aa (dL kg xs)) (hxl:xs.length<=2097152) :
 aW Tryz.prog β 28 #[.agg #[.slice Af (fs.length) (cf),.slice Aa (xs.length) (ca)]] [] (λv l=>∃B b C c,v=.agg #[.slice B fs.length b,.slice C xs.length c]/\l=[.abs (aK 136 2 B fs.length b (dL jr fs)),.abs (aK 133 5 C xs.length c (dL kg xs))]):=by
 exact SE Tryz.func28 Tryz.ntmps28 (λR=>SR (jB 1 [1] (λb2=>.aD b2 [.slice Af (fs.length) (cf),.slice Aa (xs.length) (ca)] 32) (λb2=>jB 1 [2] (λb3=>.aD b3 [.slice none (0) (0),.slice none (0) (0)] 32) (λb3=>NS (jB 2 [3] (λb4=>.aD b4 [] 136) (λb4=>NS (aE.mem (λw hS=>hS.oo (i:=3) (b:=b4) (cs:=[]) (e:=136) 2 0 d6 rfl d8) (jK 3 [6,8] [(2,a_ 1 b2)] (mM 3 29 Af fs.length cf (dL jr fs) rfl (hF.src) (λA5 c6=>aE.cT 3 (p:=.abs (aK 136 2 A5 (0+fs.length) c6 ([]++(dL jr fs)))) (p':=.abs (aK 136 2 A5 fs.length c6 (dL jr fs))) d6 (by rw [ahS,List.nil_append]) (sl 9 (.slice A5 (0+fs.length) (c6)) (.slice A5 (fs.length) (c6)) (by rw [ahS]) (jK 1 [3] [] (NS (jB 2 [4] (λb7=>.aD b7 [] 133) (λb7=>NS (aE.mem (λw hS=>hS.oo (i:=4) (b:=b7) (cs:=[]) (e:=133) 5 0 d6 rfl d8) (jK 3 [11,13] [(2,a_ 1 b2)] (mM 4 30 Aa xs.length ca (dL kg xs) rfl (hA.src) (λA8 c9=>aE.cT 4 (p:=.abs (aK 133 5 A8 (0+xs.length) c9 ([]++(dL kg xs)))) (p':=.abs (aK 133 5 A8 xs.length c9 (dL kg xs))) d6 (by rw [ahS,List.nil_append]) (sl 14 (.slice A8 (0+xs.length) (c9)) (.slice A8 (xs.length) (c9)) (by rw [ahS]) (jK 1 [4] [] (NS (jC 4 [] [(3,A_ 2 b3 2)] [(2,[(0,.slice A5 (fs.length) (c6)),(1,.slice A8 (xs.length) (c9))])] (eS (v:=(.agg #[.slice A5 (fs.length) (c6),.slice A8 (xs.length) (c9)])) [A_ 2 b3 2] ⟨A5,c6,A8,c9,rfl,rfl⟩ [3,4,0])))))) (hl:=LZ (f:=kg) (s:=5) (λ_=>rfl) _) (h1:=AX (ZQ) _ _)))))))))) (hl:=LZ (f:=jr) (s:=2) (λ_=>rfl) _) (h1:=AX (Uk) _ _))))))))))
theorem ae5 {β:Bs} (A:Option Addr) (c:Nat) {α:Type} (xs:List α) (hc:xs.length<=c) :
 aW Tryz.prog β 10 #[.slice A xs.length c] [] (λv l=>∃n,n<=xs.length/\n<=60/\v=.slice A n c/\l=[]):=by
 exact SE Tryz.func10 Tryz.ntmps10 (λR=>SR (jK 1 [] [] (NZ (jK 3 [5] [] (NN (cP ((((xs.length:Nat):Int):Int)>(60:Int)) (λh5=>SR (jK 3 [2] [(1,p_ ⟨[],some 60,none,none,none⟩ [60=((60:Nat):Int),60<=c] ⟨rfl,d5,trivial⟩)] (eN (v:=(.slice A (60) (c))) ⟨60,d5,d8,rfl,rfl⟩))) (λh5=>KX (zR (v:=(.slice A (xs.length) (c))) ⟨xs.length,N6 _,d5,rfl,rfl⟩))))))))
end
section
open Go.RowKit Go.Maps bw aI
attribute [local irreducible] aE bH ax aF ct
theorem Tb {β:Bs} {X:FM} {ns:List aP} {Y:fk} {fs:List cF} {xs:List cM} {Af Aa:Option Addr} (A:Option Addr) (c:Nat) (hG:aO β A ns Y) (hB:kq ns 1048576) (af:Int) (cf:Nat) (hF:cE β Af (dL jr fs)) (oM:lI fs 2097152) (ca:Nat) (hA:cE β Aa (dL kg xs)) (gA:gy xs 1048576) :
 bN Tryz.prog β 7 #[.agg #[.slice A (ns.length) (c)],vI (af),.agg #[vI (X.cN),vI (X.cB),vI (X.cH),vI (X.cS),vI (X.cZ)],.agg #[.slice Af (fs.length) (cf),.slice Aa (xs.length) (ca)]] [] (λβ' v l=>(fL X ns af≠0/\v=.tuple #[.agg ⟨uZ⟩,vI (fL X ns af)]/\l=[])\/(fL X ns af=0/\∃B cp K U,v=.tuple #[.agg #[.slice B (ns.length) (cp),.slice none (0) (0),vI (X.cH),vI 0,.slice none (0) (0),.slice none (0) (0),vI (X.cN),vI (X.cB),vI (X.cH),vI (X.cS),vI (X.cZ),vI ((if ns.length=0 then 0 else (nd ns (ns.length-1)).id)),vI (af),.slice U.A (fs.length) (U.a),.slice U.B (xs.length) (U.b),vI 0],vI 0]/\l=[]/\aO β' B ns K/\CS β' U fs xs)):=by
 have hnl:=vA hB
 refine mK Tryz.func7 Tryz.ntmps7 (λaH R=>SR (jB 1 [4] (λb1=>.aD b1 [.slice A (ns.length) (c)] 24) (λb1=>jB 1 [6] (λb2=>.aD b2 [vI (X.cN),vI (X.cB),vI (X.cH),vI (X.cS),vI (X.cZ)] 28) (λb2=>jB 1 [7] (λb3=>.aD b3 [.slice Af (fs.length) (cf),.slice Aa (xs.length) (ca)] 32) (λb3=>jB 2 [8] (λb4=>.aD b4 (uZ) 47) (λb4=>NN (ax.seq ?_)))))))
 by_cases lN:kU X/\cD ns
 ·refine ax.region (jK 2 [14,15] [(0,a_ 1 b1),(1,A_ 2 b2 5)] (iK [] (aaX lN.1 lN.2 A c hG hB) ?_))
  rintro E7 _ _ iP ⟨B,cp,K,rfl,rfl,hK⟩
  replace hG:=hG.le iP
  replace hF:=hF.le iP
  replace hA:=hA.le iP
  replace aH:=aH.trans iP
  refine jN 6 [10,11] (λb6=>[(4,A_ 5 b6 12)]) (λ_=>[]) (λb6=>.aD b6 [.slice B (ns.length) (cp),.slice none (0) (0),vI (X.cH),vI 0,.slice none (0) (0),.slice none (0) (0),vI (X.cN),vI (X.cB),vI (X.cH),vI (X.cS),vI (X.cZ),vI ((if ns.length=0 then 0 else (nd ns (ns.length-1)).id))] 45) (λb6=>NZ (jK 2 [20] [] (NF (KX (ax.seq ?_)))))
  rcases Qn ns af with ⟨r,hr⟩|jx
  ·have hr1:r<ns.length:=hr.1
   refine ax.region (jK 2 [23,24] [(0,a_ 1 b1)] (gE [] (yO A c ns Y hG lN.2.fP (vA hB) af) (jK 1 [12] [] (NZ (sl 12 (vI ((gF ns af))) (.int .i64 ↑r) (zc (Value.int .i64) (Hq lN.2.fP hr.1 hr.2.1)) (jK 2 [27] [(1,wF (((r:Int):Int)<(0:Int)))] (NF (KX (SQ (jK 7 [35] [(1,a_ 1 b1),(3,x_ r ns.length (aO.hd hG (i:=r) d5)),(5,r_ (aO.rd hG (i:=r) d5 (j:=1) rfl))] (NN (cN (((nd ns r).kind:Int)=(2:Int)) (λyJ=>SR (jC 3 [9] [(1,A_ 4 b4 16)] [] (eO (v:=(.tuple #[.agg ⟨uZ⟩,vI 173])) [A_ 4 b4 16] aH (.inl ⟨by rw [yZ lN.1 lN.2 hr d5];decide,by rw [yZ lN.1 lN.2 hr d5],rfl⟩)))) (λyJ=>KX (ax.seq (rM (List.range 7) 3 [5,3] (jR 3 [8,37,38,39] [(0,A_ 0 b6 12),(2,A_ 1 b3 2)] (mL [7,5] [] (yu Af cf fs hF (by have:=oM.len;omega) Aa ca xs hA (by have:=gA.len;omega)) ?_ (by rintro _ _ ⟨Bf,bf,Bx,bx,rfl,rfl⟩;rfl))))))))))))))))))
   rintro _ _ ⟨Bf,bf,Bx,bx,rfl,rfl⟩
   refine nC [7,5] [41] [] [] (nC [7,5] [] [(0,A_ 6 b4 16)] [(6,[(0,.slice B (ns.length) (cp)),(2,vI (X.cH)),(6,vI (X.cN)),(7,vI (X.cB)),(8,vI (X.cH)),(9,vI (X.cS)),(10,vI (X.cZ)),(11,vI ((if ns.length=0 then 0 else (nd ns (ns.length-1)).id))),(12,vI (af)),(13,.slice Bf (fs.length) (bf)),(14,.slice Bx (xs.length) (bx))])] (ct.last rfl rfl (jK 1 [9] [] (NL (aF.np (NX (ax.ret (aF.eM [0,1] [.abs (aK 136 2 Bf fs.length bf (dL jr fs)),.abs (aK 133 5 Bx xs.length bx (dL kg xs))] (λAy d9 hL=>?_)))))))))
   have hU:CS _ ⟨Bf,bf,Bx,bx⟩ fs xs:=⟨hL.rowAt 0 rfl,hL.rowAt 1 rfl⟩
   replace hK:=hK.le d9
   replace aH:=aH.trans d9
   exact rB (.tuple #[.agg #[.slice B (ns.length) (cp),.slice none (0) (0),vI (X.cH),vI 0,.slice none (0) (0),.slice none (0) (0),vI (X.cN),vI (X.cB),vI (X.cH),vI (X.cS),vI (X.cZ),vI ((if ns.length=0 then 0 else (nd ns (ns.length-1)).id)),vI (af),.slice Bf (fs.length) (bf),.slice Bx (xs.length) (bx),vI 0],vI 0]) [A_ 4 b4 16] [0] aH (.inr ⟨DM lN.1 lN.2 hr d5,B,cp,K,⟨Bf,bf,Bx,bx⟩,rfl,rfl,hK,hU⟩)
  exact ax.region (jK 2 [23,24] [(0,a_ 1 b1)] (gE [] (yO A c ns Y hG lN.2.fP (vA hB) af) (jK 1 [12] [] (NZ (sl 12 (vI ((gF ns af))) (.int .i64 (-1)) (zc (Value.int .i64) (C9 jx)) (jK 2 [27] [] (NT (SR (jC 3 [9] [(1,A_ 4 b4 16)] [] (eO (v:=(.tuple #[.agg ⟨uZ⟩,vI 141])) [A_ 4 b4 16] aH (.inl ⟨by rw [xA lN.1 lN.2 jx];decide,by rw [xA lN.1 lN.2 jx],rfl⟩)))))))))))
 refine ax.region (jK 2 [14,15] [(0,a_ 1 b1),(1,A_ 2 b2 5)] (iK [] (aaY lN A c hG hB) ?_))
 rintro D5 _ _ jD ⟨rfl,rfl⟩
 replace aH:=aH.trans jD
 exact jN 6 [10,11] (λb9=>[(4,A_ 5 b9 12)]) (λ_=>[]) (λb9=>.aD b9 (rZ) 45) (λb9=>NZ (jK 2 [20] [] (NN (cN (((Fk X):Int)=(0:Int)) (λlX=>SR (jC 4 [9] [(2,A_ 4 b4 16)] [] (eO (v:=(.tuple #[.agg ⟨uZ⟩,vI ((Fk X))])) [A_ 4 b4 16] aH (.inl ⟨DP lN,by rw [Ro lN],rfl⟩)))) (λlX=>KB lX (adk X))))))
noncomputable abbrev zA1 (b4:Nat):=(.aD b4 [vI 0,vI 0,vI 0,.string ⟨#[]⟩,.string ⟨#[]⟩,.slice none (0) (0),vI 0,vI 0,vI 0,vI 0,vI 0,vI 0,vI 0] 63:HP)
noncomputable abbrev zA2:=([(2,vI 0),(6,vI 0),(7,vI 0),(8,vI 0),(9,vI 0),(10,vI 0),(11,vI 0),(12,vI 0)]:Fr)
noncomputable abbrev zA3 (c:aN):=([(3,.string c.name),(4,.string c.text),(5,.slice c.dA (c.data.length) (c.dC))]:Fr)
noncomputable abbrev zA4 (km)(fs)(kn)(f:Nat) (m:Nat) (t) (S:bg) (L:HL):=([.abs (bK Tryz.prog 3 km (ic fs) kn),pF f m t S.X,pI m L S.ay,pT t S.X.cH S.aL L S.us,pO S.O L,pD S.O L,pE S.O L]:List HP)
theorem Fq {β:Bs} (c:aN) (e:Int) :
 aW Tryz.prog β 260 #[.agg ⟨bA c⟩,vI (e)] [] (λv l=>v=.agg ⟨bA (iz c e)⟩/\l=[]):=by
 exact SE Tryz.func260 Tryz.ntmps260 (λR=>SR (jB 1 [2] (λb1=>.aD b1 (bA c) 63) (λb1=>jB 1 [4] (λb2=>.aD b2 [vI 0,vI 0,vI 0,.string ⟨#[]⟩,.string ⟨#[]⟩,.slice none (0) (0),vI 0,vI 0,vI 0,vI 0,vI 0,vI 0,vI 0] 63) (λb2=>NZ (jK 4 [8] [(1,a_ 1 b1)] (sP 8 ((c.op:Int)=(11:Int)) (λh8=>jK 4 [12] [] (NT (ax.region (jC 12 [] [(1,a_ 1 b1),(3,a_ 1 b1),(5,a_ 1 b1),(7,a_ 1 b1),(9,a_ 1 b1),(11,A_ 1 b1 13)] [(1,(zA2))] (NS (jC 5 [] [(2,a_ 1 b1),(4,a_ 1 b1)] [(1,[(11,vI (e))])] (NS (jC 2 [] [(0,A_ 1 b1 13),(1,A_ 2 b2 13)] [(2,([(0,vI (c.op)),(1,vI (c.bD))]++zA3 c++[(11,vI (e))]))] (eS (v:=(.agg ⟨bA {c with other:=0,mode:=0,cO:=0,cQ:=0,bJ:=0,bh:=0,code:=e,answer:=0}⟩)) [A_ 2 b2 13] ⟨zc (λx=>Value.agg ⟨bA x⟩) (aie (t8 d5:iz c e=_)),rfl⟩))))))))) (λh8=>jK 4 [12] [(1,a_ 1 b1)] (NN (cP ((c.op:Int)=(12:Int)) (λh12=>ax.region (jC 12 [] [(1,a_ 1 b1),(3,a_ 1 b1),(5,a_ 1 b1),(7,a_ 1 b1),(9,a_ 1 b1),(11,A_ 1 b1 13)] [(1,(zA2))] (NS (jC 5 [] [(2,a_ 1 b1),(4,a_ 1 b1)] [(1,[(11,vI (e))])] (NS (jC 2 [] [(0,A_ 1 b1 13),(1,A_ 2 b2 13)] [(2,([(0,vI (c.op)),(1,vI (c.bD))]++zA3 c++[(11,vI (e))]))] (eS (v:=(.agg ⟨bA {c with other:=0,mode:=0,cO:=0,cQ:=0,bJ:=0,bh:=0,code:=e,answer:=0}⟩)) [A_ 2 b2 13] ⟨zc (λx=>Value.agg ⟨bA x⟩) (aie (t8 d5:iz c e=_)),rfl⟩))))))) (λh12=>KX (SR (jC 5 [] [(2,a_ 1 b1),(4,a_ 1 b1)] [(1,[(11,vI (e)),(12,vI 0)])] (NS (jC 2 [] [(0,A_ 1 b1 13),(1,A_ 2 b2 13)] [(2,([(0,vI (c.op)),(1,vI (c.bD)),(2,vI (c.other))]++zA3 c++[(6,vI (c.mode)),(7,vI (c.cO)),(8,vI (c.cQ)),(9,vI (c.bJ)),(10,vI (c.bh)),(11,vI (e))]))] (eS (v:=(.agg ⟨bA {c with code:=e,answer:=0}⟩)) [A_ 2 b2 13] ⟨zc (λx=>Value.agg ⟨bA x⟩) (aie (nw d5:iz c e=_)),rfl⟩)))))))))))))))
theorem ae6 {β:Bs} (S:bg) (L:HL) (q f m t km kn n:Nat) (fs:List cF) (hI:bC S) (hn:n<=8388608) (k:Int) (hk:iT fs ((n+1:Nat):Int)=k) (c:aN) (hC:qN β c) :
 aW Tryz.prog β 259 #[vP q,.agg ⟨bA c⟩] ([.aD q [.iface 56 (vP f),.map (some km),vI (((n:Nat):Int))] 140]++zA4 km fs kn f m t S L) (λv l=>∃L2,v=.agg ⟨bA (dZ k S c).2⟩/\l=[.aD q [.iface 56 (vP f),.map (some km),vI ((((n+1):Nat):Int))] 140,.abs (bK Tryz.prog 3 km (ic fs) kn),pF f m t ((dZ k S c).1.X),pI m L2 (dZ k S c).1.ay,pT t (dZ k S c).1.X.cH ((dZ k S c).1.aL) L2 ((dZ k S c).1.us),pO ((dZ k S c).1.O) L2,pD ((dZ k S c).1.O) L2,pE ((dZ k S c).1.O) L2]):=by
 have hdl:=hC.dl
 have hdc:=hC.dc
 refine SE Tryz.func259 Tryz.ntmps259 (λR=>SR (jB 1 [3] (λb3=>.aD b3 (bA c) 63) (λb3=>jB 1 [4] (λb4=>.aD b4 [vI 0,vI 0,vI 0,.string ⟨#[]⟩,.string ⟨#[]⟩,.slice none (0) (0),vI 0,vI 0,vI 0,vI 0,vI 0,vI 0,vI 0] 63) (λb4=>NS (jC 8 [] [(3,a_ 0 q),(4,wJ ((n:Int)+1) (↑(n+1))),(7,a_ 0 q)] [(0,[(2,vI ↑(n+1))])] (NN (ax.join (ι:=Unit) (λ(u:Unit)=>(¬k=1)/\(¬(k=2/\(c.op=4\/c.op=5\/c.op=6\/c.op=7\/c.op=9)))/\(¬(k=3/\c.op=9/\2<=c.data.length))) (λ(u:Unit)=>[(0,vP q),(3,vP b3),(4,vP b4)]) (λ(u:Unit)=>([.aD q [.iface 56 (vP f),.map (some km),vI ↑(n+1)] 140]++zA4 km fs kn f m t S L++[.abs R,pC b3 c,zA1 b4])) ?_ ?_)))))))
 ·rintro u ⟨uF,hj2,hj3⟩
  refine ax.seq (rM (List.range 7) 5 [0,9] (jR 5 [4,78,79] [(3,a_ 0 q),(4,A_ 1 b3 13)] (mL [6,9] [2,3,4,5,6,7] (Qd S L f m t hI c hC) ?_ (by rintro _ _ ⟨L2,rfl,rfl⟩;rfl))))
  rintro _ _ ⟨L2,rfl,rfl⟩
  exact ct.last rfl rfl (jC 1 [] [(0,A_ 10 b4 13)] [(10,(zC (bA ((fC S c).2))))] (NL (aF.np (NX (ax.ret (rT (.agg ⟨bA ((fC S c).2)⟩) [A_ 10 b4 13] [6,7,0,1,2,3,4,5,8] (⟨L2,by rw [show dZ k S c=((fC S c).1,(fC S c).2) by unfold dZ;rw [nw uF,nw hj2,nw hj3]]<;>exact⟨rfl,rfl⟩⟩)))))))
 refine ax.seq (rQ (jQ 8 [16,20] [(3,a_ 0 q),(7,a_ 0 q)] (bH.ji 1 (d:=(some 21)) (t:=134) (K:=3) (E:=3) (b:=km) (n:=kn) (f:=(ic fs)) (x:=(.tmp 16)) (ix:=(.tmp 20)) (key:=vI ↑(n+1)) (z:=.int .i64 0) (kl:=(.int .i64 ((n+1:Nat):Int))) (r:=(ic fs (.int .i64 ((n+1:Nat):Int)))) (λ_=>d6) d6 (λ_=>d6) (λ_=>d6) ja Tryz.underlying134 (λ_=>d6) (mo (WE d5)) (rfl) (NQ (NX (ax.block (SR (sl 21 (((ic fs (.int .i64 ((n+1:Nat):Int))).getD (.int .i64 0))) (.int .i64 (k)) (L5.trans (zc (Value.int .i64) hk)) (jK 2 [22] [] (NN (cP ((k:Int)=(1:Int)) (λtj=>SQ (jK 3 [26] [(1,a_ 9 b3)] (NN (cP ((c.op:Int)=(13:Int)) (λvY=>rM (List.range 6) 5 [0,9] (jR 5 [3,4,30,31] [(3,a_ 0 q),(4,A_ 1 b3 13)] (ct.last rfl rfl (gX [2,3,4,5,6,7] (Qd S L f m t hI c hC) (λL2=>NL (aF.np (NX (SR (jK 1 [33] [(0,A_ 9 b3 13)] (gE [] (Fq c 180) (jC 1 [] [(0,A_ 10 b4 13)] [(10,(zC (bA (iz c 180))))] (eS (v:=(.agg ⟨bA (iz c 180)⟩)) [A_ 10 b4 13] ⟨L2,by rw [show dZ k S c=((fC S c).1,iz c 180) by unfold dZ;rw [t8 tj,t8 vY]]<;>exact⟨rfl,rfl⟩⟩ [6,7,0,1,2,3,4,5,8])))))))))))) (λvY=>KX (SR (jK 1 [33] [(0,A_ 9 b3 13)] (gE [] (Fq c 180) (jC 1 [] [(0,A_ 10 b4 13)] [(10,(zC (bA (iz c 180))))] (eS (v:=(.agg ⟨bA (iz c 180)⟩)) [A_ 10 b4 13] ⟨L,by rw [show dZ k S c=(S,iz c 180) by unfold dZ;rw [t8 tj,nw vY]]<;>exact⟨rfl,rfl⟩⟩)))))))))) (λtj=>SR (jK 2 [35] [] (NN (cP ((k:Int)=(2:Int)) (λyJ=>?_) (λyJ=>?_))))))))))))))))
 ·refine SR (jK 2 [38] [(1,a_ 9 b3)] (NN (ax.block (ax.join (ι:=Bool) (λ(fl:Bool)=>(fl=true↔(c.op=4\/c.op=5\/c.op=6\/c.op=7\/c.op=9))) (λ(fl:Bool)=>[(0,vP q),(3,vP b3),(4,vP b4),(39,.bool fl)]) (λ(fl:Bool)=>([.aD q [.iface 56 (vP f),.map (some km),vI ↑(n+1)] 140]++zA4 km fs kn f m t S L++[.abs R,pC b3 c,zA1 b4])) ?_ (SR (jK 2 [39] [] (NN (cP ((c.op:Int)=(4:Int)) (λlW=>ax.skip (aF.slot 39 (.bool (decide ((c.op:Int)=(4:Int)))) (.bool true) (λ_=>d6) (zc Value.bool (ahO lW)) (mJ true [0,1,2,3,4,5,6,7,8,9,10] (⟨λ_=>d5,λ_=>rfl⟩)))) (λlW=>SR (jK 2 [39] [] (NN (cP ((c.op:Int)=(5:Int)) (λlW=>ax.skip (aF.slot 39 (.bool (decide ((c.op:Int)=(5:Int)))) (.bool true) (λ_=>d6) (zc Value.bool (ahO lW)) (mJ true [0,1,2,3,4,5,6,7,8,9,10] (⟨λ_=>d5,λ_=>rfl⟩)))) (λlW=>SR (jK 2 [39] [] (NN (cP ((c.op:Int)=(6:Int)) (λlW=>ax.skip (aF.slot 39 (.bool (decide ((c.op:Int)=(6:Int)))) (.bool true) (λ_=>d6) (zc Value.bool (ahO lW)) (mJ true [0,1,2,3,4,5,6,7,8,9,10] (⟨λ_=>d5,λ_=>rfl⟩)))) (λlW=>SR (jK 2 [39] [] (NN (cP ((c.op:Int)=(7:Int)) (λlW=>ax.skip (aF.slot 39 (.bool (decide ((c.op:Int)=(7:Int)))) (.bool true) (λ_=>d6) (zc Value.bool (ahO lW)) (mJ true [0,1,2,3,4,5,6,7,8,9,10] (⟨λ_=>d5,λ_=>rfl⟩)))) (λlW=>ax.region (jK 2 [39] [] (NL (mJ ((decide (c.op=9))) [0,1,2,3,4,5,6,7,8,9,10] (⟨λh=>by have:=aij h;omega,λh=>ahO d5⟩)))))))))))))))))))))))))
  rintro fl hfl
  exact ax.cond (b:=fl) (λ_=>d6) (λlW=>SR (jK 1 [45] [(0,A_ 9 b3 13)] (gE [] (Fq c 176) (jC 1 [] [(0,A_ 10 b4 13)] [(10,(zC (bA (iz c 176))))] (eS (v:=(.agg ⟨bA (iz c 176)⟩)) [A_ 10 b4 13] ⟨L,by rw [show dZ k S c=(S,iz c 176) by unfold dZ;rw [nw d5,t8 ⟨yJ,hfl.1 lW⟩]]<;>exact⟨rfl,rfl⟩⟩))))) (λlW=>ax.skip (aF.j5 (aF.j5 (mJ () [0,1,2,3,4,5,6,7,8,9,10] (⟨tj,λh=>KB (lW.symm.trans (hfl.2 h.2)) d8,λh=>d5⟩)))))
 refine SR (jK 2 [47] [] (NN (cP ((k:Int)=(3:Int)) (λRJ=>SR (jK 4 [52] [(1,a_ 9 b3)] (sP 52 ((c.op:Int)=(9:Int)) (λuL=>jK 5 [57] [(1,a_ 9 b3)] (NN (cP ((((c.data.length:Nat):Int):Int)>=(2:Int)) (λh57=>SR (jK 3 [5] [(1,a_ 9 b3)] (NS (jK 5 [64] [(3,w_ (.int .i64 ↑(c.data.length / 2)) (vk (Int.ofNat_tdiv _ _).symm d5 d5)),(4,xP (c.data.length / 2) ((c.data.length / 2)<=c.dC))] (sl 64 (.slice c.dA ((c.data.length / 2)) (c.dC)) (.slice c.dA ((c.data.take (c.data.length / 2)).length) (c.dC)) (by rw [ahZ,aiB d5]) (jC 2 [] [(1,a_ 9 b3)] [(9,[(5,.slice c.dA ((c.data.take (c.data.length / 2)).length) (c.dC))])] (NN (ax.seq (rM (List.range 7) 5 [0,9] (jR 5 [3,4,5,69,70] [(3,a_ 0 q),(4,A_ 1 b3 13)] (mL [6,9] [2,3,4,5,6,7] (Qd S L f m t hI {c with data:=c.data.take (c.data.length / 2)} (Q9 hC)) ?_ (by rintro _ _ ⟨L2,rfl,rfl⟩;rfl)))))))))))) (λh57=>ax.skip (aF.j5 (mJ () [0,1,2,3,4,5,6,7,8,9,10] (⟨tj,λh=>yJ h.1,λh=>d5⟩))))))) (λuL=>jK 5 [57] [] (NF (ax.skip (aF.j5 (mJ () [0,1,2,3,4,5,6,7,8,9,10] (⟨tj,λh=>yJ h.1,λh=>d5⟩))))))))) (λRJ=>ax.skip (aF.j5 (mJ () [0,1,2,3,4,5,6,7,8,9,10] (⟨tj,λh=>yJ h.1,λh=>d5⟩)))))))
 rintro _ _ ⟨L2,rfl,rfl⟩
 exact ct.last rfl rfl (jC 1 [] [(0,A_ 9 b3 13)] [(9,(zC (bA ((fC S {c with data:=c.data.take (c.data.length / 2)}).2))))] (NL (aF.np (NX (SR (jC 3 [] [(2,a_ 9 b3)] [(9,[(5,.slice c.dA (c.data.length) (c.dC))])] (NS (jC 2 [] [(0,A_ 9 b3 13),(1,A_ 10 b4 13)] [(10,[(0,vI ((fC S {c with data:=c.data.take (c.data.length / 2)}).2.op)),(1,vI ((fC S {c with data:=c.data.take (c.data.length / 2)}).2.bD)),(2,vI ((fC S {c with data:=c.data.take (c.data.length / 2)}).2.other)),(3,.string (fC S {c with data:=c.data.take (c.data.length / 2)}).2.name),(4,.string (fC S {c with data:=c.data.take (c.data.length / 2)}).2.text),(5,.slice c.dA (c.data.length) (c.dC)),(6,vI ((fC S {c with data:=c.data.take (c.data.length / 2)}).2.mode)),(7,vI ((fC S {c with data:=c.data.take (c.data.length / 2)}).2.cO)),(8,vI ((fC S {c with data:=c.data.take (c.data.length / 2)}).2.cQ)),(9,vI ((fC S {c with data:=c.data.take (c.data.length / 2)}).2.bJ)),(10,vI ((fC S {c with data:=c.data.take (c.data.length / 2)}).2.bh)),(11,vI ((fC S {c with data:=c.data.take (c.data.length / 2)}).2.code)),(12,vI ((fC S {c with data:=c.data.take (c.data.length / 2)}).2.answer))])] (eS (v:=(.agg #[vI ((fC S {c with data:=c.data.take (c.data.length / 2)}).2.op),vI ((fC S {c with data:=c.data.take (c.data.length / 2)}).2.bD),vI ((fC S {c with data:=c.data.take (c.data.length / 2)}).2.other),.string (fC S {c with data:=c.data.take (c.data.length / 2)}).2.name,.string (fC S {c with data:=c.data.take (c.data.length / 2)}).2.text,.slice c.dA (c.data.length) (c.dC),vI ((fC S {c with data:=c.data.take (c.data.length / 2)}).2.mode),vI ((fC S {c with data:=c.data.take (c.data.length / 2)}).2.cO),vI ((fC S {c with data:=c.data.take (c.data.length / 2)}).2.cQ),vI ((fC S {c with data:=c.data.take (c.data.length / 2)}).2.bJ),vI ((fC S {c with data:=c.data.take (c.data.length / 2)}).2.bh),vI ((fC S {c with data:=c.data.take (c.data.length / 2)}).2.code),vI ((fC S {c with data:=c.data.take (c.data.length / 2)}).2.answer)])) [A_ 10 b4 13] ⟨L2,by rw [show dZ k S c=((fC S {c with data:=c.data.take (c.data.length / 2)}).1,{ (fC S {c with data:=c.data.take (c.data.length / 2)}).2 with dA:=c.dA,dC:=c.dC,data:=c.data}) by unfold dZ;rw [nw d5,nw d5,t8 ⟨RJ,d5,d5⟩]]<;>exact⟨rfl,rfl⟩⟩ [6,7,0,1,2,3,4,5,8])))))))))
end
section
open Go.RowKit Go.Maps bw aI
attribute [local irreducible] aE bH ax aF
theorem Gj {β:Bs} (S:bg) (L:HL) (f:Nat) (hI:bC S) (d:Nat) (hd:aT S.ay ⟨d,2⟩) (path:ByteArray) (eT:path.size<=1048576) (hg:iX β) :
 aW Tryz.prog β 246 #[vP f,vP (L.b d),.string path] [.abs (bp (fQ S.O L)),.abs (bp (ig S.O L))] (λv l=>v=Ic L (mW S.O d path)/\l=[.abs (bp (fQ S.O L)),.abs (bp (ig S.O L))]):=by
 have eH:(ah S.O d).kind=2:=hI.kind hd
 obtain⟨ps,aB⟩:∃ps,ps=bM path:=⟨_,rfl⟩
 have hpl:1<=ps.length/\ps.length<=1048577:=by rw [aB,Dy];have:=zZ path;omega
 have Ym:∀q,q<ps.length->(pc ps q).size<=1048576:=λq hq=>Pd (GI (aB ▸ O8 hq)) eT
 refine SE Tryz.func246 Tryz.ntmps246 (λR=>SR (jK 3 [] [] (NS (jK 1 [19] [] (gX [] (WQ hg path eT aB) (λb1=>jK 1 [9] [] (NN (SQ (jK 3 [21,22,23] [] (NN (ax.block (lJ (λ(j:Nat)=>(j<=ps.length)/\(∀q,q<j->bU (pc ps q))) (λ(j:Nat)=>ps.length-j) (λ(j:Nat)=>[(1,vP (L.b d)),(9,.slice (some ⟨b1,0,none⟩) (ps.length) (ps.length)),(21,.slice (some ⟨b1,0,none⟩) (ps.length) (ps.length)),(22,vI ↑ps.length),(23,vI ↑j)]) (λ(j:Nat)=>[pO S.O L,pE S.O L,.abs (aK 9 1 (some ⟨b1,0,none⟩) ps.length ps.length (kQ ps)),.abs R]) 0 [1,2,0,3] (⟨L4 _,λq h=>KB h (N5 q)⟩) ?_))))))))))))
 rintro j ⟨hj,hgd⟩
 refine SR (jK 1 [24] [] (NN (ax.seq (cP ((((j:Nat):Int):Int)<(((ps.length:Nat):Int):Int)) (λqZ=>ax.skip (NX (ax.seq (ax.block (SR (jK 3 [11] [(0,p_ ⟨[],some j,none,none,some (.pointer (some ⟨b1,j,none⟩))⟩ [(Value.pointer (some ⟨b1,0+j*1,none⟩))=(.pointer (some ⟨b1,j,none⟩)),((j:Nat):Int)=((j:Nat):Int),j<ps.length,(⟨b1,0,none⟩:Addr).spot=none] ⟨nh,rfl,d5,rfl,trivial⟩),(1,p_ ⟨[.view 2 (.string (pc ps j))],none,none,none,none⟩ [(∀F w,(aK 9 1 (some ⟨b1,0,none⟩) ps.length ps.length (kQ ps)).h F w->w.cell? ⟨b1,j,none⟩=some (.string (pc ps j)))] ⟨aK.cell (z7 d5),trivial⟩)] (NS (jK 1 [27] [] (gE [] (zF (pc ps j) (by have:=Ym j d5;omega)) (jK 1 [29] [] (NN (cN (bU (pc ps j)) (λCK=>SR (jK 3 [6,7,8] [] (NN (ax.ret (aF.fI (aF.bq (aF.bq (aF.fI (aF.bq (RT _ [0,1,3] (⟨zc (Ic L) (aie (show mW S.O d path=.error 95 from nw (λh=>CK (Dz.1 (aB ▸ h) j d5)))),rfl⟩))))))))))) (λCK=>ax.skip (BX (ax.region (jK 2 [23] [(0,wJ ((j:Int)+1) (↑(j+1)))] (NL (tJ ((j+1)) [0,1,2,3] (⟨d5,λq hq=>(Pe.1 hq).elim (hgd q) (λe=>e ▸ CK)⟩))))))))))))))))))) (λqZ=>XX (SR ?_))))))
 have jW:∀p∈ps,bU p:=Dz.2 (λq hq=>hgd q d5)
 refine jK 4 [12] [(2,wJ ((ps.length:Int)-1) (↑(ps.length-1)))] (NN (SQ (jK 5 [36,37,38] [(2,xP (ps.length-1) ((ps.length-1)<=ps.length))] (NN (ax.block (lJ (λ(j,e)=>(j<=ps.length-1)/\(aT S.ay ⟨e,2⟩)/\(pX S.O d ps=pX S.O e (ps.drop j))) (λ(j,e)=>ps.length-1-j) (λ(j,e)=>[(1,vP (L.b e)),(9,.slice (some ⟨b1,0,none⟩) (ps.length) (ps.length)),(12,vI ↑(ps.length-1)),(36,.slice (some ⟨b1,0,none⟩) ((ps.length-1)) (ps.length)),(37,vI ↑(ps.length-1)),(38,vI ↑j)]) (λ(j,e)=>[pO S.O L,pE S.O L,.abs (aK 9 1 (some ⟨b1,0,none⟩) ps.length ps.length (kQ ps)),.abs R]) (0,d) [0,1,2,3] (⟨L4 _,hd,by rw [List.drop_zero]⟩) ?_))))))
 rintro⟨j,e⟩ ⟨hj,dV,hw⟩
 have hke:(ah S.O e).kind=2:=hI.kind dV
 refine SR (jK 1 [39] [] (NN (ax.seq (cP ((((j:Nat):Int):Int)<((((ps.length-1):Nat):Int):Int)) (λlW=>?_) (λlW=>?_)))))
 ·have vK:(pc ps j).size<=1048576:=Ym j d5
  have hee:(ah S.O e).aq.length<=8192:=hI.mq dV
  refine ax.skip (NX (ax.seq (ax.block (SR (jK 3 [14] [(0,p_ ⟨[],some j,none,none,some (.pointer (some ⟨b1,j,none⟩))⟩ [(Value.pointer (some ⟨b1,0+j*1,none⟩))=(.pointer (some ⟨b1,j,none⟩)),((j:Nat):Int)=((j:Nat):Int),j<(ps.length-1),(⟨b1,0,none⟩:Addr).spot=none] ⟨nh,rfl,d5,rfl,trivial⟩),(1,p_ ⟨[.view 2 (.string (pc ps j))],none,none,none,none⟩ [(∀F w,(aK 9 1 (some ⟨b1,0,none⟩) ps.length ps.length (kQ ps)).h F w->w.cell? ⟨b1,j,none⟩=some (.string (pc ps j)))] ⟨aK.cell (z7 d5),trivial⟩)] (NN (ax.seq ?_)))))))
  rcases hI.vC dV (pc ps j) with fA|⟨tk,fA,cW⟩|⟨tk,fA,cW⟩|⟨tk,fA,cW⟩
  ·exact ax.region (jK 5 [45,46] [(3,v_ 0 (eF L hke))] (mX 1 hke fA (NN (ax.block (SR (jK 1 [48] [] (NN (CT (SR (jK 1 [] [] (NS (jK 3 [6,7,8] [] (NN (ax.ret (aF.fI (aF.fI (aF.bq (aF.bq (aF.fI (aF.bq (RT _ [0,1,3] (⟨zc (Ic L) (aie (show mW S.O d path=.error 170 from (show mW S.O d path=pX S.O d ps by unfold mW;rw [←aB];exact t8 jW).trans (hw.trans ((Bw d5).trans (by rw [fA]<;>rfl))))),rfl⟩))))))))))))))))))))))
  ·have bZ:(ah S.O tk).kind=1:=hI.kind cW
   exact ax.region (jK 5 [45,46] [(3,v_ 0 (eF L hke))] (mX 1 hke fA (NN (ax.block (SR (jK 1 [48] [] (NN (CF (SR (jK 3 [50,51] [] (NN (CF (SR (jK 3 [53,54] [] (NN (CT (SR (jK 1 [] [] (NS (jK 3 [6,7,8] [] (eN ⟨zc (Ic L) (aie (show mW S.O d path=.error 173 from (show mW S.O d path=pX S.O d ps by unfold mW;rw [←aB];exact t8 jW).trans (hw.trans ((Bw d5).trans (by rw [fA]<;>rfl))))),rfl⟩ [0,1,3])))))))))))))))))))))
  ·have bZ:(ah S.O tk).kind=2:=hI.kind cW
   exact ax.region (jK 5 [45,46] [(3,v_ 0 (eF L hke))] (mX 1 hke fA (NN (ax.block (SR (jK 1 [48] [] (NF (SR (jK 3 [50,51] [] (NF (SR (jK 3 [53,54] [] (NF (SR (jK 3 [56,57] [] (NT (SR (jK 1 [18] [] (NN (ax.region (jK 2 [1] [] (LX (ax.region (jK 2 [38] [(0,wJ ((j:Int)+1) (↑(j+1)))] (NL (tJ ((j+1),tk) [0,1,2,3] (⟨d5,cW,hw.trans ((Bw d5).trans (by rw [fA]<;>rfl))⟩)))))))))))))))))))))))))))
  have bZ:(ah S.O tk).kind=3:=hI.kind cW
  exact ax.region (jK 5 [45,46] [(3,v_ 0 (eF L hke))] (mX 1 hke fA (NN (ax.block (SR (jK 1 [48] [] (NF (SR (jK 3 [50,51] [] (NT (SR (jK 1 [] [] (NS (jK 3 [6,7,8] [] (eN ⟨zc (Ic L) (aie (show mW S.O d path=.error 174 from (show mW S.O d path=pX S.O d ps by unfold mW;rw [←aB];exact t8 jW).trans (hw.trans ((Bw d5).trans (by rw [fA]<;>rfl))))),rfl⟩ [0,1,3])))))))))))))))
 have ej:j=ps.length-1:=d5
 exact XX (SQ (jK 5 [64] [(4,v_ 0 (xZ L hke))] (NN (ax.cond (b:=(ah S.O e).aJ) (λ_=>d6) (λXx=>zR ⟨zc (Ic L) (aie ((show mW S.O d path=pX S.O d ps by unfold mW;rw [←aB];exact t8 jW).trans (hw.trans ((L8 d5).trans (t8 Xx))))),rfl⟩ [0,1,3]) (λXx=>KX (ax.seq (rQ (jQ 8 [6,7,8] [(3,p_ ⟨[],some (ps.length-1),none,none,some (.pointer (some ⟨b1,(ps.length-1),none⟩))⟩ [(Value.pointer (some ⟨b1,0+(ps.length-1)*1,none⟩))=(.pointer (some ⟨b1,(ps.length-1),none⟩)),(((ps.length-1):Nat):Int)=(((ps.length-1):Nat):Int),(ps.length-1)<ps.length,(⟨b1,0,none⟩:Addr).spot=none] ⟨nh,rfl,d5,rfl,trivial⟩),(4,p_ ⟨[.view 2 (.string (pc ps (ps.length-1)))],none,none,none,none⟩ [(∀F w,(aK 9 1 (some ⟨b1,0,none⟩) ps.length ps.length (kQ ps)).h F w->w.cell? ⟨b1,(ps.length-1),none⟩=some (.string (pc ps (ps.length-1))))] ⟨aK.cell (z7 d5),trivial⟩)] (NQ (NX (ax.ret (RT (.tuple #[vP (L.b e),.string (pc ps (ps.length-1)),vI 0]) [0,1,3] (⟨by rw [←ej];exact zc (Ic L) (aie (show mW S.O d path=.ok (e,pc ps j) from (show mW S.O d path=pX S.O d ps by unfold mW;rw [←aB];exact t8 jW).trans (hw.trans ((L8 d5).trans (nw (by rw [Xx];exact Bool.false_ne_true)))))),rfl⟩)))))))))))))
theorem adm {β:Bs} (S:bg) (L:HL) (f m t:Nat) (hI:bC S) (af:Int) (hrw:(Lit.int .i64 af).wf=true) (a:cM) (Ym:a.path.size<=1048576) (htz:a.to.size<=1048576) (hxz:a.text.size<=1048576) (hg:iX β) :
 aW Tryz.prog β 245 #[vP f,vI (af),.agg #[vI (a.at_),vI (a.op),.string a.path,.string a.to,.string a.text]] [.aD f [vI (S.X.cN),vI (S.X.cB),vI (S.X.cH),vI (S.X.cS),vI (S.X.cZ),.map (some m),vP t,vI (S.X.last),vI (S.X.aq),vI (S.X.used)] 173,.abs (bK Tryz.prog 3 m (dg (dM L S.ay)) S.ay.length),.abs (ia 233 t S.X.cH S.aL (dM L S.us)),.abs (bp (fQ S.O L)),.abs (bp (eX S.O L)),.abs (bp (ig S.O L))] (λv l=>∃L2,v=vI (cJ S af a).1/\l=[.aD f [vI ((cJ S af a).2.X.cN),vI ((cJ S af a).2.X.cB),vI ((cJ S af a).2.X.cH),vI ((cJ S af a).2.X.cS),vI ((cJ S af a).2.X.cZ),.map (some m),vP t,vI ((cJ S af a).2.X.last),vI ((cJ S af a).2.X.aq),vI ((cJ S af a).2.X.used)] 173,.abs (bK Tryz.prog 3 m (dg (dM L2 (cJ S af a).2.ay)) ((cJ S af a).2.ay.length)),.abs (ia 233 t (cJ S af a).2.X.cH ((cJ S af a).2.aL) (dM L2 ((cJ S af a).2.us))),.abs (bp (fQ ((cJ S af a).2.O) L2)),.abs (bp (eX ((cJ S af a).2.O) L2)),.abs (bp (ig ((cJ S af a).2.O) L2))]):=by
 have hX:=hI.hX
 refine SE Tryz.func245 Tryz.ntmps245 (λR=>SR (jB 2 [5] (λb1=>.aD b1 [vI (a.at_),vI (a.op),.string a.path,.string a.to,.string a.text] 133) (λb1=>NZ (jK 4 [25] [(1,a_ 7 b1)] (sP 25 ((a.op:Int)<(1:Int)) (λqH=>jK 4 [29] [] (NT (zR ⟨L,by rw [show (cJ S af a)=(230,S) by unfold cJ;exact t8 d5]<;>exact⟨rfl,rfl⟩⟩))) (λqH=>jK 4 [29] [(1,a_ 7 b1)] (NN (cP ((a.op:Int)>(7:Int)) (λCK=>zR ⟨L,by rw [show (cJ S af a)=(230,S) by unfold cJ;exact t8 d5]<;>exact⟨rfl,rfl⟩⟩) (λCK=>KX (ax.seq ?_))))))))))
 rcases hI.adX af with fO|⟨tk,fO,cW⟩|⟨tk,fO,cW⟩|⟨tk,fO,cW⟩
 ·exact ax.region (jK 5 [33,34] [(3,a_ 0 f)] (aE.ji 1 (d:=(some 35)) (t:=170) (K:=3) (E:=175) (b:=m) (n:=S.ay.length) (f:=(dg (dM L S.ay))) (x:=(.tmp 33)) (ix:=(.tmp 34)) (key:=vI (af)) (z:=.nilIface) (kl:=(.int .i64 af)) (r:=none) (λ_=>d6) d6 (λ_=>d6) (λ_=>d6) ja Tryz.underlying170 (λ_=>d6) (mo hrw) (by rw [kx,fO];rfl) (jK 1 [7] [] (NZ (jK 2 [37] [] (NT (zR ⟨L,by rw [show (cJ S af a)=(141,S) by unfold cJ;rw [nw d5,fO]]<;>exact⟨rfl,rfl⟩⟩)))))))
 ·have bZ:(ah S.O tk).kind=1:=hI.kind cW
  exact ax.region (jK 5 [33,34] [(3,a_ 0 f)] (aE.ji 1 (d:=(some 35)) (t:=170) (K:=3) (E:=175) (b:=m) (n:=S.ay.length) (f:=(dg (dM L S.ay))) (x:=(.tmp 33)) (ix:=(.tmp 34)) (key:=vI (af)) (z:=.nilIface) (kl:=(.int .i64 af)) (r:=(some (jg L ⟨tk,1⟩))) (λ_=>d6) d6 (λ_=>d6) (λ_=>d6) ja Tryz.underlying170 (λ_=>d6) (mo hrw) (by rw [kx,fO];rfl) (jK 1 [7] [] (NZ (jK 2 [37] [] (NF (KX (SR (jK 7 [8,9] [] (NZ (jK 2 [44] [] (NT (zR ⟨L,by rw [show (cJ S af a)=(173,S) by unfold cJ;rw [nw d5,fO];simp only;exact nw nh]<;>exact⟨rfl,rfl⟩⟩)))))))))))))
 ·have bZ:(ah S.O tk).kind=2:=hI.kind cW
  refine ax.region (jK 5 [33,34] [(3,a_ 0 f)] (aE.ji 1 (d:=(some 35)) (t:=170) (K:=3) (E:=175) (b:=m) (n:=S.ay.length) (f:=(dg (dM L S.ay))) (x:=(.tmp 33)) (ix:=(.tmp 34)) (key:=vI (af)) (z:=.nilIface) (kl:=(.int .i64 af)) (r:=(some (jg L ⟨tk,2⟩))) (λ_=>d6) d6 (λ_=>d6) (λ_=>d6) ja Tryz.underlying170 (λ_=>d6) (mo hrw) (by rw [kx,fO];rfl) (jK 1 [7] [] (NZ (jK 2 [37] [] (NF (KX (SR (jK 7 [8,9] [] (NZ (jK 2 [44] [] (NF (KX (SR (jK 4 [46,47,49] [(3,a_ 7 b1)] ?_)))))))))))))))
  rcases x6 hI cW a.path with ⟨e,pu,cG⟩|⟨d,name,pu,hd,nG,hgn⟩
  ·exact gE [3,5] ((by have h:=Gj (β:=β) S L f hI tk cW a.path Ym hg;rw [pu] at h;exact h)) (jK 7 [10,11,12] [] (NZ (jK 2 [55] [] (NN (cN ((e:Int)=(0:Int)) (λh55=>zR ⟨L,by rw [show (cJ S af a)=(e,S) by unfold cJ;rw [nw d5,fO];simp only;rw [t8 trivial,pu]]<;>exact⟨rfl,rfl⟩⟩ [2,3,4,0,5,1,6]) (λh55=>KB h55 cG))))))
  have eH:(ah S.O d).kind=2:=hI.kind hd
  have eT:name.size<=1048576:=L7 hgn
  refine gE [3,5] ((by have h:=Gj (β:=β) S L f hI tk cW a.path Ym hg;rw [pu] at h;exact h)) (jK 7 [10,11,12] [] (NZ (jK 2 [55] [] (NF (KX (SQ (jK 2 [58] [(1,a_ 7 b1)] (NN (ax.block (SR (jK 2 [59] [] (NN (cP ((a.op:Int)=(1:Int)) (λxH=>?_) (λxH=>?_))))))))))))))
  ·refine SQ (jK 3 [61,62,63] [] (gE [2,3,1,0] (ER S L f m t hI d hd name eT) (jK 1 [12] [] (NS (jK 2 [66] [] (NN (cN (((gY S.X S.O S.ay d name):Int)=(0:Int)) (λh0=>zR ⟨L,by rw [show (cJ S af a)=(gY S.X S.O S.ay d name,S) by unfold cJ;rw [nw d5,fO];simp only;rw [t8 trivial,pu];simp only;unfold nJ;rw [t8 d5];unfold qO;exact nw h0]<;>exact⟨rfl,rfl⟩⟩ [0,1,4,3,5,2,6]) (λh0=>?_))))))))
   have jx:=xQ h0
   refine KX (SR (jK 1 [68] [] (gE [0] (EN S.X f m t hX 420) (jB 2 [71] (λb2=>.aD b2 [vI (S.X.last+1),vI (420),vI 0,vI 0,vI (S.X.cS),vI (S.X.cZ),vI 0,vI 0,.bool false,.slice none (0) (0)] 186) (λb2=>?_)))))
   obtain⟨L2,jy⟩:∃L2:HL,L2=L.put (dm S.X) b2 0 none 0:=⟨_,rfl⟩
   have hfr:=hI.toInv0.fresh
   refine aE.mem (λw hS=>hS.FU jy hfr (o:=(dN S.X 1 420)) (i:=3) (j:=8) (ix:=[0,1,2,4,5,6,7]) rfl rfl d6 rfl (by show (1:Int)≠0;decide) ((xJ (L:=L2) (k:=(dm S.X)) (o:=(dN S.X 1 420)) rfl).trans (by rw [show L2.dA (dm S.X)=none by rw [jy];exact t8 rfl,show L2.dC (dm S.X)=0 by rw [jy];exact t8 rfl];rfl)) rfl) (aE.jk [(3,pE (bE S.O (dm S.X) (λ_=>(dN S.X 1 420))) L2)] (λw hS=>hS.Jg jy hfr (o:=(dN S.X 1 420)) (i:=3) rfl (by show (1:Int)≠2;decide)) (aE.mem (λw hS=>hS.nW (e:=5) (size:=1)) (aE.mem (λw hS=>hS.afI jy (o:=(dN S.X 1 420)) (i:=5) (j:=8) (ix:=[0,1,2,3,4,6,7]) rfl rfl d6 rfl rfl rfl) (aE.jk [(3,.abs (bK Tryz.prog 3 m (dg (dM L2 S.ay)) S.ay.length)),(5,.abs (ia 233 t S.X.cH S.aL (dM L2 S.us)))] (λw hS=>by rw [pZ jy hfr.ay,pZ jy hfr.us];exact hS) (jK 1 [13] [] (NS (jK 5 [72,73,74,76] [] (gE [2,3,1,4] ((by have h:=Dx (β:=β) S L2 f m t hI.toInv0 d hd name eT jx (dN S.X 1 420) rfl (by simp [dN]) rfl (Ce h0);rw [FT jy (hI.EA hd),y6 jy] at h;exact h)) (NS (aE.jk [(4,.abs (bp (eX ((gU S d name (dN S.X 1 420)).O) L2)))] (λw hS=>by rw [show eX ((gU S d name (dN S.X 1 420)).O) L2=eX (bE S.O (dm S.X) (λ_=>(dN S.X 1 420))) L2 from oY];exact hS) ?_))))))))))
   have yG:bC (gU S d name (dN S.X 1 420)):=hI.F7 hd nG hgn h0 (.inl rfl) ⟨d8,d8⟩ (.inl ⟨d8,rfl⟩)
   have VW:aT (gU S d name (dN S.X 1 420)).ay ⟨(dm S.X),1⟩:=OI hI (o:=(dN S.X 1 420))
   exact jK 4 [78,79,81] [(3,a_ 7 b1)] (aE.DA (d:=(some 82)) (t1:=9) (t2:=61) (e:=5) (x:=(.tmp 81)) (s:=a.text) (λ_=>d6) (λ_=>d6) Tryz.underlying9 Tryz.underlying61 Tryz.underlying5 (λb3 c4 agX=>gX [8,0,1,5,2,4,3] ((by have h:=JB (β:=β) (gU S d name (dN S.X 1 420)) L2 f m t yG (dm S.X) VW (some ⟨b3,0,none⟩) c4 a.text.data.toList (by rw [Array.length_toList];have:a.text.data.size=a.text.size:=rfl;omega) agX;rw [Ov jy] at h;exact h)) (λL3=>NS (jK 1 [6] [] (eN ⟨L3,by rw [show (cJ S af a)=(0,(gZ (gU S d name (dN S.X 1 420)) (dm S.X) a.text.data.toList).2.2) by unfold cJ;rw [nw d5,fO];simp only;rw [t8 trivial,pu];simp only;unfold nJ;rw [t8 d5];unfold qO;exact t8 h0]<;>exact⟨rfl,rfl⟩⟩)))))
  refine SR (jK 2 [84] [] (NN (cP ((a.op:Int)=(2:Int)) (λh84=>SR (jK 3 [86,87,88] [] (gX [2,3,4,0,5,1] (L6 S L f m t hI d hd name eT 493) (λL2=>jK 1 [6] [] (eN ⟨L2,by rw [show (cJ S af a)=((lP S d name 493).1,(lP S d name 493).2) by unfold cJ;rw [nw d5,fO];simp only;rw [t8 trivial,pu];simp only;unfold nJ;rw [nw d5];exact t8 d5]<;>exact⟨rfl,rfl⟩⟩))))) (λh84=>SR (jK 2 [90] [] (NN (cP ((a.op:Int)=(3:Int)) (λwg=>SR (jK 5 [92,93,94,96] [(4,a_ 7 b1)] (gX [2,3,4,0,5,1] (Rb S L f m t hI d hd name eT a.text hxz) (λL2=>jK 1 [6] [] (eN ⟨L2,by rw [show (cJ S af a)=((jX S d name a.text).1,(jX S d name a.text).2) by unfold cJ;rw [nw d5,fO];simp only;rw [t8 trivial,pu];simp only;unfold nJ;rw [nw d5];rw [nw d5];exact t8 d5]<;>exact⟨rfl,rfl⟩⟩))))) (λwg=>SR (jK 2 [98] [] (NN (cP ((a.op:Int)=(4:Int)) (λXb=>SR (jK 3 [100,101,102] [] (gX [2,3,4,0,5,1] (Uz S L f m t hI d hd name eT) (λL2=>jK 1 [6] [] (eN ⟨L2,by rw [show (cJ S af a)=((iO S d name).1,(iO S d name).2) by unfold cJ;rw [nw d5,fO];simp only;rw [t8 trivial,pu];simp only;unfold nJ;rw [nw d5];rw [nw d5];rw [nw d5];exact t8 d5]<;>exact⟨rfl,rfl⟩⟩))))) (λXb=>SR (jK 2 [104] [] (NN (cP ((a.op:Int)=(5:Int)) (λagY=>SR (jK 3 [106,107,108] [] (gX [2,3,4,0,5,1] (WN S L f m t hI d hd name eT) (λL2=>jK 1 [6] [] (eN ⟨L2,by rw [show (cJ S af a)=((jo S d name).1,(jo S d name).2) by unfold cJ;rw [nw d5,fO];simp only;rw [t8 trivial,pu];simp only;unfold nJ;rw [nw d5];rw [nw d5];rw [nw d5];rw [nw d5];exact t8 d5]<;>exact⟨rfl,rfl⟩⟩))))) (λagY=>SR (jK 2 [110] [] (NN (cP ((a.op:Int)=(6:Int)) (λagZ=>?_) (λagZ=>?_))))))))))))))))))))
  ·refine SR (jK 4 [113,114,116] [(3,a_ 7 b1)] ?_)
   rcases x6 hI cW a.to with ⟨e2,J4,ag0⟩|⟨to,aG,J4,hd2,ahJ,ag1⟩
   ·exact gE [0,1] ((by have h:=Gj (β:=β) S L f hI tk cW a.to htz hg;rw [J4] at h;exact h)) (jK 7 [14,15,16] [] (NZ (jK 2 [122] [] (NN (cN ((e2:Int)=(0:Int)) (λTB=>zR ⟨L,by rw [show (cJ S af a)=(e2,S) by unfold cJ;rw [nw d5,fO];simp only;rw [t8 trivial,pu];simp only;unfold nJ;rw [nw d5];rw [nw d5];rw [nw d5];rw [nw d5];rw [nw d5];rw [t8 d5];rw [J4]]<;>exact⟨rfl,rfl⟩⟩ [2,3,4,0,5,1,6]) (λTB=>KB TB ag0))))))
   have oH:(ah S.O to).kind=2:=hI.kind hd2
   have vK:aG.size<=1048576:=L7 ag1
   exact gE [0,1] ((by have h:=Gj (β:=β) S L f hI tk cW a.to htz hg;rw [J4] at h;exact h)) (jK 7 [14,15,16] [] (NZ (jK 2 [122] [] (NF (KX (SR (jK 5 [124,125,126,127,128] [] (gX [2,3,4,0,5,1] (UA S L f m t hI d hd name eT to hd2 aG vK) (λL2=>jK 1 [6] [] (eN ⟨L2,by rw [show (cJ S af a)=((dF S d name to aG).1,(dF S d name to aG).2) by unfold cJ;rw [nw d5,fO];simp only;rw [t8 trivial,pu];simp only;unfold nJ;rw [nw d5];rw [nw d5];rw [nw d5];rw [nw d5];rw [nw d5];rw [t8 d5];rw [J4]]<;>exact⟨rfl,rfl⟩⟩))))))))))
  refine KX (ax.seq (ax.seq ?_))
  have hel:(ah S.O d).aq.length<=8192:=hI.mq hd
  have ahb:=eT
  rcases hI.vC hd name with gj|⟨ok,gj,lZ⟩|⟨ok,gj,lZ⟩|⟨ok,gj,lZ⟩
  ·exact ax.region (jK 5 [133,134] [(3,v_ 0 (eF L eH))] (mX 1 eH gj (NN (ax.block (SR (jK 3 [137,138] [] (NF (SR (jK 3 [140,141] [] (NF (SR (jK 3 [143,144] [] (NF (KX (zR ⟨L,by rw [show (cJ S af a)=(170,S) by unfold cJ;rw [nw d5,fO];simp only;rw [t8 trivial,pu];simp only;unfold nJ;rw [nw d5];rw [nw d5];rw [nw d5];rw [nw d5];rw [nw d5];rw [nw d5];unfold oG;rw [gj]]<;>exact⟨rfl,rfl⟩⟩ [2,3,4,0,5,1,6])))))))))))))))
  ·have vL:(ah S.O ok).kind=1:=hI.kind lZ
   exact ax.region (jK 5 [133,134] [(3,v_ 0 (eF L eH))] (mX 1 eH gj (NN (ax.block (SR (jK 3 [137,138] [] (NF (SR (jK 3 [140,141] [] (NF (SR (jK 3 [143,144] [] (NT (SR (jK 1 [19] [] (NS (jK 4 [146,147,149] [(3,a_ 7 b1)] (aE.DA (d:=(some 150)) (t1:=9) (t2:=61) (e:=5) (x:=(.tmp 149)) (s:=a.text) (λ_=>d6) (λ_=>d6) Tryz.underlying9 Tryz.underlying61 Tryz.underlying5 (λb6 c7 ag2=>gX [8,2,3,4,0,5,1] (JB (β:=β) S L f m t hI ok lZ (some ⟨b6,0,none⟩) c7 a.text.data.toList (by rw [Array.length_toList];have:a.text.data.size=a.text.size:=rfl;omega) ag2) (λL3=>jK 5 [21] [] (NS (jK 2 [6] [] (eN ⟨L3,by rw [show (cJ S af a)=((gZ S ok a.text.data.toList).2.1,(gZ S ok a.text.data.toList).2.2) by unfold cJ;rw [nw d5,fO];simp only;rw [t8 trivial,pu];simp only;unfold nJ;rw [nw d5];rw [nw d5];rw [nw d5];rw [nw d5];rw [nw d5];rw [nw d5];unfold oG;rw [gj];exact (nw nh).trans (nw nh)]<;>exact⟨rfl,rfl⟩⟩)))))))))))))))))))))))
  ·have vL:(ah S.O ok).kind=2:=hI.kind lZ
   exact ax.region (jK 5 [133,134] [(3,v_ 0 (eF L eH))] (mX 1 eH gj (NN (ax.block (SR (jK 3 [137,138] [] (NF (SR (jK 3 [140,141] [] (NT (SR (jK 1 [] [] (NS (jK 1 [6] [] (eN ⟨L,by rw [show (cJ S af a)=(172,S) by unfold cJ;rw [nw d5,fO];simp only;rw [t8 trivial,pu];simp only;unfold nJ;rw [nw d5];rw [nw d5];rw [nw d5];rw [nw d5];rw [nw d5];rw [nw d5];unfold oG;rw [gj];exact (nw nh).trans (t8 rfl)]<;>exact⟨rfl,rfl⟩⟩ [2,3,4,0,5,1,6])))))))))))))))
  have vL:(ah S.O ok).kind=3:=hI.kind lZ
  exact ax.region (jK 5 [133,134] [(3,v_ 0 (eF L eH))] (mX 1 eH gj (NN (ax.block (SR (jK 3 [137,138] [] (NT (SR (jK 1 [] [] (NS (jK 1 [6] [] (eN ⟨L,by rw [show (cJ S af a)=(174,S) by unfold cJ;rw [nw d5,fO];simp only;rw [t8 trivial,pu];simp only;unfold nJ;rw [nw d5];rw [nw d5];rw [nw d5];rw [nw d5];rw [nw d5];rw [nw d5];unfold oG;rw [gj];exact t8 rfl]<;>exact⟨rfl,rfl⟩⟩ [2,3,4,0,5,1,6]))))))))))))
 have bZ:(ah S.O tk).kind=3:=hI.kind cW
 exact ax.region (jK 5 [33,34] [(3,a_ 0 f)] (aE.ji 1 (d:=(some 35)) (t:=170) (K:=3) (E:=175) (b:=m) (n:=S.ay.length) (f:=(dg (dM L S.ay))) (x:=(.tmp 33)) (ix:=(.tmp 34)) (key:=vI (af)) (z:=.nilIface) (kl:=(.int .i64 af)) (r:=(some (jg L ⟨tk,3⟩))) (λ_=>d6) d6 (λ_=>d6) (λ_=>d6) ja Tryz.underlying170 (λ_=>d6) (mo hrw) (by rw [kx,fO];rfl) (jK 1 [7] [] (NZ (jK 2 [37] [] (NF (KX (SR (jK 7 [8,9] [] (NZ (jK 2 [44] [] (NT (zR ⟨L,by rw [show (cJ S af a)=(173,S) by unfold cJ;rw [nw d5,fO];simp only;exact nw nh]<;>exact⟨rfl,rfl⟩⟩)))))))))))))
end
section
open Go.RowKit Go.Maps bw aI
attribute [local irreducible] aE bH ax aF ct
theorem ae7 {β:Bs} (S:bg) (L:HL) (o q f m t am an km kn n:Nat) (Z:AZ) (fs:List cF) (xs:List cM) (af:Int) (hrw:(Lit.int .i64 af).wf=true) (hI:bC S) (hn:n<=8388608) (k:Int) (hk:iT fs ((n+1:Nat):Int)=k) (hZ:kW β Z xs) (hX:gy xs 1048576) (hg:iX β) (c:aN) (hC:qN β c) :
 aW Tryz.prog β 244 #[vP o,.agg ⟨bA c⟩] ([.aD o [.iface 138 (vP q),vP f,vI (af),.map (some am),vI (((n:Nat):Int))] 142,.aD q [.iface 56 (vP f),.map (some km),vI (((n:Nat):Int))] 140,.abs (bK Tryz.prog 3 am (kD Z xs) an)]++zA4 km fs kn f m t S L) (λv l=>∃L2,v=.agg ⟨bA (dZ k (jb af S (dh xs ((n+1:Nat):Int))) c).2⟩/\l=[.aD o [.iface 138 (vP q),vP f,vI (af),.map (some am),vI ((((n+1):Nat):Int))] 142,.aD q [.iface 56 (vP f),.map (some km),vI ((((n+1):Nat):Int))] 140,.abs (bK Tryz.prog 3 am (kD Z xs) an),.abs (bK Tryz.prog 3 km (ic fs) kn),pF f m t ((dZ k (jb af S (dh xs ((n+1:Nat):Int))) c).1.X),.abs (bK Tryz.prog 3 m (dg (dM L2 (dZ k (jb af S (dh xs ((n+1:Nat):Int))) c).1.ay)) ((dZ k (jb af S (dh xs ((n+1:Nat):Int))) c).1.ay.length)),pT t (dZ k (jb af S (dh xs ((n+1:Nat):Int))) c).1.X.cH ((dZ k (jb af S (dh xs ((n+1:Nat):Int))) c).1.aL) L2 ((dZ k (jb af S (dh xs ((n+1:Nat):Int))) c).1.us),pO ((dZ k (jb af S (dh xs ((n+1:Nat):Int))) c).1.O) L2,pD ((dZ k (jb af S (dh xs ((n+1:Nat):Int))) c).1.O) L2,pE ((dZ k (jb af S (dh xs ((n+1:Nat):Int))) c).1.O) L2]):=by
 obtain⟨ys,hys⟩:∃ys,dh xs ((n+1:Nat):Int)=ys:=⟨_,rfl⟩
 obtain⟨D7,has⟩:∃a,aA Z xs ((n+1:Nat):Int)=a:=⟨_,rfl⟩
 obtain⟨ac_,hac⟩:∃a,aC Z xs ((n+1:Nat):Int)=a:=⟨_,rfl⟩
 have hrow:=hZ ((n+1:Nat):Int)
 rw [hys,has] at hrow
 have hyb:∀{i},i<ys.length->EG (act ys i) 1048576:=λ{i} h=>hX.q _ (Uc (x:=((n+1:Nat):Int)) (by rw [hys];exact ah8 (y7 h)))
 have tf:ys.length<=1048576:=by rw [←hys];exact Pd (Jr _) hX.len
 rw [show dh xs ((n+1:Nat):Int)=ys from hys]
 obtain⟨SA,hSA⟩:∃SA,jb af S ys=SA:=⟨_,rfl⟩
 rw [hSA]
 refine SE Tryz.func244 Tryz.ntmps244 (λR=>SR (jB 1 [3] (λb1=>.aD b1 (bA c) 63) (λb1=>jB 1 [4] (λb2=>.aD b2 [vI 0,vI 0,vI 0,.string ⟨#[]⟩,.string ⟨#[]⟩,.slice none (0) (0),vI 0,vI 0,vI 0,vI 0,vI 0,vI 0,vI 0] 63) (λb2=>NS (jC 8 [] [(3,a_ 0 o),(4,wJ ((n:Int)+1) (↑(n+1))),(7,a_ 0 o)] [(0,[(4,vI ↑(n+1))])] (NN (ax.seq (ax.seq (rQ (jQ 8 [17,21] [(3,a_ 0 o),(7,a_ 0 o)] (bH.ji 2 (d:=(some 22)) (t:=131) (K:=3) (E:=30) (b:=am) (n:=an) (f:=(kD Z xs)) (x:=(.tmp 17)) (ix:=(.tmp 21)) (key:=vI ↑(n+1)) (z:=.slice none (0) (0)) (kl:=(.int .i64 ((n+1:Nat):Int))) (r:=(kD Z xs (.int .i64 ((n+1:Nat):Int)))) (λ_=>d6) d6 (λ_=>d6) (λ_=>d6) ja Tryz.underlying131 (λ_=>d6) (mo (WE d5)) (rfl) (bH.slot 22 (((kD Z xs (.int .i64 ((n+1:Nat):Int))).getD (.slice none 0 0))) (.slice D7 (ys.length) (ac_)) (λ_=>d6) (Ia.trans (by rw [hys,has,hac])) (jQ 2 [23,24] [] (NQ (NX (ax.block (lJ (ι:=Nat×bg×HL) (λ(i,S1,L1)=>(i<=ys.length)/\(S1=jb af S (ys.take i))/\(bC S1)) (λ(i,S1,L1)=>ys.length-i) (λ(i,S1,L1)=>[(0,vP o),(3,vP b1),(4,vP b2),(22,.slice D7 (ys.length) (ac_)),(23,vI ↑ys.length),(24,vI ↑i)]) (λ(i,S1,L1)=>[.aD o [.iface 138 (vP q),vP f,vI (af),.map (some am),vI ↑(n+1)] 142,.aD q [.iface 56 (vP f),.map (some km),vI ↑n] 140,.abs (bK Tryz.prog 3 am (kD Z xs) an),.abs (bK Tryz.prog 3 km (ic fs) kn),pC b1 c,zA1 b2,pF f m t S1.X,pI m L1 S1.ay,pT t S1.X.cH S1.aL L1 S1.us,pO S1.O L1,pD S1.O L1,pE S1.O L1,.abs R]) (0,S,L) [0,1,2,3,11,12,4,5,6,7,8,9,10] (⟨L4 _,rfl,hI⟩) ?_)))))))))))))))))
 rintro⟨i,S1,L1⟩ ⟨hi,hs1,dw⟩
 refine SR (jK 1 [25] [] (NN (ax.seq (cP ((((i:Nat):Int):Int)<(((ys.length:Nat):Int):Int)) (λqH=>KX (ax.seq (ax.block (SR (jN 4 [6] (λb3=>[(0,x_ i ys.length (M9 hrow (i:=i) d5)),(1,p_ ⟨[.old (.int .i64 ((act ys i).at_)),.old (.int .i64 ((act ys i).op)),.old (.string (act ys i).path),.old (.string (act ys i).to),.old (.string (act ys i).text)],none,none,none,none⟩ [(Rd β ⟨(cC D7),cq D7+i*5+4,none⟩ (.string (act ys i).text)),(Rd β ⟨(cC D7),cq D7+i*5+3,none⟩ (.string (act ys i).to)),(Rd β ⟨(cC D7),cq D7+i*5+2,none⟩ (.string (act ys i).path)),(Rd β ⟨(cC D7),cq D7+i*5+1,none⟩ (vI ((act ys i).op))),(Rd β ⟨(cC D7),cq D7+i*5,none⟩ (vI ((act ys i).at_)))] ⟨qA hrow (i:=i) d5 (j:=4) rfl,qA hrow (i:=i) d5 (j:=3) rfl,qA hrow (i:=i) d5 (j:=2) rfl,qA hrow (i:=i) d5 (j:=1) rfl,qA hrow (i:=i) d5 (j:=0) rfl,trivial⟩),(3,A_ 13 b3 5)]) (λ_=>[]) (λb3=>.aD b3 [vI ((act ys i).at_),vI ((act ys i).op),.string (act ys i).path,.string (act ys i).to,.string (act ys i).text] 133) (λb3=>NN (rM (List.range 10) 9 [0,13] (jR 9 [0,3,4,22,23,24,31,35,36] [(3,a_ 0 o),(7,a_ 0 o),(8,A_ 1 b3 5)] (ct.last rfl rfl (gX [6,7,8,9,10,11] (adm S1 L1 f m t dw af hrw (act ys i) (hyb d5).path (hyb d5).to (hyb d5).text hg) (λL2=>NL (aF.np (BX (ax.region (jK 2 [24] [(0,wJ ((i:Int)+1) (↑(i+1)))] (NL (tJ ((i+1),(cJ S1 af (act ys i)).2,L2) [6,7,8,9,10,11,0,1,2,3,4,5,12] (⟨d5,by rw [hs1];exact (Ud d5).symm,dw.cJ⟩)))))))))))))))))) (λqH=>XX (ax.seq (rM (List.range 7) 5 [0,4] (jR 5 [4,42,43] [(3,a_ 0 o),(4,A_ 1 b1 13)] (mL [8,10] [1,3,6,7,8,9,10,11] (ae6 S1 L1 q f m t km kn n fs dw hn k hk c hC) ?_ (by rintro _ _ ⟨L2,rfl,rfl⟩;rfl))))))))))
 rintro _ _ ⟨L2,rfl,rfl⟩
 refine ct.last rfl rfl (jC 1 [] [(0,A_ 11 b2 13)] [(11,(zC (bA ((dZ k S1 c).2))))] (NL (aF.np (NX (ax.ret ?_)))))
 have hs2:S1=SA:=by rw [hs1,show i=ys.length by omega,ahW];exact hSA
 subst hs2
 exact rT (.agg ⟨bA ((dZ k S1 c).2)⟩) [A_ 11 b2 13] [8,0,9,1,2,3,4,5,6,7,12] (⟨L2,rfl,rfl⟩)
end
section
open Go.RowKit Go.Maps bw aI
theorem Yn {β:Bs} (A:Option Addr) (c:Nat) (d:List UInt8) (hA:ck β A d) (hl:d.length<=1048576):bN Tryz.prog β 48 #[.slice A d.length c] [] (λβ' v l=>∃B cap,v=.slice B d.length cap/\l=[]/\ck β' B d/\d.length<=cap):=
 (MI A c d hA hl).mono (by rintro β' v l _ ⟨B,cap,rfl,rfl,h1,h2⟩;exact⟨B,cap,rfl,rfl,h1.at_,h2⟩)
theorem adn {β:Bs} (S:bg) (L:HL) (o q f m t am an km kn n:Nat) (Z:AZ) (fs:List cF) (xs:List cM) (af:Int) (hrw:(Lit.int .i64 af).wf=true) (hI:bC S) (hn:n<=8388608) (hZ:kW β Z xs) (hX:gy xs 1048576) (hg:iX β) (c:aN) (B:Option Addr) (p:Nat) {sH:Int} (ho:sH=if c.op=1 then af else c.other) (hC:qN β {fU B p c with other:=sH}) {S2:bg} {c2:aN} (hW:br fs xs af (n+1) S c=(S2,c2)) :
 aW Tryz.prog β 244 #[vP o,.agg ⟨bA {fU B p c with other:=sH}⟩] ([oB o q f af am n,qB q f km n,aM am an Z xs,kM km kn fs]++pA f m t L S) (λv l=>∃L2,v=.agg ⟨bA (fU B p c2)⟩/\l=[oB o q f af am (n+1),qB q f km (n+1),aM am an Z xs,kM km kn fs]++pA f m t L2 S2):=by
 have e:({fU B p c with other:=sH}:aN)=fU B p (bY af c):=by rw [Q6 ho];rfl
 rw [e] at hC ⊢
 have h:=ae7 S L o q f m t am an km kn n Z fs xs af hrw hI hn _ rfl hZ hX hg (fU B p (bY af c)) hC
 rw [LU] at h
 have hW:dZ (iT fs ((n+1:Nat):Int)) (jb af S (dh xs ((n+1:Nat):Int))) (bY af c)=(S2,c2):=hW
 rw [hW] at h
 exact h
end
section
open Go.RowKit Go.Maps bw aI
attribute [local irreducible] aE bH ax aF ct
theorem ado {β:Bs} (S:bg) (L:HL) (w o q f m t am an km kn:Nat) (Z:AZ) (fs:List cF) (xs:List cM) (af:Int) (tr:List aN) (tA:Option Addr) (tC:Nat) (hrw:(Lit.int .i64 af).wf=true) (hI:bC S) (hn:tr.length<=8388607) (hZ:kW β Z xs) (hX:gy xs 1048576) (hg:iX β) (c:aN) (hD:ck β c.dA c.data) (hl:c.data.length<=1048576) (hw:(Lit.int .i64 c.bD).wf=true) (how:(Lit.int .i64 c.other).wf=true) (hnm:c.name.size<=1048576) (tS:c.text.size<=1048576) (cA:mV c.op) {S2:bg} {c2:aN} (hW:br fs xs af (tr.length+1) S c=(S2,c2)) :
 bN Tryz.prog β 196 #[vP w,.agg ⟨bA c⟩] [.aD w [.iface 37 (vP w),vP f,.iface 137 (vP o),vI (af),.slice tA (tr.length) (tC)] 60,.aD o [.iface 138 (vP q),vP f,vI (af),.map (some am),vI (((tr.length:Nat):Int))] 142,.aD q [.iface 56 (vP f),.map (some km),vI (((tr.length:Nat):Int))] 140,.abs (bK Tryz.prog 3 am (kD Z xs) an),.abs (bK Tryz.prog 3 km (ic fs) kn),.abs (aK 63 13 tA tr.length tC (dL bA tr)),.aD f [vI (S.X.cN),vI (S.X.cB),vI (S.X.cH),vI (S.X.cS),vI (S.X.cZ),.map (some m),vP t,vI (S.X.last),vI (S.X.aq),vI (S.X.used)] 173,.abs (bK Tryz.prog 3 m (dg (dM L S.ay)) S.ay.length),.abs (ia 233 t S.X.cH S.aL (dM L S.us)),.abs (bp (fQ S.O L)),.abs (bp (eX S.O L)),.abs (bp (ig S.O L))] (λβ' v l=>∃B1 p1 B2 p2 A' k' L2,v=.agg ⟨bA (fU B2 p2 c2)⟩/\l=[.aD w [.iface 37 (vP w),vP f,.iface 137 (vP o),vI (af),.slice A' ((tr.length+1)) (k')] 60,.aD o [.iface 138 (vP q),vP f,vI (af),.map (some am),vI ((((tr.length+1):Nat):Int))] 142,.aD q [.iface 56 (vP f),.map (some km),vI ((((tr.length+1):Nat):Int))] 140,.abs (bK Tryz.prog 3 am (kD Z xs) an),.abs (bK Tryz.prog 3 km (ic fs) kn),.abs (aK 63 13 A' (tr.length+1) k' (dL bA (tr++[fU B1 p1 c2]))),.aD f [vI (S2.X.cN),vI (S2.X.cB),vI (S2.X.cH),vI (S2.X.cS),vI (S2.X.cZ),.map (some m),vP t,vI (S2.X.last),vI (S2.X.aq),vI (S2.X.used)] 173,.abs (bK Tryz.prog 3 m (dg (dM L2 S2.ay)) S2.ay.length),.abs (ia 233 t S2.X.cH S2.aL (dM L2 S2.us)),.abs (bp (fQ S2.O L2)),.abs (bp (eX S2.O L2)),.abs (bp (ig S2.O L2))]/\Fo β β' B1 c2.data/\ck β' B2 c2.data/\c2.data.length<=p2):=by
 have hd2:c2.data=c.data:=by have h:=Q5 (fs:=fs) (xs:=xs) (af:=af) (n:=tr.length+1) (S:=S) (c:=c);rw [hW] at h;exact h
 refine mK Tryz.func196 Tryz.ntmps196 (λaH R=>SR (jB 1 [3] (λb1=>.aD b1 (bA c) 63) (λb1=>jB 1 [4] (λb2=>.aD b2 [vI 0,vI 0,vI 0,.string ⟨#[]⟩,.string ⟨#[]⟩,.slice none (0) (0),vI 0,vI 0,vI 0,vI 0,vI 0,vI 0,vI 0] 63) (λb2=>NS (jK 2 [6] [(1,a_ 13 b1)] (iK [] (MI c.dA c.dC c.data hD hl) ?_))))))
 rintro vT _ _ fW ⟨B1,p1,rfl,rfl,G4,hp1⟩
 replace hD:=hD.le fW
 replace hZ:=hZ.le fW
 replace hg:=hg.le fW
 replace aH:=aH.trans fW
 refine jC 2 [] [(1,a_ 13 b1)] [(13,[(5,.slice B1 (c.data.length) (p1))])] (NN (ax.join (ι:=Int) (λ(sH:Int)=>(sH=if c.op=1 then af else c.other)/\((Lit.int .i64 sH).wf=true)) (λ(sH:Int)=>[(0,vP w),(3,vP b1),(4,vP b2)]) (λ(sH:Int)=>[.aD w [.iface 37 (vP w),vP f,.iface 137 (vP o),vI (af),.slice tA (tr.length) (tC)] 60,.aD o [.iface 138 (vP q),vP f,vI (af),.map (some am),vI ↑tr.length] 142,.aD q [.iface 56 (vP f),.map (some km),vI ↑tr.length] 140,.abs (bK Tryz.prog 3 am (kD Z xs) an),.abs (bK Tryz.prog 3 km (ic fs) kn),.abs (aK 63 13 tA tr.length tC (dL bA tr)),pF f m t S.X,pI m L S.ay,pT t S.X.cH S.aL L S.us,pO S.O L,pD S.O L,pE S.O L,.abs R,.aD b1 (bA (iJ {c with other:=sH} B1 p1)) 63,.aD b2 [vI 0,vI 0,vI 0,.string ⟨#[]⟩,.string ⟨#[]⟩,.slice none (0) (0),vI 0,vI 0,vI 0,vI 0,vI 0,vI 0,vI 0] 63]) ?_ (SR (jK 3 [11] [(1,a_ 13 b1)] (NN (cP ((c.op:Int)=(1:Int)) (λh11=>ax.region (jC 6 [] [(3,a_ 0 w),(5,a_ 13 b1)] [(13,[(2,vI (af))])] (NL (mJ af [0,1,2,3,4,5,6,7,8,9,10,11,12,13,14] (⟨(t8 h11).symm,hrw⟩))))) (λh11=>ax.skip (mJ c.other [0,1,2,3,4,5,6,7,8,9,10,11,12,13,14] (⟨(nw h11).symm,how⟩)))))))))
 rintro sH ⟨hoth,how⟩
 refine ax.seq (rM (List.range 7) 5 [0,13] (jR 5 [0,3,4,20,21] [(3,a_ 0 w),(4,A_ 1 b1 13)] (mL [10,13] [1,2,3,4,6,7,8,9,10,11] (adn (β:=vT) S L o q f m t am an km kn tr.length Z fs xs af hrw hI d5 hZ hX hg c B1 p1 hoth ⟨hw,how,hnm,tS,G4.at_,Pd hl d8,hp1,cA⟩ hW) ?_ (by rintro _ _ ⟨L2,rfl,rfl⟩;rfl))))
 rintro _ _ ⟨L2,rfl,rfl⟩
 refine ct.last rfl rfl (jC 1 [] [(0,A_ 13 b1 13)] [(13,(zC (bA (iJ c2 B1 p1))))] (NL (aF.np (NX (ax.seq (rM (List.range 11) 6 [10,13] (jR 6 [3,4,23,27,28] [(4,a_ 0 w),(5,A_ 1 b1 13)] (mN [10,13] (λb4=>[(29,.slice (some ⟨b4,0,none⟩) (1) (1))]) (λ_=>[]) (λb4=>.aD b4 (bA (iJ c2 B1 p1)) 63) (λb4=>ct.cut (ι:=(Option Addr)×Nat) (bQ:=λ((A5,c6):(Option Addr)×Nat)=>[(3,vP b1),(4,vP b2),(23,vP w),(30,.slice A5 ((tr.length+1)) (c6))]) (dz:=λ((A5,c6):(Option Addr)×Nat)=>[.aD o [.iface 138 (vP q),vP f,vI (af),.map (some am),vI ↑(tr.length+1)] 142,.aD q [.iface 56 (vP f),.map (some km),vI ↑(tr.length+1)] 140,.abs (bK Tryz.prog 3 am (kD Z xs) an),.abs (bK Tryz.prog 3 km (ic fs) kn),pF f m t S2.X,pI m L2 S2.ay,pT t S2.X.cH S2.aL L2 S2.us,pO S2.O L2,pD S2.O L2,pE S2.O L2,.aD w [.iface 37 (vP w),vP f,.iface 137 (vP o),vI (af),.slice tA (tr.length) (tC)] 60,.abs (aK 63 13 A5 (tr.length+1) c6 (dL bA (tr++[fU B1 p1 c2]))),.abs R,.aD b1 (bA (iJ c2 B1 p1)) 63,.aD b2 [vI 0,vI 0,vI 0,.string ⟨#[]⟩,.string ⟨#[]⟩,.slice none (0) (0),vI 0,vI 0,vI 0,vI 0,vI 0,vI 0,vI 0] 63,.aD b4 (bA (iJ c2 B1 p1)) 63]) [10,13] rfl rfl ?_ rfl (λ_=>d6) ?_)))))))))
 ·exact aE.append 11 (d:=(some 30)) (t:=58) (e:=63) (z:=.agg #[vI 0,vI 0,vI 0,.string ⟨#[]⟩,.string ⟨#[]⟩,.slice none (0) (0),vI 0,vI 0,vI 0,vI 0,vI 0,vI 0,vI 0]) (size:=13) (bytes:=136) (n:=tr.length) (cap:=tC) (A:=tA) (xs:=(dL bA tr)) (s:=(.tmp 27)) (x:=(.tmp 29)) (ats:=#[58,58]) (A':=some ⟨b4,0,none⟩) (m:=1) (c':=1) (news:=[vI (c2.op),vI (c2.bD),vI (c2.other),.string c2.name,.string c2.text,.slice B1 (c2.data.length) (p1),vI (c2.mode),vI (c2.cO),vI (c2.cQ),vI (c2.bJ),vI (c2.bh),vI (c2.code),vI (c2.answer)]) (λ_=>d6) rfl d6 (λ_=>d6) (λ_=>d6) Tryz.underlying58 d6 rfl d8 (rfl) (by simp [Value.oneCell']) (gi (j:=15) rfl) (by unfold maxLen;omega) d5 (λA5 c6=>aE.cT 11 (p':=.abs (aK 63 13 A5 (tr.length+1) c6 (dL bA (tr++[fU B1 p1 c2])))) rfl (zc (λx=>HP.abs (aK 63 13 _ _ _ x)) (Jv bA (fU B1 p1 c2) tr).symm) (sl 30 (.slice A5 (tr.length+1) (c6)) (.slice A5 ((tr.length+1)) (c6)) (rfl) (NL (MD (A5,c6) [3,4,23,30] [0,1,2,3,4,5,6,7,8,9,10,11,12,13,14,15]))))
 rintro⟨A5,c6⟩
 refine nC [10,13] [31] [] [] (nC [10,13] [32] [] [] (ct.last rfl rfl (jC 1 [] [(0,a_ 10 w)] [(10,[(4,.slice A5 ((tr.length+1)) (c6))])] (NL (aF.np (NX (SR (jK 2 [34] [(1,a_ 13 b1)] (iK [] (Yn B1 p1 c2.data (by rw [hd2];exact G4.at_) (by rw [hd2];exact hl)) ?_)))))))))
 rintro Ay _ _ d9 ⟨B2,p2,rfl,rfl,hB2,hp2⟩
 replace hD:=hD.le d9
 replace hZ:=hZ.le d9
 replace hg:=hg.le d9
 replace G4:=G4.le d9
 replace aH:=aH.trans d9
 exact jC 2 [] [(1,a_ 13 b1)] [(13,[(5,.slice B2 (c2.data.length) (p2))])] (NS (jC 2 [] [(0,A_ 13 b1 13),(1,A_ 14 b2 13)] [(14,(zC (bA (iJ c2 B2 p2))))] (eO (v:=(.agg ⟨bA (iJ c2 B2 p2)⟩)) [A_ 14 b2 13] aH ⟨B1,p1,B2,p2,A5,c6,L2,rfl,rfl,by rw [hd2];exact G4,hB2,hp2⟩ [10,0,1,2,3,11,4,5,6,7,8,9,12])))
end
section
open Go.RowKit Go.Maps bw aI
section d
variable {β:Bs} {fs:List cF} {xs:List cM} {af:Int} {S S2:bg} {V:WV} {tr:List aN} {c c2:aN} {G:WG}
theorem Yo (hrw:(Lit.int .i64 af).wf=true) (hI:bC S) (hn:tr.length<=8388607) (hZ:kW β G.Z xs) (hX:gy xs 1048576) (hg:iX β) (hD:ck β c.dA c.data) (hl:c.data.length<=1048576) (hw:(Lit.int .i64 c.bD).wf=true) (how:(Lit.int .i64 c.other).wf=true) (hnm:c.name.size<=1048576) (tS:c.text.size<=1048576) (cA:mV c.op) (hW:br fs xs af (tr.length+1) S c=(S2,c2)) :
 bN Tryz.prog β 196 #[vP G.w,.agg ⟨bA c⟩] [wA G fs xs af S V tr] (λβ' v l=>∃(V':WV) (B1:Option Addr) (p1:Nat) (B2:Option Addr) (p2:Nat),v=.agg ⟨bA (fU B2 p2 c2)⟩/\l=[wA G fs xs af S2 V' (tr++[fU B1 p1 c2])]/\ck β' B1 c2.data/\ck β' B2 c2.data/\c2.data.length<=p2):=
 (ado S V.L G.w G.o G.q G.f G.m G.t G.am G.an G.km G.kn G.Z fs xs af tr V.A V.c hrw hI hn hZ hX hg c hD hl hw how hnm tS cA hW).one.mono (by
  rintro β' v l _ ⟨l0,⟨B1,p1,B2,p2,A',k',L2,rfl,rfl,h1,h2,h3⟩,rfl⟩
  refine⟨⟨L2,A',k'⟩,B1,p1,B2,p2,rfl,?_,h1.at_,h2,h3⟩
  unfold wA wP tR
  rw [T3]
  rfl)
theorem MK:aW Tryz.prog β 16 #[vP G.w] [wA G fs xs af S V tr] (λv l=>v=.int .i64 (tr.length:Int)/\l=[wA G fs xs af S V tr]):=
 (Vg S V.L G.w G.o G.q G.f G.m G.t G.am G.an G.km G.kn G.Z fs xs af tr V.A V.c).one.mono (by rintro v l ⟨l0,⟨rfl,rfl⟩,rfl⟩;exact⟨rfl,rfl⟩)
theorem Qq:aW Tryz.prog β 17 #[vP G.w] [wA G fs xs af S V tr] (λv l=>v=.int .i64 (S.us.length:Int)/\l=[wA G fs xs af S V tr]):=
 (Yk S V.L G.w G.o G.q G.f G.m G.t G.am G.an G.km G.kn G.Z fs xs af tr V.A V.c).one.mono (by rintro v l ⟨l0,⟨rfl,rfl⟩,rfl⟩;exact⟨rfl,rfl⟩)
theorem abe:aW Tryz.prog β 20 #[vP G.w] [wA G fs xs af S V tr] (λv l=>v=.int .i64 S.aL/\l=[wA G fs xs af S V tr]):=
 (Yl S V.L G.w G.o G.q G.f G.m G.t G.am G.an G.km G.kn G.Z fs xs af tr V.A V.c).one.mono (by rintro v l ⟨l0,⟨rfl,rfl⟩,rfl⟩;exact⟨rfl,rfl⟩)
theorem Fs (hI:bC S):aW Tryz.prog β 19 #[vP G.w] [wA G fs xs af S V tr] (λv l=>∃A cp K,v=.agg #[.slice A (aV S).length cp]/\l=[wA G fs xs af S V tr]++KH A cp (aV S) K):=by
 intro R w hS
 have h1:aQ β ([.abs R]++[wA G fs xs af S V tr]) w:=aQ.turn hS
 refine (Vh S V.L G.w G.o G.q G.f G.m G.t G.am G.an G.km G.kn G.Z fs xs af tr V.A V.c hI R w (aQ.turn (aQ.rP h1))).mono ?_
 rintro e w' ⟨v,l,h2,⟨A,cp,K,h3,rfl⟩,h4⟩
 refine⟨v,_,h2,⟨A,cp,K,h3,rfl⟩,?_⟩
 rw [ah1] at h4
 have h5:=(aQ.turn h4).gq
 rw [ah1] at h5 ⊢
 exact aQ.turn h5
theorem Vi (hI:bC S):bN Tryz.prog β 19 #[vP G.w] [wA G fs xs af S V tr] (λβ' v l=>∃A cp K,v=.agg #[.slice A (aV S).length cp]/\l=[wA G fs xs af S V tr]/\aO β' A (aV S) K):=
 (Fs hI).ach (by
  rintro v l ⟨A,cp,K,rfl,rfl⟩
  exact⟨_,_,rfl,λβ' h=>⟨A,cp,K,rfl,rfl,h.graph⟩⟩)
theorem adp {ns:List aP} {Y:fk} {X:FM} (A:Option Addr) (cp:Nat) (hG:aO β A ns Y) (hB:kq ns 1048576) {Af Aa:Option Addr} (cf ca:Nat) (hF:cE β Af (dL jr fs)) (oM:lI fs 2097152) (hA:cE β Aa (dL kg xs)) (gA:gy xs 1048576) :
 bN Tryz.prog β 26 #[.agg #[.slice A ns.length cp],.int .i64 af,.agg #[.int .i64 X.cN,.int .i64 X.cB,.int .i64 X.cH,.int .i64 X.cS,.int .i64 X.cZ],.agg #[.slice Af fs.length cf,.slice Aa xs.length ca]] [] (λβ' v l=>(fL X ns af≠0/\v=.tuple #[.pointer none,.int .i64 (fL X ns af)]/\l=[])\/(fL X ns af=0/\∃(N:DN X ns) (G:WG) (V:WV),v=.tuple #[vP G.w,.int .i64 0]/\l=[wA G fs xs af N.1 V []]/\abb β β' G.Z xs)):=
 ((abd A cp ns Y hG hB X af Af cf fs hF oM Aa ca xs hA gA).aec (by
   rintro β' v l (⟨h1,h2,rfl⟩|⟨h1,N,L,w,o,q,f,m,t,am,an,km,kn,Z,h2,rfl,h3⟩)
   ·exact .inl ⟨rfl,.inl ⟨h1,h2,rfl⟩⟩
   exact .inr (.inr ⟨h1,N,⟨w,o,q,am,km,an,kn,f,m,t,Z⟩,⟨L,none,0⟩,h2,rfl,h3⟩)))
end d
section n
variable {β:Bs} {X:FM} {ns:List aP} {Y:fk} {fs:List cF} {xs:List cM} {Af Aa:Option Addr} {af:Int}
theorem Yp (h0:¬fL X ns af=0) (A:Option Addr) (c:Nat) (hG:aO β A ns Y) (hB:kq ns 1048576) (cf:Nat) (hF:cE β Af (dL jr fs)) (oM:lI fs 2097152) (ca:Nat) (hA:cE β Aa (dL kg xs)) (gA:gy xs 1048576) :
 bN Tryz.prog β 7 #[.agg #[.slice A ns.length c],.int .i64 af,.agg #[.int .i64 X.cN,.int .i64 X.cB,.int .i64 X.cH,.int .i64 X.cS,.int .i64 X.cZ],.agg #[.slice Af fs.length cf,.slice Aa xs.length ca]] [] (λ_ v l=>v=.tuple #[.agg ⟨rZ++[.int .i64 0,.slice none 0 0,.slice none 0 0,.int .i64 0]⟩,.int .i64 (fL X ns af)]/\l=[]):=
 (Tb A c hG hB af cf hF oM ca hA gA).mono (by
  rintro β' v l _ (⟨_,h1,h2⟩|⟨h,_⟩)
  ·exact⟨h1,h2⟩
  exact KB h h0)
theorem Yq (h0:fL X ns af=0) (N:DN X ns) (A:Option Addr) (c:Nat) (hG:aO β A ns Y) (hB:kq ns 1048576) (cf:Nat) (hF:cE β Af (dL jr fs)) (oM:lI fs 2097152) (ca:Nat) (hA:cE β Aa (dL kg xs)) (gA:gy xs 1048576) :
 bN Tryz.prog β 7 #[.agg #[.slice A ns.length c],.int .i64 af,.agg #[.int .i64 X.cN,.int .i64 X.cB,.int .i64 X.cH,.int .i64 X.cS,.int .i64 X.cZ],.agg #[.slice Af fs.length cf,.slice Aa xs.length ca]] [] (λβ' v l=>∃Y' U,v=.tuple #[.agg ⟨uV (toR N.1 []) Y' af U fs.length xs.length 0⟩,.int .i64 0]/\l=[]/\dP β' (toR N.1 []) Y'/\CS β' U fs xs):=by
 refine (Tb A c hG hB af cf hF oM ca hA gA).mono ?_
 rintro β' v l _ (⟨h,_⟩|⟨_,B,cp,K,U,rfl,rfl,h1,h2⟩)
 ·exact KB h0 h
 have e:=(MG N.2 (Fm h0).2).2
 rw [e]
 refine⟨⟨B,cp,K,none,0,none,0,none,0⟩,U,?_,rfl,⟨⟨cE.nil,cE.nil,cE.nil⟩,h1⟩,h2⟩
 have hl:(if ns.length=0 then 0 else (nd ns (ns.length-1)).id)=qI ns ns.length:=by cases ns.length<;>rfl
 rw [hl]
 rfl
end n
end
section
open Go.RowKit Go.Maps bw aI
attribute [local irreducible] aE bH ax aF ct
theorem Fu {β:Bs} {S S2:bg} {g:List Int} {c2:aN} (hg:Pair S g) (Y:RL) (hY:dP β (toR S g) Y) (af:Int) (U:UL) (fs:List cF) (xs:List cM) (k:Nat) (hk:k<=8388600) (hU:CS β U fs xs) (hfl:fs.length<=2097152) (hX:gy xs 1048576) (h:Int) (hD:br fs xs af (k+1) S (gS h)=(S2,c2)) :
 bN Tryz.prog β 41 #[.agg ⟨uV (toR S g) Y af U fs.length xs.length ((k:Nat):Int)⟩,vI (h)] [] (λβ' v l=>∃g' Y',v=.tuple #[.agg ⟨uV (toR S2 g') Y' af U fs.length xs.length (((k+1):Nat):Int)⟩,vI c2.code]/\l=[]/\Pair S2 g'/\dP β' (toR S2 g') Y'):=by
 refine mK Tryz.func41 Tryz.ntmps41 (λaH R=>SR (jB 1 [2] (λb1=>.aD b1 (uV (toR S g) Y af U fs.length xs.length (↑k)) 47) (λb1=>jB 2 [4] (λb2=>.aD b2 (uZ) 47) (λb2=>NS (jK 3 [9,11] [(0,A_ 1 b1 16)] (iK [] (AJ (β:=β) (S:=S) (g:=g) hg Y hY af U fs xs k d5 hU.f hfl hU.x hX hD (.inr (.inr (.inr rfl))) (L4 _) (λj v h=>by cases h) (L4 _) (N6 _)) ?_))))))
 rintro vT _ _ fW ⟨g2,Y2,B2,p2,rfl,rfl,hg2,Tc,_⟩
 replace hY:=hY.le fW
 replace hU:=hU.le fW
 replace aH:=aH.trans fW
 exact jB 4 [6,13,14] (λb4=>.aD b4 (uZ) 47) (λb4=>jN 3 [7] (λb5=>[(1,A_ 3 b4 16),(2,A_ 4 b5 13)]) (λb5=>[(3,(zC (uV (toR S2 g2) Y2 af U fs.length xs.length (↑(k+1)))))]) (λb5=>.aD b5 (bA (iJ c2 B2 p2)) 63) (λb5=>NN (ax.seq (rM (List.range 5) 3 [3,4] (jR 3 [4,15,17] [(0,A_ 0 b4 16),(2,a_ 1 b5)] (nC [3,4] [] [(0,A_ 2 b2 16)] [(2,(zC (uV (toR S2 g2) Y2 af U fs.length xs.length (↑(k+1)))))] (ct.last rfl rfl (jK 1 [5] [] (NL (aF.np (NX (ax.ret (rB (.tuple #[.agg ⟨uV (toR S2 g2) Y2 af U fs.length xs.length (↑(k+1))⟩,vI (c2.code)]) [A_ 2 b2 16] [0] aH (⟨g2,Y2,rfl,rfl,hg2,Tc⟩))))))))))))))
theorem abf {β:Bs} {S:bg} {g:List Int} (hg:Pair S g) (Y:RL) (hY:dP β (toR S g) Y) (af:Int) (U:UL) (fs:List cF) (xs:List cM) (k:Nat) (hk:k+3<=8388600) (hU:CS β U fs xs) (hfl:fs.length<=2097152) (hX:gy xs 1048576) (cur:Int) (part:ByteArray) (hnm:part.size<=1048576) (mode:Int) {r:JC} (hr:dI fs xs af S k cur part mode=r) :
 bN Tryz.prog β 40 #[.agg ⟨uV (toR S g) Y af U fs.length xs.length ((k:Nat):Int)⟩,vI (cur),.string part,vI (mode)] [] (λβ' v l=>∃ans mk g' Y',v=.tuple #[.agg ⟨uV (toR r.S g') Y' af U fs.length xs.length ((r.n:Nat):Int)⟩,vI ans,vI mk,vI r.code]/\l=[]/\(r.code=0->ans=r.next)/\mk=(if r.made=true then 1 else 0)/\Pair r.S g'/\dP β' (toR r.S g') Y'):=by
 refine mK Tryz.func40 Tryz.ntmps40 (λaH R=>SR (jB 1 [4] (λb13=>.aD b13 (uV (toR S g) Y af U fs.length xs.length (↑k)) 47) (λb13=>jB 4 [8] (λb14=>.aD b14 (uZ) 47) (λb14=>NS (jK 4 [17,20] [(0,A_ 1 b13 16)] ?_)))))
 obtain⟨S1,c1,e1⟩:∃Sx cx,br fs xs af (k+1) S (jL cur part)=(Sx,cx):=⟨_,_,rfl⟩
 refine iK [] (AJ (β:=β) (S:=S) (g:=g) hg Y hY af U fs xs k d5 hU.f hfl hU.x hX e1 (.inr (.inl rfl)) hnm (λj v h=>by cases h) (L4 _) (N6 _)) ?_
 rintro Ch _ _ iV ⟨g1,Y1,B1,p1,rfl,rfl,hg1,Td,_⟩
 replace hY:=hY.le iV
 replace hU:=hU.le iV
 replace aH:=aH.trans iV
 refine jN 6 [12] (λb16=>[(4,A_ 1 b13 16),(5,A_ 3 b16 13)]) (λb16=>[(1,[(0,.slice Y1.A ((toR S1 g1).ns.length) (Y1.c)),(1,.slice Y1.G ((toR S1 g1).aJ.length) (Y1.cg)),(2,vI ((toR S1 g1).cH)),(3,vI ((toR S1 g1).aL)),(4,.slice Y1.H ((toR S1 g1).us.length) (Y1.ch)),(5,.slice Y1.V ((toR S1 g1).us.length) (Y1.cv)),(6,vI ((toR S1 g1).cN)),(7,vI ((toR S1 g1).cB)),(8,vI ((toR S1 g1).cH)),(9,vI ((toR S1 g1).cS)),(10,vI ((toR S1 g1).cZ)),(11,vI ((toR S1 g1).last)),(15,vI ↑(k+1))])]) (λb16=>.aD b16 (bA (iJ c1 B1 p1)) 63) (λb16=>NN (ax.seq (ax.join (ι:=Bool) (λ(Te:Bool)=>(Te=decide (¬c1.code=170\/mode<0))) (λ(Te:Bool)=>[(1,vI (cur)),(2,.string part),(3,vI (mode)),(4,vP b13),(8,vP b14),(12,vP b16),(30,.bool Te)]) (λ(Te:Bool)=>[.abs R,.aD b13 (uV (toR S1 g1) Y1 af U fs.length xs.length (↑(k+1))) 47,.aD b14 (uZ) 47,.aD b16 (bA (iJ c1 B1 p1)) 63]) ?_ (ax.region (jK 4 [27] [(1,a_ 3 b16)] (sN 27 ((c1.code:Int)=(170:Int)) (λyB=>jK 3 [30] [] (NL (mJ true [0,1,2,3] ((ahO d5).symm)))) (λyB=>jK 3 [30] [] (NL (mJ ((decide ((mode:Int)<(0:Int)))) [0,1,2,3] ((T8.2 ⟨λh=>d5,λh=>d5⟩)))))))))))
 rintro Te hq1
 refine ax.cond (b:=Te) (λ_=>d6) (λrA=>?_) (λrA=>?_)
 ·refine ax.seq (rM (List.range 9) 5 [1,3] (jR 5 [8,31,33,35] [(0,A_ 0 b13 16),(2,a_ 1 b16),(4,a_ 1 b16)] (nC [1,3] [] [(0,A_ 2 b14 16)] [(2,(zC (uV (toR S1 g1) Y1 af U fs.length xs.length (↑(k+1)))))] (nC [1,3] [9] [] [] (nC [1,3] [10] [] [] (ct.last rfl rfl (jK 1 [11] [] (NL (aF.np (NX (ax.ret (aF.bq ?_))))))))))))
  obtain⟨nx,hs,hx⟩:=aeh (mode:=mode) e1 (aij (hq1.symm.trans rA))
  rw [hs] at hr
  subst hr
  exact rB (.tuple #[.agg ⟨uV (toR S1 g1) Y1 af U fs.length xs.length (↑(k+1))⟩,vI (c1.answer),vI 0,vI (c1.code)]) [A_ 2 b14 16] [0] aH (⟨c1.answer,0,g1,Y1,rfl,rfl,hx,rfl,hg1,Td⟩)
 have hn1:=of_decide_eq_false (hq1.symm.trans rA)
 refine KX (SR (jK 5 [37,41] [(0,A_ 1 b13 16)] ?_))
 obtain⟨S2,c2,e2⟩:∃Sx cx,br fs xs af (k+2) S1 (Bz cur part mode)=(Sx,cx):=⟨_,_,rfl⟩
 refine iK [] (AJ (β:=Ch) (S:=S1) (g:=g1) hg1 Y1 Td af U fs xs (k+1) d5 hU.f hfl hU.x hX e2 (.inr (.inr (.inl rfl))) hnm (λj v h=>by cases h) (L4 _) (N6 _)) ?_
 rintro UW _ _ mY ⟨g2,Y2,B2,p2,rfl,rfl,hg2,Tc,_⟩
 replace hY:=hY.le mY
 replace hU:=hU.le mY
 replace Td:=Td.le mY
 replace aH:=aH.trans mY
 refine jN 6 [13] (λb18=>[(4,A_ 1 b13 16),(5,A_ 4 b18 13)]) (λb18=>[(1,[(0,.slice Y2.A ((toR S2 g2).ns.length) (Y2.c)),(1,.slice Y2.G ((toR S2 g2).aJ.length) (Y2.cg)),(2,vI ((toR S2 g2).cH)),(3,vI ((toR S2 g2).aL)),(4,.slice Y2.H ((toR S2 g2).us.length) (Y2.ch)),(5,.slice Y2.V ((toR S2 g2).us.length) (Y2.cv)),(6,vI ((toR S2 g2).cN)),(7,vI ((toR S2 g2).cB)),(8,vI ((toR S2 g2).cH)),(9,vI ((toR S2 g2).cS)),(10,vI ((toR S2 g2).cZ)),(11,vI ((toR S2 g2).last)),(15,vI ↑((k+1)+1))])]) (λb18=>.aD b18 (bA (iJ c2 B2 p2)) 63) (λb18=>NN (ax.seq (ax.join (ι:=Bool) (λ(Tf:Bool)=>(Tf=decide (¬c2.code=0/\¬c2.code=171))) (λ(Tf:Bool)=>[(1,vI (cur)),(2,.string part),(4,vP b13),(8,vP b14),(13,vP b18),(52,.bool Tf)]) (λ(Tf:Bool)=>[.abs R,.aD b13 (uV (toR S2 g2) Y2 af U fs.length xs.length (↑((k+1)+1))) 47,.aD b14 (uZ) 47,.aD b16 (bA (iJ c1 B1 p1)) 63,.aD b18 (bA (iJ c2 B2 p2)) 63]) ?_ (ax.region (jK 4 [48] [(1,a_ 4 b18)] (sN 48 ((c2.code:Int)=(0:Int)) (λh48=>jK 4 [52] [(1,a_ 4 b18)] (NL (mJ ((!(decide ((c2.code:Int)=(171:Int))))) [0,1,2,3,4] ((by simp [h48]))))) (λh48=>jK 4 [52] [] (NL (mJ false [0,1,2,3,4] ((Lk d5).symm))))))))))
 rintro Tf CJ
 refine ax.cond (b:=Tf) (λ_=>d6) (λuL=>?_) (λuL=>?_)
 ·refine ax.seq (rM (List.range 7) 3 [1,4] (jR 3 [8,53,55] [(0,A_ 0 b13 16),(2,a_ 1 b18)] (nC [1,4] [] [(0,A_ 2 b14 16)] [(2,(zC (uV (toR S2 g2) Y2 af U fs.length xs.length (↑((k+1)+1)))))] (nC [1,4] [9] [] [] (nC [1,4] [10] [] [] (ct.last rfl rfl (jK 1 [11] [] (NL (aF.np (NX (ax.ret (aF.bq ?_))))))))))))
  rw [aei e1 hn1 e2 (aij (CJ.symm.trans uL))] at hr
  subst hr
  exact rB (.tuple #[.agg ⟨uV (toR S2 g2) Y2 af U fs.length xs.length (↑((k+1)+1))⟩,vI 0,vI 0,vI (c2.code)]) [A_ 2 b14 16] [0] aH (⟨0,0,g2,Y2,rfl,rfl,λ_=>rfl,rfl,hg2,Tc⟩)
 have hn2:=of_decide_eq_false (CJ.symm.trans uL)
 refine KX (SR (jK 1 [14] [] (NN (ax.join (ι:=Int) (λ(m2:Int)=>((if c2.code=0 then 1 else 0)=m2)) (λ(m2:Int)=>[(1,vI (cur)),(2,.string part),(4,vP b13),(8,vP b14),(14,vI (m2))]) (λ(m2:Int)=>[.abs R,.aD b13 (uV (toR S2 g2) Y2 af U fs.length xs.length (↑((k+1)+1))) 47,.aD b14 (uZ) 47,.aD b16 (bA (iJ c1 B1 p1)) 63,.aD b18 (bA (iJ c2 B2 p2)) 63]) ?_ (SR (jK 3 [58] [(1,a_ 4 b18)] (NN (cP ((c2.code:Int)=(0:Int)) (λXY=>ax.region (jK 1 [14] [] (NL (mJ 1 [0,1,2,3,4] (t8 XY))))) (λXY=>ax.skip (mJ 0 [0,1,2,3,4] (nw XY)))))))))))
 rintro m2 hm2
 refine SR (jK 4 [60,63] [(0,A_ 1 b13 16)] ?_)
 obtain⟨S3,c3,e3⟩:∃Sx cx,br fs xs af (k+3) S2 (jL cur part)=(Sx,cx):=⟨_,_,rfl⟩
 refine iK [] (AJ (β:=UW) (S:=S2) (g:=g2) hg2 Y2 Tc af U fs xs (k+2) d5 hU.f hfl hU.x hX e3 (.inr (.inl rfl)) hnm (λj v h=>by cases h) (L4 _) (N6 _)) ?_
 rintro aa5 _ _ lf ⟨g3,Y3,B3,p3,rfl,rfl,hg3,hY3,_⟩
 replace hY:=hY.le lf
 replace hU:=hU.le lf
 replace Td:=Td.le lf
 replace Tc:=Tc.le lf
 replace aH:=aH.trans lf
 refine jN 6 [15] (λb20=>[(4,A_ 1 b13 16),(5,A_ 5 b20 13)]) (λb20=>[(1,[(0,.slice Y3.A ((toR S3 g3).ns.length) (Y3.c)),(1,.slice Y3.G ((toR S3 g3).aJ.length) (Y3.cg)),(2,vI ((toR S3 g3).cH)),(3,vI ((toR S3 g3).aL)),(4,.slice Y3.H ((toR S3 g3).us.length) (Y3.ch)),(5,.slice Y3.V ((toR S3 g3).us.length) (Y3.cv)),(6,vI ((toR S3 g3).cN)),(7,vI ((toR S3 g3).cB)),(8,vI ((toR S3 g3).cH)),(9,vI ((toR S3 g3).cS)),(10,vI ((toR S3 g3).cZ)),(11,vI ((toR S3 g3).last)),(15,vI ↑((k+2)+1))])]) (λb20=>.aD b20 (bA (iJ c3 B3 p3)) 63) (λb20=>NN (ax.seq (rM (List.range 10) 6 [1,5] (jR 6 [8,67,69,70,72] [(0,A_ 0 b13 16),(2,a_ 1 b20),(5,a_ 1 b20)] (nC [1,5] [] [(0,A_ 2 b14 16)] [(2,(zC (uV (toR S3 g3) Y3 af U fs.length xs.length (↑((k+2)+1)))))] (nC [1,5] [9] [] [] (nC [1,5] [10] [] [] (ct.last rfl rfl (jK 1 [11] [] (NL (aF.np (NX (ax.ret ?_)))))))))))))
 obtain⟨nx,hs,hx⟩:=aej e1 hn1 e2 hn2 e3
 rw [hs] at hr
 subst hr
 exact rB (.tuple #[.agg ⟨uV (toR S3 g3) Y3 af U fs.length xs.length (↑((k+2)+1))⟩,vI (c3.answer),vI (m2),vI (c3.code)]) [A_ 2 b14 16] [0] aH (⟨c3.answer,m2,g3,Y3,rfl,rfl,hx,(by rw [←hm2];simp),hg3,hY3⟩)
theorem Yr {β:Bs} {S:bg} {g:List Int} (hg:Pair S g) (Y:RL) (hY:dP β (toR S g) Y) (af:Int) (U:UL) (fs:List cF) (xs:List cM) (k:Nat) (hk:k+3<=8388600) (hU:CS β U fs xs) (hfl:fs.length<=2097152) (hX:gy xs 1048576) (cur:Int) (part:ByteArray) (hnm:part.size<=1048576) (mode:Int) {r:JC} (hr:dI fs xs af S k cur part mode=r) :
 aW Tryz.prog β 40 #[.agg ⟨uV (toR S g) Y af U fs.length xs.length ((k:Nat):Int)⟩,vI (cur),.string part,vI (mode)] [] (λv l=>∃ans mk g' Y',v=.tuple #[.agg ⟨uV (toR r.S g') Y' af U fs.length xs.length ((r.n:Nat):Int)⟩,vI ans,vI mk,vI r.code]/\l=[.abs (jl β (λβ'=>(r.code=0->ans=r.next)/\mk=(if r.made=true then 1 else 0)/\Pair r.S g'/\dP β' (toR r.S g') Y'))]):=
 (bN.GD (ι:=Int×Int×List Int×RL) (vv:=λx=>.tuple #[.agg ⟨uV (toR r.S x.2.2.1) x.2.2.2 af U fs.length xs.length ((r.n:Nat):Int)⟩,vI x.1,vI x.2.1,vI r.code]) (ll:=λ_=>[]) (Φ:=λx β'=>(r.code=0->x.1=r.next)/\x.2.1=(if r.made=true then 1 else 0)/\Pair r.S x.2.2.1/\dP β' (toR r.S x.2.2.1) x.2.2.2)
  ((abf hg Y hY af U fs xs k hk hU hfl hX cur part hnm mode hr).mono (by rintro β' v l _ ⟨ans,mk,g',Y',h1,h2,h3⟩;exact⟨(ans,mk,g',Y'),h1,h2,h3⟩))).mono (by rintro v l ⟨x,h1,h2⟩;exact⟨x.1,x.2.1,x.2.2.1,x.2.2.2,h1,h2⟩)
end
section
open Go.RowKit Go.Maps bw aI
attribute [local irreducible] aE bH ax aF eu ct lK
theorem abg {β:Bs} {S0:bg} {g0:List Int} (hg0:Pair S0 g0) (Y0:RL) (hY0:dP β (toR S0 g0) Y0) (af:Int) (U:UL) (fs:List cF) (xs:List cM) (k0:Nat) {np:Nat} (hk:k0+4*np+4<=8388600) (hU:CS β U fs xs) (hfl:fs.length<=2097152) (hX:gy xs 1048576) (h:Int) (A:Option Addr) (pJ:Nat) (ps:List ByteArray) (hP:fF β A ps) (hpl:ps.length=np) (aB:∀i,i<ps.length->(pc ps i).size<=1048576) (mode:Int) {r:L9} (hr:jt fs xs af mode ps 0 S0 k0 h false 0=r) :
 bN Tryz.prog β 13 #[.agg ⟨uV (toR S0 g0) Y0 af U fs.length xs.length ((k0:Nat):Int)⟩,vI (h),.slice A (ps.length) (pJ),vI (mode)] [] (λβ' v l=>∃g' Y',v=.tuple #[.agg ⟨uV (toR r.S g') Y' af U fs.length xs.length ((r.n:Nat):Int)⟩,.agg #[vI r.cur,.bool r.own,vI r.made,vI r.code,vI r.at_]]/\l=[]/\Pair r.S g'/\dP β' (toR r.S g') Y'):=by
 refine mK Tryz.func13 Tryz.ntmps13 (λaH R=>SR (jB 1 [4] (λb1=>.aD b1 (uV (toR S0 g0) Y0 af U fs.length xs.length (↑k0)) 47) (λb1=>jB 1 [8] (λb2=>.aD b2 (uZ) 47) (λb2=>jB 1 [9] (λb3=>.aD b3 [vI 0,.bool false,vI 0,vI 0,vI 0] 78) (λb3=>NS (jN 4 [10] (λb4=>[(3,A_ 4 b4 5)]) (λ_=>[]) (λb4=>.aD b4 [vI (h),.bool false,vI 0,vI 0,vI 0] 78) (λb4=>NZ (jK 1 [11] [] (NN (ax.block (lB (ι:=Nat×Bs×bg×(List Int)×RL×Nat×Int×Bool×Int) (λ(i,b,S,g,Y,k,cur,own,made)=>b) (λ(i,b,S,g,Y,k,cur,own,made)=>(i<=ps.length)/\(β.le b)/\(fF b A ps)/\(CS b U fs xs)/\(Pair S g)/\(dP b (toR S g) Y)/\(k<=k0+4*i)/\(0<=made/\made<=i)/\(jt fs xs af mode (ps.drop i) (i:Int) S k cur own made=r)) (λ(i,b,S,g,Y,k,cur,own,made)=>ps.length-i) (λ(i,b,S,g,Y,k,cur,own,made)=>[(2,.slice A (ps.length) (pJ)),(3,vI (mode)),(4,vP b1),(8,vP b2),(9,vP b3),(10,vP b4),(11,vI ↑i)]) (λ(i,b,S,g,Y,k,cur,own,made)=>[.aD b1 (uV (toR S g) Y af U fs.length xs.length (↑k)) 47,.aD b2 (uZ) 47,.aD b3 [vI 0,.bool false,vI 0,vI 0,vI 0] 78,.aD b4 [vI (cur),.bool own,vI (made),vI 0,vI 0] 78,.abs R]) (0,β,S0,g0,Y0,k0,h,false,0) [1,2,3,4,0] (⟨L4 _,aH,hP,hU,hg0,hY0,d5,d5,hr⟩) ?_)))))))))))
 rintro⟨i,b,S,g,Y,k,cur,own,made⟩ ⟨hi,aH,hP,hU,hg,hY,hn,hm,hr⟩
 obtain⟨a,ha⟩:∃a,dI fs xs af S k cur (pc ps i) mode=a:=⟨_,rfl⟩
 refine SQ (jK 4 [21] [] (NN (cP ((((i:Nat):Int):Int)<(((ps.length:Nat):Int):Int)) (λyE=>?_) (λyE=>?_))))
 ·refine KX (ax.seq (ax.block (ax.seq (ax.o7 (S:=[.aD b1 (uV (toR S g) Y af U fs.length xs.length (↑k)) 47,.aD b4 [vI (cur),.bool own,vI (made),vI 0,vI 0] 78]) (uR [0,1,2,3,4,5,6,7] (oJ 14 [(false,15),(false,16),(false,17),(false,18)] [(false,8),(true,9),(true,10),(true,11),(true,12),(true,13)])) [0,3] (gT (oJ 14 [(false,15),(false,16),(false,17),(false,18)] [(false,8),(true,9),(true,10),(true,11),(true,12),(true,13)]) [(2,.slice A (ps.length) (pJ)),(3,vI (mode)),(4,vP b1),(8,vP b2),(9,vP b3),(10,vP b4),(11,vI ↑i),(25,.agg ⟨uV (toR S g) Y af U fs.length xs.length (↑k)⟩),(27,vI (cur)),(31,.string (pc ps i)),(32,vI (mode))] [0,1,2,3,4,5,6,7] [(0,A_ 0 b1 16),(2,a_ 1 b4),(5,x_ i ps.length (fF.hd hP (j:=i) d5)),(6,p_ ⟨[.old (.string (pc ps i))],none,none,none,none⟩ [(Rd b ⟨(cC A),cq A+i*1,none⟩ (.string (pc ps i)))] ⟨fF.rd hP d5,trivial⟩)] (lK.one (j:=14) (dj:=12) (R:=λf_ l_=>∃ans:Int,∃mk:Int,∃ga:List Int,∃Ya:RL,f_=[(37,vI (a.code)),(36,vI (mk)),(35,vI (ans)),(34,.agg ⟨uV (toR a.S ga) Ya af U fs.length xs.length (↑a.n)⟩),(24,.tuple #[.agg ⟨uV (toR a.S ga) Ya af U fs.length xs.length (↑a.n)⟩,vI (ans),vI (mk),vI (a.code)]),(33,.tuple #[.agg ⟨uV (toR a.S ga) Ya af U fs.length xs.length (↑a.n)⟩,vI (ans),vI (mk),vI (a.code)]),(2,.slice A (ps.length) (pJ)),(3,vI (mode)),(4,vP b1),(8,vP b2),(9,vP b3),(10,vP b4),(11,vI ↑i),(25,.agg ⟨uV (toR S g) Y af U fs.length xs.length (↑k)⟩),(27,vI (cur)),(31,.string (pc ps i)),(32,vI (mode))]/\l_=[.abs (jl b (λβ'=>(a.code=0->ans=a.next)/\mk=(if a.made=true then 1 else 0)/\Pair a.S ga/\dP β' (toR a.S ga) Ya))]) [0,3] [(false,8,33),(true,9,24),(true,10,34),(true,11,35),(true,12,36),(true,13,37)] (gJ.of (ι:=Nat) (v:=λ(b5:Nat)=>vP b5) (l:=λ(b5:Nat)=>[.aD b5 (uZ) 47]) [33,24,34,35,36,37] rfl rfl rfl rfl ?_) ?_ ?_))))))
  ·intro u Aq
   exact jB 1 [12] (λb5=>.aD b5 (uZ) 47) (λb5=>NL (MD b5 [12,33,24,34,35,36,37,2,3,4,8,9,10,11,25,27,31,32] [1,0]))
  ·refine dO.step (gJ.of (ι:=Int×Int×(List Int)×RL) (v:=λ((ans,mk,ga,Ya):Int×Int×(List Int)×RL)=>.tuple #[.agg ⟨uV (toR a.S ga) Ya af U fs.length xs.length (↑a.n)⟩,vI (ans),vI (mk),vI (a.code)]) (l:=λ((ans,mk,ga,Ya):Int×Int×(List Int)×RL)=>[.abs (jl b (λβ'=>(a.code=0->ans=a.next)/\mk=(if a.made=true then 1 else 0)/\Pair a.S ga/\dP β' (toR a.S ga) Ya))]) [12] rfl rfl rfl rfl ?_) ?_
   ·intro u Aq
    refine gL [] (Yr (β:=b) hg Y hY af U fs xs k d5 hU hfl hX cur (pc ps i) (aB i d5) mode ha) ?_
    rintro _ _ ⟨ans,mk,ga,Ya,rfl,rfl⟩
    exact NL (MD (ans,mk,ga,Ya) [33,12,2,3,4,8,9,10,11,25,27,31,32] [0,1])
   rintro _ _ ⟨⟨ans,mk,ga,Ya⟩,rfl,rfl⟩
   exact dO.read (.tuple #[.agg ⟨uV (toR a.S ga) Ya af U fs.length xs.length (↑a.n)⟩,vI (ans),vI (mk),vI (a.code)]) (dO.read (.agg ⟨uV (toR a.S ga) Ya af U fs.length xs.length (↑a.n)⟩) (dO.read (.int .i64 (ans)) (dO.read (.int .i64 (mk)) (dO.read (.int .i64 (a.code)) ⟨ans,mk,ga,Ya,rfl,rfl⟩))))
  rintro _ _ ⟨ans,mk,ga,Ya,rfl,rfl⟩ _ _ ⟨b5,rfl,rfl⟩
  refine kC [2,5] [] [(0,A_ 1 b5 16)] [(1,(zC (uV (toR a.S ga) Ya af U fs.length xs.length (↑a.n))))] (eu.cut (ι:=Unit) (bQ:=λ(_:Unit)=>[(2,.slice A (ps.length) (pJ)),(3,vI (mode)),(4,vP b1),(8,vP b2),(9,vP b3),(10,vP b4),(11,vI ↑i),(12,vP b5),(13,vI (ans)),(36,vI (mk)),(37,vI (a.code))]) (dz:=λ(_:Unit)=>[.abs (jl b (λβ'=>(a.code=0->ans=a.next)/\mk=(if a.made=true then 1 else 0)/\Pair a.S ga/\dP β' (toR a.S ga) Ya)),.aD b5 (uV (toR a.S ga) Ya af U fs.length xs.length (↑a.n)) 47,.aD b1 (uV (toR S g) Y af U fs.length xs.length (↑k)) 47,.aD b2 (uZ) 47,.aD b3 [vI 0,.bool false,vI 0,vI 0,vI 0] 78,.aD b4 [vI (cur),.bool own,vI (made),vI 0,vI 0] 78,.abs R]) [2,5] d6 ?_ rfl (λ_=>d6) ?_)
  ·exact jK 1 [13] [] (NL (MD () [2,3,4,8,9,10,11,12,13,36,37] [0,1,2,3,4,5,6]))
  rintro _
  refine eu.cut (ι:=Unit) (bQ:=λ(_:Unit)=>[(2,.slice A (ps.length) (pJ)),(3,vI (mode)),(4,vP b1),(8,vP b2),(9,vP b3),(10,vP b4),(11,vI ↑i),(12,vP b5),(13,vI (ans)),(14,vI (mk)),(37,vI (a.code))]) (dz:=λ(_:Unit)=>[.abs (jl b (λβ'=>(a.code=0->ans=a.next)/\mk=(if a.made=true then 1 else 0)/\Pair a.S ga/\dP β' (toR a.S ga) Ya)),.aD b5 (uV (toR a.S ga) Ya af U fs.length xs.length (↑a.n)) 47,.aD b1 (uV (toR S g) Y af U fs.length xs.length (↑k)) 47,.aD b2 (uZ) 47,.aD b3 [vI 0,.bool false,vI 0,vI 0,vI 0] 78,.aD b4 [vI (cur),.bool own,vI (made),vI 0,vI 0] 78,.abs R]) [2,5] d6 ?_ rfl (λ_=>d6) ?_
  ·exact jK 1 [14] [] (NL (MD () [2,3,4,8,9,10,11,12,13,14,37] [0,1,2,3,4,5,6]))
  rintro _
  refine eu.last d6 (jK 1 [15] [] (NL (aF.np (NX (SR (aE.sI 0 [1,2,3,4,5,6] (fY:=[.aD b5 (uV (toR a.S ga) Ya af U fs.length xs.length (↑a.n)) 47,.aD b1 (uV (toR S g) Y af U fs.length xs.length (↑k)) 47,.aD b2 (uZ) 47,.aD b3 [vI 0,.bool false,vI 0,vI 0,vI 0] 78,.aD b4 [vI (cur),.bool own,vI (made),vI 0,vI 0] 78,.abs R]) rfl rfl d6 (λCN iw ⟨han,hmk,hga,G5⟩=>?_)))))))
  replace hU:=hU.le iw
  replace hP:=hP.le iw
  replace aH:=aH.trans iw
  obtain⟨m2,hm2⟩:∃m2,(if a.made=true then made+1 else made)=m2:=⟨_,rfl⟩
  obtain⟨Tg,Ys,hm5⟩:=Z0 (made:=made) hmk
  have hna:a.n<=k+3:=by rw [←ha];exact EU
  refine jC 2 [] [(0,A_ 0 b5 16),(1,A_ 1 b1 16)] [(1,[(0,.slice Ya.A ((toR a.S ga).ns.length) (Ya.c)),(1,.slice Ya.G ((toR a.S ga).aJ.length) (Ya.cg)),(2,vI ((toR a.S ga).cH)),(3,vI ((toR a.S ga).aL)),(4,.slice Ya.H ((toR a.S ga).us.length) (Ya.ch)),(5,.slice Ya.V ((toR a.S ga).us.length) (Ya.cv)),(6,vI ((toR a.S ga).cN)),(7,vI ((toR a.S ga).cB)),(8,vI ((toR a.S ga).cH)),(9,vI ((toR a.S ga).cS)),(10,vI ((toR a.S ga).cZ)),(11,vI ((toR a.S ga).last)),(15,vI ↑a.n)])] (NS (jC 6 [] [(1,a_ 4 b4),(3,w_ (.int .i64 (m2)) (vk (Tg.trans hm2) d5 d5)),(5,a_ 4 b4)] [(4,[(2,vI (m2))])] (NZ (jK 2 [45] [] (NN (cN ((a.code:Int)=(0:Int)) (λvz=>?_) (λvz=>?_)))))))
  ·refine ax.seq (ax.seq ?_)
   rcases Bool.eq_false_or_eq_true own with rfl|rfl
   ·refine ax.region (jK 2 [47] [(1,a_ 4 b4)] (NT (ax.region (jK 3 [49,51] [(0,A_ 1 b1 16),(2,a_ 4 b4)] ?_))))
    obtain⟨Sc,cc,ec⟩:∃Sx cx,br fs xs af (a.n+1) a.S (gS cur)=(Sx,cx):=⟨_,_,rfl⟩
    refine iK [] (Fu (β:=CN) hga Ya G5 af U fs xs a.n d5 hU hfl hX cur ec) ?_
    rintro Ay _ _ d9 ⟨gc,Yc,rfl,rfl,hgc,hYc⟩
    replace hU:=hU.le d9
    replace hP:=hP.le d9
    replace G5:=G5.le d9
    replace aH:=aH.trans d9
    refine jC 4 [] [(3,A_ 1 b1 16)] [(1,[(0,.slice Yc.A ((toR Sc gc).ns.length) (Yc.c)),(1,.slice Yc.G ((toR Sc gc).aJ.length) (Yc.cg)),(2,vI ((toR Sc gc).cH)),(3,vI ((toR Sc gc).aL)),(4,.slice Yc.H ((toR Sc gc).us.length) (Yc.ch)),(5,.slice Yc.V ((toR Sc gc).us.length) (Yc.cv)),(6,vI ((toR Sc gc).cN)),(7,vI ((toR Sc gc).cB)),(8,vI ((toR Sc gc).cH)),(9,vI ((toR Sc gc).cS)),(10,vI ((toR Sc gc).cZ)),(11,vI ((toR Sc gc).last)),(15,vI ↑(a.n+1))])] (NN (ax.seq (rM (List.range 8) 6 [1,4] (jR 6 [8,9,55,60] [(0,A_ 0 b1 16),(2,a_ 1 b4)] (nC [1,4] [] [(0,A_ 2 b2 16)] [(2,(zC (uV (toR Sc gc) Yc af U fs.length xs.length (↑(a.n+1)))))] (ct.last rfl rfl (jC 1 [] [(0,A_ 3 b3 5)] [(3,[(2,vI (m2)),(3,vI (a.code)),(4,vI ↑i)])] (NL (aF.np (NX (ax.ret (aF.bq (aF.fI (aF.bq (aF.bq (aF.fI (aF.bq ?_)))))))))))))))))
    have hr2:r=⟨Sc,a.n+1,0,false,m2,a.code,(i:Int)⟩:=by rw [←hr,mZ d5,rC (by rw [ha];exact vz),ha,hm2];exact Ac ec
    subst hr2
    exact rB (.tuple #[.agg ⟨uV (toR Sc gc) Yc af U fs.length xs.length (↑(a.n+1))⟩,.agg #[vI 0,.bool false,vI (m2),vI (a.code),vI ↑i]]) [A_ 2 b2 16,A_ 3 b3 5] [5] aH (⟨gc,Yc,rfl,rfl,hgc,hYc⟩)
   refine ax.region (jK 2 [47] [(1,a_ 4 b4)] (NF (KX (ax.seq (rM (List.range 8) 6 [1,4] (jR 6 [8,9,55,60] [(0,A_ 0 b1 16),(2,a_ 1 b4)] (nC [1,4] [] [(0,A_ 2 b2 16)] [(2,(zC (uV (toR a.S ga) Ya af U fs.length xs.length (↑a.n))))] (ct.last rfl rfl (jC 1 [] [(0,A_ 3 b3 5)] [(3,[(2,vI (m2)),(3,vI (a.code)),(4,vI ↑i)])] (NL (aF.np (NX (ax.ret (aF.bq (aF.fI (aF.bq (aF.bq (aF.fI (aF.bq ?_)))))))))))))))))))
   have hr2:r=⟨a.S,a.n,0,false,m2,a.code,(i:Int)⟩:=by rw [←hr,mZ d5,rC (by rw [ha];exact vz),ha,hm2];exact Ie
   subst hr2
   exact rB (.tuple #[.agg ⟨uV (toR a.S ga) Ya af U fs.length xs.length (↑a.n)⟩,.agg #[vI 0,.bool false,vI (m2),vI (a.code),vI ↑i]]) [A_ 2 b2 16,A_ 3 b3 5] [5] aH (⟨ga,Ya,rfl,rfl,hga,G5⟩)
  refine KX (SQ (jK 2 [62] [(1,a_ 4 b4)] (NN (ax.cond (b:=own) (λ_=>d6) (λDW=>?_) (λDW=>?_)))))
  ·subst DW
   refine SR (jK 3 [64,66] [(0,A_ 1 b1 16),(2,a_ 4 b4)] ?_)
   obtain⟨Sb,cb,eb⟩:∃Sx cx,br fs xs af (a.n+1) a.S (gS cur)=(Sx,cx):=⟨_,_,rfl⟩
   refine iK [] (Fu (β:=CN) hga Ya G5 af U fs xs a.n d5 hU hfl hX cur eb) ?_
   rintro D5 _ _ jD ⟨gb,Yb,rfl,rfl,hgb,hYb⟩
   replace hU:=hU.le jD
   replace hP:=hP.le jD
   replace G5:=G5.le jD
   replace aH:=aH.trans jD
   refine jC 5 [15] [(3,A_ 1 b1 16)] [(1,[(0,.slice Yb.A ((toR Sb gb).ns.length) (Yb.c)),(1,.slice Yb.G ((toR Sb gb).aJ.length) (Yb.cg)),(2,vI ((toR Sb gb).cH)),(3,vI ((toR Sb gb).aL)),(4,.slice Yb.H ((toR Sb gb).us.length) (Yb.ch)),(5,.slice Yb.V ((toR Sb gb).us.length) (Yb.cv)),(6,vI ((toR Sb gb).cN)),(7,vI ((toR Sb gb).cB)),(8,vI ((toR Sb gb).cH)),(9,vI ((toR Sb gb).cS)),(10,vI ((toR Sb gb).cZ)),(11,vI ((toR Sb gb).last)),(15,vI ↑(a.n+1))])] (NS (jK 2 [71] [] (NN (cN ((cb.code:Int)=(0:Int)) (λh71=>SR (jK 2 [73,74] [(0,A_ 1 b1 16)] ?_)) (λh71=>KX (SR (jC 3 [] [(2,a_ 4 b4)] [(4,[(0,vI (ans))])] (NN (ax.region (jC 2 [] [(1,a_ 4 b4)] [] (LX (ax.region (jK 3 [11] [(1,wJ ((i:Int)+1) (↑(i+1)))] (NL (tB ((i+1),D5,Sb,gb,Yb,(a.n+1),ans,true,m2) [1,2,3,4,5] (⟨d5,aH,hP,hU,hgb,hYb,d5,d5,by rw [←hr,mZ (ps:=ps) (j:=i) d5,uW (by rw [ha];exact vz) rfl (by rw [ha,eb];exact h71),ha,eb,hm2,←han vz];rfl⟩))))))))))))))))
   obtain⟨Sc,cc,ec⟩:∃Sx cx,br fs xs af (a.n+1+1) Sb (gS ans)=(Sx,cx):=⟨_,_,rfl⟩
   refine iK [] (Fu (β:=D5) hgb Yb hYb af U fs xs (a.n+1) d5 hU hfl hX ans ec) ?_
   rintro β9 _ _ ny ⟨gc,Yc,rfl,rfl,hgc,hYc⟩
   replace hU:=hU.le ny
   replace hP:=hP.le ny
   replace G5:=G5.le ny
   replace hYb:=hYb.le ny
   replace aH:=aH.trans ny
   refine jC 4 [] [(3,A_ 1 b1 16)] [(1,[(0,.slice Yc.A ((toR Sc gc).ns.length) (Yc.c)),(1,.slice Yc.G ((toR Sc gc).aJ.length) (Yc.cg)),(2,vI ((toR Sc gc).cH)),(3,vI ((toR Sc gc).aL)),(4,.slice Yc.H ((toR Sc gc).us.length) (Yc.ch)),(5,.slice Yc.V ((toR Sc gc).us.length) (Yc.cv)),(6,vI ((toR Sc gc).cN)),(7,vI ((toR Sc gc).cB)),(8,vI ((toR Sc gc).cH)),(9,vI ((toR Sc gc).cS)),(10,vI ((toR Sc gc).cZ)),(11,vI ((toR Sc gc).last)),(15,vI ↑(a.n+1+1))])] (NN (ax.seq (rM (List.range 8) 6 [1,4] (jR 6 [8,9,78,83] [(0,A_ 0 b1 16),(2,a_ 1 b4)] (nC [1,4] [] [(0,A_ 2 b2 16)] [(2,(zC (uV (toR Sc gc) Yc af U fs.length xs.length (↑(a.n+1+1)))))] (ct.last rfl rfl (jC 1 [] [(0,A_ 3 b3 5)] [(3,[(2,vI (m2)),(3,vI (cb.code)),(4,vI ↑i)])] (NL (aF.np (NX (ax.ret (aF.bq (aF.fI (aF.bq (aF.bq (aF.fI (aF.bq ?_)))))))))))))))))
   have hr2:r=⟨Sc,a.n+1+1,0,false,m2,cb.code,(i:Int)⟩:=by rw [←hr,mZ d5,vM (by rw [ha];exact vz) rfl (by rw [ha,eb];exact h71),ha,eb,hm2,←han vz];exact Ac ec
   subst hr2
   exact rB (.tuple #[.agg ⟨uV (toR Sc gc) Yc af U fs.length xs.length (↑(a.n+1+1))⟩,.agg #[vI 0,.bool false,vI (m2),vI (cb.code),vI ↑i]]) [A_ 2 b2 16,A_ 3 b3 5] [5] aH (⟨gc,Yc,rfl,rfl,hgc,hYc⟩)
  subst DW
  exact KX (SR (jC 3 [] [(2,a_ 4 b4)] [(4,[(0,vI (ans))])] (NN (ax.region (jC 2 [] [(1,a_ 4 b4)] [(4,[(1,.bool true)])] (LX (ax.region (jK 3 [11] [(1,wJ ((i:Int)+1) (↑(i+1)))] (NL (tB ((i+1),CN,a.S,ga,Ya,a.n,ans,true,m2) [1,2,3,4,5] (⟨d5,aH,hP,hU,hga,G5,d5,d5,by rw [←hr,mZ (ps:=ps) (j:=i) d5,wW (by rw [ha];exact vz) d8,ha,hm2,←han vz];rfl⟩)))))))))))
 refine XX (ax.seq (rM [0,1,2,3] 2 [0,3] (jR 2 [8,9,87,88] [(0,A_ 0 b1 16),(1,A_ 1 b4 5)] (nC [0,3] [] [(0,A_ 1 b2 16)] [(1,(zC (uV (toR S g) Y af U fs.length xs.length (↑k))))] (ct.last rfl rfl (jC 1 [] [(0,A_ 2 b3 5)] [(2,[(0,vI (cur)),(1,.bool own),(2,vI (made))])] (NL (aF.np (NX (ax.ret ?_))))))))))
 have hi2:i=ps.length:=d5
 have hr2:r=⟨S,k,cur,own,made,0,0⟩:=by rw [←hr,hi2,List.drop_length,ES]
 subst hr2
 exact rB (.tuple #[.agg ⟨uV (toR S g) Y af U fs.length xs.length (↑k)⟩,.agg #[vI (cur),.bool own,vI (made),vI 0,vI 0]]) [A_ 1 b2 16,A_ 2 b3 5] [4] aH (⟨g,Y,rfl,rfl,hg,hY⟩)
theorem ML {β:Bs} {S0:bg} {g0:List Int} (hg0:Pair S0 g0) (Y0:RL) (hY0:dP β (toR S0 g0) Y0) (af:Int) (U:UL) (fs:List cF) (xs:List cM) (k0:Nat) {np:Nat} (hk:k0+4*np+4<=8388600) (hU:CS β U fs xs) (hfl:fs.length<=2097152) (hX:gy xs 1048576) (h:Int) (A:Option Addr) (pJ:Nat) (ps:List ByteArray) (hP:fF β A ps) (hpl:ps.length=np) (aB:∀i,i<ps.length->(pc ps i).size<=1048576) (mode:Int) {r:L9} (hr:jt fs xs af mode ps 0 S0 k0 h false 0=r) :
 aW Tryz.prog β 13 #[.agg ⟨uV (toR S0 g0) Y0 af U fs.length xs.length ((k0:Nat):Int)⟩,vI (h),.slice A (ps.length) (pJ),vI (mode)] [] (λv l=>∃g' Y',v=.tuple #[.agg ⟨uV (toR r.S g') Y' af U fs.length xs.length ((r.n:Nat):Int)⟩,.agg #[vI r.cur,.bool r.own,vI r.made,vI r.code,vI r.at_]]/\l=[.abs (jl β (λβ'=>Pair r.S g'/\dP β' (toR r.S g') Y'))]):=
 (bN.GD (ι:=List Int×RL) (vv:=λx=>.tuple #[.agg ⟨uV (toR r.S x.1) x.2 af U fs.length xs.length ((r.n:Nat):Int)⟩,.agg #[vI r.cur,.bool r.own,vI r.made,vI r.code,vI r.at_]]) (ll:=λ_=>[]) (Φ:=λx β'=>Pair r.S x.1/\dP β' (toR r.S x.1) x.2)
  ((abg hg0 Y0 hY0 af U fs xs k0 hk hU hfl hX h A pJ ps hP hpl aB mode hr).mono (by rintro β' v l _ ⟨g',Y',h1,h2,h3⟩;exact⟨(g',Y'),h1,h2,h3⟩))).mono (by rintro v l ⟨x,h1,h2⟩;exact⟨x.1,x.2,h1,h2⟩)
end
section
open Go.RowKit Go.Maps bw aI
section c
variable {S S2:bg} {β:Bs} {c c2 x q out:aN} {f m t:Nat} {L:HL}
structure ahq (β:Bs) (c:aN):Prop where
 hw:(Lit.int .i64 c.bD).wf=true
 ow:(Lit.int .i64 c.other).wf=true
 nm:c.name.size<=1048576
 tx:c.text.size<=1048576
 da:ck β c.dA c.data
structure ByR (β:Bs) (S:bg) (op:Int) (S2:bg) (q c2 out:aN):Prop where
 did:fC S q=(S2,c2)
 ok:qN β q
 dl:q.data.length<=1048576
 ans:out.answer=c2.answer
 code:out.code=c2.code
 st:op=11\/op=12->out.other=c2.other/\out.mode=c2.mode/\out.cO=c2.cO/\out.cQ=c2.cQ/\out.bJ=c2.bJ/\out.bh=c2.bh
end c
def bare (c:aN):aN:=fU none 0 c
structure TrB (β:Bs) (A:Option Addr) (os:List aN):Prop where
 row:cE β A (dL bA os)
 dat:agy β os
section t
variable {β β':Bs} {A:Option Addr} {os tr:List aN} {i j:Nat} {v:Value} {B:Option Addr} {p:Nat}
end t
end
end Go.Proofs.YtfececghhgeapaaGreatDoor
