/-
  PROVED HERE: lemmas and contracts of functions (texts of this repo, joined; what the claim does not use is left out): FA, DS, DO, DK, Dr, Ae, FT, DU, Dg, Db, Dn, H7, H8, H9, Vh, HD, H10, H11, H12, Lw, LA, Lc, Og, LC, St, LD, Ns, Ds, Dh, Aw, Ua, Ub, UA, UB, Wn, WD, Oh, Wm, Ud.
  CONDITIONS: as the theorems say.
-/
import Derived.Test.YtbnfiigafobejaaGreatMWdoes4
set_option maxRecDepth 100000
set_option maxHeartbeats 4000000
namespace Go.Proofs.YtbnfiigafobejaaGreat
section
open Go.RowKit Go.Maps bK aF
attribute [local irreducible] av bN aq aB
theorem ZV {β:Bs} (Z:RS) (Y:RL) (hI:lU β Z Y.L Y.H Y.V) (hC:RC Z) (hD:RD 0 Z) (au:Nat) (Cb:au<Z.ns.length) (d:Nat) (hd:d<Z.ns.length) (name:ByteArray) (a:dK) (d6:a.to.size<=1048576) (yt:a.text.size<=1048576) (Xf:a.op=1->(bP Z d name nF).2=0->RC (jV Z d name nF)) (iP:¬(1<=a.op/\a.op<=6)->∀k:Nat,bV Z.ns d name=(k:Int)->(nd Z.ns k).kind=3\/(nd Z.ns k).kind=2) :
 cE Tryz.prog β 73 #[.agg ⟨rV Z Y⟩,vI (((au:Nat):Int)),vI (((d:Nat):Int)),.string name,.agg #[vI (a.at_),vI (a.op),.string a.path,.string a.to,.string a.text]] [.abs (aH 95 10 Y.A Z.ns.length Y.c (bG Y.L Z.ns)),.abs (aH 3 1 Y.G Z.aG.length Y.cg (bH Z.aG))] (λβ' v l=>∃Y',v=.tuple #[.agg ⟨rV ((fk Z au d name a).1) Y'⟩,vI (fk Z au d name a).2]/\l=[]/\dz β' (fk Z au d name a).1 Y'):=by
 refine oI Tryz.func73 Tryz.ntmps73 (λaE R=>SR (jB 1 [5] (λb1=>.aD b1 (rV Z Y) 45) (λb1=>jB 1 [9] (λb2=>.aD b2 [vI (a.at_),vI (a.op),.string a.path,.string a.to,.string a.text] 68) (λb2=>jB 2 [10] (λb3=>.aD b3 (rZ) 45) (λb3=>NZ (jK 2 [23] [(1,a_ 4 b2)] (NN (aq.block (SR (jK 2 [24] [] (NN (cP ((a.op:Int)=(1:Int)) (λrA=>?_) (λrA=>?_)))))))))))))
 ·refine SR (jK 4 [27,28,29,30] [(0,A_ 3 b1 12)] ?_)
  by_cases hm:(bP Z d name nF).2=0
  ·refine jx [0,1] (Uo hI hC hD zc d hd name nF rfl rfl Pd hm) ?_
   rintro β1 _ _ cG ⟨A1,c1,L1,rfl,rfl,di,hnA,PO⟩
   replace aE:=aE.trans cG
   refine jN 6 [12,13] (λb4=>[(4,A_ 6 b4 12)]) (λ_=>[]) (λb4=>.aD b4 (rW (jV Z d name nF) A1 c1 Y.G Y.cg Y.H Y.ch Y.V Y.cv) 45) (λb4=>NZ (jK 2 [35] [] (NF (KX (SR (jK 6 [14] [(2,a_ 6 b4),(4,p_ ⟨[],none,none,none,some (vI ↑Z.ns.length)⟩ [(Value.int .i64 (IntKind.wrap .i64 ((((jV Z d name nF).ns.length:Nat):Int)-1)))=(.int .i64 ↑Z.ns.length)] ⟨vg (by rw [K1];omega) zc (by have:=hC.ns;omega),trivial⟩)] (NS (jK 4 [44,45,47] [(0,A_ 6 b4 12),(3,a_ 4 b2)] (av.DJ (d:=(some 48)) (t1:=9) (t2:=51) (e:=5) (x:=(.tmp 47)) (s:=a.text) (λ_=>KB) (λ_=>KB) Tryz.underlying9 Tryz.underlying51 Tryz.underlying5 (λb5 c6 af0=>av.uz 7 [0,1,2,3,4,5,6] (fe:=[.abs (aH 95 10 A1 ((jV Z d name nF).ns.length) c1 (bG L1 (jV Z d name nF).ns)),.abs (aH 3 1 Y.G ((jV Z d name nF).aG.length) Y.cg (bH (jV Z d name nF).aG)),.abs R,.aD b1 (rV Z Y) 45,.aD b2 [vI (a.at_),vI (a.op),.string a.path,.string a.to,.string a.text] 68,.aD b3 (rZ) 45,.aD b4 (rW (jV Z d name nF) A1 c1 Y.G Y.cg Y.H Y.ch Y.V Y.cv) 45]) rfl rfl KB (λSv qc hbs=>?_)))))))))))
   replace di:=di.le qc
   replace aE:=aE.trans qc
   refine av.mem (λw hS=>hS.mB (e:=5) (size:=1)) (av.cL 7 (p':=.abs (aH 5 1 (L1.dA Z.ns.length) ((nd (jV Z d name nF).ns Z.ns.length).data.length) (L1.dC Z.ns.length) (dR (nd (jV Z d name nF).ns Z.ns.length).data))) rfl (by rw [hnA,PO,ZU];rfl) (jx [0,1,7] (HY (jV Z d name nF) ⟨A1,c1,L1,Y.G,Y.cg,Y.H,Y.ch,Y.V,Y.cv⟩ Z.ns.length di.toK (Xf (by simpa using rA) hm) (by rw [K1];omega) (some ⟨b5,0,none⟩) c6 a.text.data.toList hbs (by rw [Array.length_toList];have:a.text.data.size=a.text.size:=rfl;omega) af0) ?_))
   rintro vT _ _ mI ⟨Y3,rfl,rfl,mg⟩
   replace aE:=aE.trans mI
   exact jC 5 [] [(4,A_ 4 b4 12)] [(4,(zC (rV ((jO (jV Z d name nF) Z.ns.length a.text.data.toList).1) Y3)))] (NS (jC 3 [11] [(0,A_ 4 b4 12),(1,A_ 3 b3 12)] [(3,(zC (rV ((jO (jV Z d name nF) Z.ns.length a.text.data.toList).1) Y3)))] (eO [A_ 3 b3 12] aE ⟨Y3,by rw [abu (by simpa using rA) hm]<;>rfl,rfl,by rw [abu (by simpa using rA) hm];exact mg⟩)))
  refine jx [0,1] (Un hI hC hD zc d hd name nF rfl rfl Pd hm) ?_
  rintro β1 _ _ cG ⟨rfl,rfl⟩
  replace hI:=hI.le cG
  replace aE:=aE.trans cG
  refine jN 6 [12,13] (λb10=>[(4,A_ 6 b10 12)]) (λ_=>[]) (λb10=>.aD b10 (rV Z Y) 45) (λb10=>NZ (jK 2 [35] [] (NN (cN (((bP Z d name nF).2:Int)=(0:Int)) (λnO=>SR (jC 4 [11] [(0,A_ 3 b1 12),(2,A_ 5 b3 12)] [(5,(zC (rV Z Y)))] (NN (aq.ret (aB.bD (aB.fW (aB.bD (aB.cQ [0,1] [.abs (aH 95 10 Y.A Z.ns.length Y.c (bG Y.L Z.ns)),.abs (aH 3 1 Y.G Z.aG.length Y.cg (bH Z.aG))] (λH6 pz hL=>?_))))))))) (λnO=>agY (by simpa using nO) hm)))))
  have fM:dz H6 Z Y:=hI.at hL
  replace aE:=aE.trans pz
  exact rB _ [A_ 3 b3 12] [0] aE (⟨Y,by rw [abt (by simpa using rA) hm]<;>rfl,rfl,by rw [abt (by simpa using rA) hm];exact fM⟩)
 refine SR (jK 2 [54] [] (NN (cP ((a.op:Int)=(2:Int)) (λET=>?_) (λET=>?_))))
 ·refine SR (jK 4 [56,57,58,59] [(0,A_ 3 b1 12)] (jx [0,1] (yq Z Y hI hC hD zc d hd name nD rfl rfl Pd) ?_))
  rintro β1 _ _ cG ⟨A1,c1,L1,rfl,rfl,di,_⟩
  replace aE:=aE.trans cG
  refine jC 4 [11] [(2,A_ 5 b3 12)] [(5,(zC (rW ((bP Z d name nD).1) A1 c1 Y.G Y.cg Y.H Y.ch Y.V Y.cv)))] (NN (aq.ret (aB.fW (aB.bD (aB.cQ [0,1] [.abs (aH 95 10 A1 ((bP Z d name nD).1.ns.length) c1 (bG L1 (bP Z d name nD).1.ns)),.abs (aH 3 1 Y.G ((bP Z d name nD).1.aG.length) Y.cg (bH (bP Z d name nD).1.aG))] (λEV kF hL=>?_))))))
  have fM:dz EV (bP Z d name nD).1 ⟨A1,c1,L1,Y.G,Y.cg,Y.H,Y.ch,Y.V,Y.cv⟩:=di.at hL
  replace aE:=aE.trans kF
  exact rB _ [A_ 3 b3 12] [0] aE (⟨⟨A1,c1,L1,Y.G,Y.cg,Y.H,Y.ch,Y.V,Y.cv⟩,by rw [ad4 (by simpa using ET)]<;>rfl,rfl,by rw [ad4 (by simpa using ET)];exact fM⟩)
 refine SR (jK 2 [63] [] (NN (cP ((a.op:Int)=(3:Int)) (λh63=>?_) (λh63=>?_))))
 ·refine SR (jK 6 [65,66,67,70] [(0,A_ 3 b1 12),(4,a_ 4 b2)] (jx [0,1] (yq Z Y hI hC hD zc d hd name (nL a.text) rfl rfl yt) ?_))
  rintro β1 _ _ cG ⟨A1,c1,L1,rfl,rfl,di,_⟩
  replace aE:=aE.trans cG
  refine jC 4 [11] [(2,A_ 5 b3 12)] [(5,(zC (rW ((bP Z d name (nL a.text)).1) A1 c1 Y.G Y.cg Y.H Y.ch Y.V Y.cv)))] (NN (aq.ret (aB.fW (aB.bD (aB.cQ [0,1] [.abs (aH 95 10 A1 ((bP Z d name (nL a.text)).1.ns.length) c1 (bG L1 (bP Z d name (nL a.text)).1.ns)),.abs (aH 3 1 Y.G ((bP Z d name (nL a.text)).1.aG.length) Y.cg (bH (bP Z d name (nL a.text)).1.aG))] (λCn ld hL=>?_))))))
  have fM:dz Cn (bP Z d name (nL a.text)).1 ⟨A1,c1,L1,Y.G,Y.cg,Y.H,Y.ch,Y.V,Y.cv⟩:=di.at hL
  replace aE:=aE.trans ld
  exact rB _ [A_ 3 b3 12] [0] aE (⟨⟨A1,c1,L1,Y.G,Y.cg,Y.H,Y.ch,Y.V,Y.cv⟩,by rw [ad5 (by simpa using h63)]<;>rfl,rfl,by rw [ad5 (by simpa using h63)];exact fM⟩)
 refine SR (jK 2 [74] [] (NN (cP ((a.op:Int)=(4:Int)) (λGi=>?_) (λGi=>?_))))
 ·refine SR (jK 3 [76,77,78] [(0,A_ 3 b1 12)] (jx [0,1] (BN Z Y hI hC hD zc d hd name false) ?_))
  rintro β1 _ _ cG ⟨Y3,rfl,rfl,mg⟩
  replace aE:=aE.trans cG
  exact jC 4 [11] [(2,A_ 3 b3 12)] [(3,(zC (rV ((iE Z d name false).1) Y3)))] (eO [A_ 3 b3 12] aE ⟨Y3,by rw [ad6 (by simpa using Gi)]<;>rfl,rfl,by rw [ad6 (by simpa using Gi)];exact mg⟩)
 refine SR (jK 2 [82] [] (NN (cP ((a.op:Int)=(5:Int)) (λMq=>?_) (λMq=>?_))))
 ·refine SR (jK 3 [84,85,86] [(0,A_ 3 b1 12)] (jx [0,1] (BN Z Y hI hC hD zc d hd name true) ?_))
  rintro β1 _ _ cG ⟨Y3,rfl,rfl,mg⟩
  replace aE:=aE.trans cG
  exact jC 4 [11] [(2,A_ 3 b3 12)] [(3,(zC (rV ((iE Z d name true).1) Y3)))] (eO [A_ 3 b3 12] aE ⟨Y3,by rw [ad7 (by simpa using Mq)]<;>rfl,rfl,by rw [ad7 (by simpa using Mq)];exact mg⟩)
 refine SR (jK 2 [90] [] (NN (cP ((a.op:Int)=(6:Int)) (λvM=>?_) (λvM=>?_))))
 ·refine SR (jK 4 [93,94,96] [(0,A_ 3 b1 12),(3,a_ 4 b2)] ?_)
  rcases hw:mO Z au a.to with e|⟨to,ay⟩
  ·have he:=PN hw
   refine gE [0,1] ((eP hI (λ_ _ h=>F9 Z Y h hC au Cb a.to d6)).val (agX AQ hw)) (jK 7 [15,16,17] [] (NZ (jK 2 [102] [] (NN (cN ((e:Int)=(0:Int)) (λaea=>SR (jC 4 [11] [(0,A_ 3 b1 12),(2,A_ 5 b3 12)] [(5,(zC (rV Z Y)))] (NN (aq.ret (aB.bD (aB.fW (aB.bD (aB.cQ [0,1] [.abs (aH 95 10 Y.A Z.ns.length Y.c (bG Y.L Z.ns)),.abs (aH 3 1 Y.G Z.aG.length Y.cg (bH Z.aG))] (λHZ uF hL=>?_))))))))) (λaea=>agY (by simpa using aea) he))))))
   have fM:dz HZ Z Y:=hI.at hL
   replace aE:=aE.trans uF
   exact rB _ [A_ 3 b3 12] [0] aE (⟨Y,by rw [abv (by simpa using vM) hw]<;>rfl,rfl,by rw [abv (by simpa using vM) hw];exact fM⟩)
  have Ov:=Sq Cb hw
  refine gE [0,1] ((eP hI (λ_ _ h=>F9 Z Y h hC au Cb a.to d6)).val (agX AQ hw)) (jK 7 [15,16,17] [] (NZ (jK 2 [102] [] (NF (KX (SR (jK 5 [105,106,107,108,109] [(0,A_ 3 b1 12)] (jx [0,1] (L8 Z Y hI hC hD zc d hd name to Ov ay) ?_))))))))
  rintro β1 _ _ cG ⟨Y3,rfl,rfl,mg⟩
  replace aE:=aE.trans cG
  exact jC 4 [11] [(2,A_ 3 b3 12)] [(3,(zC (rV ((gY Z d name to ay).1) Y3)))] (eO [A_ 3 b3 12] aE ⟨Y3,by rw [abw (by simpa using vM) hw]<;>rfl,rfl,by rw [abw (by simpa using vM) hw];exact mg⟩)
 refine KX (SR ?_)
 have h7:¬(1<=a.op/\a.op<=6):=zc
 refine jK 3 [113,114,115] [(0,A_ 3 b1 12)] ?_
 rcases kz Z.ns d name with hl|⟨k,hl,hk⟩
 ·refine gE [0,1] ((eP hI (λ_ _ h=>jH Z Y h hC d hd name)).val (agX (Value.int .i64) hl)) (jK 1 [18] [] (NZ (jK 2 [118] [] (NT (SR (jC 3 [11] [(0,A_ 3 b1 12),(1,A_ 5 b3 12)] [(5,(zC (rV Z Y)))] (NN (aq.ret (aB.bD (aB.cQ [0,1] [.abs (aH 95 10 Y.A Z.ns.length Y.c (bG Y.L Z.ns)),.abs (aH 3 1 Y.G Z.aG.length Y.cg (bH Z.aG))] (λEU qE hL=>?_)))))))))))
  have fM:dz EU Z Y:=hI.at hL
  replace aE:=aE.trans qE
  exact rB _ [A_ 3 b3 12] [0] aE (⟨Y,by rw [abx h7 hl]<;>rfl,rfl,by rw [abx h7 hl];exact fM⟩)
 refine av.rX 0 rfl zc (λlK=>gE [0,1] ((eP hI (λ_ _ h=>jH Z Y h hC d hd name)).val (agX (Value.int .i64) hl)) (jK 1 [18] [] (NZ (jK 2 [118] [(1,wF (((k:Int):Int)<(0:Int)))] (NF (KX (SQ (jK 8 [127] [(2,a_ 3 b1),(4,x_ k Z.ns.length (lK)),(6,v_ 0 (nA Z.ns Y.L Y.A Y.c k 1 hk rfl))] (NN (cP (((nd Z.ns k).kind:Int)=(3:Int)) (λh127=>?_) (λh127=>?_)))))))))))
 ·refine SR (jC 3 [11] [(0,A_ 3 b1 12),(1,A_ 5 b3 12)] [(5,(zC (rV Z Y)))] (NN (aq.ret (aB.bD (aB.cQ [0,1] [.abs (aH 95 10 Y.A Z.ns.length Y.c (bG Y.L Z.ns)),.abs (aH 3 1 Y.G Z.aG.length Y.cg (bH Z.aG))] (λT4 wE hL=>?_))))))
  have fM:dz T4 Z Y:=hI.at hL
  replace aE:=aE.trans wE
  exact rB _ [A_ 3 b3 12] [0] aE (⟨Y,by rw [(F8 h7 hl).trans (agW h127)]<;>rfl,rfl,by rw [(F8 h7 hl).trans (agW h127)];exact fM⟩)
 refine KX (SQ (jK 8 [136] [(2,a_ 3 b1),(4,x_ k Z.ns.length (lK)),(6,v_ 0 (nA Z.ns Y.L Y.A Y.c k 1 hk rfl))] (NN (cP (((nd Z.ns k).kind:Int)=(2:Int)) (λIj=>SR (jC 3 [11] [(0,A_ 3 b1 12),(1,A_ 5 b3 12)] [(5,(zC (rV Z Y)))] (NN (aq.ret (aB.bD (aB.cQ [0,1] [.abs (aH 95 10 Y.A Z.ns.length Y.c (bG Y.L Z.ns)),.abs (aH 3 1 Y.G Z.aG.length Y.cg (bH Z.aG))] (λZW AR hL=>?_))))))) (λIj=>agY (iP h7 k hl) (λh=>h.elim h127 Ij))))))
 have fM:dz ZW Z Y:=hI.at hL
 replace aE:=aE.trans AR
 exact rB _ [A_ 3 b3 12] [0] aE (⟨Y,by rw [(F8 h7 hl).trans ((agV h127).trans (agW Ij))]<;>rfl,rfl,by rw [(F8 h7 hl).trans ((agV h127).trans (agW Ij))];exact fM⟩)
theorem ZX {β:Bs} (Z:RS) (Y:RL) (k:Nat) (hI:AF β Z Y.L Y.H Y.V k) (hC:RC Z) (hk:k<Z.ns.length) (au:Nat) (_:au<Z.ns.length) (d:Nat) (hd:d<Z.ns.length) (name:ByteArray) (a:dK) (_:a.to.size<=1048576) (yt:a.text.size<=1048576) (h7:¬(1<=a.op/\a.op<=6)) (hl:bV Z.ns d name=(k:Int)) (hk3:¬(nd Z.ns k).kind=3) (hk2:¬(nd Z.ns k).kind=2) :
 cE Tryz.prog β 73 #[.agg ⟨rV Z Y⟩,vI (((au:Nat):Int)),vI (((d:Nat):Int)),.string name,.agg #[vI (a.at_),vI (a.op),.string a.path,.string a.to,.string a.text]] [.abs (aH 95 10 Y.A Z.ns.length Y.c (bG Y.L Z.ns)),.abs (aH 3 1 Y.G Z.aG.length Y.cg (bH Z.aG)),.abs (aH 5 1 (Y.L.dA k) ((nd Z.ns k).data.length) (Y.L.dC k) (dR (nd Z.ns k).data))] (λβ' v l=>∃Y',v=.tuple #[.agg ⟨rV ((fk Z au d name a).1) Y'⟩,vI (fk Z au d name a).2]/\l=[]/\dz β' (fk Z au d name a).1 Y'):=by
 refine oI Tryz.func73 Tryz.ntmps73 (λaE R=>SR (jB 1 [5] (λb18=>.aD b18 (rV Z Y) 45) (λb18=>jB 1 [9] (λb19=>.aD b19 [vI (a.at_),vI (a.op),.string a.path,.string a.to,.string a.text] 68) (λb19=>jB 2 [10] (λb20=>.aD b20 (rZ) 45) (λb20=>NZ (jK 2 [23] [(1,a_ 5 b19)] (NN (aq.block (SR (jK 2 [24] [] (NN (cP ((a.op:Int)=(1:Int)) (λrA=>agY rA (by omega)) (λrA=>SR (jK 2 [54] [] (NN (cP ((a.op:Int)=(2:Int)) (λET=>agY ET (by omega)) (λET=>SR (jK 2 [63] [] (NN (cP ((a.op:Int)=(3:Int)) (λh63=>agY h63 (by omega)) (λh63=>SR (jK 2 [74] [] (NN (cP ((a.op:Int)=(4:Int)) (λGi=>agY Gi (by omega)) (λGi=>SR (jK 2 [82] [] (NN (cP ((a.op:Int)=(5:Int)) (λMq=>agY Mq (by omega)) (λMq=>SR (jK 2 [90] [] (NN (cP ((a.op:Int)=(6:Int)) (λvM=>agY vM (by omega)) (λvM=>KX (SR (jK 3 [113,114,115] [(0,A_ 4 b18 12)] (gE [0,1,2] (HT (x:=.int .i64 ((k:Nat):Int)) (cb:=Y.L.dC k) hI rfl rfl (λ_ _ h=>(jH Z Y h hC d hd name).val (agX (Value.int .i64) hl))) (jK 1 [18] [] (NZ (jK 2 [118] [(1,wF (((k:Int):Int)<(0:Int)))] (NF (KX (SQ (av.rX 0 rfl zc (λlK=>jK 8 [127] [(2,a_ 4 b18),(4,x_ k Z.ns.length (lK)),(6,v_ 0 (nA Z.ns Y.L Y.A Y.c k 1 hk rfl))] (NN (cP (((nd Z.ns k).kind:Int)=(3:Int)) (λh127=>agY h127 hk3) (λh127=>KX (SQ (jK 8 [136] [(2,a_ 4 b18),(4,x_ k Z.ns.length (lK)),(6,v_ 0 (nA Z.ns Y.L Y.A Y.c k 1 hk rfl))] (NN (cP (((nd Z.ns k).kind:Int)=(2:Int)) (λIj=>agY Ij hk2) (λIj=>KX (SR (jK 4 [139,140,142] [(0,A_ 4 b18 12),(3,a_ 5 b19)] (av.DJ (d:=(some 143)) (t1:=9) (t2:=51) (e:=5) (x:=(.tmp 142)) (s:=a.text) (λ_=>KB) (λ_=>KB) Tryz.underlying9 Tryz.underlying51 Tryz.underlying5 (λyu c22 afb=>av.uz 7 [0,1,2,3,4,5,6] (fe:=[.abs (aH 95 10 Y.A Z.ns.length Y.c (bG Y.L Z.ns)),.abs (aH 3 1 Y.G Z.aG.length Y.cg (bH Z.aG)),.abs (aH 5 1 (Y.L.dA k) ((nd Z.ns k).data.length) (Y.L.dC k) (dR (nd Z.ns k).data)),.abs R,.aD b18 (rV Z Y) 45,.aD b19 [vI (a.at_),vI (a.op),.string a.path,.string a.to,.string a.text] 68,.aD b20 (rZ) 45]) rfl rfl KB (λT6 sY hbs=>?_)))))))))))))))))))))))))))))))))))))))))))))))))))))))))
 replace hI:=hI.le sY
 replace aE:=aE.trans sY
 refine jx [0,1,2] (HY Z Y k hI hC hk (some ⟨yu,0,none⟩) c22 a.text.data.toList hbs (by rw [Array.length_toList];have:a.text.data.size=a.text.size:=rfl;omega) afb) ?_
 rintro adW _ _ H7 ⟨Y3,rfl,rfl,mg⟩
 replace aE:=aE.trans H7
 exact jN 8 [19,21] (λpV=>[(5,A_ 4 pV 12)]) (λ_=>[]) (λpV=>.aD pV (rV ((jO Z k a.text.data.toList).1) Y3) 45) (λpV=>NS (jC 4 [11] [(0,A_ 4 pV 12),(2,A_ 3 b20 12)] [(3,(zC (rV ((jO Z k a.text.data.toList).1) Y3)))] (eO [A_ 3 b20 12] aE ⟨Y3,by rw [(F8 h7 hl).trans ((agV hk3).trans (agV hk2))]<;>rfl,rfl,by rw [(F8 h7 hl).trans ((agV hk3).trans (agV hk2))];exact mg⟩)))
end
section
open Go.RowKit Go.Maps bK aF
attribute [local irreducible] av bN aq aB kS
noncomputable abbrev zW1 (b1:Nat) (Y:RL) (Z:RS) (A1:Option Addr) (c:aN) (c1:Nat) (B1) (d1):=(.aD b1 [.slice Y.A (Z.ns.length) (Y.c),.slice Y.G (Z.aG.length) (Y.cg),vI (Z.cH),vI (Z.aJ),.slice A1 ((del c.aL Z.us).length) (c1),.slice B1 ((del c.aL Z.us).length) (d1),vI (Z.cN),vI (Z.cB),vI (Z.cH),vI (Z.cS),vI (Z.cZ),vI (Z.last)] 45:HP)
theorem Xg {β:Bs} (Z:RS) (Y:RL) (hI:lU β Z Y.L Y.H Y.V) (hC:RC Z) (hD:RD 0 Z) (c:aN) (hn:c.name.size<=1048576) (ht:c.text.size<=1048576) (iP:c.op=9->∀k,iD Z c.aL=.ok k->(nd Z.ns k).kind=2) :
 cE Tryz.prog β 57 #[.agg ⟨rV Z Y⟩,.agg ⟨aQ c⟩] [gZ Y Z,gM Y Z] (λβ' v l=>∃Y',v=.tuple #[.agg ⟨rV ((cu Z c).1) Y'⟩,vI (cu Z c).2.1,vI (cu Z c).2.2]/\l=[]/\dz β' (cu Z c).1 Y'):=by
 refine oI Tryz.func57 Tryz.ntmps57 (λaE R=>SR (jB 1 [2] (λb1=>.aD b1 (rV Z Y) 45) (λb1=>jB 1 [3] (λb2=>.aD b2 (aQ c) 53) (λb2=>jB 3 [4] (λb3=>.aD b3 (rZ) 45) (λb3=>NZ (jK 2 [24] [(1,a_ 4 b2)] (NN (aq.block (SR (jK 2 [25] [] (NN (cP ((c.op:Int)=(1:Int)) (λpR=>?_) (λpR=>?_)))))))))))))
 ·refine SR (jK 4 [28,30] [(1,a_ 3 b1),(3,a_ 4 b2)] ?_)
  by_cases h1:0<=gI Z.ns c.other
  ·have hk1:=(mU h1).1
   refine av.rX 0 rfl zc (λlK=>gE [0,1] ((eP hI (λ_ _ h=>yY Y.A Y.c Z.ns Y.L h.n hC.fI (by have:=hC.ns;omega) c.other)).val (agX (Value.int .i64) (mU h1).2.2)) (jK 1 [7] [] (NZ (jK 2 [33] [(1,wF (((((bY Z.ns c.other):Nat):Int):Int)<(0:Int)))] (NF (KX (SQ (jK 8 [42] [(2,a_ 3 b1),(4,x_ (bY Z.ns c.other) Z.ns.length (lK)),(6,v_ 0 (nA Z.ns Y.L Y.A Y.c (bY Z.ns c.other) 1 hk1 rfl))] (NN (cN (((nd Z.ns (bY Z.ns c.other)).kind:Int)=(2:Int)) (λkQ=>?_) (λkQ=>?_)))))))))))
   ·refine SR (jC 4 [5,6] [(0,A_ 3 b1 12),(1,A_ 5 b3 12)] [(5,(zC (rV Z Y)))] (NN (aq.ret (aB.bD (aB.fW (aB.bD (aB.cQ [0,1] [gZ Y Z,gM Y Z] (λCK lX hL=>?_))))))))
    have fM:dz CK Z Y:=hI.at hL
    replace aE:=aE.trans lX
    exact rB _ [A_ 3 b3 12] [0] aE (⟨Y,by rw [aa0 pR h1 kQ]<;>rfl,rfl,by rw [aa0 pR h1 kQ];exact fM⟩)
   refine KX (SR (jK 2 [44,45] [(0,A_ 3 b1 12)] (av.cQ [0,1] [gZ Y Z,gM Y Z] (λβ1 cG hL=>?_))))
   have uf:dz β1 Z Y:=hI.at hL
   replace aE:=aE.trans cG
   refine jx [] (HM Z Y uf hC.ru (bY Z.ns c.other) hk1) ?_
   rintro nV _ _ fw ⟨Y3,rfl,rfl,mg⟩
   replace aE:=aE.trans fw
   exact jC 6 [5,6] [(3,A_ 3 b3 12)] [(3,(zC (rV ((kV Z (bY Z.ns c.other)).1) Y3)))] (eO [A_ 3 b3 12] aE ⟨Y3,by rw [aa1 pR h1 kQ]<;>rfl,rfl,by rw [aa1 pR h1 kQ];exact mg⟩)
  refine gE [0,1] ((eP hI (λ_ _ h=>yY Y.A Y.c Z.ns Y.L h.n hC.fI (by have:=hC.ns;omega) c.other)).val (agX (Value.int .i64) (Cz h1))) (jK 1 [7] [] (NZ (jK 2 [33] [] (NT (SR (jC 4 [5,6] [(0,A_ 3 b1 12),(1,A_ 5 b3 12)] [(5,(zC (rV Z Y)))] (NN (aq.ret (aB.bD (aB.fW (aB.bD (aB.cQ [0,1] [gZ Y Z,gM Y Z] (λJO j6 hL=>?_)))))))))))))
  have fM:dz JO Z Y:=hI.at hL
  replace aE:=aE.trans j6
  exact rB _ [A_ 3 b3 12] [0] aE (⟨Y,by rw [aaZ pR (Cz h1)]<;>rfl,rfl,by rw [aaZ pR (Cz h1)];exact fM⟩)
 refine SR (jK 2 [50] [] (NN (cP ((c.op:Int)=(2:Int)) (λh50=>?_) (λh50=>?_))))
 ·refine SR (jK 2 [52,53] [(0,A_ 3 b1 12),(1,A_ 4 b2 13)] (jx [0,1] (L9 Z Y hI hC c hn 2) ?_))
  rintro β1 _ _ cG ⟨Y3,rfl,rfl,mg⟩
  replace aE:=aE.trans cG
  exact jC 6 [5,6] [(3,A_ 3 b3 12)] [(3,(zC (rV ((jh Z c 2).1) Y3)))] (eO [A_ 3 b3 12] aE ⟨Y3,by rw [adS h50]<;>rfl,rfl,by rw [adS h50];exact mg⟩)
 refine SR (jK 2 [58] [] (NN (cP ((c.op:Int)=(3:Int)) (λMa=>?_) (λMa=>?_))))
 ·refine SR (jK 2 [60,61] [(0,A_ 3 b1 12),(1,A_ 4 b2 13)] (jx [0,1] (L9 Z Y hI hC c hn 1) ?_))
  rintro β1 _ _ cG ⟨Y3,rfl,rfl,mg⟩
  replace aE:=aE.trans cG
  exact jC 6 [5,6] [(3,A_ 3 b3 12)] [(3,(zC (rV ((jh Z c 1).1) Y3)))] (eO [A_ 3 b3 12] aE ⟨Y3,by rw [adT Ma]<;>rfl,rfl,by rw [adT Ma];exact mg⟩)
 refine aq.join (λ(q:Bool)=>(q=true↔JN c.op)) (λ(q:Bool)=>[(2,vP b1),(3,vP b2),(4,vP b3),(24,vI (c.op)),(66,.bool q)]) (λ(q:Bool)=>[gZ Y Z,gM Y Z,.abs R,.aD b1 (rV Z Y) 45,pC b2 c,.aD b3 (rZ) 45]) ?_ (SR (jK 2 [66] [] (NN (cP ((c.op:Int)=(4:Int)) (λl6=>aq.skip (mJ ((decide ((c.op:Int)=(4:Int)))) [0,1,2,3,4,5] (⟨λe=>Pe,λe=>ahh (by unfold JN at e;omega)⟩))) (λl6=>SR (jK 2 [66] [] (NN (cP ((c.op:Int)=(5:Int)) (λl6=>aq.skip (mJ ((decide ((c.op:Int)=(5:Int)))) [0,1,2,3,4,5] (⟨λe=>Pe,λe=>ahh (by unfold JN at e;omega)⟩))) (λl6=>SR (jK 2 [66] [] (NN (cP ((c.op:Int)=(6:Int)) (λl6=>aq.skip (mJ ((decide ((c.op:Int)=(6:Int)))) [0,1,2,3,4,5] (⟨λe=>Pe,λe=>ahh (by unfold JN at e;omega)⟩))) (λl6=>SR (jK 2 [66] [] (NN (cP ((c.op:Int)=(8:Int)) (λl6=>aq.skip (mJ ((decide ((c.op:Int)=(8:Int)))) [0,1,2,3,4,5] (⟨λe=>Pe,λe=>ahh (by unfold JN at e;omega)⟩))) (λl6=>aq.region (jK 2 [66] [] (NL (mJ ((decide ((c.op:Int)=(14:Int)))) [0,1,2,3,4,5] (⟨λe=>Pe,λe=>ahh (by unfold JN at e;omega)⟩)))))))))))))))))))))
 rintro q hq
 refine aq.cond (b:=q) (λ_=>KB) (λl6=>?_) (λl6=>?_)
 ·have JC:=hq.1 l6
  refine SR (jK 5 [73,75,77] [(0,A_ 3 b1 12),(2,a_ 4 b2),(4,a_ 4 b2)] ?_)
  rcases rF hC c.aL c.name 192 with ⟨e,h1,EP⟩|⟨d,h1,hd⟩
  ·refine gE [0,1] ((eP hI (λ_ _ h=>oU Z Y h hC c.aL c.name hn 192)).val (agX exV h1)) (jK 5 [8,9] [] (NZ (jK 2 [82] [(1,Np ((e:Int)=(0:Int)) EP)] (NT (SR (jC 5 [5,6] [(0,A_ 3 b1 12),(2,A_ 5 b3 12)] [(5,(zC (rV Z Y)))] (NN (aq.ret (aB.bD (aB.fW (aB.bD (aB.cQ [0,1] [gZ Y Z,gM Y Z] (λβ6 zB hL=>?_)))))))))))))
   have fM:dz β6 Z Y:=hI.at hL
   replace aE:=aE.trans zB
   exact rB _ [A_ 3 b3 12] [0] aE (⟨Y,by rw [aa2 (hq.1 l6) h1]<;>rfl,rfl,by rw [aa2 (hq.1 l6) h1];exact fM⟩)
  refine gE [0,1] ((eP hI (λ_ _ h=>oU Z Y h hC c.aL c.name hn 192)).val (agX exV h1)) (jK 5 [8,9] [] (NZ (jK 2 [82] [(1,w_ (.bool false) rfl)] (NF (KX (SR (jK 3 [85,86,87] [(0,A_ 3 b1 12),(1,A_ 4 b2 13)] (jx [0,1] (T5 Z Y hI hC hD zc c ht d hd) ?_))))))))
  rintro β1 _ _ cG ⟨Y3,rfl,rfl,mg⟩
  replace aE:=aE.trans cG
  exact jC 6 [5,6] [(3,A_ 3 b3 12)] [(3,(zC (rV ((iF Z c d).1) Y3)))] (eO [A_ 3 b3 12] aE ⟨Y3,by rw [aa3 (hq.1 l6) h1]<;>rfl,rfl,by rw [aa3 (hq.1 l6) h1];exact mg⟩)
 have JC:¬(c.op=4\/c.op=5\/c.op=6\/c.op=8\/c.op=14):=λe=>by rw [hq.2 e] at l6;cases l6
 refine SR (jK 2 [92] [] (NN (cP ((c.op:Int)=(7:Int)) (λD3=>?_) (λD3=>?_))))
 ·refine SR (jK 2 [95,96] [(0,A_ 3 b1 12),(1,A_ 4 b2 13)] ?_)
  rcases LQ hC c 64 with ⟨a,e,h1,EP,PS⟩|⟨f,to,h1,hf,d6,PS⟩
  ·refine gE [0,1] ((eP hI (λ_ _ h=>FQ Z Y h hC c hn ht 64)).val PS) (jK 7 [10,11,12] [] (NZ (jK 2 [102] [(1,Np ((e:Int)=(0:Int)) EP)] (NT (SR (jC 5 [5,6] [(0,A_ 3 b1 12),(2,A_ 5 b3 12)] [(5,(zC (rV Z Y)))] (NN (aq.ret (aB.bD (aB.fW (aB.bD (aB.cQ [0,1] [gZ Y Z,gM Y Z] (λES kA hL=>?_)))))))))))))
   have fM:dz ES Z Y:=hI.at hL
   replace aE:=aE.trans kA
   exact rB _ [A_ 3 b3 12] [0] aE (⟨Y,by rw [aa4 D3 h1]<;>rfl,rfl,by rw [aa4 D3 h1];exact fM⟩)
  refine gE [0,1] ((eP hI (λ_ _ h=>FQ Z Y h hC c hn ht 64)).val PS) (jK 7 [10,11,12] [] (NZ (jK 2 [102] [(1,w_ (.bool false) rfl)] (NF (KX (SR (jK 4 [105,106,108] [(0,A_ 3 b1 12),(3,a_ 4 b2)] ?_)))))))
  rcases kz Z.ns f c.name with hl|⟨k,hl,hk⟩
  ·refine gE [0,1] ((eP hI (λ_ _ h=>jH Z Y h hC f hf c.name)).val (agX (Value.int .i64) hl)) (jK 1 [13] [] (NZ (jK 2 [111] [] (NT (SR (jC 4 [5,6] [(0,A_ 3 b1 12),(1,A_ 5 b3 12)] [(5,(zC (rV Z Y)))] (NN (aq.ret (aB.bD (aB.fW (aB.bD (aB.cQ [0,1] [gZ Y Z,gM Y Z] (λSv qc hL=>?_)))))))))))))
   have fM:dz Sv Z Y:=hI.at hL
   replace aE:=aE.trans qc
   exact rB _ [A_ 3 b3 12] [0] aE (⟨Y,by rw [aa6 D3 h1 hl]<;>rfl,rfl,by rw [aa6 D3 h1 hl];exact fM⟩)
  refine av.rX 0 rfl zc (λlK=>gE [0,1] ((eP hI (λ_ _ h=>jH Z Y h hC f hf c.name)).val (agX (Value.int .i64) hl)) (jK 1 [13] [] (NZ (jK 2 [111] [(1,wF (((k:Int):Int)<(0:Int)))] (NF (KX (SQ (jK 8 [120] [(2,a_ 3 b1),(4,x_ k Z.ns.length (lK)),(6,v_ 0 (nA Z.ns Y.L Y.A Y.c k 1 hk rfl))] (NN (cP (((nd Z.ns k).kind:Int)=(2:Int)) (λPU=>?_) (λPU=>?_)))))))))))
  ·refine SR (jC 4 [5,6] [(0,A_ 3 b1 12),(1,A_ 5 b3 12)] [(5,(zC (rV Z Y)))] (NN (aq.ret (aB.bD (aB.fW (aB.bD (aB.cQ [0,1] [gZ Y Z,gM Y Z] (λvT mI hL=>?_))))))))
   have fM:dz vT Z Y:=hI.at hL
   replace aE:=aE.trans mI
   exact rB _ [A_ 3 b3 12] [0] aE (⟨Y,by rw [aa7 D3 h1 hl PU]<;>rfl,rfl,by rw [aa7 D3 h1 hl PU];exact fM⟩)
  refine KX (SQ (jK 4 [122,123,125] [(0,A_ 3 b1 12),(3,a_ 4 b2)] ?_))
  rcases kz Z.ns to c.text with hl2|⟨t,hl2,ht⟩
  ·refine gE [0,1] ((eP hI (λ_ _ h=>jH Z Y h hC to d6 c.text)).val (agX (Value.int .i64) hl2)) (jK 1 [127] [] (NF (KX (SQ (jK 1 [129] [(0,A_ 3 b1 12)] (gE [0,1] (eP hI (λ_ _ h=>OZ Z Y h hC.toRB)) (jK 1 [131] [] (NN (cP (((((dJ Z.ns Z.ns.length):Nat):Int):Int)>=(8192:Int)) (λaf2=>?_) (λaf2=>?_))))))))))
   ·refine SR (jC 4 [5,6] [(0,A_ 3 b1 12),(1,A_ 5 b3 12)] [(5,(zC (rV Z Y)))] (NN (aq.ret (aB.bD (aB.fW (aB.bD (aB.cQ [0,1] [gZ Y Z,gM Y Z] (λPV qF hL=>?_))))))))
    have fM:dz PV Z Y:=hI.at hL
    replace aE:=aE.trans qF
    exact rB (.tuple #[.agg ⟨rV Z Y⟩,vI 0,vI 177]) [A_ 3 b3 12] [0] aE (⟨Y,by grind [aa9],rfl,by grind [aa9]⟩)
   refine KX (aq.seq (aq.wR 11 KB KB (kS.seg (k':=11) (bU:=[(4,vP b3),(133,.agg #[.slice Y.A (Z.ns.length) (Y.c),.slice Y.G (Z.aG.length) (Y.cg),vI (Z.cH),vI (Z.aJ),.slice Y.H (Z.us.length) (Y.ch),.slice Y.V (Z.us.length) (Y.cv),vI (Z.cN),vI (Z.cB),vI (Z.cH),vI (Z.cS),vI (Z.cZ),vI (Z.last)]),(134,vI ↑to),(136,.string c.text),(143,vI ((nd Z.ns k).id))]) (eZ:=[(∀F w,(aH 95 10 Y.A Z.ns.length Y.c (bG Y.L Z.ns)).h F w->w.cell? ⟨(bw Y.A),br Y.A+k*10,none⟩=some (vI ((nd Z.ns k).id))),((k:Nat):Int)=((k:Nat):Int),k<Z.ns.length,(⟨(bw Y.A),br Y.A,none⟩:Addr).spot=none,(Y.A:Option Addr)=some ⟨(bw Y.A),br Y.A,none⟩,b1=b1,b2=b2,b1=b1,b1=b1,b1=b1,b1=b1,b1=b1,b1=b1,b1=b1,b1=b1,b1=b1,b1=b1,b1=b1,b1=b1]) [⟨[.at 3,.at 3,.at 3,.at 3,.at 3,.at 3,.at 3,.at 3,.at 3,.at 3,.at 3,.at 3],none,none,none,none⟩,o_,o_,⟨[.at 4],none,none,none,none⟩,o_,o_,⟨[.at 3],none,none,none,none⟩,o_,⟨[],some k,none,some ⟨(bw Y.A),br Y.A,none⟩,none⟩,o_,⟨[.view 0 (.int .i64 ((nd Z.ns k).id))],none,none,none,none⟩] [4,133,134,136,143] (λ_ _=>KB) ⟨nA Z.ns Y.L Y.A Y.c k 0 hk rfl,rfl,zc,rfl,lK,rfl,rfl,rfl,rfl,rfl,rfl,rfl,rfl,rfl,rfl,rfl,rfl,rfl,rfl,trivial⟩ Pd (kS.done rfl (jx [0,1] (BL Z Y hI hC.toRB to d6 c.text (nd Z.ns k).id) ?_)))))
   rintro H6 _ _ pz ⟨L1,rfl,rfl,di⟩
   replace aE:=aE.trans pz
   refine jC 3 [5,6] [(0,A_ 5 b3 12)] [(5,(zC (rV (dh Z to c.text (nd Z.ns k).id) Y)))] (NN (aq.ret (aB.fW (aB.bD (aB.cQ [0,1] [.abs (aH 95 10 Y.A ((dh Z to c.text (nd Z.ns k).id).ns.length) Y.c (bG L1 (dh Z to c.text (nd Z.ns k).id).ns)),.abs (aH 3 1 Y.G ((dh Z to c.text (nd Z.ns k).id).aG.length) Y.cg (bH (dh Z to c.text (nd Z.ns k).id).aG))] (λEV kF hL=>?_))))))
   have fM:dz EV (dh Z to c.text (nd Z.ns k).id) ⟨Y.A,Y.c,L1,Y.G,Y.cg,Y.H,Y.ch,Y.V,Y.cv⟩:=di.at hL
   replace aE:=aE.trans kF
   exact rB _ [A_ 3 b3 12] [0] aE (⟨⟨Y.A,Y.c,L1,Y.G,Y.cg,Y.H,Y.ch,Y.V,Y.cv⟩,by rw [abb D3 h1 hl PU hl2 zc]<;>rfl,rfl,by grind [abb]⟩)
  refine gE [0,1] ((eP hI (λ_ _ h=>jH Z Y h hC to d6 c.text)).val (agX (Value.int .i64) hl2)) (jK 1 [127] [(0,wT (((t:Int):Int)>=(0:Int)))] (NT (SR (jC 4 [5,6] [(0,A_ 3 b1 12),(1,A_ 5 b3 12)] [(5,(zC (rV Z Y)))] (NN (aq.ret (aB.bD (aB.fW (aB.bD (aB.cQ [0,1] [gZ Y Z,gM Y Z] (λCn ld hL=>?_)))))))))))
  have fM:dz Cn Z Y:=hI.at hL
  replace aE:=aE.trans ld
  exact rB _ [A_ 3 b3 12] [0] aE (⟨Y,by rw [aa8 D3 h1 hl PU hl2]<;>rfl,rfl,by grind [aa8]⟩)
 refine SR (jK 2 [145] [] (NN (cP ((c.op:Int)=(9:Int)) (λo7=>?_) (λo7=>?_))))
 ·refine SR (jK 3 [148,150] [(0,A_ 3 b1 12),(2,a_ 4 b2)] ?_)
  rcases tI hC c.aL with hh|⟨k,hh,hk⟩
  ·refine gE [0,1] ((eP hI (λ_ _ h=>sX Z Y h hC c.aL)).val (agX exV hh)) (jK 5 [14,15] [] (NZ (jK 2 [155] [] (NT (SR (jC 5 [5,6] [(0,A_ 3 b1 12),(2,A_ 5 b3 12)] [(5,(zC (rV Z Y)))] (NN (aq.ret (aB.bD (aB.fW (aB.bD (aB.cQ [0,1] [gZ Y Z,gM Y Z] (λHZ uF hL=>?_)))))))))))))
   have fM:dz HZ Z Y:=hI.at hL
   replace aE:=aE.trans uF
   exact rB _ [A_ 3 b3 12] [0] aE (⟨Y,by rw [abd o7 hh]<;>rfl,rfl,by rw [abd o7 hh];exact fM⟩)
  refine av.rX 0 rfl zc (λlK=>gE [0,1] ((eP hI (λ_ _ h=>sX Z Y h hC c.aL)).val (agX exV hh)) (jK 5 [14,15] [] (NZ (jK 2 [155] [] (NF (KX (SQ (jK 8 [165] [(2,a_ 3 b1),(4,x_ k Z.ns.length (lK)),(6,v_ 0 (nA Z.ns Y.L Y.A Y.c k 1 hk rfl))] (NN (cP (((nd Z.ns k).kind:Int)=(2:Int)) (λIk=>SR (jC 4 [5,6] [(0,A_ 3 b1 12),(1,A_ 5 b3 12)] [(5,(zC (rV Z Y)))] (NN (aq.ret (aB.bD (aB.fW (aB.bD (aB.cQ [0,1] [gZ Y Z,gM Y Z] (λEU qE hL=>?_))))))))) (λIk=>agY (iP o7 k hh) Ik)))))))))))
  have fM:dz EU Z Y:=hI.at hL
  replace aE:=aE.trans qE
  exact rB _ [A_ 3 b3 12] [0] aE (⟨Y,by rw [abe o7 hh Ik]<;>rfl,rfl,by rw [abe o7 hh Ik];exact fM⟩)
 refine SR (jK 2 [175] [] (NN (cP ((c.op:Int)=(10:Int)) (λZY=>?_) (λZY=>?_))))
 ·refine SR (jK 2 [177,178] [(0,A_ 3 b1 12),(1,A_ 4 b2 13)] (jx [0,1] (Zs Z Y hI hC c) ?_))
  rintro β1 _ _ cG ⟨Y3,rfl,rfl,mg⟩
  replace aE:=aE.trans cG
  exact jC 6 [5,6] [(3,A_ 3 b3 12)] [(3,(zC (rV ((mo Z c).1) Y3)))] (eO [A_ 3 b3 12] aE ⟨Y3,by rw [abg ZY]<;>rfl,rfl,by rw [abg ZY];exact mg⟩)
 refine SR (jK 2 [183] [] (NN (cP ((c.op:Int)=(13:Int)) (λPW=>?_) (λPW=>?_))))
 ·refine SR (jK 4 [187,189] [(1,A_ 3 b1 4),(3,a_ 4 b2)] ?_)
  by_cases hm:c.aL∈bn Z.us
  ·obtain⟨k,fH,hk,hx,_⟩:=V9 hC.usr hm
   refine gL [] (Za Z.cH Z.aJ Y.H Y.V Y.ch Y.cv Z.us hI.h hI.v (by have:=hC.us;omega) c.aL hC.usr k hk fH hx) ?_
   rintro _ _ ⟨A1,c1,B1,d1,rfl,rfl⟩
   refine jN 8 [16,18] (λb16=>[(5,A_ 8 b16 4)]) (λ_=>[]) (λb16=>.aD b16 [vI (Z.cH),vI (Z.aJ),.slice A1 ((del c.aL Z.us).length) (c1),.slice B1 ((del c.aL Z.us).length) (d1)] 43) (λb16=>NS (jC 3 [] [(0,A_ 8 b16 4),(2,A_ 5 b1 4)] [(5,[(4,.slice A1 ((del c.aL Z.us).length) (c1)),(5,.slice B1 ((del c.aL Z.us).length) (d1))])] (NS (jK 1 [196] [(0,A_ 5 b1 12)] (av.mQ (Φ:=λβ'=>cC β' A1 (bH (bn (del c.aL Z.us)))) 0 [1,2,3,4,5,6,7,8] (fe:=[.abs (aH 3 1 B1 ((del c.aL Z.us).length) d1 (bH (iV (del c.aL Z.us)))),gZ Y Z,gM Y Z,.abs R,zW1 b1 Y Z A1 c c1 B1 d1,.aD b2 (aQ c) 53,.aD b3 (rZ) 45,.aD b16 [vI (Z.cH),vI (Z.aJ),.slice A1 ((del c.aL Z.us).length) (c1),.slice B1 ((del c.aL Z.us).length) (d1)] 43]) rfl rfl KB (λF w h β' h1 h2=>cC.iH h h1 h2) (λβ1 cG hH=>?_))))))
   replace hI:=hI.le cG
   replace aE:=aE.trans cG
   refine av.mQ (Φ:=λβ'=>cC β' B1 (bH (iV (del c.aL Z.us)))) 0 [1,2,3,4,5,6,7] (fe:=[gZ Y Z,gM Y Z,.abs R,zW1 b1 Y Z A1 c c1 B1 d1,.aD b2 (aQ c) 53,.aD b3 (rZ) 45,.aD b16 [vI (Z.cH),vI (Z.aJ),.slice A1 ((del c.aL Z.us).length) (c1),.slice B1 ((del c.aL Z.us).length) (d1)] 43]) rfl rfl KB (λF w h β' h1 h2=>cC.iH h h1 h2) (λnV fw hV=>?_)
   replace hI:=hI.le fw
   replace hH:=hH.le fw
   replace aE:=aE.trans fw
   refine av.cQ [0,1] [gZ Y Z,gM Y Z] (λyP iK hL=>?_)
   have uf:dz yP ({Z with us:=(del c.aL Z.us)}:RS) ⟨Y.A,Y.c,Y.L,Y.G,Y.cg,A1,c1,B1,d1⟩:=have q:=hI.at (ch:=Y.ch) (cv:=Y.cv) hL;⟨⟨q.g,hH.le hL.le,hV.le hL.le⟩,q.n⟩
   replace aE:=aE.trans iK
   refine jx [] (yh ({Z with us:=(del c.aL Z.us)}:RS) ⟨Y.A,Y.c,Y.L,Y.G,Y.cg,A1,c1,B1,d1⟩ uf ⟨hC.ns,hC.aG,ag1 TQ hC.us,hC.ah,hC.dat⟩) ?_
   rintro CK _ _ lX ⟨Y3,rfl,rfl,mg⟩
   replace aE:=aE.trans lX
   exact jC 4 [5,6] [(1,A_ 3 b3 12)] [(3,(zC (rV (gh ({Z with us:=(del c.aL Z.us)}:RS)) Y3)))] (eO [A_ 3 b3 12] aE ⟨Y3,by rw [Wy PW hm]<;>rfl,rfl,by rw [Wy PW hm];exact mg⟩)
  refine gE [] (TU Z.cH Z.aJ Y.H Y.V Y.ch Y.cv Z.us hI.h (by have:=hC.us;omega) c.aL (KP hm).1) (jN 8 [16,18] (λb17=>[(5,A_ 6 b17 4)]) (λ_=>[]) (λb17=>.aD b17 [vI (Z.cH),vI (Z.aJ),.slice Y.H (Z.us.length) (Y.ch),.slice Y.V (Z.us.length) (Y.cv)] 43) (λb17=>NS (jC 3 [] [(0,A_ 6 b17 4),(2,A_ 3 b1 4)] [] (NS (jK 1 [196] [(0,A_ 3 b1 12)] (av.cQ [0,1] [gZ Y Z,gM Y Z] (λyP iK hL=>?_)))))))
  have uf:dz yP Z Y:=hI.at hL
  replace aE:=aE.trans iK
  refine jx [] (yh Z Y uf hC.toRB) ?_
  rintro CK _ _ lX ⟨Y3,rfl,rfl,mg⟩
  replace aE:=aE.trans lX
  exact jC 4 [5,6] [(1,A_ 3 b3 12)] [(3,(zC (rV (gh Z) Y3)))] (eO [A_ 3 b3 12] aE ⟨Y3,by rw [Wz PW hm]<;>rfl,rfl,by rw [Wz PW hm];exact mg⟩)
 refine SR (jK 2 [199] [] (NN (cP ((c.op:Int)=(15:Int)) (λPX=>?_) (λPX=>?_))))
 ·refine SR (jK 2 [202,203] [(0,A_ 3 b1 12),(1,A_ 4 b2 13)] ?_)
  rcases LQ hC c 192 with ⟨a,e,h1,EP,PS⟩|⟨f,to,h1,hf,d6,PS⟩
  ·refine gE [0,1] ((eP hI (λ_ _ h=>FQ Z Y h hC c hn ht 192)).val PS) (jK 7 [19,20,21] [] (NZ (jK 2 [209] [(1,Np ((e:Int)=(0:Int)) EP)] (NT (SR (jC 5 [5,6] [(0,A_ 3 b1 12),(2,A_ 5 b3 12)] [(5,(zC (rV Z Y)))] (NN (aq.ret (aB.bD (aB.fW (aB.bD (aB.cQ [0,1] [gZ Y Z,gM Y Z] (λS7 sR hL=>?_)))))))))))))
   have fM:dz S7 Z Y:=hI.at hL
   replace aE:=aE.trans sR
   exact rB _ [A_ 3 b3 12] [0] aE (⟨Y,by rw [WA PX h1]<;>rfl,rfl,by rw [WA PX h1];exact fM⟩)
  refine gE [0,1] ((eP hI (λ_ _ h=>FQ Z Y h hC c hn ht 192)).val PS) (jK 7 [19,20,21] [] (NZ (jK 2 [209] [(1,w_ (.bool false) rfl)] (NF (KX (SR (jK 7 [213,214,216,217,219] [(0,A_ 3 b1 12),(3,a_ 4 b2),(6,a_ 4 b2)] (jx [0,1] (L8 Z Y hI hC hD zc f hf c.name to d6 c.text) ?_))))))))
  rintro β1 _ _ cG ⟨Y3,rfl,rfl,mg⟩
  replace aE:=aE.trans cG
  exact jN 6 [21,22] (λb19=>[(4,A_ 4 b19 12)]) (λ_=>[]) (λb19=>.aD b19 (rV ((gY Z f c.name to c.text).1) Y3) 45) (λb19=>NS (jC 5 [5,6] [(0,A_ 4 b19 12),(2,A_ 3 b3 12)] [(3,(zC (rV ((gY Z f c.name to c.text).1) Y3)))] (eO [A_ 3 b3 12] aE ⟨Y3,by rw [WB PX h1]<;>rfl,rfl,by rw [WB PX h1];exact mg⟩)))
 refine KX (SR (jC 4 [5,6] [(0,A_ 3 b1 12),(1,A_ 5 b3 12)] [(5,(zC (rV Z Y)))] (NN (aq.ret (aB.cQ [0,1] [gZ Y Z,gM Y Z] (λZ0 wN hL=>?_))))))
 have fM:dz Z0 Z Y:=hI.at hL
 replace aE:=aE.trans wN
 exact rB _ [A_ 3 b3 12] [0] aE (⟨Y,by rw [abk zc]<;>rfl,rfl,by rw [abk zc];exact fM⟩)
theorem Xh {β:Bs} (Z:RS) (Y:RL) (k:Nat) (hI:AF β Z Y.L Y.H Y.V k) (hC:RC Z) (hk:k<Z.ns.length) (c:aN) (h9:c.op=9) (hh:iD Z c.aL=.ok k) (hk2:¬(nd Z.ns k).kind=2) (hb:bF β c.dA c.data) (hl:c.data.length<=140737488355328) (hc:c.data.length<=c.dC) :
 cE Tryz.prog β 57 #[.agg ⟨rV Z Y⟩,.agg ⟨aQ c⟩] [gZ Y Z,gM Y Z,Sc Y k Z] (λβ' v l=>∃Y',v=.tuple #[.agg ⟨rV ((cu Z c).1) Y'⟩,vI (cu Z c).2.1,vI (cu Z c).2.2]/\l=[]/\dz β' (cu Z c).1 Y'):=by
 refine oI Tryz.func57 Tryz.ntmps57 (λaE R=>SR (jB 1 [2] (λyu=>.aD yu (rV Z Y) 45) (λyu=>jB 1 [3] (λlI=>.aD lI (aQ c) 53) (λlI=>jB 3 [4] (λER=>.aD ER (rZ) 45) (λER=>NZ (jK 2 [24] [(1,a_ 5 lI)] (NN (aq.block (SR (jK 2 [25] [] (NN (cP ((c.op:Int)=(1:Int)) (λpR=>agY pR (by omega)) (λpR=>SR (jK 2 [50] [] (NN (cP ((c.op:Int)=(2:Int)) (λh50=>agY h50 (by omega)) (λh50=>SR (jK 2 [58] [] (NN (cP ((c.op:Int)=(3:Int)) (λMa=>agY Ma (by omega)) (λMa=>SQ (jK 2 [66] [] (NN (cP ((c.op:Int)=(4:Int)) (λl6=>agY l6 (by omega)) (λl6=>SR (jK 2 [66] [] (NN (cP ((c.op:Int)=(5:Int)) (λl6=>agY l6 (by omega)) (λl6=>SR (jK 2 [66] [] (NN (cP ((c.op:Int)=(6:Int)) (λl6=>agY l6 (by omega)) (λl6=>SR (jK 2 [66] [] (NN (cP ((c.op:Int)=(8:Int)) (λl6=>agY l6 (by omega)) (λl6=>aq.region (jK 2 [66] [] (NN (cP ((c.op:Int)=(14:Int)) (λl6=>agY l6 (by omega)) (λl6=>SR (jK 2 [92] [] (NN (cP ((c.op:Int)=(7:Int)) (λD3=>agY D3 (by omega)) (λD3=>SR (jK 2 [145] [] (NN (cP ((c.op:Int)=(9:Int)) (λo7=>SR (jK 3 [148,150] [(0,A_ 4 yu 12),(2,a_ 5 lI)] (gE [0,1,2] (HT (x:=exV (.ok k)) (cb:=Y.L.dC k) hI rfl rfl (λ_ _ h=>(sX Z Y h hC c.aL).val (agX exV hh))) (jK 5 [14,15] [] (NZ (jK 2 [155] [] (NF (KX (SQ (av.rX 0 rfl zc (λlK=>jK 8 [165] [(2,a_ 4 yu),(4,x_ k Z.ns.length (lK)),(6,v_ 0 (nA Z.ns Y.L Y.A Y.c k 1 hk rfl))] (NN (cP (((nd Z.ns k).kind:Int)=(2:Int)) (λIk=>agY Ik hk2) (λIk=>KX (SR (jK 4 [167,168,170] [(0,A_ 4 yu 12),(3,a_ 5 lI)] (jx [0,1,2] (HY Z Y k hI hC hk c.dA c.dC c.data hb hl hc) ?_))))))))))))))))) (λo7=>agY h9 o7)))))))))))))))))))))))))))))))))))))))))))))))))
 rintro β1 _ _ cG ⟨Y3,rfl,rfl,mg⟩
 replace aE:=aE.trans cG
 exact jC 6 [5,6] [(3,A_ 3 ER 12)] [(3,(zC (rV ((jO Z k c.data).1) Y3)))] (eO [A_ 3 ER 12] aE ⟨Y3,by rw [abf h9 hh hk2]<;>rfl,rfl,by rw [abf h9 hh hk2];exact mg⟩)
end
section
open Go.RowKit Go.Maps bK aF
attribute [local irreducible] av bN aq aB
theorem sB {β:Bs} (A:Option Addr) (c:Nat) (d:List UInt8) (hA:bF β A d) (hl:d.length<=140737488355328) :
 aW Tryz.prog β 25 #[.slice A d.length c] [] (λv l=>∃B cap,v=.slice B d.length cap/\l=[.abs (aH 5 1 B d.length cap (dR d))]):=by
 exact SE Tryz.func25 Tryz.ntmps25 (λR=>SR (jK 1 [] [] (NS (jB 2 [3] (λb1=>.aD b1 [] 5) (λb1=>NS (av.mem (λw hS=>hS.ou (i:=1) (b:=b1) (cs:=[]) (e:=5) 1 0 KB rfl Pd) (jK 2 [5,6] [] (Ri 1 51 A d.length c (dR d) rfl (hA.src) (λA2 c3=>av.cL 1 rfl (by rw [ahd,List.nil_append]) (sl 7 (.slice A2 (0+d.length) (c3)) (.slice A2 (d.length) (c3)) (by rw [ahd]) (jK 1 [3] [] (NS (jK 2 [2] [] (eN ⟨A2,c3,rfl,rfl⟩ [1,0])))))) (hl:=by rw [tu,Nat.mul_one]) (h1:=pZ d)))))))))
theorem PY {β:Bs} (n:aO) (dA eA:Option Addr) (dC eC:Nat) (hD:bF β dA n.data) (hE:cU β eA n.ah) (hl1:n.data.length<=140737488355328) (hl2:n.ah.length<=1048576) :
 aW Tryz.prog β 47 #[.agg #[vI (n.id),vI (n.kind),vI (n.mode),vI (n.bg),vI (n.bh),vI (n.aU),vI (n.aI),.slice dA (n.data.length) (dC),.string n.target,.slice eA (n.ah.length) (eC)]] [] (λv l=>∃dB cd eB ce,v=.agg #[vI (n.id),vI (n.kind),vI (n.mode),vI (n.bg),vI (n.bh),vI (n.aU),vI (n.aI),.slice dB (n.data.length) (cd),.string n.target,.slice eB (n.ah.length) (ce)]/\l=[.abs (aH 5 1 dB n.data.length cd (dR n.data)),.abs (aH 149 2 eB n.ah.length ce (mT n.ah))]):=by
 refine SE Tryz.func47 Tryz.ntmps47 (λR=>SR (jB 1 [1] (λb4=>.aD b4 [vI (n.id),vI (n.kind),vI (n.mode),vI (n.bg),vI (n.bh),vI (n.aU),vI (n.aI),.slice dA (n.data.length) (dC),.string n.target,.slice eA (n.ah.length) (eC)] 95) (λb4=>jB 1 [2] (λb5=>.aD b5 [vI 0,vI 0,vI 0,vI 0,vI 0,vI 0,vI 0,.slice none (0) (0),.string ⟨#[]⟩,.slice none (0) (0)] 95) (λb5=>NS (jK 2 [5] [(1,a_ 1 b4)] (gL [] (sB dA dC n.data hD hl1) ?_))))))
 rintro _ _ ⟨dB,cd,rfl,rfl⟩
 exact jC 2 [] [(1,a_ 2 b4)] [(2,[(7,.slice dB (n.data.length) (cd))])] (NS (jB 2 [3] (λb6=>.aD b6 [] 149) (λb6=>NS (av.mem (λw hS=>hS.ou (i:=4) (b:=b6) (cs:=[]) (e:=149) 2 0 KB rfl Pd) (jK 3 [9,11] [(2,a_ 2 b4)] (mR 4 93 eA n.ah.length eC (mT n.ah) rfl (hE.src) (λA7 c8=>av.cL 4 rfl (by rw [ahd,List.nil_append]) (sl 12 (.slice A7 (0+n.ah.length) (c8)) (.slice A7 (n.ah.length) (c8)) (by rw [ahd]) (jK 1 [3] [] (NS (jC 3 [] [(2,a_ 2 b4)] [(2,[(9,.slice A7 (n.ah.length) (c8))])] (NS (jC 2 [] [(0,A_ 2 b4 10),(1,A_ 3 b5 10)] [(3,[(0,vI (n.id)),(1,vI (n.kind)),(2,vI (n.mode)),(3,vI (n.bg)),(4,vI (n.bh)),(5,vI (n.aU)),(6,vI (n.aI)),(7,.slice dB (n.data.length) (cd)),(8,.string n.target),(9,.slice A7 (n.ah.length) (c8))])] (eS [A_ 3 b5 10] ⟨dB,cd,A7,c8,rfl,rfl⟩ [0,4,1])))))))) (hl:=by rw [Lk]) (h1:=Eg n.ah)))))))
theorem hkl {ns:List aO} {k:Nat} (hk:k<=ns.length):(ns.take k).length=k:=by rw [ahi];omega
theorem ML {β:Bs} (A:Option Addr) (c:Nat) (ns:List aO) (L:eV) (hG:aP β A ns L) (hl:ns.length<=1048576) (hd:∀i,i<ns.length->(nd ns i).data.length<=140737488355328/\(nd ns i).ah.length<=1048576) :
 aW Tryz.prog β 19 #[.agg #[.slice A ns.length c]] [] (λv l=>∃B cap K,v=.agg #[.slice B ns.length cap]/\l=KF B cap ns K):=by
 refine SE Tryz.func19 Tryz.ntmps19 (λR=>SR (jB 1 [1] (λb9=>.aD b9 [.slice A (ns.length) (c)] 24) (λb9=>jB 1 [2] (λb10=>.aD b10 [.slice none (0) (0)] 24) (λb10=>NS (jB 2 [3] (λb11=>.aD b11 [] 95) (λb11=>NZ (av.mem (λw hS=>hS.ou (i:=3) (b:=b11) (cs:=[]) (e:=95) 10 0 KB rfl Pd) (av.mem (λw hS=>hS.IX (qY [] Hv)) (av.mem (λw hS=>hS.IX (kY [] Hv)) (jK 1 [4] [] (NN (aq.block (lJ (λ(k,Ao,cp,K)=>(k<=ns.length)) (λ(k,Ao,cp,K)=>ns.length-k) (λ(k,Ao,cp,K)=>[(1,vP b9),(2,vP b10),(3,.slice Ao (k) (cp)),(4,vI ↑k)]) (λ(k,Ao,cp,K)=>[.aD b9 [.slice A (ns.length) (c)] 24,.aD b10 [.slice none (0) (0)] 24,.abs (aH 95 10 Ao k cp (bG K (ns.take k))),.abs (kE (qY (ns.take k) K) k),.abs (kE (kY (ns.take k) K) k),.abs R]) (0,some ⟨b11,0,none⟩,0,Hv) [1,2,3,4,5,0] (ag0 _) ?_)))))))))))))
 rintro⟨k,Ao,cp,K⟩ hk
 refine SQ (jK 5 [10] [(2,a_ 0 b9)] (NN (cP ((((k:Nat):Int):Int)<(((ns.length:Nat):Int):Int)) (λh10=>?_) (λh10=>?_))))
 ·refine KX (aq.seq (aq.block (aq.region (jK 6 [13,18] [(2,a_ 0 b9),(4,x_ k ns.length (aP.hd hG (i:=k) zc)),(5,DR (iq L k (nd ns k)) (λ_ _ h=>aP.rd hG zc h))] (gL [] (PY (nd ns k) (L.dA k) (L.eA k) (L.dC k) (L.eC k) (hG.data k zc) (hG.ah k zc) (hd k zc).1 (hd k zc).2) ?_)))))
  rintro _ _ ⟨dB,cd,eB,ce,rfl,rfl⟩
  exact jB 1 [20] (λb12=>.aD b12 [vI ((nd ns k).id),vI ((nd ns k).kind),vI ((nd ns k).mode),vI ((nd ns k).bg),vI ((nd ns k).bh),vI ((nd ns k).aU),vI ((nd ns k).aI),.slice dB ((nd ns k).data.length) (cd),.string (nd ns k).target,.slice eB ((nd ns k).ah.length) (ce)] 95) (λb12=>mR 4 22 (some ⟨b12,0,none⟩) 1 1 [vI ((nd ns k).id),vI ((nd ns k).kind),vI ((nd ns k).mode),vI ((nd ns k).bg),vI ((nd ns k).bh),vI ((nd ns k).aU),vI ((nd ns k).aI),.slice dB ((nd ns k).data.length) (cd),.string (nd ns k).target,.slice eB ((nd ns k).ah.length) (ce)] rfl (fP (j:=8) rfl) (λMr Ms=>av.cL 4 rfl (agX (λx=>HP.abs (aH 95 10 _ _ _ x)) (vB (hkl hk) (uE zc) rfl rfl)) (sl 21 (.slice Mr (k+1) (Ms)) (.slice Mr ((k+1)) (Ms)) (rfl) (jK 1 [3] [] (LX (aq.region (jK 3 [4] [(1,wJ ((k:Int)+1) (↑(k+1)))] (NL (aB.mem (λw hS=>hS.uP (R':=(kY (ns.take (k+1)) (K.put k dB cd eB ce))) (i:=6) (j:=0) (ar:=[1,2,3,4,5,7,8]) rfl rfl KB rfl (Dl (hkl hk) (uE zc)) (Bz (hkl hk) (uE zc) rfl)) (aB.mem (λw hS=>hS.uP (R':=(qY (ns.take (k+1)) (K.put k dB cd eB ce))) (i:=5) (j:=1) (ar:=[0,2,3,4,6,7]) rfl rfl KB rfl (Dm (hkl hk) (uE zc)) (BA (hkl hk) (uE zc) rfl)) (tJ ((k+1),Mr,Ms,(K.put k dB cd eB ce)) [2,3,4,0,1,5] (zc))))))))))))
 refine XX (SR ?_)
 have hkn:k=ns.length:=zc
 have hgt:ns.take k=ns:=by rw [hkn,ahl]
 exact av.cL 2 rfl (by rw [hgt,hkn]) (av.cL 3 rfl (by rw [hgt,hkn]) (av.cL 4 rfl (by rw [hgt,hkn]) (sl 3 (.slice Ao (k) (cp)) (.slice Ao (ns.length) (cp)) (by rw [hkn]) (jC 3 [] [(2,a_ 1 b10)] [(1,[(0,.slice Ao (ns.length) (cp))])] (eS [a_ 1 b10] ⟨Ao,cp,K,rfl,rfl⟩ [2,3,4,5])))))
theorem Uq {β:Bs} (Z:RS) (Y:RL) (hR:dz β Z Y) (hB:RB Z) :
 cE Tryz.prog β 56 #[.agg ⟨rV Z Y⟩] [] (λβ' v l=>∃A1 c1 K G1 g1,v=.agg ⟨rW Z A1 c1 G1 g1 Y.H Y.ch Y.V Y.cv⟩/\l=[.abs (aH 95 10 A1 Z.ns.length c1 (bG K Z.ns)),.abs (aH 3 1 G1 Z.aG.length g1 (bH Z.aG)),.abs (kE (kY Z.ns K) Z.ns.length)]/\∀i,i<Z.ns.length->cU β' (K.eA i) (nd Z.ns i).ah):=by
 have hbg:=hB.aG
 refine oI Tryz.func56 Tryz.ntmps56 (λaE R=>SR (jB 1 [1] (λb1=>.aD b1 (rV Z Y) 45) (λb1=>jB 1 [2] (λb2=>.aD b2 (rZ) 45) (λb2=>NS (jK 2 [5] [(1,a_ 1 b1)] (gL [] (ML Y.A Y.c Z.ns Y.L hR.n (by have:=hB.ns;omega) hB.hd) ?_))))))
 rintro _ _ ⟨A1,c1,K,rfl,rfl⟩
 refine jC 2 [] [(1,a_ 4 b1)] [(4,[(0,.slice A1 (Z.ns.length) (c1))])] (NS (jB 2 [3] (λb3=>.aD b3 [] 3) (λb3=>NS (av.mem (λw hS=>hS.ou (i:=6) (b:=b3) (cs:=[]) (e:=3) 1 0 KB rfl Pd) (jK 3 [9,11] [(2,a_ 4 b1)] (mR 6 41 Y.G Z.aG.length Y.cg (bH Z.aG) rfl (hR.g.src) (λA4 c5=>av.cL 6 rfl (by rw [ahd,List.nil_append]) (sl 12 (.slice A4 (0+Z.aG.length) (c5)) (.slice A4 (Z.aG.length) (c5)) (by rw [ahd]) (jK 1 [3] [] (NS (av.mQ (Φ:=λβ'=>∀i,i<Z.ns.length->cU β' (K.eA i) (nd Z.ns i).ah) 1 [0,2,3,4,5,6] (fe:=[.abs (aH 95 10 A1 Z.ns.length c1 (bG K Z.ns)),.abs (kE (kY Z.ns K) Z.ns.length),.abs R,.aD b1 (rW Z A1 c1 Y.G Y.cg Y.H Y.ch Y.V Y.cv) 45,.aD b2 (rZ) 45,.abs (aH 3 1 A4 Z.aG.length c5 (bH Z.aG))]) rfl rfl KB (λF w h β' h1 h2=>afD h h1 h2) (λβ1 cG hE=>?_)))))) (hl:=by rw [show (bH Z.aG).length=Z.aG.length from ahf ..];omega) (h1:=Pc _)))))))
 replace aE:=aE.trans cG
 exact jC 3 [] [(2,a_ 3 b1)] [(3,[(1,.slice A4 (Z.aG.length) (c5))])] (NS (jC 2 [] [(0,A_ 3 b1 12),(1,A_ 4 b2 12)] [(4,(zC (rW Z A1 c1 A4 c5 Y.H Y.ch Y.V Y.cv)))] (eO [A_ 4 b2 12] aE ⟨A1,c1,K,A4,c5,rfl,rfl,hE⟩ [0,5,1,2])))
end
section
open Go.RowKit Go.Maps bK aF
section b
variable {P:Program} {β:Bs} {f:FuncId} {args:Array Value} {pre pre' R:List HP} {post:Bs->Value->List HP->Prop}
theorem cE.Nc (h:∀β':Bs,pW β R β'->cE P β' f args pre post):cE P β f args (pre++R) post:=by
 intro A w hS
 have h1:=aR.turn hS
 rw [←ahp] at h1
 obtain⟨β',g1,_,g3⟩:=h1.wg
 refine (h β' g1 A w (aR.turn g3)).mono ?_
 rintro e w' ⟨nV,v,l,dU,h2⟩
 exact⟨nV,v,l,g1.le.trans dU,h2⟩
theorem cE.aby {Φ:Bs->Prop} (h:∀β':Bs,β.le β'->Φ β'->cE P β' f args pre post):cE P β f args (.abs (ko β Φ)::pre) post:=by
 intro A w hS
 obtain⟨β',g1,g2,g3⟩:=aR.uz (l:=pre++[.abs A]) hS
 refine (h β' g1 g2 A w g3).mono ?_
 rintro e w' ⟨nV,v,l,dU,h2⟩
 exact⟨nV,v,l,g1.trans dU,h2⟩
theorem cE.aeb (h:cE P β f args pre' post) (hp:∀A w,aR β (pre++[.abs A]) w->aR β (pre'++[.abs A]) w):cE P β f args pre post:=λA w hS=>h A w (hp A w hS)
end b
section s
variable {β:Bs} {R Z:RS} {Y:RL} {c:aN} {e:Int} {k:Nat}
theorem Mt {A:Option Addr} {p:Nat}:qL R (fX c A p)=fX (qL R c) A p:=by
 unfold qL
 show (if c.op=12 then _ else _:aN)=fX (if c.op=12 then _ else _) A p
 by_cases h:c.op=12
 ·rw [agW h,agW h]
  show (match ic R c.aL c.name 64 with|.error e=>_|.ok d=>_:aN)=_
  cases ic R c.aL c.name 64 with
  |error e=>rfl
  |ok d=>
    simp only
    split<;>rfl
 rw [agV h,agV h]
 show (match iD R c.aL with|.error e=>_|.ok d=>_:aN)=_
 cases iD R c.aL<;>rfl
theorem DK (h:c.op=11\/c.op=12):tH R c=(R,qL R c):=agW h
theorem Xi (h:¬(c.op=11\/c.op=12)) (h1:(cu R c).2.2=0):tH R c=((cu R c).1,{c with answer:=(cu R c).2.1,code:=0}):=(agV h).trans (agW h1)
theorem Xj (h:¬(c.op=11\/c.op=12)) (h1:¬(cu R c).2.2=0):tH R c=(R,{c with answer:=0,code:=(cu R c).2.2}):=(agV h).trans (agV h1)
abbrev K2 (R:RS) (K:eV):HP:=.abs (kE (kY R.ns K) R.ns.length)
abbrev CR (R:RS) (K:eV) (β:Bs):Prop:=∀i,i<R.ns.length->cU β (K.eA i) (nd R.ns i).ah
theorem GQ (hR:dz β Z Y) (hB:RB Z):aW Tryz.prog β 56 #[.agg ⟨rV Z Y⟩] [] (λv l=>∃A1 c1 K G1 g1,v=.agg ⟨rV Z ⟨A1,c1,K,G1,g1,Y.H,Y.ch,Y.V,Y.cv⟩⟩/\l=[.abs (ko β (CR Z K)),.abs (aH 95 10 A1 Z.ns.length c1 (bG K Z.ns)),.abs (aH 3 1 G1 Z.aG.length g1 (bH Z.aG)),K2 Z K]):=
 (cE.Jr (ι:=Option Addr×Nat×eV×Option Addr×Nat) (vv:=λx=>.agg ⟨rV Z ⟨x.1,x.2.1,x.2.2.1,x.2.2.2.1,x.2.2.2.2,Y.H,Y.ch,Y.V,Y.cv⟩⟩) (ll:=λx=>[.abs (aH 95 10 x.1 Z.ns.length x.2.1 (bG x.2.2.1 Z.ns)),.abs (aH 3 1 x.2.2.2.1 Z.aG.length x.2.2.2.2 (bH Z.aG)),K2 Z x.2.2.1]) (Φ:=λx=>CR Z x.2.2.1)
  ((Uq Z Y hR hB).mono (by rintro β' v l _ ⟨A1,c1,K,G1,g1,rfl,rfl,h⟩;exact⟨(A1,c1,K,G1,g1),rfl,rfl,h⟩))).mono Pe
theorem Xk {A1 G1:Option Addr} {c1 g1:Nat} {K:eV} (hR:dz β Z Y) (hC:RC Z) (hD:RD 0 Z) (hn:c.name.size<=1048576) (ht:c.text.size<=1048576) (hb:bF β c.dA c.data) (hl:c.data.length<=140737488355328) (hc:c.data.length<=c.dC) :
 aW Tryz.prog β 57 #[.agg ⟨rV Z ⟨A1,c1,K,G1,g1,Y.H,Y.ch,Y.V,Y.cv⟩⟩,.agg ⟨aQ c⟩] [.abs (ko β (CR Z K)),.abs (aH 95 10 A1 Z.ns.length c1 (bG K Z.ns)),.abs (aH 3 1 G1 Z.aG.length g1 (bH Z.aG)),K2 Z K]
  (λv l=>∃Y',v=.tuple #[.agg ⟨rV (cu Z c).1 Y'⟩,.int .i64 (cu Z c).2.1,.int .i64 (cu Z c).2.2]/\l=[.abs (ko β (λβ'=>dz β' (cu Z c).1 Y'))]):=by
 refine (cE.Jr (ι:=RL) (vv:=λY'=>.tuple #[.agg ⟨rV (cu Z c).1 Y'⟩,.int .i64 (cu Z c).2.1,.int .i64 (cu Z c).2.2]) (ll:=λ_=>[]) (Φ:=λY' β'=>dz β' (cu Z c).1 Y') (cE.aby λβ' dU hE=>?_)).mono Pe
 by_cases h9:∃k,c.op=9/\iD Z c.aL=.ok k/\¬(nd Z.ns k).kind=2
 ·obtain⟨k,h1,h2,h3⟩:=h9
  have hk:k<Z.ns.length:=by
   grind [tI]
  refine cE.aeb (pre':=[.abs (aH 95 10 A1 Z.ns.length c1 (bG K Z.ns)),.abs (aH 3 1 G1 Z.aG.length g1 (bH Z.aG)),.abs (kY Z.ns K k)]++[.abs (kE (nR (kY Z.ns K) k eH.none) Z.ns.length)]) (cE.Nc λnV hL=>?_) (λA w hS=>?_)
  ·have hd:∀i,i<Z.ns.length->i≠k->bF nV (K.dA i) (nd Z.ns i).data:=by
    obtain⟨F,q1,q2⟩:=hL.get 0 rfl
    refine kE.base q1 q2 rfl (Φ:=λi b=>i≠k->bF b (K.dA i) (nd Z.ns i).data) (λi _ F hF hO bX=>?_)
    have hF:(HP.abs (kY Z.ns K i)).h F nV.w0:=by
     have e:nR (kY Z.ns K) k eH.none i=kY Z.ns K i:=agV bX
     rw [e] at hF;exact hF
    exact cC.iH (show (HP.abs (aH 5 1 (K.dA i) (nd Z.ns i).data.length (K.dC i) (dR (nd Z.ns i).data))).h F _ from hF) hO rfl
   have hI:AF nV Z K Y.H Y.V k:=⟨hd,λi hi=>(hE i hi).le hL.le,(hR.h.le dU).le hL.le,(hR.v.le dU).le hL.le⟩
   refine (Xh Z ⟨A1,c1,K,G1,g1,Y.H,Y.ch,Y.V,Y.cv⟩ k hI hC hk c h1 h2 h3 ((hb.le dU).le hL.le) hl hc).mono ?_
   grind
  have:=hS.Rs (i:=2) (k:=k) rfl hk
  exact this.pick (ar:=[0,1,4,2,3]) rfl rfl
 refine cE.Nc (pre:=[.abs (aH 95 10 A1 Z.ns.length c1 (bG K Z.ns)),.abs (aH 3 1 G1 Z.aG.length g1 (bH Z.aG))]) (R:=[K2 Z K]) λnV hL=>?_
 have hI:lU nV Z K Y.H Y.V:=by
  obtain⟨F,q1,q2⟩:=hL.get 0 rfl
  exact⟨ady q1 q2 rfl,λi hi=>(hE i hi).le hL.le,(hR.h.le dU).le hL.le,(hR.v.le dU).le hL.le⟩
 refine (Xg Z ⟨A1,c1,K,G1,g1,Y.H,Y.ch,Y.V,Y.cv⟩ hI hC hD c hn ht (λh1 k h2=>ahk (λh3=>h9 ⟨k,h1,h2,h3⟩))).mono ?_
 grind
end s
section s
variable {β:Bs} {Z:RS} {Y:RL} {au d:Nat} {name:ByteArray} {a:dK}
theorem Z2 {A1 G1:Option Addr} {c1 g1:Nat} {K:eV} (hR:dz β Z Y) (hC:RC Z) (hD:RD 0 Z) (Cb:au<Z.ns.length) (hd:d<Z.ns.length) (d6:a.to.size<=1048576) (yt:a.text.size<=1048576) (Xf:a.op=1->(bP Z d name nF).2=0->RC (jV Z d name nF)) :
 aW Tryz.prog β 73 #[.agg ⟨rV Z ⟨A1,c1,K,G1,g1,Y.H,Y.ch,Y.V,Y.cv⟩⟩,.int .i64 ((au:Nat):Int),.int .i64 ((d:Nat):Int),.string name,.agg #[.int .i64 a.at_,.int .i64 a.op,.string a.path,.string a.to,.string a.text]]
  [.abs (ko β (CR Z K)),.abs (aH 95 10 A1 Z.ns.length c1 (bG K Z.ns)),.abs (aH 3 1 G1 Z.aG.length g1 (bH Z.aG)),K2 Z K]
  (λv l=>∃Y',v=.tuple #[.agg ⟨rV (fk Z au d name a).1 Y'⟩,.int .i64 (fk Z au d name a).2]/\l=[.abs (ko β (λβ'=>dz β' (fk Z au d name a).1 Y'))]):=by
 refine (cE.Jr (ι:=RL) (vv:=λY'=>.tuple #[.agg ⟨rV (fk Z au d name a).1 Y'⟩,.int .i64 (fk Z au d name a).2]) (ll:=λ_=>[]) (Φ:=λY' β'=>dz β' (fk Z au d name a).1 Y') (cE.aby λβ' dU hE=>?_)).mono Pe
 by_cases h9:∃k:Nat,¬(1<=a.op/\a.op<=6)/\bV Z.ns d name=(k:Int)/\¬(nd Z.ns k).kind=3/\¬(nd Z.ns k).kind=2
 ·obtain⟨k,h1,h2,h3,h4⟩:=h9
  have hk:k<Z.ns.length:=by
   grind [kz]
  refine cE.aeb (pre':=[.abs (aH 95 10 A1 Z.ns.length c1 (bG K Z.ns)),.abs (aH 3 1 G1 Z.aG.length g1 (bH Z.aG)),.abs (kY Z.ns K k)]++[.abs (kE (nR (kY Z.ns K) k eH.none) Z.ns.length)]) (cE.Nc λnV hL=>?_) (λA w hS=>?_)
  ·have hd2:∀i,i<Z.ns.length->i≠k->bF nV (K.dA i) (nd Z.ns i).data:=by
    obtain⟨F,q1,q2⟩:=hL.get 0 rfl
    refine kE.base q1 q2 rfl (Φ:=λi b=>i≠k->bF b (K.dA i) (nd Z.ns i).data) (λi _ F hF hO bX=>?_)
    have hF:(HP.abs (kY Z.ns K i)).h F nV.w0:=by
     have e:nR (kY Z.ns K) k eH.none i=kY Z.ns K i:=agV bX
     rw [e] at hF;exact hF
    exact cC.iH (show (HP.abs (aH 5 1 (K.dA i) (nd Z.ns i).data.length (K.dC i) (dR (nd Z.ns i).data))).h F _ from hF) hO rfl
   have hI:AF nV Z K Y.H Y.V k:=⟨hd2,λi hi=>(hE i hi).le hL.le,(hR.h.le dU).le hL.le,(hR.v.le dU).le hL.le⟩
   refine (ZX Z ⟨A1,c1,K,G1,g1,Y.H,Y.ch,Y.V,Y.cv⟩ k hI hC hk au Cb d hd name a d6 yt h1 h2 h3 h4).mono ?_
   grind
  have:=hS.Rs (i:=2) (k:=k) rfl hk
  exact this.pick (ar:=[0,1,4,2,3]) rfl rfl
 refine cE.Nc (pre:=[.abs (aH 95 10 A1 Z.ns.length c1 (bG K Z.ns)),.abs (aH 3 1 G1 Z.aG.length g1 (bH Z.aG))]) (R:=[K2 Z K]) λnV hL=>?_
 have hI:lU nV Z K Y.H Y.V:=by
  obtain⟨F,q1,q2⟩:=hL.get 0 rfl
  exact⟨ady q1 q2 rfl,λi hi=>(hE i hi).le hL.le,(hR.h.le dU).le hL.le,(hR.v.le dU).le hL.le⟩
 refine (ZV Z ⟨A1,c1,K,G1,g1,Y.H,Y.ch,Y.V,Y.cv⟩ hI hC hD au Cb d hd name a d6 yt Xf (λh1 k h2=>ahk (λh3=>h9 ⟨k,h1,h2,λe=>h3 (.inl e),λe=>h3 (.inr e)⟩))).mono ?_
 grind
theorem Nd {r:Int} (h:a.op<1\/a.op>7):mr Z r a=(Z,230):=agW h
theorem abz {r:Int} (h:¬(a.op<1\/a.op>7)) (h1:¬0<=gI Z.ns r):mr Z r a=(Z,141):=by unfold mr;rw [agV h,agV h1]
theorem Sw {r:Int} (h:¬(a.op<1\/a.op>7)) (h1:0<=gI Z.ns r) (h2:¬(nd Z.ns (bY Z.ns r)).kind=2):mr Z r a=(Z,173):=by unfold mr;rw [agV h,agW h1,agV h2]
theorem Xl {r e:Int} (h:¬(a.op<1\/a.op>7)) (h1:0<=gI Z.ns r) (h2:(nd Z.ns (bY Z.ns r)).kind=2) (hw:mO Z (bY Z.ns r) a.path=.error e):mr Z r a=(Z,e):=by unfold mr;rw [agV h,agW h1,agW h2,hw]
theorem abA {r:Int} (h:¬(a.op<1\/a.op>7)) (h1:0<=gI Z.ns r) (h2:(nd Z.ns (bY Z.ns r)).kind=2) (hw:mO Z (bY Z.ns r) a.path=.ok (d,name)) (h3:¬(fk Z (bY Z.ns r) d name a).2=0):mr Z r a=(Z,(fk Z (bY Z.ns r) d name a).2):=by
 grind [mr]
theorem abB {r:Int} (h:¬(a.op<1\/a.op>7)) (h1:0<=gI Z.ns r) (h2:(nd Z.ns (bY Z.ns r)).kind=2) (hw:mO Z (bY Z.ns r) a.path=.ok (d,name)) (h3:(fk Z (bY Z.ns r) d name a).2=0):mr Z r a=((fk Z (bY Z.ns r) d name a).1,0):=by
 grind [mr]
end s
end
section
open Go.RowKit Go.Maps bK aF
attribute [local irreducible] av bN aq aB fN oo
theorem acr {β:Bs} (Z:RS) (Y:RL) (hR:dz β Z Y) (hC:RC Z) (hD:RD 0 Z) (au:Int) (a:dK) (hpa:a.path.size<=1048576) (d6:a.to.size<=1048576) (yt:a.text.size<=1048576) (Xf:0<=gI Z.ns au->(nd Z.ns (bY Z.ns au)).kind=2->∀d name,mO Z (bY Z.ns au) a.path=.ok (d,name)->a.op=1->(bP Z d name nF).2=0->RC (jV Z d name nF)) :
 cE Tryz.prog β 54 #[.agg ⟨rV Z Y⟩,vI (au),.agg #[vI (a.at_),vI (a.op),.string a.path,.string a.to,.string a.text]] [] (λβ' v l=>∃Y',v=.tuple #[.agg ⟨rV ((mr Z au a).1) Y'⟩,vI (mr Z au a).2]/\l=[]/\dz β' (mr Z au a).1 Y'):=by
 refine oI Tryz.func54 Tryz.ntmps54 (λaE R=>SR (jB 1 [3] (λb1=>.aD b1 (rV Z Y) 45) (λb1=>jB 1 [5] (λb2=>.aD b2 [vI (a.at_),vI (a.op),.string a.path,.string a.to,.string a.text] 68) (λb2=>jB 2 [6] (λb3=>.aD b3 (rZ) 45) (λb3=>NZ (jK 4 [16] [(1,a_ 2 b2)] (sP 16 ((a.op:Int)<(1:Int)) (λo6=>jK 4 [20] [] (NT (SR (jC 3 [7] [(0,A_ 1 b1 12),(1,A_ 3 b3 12)] [(3,(zC (rV Z Y)))] (eO [A_ 3 b3 12] aE ⟨Y,by rw [Nd zc]<;>rfl,rfl,by rw [Nd zc];exact hR⟩))))) (λo6=>jK 4 [20] [(1,a_ 2 b2)] (NN (cP ((a.op:Int)>(7:Int)) (λo5=>SR (jC 3 [7] [(0,A_ 1 b1 12),(1,A_ 3 b3 12)] [(3,(zC (rV Z Y)))] (eO [A_ 3 b3 12] aE ⟨Y,by rw [Nd zc]<;>rfl,rfl,by rw [Nd zc];exact hR⟩))) (λo5=>KX (SR (jK 3 [23,24] [(1,a_ 1 b1)] ?_)))))))))))))
 by_cases h1:0<=gI Z.ns au
 ·have hk1:=(mU h1).1
  refine gE [] ((yY Y.A Y.c Z.ns Y.L hR.n hC.fI (by have:=hC.ns;omega) au).val (agX (Value.int .i64) (mU h1).2.2)) (jK 1 [8] [] (NZ (jK 2 [27] [(1,wF (((((bY Z.ns au):Nat):Int):Int)<(0:Int)))] (NF (KX (SQ (jK 8 [36] [(2,a_ 1 b1),(4,x_ (bY Z.ns au) Z.ns.length (aP.hd hR.n (i:=(bY Z.ns au)) zc)),(6,r_ (aP.rd hR.n (i:=(bY Z.ns au)) zc (j:=1) rfl))] (NN (cN (((nd Z.ns (bY Z.ns au)).kind:Int)=(2:Int)) (λDU=>SR (jC 3 [7] [(0,A_ 1 b1 12),(1,A_ 3 b3 12)] [(3,(zC (rV Z Y)))] (eO [A_ 3 b3 12] aE ⟨Y,by rw [Sw zc h1 DU]<;>rfl,rfl,by rw [Sw zc h1 DU];exact hR⟩))) (λDU=>KX (SR (jK 4 [39,40,42] [(0,A_ 1 b1 12),(3,a_ 2 b2)] ?_))))))))))))
  rcases hw:mO Z (bY Z.ns au) a.path with e|⟨d,name⟩
  ·have he:=PN hw
   exact gE [] ((F9 Z Y hR hC (bY Z.ns au) hk1 a.path hpa).val (agX AQ hw)) (jK 7 [9,10,11] [] (NZ (jK 2 [48] [] (NN (cN ((e:Int)=(0:Int)) (λh48=>SR (jC 4 [7] [(0,A_ 1 b1 12),(2,A_ 3 b3 12)] [(3,(zC (rV Z Y)))] (eO [A_ 3 b3 12] aE ⟨Y,by rw [Xl zc h1 DU hw]<;>rfl,rfl,by rw [Xl zc h1 DU hw];exact hR⟩))) (λh48=>agY (by simpa using h48) he))))))
  have hd:=Sq hk1 hw
  refine gE [] ((F9 Z Y hR hC (bY Z.ns au) hk1 a.path hpa).val (agX AQ hw)) (jK 7 [9,10,11] [] (NZ (jK 2 [48] [] (NF (KX (aq.seq (aq.qZ (S:=[.aD b1 (rV Z Y) 45,.aD b2 [vI (a.at_),vI (a.op),.string a.path,.string a.to,.string a.text] 68]) (yN [0,2,3,4,5] (oJ 10 [(false,11),(false,12)] [(false,1),(false,6),(true,7),(true,8),(true,9)])) [1,2] (gT (oJ 10 [(false,11),(false,12)] [(false,1),(false,6),(true,7),(true,8),(true,9)]) [(3,vP b1),(6,vP b3),(52,.agg ⟨rV Z Y⟩),(54,vI ↑(bY Z.ns au)),(55,vI ↑d),(56,.string name),(57,.agg #[vI (a.at_),vI (a.op),.string a.path,.string a.to,.string a.text])] [0,2,3,4,5] [(0,A_ 0 b1 12),(4,A_ 1 b2 5)] (oo.one (j:=10) (dj:=12) (R:=λf_ l_=>∃A2:Option Addr,∃c2:Nat,∃K:eV,∃G2:Option Addr,∃g2:Nat,∃Y2:RL,f_=[(60,vI ((fk Z (bY Z.ns au) d name a).2)),(59,.agg ⟨rV ((fk Z (bY Z.ns au) d name a).1) Y2⟩),(51,.tuple #[.agg ⟨rV ((fk Z (bY Z.ns au) d name a).1) Y2⟩,vI ((fk Z (bY Z.ns au) d name a).2)]),(58,.tuple #[.agg ⟨rV ((fk Z (bY Z.ns au) d name a).1) Y2⟩,vI ((fk Z (bY Z.ns au) d name a).2)]),(53,.agg ⟨rW Z A2 c2 G2 g2 Y.H Y.ch Y.V Y.cv⟩),(3,vP b1),(6,vP b3),(52,.agg ⟨rV Z Y⟩),(54,vI ↑(bY Z.ns au)),(55,vI ↑d),(56,.string name),(57,.agg #[vI (a.at_),vI (a.op),.string a.path,.string a.to,.string a.text])]/\l_=[.abs (ko β (λβ'=>dz β' (fk Z (bY Z.ns au) d name a).1 Y2))]) [1,2] [(false,1,53),(false,6,58),(true,7,51),(true,8,59),(true,9,60)] (jm.of (ι:=Nat) (v:=λ(b4:Nat)=>vP b4) (l:=λ(b4:Nat)=>[.aD b4 (rZ) 45]) [53,58,51,59,60] rfl rfl rfl rfl ?_) ?_ ?_)))))))))
  ·intro u Aq
   exact jB 1 [12] (λb4=>.aD b4 (rZ) 45) (λb4=>NL (MD b4 [12,53,58,51,59,60,3,6,52,54,55,56,57] [1,0]))
  ·refine ez.step (jm.of (ι:=(Option Addr)×Nat×eV×(Option Addr)×Nat) (v:=λ((A2,c2,K,G2,g2):(Option Addr)×Nat×eV×(Option Addr)×Nat)=>.agg ⟨rW Z A2 c2 G2 g2 Y.H Y.ch Y.V Y.cv⟩) (l:=λ((A2,c2,K,G2,g2):(Option Addr)×Nat×eV×(Option Addr)×Nat)=>[.abs (ko β (CR Z K)),.abs (aH 95 10 A2 Z.ns.length c2 (bG K Z.ns)),.abs (aH 3 1 G2 Z.aG.length g2 (bH Z.aG)),.abs (kE (kY Z.ns K) Z.ns.length)]) [12] rfl rfl rfl rfl ?_) ?_
   ·intro u Aq
    refine gL [] (GQ hR hC.toRB) ?_
    rintro _ _ ⟨A2,c2,K,G2,g2,rfl,rfl⟩
    exact NL (MD (A2,c2,K,G2,g2) [53,12,3,6,52,54,55,56,57] [0,1,2,3,4])
   rintro _ _ ⟨⟨A2,c2,K,G2,g2⟩,rfl,rfl⟩
   refine (ez.step (jm.of (ι:=RL) (v:=λ(Y2:RL)=>.tuple #[.agg ⟨rV ((fk Z (bY Z.ns au) d name a).1) Y2⟩,vI ((fk Z (bY Z.ns au) d name a).2)]) (l:=λ(Y2:RL)=>[.abs (ko β (λβ'=>dz β' (fk Z (bY Z.ns au) d name a).1 Y2))]) [12] rfl rfl rfl rfl ?_) ?_)
   ·intro u Aq
    exact gX [0,1,2,3] (Z2 (A1:=A2) (c1:=c2) (K:=K) (G1:=G2) (g1:=g2) hR hC hD hk1 hd d6 yt (Xf h1 DU d name hw)) (λY2=>NL (MD Y2 [58,12,53,3,6,52,54,55,56,57] [0,1]))
   rintro _ _ ⟨Y2,rfl,rfl⟩
   exact (ez.read (.tuple #[.agg ⟨rV ((fk Z (bY Z.ns au) d name a).1) Y2⟩,vI ((fk Z (bY Z.ns au) d name a).2)]) (ez.read (.agg ⟨rV ((fk Z (bY Z.ns au) d name a).1) Y2⟩) (ez.read (.int .i64 ((fk Z (bY Z.ns au) d name a).2)) ⟨A2,c2,K,G2,g2,Y2,rfl,rfl⟩)))
  rintro _ _ ⟨A2,c2,K,G2,g2,Y2,rfl,rfl⟩ _ _ ⟨b4,rfl,rfl⟩
  refine kC [3,4] [] [(0,A_ 1 b4 12)] [(1,(zC (rV ((fk Z (bY Z.ns au) d name a).1) Y2)))] (fN.last KB (jK 1 [11] [] (NL (aB.np (NX (SQ (av.uz 0 [1,2,3,4,5] (fe:=[.aD b4 (rV ((fk Z (bY Z.ns au) d name a).1) Y2) 45,.abs R,.aD b1 (rV Z Y) 45,.aD b2 [vI (a.at_),vI (a.op),.string a.path,.string a.to,.string a.text] 68,.aD b3 (rZ) 45]) rfl rfl KB (λJO j6 tN=>?_))))))))
  replace hR:=hR.le j6
  replace aE:=aE.trans j6
  exact jK 2 [62] [] (NN (cN (((fk Z (bY Z.ns au) d name a).2:Int)=(0:Int)) (λGh=>SR (jC 4 [7] [(0,A_ 2 b1 12),(2,A_ 4 b3 12)] [(4,(zC (rV Z Y)))] (eO [A_ 4 b3 12] aE ⟨Y,by rw [abA zc h1 DU hw Gh]<;>rfl,rfl,by rw [abA zc h1 DU hw Gh];exact hR⟩ [1]))) (λGh=>KX (SR (jC 3 [7] [(0,A_ 0 b4 12),(1,A_ 4 b3 12)] [(4,(zC (rV ((fk Z (bY Z.ns au) d name a).1) Y2)))] (eO [A_ 4 b3 12] aE ⟨Y2,by rw [abB zc h1 DU hw Gh]<;>rfl,rfl,by rw [abB zc h1 DU hw Gh];exact tN⟩ [1]))))))
 exact gE [] ((yY Y.A Y.c Z.ns Y.L hR.n hC.fI (by have:=hC.ns;omega) au).val (agX (Value.int .i64) (Cz h1))) (jK 1 [8] [] (NZ (jK 2 [27] [] (NT (SR (jC 3 [7] [(0,A_ 1 b1 12),(1,A_ 3 b3 12)] [(3,(zC (rV Z Y)))] (eO [A_ 3 b3 12] aE ⟨Y,by rw [abz zc h1]<;>rfl,rfl,by rw [abz zc h1];exact hR⟩)))))))
end
section
open Go.RowKit Go.Maps bK aF
attribute [local irreducible] av bN aq aB fN ck oo
noncomputable abbrev zX1 (b4:Nat):=(.aD b4 [vI 0,vI 0,vI 0,.string ⟨#[]⟩,.string ⟨#[]⟩,.slice none (0) (0),vI 0,vI 0,vI 0,vI 0,vI 0,vI 0,vI 0] 53:HP)
noncomputable abbrev zX2 (R:eH) (b1:Nat) (Z) (Y:RL) (b2:Nat) (c:aN) (b3:Nat) (b4:Nat) (b5:Nat) (B1) (p1):=([.abs R,.aD b1 (rV Z Y) 45,.aD b2 (aQ c) 53,.aD b3 (rZ) 45,zX1 b4,.aD b5 (aQ (fX {c with answer:=0} B1 p1)) 53]:List HP)
theorem Z4 {β:Bs} (Z:RS) (Y:RL) (hR:dz β Z Y) (hC:RC Z) (hD:RD 0 Z) (c:aN) (hn:c.name.size<=1048576) (ht:c.text.size<=1048576) (hb:bF β c.dA c.data) (hl:c.data.length<=140737488355328) (hc:c.data.length<=c.dC) :
 cE Tryz.prog β 35 #[.agg ⟨rV Z Y⟩,.agg ⟨aQ c⟩] [] (λβ' v l=>∃Y' B p,v=.tuple #[.agg ⟨rV ((tH Z c).1) Y'⟩,.agg ⟨aQ (fX (tH Z c).2 B p)⟩]/\l=[]/\dz β' (tH Z c).1 Y'/\bF β' B c.data):=by
 refine oI Tryz.func35 Tryz.ntmps35 (λaE R=>SR (jB 1 [2] (λb1=>.aD b1 (rV Z Y) 45) (λb1=>jB 1 [3] (λb2=>.aD b2 (aQ c) 53) (λb2=>jB 1 [4] (λb3=>.aD b3 (rZ) 45) (λb3=>jB 1 [5] (λb4=>.aD b4 [vI 0,vI 0,vI 0,.string ⟨#[]⟩,.string ⟨#[]⟩,.slice none (0) (0),vI 0,vI 0,vI 0,vI 0,vI 0,vI 0,vI 0] 53) (λb4=>NS (jN 3 [6] (λb5=>[(0,A_ 2 b2 13),(2,A_ 5 b5 13)]) (λ_=>[]) (λb5=>.aD b5 (aQ c) 53) (λb5=>NS (jK 2 [12] [(1,a_ 2 b2)] (gL [] (sB c.dA c.dC c.data hb hl) ?_))))))))))
 rintro _ _ ⟨B1,p1,rfl,rfl⟩
 refine jC 2 [] [(1,a_ 6 b5)] [(6,[(5,.slice B1 (c.data.length) (p1))])] (NS (av.mQ (Φ:=λβ'=>bF β' B1 c.data) 0 [1,2,3,4,5,6] (fe:=[.abs R,.aD b1 (rV Z Y) 45,.aD b2 (aQ c) 53,.aD b3 (rZ) 45,zX1 b4,.aD b5 (aQ (fX c B1 p1)) 53]) rfl rfl KB (λF w h β' h1 h2=>cC.iH h h1 h2) (λβ1 cG D4=>?_)))
 replace hR:=hR.le cG
 replace hb:=hb.le cG
 replace aE:=aE.trans cG
 refine jC 2 [] [(1,a_ 5 b5)] [(5,[(12,vI 0)])] (NN (aq.seq (aq.seq ?_)))
 by_cases bZ:c.op=11\/c.op=12
 ·refine aq.region (jK 4 [19] [(1,a_ 2 b2),(2,w_ (.bool (decide ((c.op:Int)=(11:Int)))) rfl)] (sP 19 ((c.op:Int)=(11:Int)) (λGj=>?_) (λGj=>?_)))
  ·refine jK 4 [23] [] (NT (aq.seq (rM (List.range 7) 4 [1,2,5] (jR 4 [4,5,24,25,26,27] [(0,A_ 0 b1 12),(1,A_ 0 b1 12),(2,A_ 1 b2 13),(3,A_ 2 b5 13)] (mL [1,2,5] [] (O8 Z Y hR hC (fX c B1 p1) hn c.dA c.dC c.answer) ?_ (by rintro _ _ ⟨rfl,rfl⟩;rfl))))))
   rintro _ _ ⟨rfl,rfl⟩
   exact nC [1,2,5] [] [(0,A_ 3 b3 12)] [(3,(zC (rV Z Y)))] (ck.last rfl rfl (jC 1 [] [(0,A_ 4 b4 13)] [(4,(zC (aQ (qL Z (fX c B1 p1)))))] (NL (aB.np (NX (aq.ret (aB.bD (rB (.tuple #[.agg ⟨rV Z Y⟩,.agg ⟨aQ (qL Z (fX c B1 p1))⟩]) [A_ 3 b3 12,A_ 4 b4 13] [0] aE (⟨Y,B1,p1,by rw [DK bZ,Mt]<;>rfl,rfl,by rw [DK bZ];exact hR,D4⟩)))))))))
  refine jK 4 [23] [(1,a_ 2 b2),(2,w_ (.bool (decide ((c.op:Int)=(12:Int)))) rfl)] (NN (cP ((c.op:Int)=(12:Int)) (λh23=>aq.seq (rM (List.range 7) 4 [1,2,5] (jR 4 [4,5,24,25,26,27] [(0,A_ 0 b1 12),(1,A_ 0 b1 12),(2,A_ 1 b2 13),(3,A_ 2 b5 13)] (mL [1,2,5] [] (O8 Z Y hR hC (fX c B1 p1) hn c.dA c.dC c.answer) ?_ (by rintro _ _ ⟨rfl,rfl⟩;rfl))))) (λh23=>agY bZ (by omega))))
  rintro _ _ ⟨rfl,rfl⟩
  exact nC [1,2,5] [] [(0,A_ 3 b3 12)] [(3,(zC (rV Z Y)))] (ck.last rfl rfl (jC 1 [] [(0,A_ 4 b4 13)] [(4,(zC (aQ (qL Z (fX c B1 p1)))))] (NL (aB.np (NX (aq.ret (aB.bD (rB (.tuple #[.agg ⟨rV Z Y⟩,.agg ⟨aQ (qL Z (fX c B1 p1))⟩]) [A_ 3 b3 12,A_ 4 b4 13] [0] aE (⟨Y,B1,p1,by rw [DK bZ,Mt]<;>rfl,rfl,by rw [DK bZ];exact hR,D4⟩)))))))))
 refine aq.region (jK 8 [23] [(1,a_ 2 b2),(2,wF ((c.op:Int)=(11:Int))),(5,a_ 2 b2),(6,wF ((c.op:Int)=(12:Int)))] (NF (KX (aq.seq (aq.qZ (S:=[.aD b1 (rV Z Y) 45,.aD b2 (aQ c) 53]) (yN [0,2] (oJ 8 [(false,9),(false,10),(false,11)] [(false,1),(false,3),(true,4),(true,5),(true,6),(true,7)])) [1,2] (gT (oJ 8 [(false,9),(false,10),(false,11)] [(false,1),(false,3),(true,4),(true,5),(true,6),(true,7)]) [(2,vP b1),(4,vP b3),(5,vP b4),(6,vP b5),(30,.agg ⟨rV Z Y⟩),(32,.agg ⟨aQ c⟩)] [0,2] [(0,A_ 0 b1 12),(1,A_ 1 b2 13)] (oo.one (j:=8) (dj:=7) (R:=λf_ l_=>∃A2:Option Addr,∃c2:Nat,∃K:eV,∃G2:Option Addr,∃g2:Nat,∃Y2:RL,f_=[(36,vI ((cu Z c).2.2)),(35,vI ((cu Z c).2.1)),(34,.agg ⟨rV ((cu Z c).1) Y2⟩),(29,.tuple #[.agg ⟨rV ((cu Z c).1) Y2⟩,vI ((cu Z c).2.1),vI ((cu Z c).2.2)]),(33,.tuple #[.agg ⟨rV ((cu Z c).1) Y2⟩,vI ((cu Z c).2.1),vI ((cu Z c).2.2)]),(31,.agg ⟨rW Z A2 c2 G2 g2 Y.H Y.ch Y.V Y.cv⟩),(2,vP b1),(4,vP b3),(5,vP b4),(6,vP b5),(30,.agg ⟨rV Z Y⟩),(32,.agg ⟨aQ c⟩)]/\l_=[.abs (ko β1 (λβ'=>dz β' (cu Z c).1 Y2))]) [1,2] [(false,1,31),(false,3,33),(true,4,29),(true,5,34),(true,6,35),(true,7,36)] (jm.of (ι:=Nat) (v:=λ(b6:Nat)=>vP b6) (l:=λ(b6:Nat)=>[.aD b6 (rZ) 45]) [31,33,29,34,35,36] rfl rfl rfl rfl ?_) ?_ ?_)))))))
 ·intro u Aq
  exact jB 1 [7] (λb6=>.aD b6 (rZ) 45) (λb6=>NL (MD b6 [7,31,33,29,34,35,36,2,4,5,6,30,32] [1,0]))
 ·refine ez.step (jm.of (ι:=(Option Addr)×Nat×eV×(Option Addr)×Nat) (v:=λ((A2,c2,K,G2,g2):(Option Addr)×Nat×eV×(Option Addr)×Nat)=>.agg ⟨rW Z A2 c2 G2 g2 Y.H Y.ch Y.V Y.cv⟩) (l:=λ((A2,c2,K,G2,g2):(Option Addr)×Nat×eV×(Option Addr)×Nat)=>[.abs (ko β1 (CR Z K)),.abs (aH 95 10 A2 Z.ns.length c2 (bG K Z.ns)),.abs (aH 3 1 G2 Z.aG.length g2 (bH Z.aG)),.abs (kE (kY Z.ns K) Z.ns.length)]) [7] rfl rfl rfl rfl ?_) ?_
  ·intro u Aq
   refine gL [] (GQ hR hC.toRB) ?_
   rintro _ _ ⟨A2,c2,K,G2,g2,rfl,rfl⟩
   exact NL (MD (A2,c2,K,G2,g2) [31,7,2,4,5,6,30,32] [0,1,2,3,4])
  rintro _ _ ⟨⟨A2,c2,K,G2,g2⟩,rfl,rfl⟩
  refine (ez.step (jm.of (ι:=RL) (v:=λ(Y2:RL)=>.tuple #[.agg ⟨rV ((cu Z c).1) Y2⟩,vI ((cu Z c).2.1),vI ((cu Z c).2.2)]) (l:=λ(Y2:RL)=>[.abs (ko β1 (λβ'=>dz β' (cu Z c).1 Y2))]) [7] rfl rfl rfl rfl ?_) ?_)
  ·intro u Aq
   exact gX [0,1,2,3] (Xk (A1:=A2) (c1:=c2) (K:=K) (G1:=G2) (g1:=g2) hR hC hD hn ht hb hl hc) (λY2=>NL (MD Y2 [33,7,31,2,4,5,6,30,32] [0,1]))
  rintro _ _ ⟨Y2,rfl,rfl⟩
  exact (ez.read (.tuple #[.agg ⟨rV ((cu Z c).1) Y2⟩,vI ((cu Z c).2.1),vI ((cu Z c).2.2)]) (ez.read (.agg ⟨rV ((cu Z c).1) Y2⟩) (ez.read (.int .i64 ((cu Z c).2.1)) (ez.read (.int .i64 ((cu Z c).2.2)) ⟨A2,c2,K,G2,g2,Y2,rfl,rfl⟩))))
 rintro _ _ ⟨A2,c2,K,G2,g2,Y2,rfl,rfl⟩ _ _ ⟨b6,rfl,rfl⟩
 refine kC [3,4] [] [(0,A_ 1 b6 12)] [(1,(zC (rV ((cu Z c).1) Y2)))] (fN.cut (ι:=Unit) (bU:=λ(_:Unit)=>[(2,vP b1),(4,vP b3),(5,vP b4),(6,vP b5),(7,vP b6),(8,vI ((cu Z c).2.1)),(36,vI ((cu Z c).2.2))]) (dI:=λ(_:Unit)=>([.abs (ko β1 (λβ'=>dz β' (cu Z c).1 Y2)),.aD b6 (rV ((cu Z c).1) Y2) 45]++zX2 R b1 Z Y b2 c b3 b4 b5 B1 p1)) [3,4] KB ?_ rfl (λ_=>KB) ?_)
 ·exact jK 1 [8] [] (NL (MD () [2,4,5,6,7,8,36] [0,1,2,3,4,5,6,7]))
 rintro _
 refine fN.last KB (jK 1 [9] [] (NL (aB.np (NX (SR (av.uz 0 [1,2,3,4,5,6,7] (fe:=([.aD b6 (rV ((cu Z c).1) Y2) 45]++zX2 R b1 Z Y b2 c b3 b4 b5 B1 p1)) rfl rfl KB (λES kA tN=>?_)))))))
 replace hR:=hR.le kA
 replace D4:=D4.le kA
 replace aE:=aE.trans kA
 exact jC 3 [] [(2,a_ 6 b5)] [(6,[(11,vI ((cu Z c).2.2))])] (NZ (jK 2 [40] [] (NN (cN (((cu Z c).2.2:Int)=(0:Int)) (λtZ=>aq.seq (rM [0,1,2,3] 2 [2,6] (jR 2 [4,5,41,42] [(0,A_ 0 b1 12),(1,A_ 1 b5 13)] (nC [2,6] [] [(0,A_ 4 b3 12)] [(4,(zC (rV Z Y)))] (ck.last rfl rfl (jC 1 [] [(0,A_ 5 b4 13)] [(5,[(0,vI (c.op)),(1,vI (c.aL)),(2,vI (c.other)),(3,.string c.name),(4,.string c.text),(5,.slice B1 (c.data.length) (p1)),(6,vI (c.mode)),(7,vI (c.bg)),(8,vI (c.bh)),(9,vI (c.aU)),(10,vI (c.aI)),(11,vI ((cu Z c).2.2))])] (NL (aB.np (NX (aq.ret (aB.bD (rB (.tuple #[.agg ⟨rV Z Y⟩,.agg ⟨aQ (fX {c with code:=(cu Z c).2.2,answer:=0} B1 p1)⟩]) [A_ 4 b3 12,A_ 5 b4 13] [1] aE (⟨Y,B1,p1,by rw [Xj bZ tZ]<;>rfl,rfl,by rw [Xj bZ tZ];exact hR,D4⟩))))))))))))) (λtZ=>KX (SR (jC 3 [] [(2,a_ 6 b5)] [(6,[(12,vI ((cu Z c).2.1))])] (NN (aq.seq (rM [0,1,2,3] 2 [0,6] (jR 2 [4,5,45,46] [(0,A_ 0 b6 12),(1,A_ 1 b5 13)] (nC [0,6] [] [(0,A_ 4 b3 12)] [(4,(zC (rV ((cu Z c).1) Y2)))] (ck.last rfl rfl (jC 1 [] [(0,A_ 5 b4 13)] [(5,(zC (aQ (fX {c with code:=(cu Z c).2.2,answer:=(cu Z c).2.1} B1 p1))))] (NL (aB.np (NX (aq.ret (rB (.tuple #[.agg ⟨rV ((cu Z c).1) Y2⟩,.agg ⟨aQ (fX {c with code:=(cu Z c).2.2,answer:=(cu Z c).2.1} B1 p1)⟩]) [A_ 4 b3 12,A_ 5 b4 13] [1] aE (⟨Y2,B1,p1,by rw [Xi bZ tZ,tZ]<;>rfl,rfl,by rw [Xi bZ tZ];exact tN,D4⟩))))))))))))))))))))
end
section
open Go.RowKit Go.Maps bK aF
section g
variable {R:RS} {d k to f:Nat} {name ay:ByteArray} {n:aO} {c:aN} {b:Bool} {id:Int}
def GL (R:RS):Prop:=R.aG.length<=4096
theorem Il (h:R.ns.length<=4096):GL (gh R):=by
 grind [GL,gh]
theorem JZ:(cX R d name b).ns.length=R.ns.length:=ag8 ..
theorem Ur:(dh R d name id).ns.length=R.ns.length:=ag8 ..
theorem K3 (h:GL R):GL (kV R k).1:=by unfold kV;split<;>exact h
theorem Sy {bs:List UInt8} (h:GL R):GL (jO R k bs).1:=by unfold jO;(repeat' split)<;>exact h
theorem PZ (h:GL R):GL (bP R d name n).1:=by unfold bP;(repeat' split)<;>exact h
theorem P0 (h:GL R) (hn:R.ns.length<=4096):GL (iE R d name b).1:=by
 grind [iE,Il,JZ]
theorem P4 (h:GL R) (hn:R.ns.length<=4096):GL (gY R f name to ay).1:=by
 grind [gY,Il,Ur,JZ]
theorem P5 {w:Int} (h:GL R):GL (jh R c w).1:=by
 grind [jh,K3]
theorem Xm (h:GL R) (hn:R.ns.length<=4096):GL (iF R c d).1:=by
 grind [iF,P0,PZ,K3]
theorem Z5 (h:GL R) (hn:R.ns.length<=4096):GL (cu R c).1:=by
 unfold cu
 split
 ·grind [K3]
 split
 ·exact P5 h
 split
 ·exact P5 h
 split
 ·split
  ·exact h
  exact Xm h hn
 split
 ·unfold vF
  (repeat' split)<;>exact h
 grind [Sy,mo,Il,P4,GL,cu]
theorem acs (h:GL R) (hn:R.ns.length<=4096):GL (tH R c).1:=by
 grind [tH,Z5,GL]
end g
section b
variable {S:bB} {g:List Int}
theorem abC (hr:RelR S g) (hg:g.length<=4096):RC (toR S g):=by
 have hI:=hr.inv.toInv0
 have jv:(toR S g).ns.length=S.ar.length:=ia
 have iy:(toR S g).us.length=S.us.length:=CM
 have hk:bn (toR S g).us=bn S.us:=Ia
 have h1:=hI.len
 have h2:=hI.Gm
 have h3:=hI.cH
 have h4:=hI.cN
 have h5:=hI.cB
 have h6:=hI.last
 have h7:=hI.aJ
 refine⟨⟨zc,by show g.length<=8200;omega,zc,?_,?_⟩,Ph hI.ix,λid hid=>?_,λi hi=>?_,⟨h4.1,h4.2,h5.1,h5.2,h3.1,h3.2,h6.1,h6.2,h7.1,h7.2⟩,by rw [hk];exact hI.usr,λz hz=>(hI.xQ z (by rw [←hk];exact hz)).1,by rw [iy];exact h2⟩
 ·have h8:=Ie (g:=g) hI
  have h9:=hI.total.2
  omega
 ·have h8:=Po (g:=g) hI
  have h9:=hI.used.2
  omega
 ·have hid:id∈(tM S.us).map Prod.snd:=hid
  obtain⟨p,hp,rfl⟩:=ahe.1 hid
  obtain⟨q,hq,rfl⟩:=ahe.1 hp
  have hl:=(hr.inv.us q.1 q.2 (oC hI.usr hq)).1
  show 0<=gI (aX S) (q.2.k:Int)
  rw [(nN hI.ix hl).2.2.2.2.1];omega
 rw [jv] at hi
 rw [show nd (toR S g).ns i=jL S.O (gH S i) (jl S i) from pu hi]
 exact (hI.ob _ (FX hI.ix hi).1).2.2
end b
theorem Mu {X:FM} {ns:List aO} {S:bB} (h:kP X ns ns.length 0 S) (hok:cA ns):RelR S []/\toR S []=⟨ns,[],[],0,X.cN,X.cB,X.cH,X.cS,X.cZ,qQ ns ns.length⟩:=by
 refine⟨⟨h.full,⟨λt ht=>?_,λz hz=>by cases hz⟩⟩,?_⟩
 ·obtain⟨a,ha,e⟩:=h.of ht
  obtain⟨l,u,h1⟩:=h.ob a ha
  have hk:t.k=jU (nd ns a):=by rw [e];rfl
  rw [hk,h1]
  exact Iff.intro (λq=>agY q (List.not_mem_nil)) (λq=>agY (show false=true from q) Pd)
 unfold toR
 rw [h.graph hok,h.us,h.aJ,h.cap];rfl
end
section
open Go.RowKit Go.Maps bK aF
attribute [local irreducible] av bN aq aB ck
theorem nB {β:Bs} (S:bB) (L:HL) (f m t:Nat) (hI:bR S) (cb:Nat) (c:aN) (hC:kH β c) :
 aW Tryz.prog β 200 #[vP f,vP cb] ((pA f m t L S)++[.aD cb (aQ c) 53]) (λv l=>v=afy L (jI S.O S.us c)/\l=((pA f m t L S)++[.aD cb (aQ c) 53])):=by
 refine SE Tryz.func200 Tryz.ntmps200 (λR=>SR (jK 2 [] [] (NN (aq.seq (rQ (jQ 9 [10,14,18] [(4,a_ 6 cb),(8,a_ 6 cb)] ?_))))))
 rcases kI hI.toInv0 c.aL c.name 64 with ⟨e,d8,bX⟩|⟨d,d8,hd,lQ,j3,iy⟩
 ·exact mD [0,2,3] [0,3,1,2,4,5,6,7] (.tuple #[.pointer none,vI (e)]) ((by have h:=jf S L f m t hI c.aL hC.hw c.name hC.nm 64 (β:=β);rw [d8] at h;exact h)) (jQ 5 [6,7] [] (NQ (NX (SQ (jK 2 [23] [] (NN (cN ((e:Int)=(0:Int)) (λh23=>zR (v:=(.tuple #[.nilIface,vI (e)])) ⟨by rw [show jI S.O S.us c=.error e by unfold jI;rw [d8]];rfl,rfl⟩) (λh23=>agY h23 bX))))))))
 have dQ:(af S.O d).kind=2:=hI.kind hd
 refine mD [0,2,3] [0,3,1,2,4,5,6,7] (.tuple #[vP (L.b d),vI 0]) ((by have h:=jf S L f m t hI c.aL hC.hw c.name hC.nm 64 (β:=β);rw [d8] at h;exact h)) (jQ 5 [6,7] [] (NQ (NX (SQ (jK 2 [23] [] (NF (KX (aq.seq ?_))))))))
 have hel:(af S.O d).ah.length<=8192:=hI.lF hd
 have afc:=hC.nm
 rcases hI.sJ hd c.name with eF|⟨tk,eF,bW⟩|⟨tk,eF,bW⟩|⟨tk,eF,bW⟩
 ·exact rQ (jQ 8 [28,32] [(3,v_ 3 (dw L dQ)),(7,a_ 6 cb)] (yQ 5 dQ eF (jQ 1 [8] [] (NQ (NX (SQ (jK 2 [35] [] (NT (zR (v:=(.tuple #[.nilIface,vI 170])) ⟨by rw [show jI S.O S.us c=.error 170 by grind [jI]];rfl,rfl⟩)))))))))
 ·have bC:(af S.O tk).kind=1:=hI.kind bW
  exact rQ (jQ 8 [28,32] [(3,v_ 3 (dw L dQ)),(7,a_ 6 cb)] (yQ 5 dQ eF (jQ 1 [8] [] (NQ (NX (SQ (jK 2 [35] [] (NF (KX (zR (v:=(.tuple #[.iface 138 (vP (L.b tk)),vI 0])) ⟨by rw [show jI S.O S.us c=.ok ⟨tk,1⟩ by unfold jI;rw [d8];simp only;rw [eF]];rfl,rfl⟩))))))))))
 ·have bC:(af S.O tk).kind=2:=hI.kind bW
  exact rQ (jQ 8 [28,32] [(3,v_ 3 (dw L dQ)),(7,a_ 6 cb)] (yQ 5 dQ eF (jQ 1 [8] [] (NQ (NX (SQ (jK 2 [35] [] (NF (KX (zR (v:=(.tuple #[.iface 144 (vP (L.b tk)),vI 0])) ⟨by rw [show jI S.O S.us c=.ok ⟨tk,2⟩ by unfold jI;rw [d8];simp only;rw [eF]];rfl,rfl⟩))))))))))
 have bC:(af S.O tk).kind=3:=hI.kind bW
 exact rQ (jQ 8 [28,32] [(3,v_ 3 (dw L dQ)),(7,a_ 6 cb)] (yQ 5 dQ eF (jQ 1 [8] [] (NQ (NX (SQ (jK 2 [35] [] (NF (KX (zR (v:=(.tuple #[.iface 141 (vP (L.b tk)),vI 0])) ⟨by rw [show jI S.O S.us c=.ok ⟨tk,3⟩ by unfold jI;rw [d8];simp only;rw [eF]];rfl,rfl⟩))))))))))
theorem Us {β:Bs} (S:bB) (L:HL) (f m t:Nat) (hI:bR S) (cb:Nat) (c:aN) (hC:kH β c) :
 aW Tryz.prog β 184 #[vP f,vP cb] ((pA f m t L S)++[.aD cb (aQ c) 53]) (λv l=>∃L2,v=vI (kU S c).1/\l=((pA f m t L2 ((kU S c).2.1))++[.aD cb (aQ ((kU S c).2.2)) 53])):=by
 have hX:=hI.hX
 refine SE Tryz.func184 Tryz.ntmps184 (λR=>SR (jK 1 [] [] (NN (aq.seq ?_))))
 rcases hI.ac9 c.other with fH|⟨tk,fH,bW⟩|⟨tk,fH,bW⟩|⟨tk,fH,bW⟩
 ·exact rQ (jQ 8 [10,14] [(3,a_ 0 f),(7,a_ 6 cb)] (bN.je 1 (d:=(some 15)) (t:=129) (K:=3) (E:=133) (b:=m) (n:=S.ar.length) (f:=(cT (cV L S.ar))) (x:=(.tmp 10)) (ix:=(.tmp 14)) (key:=vI (c.other)) (z:=.nilIface) (kl:=(.int .i64 c.other)) (r:=none) (λ_=>KB) KB (λ_=>KB) (λ_=>KB) iU Tryz.underlying129 (λ_=>KB) (mA hC.ow) (by rw [j4,fH];rfl) (jQ 1 [5] [] (NQ (NX (SQ (jK 2 [17] [] (NT (zR ⟨L,by rw [show (kU S c)=(141,S,c) by unfold kU;rw [fH]]<;>exact⟨rfl,rfl⟩⟩)))))))))
 ·have bC:(af S.O tk).kind=1:=hI.kind bW
  exact rQ (jQ 8 [10,14] [(3,a_ 0 f),(7,a_ 6 cb)] (bN.je 1 (d:=(some 15)) (t:=129) (K:=3) (E:=133) (b:=m) (n:=S.ar.length) (f:=(cT (cV L S.ar))) (x:=(.tmp 10)) (ix:=(.tmp 14)) (key:=vI (c.other)) (z:=.nilIface) (kl:=(.int .i64 c.other)) (r:=(some (iw L ⟨tk,1⟩))) (λ_=>KB) KB (λ_=>KB) (λ_=>KB) iU Tryz.underlying129 (λ_=>KB) (mA hC.ow) (by rw [j4,fH];rfl) (jQ 1 [5] [] (NQ (NX (SQ (jK 2 [17] [] (NF (KX (SQ (jK 1 [18] [] (gE [] (sZ (vP (L.b tk))) (jK 1 [20] [] (NT (zR ⟨L,by rw [show (kU S c)=(173,S,c) by grind [kU]]<;>exact⟨rfl,rfl⟩⟩)))))))))))))))
 ·have bC:(af S.O tk).kind=2:=hI.kind bW
  exact rQ (jQ 8 [10,14] [(3,a_ 0 f),(7,a_ 6 cb)] (bN.je 1 (d:=(some 15)) (t:=129) (K:=3) (E:=133) (b:=m) (n:=S.ar.length) (f:=(cT (cV L S.ar))) (x:=(.tmp 10)) (ix:=(.tmp 14)) (key:=vI (c.other)) (z:=.nilIface) (kl:=(.int .i64 c.other)) (r:=(some (iw L ⟨tk,2⟩))) (λ_=>KB) KB (λ_=>KB) (λ_=>KB) iU Tryz.underlying129 (λ_=>KB) (mA hC.ow) (by rw [j4,fH];rfl) (jQ 1 [5] [] (NQ (NX (SQ (jK 2 [17] [] (NF (KX (SQ (jK 1 [18] [] (gE [] (s5 (vP (L.b tk))) (jK 1 [20] [] (NF (KX (SR (jK 1 [] [] (NS (jK 3 [22,23,24] [] (gE [0,2,3] (AO S L f m t ⟨tk,2⟩ bC agU (by have:=hI.Lv bW;simp only at this ⊢;omega)) (jC 7 [6] [(5,a_ 6 cb)] [(6,[(12,vI ((eE S ⟨tk,2⟩).1))])] (NS (av.gG [(4,.abs (aY (dS ((eE S ⟨tk,2⟩).2.2.O) L))),(5,.abs (aY (gq ((eE S ⟨tk,2⟩).2.2.O) L)))] (λw hS=>by rw [Ht,Hu];exact hS) (jK 2 [4] [] (eN ⟨L,by rw [show (kU S c)=((eE S ⟨tk,2⟩).2.1,(eE S ⟨tk,2⟩).2.2,{c with answer:=(eE S ⟨tk,2⟩).1}) by grind [kU]]<;>exact⟨rfl,rfl⟩⟩ [0,3,1,2,4,5,6,7])))))))))))))))))))))))))
 have bC:(af S.O tk).kind=3:=hI.kind bW
 exact rQ (jQ 8 [10,14] [(3,a_ 0 f),(7,a_ 6 cb)] (bN.je 1 (d:=(some 15)) (t:=129) (K:=3) (E:=133) (b:=m) (n:=S.ar.length) (f:=(cT (cV L S.ar))) (x:=(.tmp 10)) (ix:=(.tmp 14)) (key:=vI (c.other)) (z:=.nilIface) (kl:=(.int .i64 c.other)) (r:=(some (iw L ⟨tk,3⟩))) (λ_=>KB) KB (λ_=>KB) (λ_=>KB) iU Tryz.underlying129 (λ_=>KB) (mA hC.ow) (by rw [j4,fH];rfl) (jQ 1 [5] [] (NQ (NX (SQ (jK 2 [17] [] (NF (KX (SQ (jK 1 [18] [] (gE [] (uG (vP (L.b tk))) (jK 1 [20] [] (NT (zR ⟨L,by rw [show (kU S c)=(173,S,c) by grind [kU]]<;>exact⟨rfl,rfl⟩⟩)))))))))))))))
theorem MN {β:Bs} (S:bB) (L:HL) (f m t:Nat) (hI:bR S) (cb:Nat) (c:aN) (hC:kH β c) :
 aW Tryz.prog β 185 #[vP f,vP cb] ((pA f m t L S)++[.aD cb (aQ c) 53]) (λv l=>∃L2,v=vI (gV S c).1/\l=((pA f m t L2 ((gV S c).2.1))++[.aD cb (aQ ((gV S c).2.2)) 53])):=by
 have hX:=hI.hX
 refine SE Tryz.func185 Tryz.ntmps185 (λR=>SR (jK 1 [] [] (NS (jK 2 [8,9] [] ?_))))
 rcases Jg hI.toInv0 c with ⟨e,hnm,bX⟩|⟨tk,hnm,bW⟩|⟨tk,hnm,bW⟩|⟨tk,hnm,bW⟩
 ·exact gE [0,1,2,3,4,5,6] ((by have h:=nB S L f m t hI cb c hC (β:=β);rw [hnm] at h;exact h)) (jK 5 [5,6] [] (NZ (jK 2 [14] [] (NN (cN ((e:Int)=(0:Int)) (λmw=>zR ⟨L,by rw [show (gV S c)=(e,S,c) by unfold gV;rw [hnm]]<;>exact⟨rfl,rfl⟩⟩) (λmw=>agY mw bX))))))
 ·have bC:(af S.O tk).kind=1:=hI.kind bW
  exact gE [0,1,2,3,4,5,6] ((by have h:=nB S L f m t hI cb c hC (β:=β);rw [hnm] at h;exact h)) (jK 5 [5,6] [] (NZ (jK 2 [14] [] (NF (KX (SQ (jK 1 [16] [] (NN (aq.block (SR (jK 3 [18] [] (NF (SR (jK 3 [21] [] (NT (zR ⟨L,by rw [show (gV S c)=(173,S,c) by grind [gV]]<;>exact⟨rfl,rfl⟩⟩))))))))))))))))
 ·have bC:(af S.O tk).kind=2:=hI.kind bW
  exact gE [0,1,2,3,4,5,6] ((by have h:=nB S L f m t hI cb c hC (β:=β);rw [hnm] at h;exact h)) (jK 5 [5,6] [] (NZ (jK 2 [14] [] (NF (KX (SQ (jK 1 [16] [] (NN (aq.block (SR (jK 3 [18] [] (NF (SR (jK 3 [21] [] (NF (KX (SR (jK 3 [24,25,26] [] (gE [0,2,3] (AO S L f m t ⟨tk,2⟩ bC agU (by have:=hI.Lv bW;simp only at this ⊢;omega)) (jC 7 [6] [(5,a_ 6 cb)] [(6,[(12,vI ((eE S ⟨tk,2⟩).1))])] (NS (av.gG [(4,.abs (aY (dS ((eE S ⟨tk,2⟩).2.2.O) L))),(5,.abs (aY (gq ((eE S ⟨tk,2⟩).2.2.O) L)))] (λw hS=>by rw [Ht,Hu];exact hS) (jK 2 [4] [] (eN ⟨L,by rw [show (gV S c)=((eE S ⟨tk,2⟩).2.1,(eE S ⟨tk,2⟩).2.2,{c with answer:=(eE S ⟨tk,2⟩).1}) by grind [gV]]<;>exact⟨rfl,rfl⟩⟩ [0,3,1,2,4,5,6,7]))))))))))))))))))))))))
 have bC:(af S.O tk).kind=3:=hI.kind bW
 exact gE [0,1,2,3,4,5,6] ((by have h:=nB S L f m t hI cb c hC (β:=β);rw [hnm] at h;exact h)) (jK 5 [5,6] [] (NZ (jK 2 [14] [] (NF (KX (SQ (jK 1 [16] [] (NN (aq.block (SR (jK 3 [18] [] (NT (zR ⟨L,by rw [show (gV S c)=(174,S,c) by grind [gV]]<;>exact⟨rfl,rfl⟩⟩)))))))))))))
theorem K5 {β:Bs} (S:bB) (L:HL) (f m t:Nat) (hI:bR S) (cb:Nat) (c:aN) (hC:kH β c) :
 aW Tryz.prog β 186 #[vP f,vP cb] ((pA f m t L S)++[.aD cb (aQ c) 53]) (λv l=>∃L2,v=vI (fV S c).1/\l=((pA f m t L2 ((fV S c).2.1))++[.aD cb (aQ ((fV S c).2.2)) 53])):=by
 have hX:=hI.hX
 refine SE Tryz.func186 Tryz.ntmps186 (λR=>SR (jK 1 [] [] (NS (jK 2 [8,9] [] ?_))))
 rcases Jg hI.toInv0 c with ⟨e,hnm,bX⟩|⟨tk,hnm,bW⟩|⟨tk,hnm,bW⟩|⟨tk,hnm,bW⟩
 ·exact gE [0,1,2,3,4,5,6] ((by have h:=nB S L f m t hI cb c hC (β:=β);rw [hnm] at h;exact h)) (jK 5 [5,6] [] (NZ (jK 2 [14] [] (NN (cN ((e:Int)=(0:Int)) (λmw=>zR ⟨L,by rw [show (fV S c)=(e,S,c) by unfold fV;rw [hnm]]<;>exact⟨rfl,rfl⟩⟩) (λmw=>agY mw bX))))))
 ·have bC:(af S.O tk).kind=1:=hI.kind bW
  exact gE [0,1,2,3,4,5,6] ((by have h:=nB S L f m t hI cb c hC (β:=β);rw [hnm] at h;exact h)) (jK 5 [5,6] [] (NZ (jK 2 [14] [] (NF (KX (SQ (jK 1 [16] [] (NN (aq.block (SR (jK 3 [18] [] (NF (SR (jK 3 [21] [] (NF (KX (SR (jK 3 [24,25,26] [] (gE [0,2,3] (AO S L f m t ⟨tk,1⟩ bC agU (by have:=hI.Lv bW;simp only at this ⊢;omega)) (jC 7 [6] [(5,a_ 6 cb)] [(6,[(12,vI ((eE S ⟨tk,1⟩).1))])] (NS (av.gG [(4,.abs (aY (dS ((eE S ⟨tk,1⟩).2.2.O) L))),(5,.abs (aY (gq ((eE S ⟨tk,1⟩).2.2.O) L)))] (λw hS=>by rw [Ht,Hu];exact hS) (jK 2 [4] [] (eN ⟨L,by rw [show (fV S c)=((eE S ⟨tk,1⟩).2.1,(eE S ⟨tk,1⟩).2.2,{c with answer:=(eE S ⟨tk,1⟩).1}) by grind [fV]]<;>exact⟨rfl,rfl⟩⟩ [0,3,1,2,4,5,6,7]))))))))))))))))))))))))
 ·have bC:(af S.O tk).kind=2:=hI.kind bW
  exact gE [0,1,2,3,4,5,6] ((by have h:=nB S L f m t hI cb c hC (β:=β);rw [hnm] at h;exact h)) (jK 5 [5,6] [] (NZ (jK 2 [14] [] (NF (KX (SQ (jK 1 [16] [] (NN (aq.block (SR (jK 3 [18] [] (NF (SR (jK 3 [21] [] (NT (zR ⟨L,by rw [show (fV S c)=(172,S,c) by grind [fV]]<;>exact⟨rfl,rfl⟩⟩))))))))))))))))
 have bC:(af S.O tk).kind=3:=hI.kind bW
 exact gE [0,1,2,3,4,5,6] ((by have h:=nB S L f m t hI cb c hC (β:=β);rw [hnm] at h;exact h)) (jK 5 [5,6] [] (NZ (jK 2 [14] [] (NF (KX (SQ (jK 1 [16] [] (NN (aq.block (SR (jK 3 [18] [] (NT (zR ⟨L,by rw [show (fV S c)=(174,S,c) by grind [fV]]<;>exact⟨rfl,rfl⟩⟩)))))))))))))
theorem QZ {β:Bs} (S:bB) (L:HL) (f m t:Nat) (hI:bR S) (cb:Nat) (c:aN) (hC:kH β c) :
 aW Tryz.prog β 187 #[vP f,vP cb] ((pA f m t L S)++[.aD cb (aQ c) 53]) (λv l=>∃L2,v=vI (ja S c).1/\l=((pA f m t L2 ((ja S c).2.1))++[.aD cb (aQ ((ja S c).2.2)) 53])):=by
 have hX:=hI.hX
 refine SE Tryz.func187 Tryz.ntmps187 (λR=>SR (jK 1 [] [] (NN (aq.seq (rQ (jQ 9 [8,12,16] [(4,a_ 6 cb),(8,a_ 6 cb)] ?_))))))
 rcases kI hI.toInv0 c.aL c.name 192 with ⟨e,d8,bX⟩|⟨d,d8,hd,lQ,j3,iy⟩
 ·exact mD [0,2,3] [0,3,1,2,4,5,6,7] (.tuple #[.pointer none,vI (e)]) ((by have h:=jf S L f m t hI c.aL hC.hw c.name hC.nm 192 (β:=β);rw [d8] at h;exact h)) (jQ 5 [5,6] [] (NQ (NX (SQ (jK 2 [21] [] (NN (cN ((e:Int)=(0:Int)) (λsy=>zR ⟨L,by rw [show (ja S c)=(e,S,c) by unfold ja;rw [d8]]<;>exact⟨rfl,rfl⟩⟩) (λsy=>agY sy bX))))))))
 have dQ:(af S.O d).kind=2:=hI.kind hd
 refine mD [0,2,3] [0,3,1,2,4,5,6,7] (.tuple #[vP (L.b d),vI 0]) ((by have h:=jf S L f m t hI c.aL hC.hw c.name hC.nm 192 (β:=β);rw [d8] at h;exact h)) (jQ 5 [5,6] [] (NQ (NX (SQ (jK 2 [21] [] (NF (KX (SQ (jK 4 [26] [(3,a_ 6 cb)] (gE [] (kN (c.mode) 4095) (jK 1 [28] [] (NN (cN (0<=c.mode/\c.mode<=4095) (λvL=>zR ⟨L,by rw [show (ja S c)=(120,S,c) by unfold ja;rw [d8];exact agV vL]<;>exact⟨rfl,rfl⟩⟩) (λvL=>KX (aq.seq (rM (List.range 12) 10 [6] (jR 10 [29,30,34,38] [(5,a_ 0 cb),(9,a_ 0 cb)] (mL [6] [0,1,2,3,4,5] (Mh S L f m t hI d hd c.name hC.nm c.mode) ?_ (by rintro _ _ ⟨L2,rfl,rfl⟩;rfl)))))))))))))))))))
 rintro _ _ ⟨L2,rfl,rfl⟩
 exact ck.last rfl rfl (jK 1 [4] [] (NL (aB.np (NX (aq.ret (RT _ [0,1,2,3,4,5,6,7] (⟨L2,by rw [show (ja S c)=((mF S d c.name c.mode).1,(mF S d c.name c.mode).2,c) by unfold ja;rw [d8];exact agW vL]<;>exact⟨rfl,rfl⟩⟩)))))))
theorem MO {β:Bs} (S:bB) (L:HL) (f m t:Nat) (hI:bR S) (cb:Nat) (c:aN) (hC:kH β c) :
 aW Tryz.prog β 189 #[vP f,vP cb] ((pA f m t L S)++[.aD cb (aQ c) 53]) (λv l=>∃L2,v=vI (iB S c).1/\l=((pA f m t L2 ((iB S c).2.1))++[.aD cb (aQ ((iB S c).2.2)) 53])):=by
 have hX:=hI.hX
 refine SE Tryz.func189 Tryz.ntmps189 (λR=>SR (jK 1 [] [] (NN (aq.seq (rQ (jQ 9 [8,12,16] [(4,a_ 6 cb),(8,a_ 6 cb)] ?_))))))
 rcases kI hI.toInv0 c.aL c.name 192 with ⟨e,d8,bX⟩|⟨d,d8,hd,lQ,j3,iy⟩
 ·exact mD [0,2,3] [0,3,1,2,4,5,6,7] (.tuple #[.pointer none,vI (e)]) ((by have h:=jf S L f m t hI c.aL hC.hw c.name hC.nm 192 (β:=β);rw [d8] at h;exact h)) (jQ 5 [5,6] [] (NQ (NX (SQ (jK 2 [21] [] (NN (cN ((e:Int)=(0:Int)) (λsy=>zR ⟨L,by rw [show (iB S c)=(e,S,c) by unfold iB;rw [d8]]<;>exact⟨rfl,rfl⟩⟩) (λsy=>agY sy bX))))))))
 have dQ:(af S.O d).kind=2:=hI.kind hd
 refine mD [0,2,3] [0,3,1,2,4,5,6,7] (.tuple #[vP (L.b d),vI 0]) ((by have h:=jf S L f m t hI c.aL hC.hw c.name hC.nm 192 (β:=β);rw [d8] at h;exact h)) (jQ 5 [5,6] [] (NQ (NX (SQ (jK 2 [21] [] (NF (KX (aq.seq (rM (List.range 12) 10 [6] (jR 10 [23,24,28,32] [(5,a_ 0 cb),(9,a_ 0 cb)] (mL [6] [0,1,2,3,4,5] (GJ S L f m t hI d hd c.name hC.nm c.text hC.tx) ?_ (by rintro _ _ ⟨L2,rfl,rfl⟩;rfl))))))))))))
 rintro _ _ ⟨L2,rfl,rfl⟩
 exact ck.last rfl rfl (jK 1 [4] [] (NL (aB.np (NX (aq.ret (RT _ [0,1,2,3,4,5,6,7] (⟨L2,by rw [show (iB S c)=((jk S d c.name c.text).1,(jk S d c.name c.text).2,c) by unfold iB;rw [d8]]<;>exact⟨rfl,rfl⟩⟩)))))))
theorem P6 {β:Bs} (S:bB) (L:HL) (f m t:Nat) (hI:bR S) (cb:Nat) (c:aN) (hC:kH β c) :
 aW Tryz.prog β 191 #[vP f,vP cb] ((pA f m t L S)++[.aD cb (aQ c) 53]) (λv l=>∃L2,v=vI (jA S c).1/\l=((pA f m t L2 ((jA S c).2.1))++[.aD cb (aQ ((jA S c).2.2)) 53])):=by
 have hX:=hI.hX
 refine SE Tryz.func191 Tryz.ntmps191 (λR=>SR (jK 1 [] [] (NN (aq.seq (rQ (jQ 9 [8,12,16] [(4,a_ 6 cb),(8,a_ 6 cb)] ?_))))))
 rcases kI hI.toInv0 c.aL c.name 192 with ⟨e,d8,bX⟩|⟨d,d8,hd,lQ,j3,iy⟩
 ·exact mD [0,2,3] [0,3,1,2,4,5,6,7] (.tuple #[.pointer none,vI (e)]) ((by have h:=jf S L f m t hI c.aL hC.hw c.name hC.nm 192 (β:=β);rw [d8] at h;exact h)) (jQ 5 [5,6] [] (NQ (NX (SQ (jK 2 [21] [] (NN (cN ((e:Int)=(0:Int)) (λsy=>zR ⟨L,by rw [show (jA S c)=(e,S,c) by unfold jA;rw [d8]]<;>exact⟨rfl,rfl⟩⟩) (λsy=>agY sy bX))))))))
 have dQ:(af S.O d).kind=2:=hI.kind hd
 exact mD [0,2,3] [0,3,1,2,4,5,6,7] (.tuple #[vP (L.b d),vI 0]) ((by have h:=jf S L f m t hI c.aL hC.hw c.name hC.nm 192 (β:=β);rw [d8] at h;exact h)) (jQ 5 [5,6] [] (NQ (NX (SQ (jK 2 [21] [] (NF (KX (SR (jK 6 [23,24,28] [(5,a_ 6 cb)] (gX [0,1,2,3,4,5] (JW S L f m t hI d hd c.name hC.nm) (λL2=>jK 1 [4] [] (eN ⟨L2,by rw [show (jA S c)=((iA S d c.name).1,(iA S d c.name).2,c) by unfold jA;rw [d8]]<;>exact⟨rfl,rfl⟩⟩))))))))))))
theorem Q0 {β:Bs} (S:bB) (L:HL) (f m t:Nat) (hI:bR S) (cb:Nat) (c:aN) (hC:kH β c) :
 aW Tryz.prog β 197 #[vP f,vP cb] ((pA f m t L S)++[.aD cb (aQ c) 53]) (λv l=>∃L2,v=vI (j9 S c).1/\l=((pA f m t L2 ((j9 S c).2.1))++[.aD cb (aQ ((j9 S c).2.2)) 53])):=by
 have hX:=hI.hX
 refine SE Tryz.func197 Tryz.ntmps197 (λR=>SR (jK 1 [] [] (NN (aq.seq (rQ (jQ 9 [8,12,16] [(4,a_ 6 cb),(8,a_ 6 cb)] ?_))))))
 rcases kI hI.toInv0 c.aL c.name 192 with ⟨e,d8,bX⟩|⟨d,d8,hd,lQ,j3,iy⟩
 ·exact mD [0,2,3] [0,3,1,2,4,5,6,7] (.tuple #[.pointer none,vI (e)]) ((by have h:=jf S L f m t hI c.aL hC.hw c.name hC.nm 192 (β:=β);rw [d8] at h;exact h)) (jQ 5 [5,6] [] (NQ (NX (SQ (jK 2 [21] [] (NN (cN ((e:Int)=(0:Int)) (λsy=>zR ⟨L,by rw [show (j9 S c)=(e,S,c) by unfold j9;rw [d8]]<;>exact⟨rfl,rfl⟩⟩) (λsy=>agY sy bX))))))))
 have dQ:(af S.O d).kind=2:=hI.kind hd
 exact mD [0,2,3] [0,3,1,2,4,5,6,7] (.tuple #[vP (L.b d),vI 0]) ((by have h:=jf S L f m t hI c.aL hC.hw c.name hC.nm 192 (β:=β);rw [d8] at h;exact h)) (jQ 5 [5,6] [] (NQ (NX (SQ (jK 2 [21] [] (NF (KX (SR (jK 6 [23,24,28] [(5,a_ 6 cb)] (gX [0,1,2,3,4,5] (Mi S L f m t hI d hd c.name hC.nm) (λL2=>jK 1 [4] [] (eN ⟨L2,by rw [show (j9 S c)=((iZ S d c.name).1,(iZ S d c.name).2,c) by unfold j9;rw [d8]]<;>exact⟨rfl,rfl⟩⟩))))))))))))
theorem P7 {β:Bs} (S:bB) (L:HL) (f m t:Nat) (hI:bR S) (cb:Nat) (c:aN) (hC:kH β c) :
 aW Tryz.prog β 198 #[vP f,vP cb] ((pA f m t L S)++[.aD cb (aQ c) 53]) (λv l=>∃L2,v=vI (iQ S c).1/\l=((pA f m t L2 ((iQ S c).2.1))++[.aD cb (aQ ((iQ S c).2.2)) 53])):=by
 have hX:=hI.hX
 refine SE Tryz.func198 Tryz.ntmps198 (λR=>SR (jK 1 [] [] (NN (aq.seq (rQ (jQ 9 [9,13,17] [(4,a_ 6 cb),(8,a_ 6 cb)] ?_))))))
 rcases kI hI.toInv0 c.aL c.name 192 with ⟨e,d8,bX⟩|⟨d,d8,hd,lQ,j3,iy⟩
 ·exact mD [0,2,3] [0,3,1,2,4,5,6,7] (.tuple #[.pointer none,vI (e)]) ((by have h:=jf S L f m t hI c.aL hC.hw c.name hC.nm 192 (β:=β);rw [d8] at h;exact h)) (jQ 5 [5,6] [] (NQ (NX (SQ (jK 2 [22] [] (NN (cN ((e:Int)=(0:Int)) (λsj=>zR ⟨L,by rw [show (iQ S c)=(e,S,c) by unfold iQ;rw [d8]]<;>exact⟨rfl,rfl⟩⟩) (λsj=>agY sj bX))))))))
 have dQ:(af S.O d).kind=2:=hI.kind hd
 refine mD [0,2,3] [0,3,1,2,4,5,6,7] (.tuple #[vP (L.b d),vI 0]) ((by have h:=jf S L f m t hI c.aL hC.hw c.name hC.nm 192 (β:=β);rw [d8] at h;exact h)) (jQ 5 [5,6] [] (NQ (NX (SQ (jK 2 [22] [] (NF (KX (aq.seq (rQ (jQ 9 [25,29,33] [(4,a_ 6 cb),(8,a_ 6 cb)] ?_))))))))))
 rcases kI hI.toInv0 c.other c.text 192 with ⟨e2,Im,P8⟩|⟨to,Im,hd2,aec,Z6,af3⟩
 ·exact mD [0,2,3] [0,3,1,2,4,5,6,7] (.tuple #[.pointer none,vI (e2)]) ((by have h:=jf S L f m t hI c.other hC.ow c.text hC.tx 192 (β:=β);rw [Im] at h;exact h)) (jQ 5 [6,7] [] (NQ (NX (SQ (jK 2 [38] [] (NN (cN ((e2:Int)=(0:Int)) (λEm=>zR ⟨L,by rw [show (iQ S c)=(e2,S,c) by grind [iQ]]<;>exact⟨rfl,rfl⟩⟩) (λEm=>agY Em P8))))))))
 have jo:(af S.O to).kind=2:=hI.kind hd2
 refine mD [0,2,3] [0,3,1,2,4,5,6,7] (.tuple #[vP (L.b to),vI 0]) ((by have h:=jf S L f m t hI c.other hC.ow c.text hC.tx 192 (β:=β);rw [Im] at h;exact h)) (jQ 5 [6,7] [] (NQ (NX (SQ (jK 2 [38] [] (NF (KX (aq.seq (rM (List.range 13) 11 [6] (jR 11 [40,41,45,46,50] [(5,a_ 0 cb),(10,a_ 0 cb)] (mL [6] [0,1,2,3,4,5] (JX S L f m t hI d hd c.name hC.nm to hd2 c.text hC.tx) ?_ (by rintro _ _ ⟨L2,rfl,rfl⟩;rfl))))))))))))
 rintro _ _ ⟨L2,rfl,rfl⟩
 exact ck.last rfl rfl (jK 1 [4] [] (NL (aB.np (NX (aq.ret (RT _ [0,1,2,3,4,5,6,7] (⟨L2,by rw [show (iQ S c)=((dm S d c.name to c.text).1,(dm S d c.name to c.text).2,c) by grind [iQ]]<;>exact⟨rfl,rfl⟩⟩)))))))
end
section
open Go.RowKit Go.Maps bK aF
attribute [local irreducible] av bN aq aB fN ck
abbrev zh1:=([(2,vI 0),(6,vI 0),(7,vI 0),(8,vI 0),(9,vI 0),(10,vI 0)]:Fr)
abbrev zh2 (S:bB) (tk:Nat):=([(9,vI ((af S.O tk).aU)),(10,vI ((af S.O tk).aI))]:Fr)
theorem Ut {β:Bs} (S:bB) (L:HL) (f m t:Nat) (hI:bR S) (cb:Nat) (c:aN) (hC:kH β c) :
 aW Tryz.prog β 190 #[vP f,vP cb] ((pA f m t L S)++[.aD cb (aQ c) 53]) (λv l=>∃L2,v=vI (dV S c).1/\l=((pA f m t L2 ((dV S c).2.1))++[.aD cb (aQ ((dV S c).2.2)) 53])):=by
 have hX:=hI.hX
 refine SE Tryz.func190 Tryz.ntmps190 (λR=>SR (jK 1 [] [] (NN (aq.seq (rQ (jQ 9 [10,14,18] [(4,a_ 6 cb),(8,a_ 6 cb)] ?_))))))
 rcases kI hI.toInv0 c.aL c.name 64 with ⟨e,d8,bX⟩|⟨d,d8,hd,lQ,j3,iy⟩
 ·exact mD [0,2,3] [0,3,1,2,4,5,6,7] (.tuple #[.pointer none,vI (e)]) ((by have h:=jf S L f m t hI c.aL hC.hw c.name hC.nm 64 (β:=β);rw [d8] at h;exact h)) (jQ 5 [5,6] [] (NQ (NX (SQ (jK 2 [23] [] (NN (cN ((e:Int)=(0:Int)) (λh23=>zR ⟨L,by rw [show (dV S c)=(e,S,c) by unfold dV;rw [d8]]<;>exact⟨rfl,rfl⟩⟩) (λh23=>agY h23 bX))))))))
 have dQ:(af S.O d).kind=2:=hI.kind hd
 refine mD [0,2,3] [0,3,1,2,4,5,6,7] (.tuple #[vP (L.b d),vI 0]) ((by have h:=jf S L f m t hI c.aL hC.hw c.name hC.nm 64 (β:=β);rw [d8] at h;exact h)) (jQ 5 [5,6] [] (NQ (NX (SQ (jK 2 [23] [] (NF (KX (aq.seq (rQ (jQ 9 [26,30,34] [(4,a_ 6 cb),(8,a_ 6 cb)] ?_))))))))))
 rcases kI hI.toInv0 c.other c.text 192 with ⟨e2,Im,P8⟩|⟨to,Im,hd2,aec,Z6,af3⟩
 ·exact mD [0,2,3] [0,3,1,2,4,5,6,7] (.tuple #[.pointer none,vI (e2)]) ((by have h:=jf S L f m t hI c.other hC.ow c.text hC.tx 192 (β:=β);rw [Im] at h;exact h)) (jQ 5 [6,7] [] (NQ (NX (SQ (jK 2 [39] [] (NN (cN ((e2:Int)=(0:Int)) (λnh=>zR ⟨L,by rw [show (dV S c)=(e2,S,c) by grind [dV]]<;>exact⟨rfl,rfl⟩⟩) (λnh=>agY nh P8))))))))
 have jo:(af S.O to).kind=2:=hI.kind hd2
 refine mD [0,2,3] [0,3,1,2,4,5,6,7] (.tuple #[vP (L.b to),vI 0]) ((by have h:=jf S L f m t hI c.other hC.ow c.text hC.tx 192 (β:=β);rw [Im] at h;exact h)) (jQ 5 [6,7] [] (NQ (NX (SQ (jK 2 [39] [] (NF (KX (aq.seq ?_))))))))
 have hel:(af S.O d).ah.length<=8192:=hI.lF hd
 have afc:=hC.nm
 rcases hI.sJ hd c.name with eF|⟨tk,eF,bW⟩|⟨tk,eF,bW⟩|⟨tk,eF,bW⟩
 ·exact rQ (jQ 8 [44,48] [(3,v_ 3 (dw L dQ)),(7,a_ 6 cb)] (yQ 5 dQ eF (jQ 1 [8] [] (NQ (NX (aq.seq (aq.block (SR (jK 3 [50] [] (NT (zR ⟨L,by rw [show (dV S c)=(170,S,c) by grind [dV,nH]]<;>exact⟨rfl,rfl⟩⟩)))))))))))
 ·have bC:(af S.O tk).kind=1:=hI.kind bW
  refine rQ (jQ 8 [44,48] [(3,v_ 3 (dw L dQ)),(7,a_ 6 cb)] (yQ 5 dQ eF (jQ 1 [8] [] (NQ (NX (aq.seq (aq.block (SR (jK 3 [50] [] (NF (SR (jK 1 [54] [] (gE [] (sZ (vP (L.b tk))) (jK 2 [53] [] (NF (aq.seq ?_))))))))))))))))
  have Io:(af S.O to).ah.length<=8192:=hI.lF hd2
  have Xn:=hC.tx
  rcases hI.sJ hd2 c.text with eu|⟨ok,eu,jF⟩|⟨ok,eu,jF⟩|⟨ok,eu,jF⟩
  ·exact rQ (jQ 8 [61,65] [(3,v_ 3 (dw L jo)),(7,a_ 6 cb)] (yQ 5 jo eu (jQ 2 [57] [] (NQ (NX (CF (SR (jK 1 [69] [] (gE [0] (Cp S.X f m t) (jK 2 [68] [] (NN (cN (S.X.ah<8192) (λh68=>zR ⟨L,by rw [show (dV S c)=(177,S,c) by grind [dV,nH]]<;>exact⟨rfl,rfl⟩⟩) (λh68=>KX (SR (jK 7 [72,73,77,78] [(5,a_ 6 cb)] (gE [0,3,5] (ny S.X f m t hX S.O L to jo c.text hC.tx eu zc ⟨tk,1⟩ bC agU (by have:=hI.lb bW;simp only at this ⊢;omega)) (NS (av.gG [(5,.abs (aY (dS (dg S.X S.O to c.text ⟨tk,1⟩) L)))] (λw hS=>by rw [show dS (dg S.X S.O to c.text ⟨tk,1⟩) L=dS S.O L from mG];exact hS) (jK 1 [4] [] (eN ⟨L,by rw [show (dV S c)=(0,{S with X:={S.X with ah:=S.X.ah+1},O:=dg S.X S.O to c.text ⟨tk,1⟩},c) by grind [dV,nH,dg]]<;>exact⟨rfl,rfl⟩⟩ [0,3,4,1,5,2,6,7]))))))))))))))))))))
  ·have rz:(af S.O ok).kind=1:=hI.kind jF
   exact rQ (jQ 8 [61,65] [(3,v_ 3 (dw L jo)),(7,a_ 6 cb)] (yQ 5 jo eu (jQ 2 [57] [] (NQ (NX (CT (zR ⟨L,by rw [show (dV S c)=(171,S,c) by grind [dV,nH]]<;>exact⟨rfl,rfl⟩⟩)))))))
  ·have rz:(af S.O ok).kind=2:=hI.kind jF
   exact rQ (jQ 8 [61,65] [(3,v_ 3 (dw L jo)),(7,a_ 6 cb)] (yQ 5 jo eu (jQ 2 [57] [] (NQ (NX (CT (zR ⟨L,by rw [show (dV S c)=(171,S,c) by grind [dV,nH]]<;>exact⟨rfl,rfl⟩⟩)))))))
  have rz:(af S.O ok).kind=3:=hI.kind jF
  exact rQ (jQ 8 [61,65] [(3,v_ 3 (dw L jo)),(7,a_ 6 cb)] (yQ 5 jo eu (jQ 2 [57] [] (NQ (NX (CT (zR ⟨L,by rw [show (dV S c)=(171,S,c) by grind [dV,nH]]<;>exact⟨rfl,rfl⟩⟩)))))))
 ·have bC:(af S.O tk).kind=2:=hI.kind bW
  exact rQ (jQ 8 [44,48] [(3,v_ 3 (dw L dQ)),(7,a_ 6 cb)] (yQ 5 dQ eF (jQ 1 [8] [] (NQ (NX (aq.seq (aq.block (SR (jK 3 [50] [] (NF (SR (jK 1 [54] [] (gE [] (s5 (vP (L.b tk))) (jK 2 [53] [] (NT (zR ⟨L,by rw [show (dV S c)=(172,S,c) by grind [dV,nH]]<;>exact⟨rfl,rfl⟩⟩))))))))))))))))
 have bC:(af S.O tk).kind=3:=hI.kind bW
 refine rQ (jQ 8 [44,48] [(3,v_ 3 (dw L dQ)),(7,a_ 6 cb)] (yQ 5 dQ eF (jQ 1 [8] [] (NQ (NX (aq.seq (aq.block (SR (jK 3 [50] [] (NF (SR (jK 1 [54] [] (gE [] (uG (vP (L.b tk))) (jK 2 [53] [] (NF (aq.seq ?_))))))))))))))))
 have Io:(af S.O to).ah.length<=8192:=hI.lF hd2
 have Xn:=hC.tx
 rcases hI.sJ hd2 c.text with eu|⟨ok,eu,jF⟩|⟨ok,eu,jF⟩|⟨ok,eu,jF⟩
 ·exact rQ (jQ 8 [61,65] [(3,v_ 3 (dw L jo)),(7,a_ 6 cb)] (yQ 5 jo eu (jQ 2 [57] [] (NQ (NX (CF (SR (jK 1 [69] [] (gE [0] (Cp S.X f m t) (jK 2 [68] [] (NN (cN (S.X.ah<8192) (λh68=>zR ⟨L,by rw [show (dV S c)=(177,S,c) by grind [dV,nH]]<;>exact⟨rfl,rfl⟩⟩) (λh68=>KX (SR (jK 7 [72,73,77,78] [(5,a_ 6 cb)] (gE [0,3,5] (ny S.X f m t hX S.O L to jo c.text hC.tx eu zc ⟨tk,3⟩ bC agU (by have:=hI.lb bW;simp only at this ⊢;omega)) (NS (av.gG [(5,.abs (aY (dS (dg S.X S.O to c.text ⟨tk,3⟩) L)))] (λw hS=>by rw [show dS (dg S.X S.O to c.text ⟨tk,3⟩) L=dS S.O L from mG];exact hS) (jK 1 [4] [] (eN ⟨L,by rw [show (dV S c)=(0,{S with X:={S.X with ah:=S.X.ah+1},O:=dg S.X S.O to c.text ⟨tk,3⟩},c) by grind [dV,nH,dg]]<;>exact⟨rfl,rfl⟩⟩ [0,3,4,1,5,2,6,7]))))))))))))))))))))
 ·have rz:(af S.O ok).kind=1:=hI.kind jF
  exact rQ (jQ 8 [61,65] [(3,v_ 3 (dw L jo)),(7,a_ 6 cb)] (yQ 5 jo eu (jQ 2 [57] [] (NQ (NX (CT (zR ⟨L,by rw [show (dV S c)=(171,S,c) by grind [dV,nH]]<;>exact⟨rfl,rfl⟩⟩)))))))
 ·have rz:(af S.O ok).kind=2:=hI.kind jF
  exact rQ (jQ 8 [61,65] [(3,v_ 3 (dw L jo)),(7,a_ 6 cb)] (yQ 5 jo eu (jQ 2 [57] [] (NQ (NX (CT (zR ⟨L,by rw [show (dV S c)=(171,S,c) by grind [dV,nH]]<;>exact⟨rfl,rfl⟩⟩)))))))
 have rz:(af S.O ok).kind=3:=hI.kind jF
 exact rQ (jQ 8 [61,65] [(3,v_ 3 (dw L jo)),(7,a_ 6 cb)] (yQ 5 jo eu (jQ 2 [57] [] (NQ (NX (CT (zR ⟨L,by rw [show (dV S c)=(171,S,c) by grind [dV,nH]]<;>exact⟨rfl,rfl⟩⟩)))))))
theorem Q5 {β:Bs} (S:bB) (L:HL) (f m t:Nat) (hI:bR S) (cb:Nat) (c:aN) (hC:kH β c) :
 aW Tryz.prog β 192 #[vP f,vP cb] ((pA f m t L S)++[.aD cb (aQ c) 53]) (λv l=>∃L2,v=vI (ij S c).1/\l=((pA f m t L2 ((ij S c).2.1))++[.aD cb (aQ ((ij S c).2.2)) 53])):=by
 have hX:=hI.hX
 refine SE Tryz.func192 Tryz.ntmps192 (λR=>aq.seq ?_)
 rcases hI.hand c.aL with iy|⟨tk,iy,bW⟩|⟨tk,iy,bW⟩
 ·exact aq.region (jK 1 [] [] (NN (aq.seq (rQ (jQ 8 [13,17] [(3,a_ 0 f),(7,a_ 6 cb)] (mD [2] [1,2,0,3,4,5,6,7] (.tuple #[.nilIface,vI 131]) (xL t S.X.cH S.aJ (cV L S.us) c.aL hC.hw (wm iy)) (jQ 5 [5,6] [] (NQ (NX (SQ (jK 2 [22] [] (NT (zR ⟨L,by rw [show (ij S c)=(131,S,c) by unfold ij;rw [iy]]<;>exact⟨rfl,rfl⟩⟩)))))))))))))
 ·have bC:(af S.O tk).kind=1:=hI.kind bW
  exact aq.region (jK 1 [] [] (NN (aq.seq (rQ (jQ 8 [13,17] [(3,a_ 0 f),(7,a_ 6 cb)] (mD [2] [1,2,0,3,4,5,6,7] (.tuple #[.iface 138 (vP (L.b tk)),vI 0]) (rO t S.X.cH S.aJ (cV L S.us) c.aL hC.hw (iw L ⟨tk,1⟩) (qz iy)) (jQ 5 [5,6] [] (NQ (NX (SQ (jK 2 [22] [] (NF (KX (SR (jK 7 [7,8] [] (NZ (jK 2 [30] [] (NF (KX (SR (jK 7 [32,33,34,38] [(6,a_ 6 cb)] (gX [0,1,2,3,4,5] (Mj S L f m t hI tk bW c.dA c.dC c.data hC.da hC.dl hC.dc) (λL2=>jC 7 [6] [(5,a_ 6 cb)] [(6,[(12,vI ((gD S tk c.data).1))])] (NS (jK 2 [4] [] (eN ⟨L2,by rw [show (ij S c)=((gD S tk c.data).2.1,(gD S tk c.data).2.2,{c with answer:=(gD S tk c.data).1}) by grind [ij]]<;>exact⟨rfl,rfl⟩⟩))))))))))))))))))))))))))
 have bC:(af S.O tk).kind=2:=hI.kind bW
 exact aq.region (jK 1 [] [] (NN (aq.seq (rQ (jQ 8 [13,17] [(3,a_ 0 f),(7,a_ 6 cb)] (mD [2] [1,2,0,3,4,5,6,7] (.tuple #[.iface 144 (vP (L.b tk)),vI 0]) (rO t S.X.cH S.aJ (cV L S.us) c.aL hC.hw (iw L ⟨tk,2⟩) (qz iy)) (jQ 5 [5,6] [] (NQ (NX (SQ (jK 2 [22] [] (NF (KX (SR (jK 7 [7,8] [] (NZ (jK 2 [30] [] (NT (zR ⟨L,by rw [show (ij S c)=(172,S,c) by grind [ij]]<;>exact⟨rfl,rfl⟩⟩)))))))))))))))))))
theorem uI {β:Bs} (S:bB) (L:HL) (hI:bR S) (cb:Nat) (c:aN) (ot:Option Th) (ht:ot=none\/(∃k,ot=some ⟨k,1⟩/\aT S.ar ⟨k,1⟩)\/(∃k,ot=some ⟨k,2⟩/\aT S.ar ⟨k,2⟩)\/∃k,ot=some ⟨k,3⟩/\aT S.ar ⟨k,3⟩) :
 aW Tryz.prog β 212 #[vP cb,(match ot with|none=>.nilIface|some th=>iw L th)] [pO S.O L,.aD cb (aQ c) 53] (λv l=>v=.tuple #[]/\l=[pO S.O L,.aD cb (aQ (nX S.O c ot)) 53]):=by
 refine SE Tryz.func212 Tryz.ntmps212 (λR=>aq.seq ?_)
 rcases ht with rfl|⟨tk,rfl,bW⟩|⟨tk,rfl,bW⟩|⟨tk,rfl,bW⟩
 ·exact aq.region (jC 21 [] [(8,a_ 1 cb),(11,a_ 1 cb),(14,a_ 1 cb),(17,a_ 1 cb),(20,A_ 1 cb 2)] [(1,(zh1))] (NZ (jK 2 [22] [] (NT (aq.ret (aB.bD (RT _ [0,1,2] (⟨rfl,rfl⟩))))))))
 ·have bC:(af S.O tk).kind=1:=hI.kind bW
  refine aq.region (jC 21 [] [(8,a_ 1 cb),(11,a_ 1 cb),(14,a_ 1 cb),(17,a_ 1 cb),(20,A_ 1 cb 2)] [(1,(zh1))] (NZ (jK 2 [22] [] (NF (KX (SR (jK 1 [23] [] (gE [] (gi (L.b tk)) (jK 1 [4] [] (NN (rM [0,1,2,3,4,5,6,7,8,9,10,12,13,14,15,16,17,18,19,20,21,22,23,24,25,26,27,11,28,29,30,31,32,33,34,35,36,37,38,39,40,41,42,43,44,45] 27 [0] (jR 27 [25,26,27,28,29,30,34,35,40,44,48,52] [(9,v_ 0 (yD L bC)),(14,v_ 0 (AK L bC)),(18,v_ 0 (F5 L bC)),(22,v_ 0 (F6 L bC)),(26,p_ ⟨[.view 0 (.int .i64 ((af S.O tk).aU)),.view 0 (.int .i64 ((af S.O tk).aI))],none,none,none,none⟩ [(∀F w,(aY (eM S.O L)).h F w->w.cell? ⟨(L.b tk),5,none⟩=some (vI ((af S.O tk).aI))),(∀F w,(aY (eM S.O L)).h F w->w.cell? ⟨(L.b tk),4,none⟩=some (vI ((af S.O tk).aU)))] ⟨iY (by rw [bC];decide) (rfl),iY (by rw [bC];decide) (rfl),trivial⟩)] (mL [0] [] (sZ (vP (L.b tk))) ?_ (by rintro _ _ ⟨rfl,rfl⟩;rfl))))))))))))))
  rintro _ _ ⟨rfl,rfl⟩
  exact nC [0] [53] [] [] (nC [0] [54] [] [] (nC [0] [] [(0,a_ 1 cb)] [(1,[(12,vI ((af S.O tk).id))])] (nC [0] [55] [] [] (nC [0] [56] [] [] (nC [0] [] [(0,a_ 1 cb)] [(1,[(2,vI 1)])] (nC [0] [57] [] [] (nC [0] [58] [] [] (nC [0] [] [(0,a_ 1 cb)] [(1,[(6,vI ((af S.O tk).mode))])] (nC [0] [59] [] [] (nC [0] [60] [] [] (nC [0] [] [(0,a_ 1 cb)] [(1,[(7,vI ((af S.O tk).bg))])] (nC [0] [61] [] [] (nC [0] [62] [] [] (nC [0] [] [(0,a_ 1 cb)] [(1,[(8,vI ((af S.O tk).bh))])] (nC [0] [63] [] [] (nC [0] [64] [] [] (ck.last rfl rfl (jC 1 [] [(0,A_ 1 cb 2)] [(1,(zh2 S tk))] (NL (aB.np (RF (.tuple #[]) [0,1,2] (⟨rfl,rfl⟩))))))))))))))))))))))
 ·have bC:(af S.O tk).kind=2:=hI.kind bW
  refine aq.region (jC 21 [] [(8,a_ 1 cb),(11,a_ 1 cb),(14,a_ 1 cb),(17,a_ 1 cb),(20,A_ 1 cb 2)] [(1,(zh1))] (NZ (jK 2 [22] [] (NF (KX (SR (jK 1 [23] [] (gE [] (gi (L.b tk)) (jK 1 [4] [] (NN (rM [0,1,2,3,4,5,6,7,8,9,10,12,13,14,15,16,17,18,19,20,21,22,23,24,25,26,27,11,28,29,30,31,32,33,34,35,36,37,38,39,40,41,42,43,44,45] 27 [0] (jR 27 [25,26,27,28,29,30,34,35,40,44,48,52] [(9,v_ 0 (yD L bC)),(14,v_ 0 (AK L bC)),(18,v_ 0 (F5 L bC)),(22,v_ 0 (F6 L bC)),(26,p_ ⟨[.view 0 (.int .i64 ((af S.O tk).aU)),.view 0 (.int .i64 ((af S.O tk).aI))],none,none,none,none⟩ [(∀F w,(aY (eM S.O L)).h F w->w.cell? ⟨(L.b tk),5,none⟩=some (vI ((af S.O tk).aI))),(∀F w,(aY (eM S.O L)).h F w->w.cell? ⟨(L.b tk),4,none⟩=some (vI ((af S.O tk).aU)))] ⟨iY (by rw [bC];decide) (rfl),iY (by rw [bC];decide) (rfl),trivial⟩)] (mL [0] [] (s5 (vP (L.b tk))) ?_ (by rintro _ _ ⟨rfl,rfl⟩;rfl))))))))))))))
  rintro _ _ ⟨rfl,rfl⟩
  exact nC [0] [53] [] [] (nC [0] [54] [] [] (nC [0] [] [(0,a_ 1 cb)] [(1,[(12,vI ((af S.O tk).id))])] (nC [0] [55] [] [] (nC [0] [56] [] [] (nC [0] [] [(0,a_ 1 cb)] [(1,[(2,vI 2)])] (nC [0] [57] [] [] (nC [0] [58] [] [] (nC [0] [] [(0,a_ 1 cb)] [(1,[(6,vI ((af S.O tk).mode))])] (nC [0] [59] [] [] (nC [0] [60] [] [] (nC [0] [] [(0,a_ 1 cb)] [(1,[(7,vI ((af S.O tk).bg))])] (nC [0] [61] [] [] (nC [0] [62] [] [] (nC [0] [] [(0,a_ 1 cb)] [(1,[(8,vI ((af S.O tk).bh))])] (nC [0] [63] [] [] (nC [0] [64] [] [] (ck.last rfl rfl (jC 1 [] [(0,A_ 1 cb 2)] [(1,(zh2 S tk))] (NL (aB.np (RF (.tuple #[]) [0,1,2] (⟨rfl,rfl⟩))))))))))))))))))))))
 have bC:(af S.O tk).kind=3:=hI.kind bW
 refine aq.region (jC 21 [] [(8,a_ 1 cb),(11,a_ 1 cb),(14,a_ 1 cb),(17,a_ 1 cb),(20,A_ 1 cb 2)] [(1,(zh1))] (NZ (jK 2 [22] [] (NF (KX (SR (jK 1 [23] [] (gE [] (gi (L.b tk)) (jK 1 [4] [] (NN (rM [0,1,2,3,4,5,6,7,8,9,10,12,13,14,15,16,17,18,19,20,21,22,23,24,25,26,27,11,28,29,30,31,32,33,34,35,36,37,38,39,40,41,42,43,44,45] 27 [0] (jR 27 [25,26,27,28,29,30,34,35,40,44,48,52] [(9,v_ 0 (yD L bC)),(14,v_ 0 (AK L bC)),(18,v_ 0 (F5 L bC)),(22,v_ 0 (F6 L bC)),(26,p_ ⟨[.view 0 (.int .i64 ((af S.O tk).aU)),.view 0 (.int .i64 ((af S.O tk).aI))],none,none,none,none⟩ [(∀F w,(aY (eM S.O L)).h F w->w.cell? ⟨(L.b tk),5,none⟩=some (vI ((af S.O tk).aI))),(∀F w,(aY (eM S.O L)).h F w->w.cell? ⟨(L.b tk),4,none⟩=some (vI ((af S.O tk).aU)))] ⟨iY (by rw [bC];decide) (rfl),iY (by rw [bC];decide) (rfl),trivial⟩)] (mL [0] [] (uG (vP (L.b tk))) ?_ (by rintro _ _ ⟨rfl,rfl⟩;rfl))))))))))))))
 rintro _ _ ⟨rfl,rfl⟩
 exact nC [0] [53] [] [] (nC [0] [54] [] [] (nC [0] [] [(0,a_ 1 cb)] [(1,[(12,vI ((af S.O tk).id))])] (nC [0] [55] [] [] (nC [0] [56] [] [] (nC [0] [] [(0,a_ 1 cb)] [(1,[(2,vI 3)])] (nC [0] [57] [] [] (nC [0] [58] [] [] (nC [0] [] [(0,a_ 1 cb)] [(1,[(6,vI ((af S.O tk).mode))])] (nC [0] [59] [] [] (nC [0] [60] [] [] (nC [0] [] [(0,a_ 1 cb)] [(1,[(7,vI ((af S.O tk).bg))])] (nC [0] [61] [] [] (nC [0] [62] [] [] (nC [0] [] [(0,a_ 1 cb)] [(1,[(8,vI ((af S.O tk).bh))])] (nC [0] [63] [] [] (nC [0] [64] [] [] (ck.last rfl rfl (jC 1 [] [(0,A_ 1 cb 2)] [(1,(zh2 S tk))] (NL (aB.np (RF (.tuple #[]) [0,1,2] (⟨rfl,rfl⟩))))))))))))))))))))))
theorem Uu {β:Bs} (S:bB) (L:HL) (f m t:Nat) (hI:bR S) (cb:Nat) (c:aN) (hC:kH β c) :
 aW Tryz.prog β 194 #[vP f,vP cb] ((pA f m t L S)++[.aD cb (aQ c) 53]) (λv l=>∃L2,v=vI (nY S c).1/\l=((pA f m t L2 ((nY S c).2.1))++[.aD cb (aQ ((nY S c).2.2)) 53])):=by
 have hX:=hI.hX
 refine SE Tryz.func194 Tryz.ntmps194 (λR=>aq.seq ?_)
 rcases hI.hand c.aL with iy|⟨tk,iy,bW⟩|⟨tk,iy,bW⟩
 ·exact aq.region (jK 1 [] [] (NN (aq.seq (rQ (jQ 8 [11,15] [(3,a_ 0 f),(7,a_ 6 cb)] (mD [2] [1,2,0,3,4,5,6,7] (.tuple #[.nilIface,vI 131]) (xL t S.X.cH S.aJ (cV L S.us) c.aL hC.hw (wm iy)) (jQ 5 [5,6] [] (NQ (NX (SR (jK 2 [19,20] [] (gE [3,6] (uI S L hI cb c none (.inl rfl)) (NS (jK 2 [4] [] (eN ⟨L,by rw [show (nY S c)=(131,S,nX S.O c none) by unfold nY;rw [iy]]<;>exact⟨rfl,rfl⟩⟩ [2,3,4,0,5,6,1,7])))))))))))))))
 ·have bC:(af S.O tk).kind=1:=hI.kind bW
  exact aq.region (jK 1 [] [] (NN (aq.seq (rQ (jQ 8 [11,15] [(3,a_ 0 f),(7,a_ 6 cb)] (mD [2] [1,2,0,3,4,5,6,7] (.tuple #[.iface 138 (vP (L.b tk)),vI 0]) (rO t S.X.cH S.aJ (cV L S.us) c.aL hC.hw (iw L ⟨tk,1⟩) (qz iy)) (jQ 5 [5,6] [] (NQ (NX (SR (jK 2 [19,20] [] (gE [3,6] (uI S L hI cb c (some ⟨tk,1⟩) (.inr (.inl ⟨tk,rfl,bW⟩))) (NS (jK 2 [4] [] (eN ⟨L,by rw [show (nY S c)=(0,S,nX S.O c (some ⟨tk,1⟩)) by unfold nY;rw [iy]]<;>exact⟨rfl,rfl⟩⟩ [2,3,4,0,5,6,1,7])))))))))))))))
 have bC:(af S.O tk).kind=2:=hI.kind bW
 exact aq.region (jK 1 [] [] (NN (aq.seq (rQ (jQ 8 [11,15] [(3,a_ 0 f),(7,a_ 6 cb)] (mD [2] [1,2,0,3,4,5,6,7] (.tuple #[.iface 144 (vP (L.b tk)),vI 0]) (rO t S.X.cH S.aJ (cV L S.us) c.aL hC.hw (iw L ⟨tk,2⟩) (qz iy)) (jQ 5 [5,6] [] (NQ (NX (SR (jK 2 [19,20] [] (gE [3,6] (uI S L hI cb c (some ⟨tk,2⟩) (.inr (.inr (.inl ⟨tk,rfl,bW⟩)))) (NS (jK 2 [4] [] (eN ⟨L,by rw [show (nY S c)=(0,S,nX S.O c (some ⟨tk,2⟩)) by unfold nY;rw [iy]]<;>exact⟨rfl,rfl⟩⟩ [2,3,4,0,5,6,1,7])))))))))))))))
theorem P9 {β:Bs} (S:bB) (L:HL) (f m t:Nat) (hI:bR S) (cb:Nat) (c:aN) (hC:kH β c) :
 aW Tryz.prog β 195 #[vP f,vP cb] ((pA f m t L S)++[.aD cb (aQ c) 53]) (λv l=>∃L2,v=vI (jr S c).1/\l=((pA f m t L2 ((jr S c).2.1))++[.aD cb (aQ ((jr S c).2.2)) 53])):=by
 have hX:=hI.hX
 refine SE Tryz.func195 Tryz.ntmps195 (λR=>SR (jK 1 [] [] (NS (jK 2 [8,9] [] ?_))))
 rcases Jg hI.toInv0 c with ⟨e,hnm,bX⟩|⟨tk,hnm,bW⟩|⟨tk,hnm,bW⟩|⟨tk,hnm,bW⟩
 ·exact gE [0,1,2,3,4,5,6] ((by have h:=nB S L f m t hI cb c hC (β:=β);rw [hnm] at h;exact h)) (jK 5 [5,6] [] (NS (jK 2 [13,14] [] (gE [3,6] (uI S L hI cb c none (.inl rfl)) (NS (jK 2 [4] [] (eN ⟨L,by rw [show (jr S c)=(e,S,nX S.O c none) by unfold jr;rw [hnm]]<;>exact⟨rfl,rfl⟩⟩ [2,3,4,0,5,6,1,7])))))))
 ·have bC:(af S.O tk).kind=1:=hI.kind bW
  exact gE [0,1,2,3,4,5,6] ((by have h:=nB S L f m t hI cb c hC (β:=β);rw [hnm] at h;exact h)) (jK 5 [5,6] [] (NS (jK 2 [13,14] [] (gE [3,6] (uI S L hI cb c (some ⟨tk,1⟩) (.inr (.inl ⟨tk,rfl,bW⟩))) (NS (jK 2 [4] [] (eN ⟨L,by rw [show (jr S c)=(0,S,nX S.O c (some ⟨tk,1⟩)) by unfold jr;rw [hnm]]<;>exact⟨rfl,rfl⟩⟩ [2,3,4,0,5,6,1,7])))))))
 ·have bC:(af S.O tk).kind=2:=hI.kind bW
  exact gE [0,1,2,3,4,5,6] ((by have h:=nB S L f m t hI cb c hC (β:=β);rw [hnm] at h;exact h)) (jK 5 [5,6] [] (NS (jK 2 [13,14] [] (gE [3,6] (uI S L hI cb c (some ⟨tk,2⟩) (.inr (.inr (.inl ⟨tk,rfl,bW⟩)))) (NS (jK 2 [4] [] (eN ⟨L,by rw [show (jr S c)=(0,S,nX S.O c (some ⟨tk,2⟩)) by unfold jr;rw [hnm]]<;>exact⟨rfl,rfl⟩⟩ [2,3,4,0,5,6,1,7])))))))
 have bC:(af S.O tk).kind=3:=hI.kind bW
 exact gE [0,1,2,3,4,5,6] ((by have h:=nB S L f m t hI cb c hC (β:=β);rw [hnm] at h;exact h)) (jK 5 [5,6] [] (NS (jK 2 [13,14] [] (gE [3,6] (uI S L hI cb c (some ⟨tk,3⟩) (.inr (.inr (.inr ⟨tk,rfl,bW⟩)))) (NS (jK 2 [4] [] (eN ⟨L,by rw [show (jr S c)=(0,S,nX S.O c (some ⟨tk,3⟩)) by unfold jr;rw [hnm]]<;>exact⟨rfl,rfl⟩⟩ [2,3,4,0,5,6,1,7])))))))
theorem Q6 {β:Bs} (S:bB) (L:HL) (f m t:Nat) (hI:bR S) (cb:Nat) (c:aN) (hC:kH β c) :
 aW Tryz.prog β 196 #[vP f,vP cb] ((pA f m t L S)++[.aD cb (aQ c) 53]) (λv l=>∃L2,v=vI (jT S c).1/\l=((pA f m t L2 ((jT S c).2.1))++[.aD cb (aQ ((jT S c).2.2)) 53])):=by
 have hX:=hI.hX
 refine SE Tryz.func196 Tryz.ntmps196 (λR=>aq.seq ?_)
 rcases hI.hand c.aL with iy|⟨tk,iy,bW⟩|⟨tk,iy,bW⟩
 ·refine aq.region (jK 1 [] [] (NN (aq.seq (jM [0,1,2,3,4,5,6,7,508,9,10,11,12,513] [0,6] (jG 8 [0,11,15] [(3,a_ 0 f),(7,a_ 1 cb)] (kL [1,6] [2] (Qx t S.X.cH S.aJ (cV L S.us) c.aL hC.hw (wm iy)) ?_ (by rintro _ _ ⟨rfl,rfl⟩;kernel_rfl)))))))
  rintro _ _ ⟨rfl,rfl⟩
  exact jG 4 [0,5,18] [] (fN.last KB (jK 1 [6] [] (NL (aB.np (NX (SQ (jK 2 [20] [] (NT (zR (v:=(vI 131)) ⟨L,by rw [show (jT S c)=(131,S,c) by unfold jT;rw [iy]]<;>exact⟨rfl,rfl⟩⟩ [1,2,0,3,4,5,6,7])))))))))
 ·have bC:(af S.O tk).kind=1:=hI.kind bW
  have hid:=hI.ob _ bW
  have wH:=hI.Vy bW
  have hdl:=hI.Oo bW
  have bZ:0<(af S.O tk).aK/\(af S.O tk).aK<=1024:=⟨by have h1:=hI.aK _ bW;have h2:=RJ iy;simp only at h1 h2;omega,(hI.Lv bW).2⟩
  refine aq.region (jK 1 [] [] (NN (aq.seq (jM [0,1,2,3,4,5,6,7,508,9,10,11,12,513] [0,6] (jG 8 [0,11,15] [(3,a_ 0 f),(7,a_ 1 cb)] (fN.cut (ι:=Unit) (bU:=λ(_:Unit)=>[(0,vP f),(16,.tuple #[.iface 138 (vP (L.b tk)),vI 0])]) (dI:=λ(_:Unit)=>[pT t S.X.cH S.aJ L (del c.aL S.us),pF f m t S.X,pI m L S.ar,pO S.O L,pD S.O L,pE S.O L,.aD cb (aQ c) 53,.abs R]) [1,6] KB ?_ rfl (λ_=>KB) ?_))))))
  ·exact gE (f:=213) (args:=#[vP t,vI (c.aL)]) (pre:=[pT t S.X.cH S.aJ L S.us]) [2] ((by have h:=Lu (β:=β) t S.X.cH S.aJ (cV L S.us) c.aL hC.hw (iw L ⟨tk,1⟩) (qz iy);rw [←Ox] at h;exact h)) (NL (MD () [0,16] [0,1,2,3,4,5,6,7]))
  rintro _
  refine jG 4 [0,5,18] [] (fN.last KB (jK 1 [6] [] (NL (aB.np (NX (SQ (jK 2 [20] [] (NF (KX (SR (jK 1 [22] [] (gE [] (gi (L.b tk)) (jK 6 [27,29] [(2,v_ 3 (qb L bC)),(3,wJ ((af S.O tk).aK-1) ((af S.O tk).aK-1))] (AL 3 [(5,1),(4,2)] tk 7 (λo=>{o with aK:=o.aK-1}) bC (λgS fO=>?_)))))))))))))))
  have pY:=ku fO bC
  have hf2:(af gS tk).id=(af S.O tk).id:=fu bJ.id fO rfl
  have hf3:(af gS tk).data=(af S.O tk).data:=fu bJ.data fO rfl
  refine NS ?_
  have Z7:(af gS tk).aK=(af S.O tk).aK-1:=by grind [fA]
  exact jK 2 [30,31] [] (gE [3,1,2] (yw S.X f m t hX gS L S.ar hI.fI ⟨tk,1⟩ pY agU (by rw [Z7];omega) (λ_=>by rw [hf2,hid.1];exact bW) (by rw [hf2];exact wH) (by rw [hf3];exact hdl)) (NS (jK 1 [4] [] (eN (l:=[pF f m t {S.X with used:=ql gS S.X.used ⟨tk,1⟩},pI m L (kT gS S.ar ⟨tk,1⟩),pT t S.X.cH S.aJ L (del c.aL S.us),pO gS L,pD gS L,pE gS L,.aD cb (aQ c) 53]) (v:=(vI 0)) ⟨L,by subst fO;rw [show jT S c=(0,_,c) by unfold jT;rw [iy]];exact⟨rfl,rfl⟩⟩ [1,2,3,0,4,5,6,7]))))
 have bC:(af S.O tk).kind=2:=hI.kind bW
 have hid:=hI.ob _ bW
 have wH:=hI.Vy bW
 have hdl:=hI.Oo bW
 have bZ:0<(af S.O tk).aK/\(af S.O tk).aK<=1024:=⟨by have h1:=hI.aK _ bW;have h2:=RJ iy;simp only at h1 h2;omega,(hI.Lv bW).2⟩
 refine aq.region (jK 1 [] [] (NN (aq.seq (jM [0,1,2,3,4,5,6,7,508,9,10,11,12,513] [0,6] (jG 8 [0,11,15] [(3,a_ 0 f),(7,a_ 1 cb)] (fN.cut (ι:=Unit) (bU:=λ(_:Unit)=>[(0,vP f),(16,.tuple #[.iface 144 (vP (L.b tk)),vI 0])]) (dI:=λ(_:Unit)=>[pT t S.X.cH S.aJ L (del c.aL S.us),pF f m t S.X,pI m L S.ar,pO S.O L,pD S.O L,pE S.O L,.aD cb (aQ c) 53,.abs R]) [1,6] KB ?_ rfl (λ_=>KB) ?_))))))
 ·exact gE (f:=213) (args:=#[vP t,vI (c.aL)]) (pre:=[pT t S.X.cH S.aJ L S.us]) [2] ((by have h:=Lu (β:=β) t S.X.cH S.aJ (cV L S.us) c.aL hC.hw (iw L ⟨tk,2⟩) (qz iy);rw [←Ox] at h;exact h)) (NL (MD () [0,16] [0,1,2,3,4,5,6,7]))
 rintro _
 refine jG 4 [0,5,18] [] (fN.last KB (jK 1 [6] [] (NL (aB.np (NX (SQ (jK 2 [20] [] (NF (KX (SR (jK 1 [22] [] (gE [] (gi (L.b tk)) (jK 6 [27,29] [(2,v_ 3 (qb L bC)),(3,wJ ((af S.O tk).aK-1) ((af S.O tk).aK-1))] (AL 3 [(5,1),(4,2)] tk 7 (λo=>{o with aK:=o.aK-1}) bC (λgS fO=>?_)))))))))))))))
 have E6:=ku fO bC
 have Xa:(af gS tk).id=(af S.O tk).id:=fu bJ.id fO rfl
 have hf6:(af gS tk).data=(af S.O tk).data:=fu bJ.data fO rfl
 refine NS ?_
 have Z7:(af gS tk).aK=(af S.O tk).aK-1:=by grind [fA]
 exact jK 2 [30,31] [] (gE [3,1,2] (yw S.X f m t hX gS L S.ar hI.fI ⟨tk,2⟩ E6 agU (by rw [Z7];omega) (λ_=>by rw [Xa,hid.1];exact bW) (by rw [Xa];exact wH) (by rw [hf6];exact hdl)) (NS (jK 1 [4] [] (eN (l:=[pF f m t {S.X with used:=ql gS S.X.used ⟨tk,2⟩},pI m L (kT gS S.ar ⟨tk,2⟩),pT t S.X.cH S.aJ L (del c.aL S.us),pO gS L,pD gS L,pE gS L,.aD cb (aQ c) 53]) (v:=(vI 0)) ⟨L,by subst fO;rw [show jT S c=(0,_,c) by unfold jT;rw [iy]];exact⟨rfl,rfl⟩⟩ [1,2,3,0,4,5,6,7]))))
end
section
open Go.RowKit Go.Maps bK aF
attribute [local irreducible] av bN aq aB ck
abbrev zi1 (S:bB) (c:aN) (L2:HL):=(pO (aZ S.O (bA S.X) (λ_=>(⟨0,c.mode,0,0,0,0,0,0,false,1,[],⟨#[]⟩,[],none⟩:bJ))) L2:HP)
theorem MP {β:Bs} (S:bB) (L:HL) (f m t:Nat) (hI:bR S) (cb:Nat) (c:aN) (hC:kH β c) :
 aW Tryz.prog β 193 #[vP f,vP cb] ((pA f m t L S)++[.aD cb (aQ c) 53]) (λv l=>∃L2,v=vI (cY S c).1/\l=((pA f m t L2 ((cY S c).2.1))++[.aD cb (aQ ((cY S c).2.2)) 53])):=by
 have hX:=hI.hX
 refine SE Tryz.func193 Tryz.ntmps193 (λR=>aq.seq ?_)
 rcases hI.hand c.aL with iy|⟨tk,iy,bW⟩|⟨tk,iy,bW⟩
 ·exact aq.region (jK 1 [] [] (NN (aq.seq (rQ (jQ 8 [12,16] [(3,a_ 0 f),(7,a_ 6 cb)] (mD [2] [1,2,0,3,4,5,6,7] (.tuple #[.nilIface,vI 131]) (xL t S.X.cH S.aJ (cV L S.us) c.aL hC.hw (wm iy)) (jQ 5 [5,6] [] (NQ (NX (SQ (jK 2 [21] [] (NT (zR ⟨L,by rw [show (cY S c)=(131,S,c) by unfold cY;rw [iy]]<;>exact⟨rfl,rfl⟩⟩)))))))))))))
 ·have bC:(af S.O tk).kind=1:=hI.kind bW
  refine aq.region (jK 1 [] [] (NN (aq.seq (rQ (jQ 8 [12,16] [(3,a_ 0 f),(7,a_ 6 cb)] (mD [2] [1,2,0,3,4,5,6,7] (.tuple #[.iface 138 (vP (L.b tk)),vI 0]) (rO t S.X.cH S.aJ (cV L S.us) c.aL hC.hw (iw L ⟨tk,1⟩) (qz iy)) (jQ 5 [5,6] [] (NQ (NX (SQ (jK 2 [21] [] (NF (KX (SR (jK 1 [23] [] (gE [] (gi (L.b tk)) (jK 1 [7] [] (NN (aq.seq (aq.block (SR (jK 5 [30] [(3,v_ 3 (uh L bC))] (av.pJ 30 (af S.O tk).aG (λ_=>KB) (λnM=>?_) (λnM=>?_))))))))))))))))))))))))
  ·refine jK 1 [31] [] (gE [] (sZ (vP (L.b tk))) (jK 3 [25] [] (NF (SR (jK 4 [39] [(3,a_ 6 cb)] (gE [] (kN (c.mode) 4095) (jK 2 [35] [] (NN (cN (0<=c.mode/\c.mode<=4095) (λnO=>zR ⟨L,by rw [show (cY S c)=(120,S,c) by unfold cY;rw [iy];exact (agV (λh=>agY h.2 (by simp))).trans (agV nO)]<;>exact⟨rfl,rfl⟩⟩) (λnO=>SR (jK 4 [46] [(3,a_ 6 cb)] (gE [] (kN (c.bg) 2147483647) (jK 2 [49] [] (sN 49 (0<=c.bg/\c.bg<=2147483647) (λyR=>jK 8 [42] [] (NT (zR ⟨L,by rw [show (cY S c)=(11,S,c) by unfold cY;rw [iy];exact (agV (λh=>agY h.2 (by simp))).trans ((agW nO).trans (agV (λh=>yR h.1)))]<;>exact⟨rfl,rfl⟩⟩))) (λyR=>jK 4 [53] [(3,a_ 6 cb)] (gE [] (kN (c.bh) 2147483647) (jK 3 [42] [] (NN (cN (0<=c.bh/\c.bh<=2147483647) (λkQ=>zR ⟨L,by rw [show (cY S c)=(11,S,c) by unfold cY;rw [iy];exact (agV (λh=>agY h.2 (by simp))).trans ((agW nO).trans (agV (λh=>kQ h.2)))]<;>exact⟨rfl,rfl⟩⟩) (λkQ=>SR (jK 4 [61] [(3,A_ 6 cb 2)] (gE [] (nj c.aU c.aI) (jK 2 [57] [] (NN (cN (fZ c.aU c.aI) (λxH=>zR ⟨L,by rw [show (cY S c)=(20,S,c) by unfold cY;rw [iy];exact (agV (λh=>agY h.2 (by simp))).trans ((agW nO).trans ((agW ⟨yR,kQ⟩).trans (agV xH)))]<;>exact⟨rfl,rfl⟩⟩) (λxH=>KX (aq.seq ?_)))))))))))))))))))))))))))
   skip
   refine aq.mem (fe:=[.aD f [vI (S.X.cN),vI (S.X.cB),vI (S.X.cH),vI (S.X.cS),vI (S.X.cZ),.map (some m),vP t,vI (S.X.last),vI (S.X.ah),vI (S.X.used)] 135,.abs (bM Tryz.prog 3 m (cT (cV L S.ar)) S.ar.length),.abs (gj 182 t S.X.cH S.aJ (cV L S.us)),.abs (aY (nR (eM S.O L) tk eH.none)),.abs (aY (dS S.O L)),.abs (aY (gq S.O L)),.aD cb (aQ c) 53,.abs R,.aD (L.b tk) [vI ((af S.O tk).id),vI ((af S.O tk).mode),vI ((af S.O tk).bg),vI ((af S.O tk).bh),vI ((af S.O tk).aU),vI ((af S.O tk).aI),vI ((af S.O tk).aV),vI ((af S.O tk).aK),.bool (af S.O tk).aG,.slice (L.dA tk) ((af S.O tk).data.length) ((L.dC tk))] 140]) (λw hS=>hS.Ev (i:=3) (k:=tk) rfl (by rw [bC];decide) (mE (bC)) (by rw [bC];rfl)) (rM (List.range 32) 22 [6] (jR 22 [65,66,67,71,75,79,83,85] [(7,a_ 0 cb),(11,a_ 0 cb),(15,a_ 0 cb),(19,A_ 0 cb 2)] (nC [6] [] [(0,a_ 8 (L.b tk))] [(8,[(1,vI (c.mode))])] (nC [6] [86] [] [] (nC [6] [87] [] [] (nC [6] [] [(0,a_ 8 (L.b tk))] [(8,[(2,vI (c.bg))])] (nC [6] [88] [] [] (nC [6] [89] [] [] (nC [6] [] [(0,a_ 8 (L.b tk))] [(8,[(3,vI (c.bh))])] (nC [6] [90] [] [] (nC [6] [91] [] [] (ck.last rfl rfl (jC 1 [] [(0,A_ 8 (L.b tk) 2)] [(8,[(4,vI (c.aU)),(5,vI (c.aI))])] (NL (aB.np (NX (SR (av.mem (fe:=[.abs (aY (eM (aZ S.O tk (λo=>{o with mode:=c.mode,bg:=c.bg,bh:=c.bh,aU:=c.aU,aI:=c.aI})) L)),.aD f [vI (S.X.cN),vI (S.X.cB),vI (S.X.cH),vI (S.X.cS),vI (S.X.cZ),.map (some m),vP t,vI (S.X.last),vI (S.X.ah),vI (S.X.used)] 135,.abs (bM Tryz.prog 3 m (cT (cV L S.ar)) S.ar.length),.abs (gj 182 t S.X.cH S.aJ (cV L S.us)),.abs (aY (dS (aZ S.O tk (λo=>{o with mode:=c.mode,bg:=c.bg,bh:=c.bh,aU:=c.aU,aI:=c.aI})) L)),.abs (aY (gq (aZ S.O tk (λo=>{o with mode:=c.mode,bg:=c.bg,bh:=c.bh,aU:=c.aU,aI:=c.aI})) L)),.aD cb (aQ c) 53,.abs R]) (λw hS=>by have h:=hS.FD (O:=S.O) (L:=L) (i:=3) (j:=8) (ar:=[0,1,2,4,5,6,7]) (k:=tk) (f:=(λo=>{o with mode:=c.mode,bg:=c.bg,bh:=c.bh,aU:=c.aU,aI:=c.aI})) rfl (λ_ hx=>uR hx) rfl KB rfl (by show (af S.O tk).kind≠0;rw [bC];decide) ((mE (o:=(λo=>{o with mode:=c.mode,bg:=c.bg,bh:=c.bh,aU:=c.aU,aI:=c.aI}) (af S.O tk)) (bC)).trans rfl) (by show sE (af S.O tk).kind=_;rw [bC]<;>rfl);rw [tD (O:=S.O) (k:=tk) (f:=(λo=>{o with mode:=c.mode,bg:=c.bg,bh:=c.bh,aU:=c.aU,aI:=c.aI})) rfl rfl,tE (O:=S.O) (k:=tk) (f:=(λo=>{o with mode:=c.mode,bg:=c.bg,bh:=c.bh,aU:=c.aU,aI:=c.aI})) rfl rfl];exact h) ?_))))))))))))))))))
   have pY:(af (aZ S.O tk (λo=>{o with mode:=c.mode,bg:=c.bg,bh:=c.bh,aU:=c.aU,aI:=c.aI})) tk).kind=1:=(o8 (f:=(λo=>{o with mode:=c.mode,bg:=c.bg,bh:=c.bh,aU:=c.aU,aI:=c.aI})) (λ_=>rfl)).trans (bC)
   generalize fO:(aZ S.O tk (λo=>{o with mode:=c.mode,bg:=c.bg,bh:=c.bh,aU:=c.aU,aI:=c.aI}))=gS at pY ⊢
   exact jK 1 [4] [] (eN ⟨L,by subst fO;rw [show (cY S c)=(0,{S with O:=aZ S.O tk (λo=>{o with mode:=c.mode,bg:=c.bg,bh:=c.bh,aU:=c.aU,aI:=c.aI})},c) by unfold cY;rw [iy];exact (agV (λh=>agY h.2 (by simp))).trans ((agW nO).trans ((agW ⟨yR,kQ⟩).trans (agW xH)))]<;>exact⟨rfl,rfl⟩⟩ [1,2,3,0,4,5,6,7])
  refine jK 5 [25] [] (NF (SR (jK 4 [39] [(3,a_ 6 cb)] (gE [] (kN (c.mode) 4095) (jK 2 [35] [] (NN (cN (0<=c.mode/\c.mode<=4095) (λnO=>zR ⟨L,by rw [show (cY S c)=(120,S,c) by unfold cY;rw [iy];exact (agV (λh=>agY h.2 (by simp))).trans (agV nO)]<;>exact⟨rfl,rfl⟩⟩) (λnO=>SR (jK 4 [46] [(3,a_ 6 cb)] (gE [] (kN (c.bg) 2147483647) (jK 2 [49] [] (sN 49 (0<=c.bg/\c.bg<=2147483647) (λyR=>jK 8 [42] [] (NT (zR ⟨L,by rw [show (cY S c)=(11,S,c) by unfold cY;rw [iy];exact (agV (λh=>agY h.2 (by simp))).trans ((agW nO).trans (agV (λh=>yR h.1)))]<;>exact⟨rfl,rfl⟩⟩))) (λyR=>jK 4 [53] [(3,a_ 6 cb)] (gE [] (kN (c.bh) 2147483647) (jK 3 [42] [] (NN (cN (0<=c.bh/\c.bh<=2147483647) (λkQ=>zR ⟨L,by rw [show (cY S c)=(11,S,c) by unfold cY;rw [iy];exact (agV (λh=>agY h.2 (by simp))).trans ((agW nO).trans (agV (λh=>kQ h.2)))]<;>exact⟨rfl,rfl⟩⟩) (λkQ=>SR (jK 4 [61] [(3,A_ 6 cb 2)] (gE [] (nj c.aU c.aI) (jK 2 [57] [] (NN (cN (fZ c.aU c.aI) (λxH=>zR ⟨L,by rw [show (cY S c)=(20,S,c) by unfold cY;rw [iy];exact (agV (λh=>agY h.2 (by simp))).trans ((agW nO).trans ((agW ⟨yR,kQ⟩).trans (agV xH)))]<;>exact⟨rfl,rfl⟩⟩) (λxH=>KX (aq.seq ?_)))))))))))))))))))))))))
  skip
  refine aq.mem (fe:=[.aD f [vI (S.X.cN),vI (S.X.cB),vI (S.X.cH),vI (S.X.cS),vI (S.X.cZ),.map (some m),vP t,vI (S.X.last),vI (S.X.ah),vI (S.X.used)] 135,.abs (bM Tryz.prog 3 m (cT (cV L S.ar)) S.ar.length),.abs (gj 182 t S.X.cH S.aJ (cV L S.us)),.abs (aY (nR (eM S.O L) tk eH.none)),.abs (aY (dS S.O L)),.abs (aY (gq S.O L)),.aD cb (aQ c) 53,.abs R,.aD (L.b tk) [vI ((af S.O tk).id),vI ((af S.O tk).mode),vI ((af S.O tk).bg),vI ((af S.O tk).bh),vI ((af S.O tk).aU),vI ((af S.O tk).aI),vI ((af S.O tk).aV),vI ((af S.O tk).aK),.bool (af S.O tk).aG,.slice (L.dA tk) ((af S.O tk).data.length) ((L.dC tk))] 140]) (λw hS=>hS.Ev (i:=3) (k:=tk) rfl (by rw [bC];decide) (mE (bC)) (by rw [bC];rfl)) (rM (List.range 32) 22 [6] (jR 22 [65,66,67,71,75,79,83,85] [(7,a_ 0 cb),(11,a_ 0 cb),(15,a_ 0 cb),(19,A_ 0 cb 2)] (nC [6] [] [(0,a_ 8 (L.b tk))] [(8,[(1,vI (c.mode))])] (nC [6] [86] [] [] (nC [6] [87] [] [] (nC [6] [] [(0,a_ 8 (L.b tk))] [(8,[(2,vI (c.bg))])] (nC [6] [88] [] [] (nC [6] [89] [] [] (nC [6] [] [(0,a_ 8 (L.b tk))] [(8,[(3,vI (c.bh))])] (nC [6] [90] [] [] (nC [6] [91] [] [] (ck.last rfl rfl (jC 1 [] [(0,A_ 8 (L.b tk) 2)] [(8,[(4,vI (c.aU)),(5,vI (c.aI))])] (NL (aB.np (NX (SR (av.mem (fe:=[.abs (aY (eM (aZ S.O tk (λo=>{o with mode:=c.mode,bg:=c.bg,bh:=c.bh,aU:=c.aU,aI:=c.aI})) L)),.aD f [vI (S.X.cN),vI (S.X.cB),vI (S.X.cH),vI (S.X.cS),vI (S.X.cZ),.map (some m),vP t,vI (S.X.last),vI (S.X.ah),vI (S.X.used)] 135,.abs (bM Tryz.prog 3 m (cT (cV L S.ar)) S.ar.length),.abs (gj 182 t S.X.cH S.aJ (cV L S.us)),.abs (aY (dS (aZ S.O tk (λo=>{o with mode:=c.mode,bg:=c.bg,bh:=c.bh,aU:=c.aU,aI:=c.aI})) L)),.abs (aY (gq (aZ S.O tk (λo=>{o with mode:=c.mode,bg:=c.bg,bh:=c.bh,aU:=c.aU,aI:=c.aI})) L)),.aD cb (aQ c) 53,.abs R]) (λw hS=>by have h:=hS.FD (O:=S.O) (L:=L) (i:=3) (j:=8) (ar:=[0,1,2,4,5,6,7]) (k:=tk) (f:=(λo=>{o with mode:=c.mode,bg:=c.bg,bh:=c.bh,aU:=c.aU,aI:=c.aI})) rfl (λ_ hx=>uR hx) rfl KB rfl (by show (af S.O tk).kind≠0;rw [bC];decide) ((mE (o:=(λo=>{o with mode:=c.mode,bg:=c.bg,bh:=c.bh,aU:=c.aU,aI:=c.aI}) (af S.O tk)) (bC)).trans rfl) (by show sE (af S.O tk).kind=_;rw [bC]<;>rfl);rw [tD (O:=S.O) (k:=tk) (f:=(λo=>{o with mode:=c.mode,bg:=c.bg,bh:=c.bh,aU:=c.aU,aI:=c.aI})) rfl rfl,tE (O:=S.O) (k:=tk) (f:=(λo=>{o with mode:=c.mode,bg:=c.bg,bh:=c.bh,aU:=c.aU,aI:=c.aI})) rfl rfl];exact h) ?_))))))))))))))))))
  have tf:(af (aZ S.O tk (λo=>{o with mode:=c.mode,bg:=c.bg,bh:=c.bh,aU:=c.aU,aI:=c.aI})) tk).kind=1:=(o8 (f:=(λo=>{o with mode:=c.mode,bg:=c.bg,bh:=c.bh,aU:=c.aU,aI:=c.aI})) (λ_=>rfl)).trans (bC)
  generalize fO:(aZ S.O tk (λo=>{o with mode:=c.mode,bg:=c.bg,bh:=c.bh,aU:=c.aU,aI:=c.aI}))=gS at tf ⊢
  exact jK 1 [4] [] (eN ⟨L,by subst fO;rw [show (cY S c)=(0,{S with O:=aZ S.O tk (λo=>{o with mode:=c.mode,bg:=c.bg,bh:=c.bh,aU:=c.aU,aI:=c.aI})},c) by unfold cY;rw [iy];exact (agV (λh=>agY h.2 (by simp))).trans ((agW nO).trans ((agW ⟨yR,kQ⟩).trans (agW xH)))]<;>exact⟨rfl,rfl⟩⟩ [1,2,3,0,4,5,6,7])
 have bC:(af S.O tk).kind=2:=hI.kind bW
 refine aq.region (jK 1 [] [] (NN (aq.seq (rQ (jQ 8 [12,16] [(3,a_ 0 f),(7,a_ 6 cb)] (mD [2] [1,2,0,3,4,5,6,7] (.tuple #[.iface 144 (vP (L.b tk)),vI 0]) (rO t S.X.cH S.aJ (cV L S.us) c.aL hC.hw (iw L ⟨tk,2⟩) (qz iy)) (jQ 5 [5,6] [] (NQ (NX (SQ (jK 2 [21] [] (NF (KX (SR (jK 1 [23] [] (gE [] (gi (L.b tk)) (jK 1 [7] [] (NN (aq.seq (aq.block (SR (jK 5 [30] [(3,v_ 3 (uh L bC))] (av.pJ 30 (af S.O tk).aG (λ_=>KB) (λnM=>jK 1 [31] [] (gE [] (s5 (vP (L.b tk))) (jK 3 [25] [] (NT (zR ⟨L,by rw [show (cY S c)=(170,S,c) by grind [cY]]<;>exact⟨rfl,rfl⟩⟩))))) (λnM=>jK 5 [25] [] (NF (SR (jK 4 [39] [(3,a_ 6 cb)] (gE [] (kN (c.mode) 4095) (jK 2 [35] [] (NN (cN (0<=c.mode/\c.mode<=4095) (λnO=>zR ⟨L,by rw [show (cY S c)=(120,S,c) by unfold cY;rw [iy];exact (agV (λh=>agY h.1 (by rw [nM];decide))).trans (agV nO)]<;>exact⟨rfl,rfl⟩⟩) (λnO=>SR (jK 4 [46] [(3,a_ 6 cb)] (gE [] (kN (c.bg) 2147483647) (jK 2 [49] [] (sN 49 (0<=c.bg/\c.bg<=2147483647) (λyR=>jK 8 [42] [] (NT (zR ⟨L,by rw [show (cY S c)=(11,S,c) by unfold cY;rw [iy];exact (agV (λh=>agY h.1 (by rw [nM];decide))).trans ((agW nO).trans (agV (λh=>yR h.1)))]<;>exact⟨rfl,rfl⟩⟩))) (λyR=>jK 4 [53] [(3,a_ 6 cb)] (gE [] (kN (c.bh) 2147483647) (jK 3 [42] [] (NN (cN (0<=c.bh/\c.bh<=2147483647) (λkQ=>zR ⟨L,by rw [show (cY S c)=(11,S,c) by unfold cY;rw [iy];exact (agV (λh=>agY h.1 (by rw [nM];decide))).trans ((agW nO).trans (agV (λh=>kQ h.2)))]<;>exact⟨rfl,rfl⟩⟩) (λkQ=>SR (jK 4 [61] [(3,A_ 6 cb 2)] (gE [] (nj c.aU c.aI) (jK 2 [57] [] (NN (cN (fZ c.aU c.aI) (λxH=>zR ⟨L,by rw [show (cY S c)=(20,S,c) by unfold cY;rw [iy];exact (agV (λh=>agY h.1 (by rw [nM];decide))).trans ((agW nO).trans ((agW ⟨yR,kQ⟩).trans (agV xH)))]<;>exact⟨rfl,rfl⟩⟩) (λxH=>KX (aq.seq ?_)))))))))))))))))))))))))))))))))))))))))))))))))
 skip
 refine aq.mem (fe:=[.aD f [vI (S.X.cN),vI (S.X.cB),vI (S.X.cH),vI (S.X.cS),vI (S.X.cZ),.map (some m),vP t,vI (S.X.last),vI (S.X.ah),vI (S.X.used)] 135,.abs (bM Tryz.prog 3 m (cT (cV L S.ar)) S.ar.length),.abs (gj 182 t S.X.cH S.aJ (cV L S.us)),.abs (aY (nR (eM S.O L) tk eH.none)),.abs (aY (dS S.O L)),.abs (aY (gq S.O L)),.aD cb (aQ c) 53,.abs R,.aD (L.b tk) [vI ((af S.O tk).id),vI ((af S.O tk).mode),vI ((af S.O tk).bg),vI ((af S.O tk).bh),vI ((af S.O tk).aU),vI ((af S.O tk).aI),vI ((af S.O tk).aV),vI ((af S.O tk).aK),.bool (af S.O tk).aG,.map (some (L.m tk)),(IZ L (af S.O tk).up)] 147]) (λw hS=>hS.Ev (i:=3) (k:=tk) rfl (by rw [bC];decide) (rJ (bC)) (by rw [bC];rfl)) (rM (List.range 32) 22 [6] (jR 22 [65,66,67,71,75,79,83,85] [(7,a_ 0 cb),(11,a_ 0 cb),(15,a_ 0 cb),(19,A_ 0 cb 2)] (nC [6] [] [(0,a_ 8 (L.b tk))] [(8,[(1,vI (c.mode))])] (nC [6] [86] [] [] (nC [6] [87] [] [] (nC [6] [] [(0,a_ 8 (L.b tk))] [(8,[(2,vI (c.bg))])] (nC [6] [88] [] [] (nC [6] [89] [] [] (nC [6] [] [(0,a_ 8 (L.b tk))] [(8,[(3,vI (c.bh))])] (nC [6] [90] [] [] (nC [6] [91] [] [] (ck.last rfl rfl (jC 1 [] [(0,A_ 8 (L.b tk) 2)] [(8,[(4,vI (c.aU)),(5,vI (c.aI))])] (NL (aB.np (NX (SR (av.mem (fe:=[.abs (aY (eM (aZ S.O tk (λo=>{o with mode:=c.mode,bg:=c.bg,bh:=c.bh,aU:=c.aU,aI:=c.aI})) L)),.aD f [vI (S.X.cN),vI (S.X.cB),vI (S.X.cH),vI (S.X.cS),vI (S.X.cZ),.map (some m),vP t,vI (S.X.last),vI (S.X.ah),vI (S.X.used)] 135,.abs (bM Tryz.prog 3 m (cT (cV L S.ar)) S.ar.length),.abs (gj 182 t S.X.cH S.aJ (cV L S.us)),.abs (aY (dS (aZ S.O tk (λo=>{o with mode:=c.mode,bg:=c.bg,bh:=c.bh,aU:=c.aU,aI:=c.aI})) L)),.abs (aY (gq (aZ S.O tk (λo=>{o with mode:=c.mode,bg:=c.bg,bh:=c.bh,aU:=c.aU,aI:=c.aI})) L)),.aD cb (aQ c) 53,.abs R]) (λw hS=>by have h:=hS.FD (O:=S.O) (L:=L) (i:=3) (j:=8) (ar:=[0,1,2,4,5,6,7]) (k:=tk) (f:=(λo=>{o with mode:=c.mode,bg:=c.bg,bh:=c.bh,aU:=c.aU,aI:=c.aI})) rfl (λ_ hx=>uR hx) rfl KB rfl (by show (af S.O tk).kind≠0;rw [bC];decide) ((rJ (o:=(λo=>{o with mode:=c.mode,bg:=c.bg,bh:=c.bh,aU:=c.aU,aI:=c.aI}) (af S.O tk)) (bC)).trans rfl) (by show sE (af S.O tk).kind=_;rw [bC]<;>rfl);rw [tD (O:=S.O) (k:=tk) (f:=(λo=>{o with mode:=c.mode,bg:=c.bg,bh:=c.bh,aU:=c.aU,aI:=c.aI})) rfl rfl,tE (O:=S.O) (k:=tk) (f:=(λo=>{o with mode:=c.mode,bg:=c.bg,bh:=c.bh,aU:=c.aU,aI:=c.aI})) rfl rfl];exact h) ?_))))))))))))))))))
 have KW:(af (aZ S.O tk (λo=>{o with mode:=c.mode,bg:=c.bg,bh:=c.bh,aU:=c.aU,aI:=c.aI})) tk).kind=2:=(o8 (f:=(λo=>{o with mode:=c.mode,bg:=c.bg,bh:=c.bh,aU:=c.aU,aI:=c.aI})) (λ_=>rfl)).trans (bC)
 generalize fO:(aZ S.O tk (λo=>{o with mode:=c.mode,bg:=c.bg,bh:=c.bh,aU:=c.aU,aI:=c.aI}))=gS at KW ⊢
 exact jK 1 [4] [] (eN ⟨L,by subst fO;rw [show (cY S c)=(0,{S with O:=aZ S.O tk (λo=>{o with mode:=c.mode,bg:=c.bg,bh:=c.bh,aU:=c.aU,aI:=c.aI})},c) by unfold cY;rw [iy];exact (agV (λh=>agY h.1 (by rw [nM];decide))).trans ((agW nO).trans ((agW ⟨yR,kQ⟩).trans (agW xH)))]<;>exact⟨rfl,rfl⟩⟩ [1,2,3,0,4,5,6,7])
theorem Qa {β:Bs} (S:bB) (L:HL) (f m t:Nat) (hI:bR S) (cb:Nat) (c:aN) (hC:kH β c) :
 aW Tryz.prog β 188 #[vP f,vP cb] ((pA f m t L S)++[.aD cb (aQ c) 53]) (λv l=>∃L2,v=vI (fo S c).1/\l=((pA f m t L2 ((fo S c).2.1))++[.aD cb (aQ ((fo S c).2.2)) 53])):=by
 have hX:=hI.hX
 refine SE Tryz.func188 Tryz.ntmps188 (λR=>SR (jK 1 [] [] (NN (aq.seq (rQ (jQ 9 [10,14,18] [(4,a_ 6 cb),(8,a_ 6 cb)] ?_))))))
 rcases kI hI.toInv0 c.aL c.name 192 with ⟨e,d8,bX⟩|⟨d,d8,hd,lQ,j3,iy⟩
 ·exact mD [0,2,3] [0,3,1,2,4,5,6,7] (.tuple #[.pointer none,vI (e)]) ((by have h:=jf S L f m t hI c.aL hC.hw c.name hC.nm 192 (β:=β);rw [d8] at h;exact h)) (jQ 5 [5,6] [] (NQ (NX (SQ (jK 2 [23] [] (NN (cN ((e:Int)=(0:Int)) (λh23=>zR (v:=(vI (e))) ⟨L,by rw [show (fo S c)=(e,S,c) by unfold fo;rw [d8]]<;>exact⟨rfl,rfl⟩⟩) (λh23=>agY h23 bX))))))))
 have dQ:(af S.O d).kind=2:=hI.kind hd
 refine mD [0,2,3] [0,3,1,2,4,5,6,7] (.tuple #[vP (L.b d),vI 0]) ((by have h:=jf S L f m t hI c.aL hC.hw c.name hC.nm 192 (β:=β);rw [d8] at h;exact h)) (jQ 5 [5,6] [] (NQ (NX (SQ (jK 2 [23] [] (NF (KX (SQ (jK 4 [28] [(3,a_ 6 cb)] (gE [] (kN (c.mode) 4095) (jK 1 [30] [] (NN (cN (0<=c.mode/\c.mode<=4095) (λnM=>zR (v:=(vI 120)) ⟨L,by rw [show (fo S c)=(120,S,c) by unfold fo;rw [d8];exact agV nM]<;>exact⟨rfl,rfl⟩⟩) (λnM=>KX (SQ (jK 6 [31,32,36] [(5,a_ 6 cb)] (gE [0,1,5,3] (BW S L f m t hI d hd c.name hC.nm) (jK 1 [6] [] (NS (jK 2 [39] [] (NN (cN (((gu S.X S.O S.ar d c.name):Int)=(0:Int)) (λh0=>zR (v:=(vI ((gu S.X S.O S.ar d c.name)))) ⟨L,by rw [show (fo S c)=(gu S.X S.O S.ar d c.name,S,c) by unfold fo;rw [d8];exact (agW nM).trans (agV h0)]<;>exact⟨rfl,rfl⟩⟩ [0,1,4,3,5,2,6,7]) (λh0=>?_)))))))))))))))))))))))
 have iP:=uT h0
 refine KX (SR (jN 8 [7] (λb4=>[(3,a_ 6 cb)]) (λ_=>[]) (λb4=>.aD b4 [vI 0,vI (c.mode),vI 0,vI 0,vI 0,vI 0,vI 0,vI 0,.bool false,.slice none (0) (0)] 140) (λb4=>NN (aq.seq (aq.seq ?_)))))
 rcases Int.lt_or_le (S.us.length:Int) S.X.cH with GI|GI
 ·refine aq.region (jK 4 [49,50,52] [] ?_)
  obtain⟨L2,fS⟩:∃L2:HL,L2=L.put (bA S.X) b4 0 none 0:=⟨_,rfl⟩
  have hfr:=hI.toInv0.fresh
  refine av.mem (λw hS=>hS.Bo fS hfr (o:=(⟨0,c.mode,0,0,0,0,0,0,false,1,[],⟨#[]⟩,[],none⟩:bJ)) (i:=3) (j:=8) (ix:=[0,1,2,4,5,6,7]) rfl rfl KB rfl (by show (1:Int)≠0;decide) ((mE (L:=L2) (k:=(bA S.X)) (o:=(⟨0,c.mode,0,0,0,0,0,0,false,1,[],⟨#[]⟩,[],none⟩:bJ)) rfl).trans (by rw [show L2.dA (bA S.X)=none by rw [fS];exact agW rfl,show L2.dC (bA S.X)=0 by rw [fS];exact agW rfl];rfl)) rfl) (av.gG [(3,pE (aZ S.O (bA S.X) (λ_=>(⟨0,c.mode,0,0,0,0,0,0,false,1,[],⟨#[]⟩,[],none⟩:bJ))) L2)] (λw hS=>hS.CG fS hfr (o:=(⟨0,c.mode,0,0,0,0,0,0,false,1,[],⟨#[]⟩,[],none⟩:bJ)) (i:=3) rfl (by show (1:Int)≠2;decide)) (av.mem (λw hS=>hS.mB (e:=5) (size:=1)) (av.mem (λw hS=>hS.Tn fS (o:=(⟨0,c.mode,0,0,0,0,0,0,false,1,[],⟨#[]⟩,[],none⟩:bJ)) (i:=5) (j:=8) (ix:=[0,1,2,3,4,6,7]) rfl rfl KB rfl rfl rfl) (av.gG [(3,.abs (bM Tryz.prog 3 m (cT (cV L2 S.ar)) S.ar.length)),(5,.abs (gj 182 t S.X.cH S.aJ (cV L2 S.us)))] (λw hS=>by rw [lW fS hfr.ar,lW fS hfr.us];exact hS) (gE (f:=199) (args:=#[vP f,.iface 138 (vP b4)]) (pre:=[pF f m t S.X,pT t S.X.cH S.aJ L2 S.us,zi1 S c L2]) [2,5,1] ((by have h:=AO (β:=β) {S with O:=(aZ S.O (bA S.X) (λ_=>(⟨0,c.mode,0,0,0,0,0,0,false,1,[],⟨#[]⟩,[],none⟩:bJ)))} L2 f m t ⟨(bA S.X),1⟩ (by show (af (aZ S.O (bA S.X) (λ_=>(⟨0,c.mode,0,0,0,0,0,0,false,1,[],⟨#[]⟩,[],none⟩:bJ))) (bA S.X)).kind=1;rw [fA]) agU (by show 0<=(af (aZ S.O (bA S.X) (λ_=>(⟨0,c.mode,0,0,0,0,0,0,false,1,[],⟨#[]⟩,[],none⟩:bJ))) (bA S.X)).aK/\(af (aZ S.O (bA S.X) (λ_=>(⟨0,c.mode,0,0,0,0,0,0,false,1,[],⟨#[]⟩,[],none⟩:bJ))) (bA S.X)).aK<=1048576;rw [fA];exact⟨Int.le_refl _,by show (0:Int)<=1048576;decide⟩);rw [uS fS,om (S:={S with O:=(aZ S.O (bA S.X) (λ_=>(⟨0,c.mode,0,0,0,0,0,0,false,1,[],⟨#[]⟩,[],none⟩:bJ)))}) (t:=⟨(bA S.X),1⟩) GI] at h;exact h)) (jC 7 [6] [(5,a_ 6 cb)] [(6,[(12,vI ((aF.aS S.us)))])] (NS (jK 2 [59] [] (NF (KX (SR (sl 7 (vP b4) (vP (L2.b (bA S.X))) (by rw [I9 fS]) (av.gG [(3,.abs (aY (dS (aZ (aZ S.O (bA S.X) (λ_=>(⟨0,c.mode,0,0,0,0,0,0,false,1,[],⟨#[]⟩,[],none⟩:bJ))) (bA S.X) (λo=>{o with aK:=o.aK+1})) L2))),(5,.abs (aY (gq (aZ (aZ S.O (bA S.X) (λ_=>(⟨0,c.mode,0,0,0,0,0,0,false,1,[],⟨#[]⟩,[],none⟩:bJ))) (bA S.X) (λo=>{o with aK:=o.aK+1})) L2)))] (λw hS=>by rw [tD (O:=(aZ S.O (bA S.X) (λ_=>(⟨0,c.mode,0,0,0,0,0,0,false,1,[],⟨#[]⟩,[],none⟩:bJ)))) (k:=(bA S.X)) (f:=(λo=>{o with aK:=o.aK+1})) rfl rfl,tE (O:=(aZ S.O (bA S.X) (λ_=>(⟨0,c.mode,0,0,0,0,0,0,false,1,[],⟨#[]⟩,[],none⟩:bJ)))) (k:=(bA S.X)) (f:=(λo=>{o with aK:=o.aK+1})) rfl rfl];exact hS) ?_)))))))))))))
  have hkN:(af (aZ (aZ S.O (bA S.X) (λ_=>(⟨0,c.mode,0,0,0,0,0,0,false,1,[],⟨#[]⟩,[],none⟩:bJ))) (bA S.X) (λo=>{o with aK:=o.aK+1})) (bA S.X)).kind=1:=by rw [fA,fA]
  have hoN:(af (aZ (aZ S.O (bA S.X) (λ_=>(⟨0,c.mode,0,0,0,0,0,0,false,1,[],⟨#[]⟩,[],none⟩:bJ))) (bA S.X) (λo=>{o with aK:=o.aK+1})) (bA S.X)).aK=1:=by rw [fA,fA];rfl
  generalize fO:(aZ (aZ S.O (bA S.X) (λ_=>(⟨0,c.mode,0,0,0,0,0,0,false,1,[],⟨#[]⟩,[],none⟩:bJ))) (bA S.X) (λo=>{o with aK:=o.aK+1}))=gS at hkN hoN ⊢
  refine jK 6 [8] [(4,v_ 2 (qb L2 hkN))] (NS (jK 6 [66,67,71] [(5,a_ 6 cb)] (gE [0] (BV S.X f m t hX c.mode) (jK 2 [74] [] (av.mem (λw hS=>hS.Ev (i:=2) (k:=(bA S.X)) rfl (by rw [hkN];decide) (mE (hkN)) (agX sE (hkN))) (jC 1 [] [(0,A_ 8 (L2.b (bA S.X)) 9)] [(8,[(0,vI (S.X.last+1)),(1,vI (c.mode)),(2,vI 0),(3,vI 0),(4,vI (S.X.cS)),(5,vI (S.X.cZ)),(6,vI 0),(7,vI 0),(8,.bool false)])] (av.mem (fe:=[.abs (aY (eM (aZ gS (bA S.X) (λo=>{o with id:=S.X.last+1,mode:=c.mode,bg:=0,bh:=0,aU:=S.X.cS,aI:=S.X.cZ,aV:=0,aK:=0,aG:=false})) L2)),.aD f [vI (S.X.cN),vI (S.X.cB),vI (S.X.cH),vI (S.X.cS),vI (S.X.cZ),.map (some m),vP t,vI (S.X.last+1),vI (S.X.ah),vI (S.X.used)] 135,.abs (gj 182 t S.X.cH (max S.aJ ((S.us.length:Int)+1)) (cV L2 (ins (aF.aS S.us) ⟨(bA S.X),1⟩ S.us))),.abs (aY (dS (aZ gS (bA S.X) (λo=>{o with id:=S.X.last+1,mode:=c.mode,bg:=0,bh:=0,aU:=S.X.cS,aI:=S.X.cZ,aV:=0,aK:=0,aG:=false})) L2)),.abs (bM Tryz.prog 3 m (cT (cV L2 S.ar)) S.ar.length),.abs (aY (gq (aZ gS (bA S.X) (λo=>{o with id:=S.X.last+1,mode:=c.mode,bg:=0,bh:=0,aU:=S.X.cS,aI:=S.X.cZ,aV:=0,aK:=0,aG:=false})) L2)),.aD cb (aQ {c with answer:=aF.aS S.us}) 53,.abs R]) (λw hS=>by have h:=hS.FD (O:=gS) (L:=L2) (i:=2) (j:=8) (ar:=[0,1,3,4,5,6,7]) (k:=(bA S.X)) (f:=(λo=>{o with id:=S.X.last+1,mode:=c.mode,bg:=0,bh:=0,aU:=S.X.cS,aI:=S.X.cZ,aV:=0,aK:=0,aG:=false})) rfl (λ_ hx=>uR hx) rfl KB rfl (by show (af gS (bA S.X)).kind≠0;rw [hkN];decide) ((mE (o:=(λo=>{o with id:=S.X.last+1,mode:=c.mode,bg:=0,bh:=0,aU:=S.X.cS,aI:=S.X.cZ,aV:=0,aK:=0,aG:=false}) (af gS (bA S.X))) (hkN)).trans rfl) (by show sE (af gS (bA S.X)).kind=_;rw [hkN]<;>rfl);rw [tD (O:=gS) (k:=(bA S.X)) (f:=(λo=>{o with id:=S.X.last+1,mode:=c.mode,bg:=0,bh:=0,aU:=S.X.cS,aI:=S.X.cZ,aV:=0,aK:=0,aG:=false})) rfl rfl,tE (O:=gS) (k:=(bA S.X)) (f:=(λo=>{o with id:=S.X.last+1,mode:=c.mode,bg:=0,bh:=0,aU:=S.X.cS,aI:=S.X.cZ,aV:=0,aK:=0,aG:=false})) rfl rfl];exact h) ?_)))))))
  have E7:(af (aZ gS (bA S.X) (λo=>{o with id:=S.X.last+1,mode:=c.mode,bg:=0,bh:=0,aU:=S.X.cS,aI:=S.X.cZ,aV:=0,aK:=0,aG:=false})) (bA S.X)).kind=1:=(o8 (f:=(λo=>{o with id:=S.X.last+1,mode:=c.mode,bg:=0,bh:=0,aU:=S.X.cS,aI:=S.X.cZ,aV:=0,aK:=0,aG:=false})) (λ_=>rfl)).trans (hkN)
  generalize gA:(aZ gS (bA S.X) (λo=>{o with id:=S.X.last+1,mode:=c.mode,bg:=0,bh:=0,aU:=S.X.cS,aI:=S.X.cZ,aV:=0,aK:=0,aG:=false}))=jJ at E7 ⊢
  refine NS (jK 5 [76,79] [] (AL 0 [(5,1),(3,2)] (bA S.X) 7 (λo=>{o with aK:=(af gS (bA S.X)).aK}) E7 (λCQ sF=>?_)))
  have ZQ:=ku sF E7
  refine NS ?_
  have hfin:CQ=aZ S.O (bA S.X) (λ_=>{cR S.X 1 c.mode with aK:=1}):=by subst sF;subst gA;rw [hoN];subst fO;simp only [Bk];rfl
  subst hfin
  exact jK 8 [80,81,85,87] [(5,a_ 6 cb)] (gE (f:=205) (args:=#[vP f,vP (L.b d),.string c.name,.iface 138 (vP (L2.b (bA S.X)))]) (pre:=[pF f m t {S.X with last:=S.X.last+1},pI m L2 S.ar,pO (aZ S.O (bA S.X) (λ_=>{cR S.X 1 c.mode with aK:=1})) L2,pE (aZ S.O (bA S.X) (λ_=>{cR S.X 1 c.mode with aK:=1})) L2]) [1,4,0,5] ((by have h:=zj (β:=β) S L2 f m t hI.toInv0 d hd c.name hC.nm iP {cR S.X 1 c.mode with aK:=1} rfl (by simp [cR]) rfl (wX h0);rw [Dj fS (hI.CD hd)] at h;exact h)) (NS (av.gG [(5,.abs (aY (dS ((gn S d c.name {cR S.X 1 c.mode with aK:=1}).O) L2)))] (λw hS=>by rw [show dS ((gn S d c.name {cR S.X 1 c.mode with aK:=1}).O) L2=dS (aZ S.O (bA S.X) (λ_=>{cR S.X 1 c.mode with aK:=1})) L2 from mG];exact hS) (jK 1 [4] [] (eN (v:=(vI 0)) ⟨L2,by rw [show (fo S c)=(0,(gn {S with us:=(ins (aF.aS S.us) ⟨(bA S.X),1⟩ S.us),aJ:=(max S.aJ ((S.us.length:Int)+1))} d c.name {cR S.X 1 c.mode with aK:=1}),{c with answer:=aF.aS S.us}) by unfold fo;rw [d8];exact (agW nM).trans ((agW h0).trans (by grind [oA,gn,ins,bA,cR]))]<;>exact⟨rfl,rfl⟩⟩ [0,1,4,2,5,3,6,7])))))
 refine aq.region (jK 4 [49,50,52] [] ?_)
 obtain⟨L2,fS⟩:∃L2:HL,L2=L.put (bA S.X) b4 0 none 0:=⟨_,rfl⟩
 have hfr:=hI.toInv0.fresh
 refine av.mem (λw hS=>hS.Bo fS hfr (o:=(⟨0,c.mode,0,0,0,0,0,0,false,1,[],⟨#[]⟩,[],none⟩:bJ)) (i:=3) (j:=8) (ix:=[0,1,2,4,5,6,7]) rfl rfl KB rfl (by show (1:Int)≠0;decide) ((mE (L:=L2) (k:=(bA S.X)) (o:=(⟨0,c.mode,0,0,0,0,0,0,false,1,[],⟨#[]⟩,[],none⟩:bJ)) rfl).trans (by rw [show L2.dA (bA S.X)=none by rw [fS];exact agW rfl,show L2.dC (bA S.X)=0 by rw [fS];exact agW rfl];rfl)) rfl) (av.gG [(3,pE (aZ S.O (bA S.X) (λ_=>(⟨0,c.mode,0,0,0,0,0,0,false,1,[],⟨#[]⟩,[],none⟩:bJ))) L2)] (λw hS=>hS.CG fS hfr (o:=(⟨0,c.mode,0,0,0,0,0,0,false,1,[],⟨#[]⟩,[],none⟩:bJ)) (i:=3) rfl (by show (1:Int)≠2;decide)) (av.mem (λw hS=>hS.mB (e:=5) (size:=1)) (av.mem (λw hS=>hS.Tn fS (o:=(⟨0,c.mode,0,0,0,0,0,0,false,1,[],⟨#[]⟩,[],none⟩:bJ)) (i:=5) (j:=8) (ix:=[0,1,2,3,4,6,7]) rfl rfl KB rfl rfl rfl) (av.gG [(3,.abs (bM Tryz.prog 3 m (cT (cV L2 S.ar)) S.ar.length)),(5,.abs (gj 182 t S.X.cH S.aJ (cV L2 S.us)))] (λw hS=>by rw [lW fS hfr.ar,lW fS hfr.us];exact hS) (gE (f:=199) (args:=#[vP f,.iface 138 (vP b4)]) (pre:=[pF f m t S.X,pT t S.X.cH S.aJ L2 S.us,zi1 S c L2]) [2,5,1] ((by have h:=AO (β:=β) {S with O:=(aZ S.O (bA S.X) (λ_=>(⟨0,c.mode,0,0,0,0,0,0,false,1,[],⟨#[]⟩,[],none⟩:bJ)))} L2 f m t ⟨(bA S.X),1⟩ (by show (af (aZ S.O (bA S.X) (λ_=>(⟨0,c.mode,0,0,0,0,0,0,false,1,[],⟨#[]⟩,[],none⟩:bJ))) (bA S.X)).kind=1;rw [fA]) agU (by show 0<=(af (aZ S.O (bA S.X) (λ_=>(⟨0,c.mode,0,0,0,0,0,0,false,1,[],⟨#[]⟩,[],none⟩:bJ))) (bA S.X)).aK/\(af (aZ S.O (bA S.X) (λ_=>(⟨0,c.mode,0,0,0,0,0,0,false,1,[],⟨#[]⟩,[],none⟩:bJ))) (bA S.X)).aK<=1048576;rw [fA];exact⟨Int.le_refl _,by show (0:Int)<=1048576;decide⟩);rw [uS fS,oQ (S:={S with O:=(aZ S.O (bA S.X) (λ_=>(⟨0,c.mode,0,0,0,0,0,0,false,1,[],⟨#[]⟩,[],none⟩:bJ)))}) (t:=⟨(bA S.X),1⟩) (by show ¬(S.us.length:Int)<S.X.cH;omega)] at h;exact h)) (jC 7 [6] [(5,a_ 6 cb)] [(6,[(12,vI 0)])] (NS (jK 2 [59] [] (NT (SR ?_))))))))))
 have hk0:(af S.O (bA S.X)).kind=0:=hI.y6 _ (by have:=qX hI.toInv0;omega)
 exact av.gG [(2,.abs (aY (eM S.O L)))] (λw hS=>hS.EB (i:=2) rfl (bA S.X) (λx hx=>by rw [CB hx,Rz fS hfr hx]) (by unfold eM;rw [hk0];rfl)) (av.gG [(5,.abs (aY (gq S.O L)))] (λw hS=>hS.EB (i:=5) rfl (bA S.X) (λx hx=>by rw [Er hx,Kz fS hfr hx]) (by unfold gq;rw [hk0];rfl)) (av.mem (fe:=[.aD f [vI (S.X.cN),vI (S.X.cB),vI (S.X.cH),vI (S.X.cS),vI (S.X.cZ),.map (some m),vP t,vI (S.X.last),vI (S.X.ah),vI (S.X.used)] 135,.abs (gj 182 t S.X.cH S.aJ (cV L2 S.us)),.abs (aY (eM S.O L)),.abs (aY (dS S.O L)),.abs (bM Tryz.prog 3 m (cT (cV L2 S.ar)) S.ar.length),.abs (aY (gq S.O L)),.aD cb (aQ {c with answer:=0}) 53,.abs R]) (λw hS=>hS.EB (i:=3) rfl (bA S.X) (λx hx=>by rw [Es hx,FJ fS hx]) (by unfold dS;rw [hk0];rfl)) (av.mem (fe:=[.aD f [vI (S.X.cN),vI (S.X.cB),vI (S.X.cH),vI (S.X.cS),vI (S.X.cZ),.map (some m),vP t,vI (S.X.last),vI (S.X.ah),vI (S.X.used)] 135,.abs (gj 182 t S.X.cH S.aJ (cV L S.us)),.abs (aY (eM S.O L)),.abs (aY (dS S.O L)),.abs (bM Tryz.prog 3 m (cT (cV L S.ar)) S.ar.length),.abs (aY (gq S.O L)),.aD cb (aQ {c with answer:=0}) 53,.abs R]) (λw hS=>by rw [lW fS hfr.ar,lW fS hfr.us] at hS;exact hS) (jK 2 [4] [] (eN (v:=(vI 130)) ⟨L,by rw [show (fo S c)=(130,S,{c with answer:=0}) by unfold fo;rw [d8];exact (agW nM).trans ((agW h0).trans (by grind [oA]))]<;>exact⟨rfl,rfl⟩⟩ [0,4,1,2,3,5,6,7])))))
end
section
open Go.RowKit
def CS (b:Nat) (v:Value):eH where
 h F w:=∃cs T,cs[0]?=some v/\(HP.aD b cs T).h F w
 lt:=λ⟨_,_,_,h⟩=>HP.lt h
 st:=λ⟨cs,T,hv,h⟩ _ _ hk hd=>⟨cs,T,hv,HP.st h hk hd⟩
theorem CS.cell {b:Nat} {v:Value}:∀F w,(CS b v).h F w->w.cell? ⟨b,0,none⟩=some v:=by
 rintro F w ⟨cs,T,hv,h⟩
 exact (lY h.1 rfl rfl hv).1
theorem aR.first {β:Bs} {l:List HP} {w:World} {i b:Nat} {cs:List Value} {T:TypeId} {v:Value} (h:aR β l w) (hp:l[i]?=some (.aD b cs T)) (hv:cs[0]?=some v):aR β [.abs (CS b v)] w:=by
 obtain⟨ho,φ,h1,h2,h3⟩:=h
 have hi:=dP hp
 refine⟨ho,λ_=>φ i,λj q hq=>?_,λj hj=>h2 i hi,λj k hj hk bX=>?_⟩
 ·have hj:=dP hq
  simp at hj
  subst hj
  simp at hq
  subst hq
  exact⟨cs,T,hv,h1 i _ hp⟩
 simp at hj hk
 omega
section mix
variable {P:Program} {β:Bs} {N:fY} {ops:Array Oper} {S:List HP} {l:List Nat} {fr:Fr} {ax:List HP} {Q:Post} {i:Nat}
theorem aq.Uv {id:Nat} (perm:List Nat) (nr:Nat) (hm:P.follows .mixedOrders=true) (hB:Eb ops perm nr=true) (hp:∀w,aR β ax w->aR β S w) (h:ck P β N ops S nr perm fr ax Q):aq P β N (.region id ops true) fr ax Q:=by
 intro ai w hS
 unfold Eb at hB
 simp only [ahm,ahP] at hB
 obtain⟨⟨⟨h1,h2⟩,h3⟩,h4⟩:=hB
 have ju:=hS.drewN 1
 have h5:=Kc (Q:=Q) h1 h2 nr perm _ _ _ h4 (λj oj _ hl=>by simp [Array.getD_eq_getD_getElem?,Array.getElem?_replicate] at hl;split at hl<;>simp at hl) (hp _ ju) (h ai (w.drewN 1) ju)
 rw [h3] at h5
 refine ahN (λe a w q=>?_) (wp_region_any hm (vo _ _ _ _ h5))
 cases e with
 |normal=>exact q
 |exit id=>exact q.elim
 |goto l=>exact q.elim
 |ret=>exact q.elim
 |panic ch=>exact q.elim
 |outgrown=>exact q.elim
theorem ck.Uw {ι:Type} {bU:ι->Fr} {dI:ι->List HP} {o:Oper} (bZ:ops[i]?=some o) (hg:o.guard=none) (h:av P β N #[o] 0 fr ax (NP (Gg β N bU dI))) (hp:∀j w,aR β (dI j) w->aR β S w)
 (K:∀j,ck P β N ops S 0 l (bU j) (dI j) Q):ck P β N ops S 0 (i::l) fr ax Q:=by
 grind [uj,vn,NP,Gg,fF,AY,av,aR,ck]
end mix
end
section
open Go.RowKit Go.Maps bK aF
def PO:List Nat:=[184,185,186,187,188,189,190,191,192,193,194,195,196,197,198]
def hnV:Value:=.agg ⟨.nilFunc::PO.map (λf=>.func (.func f) #[] #[])⟩
theorem Ux {n:Int} (h:1<=n/\n<=15):n=1\/n=2\/n=3\/n=4\/n=5\/n=6\/n=7\/n=8\/n=9\/n=10\/n=11\/n=12\/n=13\/n=14\/n=15:=zc
theorem aed {w:World} {o:Oper} {ev:Operand->Value} {x y:Operand} {n:Int} (ho:o.op=.index 261 x y) (hx:ev x=hnV) (hy:ev y=.int .i64 n) (hn:1<=n/\n<=15):sG Tryz.prog ev o w (.func (.func (PO.getD (n.toNat-1) 0)) #[] #[]) w:=by
 obtain⟨dst,op,type,pos,after,guard⟩:=o
 cases ho
 refine .inl ?_
 simp only [execOp,hx,hy]
 rcases Ux hn with h|h|h|h|h|h|h|h|h|h|h|h|h|h|h<;>subst h<;>kernel_rfl
theorem av.hn {β:Bs} {N:fY} {k:Nat} {ops:Array Oper} {fr:Fr} {ax:List HP} {Q:Post} {d:Option Tmp} {x y:Operand} {n:Int} (hn:1<=n/\n<=15) (K:av Tryz.prog β N ops (k+1) (eW fr d (.func (.func (PO.getD (n.toNat-1) 0)) #[] #[])) ax Q)
 (bZ:∀ai,iT N ai ops fr k=some (.index 261 x y,d):=by intro _;kernel_rfl) (hx:∀ai,eY N fr ai x=hnV:=by intro _;kernel_rfl) (hy:∀ai,eY N fr ai y=.int .i64 n:=by intro _;kernel_rfl):av Tryz.prog β N ops k fr ax Q:=
 av.nP bZ (λ_ ai w ho hS=>⟨w,aed ho (hx ai) (hy ai) hn,hS⟩) K
theorem afd {β:Bs} {S:bB} {L:HL} {f m t b:Nat} {c:aN} (n:Int) (hI:bR S) (hC:kH β c) (h:1<=n/\n<=15) (he:c.op=n):aW Tryz.prog β (PO.getD (n.toNat-1) 0) #[vP f,vP b] (pA f m t L S++[pC b c]) (λv l=>∃L2,v=vI (iC S c).1/\l=pA f m t L2 (iC S c).2.1++[pC b (iC S c).2.2]):=by
 subst he
 rcases Ux h with h|h|h|h|h|h|h|h|h|h|h|h|h|h|h<;>rw [h]
 ·first|exact agY hC.op (by rw [h];unfold tW;decide)|(rw [y8 h];exact Us S L f m t hI b c hC)
 ·first|exact agY hC.op (by rw [h];unfold tW;decide)|(rw [Bp h];exact MN S L f m t hI b c hC)
 ·first|exact agY hC.op (by rw [h];unfold tW;decide)|(rw [Bq h];exact K5 S L f m t hI b c hC)
 ·first|exact agY hC.op (by rw [h];unfold tW;decide)|(rw [y9 h];exact QZ S L f m t hI b c hC)
 ·first|exact agY hC.op (by rw [h];unfold tW;decide)|(rw [Br h];exact Qa S L f m t hI b c hC)
 ·first|exact agY hC.op (by rw [h];unfold tW;decide)|(rw [Bt h];exact MO S L f m t hI b c hC)
 ·first|exact agY hC.op (by rw [h];unfold tW;decide)|(rw [Bu h];exact Ut S L f m t hI b c hC)
 ·first|exact agY hC.op (by rw [h];unfold tW;decide)|(rw [Bv h];exact P6 S L f m t hI b c hC)
 ·first|exact agY hC.op (by rw [h];unfold tW;decide)|(rw [Bw h];exact Q5 S L f m t hI b c hC)
 ·first|exact agY hC.op (by rw [h];unfold tW;decide)|(rw [xU h];exact MP S L f m t hI b c hC)
 ·first|exact agY hC.op (by rw [h];unfold tW;decide)|(rw [xV h];exact Uu S L f m t hI b c hC)
 ·first|exact agY hC.op (by rw [h];unfold tW;decide)|(rw [xW h];exact P9 S L f m t hI b c hC)
 ·first|exact agY hC.op (by rw [h];unfold tW;decide)|(rw [xX h];exact Q6 S L f m t hI b c hC)
 ·first|exact agY hC.op (by rw [h];unfold tW;decide)|(rw [xY h];exact Q0 S L f m t hI b c hC)
 first|exact agY hC.op (by rw [h];unfold tW;decide)|(rw [xZ h];exact P7 S L f m t hI b c hC)
theorem Xo {S:bB} {c:aN} (h:1<=c.op/\c.op<=15):(iC S c).2.2.op=c.op:=by
 rcases Ux h with h|h|h|h|h|h|h|h|h|h|h|h|h|h|h
 ·rw [y8 h];exact abV
 ·rw [Bp h];exact Tt
 ·rw [Bq h];exact QA
 all_goals grind [y9,Tv,Br,QB,Bt,Oy,Bu,VH,Bv,QC,Bw,Tx,xU,Ty,xV,abW,xW,VI,xX,YJ,xY,Tw,xZ,QD]
end
section
open Go.RowKit Go.Maps bK aF
attribute [local irreducible] av bN aq aB ck
abbrev zj1 (b3:Nat):=(.aD b3 [vI 0,vI 0,vI 0,.string ⟨#[]⟩,.string ⟨#[]⟩,.slice none (0) (0),vI 0,vI 0,vI 0,vI 0,vI 0,vI 0,vI 0] 53:HP)
abbrev zj2 (c:aN):=([(0,vI (c.op)),(1,vI (c.aL)),(2,vI (c.other)),(3,.string c.name),(4,.string c.text),(5,.slice c.dA (c.data.length) (c.dC)),(6,vI (c.mode)),(7,vI (c.bg)),(8,vI (c.bh)),(9,vI (c.aU)),(10,vI (c.aI)),(11,vI 230)]:Fr)
theorem Q7 {β:Bs}:aW Tryz.prog β 183 #[] [] (λv l=>v=.agg #[.nilFunc,.func (.func 184) #[] #[],.func (.func 185) #[] #[],.func (.func 186) #[] #[],.func (.func 187) #[] #[],.func (.func 188) #[] #[],.func (.func 189) #[] #[],.func (.func 190) #[] #[],.func (.func 191) #[] #[],.func (.func 192) #[] #[],.func (.func 193) #[] #[],.func (.func 194) #[] #[],.func (.func 195) #[] #[],.func (.func 196) #[] #[],.func (.func 197) #[] #[],.func (.func 198) #[] #[]]/\l=[]):=by
 exact SE Tryz.func183 Tryz.ntmps183 (λR=>SR (jB 1 [0] (λb1=>.aD b1 [.nilFunc,.nilFunc,.nilFunc,.nilFunc,.nilFunc,.nilFunc,.nilFunc,.nilFunc,.nilFunc,.nilFunc,.nilFunc,.nilFunc,.nilFunc,.nilFunc,.nilFunc,.nilFunc] 261) (λb1=>NS (jC 2 [] [(1,A_ 1 b1 16)] [(1,[(1,.func (.func 184) #[] #[]),(2,.func (.func 185) #[] #[]),(3,.func (.func 186) #[] #[]),(4,.func (.func 187) #[] #[]),(5,.func (.func 188) #[] #[]),(6,.func (.func 189) #[] #[]),(7,.func (.func 190) #[] #[]),(8,.func (.func 191) #[] #[]),(9,.func (.func 192) #[] #[]),(10,.func (.func 193) #[] #[]),(11,.func (.func 194) #[] #[]),(12,.func (.func 195) #[] #[]),(13,.func (.func 196) #[] #[]),(14,.func (.func 197) #[] #[]),(15,.func (.func 198) #[] #[])])] (eS [A_ 1 b1 16] ⟨rfl,rfl⟩)))))
theorem Qb {β:Bs} (S:bB) (L:HL) (f m t:Nat) (hI:bR S) (c:aN) (hC:kH β c) :
 aW Tryz.prog β 182 #[vP f,.agg ⟨aQ c⟩] (pA f m t L S) (λv l=>∃L2,v=.agg ⟨aQ (gF S c).2⟩/\l=(pA f m t L2 ((gF S c).1))):=by
 have hX:=hI.hX
 refine SE Tryz.func182 Tryz.ntmps182 (λR=>SR (jB 1 [3] (λb2=>.aD b2 (aQ c) 53) (λb2=>jB 1 [4] (λb3=>.aD b3 [vI 0,vI 0,vI 0,.string ⟨#[]⟩,.string ⟨#[]⟩,.slice none (0) (0),vI 0,vI 0,vI 0,vI 0,vI 0,vI 0,vI 0] 53) (λb3=>NS (jC 2 [] [(1,a_ 7 b2)] [(7,[(12,vI 0)])] (NS (jC 2 [] [(1,a_ 7 b2)] [(7,[(11,vI 230)])] (NZ (jK 4 [10] [(1,a_ 7 b2)] (sP 10 ((c.op:Int)>=(1:Int)) (λh10=>jK 4 [14] [(1,a_ 7 b2)] (NN (cP ((c.op:Int)<=(15:Int)) (λmw=>?_) (λmw=>KX (SR (jC 2 [] [(0,A_ 7 b2 13),(1,A_ 8 b3 13)] [(8,(zj2 c))] (eS [A_ 8 b3 13] ⟨L,by unfold gF;rw [Ai (S:=S) (c:=(c0 c)) Pe];exact⟨rfl,rfl⟩⟩))))))) (λh10=>jK 4 [14] [] (NF (KX (SR (jC 2 [] [(0,A_ 7 b2 13),(1,A_ 8 b3 13)] [(8,(zj2 c))] (eS [A_ 8 b3 13] ⟨L,by unfold gF;rw [Ai (S:=S) (c:=(c0 c)) Pe];exact⟨rfl,rfl⟩⟩))))))))))))))))
 have bZ:1<=c.op/\c.op<=15:=⟨h10,mw⟩
 refine aq.Uv (S:=[.abs (CS b2 (.int .i64 c.op))]) [1,2,4,0,3,5,6,7] 3 KB KB (λw hS=>hS.first (i:=7) (b:=b2) rfl rfl) (jR 3 [3,4,17,19] [(1,p_ ⟨[.view 0 (.int .i64 (c.op))],none,none,none,none⟩ [(∀F w,(CS b2 (.int .i64 c.op)).h F w->w.cell? ⟨b2,0,none⟩=some (vI (c.op)))] ⟨CS.cell,trivial⟩)] (ck.Uw (ι:=Unit) (bU:=λ(_:Unit)=>[(3,vP b2),(4,vP b3),(15,.agg #[.nilFunc,.func (.func 184) #[] #[],.func (.func 185) #[] #[],.func (.func 186) #[] #[],.func (.func 187) #[] #[],.func (.func 188) #[] #[],.func (.func 189) #[] #[],.func (.func 190) #[] #[],.func (.func 191) #[] #[],.func (.func 192) #[] #[],.func (.func 193) #[] #[],.func (.func 194) #[] #[],.func (.func 195) #[] #[],.func (.func 196) #[] #[],.func (.func 197) #[] #[],.func (.func 198) #[] #[]]),(17,vI (c.op)),(19,vP f)]) (dI:=λ(_:Unit)=>((pA f m t L S)++[.abs R,pC b2 (c0 c),zj1 b3])) rfl rfl ?_ (by rintro _ w hS;exact hS.first (i:=7) (b:=b2) rfl rfl) ?_))
 ·exact gE [] (Q7) (NL (MD () [3,4,15,17,19] [0,1,2,3,4,5,6,7,8]))
 rintro _
 refine ck.Uw (ι:=Unit) (bU:=λ(_:Unit)=>[(3,vP b2),(4,vP b3),(18,.func (.func (PO.getD (c.op.toNat-1) 0)) #[] #[]),(19,vP f)]) (dI:=λ(_:Unit)=>((pA f m t L S)++[.abs R,pC b2 (c0 c),zj1 b3])) rfl rfl ?_ (by rintro _ w hS;exact hS.first (i:=7) (b:=b2) rfl rfl) ?_
 ·exact av.hn (x:=(.tmp 15)) (y:=(.tmp 17)) (d:=(some 18)) bZ (NL (MD () [3,4,18,19] [0,1,2,3,4,5,6,7,8]))
 rintro _
 refine ck.Uw (ι:=HL) (bU:=λ(L2:HL)=>[(3,vP b2),(4,vP b3),(20,vI ((iC S (c0 c)).1))]) (dI:=λ(L2:HL)=>((pA f m t L2 ((iC S (c0 c)).2.1))++[pC b2 ((iC S (c0 c)).2.2),.abs R,zj1 b3])) rfl rfl ?_ (by rintro L2 w hS;exact hS.first (i:=6) (b:=b2) rfl (agX (λz=>some (Value.int .i64 z)) (Xo (c:=(c0 c)) bZ))) ?_
 ·refine gL [0,1,2,3,4,5,7] (afd (S:=S) (L:=L) (f:=f) (m:=m) (t:=t) (b:=b2) (c:=(c0 c)) c.op hI ⟨hC.hw,hC.ow,hC.nm,hC.tx,hC.da,hC.dl,hC.dc,hC.op⟩ bZ rfl) ?_ (by intro _;rcases Ux bZ with h|h|h|h|h|h|h|h|h|h|h|h|h|h|h<;>rw [h]<;>kernel_rfl)
  rintro _ _ ⟨L2,rfl,rfl⟩
  exact NL (MD L2 [3,4,20] [0,1,2,3,4,5,6,7,8])
 rintro L2
 refine ck.Uw (ι:=Unit) (bU:=λ(_:Unit)=>[(3,vP b2),(4,vP b3),(20,vI ((iC S (c0 c)).1)),(21,.pointer (some ⟨b2,11,none⟩))]) (dI:=λ(_:Unit)=>((pA f m t L2 ((iC S (c0 c)).2.1))++[pC b2 ((iC S (c0 c)).2.2),.abs R,zj1 b3])) rfl rfl ?_ (by rintro _ w hS;exact hS.first (i:=6) (b:=b2) rfl (agX (λz=>some (Value.int .i64 z)) (Xo (c:=(c0 c)) bZ))) ?_
 ·exact jK 1 [21] [] (NL (MD () [3,4,20,21] [0,1,2,3,4,5,6,7,8]))
 rintro _
 exact ck.last rfl rfl (jC 1 [] [(0,a_ 6 b2)] [(6,[(11,vI ((iC S (c0 c)).1))])] (NL (aB.np (NX (SR (jC 2 [] [(0,A_ 6 b2 13),(1,A_ 8 b3 13)] [(8,(zC (aQ { (iC S (c0 c)).2.2 with code:=(iC S (c0 c)).1})))] (eS [A_ 8 b3 13] ⟨L2,rfl,rfl⟩ [0,1,2,3,4,5,7])))))))
end
section
open Go.RowKit Go.Maps bK aF
attribute [local irreducible] av bN aq aB ck oo
abbrev Sz (B)(d:List UInt8) (cap):=(.abs (aH 5 1 B d.length cap (dR d)):HP)
abbrev zk2 (b5:Nat) (An:Option Addr) (i:Nat) (cn:Nat):=(.aD b5 [.slice An (i) (cn)] 24:HP)
abbrev zk3 (An:Option Addr) (i:Nat) (cn:Nat) (K:eV) (S:bB):=(.abs (aH 95 10 An i cn (bG K ((aX S).take i))):HP)
abbrev zk4 (S:bB) (i:Nat) (K:eV):=(.abs (kE (qY ((aX S).take i) K) i):HP)
abbrev zk5 (S:bB) (i:Nat) (K:eV):=(.abs (kE (kY ((aX S).take i) K) i):HP)
abbrev zk6 (A7:Option Addr) (S:bB) (c8:Nat):=(.abs (aH 3 1 A7 ((bn S.ar).length) c8 (bH (bn S.ar))):HP)
abbrev zk7 (b4:Nat):=(.aD b4 [.slice none (0) (0)] 24:HP)
abbrev zk8 (b9:Nat):=(.aD b9 [vI 0,vI 0,vI 0,vI 0,vI 0,vI 0,vI 0,.slice none (0) (0),.string ⟨#[]⟩,.slice none (0) (0)] 95:HP)
abbrev aee (S:bB) (L:HL) (tk:Nat):=(.abs (aY (nR (gq S.O L) tk eH.none)):HP)
abbrev Uy (L:HL) (tk:Nat) (S:bB):=(.abs (bM Tryz.prog 9 (L.m tk) (nE L (af S.O tk).ah) ((af S.O tk).ah.length)):HP)
abbrev Uz (b15:Nat) (S:bB) (i:Nat) (tk:Nat) (Ae:Option Addr) (j:Nat) (ce:Nat):=(.aD b15 [vI ((gH S i)),vI 2,vI ((af S.O tk).mode),vI ((af S.O tk).bg),vI ((af S.O tk).bh),vI ((af S.O tk).aU),vI ((af S.O tk).aI),.slice none (0) (0),.string ⟨#[]⟩,.slice Ae (j) (ce)] 95:HP)
abbrev UA (oO:Option Addr) (S:bB) (tk:Nat) (qI:Nat):=(.abs (aH 9 1 oO ((af S.O tk).ah.length) qI (x3 (af S.O tk).ah)):HP)
abbrev Z8 (og:Option Addr) (j:Nat) (oh:Nat) (S:bB) (tk:Nat):=(.abs (aH 149 2 og (j+1) oh (mT (((af S.O tk).ah.take (j+1)).map (gy S.O)))):HP)
abbrev K6 (S:bB) (tk:Nat):=([(39,vI ((af S.O tk).mode)),(43,vI ((af S.O tk).bg)),(47,vI ((af S.O tk).bh)),(51,.agg #[vI ((af S.O tk).aU),vI ((af S.O tk).aI)])]:Fr)
abbrev Ff (f:Nat) (b4:Nat) (b5:Nat):=([(0,vP f),(2,vP b4),(3,vP b5)]:Fr)
abbrev Qc (b5:Nat) (An:Option Addr) (i:Nat) (cn:Nat) (K:eV) (S:bB) (A7:Option Addr) (c8:Nat) (b4:Nat) (f:Nat) (m:Nat) (t) (L:HL):=([zk2 b5 An i cn,zk3 An i cn K S,zk4 S i K,zk5 S i K,zk6 A7 S c8,zk7 b4,pF f m t S.X,pI m L S.ar,pO S.O L]:List HP)
abbrev Fg (A7:Option Addr) (S:bB) (c8:Nat) (i:Nat):=([(19,.slice A7 ((bn S.ar).length) (c8)),(20,vI ↑((bn S.ar).length)),(21,vI ↑i)]:Fr)
abbrev Z9 (f:Nat) (b4:Nat) (b5:Nat) (b15:Nat) (L:HL) (tk:Nat) (A7:Option Addr) (S:bB) (c8:Nat) (i:Nat) (oO:Option Addr) (qI:Nat) (j:Nat) (og:Option Addr) (oh:Nat):=([(0,vP f),(2,vP b4),(3,vP b5),(8,vP b15),(11,vP (L.b tk)),(19,.slice A7 ((bn S.ar).length) (c8)),(20,vI ↑((bn S.ar).length)),(21,vI ↑i),(79,.slice oO ((af S.O tk).ah.length) (qI)),(80,vI ↑((af S.O tk).ah.length)),(81,vI ↑j),(100,.slice og ((j+1)) (oh))]:Fr)
abbrev aac (S:bB) (tk:Nat):=([(2,vI ((af S.O tk).mode)),(3,vI ((af S.O tk).bg)),(4,vI ((af S.O tk).bh)),(5,vI ((af S.O tk).aU)),(6,vI ((af S.O tk).aI))]:Fr)
abbrev aad (S:bB) (L:HL) (tk:Nat) (R:eH) (b19:Nat) (j:Nat) (ek:Nat):=([pD S.O L,aee S L tk,.abs R,.aD b19 [.string (nU (af S.O tk).ah j),vI ((af S.O ek).id)] 149]:List HP)
theorem K7 {β:Bs} (c:Nat):aW Tryz.prog β 37 #[.slice none 0 c] [] (λv l=>∃B cap,v=.slice B 0 cap/\l=[.abs (aH 5 1 B 0 cap [])]):=by
 exact SE Tryz.func37 Tryz.ntmps37 (λR=>SR (jK 1 [] [] (NZ (jK 2 [4] [] (NT (SR (jK 1 [2] [] (NN (aq.ret (aB.bD (aB.mem (λw hS=>(hS.mB (e:=5) (size:=1)).pick (ar:=[1,0]) (l':=[.abs (aH 5 1 none 0 0 ([])),.abs R]) rfl KB) (RT _ [0,1] (⟨none,0,rfl,rfl⟩)))))))))))))
theorem J0 {β:Bs} (a:Addr) (c:Nat) (d:List UInt8) (hA:bF β (some a) d) (hl:d.length<=140737488355328):aW Tryz.prog β 37 #[.slice (some a) d.length c] [] (λv l=>∃B cap,v=.slice B d.length cap/\l=[Sz B d cap]):=by
 exact SE Tryz.func37 Tryz.ntmps37 (λR=>SR (jK 1 [] [] (NZ (jK 2 [4] [] (NF (KX (SR (jB 1 [5] (λb1=>.aD b1 [] 5) (λb1=>av.mem (λw hS=>hS.ou (i:=1) (b:=b1) (cs:=[]) (e:=5) 1 0 KB rfl Pd) (jK 1 [6] [] (Ri 1 51 (some a) d.length c (dR d) rfl (hA.src) (λA2 c3=>av.cL 1 rfl (by rw [ahd,List.nil_append]) (sl 7 (.slice A2 (0+d.length) (c3)) (.slice A2 (d.length) (c3)) (by rw [ahd]) (jK 1 [2] [] (eN ⟨A2,c3,rfl,rfl⟩ [1,0])))) (hl:=by rw [tu,Nat.mul_one]) (h1:=pZ d))))))))))))
theorem Cq {β:Bs} (A:Option Addr) (c:Nat) (d:List UInt8) (hA:bF β A d) (hl:d.length<=140737488355328):aW Tryz.prog β 37 #[.slice A d.length c] [] (λv l=>∃B cap,v=.slice B d.length cap/\l=[Sz B d cap]):=by
 cases A with
 |some a=>exact J0 a c d hA hl
 |none=>
   cases d with
   |nil=>exact K7 c
   |cons b r=>have h:=bF.hd hA (j:=0) agU;cases h
theorem Qd {β:Bs} (A:Option Addr) (c:Nat) (d:List UInt8) (hl:d.length<=140737488355328):aW Tryz.prog β 37 #[.slice A d.length c] [Sz A d c] (λv l=>∃B cap,v=.slice B d.length cap/\l=[Sz B d cap,Sz A d c]):=
 (aW.wg (pre:=[]) (R:=[Sz A d c]) (λ_ h=>Cq A c d h.bytes hl)).mono Pe
theorem Qe {β:Bs} (L:HL) (b bk:Nat) (ar:bE Th) (hr:aF.dH (bn ar)) (hn:ar.length<=4096) :
 aW Tryz.prog β 66 #[I6 bk] [pI b L ar,.aD bk [.map (some b)] 129] (λv l=>∃A cap,v=.slice A (bn ar).length cap/\l=[pI b L ar,.aD bk [.map (some b)] 129,.abs (aH 3 1 A (bn ar).length cap (bH (bn ar)))]):=
 (I7 b bk ar.length (cT (cV L ar)) zc).mono (by
  rintro v l ⟨A,cap,ss,rfl,hk,_,rfl⟩
  have e:=Rv (us:=cV L ar) (by rw [Hj];exact hr) hk
  rw [Hj] at e
  subst e
  exact⟨A,cap,rfl,rfl⟩)
theorem Xp {β:Bs} (S:bB) (L:HL) (f m t:Nat) (hI:bR S) :
 aW Tryz.prog β 50 #[vP f] [pF f m t S.X,pI m L S.ar,pO S.O L,pD S.O L,pE S.O L] (λv l=>∃A c K,v=.agg #[.slice A (aX S).length c]/\l=[pF f m t S.X,pI m L S.ar,pO S.O L,pD S.O L,pE S.O L]++KF A c (aX S) K):=by
 have hX:=hI.hX
 have hkl:(bn S.ar).length=S.ar.length:=Hs _
 have hil:=hI.len
 refine SE Tryz.func50 Tryz.ntmps50 (λR=>SR (jB 1 [2] (λb4=>.aD b4 [.slice none (0) (0)] 24) (λb4=>NS (jB 1 [3] (λb5=>.aD b5 [.slice none (0) (0)] 24) (λb5=>NZ (jK 4 [17] [(3,a_ 0 f)] (gX [] (Og (some m)) (λb6=>gL [2,0] (Qe L m b6 S.ar hI.fI hI.len) ?_))))))))
 rintro _ _ ⟨A7,c8,rfl,rfl⟩
 refine jK 1 [20] [] (av.mem (λw hS=>hS.mB (e:=95) (size:=10)) (av.mem (λw hS=>hS.IX (qY [] Hv)) (av.mem (λw hS=>hS.IX (kY [] Hv)) (jK 1 [21] [] (NN (aq.block (lJ (λ(i,An,cn,K)=>(i<=S.ar.length)) (λ(i,An,cn,K)=>S.ar.length-i) (λ(i,An,cn,K)=>(Ff f b4 b5++Fg A7 S c8 i)) (λ(i,An,cn,K)=>(Qc b5 An i cn K S A7 c8 b4 f m t L++[pD S.O L,pE S.O L,.abs R])) (0,none,0,Hv) [9,10,11,12,2,8,3,0,4,5,6,7] ((ag0 _)) ?_)))))))
 rintro⟨i,An,cn,K⟩ hi
 refine SR (jK 1 [22] [] (NN (aq.seq (cP ((((i:Nat):Int):Int)<((((bn S.ar).length:Nat):Int):Int)) (λsj=>?_) (λsj=>?_)))))
 ·have hi2:i<S.ar.length:=zc
  refine KX (aq.seq (aq.block (SR (av.tell (p:=(A7=some ⟨bw A7,br A7,none⟩)) (λw hS=>let ⟨F,h⟩:=hS.get (i:=4) rfl;(aH.Ix h zc).1) (λhAk=>jK 3 [5] [(0,x_ i ((bn S.ar).length) (hAk)),(1,p_ ⟨[.view 4 (.int .i64 ((gH S i)))],none,none,none,none⟩ [(∀F w,(aH 3 1 A7 ((bn S.ar).length) c8 (bH (bn S.ar))).h F w->w.cell? ⟨(bw A7),br A7+i*1,none⟩=some (vI ((gH S i))))] ⟨aH.cellAt (i:=i) (j:=0) zc (YQ hi2),trivial⟩)] (NN (aq.seq ?_)))))))
  have agQ:=(KG hI.toInv0 hi2).1
  have hget:=get_at hI.toInv0 hi2
  rcases aeW hI.toInv0 hi2 with ⟨tk,qG,bW⟩|⟨tk,qG,bW⟩|⟨tk,qG,bW⟩
  ·have bC:(af S.O tk).kind=1:=hI.kind bW
   have hel:(af S.O tk).ah.length<=8192:=hI.lF bW
   have hdl:(af S.O tk).data.length<=140737488355328:=hI.Tm bW
   refine aq.region (jK 5 [28,29] [(3,a_ 6 f)] (av.je 7 (d:=(some 30)) (t:=129) (K:=3) (E:=133) (b:=m) (n:=S.ar.length) (f:=(cT (cV L S.ar))) (x:=(.tmp 28)) (ix:=(.tmp 29)) (key:=vI ((gH S i))) (z:=.nilIface) (kl:=(.int .i64 (gH S i))) (r:=(some (iw L ⟨tk,1⟩))) (λ_=>KB) KB (λ_=>KB) (λ_=>KB) iU Tryz.underlying129 (λ_=>KB) (mA (KH hI.toInv0 hi2)) (by rw [j4,hget,qG];rfl) (jK 1 [6] [] (NS (jK 1 [31] [] (gE [] (gi (L.b tk)) (jK 1 [7] [] (NN (aq.seq (aq.qZ (S:=[pO S.O L]) (yN [0,1,3,4,5,6,7,8,9,10,11,12,13,14,15,16,17,18] (oJ 20 [(false,21)] [(false,2),(false,19)])) [8] (gT (oJ 20 [(false,21)] [(false,2),(false,19)]) (Ff f b4 b5++[(6,.iface 138 (vP (L.b tk)))]++Fg A7 S c8 i++[(33,vI ((gH S i))),(34,.iface 138 (vP (L.b tk)))]++K6 S tk) [0,1,3,4,5,6,7,8,9,10,11,12,13,14,15,16,17,18] [(5,v_ 0 (AK L bC)),(9,v_ 0 (F5 L bC)),(13,v_ 0 (F6 L bC)),(17,p_ ⟨[.view 0 (.int .i64 ((af S.O tk).aU)),.view 0 (.int .i64 ((af S.O tk).aI))],none,none,none,none⟩ [(∀F w,(aY (eM S.O L)).h F w->w.cell? ⟨(L.b tk),5,none⟩=some (vI ((af S.O tk).aI))),(∀F w,(aY (eM S.O L)).h F w->w.cell? ⟨(L.b tk),4,none⟩=some (vI ((af S.O tk).aU)))] ⟨iY (by rw [bC];decide) (rfl),iY (by rw [bC];decide) (rfl),trivial⟩)] (oo.one (j:=20) (dj:=8) (R:=λf_ l_=>f_=([(52,.agg #[vI ((gH S i)),vI 1,vI ((af S.O tk).mode),vI ((af S.O tk).bg),vI ((af S.O tk).bh),vI ((af S.O tk).aU),vI ((af S.O tk).aI),.slice none (0) (0),.string ⟨#[]⟩,.slice none (0) (0)]),(35,vI 1)]++Ff f b4 b5++[(6,.iface 138 (vP (L.b tk)))]++Fg A7 S c8 i++[(33,vI ((gH S i))),(34,.iface 138 (vP (L.b tk)))]++K6 S tk)/\l_=[]) [8] [(false,2,35),(false,19,52)] (jm.of (ι:=Nat) (v:=λ(b9:Nat)=>vP b9) (l:=λ(b9:Nat)=>[zk8 b9]) [35,52] rfl rfl rfl rfl ?_) ?_ ?_))))))))))))
   ·intro u Aq
    exact jB 1 [8] (λb9=>.aD b9 [vI 0,vI 0,vI 0,vI 0,vI 0,vI 0,vI 0,.slice none (0) (0),.string ⟨#[]⟩,.slice none (0) (0)] 95) (λb9=>NL (MD b9 [8,35,52,0,2,3,6,19,20,21,33,34,39,43,47,51] [1,0]))
   ·refine ez.step (jm.of (ι:=Unit) (v:=λ(_:Unit)=>.int .i64 1) (l:=λ(_:Unit)=>[]) [8] rfl rfl rfl rfl ?_) ?_
    ·intro u Aq
     exact gE [] (sZ (vP (L.b tk))) (NL (MD () [35,8,0,2,3,6,19,20,21,33,34,39,43,47,51] [0]))
    rintro _ _ ⟨_,rfl,rfl⟩
    refine ez.step (jm.of (ι:=Unit) (v:=λ(_:Unit)=>.agg #[vI ((gH S i)),vI 1,vI ((af S.O tk).mode),vI ((af S.O tk).bg),vI ((af S.O tk).bh),vI ((af S.O tk).aU),vI ((af S.O tk).aI),.slice none (0) (0),.string ⟨#[]⟩,.slice none (0) (0)]) (l:=λ(_:Unit)=>[]) [8] rfl rfl rfl rfl ?_) ?_
    ·intro u Aq
     exact jK 1 [52] [] (NL (MD () [52,8,35,0,2,3,6,19,20,21,33,34,39,43,47,51] [0]))
    rintro _ _ ⟨_,rfl,rfl⟩
    exact⟨rfl,rfl⟩
   rintro _ _ ⟨rfl,rfl⟩ _ _ ⟨b9,rfl,rfl⟩
   refine fN.last KB (jC 1 [] [(0,A_ 0 b9 10)] [(0,([(0,vI ((gH S i))),(1,vI 1)]++aac S tk))] (NL (aB.np (NX (SQ (jK 1 [53] [] (NN (aq.block (SR (jK 3 [55,56] [] (NT (SR (jK 1 [9] [] (NN (aq.region (jK 4 [60] [(3,v_ 9 (PA L bC))] (av.mem (λw hS=>hS.Vj (i:=10) (k:=tk) rfl bC) (gL [13] (Qd (L.dA tk) (L.dC tk) (af S.O tk).data hdl) ?_))))))))))))))))))
   rintro _ _ ⟨Cc,c11,rfl,rfl⟩
   exact av.mem (λw hS=>hS.adk (i:=12) (j:=1) (ix:=[0,2,3,4,5,6,7,8,9,10,11,13,14]) rfl rfl KB rfl bC) (jC 2 [] [(1,a_ 2 b9)] [(2,[(7,.slice Cc ((af S.O tk).data.length) (c11))])] (LX (aq.region (jN 4 [104,106] (λb12=>[(1,a_ 3 b5),(2,A_ 2 b9 10)]) (λ_=>[]) (λb12=>.aD b12 [vI ((gH S i)),vI 1,vI ((af S.O tk).mode),vI ((af S.O tk).bg),vI ((af S.O tk).bh),vI ((af S.O tk).aU),vI ((af S.O tk).aI),.slice Cc ((af S.O tk).data.length) (c11),.string ⟨#[]⟩,.slice none (0) (0)] 95) (λb12=>mR 4 22 (some ⟨b12,0,none⟩) 1 1 [vI ((gH S i)),vI 1,vI ((af S.O tk).mode),vI ((af S.O tk).bg),vI ((af S.O tk).bh),vI ((af S.O tk).aU),vI ((af S.O tk).aI),.slice Cc ((af S.O tk).data.length) (c11),.string ⟨#[]⟩,.slice none (0) (0)] rfl (fP (j:=14) rfl) (λMr Ms=>av.cL 4 rfl (agX (λx=>HP.abs (aH 95 10 _ _ _ x)) (vB (iG zc) (x6 hI.toInv0 hi2 qG bW) rfl rfl)) (sl 107 (.slice Mr (i+1) (Ms)) (.slice Mr ((i+1)) (Ms)) (rfl) (jC 2 [] [(1,a_ 3 b5)] [(3,[(0,.slice Mr ((i+1)) (Ms))])] (LX (aq.region (jK 2 [21] [(0,wJ ((i:Int)+1) (↑(i+1)))] (NL (aB.mem (λw hS=>hS.mB (e:=149) (size:=2)) (aB.mem (λw hS=>hS.uP (R':=(kY ((aX S).take (i+1)) (K.put i Cc c11 none 0))) (i:=6) (j:=1) (ar:=[0,2,3,4,5,7,8,9,10,11,12,13,14,15]) rfl rfl KB rfl (Dl (iG zc) (x6 hI.toInv0 hi2 qG bW)) (Bz (iG zc) (x6 hI.toInv0 hi2 qG bW) rfl)) (aB.mem (λw hS=>hS.uP (R':=(qY ((aX S).take (i+1)) (K.put i Cc c11 none 0))) (i:=5) (j:=14) (ar:=[0,1,2,3,4,6,7,8,9,10,11,12,13]) rfl rfl KB rfl (Dm (iG zc) (x6 hI.toInv0 hi2 qG bW)) ((BA (iG zc) (x6 hI.toInv0 hi2 qG bW) rfl))) (tJ ((i+1),Mr,Ms,(K.put i Cc c11 none 0)) [4,5,0,1,6,7,8,9,10,2,11,12] (zc)))))))))))))))))
  ·have bC:(af S.O tk).kind=2:=hI.kind bW
   have hel:(af S.O tk).ah.length<=8192:=hI.lF bW
   have hdl:(af S.O tk).data.length<=140737488355328:=hI.Tm bW
   refine aq.region (jK 5 [28,29] [(3,a_ 6 f)] (av.je 7 (d:=(some 30)) (t:=129) (K:=3) (E:=133) (b:=m) (n:=S.ar.length) (f:=(cT (cV L S.ar))) (x:=(.tmp 28)) (ix:=(.tmp 29)) (key:=vI ((gH S i))) (z:=.nilIface) (kl:=(.int .i64 (gH S i))) (r:=(some (iw L ⟨tk,2⟩))) (λ_=>KB) KB (λ_=>KB) (λ_=>KB) iU Tryz.underlying129 (λ_=>KB) (mA (KH hI.toInv0 hi2)) (by rw [j4,hget,qG];rfl) (jK 1 [6] [] (NS (jK 1 [31] [] (gE [] (gi (L.b tk)) (jK 1 [7] [] (NN (aq.seq (aq.qZ (S:=[pO S.O L]) (yN [0,1,3,4,5,6,7,8,9,10,11,12,13,14,15,16,17,18] (oJ 20 [(false,21)] [(false,2),(false,19)])) [8] (gT (oJ 20 [(false,21)] [(false,2),(false,19)]) (Ff f b4 b5++[(6,.iface 144 (vP (L.b tk)))]++Fg A7 S c8 i++[(33,vI ((gH S i))),(34,.iface 144 (vP (L.b tk)))]++K6 S tk) [0,1,3,4,5,6,7,8,9,10,11,12,13,14,15,16,17,18] [(5,v_ 0 (AK L bC)),(9,v_ 0 (F5 L bC)),(13,v_ 0 (F6 L bC)),(17,p_ ⟨[.view 0 (.int .i64 ((af S.O tk).aU)),.view 0 (.int .i64 ((af S.O tk).aI))],none,none,none,none⟩ [(∀F w,(aY (eM S.O L)).h F w->w.cell? ⟨(L.b tk),5,none⟩=some (vI ((af S.O tk).aI))),(∀F w,(aY (eM S.O L)).h F w->w.cell? ⟨(L.b tk),4,none⟩=some (vI ((af S.O tk).aU)))] ⟨iY (by rw [bC];decide) (rfl),iY (by rw [bC];decide) (rfl),trivial⟩)] (oo.one (j:=20) (dj:=8) (R:=λf_ l_=>f_=([(52,.agg #[vI ((gH S i)),vI 2,vI ((af S.O tk).mode),vI ((af S.O tk).bg),vI ((af S.O tk).bh),vI ((af S.O tk).aU),vI ((af S.O tk).aI),.slice none (0) (0),.string ⟨#[]⟩,.slice none (0) (0)]),(35,vI 2)]++Ff f b4 b5++[(6,.iface 144 (vP (L.b tk)))]++Fg A7 S c8 i++[(33,vI ((gH S i))),(34,.iface 144 (vP (L.b tk)))]++K6 S tk)/\l_=[]) [8] [(false,2,35),(false,19,52)] (jm.of (ι:=Nat) (v:=λ(b15:Nat)=>vP b15) (l:=λ(b15:Nat)=>[zk8 b15]) [35,52] rfl rfl rfl rfl ?_) ?_ ?_))))))))))))
   ·intro u Aq
    exact jB 1 [8] (λb15=>.aD b15 [vI 0,vI 0,vI 0,vI 0,vI 0,vI 0,vI 0,.slice none (0) (0),.string ⟨#[]⟩,.slice none (0) (0)] 95) (λb15=>NL (MD b15 [8,35,52,0,2,3,6,19,20,21,33,34,39,43,47,51] [1,0]))
   ·refine ez.step (jm.of (ι:=Unit) (v:=λ(_:Unit)=>.int .i64 2) (l:=λ(_:Unit)=>[]) [8] rfl rfl rfl rfl ?_) ?_
    ·intro u Aq
     exact gE [] (s5 (vP (L.b tk))) (NL (MD () [35,8,0,2,3,6,19,20,21,33,34,39,43,47,51] [0]))
    rintro _ _ ⟨_,rfl,rfl⟩
    refine ez.step (jm.of (ι:=Unit) (v:=λ(_:Unit)=>.agg #[vI ((gH S i)),vI 2,vI ((af S.O tk).mode),vI ((af S.O tk).bg),vI ((af S.O tk).bh),vI ((af S.O tk).aU),vI ((af S.O tk).aI),.slice none (0) (0),.string ⟨#[]⟩,.slice none (0) (0)]) (l:=λ(_:Unit)=>[]) [8] rfl rfl rfl rfl ?_) ?_
    ·intro u Aq
     exact jK 1 [52] [] (NL (MD () [52,8,35,0,2,3,6,19,20,21,33,34,39,43,47,51] [0]))
    rintro _ _ ⟨_,rfl,rfl⟩
    exact⟨rfl,rfl⟩
   rintro _ _ ⟨rfl,rfl⟩ _ _ ⟨b15,rfl,rfl⟩
   refine fN.last KB (jC 1 [] [(0,A_ 0 b15 10)] [(0,([(0,vI ((gH S i))),(1,vI 2)]++aac S tk))] (NL (aB.np (NX (SQ (jK 1 [53] [] (NN (aq.block (SR (jK 3 [55,56] [] (NF (SR (jK 3 [64,65] [] (NF (SR (jK 3 [72,73] [] (NT (SR (jK 1 [11] [] (NS (jK 4 [77] [(3,v_ 9 (dw L bC))] (av.mem (λw hS=>hS.acY (i:=11) (k:=tk) rfl (bC)) (gX [] (YO (some (L.m tk))) (λb16=>gL [14,0] (TG L (L.m tk) b16 (af S.O tk).ah.length (af S.O tk).ah (hI.sorted _ bW) hel) ?_))))))))))))))))))))))))
   rintro _ _ ⟨oO,qI,rfl,rfl⟩
   refine jK 1 [80] [] (av.mem (λw hS=>hS.mB (e:=149) (size:=2)) (jK 1 [81] [] (NN (aq.block (lJ (λ(j,Ae,ce)=>(j<=(af S.O tk).ah.length)) (λ(j,Ae,ce)=>(af S.O tk).ah.length-j) (λ(j,Ae,ce)=>(Ff f b4 b5++[(8,vP b15),(11,vP (L.b tk))]++Fg A7 S c8 i++[(79,.slice oO ((af S.O tk).ah.length) (qI)),(80,vI ↑((af S.O tk).ah.length)),(81,vI ↑j)])) (λ(j,Ae,ce)=>([Uz b15 S i tk Ae j ce,.abs (aH 149 2 Ae j ce (mT (((af S.O tk).ah.take j).map (gy S.O)))),Uy L tk S,.aD b16 [.map (some (L.m tk))] 145,UA oO S tk qI]++Qc b5 An i cn K S A7 c8 b4 f m t L++[pD S.O L,aee S L tk,.abs R])) (0,none,0) [3,16,0,1,2,4,5,6,7,8,9,10,11,12,13,14,15] ((ag0 _)) ?_)))))
   rintro⟨j,Ae,ce⟩ hj
   refine SR (jK 1 [82] [] (NN (aq.seq (cP ((((j:Nat):Int):Int)<((((af S.O tk).ah.length:Nat):Int):Int)) (λMq=>?_) (λMq=>?_)))))
   ·have hj2:j<(af S.O tk).ah.length:=zc
    refine KX (aq.seq (aq.block (SR (av.tell (p:=(oO=some ⟨bw oO,br oO,none⟩)) (λw hS=>let ⟨F,h⟩:=hS.get (i:=4) rfl;(aH.Ix h zc).1) (λhAs=>jK 3 [13] [(0,x_ j ((af S.O tk).ah.length) (hAs)),(1,p_ ⟨[.view 4 (.string (nU (af S.O tk).ah j))],none,none,none,none⟩ [(∀F w,(aH 9 1 oO ((af S.O tk).ah.length) qI (x3 (af S.O tk).ah)).h F w->w.cell? ⟨(bw oO),br oO+j*1,none⟩=some (.string (nU (af S.O tk).ah j)))] ⟨aH.cellAt (i:=j) (j:=0) zc (TH hj2),trivial⟩)] (NN ?_))))))
    obtain⟨hgd,h4⟩:=afB hI.toInv0 bW hj2
    have hgs:(nU (af S.O tk).ah j).size<=255:=hgd.2.1
    rcases h4 with ⟨ek,dU,Io,Xq⟩|⟨ek,dU,Io,Xq⟩|⟨ek,dU,Io,Xq⟩
    ·have hke:(af S.O ek).kind=1:=hI.kind Io
     refine rM (List.range 18) 9 [2,13,0] (jR 8 [0,2,3,8,11,19,20,21,79,80,81,86,87,91,92] [(1,a_ 2 b15),(6,v_ 1 (dw L bC))] (ck.je 0 (d:=(some 93)) (t:=145) (K:=9) (E:=133) (b:=(L.m tk)) (cnt:=(af S.O tk).ah.length) (f:=(nE L (af S.O tk).ah)) (x:=(.tmp 91)) (ix:=(.tmp 92)) (key:=.string (nU (af S.O tk).ah j)) (z:=.nilIface) (kl:=(.string (nU (af S.O tk).ah j).data.toList)) (q:=(some (iw L ⟨ek,1⟩))) KB KB (λ_=>KB) (λ_=>KB) G8 Tryz.underlying145 (λ_=>KB) (Kk zc) (by rw [zl,dU];rfl) KB (mL [2,13,0] [] (gi (L.b ek)) ?_ (by rintro _ _ ⟨rfl,rfl⟩;rfl))))
     rintro _ _ ⟨rfl,rfl⟩
     refine nC [2,13,0] [95] [] [] (nC [2,13,0] [96] [] [] (nC [2,13,0] [97] [(0,v_ 13 (yD L hke))] [] (nC [2,13,0] [98] [] [] (mN [2,13,0] (λb19=>[(99,.slice (some ⟨b19,0,none⟩) (1) (1))]) (λ_=>[]) (λb19=>.aD b19 [.string (nU (af S.O tk).ah j),vI ((af S.O ek).id)] 149) (λb19=>ck.cut (ι:=(Option Addr)×Nat) (bU:=λ((og,oh):(Option Addr)×Nat)=>(Z9 f b4 b5 b15 L tk A7 S c8 i oO qI j og oh)) (dI:=λ((og,oh):(Option Addr)×Nat)=>([Uz b15 S i tk Ae j ce,Z8 og j oh S tk,Uy L tk S,.aD b16 [.map (some (L.m tk))] 145,UA oO S tk qI]++Qc b5 An i cn K S A7 c8 b4 f m t L++aad S L tk R b19 j ek)) [2,13,0] rfl rfl ?_ rfl (λ_=>KB) ?_)))))
     ·exact mR 1 93 (some ⟨b19,0,none⟩) 1 1 [.string (nU (af S.O tk).ah j),vI ((af S.O ek).id)] rfl (fP (j:=17) rfl) (λog oh=>av.cL 1 rfl (agX (λx=>HP.abs (aH 149 2 _ _ _ x)) (EI hj2 Xq)) (sl 100 (.slice og (j+1) (oh)) (.slice og ((j+1)) (oh)) (rfl) (NL (MD (og,oh) [0,2,3,8,11,19,20,21,79,80,81,100] [0,1,2,3,4,5,6,7,8,9,10,11,12,13,14,15,16,17]))))
     rintro⟨og,oh⟩
     exact nC [2,13,0] [101] [] [] (ck.last rfl rfl (jC 1 [] [(0,a_ 0 b15)] [(0,[(9,.slice og ((j+1)) (oh))])] (NL (aB.np (BX (aq.region (jK 2 [81] [(0,wJ ((j:Int)+1) (↑(j+1)))] (NL (tJ ((j+1),og,oh) [0,1,2,3,4,5,6,7,8,9,10,11,12,13,14,15,16] (zc))))))))))
    ·have hke:(af S.O ek).kind=2:=hI.kind Io
     refine rM (List.range 18) 9 [2,13,0] (jR 8 [0,2,3,8,11,19,20,21,79,80,81,86,87,91,92] [(1,a_ 2 b15),(6,v_ 1 (dw L bC))] (ck.je 0 (d:=(some 93)) (t:=145) (K:=9) (E:=133) (b:=(L.m tk)) (cnt:=(af S.O tk).ah.length) (f:=(nE L (af S.O tk).ah)) (x:=(.tmp 91)) (ix:=(.tmp 92)) (key:=.string (nU (af S.O tk).ah j)) (z:=.nilIface) (kl:=(.string (nU (af S.O tk).ah j).data.toList)) (q:=(some (iw L ⟨ek,2⟩))) KB KB (λ_=>KB) (λ_=>KB) G8 Tryz.underlying145 (λ_=>KB) (Kk zc) (by rw [zl,dU];rfl) KB (mL [2,13,0] [] (gi (L.b ek)) ?_ (by rintro _ _ ⟨rfl,rfl⟩;rfl))))
     rintro _ _ ⟨rfl,rfl⟩
     refine nC [2,13,0] [95] [] [] (nC [2,13,0] [96] [] [] (nC [2,13,0] [97] [(0,v_ 13 (yD L hke))] [] (nC [2,13,0] [98] [] [] (mN [2,13,0] (λlI=>[(99,.slice (some ⟨lI,0,none⟩) (1) (1))]) (λ_=>[]) (λlI=>.aD lI [.string (nU (af S.O tk).ah j),vI ((af S.O ek).id)] 149) (λlI=>ck.cut (ι:=(Option Addr)×Nat) (bU:=λ((t6,t7):(Option Addr)×Nat)=>(Z9 f b4 b5 b15 L tk A7 S c8 i oO qI j t6 t7)) (dI:=λ((t6,t7):(Option Addr)×Nat)=>([Uz b15 S i tk Ae j ce,Z8 t6 j t7 S tk,Uy L tk S,.aD b16 [.map (some (L.m tk))] 145,UA oO S tk qI]++Qc b5 An i cn K S A7 c8 b4 f m t L++aad S L tk R lI j ek)) [2,13,0] rfl rfl ?_ rfl (λ_=>KB) ?_)))))
     ·exact mR 1 93 (some ⟨lI,0,none⟩) 1 1 [.string (nU (af S.O tk).ah j),vI ((af S.O ek).id)] rfl (fP (j:=17) rfl) (λt6 t7=>av.cL 1 rfl (agX (λx=>HP.abs (aH 149 2 _ _ _ x)) (EI hj2 Xq)) (sl 100 (.slice t6 (j+1) (t7)) (.slice t6 ((j+1)) (t7)) (rfl) (NL (MD (t6,t7) [0,2,3,8,11,19,20,21,79,80,81,100] [0,1,2,3,4,5,6,7,8,9,10,11,12,13,14,15,16,17]))))
     rintro⟨t6,t7⟩
     exact nC [2,13,0] [101] [] [] (ck.last rfl rfl (jC 1 [] [(0,a_ 0 b15)] [(0,[(9,.slice t6 ((j+1)) (t7))])] (NL (aB.np (BX (aq.region (jK 2 [81] [(0,wJ ((j:Int)+1) (↑(j+1)))] (NL (tJ ((j+1),t6,t7) [0,1,2,3,4,5,6,7,8,9,10,11,12,13,14,15,16] (zc))))))))))
    have hke:(af S.O ek).kind=3:=hI.kind Io
    refine rM (List.range 18) 9 [2,13,0] (jR 8 [0,2,3,8,11,19,20,21,79,80,81,86,87,91,92] [(1,a_ 2 b15),(6,v_ 1 (dw L bC))] (ck.je 0 (d:=(some 93)) (t:=145) (K:=9) (E:=133) (b:=(L.m tk)) (cnt:=(af S.O tk).ah.length) (f:=(nE L (af S.O tk).ah)) (x:=(.tmp 91)) (ix:=(.tmp 92)) (key:=.string (nU (af S.O tk).ah j)) (z:=.nilIface) (kl:=(.string (nU (af S.O tk).ah j).data.toList)) (q:=(some (iw L ⟨ek,3⟩))) KB KB (λ_=>KB) (λ_=>KB) G8 Tryz.underlying145 (λ_=>KB) (Kk zc) (by rw [zl,dU];rfl) KB (mL [2,13,0] [] (gi (L.b ek)) ?_ (by rintro _ _ ⟨rfl,rfl⟩;rfl))))
    rintro _ _ ⟨rfl,rfl⟩
    refine nC [2,13,0] [95] [] [] (nC [2,13,0] [96] [] [] (nC [2,13,0] [97] [(0,v_ 13 (yD L hke))] [] (nC [2,13,0] [98] [] [] (mN [2,13,0] (λsA=>[(99,.slice (some ⟨sA,0,none⟩) (1) (1))]) (λ_=>[]) (λsA=>.aD sA [.string (nU (af S.O tk).ah j),vI ((af S.O ek).id)] 149) (λsA=>ck.cut (ι:=(Option Addr)×Nat) (bU:=λ((qq,qt):(Option Addr)×Nat)=>(Z9 f b4 b5 b15 L tk A7 S c8 i oO qI j qq qt)) (dI:=λ((qq,qt):(Option Addr)×Nat)=>([Uz b15 S i tk Ae j ce,Z8 qq j qt S tk,Uy L tk S,.aD b16 [.map (some (L.m tk))] 145,UA oO S tk qI]++Qc b5 An i cn K S A7 c8 b4 f m t L++aad S L tk R sA j ek)) [2,13,0] rfl rfl ?_ rfl (λ_=>KB) ?_)))))
    ·exact mR 1 93 (some ⟨sA,0,none⟩) 1 1 [.string (nU (af S.O tk).ah j),vI ((af S.O ek).id)] rfl (fP (j:=17) rfl) (λqq qt=>av.cL 1 rfl (agX (λx=>HP.abs (aH 149 2 _ _ _ x)) (EI hj2 Xq)) (sl 100 (.slice qq (j+1) (qt)) (.slice qq ((j+1)) (qt)) (rfl) (NL (MD (qq,qt) [0,2,3,8,11,19,20,21,79,80,81,100] [0,1,2,3,4,5,6,7,8,9,10,11,12,13,14,15,16,17]))))
    rintro⟨qq,qt⟩
    exact nC [2,13,0] [101] [] [] (ck.last rfl rfl (jC 1 [] [(0,a_ 0 b15)] [(0,[(9,.slice qq ((j+1)) (qt))])] (NL (aB.np (BX (aq.region (jK 2 [81] [(0,wJ ((j:Int)+1) (↑(j+1)))] (NL (tJ ((j+1),qq,qt) [0,1,2,3,4,5,6,7,8,9,10,11,12,13,14,15,16] (zc))))))))))
   refine XX (aq.region ?_)
   have hjl:j=(af S.O tk).ah.length:=zc
   exact av.mem (λw hS=>hS.acZ (i:=15) (j:=2) (ar:=[0,1,3,4,5,6,7,8,9,10,11,12,13,14,16]) (k:=tk) rfl rfl KB rfl (bC)) (jN 4 [104,106] (λjc=>[(1,a_ 5 b5),(2,A_ 1 b15 10)]) (λ_=>[]) (λjc=>.aD jc [vI ((gH S i)),vI 2,vI ((af S.O tk).mode),vI ((af S.O tk).bg),vI ((af S.O tk).bh),vI ((af S.O tk).aU),vI ((af S.O tk).aI),.slice none (0) (0),.string ⟨#[]⟩,.slice Ae (j) (ce)] 95) (λjc=>mR 6 22 (some ⟨jc,0,none⟩) 1 1 [vI ((gH S i)),vI 2,vI ((af S.O tk).mode),vI ((af S.O tk).bg),vI ((af S.O tk).bh),vI ((af S.O tk).aU),vI ((af S.O tk).aI),.slice none (0) (0),.string ⟨#[]⟩,.slice Ae (j) (ce)] rfl (fP (j:=16) rfl) (λAr Au=>av.cL 6 rfl (agX (λx=>HP.abs (aH 95 10 _ _ _ x)) (vB (iG zc) (Aj hI.toInv0 hi2 qG bW) rfl (by show ((af S.O tk).ah.map (gy S.O)).length=j;rw [ahf,hjl]))) (sl 107 (.slice Ar (i+1) (Au)) (.slice Ar ((i+1)) (Au)) (rfl) (jC 2 [] [(1,a_ 5 b5)] [(5,[(0,.slice Ar ((i+1)) (Au))])] (LX (aq.region (jK 2 [21] [(0,wJ ((i:Int)+1) (↑(i+1)))] (NL (aB.mem (λw hS=>hS.mB (e:=5) (size:=1)) (aB.mem (λw hS=>hS.uP (R':=(kY ((aX S).take (i+1)) (K.put i none 0 Ae ce))) (i:=8) (j:=17) (ar:=[0,1,2,3,4,5,6,7,9,10,11,12,13,14,15,16]) rfl rfl KB rfl (Dl (iG zc) (Aj hI.toInv0 hi2 qG bW)) (Bz (iG zc) (Aj hI.toInv0 hi2 qG bW) rfl)) (aB.mem (λw hS=>hS.uP (R':=(qY ((aX S).take (i+1)) (K.put i none 0 Ae ce))) (i:=8) (j:=3) (ar:=[0,1,2,4,5,6,7,9,10,11,12,13,14,15,16]) rfl rfl KB rfl (Dm (iG zc) (Aj hI.toInv0 hi2 qG bW)) ((BA (iG zc) (Aj hI.toInv0 hi2 qG bW) (by show ((af S.O tk).ah.map (gy S.O)).length=j;rw [ahf,hjl])).trans (by rw [hjl,ahl]))) (tJ ((i+1),Ar,Au,(K.put i none 0 Ae ce)) [6,7,0,1,8,9,10,11,12,13,2,14] (zc))))))))))))))
  have bC:(af S.O tk).kind=3:=hI.kind bW
  have hel:(af S.O tk).ah.length<=8192:=hI.lF bW
  have hdl:(af S.O tk).data.length<=140737488355328:=hI.Tm bW
  refine aq.region (jK 5 [28,29] [(3,a_ 6 f)] (av.je 7 (d:=(some 30)) (t:=129) (K:=3) (E:=133) (b:=m) (n:=S.ar.length) (f:=(cT (cV L S.ar))) (x:=(.tmp 28)) (ix:=(.tmp 29)) (key:=vI ((gH S i))) (z:=.nilIface) (kl:=(.int .i64 (gH S i))) (r:=(some (iw L ⟨tk,3⟩))) (λ_=>KB) KB (λ_=>KB) (λ_=>KB) iU Tryz.underlying129 (λ_=>KB) (mA (KH hI.toInv0 hi2)) (by rw [j4,hget,qG];rfl) (jK 1 [6] [] (NS (jK 1 [31] [] (gE [] (gi (L.b tk)) (jK 1 [7] [] (NN (aq.seq (aq.qZ (S:=[pO S.O L]) (yN [0,1,3,4,5,6,7,8,9,10,11,12,13,14,15,16,17,18] (oJ 20 [(false,21)] [(false,2),(false,19)])) [8] (gT (oJ 20 [(false,21)] [(false,2),(false,19)]) (Ff f b4 b5++[(6,.iface 141 (vP (L.b tk)))]++Fg A7 S c8 i++[(33,vI ((gH S i))),(34,.iface 141 (vP (L.b tk)))]++K6 S tk) [0,1,3,4,5,6,7,8,9,10,11,12,13,14,15,16,17,18] [(5,v_ 0 (AK L bC)),(9,v_ 0 (F5 L bC)),(13,v_ 0 (F6 L bC)),(17,p_ ⟨[.view 0 (.int .i64 ((af S.O tk).aU)),.view 0 (.int .i64 ((af S.O tk).aI))],none,none,none,none⟩ [(∀F w,(aY (eM S.O L)).h F w->w.cell? ⟨(L.b tk),5,none⟩=some (vI ((af S.O tk).aI))),(∀F w,(aY (eM S.O L)).h F w->w.cell? ⟨(L.b tk),4,none⟩=some (vI ((af S.O tk).aU)))] ⟨iY (by rw [bC];decide) (rfl),iY (by rw [bC];decide) (rfl),trivial⟩)] (oo.one (j:=20) (dj:=8) (R:=λf_ l_=>f_=([(52,.agg #[vI ((gH S i)),vI 3,vI ((af S.O tk).mode),vI ((af S.O tk).bg),vI ((af S.O tk).bh),vI ((af S.O tk).aU),vI ((af S.O tk).aI),.slice none (0) (0),.string ⟨#[]⟩,.slice none (0) (0)]),(35,vI 3)]++Ff f b4 b5++[(6,.iface 141 (vP (L.b tk)))]++Fg A7 S c8 i++[(33,vI ((gH S i))),(34,.iface 141 (vP (L.b tk)))]++K6 S tk)/\l_=[]) [8] [(false,2,35),(false,19,52)] (jm.of (ι:=Nat) (v:=λ(t8:Nat)=>vP t8) (l:=λ(t8:Nat)=>[zk8 t8]) [35,52] rfl rfl rfl rfl ?_) ?_ ?_))))))))))))
  ·intro u Aq
   exact jB 1 [8] (λt8=>.aD t8 [vI 0,vI 0,vI 0,vI 0,vI 0,vI 0,vI 0,.slice none (0) (0),.string ⟨#[]⟩,.slice none (0) (0)] 95) (λt8=>NL (MD t8 [8,35,52,0,2,3,6,19,20,21,33,34,39,43,47,51] [1,0]))
  ·refine ez.step (jm.of (ι:=Unit) (v:=λ(_:Unit)=>.int .i64 3) (l:=λ(_:Unit)=>[]) [8] rfl rfl rfl rfl ?_) ?_
   ·intro u Aq
    exact gE [] (uG (vP (L.b tk))) (NL (MD () [35,8,0,2,3,6,19,20,21,33,34,39,43,47,51] [0]))
   rintro _ _ ⟨_,rfl,rfl⟩
   refine ez.step (jm.of (ι:=Unit) (v:=λ(_:Unit)=>.agg #[vI ((gH S i)),vI 3,vI ((af S.O tk).mode),vI ((af S.O tk).bg),vI ((af S.O tk).bh),vI ((af S.O tk).aU),vI ((af S.O tk).aI),.slice none (0) (0),.string ⟨#[]⟩,.slice none (0) (0)]) (l:=λ(_:Unit)=>[]) [8] rfl rfl rfl rfl ?_) ?_
   ·intro u Aq
    exact jK 1 [52] [] (NL (MD () [52,8,35,0,2,3,6,19,20,21,33,34,39,43,47,51] [0]))
   rintro _ _ ⟨_,rfl,rfl⟩
   exact⟨rfl,rfl⟩
  rintro _ _ ⟨rfl,rfl⟩ _ _ ⟨t8,rfl,rfl⟩
  exact fN.last KB (jC 1 [] [(0,A_ 0 t8 10)] [(0,([(0,vI ((gH S i))),(1,vI 3)]++aac S tk))] (NL (aB.np (NX (SQ (jK 1 [53] [] (NN (aq.block (SR (jK 3 [55,56] [] (NF (SR (jK 3 [64,65] [] (NT (SR (jK 1 [10] [] (NN (aq.region (jC 6 [] [(3,v_ 9 (ae3 L bC)),(5,a_ 0 t8)] [(0,[(8,.string (af S.O tk).target)])] (LX (aq.region (jN 4 [104,106] (λb32=>[(1,a_ 1 b5),(2,A_ 0 t8 10)]) (λ_=>[]) (λb32=>.aD b32 [vI ((gH S i)),vI 3,vI ((af S.O tk).mode),vI ((af S.O tk).bg),vI ((af S.O tk).bh),vI ((af S.O tk).aU),vI ((af S.O tk).aI),.slice none (0) (0),.string (af S.O tk).target,.slice none (0) (0)] 95) (λb32=>mR 2 22 (some ⟨b32,0,none⟩) 1 1 [vI ((gH S i)),vI 3,vI ((af S.O tk).mode),vI ((af S.O tk).bg),vI ((af S.O tk).bh),vI ((af S.O tk).aU),vI ((af S.O tk).aI),.slice none (0) (0),.string (af S.O tk).target,.slice none (0) (0)] rfl (fP (j:=13) rfl) (λL6 L7=>av.cL 2 rfl (agX (λx=>HP.abs (aH 95 10 _ _ _ x)) (vB (iG zc) (x7 hI.toInv0 hi2 qG bW) rfl rfl)) (sl 107 (.slice L6 (i+1) (L7)) (.slice L6 ((i+1)) (L7)) (rfl) (jC 2 [] [(1,a_ 1 b5)] [(1,[(0,.slice L6 ((i+1)) (L7))])] (LX (aq.region (jK 2 [21] [(0,wJ ((i:Int)+1) (↑(i+1)))] (NL (aB.mem (λw hS=>hS.mB (e:=5) (size:=1)) (aB.mem (λw hS=>hS.mB (e:=149) (size:=2)) (aB.mem (λw hS=>hS.uP (R':=(kY ((aX S).take (i+1)) (K.put i none 0 none 0))) (i:=4) (j:=14) (ar:=[0,1,2,3,5,6,7,8,9,10,11,12,13,15]) rfl rfl KB rfl (Dl (iG zc) (x7 hI.toInv0 hi2 qG bW)) (Bz (iG zc) (x7 hI.toInv0 hi2 qG bW) rfl)) (aB.mem (λw hS=>hS.uP (R':=(qY ((aX S).take (i+1)) (K.put i none 0 none 0))) (i:=4) (j:=14) (ar:=[0,1,2,3,5,6,7,8,9,10,11,12,13]) rfl rfl KB rfl (Dm (iG zc) (x7 hI.toInv0 hi2 qG bW)) ((BA (iG zc) (x7 hI.toInv0 hi2 qG bW) rfl))) (tJ ((i+1),L6,L7,(K.put i none 0 none 0)) [3,4,0,1,5,6,7,8,9,10,11,12] (zc))))))))))))))))))))))))))))))))))))
 refine XX (SR ?_)
 have hie:(aX S).length=i:=by rw [ia];omega
 have hgt:((aX S).take i)=(aX S):=by rw [←hie,ahl]
 exact av.cL 1 (p:=.abs (aH 95 10 An i cn (bG K ((aX S).take i)))) (p':=.abs (aH 95 10 An ((aX S).length) cn (bG K (aX S)))) KB (by rw [hgt,hie]) (av.cL 2 (p:=.abs (kE (qY ((aX S).take i) K) i)) (p':=.abs (kE (qY (aX S) K) ((aX S).length))) KB (by rw [hgt,hie]) (av.cL 3 (p:=.abs (kE (kY ((aX S).take i) K) i)) (p':=.abs (kE (kY (aX S) K) ((aX S).length))) KB (by rw [hgt,hie]) (jC 2 [] [(0,a_ 0 b5),(1,a_ 5 b4)] [(5,[(0,.slice An (i) (cn))])] (eS [a_ 5 b4] ⟨An,cn,K,by rw [hie],rfl⟩ [6,7,8,9,10,1,2,3,11]))))
end
section
open Go.RowKit Go.Maps bK aF
attribute [local irreducible] av bN aq aB ck fN oo
abbrev zl1 (b2:Nat) (X:FM):=(.aD b2 [vI (X.cN),vI (X.cB),vI (X.cH),vI (X.cS),vI (X.cZ)] 28:HP)
abbrev SB (b1:Nat) (A:Option Addr) (ns:List aO) (c):=(.aD b1 [.slice A (ns.length) (c)] 24:HP)
abbrev zl3 (b9:Nat) (ns) (k:Nat):=(.aD b9 [vI ((nd ns k).id),vI ((nd ns k).mode),vI ((nd ns k).bg),vI ((nd ns k).bh),vI ((nd ns k).aU),vI ((nd ns k).aI),vI 0,vI 0,.bool false] 137:HP)
abbrev zl4 (b1:Nat) (X:FM):=([(2,vP b1),(39,.agg #[vI (X.cN),vI (X.cB),vI (X.cH),vI (X.cS),vI (X.cZ)])]:Fr)
abbrev zl5 (b7:Nat) (m3:Nat) (t4:Nat) (S:bB) (L:HL) (R:eH):=([pF b7 m3 t4 S.X,pI m3 L S.ar,pT t4 S.X.cH S.aJ L S.us,pO S.O L,pD S.O L,pE S.O L,.abs R]:List HP)
theorem SC {β:Bs} (A:Option Addr) (c:Nat) (ns:List aO) (Y:eV) (hG:aP β A ns Y) (hl:ns.length<=1048576) (hd:∀i,i<ns.length->(nd ns i).data.length<=1048576/\(nd ns i).ah.length<=1048576) (hwf:∀i,i<ns.length->∀j,j<(nd ns i).ah.length->-9223372036854775808<=(bS ns i j).id/\(bS ns i j).id<=9223372036854775807) (hnm:∀i,i<ns.length->∀j,j<(nd ns i).ah.length->(bS ns i j).name.size<=1048576) (X:FM) :
 aW Tryz.prog β 43 #[.agg #[.slice A (ns.length) (c)],.agg #[vI (X.cN),vI (X.cB),vI (X.cH),vI (X.cS),vI (X.cZ)]] [] (λv l=>(¬kK X/\v=.tuple #[.pointer none,vI 179]/\l=[])\/(kK X/\¬cA ns/\v=.tuple #[.pointer none,vI 140]/\l=[])\/(kK X/\cA ns/\∃S f m t L,kP X ns ns.length 0 S/\v=.tuple #[vP f,vI 0]/\l=pA f m t L S)):=by
 refine SE Tryz.func43 Tryz.ntmps43 (λR=>SR (jB 1 [2] (λb1=>.aD b1 [.slice A (ns.length) (c)] 24) (λb1=>jB 3 [3] (λb2=>.aD b2 [vI (X.cN),vI (X.cB),vI (X.cH),vI (X.cS),vI (X.cZ)] 28) (λb2=>NZ (jK 2 [15] [(1,a_ 2 b2)] (gE [] (kN X.cN 4096) (jK 2 [18] [] (sN 18 ((0<=X.cN/\X.cN<=4096)) (λpU=>jK 17 [35] [] (NT (zR (.inl ⟨λh=>pU h.cN,rfl,rfl⟩)))) (λpU=>jK 2 [20] [(1,a_ 2 b2)] (gE [] (kN X.cB 1099511627776) (jK 3 [24] [] (sN 24 ((0<=X.cB/\X.cB<=1099511627776)) (λrA=>jK 11 [35] [] (NT (zR (.inl ⟨λh=>rA h.cB,rfl,rfl⟩)))) (λrA=>jK 2 [26] [(1,a_ 2 b2)] (gE [] (kN X.cH 1024) (jK 3 [30] [] (sN 30 ((0<=X.cH/\X.cH<=1024)) (λnM=>jK 5 [35] [] (NT (zR (.inl ⟨λh=>nM h.cH,rfl,rfl⟩)))) (λnM=>jK 2 [32] [(1,A_ 2 b2 2)] (gE [] (nj X.cS X.cZ) (jK 2 [35] [] (NN (cN (fZ X.cS X.cZ) (λnO=>zR (.inl ⟨λh=>nO h.now,rfl,rfl⟩)) (λnO=>?_))))))))))))))))))))))
 have hcap:kK X:=⟨pU,rA,nM,nO⟩
 refine KX (SQ (jK 1 [36] [(0,a_ 1 b1)] (gE [] (Ye A c ns Y hG hl (λi hi=>⟨ag1 (hd i hi).1 Pd,(hd i hi).2⟩) hwf hnm) (jK 1 [38] [] (NN (cN (((if cA ns then 0 else 140):Int)=(0:Int)) (λEm=>?_) (λEm=>?_)))))))
 ·have hng:¬cA ns:=λh=>Em (agW h)
  exact zR (.inr (.inl ⟨hcap,hng,rfl,rfl⟩))
 have hok:cA ns:=ahk (λh=>Pe)
 refine KX (aq.seq (aq.qZ (S:=[zl1 b2 X]) (yN [0,2,3] (oJ 4 [(false,5),(false,6),(false,7)] [(false,1)])) [2] (gT (oJ 4 [(false,5),(false,6),(false,7)] [(false,1)]) (zl4 b1 X++[(42,vI (X.cH))]) [0,2,3] [(0,A_ 0 b2 5),(2,a_ 0 b2)] (oo.one (j:=4) (dj:=43) (R:=λf_ l_=>∃m3:Nat,f_=(40,.map (some m3))::(zl4 b1 X++[(42,vI (X.cH))])/\l_=[.abs (bM Tryz.prog 3 m3 (λ_=>none) 0)]) [2] [(false,1,40)] (jm.of (ι:=Nat) (v:=λ(t4:Nat)=>vP t4) (l:=λ(t4:Nat)=>[.abs (gj 182 t4 (min (max X.cH 0) 1024) 0 [])]) [40] rfl rfl rfl rfl ?_) ?_ ?_))))
 ·intro u Aq
  exact gX [] (Yt X.cH) (λt4=>NL (MD t4 [43,40,2,39,42] [0,1]))
 ·refine ez.step (jm.of (ι:=Nat) (v:=λ(m3:Nat)=>.map (some m3)) (l:=λ(m3:Nat)=>[.abs (bM Tryz.prog 3 m3 (λ_=>none) 0)]) [43] rfl rfl rfl rfl ?_) ?_
  ·intro u Aq
   exact av.tj (d:=(some 40)) (t:=129) (λ_=>KB) Tryz.prog rfl 3 (λm3=>NL (MD m3 [40,43,2,39,42] [1,0]))
  rintro _ _ ⟨m3,rfl,rfl⟩
  exact⟨m3,rfl,rfl⟩
 rintro _ _ ⟨m3,rfl,rfl⟩ _ _ ⟨t4,rfl,rfl⟩
 refine fN.cut (ι:=Unit) (bU:=λ(_:Unit)=>[(2,vP b1),(44,.agg #[vI (X.cN),vI (X.cB),vI (X.cH),vI (X.cS),vI (X.cZ),.map (some m3),vP t4,vI 0,vI 0,vI 0])]) (dI:=λ(_:Unit)=>[.abs (gj 182 t4 (min (max X.cH 0) 1024) 0 []),.abs R,SB b1 A ns c,zl1 b2 X,.abs (bM Tryz.prog 3 m3 (λ_=>none) 0)]) [3] KB ?_ rfl (λ_=>KB) ?_
 ·exact jK 1 [44] [] (NL (MD () [2,44] [1,2,3,4,0]))
 rintro _
 refine fN.cut (ι:=Nat) (bU:=λ(b7:Nat)=>[(2,vP b1),(45,vP b7)]) (dI:=λ(b7:Nat)=>[.abs (gj 182 t4 (min (max X.cH 0) 1024) 0 []),.abs R,SB b1 A ns c,zl1 b2 X,.abs (bM Tryz.prog 3 m3 (λ_=>none) 0),pF b7 m3 t4 {X with last:=0,ah:=0,used:=0}]) [3] KB ?_ rfl (λ_=>KB) ?_
 ·exact jB 1 [45] (λb7=>pF b7 m3 t4 {X with last:=0,ah:=0,used:=0}) (λb7=>NL (MD b7 [2,45] [0,1,2,3,4,5]))
 rintro b7
 refine fN.last KB (jK 1 [6] [] (NL (aB.np (NX (aq.seq (SR ?_))))))
 obtain⟨L,hL0⟩:∃L:HL,L=⟨λ_=>0,λ_=>0,λ_=>none,λ_=>0⟩:=⟨_,rfl⟩
 refine av.mem (λw hS=>hS.MZ (eM (BG X).O L) (HB X L).1) (av.mem (λw hS=>hS.MZ (dS (BG X).O L) (HB X L).2.1) (av.mem (λw hS=>hS.MZ (gq (BG X).O L) (HB X L).2.2) ?_))
 have hc:min (max X.cH 0) 1024=X.cH:=by have:=hcap.cH;omega
 refine av.mem (λw hS=>by rw [hc,←Oe] at hS;exact hS) (jK 4 [47,48,49] [(1,a_ 2 b1)] (NN (aq.block (lJ (λ(k,S,L)=>(k<=ns.length)/\(wZ X ns k S)) (λ(k,S,L)=>ns.length-k) (λ(k,S,L)=>[(2,vP b1),(6,vP b7),(47,.slice A (ns.length) (c)),(48,vI ↑ns.length),(49,vI ↑k)]) (λ(k,S,L)=>([SB b1 A ns c]++zl5 b7 m3 t4 S L R)) (0,(BG X),L) [2,5,4,0,6,7,8,1] (⟨ag0 _,VX hcap⟩) ?_))))
 rintro⟨k,S,L⟩ ⟨hk,hB⟩
 refine SR (jK 1 [50] [] (NN (aq.seq (cP ((((k:Nat):Int):Int)<(((ns.length:Nat):Int):Int)) (λh50=>?_) (λh50=>?_)))))
 ·have hk2:k<ns.length:=zc
  have hdk:=hd k hk2
  have hds:=LK (λi hi=>(hd i hi).1) hk
  have yC:=hok.ids k hk2
  have hni:=hB.new hok hk2
  have wH:(Lit.int .i64 (nd ns k).id).wf=true:=WalkArith.wf_i64 zc
  have hkk:=(hok.node k hk2).kind
  have iy:S.X.used=(fQ ns k:Int):=by rw [hB.cap]
  have hil:=hB.inv.len
  refine KX (aq.seq (aq.block (SR (jN 4 [8] (λb8=>[(0,x_ k ns.length (aP.hd hG (i:=k) zc)),(1,DR (iq Y k (nd ns k)) (λ_ _ h=>aP.rd hG zc h)),(3,A_ 8 b8 10)]) (λ_=>[]) (λb8=>.aD b8 (iq Y k (nd ns k)) 95) (λb8=>NS (jN 13 [9] (λb9=>[(1,a_ 8 b8),(3,a_ 8 b8),(5,a_ 8 b8),(7,a_ 8 b8),(9,A_ 8 b8 2),(12,A_ 9 b9 9)]) (λ_=>[]) (λb9=>.aD b9 [vI ((nd ns k).id),vI ((nd ns k).mode),vI ((nd ns k).bg),vI ((nd ns k).bh),vI ((nd ns k).aU),vI ((nd ns k).aI),vI 0,vI 0,.bool false] 137) (λb9=>NZ (jK 2 [65] [(1,a_ 8 b8)] (NN (aq.block (SR (jK 2 [77] [] (NN (cP (((nd ns k).kind:Int)=(1:Int)) (λhk1=>?_) (λhk1=>?_)))))))))))))))
  ·refine rM (List.range 14) 9 [1,8,9] (jR 9 [2,6,8,47,48,49,82,84,85,87] [(3,a_ 0 b7),(5,a_ 1 b8),(6,A_ 2 b9 9),(8,a_ 1 b8)] (mL [2,9,10] [] (Cq (Y.dA k) (Y.dC k) (nd ns k).data (hG.data k zc) (by have:=(hd k zc).1;omega)) ?_ (by rintro _ _ ⟨Cc,c11,rfl,rfl⟩;rfl)))
   rintro _ _ ⟨Cc,c11,rfl,rfl⟩
   refine nC [2,9,10] [89] [] [] (mN [2,9,10] (λb12=>[(90,vP b12)]) (λ_=>[]) (λb12=>.aD b12 [vI ((nd ns k).id),vI ((nd ns k).mode),vI ((nd ns k).bg),vI ((nd ns k).bh),vI ((nd ns k).aU),vI ((nd ns k).aI),vI 0,vI 0,.bool false,.slice Cc ((nd ns k).data.length) (c11)] 140) (λb12=>nC [2,9,10] [91] [] [] (ck.last rfl rfl ?_)))
   obtain⟨L2,fS⟩:∃L2:HL,L2=L.put (jU (nd ns k)) b12 0 Cc c11:=⟨_,rfl⟩
   have hfr:=hB.fresh hok zc
   refine av.mem (λw hS=>hS.Bo fS hfr (o:=(vQ (nd ns k))) (i:=5) (j:=11) (ix:=[0,1,2,3,4,6,7,8,9,10]) rfl rfl KB rfl (by show (nd ns k).kind≠0;rw [hk1];decide) ((mE (L:=L2) (k:=(jU (nd ns k))) (o:=(vQ (nd ns k))) hk1).trans (by rw [show L2.dA (jU (nd ns k))=Cc by rw [fS];exact agW rfl,show L2.dC (jU (nd ns k))=c11 by rw [fS];exact agW rfl];rfl)) (by show sE (nd ns k).kind=_;rw [hk1]<;>rfl)) (av.gG [(7,.abs (aY (gq ((fT S (nd ns k)).O) L2)))] (λw hS=>hS.CG fS hfr (o:=(vQ (nd ns k))) (i:=7) rfl (by show ¬(nd ns k).kind=2;rw [hk1];decide)) (av.mem (λw hS=>hS.aeZ fS (o:=(vQ (nd ns k))) (i:=6) (j:=1) (ix:=[0,2,3,4,5,7,8,9,10]) rfl rfl KB rfl hk1) (av.gG [(4,.abs (bM Tryz.prog 3 m3 (cT (cV L2 S.ar)) S.ar.length)),(5,.abs (gj 182 t4 S.X.cH S.aJ (cV L2 S.us)))] (λw hS=>by rw [lW fS hfr.ar,lW fS hfr.us];exact hS) ?_)))
   have Qf:iw L2 (uX (nd ns k))=.iface 138 (vP b12):=by unfold uX;rw [uS fS,hk1];rfl
   exact av.qO 4 (d:=none) (t:=129) (K:=3) (E:=133) (b:=m3) (n:=S.ar.length) (f:=(cT (cV L2 S.ar))) (x:=(.tmp 82)) (ix:=(.tmp 84)) (y:=(.tmp 91)) (key:=vI ((nd ns k).id)) (u:=.iface 138 (vP b12)) (kl:=(.int .i64 (nd ns k).id)) (n':=(S.ar.length+1)) (f':=(cT (cV L2 (ins (nd ns k).id (uX (nd ns k)) S.ar)))) (λ_=>KB) KB (λ_=>KB) (λ_=>KB) (λ_=>KB) iU Tryz.underlying129 (by unfold maxLen;omega) (mA wH) (by rw [j4,hni];rfl) (by rw [←Qf];exact zn hni) (NL (aB.np (BX (SR (jC 6 [] [(2,a_ 8 b8),(5,a_ 3 b7)] [(3,[(7,vI ((nd ns k).id))])] (NN (rM (List.range 11) 10 [3,8] (jR 10 [2,6,47,48,49,118,120] [(3,a_ 0 b7),(5,a_ 1 b8),(7,wJ (S.X.used+(((nd ns k).data.length:Nat):Int)) (S.X.used+(((nd ns k).data.length:Nat):Int)))] (ck.last rfl rfl (jC 1 [] [(0,a_ 3 b7)] [(3,[(9,vI (S.X.used+(((nd ns k).data.length:Nat):Int)))])] (NL (aB.np (BX (aq.region (jK 2 [49] [(0,wJ ((k:Int)+1) (↑(k+1)))] (NL (aB.gG [(3,.aD b7 [vI ((fT S (nd ns k)).X.cN),vI ((fT S (nd ns k)).X.cB),vI ((fT S (nd ns k)).X.cH),vI ((fT S (nd ns k)).X.cS),vI ((fT S (nd ns k)).X.cZ),.map (some m3),vP t4,vI ((fT S (nd ns k)).X.last),vI ((fT S (nd ns k)).X.ah),vI ((fT S (nd ns k)).X.used)] 135),(4,.abs (bM Tryz.prog 3 m3 (cT (cV L2 (fT S (nd ns k)).ar)) ((fT S (nd ns k)).ar.length))),(5,.abs (gj 182 t4 (fT S (nd ns k)).X.cH (fT S (nd ns k)).aJ (cV L2 (fT S (nd ns k)).us)))] (λw hS=>by rw [show (fT S (nd ns k)).ar.length=S.ar.length+1 from lu _ _ _];exact hS) (tJ ((k+1),(fT S (nd ns k)),L2) [2,3,4,5,1,0,6,7] (⟨zc,EM hok (λi hi=>(hd i hi).1) zc hB⟩)))))))))))))))))))
  refine SR (jK 2 [92] [] (NN (cP (((nd ns k).kind:Int)=(3:Int)) (λhk3=>?_) (λhk3=>?_))))
  ·refine rM (List.range 13) 10 [1,8,9] (jR 10 [2,6,8,47,48,49,97,99,103] [(3,a_ 0 b7),(5,a_ 1 b8),(6,A_ 2 b9 9),(8,a_ 1 b8)] (mN [1,8,9] (λb13=>[(104,vP b13)]) (λ_=>[]) (λb13=>.aD b13 [vI ((nd ns k).id),vI ((nd ns k).mode),vI ((nd ns k).bg),vI ((nd ns k).bh),vI ((nd ns k).aU),vI ((nd ns k).aI),vI 0,vI 0,.bool false,.string (nd ns k).target] 143) (λb13=>nC [1,8,9] [105] [] [] (ck.last rfl rfl ?_))))
   obtain⟨L2,fS⟩:∃L2:HL,L2=L.put (jU (nd ns k)) b13 0 none 0:=⟨_,rfl⟩
   have hfr:=hB.fresh hok zc
   refine av.mem (λw hS=>hS.Bo fS hfr (o:=(vQ (nd ns k))) (i:=4) (j:=10) (ix:=[0,1,2,3,5,6,7,8,9]) rfl rfl KB rfl (by show (nd ns k).kind≠0;rw [hk3];decide) ((Et (L:=L2) (k:=(jU (nd ns k))) (o:=(vQ (nd ns k))) hk3).trans agS) (by show sE (nd ns k).kind=_;rw [hk3]<;>rfl)) (av.gG [(6,.abs (aY (gq ((fT S (nd ns k)).O) L2)))] (λw hS=>hS.CG fS hfr (o:=(vQ (nd ns k))) (i:=6) rfl (by show ¬(nd ns k).kind=2;rw [hk3];decide)) (av.gG [(5,.abs (aY (dS ((fT S (nd ns k)).O) L2)))] (λw hS=>hS.Jb fS (o:=(vQ (nd ns k))) (i:=5) rfl (by show ¬(nd ns k).kind=1;rw [hk3];decide)) (av.gG [(3,.abs (bM Tryz.prog 3 m3 (cT (cV L2 S.ar)) S.ar.length)),(4,.abs (gj 182 t4 S.X.cH S.aJ (cV L2 S.us)))] (λw hS=>by rw [lW fS hfr.ar,lW fS hfr.us];exact hS) ?_)))
   have Qf:iw L2 (uX (nd ns k))=.iface 141 (vP b13):=by unfold uX;rw [uS fS,hk3];rfl
   exact av.qO 3 (d:=none) (t:=129) (K:=3) (E:=133) (b:=m3) (n:=S.ar.length) (f:=(cT (cV L2 S.ar))) (x:=(.tmp 97)) (ix:=(.tmp 99)) (y:=(.tmp 105)) (key:=vI ((nd ns k).id)) (u:=.iface 141 (vP b13)) (kl:=(.int .i64 (nd ns k).id)) (n':=(S.ar.length+1)) (f':=(cT (cV L2 (ins (nd ns k).id (uX (nd ns k)) S.ar)))) (λ_=>KB) KB (λ_=>KB) (λ_=>KB) (λ_=>KB) iU Tryz.underlying129 (by unfold maxLen;omega) (mA wH) (by rw [j4,hni];rfl) (by rw [←Qf];exact zn hni) (NL (aB.np (BX (SR (jC 6 [] [(2,a_ 8 b8),(5,a_ 2 b7)] [(2,[(7,vI ((nd ns k).id))])] (NN (rM (List.range 11) 10 [2,8] (jR 10 [2,6,47,48,49,118,120] [(3,a_ 0 b7),(5,a_ 1 b8),(7,wJ (S.X.used+(((nd ns k).data.length:Nat):Int)) (S.X.used+(((nd ns k).data.length:Nat):Int)))] (ck.last rfl rfl (jC 1 [] [(0,a_ 2 b7)] [(2,[(9,vI (S.X.used+(((nd ns k).data.length:Nat):Int)))])] (NL (aB.np (BX (aq.region (jK 2 [49] [(0,wJ ((k:Int)+1) (↑(k+1)))] (NL (aB.gG [(2,.aD b7 [vI ((fT S (nd ns k)).X.cN),vI ((fT S (nd ns k)).X.cB),vI ((fT S (nd ns k)).X.cH),vI ((fT S (nd ns k)).X.cS),vI ((fT S (nd ns k)).X.cZ),.map (some m3),vP t4,vI ((fT S (nd ns k)).X.last),vI ((fT S (nd ns k)).X.ah),vI ((fT S (nd ns k)).X.used)] 135),(3,.abs (bM Tryz.prog 3 m3 (cT (cV L2 (fT S (nd ns k)).ar)) ((fT S (nd ns k)).ar.length))),(4,.abs (gj 182 t4 (fT S (nd ns k)).X.cH (fT S (nd ns k)).aJ (cV L2 (fT S (nd ns k)).us)))] (λw hS=>by rw [show (fT S (nd ns k)).ar.length=S.ar.length+1 from lu _ _ _];exact hS) (tJ ((k+1),(fT S (nd ns k)),L2) [1,2,3,4,0,5,6,7] (⟨zc,EM hok (λi hi=>(hd i hi).1) zc hB⟩)))))))))))))))))))
  have tf:(nd ns k).kind=2:=zc
  refine rM (List.range 12) 7 [1,8,9] (jR 7 [2,6,8,47,48,49,69,71,72] [(3,a_ 0 b7),(5,a_ 1 b8),(6,A_ 2 b9 9)] (ck.cut (ι:=Nat) (bU:=λ(m14:Nat)=>[(2,vP b1),(6,vP b7),(8,vP b8),(47,.slice A (ns.length) (c)),(48,vI ↑ns.length),(49,vI ↑k),(69,.map (some m3)),(71,vI ((nd ns k).id)),(72,.agg #[vI ((nd ns k).id),vI ((nd ns k).mode),vI ((nd ns k).bg),vI ((nd ns k).bh),vI ((nd ns k).aU),vI ((nd ns k).aI),vI 0,vI 0,.bool false]),(73,.map (some m14))]) (dI:=λ(m14:Nat)=>([SB b1 A ns c]++zl5 b7 m3 t4 S L R++[.aD b8 (iq Y k (nd ns k)) 95,zl3 b9 ns k,.abs (bM Tryz.prog 9 m14 (λ_=>none) 0)])) [1,8,9] rfl rfl ?_ rfl (λ_=>KB) ?_))
  ·exact av.tj (d:=(some 73)) (t:=145) (λ_=>KB) Tryz.prog rfl 9 (λm14=>NL (MD m14 [2,6,8,47,48,49,69,71,72,73] [0,1,2,3,4,5,6,7,8,9,10]))
  rintro m14
  refine nC [1,8,9] [74] [] [] (mN [1,8,9] (λb15=>[(75,vP b15)]) (λ_=>[]) (λb15=>.aD b15 [vI ((nd ns k).id),vI ((nd ns k).mode),vI ((nd ns k).bg),vI ((nd ns k).bh),vI ((nd ns k).aU),vI ((nd ns k).aI),vI 0,vI 0,.bool false,.map (some m14),.pointer none] 147) (λb15=>nC [1,8,9] [76] [] [] (ck.last rfl rfl ?_)))
  obtain⟨L2,fS⟩:∃L2:HL,L2=L.put (jU (nd ns k)) b15 m14 none 0:=⟨_,rfl⟩
  have hfr:=hB.fresh hok zc
  refine av.mem (λw hS=>hS.Bo fS hfr (o:=(vQ (nd ns k))) (i:=4) (j:=11) (ix:=[0,1,2,3,5,6,7,8,9,10]) rfl rfl KB rfl (by show (nd ns k).kind≠0;rw [tf];decide) ((rJ (L:=L2) (k:=(jU (nd ns k))) (o:=(vQ (nd ns k))) tf).trans (by rw [Oq fS];rfl)) (by show sE (nd ns k).kind=_;rw [tf]<;>rfl)) (av.mem (λw hS=>hS.aaO fS hfr (o:=(vQ (nd ns k))) (i:=6) (j:=10) (ix:=[0,1,2,3,4,5,7,8,9]) rfl rfl KB rfl tf rfl) (av.gG [(6,.abs (aY (dS ((fT S (nd ns k)).O) L2)))] (λw hS=>hS.Jb fS (o:=(vQ (nd ns k))) (i:=6) rfl (by show ¬(nd ns k).kind=1;rw [tf];decide)) (av.gG [(4,.abs (bM Tryz.prog 3 m3 (cT (cV L2 S.ar)) S.ar.length)),(5,.abs (gj 182 t4 S.X.cH S.aJ (cV L2 S.us)))] (λw hS=>by rw [lW fS hfr.ar,lW fS hfr.us];exact hS) ?_)))
  have Qf:iw L2 (uX (nd ns k))=.iface 144 (vP b15):=by unfold uX;rw [uS fS,tf];rfl
  exact av.qO 4 (d:=none) (t:=129) (K:=3) (E:=133) (b:=m3) (n:=S.ar.length) (f:=(cT (cV L2 S.ar))) (x:=(.tmp 69)) (ix:=(.tmp 71)) (y:=(.tmp 76)) (key:=vI ((nd ns k).id)) (u:=.iface 144 (vP b15)) (kl:=(.int .i64 (nd ns k).id)) (n':=(S.ar.length+1)) (f':=(cT (cV L2 (ins (nd ns k).id (uX (nd ns k)) S.ar)))) (λ_=>KB) KB (λ_=>KB) (λ_=>KB) (λ_=>KB) iU Tryz.underlying129 (by unfold maxLen;omega) (mA wH) (by rw [j4,hni];rfl) (by rw [←Qf];exact zn hni) (NL (aB.np (BX (SR (jC 6 [] [(2,a_ 8 b8),(5,a_ 3 b7)] [(3,[(7,vI ((nd ns k).id))])] (NN (rM (List.range 11) 10 [3,8] (jR 10 [2,6,47,48,49,118,120] [(3,a_ 0 b7),(5,a_ 1 b8),(7,wJ (S.X.used+(((nd ns k).data.length:Nat):Int)) (S.X.used+(((nd ns k).data.length:Nat):Int)))] (ck.last rfl rfl (jC 1 [] [(0,a_ 3 b7)] [(3,[(9,vI (S.X.used+(((nd ns k).data.length:Nat):Int)))])] (NL (aB.np (BX (aq.region (jK 2 [49] [(0,wJ ((k:Int)+1) (↑(k+1)))] (NL (aB.gG [(3,.aD b7 [vI ((fT S (nd ns k)).X.cN),vI ((fT S (nd ns k)).X.cB),vI ((fT S (nd ns k)).X.cH),vI ((fT S (nd ns k)).X.cS),vI ((fT S (nd ns k)).X.cZ),.map (some m3),vP t4,vI ((fT S (nd ns k)).X.last),vI ((fT S (nd ns k)).X.ah),vI ((fT S (nd ns k)).X.used)] 135),(4,.abs (bM Tryz.prog 3 m3 (cT (cV L2 (fT S (nd ns k)).ar)) ((fT S (nd ns k)).ar.length))),(5,.abs (gj 182 t4 (fT S (nd ns k)).X.cH (fT S (nd ns k)).aJ (cV L2 (fT S (nd ns k)).us)))] (λw hS=>by rw [show (fT S (nd ns k)).ar.length=S.ar.length+1 from lu _ _ _];exact hS) (tJ ((k+1),(fT S (nd ns k)),L2) [2,3,4,5,1,6,0,7] (⟨zc,EM hok (λi hi=>(hd i hi).1) zc hB⟩)))))))))))))))))))
 refine XX (SQ (jK 4 [123,124,125] [(1,a_ 0 b1)] (NN (aq.block (lJ (λ(i,S1)=>(i<=ns.length)/\(kP X ns i 0 S1)) (λ(i,S1)=>ns.length-i) (λ(i,S1)=>[(6,vP b7),(123,.slice A (ns.length) (c)),(124,vI ↑ns.length),(125,vI ↑i)]) (λ(i,S1)=>([SB b1 A ns c]++zl5 b7 m3 t4 S1 L R)) (0,S) [0,1,2,3,4,5,6,7] (⟨ag0 _,by have h:=hB;rw [show k=ns.length by omega] at h;exact h.ah⟩) ?_)))))
 rintro⟨i,S1⟩ ⟨hi,hE⟩
 refine SR (jK 1 [126] [] (NN (aq.seq (cP ((((i:Nat):Int):Int)<(((ns.length:Nat):Int):Int)) (λaf4=>KX (aq.seq (aq.block (SR (jN 4 [11] (λb16=>[(0,x_ i ns.length (aP.hd hG (i:=i) zc)),(1,DR (iq Y i (nd ns i)) (λ_ _ h=>aP.rd hG zc h)),(3,A_ 8 b16 10)]) (λ_=>[]) (λb16=>.aD b16 (iq Y i (nd ns i)) 95) (λb16=>NS (jK 4 [130,131,132] [(1,a_ 8 b16)] (NN (aq.block (lJ (λ(j,S2)=>(j<=(nd ns i).ah.length)/\(kP X ns i j S2)) (λ(j,S2)=>(nd ns i).ah.length-j) (λ(j,S2)=>[(6,vP b7),(11,vP b16),(123,.slice A (ns.length) (c)),(124,vI ↑ns.length),(125,vI ↑i),(130,.slice (Y.eA i) ((nd ns i).ah.length) ((Y.eC i))),(131,vI ↑((nd ns i).ah.length)),(132,vI ↑j)]) (λ(j,S2)=>([.aD b16 (iq Y i (nd ns i)) 95,SB b1 A ns c]++zl5 b7 m3 t4 S2 L R)) (0,S1) [8,0,1,2,3,4,5,6,7] (⟨ag0 _,hE⟩) ?_)))))))))) (λaf4=>XX (zR (.inr (.inr ⟨hcap,hok,S1,b7,m3,t4,L,Pe,rfl,rfl⟩)) [1,2,3,4,5,6,7]))))))
 rintro⟨j,S2⟩ ⟨hj,xD⟩
 refine SR (jK 1 [133] [] (NN (aq.seq (cP ((((j:Nat):Int):Int)<((((nd ns i).ah.length:Nat):Int):Int)) (λaf5=>?_) (λaf5=>XX (aq.region (jK 2 [125] [(0,wJ ((i:Int)+1) (↑(i+1)))] (NL (tJ ((i+1),S2) [1,2,3,4,5,6,7,8] (⟨zc,by have h:=xD;rw [show j=(nd ns i).ah.length by omega] at h;exact h.next⟩))))))))))
 have hj2:j<(nd ns i).ah.length:=zc
 have hi2:i<ns.length:=zc
 have af6:=xD.get hi2
 obtain⟨hes,iP,hk2⟩:=xD.look hok hi2 hj2
 have hti:=Ap hok hi2 hj2
 have hgi:aF.get S2.ar (nd ns i).id=some ⟨(jU (nd ns i)),2⟩:=by rw [af6];unfold uX;rw [hk2]
 have hge:aF.get S2.ar (bS ns i j).id=some (qH ns (bS ns i j)):=by rw [←hti.2];exact xD.get hti.1
 have yC:=hok.ids i hi2
 have hiw:(Lit.int .i64 (nd ns i).id).wf=true:=WalkArith.wf_i64 zc
 have hew:(Lit.int .i64 (bS ns i j).id).wf=true:=WalkArith.wf_i64 (by have:=hwf i hi2 j hj2;omega)
 have hld:=xD.live hok hi2
 have fU:=xD.live hok hti.1
 have dQ:(af S2.O (jU (nd ns i))).kind=2:=(xD.inv.kind hld).trans hk2
 have bC:(af S2.O (qH ns (bS ns i j)).k).kind=(qH ns (bS ns i j)).kind:=xD.inv.kind fU
 have h3:(qH ns (bS ns i j)).kind=1\/(qH ns (bS ns i j)).kind=2\/(qH ns (bS ns i j)).kind=3:=(xD.inv.ob _ fU).2.2
 have hlb:0<=(af S2.O (qH ns (bS ns i j)).k).aV/\(af S2.O (qH ns (bS ns i j)).k).aV<=8192:=xD.inv.lb fU
 have hel:(af S2.O (jU (nd ns i))).ah.length<=8192:=xD.inv.lF hld
 have eT:=hnm i hi2 j hj2
 have hde:=hd i hi2
 have L5:=xD.inv.hX
 exact KX (aq.seq (aq.block (SR (jN 4 [13] (λb17=>[(0,x_ j ((nd ns i).ah.length) (cU.hd (hG.ah i zc) (i:=j) zc)),(1,r2 (cU.rd (hG.ah i zc) (i:=j) zc (j:=0) rfl) (cU.rd (hG.ah i zc) (i:=j) zc (j:=1) rfl)),(3,A_ 9 b17 2)]) (λ_=>[]) (λb17=>.aD b17 [.string (en (nd ns i).ah j).name,vI ((en (nd ns i).ah j).id)] 149) (λb17=>NN (aq.seq (rM (List.range 18) 17 [2,3,0,9] (jR 6 [6,11,13,123,124,125,130,131,132,139,141] [(3,a_ 0 b7),(5,a_ 2 b16)] (ck.je 1 (d:=(some 142)) (t:=129) (K:=3) (E:=133) (b:=m3) (cnt:=S2.ar.length) (f:=(cT (cV L S2.ar))) (x:=(.tmp 139)) (ix:=(.tmp 141)) (key:=vI ((nd ns i).id)) (z:=.nilIface) (kl:=(.int .i64 (nd ns i).id)) (q:=(some (iw L ⟨(jU (nd ns i)),2⟩))) KB KB (λ_=>KB) (λ_=>KB) iU Tryz.underlying129 (λ_=>KB) (mA hiw) (by rw [j4,hgi];rfl) KB (jR 9 [6,11,123,124,125,130,131,132,143,145,149,151] [(2,a_ 3 b17),(6,a_ 0 b7),(8,a_ 3 b17)] (ck.je 1 (d:=(some 152)) (t:=129) (K:=3) (E:=133) (b:=m3) (cnt:=S2.ar.length) (f:=(cT (cV L S2.ar))) (x:=(.tmp 149)) (ix:=(.tmp 151)) (key:=vI ((en (nd ns i).ah j).id)) (z:=.nilIface) (kl:=(.int .i64 (bS ns i j).id)) (q:=(some (iw L (qH ns (bS ns i j))))) KB KB (λ_=>KB) (λ_=>KB) iU Tryz.underlying129 (λ_=>KB) (mA hew) (by rw [j4,hge];rfl) KB (ck.last rfl rfl (gE [5,7] (Sn S2.O L (jU (nd ns i)) dQ (bS ns i j).name eT iP zc (qH ns (bS ns i j)) bC h3 zc) (NL (aB.np (NX (aq.region (jC 8 [] [(3,a_ 4 b7),(4,wJ (S2.X.ah+1) (S2.X.ah+1)),(7,a_ 4 b7)] [(4,[(8,vI (S2.X.ah+1))])] (LX (aq.region (jK 2 [132] [(0,wJ ((j:Int)+1) (↑(j+1)))] (NL (aB.gG [(0,.abs (aY (eM ((rR ns S2 (nd ns i) (bS ns i j)).O) L))),(1,.abs (aY (gq ((rR ns S2 (nd ns i) (bS ns i j)).O) L))),(4,.aD b7 [vI ((rR ns S2 (nd ns i) (bS ns i j)).X.cN),vI ((rR ns S2 (nd ns i) (bS ns i j)).X.cB),vI ((rR ns S2 (nd ns i) (bS ns i j)).X.cH),vI ((rR ns S2 (nd ns i) (bS ns i j)).X.cS),vI ((rR ns S2 (nd ns i) (bS ns i j)).X.cZ),.map (some m3),vP t4,vI ((rR ns S2 (nd ns i) (bS ns i j)).X.last),vI ((rR ns S2 (nd ns i) (bS ns i j)).X.ah),vI ((rR ns S2 (nd ns i) (bS ns i j)).X.used)] 135),(5,.abs (bM Tryz.prog 3 m3 (cT (cV L (rR ns S2 (nd ns i) (bS ns i j)).ar)) ((rR ns S2 (nd ns i) (bS ns i j)).ar.length))),(6,.abs (gj 182 t4 (rR ns S2 (nd ns i) (bS ns i j)).X.cH (rR ns S2 (nd ns i) (bS ns i j)).aJ (cV L (rR ns S2 (nd ns i) (bS ns i j)).us))),(7,.abs (aY (dS ((rR ns S2 (nd ns i) (bS ns i j)).O) L)))] (λw hS=>by rw [show dS (rR ns S2 (nd ns i) (bS ns i j)).O L=dS S2.O L from ab3];exact hS) (tJ ((j+1),(rR ns S2 (nd ns i) (bS ns i j))) [2,3,4,5,6,0,7,1,8] (⟨zc,xD.step hok zc zc⟩)))))))))))))))))))))))))
end
section
open Go.RowKit Go.Maps bK aF
theorem aae {b:UInt8} (h0:¬b=0) (h1:¬b=47) (h2:¬b=46):cq ⟨#[b]⟩:=by
 refine⟨ag5 _,(by show 1<=255;decide),λe=>h2 ?_,λe=>?_,λj hj=>?_⟩
 ·grind
 ·grind
 have:j=0:=by have hj:j<1:=hj;omega
 subst this
 show ¬b.toNat=0/\¬b.toNat=47
 exact⟨λe=>h0 (ahz.1 e),λe=>h1 (ahz.1 e)⟩
theorem Mv:fZ 0 0:=⟨Pd,Pd,Pd,Pd,Pd⟩
def Qg (room:Int):FM:=⟨9,room,9,0,0,0,0,0⟩
theorem acu {room:Int} (h:0<=room/\room<=1099511627776):kK (Qg room):=⟨by show (0:Int)<=9/\(9:Int)<=4096;decide,h,by show (0:Int)<=9/\(9:Int)<=1024;decide,Mv⟩
section ops
variable {S:bB} {c:aN} {t:Th} {d:Nat}
theorem aaf {O:d9} {us:bE Th} {h:Int} {name:ByteArray} {dZ:Int} (h1:aF.get us h=some t) (h2:t.kind=2) (h3:(af O t.k).aG=false) (h4:cq name) (h5:bits BinOp.and .i64 (af O t.k).mode dZ=dZ):iJ O us h name dZ=.ok t.k:=by
 grind [iJ]
theorem acv (bZ:c.op=1) (h1:aF.get S.ar c.other=some t) (h2:t.kind=2) (h3:(S.us.length:Int)<S.X.cH):gF S c=({S with O:=aZ S.O t.k (λo=>{o with aK:=o.aK+1}),us:=ins (aS S.us) t S.us,aJ:=max S.aJ ((S.us.length:Int)+1)},{c with answer:=aS S.us,code:=0}):=by
 grind [gF,y8,kU,om]
theorem aag (bZ:c.op=4) (ha:iJ S.O S.us c.aL c.name 192=.ok d) (hm:jS c.mode) (hl:bL c.name (af S.O d).ah=none) (hr:Room S.X S.ar):gF S c=(gn S d c.name (cR S.X 2 c.mode),{c with answer:=0,code:=0}):=by
 grind [gF,y9,ja,mF,gu]
end ops
structure agR (room:Int) (S:bB):Prop where
 inv:bR S
 ar:S.ar=[(1,⟨1,2⟩),(2,⟨2,1⟩)]
 us:S.us=[]
 X:S.X=⟨9,room,9,0,0,2,1,0⟩
 o1:∃l u,af S.O 1=⟨1,493,0,0,0,0,l,0,false,2,[],⟨#[]⟩,[(⟨#[102]⟩,⟨2,1⟩)],u⟩
 o2:∃u,af S.O 2=⟨2,420,0,0,0,0,1,0,false,1,[],⟨#[]⟩,[],u⟩
theorem aef:cq ⟨#[100]⟩:=aae Pd Pd Pd
theorem aeg:bits BinOp.and .i64 493 192=192:=KB
section chain
variable {room:Int} {S:bB}
def S1 (S:bB):bB:={S with O:=aZ S.O 1 (λo=>{o with aK:=o.aK+1}),us:=[(1,⟨1,2⟩)],aJ:=max S.aJ 1}
theorem af7:af (S1 S).O 1={af S.O 1 with aK:=(af S.O 1).aK+1}:=rfl
structure WrS (room:Int) (ds:List UInt8) (S:bB):Prop where
 inv:bR S
 ar:S.ar=[(1,⟨1,2⟩),(2,⟨2,1⟩)]
 us:S.us=[(1,⟨1,2⟩),(2,⟨2,1⟩)]
 X:S.X=⟨9,room,9,0,0,2,1,ds.length⟩
 o1:∃l n u,af S.O 1=⟨1,493,0,0,0,0,l,n,false,2,[],⟨#[]⟩,[(⟨#[102]⟩,⟨2,1⟩)],u⟩
 o2:∃u,af S.O 2=⟨2,420,0,0,0,0,1,1,false,1,ds,⟨#[]⟩,[],u⟩
structure UnS (ds:List UInt8) (S:bB):Prop where
 inv:bR S
 ar:S.ar=[(1,⟨1,2⟩),(2,⟨2,1⟩)]
 us:S.us=[(1,⟨1,2⟩),(2,⟨2,1⟩)]
 used:S.X.used=ds.length
 o2:∃s z u,af S.O 2=⟨2,420,0,0,s,z,0,1,true,1,ds,⟨#[]⟩,[],u⟩
end chain
end
section
open Go.RowKit Go.Maps bK aF
attribute [local irreducible] av bN aq aB
theorem J1 {β:Bs} (A:Option Addr) (c:Nat) (d:List UInt8) (hA:bF β A d) (hl:d.length<=1048576) :
 aW Tryz.prog β 25 #[.slice A d.length c] [] (λv l=>∃B cap,v=.slice B d.length cap/\l=[.abs (aH 5 1 B d.length cap (dR d))]):=by
 exact SE Tryz.func25 Tryz.ntmps25 (λR=>SR (jK 1 [] [] (NS (jB 2 [3] (λb1=>.aD b1 [] 5) (λb1=>NS (av.mem (λw hS=>hS.ou (i:=1) (b:=b1) (cs:=[]) (e:=5) 1 0 KB rfl Pd) (jK 2 [5,6] [] (Ri 1 51 A d.length c (dR d) rfl (hA.src) (λA2 c3=>av.cL 1 rfl (by rw [ahd,List.nil_append]) (sl 7 (.slice A2 (0+d.length) (c3)) (.slice A2 (d.length) (c3)) (by rw [ahd]) (jK 1 [3] [] (NS (jK 2 [2] [] (eN ⟨A2,c3,rfl,rfl⟩ [1,0])))))) (hl:=by rw [tu,Nat.mul_one]) (h1:=pZ d)))))))))
end
section
open Go.RowKit Go.Maps bK aF
theorem aW.UB {P:Program} {β:Bs} {f:FuncId} {args:Array Value} {pre:List HP} {post:Value->List HP->Prop} {Ψ:Bs->Value->List HP->Prop} (h:aW P β f args pre post) (Rf:∀v l,post v l->∃l1 l2,l=l1++l2/\∀β',pW β l2 β'->Ψ β' v l1):cE P β f args pre Ψ:=by
 intro A w hS
 refine (h A w hS).mono ?_
 rintro e w' ⟨v,l,h1,h2,h3⟩
 obtain⟨l1,l2,rfl,hl⟩:=Rf v l h2
 have h4:aR β (([.abs A]++l1)++l2) w':=by rw [ahp];exact aR.turn h3
 obtain⟨β',g1,_,g3⟩:=h4.wg
 exact⟨β',v,l1,g1.le,h1,hl β' g1,aR.turn g3⟩
section c
variable {β:Bs} {S S2:bB} {L:HL} {f m t:Nat} {c c2:aN}
theorem MQ (A:Option Addr) (cp:Nat) (d:List UInt8) (hA:bF β A d) (hl:d.length<=1048576):cE Tryz.prog β 25 #[.slice A d.length cp] [] (λβ' v l=>∃B cap,v=.slice B d.length cap/\l=[]/\bF β' B d/\d.length<=cap):=
 (J1 A cp d hA hl).UB (by
  rintro v l ⟨B,cap,rfl,rfl⟩
  refine⟨[],_,rfl,λβ' h=>⟨B,cap,rfl,rfl,h.bytes,?_⟩⟩
  obtain⟨F,h1,_⟩:=h.get 0 rfl
  exact (aH.len h1).2)
end c
end
section
open Go.RowKit bK aF Go.Maps
theorem aW.Yh {P:Program} {β:Bs} {f:FuncId} {args:Array Value} {pre R:List HP} {post:Value->List HP->Prop} (h:∀β':Bs,pW β R β'->aW P β' f args pre post):aW P β f args (pre++R) (λv l=>∃l0,post v l0/\l=l0++R):=by
 intro A w hS
 have h1:=aR.turn hS
 rw [←ahp] at h1
 obtain⟨β',g1,_,g3⟩:=h1.wg
 refine (h β' g1 A w (aR.turn g3)).mono ?_
 rintro e w' ⟨v,l,h1,h2,h3⟩
 refine⟨v,l++R,h1,⟨l,h2,rfl⟩,?_⟩
 have h4:=g1.back (aR.turn h3)
 rw [ahp] at h4
 exact aR.turn h4
theorem MR {β:Bs} (A B:Option Addr) (c c':Nat) (ns ms:List aO) (L K:eV) (hH:aP β B ms K) (hl:ns.length<=1048576) (hd:∀i,i<ns.length->(nd ns i).data.length<=140737488355328/\(nd ns i).ah.length<=1048576) {b:Bool} (hb:decide (ns=ms)=b) :
 aW Tryz.prog β 39 #[.agg #[.slice A ns.length c],.agg #[.slice B ms.length c']] (KF A c ns L) (λv l=>v=.bool b/\l=KF A c ns L):=
 (aW.Yh (pre:=[]) (λ_ g=>Nu A B c c' ns ms L K g.graph (hH.le g.le) hl hd)).mono (by rintro v l ⟨l0,⟨rfl,rfl⟩,rfl⟩;exact⟨agX Value.bool hb,rfl⟩)
theorem Qh {β:Bs} (t:Nat) (most aJ:Int) (L:HL) (us:bE Th) :
 aW Tryz.prog β 88 #[.pointer (some ⟨t,0,none⟩)] [.abs (gj 182 t most aJ (cV L us))] (λv l=>∃A c,v=.slice A us.length c/\l=[.abs (gj 182 t most aJ (cV L us)),.abs (aH 3 1 A us.length c (bH (bn us)))]):=by
 have h:=Oi (β:=β) t most aJ (cV L us)
 have e:bn (cV L us)=bn us:=keys_map (iw L) us
 grind [bn]
theorem aah {S:bB} (h:Inv0 S):∀i,i<(aX S).length->(nd (aX S) i).data.length<=140737488355328/\(nd (aX S) i).ah.length<=1048576:=λi hi=>by
 rw [ia] at hi
 have h1:(af S.O (jl S i).k).data.length<=bytes S.ar S.O:=sD (g:=λp:Int×Th=>(af S.O p.2.k).data.length) (get_at h hi)
 have h2:(af S.O (jl S i).k).ah.length<=tot S.ar S.O:=sD (g:=λp:Int×Th=>(af S.O p.2.k).ah.length) (get_at h hi)
 have h3:=h.used
 have h4:=h.total
 rw [pu hi]
 refine⟨by show (af S.O (jl S i).k).data.length<=_;omega,?_⟩
 show ((af S.O (jl S i).k).ah.map _).length<=_
 rw [ahf]
 omega
theorem yE {β:Bs} (A:Option Addr) (c:Nat) (ns:List aO) (L:eV) (hG:aP β A ns L) (hl:ns.length<=1048576) (hd:∀i,i<ns.length->(nd ns i).data.length<=1048576/\(nd ns i).ah.length<=1048576) :
 aW Tryz.prog β 19 #[.agg #[.slice A ns.length c]] [] (λv l=>∃B cap,v=.agg #[.slice B ns.length cap]/\l=[.abs (ko β (λβ'=>∃K,aP β' B ns K))]):=
 (cE.Jr (ι:=Option Addr×Nat) (vv:=λx=>.agg #[.slice x.1 ns.length x.2]) (ll:=λ_=>[]) (Φ:=λx β'=>∃K,aP β' x.1 ns K)
  ((Nt A c ns L hG hl hd).mono (by rintro β' v l _ ⟨B,cap,K,rfl,rfl,h⟩;exact⟨(B,cap),rfl,rfl,K,h⟩))).mono (by rintro v l ⟨⟨B,cap⟩,rfl,rfl⟩;exact⟨B,cap,rfl,rfl⟩)
end
section
open Go.RowKit Go.Maps bK aF
attribute [local irreducible] av bN aq aB
theorem Xr {β:Bs} (S:bB) (L:HL) (f m t:Nat):aW Tryz.prog β 59 #[vP f] [pF f m t S.X,pT t S.X.cH S.aJ L S.us] (λv l=>∃A c,v=.slice A S.us.length c/\l=[pF f m t S.X,pT t S.X.cH S.aJ L S.us,.abs (aH 3 1 A S.us.length c (bH (bn S.us)))]):=by
 refine SE Tryz.func59 Tryz.ntmps59 (λR=>SR (jK 1 [] [] (NS (jK 4 [6] [(3,a_ 0 f)] (gL [1] (Qh t S.X.cH S.aJ L S.us) ?_)))))
 rintro _ _ ⟨A,c,rfl,rfl⟩
 exact jK 1 [2] [] (eN ⟨A,c,rfl,rfl⟩ [2,0,1,3])
theorem aai {β:Bs} (S:bB) (L:HL) (f m t:Nat):aW Tryz.prog β 60 #[vP f] [pF f m t S.X,pT t S.X.cH S.aJ L S.us] (λv l=>v=vI S.aJ/\l=[pF f m t S.X,pT t S.X.cH S.aJ L S.us]):=by
 exact SE Tryz.func60 Tryz.ntmps60 (λR=>SR (jK 1 [] [] (NS (jK 4 [6] [(3,a_ 0 f)] (gE [1] (Vt t S.X.cH S.aJ (cV L S.us)) (jK 1 [2] [] (eN ⟨rfl,rfl⟩ [1,0,2])))))))
theorem Xs {β:Bs} (most:Int) (h:0<=most/\most<=1024):aW Tryz.prog β 53 #[vI most] [] (λv l=>v=.agg #[vI most,vI 0,.slice none 0 0,.slice none 0 0]/\l=[]):=by
 exact SE Tryz.func53 Tryz.ntmps53 (λR=>SR (jB 1 [2] (λb1=>.aD b1 [vI 0,vI 0,.slice none (0) (0),.slice none (0) (0)] 43) (λb1=>NZ (jK 2 [4] [] (NN (cP ((most:Int)<(0:Int)) (λh4=>agY h4 (by omega)) (λh4=>KX (SQ (jK 2 [6] [] (NN (cP ((most:Int)>(1024:Int)) (λh6=>agY h6 (by omega)) (λh6=>KX (SR (jC 3 [] [(2,A_ 1 b1 4)] [(1,[(0,vI (most))])] (eS [A_ 1 b1 4] ⟨rfl,rfl⟩)))))))))))))))
end
section
open Go.RowKit Go.Maps bK aF
attribute [local irreducible] av bN aq aB oo
theorem SD {β:Bs} (A:Option Addr) (c:Nat) (ns:List aO) (Y:eV) (hG:aP β A ns Y) (hl:ns.length<=1048576) (hd:∀i,i<ns.length->(nd ns i).data.length<=1048576/\(nd ns i).ah.length<=1048576) (hwf:∀i,i<ns.length->∀j,j<(nd ns i).ah.length->-9223372036854775808<=(bS ns i j).id/\(bS ns i j).id<=9223372036854775807) (hnm:∀i,i<ns.length->∀j,j<(nd ns i).ah.length->(bS ns i j).name.size<=1048576) (ht:∀i,i<ns.length->(nd ns i).target.size<=1048576) (X:FM) :
 cE Tryz.prog β 31 #[.agg #[.slice A (ns.length) (c)],.agg #[vI (X.cN),vI (X.cB),vI (X.cH),vI (X.cS),vI (X.cZ)]] [] (λβ' v l=>(¬kK X/\v=.tuple #[.agg ⟨rZ⟩,vI 179]/\l=[])\/(kK X/\¬cA ns/\v=.tuple #[.agg ⟨rZ⟩,vI 140]/\l=[])\/(kK X/\cA ns/\∃B cp K,v=.tuple #[.agg #[.slice B (ns.length) (cp),.slice none (0) (0),vI (X.cH),vI 0,.slice none (0) (0),.slice none (0) (0),vI (X.cN),vI (X.cB),vI (X.cH),vI (X.cS),vI (X.cZ),vI ((if ns.length=0 then 0 else (nd ns (ns.length-1)).id))],vI 0]/\l=[]/\aP β' B ns K)):=by
 refine oI Tryz.func31 Tryz.ntmps31 (λaE R=>SR (jB 1 [2] (λb1=>.aD b1 [.slice A (ns.length) (c)] 24) (λb1=>jB 1 [3] (λb2=>.aD b2 [vI (X.cN),vI (X.cB),vI (X.cH),vI (X.cS),vI (X.cZ)] 28) (λb2=>jB 2 [4] (λb3=>.aD b3 (rZ) 45) (λb3=>NZ (jK 4 [10] [(1,a_ 2 b2)] (sP 10 ((X.cN:Int)<(0:Int)) (λh10=>jK 30 [40] [] (NT (SR (jC 3 [5] [(1,A_ 3 b3 12)] [] (eO [A_ 3 b3 12] aE (.inl ⟨λh=>by first|(have:=h.cN;omega)|(have:=h.cB;omega)|(have:=h.cH;omega)|exact agY h.now (by assumption),rfl,rfl⟩)))))) (λh10=>jK 5 [15] [(1,a_ 2 b2)] (sP 15 ((X.cN:Int)>(4096:Int)) (λNA=>jK 25 [40] [] (NT (SR (jC 3 [5] [(1,A_ 3 b3 12)] [] (eO [A_ 3 b3 12] aE (.inl ⟨λh=>by first|(have:=h.cN;omega)|(have:=h.cB;omega)|(have:=h.cH;omega)|exact agY h.now (by assumption),rfl,rfl⟩)))))) (λNA=>jK 5 [20] [(1,a_ 2 b2)] (sP 20 ((X.cB:Int)<(0:Int)) (λo5=>jK 20 [40] [] (NT (SR (jC 3 [5] [(1,A_ 3 b3 12)] [] (eO [A_ 3 b3 12] aE (.inl ⟨λh=>by first|(have:=h.cN;omega)|(have:=h.cB;omega)|(have:=h.cH;omega)|exact agY h.now (by assumption),rfl,rfl⟩)))))) (λo5=>jK 5 [25] [(1,a_ 2 b2)] (sP 25 ((X.cB:Int)>(1099511627776:Int)) (λpR=>jK 15 [40] [] (NT (SR (jC 3 [5] [(1,A_ 3 b3 12)] [] (eO [A_ 3 b3 12] aE (.inl ⟨λh=>by first|(have:=h.cN;omega)|(have:=h.cB;omega)|(have:=h.cH;omega)|exact agY h.now (by assumption),rfl,rfl⟩)))))) (λpR=>jK 5 [30] [(1,a_ 2 b2)] (sP 30 ((X.cH:Int)<(0:Int)) (λnM=>jK 10 [40] [] (NT (SR (jC 3 [5] [(1,A_ 3 b3 12)] [] (eO [A_ 3 b3 12] aE (.inl ⟨λh=>by first|(have:=h.cN;omega)|(have:=h.cB;omega)|(have:=h.cH;omega)|exact agY h.now (by assumption),rfl,rfl⟩)))))) (λnM=>jK 5 [35] [(1,a_ 2 b2)] (sP 35 ((X.cH:Int)>(1024:Int)) (λnO=>jK 5 [40] [] (NT (SR (jC 3 [5] [(1,A_ 3 b3 12)] [] (eO [A_ 3 b3 12] aE (.inl ⟨λh=>by first|(have:=h.cN;omega)|(have:=h.cB;omega)|(have:=h.cH;omega)|exact agY h.now (by assumption),rfl,rfl⟩)))))) (λnO=>jK 2 [37] [(1,A_ 2 b2 2)] (gE [] (Cj X.cS X.cZ) (jK 2 [40] [] (NN (cN (fZ X.cS X.cZ) (λtZ=>SR (jC 3 [5] [(1,A_ 3 b3 12)] [] (eO [A_ 3 b3 12] aE (.inl ⟨λh=>by first|(have:=h.cN;omega)|(have:=h.cB;omega)|(have:=h.cH;omega)|exact agY h.now (by assumption),rfl,rfl⟩)))) (λtZ=>?_)))))))))))))))))))))))
 have hcap:kK X:=⟨⟨zc,zc⟩,⟨zc,zc⟩,⟨zc,zc⟩,tZ⟩
 refine KX (SQ (jK 1 [42] [(0,a_ 1 b1)] (gE [] (Qu A c ns Y hG hl hd hwf hnm ht) (jK 1 [44] [] (NN (cN (((if cA ns then 0 else 140):Int)=(0:Int)) (λyJ=>?_) (λyJ=>?_)))))))
 ·have hng:¬cA ns:=λh=>yJ (agW h)
  exact SR (jC 3 [5] [(1,A_ 3 b3 12)] [] (eO [A_ 3 b3 12] aE (.inr (.inl ⟨hcap,hng,rfl,rfl⟩))))
 have hok:cA ns:=ahk (λh=>Pe)
 refine KX (aq.seq (aq.qZ (S:=[.aD b1 [.slice A (ns.length) (c)] 24,.aD b2 [vI (X.cN),vI (X.cB),vI (X.cH),vI (X.cS),vI (X.cZ)] 28]) (yN [0,2,3,5] (oJ 7 [(false,8)] [(false,1),(false,4),(false,6)])) [1,2] (gT (oJ 7 [(false,8)] [(false,1),(false,4),(false,6)]) [(2,vP b1),(4,vP b3),(46,.agg #[.slice A (ns.length) (c)]),(49,vI (X.cH)),(51,.agg #[vI (X.cN),vI (X.cB),vI (X.cH),vI (X.cS),vI (X.cZ)])] [0,2,3,5] [(0,a_ 0 b1),(2,a_ 1 b2),(3,A_ 1 b2 5)] (oo.one (j:=7) (dj:=6) (R:=λf_ l_=>∃B:Option Addr,∃cp:Nat,f_=[(52,.agg #[.slice B (ns.length) (cp),.slice none (0) (0),vI (X.cH),vI 0,.slice none (0) (0),.slice none (0) (0),vI (X.cN),vI (X.cB),vI (X.cH),vI (X.cS),vI (X.cZ),vI 0]),(50,.agg #[vI (X.cH),vI 0,.slice none (0) (0),.slice none (0) (0)]),(47,.agg #[.slice B (ns.length) (cp)]),(2,vP b1),(4,vP b3),(46,.agg #[.slice A (ns.length) (c)]),(49,vI (X.cH)),(51,.agg #[vI (X.cN),vI (X.cB),vI (X.cH),vI (X.cS),vI (X.cZ)])]/\l_=[.abs (ko β (λβ'=>∃K,aP β' B ns K))]) [1,2] [(false,1,47),(false,4,50),(false,6,52)] (jm.of (ι:=Nat) (v:=λ(b4:Nat)=>vP b4) (l:=λ(b4:Nat)=>[.aD b4 (rZ) 45]) [47,50,52] rfl rfl rfl rfl ?_) ?_ ?_))))
 ·intro u Aq
  exact jB 1 [6] (λb4=>.aD b4 (rZ) 45) (λb4=>NL (MD b4 [6,47,50,52,2,4,46,49,51] [1,0]))
 ·refine ez.step (jm.of (ι:=(Option Addr)×Nat) (v:=λ((B,cp):(Option Addr)×Nat)=>.agg #[.slice B (ns.length) (cp)]) (l:=λ((B,cp):(Option Addr)×Nat)=>[.abs (ko β (λβ'=>∃K,aP β' B ns K))]) [6] rfl rfl rfl rfl ?_) ?_
  ·intro u Aq
   refine gL [] (yE (β:=β) A c ns Y hG hl hd) ?_
   rintro _ _ ⟨B,cp,rfl,rfl⟩
   exact NL (MD (B,cp) [47,6,2,4,46,49,51] [0,1])
  rintro _ _ ⟨⟨B,cp⟩,rfl,rfl⟩
  refine ez.step (jm.of (ι:=Unit) (v:=λ(_:Unit)=>.agg #[vI (X.cH),vI 0,.slice none (0) (0),.slice none (0) (0)]) (l:=λ(_:Unit)=>[.abs (ko β (λβ'=>∃K,aP β' B ns K))]) [6] rfl rfl rfl rfl ?_) ?_
  ·intro u Aq
   exact gE [] (Xs X.cH hcap.cH) (NL (MD () [50,6,47,2,4,46,49,51] [0,1]))
  rintro _ _ ⟨_,rfl,rfl⟩
  refine ez.step (jm.of (ι:=Unit) (v:=λ(_:Unit)=>.agg #[.slice B (ns.length) (cp),.slice none (0) (0),vI (X.cH),vI 0,.slice none (0) (0),.slice none (0) (0),vI (X.cN),vI (X.cB),vI (X.cH),vI (X.cS),vI (X.cZ),vI 0]) (l:=λ(_:Unit)=>[.abs (ko β (λβ'=>∃K,aP β' B ns K))]) [6] rfl rfl rfl rfl ?_) ?_
  ·intro u Aq
   exact jK 1 [52] [] (NL (MD () [52,6,50,47,2,4,46,49,51] [0,1]))
  rintro _ _ ⟨_,rfl,rfl⟩
  exact⟨B,cp,rfl,rfl⟩
 rintro _ _ ⟨B,cp,rfl,rfl⟩ _ _ ⟨b4,rfl,rfl⟩
 refine fN.last KB (jC 1 [] [(0,A_ 1 b4 12)] [(1,[(0,.slice B (ns.length) (cp)),(2,vI (X.cH)),(6,vI (X.cN)),(7,vI (X.cB)),(8,vI (X.cH)),(9,vI (X.cS)),(10,vI (X.cZ))])] (NL (aB.np (NX (SQ (av.uz 0 [1,2,3,4,5] (fe:=[.aD b4 [.slice B (ns.length) (cp),.slice none (0) (0),vI (X.cH),vI 0,.slice none (0) (0),.slice none (0) (0),vI (X.cN),vI (X.cB),vI (X.cH),vI (X.cS),vI (X.cZ),vI 0] 45,.abs R,.aD b1 [.slice A (ns.length) (c)] 24,.aD b2 [vI (X.cN),vI (X.cB),vI (X.cH),vI (X.cS),vI (X.cZ)] 28,.aD b3 (rZ) 45]) rfl rfl KB (λJO j6 ⟨K,hH⟩=>?_)))))))
 replace hG:=hG.le j6
 replace aE:=aE.trans j6
 exact jK 4 [56] [(1,a_ 2 b1)] (NN (cP ((((ns.length:Nat):Int):Int)>(0:Int)) (λh56=>aq.region (jC 11 [] [(1,a_ 2 b1),(3,a_ 2 b1),(5,wJ ((ns.length:Int)-1) (((ns.length:Nat):Int)-1)),(6,p_ ⟨[],some (ns.length-1),none,some ⟨(bw A),br A,none⟩,none⟩ [((ns.length:Nat):Int)-1=(((ns.length-1):Nat):Int),(ns.length-1)<ns.length,(⟨(bw A),br A,none⟩:Addr).spot=none,(A:Option Addr)=some ⟨(bw A),br A,none⟩] ⟨zc,zc,rfl,aP.hd hG (i:=(ns.length-1)) zc,trivial⟩),(8,r_ (aP.rd hG (i:=(ns.length-1)) zc (j:=0) rfl)),(10,a_ 0 b4)] [(0,[(11,vI ((nd ns (ns.length-1)).id))])] (NS (jC 3 [5] [(0,A_ 0 b4 12),(1,A_ 4 b3 12)] [(4,[(0,.slice B (ns.length) (cp)),(2,vI (X.cH)),(6,vI (X.cN)),(7,vI (X.cB)),(8,vI (X.cH)),(9,vI (X.cS)),(10,vI (X.cZ)),(11,vI ((nd ns (ns.length-1)).id))])] (eO [A_ 4 b3 12] aE (.inr (.inr ⟨hcap,hok,B,cp,K,by rw [agV zc],rfl,hH⟩)) [1]))))) (λh56=>KX (SR (jC 3 [5] [(0,A_ 0 b4 12),(1,A_ 4 b3 12)] [(4,[(0,.slice B (ns.length) (cp)),(2,vI (X.cH)),(6,vI (X.cN)),(7,vI (X.cB)),(8,vI (X.cH)),(9,vI (X.cS)),(10,vI (X.cZ))])] (eO [A_ 4 b3 12] aE (.inr (.inr ⟨hcap,hok,B,cp,K,by rw [agW zc],rfl,hH⟩)) [1]))))))
end
section
open Go.RowKit Go.Maps bK aF
noncomputable def Fh (X:FM):Int:=open Classical in if kK X then 140 else 179
theorem acw (X:FM):Fh X≠0:=by
 unfold Fh
 split<;>decide
def af8 (X:FM) (ns:List aO):Type:={S:bB // kP X ns ns.length 0 S}
section m
variable {β:Bs} {ns:List aO} {Y:eV} {X:FM}
theorem aaj (hcap:kK X) (hok:cA ns) (A:Option Addr) (c:Nat) (hG:aP β A ns Y) (hB:jZ ns 1048576) :
 cE Tryz.prog β 31 #[.agg #[.slice A ns.length c],.agg #[.int .i64 X.cN,.int .i64 X.cB,.int .i64 X.cH,.int .i64 X.cS,.int .i64 X.cZ]] [] (λβ' v l=>∃B cp K,v=.tuple #[.agg #[.slice B ns.length cp,.slice none 0 0,.int .i64 X.cH,.int .i64 0,.slice none 0 0,.slice none 0 0,.int .i64 X.cN,.int .i64 X.cB,.int .i64 X.cH,.int .i64 X.cS,.int .i64 X.cZ,.int .i64 (if ns.length=0 then 0 else (nd ns (ns.length-1)).id)],.int .i64 0]/\l=[]/\aP β' B ns K):=
 (SD A c ns Y hG (vw hB) (FE hB) (I0 hB) (I3 hB) (aaL hB) X).mono (by
  rintro β' v l _ (⟨h,_⟩|⟨_,h,_⟩|⟨_,_,h⟩)
  ·exact agY hcap h
  ·exact agY hok h
  exact h)
theorem aak (Fc:¬(kK X/\cA ns)) (A:Option Addr) (c:Nat) (hG:aP β A ns Y) (hB:jZ ns 1048576) :
 cE Tryz.prog β 31 #[.agg #[.slice A ns.length c],.agg #[.int .i64 X.cN,.int .i64 X.cB,.int .i64 X.cH,.int .i64 X.cS,.int .i64 X.cZ]] [] (λ_ v l=>v=.tuple #[.agg #[.slice none 0 0,.slice none 0 0,.int .i64 0,.int .i64 0,.slice none 0 0,.slice none 0 0,.int .i64 0,.int .i64 0,.int .i64 0,.int .i64 0,.int .i64 0,.int .i64 0],.int .i64 (Fh X)]/\l=[]):=
 (SD A c ns Y hG (vw hB) (FE hB) (I0 hB) (I3 hB) (aaL hB) X).mono (by
  rintro β' v l _ (⟨h,h1,h2⟩|⟨h,h',h1,h2⟩|⟨h1,h2,_⟩)
  ·exact⟨by rw [show Fh X=179 from agV h];exact h1,h2⟩
  ·exact⟨by rw [show Fh X=140 from agW h];exact h1,h2⟩
  exact agY ⟨h1,h2⟩ Fc)
end m
section p
variable {S:bB} {g:List Int} {X:FM} {ns:List aO} {Y:eV} {β:Bs}
structure Pair (S:bB) (g:List Int):Prop extends RelR S g where
 gl:g.length<=4096
theorem Pair.rc (h:Pair S g):RC (toR S g):=abC h.toRelR h.gl
theorem Pair.rd (h:Pair S g):RD 0 (toR S g):=by
 have hI:=h.inv.toInv0
 have h1:=hI.len
 have h2:(toR S g).ns.length=S.ar.length:=ia
 have h8:=Ie (g:=g) hI
 have h9:=hI.total.2
 exact⟨zc,h.gl,h.rc.us,zc,h.rc.dat⟩
theorem Pair.step (h:Pair S g) (c:aN):∃g',tH (toR S g) c=(toR (gF S c).1 g',(gF S c).2)/\Pair (gF S c).1 g':=by
 obtain⟨g',h1,h2⟩:=ZN h.toRelR c
 have h3:GL (toR S g):=h.gl
 have h4:=acs (c:=c) h3 (by have h5:=h.inv.toInv0.len;grind [toR,ia])
 rw [h1] at h4
 exact⟨g',h1,h2,h4⟩
theorem Fj (h:Pair S g) {Y:RL} (hR:dz β (toR S g) Y) {c c2:aN} {S2:bB} (hD:gF S c=(S2,c2)) (hn:c.name.size<=1048576) (ht:c.text.size<=1048576) (hb:bF β c.dA c.data) (hl:c.data.length<=140737488355328) (hc:c.data.length<=c.dC) :
 cE Tryz.prog β 35 #[.agg ⟨rV (toR S g) Y⟩,.agg ⟨aQ c⟩] [] (λβ' v l=>∃g' Y' B p,v=.tuple #[.agg ⟨rV (toR S2 g') Y'⟩,.agg ⟨aQ (fX c2 B p)⟩]/\l=[]/\Pair S2 g'/\dz β' (toR S2 g') Y'/\bF β' B c.data):=by
 obtain⟨g',h1,h2⟩:=h.step c
 rw [hD] at h1 h2
 refine (Z4 (toR S g) Y hR h.rc h.rd c hn ht hb hl hc).mono ?_
 grind
theorem Pair.start (N:af8 X ns) (hok:cA ns):Pair N.1 []:=⟨(Mu N.2 hok).1,ag0 _⟩
end p
section g
variable {R:RS} {d k to f:Nat} {name ay:ByteArray} {n:aO} {c:aN} {b:Bool} {id:Int}
theorem acy {top:Nat} {a:dK} (h:GL R) (hn:R.ns.length<=4096):GL (fk R top d name a).1:=by
 grind [fk,Sy,PZ,P0,P4]
theorem aeh {au:Int} {a:dK} (h:GL R) (hn:R.ns.length<=4096):GL (mr R au a).1:=by
 grind [mr,acy,GL]
end g
section p
variable {S S2:bB} {g:List Int} {β:Bs} {Y:RL}
theorem Pair.afe (h:Pair S g) {au:Int} {a:dK} {d:Nat} {name:ByteArray} (h1:0<=gI (toR S g).ns au) (hk:(nd (toR S g).ns (bY (toR S g).ns au)).kind=2) (hw:mO (toR S g) (bY (toR S g).ns au) a.path=.ok (d,name)) (hm:(bP (toR S g) d name nF).2=0):RC (jV (toR S g) d name nF):=by
 have hr:=h.toRelR
 have hI:=hr.inv.toInv0
 have ha:gI (toR S g).ns au=_:=Pq hI au
 cases e:aF.get S.ar au with
 |none=>
   grind
 |some t=>
   rw [e] at ha
   replace ha:gI (toR S g).ns au=(bT S t:Int):=ha
   obtain⟨hl,_⟩:=Ib hI e
   have BP:bY (toR S g).ns au=bT S t:=by unfold bY;rw [ha];exact aho _
   have h2:t.kind=2:=by rw [BP,mW hI hl] at hk;exact hk
   have ht:t=⟨t.k,2⟩:=by rw [←h2]
   have hl2:aT S.ar ⟨t.k,2⟩:=by rw [←ht];exact hl
   rw [BP,ht,Ii hr hl2] at hw
   rcases yx hr.inv hl2 a.path with ⟨e,h,he⟩|⟨d',name',h',hd,lQ,j3⟩
   ·rw [h] at hw;cases hw
   rw [h'] at hw
   cases hw
   rcases xj (n:=nF) hr hd name (λq=>agY (show (1:Int)=3 from q.1) Pd) with ⟨q1,q2⟩|⟨q1,q2⟩
   ·obtain⟨hA,hG⟩:=FZ (name:=name) (o:=cR S.X 1 420) (n:=nF) hr hd ⟨rfl,rfl,rfl,rfl,rfl⟩ ⟨rfl,rfl,rfl,rfl,rfl,rfl,rfl⟩
    have di:bR (gn S d' name (cR S.X 1 420)):=hr.inv.FN hd lQ j3 q1 (.inl rfl) ⟨Pd,Pd⟩ (.inl ⟨Pd,rfl⟩)
    rw [hA]
    exact abC ⟨di,hG⟩ h.gl
   rw [q2] at hm;exact agY hm q1
theorem Pair.act (h:Pair S g) (au:Int) (a:dK):∃g',mr (toR S g) au a=(toR (cO S au a).2 g',(cO S au a).1)/\Pair (cO S au a).2 g':=by
 obtain⟨g',h1,h2⟩:=aco h.toRelR au a
 have h3:GL (toR S g):=h.gl
 have h4:=aeh (au:=au) (a:=a) h3 (by have h5:=h.inv.toInv0.len;grind [toR,ia])
 rw [h1] at h4
 exact⟨g',h1,h2,h4⟩
theorem aal (h:Pair S g) (hR:dz β (toR S g) Y) (au:Int) (a:dK) (hpa:a.path.size<=1048576) (d6:a.to.size<=1048576) (yt:a.text.size<=1048576) :
 cE Tryz.prog β 54 #[.agg ⟨rV (toR S g) Y⟩,.int .i64 au,.agg #[.int .i64 a.at_,.int .i64 a.op,.string a.path,.string a.to,.string a.text]] [] (λβ' v l=>∃g' Y',v=.tuple #[.agg ⟨rV (toR (cO S au a).2 g') Y'⟩,.int .i64 (cO S au a).1]/\l=[]/\Pair (cO S au a).2 g'/\dz β' (toR (cO S au a).2 g') Y'):=by
 obtain⟨g',h1,h2⟩:=h.act au a
 refine (acr (toR S g) Y hR h.rc h.rd au a hpa d6 yt (λq1 q2 d name hw _ hm=>h.afe q1 q2 hw hm)).mono ?_
 grind
end p
structure UL where
 A:Option Addr
 a:Nat
 B:Option Addr
 b:Nat
def uV (Z:RS) (Y:RL) (au:Int) (U:UL) (nf na:Nat) (n:Int):List Value:=rV Z Y++[.int .i64 au,.slice U.A nf U.a,.slice U.B na U.b,.int .i64 n]
def uZ:List Value:=rZ++[.int .i64 0,.slice none 0 0,.slice none 0 0,.int .i64 0]
structure Mw (β:Bs) (U:UL) (fs:List dF) (xs:List dK):Prop where
 f:cC β U.A (cI jb fs)
 x:cC β U.B (cI kg xs)
theorem Mw.le {β β':Bs} {U:UL} {fs:List dF} {xs:List dK} (h:Mw β U fs xs) (g:β.le β'):Mw β' U fs xs:=⟨h.f.le g,h.x.le g⟩
section u
variable {S S2:bB} {g:List Int} {fs:List dF} {xs:List dK} {au z k:Int} {j n:Nat} {c c2:aN} {A:Option Addr} {p:Nat}
theorem UC (h:j<xs.length) (e:(act xs j).at_=z):kJ au S (dO (xs.take (j+1)) z)=(cO (kJ au S (dO (xs.take j) z)) au (act xs j)).2:=by
 rw [Dr h,wY,agW e,Jl]
theorem UD (h:j<xs.length) (e:¬(act xs j).at_=z):kJ au S (dO (xs.take (j+1)) z)=kJ au S (dO (xs.take j) z):=by
 rw [Dr h,wY,agV e]
theorem DL (h:j<fs.length) (h0:iM (fs.take j) z=0) (e:¬((pq fs j).at_=z/\FK (pq fs j))):iM (fs.take (j+1)) z=0:=by
 rw [wu h,tG,agW h0,agV e]
theorem UE (h:iM fs z≠0) (gs:List dF):iM (fs++gs) z=iM fs z:=by
 induction fs with
 |nil=>exact agY rfl h
 |cons f r ih=>
   show (if f.at_=z/\FK f then f.kind else iM (r++gs) z)=(if f.at_=z/\FK f then f.kind else iM r z)
   split
   ·rfl
   rename_i e
   exact ih (λq=>h ((agV e).trans q))
theorem Xt (h:j<fs.length) (h0:iM (fs.take j) z=0) (e:(pq fs j).at_=z/\FK (pq fs j)):iM fs z=(pq fs j).kind:=by
 have h1:iM (fs.take (j+1)) z=(pq fs j).kind:=by rw [wu h,tG,agW h0,agW e]
 have h2:iM (fs.take (j+1)) z≠0:=by have:=e.2.1;omega
 have h3:=UE h2 (fs.drop (j+1))
 rw [List.take_append_drop] at h3
 rw [h3,h1]
theorem Xu (h:¬j<fs.length) (h0:iM (fs.take j) z=0):iM fs z=0:=by
 rwa [ahF zc] at h0
end u
section p
variable {S S2:bB} {g:List Int} {β:Bs} {Y:RL} {c c2:aN}
theorem aam (h:Pair S g) (hR:dz β (toR S g) Y) (au:Int) (a:dK) (hpa:a.path.size<=1048576) (d6:a.to.size<=1048576) (yt:a.text.size<=1048576) :
 aW Tryz.prog β 54 #[.agg ⟨rV (toR S g) Y⟩,.int .i64 au,.agg #[.int .i64 a.at_,.int .i64 a.op,.string a.path,.string a.to,.string a.text]] [] (λv l=>∃g' Y',v=.tuple #[.agg ⟨rV (toR (cO S au a).2 g') Y'⟩,.int .i64 (cO S au a).1]/\l=[.abs (ko β (λβ'=>Pair (cO S au a).2 g'/\dz β' (toR (cO S au a).2 g') Y'))]):=
 (cE.Jr (ι:=List Int×RL) (vv:=λx=>.tuple #[.agg ⟨rV (toR (cO S au a).2 x.1) x.2⟩,.int .i64 (cO S au a).1]) (ll:=λ_=>[]) (Φ:=λx β'=>Pair (cO S au a).2 x.1/\dz β' (toR (cO S au a).2 x.1) x.2)
  ((aal h hR au a hpa d6 yt).mono (by rintro β' v l _ ⟨g',Y',rfl,rfl,h1,h2⟩;exact⟨(g',Y'),rfl,rfl,h1,h2⟩))).mono (by rintro v l ⟨⟨g',Y'⟩,rfl,rfl⟩;exact⟨g',Y',rfl,rfl⟩)
theorem K8 {xs:List dK} {j:Nat} (h:j<xs.length):act xs j∈xs:=by
 unfold act
 rw [ahy,ag9 h]
 exact List.getElem_mem h
variable {au e k:Int} {A:Option Addr}
theorem UF:(cF au c).name=c.name:=by unfold cF;split<;>rfl
theorem UG:(cF au c).text=c.text:=by unfold cF;split<;>rfl
theorem aan:(cF au c).dA=c.dA:=by unfold cF;split<;>rfl
theorem aao:(cF au c).dC=c.dC:=by unfold cF;split<;>rfl
theorem aap {d:List UInt8} (h:c.data=d):({c with data:=d}:aN)=c:=by subst h;rfl
theorem UH (h:gF S c=(S2,c2)):c2.data=c.data:=by
 have h1:=OC (S:=S) (c:=c)
 rwa [h] at h1
theorem pW.rowAt {β':Bs} {R:List HP} {T:TypeId} {s n cp:Nat} {xs:List Value} (h:pW β R β') (i:Nat) (hp:R[i]?=some (.abs (aH T s A n cp xs))):cC β' A xs:=by
 obtain⟨F,h1,h2⟩:=h.get i hp
 exact cC.iH h1 h2 rfl
end p
end
section
open Go.RowKit Go.Maps bK aF
attribute [local irreducible] av bN aq aB fN oo
noncomputable abbrev yR1 (c:aN) (B) (p) (e):=([(0,vI (c.op)),(1,vI (c.aL)),(3,.string c.name),(4,.string c.text),(5,.slice B (c.data.length) (p)),(11,vI (e))]:Fr)
theorem Xv {β:Bs} (Z:RS) (Y:RL) (au:Int) (U:UL) (fs:List dF) (na k:Nat) (hk:k<=1048576) (hF:cC β U.A (cI jb fs)) (hfl:fs.length<=2097152) {kf:Int} (BS:iM fs ((k+1:Nat):Int)=kf) :
 aW Tryz.prog β 34 #[.agg ⟨uV Z Y au U fs.length na ((k:Nat):Int)⟩] [] (λv l=>v=vI kf/\l=[]):=by
 subst BS
 refine SE Tryz.func34 Tryz.ntmps34 (λR=>SR (jB 2 [1] (λb1=>.aD b1 (uV Z Y au U fs.length na (↑k)) 47) (λb1=>NZ (jK 1 [3] [] (NN (aq.block (lJ (ι:=Nat) (λ(j:Nat)=>(j<=fs.length)/\(iM (fs.take j) ((k+1:Nat):Int)=0)) (λ(j:Nat)=>fs.length-j) (λ(j:Nat)=>[(1,vP b1),(3,vI ↑j)]) (λ(j:Nat)=>[.abs R,.aD b1 (uV Z Y au U fs.length na (↑k)) 47]) 0 [0,1] (⟨ag0 _,rfl⟩) ?_)))))))
 rintro j ⟨hj,h0⟩
 exact SQ (jK 6 [10] [(3,a_ 1 b1)] (NN (cP ((((j:Nat):Int):Int)<(((fs.length:Nat):Int):Int)) (λh10=>KX (aq.seq (aq.block (SR (jN 8 [4] (λb2=>[(2,a_ 1 b1),(4,x_ j fs.length (aaP hF (i:=j) zc)),(5,r2 (M6 hF (i:=j) zc (j:=0) rfl) (M6 hF (i:=j) zc (j:=1) rfl)),(7,A_ 2 b2 2)]) (λ_=>[]) (λb2=>.aD b2 [vI ((pq fs j).at_),vI ((pq fs j).kind)] 66) (λb2=>NS (jK 7 [25] [(1,a_ 2 b2),(3,a_ 1 b1),(4,wJ ((k:Int)+1) (↑(k+1)))] (sP 25 (((pq fs j).at_:Int)=(((k+1:Nat):Int):Int)) (λpR=>jK 5 [30] [(1,a_ 2 b2)] (sP 30 (((pq fs j).kind:Int)>=(1:Int)) (λnM=>jK 4 [34] [(1,a_ 2 b2)] (NN (cP (((pq fs j).kind:Int)<=(3:Int)) (λxI=>SR (jK 3 [2] [(1,a_ 2 b2)] (eN (v:=(vI ((pq fs j).kind))) ⟨agX (Value.int .i64) (Xt zc h0 ⟨zc,zc,zc⟩).symm,rfl⟩))) (λxI=>KX (aq.region (jK 3 [3] [(1,wJ ((j:Int)+1) (↑(j+1)))] (NL (tJ ((j+1)) [0,1] (⟨zc,DL zc h0 (by unfold FK;omega)⟩))))))))) (λnM=>jK 4 [34] [] (NF (KX (aq.region (jK 3 [3] [(1,wJ ((j:Int)+1) (↑(j+1)))] (NL (tJ ((j+1)) [0,1] (⟨zc,DL zc h0 (by unfold FK;omega)⟩)))))))))) (λpR=>jK 9 [34] [] (NF (KX (aq.region (jK 3 [3] [(1,wJ ((j:Int)+1) (↑(j+1)))] (NL (tJ ((j+1)) [0,1] (⟨zc,DL zc h0 (by unfold FK;omega)⟩)))))))))))))))) (λh10=>XX (zR (v:=(vI 0)) ⟨agX (Value.int .i64) (Xu zc h0).symm,rfl⟩)))))
theorem Cr {β:Bs} (c:aN) (hb:bF β c.dA c.data) (hl:c.data.length<=140737488355328) (e:Int) :
 aW Tryz.prog β 36 #[.agg ⟨aQ c⟩,vI (e)] [] (λv l=>∃B p,v=.agg ⟨aQ (fX (jd c e) B p)⟩/\l=[.abs (aH 5 1 B c.data.length p (dR c.data))]):=by
 refine SE Tryz.func36 Tryz.ntmps36 (λR=>SR (jB 1 [2] (λb3=>.aD b3 (aQ c) 53) (λb3=>jB 1 [4] (λb4=>.aD b4 [vI 0,vI 0,vI 0,.string ⟨#[]⟩,.string ⟨#[]⟩,.slice none (0) (0),vI 0,vI 0,vI 0,vI 0,vI 0,vI 0,vI 0] 53) (λb4=>NS (jK 2 [6] [(1,a_ 1 b3)] (gL [] (sB c.dA c.dC c.data hb hl) ?_))))))
 rintro _ _ ⟨B,p,rfl,rfl⟩
 exact jC 2 [] [(1,a_ 2 b3)] [(2,[(5,.slice B (c.data.length) (p))])] (NS (jC 2 [] [(1,a_ 2 b3)] [(2,[(12,vI 0)])] (NS (jC 3 [] [(2,a_ 2 b3)] [(2,[(11,vI (e))])] (NZ (jK 4 [15] [(1,a_ 2 b3)] (sP 15 ((c.op:Int)=(11:Int)) (λNA=>jK 4 [19] [] (NT (SR (jC 8 [] [(1,a_ 2 b3),(3,a_ 2 b3),(5,a_ 2 b3),(7,a_ 2 b3)] [(2,[(2,vI 0),(6,vI 0),(7,vI 0),(8,vI 0)])] (NN (aq.region (jC 3 [] [(2,A_ 2 b3 2)] [(2,[(9,vI 0),(10,vI 0)])] (NS (jC 2 [] [(0,A_ 2 b3 13),(1,A_ 3 b4 13)] [(3,(yR1 c B p e))] (eS (v:=(.agg ⟨aQ (fX {c with other:=0,mode:=0,bg:=0,bh:=0,aU:=0,aI:=0,code:=e,answer:=0} B p)⟩)) [A_ 3 b4 13] ⟨B,p,agX (λx=>Value.agg ⟨aQ x⟩) (show _=fX (jd c e) B p by unfold jd;rw [agW zc]<;>rfl),rfl⟩)))))))))) (λNA=>jK 4 [19] [(1,a_ 2 b3)] (NN (cP ((c.op:Int)=(12:Int)) (λGj=>SR (jC 8 [] [(1,a_ 2 b3),(3,a_ 2 b3),(5,a_ 2 b3),(7,a_ 2 b3)] [(2,[(2,vI 0),(6,vI 0),(7,vI 0),(8,vI 0)])] (NN (aq.region (jC 3 [] [(2,A_ 2 b3 2)] [(2,[(9,vI 0),(10,vI 0)])] (NS (jC 2 [] [(0,A_ 2 b3 13),(1,A_ 3 b4 13)] [(3,(yR1 c B p e))] (eS (v:=(.agg ⟨aQ (fX {c with other:=0,mode:=0,bg:=0,bh:=0,aU:=0,aI:=0,code:=e,answer:=0} B p)⟩)) [A_ 3 b4 13] ⟨B,p,agX (λx=>Value.agg ⟨aQ x⟩) (show _=fX (jd c e) B p by unfold jd;rw [agW zc]<;>rfl),rfl⟩)))))))) (λGj=>KX (SR (jC 2 [] [(0,A_ 2 b3 13),(1,A_ 3 b4 13)] [(3,[(0,vI (c.op)),(1,vI (c.aL)),(2,vI (c.other)),(3,.string c.name),(4,.string c.text),(5,.slice B (c.data.length) (p)),(6,vI (c.mode)),(7,vI (c.bg)),(8,vI (c.bh)),(9,vI (c.aU)),(10,vI (c.aI)),(11,vI (e))])] (eS (v:=(.agg ⟨aQ (fX {c with code:=e,answer:=0} B p)⟩)) [A_ 3 b4 13] ⟨B,p,agX (λx=>Value.agg ⟨aQ x⟩) (show _=fX (jd c e) B p by unfold jd;rw [agV zc]<;>rfl),rfl⟩))))))))))))))
theorem Xw {β:Bs} {S:bB} {g:List Int} (hp:Pair S g) (Y:RL) (hR:dz β (toR S g) Y) (au:Int) (U:UL) (nf:Nat) (xs:List dK) (k:Nat) (hk:k<=1048576) (hA:cC β U.B (cI kg xs)) (hX:lG xs 1048576) {SW:bB} (hSW:kJ au S (dO xs ((k+1:Nat):Int))=SW) :
 cE Tryz.prog β 33 #[.agg ⟨uV (toR S g) Y au U nf xs.length ((k:Nat):Int)⟩] [] (λβ' v l=>∃g' Y',v=.agg ⟨uV (toR SW g') Y' au U nf xs.length ((k:Nat):Int)⟩/\l=[]/\Pair SW g'/\dz β' (toR SW g') Y'):=by
 subst hSW
 have hxl:=hX.len
 refine oI Tryz.func33 Tryz.ntmps33 (λaE R=>SR (jB 1 [1] (λb5=>.aD b5 (uV (toR S g) Y au U nf xs.length (↑k)) 47) (λb5=>jB 1 [2] (λb6=>.aD b6 (uZ) 47) (λb6=>NZ (jK 1 [3] [] (NN (aq.block (lB (ι:=Nat×Bs×bB×(List Int)×RL) (λ(j,b,S2,g2,Y2)=>b) (λ(j,b,S2,g2,Y2)=>(j<=xs.length)/\(β.le b)/\(cC b U.B (cI kg xs))/\(Pair S2 g2)/\(dz b (toR S2 g2) Y2)/\(S2=kJ au S (dO (xs.take j) ((k+1:Nat):Int)))) (λ(j,b,S2,g2,Y2)=>xs.length-j) (λ(j,b,S2,g2,Y2)=>[(1,vP b5),(2,vP b6),(3,vI ↑j)]) (λ(j,b,S2,g2,Y2)=>[.aD b5 (uV (toR S2 g2) Y2 au U nf xs.length (↑k)) 47,.aD b6 (uZ) 47,.abs R]) (0,β,S,g,Y) [1,2,0] (⟨ag0 _,aE,hA,hp,hR,rfl⟩) ?_))))))))
 rintro⟨j,b,S2,g2,Y2⟩ ⟨hj,aE,hA,hp,hR,hS⟩
 refine SQ (jK 6 [11] [(3,a_ 0 b5)] (NN (cP ((((j:Nat):Int):Int)<(((xs.length:Nat):Int):Int)) (λh11=>KX (aq.seq (aq.block (aq.seq (rQ (jQ 11 [24] [(2,a_ 0 b5),(4,x_ j xs.length (M5 hA (i:=j) zc)),(6,r_ (qK hA (i:=j) zc (j:=0) rfl)),(8,a_ 0 b5),(9,wJ ((k:Int)+1) (↑(k+1)))] (NQ (NX (cP (((act xs j).at_:Int)=(((k+1:Nat):Int):Int)) (λrA=>aq.seq (aq.qZ (S:=[.aD b5 (uV (toR S2 g2) Y2 au U nf xs.length (↑k)) 47,.aD b6 (uZ) 47]) (yN [0,1,2,3,4,5,6,7,8,9] (oJ 14 [(false,15),(false,16)] [(false,10),(true,11),(true,12),(true,13)])) [0,1] (gT (oJ 14 [(false,15),(false,16)] [(false,10),(true,11),(true,12),(true,13)]) [(1,vP b5),(2,vP b6),(3,vI ↑j),(27,.agg ⟨rV (toR S2 g2) Y2⟩),(29,vI (au)),(35,.agg #[vI ((act xs j).at_),vI ((act xs j).op),.string (act xs j).path,.string (act xs j).to,.string (act xs j).text])] [0,1,2,3,4,5,6,7,8,9] [(1,A_ 0 b5 12),(3,a_ 0 b5),(6,a_ 0 b5),(8,x_ j xs.length (M5 hA (i:=j) zc)),(9,p_ ⟨[.old (.int .i64 ((act xs j).at_)),.old (.int .i64 ((act xs j).op)),.old (.string (act xs j).path),.old (.string (act xs j).to),.old (.string (act xs j).text)],none,none,none,none⟩ [(Rd b ⟨(bw U.B),br U.B+j*5+4,none⟩ (.string (act xs j).text)),(Rd b ⟨(bw U.B),br U.B+j*5+3,none⟩ (.string (act xs j).to)),(Rd b ⟨(bw U.B),br U.B+j*5+2,none⟩ (.string (act xs j).path)),(Rd b ⟨(bw U.B),br U.B+j*5+1,none⟩ (vI ((act xs j).op))),(Rd b ⟨(bw U.B),br U.B+j*5,none⟩ (vI ((act xs j).at_)))] ⟨qK hA (i:=j) zc (j:=4) rfl,qK hA (i:=j) zc (j:=3) rfl,qK hA (i:=j) zc (j:=2) rfl,qK hA (i:=j) zc (j:=1) rfl,qK hA (i:=j) zc (j:=0) rfl,trivial⟩)] (oo.one (j:=14) (dj:=4) (R:=λf_ l_=>∃g3:List Int,∃Y3:RL,f_=[(38,vI ((cO S2 au (act xs j)).1)),(37,.agg ⟨rV (toR (cO S2 au (act xs j)).2 g3) Y3⟩),(25,.tuple #[.agg ⟨rV (toR (cO S2 au (act xs j)).2 g3) Y3⟩,vI ((cO S2 au (act xs j)).1)]),(36,.tuple #[.agg ⟨rV (toR (cO S2 au (act xs j)).2 g3) Y3⟩,vI ((cO S2 au (act xs j)).1)]),(1,vP b5),(2,vP b6),(3,vI ↑j),(27,.agg ⟨rV (toR S2 g2) Y2⟩),(29,vI (au)),(35,.agg #[vI ((act xs j).at_),vI ((act xs j).op),.string (act xs j).path,.string (act xs j).to,.string (act xs j).text])]/\l_=[.abs (ko b (λβ'=>Pair (cO S2 au (act xs j)).2 g3/\dz β' (toR (cO S2 au (act xs j)).2 g3) Y3))]) [0,1] [(false,10,36),(true,11,25),(true,12,37),(true,13,38)] (jm.of (ι:=Nat) (v:=λ(b7:Nat)=>vP b7) (l:=λ(b7:Nat)=>[.aD b7 (rZ) 45]) [36,25,37,38] rfl rfl rfl rfl ?_) ?_ ?_)))) (λrA=>KX (aq.region (jK 3 [3] [(1,wJ ((j:Int)+1) (↑(j+1)))] (NL (tB ((j+1),b,S2,g2,Y2) [0,1,2] (⟨zc,aE,hA,hp,hR,by rw [hS,UD zc zc]⟩))))))))))))))) (λh11=>XX (SR (jC 2 [] [(0,A_ 0 b5 16),(1,A_ 1 b6 16)] [(1,(zC (uV (toR S2 g2) Y2 au U nf xs.length (↑k))))] (eO (v:=(.agg ⟨uV (toR S2 g2) Y2 au U nf xs.length (↑k)⟩)) [A_ 1 b6 16] aE (by rw [ahF (show xs.length<=j by omega)] at hS;subst hS;exact⟨g2,Y2,rfl,rfl,hp,hR⟩) [2])))))))
 ·intro u Aq
  exact jB 1 [4] (λb7=>.aD b7 (rZ) 45) (λb7=>NL (MD b7 [4,36,25,37,38,1,2,3,27,29,35] [1,0]))
 ·refine ez.step (jm.of (ι:=(List Int)×RL) (v:=λ((g3,Y3):(List Int)×RL)=>.tuple #[.agg ⟨rV (toR (cO S2 au (act xs j)).2 g3) Y3⟩,vI ((cO S2 au (act xs j)).1)]) (l:=λ((g3,Y3):(List Int)×RL)=>[.abs (ko b (λβ'=>Pair (cO S2 au (act xs j)).2 g3/\dz β' (toR (cO S2 au (act xs j)).2 g3) Y3))]) [4] rfl rfl rfl rfl ?_) ?_
  ·intro u Aq
   refine gL [] (aam hp hR au (act xs j) (hX.q _ (K8 (show j<xs.length by omega))).path (hX.q _ (K8 (show j<xs.length by omega))).to (hX.q _ (K8 (show j<xs.length by omega))).text) ?_
   rintro _ _ ⟨g3,Y3,rfl,rfl⟩
   exact NL (MD (g3,Y3) [36,4,1,2,3,27,29,35] [0,1])
  rintro _ _ ⟨⟨g3,Y3⟩,rfl,rfl⟩
  exact ez.read (.tuple #[.agg ⟨rV (toR (cO S2 au (act xs j)).2 g3) Y3⟩,vI ((cO S2 au (act xs j)).1)]) (ez.read (.agg ⟨rV (toR (cO S2 au (act xs j)).2 g3) Y3⟩) (ez.read (.int .i64 ((cO S2 au (act xs j)).1)) ⟨g3,Y3,rfl,rfl⟩))
 rintro _ _ ⟨g3,Y3,rfl,rfl⟩ _ _ ⟨b7,rfl,rfl⟩
 refine kC [2,3] [] [(0,A_ 1 b7 12)] [(1,(zC (rV (toR (cO S2 au (act xs j)).2 g3) Y3)))] (fN.last KB (jK 1 [] [] (NL (aB.np (NX (aq.region (av.uz 0 [1,2,3,4] (fe:=[.aD b7 (rV (toR (cO S2 au (act xs j)).2 g3) Y3) 45,.aD b5 (uV (toR S2 g2) Y2 au U nf xs.length (↑k)) 47,.aD b6 (uZ) 47,.abs R]) rfl rfl KB (λSv qc ⟨hp3,mg⟩=>?_))))))))
 replace hA:=hA.le qc
 replace aE:=aE.trans qc
 exact jC 3 [] [(0,A_ 0 b7 12),(2,A_ 1 b5 12)] [(1,(zC (rV (toR (cO S2 au (act xs j)).2 g3) Y3)))] (LX (aq.region (jK 3 [3] [(1,wJ ((j:Int)+1) (↑(j+1)))] (NL (tB ((j+1),Sv,(cO S2 au (act xs j)).2,g3,Y3) [1,2,3] (⟨zc,aE,hA,hp3,mg,by rw [hS,UC zc zc]⟩))))))
end
section
open Go.RowKit Go.Maps bK aF
attribute [local irreducible] av bN aq aB ck
noncomputable abbrev yS1 (b4:Nat):=(.aD b4 [vI 0,vI 0,vI 0,.string ⟨#[]⟩,.string ⟨#[]⟩,.slice none (0) (0),vI 0,vI 0,vI 0,vI 0,vI 0,vI 0,vI 0] 53:HP)
noncomputable abbrev Xx (B3)(au)(c)(p3):=(.abs (aH 5 1 B3 ((cF au c).data.length) p3 (dR (cF au c).data)):HP)
noncomputable abbrev yS3 (cx:aN) (B3) (au) (c) (p3):=([(0,vI (cx.op)),(1,vI (cx.aL)),(2,vI (cx.other)),(3,.string cx.name),(4,.string cx.text),(5,.slice B3 ((cF au c).data.length) (p3)),(6,vI (cx.mode)),(7,vI (cx.bg)),(8,vI (cx.bh)),(9,vI (cx.aU)),(10,vI (cx.aI)),(11,vI (cx.code)),(12,vI (cx.answer))]:Fr)
noncomputable abbrev yS4 (b1:Nat) (b2:Nat) (b3:Nat) (b4:Nat):=([(2,vP b1),(3,vP b2),(4,vP b3),(5,vP b4)]:Fr)
theorem aaq {β:Bs} {S S2:bB} {g:List Int} {c c2:aN} (hp:Pair S g) (Y:RL) (hR:dz β (toR S g) Y) (au:Int) (U:UL) (fs:List dF) (xs:List dK) (k:Nat) (hk:k<=1048576) (hF:cC β U.A (cI jb fs)) (hfl:fs.length<=2097152) (hA:cC β U.B (cI kg xs)) (hX:lG xs 1048576) (hD:nJ fs xs au (k+1) S c=(S2,c2)) (hn:c.name.size<=1048576) (ht:c.text.size<=1048576) (hb:bF β c.dA c.data) (hl:c.data.length<=140737488355328) (hc:c.data.length<=c.dC) :
 cE Tryz.prog β 10 #[.agg ⟨uV (toR S g) Y au U fs.length xs.length ((k:Nat):Int)⟩,.agg ⟨aQ c⟩] [] (λβ' v l=>∃g' Y' B p,v=.tuple #[.agg ⟨uV (toR S2 g') Y' au U fs.length xs.length (((k+1):Nat):Int)⟩,.agg ⟨aQ (fX c2 B p)⟩]/\l=[]/\Pair S2 g'/\dz β' (toR S2 g') Y'/\bF β' B c2.data):=by
 have hwn:(cF au c).name.size<=1048576:=by rw [UF];exact hn
 have Iq:(cF au c).text.size<=1048576:=by rw [UG];exact ht
 have uO:bF β (cF au c).dA (cF au c).data:=by rw [aan,za];exact hb
 have hwl:(cF au c).data.length<=140737488355328:=by rw [za];exact hl
 have hwc:(cF au c).data.length<=(cF au c).dC:=by rw [za,aao];exact hc
 obtain⟨SW,hSW⟩:∃q,kJ au S (dO xs ((k+1:Nat):Int))=q:=⟨_,rfl⟩
 obtain⟨kf,BS⟩:∃q,iM fs ((k+1:Nat):Int)=q:=⟨_,rfl⟩
 replace hD:dY kf SW (cF au c)=(S2,c2):=by rw [←BS,←hSW];exact hD
 refine oI Tryz.func10 Tryz.ntmps10 (λaE R=>SR (jB 1 [2] (λb1=>.aD b1 (uV (toR S g) Y au U fs.length xs.length (↑k)) 47) (λb1=>jB 1 [3] (λb2=>.aD b2 (aQ c) 53) (λb2=>jB 1 [4] (λb3=>.aD b3 (uZ) 47) (λb3=>jB 1 [5] (λb4=>.aD b4 [vI 0,vI 0,vI 0,.string ⟨#[]⟩,.string ⟨#[]⟩,.slice none (0) (0),vI 0,vI 0,vI 0,vI 0,vI 0,vI 0,vI 0] 53) (λb4=>NS (jK 1 [12] [(0,A_ 1 b1 16)] (jx [] (Xw hp Y hR au U fs.length xs k hk hA hX hSW) ?_))))))))
 rintro JO _ _ j6 ⟨g1,Y1,rfl,rfl,hp1,uf⟩
 replace hF:=hF.le j6
 replace uO:=uO.le j6
 replace aE:=aE.trans j6
 refine jC 1 [] [(0,A_ 1 b1 16)] [(1,(zC (rV (toR SW g1) Y1)))] (NS (jK 1 [14] [(0,A_ 1 b1 16)] (gE [] (Xv (toR SW g1) Y1 au U fs xs.length k hk hF hfl BS) (jK 1 [6] [] (NS (jC 5 [] [(1,a_ 1 b1),(2,wJ ((k:Int)+1) (↑(k+1))),(4,a_ 1 b1)] [(1,[(15,vI ↑(k+1))])] (NN (aq.join (ι:=Unit) (λ(u:Unit)=>True) (λ(u:Unit)=>(yS4 b1 b2 b3 b4++[(6,vI (kf))])) (λ(u:Unit)=>[.abs R,.aD b1 (uV (toR SW g1) Y1 au U fs.length xs.length (↑(k+1))) 47,pC b2 (cF au c),.aD b3 (uZ) 47,yS1 b4]) ?_ (SR (jK 3 [22] [(1,a_ 2 b2)] (NN (cP ((c.op:Int)=(1:Int)) (λsj=>aq.region (jC 4 [] [(1,a_ 1 b1),(3,a_ 2 b2)] [(2,[(2,vI (au))])] (NL (aB.gG [(2,.aD b2 (aQ (cF au c)) 53)] (λw hS=>by rw [show (cF au c)={c with other:=au} from agW sj];exact hS) (mJ () [0,1,2,3,4] (trivial)))))) (λsj=>aq.skip (aB.gG [(2,.aD b2 (aQ (cF au c)) 53)] (λw hS=>by rw [show (cF au c)=c from agV sj];exact hS) (mJ () [0,1,2,3,4] (trivial))))))))))))))))
 rintro u _
 refine SQ (jK 2 [27] [] (NN (cP ((kf:Int)=(1:Int)) (λxE=>?_) (λxE=>?_))))
 ·refine SQ (jK 3 [30] [(1,a_ 2 b2)] (NN (cP (((cF au c).op:Int)=(13:Int)) (λnM=>?_) (λnM=>?_))))
  ·refine SR (jK 3 [33,34] [(1,A_ 1 b1 12),(2,A_ 2 b2 13)] ?_)
   obtain⟨Sx,cx,J2⟩:∃S2 c2,gF SW (cF au c)=(S2,c2):=⟨_,_,rfl⟩
   refine jx [] (Fj hp1 uf J2 hwn Iq uO hwl hwc) ?_
   rintro β6 _ _ zB ⟨g2,Y2,B2,p2,rfl,rfl,hp2,tN,Fk⟩
   replace uO:=uO.le zB
   replace aE:=aE.trans zB
   refine jB 4 [7,36,37] (λb7=>.aD b7 (rZ) 45) (λb7=>jN 3 [] (λb8=>[(1,A_ 5 b7 12),(2,A_ 6 b8 13)]) (λb8=>[(5,(zC (rV (toR Sx g2) Y2)))]) (λb8=>.aD b8 (aQ (fX cx B2 p2)) 53) (λb8=>NN (aq.region (jC 3 [] [(0,A_ 5 b7 12),(2,A_ 1 b1 12)] [(1,(zC (rV (toR Sx g2) Y2)))] (NN (aq.seq (rM (List.range 5) 2 [1,2] (jR 2 [4,5,40,41] [(0,A_ 0 b1 16),(1,A_ 1 b2 13)] (mL [2,3] [] (Cr (cF au c) uO hwl 180) ?_ (by rintro _ _ ⟨B3,p3,rfl,rfl⟩;rfl))))))))))
   rintro _ _ ⟨B3,p3,rfl,rfl⟩
   refine nC [2,3] [] [(0,A_ 4 b3 16)] [(4,(zC (uV (toR Sx g2) Y2 au U fs.length xs.length (↑(k+1)))))] (ck.last rfl rfl (jC 1 [] [(0,A_ 5 b4 13)] [(5,(zC (aQ (fX (jd (cF au c) 180) B3 p3))))] (NL (aB.np (NX (aq.ret (aB.bD (aB.cQ [0] [Xx B3 au c p3] (λvT mI hL=>?_)))))))))
   have J3:=hL.bytes
   replace tN:=tN.le mI
   replace aE:=aE.trans mI
   have Bd:((Sx,jd (cF au c) 180):bB×aN)=(S2,c2):=(show dY kf SW (cF au c)=_ from by unfold dY;rw [agW xE,agW nM,J2]).symm.trans hD
   exact rB (.tuple #[.agg ⟨uV (toR Sx g2) Y2 au U fs.length xs.length (↑(k+1))⟩,.agg ⟨aQ (fX (jd (cF au c) 180) B3 p3)⟩]) [A_ 3 b3 16,A_ 4 b4 13] [0] aE (by cases Bd;exact⟨g2,Y2,B3,p3,rfl,rfl,hp2,tN,by rw [vA];exact J3⟩)
  refine KX (aq.seq (rM (List.range 5) 2 [1,2] (jR 2 [4,5,40,41] [(0,A_ 0 b1 16),(1,A_ 1 b2 13)] (mL [2,3] [] (Cr (cF au c) uO hwl 180) ?_ (by rintro _ _ ⟨B3,p3,rfl,rfl⟩;rfl)))))
  rintro _ _ ⟨B3,p3,rfl,rfl⟩
  refine nC [2,3] [] [(0,A_ 4 b3 16)] [(4,(zC (uV (toR SW g1) Y1 au U fs.length xs.length (↑(k+1)))))] (ck.last rfl rfl (jC 1 [] [(0,A_ 5 b4 13)] [(5,(zC (aQ (fX (jd (cF au c) 180) B3 p3))))] (NL (aB.np (NX (aq.ret (aB.bD (aB.cQ [0] [Xx B3 au c p3] (λPV qF hL=>?_)))))))))
  have J3:=hL.bytes
  replace uf:=uf.le qF
  replace aE:=aE.trans qF
  have Bd:((SW,jd (cF au c) 180):bB×aN)=(S2,c2):=(show dY kf SW (cF au c)=_ from by unfold dY;rw [agW xE,agV nM]).symm.trans hD
  exact rB (.tuple #[.agg ⟨uV (toR SW g1) Y1 au U fs.length xs.length (↑(k+1))⟩,.agg ⟨aQ (fX (jd (cF au c) 180) B3 p3)⟩]) [A_ 3 b3 16,A_ 4 b4 13] [0] aE (by cases Bd;exact⟨g1,Y1,B3,p3,rfl,rfl,hp1,uf,by rw [vA];exact J3⟩)
 refine KX (aq.seq (aq.join (ι:=Bool) (λ(SF:Bool)=>(SF=decide (kf=2/\((cF au c).op=4\/(cF au c).op=5\/(cF au c).op=6\/(cF au c).op=7\/(cF au c).op=9)))) (λ(SF:Bool)=>(yS4 b1 b2 b3 b4++[(6,vI (kf)),(59,.bool SF)])) (λ(SF:Bool)=>[.abs R,.aD b1 (uV (toR SW g1) Y1 au U fs.length xs.length (↑(k+1))) 47,pC b2 (cF au c),.aD b3 (uZ) 47,yS1 b4]) ?_ (aq.region (jK 3 [45] [] (sP 45 ((kf:Int)=(2:Int)) (λNH=>jK 4 [49] [(1,a_ 2 b2)] (sP 49 (((cF au c).op:Int)>=(4:Int)) (λyR=>jK 5 [54] [(1,a_ 2 b2)] (sP 54 (((cF au c).op:Int)<=(7:Int)) (λET=>jK 5 [59] [] (NL (mJ true [0,1,2,3,4] ((ahh zc).symm)))) (λET=>jK 5 [59] [(1,a_ 2 b2)] (NL (mJ ((decide (((cF au c).op:Int)=(9:Int)))) [0,1,2,3,4] ((ahb.2 ⟨λh=>zc,λh=>zc⟩))))))) (λyR=>jK 10 [59] [(6,a_ 2 b2)] (NL (mJ ((decide (((cF au c).op:Int)=(9:Int)))) [0,1,2,3,4] ((ahb.2 ⟨λh=>zc,λh=>zc⟩))))))) (λNH=>jK 14 [59] [] (NL (mJ false [0,1,2,3,4] ((agZ zc).symm)))))))))
 rintro SF hq1
 refine aq.cond (b:=SF) (λ_=>KB) (λvN=>?_) (λvN=>?_)
 ·refine aq.seq (rM (List.range 5) 2 [1,2] (jR 2 [4,5,60,61] [(0,A_ 0 b1 16),(1,A_ 1 b2 13)] (mL [2,3] [] (Cr (cF au c) uO hwl 176) ?_ (by rintro _ _ ⟨B3,p3,rfl,rfl⟩;rfl))))
  rintro _ _ ⟨B3,p3,rfl,rfl⟩
  refine nC [2,3] [] [(0,A_ 4 b3 16)] [(4,(zC (uV (toR SW g1) Y1 au U fs.length xs.length (↑(k+1)))))] (ck.last rfl rfl (jC 1 [] [(0,A_ 5 b4 13)] [(5,(zC (aQ (fX (jd (cF au c) 176) B3 p3))))] (NL (aB.np (NX (aq.ret (aB.bD (aB.cQ [0] [Xx B3 au c p3] (λH6 pz hL=>?_)))))))))
  have J3:=hL.bytes
  replace uf:=uf.le pz
  replace aE:=aE.trans pz
  have Bd:((SW,jd (cF au c) 176):bB×aN)=(S2,c2):=(show dY kf SW (cF au c)=_ from by unfold dY;rw [agV xE,agW (ahL (hq1.symm.trans vN))]).symm.trans hD
  exact rB (.tuple #[.agg ⟨uV (toR SW g1) Y1 au U fs.length xs.length (↑(k+1))⟩,.agg ⟨aQ (fX (jd (cF au c) 176) B3 p3)⟩]) [A_ 3 b3 16,A_ 4 b4 13] [0] aE (by cases Bd;exact⟨g1,Y1,B3,p3,rfl,rfl,hp1,uf,by rw [vA];exact J3⟩)
 refine KX (SR (jK 3 [9] [(1,a_ 2 b2)] (NN (aq.seq (aq.join (ι:=Bool) (λ(SG:Bool)=>(SG=decide (kf=3/\(cF au c).op=9/\2<=(cF au c).data.length))) (λ(SG:Bool)=>(yS4 b1 b2 b3 b4++[(9,.slice (cF au c).dA ((cF au c).data.length) ((cF au c).dC)),(76,.bool SG)])) (λ(SG:Bool)=>[.abs R,.aD b1 (uV (toR SW g1) Y1 au U fs.length xs.length (↑(k+1))) 47,pC b2 (cF au c),.aD b3 (uZ) 47,yS1 b4]) ?_ (aq.region (jK 3 [67] [] (sP 67 ((kf:Int)=(3:Int)) (λIV=>jK 5 [72] [(1,a_ 2 b2)] (sP 72 (((cF au c).op:Int)=(9:Int)) (λh72=>jK 4 [76] [] (NL (mJ ((decide (((((cF au c).data.length:Nat):Int):Int)>=(2:Int)))) [0,1,2,3,4] ((ahb.2 ⟨λh=>zc,λh=>zc⟩))))) (λh72=>jK 4 [76] [] (NL (mJ false [0,1,2,3,4] ((agZ zc).symm)))))) (λIV=>jK 9 [76] [] (NL (mJ false [0,1,2,3,4] ((agZ zc).symm))))))))))))
 rintro SG JC
 refine aq.cond (b:=SG) (λ_=>KB) (λh76=>?_) (λh76=>?_)
 ·refine aq.region (jK 5 [81] [(3,w_ (.int .i64 ↑(((cF au c).data.length) / 2)) (vg (Int.ofNat_tdiv _ _).symm zc zc)),(4,xP ((cF au c).data.length / 2) (((cF au c).data.length / 2)<=(cF au c).dC))] (sl 81 (.slice (cF au c).dA (((cF au c).data.length / 2)) ((cF au c).dC)) (.slice (cF au c).dA (((cF au c).data.take ((cF au c).data.length / 2)).length) ((cF au c).dC)) (by rw [ahi,ahS zc]) (jC 2 [] [(1,a_ 2 b2)] [(2,[(5,.slice (cF au c).dA (((cF au c).data.take ((cF au c).data.length / 2)).length) ((cF au c).dC))])] (NS (jK 3 [85,86] [(1,A_ 1 b1 12),(2,A_ 2 b2 13)] ?_)))))
  obtain⟨Sx,cx,J2⟩:∃S2 c2,gF SW { (cF au c) with data:=(cF au c).data.take ((cF au c).data.length / 2)}=(S2,c2):=⟨_,_,rfl⟩
  refine jx [] (Fj hp1 uf J2 hwn Iq (uO.take _) (by simp only [ahi];omega) (by simp only [ahi];omega)) ?_
  rintro EV _ _ kF ⟨g2,Y2,B2,p2,rfl,rfl,hp2,tN,Fk⟩
  replace uO:=uO.le kF
  replace aE:=aE.trans kF
  refine jB 4 [10,88,89] (λb13=>.aD b13 (rZ) 45) (λb13=>jN 3 [11] (λb14=>[(1,A_ 5 b13 12),(2,A_ 6 b14 13)]) (λb14=>[(5,(zC (rV (toR Sx g2) Y2)))]) (λb14=>.aD b14 (aQ (fX cx B2 p2)) 53) (λb14=>NS (jC 3 [] [(0,A_ 5 b13 12),(2,A_ 1 b1 12)] [(1,(zC (rV (toR Sx g2) Y2)))] (NS (jK 1 [92] [] (gL [] (sB (cF au c).dA (cF au c).dC (cF au c).data uO hwl) ?_))))))
  rintro _ _ ⟨B3,p3,rfl,rfl⟩
  refine jC 2 [] [(1,a_ 7 b14)] [(7,[(5,.slice B3 ((cF au c).data.length) (p3))])] (NN (aq.seq (rM [0,1,2,3] 2 [2,7] (jR 2 [4,5,95,96] [(0,A_ 0 b1 16),(1,A_ 1 b14 13)] (nC [2,7] [] [(0,A_ 4 b3 16)] [(4,(zC (uV (toR Sx g2) Y2 au U fs.length xs.length (↑(k+1)))))] (ck.last rfl rfl (jC 1 [] [(0,A_ 5 b4 13)] [(5,(yS3 cx B3 au c p3))] (NL (aB.np (NX (aq.ret (aB.cQ [0] [Xx B3 au c p3] (λEU qE hL=>?_)))))))))))))
  have J3:=hL.bytes
  replace tN:=tN.le qE
  replace aE:=aE.trans qE
  have Bd:((Sx,{cx with dA:=(cF au c).dA,dC:=(cF au c).dC,data:=(cF au c).data}):bB×aN)=(S2,c2):=(show dY kf SW (cF au c)=_ from by unfold dY;rw [agV xE,agV (of_decide_eq_false (hq1.symm.trans vN)),agW (ahL (JC.symm.trans h76)),J2]).symm.trans hD
  exact rB (.tuple #[.agg ⟨uV (toR Sx g2) Y2 au U fs.length xs.length (↑(k+1))⟩,.agg #[vI (cx.op),vI (cx.aL),vI (cx.other),.string cx.name,.string cx.text,.slice B3 ((cF au c).data.length) (p3),vI (cx.mode),vI (cx.bg),vI (cx.bh),vI (cx.aU),vI (cx.aI),vI (cx.code),vI (cx.answer)]]) [A_ 3 b3 16,A_ 4 b4 13] [0] aE (by cases Bd;exact⟨g2,Y2,B3,p3,rfl,rfl,hp2,tN,J3⟩)
 refine KX (SR (jK 3 [85,86] [(1,A_ 1 b1 12),(2,A_ 2 b2 13)] ?_))
 obtain⟨Sx,cx,J2⟩:∃S2 c2,gF SW (cF au c)=(S2,c2):=⟨_,_,rfl⟩
 refine jx [] (Fj hp1 uf J2 hwn Iq uO hwl hwc) ?_
 rintro T4 _ _ wE ⟨g2,Y2,B2,p2,rfl,rfl,hp2,tN,Fk⟩
 replace uO:=uO.le wE
 replace aE:=aE.trans wE
 refine jB 4 [10,88,89] (λb17=>.aD b17 (rZ) 45) (λb17=>jN 3 [11] (λb18=>[(1,A_ 5 b17 12),(2,A_ 6 b18 13)]) (λb18=>[(5,(zC (rV (toR Sx g2) Y2)))]) (λb18=>.aD b18 (aQ (fX cx B2 p2)) 53) (λb18=>NS (jC 3 [] [(0,A_ 5 b17 12),(2,A_ 1 b1 12)] [(1,(zC (rV (toR Sx g2) Y2)))] (NS (jK 1 [92] [] (gL [] (sB (cF au c).dA (cF au c).dC (cF au c).data uO hwl) ?_))))))
 rintro _ _ ⟨B3,p3,rfl,rfl⟩
 refine jC 2 [] [(1,a_ 7 b18)] [(7,[(5,.slice B3 ((cF au c).data.length) (p3))])] (NN (aq.seq (rM [0,1,2,3] 2 [2,7] (jR 2 [4,5,95,96] [(0,A_ 0 b1 16),(1,A_ 1 b18 13)] (nC [2,7] [] [(0,A_ 4 b3 16)] [(4,(zC (uV (toR Sx g2) Y2 au U fs.length xs.length (↑(k+1)))))] (ck.last rfl rfl (jC 1 [] [(0,A_ 5 b4 13)] [(5,(yS3 cx B3 au c p3))] (NL (aB.np (NX (aq.ret (aB.cQ [0] [Xx B3 au c p3] (λaei wO hL=>?_)))))))))))))
 have J3:=hL.bytes
 replace tN:=tN.le wO
 replace aE:=aE.trans wO
 have Bd:((Sx,{cx with data:=(cF au c).data}):bB×aN)=(S2,c2):=(show dY kf SW (cF au c)=_ from by unfold dY;rw [agV xE,agV (of_decide_eq_false (hq1.symm.trans vN)),agV (of_decide_eq_false (JC.symm.trans h76)),J2,aap (UH J2)]).symm.trans hD
 exact rB (.tuple #[.agg ⟨uV (toR Sx g2) Y2 au U fs.length xs.length (↑(k+1))⟩,.agg #[vI (cx.op),vI (cx.aL),vI (cx.other),.string cx.name,.string cx.text,.slice B3 ((cF au c).data.length) (p3),vI (cx.mode),vI (cx.bg),vI (cx.bh),vI (cx.aU),vI (cx.aI),vI (cx.code),vI (cx.answer)]]) [A_ 3 b3 16,A_ 4 b4 13] [0] aE (by cases Bd;exact⟨g2,Y2,B3,p3,rfl,rfl,hp2,tN,J3⟩)
end
section
open Go.RowKit Go.Maps bK aF
noncomputable def fC (X:FM) (ns:List aO) (au:Int):Int:=
 open Classical in
 if kK X then if cA ns then
  match ns.find? (λn=>decide (n.id=au)) with
  |none=>141
  |some n=>if n.kind=2 then 0 else 173
 else 140 else 179
def AU (ns:List aO) (au:Int) (i:Nat):Prop:=i<ns.length/\(nd ns i).id=au/\∀q,q<i->(nd ns q).id≠au
section n
variable {X:FM} {ns:List aO} {au:Int} {i:Nat}
theorem Qi (ns:List aO) (au:Int):(∃i,AU ns au i)\/∀q,q<ns.length->(nd ns q).id≠au:=by
 have key:∀n,n<=ns.length->(∃i,AU ns au i)\/∀q,q<n->(nd ns q).id≠au:=λn=>by
  induction n with
  |zero=>exact λ_=>.inr λq h=>agY h (ag2 q)
  |succ n ih=>
    intro h
    rcases ih zc with h1|h1
    ·exact .inl h1
    by_cases e:(nd ns n).id=au
    ·exact .inl ⟨n,zc,e,h1⟩
    exact .inr λq hq=>(ag3.1 hq).elim (h1 q) (λe2=>e2 ▸ e)
 exact key _ (ag5 _)
theorem J4 (h:AU ns au i):ns.find? (λn=>decide (n.id=au))=some (nd ns i):=by
 obtain⟨h1,h2,h3⟩:=h
 rw [List.find?_eq_some_iff_getElem]
 have e:=getD_some (x:=default) h1
 have e2:ns[i]=nd ns i:=by rw [ag9 h1] at e;exact ahZ e
 refine⟨by simpa using h2,i,h1,e2,λj hj=>?_⟩
 have e3:ns[j]=nd ns j:=by
  have:=getD_some (x:=default) (show j<ns.length by omega)
  rw [ag9 zc] at this;exact ahZ this
 rw [e3]
 simpa using h3 j hj
theorem Xy (h:∀q,q<ns.length->(nd ns q).id≠au):ns.find? (λn=>decide (n.id=au))=none:=by
 rw [List.find?_eq_none]
 intro n hn
 obtain⟨q,hq,e⟩:=ahA.1 hn
 have e3:ns[q]=nd ns q:=by
  have:=getD_some (x:=default) hq
  rw [ag9 hq] at this;exact ahZ this
 rw [←e,e3]
 simpa using h q hq
theorem DM (h:¬kK X):fC X ns au=179:=agV h
theorem AV (h:kK X) (h2:¬cA ns):fC X ns au=140:=(agW h).trans (agV h2)
theorem xk (h:kK X) (h2:cA ns) (h3:∀q,q<ns.length->(nd ns q).id≠au):fC X ns au=141:=(agW h).trans ((agW h2).trans (by rw [Xy h3]))
theorem DN (h:kK X) (h2:cA ns) (h3:AU ns au i) (h4:(nd ns i).kind=2):fC X ns au=0:=(agW h).trans ((agW h2).trans (by rw [J4 h3];exact agW h4))
theorem zk (h:kK X) (h2:cA ns) (h3:AU ns au i) (h4:¬(nd ns i).kind=2):fC X ns au=173:=(agW h).trans ((agW h2).trans (by rw [J4 h3];exact agV h4))
theorem Fl (h:fC X ns au=0):kK X/\cA ns:=by
 by_cases h1:kK X
 ·by_cases h2:cA ns
  ·exact⟨h1,h2⟩
  rw [AV h1 h2] at h;exact agY h (by decide)
 rw [DM h1] at h;exact agY h (by decide)
end n
end
section
open Go.RowKit Go.Maps bK aF
attribute [local irreducible] av bN aq aB
theorem aar {β:Bs} (b:Nat) (au z:Int) (v1 v2 v3 v4 v5 v6 v7 v8 v9:Value) :
 aW Tryz.prog β 45 #[.agg #[vI (z),v1,v2,v3,v4,v5,v6,v7,v8,v9],vP b] [.aD b [vI (au)] 3] (λv l=>v=.bool (decide (z=au))/\l=[.aD b [vI (au)] 3]):=by
 exact SE Tryz.func45 Tryz.ntmps45 (λR=>SR (jB 2 [2] (λb1=>.aD b1 [vI (z),v1,v2,v3,v4,v5,v6,v7,v8,v9] 95) (λb1=>NS (jK 5 [3] [(1,a_ 2 b1),(2,a_ 0 b)] (eN (v:=(.bool (decide ((z:Int)=(au:Int))))) ⟨rfl,rfl⟩)))))
theorem Qj {β:Bs} (A:Option Addr) (c:Nat) (ns:List aO) (Y:eV) (hG:aP β A ns Y) (hl:ns.length<=1048576) (b:Nat) (au:Int) :
 aW Tryz.prog β 44 #[.slice A (ns.length) (c),.func (.func 45) #[] #[vP b]] [.aD b [vI (au)] 3] (λv l=>(∃i:Nat,AU ns au i/\v=vI (i:Int)/\l=[.aD b [vI (au)] 3])\/((∀q,q<ns.length->(nd ns q).id≠au)/\v=vI (-1)/\l=[.aD b [vI (au)] 3])):=by
 refine SE Tryz.func44 Tryz.ntmps44 (λR=>SR (jK 1 [] [] (NZ (jK 3 [7,8] [] (NN (aq.block (lJ (ι:=Nat) (λ(i:Nat)=>(i<=ns.length)/\(∀q,q<i->(nd ns q).id≠au)) (λ(i:Nat)=>ns.length-i) (λ(i:Nat)=>[(0,.slice A (ns.length) (c)),(1,.func (.func 45) #[] #[vP b]),(7,vI ↑ns.length),(8,vI ↑i)]) (λ(i:Nat)=>[.aD b [vI (au)] 3,.abs R]) 0 [0,1] (⟨ag0 _,λq h=>agY h (ag2 q)⟩) ?_)))))))
 rintro i ⟨hi,fU⟩
 exact SR (jK 1 [9] [] (NN (aq.seq (cP ((((i:Nat):Int):Int)<(((ns.length:Nat):Int):Int)) (λh9=>KX (aq.seq (aq.block (SR (jK 2 [5] [] (NS (jK 5 [11,15] [(3,x_ i ns.length (aP.hd hG (i:=i) zc)),(4,DR (iq Y i (nd ns i)) (λ_ _ h=>aP.rd hG zc h))] (gE [0] (aar b au ((nd ns i).id) (.int .i64 ((nd ns i).kind)) (.int .i64 ((nd ns i).mode)) (.int .i64 ((nd ns i).bg)) (.int .i64 ((nd ns i).bh)) (.int .i64 ((nd ns i).aU)) (.int .i64 ((nd ns i).aI)) (.slice (Y.dA i) ((nd ns i).data.length) ((Y.dC i))) (.string (nd ns i).target) (.slice (Y.eA i) ((nd ns i).ah.length) ((Y.eC i)))) (NN (cP ((nd ns i).id=au) (λo6=>zR (v:=(vI ↑i)) (.inl ⟨i,⟨zc,o6,fU⟩,rfl,rfl⟩)) (λo6=>KX (aq.region (jK 2 [8] [(0,wJ ((i:Int)+1) (↑(i+1)))] (NL (tJ ((i+1)) [0,1] (⟨zc,λq hq=>(ag3.1 hq).elim (fU q) (λe=>e ▸ o6)⟩)))))))))))))))) (λh9=>XX (zR (v:=(vI (-1))) (.inr ⟨λq hq=>fU q zc,rfl,rfl⟩)))))))
theorem aej {β:Bs} (b:Nat) :
 aW Tryz.prog β 46 #[.iface 37 (vP b)] [] (λv l=>v=.agg #[.iface 37 (vP b)]/\l=[]):=by
 exact SE Tryz.func46 Tryz.ntmps46 (λR=>SR (jB 1 [2] (λb2=>.aD b2 [.nilIface] 75) (λb2=>NS (jC 3 [] [(2,a_ 1 b2)] [(1,[(0,.iface 37 (vP b))])] (eS (v:=(.agg #[.iface 37 (vP b)])) [a_ 1 b2] ⟨rfl,rfl⟩)))))
end
section
open Go.RowKit bK aF Go.Maps
abbrev DP (X:FM) (ns:List aO):={S:bB // kP X ns ns.length 0 S}
theorem Hs (us:bE Th):us.length=(bn us).length:=(ahf ..).symm
theorem aas {S:bB} (h:Inv0 S):(aX S).length<=1048576:=by
 rw [ia]
 have:=h.len
 omega
end
section
open Go.RowKit Go.Maps bK aF
section m
variable {β:Bs} {ns:List aO} {Y:eV} {X:FM} {au:Int}
theorem aat (hcap:kK X) (hok:cA ns) (A:Option Addr) (c:Nat) (hG:aP β A ns Y) (hB:jZ ns 1048576) :
 aW Tryz.prog β 43 #[.agg #[.slice A ns.length c],.agg #[.int .i64 X.cN,.int .i64 X.cB,.int .i64 X.cH,.int .i64 X.cS,.int .i64 X.cZ]] [] (λv l=>∃(S:DP X ns) (f m t:Nat) (L:HL),v=.tuple #[.pointer (some ⟨f,0,none⟩),.int .i64 0]/\l=pA f m t L S.1):=
 (SC A c ns Y hG (vw hB) (FE hB) (I0 hB) (I3 hB) X).mono (by
  rintro v l (⟨h,_⟩|⟨_,h,_⟩|⟨_,_,h⟩)
  ·exact agY hcap h
  ·exact agY hok h
  obtain⟨S,f,m,t,L,h1,h2,h3⟩:=h
  exact⟨⟨S,h1⟩,f,m,t,L,h2,h3⟩)
theorem aau (Fc:¬(kK X/\cA ns)) (A:Option Addr) (c:Nat) (hG:aP β A ns Y) (hB:jZ ns 1048576) :
 aW Tryz.prog β 43 #[.agg #[.slice A ns.length c],.agg #[.int .i64 X.cN,.int .i64 X.cB,.int .i64 X.cH,.int .i64 X.cS,.int .i64 X.cZ]] [] (λv l=>v=.tuple #[.pointer none,.int .i64 (fC X ns au)]/\l=[]):=
 (SC A c ns Y hG (vw hB) (FE hB) (I0 hB) (I3 hB) X).mono (by
  rintro v l (⟨h,h1,h2⟩|⟨h,h',h1,h2⟩|⟨h1,h2,_⟩)
  ·exact⟨by rw [DM h];exact h1,h2⟩
  ·exact⟨by rw [AV h h'];exact h1,h2⟩
  exact agY ⟨h1,h2⟩ Fc)
theorem DQ (Fc:¬(kK X/\cA ns)):fC X ns au≠0:=λh=>Fc (Fl h)
theorem Xz {i:Nat} (hi:AU ns au i) (A:Option Addr) (c:Nat) (hG:aP β A ns Y) (hB:jZ ns 1048576) (b:Nat) :
 aW Tryz.prog β 44 #[.slice A ns.length c,.func (.func 45) #[] #[.pointer (some ⟨b,0,none⟩)]] [.aD b [.int .i64 au] 3] (λv l=>v=.int .i64 (i:Int)/\l=[.aD b [.int .i64 au] 3]):=
 (Qj A c ns Y hG (vw hB) b au).mono (by
  rintro v l (⟨j,hj,h1,h2⟩|⟨h,_⟩)
  ·have e:i=j:=by
    obtain⟨a1,a2,a3⟩:=hi
    obtain⟨b1,b2,b3⟩:=hj
    rcases ahK i j with h|h|h
    ·exact agY a2 (b3 i h)
    ·exact h
    exact agY b2 (a3 j h)
   subst e
   exact⟨h1,h2⟩
  exact agY hi.2.1 (h i hi.1))
theorem aav (hi:∀q,q<ns.length->(nd ns q).id≠au) (A:Option Addr) (c:Nat) (hG:aP β A ns Y) (hB:jZ ns 1048576) (b:Nat) :
 aW Tryz.prog β 44 #[.slice A ns.length c,.func (.func 45) #[] #[.pointer (some ⟨b,0,none⟩)]] [.aD b [.int .i64 au] 3] (λv l=>v=.int .i64 (-1)/\l=[.aD b [.int .i64 au] 3]):=
 (Qj A c ns Y hG (vw hB) b au).mono (by
  rintro v l (⟨j,hj,_⟩|⟨_,h1,h2⟩)
  ·exact agY hj.2.1 (hi j hj.1)
  exact⟨h1,h2⟩)
end m
theorem Q8 {X:FM} {ns:List aO} {au:Int} (h:¬(kK X/\cA ns)):fC X ns au=Fh X:=by
 by_cases h1:kK X
 ·rw [AV h1 (λh2=>h ⟨h1,h2⟩)];exact (agW h1).symm
 rw [DM h1];exact (agV h1).symm
end
end Go.Proofs.YtbnfiigafobejaaGreat
