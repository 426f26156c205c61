/-
  PROVED HERE: lemmas and contracts of functions (texts of this repo, joined; what the claim does not use is left out): DC, Dq, DM, DN, DS, DO, DK, Fz, Dr, DU, Co, Ss, Sv, Sw, So, Sy, Sz, Sq, Sj, Sg, Dg, Db, Dn, Hc, Hd, H1.
  CONDITIONS: as the theorems say.
-/
import Derived.Test.YtnipofpbcggjcaaGreatMHcalls3
set_option maxRecDepth 100000
set_option maxHeartbeats 4000000
namespace Go.Proofs.YtnipofpbcggjcaaGreat
section
open Go.RowKit Go.Maps aX aq
attribute [local irreducible] ak aU af ai bZ xD
noncomputable abbrev dZ (Y:RL) (Z:RS):=(.abs (ay 66 10 Y.A Z.ns.length Y.c (aR Y.L Z.ns)):HP)
noncomputable abbrev dO (Y:RL) (Z:RS):=(.abs (ay 3 1 Y.G Z.gone.length Y.cg (ints Z.gone)):HP)
noncomputable abbrev QL (Ag)(l:List Int) (cg):=(.abs (ay 3 1 Ag l.length cg (ints l)):HP)
noncomputable abbrev Yr (A1:Option Addr) (Z:RS) (k:Nat) (c1:Nat):=(.abs (ay 3 1 A1 ((ins (aq.least Z.us) (nd Z.ns k).id Z.us).length) c1 (ints (keys (ins (aq.least Z.us) (nd Z.ns k).id Z.us)))):HP)
noncomputable abbrev Vy (B1)(Z:RS) (k:Nat) (d1):=(.abs (ay 3 1 B1 ((ins (aq.least Z.us) (nd Z.ns k).id Z.us).length) d1 (ints (gn (ins (aq.least Z.us) (nd Z.ns k).id Z.us)))):HP)
noncomputable abbrev Ys (qB:Nat) (Z:RS) (A1:Option Addr) (k:Nat) (c1:Nat) (B1) (d1):=(.blk qB [vI (Z.cH),vI ((max Z.av ((Z.us.length:Int)+1))),.slice A1 ((ins (aq.least Z.us) (nd Z.ns k).id Z.us).length) (c1),.slice B1 ((ins (aq.least Z.us) (nd Z.ns k).id Z.us).length) (d1)] 40:HP)
noncomputable abbrev Vz (fF:Nat) (ux:Nat) (An:Option Addr) (p:List aA) (cn:Nat) (Ag) (l:List Int) (cg) (i:Nat):=([(1,vP fF),(2,vP ux),(3,.slice An (p.length) (cn)),(4,.slice Ag (l.length) (cg)),(5,vI ↑i)]:Fr)
noncomputable abbrev Yt (Z:RS):=([(6,vI (Z.cN)),(7,vI (Z.cB)),(8,vI (Z.cH)),(9,vI (Z.cS)),(10,vI (Z.cZ)),(11,vI (Z.last))]:Fr)
noncomputable abbrev VA (b1:Nat) (b2:Nat) (Ao) (q:List cW) (ca):=([(4,vP b1),(8,vP b2),(9,.slice Ao (q.length) (ca))]:Fr)
noncomputable abbrev lD (b1:Nat) (Z) (Y) (b2:Nat):=([.blk b1 (rV Z Y) 42,.blk b2 (rZ) 42]:List HP)
noncomputable abbrev Yu (mT:Nat) (q8:Nat) (Z:RS) (Y:RL) (k:Nat):=([(2,vP mT),(4,vP q8),(12,.agg #[vI (Z.cH),vI (Z.av),.slice Y.H (Z.us.length) (Y.ch),.slice Y.V (Z.us.length) (Y.cv)]),(19,vI ((nd Z.ns k).id))]:Fr)
noncomputable abbrev Yv (Z:RS) (A1:Option Addr) (k:Nat) (c1:Nat) (B1) (d1):=([(3,vI ((max Z.av ((Z.us.length:Int)+1)))),(4,.slice A1 ((ins (aq.least Z.us) (nd Z.ns k).id Z.us).length) (c1)),(5,.slice B1 ((ins (aq.least Z.us) (nd Z.ns k).id Z.us).length) (d1))]:Fr)
noncomputable abbrev Yw (Z:RS) (Y:RL):=([(2,vI (Z.cH)),(3,vI (Z.av)),(4,.slice Y.H (Z.us.length) (Y.ch)),(5,.slice Y.V (Z.us.length) (Y.cv))]:Fr)
theorem wN {β:Bs} (Z:RS) (Y:RL) (hI:jW β Z Y.L Y.H Y.V) (hB:RB Z) (d:Nat) (hd:d < Z.ns.length) (name:ByteArray) (id:Int) :
    cu Tryz.prog β 75 #[.agg ⟨rV Z Y⟩,vI (((d:Nat):Int)),.string name,vI (id)] [dZ Y Z,dO Y Z] (fun β' v l=>∃ L',v=.agg ⟨rV (bD Z d name id) Y⟩/\l=[.abs (ay 66 10 Y.A ((bD Z d name id).ns.length) Y.c (aR L' (bD Z d name id).ns)),.abs (ay 3 1 Y.G ((bD Z d name id).gone.length) Y.cg (ints (bD Z d name id).gone))]/\jW β' (bD Z d name id) L' Y.H Y.V):=by
 refine oW Tryz.func75 Tryz.ntmps75 (fun hle0 R=>?_)
 refine SR (jN 1 [4] (fun _=>[]) (fun _=>[]) (fun b1=>.blk b1 (rV Z Y) 42) (fun b1=>?_))
 refine jN 1 [8] (fun _=>[]) (fun _=>[]) (fun b2=>.blk b2 (rZ) 42) (fun b2=>?_)
 refine NS (jN 2 [9] (fun _=>[]) (fun _=>[]) (fun b3=>.blk b3 [] 68) (fun b3=>?_))
 refine NS (ak.mem (fun w hS=>hS.nP (i:=5) (b:=b3) (cs:=[]) (e:=68) 2 0 (by kernel_rfl) rfl (by decide)) ?_)
 refine jK 1 [10] [] ?_
 refine NS (ak.qG 0 rfl (by omega) (fun jx=>?_))
 refine jK 8 [11] [(2,a_ 3 b1),(4,x_ d Z.ns.length (jx)),(6,v_ 0 (nA Z.ns Y.L Y.A Y.c d 9 hd rfl))] ?_
 refine NN (af.seq (SR (jK 1 [12] [] ?_)))
 refine NN (af.block ?_)
 refine lJ (ι:=Nat×Bool×(List cW)×(Option Addr)×Nat) (fun (j,put,q,Ao,ca)=>(j<=(nd Z.ns d).ah.length)/\(dN (nd Z.ns d).ah name id j put q)) (fun (j,put,q,Ao,ca)=>(nd Z.ns d).ah.length - j) (fun (j,put,q,Ao,ca)=>([(1,vI ↑d),(2,.string name),(3,vI (id))]++VA b1 b2 Ao q ca++[(10,.bool put),(11,.slice (Y.L.eA d) ((nd Z.ns d).ah.length) ((Y.L.eC d))),(12,vI ↑j)])) (fun (j,put,q,Ao,ca)=>(lD b1 Z Y b2++[dZ Y Z,dO Y Z,.abs (ay 68 2 Ao q.length ca (jt q)),.abs R])) (0,false,[],some ⟨b3,0,none⟩,0) [3,4,0,1,5,2] (⟨Nat.zero_le _,dN.start⟩) ?_
 rintro⟨j,put,q,Ao,ca⟩ ⟨hj,he⟩
 have GW:=he.len hj
 have hrw:=hB.row hd
 refine af.seq (SR (jK 4 [24] [] ?_))
 refine NN (cP ((((j:Nat):Int):Int) < ((((nd Z.ns d).ah.length:Nat):Int):Int)) (fun zk=>?_) (fun zk=>?_))
 ·refine af.skip (NX (af.seq (af.block ?_)))
  refine af.join (ι:=Bool×(List cW)×(Option Addr)×Nat) (fun (p1,q1,A1,c1)=>(dN (nd Z.ns d).ah name id (j+1) p1 (q1++[en (nd Z.ns d).ah j]))/\(q1.length<=j+2)) (fun (p1,q1,A1,c1)=>([(1,vI ↑d),(2,.string name),(3,vI (id))]++VA b1 b2 A1 q1 c1++[(10,.bool p1),(11,.slice (Y.L.eA d) ((nd Z.ns d).ah.length) ((Y.L.eC d))),(12,vI ↑j)])) (fun (p1,q1,A1,c1)=>(lD b1 Z Y b2++[dZ Y Z,dO Y Z,.abs (ay 68 2 A1 q1.length c1 (jt q1)),.abs R])) ?_ ?_
  ·rintro⟨p1,q1,A1,c1⟩ ⟨he1,hl1⟩
   refine af.region (jN 6 [44,49] (fun b4=>[(3,x_ j ((nd Z.ns d).ah.length) (bg.hd (hI.ah d hd) (i:=j) (by omega))),(4,p_ ⟨[.old (.string (en (nd Z.ns d).ah j).name),.old (.int .i64 ((en (nd Z.ns d).ah j).id))],none,none,none,none⟩ [(Rd β ⟨(aP (Y.L.eA d)),aO (Y.L.eA d)+j * 2+1,none⟩ (.int .i64 ((en (nd Z.ns d).ah j).id))),(Rd β ⟨(aP (Y.L.eA d)),aO (Y.L.eA d)+j * 2,none⟩ (.string (en (nd Z.ns d).ah j).name))] ⟨bg.rd (hI.ah d hd) (i:=j) (by omega) (j:=1) rfl,bg.rd (hI.ah d hd) (i:=j) (by omega) (j:=0) rfl,trivial⟩)]) (fun _=>[]) (fun b4=>.blk b4 [.string (en (nd Z.ns d).ah j).name,vI ((en (nd Z.ns d).ah j).id)] 68) (fun b4=>?_))
   refine jZ 4 64 (some ⟨b4,0,none⟩) 1 1 [.string (en (nd Z.ns d).ah j).name,vI ((en (nd Z.ns d).ah j).id)] rfl (dV (j:=6) rfl) (fun A5 c6=>?_)
   refine ak.bM 4 rfl (yP (e:=(en (nd Z.ns d).ah j))) ?_
   refine sl 50 (.slice A5 (q1.length+1) (c6)) (.slice A5 ((q1++[(en (nd Z.ns d).ah j)]).length) (c6)) (by rw [← kq]) ?_
   refine jK 1 [9] [] ?_
   refine NL (ai.ax (NX (af.region ?_)))
   refine jK 3 [12] [(1,wJ ((j:Int)+1) (↑(j+1)))] ?_
   refine NL ?_
   exact tJ ((j+1),p1,(q1++[(en (nd Z.ns d).ah j)]),A5,c6) [0,1,2,3,4,5] (⟨by omega,he1⟩)
  refine SR (jK 3 [29] [] ?_)
  refine ak.lG 29 (!put) (fun _=>by kernel_rfl) (fun Kb=>?_) (fun Kb=>?_)
  ·refine jK 8 [37] [(2,x_ j ((nd Z.ns d).ah.length) (bg.hd (hI.ah d hd) (i:=j) (by omega))),(4,r_ (bg.rd (hI.ah d hd) (i:=j) (by omega) (j:=0) rfl)),(6,p_ ⟨[],none,none,none,some (.bool (!(decide (eH ((en (nd Z.ns d).ah j).name) name))))⟩ [(Value.bool (!(Op.bytesLess (((en (nd Z.ns d).ah j).name):ByteArray).toList ((name):ByteArray).toList || (((en (nd Z.ns d).ah j).name):ByteArray).toList == ((name):ByteArray).toList)))=(.bool (!(decide (eH ((en (nd Z.ns d).ah j).name) name))))] ⟨Yn _ _,trivial⟩)] ?_
   refine NN (cN (eH ((en (nd Z.ns d).ah j).name) name) (fun uo=>?_) (fun uo=>?_))
   ·refine SR ?_
    have hl1:=kq (q:=q) (e:=(⟨name,id⟩:cW))
    refine jN 5 [38,42] (fun _=>[]) (fun _=>[]) (fun b7=>.blk b7 [.string name,vI (id)] 68) (fun b7=>?_)
    refine jZ 4 64 (some ⟨b7,0,none⟩) 1 1 [.string name,vI (id)] rfl (dV (j:=6) rfl) (fun A8 c9=>?_)
    refine ak.bM 4 rfl (yP (e:=(⟨name,id⟩:cW))) ?_
    refine sl 43 (.slice A8 (q.length+1) (c9)) (.slice A8 ((q++[(⟨name,id⟩:cW)]).length) (c9)) (by rw [← kq]) ?_
    refine jK 1 [9] [] ?_
    refine NN (af.region (jK 1 [10] [] ?_))
    refine NL ?_
    exact mJ (true,(q++[(⟨name,id⟩:cW)]),A8,c9) [0,1,2,3,4,5] (⟨dN.put ((show put=false by simpa using Kb) ▸ he) (by omega) uo,by omega⟩)
   refine af.skip ?_
   exact mJ (put,q,Ao,ca) [0,1,2,3,4,5] (⟨he.keep (by omega) (fun _=>uo),by omega⟩)
  refine jK 8 [37] [] ?_
  refine NN (CF (af.skip ?_))
  exact mJ (put,q,Ao,ca) [0,1,2,3,4,5] (⟨he.keep (by omega) (fun e=>by rw [e] at Kb;cases Kb),by omega⟩)
 refine af.exit (ai.aC (ai.aC (ai.aW (NX ?_))))
 refine af.join (ι:=(List cW)×(Option Addr)×Nat) (fun (q2,A2,c2)=>(q2=(ji name id (nd Z.ns d).ah))) (fun (q2,A2,c2)=>([(1,vI ↑d)]++VA b1 b2 A2 q2 c2)) (fun (q2,A2,c2)=>(lD b1 Z Y b2++[dZ Y Z,dO Y Z,.abs (ay 68 2 A2 q2.length c2 (jt q2)),.abs R])) ?_ ?_
 ·rintro⟨q2,A2,c2⟩ ME
  refine SR ?_
  subst ME
  refine ak.j8 (Φ:=fun β'=>bg β' A2 (ji name id (nd Z.ns d).ah)) 4 [0,1,2,3,5] (eu:=(lD b1 Z Y b2++[dZ Y Z,dO Y Z,.abs R])) rfl rfl (by kernel_rfl) (fun F w h β' h1 h2=>bT.gu h h1 h2) (fun β1 aT hE=>?_)
  replace hI:=hI.le aT
  replace hle0:=hle0.trans aT
  refine jK 7 [63,65] [(2,a_ 0 b1),(5,x_ d Z.ns.length (jx))] ?_
  refine ak.uW 2 (d * 10+9) (d:=none) (T:=64) (e:=66) (size:=10) (n:=Z.ns.length) (cap:=Y.c) (A:=Y.A) (xs:=(aR Y.L Z.ns)) (u:=.slice A2 ((ji name id (nd Z.ns d).ah).length) (c2)) (a:=(.tmp 65)) (y:=(.tmp 63)) (fun _=>by kernel_rfl) (by kernel_rfl) (fun _=>by kernel_rfl) (fun _=>by kernel_rfl) (by kernel_rfl) rfl (by omega) (by rw [j4];omega) ?_
  refine NS (jK 9 [72,74] [(2,a_ 0 b1),(6,A_ 0 b1 2),(7,x_ d Z.ns.length (jx))] ?_)
  refine ak.yO 2 (d * 10+5) (d:=none) (T:=26) (e:=66) (size:=10) (n:=Z.ns.length) (cap:=Y.c) (A:=Y.A) (xs:=((aR Y.L Z.ns).set (d * 10+9) (.slice A2 ((ji name id (nd Z.ns d).ah).length) (c2)))) (u:=.int .i64 (Z.cS)) (u2:=.int .i64 (Z.cZ)) (a:=(.tmp 74)) (y:=(.tmp 72)) (fun _=>by kernel_rfl) (by kernel_rfl) (fun _=>by kernel_rfl) (fun _=>by kernel_rfl) (by kernel_rfl) rfl rfl (by omega) (by rw [List.length_set,j4];omega) ?_
  refine ak.bM 2 rfl (MI hd rfl) ?_
  refine NS (jC 2 [] [(0,A_ 0 b1 12),(1,A_ 1 b2 12)] [(1,(zC (rV Z Y)))] ?_)
  refine NN (af.ret ?_)
  exact rB (l:=[.abs (ay 66 10 Y.A ((bD Z d name id).ns.length) Y.c (aR (Y.L.ent d A2 c2) (bD Z d name id).ns)),dO Y Z]) (.agg ⟨rV Z Y⟩) [A_ 1 b2 12] [2,3,4] hle0 (⟨_,by simp only [rV];rw [FQ];rfl,rfl,hI.jO hd hE rfl rfl⟩)
 refine SR (jK 2 [52] [] ?_)
 refine NN (af.cond (b:=(!put)) (fun _=>by kernel_rfl) (fun wm=>?_) (fun wm=>?_))
 ·refine af.region (jN 5 [53,57] (fun _=>[]) (fun _=>[]) (fun b10=>.blk b10 [.string name,vI (id)] 68) (fun b10=>?_))
  refine jZ 4 64 (some ⟨b10,0,none⟩) 1 1 [.string name,vI (id)] rfl (dV (j:=6) rfl) (fun Cv zo=>?_)
  refine ak.bM 4 rfl (yP (e:=(⟨name,id⟩:cW))) ?_
  refine sl 58 (.slice Cv (q.length+1) (zo)) (.slice Cv ((q++[(⟨name,id⟩:cW)]).length) (zo)) (by rw [← kq]) ?_
  refine jK 1 [9] [] ?_
  refine NL ?_
  exact mJ ((q++[(⟨name,id⟩:cW)]),Cv,zo) [0,1,2,3,4,5] (dN.last (by grind))
 refine af.skip ?_
 exact mJ (q,Ao,ca) [0,1,2,3,4,5] (dN.end_ (by grind))
theorem wO {β:Bs} (Z:RS) (Y:RL) (hI:jW β Z Y.L Y.H Y.V) {n:Nat} (hD:RD n Z) (hn:n<=7) (d:Nat) (hd:d < Z.ns.length) (name:ByteArray) (free:Bool) :
    cu Tryz.prog β 115 #[.agg ⟨rV Z Y⟩,vI (((d:Nat):Int)),.string name,.bool free] [dZ Y Z,dO Y Z] (fun β' v l=>∃ L' G' cg',v=.agg ⟨rW (bA Z d name free) Y.A Y.c G' cg' Y.H Y.ch Y.V Y.cv⟩/\l=[.abs (ay 66 10 Y.A ((bA Z d name free).ns.length) Y.c (aR L' (bA Z d name free).ns)),.abs (ay 3 1 G' ((bA Z d name free).gone.length) cg' (ints (bA Z d name free).gone))]/\jW β' (bA Z d name free) L' Y.H Y.V):=by
 refine oW Tryz.func115 Tryz.ntmps115 (fun hle0 R=>?_)
 refine SR (jN 1 [4] (fun _=>[]) (fun _=>[]) (fun b13=>.blk b13 (rV Z Y) 42) (fun b13=>?_))
 refine jN 1 [8] (fun _=>[]) (fun _=>[]) (fun b14=>.blk b14 (rZ) 42) (fun b14=>?_)
 refine NS (jN 2 [9] (fun _=>[]) (fun _=>[]) (fun b15=>.blk b15 [] 68) (fun b15=>?_))
 refine NS (ak.mem (fun w hS=>hS.nP (i:=5) (b:=b15) (cs:=[]) (e:=68) 2 0 (by kernel_rfl) rfl (by decide)) ?_)
 refine ak.qG 0 rfl (by omega) (fun jx=>?_)
 refine jK 8 [10] [(2,a_ 3 b13),(4,x_ d Z.ns.length (jx)),(6,v_ 0 (nA Z.ns Y.L Y.A Y.c d 9 hd rfl))] ?_
 refine NS (jK 1 [11] [] ?_)
 refine NN (af.seq (SR (jK 1 [12] [] ?_)))
 refine NN (af.block ?_)
 refine lJ (ι:=Nat×(List cW)×Int×(Option Addr)×Nat) (fun (j,q,z,Ao,ca)=>(j<=(nd Z.ns d).ah.length)/\(q=ol name ((nd Z.ns d).ah.take j))/\(z=nB name ((nd Z.ns d).ah.take j) 0)) (fun (j,q,z,Ao,ca)=>(nd Z.ns d).ah.length - j) (fun (j,q,z,Ao,ca)=>([(1,vI ↑d),(2,.string name),(3,.bool free)]++VA b13 b14 Ao q ca++[(10,.slice (Y.L.eA d) ((nd Z.ns d).ah.length) ((Y.L.eC d))),(11,vI (z)),(12,vI ↑j)])) (fun (j,q,z,Ao,ca)=>(lD b13 Z Y b14++[dZ Y Z,dO Y Z,.abs (ay 68 2 Ao q.length ca (jt q)),.abs R])) (0,[],0,some ⟨b15,0,none⟩,0) [3,4,0,1,5,2] (⟨Nat.zero_le _,rfl,rfl⟩) ?_
 rintro⟨j,q,z,Ao,ca⟩ ⟨hj,hq,hz⟩
 have GW:q.length<=j:=by rw [hq];exact Ua
 have hrw:=(hD.rb (by omega)).row hd
 refine af.seq (SR (jK 4 [24] [] ?_))
 refine NN (cP ((((j:Nat):Int):Int) < ((((nd Z.ns d).ah.length:Nat):Int):Int)) (fun zk=>?_) (fun zk=>?_))
 ·refine af.skip (NX (af.seq (af.block (SR ?_))))
  refine jK 7 [33] [(2,x_ j ((nd Z.ns d).ah.length) (bg.hd (hI.ah d hd) (i:=j) (by omega))),(4,r_ (bg.rd (hI.ah d hd) (i:=j) (by omega) (j:=0) rfl)),(6,w_ (.bool (decide (((en (nd Z.ns d).ah j).name:ByteArray)=name))) (mX _ _))] ?_
  refine NN (cP (((en (nd Z.ns d).ah j).name:ByteArray)=name) (fun Gx=>?_) (fun Gx=>?_))
  ·refine af.region (jK 6 [11] [(2,x_ j ((nd Z.ns d).ah.length) (bg.hd (hI.ah d hd) (i:=j) (by omega))),(4,r_ (bg.rd (hI.ah d hd) (i:=j) (by omega) (j:=1) rfl))] ?_)
   refine NL (ai.ax (NX (af.region ?_)))
   refine jK 3 [12] [(1,wJ ((j:Int)+1) (↑(j+1)))] ?_
   refine NL ?_
   exact tJ ((j+1),q,(en (nd Z.ns d).ah j).id,Ao,ca) [0,1,2,3,4,5] (⟨by omega,by grind [HV],WV (by omega) Gx⟩)
  refine af.region (jN 6 [39,44] (fun b16=>[(3,x_ j ((nd Z.ns d).ah.length) (bg.hd (hI.ah d hd) (i:=j) (by omega))),(4,p_ ⟨[.old (.string (en (nd Z.ns d).ah j).name),.old (.int .i64 ((en (nd Z.ns d).ah j).id))],none,none,none,none⟩ [(Rd β ⟨(aP (Y.L.eA d)),aO (Y.L.eA d)+j * 2+1,none⟩ (.int .i64 ((en (nd Z.ns d).ah j).id))),(Rd β ⟨(aP (Y.L.eA d)),aO (Y.L.eA d)+j * 2,none⟩ (.string (en (nd Z.ns d).ah j).name))] ⟨bg.rd (hI.ah d hd) (i:=j) (by omega) (j:=1) rfl,bg.rd (hI.ah d hd) (i:=j) (by omega) (j:=0) rfl,trivial⟩)]) (fun _=>[]) (fun b16=>.blk b16 [.string (en (nd Z.ns d).ah j).name,vI ((en (nd Z.ns d).ah j).id)] 68) (fun b16=>?_))
  refine jZ 4 64 (some ⟨b16,0,none⟩) 1 1 [.string (en (nd Z.ns d).ah j).name,vI ((en (nd Z.ns d).ah j).id)] rfl (dV (j:=6) rfl) (fun kK lP=>?_)
  refine ak.bM 4 rfl (yP (e:=(en (nd Z.ns d).ah j))) ?_
  refine sl 45 (.slice kK (q.length+1) (lP)) (.slice kK ((q++[(en (nd Z.ns d).ah j)]).length) (lP)) (by rw [← kq]) ?_
  refine jK 1 [9] [] ?_
  refine NL (ai.ax (NX (af.region ?_)))
  refine jK 3 [12] [(1,wJ ((j:Int)+1) (↑(j+1)))] ?_
  refine NL ?_
  exact tJ ((j+1),(q++[(en (nd Z.ns d).ah j)]),z,kK,lP) [0,1,2,3,4,5] (⟨by omega,by grind [FO],by rw [hz];exact T9 (by omega) Gx⟩)
 refine af.exit (ai.aC (ai.aC (ai.aW (NX (SR ?_)))))
 have hje:j=(nd Z.ns d).ah.length:=by omega
 rw [hje,List.take_length] at hq hz
 subst hq
 subst hz
 refine ak.j8 (Φ:=fun β'=>bg β' Ao (ol name (nd Z.ns d).ah)) 4 [0,1,2,3,5] (eu:=(lD b13 Z Y b14++[dZ Y Z,dO Y Z,.abs R])) rfl rfl (by kernel_rfl) (fun F w h β' h1 h2=>bT.gu h h1 h2) (fun β1 aT hE=>?_)
 replace hI:=hI.le aT
 replace hle0:=hle0.trans aT
 refine jK 7 [50,52] [(2,a_ 0 b13),(5,x_ d Z.ns.length (jx))] ?_
 refine ak.uW 2 (d * 10+9) (d:=none) (T:=64) (e:=66) (size:=10) (n:=Z.ns.length) (cap:=Y.c) (A:=Y.A) (xs:=(aR Y.L Z.ns)) (u:=.slice Ao ((ol name (nd Z.ns d).ah).length) (ca)) (a:=(.tmp 52)) (y:=(.tmp 50)) (fun _=>by kernel_rfl) (by kernel_rfl) (fun _=>by kernel_rfl) (fun _=>by kernel_rfl) (by kernel_rfl) rfl (by omega) (by rw [j4];omega) ?_
 refine NS (jK 9 [59,61] [(2,a_ 0 b13),(6,A_ 0 b13 2),(7,x_ d Z.ns.length (jx))] ?_)
 refine ak.yO 2 (d * 10+5) (d:=none) (T:=26) (e:=66) (size:=10) (n:=Z.ns.length) (cap:=Y.c) (A:=Y.A) (xs:=((aR Y.L Z.ns).set (d * 10+9) (.slice Ao ((ol name (nd Z.ns d).ah).length) (ca)))) (u:=.int .i64 (Z.cS)) (u2:=.int .i64 (Z.cZ)) (a:=(.tmp 61)) (y:=(.tmp 59)) (fun _=>by kernel_rfl) (by kernel_rfl) (fun _=>by kernel_rfl) (fun _=>by kernel_rfl) (by kernel_rfl) rfl rfl (by omega) (by rw [List.length_set,j4];omega) ?_
 refine ak.bM 2 rfl (MI hd rfl) ?_
 refine NN (af.seq (SR ?_))
 have bE:jW β1 (yQ Z d name) (Y.L.ent d Ao ca) Y.H Y.V:=hI.jO hd hE rfl rfl
 have xK:RD (n+1) (yQ Z d name):=hD.del hd
 refine jK 2 [63] [] ?_
 refine ak.lG 63 free (fun _=>by kernel_rfl) (fun h63=>?_) (fun h63=>?_)
 ·refine jK 2 [64,65] [(0,A_ 0 b13 12)] ?_
  have q2:=fun ou (h:cD ou (yQ Z d name) ⟨Y.A,Y.c,(Y.L.ent d Ao ca),Y.G,Y.cg,Y.H,Y.ch,Y.V,Y.cv⟩)=>Qs (yQ Z d name) ⟨Y.A,Y.c,(Y.L.ent d Ao ca),Y.G,Y.cg,Y.H,Y.ch,Y.V,Y.cv⟩ h (xK.rb (by omega)) (nB name (nd Z.ns d).ah 0)
  simp only [rV,WX] at q2
  refine gL [2,3] (cV bE (fun _ _ h=>q2 _ h)) ?_
  rintro _ _ ⟨rfl,rfl⟩
  refine jK 2 [68] [] ?_
  refine NN (cP (((qy (yQ Z d name).ns (nB name (nd Z.ns d).ah 0)):Int)=(0:Int)) (fun h68=>?_) (fun h68=>?_))
  ·refine af.region (jN 4 [70,72] (fun b19=>[(1,a_ 2 b13)]) (fun _=>[]) (fun b19=>.blk b19 [vI ((nB name (nd Z.ns d).ah 0))] 3) (fun b19=>?_))
   refine jZ 1 38 (some ⟨b19,0,none⟩) 1 1 [vI ((nB name (nd Z.ns d).ah 0))] rfl (dV (j:=5) rfl) (fun ju jv=>?_) (n:=Z.gone.length) (hb:=by have:=hD.gone;omega)
   refine ak.bM 1 rfl (A6) ?_
   refine sl 73 (.slice ju (Z.gone.length+1) (jv)) (.slice ju ((Z.gone++[(nB name (nd Z.ns d).ah 0)]).length) (jv)) (by rw [← kq]) ?_
   refine jC 2 [] [(1,a_ 2 b13)] [(2,[(1,.slice ju ((Z.gone++[(nB name (nd Z.ns d).ah 0)]).length) (jv))])] ?_
   refine NS (jC 2 [] [(0,A_ 2 b13 12),(1,A_ 3 b14 12)] [(3,([(0,.slice Y.A (Z.ns.length) (Y.c)),(1,.slice ju ((Z.gone++[(nB name (nd Z.ns d).ah 0)]).length) (jv))]++Yw Z Y++Yt Z))] ?_)
   refine NN (af.ret ?_)
   exact rB _ [A_ 3 b14 12] [0,1,4] hle0 (⟨(Y.L.ent d Ao ca),ju,jv,by simp only [rV,rW];rw [MJ h63 h68,q4]<;>rfl,by rw [MJ h63 h68]<;>rfl,bE.same rfl rfl⟩)
  refine af.skip (NX (SR (jC 2 [] [(0,A_ 2 b13 12),(1,A_ 3 b14 12)] [(3,(zC (rV Z Y)))] ?_)))
  refine NN (af.ret ?_)
  exact rB _ [A_ 3 b14 12] [0,1,4] hle0 (⟨(Y.L.ent d Ao ca),Y.G,Y.cg,by simp only [rV,rW];rw [EH (fun _=>h68),q4]<;>rfl,by rw [EH (fun _=>h68)]<;>rfl,bE.same rfl rfl⟩)
 refine jK 5 [68] [] ?_
 refine NN (CF (af.skip (NX (SR (jC 2 [] [(0,A_ 0 b13 12),(1,A_ 1 b14 12)] [(1,(zC (rV Z Y)))] ?_)))))
 refine NN (af.ret ?_)
 exact rB _ [A_ 1 b14 12] [2,3,4] hle0 (⟨(Y.L.ent d Ao ca),Y.G,Y.cg,by simp only [rV,rW];rw [EH (fun e=>by rw [e] at h63;cases h63),q4]<;>rfl,by rw [EH (fun e=>by rw [e] at h63;cases h63)]<;>rfl,bE.same rfl rfl⟩)
theorem WY {β:Bs} (Z:RS) (Y:RL) (hI:jW β Z Y.L Y.H Y.V) {n:Nat} (hD:RD n Z) (hn:n<=8) (hl:0<=Z.last/\Z.last < 1099511627776) (d:Nat) (hd:d < Z.ns.length) (name:ByteArray) (x:aA) (hxd:x.data=[]) (QM:x.ah=[]) :
    cu Tryz.prog β 144 #[.agg ⟨rV Z Y⟩,vI (((d:Nat):Int)),.string name,.agg #[vI (x.id),vI (x.kind),vI (x.mode),vI (x.uid),vI (x.gid),vI (x.sec),vI (x.nano),.slice none (0) (0),.string x.target,.slice none (0) (0)]] [dZ Y Z,dO Y Z] (fun β' v l=>∃ A' c' L',v=.agg ⟨rW (sM Z d name x) A' c' Y.G Y.cg Y.H Y.ch Y.V Y.cv⟩/\l=[.abs (ay 66 10 A' ((sM Z d name x).ns.length) c' (aR L' (sM Z d name x).ns)),.abs (ay 3 1 Y.G ((sM Z d name x).gone.length) Y.cg (ints (sM Z d name x).gone))]/\jW β' (sM Z d name x) L' Y.H Y.V):=by
 refine oW Tryz.func144 Tryz.ntmps144 (fun hle0 R=>?_)
 refine SR (jN 1 [4] (fun _=>[]) (fun _=>[]) (fun iK=>.blk iK (rV Z Y) 42) (fun iK=>?_))
 refine jN 1 [7] (fun _=>[]) (fun _=>[]) (fun vT=>.blk vT [vI (x.id),vI (x.kind),vI (x.mode),vI (x.uid),vI (x.gid),vI (x.sec),vI (x.nano),.slice none (0) (0),.string x.target,.slice none (0) (0)] 66) (fun vT=>?_)
 refine jN 1 [8] (fun _=>[]) (fun _=>[]) (fun Hj=>.blk Hj (rZ) 42) (fun Hj=>?_)
 refine NS (jC 5 [] [(1,a_ 3 iK),(2,wJ (Z.last+1) (Z.last+1)),(4,a_ 3 iK)] [(3,[(11,vI (Z.last+1))])] ?_)
 refine NS (jC 4 [] [(1,a_ 3 iK),(3,a_ 4 vT)] [(4,[(0,vI (Z.last+1))])] ?_)
 refine NS (jC 5 [] [(2,A_ 3 iK 2),(4,A_ 4 vT 2)] [(4,[(5,vI (Z.cS)),(6,vI (Z.cZ))])] ?_)
 refine NS ?_
 have hI0:jW β ({ Z with last:=Z.last+1 }:RS) Y.L Y.H Y.V:=hI.same rfl rfl
 refine jK 5 [20,21,22,24] [(0,A_ 3 iK 12),(4,a_ 4 vT)] ?_
 refine kZ [0,1] (wN ({ Z with last:=Z.last+1 }:RS) Y hI0 (RD.rb (hD.last _) hn) d hd name (Z.last+1)) ?_
 rintro β1 _ _ aT ⟨L1,rfl,rfl,bE⟩
 replace hI:=hI.le aT
 replace hle0:=hle0.trans aT
 refine jC 1 [] [(0,A_ 3 iK 12)] [(3,(zC (rV (bD ({ Z with last:=Z.last+1 }:RS) d name (Z.last+1)) Y)))] ?_
 refine NS ?_
 have hl1:(bD ({ Z with last:=Z.last+1 }:RS) d name (Z.last+1)).ns.length=Z.ns.length:=FQ
 refine jN 5 [28,30] (fun o9=>[(2,a_ 3 iK),(3,A_ 4 vT 10)]) (fun _=>[]) (fun o9=>.blk o9 [vI (Z.last+1),vI (x.kind),vI (x.mode),vI (x.uid),vI (x.gid),vI (Z.cS),vI (Z.cZ),.slice none (0) (0),.string x.target,.slice none (0) (0)] 66) (fun o9=>?_)
 refine jZ 0 22 (some ⟨o9,0,none⟩) 1 1 [vI (Z.last+1),vI (x.kind),vI (x.mode),vI (x.uid),vI (x.gid),vI (Z.cS),vI (Z.cZ),.slice none (0) (0),.string x.target,.slice none (0) (0)] rfl (dV (j:=6) rfl) (fun mQ mR=>?_) (n:=(bD ({ Z with last:=Z.last+1 }:RS) d name (Z.last+1)).ns.length) (hb:=by have:=hD.ns;omega)
 refine ak.bM 0 rfl (Dk (n:=({ x with id:=Z.last+1,sec:=Z.cS,nano:=Z.cZ }:aA)) (by show x.data.length=0;rw [hxd];rfl) (by show x.ah.length=0;rw [QM];rfl)) ?_
 refine sl 31 (.slice mQ (((bD ({ Z with last:=Z.last+1 }:RS) d name (Z.last+1)).ns.length)+1) (mR)) (.slice mQ (((bD ({ Z with last:=Z.last+1 }:RS) d name (Z.last+1)).ns++[({ x with id:=Z.last+1,sec:=Z.cS,nano:=Z.cZ }:aA)]).length) (mR)) (by rw [← kq]) ?_
 refine jC 3 [] [(2,a_ 3 iK)] [(3,[(0,.slice mQ (((bD ({ Z with last:=Z.last+1 }:RS) d name (Z.last+1)).ns++[({ x with id:=Z.last+1,sec:=Z.cS,nano:=Z.cZ }:aA)]).length) (mR))])] ?_
 refine NS (jC 2 [] [(0,A_ 3 iK 12),(1,A_ 5 Hj 12)] [(5,[(0,.slice mQ (((bD ({ Z with last:=Z.last+1 }:RS) d name (Z.last+1)).ns++[({ x with id:=Z.last+1,sec:=Z.cS,nano:=Z.cZ }:aA)]).length) (mR)),(1,.slice Y.G ((bD ({ Z with last:=Z.last+1 }:RS) d name (Z.last+1)).gone.length) (Y.cg)),(2,vI ((bD ({ Z with last:=Z.last+1 }:RS) d name (Z.last+1)).cH)),(3,vI ((bD ({ Z with last:=Z.last+1 }:RS) d name (Z.last+1)).av)),(4,.slice Y.H ((bD ({ Z with last:=Z.last+1 }:RS) d name (Z.last+1)).us.length) (Y.ch)),(5,.slice Y.V ((bD ({ Z with last:=Z.last+1 }:RS) d name (Z.last+1)).us.length) (Y.cv)),(6,vI ((bD ({ Z with last:=Z.last+1 }:RS) d name (Z.last+1)).cN)),(7,vI ((bD ({ Z with last:=Z.last+1 }:RS) d name (Z.last+1)).cB)),(8,vI ((bD ({ Z with last:=Z.last+1 }:RS) d name (Z.last+1)).cH)),(9,vI ((bD ({ Z with last:=Z.last+1 }:RS) d name (Z.last+1)).cS)),(10,vI ((bD ({ Z with last:=Z.last+1 }:RS) d name (Z.last+1)).cZ)),(11,vI ((bD ({ Z with last:=Z.last+1 }:RS) d name (Z.last+1)).last))])] ?_)
 refine NN (af.ret ?_)
 exact rB _ [A_ 5 Hj 12] [0,1,2] hle0 (⟨mQ,mR,_,rfl,rfl,bE.snoc (n:=({ x with id:=Z.last+1,sec:=Z.cS,nano:=Z.cZ }:aA)) rfl hxd QM rfl⟩)
theorem tY {β:Bs} (Z:RS) (Y:RL) (hR:cD β Z Y) (hB:RB Z) :
    cu Tryz.prog β 79 #[.agg ⟨rV Z Y⟩] [] (fun β' v l=>∃ Y',v=.agg ⟨rV (dx Z) Y'⟩/\l=[]/\cD β' (dx Z) Y'):=by
 refine oW Tryz.func79 Tryz.ntmps79 (fun hle0 R=>?_)
 refine SR (jN 1 [1] (fun _=>[]) (fun _=>[]) (fun fF=>.blk fF (rV Z Y) 42) (fun fF=>?_))
 refine jN 1 [2] (fun _=>[]) (fun _=>[]) (fun ux=>.blk ux (rZ) 42) (fun ux=>?_)
 refine NS (jN 2 [3] (fun _=>[]) (fun _=>[]) (fun VB=>.blk VB [] 66) (fun VB=>?_))
 refine NS (ak.mem (fun w hS=>hS.nP (i:=3) (b:=VB) (cs:=[]) (e:=66) 10 0 (by kernel_rfl) rfl (by decide)) ?_)
 refine jN 2 [4] (fun _=>[]) (fun _=>[]) (fun qA=>.blk qA [] 3) (fun qA=>?_)
 refine NN (af.seq (SR (ak.mem (fun w hS=>hS.nP (i:=4) (b:=qA) (cs:=[]) (e:=3) 1 0 (by kernel_rfl) rfl (by decide)) ?_)))
 refine jK 1 [5] [] ?_
 refine NN (af.block ?_)
 refine lJ (fun (i,p,K,An,cn,l,Ag,cg)=>(i<=Z.ns.length)/\(p=p8 Z i)/\(l=lM Z i)/\(kA β p p.length K)) (fun (i,p,K,An,cn,l,Ag,cg)=>Z.ns.length - i) (fun (i,p,K,An,cn,l,Ag,cg)=>(Vz fF ux An p cn Ag l cg i)) (fun (i,p,K,An,cn,l,Ag,cg)=>(lD fF Z Y ux++[.abs (ay 66 10 An p.length cn (aR K p)),QL Ag l cg,.abs R])) (0,[],Dg,some ⟨VB,0,none⟩,0,[],some ⟨qA,0,none⟩,0) [1,2,3,4,0] (⟨Nat.zero_le _,rfl,rfl,⟨fun i hi=>absurd hi (Nat.not_lt_zero i),fun i hi=>absurd hi (Nat.not_lt_zero i)⟩⟩) ?_
 rintro⟨i,p,K,An,cn,l,Ag,cg⟩ ⟨hi,hp,hl,hK⟩
 have Vt:=hB.ns
 have hpl:p.length<=i:=by rw [hp];exact G5
 have hll:l.length<=i:=by rw [hl];exact QE
 refine af.seq (SR (jK 6 [16] [(3,a_ 0 fF)] ?_))
 refine NN (cP ((((i:Nat):Int):Int) < (((Z.ns.length:Nat):Int):Int)) (fun oy=>?_) (fun oy=>?_))
 ·refine af.skip (NX (af.seq (af.block (SR ?_))))
  refine jK 8 [6] [(2,a_ 0 fF),(4,x_ i Z.ns.length (aB.hd hR.n (i:=i) (by omega))),(6,r_ (aB.rd hR.n (i:=i) (by omega) (j:=0) rfl))] ?_
  refine NS (jK 1 [7] [] ?_)
  refine NN (af.seq (SR (jK 1 [8] [] ?_)))
  refine NN (af.block ?_)
  refine lJ (fun (k,op)=>(k<=Z.us.length)/\(op=true↔∃ q,q < k/\(gn Z.us).getD q 0=(nd Z.ns i).id)) (fun (k,op)=>Z.us.length - k) (fun (k,op)=>(Vz fF ux An p cn Ag l cg i++[(6,vI ((nd Z.ns i).id)),(7,.bool op),(8,vI ↑k)])) (fun (k,op)=>(lD fF Z Y ux++[.abs (ay 66 10 An p.length cn (aR K p)),QL Ag l cg,.abs R])) (0,false) [0,1,2,3,4] (⟨Nat.zero_le _,⟨fun e=>(by cases e),fun ⟨q,h,_⟩=>absurd h (Nat.not_lt_zero q)⟩⟩) ?_
  rintro⟨k,op⟩ ⟨hk,hop⟩
  have hbu:=hB.us
  refine af.seq (SR (jK 6 [31] [(3,a_ 0 fF)] ?_))
  refine NN (cP ((((k:Nat):Int):Int) < (((Z.us.length:Nat):Int):Int)) (fun Pq=>?_) (fun Pq=>?_))
  ·refine af.skip (NX (af.seq (af.block (SR ?_))))
   refine jK 8 [41] [(2,a_ 0 fF),(4,x_ k Z.us.length (oJ.hd (l:=(gn Z.us)) hR.v (j:=k) (by grind [gD,jo]))),(5,r_ (oJ.rd (l:=(gn Z.us)) hR.v (j:=k) (by grind [gD,jo])))] ?_
   refine NN (cP ((((gn Z.us).getD k 0):Int)=((nd Z.ns i).id:Int)) (fun Cy=>?_) (fun Cy=>?_))
   ·refine af.region (jK 1 [7] [] ?_)
    refine NL (ai.ax (NX (af.region ?_)))
    refine jK 3 [8] [(1,wJ ((k:Int)+1) (↑(k+1)))] ?_
    refine NL ?_
    exact tJ ((k+1),true) [0,1,2,3,4] (⟨by omega,⟨fun _=>⟨k,by omega,Cy⟩,fun _=>rfl⟩⟩)
   refine af.skip (ai.ax (NX (af.region ?_)))
   refine jK 3 [8] [(1,wJ ((k:Int)+1) (↑(k+1)))] ?_
   refine NL ?_
   exact tJ ((k+1),op) [0,1,2,3,4] (⟨by omega,⟨fun e=>let ⟨q,h1,h2⟩:=hop.1 e;⟨q,by omega,h2⟩,fun ⟨q,h1,h2⟩=>hop.2 (by grind)⟩⟩)
  refine af.exit (ai.aC (ai.aC (ai.aW (NX (af.seq (SR ?_))))))
  replace hop:op=true↔(nd Z.ns i).id∈gn Z.us:=hop.trans (by rw [show k=Z.us.length by omega];exact abb.symm)
  refine jK 2 [42,43] [(0,A_ 0 fF 12)] ?_
  refine gL [] (vJ Z Y hR hB (nd Z.ns i).id) ?_
  rintro _ _ ⟨rfl,rfl⟩
  refine jK 1 [45] [] ?_
  refine sP 45 ((nd Z.ns i).id∈Z.gone) (fun Pw=>?_) (fun Pw=>?_)
  ·refine jK 2 [47] [] ?_
   refine jK 1 [48] [] ?_
   refine NN (af.cond (b:=(!op)) (fun _=>by kernel_rfl) (fun h48=>?_) (fun h48=>?_))
   ·refine af.exit (ai.aC (ai.aW (NX (af.region ?_))))
    refine jK 3 [5] [(1,wJ ((i:Int)+1) (↑(i+1)))] ?_
    refine NL ?_
    have hnk:¬ om Z (nd Z.ns i)=true:=fun e=>by grind [Dj]
    exact tJ ((i+1),p,K,An,cn,l,Ag,cg) [0,1,2,3,4] (⟨by omega,by rw [hp,J2 (by omega) hnk],by rw [hl,Oc (by omega) hnk],hK⟩)
   have hkp:om Z (nd Z.ns i)=true:=Dj.2 (fun hg=>hop.1 (by simpa using h48))
   refine af.skip (NX (af.join (fun (l2,A2,c2)=>(l2=lM Z (i+1))) (fun (l2,A2,c2)=>(Vz fF ux An p cn A2 l2 c2 i)) (fun (l2,A2,c2)=>(lD fF Z Y ux++[.abs (ay 66 10 An p.length cn (aR K p)),QL A2 l2 c2,.abs R])) ?_ ?_))
   ·rintro⟨l2,A2,c2⟩ hl2
    refine af.region (jN 8 [56,63] (fun b32=>[(3,a_ 0 fF),(5,x_ i Z.ns.length (aB.hd hR.n (i:=i) (by omega))),(6,zP (eT Y.L i (nd Z.ns i)) (fun _ _ h=>aB.rd hR.n (by omega) h))]) (fun _=>[]) (fun b32=>.blk b32 (eT Y.L i (nd Z.ns i)) 66) (fun b32=>?_))
    refine jZ 2 22 (some ⟨b32,0,none⟩) 1 1 (eT Y.L i (nd Z.ns i)) rfl (dV (j:=5) rfl) (fun Hl Ho=>?_)
    refine ak.bM 2 rfl (Dk (n:=nd Z.ns i) rfl rfl) ?_
    refine sl 64 (.slice Hl (p.length+1) (Ho)) (.slice Hl ((p++[nd Z.ns i]).length) (Ho)) (by rw [← kq]) ?_
    refine jK 1 [3] [] ?_
    refine NL (ai.ax (NX (af.region ?_)))
    refine jK 3 [5] [(1,wJ ((i:Int)+1) (↑(i+1)))] ?_
    refine NL ?_
    exact tJ ((i+1),(p++[nd Z.ns i]),(K.put p.length (Y.L.dA i) (Y.L.dC i) (Y.L.eA i) (Y.L.eC i)),Hl,Ho,l2,A2,c2) [0,1,2,3,4] (⟨by omega,by rw [hp,wM (by omega) hkp],hl2,hK.snoc (hR.n.data i (by omega)) (hR.n.ah i (by omega))⟩)
   refine SR (jK 2 [49,50] [(0,A_ 0 fF 12)] ?_)
   refine gL [] (vJ Z Y hR hB (nd Z.ns i).id) ?_
   rintro _ _ ⟨rfl,rfl⟩
   refine NN (cP ((nd Z.ns i).id∈Z.gone) (fun zl=>?_) (fun zl=>?_))
   ·refine af.region (jN 3 [52,54] (fun _=>[]) (fun _=>[]) (fun zT=>.blk zT [vI ((nd Z.ns i).id)] 3) (fun zT=>?_))
    refine jZ 3 38 (some ⟨zT,0,none⟩) 1 1 [vI ((nd Z.ns i).id)] rfl (dV (j:=5) rfl) (fun Yx Yy=>?_)
    refine ak.bM 3 rfl (A6) ?_
    refine sl 55 (.slice Yx (l.length+1) (Yy)) (.slice Yx ((l++[(nd Z.ns i).id]).length) (Yy)) (by rw [← kq]) ?_
    refine jK 1 [4] [] ?_
    refine NL ?_
    exact mJ ((l++[(nd Z.ns i).id]),Yx,Yy) [0,1,2,3,4] (by rw [hl,G3 (by omega) hkp zl])
   refine af.skip ?_
   exact mJ (l,Ag,cg) [0,1,2,3,4] (by rw [hl,J3 (by omega) hkp zl])
  refine jK 2 [47] [] ?_
  have hkp:om Z (nd Z.ns i)=true:=Dj.2 (fun hg=>absurd hg Pw)
  refine jK 1 [48] [] ?_
  refine NN (CF (af.skip (NX (af.join (fun (l2,A2,c2)=>(l2=lM Z (i+1))) (fun (l2,A2,c2)=>(Vz fF ux An p cn A2 l2 c2 i)) (fun (l2,A2,c2)=>(lD fF Z Y ux++[.abs (ay 66 10 An p.length cn (aR K p)),QL A2 l2 c2,.abs R])) ?_ ?_))))
  ·rintro⟨l2,A2,c2⟩ hl2
   refine af.region (jN 8 [56,63] (fun vN=>[(3,a_ 0 fF),(5,x_ i Z.ns.length (aB.hd hR.n (i:=i) (by omega))),(6,zP (eT Y.L i (nd Z.ns i)) (fun _ _ h=>aB.rd hR.n (by omega) h))]) (fun _=>[]) (fun vN=>.blk vN (eT Y.L i (nd Z.ns i)) 66) (fun vN=>?_))
   refine jZ 2 22 (some ⟨vN,0,none⟩) 1 1 (eT Y.L i (nd Z.ns i)) rfl (dV (j:=5) rfl) (fun Yz YA=>?_)
   refine ak.bM 2 rfl (Dk (n:=nd Z.ns i) rfl rfl) ?_
   refine sl 64 (.slice Yz (p.length+1) (YA)) (.slice Yz ((p++[nd Z.ns i]).length) (YA)) (by rw [← kq]) ?_
   refine jK 1 [3] [] ?_
   refine NL (ai.ax (NX (af.region ?_)))
   refine jK 3 [5] [(1,wJ ((i:Int)+1) (↑(i+1)))] ?_
   refine NL ?_
   exact tJ ((i+1),(p++[nd Z.ns i]),(K.put p.length (Y.L.dA i) (Y.L.dC i) (Y.L.eA i) (Y.L.eC i)),Yz,YA,l2,A2,c2) [0,1,2,3,4] (⟨by omega,by rw [hp,wM (by omega) hkp],hl2,hK.snoc (hR.n.data i (by omega)) (hR.n.ah i (by omega))⟩)
  refine SR (jK 2 [49,50] [(0,A_ 0 fF 12)] ?_)
  refine gL [] (vJ Z Y hR hB (nd Z.ns i).id) ?_
  rintro _ _ ⟨rfl,rfl⟩
  refine NN (cP ((nd Z.ns i).id∈Z.gone) (fun zl=>?_) (fun zl=>?_))
  ·refine af.region (jN 3 [52,54] (fun _=>[]) (fun _=>[]) (fun YB=>.blk YB [vI ((nd Z.ns i).id)] 3) (fun YB=>?_))
   refine jZ 3 38 (some ⟨YB,0,none⟩) 1 1 [vI ((nd Z.ns i).id)] rfl (dV (j:=5) rfl) (fun YC YD=>?_)
   refine ak.bM 3 rfl (A6) ?_
   refine sl 55 (.slice YC (l.length+1) (YD)) (.slice YC ((l++[(nd Z.ns i).id]).length) (YD)) (by rw [← kq]) ?_
   refine jK 1 [4] [] ?_
   refine NL ?_
   exact mJ ((l++[(nd Z.ns i).id]),YC,YD) [0,1,2,3,4] (by rw [hl,G3 (by omega) hkp zl])
  refine af.skip ?_
  exact mJ (l,Ag,cg) [0,1,2,3,4] (by rw [hl,J3 (by omega) hkp zl])
 refine af.exit (ai.aC (ai.aC (ai.aW (NX (SR ?_)))))
 have hie:i=Z.ns.length:=by omega
 rw [hie] at hp hl
 refine ak.j8 (Φ:=fun β'=>bT β' An (aR K p)) 2 [0,1,3,4] (eu:=(lD fF Z Y ux++[QL Ag l cg,.abs R])) rfl rfl (by kernel_rfl) (fun F w h β' h1 h2=>bT.gu h h1 h2) (fun β1 aT hN=>?_)
 replace hR:=hR.le aT
 replace hK:=hK.le aT
 replace hle0:=hle0.trans aT
 refine ak.j8 (Φ:=fun β'=>bT β' Ag (ints l)) 2 [0,1,3] (eu:=(lD fF Z Y ux++[.abs R])) rfl rfl (by kernel_rfl) (fun F w h β' h1 h2=>bT.gu h h1 h2) (fun ou cX hG=>?_)
 replace hR:=hR.le cX
 replace hK:=hK.le cX
 replace hN:=hN.le cX
 replace hle0:=hle0.trans cX
 refine jC 4 [] [(3,a_ 0 fF)] [(0,[(0,.slice An (p.length) (cn))])] ?_
 refine NS (jC 3 [] [(2,a_ 0 fF)] [(0,[(1,.slice Ag (l.length) (cg))])] ?_)
 refine NS (jC 2 [] [(0,A_ 0 fF 12),(1,A_ 1 ux 12)] [(1,([(0,.slice An (p.length) (cn)),(1,.slice Ag (l.length) (cg))]++Yw Z Y++Yt Z))] ?_)
 refine NN (af.ret ?_)
 exact rB _ [A_ 1 ux 12] [2] hle0 (⟨⟨An,cn,K,Ag,cg,Y.H,Y.ch,Y.V,Y.cv⟩,by simp only [rV];rw [J7 hp,EI hl]<;>rfl,rfl,Ub hR hN hG hp hl hK⟩)
theorem Dm {β:Bs} (Z:RS) (Y:RL) (hR:cD β Z Y) (hC:RU Z) (k:Nat) (hk:k < Z.ns.length) :
    cu Tryz.prog β 70 #[.agg ⟨rV Z Y⟩,vI (((k:Nat):Int))] [] (fun β' v l=>∃ Y',v=.tuple #[.agg ⟨rV ((iF Z k).1) Y'⟩,vI (iF Z k).2.1,vI (iF Z k).2.2]/\l=[]/\cD β' (iF Z k).1 Y'):=by
 refine oW Tryz.func70 Tryz.ntmps70 (fun hle0 R=>?_)
 refine SR (jN 1 [2] (fun _=>[]) (fun _=>[]) (fun mT=>.blk mT (rV Z Y) 42) (fun mT=>?_))
 refine jN 3 [4] (fun _=>[]) (fun _=>[]) (fun q8=>.blk q8 (rZ) 42) (fun q8=>?_)
 refine NN (af.seq ?_)
 by_cases hf:(Z.us.length:Int) < Z.cH
 ·refine af.FR (S:=[.blk mT (rV Z Y) 42]) 14 [(true,0),(true,1),(true,2),(true,3),(true,4),(true,5),(true,6),(true,7),(true,8),(false,9),(true,10),(true,11),(true,12),(true,13)] [(false,15),(false,16),(false,17)] (by kernel_rfl) (by kernel_rfl) (fun _ h=>h.pick (idx:=[1]) rfl rfl) ?_
  refine gJ [(false,9),(true,10),(true,11),(true,12),(true,13)] (Yu mT q8 Z Y k) [0,1,2,3,4,5,6,7,8] [(1,A_ 0 mT 4),(4,a_ 0 mT),(6,x_ k Z.ns.length (aB.hd hR.n (i:=k) (by omega))),(8,r_ (aB.rd hR.n (i:=k) (by omega) (j:=0) rfl))] ?_
  refine xD.beside (j:=14) (dj:=7) (R:=fun f_ l_=>∃ A1:Option Addr,∃ c1:Nat,∃ B1:Option Addr,∃ d1:Nat,f_=[(23,vI 0),(22,vI ((aq.least Z.us))),(21,.agg #[vI (Z.cH),vI ((max Z.av ((Z.us.length:Int)+1))),.slice A1 ((ins (aq.least Z.us) (nd Z.ns k).id Z.us).length) (c1),.slice B1 ((ins (aq.least Z.us) (nd Z.ns k).id Z.us).length) (d1)]),(10,.tuple #[.agg #[vI (Z.cH),vI ((max Z.av ((Z.us.length:Int)+1))),.slice A1 ((ins (aq.least Z.us) (nd Z.ns k).id Z.us).length) (c1),.slice B1 ((ins (aq.least Z.us) (nd Z.ns k).id Z.us).length) (d1)],vI ((aq.least Z.us)),vI 0]),(20,.tuple #[.agg #[vI (Z.cH),vI ((max Z.av ((Z.us.length:Int)+1))),.slice A1 ((ins (aq.least Z.us) (nd Z.ns k).id Z.us).length) (c1),.slice B1 ((ins (aq.least Z.us) (nd Z.ns k).id Z.us).length) (d1)],vI ((aq.least Z.us)),vI 0]),(2,vP mT),(4,vP q8),(12,.agg #[vI (Z.cH),vI (Z.av),.slice Y.H (Z.us.length) (Y.ch),.slice Y.V (Z.us.length) (Y.cv)]),(19,vI ((nd Z.ns k).id))]/\l_=[Yr A1 Z k c1,Vy B1 Z k d1]) (pc:=[]) (pj:=[]) (Z:=([.abs R]++lD mT Z Y q8)) [0,1,2] (fun _=>True) [(false,9,20),(true,10,10),(true,11,21),(true,12,22),(true,13,23)] (by kernel_rfl) rfl rfl (Og (S1:=[.blk mT (rV Z Y) 42]) (pS:=[1]) rfl rfl) (trivial) rfl rfl (ic.of (ι:=Nat) (v:=fun (qB:Nat)=>vP qB) (l:=fun (qB:Nat)=>[.blk qB [vI 0,vI 0,.slice none (0) (0),.slice none (0) (0)] 40]) [20,10,21,22,23] rfl rfl rfl rfl ?_) ?_ ?_
  ·intro u Aq
   refine jN 1 [7] (fun _=>[]) (fun _=>[]) (fun qB=>.blk qB [vI 0,vI 0,.slice none (0) (0),.slice none (0) (0)] 40) (fun qB=>?_)
   refine NL ?_
   exact MD qB [7,20,10,21,22,23,2,4,12,19] [1,0]
  ·refine gh.step (ic.of (ι:=(Option Addr)×Nat×(Option Addr)×Nat) (v:=fun ((A1,c1,B1,d1):(Option Addr)×Nat×(Option Addr)×Nat)=>.tuple #[.agg #[vI (Z.cH),vI ((max Z.av ((Z.us.length:Int)+1))),.slice A1 ((ins (aq.least Z.us) (nd Z.ns k).id Z.us).length) (c1),.slice B1 ((ins (aq.least Z.us) (nd Z.ns k).id Z.us).length) (d1)],vI ((aq.least Z.us)),vI 0]) (l:=fun ((A1,c1,B1,d1):(Option Addr)×Nat×(Option Addr)×Nat)=>[Yr A1 Z k c1,Vy B1 Z k d1]) [7] rfl rfl rfl rfl ?_) rfl ?_
   ·intro u Aq
    refine gL [] (WU Z.cH Z.av Y.H Y.V Y.ch Y.cv Z.us hR.h hR.v (by have:=hC.us;omega) hC.usr hC.tM (nd Z.ns k).id hf) ?_
    rintro _ _ ⟨A1,c1,B1,d1,rfl,rfl⟩
    refine NL ?_
    exact MD (A1,c1,B1,d1) [20,7,2,4,12,19] [0,1,2]
   rintro _ _ ⟨⟨A1,c1,B1,d1⟩,rfl,rfl⟩
   refine⟨trivial,?_⟩
   refine gh.read (v:=.tuple #[.agg #[vI (Z.cH),vI ((max Z.av ((Z.us.length:Int)+1))),.slice A1 ((ins (aq.least Z.us) (nd Z.ns k).id Z.us).length) (c1),.slice B1 ((ins (aq.least Z.us) (nd Z.ns k).id Z.us).length) (d1)],vI ((aq.least Z.us)),vI 0]) (fun _=>by kernel_rfl) rfl rfl ?_
   refine gh.read (v:=.agg #[vI (Z.cH),vI ((max Z.av ((Z.us.length:Int)+1))),.slice A1 ((ins (aq.least Z.us) (nd Z.ns k).id Z.us).length) (c1),.slice B1 ((ins (aq.least Z.us) (nd Z.ns k).id Z.us).length) (d1)]) (fun _=>by kernel_rfl) rfl rfl ?_
   refine gh.read (v:=.int .i64 ((aq.least Z.us))) (fun _=>by kernel_rfl) rfl rfl ?_
   refine gh.read (v:=.int .i64 0) (fun _=>by kernel_rfl) rfl rfl ?_
   exact⟨A1,c1,B1,d1,rfl,rfl⟩
  rintro _ _ ⟨A1,c1,B1,d1,rfl,rfl⟩ _ _ ⟨qB,rfl,rfl⟩
  refine kC [4] [] [(0,A_ 2 qB 4)] [(2,[(0,vI (Z.cH)),(1,vI ((max Z.av ((Z.us.length:Int)+1)))),(2,.slice A1 ((ins (aq.least Z.us) (nd Z.ns k).id Z.us).length) (c1)),(3,.slice B1 ((ins (aq.least Z.us) (nd Z.ns k).id Z.us).length) (d1))])] ?_
  refine bZ.cut (ι:=Unit) (fr':=fun (_:Unit)=>[(2,vP mT),(4,vP q8),(7,vP qB),(8,vI (aq.least Z.us)),(23,vI 0)]) (hp':=fun (_:Unit)=>([Yr A1 Z k c1,Vy B1 Z k d1,Ys qB Z A1 k c1 B1 d1,.abs R]++lD mT Z Y q8)) [4] (by kernel_rfl) ?_ rfl (fun _=>by kernel_rfl) ?_
  ·refine jK 1 [8] [] ?_
   refine NL ?_
   exact MD () [2,4,7,8,23] [0,1,2,3,4,5]
  rintro _
  refine bZ.last (by kernel_rfl) ?_
  refine jK 1 [9] [] ?_
  refine NL (ai.np (NX (SR ?_)))
  refine ak.j8 (Φ:=fun β'=>bT β' A1 (ints (keys (ins (aq.least Z.us) (nd Z.ns k).id Z.us)))) 0 [1,2,3,4,5] (eu:=([Vy B1 Z k d1,Ys qB Z A1 k c1 B1 d1,.abs R]++lD mT Z Y q8)) rfl rfl (by kernel_rfl) (fun F w h β' h1 h2=>bT.gu h h1 h2) (fun β1 aT hH=>?_)
  replace hR:=hR.le aT
  replace hle0:=hle0.trans aT
  refine ak.j8 (Φ:=fun β'=>bT β' B1 (ints (gn (ins (aq.least Z.us) (nd Z.ns k).id Z.us)))) 0 [1,2,3,4] (eu:=([Ys qB Z A1 k c1 B1 d1,.abs R]++lD mT Z Y q8)) rfl rfl (by kernel_rfl) (fun F w h β' h1 h2=>bT.gu h h1 h2) (fun ou cX hV=>?_)
  replace hR:=hR.le cX
  replace hH:=hH.le cX
  replace hle0:=hle0.trans cX
  refine jC 3 [] [(0,A_ 0 qB 4),(2,A_ 2 mT 4)] [(2,(Yv Z A1 k c1 B1 d1))] ?_
  refine NS (jC 6 [5,6] [(0,A_ 2 mT 12),(3,A_ 3 q8 12)] [(3,([(0,.slice Y.A (Z.ns.length) (Y.c)),(1,.slice Y.G (Z.gone.length) (Y.cg)),(2,vI (Z.cH))]++Yv Z A1 k c1 B1 d1++Yt Z))] ?_)
  refine NN (af.ret ?_)
  exact rB _ [A_ 3 q8 12] [1] hle0 (⟨⟨Y.A,Y.c,Y.L,Y.G,Y.cg,A1,c1,B1,d1⟩,by rw [J6 hf]<;>rfl,rfl,by rw [J6 hf];exact⟨⟨hR.g,hH,hV⟩,hR.n⟩⟩)
 refine af.FR (S:=[.blk mT (rV Z Y) 42]) 14 [(true,0),(true,1),(true,2),(true,3),(true,4),(true,5),(true,6),(true,7),(true,8),(false,9),(true,10),(true,11),(true,12),(true,13)] [(false,15),(false,16),(false,17)] (by kernel_rfl) (by kernel_rfl) (fun _ h=>h.pick (idx:=[1]) rfl rfl) ?_
 refine gJ [(false,9),(true,10),(true,11),(true,12),(true,13)] (Yu mT q8 Z Y k) [0,1,2,3,4,5,6,7,8] [(1,A_ 0 mT 4),(4,a_ 0 mT),(6,x_ k Z.ns.length (aB.hd hR.n (i:=k) (by omega))),(8,r_ (aB.rd hR.n (i:=k) (by omega) (j:=0) rfl))] ?_
 refine xD.beside (j:=14) (dj:=7) (R:=fun f_ l_=>f_=[(23,vI 130),(22,vI 0),(21,.agg #[vI (Z.cH),vI (Z.av),.slice Y.H (Z.us.length) (Y.ch),.slice Y.V (Z.us.length) (Y.cv)]),(10,.tuple #[.agg #[vI (Z.cH),vI (Z.av),.slice Y.H (Z.us.length) (Y.ch),.slice Y.V (Z.us.length) (Y.cv)],vI 0,vI 130]),(20,.tuple #[.agg #[vI (Z.cH),vI (Z.av),.slice Y.H (Z.us.length) (Y.ch),.slice Y.V (Z.us.length) (Y.cv)],vI 0,vI 130]),(2,vP mT),(4,vP q8),(12,.agg #[vI (Z.cH),vI (Z.av),.slice Y.H (Z.us.length) (Y.ch),.slice Y.V (Z.us.length) (Y.cv)]),(19,vI ((nd Z.ns k).id))]/\l_=[]) (pc:=[]) (pj:=[]) (Z:=([.abs R]++lD mT Z Y q8)) [0,1,2] (fun _=>True) [(false,9,20),(true,10,10),(true,11,21),(true,12,22),(true,13,23)] (by kernel_rfl) rfl rfl (Og (S1:=[.blk mT (rV Z Y) 42]) (pS:=[1]) rfl rfl) (trivial) rfl rfl (ic.of (ι:=Nat) (v:=fun (tX:Nat)=>vP tX) (l:=fun (tX:Nat)=>[.blk tX [vI 0,vI 0,.slice none (0) (0),.slice none (0) (0)] 40]) [20,10,21,22,23] rfl rfl rfl rfl ?_) ?_ ?_
 ·intro u Aq
  refine jN 1 [7] (fun _=>[]) (fun _=>[]) (fun tX=>.blk tX [vI 0,vI 0,.slice none (0) (0),.slice none (0) (0)] 40) (fun tX=>?_)
  refine NL ?_
  exact MD tX [7,20,10,21,22,23,2,4,12,19] [1,0]
 ·refine gh.step (ic.of (ι:=Unit) (v:=fun (_:Unit)=>.tuple #[.agg #[vI (Z.cH),vI (Z.av),.slice Y.H (Z.us.length) (Y.ch),.slice Y.V (Z.us.length) (Y.cv)],vI 0,vI 130]) (l:=fun (_:Unit)=>[]) [7] rfl rfl rfl rfl ?_) rfl ?_
  ·intro u Aq
   refine gL [] (TU Z.cH Z.av Y.H Y.V Y.ch Y.cv Z.us (nd Z.ns k).id (by omega)) ?_
   rintro _ _ ⟨rfl,rfl⟩
   refine NL ?_
   exact MD () [20,7,2,4,12,19] [0]
  rintro _ _ ⟨_,rfl,rfl⟩
  refine⟨trivial,?_⟩
  refine gh.read (v:=.tuple #[.agg #[vI (Z.cH),vI (Z.av),.slice Y.H (Z.us.length) (Y.ch),.slice Y.V (Z.us.length) (Y.cv)],vI 0,vI 130]) (fun _=>by kernel_rfl) rfl rfl ?_
  refine gh.read (v:=.agg #[vI (Z.cH),vI (Z.av),.slice Y.H (Z.us.length) (Y.ch),.slice Y.V (Z.us.length) (Y.cv)]) (fun _=>by kernel_rfl) rfl rfl ?_
  refine gh.read (v:=.int .i64 0) (fun _=>by kernel_rfl) rfl rfl ?_
  refine gh.read (v:=.int .i64 130) (fun _=>by kernel_rfl) rfl rfl ?_
  exact⟨rfl,rfl⟩
 rintro _ _ ⟨rfl,rfl⟩ _ _ ⟨tX,rfl,rfl⟩
 refine kC [2] [] [(0,A_ 0 tX 4)] [(0,[(0,vI (Z.cH)),(1,vI (Z.av)),(2,.slice Y.H (Z.us.length) (Y.ch)),(3,.slice Y.V (Z.us.length) (Y.cv))])] ?_
 refine bZ.cut (ι:=Unit) (fr':=fun (_:Unit)=>[(2,vP mT),(4,vP q8),(7,vP tX),(8,vI 0),(23,vI 130)]) (hp':=fun (_:Unit)=>([.blk tX [vI (Z.cH),vI (Z.av),.slice Y.H (Z.us.length) (Y.ch),.slice Y.V (Z.us.length) (Y.cv)] 40,.abs R]++lD mT Z Y q8)) [2] (by kernel_rfl) ?_ rfl (fun _=>by kernel_rfl) ?_
 ·refine jK 1 [8] [] ?_
  refine NL ?_
  exact MD () [2,4,7,8,23] [0,1,2,3]
 rintro _
 refine bZ.last (by kernel_rfl) ?_
 refine jK 1 [9] [] ?_
 refine NL (ai.np (NX (SR ?_)))
 refine jC 3 [] [(0,A_ 0 tX 4),(2,A_ 2 mT 4)] [] ?_
 refine NS (jC 6 [5,6] [(0,A_ 2 mT 12),(3,A_ 3 q8 12)] [(3,(zC (rV Z Y)))] ?_)
 refine NN (af.ret ?_)
 exact rB _ [A_ 3 q8 12] [1] hle0 (⟨Y,by rw [MN hf]<;>rfl,rfl,by rw [MN hf];exact hR⟩)
end
section
open Go.RowKit Go.Maps aX aq
section q
variable {β β':Bs} {N:dm} {Q:Post} {e:Exit} {fr:Fr} {hps l:List HP}
theorem ai.freeze (R:List HP) (pk:List Nat) (hn:aN pk=true) (hp:bp hps pk=some (l++R)) (K:∀ β':Bs,β.le β'->nU β R β'->ai β' N Q e fr l):ai β N Q e fr hps:=fun junk w hS=>by
  obtain⟨β',h,_,dr⟩:=(hS.pick hn hp).t8
  exact K β' h.le h junk w dr
variable {P:Program} {ops:Array Oper} {k:Nat}
theorem ak.freeze (R:List HP) (pk:List Nat) (hn:aN pk=true) (hp:bp hps pk=some (l++R)) (K:∀ β':Bs,β.le β'->nU β R β'->ak P β' N ops k fr l Q):ak P β N ops k fr hps Q:=fun junk w hS=>by
  obtain⟨β',h,_,dr⟩:=(hS.pick hn hp).t8
  exact K β' h.le h junk w dr
theorem ai.bN (ix:List Nat) (R:List HP) (K:∀ β':Bs,β.le β'->nU β R β'->ai β' N Q e fr (jP ix hps 0)) (hn:aN (mU ix hps.length 0++ix)=true:=by kernel_rfl) (hp:bp hps (mU ix hps.length 0++ix)=some (jP ix hps 0++R):=by kernel_rfl):ai β N Q e fr hps:=ai.freeze R _ hn hp K
theorem ak.bN (ix:List Nat) (R:List HP) (K:∀ β':Bs,β.le β'->nU β R β'->ak P β' N ops k fr (jP ix hps 0) Q) (hn:aN (mU ix hps.length 0++ix)=true:=by kernel_rfl) (hp:bp hps (mU ix hps.length 0++ix)=some (jP ix hps 0++R):=by kernel_rfl):ak P β N ops k fr hps Q:=ak.freeze R _ hn hp K
variable {c:Code}
theorem af.qG (i:Nat) {e:TypeId} {size n cap:Nat} {A:Option Addr} {xs:List Value} (hp:hps[i]?=some (.abs (ay e size A n cap xs))) (hn:0 < n) (K:A=some ⟨aP A,aO A,none⟩->af P β N c fr hps Q):af P β N c fr hps Q:=fun junk w hS=>
  let ⟨_,h⟩:=hS.get hp;K (ay.DK h hn).1 junk w hS
def VD (N:dm) {ι:Type} (B:ι->Bs) (Inv:ι->Prop) (fr:ι->Fr) (hp:ι->List HP):Act->World->Prop:=fun a w=>∃ i,Inv i/\∃ junk,a=bW N (fr i) junk/\Sat (B i) (hp i) w
theorem af.VE {x y:Code} {ι:Type} (B:ι->Bs) (Inv:ι->Prop) (fr':ι->Fr) (hp':ι->List HP) (hr:∀ i,Inv i->af P (B i) N y (fr' i) (hp' i) Q) (hf:af P β N x fr hps (Exit.then (VD N B Inv fr' hp') Q)):af P β N (.seq x y) fr hps Q:=by
  intro junk w hS
  refine wp_seq (Code.wp_mono (fun e a w q=>?_) (hf junk w hS))
  cases e with
  | normal=>
    obtain⟨i,hi,iq,rfl,dr⟩:=q
    exact hr i hi iq w dr
  | exit id=>exact q
  | goto l=>exact q
  | ret=>exact q
  | panic ch=>exact q
  | outgrown=>exact q
theorem ai.VF {ι:Type} {B:ι->Bs} {Inv:ι->Prop} {fr':ι->Fr} {hp':ι->List HP} (i:ι) (hb:B i=β) {idx pk:List Nat} (hi:Inv i) (hf:∀ junk,gX fr junk idx=fr' i) (hn:aN pk=true) (hp:bp hps pk=some (hp' i)) :
    ai β N (Exit.then (VD N B Inv fr' hp') Q) .normal fr hps:=fun junk _ hS=>⟨i,hi,lk fr junk,by rw [jr N fr junk idx,hf junk],hb ▸ hS.pick hn hp⟩
end q
section k
variable {P:Program} {β β':Bs} {R R':RS} {f:FuncId} {args:Array Value} {x:Value} {ns ns':List aA} {L:Lay} {A B G H V:Option Addr} {c cb cg ch cv d k to:Nat} {n:aA} {bs ds:List UInt8} {name toName:ByteArray} {c0:ar}
structure zy (β:Bs) (R:RS) (L:Lay) (H V:Option Addr) (k:Nat):Prop where
  data:∀ i,i < R.ns.length->i≠k->aZ β (L.dA i) (nd R.ns i).data
  ah:∀ i,i < R.ns.length->bg β (L.eA i) (nd R.ns i).ah
  h:bT β H (ints (keys R.us))
  v:bT β V (ints (gn R.us))
theorem zy.le (h:zy β R L H V k) (hle:β.le β'):zy β' R L H V k:=⟨fun i hi hk=>(h.data i hi hk).le hle,fun i hi=>(h.ah i hi).le hle,h.h.le hle,h.v.le hle⟩
theorem zy.at (h:zy β R L H V k) (hA:B=L.dA k) (hd:ds=(nd R.ns k).data) (g:nU β [.abs (ay 66 10 A R.ns.length c (aR L R.ns)),.abs (ay 3 1 G R.gone.length cg (ints R.gone)),.abs (ay 5 1 B ds.length cb (cE ds))] β'):cD β' R ⟨A,c,L,G,cg,H,ch,V,cv⟩:=by
  obtain⟨F,h1,h2⟩:=g.get 0 rfl
  obtain⟨F2,g1,g2⟩:=g.get 1 rfl
  obtain⟨F3,k1,k2⟩:=g.get 2 rfl
  have h':=h.le g.le
  refine⟨⟨bT.gu g1 g2 rfl,h'.h,h'.v⟩,bT.gu h1 h2 rfl,fun i hi=>?_,h'.ah⟩
  by_cases e:i=k
  ·subst e;rw [← hA,← hd];exact bT.gu k1 k2 rfl
  exact h'.data i hi e
theorem Kc (h:zy β R L H V k) (hA:B=L.dA k) (hd:ds=(nd R.ns k).data) (hs:∀ β',β.le β'->cD β' R ⟨A,c,L,G,cg,H,ch,V,cv⟩->Spec P β' f args [] (fun v l=>v=x/\l=[])) :
    Spec P β f args [.abs (ay 66 10 A R.ns.length c (aR L R.ns)),.abs (ay 3 1 G R.gone.length cg (ints R.gone)),.abs (ay 5 1 B ds.length cb (cE ds))] (fun v l=>v=x/\l=[.abs (ay 66 10 A R.ns.length c (aR L R.ns)),.abs (ay 3 1 G R.gone.length cg (ints R.gone)),.abs (ay 5 1 B ds.length cb (cE ds))]):=
  (Spec.t8 (pre:=[]) (R:=[.abs (ay 66 10 A R.ns.length c (aR L R.ns)),.abs (ay 3 1 G R.gone.length cg (ints R.gone)),.abs (ay 5 1 B ds.length cb (cE ds))]) (fun β' g=>hs β' g.le (h.at hA hd g))).mono (by rintro v l ⟨l0,⟨rfl,rfl⟩,rfl⟩;exact⟨rfl,rfl⟩)
theorem zy.set (h:zy β R L H V k) (hk:k < R.ns.length) (hn:R'.ns=R.ns.set k n) (he:n.ah=(nd R.ns k).ah) (hu:R'.us=R.us):zy β R' (L.dat k B c) H V k:=by
  refine⟨fun i hi hk2=>?_,fun i hi=>?_,by rw [hu];exact h.h,by rw [hu];exact h.v⟩
  ·rw [hn,List.length_set] at hi
   rw [hn,mw hk,if_neg hk2]
   show aZ β (if i=k then B else L.dA i) _
   rw [if_neg hk2];exact h.data i hi hk2
  rw [hn,List.length_set] at hi
  rw [hn,mw hk]
  by_cases e:i=k
  ·rw [if_pos e,he];subst e;exact h.ah i hi
  rw [if_neg e];exact h.ah i hi
theorem MS {m:Nat} (h:ds.length=m):bs.length+m=(bs++ds).length:=by rw [List.length_append,h]
theorem QN {m:Nat} (h:ds.length=m):HP.abs (ay 5 1 B (bs.length+m) c (cE bs++cE ds))=HP.abs (ay 5 1 B (bs++ds).length c (cE (bs++ds))):=by
  grind [MS,cE]
theorem Uc:(L.dat k B c).dA k=B:=if_pos rfl
theorem WZ {s z:Int} (hk:k < ns.length) (h:ns'=ns.set k { nd ns k with data:=ds,sec:=s,nano:=z }) :
    HP.abs (ay 66 10 A ns.length c ((((aR L ns).set (k * 10+7) (.slice B ds.length cb)).set (k * 10+5) (.int .i64 s)).set (k * 10+5+1) (.int .i64 z)))=HP.abs (ay 66 10 A ns'.length c (aR (L.dat k B cb) ns')):=by
  rw [Oe hk,xB (by rw [List.length_set];exact hk),mw hk,if_pos rfl,List.set_set,h,List.length_set]
def gS (R:RS) (bs:List UInt8):Nat:=(min (bs.length:Int) (R.cB - (cK R.ns R.ns.length:Int))).toNat
def BU (R:RS) (k:Nat) (bs:List UInt8):RS:={ R with ns:=R.ns.set k { nd R.ns k with data:=(nd R.ns k).data++bs.take (gS R bs),sec:=R.cS,nano:=R.cZ } }
theorem QO (h:(bs.length:Int)=0):lK R k bs=(R,0,0):=if_pos (List.eq_nil_of_length_eq_zero (by omega))
theorem QS (h:¬ (bs.length:Int)=0) (h2:R.cB - (cK R.ns R.ns.length:Int)<=0):lK R k bs=(R,0,176):=(if_neg (fun e=>h (by rw [e];rfl))).trans (if_pos h2)
theorem QT (h:¬ (bs.length:Int)=0) (h2:¬ R.cB - (cK R.ns R.ns.length:Int)<=0):lK R k bs=(BU R k bs,(gS R bs:Int),0):=(if_neg (fun e=>h (by rw [e];rfl))).trans (if_neg h2)
theorem aau:(bK R d name n).1.us=R.us:=by unfold bK;(repeat' split)<;>rfl
theorem LI (hk:k < ns.length) {m u g s z:Int}:(((((aR L ns).set (k * 10+2) (.int .i64 m)).set (k * 10+3) (.int .i64 u)).set (k * 10+4) (.int .i64 g)).set (k * 10+5) (.int .i64 s)).set (k * 10+5+1) (.int .i64 z)=aR L (ns.set k { nd ns k with mode:=m,uid:=u,gid:=g,sec:=s,nano:=z }):=by
  have e:∀ a:aA,k < (ns.set k a).length:=by grind
  rw [oo (n:={ nd ns k with mode:=m }) hk (by decide) (fun _ _ _=>rfl) rfl,
    oo (n:={ nd ns k with mode:=m,uid:=u }) (e _) (by decide) (fun _ _ _=>rfl) (by rw [mw hk,if_pos rfl];rfl),List.set_set,
    oo (n:={ nd ns k with mode:=m,uid:=u,gid:=g }) (e _) (by decide) (fun _ _ _=>rfl) (by rw [mw hk,if_pos rfl];rfl),List.set_set,
    xB (e _),mw hk,if_pos rfl,List.set_set]
def uN (R:RS) (k:Nat) (c:ar):RS:={ R with ns:=R.ns.set k { nd R.ns k with mode:=c.mode,uid:=c.uid,gid:=c.gid,sec:=c.sec,nano:=c.nano } }
theorem Ud (hk:k < R.ns.length):HP.abs (ay 66 10 A R.ns.length c ((((((aR L R.ns).set (k * 10+2) (.int .i64 c0.mode)).set (k * 10+3) (.int .i64 c0.uid)).set (k * 10+4) (.int .i64 c0.gid)).set (k * 10+5) (.int .i64 c0.sec)).set (k * 10+5+1) (.int .i64 c0.nano)))=HP.abs (ay 66 10 A (uN R k c0).ns.length c (aR L (uN R k c0).ns)):=by
  grind [LI,uN]
theorem Dn:(uN R k c0).ns.length=R.ns.length:=List.length_set ..
theorem jW.meta (h:jW β R L H V) (hk:k < R.ns.length):jW β (uN R k c0) L H V:=by
  refine⟨fun i hi=>?_,fun i hi=>?_,h.h,h.v⟩
  ·rw [Dn] at hi
   show aZ β _ (nd (R.ns.set k _) i).data
   rw [mw hk]
   by_cases e:i=k
   ·rw [if_pos e];subst e;exact h.data i hi
   rw [if_neg e];exact h.data i hi
  rw [Dn] at hi
  show bg β _ (nd (R.ns.set k _) i).ah
  rw [mw hk]
  by_cases e:i=k
  ·rw [if_pos e];subst e;exact h.ah i hi
  rw [if_neg e];exact h.ah i hi
theorem QU {z:Int} (h:eN R c0.handle=.error z):jg R c0=(R,0,z):=by unfold jg;rw [h]
theorem QV (h:eN R c0.handle=.ok k) (h1:(nd R.ns k).kind=2/\(nd R.ns k).id∈R.gone):jg R c0=(R,0,170):=by unfold jg;rw [h];exact if_pos h1
theorem QW (h:eN R c0.handle=.ok k) (h1:¬ ((nd R.ns k).kind=2/\(nd R.ns k).id∈R.gone)) (h2:¬ gy c0.mode):jg R c0=(R,0,120):=by unfold jg;rw [h];exact (if_neg h1).trans (if_neg h2)
theorem tZ (h:eN R c0.handle=.ok k) (h1:¬ ((nd R.ns k).kind=2/\(nd R.ns k).id∈R.gone)) (h2:gy c0.mode) (h3:¬ (mh c0.uid/\mh c0.gid)):jg R c0=(R,0,11):=by unfold jg;rw [h];exact (if_neg h1).trans ((if_pos h2).trans (if_neg h3))
theorem QX (h:eN R c0.handle=.ok k) (h1:¬ ((nd R.ns k).kind=2/\(nd R.ns k).id∈R.gone)) (h2:gy c0.mode) (h3:mh c0.uid/\mh c0.gid) (h4:¬ dw c0.sec c0.nano):jg R c0=(R,0,20):=by unfold jg;rw [h];exact (if_neg h1).trans ((if_pos h2).trans ((if_pos h3).trans (if_neg h4)))
theorem QY (h:eN R c0.handle=.ok k) (h1:¬ ((nd R.ns k).kind=2/\(nd R.ns k).id∈R.gone)) (h2:gy c0.mode) (h3:mh c0.uid/\mh c0.gid) (h4:dw c0.sec c0.nano):jg R c0=(uN R k c0,0,0):=by unfold jg;rw [h];exact (if_neg h1).trans ((if_pos h2).trans ((if_pos h3).trans (if_pos h4)))
theorem Ke (h:n.kind=3) (h1:¬ iT n.target=0):bK R d name n=(R,iT n.target):=if_pos ⟨h,h1⟩
theorem Oh (h:¬ (n.kind=3/\iT n.target≠0)) (h1:bn R.ns d name=(k:Int)):bK R d name n=(R,171):=(if_neg h).trans (if_pos (by rw [h1];omega))
theorem FT (h:¬ (n.kind=3/\iT n.target≠0)) (h1:bn R.ns d name = -1) (h2:¬ rN R):bK R d name n=(R,177):=(if_neg h).trans ((if_neg (by rw [h1];decide)).trans (if_neg h2))
theorem Oi (h:¬ (n.kind=3/\iT n.target≠0)) (h1:bn R.ns d name = -1) (h2:rN R):bK R d name n=(sM R d name n,0):=(if_neg h).trans ((if_neg (by rw [h1];decide)).trans (if_pos h2))
variable {b:Bool}
theorem VG (h:bn R.ns d name = -1):fZ R d name b=(R,170):=if_neg (by rw [h];decide)
theorem BV (h:bn R.ns d name=(k:Int)):fZ R d name b=if b=false/\(nd R.ns k).kind=2 then (R,172) else if b=true/\(nd R.ns k).kind≠2 then (R,173) else if b=true/\0 < (nd R.ns k).ah.length then (R,178) else (dx (bA R d name true),0):=by
  grind [fZ]
theorem YE (h:bn R.ns d name=(k:Int)) (h1:b=false/\(nd R.ns k).kind=2):fZ R d name b=(R,172):=(BV h).trans (if_pos h1)
theorem YF (h:bn R.ns d name=(k:Int)) (h1:¬ (b=false/\(nd R.ns k).kind=2)) (h2:b=true/\(nd R.ns k).kind≠2):fZ R d name b=(R,173):=(BV h).trans ((if_neg h1).trans (if_pos h2))
theorem YG (h:bn R.ns d name=(k:Int)) (h1:¬ (b=false/\(nd R.ns k).kind=2)) (h2:¬ (b=true/\(nd R.ns k).kind≠2)) (h3:b=true/\0 < (nd R.ns k).ah.length):fZ R d name b=(R,178):=(BV h).trans ((if_neg h1).trans ((if_neg h2).trans (if_pos h3)))
theorem YH (h:bn R.ns d name=(k:Int)) (h1:¬ (b=false/\(nd R.ns k).kind=2)) (h2:¬ (b=true/\(nd R.ns k).kind≠2)) (h3:¬ (b=true/\0 < (nd R.ns k).ah.length)):fZ R d name b=(dx (bA R d name true),0):=(BV h).trans ((if_neg h1).trans ((if_neg h2).trans (if_neg h3)))
variable {w:Int}
theorem YI {z:Int} (h:d8 R c0.handle c0.name 64=.error z):fN R c0 w=(R,0,z):=by unfold fN;rw [h]
theorem YJ (h:d8 R c0.handle c0.name 64=.ok d) (h1:bn R.ns d c0.name = -1):fN R c0 w=(R,0,170):=by unfold fN;rw [h];exact if_neg (by rw [h1];decide)
theorem BW (h:d8 R c0.handle c0.name 64=.ok d) (h1:bn R.ns d c0.name=(k:Int)):fN R c0 w=if (nd R.ns k).kind=3 then (R,0,174) else if (nd R.ns k).kind≠w then (R,0,if (nd R.ns k).kind=1 then 173 else 172) else iF R k:=by
  grind [fN]
theorem YK (h:d8 R c0.handle c0.name 64=.ok d) (h1:bn R.ns d c0.name=(k:Int)) (h2:(nd R.ns k).kind=3):fN R c0 w=(R,0,174):=(BW h h1).trans (if_pos h2)
theorem YL (h:d8 R c0.handle c0.name 64=.ok d) (h1:bn R.ns d c0.name=(k:Int)) (h2:¬ (nd R.ns k).kind=3) (h3:¬ (nd R.ns k).kind=w) (h4:(nd R.ns k).kind=1):fN R c0 w=(R,0,173):=(BW h h1).trans ((if_neg h2).trans ((if_pos h3).trans (by rw [if_pos h4])))
theorem YM (h:d8 R c0.handle c0.name 64=.ok d) (h1:bn R.ns d c0.name=(k:Int)) (h2:¬ (nd R.ns k).kind=3) (h3:¬ (nd R.ns k).kind=w) (h4:¬ (nd R.ns k).kind=1):fN R c0 w=(R,0,172):=(BW h h1).trans ((if_neg h2).trans ((if_pos h3).trans (by rw [if_neg h4])))
theorem YN (h:d8 R c0.handle c0.name 64=.ok d) (h1:bn R.ns d c0.name=(k:Int)) (h2:¬ (nd R.ns k).kind=3) (h3:(nd R.ns k).kind=w):fN R c0 w=iF R k:=(BW h h1).trans ((if_neg h2).trans (if_neg (fun q=>q h3)))
theorem YO (h:bn R.ns d name = -1):eW R d name to toName=(R,170):=if_neg (by rw [h];decide)
def vU (R:RS) (d:Nat) (name:ByteArray) (to:Nat) (toName:ByteArray) (k:Nat) (R1:RS):RS:=dx (bD (bA R1 d name false) to toName (nd R.ns k).id)
theorem BX (h:bn R.ns d name=(k:Int)):eW R d name to toName=if (nd R.ns k).kind=2/\fU R.ns k (R.ns.length+1) to=true then (R,174) else if bn R.ns to toName=(k:Int) then (R,0) else if 0<=bn R.ns to toName then (if (nd R.ns (bn R.ns to toName).toNat).kind=2 then (R,172) else if (nd R.ns k).kind=2 then (R,173) else (vU R d name to toName k (bA R to toName true),0)) else (vU R d name to toName k R,0):=by
  unfold eW
  rw [if_pos (by rw [h];omega),h];rfl
variable {t:Nat}
theorem YP (h:bn R.ns d name=(k:Int)) (h1:(nd R.ns k).kind=2/\fU R.ns k (R.ns.length+1) to=true):eW R d name to toName=(R,174):=(BX h).trans (if_pos h1)
theorem YQ (h:bn R.ns d name=(k:Int)) (h1:¬ ((nd R.ns k).kind=2/\fU R.ns k (R.ns.length+1) to=true)) (h2:bn R.ns to toName=(k:Int)):eW R d name to toName=(R,0):=(BX h).trans ((if_neg h1).trans (if_pos h2))
theorem abf (h:bn R.ns d name=(k:Int)) (h1:¬ ((nd R.ns k).kind=2/\fU R.ns k (R.ns.length+1) to=true)) (h2:bn R.ns to toName = -1):eW R d name to toName=(vU R d name to toName k R,0):=(BX h).trans ((if_neg h1).trans ((if_neg (by rw [h2];omega)).trans (if_neg (by rw [h2];decide))))
theorem Ue (h:bn R.ns d name=(k:Int)) (h1:¬ ((nd R.ns k).kind=2/\fU R.ns k (R.ns.length+1) to=true)) (h2:bn R.ns to toName=(t:Int)) (h3:¬ (t:Int)=(k:Int)):eW R d name to toName=if (nd R.ns t).kind=2 then (R,172) else if (nd R.ns k).kind=2 then (R,173) else (vU R d name to toName k (bA R to toName true),0):=by
  grind [BX]
theorem YR (h:bn R.ns d name=(k:Int)) (h1:¬ ((nd R.ns k).kind=2/\fU R.ns k (R.ns.length+1) to=true)) (h2:bn R.ns to toName=(t:Int)) (h3:¬ (t:Int)=(k:Int)) (h4:(nd R.ns t).kind=2):eW R d name to toName=(R,172):=(Ue h h1 h2 h3).trans (if_pos h4)
theorem YS (h:bn R.ns d name=(k:Int)) (h1:¬ ((nd R.ns k).kind=2/\fU R.ns k (R.ns.length+1) to=true)) (h2:bn R.ns to toName=(t:Int)) (h3:¬ (t:Int)=(k:Int)) (h4:¬ (nd R.ns t).kind=2) (h5:(nd R.ns k).kind=2):eW R d name to toName=(R,173):=(Ue h h1 h2 h3).trans ((if_neg h4).trans (if_pos h5))
theorem abg (h:bn R.ns d name=(k:Int)) (h1:¬ ((nd R.ns k).kind=2/\fU R.ns k (R.ns.length+1) to=true)) (h2:bn R.ns to toName=(t:Int)) (h3:¬ (t:Int)=(k:Int)) (h4:¬ (nd R.ns t).kind=2) (h5:¬ (nd R.ns k).kind=2):eW R d name to toName=(vU R d name to toName k (bA R to toName true),0):=(Ue h h1 h2 h3).trans ((if_neg h4).trans (if_neg h5))
noncomputable def Dp (R:RS) (c:ar) (d:Nat) (n:aA):sO:=if (bK R d c.name n).2=0/\c.op=5 then iF (bK R d c.name n).1 ((bK R d c.name n).1.ns.length - 1) else ((bK R d c.name n).1,0,(bK R d c.name n).2)
theorem Oj (h:c0.op=8\/c0.op=14):eO R c0 d=((fZ R d c0.name (decide (c0.op=14))).1,0,(fZ R d c0.name (decide (c0.op=14))).2):=if_pos h
theorem abh (h:¬ (c0.op=8\/c0.op=14)) (h1:c0.op=6):eO R c0 d=Dp R c0 d ⟨0,3,511,0,0,0,0,[],c0.text,[]⟩:=((if_neg h).trans (if_pos h1)).trans (if_neg (fun q=>by have:=q.2;omega)).symm
theorem YT (h:¬ (c0.op=8\/c0.op=14)) (h1:¬ c0.op=6) (h2:¬ gy c0.mode):eO R c0 d=(R,0,120):=(if_neg h).trans ((if_neg h1).trans (if_neg h2))
theorem abj (h:¬ (c0.op=8\/c0.op=14)) (h1:¬ c0.op=6) (h2:gy c0.mode) (h3:c0.op=5):eO R c0 d=Dp R c0 d ⟨0,1,c0.mode,0,0,0,0,[],⟨#[]⟩,[]⟩:=by
  refine ((if_neg h).trans ((if_neg h1).trans ((if_pos h2).trans (if_pos h3)))).trans ?_
  unfold Dp
  grind
theorem abk (h:¬ (c0.op=8\/c0.op=14)) (h1:¬ c0.op=6) (h2:gy c0.mode) (h3:¬ c0.op=5):eO R c0 d=Dp R c0 d ⟨0,2,c0.mode,0,0,0,0,[],⟨#[]⟩,[]⟩:=((if_neg h).trans ((if_neg h1).trans ((if_pos h2).trans (if_neg h3)))).trans (if_neg (fun q=>h3 q.2)).symm
theorem EK (h:¬ ((bK R d c0.name n).2=0/\c0.op=5)):Dp R c0 d n=((bK R d c0.name n).1,0,(bK R d c0.name n).2):=if_neg h
theorem MT (h:(bK R d c0.name n).2=0) (h1:c0.op=5):Dp R c0 d n=iF (bK R d c0.name n).1 ((bK R d c0.name n).1.ns.length - 1):=if_pos ⟨h,h1⟩
theorem QZ (h:(bK R d name n).2=0):(bK R d name n).1.ns.length=R.ns.length+1:=by
  unfold bK at h ⊢
  split
  ·grind
  rename_i q
  rw [if_neg q] at h
  split
  ·grind
  rename_i q2
  rw [if_neg q2] at h
  split
  ·show (_++_:List aA).length=_
   grind [FQ]
  grind
theorem Uf (h:c0.op=1):aS R c0=if 0<=fP R.ns c0.other then (if (nd R.ns (tgt R.ns c0.other)).kind=2 then iF R (tgt R.ns c0.other) else (R,0,173)) else (R,0,141):=if_pos h
theorem VH (h:c0.op=1) (h1:fP R.ns c0.other = -1):aS R c0=(R,0,141):=(Uf h).trans (if_neg (by rw [h1];decide))
theorem VI (h:c0.op=1) (h1:0<=fP R.ns c0.other) (h2:¬ (nd R.ns (tgt R.ns c0.other)).kind=2):aS R c0=(R,0,173):=(Uf h).trans ((if_pos h1).trans (if_neg h2))
theorem VJ (h:c0.op=1) (h1:0<=fP R.ns c0.other) (h2:(nd R.ns (tgt R.ns c0.other)).kind=2):aS R c0=iF R (tgt R.ns c0.other):=(Uf h).trans ((if_pos h1).trans (if_pos h2))
theorem YU (h:c0.op=2):aS R c0=fN R c0 2:=by unfold aS;rw [if_neg (by omega),if_pos h]
theorem YV (h:c0.op=3):aS R c0=fN R c0 1:=by unfold aS;rw [if_neg (by omega),if_neg (by omega),if_pos h]
abbrev EL (n:Int):Prop:=n=4\/n=5\/n=6\/n=8\/n=14
theorem YW (h:EL c0.op):aS R c0=match d8 R c0.handle c0.name 192 with|.error e=>(R,0,e)|.ok d=>eO R c0 d:=by unfold aS;rw [if_neg (by omega),if_neg (by omega),if_neg (by omega),if_pos h];rfl
theorem VK {z:Int} (h:EL c0.op) (h1:d8 R c0.handle c0.name 192=.error z):aS R c0=(R,0,z):=by rw [YW h,h1]
theorem VL (h:EL c0.op) (h1:d8 R c0.handle c0.name 192=.ok d):aS R c0=eO R c0 d:=by rw [YW h,h1]
theorem YX (h:c0.op=7):aS R c0=rO R c0:=by unfold aS;rw [if_neg (by omega),if_neg (by omega),if_neg (by omega),if_neg (by omega),if_pos h]
theorem VN {z:Int} (h:c0.op=7) (h1:mI R c0 64=.error z):aS R c0=(R,0,z):=by rw [YX h];unfold rO;rw [h1]
theorem VO (h:c0.op=7) (h1:mI R c0 64=.ok (d,to)):aS R c0=if 0<=bn R.ns d c0.name then (if (nd R.ns (bn R.ns d c0.name).toNat).kind=2 then (R,0,172) else if 0<=bn R.ns to c0.text then (R,0,171) else if (bJ R.ns R.ns.length:Int) < 8192 then (bD R to c0.text (nd R.ns (bn R.ns d c0.name).toNat).id,0,0) else (R,0,177)) else (R,0,170):=by rw [YX h];unfold rO;rw [h1]
theorem VP (h:c0.op=7) (h1:mI R c0 64=.ok (d,to)) (h2:bn R.ns d c0.name = -1):aS R c0=(R,0,170):=(VO h h1).trans (if_neg (by rw [h2];decide))
theorem Im (h:c0.op=7) (h1:mI R c0 64=.ok (d,to)) (h2:bn R.ns d c0.name=(k:Int)):aS R c0=if (nd R.ns k).kind=2 then (R,0,172) else if 0<=bn R.ns to c0.text then (R,0,171) else if (bJ R.ns R.ns.length:Int) < 8192 then (bD R to c0.text (nd R.ns k).id,0,0) else (R,0,177):=by
  refine (VO h h1).trans ((if_pos (by rw [h2];omega)).trans ?_)
  rw [h2];rfl
theorem VQ (h:c0.op=7) (h1:mI R c0 64=.ok (d,to)) (h2:bn R.ns d c0.name=(k:Int)) (h3:(nd R.ns k).kind=2):aS R c0=(R,0,172):=(Im h h1 h2).trans (if_pos h3)
theorem VR (h:c0.op=7) (h1:mI R c0 64=.ok (d,to)) (h2:bn R.ns d c0.name=(k:Int)) (h3:¬ (nd R.ns k).kind=2) (h4:bn R.ns to c0.text=(t:Int)):aS R c0=(R,0,171):=(Im h h1 h2).trans ((if_neg h3).trans (if_pos (by rw [h4];omega)))
theorem VS (h:c0.op=7) (h1:mI R c0 64=.ok (d,to)) (h2:bn R.ns d c0.name=(k:Int)) (h3:¬ (nd R.ns k).kind=2) (h4:bn R.ns to c0.text = -1) (h5:¬ (bJ R.ns R.ns.length:Int) < 8192):aS R c0=(R,0,177):=(Im h h1 h2).trans ((if_neg h3).trans ((if_neg (by rw [h4];decide)).trans (if_neg h5)))
theorem VT (h:c0.op=7) (h1:mI R c0 64=.ok (d,to)) (h2:bn R.ns d c0.name=(k:Int)) (h3:¬ (nd R.ns k).kind=2) (h4:bn R.ns to c0.text = -1) (h5:(bJ R.ns R.ns.length:Int) < 8192):aS R c0=(bD R to c0.text (nd R.ns k).id,0,0):=(Im h h1 h2).trans ((if_neg h3).trans ((if_neg (by rw [h4];decide)).trans (if_pos h5)))
theorem Ug (h:c0.op=9):aS R c0=match eN R c0.handle with|.error e=>(R,0,e)|.ok k=>if (nd R.ns k).kind=2 then (R,0,172) else lK R k c0.data:=by unfold aS;rw [if_neg (by omega),if_neg (by omega),if_neg (by omega),if_neg (by omega),if_neg (by omega),if_pos h];rfl
theorem VU {z:Int} (h:c0.op=9) (h1:eN R c0.handle=.error z):aS R c0=(R,0,z):=by rw [Ug h,h1]
theorem VW (h:c0.op=9) (h1:eN R c0.handle=.ok k) (h2:(nd R.ns k).kind=2):aS R c0=(R,0,172):=by rw [Ug h,h1];exact if_pos h2
theorem VX (h:c0.op=9) (h1:eN R c0.handle=.ok k) (h2:¬ (nd R.ns k).kind=2):aS R c0=lK R k c0.data:=by rw [Ug h,h1];exact if_neg h2
theorem VY (h:c0.op=10):aS R c0=jg R c0:=by unfold aS;rw [if_neg (by omega),if_neg (by omega),if_neg (by omega),if_neg (by omega),if_neg (by omega),if_neg (by omega),if_pos h]
theorem VZ (h:c0.op=13):aS R c0=if c0.handle∈keys R.us then (dx { R with us:=del c0.handle R.us },0,0) else (dx R,0,131):=by unfold aS;rw [if_neg (by omega),if_neg (by omega),if_neg (by omega),if_neg (by omega),if_neg (by omega),if_neg (by omega),if_neg (by omega),if_pos h]
theorem Q0 (h:c0.op=13) (h1:c0.handle∈keys R.us):aS R c0=(dx { R with us:=del c0.handle R.us },0,0):=(VZ h).trans (if_pos h1)
theorem Q5 (h:c0.op=13) (h1:c0.handle∉keys R.us):aS R c0=(dx R,0,131):=(VZ h).trans (if_neg h1)
theorem V0 (h:c0.op=15):aS R c0=match mI R c0 192 with|.error e=>(R,0,e)|.ok (f,to)=>((eW R f c0.name to c0.text).1,0,(eW R f c0.name to c0.text).2):=by unfold aS;rw [if_neg (by omega),if_neg (by omega),if_neg (by omega),if_neg (by omega),if_neg (by omega),if_neg (by omega),if_neg (by omega),if_neg (by omega),if_pos h];rfl
theorem Q6 {z:Int} (h:c0.op=15) (h1:mI R c0 192=.error z):aS R c0=(R,0,z):=by rw [V0 h,h1]
theorem Q7 (h:c0.op=15) (h1:mI R c0 192=.ok (d,to)):aS R c0=((eW R d c0.name to c0.text).1,0,(eW R d c0.name to c0.text).2):=by rw [V0 h,h1]
theorem V1 (h:¬ (1<=c0.op/\c0.op<=10\/13<=c0.op/\c0.op<=15)):aS R c0=(R,0,230):=by unfold aS;rw [if_neg (by omega),if_neg (by omega),if_neg (by omega),if_neg (by omega),if_neg (by omega),if_neg (by omega),if_neg (by omega),if_neg (by omega),if_neg (by omega)]
end k
end
section
open Go.RowKit Go.Maps aX aq
attribute [local irreducible] ak aU af ai bZ
noncomputable abbrev MU (Y:RL) (k:Nat) (Z:RS):=(.abs (ay 5 1 (Y.L.dA k) ((nd Z.ns k).data.length) (Y.L.dC k) (cE (nd Z.ns k).data)):HP)
noncomputable abbrev YZ (b11:Nat) (b12:Nat):=([(4,vP b11),(8,vP b12)]:Fr)
theorem Uh {β:Bs} (Z:RS) (Y:RL) (k:Nat) (hI:zy β Z Y.L Y.H Y.V k) (hC:RC Z) (hk:k < Z.ns.length) (dA:Option Addr) (dC:Nat) (bs:List UInt8) (hbs:aZ β dA bs) (hbl:bs.length<=140737488355328) (hbc:bs.length<=dC) :
    cu Tryz.prog β 76 #[.agg ⟨rV Z Y⟩,vI (((k:Nat):Int)),.slice dA (bs.length) (dC)] [dZ Y Z,dO Y Z,MU Y k Z] (fun β' v l=>∃ Y',v=.tuple #[.agg ⟨rV ((lK Z k bs).1) Y'⟩,vI (lK Z k bs).2.1,vI (lK Z k bs).2.2]/\l=[]/\cD β' (lK Z k bs).1 Y'):=by
 refine oW Tryz.func76 Tryz.ntmps76 (fun hle0 R=>?_)
 refine SR (jN 1 [3] (fun _=>[]) (fun _=>[]) (fun b1=>.blk b1 (rV Z Y) 42) (fun b1=>?_))
 refine jN 3 [6] (fun _=>[]) (fun _=>[]) (fun b2=>.blk b2 (rZ) 42) (fun b2=>?_)
 refine NN (af.seq (SR (jK 3 [13] [] ?_)))
 refine NN (cP ((((bs.length:Nat):Int):Int)=(0:Int)) (fun qf=>?_) (fun qf=>?_))
 ·refine SR (jC 4 [7,8] [(0,A_ 4 b1 12),(1,A_ 5 b2 12)] [(5,(zC (rV Z Y)))] ?_)
  refine NN (af.ret (ai.aj (ai.bN [0,1,2] [dZ Y Z,dO Y Z,MU Y k Z] (fun uy dz hL=>?_))))
  have d9:cD uy Z Y:=hI.at rfl rfl hL
  replace hI:=hI.le dz
  replace hbs:=hbs.le dz
  replace hle0:=hle0.trans dz
  exact rB _ [A_ 2 b2 12] [0] hle0 (⟨Y,by rw [QO qf]<;>rfl,rfl,by rw [QO qf];exact d9⟩)
 refine af.skip (NX (af.seq (af.bF (by kernel_rfl) (by kernel_rfl) ?_)))
 refine jQ 4 [17,18] [(2,a_ 4 b1),(3,A_ 4 b1 12)] ?_
 refine jU (pre:=[dZ Y Z,dO Y Z,MU Y k Z]) [0,1,2] [0,1,2,3,4,5] (.int .i64 ↑(cK Z.ns Z.ns.length)) (Kc hI rfl rfl (fun _ _ h=>JT Z Y h hC.toRB)) ?_
 refine jQ 2 [9] [(0,p_ ⟨[],none,none,none,some (vI ((Z.cB - ((cK Z.ns Z.ns.length):Int))))⟩ [(Value.int .i64 (IntKind.wrap .i64 (Z.cB - (((cK Z.ns Z.ns.length):Nat):Int))))=(.int .i64 ((Z.cB - ((cK Z.ns Z.ns.length):Int))))] ⟨xG rfl (by have:=hC.cap;have:=hC.dat;omega) (by have:=hC.cap;omega),trivial⟩)] ?_
 refine NQ (NX (af.seq (SR ?_)))
 refine jK 2 [22] [] ?_
 refine NN (cP (((Z.cB - ((cK Z.ns Z.ns.length):Int)):Int)<=(0:Int)) (fun wj=>?_) (fun wj=>?_))
 ·refine SR (jC 4 [7,8] [(0,A_ 4 b1 12),(1,A_ 5 b2 12)] [(5,(zC (rV Z Y)))] ?_)
  refine NN (af.ret (ai.aj (ai.bN [0,1,2] [dZ Y Z,dO Y Z,MU Y k Z] (fun wP dX hL=>?_))))
  have d9:cD wP Z Y:=hI.at rfl rfl hL
  replace hI:=hI.le dX
  replace hbs:=hbs.le dX
  replace hle0:=hle0.trans dX
  exact rB _ [A_ 2 b2 12] [0] hle0 (⟨Y,by rw [QS qf wj]<;>rfl,rfl,by rw [QS qf wj];exact d9⟩)
 refine af.skip (NX (SR (jK 3 [10] [] ?_)))
 refine NN (af.join (fun (u:Unit)=>True) (fun (u:Unit)=>[(1,vI ↑k),(2,.slice dA (bs.length) (dC)),(3,vP b1),(6,vP b2),(10,vI ↑(gS Z bs))]) (fun (u:Unit)=>([dZ Y Z,dO Y Z,MU Y k Z,.abs R]++lD b1 Z Y b2)) ?_ ?_)
 ·rintro u _
  refine af.seq ?_
  have hml:(bs.take (gS Z bs)).length=gS Z bs:=by grind [gS]
  have hdk:=J4 (ns:=Z.ns) Z.ns.length hk
  have hmb:gS Z bs<=bs.length:=by unfold gS;omega
  have hmr:(gS Z bs:Int)<=Z.cB - (cK Z.ns Z.ns.length:Int):=by unfold gS;omega
  have hcb:=hC.cap
  refine af.qG 0 rfl (by omega) (fun jx=>?_)
  refine jM [0,1,2,3,4,5,6,7,8,9,10,11,12,13,514,15,16,517] [4,0] ?_
  refine jG 14 [1,3,6,10,32,33,40,43] [(2,a_ 0 b1),(6,a_ 0 b1),(8,x_ k Z.ns.length (jx)),(10,v_ 1 (nA Z.ns Y.L Y.A Y.c k 7 hk rfl)),(13,xP (gS Z bs) ((gS Z bs)<=dC))] ?_
  refine bZ.cut (ι:=(Option Addr)×Nat) (fr':=fun ((A5,c6):(Option Addr)×Nat)=>[(1,vI ↑k),(3,vP b1),(6,vP b2),(10,vI ↑(gS Z bs)),(32,.slice Y.A (Z.ns.length) (Y.c)),(33,vI ↑k),(44,.slice A5 (((nd Z.ns k).data++bs.take (gS Z bs)).length) (c6))]) (hp':=fun ((A5,c6):(Option Addr)×Nat)=>([dZ Y Z,dO Y Z,.abs (ay 5 1 A5 (((nd Z.ns k).data++bs.take (gS Z bs)).length) c6 (cE ((nd Z.ns k).data++bs.take (gS Z bs)))),.abs R]++lD b1 Z Y b2)) [4,0] (by kernel_rfl) ?_ rfl (fun _=>by kernel_rfl) ?_
  ·refine Vb 2 51 dA (gS Z bs) dC (cE (bs.take (gS Z bs))) rfl ((aZ.take hbs (gS Z bs)).src) (fun A5 c6=>?_) (hl:=by rw [pR,hml,Nat.mul_one]) (h1:=lU _)
   refine ak.bM 2 rfl (QN hml) ?_
   refine sl 44 (.slice A5 (((nd Z.ns k).data.length)+(gS Z bs)) (c6)) (.slice A5 (((nd Z.ns k).data++bs.take (gS Z bs)).length) (c6)) (by rw [MS hml]) ?_
   refine NL ?_
   exact MD (A5,c6) [1,3,6,10,32,33,44] [0,1,2,3,4,5]
  rintro⟨A5,c6⟩
  refine jG 2 [1,3,6,10,44,46] [(0,x_ k Z.ns.length (jx))] ?_
  refine bZ.last (by kernel_rfl) ?_
  refine ak.uW 0 (k * 10+7) (d:=none) (T:=51) (e:=66) (size:=10) (n:=Z.ns.length) (cap:=Y.c) (A:=Y.A) (xs:=(aR Y.L Z.ns)) (u:=.slice A5 (((nd Z.ns k).data++bs.take (gS Z bs)).length) (c6)) (a:=(.tmp 46)) (y:=(.tmp 44)) (fun _=>by kernel_rfl) (by kernel_rfl) (fun _=>by kernel_rfl) (fun _=>by kernel_rfl) (by kernel_rfl) rfl (by omega) (by rw [j4];omega) ?_
  refine NL (ai.np (NX (SR ?_)))
  refine jK 9 [53,55] [(2,a_ 4 b1),(6,A_ 4 b1 2),(7,x_ k Z.ns.length (jx))] ?_
  refine ak.yO 0 (k * 10+5) (d:=none) (T:=26) (e:=66) (size:=10) (n:=Z.ns.length) (cap:=Y.c) (A:=Y.A) (xs:=((aR Y.L Z.ns).set (k * 10+7) (.slice A5 (((nd Z.ns k).data++bs.take (gS Z bs)).length) (c6)))) (u:=.int .i64 (Z.cS)) (u2:=.int .i64 (Z.cZ)) (a:=(.tmp 55)) (y:=(.tmp 53)) (fun _=>by kernel_rfl) (by kernel_rfl) (fun _=>by kernel_rfl) (fun _=>by kernel_rfl) (by kernel_rfl) rfl rfl (by omega) (by rw [List.length_set,j4];omega) ?_
  refine ak.bM 0 rfl (WZ hk rfl) ?_
  refine NS (jC 5 [7,8] [(0,A_ 4 b1 12),(2,A_ 5 b2 12)] [(5,(zC (rV Z Y)))] ?_)
  refine NN (af.ret (ai.bN [0,1,2] [.abs (ay 66 10 Y.A ((BU Z k bs).ns.length) Y.c (aR (Y.L.dat k A5 c6) (BU Z k bs).ns)),dO Y Z,.abs (ay 5 1 A5 (((nd Z.ns k).data++bs.take (gS Z bs)).length) c6 (cE ((nd Z.ns k).data++bs.take (gS Z bs))))] (fun MV kG hL=>?_)))
  have d9:cD MV (BU Z k bs) ⟨Y.A,Y.c,(Y.L.dat k A5 c6),Y.G,Y.cg,Y.H,Y.ch,Y.V,Y.cv⟩:=(hI.set (R':=BU Z k bs) hk rfl rfl rfl).at Uc.symm (by show _=(nd (Z.ns.set k _) k).data;rw [mw hk,if_pos rfl]) hL
  replace hI:=hI.le kG
  replace hbs:=hbs.le kG
  replace hle0:=hle0.trans kG
  exact rB (.tuple #[.agg ⟨rV Z Y⟩,vI ↑(gS Z bs),vI 0]) [A_ 2 b2 12] [0] hle0 (⟨⟨Y.A,Y.c,(Y.L.dat k A5 c6),Y.G,Y.cg,Y.H,Y.ch,Y.V,Y.cv⟩,by grind [rV,QT,BU,gS],rfl,by rw [QT qf wj];exact d9⟩)
 refine SR (jK 3 [28] [] ?_)
 refine NN (cP ((((bs.length:Nat):Int):Int) > ((Z.cB - ((cK Z.ns Z.ns.length):Int)):Int)) (fun um=>?_) (fun um=>?_))
 ·refine af.region (jK 2 [10] [] ?_)
  refine NL (ai.slot 10 (.int .i64 ((Z.cB - ((cK Z.ns Z.ns.length):Int)))) (.int .i64 ↑(gS Z bs)) (fun _=>by kernel_rfl) (congrArg (Value.int .i64) (by unfold gS;omega)) ?_)
  exact mJ () [0,1,2,3,4,5] (trivial)
 refine af.skip (ai.slot 10 (.int .i64 ↑bs.length) (.int .i64 ↑(gS Z bs)) (fun _=>by kernel_rfl) (congrArg (Value.int .i64) (by unfold gS;omega)) ?_)
 exact mJ () [0,1,2,3,4,5] (trivial)
theorem Q8 {β:Bs} (Z:RS) (Y:RL) (hI:jW β Z Y.L Y.H Y.V) (hC:RC Z) {n:Nat} (hD:RD n Z) (hn:n<=7) (d:Nat) (hd:d < Z.ns.length) (name:ByteArray) (x:aA) (hxd:x.data=[]) (QM:x.ah=[]) (P4:x.target.size<=1048576) :
    cu Tryz.prog β 113 #[.agg ⟨rV Z Y⟩,vI (((d:Nat):Int)),.string name,.agg #[vI (x.id),vI (x.kind),vI (x.mode),vI (x.uid),vI (x.gid),vI (x.sec),vI (x.nano),.slice none (0) (0),.string x.target,.slice none (0) (0)]] [dZ Y Z,dO Y Z] (fun β' v l=>∃ A' c' L',v=.tuple #[.agg ⟨rW ((bK Z d name x).1) A' c' Y.G Y.cg Y.H Y.ch Y.V Y.cv⟩,vI (bK Z d name x).2]/\l=[.abs (ay 66 10 A' ((bK Z d name x).1.ns.length) c' (aR L' (bK Z d name x).1.ns)),.abs (ay 3 1 Y.G ((bK Z d name x).1.gone.length) Y.cg (ints (bK Z d name x).1.gone))]/\jW β' (bK Z d name x).1 L' Y.H Y.V):=by
 refine oW Tryz.func113 Tryz.ntmps113 (fun hle0 R=>?_)
 refine SR (jN 1 [4] (fun _=>[]) (fun _=>[]) (fun b8=>.blk b8 (rV Z Y) 42) (fun b8=>?_))
 refine jN 1 [7] (fun _=>[]) (fun _=>[]) (fun b9=>.blk b9 [vI (x.id),vI (x.kind),vI (x.mode),vI (x.uid),vI (x.gid),vI (x.sec),vI (x.nano),.slice none (0) (0),.string x.target,.slice none (0) (0)] 66) (fun b9=>?_)
 refine jN 2 [8] (fun _=>[]) (fun _=>[]) (fun b10=>.blk b10 (rZ) 42) (fun b10=>?_)
 refine NN (af.join (fun (u:Unit)=>(¬ (x.kind=3/\iT x.target≠0))) (fun (u:Unit)=>[(1,vI ↑d),(2,.string name),(4,vP b8),(7,vP b9),(8,vP b10)]) (fun (u:Unit)=>[dZ Y Z,dO Y Z,.abs R,.blk b8 (rV Z Y) 42,.blk b9 [vI (x.id),vI (x.kind),vI (x.mode),vI (x.uid),vI (x.gid),vI (x.sec),vI (x.nano),.slice none (0) (0),.string x.target,.slice none (0) (0)] 66,.blk b10 (rZ) 42]) ?_ ?_)
 ·rintro u hb
  refine af.seq (SR (jK 3 [21,22,23] [(0,A_ 3 b8 12)] ?_))
  rcases j6 Z.ns d name with hl|⟨k,hl,hk⟩
  ·refine gL [0,1] ((cV hI (fun _ _ h=>iU Z Y h hC d hd name)).val (congrArg (Value.int .i64) hl)) ?_
   rintro _ _ ⟨rfl,rfl⟩
   refine jK 1 [25] [] ?_
   refine NN (CF (af.skip (NX (af.seq (SR (jK 1 [27] [(0,A_ 3 b8 12)] ?_))))))
   refine gL [0,1] (cV hI (fun _ _ h=>T7 Z Y h hC.toRB)) ?_
   rintro _ _ ⟨rfl,rfl⟩
   refine jK 1 [29] [] ?_
   refine NN (cN (rN Z) (fun um=>?_) (fun um=>?_))
   ·refine SR (jC 3 [9] [(0,A_ 3 b8 12),(1,A_ 5 b10 12)] [(5,(zC (rV Z Y)))] ?_)
    refine NN (af.ret (ai.aj ?_))
    exact rB _ [A_ 5 b10 12] [0,1,2] hle0 (⟨Y.A,Y.c,Y.L,by rw [FT hb hl um]<;>rfl,by rw [FT hb hl um],by rw [FT hb hl um];exact hI⟩)
   refine af.skip (NX (SR (jK 4 [31,32,33,34] [(0,A_ 3 b8 12),(3,A_ 4 b9 10)] ?_)))
   refine kZ [0,1] (WY Z Y hI hD (by omega) ⟨hC.cap.2.2.2.2.2.2.1,um.2.1⟩ d hd name x hxd QM) ?_
   rintro β1 _ _ aT ⟨A1,c1,L1,rfl,rfl,bE⟩
   replace hI:=hI.le aT
   replace hle0:=hle0.trans aT
   refine jC 2 [9] [(0,A_ 5 b10 12)] [(5,(zC (rW (sM Z d name x) A1 c1 Y.G Y.cg Y.H Y.ch Y.V Y.cv)))] ?_
   refine NN (af.ret ?_)
   exact rB _ [A_ 5 b10 12] [0,1,2] hle0 (⟨A1,c1,L1,by rw [Oi hb hl um]<;>rfl,by rw [Oi hb hl um],by rw [Oi hb hl um];exact bE⟩)
  refine gL [0,1] ((cV hI (fun _ _ h=>iU Z Y h hC d hd name)).val (congrArg (Value.int .i64) hl)) ?_
  rintro _ _ ⟨rfl,rfl⟩
  refine jK 1 [25] [(0,wT (((k:Int):Int) ≥ (0:Int)))] ?_
  refine NN (CT (SR (jC 3 [9] [(0,A_ 3 b8 12),(1,A_ 5 b10 12)] [(5,(zC (rV Z Y)))] ?_)))
  refine NN (af.ret (ai.aj ?_))
  exact rB _ [A_ 5 b10 12] [0,1,2] hle0 (⟨Y.A,Y.c,Y.L,by rw [Oh hb hl]<;>rfl,by rw [Oh hb hl],by rw [Oh hb hl];exact hI⟩)
 refine SR (jK 3 [13] [(1,a_ 4 b9)] ?_)
 refine NN (cP ((x.kind:Int)=(3:Int)) (fun qf=>?_) (fun qf=>?_))
 ·refine SR (jK 2 [15] [(1,a_ 4 b9)] ?_)
  refine gL [] (T8 x.target P4) ?_
  rintro _ _ ⟨rfl,rfl⟩
  refine jK 1 [10] [] ?_
  refine NS (jK 2 [18] [] ?_)
  refine NN (cN (((iT x.target):Int)=(0:Int)) (fun nI=>?_) (fun nI=>?_))
  ·refine SR (jC 4 [9] [(0,A_ 3 b8 12),(2,A_ 5 b10 12)] [(5,(zC (rV Z Y)))] ?_)
   refine NN (af.ret (ai.aj ?_))
   exact rB _ [A_ 5 b10 12] [0,1,2] hle0 (⟨Y.A,Y.c,Y.L,by rw [Ke qf nI]<;>rfl,by rw [Ke qf nI],by rw [Ke qf nI];exact hI⟩)
  refine af.skip ?_
  exact mJ () [0,1,2,3,4,5] (fun q=>q.2 (by omega))
 refine af.skip ?_
 exact mJ () [0,1,2,3,4,5] (fun q=>qf q.1)
theorem Hq {β:Bs} (Z:RS) (Y:RL) (hI:jW β Z Y.L Y.H Y.V) (hC:RC Z) {n:Nat} (hD:RD n Z) (hn:n<=7) (d:Nat) (hd:d < Z.ns.length) (name:ByteArray) (dir:Bool) :
    cu Tryz.prog β 111 #[.agg ⟨rV Z Y⟩,vI (((d:Nat):Int)),.string name,.bool dir] [dZ Y Z,dO Y Z] (fun β' v l=>∃ Y',v=.tuple #[.agg ⟨rV ((fZ Z d name dir).1) Y'⟩,vI (fZ Z d name dir).2]/\l=[]/\cD β' (fZ Z d name dir).1 Y'):=by
 refine oW Tryz.func111 Tryz.ntmps111 (fun hle0 R=>?_)
 refine SR (jN 1 [4] (fun _=>[]) (fun _=>[]) (fun b11=>.blk b11 (rV Z Y) 42) (fun b11=>?_))
 refine jN 2 [8] (fun _=>[]) (fun _=>[]) (fun b12=>.blk b12 (rZ) 42) (fun b12=>?_)
 refine NS (jK 3 [11,12,13] [(0,A_ 3 b11 12)] ?_)
 rcases j6 Z.ns d name with hl|⟨k,hl,hk⟩
 ·refine gL [0,1] ((cV hI (fun _ _ h=>iU Z Y h hC d hd name)).val (congrArg (Value.int .i64) hl)) ?_
  rintro _ _ ⟨rfl,rfl⟩
  refine jK 1 [10] [] ?_
  refine NN (af.seq (SR (jK 2 [16] [] ?_)))
  refine NN (CT (SR (jC 3 [9] [(0,A_ 3 b11 12),(1,A_ 4 b12 12)] [(4,(zC (rV Z Y)))] ?_)))
  refine NN (af.ret (ai.aj (ai.bN [0,1] [dZ Y Z,dO Y Z] (fun Kf pz hL=>?_))))
  have d9:cD Kf Z Y:=hI.at hL
  replace hI:=hI.le pz
  replace hle0:=hle0.trans pz
  exact rB _ [A_ 2 b12 12] [0] hle0 (⟨Y,by rw [VG hl]<;>rfl,rfl,by rw [VG hl];exact d9⟩)
 refine ak.qG 0 rfl (by omega) (fun jx=>?_)
 refine gL [0,1] ((cV hI (fun _ _ h=>iU Z Y h hC d hd name)).val (congrArg (Value.int .i64) hl)) ?_
 rintro _ _ ⟨rfl,rfl⟩
 refine jK 1 [10] [] ?_
 refine NN (af.seq (SR (jK 2 [16] [(1,wF (((k:Int):Int) < (0:Int)))] ?_)))
 refine NN (CF (af.skip (NX (af.join (fun (u:Unit)=>(¬ (dir=false/\(nd Z.ns k).kind=2))) (fun (u:Unit)=>([(1,vI ↑d),(2,.string name),(3,.bool dir)]++YZ b11 b12++[(10,vI ↑k)])) (fun (u:Unit)=>([dZ Y Z,dO Y Z,.abs R]++lD b11 Z Y b12)) ?_ ?_))))
 ·rintro u n1
  refine af.join (fun (u:Unit)=>(¬ (dir=true/\(nd Z.ns k).kind≠2))) (fun (u:Unit)=>([(1,vI ↑d),(2,.string name),(3,.bool dir)]++YZ b11 b12++[(10,vI ↑k)])) (fun (u:Unit)=>([dZ Y Z,dO Y Z,.abs R]++lD b11 Z Y b12)) ?_ ?_
  ·rintro u n2
   refine af.join (fun (u:Unit)=>(¬ (dir=true/\0 < (nd Z.ns k).ah.length))) (fun (u:Unit)=>([(1,vI ↑d),(2,.string name)]++YZ b11 b12)) (fun (u:Unit)=>([dZ Y Z,dO Y Z,.abs R]++lD b11 Z Y b12)) ?_ ?_
   ·rintro u n3
    refine SR (jK 3 [56,57,58] [(0,A_ 3 b11 12)] ?_)
    refine kZ [0,1] (wO Z Y hI hD (by omega) d hd name true) ?_
    rintro β1 _ _ aT ⟨L1,G1,g1,rfl,rfl,bE⟩
    replace hI:=hI.le aT
    replace hle0:=hle0.trans aT
    refine ak.bN [0,1] [.abs (ay 66 10 Y.A ((bA Z d name true).ns.length) Y.c (aR L1 (bA Z d name true).ns)),.abs (ay 3 1 G1 ((bA Z d name true).gone.length) g1 (ints (bA Z d name true).gone))] (fun ou cX hL=>?_)
    have pG:cD ou (bA Z d name true) ⟨Y.A,Y.c,L1,G1,g1,Y.H,Y.ch,Y.V,Y.cv⟩:=bE.at hL
    replace hI:=hI.le cX
    replace bE:=bE.le cX
    replace hle0:=hle0.trans cX
    refine kZ [] (tY (bA Z d name true) ⟨Y.A,Y.c,L1,G1,g1,Y.H,Y.ch,Y.V,Y.cv⟩ pG ((hD.MK hd).rb (by omega))) ?_
    rintro uy _ _ dz ⟨Y3,rfl,rfl,kx⟩
    replace hI:=hI.le dz
    replace bE:=bE.le dz
    replace pG:=pG.le dz
    replace hle0:=hle0.trans dz
    refine jC 2 [9] [(0,A_ 2 b12 12)] [(2,(zC (rV (dx (bA Z d name true)) Y3)))] ?_
    refine NN (af.ret ?_)
    exact rB _ [A_ 2 b12 12] [0] hle0 (⟨Y3,by rw [YH hl n1 n2 n3]<;>rfl,rfl,by rw [YH hl n1 n2 n3];exact kx⟩)
   refine SR (jK 2 [44] [] ?_)
   refine ak.lG 44 dir (fun _=>by kernel_rfl) (fun ul=>?_) (fun ul=>?_)
   ·refine jK 10 [54] [(2,a_ 3 b11),(4,x_ k Z.ns.length (jx)),(6,v_ 0 (nA Z.ns Y.L Y.A Y.c k 9 hk rfl))] ?_
    refine NN (cP (((((nd Z.ns k).ah.length:Nat):Int):Int) > (0:Int)) (fun Q9=>?_) (fun Q9=>?_))
    ·refine SR (jC 3 [9] [(0,A_ 3 b11 12),(1,A_ 4 b12 12)] [(4,(zC (rV Z Y)))] ?_)
     refine NN (af.ret (ai.aj (ai.bN [0,1] [dZ Y Z,dO Y Z] (fun yY jj hL=>?_))))
     have d9:cD yY Z Y:=hI.at hL
     replace hI:=hI.le jj
     replace hle0:=hle0.trans jj
     exact rB (.tuple #[.agg ⟨rV Z Y⟩,vI 178]) [A_ 2 b12 12] [0] hle0 (⟨Y,by grind [YG],rfl,by grind [YG]⟩)
    refine af.skip ?_
    exact mJ () [0,1,2,3,4] ((fun q=>Q9 (by omega)))
   refine jK 10 [54] [] ?_
   refine NN (CF (af.skip ?_))
   exact mJ () [0,1,2,3,4] ((fun q=>by rw [q.1] at ul;cases ul))
  refine SR (jK 2 [32] [] ?_)
  refine ak.lG 32 dir (fun _=>by kernel_rfl) (fun oY=>?_) (fun oY=>?_)
  ·refine jK 9 [41] [(2,a_ 3 b11),(4,x_ k Z.ns.length (jx)),(6,v_ 0 (nA Z.ns Y.L Y.A Y.c k 1 hk rfl))] ?_
   refine NN (cN (((nd Z.ns k).kind:Int)=(2:Int)) (fun Cy=>?_) (fun Cy=>?_))
   ·refine SR (jC 3 [9] [(0,A_ 3 b11 12),(1,A_ 4 b12 12)] [(4,(zC (rV Z Y)))] ?_)
    refine NN (af.ret (ai.aj (ai.bN [0,1] [dZ Y Z,dO Y Z] (fun qo ig hL=>?_))))
    have d9:cD qo Z Y:=hI.at hL
    replace hI:=hI.le ig
    replace hle0:=hle0.trans ig
    exact rB _ [A_ 2 b12 12] [0] hle0 (⟨Y,by rw [YF hl n1 ⟨oY,Cy⟩]<;>rfl,rfl,by grind [YF]⟩)
   refine af.skip ?_
   exact mJ () [0,1,2,3,4] ((fun q=>q.2 Cy))
  refine jK 9 [41] [] ?_
  refine NN (CF (af.skip ?_))
  exact mJ () [0,1,2,3,4] ((fun q=>by rw [q.1] at oY;cases oY))
 refine SR (jK 3 [20] [] ?_)
 refine ak.lG 20 (!dir) (fun _=>by kernel_rfl) (fun nJ=>?_) (fun nJ=>?_)
 ·refine jK 9 [29] [(2,a_ 3 b11),(4,x_ k Z.ns.length (jx)),(6,v_ 0 (nA Z.ns Y.L Y.A Y.c k 1 hk rfl))] ?_
  refine NN (cP (((nd Z.ns k).kind:Int)=(2:Int)) (fun Kb=>?_) (fun Kb=>?_))
  ·refine SR (jC 3 [9] [(0,A_ 3 b11 12),(1,A_ 4 b12 12)] [(4,(zC (rV Z Y)))] ?_)
   refine NN (af.ret (ai.aj (ai.bN [0,1] [dZ Y Z,dO Y Z] (fun abl Kg hL=>?_))))
   have d9:cD abl Z Y:=hI.at hL
   replace hI:=hI.le Kg
   replace hle0:=hle0.trans Kg
   exact rB (.tuple #[.agg ⟨rV Z Y⟩,vI 172]) [A_ 2 b12 12] [0] hle0 (⟨Y,by grind [YE],rfl,by grind [YE]⟩)
  refine af.skip ?_
  exact mJ () [0,1,2,3,4] ((fun q=>Kb q.2))
 refine jK 9 [29] [] ?_
 refine NN (CF (af.skip ?_))
 exact mJ () [0,1,2,3,4] ((fun q=>by rw [q.1] at nJ;cases nJ))
end
section
open Go.RowKit Go.Maps aX aq
attribute [local irreducible] ak aU af ai bZ
noncomputable abbrev Y1 (A1:Option Addr) (Z) (d:Nat) (c:ar) (x) (c1:Nat) (L1):=(.abs (ay 66 10 A1 ((bK Z d c.name x).1.ns.length) c1 (aR L1 (bK Z d c.name x).1.ns)):HP)
noncomputable abbrev Y4 (Y:RL) (Z) (d:Nat) (c:ar) (x):=(.abs (ay 3 1 Y.G ((bK Z d c.name x).1.gone.length) Y.cg (ints (bK Z d c.name x).1.gone)):HP)
noncomputable abbrev Y6 (f:Nat) (name) (to:Nat) (toName) (b1:Nat) (b2:Nat):=([(1,vI ↑f),(2,.string name),(3,vI ↑to),(4,.string toName),(5,vP b1),(10,vP b2)]:Fr)
noncomputable abbrev zV4 (Y:RL) (Z1) (f:Nat) (name) (to:Nat) (toName) (Z:RS) (k:Nat) (L3) (G2) (g2):=([.abs (ay 66 10 Y.A ((bD (bA Z1 f name false) to toName (nd Z.ns k).id).ns.length) Y.c (aR L3 (bD (bA Z1 f name false) to toName (nd Z.ns k).id).ns)),.abs (ay 3 1 G2 ((bD (bA Z1 f name false) to toName (nd Z.ns k).id).gone.length) g2 (ints (bD (bA Z1 f name false) to toName (nd Z.ns k).id).gone))]:List HP)
noncomputable abbrev zV5 (b1:Nat) (Z1:RS) (Y:RL) (G1) (g1) (b2:Nat) (L1):=([.blk b1 (rW Z1 Y.A Y.c G1 g1 Y.H Y.ch Y.V Y.cv) 42,.blk b2 (rZ) 42,.abs (ay 66 10 Y.A Z1.ns.length Y.c (aR L1 Z1.ns)),.abs (ay 3 1 G1 Z1.gone.length g1 (ints Z1.gone))]:List HP)
theorem Ra {β:Bs} (Z:RS) (Y:RL) (hI:jW β Z Y.L Y.H Y.V) (hC:RC Z) {n:Nat} (hD:RD n Z) (hn:n<=4) (f:Nat) (hf:f < Z.ns.length) (name:ByteArray) (to:Nat) (hto:to < Z.ns.length) (toName:ByteArray) :
    cu Tryz.prog β 80 #[.agg ⟨rV Z Y⟩,vI (((f:Nat):Int)),.string name,vI (((to:Nat):Int)),.string toName] [dZ Y Z,dO Y Z] (fun β' v l=>∃ Y',v=.tuple #[.agg ⟨rV ((eW Z f name to toName).1) Y'⟩,vI (eW Z f name to toName).2]/\l=[]/\cD β' (eW Z f name to toName).1 Y'):=by
 refine oW Tryz.func80 Tryz.ntmps80 (fun hle0 R=>?_)
 refine SR (jN 1 [5] (fun _=>[]) (fun _=>[]) (fun b1=>.blk b1 (rV Z Y) 42) (fun b1=>?_))
 refine jN 2 [10] (fun _=>[]) (fun _=>[]) (fun b2=>.blk b2 (rZ) 42) (fun b2=>?_)
 refine NS (jK 3 [16,17,18] [(0,A_ 3 b1 12)] ?_)
 rcases j6 Z.ns f name with hl|⟨k,hl,hk⟩
 ·refine gL [0,1] ((cV hI (fun _ _ h=>iU Z Y h hC f hf name)).val (congrArg (Value.int .i64) hl)) ?_
  rintro _ _ ⟨rfl,rfl⟩
  refine jK 1 [12] [] ?_
  refine NN (af.seq (SR (jK 2 [21] [] ?_)))
  refine NN (CT (SR (jC 3 [11] [(0,A_ 3 b1 12),(1,A_ 4 b2 12)] [(4,(zC (rV Z Y)))] ?_)))
  refine NN (af.ret (ai.aj (ai.bN [0,1] [dZ Y Z,dO Y Z] (fun uy dz hL=>?_))))
  have d9:cD uy Z Y:=hI.at hL
  replace hI:=hI.le dz
  replace hle0:=hle0.trans dz
  exact rB _ [A_ 2 b2 12] [0] hle0 (⟨Y,by rw [YO hl]<;>rfl,rfl,by rw [YO hl];exact d9⟩)
 refine ak.qG 0 rfl (by omega) (fun jx=>?_)
 refine gL [0,1] ((cV hI (fun _ _ h=>iU Z Y h hC f hf name)).val (congrArg (Value.int .i64) hl)) ?_
 rintro _ _ ⟨rfl,rfl⟩
 refine jK 1 [12] [] ?_
 refine NN (af.seq (SR (jK 2 [21] [(1,wF (((k:Int):Int) < (0:Int)))] ?_)))
 refine NN (CF (af.skip (NX (SR (jK 9 [13] [(2,a_ 3 b1),(4,x_ k Z.ns.length (jx)),(6,v_ 0 (nA Z.ns Y.L Y.A Y.c k 1 hk rfl))] ?_)))))
 refine NN (af.join (fun (u:Unit)=>(¬ ((nd Z.ns k).kind=2/\fU Z.ns k (Z.ns.length+1) to=true))) (fun (u:Unit)=>(Y6 f name to toName b1 b2++[(12,vI ↑k),(13,.bool (decide (((nd Z.ns k).kind:Int)=(2:Int))))])) (fun (u:Unit)=>[dZ Y Z,dO Y Z,.abs R,.blk b1 (rV Z Y) 42,.blk b2 (rZ) 42]) ?_ ?_)
 ·rintro u n1
  refine SR (jK 3 [39,40,41] [(0,A_ 3 b1 12)] ?_)
  rcases j6 Z.ns to toName with hl2|⟨t,hl2,ht⟩
  ·refine gL [0,1] ((cV hI (fun _ _ h=>iU Z Y h hC to hto toName)).val (congrArg (Value.int .i64) hl2)) ?_
   rintro _ _ ⟨rfl,rfl⟩
   refine jK 1 [14] [] ?_
   refine NS (jK 8 [15] [(2,a_ 3 b1),(4,x_ k Z.ns.length (jx)),(6,v_ 0 (nA Z.ns Y.L Y.A Y.c k 0 hk rfl))] ?_)
   refine NN (af.seq (SR (jK 3 [52] [] ?_)))
   refine NN (cP (((-1):Int)=(((k:Nat):Int):Int)) (fun wm=>?_) (fun wm=>?_))
   ·exact absurd wm (by omega)
   refine af.skip (NX (af.VE (ι:=Bs×RS×Lay×(Option Addr)×Nat) (fun (b,Z1,L1,G1,g1)=>b) (fun (b,Z1,L1,G1,g1)=>(β.le b)/\(jW b Z1 L1 Y.H Y.V)/\(RD (n+1) Z1)/\(Z1.ns.length=Z.ns.length)/\((eW Z f name to toName)=(vU Z f name to toName k Z1,0))) (fun (b,Z1,L1,G1,g1)=>(Y6 f name to toName b1 b2++[(15,vI ((nd Z.ns k).id))])) (fun (b,Z1,L1,G1,g1)=>(zV5 b1 Z1 Y G1 g1 b2 L1++[.abs R])) ?_ ?_))
   ·rintro⟨b,Z1,L1,G1,g1⟩ ⟨hle0,bE,xK,hz1,Rb⟩
    refine SR (jK 3 [71,72,73] [(0,A_ 0 b1 12)] ?_)
    refine kZ [2,3] (wO Z1 ⟨Y.A,Y.c,L1,G1,g1,Y.H,Y.ch,Y.V,Y.cv⟩ bE xK (by omega) f (by omega) name false) ?_
    rintro ou _ _ cX ⟨L2,G2,g2,rfl,rfl,sj⟩
    replace hle0:=hle0.trans cX
    refine jC 1 [] [(0,A_ 2 b1 12)] [(2,(zC (rW (bA Z1 f name false) Y.A Y.c G2 g2 Y.H Y.ch Y.V Y.cv)))] ?_
    refine NS (jK 4 [75,76,77,78] [(0,A_ 2 b1 12)] ?_)
    refine kZ [0,1] (wN (bA Z1 f name false) ⟨Y.A,Y.c,L2,G2,g2,Y.H,Y.ch,Y.V,Y.cv⟩ sj ((xK.MK (by omega)).rb (by omega)) to (by rw [q4];omega) toName (nd Z.ns k).id) ?_
    rintro uy _ _ dz ⟨L3,rfl,rfl,xS⟩
    replace sj:=sj.le dz
    replace hle0:=hle0.trans dz
    refine jC 1 [] [(0,A_ 2 b1 12)] [(2,(zC (rW (bD (bA Z1 f name false) to toName (nd Z.ns k).id) Y.A Y.c G2 g2 Y.H Y.ch Y.V Y.cv)))] ?_
    refine NS (ak.bN [0,1] (zV4 Y Z1 f name to toName Z k L3 G2 g2) (fun wP dX hL=>?_))
    have kx:cD wP (bD (bA Z1 f name false) to toName (nd Z.ns k).id) ⟨Y.A,Y.c,L3,G2,g2,Y.H,Y.ch,Y.V,Y.cv⟩:=xS.at hL
    replace sj:=sj.le dX
    replace xS:=xS.le dX
    replace hle0:=hle0.trans dX
    refine jK 1 [80] [(0,A_ 0 b1 12)] ?_
    refine kZ [] (tY (bD (bA Z1 f name false) to toName (nd Z.ns k).id) ⟨Y.A,Y.c,L3,G2,g2,Y.H,Y.ch,Y.V,Y.cv⟩ kx (((xK.MK (by omega)).ent (by rw [q4];omega)).rb (by omega))) ?_
    rintro MW _ _ ja ⟨Y5,rfl,rfl,Y7⟩
    replace sj:=sj.le ja
    replace xS:=xS.le ja
    replace kx:=kx.le ja
    replace hle0:=hle0.trans ja
    refine jC 2 [11] [(0,A_ 1 b2 12)] [(1,(zC (rV (dx (bD (bA Z1 f name false) to toName (nd Z.ns k).id)) Y5)))] ?_
    refine NN (af.ret ?_)
    exact rB _ [A_ 1 b2 12] [2] hle0 (⟨Y5,by rw [Rb]<;>rfl,rfl,by rw [Rb];exact Y7⟩)
   refine SR (jK 2 [55] [] ?_)
   refine NN (CF (af.skip ?_))
   exact ai.VF (β,Z,Y.L,Y.G,Y.cg) rfl (idx:=[1,2,3,4,5,10,15]) (pk:=[3,4,0,1,2]) (⟨hle0,hI,(hD.up (by omega)),rfl,abf hl n1 hl2⟩) (fun _=>by kernel_rfl) rfl (by kernel_rfl)
  refine gL [0,1] ((cV hI (fun _ _ h=>iU Z Y h hC to hto toName)).val (congrArg (Value.int .i64) hl2)) ?_
  rintro _ _ ⟨rfl,rfl⟩
  refine jK 1 [14] [] ?_
  refine NS (jK 8 [15] [(2,a_ 3 b1),(4,x_ k Z.ns.length (jx)),(6,v_ 0 (nA Z.ns Y.L Y.A Y.c k 0 hk rfl))] ?_)
  refine NN (af.seq (SR (jK 3 [52] [] ?_)))
  refine NN (cP ((((t:Nat):Int):Int)=(((k:Nat):Int):Int)) (fun wm=>?_) (fun wm=>?_))
  ·refine SR (jC 3 [11] [(0,A_ 3 b1 12),(1,A_ 4 b2 12)] [(4,(zC (rV Z Y)))] ?_)
   refine NN (af.ret (ai.aj (ai.bN [0,1] [dZ Y Z,dO Y Z] (fun wP dX hL=>?_))))
   have d9:cD wP Z Y:=hI.at hL
   replace hI:=hI.le dX
   replace hle0:=hle0.trans dX
   exact rB (.tuple #[.agg ⟨rV Z Y⟩,vI 0]) [A_ 2 b2 12] [0] hle0 (⟨Y,by grind [YQ],rfl,by grind [YQ]⟩)
  refine af.skip (NX (af.VE (ι:=Bs×RS×Lay×(Option Addr)×Nat) (fun (b,Z1,L1,G1,g1)=>b) (fun (b,Z1,L1,G1,g1)=>(β.le b)/\(jW b Z1 L1 Y.H Y.V)/\(RD (n+1) Z1)/\(Z1.ns.length=Z.ns.length)/\((eW Z f name to toName)=(vU Z f name to toName k Z1,0))) (fun (b,Z1,L1,G1,g1)=>(Y6 f name to toName b1 b2++[(15,vI ((nd Z.ns k).id))])) (fun (b,Z1,L1,G1,g1)=>(zV5 b1 Z1 Y G1 g1 b2 L1++[.abs R])) ?_ ?_))
  ·rintro⟨b,Z1,L1,G1,g1⟩ ⟨hle0,bE,xK,hz1,Rb⟩
   refine SR (jK 3 [71,72,73] [(0,A_ 0 b1 12)] ?_)
   refine kZ [2,3] (wO Z1 ⟨Y.A,Y.c,L1,G1,g1,Y.H,Y.ch,Y.V,Y.cv⟩ bE xK (by omega) f (by omega) name false) ?_
   rintro ou _ _ cX ⟨L2,G2,g2,rfl,rfl,sj⟩
   replace hle0:=hle0.trans cX
   refine jC 1 [] [(0,A_ 2 b1 12)] [(2,(zC (rW (bA Z1 f name false) Y.A Y.c G2 g2 Y.H Y.ch Y.V Y.cv)))] ?_
   refine NS (jK 4 [75,76,77,78] [(0,A_ 2 b1 12)] ?_)
   refine kZ [0,1] (wN (bA Z1 f name false) ⟨Y.A,Y.c,L2,G2,g2,Y.H,Y.ch,Y.V,Y.cv⟩ sj ((xK.MK (by omega)).rb (by omega)) to (by rw [q4];omega) toName (nd Z.ns k).id) ?_
   rintro uy _ _ dz ⟨L3,rfl,rfl,xS⟩
   replace sj:=sj.le dz
   replace hle0:=hle0.trans dz
   refine jC 1 [] [(0,A_ 2 b1 12)] [(2,(zC (rW (bD (bA Z1 f name false) to toName (nd Z.ns k).id) Y.A Y.c G2 g2 Y.H Y.ch Y.V Y.cv)))] ?_
   refine NS (ak.bN [0,1] (zV4 Y Z1 f name to toName Z k L3 G2 g2) (fun wP dX hL=>?_))
   have kx:cD wP (bD (bA Z1 f name false) to toName (nd Z.ns k).id) ⟨Y.A,Y.c,L3,G2,g2,Y.H,Y.ch,Y.V,Y.cv⟩:=xS.at hL
   replace sj:=sj.le dX
   replace xS:=xS.le dX
   replace hle0:=hle0.trans dX
   refine jK 1 [80] [(0,A_ 0 b1 12)] ?_
   refine kZ [] (tY (bD (bA Z1 f name false) to toName (nd Z.ns k).id) ⟨Y.A,Y.c,L3,G2,g2,Y.H,Y.ch,Y.V,Y.cv⟩ kx (((xK.MK (by omega)).ent (by rw [q4];omega)).rb (by omega))) ?_
   rintro MW _ _ ja ⟨Y5,rfl,rfl,Y7⟩
   replace sj:=sj.le ja
   replace xS:=xS.le ja
   replace kx:=kx.le ja
   replace hle0:=hle0.trans ja
   refine jC 2 [11] [(0,A_ 1 b2 12)] [(1,(zC (rV (dx (bD (bA Z1 f name false) to toName (nd Z.ns k).id)) Y5)))] ?_
   refine NN (af.ret ?_)
   exact rB _ [A_ 1 b2 12] [2] hle0 (⟨Y5,by rw [Rb]<;>rfl,rfl,by rw [Rb];exact Y7⟩)
  refine SR (jK 2 [55] [(1,wT (((t:Int):Int) ≥ (0:Int)))] ?_)
  refine NN (CT (af.seq (SR (jK 8 [63] [(2,a_ 3 b1),(4,x_ t Z.ns.length (jx)),(6,v_ 0 (nA Z.ns Y.L Y.A Y.c t 1 ht rfl))] ?_))))
  refine NN (cP (((nd Z.ns t).kind:Int)=(2:Int)) (fun h63=>?_) (fun h63=>?_))
  ·refine SR (jC 3 [11] [(0,A_ 3 b1 12),(1,A_ 4 b2 12)] [(4,(zC (rV Z Y)))] ?_)
   refine NN (af.ret (ai.aj (ai.aj (ai.bN [0,1] [dZ Y Z,dO Y Z] (fun MW ja hL=>?_)))))
   have d9:cD MW Z Y:=hI.at hL
   replace hI:=hI.le ja
   replace hle0:=hle0.trans ja
   exact rB _ [A_ 2 b2 12] [0] hle0 (⟨Y,by rw [YR hl n1 hl2 wm h63]<;>rfl,rfl,by rw [YR hl n1 hl2 wm h63];exact d9⟩)
  refine af.skip (NX (af.seq (SR (jK 1 [65] [] ?_))))
  refine NN (cP (((nd Z.ns k).kind:Int)=(2:Int)) (fun Y8=>?_) (fun Y8=>?_))
  ·refine SR (jC 3 [11] [(0,A_ 3 b1 12),(1,A_ 4 b2 12)] [(4,(zC (rV Z Y)))] ?_)
   refine NN (af.ret (ai.aj (ai.aj (ai.bN [0,1] [dZ Y Z,dO Y Z] (fun Y9 xT hL=>?_)))))
   have d9:cD Y9 Z Y:=hI.at hL
   replace hI:=hI.le xT
   replace hle0:=hle0.trans xT
   exact rB _ [A_ 2 b2 12] [0] hle0 (⟨Y,by rw [YS hl n1 hl2 wm h63 Y8]<;>rfl,rfl,by grind [YS]⟩)
  refine af.skip (NX (af.region (jK 3 [67,68,69] [(0,A_ 3 b1 12)] ?_)))
  refine kZ [0,1] (wO Z Y hI hD (by omega) to hto toName true) ?_
  rintro β1 _ _ aT ⟨L1,G1,g1,rfl,rfl,bE⟩
  replace hI:=hI.le aT
  replace hle0:=hle0.trans aT
  refine jC 1 [] [(0,A_ 3 b1 12)] [(3,(zC (rW (bA Z to toName true) Y.A Y.c G1 g1 Y.H Y.ch Y.V Y.cv)))] ?_
  refine NL ?_
  exact ai.VF (β1,(bA Z to toName true),L1,G1,g1) rfl (idx:=[1,2,3,4,5,10,15]) (pk:=[3,4,0,1,2]) (⟨hle0,bE,hD.MK hto,q4,abg hl n1 hl2 wm h63 Y8⟩) (fun _=>by kernel_rfl) rfl (by kernel_rfl)
 refine SR (jK 2 [32] [] ?_)
 refine sP 32 (((nd Z.ns k).kind:Int)=(2:Int)) (fun oY=>?_) (fun oY=>?_)
 ·refine jK 3 [33,34,35] [(0,A_ 3 b1 12)] ?_
  refine gL [0,1] (cV hI (fun _ _ h=>QD Z Y h hC.toRB to k hto)) ?_
  rintro _ _ ⟨rfl,rfl⟩
  refine jK 1 [37] [] ?_
  refine NN (af.cond (b:=(fU Z.ns k (Z.ns.length+1) to)) (fun _=>by kernel_rfl) (fun uo=>?_) (fun uo=>?_))
  ·refine SR (jC 3 [11] [(0,A_ 3 b1 12),(1,A_ 4 b2 12)] [(4,(zC (rV Z Y)))] ?_)
   refine NN (af.ret (ai.aj (ai.bN [0,1] [dZ Y Z,dO Y Z] (fun MV kG hL=>?_))))
   have d9:cD MV Z Y:=hI.at hL
   replace hI:=hI.le kG
   replace hle0:=hle0.trans kG
   exact rB _ [A_ 2 b2 12] [0] hle0 (⟨Y,by rw [YP hl ⟨oY,uo⟩]<;>rfl,rfl,by rw [YP hl ⟨oY,uo⟩];exact d9⟩)
  refine af.skip ?_
  exact mJ () [0,1,2,3,4] ((fun q=>by rw [q.2] at uo;cases uo))
 refine jK 5 [37] [] ?_
 refine NN (CF (af.skip ?_))
 exact mJ () [0,1,2,3,4] ((fun q=>oY q.1))
theorem Hr {β:Bs} (Z:RS) (Y:RL) (hI:jW β Z Y.L Y.H Y.V) (hC:RC Z) (c:ar) (hn:c.name.size<=1048576) (want:Int) :
    cu Tryz.prog β 71 #[.agg ⟨rV Z Y⟩,.agg ⟨aK c⟩,vI (want)] [dZ Y Z,dO Y Z] (fun β' v l=>∃ Y',v=.tuple #[.agg ⟨rV ((fN Z c want).1) Y'⟩,vI (fN Z c want).2.1,vI (fN Z c want).2.2]/\l=[]/\cD β' (fN Z c want).1 Y'):=by
 refine oW Tryz.func71 Tryz.ntmps71 (fun hle0 R=>?_)
 refine SR (jN 1 [3] (fun _=>[]) (fun _=>[]) (fun b8=>.blk b8 (rV Z Y) 42) (fun b8=>?_))
 refine jN 1 [4] (fun _=>[]) (fun _=>[]) (fun b9=>.blk b9 (aK c) 53) (fun b9=>?_)
 refine jN 3 [6] (fun _=>[]) (fun _=>[]) (fun b10=>.blk b10 (rZ) 42) (fun b10=>?_)
 refine NS (jK 5 [14,16,18] [(0,A_ 3 b8 12),(2,a_ 4 b9),(4,a_ 4 b9)] ?_)
 rcases nM hC c.handle c.name 64 with ⟨e,h1,AZ⟩|⟨d,h1,hd⟩
 ·refine gL [0,1] ((cV hI (fun _ _ h=>kU Z Y h hC c.handle c.name hn 64)).val (congrArg exV h1)) ?_
  rintro _ _ ⟨rfl,rfl⟩
  refine jK 5 [9,10] [] ?_
  refine NN (af.seq (SR (jK 2 [23] [(1,Iz ((e:Int)=(0:Int)) AZ)] ?_)))
  refine NN (CT (SR (jC 5 [7,8] [(0,A_ 3 b8 12),(2,A_ 5 b10 12)] [(5,(zC (rV Z Y)))] ?_)))
  refine NN (af.ret (ai.aj (ai.bN [0,1] [dZ Y Z,dO Y Z] (fun Dq mK hL=>?_))))
  have d9:cD Dq Z Y:=hI.at hL
  replace hI:=hI.le mK
  replace hle0:=hle0.trans mK
  exact rB _ [A_ 3 b10 12] [0] hle0 (⟨Y,by rw [YI h1]<;>rfl,rfl,by rw [YI h1];exact d9⟩)
 refine gL [0,1] ((cV hI (fun _ _ h=>kU Z Y h hC c.handle c.name hn 64)).val (congrArg exV h1)) ?_
 rintro _ _ ⟨rfl,rfl⟩
 refine jK 5 [9,10] [] ?_
 refine NN (af.seq (SR (jK 2 [23] [(1,p_ ⟨[],none,none,none,some (.bool false)⟩ [((.bool false:Value))=(.bool false)] ⟨rfl,trivial⟩)] ?_)))
 refine NN (CF (af.skip (NX (SR (jK 4 [26,27,29] [(0,A_ 3 b8 12),(3,a_ 4 b9)] ?_)))))
 rcases j6 Z.ns d c.name with hl|⟨k,hl,hk⟩
 ·refine gL [0,1] ((cV hI (fun _ _ h=>iU Z Y h hC d hd c.name)).val (congrArg (Value.int .i64) hl)) ?_
  rintro _ _ ⟨rfl,rfl⟩
  refine jK 1 [11] [] ?_
  refine NN (af.seq (SR (jK 2 [32] [] ?_)))
  refine NN (CT (SR (jC 4 [7,8] [(0,A_ 3 b8 12),(1,A_ 5 b10 12)] [(5,(zC (rV Z Y)))] ?_)))
  refine NN (af.ret (ai.aj (ai.bN [0,1] [dZ Y Z,dO Y Z] (fun Ui sR hL=>?_))))
  have d9:cD Ui Z Y:=hI.at hL
  replace hI:=hI.le sR
  replace hle0:=hle0.trans sR
  exact rB _ [A_ 3 b10 12] [0] hle0 (⟨Y,by rw [YJ h1 hl]<;>rfl,rfl,by rw [YJ h1 hl];exact d9⟩)
 refine ak.qG 0 rfl (by omega) (fun jx=>?_)
 refine gL [0,1] ((cV hI (fun _ _ h=>iU Z Y h hC d hd c.name)).val (congrArg (Value.int .i64) hl)) ?_
 rintro _ _ ⟨rfl,rfl⟩
 refine jK 1 [11] [] ?_
 refine NN (af.seq (SR (jK 2 [32] [(1,wF (((k:Int):Int) < (0:Int)))] ?_)))
 refine NN (CF (af.skip (NX (SR (jK 8 [12] [(2,a_ 3 b8),(4,x_ k Z.ns.length (jx)),(6,v_ 0 (nA Z.ns Y.L Y.A Y.c k 1 hk rfl))] ?_)))))
 refine NN (af.seq (SR (jK 2 [42] [] ?_)))
 refine NN (cP (((nd Z.ns k).kind:Int)=(3:Int)) (fun iA=>?_) (fun iA=>?_))
 ·refine SR (jC 4 [7,8] [(0,A_ 3 b8 12),(1,A_ 5 b10 12)] [(5,(zC (rV Z Y)))] ?_)
  refine NN (af.ret (ai.aj (ai.bN [0,1] [dZ Y Z,dO Y Z] (fun Kf pz hL=>?_))))
  have d9:cD Kf Z Y:=hI.at hL
  replace hI:=hI.le pz
  replace hle0:=hle0.trans pz
  exact rB _ [A_ 3 b10 12] [0] hle0 (⟨Y,by rw [YK h1 hl iA]<;>rfl,rfl,by rw [YK h1 hl iA];exact d9⟩)
 refine af.skip (NX (af.seq (SR (jK 3 [46] [] ?_))))
 refine NN (cN (((nd Z.ns k).kind:Int)=(want:Int)) (fun h46=>?_) (fun h46=>?_))
 ·refine af.seq (SR (jK 2 [48] [] ?_))
  refine NN (cP (((nd Z.ns k).kind:Int)=(1:Int)) (fun h48=>?_) (fun h48=>?_))
  ·refine SR (jC 4 [7,8] [(0,A_ 3 b8 12),(1,A_ 5 b10 12)] [(5,(zC (rV Z Y)))] ?_)
   refine NN (af.ret (ai.aj (ai.aj (ai.bN [0,1] [dZ Y Z,dO Y Z] (fun yY jj hL=>?_)))))
   have d9:cD yY Z Y:=hI.at hL
   replace hI:=hI.le jj
   replace hle0:=hle0.trans jj
   exact rB _ [A_ 3 b10 12] [0] hle0 (⟨Y,by rw [YL h1 hl iA h46 h48]<;>rfl,rfl,by rw [YL h1 hl iA h46 h48];exact d9⟩)
  refine af.skip (NX (SR (jC 4 [7,8] [(0,A_ 3 b8 12),(1,A_ 5 b10 12)] [(5,(zC (rV Z Y)))] ?_)))
  refine NN (af.ret (ai.aj (ai.bN [0,1] [dZ Y Z,dO Y Z] (fun qo ig hL=>?_))))
  have d9:cD qo Z Y:=hI.at hL
  replace hI:=hI.le ig
  replace hle0:=hle0.trans ig
  exact rB _ [A_ 3 b10 12] [0] hle0 (⟨Y,by rw [YM h1 hl iA h46 h48]<;>rfl,rfl,by rw [YM h1 hl iA h46 h48];exact d9⟩)
 refine af.skip (NX (SR (jK 2 [51,52] [(0,A_ 3 b8 12)] ?_)))
 refine ak.bN [0,1] [dZ Y Z,dO Y Z] (fun β1 aT hL=>?_)
 have pG:cD β1 Z Y:=hI.at hL
 replace hI:=hI.le aT
 replace hle0:=hle0.trans aT
 refine kZ [] (Dm Z Y pG hC.ru k hk) ?_
 rintro ou _ _ cX ⟨Y3,rfl,rfl,kx⟩
 replace hI:=hI.le cX
 replace pG:=pG.le cX
 replace hle0:=hle0.trans cX
 refine jC 6 [7,8] [(3,A_ 3 b10 12)] [(3,(zC (rV ((iF Z k).1) Y3)))] ?_
 refine NN (af.ret ?_)
 exact rB _ [A_ 3 b10 12] [0] hle0 (⟨Y3,by rw [YN h1 hl iA h46]<;>rfl,rfl,by rw [YN h1 hl iA h46];exact kx⟩)
theorem Ol {β:Bs} (Z:RS) (Y:RL) (hI:jW β Z Y.L Y.H Y.V) (hC:RC Z) {n:Nat} (hD:RD n Z) (hn:n<=7) (c:ar) (htx:c.text.size<=1048576) (d:Nat) (hd:d < Z.ns.length) :
    cu Tryz.prog β 72 #[.agg ⟨rV Z Y⟩,.agg ⟨aK c⟩,vI (((d:Nat):Int))] [dZ Y Z,dO Y Z] (fun β' v l=>∃ Y',v=.tuple #[.agg ⟨rV ((eO Z c d).1) Y'⟩,vI (eO Z c d).2.1,vI (eO Z c d).2.2]/\l=[]/\cD β' (eO Z c d).1 Y'):=by
 refine oW Tryz.func72 Tryz.ntmps72 (fun hle0 R=>?_)
 refine SR (jN 1 [3] (fun _=>[]) (fun _=>[]) (fun b16=>.blk b16 (rV Z Y) 42) (fun b16=>?_))
 refine jN 1 [4] (fun _=>[]) (fun _=>[]) (fun b17=>.blk b17 (aK c) 53) (fun b17=>?_)
 refine jN 3 [6] (fun _=>[]) (fun _=>[]) (fun b18=>.blk b18 (rZ) 42) (fun b18=>?_)
 refine NN (af.seq (af.seq ?_))
 by_cases n8:c.op=8\/c.op=14
 ·refine af.region (jK 4 [17] [(1,a_ 4 b17),(2,p_ ⟨[],none,none,none,some (.bool (decide ((c.op:Int)=(8:Int))))⟩ [((.bool (decide ((c.op:Int)=(8:Int))):Value))=(.bool (decide ((c.op:Int)=(8:Int))))] ⟨rfl,trivial⟩)] ?_)
  refine sP 17 ((c.op:Int)=(8:Int)) (fun DS=>?_) (fun DS=>?_)
  ·refine jK 4 [21] [] ?_
   refine NN (CT (SR (jK 7 [23,24,26,29] [(0,A_ 3 b16 12),(3,a_ 4 b17),(5,a_ 4 b17)] ?_)))
   refine kZ [0,1] (Hq Z Y hI hC hD (by omega) d hd c.name (decide (c.op=14))) ?_
   rintro β1 _ _ aT ⟨Y3,rfl,rfl,kx⟩
   replace hI:=hI.le aT
   replace hle0:=hle0.trans aT
   refine jN 6 [9,10] (fun b19=>[(4,A_ 4 b19 12)]) (fun _=>[]) (fun b19=>.blk b19 (rV ((fZ Z d c.name (decide (c.op=14))).1) Y3) 42) (fun b19=>?_)
   refine NS (jC 5 [7,8] [(0,A_ 4 b19 12),(2,A_ 3 b18 12)] [(3,(zC (rV ((fZ Z d c.name (decide (c.op=14))).1) Y3)))] ?_)
   refine NN (af.ret (ai.aj ?_))
   exact rB _ [A_ 3 b18 12] [0] hle0 (⟨Y3,by rw [Oj n8]<;>rfl,rfl,by rw [Oj n8];exact kx⟩)
  refine jK 4 [21] [(1,a_ 4 b17),(2,p_ ⟨[],none,none,none,some (.bool (decide ((c.op:Int)=(14:Int))))⟩ [((.bool (decide ((c.op:Int)=(14:Int))):Value))=(.bool (decide ((c.op:Int)=(14:Int))))] ⟨rfl,trivial⟩)] ?_
  refine NN (cP ((c.op:Int)=(14:Int)) (fun oA=>?_) (fun oA=>?_))
  ·refine SR (jK 7 [23,24,26,29] [(0,A_ 3 b16 12),(3,a_ 4 b17),(5,a_ 4 b17)] ?_)
   refine kZ [0,1] (Hq Z Y hI hC hD (by omega) d hd c.name (decide (c.op=14))) ?_
   rintro β1 _ _ aT ⟨Y3,rfl,rfl,kx⟩
   replace hI:=hI.le aT
   replace hle0:=hle0.trans aT
   refine jN 6 [9,10] (fun b20=>[(4,A_ 4 b20 12)]) (fun _=>[]) (fun b20=>.blk b20 (rV ((fZ Z d c.name (decide (c.op=14))).1) Y3) 42) (fun b20=>?_)
   refine NS (jC 5 [7,8] [(0,A_ 4 b20 12),(2,A_ 3 b18 12)] [(3,(zC (rV ((fZ Z d c.name (decide (c.op=14))).1) Y3)))] ?_)
   refine NN (af.ret (ai.aj ?_))
   exact rB _ [A_ 3 b18 12] [0] hle0 (⟨Y3,by rw [Oj n8]<;>rfl,rfl,by rw [Oj n8];exact kx⟩)
  exact absurd n8 (by omega)
 refine af.region (jK 8 [21] [(1,a_ 4 b17),(2,wF ((c.op:Int)=(8:Int))),(5,a_ 4 b17),(6,wF ((c.op:Int)=(14:Int)))] ?_)
 refine NN (CF (af.skip (NX (SR (jN 5 [11] (fun rR=>[(1,a_ 4 b17),(4,A_ 6 rR 10)]) (fun _=>[]) (fun rR=>.blk rR [vI 0,vI 3,vI 511,vI 0,vI 0,vI 0,vI 0,.slice none (0) (0),.string c.text,.slice none (0) (0)] 66) (fun rR=>?_))))))
 refine NN (af.join (fun (x:aA)=>(x.data=[]/\x.ah=[]/\x.target.size<=1048576)/\((eO Z c d)=Dp Z c d x)) (fun (x:aA)=>[(2,vI ↑d),(3,vP b16),(4,vP b17),(6,vP b18),(11,vP rR)]) (fun (x:aA)=>[.blk b16 (rV Z Y) 42,pC b17 c,.blk b18 (rZ) 42,.blk rR [vI (x.id),vI (x.kind),vI (x.mode),vI (x.uid),vI (x.gid),vI (x.sec),vI (x.nano),.slice none (0) (0),.string x.target,.slice none (0) (0)] 66,dZ Y Z,dO Y Z,.abs R]) ?_ ?_)
 ·rintro x ⟨hx,hch⟩
  refine SR (jK 5 [54,55,57,58] [(0,A_ 0 b16 12),(3,a_ 1 b17),(4,A_ 3 rR 10)] ?_)
  refine kZ [4,5] (Q8 Z Y hI hC hD (by omega) d hd c.name x hx.1 hx.2.1 hx.2.2) ?_
  rintro β1 _ _ aT ⟨A1,c1,L1,rfl,rfl,bE⟩
  replace hI:=hI.le aT
  replace hle0:=hle0.trans aT
  refine jN 6 [12,13] (fun iK=>[(4,A_ 7 iK 12)]) (fun _=>[]) (fun iK=>.blk iK (rW ((bK Z d c.name x).1) A1 c1 Y.G Y.cg Y.H Y.ch Y.V Y.cv) 42) (fun iK=>?_)
  refine NN (af.seq (af.seq ?_))
  by_cases hno:(bK Z d c.name x).2=0/\c.op=5
  ·obtain⟨hm0,Za⟩:=hno
   have hml:=QZ hm0
   have hbz:=hD.ns
   refine af.region (jK 7 [68] [(1,wNT (((bK Z d c.name x).2:Int)=(0:Int)) hm0),(4,a_ 3 b17),(5,wNT ((c.op:Int)=(5:Int)) Za)] ?_)
   refine NN (CF (af.skip (NX (SR (jK 6 [71,76] [(0,A_ 7 iK 12),(3,a_ 7 iK),(5,wJ ((((bK Z d c.name x).1.ns.length:Nat):Int) - 1) (↑((bK Z d c.name x).1.ns.length - 1)))] ?_)))))
   refine ak.bN [0,1] [Y1 A1 Z d c x c1 L1,Y4 Y Z d c x] (fun ou cX hL=>?_)
   have pG:cD ou (bK Z d c.name x).1 ⟨A1,c1,L1,Y.G,Y.cg,Y.H,Y.ch,Y.V,Y.cv⟩:=bE.at hL
   replace hI:=hI.le cX
   replace bE:=bE.le cX
   replace hle0:=hle0.trans cX
   refine kZ [] (Dm (bK Z d c.name x).1 ⟨A1,c1,L1,Y.G,Y.cg,Y.H,Y.ch,Y.V,Y.cv⟩ pG (hC.ru.same aau) ((bK Z d c.name x).1.ns.length - 1) (by have:=QZ hm0;omega)) ?_
   rintro uy _ _ dz ⟨Y3,rfl,rfl,kx⟩
   replace hI:=hI.le dz
   replace bE:=bE.le dz
   replace pG:=pG.le dz
   replace hle0:=hle0.trans dz
   refine jC 6 [7,8] [(3,A_ 2 b18 12)] [(2,(zC (rV ((iF (bK Z d c.name x).1 ((bK Z d c.name x).1.ns.length - 1)).1) Y3)))] ?_
   refine NN (af.ret ?_)
   exact rB _ [A_ 2 b18 12] [4] hle0 (⟨Y3,by rw [hch,MT hm0 Za]<;>rfl,rfl,by rw [hch,MT hm0 Za];exact kx⟩)
  refine af.region (jK 3 [64] [(1,p_ ⟨[],none,none,none,some (.bool (!(decide (((bK Z d c.name x).2:Int)=(0:Int)))))⟩ [((.bool (!(decide (((bK Z d c.name x).2:Int)=(0:Int)))):Value))=(.bool (!(decide (((bK Z d c.name x).2:Int)=(0:Int)))))] ⟨rfl,trivial⟩)] ?_)
  refine sN 64 (((bK Z d c.name x).2:Int)=(0:Int)) (fun V2=>?_) (fun V2=>?_)
  ·refine jK 4 [68] [] ?_
   refine NN (CT (SR (jC 5 [7,8] [(0,A_ 7 iK 12),(2,A_ 4 b18 12)] [(4,(zC (rW ((bK Z d c.name x).1) A1 c1 Y.G Y.cg Y.H Y.ch Y.V Y.cv)))] ?_)))
   refine NN (af.ret (ai.aj (ai.bN [0,1] [Y1 A1 Z d c x c1 L1,Y4 Y Z d c x] (fun abm Dr hL=>?_))))
   have d9:cD abm (bK Z d c.name x).1 ⟨A1,c1,L1,Y.G,Y.cg,Y.H,Y.ch,Y.V,Y.cv⟩:=bE.at hL
   replace hI:=hI.le Dr
   replace bE:=bE.le Dr
   replace hle0:=hle0.trans Dr
   exact rB _ [A_ 2 b18 12] [4] hle0 (⟨⟨A1,c1,L1,Y.G,Y.cg,Y.H,Y.ch,Y.V,Y.cv⟩,by rw [hch,EK hno]<;>rfl,rfl,by rw [hch,EK hno];exact d9⟩)
  refine jK 4 [68] [(1,a_ 3 b17),(2,p_ ⟨[],none,none,none,some (.bool (!(decide ((c.op:Int)=(5:Int)))))⟩ [((.bool (!(decide ((c.op:Int)=(5:Int)))):Value))=(.bool (!(decide ((c.op:Int)=(5:Int)))))] ⟨rfl,trivial⟩)] ?_
  refine NN (cN ((c.op:Int)=(5:Int)) (fun h68=>?_) (fun h68=>?_))
  ·refine SR (jC 5 [7,8] [(0,A_ 7 iK 12),(2,A_ 4 b18 12)] [(4,(zC (rW ((bK Z d c.name x).1) A1 c1 Y.G Y.cg Y.H Y.ch Y.V Y.cv)))] ?_)
   refine NN (af.ret (ai.aj (ai.bN [0,1] [Y1 A1 Z d c x c1 L1,Y4 Y Z d c x] (fun abn Ds hL=>?_))))
   have d9:cD abn (bK Z d c.name x).1 ⟨A1,c1,L1,Y.G,Y.cg,Y.H,Y.ch,Y.V,Y.cv⟩:=bE.at hL
   replace hI:=hI.le Ds
   replace bE:=bE.le Ds
   replace hle0:=hle0.trans Ds
   exact rB _ [A_ 2 b18 12] [4] hle0 (⟨⟨A1,c1,L1,Y.G,Y.cg,Y.H,Y.ch,Y.V,Y.cv⟩,by rw [hch,EK hno]<;>rfl,rfl,by rw [hch,EK hno];exact d9⟩)
  exact absurd ⟨by omega,by omega⟩ hno
 refine SR (jK 3 [40] [(1,a_ 4 b17)] ?_)
 refine NN (cN ((c.op:Int)=(6:Int)) (fun qz=>?_) (fun qz=>?_))
 ·refine af.seq (SR (jK 2 [42] [(1,a_ 4 b17)] ?_))
  refine gL [] (J0 c.mode) ?_
  rintro _ _ ⟨rfl,rfl⟩
  refine jK 1 [44] [] ?_
  refine NN (cN (gy c.mode) (fun ul=>?_) (fun ul=>?_))
  ·refine SR (jC 4 [7,8] [(0,A_ 3 b16 12),(1,A_ 5 b18 12)] [(5,(zC (rV Z Y)))] ?_)
   refine NN (af.ret (ai.aj (ai.aj (ai.bN [0,1] [dZ Y Z,dO Y Z] (fun abo Kh hL=>?_)))))
   have d9:cD abo Z Y:=hI.at hL
   replace hI:=hI.le Kh
   replace hle0:=hle0.trans Kh
   exact rB _ [A_ 3 b18 12] [0] hle0 (⟨Y,by rw [YT n8 qz ul]<;>rfl,rfl,by rw [YT n8 qz ul];exact d9⟩)
  refine af.skip (NX (SR (jC 4 [] [(1,a_ 4 b17),(3,A_ 6 rR 10)] [(6,[(1,vI 2),(2,vI (c.mode)),(8,.string ⟨#[]⟩)])] ?_)))
  refine NS (jK 3 [51] [(1,a_ 4 b17)] ?_)
  refine NN (cP ((c.op:Int)=(5:Int)) (fun zl=>?_) (fun zl=>?_))
  ·refine af.region (jC 2 [] [(1,a_ 6 rR)] [(6,[(1,vI 1)])] ?_)
   refine NL ?_
   exact mJ ((⟨0,1,c.mode,0,0,0,0,[],⟨#[]⟩,[]⟩:aA)) [3,4,5,6,0,1,2] (⟨⟨rfl,rfl,Nat.zero_le _⟩,abj n8 qz ul (by omega)⟩)
  refine af.skip ?_
  exact mJ ((⟨0,2,c.mode,0,0,0,0,[],⟨#[]⟩,[]⟩:aA)) [3,4,5,6,0,1,2] (⟨⟨rfl,rfl,Nat.zero_le _⟩,abk n8 qz ul zl⟩)
 refine af.skip ?_
 exact mJ ((⟨0,3,511,0,0,0,0,[],c.text,[]⟩:aA)) [3,4,5,6,0,1,2] (⟨⟨rfl,rfl,htx⟩,abh n8 (by omega)⟩)
theorem Uj {β:Bs} (Z:RS) (Y:RL) (hI:jW β Z Y.L Y.H Y.V) (hC:RC Z) (c:ar) :
    cu Tryz.prog β 77 #[.agg ⟨rV Z Y⟩,.agg ⟨aK c⟩] [dZ Y Z,dO Y Z] (fun β' v l=>∃ Y',v=.tuple #[.agg ⟨rV ((jg Z c).1) Y'⟩,vI (jg Z c).2.1,vI (jg Z c).2.2]/\l=[]/\cD β' (jg Z c).1 Y'):=by
 refine oW Tryz.func77 Tryz.ntmps77 (fun hle0 R=>?_)
 refine SR (jN 1 [2] (fun _=>[]) (fun _=>[]) (fun oL=>.blk oL (rV Z Y) 42) (fun oL=>?_))
 refine jN 1 [3] (fun _=>[]) (fun _=>[]) (fun qC=>.blk qC (aK c) 53) (fun qC=>?_)
 refine jN 3 [4] (fun _=>[]) (fun _=>[]) (fun fF=>.blk fF (rZ) 42) (fun fF=>?_)
 refine NS (jK 3 [10,12] [(0,A_ 3 oL 12),(2,a_ 4 qC)] ?_)
 rcases p6 hC c.handle with hh|⟨k,hh,hk⟩
 ·refine gL [0,1] ((cV hI (fun _ _ h=>pq Z Y h hC c.handle)).val (congrArg exV hh)) ?_
  rintro _ _ ⟨rfl,rfl⟩
  refine jK 5 [7,8] [] ?_
  refine NN (af.seq (SR (jK 2 [17] [] ?_)))
  refine NN (CT (SR (jC 5 [5,6] [(0,A_ 3 oL 12),(2,A_ 5 fF 12)] [(5,(zC (rV Z Y)))] ?_)))
  refine NN (af.ret (ai.aj (ai.bN [0,1] [dZ Y Z,dO Y Z] (fun abp Ki hL=>?_))))
  have d9:cD abp Z Y:=hI.at hL
  replace hI:=hI.le Ki
  replace hle0:=hle0.trans Ki
  exact rB _ [A_ 3 fF 12] [0] hle0 (⟨Y,by rw [QU hh]<;>rfl,rfl,by rw [QU hh];exact d9⟩)
 refine ak.qG 0 rfl (by omega) (fun jx=>?_)
 refine gL [0,1] ((cV hI (fun _ _ h=>pq Z Y h hC c.handle)).val (congrArg exV hh)) ?_
 rintro _ _ ⟨rfl,rfl⟩
 refine jK 5 [7,8] [] ?_
 refine NN (af.seq (SR (jK 2 [17] [] ?_)))
 refine NN (CF (af.skip (NX (af.join (fun (u:Unit)=>(¬ ((nd Z.ns k).kind=2/\(nd Z.ns k).id∈Z.gone))) (fun (u:Unit)=>[(2,vP oL),(3,vP qC),(4,vP fF),(7,vI ↑k)]) (fun (u:Unit)=>[dZ Y Z,dO Y Z,.abs R,.blk oL (rV Z Y) 42,pC qC c,.blk fF (rZ) 42]) ?_ ?_))))
 ·rintro u n1
  refine af.seq (SR (jK 2 [41] [(1,a_ 4 qC)] ?_))
  refine gL [] (J0 c.mode) ?_
  rintro _ _ ⟨rfl,rfl⟩
  refine jK 1 [43] [] ?_
  refine NN (cN (gy c.mode) (fun iA=>?_) (fun iA=>?_))
  ·refine SR (jC 4 [5,6] [(0,A_ 3 oL 12),(1,A_ 5 fF 12)] [(5,(zC (rV Z Y)))] ?_)
   refine NN (af.ret (ai.aj (ai.bN [0,1] [dZ Y Z,dO Y Z] (fun abq Kj hL=>?_))))
   have d9:cD abq Z Y:=hI.at hL
   replace hI:=hI.le Kj
   replace hle0:=hle0.trans Kj
   exact rB _ [A_ 3 fF 12] [0] hle0 (⟨Y,by rw [QW hh n1 iA]<;>rfl,rfl,by rw [QW hh n1 iA];exact d9⟩)
  refine af.skip (NX (af.seq (af.seq ?_)))
  by_cases hown:mh c.uid/\mh c.gid
  ·have hw1:=hown.1.1
   have hw2:=hown.1.2
   have hw3:=hown.2.1
   have hw4:=hown.2.2
   refine af.region (jK 18 [62] [(1,a_ 4 qC),(2,wF ((c.uid:Int) < (0:Int))),(5,a_ 4 qC),(6,wF ((c.uid:Int) > (2147483647:Int))),(10,a_ 4 qC),(11,wF ((c.gid:Int) < (0:Int))),(15,a_ 4 qC),(16,wF ((c.gid:Int) > (2147483647:Int)))] ?_)
   refine NN (CF (af.skip (NX (af.seq (SR (jK 2 [65] [(1,A_ 4 qC 2)] ?_))))))
   refine gL [] (xq c.sec c.nano) ?_
   rintro _ _ ⟨rfl,rfl⟩
   refine jK 1 [67] [] ?_
   refine NN (cN (dw c.sec c.nano) (fun IZ=>?_) (fun IZ=>?_))
   ·refine SR (jC 4 [5,6] [(0,A_ 3 oL 12),(1,A_ 5 fF 12)] [(5,(zC (rV Z Y)))] ?_)
    refine NN (af.ret (ai.aj (ai.bN [0,1] [dZ Y Z,dO Y Z] (fun abr Kk hL=>?_))))
    have d9:cD abr Z Y:=hI.at hL
    replace hI:=hI.le Kk
    replace hle0:=hle0.trans Kk
    exact rB _ [A_ 3 fF 12] [0] hle0 (⟨Y,by rw [QX hh n1 iA hown IZ]<;>rfl,rfl,by grind [QX]⟩)
   refine af.skip (NX (SR (jK 8 [74,76] [(2,a_ 3 oL),(5,a_ 4 qC),(6,x_ k Z.ns.length (jx))] ?_)))
   refine ak.uW 0 (k * 10+2) (d:=none) (T:=3) (e:=66) (size:=10) (n:=Z.ns.length) (cap:=Y.c) (A:=Y.A) (xs:=(aR Y.L Z.ns)) (u:=.int .i64 (c.mode)) (a:=(.tmp 76)) (y:=(.tmp 74)) (fun _=>by kernel_rfl) (by kernel_rfl) (fun _=>by kernel_rfl) (fun _=>by kernel_rfl) (by kernel_rfl) rfl (by omega) (by rw [j4];omega) ?_
   refine NS (jK 8 [82,84] [(2,a_ 3 oL),(5,a_ 4 qC),(6,x_ k Z.ns.length (jx))] ?_)
   refine ak.uW 0 (k * 10+3) (d:=none) (T:=3) (e:=66) (size:=10) (n:=Z.ns.length) (cap:=Y.c) (A:=Y.A) (xs:=((aR Y.L Z.ns).set (k * 10+2) (.int .i64 (c.mode)))) (u:=.int .i64 (c.uid)) (a:=(.tmp 84)) (y:=(.tmp 82)) (fun _=>by kernel_rfl) (by kernel_rfl) (fun _=>by kernel_rfl) (fun _=>by kernel_rfl) (by kernel_rfl) rfl (by omega) (by rw [List.length_set,j4];omega) ?_
   refine NS (jK 8 [90,92] [(2,a_ 3 oL),(5,a_ 4 qC),(6,x_ k Z.ns.length (jx))] ?_)
   refine ak.uW 0 (k * 10+4) (d:=none) (T:=3) (e:=66) (size:=10) (n:=Z.ns.length) (cap:=Y.c) (A:=Y.A) (xs:=(((aR Y.L Z.ns).set (k * 10+2) (.int .i64 (c.mode))).set (k * 10+3) (.int .i64 (c.uid)))) (u:=.int .i64 (c.gid)) (a:=(.tmp 92)) (y:=(.tmp 90)) (fun _=>by kernel_rfl) (by kernel_rfl) (fun _=>by kernel_rfl) (fun _=>by kernel_rfl) (by kernel_rfl) rfl (by omega) (by grind [j4]) ?_
   refine NS (jK 8 [98,100] [(2,a_ 3 oL),(5,A_ 4 qC 2),(6,x_ k Z.ns.length (jx))] ?_)
   refine ak.yO 0 (k * 10+5) (d:=none) (T:=26) (e:=66) (size:=10) (n:=Z.ns.length) (cap:=Y.c) (A:=Y.A) (xs:=((((aR Y.L Z.ns).set (k * 10+2) (.int .i64 (c.mode))).set (k * 10+3) (.int .i64 (c.uid))).set (k * 10+4) (.int .i64 (c.gid)))) (u:=.int .i64 (c.sec)) (u2:=.int .i64 (c.nano)) (a:=(.tmp 100)) (y:=(.tmp 98)) (fun _=>by kernel_rfl) (by kernel_rfl) (fun _=>by kernel_rfl) (fun _=>by kernel_rfl) (by kernel_rfl) rfl rfl (by omega) (by grind [j4]) ?_
   refine ak.bM 0 rfl (Ud hk) ?_
   refine NS (jC 4 [5,6] [(0,A_ 3 oL 12),(1,A_ 5 fF 12)] [(5,(zC (rV Z Y)))] ?_)
   refine NN (af.ret (ai.bN [0,1] [.abs (ay 66 10 Y.A ((uN Z k c).ns.length) Y.c (aR Y.L (uN Z k c).ns)),dO Y Z] (fun abt Kl hL=>?_)))
   have d9:cD abt (uN Z k c) Y:=(hI.meta hk).at hL
   replace hI:=hI.le Kl
   replace hle0:=hle0.trans Kl
   exact rB (.tuple #[.agg ⟨rV Z Y⟩,vI 0,vI 0]) [A_ 3 fF 12] [0] hle0 (⟨Y,by simp only [rV];rw [QY hh n1 iA hown IZ];show _=_;rw [Dn]<;>rfl,rfl,by grind [QY]⟩)
  refine af.region (jK 4 [48] [(1,a_ 4 qC),(2,p_ ⟨[],none,none,none,some (.bool (decide ((c.uid:Int) < (0:Int))))⟩ [((.bool (decide ((c.uid:Int) < (0:Int))):Value))=(.bool (decide ((c.uid:Int) < (0:Int))))] ⟨rfl,trivial⟩)] ?_)
  refine sP 48 ((c.uid:Int) < (0:Int)) (fun h48=>?_) (fun h48=>?_)
  ·refine jK 14 [62] [] ?_
   refine NN (CT (SR (jC 4 [5,6] [(0,A_ 3 oL 12),(1,A_ 5 fF 12)] [(5,(zC (rV Z Y)))] ?_)))
   refine NN (af.ret (ai.aj (ai.bN [0,1] [dZ Y Z,dO Y Z] (fun abu Km hL=>?_))))
   have d9:cD abu Z Y:=hI.at hL
   replace hI:=hI.le Km
   replace hle0:=hle0.trans Km
   exact rB _ [A_ 3 fF 12] [0] hle0 (⟨Y,by rw [tZ hh n1 iA hown]<;>rfl,rfl,by rw [tZ hh n1 iA hown];exact d9⟩)
  refine jK 5 [53] [(1,a_ 4 qC),(2,p_ ⟨[],none,none,none,some (.bool (decide ((c.uid:Int) > (2147483647:Int))))⟩ [((.bool (decide ((c.uid:Int) > (2147483647:Int))):Value))=(.bool (decide ((c.uid:Int) > (2147483647:Int))))] ⟨rfl,trivial⟩)] ?_
  refine sP 53 ((c.uid:Int) > (2147483647:Int)) (fun Gt=>?_) (fun Gt=>?_)
  ·refine jK 9 [62] [] ?_
   refine NN (CT (SR (jC 4 [5,6] [(0,A_ 3 oL 12),(1,A_ 5 fF 12)] [(5,(zC (rV Z Y)))] ?_)))
   refine NN (af.ret (ai.aj (ai.bN [0,1] [dZ Y Z,dO Y Z] (fun abv Kn hL=>?_))))
   have d9:cD abv Z Y:=hI.at hL
   replace hI:=hI.le Kn
   replace hle0:=hle0.trans Kn
   exact rB _ [A_ 3 fF 12] [0] hle0 (⟨Y,by rw [tZ hh n1 iA hown]<;>rfl,rfl,by rw [tZ hh n1 iA hown];exact d9⟩)
  refine jK 5 [58] [(1,a_ 4 qC),(2,p_ ⟨[],none,none,none,some (.bool (decide ((c.gid:Int) < (0:Int))))⟩ [((.bool (decide ((c.gid:Int) < (0:Int))):Value))=(.bool (decide ((c.gid:Int) < (0:Int))))] ⟨rfl,trivial⟩)] ?_
  refine sP 58 ((c.gid:Int) < (0:Int)) (fun Hs=>?_) (fun Hs=>?_)
  ·refine jK 4 [62] [] ?_
   refine NN (CT (SR (jC 4 [5,6] [(0,A_ 3 oL 12),(1,A_ 5 fF 12)] [(5,(zC (rV Z Y)))] ?_)))
   refine NN (af.ret (ai.aj (ai.bN [0,1] [dZ Y Z,dO Y Z] (fun abw Kp hL=>?_))))
   have d9:cD abw Z Y:=hI.at hL
   replace hI:=hI.le Kp
   replace hle0:=hle0.trans Kp
   exact rB _ [A_ 3 fF 12] [0] hle0 (⟨Y,by rw [tZ hh n1 iA hown]<;>rfl,rfl,by rw [tZ hh n1 iA hown];exact d9⟩)
  refine jK 4 [62] [(1,a_ 4 qC),(2,p_ ⟨[],none,none,none,some (.bool (decide ((c.gid:Int) > (2147483647:Int))))⟩ [((.bool (decide ((c.gid:Int) > (2147483647:Int))):Value))=(.bool (decide ((c.gid:Int) > (2147483647:Int))))] ⟨rfl,trivial⟩)] ?_
  refine NN (cP ((c.gid:Int) > (2147483647:Int)) (fun Ve=>?_) (fun Ve=>?_))
  ·refine SR (jC 4 [5,6] [(0,A_ 3 oL 12),(1,A_ 5 fF 12)] [(5,(zC (rV Z Y)))] ?_)
   refine NN (af.ret (ai.aj (ai.bN [0,1] [dZ Y Z,dO Y Z] (fun abx Kq hL=>?_))))
   have d9:cD abx Z Y:=hI.at hL
   replace hI:=hI.le Kq
   replace hle0:=hle0.trans Kq
   exact rB _ [A_ 3 fF 12] [0] hle0 (⟨Y,by rw [tZ hh n1 iA hown]<;>rfl,rfl,by rw [tZ hh n1 iA hown];exact d9⟩)
  exact absurd ⟨⟨by omega,by omega⟩,⟨by omega,by omega⟩⟩ hown
 refine af.seq ?_
 by_cases hk2:(nd Z.ns k).kind=2
 ·refine jM [0,1,2,3,4,5,6,7,8,9,10,11,12,13,14,15,16,517,518] [3,0] ?_
  refine jG 17 [2,3,4,7,28,29,36] [(2,a_ 0 oL),(4,x_ k Z.ns.length (jx)),(6,v_ 1 (nA Z.ns Y.L Y.A Y.c k 1 hk rfl)),(7,wT (((nd Z.ns k).kind:Int)=(2:Int)) hk2),(9,A_ 0 oL 12),(12,a_ 0 oL),(14,x_ k Z.ns.length (jx)),(16,v_ 1 (nA Z.ns Y.L Y.A Y.c k 0 hk rfl))] ?_
  refine kL [3,0] [0,1] (cV hI (fun _ _ h=>vJ Z Y h hC.toRB (nd Z.ns k).id)) ?_ (by rintro _ _ ⟨rfl,rfl⟩;kernel_rfl)
  rintro _ _ ⟨rfl,rfl⟩
  refine bZ.last (by kernel_rfl) ?_
  refine jK 1 [38] [] ?_
  refine NL (ai.np (NX ?_))
  refine cP ((nd Z.ns k).id∈Z.gone) (fun wk=>?_) (fun wk=>?_)
  ·refine SR (jC 4 [5,6] [(0,A_ 3 oL 12),(1,A_ 5 fF 12)] [(5,(zC (rV Z Y)))] ?_)
   refine NN (af.ret (ai.aj (ai.bN [0,1] [dZ Y Z,dO Y Z] (fun aby Kr hL=>?_))))
   have d9:cD aby Z Y:=hI.at hL
   replace hI:=hI.le Kr
   replace hle0:=hle0.trans Kr
   exact rB _ [A_ 3 fF 12] [0] hle0 (⟨Y,by rw [QV hh ⟨hk2,wk⟩]<;>rfl,rfl,by grind [QV]⟩)
  refine af.skip ?_
  exact mJ () [0,1,2,3,4,5] ((fun q=>wk q.2))
 refine jM [0,1,2,3,4,5,6,7,8,9,10,11,12,13,14,15,16,517,518] [3,0] ?_
 refine jG 17 [2,3,4,7,28,29,36] [(2,a_ 0 oL),(4,x_ k Z.ns.length (jx)),(6,v_ 1 (nA Z.ns Y.L Y.A Y.c k 1 hk rfl)),(7,wF (((nd Z.ns k).kind:Int)=(2:Int)) hk2)] ?_
 refine bZ.cut (ι:=Unit) (fr':=fun (_:Unit)=>[(2,vP oL),(3,vP qC),(4,vP fF),(7,vI ↑k),(28,.bool false),(37,undef)]) (hp':=fun (_:Unit)=>[dZ Y Z,dO Y Z,.abs R,.blk oL (rV Z Y) 42,.blk qC (aK c) 53,.blk fF (rZ) 42]) [3,0] (by kernel_rfl) ?_ rfl (fun _=>by kernel_rfl) ?_
 ·refine jK 1 [37] [] ?_
  refine NL ?_
  exact MD () [2,3,4,7,28,37] [0,1,2,3,4,5]
 rintro _
 refine bZ.last (by kernel_rfl) ?_
 refine jK 1 [38] [] ?_
 refine NL (ai.np (NX ?_))
 refine CF (af.skip ?_)
 exact mJ () [0,1,2,3,4,5] ((fun q=>hk2 q.1))
end
section
open Go.RowKit Go.Maps aX aq
attribute [local irreducible] ak aU af ai iB
noncomputable abbrev zW1 (b1:Nat) (Y:RL) (Z:RS) (A1:Option Addr) (c:ar) (c1:Nat) (B1) (d1):=(.blk b1 [.slice Y.A (Z.ns.length) (Y.c),.slice Y.G (Z.gone.length) (Y.cg),vI (Z.cH),vI (Z.av),.slice A1 ((del c.handle Z.us).length) (c1),.slice B1 ((del c.handle Z.us).length) (d1),vI (Z.cN),vI (Z.cB),vI (Z.cH),vI (Z.cS),vI (Z.cZ),vI (Z.last)] 42:HP)
theorem Rc {β:Bs} (Z:RS) (Y:RL) (hI:jW β Z Y.L Y.H Y.V) (hC:RC Z) (hD:RD 0 Z) (c:ar) (hn:c.name.size<=1048576) (ht:c.text.size<=1048576) (hno:c.op=9->∀ k,eN Z c.handle=.ok k->(nd Z.ns k).kind=2) :
    cu Tryz.prog β 43 #[.agg ⟨rV Z Y⟩,.agg ⟨aK c⟩] [dZ Y Z,dO Y Z] (fun β' v l=>∃ Y',v=.tuple #[.agg ⟨rV ((aS Z c).1) Y'⟩,vI (aS Z c).2.1,vI (aS Z c).2.2]/\l=[]/\cD β' (aS Z c).1 Y'):=by
 refine oW Tryz.func43 Tryz.ntmps43 (fun hle0 R=>?_)
 refine SR (jN 1 [2] (fun _=>[]) (fun _=>[]) (fun b1=>.blk b1 (rV Z Y) 42) (fun b1=>?_))
 refine jN 1 [3] (fun _=>[]) (fun _=>[]) (fun b2=>.blk b2 (aK c) 53) (fun b2=>?_)
 refine jN 3 [4] (fun _=>[]) (fun _=>[]) (fun b3=>.blk b3 (rZ) 42) (fun b3=>?_)
 refine NN (af.seq (SR (jK 2 [24] [(1,a_ 4 b2)] ?_)))
 refine NN (af.block (SR ?_))
 refine jK 2 [25] [] ?_
 refine NN (cP ((c.op:Int)=(1:Int)) (fun oH=>?_) (fun oH=>?_))
 ·refine SR (jK 4 [28,30] [(1,a_ 3 b1),(3,a_ 4 b2)] ?_)
  by_cases h1:0<=fP Z.ns c.other
  ·have hk1:=(kg h1).1
   refine ak.qG 0 rfl (by omega) (fun jx=>?_)
   refine gL [0,1] ((cV hI (fun _ _ h=>DV Y.A Y.c Z.ns Y.L h.n hC.rise (by have:=hC.ns;omega) c.other)).val (congrArg (Value.int .i64) (kg h1).2.2)) ?_
   rintro _ _ ⟨rfl,rfl⟩
   refine jK 1 [7] [] ?_
   refine NN (af.seq (SR (jK 2 [33] [(1,wF (((((tgt Z.ns c.other):Nat):Int):Int) < (0:Int)))] ?_)))
   refine NN (CF (af.skip (NX (af.seq (SR (jK 8 [42] [(2,a_ 3 b1),(4,x_ (tgt Z.ns c.other) Z.ns.length (jx)),(6,v_ 0 (nA Z.ns Y.L Y.A Y.c (tgt Z.ns c.other) 1 hk1 rfl))] ?_))))))
   refine NN (cN (((nd Z.ns (tgt Z.ns c.other)).kind:Int)=(2:Int)) (fun iA=>?_) (fun iA=>?_))
   ·refine SR (jC 4 [5,6] [(0,A_ 3 b1 12),(1,A_ 5 b3 12)] [(5,(zC (rV Z Y)))] ?_)
    refine NN (af.ret (ai.aj (ai.au (ai.aj ?_))))
    refine ai.bN [0,1] [dZ Y Z,dO Y Z] (fun wP dX hL=>?_)
    have d9:cD wP Z Y:=hI.at hL
    replace hI:=hI.le dX
    replace hle0:=hle0.trans dX
    exact rB _ [A_ 3 b3 12] [0] hle0 (⟨Y,by rw [VI oH h1 iA]<;>rfl,rfl,by rw [VI oH h1 iA];exact d9⟩)
   refine af.skip (NX (SR (jK 2 [44,45] [(0,A_ 3 b1 12)] ?_)))
   refine ak.bN [0,1] [dZ Y Z,dO Y Z] (fun β1 aT hL=>?_)
   have pG:cD β1 Z Y:=hI.at hL
   replace hI:=hI.le aT
   replace hle0:=hle0.trans aT
   refine kZ [] (Dm Z Y pG hC.ru (tgt Z.ns c.other) hk1) ?_
   rintro ou _ _ cX ⟨Y3,rfl,rfl,kx⟩
   replace hI:=hI.le cX
   replace pG:=pG.le cX
   replace hle0:=hle0.trans cX
   refine jC 6 [5,6] [(3,A_ 3 b3 12)] [(3,(zC (rV ((iF Z (tgt Z.ns c.other)).1) Y3)))] ?_
   refine NN (af.ret (ai.au (ai.aj ?_)))
   exact rB _ [A_ 3 b3 12] [0] hle0 (⟨Y3,by rw [VJ oH h1 iA]<;>rfl,rfl,by rw [VJ oH h1 iA];exact kx⟩)
  refine gL [0,1] ((cV hI (fun _ _ h=>DV Y.A Y.c Z.ns Y.L h.n hC.rise (by have:=hC.ns;omega) c.other)).val (congrArg (Value.int .i64) (BD h1))) ?_
  rintro _ _ ⟨rfl,rfl⟩
  refine jK 1 [7] [] ?_
  refine NN (af.seq (SR (jK 2 [33] [] ?_)))
  refine NN (CT (SR (jC 4 [5,6] [(0,A_ 3 b1 12),(1,A_ 5 b3 12)] [(5,(zC (rV Z Y)))] ?_)))
  refine NN (af.ret (ai.aj (ai.au (ai.aj ?_))))
  refine ai.bN [0,1] [dZ Y Z,dO Y Z] (fun MW ja hL=>?_)
  have d9:cD MW Z Y:=hI.at hL
  replace hI:=hI.le ja
  replace hle0:=hle0.trans ja
  exact rB _ [A_ 3 b3 12] [0] hle0 (⟨Y,by rw [VH oH (BD h1)]<;>rfl,rfl,by rw [VH oH (BD h1)];exact d9⟩)
 refine SR (jK 2 [50] [] ?_)
 refine NN (cP ((c.op:Int)=(2:Int)) (fun h50=>?_) (fun h50=>?_))
 ·refine SR (jK 2 [52,53] [(0,A_ 3 b1 12),(1,A_ 4 b2 13)] ?_)
  refine kZ [0,1] (Hr Z Y hI hC c hn 2) ?_
  rintro β1 _ _ aT ⟨Y3,rfl,rfl,kx⟩
  replace hI:=hI.le aT
  replace hle0:=hle0.trans aT
  refine jC 6 [5,6] [(3,A_ 3 b3 12)] [(3,(zC (rV ((fN Z c 2).1) Y3)))] ?_
  refine NN (af.ret (ai.au (ai.aj ?_)))
  exact rB _ [A_ 3 b3 12] [0] hle0 (⟨Y3,by rw [YU h50]<;>rfl,rfl,by rw [YU h50];exact kx⟩)
 refine SR (jK 2 [58] [] ?_)
 refine NN (cP ((c.op:Int)=(3:Int)) (fun Hs=>?_) (fun Hs=>?_))
 ·refine SR (jK 2 [60,61] [(0,A_ 3 b1 12),(1,A_ 4 b2 13)] ?_)
  refine kZ [0,1] (Hr Z Y hI hC c hn 1) ?_
  rintro β1 _ _ aT ⟨Y3,rfl,rfl,kx⟩
  replace hI:=hI.le aT
  replace hle0:=hle0.trans aT
  refine jC 6 [5,6] [(3,A_ 3 b3 12)] [(3,(zC (rV ((fN Z c 1).1) Y3)))] ?_
  refine NN (af.ret (ai.au (ai.aj ?_)))
  exact rB _ [A_ 3 b3 12] [0] hle0 (⟨Y3,by rw [YV Hs]<;>rfl,rfl,by rw [YV Hs];exact kx⟩)
 refine af.join (fun (q:Bool)=>(q=true↔EL c.op)) (fun (q:Bool)=>[(2,vP b1),(3,vP b2),(4,vP b3),(24,vI (c.op)),(66,.bool q)]) (fun (q:Bool)=>[dZ Y Z,dO Y Z,.abs R,.blk b1 (rV Z Y) 42,pC b2 c,.blk b3 (rZ) 42]) ?_ ?_
 ·rintro q hq
  refine af.cond (b:=q) (fun _=>by kernel_rfl) (fun jm=>?_) (fun jm=>?_)
  ·have ME:=hq.1 jm
   refine SR (jK 5 [73,75,77] [(0,A_ 3 b1 12),(2,a_ 4 b2),(4,a_ 4 b2)] ?_)
   rcases nM hC c.handle c.name 192 with ⟨e,h1,AZ⟩|⟨d,h1,hd⟩
   ·refine gL [0,1] ((cV hI (fun _ _ h=>kU Z Y h hC c.handle c.name hn 192)).val (congrArg exV h1)) ?_
    rintro _ _ ⟨rfl,rfl⟩
    refine jK 5 [8,9] [] ?_
    refine NN (af.seq (SR (jK 2 [82] [(1,Iz ((e:Int)=(0:Int)) AZ)] ?_)))
    refine NN (CT (SR (jC 5 [5,6] [(0,A_ 3 b1 12),(2,A_ 5 b3 12)] [(5,(zC (rV Z Y)))] ?_)))
    refine NN (af.ret (ai.aj (ai.au (ai.aj ?_))))
    refine ai.bN [0,1] [dZ Y Z,dO Y Z] (fun Y9 xT hL=>?_)
    have d9:cD Y9 Z Y:=hI.at hL
    replace hI:=hI.le xT
    replace hle0:=hle0.trans xT
    exact rB _ [A_ 3 b3 12] [0] hle0 (⟨Y,by rw [VK (hq.1 jm) h1]<;>rfl,rfl,by rw [VK (hq.1 jm) h1];exact d9⟩)
   refine gL [0,1] ((cV hI (fun _ _ h=>kU Z Y h hC c.handle c.name hn 192)).val (congrArg exV h1)) ?_
   rintro _ _ ⟨rfl,rfl⟩
   refine jK 5 [8,9] [] ?_
   refine NN (af.seq (SR (jK 2 [82] [(1,p_ ⟨[],none,none,none,some (.bool false)⟩ [((.bool false:Value))=(.bool false)] ⟨rfl,trivial⟩)] ?_)))
   refine NN (CF (af.skip (NX (SR (jK 3 [85,86,87] [(0,A_ 3 b1 12),(1,A_ 4 b2 13)] ?_)))))
   refine kZ [0,1] (Ol Z Y hI hC hD (by omega) c ht d hd) ?_
   rintro β1 _ _ aT ⟨Y3,rfl,rfl,kx⟩
   replace hI:=hI.le aT
   replace hle0:=hle0.trans aT
   refine jC 6 [5,6] [(3,A_ 3 b3 12)] [(3,(zC (rV ((eO Z c d).1) Y3)))] ?_
   refine NN (af.ret (ai.au (ai.aj ?_)))
   exact rB _ [A_ 3 b3 12] [0] hle0 (⟨Y3,by rw [VL (hq.1 jm) h1]<;>rfl,rfl,by rw [VL (hq.1 jm) h1];exact kx⟩)
  have ME:¬ (c.op=4\/c.op=5\/c.op=6\/c.op=8\/c.op=14):=fun e=>by rw [hq.2 e] at jm;cases jm
  refine SR (jK 2 [92] [] ?_)
  refine NN (cP ((c.op:Int)=(7:Int)) (fun zA=>?_) (fun zA=>?_))
  ·refine SR (jK 2 [95,96] [(0,A_ 3 b1 12),(1,A_ 4 b2 13)] ?_)
   rcases GX hC c 64 with ⟨a,e,h1,AZ,Kt⟩|⟨f,to,h1,hf,hto,Kt⟩
   ·refine gL [0,1] ((cV hI (fun _ _ h=>BR Z Y h hC c hn ht 64)).val Kt) ?_
    rintro _ _ ⟨rfl,rfl⟩
    refine jK 7 [10,11,12] [] ?_
    refine NN (af.seq (SR (jK 2 [102] [(1,Iz ((e:Int)=(0:Int)) AZ)] ?_)))
    refine NN (CT (SR (jC 5 [5,6] [(0,A_ 3 b1 12),(2,A_ 5 b3 12)] [(5,(zC (rV Z Y)))] ?_)))
    refine NN (af.ret (ai.aj (ai.au (ai.aj ?_))))
    refine ai.bN [0,1] [dZ Y Z,dO Y Z] (fun MV kG hL=>?_)
    have d9:cD MV Z Y:=hI.at hL
    replace hI:=hI.le kG
    replace hle0:=hle0.trans kG
    exact rB _ [A_ 3 b3 12] [0] hle0 (⟨Y,by rw [VN zA h1]<;>rfl,rfl,by rw [VN zA h1];exact d9⟩)
   refine gL [0,1] ((cV hI (fun _ _ h=>BR Z Y h hC c hn ht 64)).val Kt) ?_
   rintro _ _ ⟨rfl,rfl⟩
   refine jK 7 [10,11,12] [] ?_
   refine NN (af.seq (SR (jK 2 [102] [(1,p_ ⟨[],none,none,none,some (.bool false)⟩ [((.bool false:Value))=(.bool false)] ⟨rfl,trivial⟩)] ?_)))
   refine NN (CF (af.skip (NX (SR (jK 4 [105,106,108] [(0,A_ 3 b1 12),(3,a_ 4 b2)] ?_)))))
   rcases j6 Z.ns f c.name with hl|⟨k,hl,hk⟩
   ·refine gL [0,1] ((cV hI (fun _ _ h=>iU Z Y h hC f hf c.name)).val (congrArg (Value.int .i64) hl)) ?_
    rintro _ _ ⟨rfl,rfl⟩
    refine jK 1 [13] [] ?_
    refine NN (af.seq (SR (jK 2 [111] [] ?_)))
    refine NN (CT (SR (jC 4 [5,6] [(0,A_ 3 b1 12),(1,A_ 5 b3 12)] [(5,(zC (rV Z Y)))] ?_)))
    refine NN (af.ret (ai.aj (ai.au (ai.aj ?_))))
    refine ai.bN [0,1] [dZ Y Z,dO Y Z] (fun Zb rf hL=>?_)
    have d9:cD Zb Z Y:=hI.at hL
    replace hI:=hI.le rf
    replace hle0:=hle0.trans rf
    exact rB _ [A_ 3 b3 12] [0] hle0 (⟨Y,by rw [VP zA h1 hl]<;>rfl,rfl,by rw [VP zA h1 hl];exact d9⟩)
   refine ak.qG 0 rfl (by omega) (fun jx=>?_)
   refine gL [0,1] ((cV hI (fun _ _ h=>iU Z Y h hC f hf c.name)).val (congrArg (Value.int .i64) hl)) ?_
   rintro _ _ ⟨rfl,rfl⟩
   refine jK 1 [13] [] ?_
   refine NN (af.seq (SR (jK 2 [111] [(1,wF (((k:Int):Int) < (0:Int)))] ?_)))
   refine NN (CF (af.skip (NX (af.seq (SR (jK 8 [120] [(2,a_ 3 b1),(4,x_ k Z.ns.length (jx)),(6,v_ 0 (nA Z.ns Y.L Y.A Y.c k 1 hk rfl))] ?_))))))
   refine NN (cP (((nd Z.ns k).kind:Int)=(2:Int)) (fun Ku=>?_) (fun Ku=>?_))
   ·refine SR (jC 4 [5,6] [(0,A_ 3 b1 12),(1,A_ 5 b3 12)] [(5,(zC (rV Z Y)))] ?_)
    refine NN (af.ret (ai.aj (ai.au (ai.aj ?_))))
    refine ai.bN [0,1] [dZ Y Z,dO Y Z] (fun Zc rz hL=>?_)
    have d9:cD Zc Z Y:=hI.at hL
    replace hI:=hI.le rz
    replace hle0:=hle0.trans rz
    exact rB _ [A_ 3 b3 12] [0] hle0 (⟨Y,by rw [VQ zA h1 hl Ku]<;>rfl,rfl,by rw [VQ zA h1 hl Ku];exact d9⟩)
   refine af.skip (NX (af.seq (SR (jK 4 [122,123,125] [(0,A_ 3 b1 12),(3,a_ 4 b2)] ?_))))
   rcases j6 Z.ns to c.text with hl2|⟨t,hl2,ht⟩
   ·refine gL [0,1] ((cV hI (fun _ _ h=>iU Z Y h hC to hto c.text)).val (congrArg (Value.int .i64) hl2)) ?_
    rintro _ _ ⟨rfl,rfl⟩
    refine jK 1 [127] [] ?_
    refine NN (CF (af.skip (NX (af.seq (SR (jK 1 [129] [(0,A_ 3 b1 12)] ?_))))))
    refine gL [0,1] (cV hI (fun _ _ h=>JU Z Y h hC.toRB)) ?_
    rintro _ _ ⟨rfl,rfl⟩
    refine jK 1 [131] [] ?_
    refine NN (cP (((((bJ Z.ns Z.ns.length):Nat):Int):Int) ≥ (8192:Int)) (fun abz=>?_) (fun abz=>?_))
    ·refine SR (jC 4 [5,6] [(0,A_ 3 b1 12),(1,A_ 5 b3 12)] [(5,(zC (rV Z Y)))] ?_)
     refine NN (af.ret (ai.aj (ai.au (ai.aj ?_))))
     refine ai.bN [0,1] [dZ Y Z,dO Y Z] (fun abA Kv hL=>?_)
     have d9:cD abA Z Y:=hI.at hL
     replace hI:=hI.le Kv
     replace hle0:=hle0.trans Kv
     exact rB (.tuple #[.agg ⟨rV Z Y⟩,vI 0,vI 177]) [A_ 3 b3 12] [0] hle0 (⟨Y,by grind [VS],rfl,by grind [VS]⟩)
    refine af.skip (NX (af.seq (af.tj 11 (by kernel_rfl) (by kernel_rfl) ?_)))
    refine iB.seg (k':=11) (fr':=[(4,vP b3),(133,.agg #[.slice Y.A (Z.ns.length) (Y.c),.slice Y.G (Z.gone.length) (Y.cg),vI (Z.cH),vI (Z.av),.slice Y.H (Z.us.length) (Y.ch),.slice Y.V (Z.us.length) (Y.cv),vI (Z.cN),vI (Z.cB),vI (Z.cH),vI (Z.cS),vI (Z.cZ),vI (Z.last)]),(134,vI ↑to),(136,.string c.text),(143,vI ((nd Z.ns k).id))]) (ct:=[(∀ F w,(ay 66 10 Y.A Z.ns.length Y.c (aR Y.L Z.ns)).h F w->w.cell? ⟨(aP Y.A),aO Y.A+k * 10,none⟩=some (vI ((nd Z.ns k).id))),((k:Nat):Int)=((k:Nat):Int),k < Z.ns.length,(⟨(aP Y.A),aO Y.A,none⟩:Addr).spot=none,(Y.A:Option Addr)=some ⟨(aP Y.A),aO Y.A,none⟩,b1=b1,b2=b2,b1=b1,b1=b1,b1=b1,b1=b1,b1=b1,b1=b1,b1=b1,b1=b1,b1=b1,b1=b1,b1=b1,b1=b1]) [⟨[.at 3,.at 3,.at 3,.at 3,.at 3,.at 3,.at 3,.at 3,.at 3,.at 3,.at 3,.at 3],none,none,none,none⟩,o_,o_,⟨[.at 4],none,none,none,none⟩,o_,o_,⟨[.at 3],none,none,none,none⟩,o_,⟨[],some k,none,some ⟨(aP Y.A),aO Y.A,none⟩,none⟩,o_,⟨[.view 0 (.int .i64 ((nd Z.ns k).id))],none,none,none,none⟩] [4,133,134,136,143] (fun _ _=>by kernel_rfl) ⟨nA Z.ns Y.L Y.A Y.c k 0 hk rfl,rfl,by omega,rfl,jx,rfl,rfl,rfl,rfl,rfl,rfl,rfl,rfl,rfl,rfl,rfl,rfl,rfl,rfl,trivial⟩ (by decide) ?_
    refine iB.done rfl ?_
    refine kZ [0,1] (wN Z Y hI hC.toRB to hto c.text (nd Z.ns k).id) ?_
    rintro Dq _ _ mK ⟨L1,rfl,rfl,bE⟩
    replace hI:=hI.le mK
    replace hle0:=hle0.trans mK
    refine jC 3 [5,6] [(0,A_ 5 b3 12)] [(5,(zC (rV (bD Z to c.text (nd Z.ns k).id) Y)))] ?_
    refine NN (af.ret (ai.au (ai.aj ?_)))
    refine ai.bN [0,1] [.abs (ay 66 10 Y.A ((bD Z to c.text (nd Z.ns k).id).ns.length) Y.c (aR L1 (bD Z to c.text (nd Z.ns k).id).ns)),.abs (ay 3 1 Y.G ((bD Z to c.text (nd Z.ns k).id).gone.length) Y.cg (ints (bD Z to c.text (nd Z.ns k).id).gone))] (fun Ui sR hL=>?_)
    have d9:cD Ui (bD Z to c.text (nd Z.ns k).id) ⟨Y.A,Y.c,L1,Y.G,Y.cg,Y.H,Y.ch,Y.V,Y.cv⟩:=bE.at hL
    replace hI:=hI.le sR
    replace bE:=bE.le sR
    replace hle0:=hle0.trans sR
    exact rB _ [A_ 3 b3 12] [0] hle0 (⟨⟨Y.A,Y.c,L1,Y.G,Y.cg,Y.H,Y.ch,Y.V,Y.cv⟩,by rw [VT zA h1 hl Ku hl2 (by omega)]<;>rfl,rfl,by grind [VT]⟩)
   refine gL [0,1] ((cV hI (fun _ _ h=>iU Z Y h hC to hto c.text)).val (congrArg (Value.int .i64) hl2)) ?_
   rintro _ _ ⟨rfl,rfl⟩
   refine jK 1 [127] [(0,wT (((t:Int):Int) ≥ (0:Int)))] ?_
   refine NN (CT (SR (jC 4 [5,6] [(0,A_ 3 b1 12),(1,A_ 5 b3 12)] [(5,(zC (rV Z Y)))] ?_)))
   refine NN (af.ret (ai.aj (ai.au (ai.aj ?_))))
   refine ai.bN [0,1] [dZ Y Z,dO Y Z] (fun Kf pz hL=>?_)
   have d9:cD Kf Z Y:=hI.at hL
   replace hI:=hI.le pz
   replace hle0:=hle0.trans pz
   exact rB _ [A_ 3 b3 12] [0] hle0 (⟨Y,by rw [VR zA h1 hl Ku hl2]<;>rfl,rfl,by grind [VR]⟩)
  refine SR (jK 2 [145] [] ?_)
  refine NN (cP ((c.op:Int)=(9:Int)) (fun lq=>?_) (fun lq=>?_))
  ·refine SR (jK 3 [148,150] [(0,A_ 3 b1 12),(2,a_ 4 b2)] ?_)
   rcases p6 hC c.handle with hh|⟨k,hh,hk⟩
   ·refine gL [0,1] ((cV hI (fun _ _ h=>pq Z Y h hC c.handle)).val (congrArg exV hh)) ?_
    rintro _ _ ⟨rfl,rfl⟩
    refine jK 5 [14,15] [] ?_
    refine NN (af.seq (SR (jK 2 [155] [] ?_)))
    refine NN (CT (SR (jC 5 [5,6] [(0,A_ 3 b1 12),(2,A_ 5 b3 12)] [(5,(zC (rV Z Y)))] ?_)))
    refine NN (af.ret (ai.aj (ai.au (ai.aj ?_))))
    refine ai.bN [0,1] [dZ Y Z,dO Y Z] (fun yY jj hL=>?_)
    have d9:cD yY Z Y:=hI.at hL
    replace hI:=hI.le jj
    replace hle0:=hle0.trans jj
    exact rB _ [A_ 3 b3 12] [0] hle0 (⟨Y,by rw [VU lq hh]<;>rfl,rfl,by rw [VU lq hh];exact d9⟩)
   refine ak.qG 0 rfl (by omega) (fun jx=>?_)
   refine gL [0,1] ((cV hI (fun _ _ h=>pq Z Y h hC c.handle)).val (congrArg exV hh)) ?_
   rintro _ _ ⟨rfl,rfl⟩
   refine jK 5 [14,15] [] ?_
   refine NN (af.seq (SR (jK 2 [155] [] ?_)))
   refine NN (CF (af.skip (NX (af.seq (SR (jK 8 [165] [(2,a_ 3 b1),(4,x_ k Z.ns.length (jx)),(6,v_ 0 (nA Z.ns Y.L Y.A Y.c k 1 hk rfl))] ?_))))))
   refine NN (cP (((nd Z.ns k).kind:Int)=(2:Int)) (fun Dt=>?_) (fun Dt=>?_))
   ·refine SR (jC 4 [5,6] [(0,A_ 3 b1 12),(1,A_ 5 b3 12)] [(5,(zC (rV Z Y)))] ?_)
    refine NN (af.ret (ai.aj (ai.au (ai.aj ?_))))
    refine ai.bN [0,1] [dZ Y Z,dO Y Z] (fun qo ig hL=>?_)
    have d9:cD qo Z Y:=hI.at hL
    replace hI:=hI.le ig
    replace hle0:=hle0.trans ig
    exact rB _ [A_ 3 b3 12] [0] hle0 (⟨Y,by rw [VW lq hh Dt]<;>rfl,rfl,by rw [VW lq hh Dt];exact d9⟩)
   exact absurd (hno lq k hh) Dt
  refine SR (jK 2 [175] [] ?_)
  refine NN (cP ((c.op:Int)=(10:Int)) (fun Uk=>?_) (fun Uk=>?_))
  ·refine SR (jK 2 [177,178] [(0,A_ 3 b1 12),(1,A_ 4 b2 13)] ?_)
   refine kZ [0,1] (Uj Z Y hI hC c) ?_
   rintro β1 _ _ aT ⟨Y3,rfl,rfl,kx⟩
   replace hI:=hI.le aT
   replace hle0:=hle0.trans aT
   refine jC 6 [5,6] [(3,A_ 3 b3 12)] [(3,(zC (rV ((jg Z c).1) Y3)))] ?_
   refine NN (af.ret (ai.au (ai.aj ?_)))
   exact rB _ [A_ 3 b3 12] [0] hle0 (⟨Y3,by rw [VY Uk]<;>rfl,rfl,by rw [VY Uk];exact kx⟩)
  refine SR (jK 2 [183] [] ?_)
  refine NN (cP ((c.op:Int)=(13:Int)) (fun Kw=>?_) (fun Kw=>?_))
  ·refine SR (jK 4 [187,189] [(1,A_ 3 b1 4),(3,a_ 4 b2)] ?_)
   by_cases hm:c.handle∈keys Z.us
   ·obtain⟨k,gj,hk,hx,_⟩:=Qv hC.usr hm
    refine gL [] (TV Z.cH Z.av Y.H Y.V Y.ch Y.cv Z.us hI.h hI.v (by have:=hC.us;omega) c.handle hC.usr k hk gj hx) ?_
    rintro _ _ ⟨A1,c1,B1,d1,rfl,rfl⟩
    refine jN 8 [16,18] (fun b16=>[(5,A_ 8 b16 4)]) (fun _=>[]) (fun b16=>.blk b16 [vI (Z.cH),vI (Z.av),.slice A1 ((del c.handle Z.us).length) (c1),.slice B1 ((del c.handle Z.us).length) (d1)] 40) (fun b16=>?_)
    refine NS (jC 3 [] [(0,A_ 8 b16 4),(2,A_ 5 b1 4)] [(5,[(4,.slice A1 ((del c.handle Z.us).length) (c1)),(5,.slice B1 ((del c.handle Z.us).length) (d1))])] ?_)
    refine NS (jK 1 [196] [(0,A_ 5 b1 12)] ?_)
    refine ak.j8 (Φ:=fun β'=>bT β' A1 (ints (keys (del c.handle Z.us)))) 0 [1,2,3,4,5,6,7,8] (eu:=[.abs (ay 3 1 B1 ((del c.handle Z.us).length) d1 (ints (gn (del c.handle Z.us)))),dZ Y Z,dO Y Z,.abs R,zW1 b1 Y Z A1 c c1 B1 d1,.blk b2 (aK c) 53,.blk b3 (rZ) 42,.blk b16 [vI (Z.cH),vI (Z.av),.slice A1 ((del c.handle Z.us).length) (c1),.slice B1 ((del c.handle Z.us).length) (d1)] 40]) rfl rfl (by kernel_rfl) (fun F w h β' h1 h2=>bT.gu h h1 h2) (fun β1 aT hH=>?_)
    replace hI:=hI.le aT
    replace hle0:=hle0.trans aT
    refine ak.j8 (Φ:=fun β'=>bT β' B1 (ints (gn (del c.handle Z.us)))) 0 [1,2,3,4,5,6,7] (eu:=[dZ Y Z,dO Y Z,.abs R,zW1 b1 Y Z A1 c c1 B1 d1,.blk b2 (aK c) 53,.blk b3 (rZ) 42,.blk b16 [vI (Z.cH),vI (Z.av),.slice A1 ((del c.handle Z.us).length) (c1),.slice B1 ((del c.handle Z.us).length) (d1)] 40]) rfl rfl (by kernel_rfl) (fun F w h β' h1 h2=>bT.gu h h1 h2) (fun ou cX hV=>?_)
    replace hI:=hI.le cX
    replace hH:=hH.le cX
    replace hle0:=hle0.trans cX
    refine ak.bN [0,1] [dZ Y Z,dO Y Z] (fun uy dz hL=>?_)
    have pG:cD uy ({ Z with us:=(del c.handle Z.us) }:RS) ⟨Y.A,Y.c,Y.L,Y.G,Y.cg,A1,c1,B1,d1⟩:=have q:=hI.at (ch:=Y.ch) (cv:=Y.cv) hL;⟨⟨q.g,hH.le hL.le,hV.le hL.le⟩,q.n⟩
    replace hI:=hI.le dz
    replace hH:=hH.le dz
    replace hV:=hV.le dz
    replace hle0:=hle0.trans dz
    refine kZ [] (tY ({ Z with us:=(del c.handle Z.us) }:RS) ⟨Y.A,Y.c,Y.L,Y.G,Y.cg,A1,c1,B1,d1⟩ pG ⟨hC.ns,hC.gone,Nat.le_trans N8 hC.us,hC.ah,hC.dat⟩) ?_
    rintro wP _ _ dX ⟨Y3,rfl,rfl,kx⟩
    replace hI:=hI.le dX
    replace hH:=hH.le dX
    replace hV:=hV.le dX
    replace pG:=pG.le dX
    replace hle0:=hle0.trans dX
    refine jC 4 [5,6] [(1,A_ 3 b3 12)] [(3,(zC (rV (dx ({ Z with us:=(del c.handle Z.us) }:RS)) Y3)))] ?_
    refine NN (af.ret (ai.au (ai.aj ?_)))
    exact rB _ [A_ 3 b3 12] [0] hle0 (⟨Y3,by rw [Q0 Kw hm]<;>rfl,rfl,by rw [Q0 Kw hm];exact kx⟩)
   refine gL [] (Ob Z.cH Z.av Y.H Y.V Y.ch Y.cv Z.us hI.h (by have:=hC.us;omega) c.handle (FN hm).1) ?_
   rintro _ _ ⟨rfl,rfl⟩
   refine jN 8 [16,18] (fun b17=>[(5,A_ 6 b17 4)]) (fun _=>[]) (fun b17=>.blk b17 [vI (Z.cH),vI (Z.av),.slice Y.H (Z.us.length) (Y.ch),.slice Y.V (Z.us.length) (Y.cv)] 40) (fun b17=>?_)
   refine NS (jC 3 [] [(0,A_ 6 b17 4),(2,A_ 3 b1 4)] [] ?_)
   refine NS (jK 1 [196] [(0,A_ 3 b1 12)] ?_)
   refine ak.bN [0,1] [dZ Y Z,dO Y Z] (fun uy dz hL=>?_)
   have pG:cD uy Z Y:=hI.at hL
   replace hI:=hI.le dz
   replace hle0:=hle0.trans dz
   refine kZ [] (tY Z Y pG hC.toRB) ?_
   rintro wP _ _ dX ⟨Y3,rfl,rfl,kx⟩
   replace hI:=hI.le dX
   replace pG:=pG.le dX
   replace hle0:=hle0.trans dX
   refine jC 4 [5,6] [(1,A_ 3 b3 12)] [(3,(zC (rV (dx Z) Y3)))] ?_
   refine NN (af.ret (ai.au (ai.aj ?_)))
   exact rB _ [A_ 3 b3 12] [0] hle0 (⟨Y3,by rw [Q5 Kw hm]<;>rfl,rfl,by rw [Q5 Kw hm];exact kx⟩)
  refine SR (jK 2 [199] [] ?_)
  refine NN (cP ((c.op:Int)=(15:Int)) (fun Kx=>?_) (fun Kx=>?_))
  ·refine SR (jK 2 [202,203] [(0,A_ 3 b1 12),(1,A_ 4 b2 13)] ?_)
   rcases GX hC c 192 with ⟨a,e,h1,AZ,Kt⟩|⟨f,to,h1,hf,hto,Kt⟩
   ·refine gL [0,1] ((cV hI (fun _ _ h=>BR Z Y h hC c hn ht 192)).val Kt) ?_
    rintro _ _ ⟨rfl,rfl⟩
    refine jK 7 [19,20,21] [] ?_
    refine NN (af.seq (SR (jK 2 [209] [(1,Iz ((e:Int)=(0:Int)) AZ)] ?_)))
    refine NN (CT (SR (jC 5 [5,6] [(0,A_ 3 b1 12),(2,A_ 5 b3 12)] [(5,(zC (rV Z Y)))] ?_)))
    refine NN (af.ret (ai.aj (ai.au (ai.aj ?_))))
    refine ai.bN [0,1] [dZ Y Z,dO Y Z] (fun SF sy hL=>?_)
    have d9:cD SF Z Y:=hI.at hL
    replace hI:=hI.le sy
    replace hle0:=hle0.trans sy
    exact rB _ [A_ 3 b3 12] [0] hle0 (⟨Y,by rw [Q6 Kx h1]<;>rfl,rfl,by rw [Q6 Kx h1];exact d9⟩)
   refine gL [0,1] ((cV hI (fun _ _ h=>BR Z Y h hC c hn ht 192)).val Kt) ?_
   rintro _ _ ⟨rfl,rfl⟩
   refine jK 7 [19,20,21] [] ?_
   refine NN (af.seq (SR (jK 2 [209] [(1,p_ ⟨[],none,none,none,some (.bool false)⟩ [((.bool false:Value))=(.bool false)] ⟨rfl,trivial⟩)] ?_)))
   refine NN (CF (af.skip (NX (SR (jK 7 [213,214,216,217,219] [(0,A_ 3 b1 12),(3,a_ 4 b2),(6,a_ 4 b2)] ?_)))))
   refine kZ [0,1] (Ra Z Y hI hC hD (by omega) f hf c.name to hto c.text) ?_
   rintro β1 _ _ aT ⟨Y3,rfl,rfl,kx⟩
   replace hI:=hI.le aT
   replace hle0:=hle0.trans aT
   refine jN 6 [21,22] (fun b19=>[(4,A_ 4 b19 12)]) (fun _=>[]) (fun b19=>.blk b19 (rV ((eW Z f c.name to c.text).1) Y3) 42) (fun b19=>?_)
   refine NS (jC 5 [5,6] [(0,A_ 4 b19 12),(2,A_ 3 b3 12)] [(3,(zC (rV ((eW Z f c.name to c.text).1) Y3)))] ?_)
   refine NN (af.ret (ai.au (ai.aj ?_)))
   exact rB _ [A_ 3 b3 12] [0] hle0 (⟨Y3,by rw [Q7 Kx h1]<;>rfl,rfl,by rw [Q7 Kx h1];exact kx⟩)
  refine af.skip (ai.ax (NX (SR ?_)))
  refine jC 4 [5,6] [(0,A_ 3 b1 12),(1,A_ 5 b3 12)] [(5,(zC (rV Z Y)))] ?_
  refine NN (af.ret (ai.bN [0,1] [dZ Y Z,dO Y Z] (fun abB Ky hL=>?_)))
  have d9:cD abB Z Y:=hI.at hL
  replace hI:=hI.le Ky
  replace hle0:=hle0.trans Ky
  exact rB _ [A_ 3 b3 12] [0] hle0 (⟨Y,by rw [V1 (by omega)]<;>rfl,rfl,by rw [V1 (by omega)];exact d9⟩)
 refine SR (jK 2 [66] [] ?_)
 refine NN (cP ((c.op:Int)=(4:Int)) (fun jm=>?_) (fun jm=>?_))
 ·refine af.skip ?_
  exact mJ ((decide ((c.op:Int)=(4:Int)))) [0,1,2,3,4,5] (⟨fun e=>by grind,fun e=>decide_eq_true (by unfold EL at e;omega)⟩)
 refine SR (jK 2 [66] [] ?_)
 refine NN (cP ((c.op:Int)=(5:Int)) (fun jm=>?_) (fun jm=>?_))
 ·refine af.skip ?_
  exact mJ ((decide ((c.op:Int)=(5:Int)))) [0,1,2,3,4,5] (⟨fun e=>by grind,fun e=>decide_eq_true (by unfold EL at e;omega)⟩)
 refine SR (jK 2 [66] [] ?_)
 refine NN (cP ((c.op:Int)=(6:Int)) (fun jm=>?_) (fun jm=>?_))
 ·refine af.skip ?_
  exact mJ ((decide ((c.op:Int)=(6:Int)))) [0,1,2,3,4,5] (⟨fun e=>by grind,fun e=>decide_eq_true (by unfold EL at e;omega)⟩)
 refine SR (jK 2 [66] [] ?_)
 refine NN (cP ((c.op:Int)=(8:Int)) (fun jm=>?_) (fun jm=>?_))
 ·refine af.skip ?_
  exact mJ ((decide ((c.op:Int)=(8:Int)))) [0,1,2,3,4,5] (⟨fun e=>by grind,fun e=>decide_eq_true (by unfold EL at e;omega)⟩)
 refine af.region (jK 2 [66] [] ?_)
 refine NL ?_
 exact mJ ((decide ((c.op:Int)=(14:Int)))) [0,1,2,3,4,5] (⟨fun e=>by grind,fun e=>decide_eq_true (by unfold EL at e;omega)⟩)
theorem Rf {β:Bs} (Z:RS) (Y:RL) (k:Nat) (hI:zy β Z Y.L Y.H Y.V k) (hC:RC Z) (hk:k < Z.ns.length) (c:ar) (h9:c.op=9) (hh:eN Z c.handle=.ok k) (hk2:¬ (nd Z.ns k).kind=2) (hb:aZ β c.dA c.data) (hl:c.data.length<=140737488355328) (hc:c.data.length<=c.dC) :
    cu Tryz.prog β 43 #[.agg ⟨rV Z Y⟩,.agg ⟨aK c⟩] [dZ Y Z,dO Y Z,MU Y k Z] (fun β' v l=>∃ Y',v=.tuple #[.agg ⟨rV ((aS Z c).1) Y'⟩,vI (aS Z c).2.1,vI (aS Z c).2.2]/\l=[]/\cD β' (aS Z c).1 Y'):=by
 refine oW Tryz.func43 Tryz.ntmps43 (fun hle0 R=>?_)
 refine SR (jN 1 [2] (fun _=>[]) (fun _=>[]) (fun rR=>.blk rR (rV Z Y) 42) (fun rR=>?_))
 refine jN 1 [3] (fun _=>[]) (fun _=>[]) (fun iK=>.blk iK (aK c) 53) (fun iK=>?_)
 refine jN 3 [4] (fun _=>[]) (fun _=>[]) (fun vT=>.blk vT (rZ) 42) (fun vT=>?_)
 refine NN (af.seq (SR (jK 2 [24] [(1,a_ 5 iK)] ?_)))
 refine NN (af.block (SR ?_))
 refine jK 2 [25] [] ?_
 refine NN (cP ((c.op:Int)=(1:Int)) (fun oH=>?_) (fun oH=>?_))
 ·exact absurd oH (by omega)
 refine SR (jK 2 [50] [] ?_)
 refine NN (cP ((c.op:Int)=(2:Int)) (fun h50=>?_) (fun h50=>?_))
 ·exact absurd h50 (by omega)
 refine SR (jK 2 [58] [] ?_)
 refine NN (cP ((c.op:Int)=(3:Int)) (fun Hs=>?_) (fun Hs=>?_))
 ·exact absurd Hs (by omega)
 refine af.seq (SR (jK 2 [66] [] ?_))
 refine NN (cP ((c.op:Int)=(4:Int)) (fun jm=>?_) (fun jm=>?_))
 ·exact absurd jm (by omega)
 refine SR (jK 2 [66] [] ?_)
 refine NN (cP ((c.op:Int)=(5:Int)) (fun jm=>?_) (fun jm=>?_))
 ·exact absurd jm (by omega)
 refine SR (jK 2 [66] [] ?_)
 refine NN (cP ((c.op:Int)=(6:Int)) (fun jm=>?_) (fun jm=>?_))
 ·exact absurd jm (by omega)
 refine SR (jK 2 [66] [] ?_)
 refine NN (cP ((c.op:Int)=(8:Int)) (fun jm=>?_) (fun jm=>?_))
 ·exact absurd jm (by omega)
 refine af.region (jK 2 [66] [] ?_)
 refine NN (cP ((c.op:Int)=(14:Int)) (fun jm=>?_) (fun jm=>?_))
 ·exact absurd jm (by omega)
 refine SR (jK 2 [92] [] ?_)
 refine NN (cP ((c.op:Int)=(7:Int)) (fun zA=>?_) (fun zA=>?_))
 ·exact absurd zA (by omega)
 refine SR (jK 2 [145] [] ?_)
 refine NN (cP ((c.op:Int)=(9:Int)) (fun lq=>?_) (fun lq=>?_))
 ·refine SR (jK 3 [148,150] [(0,A_ 4 rR 12),(2,a_ 5 iK)] ?_)
  refine gL [0,1,2] (Kc (x:=exV (.ok k)) (cb:=Y.L.dC k) hI rfl rfl (fun _ _ h=>(pq Z Y h hC c.handle).val (congrArg exV hh))) ?_
  rintro _ _ ⟨rfl,rfl⟩
  refine jK 5 [14,15] [] ?_
  refine NN (af.seq (SR (jK 2 [155] [] ?_)))
  refine NN (CF (af.skip (NX (af.seq (SR (ak.qG 0 rfl (by omega) (fun jx=>?_)))))))
  refine jK 8 [165] [(2,a_ 4 rR),(4,x_ k Z.ns.length (jx)),(6,v_ 0 (nA Z.ns Y.L Y.A Y.c k 1 hk rfl))] ?_
  refine NN (cP (((nd Z.ns k).kind:Int)=(2:Int)) (fun Dt=>?_) (fun Dt=>?_))
  ·exact absurd Dt hk2
  refine af.skip (NX (SR (jK 4 [167,168,170] [(0,A_ 4 rR 12),(3,a_ 5 iK)] ?_)))
  refine kZ [0,1,2] (Uh Z Y k hI hC hk c.dA c.dC c.data hb hl hc) ?_
  rintro β1 _ _ aT ⟨Y3,rfl,rfl,kx⟩
  replace hI:=hI.le aT
  replace hb:=hb.le aT
  replace hle0:=hle0.trans aT
  refine jC 6 [5,6] [(3,A_ 3 vT 12)] [(3,(zC (rV ((lK Z k c.data).1) Y3)))] ?_
  refine NN (af.ret (ai.au (ai.aj ?_)))
  exact rB _ [A_ 3 vT 12] [0] hle0 (⟨Y3,by rw [VX h9 hh hk2]<;>rfl,rfl,by rw [VX h9 hh hk2];exact kx⟩)
 exact absurd h9 lq
end
section
open Go.RowKit Go.Maps aX aq
attribute [local irreducible] ak aU af ai
theorem zB {β:Bs} (A:Option Addr) (c:Nat) (d:List UInt8) (hA:aZ β A d) (hl:d.length<=140737488355328) :
    Spec Tryz.prog β 37 #[.slice A d.length c] [] (fun v l=>∃ B cap,v=.slice B d.length cap/\l=[.abs (ay 5 1 B d.length cap (cE d))]):=by
 refine SE Tryz.func37 Tryz.ntmps37 (fun R=>?_)
 refine SR (jK 1 [] [] ?_)
 refine NS (jN 2 [3] (fun _=>[]) (fun _=>[]) (fun b1=>.blk b1 [] 5) (fun b1=>?_))
 refine NS (ak.mem (fun w hS=>hS.nP (i:=1) (b:=b1) (cs:=[]) (e:=5) 1 0 (by kernel_rfl) rfl (by decide)) ?_)
 refine jK 2 [5,6] [] ?_
 refine Vb 1 51 A d.length c (cE d) rfl (hA.src) (fun A2 c3=>?_) (hl:=by rw [pR,Nat.mul_one]) (h1:=lU d)
 refine ak.bM 1 rfl (by rw [Nat.zero_add,List.nil_append]) ?_
 refine sl 7 (.slice A2 (0+d.length) (c3)) (.slice A2 (d.length) (c3)) (by rw [Nat.zero_add]) ?_
 refine jK 1 [3] [] ?_
 refine NS (jK 2 [2] [] ?_)
 refine NN (af.ret ?_)
 exact RT _ [1,0] (⟨A2,c3,rfl,rfl⟩)
theorem Kz {β:Bs} (n:aA) (dA eA:Option Addr) (dC eC:Nat) (hD:aZ β dA n.data) (hE:bg β eA n.ah) (hl1:n.data.length<=140737488355328) (hl2:n.ah.length<=1048576) :
    Spec Tryz.prog β 26 #[.agg #[vI (n.id),vI (n.kind),vI (n.mode),vI (n.uid),vI (n.gid),vI (n.sec),vI (n.nano),.slice dA (n.data.length) (dC),.string n.target,.slice eA (n.ah.length) (eC)]] [] (fun v l=>∃ dB cd eB ce,v=.agg #[vI (n.id),vI (n.kind),vI (n.mode),vI (n.uid),vI (n.gid),vI (n.sec),vI (n.nano),.slice dB (n.data.length) (cd),.string n.target,.slice eB (n.ah.length) (ce)]/\l=[.abs (ay 5 1 dB n.data.length cd (cE n.data)),.abs (ay 68 2 eB n.ah.length ce (jt n.ah))]):=by
 refine SE Tryz.func26 Tryz.ntmps26 (fun R=>?_)
 refine SR (jN 1 [1] (fun _=>[]) (fun _=>[]) (fun b4=>.blk b4 [vI (n.id),vI (n.kind),vI (n.mode),vI (n.uid),vI (n.gid),vI (n.sec),vI (n.nano),.slice dA (n.data.length) (dC),.string n.target,.slice eA (n.ah.length) (eC)] 66) (fun b4=>?_))
 refine jN 1 [2] (fun _=>[]) (fun _=>[]) (fun b5=>.blk b5 [vI 0,vI 0,vI 0,vI 0,vI 0,vI 0,vI 0,.slice none (0) (0),.string ⟨#[]⟩,.slice none (0) (0)] 66) (fun b5=>?_)
 refine NS (jK 2 [5] [(1,a_ 1 b4)] ?_)
 refine gL [] (zB dA dC n.data hD hl1) ?_
 rintro _ _ ⟨dB,cd,rfl,rfl⟩
 refine jC 2 [] [(1,a_ 2 b4)] [(2,[(7,.slice dB (n.data.length) (cd))])] ?_
 refine NS (jN 2 [3] (fun _=>[]) (fun _=>[]) (fun b6=>.blk b6 [] 68) (fun b6=>?_))
 refine NS (ak.mem (fun w hS=>hS.nP (i:=4) (b:=b6) (cs:=[]) (e:=68) 2 0 (by kernel_rfl) rfl (by decide)) ?_)
 refine jK 3 [9,11] [(2,a_ 2 b4)] ?_
 refine jZ 4 64 eA n.ah.length eC (jt n.ah) rfl (hE.src) (fun A7 c8=>?_) (hl:=by rw [Gr]) (h1:=zS n.ah)
 refine ak.bM 4 rfl (by rw [Nat.zero_add,List.nil_append]) ?_
 refine sl 12 (.slice A7 (0+n.ah.length) (c8)) (.slice A7 (n.ah.length) (c8)) (by rw [Nat.zero_add]) ?_
 refine jK 1 [3] [] ?_
 refine NS (jC 3 [] [(2,a_ 2 b4)] [(2,[(9,.slice A7 (n.ah.length) (c8))])] ?_)
 refine NS (jC 2 [] [(0,A_ 2 b4 10),(1,A_ 3 b5 10)] [(3,[(0,vI (n.id)),(1,vI (n.kind)),(2,vI (n.mode)),(3,vI (n.uid)),(4,vI (n.gid)),(5,vI (n.sec)),(6,vI (n.nano)),(7,.slice dB (n.data.length) (cd)),(8,.string n.target),(9,.slice A7 (n.ah.length) (c8))])] ?_)
 refine NN (af.ret ?_)
 exact rT _ [A_ 3 b5 10] [0,4,1] (⟨dB,cd,A7,c8,rfl,rfl⟩)
theorem hkl {ns:List aA} {k:Nat} (hk:k<=ns.length):(ns.take k).length=k:=by rw [List.length_take];omega
theorem HX {β:Bs} (A:Option Addr) (c:Nat) (ns:List aA) (L:Lay) (hG:aB β A ns L) (hl:ns.length<=1048576) (hd:∀ i,i < ns.length->(nd ns i).data.length<=140737488355328/\(nd ns i).ah.length<=1048576) :
    Spec Tryz.prog β 7 #[.agg #[.slice A ns.length c]] [] (fun v l=>∃ B cap K,v=.agg #[.slice B ns.length cap]/\l=JI B cap ns K):=by
 refine SE Tryz.func7 Tryz.ntmps7 (fun R=>?_)
 refine SR (jN 1 [1] (fun _=>[]) (fun _=>[]) (fun b9=>.blk b9 [.slice A (ns.length) (c)] 24) (fun b9=>?_))
 refine jN 1 [2] (fun _=>[]) (fun _=>[]) (fun b10=>.blk b10 [.slice none (0) (0)] 24) (fun b10=>?_)
 refine NS (jN 2 [3] (fun _=>[]) (fun _=>[]) (fun b11=>.blk b11 [] 66) (fun b11=>?_))
 refine NN (af.seq (SR (ak.mem (fun w hS=>hS.nP (i:=3) (b:=b11) (cs:=[]) (e:=66) 10 0 (by kernel_rfl) rfl (by decide)) ?_)))
 refine ak.mem (fun w hS=>hS.DW (og [] Dg)) ?_
 refine ak.mem (fun w hS=>hS.DW (jL [] Dg)) ?_
 refine jK 1 [4] [] ?_
 refine NN (af.block ?_)
 refine lJ (fun (k,Ao,cp,K)=>(k<=ns.length)) (fun (k,Ao,cp,K)=>ns.length - k) (fun (k,Ao,cp,K)=>[(1,vP b9),(2,vP b10),(3,.slice Ao (k) (cp)),(4,vI ↑k)]) (fun (k,Ao,cp,K)=>[.blk b9 [.slice A (ns.length) (c)] 24,.blk b10 [.slice none (0) (0)] 24,.abs (ay 66 10 Ao k cp (aR K (ns.take k))),.abs (jd (og (ns.take k) K) k),.abs (jd (jL (ns.take k) K) k),.abs R]) (0,some ⟨b11,0,none⟩,0,Dg) [1,2,3,4,5,0] (Nat.zero_le _) ?_
 rintro⟨k,Ao,cp,K⟩ hk
 refine af.seq (SR (jK 5 [10] [(2,a_ 0 b9)] ?_))
 refine NN (cP ((((k:Nat):Int):Int) < (((ns.length:Nat):Int):Int)) (fun h10=>?_) (fun h10=>?_))
 ·refine af.skip (NX (af.seq (af.block (af.region ?_))))
  refine jK 6 [13,18] [(2,a_ 0 b9),(4,x_ k ns.length (aB.hd hG (i:=k) (by omega))),(5,zP (eT L k (nd ns k)) (fun _ _ h=>aB.rd hG (by omega) h))] ?_
  refine gL [] (Kz (nd ns k) (L.dA k) (L.eA k) (L.dC k) (L.eC k) (hG.data k (by omega)) (hG.ah k (by omega)) (hd k (by omega)).1 (hd k (by omega)).2) ?_
  rintro _ _ ⟨dB,cd,eB,ce,rfl,rfl⟩
  refine jN 1 [20] (fun _=>[]) (fun _=>[]) (fun b12=>.blk b12 [vI ((nd ns k).id),vI ((nd ns k).kind),vI ((nd ns k).mode),vI ((nd ns k).uid),vI ((nd ns k).gid),vI ((nd ns k).sec),vI ((nd ns k).nano),.slice dB ((nd ns k).data.length) (cd),.string (nd ns k).target,.slice eB ((nd ns k).ah.length) (ce)] 66) (fun b12=>?_)
  refine jZ 4 22 (some ⟨b12,0,none⟩) 1 1 [vI ((nd ns k).id),vI ((nd ns k).kind),vI ((nd ns k).mode),vI ((nd ns k).uid),vI ((nd ns k).gid),vI ((nd ns k).sec),vI ((nd ns k).nano),.slice dB ((nd ns k).data.length) (cd),.string (nd ns k).target,.slice eB ((nd ns k).ah.length) (ce)] rfl (dV (j:=8) rfl) (fun Ht Cz=>?_) (hl:=rfl)
  refine ak.bM 4 rfl (congrArg (fun x=>HP.abs (ay 66 10 _ _ _ x)) (rK (hkl hk) (qN (by omega)) rfl rfl)) ?_
  refine sl 21 (.slice Ht (k+1) (Cz)) (.slice Ht ((k+1)) (Cz)) (rfl) ?_
  refine jK 1 [3] [] ?_
  refine NL (ai.ax (NX (af.region ?_)))
  refine jK 3 [4] [(1,wJ ((k:Int)+1) (↑(k+1)))] ?_
  refine NL (ai.mem (fun w hS=>hS.qW (R':=(jL (ns.take (k+1)) (K.put k dB cd eB ce))) (i:=6) (j:=0) (idx:=[1,2,3,4,5,7,8]) rfl rfl (by kernel_rfl) rfl (yI (hkl hk) (qN (by omega))) (wC (hkl hk) (qN (by omega)) rfl)) ?_)
  refine ai.mem (fun w hS=>hS.qW (R':=(og (ns.take (k+1)) (K.put k dB cd eB ce))) (i:=5) (j:=1) (idx:=[0,2,3,4,6,7]) rfl rfl (by kernel_rfl) rfl (yJ (hkl hk) (qN (by omega))) (wD (hkl hk) (qN (by omega)) rfl)) ?_
  exact tJ ((k+1),Ht,Cz,(K.put k dB cd eB ce)) [2,3,4,0,1,5] ((by omega))
 refine af.exit (ai.aC (ai.aC (ai.aW (NX (SR ?_)))))
 have hkn:k=ns.length:=by omega
 have hgt:ns.take k=ns:=by rw [hkn,List.take_length]
 refine ak.bM 2 rfl (by rw [hgt,hkn]) ?_
 refine ak.bM 3 rfl (by rw [hgt,hkn]) ?_
 refine ak.bM 4 rfl (by rw [hgt,hkn]) ?_
 refine sl 3 (.slice Ao (k) (cp)) (.slice Ao (ns.length) (cp)) (by rw [hkn]) ?_
 refine jC 3 [] [(2,a_ 1 b10)] [(1,[(0,.slice Ao (ns.length) (cp))])] ?_
 refine NN (af.ret ?_)
 exact rT _ [a_ 1 b10] [2,3,4,5] (⟨Ao,cp,K,rfl,rfl⟩)
end
section
open Go.RowKit Go.Maps aX aq
attribute [local irreducible] ak aU af ai
theorem Om {β:Bs} (Z:RS) (Y:RL) (hR:cD β Z Y) (hB:RB Z) :
    cu Tryz.prog β 42 #[.agg ⟨rV Z Y⟩] [] (fun β' v l=>∃ A1 c1 K G1 g1,v=.agg ⟨rW Z A1 c1 G1 g1 Y.H Y.ch Y.V Y.cv⟩/\l=[.abs (ay 66 10 A1 Z.ns.length c1 (aR K Z.ns)),.abs (ay 3 1 G1 Z.gone.length g1 (ints Z.gone)),.abs (jd (jL Z.ns K) Z.ns.length)]/\∀ i,i < Z.ns.length->bg β' (K.eA i) (nd Z.ns i).ah):=by
 have hbg:=hB.gone
 refine oW Tryz.func42 Tryz.ntmps42 (fun hle0 R=>?_)
 refine SR (jN 1 [1] (fun _=>[]) (fun _=>[]) (fun b1=>.blk b1 (rV Z Y) 42) (fun b1=>?_))
 refine jN 1 [2] (fun _=>[]) (fun _=>[]) (fun b2=>.blk b2 (rZ) 42) (fun b2=>?_)
 refine NS (jK 2 [5] [(1,a_ 1 b1)] ?_)
 refine gL [] (HX Y.A Y.c Z.ns Y.L hR.n (by have:=hB.ns;omega) hB.hd) ?_
 rintro _ _ ⟨A1,c1,K,rfl,rfl⟩
 refine jC 2 [] [(1,a_ 4 b1)] [(4,[(0,.slice A1 (Z.ns.length) (c1))])] ?_
 refine NS (jN 2 [3] (fun _=>[]) (fun _=>[]) (fun b3=>.blk b3 [] 3) (fun b3=>?_))
 refine NS (ak.mem (fun w hS=>hS.nP (i:=6) (b:=b3) (cs:=[]) (e:=3) 1 0 (by kernel_rfl) rfl (by decide)) ?_)
 refine jK 3 [9,11] [(2,a_ 4 b1)] ?_
 refine jZ 6 38 Y.G Z.gone.length Y.cg (ints Z.gone) rfl (hR.g.src) (fun A4 c5=>?_) (hl:=by rw [show (ints Z.gone).length=Z.gone.length from List.length_map ..];omega) (h1:=J5 _)
 refine ak.bM 6 rfl (by rw [Nat.zero_add,List.nil_append]) ?_
 refine sl 12 (.slice A4 (0+Z.gone.length) (c5)) (.slice A4 (Z.gone.length) (c5)) (by rw [Nat.zero_add]) ?_
 refine jK 1 [3] [] ?_
 refine NS (ak.j8 (Φ:=fun β'=>∀ i,i < Z.ns.length->bg β' (K.eA i) (nd Z.ns i).ah) 1 [0,2,3,4,5,6] (eu:=[.abs (ay 66 10 A1 Z.ns.length c1 (aR K Z.ns)),.abs (jd (jL Z.ns K) Z.ns.length),.abs R,.blk b1 (rW Z A1 c1 Y.G Y.cg Y.H Y.ch Y.V Y.cv) 42,.blk b2 (rZ) 42,.abs (ay 3 1 A4 Z.gone.length c5 (ints Z.gone))]) rfl rfl (by kernel_rfl) (fun F w h β' h1 h2=>aa8 h h1 h2) (fun β1 aT hE=>?_))
 replace hle0:=hle0.trans aT
 refine jC 3 [] [(2,a_ 3 b1)] [(3,[(1,.slice A4 (Z.gone.length) (c5))])] ?_
 refine NS (jC 2 [] [(0,A_ 3 b1 12),(1,A_ 4 b2 12)] [(4,(zC (rW Z A1 c1 A4 c5 Y.H Y.ch Y.V Y.cv)))] ?_)
 refine NN (af.ret ?_)
 exact rB _ [A_ 4 b2 12] [0,5,1,2] hle0 (⟨A1,c1,K,A4,c5,rfl,rfl,hE⟩)
end
section
open Go.RowKit
def lS (β:Bs) (Φ:Bs->Prop):cO where
  h F w:=∃ β':Bs,β.le β'/\(∀ k,β'.O k->β.O k\/F k)/\(∀ k,F k->β'.O k)/\β'.w0.heap.size<=w.heap.size/\(∀ k,F k->k < β'.w0.heap.size/\w.heap[k]?=β'.w0.heap[k]?)/\Φ β'
  lt:=fun ⟨_,_,_,_,h4,h5,_⟩ k hk=>Nat.lt_of_lt_of_le (h5 k hk).1 h4
  st:=fun ⟨β',h1,h2,h3,h4,h5,h6⟩ _ _ hk hs=>⟨β',h1,h2,h3,Nat.le_trans h4 hk.size,fun k hF=>⟨(h5 k hF).1,(hk.block k (Nat.lt_of_lt_of_le (h5 k hF).1 h4) (hs k hF)).trans (h5 k hF).2⟩,h6⟩
section Rg
variable {P:Program} {β:Bs} {N:dm} {ops:Array Oper} {k:Nat} {fr:Fr} {hps eu:List HP} {Q:Post} {f:FuncId} {args:Array Value} {pre:List HP}
theorem cu.Rg {ι:Type} {vv:ι->Value} {ll:ι->List HP} {Φ:ι->Bs->Prop} (h:cu P β f args pre (fun β' v l=>∃ x,v=vv x/\l=ll x/\Φ x β')):Spec P β f args pre (fun v l=>∃ x,v=vv x/\l=.abs (lS β (Φ x))::ll x):=by
  intro R w hS
  refine (h R w hS).mono ?_
  rintro e w' ⟨β',v,l,hle,he,⟨x,rfl,rfl,Cn⟩,ho,φ,h1,h2,h3⟩
  refine⟨vv x,_,he,⟨x,rfl,rfl⟩,ho.le hle,fun i=>match i with
    | 0=>fun k=>β'.O k/\¬ β.O k
    | i+1=>φ i,fun i p hp=>?_,fun i hi k hk hO=>?_,fun i j hi hj hne k hk hk'=>?_⟩
  ·cases i with
   | zero=>
     have hp:some (HP.abs (lS β (Φ x)))=some p:=hp
     cases hp
     exact⟨β',hle,fun k hk=>(Classical.em (β.O k)).elim .inl (fun hn=>.inr ⟨hk,hn⟩),fun k hk=>hk.1,ho.size,fun k hk=>ho.old k hk.1,Cn⟩
   | succ i=>exact h1 i p (by simpa using hp)
  ·cases i with
   | zero=>exact hk.2 hO
   | succ i=>exact h2 i (by simp at hi ⊢;omega) k hk (hle.O k hO)
  cases i with
  | zero=>
    cases j with
    | zero=>exact hne rfl
    | succ j=>exact h2 j (by simp at hj ⊢;omega) k hk' hk.1
  | succ i=>
    cases j with
    | zero=>exact h2 i (by simp at hi ⊢;omega) k hk hk'.1
    | succ j=>exact h3 i j (by simp at hi ⊢;omega) (by simp at hj ⊢;omega) (by omega) k hk hk'
theorem Sat.FU {Φ:Bs->Prop} {l:List HP} {w:World} (h:Sat β (.abs (lS β Φ)::l) w):∃ β':Bs,β.le β'/\Φ β'/\Sat β' l w:=by
  obtain⟨ho,φ,h1,h2,h3⟩:=h
  have hF:(lS β Φ).h (φ 0) w:=h1 0 _ rfl
  obtain⟨β',g1,g2,g3,g4,g5,g6⟩:=hF
  refine⟨β',g1,g6,⟨ho.os.trans g1.os.symm,ho.tape.trans g1.tape.symm,ho.output.trans g1.output.symm,g4,fun k hk=>?_⟩,fun j=>φ (j+1),fun j p hp=>h1 (j+1) p (by simpa using hp),fun j hj k hk hO=>?_,fun a b ha hb hne=>h3 (a+1) (b+1) (by simp;omega) (by simp;omega) (by omega)⟩
  ·rcases g2 k hk with hb|hb
   ·have e1:=g1.old k hb
    have e2:=ho.old k hb
    grind
   exact g5 k hb
  rcases g2 k hO with hb|hb
  ·exact h2 (j+1) (by simp;omega) k hk hb
  exact h3 (j+1) 0 (by simp;omega) (by simp) (by omega) k hk hb
theorem ak.FU {Φ:Bs->Prop} (i:Nat) (idx:List Nat) (hp:hps[i]?=some (.abs (lS β Φ))) (hn:aN (i::idx)=true) (hl:bp hps idx=some eu)
    (K:∀ β':Bs,β.le β'->Φ β'->ak P β' N ops k fr eu Q):ak P β N ops k fr hps Q:=fun junk w hS=>by
  obtain⟨β',g1,g2,g3⟩:=(hS.pick (idx:=i::idx) (l':=.abs (lS β Φ)::eu) hn (by simp only [bp,hp,hl])).FU
  exact K β' g1 g2 junk w g3
theorem Spec.V3 {Φ:Bs->Prop} {post:Value->List HP->Prop} (h:∀ β':Bs,β.le β'->Φ β'->Spec P β' f args pre post):Spec P β f args (.abs (lS β Φ)::pre) post:=by
  intro R w hS
  obtain⟨β',g1,g2,g3⟩:=Sat.FU (l:=pre++[.abs R]) hS
  refine (h β' g1 g2 R w g3).mono ?_
  rintro e w' ⟨v,l,h1,h2,h3⟩
  exact⟨v,l,h1,h2,h3.DJ g1⟩
end Rg
end
section
open Go.RowKit Go.Maps aX aq
section b
variable {P:Program} {β:Bs} {f:FuncId} {args:Array Value} {pre pre' R:List HP} {post:Bs->Value->List HP->Prop}
theorem cu.V4 (h:∀ β':Bs,nU β R β'->cu P β' f args pre post):cu P β f args (pre++R) post:=by
  intro A w hS
  have h1:=Sat.turn hS
  rw [← List.append_assoc] at h1
  obtain⟨β',g1,_,g3⟩:=h1.t8
  refine (h β' g1 A w (Sat.turn g3)).mono ?_
  rintro e w' ⟨ou,v,l,hle,h2⟩
  exact⟨ou,v,l,g1.le.trans hle,h2⟩
theorem cu.aav {Φ:Bs->Prop} (h:∀ β':Bs,β.le β'->Φ β'->cu P β' f args pre post):cu P β f args (.abs (lS β Φ)::pre) post:=by
  intro A w hS
  obtain⟨β',g1,g2,g3⟩:=Sat.FU (l:=pre++[.abs A]) hS
  refine (h β' g1 g2 A w g3).mono ?_
  rintro e w' ⟨ou,v,l,hle,h2⟩
  exact⟨ou,v,l,g1.trans hle,h2⟩
theorem cu.abC (h:cu P β f args pre' post) (hp:∀ A w,Sat β (pre++[.abs A]) w->Sat β (pre'++[.abs A]) w):cu P β f args pre post:=fun A w hS=>h A w (hp A w hS)
end b
section s
variable {β:Bs} {R Z:RS} {Y:RL} {c:ar} {e:Int} {k:Nat}
theorem Hu {A:Option Addr} {p:Nat}:mV R (cM c A p)=cM (mV R c) A p:=by
  unfold mV
  show (if c.op=12 then _ else _:ar)=cM (if c.op=12 then _ else _) A p
  by_cases h:c.op=12
  ·rw [if_pos h,if_pos h]
   show (match d8 R c.handle c.name 64 with|.error e=>_|.ok d=>_:ar)=_
   cases d8 R c.handle c.name 64 with
   | error e=>rfl
   | ok d=>
     simp only
     split<;>rfl
  rw [if_neg h,if_neg h]
  show (match eN R c.handle with|.error e=>_|.ok d=>_:ar)=_
  cases eN R c.handle<;>rfl
theorem yZ (h:c.op=11\/c.op=12):p4 R c=(R,mV R c):=if_pos h
theorem Rh (h:¬ (c.op=11\/c.op=12)) (h1:(aS R c).2.2=0):p4 R c=((aS R c).1,{ c with answer:=(aS R c).2.1,code:=0 }):=(if_neg h).trans (if_pos h1)
theorem Ri (h:¬ (c.op=11\/c.op=12)) (h1:¬ (aS R c).2.2=0):p4 R c=(R,{ c with answer:=0,code:=(aS R c).2.2 }):=(if_neg h).trans (if_neg h1)
abbrev Oo (R:RS) (K:Lay):HP:=.abs (jd (jL R.ns K) R.ns.length)
abbrev EM (R:RS) (K:Lay) (β:Bs):Prop:=∀ i,i < R.ns.length->bg β (K.eA i) (nd R.ns i).ah
theorem LJ (hR:cD β Z Y) (hB:RB Z):Spec Tryz.prog β 42 #[.agg ⟨rV Z Y⟩] [] (fun v l=>∃ A1 c1 K G1 g1,v=.agg ⟨rV Z ⟨A1,c1,K,G1,g1,Y.H,Y.ch,Y.V,Y.cv⟩⟩/\l=[.abs (lS β (EM Z K)),.abs (ay 66 10 A1 Z.ns.length c1 (aR K Z.ns)),.abs (ay 3 1 G1 Z.gone.length g1 (ints Z.gone)),Oo Z K]):=
  (cu.Rg (ι:=Option Addr×Nat×Lay×Option Addr×Nat) (vv:=fun x=>.agg ⟨rV Z ⟨x.1,x.2.1,x.2.2.1,x.2.2.2.1,x.2.2.2.2,Y.H,Y.ch,Y.V,Y.cv⟩⟩) (ll:=fun x=>[.abs (ay 66 10 x.1 Z.ns.length x.2.1 (aR x.2.2.1 Z.ns)),.abs (ay 3 1 x.2.2.2.1 Z.gone.length x.2.2.2.2 (ints Z.gone)),Oo Z x.2.2.1]) (Φ:=fun x=>EM Z x.2.2.1)
    ((Om Z Y hR hB).mono (by rintro β' v l _ ⟨A1,c1,K,G1,g1,rfl,rfl,h⟩;exact⟨(A1,c1,K,G1,g1),rfl,rfl,h⟩))).mono (by rintro v l ⟨⟨A1,c1,K,G1,g1⟩,rfl,rfl⟩;exact⟨A1,c1,K,G1,g1,rfl,rfl⟩)
theorem Rj {A1 G1:Option Addr} {c1 g1:Nat} {K:Lay} (hR:cD β Z Y) (hC:RC Z) (hD:RD 0 Z) (hn:c.name.size<=1048576) (ht:c.text.size<=1048576) (hb:aZ β c.dA c.data) (hl:c.data.length<=140737488355328) (hc:c.data.length<=c.dC) :
    Spec Tryz.prog β 43 #[.agg ⟨rV Z ⟨A1,c1,K,G1,g1,Y.H,Y.ch,Y.V,Y.cv⟩⟩,.agg ⟨aK c⟩] [.abs (lS β (EM Z K)),.abs (ay 66 10 A1 Z.ns.length c1 (aR K Z.ns)),.abs (ay 3 1 G1 Z.gone.length g1 (ints Z.gone)),Oo Z K]
      (fun v l=>∃ Y',v=.tuple #[.agg ⟨rV (aS Z c).1 Y'⟩,.int .i64 (aS Z c).2.1,.int .i64 (aS Z c).2.2]/\l=[.abs (lS β (fun β'=>cD β' (aS Z c).1 Y'))]):=by
  refine (cu.Rg (ι:=RL) (vv:=fun Y'=>.tuple #[.agg ⟨rV (aS Z c).1 Y'⟩,.int .i64 (aS Z c).2.1,.int .i64 (aS Z c).2.2]) (ll:=fun _=>[]) (Φ:=fun Y' β'=>cD β' (aS Z c).1 Y') (cu.aav fun β' hle hE=>?_)).mono (by rintro v l ⟨Y',rfl,rfl⟩;exact⟨Y',rfl,rfl⟩)
  by_cases h9:∃ k,c.op=9/\eN Z c.handle=.ok k/\¬ (nd Z.ns k).kind=2
  ·obtain⟨k,h1,h2,h3⟩:=h9
   have hk:k < Z.ns.length:=by
     grind [p6]
   refine cu.abC (pre':=[.abs (ay 66 10 A1 Z.ns.length c1 (aR K Z.ns)),.abs (ay 3 1 G1 Z.gone.length g1 (ints Z.gone)),.abs (jL Z.ns K k)]++[.abs (jd (mY (jL Z.ns K) k cO.none) Z.ns.length)]) (cu.V4 fun ou hL=>?_) (fun A w hS=>?_)
   ·have hd:∀ i,i < Z.ns.length->i≠k->aZ ou (K.dA i) (nd Z.ns i).data:=by
      obtain⟨F,q1,q2⟩:=hL.get 0 rfl
      refine jd.base q1 q2 rfl (Φ:=fun i b=>i≠k->aZ b (K.dA i) (nd Z.ns i).data) (fun i _ F hF hO hne=>?_)
      have hF:(HP.abs (jL Z.ns K i)).h F ou.w0:=by
        have e:mY (jL Z.ns K) k cO.none i=jL Z.ns K i:=if_neg hne
        rw [e] at hF;exact hF
      exact bT.gu (show (HP.abs (ay 5 1 (K.dA i) (nd Z.ns i).data.length (K.dC i) (cE (nd Z.ns i).data))).h F _ from hF) hO rfl
    have hI:zy ou Z K Y.H Y.V k:=⟨hd,fun i hi=>(hE i hi).le hL.le,(hR.h.le hle).le hL.le,(hR.v.le hle).le hL.le⟩
    refine (Rf Z ⟨A1,c1,K,G1,g1,Y.H,Y.ch,Y.V,Y.cv⟩ k hI hC hk c h1 h2 h3 ((hb.le hle).le hL.le) hl hc).mono ?_
    grind
   have:=hS.Wu (i:=2) (k:=k) rfl hk
   exact this.pick (idx:=[0,1,4,2,3]) rfl rfl
  refine cu.V4 (pre:=[.abs (ay 66 10 A1 Z.ns.length c1 (aR K Z.ns)),.abs (ay 3 1 G1 Z.gone.length g1 (ints Z.gone))]) (R:=[Oo Z K]) fun ou hL=>?_
  have hI:jW ou Z K Y.H Y.V:=by
    obtain⟨F,q1,q2⟩:=hL.get 0 rfl
    exact⟨aa9 q1 q2 rfl,fun i hi=>(hE i hi).le hL.le,(hR.h.le hle).le hL.le,(hR.v.le hle).le hL.le⟩
  refine (Rc Z ⟨A1,c1,K,G1,g1,Y.H,Y.ch,Y.V,Y.cv⟩ hI hC hD c hn ht (fun h1 k h2=>Classical.byContradiction (fun h3=>h9 ⟨k,h1,h2,h3⟩))).mono ?_
  grind
end s
end
section
open Go.RowKit Go.Maps aX aq
attribute [local irreducible] ak aU af ai bZ aY xD
noncomputable abbrev uz (b4:Nat):=(.blk b4 [vI 0,vI 0,vI 0,.string ⟨#[]⟩,.string ⟨#[]⟩,.slice none (0) (0),vI 0,vI 0,vI 0,vI 0,vI 0,vI 0,vI 0] 53:HP)
noncomputable abbrev Zd (b5:Nat) (c:ar) (B1) (p1):=(.blk b5 (aK (cM { c with answer:=0 } B1 p1)) 53:HP)
theorem Ul {β:Bs} (Z:RS) (Y:RL) (hR:cD β Z Y) (hC:RC Z) (hD:RD 0 Z) (c:ar) (hn:c.name.size<=1048576) (ht:c.text.size<=1048576) (hb:aZ β c.dA c.data) (hl:c.data.length<=140737488355328) (hc:c.data.length<=c.dC) :
    cu Tryz.prog β 12 #[.agg ⟨rV Z Y⟩,.agg ⟨aK c⟩] [] (fun β' v l=>∃ Y' B p,v=.tuple #[.agg ⟨rV ((p4 Z c).1) Y'⟩,.agg ⟨aK (cM (p4 Z c).2 B p)⟩]/\l=[]/\cD β' (p4 Z c).1 Y'/\aZ β' B c.data):=by
 refine oW Tryz.func12 Tryz.ntmps12 (fun hle0 R=>?_)
 refine SR (jN 1 [2] (fun _=>[]) (fun _=>[]) (fun b1=>.blk b1 (rV Z Y) 42) (fun b1=>?_))
 refine jN 1 [3] (fun _=>[]) (fun _=>[]) (fun b2=>.blk b2 (aK c) 53) (fun b2=>?_)
 refine jN 1 [4] (fun _=>[]) (fun _=>[]) (fun b3=>.blk b3 (rZ) 42) (fun b3=>?_)
 refine jN 1 [5] (fun _=>[]) (fun _=>[]) (fun b4=>.blk b4 [vI 0,vI 0,vI 0,.string ⟨#[]⟩,.string ⟨#[]⟩,.slice none (0) (0),vI 0,vI 0,vI 0,vI 0,vI 0,vI 0,vI 0] 53) (fun b4=>?_)
 refine NS (jN 3 [6] (fun b5=>[(0,A_ 2 b2 13),(2,A_ 5 b5 13)]) (fun _=>[]) (fun b5=>.blk b5 (aK c) 53) (fun b5=>?_))
 refine NS (jK 2 [12] [(1,a_ 2 b2)] ?_)
 refine gL [] (zB c.dA c.dC c.data hb hl) ?_
 rintro _ _ ⟨B1,p1,rfl,rfl⟩
 refine jC 2 [] [(1,a_ 6 b5)] [(6,[(5,.slice B1 (c.data.length) (p1))])] ?_
 refine NS (ak.j8 (Φ:=fun β'=>aZ β' B1 c.data) 0 [1,2,3,4,5,6] (eu:=[.abs R,.blk b1 (rV Z Y) 42,.blk b2 (aK c) 53,.blk b3 (rZ) 42,uz b4,.blk b5 (aK (cM c B1 p1)) 53]) rfl rfl (by kernel_rfl) (fun F w h β' h1 h2=>bT.gu h h1 h2) (fun β1 aT zD=>?_))
 replace hR:=hR.le aT
 replace hb:=hb.le aT
 replace hle0:=hle0.trans aT
 refine jC 2 [] [(1,a_ 5 b5)] [(5,[(12,vI 0)])] ?_
 refine NN (af.seq (af.seq ?_))
 by_cases hop:c.op=11\/c.op=12
 ·refine af.region (jK 4 [19] [(1,a_ 2 b2),(2,p_ ⟨[],none,none,none,some (.bool (decide ((c.op:Int)=(11:Int))))⟩ [((.bool (decide ((c.op:Int)=(11:Int))):Value))=(.bool (decide ((c.op:Int)=(11:Int))))] ⟨rfl,trivial⟩)] ?_)
  refine sP 19 ((c.op:Int)=(11:Int)) (fun Gy=>?_) (fun Gy=>?_)
  ·refine jK 4 [23] [] ?_
   refine NN (CT (af.seq (rM (List.range 7) 4 [1,2,5] ?_)))
   refine jR 4 [4,5,24,25,26,27] [(0,A_ 0 b1 12),(1,A_ 0 b1 12),(2,A_ 1 b2 13),(3,A_ 2 b5 13)] ?_
   refine mL [1,2,5] [] (J1 Z Y hR hC (cM c B1 p1) hn c.dA c.dC c.answer) ?_ (by rintro _ _ ⟨rfl,rfl⟩;rfl)
   rintro _ _ ⟨rfl,rfl⟩
   refine nC [1,2,5] [] [(0,A_ 3 b3 12)] [(3,(zC (rV Z Y)))] ?_
   refine aY.last rfl rfl ?_
   refine jC 1 [] [(0,A_ 4 b4 13)] [(4,(zC (aK (mV Z (cM c B1 p1)))))] ?_
   refine NL (ai.np (NX (af.ret (ai.aj ?_))))
   exact rB (.tuple #[.agg ⟨rV Z Y⟩,.agg ⟨aK (mV Z (cM c B1 p1))⟩]) [A_ 3 b3 12,A_ 4 b4 13] [0] hle0 (⟨Y,B1,p1,by rw [yZ hop,Hu]<;>rfl,rfl,by rw [yZ hop];exact hR,zD⟩)
  refine jK 4 [23] [(1,a_ 2 b2),(2,p_ ⟨[],none,none,none,some (.bool (decide ((c.op:Int)=(12:Int))))⟩ [((.bool (decide ((c.op:Int)=(12:Int))):Value))=(.bool (decide ((c.op:Int)=(12:Int))))] ⟨rfl,trivial⟩)] ?_
  refine NN (cP ((c.op:Int)=(12:Int)) (fun h23=>?_) (fun h23=>?_))
  ·refine af.seq (rM (List.range 7) 4 [1,2,5] ?_)
   refine jR 4 [4,5,24,25,26,27] [(0,A_ 0 b1 12),(1,A_ 0 b1 12),(2,A_ 1 b2 13),(3,A_ 2 b5 13)] ?_
   refine mL [1,2,5] [] (J1 Z Y hR hC (cM c B1 p1) hn c.dA c.dC c.answer) ?_ (by rintro _ _ ⟨rfl,rfl⟩;rfl)
   rintro _ _ ⟨rfl,rfl⟩
   refine nC [1,2,5] [] [(0,A_ 3 b3 12)] [(3,(zC (rV Z Y)))] ?_
   refine aY.last rfl rfl ?_
   refine jC 1 [] [(0,A_ 4 b4 13)] [(4,(zC (aK (mV Z (cM c B1 p1)))))] ?_
   refine NL (ai.np (NX (af.ret (ai.aj ?_))))
   exact rB (.tuple #[.agg ⟨rV Z Y⟩,.agg ⟨aK (mV Z (cM c B1 p1))⟩]) [A_ 3 b3 12,A_ 4 b4 13] [0] hle0 (⟨Y,B1,p1,by rw [yZ hop,Hu]<;>rfl,rfl,by rw [yZ hop];exact hR,zD⟩)
  exact absurd hop (by omega)
 refine af.region (jK 8 [23] [(1,a_ 2 b2),(2,wF ((c.op:Int)=(11:Int))),(5,a_ 2 b2),(6,wF ((c.op:Int)=(12:Int)))] ?_)
 refine NN (CF (af.skip (NX (af.seq (af.FR (S:=[.blk b1 (rV Z Y) 42,.blk b2 (aK c) 53]) 8 [(true,0),(true,2),(false,1),(false,3),(true,4),(true,5),(true,6),(true,7)] [(false,9),(false,10),(false,11)] (by kernel_rfl) (by kernel_rfl) (fun _ h=>h.pick (idx:=[1,2]) rfl rfl) ?_)))))
 refine gJ [(false,1),(false,3),(true,4),(true,5),(true,6),(true,7)] [(2,vP b1),(4,vP b3),(5,vP b4),(6,vP b5),(30,.agg ⟨rV Z Y⟩),(32,.agg ⟨aK c⟩)] [0,2] [(0,A_ 0 b1 12),(1,A_ 1 b2 13)] ?_
 refine xD.beside (j:=8) (dj:=7) (R:=fun f_ l_=>∃ A2:Option Addr,∃ c2:Nat,∃ K:Lay,∃ G2:Option Addr,∃ g2:Nat,∃ Y2:RL,f_=[(36,vI ((aS Z c).2.2)),(35,vI ((aS Z c).2.1)),(34,.agg ⟨rV ((aS Z c).1) Y2⟩),(29,.tuple #[.agg ⟨rV ((aS Z c).1) Y2⟩,vI ((aS Z c).2.1),vI ((aS Z c).2.2)]),(33,.tuple #[.agg ⟨rV ((aS Z c).1) Y2⟩,vI ((aS Z c).2.1),vI ((aS Z c).2.2)]),(31,.agg ⟨rW Z A2 c2 G2 g2 Y.H Y.ch Y.V Y.cv⟩),(2,vP b1),(4,vP b3),(5,vP b4),(6,vP b5),(30,.agg ⟨rV Z Y⟩),(32,.agg ⟨aK c⟩)]/\l_=[.abs (lS β1 (fun β'=>cD β' (aS Z c).1 Y2))]) (pc:=[]) (pj:=[]) (Z:=[.abs R,.blk b1 (rV Z Y) 42,.blk b2 (aK c) 53,.blk b3 (rZ) 42,uz b4,Zd b5 c B1 p1]) [0,1,2,3,4,5] (fun _=>True) [(false,1,31),(false,3,33),(true,4,29),(true,5,34),(true,6,35),(true,7,36)] (by kernel_rfl) rfl rfl (Og (S1:=[.blk b1 (rV Z Y) 42,.blk b2 (aK c) 53]) (pS:=[1,2]) rfl rfl) (trivial) rfl rfl (ic.of (ι:=Nat) (v:=fun (b6:Nat)=>vP b6) (l:=fun (b6:Nat)=>[.blk b6 (rZ) 42]) [31,33,29,34,35,36] rfl rfl rfl rfl ?_) ?_ ?_
 ·intro u Aq
  refine jN 1 [7] (fun _=>[]) (fun _=>[]) (fun b6=>.blk b6 (rZ) 42) (fun b6=>?_)
  refine NL ?_
  exact MD b6 [7,31,33,29,34,35,36,2,4,5,6,30,32] [1,0]
 ·refine gh.step (ic.of (ι:=(Option Addr)×Nat×Lay×(Option Addr)×Nat) (v:=fun ((A2,c2,K,G2,g2):(Option Addr)×Nat×Lay×(Option Addr)×Nat)=>.agg ⟨rW Z A2 c2 G2 g2 Y.H Y.ch Y.V Y.cv⟩) (l:=fun ((A2,c2,K,G2,g2):(Option Addr)×Nat×Lay×(Option Addr)×Nat)=>[.abs (lS β1 (EM Z K)),.abs (ay 66 10 A2 Z.ns.length c2 (aR K Z.ns)),.abs (ay 3 1 G2 Z.gone.length g2 (ints Z.gone)),.abs (jd (jL Z.ns K) Z.ns.length)]) [7] rfl rfl rfl rfl ?_) rfl ?_
  ·intro u Aq
   refine gL [] (LJ hR hC.toRB) ?_
   rintro _ _ ⟨A2,c2,K,G2,g2,rfl,rfl⟩
   refine NL ?_
   exact MD (A2,c2,K,G2,g2) [31,7,2,4,5,6,30,32] [0,1,2,3,4]
  rintro _ _ ⟨⟨A2,c2,K,G2,g2⟩,rfl,rfl⟩
  refine⟨trivial,?_⟩
  refine gh.step (ic.of (ι:=RL) (v:=fun (Y2:RL)=>.tuple #[.agg ⟨rV ((aS Z c).1) Y2⟩,vI ((aS Z c).2.1),vI ((aS Z c).2.2)]) (l:=fun (Y2:RL)=>[.abs (lS β1 (fun β'=>cD β' (aS Z c).1 Y2))]) [7] rfl rfl rfl rfl ?_) rfl ?_
  ·intro u Aq
   refine gL [0,1,2,3] (Rj (A1:=A2) (c1:=c2) (K:=K) (G1:=G2) (g1:=g2) hR hC hD hn ht hb hl hc) ?_
   rintro _ _ ⟨Y2,rfl,rfl⟩
   refine NL ?_
   exact MD Y2 [33,7,31,2,4,5,6,30,32] [0,1]
  rintro _ _ ⟨Y2,rfl,rfl⟩
  refine⟨trivial,?_⟩
  refine gh.read (v:=.tuple #[.agg ⟨rV ((aS Z c).1) Y2⟩,vI ((aS Z c).2.1),vI ((aS Z c).2.2)]) (fun _=>by kernel_rfl) rfl rfl ?_
  refine gh.read (v:=.agg ⟨rV ((aS Z c).1) Y2⟩) (fun _=>by kernel_rfl) rfl rfl ?_
  refine gh.read (v:=.int .i64 ((aS Z c).2.1)) (fun _=>by kernel_rfl) rfl rfl ?_
  refine gh.read (v:=.int .i64 ((aS Z c).2.2)) (fun _=>by kernel_rfl) rfl rfl ?_
  exact⟨A2,c2,K,G2,g2,Y2,rfl,rfl⟩
 rintro _ _ ⟨A2,c2,K,G2,g2,Y2,rfl,rfl⟩ _ _ ⟨b6,rfl,rfl⟩
 refine kC [3,4] [] [(0,A_ 1 b6 12)] [(1,(zC (rV ((aS Z c).1) Y2)))] ?_
 refine bZ.cut (ι:=Unit) (fr':=fun (_:Unit)=>[(2,vP b1),(4,vP b3),(5,vP b4),(6,vP b5),(7,vP b6),(8,vI ((aS Z c).2.1)),(36,vI ((aS Z c).2.2))]) (hp':=fun (_:Unit)=>[.abs (lS β1 (fun β'=>cD β' (aS Z c).1 Y2)),.blk b6 (rV ((aS Z c).1) Y2) 42,.abs R,.blk b1 (rV Z Y) 42,.blk b2 (aK c) 53,.blk b3 (rZ) 42,uz b4,Zd b5 c B1 p1]) [3,4] (by kernel_rfl) ?_ rfl (fun _=>by kernel_rfl) ?_
 ·refine jK 1 [8] [] ?_
  refine NL ?_
  exact MD () [2,4,5,6,7,8,36] [0,1,2,3,4,5,6,7]
 rintro _
 refine bZ.last (by kernel_rfl) ?_
 refine jK 1 [9] [] ?_
 refine NL (ai.np (NX (SR ?_)))
 refine ak.FU 0 [1,2,3,4,5,6,7] (eu:=[.blk b6 (rV ((aS Z c).1) Y2) 42,.abs R,.blk b1 (rV Z Y) 42,.blk b2 (aK c) 53,.blk b3 (rZ) 42,uz b4,Zd b5 c B1 p1]) rfl rfl (by kernel_rfl) (fun MV kG MX=>?_)
 replace hR:=hR.le kG
 replace hb:=hb.le kG
 replace zD:=zD.le kG
 replace hle0:=hle0.trans kG
 refine jC 3 [] [(2,a_ 6 b5)] [(6,[(11,vI ((aS Z c).2.2))])] ?_
 refine NN (af.seq (SR (jK 2 [40] [] ?_)))
 refine NN (cN (((aS Z c).2.2:Int)=(0:Int)) (fun qz=>?_) (fun qz=>?_))
 ·refine af.seq (rM [0,1,2,3] 2 [2,6] ?_)
  refine jR 2 [4,5,41,42] [(0,A_ 0 b1 12),(1,A_ 1 b5 13)] ?_
  refine nC [2,6] [] [(0,A_ 4 b3 12)] [(4,(zC (rV Z Y)))] ?_
  refine aY.last rfl rfl ?_
  refine jC 1 [] [(0,A_ 5 b4 13)] [(5,[(0,vI (c.op)),(1,vI (c.handle)),(2,vI (c.other)),(3,.string c.name),(4,.string c.text),(5,.slice B1 (c.data.length) (p1)),(6,vI (c.mode)),(7,vI (c.uid)),(8,vI (c.gid)),(9,vI (c.sec)),(10,vI (c.nano)),(11,vI ((aS Z c).2.2))])] ?_
  refine NL (ai.np (NX (af.ret (ai.aj ?_))))
  exact rB (.tuple #[.agg ⟨rV Z Y⟩,.agg ⟨aK (cM { c with code:=(aS Z c).2.2,answer:=0 } B1 p1)⟩]) [A_ 4 b3 12,A_ 5 b4 13] [1] hle0 (⟨Y,B1,p1,by rw [Ri hop qz]<;>rfl,rfl,by rw [Ri hop qz];exact hR,zD⟩)
 refine af.skip (NX (SR (jC 3 [] [(2,a_ 6 b5)] [(6,[(12,vI ((aS Z c).2.1))])] ?_)))
 refine NN (af.seq (rM [0,1,2,3] 2 [0,6] ?_))
 refine jR 2 [4,5,45,46] [(0,A_ 0 b6 12),(1,A_ 1 b5 13)] ?_
 refine nC [0,6] [] [(0,A_ 4 b3 12)] [(4,(zC (rV ((aS Z c).1) Y2)))] ?_
 refine aY.last rfl rfl ?_
 refine jC 1 [] [(0,A_ 5 b4 13)] [(5,(zC (aK (cM { c with code:=(aS Z c).2.2,answer:=(aS Z c).2.1 } B1 p1))))] ?_
 refine NL (ai.np (NX (af.ret ?_)))
 exact rB (.tuple #[.agg ⟨rV ((aS Z c).1) Y2⟩,.agg ⟨aK (cM { c with code:=(aS Z c).2.2,answer:=(aS Z c).2.1 } B1 p1)⟩]) [A_ 4 b3 12,A_ 5 b4 13] [1] hle0 (⟨Y2,B1,p1,by rw [Rh hop qz,qz]<;>rfl,rfl,by rw [Rh hop qz];exact MX,zD⟩)
end
section
def core (o:aM):aM:={ o with links:=0,opens:=0,gone:=false,up:=none }
end
section
open Go.RowKit Go.Maps aX aq
noncomputable section
def qi (us:Used Th):Used Int:=us.map (fun p=>(p.1,(p.2.k:Int)))
def posR (S:aI) (t:Th):Nat:=tgt (aE S) (t.k:Int)
def toR (S:aI) (g:List Int):RS:=⟨aE S,g,qi S.us,S.av,S.X.cN,S.X.cB,S.X.cH,S.X.cS,S.X.cZ,S.X.last⟩
structure tC (idx:Used Th) (O:bX) (g:List Int):Prop where
  y4:∀ t,Live idx t->((t.k:Int)∈g↔(obj O t.k).gone=true)
  live:∀ z∈g,∃ t,Live idx t/\(t.k:Int)=z
structure mz (idx:Used Th):Prop where
  rise:aq.bH (keys idx)
  key:∀ p∈idx,p.1=(p.2.k:Int)
end
section p
variable {S:aI} {g:List Int} {t u:Th} {d k i j:Nat} {name:ByteArray} {O O':bX} {h need id:Int} {es:fB Th} {X:FM}
theorem Inv0.ix (h:Inv0 S):mz S.idx:=⟨h.rise,fun _ hp=>h.key (kD h.rise hp)⟩
theorem BZ (hx:mz S.idx) (hi:i < S.idx.length):Live S.idx (fO S i)/\dS S i=((fO S i).k:Int):=by
  have hm:=List.mem_of_getElem? (tT hi)
  have hk:=hx.key _ hm
  have hg:=kD hx.rise hm
  grind [dS,fO,Live]
theorem FV (hx:mz S.idx) (hij:i < j) (hj:j < S.idx.length):dS S i < dS S j:=by
  have h1:=JJ (S:=S) (show i < S.idx.length by omega)
  have h2:=JJ hj
  obtain⟨g1,e1⟩:=List.getElem?_eq_some_iff.1 h1
  obtain⟨g2,e2⟩:=List.getElem?_eq_some_iff.1 h2
  have:=List.pairwise_iff_getElem.1 hx.rise i j g1 g2 hij
  rw [e1,e2] at this
  exact this
theorem KA (hx:mz S.idx):bH (aE S):=fun i j hij hj=>by
  rw [eZ] at hj
  rw [lu (by omega),lu hj]
  exact FV hx hij hj
theorem KC (hx:mz S.idx) (hi:i < S.idx.length) (hj:j < S.idx.length) (e:dS S i=dS S j):i=j:=by
  rcases Nat.lt_trichotomy i j with h1|h1|h1
  ·have:=FV hx h1 hj;omega
  ·exact h1
  have:=FV hx h1 hi;omega
theorem kz (hI:mz S.idx) (hl:Live S.idx t):posR S t < (aE S).length/\posR S t < S.idx.length/\fO S (posR S t)=t/\dS S (posR S t)=(t.k:Int)/\fP (aE S) (t.k:Int)=(posR S t:Int)/\nd (aE S) (posR S t)=gF S.O (t.k:Int) t:=by
  grind [Yd,nd,aE,lu,IJ,KA,eZ,posR,tgt,Live,fO,dS,fP,gF]
theorem MY (hI:mz S.idx) (hl:Live S.idx t) (hu:Live S.idx u) (e:posR S t=posR S u):t=u:=by
  have h1:=(kz hI hl).2.2.1
  rw [e,(kz hI hu).2.2.1] at h1
  exact h1.symm
theorem W4 {us:Used Th}:aq.get (qi us) h=(aq.get us h).map (fun t=>(t.k:Int)):=get_map (fun t:Th=>(t.k:Int)) us h
theorem Ca {us:Used Th}:(qi us).length=us.length:=List.length_map ..
theorem y5 {us:Used Th}:keys (qi us)=keys us:=keys_map (fun t:Th=>(t.k:Int)) us
theorem Ba {us:Used Th}:aq.least (qi us)=aq.least us:=by unfold aq.least;rw [y5]
theorem MZ {us:Used Th}:qi (ins h t us)=ins h (t.k:Int) (qi us):=Fk (fun t:Th=>(t.k:Int)) h t us
theorem M0 {us:Used Th}:qi (del h us)=del h (qi us):=Fl (fun t:Th=>(t.k:Int)) h us
theorem W5 {us:Used Th}:(k:Int)∈gn (qi us)↔0 < hnd us k:=by
  unfold gn qi hnd
  rw [List.map_map]
  induction us with
  | nil=>simp [dR]
  | cons p r ih=>
    grind [dR]
theorem Rk (n:ByteArray):∀ es:fB Th,wB (es.map (dL O)) n=es.findIdx? (fun e=>decide (e.1=n)):=fun es=>by
  unfold wB
  rw [List.findIdx?_map];rfl
theorem KD (n:ByteArray):∀ es:fB Th,aL n es=(es.findIdx? (fun e=>decide (e.1=n))).map (qm es)
  | []=>rfl
  | e::r=>by
    rw [l6,List.findIdx?_cons]
    by_cases hn:e.1=n
    ·rw [if_pos hn];simp [hn,qm]
    rw [if_neg hn,KD n r]
    simp only [hn,decide_false,Bool.false_eq_true,if_false,Option.map_map]
    congr 1
theorem KE (hid:∀ x,(obj O' x).id=(obj O x).id) (ht:(obj O t.k).id=id):∀ es:fB Th,(gU name t es).map (dL O')=ji name id (es.map (dL O))
  | []=>by
    show [dL O' (name,t)]=[⟨name,id⟩]
    unfold dL;rw [hid,ht]
  | e::r=>by
    have he:dL O' e=dL O e:=by unfold dL;rw [hid]
    have hr:r.map (dL O')=r.map (dL O):=List.map_congr_left (fun x _=>by unfold dL;rw [hid])
    unfold gU
    rw [List.map_cons]
    unfold ji
    show _=if ¬ eH e.1 name then _ else _
    split
    ·rw [List.map_cons,List.map_cons,he,hr]
     congr 1
     unfold dL;rw [hid,ht]
    rw [List.map_cons,he,KE hid ht r]
theorem Um (hid:∀ x,(obj O' x).id=(obj O x).id):(gZ name es).map (dL O')=ol name (es.map (dL O)):=by
  unfold gZ ol
  rw [List.filter_map]
  have:es.map (dL O')=es.map (dL O):=List.map_congr_left (fun x _=>by unfold dL;rw [hid])
  have h2:(es.filter (fun e=>decide (e.1≠name))).map (dL O')=(es.filter (fun e=>decide (e.1≠name))).map (dL O):=List.map_congr_left (fun x _=>by unfold dL;rw [hid])
  rw [h2];rfl
theorem KF {z:Int}:∀ es:List cW,(∀ e∈es,e.name≠name)->nB name es z=z
  | [],_=>rfl
  | e::r,hn=>by
    unfold nB
    rw [if_neg (hn e (List.mem_cons_self ..)),KF r (fun x hx=>hn x (List.mem_cons_of_mem _ hx))]
theorem M4 {z:Int}:∀ es:fB Th,lV es->aL name es=some t->nB name (es.map (dL O)) z=(obj O t.k).id
  | [],_,h=>by cases h
  | e::r,hd,h=>by
    rw [l6] at h
    rw [List.map_cons]
    unfold nB
    show nB name (r.map (dL O)) (if e.1=name then (obj O e.2.k).id else z)=_
    by_cases hn:e.1=name
    ·rw [if_pos hn] at h ⊢
     injection h with h
     rw [h]
     refine KF _ (fun x hx=>?_)
     obtain⟨y,hy,rfl⟩:=List.mem_map.1 hx
     exact fun q=>(List.pairwise_cons.1 hd).1 y hy (hn.trans q.symm)
    rw [if_neg hn] at h ⊢
    exact M4 r (List.pairwise_cons.1 hd).2 h
theorem Bb (hc:core (obj O' t.k)=core (obj O t.k)) (hid:∀ x,(obj O' x).id=(obj O x).id):gF O' id t=gF O id t:=by
  have f:∀ {α:Type} (g:aM->α),(∀ o,g (core o)=g o)->g (obj O' t.k)=g (obj O t.k):=fun g hg=>by rw [← hg,hc,hg]
  have he:dL O'=dL O:=by grind [dL]
  grind [gF,core,obj]
theorem y6 {S':aI} (hi:S'.idx=S.idx) (hc:∀ x,core (obj S'.O x)=core (obj S.O x)):aE S'=aE S:=by
  grind [aE,Bb,core,obj]
theorem Bc (hI:mz S.idx) (hl:Live S.idx t) {S':aI} (hi:S'.idx=S.idx) (hc:∀ x,x≠t.k->core (obj S'.O x)=core (obj S.O x)) (hid:(obj S'.O t.k).id=(obj S.O t.k).id):aE S'=(aE S).set (posR S t) (gF S'.O (t.k:Int) t):=by
  have aci:∀ x,(obj S'.O x).id=(obj S.O x).id:=fun x=>by
    grind [Live,core,obj,aE,posR,gF]
  obtain⟨h1,h2,h3,h4,_⟩:=kz hI hl
  apply List.ext_getElem?
  grind [aE,posR,tT,Bb,BZ,fQ,kz,KC]
theorem Rl {idx:Used Th} {f:Int×Th->aA} (hr:aq.bH (keys idx)) (hk:∀ p∈idx,p.1=(p.2.k:Int)) {q:aA->Bool} {b:Bool} (hq:∀ p∈idx,q (f p)=true↔¬ (p.2=t/\b=true)) (hl:Live idx t):(idx.map f).filter q=(if b=true then del (t.k:Int) idx else idx).map f:=by
  rw [List.filter_map]
  by_cases hb:b=true
  ·rw [if_pos hb]
   unfold del
   refine congrArg (List.map f) (List.filter_congr (fun p hp=>?_))
   have h1:=hq p hp
   have h2:(q ∘ f) p=true↔decide (p.1≠(t.k:Int))=true:=by
     show q (f p)=true↔_
     rw [h1,decide_eq_true_iff]
     refine not_congr ⟨fun h=>by rw [hk p hp,h.1],fun h=>⟨?_,hb⟩⟩
     have h3:aq.get idx p.1=some p.2:=kD hr hp
     grind [keys,Live,del]
   exact Bool.eq_iff_iff.2 (h2.trans (by simp))
  rw [if_neg hb]
  refine congrArg (List.map f) (List.filter_eq_self.2 (fun p hp=>?_))
  exact (hq p hp).2 (fun h=>hb h.2)
end p
end
section
open Go.RowKit Go.Maps aX aq
section v
variable {S S':aI} {g:List Int} {t u:Th} {d to k i j:Nat} {name toName:ByteArray} {O O':bX} {h need id:Int} {es:fB Th}
structure RelR (S:aI) (g:List Int):Prop where
  inv:Inv S
  gone:tC S.idx S.O g
theorem y7:eN (toR S g) h=match aq.get S.us h with|none=>.error 131|some t=>.ok (posR S t):=by
  grind [eN,qi,W4,toR,posR]
theorem lW (hr:RelR S g):d8 (toR S g) h name need=match dH S.O S.us h name need with|.error e=>.error e|.ok d=>.ok (posR S ⟨d,2⟩):=by
  unfold d8 dH
  rw [y7]
  cases e:aq.get S.us h with
  | none=>rfl
  | some t=>
    have hl:=(hr.inv.us _ _ e).1
    have hp:=(kz hr.inv.ix hl).2.2.2.2.2
    simp only
    have hp2:nd (toR S g).ns (posR S t)=gF S.O (t.k:Int) t:=hp
    rw [hp2]
    show (if t.kind=2 then if (t.k:Int)∈g then _ else if bO name then if bits BinOp.and .i64 (obj S.O t.k).mode need=need then Except.ok (posR S t) else _ else _ else _)=_
    by_cases h2:t.kind=2
    ·have ht:t=⟨t.k,2⟩:=by rw [← h2]
     rw [if_pos h2,if_pos h2]
     by_cases hg:(t.k:Int)∈g
     ·rw [if_pos hg,if_pos ((hr.gone.y4 t hl).1 hg)]
     rw [if_neg hg,if_neg (fun q=>hg ((hr.gone.y4 t hl).2 q))]
     grind
    rw [if_neg h2,if_neg h2]
theorem Rm {es:fB Th} (hj:j < es.length):en (es.map (dL O)) j=⟨jY es j,(obj O (qm es j).k).id⟩:=by
  grind [en,yK,dL,jY,obj,qm]
theorem Un (hI:Inv0 S) (hd:Live S.idx ⟨d,2⟩):bn (aE S) (posR S ⟨d,2⟩) name=match aL name (obj S.O d).ah with|none=>-1|some t=>(posR S t:Int):=by
  unfold bn
  rw [(kz hI.ix hd).2.2.2.2.2]
  show (match wB ((obj S.O d).ah.map (dL S.O)) name with|none=>_|some j=>fP (aE S) (en ((obj S.O d).ah.map (dL S.O)) j).id)=_
  rw [Rk,KD]
  cases e:(obj S.O d).ah.findIdx? (fun e=>decide (e.1=name)) with
  | none=>rfl
  | some j=>
    have hj:j < (obj S.O d).ah.length:=by
      rw [List.findIdx?_eq_some_iff_getElem] at e
      exact e.1
    show fP (aE S) (en ((obj S.O d).ah.map (dL S.O)) j).id=(posR S (qm (obj S.O d).ah j):Int)
    have hl:Live S.idx (qm (obj S.O d).ah j):=(hI.ah _ hd _ (List.mem_of_getElem? (yK hj))).2
    rw [Rm hj,(hI.ob _ hl).1,(kz hI.ix hl).2.2.2.2.1]
theorem KG (hI:Inv0 S):rN (toR S g)↔Room S.X S.idx:=by
  have h1:(bJ (aE S) (aE S).length:Int)=S.X.ah:=by rw [eZ,AU];exact hI.total.1.symm
  grind [aE,bJ,eZ,rN,toR,Room]
theorem Du (hI:Inv0 S):(cK (toR S g).ns (toR S g).ns.length:Int)=S.X.used:=by
  show (cK (aE S) (aE S).length:Int)=_
  rw [eZ,JS];exact hI.used.1.symm
theorem y8 (hx:mz S.idx) (hd:Live S.idx ⟨d,2⟩) (htd:t.k≠d) (hid:(obj S.O t.k).id=id) (hS:S'={ S with X:=S'.X,O:=bw S.X S.O d name t,us:=S'.us,av:=S'.av }):aE S'=jO S.X.cS S.X.cZ (aE S) (posR S ⟨d,2⟩) (ji name id (nd (aE S) (posR S ⟨d,2⟩)).ah):=by
  have hO:S'.O=bw S.X S.O d name t:=by rw [hS]
  have ud:∀ x,(obj (bw S.X S.O d name t) x).id=(obj S.O x).id:=fun x=>jf (g:=aM.id) (fun _ _=>rfl) (fun _ _=>rfl) (fun _ _ _=>rfl) (fun _ _=>rfl)
  rw [Bc hx hd (S':=S') (by rw [hS]) (fun x hne=>by rw [hO,o4 htd,if_neg hne];split<;>rfl) (by rw [hO];exact ud d)]
  unfold jO
  rw [(kz hx hd).2.2.2.2.2,hO]
  congr 1
  show (⟨(d:Int),2,(obj (bw S.X S.O d name t) d).mode,(obj (bw S.X S.O d name t) d).uid,(obj (bw S.X S.O d name t) d).gid,(obj (bw S.X S.O d name t) d).sec,(obj (bw S.X S.O d name t) d).nano,(obj (bw S.X S.O d name t) d).data,(obj (bw S.X S.O d name t) d).target,(obj (bw S.X S.O d name t) d).ah.map (dL (bw S.X S.O d name t))⟩:aA)=_
  have h1:(obj (bw S.X S.O d name t) d)={ obj S.O d with ah:=gU name t (obj S.O d).ah,sec:=S.X.cS,nano:=S.X.cZ }:=by rw [o4 htd,if_pos rfl]
  rw [h1]
  show (⟨_,_,_,_,_,_,_,_,_,(gU name t (obj S.O d).ah).map (dL (bw S.X S.O d name t))⟩:aA)=_
  rw [KE (O:=S.O) ud hid];rfl
theorem uO (hx:mz S.idx) (hd:Live S.idx ⟨d,2⟩) (htd:t.k≠d) (hi:S'.idx=S.idx) (hO:∀ x,core (obj S'.O x)=core (obj (aH S.X S.O d name t) x)):aE S'=jO S.X.cS S.X.cZ (aE S) (posR S ⟨d,2⟩) (ol name (nd (aE S) (posR S ⟨d,2⟩)).ah):=by
  have ud:∀ x,(obj (aH S.X S.O d name t) x).id=(obj S.O x).id:=fun x=>cA (g:=aM.id) (fun _ _=>rfl) (fun _ _=>rfl) (fun _ _ _=>rfl)
  have e1:aE S'=aE { S with O:=aH S.X S.O d name t }:=y6 (S:={ S with O:=aH S.X S.O d name t }) hi hO
  rw [e1,Bc hx hd (S':={ S with O:=aH S.X S.O d name t }) rfl (fun x hne=>by
    show core (obj (aH S.X S.O d name t) x)=_
    rw [iI htd,if_neg hne];split<;>rfl) (ud d)]
  unfold jO
  rw [(kz hx hd).2.2.2.2.2]
  congr 1
  show (⟨(d:Int),2,(obj (aH S.X S.O d name t) d).mode,(obj (aH S.X S.O d name t) d).uid,(obj (aH S.X S.O d name t) d).gid,(obj (aH S.X S.O d name t) d).sec,(obj (aH S.X S.O d name t) d).nano,(obj (aH S.X S.O d name t) d).data,(obj (aH S.X S.O d name t) d).target,(obj (aH S.X S.O d name t) d).ah.map (dL (aH S.X S.O d name t))⟩:aA)=_
  have h1:(obj (aH S.X S.O d name t) d)={ obj S.O d with ah:=gZ name (obj S.O d).ah,sec:=S.X.cS,nano:=S.X.cZ }:=by rw [iI htd,if_pos rfl]
  rw [h1]
  show (⟨_,_,_,_,_,_,_,_,_,(gZ name (obj S.O d).ah).map (dL (aH S.X S.O d name t))⟩:aA)=_
  rw [Um (O:=S.O) ud];rfl
theorem y9 {es:fB Th} (hid:∀ e∈es,(obj O e.2.k).id=(e.2.k:Int)):∀ j,j<=es.length->fq (es.map (dL O)) (k:Int) j=(es.take j).countP (fun e=>decide (e.2.k=k))
  | 0,_=>rfl
  | j+1,hj=>by
    rw [fq,y9 hid j (by omega),List.take_add_one,yK (show j < es.length by omega),List.countP_append,Rm (by omega)]
    congr 1
    have:=hid _ (List.mem_of_getElem? (yK (show j < es.length by omega)))
    have h2:(obj O (qm es j).k).id=((qm es j).k:Int):=this
    simp only [h2,Option.toList,List.countP_cons,List.countP_nil]
    by_cases hk:(qm es j).k=k
    ·simp [hk]
    simp [hk]
    omega
theorem Rn (hid:∀ i,i < S.idx.length->∀ e∈(obj S.O (fO S i).k).ah,(obj S.O e.2.k).id=(e.2.k:Int)):qy (aE S) (k:Int)=(jw S.idx S.O k:Int):=by
  unfold qy
  rw [eZ]
  have h:=wK (S:=S) (fun o=>o.ah.countP (fun e=>decide (e.2.k=k))) (fun ns n=>jV ns (k:Int) n) (fun _=>rfl) (fun i hi=>by
    show jV (aE S) _ i+fq (nd (aE S) i).ah _ (nd (aE S) i).ah.length=_
    rw [lu hi]
    show _+fq ((obj S.O (fO S i).k).ah.map (dL S.O)) _ ((obj S.O (fO S i).k).ah.map (dL S.O)).length=_
    rw [List.length_map,y9 (hid i hi) _ (Nat.le_refl _),List.take_length]) S.idx.length (Nat.le_refl _)
  rw [List.take_length] at h
  exact congrArg Nat.cast h
theorem LK (hI:Inv0 S) (hd:Live S.idx ⟨d,2⟩) (hl:aL name (obj S.O d).ah=some t) (hi:S'.idx=S.idx) (hO:∀ x,core (obj S'.O x)=core (obj (aH S.X S.O d name t) x)):qy (aE S') (t.k:Int)=(obj S.O t.k).links - 1:=by
  have htd:=hI.ne hd hl
  have ud:∀ x,(obj S'.O x).id=(obj S.O x).id:=fun x=>(show (obj S'.O x).id=(obj (aH S.X S.O d name t) x).id by have h:=congrArg aM.id (hO x);exact h).trans (cA (g:=aM.id) (fun _ _=>rfl) (fun _ _=>rfl) (fun _ _ _=>rfl))
  have wv:∀ x,(obj S'.O x).ah=(obj (aH S.X S.O d name t) x).ah:=fun x=>by have h:=congrArg aM.ah (hO x);exact h
  have he:∀ x,(obj S'.O x).ah=if x=d then gZ name (obj S.O d).ah else (obj S.O x).ah:=fun x=>by
    grind [iI]
  rw [Rn (fun i hi2 e hem=>by
    rw [ud]
    rw [hi] at hi2
    have mO:fO S' i=fO S i:=by unfold fO;rw [hi]
    rw [mO,he] at hem
    have hlv:=(BZ hI.ix hi2).1
    have:e∈(obj S.O (fO S i).k).ah:=by
      grind [Jo]
    exact (hI.ob _ (hI.ah _ hlv _ this).2).1),hi]
  have h1:=Jp (q:=fun e=>decide (e.2.k=t.k)) (O':=S'.O) hI.rise hd (fun _ _ e=>hI.key e) (fun x hx=>by rw [he,if_neg hx]) (by rw [he,if_pos rfl]) (hI.twice hd) hl
  have h2:=hI.links t (hI.ent hd hl).2
  grind [jw]
theorem Uo {V:Type} {z:Int} {p:Int×V} {us:Used V}:p∈del z us↔p∈us/\p.1≠z:=by
  unfold del
  rw [List.mem_filter]
  simp
theorem wQ {S1 S2:aI} {O2:bX} {KH:Used Th} {R:RS} (hx:mz S1.idx) (hns:R.ns=aE S1) (eF:R.us=qi KH) (hg:tC S1.idx O2 R.gone) (hl:Live S1.idx t)
    (hfull:∀ u,Live S1.idx u->u≠t->(obj O2 u.k).gone=true->0 < hnd KH u.k) (hop:(obj O2 t.k).opens=(hnd KH t.k:Int)) (hid:(obj O2 t.k).id=(t.k:Int))
    (hi:S2.idx=iE O2 S1.idx t) (hc:∀ x,core (obj S2.O x)=core (obj S1.O x)) (hgo:∀ x,(obj S2.O x).gone=(obj O2 x).gone) :
    (dx R).ns=aE S2/\tC S2.idx S2.O (dx R).gone:=by
  have ud:∀ x,(obj S2.O x).id=(obj S1.O x).id:=fun x=>by have h:=congrArg aM.id (hc x);exact h
  have gY:∀ p∈S1.idx,Live S1.idx p.2:=fun p hp=>by
    unfold Live;rw [← hx.key p hp];exact kD hx.rise hp
  have hkept:∀ p∈S1.idx,om R (gF S1.O p.1 p.2)=true↔¬ (p.2=t/\decide (qE O2 t)=true):=fun p hp=>by
    have hlp:=gY p hp
    show decide (p.1∈R.gone->p.1∈gn R.us)=true↔_
    rw [decide_eq_true_iff,hx.key p hp,hg.y4 _ hlp,eF,W5,decide_eq_true_iff]
    constructor
    ·rintro h ⟨h1,h2⟩
     rw [h1] at h
     have:=h h2.1
     have h3:=h2.2
     rw [hop] at h3
     omega
    intro h j3
    by_cases hpt:p.2=t
    ·rw [hpt] at j3 ⊢
     have:¬ (obj O2 t.k).opens=0:=fun q=>h ⟨hpt,j3,q⟩
     rw [hop] at this
     omega
    exact hfull _ hlp hpt j3
  have Ze:(dx R).ns=aE S2:=by
    show R.ns.filter (om R)=aE S2
    rw [hns]
    unfold aE
    rw [Rl hx.rise hx.key hkept hl,hi]
    grind [iE,gF,Bb,qE]
  refine⟨Ze,?_⟩
  have hsub:∀ u,Live S2.idx u->Live S1.idx u:=fun u hu=>by
    grind [iE,Live,uR]
  have hx2:mz S2.idx:=by
    rw [hi]
    unfold iE
    split
    ·refine⟨?_,fun p hp=>hx.key p (Uo.1 hp).1⟩
     unfold keys del
     exact hx.rise.sublist (List.Sublist.map _ List.filter_sublist)
    exact hx
  have hmem:∀ z,z∈(dx R).gone↔(z∈R.gone/\∃ p∈S2.idx,p.1=z):=fun z=>by
    show z∈((dx R).ns.filter (fun n=>decide (n.id∈R.gone))).map aA.id↔_
    rw [Ze]
    simp only [List.mem_map,List.mem_filter,decide_eq_true_iff]
    constructor
    ·rintro⟨n,⟨h1,h2⟩,h3⟩
     obtain⟨p,hp,rfl⟩:=List.mem_map.1 h1
     exact⟨by rw [← h3];exact h2,p,hp,h3⟩
    rintro⟨h1,p,hp,h2⟩
    exact⟨gF S2.O p.1 p.2,⟨List.mem_map.2 ⟨p,hp,rfl⟩,by show p.1∈_;rw [h2];exact h1⟩,h2⟩
  refine⟨fun u hu=>?_,fun z hz=>?_⟩
  ·rw [hmem,hg.y4 u (hsub u hu),hgo]
   exact⟨fun h=>h.1,fun h=>⟨h,_,get_mem hu,rfl⟩⟩
  obtain⟨_,p,hp,h1⟩:=(hmem z).1 hz
  refine⟨p.2,?_,(hx2.key p hp).symm.trans h1⟩
  unfold Live;rw [← hx2.key p hp];exact kD hx2.rise hp
end v
end
section
open Go.RowKit Go.Maps aX aq
def cC (a:sO) (code:Int) (S':aI) (an:Int):Prop:=a.2.2=code/\(code=0->∃ g',a.1=toR S' g'/\tC S'.idx S'.O g'/\a.2.1=an)
section w
variable {S S':aI} {g:List Int} {t u:Th} {d to k i j:Nat} {name toName:ByteArray} {O O':bX} {h need id z:Int} {c:ar} {R:RS}
theorem cC.bad {a:sO} {e an:Int} {S':aI} (h:a.2.2=e) (he:e≠0):cC a e S' an:=⟨h,fun q=>absurd q he⟩
theorem Ro (h1:R.ns=aE S') (h3:R.us=qi S'.us) (h4:R.av=S'.av) (h5:R.cN=S'.X.cN/\R.cB=S'.X.cB/\R.cH=S'.X.cH/\R.cS=S'.X.cS/\R.cZ=S'.X.cZ/\R.last=S'.X.last):R=toR S' R.gone:=by
  obtain⟨ns,gone,us,av,cN,cB,cH,cS,cZ,last⟩:=R
  grind [aE,qi,toR]
theorem tC.same {idx:Used Th} (h:tC idx O g) (hg:∀ x,(obj O' x).gone=(obj O x).gone):tC idx O' g:=⟨fun t ht=>(h.y4 t ht).trans (by rw [hg]),h.live⟩
theorem Zf (hI:Inv0 S) (z:Int):fP (aE S) z=match aq.get S.idx z with|none=>-1|some t=>(posR S t:Int):=by
  cases e:aq.get S.idx z with
  | none=>
    refine CS (fun j hj he=>?_)
    rw [eZ] at hj
    rw [lu hj] at he
    have h1:dS S j=z:=he
    have h2:=(FC hI hj)
    have h3:aq.get S.idx ((fO S j).k:Int)=some (fO S j):=h2.1
    rw [← h2.2,h1,e] at h3
    cases h3
  | some t=>
    have hk:=(hI.idx _ _ e).1
    have hl:Live S.idx t:=by show aq.get S.idx (t.k:Int)=some t;rw [← hk];exact e
    show fP (aE S) z=_
    rw [hk];exact (kz hI.ix hl).2.2.2.2.1
theorem Uq (hI:Inv0 S) (e:aq.get S.idx z=some t):Live S.idx t/\z=(t.k:Int):=by
  have hk:=(hI.idx _ _ e).1
  grind [Live]
theorem nD (hI:Inv0 S) (hl:Live S.idx t):nd (toR S g).ns (posR S t)=gF S.O (t.k:Int) t:=(kz hI.ix hl).2.2.2.2.2
theorem cC.ok {a:sO} {an:Int} (hc:a.2.2=0) (h1:a.1.ns=aE S') (h3:a.1.us=qi S'.us) (h4:a.1.av=S'.av) (h5:a.1.cN=S'.X.cN/\a.1.cB=S'.X.cB/\a.1.cH=S'.X.cH/\a.1.cS=S'.X.cS/\a.1.cZ=S'.X.cZ/\a.1.last=S'.X.last) (hg:tC S'.idx S'.O a.1.gone) (ha:a.2.1=an):cC a 0 S' an:=
  ⟨hc,fun _=>⟨_,Ro h1 h3 h4 h5,hg,ha⟩⟩
theorem cC.same {an:Int} (hr:RelR S g) (ha:an=0):cC (toR S g,0,0) 0 S an:=⟨rfl,fun _=>⟨g,rfl,hr.gone,ha.symm⟩⟩
theorem Dv (hr:RelR S g) (hl:Live S.idx t):cC (iF (toR S g) (posR S t)) (ck S t).2.1 (ck S t).2.2 (ck S t).1:=by
  have hlen:(toR S g).us.length=S.us.length:=Ca
  unfold iF
  by_cases hc:(S.us.length:Int) < S.X.cH
  ·rw [jD hc,if_pos (by rw [hlen];exact hc)]
   refine .ok rfl ?_ ?_ ?_ ⟨rfl,rfl,rfl,rfl,rfl,rfl⟩ (hr.gone.same (fun x=>cq (g:=aM.gone) (fun _=>rfl))) Ba
   ·show aE S=aE _
    exact (y6 (S:=S) (S':={ S with O:=aD S.O t.k (fun o=>{ o with opens:=o.opens+1 }),us:=ins (least S.us) t S.us,av:=max S.av ((S.us.length:Int)+1) }) rfl (fun x=>cq (g:=core) (f:=fun o=>{ o with opens:=o.opens+1 }) (fun _=>rfl))).symm
   ·show ins (least (qi S.us)) (nd (toR S g).ns (posR S t)).id (qi S.us)=qi (ins (least S.us) t S.us)
    rw [nD hr.inv.toInv0 hl,MZ,Ba];rfl
   grind [qi,Ca,Live,cC,iF,toR,posR,ck]
  grind [kS,Live,cC,iF,toR,posR,ck]
theorem Ur (hr:RelR S g) (c:ar):cC (if 0<=fP (toR S g).ns c.other then if (nd (toR S g).ns (tgt (toR S g).ns c.other)).kind=2 then iF (toR S g) (tgt (toR S g).ns c.other) else (toR S g,0,173) else (toR S g,0,141)) (iu S c).1 (iu S c).2.1 (iu S c).2.2.answer:=by
  have hI:=hr.inv.toInv0
  have ha:fP (toR S g).ns c.other=_:=Zf hI c.other
  unfold iu
  cases e:aq.get S.idx c.other with
  | none=>
    grind [fP,toR,cC,nd,tgt,iF,iu]
  | some t=>
    rw [e] at ha
    replace ha:fP (toR S g).ns c.other=(posR S t:Int):=ha
    obtain⟨hl,_⟩:=Uq hI e
    have ht:tgt (toR S g).ns c.other=posR S t:=by unfold tgt;rw [ha];exact Int.toNat_natCast _
    rw [if_pos (by rw [ha];omega),ht,nD hI hl]
    show cC (if t.kind=2 then _ else _) _ _ _
    grind [Dv,cC,fP,toR,nd,tgt,iF,iu]
theorem j7 (hr:RelR S g) (hd:Live S.idx ⟨d,2⟩) (name:ByteArray):(aL name (obj S.O d).ah=none/\bn (toR S g).ns (posR S ⟨d,2⟩) name = -1)\/∃ t,aL name (obj S.O d).ah=some t/\bn (toR S g).ns (posR S ⟨d,2⟩) name=(posR S t:Int)/\Live S.idx t/\(t.kind=1\/t.kind=2\/t.kind=3)/\t.k≠d:=by
  have hI:=hr.inv.toInv0
  have hl:bn (toR S g).ns (posR S ⟨d,2⟩) name=_:=Un (name:=name) hI hd
  cases e:aL name (obj S.O d).ah with
  | none=>rw [e] at hl;exact .inl ⟨rfl,hl⟩
  | some t=>
    rw [e] at hl
    have h1:=(hr.inv.ent hd e).2
    exact .inr ⟨t,rfl,hl,h1,(hI.ob t h1).2.2,hr.inv.ne hd e⟩
theorem LM (hr:RelR S g) (c:ar):cC (fN (toR S g) c 2) (dI S c).1 (dI S c).2.1 (dI S c).2.2.answer:=by
  have hI:=hr.inv.toInv0
  unfold fN dI fk
  rw [lW hr]
  rcases iw hI c.handle c.name 64 with ⟨e,h,he⟩|⟨d,h,hd,-⟩
  ·rw [h];exact .bad rfl he
  rw [h]
  simp only
  rcases j7 hr hd c.name with ⟨h1,h2⟩|⟨t,h1,h2,hl,hk,-⟩
  ·grind [cC,fN,toR,dI]
  rw [h1,if_pos (by rw [h2];omega),h2,Int.toNat_natCast,nD hI hl]
  show cC (if t.kind=3 then _ else if t.kind≠2 then (_,_,if t.kind=1 then _ else _) else _) _ _ _
  grind [Dv,cC,fN,toR,dI]
theorem KI (hr:RelR S g) (c:ar):cC (fN (toR S g) c 1) (dg S c).1 (dg S c).2.1 (dg S c).2.2.answer:=by
  have hI:=hr.inv.toInv0
  unfold fN dg fk
  rw [lW hr]
  rcases iw hI c.handle c.name 64 with ⟨e,h,he⟩|⟨d,h,hd,-⟩
  ·rw [h];exact .bad rfl he
  rw [h]
  simp only
  rcases j7 hr hd c.name with ⟨h1,h2⟩|⟨t,h1,h2,hl,hk,-⟩
  ·grind [cC,fN,toR,dg]
  rw [h1,if_pos (by rw [h2];omega),h2,Int.toNat_natCast,nD hI hl]
  show cC (if t.kind=3 then _ else if t.kind≠1 then (_,_,if t.kind=1 then _ else _) else _) _ _ _
  grind [Dv,cC,fN,toR,dg]
theorem KJ (hI:Inv0 S) (hl:Live S.idx t) (c:ar):BQ (toR S g) c (posR S t)={ kO S.O (c0 c) (some t) with code:=0 }:=by
  unfold BQ
  rw [nD hI hl]
  unfold kO
  simp only
  rw [(hI.ob t hl).1];rfl
theorem Us (hr:RelR S g) (c:ar) (hop:c.op=11\/c.op=12):dG S c=(S,mV (toR S g) c):=by
  have hI:=hr.inv.toInv0
  show ((eM S (c0 c)).2.1,{ (eM S (c0 c)).2.2 with code:=(eM S (c0 c)).1 })=_
  unfold mV
  rcases hop with h|h
  ·rw [Az (c:=c0 c) h,if_neg (by omega),y7]
   cases e:aq.get S.us c.handle with
   | none=>rw [show jT S (c0 c)=(131,S,kO S.O (c0 c) none) by unfold jT;rw [show aq.get S.us (c0 c).handle=none from e]];rfl
   | some t=>rw [show jT S (c0 c)=(0,S,kO S.O (c0 c) (some t)) by unfold jT;rw [show aq.get S.us (c0 c).handle=some t from e]];exact congrArg (Prod.mk S) (KJ hI (hr.inv.us _ _ e).1 c).symm
  rw [AA (c:=c0 c) h,if_pos h,lW hr]
  rcases iw hI c.handle c.name 64 with ⟨e,h,he⟩|⟨d,h,hd,-⟩
  ·rw [show fI S (c0 c)=(e,S,kO S.O (c0 c) none) by unfold fI fk;rw [show dH S.O S.us (c0 c).handle (c0 c).name 64=.error e from h],h];rfl
  rw [h]
  simp only
  rcases j7 hr hd c.name with ⟨h1,h2⟩|⟨t,h1,h2,hl,hk,-⟩
  ·rw [show fI S (c0 c)=(170,S,kO S.O (c0 c) none) by unfold fI fk;rw [show dH S.O S.us (c0 c).handle (c0 c).name 64=.ok d from h];simp only;rw [h1],if_neg (by rw [h2];decide)];rfl
  rw [show fI S (c0 c)=(0,S,kO S.O (c0 c) (some t)) by unfold fI fk;rw [show dH S.O S.us (c0 c).handle (c0 c).name 64=.ok d from h];simp only;rw [h1],if_pos (by rw [h2];omega),h2,Int.toNat_natCast]
  grind [KJ]
theorem KL {f:aM->aM} (hid:∀ o,(f o).id=o.id):gF (aD O t.k f) z t=⟨z,t.kind,(f (obj O t.k)).mode,(f (obj O t.k)).uid,(f (obj O t.k)).gid,(f (obj O t.k)).sec,(f (obj O t.k)).nano,(f (obj O t.k)).data,(f (obj O t.k)).target,(f (obj O t.k)).ah.map (dL O)⟩:=by
  have h1:obj (aD O t.k f) t.k=f (obj O t.k):=by rw [gM,if_pos rfl]
  have h2:dL (aD O t.k f)=dL O:=funext fun e=>by unfold dL;rw [cq (g:=aM.id) hid]
  unfold gF
  rw [h1,h2]
theorem Hv (hI:Inv0 S) (hl:Live S.idx t) {f:aM->aM} (hid:∀ o,(f o).id=o.id) (hi:S'.idx=S.idx) (hO:S'.O=aD S.O t.k f):aE S'=(aE S).set (posR S t) (gF (aD S.O t.k f) (t.k:Int) t):=by
  rw [Bc hI.ix hl (S':=S') hi (fun x hx=>by rw [hO,gM,if_neg hx]) (by rw [hO];exact cq (g:=aM.id) hid),hO]
theorem Ut (hr:RelR S g) (c:ar):cC (jg (toR S g) c) (br S c).1 (br S c).2.1 0:=by
  have hI:=hr.inv.toInv0
  unfold jg br
  rw [y7]
  cases e:aq.get S.us c.handle with
  | none=>exact .bad rfl (show (131:Int)≠0 by decide)
  | some t=>
    have hl:=(hr.inv.us _ _ e).1
    simp only
    rw [nD hI hl]
    show cC (if t.kind=2/\(t.k:Int)∈g then _ else _) _ _ _
    by_cases hg:(obj S.O t.k).gone=true/\t.kind=2
    ·rw [if_pos ⟨hg.2,(hr.gone.y4 t hl).2 hg.1⟩,if_pos hg];exact .bad rfl (show (170:Int)≠0 by decide)
    rw [if_neg (fun q=>hg ⟨(hr.gone.y4 t hl).1 q.2,q.1⟩),if_neg hg]
    by_cases h1:gy c.mode
    ·by_cases h2:mh c.uid/\mh c.gid
     ·by_cases h3:dw c.sec c.nano
      ·rw [if_pos h1,if_pos h1,if_pos h2,if_pos h2,if_pos h3,if_pos h3]
       refine .ok rfl ?_ rfl rfl ⟨rfl,rfl,rfl,rfl,rfl,rfl⟩ (hr.gone.same (fun x=>cq (g:=aM.gone) (f:=fun o=>{ o with mode:=c.mode,uid:=c.uid,gid:=c.gid,sec:=c.sec,nano:=c.nano }) (fun _=>rfl))) rfl
       refine Eq.trans ?_ (Hv (S:=S) (S':={ S with O:=aD S.O t.k (fun o=>{ o with mode:=c.mode,uid:=c.uid,gid:=c.gid,sec:=c.sec,nano:=c.nano }) }) (t:=t) hI hl (f:=fun o=>{ o with mode:=c.mode,uid:=c.uid,gid:=c.gid,sec:=c.sec,nano:=c.nano }) (fun _=>rfl) rfl rfl).symm
       rw [KL (f:=fun o=>{ o with mode:=c.mode,uid:=c.uid,gid:=c.gid,sec:=c.sec,nano:=c.nano }) (fun _=>rfl)]
       rfl
      grind [cC,jg,toR,br]
     grind [cC,jg,toR,br]
    grind [cC,jg,toR,br]
theorem Rp (hr:RelR S g) (hl:Live S.idx t) (bs:List UInt8):cC (lK (toR S g) (posR S t) bs) (fS S t.k bs).2.1 (fS S t.k bs).2.2 (fS S t.k bs).1:=by
  have hI:=hr.inv.toInv0
  unfold lK fS
  by_cases hb:bs=[]
  ·rw [if_pos hb,if_pos hb];exact .same hr rfl
  rw [if_neg hb,if_neg hb,Du hI]
  show cC (if S.X.cB - S.X.used<=0 then _ else _) _ _ _
  by_cases hu:S.X.cB - S.X.used<=0
  ·grind [Live,cC,lK,toR,posR,fS]
  rw [if_neg hu,if_neg hu]
  refine .ok rfl ?_ rfl rfl ⟨rfl,rfl,rfl,rfl,rfl,rfl⟩ (hr.gone.same (fun x=>cq (g:=aM.gone) (f:=fun o=>{ o with data:=o.data++bs.take (bP S.X bs.length),sec:=S.X.cS,nano:=S.X.cZ }) (fun _=>rfl))) rfl
  refine Eq.trans ?_ (Hv (S:=S) (S':={ S with X:={ S.X with used:=S.X.used+(bP S.X bs.length:Int) },O:=aD S.O t.k (fun o=>{ o with data:=o.data++bs.take (bP S.X bs.length),sec:=S.X.cS,nano:=S.X.cZ }) }) (t:=t) hI hl (f:=fun o=>{ o with data:=o.data++bs.take (bP S.X bs.length),sec:=S.X.cS,nano:=S.X.cZ }) (fun _=>rfl) rfl rfl).symm
  rw [KL (f:=fun o=>{ o with data:=o.data++bs.take (bP S.X bs.length),sec:=S.X.cS,nano:=S.X.cZ }) (fun _=>rfl)]
  simp only
  rw [nD hI hl]
  rfl
theorem Uu (hr:RelR S g) (c:ar):cC (match eN (toR S g) c.handle with|.error e=>(toR S g,0,e)|.ok k=>if (nd (toR S g).ns k).kind=2 then (toR S g,0,172) else lK (toR S g) k c.data) (dW S c).1 (dW S c).2.1 (if (dW S c).1=0 then (dW S c).2.2.answer else 0):=by
  have hI:=hr.inv.toInv0
  unfold dW
  rw [y7]
  cases e:aq.get S.us c.handle with
  | none=>exact .bad rfl (show (131:Int)≠0 by decide)
  | some t=>
    obtain⟨hl,h3⟩:=hr.inv.us _ _ e
    have hk:=(hI.ob t hl).2.2
    simp only
    rw [nD hI hl]
    show cC (if t.kind=2 then _ else _) _ _ _
    grind [Rp,cC,eN,toR,nd,lK,dW]
theorem Rq (hr:RelR S g) (c:ar):cC (if c.handle∈keys (toR S g).us then (dx { toR S g with us:=del c.handle (toR S g).us },0,0) else (dx (toR S g),0,131)) (fT S c).1 (fT S c).2.1 0:=by
  have hI:=hr.inv.toInv0
  have hk:keys (toR S g).us=keys S.us:=y5
  unfold fT
  cases e:aq.get S.us c.handle with
  | none=>
    grind [get_none,cC,keys,toR,dx,del,fT]
  | some t=>
    have hl:=(hr.inv.us _ _ e).1
    rw [if_pos (by rw [hk];exact List.mem_map.2 ⟨_,get_mem e,rfl⟩)]
    have hdel:=fun k=>Mn (k:=k) hI.usr e
    have hsw:=wQ (S1:=S) (S2:=(fT S c).2.1) (O2:=qu S.O t.k) (KH:=del c.handle S.us) (R:={ toR S g with us:=del c.handle (toR S g).us }) (t:=t) hI.ix rfl M0.symm
      (hr.gone.same (fun x=>cq (g:=aM.gone) (f:=fun o=>{ o with opens:=o.opens - 1 }) (fun _=>rfl))) hl
      (fun u hu hne CA=>by
        have h1:(obj S.O u.k).gone=true:=Eq.trans (cq (g:=aM.gone) (f:=fun o=>{ o with opens:=o.opens - 1 }) (fun _=>rfl)).symm CA
        have h2:=hr.inv.full u hu h1
        rw [hI.opens u hu] at h2
        have h3:=hdel u.k
        rw [if_neg (fun q=>hne (fQ hu hl q.symm))] at h3
        omega)
      (by
        show (obj (aD S.O t.k _) t.k).opens=_
        rw [gM,if_pos rfl]
        show (obj S.O t.k).opens - 1=_
        rw [hI.opens t hl]
        have h3:=hdel t.k
        rw [if_pos rfl] at h3
        omega)
      (by rw [show (obj (qu S.O t.k) t.k).id=(obj S.O t.k).id from cq (g:=aM.id) (f:=fun o=>{ o with opens:=o.opens - 1 }) (fun _=>rfl)];exact (hI.ob t hl).1)
      (by unfold fT;rw [e]) (fun x=>by unfold fT;rw [e];exact cq (g:=core) (f:=fun o=>{ o with opens:=o.opens - 1 }) (fun _=>rfl)) (fun x=>by unfold fT;rw [e])
    unfold fT at hsw
    rw [e] at hsw
    refine .ok rfl hsw.1 ?_ rfl ⟨rfl,rfl,rfl,rfl,rfl,rfl⟩ hsw.2 rfl
    exact M0.symm
end w
end
section
open Go.RowKit Go.Maps aX aq
section x
variable {S S':aI} {g:List Int} {t u:Th} {d to k i j:Nat} {name toName:ByteArray} {O O':bX} {h need id z:Int} {c:ar} {R:RS} {o:aM} {n:aA}
theorem Uv (hx:mz S.idx) (hl:Live S.idx t) (hi:S'.idx=S.idx):posR S' t=posR S t:=by
  have hl':Live S'.idx t:=by rw [hi];exact hl
  have hx':mz S'.idx:=by rw [hi];exact hx
  have h1:=kz hx hl
  have h2:=kz hx' hl'
  grind [KC,dS]
theorem Rs (hr:RelR S g) (hd:Live S.idx ⟨d,2⟩) (hl:Live S.idx t) (htd:t.k≠d) {e:Int}:cC (bD (toR S g) (posR S ⟨d,2⟩) name (t.k:Int),0,0) 0 { S with X:={ S.X with ah:=e },O:=bw S.X S.O d name t } 0:=by
  refine .ok rfl ?_ rfl rfl ⟨rfl,rfl,rfl,rfl,rfl,rfl⟩ (hr.gone.same (fun x=>jf (g:=aM.gone) (fun _ _=>rfl) (fun _ _=>rfl) (fun _ _ _=>rfl) (fun _ _=>rfl))) rfl
  exact (y8 (S':={ S with X:={ S.X with ah:=e },O:=bw S.X S.O d name t }) hr.inv.ix hd htd (hr.inv.ob t hl).1 rfl).symm
theorem Dw (hI:Inv0 S):(bJ (toR S g).ns (toR S g).ns.length:Int)=S.X.ah:=by
  show (bJ (aE S) (aE S).length:Int)=S.X.ah
  rw [eZ,AU];exact hI.total.1.symm
theorem Uw (hr:RelR S g) (c:ar):cC (rO (toR S g) c) (bS S c).1 (bS S c).2.1 0:=by
  have hI:=hr.inv.toInv0
  unfold rO mI bS
  rw [lW hr,lW hr]
  rcases iw hI c.handle c.name 64 with ⟨e,h,he⟩|⟨d,h,hd,-⟩
  ·rw [h];exact .bad rfl he
  rw [h]
  simp only
  rcases iw hI c.other c.text 192 with ⟨e,h,he⟩|⟨to,h,hto,-⟩
  ·rw [h];exact .bad rfl he
  rw [h]
  simp only
  unfold jS
  rcases j7 hr hd c.name with ⟨h1,h2⟩|⟨t,h1,h2,hl,hk,htd⟩
  ·grind [cC,rO,toR,bS]
  rw [h1,if_pos (by rw [h2];omega),h2,Int.toNat_natCast,nD hI hl]
  show cC (if t.kind=2 then _ else _) _ _ _
  simp only
  by_cases h3:t.kind=2
  ·grind [cC,rO,toR,bS]
  rw [if_neg h3,if_neg h3]
  have Hw:t.k≠to:=by grind [fQ]
  rcases j7 hr hto c.text with ⟨h4,h5⟩|⟨u,h4,h5,-⟩
  ·rw [if_neg (by rw [h5];decide),if_pos h4,Dw hI]
   by_cases h6:S.X.ah < 8192
   ·rw [if_pos h6,if_pos h6];exact Rs hr hto hl Hw
   grind [cC,rO,toR,bS]
  grind [cC,rO,toR,bS]
theorem CB (hI:Inv0 S):aE { S with O:=aD S.O (aJ S.X) (fun _=>o) }=aE S:=by
  refine List.map_congr_left (fun p hp=>?_)
  have h1:obj (aD S.O (aJ S.X) (fun _=>o)) p.2.k=obj S.O p.2.k:=by rw [gM,if_neg (hI.fresh.idx p hp)]
  have h2:(obj S.O p.2.k).ah.map (dL (aD S.O (aJ S.X) (fun _=>o)))=(obj S.O p.2.k).ah.map (dL S.O):=List.map_congr_left (fun e he=>by
    unfold dL;rw [gM,if_neg (hI.fresh.ah _ e he)])
  unfold gF
  rw [h1,h2]
theorem Rt (hI:Inv0 S):∀ x∈keys S.idx,x < S.X.last+1:=fun x hx=>by
  cases e:aq.get S.idx x with
  | none=>exact absurd hx (get_none.1 e)
  | some t=>have:=(hI.idx _ _ e).2.2;omega
theorem FW (hI:Inv0 S):(fw S d name o).idx=S.idx++[(S.X.last+1,⟨aJ S.X,o.kind⟩)]:=Jf (Rt hI)
theorem Ru (hI:Inv0 S):mz (fw S d name o).idx/\Live (fw S d name o).idx ⟨aJ S.X,o.kind⟩/\∀ u,Live (fw S d name o).idx u↔u=⟨aJ S.X,o.kind⟩\/Live S.idx u:=by
  have hn:S.X.last+1∉keys S.idx:=fun h=>by have:=Rt hI _ h;omega
  have hk:=pZ hI
  have hg:∀ x,aq.get (fw S d name o).idx x=if x=S.X.last+1 then some ⟨aJ S.X,o.kind⟩ else aq.get S.idx x:=fun x=>by
    show aq.get (ins _ _ _) x=_
    rw [uQ hn]
  have hl:Live (fw S d name o).idx ⟨aJ S.X,o.kind⟩:=by show aq.get _ ((aJ S.X:Nat):Int)=_;rw [hg,if_pos hk]
  refine⟨⟨vw hI.rise hn,fun p hp=>?_⟩,hl,fun u=>?_⟩
  ·rw [FW hI] at hp
   rcases List.mem_append.1 hp with h|h
   ·exact hI.ix.key p h
   grind
  constructor
  ·grind [fw,Live,aJ]
  rintro (rfl|hu)
  ·exact hl
  show aq.get _ (u.k:Int)=some u
  rw [hg,if_neg (fun q=>hn (by rw [← q];exact List.mem_map.2 ⟨_,get_mem hu,rfl⟩))];exact hu
theorem M5 (hr:RelR S g) (hd:Live S.idx ⟨d,2⟩) (ho:o.id=S.X.last+1/\o.sec=S.X.cS/\o.nano=S.X.cZ/\o.gone=false/\o.ah=[]) (hn:n.kind=o.kind/\n.mode=o.mode/\n.uid=o.uid/\n.gid=o.gid/\n.data=o.data/\n.target=o.target/\n.ah=[]) :
    sM (toR S g) (posR S ⟨d,2⟩) name n=toR (fw S d name o) g/\tC (fw S d name o).idx (fw S d name o).O g:=by
  have hI:=hr.inv.toInv0
  have hk:=pZ hI
  have htd:aJ S.X≠d:=fun e=>hI.fresh.idx _ (get_mem hd) e.symm
  have hat:=fun x=>o4 (X:=S.X) (O:=aD S.O (aJ S.X) (fun _=>o)) (d:=d) (name:=name) (t:=⟨aJ S.X,o.kind⟩) (k:=x) htd
  obtain⟨h1,h2,h3,h4,h5⟩:=ho
  have hnew:obj (fw S d name o).O (aJ S.X)={ o with links:=o.links+1,up:=if o.kind=2 then some d else o.up }:=by
    show obj (bw _ _ _ _ _) _=_
    rw [hat,if_neg htd,if_pos rfl,gM,if_pos rfl]
  refine⟨Ro (R:=sM (toR S g) (posR S ⟨d,2⟩) name n) ?_ rfl rfl ⟨rfl,rfl,rfl,rfl,rfl,rfl⟩,⟨fun u hu=>?_,fun z hz=>?_⟩⟩
  ·have hg2:=y8 (S:={ S with O:=aD S.O (aJ S.X) (fun _=>o) }) (S':={ S with X:=(fw S d name o).X,O:=(fw S d name o).O }) (d:=d) (name:=name) (t:=⟨aJ S.X,o.kind⟩) (id:=S.X.last+1) hI.ix hd htd (by
     show (obj (aD _ _ _) (aJ S.X)).id=_
     rw [gM,if_pos rfl];exact h1) rfl
   rw [CB hI,show posR { S with O:=aD S.O (aJ S.X) (fun _=>o) } ⟨d,2⟩=posR S ⟨d,2⟩ by unfold posR;rw [CB hI]] at hg2
   have hg3:aE (fw S d name o)=aE { S with X:=(fw S d name o).X,O:=(fw S d name o).O }++[gF (fw S d name o).O (S.X.last+1) ⟨aJ S.X,o.kind⟩]:=by
     unfold aE
     rw [FW hI,List.map_append];rfl
   have hN:({ n with id:=S.X.last+1,sec:=S.X.cS,nano:=S.X.cZ }:aA)=gF (fw S d name o).O (S.X.last+1) ⟨aJ S.X,o.kind⟩:=by
     unfold gF
     simp only
     rw [hnew,h5]
     obtain⟨ni,nk,nm,nu,ng,ns,nn,nda,nt,ne⟩:=n
     obtain⟨g1,g2,g3,g4,g5,g6,g7⟩:=hn
     simp only at g1 g2 g3 g4 g5 g6 g7 ⊢
     rw [g1,g2,g3,g4,g5,g6,g7,h2,h3];rfl
   rw [hg3,hg2,← hN];rfl
  ·rcases ((Ru hI).2.2 u).1 hu with rfl|G7
   ·constructor
    ·intro hz
     obtain⟨v,hv,e⟩:=hr.gone.live _ hz
     exact absurd (show v.k=aJ S.X by exact Int.ofNat.inj e) (hI.fresh.idx _ (get_mem hv))
    intro h
    rw [hnew] at h
    have h:o.gone=true:=h
    rw [h4] at h;cases h
   refine (hr.gone.y4 u G7).trans ?_
   have:(obj (fw S d name o).O u.k).gone=(obj S.O u.k).gone:=by
     refine Eq.trans (jf (g:=aM.gone) (fun _ _=>rfl) (fun _ _=>rfl) (fun _ _ _=>rfl) (fun _ _=>rfl)) ?_
     rw [gM,if_neg (hI.fresh.idx _ (get_mem G7))]
   rw [this]
  obtain⟨v,hv,e⟩:=hr.gone.live z hz
  exact⟨v,((Ru hI).2.2 v).2 (.inr hv),e⟩
end x
end
section
open Go.RowKit Go.Maps aX aq
section y
variable {S S' S2:aI} {g:List Int} {t u:Th} {d to k i j:Nat} {name toName:ByteArray} {O O':bX} {h need id z:Int} {c:ar} {R:RS} {o:aM} {n:aA}
theorem CC (hr:RelR S g) (hd:Live S.idx ⟨d,2⟩) (name:ByteArray) (hb:¬ (n.kind=3/\iT n.target≠0)):(dQ S.X S.O S.idx d name=0/\bK (toR S g) (posR S ⟨d,2⟩) name n=(sM (toR S g) (posR S ⟨d,2⟩) name n,0))\/(dQ S.X S.O S.idx d name≠0/\bK (toR S g) (posR S ⟨d,2⟩) name n=(toR S g,dQ S.X S.O S.idx d name)):=by
  unfold bK dQ
  rw [if_neg hb]
  rcases j7 hr hd name with ⟨h1,h2⟩|⟨t,h1,h2,-⟩
  ·rw [if_pos h1,if_neg (show ¬ 0<=bn (toR S g).ns (posR S ⟨d,2⟩) name by rw [h2];decide)]
   by_cases h3:Room S.X S.idx
   ·rw [if_pos ((KG hr.inv.toInv0).2 h3),if_pos h3];exact .inl ⟨rfl,rfl⟩
   rw [if_neg (fun q=>h3 ((KG hr.inv.toInv0).1 q)),if_neg h3];exact .inr ⟨by decide,rfl⟩
  grind
theorem KM (hr:RelR S g) (hd:Live S.idx ⟨d,2⟩) (name:ByteArray) (hb:¬ (n.kind=3/\iT n.target≠0)) (ho:o.id=S.X.last+1/\o.sec=S.X.cS/\o.nano=S.X.cZ/\o.gone=false/\o.ah=[]) (hn:n.kind=o.kind/\n.mode=o.mode/\n.uid=o.uid/\n.gid=o.gid/\n.data=o.data/\n.target=o.target/\n.ah=[]) :
    cC ((bK (toR S g) (posR S ⟨d,2⟩) name n).1,0,(bK (toR S g) (posR S ⟨d,2⟩) name n).2) (if dQ S.X S.O S.idx d name=0 then (0,fw S d name o) else (dQ S.X S.O S.idx d name,S)).1 (if dQ S.X S.O S.idx d name=0 then ((0:Int),fw S d name o) else (dQ S.X S.O S.idx d name,S)).2 0:=by
  grind [CC,M5,Live,iT,cC,bK,toR,posR,dQ,fw]
theorem Rv (hr:RelR S g) (c:ar) (hop:c.op=4):cC (match d8 (toR S g) c.handle c.name 192 with|.error e=>(toR S g,0,e)|.ok d=>eO (toR S g) c d) (eP S c).1 (eP S c).2.1 0:=by
  unfold eP
  rw [lW hr]
  rcases iw hr.inv.toInv0 c.handle c.name 192 with ⟨e,h,he⟩|⟨d,h,hd,-⟩
  ·rw [h];exact .bad rfl he
  rw [h]
  simp only
  unfold eO
  rw [if_neg (by omega),if_neg (by omega)]
  by_cases hm:gy c.mode
  ·rw [if_pos hm,if_pos hm,if_neg (by omega)]
   exact KM (o:=cx S.X 2 c.mode) hr hd c.name (fun q=>absurd (show (2:Int)=3 from q.1) (by decide)) ⟨rfl,rfl,rfl,rfl,rfl⟩ ⟨rfl,rfl,rfl,rfl,rfl,rfl,rfl⟩
  grind [cC,d8,toR,eO,eP]
theorem LO (hr:RelR S g) (c:ar) (hop:c.op=6):cC (match d8 (toR S g) c.handle c.name 192 with|.error e=>(toR S g,0,e)|.ok d=>eO (toR S g) c d) (dP S c).1 (dP S c).2.1 0:=by
  unfold dP
  rw [lW hr]
  rcases iw hr.inv.toInv0 c.handle c.name 192 with ⟨e,h,he⟩|⟨d,h,hd,-⟩
  all_goals grind [eO,ia,iT,KM,cx,bK,cC,d8,toR,dP]
theorem W6 (hr:RelR S g) (hd:Live S.idx ⟨d,2⟩) (hl:aL name (obj S.O d).ah=some t):nB name (nd (aE S) (posR S ⟨d,2⟩)).ah 0=(t.k:Int):=by
  have hI:=hr.inv.toInv0
  rw [(kz hI.ix hd).2.2.2.2.2]
  show nB name ((obj S.O d).ah.map (dL S.O)) 0=_
  exact (M4 _ (hI.twice hd) hl).trans (hI.ob _ (hr.inv.ent hd hl).2).1
theorem Rw (hr:RelR S g) (hd:Live S.idx ⟨d,2⟩) (hl:aL name (obj S.O d).ah=some t):(bA (toR S g) (posR S ⟨d,2⟩) name true).gone=if (obj S.O t.k).links - 1=0 then g++[(t.k:Int)] else g:=by
  have hI:=hr.inv.toInv0
  have h2:qy (jO S.X.cS S.X.cZ (aE S) (posR S ⟨d,2⟩) (ol name (nd (aE S) (posR S ⟨d,2⟩)).ah)) (t.k:Int)=(obj S.O t.k).links - 1:=by
    rw [← uO (S:=S) (S':={ S with O:=aH S.X S.O d name t }) hI.ix hd (hr.inv.ne hd hl) rfl (fun _=>rfl)]
    grind [LK,aH]
  grind [qy,jO,aE,posR,ol,nd,nB,W6,obj,Live,aL,bA,toR]
structure aaw (S:aI) (d:Nat) (name:ByteArray) (t:Th) (g':List Int):Prop where
  gone:tC S.idx (aF S d name t).O g'
  idx:(aF S d name t).idx=iE (aF S d name t).O S.idx t
  core:∀ x,Proofs.YtnipofpbcggjcaaGreat.core (obj (aF S d name t).O x)=Proofs.YtnipofpbcggjcaaGreat.core (obj (aH S.X S.O d name t) x)
  opens:∀ x,(obj (aF S d name t).O x).opens=(obj S.O x).opens
  others:∀ x,x≠t.k->(obj (aF S d name t).O x).gone=(obj S.O x).gone
theorem KN (hr:RelR S g) (hd:Live S.idx ⟨d,2⟩) (hl:aL name (obj S.O d).ah=some t):aaw S d name t (bA (toR S g) (posR S ⟨d,2⟩) name true).gone:=by
  have hI:=hr.inv.toInv0
  have hlt:=(hr.inv.ent hd hl).2
  have htd:=hr.inv.ne hd hl
  have hlk:(obj (aH S.X S.O d name t) t.k).links=(obj S.O t.k).links - 1:=by rw [iI htd,if_neg htd,if_pos rfl]
  have hgo:∀ x,(obj (aH S.X S.O d name t) x).gone=(obj S.O x).gone:=fun x=>cA (g:=aM.gone) (fun _ _=>rfl) (fun _ _=>rfl) (fun _ _ _=>rfl)
  have hop:∀ x,(obj (aH S.X S.O d name t) x).opens=(obj S.O x).opens:=fun x=>cA (g:=aM.opens) (fun _ _=>rfl) (fun _ _=>rfl) (fun _ _ _=>rfl)
  rw [Rw hr hd hl]
  by_cases h0:(obj S.O t.k).links - 1=0
  ·have hm:=tK (S:=S) (d:=d) (name:=name) (t:=t) (hlk.trans h0)
   have hO:(aF S d name t).O=pY (aH S.X S.O d name t) t.k:=by rw [hm]
   have hat:∀ x,(obj (pY (aH S.X S.O d name t) t.k) x).gone=if x=t.k then true else (obj S.O x).gone:=fun x=>by
     grind [pY,gM]
   rw [if_pos h0]
   refine⟨⟨fun u hu=>?_,fun z hz=>?_⟩,by rw [hO,hm],fun x=>?_,fun x=>?_,fun x hx=>?_⟩
   ·rw [hO,hat,List.mem_append,List.mem_singleton]
    by_cases hx:u.k=t.k
    ·grind
    rw [if_neg hx,← hr.gone.y4 u hu]
    grind
   ·rcases List.mem_append.1 hz with hz|hz
    ·exact hr.gone.live z hz
    grind
   ·rw [hO];exact cq (g:=Proofs.YtnipofpbcggjcaaGreat.core) (f:=fun o=>{ o with gone:=true }) (fun _=>rfl)
   ·rw [hO];exact Eq.trans (cq (g:=aM.opens) (f:=fun o=>{ o with gone:=true }) (fun _=>rfl)) (hop x)
   rw [hO,hat,if_neg hx]
  have hm:=tL (S:=S) (d:=d) (name:=name) (t:=t) (fun q=>h0 (hlk.symm.trans q))
  have hO:(aF S d name t).O=aH S.X S.O d name t:=by rw [hm]
  rw [if_neg h0]
  refine⟨by rw [hO];exact hr.gone.same hgo,?_,fun x=>by rw [hO],fun x=>by rw [hO];exact hop x,fun x _=>by rw [hO];exact hgo x⟩
  rw [hO,hm]
  unfold iE
  rw [if_neg]
  rintro⟨h1,_⟩
  rw [hgo] at h1
  have h2:=hI.gone t hlt h1
  have h3:=hI.links t hlt
  have h4:=nw (idx:=S.idx) hd hl
  omega
theorem FX (hr:RelR S g) (hu:Live S.idx u) (h:(obj S.O u.k).gone=true):0 < hnd S.us u.k:=by
  have h1:=hr.inv.full u hu h
  rw [hr.inv.opens u hu] at h1;omega
theorem KO (hr:RelR S g) (hd:Live S.idx ⟨d,2⟩) (hl:aL name (obj S.O d).ah=some t) (h1:S2={ aF S d name t with O:=S2.O }) (hc:∀ x,core (obj S2.O x)=core (obj (aF S d name t).O x)) (hgo:∀ x,(obj S2.O x).gone=(obj (aF S d name t).O x).gone) :
    cC (dx (bA (toR S g) (posR S ⟨d,2⟩) name true),0,0) 0 S2 0:=by
  have hI:=hr.inv.toInv0
  have hlt:=(hr.inv.ent hd hl).2
  have M6:=KN hr hd hl
  have hX:S2.X=(aF S d name t).X:=by rw [h1]
  have hsw:=wQ (S1:={ S with O:=aH S.X S.O d name t }) (S2:=S2) (O2:=(aF S d name t).O) (KH:=S.us) (R:=bA (toR S g) (posR S ⟨d,2⟩) name true) (t:=t) hI.ix
    (uO (S:=S) (S':={ S with O:=aH S.X S.O d name t }) hI.ix hd (hr.inv.ne hd hl) rfl (fun _=>rfl)).symm rfl M6.gone hlt
    (fun u hu hne CA=>by
      rw [M6.others u.k (fun e=>hne (fQ hu hlt e))] at CA
      exact FX hr hu CA)
    (by rw [M6.opens];exact hI.opens t hlt)
    (by have h:=congrArg aM.id (M6.core t.k);exact h.trans ((cA (g:=aM.id) (fun _ _=>rfl) (fun _ _=>rfl) (fun _ _ _=>rfl)).trans (hI.ob t hlt).1))
    (by rw [h1];exact M6.idx) (fun x=>(hc x).trans (M6.core x)) hgo
  grind [Live,aL,obj,aF,core,cC,dx,bA,toR,posR]
end y
end
section
open Go.RowKit Go.Maps aX aq
section z
variable {S S' S2:aI} {g:List Int} {t u:Th} {d to k i j:Nat} {name toName:ByteArray} {O O':bX} {h need id z:Int} {c:ar} {R:RS} {o:aM} {n:aA}
theorem Oq (hr:RelR S g) (c:ar) (hop:c.op=5):cC (match d8 (toR S g) c.handle c.name 192 with|.error e=>(toR S g,0,e)|.ok d=>eO (toR S g) c d) (cI S c).1 (cI S c).2.1 (cI S c).2.2.answer:=by
  have hI:=hr.inv.toInv0
  unfold cI
  rw [lW hr]
  rcases iw hI c.handle c.name 192 with ⟨e,h,he⟩|⟨d,h,hd,-⟩
  ·rw [h];exact .bad rfl he
  rw [h]
  simp only
  unfold eO
  rw [if_neg (by omega),if_neg (by omega)]
  by_cases hm:gy c.mode
  rotate_left
  ·grind [cC,d8,toR,eO,cI]
  rw [if_pos hm,if_pos hm,if_pos hop]
  rcases CC (n:=⟨0,1,c.mode,0,0,0,0,[],⟨#[]⟩,[]⟩) hr hd c.name (fun q=>absurd (show (1:Int)=3 from q.1) (by decide)) with ⟨h1,h2⟩|⟨h1,h2⟩
  rotate_left
  ·simp only
   rw [h2,if_neg h1,if_neg h1];exact .bad rfl h1
  simp only
  rw [h2,if_pos h1,if_pos (show (sM (toR S g) (posR S ⟨d,2⟩) c.name ⟨0,1,c.mode,0,0,0,0,[],⟨#[]⟩,[]⟩,(0:Int)).2=0 from rfl)]
  obtain⟨hA,hG⟩:=M5 (name:=c.name) (o:=cx S.X 1 c.mode) (n:=⟨0,1,c.mode,0,0,0,0,[],⟨#[]⟩,[]⟩) hr hd ⟨rfl,rfl,rfl,rfl,rfl⟩ ⟨rfl,rfl,rfl,rfl,rfl,rfl,rfl⟩
  rw [hA]
  obtain⟨S1,hS1⟩:∃ S1,S1=fw S d c.name (cx S.X 1 c.mode):=⟨_,rfl⟩
  rw [← hS1] at hG ⊢
  have hk:=pZ hI
  have htd:aJ S.X≠d:=fun e=>hI.fresh.idx _ (get_mem hd) e.symm
  have hidx:S1.idx=S.idx++[(S.X.last+1,⟨aJ S.X,1⟩)]:=by rw [hS1];exact FW hI
  have hlen:(toR S1 g).ns.length - 1=S.idx.length:=by
    show (aE S1).length - 1=_
    rw [eZ,hidx,List.length_append];rfl
  have hnd:(nd (toR S1 g).ns S.idx.length).id=(aJ S.X:Int):=by
    show (nd (aE S1) S.idx.length).id=_
    rw [lu (by rw [hidx,List.length_append];exact Nat.lt_succ_self _),hk]
    show dS S1 S.idx.length=_
    grind [dS]
  unfold kB
  rw [if_pos h1]
  unfold iF
  have eF:(toR S1 g).us=qi S.us:=by rw [hS1];rfl
  have hcH:(toR S1 g).cH=S.X.cH:=by rw [hS1];rfl
  have hpk:(toR S1 g).av=S.av:=by rw [hS1];rfl
  rw [hlen,hnd,eF,hcH,hpk,Ca,Ba]
  by_cases hc:(S.us.length:Int) < S.X.cH
  rotate_left
  ·grind [cC,d8,toR,eO,cI]
  rw [if_pos hc,if_pos hc]
  have hat:∀ (o:aM) x,obj (bw S.X (aD S.O (aJ S.X) (fun _=>o)) d c.name ⟨aJ S.X,1⟩) x=_:=fun o x=>o4 (X:=S.X) (O:=aD S.O (aJ S.X) (fun _=>o)) (d:=d) (name:=c.name) (t:=⟨aJ S.X,1⟩) (k:=x) htd
  have hO1:S1.O=bw S.X (aD S.O (aJ S.X) (fun _=>cx S.X 1 c.mode)) d c.name ⟨aJ S.X,1⟩:=by rw [hS1];rfl
  have hboth:∀ x,core (obj (bw S.X (aD S.O (aJ S.X) (fun _=>{ cx S.X 1 c.mode with opens:=1 })) d c.name ⟨aJ S.X,1⟩) x)=core (obj S1.O x)/\(obj (bw S.X (aD S.O (aJ S.X) (fun _=>{ cx S.X 1 c.mode with opens:=1 })) d c.name ⟨aJ S.X,1⟩) x).gone=(obj S1.O x).gone:=fun x=>by
    rw [hO1,hat,hat]
    by_cases hx:x=d
    ·grind [gM]
    rw [if_neg hx,if_neg hx]
    by_cases hx2:x=aJ S.X
    ·rw [if_pos hx2,if_pos hx2,gM,gM,if_pos hx2,if_pos hx2];exact⟨rfl,rfl⟩
    grind [gM]
  refine .ok rfl ?_ (MZ (t:=⟨aJ S.X,1⟩)).symm rfl ?_ ?_ rfl
  ·show aE S1=aE _
   grind [y6,fw,ins,aJ,cx]
  ·rw [hS1];exact⟨rfl,rfl,rfl,rfl,rfl,rfl⟩
  rw [hS1] at hG
  exact hG.same (fun x=>by have h:=(hboth x).2;rw [hS1] at h;exact h)
theorem Rx (hr:RelR S g) (hd:Live S.idx ⟨d,2⟩) (name:ByteArray):cC ((fZ (toR S g) (posR S ⟨d,2⟩) name false).1,0,(fZ (toR S g) (posR S ⟨d,2⟩) name false).2) (fH S d name).1 (fH S d name).2 0:=by
  have hI:=hr.inv.toInv0
  unfold fZ fH
  rcases j7 hr hd name with ⟨h1,h2⟩|⟨t,h1,h2,hl,hk,htd⟩
  ·grind [bn,toR,posR,Live,cC,fZ,fH]
  rw [h1,if_pos (show 0<=bn (toR S g).ns (posR S ⟨d,2⟩) name by rw [h2];omega),h2,Int.toNat_natCast]
  simp only
  rw [nD hI hl]
  by_cases h3:t.kind=2
  ·rw [if_pos ⟨trivial,h3⟩,if_pos h3];exact .bad rfl (show (172:Int)≠0 by decide)
  rw [if_neg (fun q=>h3 q.2),if_neg (fun q=>by cases q.1),if_neg (fun q=>by cases q.1),if_neg h3]
  exact KO hr hd h1 rfl (fun _=>rfl) (fun _=>rfl)
theorem Ry (hr:RelR S g) (hd:Live S.idx ⟨d,2⟩) (name:ByteArray):cC ((fZ (toR S g) (posR S ⟨d,2⟩) name true).1,0,(fZ (toR S g) (posR S ⟨d,2⟩) name true).2) (fY S d name).1 (fY S d name).2 0:=by
  have hI:=hr.inv.toInv0
  unfold fZ fY
  rcases j7 hr hd name with ⟨h1,h2⟩|⟨t,h1,h2,hl,hk,htd⟩
  ·grind [bn,toR,posR,Live,cC,fZ,fY]
  rw [h1,if_pos (show 0<=bn (toR S g).ns (posR S ⟨d,2⟩) name by rw [h2];omega),h2,Int.toNat_natCast]
  simp only
  rw [nD hI hl,if_neg (fun q=>by cases q.1)]
  by_cases h3:t.kind=2
  rotate_left
  ·rw [if_pos ⟨trivial,h3⟩,if_neg h3];exact .bad rfl (show (173:Int)≠0 by decide)
  rw [if_neg (fun q=>q.2 h3),if_pos h3]
  have hel:(gF S.O (t.k:Int) t).ah.length=(obj S.O t.k).ah.length:=List.length_map ..
  rw [hel]
  by_cases h4:(obj S.O t.k).ah=[]
  ·rw [if_neg (by rw [h4];exact fun q=>absurd q.2 (by decide)),if_pos h4]
   exact KO hr hd h1 (S2:={ aF S d name t with O:=orphan (aF S d name t).O t.k }) rfl (fun x=>cq (g:=core) (f:=fun o=>{ o with up:=none }) (fun _=>rfl)) (fun x=>cq (g:=aM.gone) (f:=fun o=>{ o with up:=none }) (fun _=>rfl))
  rw [if_pos ⟨trivial,List.length_pos_iff.2 h4⟩,if_neg h4];exact .bad rfl (show (178:Int)≠0 by decide)
theorem Ot (hr:RelR S g) (c:ar) (hop:c.op=8):cC (match d8 (toR S g) c.handle c.name 192 with|.error e=>(toR S g,0,e)|.ok d=>eO (toR S g) c d) (fo S c).1 (fo S c).2.1 0:=by
  unfold fo
  rw [lW hr]
  rcases iw hr.inv.toInv0 c.handle c.name 192 with ⟨e,h,he⟩|⟨d,h,hd,-⟩
  ·rw [h];exact .bad rfl he
  rw [h]
  simp only
  unfold eO
  rw [if_pos (.inl hop),show decide (c.op=14)=false from decide_eq_false (by omega)]
  exact Rx hr hd c.name
theorem Rz (hr:RelR S g) (c:ar) (hop:c.op=14):cC (match d8 (toR S g) c.handle c.name 192 with|.error e=>(toR S g,0,e)|.ok d=>eO (toR S g) c d) (fX S c).1 (fX S c).2.1 0:=by
  unfold fX
  rw [lW hr]
  rcases iw hr.inv.toInv0 c.handle c.name 192 with ⟨e,h,he⟩|⟨d,h,hd,-⟩
  ·rw [h];exact .bad rfl he
  grind [eO,Ry]
end z
end
section
open Go.RowKit Go.Maps aX aq
theorem CD {α:Type} {p q:α->Bool} (h:∀ x,p x=true->q x=true):∀ {l:List α} {a:α},a∈l->q a=true->p a=false->l.countP p < l.countP q
  | b::r,a,ha,hq,hp=>by
    rw [List.countP_cons,List.countP_cons]
    have hm:r.countP p<=r.countP q:=List.countP_mono_left (fun x _ hx=>h x hx)
    rcases List.mem_cons.1 ha with rfl|ha
    ·rw [if_pos hq,if_neg (by rw [hp];decide)];omega
    have:=CD h ha hq hp
    by_cases hb:p b=true
    ·rw [if_pos hb,if_pos (h b hb)];omega
    rw [if_neg hb];omega
theorem KP {ns:List aA} {id:Int}:∀ n,(∀ i,i < n->¬ 0 < fq (nd ns i).ah id (nd ns i).ah.length)->kF ns id n = -1
  | 0,_=>rfl
  | n+1,h=>by
    unfold kF
    rw [if_neg (h n (Nat.lt_succ_self n))];exact KP n (fun i hi=>h i (by omega))
theorem KQ {ns:List aA} {id:Int} {z:Nat} (hp:0 < fq (nd ns z).ah id (nd ns z).ah.length):∀ n,z < n->(∀ i,i < n->0 < fq (nd ns i).ah id (nd ns i).ah.length->i=z)->kF ns id n=(z:Int)
  | n+1,hz,hu=>by
    unfold kF
    by_cases h:0 < fq (nd ns n).ah id (nd ns n).ah.length
    ·rw [if_pos h,hu n (Nat.lt_succ_self n) h]
    rw [if_neg h]
    exact KQ hp n (by rcases Nat.lt_succ_iff_lt_or_eq.1 hz with q|q;exact q;rw [q] at hp;exact absurd hp h) (fun i hi=>hu i (by omega))
section q
variable {S S' S2:aI} {g:List Int} {t u:Th} {d to k i j:Nat} {name toName:ByteArray} {O O':bX} {h need id z:Int} {c:ar} {R:RS} {o:aM} {n:aA}
theorem M7 (hI:Inv0 S) (hi:i < S.idx.length):0 < fq (nd (aE S) i).ah (k:Int) (nd (aE S) i).ah.length↔∃ e∈(obj S.O (fO S i).k).ah,e.2.k=k:=by
  have hl:=(BZ hI.ix hi).1
  rw [lu hi]
  show 0 < fq ((obj S.O (fO S i).k).ah.map (dL S.O)) _ ((obj S.O (fO S i).k).ah.map (dL S.O)).length↔_
  rw [List.length_map,y9 (fun e he=>(hI.ob _ (hI.ah _ hl e he).2).1) _ (Nat.le_refl _),List.take_length,List.countP_pos_iff]
  grind
theorem Zg (hI:Inv0 S) (hu:Live S.idx u) (h2:u.kind=2):kF (aE S) (u.k:Int) (aE S).length=match (obj S.O u.k).up with|none=>-1|some j=>(posR S ⟨j,2⟩:Int):=by
  have key:∀ i,i < S.idx.length->0 < fq (nd (aE S) i).ah (u.k:Int) (nd (aE S) i).ah.length->(obj S.O u.k).up=some (fO S i).k/\fO S i=⟨(fO S i).k,2⟩:=fun i hi hp=>by
    obtain⟨e,he,hek⟩:=(M7 hI hi).1 hp
    have hl:=(BZ hI.ix hi).1
    have hk2:(fO S i).kind=2:=by
      apply Classical.byContradiction
      intro hn
      have h3:=(hI.mt _ hl).ah (by rw [(hI.ob _ hl).2.1];exact hn)
      rw [h3] at he;cases he
    have ht:fO S i=⟨(fO S i).k,2⟩:=by rw [← hk2]
    have heu:e.2=u:=fQ (hI.ah _ hl e he).2 hu hek
    refine⟨(hI.up u hu _).2 ⟨h2,by rw [← ht];exact hl,e.1,?_⟩,ht⟩
    exact vA (hI.twice hl) (by rw [← heu];exact he)
  rw [eZ]
  cases e:(obj S.O u.k).up with
  | none=>
    grind [KP]
  | some j=>
    obtain⟨_,hj,nm,hnm⟩:=(hI.up u hu j).1 e
    have hp:=kz hI.ix hj
    refine KQ ((M7 hI hp.2.1).2 ⟨(nm,u),?_,rfl⟩) _ hp.2.1 (fun i hi hq=>?_)
    ·rw [hp.2.2.1];exact nL hnm
    obtain⟨h3,h4⟩:=key i hi hq
    rw [e] at h3
    injection h3 with h3
    refine KC hI.ix hi hp.2.1 ?_
    rw [(BZ hI.ix hi).2,hp.2.2.2.1,← h3]
theorem RA (hI:Inv0 S) (ht:Live S.idx t) (h2:t.kind=2) (hto:Live S.idx ⟨to,2⟩):fU (aE S) (posR S t) ((aE S).length+1) (posR S ⟨to,2⟩)=true↔oz S.O t.k to:=by
  obtain⟨dp,hdp⟩:=hI.deep
  have main:∀ (f d:Nat),Live S.idx ⟨d,2⟩->S.idx.countP (fun p=>decide (dp p.2.k < dp d)) < f->(fU (aE S) (posR S t) f (posR S ⟨d,2⟩)=true↔oz S.O t.k d):=by
    intro f
    induction f with
    | zero=>intro d _ h;omega
    | succ f ih=>
      intro d hd hm
      have hp:=kz hI.ix hd
      unfold fU
      by_cases hdt:posR S ⟨d,2⟩=posR S t
      ·rw [if_pos hdt]
       have:=MY hI.ix hd ht hdt
       rw [← this]
       exact⟨fun _=>.here,fun _=>rfl⟩
      rw [if_neg hdt,hp.2.2.2.2.2]
      show (if kF (aE S) (d:Int) (aE S).length < 0 then false else fU (aE S) (posR S t) f (kF (aE S) (d:Int) (aE S).length).toNat)=true↔_
      have hu:kF (aE S) (d:Int) (aE S).length=_:=Zg hI hd rfl
      have hdk:d≠t.k:=fun e=>hdt (by rw [show (⟨d,2⟩:Th)=t by rw [e,← h2]])
      cases e:(obj S.O d).up with
      | none=>
        rw [show (obj S.O (⟨d,2⟩:Th).k).up=none from e] at hu
        replace hu:kF (aE S) (d:Int) (aE S).length = -1:=hu
        rw [hu,if_pos (by decide)]
        refine⟨fun q=>absurd q (by decide),fun q=>?_⟩
        cases q with
        | here=>exact absurd rfl hdk
        | up h3 _=>rw [e] at h3;cases h3
      | some j=>
        rw [show (obj S.O (⟨d,2⟩:Th).k).up=some j from e] at hu
        replace hu:kF (aE S) (d:Int) (aE S).length=(posR S ⟨j,2⟩:Int):=hu
        obtain⟨_,hj,_⟩:=(hI.up _ hd j).1 e
        have hlt:=hdp d j e
        rw [hu,if_neg (by omega),Int.toNat_natCast,ih j hj (Nat.lt_of_lt_of_le (CD (p:=fun p:Int×Th=>decide (dp p.2.k < dp j)) (q:=fun p=>decide (dp p.2.k < dp d)) (fun x hx=>decide_eq_true (by have:=of_decide_eq_true hx;omega)) (get_mem hj) (decide_eq_true hlt) (decide_eq_false (Nat.lt_irrefl _))) (Nat.lt_succ_iff.1 hm))]
        refine⟨fun q=>.up e q,fun q=>?_⟩
        cases q with
        | here=>exact absurd rfl hdk
        | up h3 h4=>rw [e] at h3;injection h3 with h3;rw [h3];exact h4
  grind [eZ]
end q
end
section
open Go.RowKit Go.Maps aX aq
section j
variable {S S' S2:aI} {g:List Int} {t u:Th} {d to k i j:Nat} {name toName:ByteArray} {O O':bX} {h need id z:Int} {c:ar} {R:RS} {o:Th} {n:aA}
theorem CG {X:FM} {x:Nat}:(obj (aH X O d name t) x).gone=(obj O x).gone:=cA (g:=aM.gone) (fun _ _=>rfl) (fun _ _=>rfl) (fun _ _ _=>rfl)
theorem Bd {X:FM} {x:Nat}:(obj (aH X O d name t) x).opens=(obj O x).opens:=cA (g:=aM.opens) (fun _ _=>rfl) (fun _ _=>rfl) (fun _ _ _=>rfl)
theorem wR {X:FM} {x:Nat}:(obj (aH X O d name t) x).id=(obj O x).id:=cA (g:=aM.id) (fun _ _=>rfl) (fun _ _=>rfl) (fun _ _ _=>rfl)
theorem CH {X:FM} {x:Nat}:(obj (bw X O d name t) x).gone=(obj O x).gone:=jf (g:=aM.gone) (fun _ _=>rfl) (fun _ _=>rfl) (fun _ _ _=>rfl) (fun _ _=>rfl)
theorem Be {X:FM} {x:Nat}:(obj (bw X O d name t) x).opens=(obj O x).opens:=jf (g:=aM.opens) (fun _ _=>rfl) (fun _ _=>rfl) (fun _ _ _=>rfl) (fun _ _=>rfl)
theorem Hy {X:FM} {x:Nat}:(obj (bw X O d name t) x).id=(obj O x).id:=jf (g:=aM.id) (fun _ _=>rfl) (fun _ _=>rfl) (fun _ _ _=>rfl) (fun _ _=>rfl)
theorem Ux (hr:RelR S g) (hd:Live S.idx ⟨d,2⟩) (hl:aL name (obj S.O d).ah=some t):(obj S.O t.k).gone≠true:=fun h=>by
  have hI:=hr.inv.toInv0
  have hlt:=(hr.inv.ent hd hl).2
  have h2:=hI.gone t hlt h
  have h3:=hI.links t hlt
  have h4:=nw (idx:=S.idx) hd hl
  omega
theorem CI (R:RS) (d:Nat) (name:ByteArray):(bA R d name false).gone=R.gone:=by
  grind [bA]
theorem M8 {S1:aI} (hx:mz S.idx) (hi:S1.idx=S.idx) (hX:S1.X.cS=S.X.cS/\S1.X.cZ=S.X.cZ) (hns:R.ns=aE S1) (hRs:R.cS=S.X.cS/\R.cZ=S.X.cZ) (hd:Live S.idx ⟨d,2⟩) (hto:Live S.idx ⟨to,2⟩) (htd:t.k≠d) (Hw:t.k≠to) (hid:(obj S1.O t.k).id=(t.k:Int))
    (hi2:S2.idx=S.idx) (hO:S2.O=bw S1.X (aH S1.X S1.O d name t) to toName t) :
    (bD (bA R (posR S ⟨d,2⟩) name false) (posR S ⟨to,2⟩) toName (t.k:Int)).ns=aE S2:=by
  have hx1:mz S1.idx:=by rw [hi];exact hx
  have hd1:Live S1.idx ⟨d,2⟩:=by rw [hi];exact hd
  have kP:Live S1.idx ⟨to,2⟩:=by rw [hi];exact hto
  have hl:=uO (S:=S1) (S':={ S1 with O:=aH S1.X S1.O d name t }) (name:=name) hx1 hd1 htd rfl (fun _=>rfl)
  have he:=y8 (S:={ S1 with O:=aH S1.X S1.O d name t }) (S':={ S1 with O:=bw S1.X (aH S1.X S1.O d name t) to toName t }) (name:=toName) (id:=(t.k:Int)) hx1 kP Hw (wR.trans hid) rfl
  grind [aE,bw,aH,posR,Uv,jO,ji,nd,Live,obj,bD,bA]
theorem RG (hr:RelR S g) (hd:Live S.idx ⟨d,2⟩) (hl:aL name (obj S.O d).ah=some t) (hto:Live S.idx ⟨to,2⟩) (Hw:t.k≠to) :
    cC (dx (bD (bA (toR S g) (posR S ⟨d,2⟩) name false) (posR S ⟨to,2⟩) toName (t.k:Int)),0,0) 0 (lH S d name to toName t) 0:=by
  have hI:=hr.inv.toInv0
  have hlt:=(hr.inv.ent hd hl).2
  have htd:=hr.inv.ne hd hl
  obtain⟨S2,qg⟩:∃ S2,S2=lH S d name to toName t:=⟨_,rfl⟩
  have hi2:S2.idx=S.idx:=by rw [qg];rfl
  have EN:S2.O=bw S.X (aH S.X S.O d name t) to toName t:=by rw [qg];rfl
  have hgo:∀ x,(obj S2.O x).gone=(obj S.O x).gone:=fun x=>by rw [EN];exact CH.trans CG
  have hns:(bD (bA (toR S g) (posR S ⟨d,2⟩) name false) (posR S ⟨to,2⟩) toName (t.k:Int)).ns=aE S2:=M8 (S1:=S) hI.ix rfl ⟨rfl,rfl⟩ rfl ⟨rfl,rfl⟩ hd hto htd Hw (hI.ob t hlt).1 hi2 EN
  have j3:(bD (bA (toR S g) (posR S ⟨d,2⟩) name false) (posR S ⟨to,2⟩) toName (t.k:Int)).gone=g:=CI (toR S g) (posR S ⟨d,2⟩) name
  have hsw:=wQ (S1:=S2) (S2:=S2) (O2:=S2.O) (KH:=S.us) (R:=bD (bA (toR S g) (posR S ⟨d,2⟩) name false) (posR S ⟨to,2⟩) toName (t.k:Int)) (t:=t) (by rw [hi2];exact hI.ix) hns rfl
    (by rw [j3,hi2];exact hr.gone.same hgo) (by rw [hi2];exact hlt)
    (fun u hu _ CA=>by rw [hi2] at hu;rw [hgo] at CA;exact FX hr hu CA)
    (by rw [EN,Be,Bd];exact hI.opens t hlt) (by rw [EN,Hy,wR];exact (hI.ob t hlt).1)
    (by unfold iE;rw [if_neg];exact fun q=>Ux hr hd hl ((hgo _).symm.trans q.1)) (fun _=>rfl) (fun _=>rfl)
  grind [Live,aL,obj,cC,dx,bD,bA,toR,posR,lH]
theorem Ou {idx:Used Th} (h1:(obj O' o.k).gone=(obj O o.k).gone) (h2:(obj O' o.k).opens=(obj O o.k).opens) (h3:(obj O' o.k).id=(obj O o.k).id):iE O' idx o=iE O idx o:=by
  grind [qE,iE]
theorem RH (hr:RelR S g) (hd:Live S.idx ⟨d,2⟩) (hl:aL name (obj S.O d).ah=some t) (hto:Live S.idx ⟨to,2⟩) (Hw:t.k≠to) (ho:aL toName (obj S.O to).ah=some o) :
    cC (dx (bD (bA (bA (toR S g) (posR S ⟨to,2⟩) toName true) (posR S ⟨d,2⟩) name false) (posR S ⟨to,2⟩) toName (t.k:Int)),0,0) 0 (lH (aF S to toName o) d name to toName t) 0:=by
  have hI:=hr.inv.toInv0
  have hlt:=(hr.inv.ent hd hl).2
  have hlo:=(hr.inv.ent hto ho).2
  have htd:=hr.inv.ne hd hl
  obtain⟨e1,e2,e3,e4,e5⟩:=KN hr hto ho
  obtain⟨D,hD⟩:∃ D,D=aF S to toName o:=⟨_,rfl⟩
  rw [← hD] at e1 e2 e3 e4 e5 ⊢
  obtain⟨g1,hg1⟩:∃ g1,g1=(bA (toR S g) (posR S ⟨to,2⟩) toName true).gone:=⟨_,rfl⟩
  rw [← hg1] at e1
  have hDX:D.X.cS=S.X.cS/\D.X.cZ=S.X.cZ:=by rw [hD];exact⟨rfl,rfl⟩
  obtain⟨R,hR⟩:∃ R,R=bD (bA (bA (toR S g) (posR S ⟨to,2⟩) toName true) (posR S ⟨d,2⟩) name false) (posR S ⟨to,2⟩) toName (t.k:Int):=⟨_,rfl⟩
  obtain⟨S2,qg⟩:∃ S2,S2=lH D d name to toName t:=⟨_,rfl⟩
  have EN:S2.O=bw D.X (aH D.X D.O d name t) to toName t:=by rw [qg];rfl
  have hi2:S2.idx=D.idx:=by rw [qg];rfl
  have hgo:∀ x,(obj S2.O x).gone=(obj D.O x).gone:=fun x=>by rw [EN];exact CH.trans CG
  have hop:∀ x,(obj S2.O x).opens=(obj S.O x).opens:=fun x=>by rw [EN];exact (Be.trans Bd).trans (e4 x)
  have Zh:∀ x,(obj D.O x).id=(obj S.O x).id:=fun x=>by
    have h:=congrArg aM.id (e3 x)
    have h:(obj D.O x).id=(obj (aH S.X S.O to toName o) x).id:=h
    exact h.trans wR
  have hid:∀ x,(obj S2.O x).id=(obj D.O x).id:=fun x=>by rw [EN];exact Hy.trans wR
  have hn1:(bA (toR S g) (posR S ⟨to,2⟩) toName true).ns=aE { S with O:=D.O,X:=D.X }:=
    (uO (S:=S) (S':={ S with O:=D.O,X:=D.X }) hI.ix hto (hr.inv.ne hto ho) rfl e3).symm
  have hns:R.ns=aE { S2 with idx:=S.idx }:=by
    rw [hR]
    exact M8 (S:=S) (S1:={ S with O:=D.O,X:=D.X }) (S2:={ S2 with idx:=S.idx }) hI.ix rfl hDX hn1 ⟨rfl,rfl⟩ hd hto htd Hw ((Zh _).trans (hI.ob t hlt).1) rfl EN
  have j3:R.gone=g1:=by rw [hR,hg1];exact CI (bA (toR S g) (posR S ⟨to,2⟩) toName true) (posR S ⟨d,2⟩) name
  have hsw:=wQ (S1:={ S2 with idx:=S.idx }) (S2:=S2) (O2:=S2.O) (KH:=S.us) (R:=R) (t:=o) hI.ix hns (by rw [hR];rfl)
    (by rw [j3];exact e1.same hgo) hlo
    (fun u hu hne CA=>by
      rw [hgo,e5 u.k (fun e=>hne (fQ hu hlo e))] at CA
      exact FX hr hu CA)
    (by rw [hop];exact hI.opens o hlo) (by rw [hid,Zh];exact (hI.ob o hlo).1)
    (by
      rw [hi2,e2]
      exact (Ou (hgo _) ((hop _).trans (e4 _).symm) (hid _)).symm) (fun _=>rfl) (fun _=>rfl)
  grind [Live,aL,obj,cC,dx,bD,bA,toR,posR,lH,aF]
theorem RI (hr:RelR S g) (hd:Live S.idx ⟨d,2⟩) (hto:Live S.idx ⟨to,2⟩) (name toName:ByteArray):cC ((eW (toR S g) (posR S ⟨d,2⟩) name (posR S ⟨to,2⟩) toName).1,0,(eW (toR S g) (posR S ⟨d,2⟩) name (posR S ⟨to,2⟩) toName).2) (bG S d name to toName).1 (bG S d name to toName).2 0:=by
  have hI:=hr.inv.toInv0
  unfold eW bG
  rcases j7 hr hd name with ⟨h1,h2⟩|⟨t,h1,h2,hl,hk,htd⟩
  ·grind [bn,toR,posR,Live,cC,eW,bG]
  rw [h1,if_pos (show 0<=bn (toR S g).ns (posR S ⟨d,2⟩) name by rw [h2];omega),h2,Int.toNat_natCast]
  simp only
  rw [nD hI hl]
  have hb:t.kind=2->(fU (toR S g).ns (posR S t) ((toR S g).ns.length+1) (posR S ⟨to,2⟩)=true↔oz S.O t.k to):=fun q=>RA hI hl q hto
  simp only [show (gF S.O (t.k:Int) t).kind=t.kind from rfl,show (gF S.O (t.k:Int) t).id=(t.k:Int) from rfl]
  by_cases h3:t.kind=2/\oz S.O t.k to
  ·grind [fU,toR,posR,Live,cC,eW,bG]
  rw [if_neg (show ¬ (t.kind=2/\fU (toR S g).ns (posR S t) ((toR S g).ns.length+1) (posR S ⟨to,2⟩)=true) from fun q=>h3 ⟨q.1,(hb q.1).1 q.2⟩),if_neg h3]
  have Hw:t.k≠to:=fun e=>by
    have h4:t=⟨to,2⟩:=fQ hl hto e
    exact h3 ⟨by rw [h4],by rw [e];exact .here⟩
  rcases j7 hr hto toName with ⟨h4,h5⟩|⟨o,h4,h5,hlo,hko,hot⟩
  ·grind [bn,toR,posR,RG]
  rw [h4,h5]
  simp only
  by_cases h6:o=t
  ·rw [if_pos (by rw [h6]),if_pos h6];exact .same hr rfl
  rw [if_neg (fun q=>h6 (MY hI.ix hlo hl (by omega))),if_neg h6,if_pos (by omega),Int.toNat_natCast,nD hI hlo]
  grind [gF,RH,Live,cC,eW,toR,posR,bG]
theorem Ov (hr:RelR S g) (c:ar):cC (match mI (toR S g) c 192 with|.error e=>(toR S g,0,e)|.ok (f,to)=>((eW (toR S g) f c.name to c.text).1,0,(eW (toR S g) f c.name to c.text).2)) (eE S c).1 (eE S c).2.1 0:=by
  unfold mI eE
  rw [lW hr,lW hr]
  rcases iw hr.inv.toInv0 c.handle c.name 192 with ⟨e,h,he⟩|⟨d,h,hd,-⟩
  ·rw [h];exact .bad rfl he
  rw [h]
  simp only
  rcases iw hr.inv.toInv0 c.other c.text 192 with ⟨e,h,he⟩|⟨to,h,hto,-⟩
  ·rw [h];exact .bad rfl he
  grind [RI]
end j
end
section
open Go.RowKit Go.Maps aX aq
section g
variable {S S' S2:aI} {g:List Int} {t u:Th} {d to k i j:Nat} {c:ar}
theorem cC.an {a:sO} {code an an':Int} (h:cC a code S' an) (h2:code=0->an=an'):cC a code S' an':=⟨h.1,fun q=>by obtain⟨g',h3,h4,h5⟩:=h.2 q;exact⟨g',h3,h4,h5.trans (h2 q)⟩⟩
theorem Uy (h:(ck S t).2.1≠0):(ck S t).1=0:=by
  grind [jD,kS]
def Told (c:ar) (m:qh):Prop:=m.2.2={ c with answer:=m.2.2.answer }/\(m.1≠0->m.2.2.answer=c.answer)
theorem Told.plain {m:qh} (h:m.2.2=c):Told c m:=⟨by rw [h],fun _=>by rw [h]⟩
theorem Bf (h0:c.answer=0):Told c ((ck S t).2.1,(ck S t).2.2,{ c with answer:=(ck S t).1 }):=⟨rfl,fun h=>Eq.trans (Uy (S:=S) (t:=t) h) h0.symm⟩
theorem RJ (h0:c.answer=0):Told c (iu S c):=by
  unfold iu
  split
  ·exact .plain rfl
  split
  ·exact Bf h0
  exact .plain rfl
theorem Uz (h0:c.answer=0):Told c (dI S c):=by
  unfold dI
  split
  ·exact .plain rfl
  split
  ·exact .plain rfl
  split
  ·exact .plain rfl
  exact Bf h0
theorem RM (h0:c.answer=0):Told c (dg S c):=by
  unfold dg
  split
  ·exact .plain rfl
  split
  ·exact .plain rfl
  split
  ·exact .plain rfl
  exact Bf h0
theorem LP (h0:c.answer=0):Told c (cI S c):=by
  unfold cI
  split
  ·exact .plain rfl
  split
  ·split
   all_goals grind [kB,Told,cI]
  exact .plain rfl
theorem Ow (h0:c.answer=0):Told c (dW S c):=by
  unfold dW
  split
  ·exact .plain rfl
  split
  all_goals grind [fS,Told,dW]
theorem RN (hr:RelR S g) (c:ar) (hop:¬ (c.op=11\/c.op=12)):cC (aS (toR S g) c) (eM S (c0 c)).1 (eM S (c0 c)).2.1 (eM S (c0 c)).2.2.answer/\Told (c0 c) (eM S (c0 c)):=by
  have plain:∀ {a:sO} {m:qh},m.2.2=c0 c->cC a m.1 m.2.1 0->cC a m.1 m.2.1 m.2.2.answer/\Told (c0 c) m:=fun {a m} h1 h2=>⟨h2.an (fun _=>by rw [h1]),.plain h1⟩
  unfold aS
  by_cases h1:c.op=1
  ·rw [if_pos h1,BN (c:=c0 c) h1];exact⟨Ur hr (c0 c),RJ rfl⟩
  rw [if_neg h1]
  by_cases h2:c.op=2
  ·rw [if_pos h2,BO (c:=c0 c) h2];exact⟨LM hr (c0 c),Uz rfl⟩
  rw [if_neg h2]
  by_cases h3:c.op=3
  ·rw [if_pos h3,Eb (c:=c0 c) h3];exact⟨KI hr (c0 c),RM rfl⟩
  rw [if_neg h3]
  by_cases h4:c.op=4\/c.op=5\/c.op=6\/c.op=8\/c.op=14
  ·rw [if_pos h4]
   rcases h4 with h|h|h|h|h
   ·grind [BP,eP,Rv]
   ·rw [Ec (c:=c0 c) h];exact⟨Oq hr (c0 c) h,LP rfl⟩
   ·grind [Ed,dP,LO]
   ·grind [Ef,fo,Ot]
   grind [AF,fX,Rz]
  rw [if_neg h4]
  by_cases h7:c.op=7
  ·grind [Ee,bS,Uw]
  rw [if_neg h7]
  by_cases h9:c.op=9
  ·rw [if_pos h9,Eg (c:=c0 c) h9]
   exact⟨(Uu hr (c0 c)).an (fun q=>if_pos q),Ow rfl⟩
  rw [if_neg h9]
  by_cases h10:c.op=10
  ·grind [Ay,br,Ut]
  rw [if_neg h10]
  by_cases qf:c.op=13
  ·grind [AB,fT,Rq]
  rw [if_neg qf]
  by_cases IW:c.op=15
  ·grind [AJ,eE,Ov]
  grind [eM,cC,aS,toR,Told]
theorem UA (hr:RelR S g) (c:ar):∃ g',p4 (toR S g) c=(toR (dG S c).1 g',(dG S c).2)/\RelR (dG S c).1 g':=by
  unfold p4
  by_cases hop:c.op=11\/c.op=12
  ·rw [if_pos hop,Us hr c hop];exact⟨g,rfl,hr⟩
  rw [if_neg hop]
  obtain⟨h1,h2,h3⟩:=RN hr c hop
  by_cases h0:(eM S (c0 c)).1=0
  ·rw [if_pos (h1.1.trans h0)]
   obtain⟨g',e1,e2,e3⟩:=h1.2 h0
   refine⟨g',?_,hr.inv.dG c,e2⟩
   grind [toR,eM,p4,dG]
  rw [if_neg (fun q=>h0 (h1.1.symm.trans q))]
  have hS:(dG S c).1=S:=WH (c:=c) h0
  refine⟨g,?_,by rw [hS];exact hr⟩
  rw [hS,h1.1]
  grind [eM,p4,toR,dG]
end g
end
section
open Go.RowKit Go.Maps aX aq
section g
variable {R:RS} {d k to f:Nat} {name toName:ByteArray} {n:aA} {c:ar} {b:Bool} {id:Int}
def GL (R:RS):Prop:=R.gone.length<=4096
theorem Dx (h:R.ns.length<=4096):GL (dx R):=by
  grind [GL,dx]
theorem EO:(bA R d name b).ns.length=R.ns.length:=List.length_set ..
theorem Ox:(bD R d name id).ns.length=R.ns.length:=List.length_set ..
theorem FY (h:GL R):GL (iF R k).1:=by unfold iF;split<;>exact h
theorem W7 {bs:List UInt8} (h:GL R):GL (lK R k bs).1:=by unfold lK;(repeat' split)<;>exact h
theorem UB (h:GL R):GL (bK R d name n).1:=by unfold bK;(repeat' split)<;>exact h
theorem UC (h:GL R) (hn:R.ns.length<=4096):GL (fZ R d name b).1:=by
  grind [fZ,Dx,EO]
theorem UD (h:GL R) (hn:R.ns.length<=4096):GL (eW R f name to toName).1:=by
  grind [eW,Dx,Ox,EO]
theorem KR {w:Int} (h:GL R):GL (fN R c w).1:=by
  grind [fN,FY]
theorem RO (h:GL R) (hn:R.ns.length<=4096):GL (eO R c d).1:=by
  grind [eO,UC,UB,FY]
theorem UE (h:GL R) (hn:R.ns.length<=4096):GL (aS R c).1:=by
  unfold aS
  split
  ·grind [FY]
  split
  ·exact KR h
  split
  ·exact KR h
  split
  ·split
   ·exact h
   exact RO h hn
  split
  ·unfold rO
   (repeat' split)<;>exact h
  grind [W7,jg,Dx,UD,GL,aS]
theorem W8 (h:GL R) (hn:R.ns.length<=4096):GL (p4 R c).1:=by
  grind [p4,UE,GL]
end g
end
section
open Go.RowKit Go.Maps aX aq
section b
variable {S:aI} {g:List Int}
theorem aax (hr:RelR S g) (hg:g.length<=4096):RC (toR S g):=by
  have hI:=hr.inv.toInv0
  have hlen:(toR S g).ns.length=S.idx.length:=eZ
  have eF:(toR S g).us.length=S.us.length:=Ca
  have hk:keys (toR S g).us=keys S.us:=y5
  have h1:=hI.len
  have h2:=hI.Al
  have h3:=hI.cH
  have h4:=hI.cN
  have h5:=hI.cB
  have h6:=hI.last
  have h7:=hI.av
  refine⟨⟨by omega,by show g.length<=8200;omega,by omega,?_,?_⟩,KA hI.ix,fun id hid=>?_,fun i hi=>?_,⟨h4.1,h4.2,h5.1,h5.2,h3.1,h3.2,h6.1,h6.2,h7.1,h7.2⟩,by rw [hk];exact hI.usr,fun z hz=>(hI.tM z (by rw [← hk];exact hz)).1,by rw [eF];exact h2⟩
  ·have h8:=Dw (g:=g) hI
   have h9:=hI.total.2
   omega
  ·have h8:=Du (g:=g) hI
   have h9:=hI.used.2
   omega
  ·have hid:id∈(qi S.us).map Prod.snd:=hid
   obtain⟨p,hp,rfl⟩:=List.mem_map.1 hid
   obtain⟨q,hq,rfl⟩:=List.mem_map.1 hp
   have hl:=(hr.inv.us q.1 q.2 (kD hI.usr hq)).1
   show 0<=fP (aE S) (q.2.k:Int)
   rw [(kz hI.ix hl).2.2.2.2.1];omega
  rw [hlen] at hi
  rw [show nd (toR S g).ns i=gF S.O (dS S i) (fO S i) from lu hi]
  exact (hI.ob _ (BZ hI.ix hi).1).2.2
end b
end
section
open Go.RowKit Go.Maps aX aq
theorem Hz {X:FM} {ns:List aA} {S:aI} (h:iJ X ns ns.length 0 S) (hok:aV ns):RelR S []/\toR S []=⟨ns,[],[],0,X.cN,X.cB,X.cH,X.cS,X.cZ,ny ns ns.length⟩:=by
  refine⟨⟨h.full,⟨fun t ht=>?_,fun z hz=>by cases hz⟩⟩,?_⟩
  ·obtain⟨a,ha,e⟩:=h.of ht
   obtain⟨l,u,h1⟩:=h.ob a ha
   have hk:t.k=gA (nd ns a):=by rw [e];rfl
   rw [hk,h1]
   exact Iff.intro (fun q=>absurd q (List.not_mem_nil)) (fun q=>absurd (show false=true from q) (by decide))
  unfold toR
  rw [h.graph hok,h.us,h.av,h.cap];rfl
end
section
open Go.RowKit
section
variable {O:bX} {k:Nat} {kd:Int}
theorem ug (L:HL) (h:(obj O k).kind=kd) (h0:kd≠0:=by decide):∀ F w,(aG (cF O L)).h F w->w.cell? ⟨L.b k,0,none⟩=some (.int .i64 (obj O k).id):=fD (by rw [h];exact h0) rfl
theorem vV (L:HL) (h:(obj O k).kind=kd) (h0:kd≠0:=by decide):∀ F w,(aG (cF O L)).h F w->w.cell? ⟨L.b k,1,none⟩=some (.int .i64 (obj O k).mode):=fD (by rw [h];exact h0) rfl
theorem Cb (L:HL) (h:(obj O k).kind=kd) (h0:kd≠0:=by decide):∀ F w,(aG (cF O L)).h F w->w.cell? ⟨L.b k,2,none⟩=some (.int .i64 (obj O k).uid):=fD (by rw [h];exact h0) rfl
theorem Cc (L:HL) (h:(obj O k).kind=kd) (h0:kd≠0:=by decide):∀ F w,(aG (cF O L)).h F w->w.cell? ⟨L.b k,3,none⟩=some (.int .i64 (obj O k).gid):=fD (by rw [h];exact h0) rfl
theorem qd (L:HL) (h:(obj O k).kind=kd) (h0:kd≠0:=by decide):∀ F w,(aG (cF O L)).h F w->w.cell? ⟨L.b k,6,none⟩=some (.int .i64 (obj O k).links):=fD (by rw [h];exact h0) rfl
theorem lX (L:HL) (h:(obj O k).kind=kd) (h0:kd≠0:=by decide):∀ F w,(aG (cF O L)).h F w->w.cell? ⟨L.b k,7,none⟩=some (.int .i64 (obj O k).opens):=fD (by rw [h];exact h0) rfl
theorem rS (L:HL) (h:(obj O k).kind=kd) (h0:kd≠0:=by decide):∀ F w,(aG (cF O L)).h F w->w.cell? ⟨L.b k,8,none⟩=some (.bool (obj O k).gone):=fD (by rw [h];exact h0) rfl
theorem KS (L:HL) (h:(obj O k).kind=1):∀ F w,(aG (cF O L)).h F w->w.cell? ⟨L.b k,9,none⟩=some (.slice (L.dA k) (obj O k).data.length (L.dC k)):=fD (by rw [h];decide) (by rw [jB h];rfl)
theorem bQ (L:HL) (h:(obj O k).kind=2):∀ F w,(aG (cF O L)).h F w->w.cell? ⟨L.b k,9,none⟩=some (.map (some (L.m k))):=fD (by rw [h];decide) (by rw [nW h];rfl)
theorem abD (L:HL) (h:(obj O k).kind=2):∀ F w,(aG (cF O L)).h F w->w.cell? ⟨L.b k,10,none⟩=some (DX L (obj O k).up):=fD (by rw [h];decide) (by rw [nW h];rfl)
theorem aay (L:HL) (h:(obj O k).kind=3):∀ F w,(aG (cF O L)).h F w->w.cell? ⟨L.b k,9,none⟩=some (.string (obj O k).target):=fD (by rw [h];decide) (by rw [Ab h];rfl)
end
end
section
open Go.RowKit Go.Maps
theorem aG.step {R R':Nat->cO} {k:Nat} {F:Fp} {w w':World} (hF:(aG R).h F w) (hR:∀ x,x≠k->R' x=R x) (hs:∀ G,(R k).h G w->∃ G',(R' k).h G' w'/\Step G w G' w'):∃ F',(aG R').h F' w'/\Step F w F' w':=by
  obtain⟨φ,h1,h2,h3⟩:=hF
  obtain⟨G',g1,st⟩:=hs _ (h1 k)
  have hap:∀ i,i≠k->∀ x,G' x->φ i x->False:=fun i hne x hx hy=>by
    rcases st.grow x hx with e|e
    ·exact h2 i k hne x hy e
    have:=(R i).lt (h1 i) x hy;omega
  refine⟨fun x=>∃ i,(if i=k then G' else φ i) x,⟨fun i=>if i=k then G' else φ i,fun i=>?_,fun i j hne x hx hy=>?_,fun x=>Iff.rfl⟩,⟨st.keeps.mono (fun x _ hx=>(h3 x).2 ⟨k,hx⟩),fun x ⟨i,hx⟩=>?_⟩⟩
  ·by_cases e:i=k
   ·subst e;simp only [if_true];exact g1
   simp only [e,if_false]
   rw [hR i e]
   exact (R i).st (h1 i) st.keeps (fun x hx hk=>h2 i k e x hx hk)
  ·by_cases e1:i=k
   ·grind
   simp only [e1,if_false] at hx
   by_cases e2:j=k
   ·grind
   simp only [e2,if_false] at hy
   exact h2 i j hne x hx hy
  by_cases e:i=k
  ·simp only [e,if_true] at hx
   rcases st.grow x hx with h|h
   ·exact .inl ((h3 x).2 ⟨k,h⟩)
   exact .inr h
  grind
def FZ (O:bX) (L:HL):Nat->HP
  | 0=>.abs (aG (cF O L))
  | 1=>.abs (aG (dM O L))
  | _=>.abs (aG (bV O L))
def sS (O:bX) (L:HL):List (Nat×Nat)->List (Nat×HP)
  | []=>[]
  | q::r=>(q.1,FZ O L q.2)::sS O L r
def wS (hps:List HP) (O:bX) (L:HL):List (Nat×Nat)->Prop
  | []=>True
  | q::r=>hps[q.1]?=some (FZ O L q.2)/\wS hps O L r
theorem xU {hps:List HP} {O O2:bX} {L:HL} {p:Nat} (he:∀ q,q≠p->FZ O2 L q=FZ O L q):∀ {js:List (Nat×Nat)},wS hps O L js->jh p (js.map (·.2))=false->pQ hps (sS O2 L js)=hps
  | [],_,_=>rfl
  | q::r,h,hn=>by
    have hq:q.2≠p:=fun e=>by
      rw [show jh p ((q::r).map (·.2))=true from jl.2 (by simp [e])] at hn;cases hn
    have hr:jh p (r.map (·.2))=false:=by
      cases hb:jh p (r.map (·.2)) with
      | false=>rfl
      | true=>rw [show jh p ((q::r).map (·.2))=true from jl.2 (List.mem_cons_of_mem _ (jl.1 hb))] at hn;cases hn
    show pQ (hps.set q.1 (FZ O2 L q.2)) (sS O2 L r)=hps
    have e:hps.set q.1 (FZ O2 L q.2)=hps:=by
      rw [he _ hq]
      refine List.ext_getElem? (fun n=>?_)
      rw [List.getElem?_set]
      split
      ·rename_i e;subst e
       rw [h.1];split
       ·rfl
       rename_i hlt;exact absurd (bR h.1) hlt
      rfl
    rw [e]
    exact xU he h.2 hr
def EP (P:Program) (N:dm) (junk:Nat->Value) (ops:Array Oper) (fr:Fr) (k:Nat):Option (Addr×Value):=
  match fA N junk ops fr k with
  | some (.store T a y,_)=>match (P.info? T).map (·.size) with
    | some 1=>match cQ N fr junk a with
      | .pointer (some ad)=>some (ad,cQ N fr junk y)
      | _=>none
    | _=>none
  | _=>none
def EQ (N:dm) (junk:Nat->Value) (ops:Array Oper) (fr:Fr) (k:Nat):Option (TypeId×Nat×Value):=
  match fA N junk ops fr k with
  | some (.lookup t x ix false,_)=>match cQ N fr junk x with
    | .map (some b)=>some (t,b,cQ N fr junk ix)
    | _=>none
  | _=>none
def setAt (N:dm) (junk:Nat->Value) (ops:Array Oper) (fr:Fr) (k:Nat):Option (TypeId×Nat×Value×Value):=
  match fA N junk ops fr k with
  | some (.mapUpdate t x ix y,_)=>match cQ N fr junk x with
    | .map (some b)=>some (t,b,cQ N fr junk ix,cQ N fr junk y)
    | _=>none
  | _=>none
def Oy (N:dm) (junk:Nat->Value) (ops:Array Oper) (fr:Fr) (k:Nat):Option (TypeId×TypeId×Nat×Value):=
  match fA N junk ops fr k with
  | some (.call ⟨.builtin .delete,xs,ts⟩,_)=>match xs.toList with
    | [x,ix]=>match ts.toList with
      | [t,K]=>match cQ N fr junk x with
        | .map (some b)=>some (t,K,b,cQ N fr junk ix)
        | _=>none
      | _=>none
    | _=>none
  | _=>none
def KT (L:HL):Option Th->Value
  | none=>.nilIface
  | some t=>eV L t
section rules
variable {β:Bs} {N:dm} {ops:Array Oper} {k x:Nat} {fr:Fr} {hps:List HP} {Q:Post} {O:bX} {L:HL} {name:ByteArray} {r:Option Th} {t:Th}
theorem xV {junk:Nat->Value} {op:Op} {d:Option Tmp} (h:fA N junk ops fr k=some (op,d)):d=gG ops k:=by
  grind [fe,gG]
theorem KU {P:Program} {junk:Nat->Value} {ad:Addr} {u:Value} (h:EP P N junk ops fr k=some (ad,u)):∃ T a y,fA N junk ops fr k=some (.store T a y,gG ops k)/\(P.info? T).map (·.size)=some 1/\cQ N fr junk a=.pointer (some ad)/\cQ N fr junk y=u:=by
  grind [EP,xV]
theorem rA {junk:Nat->Value} {T:TypeId} {b:Nat} {key:Value} (h:EQ N junk ops fr k=some (T,b,key)):∃ a y,fA N junk ops fr k=some (.lookup T a y false,gG ops k)/\cQ N fr junk a=.map (some b)/\cQ N fr junk y=key:=by
  grind [EQ,xV]
theorem UF {junk:Nat->Value} {T:TypeId} {b:Nat} {key u:Value} (h:setAt N junk ops fr k=some (T,b,key,u)):∃ a y z,fA N junk ops fr k=some (.mapUpdate T a y z,gG ops k)/\cQ N fr junk a=.map (some b)/\cQ N fr junk y=key/\cQ N fr junk z=u:=by
  grind [setAt,xV]
theorem RP {P:Program} {T:TypeId} {a y:Operand} {o:Oper} {ev:Operand->Value} {w:World} {ad:Addr} {u v0:Value} (ho:o.op=.store T a y) (hT:(P.info? T).map (·.size)=some 1) (ha:ev a=.pointer (some ad)) (hy:ev y=u) (hu:u.oneCell'=true) (hc:w.cell? ad=some v0) (hf:w.frozen? ad=false) (hs:ad.spot=none):oM P ev o w undef (w.setCell ad u):=by
  obtain⟨inf,hi,hsz⟩:∃ inf,P.info? T=some inf/\inf.size=1:=by
    cases h:P.info? T with
    | none=>rw [h] at hT;cases hT
    | some inf=>rw [h] at hT;exact⟨inf,rfl,by simpa using hT⟩
  have h3:=oB hi w
  rw [hsz] at h3
  obtain⟨dst,op,type,pos,after,guard⟩:=o
  obtain⟨bk,off,spot⟩:=ad
  simp only at hs
  subst hs
  cases ho
  refine .inr ⟨rfl,?_⟩
  cases u<;>first
    | (simp [Value.oneCell'] at hu;done)
    | (simp only [execOp,ha,hy];simp [go_sem,Instr.storeAt,Instr.sureAddr,storeVar,h3,Value.cells,storeCells,store,Addr.add,Sem.run,hc,hf])
theorem oSt (i:Nat) (js:List (Nat×Nat)) (x j:Nat) (f:aM->aM) (u:Value) {kd:Int} (hk:(obj O x).kind=kd)
    (K:∀ O2,O2=aD O x f->ak Tryz.prog β N ops (k+1) (cL fr (gG ops k) undef) ((pQ hps (sS O2 L js)).set i (.abs (aG (cF O2 L)))) Q)
    (hp:hps[i]?=some (.abs (aG (cF O L)))) (hj:wS hps O L js)
    (ho:∀ junk,EP Tryz.prog N junk ops fr k=some (⟨L.b x,j,none⟩,u))
    (hn:jh 0 (js.map (·.2))=false) (h0:kd≠0) (hc:iR L x (f (obj O x))=(iR L x (obj O x)).set j u) (hu:u.oneCell'=true) (h9:j < (iR L x (obj O x)).length)
    (he:(f (obj O x)).ah=(obj O x).ah) (hd:(f (obj O x)).data=(obj O x).data) (ER:(f (obj O x)).kind=(obj O x).kind):ak Tryz.prog β N ops k fr hps Q:=by
  obtain⟨T,a,y,h1,h2,h3,h4⟩:=KU (ho (fun _=>undef))
  intro junk w hS
  obtain⟨T,a,y,h1,h2,h3,h4⟩:=KU (ho junk)
  obtain⟨o,g1,g2,g3,g4⟩:=fe h1
  have hx0:(obj O x).kind≠0:=by rw [hk];exact h0
  have KV:pQ hps (sS (aD O x f) L js)=hps:=xU (p:=0) (fun q hq=>by
    match q,hq with
    | 0,hq=>exact absurd rfl hq
    | 1,_=>exact congrArg (fun R=>HP.abs (aG R)) (pX he ER)
    | q+2,_=>exact congrArg (fun R=>HP.abs (aG R)) (pW hd ER)) hj hn
  have hcell:∃ v0,(iR L x (obj O x))[j]?=some v0:=jq h9
  obtain⟨v0,hv0⟩:=hcell
  obtain⟨F,hF⟩:=hS.get hp
  obtain⟨G,hG⟩:=aG.at x hF
  have hG2:=hG
  rw [nV hx0] at hG2
  obtain⟨hb,_⟩:=hG2
  obtain⟨c1,c2⟩:=jb (a:=⟨L.b x,j,none⟩) hb rfl rfl hv0
  have qg:Sat β (hps.set i (.abs (aG (cF (aD O x f) L)))) (w.setCell ⟨L.b x,j,none⟩ (u)):=hS.set hp (fun F hF=>aG.step (k:=x) (show (aG (cF O L)).h F w from hF) (fun y hy=>xO hy) (fun G hG=>by
    rw [nV hx0] at hG
    rw [xM,if_neg (by rw [ER];exact hx0),hc,ER]
    exact uX hG rfl rfl))
  rw [drop_cons g1]
  unfold wpList
  rw [d6,if_pos g2]
  refine .inl (lY (v:=undef) (w':=w.setCell ⟨L.b x,j,none⟩ (u)) (by rw [eX];exact RP g3 h2 h3 h4 hu c1 c2 rfl) ?_)
  rw [dU]
  have hK:=K _ rfl junk _ (by rw [KV];exact qg)
  rw [← g4] at hK
  exact hK
theorem vW (i:Nat) (js:List (Nat×Nat)) (x j:Nat) (f:aM->aM) {kd:Int} (hk:(obj O x).kind=kd)
    (K:∀ O2,O2=aD O x f->ak Tryz.prog β N ops (k+1) (cL fr (gG ops k) undef) ((pQ hps (sS O2 L js)).set i (.abs (aG (cF O2 L)))) Q)
    (hp:hps[i]?=some (.abs (aG (cF O L))):=by rfl) (hj:wS hps O L js:=by first|exact⟨rfl,trivial⟩|exact⟨rfl,rfl,trivial⟩|exact trivial)
    (ho:∀ junk,EP Tryz.prog N junk ops fr k=some (⟨L.b x,j,none⟩,(BF (f (obj O x))).getD j undef):=by intro _;kernel_rfl)
    (hn:jh 0 (js.map (·.2))=false:=by rfl) (h0:kd≠0:=by decide) (hc:iR L x (f (obj O x))=(iR L x (obj O x)).set j ((BF (f (obj O x))).getD j undef):=by rfl) (hu:((BF (f (obj O x))).getD j undef).oneCell'=true:=by rfl) (h9:Nat.blt j 9=true:=by rfl)
    (he:(f (obj O x)).ah=(obj O x).ah:=by rfl) (hd:(f (obj O x)).data=(obj O x).data:=by rfl) (ER:(f (obj O x)).kind=(obj O x).kind:=by rfl):ak Tryz.prog β N ops k fr hps Q:=
  oSt i js x j f _ hk K hp hj ho hn h0 hc hu (Nat.lt_of_lt_of_le (show j < 9 by simpa [Nat.blt_eq] using h9) (by unfold iR BF;simp)) he hd ER
theorem uSt (i:Nat) (js:List (Nat×Nat)) (x:Nat) (y:Option Nat) (hk:(obj O x).kind=2)
    (K:∀ O2,O2=aD O x (fun o=>{ o with up:=y })->ak Tryz.prog β N ops (k+1) (cL fr (gG ops k) undef) ((pQ hps (sS O2 L js)).set i (.abs (aG (cF O2 L)))) Q)
    (hp:hps[i]?=some (.abs (aG (cF O L))):=by rfl) (hj:wS hps O L js:=by first|exact⟨rfl,trivial⟩|exact⟨rfl,rfl,trivial⟩|exact trivial)
    (ho:∀ junk,EP Tryz.prog N junk ops fr k=some (⟨L.b x,10,none⟩,DX L y):=by intro _;kernel_rfl) (hn:jh 0 (js.map (·.2))=false:=by rfl):ak Tryz.prog β N ops k fr hps Q:=
  oSt i js x 10 (fun o=>{ o with up:=y }) (DX L y) hk K hp hj ho hn (by decide) (by rw [nW (show ({ obj O x with up:=y }:aM).kind=2 from hk),nW hk];rfl) (by cases y<;>rfl) (by rw [nW hk];exact Nat.lt_succ_self 10) rfl rfl rfl
theorem Sat.V5 {w:World} {i j:Nat} {f:aM->aM} {u:Value} (hS:Sat β hps w) (hp:hps[i]?=some (.abs (aG (cF O L)))) (hx0:(obj O x).kind≠0) (hc:iR L x (f (obj O x))=(iR L x (obj O x)).set j u) (ER:(f (obj O x)).kind=(obj O x).kind) (h9:j < (iR L x (obj O x)).length) :
    Sat β (hps.set i (.abs (aG (cF (aD O x f) L)))) (w.setCell ⟨L.b x,j,none⟩ u)/\(∃ v0,w.cell? ⟨L.b x,j,none⟩=some v0)/\w.frozen? ⟨L.b x,j,none⟩=false:=by
  obtain⟨v0,hv0⟩:=jq h9
  obtain⟨F,hF⟩:=hS.get hp
  obtain⟨G,hG⟩:=aG.at x (show (aG (cF O L)).h F w from hF)
  rw [nV hx0] at hG
  obtain⟨c1,c2⟩:=jb (a:=⟨L.b x,j,none⟩) hG.1 rfl rfl hv0
  refine⟨hS.set hp (fun F hF=>aG.step (k:=x) (show (aG (cF O L)).h F w from hF) (fun y hy=>xO hy) (fun G hG=>?_)),⟨v0,c1⟩,c2⟩
  rw [nV hx0] at hG
  rw [xM,if_neg (by rw [ER];exact hx0),hc,ER]
  exact uX hG rfl rfl
def KW (P:Program) (N:dm) (junk:Nat->Value) (ops:Array Oper) (fr:Fr) (k:Nat):Option (Addr×Value):=
  match fA N junk ops fr k with
  | some (.store T a y,_)=>match (P.info? T).map (·.size) with
    | some 2=>match cQ N fr junk a with
      | .pointer (some ad)=>some (ad,cQ N fr junk y)
      | _=>none
    | _=>none
  | _=>none
theorem RQ {P:Program} {junk:Nat->Value} {ad:Addr} {u:Value} (h:KW P N junk ops fr k=some (ad,u)):∃ T a y,fA N junk ops fr k=some (.store T a y,gG ops k)/\(P.info? T).map (·.size)=some 2/\cQ N fr junk a=.pointer (some ad)/\cQ N fr junk y=u:=by
  grind [KW,xV]
theorem Oz {P:Program} {T:TypeId} {a y:Operand} {o:Oper} {ev:Operand->Value} {w:World} {b j:Nat} {z1 z2:Int} {v0 v1:Value} (ho:o.op=.store T a y) (hT:(P.info? T).map (·.size)=some 2) (ha:ev a=.pointer (some ⟨b,j,none⟩)) (hy:ev y=.agg #[.int .i64 z1,.int .i64 z2])
    (hc:w.cell? ⟨b,j,none⟩=some v0) (hf:w.frozen? ⟨b,j,none⟩=false) (hc1:(w.setCell ⟨b,j,none⟩ (.int .i64 z1)).cell? ⟨b,j+1,none⟩=some v1) (hf1:(w.setCell ⟨b,j,none⟩ (.int .i64 z1)).frozen? ⟨b,j+1,none⟩=false) :
    oM P ev o w undef ((w.setCell ⟨b,j,none⟩ (.int .i64 z1)).setCell ⟨b,j+1,none⟩ (.int .i64 z2)):=by
  obtain⟨inf,hi,hsz⟩:∃ inf,P.info? T=some inf/\inf.size=2:=by
    cases h:P.info? T with
    | none=>rw [h] at hT;cases hT
    | some inf=>rw [h] at hT;exact⟨inf,rfl,by simpa using hT⟩
  have h3:=oB hi w
  rw [hsz] at h3
  obtain⟨dst,op,type,pos,after,guard⟩:=o
  cases ho
  refine .inr ⟨rfl,?_⟩
  simp only [execOp,ha,hy]
  simp [go_sem,Instr.storeAt,Instr.sureAddr,storeVar,h3,Value.cells,storeCells,store,Addr.add,Sem.run,hc,hf,hc1,hf1]
theorem RR (i:Nat) (js:List (Nat×Nat)) (x:Nat) (z1 z2:Int) {kd:Int} (hk:(obj O x).kind=kd)
    (K:∀ O2,O2=aD O x (fun o=>{ o with sec:=z1,nano:=z2 })->ak Tryz.prog β N ops (k+1) (cL fr (gG ops k) undef) ((pQ hps (sS O2 L js)).set i (.abs (aG (cF O2 L)))) Q)
    (hp:hps[i]?=some (.abs (aG (cF O L))):=by rfl) (hj:wS hps O L js:=by first|exact⟨rfl,trivial⟩|exact⟨rfl,rfl,trivial⟩|exact trivial)
    (ho:∀ junk,KW Tryz.prog N junk ops fr k=some (⟨L.b x,4,none⟩,.agg #[.int .i64 z1,.int .i64 z2]):=by intro _;kernel_rfl)
    (hn:jh 0 (js.map (·.2))=false:=by rfl) (h0:kd≠0:=by decide):ak Tryz.prog β N ops k fr hps Q:=by
  intro junk w hS
  obtain⟨T,a,y,h1,h2,h3,h4⟩:=RQ (ho junk)
  obtain⟨o,g1,g2,g3,g4⟩:=fe h1
  have hx0:(obj O x).kind≠0:=by rw [hk];exact h0
  have KV:pQ hps (sS (aD O x (fun o=>{ o with sec:=z1,nano:=z2 })) L js)=hps:=xU (p:=0) (fun q hq=>by
    match q,hq with
    | 0,hq=>exact absurd rfl hq
    | 1,_=>exact congrArg (fun R=>HP.abs (aG R)) (pX rfl rfl)
    | q+2,_=>exact congrArg (fun R=>HP.abs (aG R)) (pW rfl rfl)) hj hn
  have hlen:∀ o:aM,9<=(iR L x o).length:=fun o=>by unfold iR BF;simp
  obtain⟨s1,⟨v0,c1⟩,f1⟩:=hS.V5 (x:=x) (j:=4) (f:=fun o=>{ o with sec:=z1 }) (u:=.int .i64 z1) hp hx0 rfl rfl (by have:=hlen (obj O x);omega)
  have hi:i < hps.length:=bR hp
  have e1:obj (aD O x (fun o=>{ o with sec:=z1 })) x={ obj O x with sec:=z1 }:=cU
  obtain⟨s2,⟨v1,c2⟩,f2⟩:=s1.V5 (x:=x) (j:=5) (f:=fun o=>{ o with nano:=z2 }) (u:=.int .i64 z2) (i:=i) (O:=aD O x (fun o=>{ o with sec:=z1 })) (by rw [List.getElem?_set,if_pos rfl,if_pos hi]) (by rw [e1];exact hx0) rfl rfl (by have:=hlen (obj (aD O x (fun o=>{ o with sec:=z1 })) x);omega)
  rw [List.set_set,wo] at s2
  rw [drop_cons g1]
  unfold wpList
  rw [d6,if_pos g2]
  refine .inl (lY (v:=undef) (w':=_) (by rw [eX];exact Oz g3 h2 h3 h4 c1 f1 c2 f2) ?_)
  rw [dU]
  have hK:=K _ rfl junk _ (by rw [KV];exact s2)
  rw [← g4] at hK
  exact hK
theorem Cd {w:World} {i:Nat} (hS:Sat β hps w) (hp:hps[i]?=some (.abs (aG (dM O L)))) (hd:(obj O x).kind=2):gV Tryz.prog 9 w (L.m x) (jJ L (obj O x).ah) (obj O x).ah.length:=by
  obtain⟨F,hF⟩:=hS.get hp
  obtain⟨G,hG⟩:=aG.at x (show (aG (dM O L)).h F w from hF)
  rw [qX hd] at hG
  exact hG.1
theorem M9 {w:World} {i:Nat} {o:Oper} {ev:Operand->Value} {a y:Operand} (hS:Sat β hps w) (hp:hps[i]?=some (.abs (aG (dM O L)))) (hd:(obj O x).kind=2) (hl:aL name (obj O x).ah=r) (h3:o.op=.lookup 95 a y false) (ha:ev a=.map (some (L.m x))) (hy:ev y=.string name) (hsz:name.size<=1048576):oM Tryz.prog ev o w (KT L r) w:=by
  have h:=x6 (z:=.nilIface) h3 (Cd hS hp hd) ha hy C0 Tryz.underlying95 (by kernel_rfl) (Ff (by omega))
  rw [uP,hl] at h
  cases r<;>exact h
theorem lE (i:Nat) (hd:(obj O x).kind=2) (hl:aL name (obj O x).ah=r) (K:ak Tryz.prog β N ops (k+1) (cL fr (gG ops k) (KT L r)) hps Q) (hp:hps[i]?=some (.abs (aG (dM O L))):=by rfl)
    (ho:∀ junk,EQ N junk ops fr k=some (95,L.m x,.string name):=by intro _;kernel_rfl) (hsz:name.size<=1048576:=by omega):ak Tryz.prog β N ops k fr hps Q:=by
  intro junk w hS
  obtain⟨a,y,h1,h2,h3⟩:=rA (ho junk)
  exact ak.jI (eu:=hps) (v:=KT L r) (d:=gG ops k) (op:=.lookup 95 a y false) (fun j=>by
    obtain⟨a',y',h1',_,_⟩:=rA (ho j)
    obtain⟨o,g1,g2,g3,g4⟩:=fe h1
    obtain⟨o',wU,V6,xW,V7⟩:=fe h1'
    rw [g1] at wU
    cases wU
    rw [g3] at xW
    cases xW
    exact h1') (fun o junk w ho' hS=>by
    obtain⟨a',y',h1',h2',h3'⟩:=rA (ho junk)
    obtain⟨o1,g1,g2,g3,g4⟩:=fe h1
    obtain⟨o',wU,V6,xW,V7⟩:=fe h1'
    rw [g1] at wU
    cases wU
    rw [g3] at xW
    cases xW
    exact⟨w,M9 hS hp hd hl ho' h2' h3' hsz,hS⟩) K junk w hS
theorem uD (i:Nat) (hd:(obj O x).kind=2) (hl:aL name (obj O x).ah=r) (K:aU Tryz.prog β N ops (k+1) (cL fr (gG ops k) (KT L r)) hps Q) (hp:hps[i]?=some (.abs (aG (dM O L))):=by rfl)
    (ho:∀ junk,EQ N junk ops fr k=some (95,L.m x,.string name):=by intro _;kernel_rfl) (hsz:name.size<=1048576:=by omega):aU Tryz.prog β N ops k fr hps Q:=by
  intro junk
  obtain⟨a,y,h1,h2,h3⟩:=rA (ho junk)
  exact aU.jI (v:=KT L r) (d:=gG ops k) (op:=.lookup 95 a y false) (fun j=>by
    obtain⟨a',y',h1',_,_⟩:=rA (ho j)
    obtain⟨o,g1,g2,g3,g4⟩:=fe h1
    obtain⟨o',wU,V6,xW,V7⟩:=fe h1'
    rw [g1] at wU
    cases wU
    rw [g3] at xW
    cases xW
    exact h1') (fun o junk w ho' hS=>by
    obtain⟨a',y',h1',h2',h3'⟩:=rA (ho junk)
    obtain⟨o1,g1,g2,g3,g4⟩:=fe h1
    obtain⟨o',wU,V6,xW,V7⟩:=fe h1'
    rw [g1] at wU
    cases wU
    rw [g3] at xW
    cases xW
    exact M9 hS hp hd hl ho' h2' h3' hsz) K junk
def OA (N:dm) (junk:Nat->Value) (ops:Array Oper) (fr:Fr) (k:Nat):Option (TypeId×Nat):=
  match fA N junk ops fr k with
  | some (.call ⟨.builtin .len,xs,ts⟩,_)=>match xs.toList with
    | [x]=>match ts.toList with
      | [t]=>match cQ N fr junk x with
        | .map (some b)=>some (t,b)
        | _=>none
      | _=>none
    | _=>none
  | _=>none
theorem Dy {junk:Nat->Value} {T:TypeId} {b:Nat} (h:OA N junk ops fr k=some (T,b)):∃ a,fA N junk ops fr k=some (.call ⟨.builtin .len,#[a],#[T]⟩,gG ops k)/\cQ N fr junk a=.map (some b):=by
  unfold OA at h
  repeat' split at h
  all_goals first|(cases h;done)|skip
  rename_i xs ts d h0 _ a h1 _ t' h2 _ b' h3
  cases h
  have:=xV h0
  subst this
  refine⟨a,?_,h3⟩
  rw [h0]
  obtain⟨xs⟩:=xs
  obtain⟨ts⟩:=ts
  cases h1
  cases h2
  rfl
theorem eNk (i:Nat) (hd:(obj O x).kind=2) (K:ak Tryz.prog β N ops (k+1) (cL fr (gG ops k) (.int .i64 (((obj O x).ah.length:Nat):Int))) hps Q) (hp:hps[i]?=some (.abs (aG (dM O L))):=by rfl)
    (ho:∀ junk,OA N junk ops fr k=some (95,L.m x):=by intro _;kernel_rfl):ak Tryz.prog β N ops k fr hps Q:=by
  obtain⟨a,h1,h2⟩:=Dy (ho (fun _=>undef))
  obtain⟨o,g1,g2,g3,g4⟩:=fe h1
  refine ak.jI (eu:=hps) (v:=.int .i64 (((obj O x).ah.length:Nat):Int)) (d:=gG ops k) (op:=o.op) (fun j=>?_) (fun o' junk w ho' hS=>?_) K
  ·obtain⟨a',h1',_⟩:=Dy (ho j)
   grind [fe]
  obtain⟨a',h1',h2'⟩:=Dy (ho junk)
  obtain⟨o1,wU,V6,xW,V7⟩:=fe h1'
  rw [g1] at wU
  cases wU
  exact⟨w,Bx (ho'.trans xW) rfl (Cd hS hp hd) h2' Tryz.underlying95,hS⟩
theorem Zi (i:Nat) (js:List (Nat×Nat)) {t:Th} (hd:(obj O x).kind=2) (hno:aL name (obj O x).ah=none)
    (K:∀ O2,O2=aD O x (fun o=>{ o with ah:=gU name t o.ah })->ak Tryz.prog β N ops (k+1) (cL fr (gG ops k) undef) ((pQ hps (sS O2 L js)).set i (.abs (aG (dM O2 L)))) Q)
    (hp:hps[i]?=some (.abs (aG (dM O L))):=by rfl) (hj:wS hps O L js:=by first|exact⟨rfl,trivial⟩|exact⟨rfl,rfl,trivial⟩|exact trivial)
    (ho:∀ junk,setAt N junk ops fr k=some (95,L.m x,.string name,eV L t):=by intro _;kernel_rfl) (hn:jh 1 (js.map (·.2))=false:=by rfl) (hsz:name.size<=1048576:=by omega) (hel:(obj O x).ah.length<=1048576:=by omega):ak Tryz.prog β N ops k fr hps Q:=by
  intro junk w hS
  obtain⟨a,y,z,h1,h2,h3,h4⟩:=UF (ho junk)
  obtain⟨o,g1,g2,g3,g4⟩:=fe h1
  have KV:pQ hps (sS (aD O x (fun o=>{ o with ah:=gU name t o.ah })) L js)=hps:=xU (p:=1) (fun q hq=>by
    match q,hq with
    | 0,_=>exact congrArg (fun R=>HP.abs (aG R)) (Jb (es:=fun o=>gU name t o.ah))
    | 1,hq=>exact absurd rfl hq
    | q+2,_=>exact congrArg (fun R=>HP.abs (aG R)) (pW rfl rfl)) hj hn
  obtain⟨w',m1,m2,m3⟩:=(Cd hS hp hd).store C0 Tryz.underlying95 (by unfold maxLen;omega) (Ff (p:=name) (by omega)) (eV L t)
  have e1:(jJ L (obj O x).ah) (.string name.data.toList)=none:=by rw [uP,hno];rfl
  rw [e1,SX hno] at m2
  have qg:Sat β (hps.set i (.abs (aG (dM (aD O x (fun o=>{ o with ah:=gU name t o.ah })) L)))) w':=hS.set hp (fun F hF=>aG.step (k:=x) (show (aG (dM O L)).h F w from hF) (fun y hy=>zZ hy) (fun G hG=>by
    rw [qX hd] at hG
    rw [qX (by rw [cU];exact hd),cU,I9]
    exact step_map hG m2 m3))
  rw [drop_cons g1]
  unfold wpList
  rw [d6,if_pos g2]
  refine .inl (lY (v:=undef) (w':=w') (by
    rw [eX]
    refine .inr ⟨rfl,?_⟩
    obtain⟨dst,op,type,pos,after,guard⟩:=o
    cases g3
    simp only [execOp,h2,h3,h4]
    simp [go_sem,m1]) ?_)
  rw [dU]
  have hK:=K _ rfl junk _ (by rw [KV];exact qg)
  rw [← g4] at hK
  exact hK
theorem UG {junk:Nat->Value} {T K0:TypeId} {b:Nat} {key:Value} (h:Oy N junk ops fr k=some (T,K0,b,key)):∃ a y,fA N junk ops fr k=some (.call ⟨.builtin .delete,#[a,y],#[T,K0]⟩,gG ops k)/\cQ N fr junk a=.map (some b)/\cQ N fr junk y=key:=by
  unfold Oy at h
  repeat' split at h
  all_goals first|(cases h;done)|skip
  rename_i xs ts d h0 _ a y h1 _ t' K' h2 _ b' h3
  cases h
  have:=xV h0
  subst this
  refine⟨a,y,?_,h3,rfl⟩
  rw [h0]
  obtain⟨xs⟩:=xs
  obtain⟨ts⟩:=ts
  cases h1
  cases h2
  rfl
theorem Zj (i:Nat) (js:List (Nat×Nat)) {t:Th} (hd:(obj O x).kind=2) (za:aL name (obj O x).ah=some t) (hnt:lV (obj O x).ah)
    (K:∀ O2,O2=aD O x (fun o=>{ o with ah:=gZ name o.ah })->ak Tryz.prog β N ops (k+1) (cL fr (gG ops k) (.tuple #[])) ((pQ hps (sS O2 L js)).set i (.abs (aG (dM O2 L)))) Q)
    (hp:hps[i]?=some (.abs (aG (dM O L))):=by rfl) (hj:wS hps O L js:=by first|exact⟨rfl,trivial⟩|exact⟨rfl,rfl,trivial⟩|exact trivial)
    (ho:∀ junk,Oy N junk ops fr k=some (95,9,L.m x,.string name):=by intro _;kernel_rfl) (hn:jh 1 (js.map (·.2))=false:=by rfl) (hsz:name.size<=1048576:=by omega):ak Tryz.prog β N ops k fr hps Q:=by
  intro junk w hS
  obtain⟨a,y,h1,h2,h3⟩:=UG (ho junk)
  obtain⟨o,g1,g2,g3,g4⟩:=fe h1
  have KV:pQ hps (sS (aD O x (fun o=>{ o with ah:=gZ name o.ah })) L js)=hps:=xU (p:=1) (fun q hq=>by
    match q,hq with
    | 0,_=>exact congrArg (fun R=>HP.abs (aG R)) (Jb (es:=fun o=>gZ name o.ah))
    | 1,hq=>exact absurd rfl hq
    | q+2,_=>exact congrArg (fun R=>HP.abs (aG R)) (pW rfl rfl)) hj hn
  obtain⟨w',m1,m2,m3⟩:=(Cd hS hp hd).drop C0 Tryz.underlying95 (Ff (p:=name) (by omega)) o.type
  have e1:(jJ L (obj O x).ah) (.string name.data.toList)=some (eV L t):=by rw [uP,za];rfl
  rw [e1,SY] at m2
  have hlen:=SW hnt za
  have qg:Sat β (hps.set i (.abs (aG (dM (aD O x (fun o=>{ o with ah:=gZ name o.ah })) L)))) w':=hS.set hp (fun F hF=>aG.step (k:=x) (show (aG (dM O L)).h F w from hF) (fun y hy=>zZ hy) (fun G hG=>by
    rw [qX hd] at hG
    rw [qX (by rw [cU];exact hd),cU]
    rw [show (gZ name (obj O x).ah).length=(obj O x).ah.length - 1 by omega]
    exact step_map hG m2 m3))
  rw [drop_cons g1]
  unfold wpList
  rw [d6,if_pos g2]
  refine .inl (lY (v:=.tuple #[]) (w':=w') (by
    rw [eX]
    refine .inl ?_
    obtain⟨dst,op,type,pos,after,guard⟩:=o
    cases g3
    simp only [execOp,resolve,invoke,builtin]
    simp [go_sem,h2,h3,m1]) ?_)
  rw [dU]
  have hK:=K _ rfl junk _ (by rw [KV];exact qg)
  rw [← g4] at hK
  exact hK
end rules
section after
variable {O O2:bX} {j x:Nat} {f:aM->aM} {kd:Int}
theorem ku (e:O2=aD O j f) (h:(obj O x).kind=kd) (hf:∀ o,(f o).kind=o.kind:=by intro _;rfl):(obj O2 x).kind=kd:=by subst e;exact (lf hf).trans h
theorem fu {α:Type} (g:aM->α) {v:α} (e:O2=aD O j f) (h:g (obj O x)=v) (hf:∀ o,g (f o)=g o:=by intro _;rfl):g (obj O2 x)=v:=by subst e;exact (cq hf).trans h
end after
end
section
open Go.RowKit Go.Maps
attribute [local irreducible] ak aU af ai
theorem dF {β:Bs} (b:Nat):Spec Tryz.prog β 218 #[vP b] [] (fun v l=>v=vP b/\l=[]):=by
 refine SE Tryz.func218 Tryz.ntmps218 (fun R=>?_)
 refine SR (jK 1 [] [] ?_)
 refine NS (jK 2 [2] [] ?_)
 refine NN (af.ret ?_)
 exact RT _ [0] (⟨rfl,rfl⟩)
theorem pH {β:Bs} (a:Value):Spec Tryz.prog β 217 #[a] [] (fun v l=>v=vI 1/\l=[]):=by
 refine SE Tryz.func217 Tryz.ntmps217 (fun R=>?_)
 refine SR (jK 1 [] [] ?_)
 refine NS (jK 1 [2] [] ?_)
 refine NN (af.ret ?_)
 exact RT _ [0] (⟨rfl,rfl⟩)
theorem pJ {β:Bs} (a:Value):Spec Tryz.prog β 220 #[a] [] (fun v l=>v=vI 2/\l=[]):=by
 refine SE Tryz.func220 Tryz.ntmps220 (fun R=>?_)
 refine SR (jK 1 [] [] ?_)
 refine NS (jK 1 [2] [] ?_)
 refine NN (af.ret ?_)
 exact RT _ [0] (⟨rfl,rfl⟩)
theorem qO {β:Bs} (a:Value):Spec Tryz.prog β 219 #[a] [] (fun v l=>v=vI 3/\l=[]):=by
 refine SE Tryz.func219 Tryz.ntmps219 (fun R=>?_)
 refine SR (jK 1 [] [] ?_)
 refine NS (jK 1 [2] [] ?_)
 refine NN (af.ret ?_)
 exact RT _ [0] (⟨rfl,rfl⟩)
theorem Na {β:Bs} (O:bX) (L:HL) (d:Nat) (hkd:(obj O d).kind=2) (name:ByteArray) (hsz:name.size<=1048576) (hno:aL name (obj O d).ah=none) (hel:(obj O d).ah.length<=1048576) (t:Th) (hkt:(obj O t.k).kind=t.kind) (h3:t.kind=1\/t.kind=2\/t.kind=3) (hb:0<=(obj O t.k).links/\(obj O t.k).links<=1048576) :
    Spec Tryz.prog β 25 #[vP (L.b d),.string name,(eV L t)] [.abs (aG (cF O L)),.abs (aG (dM O L))] (fun v l=>v=.tuple #[]/\l=[.abs (aG (cF (qI O d name t) L)),.abs (aG (dM (qI O d name t) L))]):=by
 refine SE Tryz.func25 Tryz.ntmps25 (fun R=>?_)
 refine af.seq ?_
 obtain⟨tk,kd⟩:=t;simp only at hkt h3;rcases h3 with rfl|rfl|rfl
 ·replace hkt:(obj O tk).kind=1:=hkt
  replace hb:0<=(obj O tk).links/\(obj O tk).links<=1048576:=hb
  refine af.region (jK 6 [11,12,13] [(3,v_ 0 (bQ L hkd))] ?_)
  refine Zi 1 [(0,0)] (t:=⟨tk,1⟩) hkd hno (fun ef dh=>?_)
  have lT:=ku dh hkd
  have pK:=ku dh hkt
  have hf3:(obj ef tk).links=(obj O tk).links:=fu aM.links dh rfl
  refine NS (jK 1 [14] [] ?_)
  refine gL [] (dF (L.b tk)) ?_
  rintro _ _ ⟨rfl,rfl⟩
  refine jK 6 [19,21] [(2,v_ 0 (qd L pK)),(3,wJ ((obj ef tk).links+1) ((obj ef tk).links+1))] ?_
  refine vW 0 [(1,1)] tk 6 (fun o=>{ o with links:=o.links+1 }) pK (fun gi dK=>?_)
  have Bg:=ku dK lT
  have Bh:=ku dK pK
  refine NS (jK 7 [6,7] [] ?_)
  refine NS (jK 1 [27] [] ?_)
  refine NN (CF (af.skip ?_))
  exact RF (l:=[.abs (aG (cF gi L)),.abs (aG (dM gi L))]) (.tuple #[]) [0,1,2] (⟨rfl,by subst dK;subst dh;rfl⟩)
 ·replace hkt:(obj O tk).kind=2:=hkt
  replace hb:0<=(obj O tk).links/\(obj O tk).links<=1048576:=hb
  refine af.region (jK 6 [11,12,13] [(3,v_ 0 (bQ L hkd))] ?_)
  refine Zi 1 [(0,0)] (t:=⟨tk,2⟩) hkd hno (fun ef dh=>?_)
  have UH:=ku dh hkd
  have OB:=ku dh hkt
  have hf8:(obj ef tk).links=(obj O tk).links:=fu aM.links dh rfl
  refine NS (jK 1 [14] [] ?_)
  refine gL [] (dF (L.b tk)) ?_
  rintro _ _ ⟨rfl,rfl⟩
  refine jK 6 [19,21] [(2,v_ 0 (qd L OB)),(3,wJ ((obj ef tk).links+1) ((obj ef tk).links+1))] ?_
  refine vW 0 [(1,1)] tk 6 (fun o=>{ o with links:=o.links+1 }) OB (fun gi dK=>?_)
  have F5:=ku dK UH
  have OC:=ku dK OB
  refine NS (jK 7 [6,7] [] ?_)
  refine NS (jK 1 [27] [] ?_)
  refine NN (CT (af.region (jK 4 [29,31] [] ?_)))
  refine uSt 0 [(1,1)] tk (some d) OC (fun xX oF=>?_)
  have V8:=ku oF F5
  have abY:=ku oF OC
  refine NL ?_
  exact RF (l:=[.abs (aG (cF xX L)),.abs (aG (dM xX L))]) (.tuple #[]) [0,1,2] (⟨rfl,by subst oF;subst dK;subst dh;rfl⟩)
 replace hkt:(obj O tk).kind=3:=hkt
 replace hb:0<=(obj O tk).links/\(obj O tk).links<=1048576:=hb
 refine af.region (jK 6 [11,12,13] [(3,v_ 0 (bQ L hkd))] ?_)
 refine Zi 1 [(0,0)] (t:=⟨tk,3⟩) hkd hno (fun ef dh=>?_)
 have aaz:=ku dh hkd
 have OD:=ku dh hkt
 have acj:(obj ef tk).links=(obj O tk).links:=fu aM.links dh rfl
 refine NS (jK 1 [14] [] ?_)
 refine gL [] (dF (L.b tk)) ?_
 rintro _ _ ⟨rfl,rfl⟩
 refine jK 6 [19,21] [(2,v_ 0 (qd L OD)),(3,wJ ((obj ef tk).links+1) ((obj ef tk).links+1))] ?_
 refine vW 0 [(1,1)] tk 6 (fun o=>{ o with links:=o.links+1 }) OD (fun gi dK=>?_)
 have ES:=ku dK aaz
 have aaA:=ku dK OD
 refine NS (jK 7 [6,7] [] ?_)
 refine NS (jK 1 [27] [] ?_)
 refine NN (CF (af.skip ?_))
 exact RF (l:=[.abs (aG (cF gi L)),.abs (aG (dM gi L))]) (.tuple #[]) [0,1,2] (⟨rfl,by subst dK;subst dh;rfl⟩)
theorem jF {β:Bs} (X:FM) (f m t:Nat) (hX:0<=X.ah/\X.ah<=1048576/\-1125899906842624<=X.used/\X.used<=1125899906842624/\0<=X.last/\X.last<=1125899906842624) (O:bX) (L:HL) (d:Nat) (hkd:(obj O d).kind=2) (name:ByteArray) (hsz:name.size<=1048576) (hno:aL name (obj O d).ah=none) (hel:(obj O d).ah.length<=1048576) (th:Th) (hkt:(obj O th.k).kind=th.kind) (h3:th.kind=1\/th.kind=2\/th.kind=3) (hb:0<=(obj O th.k).links/\(obj O th.k).links<=1048576) :
    Spec Tryz.prog β 125 #[vP f,vP (L.b d),.string name,(eV L th)] [.blk f [vI (X.cN),vI (X.cB),vI (X.cH),vI (X.cS),vI (X.cZ),.map (some m),vP t,vI (X.last),vI (X.ah),vI (X.used)] 84,.abs (aG (cF O L)),.abs (aG (dM O L))] (fun v l=>v=.tuple #[]/\l=[.blk f [vI (X.cN),vI (X.cB),vI (X.cH),vI (X.cS),vI (X.cZ),.map (some m),vP t,vI (X.last),vI (X.ah+1),vI (X.used)] 84,.abs (aG (cF (bw X O d name th) L)),.abs (aG (dM (bw X O d name th) L))]):=by
 refine SE Tryz.func125 Tryz.ntmps125 (fun R=>?_)
 refine af.seq ?_
 skip
 refine af.region (jK 3 [8,9,10] [] ?_)
 refine gL [1,2] (Na O L d hkd name hsz hno hel th hkt h3 hb) ?_
 rintro _ _ ⟨rfl,rfl⟩
 refine NS ?_
 have ET:(obj (qI O d name th) d).kind=2:=(Ac).trans (hkd)
 generalize dh:(qI O d name th)=ef at ET ⊢
 refine jK 9 [17,20] [(5,A_ 2 f 2)] ?_
 refine RR 0 [(1,1)] d X.cS X.cZ ET (fun gi dK=>?_)
 have abZ:=ku dK ET
 refine NN (af.region (jC 8 [] [(3,a_ 2 f),(4,wJ (X.ah+1) (X.ah+1)),(7,a_ 2 f)] [(2,[(8,vI (X.ah+1))])] ?_))
 refine NL ?_
 exact RF (l:=[.blk f [vI (X.cN),vI (X.cB),vI (X.cH),vI (X.cS),vI (X.cZ),.map (some m),vP t,vI (X.last),vI (X.ah+1),vI (X.used)] 84,.abs (aG (cF gi L)),.abs (aG (dM gi L))]) (.tuple #[]) [2,0,1,3] (⟨rfl,by subst dK;subst dh;rfl⟩)
theorem kV {β:Bs} (X:FM) (f m t:Nat) (hX:0<=X.ah/\X.ah<=1048576/\-1125899906842624<=X.used/\X.used<=1125899906842624/\0<=X.last/\X.last<=1125899906842624) (O:bX) (L:HL) (d:Nat) (hkd:(obj O d).kind=2) (name:ByteArray) (hsz:name.size<=1048576) (th:Th) (hkt:(obj O th.k).kind=th.kind) (h3:th.kind=1\/th.kind=2\/th.kind=3) (za:aL name (obj O d).ah=some th) (hnt:lV (obj O d).ah) (_:(obj O d).ah.length<=1048576) (hb:0<=(obj O th.k).links/\(obj O th.k).links<=1048576) :
    Spec Tryz.prog β 151 #[vP f,vP (L.b d),.string name] [.blk f [vI (X.cN),vI (X.cB),vI (X.cH),vI (X.cS),vI (X.cZ),.map (some m),vP t,vI (X.last),vI (X.ah),vI (X.used)] 84,.abs (aG (cF O L)),.abs (aG (dM O L))] (fun v l=>v=eV L th/\l=[.blk f [vI (X.cN),vI (X.cB),vI (X.cH),vI (X.cS),vI (X.cZ),.map (some m),vP t,vI (X.last),vI (X.ah - 1),vI (X.used)] 84,.abs (aG (cF (aH X O d name th) L)),.abs (aG (dM (aH X O d name th) L))]):=by
 refine SE Tryz.func151 Tryz.ntmps151 (fun R=>?_)
 refine af.seq ?_
 obtain⟨tk,kd⟩:=th;simp only at hkt h3;rcases h3 with rfl|rfl|rfl
 ·replace hkt:(obj O tk).kind=1:=hkt
  replace hb:0<=(obj O tk).links/\(obj O tk).links<=1048576:=hb
  refine af.region (jK 1 [] [] ?_)
  refine NS (jK 5 [11,12] [(3,v_ 1 (bQ L hkd))] ?_)
  refine lE 2 hkd za ?_
  refine jK 1 [7] [] ?_
  refine NS (jK 5 [17,18] [(3,v_ 1 (bQ L hkd))] ?_)
  refine Zj 2 [(1,0)] hkd za hnt (fun ef dh=>?_)
  have V9:=ku dh hkd
  have aaB:=ku dh hkt
  have abE:(obj ef tk).links=(obj O tk).links:=fu aM.links dh rfl
  refine NS (jK 9 [24,27] [(5,A_ 0 f 2)] ?_)
  refine RR 1 [(2,1)] d X.cS X.cZ V9 (fun gi dK=>?_)
  have Wa:=ku dK V9
  have Io:=ku dK aaB
  have ack:(obj gi tk).links=(obj O tk).links:=fu aM.links dK abE
  refine NS (jC 8 [] [(3,a_ 0 f),(4,wJ (X.ah - 1) (X.ah - 1)),(7,a_ 0 f)] [(0,[(8,vI (X.ah - 1))])] ?_)
  refine NS (jK 1 [35] [] ?_)
  refine gL [] (dF (L.b tk)) ?_
  rintro _ _ ⟨rfl,rfl⟩
  refine jK 6 [40,42] [(2,v_ 1 (qd L Io)),(3,wJ ((obj gi tk).links - 1) ((obj gi tk).links - 1))] ?_
  refine vW 1 [(2,1)] tk 6 (fun o=>{ o with links:=o.links - 1 }) Io (fun xX oF=>?_)
  have ab0:=ku oF Wa
  have ab1:=ku oF Io
  refine NS (jK 2 [6] [] ?_)
  refine NN (af.ret ?_)
  exact RT (l:=[.blk f [vI (X.cN),vI (X.cB),vI (X.cH),vI (X.cS),vI (X.cZ),.map (some m),vP t,vI (X.last),vI (X.ah - 1),vI (X.used)] 84,.abs (aG (cF xX L)),.abs (aG (dM xX L))]) (.iface 87 (vP (L.b tk))) [0,1,2,3] (⟨rfl,by subst oF;subst dK;subst dh;rfl⟩)
 ·replace hkt:(obj O tk).kind=2:=hkt
  replace hb:0<=(obj O tk).links/\(obj O tk).links<=1048576:=hb
  refine af.region (jK 1 [] [] ?_)
  refine NS (jK 5 [11,12] [(3,v_ 1 (bQ L hkd))] ?_)
  refine lE 2 hkd za ?_
  refine jK 1 [7] [] ?_
  refine NS (jK 5 [17,18] [(3,v_ 1 (bQ L hkd))] ?_)
  refine Zj 2 [(1,0)] hkd za hnt (fun ef dh=>?_)
  have Wb:=ku dh hkd
  have aaC:=ku dh hkt
  have abF:(obj ef tk).links=(obj O tk).links:=fu aM.links dh rfl
  refine NS (jK 9 [24,27] [(5,A_ 0 f 2)] ?_)
  refine RR 1 [(2,1)] d X.cS X.cZ Wb (fun gi dK=>?_)
  have aaD:=ku dK Wb
  have OE:=ku dK aaC
  have acn:(obj gi tk).links=(obj O tk).links:=fu aM.links dK abF
  refine NS (jC 8 [] [(3,a_ 0 f),(4,wJ (X.ah - 1) (X.ah - 1)),(7,a_ 0 f)] [(0,[(8,vI (X.ah - 1))])] ?_)
  refine NS (jK 1 [35] [] ?_)
  refine gL [] (dF (L.b tk)) ?_
  rintro _ _ ⟨rfl,rfl⟩
  refine jK 6 [40,42] [(2,v_ 1 (qd L OE)),(3,wJ ((obj gi tk).links - 1) ((obj gi tk).links - 1))] ?_
  refine vW 1 [(2,1)] tk 6 (fun o=>{ o with links:=o.links - 1 }) OE (fun xX oF=>?_)
  have ab2:=ku oF aaD
  have ab3:=ku oF OE
  refine NS (jK 2 [6] [] ?_)
  refine NN (af.ret ?_)
  exact RT (l:=[.blk f [vI (X.cN),vI (X.cB),vI (X.cH),vI (X.cS),vI (X.cZ),.map (some m),vP t,vI (X.last),vI (X.ah - 1),vI (X.used)] 84,.abs (aG (cF xX L)),.abs (aG (dM xX L))]) (.iface 94 (vP (L.b tk))) [0,1,2,3] (⟨rfl,by subst oF;subst dK;subst dh;rfl⟩)
 replace hkt:(obj O tk).kind=3:=hkt
 replace hb:0<=(obj O tk).links/\(obj O tk).links<=1048576:=hb
 refine af.region (jK 1 [] [] ?_)
 refine NS (jK 5 [11,12] [(3,v_ 1 (bQ L hkd))] ?_)
 refine lE 2 hkd za ?_
 refine jK 1 [7] [] ?_
 refine NS (jK 5 [17,18] [(3,v_ 1 (bQ L hkd))] ?_)
 refine Zj 2 [(1,0)] hkd za hnt (fun ef dh=>?_)
 have Wd:=ku dh hkd
 have aaE:=ku dh hkt
 have abG:(obj ef tk).links=(obj O tk).links:=fu aM.links dh rfl
 refine NS (jK 9 [24,27] [(5,A_ 0 f 2)] ?_)
 refine RR 1 [(2,1)] d X.cS X.cZ Wd (fun gi dK=>?_)
 have aaF:=ku dK Wd
 have OG:=ku dK aaE
 have aco:(obj gi tk).links=(obj O tk).links:=fu aM.links dK abG
 refine NS (jC 8 [] [(3,a_ 0 f),(4,wJ (X.ah - 1) (X.ah - 1)),(7,a_ 0 f)] [(0,[(8,vI (X.ah - 1))])] ?_)
 refine NS (jK 1 [35] [] ?_)
 refine gL [] (dF (L.b tk)) ?_
 rintro _ _ ⟨rfl,rfl⟩
 refine jK 6 [40,42] [(2,v_ 1 (qd L OG)),(3,wJ ((obj gi tk).links - 1) ((obj gi tk).links - 1))] ?_
 refine vW 1 [(2,1)] tk 6 (fun o=>{ o with links:=o.links - 1 }) OG (fun xX oF=>?_)
 have ab4:=ku oF aaF
 have ab5:=ku oF OG
 refine NS (jK 2 [6] [] ?_)
 refine NN (af.ret ?_)
 exact RT (l:=[.blk f [vI (X.cN),vI (X.cB),vI (X.cH),vI (X.cS),vI (X.cZ),.map (some m),vP t,vI (X.last),vI (X.ah - 1),vI (X.used)] 84,.abs (aG (cF xX L)),.abs (aG (dM xX L))]) (.iface 91 (vP (L.b tk))) [0,1,2,3] (⟨rfl,by subst oF;subst dK;subst dh;rfl⟩)
end
end Go.Proofs.YtnipofpbcggjcaaGreat
