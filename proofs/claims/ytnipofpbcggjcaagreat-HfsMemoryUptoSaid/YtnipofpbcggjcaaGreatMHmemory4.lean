/-
  PROVED HERE: lemmas and contracts of functions (texts of this repo, joined; what the claim does not use is left out): DC, Dq, DM, DN, DS, DK, Fz, Dr, DU, Co, Ss, Sv, Sw, So, Sy, Sz, Sq, Sj, Sg, Dg, Db, Dn, Hc, Hd, H1.
  CONDITIONS: as the theorems say.
-/
import Derived.Test.YtnipofpbcggjcaaGreatMHmemory3
set_option maxRecDepth 100000
set_option maxHeartbeats 4000000
namespace Go.Proofs.YtnipofpbcggjcaaGreat
section
open Go.RowKit Go.Maps aX aq
attribute [local irreducible] ak aV af ai dH xG
noncomputable abbrev dW (Y:RL) (Z:RS):=(.abs (av 66 10 Y.A Z.ns.length Y.c (aR Y.L Z.ns)):HP)
noncomputable abbrev dN (Y:RL) (Z:RS):=(.abs (av 3 1 Y.G Z.gone.length Y.cg (ints Z.gone)):HP)
noncomputable abbrev QV (Ag)(l:List Int) (cg):=(.abs (av 3 1 Ag l.length cg (ints l)):HP)
noncomputable abbrev Yk (A1:Option Addr) (Z:RS) (k:Nat) (c1:Nat):=(.abs (av 3 1 A1 ((ins (aq.least Z.us) (nd Z.ns k).id Z.us).length) c1 (ints (keys (ins (aq.least Z.us) (nd Z.ns k).id Z.us)))):HP)
noncomputable abbrev Vo (B1)(Z:RS) (k:Nat) (d1):=(.abs (av 3 1 B1 ((ins (aq.least Z.us) (nd Z.ns k).id Z.us).length) d1 (ints (gq (ins (aq.least Z.us) (nd Z.ns k).id Z.us)))):HP)
noncomputable abbrev Yl (qz:Nat) (Z:RS) (A1:Option Addr) (k:Nat) (c1:Nat) (B1) (d1):=(.blk qz [vI (Z.cH),vI ((max Z.ar ((Z.us.length:Int)+1))),.slice A1 ((ins (aq.least Z.us) (nd Z.ns k).id Z.us).length) (c1),.slice B1 ((ins (aq.least Z.us) (nd Z.ns k).id Z.us).length) (d1)] 40:HP)
noncomputable abbrev Vp (fF:Nat) (uG:Nat) (An:Option Addr) (p:List ay) (cn:Nat) (Ag) (l:List Int) (cg) (i:Nat):=([(1,vP fF),(2,vP uG),(3,.slice An (p.length) (cn)),(4,.slice Ag (l.length) (cg)),(5,vI ↑i)]:Fr)
noncomputable abbrev Ym (Z:RS):=([(6,vI (Z.cN)),(7,vI (Z.cB)),(8,vI (Z.cH)),(9,vI (Z.cS)),(10,vI (Z.cZ)),(11,vI (Z.last))]:Fr)
noncomputable abbrev Vq (b1:Nat) (b2:Nat) (Ao) (q:List cX) (ca):=([(4,vP b1),(8,vP b2),(9,.slice Ao (q.length) (ca))]:Fr)
noncomputable abbrev lG (b1:Nat) (Z) (Y) (b2:Nat):=([.blk b1 (rV Z Y) 42,.blk b2 (rZ) 42]:List HP)
noncomputable abbrev Yn (mT:Nat) (q6:Nat) (Z:RS) (Y:RL) (k:Nat):=([(2,vP mT),(4,vP q6),(12,.agg #[vI (Z.cH),vI (Z.ar),.slice Y.H (Z.us.length) (Y.ch),.slice Y.V (Z.us.length) (Y.cv)]),(19,vI ((nd Z.ns k).id))]:Fr)
noncomputable abbrev Yo (Z:RS) (A1:Option Addr) (k:Nat) (c1:Nat) (B1) (d1):=([(3,vI ((max Z.ar ((Z.us.length:Int)+1)))),(4,.slice A1 ((ins (aq.least Z.us) (nd Z.ns k).id Z.us).length) (c1)),(5,.slice B1 ((ins (aq.least Z.us) (nd Z.ns k).id Z.us).length) (d1))]:Fr)
noncomputable abbrev Yp (Z:RS) (Y:RL):=([(2,vI (Z.cH)),(3,vI (Z.ar)),(4,.slice Y.H (Z.us.length) (Y.ch)),(5,.slice Y.V (Z.us.length) (Y.cv))]:Fr)
theorem wU {β:Bs} (Z:RS) (Y:RL) (hI:jV β Z Y.L Y.H Y.V) (hB:RB Z) (d:Nat) (hd:d < Z.ns.length) (name:ByteArray) (id:Int) :
    cG Tryz.prog β 75 #[.agg ⟨rV Z Y⟩,vI (((d:Nat):Int)),.string name,vI (id)] [dW Y Z,dN Y Z] (fun β' v l=>∃ L',v=.agg ⟨rV (bD Z d name id) Y⟩/\l=[.abs (av 66 10 Y.A ((bD Z d name id).ns.length) Y.c (aR L' (bD Z d name id).ns)),.abs (av 3 1 Y.G ((bD Z d name id).gone.length) Y.cg (ints (bD Z d name id).gone))]/\jV β' (bD Z d name id) L' Y.H Y.V):=by
 refine qb Tryz.func75 Tryz.ntmps75 (fun hle0 R=>?_)
 refine SR (jN 1 [4] (fun _=>[]) (fun _=>[]) (fun b1=>.blk b1 (rV Z Y) 42) (fun b1=>?_))
 refine jN 1 [8] (fun _=>[]) (fun _=>[]) (fun b2=>.blk b2 (rZ) 42) (fun b2=>?_)
 refine NS (jN 2 [9] (fun _=>[]) (fun _=>[]) (fun b3=>.blk b3 [] 68) (fun b3=>?_))
 refine NS (ak.mem (fun w hS=>hS.oF (i:=5) (b:=b3) (cs:=[]) (e:=68) 2 0 (by kernel_rfl) rfl (by decide)) ?_)
 refine jK 1 [10] [] ?_
 refine NS (ak.qF 0 rfl (by omega) (fun jy=>?_))
 refine jK 8 [11] [(2,a_ 3 b1),(4,x_ d Z.ns.length (jy)),(6,v_ 0 (nA Z.ns Y.L Y.A Y.c d 9 hd rfl))] ?_
 refine NN (af.seq (SR (jK 1 [12] [] ?_)))
 refine NN (af.block ?_)
 refine lJ (ι:=Nat×Bool×(List cX)×(Option Addr)×Nat) (fun (j,put,q,Ao,ca)=>(j<=(nd Z.ns d).ah.length)/\(dM (nd Z.ns d).ah name id j put q)) (fun (j,put,q,Ao,ca)=>(nd Z.ns d).ah.length - j) (fun (j,put,q,Ao,ca)=>([(1,vI ↑d),(2,.string name),(3,vI (id))]++Vq b1 b2 Ao q ca++[(10,.bool put),(11,.slice (Y.L.eA d) ((nd Z.ns d).ah.length) ((Y.L.eC d))),(12,vI ↑j)])) (fun (j,put,q,Ao,ca)=>(lG b1 Z Y b2++[dW Y Z,dN Y Z,.abs (av 68 2 Ao q.length ca (ju q)),.abs R])) (0,false,[],some ⟨b3,0,none⟩,0) [3,4,0,1,5,2] (⟨Nat.zero_le _,dM.start⟩) ?_
 rintro⟨j,put,q,Ao,ca⟩ ⟨hj,he⟩
 have Hg:=he.len hj
 have hrw:=hB.row hd
 refine af.seq (SR (jK 4 [24] [] ?_))
 refine NN (cP ((((j:Nat):Int):Int) < ((((nd Z.ns d).ah.length:Nat):Int):Int)) (fun zx=>?_) (fun zx=>?_))
 ·refine af.skip (NX (af.seq (af.block ?_)))
  refine af.join (ι:=Bool×(List cX)×(Option Addr)×Nat) (fun (p1,q1,A1,c1)=>(dM (nd Z.ns d).ah name id (j+1) p1 (q1++[en (nd Z.ns d).ah j]))/\(q1.length<=j+2)) (fun (p1,q1,A1,c1)=>([(1,vI ↑d),(2,.string name),(3,vI (id))]++Vq b1 b2 A1 q1 c1++[(10,.bool p1),(11,.slice (Y.L.eA d) ((nd Z.ns d).ah.length) ((Y.L.eC d))),(12,vI ↑j)])) (fun (p1,q1,A1,c1)=>(lG b1 Z Y b2++[dW Y Z,dN Y Z,.abs (av 68 2 A1 q1.length c1 (ju q1)),.abs R])) ?_ ?_
  ·rintro⟨p1,q1,A1,c1⟩ ⟨he1,hl1⟩
   refine af.region (jN 6 [44,49] (fun b4=>[(3,x_ j ((nd Z.ns d).ah.length) (aZ.hd (hI.ah d hd) (i:=j) (by omega))),(4,p_ ⟨[.old (.string (en (nd Z.ns d).ah j).name),.old (.int .i64 ((en (nd Z.ns d).ah j).id))],none,none,none,none⟩ [(Rd β ⟨(aJ (Y.L.eA d)),aI (Y.L.eA d)+j * 2+1,none⟩ (.int .i64 ((en (nd Z.ns d).ah j).id))),(Rd β ⟨(aJ (Y.L.eA d)),aI (Y.L.eA d)+j * 2,none⟩ (.string (en (nd Z.ns d).ah j).name))] ⟨aZ.rd (hI.ah d hd) (i:=j) (by omega) (j:=1) rfl,aZ.rd (hI.ah d hd) (i:=j) (by omega) (j:=0) rfl,trivial⟩)]) (fun _=>[]) (fun b4=>.blk b4 [.string (en (nd Z.ns d).ah j).name,vI ((en (nd Z.ns d).ah j).id)] 68) (fun b4=>?_))
   refine j3 4 64 (some ⟨b4,0,none⟩) 1 1 [.string (en (nd Z.ns d).ah j).name,vI ((en (nd Z.ns d).ah j).id)] rfl (dS (j:=6) rfl) (fun A5 c6=>?_)
   refine ak.bO 4 rfl (yX (e:=(en (nd Z.ns d).ah j))) ?_
   refine sl 50 (.slice A5 (q1.length+1) (c6)) (.slice A5 ((q1++[(en (nd Z.ns d).ah j)]).length) (c6)) (by rw [← kz]) ?_
   refine jK 1 [9] [] ?_
   refine NL (ai.aA (NX (af.region ?_)))
   refine jK 3 [12] [(1,wJ ((j:Int)+1) (↑(j+1)))] ?_
   refine NL ?_
   exact tJ ((j+1),p1,(q1++[(en (nd Z.ns d).ah j)]),A5,c6) [0,1,2,3,4,5] (⟨by omega,he1⟩)
  refine SR (jK 3 [29] [] ?_)
  refine ak.lK 29 (!put) (fun _=>by kernel_rfl) (fun Kn=>?_) (fun Kn=>?_)
  ·refine jK 8 [37] [(2,x_ j ((nd Z.ns d).ah.length) (aZ.hd (hI.ah d hd) (i:=j) (by omega))),(4,r_ (aZ.rd (hI.ah d hd) (i:=j) (by omega) (j:=0) rfl)),(6,p_ ⟨[],none,none,none,some (.bool (!(decide (eG ((en (nd Z.ns d).ah j).name) name))))⟩ [(Value.bool (!(Op.bytesLess (((en (nd Z.ns d).ah j).name):ByteArray).toList ((name):ByteArray).toList || (((en (nd Z.ns d).ah j).name):ByteArray).toList == ((name):ByteArray).toList)))=(.bool (!(decide (eG ((en (nd Z.ns d).ah j).name) name))))] ⟨Yg _ _,trivial⟩)] ?_
   refine NN (cN (eG ((en (nd Z.ns d).ah j).name) name) (fun uD=>?_) (fun uD=>?_))
   ·refine SR ?_
    have hl1:=kz (q:=q) (e:=(⟨name,id⟩:cX))
    refine jN 5 [38,42] (fun _=>[]) (fun _=>[]) (fun b7=>.blk b7 [.string name,vI (id)] 68) (fun b7=>?_)
    refine j3 4 64 (some ⟨b7,0,none⟩) 1 1 [.string name,vI (id)] rfl (dS (j:=6) rfl) (fun A8 c9=>?_)
    refine ak.bO 4 rfl (yX (e:=(⟨name,id⟩:cX))) ?_
    refine sl 43 (.slice A8 (q.length+1) (c9)) (.slice A8 ((q++[(⟨name,id⟩:cX)]).length) (c9)) (by rw [← kz]) ?_
    refine jK 1 [9] [] ?_
    refine NN (af.region (jK 1 [10] [] ?_))
    refine NL ?_
    exact mJ (true,(q++[(⟨name,id⟩:cX)]),A8,c9) [0,1,2,3,4,5] (⟨dM.put ((show put=false by simpa using Kn) ▸ he) (by omega) uD,by omega⟩)
   refine af.skip ?_
   exact mJ (put,q,Ao,ca) [0,1,2,3,4,5] (⟨he.keep (by omega) (fun _=>uD),by omega⟩)
  refine jK 8 [37] [] ?_
  refine NN (CF (af.skip ?_))
  exact mJ (put,q,Ao,ca) [0,1,2,3,4,5] (⟨he.keep (by omega) (fun e=>by rw [e] at Kn;cases Kn),by omega⟩)
 refine af.exit (ai.aC (ai.aC (ai.aU (NX ?_))))
 refine af.join (ι:=(List cX)×(Option Addr)×Nat) (fun (q2,A2,c2)=>(q2=(jm name id (nd Z.ns d).ah))) (fun (q2,A2,c2)=>([(1,vI ↑d)]++Vq b1 b2 A2 q2 c2)) (fun (q2,A2,c2)=>(lG b1 Z Y b2++[dW Y Z,dN Y Z,.abs (av 68 2 A2 q2.length c2 (ju q2)),.abs R])) ?_ ?_
 ·rintro⟨q2,A2,c2⟩ MO
  refine SR ?_
  subst MO
  refine ak.kg (Φ:=fun β'=>aZ β' A2 (jm name id (nd Z.ns d).ah)) 4 [0,1,2,3,5] (dX:=(lG b1 Z Y b2++[dW Y Z,dN Y Z,.abs R])) rfl rfl (by kernel_rfl) (fun F w h β' h1 h2=>bU.gy h h1 h2) (fun β1 aT hE=>?_)
  replace hI:=hI.le aT
  replace hle0:=hle0.trans aT
  refine jK 7 [63,65] [(2,a_ 0 b1),(5,x_ d Z.ns.length (jy))] ?_
  refine ak.vl 2 (d * 10+9) (d:=none) (T:=64) (e:=66) (size:=10) (n:=Z.ns.length) (cap:=Y.c) (A:=Y.A) (xs:=(aR Y.L Z.ns)) (u:=.slice A2 ((jm name id (nd Z.ns d).ah).length) (c2)) (a:=(.tmp 65)) (y:=(.tmp 63)) (fun _=>by kernel_rfl) (by kernel_rfl) (fun _=>by kernel_rfl) (fun _=>by kernel_rfl) (by kernel_rfl) rfl (by omega) (by rw [j5];omega) ?_
  refine NS (jK 9 [72,74] [(2,a_ 0 b1),(6,A_ 0 b1 2),(7,x_ d Z.ns.length (jy))] ?_)
  refine ak.yV 2 (d * 10+5) (d:=none) (T:=26) (e:=66) (size:=10) (n:=Z.ns.length) (cap:=Y.c) (A:=Y.A) (xs:=((aR Y.L Z.ns).set (d * 10+9) (.slice A2 ((jm name id (nd Z.ns d).ah).length) (c2)))) (u:=.int .i64 (Z.cS)) (u2:=.int .i64 (Z.cZ)) (a:=(.tmp 74)) (y:=(.tmp 72)) (fun _=>by kernel_rfl) (by kernel_rfl) (fun _=>by kernel_rfl) (fun _=>by kernel_rfl) (by kernel_rfl) rfl rfl (by omega) (by rw [List.length_set,j5];omega) ?_
  refine ak.bO 2 rfl (MS hd rfl) ?_
  refine NS (jC 2 [] [(0,A_ 0 b1 12),(1,A_ 1 b2 12)] [(1,(zC (rV Z Y)))] ?_)
  refine NN (af.ret ?_)
  exact rB (l:=[.abs (av 66 10 Y.A ((bD Z d name id).ns.length) Y.c (aR (Y.L.ent d A2 c2) (bD Z d name id).ns)),dN Y Z]) (.agg ⟨rV Z Y⟩) [A_ 1 b2 12] [2,3,4] hle0 (⟨_,by simp only [rV];rw [FY];rfl,rfl,hI.jL hd hE rfl rfl⟩)
 refine SR (jK 2 [52] [] ?_)
 refine NN (af.cond (b:=(!put)) (fun _=>by kernel_rfl) (fun wz=>?_) (fun wz=>?_))
 ·refine af.region (jN 5 [53,57] (fun _=>[]) (fun _=>[]) (fun b10=>.blk b10 [.string name,vI (id)] 68) (fun b10=>?_))
  refine j3 4 64 (some ⟨b10,0,none⟩) 1 1 [.string name,vI (id)] rfl (dS (j:=6) rfl) (fun CH zD=>?_)
  refine ak.bO 4 rfl (yX (e:=(⟨name,id⟩:cX))) ?_
  refine sl 58 (.slice CH (q.length+1) (zD)) (.slice CH ((q++[(⟨name,id⟩:cX)]).length) (zD)) (by rw [← kz]) ?_
  refine jK 1 [9] [] ?_
  refine NL ?_
  exact mJ ((q++[(⟨name,id⟩:cX)]),CH,zD) [0,1,2,3,4,5] (dM.last (by grind))
 refine af.skip ?_
 exact mJ (q,Ao,ca) [0,1,2,3,4,5] (dM.end_ (by grind))
theorem wV {β:Bs} (Z:RS) (Y:RL) (hI:jV β Z Y.L Y.H Y.V) {n:Nat} (hD:RD n Z) (hn:n<=7) (d:Nat) (hd:d < Z.ns.length) (name:ByteArray) (free:Bool) :
    cG Tryz.prog β 115 #[.agg ⟨rV Z Y⟩,vI (((d:Nat):Int)),.string name,.bool free] [dW Y Z,dN Y Z] (fun β' v l=>∃ L' G' cg',v=.agg ⟨rW (bA Z d name free) Y.A Y.c G' cg' Y.H Y.ch Y.V Y.cv⟩/\l=[.abs (av 66 10 Y.A ((bA Z d name free).ns.length) Y.c (aR L' (bA Z d name free).ns)),.abs (av 3 1 G' ((bA Z d name free).gone.length) cg' (ints (bA Z d name free).gone))]/\jV β' (bA Z d name free) L' Y.H Y.V):=by
 refine qb Tryz.func115 Tryz.ntmps115 (fun hle0 R=>?_)
 refine SR (jN 1 [4] (fun _=>[]) (fun _=>[]) (fun b13=>.blk b13 (rV Z Y) 42) (fun b13=>?_))
 refine jN 1 [8] (fun _=>[]) (fun _=>[]) (fun b14=>.blk b14 (rZ) 42) (fun b14=>?_)
 refine NS (jN 2 [9] (fun _=>[]) (fun _=>[]) (fun b15=>.blk b15 [] 68) (fun b15=>?_))
 refine NS (ak.mem (fun w hS=>hS.oF (i:=5) (b:=b15) (cs:=[]) (e:=68) 2 0 (by kernel_rfl) rfl (by decide)) ?_)
 refine ak.qF 0 rfl (by omega) (fun jy=>?_)
 refine jK 8 [10] [(2,a_ 3 b13),(4,x_ d Z.ns.length (jy)),(6,v_ 0 (nA Z.ns Y.L Y.A Y.c d 9 hd rfl))] ?_
 refine NS (jK 1 [11] [] ?_)
 refine NN (af.seq (SR (jK 1 [12] [] ?_)))
 refine NN (af.block ?_)
 refine lJ (ι:=Nat×(List cX)×Int×(Option Addr)×Nat) (fun (j,q,z,Ao,ca)=>(j<=(nd Z.ns d).ah.length)/\(q=oh name ((nd Z.ns d).ah.take j))/\(z=nD name ((nd Z.ns d).ah.take j) 0)) (fun (j,q,z,Ao,ca)=>(nd Z.ns d).ah.length - j) (fun (j,q,z,Ao,ca)=>([(1,vI ↑d),(2,.string name),(3,.bool free)]++Vq b13 b14 Ao q ca++[(10,.slice (Y.L.eA d) ((nd Z.ns d).ah.length) ((Y.L.eC d))),(11,vI (z)),(12,vI ↑j)])) (fun (j,q,z,Ao,ca)=>(lG b13 Z Y b14++[dW Y Z,dN Y Z,.abs (av 68 2 Ao q.length ca (ju q)),.abs R])) (0,[],0,some ⟨b15,0,none⟩,0) [3,4,0,1,5,2] (⟨Nat.zero_le _,rfl,rfl⟩) ?_
 rintro⟨j,q,z,Ao,ca⟩ ⟨hj,hq,hz⟩
 have Hg:q.length<=j:=by rw [hq];exact TR
 have hrw:=(hD.rb (by omega)).row hd
 refine af.seq (SR (jK 4 [24] [] ?_))
 refine NN (cP ((((j:Nat):Int):Int) < ((((nd Z.ns d).ah.length:Nat):Int):Int)) (fun zx=>?_) (fun zx=>?_))
 ·refine af.skip (NX (af.seq (af.block (SR ?_))))
  refine jK 7 [33] [(2,x_ j ((nd Z.ns d).ah.length) (aZ.hd (hI.ah d hd) (i:=j) (by omega))),(4,r_ (aZ.rd (hI.ah d hd) (i:=j) (by omega) (j:=0) rfl)),(6,w_ (.bool (decide (((en (nd Z.ns d).ah j).name:ByteArray)=name))) (mY _ _))] ?_
  refine NN (cP (((en (nd Z.ns d).ah j).name:ByteArray)=name) (fun GJ=>?_) (fun GJ=>?_))
  ·refine af.region (jK 6 [11] [(2,x_ j ((nd Z.ns d).ah.length) (aZ.hd (hI.ah d hd) (i:=j) (by omega))),(4,r_ (aZ.rd (hI.ah d hd) (i:=j) (by omega) (j:=1) rfl))] ?_)
   refine NL (ai.aA (NX (af.region ?_)))
   refine jK 3 [12] [(1,wJ ((j:Int)+1) (↑(j+1)))] ?_
   refine NL ?_
   exact tJ ((j+1),q,(en (nd Z.ns d).ah j).id,Ao,ca) [0,1,2,3,4,5] (⟨by omega,by grind [Ia],WK (by omega) GJ⟩)
  refine af.region (jN 6 [39,44] (fun b16=>[(3,x_ j ((nd Z.ns d).ah.length) (aZ.hd (hI.ah d hd) (i:=j) (by omega))),(4,p_ ⟨[.old (.string (en (nd Z.ns d).ah j).name),.old (.int .i64 ((en (nd Z.ns d).ah j).id))],none,none,none,none⟩ [(Rd β ⟨(aJ (Y.L.eA d)),aI (Y.L.eA d)+j * 2+1,none⟩ (.int .i64 ((en (nd Z.ns d).ah j).id))),(Rd β ⟨(aJ (Y.L.eA d)),aI (Y.L.eA d)+j * 2,none⟩ (.string (en (nd Z.ns d).ah j).name))] ⟨aZ.rd (hI.ah d hd) (i:=j) (by omega) (j:=1) rfl,aZ.rd (hI.ah d hd) (i:=j) (by omega) (j:=0) rfl,trivial⟩)]) (fun _=>[]) (fun b16=>.blk b16 [.string (en (nd Z.ns d).ah j).name,vI ((en (nd Z.ns d).ah j).id)] 68) (fun b16=>?_))
  refine j3 4 64 (some ⟨b16,0,none⟩) 1 1 [.string (en (nd Z.ns d).ah j).name,vI ((en (nd Z.ns d).ah j).id)] rfl (dS (j:=6) rfl) (fun kO lT=>?_)
  refine ak.bO 4 rfl (yX (e:=(en (nd Z.ns d).ah j))) ?_
  refine sl 45 (.slice kO (q.length+1) (lT)) (.slice kO ((q++[(en (nd Z.ns d).ah j)]).length) (lT)) (by rw [← kz]) ?_
  refine jK 1 [9] [] ?_
  refine NL (ai.aA (NX (af.region ?_)))
  refine jK 3 [12] [(1,wJ ((j:Int)+1) (↑(j+1)))] ?_
  refine NL ?_
  exact tJ ((j+1),(q++[(en (nd Z.ns d).ah j)]),z,kO,lT) [0,1,2,3,4,5] (⟨by omega,by grind [FT],by rw [hz];exact TQ (by omega) GJ⟩)
 refine af.exit (ai.aC (ai.aC (ai.aU (NX (SR ?_)))))
 have hje:j=(nd Z.ns d).ah.length:=by omega
 rw [hje,List.take_length] at hq hz
 subst hq
 subst hz
 refine ak.kg (Φ:=fun β'=>aZ β' Ao (oh name (nd Z.ns d).ah)) 4 [0,1,2,3,5] (dX:=(lG b13 Z Y b14++[dW Y Z,dN Y Z,.abs R])) rfl rfl (by kernel_rfl) (fun F w h β' h1 h2=>bU.gy h h1 h2) (fun β1 aT hE=>?_)
 replace hI:=hI.le aT
 replace hle0:=hle0.trans aT
 refine jK 7 [50,52] [(2,a_ 0 b13),(5,x_ d Z.ns.length (jy))] ?_
 refine ak.vl 2 (d * 10+9) (d:=none) (T:=64) (e:=66) (size:=10) (n:=Z.ns.length) (cap:=Y.c) (A:=Y.A) (xs:=(aR Y.L Z.ns)) (u:=.slice Ao ((oh name (nd Z.ns d).ah).length) (ca)) (a:=(.tmp 52)) (y:=(.tmp 50)) (fun _=>by kernel_rfl) (by kernel_rfl) (fun _=>by kernel_rfl) (fun _=>by kernel_rfl) (by kernel_rfl) rfl (by omega) (by rw [j5];omega) ?_
 refine NS (jK 9 [59,61] [(2,a_ 0 b13),(6,A_ 0 b13 2),(7,x_ d Z.ns.length (jy))] ?_)
 refine ak.yV 2 (d * 10+5) (d:=none) (T:=26) (e:=66) (size:=10) (n:=Z.ns.length) (cap:=Y.c) (A:=Y.A) (xs:=((aR Y.L Z.ns).set (d * 10+9) (.slice Ao ((oh name (nd Z.ns d).ah).length) (ca)))) (u:=.int .i64 (Z.cS)) (u2:=.int .i64 (Z.cZ)) (a:=(.tmp 61)) (y:=(.tmp 59)) (fun _=>by kernel_rfl) (by kernel_rfl) (fun _=>by kernel_rfl) (fun _=>by kernel_rfl) (by kernel_rfl) rfl rfl (by omega) (by rw [List.length_set,j5];omega) ?_
 refine ak.bO 2 rfl (MS hd rfl) ?_
 refine NN (af.seq (SR ?_))
 have bE:jV β1 (yY Z d name) (Y.L.ent d Ao ca) Y.H Y.V:=hI.jL hd hE rfl rfl
 have xO:RD (n+1) (yY Z d name):=hD.del hd
 refine jK 2 [63] [] ?_
 refine ak.lK 63 free (fun _=>by kernel_rfl) (fun h63=>?_) (fun h63=>?_)
 ·refine jK 2 [64,65] [(0,A_ 0 b13 12)] ?_
  have q2:=fun nJ (h:cq nJ (yY Z d name) ⟨Y.A,Y.c,(Y.L.ent d Ao ca),Y.G,Y.cg,Y.H,Y.ch,Y.V,Y.cv⟩)=>QA (yY Z d name) ⟨Y.A,Y.c,(Y.L.ent d Ao ca),Y.G,Y.cg,Y.H,Y.ch,Y.V,Y.cv⟩ h (xO.rb (by omega)) (nD name (nd Z.ns d).ah 0)
  simp only [rV,WN] at q2
  refine gL [2,3] (cW bE (fun _ _ h=>q2 _ h)) ?_
  rintro _ _ ⟨rfl,rfl⟩
  refine jK 2 [68] [] ?_
  refine NN (cP (((qw (yY Z d name).ns (nD name (nd Z.ns d).ah 0)):Int)=(0:Int)) (fun h68=>?_) (fun h68=>?_))
  ·refine af.region (jN 4 [70,72] (fun b19=>[(1,a_ 2 b13)]) (fun _=>[]) (fun b19=>.blk b19 [vI ((nD name (nd Z.ns d).ah 0))] 3) (fun b19=>?_))
   refine j3 1 38 (some ⟨b19,0,none⟩) 1 1 [vI ((nD name (nd Z.ns d).ah 0))] rfl (dS (j:=5) rfl) (fun jv jw=>?_) (n:=Z.gone.length) (hb:=by have:=hD.gone;omega)
   refine ak.bO 1 rfl (Bg) ?_
   refine sl 73 (.slice jv (Z.gone.length+1) (jw)) (.slice jv ((Z.gone++[(nD name (nd Z.ns d).ah 0)]).length) (jw)) (by rw [← kz]) ?_
   refine jC 2 [] [(1,a_ 2 b13)] [(2,[(1,.slice jv ((Z.gone++[(nD name (nd Z.ns d).ah 0)]).length) (jw))])] ?_
   refine NS (jC 2 [] [(0,A_ 2 b13 12),(1,A_ 3 b14 12)] [(3,([(0,.slice Y.A (Z.ns.length) (Y.c)),(1,.slice jv ((Z.gone++[(nD name (nd Z.ns d).ah 0)]).length) (jw))]++Yp Z Y++Ym Z))] ?_)
   refine NN (af.ret ?_)
   exact rB _ [A_ 3 b14 12] [0,1,4] hle0 (⟨(Y.L.ent d Ao ca),jv,jw,by simp only [rV,rW];rw [MT h63 h68,qZ]<;>rfl,by rw [MT h63 h68]<;>rfl,bE.same rfl rfl⟩)
  refine af.skip (NX (SR (jC 2 [] [(0,A_ 2 b13 12),(1,A_ 3 b14 12)] [(3,(zC (rV Z Y)))] ?_)))
  refine NN (af.ret ?_)
  exact rB _ [A_ 3 b14 12] [0,1,4] hle0 (⟨(Y.L.ent d Ao ca),Y.G,Y.cg,by simp only [rV,rW];rw [ER (fun _=>h68),qZ]<;>rfl,by rw [ER (fun _=>h68)]<;>rfl,bE.same rfl rfl⟩)
 refine jK 5 [68] [] ?_
 refine NN (CF (af.skip (NX (SR (jC 2 [] [(0,A_ 0 b13 12),(1,A_ 1 b14 12)] [(1,(zC (rV Z Y)))] ?_)))))
 refine NN (af.ret ?_)
 exact rB _ [A_ 1 b14 12] [2,3,4] hle0 (⟨(Y.L.ent d Ao ca),Y.G,Y.cg,by simp only [rV,rW];rw [ER (fun e=>by rw [e] at h63;cases h63),qZ]<;>rfl,by rw [ER (fun e=>by rw [e] at h63;cases h63)]<;>rfl,bE.same rfl rfl⟩)
theorem WO {β:Bs} (Z:RS) (Y:RL) (hI:jV β Z Y.L Y.H Y.V) {n:Nat} (hD:RD n Z) (hn:n<=8) (hl:0<=Z.last/\Z.last < 1099511627776) (d:Nat) (hd:d < Z.ns.length) (name:ByteArray) (x:ay) (hxd:x.data=[]) (QW:x.ah=[]) :
    cG Tryz.prog β 144 #[.agg ⟨rV Z Y⟩,vI (((d:Nat):Int)),.string name,.agg #[vI (x.id),vI (x.kind),vI (x.mode),vI (x.uid),vI (x.gid),vI (x.sec),vI (x.nano),.slice none (0) (0),.string x.target,.slice none (0) (0)]] [dW Y Z,dN Y Z] (fun β' v l=>∃ A' c' L',v=.agg ⟨rW (sS Z d name x) A' c' Y.G Y.cg Y.H Y.ch Y.V Y.cv⟩/\l=[.abs (av 66 10 A' ((sS Z d name x).ns.length) c' (aR L' (sS Z d name x).ns)),.abs (av 3 1 Y.G ((sS Z d name x).gone.length) Y.cg (ints (sS Z d name x).gone))]/\jV β' (sS Z d name x) L' Y.H Y.V):=by
 refine qb Tryz.func144 Tryz.ntmps144 (fun hle0 R=>?_)
 refine SR (jN 1 [4] (fun _=>[]) (fun _=>[]) (fun jl=>.blk jl (rV Z Y) 42) (fun jl=>?_))
 refine jN 1 [7] (fun _=>[]) (fun _=>[]) (fun Bh=>.blk Bh [vI (x.id),vI (x.kind),vI (x.mode),vI (x.uid),vI (x.gid),vI (x.sec),vI (x.nano),.slice none (0) (0),.string x.target,.slice none (0) (0)] 66) (fun Bh=>?_)
 refine jN 1 [8] (fun _=>[]) (fun _=>[]) (fun Vr=>.blk Vr (rZ) 42) (fun Vr=>?_)
 refine NS (jC 5 [] [(1,a_ 3 jl),(2,wJ (Z.last+1) (Z.last+1)),(4,a_ 3 jl)] [(3,[(11,vI (Z.last+1))])] ?_)
 refine NS (jC 4 [] [(1,a_ 3 jl),(3,a_ 4 Bh)] [(4,[(0,vI (Z.last+1))])] ?_)
 refine NS (jC 5 [] [(2,A_ 3 jl 2),(4,A_ 4 Bh 2)] [(4,[(5,vI (Z.cS)),(6,vI (Z.cZ))])] ?_)
 refine NS ?_
 have hI0:jV β ({ Z with last:=Z.last+1 }:RS) Y.L Y.H Y.V:=hI.same rfl rfl
 refine jK 5 [20,21,22,24] [(0,A_ 3 jl 12),(4,a_ 4 Bh)] ?_
 refine lS [0,1] (wU ({ Z with last:=Z.last+1 }:RS) Y hI0 (RD.rb (hD.last _) hn) d hd name (Z.last+1)) ?_
 rintro β1 _ _ aT ⟨L1,rfl,rfl,bE⟩
 replace hI:=hI.le aT
 replace hle0:=hle0.trans aT
 refine jC 1 [] [(0,A_ 3 jl 12)] [(3,(zC (rV (bD ({ Z with last:=Z.last+1 }:RS) d name (Z.last+1)) Y)))] ?_
 refine NS ?_
 have hl1:(bD ({ Z with last:=Z.last+1 }:RS) d name (Z.last+1)).ns.length=Z.ns.length:=FY
 refine jN 5 [28,30] (fun rQ=>[(2,a_ 3 jl),(3,A_ 4 Bh 10)]) (fun _=>[]) (fun rQ=>.blk rQ [vI (Z.last+1),vI (x.kind),vI (x.mode),vI (x.uid),vI (x.gid),vI (Z.cS),vI (Z.cZ),.slice none (0) (0),.string x.target,.slice none (0) (0)] 66) (fun rQ=>?_)
 refine j3 0 22 (some ⟨rQ,0,none⟩) 1 1 [vI (Z.last+1),vI (x.kind),vI (x.mode),vI (x.uid),vI (x.gid),vI (Z.cS),vI (Z.cZ),.slice none (0) (0),.string x.target,.slice none (0) (0)] rfl (dS (j:=6) rfl) (fun mQ mR=>?_) (n:=(bD ({ Z with last:=Z.last+1 }:RS) d name (Z.last+1)).ns.length) (hb:=by have:=hD.ns;omega)
 refine ak.bO 0 rfl (Dx (n:=({ x with id:=Z.last+1,sec:=Z.cS,nano:=Z.cZ }:ay)) (by show x.data.length=0;rw [hxd];rfl) (by show x.ah.length=0;rw [QW];rfl)) ?_
 refine sl 31 (.slice mQ (((bD ({ Z with last:=Z.last+1 }:RS) d name (Z.last+1)).ns.length)+1) (mR)) (.slice mQ (((bD ({ Z with last:=Z.last+1 }:RS) d name (Z.last+1)).ns++[({ x with id:=Z.last+1,sec:=Z.cS,nano:=Z.cZ }:ay)]).length) (mR)) (by rw [← kz]) ?_
 refine jC 3 [] [(2,a_ 3 jl)] [(3,[(0,.slice mQ (((bD ({ Z with last:=Z.last+1 }:RS) d name (Z.last+1)).ns++[({ x with id:=Z.last+1,sec:=Z.cS,nano:=Z.cZ }:ay)]).length) (mR))])] ?_
 refine NS (jC 2 [] [(0,A_ 3 jl 12),(1,A_ 5 Vr 12)] [(5,[(0,.slice mQ (((bD ({ Z with last:=Z.last+1 }:RS) d name (Z.last+1)).ns++[({ x with id:=Z.last+1,sec:=Z.cS,nano:=Z.cZ }:ay)]).length) (mR)),(1,.slice Y.G ((bD ({ Z with last:=Z.last+1 }:RS) d name (Z.last+1)).gone.length) (Y.cg)),(2,vI ((bD ({ Z with last:=Z.last+1 }:RS) d name (Z.last+1)).cH)),(3,vI ((bD ({ Z with last:=Z.last+1 }:RS) d name (Z.last+1)).ar)),(4,.slice Y.H ((bD ({ Z with last:=Z.last+1 }:RS) d name (Z.last+1)).us.length) (Y.ch)),(5,.slice Y.V ((bD ({ Z with last:=Z.last+1 }:RS) d name (Z.last+1)).us.length) (Y.cv)),(6,vI ((bD ({ Z with last:=Z.last+1 }:RS) d name (Z.last+1)).cN)),(7,vI ((bD ({ Z with last:=Z.last+1 }:RS) d name (Z.last+1)).cB)),(8,vI ((bD ({ Z with last:=Z.last+1 }:RS) d name (Z.last+1)).cH)),(9,vI ((bD ({ Z with last:=Z.last+1 }:RS) d name (Z.last+1)).cS)),(10,vI ((bD ({ Z with last:=Z.last+1 }:RS) d name (Z.last+1)).cZ)),(11,vI ((bD ({ Z with last:=Z.last+1 }:RS) d name (Z.last+1)).last))])] ?_)
 refine NN (af.ret ?_)
 exact rB _ [A_ 5 Vr 12] [0,1,2] hle0 (⟨mQ,mR,_,rfl,rfl,bE.snoc (n:=({ x with id:=Z.last+1,sec:=Z.cS,nano:=Z.cZ }:ay)) rfl hxd QW rfl⟩)
theorem t8 {β:Bs} (Z:RS) (Y:RL) (hR:cq β Z Y) (hB:RB Z) :
    cG Tryz.prog β 79 #[.agg ⟨rV Z Y⟩] [] (fun β' v l=>∃ Y',v=.agg ⟨rV (dx Z) Y'⟩/\l=[]/\cq β' (dx Z) Y'):=by
 refine qb Tryz.func79 Tryz.ntmps79 (fun hle0 R=>?_)
 refine SR (jN 1 [1] (fun _=>[]) (fun _=>[]) (fun fF=>.blk fF (rV Z Y) 42) (fun fF=>?_))
 refine jN 1 [2] (fun _=>[]) (fun _=>[]) (fun uG=>.blk uG (rZ) 42) (fun uG=>?_)
 refine NS (jN 2 [3] (fun _=>[]) (fun _=>[]) (fun Vs=>.blk Vs [] 66) (fun Vs=>?_))
 refine NS (ak.mem (fun w hS=>hS.oF (i:=3) (b:=Vs) (cs:=[]) (e:=66) 10 0 (by kernel_rfl) rfl (by decide)) ?_)
 refine jN 2 [4] (fun _=>[]) (fun _=>[]) (fun qy=>.blk qy [] 3) (fun qy=>?_)
 refine NN (af.seq (SR (ak.mem (fun w hS=>hS.oF (i:=4) (b:=qy) (cs:=[]) (e:=3) 1 0 (by kernel_rfl) rfl (by decide)) ?_)))
 refine jK 1 [5] [] ?_
 refine NN (af.block ?_)
 refine lJ (fun (i,p,K,An,cn,l,Ag,cg)=>(i<=Z.ns.length)/\(p=pY Z i)/\(l=lQ Z i)/\(kF β p p.length K)) (fun (i,p,K,An,cn,l,Ag,cg)=>Z.ns.length - i) (fun (i,p,K,An,cn,l,Ag,cg)=>(Vp fF uG An p cn Ag l cg i)) (fun (i,p,K,An,cn,l,Ag,cg)=>(lG fF Z Y uG++[.abs (av 66 10 An p.length cn (aR K p)),QV Ag l cg,.abs R])) (0,[],Ds,some ⟨Vs,0,none⟩,0,[],some ⟨qy,0,none⟩,0) [1,2,3,4,0] (⟨Nat.zero_le _,rfl,rfl,⟨fun i hi=>absurd hi (Nat.not_lt_zero i),fun i hi=>absurd hi (Nat.not_lt_zero i)⟩⟩) ?_
 rintro⟨i,p,K,An,cn,l,Ag,cg⟩ ⟨hi,hp,hl,hK⟩
 have Vj:=hB.ns
 have hpl:p.length<=i:=by rw [hp];exact G9
 have hll:l.length<=i:=by rw [hl];exact Qz
 refine af.seq (SR (jK 6 [16] [(3,a_ 0 fF)] ?_))
 refine NN (cP ((((i:Nat):Int):Int) < (((Z.ns.length:Nat):Int):Int)) (fun ou=>?_) (fun ou=>?_))
 ·refine af.skip (NX (af.seq (af.block (SR ?_))))
  refine jK 8 [6] [(2,a_ 0 fF),(4,x_ i Z.ns.length (aB.hd hR.n (i:=i) (by omega))),(6,r_ (aB.rd hR.n (i:=i) (by omega) (j:=0) rfl))] ?_
  refine NS (jK 1 [7] [] ?_)
  refine NN (af.seq (SR (jK 1 [8] [] ?_)))
  refine NN (af.block ?_)
  refine lJ (fun (k,op)=>(k<=Z.us.length)/\(op=true↔∃ q,q < k/\(gq Z.us).getD q 0=(nd Z.ns i).id)) (fun (k,op)=>Z.us.length - k) (fun (k,op)=>(Vp fF uG An p cn Ag l cg i++[(6,vI ((nd Z.ns i).id)),(7,.bool op),(8,vI ↑k)])) (fun (k,op)=>(lG fF Z Y uG++[.abs (av 66 10 An p.length cn (aR K p)),QV Ag l cg,.abs R])) (0,false) [0,1,2,3,4] (⟨Nat.zero_le _,⟨fun e=>(by cases e),fun ⟨q,h,_⟩=>absurd h (Nat.not_lt_zero q)⟩⟩) ?_
  rintro⟨k,op⟩ ⟨hk,hop⟩
  have hbu:=hB.us
  refine af.seq (SR (jK 6 [31] [(3,a_ 0 fF)] ?_))
  refine NN (cP ((((k:Nat):Int):Int) < (((Z.us.length:Nat):Int):Int)) (fun Pz=>?_) (fun Pz=>?_))
  ·refine af.skip (NX (af.seq (af.block (SR ?_))))
   refine jK 8 [41] [(2,a_ 0 fF),(4,x_ k Z.us.length (oI.hd (l:=(gq Z.us)) hR.v (j:=k) (by grind [gF,jr]))),(5,r_ (oI.rd (l:=(gq Z.us)) hR.v (j:=k) (by grind [gF,jr])))] ?_
   refine NN (cP ((((gq Z.us).getD k 0):Int)=((nd Z.ns i).id:Int)) (fun CK=>?_) (fun CK=>?_))
   ·refine af.region (jK 1 [7] [] ?_)
    refine NL (ai.aA (NX (af.region ?_)))
    refine jK 3 [8] [(1,wJ ((k:Int)+1) (↑(k+1)))] ?_
    refine NL ?_
    exact tJ ((k+1),true) [0,1,2,3,4] (⟨by omega,⟨fun _=>⟨k,by omega,CK⟩,fun _=>rfl⟩⟩)
   refine af.skip (ai.aA (NX (af.region ?_)))
   refine jK 3 [8] [(1,wJ ((k:Int)+1) (↑(k+1)))] ?_
   refine NL ?_
   exact tJ ((k+1),op) [0,1,2,3,4] (⟨by omega,⟨fun e=>let ⟨q,h1,h2⟩:=hop.1 e;⟨q,by omega,h2⟩,fun ⟨q,h1,h2⟩=>hop.2 (by grind)⟩⟩)
  refine af.exit (ai.aC (ai.aC (ai.aU (NX (af.seq (SR ?_))))))
  replace hop:op=true↔(nd Z.ns i).id∈gq Z.us:=hop.trans (by rw [show k=Z.us.length by omega];exact aaV.symm)
  refine jK 2 [42,43] [(0,A_ 0 fF 12)] ?_
  refine gL [] (vR Z Y hR hB (nd Z.ns i).id) ?_
  rintro _ _ ⟨rfl,rfl⟩
  refine jK 1 [45] [] ?_
  refine sP 45 ((nd Z.ns i).id∈Z.gone) (fun PF=>?_) (fun PF=>?_)
  ·refine jK 2 [47] [] ?_
   refine jK 1 [48] [] ?_
   refine NN (af.cond (b:=(!op)) (fun _=>by kernel_rfl) (fun h48=>?_) (fun h48=>?_))
   ·refine af.exit (ai.aC (ai.aU (NX (af.region ?_))))
    refine jK 3 [5] [(1,wJ ((i:Int)+1) (↑(i+1)))] ?_
    refine NL ?_
    have hnk:¬ ol Z (nd Z.ns i)=true:=fun e=>by grind [Dw]
    exact tJ ((i+1),p,K,An,cn,l,Ag,cg) [0,1,2,3,4] (⟨by omega,by rw [hp,J0 (by omega) hnk],by rw [hl,Om (by omega) hnk],hK⟩)
   have hkp:ol Z (nd Z.ns i)=true:=Dw.2 (fun hg=>hop.1 (by simpa using h48))
   refine af.skip (NX (af.join (fun (l2,A2,c2)=>(l2=lQ Z (i+1))) (fun (l2,A2,c2)=>(Vp fF uG An p cn A2 l2 c2 i)) (fun (l2,A2,c2)=>(lG fF Z Y uG++[.abs (av 66 10 An p.length cn (aR K p)),QV A2 l2 c2,.abs R])) ?_ ?_))
   ·rintro⟨l2,A2,c2⟩ hl2
    refine af.region (jN 8 [56,63] (fun b32=>[(3,a_ 0 fF),(5,x_ i Z.ns.length (aB.hd hR.n (i:=i) (by omega))),(6,zU (eP Y.L i (nd Z.ns i)) (fun _ _ h=>aB.rd hR.n (by omega) h))]) (fun _=>[]) (fun b32=>.blk b32 (eP Y.L i (nd Z.ns i)) 66) (fun b32=>?_))
    refine j3 2 22 (some ⟨b32,0,none⟩) 1 1 (eP Y.L i (nd Z.ns i)) rfl (dS (j:=5) rfl) (fun Hw Hy=>?_)
    refine ak.bO 2 rfl (Dx (n:=nd Z.ns i) rfl rfl) ?_
    refine sl 64 (.slice Hw (p.length+1) (Hy)) (.slice Hw ((p++[nd Z.ns i]).length) (Hy)) (by rw [← kz]) ?_
    refine jK 1 [3] [] ?_
    refine NL (ai.aA (NX (af.region ?_)))
    refine jK 3 [5] [(1,wJ ((i:Int)+1) (↑(i+1)))] ?_
    refine NL ?_
    exact tJ ((i+1),(p++[nd Z.ns i]),(K.put p.length (Y.L.dA i) (Y.L.dC i) (Y.L.eA i) (Y.L.eC i)),Hw,Hy,l2,A2,c2) [0,1,2,3,4] (⟨by omega,by rw [hp,wP (by omega) hkp],hl2,hK.snoc (hR.n.data i (by omega)) (hR.n.ah i (by omega))⟩)
   refine SR (jK 2 [49,50] [(0,A_ 0 fF 12)] ?_)
   refine gL [] (vR Z Y hR hB (nd Z.ns i).id) ?_
   rintro _ _ ⟨rfl,rfl⟩
   refine NN (cP ((nd Z.ns i).id∈Z.gone) (fun zy=>?_) (fun zy=>?_))
   ·refine af.region (jN 3 [52,54] (fun _=>[]) (fun _=>[]) (fun zY=>.blk zY [vI ((nd Z.ns i).id)] 3) (fun zY=>?_))
    refine j3 3 38 (some ⟨zY,0,none⟩) 1 1 [vI ((nd Z.ns i).id)] rfl (dS (j:=5) rfl) (fun Yq Yr=>?_)
    refine ak.bO 3 rfl (Bg) ?_
    refine sl 55 (.slice Yq (l.length+1) (Yr)) (.slice Yq ((l++[(nd Z.ns i).id]).length) (Yr)) (by rw [← kz]) ?_
    refine jK 1 [4] [] ?_
    refine NL ?_
    exact mJ ((l++[(nd Z.ns i).id]),Yq,Yr) [0,1,2,3,4] (by rw [hl,G7 (by omega) hkp zy])
   refine af.skip ?_
   exact mJ (l,Ag,cg) [0,1,2,3,4] (by rw [hl,J1 (by omega) hkp zy])
  refine jK 2 [47] [] ?_
  have hkp:ol Z (nd Z.ns i)=true:=Dw.2 (fun hg=>absurd hg PF)
  refine jK 1 [48] [] ?_
  refine NN (CF (af.skip (NX (af.join (fun (l2,A2,c2)=>(l2=lQ Z (i+1))) (fun (l2,A2,c2)=>(Vp fF uG An p cn A2 l2 c2 i)) (fun (l2,A2,c2)=>(lG fF Z Y uG++[.abs (av 66 10 An p.length cn (aR K p)),QV A2 l2 c2,.abs R])) ?_ ?_))))
  ·rintro⟨l2,A2,c2⟩ hl2
   refine af.region (jN 8 [56,63] (fun vV=>[(3,a_ 0 fF),(5,x_ i Z.ns.length (aB.hd hR.n (i:=i) (by omega))),(6,zU (eP Y.L i (nd Z.ns i)) (fun _ _ h=>aB.rd hR.n (by omega) h))]) (fun _=>[]) (fun vV=>.blk vV (eP Y.L i (nd Z.ns i)) 66) (fun vV=>?_))
   refine j3 2 22 (some ⟨vV,0,none⟩) 1 1 (eP Y.L i (nd Z.ns i)) rfl (dS (j:=5) rfl) (fun Ys Yt=>?_)
   refine ak.bO 2 rfl (Dx (n:=nd Z.ns i) rfl rfl) ?_
   refine sl 64 (.slice Ys (p.length+1) (Yt)) (.slice Ys ((p++[nd Z.ns i]).length) (Yt)) (by rw [← kz]) ?_
   refine jK 1 [3] [] ?_
   refine NL (ai.aA (NX (af.region ?_)))
   refine jK 3 [5] [(1,wJ ((i:Int)+1) (↑(i+1)))] ?_
   refine NL ?_
   exact tJ ((i+1),(p++[nd Z.ns i]),(K.put p.length (Y.L.dA i) (Y.L.dC i) (Y.L.eA i) (Y.L.eC i)),Ys,Yt,l2,A2,c2) [0,1,2,3,4] (⟨by omega,by rw [hp,wP (by omega) hkp],hl2,hK.snoc (hR.n.data i (by omega)) (hR.n.ah i (by omega))⟩)
  refine SR (jK 2 [49,50] [(0,A_ 0 fF 12)] ?_)
  refine gL [] (vR Z Y hR hB (nd Z.ns i).id) ?_
  rintro _ _ ⟨rfl,rfl⟩
  refine NN (cP ((nd Z.ns i).id∈Z.gone) (fun zy=>?_) (fun zy=>?_))
  ·refine af.region (jN 3 [52,54] (fun _=>[]) (fun _=>[]) (fun Yu=>.blk Yu [vI ((nd Z.ns i).id)] 3) (fun Yu=>?_))
   refine j3 3 38 (some ⟨Yu,0,none⟩) 1 1 [vI ((nd Z.ns i).id)] rfl (dS (j:=5) rfl) (fun Yv Yw=>?_)
   refine ak.bO 3 rfl (Bg) ?_
   refine sl 55 (.slice Yv (l.length+1) (Yw)) (.slice Yv ((l++[(nd Z.ns i).id]).length) (Yw)) (by rw [← kz]) ?_
   refine jK 1 [4] [] ?_
   refine NL ?_
   exact mJ ((l++[(nd Z.ns i).id]),Yv,Yw) [0,1,2,3,4] (by rw [hl,G7 (by omega) hkp zy])
  refine af.skip ?_
  exact mJ (l,Ag,cg) [0,1,2,3,4] (by rw [hl,J1 (by omega) hkp zy])
 refine af.exit (ai.aC (ai.aC (ai.aU (NX (SR ?_)))))
 have hie:i=Z.ns.length:=by omega
 rw [hie] at hp hl
 refine ak.kg (Φ:=fun β'=>bU β' An (aR K p)) 2 [0,1,3,4] (dX:=(lG fF Z Y uG++[QV Ag l cg,.abs R])) rfl rfl (by kernel_rfl) (fun F w h β' h1 h2=>bU.gy h h1 h2) (fun β1 aT hN=>?_)
 replace hR:=hR.le aT
 replace hK:=hK.le aT
 replace hle0:=hle0.trans aT
 refine ak.kg (Φ:=fun β'=>bU β' Ag (ints l)) 2 [0,1,3] (dX:=(lG fF Z Y uG++[.abs R])) rfl rfl (by kernel_rfl) (fun F w h β' h1 h2=>bU.gy h h1 h2) (fun nJ cI hG=>?_)
 replace hR:=hR.le cI
 replace hK:=hK.le cI
 replace hN:=hN.le cI
 replace hle0:=hle0.trans cI
 refine jC 4 [] [(3,a_ 0 fF)] [(0,[(0,.slice An (p.length) (cn))])] ?_
 refine NS (jC 3 [] [(2,a_ 0 fF)] [(0,[(1,.slice Ag (l.length) (cg))])] ?_)
 refine NS (jC 2 [] [(0,A_ 0 fF 12),(1,A_ 1 uG 12)] [(1,([(0,.slice An (p.length) (cn)),(1,.slice Ag (l.length) (cg))]++Yp Z Y++Ym Z))] ?_)
 refine NN (af.ret ?_)
 exact rB _ [A_ 1 uG 12] [2] hle0 (⟨⟨An,cn,K,Ag,cg,Y.H,Y.ch,Y.V,Y.cv⟩,by simp only [rV];rw [Kj hp,ES hl]<;>rfl,rfl,T8 hR hN hG hp hl hK⟩)
theorem Dz {β:Bs} (Z:RS) (Y:RL) (hR:cq β Z Y) (hC:RU Z) (k:Nat) (hk:k < Z.ns.length) :
    cG Tryz.prog β 70 #[.agg ⟨rV Z Y⟩,vI (((k:Nat):Int))] [] (fun β' v l=>∃ Y',v=.tuple #[.agg ⟨rV ((iC Z k).1) Y'⟩,vI (iC Z k).2.1,vI (iC Z k).2.2]/\l=[]/\cq β' (iC Z k).1 Y'):=by
 refine qb Tryz.func70 Tryz.ntmps70 (fun hle0 R=>?_)
 refine SR (jN 1 [2] (fun _=>[]) (fun _=>[]) (fun mT=>.blk mT (rV Z Y) 42) (fun mT=>?_))
 refine jN 3 [4] (fun _=>[]) (fun _=>[]) (fun q6=>.blk q6 (rZ) 42) (fun q6=>?_)
 refine NN (af.seq ?_)
 by_cases hf:(Z.us.length:Int) < Z.cH
 ·refine af.FZ (S:=[.blk mT (rV Z Y) 42]) 14 [(true,0),(true,1),(true,2),(true,3),(true,4),(true,5),(true,6),(true,7),(true,8),(false,9),(true,10),(true,11),(true,12),(true,13)] [(false,15),(false,16),(false,17)] (by kernel_rfl) (by kernel_rfl) (fun _ h=>h.pick (idx:=[1]) rfl rfl) ?_
  refine gJ [(false,9),(true,10),(true,11),(true,12),(true,13)] (Yn mT q6 Z Y k) [0,1,2,3,4,5,6,7,8] [(1,A_ 0 mT 4),(4,a_ 0 mT),(6,x_ k Z.ns.length (aB.hd hR.n (i:=k) (by omega))),(8,r_ (aB.rd hR.n (i:=k) (by omega) (j:=0) rfl))] ?_
  refine xG.beside (j:=14) (dj:=7) (R:=fun f_ l_=>∃ A1:Option Addr,∃ c1:Nat,∃ B1:Option Addr,∃ d1:Nat,f_=[(23,vI 0),(22,vI ((aq.least Z.us))),(21,.agg #[vI (Z.cH),vI ((max Z.ar ((Z.us.length:Int)+1))),.slice A1 ((ins (aq.least Z.us) (nd Z.ns k).id Z.us).length) (c1),.slice B1 ((ins (aq.least Z.us) (nd Z.ns k).id Z.us).length) (d1)]),(10,.tuple #[.agg #[vI (Z.cH),vI ((max Z.ar ((Z.us.length:Int)+1))),.slice A1 ((ins (aq.least Z.us) (nd Z.ns k).id Z.us).length) (c1),.slice B1 ((ins (aq.least Z.us) (nd Z.ns k).id Z.us).length) (d1)],vI ((aq.least Z.us)),vI 0]),(20,.tuple #[.agg #[vI (Z.cH),vI ((max Z.ar ((Z.us.length:Int)+1))),.slice A1 ((ins (aq.least Z.us) (nd Z.ns k).id Z.us).length) (c1),.slice B1 ((ins (aq.least Z.us) (nd Z.ns k).id Z.us).length) (d1)],vI ((aq.least Z.us)),vI 0]),(2,vP mT),(4,vP q6),(12,.agg #[vI (Z.cH),vI (Z.ar),.slice Y.H (Z.us.length) (Y.ch),.slice Y.V (Z.us.length) (Y.cv)]),(19,vI ((nd Z.ns k).id))]/\l_=[Yk A1 Z k c1,Vo B1 Z k d1]) (pc:=[]) (pj:=[]) (Z:=([.abs R]++lG mT Z Y q6)) [0,1,2] (fun _=>True) [(false,9,20),(true,10,10),(true,11,21),(true,12,22),(true,13,23)] (by kernel_rfl) rfl rfl (Ou (S1:=[.blk mT (rV Z Y) 42]) (pS:=[1]) rfl rfl) (trivial) rfl rfl (ic.of (ι:=Nat) (v:=fun (qz:Nat)=>vP qz) (l:=fun (qz:Nat)=>[.blk qz [vI 0,vI 0,.slice none (0) (0),.slice none (0) (0)] 40]) [20,10,21,22,23] rfl rfl rfl rfl ?_) ?_ ?_
  ·intro u Aq
   refine jN 1 [7] (fun _=>[]) (fun _=>[]) (fun qz=>.blk qz [vI 0,vI 0,.slice none (0) (0),.slice none (0) (0)] 40) (fun qz=>?_)
   refine NL ?_
   exact MD qz [7,20,10,21,22,23,2,4,12,19] [1,0]
  ·refine gh.step (ic.of (ι:=(Option Addr)×Nat×(Option Addr)×Nat) (v:=fun ((A1,c1,B1,d1):(Option Addr)×Nat×(Option Addr)×Nat)=>.tuple #[.agg #[vI (Z.cH),vI ((max Z.ar ((Z.us.length:Int)+1))),.slice A1 ((ins (aq.least Z.us) (nd Z.ns k).id Z.us).length) (c1),.slice B1 ((ins (aq.least Z.us) (nd Z.ns k).id Z.us).length) (d1)],vI ((aq.least Z.us)),vI 0]) (l:=fun ((A1,c1,B1,d1):(Option Addr)×Nat×(Option Addr)×Nat)=>[Yk A1 Z k c1,Vo B1 Z k d1]) [7] rfl rfl rfl rfl ?_) rfl ?_
   ·intro u Aq
    refine gL [] (WL Z.cH Z.ar Y.H Y.V Y.ch Y.cv Z.us hR.h hR.v (by have:=hC.us;omega) hC.usr hC.tR (nd Z.ns k).id hf) ?_
    rintro _ _ ⟨A1,c1,B1,d1,rfl,rfl⟩
    refine NL ?_
    exact MD (A1,c1,B1,d1) [20,7,2,4,12,19] [0,1,2]
   rintro _ _ ⟨⟨A1,c1,B1,d1⟩,rfl,rfl⟩
   refine⟨trivial,?_⟩
   refine gh.read (v:=.tuple #[.agg #[vI (Z.cH),vI ((max Z.ar ((Z.us.length:Int)+1))),.slice A1 ((ins (aq.least Z.us) (nd Z.ns k).id Z.us).length) (c1),.slice B1 ((ins (aq.least Z.us) (nd Z.ns k).id Z.us).length) (d1)],vI ((aq.least Z.us)),vI 0]) (fun _=>by kernel_rfl) rfl rfl ?_
   refine gh.read (v:=.agg #[vI (Z.cH),vI ((max Z.ar ((Z.us.length:Int)+1))),.slice A1 ((ins (aq.least Z.us) (nd Z.ns k).id Z.us).length) (c1),.slice B1 ((ins (aq.least Z.us) (nd Z.ns k).id Z.us).length) (d1)]) (fun _=>by kernel_rfl) rfl rfl ?_
   refine gh.read (v:=.int .i64 ((aq.least Z.us))) (fun _=>by kernel_rfl) rfl rfl ?_
   refine gh.read (v:=.int .i64 0) (fun _=>by kernel_rfl) rfl rfl ?_
   exact⟨A1,c1,B1,d1,rfl,rfl⟩
  rintro _ _ ⟨A1,c1,B1,d1,rfl,rfl⟩ _ _ ⟨qz,rfl,rfl⟩
  refine kC [4] [] [(0,A_ 2 qz 4)] [(2,[(0,vI (Z.cH)),(1,vI ((max Z.ar ((Z.us.length:Int)+1)))),(2,.slice A1 ((ins (aq.least Z.us) (nd Z.ns k).id Z.us).length) (c1)),(3,.slice B1 ((ins (aq.least Z.us) (nd Z.ns k).id Z.us).length) (d1))])] ?_
  refine dH.cut (ι:=Unit) (fr':=fun (_:Unit)=>[(2,vP mT),(4,vP q6),(7,vP qz),(8,vI (aq.least Z.us)),(23,vI 0)]) (hp':=fun (_:Unit)=>([Yk A1 Z k c1,Vo B1 Z k d1,Yl qz Z A1 k c1 B1 d1,.abs R]++lG mT Z Y q6)) [4] (by kernel_rfl) ?_ rfl (fun _=>by kernel_rfl) ?_
  ·refine jK 1 [8] [] ?_
   refine NL ?_
   exact MD () [2,4,7,8,23] [0,1,2,3,4,5]
  rintro _
  refine dH.last (by kernel_rfl) ?_
  refine jK 1 [9] [] ?_
  refine NL (ai.np (NX (SR ?_)))
  refine ak.kg (Φ:=fun β'=>bU β' A1 (ints (keys (ins (aq.least Z.us) (nd Z.ns k).id Z.us)))) 0 [1,2,3,4,5] (dX:=([Vo B1 Z k d1,Yl qz Z A1 k c1 B1 d1,.abs R]++lG mT Z Y q6)) rfl rfl (by kernel_rfl) (fun F w h β' h1 h2=>bU.gy h h1 h2) (fun β1 aT hH=>?_)
  replace hR:=hR.le aT
  replace hle0:=hle0.trans aT
  refine ak.kg (Φ:=fun β'=>bU β' B1 (ints (gq (ins (aq.least Z.us) (nd Z.ns k).id Z.us)))) 0 [1,2,3,4] (dX:=([Yl qz Z A1 k c1 B1 d1,.abs R]++lG mT Z Y q6)) rfl rfl (by kernel_rfl) (fun F w h β' h1 h2=>bU.gy h h1 h2) (fun nJ cI hV=>?_)
  replace hR:=hR.le cI
  replace hH:=hH.le cI
  replace hle0:=hle0.trans cI
  refine jC 3 [] [(0,A_ 0 qz 4),(2,A_ 2 mT 4)] [(2,(Yo Z A1 k c1 B1 d1))] ?_
  refine NS (jC 6 [5,6] [(0,A_ 2 mT 12),(3,A_ 3 q6 12)] [(3,([(0,.slice Y.A (Z.ns.length) (Y.c)),(1,.slice Y.G (Z.gone.length) (Y.cg)),(2,vI (Z.cH))]++Yo Z A1 k c1 B1 d1++Ym Z))] ?_)
  refine NN (af.ret ?_)
  exact rB _ [A_ 3 q6 12] [1] hle0 (⟨⟨Y.A,Y.c,Y.L,Y.G,Y.cg,A1,c1,B1,d1⟩,by rw [Ki hf]<;>rfl,rfl,by rw [Ki hf];exact⟨⟨hR.g,hH,hV⟩,hR.n⟩⟩)
 refine af.FZ (S:=[.blk mT (rV Z Y) 42]) 14 [(true,0),(true,1),(true,2),(true,3),(true,4),(true,5),(true,6),(true,7),(true,8),(false,9),(true,10),(true,11),(true,12),(true,13)] [(false,15),(false,16),(false,17)] (by kernel_rfl) (by kernel_rfl) (fun _ h=>h.pick (idx:=[1]) rfl rfl) ?_
 refine gJ [(false,9),(true,10),(true,11),(true,12),(true,13)] (Yn mT q6 Z Y k) [0,1,2,3,4,5,6,7,8] [(1,A_ 0 mT 4),(4,a_ 0 mT),(6,x_ k Z.ns.length (aB.hd hR.n (i:=k) (by omega))),(8,r_ (aB.rd hR.n (i:=k) (by omega) (j:=0) rfl))] ?_
 refine xG.beside (j:=14) (dj:=7) (R:=fun f_ l_=>f_=[(23,vI 130),(22,vI 0),(21,.agg #[vI (Z.cH),vI (Z.ar),.slice Y.H (Z.us.length) (Y.ch),.slice Y.V (Z.us.length) (Y.cv)]),(10,.tuple #[.agg #[vI (Z.cH),vI (Z.ar),.slice Y.H (Z.us.length) (Y.ch),.slice Y.V (Z.us.length) (Y.cv)],vI 0,vI 130]),(20,.tuple #[.agg #[vI (Z.cH),vI (Z.ar),.slice Y.H (Z.us.length) (Y.ch),.slice Y.V (Z.us.length) (Y.cv)],vI 0,vI 130]),(2,vP mT),(4,vP q6),(12,.agg #[vI (Z.cH),vI (Z.ar),.slice Y.H (Z.us.length) (Y.ch),.slice Y.V (Z.us.length) (Y.cv)]),(19,vI ((nd Z.ns k).id))]/\l_=[]) (pc:=[]) (pj:=[]) (Z:=([.abs R]++lG mT Z Y q6)) [0,1,2] (fun _=>True) [(false,9,20),(true,10,10),(true,11,21),(true,12,22),(true,13,23)] (by kernel_rfl) rfl rfl (Ou (S1:=[.blk mT (rV Z Y) 42]) (pS:=[1]) rfl rfl) (trivial) rfl rfl (ic.of (ι:=Nat) (v:=fun (t7:Nat)=>vP t7) (l:=fun (t7:Nat)=>[.blk t7 [vI 0,vI 0,.slice none (0) (0),.slice none (0) (0)] 40]) [20,10,21,22,23] rfl rfl rfl rfl ?_) ?_ ?_
 ·intro u Aq
  refine jN 1 [7] (fun _=>[]) (fun _=>[]) (fun t7=>.blk t7 [vI 0,vI 0,.slice none (0) (0),.slice none (0) (0)] 40) (fun t7=>?_)
  refine NL ?_
  exact MD t7 [7,20,10,21,22,23,2,4,12,19] [1,0]
 ·refine gh.step (ic.of (ι:=Unit) (v:=fun (_:Unit)=>.tuple #[.agg #[vI (Z.cH),vI (Z.ar),.slice Y.H (Z.us.length) (Y.ch),.slice Y.V (Z.us.length) (Y.cv)],vI 0,vI 130]) (l:=fun (_:Unit)=>[]) [7] rfl rfl rfl rfl ?_) rfl ?_
  ·intro u Aq
   refine gL [] (TS Z.cH Z.ar Y.H Y.V Y.ch Y.cv Z.us (nd Z.ns k).id (by omega)) ?_
   rintro _ _ ⟨rfl,rfl⟩
   refine NL ?_
   exact MD () [20,7,2,4,12,19] [0]
  rintro _ _ ⟨_,rfl,rfl⟩
  refine⟨trivial,?_⟩
  refine gh.read (v:=.tuple #[.agg #[vI (Z.cH),vI (Z.ar),.slice Y.H (Z.us.length) (Y.ch),.slice Y.V (Z.us.length) (Y.cv)],vI 0,vI 130]) (fun _=>by kernel_rfl) rfl rfl ?_
  refine gh.read (v:=.agg #[vI (Z.cH),vI (Z.ar),.slice Y.H (Z.us.length) (Y.ch),.slice Y.V (Z.us.length) (Y.cv)]) (fun _=>by kernel_rfl) rfl rfl ?_
  refine gh.read (v:=.int .i64 0) (fun _=>by kernel_rfl) rfl rfl ?_
  refine gh.read (v:=.int .i64 130) (fun _=>by kernel_rfl) rfl rfl ?_
  exact⟨rfl,rfl⟩
 rintro _ _ ⟨rfl,rfl⟩ _ _ ⟨t7,rfl,rfl⟩
 refine kC [2] [] [(0,A_ 0 t7 4)] [(0,[(0,vI (Z.cH)),(1,vI (Z.ar)),(2,.slice Y.H (Z.us.length) (Y.ch)),(3,.slice Y.V (Z.us.length) (Y.cv))])] ?_
 refine dH.cut (ι:=Unit) (fr':=fun (_:Unit)=>[(2,vP mT),(4,vP q6),(7,vP t7),(8,vI 0),(23,vI 130)]) (hp':=fun (_:Unit)=>([.blk t7 [vI (Z.cH),vI (Z.ar),.slice Y.H (Z.us.length) (Y.ch),.slice Y.V (Z.us.length) (Y.cv)] 40,.abs R]++lG mT Z Y q6)) [2] (by kernel_rfl) ?_ rfl (fun _=>by kernel_rfl) ?_
 ·refine jK 1 [8] [] ?_
  refine NL ?_
  exact MD () [2,4,7,8,23] [0,1,2,3]
 rintro _
 refine dH.last (by kernel_rfl) ?_
 refine jK 1 [9] [] ?_
 refine NL (ai.np (NX (SR ?_)))
 refine jC 3 [] [(0,A_ 0 t7 4),(2,A_ 2 mT 4)] [] ?_
 refine NS (jC 6 [5,6] [(0,A_ 2 mT 12),(3,A_ 3 q6 12)] [(3,(zC (rV Z Y)))] ?_)
 refine NN (af.ret ?_)
 exact rB _ [A_ 3 q6 12] [1] hle0 (⟨Y,by rw [MW hf]<;>rfl,rfl,by rw [MW hf];exact hR⟩)
end
section
open Go.RowKit Go.Maps aX aq
section q
variable {β β':Bs} {N:di} {Q:Post} {e:Exit} {fr:Fr} {hps l:List HP}
theorem ai.freeze (R:List HP) (pk:List Nat) (hn:aP pk=true) (hp:bp hps pk=some (l++R)) (K:∀ β':Bs,β.le β'->nU β R β'->ai β' N Q e fr l):ai β N Q e fr hps:=fun junk w hS=>by
  obtain⟨β',h,_,dr⟩:=(hS.pick hn hp).uj
  exact K β' h.le h junk w dr
variable {P:Program} {ops:Array Oper} {k:Nat}
theorem ak.freeze (R:List HP) (pk:List Nat) (hn:aP pk=true) (hp:bp hps pk=some (l++R)) (K:∀ β':Bs,β.le β'->nU β R β'->ak P β' N ops k fr l Q):ak P β N ops k fr hps Q:=fun junk w hS=>by
  obtain⟨β',h,_,dr⟩:=(hS.pick hn hp).uj
  exact K β' h.le h junk w dr
theorem ai.bM (ix:List Nat) (R:List HP) (K:∀ β':Bs,β.le β'->nU β R β'->ai β' N Q e fr (jO ix hps 0)) (hn:aP (mU ix hps.length 0++ix)=true:=by kernel_rfl) (hp:bp hps (mU ix hps.length 0++ix)=some (jO ix hps 0++R):=by kernel_rfl):ai β N Q e fr hps:=ai.freeze R _ hn hp K
theorem ak.bM (ix:List Nat) (R:List HP) (K:∀ β':Bs,β.le β'->nU β R β'->ak P β' N ops k fr (jO ix hps 0) Q) (hn:aP (mU ix hps.length 0++ix)=true:=by kernel_rfl) (hp:bp hps (mU ix hps.length 0++ix)=some (jO ix hps 0++R):=by kernel_rfl):ak P β N ops k fr hps Q:=ak.freeze R _ hn hp K
variable {c:Code}
theorem af.qF (i:Nat) {e:TypeId} {size n cap:Nat} {A:Option Addr} {xs:List Value} (hp:hps[i]?=some (.abs (av e size A n cap xs))) (hn:0 < n) (K:A=some ⟨aJ A,aI A,none⟩->af P β N c fr hps Q):af P β N c fr hps Q:=fun junk w hS=>
  let ⟨_,h⟩:=hS.get hp;K (av.wq h hn).1 junk w hS
def Vt (N:di) {ι:Type} (B:ι->Bs) (Inv:ι->Prop) (fr:ι->Fr) (hp:ι->List HP):Act->World->Prop:=fun a w=>∃ i,Inv i/\∃ junk,a=bY N (fr i) junk/\Sat (B i) (hp i) w
theorem af.Vu {x y:Code} {ι:Type} (B:ι->Bs) (Inv:ι->Prop) (fr':ι->Fr) (hp':ι->List HP) (hr:∀ i,Inv i->af P (B i) N y (fr' i) (hp' i) Q) (hf:af P β N x fr hps (Exit.then (Vt N B Inv fr' hp') Q)):af P β N (.seq x y) fr hps Q:=by
  intro junk w hS
  refine wp_seq (Code.wp_mono (fun e a w q=>?_) (hf junk w hS))
  cases e with
  | normal=>
    obtain⟨i,hi,iG,rfl,dr⟩:=q
    exact hr i hi iG w dr
  | exit id=>exact q
  | goto l=>exact q
  | ret=>exact q
  | panic ch=>exact q
  | outgrown=>exact q
theorem ai.Vv {ι:Type} {B:ι->Bs} {Inv:ι->Prop} {fr':ι->Fr} {hp':ι->List HP} (i:ι) (hb:B i=β) {idx pk:List Nat} (hi:Inv i) (hf:∀ junk,ij fr junk idx=fr' i) (hn:aP pk=true) (hp:bp hps pk=some (hp' i)) :
    ai β N (Exit.then (Vt N B Inv fr' hp') Q) .normal fr hps:=fun junk _ hS=>⟨i,hi,lk fr junk,by rw [jW N fr junk idx,hf junk],hb ▸ hS.pick hn hp⟩
end q
section k
variable {P:Program} {β β':Bs} {R R':RS} {f:FuncId} {args:Array Value} {x:Value} {ns ns':List ay} {L:Lay} {A B G H V:Option Addr} {c cb cg ch cv d k to:Nat} {n:ay} {bs ds:List UInt8} {name toName:ByteArray} {c0:aH}
structure zJ (β:Bs) (R:RS) (L:Lay) (H V:Option Addr) (k:Nat):Prop where
  data:∀ i,i < R.ns.length->i≠k->bh β (L.dA i) (nd R.ns i).data
  ah:∀ i,i < R.ns.length->aZ β (L.eA i) (nd R.ns i).ah
  h:bU β H (ints (keys R.us))
  v:bU β V (ints (gq R.us))
theorem zJ.le (h:zJ β R L H V k) (hle:β.le β'):zJ β' R L H V k:=⟨fun i hi hk=>(h.data i hi hk).le hle,fun i hi=>(h.ah i hi).le hle,h.h.le hle,h.v.le hle⟩
theorem zJ.at (h:zJ β R L H V k) (hA:B=L.dA k) (hd:ds=(nd R.ns k).data) (g:nU β [.abs (av 66 10 A R.ns.length c (aR L R.ns)),.abs (av 3 1 G R.gone.length cg (ints R.gone)),.abs (av 5 1 B ds.length cb (cx ds))] β'):cq β' R ⟨A,c,L,G,cg,H,ch,V,cv⟩:=by
  obtain⟨F,h1,h2⟩:=g.get 0 rfl
  obtain⟨F2,g1,g2⟩:=g.get 1 rfl
  obtain⟨F3,k1,k2⟩:=g.get 2 rfl
  have h':=h.le g.le
  refine⟨⟨bU.gy g1 g2 rfl,h'.h,h'.v⟩,bU.gy h1 h2 rfl,fun i hi=>?_,h'.ah⟩
  by_cases e:i=k
  ·subst e;rw [← hA,← hd];exact bU.gy k1 k2 rfl
  exact h'.data i hi e
theorem Kp (h:zJ β R L H V k) (hA:B=L.dA k) (hd:ds=(nd R.ns k).data) (hs:∀ β',β.le β'->cq β' R ⟨A,c,L,G,cg,H,ch,V,cv⟩->Spec P β' f args [] (fun v l=>v=x/\l=[])) :
    Spec P β f args [.abs (av 66 10 A R.ns.length c (aR L R.ns)),.abs (av 3 1 G R.gone.length cg (ints R.gone)),.abs (av 5 1 B ds.length cb (cx ds))] (fun v l=>v=x/\l=[.abs (av 66 10 A R.ns.length c (aR L R.ns)),.abs (av 3 1 G R.gone.length cg (ints R.gone)),.abs (av 5 1 B ds.length cb (cx ds))]):=
  (Spec.uj (pre:=[]) (R:=[.abs (av 66 10 A R.ns.length c (aR L R.ns)),.abs (av 3 1 G R.gone.length cg (ints R.gone)),.abs (av 5 1 B ds.length cb (cx ds))]) (fun β' g=>hs β' g.le (h.at hA hd g))).mono (by rintro v l ⟨l0,⟨rfl,rfl⟩,rfl⟩;exact⟨rfl,rfl⟩)
theorem zJ.set (h:zJ β R L H V k) (hk:k < R.ns.length) (hn:R'.ns=R.ns.set k n) (he:n.ah=(nd R.ns k).ah) (hu:R'.us=R.us):zJ β R' (L.dat k B c) H V k:=by
  refine⟨fun i hi hk2=>?_,fun i hi=>?_,by rw [hu];exact h.h,by rw [hu];exact h.v⟩
  ·rw [hn,List.length_set] at hi
   rw [hn,lF hk,if_neg hk2]
   show bh β (if i=k then B else L.dA i) _
   rw [if_neg hk2];exact h.data i hi hk2
  rw [hn,List.length_set] at hi
  rw [hn,lF hk]
  by_cases e:i=k
  ·rw [if_pos e,he];subst e;exact h.ah i hi
  rw [if_neg e];exact h.ah i hi
theorem M4 {m:Nat} (h:ds.length=m):bs.length+m=(bs++ds).length:=by rw [List.length_append,h]
theorem QX {m:Nat} (h:ds.length=m):HP.abs (av 5 1 B (bs.length+m) c (cx bs++cx ds))=HP.abs (av 5 1 B (bs++ds).length c (cx (bs++ds))):=by
  grind [M4,cx]
theorem T9:(L.dat k B c).dA k=B:=if_pos rfl
theorem WQ {s z:Int} (hk:k < ns.length) (h:ns'=ns.set k { nd ns k with data:=ds,sec:=s,nano:=z }) :
    HP.abs (av 66 10 A ns.length c ((((aR L ns).set (k * 10+7) (.slice B ds.length cb)).set (k * 10+5) (.int .i64 s)).set (k * 10+5+1) (.int .i64 z)))=HP.abs (av 66 10 A ns'.length c (aR (L.dat k B cb) ns')):=by
  rw [Ot hk,xD (by rw [List.length_set];exact hk),lF hk,if_pos rfl,List.set_set,h,List.length_set]
def gS (R:RS) (bs:List UInt8):Nat:=(min (bs.length:Int) (R.cB - (cT R.ns R.ns.length:Int))).toNat
def Ch (R:RS) (k:Nat) (bs:List UInt8):RS:={ R with ns:=R.ns.set k { nd R.ns k with data:=(nd R.ns k).data++bs.take (gS R bs),sec:=R.cS,nano:=R.cZ } }
theorem QY (h:(bs.length:Int)=0):lP R k bs=(R,0,0):=if_pos (List.eq_nil_of_length_eq_zero (by omega))
theorem QZ (h:¬ (bs.length:Int)=0) (h2:R.cB - (cT R.ns R.ns.length:Int)<=0):lP R k bs=(R,0,176):=(if_neg (fun e=>h (by rw [e];rfl))).trans (if_pos h2)
theorem Q0 (h:¬ (bs.length:Int)=0) (h2:¬ R.cB - (cT R.ns R.ns.length:Int)<=0):lP R k bs=(Ch R k bs,(gS R bs:Int),0):=(if_neg (fun e=>h (by rw [e];rfl))).trans (if_neg h2)
theorem aag:(bK R d name n).1.us=R.us:=by unfold bK;(repeat' split)<;>rfl
theorem LW (hk:k < ns.length) {m u g s z:Int}:(((((aR L ns).set (k * 10+2) (.int .i64 m)).set (k * 10+3) (.int .i64 u)).set (k * 10+4) (.int .i64 g)).set (k * 10+5) (.int .i64 s)).set (k * 10+5+1) (.int .i64 z)=aR L (ns.set k { nd ns k with mode:=m,uid:=u,gid:=g,sec:=s,nano:=z }):=by
  have e:∀ a:ay,k < (ns.set k a).length:=by grind
  rw [mz (n:={ nd ns k with mode:=m }) hk (by decide) (fun _ _ _=>rfl) rfl,
    mz (n:={ nd ns k with mode:=m,uid:=u }) (e _) (by decide) (fun _ _ _=>rfl) (by rw [lF hk,if_pos rfl];rfl),List.set_set,
    mz (n:={ nd ns k with mode:=m,uid:=u,gid:=g }) (e _) (by decide) (fun _ _ _=>rfl) (by rw [lF hk,if_pos rfl];rfl),List.set_set,
    xD (e _),lF hk,if_pos rfl,List.set_set]
def uT (R:RS) (k:Nat) (c:aH):RS:={ R with ns:=R.ns.set k { nd R.ns k with mode:=c.mode,uid:=c.uid,gid:=c.gid,sec:=c.sec,nano:=c.nano } }
theorem Ua (hk:k < R.ns.length):HP.abs (av 66 10 A R.ns.length c ((((((aR L R.ns).set (k * 10+2) (.int .i64 c0.mode)).set (k * 10+3) (.int .i64 c0.uid)).set (k * 10+4) (.int .i64 c0.gid)).set (k * 10+5) (.int .i64 c0.sec)).set (k * 10+5+1) (.int .i64 c0.nano)))=HP.abs (av 66 10 A (uT R k c0).ns.length c (aR L (uT R k c0).ns)):=by
  grind [LW,uT]
theorem DA:(uT R k c0).ns.length=R.ns.length:=List.length_set ..
theorem jV.meta (h:jV β R L H V) (hk:k < R.ns.length):jV β (uT R k c0) L H V:=by
  refine⟨fun i hi=>?_,fun i hi=>?_,h.h,h.v⟩
  ·rw [DA] at hi
   show bh β _ (nd (R.ns.set k _) i).data
   rw [lF hk]
   by_cases e:i=k
   ·rw [if_pos e];subst e;exact h.data i hi
   rw [if_neg e];exact h.data i hi
  rw [DA] at hi
  show aZ β _ (nd (R.ns.set k _) i).ah
  rw [lF hk]
  by_cases e:i=k
  ·rw [if_pos e];subst e;exact h.ah i hi
  rw [if_neg e];exact h.ah i hi
theorem Q5 {z:Int} (h:eH R c0.handle=.error z):jj R c0=(R,0,z):=by unfold jj;rw [h]
theorem Q6 (h:eH R c0.handle=.ok k) (h1:(nd R.ns k).kind=2/\(nd R.ns k).id∈R.gone):jj R c0=(R,0,170):=by unfold jj;rw [h];exact if_pos h1
theorem Q7 (h:eH R c0.handle=.ok k) (h1:¬ ((nd R.ns k).kind=2/\(nd R.ns k).id∈R.gone)) (h2:¬ gA c0.mode):jj R c0=(R,0,120):=by unfold jj;rw [h];exact (if_neg h1).trans (if_neg h2)
theorem ud (h:eH R c0.handle=.ok k) (h1:¬ ((nd R.ns k).kind=2/\(nd R.ns k).id∈R.gone)) (h2:gA c0.mode) (h3:¬ (mh c0.uid/\mh c0.gid)):jj R c0=(R,0,11):=by unfold jj;rw [h];exact (if_neg h1).trans ((if_pos h2).trans (if_neg h3))
theorem Q8 (h:eH R c0.handle=.ok k) (h1:¬ ((nd R.ns k).kind=2/\(nd R.ns k).id∈R.gone)) (h2:gA c0.mode) (h3:mh c0.uid/\mh c0.gid) (h4:¬ dw c0.sec c0.nano):jj R c0=(R,0,20):=by unfold jj;rw [h];exact (if_neg h1).trans ((if_pos h2).trans ((if_pos h3).trans (if_neg h4)))
theorem Q9 (h:eH R c0.handle=.ok k) (h1:¬ ((nd R.ns k).kind=2/\(nd R.ns k).id∈R.gone)) (h2:gA c0.mode) (h3:mh c0.uid/\mh c0.gid) (h4:dw c0.sec c0.nano):jj R c0=(uT R k c0,0,0):=by unfold jj;rw [h];exact (if_neg h1).trans ((if_pos h2).trans ((if_pos h3).trans (if_pos h4)))
theorem Kq (h:n.kind=3) (h1:¬ iQ n.target=0):bK R d name n=(R,iQ n.target):=if_pos ⟨h,h1⟩
theorem Ov (h:¬ (n.kind=3/\iQ n.target≠0)) (h1:bn R.ns d name=(k:Int)):bK R d name n=(R,171):=(if_neg h).trans (if_pos (by rw [h1];omega))
theorem F5 (h:¬ (n.kind=3/\iQ n.target≠0)) (h1:bn R.ns d name = -1) (h2:¬ rO R):bK R d name n=(R,177):=(if_neg h).trans ((if_neg (by rw [h1];decide)).trans (if_neg h2))
theorem Ow (h:¬ (n.kind=3/\iQ n.target≠0)) (h1:bn R.ns d name = -1) (h2:rO R):bK R d name n=(sS R d name n,0):=(if_neg h).trans ((if_neg (by rw [h1];decide)).trans (if_pos h2))
variable {b:Bool}
theorem Vw (h:bn R.ns d name = -1):fZ R d name b=(R,170):=if_neg (by rw [h];decide)
theorem Ci (h:bn R.ns d name=(k:Int)):fZ R d name b=if b=false/\(nd R.ns k).kind=2 then (R,172) else if b=true/\(nd R.ns k).kind≠2 then (R,173) else if b=true/\0 < (nd R.ns k).ah.length then (R,178) else (dx (bA R d name true),0):=by
  grind [fZ]
theorem Yx (h:bn R.ns d name=(k:Int)) (h1:b=false/\(nd R.ns k).kind=2):fZ R d name b=(R,172):=(Ci h).trans (if_pos h1)
theorem Yy (h:bn R.ns d name=(k:Int)) (h1:¬ (b=false/\(nd R.ns k).kind=2)) (h2:b=true/\(nd R.ns k).kind≠2):fZ R d name b=(R,173):=(Ci h).trans ((if_neg h1).trans (if_pos h2))
theorem Yz (h:bn R.ns d name=(k:Int)) (h1:¬ (b=false/\(nd R.ns k).kind=2)) (h2:¬ (b=true/\(nd R.ns k).kind≠2)) (h3:b=true/\0 < (nd R.ns k).ah.length):fZ R d name b=(R,178):=(Ci h).trans ((if_neg h1).trans ((if_neg h2).trans (if_pos h3)))
theorem YA (h:bn R.ns d name=(k:Int)) (h1:¬ (b=false/\(nd R.ns k).kind=2)) (h2:¬ (b=true/\(nd R.ns k).kind≠2)) (h3:¬ (b=true/\0 < (nd R.ns k).ah.length)):fZ R d name b=(dx (bA R d name true),0):=(Ci h).trans ((if_neg h1).trans ((if_neg h2).trans (if_neg h3)))
variable {w:Int}
theorem YB {z:Int} (h:d6 R c0.handle c0.name 64=.error z):fN R c0 w=(R,0,z):=by unfold fN;rw [h]
theorem YC (h:d6 R c0.handle c0.name 64=.ok d) (h1:bn R.ns d c0.name = -1):fN R c0 w=(R,0,170):=by unfold fN;rw [h];exact if_neg (by rw [h1];decide)
theorem Cj (h:d6 R c0.handle c0.name 64=.ok d) (h1:bn R.ns d c0.name=(k:Int)):fN R c0 w=if (nd R.ns k).kind=3 then (R,0,174) else if (nd R.ns k).kind≠w then (R,0,if (nd R.ns k).kind=1 then 173 else 172) else iC R k:=by
  grind [fN]
theorem YD (h:d6 R c0.handle c0.name 64=.ok d) (h1:bn R.ns d c0.name=(k:Int)) (h2:(nd R.ns k).kind=3):fN R c0 w=(R,0,174):=(Cj h h1).trans (if_pos h2)
theorem YE (h:d6 R c0.handle c0.name 64=.ok d) (h1:bn R.ns d c0.name=(k:Int)) (h2:¬ (nd R.ns k).kind=3) (h3:¬ (nd R.ns k).kind=w) (h4:(nd R.ns k).kind=1):fN R c0 w=(R,0,173):=(Cj h h1).trans ((if_neg h2).trans ((if_pos h3).trans (by rw [if_pos h4])))
theorem YF (h:d6 R c0.handle c0.name 64=.ok d) (h1:bn R.ns d c0.name=(k:Int)) (h2:¬ (nd R.ns k).kind=3) (h3:¬ (nd R.ns k).kind=w) (h4:¬ (nd R.ns k).kind=1):fN R c0 w=(R,0,172):=(Cj h h1).trans ((if_neg h2).trans ((if_pos h3).trans (by rw [if_neg h4])))
theorem YG (h:d6 R c0.handle c0.name 64=.ok d) (h1:bn R.ns d c0.name=(k:Int)) (h2:¬ (nd R.ns k).kind=3) (h3:(nd R.ns k).kind=w):fN R c0 w=iC R k:=(Cj h h1).trans ((if_neg h2).trans (if_neg (fun q=>q h3)))
theorem YH (h:bn R.ns d name = -1):eV R d name to toName=(R,170):=if_neg (by rw [h];decide)
def v7 (R:RS) (d:Nat) (name:ByteArray) (to:Nat) (toName:ByteArray) (k:Nat) (R1:RS):RS:=dx (bD (bA R1 d name false) to toName (nd R.ns k).id)
theorem Ck (h:bn R.ns d name=(k:Int)):eV R d name to toName=if (nd R.ns k).kind=2/\fT R.ns k (R.ns.length+1) to=true then (R,174) else if bn R.ns to toName=(k:Int) then (R,0) else if 0<=bn R.ns to toName then (if (nd R.ns (bn R.ns to toName).toNat).kind=2 then (R,172) else if (nd R.ns k).kind=2 then (R,173) else (v7 R d name to toName k (bA R to toName true),0)) else (v7 R d name to toName k R,0):=by
  unfold eV
  rw [if_pos (by rw [h];omega),h];rfl
variable {t:Nat}
theorem YI (h:bn R.ns d name=(k:Int)) (h1:(nd R.ns k).kind=2/\fT R.ns k (R.ns.length+1) to=true):eV R d name to toName=(R,174):=(Ck h).trans (if_pos h1)
theorem YJ (h:bn R.ns d name=(k:Int)) (h1:¬ ((nd R.ns k).kind=2/\fT R.ns k (R.ns.length+1) to=true)) (h2:bn R.ns to toName=(k:Int)):eV R d name to toName=(R,0):=(Ck h).trans ((if_neg h1).trans (if_pos h2))
theorem aaY (h:bn R.ns d name=(k:Int)) (h1:¬ ((nd R.ns k).kind=2/\fT R.ns k (R.ns.length+1) to=true)) (h2:bn R.ns to toName = -1):eV R d name to toName=(v7 R d name to toName k R,0):=(Ck h).trans ((if_neg h1).trans ((if_neg (by rw [h2];omega)).trans (if_neg (by rw [h2];decide))))
theorem Ub (h:bn R.ns d name=(k:Int)) (h1:¬ ((nd R.ns k).kind=2/\fT R.ns k (R.ns.length+1) to=true)) (h2:bn R.ns to toName=(t:Int)) (h3:¬ (t:Int)=(k:Int)):eV R d name to toName=if (nd R.ns t).kind=2 then (R,172) else if (nd R.ns k).kind=2 then (R,173) else (v7 R d name to toName k (bA R to toName true),0):=by
  grind [Ck]
theorem YK (h:bn R.ns d name=(k:Int)) (h1:¬ ((nd R.ns k).kind=2/\fT R.ns k (R.ns.length+1) to=true)) (h2:bn R.ns to toName=(t:Int)) (h3:¬ (t:Int)=(k:Int)) (h4:(nd R.ns t).kind=2):eV R d name to toName=(R,172):=(Ub h h1 h2 h3).trans (if_pos h4)
theorem YL (h:bn R.ns d name=(k:Int)) (h1:¬ ((nd R.ns k).kind=2/\fT R.ns k (R.ns.length+1) to=true)) (h2:bn R.ns to toName=(t:Int)) (h3:¬ (t:Int)=(k:Int)) (h4:¬ (nd R.ns t).kind=2) (h5:(nd R.ns k).kind=2):eV R d name to toName=(R,173):=(Ub h h1 h2 h3).trans ((if_neg h4).trans (if_pos h5))
theorem aaZ (h:bn R.ns d name=(k:Int)) (h1:¬ ((nd R.ns k).kind=2/\fT R.ns k (R.ns.length+1) to=true)) (h2:bn R.ns to toName=(t:Int)) (h3:¬ (t:Int)=(k:Int)) (h4:¬ (nd R.ns t).kind=2) (h5:¬ (nd R.ns k).kind=2):eV R d name to toName=(v7 R d name to toName k (bA R to toName true),0):=(Ub h h1 h2 h3).trans ((if_neg h4).trans (if_neg h5))
noncomputable def DB (R:RS) (c:aH) (d:Nat) (n:ay):sU:=if (bK R d c.name n).2=0/\c.op=5 then iC (bK R d c.name n).1 ((bK R d c.name n).1.ns.length - 1) else ((bK R d c.name n).1,0,(bK R d c.name n).2)
theorem Ox (h:c0.op=8\/c0.op=14):eM R c0 d=((fZ R d c0.name (decide (c0.op=14))).1,0,(fZ R d c0.name (decide (c0.op=14))).2):=if_pos h
theorem aa0 (h:¬ (c0.op=8\/c0.op=14)) (h1:c0.op=6):eM R c0 d=DB R c0 d ⟨0,3,511,0,0,0,0,[],c0.text,[]⟩:=((if_neg h).trans (if_pos h1)).trans (if_neg (fun q=>by have:=q.2;omega)).symm
theorem YM (h:¬ (c0.op=8\/c0.op=14)) (h1:¬ c0.op=6) (h2:¬ gA c0.mode):eM R c0 d=(R,0,120):=(if_neg h).trans ((if_neg h1).trans (if_neg h2))
theorem aa1 (h:¬ (c0.op=8\/c0.op=14)) (h1:¬ c0.op=6) (h2:gA c0.mode) (h3:c0.op=5):eM R c0 d=DB R c0 d ⟨0,1,c0.mode,0,0,0,0,[],⟨#[]⟩,[]⟩:=by
  refine ((if_neg h).trans ((if_neg h1).trans ((if_pos h2).trans (if_pos h3)))).trans ?_
  unfold DB
  grind
theorem aa2 (h:¬ (c0.op=8\/c0.op=14)) (h1:¬ c0.op=6) (h2:gA c0.mode) (h3:¬ c0.op=5):eM R c0 d=DB R c0 d ⟨0,2,c0.mode,0,0,0,0,[],⟨#[]⟩,[]⟩:=((if_neg h).trans ((if_neg h1).trans ((if_pos h2).trans (if_neg h3)))).trans (if_neg (fun q=>h3 q.2)).symm
theorem EU (h:¬ ((bK R d c0.name n).2=0/\c0.op=5)):DB R c0 d n=((bK R d c0.name n).1,0,(bK R d c0.name n).2):=if_neg h
theorem M5 (h:(bK R d c0.name n).2=0) (h1:c0.op=5):DB R c0 d n=iC (bK R d c0.name n).1 ((bK R d c0.name n).1.ns.length - 1):=if_pos ⟨h,h1⟩
theorem Ra (h:(bK R d name n).2=0):(bK R d name n).1.ns.length=R.ns.length+1:=by
  unfold bK at h ⊢
  split
  ·grind
  rename_i q
  rw [if_neg q] at h
  split
  ·grind
  rename_i q2
  rw [if_neg q2] at h
  split
  ·show (_++_:List ay).length=_
   grind [FY]
  grind
theorem Uc (h:c0.op=1):aS R c0=if 0<=fP R.ns c0.other then (if (nd R.ns (tgt R.ns c0.other)).kind=2 then iC R (tgt R.ns c0.other) else (R,0,173)) else (R,0,141):=if_pos h
theorem Vx (h:c0.op=1) (h1:fP R.ns c0.other = -1):aS R c0=(R,0,141):=(Uc h).trans (if_neg (by rw [h1];decide))
theorem Vy (h:c0.op=1) (h1:0<=fP R.ns c0.other) (h2:¬ (nd R.ns (tgt R.ns c0.other)).kind=2):aS R c0=(R,0,173):=(Uc h).trans ((if_pos h1).trans (if_neg h2))
theorem Vz (h:c0.op=1) (h1:0<=fP R.ns c0.other) (h2:(nd R.ns (tgt R.ns c0.other)).kind=2):aS R c0=iC R (tgt R.ns c0.other):=(Uc h).trans ((if_pos h1).trans (if_pos h2))
theorem YN (h:c0.op=2):aS R c0=fN R c0 2:=by unfold aS;rw [if_neg (by omega),if_pos h]
theorem YO (h:c0.op=3):aS R c0=fN R c0 1:=by unfold aS;rw [if_neg (by omega),if_neg (by omega),if_pos h]
abbrev EV (n:Int):Prop:=n=4\/n=5\/n=6\/n=8\/n=14
theorem YP (h:EV c0.op):aS R c0=match d6 R c0.handle c0.name 192 with|.error e=>(R,0,e)|.ok d=>eM R c0 d:=by unfold aS;rw [if_neg (by omega),if_neg (by omega),if_neg (by omega),if_pos h];rfl
theorem VA {z:Int} (h:EV c0.op) (h1:d6 R c0.handle c0.name 192=.error z):aS R c0=(R,0,z):=by rw [YP h,h1]
theorem VB (h:EV c0.op) (h1:d6 R c0.handle c0.name 192=.ok d):aS R c0=eM R c0 d:=by rw [YP h,h1]
theorem YQ (h:c0.op=7):aS R c0=rP R c0:=by unfold aS;rw [if_neg (by omega),if_neg (by omega),if_neg (by omega),if_neg (by omega),if_pos h]
theorem VD {z:Int} (h:c0.op=7) (h1:mK R c0 64=.error z):aS R c0=(R,0,z):=by rw [YQ h];unfold rP;rw [h1]
theorem VE (h:c0.op=7) (h1:mK R c0 64=.ok (d,to)):aS R c0=if 0<=bn R.ns d c0.name then (if (nd R.ns (bn R.ns d c0.name).toNat).kind=2 then (R,0,172) else if 0<=bn R.ns to c0.text then (R,0,171) else if (bJ R.ns R.ns.length:Int) < 8192 then (bD R to c0.text (nd R.ns (bn R.ns d c0.name).toNat).id,0,0) else (R,0,177)) else (R,0,170):=by rw [YQ h];unfold rP;rw [h1]
theorem VF (h:c0.op=7) (h1:mK R c0 64=.ok (d,to)) (h2:bn R.ns d c0.name = -1):aS R c0=(R,0,170):=(VE h h1).trans (if_neg (by rw [h2];decide))
theorem Iy (h:c0.op=7) (h1:mK R c0 64=.ok (d,to)) (h2:bn R.ns d c0.name=(k:Int)):aS R c0=if (nd R.ns k).kind=2 then (R,0,172) else if 0<=bn R.ns to c0.text then (R,0,171) else if (bJ R.ns R.ns.length:Int) < 8192 then (bD R to c0.text (nd R.ns k).id,0,0) else (R,0,177):=by
  refine (VE h h1).trans ((if_pos (by rw [h2];omega)).trans ?_)
  rw [h2];rfl
theorem VG (h:c0.op=7) (h1:mK R c0 64=.ok (d,to)) (h2:bn R.ns d c0.name=(k:Int)) (h3:(nd R.ns k).kind=2):aS R c0=(R,0,172):=(Iy h h1 h2).trans (if_pos h3)
theorem VH (h:c0.op=7) (h1:mK R c0 64=.ok (d,to)) (h2:bn R.ns d c0.name=(k:Int)) (h3:¬ (nd R.ns k).kind=2) (h4:bn R.ns to c0.text=(t:Int)):aS R c0=(R,0,171):=(Iy h h1 h2).trans ((if_neg h3).trans (if_pos (by rw [h4];omega)))
theorem VI (h:c0.op=7) (h1:mK R c0 64=.ok (d,to)) (h2:bn R.ns d c0.name=(k:Int)) (h3:¬ (nd R.ns k).kind=2) (h4:bn R.ns to c0.text = -1) (h5:¬ (bJ R.ns R.ns.length:Int) < 8192):aS R c0=(R,0,177):=(Iy h h1 h2).trans ((if_neg h3).trans ((if_neg (by rw [h4];decide)).trans (if_neg h5)))
theorem VJ (h:c0.op=7) (h1:mK R c0 64=.ok (d,to)) (h2:bn R.ns d c0.name=(k:Int)) (h3:¬ (nd R.ns k).kind=2) (h4:bn R.ns to c0.text = -1) (h5:(bJ R.ns R.ns.length:Int) < 8192):aS R c0=(bD R to c0.text (nd R.ns k).id,0,0):=(Iy h h1 h2).trans ((if_neg h3).trans ((if_neg (by rw [h4];decide)).trans (if_pos h5)))
theorem Ud (h:c0.op=9):aS R c0=match eH R c0.handle with|.error e=>(R,0,e)|.ok k=>if (nd R.ns k).kind=2 then (R,0,172) else lP R k c0.data:=by unfold aS;rw [if_neg (by omega),if_neg (by omega),if_neg (by omega),if_neg (by omega),if_neg (by omega),if_pos h];rfl
theorem VK {z:Int} (h:c0.op=9) (h1:eH R c0.handle=.error z):aS R c0=(R,0,z):=by rw [Ud h,h1]
theorem VL (h:c0.op=9) (h1:eH R c0.handle=.ok k) (h2:(nd R.ns k).kind=2):aS R c0=(R,0,172):=by rw [Ud h,h1];exact if_pos h2
theorem VN (h:c0.op=9) (h1:eH R c0.handle=.ok k) (h2:¬ (nd R.ns k).kind=2):aS R c0=lP R k c0.data:=by rw [Ud h,h1];exact if_neg h2
theorem VO (h:c0.op=10):aS R c0=jj R c0:=by unfold aS;rw [if_neg (by omega),if_neg (by omega),if_neg (by omega),if_neg (by omega),if_neg (by omega),if_neg (by omega),if_pos h]
theorem VP (h:c0.op=13):aS R c0=if c0.handle∈keys R.us then (dx { R with us:=del c0.handle R.us },0,0) else (dx R,0,131):=by unfold aS;rw [if_neg (by omega),if_neg (by omega),if_neg (by omega),if_neg (by omega),if_neg (by omega),if_neg (by omega),if_neg (by omega),if_pos h]
theorem Rb (h:c0.op=13) (h1:c0.handle∈keys R.us):aS R c0=(dx { R with us:=del c0.handle R.us },0,0):=(VP h).trans (if_pos h1)
theorem Rc (h:c0.op=13) (h1:c0.handle∉keys R.us):aS R c0=(dx R,0,131):=(VP h).trans (if_neg h1)
theorem VQ (h:c0.op=15):aS R c0=match mK R c0 192 with|.error e=>(R,0,e)|.ok (f,to)=>((eV R f c0.name to c0.text).1,0,(eV R f c0.name to c0.text).2):=by unfold aS;rw [if_neg (by omega),if_neg (by omega),if_neg (by omega),if_neg (by omega),if_neg (by omega),if_neg (by omega),if_neg (by omega),if_neg (by omega),if_pos h];rfl
theorem Rf {z:Int} (h:c0.op=15) (h1:mK R c0 192=.error z):aS R c0=(R,0,z):=by rw [VQ h,h1]
theorem Rg (h:c0.op=15) (h1:mK R c0 192=.ok (d,to)):aS R c0=((eV R d c0.name to c0.text).1,0,(eV R d c0.name to c0.text).2):=by rw [VQ h,h1]
theorem VR (h:¬ (1<=c0.op/\c0.op<=10\/13<=c0.op/\c0.op<=15)):aS R c0=(R,0,230):=by unfold aS;rw [if_neg (by omega),if_neg (by omega),if_neg (by omega),if_neg (by omega),if_neg (by omega),if_neg (by omega),if_neg (by omega),if_neg (by omega),if_neg (by omega)]
end k
end
section
open Go.RowKit Go.Maps aX aq
attribute [local irreducible] ak aV af ai dH
noncomputable abbrev M6 (Y:RL) (k:Nat) (Z:RS):=(.abs (av 5 1 (Y.L.dA k) ((nd Z.ns k).data.length) (Y.L.dC k) (cx (nd Z.ns k).data)):HP)
noncomputable abbrev YR (b11:Nat) (b12:Nat):=([(4,vP b11),(8,vP b12)]:Fr)
theorem Ue {β:Bs} (Z:RS) (Y:RL) (k:Nat) (hI:zJ β Z Y.L Y.H Y.V k) (hC:RC Z) (hk:k < Z.ns.length) (dA:Option Addr) (dC:Nat) (bs:List UInt8) (hbs:bh β dA bs) (hbl:bs.length<=140737488355328) (hbc:bs.length<=dC) :
    cG Tryz.prog β 76 #[.agg ⟨rV Z Y⟩,vI (((k:Nat):Int)),.slice dA (bs.length) (dC)] [dW Y Z,dN Y Z,M6 Y k Z] (fun β' v l=>∃ Y',v=.tuple #[.agg ⟨rV ((lP Z k bs).1) Y'⟩,vI (lP Z k bs).2.1,vI (lP Z k bs).2.2]/\l=[]/\cq β' (lP Z k bs).1 Y'):=by
 refine qb Tryz.func76 Tryz.ntmps76 (fun hle0 R=>?_)
 refine SR (jN 1 [3] (fun _=>[]) (fun _=>[]) (fun b1=>.blk b1 (rV Z Y) 42) (fun b1=>?_))
 refine jN 3 [6] (fun _=>[]) (fun _=>[]) (fun b2=>.blk b2 (rZ) 42) (fun b2=>?_)
 refine NN (af.seq (SR (jK 3 [13] [] ?_)))
 refine NN (cP ((((bs.length:Nat):Int):Int)=(0:Int)) (fun qc=>?_) (fun qc=>?_))
 ·refine SR (jC 4 [7,8] [(0,A_ 4 b1 12),(1,A_ 5 b2 12)] [(5,(zC (rV Z Y)))] ?_)
  refine NN (af.ret (ai.aj (ai.bM [0,1,2] [dW Y Z,dN Y Z,M6 Y k Z] (fun Bj ef hL=>?_))))
  have d8:cq Bj Z Y:=hI.at rfl rfl hL
  replace hI:=hI.le ef
  replace hbs:=hbs.le ef
  replace hle0:=hle0.trans ef
  exact rB _ [A_ 2 b2 12] [0] hle0 (⟨Y,by rw [QY qc]<;>rfl,rfl,by rw [QY qc];exact d8⟩)
 refine af.skip (NX (af.seq (af.bF (by kernel_rfl) (by kernel_rfl) ?_)))
 refine jQ 4 [17,18] [(2,a_ 4 b1),(3,A_ 4 b1 12)] ?_
 refine jT (pre:=[dW Y Z,dN Y Z,M6 Y k Z]) [0,1,2] [0,1,2,3,4,5] (.int .i64 ↑(cT Z.ns Z.ns.length)) (Kp hI rfl rfl (fun _ _ h=>J5 Z Y h hC.toRB)) ?_
 refine jQ 2 [9] [(0,p_ ⟨[],none,none,none,some (vI ((Z.cB - ((cT Z.ns Z.ns.length):Int))))⟩ [(Value.int .i64 (IntKind.wrap .i64 (Z.cB - (((cT Z.ns Z.ns.length):Nat):Int))))=(.int .i64 ((Z.cB - ((cT Z.ns Z.ns.length):Int))))] ⟨xI rfl (by have:=hC.cap;have:=hC.dat;omega) (by have:=hC.cap;omega),trivial⟩)] ?_
 refine NQ (NX (af.seq (SR ?_)))
 refine jK 2 [22] [] ?_
 refine NN (cP (((Z.cB - ((cT Z.ns Z.ns.length):Int)):Int)<=(0:Int)) (fun Ac=>?_) (fun Ac=>?_))
 ·refine SR (jC 4 [7,8] [(0,A_ 4 b1 12),(1,A_ 5 b2 12)] [(5,(zC (rV Z Y)))] ?_)
  refine NN (af.ret (ai.aj (ai.bM [0,1,2] [dW Y Z,dN Y Z,M6 Y k Z] (fun xW dV hL=>?_))))
  have d8:cq xW Z Y:=hI.at rfl rfl hL
  replace hI:=hI.le dV
  replace hbs:=hbs.le dV
  replace hle0:=hle0.trans dV
  exact rB _ [A_ 2 b2 12] [0] hle0 (⟨Y,by rw [QZ qc Ac]<;>rfl,rfl,by rw [QZ qc Ac];exact d8⟩)
 refine af.skip (NX (SR (jK 3 [10] [] ?_)))
 refine NN (af.join (fun (u:Unit)=>True) (fun (u:Unit)=>[(1,vI ↑k),(2,.slice dA (bs.length) (dC)),(3,vP b1),(6,vP b2),(10,vI ↑(gS Z bs))]) (fun (u:Unit)=>([dW Y Z,dN Y Z,M6 Y k Z,.abs R]++lG b1 Z Y b2)) ?_ ?_)
 ·rintro u _
  refine af.seq ?_
  have hml:(bs.take (gS Z bs)).length=gS Z bs:=by grind [gS]
  have hdk:=Kf (ns:=Z.ns) Z.ns.length hk
  have hmb:gS Z bs<=bs.length:=by unfold gS;omega
  have hmr:(gS Z bs:Int)<=Z.cB - (cT Z.ns Z.ns.length:Int):=by unfold gS;omega
  have hcb:=hC.cap
  refine af.qF 0 rfl (by omega) (fun jy=>?_)
  refine jM [0,1,2,3,4,5,6,7,8,9,10,11,12,13,514,15,16,517] [4,0] ?_
  refine jG 14 [1,3,6,10,32,33,40,43] [(2,a_ 0 b1),(6,a_ 0 b1),(8,x_ k Z.ns.length (jy)),(10,v_ 1 (nA Z.ns Y.L Y.A Y.c k 7 hk rfl)),(13,xP (gS Z bs) ((gS Z bs)<=dC))] ?_
  refine dH.cut (ι:=(Option Addr)×Nat) (fr':=fun ((A5,c6):(Option Addr)×Nat)=>[(1,vI ↑k),(3,vP b1),(6,vP b2),(10,vI ↑(gS Z bs)),(32,.slice Y.A (Z.ns.length) (Y.c)),(33,vI ↑k),(44,.slice A5 (((nd Z.ns k).data++bs.take (gS Z bs)).length) (c6))]) (hp':=fun ((A5,c6):(Option Addr)×Nat)=>([dW Y Z,dN Y Z,.abs (av 5 1 A5 (((nd Z.ns k).data++bs.take (gS Z bs)).length) c6 (cx ((nd Z.ns k).data++bs.take (gS Z bs)))),.abs R]++lG b1 Z Y b2)) [4,0] (by kernel_rfl) ?_ rfl (fun _=>by kernel_rfl) ?_
  ·refine Xj 2 51 dA (gS Z bs) dC (cx (bs.take (gS Z bs))) rfl ((bh.take hbs (gS Z bs)).src) (fun A5 c6=>?_) (hl:=by rw [rI,hml,Nat.mul_one]) (h1:=oo _)
   refine ak.bO 2 rfl (QX hml) ?_
   refine sl 44 (.slice A5 (((nd Z.ns k).data.length)+(gS Z bs)) (c6)) (.slice A5 (((nd Z.ns k).data++bs.take (gS Z bs)).length) (c6)) (by rw [M4 hml]) ?_
   refine NL ?_
   exact MD (A5,c6) [1,3,6,10,32,33,44] [0,1,2,3,4,5]
  rintro⟨A5,c6⟩
  refine jG 2 [1,3,6,10,44,46] [(0,x_ k Z.ns.length (jy))] ?_
  refine dH.last (by kernel_rfl) ?_
  refine ak.vl 0 (k * 10+7) (d:=none) (T:=51) (e:=66) (size:=10) (n:=Z.ns.length) (cap:=Y.c) (A:=Y.A) (xs:=(aR Y.L Z.ns)) (u:=.slice A5 (((nd Z.ns k).data++bs.take (gS Z bs)).length) (c6)) (a:=(.tmp 46)) (y:=(.tmp 44)) (fun _=>by kernel_rfl) (by kernel_rfl) (fun _=>by kernel_rfl) (fun _=>by kernel_rfl) (by kernel_rfl) rfl (by omega) (by rw [j5];omega) ?_
  refine NL (ai.np (NX (SR ?_)))
  refine jK 9 [53,55] [(2,a_ 4 b1),(6,A_ 4 b1 2),(7,x_ k Z.ns.length (jy))] ?_
  refine ak.yV 0 (k * 10+5) (d:=none) (T:=26) (e:=66) (size:=10) (n:=Z.ns.length) (cap:=Y.c) (A:=Y.A) (xs:=((aR Y.L Z.ns).set (k * 10+7) (.slice A5 (((nd Z.ns k).data++bs.take (gS Z bs)).length) (c6)))) (u:=.int .i64 (Z.cS)) (u2:=.int .i64 (Z.cZ)) (a:=(.tmp 55)) (y:=(.tmp 53)) (fun _=>by kernel_rfl) (by kernel_rfl) (fun _=>by kernel_rfl) (fun _=>by kernel_rfl) (by kernel_rfl) rfl rfl (by omega) (by rw [List.length_set,j5];omega) ?_
  refine ak.bO 0 rfl (WQ hk rfl) ?_
  refine NS (jC 5 [7,8] [(0,A_ 4 b1 12),(2,A_ 5 b2 12)] [(5,(zC (rV Z Y)))] ?_)
  refine NN (af.ret (ai.bM [0,1,2] [.abs (av 66 10 Y.A ((Ch Z k bs).ns.length) Y.c (aR (Y.L.dat k A5 c6) (Ch Z k bs).ns)),dN Y Z,.abs (av 5 1 A5 (((nd Z.ns k).data++bs.take (gS Z bs)).length) c6 (cx ((nd Z.ns k).data++bs.take (gS Z bs))))] (fun Hz iM hL=>?_)))
  have d8:cq Hz (Ch Z k bs) ⟨Y.A,Y.c,(Y.L.dat k A5 c6),Y.G,Y.cg,Y.H,Y.ch,Y.V,Y.cv⟩:=(hI.set (R':=Ch Z k bs) hk rfl rfl rfl).at T9.symm (by show _=(nd (Z.ns.set k _) k).data;rw [lF hk,if_pos rfl]) hL
  replace hI:=hI.le iM
  replace hbs:=hbs.le iM
  replace hle0:=hle0.trans iM
  exact rB (.tuple #[.agg ⟨rV Z Y⟩,vI ↑(gS Z bs),vI 0]) [A_ 2 b2 12] [0] hle0 (⟨⟨Y.A,Y.c,(Y.L.dat k A5 c6),Y.G,Y.cg,Y.H,Y.ch,Y.V,Y.cv⟩,by grind [rV,Q0,Ch,gS],rfl,by rw [Q0 qc Ac];exact d8⟩)
 refine SR (jK 3 [28] [] ?_)
 refine NN (cP ((((bs.length:Nat):Int):Int) > ((Z.cB - ((cT Z.ns Z.ns.length):Int)):Int)) (fun uz=>?_) (fun uz=>?_))
 ·refine af.region (jK 2 [10] [] ?_)
  refine NL (ai.slot 10 (.int .i64 ((Z.cB - ((cT Z.ns Z.ns.length):Int)))) (.int .i64 ↑(gS Z bs)) (fun _=>by kernel_rfl) (congrArg (Value.int .i64) (by unfold gS;omega)) ?_)
  exact mJ () [0,1,2,3,4,5] (trivial)
 refine af.skip (ai.slot 10 (.int .i64 ↑bs.length) (.int .i64 ↑(gS Z bs)) (fun _=>by kernel_rfl) (congrArg (Value.int .i64) (by unfold gS;omega)) ?_)
 exact mJ () [0,1,2,3,4,5] (trivial)
theorem Rh {β:Bs} (Z:RS) (Y:RL) (hI:jV β Z Y.L Y.H Y.V) (hC:RC Z) {n:Nat} (hD:RD n Z) (hn:n<=7) (d:Nat) (hd:d < Z.ns.length) (name:ByteArray) (x:ay) (hxd:x.data=[]) (QW:x.ah=[]) (Qb:x.target.size<=1048576) :
    cG Tryz.prog β 113 #[.agg ⟨rV Z Y⟩,vI (((d:Nat):Int)),.string name,.agg #[vI (x.id),vI (x.kind),vI (x.mode),vI (x.uid),vI (x.gid),vI (x.sec),vI (x.nano),.slice none (0) (0),.string x.target,.slice none (0) (0)]] [dW Y Z,dN Y Z] (fun β' v l=>∃ A' c' L',v=.tuple #[.agg ⟨rW ((bK Z d name x).1) A' c' Y.G Y.cg Y.H Y.ch Y.V Y.cv⟩,vI (bK Z d name x).2]/\l=[.abs (av 66 10 A' ((bK Z d name x).1.ns.length) c' (aR L' (bK Z d name x).1.ns)),.abs (av 3 1 Y.G ((bK Z d name x).1.gone.length) Y.cg (ints (bK Z d name x).1.gone))]/\jV β' (bK Z d name x).1 L' Y.H Y.V):=by
 refine qb Tryz.func113 Tryz.ntmps113 (fun hle0 R=>?_)
 refine SR (jN 1 [4] (fun _=>[]) (fun _=>[]) (fun b8=>.blk b8 (rV Z Y) 42) (fun b8=>?_))
 refine jN 1 [7] (fun _=>[]) (fun _=>[]) (fun b9=>.blk b9 [vI (x.id),vI (x.kind),vI (x.mode),vI (x.uid),vI (x.gid),vI (x.sec),vI (x.nano),.slice none (0) (0),.string x.target,.slice none (0) (0)] 66) (fun b9=>?_)
 refine jN 2 [8] (fun _=>[]) (fun _=>[]) (fun b10=>.blk b10 (rZ) 42) (fun b10=>?_)
 refine NN (af.join (fun (u:Unit)=>(¬ (x.kind=3/\iQ x.target≠0))) (fun (u:Unit)=>[(1,vI ↑d),(2,.string name),(4,vP b8),(7,vP b9),(8,vP b10)]) (fun (u:Unit)=>[dW Y Z,dN Y Z,.abs R,.blk b8 (rV Z Y) 42,.blk b9 [vI (x.id),vI (x.kind),vI (x.mode),vI (x.uid),vI (x.gid),vI (x.sec),vI (x.nano),.slice none (0) (0),.string x.target,.slice none (0) (0)] 66,.blk b10 (rZ) 42]) ?_ ?_)
 ·rintro u hb
  refine af.seq (SR (jK 3 [21,22,23] [(0,A_ 3 b8 12)] ?_))
  rcases j7 Z.ns d name with hl|⟨k,hl,hk⟩
  ·refine gL [0,1] ((cW hI (fun _ _ h=>iR Z Y h hC d hd name)).val (congrArg (Value.int .i64) hl)) ?_
   rintro _ _ ⟨rfl,rfl⟩
   refine jK 1 [25] [] ?_
   refine NN (CF (af.skip (NX (af.seq (SR (jK 1 [27] [(0,A_ 3 b8 12)] ?_))))))
   refine gL [0,1] (cW hI (fun _ _ h=>T6 Z Y h hC.toRB)) ?_
   rintro _ _ ⟨rfl,rfl⟩
   refine jK 1 [29] [] ?_
   refine NN (cN (rO Z) (fun uz=>?_) (fun uz=>?_))
   ·refine SR (jC 3 [9] [(0,A_ 3 b8 12),(1,A_ 5 b10 12)] [(5,(zC (rV Z Y)))] ?_)
    refine NN (af.ret (ai.aj ?_))
    exact rB _ [A_ 5 b10 12] [0,1,2] hle0 (⟨Y.A,Y.c,Y.L,by rw [F5 hb hl uz]<;>rfl,by rw [F5 hb hl uz],by rw [F5 hb hl uz];exact hI⟩)
   refine af.skip (NX (SR (jK 4 [31,32,33,34] [(0,A_ 3 b8 12),(3,A_ 4 b9 10)] ?_)))
   refine lS [0,1] (WO Z Y hI hD (by omega) ⟨hC.cap.2.2.2.2.2.2.1,uz.2.1⟩ d hd name x hxd QW) ?_
   rintro β1 _ _ aT ⟨A1,c1,L1,rfl,rfl,bE⟩
   replace hI:=hI.le aT
   replace hle0:=hle0.trans aT
   refine jC 2 [9] [(0,A_ 5 b10 12)] [(5,(zC (rW (sS Z d name x) A1 c1 Y.G Y.cg Y.H Y.ch Y.V Y.cv)))] ?_
   refine NN (af.ret ?_)
   exact rB _ [A_ 5 b10 12] [0,1,2] hle0 (⟨A1,c1,L1,by rw [Ow hb hl uz]<;>rfl,by rw [Ow hb hl uz],by rw [Ow hb hl uz];exact bE⟩)
  refine gL [0,1] ((cW hI (fun _ _ h=>iR Z Y h hC d hd name)).val (congrArg (Value.int .i64) hl)) ?_
  rintro _ _ ⟨rfl,rfl⟩
  refine jK 1 [25] [(0,wT (((k:Int):Int) ≥ (0:Int)))] ?_
  refine NN (CT (SR (jC 3 [9] [(0,A_ 3 b8 12),(1,A_ 5 b10 12)] [(5,(zC (rV Z Y)))] ?_)))
  refine NN (af.ret (ai.aj ?_))
  exact rB _ [A_ 5 b10 12] [0,1,2] hle0 (⟨Y.A,Y.c,Y.L,by rw [Ov hb hl]<;>rfl,by rw [Ov hb hl],by rw [Ov hb hl];exact hI⟩)
 refine SR (jK 3 [13] [(1,a_ 4 b9)] ?_)
 refine NN (cP ((x.kind:Int)=(3:Int)) (fun qc=>?_) (fun qc=>?_))
 ·refine SR (jK 2 [15] [(1,a_ 4 b9)] ?_)
  refine gL [] (T7 x.target Qb) ?_
  rintro _ _ ⟨rfl,rfl⟩
  refine jK 1 [10] [] ?_
  refine NS (jK 2 [18] [] ?_)
  refine NN (cN (((iQ x.target):Int)=(0:Int)) (fun nK=>?_) (fun nK=>?_))
  ·refine SR (jC 4 [9] [(0,A_ 3 b8 12),(2,A_ 5 b10 12)] [(5,(zC (rV Z Y)))] ?_)
   refine NN (af.ret (ai.aj ?_))
   exact rB _ [A_ 5 b10 12] [0,1,2] hle0 (⟨Y.A,Y.c,Y.L,by rw [Kq qc nK]<;>rfl,by rw [Kq qc nK],by rw [Kq qc nK];exact hI⟩)
  refine af.skip ?_
  exact mJ () [0,1,2,3,4,5] (fun q=>q.2 (by omega))
 refine af.skip ?_
 exact mJ () [0,1,2,3,4,5] (fun q=>qc q.1)
theorem HB {β:Bs} (Z:RS) (Y:RL) (hI:jV β Z Y.L Y.H Y.V) (hC:RC Z) {n:Nat} (hD:RD n Z) (hn:n<=7) (d:Nat) (hd:d < Z.ns.length) (name:ByteArray) (dir:Bool) :
    cG Tryz.prog β 111 #[.agg ⟨rV Z Y⟩,vI (((d:Nat):Int)),.string name,.bool dir] [dW Y Z,dN Y Z] (fun β' v l=>∃ Y',v=.tuple #[.agg ⟨rV ((fZ Z d name dir).1) Y'⟩,vI (fZ Z d name dir).2]/\l=[]/\cq β' (fZ Z d name dir).1 Y'):=by
 refine qb Tryz.func111 Tryz.ntmps111 (fun hle0 R=>?_)
 refine SR (jN 1 [4] (fun _=>[]) (fun _=>[]) (fun b11=>.blk b11 (rV Z Y) 42) (fun b11=>?_))
 refine jN 2 [8] (fun _=>[]) (fun _=>[]) (fun b12=>.blk b12 (rZ) 42) (fun b12=>?_)
 refine NS (jK 3 [11,12,13] [(0,A_ 3 b11 12)] ?_)
 rcases j7 Z.ns d name with hl|⟨k,hl,hk⟩
 ·refine gL [0,1] ((cW hI (fun _ _ h=>iR Z Y h hC d hd name)).val (congrArg (Value.int .i64) hl)) ?_
  rintro _ _ ⟨rfl,rfl⟩
  refine jK 1 [10] [] ?_
  refine NN (af.seq (SR (jK 2 [16] [] ?_)))
  refine NN (CT (SR (jC 3 [9] [(0,A_ 3 b11 12),(1,A_ 4 b12 12)] [(4,(zC (rV Z Y)))] ?_)))
  refine NN (af.ret (ai.aj (ai.bM [0,1] [dW Y Z,dN Y Z] (fun Kr o9 hL=>?_))))
  have d8:cq Kr Z Y:=hI.at hL
  replace hI:=hI.le o9
  replace hle0:=hle0.trans o9
  exact rB _ [A_ 2 b12 12] [0] hle0 (⟨Y,by rw [Vw hl]<;>rfl,rfl,by rw [Vw hl];exact d8⟩)
 refine ak.qF 0 rfl (by omega) (fun jy=>?_)
 refine gL [0,1] ((cW hI (fun _ _ h=>iR Z Y h hC d hd name)).val (congrArg (Value.int .i64) hl)) ?_
 rintro _ _ ⟨rfl,rfl⟩
 refine jK 1 [10] [] ?_
 refine NN (af.seq (SR (jK 2 [16] [(1,wF (((k:Int):Int) < (0:Int)))] ?_)))
 refine NN (CF (af.skip (NX (af.join (fun (u:Unit)=>(¬ (dir=false/\(nd Z.ns k).kind=2))) (fun (u:Unit)=>([(1,vI ↑d),(2,.string name),(3,.bool dir)]++YR b11 b12++[(10,vI ↑k)])) (fun (u:Unit)=>([dW Y Z,dN Y Z,.abs R]++lG b11 Z Y b12)) ?_ ?_))))
 ·rintro u n1
  refine af.join (fun (u:Unit)=>(¬ (dir=true/\(nd Z.ns k).kind≠2))) (fun (u:Unit)=>([(1,vI ↑d),(2,.string name),(3,.bool dir)]++YR b11 b12++[(10,vI ↑k)])) (fun (u:Unit)=>([dW Y Z,dN Y Z,.abs R]++lG b11 Z Y b12)) ?_ ?_
  ·rintro u n2
   refine af.join (fun (u:Unit)=>(¬ (dir=true/\0 < (nd Z.ns k).ah.length))) (fun (u:Unit)=>([(1,vI ↑d),(2,.string name)]++YR b11 b12)) (fun (u:Unit)=>([dW Y Z,dN Y Z,.abs R]++lG b11 Z Y b12)) ?_ ?_
   ·rintro u n3
    refine SR (jK 3 [56,57,58] [(0,A_ 3 b11 12)] ?_)
    refine lS [0,1] (wV Z Y hI hD (by omega) d hd name true) ?_
    rintro β1 _ _ aT ⟨L1,G1,g1,rfl,rfl,bE⟩
    replace hI:=hI.le aT
    replace hle0:=hle0.trans aT
    refine ak.bM [0,1] [.abs (av 66 10 Y.A ((bA Z d name true).ns.length) Y.c (aR L1 (bA Z d name true).ns)),.abs (av 3 1 G1 ((bA Z d name true).gone.length) g1 (ints (bA Z d name true).gone))] (fun nJ cI hL=>?_)
    have pq:cq nJ (bA Z d name true) ⟨Y.A,Y.c,L1,G1,g1,Y.H,Y.ch,Y.V,Y.cv⟩:=bE.at hL
    replace hI:=hI.le cI
    replace bE:=bE.le cI
    replace hle0:=hle0.trans cI
    refine lS [] (t8 (bA Z d name true) ⟨Y.A,Y.c,L1,G1,g1,Y.H,Y.ch,Y.V,Y.cv⟩ pq ((hD.MU hd).rb (by omega))) ?_
    rintro Bj _ _ ef ⟨Y3,rfl,rfl,kB⟩
    replace hI:=hI.le ef
    replace bE:=bE.le ef
    replace pq:=pq.le ef
    replace hle0:=hle0.trans ef
    refine jC 2 [9] [(0,A_ 2 b12 12)] [(2,(zC (rV (dx (bA Z d name true)) Y3)))] ?_
    refine NN (af.ret ?_)
    exact rB _ [A_ 2 b12 12] [0] hle0 (⟨Y3,by rw [YA hl n1 n2 n3]<;>rfl,rfl,by rw [YA hl n1 n2 n3];exact kB⟩)
   refine SR (jK 2 [44] [] ?_)
   refine ak.lK 44 dir (fun _=>by kernel_rfl) (fun uy=>?_) (fun uy=>?_)
   ·refine jK 10 [54] [(2,a_ 3 b11),(4,x_ k Z.ns.length (jy)),(6,v_ 0 (nA Z.ns Y.L Y.A Y.c k 9 hk rfl))] ?_
    refine NN (cP (((((nd Z.ns k).ah.length:Nat):Int):Int) > (0:Int)) (fun h54=>?_) (fun h54=>?_))
    ·refine SR (jC 3 [9] [(0,A_ 3 b11 12),(1,A_ 4 b12 12)] [(4,(zC (rV Z Y)))] ?_)
     refine NN (af.ret (ai.aj (ai.bM [0,1] [dW Y Z,dN Y Z] (fun Kt pu hL=>?_))))
     have d8:cq Kt Z Y:=hI.at hL
     replace hI:=hI.le pu
     replace hle0:=hle0.trans pu
     exact rB (.tuple #[.agg ⟨rV Z Y⟩,vI 178]) [A_ 2 b12 12] [0] hle0 (⟨Y,by grind [Yz],rfl,by grind [Yz]⟩)
    refine af.skip ?_
    exact mJ () [0,1,2,3,4] ((fun q=>h54 (by omega)))
   refine jK 10 [54] [] ?_
   refine NN (CF (af.skip ?_))
   exact mJ () [0,1,2,3,4] ((fun q=>by rw [q.1] at uy;cases uy))
  refine SR (jK 2 [32] [] ?_)
  refine ak.lK 32 dir (fun _=>by kernel_rfl) (fun oV=>?_) (fun oV=>?_)
  ·refine jK 9 [41] [(2,a_ 3 b11),(4,x_ k Z.ns.length (jy)),(6,v_ 0 (nA Z.ns Y.L Y.A Y.c k 1 hk rfl))] ?_
   refine NN (cN (((nd Z.ns k).kind:Int)=(2:Int)) (fun CK=>?_) (fun CK=>?_))
   ·refine SR (jC 3 [9] [(0,A_ 3 b11 12),(1,A_ 4 b12 12)] [(4,(zC (rV Z Y)))] ?_)
    refine NN (af.ret (ai.aj (ai.bM [0,1] [dW Y Z,dN Y Z] (fun Ku pz hL=>?_))))
    have d8:cq Ku Z Y:=hI.at hL
    replace hI:=hI.le pz
    replace hle0:=hle0.trans pz
    exact rB _ [A_ 2 b12 12] [0] hle0 (⟨Y,by rw [Yy hl n1 ⟨oV,CK⟩]<;>rfl,rfl,by grind [Yy]⟩)
   refine af.skip ?_
   exact mJ () [0,1,2,3,4] ((fun q=>q.2 CK))
  refine jK 9 [41] [] ?_
  refine NN (CF (af.skip ?_))
  exact mJ () [0,1,2,3,4] ((fun q=>by rw [q.1] at oV;cases oV))
 refine SR (jK 3 [20] [] ?_)
 refine ak.lK 20 (!dir) (fun _=>by kernel_rfl) (fun nL=>?_) (fun nL=>?_)
 ·refine jK 9 [29] [(2,a_ 3 b11),(4,x_ k Z.ns.length (jy)),(6,v_ 0 (nA Z.ns Y.L Y.A Y.c k 1 hk rfl))] ?_
  refine NN (cP (((nd Z.ns k).kind:Int)=(2:Int)) (fun Kn=>?_) (fun Kn=>?_))
  ·refine SR (jC 3 [9] [(0,A_ 3 b11 12),(1,A_ 4 b12 12)] [(4,(zC (rV Z Y)))] ?_)
   refine NN (af.ret (ai.aj (ai.bM [0,1] [dW Y Z,dN Y Z] (fun aa3 Kv hL=>?_))))
   have d8:cq aa3 Z Y:=hI.at hL
   replace hI:=hI.le Kv
   replace hle0:=hle0.trans Kv
   exact rB (.tuple #[.agg ⟨rV Z Y⟩,vI 172]) [A_ 2 b12 12] [0] hle0 (⟨Y,by grind [Yx],rfl,by grind [Yx]⟩)
  refine af.skip ?_
  exact mJ () [0,1,2,3,4] ((fun q=>Kn q.2))
 refine jK 9 [29] [] ?_
 refine NN (CF (af.skip ?_))
 exact mJ () [0,1,2,3,4] ((fun q=>by rw [q.1] at nL;cases nL))
end
section
open Go.RowKit Go.Maps aX aq
attribute [local irreducible] ak aV af ai dH
noncomputable abbrev YS (A1:Option Addr) (Z) (d:Nat) (c:aH) (x) (c1:Nat) (L1):=(.abs (av 66 10 A1 ((bK Z d c.name x).1.ns.length) c1 (aR L1 (bK Z d c.name x).1.ns)):HP)
noncomputable abbrev YT (Y:RL) (Z) (d:Nat) (c:aH) (x):=(.abs (av 3 1 Y.G ((bK Z d c.name x).1.gone.length) Y.cg (ints (bK Z d c.name x).1.gone)):HP)
noncomputable abbrev YU (f:Nat) (name) (to:Nat) (toName) (b1:Nat) (b2:Nat):=([(1,vI ↑f),(2,.string name),(3,vI ↑to),(4,.string toName),(5,vP b1),(10,vP b2)]:Fr)
noncomputable abbrev zV4 (Y:RL) (Z1) (f:Nat) (name) (to:Nat) (toName) (Z:RS) (k:Nat) (L3) (G2) (g2):=([.abs (av 66 10 Y.A ((bD (bA Z1 f name false) to toName (nd Z.ns k).id).ns.length) Y.c (aR L3 (bD (bA Z1 f name false) to toName (nd Z.ns k).id).ns)),.abs (av 3 1 G2 ((bD (bA Z1 f name false) to toName (nd Z.ns k).id).gone.length) g2 (ints (bD (bA Z1 f name false) to toName (nd Z.ns k).id).gone))]:List HP)
noncomputable abbrev zV5 (b1:Nat) (Z1:RS) (Y:RL) (G1) (g1) (b2:Nat) (L1):=([.blk b1 (rW Z1 Y.A Y.c G1 g1 Y.H Y.ch Y.V Y.cv) 42,.blk b2 (rZ) 42,.abs (av 66 10 Y.A Z1.ns.length Y.c (aR L1 Z1.ns)),.abs (av 3 1 G1 Z1.gone.length g1 (ints Z1.gone))]:List HP)
theorem Ri {β:Bs} (Z:RS) (Y:RL) (hI:jV β Z Y.L Y.H Y.V) (hC:RC Z) {n:Nat} (hD:RD n Z) (hn:n<=4) (f:Nat) (hf:f < Z.ns.length) (name:ByteArray) (to:Nat) (hto:to < Z.ns.length) (toName:ByteArray) :
    cG Tryz.prog β 80 #[.agg ⟨rV Z Y⟩,vI (((f:Nat):Int)),.string name,vI (((to:Nat):Int)),.string toName] [dW Y Z,dN Y Z] (fun β' v l=>∃ Y',v=.tuple #[.agg ⟨rV ((eV Z f name to toName).1) Y'⟩,vI (eV Z f name to toName).2]/\l=[]/\cq β' (eV Z f name to toName).1 Y'):=by
 refine qb Tryz.func80 Tryz.ntmps80 (fun hle0 R=>?_)
 refine SR (jN 1 [5] (fun _=>[]) (fun _=>[]) (fun b1=>.blk b1 (rV Z Y) 42) (fun b1=>?_))
 refine jN 2 [10] (fun _=>[]) (fun _=>[]) (fun b2=>.blk b2 (rZ) 42) (fun b2=>?_)
 refine NS (jK 3 [16,17,18] [(0,A_ 3 b1 12)] ?_)
 rcases j7 Z.ns f name with hl|⟨k,hl,hk⟩
 ·refine gL [0,1] ((cW hI (fun _ _ h=>iR Z Y h hC f hf name)).val (congrArg (Value.int .i64) hl)) ?_
  rintro _ _ ⟨rfl,rfl⟩
  refine jK 1 [12] [] ?_
  refine NN (af.seq (SR (jK 2 [21] [] ?_)))
  refine NN (CT (SR (jC 3 [11] [(0,A_ 3 b1 12),(1,A_ 4 b2 12)] [(4,(zC (rV Z Y)))] ?_)))
  refine NN (af.ret (ai.aj (ai.bM [0,1] [dW Y Z,dN Y Z] (fun Bj ef hL=>?_))))
  have d8:cq Bj Z Y:=hI.at hL
  replace hI:=hI.le ef
  replace hle0:=hle0.trans ef
  exact rB _ [A_ 2 b2 12] [0] hle0 (⟨Y,by rw [YH hl]<;>rfl,rfl,by rw [YH hl];exact d8⟩)
 refine ak.qF 0 rfl (by omega) (fun jy=>?_)
 refine gL [0,1] ((cW hI (fun _ _ h=>iR Z Y h hC f hf name)).val (congrArg (Value.int .i64) hl)) ?_
 rintro _ _ ⟨rfl,rfl⟩
 refine jK 1 [12] [] ?_
 refine NN (af.seq (SR (jK 2 [21] [(1,wF (((k:Int):Int) < (0:Int)))] ?_)))
 refine NN (CF (af.skip (NX (SR (jK 9 [13] [(2,a_ 3 b1),(4,x_ k Z.ns.length (jy)),(6,v_ 0 (nA Z.ns Y.L Y.A Y.c k 1 hk rfl))] ?_)))))
 refine NN (af.join (fun (u:Unit)=>(¬ ((nd Z.ns k).kind=2/\fT Z.ns k (Z.ns.length+1) to=true))) (fun (u:Unit)=>(YU f name to toName b1 b2++[(12,vI ↑k),(13,.bool (decide (((nd Z.ns k).kind:Int)=(2:Int))))])) (fun (u:Unit)=>[dW Y Z,dN Y Z,.abs R,.blk b1 (rV Z Y) 42,.blk b2 (rZ) 42]) ?_ ?_)
 ·rintro u n1
  refine SR (jK 3 [39,40,41] [(0,A_ 3 b1 12)] ?_)
  rcases j7 Z.ns to toName with hl2|⟨t,hl2,ht⟩
  ·refine gL [0,1] ((cW hI (fun _ _ h=>iR Z Y h hC to hto toName)).val (congrArg (Value.int .i64) hl2)) ?_
   rintro _ _ ⟨rfl,rfl⟩
   refine jK 1 [14] [] ?_
   refine NS (jK 8 [15] [(2,a_ 3 b1),(4,x_ k Z.ns.length (jy)),(6,v_ 0 (nA Z.ns Y.L Y.A Y.c k 0 hk rfl))] ?_)
   refine NN (af.seq (SR (jK 3 [52] [] ?_)))
   refine NN (cP (((-1):Int)=(((k:Nat):Int):Int)) (fun wz=>?_) (fun wz=>?_))
   ·exact absurd wz (by omega)
   refine af.skip (NX (af.Vu (ι:=Bs×RS×Lay×(Option Addr)×Nat) (fun (b,Z1,L1,G1,g1)=>b) (fun (b,Z1,L1,G1,g1)=>(β.le b)/\(jV b Z1 L1 Y.H Y.V)/\(RD (n+1) Z1)/\(Z1.ns.length=Z.ns.length)/\((eV Z f name to toName)=(v7 Z f name to toName k Z1,0))) (fun (b,Z1,L1,G1,g1)=>(YU f name to toName b1 b2++[(15,vI ((nd Z.ns k).id))])) (fun (b,Z1,L1,G1,g1)=>(zV5 b1 Z1 Y G1 g1 b2 L1++[.abs R])) ?_ ?_))
   ·rintro⟨b,Z1,L1,G1,g1⟩ ⟨hle0,bE,xO,hz1,Rj⟩
    refine SR (jK 3 [71,72,73] [(0,A_ 0 b1 12)] ?_)
    refine lS [2,3] (wV Z1 ⟨Y.A,Y.c,L1,G1,g1,Y.H,Y.ch,Y.V,Y.cv⟩ bE xO (by omega) f (by omega) name false) ?_
    rintro nJ _ _ cI ⟨L2,G2,g2,rfl,rfl,sx⟩
    replace hle0:=hle0.trans cI
    refine jC 1 [] [(0,A_ 2 b1 12)] [(2,(zC (rW (bA Z1 f name false) Y.A Y.c G2 g2 Y.H Y.ch Y.V Y.cv)))] ?_
    refine NS (jK 4 [75,76,77,78] [(0,A_ 2 b1 12)] ?_)
    refine lS [0,1] (wU (bA Z1 f name false) ⟨Y.A,Y.c,L2,G2,g2,Y.H,Y.ch,Y.V,Y.cv⟩ sx ((xO.MU (by omega)).rb (by omega)) to (by rw [qZ];omega) toName (nd Z.ns k).id) ?_
    rintro Bj _ _ ef ⟨L3,rfl,rfl,xX⟩
    replace sx:=sx.le ef
    replace hle0:=hle0.trans ef
    refine jC 1 [] [(0,A_ 2 b1 12)] [(2,(zC (rW (bD (bA Z1 f name false) to toName (nd Z.ns k).id) Y.A Y.c G2 g2 Y.H Y.ch Y.V Y.cv)))] ?_
    refine NS (ak.bM [0,1] (zV4 Y Z1 f name to toName Z k L3 G2 g2) (fun xW dV hL=>?_))
    have kB:cq xW (bD (bA Z1 f name false) to toName (nd Z.ns k).id) ⟨Y.A,Y.c,L3,G2,g2,Y.H,Y.ch,Y.V,Y.cv⟩:=xX.at hL
    replace sx:=sx.le dV
    replace xX:=xX.le dV
    replace hle0:=hle0.trans dV
    refine jK 1 [80] [(0,A_ 0 b1 12)] ?_
    refine lS [] (t8 (bD (bA Z1 f name false) to toName (nd Z.ns k).id) ⟨Y.A,Y.c,L3,G2,g2,Y.H,Y.ch,Y.V,Y.cv⟩ kB (((xO.MU (by omega)).ent (by rw [qZ];omega)).rb (by omega))) ?_
    rintro M7 _ _ ja ⟨Y5,rfl,rfl,YV⟩
    replace sx:=sx.le ja
    replace xX:=xX.le ja
    replace kB:=kB.le ja
    replace hle0:=hle0.trans ja
    refine jC 2 [11] [(0,A_ 1 b2 12)] [(1,(zC (rV (dx (bD (bA Z1 f name false) to toName (nd Z.ns k).id)) Y5)))] ?_
    refine NN (af.ret ?_)
    exact rB _ [A_ 1 b2 12] [2] hle0 (⟨Y5,by rw [Rj]<;>rfl,rfl,by rw [Rj];exact YV⟩)
   refine SR (jK 2 [55] [] ?_)
   refine NN (CF (af.skip ?_))
   exact ai.Vv (β,Z,Y.L,Y.G,Y.cg) rfl (idx:=[1,2,3,4,5,10,15]) (pk:=[3,4,0,1,2]) (⟨hle0,hI,(hD.up (by omega)),rfl,aaY hl n1 hl2⟩) (fun _=>by kernel_rfl) rfl (by kernel_rfl)
  refine gL [0,1] ((cW hI (fun _ _ h=>iR Z Y h hC to hto toName)).val (congrArg (Value.int .i64) hl2)) ?_
  rintro _ _ ⟨rfl,rfl⟩
  refine jK 1 [14] [] ?_
  refine NS (jK 8 [15] [(2,a_ 3 b1),(4,x_ k Z.ns.length (jy)),(6,v_ 0 (nA Z.ns Y.L Y.A Y.c k 0 hk rfl))] ?_)
  refine NN (af.seq (SR (jK 3 [52] [] ?_)))
  refine NN (cP ((((t:Nat):Int):Int)=(((k:Nat):Int):Int)) (fun wz=>?_) (fun wz=>?_))
  ·refine SR (jC 3 [11] [(0,A_ 3 b1 12),(1,A_ 4 b2 12)] [(4,(zC (rV Z Y)))] ?_)
   refine NN (af.ret (ai.aj (ai.bM [0,1] [dW Y Z,dN Y Z] (fun xW dV hL=>?_))))
   have d8:cq xW Z Y:=hI.at hL
   replace hI:=hI.le dV
   replace hle0:=hle0.trans dV
   exact rB (.tuple #[.agg ⟨rV Z Y⟩,vI 0]) [A_ 2 b2 12] [0] hle0 (⟨Y,by grind [YJ],rfl,by grind [YJ]⟩)
  refine af.skip (NX (af.Vu (ι:=Bs×RS×Lay×(Option Addr)×Nat) (fun (b,Z1,L1,G1,g1)=>b) (fun (b,Z1,L1,G1,g1)=>(β.le b)/\(jV b Z1 L1 Y.H Y.V)/\(RD (n+1) Z1)/\(Z1.ns.length=Z.ns.length)/\((eV Z f name to toName)=(v7 Z f name to toName k Z1,0))) (fun (b,Z1,L1,G1,g1)=>(YU f name to toName b1 b2++[(15,vI ((nd Z.ns k).id))])) (fun (b,Z1,L1,G1,g1)=>(zV5 b1 Z1 Y G1 g1 b2 L1++[.abs R])) ?_ ?_))
  ·rintro⟨b,Z1,L1,G1,g1⟩ ⟨hle0,bE,xO,hz1,Rj⟩
   refine SR (jK 3 [71,72,73] [(0,A_ 0 b1 12)] ?_)
   refine lS [2,3] (wV Z1 ⟨Y.A,Y.c,L1,G1,g1,Y.H,Y.ch,Y.V,Y.cv⟩ bE xO (by omega) f (by omega) name false) ?_
   rintro nJ _ _ cI ⟨L2,G2,g2,rfl,rfl,sx⟩
   replace hle0:=hle0.trans cI
   refine jC 1 [] [(0,A_ 2 b1 12)] [(2,(zC (rW (bA Z1 f name false) Y.A Y.c G2 g2 Y.H Y.ch Y.V Y.cv)))] ?_
   refine NS (jK 4 [75,76,77,78] [(0,A_ 2 b1 12)] ?_)
   refine lS [0,1] (wU (bA Z1 f name false) ⟨Y.A,Y.c,L2,G2,g2,Y.H,Y.ch,Y.V,Y.cv⟩ sx ((xO.MU (by omega)).rb (by omega)) to (by rw [qZ];omega) toName (nd Z.ns k).id) ?_
   rintro Bj _ _ ef ⟨L3,rfl,rfl,xX⟩
   replace sx:=sx.le ef
   replace hle0:=hle0.trans ef
   refine jC 1 [] [(0,A_ 2 b1 12)] [(2,(zC (rW (bD (bA Z1 f name false) to toName (nd Z.ns k).id) Y.A Y.c G2 g2 Y.H Y.ch Y.V Y.cv)))] ?_
   refine NS (ak.bM [0,1] (zV4 Y Z1 f name to toName Z k L3 G2 g2) (fun xW dV hL=>?_))
   have kB:cq xW (bD (bA Z1 f name false) to toName (nd Z.ns k).id) ⟨Y.A,Y.c,L3,G2,g2,Y.H,Y.ch,Y.V,Y.cv⟩:=xX.at hL
   replace sx:=sx.le dV
   replace xX:=xX.le dV
   replace hle0:=hle0.trans dV
   refine jK 1 [80] [(0,A_ 0 b1 12)] ?_
   refine lS [] (t8 (bD (bA Z1 f name false) to toName (nd Z.ns k).id) ⟨Y.A,Y.c,L3,G2,g2,Y.H,Y.ch,Y.V,Y.cv⟩ kB (((xO.MU (by omega)).ent (by rw [qZ];omega)).rb (by omega))) ?_
   rintro M7 _ _ ja ⟨Y5,rfl,rfl,YV⟩
   replace sx:=sx.le ja
   replace xX:=xX.le ja
   replace kB:=kB.le ja
   replace hle0:=hle0.trans ja
   refine jC 2 [11] [(0,A_ 1 b2 12)] [(1,(zC (rV (dx (bD (bA Z1 f name false) to toName (nd Z.ns k).id)) Y5)))] ?_
   refine NN (af.ret ?_)
   exact rB _ [A_ 1 b2 12] [2] hle0 (⟨Y5,by rw [Rj]<;>rfl,rfl,by rw [Rj];exact YV⟩)
  refine SR (jK 2 [55] [(1,wT (((t:Int):Int) ≥ (0:Int)))] ?_)
  refine NN (CT (af.seq (SR (jK 8 [63] [(2,a_ 3 b1),(4,x_ t Z.ns.length (jy)),(6,v_ 0 (nA Z.ns Y.L Y.A Y.c t 1 ht rfl))] ?_))))
  refine NN (cP (((nd Z.ns t).kind:Int)=(2:Int)) (fun h63=>?_) (fun h63=>?_))
  ·refine SR (jC 3 [11] [(0,A_ 3 b1 12),(1,A_ 4 b2 12)] [(4,(zC (rV Z Y)))] ?_)
   refine NN (af.ret (ai.aj (ai.aj (ai.bM [0,1] [dW Y Z,dN Y Z] (fun M7 ja hL=>?_)))))
   have d8:cq M7 Z Y:=hI.at hL
   replace hI:=hI.le ja
   replace hle0:=hle0.trans ja
   exact rB _ [A_ 2 b2 12] [0] hle0 (⟨Y,by rw [YK hl n1 hl2 wz h63]<;>rfl,rfl,by rw [YK hl n1 hl2 wz h63];exact d8⟩)
  refine af.skip (NX (af.seq (SR (jK 1 [65] [] ?_))))
  refine NN (cP (((nd Z.ns k).kind:Int)=(2:Int)) (fun YW=>?_) (fun YW=>?_))
  ·refine SR (jC 3 [11] [(0,A_ 3 b1 12),(1,A_ 4 b2 12)] [(4,(zC (rV Z Y)))] ?_)
   refine NN (af.ret (ai.aj (ai.aj (ai.bM [0,1] [dW Y Z,dN Y Z] (fun YX xY hL=>?_)))))
   have d8:cq YX Z Y:=hI.at hL
   replace hI:=hI.le xY
   replace hle0:=hle0.trans xY
   exact rB _ [A_ 2 b2 12] [0] hle0 (⟨Y,by rw [YL hl n1 hl2 wz h63 YW]<;>rfl,rfl,by grind [YL]⟩)
  refine af.skip (NX (af.region (jK 3 [67,68,69] [(0,A_ 3 b1 12)] ?_)))
  refine lS [0,1] (wV Z Y hI hD (by omega) to hto toName true) ?_
  rintro β1 _ _ aT ⟨L1,G1,g1,rfl,rfl,bE⟩
  replace hI:=hI.le aT
  replace hle0:=hle0.trans aT
  refine jC 1 [] [(0,A_ 3 b1 12)] [(3,(zC (rW (bA Z to toName true) Y.A Y.c G1 g1 Y.H Y.ch Y.V Y.cv)))] ?_
  refine NL ?_
  exact ai.Vv (β1,(bA Z to toName true),L1,G1,g1) rfl (idx:=[1,2,3,4,5,10,15]) (pk:=[3,4,0,1,2]) (⟨hle0,bE,hD.MU hto,qZ,aaZ hl n1 hl2 wz h63 YW⟩) (fun _=>by kernel_rfl) rfl (by kernel_rfl)
 refine SR (jK 2 [32] [] ?_)
 refine sP 32 (((nd Z.ns k).kind:Int)=(2:Int)) (fun oV=>?_) (fun oV=>?_)
 ·refine jK 3 [33,34,35] [(0,A_ 3 b1 12)] ?_
  refine gL [0,1] (cW hI (fun _ _ h=>QL Z Y h hC.toRB to k hto)) ?_
  rintro _ _ ⟨rfl,rfl⟩
  refine jK 1 [37] [] ?_
  refine NN (af.cond (b:=(fT Z.ns k (Z.ns.length+1) to)) (fun _=>by kernel_rfl) (fun uD=>?_) (fun uD=>?_))
  ·refine SR (jC 3 [11] [(0,A_ 3 b1 12),(1,A_ 4 b2 12)] [(4,(zC (rV Z Y)))] ?_)
   refine NN (af.ret (ai.aj (ai.bM [0,1] [dW Y Z,dN Y Z] (fun Hz iM hL=>?_))))
   have d8:cq Hz Z Y:=hI.at hL
   replace hI:=hI.le iM
   replace hle0:=hle0.trans iM
   exact rB _ [A_ 2 b2 12] [0] hle0 (⟨Y,by rw [YI hl ⟨oV,uD⟩]<;>rfl,rfl,by rw [YI hl ⟨oV,uD⟩];exact d8⟩)
  refine af.skip ?_
  exact mJ () [0,1,2,3,4] ((fun q=>by rw [q.2] at uD;cases uD))
 refine jK 5 [37] [] ?_
 refine NN (CF (af.skip ?_))
 exact mJ () [0,1,2,3,4] ((fun q=>oV q.1))
theorem HE {β:Bs} (Z:RS) (Y:RL) (hI:jV β Z Y.L Y.H Y.V) (hC:RC Z) (c:aH) (hn:c.name.size<=1048576) (want:Int) :
    cG Tryz.prog β 71 #[.agg ⟨rV Z Y⟩,.agg ⟨aO c⟩,vI (want)] [dW Y Z,dN Y Z] (fun β' v l=>∃ Y',v=.tuple #[.agg ⟨rV ((fN Z c want).1) Y'⟩,vI (fN Z c want).2.1,vI (fN Z c want).2.2]/\l=[]/\cq β' (fN Z c want).1 Y'):=by
 refine qb Tryz.func71 Tryz.ntmps71 (fun hle0 R=>?_)
 refine SR (jN 1 [3] (fun _=>[]) (fun _=>[]) (fun b8=>.blk b8 (rV Z Y) 42) (fun b8=>?_))
 refine jN 1 [4] (fun _=>[]) (fun _=>[]) (fun b9=>.blk b9 (aO c) 53) (fun b9=>?_)
 refine jN 3 [6] (fun _=>[]) (fun _=>[]) (fun b10=>.blk b10 (rZ) 42) (fun b10=>?_)
 refine NS (jK 5 [14,16,18] [(0,A_ 3 b8 12),(2,a_ 4 b9),(4,a_ 4 b9)] ?_)
 rcases nO hC c.handle c.name 64 with ⟨e,h1,Bf⟩|⟨d,h1,hd⟩
 ·refine gL [0,1] ((cW hI (fun _ _ h=>kX Z Y h hC c.handle c.name hn 64)).val (congrArg exV h1)) ?_
  rintro _ _ ⟨rfl,rfl⟩
  refine jK 5 [9,10] [] ?_
  refine NN (af.seq (SR (jK 2 [23] [(1,IQ ((e:Int)=(0:Int)) Bf)] ?_)))
  refine NN (CT (SR (jC 5 [7,8] [(0,A_ 3 b8 12),(2,A_ 5 b10 12)] [(5,(zC (rV Z Y)))] ?_)))
  refine NN (af.ret (ai.aj (ai.bM [0,1] [dW Y Z,dN Y Z] (fun YZ v8 hL=>?_))))
  have d8:cq YZ Z Y:=hI.at hL
  replace hI:=hI.le v8
  replace hle0:=hle0.trans v8
  exact rB _ [A_ 3 b10 12] [0] hle0 (⟨Y,by rw [YB h1]<;>rfl,rfl,by rw [YB h1];exact d8⟩)
 refine gL [0,1] ((cW hI (fun _ _ h=>kX Z Y h hC c.handle c.name hn 64)).val (congrArg exV h1)) ?_
 rintro _ _ ⟨rfl,rfl⟩
 refine jK 5 [9,10] [] ?_
 refine NN (af.seq (SR (jK 2 [23] [(1,p_ ⟨[],none,none,none,some (.bool false)⟩ [((.bool false:Value))=(.bool false)] ⟨rfl,trivial⟩)] ?_)))
 refine NN (CF (af.skip (NX (SR (jK 4 [26,27,29] [(0,A_ 3 b8 12),(3,a_ 4 b9)] ?_)))))
 rcases j7 Z.ns d c.name with hl|⟨k,hl,hk⟩
 ·refine gL [0,1] ((cW hI (fun _ _ h=>iR Z Y h hC d hd c.name)).val (congrArg (Value.int .i64) hl)) ?_
  rintro _ _ ⟨rfl,rfl⟩
  refine jK 1 [11] [] ?_
  refine NN (af.seq (SR (jK 2 [32] [] ?_)))
  refine NN (CT (SR (jC 4 [7,8] [(0,A_ 3 b8 12),(1,A_ 5 b10 12)] [(5,(zC (rV Z Y)))] ?_)))
  refine NN (af.ret (ai.aj (ai.bM [0,1] [dW Y Z,dN Y Z] (fun Uf sW hL=>?_))))
  have d8:cq Uf Z Y:=hI.at hL
  replace hI:=hI.le sW
  replace hle0:=hle0.trans sW
  exact rB _ [A_ 3 b10 12] [0] hle0 (⟨Y,by rw [YC h1 hl]<;>rfl,rfl,by rw [YC h1 hl];exact d8⟩)
 refine ak.qF 0 rfl (by omega) (fun jy=>?_)
 refine gL [0,1] ((cW hI (fun _ _ h=>iR Z Y h hC d hd c.name)).val (congrArg (Value.int .i64) hl)) ?_
 rintro _ _ ⟨rfl,rfl⟩
 refine jK 1 [11] [] ?_
 refine NN (af.seq (SR (jK 2 [32] [(1,wF (((k:Int):Int) < (0:Int)))] ?_)))
 refine NN (CF (af.skip (NX (SR (jK 8 [12] [(2,a_ 3 b8),(4,x_ k Z.ns.length (jy)),(6,v_ 0 (nA Z.ns Y.L Y.A Y.c k 1 hk rfl))] ?_)))))
 refine NN (af.seq (SR (jK 2 [42] [] ?_)))
 refine NN (cP (((nd Z.ns k).kind:Int)=(3:Int)) (fun iy=>?_) (fun iy=>?_))
 ·refine SR (jC 4 [7,8] [(0,A_ 3 b8 12),(1,A_ 5 b10 12)] [(5,(zC (rV Z Y)))] ?_)
  refine NN (af.ret (ai.aj (ai.bM [0,1] [dW Y Z,dN Y Z] (fun Kr o9 hL=>?_))))
  have d8:cq Kr Z Y:=hI.at hL
  replace hI:=hI.le o9
  replace hle0:=hle0.trans o9
  exact rB _ [A_ 3 b10 12] [0] hle0 (⟨Y,by rw [YD h1 hl iy]<;>rfl,rfl,by rw [YD h1 hl iy];exact d8⟩)
 refine af.skip (NX (af.seq (SR (jK 3 [46] [] ?_))))
 refine NN (cN (((nd Z.ns k).kind:Int)=(want:Int)) (fun h46=>?_) (fun h46=>?_))
 ·refine af.seq (SR (jK 2 [48] [] ?_))
  refine NN (cP (((nd Z.ns k).kind:Int)=(1:Int)) (fun h48=>?_) (fun h48=>?_))
  ·refine SR (jC 4 [7,8] [(0,A_ 3 b8 12),(1,A_ 5 b10 12)] [(5,(zC (rV Z Y)))] ?_)
   refine NN (af.ret (ai.aj (ai.aj (ai.bM [0,1] [dW Y Z,dN Y Z] (fun Kt pu hL=>?_)))))
   have d8:cq Kt Z Y:=hI.at hL
   replace hI:=hI.le pu
   replace hle0:=hle0.trans pu
   exact rB _ [A_ 3 b10 12] [0] hle0 (⟨Y,by rw [YE h1 hl iy h46 h48]<;>rfl,rfl,by rw [YE h1 hl iy h46 h48];exact d8⟩)
  refine af.skip (NX (SR (jC 4 [7,8] [(0,A_ 3 b8 12),(1,A_ 5 b10 12)] [(5,(zC (rV Z Y)))] ?_)))
  refine NN (af.ret (ai.aj (ai.bM [0,1] [dW Y Z,dN Y Z] (fun Ku pz hL=>?_))))
  have d8:cq Ku Z Y:=hI.at hL
  replace hI:=hI.le pz
  replace hle0:=hle0.trans pz
  exact rB _ [A_ 3 b10 12] [0] hle0 (⟨Y,by rw [YF h1 hl iy h46 h48]<;>rfl,rfl,by rw [YF h1 hl iy h46 h48];exact d8⟩)
 refine af.skip (NX (SR (jK 2 [51,52] [(0,A_ 3 b8 12)] ?_)))
 refine ak.bM [0,1] [dW Y Z,dN Y Z] (fun β1 aT hL=>?_)
 have pq:cq β1 Z Y:=hI.at hL
 replace hI:=hI.le aT
 replace hle0:=hle0.trans aT
 refine lS [] (Dz Z Y pq hC.ru k hk) ?_
 rintro nJ _ _ cI ⟨Y3,rfl,rfl,kB⟩
 replace hI:=hI.le cI
 replace pq:=pq.le cI
 replace hle0:=hle0.trans cI
 refine jC 6 [7,8] [(3,A_ 3 b10 12)] [(3,(zC (rV ((iC Z k).1) Y3)))] ?_
 refine NN (af.ret ?_)
 exact rB _ [A_ 3 b10 12] [0] hle0 (⟨Y3,by rw [YG h1 hl iy h46]<;>rfl,rfl,by rw [YG h1 hl iy h46];exact kB⟩)
theorem Oy {β:Bs} (Z:RS) (Y:RL) (hI:jV β Z Y.L Y.H Y.V) (hC:RC Z) {n:Nat} (hD:RD n Z) (hn:n<=7) (c:aH) (htx:c.text.size<=1048576) (d:Nat) (hd:d < Z.ns.length) :
    cG Tryz.prog β 72 #[.agg ⟨rV Z Y⟩,.agg ⟨aO c⟩,vI (((d:Nat):Int))] [dW Y Z,dN Y Z] (fun β' v l=>∃ Y',v=.tuple #[.agg ⟨rV ((eM Z c d).1) Y'⟩,vI (eM Z c d).2.1,vI (eM Z c d).2.2]/\l=[]/\cq β' (eM Z c d).1 Y'):=by
 refine qb Tryz.func72 Tryz.ntmps72 (fun hle0 R=>?_)
 refine SR (jN 1 [3] (fun _=>[]) (fun _=>[]) (fun b16=>.blk b16 (rV Z Y) 42) (fun b16=>?_))
 refine jN 1 [4] (fun _=>[]) (fun _=>[]) (fun b17=>.blk b17 (aO c) 53) (fun b17=>?_)
 refine jN 3 [6] (fun _=>[]) (fun _=>[]) (fun b18=>.blk b18 (rZ) 42) (fun b18=>?_)
 refine NN (af.seq (af.seq ?_))
 by_cases n8:c.op=8\/c.op=14
 ·refine af.region (jK 4 [17] [(1,a_ 4 b17),(2,p_ ⟨[],none,none,none,some (.bool (decide ((c.op:Int)=(8:Int))))⟩ [((.bool (decide ((c.op:Int)=(8:Int))):Value))=(.bool (decide ((c.op:Int)=(8:Int))))] ⟨rfl,trivial⟩)] ?_)
  refine sP 17 ((c.op:Int)=(8:Int)) (fun D3=>?_) (fun D3=>?_)
  ·refine jK 4 [21] [] ?_
   refine NN (CT (SR (jK 7 [23,24,26,29] [(0,A_ 3 b16 12),(3,a_ 4 b17),(5,a_ 4 b17)] ?_)))
   refine lS [0,1] (HB Z Y hI hC hD (by omega) d hd c.name (decide (c.op=14))) ?_
   rintro β1 _ _ aT ⟨Y3,rfl,rfl,kB⟩
   replace hI:=hI.le aT
   replace hle0:=hle0.trans aT
   refine jN 6 [9,10] (fun b19=>[(4,A_ 4 b19 12)]) (fun _=>[]) (fun b19=>.blk b19 (rV ((fZ Z d c.name (decide (c.op=14))).1) Y3) 42) (fun b19=>?_)
   refine NS (jC 5 [7,8] [(0,A_ 4 b19 12),(2,A_ 3 b18 12)] [(3,(zC (rV ((fZ Z d c.name (decide (c.op=14))).1) Y3)))] ?_)
   refine NN (af.ret (ai.aj ?_))
   exact rB _ [A_ 3 b18 12] [0] hle0 (⟨Y3,by rw [Ox n8]<;>rfl,rfl,by rw [Ox n8];exact kB⟩)
  refine jK 4 [21] [(1,a_ 4 b17),(2,p_ ⟨[],none,none,none,some (.bool (decide ((c.op:Int)=(14:Int))))⟩ [((.bool (decide ((c.op:Int)=(14:Int))):Value))=(.bool (decide ((c.op:Int)=(14:Int))))] ⟨rfl,trivial⟩)] ?_
  refine NN (cP ((c.op:Int)=(14:Int)) (fun oy=>?_) (fun oy=>?_))
  ·refine SR (jK 7 [23,24,26,29] [(0,A_ 3 b16 12),(3,a_ 4 b17),(5,a_ 4 b17)] ?_)
   refine lS [0,1] (HB Z Y hI hC hD (by omega) d hd c.name (decide (c.op=14))) ?_
   rintro β1 _ _ aT ⟨Y3,rfl,rfl,kB⟩
   replace hI:=hI.le aT
   replace hle0:=hle0.trans aT
   refine jN 6 [9,10] (fun b20=>[(4,A_ 4 b20 12)]) (fun _=>[]) (fun b20=>.blk b20 (rV ((fZ Z d c.name (decide (c.op=14))).1) Y3) 42) (fun b20=>?_)
   refine NS (jC 5 [7,8] [(0,A_ 4 b20 12),(2,A_ 3 b18 12)] [(3,(zC (rV ((fZ Z d c.name (decide (c.op=14))).1) Y3)))] ?_)
   refine NN (af.ret (ai.aj ?_))
   exact rB _ [A_ 3 b18 12] [0] hle0 (⟨Y3,by rw [Ox n8]<;>rfl,rfl,by rw [Ox n8];exact kB⟩)
  exact absurd n8 (by omega)
 refine af.region (jK 8 [21] [(1,a_ 4 b17),(2,wF ((c.op:Int)=(8:Int))),(5,a_ 4 b17),(6,wF ((c.op:Int)=(14:Int)))] ?_)
 refine NN (CF (af.skip (NX (SR (jN 5 [11] (fun q8=>[(1,a_ 4 b17),(4,A_ 6 q8 10)]) (fun _=>[]) (fun q8=>.blk q8 [vI 0,vI 3,vI 511,vI 0,vI 0,vI 0,vI 0,.slice none (0) (0),.string c.text,.slice none (0) (0)] 66) (fun q8=>?_))))))
 refine NN (af.join (fun (x:ay)=>(x.data=[]/\x.ah=[]/\x.target.size<=1048576)/\((eM Z c d)=DB Z c d x)) (fun (x:ay)=>[(2,vI ↑d),(3,vP b16),(4,vP b17),(6,vP b18),(11,vP q8)]) (fun (x:ay)=>[.blk b16 (rV Z Y) 42,pC b17 c,.blk b18 (rZ) 42,.blk q8 [vI (x.id),vI (x.kind),vI (x.mode),vI (x.uid),vI (x.gid),vI (x.sec),vI (x.nano),.slice none (0) (0),.string x.target,.slice none (0) (0)] 66,dW Y Z,dN Y Z,.abs R]) ?_ ?_)
 ·rintro x ⟨hx,hch⟩
  refine SR (jK 5 [54,55,57,58] [(0,A_ 0 b16 12),(3,a_ 1 b17),(4,A_ 3 q8 10)] ?_)
  refine lS [4,5] (Rh Z Y hI hC hD (by omega) d hd c.name x hx.1 hx.2.1 hx.2.2) ?_
  rintro β1 _ _ aT ⟨A1,c1,L1,rfl,rfl,bE⟩
  replace hI:=hI.le aT
  replace hle0:=hle0.trans aT
  refine jN 6 [12,13] (fun jl=>[(4,A_ 7 jl 12)]) (fun _=>[]) (fun jl=>.blk jl (rW ((bK Z d c.name x).1) A1 c1 Y.G Y.cg Y.H Y.ch Y.V Y.cv) 42) (fun jl=>?_)
  refine NN (af.seq (af.seq ?_))
  by_cases hno:(bK Z d c.name x).2=0/\c.op=5
  ·obtain⟨hm0,Y1⟩:=hno
   have hml:=Ra hm0
   have hbz:=hD.ns
   refine af.region (jK 7 [68] [(1,wNT (((bK Z d c.name x).2:Int)=(0:Int)) hm0),(4,a_ 3 b17),(5,wNT ((c.op:Int)=(5:Int)) Y1)] ?_)
   refine NN (CF (af.skip (NX (SR (jK 6 [71,76] [(0,A_ 7 jl 12),(3,a_ 7 jl),(5,wJ ((((bK Z d c.name x).1.ns.length:Nat):Int) - 1) (↑((bK Z d c.name x).1.ns.length - 1)))] ?_)))))
   refine ak.bM [0,1] [YS A1 Z d c x c1 L1,YT Y Z d c x] (fun nJ cI hL=>?_)
   have pq:cq nJ (bK Z d c.name x).1 ⟨A1,c1,L1,Y.G,Y.cg,Y.H,Y.ch,Y.V,Y.cv⟩:=bE.at hL
   replace hI:=hI.le cI
   replace bE:=bE.le cI
   replace hle0:=hle0.trans cI
   refine lS [] (Dz (bK Z d c.name x).1 ⟨A1,c1,L1,Y.G,Y.cg,Y.H,Y.ch,Y.V,Y.cv⟩ pq (hC.ru.same aag) ((bK Z d c.name x).1.ns.length - 1) (by have:=Ra hm0;omega)) ?_
   rintro Bj _ _ ef ⟨Y3,rfl,rfl,kB⟩
   replace hI:=hI.le ef
   replace bE:=bE.le ef
   replace pq:=pq.le ef
   replace hle0:=hle0.trans ef
   refine jC 6 [7,8] [(3,A_ 2 b18 12)] [(2,(zC (rV ((iC (bK Z d c.name x).1 ((bK Z d c.name x).1.ns.length - 1)).1) Y3)))] ?_
   refine NN (af.ret ?_)
   exact rB _ [A_ 2 b18 12] [4] hle0 (⟨Y3,by rw [hch,M5 hm0 Y1]<;>rfl,rfl,by rw [hch,M5 hm0 Y1];exact kB⟩)
  refine af.region (jK 3 [64] [(1,p_ ⟨[],none,none,none,some (.bool (!(decide (((bK Z d c.name x).2:Int)=(0:Int)))))⟩ [((.bool (!(decide (((bK Z d c.name x).2:Int)=(0:Int)))):Value))=(.bool (!(decide (((bK Z d c.name x).2:Int)=(0:Int)))))] ⟨rfl,trivial⟩)] ?_)
  refine sN 64 (((bK Z d c.name x).2:Int)=(0:Int)) (fun h64=>?_) (fun h64=>?_)
  ·refine jK 4 [68] [] ?_
   refine NN (CT (SR (jC 5 [7,8] [(0,A_ 7 jl 12),(2,A_ 4 b18 12)] [(4,(zC (rW ((bK Z d c.name x).1) A1 c1 Y.G Y.cg Y.H Y.ch Y.V Y.cv)))] ?_)))
   refine NN (af.ret (ai.aj (ai.bM [0,1] [YS A1 Z d c x c1 L1,YT Y Z d c x] (fun aa4 DC hL=>?_))))
   have d8:cq aa4 (bK Z d c.name x).1 ⟨A1,c1,L1,Y.G,Y.cg,Y.H,Y.ch,Y.V,Y.cv⟩:=bE.at hL
   replace hI:=hI.le DC
   replace bE:=bE.le DC
   replace hle0:=hle0.trans DC
   exact rB _ [A_ 2 b18 12] [4] hle0 (⟨⟨A1,c1,L1,Y.G,Y.cg,Y.H,Y.ch,Y.V,Y.cv⟩,by rw [hch,EU hno]<;>rfl,rfl,by rw [hch,EU hno];exact d8⟩)
  refine jK 4 [68] [(1,a_ 3 b17),(2,p_ ⟨[],none,none,none,some (.bool (!(decide ((c.op:Int)=(5:Int)))))⟩ [((.bool (!(decide ((c.op:Int)=(5:Int)))):Value))=(.bool (!(decide ((c.op:Int)=(5:Int)))))] ⟨rfl,trivial⟩)] ?_
  refine NN (cN ((c.op:Int)=(5:Int)) (fun h68=>?_) (fun h68=>?_))
  ·refine SR (jC 5 [7,8] [(0,A_ 7 jl 12),(2,A_ 4 b18 12)] [(4,(zC (rW ((bK Z d c.name x).1) A1 c1 Y.G Y.cg Y.H Y.ch Y.V Y.cv)))] ?_)
   refine NN (af.ret (ai.aj (ai.bM [0,1] [YS A1 Z d c x c1 L1,YT Y Z d c x] (fun aa5 DE hL=>?_))))
   have d8:cq aa5 (bK Z d c.name x).1 ⟨A1,c1,L1,Y.G,Y.cg,Y.H,Y.ch,Y.V,Y.cv⟩:=bE.at hL
   replace hI:=hI.le DE
   replace bE:=bE.le DE
   replace hle0:=hle0.trans DE
   exact rB _ [A_ 2 b18 12] [4] hle0 (⟨⟨A1,c1,L1,Y.G,Y.cg,Y.H,Y.ch,Y.V,Y.cv⟩,by rw [hch,EU hno]<;>rfl,rfl,by rw [hch,EU hno];exact d8⟩)
  exact absurd ⟨by omega,by omega⟩ hno
 refine SR (jK 3 [40] [(1,a_ 4 b17)] ?_)
 refine NN (cN ((c.op:Int)=(6:Int)) (fun qx=>?_) (fun qx=>?_))
 ·refine af.seq (SR (jK 2 [42] [(1,a_ 4 b17)] ?_))
  refine gL [] (Kc c.mode) ?_
  rintro _ _ ⟨rfl,rfl⟩
  refine jK 1 [44] [] ?_
  refine NN (cN (gA c.mode) (fun uy=>?_) (fun uy=>?_))
  ·refine SR (jC 4 [7,8] [(0,A_ 3 b16 12),(1,A_ 5 b18 12)] [(5,(zC (rV Z Y)))] ?_)
   refine NN (af.ret (ai.aj (ai.aj (ai.bM [0,1] [dW Y Z,dN Y Z] (fun aa6 Kw hL=>?_)))))
   have d8:cq aa6 Z Y:=hI.at hL
   replace hI:=hI.le Kw
   replace hle0:=hle0.trans Kw
   exact rB _ [A_ 3 b18 12] [0] hle0 (⟨Y,by rw [YM n8 qx uy]<;>rfl,rfl,by rw [YM n8 qx uy];exact d8⟩)
  refine af.skip (NX (SR (jC 4 [] [(1,a_ 4 b17),(3,A_ 6 q8 10)] [(6,[(1,vI 2),(2,vI (c.mode)),(8,.string ⟨#[]⟩)])] ?_)))
  refine NS (jK 3 [51] [(1,a_ 4 b17)] ?_)
  refine NN (cP ((c.op:Int)=(5:Int)) (fun zy=>?_) (fun zy=>?_))
  ·refine af.region (jC 2 [] [(1,a_ 6 q8)] [(6,[(1,vI 1)])] ?_)
   refine NL ?_
   exact mJ ((⟨0,1,c.mode,0,0,0,0,[],⟨#[]⟩,[]⟩:ay)) [3,4,5,6,0,1,2] (⟨⟨rfl,rfl,Nat.zero_le _⟩,aa1 n8 qx uy (by omega)⟩)
  refine af.skip ?_
  exact mJ ((⟨0,2,c.mode,0,0,0,0,[],⟨#[]⟩,[]⟩:ay)) [3,4,5,6,0,1,2] (⟨⟨rfl,rfl,Nat.zero_le _⟩,aa2 n8 qx uy zy⟩)
 refine af.skip ?_
 exact mJ ((⟨0,3,511,0,0,0,0,[],c.text,[]⟩:ay)) [3,4,5,6,0,1,2] (⟨⟨rfl,rfl,htx⟩,aa0 n8 (by omega)⟩)
theorem Ug {β:Bs} (Z:RS) (Y:RL) (hI:jV β Z Y.L Y.H Y.V) (hC:RC Z) (c:aH) :
    cG Tryz.prog β 77 #[.agg ⟨rV Z Y⟩,.agg ⟨aO c⟩] [dW Y Z,dN Y Z] (fun β' v l=>∃ Y',v=.tuple #[.agg ⟨rV ((jj Z c).1) Y'⟩,vI (jj Z c).2.1,vI (jj Z c).2.2]/\l=[]/\cq β' (jj Z c).1 Y'):=by
 refine qb Tryz.func77 Tryz.ntmps77 (fun hle0 R=>?_)
 refine SR (jN 1 [2] (fun _=>[]) (fun _=>[]) (fun oK=>.blk oK (rV Z Y) 42) (fun oK=>?_))
 refine jN 1 [3] (fun _=>[]) (fun _=>[]) (fun qA=>.blk qA (aO c) 53) (fun qA=>?_)
 refine jN 3 [4] (fun _=>[]) (fun _=>[]) (fun fF=>.blk fF (rZ) 42) (fun fF=>?_)
 refine NS (jK 3 [10,12] [(0,A_ 3 oK 12),(2,a_ 4 qA)] ?_)
 rcases pZ hC c.handle with hh|⟨k,hh,hk⟩
 ·refine gL [0,1] ((cW hI (fun _ _ h=>o7 Z Y h hC c.handle)).val (congrArg exV hh)) ?_
  rintro _ _ ⟨rfl,rfl⟩
  refine jK 5 [7,8] [] ?_
  refine NN (af.seq (SR (jK 2 [17] [] ?_)))
  refine NN (CT (SR (jC 5 [5,6] [(0,A_ 3 oK 12),(2,A_ 5 fF 12)] [(5,(zC (rV Z Y)))] ?_)))
  refine NN (af.ret (ai.aj (ai.bM [0,1] [dW Y Z,dN Y Z] (fun aa7 Kx hL=>?_))))
  have d8:cq aa7 Z Y:=hI.at hL
  replace hI:=hI.le Kx
  replace hle0:=hle0.trans Kx
  exact rB _ [A_ 3 fF 12] [0] hle0 (⟨Y,by rw [Q5 hh]<;>rfl,rfl,by rw [Q5 hh];exact d8⟩)
 refine ak.qF 0 rfl (by omega) (fun jy=>?_)
 refine gL [0,1] ((cW hI (fun _ _ h=>o7 Z Y h hC c.handle)).val (congrArg exV hh)) ?_
 rintro _ _ ⟨rfl,rfl⟩
 refine jK 5 [7,8] [] ?_
 refine NN (af.seq (SR (jK 2 [17] [] ?_)))
 refine NN (CF (af.skip (NX (af.join (fun (u:Unit)=>(¬ ((nd Z.ns k).kind=2/\(nd Z.ns k).id∈Z.gone))) (fun (u:Unit)=>[(2,vP oK),(3,vP qA),(4,vP fF),(7,vI ↑k)]) (fun (u:Unit)=>[dW Y Z,dN Y Z,.abs R,.blk oK (rV Z Y) 42,pC qA c,.blk fF (rZ) 42]) ?_ ?_))))
 ·rintro u n1
  refine af.seq (SR (jK 2 [41] [(1,a_ 4 qA)] ?_))
  refine gL [] (Kc c.mode) ?_
  rintro _ _ ⟨rfl,rfl⟩
  refine jK 1 [43] [] ?_
  refine NN (cN (gA c.mode) (fun iy=>?_) (fun iy=>?_))
  ·refine SR (jC 4 [5,6] [(0,A_ 3 oK 12),(1,A_ 5 fF 12)] [(5,(zC (rV Z Y)))] ?_)
   refine NN (af.ret (ai.aj (ai.bM [0,1] [dW Y Z,dN Y Z] (fun aa8 Ky hL=>?_))))
   have d8:cq aa8 Z Y:=hI.at hL
   replace hI:=hI.le Ky
   replace hle0:=hle0.trans Ky
   exact rB _ [A_ 3 fF 12] [0] hle0 (⟨Y,by rw [Q7 hh n1 iy]<;>rfl,rfl,by rw [Q7 hh n1 iy];exact d8⟩)
  refine af.skip (NX (af.seq (af.seq ?_)))
  by_cases hown:mh c.uid/\mh c.gid
  ·have hw1:=hown.1.1
   have hw2:=hown.1.2
   have hw3:=hown.2.1
   have hw4:=hown.2.2
   refine af.region (jK 18 [62] [(1,a_ 4 qA),(2,wF ((c.uid:Int) < (0:Int))),(5,a_ 4 qA),(6,wF ((c.uid:Int) > (2147483647:Int))),(10,a_ 4 qA),(11,wF ((c.gid:Int) < (0:Int))),(15,a_ 4 qA),(16,wF ((c.gid:Int) > (2147483647:Int)))] ?_)
   refine NN (CF (af.skip (NX (af.seq (SR (jK 2 [65] [(1,A_ 4 qA 2)] ?_))))))
   refine gL [] (xw c.sec c.nano) ?_
   rintro _ _ ⟨rfl,rfl⟩
   refine jK 1 [67] [] ?_
   refine NN (cN (dw c.sec c.nano) (fun Ja=>?_) (fun Ja=>?_))
   ·refine SR (jC 4 [5,6] [(0,A_ 3 oK 12),(1,A_ 5 fF 12)] [(5,(zC (rV Z Y)))] ?_)
    refine NN (af.ret (ai.aj (ai.bM [0,1] [dW Y Z,dN Y Z] (fun aa9 Kz hL=>?_))))
    have d8:cq aa9 Z Y:=hI.at hL
    replace hI:=hI.le Kz
    replace hle0:=hle0.trans Kz
    exact rB _ [A_ 3 fF 12] [0] hle0 (⟨Y,by rw [Q8 hh n1 iy hown Ja]<;>rfl,rfl,by grind [Q8]⟩)
   refine af.skip (NX (SR (jK 8 [74,76] [(2,a_ 3 oK),(5,a_ 4 qA),(6,x_ k Z.ns.length (jy))] ?_)))
   refine ak.vl 0 (k * 10+2) (d:=none) (T:=3) (e:=66) (size:=10) (n:=Z.ns.length) (cap:=Y.c) (A:=Y.A) (xs:=(aR Y.L Z.ns)) (u:=.int .i64 (c.mode)) (a:=(.tmp 76)) (y:=(.tmp 74)) (fun _=>by kernel_rfl) (by kernel_rfl) (fun _=>by kernel_rfl) (fun _=>by kernel_rfl) (by kernel_rfl) rfl (by omega) (by rw [j5];omega) ?_
   refine NS (jK 8 [82,84] [(2,a_ 3 oK),(5,a_ 4 qA),(6,x_ k Z.ns.length (jy))] ?_)
   refine ak.vl 0 (k * 10+3) (d:=none) (T:=3) (e:=66) (size:=10) (n:=Z.ns.length) (cap:=Y.c) (A:=Y.A) (xs:=((aR Y.L Z.ns).set (k * 10+2) (.int .i64 (c.mode)))) (u:=.int .i64 (c.uid)) (a:=(.tmp 84)) (y:=(.tmp 82)) (fun _=>by kernel_rfl) (by kernel_rfl) (fun _=>by kernel_rfl) (fun _=>by kernel_rfl) (by kernel_rfl) rfl (by omega) (by rw [List.length_set,j5];omega) ?_
   refine NS (jK 8 [90,92] [(2,a_ 3 oK),(5,a_ 4 qA),(6,x_ k Z.ns.length (jy))] ?_)
   refine ak.vl 0 (k * 10+4) (d:=none) (T:=3) (e:=66) (size:=10) (n:=Z.ns.length) (cap:=Y.c) (A:=Y.A) (xs:=(((aR Y.L Z.ns).set (k * 10+2) (.int .i64 (c.mode))).set (k * 10+3) (.int .i64 (c.uid)))) (u:=.int .i64 (c.gid)) (a:=(.tmp 92)) (y:=(.tmp 90)) (fun _=>by kernel_rfl) (by kernel_rfl) (fun _=>by kernel_rfl) (fun _=>by kernel_rfl) (by kernel_rfl) rfl (by omega) (by grind [j5]) ?_
   refine NS (jK 8 [98,100] [(2,a_ 3 oK),(5,A_ 4 qA 2),(6,x_ k Z.ns.length (jy))] ?_)
   refine ak.yV 0 (k * 10+5) (d:=none) (T:=26) (e:=66) (size:=10) (n:=Z.ns.length) (cap:=Y.c) (A:=Y.A) (xs:=((((aR Y.L Z.ns).set (k * 10+2) (.int .i64 (c.mode))).set (k * 10+3) (.int .i64 (c.uid))).set (k * 10+4) (.int .i64 (c.gid)))) (u:=.int .i64 (c.sec)) (u2:=.int .i64 (c.nano)) (a:=(.tmp 100)) (y:=(.tmp 98)) (fun _=>by kernel_rfl) (by kernel_rfl) (fun _=>by kernel_rfl) (fun _=>by kernel_rfl) (by kernel_rfl) rfl rfl (by omega) (by grind [j5]) ?_
   refine ak.bO 0 rfl (Ua hk) ?_
   refine NS (jC 4 [5,6] [(0,A_ 3 oK 12),(1,A_ 5 fF 12)] [(5,(zC (rV Z Y)))] ?_)
   refine NN (af.ret (ai.bM [0,1] [.abs (av 66 10 Y.A ((uT Z k c).ns.length) Y.c (aR Y.L (uT Z k c).ns)),dN Y Z] (fun abb KA hL=>?_)))
   have d8:cq abb (uT Z k c) Y:=(hI.meta hk).at hL
   replace hI:=hI.le KA
   replace hle0:=hle0.trans KA
   exact rB (.tuple #[.agg ⟨rV Z Y⟩,vI 0,vI 0]) [A_ 3 fF 12] [0] hle0 (⟨Y,by simp only [rV];rw [Q9 hh n1 iy hown Ja];show _=_;rw [DA]<;>rfl,rfl,by grind [Q9]⟩)
  refine af.region (jK 4 [48] [(1,a_ 4 qA),(2,p_ ⟨[],none,none,none,some (.bool (decide ((c.uid:Int) < (0:Int))))⟩ [((.bool (decide ((c.uid:Int) < (0:Int))):Value))=(.bool (decide ((c.uid:Int) < (0:Int))))] ⟨rfl,trivial⟩)] ?_)
  refine sP 48 ((c.uid:Int) < (0:Int)) (fun h48=>?_) (fun h48=>?_)
  ·refine jK 14 [62] [] ?_
   refine NN (CT (SR (jC 4 [5,6] [(0,A_ 3 oK 12),(1,A_ 5 fF 12)] [(5,(zC (rV Z Y)))] ?_)))
   refine NN (af.ret (ai.aj (ai.bM [0,1] [dW Y Z,dN Y Z] (fun abd KC hL=>?_))))
   have d8:cq abd Z Y:=hI.at hL
   replace hI:=hI.le KC
   replace hle0:=hle0.trans KC
   exact rB _ [A_ 3 fF 12] [0] hle0 (⟨Y,by rw [ud hh n1 iy hown]<;>rfl,rfl,by rw [ud hh n1 iy hown];exact d8⟩)
  refine jK 5 [53] [(1,a_ 4 qA),(2,p_ ⟨[],none,none,none,some (.bool (decide ((c.uid:Int) > (2147483647:Int))))⟩ [((.bool (decide ((c.uid:Int) > (2147483647:Int))):Value))=(.bool (decide ((c.uid:Int) > (2147483647:Int))))] ⟨rfl,trivial⟩)] ?_
  refine sP 53 ((c.uid:Int) > (2147483647:Int)) (fun GD=>?_) (fun GD=>?_)
  ·refine jK 9 [62] [] ?_
   refine NN (CT (SR (jC 4 [5,6] [(0,A_ 3 oK 12),(1,A_ 5 fF 12)] [(5,(zC (rV Z Y)))] ?_)))
   refine NN (af.ret (ai.aj (ai.bM [0,1] [dW Y Z,dN Y Z] (fun abe KD hL=>?_))))
   have d8:cq abe Z Y:=hI.at hL
   replace hI:=hI.le KD
   replace hle0:=hle0.trans KD
   exact rB _ [A_ 3 fF 12] [0] hle0 (⟨Y,by rw [ud hh n1 iy hown]<;>rfl,rfl,by rw [ud hh n1 iy hown];exact d8⟩)
  refine jK 5 [58] [(1,a_ 4 qA),(2,p_ ⟨[],none,none,none,some (.bool (decide ((c.gid:Int) < (0:Int))))⟩ [((.bool (decide ((c.gid:Int) < (0:Int))):Value))=(.bool (decide ((c.gid:Int) < (0:Int))))] ⟨rfl,trivial⟩)] ?_
  refine sP 58 ((c.gid:Int) < (0:Int)) (fun HF=>?_) (fun HF=>?_)
  ·refine jK 4 [62] [] ?_
   refine NN (CT (SR (jC 4 [5,6] [(0,A_ 3 oK 12),(1,A_ 5 fF 12)] [(5,(zC (rV Z Y)))] ?_)))
   refine NN (af.ret (ai.aj (ai.bM [0,1] [dW Y Z,dN Y Z] (fun abf KE hL=>?_))))
   have d8:cq abf Z Y:=hI.at hL
   replace hI:=hI.le KE
   replace hle0:=hle0.trans KE
   exact rB _ [A_ 3 fF 12] [0] hle0 (⟨Y,by rw [ud hh n1 iy hown]<;>rfl,rfl,by rw [ud hh n1 iy hown];exact d8⟩)
  refine jK 4 [62] [(1,a_ 4 qA),(2,p_ ⟨[],none,none,none,some (.bool (decide ((c.gid:Int) > (2147483647:Int))))⟩ [((.bool (decide ((c.gid:Int) > (2147483647:Int))):Value))=(.bool (decide ((c.gid:Int) > (2147483647:Int))))] ⟨rfl,trivial⟩)] ?_
  refine NN (cP ((c.gid:Int) > (2147483647:Int)) (fun U5=>?_) (fun U5=>?_))
  ·refine SR (jC 4 [5,6] [(0,A_ 3 oK 12),(1,A_ 5 fF 12)] [(5,(zC (rV Z Y)))] ?_)
   refine NN (af.ret (ai.aj (ai.bM [0,1] [dW Y Z,dN Y Z] (fun abg KF hL=>?_))))
   have d8:cq abg Z Y:=hI.at hL
   replace hI:=hI.le KF
   replace hle0:=hle0.trans KF
   exact rB _ [A_ 3 fF 12] [0] hle0 (⟨Y,by rw [ud hh n1 iy hown]<;>rfl,rfl,by rw [ud hh n1 iy hown];exact d8⟩)
  exact absurd ⟨⟨by omega,by omega⟩,⟨by omega,by omega⟩⟩ hown
 refine af.seq ?_
 by_cases hk2:(nd Z.ns k).kind=2
 ·refine jM [0,1,2,3,4,5,6,7,8,9,10,11,12,13,14,15,16,517,518] [3,0] ?_
  refine jG 17 [2,3,4,7,28,29,36] [(2,a_ 0 oK),(4,x_ k Z.ns.length (jy)),(6,v_ 1 (nA Z.ns Y.L Y.A Y.c k 1 hk rfl)),(7,wT (((nd Z.ns k).kind:Int)=(2:Int)) hk2),(9,A_ 0 oK 12),(12,a_ 0 oK),(14,x_ k Z.ns.length (jy)),(16,v_ 1 (nA Z.ns Y.L Y.A Y.c k 0 hk rfl))] ?_
  refine kL [3,0] [0,1] (cW hI (fun _ _ h=>vR Z Y h hC.toRB (nd Z.ns k).id)) ?_ (by rintro _ _ ⟨rfl,rfl⟩;kernel_rfl)
  rintro _ _ ⟨rfl,rfl⟩
  refine dH.last (by kernel_rfl) ?_
  refine jK 1 [38] [] ?_
  refine NL (ai.np (NX ?_))
  refine cP ((nd Z.ns k).id∈Z.gone) (fun Ad=>?_) (fun Ad=>?_)
  ·refine SR (jC 4 [5,6] [(0,A_ 3 oK 12),(1,A_ 5 fF 12)] [(5,(zC (rV Z Y)))] ?_)
   refine NN (af.ret (ai.aj (ai.bM [0,1] [dW Y Z,dN Y Z] (fun abh KG hL=>?_))))
   have d8:cq abh Z Y:=hI.at hL
   replace hI:=hI.le KG
   replace hle0:=hle0.trans KG
   exact rB _ [A_ 3 fF 12] [0] hle0 (⟨Y,by rw [Q6 hh ⟨hk2,Ad⟩]<;>rfl,rfl,by grind [Q6]⟩)
  refine af.skip ?_
  exact mJ () [0,1,2,3,4,5] ((fun q=>Ad q.2))
 refine jM [0,1,2,3,4,5,6,7,8,9,10,11,12,13,14,15,16,517,518] [3,0] ?_
 refine jG 17 [2,3,4,7,28,29,36] [(2,a_ 0 oK),(4,x_ k Z.ns.length (jy)),(6,v_ 1 (nA Z.ns Y.L Y.A Y.c k 1 hk rfl)),(7,wF (((nd Z.ns k).kind:Int)=(2:Int)) hk2)] ?_
 refine dH.cut (ι:=Unit) (fr':=fun (_:Unit)=>[(2,vP oK),(3,vP qA),(4,vP fF),(7,vI ↑k),(28,.bool false),(37,undef)]) (hp':=fun (_:Unit)=>[dW Y Z,dN Y Z,.abs R,.blk oK (rV Z Y) 42,.blk qA (aO c) 53,.blk fF (rZ) 42]) [3,0] (by kernel_rfl) ?_ rfl (fun _=>by kernel_rfl) ?_
 ·refine jK 1 [37] [] ?_
  refine NL ?_
  exact MD () [2,3,4,7,28,37] [0,1,2,3,4,5]
 rintro _
 refine dH.last (by kernel_rfl) ?_
 refine jK 1 [38] [] ?_
 refine NL (ai.np (NX ?_))
 refine CF (af.skip ?_)
 exact mJ () [0,1,2,3,4,5] ((fun q=>hk2 q.1))
end
section
open Go.RowKit Go.Maps aX aq
attribute [local irreducible] ak aV af ai iz
noncomputable abbrev zW1 (b1:Nat) (Y:RL) (Z:RS) (A1:Option Addr) (c:aH) (c1:Nat) (B1) (d1):=(.blk b1 [.slice Y.A (Z.ns.length) (Y.c),.slice Y.G (Z.gone.length) (Y.cg),vI (Z.cH),vI (Z.ar),.slice A1 ((del c.handle Z.us).length) (c1),.slice B1 ((del c.handle Z.us).length) (d1),vI (Z.cN),vI (Z.cB),vI (Z.cH),vI (Z.cS),vI (Z.cZ),vI (Z.last)] 42:HP)
theorem Rk {β:Bs} (Z:RS) (Y:RL) (hI:jV β Z Y.L Y.H Y.V) (hC:RC Z) (hD:RD 0 Z) (c:aH) (hn:c.name.size<=1048576) (ht:c.text.size<=1048576) (hno:c.op=9->∀ k,eH Z c.handle=.ok k->(nd Z.ns k).kind=2) :
    cG Tryz.prog β 43 #[.agg ⟨rV Z Y⟩,.agg ⟨aO c⟩] [dW Y Z,dN Y Z] (fun β' v l=>∃ Y',v=.tuple #[.agg ⟨rV ((aS Z c).1) Y'⟩,vI (aS Z c).2.1,vI (aS Z c).2.2]/\l=[]/\cq β' (aS Z c).1 Y'):=by
 refine qb Tryz.func43 Tryz.ntmps43 (fun hle0 R=>?_)
 refine SR (jN 1 [2] (fun _=>[]) (fun _=>[]) (fun b1=>.blk b1 (rV Z Y) 42) (fun b1=>?_))
 refine jN 1 [3] (fun _=>[]) (fun _=>[]) (fun b2=>.blk b2 (aO c) 53) (fun b2=>?_)
 refine jN 3 [4] (fun _=>[]) (fun _=>[]) (fun b3=>.blk b3 (rZ) 42) (fun b3=>?_)
 refine NN (af.seq (SR (jK 2 [24] [(1,a_ 4 b2)] ?_)))
 refine NN (af.block (SR ?_))
 refine jK 2 [25] [] ?_
 refine NN (cP ((c.op:Int)=(1:Int)) (fun oG=>?_) (fun oG=>?_))
 ·refine SR (jK 4 [28,30] [(1,a_ 3 b1),(3,a_ 4 b2)] ?_)
  by_cases h1:0<=fP Z.ns c.other
  ·have hk1:=(kr h1).1
   refine ak.qF 0 rfl (by omega) (fun jy=>?_)
   refine gL [0,1] ((cW hI (fun _ _ h=>D6 Y.A Y.c Z.ns Y.L h.n hC.rise (by have:=hC.ns;omega) c.other)).val (congrArg (Value.int .i64) (kr h1).2.2)) ?_
   rintro _ _ ⟨rfl,rfl⟩
   refine jK 1 [7] [] ?_
   refine NN (af.seq (SR (jK 2 [33] [(1,wF (((((tgt Z.ns c.other):Nat):Int):Int) < (0:Int)))] ?_)))
   refine NN (CF (af.skip (NX (af.seq (SR (jK 8 [42] [(2,a_ 3 b1),(4,x_ (tgt Z.ns c.other) Z.ns.length (jy)),(6,v_ 0 (nA Z.ns Y.L Y.A Y.c (tgt Z.ns c.other) 1 hk1 rfl))] ?_))))))
   refine NN (cN (((nd Z.ns (tgt Z.ns c.other)).kind:Int)=(2:Int)) (fun iy=>?_) (fun iy=>?_))
   ·refine SR (jC 4 [5,6] [(0,A_ 3 b1 12),(1,A_ 5 b3 12)] [(5,(zC (rV Z Y)))] ?_)
    refine NN (af.ret (ai.aj (ai.au (ai.aj ?_))))
    refine ai.bM [0,1] [dW Y Z,dN Y Z] (fun xW dV hL=>?_)
    have d8:cq xW Z Y:=hI.at hL
    replace hI:=hI.le dV
    replace hle0:=hle0.trans dV
    exact rB _ [A_ 3 b3 12] [0] hle0 (⟨Y,by rw [Vy oG h1 iy]<;>rfl,rfl,by rw [Vy oG h1 iy];exact d8⟩)
   refine af.skip (NX (SR (jK 2 [44,45] [(0,A_ 3 b1 12)] ?_)))
   refine ak.bM [0,1] [dW Y Z,dN Y Z] (fun β1 aT hL=>?_)
   have pq:cq β1 Z Y:=hI.at hL
   replace hI:=hI.le aT
   replace hle0:=hle0.trans aT
   refine lS [] (Dz Z Y pq hC.ru (tgt Z.ns c.other) hk1) ?_
   rintro nJ _ _ cI ⟨Y3,rfl,rfl,kB⟩
   replace hI:=hI.le cI
   replace pq:=pq.le cI
   replace hle0:=hle0.trans cI
   refine jC 6 [5,6] [(3,A_ 3 b3 12)] [(3,(zC (rV ((iC Z (tgt Z.ns c.other)).1) Y3)))] ?_
   refine NN (af.ret (ai.au (ai.aj ?_)))
   exact rB _ [A_ 3 b3 12] [0] hle0 (⟨Y3,by rw [Vz oG h1 iy]<;>rfl,rfl,by rw [Vz oG h1 iy];exact kB⟩)
  refine gL [0,1] ((cW hI (fun _ _ h=>D6 Y.A Y.c Z.ns Y.L h.n hC.rise (by have:=hC.ns;omega) c.other)).val (congrArg (Value.int .i64) (BP h1))) ?_
  rintro _ _ ⟨rfl,rfl⟩
  refine jK 1 [7] [] ?_
  refine NN (af.seq (SR (jK 2 [33] [] ?_)))
  refine NN (CT (SR (jC 4 [5,6] [(0,A_ 3 b1 12),(1,A_ 5 b3 12)] [(5,(zC (rV Z Y)))] ?_)))
  refine NN (af.ret (ai.aj (ai.au (ai.aj ?_))))
  refine ai.bM [0,1] [dW Y Z,dN Y Z] (fun M7 ja hL=>?_)
  have d8:cq M7 Z Y:=hI.at hL
  replace hI:=hI.le ja
  replace hle0:=hle0.trans ja
  exact rB _ [A_ 3 b3 12] [0] hle0 (⟨Y,by rw [Vx oG (BP h1)]<;>rfl,rfl,by rw [Vx oG (BP h1)];exact d8⟩)
 refine SR (jK 2 [50] [] ?_)
 refine NN (cP ((c.op:Int)=(2:Int)) (fun h50=>?_) (fun h50=>?_))
 ·refine SR (jK 2 [52,53] [(0,A_ 3 b1 12),(1,A_ 4 b2 13)] ?_)
  refine lS [0,1] (HE Z Y hI hC c hn 2) ?_
  rintro β1 _ _ aT ⟨Y3,rfl,rfl,kB⟩
  replace hI:=hI.le aT
  replace hle0:=hle0.trans aT
  refine jC 6 [5,6] [(3,A_ 3 b3 12)] [(3,(zC (rV ((fN Z c 2).1) Y3)))] ?_
  refine NN (af.ret (ai.au (ai.aj ?_)))
  exact rB _ [A_ 3 b3 12] [0] hle0 (⟨Y3,by rw [YN h50]<;>rfl,rfl,by rw [YN h50];exact kB⟩)
 refine SR (jK 2 [58] [] ?_)
 refine NN (cP ((c.op:Int)=(3:Int)) (fun HF=>?_) (fun HF=>?_))
 ·refine SR (jK 2 [60,61] [(0,A_ 3 b1 12),(1,A_ 4 b2 13)] ?_)
  refine lS [0,1] (HE Z Y hI hC c hn 1) ?_
  rintro β1 _ _ aT ⟨Y3,rfl,rfl,kB⟩
  replace hI:=hI.le aT
  replace hle0:=hle0.trans aT
  refine jC 6 [5,6] [(3,A_ 3 b3 12)] [(3,(zC (rV ((fN Z c 1).1) Y3)))] ?_
  refine NN (af.ret (ai.au (ai.aj ?_)))
  exact rB _ [A_ 3 b3 12] [0] hle0 (⟨Y3,by rw [YO HF]<;>rfl,rfl,by rw [YO HF];exact kB⟩)
 refine af.join (fun (q:Bool)=>(q=true↔EV c.op)) (fun (q:Bool)=>[(2,vP b1),(3,vP b2),(4,vP b3),(24,vI (c.op)),(66,.bool q)]) (fun (q:Bool)=>[dW Y Z,dN Y Z,.abs R,.blk b1 (rV Z Y) 42,pC b2 c,.blk b3 (rZ) 42]) ?_ ?_
 ·rintro q hq
  refine af.cond (b:=q) (fun _=>by kernel_rfl) (fun jq=>?_) (fun jq=>?_)
  ·have MO:=hq.1 jq
   refine SR (jK 5 [73,75,77] [(0,A_ 3 b1 12),(2,a_ 4 b2),(4,a_ 4 b2)] ?_)
   rcases nO hC c.handle c.name 192 with ⟨e,h1,Bf⟩|⟨d,h1,hd⟩
   ·refine gL [0,1] ((cW hI (fun _ _ h=>kX Z Y h hC c.handle c.name hn 192)).val (congrArg exV h1)) ?_
    rintro _ _ ⟨rfl,rfl⟩
    refine jK 5 [8,9] [] ?_
    refine NN (af.seq (SR (jK 2 [82] [(1,IQ ((e:Int)=(0:Int)) Bf)] ?_)))
    refine NN (CT (SR (jC 5 [5,6] [(0,A_ 3 b1 12),(2,A_ 5 b3 12)] [(5,(zC (rV Z Y)))] ?_)))
    refine NN (af.ret (ai.aj (ai.au (ai.aj ?_))))
    refine ai.bM [0,1] [dW Y Z,dN Y Z] (fun YX xY hL=>?_)
    have d8:cq YX Z Y:=hI.at hL
    replace hI:=hI.le xY
    replace hle0:=hle0.trans xY
    exact rB _ [A_ 3 b3 12] [0] hle0 (⟨Y,by rw [VA (hq.1 jq) h1]<;>rfl,rfl,by rw [VA (hq.1 jq) h1];exact d8⟩)
   refine gL [0,1] ((cW hI (fun _ _ h=>kX Z Y h hC c.handle c.name hn 192)).val (congrArg exV h1)) ?_
   rintro _ _ ⟨rfl,rfl⟩
   refine jK 5 [8,9] [] ?_
   refine NN (af.seq (SR (jK 2 [82] [(1,p_ ⟨[],none,none,none,some (.bool false)⟩ [((.bool false:Value))=(.bool false)] ⟨rfl,trivial⟩)] ?_)))
   refine NN (CF (af.skip (NX (SR (jK 3 [85,86,87] [(0,A_ 3 b1 12),(1,A_ 4 b2 13)] ?_)))))
   refine lS [0,1] (Oy Z Y hI hC hD (by omega) c ht d hd) ?_
   rintro β1 _ _ aT ⟨Y3,rfl,rfl,kB⟩
   replace hI:=hI.le aT
   replace hle0:=hle0.trans aT
   refine jC 6 [5,6] [(3,A_ 3 b3 12)] [(3,(zC (rV ((eM Z c d).1) Y3)))] ?_
   refine NN (af.ret (ai.au (ai.aj ?_)))
   exact rB _ [A_ 3 b3 12] [0] hle0 (⟨Y3,by rw [VB (hq.1 jq) h1]<;>rfl,rfl,by rw [VB (hq.1 jq) h1];exact kB⟩)
  have MO:¬ (c.op=4\/c.op=5\/c.op=6\/c.op=8\/c.op=14):=fun e=>by rw [hq.2 e] at jq;cases jq
  refine SR (jK 2 [92] [] ?_)
  refine NN (cP ((c.op:Int)=(7:Int)) (fun zK=>?_) (fun zK=>?_))
  ·refine SR (jK 2 [95,96] [(0,A_ 3 b1 12),(1,A_ 4 b2 13)] ?_)
   rcases Hj hC c 64 with ⟨a,e,h1,Bf,KH⟩|⟨f,to,h1,hf,hto,KH⟩
   ·refine gL [0,1] ((cW hI (fun _ _ h=>Ce Z Y h hC c hn ht 64)).val KH) ?_
    rintro _ _ ⟨rfl,rfl⟩
    refine jK 7 [10,11,12] [] ?_
    refine NN (af.seq (SR (jK 2 [102] [(1,IQ ((e:Int)=(0:Int)) Bf)] ?_)))
    refine NN (CT (SR (jC 5 [5,6] [(0,A_ 3 b1 12),(2,A_ 5 b3 12)] [(5,(zC (rV Z Y)))] ?_)))
    refine NN (af.ret (ai.aj (ai.au (ai.aj ?_))))
    refine ai.bM [0,1] [dW Y Z,dN Y Z] (fun Hz iM hL=>?_)
    have d8:cq Hz Z Y:=hI.at hL
    replace hI:=hI.le iM
    replace hle0:=hle0.trans iM
    exact rB _ [A_ 3 b3 12] [0] hle0 (⟨Y,by rw [VD zK h1]<;>rfl,rfl,by rw [VD zK h1];exact d8⟩)
   refine gL [0,1] ((cW hI (fun _ _ h=>Ce Z Y h hC c hn ht 64)).val KH) ?_
   rintro _ _ ⟨rfl,rfl⟩
   refine jK 7 [10,11,12] [] ?_
   refine NN (af.seq (SR (jK 2 [102] [(1,p_ ⟨[],none,none,none,some (.bool false)⟩ [((.bool false:Value))=(.bool false)] ⟨rfl,trivial⟩)] ?_)))
   refine NN (CF (af.skip (NX (SR (jK 4 [105,106,108] [(0,A_ 3 b1 12),(3,a_ 4 b2)] ?_)))))
   rcases j7 Z.ns f c.name with hl|⟨k,hl,hk⟩
   ·refine gL [0,1] ((cW hI (fun _ _ h=>iR Z Y h hC f hf c.name)).val (congrArg (Value.int .i64) hl)) ?_
    rintro _ _ ⟨rfl,rfl⟩
    refine jK 1 [13] [] ?_
    refine NN (af.seq (SR (jK 2 [111] [] ?_)))
    refine NN (CT (SR (jC 4 [5,6] [(0,A_ 3 b1 12),(1,A_ 5 b3 12)] [(5,(zC (rV Z Y)))] ?_)))
    refine NN (af.ret (ai.aj (ai.au (ai.aj ?_))))
    refine ai.bM [0,1] [dW Y Z,dN Y Z] (fun β8 Cl hL=>?_)
    have d8:cq β8 Z Y:=hI.at hL
    replace hI:=hI.le Cl
    replace hle0:=hle0.trans Cl
    exact rB _ [A_ 3 b3 12] [0] hle0 (⟨Y,by rw [VF zK h1 hl]<;>rfl,rfl,by rw [VF zK h1 hl];exact d8⟩)
   refine ak.qF 0 rfl (by omega) (fun jy=>?_)
   refine gL [0,1] ((cW hI (fun _ _ h=>iR Z Y h hC f hf c.name)).val (congrArg (Value.int .i64) hl)) ?_
   rintro _ _ ⟨rfl,rfl⟩
   refine jK 1 [13] [] ?_
   refine NN (af.seq (SR (jK 2 [111] [(1,wF (((k:Int):Int) < (0:Int)))] ?_)))
   refine NN (CF (af.skip (NX (af.seq (SR (jK 8 [120] [(2,a_ 3 b1),(4,x_ k Z.ns.length (jy)),(6,v_ 0 (nA Z.ns Y.L Y.A Y.c k 1 hk rfl))] ?_))))))
   refine NN (cP (((nd Z.ns k).kind:Int)=(2:Int)) (fun KI=>?_) (fun KI=>?_))
   ·refine SR (jC 4 [5,6] [(0,A_ 3 b1 12),(1,A_ 5 b3 12)] [(5,(zC (rV Z Y)))] ?_)
    refine NN (af.ret (ai.aj (ai.au (ai.aj ?_))))
    refine ai.bM [0,1] [dW Y Z,dN Y Z] (fun Y4 rf hL=>?_)
    have d8:cq Y4 Z Y:=hI.at hL
    replace hI:=hI.le rf
    replace hle0:=hle0.trans rf
    exact rB _ [A_ 3 b3 12] [0] hle0 (⟨Y,by rw [VG zK h1 hl KI]<;>rfl,rfl,by rw [VG zK h1 hl KI];exact d8⟩)
   refine af.skip (NX (af.seq (SR (jK 4 [122,123,125] [(0,A_ 3 b1 12),(3,a_ 4 b2)] ?_))))
   rcases j7 Z.ns to c.text with hl2|⟨t,hl2,ht⟩
   ·refine gL [0,1] ((cW hI (fun _ _ h=>iR Z Y h hC to hto c.text)).val (congrArg (Value.int .i64) hl2)) ?_
    rintro _ _ ⟨rfl,rfl⟩
    refine jK 1 [127] [] ?_
    refine NN (CF (af.skip (NX (af.seq (SR (jK 1 [129] [(0,A_ 3 b1 12)] ?_))))))
    refine gL [0,1] (cW hI (fun _ _ h=>J6 Z Y h hC.toRB)) ?_
    rintro _ _ ⟨rfl,rfl⟩
    refine jK 1 [131] [] ?_
    refine NN (cP (((((bJ Z.ns Z.ns.length):Nat):Int):Int) ≥ (8192:Int)) (fun abj=>?_) (fun abj=>?_))
    ·refine SR (jC 4 [5,6] [(0,A_ 3 b1 12),(1,A_ 5 b3 12)] [(5,(zC (rV Z Y)))] ?_)
     refine NN (af.ret (ai.aj (ai.au (ai.aj ?_))))
     refine ai.bM [0,1] [dW Y Z,dN Y Z] (fun abk KJ hL=>?_)
     have d8:cq abk Z Y:=hI.at hL
     replace hI:=hI.le KJ
     replace hle0:=hle0.trans KJ
     exact rB (.tuple #[.agg ⟨rV Z Y⟩,vI 0,vI 177]) [A_ 3 b3 12] [0] hle0 (⟨Y,by grind [VI],rfl,by grind [VI]⟩)
    refine af.skip (NX (af.seq (af.tC 11 (by kernel_rfl) (by kernel_rfl) ?_)))
    refine iz.seg (k':=11) (fr':=[(4,vP b3),(133,.agg #[.slice Y.A (Z.ns.length) (Y.c),.slice Y.G (Z.gone.length) (Y.cg),vI (Z.cH),vI (Z.ar),.slice Y.H (Z.us.length) (Y.ch),.slice Y.V (Z.us.length) (Y.cv),vI (Z.cN),vI (Z.cB),vI (Z.cH),vI (Z.cS),vI (Z.cZ),vI (Z.last)]),(134,vI ↑to),(136,.string c.text),(143,vI ((nd Z.ns k).id))]) (cC:=[(∀ F w,(av 66 10 Y.A Z.ns.length Y.c (aR Y.L Z.ns)).h F w->w.cell? ⟨(aJ Y.A),aI Y.A+k * 10,none⟩=some (vI ((nd Z.ns k).id))),((k:Nat):Int)=((k:Nat):Int),k < Z.ns.length,(⟨(aJ Y.A),aI Y.A,none⟩:Addr).spot=none,(Y.A:Option Addr)=some ⟨(aJ Y.A),aI Y.A,none⟩,b1=b1,b2=b2,b1=b1,b1=b1,b1=b1,b1=b1,b1=b1,b1=b1,b1=b1,b1=b1,b1=b1,b1=b1,b1=b1,b1=b1]) [⟨[.at 3,.at 3,.at 3,.at 3,.at 3,.at 3,.at 3,.at 3,.at 3,.at 3,.at 3,.at 3],none,none,none,none⟩,o_,o_,⟨[.at 4],none,none,none,none⟩,o_,o_,⟨[.at 3],none,none,none,none⟩,o_,⟨[],some k,none,some ⟨(aJ Y.A),aI Y.A,none⟩,none⟩,o_,⟨[.view 0 (.int .i64 ((nd Z.ns k).id))],none,none,none,none⟩] [4,133,134,136,143] (fun _ _=>by kernel_rfl) ⟨nA Z.ns Y.L Y.A Y.c k 0 hk rfl,rfl,by omega,rfl,jy,rfl,rfl,rfl,rfl,rfl,rfl,rfl,rfl,rfl,rfl,rfl,rfl,rfl,rfl,trivial⟩ (by decide) ?_
    refine iz.done rfl ?_
    refine lS [0,1] (wU Z Y hI hC.toRB to hto c.text (nd Z.ns k).id) ?_
    rintro YZ _ _ v8 ⟨L1,rfl,rfl,bE⟩
    replace hI:=hI.le v8
    replace hle0:=hle0.trans v8
    refine jC 3 [5,6] [(0,A_ 5 b3 12)] [(5,(zC (rV (bD Z to c.text (nd Z.ns k).id) Y)))] ?_
    refine NN (af.ret (ai.au (ai.aj ?_)))
    refine ai.bM [0,1] [.abs (av 66 10 Y.A ((bD Z to c.text (nd Z.ns k).id).ns.length) Y.c (aR L1 (bD Z to c.text (nd Z.ns k).id).ns)),.abs (av 3 1 Y.G ((bD Z to c.text (nd Z.ns k).id).gone.length) Y.cg (ints (bD Z to c.text (nd Z.ns k).id).gone))] (fun Uf sW hL=>?_)
    have d8:cq Uf (bD Z to c.text (nd Z.ns k).id) ⟨Y.A,Y.c,L1,Y.G,Y.cg,Y.H,Y.ch,Y.V,Y.cv⟩:=bE.at hL
    replace hI:=hI.le sW
    replace bE:=bE.le sW
    replace hle0:=hle0.trans sW
    exact rB _ [A_ 3 b3 12] [0] hle0 (⟨⟨Y.A,Y.c,L1,Y.G,Y.cg,Y.H,Y.ch,Y.V,Y.cv⟩,by rw [VJ zK h1 hl KI hl2 (by omega)]<;>rfl,rfl,by grind [VJ]⟩)
   refine gL [0,1] ((cW hI (fun _ _ h=>iR Z Y h hC to hto c.text)).val (congrArg (Value.int .i64) hl2)) ?_
   rintro _ _ ⟨rfl,rfl⟩
   refine jK 1 [127] [(0,wT (((t:Int):Int) ≥ (0:Int)))] ?_
   refine NN (CT (SR (jC 4 [5,6] [(0,A_ 3 b1 12),(1,A_ 5 b3 12)] [(5,(zC (rV Z Y)))] ?_)))
   refine NN (af.ret (ai.aj (ai.au (ai.aj ?_))))
   refine ai.bM [0,1] [dW Y Z,dN Y Z] (fun Kr o9 hL=>?_)
   have d8:cq Kr Z Y:=hI.at hL
   replace hI:=hI.le o9
   replace hle0:=hle0.trans o9
   exact rB _ [A_ 3 b3 12] [0] hle0 (⟨Y,by rw [VH zK h1 hl KI hl2]<;>rfl,rfl,by grind [VH]⟩)
  refine SR (jK 2 [145] [] ?_)
  refine NN (cP ((c.op:Int)=(9:Int)) (fun lC=>?_) (fun lC=>?_))
  ·refine SR (jK 3 [148,150] [(0,A_ 3 b1 12),(2,a_ 4 b2)] ?_)
   rcases pZ hC c.handle with hh|⟨k,hh,hk⟩
   ·refine gL [0,1] ((cW hI (fun _ _ h=>o7 Z Y h hC c.handle)).val (congrArg exV hh)) ?_
    rintro _ _ ⟨rfl,rfl⟩
    refine jK 5 [14,15] [] ?_
    refine NN (af.seq (SR (jK 2 [155] [] ?_)))
    refine NN (CT (SR (jC 5 [5,6] [(0,A_ 3 b1 12),(2,A_ 5 b3 12)] [(5,(zC (rV Z Y)))] ?_)))
    refine NN (af.ret (ai.aj (ai.au (ai.aj ?_))))
    refine ai.bM [0,1] [dW Y Z,dN Y Z] (fun Kt pu hL=>?_)
    have d8:cq Kt Z Y:=hI.at hL
    replace hI:=hI.le pu
    replace hle0:=hle0.trans pu
    exact rB _ [A_ 3 b3 12] [0] hle0 (⟨Y,by rw [VK lC hh]<;>rfl,rfl,by rw [VK lC hh];exact d8⟩)
   refine ak.qF 0 rfl (by omega) (fun jy=>?_)
   refine gL [0,1] ((cW hI (fun _ _ h=>o7 Z Y h hC c.handle)).val (congrArg exV hh)) ?_
   rintro _ _ ⟨rfl,rfl⟩
   refine jK 5 [14,15] [] ?_
   refine NN (af.seq (SR (jK 2 [155] [] ?_)))
   refine NN (CF (af.skip (NX (af.seq (SR (jK 8 [165] [(2,a_ 3 b1),(4,x_ k Z.ns.length (jy)),(6,v_ 0 (nA Z.ns Y.L Y.A Y.c k 1 hk rfl))] ?_))))))
   refine NN (cP (((nd Z.ns k).kind:Int)=(2:Int)) (fun DF=>?_) (fun DF=>?_))
   ·refine SR (jC 4 [5,6] [(0,A_ 3 b1 12),(1,A_ 5 b3 12)] [(5,(zC (rV Z Y)))] ?_)
    refine NN (af.ret (ai.aj (ai.au (ai.aj ?_))))
    refine ai.bM [0,1] [dW Y Z,dN Y Z] (fun Ku pz hL=>?_)
    have d8:cq Ku Z Y:=hI.at hL
    replace hI:=hI.le pz
    replace hle0:=hle0.trans pz
    exact rB _ [A_ 3 b3 12] [0] hle0 (⟨Y,by rw [VL lC hh DF]<;>rfl,rfl,by rw [VL lC hh DF];exact d8⟩)
   exact absurd (hno lC k hh) DF
  refine SR (jK 2 [175] [] ?_)
  refine NN (cP ((c.op:Int)=(10:Int)) (fun Uh=>?_) (fun Uh=>?_))
  ·refine SR (jK 2 [177,178] [(0,A_ 3 b1 12),(1,A_ 4 b2 13)] ?_)
   refine lS [0,1] (Ug Z Y hI hC c) ?_
   rintro β1 _ _ aT ⟨Y3,rfl,rfl,kB⟩
   replace hI:=hI.le aT
   replace hle0:=hle0.trans aT
   refine jC 6 [5,6] [(3,A_ 3 b3 12)] [(3,(zC (rV ((jj Z c).1) Y3)))] ?_
   refine NN (af.ret (ai.au (ai.aj ?_)))
   exact rB _ [A_ 3 b3 12] [0] hle0 (⟨Y3,by rw [VO Uh]<;>rfl,rfl,by rw [VO Uh];exact kB⟩)
  refine SR (jK 2 [183] [] ?_)
  refine NN (cP ((c.op:Int)=(13:Int)) (fun KL=>?_) (fun KL=>?_))
  ·refine SR (jK 4 [187,189] [(1,A_ 3 b1 4),(3,a_ 4 b2)] ?_)
   by_cases hm:c.handle∈keys Z.us
   ·obtain⟨k,gn,hk,hx,_⟩:=QD hC.usr hm
    refine gL [] (TU Z.cH Z.ar Y.H Y.V Y.ch Y.cv Z.us hI.h hI.v (by have:=hC.us;omega) c.handle hC.usr k hk gn hx) ?_
    rintro _ _ ⟨A1,c1,B1,d1,rfl,rfl⟩
    refine jN 8 [16,18] (fun b16=>[(5,A_ 8 b16 4)]) (fun _=>[]) (fun b16=>.blk b16 [vI (Z.cH),vI (Z.ar),.slice A1 ((del c.handle Z.us).length) (c1),.slice B1 ((del c.handle Z.us).length) (d1)] 40) (fun b16=>?_)
    refine NS (jC 3 [] [(0,A_ 8 b16 4),(2,A_ 5 b1 4)] [(5,[(4,.slice A1 ((del c.handle Z.us).length) (c1)),(5,.slice B1 ((del c.handle Z.us).length) (d1))])] ?_)
    refine NS (jK 1 [196] [(0,A_ 5 b1 12)] ?_)
    refine ak.kg (Φ:=fun β'=>bU β' A1 (ints (keys (del c.handle Z.us)))) 0 [1,2,3,4,5,6,7,8] (dX:=[.abs (av 3 1 B1 ((del c.handle Z.us).length) d1 (ints (gq (del c.handle Z.us)))),dW Y Z,dN Y Z,.abs R,zW1 b1 Y Z A1 c c1 B1 d1,.blk b2 (aO c) 53,.blk b3 (rZ) 42,.blk b16 [vI (Z.cH),vI (Z.ar),.slice A1 ((del c.handle Z.us).length) (c1),.slice B1 ((del c.handle Z.us).length) (d1)] 40]) rfl rfl (by kernel_rfl) (fun F w h β' h1 h2=>bU.gy h h1 h2) (fun β1 aT hH=>?_)
    replace hI:=hI.le aT
    replace hle0:=hle0.trans aT
    refine ak.kg (Φ:=fun β'=>bU β' B1 (ints (gq (del c.handle Z.us)))) 0 [1,2,3,4,5,6,7] (dX:=[dW Y Z,dN Y Z,.abs R,zW1 b1 Y Z A1 c c1 B1 d1,.blk b2 (aO c) 53,.blk b3 (rZ) 42,.blk b16 [vI (Z.cH),vI (Z.ar),.slice A1 ((del c.handle Z.us).length) (c1),.slice B1 ((del c.handle Z.us).length) (d1)] 40]) rfl rfl (by kernel_rfl) (fun F w h β' h1 h2=>bU.gy h h1 h2) (fun nJ cI hV=>?_)
    replace hI:=hI.le cI
    replace hH:=hH.le cI
    replace hle0:=hle0.trans cI
    refine ak.bM [0,1] [dW Y Z,dN Y Z] (fun Bj ef hL=>?_)
    have pq:cq Bj ({ Z with us:=(del c.handle Z.us) }:RS) ⟨Y.A,Y.c,Y.L,Y.G,Y.cg,A1,c1,B1,d1⟩:=have q:=hI.at (ch:=Y.ch) (cv:=Y.cv) hL;⟨⟨q.g,hH.le hL.le,hV.le hL.le⟩,q.n⟩
    replace hI:=hI.le ef
    replace hH:=hH.le ef
    replace hV:=hV.le ef
    replace hle0:=hle0.trans ef
    refine lS [] (t8 ({ Z with us:=(del c.handle Z.us) }:RS) ⟨Y.A,Y.c,Y.L,Y.G,Y.cg,A1,c1,B1,d1⟩ pq ⟨hC.ns,hC.gone,Nat.le_trans Oi hC.us,hC.ah,hC.dat⟩) ?_
    rintro xW _ _ dV ⟨Y3,rfl,rfl,kB⟩
    replace hI:=hI.le dV
    replace hH:=hH.le dV
    replace hV:=hV.le dV
    replace pq:=pq.le dV
    replace hle0:=hle0.trans dV
    refine jC 4 [5,6] [(1,A_ 3 b3 12)] [(3,(zC (rV (dx ({ Z with us:=(del c.handle Z.us) }:RS)) Y3)))] ?_
    refine NN (af.ret (ai.au (ai.aj ?_)))
    exact rB _ [A_ 3 b3 12] [0] hle0 (⟨Y3,by rw [Rb KL hm]<;>rfl,rfl,by rw [Rb KL hm];exact kB⟩)
   refine gL [] (Oo Z.cH Z.ar Y.H Y.V Y.ch Y.cv Z.us hI.h (by have:=hC.us;omega) c.handle (FX hm).1) ?_
   rintro _ _ ⟨rfl,rfl⟩
   refine jN 8 [16,18] (fun b17=>[(5,A_ 6 b17 4)]) (fun _=>[]) (fun b17=>.blk b17 [vI (Z.cH),vI (Z.ar),.slice Y.H (Z.us.length) (Y.ch),.slice Y.V (Z.us.length) (Y.cv)] 40) (fun b17=>?_)
   refine NS (jC 3 [] [(0,A_ 6 b17 4),(2,A_ 3 b1 4)] [] ?_)
   refine NS (jK 1 [196] [(0,A_ 3 b1 12)] ?_)
   refine ak.bM [0,1] [dW Y Z,dN Y Z] (fun Bj ef hL=>?_)
   have pq:cq Bj Z Y:=hI.at hL
   replace hI:=hI.le ef
   replace hle0:=hle0.trans ef
   refine lS [] (t8 Z Y pq hC.toRB) ?_
   rintro xW _ _ dV ⟨Y3,rfl,rfl,kB⟩
   replace hI:=hI.le dV
   replace pq:=pq.le dV
   replace hle0:=hle0.trans dV
   refine jC 4 [5,6] [(1,A_ 3 b3 12)] [(3,(zC (rV (dx Z) Y3)))] ?_
   refine NN (af.ret (ai.au (ai.aj ?_)))
   exact rB _ [A_ 3 b3 12] [0] hle0 (⟨Y3,by rw [Rc KL hm]<;>rfl,rfl,by rw [Rc KL hm];exact kB⟩)
  refine SR (jK 2 [199] [] ?_)
  refine NN (cP ((c.op:Int)=(15:Int)) (fun KM=>?_) (fun KM=>?_))
  ·refine SR (jK 2 [202,203] [(0,A_ 3 b1 12),(1,A_ 4 b2 13)] ?_)
   rcases Hj hC c 192 with ⟨a,e,h1,Bf,KH⟩|⟨f,to,h1,hf,hto,KH⟩
   ·refine gL [0,1] ((cW hI (fun _ _ h=>Ce Z Y h hC c hn ht 192)).val KH) ?_
    rintro _ _ ⟨rfl,rfl⟩
    refine jK 7 [19,20,21] [] ?_
    refine NN (af.seq (SR (jK 2 [209] [(1,IQ ((e:Int)=(0:Int)) Bf)] ?_)))
    refine NN (CT (SR (jC 5 [5,6] [(0,A_ 3 b1 12),(2,A_ 5 b3 12)] [(5,(zC (rV Z Y)))] ?_)))
    refine NN (af.ret (ai.aj (ai.au (ai.aj ?_))))
    refine ai.bM [0,1] [dW Y Z,dN Y Z] (fun SB sC hL=>?_)
    have d8:cq SB Z Y:=hI.at hL
    replace hI:=hI.le sC
    replace hle0:=hle0.trans sC
    exact rB _ [A_ 3 b3 12] [0] hle0 (⟨Y,by rw [Rf KM h1]<;>rfl,rfl,by rw [Rf KM h1];exact d8⟩)
   refine gL [0,1] ((cW hI (fun _ _ h=>Ce Z Y h hC c hn ht 192)).val KH) ?_
   rintro _ _ ⟨rfl,rfl⟩
   refine jK 7 [19,20,21] [] ?_
   refine NN (af.seq (SR (jK 2 [209] [(1,p_ ⟨[],none,none,none,some (.bool false)⟩ [((.bool false:Value))=(.bool false)] ⟨rfl,trivial⟩)] ?_)))
   refine NN (CF (af.skip (NX (SR (jK 7 [213,214,216,217,219] [(0,A_ 3 b1 12),(3,a_ 4 b2),(6,a_ 4 b2)] ?_)))))
   refine lS [0,1] (Ri Z Y hI hC hD (by omega) f hf c.name to hto c.text) ?_
   rintro β1 _ _ aT ⟨Y3,rfl,rfl,kB⟩
   replace hI:=hI.le aT
   replace hle0:=hle0.trans aT
   refine jN 6 [21,22] (fun b19=>[(4,A_ 4 b19 12)]) (fun _=>[]) (fun b19=>.blk b19 (rV ((eV Z f c.name to c.text).1) Y3) 42) (fun b19=>?_)
   refine NS (jC 5 [5,6] [(0,A_ 4 b19 12),(2,A_ 3 b3 12)] [(3,(zC (rV ((eV Z f c.name to c.text).1) Y3)))] ?_)
   refine NN (af.ret (ai.au (ai.aj ?_)))
   exact rB _ [A_ 3 b3 12] [0] hle0 (⟨Y3,by rw [Rg KM h1]<;>rfl,rfl,by rw [Rg KM h1];exact kB⟩)
  refine af.skip (ai.aA (NX (SR ?_)))
  refine jC 4 [5,6] [(0,A_ 3 b1 12),(1,A_ 5 b3 12)] [(5,(zC (rV Z Y)))] ?_
  refine NN (af.ret (ai.bM [0,1] [dW Y Z,dN Y Z] (fun Y6 sX hL=>?_)))
  have d8:cq Y6 Z Y:=hI.at hL
  replace hI:=hI.le sX
  replace hle0:=hle0.trans sX
  exact rB _ [A_ 3 b3 12] [0] hle0 (⟨Y,by rw [VR (by omega)]<;>rfl,rfl,by rw [VR (by omega)];exact d8⟩)
 refine SR (jK 2 [66] [] ?_)
 refine NN (cP ((c.op:Int)=(4:Int)) (fun jq=>?_) (fun jq=>?_))
 ·refine af.skip ?_
  exact mJ ((decide ((c.op:Int)=(4:Int)))) [0,1,2,3,4,5] (⟨fun e=>by grind,fun e=>decide_eq_true (by unfold EV at e;omega)⟩)
 refine SR (jK 2 [66] [] ?_)
 refine NN (cP ((c.op:Int)=(5:Int)) (fun jq=>?_) (fun jq=>?_))
 ·refine af.skip ?_
  exact mJ ((decide ((c.op:Int)=(5:Int)))) [0,1,2,3,4,5] (⟨fun e=>by grind,fun e=>decide_eq_true (by unfold EV at e;omega)⟩)
 refine SR (jK 2 [66] [] ?_)
 refine NN (cP ((c.op:Int)=(6:Int)) (fun jq=>?_) (fun jq=>?_))
 ·refine af.skip ?_
  exact mJ ((decide ((c.op:Int)=(6:Int)))) [0,1,2,3,4,5] (⟨fun e=>by grind,fun e=>decide_eq_true (by unfold EV at e;omega)⟩)
 refine SR (jK 2 [66] [] ?_)
 refine NN (cP ((c.op:Int)=(8:Int)) (fun jq=>?_) (fun jq=>?_))
 ·refine af.skip ?_
  exact mJ ((decide ((c.op:Int)=(8:Int)))) [0,1,2,3,4,5] (⟨fun e=>by grind,fun e=>decide_eq_true (by unfold EV at e;omega)⟩)
 refine af.region (jK 2 [66] [] ?_)
 refine NL ?_
 exact mJ ((decide ((c.op:Int)=(14:Int)))) [0,1,2,3,4,5] (⟨fun e=>by grind,fun e=>decide_eq_true (by unfold EV at e;omega)⟩)
theorem Rl {β:Bs} (Z:RS) (Y:RL) (k:Nat) (hI:zJ β Z Y.L Y.H Y.V k) (hC:RC Z) (hk:k < Z.ns.length) (c:aH) (h9:c.op=9) (hh:eH Z c.handle=.ok k) (hk2:¬ (nd Z.ns k).kind=2) (hb:bh β c.dA c.data) (hl:c.data.length<=140737488355328) (hc:c.data.length<=c.dC) :
    cG Tryz.prog β 43 #[.agg ⟨rV Z Y⟩,.agg ⟨aO c⟩] [dW Y Z,dN Y Z,M6 Y k Z] (fun β' v l=>∃ Y',v=.tuple #[.agg ⟨rV ((aS Z c).1) Y'⟩,vI (aS Z c).2.1,vI (aS Z c).2.2]/\l=[]/\cq β' (aS Z c).1 Y'):=by
 refine qb Tryz.func43 Tryz.ntmps43 (fun hle0 R=>?_)
 refine SR (jN 1 [2] (fun _=>[]) (fun _=>[]) (fun q8=>.blk q8 (rV Z Y) 42) (fun q8=>?_))
 refine jN 1 [3] (fun _=>[]) (fun _=>[]) (fun jl=>.blk jl (aO c) 53) (fun jl=>?_)
 refine jN 3 [4] (fun _=>[]) (fun _=>[]) (fun Bh=>.blk Bh (rZ) 42) (fun Bh=>?_)
 refine NN (af.seq (SR (jK 2 [24] [(1,a_ 5 jl)] ?_)))
 refine NN (af.block (SR ?_))
 refine jK 2 [25] [] ?_
 refine NN (cP ((c.op:Int)=(1:Int)) (fun oG=>?_) (fun oG=>?_))
 ·exact absurd oG (by omega)
 refine SR (jK 2 [50] [] ?_)
 refine NN (cP ((c.op:Int)=(2:Int)) (fun h50=>?_) (fun h50=>?_))
 ·exact absurd h50 (by omega)
 refine SR (jK 2 [58] [] ?_)
 refine NN (cP ((c.op:Int)=(3:Int)) (fun HF=>?_) (fun HF=>?_))
 ·exact absurd HF (by omega)
 refine af.seq (SR (jK 2 [66] [] ?_))
 refine NN (cP ((c.op:Int)=(4:Int)) (fun jq=>?_) (fun jq=>?_))
 ·exact absurd jq (by omega)
 refine SR (jK 2 [66] [] ?_)
 refine NN (cP ((c.op:Int)=(5:Int)) (fun jq=>?_) (fun jq=>?_))
 ·exact absurd jq (by omega)
 refine SR (jK 2 [66] [] ?_)
 refine NN (cP ((c.op:Int)=(6:Int)) (fun jq=>?_) (fun jq=>?_))
 ·exact absurd jq (by omega)
 refine SR (jK 2 [66] [] ?_)
 refine NN (cP ((c.op:Int)=(8:Int)) (fun jq=>?_) (fun jq=>?_))
 ·exact absurd jq (by omega)
 refine af.region (jK 2 [66] [] ?_)
 refine NN (cP ((c.op:Int)=(14:Int)) (fun jq=>?_) (fun jq=>?_))
 ·exact absurd jq (by omega)
 refine SR (jK 2 [92] [] ?_)
 refine NN (cP ((c.op:Int)=(7:Int)) (fun zK=>?_) (fun zK=>?_))
 ·exact absurd zK (by omega)
 refine SR (jK 2 [145] [] ?_)
 refine NN (cP ((c.op:Int)=(9:Int)) (fun lC=>?_) (fun lC=>?_))
 ·refine SR (jK 3 [148,150] [(0,A_ 4 q8 12),(2,a_ 5 jl)] ?_)
  refine gL [0,1,2] (Kp (x:=exV (.ok k)) (cb:=Y.L.dC k) hI rfl rfl (fun _ _ h=>(o7 Z Y h hC c.handle).val (congrArg exV hh))) ?_
  rintro _ _ ⟨rfl,rfl⟩
  refine jK 5 [14,15] [] ?_
  refine NN (af.seq (SR (jK 2 [155] [] ?_)))
  refine NN (CF (af.skip (NX (af.seq (SR (ak.qF 0 rfl (by omega) (fun jy=>?_)))))))
  refine jK 8 [165] [(2,a_ 4 q8),(4,x_ k Z.ns.length (jy)),(6,v_ 0 (nA Z.ns Y.L Y.A Y.c k 1 hk rfl))] ?_
  refine NN (cP (((nd Z.ns k).kind:Int)=(2:Int)) (fun DF=>?_) (fun DF=>?_))
  ·exact absurd DF hk2
  refine af.skip (NX (SR (jK 4 [167,168,170] [(0,A_ 4 q8 12),(3,a_ 5 jl)] ?_)))
  refine lS [0,1,2] (Ue Z Y k hI hC hk c.dA c.dC c.data hb hl hc) ?_
  rintro β1 _ _ aT ⟨Y3,rfl,rfl,kB⟩
  replace hI:=hI.le aT
  replace hb:=hb.le aT
  replace hle0:=hle0.trans aT
  refine jC 6 [5,6] [(3,A_ 3 Bh 12)] [(3,(zC (rV ((lP Z k c.data).1) Y3)))] ?_
  refine NN (af.ret (ai.au (ai.aj ?_)))
  exact rB _ [A_ 3 Bh 12] [0] hle0 (⟨Y3,by rw [VN h9 hh hk2]<;>rfl,rfl,by rw [VN h9 hh hk2];exact kB⟩)
 exact absurd h9 lC
end
section
open Go.RowKit Go.Maps aX aq
attribute [local irreducible] ak aV af ai
theorem Oz {β:Bs} (Z:RS) (Y:RL) (hR:cq β Z Y) (hB:RB Z) :
    cG Tryz.prog β 42 #[.agg ⟨rV Z Y⟩] [] (fun β' v l=>∃ A1 c1 K G1 g1,v=.agg ⟨rW Z A1 c1 G1 g1 Y.H Y.ch Y.V Y.cv⟩/\l=[.abs (av 66 10 A1 Z.ns.length c1 (aR K Z.ns)),.abs (av 3 1 G1 Z.gone.length g1 (ints Z.gone)),.abs (eF (jt Z.ns K) Z.ns.length)]/\∀ i,i < Z.ns.length->aZ β' (K.eA i) (nd Z.ns i).ah):=by
 have hbg:=hB.gone
 refine qb Tryz.func42 Tryz.ntmps42 (fun hle0 R=>?_)
 refine SR (jN 1 [1] (fun _=>[]) (fun _=>[]) (fun b1=>.blk b1 (rV Z Y) 42) (fun b1=>?_))
 refine jN 1 [2] (fun _=>[]) (fun _=>[]) (fun b2=>.blk b2 (rZ) 42) (fun b2=>?_)
 refine NS (jK 2 [5] [(1,a_ 1 b1)] ?_)
 refine gL [] (uo Y.A Y.c Z.ns Y.L hR.n (by have:=hB.ns;omega) hB.hd) ?_
 rintro _ _ ⟨A1,c1,K,rfl,rfl⟩
 refine jC 2 [] [(1,a_ 4 b1)] [(4,[(0,.slice A1 (Z.ns.length) (c1))])] ?_
 refine NS (jN 2 [3] (fun _=>[]) (fun _=>[]) (fun b3=>.blk b3 [] 3) (fun b3=>?_))
 refine NS (ak.mem (fun w hS=>hS.oF (i:=6) (b:=b3) (cs:=[]) (e:=3) 1 0 (by kernel_rfl) rfl (by decide)) ?_)
 refine jK 3 [9,11] [(2,a_ 4 b1)] ?_
 refine j3 6 38 Y.G Z.gone.length Y.cg (ints Z.gone) rfl (hR.g.src) (fun A4 c5=>?_) (hl:=by rw [show (ints Z.gone).length=Z.gone.length from List.length_map ..];omega) (h1:=Kh _)
 refine ak.bO 6 rfl (by rw [Nat.zero_add,List.nil_append]) ?_
 refine sl 12 (.slice A4 (0+Z.gone.length) (c5)) (.slice A4 (Z.gone.length) (c5)) (by rw [Nat.zero_add]) ?_
 refine jK 1 [3] [] ?_
 refine NS (ak.kg (Φ:=fun β'=>∀ i,i < Z.ns.length->aZ β' (K.eA i) (nd Z.ns i).ah) 1 [0,2,3,4,5,6] (dX:=[.abs (av 66 10 A1 Z.ns.length c1 (aR K Z.ns)),.abs (eF (jt Z.ns K) Z.ns.length),.abs R,.blk b1 (rW Z A1 c1 Y.G Y.cg Y.H Y.ch Y.V Y.cv) 42,.blk b2 (rZ) 42,.abs (av 3 1 A4 Z.gone.length c5 (ints Z.gone))]) rfl rfl (by kernel_rfl) (fun F w h β' h1 h2=>aaT h h1 h2) (fun β1 aT hE=>?_))
 replace hle0:=hle0.trans aT
 refine jC 3 [] [(2,a_ 3 b1)] [(3,[(1,.slice A4 (Z.gone.length) (c5))])] ?_
 refine NS (jC 2 [] [(0,A_ 3 b1 12),(1,A_ 4 b2 12)] [(4,(zC (rW Z A1 c1 A4 c5 Y.H Y.ch Y.V Y.cv)))] ?_)
 refine NN (af.ret ?_)
 exact rB _ [A_ 4 b2 12] [0,5,1,2] hle0 (⟨A1,c1,K,A4,c5,rfl,rfl,hE⟩)
end
section
open Go.RowKit
def kD (β:Bs) (Φ:Bs->Prop):ct where
  h F w:=∃ β':Bs,β.le β'/\(∀ k,β'.O k->β.O k\/F k)/\(∀ k,F k->β'.O k)/\β'.w0.heap.size<=w.heap.size/\(∀ k,F k->k < β'.w0.heap.size/\w.heap[k]?=β'.w0.heap[k]?)/\Φ β'
  lt:=fun ⟨_,_,_,_,h4,h5,_⟩ k hk=>Nat.lt_of_lt_of_le (h5 k hk).1 h4
  st:=fun ⟨β',h1,h2,h3,h4,h5,h6⟩ _ _ hk hs=>⟨β',h1,h2,h3,Nat.le_trans h4 hk.size,fun k hF=>⟨(h5 k hF).1,(hk.block k (Nat.lt_of_lt_of_le (h5 k hF).1 h4) (hs k hF)).trans (h5 k hF).2⟩,h6⟩
section M8
variable {P:Program} {β:Bs} {N:di} {ops:Array Oper} {k:Nat} {fr:Fr} {hps dX:List HP} {Q:Post} {f:FuncId} {args:Array Value} {pre:List HP}
theorem cG.M8 {ι:Type} {vv:ι->Value} {ll:ι->List HP} {Φ:ι->Bs->Prop} (h:cG P β f args pre (fun β' v l=>∃ x,v=vv x/\l=ll x/\Φ x β')):Spec P β f args pre (fun v l=>∃ x,v=vv x/\l=.abs (kD β (Φ x))::ll x):=by
  intro R w hS
  refine (h R w hS).mono ?_
  rintro e w' ⟨β',v,l,hle,he,⟨x,rfl,rfl,Mf⟩,ho,φ,h1,h2,h3⟩
  refine⟨vv x,_,he,⟨x,rfl,rfl⟩,ho.le hle,fun i=>match i with
    | 0=>fun k=>β'.O k/\¬ β.O k
    | i+1=>φ i,fun i p hp=>?_,fun i hi k hk hO=>?_,fun i j hi hj hne k hk hk'=>?_⟩
  ·cases i with
   | zero=>
     have hp:some (HP.abs (kD β (Φ x)))=some p:=hp
     cases hp
     exact⟨β',hle,fun k hk=>(Classical.em (β.O k)).elim .inl (fun hn=>.inr ⟨hk,hn⟩),fun k hk=>hk.1,ho.size,fun k hk=>ho.old k hk.1,Mf⟩
   | succ i=>exact h1 i p (by simpa using hp)
  ·cases i with
   | zero=>exact hk.2 hO
   | succ i=>exact h2 i (by simp at hi ⊢;omega) k hk (hle.O k hO)
  cases i with
  | zero=>
    cases j with
    | zero=>exact hne rfl
    | succ j=>exact h2 j (by simp at hj ⊢;omega) k hk' hk.1
  | succ i=>
    cases j with
    | zero=>exact h2 i (by simp at hi ⊢;omega) k hk hk'.1
    | succ j=>exact h3 i j (by simp at hi ⊢;omega) (by simp at hj ⊢;omega) (by omega) k hk hk'
theorem Sat.F6 {Φ:Bs->Prop} {l:List HP} {w:World} (h:Sat β (.abs (kD β Φ)::l) w):∃ β':Bs,β.le β'/\Φ β'/\Sat β' l w:=by
  obtain⟨ho,φ,h1,h2,h3⟩:=h
  have hF:(kD β Φ).h (φ 0) w:=h1 0 _ rfl
  obtain⟨β',g1,g2,g3,g4,g5,g6⟩:=hF
  refine⟨β',g1,g6,⟨ho.os.trans g1.os.symm,ho.tape.trans g1.tape.symm,ho.output.trans g1.output.symm,g4,fun k hk=>?_⟩,fun j=>φ (j+1),fun j p hp=>h1 (j+1) p (by simpa using hp),fun j hj k hk hO=>?_,fun a b ha hb hne=>h3 (a+1) (b+1) (by simp;omega) (by simp;omega) (by omega)⟩
  ·rcases g2 k hk with hb|hb
   ·have e1:=g1.old k hb
    have e2:=ho.old k hb
    grind
   exact g5 k hb
  rcases g2 k hO with hb|hb
  ·exact h2 (j+1) (by simp;omega) k hk hb
  exact h3 (j+1) 0 (by simp;omega) (by simp) (by omega) k hk hb
theorem ak.F6 {Φ:Bs->Prop} (i:Nat) (idx:List Nat) (hp:hps[i]?=some (.abs (kD β Φ))) (hn:aP (i::idx)=true) (hl:bp hps idx=some dX)
    (K:∀ β':Bs,β.le β'->Φ β'->ak P β' N ops k fr dX Q):ak P β N ops k fr hps Q:=fun junk w hS=>by
  obtain⟨β',g1,g2,g3⟩:=(hS.pick (idx:=i::idx) (l':=.abs (kD β Φ)::dX) hn (by simp only [bp,hp,hl])).F6
  exact K β' g1 g2 junk w g3
end M8
end
section
open Go.RowKit Go.Maps aX aq
section b
variable {P:Program} {β:Bs} {f:FuncId} {args:Array Value} {pre pre' R:List HP} {post:Bs->Value->List HP->Prop}
theorem cG.VS (h:∀ β':Bs,nU β R β'->cG P β' f args pre post):cG P β f args (pre++R) post:=by
  intro A w hS
  have h1:=Sat.turn hS
  rw [← List.append_assoc] at h1
  obtain⟨β',g1,_,g3⟩:=h1.uj
  refine (h β' g1 A w (Sat.turn g3)).mono ?_
  rintro e w' ⟨nJ,v,l,hle,h2⟩
  exact⟨nJ,v,l,g1.le.trans hle,h2⟩
theorem cG.aah {Φ:Bs->Prop} (h:∀ β':Bs,β.le β'->Φ β'->cG P β' f args pre post):cG P β f args (.abs (kD β Φ)::pre) post:=by
  intro A w hS
  obtain⟨β',g1,g2,g3⟩:=Sat.F6 (l:=pre++[.abs A]) hS
  refine (h β' g1 g2 A w g3).mono ?_
  rintro e w' ⟨nJ,v,l,hle,h2⟩
  exact⟨nJ,v,l,g1.trans hle,h2⟩
theorem cG.abl (h:cG P β f args pre' post) (hp:∀ A w,Sat β (pre++[.abs A]) w->Sat β (pre'++[.abs A]) w):cG P β f args pre post:=fun A w hS=>h A w (hp A w hS)
end b
section s
variable {β:Bs} {R Z:RS} {Y:RL} {c:aH} {e:Int} {k:Nat}
theorem HM {A:Option Addr} {p:Nat}:mV R (ck c A p)=ck (mV R c) A p:=by
  unfold mV
  show (if c.op=12 then _ else _:aH)=ck (if c.op=12 then _ else _) A p
  by_cases h:c.op=12
  ·rw [if_pos h,if_pos h]
   show (match d6 R c.handle c.name 64 with|.error e=>_|.ok d=>_:aH)=_
   cases d6 R c.handle c.name 64 with
   | error e=>rfl
   | ok d=>
     simp only
     split<;>rfl
  rw [if_neg h,if_neg h]
  show (match eH R c.handle with|.error e=>_|.ok d=>_:aH)=_
  cases eH R c.handle<;>rfl
theorem y9 (h:c.op=11\/c.op=12):pX R c=(R,mV R c):=if_pos h
theorem Rm (h:¬ (c.op=11\/c.op=12)) (h1:(aS R c).2.2=0):pX R c=((aS R c).1,{ c with answer:=(aS R c).2.1,code:=0 }):=(if_neg h).trans (if_pos h1)
theorem Rn (h:¬ (c.op=11\/c.op=12)) (h1:¬ (aS R c).2.2=0):pX R c=(R,{ c with answer:=0,code:=(aS R c).2.2 }):=(if_neg h).trans (if_neg h1)
abbrev OA (R:RS) (K:Lay):HP:=.abs (eF (jt R.ns K) R.ns.length)
abbrev EW (R:RS) (K:Lay) (β:Bs):Prop:=∀ i,i < R.ns.length->aZ β (K.eA i) (nd R.ns i).ah
theorem LX (hR:cq β Z Y) (hB:RB Z):Spec Tryz.prog β 42 #[.agg ⟨rV Z Y⟩] [] (fun v l=>∃ A1 c1 K G1 g1,v=.agg ⟨rV Z ⟨A1,c1,K,G1,g1,Y.H,Y.ch,Y.V,Y.cv⟩⟩/\l=[.abs (kD β (EW Z K)),.abs (av 66 10 A1 Z.ns.length c1 (aR K Z.ns)),.abs (av 3 1 G1 Z.gone.length g1 (ints Z.gone)),OA Z K]):=
  (cG.M8 (ι:=Option Addr×Nat×Lay×Option Addr×Nat) (vv:=fun x=>.agg ⟨rV Z ⟨x.1,x.2.1,x.2.2.1,x.2.2.2.1,x.2.2.2.2,Y.H,Y.ch,Y.V,Y.cv⟩⟩) (ll:=fun x=>[.abs (av 66 10 x.1 Z.ns.length x.2.1 (aR x.2.2.1 Z.ns)),.abs (av 3 1 x.2.2.2.1 Z.gone.length x.2.2.2.2 (ints Z.gone)),OA Z x.2.2.1]) (Φ:=fun x=>EW Z x.2.2.1)
    ((Oz Z Y hR hB).mono (by rintro β' v l _ ⟨A1,c1,K,G1,g1,rfl,rfl,h⟩;exact⟨(A1,c1,K,G1,g1),rfl,rfl,h⟩))).mono (by rintro v l ⟨⟨A1,c1,K,G1,g1⟩,rfl,rfl⟩;exact⟨A1,c1,K,G1,g1,rfl,rfl⟩)
theorem Ro {A1 G1:Option Addr} {c1 g1:Nat} {K:Lay} (hR:cq β Z Y) (hC:RC Z) (hD:RD 0 Z) (hn:c.name.size<=1048576) (ht:c.text.size<=1048576) (hb:bh β c.dA c.data) (hl:c.data.length<=140737488355328) (hc:c.data.length<=c.dC) :
    Spec Tryz.prog β 43 #[.agg ⟨rV Z ⟨A1,c1,K,G1,g1,Y.H,Y.ch,Y.V,Y.cv⟩⟩,.agg ⟨aO c⟩] [.abs (kD β (EW Z K)),.abs (av 66 10 A1 Z.ns.length c1 (aR K Z.ns)),.abs (av 3 1 G1 Z.gone.length g1 (ints Z.gone)),OA Z K]
      (fun v l=>∃ Y',v=.tuple #[.agg ⟨rV (aS Z c).1 Y'⟩,.int .i64 (aS Z c).2.1,.int .i64 (aS Z c).2.2]/\l=[.abs (kD β (fun β'=>cq β' (aS Z c).1 Y'))]):=by
  refine (cG.M8 (ι:=RL) (vv:=fun Y'=>.tuple #[.agg ⟨rV (aS Z c).1 Y'⟩,.int .i64 (aS Z c).2.1,.int .i64 (aS Z c).2.2]) (ll:=fun _=>[]) (Φ:=fun Y' β'=>cq β' (aS Z c).1 Y') (cG.aah fun β' hle hE=>?_)).mono (by rintro v l ⟨Y',rfl,rfl⟩;exact⟨Y',rfl,rfl⟩)
  by_cases h9:∃ k,c.op=9/\eH Z c.handle=.ok k/\¬ (nd Z.ns k).kind=2
  ·obtain⟨k,h1,h2,h3⟩:=h9
   have hk:k < Z.ns.length:=by
     grind [pZ]
   refine cG.abl (pre':=[.abs (av 66 10 A1 Z.ns.length c1 (aR K Z.ns)),.abs (av 3 1 G1 Z.gone.length g1 (ints Z.gone)),.abs (jt Z.ns K k)]++[.abs (eF (mZ (jt Z.ns K) k ct.none) Z.ns.length)]) (cG.VS fun nJ hL=>?_) (fun A w hS=>?_)
   ·have hd:∀ i,i < Z.ns.length->i≠k->bh nJ (K.dA i) (nd Z.ns i).data:=by
      obtain⟨F,q1,q2⟩:=hL.get 0 rfl
      refine eF.base q1 q2 rfl (Φ:=fun i b=>i≠k->bh b (K.dA i) (nd Z.ns i).data) (fun i _ F hF hO hne=>?_)
      have hF:(HP.abs (jt Z.ns K i)).h F nJ.w0:=by
        have e:mZ (jt Z.ns K) k ct.none i=jt Z.ns K i:=if_neg hne
        rw [e] at hF;exact hF
      exact bU.gy (show (HP.abs (av 5 1 (K.dA i) (nd Z.ns i).data.length (K.dC i) (cx (nd Z.ns i).data))).h F _ from hF) hO rfl
    have hI:zJ nJ Z K Y.H Y.V k:=⟨hd,fun i hi=>(hE i hi).le hL.le,(hR.h.le hle).le hL.le,(hR.v.le hle).le hL.le⟩
    refine (Rl Z ⟨A1,c1,K,G1,g1,Y.H,Y.ch,Y.V,Y.cv⟩ k hI hC hk c h1 h2 h3 ((hb.le hle).le hL.le) hl hc).mono ?_
    grind
   have:=hS.Wl (i:=2) (k:=k) rfl hk
   exact this.pick (idx:=[0,1,4,2,3]) rfl rfl
  refine cG.VS (pre:=[.abs (av 66 10 A1 Z.ns.length c1 (aR K Z.ns)),.abs (av 3 1 G1 Z.gone.length g1 (ints Z.gone))]) (R:=[OA Z K]) fun nJ hL=>?_
  have hI:jV nJ Z K Y.H Y.V:=by
    obtain⟨F,q1,q2⟩:=hL.get 0 rfl
    exact⟨aaU q1 q2 rfl,fun i hi=>(hE i hi).le hL.le,(hR.h.le hle).le hL.le,(hR.v.le hle).le hL.le⟩
  refine (Rk Z ⟨A1,c1,K,G1,g1,Y.H,Y.ch,Y.V,Y.cv⟩ hI hC hD c hn ht (fun h1 k h2=>Classical.byContradiction (fun h3=>h9 ⟨k,h1,h2,h3⟩))).mono ?_
  grind
end s
end
section
open Go.RowKit Go.Maps aX aq
attribute [local irreducible] ak aV af ai dH aY xG
noncomputable abbrev EX (b4:Nat):=(.blk b4 [vI 0,vI 0,vI 0,.string ⟨#[]⟩,.string ⟨#[]⟩,.slice none (0) (0),vI 0,vI 0,vI 0,vI 0,vI 0,vI 0,vI 0] 53:HP)
noncomputable abbrev Y7 (b5:Nat) (c:aH) (B1) (p1):=(.blk b5 (aO (ck { c with answer:=0 } B1 p1)) 53:HP)
theorem Ui {β:Bs} (Z:RS) (Y:RL) (hR:cq β Z Y) (hC:RC Z) (hD:RD 0 Z) (c:aH) (hn:c.name.size<=1048576) (ht:c.text.size<=1048576) (hb:bh β c.dA c.data) (hl:c.data.length<=140737488355328) (hc:c.data.length<=c.dC) :
    cG Tryz.prog β 12 #[.agg ⟨rV Z Y⟩,.agg ⟨aO c⟩] [] (fun β' v l=>∃ Y' B p,v=.tuple #[.agg ⟨rV ((pX Z c).1) Y'⟩,.agg ⟨aO (ck (pX Z c).2 B p)⟩]/\l=[]/\cq β' (pX Z c).1 Y'/\bh β' B c.data):=by
 refine qb Tryz.func12 Tryz.ntmps12 (fun hle0 R=>?_)
 refine SR (jN 1 [2] (fun _=>[]) (fun _=>[]) (fun b1=>.blk b1 (rV Z Y) 42) (fun b1=>?_))
 refine jN 1 [3] (fun _=>[]) (fun _=>[]) (fun b2=>.blk b2 (aO c) 53) (fun b2=>?_)
 refine jN 1 [4] (fun _=>[]) (fun _=>[]) (fun b3=>.blk b3 (rZ) 42) (fun b3=>?_)
 refine jN 1 [5] (fun _=>[]) (fun _=>[]) (fun b4=>.blk b4 [vI 0,vI 0,vI 0,.string ⟨#[]⟩,.string ⟨#[]⟩,.slice none (0) (0),vI 0,vI 0,vI 0,vI 0,vI 0,vI 0,vI 0] 53) (fun b4=>?_)
 refine NS (jN 3 [6] (fun b5=>[(0,A_ 2 b2 13),(2,A_ 5 b5 13)]) (fun _=>[]) (fun b5=>.blk b5 (aO c) 53) (fun b5=>?_))
 refine NS (jK 2 [12] [(1,a_ 2 b2)] ?_)
 refine gL [] (um c.dA c.dC c.data hb hl) ?_
 rintro _ _ ⟨B1,p1,rfl,rfl⟩
 refine jC 2 [] [(1,a_ 6 b5)] [(6,[(5,.slice B1 (c.data.length) (p1))])] ?_
 refine NS (ak.kg (Φ:=fun β'=>bh β' B1 c.data) 0 [1,2,3,4,5,6] (dX:=[.abs R,.blk b1 (rV Z Y) 42,.blk b2 (aO c) 53,.blk b3 (rZ) 42,EX b4,.blk b5 (aO (ck c B1 p1)) 53]) rfl rfl (by kernel_rfl) (fun F w h β' h1 h2=>bU.gy h h1 h2) (fun β1 aT M9=>?_))
 replace hR:=hR.le aT
 replace hb:=hb.le aT
 replace hle0:=hle0.trans aT
 refine jC 2 [] [(1,a_ 5 b5)] [(5,[(12,vI 0)])] ?_
 refine NN (af.seq (af.seq ?_))
 by_cases hop:c.op=11\/c.op=12
 ·refine af.region (jK 4 [19] [(1,a_ 2 b2),(2,p_ ⟨[],none,none,none,some (.bool (decide ((c.op:Int)=(11:Int))))⟩ [((.bool (decide ((c.op:Int)=(11:Int))):Value))=(.bool (decide ((c.op:Int)=(11:Int))))] ⟨rfl,trivial⟩)] ?_)
  refine sP 19 ((c.op:Int)=(11:Int)) (fun GK=>?_) (fun GK=>?_)
  ·refine jK 4 [23] [] ?_
   refine NN (CT (af.seq (rM (List.range 7) 4 [1,2,5] ?_)))
   refine jR 4 [4,5,24,25,26,27] [(0,A_ 0 b1 12),(1,A_ 0 b1 12),(2,A_ 1 b2 13),(3,A_ 2 b5 13)] ?_
   refine mL [1,2,5] [] (Ke Z Y hR hC (ck c B1 p1) hn c.dA c.dC c.answer) ?_ (by rintro _ _ ⟨rfl,rfl⟩;rfl)
   rintro _ _ ⟨rfl,rfl⟩
   refine nC [1,2,5] [] [(0,A_ 3 b3 12)] [(3,(zC (rV Z Y)))] ?_
   refine aY.last rfl rfl ?_
   refine jC 1 [] [(0,A_ 4 b4 13)] [(4,(zC (aO (mV Z (ck c B1 p1)))))] ?_
   refine NL (ai.np (NX (af.ret (ai.aj ?_))))
   exact rB (.tuple #[.agg ⟨rV Z Y⟩,.agg ⟨aO (mV Z (ck c B1 p1))⟩]) [A_ 3 b3 12,A_ 4 b4 13] [0] hle0 (⟨Y,B1,p1,by rw [y9 hop,HM]<;>rfl,rfl,by rw [y9 hop];exact hR,M9⟩)
  refine jK 4 [23] [(1,a_ 2 b2),(2,p_ ⟨[],none,none,none,some (.bool (decide ((c.op:Int)=(12:Int))))⟩ [((.bool (decide ((c.op:Int)=(12:Int))):Value))=(.bool (decide ((c.op:Int)=(12:Int))))] ⟨rfl,trivial⟩)] ?_
  refine NN (cP ((c.op:Int)=(12:Int)) (fun h23=>?_) (fun h23=>?_))
  ·refine af.seq (rM (List.range 7) 4 [1,2,5] ?_)
   refine jR 4 [4,5,24,25,26,27] [(0,A_ 0 b1 12),(1,A_ 0 b1 12),(2,A_ 1 b2 13),(3,A_ 2 b5 13)] ?_
   refine mL [1,2,5] [] (Ke Z Y hR hC (ck c B1 p1) hn c.dA c.dC c.answer) ?_ (by rintro _ _ ⟨rfl,rfl⟩;rfl)
   rintro _ _ ⟨rfl,rfl⟩
   refine nC [1,2,5] [] [(0,A_ 3 b3 12)] [(3,(zC (rV Z Y)))] ?_
   refine aY.last rfl rfl ?_
   refine jC 1 [] [(0,A_ 4 b4 13)] [(4,(zC (aO (mV Z (ck c B1 p1)))))] ?_
   refine NL (ai.np (NX (af.ret (ai.aj ?_))))
   exact rB (.tuple #[.agg ⟨rV Z Y⟩,.agg ⟨aO (mV Z (ck c B1 p1))⟩]) [A_ 3 b3 12,A_ 4 b4 13] [0] hle0 (⟨Y,B1,p1,by rw [y9 hop,HM]<;>rfl,rfl,by rw [y9 hop];exact hR,M9⟩)
  exact absurd hop (by omega)
 refine af.region (jK 8 [23] [(1,a_ 2 b2),(2,wF ((c.op:Int)=(11:Int))),(5,a_ 2 b2),(6,wF ((c.op:Int)=(12:Int)))] ?_)
 refine NN (CF (af.skip (NX (af.seq (af.FZ (S:=[.blk b1 (rV Z Y) 42,.blk b2 (aO c) 53]) 8 [(true,0),(true,2),(false,1),(false,3),(true,4),(true,5),(true,6),(true,7)] [(false,9),(false,10),(false,11)] (by kernel_rfl) (by kernel_rfl) (fun _ h=>h.pick (idx:=[1,2]) rfl rfl) ?_)))))
 refine gJ [(false,1),(false,3),(true,4),(true,5),(true,6),(true,7)] [(2,vP b1),(4,vP b3),(5,vP b4),(6,vP b5),(30,.agg ⟨rV Z Y⟩),(32,.agg ⟨aO c⟩)] [0,2] [(0,A_ 0 b1 12),(1,A_ 1 b2 13)] ?_
 refine xG.beside (j:=8) (dj:=7) (R:=fun f_ l_=>∃ A2:Option Addr,∃ c2:Nat,∃ K:Lay,∃ G2:Option Addr,∃ g2:Nat,∃ Y2:RL,f_=[(36,vI ((aS Z c).2.2)),(35,vI ((aS Z c).2.1)),(34,.agg ⟨rV ((aS Z c).1) Y2⟩),(29,.tuple #[.agg ⟨rV ((aS Z c).1) Y2⟩,vI ((aS Z c).2.1),vI ((aS Z c).2.2)]),(33,.tuple #[.agg ⟨rV ((aS Z c).1) Y2⟩,vI ((aS Z c).2.1),vI ((aS Z c).2.2)]),(31,.agg ⟨rW Z A2 c2 G2 g2 Y.H Y.ch Y.V Y.cv⟩),(2,vP b1),(4,vP b3),(5,vP b4),(6,vP b5),(30,.agg ⟨rV Z Y⟩),(32,.agg ⟨aO c⟩)]/\l_=[.abs (kD β1 (fun β'=>cq β' (aS Z c).1 Y2))]) (pc:=[]) (pj:=[]) (Z:=[.abs R,.blk b1 (rV Z Y) 42,.blk b2 (aO c) 53,.blk b3 (rZ) 42,EX b4,Y7 b5 c B1 p1]) [0,1,2,3,4,5] (fun _=>True) [(false,1,31),(false,3,33),(true,4,29),(true,5,34),(true,6,35),(true,7,36)] (by kernel_rfl) rfl rfl (Ou (S1:=[.blk b1 (rV Z Y) 42,.blk b2 (aO c) 53]) (pS:=[1,2]) rfl rfl) (trivial) rfl rfl (ic.of (ι:=Nat) (v:=fun (b6:Nat)=>vP b6) (l:=fun (b6:Nat)=>[.blk b6 (rZ) 42]) [31,33,29,34,35,36] rfl rfl rfl rfl ?_) ?_ ?_
 ·intro u Aq
  refine jN 1 [7] (fun _=>[]) (fun _=>[]) (fun b6=>.blk b6 (rZ) 42) (fun b6=>?_)
  refine NL ?_
  exact MD b6 [7,31,33,29,34,35,36,2,4,5,6,30,32] [1,0]
 ·refine gh.step (ic.of (ι:=(Option Addr)×Nat×Lay×(Option Addr)×Nat) (v:=fun ((A2,c2,K,G2,g2):(Option Addr)×Nat×Lay×(Option Addr)×Nat)=>.agg ⟨rW Z A2 c2 G2 g2 Y.H Y.ch Y.V Y.cv⟩) (l:=fun ((A2,c2,K,G2,g2):(Option Addr)×Nat×Lay×(Option Addr)×Nat)=>[.abs (kD β1 (EW Z K)),.abs (av 66 10 A2 Z.ns.length c2 (aR K Z.ns)),.abs (av 3 1 G2 Z.gone.length g2 (ints Z.gone)),.abs (eF (jt Z.ns K) Z.ns.length)]) [7] rfl rfl rfl rfl ?_) rfl ?_
  ·intro u Aq
   refine gL [] (LX hR hC.toRB) ?_
   rintro _ _ ⟨A2,c2,K,G2,g2,rfl,rfl⟩
   refine NL ?_
   exact MD (A2,c2,K,G2,g2) [31,7,2,4,5,6,30,32] [0,1,2,3,4]
  rintro _ _ ⟨⟨A2,c2,K,G2,g2⟩,rfl,rfl⟩
  refine⟨trivial,?_⟩
  refine gh.step (ic.of (ι:=RL) (v:=fun (Y2:RL)=>.tuple #[.agg ⟨rV ((aS Z c).1) Y2⟩,vI ((aS Z c).2.1),vI ((aS Z c).2.2)]) (l:=fun (Y2:RL)=>[.abs (kD β1 (fun β'=>cq β' (aS Z c).1 Y2))]) [7] rfl rfl rfl rfl ?_) rfl ?_
  ·intro u Aq
   refine gL [0,1,2,3] (Ro (A1:=A2) (c1:=c2) (K:=K) (G1:=G2) (g1:=g2) hR hC hD hn ht hb hl hc) ?_
   rintro _ _ ⟨Y2,rfl,rfl⟩
   refine NL ?_
   exact MD Y2 [33,7,31,2,4,5,6,30,32] [0,1]
  rintro _ _ ⟨Y2,rfl,rfl⟩
  refine⟨trivial,?_⟩
  refine gh.read (v:=.tuple #[.agg ⟨rV ((aS Z c).1) Y2⟩,vI ((aS Z c).2.1),vI ((aS Z c).2.2)]) (fun _=>by kernel_rfl) rfl rfl ?_
  refine gh.read (v:=.agg ⟨rV ((aS Z c).1) Y2⟩) (fun _=>by kernel_rfl) rfl rfl ?_
  refine gh.read (v:=.int .i64 ((aS Z c).2.1)) (fun _=>by kernel_rfl) rfl rfl ?_
  refine gh.read (v:=.int .i64 ((aS Z c).2.2)) (fun _=>by kernel_rfl) rfl rfl ?_
  exact⟨A2,c2,K,G2,g2,Y2,rfl,rfl⟩
 rintro _ _ ⟨A2,c2,K,G2,g2,Y2,rfl,rfl⟩ _ _ ⟨b6,rfl,rfl⟩
 refine kC [3,4] [] [(0,A_ 1 b6 12)] [(1,(zC (rV ((aS Z c).1) Y2)))] ?_
 refine dH.cut (ι:=Unit) (fr':=fun (_:Unit)=>[(2,vP b1),(4,vP b3),(5,vP b4),(6,vP b5),(7,vP b6),(8,vI ((aS Z c).2.1)),(36,vI ((aS Z c).2.2))]) (hp':=fun (_:Unit)=>[.abs (kD β1 (fun β'=>cq β' (aS Z c).1 Y2)),.blk b6 (rV ((aS Z c).1) Y2) 42,.abs R,.blk b1 (rV Z Y) 42,.blk b2 (aO c) 53,.blk b3 (rZ) 42,EX b4,Y7 b5 c B1 p1]) [3,4] (by kernel_rfl) ?_ rfl (fun _=>by kernel_rfl) ?_
 ·refine jK 1 [8] [] ?_
  refine NL ?_
  exact MD () [2,4,5,6,7,8,36] [0,1,2,3,4,5,6,7]
 rintro _
 refine dH.last (by kernel_rfl) ?_
 refine jK 1 [9] [] ?_
 refine NL (ai.np (NX (SR ?_)))
 refine ak.F6 0 [1,2,3,4,5,6,7] (dX:=[.blk b6 (rV ((aS Z c).1) Y2) 42,.abs R,.blk b1 (rV Z Y) 42,.blk b2 (aO c) 53,.blk b3 (rZ) 42,EX b4,Y7 b5 c B1 p1]) rfl rfl (by kernel_rfl) (fun Hz iM Y8=>?_)
 replace hR:=hR.le iM
 replace hb:=hb.le iM
 replace M9:=M9.le iM
 replace hle0:=hle0.trans iM
 refine jC 3 [] [(2,a_ 6 b5)] [(6,[(11,vI ((aS Z c).2.2))])] ?_
 refine NN (af.seq (SR (jK 2 [40] [] ?_)))
 refine NN (cN (((aS Z c).2.2:Int)=(0:Int)) (fun qx=>?_) (fun qx=>?_))
 ·refine af.seq (rM [0,1,2,3] 2 [2,6] ?_)
  refine jR 2 [4,5,41,42] [(0,A_ 0 b1 12),(1,A_ 1 b5 13)] ?_
  refine nC [2,6] [] [(0,A_ 4 b3 12)] [(4,(zC (rV Z Y)))] ?_
  refine aY.last rfl rfl ?_
  refine jC 1 [] [(0,A_ 5 b4 13)] [(5,[(0,vI (c.op)),(1,vI (c.handle)),(2,vI (c.other)),(3,.string c.name),(4,.string c.text),(5,.slice B1 (c.data.length) (p1)),(6,vI (c.mode)),(7,vI (c.uid)),(8,vI (c.gid)),(9,vI (c.sec)),(10,vI (c.nano)),(11,vI ((aS Z c).2.2))])] ?_
  refine NL (ai.np (NX (af.ret (ai.aj ?_))))
  exact rB (.tuple #[.agg ⟨rV Z Y⟩,.agg ⟨aO (ck { c with code:=(aS Z c).2.2,answer:=0 } B1 p1)⟩]) [A_ 4 b3 12,A_ 5 b4 13] [1] hle0 (⟨Y,B1,p1,by rw [Rn hop qx]<;>rfl,rfl,by rw [Rn hop qx];exact hR,M9⟩)
 refine af.skip (NX (SR (jC 3 [] [(2,a_ 6 b5)] [(6,[(12,vI ((aS Z c).2.1))])] ?_)))
 refine NN (af.seq (rM [0,1,2,3] 2 [0,6] ?_))
 refine jR 2 [4,5,45,46] [(0,A_ 0 b6 12),(1,A_ 1 b5 13)] ?_
 refine nC [0,6] [] [(0,A_ 4 b3 12)] [(4,(zC (rV ((aS Z c).1) Y2)))] ?_
 refine aY.last rfl rfl ?_
 refine jC 1 [] [(0,A_ 5 b4 13)] [(5,(zC (aO (ck { c with code:=(aS Z c).2.2,answer:=(aS Z c).2.1 } B1 p1))))] ?_
 refine NL (ai.np (NX (af.ret ?_)))
 exact rB (.tuple #[.agg ⟨rV ((aS Z c).1) Y2⟩,.agg ⟨aO (ck { c with code:=(aS Z c).2.2,answer:=(aS Z c).2.1 } B1 p1)⟩]) [A_ 4 b3 12,A_ 5 b4 13] [1] hle0 (⟨Y2,B1,p1,by rw [Rm hop qx,qx]<;>rfl,rfl,by rw [Rm hop qx];exact Y8,M9⟩)
end
section
def core (o:aN):aN:={ o with links:=0,opens:=0,gone:=false,up:=none }
end
section
open Go.RowKit Go.Maps aX aq
noncomputable section
def qf (us:Used Th):Used Int:=us.map (fun p=>(p.1,(p.2.k:Int)))
def posR (S:aL) (t:Th):Nat:=tgt (ax S) (t.k:Int)
def toR (S:aL) (g:List Int):RS:=⟨ax S,g,qf S.us,S.ar,S.X.cN,S.X.cB,S.X.cH,S.X.cS,S.X.cZ,S.X.last⟩
structure tH (idx:Used Th) (O:bZ) (g:List Int):Prop where
  za:∀ t,Live idx t->((t.k:Int)∈g↔(obj O t.k).gone=true)
  live:∀ z∈g,∃ t,Live idx t/\(t.k:Int)=z
structure mA (idx:Used Th):Prop where
  rise:aq.bH (keys idx)
  key:∀ p∈idx,p.1=(p.2.k:Int)
end
section p
variable {S:aL} {g:List Int} {t u:Th} {d k i j:Nat} {name:ByteArray} {O O':bZ} {h need id:Int} {es:fB Th} {X:FM}
theorem Inv0.ix (h:Inv0 S):mA S.idx:=⟨h.rise,fun _ hp=>h.key (kH h.rise hp)⟩
theorem Cm (hx:mA S.idx) (hi:i < S.idx.length):Live S.idx (fO S i)/\dQ S i=((fO S i).k:Int):=by
  have hm:=List.mem_of_getElem? (tX hi)
  have hk:=hx.key _ hm
  have hg:=kH hx.rise hm
  grind [dQ,fO,Live]
theorem F7 (hx:mA S.idx) (hij:i < j) (hj:j < S.idx.length):dQ S i < dQ S j:=by
  have h1:=JJ (S:=S) (show i < S.idx.length by omega)
  have h2:=JJ hj
  obtain⟨g1,e1⟩:=List.getElem?_eq_some_iff.1 h1
  obtain⟨g2,e2⟩:=List.getElem?_eq_some_iff.1 h2
  have:=List.pairwise_iff_getElem.1 hx.rise i j g1 g2 hij
  rw [e1,e2] at this
  exact this
theorem KN (hx:mA S.idx):bH (ax S):=fun i j hij hj=>by
  rw [fe] at hj
  rw [lD (by omega),lD hj]
  exact F7 hx hij hj
theorem KO (hx:mA S.idx) (hi:i < S.idx.length) (hj:j < S.idx.length) (e:dQ S i=dQ S j):i=j:=by
  rcases Nat.lt_trichotomy i j with h1|h1|h1
  ·have:=F7 hx h1 hj;omega
  ·exact h1
  have:=F7 hx h1 hi;omega
theorem kE (hI:mA S.idx) (hl:Live S.idx t):posR S t < (ax S).length/\posR S t < S.idx.length/\fO S (posR S t)=t/\dQ S (posR S t)=(t.k:Int)/\fP (ax S) (t.k:Int)=(posR S t:Int)/\nd (ax S) (posR S t)=gH S.O (t.k:Int) t:=by
  grind [X6,nd,ax,lD,IZ,KN,fe,posR,tgt,Live,fO,dQ,fP,gH]
theorem Na (hI:mA S.idx) (hl:Live S.idx t) (hu:Live S.idx u) (e:posR S t=posR S u):t=u:=by
  have h1:=(kE hI hl).2.2.1
  rw [e,(kE hI hu).2.2.1] at h1
  exact h1.symm
theorem WR {us:Used Th}:aq.get (qf us) h=(aq.get us h).map (fun t=>(t.k:Int)):=get_map (fun t:Th=>(t.k:Int)) us h
theorem Cn {us:Used Th}:(qf us).length=us.length:=List.length_map ..
theorem ze {us:Used Th}:keys (qf us)=keys us:=keys_map (fun t:Th=>(t.k:Int)) us
theorem Bk {us:Used Th}:aq.least (qf us)=aq.least us:=by unfold aq.least;rw [ze]
theorem Nb {us:Used Th}:qf (ins h t us)=ins h (t.k:Int) (qf us):=Fv (fun t:Th=>(t.k:Int)) h t us
theorem Nc {us:Used Th}:qf (del h us)=del h (qf us):=Fw (fun t:Th=>(t.k:Int)) h us
theorem WS {us:Used Th}:(k:Int)∈gq (qf us)↔0 < hnd us k:=by
  unfold gq qf hnd
  rw [List.map_map]
  induction us with
  | nil=>simp [dP]
  | cons p r ih=>
    grind [dP]
theorem Rp (n:ByteArray):∀ es:fB Th,wL (es.map (dK O)) n=es.findIdx? (fun e=>decide (e.1=n)):=fun es=>by
  unfold wL
  rw [List.findIdx?_map];rfl
theorem KP (n:ByteArray):∀ es:fB Th,aM n es=(es.findIdx? (fun e=>decide (e.1=n))).map (qh es)
  | []=>rfl
  | e::r=>by
    rw [l6,List.findIdx?_cons]
    by_cases hn:e.1=n
    ·rw [if_pos hn];simp [hn,qh]
    rw [if_neg hn,KP n r]
    simp only [hn,decide_false,Bool.false_eq_true,if_false,Option.map_map]
    congr 1
theorem KQ (hid:∀ x,(obj O' x).id=(obj O x).id) (ht:(obj O t.k).id=id):∀ es:fB Th,(gV name t es).map (dK O')=jm name id (es.map (dK O))
  | []=>by
    show [dK O' (name,t)]=[⟨name,id⟩]
    unfold dK;rw [hid,ht]
  | e::r=>by
    have he:dK O' e=dK O e:=by unfold dK;rw [hid]
    have hr:r.map (dK O')=r.map (dK O):=List.map_congr_left (fun x _=>by unfold dK;rw [hid])
    unfold gV
    rw [List.map_cons]
    unfold jm
    show _=if ¬ eG e.1 name then _ else _
    split
    ·rw [List.map_cons,List.map_cons,he,hr]
     congr 1
     unfold dK;rw [hid,ht]
    rw [List.map_cons,he,KQ hid ht r]
theorem Uj (hid:∀ x,(obj O' x).id=(obj O x).id):(gZ name es).map (dK O')=oh name (es.map (dK O)):=by
  unfold gZ oh
  rw [List.filter_map]
  have:es.map (dK O')=es.map (dK O):=List.map_congr_left (fun x _=>by unfold dK;rw [hid])
  have h2:(es.filter (fun e=>decide (e.1≠name))).map (dK O')=(es.filter (fun e=>decide (e.1≠name))).map (dK O):=List.map_congr_left (fun x _=>by unfold dK;rw [hid])
  rw [h2];rfl
theorem KR {z:Int}:∀ es:List cX,(∀ e∈es,e.name≠name)->nD name es z=z
  | [],_=>rfl
  | e::r,hn=>by
    unfold nD
    rw [if_neg (hn e (List.mem_cons_self ..)),KR r (fun x hx=>hn x (List.mem_cons_of_mem _ hx))]
theorem Nd {z:Int}:∀ es:fB Th,lW es->aM name es=some t->nD name (es.map (dK O)) z=(obj O t.k).id
  | [],_,h=>by cases h
  | e::r,hd,h=>by
    rw [l6] at h
    rw [List.map_cons]
    unfold nD
    show nD name (r.map (dK O)) (if e.1=name then (obj O e.2.k).id else z)=_
    by_cases hn:e.1=name
    ·rw [if_pos hn] at h ⊢
     injection h with h
     rw [h]
     refine KR _ (fun x hx=>?_)
     obtain⟨y,hy,rfl⟩:=List.mem_map.1 hx
     exact fun q=>(List.pairwise_cons.1 hd).1 y hy (hn.trans q.symm)
    rw [if_neg hn] at h ⊢
    exact Nd r (List.pairwise_cons.1 hd).2 h
theorem Bl (hc:core (obj O' t.k)=core (obj O t.k)) (hid:∀ x,(obj O' x).id=(obj O x).id):gH O' id t=gH O id t:=by
  have f:∀ {α:Type} (g:aN->α),(∀ o,g (core o)=g o)->g (obj O' t.k)=g (obj O t.k):=fun g hg=>by rw [← hg,hc,hg]
  have he:dK O'=dK O:=by grind [dK]
  grind [gH,core,obj]
theorem zf {S':aL} (hi:S'.idx=S.idx) (hc:∀ x,core (obj S'.O x)=core (obj S.O x)):ax S'=ax S:=by
  grind [ax,Bl,core,obj]
theorem Bn (hI:mA S.idx) (hl:Live S.idx t) {S':aL} (hi:S'.idx=S.idx) (hc:∀ x,x≠t.k->core (obj S'.O x)=core (obj S.O x)) (hid:(obj S'.O t.k).id=(obj S.O t.k).id):ax S'=(ax S).set (posR S t) (gH S'.O (t.k:Int) t):=by
  have ab8:∀ x,(obj S'.O x).id=(obj S.O x).id:=fun x=>by
    grind [Live,core,obj,ax,posR,gH]
  obtain⟨h1,h2,h3,h4,_⟩:=kE hI hl
  apply List.ext_getElem?
  grind [ax,posR,tX,Bl,Cm,fQ,kE,KO]
theorem Rq {idx:Used Th} {f:Int×Th->ay} (hr:aq.bH (keys idx)) (hk:∀ p∈idx,p.1=(p.2.k:Int)) {q:ay->Bool} {b:Bool} (hq:∀ p∈idx,q (f p)=true↔¬ (p.2=t/\b=true)) (hl:Live idx t):(idx.map f).filter q=(if b=true then del (t.k:Int) idx else idx).map f:=by
  rw [List.filter_map]
  by_cases hb:b=true
  ·rw [if_pos hb]
   unfold del
   refine congrArg (List.map f) (List.filter_congr (fun p hp=>?_))
   have h1:=hq p hp
   have h2:(q ∘ f) p=true↔decide (p.1≠(t.k:Int))=true:=by
     show q (f p)=true↔_
     rw [h1,decide_eq_true_iff]
     refine not_congr ⟨fun h=>by rw [hk p hp,h.1],fun h=>⟨?_,hb⟩⟩
     have h3:aq.get idx p.1=some p.2:=kH hr hp
     grind [keys,Live,del]
   exact Bool.eq_iff_iff.2 (h2.trans (by simp))
  rw [if_neg hb]
  refine congrArg (List.map f) (List.filter_eq_self.2 (fun p hp=>?_))
  exact (hq p hp).2 (fun h=>hb h.2)
end p
end
section
open Go.RowKit Go.Maps aX aq
section v
variable {S S':aL} {g:List Int} {t u:Th} {d to k i j:Nat} {name toName:ByteArray} {O O':bZ} {h need id:Int} {es:fB Th}
structure RelR (S:aL) (g:List Int):Prop where
  inv:Inv S
  gone:tH S.idx S.O g
theorem zh:eH (toR S g) h=match aq.get S.us h with|none=>.error 131|some t=>.ok (posR S t):=by
  grind [eH,qf,WR,toR,posR]
theorem lX (hr:RelR S g):d6 (toR S g) h name need=match dF S.O S.us h name need with|.error e=>.error e|.ok d=>.ok (posR S ⟨d,2⟩):=by
  unfold d6 dF
  rw [zh]
  cases e:aq.get S.us h with
  | none=>rfl
  | some t=>
    have hl:=(hr.inv.us _ _ e).1
    have hp:=(kE hr.inv.ix hl).2.2.2.2.2
    simp only
    have hp2:nd (toR S g).ns (posR S t)=gH S.O (t.k:Int) t:=hp
    rw [hp2]
    show (if t.kind=2 then if (t.k:Int)∈g then _ else if bQ name then if bits BinOp.and .i64 (obj S.O t.k).mode need=need then Except.ok (posR S t) else _ else _ else _)=_
    by_cases h2:t.kind=2
    ·have ht:t=⟨t.k,2⟩:=by rw [← h2]
     rw [if_pos h2,if_pos h2]
     by_cases hg:(t.k:Int)∈g
     ·rw [if_pos hg,if_pos ((hr.gone.za t hl).1 hg)]
     rw [if_neg hg,if_neg (fun q=>hg ((hr.gone.za t hl).2 q))]
     grind
    rw [if_neg h2,if_neg h2]
theorem Rs {es:fB Th} (hj:j < es.length):en (es.map (dK O)) j=⟨jY es j,(obj O (qh es j).k).id⟩:=by
  grind [en,yN,dK,jY,obj,qh]
theorem Uk (hI:Inv0 S) (hd:Live S.idx ⟨d,2⟩):bn (ax S) (posR S ⟨d,2⟩) name=match aM name (obj S.O d).ah with|none=>-1|some t=>(posR S t:Int):=by
  unfold bn
  rw [(kE hI.ix hd).2.2.2.2.2]
  show (match wL ((obj S.O d).ah.map (dK S.O)) name with|none=>_|some j=>fP (ax S) (en ((obj S.O d).ah.map (dK S.O)) j).id)=_
  rw [Rp,KP]
  cases e:(obj S.O d).ah.findIdx? (fun e=>decide (e.1=name)) with
  | none=>rfl
  | some j=>
    have hj:j < (obj S.O d).ah.length:=by
      rw [List.findIdx?_eq_some_iff_getElem] at e
      exact e.1
    show fP (ax S) (en ((obj S.O d).ah.map (dK S.O)) j).id=(posR S (qh (obj S.O d).ah j):Int)
    have hl:Live S.idx (qh (obj S.O d).ah j):=(hI.ah _ hd _ (List.mem_of_getElem? (yN hj))).2
    rw [Rs hj,(hI.ob _ hl).1,(kE hI.ix hl).2.2.2.2.1]
theorem KS (hI:Inv0 S):rO (toR S g)↔Room S.X S.idx:=by
  have h1:(bJ (ax S) (ax S).length:Int)=S.X.ah:=by rw [fe,Bb];exact hI.total.1.symm
  grind [ax,bJ,fe,rO,toR,Room]
theorem DG (hI:Inv0 S):(cT (toR S g).ns (toR S g).ns.length:Int)=S.X.used:=by
  show (cT (ax S) (ax S).length:Int)=_
  rw [fe,J4];exact hI.used.1.symm
theorem zi (hx:mA S.idx) (hd:Live S.idx ⟨d,2⟩) (htd:t.k≠d) (hid:(obj S.O t.k).id=id) (hS:S'={ S with X:=S'.X,O:=br S.X S.O d name t,us:=S'.us,ar:=S'.ar }):ax S'=jL S.X.cS S.X.cZ (ax S) (posR S ⟨d,2⟩) (jm name id (nd (ax S) (posR S ⟨d,2⟩)).ah):=by
  have hO:S'.O=br S.X S.O d name t:=by rw [hS]
  have ul:∀ x,(obj (br S.X S.O d name t) x).id=(obj S.O x).id:=fun x=>ji (g:=aN.id) (fun _ _=>rfl) (fun _ _=>rfl) (fun _ _ _=>rfl) (fun _ _=>rfl)
  rw [Bn hx hd (S':=S') (by rw [hS]) (fun x hne=>by rw [hO,oZ htd,if_neg hne];split<;>rfl) (by rw [hO];exact ul d)]
  unfold jL
  rw [(kE hx hd).2.2.2.2.2,hO]
  congr 1
  show (⟨(d:Int),2,(obj (br S.X S.O d name t) d).mode,(obj (br S.X S.O d name t) d).uid,(obj (br S.X S.O d name t) d).gid,(obj (br S.X S.O d name t) d).sec,(obj (br S.X S.O d name t) d).nano,(obj (br S.X S.O d name t) d).data,(obj (br S.X S.O d name t) d).target,(obj (br S.X S.O d name t) d).ah.map (dK (br S.X S.O d name t))⟩:ay)=_
  have h1:(obj (br S.X S.O d name t) d)={ obj S.O d with ah:=gV name t (obj S.O d).ah,sec:=S.X.cS,nano:=S.X.cZ }:=by rw [oZ htd,if_pos rfl]
  rw [h1]
  show (⟨_,_,_,_,_,_,_,_,_,(gV name t (obj S.O d).ah).map (dK (br S.X S.O d name t))⟩:ay)=_
  rw [KQ (O:=S.O) ul hid];rfl
theorem uU (hx:mA S.idx) (hd:Live S.idx ⟨d,2⟩) (htd:t.k≠d) (hi:S'.idx=S.idx) (hO:∀ x,core (obj S'.O x)=core (obj (aG S.X S.O d name t) x)):ax S'=jL S.X.cS S.X.cZ (ax S) (posR S ⟨d,2⟩) (oh name (nd (ax S) (posR S ⟨d,2⟩)).ah):=by
  have ul:∀ x,(obj (aG S.X S.O d name t) x).id=(obj S.O x).id:=fun x=>cE (g:=aN.id) (fun _ _=>rfl) (fun _ _=>rfl) (fun _ _ _=>rfl)
  have e1:ax S'=ax { S with O:=aG S.X S.O d name t }:=zf (S:={ S with O:=aG S.X S.O d name t }) hi hO
  rw [e1,Bn hx hd (S':={ S with O:=aG S.X S.O d name t }) rfl (fun x hne=>by
    show core (obj (aG S.X S.O d name t) x)=_
    rw [iE htd,if_neg hne];split<;>rfl) (ul d)]
  unfold jL
  rw [(kE hx hd).2.2.2.2.2]
  congr 1
  show (⟨(d:Int),2,(obj (aG S.X S.O d name t) d).mode,(obj (aG S.X S.O d name t) d).uid,(obj (aG S.X S.O d name t) d).gid,(obj (aG S.X S.O d name t) d).sec,(obj (aG S.X S.O d name t) d).nano,(obj (aG S.X S.O d name t) d).data,(obj (aG S.X S.O d name t) d).target,(obj (aG S.X S.O d name t) d).ah.map (dK (aG S.X S.O d name t))⟩:ay)=_
  have h1:(obj (aG S.X S.O d name t) d)={ obj S.O d with ah:=gZ name (obj S.O d).ah,sec:=S.X.cS,nano:=S.X.cZ }:=by rw [iE htd,if_pos rfl]
  rw [h1]
  show (⟨_,_,_,_,_,_,_,_,_,(gZ name (obj S.O d).ah).map (dK (aG S.X S.O d name t))⟩:ay)=_
  rw [Uj (O:=S.O) ul];rfl
theorem zj {es:fB Th} (hid:∀ e∈es,(obj O e.2.k).id=(e.2.k:Int)):∀ j,j<=es.length->fw (es.map (dK O)) (k:Int) j=(es.take j).countP (fun e=>decide (e.2.k=k))
  | 0,_=>rfl
  | j+1,hj=>by
    rw [fw,zj hid j (by omega),List.take_add_one,yN (show j < es.length by omega),List.countP_append,Rs (by omega)]
    congr 1
    have:=hid _ (List.mem_of_getElem? (yN (show j < es.length by omega)))
    have h2:(obj O (qh es j).k).id=((qh es j).k:Int):=this
    simp only [h2,Option.toList,List.countP_cons,List.countP_nil]
    by_cases hk:(qh es j).k=k
    ·simp [hk]
    simp [hk]
    omega
theorem Rt (hid:∀ i,i < S.idx.length->∀ e∈(obj S.O (fO S i).k).ah,(obj S.O e.2.k).id=(e.2.k:Int)):qw (ax S) (k:Int)=(jx S.idx S.O k:Int):=by
  unfold qw
  rw [fe]
  have h:=wQ (S:=S) (fun o=>o.ah.countP (fun e=>decide (e.2.k=k))) (fun ns n=>jU ns (k:Int) n) (fun _=>rfl) (fun i hi=>by
    show jU (ax S) _ i+fw (nd (ax S) i).ah _ (nd (ax S) i).ah.length=_
    rw [lD hi]
    show _+fw ((obj S.O (fO S i).k).ah.map (dK S.O)) _ ((obj S.O (fO S i).k).ah.map (dK S.O)).length=_
    rw [List.length_map,zj (hid i hi) _ (Nat.le_refl _),List.take_length]) S.idx.length (Nat.le_refl _)
  rw [List.take_length] at h
  exact congrArg Nat.cast h
theorem LY (hI:Inv0 S) (hd:Live S.idx ⟨d,2⟩) (hl:aM name (obj S.O d).ah=some t) (hi:S'.idx=S.idx) (hO:∀ x,core (obj S'.O x)=core (obj (aG S.X S.O d name t) x)):qw (ax S') (t.k:Int)=(obj S.O t.k).links - 1:=by
  have htd:=hI.ne hd hl
  have ul:∀ x,(obj S'.O x).id=(obj S.O x).id:=fun x=>(show (obj S'.O x).id=(obj (aG S.X S.O d name t) x).id by have h:=congrArg aN.id (hO x);exact h).trans (cE (g:=aN.id) (fun _ _=>rfl) (fun _ _=>rfl) (fun _ _ _=>rfl))
  have wG:∀ x,(obj S'.O x).ah=(obj (aG S.X S.O d name t) x).ah:=fun x=>by have h:=congrArg aN.ah (hO x);exact h
  have he:∀ x,(obj S'.O x).ah=if x=d then gZ name (obj S.O d).ah else (obj S.O x).ah:=fun x=>by
    grind [iE]
  rw [Rt (fun i hi2 e hem=>by
    rw [ul]
    rw [hi] at hi2
    have mO:fO S' i=fO S i:=by unfold fO;rw [hi]
    rw [mO,he] at hem
    have hlv:=(Cm hI.ix hi2).1
    have:e∈(obj S.O (fO S i).k).ah:=by
      grind [Jy]
    exact (hI.ob _ (hI.ah _ hlv _ this).2).1),hi]
  have h1:=Jz (q:=fun e=>decide (e.2.k=t.k)) (O':=S'.O) hI.rise hd (fun _ _ e=>hI.key e) (fun x hx=>by rw [he,if_neg hx]) (by rw [he,if_pos rfl]) (hI.twice hd) hl
  have h2:=hI.links t (hI.ent hd hl).2
  grind [jx]
theorem Ul {V:Type} {z:Int} {p:Int×V} {us:Used V}:p∈del z us↔p∈us/\p.1≠z:=by
  unfold del
  rw [List.mem_filter]
  simp
theorem wW {S1 S2:aL} {O2:bZ} {KT:Used Th} {R:RS} (hx:mA S1.idx) (hns:R.ns=ax S1) (ez:R.us=qf KT) (hg:tH S1.idx O2 R.gone) (hl:Live S1.idx t)
    (hfull:∀ u,Live S1.idx u->u≠t->(obj O2 u.k).gone=true->0 < hnd KT u.k) (hop:(obj O2 t.k).opens=(hnd KT t.k:Int)) (hid:(obj O2 t.k).id=(t.k:Int))
    (hi:S2.idx=iB O2 S1.idx t) (hc:∀ x,core (obj S2.O x)=core (obj S1.O x)) (hgo:∀ x,(obj S2.O x).gone=(obj O2 x).gone) :
    (dx R).ns=ax S2/\tH S2.idx S2.O (dx R).gone:=by
  have ul:∀ x,(obj S2.O x).id=(obj S1.O x).id:=fun x=>by have h:=congrArg aN.id (hc x);exact h
  have gY:∀ p∈S1.idx,Live S1.idx p.2:=fun p hp=>by
    unfold Live;rw [← hx.key p hp];exact kH hx.rise hp
  have hkept:∀ p∈S1.idx,ol R (gH S1.O p.1 p.2)=true↔¬ (p.2=t/\decide (qD O2 t)=true):=fun p hp=>by
    have hlp:=gY p hp
    show decide (p.1∈R.gone->p.1∈gq R.us)=true↔_
    rw [decide_eq_true_iff,hx.key p hp,hg.za _ hlp,ez,WS,decide_eq_true_iff]
    constructor
    ·rintro h ⟨h1,h2⟩
     rw [h1] at h
     have:=h h2.1
     have h3:=h2.2
     rw [hop] at h3
     omega
    intro h j4
    by_cases hpt:p.2=t
    ·rw [hpt] at j4 ⊢
     have:¬ (obj O2 t.k).opens=0:=fun q=>h ⟨hpt,j4,q⟩
     rw [hop] at this
     omega
    exact hfull _ hlp hpt j4
  have Y9:(dx R).ns=ax S2:=by
    show R.ns.filter (ol R)=ax S2
    rw [hns]
    unfold ax
    rw [Rq hx.rise hx.key hkept hl,hi]
    grind [iB,gH,Bl,qD]
  refine⟨Y9,?_⟩
  have hsub:∀ u,Live S2.idx u->Live S1.idx u:=fun u hu=>by
    grind [iB,Live,uY]
  have hx2:mA S2.idx:=by
    rw [hi]
    unfold iB
    split
    ·refine⟨?_,fun p hp=>hx.key p (Ul.1 hp).1⟩
     unfold keys del
     exact hx.rise.sublist (List.Sublist.map _ List.filter_sublist)
    exact hx
  have hmem:∀ z,z∈(dx R).gone↔(z∈R.gone/\∃ p∈S2.idx,p.1=z):=fun z=>by
    show z∈((dx R).ns.filter (fun n=>decide (n.id∈R.gone))).map ay.id↔_
    rw [Y9]
    simp only [List.mem_map,List.mem_filter,decide_eq_true_iff]
    constructor
    ·rintro⟨n,⟨h1,h2⟩,h3⟩
     obtain⟨p,hp,rfl⟩:=List.mem_map.1 h1
     exact⟨by rw [← h3];exact h2,p,hp,h3⟩
    rintro⟨h1,p,hp,h2⟩
    exact⟨gH S2.O p.1 p.2,⟨List.mem_map.2 ⟨p,hp,rfl⟩,by show p.1∈_;rw [h2];exact h1⟩,h2⟩
  refine⟨fun u hu=>?_,fun z hz=>?_⟩
  ·rw [hmem,hg.za u (hsub u hu),hgo]
   exact⟨fun h=>h.1,fun h=>⟨h,_,get_mem hu,rfl⟩⟩
  obtain⟨_,p,hp,h1⟩:=(hmem z).1 hz
  refine⟨p.2,?_,(hx2.key p hp).symm.trans h1⟩
  unfold Live;rw [← hx2.key p hp];exact kH hx2.rise hp
end v
end
section
open Go.RowKit Go.Maps aX aq
def cF (a:sU) (code:Int) (S':aL) (an:Int):Prop:=a.2.2=code/\(code=0->∃ g',a.1=toR S' g'/\tH S'.idx S'.O g'/\a.2.1=an)
section w
variable {S S':aL} {g:List Int} {t u:Th} {d to k i j:Nat} {name toName:ByteArray} {O O':bZ} {h need id z:Int} {c:aH} {R:RS}
theorem cF.bad {a:sU} {e an:Int} {S':aL} (h:a.2.2=e) (he:e≠0):cF a e S' an:=⟨h,fun q=>absurd q he⟩
theorem Ru (h1:R.ns=ax S') (h3:R.us=qf S'.us) (h4:R.ar=S'.ar) (h5:R.cN=S'.X.cN/\R.cB=S'.X.cB/\R.cH=S'.X.cH/\R.cS=S'.X.cS/\R.cZ=S'.X.cZ/\R.last=S'.X.last):R=toR S' R.gone:=by
  obtain⟨ns,gone,us,ar,cN,cB,cH,cS,cZ,last⟩:=R
  grind [ax,qf,toR]
theorem tH.same {idx:Used Th} (h:tH idx O g) (hg:∀ x,(obj O' x).gone=(obj O x).gone):tH idx O' g:=⟨fun t ht=>(h.za t ht).trans (by rw [hg]),h.live⟩
theorem Za (hI:Inv0 S) (z:Int):fP (ax S) z=match aq.get S.idx z with|none=>-1|some t=>(posR S t:Int):=by
  cases e:aq.get S.idx z with
  | none=>
    refine C5 (fun j hj he=>?_)
    rw [fe] at hj
    rw [lD hj] at he
    have h1:dQ S j=z:=he
    have h2:=(FJ hI hj)
    have h3:aq.get S.idx ((fO S j).k:Int)=some (fO S j):=h2.1
    rw [← h2.2,h1,e] at h3
    cases h3
  | some t=>
    have hk:=(hI.idx _ _ e).1
    have hl:Live S.idx t:=by show aq.get S.idx (t.k:Int)=some t;rw [← hk];exact e
    show fP (ax S) z=_
    rw [hk];exact (kE hI.ix hl).2.2.2.2.1
theorem Um (hI:Inv0 S) (e:aq.get S.idx z=some t):Live S.idx t/\z=(t.k:Int):=by
  have hk:=(hI.idx _ _ e).1
  grind [Live]
theorem nE (hI:Inv0 S) (hl:Live S.idx t):nd (toR S g).ns (posR S t)=gH S.O (t.k:Int) t:=(kE hI.ix hl).2.2.2.2.2
theorem cF.ok {a:sU} {an:Int} (hc:a.2.2=0) (h1:a.1.ns=ax S') (h3:a.1.us=qf S'.us) (h4:a.1.ar=S'.ar) (h5:a.1.cN=S'.X.cN/\a.1.cB=S'.X.cB/\a.1.cH=S'.X.cH/\a.1.cS=S'.X.cS/\a.1.cZ=S'.X.cZ/\a.1.last=S'.X.last) (hg:tH S'.idx S'.O a.1.gone) (ha:a.2.1=an):cF a 0 S' an:=
  ⟨hc,fun _=>⟨_,Ru h1 h3 h4 h5,hg,ha⟩⟩
theorem cF.same {an:Int} (hr:RelR S g) (ha:an=0):cF (toR S g,0,0) 0 S an:=⟨rfl,fun _=>⟨g,rfl,hr.gone,ha.symm⟩⟩
theorem DH (hr:RelR S g) (hl:Live S.idx t):cF (iC (toR S g) (posR S t)) (cr S t).2.1 (cr S t).2.2 (cr S t).1:=by
  have hlen:(toR S g).us.length=S.us.length:=Cn
  unfold iC
  by_cases hc:(S.us.length:Int) < S.X.cH
  ·rw [jE hc,if_pos (by rw [hlen];exact hc)]
   refine .ok rfl ?_ ?_ ?_ ⟨rfl,rfl,rfl,rfl,rfl,rfl⟩ (hr.gone.same (fun x=>cu (g:=aN.gone) (fun _=>rfl))) Bk
   ·show ax S=ax _
    exact (zf (S:=S) (S':={ S with O:=aD S.O t.k (fun o=>{ o with opens:=o.opens+1 }),us:=ins (least S.us) t S.us,ar:=max S.ar ((S.us.length:Int)+1) }) rfl (fun x=>cu (g:=core) (f:=fun o=>{ o with opens:=o.opens+1 }) (fun _=>rfl))).symm
   ·show ins (least (qf S.us)) (nd (toR S g).ns (posR S t)).id (qf S.us)=qf (ins (least S.us) t S.us)
    rw [nE hr.inv.toInv0 hl,Nb,Bk];rfl
   grind [qf,Cn,Live,cF,iC,toR,posR,cr]
  grind [kV,Live,cF,iC,toR,posR,cr]
theorem Un (hr:RelR S g) (c:aH):cF (if 0<=fP (toR S g).ns c.other then if (nd (toR S g).ns (tgt (toR S g).ns c.other)).kind=2 then iC (toR S g) (tgt (toR S g).ns c.other) else (toR S g,0,173) else (toR S g,0,141)) (iq S c).1 (iq S c).2.1 (iq S c).2.2.answer:=by
  have hI:=hr.inv.toInv0
  have ha:fP (toR S g).ns c.other=_:=Za hI c.other
  unfold iq
  cases e:aq.get S.idx c.other with
  | none=>
    grind [fP,toR,cF,nd,tgt,iC,iq]
  | some t=>
    rw [e] at ha
    replace ha:fP (toR S g).ns c.other=(posR S t:Int):=ha
    obtain⟨hl,_⟩:=Um hI e
    have ht:tgt (toR S g).ns c.other=posR S t:=by unfold tgt;rw [ha];exact Int.toNat_natCast _
    rw [if_pos (by rw [ha];omega),ht,nE hI hl]
    show cF (if t.kind=2 then _ else _) _ _ _
    grind [DH,cF,fP,toR,nd,tgt,iC,iq]
theorem j8 (hr:RelR S g) (hd:Live S.idx ⟨d,2⟩) (name:ByteArray):(aM name (obj S.O d).ah=none/\bn (toR S g).ns (posR S ⟨d,2⟩) name = -1)\/∃ t,aM name (obj S.O d).ah=some t/\bn (toR S g).ns (posR S ⟨d,2⟩) name=(posR S t:Int)/\Live S.idx t/\(t.kind=1\/t.kind=2\/t.kind=3)/\t.k≠d:=by
  have hI:=hr.inv.toInv0
  have hl:bn (toR S g).ns (posR S ⟨d,2⟩) name=_:=Uk (name:=name) hI hd
  cases e:aM name (obj S.O d).ah with
  | none=>rw [e] at hl;exact .inl ⟨rfl,hl⟩
  | some t=>
    rw [e] at hl
    have h1:=(hr.inv.ent hd e).2
    exact .inr ⟨t,rfl,hl,h1,(hI.ob t h1).2.2,hr.inv.ne hd e⟩
theorem LZ (hr:RelR S g) (c:aH):cF (fN (toR S g) c 2) (dG S c).1 (dG S c).2.1 (dG S c).2.2.answer:=by
  have hI:=hr.inv.toInv0
  unfold fN dG fq
  rw [lX hr]
  rcases iu hI c.handle c.name 64 with ⟨e,h,he⟩|⟨d,h,hd,-⟩
  ·rw [h];exact .bad rfl he
  rw [h]
  simp only
  rcases j8 hr hd c.name with ⟨h1,h2⟩|⟨t,h1,h2,hl,hk,-⟩
  ·grind [cF,fN,toR,dG]
  rw [h1,if_pos (by rw [h2];omega),h2,Int.toNat_natCast,nE hI hl]
  show cF (if t.kind=3 then _ else if t.kind≠2 then (_,_,if t.kind=1 then _ else _) else _) _ _ _
  grind [DH,cF,fN,toR,dG]
theorem KU (hr:RelR S g) (c:aH):cF (fN (toR S g) c 1) (dg S c).1 (dg S c).2.1 (dg S c).2.2.answer:=by
  have hI:=hr.inv.toInv0
  unfold fN dg fq
  rw [lX hr]
  rcases iu hI c.handle c.name 64 with ⟨e,h,he⟩|⟨d,h,hd,-⟩
  ·rw [h];exact .bad rfl he
  rw [h]
  simp only
  rcases j8 hr hd c.name with ⟨h1,h2⟩|⟨t,h1,h2,hl,hk,-⟩
  ·grind [cF,fN,toR,dg]
  rw [h1,if_pos (by rw [h2];omega),h2,Int.toNat_natCast,nE hI hl]
  show cF (if t.kind=3 then _ else if t.kind≠1 then (_,_,if t.kind=1 then _ else _) else _) _ _ _
  grind [DH,cF,fN,toR,dg]
theorem KV (hI:Inv0 S) (hl:Live S.idx t) (c:aH):Cd (toR S g) c (posR S t)={ kR S.O (c0 c) (some t) with code:=0 }:=by
  unfold Cd
  rw [nE hI hl]
  unfold kR
  simp only
  rw [(hI.ob t hl).1];rfl
theorem Uo (hr:RelR S g) (c:aH) (hop:c.op=11\/c.op=12):iD S c=(S,mV (toR S g) c):=by
  have hI:=hr.inv.toInv0
  show ((eU S (c0 c)).2.1,{ (eU S (c0 c)).2.2 with code:=(eU S (c0 c)).1 })=_
  unfold mV
  rcases hop with h|h
  ·rw [AO (c:=c0 c) h,if_neg (by omega),zh]
   cases e:aq.get S.us c.handle with
   | none=>rw [show jS S (c0 c)=(131,S,kR S.O (c0 c) none) by unfold jS;rw [show aq.get S.us (c0 c).handle=none from e]];rfl
   | some t=>rw [show jS S (c0 c)=(0,S,kR S.O (c0 c) (some t)) by unfold jS;rw [show aq.get S.us (c0 c).handle=some t from e]];exact congrArg (Prod.mk S) (KV hI (hr.inv.us _ _ e).1 c).symm
  rw [AP (c:=c0 c) h,if_pos h,lX hr]
  rcases iu hI c.handle c.name 64 with ⟨e,h,he⟩|⟨d,h,hd,-⟩
  ·rw [show fL S (c0 c)=(e,S,kR S.O (c0 c) none) by unfold fL fq;rw [show dF S.O S.us (c0 c).handle (c0 c).name 64=.error e from h],h];rfl
  rw [h]
  simp only
  rcases j8 hr hd c.name with ⟨h1,h2⟩|⟨t,h1,h2,hl,hk,-⟩
  ·rw [show fL S (c0 c)=(170,S,kR S.O (c0 c) none) by unfold fL fq;rw [show dF S.O S.us (c0 c).handle (c0 c).name 64=.ok d from h];simp only;rw [h1],if_neg (by rw [h2];decide)];rfl
  rw [show fL S (c0 c)=(0,S,kR S.O (c0 c) (some t)) by unfold fL fq;rw [show dF S.O S.us (c0 c).handle (c0 c).name 64=.ok d from h];simp only;rw [h1],if_pos (by rw [h2];omega),h2,Int.toNat_natCast]
  grind [KV]
theorem KW {f:aN->aN} (hid:∀ o,(f o).id=o.id):gH (aD O t.k f) z t=⟨z,t.kind,(f (obj O t.k)).mode,(f (obj O t.k)).uid,(f (obj O t.k)).gid,(f (obj O t.k)).sec,(f (obj O t.k)).nano,(f (obj O t.k)).data,(f (obj O t.k)).target,(f (obj O t.k)).ah.map (dK O)⟩:=by
  have h1:obj (aD O t.k f) t.k=f (obj O t.k):=by rw [gM,if_pos rfl]
  have h2:dK (aD O t.k f)=dK O:=funext fun e=>by unfold dK;rw [cu (g:=aN.id) hid]
  unfold gH
  rw [h1,h2]
theorem HT (hI:Inv0 S) (hl:Live S.idx t) {f:aN->aN} (hid:∀ o,(f o).id=o.id) (hi:S'.idx=S.idx) (hO:S'.O=aD S.O t.k f):ax S'=(ax S).set (posR S t) (gH (aD S.O t.k f) (t.k:Int) t):=by
  rw [Bn hI.ix hl (S':=S') hi (fun x hx=>by rw [hO,gM,if_neg hx]) (by rw [hO];exact cu (g:=aN.id) hid),hO]
theorem Uq (hr:RelR S g) (c:aH):cF (jj (toR S g) c) (bw S c).1 (bw S c).2.1 0:=by
  have hI:=hr.inv.toInv0
  unfold jj bw
  rw [zh]
  cases e:aq.get S.us c.handle with
  | none=>exact .bad rfl (show (131:Int)≠0 by decide)
  | some t=>
    have hl:=(hr.inv.us _ _ e).1
    simp only
    rw [nE hI hl]
    show cF (if t.kind=2/\(t.k:Int)∈g then _ else _) _ _ _
    by_cases hg:(obj S.O t.k).gone=true/\t.kind=2
    ·rw [if_pos ⟨hg.2,(hr.gone.za t hl).2 hg.1⟩,if_pos hg];exact .bad rfl (show (170:Int)≠0 by decide)
    rw [if_neg (fun q=>hg ⟨(hr.gone.za t hl).1 q.2,q.1⟩),if_neg hg]
    by_cases h1:gA c.mode
    ·by_cases h2:mh c.uid/\mh c.gid
     ·by_cases h3:dw c.sec c.nano
      ·rw [if_pos h1,if_pos h1,if_pos h2,if_pos h2,if_pos h3,if_pos h3]
       refine .ok rfl ?_ rfl rfl ⟨rfl,rfl,rfl,rfl,rfl,rfl⟩ (hr.gone.same (fun x=>cu (g:=aN.gone) (f:=fun o=>{ o with mode:=c.mode,uid:=c.uid,gid:=c.gid,sec:=c.sec,nano:=c.nano }) (fun _=>rfl))) rfl
       refine Eq.trans ?_ (HT (S:=S) (S':={ S with O:=aD S.O t.k (fun o=>{ o with mode:=c.mode,uid:=c.uid,gid:=c.gid,sec:=c.sec,nano:=c.nano }) }) (t:=t) hI hl (f:=fun o=>{ o with mode:=c.mode,uid:=c.uid,gid:=c.gid,sec:=c.sec,nano:=c.nano }) (fun _=>rfl) rfl rfl).symm
       rw [KW (f:=fun o=>{ o with mode:=c.mode,uid:=c.uid,gid:=c.gid,sec:=c.sec,nano:=c.nano }) (fun _=>rfl)]
       rfl
      grind [cF,jj,toR,bw]
     grind [cF,jj,toR,bw]
    grind [cF,jj,toR,bw]
theorem Rv (hr:RelR S g) (hl:Live S.idx t) (bs:List UInt8):cF (lP (toR S g) (posR S t) bs) (fS S t.k bs).2.1 (fS S t.k bs).2.2 (fS S t.k bs).1:=by
  have hI:=hr.inv.toInv0
  unfold lP fS
  by_cases hb:bs=[]
  ·rw [if_pos hb,if_pos hb];exact .same hr rfl
  rw [if_neg hb,if_neg hb,DG hI]
  show cF (if S.X.cB - S.X.used<=0 then _ else _) _ _ _
  by_cases hu:S.X.cB - S.X.used<=0
  ·grind [Live,cF,lP,toR,posR,fS]
  rw [if_neg hu,if_neg hu]
  refine .ok rfl ?_ rfl rfl ⟨rfl,rfl,rfl,rfl,rfl,rfl⟩ (hr.gone.same (fun x=>cu (g:=aN.gone) (f:=fun o=>{ o with data:=o.data++bs.take (bR S.X bs.length),sec:=S.X.cS,nano:=S.X.cZ }) (fun _=>rfl))) rfl
  refine Eq.trans ?_ (HT (S:=S) (S':={ S with X:={ S.X with used:=S.X.used+(bR S.X bs.length:Int) },O:=aD S.O t.k (fun o=>{ o with data:=o.data++bs.take (bR S.X bs.length),sec:=S.X.cS,nano:=S.X.cZ }) }) (t:=t) hI hl (f:=fun o=>{ o with data:=o.data++bs.take (bR S.X bs.length),sec:=S.X.cS,nano:=S.X.cZ }) (fun _=>rfl) rfl rfl).symm
  rw [KW (f:=fun o=>{ o with data:=o.data++bs.take (bR S.X bs.length),sec:=S.X.cS,nano:=S.X.cZ }) (fun _=>rfl)]
  simp only
  rw [nE hI hl]
  rfl
theorem Ur (hr:RelR S g) (c:aH):cF (match eH (toR S g) c.handle with|.error e=>(toR S g,0,e)|.ok k=>if (nd (toR S g).ns k).kind=2 then (toR S g,0,172) else lP (toR S g) k c.data) (dU S c).1 (dU S c).2.1 (if (dU S c).1=0 then (dU S c).2.2.answer else 0):=by
  have hI:=hr.inv.toInv0
  unfold dU
  rw [zh]
  cases e:aq.get S.us c.handle with
  | none=>exact .bad rfl (show (131:Int)≠0 by decide)
  | some t=>
    obtain⟨hl,h3⟩:=hr.inv.us _ _ e
    have hk:=(hI.ob t hl).2.2
    simp only
    rw [nE hI hl]
    show cF (if t.kind=2 then _ else _) _ _ _
    grind [Rv,cF,eH,toR,nd,lP,dU]
theorem Rw (hr:RelR S g) (c:aH):cF (if c.handle∈keys (toR S g).us then (dx { toR S g with us:=del c.handle (toR S g).us },0,0) else (dx (toR S g),0,131)) (fY S c).1 (fY S c).2.1 0:=by
  have hI:=hr.inv.toInv0
  have hk:keys (toR S g).us=keys S.us:=ze
  unfold fY
  cases e:aq.get S.us c.handle with
  | none=>
    grind [get_none,cF,keys,toR,dx,del,fY]
  | some t=>
    have hl:=(hr.inv.us _ _ e).1
    rw [if_pos (by rw [hk];exact List.mem_map.2 ⟨_,get_mem e,rfl⟩)]
    have hdel:=fun k=>Mw (k:=k) hI.usr e
    have hsw:=wW (S1:=S) (S2:=(fY S c).2.1) (O2:=qq S.O t.k) (KT:=del c.handle S.us) (R:={ toR S g with us:=del c.handle (toR S g).us }) (t:=t) hI.ix rfl Nc.symm
      (hr.gone.same (fun x=>cu (g:=aN.gone) (f:=fun o=>{ o with opens:=o.opens - 1 }) (fun _=>rfl))) hl
      (fun u hu hne CM=>by
        have h1:(obj S.O u.k).gone=true:=Eq.trans (cu (g:=aN.gone) (f:=fun o=>{ o with opens:=o.opens - 1 }) (fun _=>rfl)).symm CM
        have h2:=hr.inv.full u hu h1
        rw [hI.opens u hu] at h2
        have h3:=hdel u.k
        rw [if_neg (fun q=>hne (fQ hu hl q.symm))] at h3
        omega)
      (by
        show (obj (aD S.O t.k _) t.k).opens=_
        rw [gM,if_pos rfl]
        show (obj S.O t.k).opens - 1=_
        rw [hI.opens t hl]
        have h3:=hdel t.k
        rw [if_pos rfl] at h3
        omega)
      (by rw [show (obj (qq S.O t.k) t.k).id=(obj S.O t.k).id from cu (g:=aN.id) (f:=fun o=>{ o with opens:=o.opens - 1 }) (fun _=>rfl)];exact (hI.ob t hl).1)
      (by unfold fY;rw [e]) (fun x=>by unfold fY;rw [e];exact cu (g:=core) (f:=fun o=>{ o with opens:=o.opens - 1 }) (fun _=>rfl)) (fun x=>by unfold fY;rw [e])
    unfold fY at hsw
    rw [e] at hsw
    refine .ok rfl hsw.1 ?_ rfl ⟨rfl,rfl,rfl,rfl,rfl,rfl⟩ hsw.2 rfl
    exact Nc.symm
end w
end
section
open Go.RowKit Go.Maps aX aq
section x
variable {S S':aL} {g:List Int} {t u:Th} {d to k i j:Nat} {name toName:ByteArray} {O O':bZ} {h need id z:Int} {c:aH} {R:RS} {o:aN} {n:ay}
theorem Us (hx:mA S.idx) (hl:Live S.idx t) (hi:S'.idx=S.idx):posR S' t=posR S t:=by
  have hl':Live S'.idx t:=by rw [hi];exact hl
  have hx':mA S'.idx:=by rw [hi];exact hx
  have h1:=kE hx hl
  have h2:=kE hx' hl'
  grind [KO,dQ]
theorem Rx (hr:RelR S g) (hd:Live S.idx ⟨d,2⟩) (hl:Live S.idx t) (htd:t.k≠d) {e:Int}:cF (bD (toR S g) (posR S ⟨d,2⟩) name (t.k:Int),0,0) 0 { S with X:={ S.X with ah:=e },O:=br S.X S.O d name t } 0:=by
  refine .ok rfl ?_ rfl rfl ⟨rfl,rfl,rfl,rfl,rfl,rfl⟩ (hr.gone.same (fun x=>ji (g:=aN.gone) (fun _ _=>rfl) (fun _ _=>rfl) (fun _ _ _=>rfl) (fun _ _=>rfl))) rfl
  exact (zi (S':={ S with X:={ S.X with ah:=e },O:=br S.X S.O d name t }) hr.inv.ix hd htd (hr.inv.ob t hl).1 rfl).symm
theorem DI (hI:Inv0 S):(bJ (toR S g).ns (toR S g).ns.length:Int)=S.X.ah:=by
  show (bJ (ax S) (ax S).length:Int)=S.X.ah
  rw [fe,Bb];exact hI.total.1.symm
theorem Ut (hr:RelR S g) (c:aH):cF (rP (toR S g) c) (bT S c).1 (bT S c).2.1 0:=by
  have hI:=hr.inv.toInv0
  unfold rP mK bT
  rw [lX hr,lX hr]
  rcases iu hI c.handle c.name 64 with ⟨e,h,he⟩|⟨d,h,hd,-⟩
  ·rw [h];exact .bad rfl he
  rw [h]
  simp only
  rcases iu hI c.other c.text 192 with ⟨e,h,he⟩|⟨to,h,hto,-⟩
  ·rw [h];exact .bad rfl he
  rw [h]
  simp only
  unfold jP
  rcases j8 hr hd c.name with ⟨h1,h2⟩|⟨t,h1,h2,hl,hk,htd⟩
  ·grind [cF,rP,toR,bT]
  rw [h1,if_pos (by rw [h2];omega),h2,Int.toNat_natCast,nE hI hl]
  show cF (if t.kind=2 then _ else _) _ _ _
  simp only
  by_cases h3:t.kind=2
  ·grind [cF,rP,toR,bT]
  rw [if_neg h3,if_neg h3]
  have HV:t.k≠to:=by grind [fQ]
  rcases j8 hr hto c.text with ⟨h4,h5⟩|⟨u,h4,h5,-⟩
  ·rw [if_neg (by rw [h5];decide),if_pos h4,DI hI]
   by_cases h6:S.X.ah < 8192
   ·rw [if_pos h6,if_pos h6];exact Rx hr hto hl HV
   grind [cF,rP,toR,bT]
  grind [cF,rP,toR,bT]
theorem CN (hI:Inv0 S):ax { S with O:=aD S.O (aK S.X) (fun _=>o) }=ax S:=by
  refine List.map_congr_left (fun p hp=>?_)
  have h1:obj (aD S.O (aK S.X) (fun _=>o)) p.2.k=obj S.O p.2.k:=by rw [gM,if_neg (hI.fresh.idx p hp)]
  have h2:(obj S.O p.2.k).ah.map (dK (aD S.O (aK S.X) (fun _=>o)))=(obj S.O p.2.k).ah.map (dK S.O):=List.map_congr_left (fun e he=>by
    unfold dK;rw [gM,if_neg (hI.fresh.ah _ e he)])
  unfold gH
  rw [h1,h2]
theorem Ry (hI:Inv0 S):∀ x∈keys S.idx,x < S.X.last+1:=fun x hx=>by
  cases e:aq.get S.idx x with
  | none=>exact absurd hx (get_none.1 e)
  | some t=>have:=(hI.idx _ _ e).2.2;omega
theorem F8 (hI:Inv0 S):(fA S d name o).idx=S.idx++[(S.X.last+1,⟨aK S.X,o.kind⟩)]:=Jq (Ry hI)
theorem Rz (hI:Inv0 S):mA (fA S d name o).idx/\Live (fA S d name o).idx ⟨aK S.X,o.kind⟩/\∀ u,Live (fA S d name o).idx u↔u=⟨aK S.X,o.kind⟩\/Live S.idx u:=by
  have hn:S.X.last+1∉keys S.idx:=fun h=>by have:=Ry hI _ h;omega
  have hk:=pW hI
  have hg:∀ x,aq.get (fA S d name o).idx x=if x=S.X.last+1 then some ⟨aK S.X,o.kind⟩ else aq.get S.idx x:=fun x=>by
    show aq.get (ins _ _ _) x=_
    rw [uX hn]
  have hl:Live (fA S d name o).idx ⟨aK S.X,o.kind⟩:=by show aq.get _ ((aK S.X:Nat):Int)=_;rw [hg,if_pos hk]
  refine⟨⟨vF hI.rise hn,fun p hp=>?_⟩,hl,fun u=>?_⟩
  ·rw [F8 hI] at hp
   rcases List.mem_append.1 hp with h|h
   ·exact hI.ix.key p h
   grind
  constructor
  ·grind [fA,Live,aK]
  rintro (rfl|hu)
  ·exact hl
  show aq.get _ (u.k:Int)=some u
  rw [hg,if_neg (fun q=>hn (by rw [← q];exact List.mem_map.2 ⟨_,get_mem hu,rfl⟩))];exact hu
theorem Nf (hr:RelR S g) (hd:Live S.idx ⟨d,2⟩) (ho:o.id=S.X.last+1/\o.sec=S.X.cS/\o.nano=S.X.cZ/\o.gone=false/\o.ah=[]) (hn:n.kind=o.kind/\n.mode=o.mode/\n.uid=o.uid/\n.gid=o.gid/\n.data=o.data/\n.target=o.target/\n.ah=[]) :
    sS (toR S g) (posR S ⟨d,2⟩) name n=toR (fA S d name o) g/\tH (fA S d name o).idx (fA S d name o).O g:=by
  have hI:=hr.inv.toInv0
  have hk:=pW hI
  have htd:aK S.X≠d:=fun e=>hI.fresh.idx _ (get_mem hd) e.symm
  have hat:=fun x=>oZ (X:=S.X) (O:=aD S.O (aK S.X) (fun _=>o)) (d:=d) (name:=name) (t:=⟨aK S.X,o.kind⟩) (k:=x) htd
  obtain⟨h1,h2,h3,h4,h5⟩:=ho
  have hnew:obj (fA S d name o).O (aK S.X)={ o with links:=o.links+1,up:=if o.kind=2 then some d else o.up }:=by
    show obj (br _ _ _ _ _) _=_
    rw [hat,if_neg htd,if_pos rfl,gM,if_pos rfl]
  refine⟨Ru (R:=sS (toR S g) (posR S ⟨d,2⟩) name n) ?_ rfl rfl ⟨rfl,rfl,rfl,rfl,rfl,rfl⟩,⟨fun u hu=>?_,fun z hz=>?_⟩⟩
  ·have hg2:=zi (S:={ S with O:=aD S.O (aK S.X) (fun _=>o) }) (S':={ S with X:=(fA S d name o).X,O:=(fA S d name o).O }) (d:=d) (name:=name) (t:=⟨aK S.X,o.kind⟩) (id:=S.X.last+1) hI.ix hd htd (by
     show (obj (aD _ _ _) (aK S.X)).id=_
     rw [gM,if_pos rfl];exact h1) rfl
   rw [CN hI,show posR { S with O:=aD S.O (aK S.X) (fun _=>o) } ⟨d,2⟩=posR S ⟨d,2⟩ by unfold posR;rw [CN hI]] at hg2
   have hg3:ax (fA S d name o)=ax { S with X:=(fA S d name o).X,O:=(fA S d name o).O }++[gH (fA S d name o).O (S.X.last+1) ⟨aK S.X,o.kind⟩]:=by
     unfold ax
     rw [F8 hI,List.map_append];rfl
   have hN:({ n with id:=S.X.last+1,sec:=S.X.cS,nano:=S.X.cZ }:ay)=gH (fA S d name o).O (S.X.last+1) ⟨aK S.X,o.kind⟩:=by
     unfold gH
     simp only
     rw [hnew,h5]
     obtain⟨ni,nk,nm,nu,ng,ns,nn,nda,nt,ne⟩:=n
     obtain⟨g1,g2,g3,g4,g5,g6,g7⟩:=hn
     simp only at g1 g2 g3 g4 g5 g6 g7 ⊢
     rw [g1,g2,g3,g4,g5,g6,g7,h2,h3];rfl
   rw [hg3,hg2,← hN];rfl
  ·rcases ((Rz hI).2.2 u).1 hu with rfl|Hq
   ·constructor
    ·intro hz
     obtain⟨v,hv,e⟩:=hr.gone.live _ hz
     exact absurd (show v.k=aK S.X by exact Int.ofNat.inj e) (hI.fresh.idx _ (get_mem hv))
    intro h
    rw [hnew] at h
    have h:o.gone=true:=h
    rw [h4] at h;cases h
   refine (hr.gone.za u Hq).trans ?_
   have:(obj (fA S d name o).O u.k).gone=(obj S.O u.k).gone:=by
     refine Eq.trans (ji (g:=aN.gone) (fun _ _=>rfl) (fun _ _=>rfl) (fun _ _ _=>rfl) (fun _ _=>rfl)) ?_
     rw [gM,if_neg (hI.fresh.idx _ (get_mem Hq))]
   rw [this]
  obtain⟨v,hv,e⟩:=hr.gone.live z hz
  exact⟨v,((Rz hI).2.2 v).2 (.inr hv),e⟩
end x
end
section
open Go.RowKit Go.Maps aX aq
section y
variable {S S' S2:aL} {g:List Int} {t u:Th} {d to k i j:Nat} {name toName:ByteArray} {O O':bZ} {h need id z:Int} {c:aH} {R:RS} {o:aN} {n:ay}
theorem CO (hr:RelR S g) (hd:Live S.idx ⟨d,2⟩) (name:ByteArray) (hb:¬ (n.kind=3/\iQ n.target≠0)):(dO S.X S.O S.idx d name=0/\bK (toR S g) (posR S ⟨d,2⟩) name n=(sS (toR S g) (posR S ⟨d,2⟩) name n,0))\/(dO S.X S.O S.idx d name≠0/\bK (toR S g) (posR S ⟨d,2⟩) name n=(toR S g,dO S.X S.O S.idx d name)):=by
  unfold bK dO
  rw [if_neg hb]
  rcases j8 hr hd name with ⟨h1,h2⟩|⟨t,h1,h2,-⟩
  ·rw [if_pos h1,if_neg (show ¬ 0<=bn (toR S g).ns (posR S ⟨d,2⟩) name by rw [h2];decide)]
   by_cases h3:Room S.X S.idx
   ·rw [if_pos ((KS hr.inv.toInv0).2 h3),if_pos h3];exact .inl ⟨rfl,rfl⟩
   rw [if_neg (fun q=>h3 ((KS hr.inv.toInv0).1 q)),if_neg h3];exact .inr ⟨by decide,rfl⟩
  grind
theorem KX (hr:RelR S g) (hd:Live S.idx ⟨d,2⟩) (name:ByteArray) (hb:¬ (n.kind=3/\iQ n.target≠0)) (ho:o.id=S.X.last+1/\o.sec=S.X.cS/\o.nano=S.X.cZ/\o.gone=false/\o.ah=[]) (hn:n.kind=o.kind/\n.mode=o.mode/\n.uid=o.uid/\n.gid=o.gid/\n.data=o.data/\n.target=o.target/\n.ah=[]) :
    cF ((bK (toR S g) (posR S ⟨d,2⟩) name n).1,0,(bK (toR S g) (posR S ⟨d,2⟩) name n).2) (if dO S.X S.O S.idx d name=0 then (0,fA S d name o) else (dO S.X S.O S.idx d name,S)).1 (if dO S.X S.O S.idx d name=0 then ((0:Int),fA S d name o) else (dO S.X S.O S.idx d name,S)).2 0:=by
  grind [CO,Nf,Live,iQ,cF,bK,toR,posR,dO,fA]
theorem RA (hr:RelR S g) (c:aH) (hop:c.op=4):cF (match d6 (toR S g) c.handle c.name 192 with|.error e=>(toR S g,0,e)|.ok d=>eM (toR S g) c d) (eZ S c).1 (eZ S c).2.1 0:=by
  unfold eZ
  rw [lX hr]
  rcases iu hr.inv.toInv0 c.handle c.name 192 with ⟨e,h,he⟩|⟨d,h,hd,-⟩
  ·rw [h];exact .bad rfl he
  rw [h]
  simp only
  unfold eM
  rw [if_neg (by omega),if_neg (by omega)]
  by_cases hm:gA c.mode
  ·rw [if_pos hm,if_pos hm,if_neg (by omega)]
   exact KX (o:=cD S.X 2 c.mode) hr hd c.name (fun q=>absurd (show (2:Int)=3 from q.1) (by decide)) ⟨rfl,rfl,rfl,rfl,rfl⟩ ⟨rfl,rfl,rfl,rfl,rfl,rfl,rfl⟩
  grind [cF,d6,toR,eM,eZ]
theorem L4 (hr:RelR S g) (c:aH) (hop:c.op=6):cF (match d6 (toR S g) c.handle c.name 192 with|.error e=>(toR S g,0,e)|.ok d=>eM (toR S g) c d) (dZ S c).1 (dZ S c).2.1 0:=by
  unfold dZ
  rw [lX hr]
  rcases iu hr.inv.toInv0 c.handle c.name 192 with ⟨e,h,he⟩|⟨d,h,hd,-⟩
  all_goals grind [eM,ia,iQ,KX,cD,bK,cF,d6,toR,dZ]
theorem WT (hr:RelR S g) (hd:Live S.idx ⟨d,2⟩) (hl:aM name (obj S.O d).ah=some t):nD name (nd (ax S) (posR S ⟨d,2⟩)).ah 0=(t.k:Int):=by
  have hI:=hr.inv.toInv0
  rw [(kE hI.ix hd).2.2.2.2.2]
  show nD name ((obj S.O d).ah.map (dK S.O)) 0=_
  exact (Nd _ (hI.twice hd) hl).trans (hI.ob _ (hr.inv.ent hd hl).2).1
theorem RG (hr:RelR S g) (hd:Live S.idx ⟨d,2⟩) (hl:aM name (obj S.O d).ah=some t):(bA (toR S g) (posR S ⟨d,2⟩) name true).gone=if (obj S.O t.k).links - 1=0 then g++[(t.k:Int)] else g:=by
  have hI:=hr.inv.toInv0
  have h2:qw (jL S.X.cS S.X.cZ (ax S) (posR S ⟨d,2⟩) (oh name (nd (ax S) (posR S ⟨d,2⟩)).ah)) (t.k:Int)=(obj S.O t.k).links - 1:=by
    rw [← uU (S:=S) (S':={ S with O:=aG S.X S.O d name t }) hI.ix hd (hr.inv.ne hd hl) rfl (fun _=>rfl)]
    grind [LY,aG]
  grind [qw,jL,ax,posR,oh,nd,nD,WT,obj,Live,aM,bA,toR]
structure aai (S:aL) (d:Nat) (name:ByteArray) (t:Th) (g':List Int):Prop where
  gone:tH S.idx (aE S d name t).O g'
  idx:(aE S d name t).idx=iB (aE S d name t).O S.idx t
  core:∀ x,Proofs.YtnipofpbcggjcaaGreat.core (obj (aE S d name t).O x)=Proofs.YtnipofpbcggjcaaGreat.core (obj (aG S.X S.O d name t) x)
  opens:∀ x,(obj (aE S d name t).O x).opens=(obj S.O x).opens
  others:∀ x,x≠t.k->(obj (aE S d name t).O x).gone=(obj S.O x).gone
theorem KY (hr:RelR S g) (hd:Live S.idx ⟨d,2⟩) (hl:aM name (obj S.O d).ah=some t):aai S d name t (bA (toR S g) (posR S ⟨d,2⟩) name true).gone:=by
  have hI:=hr.inv.toInv0
  have hlt:=(hr.inv.ent hd hl).2
  have htd:=hr.inv.ne hd hl
  have hlk:(obj (aG S.X S.O d name t) t.k).links=(obj S.O t.k).links - 1:=by rw [iE htd,if_neg htd,if_pos rfl]
  have hgo:∀ x,(obj (aG S.X S.O d name t) x).gone=(obj S.O x).gone:=fun x=>cE (g:=aN.gone) (fun _ _=>rfl) (fun _ _=>rfl) (fun _ _ _=>rfl)
  have hop:∀ x,(obj (aG S.X S.O d name t) x).opens=(obj S.O x).opens:=fun x=>cE (g:=aN.opens) (fun _ _=>rfl) (fun _ _=>rfl) (fun _ _ _=>rfl)
  rw [RG hr hd hl]
  by_cases h0:(obj S.O t.k).links - 1=0
  ·have hm:=tP (S:=S) (d:=d) (name:=name) (t:=t) (hlk.trans h0)
   have hO:(aE S d name t).O=pV (aG S.X S.O d name t) t.k:=by rw [hm]
   have hat:∀ x,(obj (pV (aG S.X S.O d name t) t.k) x).gone=if x=t.k then true else (obj S.O x).gone:=fun x=>by
     grind [pV,gM]
   rw [if_pos h0]
   refine⟨⟨fun u hu=>?_,fun z hz=>?_⟩,by rw [hO,hm],fun x=>?_,fun x=>?_,fun x hx=>?_⟩
   ·rw [hO,hat,List.mem_append,List.mem_singleton]
    by_cases hx:u.k=t.k
    ·grind
    rw [if_neg hx,← hr.gone.za u hu]
    grind
   ·rcases List.mem_append.1 hz with hz|hz
    ·exact hr.gone.live z hz
    grind
   ·rw [hO];exact cu (g:=Proofs.YtnipofpbcggjcaaGreat.core) (f:=fun o=>{ o with gone:=true }) (fun _=>rfl)
   ·rw [hO];exact Eq.trans (cu (g:=aN.opens) (f:=fun o=>{ o with gone:=true }) (fun _=>rfl)) (hop x)
   rw [hO,hat,if_neg hx]
  have hm:=tQ (S:=S) (d:=d) (name:=name) (t:=t) (fun q=>h0 (hlk.symm.trans q))
  have hO:(aE S d name t).O=aG S.X S.O d name t:=by rw [hm]
  rw [if_neg h0]
  refine⟨by rw [hO];exact hr.gone.same hgo,?_,fun x=>by rw [hO],fun x=>by rw [hO];exact hop x,fun x _=>by rw [hO];exact hgo x⟩
  rw [hO,hm]
  unfold iB
  rw [if_neg]
  rintro⟨h1,_⟩
  rw [hgo] at h1
  have h2:=hI.gone t hlt h1
  have h3:=hI.links t hlt
  have h4:=ny (idx:=S.idx) hd hl
  omega
theorem F9 (hr:RelR S g) (hu:Live S.idx u) (h:(obj S.O u.k).gone=true):0 < hnd S.us u.k:=by
  have h1:=hr.inv.full u hu h
  rw [hr.inv.opens u hu] at h1;omega
theorem KZ (hr:RelR S g) (hd:Live S.idx ⟨d,2⟩) (hl:aM name (obj S.O d).ah=some t) (h1:S2={ aE S d name t with O:=S2.O }) (hc:∀ x,core (obj S2.O x)=core (obj (aE S d name t).O x)) (hgo:∀ x,(obj S2.O x).gone=(obj (aE S d name t).O x).gone) :
    cF (dx (bA (toR S g) (posR S ⟨d,2⟩) name true),0,0) 0 S2 0:=by
  have hI:=hr.inv.toInv0
  have hlt:=(hr.inv.ent hd hl).2
  have Ng:=KY hr hd hl
  have hX:S2.X=(aE S d name t).X:=by rw [h1]
  have hsw:=wW (S1:={ S with O:=aG S.X S.O d name t }) (S2:=S2) (O2:=(aE S d name t).O) (KT:=S.us) (R:=bA (toR S g) (posR S ⟨d,2⟩) name true) (t:=t) hI.ix
    (uU (S:=S) (S':={ S with O:=aG S.X S.O d name t }) hI.ix hd (hr.inv.ne hd hl) rfl (fun _=>rfl)).symm rfl Ng.gone hlt
    (fun u hu hne CM=>by
      rw [Ng.others u.k (fun e=>hne (fQ hu hlt e))] at CM
      exact F9 hr hu CM)
    (by rw [Ng.opens];exact hI.opens t hlt)
    (by have h:=congrArg aN.id (Ng.core t.k);exact h.trans ((cE (g:=aN.id) (fun _ _=>rfl) (fun _ _=>rfl) (fun _ _ _=>rfl)).trans (hI.ob t hlt).1))
    (by rw [h1];exact Ng.idx) (fun x=>(hc x).trans (Ng.core x)) hgo
  grind [Live,aM,obj,aE,core,cF,dx,bA,toR,posR]
end y
end
section
open Go.RowKit Go.Maps aX aq
section z
variable {S S' S2:aL} {g:List Int} {t u:Th} {d to k i j:Nat} {name toName:ByteArray} {O O':bZ} {h need id z:Int} {c:aH} {R:RS} {o:aN} {n:ay}
theorem OB (hr:RelR S g) (c:aH) (hop:c.op=5):cF (match d6 (toR S g) c.handle c.name 192 with|.error e=>(toR S g,0,e)|.ok d=>eM (toR S g) c d) (cM S c).1 (cM S c).2.1 (cM S c).2.2.answer:=by
  have hI:=hr.inv.toInv0
  unfold cM
  rw [lX hr]
  rcases iu hI c.handle c.name 192 with ⟨e,h,he⟩|⟨d,h,hd,-⟩
  ·rw [h];exact .bad rfl he
  rw [h]
  simp only
  unfold eM
  rw [if_neg (by omega),if_neg (by omega)]
  by_cases hm:gA c.mode
  rotate_left
  ·grind [cF,d6,toR,eM,cM]
  rw [if_pos hm,if_pos hm,if_pos hop]
  rcases CO (n:=⟨0,1,c.mode,0,0,0,0,[],⟨#[]⟩,[]⟩) hr hd c.name (fun q=>absurd (show (1:Int)=3 from q.1) (by decide)) with ⟨h1,h2⟩|⟨h1,h2⟩
  rotate_left
  ·simp only
   rw [h2,if_neg h1,if_neg h1];exact .bad rfl h1
  simp only
  rw [h2,if_pos h1,if_pos (show (sS (toR S g) (posR S ⟨d,2⟩) c.name ⟨0,1,c.mode,0,0,0,0,[],⟨#[]⟩,[]⟩,(0:Int)).2=0 from rfl)]
  obtain⟨hA,hG⟩:=Nf (name:=c.name) (o:=cD S.X 1 c.mode) (n:=⟨0,1,c.mode,0,0,0,0,[],⟨#[]⟩,[]⟩) hr hd ⟨rfl,rfl,rfl,rfl,rfl⟩ ⟨rfl,rfl,rfl,rfl,rfl,rfl,rfl⟩
  rw [hA]
  obtain⟨S1,hS1⟩:∃ S1,S1=fA S d c.name (cD S.X 1 c.mode):=⟨_,rfl⟩
  rw [← hS1] at hG ⊢
  have hk:=pW hI
  have htd:aK S.X≠d:=fun e=>hI.fresh.idx _ (get_mem hd) e.symm
  have hidx:S1.idx=S.idx++[(S.X.last+1,⟨aK S.X,1⟩)]:=by rw [hS1];exact F8 hI
  have hlen:(toR S1 g).ns.length - 1=S.idx.length:=by
    show (ax S1).length - 1=_
    rw [fe,hidx,List.length_append];rfl
  have hnd:(nd (toR S1 g).ns S.idx.length).id=(aK S.X:Int):=by
    show (nd (ax S1) S.idx.length).id=_
    rw [lD (by rw [hidx,List.length_append];exact Nat.lt_succ_self _),hk]
    show dQ S1 S.idx.length=_
    grind [dQ]
  unfold kG
  rw [if_pos h1]
  unfold iC
  have ez:(toR S1 g).us=qf S.us:=by rw [hS1];rfl
  have hcH:(toR S1 g).cH=S.X.cH:=by rw [hS1];rfl
  have hpk:(toR S1 g).ar=S.ar:=by rw [hS1];rfl
  rw [hlen,hnd,ez,hcH,hpk,Cn,Bk]
  by_cases hc:(S.us.length:Int) < S.X.cH
  rotate_left
  ·grind [cF,d6,toR,eM,cM]
  rw [if_pos hc,if_pos hc]
  have hat:∀ (o:aN) x,obj (br S.X (aD S.O (aK S.X) (fun _=>o)) d c.name ⟨aK S.X,1⟩) x=_:=fun o x=>oZ (X:=S.X) (O:=aD S.O (aK S.X) (fun _=>o)) (d:=d) (name:=c.name) (t:=⟨aK S.X,1⟩) (k:=x) htd
  have hO1:S1.O=br S.X (aD S.O (aK S.X) (fun _=>cD S.X 1 c.mode)) d c.name ⟨aK S.X,1⟩:=by rw [hS1];rfl
  have hboth:∀ x,core (obj (br S.X (aD S.O (aK S.X) (fun _=>{ cD S.X 1 c.mode with opens:=1 })) d c.name ⟨aK S.X,1⟩) x)=core (obj S1.O x)/\(obj (br S.X (aD S.O (aK S.X) (fun _=>{ cD S.X 1 c.mode with opens:=1 })) d c.name ⟨aK S.X,1⟩) x).gone=(obj S1.O x).gone:=fun x=>by
    rw [hO1,hat,hat]
    by_cases hx:x=d
    ·grind [gM]
    rw [if_neg hx,if_neg hx]
    by_cases hx2:x=aK S.X
    ·rw [if_pos hx2,if_pos hx2,gM,gM,if_pos hx2,if_pos hx2];exact⟨rfl,rfl⟩
    grind [gM]
  refine .ok rfl ?_ (Nb (t:=⟨aK S.X,1⟩)).symm rfl ?_ ?_ rfl
  ·show ax S1=ax _
   grind [zf,fA,ins,aK,cD]
  ·rw [hS1];exact⟨rfl,rfl,rfl,rfl,rfl,rfl⟩
  rw [hS1] at hG
  exact hG.same (fun x=>by have h:=(hboth x).2;rw [hS1] at h;exact h)
theorem RH (hr:RelR S g) (hd:Live S.idx ⟨d,2⟩) (name:ByteArray):cF ((fZ (toR S g) (posR S ⟨d,2⟩) name false).1,0,(fZ (toR S g) (posR S ⟨d,2⟩) name false).2) (fH S d name).1 (fH S d name).2 0:=by
  have hI:=hr.inv.toInv0
  unfold fZ fH
  rcases j8 hr hd name with ⟨h1,h2⟩|⟨t,h1,h2,hl,hk,htd⟩
  ·grind [bn,toR,posR,Live,cF,fZ,fH]
  rw [h1,if_pos (show 0<=bn (toR S g).ns (posR S ⟨d,2⟩) name by rw [h2];omega),h2,Int.toNat_natCast]
  simp only
  rw [nE hI hl]
  by_cases h3:t.kind=2
  ·rw [if_pos ⟨trivial,h3⟩,if_pos h3];exact .bad rfl (show (172:Int)≠0 by decide)
  rw [if_neg (fun q=>h3 q.2),if_neg (fun q=>by cases q.1),if_neg (fun q=>by cases q.1),if_neg h3]
  exact KZ hr hd h1 rfl (fun _=>rfl) (fun _=>rfl)
theorem RI (hr:RelR S g) (hd:Live S.idx ⟨d,2⟩) (name:ByteArray):cF ((fZ (toR S g) (posR S ⟨d,2⟩) name true).1,0,(fZ (toR S g) (posR S ⟨d,2⟩) name true).2) (fX S d name).1 (fX S d name).2 0:=by
  have hI:=hr.inv.toInv0
  unfold fZ fX
  rcases j8 hr hd name with ⟨h1,h2⟩|⟨t,h1,h2,hl,hk,htd⟩
  ·grind [bn,toR,posR,Live,cF,fZ,fX]
  rw [h1,if_pos (show 0<=bn (toR S g).ns (posR S ⟨d,2⟩) name by rw [h2];omega),h2,Int.toNat_natCast]
  simp only
  rw [nE hI hl,if_neg (fun q=>by cases q.1)]
  by_cases h3:t.kind=2
  rotate_left
  ·rw [if_pos ⟨trivial,h3⟩,if_neg h3];exact .bad rfl (show (173:Int)≠0 by decide)
  rw [if_neg (fun q=>q.2 h3),if_pos h3]
  have hel:(gH S.O (t.k:Int) t).ah.length=(obj S.O t.k).ah.length:=List.length_map ..
  rw [hel]
  by_cases h4:(obj S.O t.k).ah=[]
  ·rw [if_neg (by rw [h4];exact fun q=>absurd q.2 (by decide)),if_pos h4]
   exact KZ hr hd h1 (S2:={ aE S d name t with O:=orphan (aE S d name t).O t.k }) rfl (fun x=>cu (g:=core) (f:=fun o=>{ o with up:=none }) (fun _=>rfl)) (fun x=>cu (g:=aN.gone) (f:=fun o=>{ o with up:=none }) (fun _=>rfl))
  rw [if_pos ⟨trivial,List.length_pos_iff.2 h4⟩,if_neg h4];exact .bad rfl (show (178:Int)≠0 by decide)
theorem OC (hr:RelR S g) (c:aH) (hop:c.op=8):cF (match d6 (toR S g) c.handle c.name 192 with|.error e=>(toR S g,0,e)|.ok d=>eM (toR S g) c d) (fI S c).1 (fI S c).2.1 0:=by
  unfold fI
  rw [lX hr]
  rcases iu hr.inv.toInv0 c.handle c.name 192 with ⟨e,h,he⟩|⟨d,h,hd,-⟩
  ·rw [h];exact .bad rfl he
  rw [h]
  simp only
  unfold eM
  rw [if_pos (.inl hop),show decide (c.op=14)=false from decide_eq_false (by omega)]
  exact RH hr hd c.name
theorem RJ (hr:RelR S g) (c:aH) (hop:c.op=14):cF (match d6 (toR S g) c.handle c.name 192 with|.error e=>(toR S g,0,e)|.ok d=>eM (toR S g) c d) (gD S c).1 (gD S c).2.1 0:=by
  unfold gD
  rw [lX hr]
  rcases iu hr.inv.toInv0 c.handle c.name 192 with ⟨e,h,he⟩|⟨d,h,hd,-⟩
  ·rw [h];exact .bad rfl he
  grind [eM,RI]
end z
end
section
open Go.RowKit Go.Maps aX aq
theorem CP {α:Type} {p q:α->Bool} (h:∀ x,p x=true->q x=true):∀ {l:List α} {a:α},a∈l->q a=true->p a=false->l.countP p < l.countP q
  | b::r,a,ha,hq,hp=>by
    rw [List.countP_cons,List.countP_cons]
    have hm:r.countP p<=r.countP q:=List.countP_mono_left (fun x _ hx=>h x hx)
    rcases List.mem_cons.1 ha with rfl|ha
    ·rw [if_pos hq,if_neg (by rw [hp];decide)];omega
    have:=CP h ha hq hp
    by_cases hb:p b=true
    ·rw [if_pos hb,if_pos (h b hb)];omega
    rw [if_neg hb];omega
theorem K1 {ns:List ay} {id:Int}:∀ n,(∀ i,i < n->¬ 0 < fw (nd ns i).ah id (nd ns i).ah.length)->kJ ns id n = -1
  | 0,_=>rfl
  | n+1,h=>by
    unfold kJ
    rw [if_neg (h n (Nat.lt_succ_self n))];exact K1 n (fun i hi=>h i (by omega))
theorem K2 {ns:List ay} {id:Int} {z:Nat} (hp:0 < fw (nd ns z).ah id (nd ns z).ah.length):∀ n,z < n->(∀ i,i < n->0 < fw (nd ns i).ah id (nd ns i).ah.length->i=z)->kJ ns id n=(z:Int)
  | n+1,hz,hu=>by
    unfold kJ
    by_cases h:0 < fw (nd ns n).ah id (nd ns n).ah.length
    ·rw [if_pos h,hu n (Nat.lt_succ_self n) h]
    rw [if_neg h]
    exact K2 hp n (by rcases Nat.lt_succ_iff_lt_or_eq.1 hz with q|q;exact q;rw [q] at hp;exact absurd hp h) (fun i hi=>hu i (by omega))
section q
variable {S S' S2:aL} {g:List Int} {t u:Th} {d to k i j:Nat} {name toName:ByteArray} {O O':bZ} {h need id z:Int} {c:aH} {R:RS} {o:aN} {n:ay}
theorem Nh (hI:Inv0 S) (hi:i < S.idx.length):0 < fw (nd (ax S) i).ah (k:Int) (nd (ax S) i).ah.length↔∃ e∈(obj S.O (fO S i).k).ah,e.2.k=k:=by
  have hl:=(Cm hI.ix hi).1
  rw [lD hi]
  show 0 < fw ((obj S.O (fO S i).k).ah.map (dK S.O)) _ ((obj S.O (fO S i).k).ah.map (dK S.O)).length↔_
  rw [List.length_map,zj (fun e he=>(hI.ob _ (hI.ah _ hl e he).2).1) _ (Nat.le_refl _),List.take_length,List.countP_pos_iff]
  grind
theorem Zb (hI:Inv0 S) (hu:Live S.idx u) (h2:u.kind=2):kJ (ax S) (u.k:Int) (ax S).length=match (obj S.O u.k).up with|none=>-1|some j=>(posR S ⟨j,2⟩:Int):=by
  have key:∀ i,i < S.idx.length->0 < fw (nd (ax S) i).ah (u.k:Int) (nd (ax S) i).ah.length->(obj S.O u.k).up=some (fO S i).k/\fO S i=⟨(fO S i).k,2⟩:=fun i hi hp=>by
    obtain⟨e,he,hek⟩:=(Nh hI hi).1 hp
    have hl:=(Cm hI.ix hi).1
    have hk2:(fO S i).kind=2:=by
      apply Classical.byContradiction
      intro hn
      have h3:=(hI.mt _ hl).ah (by rw [(hI.ob _ hl).2.1];exact hn)
      rw [h3] at he;cases he
    have ht:fO S i=⟨(fO S i).k,2⟩:=by rw [← hk2]
    have heu:e.2=u:=fQ (hI.ah _ hl e he).2 hu hek
    refine⟨(hI.up u hu _).2 ⟨h2,by rw [← ht];exact hl,e.1,?_⟩,ht⟩
    exact vH (hI.twice hl) (by rw [← heu];exact he)
  rw [fe]
  cases e:(obj S.O u.k).up with
  | none=>
    grind [K1]
  | some j=>
    obtain⟨_,hj,nm,hnm⟩:=(hI.up u hu j).1 e
    have hp:=kE hI.ix hj
    refine K2 ((Nh hI hp.2.1).2 ⟨(nm,u),?_,rfl⟩) _ hp.2.1 (fun i hi hq=>?_)
    ·rw [hp.2.2.1];exact nN hnm
    obtain⟨h3,h4⟩:=key i hi hq
    rw [e] at h3
    injection h3 with h3
    refine KO hI.ix hi hp.2.1 ?_
    rw [(Cm hI.ix hi).2,hp.2.2.2.1,← h3]
theorem RM (hI:Inv0 S) (ht:Live S.idx t) (h2:t.kind=2) (hto:Live S.idx ⟨to,2⟩):fT (ax S) (posR S t) ((ax S).length+1) (posR S ⟨to,2⟩)=true↔ox S.O t.k to:=by
  obtain⟨dp,hdp⟩:=hI.deep
  have main:∀ (f d:Nat),Live S.idx ⟨d,2⟩->S.idx.countP (fun p=>decide (dp p.2.k < dp d)) < f->(fT (ax S) (posR S t) f (posR S ⟨d,2⟩)=true↔ox S.O t.k d):=by
    intro f
    induction f with
    | zero=>intro d _ h;omega
    | succ f ih=>
      intro d hd hm
      have hp:=kE hI.ix hd
      unfold fT
      by_cases hdt:posR S ⟨d,2⟩=posR S t
      ·rw [if_pos hdt]
       have:=Na hI.ix hd ht hdt
       rw [← this]
       exact⟨fun _=>.here,fun _=>rfl⟩
      rw [if_neg hdt,hp.2.2.2.2.2]
      show (if kJ (ax S) (d:Int) (ax S).length < 0 then false else fT (ax S) (posR S t) f (kJ (ax S) (d:Int) (ax S).length).toNat)=true↔_
      have hu:kJ (ax S) (d:Int) (ax S).length=_:=Zb hI hd rfl
      have hdk:d≠t.k:=fun e=>hdt (by rw [show (⟨d,2⟩:Th)=t by rw [e,← h2]])
      cases e:(obj S.O d).up with
      | none=>
        rw [show (obj S.O (⟨d,2⟩:Th).k).up=none from e] at hu
        replace hu:kJ (ax S) (d:Int) (ax S).length = -1:=hu
        rw [hu,if_pos (by decide)]
        refine⟨fun q=>absurd q (by decide),fun q=>?_⟩
        cases q with
        | here=>exact absurd rfl hdk
        | up h3 _=>rw [e] at h3;cases h3
      | some j=>
        rw [show (obj S.O (⟨d,2⟩:Th).k).up=some j from e] at hu
        replace hu:kJ (ax S) (d:Int) (ax S).length=(posR S ⟨j,2⟩:Int):=hu
        obtain⟨_,hj,_⟩:=(hI.up _ hd j).1 e
        have hlt:=hdp d j e
        rw [hu,if_neg (by omega),Int.toNat_natCast,ih j hj (Nat.lt_of_lt_of_le (CP (p:=fun p:Int×Th=>decide (dp p.2.k < dp j)) (q:=fun p=>decide (dp p.2.k < dp d)) (fun x hx=>decide_eq_true (by have:=of_decide_eq_true hx;omega)) (get_mem hj) (decide_eq_true hlt) (decide_eq_false (Nat.lt_irrefl _))) (Nat.lt_succ_iff.1 hm))]
        refine⟨fun q=>.up e q,fun q=>?_⟩
        cases q with
        | here=>exact absurd rfl hdk
        | up h3 h4=>rw [e] at h3;injection h3 with h3;rw [h3];exact h4
  grind [fe]
end q
end
section
open Go.RowKit Go.Maps aX aq
section j
variable {S S' S2:aL} {g:List Int} {t u:Th} {d to k i j:Nat} {name toName:ByteArray} {O O':bZ} {h need id z:Int} {c:aH} {R:RS} {o:Th} {n:ay}
theorem CQ {X:FM} {x:Nat}:(obj (aG X O d name t) x).gone=(obj O x).gone:=cE (g:=aN.gone) (fun _ _=>rfl) (fun _ _=>rfl) (fun _ _ _=>rfl)
theorem Bo {X:FM} {x:Nat}:(obj (aG X O d name t) x).opens=(obj O x).opens:=cE (g:=aN.opens) (fun _ _=>rfl) (fun _ _=>rfl) (fun _ _ _=>rfl)
theorem wX {X:FM} {x:Nat}:(obj (aG X O d name t) x).id=(obj O x).id:=cE (g:=aN.id) (fun _ _=>rfl) (fun _ _=>rfl) (fun _ _ _=>rfl)
theorem CR {X:FM} {x:Nat}:(obj (br X O d name t) x).gone=(obj O x).gone:=ji (g:=aN.gone) (fun _ _=>rfl) (fun _ _=>rfl) (fun _ _ _=>rfl) (fun _ _=>rfl)
theorem Bp {X:FM} {x:Nat}:(obj (br X O d name t) x).opens=(obj O x).opens:=ji (g:=aN.opens) (fun _ _=>rfl) (fun _ _=>rfl) (fun _ _ _=>rfl) (fun _ _=>rfl)
theorem HX {X:FM} {x:Nat}:(obj (br X O d name t) x).id=(obj O x).id:=ji (g:=aN.id) (fun _ _=>rfl) (fun _ _=>rfl) (fun _ _ _=>rfl) (fun _ _=>rfl)
theorem Uu (hr:RelR S g) (hd:Live S.idx ⟨d,2⟩) (hl:aM name (obj S.O d).ah=some t):(obj S.O t.k).gone≠true:=fun h=>by
  have hI:=hr.inv.toInv0
  have hlt:=(hr.inv.ent hd hl).2
  have h2:=hI.gone t hlt h
  have h3:=hI.links t hlt
  have h4:=ny (idx:=S.idx) hd hl
  omega
theorem CS (R:RS) (d:Nat) (name:ByteArray):(bA R d name false).gone=R.gone:=by
  grind [bA]
theorem Ni {S1:aL} (hx:mA S.idx) (hi:S1.idx=S.idx) (hX:S1.X.cS=S.X.cS/\S1.X.cZ=S.X.cZ) (hns:R.ns=ax S1) (hRs:R.cS=S.X.cS/\R.cZ=S.X.cZ) (hd:Live S.idx ⟨d,2⟩) (hto:Live S.idx ⟨to,2⟩) (htd:t.k≠d) (HV:t.k≠to) (hid:(obj S1.O t.k).id=(t.k:Int))
    (hi2:S2.idx=S.idx) (hO:S2.O=br S1.X (aG S1.X S1.O d name t) to toName t) :
    (bD (bA R (posR S ⟨d,2⟩) name false) (posR S ⟨to,2⟩) toName (t.k:Int)).ns=ax S2:=by
  have hx1:mA S1.idx:=by rw [hi];exact hx
  have hd1:Live S1.idx ⟨d,2⟩:=by rw [hi];exact hd
  have kS:Live S1.idx ⟨to,2⟩:=by rw [hi];exact hto
  have hl:=uU (S:=S1) (S':={ S1 with O:=aG S1.X S1.O d name t }) (name:=name) hx1 hd1 htd rfl (fun _=>rfl)
  have he:=zi (S:={ S1 with O:=aG S1.X S1.O d name t }) (S':={ S1 with O:=br S1.X (aG S1.X S1.O d name t) to toName t }) (name:=toName) (id:=(t.k:Int)) hx1 kS HV (wX.trans hid) rfl
  grind [ax,br,aG,posR,Us,jL,jm,nd,Live,obj,bD,bA]
theorem RN (hr:RelR S g) (hd:Live S.idx ⟨d,2⟩) (hl:aM name (obj S.O d).ah=some t) (hto:Live S.idx ⟨to,2⟩) (HV:t.k≠to) :
    cF (dx (bD (bA (toR S g) (posR S ⟨d,2⟩) name false) (posR S ⟨to,2⟩) toName (t.k:Int)),0,0) 0 (lM S d name to toName t) 0:=by
  have hI:=hr.inv.toInv0
  have hlt:=(hr.inv.ent hd hl).2
  have htd:=hr.inv.ne hd hl
  obtain⟨S2,qd⟩:∃ S2,S2=lM S d name to toName t:=⟨_,rfl⟩
  have hi2:S2.idx=S.idx:=by rw [qd];rfl
  have EY:S2.O=br S.X (aG S.X S.O d name t) to toName t:=by rw [qd];rfl
  have hgo:∀ x,(obj S2.O x).gone=(obj S.O x).gone:=fun x=>by rw [EY];exact CR.trans CQ
  have hns:(bD (bA (toR S g) (posR S ⟨d,2⟩) name false) (posR S ⟨to,2⟩) toName (t.k:Int)).ns=ax S2:=Ni (S1:=S) hI.ix rfl ⟨rfl,rfl⟩ rfl ⟨rfl,rfl⟩ hd hto htd HV (hI.ob t hlt).1 hi2 EY
  have j4:(bD (bA (toR S g) (posR S ⟨d,2⟩) name false) (posR S ⟨to,2⟩) toName (t.k:Int)).gone=g:=CS (toR S g) (posR S ⟨d,2⟩) name
  have hsw:=wW (S1:=S2) (S2:=S2) (O2:=S2.O) (KT:=S.us) (R:=bD (bA (toR S g) (posR S ⟨d,2⟩) name false) (posR S ⟨to,2⟩) toName (t.k:Int)) (t:=t) (by rw [hi2];exact hI.ix) hns rfl
    (by rw [j4,hi2];exact hr.gone.same hgo) (by rw [hi2];exact hlt)
    (fun u hu _ CM=>by rw [hi2] at hu;rw [hgo] at CM;exact F9 hr hu CM)
    (by rw [EY,Bp,Bo];exact hI.opens t hlt) (by rw [EY,HX,wX];exact (hI.ob t hlt).1)
    (by unfold iB;rw [if_neg];exact fun q=>Uu hr hd hl ((hgo _).symm.trans q.1)) (fun _=>rfl) (fun _=>rfl)
  grind [Live,aM,obj,cF,dx,bD,bA,toR,posR,lM]
theorem OD {idx:Used Th} (h1:(obj O' o.k).gone=(obj O o.k).gone) (h2:(obj O' o.k).opens=(obj O o.k).opens) (h3:(obj O' o.k).id=(obj O o.k).id):iB O' idx o=iB O idx o:=by
  grind [qD,iB]
theorem RO (hr:RelR S g) (hd:Live S.idx ⟨d,2⟩) (hl:aM name (obj S.O d).ah=some t) (hto:Live S.idx ⟨to,2⟩) (HV:t.k≠to) (ho:aM toName (obj S.O to).ah=some o) :
    cF (dx (bD (bA (bA (toR S g) (posR S ⟨to,2⟩) toName true) (posR S ⟨d,2⟩) name false) (posR S ⟨to,2⟩) toName (t.k:Int)),0,0) 0 (lM (aE S to toName o) d name to toName t) 0:=by
  have hI:=hr.inv.toInv0
  have hlt:=(hr.inv.ent hd hl).2
  have hlo:=(hr.inv.ent hto ho).2
  have htd:=hr.inv.ne hd hl
  obtain⟨e1,e2,e3,e4,e5⟩:=KY hr hto ho
  obtain⟨D,hD⟩:∃ D,D=aE S to toName o:=⟨_,rfl⟩
  rw [← hD] at e1 e2 e3 e4 e5 ⊢
  obtain⟨g1,hg1⟩:∃ g1,g1=(bA (toR S g) (posR S ⟨to,2⟩) toName true).gone:=⟨_,rfl⟩
  rw [← hg1] at e1
  have hDX:D.X.cS=S.X.cS/\D.X.cZ=S.X.cZ:=by rw [hD];exact⟨rfl,rfl⟩
  obtain⟨R,hR⟩:∃ R,R=bD (bA (bA (toR S g) (posR S ⟨to,2⟩) toName true) (posR S ⟨d,2⟩) name false) (posR S ⟨to,2⟩) toName (t.k:Int):=⟨_,rfl⟩
  obtain⟨S2,qd⟩:∃ S2,S2=lM D d name to toName t:=⟨_,rfl⟩
  have EY:S2.O=br D.X (aG D.X D.O d name t) to toName t:=by rw [qd];rfl
  have hi2:S2.idx=D.idx:=by rw [qd];rfl
  have hgo:∀ x,(obj S2.O x).gone=(obj D.O x).gone:=fun x=>by rw [EY];exact CR.trans CQ
  have hop:∀ x,(obj S2.O x).opens=(obj S.O x).opens:=fun x=>by rw [EY];exact (Bp.trans Bo).trans (e4 x)
  have Zc:∀ x,(obj D.O x).id=(obj S.O x).id:=fun x=>by
    have h:=congrArg aN.id (e3 x)
    have h:(obj D.O x).id=(obj (aG S.X S.O to toName o) x).id:=h
    exact h.trans wX
  have hid:∀ x,(obj S2.O x).id=(obj D.O x).id:=fun x=>by rw [EY];exact HX.trans wX
  have hn1:(bA (toR S g) (posR S ⟨to,2⟩) toName true).ns=ax { S with O:=D.O,X:=D.X }:=
    (uU (S:=S) (S':={ S with O:=D.O,X:=D.X }) hI.ix hto (hr.inv.ne hto ho) rfl e3).symm
  have hns:R.ns=ax { S2 with idx:=S.idx }:=by
    rw [hR]
    exact Ni (S:=S) (S1:={ S with O:=D.O,X:=D.X }) (S2:={ S2 with idx:=S.idx }) hI.ix rfl hDX hn1 ⟨rfl,rfl⟩ hd hto htd HV ((Zc _).trans (hI.ob t hlt).1) rfl EY
  have j4:R.gone=g1:=by rw [hR,hg1];exact CS (bA (toR S g) (posR S ⟨to,2⟩) toName true) (posR S ⟨d,2⟩) name
  have hsw:=wW (S1:={ S2 with idx:=S.idx }) (S2:=S2) (O2:=S2.O) (KT:=S.us) (R:=R) (t:=o) hI.ix hns (by rw [hR];rfl)
    (by rw [j4];exact e1.same hgo) hlo
    (fun u hu hne CM=>by
      rw [hgo,e5 u.k (fun e=>hne (fQ hu hlo e))] at CM
      exact F9 hr hu CM)
    (by rw [hop];exact hI.opens o hlo) (by rw [hid,Zc];exact (hI.ob o hlo).1)
    (by
      rw [hi2,e2]
      exact (OD (hgo _) ((hop _).trans (e4 _).symm) (hid _)).symm) (fun _=>rfl) (fun _=>rfl)
  grind [Live,aM,obj,cF,dx,bD,bA,toR,posR,lM,aE]
theorem RP (hr:RelR S g) (hd:Live S.idx ⟨d,2⟩) (hto:Live S.idx ⟨to,2⟩) (name toName:ByteArray):cF ((eV (toR S g) (posR S ⟨d,2⟩) name (posR S ⟨to,2⟩) toName).1,0,(eV (toR S g) (posR S ⟨d,2⟩) name (posR S ⟨to,2⟩) toName).2) (bG S d name to toName).1 (bG S d name to toName).2 0:=by
  have hI:=hr.inv.toInv0
  unfold eV bG
  rcases j8 hr hd name with ⟨h1,h2⟩|⟨t,h1,h2,hl,hk,htd⟩
  ·grind [bn,toR,posR,Live,cF,eV,bG]
  rw [h1,if_pos (show 0<=bn (toR S g).ns (posR S ⟨d,2⟩) name by rw [h2];omega),h2,Int.toNat_natCast]
  simp only
  rw [nE hI hl]
  have hb:t.kind=2->(fT (toR S g).ns (posR S t) ((toR S g).ns.length+1) (posR S ⟨to,2⟩)=true↔ox S.O t.k to):=fun q=>RM hI hl q hto
  simp only [show (gH S.O (t.k:Int) t).kind=t.kind from rfl,show (gH S.O (t.k:Int) t).id=(t.k:Int) from rfl]
  by_cases h3:t.kind=2/\ox S.O t.k to
  ·grind [fT,toR,posR,Live,cF,eV,bG]
  rw [if_neg (show ¬ (t.kind=2/\fT (toR S g).ns (posR S t) ((toR S g).ns.length+1) (posR S ⟨to,2⟩)=true) from fun q=>h3 ⟨q.1,(hb q.1).1 q.2⟩),if_neg h3]
  have HV:t.k≠to:=fun e=>by
    have h4:t=⟨to,2⟩:=fQ hl hto e
    exact h3 ⟨by rw [h4],by rw [e];exact .here⟩
  rcases j8 hr hto toName with ⟨h4,h5⟩|⟨o,h4,h5,hlo,hko,hot⟩
  ·grind [bn,toR,posR,RN]
  rw [h4,h5]
  simp only
  by_cases h6:o=t
  ·rw [if_pos (by rw [h6]),if_pos h6];exact .same hr rfl
  rw [if_neg (fun q=>h6 (Na hI.ix hlo hl (by omega))),if_neg h6,if_pos (by omega),Int.toNat_natCast,nE hI hlo]
  grind [gH,RO,Live,cF,eV,toR,posR,bG]
theorem OE (hr:RelR S g) (c:aH):cF (match mK (toR S g) c 192 with|.error e=>(toR S g,0,e)|.ok (f,to)=>((eV (toR S g) f c.name to c.text).1,0,(eV (toR S g) f c.name to c.text).2)) (eO S c).1 (eO S c).2.1 0:=by
  unfold mK eO
  rw [lX hr,lX hr]
  rcases iu hr.inv.toInv0 c.handle c.name 192 with ⟨e,h,he⟩|⟨d,h,hd,-⟩
  ·rw [h];exact .bad rfl he
  rw [h]
  simp only
  rcases iu hr.inv.toInv0 c.other c.text 192 with ⟨e,h,he⟩|⟨to,h,hto,-⟩
  ·rw [h];exact .bad rfl he
  grind [RP]
end j
end
section
open Go.RowKit Go.Maps aX aq
section g
variable {S S' S2:aL} {g:List Int} {t u:Th} {d to k i j:Nat} {c:aH}
theorem cF.an {a:sU} {code an an':Int} (h:cF a code S' an) (h2:code=0->an=an'):cF a code S' an':=⟨h.1,fun q=>by obtain⟨g',h3,h4,h5⟩:=h.2 q;exact⟨g',h3,h4,h5.trans (h2 q)⟩⟩
theorem Uv (h:(cr S t).2.1≠0):(cr S t).1=0:=by
  grind [jE,kV]
def Told (c:aH) (m:qp):Prop:=m.2.2={ c with answer:=m.2.2.answer }/\(m.1≠0->m.2.2.answer=c.answer)
theorem Told.plain {m:qp} (h:m.2.2=c):Told c m:=⟨by rw [h],fun _=>by rw [h]⟩
theorem Bq (h0:c.answer=0):Told c ((cr S t).2.1,(cr S t).2.2,{ c with answer:=(cr S t).1 }):=⟨rfl,fun h=>Eq.trans (Uv (S:=S) (t:=t) h) h0.symm⟩
theorem RQ (h0:c.answer=0):Told c (iq S c):=by
  unfold iq
  split
  ·exact .plain rfl
  split
  ·exact Bq h0
  exact .plain rfl
theorem Uw (h0:c.answer=0):Told c (dG S c):=by
  unfold dG
  split
  ·exact .plain rfl
  split
  ·exact .plain rfl
  split
  ·exact .plain rfl
  exact Bq h0
theorem RR (h0:c.answer=0):Told c (dg S c):=by
  unfold dg
  split
  ·exact .plain rfl
  split
  ·exact .plain rfl
  split
  ·exact .plain rfl
  exact Bq h0
theorem L5 (h0:c.answer=0):Told c (cM S c):=by
  unfold cM
  split
  ·exact .plain rfl
  split
  ·split
   all_goals grind [kG,Told,cM]
  exact .plain rfl
theorem OG (h0:c.answer=0):Told c (dU S c):=by
  unfold dU
  split
  ·exact .plain rfl
  split
  all_goals grind [fS,Told,dU]
theorem RV (hr:RelR S g) (c:aH) (hop:¬ (c.op=11\/c.op=12)):cF (aS (toR S g) c) (eU S (c0 c)).1 (eU S (c0 c)).2.1 (eU S (c0 c)).2.2.answer/\Told (c0 c) (eU S (c0 c)):=by
  have plain:∀ {a:sU} {m:qp},m.2.2=c0 c->cF a m.1 m.2.1 0->cF a m.1 m.2.1 m.2.2.answer/\Told (c0 c) m:=fun {a m} h1 h2=>⟨h2.an (fun _=>by rw [h1]),.plain h1⟩
  unfold aS
  by_cases h1:c.op=1
  ·rw [if_pos h1,Ca (c:=c0 c) h1];exact⟨Un hr (c0 c),RQ rfl⟩
  rw [if_neg h1]
  by_cases h2:c.op=2
  ·rw [if_pos h2,Cb (c:=c0 c) h2];exact⟨LZ hr (c0 c),Uw rfl⟩
  rw [if_neg h2]
  by_cases h3:c.op=3
  ·rw [if_pos h3,El (c:=c0 c) h3];exact⟨KU hr (c0 c),RR rfl⟩
  rw [if_neg h3]
  by_cases h4:c.op=4\/c.op=5\/c.op=6\/c.op=8\/c.op=14
  ·rw [if_pos h4]
   rcases h4 with h|h|h|h|h
   ·grind [Cc,eZ,RA]
   ·rw [Em (c:=c0 c) h];exact⟨OB hr (c0 c) h,L5 rfl⟩
   ·grind [En,dZ,L4]
   ·grind [Ep,fI,OC]
   grind [AR,gD,RJ]
  rw [if_neg h4]
  by_cases h7:c.op=7
  ·grind [Eo,bT,Ut]
  rw [if_neg h7]
  by_cases h9:c.op=9
  ·rw [if_pos h9,Er (c:=c0 c) h9]
   exact⟨(Ur hr (c0 c)).an (fun q=>if_pos q),OG rfl⟩
  rw [if_neg h9]
  by_cases h10:c.op=10
  ·grind [AL,bw,Uq]
  rw [if_neg h10]
  by_cases qc:c.op=13
  ·grind [AQ,fY,Rw]
  rw [if_neg qc]
  by_cases I7:c.op=15
  ·grind [AU,eO,OE]
  grind [eU,cF,aS,toR,Told]
theorem Ux (hr:RelR S g) (c:aH):∃ g',pX (toR S g) c=(toR (iD S c).1 g',(iD S c).2)/\RelR (iD S c).1 g':=by
  unfold pX
  by_cases hop:c.op=11\/c.op=12
  ·rw [if_pos hop,Uo hr c hop];exact⟨g,rfl,hr⟩
  rw [if_neg hop]
  obtain⟨h1,h2,h3⟩:=RV hr c hop
  by_cases h0:(eU S (c0 c)).1=0
  ·rw [if_pos (h1.1.trans h0)]
   obtain⟨g',e1,e2,e3⟩:=h1.2 h0
   refine⟨g',?_,hr.inv.iD c,e2⟩
   grind [toR,eU,pX,iD]
  rw [if_neg (fun q=>h0 (h1.1.symm.trans q))]
  have hS:(iD S c).1=S:=Wy (c:=c) h0
  refine⟨g,?_,by rw [hS];exact hr⟩
  rw [hS,h1.1]
  grind [eU,pX,toR,iD]
end g
end
section
open Go.RowKit Go.Maps aX aq
section g
variable {R:RS} {d k to f:Nat} {name toName:ByteArray} {n:ay} {c:aH} {b:Bool} {id:Int}
def GL (R:RS):Prop:=R.gone.length<=4096
theorem DJ (h:R.ns.length<=4096):GL (dx R):=by
  grind [GL,dx]
theorem EZ:(bA R d name b).ns.length=R.ns.length:=List.length_set ..
theorem OI:(bD R d name id).ns.length=R.ns.length:=List.length_set ..
theorem Ga (h:GL R):GL (iC R k).1:=by unfold iC;split<;>exact h
theorem WU {bs:List UInt8} (h:GL R):GL (lP R k bs).1:=by unfold lP;(repeat' split)<;>exact h
theorem Uy (h:GL R):GL (bK R d name n).1:=by unfold bK;(repeat' split)<;>exact h
theorem Uz (h:GL R) (hn:R.ns.length<=4096):GL (fZ R d name b).1:=by
  grind [fZ,DJ,EZ]
theorem UA (h:GL R) (hn:R.ns.length<=4096):GL (eV R f name to toName).1:=by
  grind [eV,DJ,OI,EZ]
theorem K3 {w:Int} (h:GL R):GL (fN R c w).1:=by
  grind [fN,Ga]
theorem RW (h:GL R) (hn:R.ns.length<=4096):GL (eM R c d).1:=by
  grind [eM,Uz,Uy,Ga]
theorem UB (h:GL R) (hn:R.ns.length<=4096):GL (aS R c).1:=by
  unfold aS
  split
  ·grind [Ga]
  split
  ·exact K3 h
  split
  ·exact K3 h
  split
  ·split
   ·exact h
   exact RW h hn
  split
  ·unfold rP
   (repeat' split)<;>exact h
  grind [WU,jj,DJ,UA,GL,aS]
theorem WV (h:GL R) (hn:R.ns.length<=4096):GL (pX R c).1:=by
  grind [pX,UB,GL]
end g
end
section
open Go.RowKit Go.Maps aX aq
section b
variable {S:aL} {g:List Int}
theorem aaj (hr:RelR S g) (hg:g.length<=4096):RC (toR S g):=by
  have hI:=hr.inv.toInv0
  have hlen:(toR S g).ns.length=S.idx.length:=fe
  have ez:(toR S g).us.length=S.us.length:=Cn
  have hk:keys (toR S g).us=keys S.us:=ze
  have h1:=hI.len
  have h2:=hI.Az
  have h3:=hI.cH
  have h4:=hI.cN
  have h5:=hI.cB
  have h6:=hI.last
  have h7:=hI.ar
  refine⟨⟨by omega,by show g.length<=8200;omega,by omega,?_,?_⟩,KN hI.ix,fun id hid=>?_,fun i hi=>?_,⟨h4.1,h4.2,h5.1,h5.2,h3.1,h3.2,h6.1,h6.2,h7.1,h7.2⟩,by rw [hk];exact hI.usr,fun z hz=>(hI.tR z (by rw [← hk];exact hz)).1,by rw [ez];exact h2⟩
  ·have h8:=DI (g:=g) hI
   have h9:=hI.total.2
   omega
  ·have h8:=DG (g:=g) hI
   have h9:=hI.used.2
   omega
  ·have hid:id∈(qf S.us).map Prod.snd:=hid
   obtain⟨p,hp,rfl⟩:=List.mem_map.1 hid
   obtain⟨q,hq,rfl⟩:=List.mem_map.1 hp
   have hl:=(hr.inv.us q.1 q.2 (kH hI.usr hq)).1
   show 0<=fP (ax S) (q.2.k:Int)
   rw [(kE hI.ix hl).2.2.2.2.1];omega
  rw [hlen] at hi
  rw [show nd (toR S g).ns i=gH S.O (dQ S i) (fO S i) from lD hi]
  exact (hI.ob _ (Cm hI.ix hi).1).2.2
end b
end
section
open Go.RowKit Go.Maps aX aq
theorem HY {X:FM} {ns:List ay} {S:aL} (h:iF X ns ns.length 0 S) (hok:aW ns):RelR S []/\toR S []=⟨ns,[],[],0,X.cN,X.cB,X.cH,X.cS,X.cZ,nB ns ns.length⟩:=by
  refine⟨⟨h.full,⟨fun t ht=>?_,fun z hz=>by cases hz⟩⟩,?_⟩
  ·obtain⟨a,ha,e⟩:=h.of ht
   obtain⟨l,u,h1⟩:=h.ob a ha
   have hk:t.k=gE (nd ns a):=by rw [e];rfl
   rw [hk,h1]
   exact Iff.intro (fun q=>absurd q (List.not_mem_nil)) (fun q=>absurd (show false=true from q) (by decide))
  unfold toR
  rw [h.graph hok,h.us,h.ar,h.cap];rfl
end
section
open Go.RowKit
section
variable {O:bZ} {k:Nat} {kd:Int}
theorem ur (L:HL) (h:(obj O k).kind=kd) (h0:kd≠0:=by decide):∀ F w,(aF (cJ O L)).h F w->w.cell? ⟨L.b k,0,none⟩=some (.int .i64 (obj O k).id):=fD (by rw [h];exact h0) rfl
theorem wg (L:HL) (h:(obj O k).kind=kd) (h0:kd≠0:=by decide):∀ F w,(aF (cJ O L)).h F w->w.cell? ⟨L.b k,1,none⟩=some (.int .i64 (obj O k).mode):=fD (by rw [h];exact h0) rfl
theorem Co (L:HL) (h:(obj O k).kind=kd) (h0:kd≠0:=by decide):∀ F w,(aF (cJ O L)).h F w->w.cell? ⟨L.b k,2,none⟩=some (.int .i64 (obj O k).uid):=fD (by rw [h];exact h0) rfl
theorem Cp (L:HL) (h:(obj O k).kind=kd) (h0:kd≠0:=by decide):∀ F w,(aF (cJ O L)).h F w->w.cell? ⟨L.b k,3,none⟩=some (.int .i64 (obj O k).gid):=fD (by rw [h];exact h0) rfl
theorem p8 (L:HL) (h:(obj O k).kind=kd) (h0:kd≠0:=by decide):∀ F w,(aF (cJ O L)).h F w->w.cell? ⟨L.b k,6,none⟩=some (.int .i64 (obj O k).links):=fD (by rw [h];exact h0) rfl
theorem lY (L:HL) (h:(obj O k).kind=kd) (h0:kd≠0:=by decide):∀ F w,(aF (cJ O L)).h F w->w.cell? ⟨L.b k,7,none⟩=some (.int .i64 (obj O k).opens):=fD (by rw [h];exact h0) rfl
theorem rU (L:HL) (h:(obj O k).kind=kd) (h0:kd≠0:=by decide):∀ F w,(aF (cJ O L)).h F w->w.cell? ⟨L.b k,8,none⟩=some (.bool (obj O k).gone):=fD (by rw [h];exact h0) rfl
theorem K5 (L:HL) (h:(obj O k).kind=1):∀ F w,(aF (cJ O L)).h F w->w.cell? ⟨L.b k,9,none⟩=some (.slice (L.dA k) (obj O k).data.length (L.dC k)):=fD (by rw [h];decide) (by rw [jD h];rfl)
theorem bS (L:HL) (h:(obj O k).kind=2):∀ F w,(aF (cJ O L)).h F w->w.cell? ⟨L.b k,9,none⟩=some (.map (some (L.m k))):=fD (by rw [h];decide) (by rw [nW h];rfl)
theorem abm (L:HL) (h:(obj O k).kind=2):∀ F w,(aF (cJ O L)).h F w->w.cell? ⟨L.b k,10,none⟩=some (D8 L (obj O k).up):=fD (by rw [h];decide) (by rw [nW h];rfl)
theorem aak (L:HL) (h:(obj O k).kind=3):∀ F w,(aF (cJ O L)).h F w->w.cell? ⟨L.b k,9,none⟩=some (.string (obj O k).target):=fD (by rw [h];decide) (by rw [Al h];rfl)
end
end
section
open Go.RowKit Go.Maps
theorem aF.step {R R':Nat->ct} {k:Nat} {F:Fp} {w w':World} (hF:(aF R).h F w) (hR:∀ x,x≠k->R' x=R x) (hs:∀ G,(R k).h G w->∃ G',(R' k).h G' w'/\Step G w G' w'):∃ F',(aF R').h F' w'/\Step F w F' w':=by
  obtain⟨φ,h1,h2,h3⟩:=hF
  obtain⟨G',g1,st⟩:=hs _ (h1 k)
  have hap:∀ i,i≠k->∀ x,G' x->φ i x->False:=fun i hne x hx hy=>by
    rcases st.grow x hx with e|e
    ·exact h2 i k hne x hy e
    have:=(R i).lt (h1 i) x hy;omega
  refine⟨fun x=>∃ i,(if i=k then G' else φ i) x,⟨fun i=>if i=k then G' else φ i,fun i=>?_,fun i j hne x hx hy=>?_,fun x=>Iff.rfl⟩,⟨st.keeps.mono (fun x _ hx=>(h3 x).2 ⟨k,hx⟩),fun x ⟨i,hx⟩=>?_⟩⟩
  ·by_cases e:i=k
   ·subst e;simp only [if_true];exact g1
   simp only [e,if_false]
   rw [hR i e]
   exact (R i).st (h1 i) st.keeps (fun x hx hk=>h2 i k e x hx hk)
  ·by_cases e1:i=k
   ·grind
   simp only [e1,if_false] at hx
   by_cases e2:j=k
   ·grind
   simp only [e2,if_false] at hy
   exact h2 i j hne x hx hy
  by_cases e:i=k
  ·simp only [e,if_true] at hx
   rcases st.grow x hx with h|h
   ·exact .inl ((h3 x).2 ⟨k,h⟩)
   exact .inr h
  grind
def Gb (O:bZ) (L:HL):Nat->HP
  | 0=>.abs (aF (cJ O L))
  | 1=>.abs (aF (dL O L))
  | _=>.abs (aF (bX O L))
def sY (O:bZ) (L:HL):List (Nat×Nat)->List (Nat×HP)
  | []=>[]
  | q::r=>(q.1,Gb O L q.2)::sY O L r
def wY (hps:List HP) (O:bZ) (L:HL):List (Nat×Nat)->Prop
  | []=>True
  | q::r=>hps[q.1]?=some (Gb O L q.2)/\wY hps O L r
theorem xZ {hps:List HP} {O O2:bZ} {L:HL} {p:Nat} (he:∀ q,q≠p->Gb O2 L q=Gb O L q):∀ {js:List (Nat×Nat)},wY hps O L js->jk p (js.map (·.2))=false->pN hps (sY O2 L js)=hps
  | [],_,_=>rfl
  | q::r,h,hn=>by
    have hq:q.2≠p:=fun e=>by
      rw [show jk p ((q::r).map (·.2))=true from jo.2 (by simp [e])] at hn;cases hn
    have hr:jk p (r.map (·.2))=false:=by
      cases hb:jk p (r.map (·.2)) with
      | false=>rfl
      | true=>rw [show jk p ((q::r).map (·.2))=true from jo.2 (List.mem_cons_of_mem _ (jo.1 hb))] at hn;cases hn
    show pN (hps.set q.1 (Gb O2 L q.2)) (sY O2 L r)=hps
    have e:hps.set q.1 (Gb O2 L q.2)=hps:=by
      rw [he _ hq]
      refine List.ext_getElem? (fun n=>?_)
      rw [List.getElem?_set]
      split
      ·rename_i e;subst e
       rw [h.1];split
       ·rfl
       rename_i hlt;exact absurd (bN h.1) hlt
      rfl
    rw [e]
    exact xZ he h.2 hr
def E0 (P:Program) (N:di) (junk:Nat->Value) (ops:Array Oper) (fr:Fr) (k:Nat):Option (Addr×Value):=
  match eX N junk ops fr k with
  | some (.store T a y,_)=>match (P.info? T).map (·.size) with
    | some 1=>match cQ N fr junk a with
      | .pointer (some ad)=>some (ad,cQ N fr junk y)
      | _=>none
    | _=>none
  | _=>none
def E4 (N:di) (junk:Nat->Value) (ops:Array Oper) (fr:Fr) (k:Nat):Option (TypeId×Nat×Value):=
  match eX N junk ops fr k with
  | some (.lookup t x ix false,_)=>match cQ N fr junk x with
    | .map (some b)=>some (t,b,cQ N fr junk ix)
    | _=>none
  | _=>none
def setAt (N:di) (junk:Nat->Value) (ops:Array Oper) (fr:Fr) (k:Nat):Option (TypeId×Nat×Value×Value):=
  match eX N junk ops fr k with
  | some (.mapUpdate t x ix y,_)=>match cQ N fr junk x with
    | .map (some b)=>some (t,b,cQ N fr junk ix,cQ N fr junk y)
    | _=>none
  | _=>none
def OJ (N:di) (junk:Nat->Value) (ops:Array Oper) (fr:Fr) (k:Nat):Option (TypeId×TypeId×Nat×Value):=
  match eX N junk ops fr k with
  | some (.call ⟨.builtin .delete,xs,ts⟩,_)=>match xs.toList with
    | [x,ix]=>match ts.toList with
      | [t,K]=>match cQ N fr junk x with
        | .map (some b)=>some (t,K,b,cQ N fr junk ix)
        | _=>none
      | _=>none
    | _=>none
  | _=>none
def K6 (L:HL):Option Th->Value
  | none=>.nilIface
  | some t=>eT L t
section rules
variable {β:Bs} {N:di} {ops:Array Oper} {k x:Nat} {fr:Fr} {hps:List HP} {Q:Post} {O:bZ} {L:HL} {name:ByteArray} {r:Option Th} {t:Th}
theorem x3 {junk:Nat->Value} {op:Op} {d:Option Tmp} (h:eX N junk ops fr k=some (op,d)):d=gj ops k:=by
  grind [fk,gj]
theorem K7 {P:Program} {junk:Nat->Value} {ad:Addr} {u:Value} (h:E0 P N junk ops fr k=some (ad,u)):∃ T a y,eX N junk ops fr k=some (.store T a y,gj ops k)/\(P.info? T).map (·.size)=some 1/\cQ N fr junk a=.pointer (some ad)/\cQ N fr junk y=u:=by
  grind [E0,x3]
theorem rz {junk:Nat->Value} {T:TypeId} {b:Nat} {key:Value} (h:E4 N junk ops fr k=some (T,b,key)):∃ a y,eX N junk ops fr k=some (.lookup T a y false,gj ops k)/\cQ N fr junk a=.map (some b)/\cQ N fr junk y=key:=by
  grind [E4,x3]
theorem UC {junk:Nat->Value} {T:TypeId} {b:Nat} {key u:Value} (h:setAt N junk ops fr k=some (T,b,key,u)):∃ a y z,eX N junk ops fr k=some (.mapUpdate T a y z,gj ops k)/\cQ N fr junk a=.map (some b)/\cQ N fr junk y=key/\cQ N fr junk z=u:=by
  grind [setAt,x3]
theorem RX {P:Program} {T:TypeId} {a y:Operand} {o:Oper} {ev:Operand->Value} {w:World} {ad:Addr} {u v0:Value} (ho:o.op=.store T a y) (hT:(P.info? T).map (·.size)=some 1) (ha:ev a=.pointer (some ad)) (hy:ev y=u) (hu:u.oneCell'=true) (hc:w.cell? ad=some v0) (hf:w.frozen? ad=false) (hs:ad.spot=none):oL P ev o w undef (w.setCell ad u):=by
  obtain⟨inf,hi,hsz⟩:∃ inf,P.info? T=some inf/\inf.size=1:=by
    cases h:P.info? T with
    | none=>rw [h] at hT;cases hT
    | some inf=>rw [h] at hT;exact⟨inf,rfl,by simpa using hT⟩
  have h3:=mW hi w
  rw [hsz] at h3
  obtain⟨dst,op,type,pos,after,guard⟩:=o
  obtain⟨bk,off,spot⟩:=ad
  simp only at hs
  subst hs
  cases ho
  refine .inr ⟨rfl,?_⟩
  cases u<;>first
    | (simp [Value.oneCell'] at hu;done)
    | (simp only [execOp,ha,hy];simp [go_sem,Instr.storeAt,Instr.sureAddr,storeVar,h3,Value.cells,storeCells,store,Addr.add,Sem.run,hc,hf])
theorem oSt (i:Nat) (js:List (Nat×Nat)) (x j:Nat) (f:aN->aN) (u:Value) {kd:Int} (hk:(obj O x).kind=kd)
    (K:∀ O2,O2=aD O x f->ak Tryz.prog β N ops (k+1) (cO fr (gj ops k) undef) ((pN hps (sY O2 L js)).set i (.abs (aF (cJ O2 L)))) Q)
    (hp:hps[i]?=some (.abs (aF (cJ O L)))) (hj:wY hps O L js)
    (ho:∀ junk,E0 Tryz.prog N junk ops fr k=some (⟨L.b x,j,none⟩,u))
    (hn:jk 0 (js.map (·.2))=false) (h0:kd≠0) (hc:iP L x (f (obj O x))=(iP L x (obj O x)).set j u) (hu:u.oneCell'=true) (h9:j < (iP L x (obj O x)).length)
    (he:(f (obj O x)).ah=(obj O x).ah) (hd:(f (obj O x)).data=(obj O x).data) (E5:(f (obj O x)).kind=(obj O x).kind):ak Tryz.prog β N ops k fr hps Q:=by
  obtain⟨T,a,y,h1,h2,h3,h4⟩:=K7 (ho (fun _=>undef))
  intro junk w hS
  obtain⟨T,a,y,h1,h2,h3,h4⟩:=K7 (ho junk)
  obtain⟨o,g1,g2,g3,g4⟩:=fk h1
  have hx0:(obj O x).kind≠0:=by rw [hk];exact h0
  have K8:pN hps (sY (aD O x f) L js)=hps:=xZ (p:=0) (fun q hq=>by
    match q,hq with
    | 0,hq=>exact absurd rfl hq
    | 1,_=>exact congrArg (fun R=>HP.abs (aF R)) (pU he E5)
    | q+2,_=>exact congrArg (fun R=>HP.abs (aF R)) (pR hd E5)) hj hn
  have hcell:∃ v0,(iP L x (obj O x))[j]?=some v0:=jb h9
  obtain⟨v0,hv0⟩:=hcell
  obtain⟨F,hF⟩:=hS.get hp
  obtain⟨G,hG⟩:=aF.at x hF
  have hG2:=hG
  rw [nV hx0] at hG2
  obtain⟨hb,_⟩:=hG2
  obtain⟨c1,c2⟩:=jc (a:=⟨L.b x,j,none⟩) hb rfl rfl hv0
  have qd:Sat β (hps.set i (.abs (aF (cJ (aD O x f) L)))) (w.setCell ⟨L.b x,j,none⟩ (u)):=hS.set hp (fun F hF=>aF.step (k:=x) (show (aF (cJ O L)).h F w from hF) (fun y hy=>xT hy) (fun G hG=>by
    rw [nV hx0] at hG
    rw [xS,if_neg (by rw [E5];exact hx0),hc,E5]
    exact vm hG rfl rfl))
  rw [drop_cons g1]
  unfold wpList
  rw [dY,if_pos g2]
  refine .inl (lZ (v:=undef) (w':=w.setCell ⟨L.b x,j,none⟩ (u)) (by rw [eW];exact RX g3 h2 h3 h4 hu c1 c2 rfl) ?_)
  rw [dR]
  have hK:=K _ rfl junk _ (by rw [K8];exact qd)
  rw [← g4] at hK
  exact hK
theorem wh (i:Nat) (js:List (Nat×Nat)) (x j:Nat) (f:aN->aN) {kd:Int} (hk:(obj O x).kind=kd)
    (K:∀ O2,O2=aD O x f->ak Tryz.prog β N ops (k+1) (cO fr (gj ops k) undef) ((pN hps (sY O2 L js)).set i (.abs (aF (cJ O2 L)))) Q)
    (hp:hps[i]?=some (.abs (aF (cJ O L))):=by rfl) (hj:wY hps O L js:=by first|exact⟨rfl,trivial⟩|exact⟨rfl,rfl,trivial⟩|exact trivial)
    (ho:∀ junk,E0 Tryz.prog N junk ops fr k=some (⟨L.b x,j,none⟩,(BQ (f (obj O x))).getD j undef):=by intro _;kernel_rfl)
    (hn:jk 0 (js.map (·.2))=false:=by rfl) (h0:kd≠0:=by decide) (hc:iP L x (f (obj O x))=(iP L x (obj O x)).set j ((BQ (f (obj O x))).getD j undef):=by rfl) (hu:((BQ (f (obj O x))).getD j undef).oneCell'=true:=by rfl) (h9:Nat.blt j 9=true:=by rfl)
    (he:(f (obj O x)).ah=(obj O x).ah:=by rfl) (hd:(f (obj O x)).data=(obj O x).data:=by rfl) (E5:(f (obj O x)).kind=(obj O x).kind:=by rfl):ak Tryz.prog β N ops k fr hps Q:=
  oSt i js x j f _ hk K hp hj ho hn h0 hc hu (Nat.lt_of_lt_of_le (show j < 9 by simpa [Nat.blt_eq] using h9) (by unfold iP BQ;simp)) he hd E5
theorem uSt (i:Nat) (js:List (Nat×Nat)) (x:Nat) (y:Option Nat) (hk:(obj O x).kind=2)
    (K:∀ O2,O2=aD O x (fun o=>{ o with up:=y })->ak Tryz.prog β N ops (k+1) (cO fr (gj ops k) undef) ((pN hps (sY O2 L js)).set i (.abs (aF (cJ O2 L)))) Q)
    (hp:hps[i]?=some (.abs (aF (cJ O L))):=by rfl) (hj:wY hps O L js:=by first|exact⟨rfl,trivial⟩|exact⟨rfl,rfl,trivial⟩|exact trivial)
    (ho:∀ junk,E0 Tryz.prog N junk ops fr k=some (⟨L.b x,10,none⟩,D8 L y):=by intro _;kernel_rfl) (hn:jk 0 (js.map (·.2))=false:=by rfl):ak Tryz.prog β N ops k fr hps Q:=
  oSt i js x 10 (fun o=>{ o with up:=y }) (D8 L y) hk K hp hj ho hn (by decide) (by rw [nW (show ({ obj O x with up:=y }:aN).kind=2 from hk),nW hk];rfl) (by cases y<;>rfl) (by rw [nW hk];exact Nat.lt_succ_self 10) rfl rfl rfl
theorem Sat.VT {w:World} {i j:Nat} {f:aN->aN} {u:Value} (hS:Sat β hps w) (hp:hps[i]?=some (.abs (aF (cJ O L)))) (hx0:(obj O x).kind≠0) (hc:iP L x (f (obj O x))=(iP L x (obj O x)).set j u) (E5:(f (obj O x)).kind=(obj O x).kind) (h9:j < (iP L x (obj O x)).length) :
    Sat β (hps.set i (.abs (aF (cJ (aD O x f) L)))) (w.setCell ⟨L.b x,j,none⟩ u)/\(∃ v0,w.cell? ⟨L.b x,j,none⟩=some v0)/\w.frozen? ⟨L.b x,j,none⟩=false:=by
  obtain⟨v0,hv0⟩:=jb h9
  obtain⟨F,hF⟩:=hS.get hp
  obtain⟨G,hG⟩:=aF.at x (show (aF (cJ O L)).h F w from hF)
  rw [nV hx0] at hG
  obtain⟨c1,c2⟩:=jc (a:=⟨L.b x,j,none⟩) hG.1 rfl rfl hv0
  refine⟨hS.set hp (fun F hF=>aF.step (k:=x) (show (aF (cJ O L)).h F w from hF) (fun y hy=>xT hy) (fun G hG=>?_)),⟨v0,c1⟩,c2⟩
  rw [nV hx0] at hG
  rw [xS,if_neg (by rw [E5];exact hx0),hc,E5]
  exact vm hG rfl rfl
def K9 (P:Program) (N:di) (junk:Nat->Value) (ops:Array Oper) (fr:Fr) (k:Nat):Option (Addr×Value):=
  match eX N junk ops fr k with
  | some (.store T a y,_)=>match (P.info? T).map (·.size) with
    | some 2=>match cQ N fr junk a with
      | .pointer (some ad)=>some (ad,cQ N fr junk y)
      | _=>none
    | _=>none
  | _=>none
theorem RY {P:Program} {junk:Nat->Value} {ad:Addr} {u:Value} (h:K9 P N junk ops fr k=some (ad,u)):∃ T a y,eX N junk ops fr k=some (.store T a y,gj ops k)/\(P.info? T).map (·.size)=some 2/\cQ N fr junk a=.pointer (some ad)/\cQ N fr junk y=u:=by
  grind [K9,x3]
theorem OL {P:Program} {T:TypeId} {a y:Operand} {o:Oper} {ev:Operand->Value} {w:World} {b j:Nat} {z1 z2:Int} {v0 v1:Value} (ho:o.op=.store T a y) (hT:(P.info? T).map (·.size)=some 2) (ha:ev a=.pointer (some ⟨b,j,none⟩)) (hy:ev y=.agg #[.int .i64 z1,.int .i64 z2])
    (hc:w.cell? ⟨b,j,none⟩=some v0) (hf:w.frozen? ⟨b,j,none⟩=false) (hc1:(w.setCell ⟨b,j,none⟩ (.int .i64 z1)).cell? ⟨b,j+1,none⟩=some v1) (hf1:(w.setCell ⟨b,j,none⟩ (.int .i64 z1)).frozen? ⟨b,j+1,none⟩=false) :
    oL P ev o w undef ((w.setCell ⟨b,j,none⟩ (.int .i64 z1)).setCell ⟨b,j+1,none⟩ (.int .i64 z2)):=by
  obtain⟨inf,hi,hsz⟩:∃ inf,P.info? T=some inf/\inf.size=2:=by
    cases h:P.info? T with
    | none=>rw [h] at hT;cases hT
    | some inf=>rw [h] at hT;exact⟨inf,rfl,by simpa using hT⟩
  have h3:=mW hi w
  rw [hsz] at h3
  obtain⟨dst,op,type,pos,after,guard⟩:=o
  cases ho
  refine .inr ⟨rfl,?_⟩
  simp only [execOp,ha,hy]
  simp [go_sem,Instr.storeAt,Instr.sureAddr,storeVar,h3,Value.cells,storeCells,store,Addr.add,Sem.run,hc,hf,hc1,hf1]
theorem RZ (i:Nat) (js:List (Nat×Nat)) (x:Nat) (z1 z2:Int) {kd:Int} (hk:(obj O x).kind=kd)
    (K:∀ O2,O2=aD O x (fun o=>{ o with sec:=z1,nano:=z2 })->ak Tryz.prog β N ops (k+1) (cO fr (gj ops k) undef) ((pN hps (sY O2 L js)).set i (.abs (aF (cJ O2 L)))) Q)
    (hp:hps[i]?=some (.abs (aF (cJ O L))):=by rfl) (hj:wY hps O L js:=by first|exact⟨rfl,trivial⟩|exact⟨rfl,rfl,trivial⟩|exact trivial)
    (ho:∀ junk,K9 Tryz.prog N junk ops fr k=some (⟨L.b x,4,none⟩,.agg #[.int .i64 z1,.int .i64 z2]):=by intro _;kernel_rfl)
    (hn:jk 0 (js.map (·.2))=false:=by rfl) (h0:kd≠0:=by decide):ak Tryz.prog β N ops k fr hps Q:=by
  intro junk w hS
  obtain⟨T,a,y,h1,h2,h3,h4⟩:=RY (ho junk)
  obtain⟨o,g1,g2,g3,g4⟩:=fk h1
  have hx0:(obj O x).kind≠0:=by rw [hk];exact h0
  have K8:pN hps (sY (aD O x (fun o=>{ o with sec:=z1,nano:=z2 })) L js)=hps:=xZ (p:=0) (fun q hq=>by
    match q,hq with
    | 0,hq=>exact absurd rfl hq
    | 1,_=>exact congrArg (fun R=>HP.abs (aF R)) (pU rfl rfl)
    | q+2,_=>exact congrArg (fun R=>HP.abs (aF R)) (pR rfl rfl)) hj hn
  have hlen:∀ o:aN,9<=(iP L x o).length:=fun o=>by unfold iP BQ;simp
  obtain⟨s1,⟨v0,c1⟩,f1⟩:=hS.VT (x:=x) (j:=4) (f:=fun o=>{ o with sec:=z1 }) (u:=.int .i64 z1) hp hx0 rfl rfl (by have:=hlen (obj O x);omega)
  have hi:i < hps.length:=bN hp
  have e1:obj (aD O x (fun o=>{ o with sec:=z1 })) x={ obj O x with sec:=z1 }:=cV
  obtain⟨s2,⟨v1,c2⟩,f2⟩:=s1.VT (x:=x) (j:=5) (f:=fun o=>{ o with nano:=z2 }) (u:=.int .i64 z2) (i:=i) (O:=aD O x (fun o=>{ o with sec:=z1 })) (by rw [List.getElem?_set,if_pos rfl,if_pos hi]) (by rw [e1];exact hx0) rfl rfl (by have:=hlen (obj (aD O x (fun o=>{ o with sec:=z1 })) x);omega)
  rw [List.set_set,wA] at s2
  rw [drop_cons g1]
  unfold wpList
  rw [dY,if_pos g2]
  refine .inl (lZ (v:=undef) (w':=_) (by rw [eW];exact OL g3 h2 h3 h4 c1 f1 c2 f2) ?_)
  rw [dR]
  have hK:=K _ rfl junk _ (by rw [K8];exact s2)
  rw [← g4] at hK
  exact hK
theorem Cq {w:World} {i:Nat} (hS:Sat β hps w) (hp:hps[i]?=some (.abs (aF (dL O L)))) (hd:(obj O x).kind=2):gX Tryz.prog 9 w (L.m x) (jJ L (obj O x).ah) (obj O x).ah.length:=by
  obtain⟨F,hF⟩:=hS.get hp
  obtain⟨G,hG⟩:=aF.at x (show (aF (dL O L)).h F w from hF)
  rw [qW hd] at hG
  exact hG.1
theorem Nj {w:World} {i:Nat} {o:Oper} {ev:Operand->Value} {a y:Operand} (hS:Sat β hps w) (hp:hps[i]?=some (.abs (aF (dL O L)))) (hd:(obj O x).kind=2) (hl:aM name (obj O x).ah=r) (h3:o.op=.lookup 95 a y false) (ha:ev a=.map (some (L.m x))) (hy:ev y=.string name) (hsz:name.size<=1048576):oL Tryz.prog ev o w (K6 L r) w:=by
  have h:=yj (z:=.nilIface) h3 (Cq hS hp hd) ha hy Df Tryz.underlying95 (by kernel_rfl) (Fo (by omega))
  rw [uW,hl] at h
  cases r<;>exact h
theorem lH (i:Nat) (hd:(obj O x).kind=2) (hl:aM name (obj O x).ah=r) (K:ak Tryz.prog β N ops (k+1) (cO fr (gj ops k) (K6 L r)) hps Q) (hp:hps[i]?=some (.abs (aF (dL O L))):=by rfl)
    (ho:∀ junk,E4 N junk ops fr k=some (95,L.m x,.string name):=by intro _;kernel_rfl) (hsz:name.size<=1048576:=by omega):ak Tryz.prog β N ops k fr hps Q:=by
  intro junk w hS
  obtain⟨a,y,h1,h2,h3⟩:=rz (ho junk)
  exact ak.jX (dX:=hps) (v:=K6 L r) (d:=gj ops k) (op:=.lookup 95 a y false) (fun j=>by
    obtain⟨a',y',h1',_,_⟩:=rz (ho j)
    obtain⟨o,g1,g2,g3,g4⟩:=fk h1
    obtain⟨o',wZ,VU,x5,VW⟩:=fk h1'
    rw [g1] at wZ
    cases wZ
    rw [g3] at x5
    cases x5
    exact h1') (fun o junk w ho' hS=>by
    obtain⟨a',y',h1',h2',h3'⟩:=rz (ho junk)
    obtain⟨o1,g1,g2,g3,g4⟩:=fk h1
    obtain⟨o',wZ,VU,x5,VW⟩:=fk h1'
    rw [g1] at wZ
    cases wZ
    rw [g3] at x5
    cases x5
    exact⟨w,Nj hS hp hd hl ho' h2' h3' hsz,hS⟩) K junk w hS
theorem uH (i:Nat) (hd:(obj O x).kind=2) (hl:aM name (obj O x).ah=r) (K:aV Tryz.prog β N ops (k+1) (cO fr (gj ops k) (K6 L r)) hps Q) (hp:hps[i]?=some (.abs (aF (dL O L))):=by rfl)
    (ho:∀ junk,E4 N junk ops fr k=some (95,L.m x,.string name):=by intro _;kernel_rfl) (hsz:name.size<=1048576:=by omega):aV Tryz.prog β N ops k fr hps Q:=by
  intro junk
  obtain⟨a,y,h1,h2,h3⟩:=rz (ho junk)
  exact aV.jX (v:=K6 L r) (d:=gj ops k) (op:=.lookup 95 a y false) (fun j=>by
    obtain⟨a',y',h1',_,_⟩:=rz (ho j)
    obtain⟨o,g1,g2,g3,g4⟩:=fk h1
    obtain⟨o',wZ,VU,x5,VW⟩:=fk h1'
    rw [g1] at wZ
    cases wZ
    rw [g3] at x5
    cases x5
    exact h1') (fun o junk w ho' hS=>by
    obtain⟨a',y',h1',h2',h3'⟩:=rz (ho junk)
    obtain⟨o1,g1,g2,g3,g4⟩:=fk h1
    obtain⟨o',wZ,VU,x5,VW⟩:=fk h1'
    rw [g1] at wZ
    cases wZ
    rw [g3] at x5
    cases x5
    exact Nj hS hp hd hl ho' h2' h3' hsz) K junk
def OM (N:di) (junk:Nat->Value) (ops:Array Oper) (fr:Fr) (k:Nat):Option (TypeId×Nat):=
  match eX N junk ops fr k with
  | some (.call ⟨.builtin .len,xs,ts⟩,_)=>match xs.toList with
    | [x]=>match ts.toList with
      | [t]=>match cQ N fr junk x with
        | .map (some b)=>some (t,b)
        | _=>none
      | _=>none
    | _=>none
  | _=>none
theorem DK {junk:Nat->Value} {T:TypeId} {b:Nat} (h:OM N junk ops fr k=some (T,b)):∃ a,eX N junk ops fr k=some (.call ⟨.builtin .len,#[a],#[T]⟩,gj ops k)/\cQ N fr junk a=.map (some b):=by
  unfold OM at h
  repeat' split at h
  all_goals first|(cases h;done)|skip
  rename_i xs ts d h0 _ a h1 _ t' h2 _ b' h3
  cases h
  have:=x3 h0
  subst this
  refine⟨a,?_,h3⟩
  rw [h0]
  obtain⟨xs⟩:=xs
  obtain⟨ts⟩:=ts
  cases h1
  cases h2
  rfl
theorem eNk (i:Nat) (hd:(obj O x).kind=2) (K:ak Tryz.prog β N ops (k+1) (cO fr (gj ops k) (.int .i64 (((obj O x).ah.length:Nat):Int))) hps Q) (hp:hps[i]?=some (.abs (aF (dL O L))):=by rfl)
    (ho:∀ junk,OM N junk ops fr k=some (95,L.m x):=by intro _;kernel_rfl):ak Tryz.prog β N ops k fr hps Q:=by
  obtain⟨a,h1,h2⟩:=DK (ho (fun _=>undef))
  obtain⟨o,g1,g2,g3,g4⟩:=fk h1
  refine ak.jX (dX:=hps) (v:=.int .i64 (((obj O x).ah.length:Nat):Int)) (d:=gj ops k) (op:=o.op) (fun j=>?_) (fun o' junk w ho' hS=>?_) K
  ·obtain⟨a',h1',_⟩:=DK (ho j)
   grind [fk]
  obtain⟨a',h1',h2'⟩:=DK (ho junk)
  obtain⟨o1,wZ,VU,x5,VW⟩:=fk h1'
  rw [g1] at wZ
  cases wZ
  exact⟨w,BM (ho'.trans x5) rfl (Cq hS hp hd) h2' Tryz.underlying95,hS⟩
theorem Zd (i:Nat) (js:List (Nat×Nat)) {t:Th} (hd:(obj O x).kind=2) (hno:aM name (obj O x).ah=none)
    (K:∀ O2,O2=aD O x (fun o=>{ o with ah:=gV name t o.ah })->ak Tryz.prog β N ops (k+1) (cO fr (gj ops k) undef) ((pN hps (sY O2 L js)).set i (.abs (aF (dL O2 L)))) Q)
    (hp:hps[i]?=some (.abs (aF (dL O L))):=by rfl) (hj:wY hps O L js:=by first|exact⟨rfl,trivial⟩|exact⟨rfl,rfl,trivial⟩|exact trivial)
    (ho:∀ junk,setAt N junk ops fr k=some (95,L.m x,.string name,eT L t):=by intro _;kernel_rfl) (hn:jk 1 (js.map (·.2))=false:=by rfl) (hsz:name.size<=1048576:=by omega) (hel:(obj O x).ah.length<=1048576:=by omega):ak Tryz.prog β N ops k fr hps Q:=by
  intro junk w hS
  obtain⟨a,y,z,h1,h2,h3,h4⟩:=UC (ho junk)
  obtain⟨o,g1,g2,g3,g4⟩:=fk h1
  have K8:pN hps (sY (aD O x (fun o=>{ o with ah:=gV name t o.ah })) L js)=hps:=xZ (p:=1) (fun q hq=>by
    match q,hq with
    | 0,_=>exact congrArg (fun R=>HP.abs (aF R)) (Jl (es:=fun o=>gV name t o.ah))
    | 1,hq=>exact absurd rfl hq
    | q+2,_=>exact congrArg (fun R=>HP.abs (aF R)) (pR rfl rfl)) hj hn
  obtain⟨w',m1,m2,m3⟩:=(Cq hS hp hd).store Df Tryz.underlying95 (by unfold maxLen;omega) (Fo (p:=name) (by omega)) (eT L t)
  have e1:(jJ L (obj O x).ah) (.string name.data.toList)=none:=by rw [uW,hno];rfl
  rw [e1,SQ hno] at m2
  have qd:Sat β (hps.set i (.abs (aF (dL (aD O x (fun o=>{ o with ah:=gV name t o.ah })) L)))) w':=hS.set hp (fun F hF=>aF.step (k:=x) (show (aF (dL O L)).h F w from hF) (fun y hy=>Aj hy) (fun G hG=>by
    rw [qW hd] at hG
    rw [qW (by rw [cV];exact hd),cV,Jj]
    exact step_map hG m2 m3))
  rw [drop_cons g1]
  unfold wpList
  rw [dY,if_pos g2]
  refine .inl (lZ (v:=undef) (w':=w') (by
    rw [eW]
    refine .inr ⟨rfl,?_⟩
    obtain⟨dst,op,type,pos,after,guard⟩:=o
    cases g3
    simp only [execOp,h2,h3,h4]
    simp [go_sem,m1]) ?_)
  rw [dR]
  have hK:=K _ rfl junk _ (by rw [K8];exact qd)
  rw [← g4] at hK
  exact hK
theorem UD {junk:Nat->Value} {T K0:TypeId} {b:Nat} {key:Value} (h:OJ N junk ops fr k=some (T,K0,b,key)):∃ a y,eX N junk ops fr k=some (.call ⟨.builtin .delete,#[a,y],#[T,K0]⟩,gj ops k)/\cQ N fr junk a=.map (some b)/\cQ N fr junk y=key:=by
  unfold OJ at h
  repeat' split at h
  all_goals first|(cases h;done)|skip
  rename_i xs ts d h0 _ a y h1 _ t' K' h2 _ b' h3
  cases h
  have:=x3 h0
  subst this
  refine⟨a,y,?_,h3,rfl⟩
  rw [h0]
  obtain⟨xs⟩:=xs
  obtain⟨ts⟩:=ts
  cases h1
  cases h2
  rfl
theorem Ze (i:Nat) (js:List (Nat×Nat)) {t:Th} (hd:(obj O x).kind=2) (zk:aM name (obj O x).ah=some t) (hnt:lW (obj O x).ah)
    (K:∀ O2,O2=aD O x (fun o=>{ o with ah:=gZ name o.ah })->ak Tryz.prog β N ops (k+1) (cO fr (gj ops k) (.tuple #[])) ((pN hps (sY O2 L js)).set i (.abs (aF (dL O2 L)))) Q)
    (hp:hps[i]?=some (.abs (aF (dL O L))):=by rfl) (hj:wY hps O L js:=by first|exact⟨rfl,trivial⟩|exact⟨rfl,rfl,trivial⟩|exact trivial)
    (ho:∀ junk,OJ N junk ops fr k=some (95,9,L.m x,.string name):=by intro _;kernel_rfl) (hn:jk 1 (js.map (·.2))=false:=by rfl) (hsz:name.size<=1048576:=by omega):ak Tryz.prog β N ops k fr hps Q:=by
  intro junk w hS
  obtain⟨a,y,h1,h2,h3⟩:=UD (ho junk)
  obtain⟨o,g1,g2,g3,g4⟩:=fk h1
  have K8:pN hps (sY (aD O x (fun o=>{ o with ah:=gZ name o.ah })) L js)=hps:=xZ (p:=1) (fun q hq=>by
    match q,hq with
    | 0,_=>exact congrArg (fun R=>HP.abs (aF R)) (Jl (es:=fun o=>gZ name o.ah))
    | 1,hq=>exact absurd rfl hq
    | q+2,_=>exact congrArg (fun R=>HP.abs (aF R)) (pR rfl rfl)) hj hn
  obtain⟨w',m1,m2,m3⟩:=(Cq hS hp hd).drop Df Tryz.underlying95 (Fo (p:=name) (by omega)) o.type
  have e1:(jJ L (obj O x).ah) (.string name.data.toList)=some (eT L t):=by rw [uW,zk];rfl
  rw [e1,SV] at m2
  have hlen:=SN hnt zk
  have qd:Sat β (hps.set i (.abs (aF (dL (aD O x (fun o=>{ o with ah:=gZ name o.ah })) L)))) w':=hS.set hp (fun F hF=>aF.step (k:=x) (show (aF (dL O L)).h F w from hF) (fun y hy=>Aj hy) (fun G hG=>by
    rw [qW hd] at hG
    rw [qW (by rw [cV];exact hd),cV]
    rw [show (gZ name (obj O x).ah).length=(obj O x).ah.length - 1 by omega]
    exact step_map hG m2 m3))
  rw [drop_cons g1]
  unfold wpList
  rw [dY,if_pos g2]
  refine .inl (lZ (v:=.tuple #[]) (w':=w') (by
    rw [eW]
    refine .inl ?_
    obtain⟨dst,op,type,pos,after,guard⟩:=o
    cases g3
    simp only [execOp,resolve,invoke,builtin]
    simp [go_sem,h2,h3,m1]) ?_)
  rw [dR]
  have hK:=K _ rfl junk _ (by rw [K8];exact qd)
  rw [← g4] at hK
  exact hK
end rules
section after
variable {O O2:bZ} {j x:Nat} {f:aN->aN} {kd:Int}
theorem ku (e:O2=aD O j f) (h:(obj O x).kind=kd) (hf:∀ o,(f o).kind=o.kind:=by intro _;rfl):(obj O2 x).kind=kd:=by subst e;exact (lq hf).trans h
theorem fu {α:Type} (g:aN->α) {v:α} (e:O2=aD O j f) (h:g (obj O x)=v) (hf:∀ o,g (f o)=g o:=by intro _;rfl):g (obj O2 x)=v:=by subst e;exact (cu hf).trans h
end after
end
section
open Go.RowKit Go.Maps
attribute [local irreducible] ak aV af ai
theorem dz {β:Bs} (b:Nat):Spec Tryz.prog β 218 #[vP b] [] (fun v l=>v=vP b/\l=[]):=by
 refine SE Tryz.func218 Tryz.ntmps218 (fun R=>?_)
 refine SR (jK 1 [] [] ?_)
 refine NS (jK 2 [2] [] ?_)
 refine NN (af.ret ?_)
 exact RT _ [0] (⟨rfl,rfl⟩)
theorem pG {β:Bs} (a:Value):Spec Tryz.prog β 217 #[a] [] (fun v l=>v=vI 1/\l=[]):=by
 refine SE Tryz.func217 Tryz.ntmps217 (fun R=>?_)
 refine SR (jK 1 [] [] ?_)
 refine NS (jK 1 [2] [] ?_)
 refine NN (af.ret ?_)
 exact RT _ [0] (⟨rfl,rfl⟩)
theorem pH {β:Bs} (a:Value):Spec Tryz.prog β 220 #[a] [] (fun v l=>v=vI 2/\l=[]):=by
 refine SE Tryz.func220 Tryz.ntmps220 (fun R=>?_)
 refine SR (jK 1 [] [] ?_)
 refine NS (jK 1 [2] [] ?_)
 refine NN (af.ret ?_)
 exact RT _ [0] (⟨rfl,rfl⟩)
theorem qN {β:Bs} (a:Value):Spec Tryz.prog β 219 #[a] [] (fun v l=>v=vI 3/\l=[]):=by
 refine SE Tryz.func219 Tryz.ntmps219 (fun R=>?_)
 refine SR (jK 1 [] [] ?_)
 refine NS (jK 1 [2] [] ?_)
 refine NN (af.ret ?_)
 exact RT _ [0] (⟨rfl,rfl⟩)
theorem Nk {β:Bs} (O:bZ) (L:HL) (d:Nat) (hkd:(obj O d).kind=2) (name:ByteArray) (hsz:name.size<=1048576) (hno:aM name (obj O d).ah=none) (hel:(obj O d).ah.length<=1048576) (t:Th) (hkt:(obj O t.k).kind=t.kind) (h3:t.kind=1\/t.kind=2\/t.kind=3) (hb:0<=(obj O t.k).links/\(obj O t.k).links<=1048576) :
    Spec Tryz.prog β 25 #[vP (L.b d),.string name,(eT L t)] [.abs (aF (cJ O L)),.abs (aF (dL O L))] (fun v l=>v=.tuple #[]/\l=[.abs (aF (cJ (qH O d name t) L)),.abs (aF (dL (qH O d name t) L))]):=by
 refine SE Tryz.func25 Tryz.ntmps25 (fun R=>?_)
 refine af.seq ?_
 obtain⟨tk,kd⟩:=t;simp only at hkt h3;rcases h3 with rfl|rfl|rfl
 ·replace hkt:(obj O tk).kind=1:=hkt
  replace hb:0<=(obj O tk).links/\(obj O tk).links<=1048576:=hb
  refine af.region (jK 6 [11,12,13] [(3,v_ 0 (bS L hkd))] ?_)
  refine Zd 1 [(0,0)] (t:=⟨tk,1⟩) hkd hno (fun d9 dh=>?_)
  have lV:=ku dh hkd
  have pJ:=ku dh hkt
  have hf3:(obj d9 tk).links=(obj O tk).links:=fu aN.links dh rfl
  refine NS (jK 1 [14] [] ?_)
  refine gL [] (dz (L.b tk)) ?_
  rintro _ _ ⟨rfl,rfl⟩
  refine jK 6 [19,21] [(2,v_ 0 (p8 L pJ)),(3,wJ ((obj d9 tk).links+1) ((obj d9 tk).links+1))] ?_
  refine wh 0 [(1,1)] tk 6 (fun o=>{ o with links:=o.links+1 }) pJ (fun gi dJ=>?_)
  have Br:=ku dJ lV
  have Bt:=ku dJ pJ
  refine NS (jK 7 [6,7] [] ?_)
  refine NS (jK 1 [27] [] ?_)
  refine NN (CF (af.skip ?_))
  exact RF (l:=[.abs (aF (cJ gi L)),.abs (aF (dL gi L))]) (.tuple #[]) [0,1,2] (⟨rfl,by subst dJ;subst dh;rfl⟩)
 ·replace hkt:(obj O tk).kind=2:=hkt
  replace hb:0<=(obj O tk).links/\(obj O tk).links<=1048576:=hb
  refine af.region (jK 6 [11,12,13] [(3,v_ 0 (bS L hkd))] ?_)
  refine Zd 1 [(0,0)] (t:=⟨tk,2⟩) hkd hno (fun d9 dh=>?_)
  have UE:=ku dh hkd
  have OO:=ku dh hkt
  have hf8:(obj d9 tk).links=(obj O tk).links:=fu aN.links dh rfl
  refine NS (jK 1 [14] [] ?_)
  refine gL [] (dz (L.b tk)) ?_
  rintro _ _ ⟨rfl,rfl⟩
  refine jK 6 [19,21] [(2,v_ 0 (p8 L OO)),(3,wJ ((obj d9 tk).links+1) ((obj d9 tk).links+1))] ?_
  refine wh 0 [(1,1)] tk 6 (fun o=>{ o with links:=o.links+1 }) OO (fun gi dJ=>?_)
  have Gc:=ku dJ UE
  have OQ:=ku dJ OO
  refine NS (jK 7 [6,7] [] ?_)
  refine NS (jK 1 [27] [] ?_)
  refine NN (CT (af.region (jK 4 [29,31] [] ?_)))
  refine uSt 0 [(1,1)] tk (some d) OQ (fun x6 oB=>?_)
  have VX:=ku oB Gc
  have abQ:=ku oB OQ
  refine NL ?_
  exact RF (l:=[.abs (aF (cJ x6 L)),.abs (aF (dL x6 L))]) (.tuple #[]) [0,1,2] (⟨rfl,by subst oB;subst dJ;subst dh;rfl⟩)
 replace hkt:(obj O tk).kind=3:=hkt
 replace hb:0<=(obj O tk).links/\(obj O tk).links<=1048576:=hb
 refine af.region (jK 6 [11,12,13] [(3,v_ 0 (bS L hkd))] ?_)
 refine Zd 1 [(0,0)] (t:=⟨tk,3⟩) hkd hno (fun d9 dh=>?_)
 have aal:=ku dh hkd
 have OU:=ku dh hkt
 have ab9:(obj d9 tk).links=(obj O tk).links:=fu aN.links dh rfl
 refine NS (jK 1 [14] [] ?_)
 refine gL [] (dz (L.b tk)) ?_
 rintro _ _ ⟨rfl,rfl⟩
 refine jK 6 [19,21] [(2,v_ 0 (p8 L OU)),(3,wJ ((obj d9 tk).links+1) ((obj d9 tk).links+1))] ?_
 refine wh 0 [(1,1)] tk 6 (fun o=>{ o with links:=o.links+1 }) OU (fun gi dJ=>?_)
 have E6:=ku dJ aal
 have aam:=ku dJ OU
 refine NS (jK 7 [6,7] [] ?_)
 refine NS (jK 1 [27] [] ?_)
 refine NN (CF (af.skip ?_))
 exact RF (l:=[.abs (aF (cJ gi L)),.abs (aF (dL gi L))]) (.tuple #[]) [0,1,2] (⟨rfl,by subst dJ;subst dh;rfl⟩)
theorem jH {β:Bs} (X:FM) (f m t:Nat) (hX:0<=X.ah/\X.ah<=1048576/\-1125899906842624<=X.used/\X.used<=1125899906842624/\0<=X.last/\X.last<=1125899906842624) (O:bZ) (L:HL) (d:Nat) (hkd:(obj O d).kind=2) (name:ByteArray) (hsz:name.size<=1048576) (hno:aM name (obj O d).ah=none) (hel:(obj O d).ah.length<=1048576) (th:Th) (hkt:(obj O th.k).kind=th.kind) (h3:th.kind=1\/th.kind=2\/th.kind=3) (hb:0<=(obj O th.k).links/\(obj O th.k).links<=1048576) :
    Spec Tryz.prog β 125 #[vP f,vP (L.b d),.string name,(eT L th)] [.blk f [vI (X.cN),vI (X.cB),vI (X.cH),vI (X.cS),vI (X.cZ),.map (some m),vP t,vI (X.last),vI (X.ah),vI (X.used)] 84,.abs (aF (cJ O L)),.abs (aF (dL O L))] (fun v l=>v=.tuple #[]/\l=[.blk f [vI (X.cN),vI (X.cB),vI (X.cH),vI (X.cS),vI (X.cZ),.map (some m),vP t,vI (X.last),vI (X.ah+1),vI (X.used)] 84,.abs (aF (cJ (br X O d name th) L)),.abs (aF (dL (br X O d name th) L))]):=by
 refine SE Tryz.func125 Tryz.ntmps125 (fun R=>?_)
 refine af.seq ?_
 skip
 refine af.region (jK 3 [8,9,10] [] ?_)
 refine gL [1,2] (Nk O L d hkd name hsz hno hel th hkt h3 hb) ?_
 rintro _ _ ⟨rfl,rfl⟩
 refine NS ?_
 have E7:(obj (qH O d name th) d).kind=2:=(Am).trans (hkd)
 generalize dh:(qH O d name th)=d9 at E7 ⊢
 refine jK 9 [17,20] [(5,A_ 2 f 2)] ?_
 refine RZ 0 [(1,1)] d X.cS X.cZ E7 (fun gi dJ=>?_)
 have abR:=ku dJ E7
 refine NN (af.region (jC 8 [] [(3,a_ 2 f),(4,wJ (X.ah+1) (X.ah+1)),(7,a_ 2 f)] [(2,[(8,vI (X.ah+1))])] ?_))
 refine NL ?_
 exact RF (l:=[.blk f [vI (X.cN),vI (X.cB),vI (X.cH),vI (X.cS),vI (X.cZ),.map (some m),vP t,vI (X.last),vI (X.ah+1),vI (X.used)] 84,.abs (aF (cJ gi L)),.abs (aF (dL gi L))]) (.tuple #[]) [2,0,1,3] (⟨rfl,by subst dJ;subst dh;rfl⟩)
theorem kY {β:Bs} (X:FM) (f m t:Nat) (hX:0<=X.ah/\X.ah<=1048576/\-1125899906842624<=X.used/\X.used<=1125899906842624/\0<=X.last/\X.last<=1125899906842624) (O:bZ) (L:HL) (d:Nat) (hkd:(obj O d).kind=2) (name:ByteArray) (hsz:name.size<=1048576) (th:Th) (hkt:(obj O th.k).kind=th.kind) (h3:th.kind=1\/th.kind=2\/th.kind=3) (zk:aM name (obj O d).ah=some th) (hnt:lW (obj O d).ah) (_:(obj O d).ah.length<=1048576) (hb:0<=(obj O th.k).links/\(obj O th.k).links<=1048576) :
    Spec Tryz.prog β 151 #[vP f,vP (L.b d),.string name] [.blk f [vI (X.cN),vI (X.cB),vI (X.cH),vI (X.cS),vI (X.cZ),.map (some m),vP t,vI (X.last),vI (X.ah),vI (X.used)] 84,.abs (aF (cJ O L)),.abs (aF (dL O L))] (fun v l=>v=eT L th/\l=[.blk f [vI (X.cN),vI (X.cB),vI (X.cH),vI (X.cS),vI (X.cZ),.map (some m),vP t,vI (X.last),vI (X.ah - 1),vI (X.used)] 84,.abs (aF (cJ (aG X O d name th) L)),.abs (aF (dL (aG X O d name th) L))]):=by
 refine SE Tryz.func151 Tryz.ntmps151 (fun R=>?_)
 refine af.seq ?_
 obtain⟨tk,kd⟩:=th;simp only at hkt h3;rcases h3 with rfl|rfl|rfl
 ·replace hkt:(obj O tk).kind=1:=hkt
  replace hb:0<=(obj O tk).links/\(obj O tk).links<=1048576:=hb
  refine af.region (jK 1 [] [] ?_)
  refine NS (jK 5 [11,12] [(3,v_ 1 (bS L hkd))] ?_)
  refine lH 2 hkd zk ?_
  refine jK 1 [7] [] ?_
  refine NS (jK 5 [17,18] [(3,v_ 1 (bS L hkd))] ?_)
  refine Ze 2 [(1,0)] hkd zk hnt (fun d9 dh=>?_)
  have VY:=ku dh hkd
  have aan:=ku dh hkt
  have abn:(obj d9 tk).links=(obj O tk).links:=fu aN.links dh rfl
  refine NS (jK 9 [24,27] [(5,A_ 0 f 2)] ?_)
  refine RZ 1 [(2,1)] d X.cS X.cZ VY (fun gi dJ=>?_)
  have VZ:=ku dJ VY
  have Iz:=ku dJ aan
  have acd:(obj gi tk).links=(obj O tk).links:=fu aN.links dJ abn
  refine NS (jC 8 [] [(3,a_ 0 f),(4,wJ (X.ah - 1) (X.ah - 1)),(7,a_ 0 f)] [(0,[(8,vI (X.ah - 1))])] ?_)
  refine NS (jK 1 [35] [] ?_)
  refine gL [] (dz (L.b tk)) ?_
  rintro _ _ ⟨rfl,rfl⟩
  refine jK 6 [40,42] [(2,v_ 1 (p8 L Iz)),(3,wJ ((obj gi tk).links - 1) ((obj gi tk).links - 1))] ?_
  refine wh 1 [(2,1)] tk 6 (fun o=>{ o with links:=o.links - 1 }) Iz (fun x6 oB=>?_)
  have abS:=ku oB VZ
  have abT:=ku oB Iz
  refine NS (jK 2 [6] [] ?_)
  refine NN (af.ret ?_)
  exact RT (l:=[.blk f [vI (X.cN),vI (X.cB),vI (X.cH),vI (X.cS),vI (X.cZ),.map (some m),vP t,vI (X.last),vI (X.ah - 1),vI (X.used)] 84,.abs (aF (cJ x6 L)),.abs (aF (dL x6 L))]) (.iface 87 (vP (L.b tk))) [0,1,2,3] (⟨rfl,by subst oB;subst dJ;subst dh;rfl⟩)
 ·replace hkt:(obj O tk).kind=2:=hkt
  replace hb:0<=(obj O tk).links/\(obj O tk).links<=1048576:=hb
  refine af.region (jK 1 [] [] ?_)
  refine NS (jK 5 [11,12] [(3,v_ 1 (bS L hkd))] ?_)
  refine lH 2 hkd zk ?_
  refine jK 1 [7] [] ?_
  refine NS (jK 5 [17,18] [(3,v_ 1 (bS L hkd))] ?_)
  refine Ze 2 [(1,0)] hkd zk hnt (fun d9 dh=>?_)
  have V0:=ku dh hkd
  have aao:=ku dh hkt
  have abo:(obj d9 tk).links=(obj O tk).links:=fu aN.links dh rfl
  refine NS (jK 9 [24,27] [(5,A_ 0 f 2)] ?_)
  refine RZ 1 [(2,1)] d X.cS X.cZ V0 (fun gi dJ=>?_)
  have aap:=ku dJ V0
  have OV:=ku dJ aao
  have ace:(obj gi tk).links=(obj O tk).links:=fu aN.links dJ abo
  refine NS (jC 8 [] [(3,a_ 0 f),(4,wJ (X.ah - 1) (X.ah - 1)),(7,a_ 0 f)] [(0,[(8,vI (X.ah - 1))])] ?_)
  refine NS (jK 1 [35] [] ?_)
  refine gL [] (dz (L.b tk)) ?_
  rintro _ _ ⟨rfl,rfl⟩
  refine jK 6 [40,42] [(2,v_ 1 (p8 L OV)),(3,wJ ((obj gi tk).links - 1) ((obj gi tk).links - 1))] ?_
  refine wh 1 [(2,1)] tk 6 (fun o=>{ o with links:=o.links - 1 }) OV (fun x6 oB=>?_)
  have abU:=ku oB aap
  have abV:=ku oB OV
  refine NS (jK 2 [6] [] ?_)
  refine NN (af.ret ?_)
  exact RT (l:=[.blk f [vI (X.cN),vI (X.cB),vI (X.cH),vI (X.cS),vI (X.cZ),.map (some m),vP t,vI (X.last),vI (X.ah - 1),vI (X.used)] 84,.abs (aF (cJ x6 L)),.abs (aF (dL x6 L))]) (.iface 94 (vP (L.b tk))) [0,1,2,3] (⟨rfl,by subst oB;subst dJ;subst dh;rfl⟩)
 replace hkt:(obj O tk).kind=3:=hkt
 replace hb:0<=(obj O tk).links/\(obj O tk).links<=1048576:=hb
 refine af.region (jK 1 [] [] ?_)
 refine NS (jK 5 [11,12] [(3,v_ 1 (bS L hkd))] ?_)
 refine lH 2 hkd zk ?_
 refine jK 1 [7] [] ?_
 refine NS (jK 5 [17,18] [(3,v_ 1 (bS L hkd))] ?_)
 refine Ze 2 [(1,0)] hkd zk hnt (fun d9 dh=>?_)
 have V1:=ku dh hkd
 have aaq:=ku dh hkt
 have abp:(obj d9 tk).links=(obj O tk).links:=fu aN.links dh rfl
 refine NS (jK 9 [24,27] [(5,A_ 0 f 2)] ?_)
 refine RZ 1 [(2,1)] d X.cS X.cZ V1 (fun gi dJ=>?_)
 have aar:=ku dJ V1
 have OW:=ku dJ aaq
 have acf:(obj gi tk).links=(obj O tk).links:=fu aN.links dJ abp
 refine NS (jC 8 [] [(3,a_ 0 f),(4,wJ (X.ah - 1) (X.ah - 1)),(7,a_ 0 f)] [(0,[(8,vI (X.ah - 1))])] ?_)
 refine NS (jK 1 [35] [] ?_)
 refine gL [] (dz (L.b tk)) ?_
 rintro _ _ ⟨rfl,rfl⟩
 refine jK 6 [40,42] [(2,v_ 1 (p8 L OW)),(3,wJ ((obj gi tk).links - 1) ((obj gi tk).links - 1))] ?_
 refine wh 1 [(2,1)] tk 6 (fun o=>{ o with links:=o.links - 1 }) OW (fun x6 oB=>?_)
 have abW:=ku oB aar
 have abX:=ku oB OW
 refine NS (jK 2 [6] [] ?_)
 refine NN (af.ret ?_)
 exact RT (l:=[.blk f [vI (X.cN),vI (X.cB),vI (X.cH),vI (X.cS),vI (X.cZ),.map (some m),vP t,vI (X.last),vI (X.ah - 1),vI (X.used)] 84,.abs (aF (cJ x6 L)),.abs (aF (dL x6 L))]) (.iface 91 (vP (L.b tk))) [0,1,2,3] (⟨rfl,by subst oB;subst dJ;subst dh;rfl⟩)
end
end Go.Proofs.YtnipofpbcggjcaaGreat
