/-
  PROVED HERE: lemmas and contracts of functions (texts of this repo, joined; what the claim does not use is left out): DC, Dq, DM, DN, DS, DO, DK, Dr, DU, Co, Ss, Sv, Sw, So, Sy, Sz, Sq, Sj, Sg, Dg, Db, Dn, St, LD, Ns, Ds, Dt, GTe, XS, Wt, Py, WK, EA, Df, RA, RB, Rh, We, WG, Wl, Wf, Rw, Wv, Si, Pw.
  CONDITIONS: as the theorems say.
-/
import Derived.Test.YtfececghhgeapaaGreatDoorMRcalls4
import Derived.Stop.Asserts
import Derived.Defers
set_option maxRecDepth 100000
set_option maxHeartbeats 4000000
namespace Go.Proofs.YtfececghhgeapaaGreatDoor
section
open Go.RowKit Go.Maps bw aH
attribute [local irreducible] aB bJ av aF eH lX
noncomputable abbrev kI (Y:RL) (Z:RS):=(.abs (aI 102 10 Y.A Z.ns.length Y.c (bS Y.L Z.ns)):HP)
noncomputable abbrev ko (Y:RL) (Z:RS):=(.abs (aI 3 1 Y.G Z.aJ.length Y.cg (bL Z.aJ)):HP)
noncomputable abbrev XH (Ag)(l:List Int) (cg):=(.abs (aI 3 1 Ag l.length cg (bL l)):HP)
noncomputable abbrev zT4 (A1:Option Addr) (Z:RS) (k:Nat) (c1:Nat):=(.abs (aI 3 1 A1 ((ins (aH.aR Z.us) (nd Z.ns k).id Z.us).length) c1 (bL (aY (ins (aH.aR Z.us) (nd Z.ns k).id Z.us)))):HP)
noncomputable abbrev zT5 (B1)(Z:RS) (k:Nat) (d1):=(.abs (aI 3 1 B1 ((ins (aH.aR Z.us) (nd Z.ns k).id Z.us).length) d1 (bL (ji (ins (aH.aR Z.us) (nd Z.ns k).id Z.us)))):HP)
noncomputable abbrev zT6 (t6:Nat) (Z:RS) (A1:Option Addr) (k:Nat) (c1:Nat) (B1) (d1):=(.aD t6 [vI (Z.cH),vI ((max Z.aL ((Z.us.length:Int)+1))),.slice A1 ((ins (aH.aR Z.us) (nd Z.ns k).id Z.us).length) (c1),.slice B1 ((ins (aH.aR Z.us) (nd Z.ns k).id Z.us).length) (d1)] 43:HP)
noncomputable abbrev zT7 (nE:Nat) (yS:Nat) (An:Option Addr) (p:List aO) (cn:Nat) (Ag) (l:List Int) (cg) (i:Nat):=([(1,vP nE),(2,vP yS),(3,.slice An (p.length) (cn)),(4,.slice Ag (l.length) (cg)),(5,vI ↑i)]:Fr)
noncomputable abbrev zT8 (Z:RS):=([(6,vI (Z.cN)),(7,vI (Z.cB)),(8,vI (Z.cH)),(9,vI (Z.cS)),(10,vI (Z.cZ)),(11,vI (Z.last))]:Fr)
noncomputable abbrev zT9 (b1:Nat) (b2:Nat) (Ao) (q:List fO) (ca):=([(4,vP b1),(8,vP b2),(9,.slice Ao (q.length) (ca))]:Fr)
noncomputable abbrev qy (b1:Nat) (Z) (Y:RL) (b2:Nat):=([.aD b1 (rV Z Y) 45,.aD b2 (rZ) 45]:List HP)
noncomputable abbrev aeT (sD:Nat) (wG:Nat) (Z:RS) (Y:RL) (k:Nat):=([(2,vP sD),(4,vP wG),(12,.agg #[vI (Z.cH),vI (Z.aL),.slice Y.H (Z.us.length) (Y.ch),.slice Y.V (Z.us.length) (Y.cv)]),(19,vI ((nd Z.ns k).id))]:Fr)
noncomputable abbrev aeU (Z:RS) (A1:Option Addr) (k:Nat) (c1:Nat) (B1) (d1):=([(3,vI ((max Z.aL ((Z.us.length:Int)+1)))),(4,.slice A1 ((ins (aH.aR Z.us) (nd Z.ns k).id Z.us).length) (c1)),(5,.slice B1 ((ins (aH.aR Z.us) (nd Z.ns k).id Z.us).length) (d1))]:Fr)
noncomputable abbrev aeV (Z:RS) (Y:RL):=([(2,vI (Z.cH)),(3,vI (Z.aL)),(4,.slice Y.H (Z.us.length) (Y.ch)),(5,.slice Y.V (Z.us.length) (Y.cv))]:Fr)
theorem Fs {β:Bs} (Z:RS) (Y:RL) (hI:mP β Z Y.L Y.H Y.V) (hB:RB Z) (d:Nat) (hd:d<Z.ns.length) (name:ByteArray) (id:Int) :
 bK Tryz.prog β 93 #[.agg ⟨rV Z Y⟩,vI (((d:Nat):Int)),.string name,vI (id)] [kI Y Z,ko Y Z] (λβ' v l=>∃L',v=.agg ⟨rV (dW Z d name id) Y⟩/\l=[.abs (aI 102 10 Y.A ((dW Z d name id).ns.length) Y.c (bS L' (dW Z d name id).ns)),.abs (aI 3 1 Y.G ((dW Z d name id).aJ.length) Y.cg (bL (dW Z d name id).aJ))]/\mP β' (dW Z d name id) L' Y.H Y.V):=by
 refine lW Tryz.func93 Tryz.ntmps93 (λaE R=>SR (jB 1 [4] (λb1=>.aD b1 (rV Z Y) 45) (λb1=>jB 1 [8] (λb2=>.aD b2 (rZ) 45) (λb2=>NS (jB 2 [9] (λb3=>.aD b3 [] 126) (λb3=>NS (aB.mem (λw hS=>hS.nW (i:=5) (b:=b3) (cs:=[]) (e:=126) 2 0 d6 rfl d8) (jK 1 [10] [] (NS (aB.vZ 0 rfl d5 (λpR=>jK 8 [11] [(2,a_ 3 b1),(4,x_ d Z.ns.length (pR)),(6,v_ 0 (nA Z.ns Y.L Y.A Y.c d 9 hd rfl))] (NZ (jK 1 [12] [] (NN (av.block (lJ (ι:=Nat×Bool×(List fO)×(Option Addr)×Nat) (λ(j,put,q,Ao,ca)=>(j<=(nd Z.ns d).aq.length)/\(gV (nd Z.ns d).aq name id j put q)) (λ(j,put,q,Ao,ca)=>(nd Z.ns d).aq.length-j) (λ(j,put,q,Ao,ca)=>([(1,vI ↑d),(2,.string name),(3,vI (id))]++zT9 b1 b2 Ao q ca++[(10,.bool put),(11,.slice (Y.L.eA d) ((nd Z.ns d).aq.length) ((Y.L.eC d))),(12,vI ↑j)])) (λ(j,put,q,Ao,ca)=>(qy b1 Z Y b2++[kI Y Z,ko Y Z,.abs (aI 126 2 Ao q.length ca (mQ q)),.abs R])) (0,false,[],some ⟨b3,0,none⟩,0) [3,4,0,1,5,2] (⟨L4 _,gV.start⟩) ?_))))))))))))))))
 rintro⟨j,put,q,Ao,ca⟩ ⟨hj,he⟩
 have wE:=he.len hj
 have hrw:=hB.row hd
 refine SQ (jK 4 [24] [] (NN (cP ((((j:Nat):Int):Int)<((((nd Z.ns d).aq.length:Nat):Int):Int)) (λq6=>?_) (λq6=>?_))))
 ·refine KX (av.seq (av.block (av.join (ι:=Bool×(List fO)×(Option Addr)×Nat) (λ(p1,q1,A1,c1)=>(gV (nd Z.ns d).aq name id (j+1) p1 (q1++[en (nd Z.ns d).aq j]))/\(q1.length<=j+2)) (λ(p1,q1,A1,c1)=>([(1,vI ↑d),(2,.string name),(3,vI (id))]++zT9 b1 b2 A1 q1 c1++[(10,.bool p1),(11,.slice (Y.L.eA d) ((nd Z.ns d).aq.length) ((Y.L.eC d))),(12,vI ↑j)])) (λ(p1,q1,A1,c1)=>(qy b1 Z Y b2++[kI Y Z,ko Y Z,.abs (aI 126 2 A1 q1.length c1 (mQ q1)),.abs R])) ?_ ?_)))
  ·rintro⟨p1,q1,A1,c1⟩ ⟨he1,hl1⟩
   exact av.region (jN 6 [44,49] (λb4=>[(3,x_ j ((nd Z.ns d).aq.length) (cV.hd (hI.aq d hd) (i:=j) d5)),(4,r2 (cV.rd (hI.aq d hd) (i:=j) d5 (j:=0) rfl) (cV.rd (hI.aq d hd) (i:=j) d5 (j:=1) rfl))]) (λ_=>[]) (λb4=>.aD b4 [.string (en (nd Z.ns d).aq j).name,vI ((en (nd Z.ns d).aq j).id)] 126) (λb4=>mO 4 100 (some ⟨b4,0,none⟩) 1 1 [.string (en (nd Z.ns d).aq j).name,vI ((en (nd Z.ns d).aq j).id)] rfl (gq (j:=6) rfl) (λA5 c6=>aB.cR 4 rfl (DW (e:=(en (nd Z.ns d).aq j))) (sl 50 (.slice A5 (q1.length+1) (c6)) (.slice A5 ((q1++[(en (nd Z.ns d).aq j)]).length) (c6)) (by rw [←oo]) (jK 1 [9] [] (LX (av.region (jK 3 [12] [(1,wJ ((j:Int)+1) (↑(j+1)))] (NL (tJ ((j+1),p1,(q1++[(en (nd Z.ns d).aq j)]),A5,c6) [0,1,2,3,4,5] (⟨d5,he1⟩)))))))))))
  refine SR (jK 3 [29] [] (aB.qD 29 (!put) (λ_=>d6) (λCX=>jK 8 [37] [(2,x_ j ((nd Z.ns d).aq.length) (cV.hd (hI.aq d hd) (i:=j) d5)),(4,r_ (cV.rd (hI.aq d hd) (i:=j) d5 (j:=0) rfl)),(6,w_ (.bool (!(decide (ja ((en (nd Z.ns d).aq j).name) name)))) (aeR _ _))] (NN (cN (ja ((en (nd Z.ns d).aq j).name) name) (λyO=>SR ?_) (λyO=>av.skip (mJ (put,q,Ao,ca) [0,1,2,3,4,5] (⟨he.keep d5 (λ_=>yO),d5⟩)))))) (λCX=>jK 8 [37] [] (NF (av.skip (mJ (put,q,Ao,ca) [0,1,2,3,4,5] (⟨he.keep d5 (λe=>by rw [e] at CX;cases CX),d5⟩)))))))
  have hl1:=oo (q:=q) (e:=(⟨name,id⟩:fO))
  exact jB 5 [38,42] (λb7=>.aD b7 [.string name,vI (id)] 126) (λb7=>mO 4 100 (some ⟨b7,0,none⟩) 1 1 [.string name,vI (id)] rfl (gq (j:=6) rfl) (λA8 c9=>aB.cR 4 rfl (DW (e:=(⟨name,id⟩:fO))) (sl 43 (.slice A8 (q.length+1) (c9)) (.slice A8 ((q++[(⟨name,id⟩:fO)]).length) (c9)) (by rw [←oo]) (jK 1 [9] [] (NN (av.region (jK 1 [10] [] (NL (mJ (true,(q++[(⟨name,id⟩:fO)]),A8,c9) [0,1,2,3,4,5] (⟨gV.put ((show put=false by simpa using CX) ▸ he) d5 yO,d5⟩))))))))))
 refine XX (av.join (ι:=(List fO)×(Option Addr)×Nat) (λ(q2,A2,c2)=>(q2=(mK name id (nd Z.ns d).aq))) (λ(q2,A2,c2)=>([(1,vI ↑d)]++zT9 b1 b2 A2 q2 c2)) (λ(q2,A2,c2)=>(qy b1 Z Y b2++[kI Y Z,ko Y Z,.abs (aI 126 2 A2 q2.length c2 (mQ q2)),.abs R])) ?_ (SR (jK 2 [52] [] (NN (av.cond (b:=(!put)) (λ_=>d6) (λuW=>av.region (jB 5 [53,57] (λb10=>.aD b10 [.string name,vI (id)] 126) (λb10=>mO 4 100 (some ⟨b10,0,none⟩) 1 1 [.string name,vI (id)] rfl (gq (j:=6) rfl) (λG9 c12=>aB.cR 4 rfl (DW (e:=(⟨name,id⟩:fO))) (sl 58 (.slice G9 (q.length+1) (c12)) (.slice G9 ((q++[(⟨name,id⟩:fO)]).length) (c12)) (by rw [←oo]) (jK 1 [9] [] (NL (mJ ((q++[(⟨name,id⟩:fO)]),G9,c12) [0,1,2,3,4,5] (gV.last gn))))))))) (λuW=>av.skip (mJ (q,Ao,ca) [0,1,2,3,4,5] (gV.end_ gn))))))))
 rintro⟨q2,A2,c2⟩ CY
 refine SR ?_
 subst CY
 refine aB.mA (Φ:=λβ'=>cV β' A2 (mK name id (nd Z.ns d).aq)) 4 [0,1,2,3,5] (gj:=(qy b1 Z Y b2++[kI Y Z,ko Y Z,.abs R])) rfl rfl d6 (λF w h β' h1 h2=>cq.gZ h h1 h2) (λβ1 cW hE=>?_)
 replace hI:=hI.le cW
 replace aE:=aE.trans cW
 exact jK 7 [63,65] [(2,a_ 0 b1),(5,x_ d Z.ns.length (pR))] (aB.Ln 2 (d*10+9) (d:=none) (T:=100) (e:=102) (size:=10) (n:=Z.ns.length) (cap:=Y.c) (A:=Y.A) (xs:=(bS Y.L Z.ns)) (u:=.slice A2 ((mK name id (nd Z.ns d).aq).length) (c2)) (a:=(.tmp 65)) (y:=(.tmp 63)) (λ_=>d6) d6 (λ_=>d6) (λ_=>d6) d6 rfl d5 (by rw [s5];omega) (NS (jK 9 [72,74] [(2,a_ 0 b1),(6,A_ 0 b1 2),(7,x_ d Z.ns.length (pR))] (aB.II 2 (d*10+5) (d:=none) (T:=26) (e:=102) (size:=10) (n:=Z.ns.length) (cap:=Y.c) (A:=Y.A) (xs:=((bS Y.L Z.ns).set (d*10+9) (.slice A2 ((mK name id (nd Z.ns d).aq).length) (c2)))) (u:=.int .i64 (Z.cS)) (u2:=.int .i64 (Z.cZ)) (a:=(.tmp 74)) (y:=(.tmp 72)) (λ_=>d6) d6 (λ_=>d6) (λ_=>d6) d6 rfl rfl d5 (by rw [T7,s5];omega) (aB.cR 2 rfl (S5 hd rfl) (NS (jC 2 [] [(0,A_ 0 b1 12),(1,A_ 1 b2 12)] [(1,(zC (rV Z Y)))] (eO (l:=[.abs (aI 102 10 Y.A ((dW Z d name id).ns.length) Y.c (bS (Y.L.bR d A2 c2) (dW Z d name id).ns)),ko Y Z]) (v:=(.agg ⟨rV Z Y⟩)) [A_ 1 b2 12] aE ⟨_,by simp only [rV];rw [Gs];rfl,rfl,hI.nK hd hE rfl rfl⟩ [2,3,4]))))))))
theorem BW {β:Bs} (Z:RS) (Y:RL) (hI:mP β Z Y.L Y.H Y.V) {n:Nat} (hD:RD n Z) (hn:n<=7) (d:Nat) (hd:d<Z.ns.length) (name:ByteArray) (free:Bool) :
 bK Tryz.prog β 119 #[.agg ⟨rV Z Y⟩,vI (((d:Nat):Int)),.string name,.bool free] [kI Y Z,ko Y Z] (λβ' v l=>∃L' G' cg',v=.agg ⟨rW (dg Z d name free) Y.A Y.c G' cg' Y.H Y.ch Y.V Y.cv⟩/\l=[.abs (aI 102 10 Y.A ((dg Z d name free).ns.length) Y.c (bS L' (dg Z d name free).ns)),.abs (aI 3 1 G' ((dg Z d name free).aJ.length) cg' (bL (dg Z d name free).aJ))]/\mP β' (dg Z d name free) L' Y.H Y.V):=by
 refine lW Tryz.func119 Tryz.ntmps119 (λaE R=>SR (jB 1 [4] (λb13=>.aD b13 (rV Z Y) 45) (λb13=>jB 1 [8] (λb14=>.aD b14 (rZ) 45) (λb14=>NS (jB 2 [9] (λb15=>.aD b15 [] 126) (λb15=>NS (aB.mem (λw hS=>hS.nW (i:=5) (b:=b15) (cs:=[]) (e:=126) 2 0 d6 rfl d8) (aB.vZ 0 rfl d5 (λpR=>jK 8 [10] [(2,a_ 3 b13),(4,x_ d Z.ns.length (pR)),(6,v_ 0 (nA Z.ns Y.L Y.A Y.c d 9 hd rfl))] (NS (jK 1 [11] [] (NZ (jK 1 [12] [] (NN (av.block (lJ (ι:=Nat×(List fO)×Int×(Option Addr)×Nat) (λ(j,q,z,Ao,ca)=>(j<=(nd Z.ns d).aq.length)/\(q=rP name ((nd Z.ns d).aq.take j))/\(z=q5 name ((nd Z.ns d).aq.take j) 0)) (λ(j,q,z,Ao,ca)=>(nd Z.ns d).aq.length-j) (λ(j,q,z,Ao,ca)=>([(1,vI ↑d),(2,.string name),(3,.bool free)]++zT9 b13 b14 Ao q ca++[(10,.slice (Y.L.eA d) ((nd Z.ns d).aq.length) ((Y.L.eC d))),(11,vI (z)),(12,vI ↑j)])) (λ(j,q,z,Ao,ca)=>(qy b13 Z Y b14++[kI Y Z,ko Y Z,.abs (aI 126 2 Ao q.length ca (mQ q)),.abs R])) (0,[],0,some ⟨b15,0,none⟩,0) [3,4,0,1,5,2] (⟨L4 _,rfl,rfl⟩) ?_))))))))))))))))
 rintro⟨j,q,z,Ao,ca⟩ ⟨hj,hq,hz⟩
 have wE:q.length<=j:=by rw [hq];exact aaQ
 have hrw:=(hD.rb d5).row hd
 refine SQ (jK 4 [24] [] (NN (cP ((((j:Nat):Int):Int)<((((nd Z.ns d).aq.length:Nat):Int):Int)) (λq6=>KX (av.seq (av.block (SR (jK 7 [33] [(2,x_ j ((nd Z.ns d).aq.length) (cV.hd (hI.aq d hd) (i:=j) d5)),(4,r_ (cV.rd (hI.aq d hd) (i:=j) d5 (j:=0) rfl)),(6,w_ (.bool (decide (((en (nd Z.ns d).aq j).name:ByteArray)=name))) (qH _ _))] (NN (cP (((en (nd Z.ns d).aq j).name:ByteArray)=name) (λL6=>av.region (jK 6 [11] [(2,x_ j ((nd Z.ns d).aq.length) (cV.hd (hI.aq d hd) (i:=j) d5)),(4,r_ (cV.rd (hI.aq d hd) (i:=j) d5 (j:=1) rfl))] (LX (av.region (jK 3 [12] [(1,wJ ((j:Int)+1) (↑(j+1)))] (NL (tJ ((j+1),q,(en (nd Z.ns d).aq j).id,Ao,ca) [0,1,2,3,4,5] (⟨d5,by grind [Nh],adq d5 L6⟩)))))))) (λL6=>av.region (jN 6 [39,44] (λb16=>[(3,x_ j ((nd Z.ns d).aq.length) (cV.hd (hI.aq d hd) (i:=j) d5)),(4,r2 (cV.rd (hI.aq d hd) (i:=j) d5 (j:=0) rfl) (cV.rd (hI.aq d hd) (i:=j) d5 (j:=1) rfl))]) (λ_=>[]) (λb16=>.aD b16 [.string (en (nd Z.ns d).aq j).name,vI ((en (nd Z.ns d).aq j).id)] 126) (λb16=>mO 4 100 (some ⟨b16,0,none⟩) 1 1 [.string (en (nd Z.ns d).aq j).name,vI ((en (nd Z.ns d).aq j).id)] rfl (gq (j:=6) rfl) (λoO c18=>aB.cR 4 rfl (DW (e:=(en (nd Z.ns d).aq j))) (sl 45 (.slice oO (q.length+1) (c18)) (.slice oO ((q++[(en (nd Z.ns d).aq j)]).length) (c18)) (by rw [←oo]) (jK 1 [9] [] (LX (av.region (jK 3 [12] [(1,wJ ((j:Int)+1) (↑(j+1)))] (NL (tJ ((j+1),(q++[(en (nd Z.ns d).aq j)]),z,oO,c18) [0,1,2,3,4,5] (⟨d5,by grind [Ll],by rw [hz];exact aaP d5 L6⟩))))))))))))))))))) (λq6=>XX (SR ?_)))))
 have hje:j=(nd Z.ns d).aq.length:=d5
 rw [hje,aiu] at hq hz
 subst hq
 subst hz
 refine aB.mA (Φ:=λβ'=>cV β' Ao (rP name (nd Z.ns d).aq)) 4 [0,1,2,3,5] (gj:=(qy b13 Z Y b14++[kI Y Z,ko Y Z,.abs R])) rfl rfl d6 (λF w h β' h1 h2=>cq.gZ h h1 h2) (λβ1 cW hE=>?_)
 replace hI:=hI.le cW
 replace aE:=aE.trans cW
 refine jK 7 [50,52] [(2,a_ 0 b13),(5,x_ d Z.ns.length (pR))] (aB.Ln 2 (d*10+9) (d:=none) (T:=100) (e:=102) (size:=10) (n:=Z.ns.length) (cap:=Y.c) (A:=Y.A) (xs:=(bS Y.L Z.ns)) (u:=.slice Ao ((rP name (nd Z.ns d).aq).length) (ca)) (a:=(.tmp 52)) (y:=(.tmp 50)) (λ_=>d6) d6 (λ_=>d6) (λ_=>d6) d6 rfl d5 (by rw [s5];omega) (NS (jK 9 [59,61] [(2,a_ 0 b13),(6,A_ 0 b13 2),(7,x_ d Z.ns.length (pR))] (aB.II 2 (d*10+5) (d:=none) (T:=26) (e:=102) (size:=10) (n:=Z.ns.length) (cap:=Y.c) (A:=Y.A) (xs:=((bS Y.L Z.ns).set (d*10+9) (.slice Ao ((rP name (nd Z.ns d).aq).length) (ca)))) (u:=.int .i64 (Z.cS)) (u2:=.int .i64 (Z.cZ)) (a:=(.tmp 61)) (y:=(.tmp 59)) (λ_=>d6) d6 (λ_=>d6) (λ_=>d6) d6 rfl rfl d5 (by rw [T7,s5];omega) (aB.cR 2 rfl (S5 hd rfl) (NN (av.seq (SR ?_))))))))
 have dz:mP β1 (DX Z d name) (Y.L.bR d Ao ca) Y.H Y.V:=hI.nK hd hE rfl rfl
 have CG:RD (n+1) (DX Z d name):=hD.del hd
 refine jK 2 [63] [] (aB.qD 63 free (λ_=>d6) (λh63=>jK 2 [64,65] [(0,A_ 0 b13 12)] ?_) (λh63=>jK 5 [68] [] (NF (KX (SR (jC 2 [] [(0,A_ 0 b13 12),(1,A_ 1 b14 12)] [(1,(zC (rV Z Y)))] (eO [A_ 1 b14 12] aE ⟨(Y.L.bR d Ao ca),Y.G,Y.cg,by simp only [rV,rW];rw [J9 (λe=>by rw [e] at h63;cases h63),vo]<;>rfl,by rw [J9 (λe=>by rw [e] at h63;cases h63)]<;>rfl,dz.same rfl rfl⟩ [2,3,4])))))))
 have q2:=λoV (h:dJ oV (DX Z d name) ⟨Y.A,Y.c,(Y.L.bR d Ao ca),Y.G,Y.cg,Y.H,Y.ch,Y.V,Y.cv⟩)=>Xw (DX Z d name) ⟨Y.A,Y.c,(Y.L.bR d Ao ca),Y.G,Y.cg,Y.H,Y.ch,Y.V,Y.cv⟩ h (CG.rb d5) (q5 name (nd Z.ns d).aq 0)
 simp only [rV,ads] at q2
 exact gE [2,3] (jm dz (λ_ _ h=>q2 _ h)) (jK 2 [68] [] (NN (cP (((tY (DX Z d name).ns (q5 name (nd Z.ns d).aq 0)):Int)=(0:Int)) (λh68=>av.region (jN 4 [70,72] (λb19=>[(1,a_ 2 b13)]) (λ_=>[]) (λb19=>.aD b19 [vI ((q5 name (nd Z.ns d).aq 0))] 3) (λb19=>mO 1 41 (some ⟨b19,0,none⟩) 1 1 [vI ((q5 name (nd Z.ns d).aq 0))] rfl (gq (j:=5) rfl) (λog oh=>aB.cR 1 rfl (Fq) (sl 73 (.slice og (Z.aJ.length+1) (oh)) (.slice og ((Z.aJ++[(q5 name (nd Z.ns d).aq 0)]).length) (oh)) (by rw [←oo]) (jC 2 [] [(1,a_ 2 b13)] [(2,[(1,.slice og ((Z.aJ++[(q5 name (nd Z.ns d).aq 0)]).length) (oh))])] (NS (jC 2 [] [(0,A_ 2 b13 12),(1,A_ 3 b14 12)] [(3,([(0,.slice Y.A (Z.ns.length) (Y.c)),(1,.slice og ((Z.aJ++[(q5 name (nd Z.ns d).aq 0)]).length) (oh))]++aeV Z Y++zT8 Z))] (eO [A_ 3 b14 12] aE ⟨(Y.L.bR d Ao ca),og,oh,by simp only [rV,rW];rw [S6 h63 h68,vo]<;>rfl,by rw [S6 h63 h68]<;>rfl,dz.same rfl rfl⟩ [0,1,4])))))) (n:=Z.aJ.length) (hb:=by have:=hD.aJ;omega)))) (λh68=>KX (SR (jC 2 [] [(0,A_ 2 b13 12),(1,A_ 3 b14 12)] [(3,(zC (rV Z Y)))] (eO [A_ 3 b14 12] aE ⟨(Y.L.bR d Ao ca),Y.G,Y.cg,by simp only [rV,rW];rw [J9 (λ_=>h68),vo]<;>rfl,by rw [J9 (λ_=>h68)]<;>rfl,dz.same rfl rfl⟩ [0,1,4])))))))
theorem adt {β:Bs} (Z:RS) (Y:RL) (hI:mP β Z Y.L Y.H Y.V) {n:Nat} (hD:RD n Z) (hn:n<=8) (hl:0<=Z.last/\Z.last<1099511627776) (d:Nat) (hd:d<Z.ns.length) (name:ByteArray) (x:aO) (hxd:x.data=[]) (ME:x.aq=[]) :
 bK Tryz.prog β 130 #[.agg ⟨rV Z Y⟩,vI (((d:Nat):Int)),.string name,.agg #[vI (x.id),vI (x.kind),vI (x.mode),vI (x.cM),vI (x.cO),vI (x.bH),vI (x.bh),.slice none (0) (0),.string x.target,.slice none (0) (0)]] [kI Y Z,ko Y Z] (λβ' v l=>∃A' c' L',v=.agg ⟨rW (kz Z d name x) A' c' Y.G Y.cg Y.H Y.ch Y.V Y.cv⟩/\l=[.abs (aI 102 10 A' ((kz Z d name x).ns.length) c' (bS L' (kz Z d name x).ns)),.abs (aI 3 1 Y.G ((kz Z d name x).aJ.length) Y.cg (bL (kz Z d name x).aJ))]/\mP β' (kz Z d name x) L' Y.H Y.V/\L'.dA Z.ns.length=none/\L'.dC Z.ns.length=0):=by
 refine lW Tryz.func130 Tryz.ntmps130 (λaE R=>SR (jB 1 [4] (λo6=>.aD o6 (rV Z Y) 45) (λo6=>jB 1 [7] (λTa=>.aD Ta [vI (x.id),vI (x.kind),vI (x.mode),vI (x.cM),vI (x.cO),vI (x.bH),vI (x.bh),.slice none (0) (0),.string x.target,.slice none (0) (0)] 102) (λTa=>jB 1 [8] (λKb=>.aD Kb (rZ) 45) (λKb=>NS (jC 5 [] [(1,a_ 3 o6),(2,wJ (Z.last+1) (Z.last+1)),(4,a_ 3 o6)] [(3,[(11,vI (Z.last+1))])] (NS (jC 4 [] [(1,a_ 3 o6),(3,a_ 4 Ta)] [(4,[(0,vI (Z.last+1))])] (NS (jC 5 [] [(2,A_ 3 o6 2),(4,A_ 4 Ta 2)] [(4,[(5,vI (Z.cS)),(6,vI (Z.cZ))])] (NS ?_)))))))))))
 have hI0:mP β ({Z with last:=Z.last+1}:RS) Y.L Y.H Y.V:=hI.same rfl rfl
 refine jK 5 [20,21,22,24] [(0,A_ 3 o6 12),(4,a_ 4 Ta)] (ia [0,1] (Fs ({Z with last:=Z.last+1}:RS) Y hI0 (RD.rb (hD.last _) hn) d hd name (Z.last+1)) ?_)
 rintro β1 _ _ cW ⟨L1,rfl,rfl,dz⟩
 replace aE:=aE.trans cW
 refine jC 1 [] [(0,A_ 3 o6 12)] [(3,(zC (rV (dW ({Z with last:=Z.last+1}:RS) d name (Z.last+1)) Y)))] (NS ?_)
 have hl1:(dW ({Z with last:=Z.last+1}:RS) d name (Z.last+1)).ns.length=Z.ns.length:=Gs
 exact jN 5 [28,30] (λvW=>[(2,a_ 3 o6),(3,A_ 4 Ta 10)]) (λ_=>[]) (λvW=>.aD vW [vI (Z.last+1),vI (x.kind),vI (x.mode),vI (x.cM),vI (x.cO),vI (Z.cS),vI (Z.cZ),.slice none (0) (0),.string x.target,.slice none (0) (0)] 102) (λvW=>mO 0 22 (some ⟨vW,0,none⟩) 1 1 [vI (Z.last+1),vI (x.kind),vI (x.mode),vI (x.cM),vI (x.cO),vI (Z.cS),vI (Z.cZ),.slice none (0) (0),.string x.target,.slice none (0) (0)] rfl (gq (j:=6) rfl) (λqh qi=>aB.cR 0 rfl (IJ (n:=({x with id:=Z.last+1,bH:=Z.cS,bh:=Z.cZ}:aO)) (by show x.data.length=0;rw [hxd];rfl) (by show x.aq.length=0;rw [ME];rfl)) (sl 31 (.slice qh (((dW ({Z with last:=Z.last+1}:RS) d name (Z.last+1)).ns.length)+1) (qi)) (.slice qh (((dW ({Z with last:=Z.last+1}:RS) d name (Z.last+1)).ns++[({x with id:=Z.last+1,bH:=Z.cS,bh:=Z.cZ}:aO)]).length) (qi)) (by rw [←oo]) (jC 3 [] [(2,a_ 3 o6)] [(3,[(0,.slice qh (((dW ({Z with last:=Z.last+1}:RS) d name (Z.last+1)).ns++[({x with id:=Z.last+1,bH:=Z.cS,bh:=Z.cZ}:aO)]).length) (qi))])] (NS (jC 2 [] [(0,A_ 3 o6 12),(1,A_ 5 Kb 12)] [(5,[(0,.slice qh (((dW ({Z with last:=Z.last+1}:RS) d name (Z.last+1)).ns++[({x with id:=Z.last+1,bH:=Z.cS,bh:=Z.cZ}:aO)]).length) (qi)),(1,.slice Y.G ((dW ({Z with last:=Z.last+1}:RS) d name (Z.last+1)).aJ.length) (Y.cg)),(2,vI ((dW ({Z with last:=Z.last+1}:RS) d name (Z.last+1)).cH)),(3,vI ((dW ({Z with last:=Z.last+1}:RS) d name (Z.last+1)).aL)),(4,.slice Y.H ((dW ({Z with last:=Z.last+1}:RS) d name (Z.last+1)).us.length) (Y.ch)),(5,.slice Y.V ((dW ({Z with last:=Z.last+1}:RS) d name (Z.last+1)).us.length) (Y.cv)),(6,vI ((dW ({Z with last:=Z.last+1}:RS) d name (Z.last+1)).cN)),(7,vI ((dW ({Z with last:=Z.last+1}:RS) d name (Z.last+1)).cB)),(8,vI ((dW ({Z with last:=Z.last+1}:RS) d name (Z.last+1)).cH)),(9,vI ((dW ({Z with last:=Z.last+1}:RS) d name (Z.last+1)).cS)),(10,vI ((dW ({Z with last:=Z.last+1}:RS) d name (Z.last+1)).cZ)),(11,vI ((dW ({Z with last:=Z.last+1}:RS) d name (Z.last+1)).last))])] (eO [A_ 5 Kb 12] aE ⟨qh,qi,_,rfl,rfl,dz.snoc (n:=({x with id:=Z.last+1,bH:=Z.cS,bh:=Z.cZ}:aO)) rfl hxd ME rfl,by rw [←hl1];exact⟨t8 rfl,t8 rfl⟩⟩)))))) (n:=(dW ({Z with last:=Z.last+1}:RS) d name (Z.last+1)).ns.length) (hb:=by have:=hD.ns;omega))
theorem yB {β:Bs} (Z:RS) (Y:RL) (hR:dJ β Z Y) (hB:RB Z) :
 bK Tryz.prog β 97 #[.agg ⟨rV Z Y⟩] [] (λβ' v l=>∃Y',v=.agg ⟨rV (gD Z) Y'⟩/\l=[]/\dJ β' (gD Z) Y'):=by
 refine lW Tryz.func97 Tryz.ntmps97 (λaE R=>SR (jB 1 [1] (λnE=>.aD nE (rV Z Y) 45) (λnE=>jB 1 [2] (λyS=>.aD yS (rZ) 45) (λyS=>NS (jB 2 [3] (λb30=>.aD b30 [] 102) (λb30=>NS (aB.mem (λw hS=>hS.nW (i:=3) (b:=b30) (cs:=[]) (e:=102) 10 0 d6 rfl d8) (jB 2 [4] (λtW=>.aD tW [] 3) (λtW=>NZ (aB.mem (λw hS=>hS.nW (i:=4) (b:=tW) (cs:=[]) (e:=3) 1 0 d6 rfl d8) (jK 1 [5] [] (NN (av.block (lJ (λ(i,p,K,An,cn,l,Ag,cg)=>(i<=Z.ns.length)/\(p=tF Z i)/\(l=pP Z i)/\(ou β p p.length K)) (λ(i,p,K,An,cn,l,Ag,cg)=>Z.ns.length-i) (λ(i,p,K,An,cn,l,Ag,cg)=>(zT7 nE yS An p cn Ag l cg i)) (λ(i,p,K,An,cn,l,Ag,cg)=>(qy nE Z Y yS++[.abs (aI 102 10 An p.length cn (bS K p)),XH Ag l cg,.abs R])) (0,[],Iu,some ⟨b30,0,none⟩,0,[],some ⟨tW,0,none⟩,0) [1,2,3,4,0] (⟨L4 _,rfl,rfl,⟨λi hi=>KB hi (N5 i),λi hi=>KB hi (N5 i)⟩⟩) ?_))))))))))))))
 rintro⟨i,p,K,An,cn,l,Ag,cg⟩ ⟨hi,hp,hl,hK⟩
 have hbn:=hB.ns
 have hpl:p.length<=i:=by rw [hp];exact MR
 have hll:l.length<=i:=by rw [hl];exact XE
 refine SQ (jK 6 [16] [(3,a_ 0 nE)] (NN (cP ((((i:Nat):Int):Int)<(((Z.ns.length:Nat):Int):Int)) (λpz=>?_) (λpz=>?_))))
 ·refine KX (av.seq (av.block (SR (jK 8 [6] [(2,a_ 0 nE),(4,x_ i Z.ns.length (aN.hd hR.n (i:=i) d5)),(6,r_ (aN.rd hR.n (i:=i) d5 (j:=0) rfl))] (NS (jK 1 [7] [] (NZ (jK 1 [8] [] (NN (av.block (lJ (λ(k,op)=>(k<=Z.us.length)/\(op=true↔∃q,q<k/\(ji Z.us).getD q 0=(nd Z.ns i).id)) (λ(k,op)=>Z.us.length-k) (λ(k,op)=>(zT7 nE yS An p cn Ag l cg i++[(6,vI ((nd Z.ns i).id)),(7,.bool op),(8,vI ↑k)])) (λ(k,op)=>(qy nE Z Y yS++[.abs (aI 102 10 An p.length cn (bS K p)),XH Ag l cg,.abs R])) (0,false) [0,1,2,3,4] (⟨L4 _,⟨λe=>(by cases e),λ⟨q,h,_⟩=>KB h (N5 q)⟩⟩) ?_)))))))))))
  rintro⟨k,op⟩ ⟨hk,cD⟩
  have hbu:=hB.us
  refine SQ (jK 6 [31] [(3,a_ 0 nE)] (NN (cP ((((k:Nat):Int):Int)<(((Z.us.length:Nat):Int):Int)) (λLY=>KX (av.seq (av.block (SR (jK 8 [41] [(2,a_ 0 nE),(4,x_ k Z.us.length (xJ.hd (l:=(ji Z.us)) hR.v (j:=k) (by grind [kD,mF]))),(5,r_ (xJ.rd (l:=(ji Z.us)) hR.v (j:=k) (by grind [kD,mF])))] (NN (cP ((((ji Z.us).getD k 0):Int)=((nd Z.ns i).id:Int)) (λAi=>av.region (jK 1 [7] [] (LX (av.region (jK 3 [8] [(1,wJ ((k:Int)+1) (↑(k+1)))] (NL (tJ ((k+1),true) [0,1,2,3,4] (⟨d5,⟨λ_=>⟨k,d5,Ai⟩,λ_=>rfl⟩⟩)))))))) (λAi=>KX (av.region (jK 3 [8] [(1,wJ ((k:Int)+1) (↑(k+1)))] (NL (tJ ((k+1),op) [0,1,2,3,4] (⟨d5,⟨λe=>let ⟨q,h1,h2⟩:=cD.1 e;⟨q,d5,h2⟩,λ⟨q,h1,h2⟩=>cD.2 gn⟩⟩))))))))))))) (λLY=>XX (av.seq (SR ?_))))))
  replace cD:op=true↔(nd Z.ns i).id∈ji Z.us:=cD.trans (by rw [show k=Z.us.length by omega];exact ahk.symm)
  refine jK 2 [42,43] [(0,A_ 0 nE 12)] (gE [] (AJ Z Y hR hB (nd Z.ns i).id) (jK 1 [45] [] (sP 45 ((nd Z.ns i).id∈Z.aJ) (λvH=>?_) (λvH=>?_))))
  ·refine jK 2 [47] [] (jK 1 [48] [] (NN (av.cond (b:=(!op)) (λ_=>d6) (λh48=>?_) (λh48=>?_))))
   ·refine XX (av.region (jK 3 [5] [(1,wJ ((i:Int)+1) (↑(i+1)))] (NL ?_)))
    have hnk:¬rR Z (nd Z.ns i)=true:=λe=>by grind [IG]
    exact tJ ((i+1),p,K,An,cn,l,Ag,cg) [0,1,2,3,4] (⟨d5,by rw [hp,P6 d5 hnk],by rw [hl,Vh d5 hnk],hK⟩)
   have hkp:rR Z (nd Z.ns i)=true:=IG.2 (λhg=>cD.1 (by simpa using h48))
   refine KX (av.join (λ(l2,A2,c2)=>(l2=pP Z (i+1))) (λ(l2,A2,c2)=>(zT7 nE yS An p cn A2 l2 c2 i)) (λ(l2,A2,c2)=>(qy nE Z Y yS++[.abs (aI 102 10 An p.length cn (bS K p)),XH A2 l2 c2,.abs R])) ?_ (SR (jK 2 [49,50] [(0,A_ 0 nE 12)] (gE [] (AJ Z Y hR hB (nd Z.ns i).id) (NN (cP ((nd Z.ns i).id∈Z.aJ) (λwu=>av.region (jB 3 [52,54] (λEB=>.aD EB [vI ((nd Z.ns i).id)] 3) (λEB=>mO 3 41 (some ⟨EB,0,none⟩) 1 1 [vI ((nd Z.ns i).id)] rfl (gq (j:=5) rfl) (λA36 c37=>aB.cR 3 rfl (Fq) (sl 55 (.slice A36 (l.length+1) (c37)) (.slice A36 ((l++[(nd Z.ns i).id]).length) (c37)) (by rw [←oo]) (jK 1 [4] [] (NL (mJ ((l++[(nd Z.ns i).id]),A36,c37) [0,1,2,3,4] (by rw [hl,MP d5 hkp wu]))))))))) (λwu=>av.skip (mJ (l,Ag,cg) [0,1,2,3,4] (by rw [hl,P7 d5 hkp wu])))))))))
   rintro⟨l2,A2,c2⟩ hl2
   exact av.region (jN 8 [56,63] (λb32=>[(3,a_ 0 nE),(5,x_ i Z.ns.length (aN.hd hR.n (i:=i) d5)),(6,Et (iT Y.L i (nd Z.ns i)) (λ_ _ h=>aN.rd hR.n d5 h))]) (λ_=>[]) (λb32=>.aD b32 (iT Y.L i (nd Z.ns i)) 102) (λb32=>mO 2 22 (some ⟨b32,0,none⟩) 1 1 (iT Y.L i (nd Z.ns i)) rfl (gq (j:=5) rfl) (λMB MC=>aB.cR 2 rfl (IJ (n:=nd Z.ns i) rfl rfl) (sl 64 (.slice MB (p.length+1) (MC)) (.slice MB ((p++[nd Z.ns i]).length) (MC)) (by rw [←oo]) (jK 1 [3] [] (LX (av.region (jK 3 [5] [(1,wJ ((i:Int)+1) (↑(i+1)))] (NL (tJ ((i+1),(p++[nd Z.ns i]),(K.put p.length (Y.L.dA i) (Y.L.dC i) (Y.L.eA i) (Y.L.eC i)),MB,MC,l2,A2,c2) [0,1,2,3,4] (⟨d5,by rw [hp,BV d5 hkp],hl2,hK.snoc (hR.n.data i d5) (hR.n.aq i d5)⟩)))))))))))
  refine jK 2 [47] [] ?_
  have hkp:rR Z (nd Z.ns i)=true:=IG.2 (λhg=>KB hg vH)
  refine jK 1 [48] [] (NF (KX (av.join (λ(l2,A2,c2)=>(l2=pP Z (i+1))) (λ(l2,A2,c2)=>(zT7 nE yS An p cn A2 l2 c2 i)) (λ(l2,A2,c2)=>(qy nE Z Y yS++[.abs (aI 102 10 An p.length cn (bS K p)),XH A2 l2 c2,.abs R])) ?_ (SR (jK 2 [49,50] [(0,A_ 0 nE 12)] (gE [] (AJ Z Y hR hB (nd Z.ns i).id) (NN (cP ((nd Z.ns i).id∈Z.aJ) (λwu=>av.region (jB 3 [52,54] (λb41=>.aD b41 [vI ((nd Z.ns i).id)] 3) (λb41=>mO 3 41 (some ⟨b41,0,none⟩) 1 1 [vI ((nd Z.ns i).id)] rfl (gq (j:=5) rfl) (λA42 c43=>aB.cR 3 rfl (Fq) (sl 55 (.slice A42 (l.length+1) (c43)) (.slice A42 ((l++[(nd Z.ns i).id]).length) (c43)) (by rw [←oo]) (jK 1 [4] [] (NL (mJ ((l++[(nd Z.ns i).id]),A42,c43) [0,1,2,3,4] (by rw [hl,MP d5 hkp wu]))))))))) (λwu=>av.skip (mJ (l,Ag,cg) [0,1,2,3,4] (by rw [hl,P7 d5 hkp wu])))))))))))
  rintro⟨l2,A2,c2⟩ hl2
  exact av.region (jN 8 [56,63] (λAL=>[(3,a_ 0 nE),(5,x_ i Z.ns.length (aN.hd hR.n (i:=i) d5)),(6,Et (iT Y.L i (nd Z.ns i)) (λ_ _ h=>aN.rd hR.n d5 h))]) (λ_=>[]) (λAL=>.aD AL (iT Y.L i (nd Z.ns i)) 102) (λAL=>mO 2 22 (some ⟨AL,0,none⟩) 1 1 (iT Y.L i (nd Z.ns i)) rfl (gq (j:=5) rfl) (λA39 c40=>aB.cR 2 rfl (IJ (n:=nd Z.ns i) rfl rfl) (sl 64 (.slice A39 (p.length+1) (c40)) (.slice A39 ((p++[nd Z.ns i]).length) (c40)) (by rw [←oo]) (jK 1 [3] [] (LX (av.region (jK 3 [5] [(1,wJ ((i:Int)+1) (↑(i+1)))] (NL (tJ ((i+1),(p++[nd Z.ns i]),(K.put p.length (Y.L.dA i) (Y.L.dC i) (Y.L.eA i) (Y.L.eC i)),A39,c40,l2,A2,c2) [0,1,2,3,4] (⟨d5,by rw [hp,BV d5 hkp],hl2,hK.snoc (hR.n.data i d5) (hR.n.aq i d5)⟩)))))))))))
 refine XX (SR ?_)
 have hie:i=Z.ns.length:=d5
 rw [hie] at hp hl
 refine aB.mA (Φ:=λβ'=>cq β' An (bS K p)) 2 [0,1,3,4] (gj:=(qy nE Z Y yS++[XH Ag l cg,.abs R])) rfl rfl d6 (λF w h β' h1 h2=>cq.gZ h h1 h2) (λβ1 cW hN=>?_)
 replace hR:=hR.le cW
 replace hK:=hK.le cW
 replace aE:=aE.trans cW
 refine aB.mA (Φ:=λβ'=>cq β' Ag (bL l)) 2 [0,1,3] (gj:=(qy nE Z Y yS++[.abs R])) rfl rfl d6 (λF w h β' h1 h2=>cq.gZ h h1 h2) (λoV gJ hG=>?_)
 replace hR:=hR.le gJ
 replace hK:=hK.le gJ
 replace hN:=hN.le gJ
 replace aE:=aE.trans gJ
 exact jC 4 [] [(3,a_ 0 nE)] [(0,[(0,.slice An (p.length) (cn))])] (NS (jC 3 [] [(2,a_ 0 nE)] [(0,[(1,.slice Ag (l.length) (cg))])] (NS (jC 2 [] [(0,A_ 0 nE 12),(1,A_ 1 yS 12)] [(1,([(0,.slice An (p.length) (cn)),(1,.slice Ag (l.length) (cg))]++aeV Z Y++zT8 Z))] (eO [A_ 1 yS 12] aE ⟨⟨An,cn,K,Ag,cg,Y.H,Y.ch,Y.V,Y.cv⟩,by simp only [rV];rw [Qb hp,Ka hl]<;>rfl,rfl,aaR hR hN hG hp hl hK⟩ [2])))))
theorem Qc {β:Bs} (Z:RS) (Y:RL) (hR:dJ β Z Y) (hC:RU Z) (k:Nat) (hk:k<Z.ns.length) :
 bK Tryz.prog β 88 #[.agg ⟨rV Z Y⟩,vI (((k:Nat):Int))] [] (λβ' v l=>∃Y',v=.tuple #[.agg ⟨rV ((mg Z k).1) Y'⟩,vI (mg Z k).2.1,vI (mg Z k).2.2]/\l=[]/\dJ β' (mg Z k).1 Y'):=by
 refine lW Tryz.func88 Tryz.ntmps88 (λaE R=>SR (jB 1 [2] (λsD=>.aD sD (rV Z Y) 45) (λsD=>jB 3 [4] (λwG=>.aD wG (rZ) 45) (λwG=>NN (av.seq ?_)))))
 by_cases hf:(Z.us.length:Int)<Z.cH
 ·refine av.pW (S:=[.aD sD (rV Z Y) 45]) (wo [0,1,2,3,4,5,6,7,8] (oJ 14 [(false,15),(false,16),(false,17)] [(false,9),(true,10),(true,11),(true,12),(true,13)])) [1] (gT (oJ 14 [(false,15),(false,16),(false,17)] [(false,9),(true,10),(true,11),(true,12),(true,13)]) (aeT sD wG Z Y k) [0,1,2,3,4,5,6,7,8] [(1,A_ 0 sD 4),(4,a_ 0 sD),(6,x_ k Z.ns.length (aN.hd hR.n (i:=k) d5)),(8,r_ (aN.rd hR.n (i:=k) d5 (j:=0) rfl))] (lX.one (j:=14) (dj:=7) (R:=λf_ l_=>∃A1:Option Addr,∃c1:Nat,∃B1:Option Addr,∃d1:Nat,f_=[(23,vI 0),(22,vI ((aH.aR Z.us))),(21,.agg #[vI (Z.cH),vI ((max Z.aL ((Z.us.length:Int)+1))),.slice A1 ((ins (aH.aR Z.us) (nd Z.ns k).id Z.us).length) (c1),.slice B1 ((ins (aH.aR Z.us) (nd Z.ns k).id Z.us).length) (d1)]),(10,.tuple #[.agg #[vI (Z.cH),vI ((max Z.aL ((Z.us.length:Int)+1))),.slice A1 ((ins (aH.aR Z.us) (nd Z.ns k).id Z.us).length) (c1),.slice B1 ((ins (aH.aR Z.us) (nd Z.ns k).id Z.us).length) (d1)],vI ((aH.aR Z.us)),vI 0]),(20,.tuple #[.agg #[vI (Z.cH),vI ((max Z.aL ((Z.us.length:Int)+1))),.slice A1 ((ins (aH.aR Z.us) (nd Z.ns k).id Z.us).length) (c1),.slice B1 ((ins (aH.aR Z.us) (nd Z.ns k).id Z.us).length) (d1)],vI ((aH.aR Z.us)),vI 0]),(2,vP sD),(4,vP wG),(12,.agg #[vI (Z.cH),vI (Z.aL),.slice Y.H (Z.us.length) (Y.ch),.slice Y.V (Z.us.length) (Y.cv)]),(19,vI ((nd Z.ns k).id))]/\l_=[zT4 A1 Z k c1,zT5 B1 Z k d1]) [1] [(false,9,20),(true,10,10),(true,11,21),(true,12,22),(true,13,23)] (iJ.of (ι:=Nat) (v:=λ(t6:Nat)=>vP t6) (l:=λ(t6:Nat)=>[.aD t6 [vI 0,vI 0,.slice none (0) (0),.slice none (0) (0)] 43]) [20,10,21,22,23] rfl rfl rfl rfl ?_) ?_ ?_))
  ·intro u Aq
   exact jB 1 [7] (λt6=>.aD t6 [vI 0,vI 0,.slice none (0) (0),.slice none (0) (0)] 43) (λt6=>NL (MD t6 [7,20,10,21,22,23,2,4,12,19] [1,0]))
  ·refine ef.step (iJ.of (ι:=(Option Addr)×Nat×(Option Addr)×Nat) (v:=λ((A1,c1,B1,d1):(Option Addr)×Nat×(Option Addr)×Nat)=>.tuple #[.agg #[vI (Z.cH),vI ((max Z.aL ((Z.us.length:Int)+1))),.slice A1 ((ins (aH.aR Z.us) (nd Z.ns k).id Z.us).length) (c1),.slice B1 ((ins (aH.aR Z.us) (nd Z.ns k).id Z.us).length) (d1)],vI ((aH.aR Z.us)),vI 0]) (l:=λ((A1,c1,B1,d1):(Option Addr)×Nat×(Option Addr)×Nat)=>[zT4 A1 Z k c1,zT5 B1 Z k d1]) [7] rfl rfl rfl rfl ?_) ?_
   ·intro u Aq
    refine gL [] (adp Z.cH Z.aL Y.H Y.V Y.ch Y.cv Z.us hR.h hR.v (by have:=hC.us;omega) hC.usr hC.wC (nd Z.ns k).id hf) ?_
    rintro _ _ ⟨A1,c1,B1,d1,rfl,rfl⟩
    exact NL (MD (A1,c1,B1,d1) [20,7,2,4,12,19] [0,1,2])
   rintro _ _ ⟨⟨A1,c1,B1,d1⟩,rfl,rfl⟩
   exact (ef.read (.tuple #[.agg #[vI (Z.cH),vI ((max Z.aL ((Z.us.length:Int)+1))),.slice A1 ((ins (aH.aR Z.us) (nd Z.ns k).id Z.us).length) (c1),.slice B1 ((ins (aH.aR Z.us) (nd Z.ns k).id Z.us).length) (d1)],vI ((aH.aR Z.us)),vI 0]) (ef.read (.agg #[vI (Z.cH),vI ((max Z.aL ((Z.us.length:Int)+1))),.slice A1 ((ins (aH.aR Z.us) (nd Z.ns k).id Z.us).length) (c1),.slice B1 ((ins (aH.aR Z.us) (nd Z.ns k).id Z.us).length) (d1)]) (ef.read (.int .i64 ((aH.aR Z.us))) (ef.read (.int .i64 0) ⟨A1,c1,B1,d1,rfl,rfl⟩))))
  rintro _ _ ⟨A1,c1,B1,d1,rfl,rfl⟩ _ _ ⟨t6,rfl,rfl⟩
  refine kC [4] [] [(0,A_ 2 t6 4)] [(2,[(0,vI (Z.cH)),(1,vI ((max Z.aL ((Z.us.length:Int)+1)))),(2,.slice A1 ((ins (aH.aR Z.us) (nd Z.ns k).id Z.us).length) (c1)),(3,.slice B1 ((ins (aH.aR Z.us) (nd Z.ns k).id Z.us).length) (d1))])] (eH.cut (ι:=Unit) (bN:=λ(_:Unit)=>[(2,vP sD),(4,vP wG),(7,vP t6),(8,vI (aH.aR Z.us)),(23,vI 0)]) (dh:=λ(_:Unit)=>([zT4 A1 Z k c1,zT5 B1 Z k d1,zT6 t6 Z A1 k c1 B1 d1,.abs R]++qy sD Z Y wG)) [4] d6 ?_ rfl (λ_=>d6) ?_)
  ·exact jK 1 [8] [] (NL (MD () [2,4,7,8,23] [0,1,2,3,4,5]))
  rintro _
  refine eH.last d6 (jK 1 [9] [] (NL (aF.np (NX (SR (aB.mA (Φ:=λβ'=>cq β' A1 (bL (aY (ins (aH.aR Z.us) (nd Z.ns k).id Z.us)))) 0 [1,2,3,4,5] (gj:=([zT5 B1 Z k d1,zT6 t6 Z A1 k c1 B1 d1,.abs R]++qy sD Z Y wG)) rfl rfl d6 (λF w h β' h1 h2=>cq.gZ h h1 h2) (λβ1 cW hH=>?_)))))))
  replace hR:=hR.le cW
  replace aE:=aE.trans cW
  refine aB.mA (Φ:=λβ'=>cq β' B1 (bL (ji (ins (aH.aR Z.us) (nd Z.ns k).id Z.us)))) 0 [1,2,3,4] (gj:=([zT6 t6 Z A1 k c1 B1 d1,.abs R]++qy sD Z Y wG)) rfl rfl d6 (λF w h β' h1 h2=>cq.gZ h h1 h2) (λoV gJ hV=>?_)
  replace hR:=hR.le gJ
  replace hH:=hH.le gJ
  replace aE:=aE.trans gJ
  exact jC 3 [] [(0,A_ 0 t6 4),(2,A_ 2 sD 4)] [(2,(aeU Z A1 k c1 B1 d1))] (NS (jC 6 [5,6] [(0,A_ 2 sD 12),(3,A_ 3 wG 12)] [(3,([(0,.slice Y.A (Z.ns.length) (Y.c)),(1,.slice Y.G (Z.aJ.length) (Y.cg)),(2,vI (Z.cH))]++aeU Z A1 k c1 B1 d1++zT8 Z))] (eO [A_ 3 wG 12] aE ⟨⟨Y.A,Y.c,Y.L,Y.G,Y.cg,A1,c1,B1,d1⟩,by rw [Qa hf]<;>rfl,rfl,by rw [Qa hf];exact⟨⟨hR.g,hH,hV⟩,hR.n⟩⟩ [1])))
 refine av.pW (S:=[.aD sD (rV Z Y) 45]) (wo [0,1,2,3,4,5,6,7,8] (oJ 14 [(false,15),(false,16),(false,17)] [(false,9),(true,10),(true,11),(true,12),(true,13)])) [1] (gT (oJ 14 [(false,15),(false,16),(false,17)] [(false,9),(true,10),(true,11),(true,12),(true,13)]) (aeT sD wG Z Y k) [0,1,2,3,4,5,6,7,8] [(1,A_ 0 sD 4),(4,a_ 0 sD),(6,x_ k Z.ns.length (aN.hd hR.n (i:=k) d5)),(8,r_ (aN.rd hR.n (i:=k) d5 (j:=0) rfl))] (lX.one (j:=14) (dj:=7) (R:=λf_ l_=>f_=[(23,vI 130),(22,vI 0),(21,.agg #[vI (Z.cH),vI (Z.aL),.slice Y.H (Z.us.length) (Y.ch),.slice Y.V (Z.us.length) (Y.cv)]),(10,.tuple #[.agg #[vI (Z.cH),vI (Z.aL),.slice Y.H (Z.us.length) (Y.ch),.slice Y.V (Z.us.length) (Y.cv)],vI 0,vI 130]),(20,.tuple #[.agg #[vI (Z.cH),vI (Z.aL),.slice Y.H (Z.us.length) (Y.ch),.slice Y.V (Z.us.length) (Y.cv)],vI 0,vI 130]),(2,vP sD),(4,vP wG),(12,.agg #[vI (Z.cH),vI (Z.aL),.slice Y.H (Z.us.length) (Y.ch),.slice Y.V (Z.us.length) (Y.cv)]),(19,vI ((nd Z.ns k).id))]/\l_=[]) [1] [(false,9,20),(true,10,10),(true,11,21),(true,12,22),(true,13,23)] (iJ.of (ι:=Nat) (v:=λ(yA:Nat)=>vP yA) (l:=λ(yA:Nat)=>[.aD yA [vI 0,vI 0,.slice none (0) (0),.slice none (0) (0)] 43]) [20,10,21,22,23] rfl rfl rfl rfl ?_) ?_ ?_))
 ·intro u Aq
  exact jB 1 [7] (λyA=>.aD yA [vI 0,vI 0,.slice none (0) (0),.slice none (0) (0)] 43) (λyA=>NL (MD yA [7,20,10,21,22,23,2,4,12,19] [1,0]))
 ·refine ef.step (iJ.of (ι:=Unit) (v:=λ(_:Unit)=>.tuple #[.agg #[vI (Z.cH),vI (Z.aL),.slice Y.H (Z.us.length) (Y.ch),.slice Y.V (Z.us.length) (Y.cv)],vI 0,vI 130]) (l:=λ(_:Unit)=>[]) [7] rfl rfl rfl rfl ?_) ?_
  ·intro u Aq
   exact gE [] (aaG Z.cH Z.aL Y.H Y.V Y.ch Y.cv Z.us (nd Z.ns k).id d5) (NL (MD () [20,7,2,4,12,19] [0]))
  rintro _ _ ⟨_,rfl,rfl⟩
  exact (ef.read (.tuple #[.agg #[vI (Z.cH),vI (Z.aL),.slice Y.H (Z.us.length) (Y.ch),.slice Y.V (Z.us.length) (Y.cv)],vI 0,vI 130]) (ef.read (.agg #[vI (Z.cH),vI (Z.aL),.slice Y.H (Z.us.length) (Y.ch),.slice Y.V (Z.us.length) (Y.cv)]) (ef.read (.int .i64 0) (ef.read (.int .i64 130) ⟨rfl,rfl⟩))))
 rintro _ _ ⟨rfl,rfl⟩ _ _ ⟨yA,rfl,rfl⟩
 refine kC [2] [] [(0,A_ 0 yA 4)] [(0,[(0,vI (Z.cH)),(1,vI (Z.aL)),(2,.slice Y.H (Z.us.length) (Y.ch)),(3,.slice Y.V (Z.us.length) (Y.cv))])] (eH.cut (ι:=Unit) (bN:=λ(_:Unit)=>[(2,vP sD),(4,vP wG),(7,vP yA),(8,vI 0),(23,vI 130)]) (dh:=λ(_:Unit)=>([.aD yA [vI (Z.cH),vI (Z.aL),.slice Y.H (Z.us.length) (Y.ch),.slice Y.V (Z.us.length) (Y.cv)] 43,.abs R]++qy sD Z Y wG)) [2] d6 ?_ rfl (λ_=>d6) ?_)
 ·exact jK 1 [8] [] (NL (MD () [2,4,7,8,23] [0,1,2,3]))
 rintro _
 exact eH.last d6 (jK 1 [9] [] (NL (aF.np (NX (SR (jC 3 [] [(0,A_ 0 yA 4),(2,A_ 2 sD 4)] [] (NS (jC 6 [5,6] [(0,A_ 2 sD 12),(3,A_ 3 wG 12)] [(3,(zC (rV Z Y)))] (eO [A_ 3 wG 12] aE ⟨Y,by rw [S9 hf]<;>rfl,rfl,by rw [S9 hf];exact hR⟩ [1])))))))))
end
section
open Go.RowKit Go.Maps bw aH
section q
variable {β β':Bs} {N:fP} {Q:Post} {e:Exit} {fr:Fr} {ay l:List HP}
theorem aF.freeze (R:List HP) (pk:List Nat) (hn:bU pk=true) (hp:cT ay pk=some (l++R)) (K:∀β':Bs,β.le β'->oe β R β'->aF β' N Q e fr l):aF β N Q e fr ay:=λar w hS=>by
 obtain⟨β',h,_,gG⟩:=(hS.pick hn hp).sF
 exact K β' h.le h ar w gG
variable {P:Program} {ops:Array Oper} {k:Nat}
theorem aB.freeze (R:List HP) (pk:List Nat) (hn:bU pk=true) (hp:cT ay pk=some (l++R)) (K:∀β':Bs,β.le β'->oe β R β'->aB P β' N ops k fr l Q):aB P β N ops k fr ay Q:=λar w hS=>by
 obtain⟨β',h,_,gG⟩:=(hS.pick hn hp).sF
 exact K β' h.le h ar w gG
theorem aF.eP (ix:List Nat) (R:List HP) (K:∀β':Bs,β.le β'->oe β R β'->aF β' N Q e fr (lS ix ay 0)) (hn:bU (oq ix ay.length 0++ix)=true:=by kernel_rfl) (hp:cT ay (oq ix ay.length 0++ix)=some (lS ix ay 0++R):=by kernel_rfl):aF β N Q e fr ay:=aF.freeze R _ hn hp K
theorem aB.eP (ix:List Nat) (R:List HP) (K:∀β':Bs,β.le β'->oe β R β'->aB P β' N ops k fr (lS ix ay 0) Q) (hn:bU (oq ix ay.length 0++ix)=true:=by kernel_rfl) (hp:cT ay (oq ix ay.length 0++ix)=some (lS ix ay 0++R):=by kernel_rfl):aB P β N ops k fr ay Q:=aB.freeze R _ hn hp K
variable {c:Code}
theorem av.vZ (i:Nat) {e:TypeId} {size n cap:Nat} {A:Option Addr} {xs:List Value} (hp:ay[i]?=some (.abs (aI e size A n cap xs))) (hn:0<n) (K:A=some ⟨bG A,bE A,none⟩->av P β N c fr ay Q):av P β N c fr ay Q:=λar w hS=>
 let ⟨_,h⟩:=hS.get hp;K (aI.I4 h hn).1 ar w hS
def acd (N:fP) {ι:Type} (B:ι->Bs) (bB:ι->Prop) (fr:ι->Fr) (hp:ι->List HP):Act->World->Prop:=λa w=>∃i,bB i/\∃ar,a=fk N (fr i) ar/\aP (B i) (hp i) w
theorem av.ace {x y:Code} {ι:Type} (B:ι->Bs) (bB:ι->Prop) (bN:ι->Fr) (dh:ι->List HP) (hr:∀i,bB i->av P (B i) N y (bN i) (dh i) Q) (hf:av P β N x fr ay (Exit.then (acd N B bB bN dh) Q)):av P β N (.seq x y) fr ay Q:=by
 intro ar w hS
 refine wp_seq (aiY (λe a w q=>?_) (hf ar w hS))
 cases e with
 |normal=>
   obtain⟨i,hi,nV,rfl,gG⟩:=q
   exact hr i hi nV w gG
 |exit id=>exact q
 |goto l=>exact q
 |ret=>exact q
 |panic ch=>exact q
 |outgrown=>exact q
theorem aF.acf {ι:Type} {B:ι->Bs} {bB:ι->Prop} {bN:ι->Fr} {dh:ι->List HP} (i:ι) (hb:B i=β) {ax pk:List Nat} (hi:bB i) (hf:∀ar,kO fr ar ax=bN i) (hn:bU pk=true) (hp:cT ay pk=some (dh i)) :
 aF β N (Exit.then (acd N B bB bN dh) Q) .normal fr ay:=λar _ hS=>⟨i,hi,lk fr ar,by rw [nS N fr ar ax,hf ar],hb ▸ hS.pick hn hp⟩
end q
section k
variable {P:Program} {β β':Bs} {R R':RS} {f:FuncId} {args:Array Value} {x:Value} {ns ns':List aO} {L:fq} {A B G H V:Option Addr} {c cb cg ch cv d k to:Nat} {n:aO} {bs ds:List UInt8} {name aG:ByteArray} {c0:aK}
structure CZ (β:Bs) (R:RS) (L:fq) (H V:Option Addr) (k:Nat):Prop where
 data:∀i,i<R.ns.length->i≠k->bO β (L.dA i) (nd R.ns i).data
 aq:∀i,i<R.ns.length->cV β (L.eA i) (nd R.ns i).aq
 h:cq β H (bL (aY R.us))
 v:cq β V (bL (ji R.us))
theorem CZ.le (h:CZ β R L H V k) (dP:β.le β'):CZ β' R L H V k:=⟨λi hi hk=>(h.data i hi hk).le dP,λi hi=>(h.aq i hi).le dP,h.h.le dP,h.v.le dP⟩
theorem CZ.at (h:CZ β R L H V k) (hA:B=L.dA k) (hd:ds=(nd R.ns k).data) (g:oe β [.abs (aI 102 10 A R.ns.length c (bS L R.ns)),.abs (aI 3 1 G R.aJ.length cg (bL R.aJ)),.abs (aI 5 1 B ds.length cb (d9 ds))] β'):dJ β' R ⟨A,c,L,G,cg,H,ch,V,cv⟩:=by
 obtain⟨F,h1,h2⟩:=g.get 0 rfl
 obtain⟨F2,g1,g2⟩:=g.get 1 rfl
 obtain⟨F3,k1,k2⟩:=g.get 2 rfl
 have h':=h.le g.le
 refine⟨⟨cq.gZ g1 g2 rfl,h'.h,h'.v⟩,cq.gZ h1 h2 rfl,λi hi=>?_,h'.aq⟩
 by_cases e:i=k
 ·subst e;rw [←hA,←hd];exact cq.gZ k1 k2 rfl
 exact h'.data i hi e
theorem Qd (h:CZ β R L H V k) (hA:B=L.dA k) (hd:ds=(nd R.ns k).data) (hs:∀β',β.le β'->dJ β' R ⟨A,c,L,G,cg,H,ch,V,cv⟩->aU P β' f args [] (λv l=>v=x/\l=[])) :
 aU P β f args [.abs (aI 102 10 A R.ns.length c (bS L R.ns)),.abs (aI 3 1 G R.aJ.length cg (bL R.aJ)),.abs (aI 5 1 B ds.length cb (d9 ds))] (λv l=>v=x/\l=[.abs (aI 102 10 A R.ns.length c (bS L R.ns)),.abs (aI 3 1 G R.aJ.length cg (bL R.aJ)),.abs (aI 5 1 B ds.length cb (d9 ds))]):=
 (aU.sF (pre:=[]) (R:=[.abs (aI 102 10 A R.ns.length c (bS L R.ns)),.abs (aI 3 1 G R.aJ.length cg (bL R.aJ)),.abs (aI 5 1 B ds.length cb (d9 ds))]) (λβ' g=>hs β' g.le (h.at hA hd g))).mono (by rintro v l ⟨l0,⟨rfl,rfl⟩,rfl⟩;exact⟨rfl,rfl⟩)
theorem CZ.set (h:CZ β R L H V k) (hk:k<R.ns.length) (hn:R'.ns=R.ns.set k n) (he:n.aq=(nd R.ns k).aq) (hu:R'.us=R.us):CZ β R' (L.dat k B c) H V k:=by
 refine⟨λi hi hk2=>?_,λi hi=>?_,by rw [hu];exact h.h,by rw [hu];exact h.v⟩
 ·rw [hn,T7] at hi
  rw [hn,wg hk,nw hk2]
  show bO β (if i=k then B else L.dA i) _
  rw [nw hk2];exact h.data i hi hk2
 rw [hn,T7] at hi
 rw [hn,wg hk]
 by_cases e:i=k
 ·rw [t8 e,he];subst e;exact h.aq i hi
 rw [nw e];exact h.aq i hi
theorem Tb {m:Nat} (h:ds.length=m):bs.length+m=(bs++ds).length:=by rw [T3,h]
theorem XI {m:Nat} (h:ds.length=m):HP.abs (aI 5 1 B (bs.length+m) c (d9 bs++d9 ds))=HP.abs (aI 5 1 B (bs++ds).length c (d9 (bs++ds))):=by
 grind [Tb,d9]
theorem aaS:(L.dat k B c).dA k=B:=t8 rfl
theorem adu {s z:Int} (hk:k<ns.length) (h:ns'=ns.set k {nd ns k with data:=ds,bH:=s,bh:=z}) :
 HP.abs (aI 102 10 A ns.length c ((((bS L ns).set (k*10+7) (.slice B ds.length cb)).set (k*10+5) (.int .i64 s)).set (k*10+5+1) (.int .i64 z)))=HP.abs (aI 102 10 A ns'.length c (bS (L.dat k B cb) ns')):=by
 rw [Vj hk,Hg (by rw [T7];exact hk),wg hk,t8 rfl,List.set_set,h,T7]
def kH (R:RS) (bs:List UInt8):Nat:=(min (bs.length:Int) (R.cB-(fZ R.ns R.ns.length:Int))).toNat
def Gt (R:RS) (k:Nat) (bs:List UInt8):RS:={R with ns:=R.ns.set k {nd R.ns k with data:=(nd R.ns k).data++bs.take (kH R bs),bH:=R.cS,bh:=R.cZ}}
theorem XJ (h:(bs.length:Int)=0):kZ R k bs=(R,0,0):=t8 (aiK d5)
theorem XK (h:¬(bs.length:Int)=0) (h2:R.cB-(fZ R.ns R.ns.length:Int)<=0):kZ R k bs=(R,0,176):=(nw (λe=>h (by rw [e];rfl))).trans (t8 h2)
theorem XL (h:¬(bs.length:Int)=0) (h2:¬R.cB-(fZ R.ns R.ns.length:Int)<=0):kZ R k bs=(Gt R k bs,(kH R bs:Int),0):=(nw (λe=>h (by rw [e];rfl))).trans (nw h2)
theorem Kc (h:n.kind=3) (h1:¬lF n.target=0):cG R d name n=(R,lF n.target):=t8 ⟨h,h1⟩
theorem NA (h:¬(n.kind=3/\lF n.target≠0)) (h1:cQ R.ns d name=(k:Int)):cG R d name n=(R,171):=(nw h).trans (t8 (by rw [h1];omega))
theorem Gu (h:¬(n.kind=3/\lF n.target≠0)) (h1:cQ R.ns d name = -1) (h2:¬vY R):cG R d name n=(R,177):=(nw h).trans ((nw (by rw [h1];decide)).trans (nw h2))
theorem NC (h:¬(n.kind=3/\lF n.target≠0)) (h1:cQ R.ns d name = -1) (h2:vY R):cG R d name n=(kz R d name n,0):=(nw h).trans ((nw (by rw [h1];decide)).trans (t8 h2))
variable {b:Bool}
theorem acg (h:cQ R.ns d name = -1):jV R d name b=(R,170):=nw (by rw [h];decide)
theorem Gv (h:cQ R.ns d name=(k:Int)):jV R d name b=if b=false/\(nd R.ns k).kind=2 then (R,172) else if b=true/\(nd R.ns k).kind≠2 then (R,173) else if b=true/\0<(nd R.ns k).aq.length then (R,178) else (gD (dg R d name true),0):=by
 grind [jV]
theorem aeW (h:cQ R.ns d name=(k:Int)) (h1:b=false/\(nd R.ns k).kind=2):jV R d name b=(R,172):=(Gv h).trans (t8 h1)
theorem aeX (h:cQ R.ns d name=(k:Int)) (h1:¬(b=false/\(nd R.ns k).kind=2)) (h2:b=true/\(nd R.ns k).kind≠2):jV R d name b=(R,173):=(Gv h).trans ((nw h1).trans (t8 h2))
theorem aeY (h:cQ R.ns d name=(k:Int)) (h1:¬(b=false/\(nd R.ns k).kind=2)) (h2:¬(b=true/\(nd R.ns k).kind≠2)) (h3:b=true/\0<(nd R.ns k).aq.length):jV R d name b=(R,178):=(Gv h).trans ((nw h1).trans ((nw h2).trans (t8 h3)))
theorem aeZ (h:cQ R.ns d name=(k:Int)) (h1:¬(b=false/\(nd R.ns k).kind=2)) (h2:¬(b=true/\(nd R.ns k).kind≠2)) (h3:¬(b=true/\0<(nd R.ns k).aq.length)):jV R d name b=(gD (dg R d name true),0):=(Gv h).trans ((nw h1).trans ((nw h2).trans (nw h3)))
variable {w:Int}
theorem ae0 {z:Int} (h:lM R c0.bA c0.name 64=.error z):kX R c0 w=(R,0,z):=by unfold kX;rw [h]
theorem ae1 (h:lM R c0.bA c0.name 64=.ok d) (h1:cQ R.ns d c0.name = -1):kX R c0 w=(R,0,170):=by unfold kX;rw [h];exact nw (by rw [h1];decide)
theorem Gw (h:lM R c0.bA c0.name 64=.ok d) (h1:cQ R.ns d c0.name=(k:Int)):kX R c0 w=if (nd R.ns k).kind=3 then (R,0,174) else if (nd R.ns k).kind≠w then (R,0,if (nd R.ns k).kind=1 then 173 else 172) else mg R k:=by
 grind [kX]
theorem ae2 (h:lM R c0.bA c0.name 64=.ok d) (h1:cQ R.ns d c0.name=(k:Int)) (h2:(nd R.ns k).kind=3):kX R c0 w=(R,0,174):=(Gw h h1).trans (t8 h2)
theorem ae3 (h:lM R c0.bA c0.name 64=.ok d) (h1:cQ R.ns d c0.name=(k:Int)) (h2:¬(nd R.ns k).kind=3) (h3:¬(nd R.ns k).kind=w) (h4:(nd R.ns k).kind=1):kX R c0 w=(R,0,173):=(Gw h h1).trans ((nw h2).trans ((t8 h3).trans (by rw [t8 h4])))
theorem ae4 (h:lM R c0.bA c0.name 64=.ok d) (h1:cQ R.ns d c0.name=(k:Int)) (h2:¬(nd R.ns k).kind=3) (h3:¬(nd R.ns k).kind=w) (h4:¬(nd R.ns k).kind=1):kX R c0 w=(R,0,172):=(Gw h h1).trans ((nw h2).trans ((t8 h3).trans (by rw [nw h4])))
theorem ae5 (h:lM R c0.bA c0.name 64=.ok d) (h1:cQ R.ns d c0.name=(k:Int)) (h2:¬(nd R.ns k).kind=3) (h3:(nd R.ns k).kind=w):kX R c0 w=mg R k:=(Gw h h1).trans ((nw h2).trans (nw (λq=>q h3)))
theorem ae6 (h:cQ R.ns d name = -1):jW R d name to aG=(R,170):=nw (by rw [h];decide)
def AQ (R:RS) (d:Nat) (name:ByteArray) (to:Nat) (aG:ByteArray) (k:Nat) (R1:RS):RS:=gD (dW (dg R1 d name false) to aG (nd R.ns k).id)
theorem Gx (h:cQ R.ns d name=(k:Int)):jW R d name to aG=if (nd R.ns k).kind=2/\jO R.ns k (R.ns.length+1) to=true then (R,174) else if cQ R.ns to aG=(k:Int) then (R,0) else if 0<=cQ R.ns to aG then (if (nd R.ns (cQ R.ns to aG).toNat).kind=2 then (R,172) else if (nd R.ns k).kind=2 then (R,173) else (AQ R d name to aG k (dg R to aG true),0)) else (AQ R d name to aG k R,0):=by
 unfold jW
 rw [t8 (by rw [h];omega),h];rfl
variable {t:Nat}
theorem ae7 (h:cQ R.ns d name=(k:Int)) (h1:(nd R.ns k).kind=2/\jO R.ns k (R.ns.length+1) to=true):jW R d name to aG=(R,174):=(Gx h).trans (t8 h1)
theorem ae8 (h:cQ R.ns d name=(k:Int)) (h1:¬((nd R.ns k).kind=2/\jO R.ns k (R.ns.length+1) to=true)) (h2:cQ R.ns to aG=(k:Int)):jW R d name to aG=(R,0):=(Gx h).trans ((nw h1).trans (t8 h2))
theorem ahl (h:cQ R.ns d name=(k:Int)) (h1:¬((nd R.ns k).kind=2/\jO R.ns k (R.ns.length+1) to=true)) (h2:cQ R.ns to aG = -1):jW R d name to aG=(AQ R d name to aG k R,0):=(Gx h).trans ((nw h1).trans ((nw (by rw [h2];omega)).trans (nw (by rw [h2];decide))))
theorem aaT (h:cQ R.ns d name=(k:Int)) (h1:¬((nd R.ns k).kind=2/\jO R.ns k (R.ns.length+1) to=true)) (h2:cQ R.ns to aG=(t:Int)) (h3:¬(t:Int)=(k:Int)):jW R d name to aG=if (nd R.ns t).kind=2 then (R,172) else if (nd R.ns k).kind=2 then (R,173) else (AQ R d name to aG k (dg R to aG true),0):=by
 grind [Gx]
theorem ae9 (h:cQ R.ns d name=(k:Int)) (h1:¬((nd R.ns k).kind=2/\jO R.ns k (R.ns.length+1) to=true)) (h2:cQ R.ns to aG=(t:Int)) (h3:¬(t:Int)=(k:Int)) (h4:(nd R.ns t).kind=2):jW R d name to aG=(R,172):=(aaT h h1 h2 h3).trans (t8 h4)
theorem afa (h:cQ R.ns d name=(k:Int)) (h1:¬((nd R.ns k).kind=2/\jO R.ns k (R.ns.length+1) to=true)) (h2:cQ R.ns to aG=(t:Int)) (h3:¬(t:Int)=(k:Int)) (h4:¬(nd R.ns t).kind=2) (h5:(nd R.ns k).kind=2):jW R d name to aG=(R,173):=(aaT h h1 h2 h3).trans ((nw h4).trans (t8 h5))
theorem ahm (h:cQ R.ns d name=(k:Int)) (h1:¬((nd R.ns k).kind=2/\jO R.ns k (R.ns.length+1) to=true)) (h2:cQ R.ns to aG=(t:Int)) (h3:¬(t:Int)=(k:Int)) (h4:¬(nd R.ns t).kind=2) (h5:¬(nd R.ns k).kind=2):jW R d name to aG=(AQ R d name to aG k (dg R to aG true),0):=(aaT h h1 h2 h3).trans ((nw h4).trans (nw h5))
noncomputable def aaU (R:RS) (c:aK) (d:Nat) (n:aO):xu:=if (cG R d c.name n).2=0/\c.op=5 then mg (cG R d c.name n).1 ((cG R d c.name n).1.ns.length-1) else ((cG R d c.name n).1,0,(cG R d c.name n).2)
theorem afb (h:¬(c0.op=8\/c0.op=14)) (h1:¬c0.op=6) (h2:¬mT c0.mode):mZ R c0 d=(R,0,120):=(nw h).trans ((nw h1).trans (nw h2))
theorem ahn (h:¬(c0.op=8\/c0.op=14)) (h1:¬c0.op=6) (h2:mT c0.mode) (h3:¬c0.op=5):mZ R c0 d=aaU R c0 d ⟨0,2,c0.mode,0,0,0,0,[],⟨#[]⟩,[]⟩:=((nw h).trans ((nw h1).trans ((t8 h2).trans (nw h3)))).trans (nw (λq=>h3 q.2)).symm
theorem Ke (h:¬((cG R d c0.name n).2=0/\c0.op=5)):aaU R c0 d n=((cG R d c0.name n).1,0,(cG R d c0.name n).2):=nw h
theorem aaV (h:c0.op=1):dI R c0=if 0<=gU R.ns c0.other then (if (nd R.ns (bZ R.ns c0.other)).kind=2 then mg R (bZ R.ns c0.other) else (R,0,173)) else (R,0,141):=t8 h
theorem ach (h:c0.op=1) (h1:gU R.ns c0.other = -1):dI R c0=(R,0,141):=(aaV h).trans (nw (by rw [h1];decide))
theorem aci (h:c0.op=1) (h1:0<=gU R.ns c0.other) (h2:¬(nd R.ns (bZ R.ns c0.other)).kind=2):dI R c0=(R,0,173):=(aaV h).trans ((t8 h1).trans (nw h2))
theorem acj (h:c0.op=1) (h1:0<=gU R.ns c0.other) (h2:(nd R.ns (bZ R.ns c0.other)).kind=2):dI R c0=mg R (bZ R.ns c0.other):=(aaV h).trans ((t8 h1).trans (t8 h2))
theorem afc (h:c0.op=2):dI R c0=kX R c0 2:=by unfold dI;rw [nw d5,t8 h]
abbrev Hj (n:Int):Prop:=n=4\/n=5\/n=6\/n=8\/n=14
theorem afd (h:Hj c0.op):dI R c0=match lM R c0.bA c0.name 192 with|.error e=>(R,0,e)|.ok d=>mZ R c0 d:=by unfold dI;rw [nw d5,nw d5,nw d5,t8 h];rfl
theorem ack {z:Int} (h:Hj c0.op) (h1:lM R c0.bA c0.name 192=.error z):dI R c0=(R,0,z):=by rw [afd h,h1]
theorem acn (h:Hj c0.op) (h1:lM R c0.bA c0.name 192=.ok d):dI R c0=mZ R c0 d:=by rw [afd h,h1]
theorem aco (h:c0.op=13):dI R c0=if c0.bA∈aY R.us then (gD {R with us:=del c0.bA R.us},0,0) else (gD R,0,131):=by unfold dI;rw [nw d5,nw d5,nw d5,nw d5,nw d5,nw d5,nw d5,t8 h]
theorem XM (h:c0.op=13) (h1:c0.bA∈aY R.us):dI R c0=(gD {R with us:=del c0.bA R.us},0,0):=(aco h).trans (t8 h1)
theorem XO (h:c0.op=13) (h1:c0.bA∉aY R.us):dI R c0=(gD R,0,131):=(aco h).trans (nw h1)
end k
end
section
open Go.RowKit Go.Maps bw aH
attribute [local irreducible] aB bJ av aF eH
noncomputable abbrev XP (Y:RL) (k:Nat) (Z:RS):=(.abs (aI 5 1 (Y.L.dA k) ((nd Z.ns k).data.length) (Y.L.dC k) (d9 (nd Z.ns k).data)):HP)
noncomputable abbrev zU2 (b11:Nat) (b12:Nat):=([(4,vP b11),(8,vP b12)]:Fr)
theorem Qe {β:Bs} (Z:RS) (Y:RL) (k:Nat) (hI:CZ β Z Y.L Y.H Y.V k) (hC:RC Z) (hk:k<Z.ns.length) (dA:Option Addr) (dC:Nat) (bs:List UInt8) (hbs:bO β dA bs) (hbl:bs.length<=140737488355328) (hbc:bs.length<=dC) :
 bK Tryz.prog β 94 #[.agg ⟨rV Z Y⟩,vI (((k:Nat):Int)),.slice dA (bs.length) (dC)] [kI Y Z,ko Y Z,XP Y k Z] (λβ' v l=>∃Y',v=.tuple #[.agg ⟨rV ((kZ Z k bs).1) Y'⟩,vI (kZ Z k bs).2.1,vI (kZ Z k bs).2.2]/\l=[]/\dJ β' (kZ Z k bs).1 Y'):=by
 refine lW Tryz.func94 Tryz.ntmps94 (λaE R=>SR (jB 1 [3] (λb1=>.aD b1 (rV Z Y) 45) (λb1=>jB 3 [6] (λb2=>.aD b2 (rZ) 45) (λb2=>NZ (jK 3 [13] [] (NN (cP ((((bs.length:Nat):Int):Int)=(0:Int)) (λsH=>?_) (λsH=>?_))))))))
 ·refine SR (jC 4 [7,8] [(0,A_ 4 b1 12),(1,A_ 5 b2 12)] [(5,(zC (rV Z Y)))] (NN (av.ret (aF.br (aF.eP [0,1,2] [kI Y Z,ko Y Z,XP Y k Z] (λvn fY hL=>?_))))))
  have kq:dJ vn Z Y:=hI.at rfl rfl hL
  replace aE:=aE.trans fY
  exact rB _ [A_ 2 b2 12] [0] aE (⟨Y,by rw [XJ sH]<;>rfl,rfl,by rw [XJ sH];exact kq⟩)
 refine KX (av.seq (rQ (jQ 4 [17,18] [(2,a_ 4 b1),(3,A_ 4 b1 12)] (zH (pre:=[kI Y Z,ko Y Z,XP Y k Z]) [0,1,2] [0,1,2,3,4,5] (.int .i64 ↑(fZ Z.ns Z.ns.length)) (Qd hI rfl rfl (λ_ _ h=>aaE Z Y h hC.toRB)) (jQ 2 [9] [(0,w_ (.int .i64 ((Z.cB-((fZ Z.ns Z.ns.length):Int)))) (vw rfl (by have:=hC.cap;have:=hC.dat;omega) (by have:=hC.cap;omega)))] (NQ (NX (SQ (jK 2 [22] [] (NN (cP (((Z.cB-((fZ Z.ns Z.ns.length):Int)):Int)<=(0:Int)) (λtH=>?_) (λtH=>?_))))))))))))
 ·refine SR (jC 4 [7,8] [(0,A_ 4 b1 12),(1,A_ 5 b2 12)] [(5,(zC (rV Z Y)))] (NN (av.ret (aF.br (aF.eP [0,1,2] [kI Y Z,ko Y Z,XP Y k Z] (λBZ jH hL=>?_))))))
  have kq:dJ BZ Z Y:=hI.at rfl rfl hL
  replace aE:=aE.trans jH
  exact rB _ [A_ 2 b2 12] [0] aE (⟨Y,by rw [XK sH tH]<;>rfl,rfl,by rw [XK sH tH];exact kq⟩)
 refine KX (SR (jK 3 [10] [] (NN (av.join (λ(u:Unit)=>True) (λ(u:Unit)=>[(1,vI ↑k),(2,.slice dA (bs.length) (dC)),(3,vP b1),(6,vP b2),(10,vI ↑(kH Z bs))]) (λ(u:Unit)=>([kI Y Z,ko Y Z,XP Y k Z,.abs R]++qy b1 Z Y b2)) ?_ (SR (jK 3 [28] [] (NN (cP ((((bs.length:Nat):Int):Int)>((Z.cB-((fZ Z.ns Z.ns.length):Int)):Int)) (λtN=>av.region (jK 2 [10] [] (NL (aF.slot 10 (vI ((Z.cB-((fZ Z.ns Z.ns.length):Int)))) (.int .i64 ↑(kH Z bs)) (λ_=>d6) (zc (Value.int .i64) (by unfold kH;omega)) (mJ () [0,1,2,3,4,5] (trivial)))))) (λtN=>av.skip (aF.slot 10 (vI ↑bs.length) (.int .i64 ↑(kH Z bs)) (λ_=>d6) (zc (Value.int .i64) (by unfold kH;omega)) (mJ () [0,1,2,3,4,5] (trivial))))))))))))
 rintro u _
 refine av.seq ?_
 have hml:(bs.take (kH Z bs)).length=kH Z bs:=by grind [kH]
 have hdk:=P8 (ns:=Z.ns) Z.ns.length hk
 have hmb:kH Z bs<=bs.length:=by unfold kH;omega
 have hmr:(kH Z bs:Int)<=Z.cB-(fZ Z.ns Z.ns.length:Int):=by unfold kH;omega
 have hcb:=hC.cap
 refine av.vZ 0 rfl d5 (λpR=>?_)
 refine jM [0,1,2,3,4,5,6,7,8,9,10,11,12,13,514,15,16,517] [4,0] (jG 14 [1,3,6,10,32,33,40,43] [(2,a_ 0 b1),(6,a_ 0 b1),(8,x_ k Z.ns.length (pR)),(10,v_ 1 (nA Z.ns Y.L Y.A Y.c k 7 hk rfl)),(13,xP (kH Z bs) ((kH Z bs)<=dC))] (eH.cut (ι:=(Option Addr)×Nat) (bN:=λ((A5,c6):(Option Addr)×Nat)=>[(1,vI ↑k),(3,vP b1),(6,vP b2),(10,vI ↑(kH Z bs)),(32,.slice Y.A (Z.ns.length) (Y.c)),(33,vI ↑k),(44,.slice A5 (((nd Z.ns k).data++bs.take (kH Z bs)).length) (c6))]) (dh:=λ((A5,c6):(Option Addr)×Nat)=>([kI Y Z,ko Y Z,.abs (aI 5 1 A5 (((nd Z.ns k).data++bs.take (kH Z bs)).length) c6 (d9 ((nd Z.ns k).data++bs.take (kH Z bs)))),.abs R]++qy b1 Z Y b2)) [4,0] d6 ?_ rfl (λ_=>d6) ?_))
 ·exact VX 2 61 dA (kH Z bs) dC (d9 (bs.take (kH Z bs))) rfl ((bO.take hbs (kH Z bs)).src) (λA5 c6=>aB.cR 2 rfl (XI hml) (sl 44 (.slice A5 (((nd Z.ns k).data.length)+(kH Z bs)) (c6)) (.slice A5 (((nd Z.ns k).data++bs.take (kH Z bs)).length) (c6)) (by rw [Tb hml]) (NL (MD (A5,c6) [1,3,6,10,32,33,44] [0,1,2,3,4,5])))) (hl:=by rw [vF,hml,Nat.mul_one]) (h1:=r8 _)
 rintro⟨A5,c6⟩
 refine jG 2 [1,3,6,10,44,46] [(0,x_ k Z.ns.length (pR))] (eH.last d6 (aB.Ln 0 (k*10+7) (d:=none) (T:=61) (e:=102) (size:=10) (n:=Z.ns.length) (cap:=Y.c) (A:=Y.A) (xs:=(bS Y.L Z.ns)) (u:=.slice A5 (((nd Z.ns k).data++bs.take (kH Z bs)).length) (c6)) (a:=(.tmp 46)) (y:=(.tmp 44)) (λ_=>d6) d6 (λ_=>d6) (λ_=>d6) d6 rfl d5 (by rw [s5];omega) (NL (aF.np (NX (SR (jK 9 [53,55] [(2,a_ 4 b1),(6,A_ 4 b1 2),(7,x_ k Z.ns.length (pR))] (aB.II 0 (k*10+5) (d:=none) (T:=26) (e:=102) (size:=10) (n:=Z.ns.length) (cap:=Y.c) (A:=Y.A) (xs:=((bS Y.L Z.ns).set (k*10+7) (.slice A5 (((nd Z.ns k).data++bs.take (kH Z bs)).length) (c6)))) (u:=.int .i64 (Z.cS)) (u2:=.int .i64 (Z.cZ)) (a:=(.tmp 55)) (y:=(.tmp 53)) (λ_=>d6) d6 (λ_=>d6) (λ_=>d6) d6 rfl rfl d5 (by rw [T7,s5];omega) (aB.cR 0 rfl (adu hk rfl) (NS (jC 5 [7,8] [(0,A_ 4 b1 12),(2,A_ 5 b2 12)] [(5,(zC (rV Z Y)))] (NN (av.ret (aF.eP [0,1,2] [.abs (aI 102 10 Y.A ((Gt Z k bs).ns.length) Y.c (bS (Y.L.dat k A5 c6) (Gt Z k bs).ns)),ko Y Z,.abs (aI 5 1 A5 (((nd Z.ns k).data++bs.take (kH Z bs)).length) c6 (d9 ((nd Z.ns k).data++bs.take (kH Z bs))))] (λql cU hL=>?_)))))))))))))))
 have kq:dJ ql (Gt Z k bs) ⟨Y.A,Y.c,(Y.L.dat k A5 c6),Y.G,Y.cg,Y.H,Y.ch,Y.V,Y.cv⟩:=(hI.set (R':=Gt Z k bs) hk rfl rfl rfl).at aaS.symm (by show _=(nd (Z.ns.set k _) k).data;rw [wg hk,t8 rfl]) hL
 replace aE:=aE.trans cU
 exact rB (.tuple #[.agg ⟨rV Z Y⟩,vI ↑(kH Z bs),vI 0]) [A_ 2 b2 12] [0] aE (⟨⟨Y.A,Y.c,(Y.L.dat k A5 c6),Y.G,Y.cg,Y.H,Y.ch,Y.V,Y.cv⟩,by grind [rV,XL,Gt,kH],rfl,by rw [XL sH tH];exact kq⟩)
theorem yC {β:Bs} (Z:RS) (Y:RL) (hI:mP β Z Y.L Y.H Y.V) (hC:RC Z) {n:Nat} (hD:RD n Z) (hn:n<=7) (d:Nat) (hd:d<Z.ns.length) (name:ByteArray) (x:aO) (hxd:x.data=[]) (ME:x.aq=[]) (Me:x.target.size<=1048576) :
 bK Tryz.prog β 112 #[.agg ⟨rV Z Y⟩,vI (((d:Nat):Int)),.string name,.agg #[vI (x.id),vI (x.kind),vI (x.mode),vI (x.cM),vI (x.cO),vI (x.bH),vI (x.bh),.slice none (0) (0),.string x.target,.slice none (0) (0)]] [kI Y Z,ko Y Z] (λβ' v l=>∃A' c' L',v=.tuple #[.agg ⟨rW ((cG Z d name x).1) A' c' Y.G Y.cg Y.H Y.ch Y.V Y.cv⟩,vI (cG Z d name x).2]/\l=[.abs (aI 102 10 A' ((cG Z d name x).1.ns.length) c' (bS L' (cG Z d name x).1.ns)),.abs (aI 3 1 Y.G ((cG Z d name x).1.aJ.length) Y.cg (bL (cG Z d name x).1.aJ))]/\mP β' (cG Z d name x).1 L' Y.H Y.V/\(((cG Z d name x).2=0/\L'.dA Z.ns.length=none/\L'.dC Z.ns.length=0)\/((cG Z d name x).2≠0/\A'=Y.A/\c'=Y.c/\L'=Y.L))):=by
 refine lW Tryz.func112 Tryz.ntmps112 (λaE R=>SR (jB 1 [4] (λb8=>.aD b8 (rV Z Y) 45) (λb8=>jB 1 [7] (λb9=>.aD b9 [vI (x.id),vI (x.kind),vI (x.mode),vI (x.cM),vI (x.cO),vI (x.bH),vI (x.bh),.slice none (0) (0),.string x.target,.slice none (0) (0)] 102) (λb9=>jB 2 [8] (λb10=>.aD b10 (rZ) 45) (λb10=>NN (av.join (λ(u:Unit)=>(¬(x.kind=3/\lF x.target≠0))) (λ(u:Unit)=>[(1,vI ↑d),(2,.string name),(4,vP b8),(7,vP b9),(8,vP b10)]) (λ(u:Unit)=>[kI Y Z,ko Y Z,.abs R,.aD b8 (rV Z Y) 45,.aD b9 [vI (x.id),vI (x.kind),vI (x.mode),vI (x.cM),vI (x.cO),vI (x.bH),vI (x.bh),.slice none (0) (0),.string x.target,.slice none (0) (0)] 102,.aD b10 (rZ) 45]) ?_ (SR (jK 3 [13] [(1,a_ 4 b9)] (NN (cP ((x.kind:Int)=(3:Int)) (λsH=>SR (jK 2 [15] [(1,a_ 4 b9)] (gE [] (aaN x.target Me) (jK 1 [10] [] (NS (jK 2 [18] [] (NN (cN (((lF x.target):Int)=(0:Int)) (λpQ=>SR (jC 4 [9] [(0,A_ 3 b8 12),(2,A_ 5 b10 12)] [(5,(zC (rV Z Y)))] (eO [A_ 5 b10 12] aE ⟨Y.A,Y.c,Y.L,by rw [Kc sH pQ]<;>rfl,by rw [Kc sH pQ],by rw [Kc sH pQ];exact hI,.inr (by rw [Kc sH pQ];exact⟨pQ,rfl,rfl,rfl⟩)⟩))) (λpQ=>av.skip (mJ () [0,1,2,3,4,5] (λq=>q.2 d5))))))))))) (λsH=>av.skip (mJ () [0,1,2,3,4,5] (λq=>sH q.1)))))))))))))
 rintro u hb
 refine SQ (jK 3 [21,22,23] [(0,A_ 3 b8 12)] ?_)
 rcases nY Z.ns d name with hl|⟨k,hl,hk⟩
 ·refine gE [0,1] ((jm hI (λ_ _ h=>mz Z Y h hC d hd name)).val (zc (Value.int .i64) hl)) (jK 1 [25] [] (NF (KX (SQ (jK 1 [27] [(0,A_ 3 b8 12)] (gE [0,1] (jm hI (λ_ _ h=>aaM Z Y h hC.toRB)) (jK 1 [29] [] (NN (cN (vY Z) (λtN=>SR (jC 3 [9] [(0,A_ 3 b8 12),(1,A_ 5 b10 12)] [(5,(zC (rV Z Y)))] (eO [A_ 5 b10 12] aE ⟨Y.A,Y.c,Y.L,by rw [Gu hb hl tN]<;>rfl,by rw [Gu hb hl tN],by rw [Gu hb hl tN];exact hI,.inr (by rw [Gu hb hl tN];exact⟨(show (177:Int)≠0 by decide),rfl,rfl,rfl⟩)⟩))) (λtN=>KX (SR (jK 4 [31,32,33,34] [(0,A_ 3 b8 12),(3,A_ 4 b9 10)] (ia [0,1] (adt Z Y hI hD d5 ⟨hC.cap.2.2.2.2.2.2.1,tN.2.1⟩ d hd name x hxd ME) ?_)))))))))))))
  rintro β1 _ _ cW ⟨A1,c1,L1,rfl,rfl,dz,hnd⟩
  replace aE:=aE.trans cW
  exact jC 2 [9] [(0,A_ 5 b10 12)] [(5,(zC (rW (kz Z d name x) A1 c1 Y.G Y.cg Y.H Y.ch Y.V Y.cv)))] (eO [A_ 5 b10 12] aE ⟨A1,c1,L1,by rw [NC hb hl tN]<;>rfl,by rw [NC hb hl tN],by rw [NC hb hl tN];exact dz,.inl (by rw [NC hb hl tN];exact⟨rfl,hnd⟩)⟩)
 exact gE [0,1] ((jm hI (λ_ _ h=>mz Z Y h hC d hd name)).val (zc (Value.int .i64) hl)) (jK 1 [25] [(0,wT (((k:Int):Int)>=(0:Int)))] (NT (SR (jC 3 [9] [(0,A_ 3 b8 12),(1,A_ 5 b10 12)] [(5,(zC (rV Z Y)))] (eO [A_ 5 b10 12] aE ⟨Y.A,Y.c,Y.L,by rw [NA hb hl]<;>rfl,by rw [NA hb hl],by rw [NA hb hl];exact hI,.inr (by rw [NA hb hl];exact⟨(show (171:Int)≠0 by decide),rfl,rfl,rfl⟩)⟩)))))
theorem MT {β:Bs} (Z:RS) (Y:RL) (hI:mP β Z Y.L Y.H Y.V) (hC:RC Z) {n:Nat} (hD:RD n Z) (hn:n<=7) (d:Nat) (hd:d<Z.ns.length) (name:ByteArray) (dir:Bool) :
 bK Tryz.prog β 113 #[.agg ⟨rV Z Y⟩,vI (((d:Nat):Int)),.string name,.bool dir] [kI Y Z,ko Y Z] (λβ' v l=>∃Y',v=.tuple #[.agg ⟨rV ((jV Z d name dir).1) Y'⟩,vI (jV Z d name dir).2]/\l=[]/\dJ β' (jV Z d name dir).1 Y'):=by
 refine lW Tryz.func113 Tryz.ntmps113 (λaE R=>SR (jB 1 [4] (λb11=>.aD b11 (rV Z Y) 45) (λb11=>jB 2 [8] (λb12=>.aD b12 (rZ) 45) (λb12=>NS (jK 3 [11,12,13] [(0,A_ 3 b11 12)] ?_)))))
 rcases nY Z.ns d name with hl|⟨k,hl,hk⟩
 ·refine gE [0,1] ((jm hI (λ_ _ h=>mz Z Y h hC d hd name)).val (zc (Value.int .i64) hl)) (jK 1 [10] [] (NZ (jK 2 [16] [] (NT (SR (jC 3 [9] [(0,A_ 3 b11 12),(1,A_ 4 b12 12)] [(4,(zC (rV Z Y)))] (NN (av.ret (aF.br (aF.eP [0,1] [kI Y Z,ko Y Z] (λQf AR hL=>?_)))))))))))
  have kq:dJ Qf Z Y:=hI.at hL
  replace aE:=aE.trans AR
  exact rB _ [A_ 2 b12 12] [0] aE (⟨Y,by rw [acg hl]<;>rfl,rfl,by rw [acg hl];exact kq⟩)
 refine aB.vZ 0 rfl d5 (λpR=>gE [0,1] ((jm hI (λ_ _ h=>mz Z Y h hC d hd name)).val (zc (Value.int .i64) hl)) (jK 1 [10] [] (NZ (jK 2 [16] [(1,wF (((k:Int):Int)<(0:Int)))] (NF (KX (av.join (λ(u:Unit)=>(¬(dir=false/\(nd Z.ns k).kind=2))) (λ(u:Unit)=>([(1,vI ↑d),(2,.string name),(3,.bool dir)]++zU2 b11 b12++[(10,vI ↑k)])) (λ(u:Unit)=>([kI Y Z,ko Y Z,.abs R]++qy b11 Z Y b12)) ?_ ?_)))))))
 ·rintro u n1
  refine av.join (λ(u:Unit)=>(¬(dir=true/\(nd Z.ns k).kind≠2))) (λ(u:Unit)=>([(1,vI ↑d),(2,.string name),(3,.bool dir)]++zU2 b11 b12++[(10,vI ↑k)])) (λ(u:Unit)=>([kI Y Z,ko Y Z,.abs R]++qy b11 Z Y b12)) ?_ ?_
  ·rintro u n2
   refine av.join (λ(u:Unit)=>(¬(dir=true/\0<(nd Z.ns k).aq.length))) (λ(u:Unit)=>([(1,vI ↑d),(2,.string name)]++zU2 b11 b12)) (λ(u:Unit)=>([kI Y Z,ko Y Z,.abs R]++qy b11 Z Y b12)) ?_ ?_
   ·rintro u n3
    refine SR (jK 3 [56,57,58] [(0,A_ 3 b11 12)] (ia [0,1] (BW Z Y hI hD d5 d hd name true) ?_))
    rintro β1 _ _ cW ⟨L1,G1,g1,rfl,rfl,dz⟩
    replace aE:=aE.trans cW
    refine aB.eP [0,1] [.abs (aI 102 10 Y.A ((dg Z d name true).ns.length) Y.c (bS L1 (dg Z d name true).ns)),.abs (aI 3 1 G1 ((dg Z d name true).aJ.length) g1 (bL (dg Z d name true).aJ))] (λoV gJ hL=>?_)
    have wH:dJ oV (dg Z d name true) ⟨Y.A,Y.c,L1,G1,g1,Y.H,Y.ch,Y.V,Y.cv⟩:=dz.at hL
    replace aE:=aE.trans gJ
    refine ia [] (yB (dg Z d name true) ⟨Y.A,Y.c,L1,G1,g1,Y.H,Y.ch,Y.V,Y.cv⟩ wH ((hD.S7 hd).rb d5)) ?_
    rintro vn _ _ fY ⟨Y3,rfl,rfl,nQ⟩
    replace aE:=aE.trans fY
    exact jC 2 [9] [(0,A_ 2 b12 12)] [(2,(zC (rV (gD (dg Z d name true)) Y3)))] (eO [A_ 2 b12 12] aE ⟨Y3,by rw [aeZ hl n1 n2 n3]<;>rfl,rfl,by rw [aeZ hl n1 n2 n3];exact nQ⟩)
   refine SR (jK 2 [44] [] (aB.qD 44 dir (λ_=>d6) (λzQ=>jK 10 [54] [(2,a_ 3 b11),(4,x_ k Z.ns.length (pR)),(6,v_ 0 (nA Z.ns Y.L Y.A Y.c k 9 hk rfl))] (NN (cP (((((nd Z.ns k).aq.length:Nat):Int):Int)>(0:Int)) (λFu=>SR (jC 3 [9] [(0,A_ 3 b11 12),(1,A_ 4 b12 12)] [(4,(zC (rV Z Y)))] (NN (av.ret (aF.br (aF.eP [0,1] [kI Y Z,ko Y Z] (λFv j7 hL=>?_))))))) (λFu=>av.skip (mJ () [0,1,2,3,4] ((λq=>Fu d5))))))) (λzQ=>jK 10 [54] [] (NF (av.skip (mJ () [0,1,2,3,4] ((λq=>by rw [q.1] at zQ;cases zQ))))))))
   have kq:dJ Fv Z Y:=hI.at hL
   replace aE:=aE.trans j7
   exact rB (.tuple #[.agg ⟨rV Z Y⟩,vI 178]) [A_ 2 b12 12] [0] aE (⟨Y,by grind [aeY],rfl,by grind [aeY]⟩)
  refine SR (jK 2 [32] [] (aB.qD 32 dir (λ_=>d6) (λr9=>jK 9 [41] [(2,a_ 3 b11),(4,x_ k Z.ns.length (pR)),(6,v_ 0 (nA Z.ns Y.L Y.A Y.c k 1 hk rfl))] (NN (cN (((nd Z.ns k).kind:Int)=(2:Int)) (λAi=>SR (jC 3 [9] [(0,A_ 3 b11 12),(1,A_ 4 b12 12)] [(4,(zC (rV Z Y)))] (NN (av.ret (aF.br (aF.eP [0,1] [kI Y Z,ko Y Z] (λCt gP hL=>?_))))))) (λAi=>av.skip (mJ () [0,1,2,3,4] ((λq=>q.2 Ai))))))) (λr9=>jK 9 [41] [] (NF (av.skip (mJ () [0,1,2,3,4] ((λq=>by rw [q.1] at r9;cases r9))))))))
  have kq:dJ Ct Z Y:=hI.at hL
  replace aE:=aE.trans gP
  exact rB _ [A_ 2 b12 12] [0] aE (⟨Y,by rw [aeX hl n1 ⟨r9,Ai⟩]<;>rfl,rfl,by grind [aeX]⟩)
 refine SR (jK 3 [20] [] (aB.qD 20 (!dir) (λ_=>d6) (λlZ=>jK 9 [29] [(2,a_ 3 b11),(4,x_ k Z.ns.length (pR)),(6,v_ 0 (nA Z.ns Y.L Y.A Y.c k 1 hk rfl))] (NN (cP (((nd Z.ns k).kind:Int)=(2:Int)) (λCX=>SR (jC 3 [9] [(0,A_ 3 b11 12),(1,A_ 4 b12 12)] [(4,(zC (rV Z Y)))] (NN (av.ret (aF.br (aF.eP [0,1] [kI Y Z,ko Y Z] (λFw iA hL=>?_))))))) (λCX=>av.skip (mJ () [0,1,2,3,4] ((λq=>CX q.2))))))) (λlZ=>jK 9 [29] [] (NF (av.skip (mJ () [0,1,2,3,4] ((λq=>by rw [q.1] at lZ;cases lZ))))))))
 have kq:dJ Fw Z Y:=hI.at hL
 replace aE:=aE.trans iA
 exact rB (.tuple #[.agg ⟨rV Z Y⟩,vI 172]) [A_ 2 b12 12] [0] aE (⟨Y,by grind [aeW],rfl,by grind [aeW]⟩)
noncomputable abbrev zV1 (A1:Option Addr) (Z) (d:Nat) (c:aK) (x:aO) (c1:Nat) (L1):=(.abs (aI 102 10 A1 ((cG Z d c.name x).1.ns.length) c1 (bS L1 (cG Z d c.name x).1.ns)):HP)
noncomputable abbrev zV2 (Y:RL) (Z) (d:Nat) (c:aK) (x:aO):=(.abs (aI 3 1 Y.G ((cG Z d c.name x).1.aJ.length) Y.cg (bL (cG Z d c.name x).1.aJ)):HP)
noncomputable abbrev zV3 (f:Nat) (name) (to:Nat) (aG) (b1:Nat) (b2:Nat):=([(1,vI ↑f),(2,.string name),(3,vI ↑to),(4,.string aG),(5,vP b1),(10,vP b2)]:Fr)
noncomputable abbrev zV4 (Y:RL) (Z1) (f:Nat) (name) (to:Nat) (aG) (Z:RS) (k:Nat) (L3) (G2) (g2):=([.abs (aI 102 10 Y.A ((dW (dg Z1 f name false) to aG (nd Z.ns k).id).ns.length) Y.c (bS L3 (dW (dg Z1 f name false) to aG (nd Z.ns k).id).ns)),.abs (aI 3 1 G2 ((dW (dg Z1 f name false) to aG (nd Z.ns k).id).aJ.length) g2 (bL (dW (dg Z1 f name false) to aG (nd Z.ns k).id).aJ))]:List HP)
noncomputable abbrev zV5 (b1:Nat) (Z1:RS) (Y:RL) (G1) (g1) (b2:Nat) (L1):=([.aD b1 (rW Z1 Y.A Y.c G1 g1 Y.H Y.ch Y.V Y.cv) 45,.aD b2 (rZ) 45,.abs (aI 102 10 Y.A Z1.ns.length Y.c (bS L1 Z1.ns)),.abs (aI 3 1 G1 Z1.aJ.length g1 (bL Z1.aJ))]:List HP)
theorem XQ {β:Bs} (Z:RS) (Y:RL) (hI:mP β Z Y.L Y.H Y.V) (hC:RC Z) {n:Nat} (hD:RD n Z) (hn:n<=4) (f:Nat) (hf:f<Z.ns.length) (name:ByteArray) (to:Nat) (fw:to<Z.ns.length) (aG:ByteArray) :
 bK Tryz.prog β 98 #[.agg ⟨rV Z Y⟩,vI (((f:Nat):Int)),.string name,vI (((to:Nat):Int)),.string aG] [kI Y Z,ko Y Z] (λβ' v l=>∃Y',v=.tuple #[.agg ⟨rV ((jW Z f name to aG).1) Y'⟩,vI (jW Z f name to aG).2]/\l=[]/\dJ β' (jW Z f name to aG).1 Y'):=by
 refine lW Tryz.func98 Tryz.ntmps98 (λaE R=>SR (jB 1 [5] (λb1=>.aD b1 (rV Z Y) 45) (λb1=>jB 2 [10] (λb2=>.aD b2 (rZ) 45) (λb2=>NS (jK 3 [16,17,18] [(0,A_ 3 b1 12)] ?_)))))
 rcases nY Z.ns f name with hl|⟨k,hl,hk⟩
 ·refine gE [0,1] ((jm hI (λ_ _ h=>mz Z Y h hC f hf name)).val (zc (Value.int .i64) hl)) (jK 1 [12] [] (NZ (jK 2 [21] [] (NT (SR (jC 3 [11] [(0,A_ 3 b1 12),(1,A_ 4 b2 12)] [(4,(zC (rV Z Y)))] (NN (av.ret (aF.br (aF.eP [0,1] [kI Y Z,ko Y Z] (λvn fY hL=>?_)))))))))))
  have kq:dJ vn Z Y:=hI.at hL
  replace aE:=aE.trans fY
  exact rB _ [A_ 2 b2 12] [0] aE (⟨Y,by rw [ae6 hl]<;>rfl,rfl,by rw [ae6 hl];exact kq⟩)
 refine aB.vZ 0 rfl d5 (λpR=>gE [0,1] ((jm hI (λ_ _ h=>mz Z Y h hC f hf name)).val (zc (Value.int .i64) hl)) (jK 1 [12] [] (NZ (jK 2 [21] [(1,wF (((k:Int):Int)<(0:Int)))] (NF (KX (SR (jK 9 [13] [(2,a_ 3 b1),(4,x_ k Z.ns.length (pR)),(6,v_ 0 (nA Z.ns Y.L Y.A Y.c k 1 hk rfl))] (NN (av.join (λ(u:Unit)=>(¬((nd Z.ns k).kind=2/\jO Z.ns k (Z.ns.length+1) to=true))) (λ(u:Unit)=>(zV3 f name to aG b1 b2++[(12,vI ↑k),(13,.bool (decide (((nd Z.ns k).kind:Int)=(2:Int))))])) (λ(u:Unit)=>[kI Y Z,ko Y Z,.abs R,.aD b1 (rV Z Y) 45,.aD b2 (rZ) 45]) ?_ ?_))))))))))
 ·rintro u n1
  refine SR (jK 3 [39,40,41] [(0,A_ 3 b1 12)] ?_)
  rcases nY Z.ns to aG with hl2|⟨t,hl2,ht⟩
  ·refine gE [0,1] ((jm hI (λ_ _ h=>mz Z Y h hC to fw aG)).val (zc (Value.int .i64) hl2)) (jK 1 [14] [] (NS (jK 8 [15] [(2,a_ 3 b1),(4,x_ k Z.ns.length (pR)),(6,v_ 0 (nA Z.ns Y.L Y.A Y.c k 0 hk rfl))] (NZ (jK 3 [52] [] (NN (cP (((-1):Int)=(((k:Nat):Int):Int)) (λuW=>KB uW (by omega)) (λuW=>KX (av.ace (ι:=Bs×RS×fq×(Option Addr)×Nat) (λ(b,Z1,L1,G1,g1)=>b) (λ(b,Z1,L1,G1,g1)=>(β.le b)/\(mP b Z1 L1 Y.H Y.V)/\(RD (n+1) Z1)/\(Z1.ns.length=Z.ns.length)/\((jW Z f name to aG)=(AQ Z f name to aG k Z1,0))) (λ(b,Z1,L1,G1,g1)=>(zV3 f name to aG b1 b2++[(15,vI ((nd Z.ns k).id))])) (λ(b,Z1,L1,G1,g1)=>(zV5 b1 Z1 Y G1 g1 b2 L1++[.abs R])) ?_ (SR (jK 2 [55] [] (NF (av.skip (aF.acf (β,Z,Y.L,Y.G,Y.cg) rfl (ax:=[1,2,3,4,5,10,15]) (pk:=[3,4,0,1,2]) (⟨aE,hI,(hD.up d5),rfl,ahl hl n1 hl2⟩) (λ_=>d6) rfl d6))))))))))))))
   rintro⟨b,Z1,L1,G1,g1⟩ ⟨aE,dz,CG,hz1,XR⟩
   refine SR (jK 3 [71,72,73] [(0,A_ 0 b1 12)] (ia [2,3] (BW Z1 ⟨Y.A,Y.c,L1,G1,g1,Y.H,Y.ch,Y.V,Y.cv⟩ dz CG d5 f d5 name false) ?_))
   rintro oV _ _ gJ ⟨L2,G2,g2,rfl,rfl,vX⟩
   replace aE:=aE.trans gJ
   refine jC 1 [] [(0,A_ 2 b1 12)] [(2,(zC (rW (dg Z1 f name false) Y.A Y.c G2 g2 Y.H Y.ch Y.V Y.cv)))] (NS (jK 4 [75,76,77,78] [(0,A_ 2 b1 12)] (ia [0,1] (Fs (dg Z1 f name false) ⟨Y.A,Y.c,L2,G2,g2,Y.H,Y.ch,Y.V,Y.cv⟩ vX ((CG.S7 d5).rb d5) to (by rw [vo];omega) aG (nd Z.ns k).id) ?_)))
   rintro vn _ _ fY ⟨L3,rfl,rfl,XS⟩
   replace aE:=aE.trans fY
   refine jC 1 [] [(0,A_ 2 b1 12)] [(2,(zC (rW (dW (dg Z1 f name false) to aG (nd Z.ns k).id) Y.A Y.c G2 g2 Y.H Y.ch Y.V Y.cv)))] (NS (aB.eP [0,1] (zV4 Y Z1 f name to aG Z k L3 G2 g2) (λBZ jH hL=>?_)))
   have nQ:dJ BZ (dW (dg Z1 f name false) to aG (nd Z.ns k).id) ⟨Y.A,Y.c,L3,G2,g2,Y.H,Y.ch,Y.V,Y.cv⟩:=XS.at hL
   replace aE:=aE.trans jH
   refine jK 1 [80] [(0,A_ 0 b1 12)] (ia [] (yB (dW (dg Z1 f name false) to aG (nd Z.ns k).id) ⟨Y.A,Y.c,L3,G2,g2,Y.H,Y.ch,Y.V,Y.cv⟩ nQ (((CG.S7 d5).bR (by rw [vo];omega)).rb d5)) ?_)
   rintro AU _ _ fQ ⟨Y5,rfl,rfl,XT⟩
   replace aE:=aE.trans fQ
   exact jC 2 [11] [(0,A_ 1 b2 12)] [(1,(zC (rV (gD (dW (dg Z1 f name false) to aG (nd Z.ns k).id)) Y5)))] (eO [A_ 1 b2 12] aE ⟨Y5,by rw [XR]<;>rfl,rfl,by rw [XR];exact XT⟩ [2])
  refine gE [0,1] ((jm hI (λ_ _ h=>mz Z Y h hC to fw aG)).val (zc (Value.int .i64) hl2)) (jK 1 [14] [] (NS (jK 8 [15] [(2,a_ 3 b1),(4,x_ k Z.ns.length (pR)),(6,v_ 0 (nA Z.ns Y.L Y.A Y.c k 0 hk rfl))] (NZ (jK 3 [52] [] (NN (cP ((((t:Nat):Int):Int)=(((k:Nat):Int):Int)) (λuW=>?_) (λuW=>?_))))))))
  ·refine SR (jC 3 [11] [(0,A_ 3 b1 12),(1,A_ 4 b2 12)] [(4,(zC (rV Z Y)))] (NN (av.ret (aF.br (aF.eP [0,1] [kI Y Z,ko Y Z] (λBZ jH hL=>?_))))))
   have kq:dJ BZ Z Y:=hI.at hL
   replace aE:=aE.trans jH
   exact rB (.tuple #[.agg ⟨rV Z Y⟩,vI 0]) [A_ 2 b2 12] [0] aE (⟨Y,by grind [ae8],rfl,by grind [ae8]⟩)
  refine KX (av.ace (ι:=Bs×RS×fq×(Option Addr)×Nat) (λ(b,Z1,L1,G1,g1)=>b) (λ(b,Z1,L1,G1,g1)=>(β.le b)/\(mP b Z1 L1 Y.H Y.V)/\(RD (n+1) Z1)/\(Z1.ns.length=Z.ns.length)/\((jW Z f name to aG)=(AQ Z f name to aG k Z1,0))) (λ(b,Z1,L1,G1,g1)=>(zV3 f name to aG b1 b2++[(15,vI ((nd Z.ns k).id))])) (λ(b,Z1,L1,G1,g1)=>(zV5 b1 Z1 Y G1 g1 b2 L1++[.abs R])) ?_ ?_)
  ·rintro⟨b,Z1,L1,G1,g1⟩ ⟨aE,dz,CG,hz1,XR⟩
   refine SR (jK 3 [71,72,73] [(0,A_ 0 b1 12)] (ia [2,3] (BW Z1 ⟨Y.A,Y.c,L1,G1,g1,Y.H,Y.ch,Y.V,Y.cv⟩ dz CG d5 f d5 name false) ?_))
   rintro oV _ _ gJ ⟨L2,G2,g2,rfl,rfl,vX⟩
   replace aE:=aE.trans gJ
   refine jC 1 [] [(0,A_ 2 b1 12)] [(2,(zC (rW (dg Z1 f name false) Y.A Y.c G2 g2 Y.H Y.ch Y.V Y.cv)))] (NS (jK 4 [75,76,77,78] [(0,A_ 2 b1 12)] (ia [0,1] (Fs (dg Z1 f name false) ⟨Y.A,Y.c,L2,G2,g2,Y.H,Y.ch,Y.V,Y.cv⟩ vX ((CG.S7 d5).rb d5) to (by rw [vo];omega) aG (nd Z.ns k).id) ?_)))
   rintro vn _ _ fY ⟨L3,rfl,rfl,XS⟩
   replace aE:=aE.trans fY
   refine jC 1 [] [(0,A_ 2 b1 12)] [(2,(zC (rW (dW (dg Z1 f name false) to aG (nd Z.ns k).id) Y.A Y.c G2 g2 Y.H Y.ch Y.V Y.cv)))] (NS (aB.eP [0,1] (zV4 Y Z1 f name to aG Z k L3 G2 g2) (λBZ jH hL=>?_)))
   have nQ:dJ BZ (dW (dg Z1 f name false) to aG (nd Z.ns k).id) ⟨Y.A,Y.c,L3,G2,g2,Y.H,Y.ch,Y.V,Y.cv⟩:=XS.at hL
   replace aE:=aE.trans jH
   refine jK 1 [80] [(0,A_ 0 b1 12)] (ia [] (yB (dW (dg Z1 f name false) to aG (nd Z.ns k).id) ⟨Y.A,Y.c,L3,G2,g2,Y.H,Y.ch,Y.V,Y.cv⟩ nQ (((CG.S7 d5).bR (by rw [vo];omega)).rb d5)) ?_)
   rintro AU _ _ fQ ⟨Y5,rfl,rfl,XT⟩
   replace aE:=aE.trans fQ
   exact jC 2 [11] [(0,A_ 1 b2 12)] [(1,(zC (rV (gD (dW (dg Z1 f name false) to aG (nd Z.ns k).id)) Y5)))] (eO [A_ 1 b2 12] aE ⟨Y5,by rw [XR]<;>rfl,rfl,by rw [XR];exact XT⟩ [2])
  refine SR (jK 2 [55] [(1,wT (((t:Int):Int)>=(0:Int)))] (NT (SQ (jK 8 [63] [(2,a_ 3 b1),(4,x_ t Z.ns.length (pR)),(6,v_ 0 (nA Z.ns Y.L Y.A Y.c t 1 ht rfl))] (NN (cP (((nd Z.ns t).kind:Int)=(2:Int)) (λh63=>?_) (λh63=>?_)))))))
  ·refine SR (jC 3 [11] [(0,A_ 3 b1 12),(1,A_ 4 b2 12)] [(4,(zC (rV Z Y)))] (NN (av.ret (aF.br (aF.br (aF.eP [0,1] [kI Y Z,ko Y Z] (λAU fQ hL=>?_)))))))
   have kq:dJ AU Z Y:=hI.at hL
   replace aE:=aE.trans fQ
   exact rB _ [A_ 2 b2 12] [0] aE (⟨Y,by rw [ae9 hl n1 hl2 uW h63]<;>rfl,rfl,by rw [ae9 hl n1 hl2 uW h63];exact kq⟩)
  refine KX (SQ (jK 1 [65] [] (NN (cP (((nd Z.ns k).kind:Int)=(2:Int)) (λh65=>?_) (λh65=>?_)))))
  ·refine SR (jC 3 [11] [(0,A_ 3 b1 12),(1,A_ 4 b2 12)] [(4,(zC (rV Z Y)))] (NN (av.ret (aF.br (aF.br (aF.eP [0,1] [kI Y Z,ko Y Z] (λFx lN hL=>?_)))))))
   have kq:dJ Fx Z Y:=hI.at hL
   replace aE:=aE.trans lN
   exact rB _ [A_ 2 b2 12] [0] aE (⟨Y,by rw [afa hl n1 hl2 uW h63 h65]<;>rfl,rfl,by grind [afa]⟩)
  refine KX (av.region (jK 3 [67,68,69] [(0,A_ 3 b1 12)] (ia [0,1] (BW Z Y hI hD d5 to fw aG true) ?_)))
  rintro β1 _ _ cW ⟨L1,G1,g1,rfl,rfl,dz⟩
  replace aE:=aE.trans cW
  exact jC 1 [] [(0,A_ 3 b1 12)] [(3,(zC (rW (dg Z to aG true) Y.A Y.c G1 g1 Y.H Y.ch Y.V Y.cv)))] (NL (aF.acf (β1,(dg Z to aG true),L1,G1,g1) rfl (ax:=[1,2,3,4,5,10,15]) (pk:=[3,4,0,1,2]) (⟨aE,dz,hD.S7 fw,vo,ahm hl n1 hl2 uW h63 h65⟩) (λ_=>d6) rfl d6))
 refine SR (jK 2 [32] [] (sP 32 (((nd Z.ns k).kind:Int)=(2:Int)) (λr9=>jK 3 [33,34,35] [(0,A_ 3 b1 12)] (gE [0,1] (jm hI (λ_ _ h=>XD Z Y h hC.toRB to k fw)) (jK 1 [37] [] (NN (av.cond (b:=(jO Z.ns k (Z.ns.length+1) to)) (λ_=>d6) (λyO=>SR (jC 3 [11] [(0,A_ 3 b1 12),(1,A_ 4 b2 12)] [(4,(zC (rV Z Y)))] (NN (av.ret (aF.br (aF.eP [0,1] [kI Y Z,ko Y Z] (λql cU hL=>?_))))))) (λyO=>av.skip (mJ () [0,1,2,3,4] ((λq=>by rw [q.2] at yO;cases yO))))))))) (λr9=>jK 5 [37] [] (NF (av.skip (mJ () [0,1,2,3,4] ((λq=>r9 q.1))))))))
 have kq:dJ ql Z Y:=hI.at hL
 replace aE:=aE.trans cU
 exact rB _ [A_ 2 b2 12] [0] aE (⟨Y,by rw [ae7 hl ⟨r9,yO⟩]<;>rfl,rfl,by rw [ae7 hl ⟨r9,yO⟩];exact kq⟩)
theorem XU {β:Bs} (Z:RS) (Y:RL) (hI:mP β Z Y.L Y.H Y.V) (hC:RC Z) (c:aK) (hn:c.name.size<=1048576) (want:Int) :
 bK Tryz.prog β 89 #[.agg ⟨rV Z Y⟩,.agg ⟨aW c⟩,vI (want)] [kI Y Z,ko Y Z] (λβ' v l=>∃Y',v=.tuple #[.agg ⟨rV ((kX Z c want).1) Y'⟩,vI (kX Z c want).2.1,vI (kX Z c want).2.2]/\l=[]/\dJ β' (kX Z c want).1 Y'):=by
 refine lW Tryz.func89 Tryz.ntmps89 (λaE R=>SR (jB 1 [3] (λb8=>.aD b8 (rV Z Y) 45) (λb8=>jB 1 [4] (λb9=>.aD b9 (aW c) 63) (λb9=>jB 3 [6] (λb10=>.aD b10 (rZ) 45) (λb10=>NS (jK 5 [14,16,18] [(0,A_ 3 b8 12),(2,a_ 4 b9),(4,a_ 4 b9)] ?_))))))
 rcases ML hC c.bA c.name 64 with ⟨e,h1,h1e⟩|⟨d,h1,hd⟩
 ·refine gE [0,1] ((jm hI (λ_ _ h=>BU Z Y h hC c.bA c.name hn 64)).val (zc exV h1)) (jK 5 [9,10] [] (NZ (jK 2 [23] [(1,wNF ((e:Int)=(0:Int)) h1e)] (NT (SR (jC 5 [7,8] [(0,A_ 3 b8 12),(2,A_ 5 b10 12)] [(5,(zC (rV Z Y)))] (NN (av.ret (aF.br (aF.eP [0,1] [kI Y Z,ko Y Z] (λLp oI hL=>?_)))))))))))
  have kq:dJ Lp Z Y:=hI.at hL
  replace aE:=aE.trans oI
  exact rB _ [A_ 3 b10 12] [0] aE (⟨Y,by rw [ae0 h1]<;>rfl,rfl,by rw [ae0 h1];exact kq⟩)
 refine gE [0,1] ((jm hI (λ_ _ h=>BU Z Y h hC c.bA c.name hn 64)).val (zc exV h1)) (jK 5 [9,10] [] (NZ (jK 2 [23] [(1,w_ (.bool false) rfl)] (NF (KX (SR (jK 4 [26,27,29] [(0,A_ 3 b8 12),(3,a_ 4 b9)] ?_)))))))
 rcases nY Z.ns d c.name with hl|⟨k,hl,hk⟩
 ·refine gE [0,1] ((jm hI (λ_ _ h=>mz Z Y h hC d hd c.name)).val (zc (Value.int .i64) hl)) (jK 1 [11] [] (NZ (jK 2 [32] [] (NT (SR (jC 4 [7,8] [(0,A_ 3 b8 12),(1,A_ 5 b10 12)] [(5,(zC (rV Z Y)))] (NN (av.ret (aF.br (aF.eP [0,1] [kI Y Z,ko Y Z] (λDY gA hL=>?_)))))))))))
  have kq:dJ DY Z Y:=hI.at hL
  replace aE:=aE.trans gA
  exact rB _ [A_ 3 b10 12] [0] aE (⟨Y,by rw [ae1 h1 hl]<;>rfl,rfl,by rw [ae1 h1 hl];exact kq⟩)
 refine aB.vZ 0 rfl d5 (λpR=>gE [0,1] ((jm hI (λ_ _ h=>mz Z Y h hC d hd c.name)).val (zc (Value.int .i64) hl)) (jK 1 [11] [] (NZ (jK 2 [32] [(1,wF (((k:Int):Int)<(0:Int)))] (NF (KX (SR (jK 8 [12] [(2,a_ 3 b8),(4,x_ k Z.ns.length (pR)),(6,v_ 0 (nA Z.ns Y.L Y.A Y.c k 1 hk rfl))] (NZ (jK 2 [42] [] (NN (cP (((nd Z.ns k).kind:Int)=(3:Int)) (λtO=>?_) (λtO=>?_)))))))))))))
 ·refine SR (jC 4 [7,8] [(0,A_ 3 b8 12),(1,A_ 5 b10 12)] [(5,(zC (rV Z Y)))] (NN (av.ret (aF.br (aF.eP [0,1] [kI Y Z,ko Y Z] (λQf AR hL=>?_))))))
  have kq:dJ Qf Z Y:=hI.at hL
  replace aE:=aE.trans AR
  exact rB _ [A_ 3 b10 12] [0] aE (⟨Y,by rw [ae2 h1 hl tO]<;>rfl,rfl,by rw [ae2 h1 hl tO];exact kq⟩)
 refine KX (SQ (jK 3 [46] [] (NN (cN (((nd Z.ns k).kind:Int)=(want:Int)) (λh46=>?_) (λh46=>?_)))))
 ·refine SQ (jK 2 [48] [] (NN (cP (((nd Z.ns k).kind:Int)=(1:Int)) (λh48=>?_) (λh48=>?_))))
  ·refine SR (jC 4 [7,8] [(0,A_ 3 b8 12),(1,A_ 5 b10 12)] [(5,(zC (rV Z Y)))] (NN (av.ret (aF.br (aF.br (aF.eP [0,1] [kI Y Z,ko Y Z] (λFv j7 hL=>?_)))))))
   have kq:dJ Fv Z Y:=hI.at hL
   replace aE:=aE.trans j7
   exact rB _ [A_ 3 b10 12] [0] aE (⟨Y,by rw [ae3 h1 hl tO h46 h48]<;>rfl,rfl,by rw [ae3 h1 hl tO h46 h48];exact kq⟩)
  refine KX (SR (jC 4 [7,8] [(0,A_ 3 b8 12),(1,A_ 5 b10 12)] [(5,(zC (rV Z Y)))] (NN (av.ret (aF.br (aF.eP [0,1] [kI Y Z,ko Y Z] (λCt gP hL=>?_)))))))
  have kq:dJ Ct Z Y:=hI.at hL
  replace aE:=aE.trans gP
  exact rB _ [A_ 3 b10 12] [0] aE (⟨Y,by rw [ae4 h1 hl tO h46 h48]<;>rfl,rfl,by rw [ae4 h1 hl tO h46 h48];exact kq⟩)
 refine KX (SR (jK 2 [51,52] [(0,A_ 3 b8 12)] (aB.eP [0,1] [kI Y Z,ko Y Z] (λβ1 cW hL=>?_))))
 have wH:dJ β1 Z Y:=hI.at hL
 replace aE:=aE.trans cW
 refine ia [] (Qc Z Y wH hC.ru k hk) ?_
 rintro oV _ _ gJ ⟨Y3,rfl,rfl,nQ⟩
 replace aE:=aE.trans gJ
 exact jC 6 [7,8] [(3,A_ 3 b10 12)] [(3,(zC (rV ((mg Z k).1) Y3)))] (eO [A_ 3 b10 12] aE ⟨Y3,by rw [ae5 h1 hl tO h46]<;>rfl,rfl,by rw [ae5 h1 hl tO h46];exact nQ⟩)
theorem Vk {β:Bs} (Z:RS) (Y:RL) (hI:mP β Z Y.L Y.H Y.V) (hC:RC Z) {n:Nat} (hD:RD n Z) (hn:n<=7) (c:aK) (h4:c.op=4) (d:Nat) (hd:d<Z.ns.length) :
 bK Tryz.prog β 90 #[.agg ⟨rV Z Y⟩,.agg ⟨aW c⟩,vI (((d:Nat):Int))] [kI Y Z,ko Y Z] (λβ' v l=>∃Y',v=.tuple #[.agg ⟨rV ((mZ Z c d).1) Y'⟩,vI (mZ Z c d).2.1,vI (mZ Z c d).2.2]/\l=[]/\dJ β' (mZ Z c d).1 Y'):=by
 refine lW Tryz.func90 Tryz.ntmps90 (λaE R=>SR (jB 1 [3] (λb16=>.aD b16 (rV Z Y) 45) (λb16=>jB 1 [4] (λb17=>.aD b17 (aW c) 63) (λb17=>jB 3 [6] (λb18=>.aD b18 (rZ) 45) (λb18=>NN (av.seq (av.seq ?_)))))))
 have n8:¬(c.op=8\/c.op=14):=d5
 refine av.region (jK 8 [21] [(1,a_ 4 b17),(2,wF ((c.op:Int)=(8:Int))),(5,a_ 4 b17),(6,wF ((c.op:Int)=(14:Int)))] (NF (KX (SR (jN 5 [11] (λHl=>[(1,a_ 4 b17),(4,A_ 6 Hl 10)]) (λ_=>[]) (λHl=>.aD Hl [vI 0,vI 3,vI 511,vI 0,vI 0,vI 0,vI 0,.slice none (0) (0),.string c.text,.slice none (0) (0)] 102) (λHl=>NN (av.join (λ(x:aO)=>(x.data=[]/\x.aq=[]/\x.target.size<=1048576)/\((mZ Z c d)=aaU Z c d x)) (λ(x:aO)=>[(2,vI ↑d),(3,vP b16),(4,vP b17),(6,vP b18),(11,vP Hl)]) (λ(x:aO)=>[.aD b16 (rV Z Y) 45,pC b17 c,.aD b18 (rZ) 45,.aD Hl [vI (x.id),vI (x.kind),vI (x.mode),vI (x.cM),vI (x.cO),vI (x.bH),vI (x.bh),.slice none (0) (0),.string x.target,.slice none (0) (0)] 102,kI Y Z,ko Y Z,.abs R]) ?_ ?_)))))))
 ·rintro x ⟨hx,hch⟩
  refine SR (jK 5 [54,55,57,58] [(0,A_ 0 b16 12),(3,a_ 1 b17),(4,A_ 3 Hl 10)] (ia [4,5] (yC Z Y hI hC hD d5 d hd c.name x hx.1 hx.2.1 hx.2.2) ?_))
  rintro β1 _ _ cW ⟨A1,c1,L1,rfl,rfl,dz,_⟩
  replace aE:=aE.trans cW
  refine jN 6 [12,13] (λo6=>[(4,A_ 7 o6 12)]) (λ_=>[]) (λo6=>.aD o6 (rW ((cG Z d c.name x).1) A1 c1 Y.G Y.cg Y.H Y.ch Y.V Y.cv) 45) (λo6=>NN (av.seq (av.seq ?_)))
  have jD:¬((cG Z d c.name x).2=0/\c.op=5):=d5
  refine av.region (jK 3 [64] [(1,w_ (.bool (!(decide (((cG Z d c.name x).2:Int)=(0:Int))))) rfl)] (sN 64 (((cG Z d c.name x).2:Int)=(0:Int)) (λXo=>?_) (λXo=>?_)))
  ·refine jK 4 [68] [] (NT (SR (jC 5 [7,8] [(0,A_ 7 o6 12),(2,A_ 4 b18 12)] [(4,(zC (rW ((cG Z d c.name x).1) A1 c1 Y.G Y.cg Y.H Y.ch Y.V Y.cv)))] (NN (av.ret (aF.br (aF.eP [0,1] [zV1 A1 Z d c x c1 L1,zV2 Y Z d c x] (λafe rS hL=>?_))))))))
   have kq:dJ afe (cG Z d c.name x).1 ⟨A1,c1,L1,Y.G,Y.cg,Y.H,Y.ch,Y.V,Y.cv⟩:=dz.at hL
   replace aE:=aE.trans rS
   exact rB _ [A_ 2 b18 12] [4] aE (⟨⟨A1,c1,L1,Y.G,Y.cg,Y.H,Y.ch,Y.V,Y.cv⟩,by rw [hch,Ke jD]<;>rfl,rfl,by rw [hch,Ke jD];exact kq⟩)
  refine jK 4 [68] [(1,a_ 3 b17),(2,w_ (.bool (!(decide ((c.op:Int)=(5:Int))))) rfl)] (NN (cN ((c.op:Int)=(5:Int)) (λh68=>SR (jC 5 [7,8] [(0,A_ 7 o6 12),(2,A_ 4 b18 12)] [(4,(zC (rW ((cG Z d c.name x).1) A1 c1 Y.G Y.cg Y.H Y.ch Y.V Y.cv)))] (NN (av.ret (aF.br (aF.eP [0,1] [zV1 A1 Z d c x c1 L1,zV2 Y Z d c x] (λaff DZ hL=>?_))))))) (λh68=>KB ⟨d5,d5⟩ jD)))
  have kq:dJ aff (cG Z d c.name x).1 ⟨A1,c1,L1,Y.G,Y.cg,Y.H,Y.ch,Y.V,Y.cv⟩:=dz.at hL
  replace aE:=aE.trans DZ
  exact rB _ [A_ 2 b18 12] [4] aE (⟨⟨A1,c1,L1,Y.G,Y.cg,Y.H,Y.ch,Y.V,Y.cv⟩,by rw [hch,Ke jD]<;>rfl,rfl,by rw [hch,Ke jD];exact kq⟩)
 refine SR (jK 3 [40] [(1,a_ 4 b17)] (NN (cN ((c.op:Int)=(6:Int)) (λtT=>SQ (jK 2 [42] [(1,a_ 4 b17)] (gE [] (aaO c.mode) (jK 1 [44] [] (NN (cN (mT c.mode) (λzQ=>SR (jC 4 [7,8] [(0,A_ 3 b16 12),(1,A_ 5 b18 12)] [(5,(zC (rV Z Y)))] (NN (av.ret (aF.br (aF.br (aF.eP [0,1] [kI Y Z,ko Y Z] (λafg IK hL=>?_)))))))) (λzQ=>KX (SR (jC 4 [] [(1,a_ 4 b17),(3,A_ 6 Hl 10)] [(6,[(1,vI 2),(2,vI (c.mode)),(8,.string ⟨#[]⟩)])] (NS (jK 3 [51] [(1,a_ 4 b17)] (NN (cP ((c.op:Int)=(5:Int)) (λwu=>KB wu (by omega)) (λwu=>av.skip (mJ ((⟨0,2,c.mode,0,0,0,0,[],⟨#[]⟩,[]⟩:aO)) [3,4,5,6,0,1,2] (⟨⟨rfl,rfl,L4 _⟩,ahn n8 tT zQ wu⟩)))))))))))))))) (λtT=>KB tT (by omega)))))
 have kq:dJ afg Z Y:=hI.at hL
 replace aE:=aE.trans IK
 exact rB _ [A_ 3 b18 12] [0] aE (⟨Y,by rw [afb n8 tT zQ]<;>rfl,rfl,by rw [afb n8 tT zQ];exact kq⟩)
end
section
open Go.RowKit Go.Maps bw aH
attribute [local irreducible] aB bJ av aF lQ
noncomputable abbrev zW1 (b1:Nat) (Y:RL) (Z:RS) (A1:Option Addr) (c:aK) (c1:Nat) (B1) (d1):=(.aD b1 [.slice Y.A (Z.ns.length) (Y.c),.slice Y.G (Z.aJ.length) (Y.cg),vI (Z.cH),vI (Z.aL),.slice A1 ((del c.bA Z.us).length) (c1),.slice B1 ((del c.bA Z.us).length) (d1),vI (Z.cN),vI (Z.cB),vI (Z.cH),vI (Z.cS),vI (Z.cZ),vI (Z.last)] 45:HP)
theorem XV {β:Bs} (Z:RS) (Y:RL) (hI:mP β Z Y.L Y.H Y.V) (hC:RC Z) (hD:RD 0 Z) (c:aK) (hn:c.name.size<=1048576) (wK:mE c.op) :
 bK Tryz.prog β 61 #[.agg ⟨rV Z Y⟩,.agg ⟨aW c⟩] [kI Y Z,ko Y Z] (λβ' v l=>∃Y',v=.tuple #[.agg ⟨rV ((dI Z c).1) Y'⟩,vI (dI Z c).2.1,vI (dI Z c).2.2]/\l=[]/\dJ β' (dI Z c).1 Y'):=by
 unfold mE at wK
 refine lW Tryz.func61 Tryz.ntmps61 (λaE R=>SR (jB 1 [2] (λb1=>.aD b1 (rV Z Y) 45) (λb1=>jB 1 [3] (λb2=>.aD b2 (aW c) 63) (λb2=>jB 3 [4] (λb3=>.aD b3 (rZ) 45) (λb3=>NZ (jK 2 [24] [(1,a_ 4 b2)] (NN (av.block (SR (jK 2 [25] [] (NN (cP ((c.op:Int)=(1:Int)) (λqJ=>?_) (λqJ=>?_)))))))))))))
 ·refine SR (jK 4 [28,30] [(1,a_ 3 b1),(3,a_ 4 b2)] ?_)
  by_cases h1:0<=gU Z.ns c.other
  ·have hk1:=(mR h1).1
   refine aB.vZ 0 rfl d5 (λpR=>gE [0,1] ((jm hI (λ_ _ h=>yV Y.A Y.c Z.ns Y.L h.n hC.fU (by have:=hC.ns;omega) c.other)).val (zc (Value.int .i64) (mR h1).2.2)) (jK 1 [7] [] (NZ (jK 2 [33] [(1,wF (((((bZ Z.ns c.other):Nat):Int):Int)<(0:Int)))] (NF (KX (SQ (jK 8 [42] [(2,a_ 3 b1),(4,x_ (bZ Z.ns c.other) Z.ns.length (pR)),(6,v_ 0 (nA Z.ns Y.L Y.A Y.c (bZ Z.ns c.other) 1 hk1 rfl))] (NN (cN (((nd Z.ns (bZ Z.ns c.other)).kind:Int)=(2:Int)) (λtO=>?_) (λtO=>?_)))))))))))
   ·refine SR (jC 4 [5,6] [(0,A_ 3 b1 12),(1,A_ 5 b3 12)] [(5,(zC (rV Z Y)))] (NN (av.ret (aF.br (aF.fM (aF.br (aF.eP [0,1] [kI Y Z,ko Y Z] (λBZ jH hL=>?_))))))))
    have kq:dJ BZ Z Y:=hI.at hL
    replace aE:=aE.trans jH
    exact rB _ [A_ 3 b3 12] [0] aE (⟨Y,by rw [aci qJ h1 tO]<;>rfl,rfl,by rw [aci qJ h1 tO];exact kq⟩)
   refine KX (SR (jK 2 [44,45] [(0,A_ 3 b1 12)] (aB.eP [0,1] [kI Y Z,ko Y Z] (λβ1 cW hL=>?_))))
   have wH:dJ β1 Z Y:=hI.at hL
   replace aE:=aE.trans cW
   refine ia [] (Qc Z Y wH hC.ru (bZ Z.ns c.other) hk1) ?_
   rintro oV _ _ gJ ⟨Y3,rfl,rfl,nQ⟩
   replace aE:=aE.trans gJ
   exact jC 6 [5,6] [(3,A_ 3 b3 12)] [(3,(zC (rV ((mg Z (bZ Z.ns c.other)).1) Y3)))] (eO [A_ 3 b3 12] aE ⟨Y3,by rw [acj qJ h1 tO]<;>rfl,rfl,by rw [acj qJ h1 tO];exact nQ⟩)
  refine gE [0,1] ((jm hI (λ_ _ h=>yV Y.A Y.c Z.ns Y.L h.n hC.fU (by have:=hC.ns;omega) c.other)).val (zc (Value.int .i64) (CI h1))) (jK 1 [7] [] (NZ (jK 2 [33] [] (NT (SR (jC 4 [5,6] [(0,A_ 3 b1 12),(1,A_ 5 b3 12)] [(5,(zC (rV Z Y)))] (NN (av.ret (aF.br (aF.fM (aF.br (aF.eP [0,1] [kI Y Z,ko Y Z] (λAU fQ hL=>?_)))))))))))))
  have kq:dJ AU Z Y:=hI.at hL
  replace aE:=aE.trans fQ
  exact rB _ [A_ 3 b3 12] [0] aE (⟨Y,by rw [ach qJ (CI h1)]<;>rfl,rfl,by rw [ach qJ (CI h1)];exact kq⟩)
 refine SR (jK 2 [50] [] (NN (cP ((c.op:Int)=(2:Int)) (λh50=>?_) (λh50=>?_))))
 ·refine SR (jK 2 [52,53] [(0,A_ 3 b1 12),(1,A_ 4 b2 13)] (ia [0,1] (XU Z Y hI hC c hn 2) ?_))
  rintro β1 _ _ cW ⟨Y3,rfl,rfl,nQ⟩
  replace aE:=aE.trans cW
  exact jC 6 [5,6] [(3,A_ 3 b3 12)] [(3,(zC (rV ((kX Z c 2).1) Y3)))] (eO [A_ 3 b3 12] aE ⟨Y3,by rw [afc h50]<;>rfl,rfl,by rw [afc h50];exact nQ⟩)
 refine SR (jK 2 [58] [] (NN (cP ((c.op:Int)=(3:Int)) (λXW=>KB wK (by omega)) (λXW=>?_))))
 refine av.join (λ(q:Bool)=>(q=true↔Hj c.op)) (λ(q:Bool)=>[(2,vP b1),(3,vP b2),(4,vP b3),(24,vI (c.op)),(66,.bool q)]) (λ(q:Bool)=>[kI Y Z,ko Y Z,.abs R,.aD b1 (rV Z Y) 45,pC b2 c,.aD b3 (rZ) 45]) ?_ (SR (jK 2 [66] [] (NN (cP ((c.op:Int)=(4:Int)) (λqz=>av.skip (mJ ((decide ((c.op:Int)=(4:Int)))) [0,1,2,3,4,5] (⟨λe=>gn,λe=>aio (by unfold Hj at e;omega)⟩))) (λqz=>SR (jK 2 [66] [] (NN (cP ((c.op:Int)=(5:Int)) (λqz=>av.skip (mJ ((decide ((c.op:Int)=(5:Int)))) [0,1,2,3,4,5] (⟨λe=>gn,λe=>aio (by unfold Hj at e;omega)⟩))) (λqz=>SR (jK 2 [66] [] (NN (cP ((c.op:Int)=(6:Int)) (λqz=>av.skip (mJ ((decide ((c.op:Int)=(6:Int)))) [0,1,2,3,4,5] (⟨λe=>gn,λe=>aio (by unfold Hj at e;omega)⟩))) (λqz=>SR (jK 2 [66] [] (NN (cP ((c.op:Int)=(8:Int)) (λqz=>av.skip (mJ ((decide ((c.op:Int)=(8:Int)))) [0,1,2,3,4,5] (⟨λe=>gn,λe=>aio (by unfold Hj at e;omega)⟩))) (λqz=>av.region (jK 2 [66] [] (NL (mJ ((decide ((c.op:Int)=(14:Int)))) [0,1,2,3,4,5] (⟨λe=>gn,λe=>aio (by unfold Hj at e;omega)⟩)))))))))))))))))))))
 rintro q hq
 refine av.cond (b:=q) (λ_=>d6) (λqz=>?_) (λqz=>?_)
 ·have CY:=hq.1 qz
  refine SR (jK 5 [73,75,77] [(0,A_ 3 b1 12),(2,a_ 4 b2),(4,a_ 4 b2)] ?_)
  rcases ML hC c.bA c.name 192 with ⟨e,h1,h1e⟩|⟨d,h1,hd⟩
  ·refine gE [0,1] ((jm hI (λ_ _ h=>BU Z Y h hC c.bA c.name hn 192)).val (zc exV h1)) (jK 5 [8,9] [] (NZ (jK 2 [82] [(1,wNF ((e:Int)=(0:Int)) h1e)] (NT (SR (jC 5 [5,6] [(0,A_ 3 b1 12),(2,A_ 5 b3 12)] [(5,(zC (rV Z Y)))] (NN (av.ret (aF.br (aF.fM (aF.br (aF.eP [0,1] [kI Y Z,ko Y Z] (λFx lN hL=>?_)))))))))))))
   have kq:dJ Fx Z Y:=hI.at hL
   replace aE:=aE.trans lN
   exact rB _ [A_ 3 b3 12] [0] aE (⟨Y,by rw [ack (hq.1 qz) h1]<;>rfl,rfl,by rw [ack (hq.1 qz) h1];exact kq⟩)
  refine gE [0,1] ((jm hI (λ_ _ h=>BU Z Y h hC c.bA c.name hn 192)).val (zc exV h1)) (jK 5 [8,9] [] (NZ (jK 2 [82] [(1,w_ (.bool false) rfl)] (NF (KX (SR (jK 3 [85,86,87] [(0,A_ 3 b1 12),(1,A_ 4 b2 13)] (ia [0,1] (Vk Z Y hI hC hD d5 c (by unfold Hj at CY;omega) d hd) ?_))))))))
  rintro β1 _ _ cW ⟨Y3,rfl,rfl,nQ⟩
  replace aE:=aE.trans cW
  exact jC 6 [5,6] [(3,A_ 3 b3 12)] [(3,(zC (rV ((mZ Z c d).1) Y3)))] (eO [A_ 3 b3 12] aE ⟨Y3,by rw [acn (hq.1 qz) h1]<;>rfl,rfl,by rw [acn (hq.1 qz) h1];exact nQ⟩)
 have CY:¬(c.op=4\/c.op=5\/c.op=6\/c.op=8\/c.op=14):=λe=>by rw [hq.2 e] at qz;cases qz
 refine SR (jK 2 [92] [] (NN (cP ((c.op:Int)=(7:Int)) (λh92=>KB wK (by omega)) (λh92=>?_))))
 refine SR (jK 2 [145] [] (NN (cP ((c.op:Int)=(9:Int)) (λuw=>KB wK (by omega)) (λuw=>?_))))
 refine SR (jK 2 [175] [] (NN (cP ((c.op:Int)=(10:Int)) (λaho=>KB wK (by omega)) (λaho=>?_))))
 refine SR (jK 2 [183] [] (NN (cP ((c.op:Int)=(13:Int)) (λQg=>?_) (λQg=>KB wK (by omega)))))
 refine SR (jK 4 [187,189] [(1,A_ 3 b1 4),(3,a_ 4 b2)] ?_)
 by_cases hm:c.bA∈aY Z.us
 ·obtain⟨k,fT,hk,hx,_⟩:=Xy hC.usr hm
  refine gL [] (aaH Z.cH Z.aL Y.H Y.V Y.ch Y.cv Z.us hI.h hI.v (by have:=hC.us;omega) c.bA hC.usr k hk fT hx) ?_
  rintro _ _ ⟨A1,c1,B1,d1,rfl,rfl⟩
  refine jN 8 [16,18] (λb16=>[(5,A_ 8 b16 4)]) (λ_=>[]) (λb16=>.aD b16 [vI (Z.cH),vI (Z.aL),.slice A1 ((del c.bA Z.us).length) (c1),.slice B1 ((del c.bA Z.us).length) (d1)] 43) (λb16=>NS (jC 3 [] [(0,A_ 8 b16 4),(2,A_ 5 b1 4)] [(5,[(4,.slice A1 ((del c.bA Z.us).length) (c1)),(5,.slice B1 ((del c.bA Z.us).length) (d1))])] (NS (jK 1 [196] [(0,A_ 5 b1 12)] (aB.mA (Φ:=λβ'=>cq β' A1 (bL (aY (del c.bA Z.us)))) 0 [1,2,3,4,5,6,7,8] (gj:=[.abs (aI 3 1 B1 ((del c.bA Z.us).length) d1 (bL (ji (del c.bA Z.us)))),kI Y Z,ko Y Z,.abs R,zW1 b1 Y Z A1 c c1 B1 d1,.aD b2 (aW c) 63,.aD b3 (rZ) 45,.aD b16 [vI (Z.cH),vI (Z.aL),.slice A1 ((del c.bA Z.us).length) (c1),.slice B1 ((del c.bA Z.us).length) (d1)] 43]) rfl rfl d6 (λF w h β' h1 h2=>cq.gZ h h1 h2) (λβ1 cW hH=>?_))))))
  replace hI:=hI.le cW
  replace aE:=aE.trans cW
  refine aB.mA (Φ:=λβ'=>cq β' B1 (bL (ji (del c.bA Z.us)))) 0 [1,2,3,4,5,6,7] (gj:=[kI Y Z,ko Y Z,.abs R,zW1 b1 Y Z A1 c c1 B1 d1,.aD b2 (aW c) 63,.aD b3 (rZ) 45,.aD b16 [vI (Z.cH),vI (Z.aL),.slice A1 ((del c.bA Z.us).length) (c1),.slice B1 ((del c.bA Z.us).length) (d1)] 43]) rfl rfl d6 (λF w h β' h1 h2=>cq.gZ h h1 h2) (λoV gJ hV=>?_)
  replace hI:=hI.le gJ
  replace hH:=hH.le gJ
  replace aE:=aE.trans gJ
  refine aB.eP [0,1] [kI Y Z,ko Y Z] (λvn fY hL=>?_)
  have wH:dJ vn ({Z with us:=(del c.bA Z.us)}:RS) ⟨Y.A,Y.c,Y.L,Y.G,Y.cg,A1,c1,B1,d1⟩:=have q:=hI.at (ch:=Y.ch) (cv:=Y.cv) hL;⟨⟨q.g,hH.le hL.le,hV.le hL.le⟩,q.n⟩
  replace aE:=aE.trans fY
  refine ia [] (yB ({Z with us:=(del c.bA Z.us)}:RS) ⟨Y.A,Y.c,Y.L,Y.G,Y.cg,A1,c1,B1,d1⟩ wH ⟨hC.ns,hC.aJ,Pe U7 hC.us,hC.aq,hC.dat⟩) ?_
  rintro BZ _ _ jH ⟨Y3,rfl,rfl,nQ⟩
  replace aE:=aE.trans jH
  exact jC 4 [5,6] [(1,A_ 3 b3 12)] [(3,(zC (rV (gD ({Z with us:=(del c.bA Z.us)}:RS)) Y3)))] (eO [A_ 3 b3 12] aE ⟨Y3,by rw [XM Qg hm]<;>rfl,rfl,by rw [XM Qg hm];exact nQ⟩)
 refine gE [] (Vg Z.cH Z.aL Y.H Y.V Y.ch Y.cv Z.us hI.h (by have:=hC.us;omega) c.bA (Lj hm).1) (jN 8 [16,18] (λb17=>[(5,A_ 6 b17 4)]) (λ_=>[]) (λb17=>.aD b17 [vI (Z.cH),vI (Z.aL),.slice Y.H (Z.us.length) (Y.ch),.slice Y.V (Z.us.length) (Y.cv)] 43) (λb17=>NS (jC 3 [] [(0,A_ 6 b17 4),(2,A_ 3 b1 4)] [] (NS (jK 1 [196] [(0,A_ 3 b1 12)] (aB.eP [0,1] [kI Y Z,ko Y Z] (λvn fY hL=>?_)))))))
 have wH:dJ vn Z Y:=hI.at hL
 replace aE:=aE.trans fY
 refine ia [] (yB Z Y wH hC.toRB) ?_
 rintro BZ _ _ jH ⟨Y3,rfl,rfl,nQ⟩
 replace aE:=aE.trans jH
 exact jC 4 [5,6] [(1,A_ 3 b3 12)] [(3,(zC (rV (gD Z) Y3)))] (eO [A_ 3 b3 12] aE ⟨Y3,by rw [XO Qg hm]<;>rfl,rfl,by rw [XO Qg hm];exact nQ⟩)
end
section
open Go.RowKit Go.Maps bw aH
attribute [local irreducible] aB bJ av aF
theorem um {β:Bs} (A:Option Addr) (c:Nat) (d:List UInt8) (hA:bO β A d) (hl:d.length<=140737488355328) :
 aU Tryz.prog β 36 #[.slice A d.length c] [] (λv l=>∃B cap,v=.slice B d.length cap/\l=[.abs (aI 5 1 B d.length cap (d9 d))]):=by
 exact SE Tryz.func36 Tryz.ntmps36 (λR=>SR (jK 1 [] [] (NS (jB 2 [3] (λb1=>.aD b1 [] 5) (λb1=>NS (aB.mem (λw hS=>hS.nW (i:=1) (b:=b1) (cs:=[]) (e:=5) 1 0 d6 rfl d8) (jK 2 [5,6] [] (VX 1 61 A d.length c (d9 d) rfl (hA.src) (λA2 c3=>aB.cR 1 rfl (by rw [ain,List.nil_append]) (sl 7 (.slice A2 (0+d.length) (c3)) (.slice A2 (d.length) (c3)) (by rw [ain]) (jK 1 [3] [] (NS (jK 2 [2] [] (eN ⟨A2,c3,rfl,rfl⟩ [1,0])))))) (hl:=by rw [vF,Nat.mul_one]) (h1:=r8 d)))))))))
theorem Qh {β:Bs} (n:aO) (dA eA:Option Addr) (dC eC:Nat) (hD:bO β dA n.data) (hE:cV β eA n.aq) (hl1:n.data.length<=140737488355328) (hl2:n.aq.length<=1048576) :
 aU Tryz.prog β 54 #[.agg #[vI (n.id),vI (n.kind),vI (n.mode),vI (n.cM),vI (n.cO),vI (n.bH),vI (n.bh),.slice dA (n.data.length) (dC),.string n.target,.slice eA (n.aq.length) (eC)]] [] (λv l=>∃dB cd eB ce,v=.agg #[vI (n.id),vI (n.kind),vI (n.mode),vI (n.cM),vI (n.cO),vI (n.bH),vI (n.bh),.slice dB (n.data.length) (cd),.string n.target,.slice eB (n.aq.length) (ce)]/\l=[.abs (aI 5 1 dB n.data.length cd (d9 n.data)),.abs (aI 126 2 eB n.aq.length ce (mQ n.aq))]):=by
 refine SE Tryz.func54 Tryz.ntmps54 (λR=>SR (jB 1 [1] (λb4=>.aD b4 [vI (n.id),vI (n.kind),vI (n.mode),vI (n.cM),vI (n.cO),vI (n.bH),vI (n.bh),.slice dA (n.data.length) (dC),.string n.target,.slice eA (n.aq.length) (eC)] 102) (λb4=>jB 1 [2] (λb5=>.aD b5 [vI 0,vI 0,vI 0,vI 0,vI 0,vI 0,vI 0,.slice none (0) (0),.string ⟨#[]⟩,.slice none (0) (0)] 102) (λb5=>NS (jK 2 [5] [(1,a_ 1 b4)] (gL [] (um dA dC n.data hD hl1) ?_))))))
 rintro _ _ ⟨dB,cd,rfl,rfl⟩
 exact jC 2 [] [(1,a_ 2 b4)] [(2,[(7,.slice dB (n.data.length) (cd))])] (NS (jB 2 [3] (λb6=>.aD b6 [] 126) (λb6=>NS (aB.mem (λw hS=>hS.nW (i:=4) (b:=b6) (cs:=[]) (e:=126) 2 0 d6 rfl d8) (jK 3 [9,11] [(2,a_ 2 b4)] (mO 4 100 eA n.aq.length eC (mQ n.aq) rfl (hE.src) (λA7 c8=>aB.cR 4 rfl (by rw [ain,List.nil_append]) (sl 12 (.slice A7 (0+n.aq.length) (c8)) (.slice A7 (n.aq.length) (c8)) (by rw [ain]) (jK 1 [3] [] (NS (jC 3 [] [(2,a_ 2 b4)] [(2,[(9,.slice A7 (n.aq.length) (c8))])] (NS (jC 2 [] [(0,A_ 2 b4 10),(1,A_ 3 b5 10)] [(3,[(0,vI (n.id)),(1,vI (n.kind)),(2,vI (n.mode)),(3,vI (n.cM)),(4,vI (n.cO)),(5,vI (n.bH)),(6,vI (n.bh)),(7,.slice dB (n.data.length) (cd)),(8,.string n.target),(9,.slice A7 (n.aq.length) (c8))])] (eS [A_ 3 b5 10] ⟨dB,cd,A7,c8,rfl,rfl⟩ [0,4,1])))))))) (hl:=by rw [LW]) (h1:=Ez n.aq)))))))
theorem hkl {ns:List aO} {k:Nat} (hk:k<=ns.length):(ns.take k).length=k:=by rw [aiz];omega
theorem Ni {β:Bs} (A:Option Addr) (c:Nat) (ns:List aO) (L:fq) (hG:aN β A ns L) (hl:ns.length<=1048576) (hd:∀i,i<ns.length->(nd ns i).data.length<=140737488355328/\(nd ns i).aq.length<=1048576) :
 aU Tryz.prog β 27 #[.agg #[.slice A ns.length c]] [] (λv l=>∃B cap K,v=.agg #[.slice B ns.length cap]/\l=K1 B cap ns K):=by
 refine SE Tryz.func27 Tryz.ntmps27 (λR=>SR (jB 1 [1] (λb9=>.aD b9 [.slice A (ns.length) (c)] 24) (λb9=>jB 1 [2] (λb10=>.aD b10 [.slice none (0) (0)] 24) (λb10=>NS (jB 2 [3] (λb11=>.aD b11 [] 102) (λb11=>NZ (aB.mem (λw hS=>hS.nW (i:=3) (b:=b11) (cs:=[]) (e:=102) 10 0 d6 rfl d8) (aB.mem (λw hS=>hS.Ja (qR [] Iu)) (aB.mem (λw hS=>hS.Ja (mI [] Iu)) (jK 1 [4] [] (NN (av.block (lJ (λ(k,Ao,cp,K)=>(k<=ns.length)) (λ(k,Ao,cp,K)=>ns.length-k) (λ(k,Ao,cp,K)=>[(1,vP b9),(2,vP b10),(3,.slice Ao (k) (cp)),(4,vI ↑k)]) (λ(k,Ao,cp,K)=>[.aD b9 [.slice A (ns.length) (c)] 24,.aD b10 [.slice none (0) (0)] 24,.abs (aI 102 10 Ao k cp (bS K (ns.take k))),.abs (ld (qR (ns.take k) K) k),.abs (ld (mI (ns.take k) K) k),.abs R]) (0,some ⟨b11,0,none⟩,0,Iu) [1,2,3,4,5,0] (L4 _) ?_)))))))))))))
 rintro⟨k,Ao,cp,K⟩ hk
 refine SQ (jK 5 [10] [(2,a_ 0 b9)] (NN (cP ((((k:Nat):Int):Int)<(((ns.length:Nat):Int):Int)) (λh10=>?_) (λh10=>?_))))
 ·refine KX (av.seq (av.block (av.region (jK 6 [13,18] [(2,a_ 0 b9),(4,x_ k ns.length (aN.hd hG (i:=k) d5)),(5,Et (iT L k (nd ns k)) (λ_ _ h=>aN.rd hG d5 h))] (gL [] (Qh (nd ns k) (L.dA k) (L.eA k) (L.dC k) (L.eC k) (hG.data k d5) (hG.aq k d5) (hd k d5).1 (hd k d5).2) ?_)))))
  rintro _ _ ⟨dB,cd,eB,ce,rfl,rfl⟩
  exact jB 1 [20] (λb12=>.aD b12 [vI ((nd ns k).id),vI ((nd ns k).kind),vI ((nd ns k).mode),vI ((nd ns k).cM),vI ((nd ns k).cO),vI ((nd ns k).bH),vI ((nd ns k).bh),.slice dB ((nd ns k).data.length) (cd),.string (nd ns k).target,.slice eB ((nd ns k).aq.length) (ce)] 102) (λb12=>mO 4 22 (some ⟨b12,0,none⟩) 1 1 [vI ((nd ns k).id),vI ((nd ns k).kind),vI ((nd ns k).mode),vI ((nd ns k).cM),vI ((nd ns k).cO),vI ((nd ns k).bH),vI ((nd ns k).bh),.slice dB ((nd ns k).data.length) (cd),.string (nd ns k).target,.slice eB ((nd ns k).aq.length) (ce)] rfl (gq (j:=8) rfl) (λMx c14=>aB.cR 4 rfl (zc (λx=>HP.abs (aI 102 10 _ _ _ x)) (vR (hkl hk) (uJ d5) rfl rfl)) (sl 21 (.slice Mx (k+1) (c14)) (.slice Mx ((k+1)) (c14)) (rfl) (jK 1 [3] [] (LX (av.region (jK 3 [4] [(1,wJ ((k:Int)+1) (↑(k+1)))] (NL (aF.mem (λw hS=>hS.uQ (R':=(mI (ns.take (k+1)) (K.put k dB cd eB ce))) (i:=6) (j:=0) (ax:=[1,2,3,4,5,7,8]) rfl rfl d6 rfl (Dy (hkl hk) (uJ d5)) (Bw (hkl hk) (uJ d5) rfl)) (aF.mem (λw hS=>hS.uQ (R':=(qR (ns.take (k+1)) (K.put k dB cd eB ce))) (i:=5) (j:=1) (ax:=[0,2,3,4,6,7]) rfl rfl d6 rfl (Dz (hkl hk) (uJ d5)) (Bz (hkl hk) (uJ d5) rfl)) (tJ ((k+1),Mx,c14,(K.put k dB cd eB ce)) [2,3,4,0,1,5] (d5))))))))))))
 refine XX (SR ?_)
 have hkn:k=ns.length:=d5
 have hgt:ns.take k=ns:=by rw [hkn,aiu]
 exact aB.cR 2 rfl (by rw [hgt,hkn]) (aB.cR 3 rfl (by rw [hgt,hkn]) (aB.cR 4 rfl (by rw [hgt,hkn]) (sl 3 (.slice Ao (k) (cp)) (.slice Ao (ns.length) (cp)) (by rw [hkn]) (jC 3 [] [(2,a_ 1 b10)] [(1,[(0,.slice Ao (ns.length) (cp))])] (eS [a_ 1 b10] ⟨Ao,cp,K,rfl,rfl⟩ [2,3,4,5])))))
theorem Vl {β:Bs} (Z:RS) (Y:RL) (hR:dJ β Z Y) (hB:RB Z) :
 bK Tryz.prog β 60 #[.agg ⟨rV Z Y⟩] [] (λβ' v l=>∃A1 c1 K G1 g1,v=.agg ⟨rW Z A1 c1 G1 g1 Y.H Y.ch Y.V Y.cv⟩/\l=[.abs (aI 102 10 A1 Z.ns.length c1 (bS K Z.ns)),.abs (aI 3 1 G1 Z.aJ.length g1 (bL Z.aJ)),.abs (ld (mI Z.ns K) Z.ns.length)]/\∀i,i<Z.ns.length->cV β' (K.eA i) (nd Z.ns i).aq):=by
 have hbg:=hB.aJ
 refine lW Tryz.func60 Tryz.ntmps60 (λaE R=>SR (jB 1 [1] (λb1=>.aD b1 (rV Z Y) 45) (λb1=>jB 1 [2] (λb2=>.aD b2 (rZ) 45) (λb2=>NS (jK 2 [5] [(1,a_ 1 b1)] (gL [] (Ni Y.A Y.c Z.ns Y.L hR.n (by have:=hB.ns;omega) hB.hd) ?_))))))
 rintro _ _ ⟨A1,c1,K,rfl,rfl⟩
 refine jC 2 [] [(1,a_ 4 b1)] [(4,[(0,.slice A1 (Z.ns.length) (c1))])] (NS (jB 2 [3] (λb3=>.aD b3 [] 3) (λb3=>NS (aB.mem (λw hS=>hS.nW (i:=6) (b:=b3) (cs:=[]) (e:=3) 1 0 d6 rfl d8) (jK 3 [9,11] [(2,a_ 4 b1)] (mO 6 41 Y.G Z.aJ.length Y.cg (bL Z.aJ) rfl (hR.g.src) (λA4 c5=>aB.cR 6 rfl (by rw [ain,List.nil_append]) (sl 12 (.slice A4 (0+Z.aJ.length) (c5)) (.slice A4 (Z.aJ.length) (c5)) (by rw [ain]) (jK 1 [3] [] (NS (aB.mA (Φ:=λβ'=>∀i,i<Z.ns.length->cV β' (K.eA i) (nd Z.ns i).aq) 1 [0,2,3,4,5,6] (gj:=[.abs (aI 102 10 A1 Z.ns.length c1 (bS K Z.ns)),.abs (ld (mI Z.ns K) Z.ns.length),.abs R,.aD b1 (rW Z A1 c1 Y.G Y.cg Y.H Y.ch Y.V Y.cv) 45,.aD b2 (rZ) 45,.abs (aI 3 1 A4 Z.aJ.length c5 (bL Z.aJ))]) rfl rfl d6 (λF w h β' h1 h2=>ahj h h1 h2) (λβ1 cW hE=>?_)))))) (hl:=by rw [show (bL Z.aJ).length=Z.aJ.length from aip ..];omega) (h1:=P9 _)))))))
 replace aE:=aE.trans cW
 exact jC 3 [] [(2,a_ 3 b1)] [(3,[(1,.slice A4 (Z.aJ.length) (c5))])] (NS (jC 2 [] [(0,A_ 3 b1 12),(1,A_ 4 b2 12)] [(4,(zC (rW Z A1 c1 A4 c5 Y.H Y.ch Y.V Y.cv)))] (eO [A_ 4 b2 12] aE ⟨A1,c1,K,A4,c5,rfl,rfl,hE⟩ [0,5,1,2])))
end
section
open Go.RowKit Go.Maps bw aH
section b
variable {P:Program} {β:Bs} {f:FuncId} {args:Array Value} {pre pre' R:List HP} {post:Bs->Value->List HP->Prop}
theorem bK.Vm (h:∀β':Bs,oe β R β'->bK P β' f args pre post):bK P β f args (pre++R) post:=by
 intro A w hS
 have h1:=aP.turn hS
 rw [←aiv] at h1
 obtain⟨β',g1,_,g3⟩:=h1.sF
 refine (h β' g1 A w (aP.turn g3)).mono ?_
 rintro e w' ⟨oV,v,l,dP,h2⟩
 exact⟨oV,v,l,g1.le.trans dP,h2⟩
theorem bK.acp {Φ:Bs->Prop} (h:∀β':Bs,β.le β'->Φ β'->bK P β' f args pre post):bK P β f args (.abs (jL β Φ)::pre) post:=by
 intro A w hS
 obtain⟨β',g1,g2,g3⟩:=aP.tL (l:=pre++[.abs A]) hS
 refine (h β' g1 g2 A w g3).mono ?_
 rintro e w' ⟨oV,v,l,dP,h2⟩
 exact⟨oV,v,l,g1.trans dP,h2⟩
theorem bK.ahp (h:bK P β f args pre' post) (hp:∀A w,aP β (pre++[.abs A]) w->aP β (pre'++[.abs A]) w):bK P β f args pre post:=λA w hS=>h A w (hp A w hS)
end b
section s
variable {β:Bs} {R Z:RS} {Y:RL} {c:aK} {e:Int} {k:Nat}
theorem XY (h:¬(c.op=11\/c.op=12)) (h1:(dI R c).2.2=0):ul R c=((dI R c).1,{c with answer:=(dI R c).2.1,code:=0}):=(nw h).trans (t8 h1)
theorem XZ (h:¬(c.op=11\/c.op=12)) (h1:¬(dI R c).2.2=0):ul R c=(R,{c with answer:=0,code:=(dI R c).2.2}):=(nw h).trans (nw h1)
abbrev Lr (R:RS) (K:fq):HP:=.abs (ld (mI R.ns K) R.ns.length)
abbrev C0 (R:RS) (K:fq) (β:Bs):Prop:=∀i,i<R.ns.length->cV β (K.eA i) (nd R.ns i).aq
theorem Ho (hR:dJ β Z Y) (hB:RB Z):aU Tryz.prog β 60 #[.agg ⟨rV Z Y⟩] [] (λv l=>∃A1 c1 K G1 g1,v=.agg ⟨rV Z ⟨A1,c1,K,G1,g1,Y.H,Y.ch,Y.V,Y.cv⟩⟩/\l=[.abs (jL β (C0 Z K)),.abs (aI 102 10 A1 Z.ns.length c1 (bS K Z.ns)),.abs (aI 3 1 G1 Z.aJ.length g1 (bL Z.aJ)),Lr Z K]):=
 (bK.G0 (ι:=Option Addr×Nat×fq×Option Addr×Nat) (vv:=λx=>.agg ⟨rV Z ⟨x.1,x.2.1,x.2.2.1,x.2.2.2.1,x.2.2.2.2,Y.H,Y.ch,Y.V,Y.cv⟩⟩) (ll:=λx=>[.abs (aI 102 10 x.1 Z.ns.length x.2.1 (bS x.2.2.1 Z.ns)),.abs (aI 3 1 x.2.2.2.1 Z.aJ.length x.2.2.2.2 (bL Z.aJ)),Lr Z x.2.2.1]) (Φ:=λx=>C0 Z x.2.2.1)
  ((Vl Z Y hR hB).mono (by rintro β' v l _ ⟨A1,c1,K,G1,g1,rfl,rfl,h⟩;exact⟨(A1,c1,K,G1,g1),rfl,rfl,h⟩))).mono gn
theorem X1 {A1 G1:Option Addr} {c1 g1:Nat} {K:fq} (hR:dJ β Z Y) (hC:RC Z) (hD:RD 0 Z) (wK:mE c.op) (hn:c.name.size<=1048576) :
 aU Tryz.prog β 61 #[.agg ⟨rV Z ⟨A1,c1,K,G1,g1,Y.H,Y.ch,Y.V,Y.cv⟩⟩,.agg ⟨aW c⟩] [.abs (jL β (C0 Z K)),.abs (aI 102 10 A1 Z.ns.length c1 (bS K Z.ns)),.abs (aI 3 1 G1 Z.aJ.length g1 (bL Z.aJ)),Lr Z K]
  (λv l=>∃Y',v=.tuple #[.agg ⟨rV (dI Z c).1 Y'⟩,.int .i64 (dI Z c).2.1,.int .i64 (dI Z c).2.2]/\l=[.abs (jL β (λβ'=>dJ β' (dI Z c).1 Y'))]):=by
 refine (bK.G0 (ι:=RL) (vv:=λY'=>.tuple #[.agg ⟨rV (dI Z c).1 Y'⟩,.int .i64 (dI Z c).2.1,.int .i64 (dI Z c).2.2]) (ll:=λ_=>[]) (Φ:=λY' β'=>dJ β' (dI Z c).1 Y') (bK.acp λβ' dP hE=>?_)).mono gn
 refine bK.Vm (pre:=[.abs (aI 102 10 A1 Z.ns.length c1 (bS K Z.ns)),.abs (aI 3 1 G1 Z.aJ.length g1 (bL Z.aJ))]) (R:=[Lr Z K]) λoV hL=>?_
 have hI:mP oV Z K Y.H Y.V:=by
  obtain⟨F,q1,q2⟩:=hL.get 0 rfl
  exact⟨aeS q1 q2 rfl,λi hi=>(hE i hi).le hL.le,(hR.h.le dP).le hL.le,(hR.v.le dP).le hL.le⟩
 refine (XV Z ⟨A1,c1,K,G1,g1,Y.H,Y.ch,Y.V,Y.cv⟩ hI hC hD c hn wK).mono ?_
 grind
end s
end
section
open Go.RowKit Go.Maps bw aH
attribute [local irreducible] aB bJ av aF eH cC lX
noncomputable abbrev zX1 (b4:Nat):=(.aD b4 [vI 0,vI 0,vI 0,.string ⟨#[]⟩,.string ⟨#[]⟩,.slice none (0) (0),vI 0,vI 0,vI 0,vI 0,vI 0,vI 0,vI 0] 63:HP)
noncomputable abbrev zX2 (R:eG) (b1:Nat) (Z) (Y:RL) (b2:Nat) (c:aK) (b3:Nat) (b4:Nat) (b5:Nat) (B1) (p1):=([.abs R,.aD b1 (rV Z Y) 45,.aD b2 (aW c) 63,.aD b3 (rZ) 45,zX1 b4,.aD b5 (aW (iz {c with answer:=0} B1 p1)) 63]:List HP)
theorem aaW {β:Bs} (Z:RS) (Y:RL) (hR:dJ β Z Y) (hC:RC Z) (hD:RD 0 Z) (c:aK) (wK:mE c.op) (hn:c.name.size<=1048576) (hb:bO β c.dA c.data) (hl:c.data.length<=140737488355328) (_:c.data.length<=c.dC) :
 bK Tryz.prog β 34 #[.agg ⟨rV Z Y⟩,.agg ⟨aW c⟩] [] (λβ' v l=>∃Y' B p,v=.tuple #[.agg ⟨rV ((ul Z c).1) Y'⟩,.agg ⟨aW (iz (ul Z c).2 B p)⟩]/\l=[]/\dJ β' (ul Z c).1 Y'/\bO β' B c.data):=by
 refine lW Tryz.func34 Tryz.ntmps34 (λaE R=>SR (jB 1 [2] (λb1=>.aD b1 (rV Z Y) 45) (λb1=>jB 1 [3] (λb2=>.aD b2 (aW c) 63) (λb2=>jB 1 [4] (λb3=>.aD b3 (rZ) 45) (λb3=>jB 1 [5] (λb4=>.aD b4 [vI 0,vI 0,vI 0,.string ⟨#[]⟩,.string ⟨#[]⟩,.slice none (0) (0),vI 0,vI 0,vI 0,vI 0,vI 0,vI 0,vI 0] 63) (λb4=>NS (jN 3 [6] (λb5=>[(0,A_ 2 b2 13),(2,A_ 5 b5 13)]) (λ_=>[]) (λb5=>.aD b5 (aW c) 63) (λb5=>NS (jK 2 [12] [(1,a_ 2 b2)] (gL [] (um c.dA c.dC c.data hb hl) ?_))))))))))
 rintro _ _ ⟨B1,p1,rfl,rfl⟩
 refine jC 2 [] [(1,a_ 6 b5)] [(6,[(5,.slice B1 (c.data.length) (p1))])] (NS (aB.mA (Φ:=λβ'=>bO β' B1 c.data) 0 [1,2,3,4,5,6] (gj:=[.abs R,.aD b1 (rV Z Y) 45,.aD b2 (aW c) 63,.aD b3 (rZ) 45,zX1 b4,.aD b5 (aW (iz c B1 p1)) 63]) rfl rfl d6 (λF w h β' h1 h2=>cq.gZ h h1 h2) (λβ1 cW G8=>?_)))
 replace hR:=hR.le cW
 replace hb:=hb.le cW
 replace aE:=aE.trans cW
 refine jC 2 [] [(1,a_ 5 b5)] [(5,[(12,vI 0)])] (NN (av.seq (av.seq ?_)))
 have cD:¬(c.op=11\/c.op=12):=by unfold mE at wK;omega
 refine av.region (jK 8 [23] [(1,a_ 2 b2),(2,wF ((c.op:Int)=(11:Int))),(5,a_ 2 b2),(6,wF ((c.op:Int)=(12:Int)))] (NF (KX (av.seq (av.pW (S:=[.aD b1 (rV Z Y) 45,.aD b2 (aW c) 63]) (wo [0,2] (oJ 8 [(false,9),(false,10),(false,11)] [(false,1),(false,3),(true,4),(true,5),(true,6),(true,7)])) [1,2] (gT (oJ 8 [(false,9),(false,10),(false,11)] [(false,1),(false,3),(true,4),(true,5),(true,6),(true,7)]) [(2,vP b1),(4,vP b3),(5,vP b4),(6,vP b5),(30,.agg ⟨rV Z Y⟩),(32,.agg ⟨aW c⟩)] [0,2] [(0,A_ 0 b1 12),(1,A_ 1 b2 13)] (lX.one (j:=8) (dj:=7) (R:=λf_ l_=>∃A2:Option Addr,∃c2:Nat,∃K:fq,∃G2:Option Addr,∃g2:Nat,∃Y2:RL,f_=[(36,vI ((dI Z c).2.2)),(35,vI ((dI Z c).2.1)),(34,.agg ⟨rV ((dI Z c).1) Y2⟩),(29,.tuple #[.agg ⟨rV ((dI Z c).1) Y2⟩,vI ((dI Z c).2.1),vI ((dI Z c).2.2)]),(33,.tuple #[.agg ⟨rV ((dI Z c).1) Y2⟩,vI ((dI Z c).2.1),vI ((dI Z c).2.2)]),(31,.agg ⟨rW Z A2 c2 G2 g2 Y.H Y.ch Y.V Y.cv⟩),(2,vP b1),(4,vP b3),(5,vP b4),(6,vP b5),(30,.agg ⟨rV Z Y⟩),(32,.agg ⟨aW c⟩)]/\l_=[.abs (jL β1 (λβ'=>dJ β' (dI Z c).1 Y2))]) [1,2] [(false,1,31),(false,3,33),(true,4,29),(true,5,34),(true,6,35),(true,7,36)] (iJ.of (ι:=Nat) (v:=λ(b6:Nat)=>vP b6) (l:=λ(b6:Nat)=>[.aD b6 (rZ) 45]) [31,33,29,34,35,36] rfl rfl rfl rfl ?_) ?_ ?_)))))))
 ·intro u Aq
  exact jB 1 [7] (λb6=>.aD b6 (rZ) 45) (λb6=>NL (MD b6 [7,31,33,29,34,35,36,2,4,5,6,30,32] [1,0]))
 ·refine ef.step (iJ.of (ι:=(Option Addr)×Nat×fq×(Option Addr)×Nat) (v:=λ((A2,c2,K,G2,g2):(Option Addr)×Nat×fq×(Option Addr)×Nat)=>.agg ⟨rW Z A2 c2 G2 g2 Y.H Y.ch Y.V Y.cv⟩) (l:=λ((A2,c2,K,G2,g2):(Option Addr)×Nat×fq×(Option Addr)×Nat)=>[.abs (jL β1 (C0 Z K)),.abs (aI 102 10 A2 Z.ns.length c2 (bS K Z.ns)),.abs (aI 3 1 G2 Z.aJ.length g2 (bL Z.aJ)),.abs (ld (mI Z.ns K) Z.ns.length)]) [7] rfl rfl rfl rfl ?_) ?_
  ·intro u Aq
   refine gL [] (Ho hR hC.toRB) ?_
   rintro _ _ ⟨A2,c2,K,G2,g2,rfl,rfl⟩
   exact NL (MD (A2,c2,K,G2,g2) [31,7,2,4,5,6,30,32] [0,1,2,3,4])
  rintro _ _ ⟨⟨A2,c2,K,G2,g2⟩,rfl,rfl⟩
  refine (ef.step (iJ.of (ι:=RL) (v:=λ(Y2:RL)=>.tuple #[.agg ⟨rV ((dI Z c).1) Y2⟩,vI ((dI Z c).2.1),vI ((dI Z c).2.2)]) (l:=λ(Y2:RL)=>[.abs (jL β1 (λβ'=>dJ β' (dI Z c).1 Y2))]) [7] rfl rfl rfl rfl ?_) ?_)
  ·intro u Aq
   exact gX [0,1,2,3] (X1 (A1:=A2) (c1:=c2) (K:=K) (G1:=G2) (g1:=g2) hR hC hD wK hn) (λY2=>NL (MD Y2 [33,7,31,2,4,5,6,30,32] [0,1]))
  rintro _ _ ⟨Y2,rfl,rfl⟩
  exact (ef.read (.tuple #[.agg ⟨rV ((dI Z c).1) Y2⟩,vI ((dI Z c).2.1),vI ((dI Z c).2.2)]) (ef.read (.agg ⟨rV ((dI Z c).1) Y2⟩) (ef.read (.int .i64 ((dI Z c).2.1)) (ef.read (.int .i64 ((dI Z c).2.2)) ⟨A2,c2,K,G2,g2,Y2,rfl,rfl⟩))))
 rintro _ _ ⟨A2,c2,K,G2,g2,Y2,rfl,rfl⟩ _ _ ⟨b6,rfl,rfl⟩
 refine kC [3,4] [] [(0,A_ 1 b6 12)] [(1,(zC (rV ((dI Z c).1) Y2)))] (eH.cut (ι:=Unit) (bN:=λ(_:Unit)=>[(2,vP b1),(4,vP b3),(5,vP b4),(6,vP b5),(7,vP b6),(8,vI ((dI Z c).2.1)),(36,vI ((dI Z c).2.2))]) (dh:=λ(_:Unit)=>([.abs (jL β1 (λβ'=>dJ β' (dI Z c).1 Y2)),.aD b6 (rV ((dI Z c).1) Y2) 45]++zX2 R b1 Z Y b2 c b3 b4 b5 B1 p1)) [3,4] d6 ?_ rfl (λ_=>d6) ?_)
 ·exact jK 1 [8] [] (NL (MD () [2,4,5,6,7,8,36] [0,1,2,3,4,5,6,7]))
 rintro _
 refine eH.last d6 (jK 1 [9] [] (NL (aF.np (NX (SR (aB.tL 0 [1,2,3,4,5,6,7] (gj:=([.aD b6 (rV ((dI Z c).1) Y2) 45]++zX2 R b1 Z Y b2 c b3 b4 b5 B1 p1)) rfl rfl d6 (λql cU t7=>?_)))))))
 replace hR:=hR.le cU
 replace G8:=G8.le cU
 replace aE:=aE.trans cU
 exact jC 3 [] [(2,a_ 6 b5)] [(6,[(11,vI ((dI Z c).2.2))])] (NZ (jK 2 [40] [] (NN (cN (((dI Z c).2.2:Int)=(0:Int)) (λtT=>av.seq (rM [0,1,2,3] 2 [2,6] (jR 2 [4,5,41,42] [(0,A_ 0 b1 12),(1,A_ 1 b5 13)] (nC [2,6] [] [(0,A_ 4 b3 12)] [(4,(zC (rV Z Y)))] (cC.last rfl rfl (jC 1 [] [(0,A_ 5 b4 13)] [(5,[(0,vI (c.op)),(1,vI (c.bA)),(2,vI (c.other)),(3,.string c.name),(4,.string c.text),(5,.slice B1 (c.data.length) (p1)),(6,vI (c.mode)),(7,vI (c.cM)),(8,vI (c.cO)),(9,vI (c.bH)),(10,vI (c.bh)),(11,vI ((dI Z c).2.2))])] (NL (aF.np (NX (av.ret (aF.br (rB (.tuple #[.agg ⟨rV Z Y⟩,.agg ⟨aW (iz {c with code:=(dI Z c).2.2,answer:=0} B1 p1)⟩]) [A_ 4 b3 12,A_ 5 b4 13] [1] aE (⟨Y,B1,p1,by rw [XZ cD tT]<;>rfl,rfl,by rw [XZ cD tT];exact hR,G8⟩))))))))))))) (λtT=>KX (SR (jC 3 [] [(2,a_ 6 b5)] [(6,[(12,vI ((dI Z c).2.1))])] (NN (av.seq (rM [0,1,2,3] 2 [0,6] (jR 2 [4,5,45,46] [(0,A_ 0 b6 12),(1,A_ 1 b5 13)] (nC [0,6] [] [(0,A_ 4 b3 12)] [(4,(zC (rV ((dI Z c).1) Y2)))] (cC.last rfl rfl (jC 1 [] [(0,A_ 5 b4 13)] [(5,(zC (aW (iz {c with code:=(dI Z c).2.2,answer:=(dI Z c).2.1} B1 p1))))] (NL (aF.np (NX (av.ret (rB (.tuple #[.agg ⟨rV ((dI Z c).1) Y2⟩,.agg ⟨aW (iz {c with code:=(dI Z c).2.2,answer:=(dI Z c).2.1} B1 p1)⟩]) [A_ 4 b3 12,A_ 5 b4 13] [1] aE (⟨Y2,B1,p1,by rw [XY cD tT,tT]<;>rfl,rfl,by rw [XY cD tT];exact t7,G8⟩))))))))))))))))))))
end
section
def core (o:bV):bV:={o with aT:=0,aQ:=0,aJ:=false,up:=none}
end
section
open Go.RowKit Go.Maps bw aH
noncomputable section
def ud (us:bC Th):bC Int:=us.map (λp=>(p.1,(p.2.k:Int)))
def bT (S:aZ) (t:Th):Nat:=bZ (aV S) (t.k:Int)
def toR (S:aZ) (g:List Int):RS:=⟨aV S,g,ud S.us,S.aL,S.X.cN,S.X.cB,S.X.cH,S.X.cS,S.X.cZ,S.X.last⟩
structure xK (ax:bC Th) (O:eu) (g:List Int):Prop where
 Fy:∀t,aS ax t->((t.k:Int)∈g↔(ah O t.k).aJ=true)
 live:∀z∈g,∃t,aS ax t/\(t.k:Int)=z
structure qm (ax:bC Th):Prop where
 fU:aH.dM (aY ax)
 key:∀p∈ax,p.1=(p.2.k:Int)
end
section p
variable {S:aZ} {g:List Int} {t u:Th} {d k i j:Nat} {name:ByteArray} {O O':eu} {h fH id:Int} {es:jj Th} {X:FM}
theorem Inv0.ix (h:Inv0 S):qm S.ax:=⟨h.fU,λ_ hp=>h.key (oy h.fU hp)⟩
theorem Gy (hx:qm S.ax) (hi:i<S.ax.length):aS S.ax (jy S i)/\iy S i=((jy S i).k:Int):=by
 have hm:=aiF (yg hi)
 have hk:=hx.key _ hm
 have hg:=oy hx.fU hm
 grind [iy,jy,aS]
theorem Ls (hx:qm S.ax) (hij:i<j) (hj:j<S.ax.length):iy S i<iy S j:=by
 have h1:=Pf (S:=S) (show i<S.ax.length by omega)
 have h2:=Pf hj
 obtain⟨g1,e1⟩:=List.getElem?_eq_some_iff.1 h1
 obtain⟨g2,e2⟩:=List.getElem?_eq_some_iff.1 h2
 have:=aiZ.1 hx.fU i j g1 g2 hij
 rw [e1,e2] at this
 exact this
theorem Qi (hx:qm S.ax):dM (aV S):=λi j hij hj=>by
 rw [iM] at hj
 rw [qx d5,qx hj]
 exact Ls hx hij hj
theorem Kf (hx:qm S.ax) (hi:i<S.ax.length) (hj:j<S.ax.length) (e:iy S i=iy S j):i=j:=by
 rcases aiS i j with h1|h1|h1
 ·have:=Ls hx h1 hj;omega
 ·exact h1
 have:=Ls hx h1 hi;omega
theorem nR (hI:qm S.ax) (hl:aS S.ax t):bT S t<(aV S).length/\bT S t<S.ax.length/\jy S (bT S t)=t/\iy S (bT S t)=(t.k:Int)/\gU (aV S) (t.k:Int)=(bT S t:Int)/\nd (aV S) (bT S t)=jZ S.O (t.k:Int) t:=by
 grind [aeJ,nd,aV,qx,H7,Qi,iM,bT,bZ,aS,jy,iy,gU,jZ]
theorem Tc (hI:qm S.ax) (hl:aS S.ax t) (hu:aS S.ax u) (e:bT S t=bT S u):t=u:=by
 have h1:=(nR hI hl).2.2.1
 rw [e,(nR hI hu).2.2.1] at h1
 exact h1.symm
theorem adv {us:bC Th}:aH.get (ud us) h=(aH.get us h).map (λt=>(t.k:Int)):=get_map (λt:Th=>(t.k:Int)) us h
theorem Gz {us:bC Th}:(ud us).length=us.length:=aip ..
theorem IL {us:bC Th}:aY (ud us)=aY us:=keys_map (λt:Th=>(t.k:Int)) us
theorem MU {us:bC Th}:aH.aR (ud us)=aH.aR us:=by unfold aH.aR;rw [IL]
theorem adw {us:bC Th}:ud (ins h t us)=ins h (t.k:Int) (ud us):=KJ (λt:Th=>(t.k:Int)) h t us
theorem Td {us:bC Th}:ud (del h us)=del h (ud us):=KL (λt:Th=>(t.k:Int)) h us
theorem adx {us:bC Th}:(k:Int)∈ji (ud us)↔0<hnd us k:=by
 unfold ji ud hnd
 rw [List.map_map]
 induction us with
 |nil=>simp [ig]
 |cons p r ih=>
   grind [ig]
theorem X2 (n:ByteArray):∀es:jj Th,BR (es.map (gM O)) n=es.findIdx? (λe=>decide (e.1=n)):=λes=>by
 unfold BR
 rw [List.findIdx?_map];rfl
theorem Qj (n:ByteArray):∀es:jj Th,bF n es=(es.findIdx? (λe=>decide (e.1=n))).map (tK es)
 |[]=>rfl
 |e::r=>by
   rw [qc,List.findIdx?_cons]
   by_cases hn:e.1=n
   ·rw [t8 hn];simp [hn,tK]
   rw [nw hn,Qj n r]
   simp only [hn,decide_false,Bool.false_eq_true,if_false,Option.map_map]
   congr 1
theorem Qk (hid:∀x,(ah O' x).id=(ah O x).id) (ht:(ah O t.k).id=id):∀es:jj Th,(kT name t es).map (gM O')=mK name id (es.map (gM O))
 |[]=>by
   show [gM O' (name,t)]=[⟨name,id⟩]
   unfold gM;rw [hid,ht]
 |e::r=>by
   have he:gM O' e=gM O e:=by unfold gM;rw [hid]
   have hr:r.map (gM O')=r.map (gM O):=aiG (λx _=>by unfold gM;rw [hid])
   unfold kT
   rw [aiB]
   unfold mK
   show _=if ¬ja e.1 name then _ else _
   split
   ·rw [aiB,aiB,he,hr]
    congr 1
    unfold gM;rw [hid,ht]
   rw [aiB,he,Qk hid ht r]
theorem aaX (hid:∀x,(ah O' x).id=(ah O x).id):(kU name es).map (gM O')=rP name (es.map (gM O)):=by
 unfold kU rP
 rw [List.filter_map]
 have:es.map (gM O')=es.map (gM O):=aiG (λx _=>by unfold gM;rw [hid])
 have h2:(es.filter (λe=>decide (e.1≠name))).map (gM O')=(es.filter (λe=>decide (e.1≠name))).map (gM O):=aiG (λx _=>by unfold gM;rw [hid])
 rw [h2];rfl
theorem Ql {z:Int}:∀es:List fO,(∀e∈es,e.name≠name)->q5 name es z=z
 |[],_=>rfl
 |e::r,hn=>by
   unfold q5
   rw [nw (hn e (T5 ..)),Ql r (λx hx=>hn x (T4 _ hx))]
theorem Te {z:Int}:∀es:jj Th,pX es->bF name es=some t->q5 name (es.map (gM O)) z=(ah O t.k).id
 |[],_,h=>by cases h
 |e::r,hd,h=>by
   rw [qc] at h
   rw [aiB]
   unfold q5
   show q5 name (r.map (gM O)) (if e.1=name then (ah O e.2.k).id else z)=_
   by_cases hn:e.1=name
   ·rw [t8 hn] at h ⊢
    injection h with h
    rw [h]
    refine Ql _ (λx hx=>?_)
    obtain⟨y,hy,rfl⟩:=aik.1 hx
    exact λq=>(ail.1 hd).1 y hy (hn.trans q.symm)
   rw [nw hn] at h ⊢
   exact Te r (ail.1 hd).2 h
theorem Fz (hc:core (ah O' t.k)=core (ah O t.k)) (hid:∀x,(ah O' x).id=(ah O x).id):jZ O' id t=jZ O id t:=by
 have f:∀{α:Type} (g:bV->α),(∀o,g (core o)=g o)->g (ah O' t.k)=g (ah O t.k):=λg hg=>by rw [←hg,hc,hg]
 have he:gM O'=gM O:=by grind [gM]
 grind [jZ,core,ah]
theorem Kg {S':aZ} (hi:S'.ax=S.ax) (hc:∀x,core (ah S'.O x)=core (ah S.O x)):aV S'=aV S:=by
 grind [aV,Fz,core,ah]
theorem FA (hI:qm S.ax) (hl:aS S.ax t) {S':aZ} (hi:S'.ax=S.ax) (hc:∀x,x≠t.k->core (ah S'.O x)=core (ah S.O x)) (hid:(ah S'.O t.k).id=(ah S.O t.k).id):aV S'=(aV S).set (bT S t) (jZ S'.O (t.k:Int) t):=by
 have aif:∀x,(ah S'.O x).id=(ah S.O x).id:=λx=>by
  grind [aS,core,ah,aV,bT,jZ]
 obtain⟨h1,h2,h3,h4,_⟩:=nR hI hl
 apply List.ext_getElem?
 grind [aV,bT,yg,Fz,Gy,jS,nR,Kf]
theorem X3 {ax:bC Th} {f:Int×Th->aO} (hr:aH.dM (aY ax)) (hk:∀p∈ax,p.1=(p.2.k:Int)) {q:aO->Bool} {b:Bool} (hq:∀p∈ax,q (f p)=true↔¬(p.2=t/\b=true)) (hl:aS ax t):(ax.map f).filter q=(if b=true then del (t.k:Int) ax else ax).map f:=by
 rw [List.filter_map]
 by_cases hb:b=true
 ·rw [t8 hb]
  unfold del
  refine zc (List.map f) (List.filter_congr (λp hp=>?_))
  have h1:=hq p hp
  have h2:(q ∘ f) p=true↔decide (p.1≠(t.k:Int))=true:=by
   show q (f p)=true↔_
   rw [h1,decide_eq_true_iff]
   refine not_congr ⟨λh=>by rw [hk p hp,h.1],λh=>⟨?_,hb⟩⟩
   have h3:aH.get ax p.1=some p.2:=oy hr hp
   grind [aY,aS,del]
  exact Bool.eq_iff_iff.2 (h2.trans nh)
 rw [nw hb]
 exact zc (List.map f) (List.filter_eq_self.2 (λp hp=>(hq p hp).2 (λh=>hb h.2)))
end p
section v
variable {S S':aZ} {g:List Int} {t u:Th} {d to k i j:Nat} {name aG:ByteArray} {O O':eu} {h fH id:Int} {es:jj Th}
structure RelR (S:aZ) (g:List Int):Prop where
 inv:bB S
 aJ:xK S.ax S.O g
theorem aaY:oU (toR S g) h=match aH.get S.us h with|none=>.error 131|some t=>.ok (bT S t):=by
 grind [oU,ud,adv,toR,bT]
theorem Tf (hr:RelR S g):lM (toR S g) h name fH=match ic S.O S.us h name fH with|.error e=>.error e|.ok d=>.ok (bT S ⟨d,2⟩):=by
 unfold lM ic
 rw [aaY]
 cases e:aH.get S.us h with
 |none=>rfl
 |some t=>
   have hl:=(hr.inv.us _ _ e).1
   have hp:=(nR hr.inv.ix hl).2.2.2.2.2
   simp only
   have hp2:nd (toR S g).ns (bT S t)=jZ S.O (t.k:Int) t:=hp
   rw [hp2]
   show (if t.kind=2 then if (t.k:Int)∈g then _ else if bW name then if bits BinOp.and .i64 (ah S.O t.k).mode fH=fH then Except.ok (bT S t) else _ else _ else _)=_
   by_cases h2:t.kind=2
   ·have ht:t=⟨t.k,2⟩:=by rw [←h2]
    rw [t8 h2,t8 h2]
    by_cases hg:(t.k:Int)∈g
    ·rw [t8 hg,t8 ((hr.aJ.Fy t hl).1 hg)]
    rw [nw hg,nw (λq=>hg ((hr.aJ.Fy t hl).2 q))]
    grind
   rw [nw h2,nw h2]
theorem X4 {es:jj Th} (hj:j<es.length):en (es.map (gM O)) j=⟨nU es j,(ah O (tK es j).k).id⟩:=by
 grind [en,DA,gM,nU,ah,tK]
theorem aaZ (hI:Inv0 S) (hd:aS S.ax ⟨d,2⟩):cQ (aV S) (bT S ⟨d,2⟩) name=match bF name (ah S.O d).aq with|none=>-1|some t=>(bT S t:Int):=by
 unfold cQ
 rw [(nR hI.ix hd).2.2.2.2.2]
 show (match BR ((ah S.O d).aq.map (gM S.O)) name with|none=>_|some j=>gU (aV S) (en ((ah S.O d).aq.map (gM S.O)) j).id)=_
 rw [X2,Qj]
 cases e:(ah S.O d).aq.findIdx? (λe=>decide (e.1=name)) with
 |none=>rfl
 |some j=>
   have hj:j<(ah S.O d).aq.length:=by
    rw [aiN] at e
    exact e.1
   show gU (aV S) (en ((ah S.O d).aq.map (gM S.O)) j).id=(bT S (tK (ah S.O d).aq j):Int)
   have hl:aS S.ax (tK (ah S.O d).aq j):=(hI.aq _ hd _ (aiF (DA hj))).2
   rw [X4 hj,(hI.ob _ hl).1,(nR hI.ix hl).2.2.2.2.1]
theorem Qm (hI:Inv0 S):vY (toR S g)↔Room S.X S.ax:=by
 have h1:(dX (aV S) (aV S).length:Int)=S.X.aq:=by rw [iM,Fj];exact hI.total.1.symm
 grind [aV,dX,iM,vY,toR,Room]
theorem Qn (hI:Inv0 S):(fZ (toR S g).ns (toR S g).ns.length:Int)=S.X.used:=by
 show (fZ (aV S) (aV S).length:Int)=_
 rw [iM,PO];exact hI.used.1.symm
theorem Kh (hx:qm S.ax) (hd:aS S.ax ⟨d,2⟩) (htd:t.k≠d) (hid:(ah S.O t.k).id=id) (hS:S'={S with X:=S'.X,O:=dV S.X S.O d name t,us:=S'.us,aL:=S'.aL}):aV S'=nK S.X.cS S.X.cZ (aV S) (bT S ⟨d,2⟩) (mK name id (nd (aV S) (bT S ⟨d,2⟩)).aq):=by
 have hO:S'.O=dV S.X S.O d name t:=by rw [hS]
 have yH:∀x,(ah (dV S.X S.O d name t) x).id=(ah S.O x).id:=λx=>mU (g:=bV.id) (λ_ _=>rfl) (λ_ _=>rfl) (λ_ _ _=>rfl) (λ_ _=>rfl)
 rw [FA hx hd (S':=S') (by rw [hS]) (λx cF=>by rw [hO,vg htd,nw cF];split<;>rfl) (by rw [hO];exact yH d)]
 unfold nK
 rw [(nR hx hd).2.2.2.2.2,hO]
 congr 1
 show (⟨(d:Int),2,(ah (dV S.X S.O d name t) d).mode,(ah (dV S.X S.O d name t) d).cM,(ah (dV S.X S.O d name t) d).cO,(ah (dV S.X S.O d name t) d).bH,(ah (dV S.X S.O d name t) d).bh,(ah (dV S.X S.O d name t) d).data,(ah (dV S.X S.O d name t) d).target,(ah (dV S.X S.O d name t) d).aq.map (gM (dV S.X S.O d name t))⟩:aO)=_
 have h1:(ah (dV S.X S.O d name t) d)={ah S.O d with aq:=kT name t (ah S.O d).aq,bH:=S.X.cS,bh:=S.X.cZ}:=by rw [vg htd,t8 rfl]
 rw [h1]
 show (⟨_,_,_,_,_,_,_,_,_,(kT name t (ah S.O d).aq).map (gM (dV S.X S.O d name t))⟩:aO)=_
 rw [Qk (O:=S.O) yH hid];rfl
theorem y7 (hx:qm S.ax) (hd:aS S.ax ⟨d,2⟩) (htd:t.k≠d) (hi:S'.ax=S.ax) (hO:∀x,core (ah S'.O x)=core (ah (bn S.X S.O d name t) x)):aV S'=nK S.X.cS S.X.cZ (aV S) (bT S ⟨d,2⟩) (rP name (nd (aV S) (bT S ⟨d,2⟩)).aq):=by
 have yH:∀x,(ah (bn S.X S.O d name t) x).id=(ah S.O x).id:=λx=>eZ (g:=bV.id) (λ_ _=>rfl) (λ_ _=>rfl) (λ_ _ _=>rfl)
 have e1:aV S'=aV {S with O:=bn S.X S.O d name t}:=Kg (S:={S with O:=bn S.X S.O d name t}) hi hO
 rw [e1,FA hx hd (S':={S with O:=bn S.X S.O d name t}) rfl (λx cF=>by
  show core (ah (bn S.X S.O d name t) x)=_
  rw [lg htd,nw cF];split<;>rfl) (yH d)]
 unfold nK
 rw [(nR hx hd).2.2.2.2.2]
 congr 1
 show (⟨(d:Int),2,(ah (bn S.X S.O d name t) d).mode,(ah (bn S.X S.O d name t) d).cM,(ah (bn S.X S.O d name t) d).cO,(ah (bn S.X S.O d name t) d).bH,(ah (bn S.X S.O d name t) d).bh,(ah (bn S.X S.O d name t) d).data,(ah (bn S.X S.O d name t) d).target,(ah (bn S.X S.O d name t) d).aq.map (gM (bn S.X S.O d name t))⟩:aO)=_
 have h1:(ah (bn S.X S.O d name t) d)={ah S.O d with aq:=kU name (ah S.O d).aq,bH:=S.X.cS,bh:=S.X.cZ}:=by rw [lg htd,t8 rfl]
 rw [h1]
 show (⟨_,_,_,_,_,_,_,_,_,(kU name (ah S.O d).aq).map (gM (bn S.X S.O d name t))⟩:aO)=_
 rw [aaX (O:=S.O) yH];rfl
theorem D1 {es:jj Th} (hid:∀e∈es,(ah O e.2.k).id=(e.2.k:Int)):∀j,j<=es.length->je (es.map (gM O)) (k:Int) j=(es.take j).countP (λe=>decide (e.2.k=k))
 |0,_=>rfl
 |j+1,hj=>by
   rw [je,D1 hid j d5,aiC,DA (show j<es.length by omega),List.countP_append,X4 d5]
   congr 1
   have:=hid _ (aiF (DA (show j<es.length by omega)))
   have h2:(ah O (tK es j).k).id=((tK es j).k:Int):=this
   simp only [h2,Option.toList,List.countP_cons,List.countP_nil]
   by_cases hk:(tK es j).k=k
   ·simp [hk]
   simp [hk]
   omega
theorem X5 (hid:∀i,i<S.ax.length->∀e∈(ah S.O (jy S i).k).aq,(ah S.O e.2.k).id=(e.2.k:Int)):tY (aV S) (k:Int)=(ny S.ax S.O k:Int):=by
 unfold tY
 rw [iM]
 have h:=BP (S:=S) (λo=>o.aq.countP (λe=>decide (e.2.k=k))) (λns n=>nP ns (k:Int) n) (λ_=>rfl) (λi hi=>by
  show nP (aV S) _ i+je (nd (aV S) i).aq _ (nd (aV S) i).aq.length=_
  rw [qx hi]
  show _+je ((ah S.O (jy S i).k).aq.map (gM S.O)) _ ((ah S.O (jy S i).k).aq.map (gM S.O)).length=_
  rw [aip,D1 (hid i hi) _ (N6 _),aiu]) S.ax.length (N6 _)
 rw [aiu] at h
 exact zc Nat.cast h
theorem RG (hI:Inv0 S) (hd:aS S.ax ⟨d,2⟩) (hl:bF name (ah S.O d).aq=some t) (hi:S'.ax=S.ax) (hO:∀x,core (ah S'.O x)=core (ah (bn S.X S.O d name t) x)):tY (aV S') (t.k:Int)=(ah S.O t.k).aT-1:=by
 have htd:=hI.ne hd hl
 have yH:∀x,(ah S'.O x).id=(ah S.O x).id:=λx=>(show (ah S'.O x).id=(ah (bn S.X S.O d name t) x).id by have h:=zc bV.id (hO x);exact h).trans (eZ (g:=bV.id) (λ_ _=>rfl) (λ_ _=>rfl) (λ_ _ _=>rfl))
 have Bl:∀x,(ah S'.O x).aq=(ah (bn S.X S.O d name t) x).aq:=λx=>by have h:=zc bV.aq (hO x);exact h
 have he:∀x,(ah S'.O x).aq=if x=d then kU name (ah S.O d).aq else (ah S.O x).aq:=λx=>by
  grind [lg]
 rw [X5 (λi hi2 e hem=>by
  rw [yH]
  rw [hi] at hi2
  have qA:jy S' i=jy S i:=by unfold jy;rw [hi]
  rw [qA,he] at hem
  have cY:=(Gy hI.ix hi2).1
  have:e∈(ah S.O (jy S i).k).aq:=by
   grind [OL]
  exact (hI.ob _ (hI.aq _ cY _ this).2).1),hi]
 have h1:=OM (q:=λe=>decide (e.2.k=t.k)) (O':=S'.O) hI.fU hd (λ_ _ e=>hI.key e) (λx hx=>by rw [he,nw hx]) (by rw [he,t8 rfl]) (hI.pN hd) hl
 have h2:=hI.aT t (hI.bR hd hl).2
 grind [ny]
theorem aa0 {V:Type} {z:Int} {p:Int×V} {us:bC V}:p∈del z us↔p∈us/\p.1≠z:=by
 unfold del
 rw [List.mem_filter]
 simp
theorem Ca {S1 S2:aZ} {O2:eu} {Qo:bC Th} {R:RS} (hx:qm S1.ax) (hns:R.ns=aV S1) (qW:R.us=ud Qo) (hg:xK S1.ax O2 R.aJ) (hl:aS S1.ax t)
 (hfull:∀u,aS S1.ax u->u≠t->(ah O2 u.k).aJ=true->0<hnd Qo u.k) (cD:(ah O2 t.k).aQ=(hnd Qo t.k:Int)) (hid:(ah O2 t.k).id=(t.k:Int))
 (hi:S2.ax=kg O2 S1.ax t) (hc:∀x,core (ah S2.O x)=core (ah S1.O x)) (hgo:∀x,(ah S2.O x).aJ=(ah O2 x).aJ) :
 (gD R).ns=aV S2/\xK S2.ax S2.O (gD R).aJ:=by
 have yH:∀x,(ah S2.O x).id=(ah S1.O x).id:=λx=>by have h:=zc bV.id (hc x);exact h
 have kQ:∀p∈S1.ax,aS S1.ax p.2:=λp hp=>by
  unfold aS;rw [←hx.key p hp];exact oy hx.fU hp
 have hkept:∀p∈S1.ax,rR R (jZ S1.O p.1 p.2)=true↔¬(p.2=t/\decide (uh O2 t)=true):=λp hp=>by
  have hlp:=kQ p hp
  show decide (p.1∈R.aJ->p.1∈ji R.us)=true↔_
  rw [decide_eq_true_iff,hx.key p hp,hg.Fy _ hlp,qW,adx,decide_eq_true_iff]
  constructor
  ·rintro h ⟨h1,h2⟩
   rw [h1] at h
   have:=h h2.1
   have h3:=h2.2
   rw [cD] at h3
   omega
  intro h hgn
  by_cases hpt:p.2=t
  ·rw [hpt] at hgn ⊢
   have:¬(ah O2 t.k).aQ=0:=λq=>h ⟨hpt,hgn,q⟩
   rw [cD] at this
   omega
  exact hfull _ hlp hpt hgn
 have afh:(gD R).ns=aV S2:=by
  show R.ns.filter (rR R)=aV S2
  rw [hns]
  unfold aV
  rw [X3 hx.fU hx.key hkept hl,hi]
  grind [kg,jZ,Fz,uh]
 refine⟨afh,?_⟩
 have hsub:∀u,aS S2.ax u->aS S1.ax u:=λu hu=>by
  grind [kg,aS,wU]
 have hx2:qm S2.ax:=by
  rw [hi]
  unfold kg
  split
  ·refine⟨?_,λp hp=>hx.key p (aa0.1 hp).1⟩
   unfold aY del
   exact hx.fU.sublist (List.Sublist.map _ List.filter_sublist)
  exact hx
 have hmem:∀z,z∈(gD R).aJ↔(z∈R.aJ/\∃p∈S2.ax,p.1=z):=λz=>by
  show z∈((gD R).ns.filter (λn=>decide (n.id∈R.aJ))).map aO.id↔_
  rw [afh]
  simp only [aik,List.mem_filter,decide_eq_true_iff]
  constructor
  ·rintro⟨n,⟨h1,h2⟩,h3⟩
   obtain⟨p,hp,rfl⟩:=aik.1 h1
   exact⟨by rw [←h3];exact h2,p,hp,h3⟩
  rintro⟨h1,p,hp,h2⟩
  exact⟨jZ S2.O p.1 p.2,⟨aik.2 ⟨p,hp,rfl⟩,by show p.1∈_;rw [h2];exact h1⟩,h2⟩
 refine⟨λu hu=>?_,λz hz=>?_⟩
 ·rw [hmem,hg.Fy u (hsub u hu),hgo]
  exact⟨λh=>h.1,λh=>⟨h,_,get_mem hu,rfl⟩⟩
 obtain⟨_,p,hp,h1⟩:=(hmem z).1 hz
 refine⟨p.2,?_,(hx2.key p hp).symm.trans h1⟩
 unfold aS;rw [←hx2.key p hp];exact oy hx2.fU hp
end v
def iK (a:xu) (code:Int) (S':aZ) (an:Int):Prop:=a.2.2=code/\(code=0->∃g',a.1=toR S' g'/\xK S'.ax S'.O g'/\a.2.1=an)
section w
variable {S S':aZ} {g:List Int} {t u:Th} {d to k i j:Nat} {name aG:ByteArray} {O O':eu} {h fH id z:Int} {c:aK} {R:RS}
theorem iK.bad {a:xu} {e an:Int} {S':aZ} (h:a.2.2=e) (he:e≠0):iK a e S' an:=⟨h,λq=>KB q he⟩
theorem X6 (h1:R.ns=aV S') (h3:R.us=ud S'.us) (h4:R.aL=S'.aL) (h5:R.cN=S'.X.cN/\R.cB=S'.X.cB/\R.cH=S'.X.cH/\R.cS=S'.X.cS/\R.cZ=S'.X.cZ/\R.last=S'.X.last):R=toR S' R.aJ:=by
 obtain⟨ns,aJ,us,aL,cN,cB,cH,cS,cZ,last⟩:=R
 grind [aV,ud,toR]
theorem xK.same {ax:bC Th} (h:xK ax O g) (hg:∀x,(ah O' x).aJ=(ah O x).aJ):xK ax O' g:=⟨λt ht=>(h.Fy t ht).trans (by rw [hg]),h.live⟩
theorem Qp (hI:Inv0 S) (z:Int):gU (aV S) z=match aH.get S.ax z with|none=>-1|some t=>(bT S t:Int):=by
 cases e:aH.get S.ax z with
 |none=>
   refine Dj (λj hj he=>?_)
   rw [iM] at hj
   rw [qx hj] at he
   have h1:iy S j=z:=he
   have h2:=(K2 hI hj)
   have h3:aH.get S.ax ((jy S j).k:Int)=some (jy S j):=h2.1
   rw [←h2.2,h1,e] at h3
   cases h3
 |some t=>
   have hk:=(hI.ax _ _ e).1
   have hl:aS S.ax t:=by show aH.get S.ax (t.k:Int)=some t;rw [←hk];exact e
   show gU (aV S) z=_
   rw [hk];exact (nR hI.ix hl).2.2.2.2.1
theorem IQ (hI:Inv0 S) (e:aH.get S.ax z=some t):aS S.ax t/\z=(t.k:Int):=by
 have hk:=(hI.ax _ _ e).1
 grind [aS]
theorem qo (hI:Inv0 S) (hl:aS S.ax t):nd (toR S g).ns (bT S t)=jZ S.O (t.k:Int) t:=(nR hI.ix hl).2.2.2.2.2
theorem iK.ok {a:xu} {an:Int} (hc:a.2.2=0) (h1:a.1.ns=aV S') (h3:a.1.us=ud S'.us) (h4:a.1.aL=S'.aL) (h5:a.1.cN=S'.X.cN/\a.1.cB=S'.X.cB/\a.1.cH=S'.X.cH/\a.1.cS=S'.X.cS/\a.1.cZ=S'.X.cZ/\a.1.last=S'.X.last) (hg:xK S'.ax S'.O a.1.aJ) (ha:a.2.1=an):iK a 0 S' an:=
 ⟨hc,λ_=>⟨_,X6 h1 h3 h4 h5,hg,ha⟩⟩
theorem iK.same {an:Int} (hr:RelR S g) (ha:an=0):iK (toR S g,0,0) 0 S an:=⟨rfl,λ_=>⟨g,rfl,hr.aJ,ha.symm⟩⟩
theorem Qq (hr:RelR S g) (hl:aS S.ax t):iK (mg (toR S g) (bT S t)) (fD S t).2.1 (fD S t).2.2 (fD S t).1:=by
 have jX:(toR S g).us.length=S.us.length:=Gz
 unfold mg
 by_cases hc:(S.us.length:Int)<S.X.cH
 ·rw [mB hc,t8 (by rw [jX];exact hc)]
  refine .ok rfl ?_ ?_ ?_ ⟨rfl,rfl,rfl,rfl,rfl,rfl⟩ (hr.aJ.same (λx=>eU (g:=bV.aJ) (λ_=>rfl))) MU
  ·show aV S=aV _
   exact (Kg (S:=S) (S':={S with O:=bD S.O t.k (λo=>{o with aQ:=o.aQ+1}),us:=ins (aR S.us) t S.us,aL:=max S.aL ((S.us.length:Int)+1)}) rfl (λx=>eU (g:=core) (f:=λo=>{o with aQ:=o.aQ+1}) (λ_=>rfl))).symm
  ·show ins (aR (ud S.us)) (nd (toR S g).ns (bT S t)).id (ud S.us)=ud (ins (aR S.us) t S.us)
   rw [qo hr.inv.toInv0 hl,adw,MU];rfl
  grind [ud,Gz,aS,iK,mg,toR,bT,fD]
 grind [om,aS,iK,mg,toR,bT,fD]
theorem aa1 (hr:RelR S g) (c:aK):iK (if 0<=gU (toR S g).ns c.other then if (nd (toR S g).ns (bZ (toR S g).ns c.other)).kind=2 then mg (toR S g) (bZ (toR S g).ns c.other) else (toR S g,0,173) else (toR S g,0,141)) (kP S c).1 (kP S c).2.1 (kP S c).2.2.answer:=by
 have hI:=hr.inv.toInv0
 have ha:gU (toR S g).ns c.other=_:=Qp hI c.other
 unfold kP
 cases e:aH.get S.ax c.other with
 |none=>
   grind [gU,toR,iK,nd,bZ,mg,kP]
 |some t=>
   rw [e] at ha
   replace ha:gU (toR S g).ns c.other=(bT S t:Int):=ha
   obtain⟨hl,_⟩:=IQ hI e
   have ht:bZ (toR S g).ns c.other=bT S t:=by grind [bZ]
   rw [t8 (by rw [ha];omega),ht,qo hI hl]
   show iK (if t.kind=2 then _ else _) _ _ _
   grind [Qq,iK,gU,toR,nd,bZ,mg,kP]
theorem qp (hr:RelR S g) (hd:aS S.ax ⟨d,2⟩) (name:ByteArray):(bF name (ah S.O d).aq=none/\cQ (toR S g).ns (bT S ⟨d,2⟩) name = -1)\/∃t,bF name (ah S.O d).aq=some t/\cQ (toR S g).ns (bT S ⟨d,2⟩) name=(bT S t:Int)/\aS S.ax t/\(t.kind=1\/t.kind=2\/t.kind=3)/\t.k≠d:=by
 have hI:=hr.inv.toInv0
 have hl:cQ (toR S g).ns (bT S ⟨d,2⟩) name=_:=aaZ (name:=name) hI hd
 cases e:bF name (ah S.O d).aq with
 |none=>rw [e] at hl;exact .inl ⟨rfl,hl⟩
 |some t=>
   rw [e] at hl
   have h1:=(hr.inv.bR hd e).2
   exact .inr ⟨t,rfl,hl,h1,(hI.ob t h1).2.2,hr.inv.ne hd e⟩
theorem RH (hr:RelR S g) (c:aK):iK (kX (toR S g) c 2) (gh S c).1 (gh S c).2.1 (gh S c).2.2.answer:=by
 have hI:=hr.inv.toInv0
 unfold kX gh jU
 rw [Tf hr]
 rcases CM hI c.bA c.name 64 with ⟨e,h,he⟩|⟨d,h,hd,-⟩
 ·rw [h];exact .bad rfl he
 rw [h]
 simp only
 rcases qp hr hd c.name with ⟨h1,h2⟩|⟨t,h1,h2,hl,hk,-⟩
 ·grind [iK,kX,toR,gh]
 rw [h1,t8 (by rw [h2];omega),h2,aiH,qo hI hl]
 show iK (if t.kind=3 then _ else if t.kind≠2 then (_,_,if t.kind=1 then _ else _) else _) _ _ _
 grind [Qq,iK,kX,toR,gh]
theorem aa2 {f:bV->bV} (hid:∀o,(f o).id=o.id):jZ (bD O t.k f) z t=⟨z,t.kind,(f (ah O t.k)).mode,(f (ah O t.k)).cM,(f (ah O t.k)).cO,(f (ah O t.k)).bH,(f (ah O t.k)).bh,(f (ah O t.k)).data,(f (ah O t.k)).target,(f (ah O t.k)).aq.map (gM O)⟩:=by
 have h1:ah (bD O t.k f) t.k=f (ah O t.k):=by rw [mq,t8 rfl]
 have h2:gM (bD O t.k f)=gM O:=funext λe=>by unfold gM;rw [eU (g:=bV.id) hid]
 unfold jZ
 rw [h1,h2]
theorem X7 (hI:Inv0 S) (hl:aS S.ax t) {f:bV->bV} (hid:∀o,(f o).id=o.id) (hi:S'.ax=S.ax) (hO:S'.O=bD S.O t.k f):aV S'=(aV S).set (bT S t) (jZ (bD S.O t.k f) (t.k:Int) t):=by
 rw [FA hI.ix hl (S':=S') hi (λx hx=>by rw [hO,mq,nw hx]) (by rw [hO];exact eU (g:=bV.id) hid),hO]
theorem MV (hr:RelR S g) (hl:aS S.ax t) (bs:List UInt8):iK (kZ (toR S g) (bT S t) bs) (iC S t.k bs).2.1 (iC S t.k bs).2.2 (iC S t.k bs).1:=by
 have hI:=hr.inv.toInv0
 unfold kZ iC
 by_cases hb:bs=[]
 ·rw [t8 hb,t8 hb];exact .same hr rfl
 rw [nw hb,nw hb,Qn hI]
 show iK (if S.X.cB-S.X.used<=0 then _ else _) _ _ _
 by_cases hu:S.X.cB-S.X.used<=0
 ·grind [aS,iK,kZ,toR,bT,iC]
 rw [nw hu,nw hu]
 refine .ok rfl (ai9 ?_ (X7 (S:=S) (S':={S with X:={S.X with used:=S.X.used+(dU S.X bs.length:Int)},O:=bD S.O t.k (λo=>{o with data:=o.data++bs.take (dU S.X bs.length),bH:=S.X.cS,bh:=S.X.cZ})}) (t:=t) hI hl (f:=λo=>{o with data:=o.data++bs.take (dU S.X bs.length),bH:=S.X.cS,bh:=S.X.cZ}) (λ_=>rfl) rfl rfl).symm) rfl rfl ⟨rfl,rfl,rfl,rfl,rfl,rfl⟩ (hr.aJ.same (λx=>eU (g:=bV.aJ) (f:=λo=>{o with data:=o.data++bs.take (dU S.X bs.length),bH:=S.X.cS,bh:=S.X.cZ}) (λ_=>rfl))) rfl
 rw [aa2 (f:=λo=>{o with data:=o.data++bs.take (dU S.X bs.length),bH:=S.X.cS,bh:=S.X.cZ}) (λ_=>rfl)]
 simp only
 rw [qo hI hl]
 rfl
theorem X8 (hr:RelR S g) (c:aK):iK (if c.bA∈aY (toR S g).us then (gD {toR S g with us:=del c.bA (toR S g).us},0,0) else (gD (toR S g),0,131)) (ju S c).1 (ju S c).2.1 0:=by
 have hI:=hr.inv.toInv0
 have hk:aY (toR S g).us=aY S.us:=IL
 unfold ju
 cases e:aH.get S.us c.bA with
 |none=>
   grind [get_none,iK,aY,toR,gD,del,ju]
 |some t=>
   have hl:=(hr.inv.us _ _ e).1
   rw [t8 (by rw [hk];exact aik.2 ⟨_,get_mem e,rfl⟩)]
   have hdel:=λk=>Sp (k:=k) hI.usr e
   have hsw:=Ca (S1:=S) (S2:=(ju S c).2.1) (O2:=mD S.O t.k) (Qo:=del c.bA S.us) (R:={toR S g with us:=del c.bA (toR S g).us}) (t:=t) hI.ix rfl Td.symm
    (hr.aJ.same (λx=>eU (g:=bV.aJ) (f:=λo=>{o with aQ:=o.aQ-1}) (λ_=>rfl))) hl
    (λu hu cF MW=>by
     have h1:(ah S.O u.k).aJ=true:=ai9 (eU (g:=bV.aJ) (f:=λo=>{o with aQ:=o.aQ-1}) (λ_=>rfl)).symm MW
     have h2:=hr.inv.full u hu h1
     rw [hI.aQ u hu] at h2
     have h3:=hdel u.k
     rw [nw (λq=>cF (jS hu hl q.symm))] at h3
     omega)
    (by
     show (ah (bD S.O t.k _) t.k).aQ=_
     rw [mq,t8 rfl]
     show (ah S.O t.k).aQ-1=_
     rw [hI.aQ t hl]
     have h3:=hdel t.k
     rw [t8 rfl] at h3
     omega)
    (by rw [show (ah (mD S.O t.k) t.k).id=(ah S.O t.k).id from eU (g:=bV.id) (f:=λo=>{o with aQ:=o.aQ-1}) (λ_=>rfl)];exact (hI.ob t hl).1)
    (by unfold ju;rw [e]) (λx=>by unfold ju;rw [e];exact eU (g:=core) (f:=λo=>{o with aQ:=o.aQ-1}) (λ_=>rfl)) (λx=>by unfold ju;rw [e])
   unfold ju at hsw
   rw [e] at hsw
   refine .ok rfl hsw.1 ?_ rfl ⟨rfl,rfl,rfl,rfl,rfl,rfl⟩ hsw.2 rfl
   exact Td.symm
end w
section x
variable {S S':aZ} {g:List Int} {t u:Th} {d to k i j:Nat} {name aG:ByteArray} {O O':eu} {h fH id z:Int} {c:aK} {R:RS} {o:bV} {n:aO}
theorem aa3 (hx:qm S.ax) (hl:aS S.ax t) (hi:S'.ax=S.ax):bT S' t=bT S t:=by
 have hl':aS S'.ax t:=by rw [hi];exact hl
 have hx':qm S'.ax:=by rw [hi];exact hx
 have h1:=nR hx hl
 have h2:=nR hx' hl'
 grind [Kf,iy]
theorem Qr (hI:Inv0 S):(dX (toR S g).ns (toR S g).ns.length:Int)=S.X.aq:=by
 show (dX (aV S) (aV S).length:Int)=S.X.aq
 rw [iM,Fj];exact hI.total.1.symm
theorem Hq (hI:Inv0 S):aV {S with O:=bD S.O (dx S.X) (λ_=>o)}=aV S:=by
 refine aiG (λp hp=>?_)
 have h1:ah (bD S.O (dx S.X) (λ_=>o)) p.2.k=ah S.O p.2.k:=by rw [mq,nw (hI.fresh.ax p hp)]
 have h2:(ah S.O p.2.k).aq.map (gM (bD S.O (dx S.X) (λ_=>o)))=(ah S.O p.2.k).aq.map (gM S.O):=aiG (λe he=>by
  unfold gM;rw [mq,nw (hI.fresh.aq _ e he)])
 unfold jZ
 rw [h1,h2]
theorem X9 (hI:Inv0 S):∀x∈aY S.ax,x<S.X.last+1:=λx hx=>by
 cases e:aH.get S.ax x with
 |none=>exact KB hx (get_none.1 e)
 |some t=>have:=(hI.ax _ _ e).2.2;omega
theorem Lu (hI:Inv0 S):(iw S d name o).ax=S.ax++[(S.X.last+1,⟨dx S.X,o.kind⟩)]:=OD (X9 hI)
theorem Qs (hI:Inv0 S):qm (iw S d name o).ax/\aS (iw S d name o).ax ⟨dx S.X,o.kind⟩/\∀u,aS (iw S d name o).ax u↔u=⟨dx S.X,o.kind⟩\/aS S.ax u:=by
 have hn:S.X.last+1∉aY S.ax:=λh=>by have:=X9 hI _ h;omega
 have hk:=tv hI
 have hg:∀x,aH.get (iw S d name o).ax x=if x=S.X.last+1 then some ⟨dx S.X,o.kind⟩ else aH.get S.ax x:=λx=>by
  show aH.get (ins _ _ _) x=_
  rw [tj hn]
 have hl:aS (iw S d name o).ax ⟨dx S.X,o.kind⟩:=by show aH.get _ ((dx S.X:Nat):Int)=_;rw [hg,t8 hk]
 refine⟨⟨zW hI.fU hn,λp hp=>?_⟩,hl,λu=>?_⟩
 ·rw [Lu hI] at hp
  rcases air.1 hp with h|h
  ·exact hI.ix.key p h
  grind
 constructor
 ·grind [iw,aS,dx]
 rintro (rfl|hu)
 ·exact hl
 show aH.get _ (u.k:Int)=some u
 rw [hg,nw (λq=>hn (by rw [←q];exact aik.2 ⟨_,get_mem hu,rfl⟩))];exact hu
theorem Lv (hr:RelR S g) (hd:aS S.ax ⟨d,2⟩) (ho:o.id=S.X.last+1/\o.bH=S.X.cS/\o.bh=S.X.cZ/\o.aJ=false/\o.aq=[]) (hn:n.kind=o.kind/\n.mode=o.mode/\n.cM=o.cM/\n.cO=o.cO/\n.data=o.data/\n.target=o.target/\n.aq=[]) :
 kz (toR S g) (bT S ⟨d,2⟩) name n=toR (iw S d name o) g/\xK (iw S d name o).ax (iw S d name o).O g:=by
 have hI:=hr.inv.toInv0
 have hk:=tv hI
 have htd:dx S.X≠d:=λe=>hI.fresh.ax _ (get_mem hd) e.symm
 have hat:=λx=>vg (X:=S.X) (O:=bD S.O (dx S.X) (λ_=>o)) (d:=d) (name:=name) (t:=⟨dx S.X,o.kind⟩) (k:=x) htd
 obtain⟨h1,h2,h3,h4,h5⟩:=ho
 have hnew:ah (iw S d name o).O (dx S.X)={o with aT:=o.aT+1,up:=if o.kind=2 then some d else o.up}:=by
  show ah (dV _ _ _ _ _) _=_
  rw [hat,nw htd,t8 rfl,mq,t8 rfl]
 refine⟨X6 (R:=kz (toR S g) (bT S ⟨d,2⟩) name n) ?_ rfl rfl ⟨rfl,rfl,rfl,rfl,rfl,rfl⟩,⟨λu hu=>?_,λz hz=>?_⟩⟩
 ·have hg2:=Kh (S:={S with O:=bD S.O (dx S.X) (λ_=>o)}) (S':={S with X:=(iw S d name o).X,O:=(iw S d name o).O}) (d:=d) (name:=name) (t:=⟨dx S.X,o.kind⟩) (id:=S.X.last+1) hI.ix hd htd (by
   show (ah (bD _ _ _) (dx S.X)).id=_
   rw [mq,t8 rfl];exact h1) rfl
  rw [Hq hI,show bT {S with O:=bD S.O (dx S.X) (λ_=>o)} ⟨d,2⟩=bT S ⟨d,2⟩ by unfold bT;rw [Hq hI]] at hg2
  have hg3:aV (iw S d name o)=aV {S with X:=(iw S d name o).X,O:=(iw S d name o).O}++[jZ (iw S d name o).O (S.X.last+1) ⟨dx S.X,o.kind⟩]:=by
   unfold aV
   rw [Lu hI,aiM];rfl
  have hN:({n with id:=S.X.last+1,bH:=S.X.cS,bh:=S.X.cZ}:aO)=jZ (iw S d name o).O (S.X.last+1) ⟨dx S.X,o.kind⟩:=by
   unfold jZ
   simp only
   rw [hnew,h5]
   obtain⟨ni,nk,nm,nu,ng,ns,nn,nda,nt,ne⟩:=n
   obtain⟨g1,g2,g3,g4,g5,g6,g7⟩:=hn
   simp only at g1 g2 g3 g4 g5 g6 g7 ⊢
   rw [g1,g2,g3,g4,g5,g6,g7,h2,h3];rfl
  rw [hg3,hg2,←hN];rfl
 ·rcases ((Qs hI).2.2 u).1 hu with rfl|SY
  ·constructor
   ·intro hz
    obtain⟨v,hv,e⟩:=hr.aJ.live _ hz
    exact KB (show v.k=dx S.X by exact Int.ofNat.inj e) (hI.fresh.ax _ (get_mem hv))
   intro h
   rw [hnew] at h
   have h:o.aJ=true:=h
   rw [h4] at h;cases h
  refine (hr.aJ.Fy u SY).trans ?_
  have:(ah (iw S d name o).O u.k).aJ=(ah S.O u.k).aJ:=by
   refine ai9 (mU (g:=bV.aJ) (λ_ _=>rfl) (λ_ _=>rfl) (λ_ _ _=>rfl) (λ_ _=>rfl)) ?_
   rw [mq,nw (hI.fresh.ax _ (get_mem SY))]
  rw [this]
 obtain⟨v,hv,e⟩:=hr.aJ.live z hz
 exact⟨v,((Qs hI).2.2 v).2 (.inr hv),e⟩
end x
section y
variable {S S' S2:aZ} {g:List Int} {t u:Th} {d to k i j:Nat} {name aG:ByteArray} {O O':eu} {h fH id z:Int} {c:aK} {R:RS} {o:bV} {n:aO}
theorem Cu (hr:RelR S g) (hd:aS S.ax ⟨d,2⟩) (name:ByteArray) (hb:¬(n.kind=3/\lF n.target≠0)):(iB S.X S.O S.ax d name=0/\cG (toR S g) (bT S ⟨d,2⟩) name n=(kz (toR S g) (bT S ⟨d,2⟩) name n,0))\/(iB S.X S.O S.ax d name≠0/\cG (toR S g) (bT S ⟨d,2⟩) name n=(toR S g,iB S.X S.O S.ax d name)):=by
 unfold cG iB
 rw [nw hb]
 rcases qp hr hd name with ⟨h1,h2⟩|⟨t,h1,h2,-⟩
 ·rw [t8 h1,nw (show ¬0<=cQ (toR S g).ns (bT S ⟨d,2⟩) name by rw [h2];decide)]
  by_cases h3:Room S.X S.ax
  ·rw [t8 ((Qm hr.inv.toInv0).2 h3),t8 h3];exact .inl ⟨rfl,rfl⟩
  rw [nw (λq=>h3 ((Qm hr.inv.toInv0).1 q)),nw h3];exact .inr ⟨d8,rfl⟩
 grind
theorem IU (hr:RelR S g) (hd:aS S.ax ⟨d,2⟩) (name:ByteArray) (hb:¬(n.kind=3/\lF n.target≠0)) (ho:o.id=S.X.last+1/\o.bH=S.X.cS/\o.bh=S.X.cZ/\o.aJ=false/\o.aq=[]) (hn:n.kind=o.kind/\n.mode=o.mode/\n.cM=o.cM/\n.cO=o.cO/\n.data=o.data/\n.target=o.target/\n.aq=[]) :
 iK ((cG (toR S g) (bT S ⟨d,2⟩) name n).1,0,(cG (toR S g) (bT S ⟨d,2⟩) name n).2) (if iB S.X S.O S.ax d name=0 then (0,iw S d name o) else (iB S.X S.O S.ax d name,S)).1 (if iB S.X S.O S.ax d name=0 then ((0:Int),iw S d name o) else (iB S.X S.O S.ax d name,S)).2 0:=by
 grind [Cu,Lv,aS,lF,iK,cG,toR,bT,iB,iw]
theorem Ye (hr:RelR S g) (c:aK) (cD:c.op=4):iK (match lM (toR S g) c.bA c.name 192 with|.error e=>(toR S g,0,e)|.ok d=>mZ (toR S g) c d) (iQ S c).1 (iQ S c).2.1 0:=by
 unfold iQ
 rw [Tf hr]
 rcases CM hr.inv.toInv0 c.bA c.name 192 with ⟨e,h,he⟩|⟨d,h,hd,-⟩
 ·rw [h];exact .bad rfl he
 rw [h]
 simp only
 unfold mZ
 rw [nw d5,nw d5]
 by_cases hm:mT c.mode
 ·rw [t8 hm,t8 hm,nw d5]
  exact IU (o:=dN S.X 2 c.mode) hr hd c.name (λq=>KB (show (2:Int)=3 from q.1) d8) ⟨rfl,rfl,rfl,rfl,rfl⟩ ⟨rfl,rfl,rfl,rfl,rfl,rfl,rfl⟩
 grind [iK,lM,toR,mZ,iQ]
theorem ady (hr:RelR S g) (hd:aS S.ax ⟨d,2⟩) (hl:bF name (ah S.O d).aq=some t):q5 name (nd (aV S) (bT S ⟨d,2⟩)).aq 0=(t.k:Int):=by
 have hI:=hr.inv.toInv0
 rw [(nR hI.ix hd).2.2.2.2.2]
 show q5 name ((ah S.O d).aq.map (gM S.O)) 0=_
 exact (Te _ (hI.pN hd) hl).trans (hI.ob _ (hr.inv.bR hd hl).2).1
theorem Yf (hr:RelR S g) (hd:aS S.ax ⟨d,2⟩) (hl:bF name (ah S.O d).aq=some t):(dg (toR S g) (bT S ⟨d,2⟩) name true).aJ=if (ah S.O t.k).aT-1=0 then g++[(t.k:Int)] else g:=by
 have hI:=hr.inv.toInv0
 have h2:tY (nK S.X.cS S.X.cZ (aV S) (bT S ⟨d,2⟩) (rP name (nd (aV S) (bT S ⟨d,2⟩)).aq)) (t.k:Int)=(ah S.O t.k).aT-1:=by
  rw [←y7 (S:=S) (S':={S with O:=bn S.X S.O d name t}) hI.ix hd (hr.inv.ne hd hl) rfl (λ_=>rfl)]
  grind [RG,bn]
 grind [tY,nK,aV,bT,rP,nd,q5,ady,ah,aS,bF,dg,toR]
structure agx (S:aZ) (d:Nat) (name:ByteArray) (t:Th) (g':List Int):Prop where
 aJ:xK S.ax (bg S d name t).O g'
 ax:(bg S d name t).ax=kg (bg S d name t).O S.ax t
 core:∀x,Proofs.YtfececghhgeapaaGreatDoor.core (ah (bg S d name t).O x)=Proofs.YtfececghhgeapaaGreatDoor.core (ah (bn S.X S.O d name t) x)
 aQ:∀x,(ah (bg S d name t).O x).aQ=(ah S.O x).aQ
 others:∀x,x≠t.k->(ah (bg S d name t).O x).aJ=(ah S.O x).aJ
theorem Qt (hr:RelR S g) (hd:aS S.ax ⟨d,2⟩) (hl:bF name (ah S.O d).aq=some t):agx S d name t (dg (toR S g) (bT S ⟨d,2⟩) name true).aJ:=by
 have hI:=hr.inv.toInv0
 have fX:=(hr.inv.bR hd hl).2
 have htd:=hr.inv.ne hd hl
 have fC:(ah (bn S.X S.O d name t) t.k).aT=(ah S.O t.k).aT-1:=by grind [lg]
 have hgo:∀x,(ah (bn S.X S.O d name t) x).aJ=(ah S.O x).aJ:=λx=>eZ (g:=bV.aJ) (λ_ _=>rfl) (λ_ _=>rfl) (λ_ _ _=>rfl)
 have cD:∀x,(ah (bn S.X S.O d name t) x).aQ=(ah S.O x).aQ:=λx=>eZ (g:=bV.aQ) (λ_ _=>rfl) (λ_ _=>rfl) (λ_ _ _=>rfl)
 rw [Yf hr hd hl]
 by_cases h0:(ah S.O t.k).aT-1=0
 ·have hm:=xZ (S:=S) (d:=d) (name:=name) (t:=t) (fC.trans h0)
  have hO:(bg S d name t).O=tu (bn S.X S.O d name t) t.k:=by rw [hm]
  have hat:∀x,(ah (tu (bn S.X S.O d name t) t.k) x).aJ=if x=t.k then true else (ah S.O x).aJ:=λx=>by
   grind [tu,mq]
  rw [t8 h0]
  refine⟨⟨λu hu=>?_,λz hz=>?_⟩,by rw [hO,hm],λx=>?_,λx=>?_,λx hx=>?_⟩
  ·rw [hO,hat,air,aiD]
   by_cases hx:u.k=t.k
   ·grind
   rw [nw hx,←hr.aJ.Fy u hu]
   grind
  ·rcases air.1 hz with hz|hz
   ·exact hr.aJ.live z hz
   grind
  ·rw [hO];exact eU (g:=Proofs.YtfececghhgeapaaGreatDoor.core) (f:=λo=>{o with aJ:=true}) (λ_=>rfl)
  ·rw [hO];exact ai9 (eU (g:=bV.aQ) (f:=λo=>{o with aJ:=true}) (λ_=>rfl)) (cD x)
  rw [hO,hat,nw hx]
 have hm:=x5 (S:=S) (d:=d) (name:=name) (t:=t) (λq=>h0 (fC.symm.trans q))
 have hO:(bg S d name t).O=bn S.X S.O d name t:=by rw [hm]
 rw [nw h0]
 refine⟨by rw [hO];exact hr.aJ.same hgo,?_,λx=>by rw [hO],λx=>by rw [hO];exact cD x,λx _=>by rw [hO];exact hgo x⟩
 rw [hO,hm]
 unfold kg
 rw [nw]
 rintro⟨h1,_⟩
 rw [hgo] at h1
 have h2:=hI.aJ t fX h1
 have h3:=hI.aT t fX
 have h4:=qO (ax:=S.ax) hd hl
 omega
theorem Lw (hr:RelR S g) (hu:aS S.ax u) (h:(ah S.O u.k).aJ=true):0<hnd S.us u.k:=by
 have h1:=hr.inv.full u hu h
 rw [hr.inv.aQ u hu] at h1;omega
theorem Qu (hr:RelR S g) (hd:aS S.ax ⟨d,2⟩) (hl:bF name (ah S.O d).aq=some t) (h1:S2={bg S d name t with O:=S2.O}) (hc:∀x,core (ah S2.O x)=core (ah (bg S d name t).O x)) (hgo:∀x,(ah S2.O x).aJ=(ah (bg S d name t).O x).aJ) :
 iK (gD (dg (toR S g) (bT S ⟨d,2⟩) name true),0,0) 0 S2 0:=by
 have hI:=hr.inv.toInv0
 have fX:=(hr.inv.bR hd hl).2
 have Tg:=Qt hr hd hl
 have hX:S2.X=(bg S d name t).X:=by rw [h1]
 have hsw:=Ca (S1:={S with O:=bn S.X S.O d name t}) (S2:=S2) (O2:=(bg S d name t).O) (Qo:=S.us) (R:=dg (toR S g) (bT S ⟨d,2⟩) name true) (t:=t) hI.ix
  (y7 (S:=S) (S':={S with O:=bn S.X S.O d name t}) hI.ix hd (hr.inv.ne hd hl) rfl (λ_=>rfl)).symm rfl Tg.aJ fX
  (λu hu cF MW=>by
   rw [Tg.others u.k (λe=>cF (jS hu fX e))] at MW
   exact Lw hr hu MW)
  (by rw [Tg.aQ];exact hI.aQ t fX)
  (by have h:=zc bV.id (Tg.core t.k);exact h.trans ((eZ (g:=bV.id) (λ_ _=>rfl) (λ_ _=>rfl) (λ_ _ _=>rfl)).trans (hI.ob t fX).1))
  (by rw [h1];exact Tg.ax) (λx=>(hc x).trans (Tg.core x)) hgo
 grind [aS,bF,ah,bg,core,iK,gD,dg,toR,bT]
end y
section z
variable {S S' S2:aZ} {g:List Int} {t u:Th} {d to k i j:Nat} {name aG:ByteArray} {O O':eu} {h fH id z:Int} {c:aK} {R:RS} {o:bV} {n:aO}
theorem Yg (hr:RelR S g) (hd:aS S.ax ⟨d,2⟩) (name:ByteArray):iK ((jV (toR S g) (bT S ⟨d,2⟩) name false).1,0,(jV (toR S g) (bT S ⟨d,2⟩) name false).2) (iW S d name).1 (iW S d name).2 0:=by
 have hI:=hr.inv.toInv0
 unfold jV iW
 rcases qp hr hd name with ⟨h1,h2⟩|⟨t,h1,h2,hl,hk,htd⟩
 ·grind [cQ,toR,bT,aS,iK,jV,iW]
 rw [h1,t8 (show 0<=cQ (toR S g).ns (bT S ⟨d,2⟩) name by rw [h2];omega),h2,aiH]
 simp only
 rw [qo hI hl]
 by_cases h3:t.kind=2
 ·rw [t8 ⟨trivial,h3⟩,t8 h3];exact .bad rfl (show (172:Int)≠0 by decide)
 rw [nw (λq=>h3 q.2),nw (λq=>by cases q.1),nw (λq=>by cases q.1),nw h3]
 exact Qu hr hd h1 rfl (λ_=>rfl) (λ_=>rfl)
theorem Yh (hr:RelR S g) (hd:aS S.ax ⟨d,2⟩) (name:ByteArray):iK ((jV (toR S g) (bT S ⟨d,2⟩) name true).1,0,(jV (toR S g) (bT S ⟨d,2⟩) name true).2) (jt S d name).1 (jt S d name).2 0:=by
 have hI:=hr.inv.toInv0
 unfold jV jt
 rcases qp hr hd name with ⟨h1,h2⟩|⟨t,h1,h2,hl,hk,htd⟩
 ·grind [cQ,toR,bT,aS,iK,jV,jt]
 rw [h1,t8 (show 0<=cQ (toR S g).ns (bT S ⟨d,2⟩) name by rw [h2];omega),h2,aiH]
 simp only
 rw [qo hI hl,nw (λq=>by cases q.1)]
 by_cases h3:t.kind=2
 rotate_left
 ·rw [t8 ⟨trivial,h3⟩,nw h3];exact .bad rfl (show (173:Int)≠0 by decide)
 rw [nw (λq=>q.2 h3),t8 h3]
 have hel:(jZ S.O (t.k:Int) t).aq.length=(ah S.O t.k).aq.length:=aip ..
 rw [hel]
 by_cases h4:(ah S.O t.k).aq=[]
 ·rw [nw gn,t8 h4]
  exact Qu hr hd h1 (S2:={bg S d name t with O:=jr (bg S d name t).O t.k}) rfl (λx=>eU (g:=core) (f:=λo=>{o with up:=none}) (λ_=>rfl)) (λx=>eU (g:=bV.aJ) (f:=λo=>{o with up:=none}) (λ_=>rfl))
 rw [t8 ⟨trivial,List.length_pos_iff.2 h4⟩,nw h4];exact .bad rfl (show (178:Int)≠0 by decide)
end z
theorem Hr {α:Type} {p q:α->Bool} (h:∀x,p x=true->q x=true):∀{l:List α} {a:α},a∈l->q a=true->p a=false->l.countP p<l.countP q
 |b::r,a,ha,hq,hp=>by
   rw [List.countP_cons,List.countP_cons]
   have hm:r.countP p<=r.countP q:=List.countP_mono_left (λx _ hx=>h x hx)
   rcases T8.1 ha with rfl|ha
   ·rw [t8 hq,nw (by rw [hp];decide)];omega
   have:=Hr h ha hq hp
   by_cases hb:p b=true
   ·rw [t8 hb,t8 (h b hb)];omega
   rw [nw hb];omega
theorem Qv {ns:List aO} {id:Int}:∀n,(∀i,i<n->¬0<je (nd ns i).aq id (nd ns i).aq.length)->oA ns id n = -1
 |0,_=>rfl
 |n+1,h=>by
   unfold oA
   rw [nw (h n (aiA n))];exact Qv n (λi hi=>h i d5)
theorem Qw {ns:List aO} {id:Int} {z:Nat} (hp:0<je (nd ns z).aq id (nd ns z).aq.length):∀n,z<n->(∀i,i<n->0<je (nd ns i).aq id (nd ns i).aq.length->i=z)->oA ns id n=(z:Int)
 |n+1,hz,hu=>by
   unfold oA
   by_cases h:0<je (nd ns n).aq id (nd ns n).aq.length
   ·rw [t8 h,hu n (aiA n) h]
   rw [nw h]
   exact Qw hp n gn (λi hi=>hu i d5)
section q
variable {S S' S2:aZ} {g:List Int} {t u:Th} {d to k i j:Nat} {name aG:ByteArray} {O O':eu} {h fH id z:Int} {c:aK} {R:RS} {o:bV} {n:aO}
theorem Ti (hI:Inv0 S) (hi:i<S.ax.length):0<je (nd (aV S) i).aq (k:Int) (nd (aV S) i).aq.length↔∃e∈(ah S.O (jy S i).k).aq,e.2.k=k:=by
 have hl:=(Gy hI.ix hi).1
 rw [qx hi]
 show 0<je ((ah S.O (jy S i).k).aq.map (gM S.O)) _ ((ah S.O (jy S i).k).aq.map (gM S.O)).length↔_
 rw [aip,D1 (λe he=>(hI.ob _ (hI.aq _ hl e he).2).1) _ (N6 _),aiu,List.countP_pos_iff]
 grind
theorem afi (hI:Inv0 S) (hu:aS S.ax u) (h2:u.kind=2):oA (aV S) (u.k:Int) (aV S).length=match (ah S.O u.k).up with|none=>-1|some j=>(bT S ⟨j,2⟩:Int):=by
 have key:∀i,i<S.ax.length->0<je (nd (aV S) i).aq (u.k:Int) (nd (aV S) i).aq.length->(ah S.O u.k).up=some (jy S i).k/\jy S i=⟨(jy S i).k,2⟩:=λi hi hp=>by
  obtain⟨e,he,hek⟩:=(Ti hI hi).1 hp
  have hl:=(Gy hI.ix hi).1
  have hk2:(jy S i).kind=2:=by
   apply aiy
   intro hn
   have h3:=(hI.mt _ hl).aq (by rw [(hI.ob _ hl).2.1];exact hn)
   rw [h3] at he;cases he
  have ht:jy S i=⟨(jy S i).k,2⟩:=by rw [←hk2]
  have heu:e.2=u:=jS (hI.aq _ hl e he).2 hu hek
  refine⟨(hI.up u hu _).2 ⟨h2,by rw [←ht];exact hl,e.1,?_⟩,ht⟩
  exact zY (hI.pN hl) (by rw [←heu];exact he)
 rw [iM]
 cases e:(ah S.O u.k).up with
 |none=>
   grind [Qv]
 |some j=>
   obtain⟨_,hj,nm,hnm⟩:=(hI.up u hu j).1 e
   have hp:=nR hI.ix hj
   refine Qw ((Ti hI hp.2.1).2 ⟨(nm,u),?_,rfl⟩) _ hp.2.1 (λi hi hq=>?_)
   ·rw [hp.2.2.1];exact rf hnm
   obtain⟨h3,h4⟩:=key i hi hq
   rw [e] at h3
   injection h3 with h3
   refine Kf hI.ix hi hp.2.1 ?_
   rw [(Gy hI.ix hi).2,hp.2.2.2.1,←h3]
theorem Yi (hI:Inv0 S) (ht:aS S.ax t) (h2:t.kind=2) (fw:aS S.ax ⟨to,2⟩):jO (aV S) (bT S t) ((aV S).length+1) (bT S ⟨to,2⟩)=true↔su S.O t.k to:=by
 obtain⟨dp,hdp⟩:=hI.deep
 have main:∀(f d:Nat),aS S.ax ⟨d,2⟩->S.ax.countP (λp=>decide (dp p.2.k<dp d))<f->(jO (aV S) (bT S t) f (bT S ⟨d,2⟩)=true↔su S.O t.k d):=by
  intro f
  induction f with
  |zero=>intro d _ h;omega
  |succ f ih=>
    intro d hd hm
    have hp:=nR hI.ix hd
    unfold jO
    by_cases hdt:bT S ⟨d,2⟩=bT S t
    ·rw [t8 hdt]
     have:=Tc hI.ix hd ht hdt
     rw [←this]
     exact⟨λ_=>.here,λ_=>rfl⟩
    rw [nw hdt,hp.2.2.2.2.2]
    show (if oA (aV S) (d:Int) (aV S).length<0 then false else jO (aV S) (bT S t) f (oA (aV S) (d:Int) (aV S).length).toNat)=true↔_
    have hu:oA (aV S) (d:Int) (aV S).length=_:=afi hI hd rfl
    have hdk:d≠t.k:=λe=>hdt (by rw [show (⟨d,2⟩:Th)=t by rw [e,←h2]])
    cases e:(ah S.O d).up with
    |none=>
      rw [show (ah S.O (⟨d,2⟩:Th).k).up=none from e] at hu
      replace hu:oA (aV S) (d:Int) (aV S).length = -1:=hu
      rw [hu,t8 d8]
      refine⟨λq=>KB q (by decide),λq=>?_⟩
      cases q with
      |here=>exact KB rfl hdk
      |up h3 _=>rw [e] at h3;cases h3
    |some j=>
      rw [show (ah S.O (⟨d,2⟩:Th).k).up=some j from e] at hu
      replace hu:oA (aV S) (d:Int) (aV S).length=(bT S ⟨j,2⟩:Int):=hu
      obtain⟨_,hj,_⟩:=(hI.up _ hd j).1 e
      have fX:=hdp d j e
      rw [hu,nw d5,aiH,ih j hj (aiq (Hr (p:=λp:Int×Th=>decide (dp p.2.k<dp j)) (q:=λp=>decide (dp p.2.k<dp d)) (λx hx=>aio (by have:=aiQ hx;omega)) (get_mem hj) (aio fX) (Lk (ai1 _))) (Nat.lt_succ_iff.1 hm))]
      refine⟨λq=>.up e q,λq=>?_⟩
      cases q with
      |here=>exact KB rfl hdk
      |up h3 h4=>rw [e] at h3;injection h3 with h3;rw [h3];exact h4
 grind [iM]
end q
section j
variable {S S' S2:aZ} {g:List Int} {t u:Th} {d to k i j:Nat} {name aG:ByteArray} {O O':eu} {h fH id z:Int} {c:aK} {R:RS} {o:Th} {n:aO}
theorem Hs {X:FM} {x:Nat}:(ah (bn X O d name t) x).aJ=(ah O x).aJ:=eZ (g:=bV.aJ) (λ_ _=>rfl) (λ_ _=>rfl) (λ_ _ _=>rfl)
theorem FB {X:FM} {x:Nat}:(ah (bn X O d name t) x).aQ=(ah O x).aQ:=eZ (g:=bV.aQ) (λ_ _=>rfl) (λ_ _=>rfl) (λ_ _ _=>rfl)
theorem Cb {X:FM} {x:Nat}:(ah (bn X O d name t) x).id=(ah O x).id:=eZ (g:=bV.id) (λ_ _=>rfl) (λ_ _=>rfl) (λ_ _ _=>rfl)
theorem Ht {X:FM} {x:Nat}:(ah (dV X O d name t) x).aJ=(ah O x).aJ:=mU (g:=bV.aJ) (λ_ _=>rfl) (λ_ _=>rfl) (λ_ _ _=>rfl) (λ_ _=>rfl)
theorem FC {X:FM} {x:Nat}:(ah (dV X O d name t) x).aQ=(ah O x).aQ:=mU (g:=bV.aQ) (λ_ _=>rfl) (λ_ _=>rfl) (λ_ _ _=>rfl) (λ_ _=>rfl)
theorem MX {X:FM} {x:Nat}:(ah (dV X O d name t) x).id=(ah O x).id:=mU (g:=bV.id) (λ_ _=>rfl) (λ_ _=>rfl) (λ_ _ _=>rfl) (λ_ _=>rfl)
theorem aa4 (hr:RelR S g) (hd:aS S.ax ⟨d,2⟩) (hl:bF name (ah S.O d).aq=some t):(ah S.O t.k).aJ≠true:=λh=>by
 have hI:=hr.inv.toInv0
 have fX:=(hr.inv.bR hd hl).2
 have h2:=hI.aJ t fX h
 have h3:=hI.aT t fX
 have h4:=qO (ax:=S.ax) hd hl
 omega
theorem Hu (R:RS) (d:Nat) (name:ByteArray):(dg R d name false).aJ=R.aJ:=by
 grind [dg]
theorem Tj {S1:aZ} (hx:qm S.ax) (hi:S1.ax=S.ax) (hX:S1.X.cS=S.X.cS/\S1.X.cZ=S.X.cZ) (hns:R.ns=aV S1) (hRs:R.cS=S.X.cS/\R.cZ=S.X.cZ) (hd:aS S.ax ⟨d,2⟩) (fw:aS S.ax ⟨to,2⟩) (htd:t.k≠d) (Eg:t.k≠to) (hid:(ah S1.O t.k).id=(t.k:Int))
 (hi2:S2.ax=S.ax) (hO:S2.O=dV S1.X (bn S1.X S1.O d name t) to aG t) :
 (dW (dg R (bT S ⟨d,2⟩) name false) (bT S ⟨to,2⟩) aG (t.k:Int)).ns=aV S2:=by
 have hx1:qm S1.ax:=by rw [hi];exact hx
 have jJ:aS S1.ax ⟨d,2⟩:=by rw [hi];exact hd
 have oR:aS S1.ax ⟨to,2⟩:=by rw [hi];exact fw
 have hl:=y7 (S:=S1) (S':={S1 with O:=bn S1.X S1.O d name t}) (name:=name) hx1 jJ htd rfl (λ_=>rfl)
 have he:=Kh (S:={S1 with O:=bn S1.X S1.O d name t}) (S':={S1 with O:=dV S1.X (bn S1.X S1.O d name t) to aG t}) (name:=aG) (id:=(t.k:Int)) hx1 oR Eg (Cb.trans hid) rfl
 grind [aV,dV,bn,bT,aa3,nK,mK,nd,aS,ah,dW,dg]
theorem Yj (hr:RelR S g) (hd:aS S.ax ⟨d,2⟩) (hl:bF name (ah S.O d).aq=some t) (fw:aS S.ax ⟨to,2⟩) (Eg:t.k≠to) :
 iK (gD (dW (dg (toR S g) (bT S ⟨d,2⟩) name false) (bT S ⟨to,2⟩) aG (t.k:Int)),0,0) 0 (pJ S d name to aG t) 0:=by
 have hI:=hr.inv.toInv0
 have fX:=(hr.inv.bR hd hl).2
 have htd:=hr.inv.ne hd hl
 obtain⟨S2,yP⟩:∃S2,S2=pJ S d name to aG t:=⟨_,rfl⟩
 have hi2:S2.ax=S.ax:=by rw [yP];rfl
 have Ki:S2.O=dV S.X (bn S.X S.O d name t) to aG t:=by rw [yP];rfl
 have hgo:∀x,(ah S2.O x).aJ=(ah S.O x).aJ:=λx=>by rw [Ki];exact Ht.trans Hs
 have hns:(dW (dg (toR S g) (bT S ⟨d,2⟩) name false) (bT S ⟨to,2⟩) aG (t.k:Int)).ns=aV S2:=Tj (S1:=S) hI.ix rfl ⟨rfl,rfl⟩ rfl ⟨rfl,rfl⟩ hd fw htd Eg (hI.ob t fX).1 hi2 Ki
 have hgn:(dW (dg (toR S g) (bT S ⟨d,2⟩) name false) (bT S ⟨to,2⟩) aG (t.k:Int)).aJ=g:=Hu (toR S g) (bT S ⟨d,2⟩) name
 have hsw:=Ca (S1:=S2) (S2:=S2) (O2:=S2.O) (Qo:=S.us) (R:=dW (dg (toR S g) (bT S ⟨d,2⟩) name false) (bT S ⟨to,2⟩) aG (t.k:Int)) (t:=t) (by rw [hi2];exact hI.ix) hns rfl
  (by rw [hgn,hi2];exact hr.aJ.same hgo) (by rw [hi2];exact fX)
  (λu hu _ MW=>by grind [Lw])
  (by rw [Ki,FC,FB];exact hI.aQ t fX) (by rw [Ki,MX,Cb];exact (hI.ob t fX).1)
  (by unfold kg;rw [nw];exact λq=>aa4 hr hd hl ((hgo _).symm.trans q.1)) (λ_=>rfl) (λ_=>rfl)
 grind [aS,bF,ah,iK,gD,dW,dg,toR,bT,pJ]
theorem Vn {ax:bC Th} (h1:(ah O' o.k).aJ=(ah O o.k).aJ) (h2:(ah O' o.k).aQ=(ah O o.k).aQ) (h3:(ah O' o.k).id=(ah O o.k).id):kg O' ax o=kg O ax o:=by
 grind [uh,kg]
theorem Yk (hr:RelR S g) (hd:aS S.ax ⟨d,2⟩) (hl:bF name (ah S.O d).aq=some t) (fw:aS S.ax ⟨to,2⟩) (Eg:t.k≠to) (ho:bF aG (ah S.O to).aq=some o) :
 iK (gD (dW (dg (dg (toR S g) (bT S ⟨to,2⟩) aG true) (bT S ⟨d,2⟩) name false) (bT S ⟨to,2⟩) aG (t.k:Int)),0,0) 0 (pJ (bg S to aG o) d name to aG t) 0:=by
 have hI:=hr.inv.toInv0
 have fX:=(hr.inv.bR hd hl).2
 have hlo:=(hr.inv.bR fw ho).2
 have htd:=hr.inv.ne hd hl
 obtain⟨e1,e2,e3,e4,e5⟩:=Qt hr fw ho
 obtain⟨D,hD⟩:∃D,D=bg S to aG o:=⟨_,rfl⟩
 rw [←hD] at e1 e2 e3 e4 e5 ⊢
 obtain⟨g1,hg1⟩:∃g1,g1=(dg (toR S g) (bT S ⟨to,2⟩) aG true).aJ:=⟨_,rfl⟩
 rw [←hg1] at e1
 have hDX:D.X.cS=S.X.cS/\D.X.cZ=S.X.cZ:=by rw [hD];exact⟨rfl,rfl⟩
 obtain⟨R,hR⟩:∃R,R=dW (dg (dg (toR S g) (bT S ⟨to,2⟩) aG true) (bT S ⟨d,2⟩) name false) (bT S ⟨to,2⟩) aG (t.k:Int):=⟨_,rfl⟩
 obtain⟨S2,yP⟩:∃S2,S2=pJ D d name to aG t:=⟨_,rfl⟩
 have Ki:S2.O=dV D.X (bn D.X D.O d name t) to aG t:=by rw [yP];rfl
 have hi2:S2.ax=D.ax:=by rw [yP];rfl
 have hgo:∀x,(ah S2.O x).aJ=(ah D.O x).aJ:=λx=>by rw [Ki];exact Ht.trans Hs
 have cD:∀x,(ah S2.O x).aQ=(ah S.O x).aQ:=λx=>by rw [Ki];exact (FC.trans FB).trans (e4 x)
 have afj:∀x,(ah D.O x).id=(ah S.O x).id:=λx=>by
  have h:=zc bV.id (e3 x)
  have h:(ah D.O x).id=(ah (bn S.X S.O to aG o) x).id:=h
  exact h.trans Cb
 have hid:∀x,(ah S2.O x).id=(ah D.O x).id:=λx=>by rw [Ki];exact MX.trans Cb
 have hn1:(dg (toR S g) (bT S ⟨to,2⟩) aG true).ns=aV {S with O:=D.O,X:=D.X}:=
  (y7 (S:=S) (S':={S with O:=D.O,X:=D.X}) hI.ix fw (hr.inv.ne fw ho) rfl e3).symm
 have hns:R.ns=aV {S2 with ax:=S.ax}:=by
  rw [hR]
  exact Tj (S:=S) (S1:={S with O:=D.O,X:=D.X}) (S2:={S2 with ax:=S.ax}) hI.ix rfl hDX hn1 ⟨rfl,rfl⟩ hd fw htd Eg ((afj _).trans (hI.ob t fX).1) rfl Ki
 have hgn:R.aJ=g1:=by rw [hR,hg1];exact Hu (dg (toR S g) (bT S ⟨to,2⟩) aG true) (bT S ⟨d,2⟩) name
 have hsw:=Ca (S1:={S2 with ax:=S.ax}) (S2:=S2) (O2:=S2.O) (Qo:=S.us) (R:=R) (t:=o) hI.ix hns (by rw [hR];rfl)
  (by rw [hgn];exact e1.same hgo) hlo
  (λu hu cF MW=>by
   rw [hgo,e5 u.k (λe=>cF (jS hu hlo e))] at MW
   exact Lw hr hu MW)
  (by rw [cD];exact hI.aQ o hlo) (by rw [hid,afj];exact (hI.ob o hlo).1)
  (by
   rw [hi2,e2]
   exact (Vn (hgo _) ((cD _).trans (e4 _).symm) (hid _)).symm) (λ_=>rfl) (λ_=>rfl)
 grind [aS,bF,ah,iK,gD,dW,dg,toR,bT,pJ,bg]
theorem Yl (hr:RelR S g) (hd:aS S.ax ⟨d,2⟩) (fw:aS S.ax ⟨to,2⟩) (name aG:ByteArray):iK ((jW (toR S g) (bT S ⟨d,2⟩) name (bT S ⟨to,2⟩) aG).1,0,(jW (toR S g) (bT S ⟨d,2⟩) name (bT S ⟨to,2⟩) aG).2) (dG S d name to aG).1 (dG S d name to aG).2 0:=by
 have hI:=hr.inv.toInv0
 unfold jW dG
 rcases qp hr hd name with ⟨h1,h2⟩|⟨t,h1,h2,hl,hk,htd⟩
 ·grind [cQ,toR,bT,aS,iK,jW,dG]
 rw [h1,t8 (show 0<=cQ (toR S g).ns (bT S ⟨d,2⟩) name by rw [h2];omega),h2,aiH]
 simp only
 rw [qo hI hl]
 have hb:t.kind=2->(jO (toR S g).ns (bT S t) ((toR S g).ns.length+1) (bT S ⟨to,2⟩)=true↔su S.O t.k to):=λq=>Yi hI hl q fw
 simp only [show (jZ S.O (t.k:Int) t).kind=t.kind from rfl,show (jZ S.O (t.k:Int) t).id=(t.k:Int) from rfl]
 by_cases h3:t.kind=2/\su S.O t.k to
 ·grind [jO,toR,bT,aS,iK,jW,dG]
 rw [nw (show ¬(t.kind=2/\jO (toR S g).ns (bT S t) ((toR S g).ns.length+1) (bT S ⟨to,2⟩)=true) from λq=>h3 ⟨q.1,(hb q.1).1 q.2⟩),nw h3]
 have Eg:t.k≠to:=λe=>by
  have h4:t=⟨to,2⟩:=jS hl fw e
  exact h3 ⟨by rw [h4],by rw [e];exact .here⟩
 rcases qp hr fw aG with ⟨h4,h5⟩|⟨o,h4,h5,hlo,hko,hot⟩
 ·grind [cQ,toR,bT,Yj]
 rw [h4,h5]
 simp only
 by_cases h6:o=t
 ·rw [t8 (by rw [h6]),t8 h6];exact .same hr rfl
 rw [nw (λq=>h6 (Tc hI.ix hlo hl d5)),nw h6,t8 d5,aiH,qo hI hlo]
 grind [jZ,Yk,aS,iK,jW,toR,bT,dG]
end j
section g
variable {S S' S2:aZ} {g:List Int} {t u:Th} {d to k i j:Nat} {c:aK}
theorem iK.an {a:xu} {code an an':Int} (h:iK a code S' an) (h2:code=0->an=an'):iK a code S' an':=⟨h.1,λq=>by obtain⟨g',h3,h4,h5⟩:=h.2 q;exact⟨g',h3,h4,h5.trans (h2 q)⟩⟩
theorem aa5 (h:(fD S t).2.1≠0):(fD S t).1=0:=by
 grind [mB,om]
def Told (c:aK) (m:vK):Prop:=m.2.2={c with answer:=m.2.2.answer}/\(m.1≠0->m.2.2.answer=c.answer)
theorem Told.plain {m:vK} (h:m.2.2=c):Told c m:=⟨by rw [h],λ_=>by rw [h]⟩
theorem MY (h0:c.answer=0):Told c ((fD S t).2.1,(fD S t).2.2,{c with answer:=(fD S t).1}):=⟨rfl,λh=>ai9 (aa5 (S:=S) (t:=t) h) h0.symm⟩
theorem Ym (h0:c.answer=0):Told c (kP S c):=by
 unfold kP
 split
 ·exact .plain rfl
 split
 ·exact MY h0
 exact .plain rfl
theorem aa6 (h0:c.answer=0):Told c (gh S c):=by
 unfold gh
 split
 ·exact .plain rfl
 split
 ·exact .plain rfl
 split
 ·exact .plain rfl
 exact MY h0
theorem Yn (hr:RelR S g) (c:aK) (cD:mE c.op):iK (dI (toR S g) c) (iL S (c0 c)).1 (iL S (c0 c)).2.1 (iL S (c0 c)).2.2.answer/\Told (c0 c) (iL S (c0 c)):=by
 have plain:∀{a:xu} {m:vK},m.2.2=c0 c->iK a m.1 m.2.1 0->iK a m.1 m.2.1 m.2.2.answer/\Told (c0 c) m:=λ{a m} h1 h2=>⟨h2.an (λ_=>by rw [h1]),.plain h1⟩
 unfold dI
 rcases cD with h|h|h|h
 ·rw [t8 h,vM (c:=c0 c) h];exact⟨aa1 hr (c0 c),Ym rfl⟩
 ·rw [nw d5,t8 h,uj (c:=c0 c) h];exact⟨RH hr (c0 c),aa6 rfl⟩
 ·rw [nw d5,nw d5,nw d5,t8 (.inl h)];grind [vN,iQ,Ye]
 rw [nw d5,nw d5,nw d5,nw d5,nw d5,nw d5,nw d5,t8 h]
 grind [sU,ju,X8]
theorem aa7 (hr:RelR S g) (c:aK) (cD:mE c.op):∃g',ul (toR S g) c=(toR (fF S c).1 g',(fF S c).2)/\RelR (fF S c).1 g':=by
 unfold ul
 rw [nw (by unfold mE at cD;omega)]
 obtain⟨h1,h2,h3⟩:=Yn hr c cD
 by_cases h0:(iL S (c0 c)).1=0
 ·rw [t8 (h1.1.trans h0)]
  obtain⟨g',e1,e2,e3⟩:=h1.2 h0
  refine⟨g',?_,hr.inv.fF c,e2⟩
  grind [toR,iL,ul,fF]
 rw [nw (λq=>h0 (h1.1.symm.trans q))]
 have hS:(fF S c).1=S:=ac5 (c:=c) h0
 refine⟨g,?_,by rw [hS];exact hr⟩
 rw [hS,h1.1]
 grind [iL,ul,toR,fF]
end g
section g
variable {R:RS} {d k to f:Nat} {name aG:ByteArray} {n:aO} {c:aK} {b:Bool} {id:Int}
def GL (R:RS):Prop:=R.aJ.length<=4096
theorem IV (h:R.ns.length<=4096):GL (gD R):=by
 grind [GL,gD]
theorem Kj:(dg R d name b).ns.length=R.ns.length:=T7 ..
theorem Vo:(dW R d name id).ns.length=R.ns.length:=T7 ..
theorem Lx (h:GL R):GL (mg R k).1:=by unfold mg;split<;>exact h
theorem Tk {bs:List UInt8} (h:GL R):GL (kZ R k bs).1:=by unfold kZ;(repeat' split)<;>exact h
theorem Qx (h:GL R):GL (cG R d name n).1:=by unfold cG;(repeat' split)<;>exact h
theorem Qy (h:GL R) (hn:R.ns.length<=4096):GL (jV R d name b).1:=by
 grind [jV,IV,Kj]
theorem Qz (h:GL R) (hn:R.ns.length<=4096):GL (jW R f name to aG).1:=by
 grind [jW,IV,Vo,Kj]
theorem QA {w:Int} (h:GL R):GL (kX R c w).1:=by
 grind [kX,Lx]
theorem Yo (h:GL R) (hn:R.ns.length<=4096):GL (mZ R c d).1:=by
 grind [mZ,Qy,Qx,Lx]
theorem aa8 (h:GL R) (hn:R.ns.length<=4096):GL (dI R c).1:=by
 unfold dI
 split
 ·grind [Lx]
 split
 ·exact QA h
 split
 ·exact QA h
 split
 ·split
  ·exact h
  exact Yo h hn
 split
 ·unfold ab8
  (repeat' split)<;>exact h
 grind [Tk,ab7,IV,Qz,GL,dI]
theorem adz (h:GL R) (hn:R.ns.length<=4096):GL (ul R c).1:=by
 grind [ul,aa8,GL]
end g
section b
variable {S:aZ} {g:List Int}
theorem acq (hr:RelR S g) (hg:g.length<=4096):RC (toR S g):=by
 have hI:=hr.inv.toInv0
 have jX:(toR S g).ns.length=S.ax.length:=iM
 have qW:(toR S g).us.length=S.us.length:=Gz
 have hk:aY (toR S g).us=aY S.us:=IL
 have h1:=hI.len
 have h2:=hI.EP
 have h3:=hI.cH
 have h4:=hI.cN
 have h5:=hI.cB
 have h6:=hI.last
 have h7:=hI.aL
 refine⟨⟨d5,by show g.length<=8200;omega,d5,?_,?_⟩,Qi hI.ix,λid hid=>?_,λi hi=>?_,⟨h4.1,h4.2,h5.1,h5.2,h3.1,h3.2,h6.1,h6.2,h7.1,h7.2⟩,by rw [hk];exact hI.usr,λz hz=>(hI.wC z (by rw [←hk];exact hz)).1,by rw [qW];exact h2⟩
 ·have h8:=Qr (g:=g) hI
  have h9:=hI.total.2
  omega
 ·have h8:=Qn (g:=g) hI
  have h9:=hI.used.2
  omega
 ·have hid:id∈(ud S.us).map Prod.snd:=hid
  obtain⟨p,hp,rfl⟩:=aik.1 hid
  obtain⟨q,hq,rfl⟩:=aik.1 hp
  have hl:=(hr.inv.us q.1 q.2 (oy hI.usr hq)).1
  show 0<=gU (aV S) (q.2.k:Int)
  rw [(nR hI.ix hl).2.2.2.2.1];omega
 rw [jX] at hi
 rw [show nd (toR S g).ns i=jZ S.O (iy S i) (jy S i) from qx hi]
 exact (hI.ob _ (Gy hI.ix hi).1).2.2
end b
theorem MZ {X:FM} {ns:List aO} {S:aZ} (h:kV X ns ns.length 0 S) (hok:cE ns):RelR S []/\toR S []=⟨ns,[],[],0,X.cN,X.cB,X.cH,X.cS,X.cZ,qK ns ns.length⟩:=by
 refine⟨⟨h.full,⟨λt ht=>?_,λz hz=>by cases hz⟩⟩,?_⟩
 ·obtain⟨a,ha,e⟩:=h.of ht
  obtain⟨l,u,h1⟩:=h.ob a ha
  have hk:t.k=j6 (nd ns a):=by rw [e];rfl
  rw [hk,h1]
  exact Iff.intro (λq=>KB q (List.not_mem_nil)) (λq=>KB (show false=true from q) d8)
 unfold toR
 rw [h.graph hok,h.us,h.aL,h.cap];rfl
end
section
open Go.RowKit Go.Maps bw aH
attribute [local irreducible] aB bJ av aF lX
theorem Tl {β:Bs} (A:Option Addr) (c:Nat) (ns:List aO) (Y:fq) (hG:aN β A ns Y) (hl:ns.length<=1048576) (hd:∀i,i<ns.length->(nd ns i).data.length<=1048576/\(nd ns i).aq.length<=1048576) (hwf:∀i,i<ns.length->∀j,j<(nd ns i).aq.length->-9223372036854775808<=(bR ns i j).id/\(bR ns i j).id<=9223372036854775807) (hnm:∀i,i<ns.length->∀j,j<(nd ns i).aq.length->(bR ns i j).name.size<=1048576) (ht:∀i,i<ns.length->(nd ns i).target.size<=1048576) (X:FM) :
 bK Tryz.prog β 29 #[.agg #[.slice A (ns.length) (c)],.agg #[vI (X.cN),vI (X.cB),vI (X.cH),vI (X.cS),vI (X.cZ)]] [] (λβ' v l=>(¬kW X/\v=.tuple #[.agg ⟨rZ⟩,vI 179]/\l=[])\/(kW X/\¬cE ns/\v=.tuple #[.agg ⟨rZ⟩,vI 140]/\l=[])\/(kW X/\cE ns/\∃B cp K,v=.tuple #[.agg #[.slice B (ns.length) (cp),.slice none (0) (0),vI (X.cH),vI 0,.slice none (0) (0),.slice none (0) (0),vI (X.cN),vI (X.cB),vI (X.cH),vI (X.cS),vI (X.cZ),vI ((if ns.length=0 then 0 else (nd ns (ns.length-1)).id))],vI 0]/\l=[]/\aN β' B ns K)):=by
 refine lW Tryz.func29 Tryz.ntmps29 (λaE R=>SR (jB 1 [2] (λb1=>.aD b1 [.slice A (ns.length) (c)] 24) (λb1=>jB 1 [3] (λb2=>.aD b2 [vI (X.cN),vI (X.cB),vI (X.cH),vI (X.cS),vI (X.cZ)] 28) (λb2=>jB 2 [4] (λb3=>.aD b3 (rZ) 45) (λb3=>NZ (jK 4 [10] [(1,a_ 2 b2)] (sP 10 ((X.cN:Int)<(0:Int)) (λh10=>jK 30 [40] [] (NT (SR (jC 3 [5] [(1,A_ 3 b3 12)] [] (eO [A_ 3 b3 12] aE (.inl ⟨λh=>by first|(have:=h.cN;omega)|(have:=h.cB;omega)|(have:=h.cH;omega)|exact KB h.now (by assumption),rfl,rfl⟩)))))) (λh10=>jK 5 [15] [(1,a_ 2 b2)] (sP 15 ((X.cN:Int)>(4096:Int)) (λR6=>jK 25 [40] [] (NT (SR (jC 3 [5] [(1,A_ 3 b3 12)] [] (eO [A_ 3 b3 12] aE (.inl ⟨λh=>by first|(have:=h.cN;omega)|(have:=h.cB;omega)|(have:=h.cH;omega)|exact KB h.now (by assumption),rfl,rfl⟩)))))) (λR6=>jK 5 [20] [(1,a_ 2 b2)] (sP 20 ((X.cB:Int)<(0:Int)) (λlZ=>jK 20 [40] [] (NT (SR (jC 3 [5] [(1,A_ 3 b3 12)] [] (eO [A_ 3 b3 12] aE (.inl ⟨λh=>by first|(have:=h.cN;omega)|(have:=h.cB;omega)|(have:=h.cH;omega)|exact KB h.now (by assumption),rfl,rfl⟩)))))) (λlZ=>jK 5 [25] [(1,a_ 2 b2)] (sP 25 ((X.cB:Int)>(1099511627776:Int)) (λqJ=>jK 15 [40] [] (NT (SR (jC 3 [5] [(1,A_ 3 b3 12)] [] (eO [A_ 3 b3 12] aE (.inl ⟨λh=>by first|(have:=h.cN;omega)|(have:=h.cB;omega)|(have:=h.cH;omega)|exact KB h.now (by assumption),rfl,rfl⟩)))))) (λqJ=>jK 5 [30] [(1,a_ 2 b2)] (sP 30 ((X.cH:Int)<(0:Int)) (λrF=>jK 10 [40] [] (NT (SR (jC 3 [5] [(1,A_ 3 b3 12)] [] (eO [A_ 3 b3 12] aE (.inl ⟨λh=>by first|(have:=h.cN;omega)|(have:=h.cB;omega)|(have:=h.cH;omega)|exact KB h.now (by assumption),rfl,rfl⟩)))))) (λrF=>jK 5 [35] [(1,a_ 2 b2)] (sP 35 ((X.cH:Int)>(1024:Int)) (λyR=>jK 5 [40] [] (NT (SR (jC 3 [5] [(1,A_ 3 b3 12)] [] (eO [A_ 3 b3 12] aE (.inl ⟨λh=>by first|(have:=h.cN;omega)|(have:=h.cB;omega)|(have:=h.cH;omega)|exact KB h.now (by assumption),rfl,rfl⟩)))))) (λyR=>jK 2 [37] [(1,A_ 2 b2 2)] (gE [] (GR X.cS X.cZ) (jK 2 [40] [] (NN (cN (iU X.cS X.cZ) (λtT=>SR (jC 3 [5] [(1,A_ 3 b3 12)] [] (eO [A_ 3 b3 12] aE (.inl ⟨λh=>by first|(have:=h.cN;omega)|(have:=h.cB;omega)|(have:=h.cH;omega)|exact KB h.now (by assumption),rfl,rfl⟩)))) (λtT=>?_)))))))))))))))))))))))
 have hcap:kW X:=⟨⟨d5,d5⟩,⟨d5,d5⟩,⟨d5,d5⟩,tT⟩
 refine KX (SQ (jK 1 [42] [(0,a_ 1 b1)] (gE [] (Q9 A c ns Y hG hl hd hwf hnm ht) (jK 1 [44] [] (NN (cN (((if cE ns then 0 else 140):Int)=(0:Int)) (λzQ=>?_) (λzQ=>?_)))))))
 ·have hng:¬cE ns:=λh=>zQ (t8 h)
  exact SR (jC 3 [5] [(1,A_ 3 b3 12)] [] (eO [A_ 3 b3 12] aE (.inr (.inl ⟨hcap,hng,rfl,rfl⟩))))
 have hok:cE ns:=aiy (λh=>gn)
 refine KX (av.seq (av.pW (S:=[.aD b1 [.slice A (ns.length) (c)] 24,.aD b2 [vI (X.cN),vI (X.cB),vI (X.cH),vI (X.cS),vI (X.cZ)] 28]) (wo [0,2,3,5] (oJ 7 [(false,8)] [(false,1),(false,4),(false,6)])) [1,2] (gT (oJ 7 [(false,8)] [(false,1),(false,4),(false,6)]) [(2,vP b1),(4,vP b3),(46,.agg #[.slice A (ns.length) (c)]),(49,vI (X.cH)),(51,.agg #[vI (X.cN),vI (X.cB),vI (X.cH),vI (X.cS),vI (X.cZ)])] [0,2,3,5] [(0,a_ 0 b1),(2,a_ 1 b2),(3,A_ 1 b2 5)] (lX.one (j:=7) (dj:=6) (R:=λf_ l_=>∃B:Option Addr,∃cp:Nat,f_=[(52,.agg #[.slice B (ns.length) (cp),.slice none (0) (0),vI (X.cH),vI 0,.slice none (0) (0),.slice none (0) (0),vI (X.cN),vI (X.cB),vI (X.cH),vI (X.cS),vI (X.cZ),vI 0]),(50,.agg #[vI (X.cH),vI 0,.slice none (0) (0),.slice none (0) (0)]),(47,.agg #[.slice B (ns.length) (cp)]),(2,vP b1),(4,vP b3),(46,.agg #[.slice A (ns.length) (c)]),(49,vI (X.cH)),(51,.agg #[vI (X.cN),vI (X.cB),vI (X.cH),vI (X.cS),vI (X.cZ)])]/\l_=[.abs (jL β (λβ'=>∃K,aN β' B ns K))]) [1,2] [(false,1,47),(false,4,50),(false,6,52)] (iJ.of (ι:=Nat) (v:=λ(b4:Nat)=>vP b4) (l:=λ(b4:Nat)=>[.aD b4 (rZ) 45]) [47,50,52] rfl rfl rfl rfl ?_) ?_ ?_))))
 ·intro u Aq
  exact jB 1 [6] (λb4=>.aD b4 (rZ) 45) (λb4=>NL (MD b4 [6,47,50,52,2,4,46,49,51] [1,0]))
 ·refine ef.step (iJ.of (ι:=(Option Addr)×Nat) (v:=λ((B,cp):(Option Addr)×Nat)=>.agg #[.slice B (ns.length) (cp)]) (l:=λ((B,cp):(Option Addr)×Nat)=>[.abs (jL β (λβ'=>∃K,aN β' B ns K))]) [6] rfl rfl rfl rfl ?_) ?_
  ·intro u Aq
   refine gL [] (yI (β:=β) A c ns Y hG hl hd) ?_
   rintro _ _ ⟨B,cp,rfl,rfl⟩
   exact NL (MD (B,cp) [47,6,2,4,46,49,51] [0,1])
  rintro _ _ ⟨⟨B,cp⟩,rfl,rfl⟩
  refine ef.step (iJ.of (ι:=Unit) (v:=λ(_:Unit)=>.agg #[vI (X.cH),vI 0,.slice none (0) (0),.slice none (0) (0)]) (l:=λ(_:Unit)=>[.abs (jL β (λβ'=>∃K,aN β' B ns K))]) [6] rfl rfl rfl rfl ?_) ?_
  ·intro u Aq
   exact gE [] (Xk X.cH hcap.cH) (NL (MD () [50,6,47,2,4,46,49,51] [0,1]))
  rintro _ _ ⟨_,rfl,rfl⟩
  refine ef.step (iJ.of (ι:=Unit) (v:=λ(_:Unit)=>.agg #[.slice B (ns.length) (cp),.slice none (0) (0),vI (X.cH),vI 0,.slice none (0) (0),.slice none (0) (0),vI (X.cN),vI (X.cB),vI (X.cH),vI (X.cS),vI (X.cZ),vI 0]) (l:=λ(_:Unit)=>[.abs (jL β (λβ'=>∃K,aN β' B ns K))]) [6] rfl rfl rfl rfl ?_) ?_
  ·intro u Aq
   exact jK 1 [52] [] (NL (MD () [52,6,50,47,2,4,46,49,51] [0,1]))
  rintro _ _ ⟨_,rfl,rfl⟩
  exact⟨B,cp,rfl,rfl⟩
 rintro _ _ ⟨B,cp,rfl,rfl⟩ _ _ ⟨b4,rfl,rfl⟩
 refine eH.last d6 (jC 1 [] [(0,A_ 1 b4 12)] [(1,[(0,.slice B (ns.length) (cp)),(2,vI (X.cH)),(6,vI (X.cN)),(7,vI (X.cB)),(8,vI (X.cH)),(9,vI (X.cS)),(10,vI (X.cZ))])] (NL (aF.np (NX (SQ (aB.tL 0 [1,2,3,4,5] (gj:=[.aD b4 [.slice B (ns.length) (cp),.slice none (0) (0),vI (X.cH),vI 0,.slice none (0) (0),.slice none (0) (0),vI (X.cN),vI (X.cB),vI (X.cH),vI (X.cS),vI (X.cZ),vI 0] 45,.abs R,.aD b1 [.slice A (ns.length) (c)] 24,.aD b2 [vI (X.cN),vI (X.cB),vI (X.cH),vI (X.cS),vI (X.cZ)] 28,.aD b3 (rZ) 45]) rfl rfl d6 (λAU fQ ⟨K,hH⟩=>?_)))))))
 replace hG:=hG.le fQ
 replace aE:=aE.trans fQ
 exact jK 4 [56] [(1,a_ 2 b1)] (NN (cP ((((ns.length:Nat):Int):Int)>(0:Int)) (λAV=>av.region (jC 11 [] [(1,a_ 2 b1),(3,a_ 2 b1),(5,wJ ((ns.length:Int)-1) (((ns.length:Nat):Int)-1)),(6,p_ ⟨[],some (ns.length-1),none,some ⟨(bG A),bE A,none⟩,none⟩ [((ns.length:Nat):Int)-1=(((ns.length-1):Nat):Int),(ns.length-1)<ns.length,(⟨(bG A),bE A,none⟩:Addr).spot=none,(A:Option Addr)=some ⟨(bG A),bE A,none⟩] ⟨d5,d5,rfl,aN.hd hG (i:=(ns.length-1)) d5,trivial⟩),(8,r_ (aN.rd hG (i:=(ns.length-1)) d5 (j:=0) rfl)),(10,a_ 0 b4)] [(0,[(11,vI ((nd ns (ns.length-1)).id))])] (NS (jC 3 [5] [(0,A_ 0 b4 12),(1,A_ 4 b3 12)] [(4,[(0,.slice B (ns.length) (cp)),(2,vI (X.cH)),(6,vI (X.cN)),(7,vI (X.cB)),(8,vI (X.cH)),(9,vI (X.cS)),(10,vI (X.cZ)),(11,vI ((nd ns (ns.length-1)).id))])] (eO [A_ 4 b3 12] aE (.inr (.inr ⟨hcap,hok,B,cp,K,by rw [nw d5],rfl,hH⟩)) [1]))))) (λAV=>KX (SR (jC 3 [5] [(0,A_ 0 b4 12),(1,A_ 4 b3 12)] [(4,[(0,.slice B (ns.length) (cp)),(2,vI (X.cH)),(6,vI (X.cN)),(7,vI (X.cB)),(8,vI (X.cH)),(9,vI (X.cS)),(10,vI (X.cZ))])] (eO [A_ 4 b3 12] aE (.inr (.inr ⟨hcap,hok,B,cp,K,by rw [t8 d5],rfl,hH⟩)) [1]))))))
end
section
open Go.RowKit Go.Maps bw aH
noncomputable def FD (X:FM):Int:=open Classical in if kW X then 140 else 179
theorem adA (X:FM):FD X≠0:=by
 unfold FD
 split<;>decide
def ahq (X:FM) (ns:List aO):Type:={S:aZ // kV X ns ns.length 0 S}
section m
variable {β:Bs} {ns:List aO} {Y:fq} {X:FM}
theorem aa9 (hcap:kW X) (hok:cE ns) (A:Option Addr) (c:Nat) (hG:aN β A ns Y) (hB:kA ns 1048576) :
 bK Tryz.prog β 29 #[.agg #[.slice A ns.length c],.agg #[.int .i64 X.cN,.int .i64 X.cB,.int .i64 X.cH,.int .i64 X.cS,.int .i64 X.cZ]] [] (λβ' v l=>∃B cp K,v=.tuple #[.agg #[.slice B ns.length cp,.slice none 0 0,.int .i64 X.cH,.int .i64 0,.slice none 0 0,.slice none 0 0,.int .i64 X.cN,.int .i64 X.cB,.int .i64 X.cH,.int .i64 X.cS,.int .i64 X.cZ,.int .i64 (if ns.length=0 then 0 else (nd ns (ns.length-1)).id)],.int .i64 0]/\l=[]/\aN β' B ns K):=
 (Tl A c ns Y hG (vJ hB) (F8 hB) (Jo hB) (Jp hB) (abP hB) X).mono (by
  rintro β' v l _ (⟨h,_⟩|⟨_,h,_⟩|⟨_,_,h⟩)
  ·exact KB hcap h
  ·exact KB hok h
  exact h)
theorem abb (Fk:¬(kW X/\cE ns)) (A:Option Addr) (c:Nat) (hG:aN β A ns Y) (hB:kA ns 1048576) :
 bK Tryz.prog β 29 #[.agg #[.slice A ns.length c],.agg #[.int .i64 X.cN,.int .i64 X.cB,.int .i64 X.cH,.int .i64 X.cS,.int .i64 X.cZ]] [] (λ_ v l=>v=.tuple #[.agg #[.slice none 0 0,.slice none 0 0,.int .i64 0,.int .i64 0,.slice none 0 0,.slice none 0 0,.int .i64 0,.int .i64 0,.int .i64 0,.int .i64 0,.int .i64 0,.int .i64 0],.int .i64 (FD X)]/\l=[]):=
 (Tl A c ns Y hG (vJ hB) (F8 hB) (Jo hB) (Jp hB) (abP hB) X).mono (by
  rintro β' v l _ (⟨h,h1,h2⟩|⟨h,h',h1,h2⟩|⟨h1,h2,_⟩)
  ·exact⟨by rw [show FD X=179 from nw h];exact h1,h2⟩
  ·exact⟨by rw [show FD X=140 from t8 h];exact h1,h2⟩
  exact KB ⟨h1,h2⟩ Fk)
end m
section p
variable {S:aZ} {g:List Int} {X:FM} {ns:List aO} {Y:fq} {β:Bs}
structure Pair (S:aZ) (g:List Int):Prop extends RelR S g where
 gl:g.length<=4096
theorem Pair.rc (h:Pair S g):RC (toR S g):=acq h.toRelR h.gl
theorem Pair.rd (h:Pair S g):RD 0 (toR S g):=by
 have hI:=h.inv.toInv0
 have h1:=hI.len
 have h2:(toR S g).ns.length=S.ax.length:=iM
 have h8:=Qr (g:=g) hI
 have h9:=hI.total.2
 exact⟨d5,h.gl,h.rc.us,d5,h.rc.dat⟩
theorem Pair.step (h:Pair S g) (c:aK) (cD:mE c.op):∃g',ul (toR S g) c=(toR (fF S c).1 g',(fF S c).2)/\Pair (fF S c).1 g':=by
 obtain⟨g',h1,h2⟩:=aa7 h.toRelR c cD
 have h3:GL (toR S g):=h.gl
 have h4:=adz (c:=c) h3 (by have h5:=h.inv.toInv0.len;grind [toR,iM])
 rw [h1] at h4
 exact⟨g',h1,h2,h4⟩
theorem M0 (h:Pair S g) {Y:RL} (hR:dJ β (toR S g) Y) {c c2:aK} {S2:aZ} (hD:fF S c=(S2,c2)) (wK:mE c.op) (hn:c.name.size<=1048576) (hb:bO β c.dA c.data) (hl:c.data.length<=140737488355328) (hc:c.data.length<=c.dC) :
 bK Tryz.prog β 34 #[.agg ⟨rV (toR S g) Y⟩,.agg ⟨aW c⟩] [] (λβ' v l=>∃g' Y' B p,v=.tuple #[.agg ⟨rV (toR S2 g') Y'⟩,.agg ⟨aW (iz c2 B p)⟩]/\l=[]/\Pair S2 g'/\dJ β' (toR S2 g') Y'/\bO β' B c.data):=by
 obtain⟨g',h1,h2⟩:=h.step c wK
 rw [hD] at h1 h2
 refine (aaW (toR S g) Y hR h.rc h.rd c wK hn hb hl hc).mono ?_
 grind
theorem Pair.start (N:ahq X ns) (hok:cE ns):Pair N.1 []:=⟨(MZ N.2 hok).1,L4 _⟩
end p
section c
variable {S S2:aZ} {β:Bs} {c c2 x q out:aK} {f m t:Nat} {L:HL}
structure ahV (β:Bs) (c:aK):Prop where
 hw:(Lit.int .i64 c.bA).wf=true
 ow:(Lit.int .i64 c.other).wf=true
 nm:c.name.size<=1048576
 tx:c.text.size<=1048576
 da:bO β c.dA c.data
structure ByR (β:Bs) (S:aZ) (op:Int) (S2:aZ) (q c2 out:aK):Prop where
 did:fF S q=(S2,c2)
 ok:qP β q
 dl:q.data.length<=1048576
 ans:out.answer=c2.answer
 code:out.code=c2.code
 st:op=11\/op=12->out.other=c2.other/\out.mode=c2.mode/\out.cM=c2.cM/\out.cO=c2.cO/\out.bH=c2.bH/\out.bh=c2.bh
end c
end
section
open Go.RowKit
theorem Vp {w:World} {o:Oper} {ev:Operand->Value} {x y:Operand} {a b c d:Int} (ho:o.op=.binOp .eql 26 x y 26) (hx:ev x=.agg #[.int .i64 a,.int .i64 b]) (hy:ev y=.agg #[.int .i64 c,.int .i64 d]) :
 sB Tryz.prog ev o w (.bool (decide (a=c/\b=d))) w:=by
 obtain⟨dst,op,type,pos,after,guard⟩:=o
 cases ho
 refine .inl ?_
 simp only [execOp,hx,hy]
 simp [go_sem]
 by_cases h1:a=c<;>by_cases h2:b=d<;>simp [h1,h2]
end
section
open Go.RowKit Go.Maps bw aH
attribute [local irreducible] aB bJ av aF
theorem QB {β:Bs} (c:aK) (A1 A2:Option Addr) (p1 p2:Nat) (h1:bO β A1 c.data) (h2:bO β A2 c.data) (hl:c.data.length<=140737488355328) :
 aU Tryz.prog β 24 #[.agg ⟨aW (iz c A1 p1)⟩,.agg ⟨aW (iz c A2 p2)⟩] [] (λv l=>v=.bool true/\l=[]):=by
 exact SE Tryz.func24 Tryz.ntmps24 (λR=>SR (jB 1 [2] (λb1=>.aD b1 (aW (iz c A1 p1)) 63) (λb1=>jB 2 [3] (λb2=>.aD b2 (aW (iz c A2 p2)) 63) (λb2=>NS (jK 59 [59,61,63] [(1,a_ 1 b1),(3,a_ 2 b2),(4,p_ ⟨[],none,none,none,some (.bool true)⟩ [(Value.bool (decide ((c.op:Int)=(c.op:Int))))=(.bool true)] ⟨nh,trivial⟩),(7,a_ 1 b1),(9,a_ 2 b2),(10,p_ ⟨[],none,none,none,some (.bool true)⟩ [(Value.bool (decide ((c.bA:Int)=(c.bA:Int))))=(.bool true)] ⟨nh,trivial⟩),(14,a_ 1 b1),(16,a_ 2 b2),(17,p_ ⟨[],none,none,none,some (.bool true)⟩ [(Value.bool (decide ((c.other:Int)=(c.other:Int))))=(.bool true)] ⟨nh,trivial⟩),(21,a_ 1 b1),(23,a_ 2 b2),(24,p_ ⟨[],none,none,none,some (.bool true)⟩ [(Value.bool ((c.name:ByteArray).toList == (c.name:ByteArray).toList))=(.bool true)] ⟨nh,trivial⟩),(28,a_ 1 b1),(30,a_ 2 b2),(31,p_ ⟨[],none,none,none,some (.bool true)⟩ [(Value.bool ((c.text:ByteArray).toList == (c.text:ByteArray).toList))=(.bool true)] ⟨nh,trivial⟩),(35,a_ 1 b1),(37,a_ 2 b2),(38,p_ ⟨[],none,none,none,some (.bool true)⟩ [(Value.bool (decide ((c.mode:Int)=(c.mode:Int))))=(.bool true)] ⟨nh,trivial⟩),(42,a_ 1 b1),(44,a_ 2 b2),(45,p_ ⟨[],none,none,none,some (.bool true)⟩ [(Value.bool (decide ((c.cM:Int)=(c.cM:Int))))=(.bool true)] ⟨nh,trivial⟩),(49,a_ 1 b1),(51,a_ 2 b2),(52,p_ ⟨[],none,none,none,some (.bool true)⟩ [(Value.bool (decide ((c.cO:Int)=(c.cO:Int))))=(.bool true)] ⟨nh,trivial⟩),(56,A_ 1 b1 2),(58,A_ 2 b2 2)] (aB.nH (d:=(some 64)) (op:=.binOp .eql 26 (.tmp 61) (.tmp 63) 26) (v:=.bool (decide ((c.bH:Int)=(c.bH:Int)/\(c.bh:Int)=(c.bh:Int)))) (λ_=>d6) (λo ar w ho hS=>⟨w,Vp ho d6 d6,hS⟩) (sl 64 (.bool (decide ((c.bH:Int)=(c.bH:Int)/\(c.bh:Int)=(c.bh:Int)))) (.bool true) (zc Value.bool nh) (jK 20 [80,82,84] [(3,a_ 1 b1),(5,a_ 2 b2),(6,p_ ⟨[],none,none,none,some (.bool true)⟩ [(Value.bool (decide ((c.code:Int)=(c.code:Int))))=(.bool true)] ⟨nh,trivial⟩),(10,a_ 1 b1),(12,a_ 2 b2),(13,p_ ⟨[],none,none,none,some (.bool true)⟩ [(Value.bool (decide ((c.answer:Int)=(c.answer:Int))))=(.bool true)] ⟨nh,trivial⟩),(17,a_ 1 b1),(19,a_ 2 b2)] (gE [] (EA A1 A2 p1 p2 c.data c.data h1 h2 hl) (jK 2 [4] [] (eN (v:=(.bool (decide (c.data=c.data)))) ⟨zc Value.bool (aio rfl),rfl⟩ [0])))))))))))
end
section
open Go.RowKit Go.Maps bw aH
def bare (c:aK):aK:=fB none 0 c
theorem adB {A:Option Addr} {m:Nat} {c:aK}:bare (fB A m c)=bare c:=rfl
theorem Yp {c d:aK} (h:bare c=bare d):c.data=d.data:=by
 have e:(bare c).data=(bare d).data:=by rw [h]
 exact e
theorem Tm {c d:aK} (h:bare c=bare d):d=fB d.dA d.dC c:=by
 show fB d.dA d.dC (bare d)=fB d.dA d.dC (bare c)
 rw [h]
theorem FE {α:Type} (f:α->List Value) (ys:List α):∀xs:List α,cJ f (xs++ys)=cJ f xs++cJ f ys
 |[]=>rfl
 |a::r=>by
   rw [aiE,DF,DF,FE f ys r,aiv]
theorem adC {os tr:List aK} (h:os.map bare=tr.map bare) (i:Nat):bare (ez os i)=bare (ez tr i):=by
 have h1:=zc (λl=>l[i]?) h
 simp only [List.getElem?_map] at h1
 unfold ez
 rw [aiw,aiw]
 cases e1:os[i]?<;>cases e2:tr[i]?<;>rw [e1,e2] at h1<;>simp at h1 ⊢
 exact h1
theorem adD {os tr:List aK} (h:os.map bare=tr.map bare):os.length=tr.length:=by
 have:=zc List.length h
 simpa using this
structure nG (β:Bs) (A:Option Addr) (os:List aK):Prop where
 row:cq β A (cJ aW os)
 dat:wZ β os
section t
variable {β β':Bs} {A:Option Addr} {os tr:List aK} {i j:Nat} {v:Value} {B:Option Addr} {p:Nat}
theorem nG.le (h:nG β A os) (g:β.le β'):nG β' A os:=⟨h.row.le g,h.dat.le g⟩
theorem nG.hd (h:nG β A os) (hi:i<os.length):A=some ⟨bG A,bE A,none⟩:=(Pb (s:=13) (j:=0) h.row (λ_=>rfl) (zi hi) rfl).1
theorem nG.rd (h:nG β A os) (hi:i<os.length) (hv:(aW (ez os i))[j]?=some v):Rd β ⟨bG A,bE A+i*13+j,none⟩ v:=(Pb h.row (λ_=>rfl) (zi hi) hv).2
theorem C2 (hi:i<os.length):ez os i∈os:=aiF (zi hi)
theorem agy (ho:os.length=i) (hi:i<tr.length):(os++tr.drop i)[i]?=some (ez tr i):=by
 rw [aiO d5,ho,Nat.sub_self,List.getElem?_drop,Nat.add_zero]
 exact zi hi
theorem afk (ho:os.length=i) (hi:i<tr.length) {v:Value} (hj:j<13) (hv:(aW (ez tr i))[j]?=some v):(cJ aW (os++tr.drop i))[i*13+j]?=some v:=(Mj (f:=aW) (s:=13) (λ_=>rfl) (agy ho hi) hj).trans hv
theorem afl (ho:os.length=i) (hi:i<=tr.length):(os++tr.drop i).length=tr.length:=by
 rw [T3,List.length_drop];omega
theorem afm (ho:os.length=i) (hi:i<tr.length):(cJ aW (os++tr.drop i)).set (i*13+5) (.slice B (ez tr i).data.length p)=cJ aW ((os++[fB B p (ez tr i)])++tr.drop (i+1)):=by
 have e:tr.drop i=ez tr i::tr.drop (i+1):=by
  rw [aiR hi]
  have:=zi hi
  rw [T6 hi] at this
  injection this with this
  rw [this]
 have hl:(cJ aW os).length=i*13:=by rw [yq (f:=aW) (s:=13) (λ_=>rfl),ho]
 rw [e,FE,DF,List.set_append_right _ _ d5,hl,Nat.add_sub_cancel_left,List.set_append_left _ _ (by show 5<13;decide),FE,DB,aiv]
 rfl
theorem afn {c:aK} (hm:os.map bare=(tr.take i).map bare) (hi:i<tr.length) (hc:bare c=bare (ez tr i)):(os++[c]).map bare=(tr.take (i+1)).map bare:=by
 rw [aiC,zi hi,aiM,aiM,hm]
 show _++[bare c]=_++[bare (ez tr i)]
 rw [hc]
theorem QC (c d:aK) (h:bare c=bare d) (h1:bO β c.dA c.data) (h2:bO β d.dA d.data) (hl:c.data.length<=140737488355328):aU Tryz.prog β 24 #[.agg ⟨aW c⟩,.agg ⟨aW d⟩] [] (λv l=>v=.bool true/\l=[]):=by
 have e:=Tm h
 rw [←Yp h] at h2
 rw [e]
 exact QB c c.dA d.dA c.dC d.dC h1 h2 hl
end t
section p
variable {fs:List ck} {xs:List cI} {af:Int} {S S1 S2:aZ} {n:Nat} {c c2:aK} {tr Eh AX os:List aK} {A:Option Addr} {m i:Nat}
theorem QD {x y e:Int} (h:¬(c.op=11\/c.op=12)):iI {c with answer:=x,code:=y} e=iI c e:=(nw (c:=c.op=11\/c.op=12) h).trans (nw h).symm
theorem Yq {x y:Int} (h:c.op=1\/c.op=2\/c.op=4\/c.op=13):bq fs xs af n S {c with answer:=x,code:=y}=bq fs xs af n S c:=by
 have hr:cr af {c with answer:=x,code:=y}={cr af c with answer:=x,code:=y}:=by
  unfold cr
  show (if c.op=1 then _ else _)=_
  split<;>rfl
 have ho:(cr af c).op=c.op:=by unfold cr;split<;>rfl
 have hd:∀S,fF S {cr af c with answer:=x,code:=y}=fF S (cr af c):=λ_=>rfl
 unfold bq
 rw [hr]
 unfold dY
 rw [hd,QD d5,QD d5]
 split
 ·rfl
 split
 ·rfl
 rw [nw (λq=>by have:=q.2.1;show False;have h2:(cr af c).op=9:=this;omega),nw d5]
theorem adE:cr af (cr af c)=cr af c:=by
 by_cases h:c.op=1
 ·rw [show cr af c={c with other:=af} from t8 h];exact t8 h
 rw [show cr af c=c from nw h];exact nw h
theorem Hv:bq fs xs af n S (cr af c)=bq fs xs af n S c:=by unfold bq;rw [adE]
theorem abd (h:c.op=1\/c.op=2\/c.op=4\/c.op=13):∃a,(iL S c).2.2={c with answer:=a}:=by
 rcases h with h|h|h|h
 ·rw [vM h];unfold kP;(repeat' split)<;>exact⟨_,rfl⟩
 ·rw [uj h];unfold gh;(repeat' split)<;>(try unfold fD)<;>(try split)<;>exact⟨_,rfl⟩
 ·rw [vN h];unfold iQ;(repeat' split)<;>exact⟨_,rfl⟩
 rw [sU h];unfold ju;split<;>exact⟨_,rfl⟩
theorem abe (h:c.op=1\/c.op=2\/c.op=4\/c.op=13):∃a e,(fF S c).2={c with answer:=a,code:=e}:=by
 obtain⟨a,ha⟩:=abd (S:=S) (c:={c with answer:=0,code:=230}) h
 refine⟨a,(iL S {c with answer:=0,code:=230}).1,?_⟩
 show { (iL S {c with answer:=0,code:=230}).2.2 with code:=(iL S {c with answer:=0,code:=230}).1}=_
 rw [ha]
theorem Hw (h:c.op=1\/c.op=2\/c.op=4\/c.op=13):∃a e,(bq fs xs af n S c).2={cr af c with answer:=a,code:=e}:=by
 have ho:(cr af c).op=c.op:=by unfold cr;split<;>rfl
 have hf:∀e,iI (cr af c) e={cr af c with answer:=0,code:=e}:=λe=>by unfold iI;rw [nw d5]
 unfold bq
 unfold dY
 split
 ·exact⟨0,_,hf _⟩
 split
 ·exact⟨0,_,hf _⟩
 rw [nw d5]
 exact abe d5
theorem again (h:c.op=1\/c.op=2\/c.op=4\/c.op=13) (hW:bq fs xs af n S c=(S2,c2)):bq fs xs af n S c2=(S2,c2):=by
 obtain⟨a,e,hs⟩:=Hw (fs:=fs) (xs:=xs) (af:=af) (n:=n) (S:=S) h
 rw [hW] at hs
 have hs:c2={cr af c with answer:=a,code:=e}:=hs
 have ho:(cr af c).op=c.op:=by unfold cr;split<;>rfl
 conv=>lhs;rw [hs]
 rw [Yq d5,Hv]
 exact hW
def rU (fs:List ck) (xs:List cI) (af:Int):Nat->aZ->List aK->aZ->Prop
 |_,S,[],S'=>S'=S
 |n,S,c::r,S'=>∃S1,bq fs xs af (n+1) S c=(S1,c)/\(mE c.op/\c.data=[])/\c.name.size<=1048576/\c.text.size<=1048576/\rU fs xs af (n+1) S1 r S'
def lD (fs:List ck) (xs:List cI) (af:Int) (tr:List aK) (S:aZ) (AX:List aK) (S2:aZ):Prop:=∃e,AX=tr++e/\rU fs xs af tr.length S e S2
theorem rU.app:∀{e r:List aK} {n:Nat} {S S1 S2:aZ},rU fs xs af n S e S1->rU fs xs af (n+e.length) S1 r S2->rU fs xs af n S (e++r) S2
 |[],_,_,_,_,_,h,g=>by cases h;exact g
 |c::e,r,n,S,S1,S2,⟨Sx,h1,h2,h3,h4,h5⟩,g=>⟨Sx,h1,h2,h3,h4,rU.app h5 (by rw [aix] at g;rw [show n+1+e.length=n+(e.length+1) by omega];exact g)⟩
theorem lD.refl:lD fs xs af tr S tr S:=⟨[],(List.append_nil _).symm,rfl⟩
theorem lD.trans (h:lD fs xs af tr S Eh S1) (g:lD fs xs af Eh S1 AX S2):lD fs xs af tr S AX S2:=by
 obtain⟨e,rfl,h⟩:=h
 obtain⟨r,rfl,g⟩:=g
 rw [T3] at g
 exact⟨e++r,aiv _ _ _,h.app g⟩
theorem lD.one (h:c.op=1\/c.op=2\/c.op=4\/c.op=13) (hW:bq fs xs af (tr.length+1) S c=(S2,c2)) (CK:c.data=[]) (hn:c.name.size<=1048576) (ht:c.text.size<=1048576):lD fs xs af tr S (tr++[fB A m c2]) S2:=by
 obtain⟨a,e,hs⟩:=Hw (fs:=fs) (xs:=xs) (af:=af) (n:=tr.length+1) (S:=S) h
 rw [hW] at hs
 have hs:c2={cr af c with answer:=a,code:=e}:=hs
 have hd:c2.data=[]:=by rw [hs];exact vQ.trans CK
 have ho:mE c2.op:=by rw [hs,show ({cr af c with answer:=a,code:=e}:aK).op=c.op from by unfold cr;split<;>rfl];exact h
 have h1:c2.name=c.name:=by rw [hs];unfold cr;split<;>rfl
 have h2:c2.text=c.text:=by rw [hs];unfold cr;split<;>rfl
 exact⟨_,rfl,S2,Mi.trans (by rw [again h hW]),⟨ho,hd⟩,by show c2.name.size<=_;rw [h1];exact hn,by show c2.text.size<=_;rw [h2];exact ht,rfl⟩
theorem rU.data:∀{e:List aK} {n:Nat} {S S2:aZ},rU fs xs af n S e S2->∀c∈e,c.data=[]
 |[],_,_,_,_,c,h=>by cases h
 |d::e,n,S,S2,⟨_,_,h2,_,_,h5⟩,c,h=>by
   rcases T8.1 h with rfl|h
   ·exact h2.2
   exact rU.data h5 c h
theorem lD.ahr {β:Bs} (h:lD fs xs af tr S AX S2) (hT:wZ β tr):wZ β AX:=by
 obtain⟨e,rfl,h⟩:=h
 intro c hc
 rcases air.1 hc with hc|hc
 ·exact hT c hc
 have:=h.data c hc
 exact⟨λj v hj=>by rw [this] at hj;simp [d9] at hj,by rw [this];exact L4 _⟩
end p
end
section
open Go.RowKit Go.Maps bw aH
attribute [local irreducible] aB bJ av aF
theorem Kk {β:Bs} {G:WG} {fs:List ck} {xs:List cI} {af:Int} {S S2:aZ} {V:WV} {tr:List aK} (hrw:(Lit.int .i64 af).wf=true) (hI:bB S) (hn:tr.length<=8388607) (hZ:kK β G.Z xs) (hX:fS xs 1048576) (hg:iO β) (c:aK) (CK:c.data=[]) (hD:bO β c.dA c.data) (hl:c.data.length<=1048576) (hw:(Lit.int .i64 c.bA).wf=true) (how:(Lit.int .i64 c.other).wf=true) (hnm:c.name.size<=1048576) (tZ:c.text.size<=1048576) (cD:mE c.op) {c2:aK} (hW:bq fs xs af (tr.length+1) S c=(S2,c2)) :
 bK Tryz.prog β 31 #[.agg #[.iface 37 (vP G.w)],.agg ⟨aW c⟩] [wA G fs xs af S V tr] (λ_ v l=>∃(V':WV) (jF:List aK),v=.tuple #[vI c2.answer,vI c2.code]/\l=[wA G fs xs af S2 V' jF]/\jF.length=tr.length+1/\lD fs xs af tr S jF S2):=by
 refine lW Tryz.func31 Tryz.ntmps31 (λaE R=>SR (jB 1 [2] (λb1=>.aD b1 [.iface 37 (vP G.w)] 55) (λb1=>jB 3 [3] (λb2=>.aD b2 (aW c) 63) (λb2=>NS (jK 3 [7,8] [(1,a_ 2 b1),(2,A_ 3 b2 13)] (ia [0] (Xr (β:=β) (G:=G) (fs:=fs) (xs:=xs) (S:=S) (V:=V) (tr:=tr) (c:=c) (c2:=c2) (S2:=S2) hrw hI hn hZ hX hg hD hl hw how hnm tZ cD hW) ?_))))))
 rintro vn _ _ fY ⟨V',B1,p1,B2,p2,rfl,rfl,_,_,_⟩
 replace aE:=aE.trans fY
 exact jC 1 [] [(0,A_ 3 b2 13)] [(3,(zC (aW (iz c2 B2 p2))))] (NN (av.seq (rQ (jQ 6 [4,5] [(1,a_ 3 b2),(3,a_ 3 b2)] (NQ (NX (av.ret (rB (l:=[wA G fs xs af S2 V' (tr++[fB B1 p1 c2])]) (.tuple #[vI (c2.answer),vI (c2.code)]) [] [0,1] aE (⟨V',_,rfl,rfl,by rw [T3];rfl,lD.one cD hW CK hnm tZ⟩)))))))))
theorem QE {β:Bs} {G:WG} {fs:List ck} {xs:List cI} {af:Int} {S S2:aZ} {V:WV} {tr:List aK} (hrw:(Lit.int .i64 af).wf=true) (hI:bB S) (hn:tr.length<=8388607) (hZ:kK β G.Z xs) (hX:fS xs 1048576) (hg:iO β) (c:aK) (CK:c.data=[]) (hD:bO β c.dA c.data) (hl:c.data.length<=1048576) (hw:(Lit.int .i64 c.bA).wf=true) (how:(Lit.int .i64 c.other).wf=true) (hnm:c.name.size<=1048576) (tZ:c.text.size<=1048576) (cD:mE c.op) {c2:aK} (hW:bq fs xs af (tr.length+1) S c=(S2,c2)) :
 bK Tryz.prog β 62 #[.agg #[.iface 37 (vP G.w)],.agg ⟨aW c⟩] [wA G fs xs af S V tr] (λ_ v l=>∃(V':WV) (jF:List aK),v=vI c2.code/\l=[wA G fs xs af S2 V' jF]/\jF.length=tr.length+1/\lD fs xs af tr S jF S2):=by
 refine lW Tryz.func62 Tryz.ntmps62 (λaE R=>SR (jB 1 [2] (λb4=>.aD b4 [.iface 37 (vP G.w)] 55) (λb4=>jB 2 [3] (λb5=>.aD b5 (aW c) 63) (λb5=>NS (jK 3 [6,7] [(1,a_ 2 b4),(2,A_ 3 b5 13)] (ia [0] (Xr (β:=β) (G:=G) (fs:=fs) (xs:=xs) (S:=S) (V:=V) (tr:=tr) (c:=c) (c2:=c2) (S2:=S2) hrw hI hn hZ hX hg hD hl hw how hnm tZ cD hW) ?_))))))
 rintro Fx _ _ lN ⟨V',B1,p1,B2,p2,rfl,rfl,_,_,_⟩
 replace aE:=aE.trans lN
 exact jK 2 [4] [] (eO (l:=[wA G fs xs af S2 V' (tr++[fB B1 p1 c2])]) (v:=(vI (c2.code))) [] aE ⟨V',_,rfl,rfl,by rw [T3];rfl,lD.one cD hW CK hnm tZ⟩)
theorem QF {β:Bs} {G:WG} {fs:List ck} {xs:List cI} {af:Int} {S S2:aZ} {V:WV} {tr:List aK} (hrw:(Lit.int .i64 af).wf=true) (hI:bB S) (hn:tr.length<=8388607) (hZ:kK β G.Z xs) (hX:fS xs 1048576) (hg:iO β) (id:Int) (how:(Lit.int .i64 id).wf=true) {c2:aK} (hW:bq fs xs af (tr.length+1) S (⟨1,0,id,⟨#[]⟩,⟨#[]⟩,none,0,[],0,0,0,0,0,0,0⟩:aK)=(S2,c2)) :
 bK Tryz.prog β 8 #[.agg #[.iface 37 (vP G.w)],vI (id)] [wA G fs xs af S V tr] (λ_ v l=>∃(V':WV) (jF:List aK),v=.tuple #[vI c2.answer,vI c2.code]/\l=[wA G fs xs af S2 V' jF]/\jF.length=tr.length+1/\lD fs xs af tr S jF S2):=by
 refine lW Tryz.func8 Tryz.ntmps8 (λaE R=>SR (jB 3 [2] (λb7=>.aD b7 [.iface 37 (vP G.w)] 55) (λb7=>NS (jK 3 [6,8] [(0,a_ 2 b7)] (ia [0] (Kk (β:=β) (G:=G) (fs:=fs) (xs:=xs) (S:=S) (V:=V) (tr:=tr) (S2:=S2) (c2:=c2) hrw hI hn hZ hX hg (⟨1,0,id,⟨#[]⟩,⟨#[]⟩,none,0,[],0,0,0,0,0,0,0⟩:aK) rfl (λj v h=>by cases h) (L4 _) (by show (Lit.int .i64 0).wf=true;decide) how (L4 _) (L4 _) (by show mE 1;first|exact rfl|(unfold mE;decide)) hW) ?_)))))
 rintro C3 _ _ iX ⟨V',jF,rfl,rfl,ht,hy⟩
 replace aE:=aE.trans iX
 exact jK 4 [4,5] [] (eO (v:=(.tuple #[vI (c2.answer),vI (c2.code)])) [] aE ⟨V',jF,rfl,rfl,ht,hy⟩)
theorem Cv {β:Bs} {G:WG} {fs:List ck} {xs:List cI} {af:Int} {S S2:aZ} {V:WV} {tr:List aK} (hrw:(Lit.int .i64 af).wf=true) (hI:bB S) (hn:tr.length<=8388607) (hZ:kK β G.Z xs) (hX:fS xs 1048576) (hg:iO β) (h:Int) (hw:(Lit.int .i64 h).wf=true) (name:ByteArray) (hnm:name.size<=1048576) {c2:aK} (hW:bq fs xs af (tr.length+1) S (⟨2,h,0,name,⟨#[]⟩,none,0,[],0,0,0,0,0,0,0⟩:aK)=(S2,c2)) :
 bK Tryz.prog β 63 #[.agg #[.iface 37 (vP G.w)],vI (h),.string name] [wA G fs xs af S V tr] (λ_ v l=>∃(V':WV) (jF:List aK),v=.tuple #[vI c2.answer,vI c2.code]/\l=[wA G fs xs af S2 V' jF]/\jF.length=tr.length+1/\lD fs xs af tr S jF S2):=by
 refine lW Tryz.func63 Tryz.ntmps63 (λaE R=>SR (jB 3 [3] (λb9=>.aD b9 [.iface 37 (vP G.w)] 55) (λb9=>NS (jK 4 [8,11] [(0,a_ 2 b9)] (ia [0] (Kk (β:=β) (G:=G) (fs:=fs) (xs:=xs) (S:=S) (V:=V) (tr:=tr) (S2:=S2) (c2:=c2) hrw hI hn hZ hX hg (⟨2,h,0,name,⟨#[]⟩,none,0,[],0,0,0,0,0,0,0⟩:aK) rfl (λj v h=>by cases h) (L4 _) hw (by show (Lit.int .i64 0).wf=true;decide) hnm (L4 _) (by show mE 2;first|exact rfl|(unfold mE;decide)) hW) ?_)))))
 rintro Lg _ _ iH ⟨V',jF,rfl,rfl,ht,hy⟩
 replace aE:=aE.trans iH
 exact jK 4 [6,7] [] (eO (v:=(.tuple #[vI (c2.answer),vI (c2.code)])) [] aE ⟨V',jF,rfl,rfl,ht,hy⟩)
theorem Yr {β:Bs} {G:WG} {fs:List ck} {xs:List cI} {af:Int} {S S2:aZ} {V:WV} {tr:List aK} (hrw:(Lit.int .i64 af).wf=true) (hI:bB S) (hn:tr.length<=8388607) (hZ:kK β G.Z xs) (hX:fS xs 1048576) (hg:iO β) (h:Int) (hw:(Lit.int .i64 h).wf=true) (name:ByteArray) (hnm:name.size<=1048576) (mode:Int) {c2:aK} (hW:bq fs xs af (tr.length+1) S (⟨4,h,0,name,⟨#[]⟩,none,0,[],mode,0,0,0,0,0,0⟩:aK)=(S2,c2)) :
 bK Tryz.prog β 65 #[.agg #[.iface 37 (vP G.w)],vI (h),.string name,vI (mode)] [wA G fs xs af S V tr] (λ_ v l=>∃(V':WV) (jF:List aK),v=vI c2.code/\l=[wA G fs xs af S2 V' jF]/\jF.length=tr.length+1/\lD fs xs af tr S jF S2):=by
 refine lW Tryz.func65 Tryz.ntmps65 (λaE R=>SR (jB 2 [4] (λb11=>.aD b11 [.iface 37 (vP G.w)] 55) (λb11=>NS (jK 5 [9,13] [(0,a_ 2 b11)] (ia [0] (QE (β:=β) (G:=G) (fs:=fs) (xs:=xs) (S:=S) (V:=V) (tr:=tr) (S2:=S2) (c2:=c2) hrw hI hn hZ hX hg (⟨4,h,0,name,⟨#[]⟩,none,0,[],mode,0,0,0,0,0,0⟩:aK) rfl (λj v h=>by cases h) (L4 _) hw (by show (Lit.int .i64 0).wf=true;decide) hnm (L4 _) (by show mE 4;first|exact rfl|(unfold mE;decide)) hW) ?_)))))
 rintro DY _ _ gA ⟨V',jF,rfl,rfl,ht,hy⟩
 replace aE:=aE.trans gA
 exact jK 1 [8] [] (eO (v:=(vI (c2.code))) [] aE ⟨V',jF,rfl,rfl,ht,hy⟩)
theorem FH {β:Bs} {G:WG} {fs:List ck} {xs:List cI} {af:Int} {S S2:aZ} {V:WV} {tr:List aK} (hrw:(Lit.int .i64 af).wf=true) (hI:bB S) (hn:tr.length<=8388607) (hZ:kK β G.Z xs) (hX:fS xs 1048576) (hg:iO β) (h:Int) (hw:(Lit.int .i64 h).wf=true) {c2:aK} (hW:bq fs xs af (tr.length+1) S (⟨13,h,0,⟨#[]⟩,⟨#[]⟩,none,0,[],0,0,0,0,0,0,0⟩:aK)=(S2,c2)) :
 bK Tryz.prog β 38 #[.agg #[.iface 37 (vP G.w)],vI (h)] [wA G fs xs af S V tr] (λ_ v l=>∃(V':WV) (jF:List aK),v=vI c2.code/\l=[wA G fs xs af S2 V' jF]/\jF.length=tr.length+1/\lD fs xs af tr S jF S2):=by
 refine lW Tryz.func38 Tryz.ntmps38 (λaE R=>SR (jB 2 [2] (λb13=>.aD b13 [.iface 37 (vP G.w)] 55) (λb13=>NS (jK 3 [5,7] [(0,a_ 2 b13)] (ia [0] (QE (β:=β) (G:=G) (fs:=fs) (xs:=xs) (S:=S) (V:=V) (tr:=tr) (S2:=S2) (c2:=c2) hrw hI hn hZ hX hg (⟨13,h,0,⟨#[]⟩,⟨#[]⟩,none,0,[],0,0,0,0,0,0,0⟩:aK) rfl (λj v h=>by cases h) (L4 _) hw (by show (Lit.int .i64 0).wf=true;decide) (L4 _) (L4 _) (by show mE 13;first|exact rfl|(unfold mE;decide)) hW) ?_)))))
 rintro Fv _ _ j7 ⟨V',jF,rfl,rfl,ht,hy⟩
 replace aE:=aE.trans j7
 exact jK 1 [4] [] (eO (v:=(vI (c2.code))) [] aE ⟨V',jF,rfl,rfl,ht,hy⟩)
end
section
open Go.RowKit Go.Maps
attribute [local irreducible] aB bJ av aF
section rules
variable {P:Program} {β:Bs} {N:fP} {ops:Array Oper} {k:Nat} {fr:Fr} {ay:List HP} {Q:Post} {d:Option Tmp} {v:Value} {t xT asserted:TypeId} {x:Operand} {want:Array (String×TypeId)}
theorem aB.lacks (cD:∀ar,iZ N ar ops fr k=some (.typeAssert x xT asserted true,d)) (hx:∀ar,fo N fr ar x=.iface t v) (hu:P.underlying asserted=some (.interface want)) (h:(P.info? t).map (λi=>(lacking want i.methods).isEmpty)=some false) (hz:(P.info? asserted).map (·.zero)=some (some .nilIface))
 (K:aB P β N ops (k+1) (eX fr d (.tuple #[.nilIface,.bool false])) ay Q):aB P β N ops k fr ay Q:=
 aB.nH cD (λo ar w ho hS=>⟨w,.inl (by
  obtain⟨dst,op,type,pos,after,guard⟩:=o
  cases ho
  simp only [execOp,hx]
  simp [run_typeAssert_lacksB hu h hz,Result.andThen]),hS⟩) K
end rules
def oC (β:Bs):Prop:=Rd β ⟨0,0,none⟩ (.iface 219 (.agg #[.pointer (some ⟨4,74,none⟩)]))
theorem oC.le {β β':Bs} (h:oC β) (dP:β.le β'):oC β':=Rd.le h dP
theorem Vq {β:Bs} (a:Nat) (e t:Nat) (x:Value) :
 aU Tryz.prog β 69 #[.iface 112 (vP e),.iface 119 (vP t),.agg #[.pointer (some ⟨4,119,none⟩),vP a,.int .u64 150],.iface 219 (.agg #[.pointer (some ⟨4,112,none⟩)])] [.aD a [vP t] 119,.aD t [x] 112] (λv l=>v=.bool true/\l=[.aD t [vP e] 112]):=by
 refine SE Tryz.func69 Tryz.ntmps69 (λR=>SR (jB 2 [6] (λb1=>.aD b1 [.pointer (some ⟨4,119,none⟩),vP a,.int .u64 150] 161) (λb1=>NN (av.block (lJ (ι:=Unit) (λ(u:Unit)=>True) (λ(u:Unit)=>0) (λ(u:Unit)=>[(0,.iface 112 (vP e)),(1,.iface 119 (vP t)),(3,.iface 219 (.agg #[.pointer (some ⟨4,112,none⟩)])),(6,vP b1)]) (λ(u:Unit)=>[.aD a [vP t] 119,.aD t [x] 112,.abs R,.aD b1 [.pointer (some ⟨4,119,none⟩),vP a,.int .u64 150] 161]) () [0,1,2,3] (trivial) ?_)))))
 rintro u _
 exact av.block (SQ (jK 4 [19] [] (NT (SR (jN 5 [] (λb2=>[(0,A_ 3 b1 3),(1,a_ 0 a),(4,p_ ⟨[.at 4,.at 1],none,none,none,none⟩ [t=t,b2=b2] ⟨rfl,rfl,trivial⟩)]) (λb2=>[(1,[(0,vP e)])]) (λb2=>.aD b2 [vP e] 112) (λb2=>NS (jK 1 [8] [] (eN (v:=(.bool true)) ⟨rfl,rfl⟩ [1,2]))))))))
theorem Ys {β:Bs} (hE:oC β) (e t:Nat) (x:Value) :
 aU Tryz.prog β 42 #[.iface 112 (vP e),.iface 119 (vP t)] [.aD t [x] 112] (λv l=>v=.bool true/\l=[.aD t [vP e] 112]):=by
 exact SE Tryz.func42 Tryz.ntmps42 (λR=>SR (jK 1 [] [] (NZ (jK 2 [9] [] (NF (KX (SQ (jK 2 [11] [] (NF (KX (SR (jB 2 [14] (λb3=>.aD b3 [vP t] 119) (λb3=>jN 2 [5] (λb4=>[(1,A_ 3 b4 3)]) (λ_=>[]) (λb4=>.aD b4 [.pointer (some ⟨4,119,none⟩),vP b3,.int .u64 150] 161) (λb4=>NS (jK 3 [6] [(0,A_ 3 b4 3)] (NZ (jK 7 [23] [(4,A_ 3 b4 3),(5,a_ 2 b3)] (NF (KX (SR (jK 3 [7] [] (NZ (jK 9 [35] [(5,r_ hE)] (NF (KX (SR (jK 4 [37,38,39,40] [(2,A_ 3 b4 3)] (gE [2,0] (Vq b3 e t x) (jK 1 [4] [] (eN (v:=(.bool true)) ⟨rfl,rfl⟩))))))))))))))))))))))))))))))
theorem RI {β:Bs} (a:Nat) (n:Int) (t:Nat) (x:Value) :
 aU Tryz.prog β 69 #[.iface 38 (.int .i64 (n)),.iface 120 (vP t),.agg #[.pointer (some ⟨4,120,none⟩),vP a,.int .u64 150],.iface 219 (.agg #[.pointer (some ⟨4,38,none⟩)])] [.aD a [vP t] 120,.aD t [x] 38] (λv l=>v=.bool true/\l=[.aD t [vI (n)] 38]):=by
 refine SE Tryz.func69 Tryz.ntmps69 (λR=>SR (jB 2 [6] (λb5=>.aD b5 [.pointer (some ⟨4,120,none⟩),vP a,.int .u64 150] 161) (λb5=>NN (av.block (lJ (ι:=Unit) (λ(u:Unit)=>True) (λ(u:Unit)=>0) (λ(u:Unit)=>[(0,.iface 38 (.int .i64 (n))),(1,.iface 120 (vP t)),(3,.iface 219 (.agg #[.pointer (some ⟨4,38,none⟩)])),(6,vP b5)]) (λ(u:Unit)=>[.aD a [vP t] 120,.aD t [x] 38,.abs R,.aD b5 [.pointer (some ⟨4,120,none⟩),vP a,.int .u64 150] 161]) () [0,1,2,3] (trivial) ?_)))))
 rintro u _
 exact av.block (SQ (jK 4 [19] [] (NT (SR (jN 5 [] (λb6=>[(0,A_ 3 b5 3),(1,a_ 0 a),(4,p_ ⟨[.at 4,.at 1],none,none,none,none⟩ [t=t,b6=b6] ⟨rfl,rfl,trivial⟩)]) (λb6=>[(1,[(0,vI (n))])]) (λb6=>.aD b6 [vI (n)] 38) (λb6=>NS (jK 1 [8] [] (eN (v:=(.bool true)) ⟨rfl,rfl⟩ [1,2]))))))))
theorem Vr {β:Bs} (hE:oC β) (n:Int) (t:Nat) (x:Value) :
 aU Tryz.prog β 42 #[.iface 38 (.int .i64 (n)),.iface 120 (vP t)] [.aD t [x] 38] (λv l=>v=.bool true/\l=[.aD t [vI (n)] 38]):=by
 exact SE Tryz.func42 Tryz.ntmps42 (λR=>SR (jK 1 [] [] (NZ (jK 2 [9] [] (NF (KX (SQ (jK 2 [11] [] (NF (KX (SR (jB 2 [14] (λb7=>.aD b7 [vP t] 120) (λb7=>jN 2 [5] (λb8=>[(1,A_ 3 b8 3)]) (λ_=>[]) (λb8=>.aD b8 [.pointer (some ⟨4,120,none⟩),vP b7,.int .u64 150] 161) (λb8=>NS (jK 3 [6] [(0,A_ 3 b8 3)] (NZ (jK 7 [23] [(4,A_ 3 b8 3),(5,a_ 2 b7)] (NF (KX (SR (jK 3 [7] [] (NZ (jK 9 [35] [(5,r_ hE)] (NF (KX (SR (jK 4 [37,38,39,40] [(2,A_ 3 b8 3)] (gE [2,0] (RI b7 n t x) (jK 1 [4] [] (eN (v:=(.bool true)) ⟨rfl,rfl⟩))))))))))))))))))))))))))))))
theorem Vs {β:Bs} (a:Nat) (n:Int) (t:Nat) (x:Value) :
 aU Tryz.prog β 69 #[.iface 38 (.int .i64 (n)),.iface 119 (vP t),.agg #[.pointer (some ⟨4,119,none⟩),vP a,.int .u64 150],.iface 219 (.agg #[.pointer (some ⟨4,112,none⟩)])] [.aD a [vP t] 119,.aD t [x] 112] (λv l=>v=.bool false/\l=[.aD t [x] 112]):=by
 refine SE Tryz.func69 Tryz.ntmps69 (λR=>SR (jB 2 [6] (λb9=>.aD b9 [.pointer (some ⟨4,119,none⟩),vP a,.int .u64 150] 161) (λb9=>NN (av.block (lJ (ι:=Unit) (λ(u:Unit)=>True) (λ(u:Unit)=>0) (λ(u:Unit)=>[(0,.iface 38 (.int .i64 (n))),(1,.iface 119 (vP t)),(3,.iface 219 (.agg #[.pointer (some ⟨4,112,none⟩)])),(6,vP b9)]) (λ(u:Unit)=>[.aD a [vP t] 119,.aD t [x] 112,.abs R,.aD b9 [.pointer (some ⟨4,119,none⟩),vP a,.int .u64 150] 161]) () [0,1,2,3] (trivial) ?_)))))
 rintro u _
 exact av.block (SQ (jK 4 [19] [] (NF (KX (SQ (jK 1 [26] [] (aB.lacks (x:=(.tmp 26)) (t:=38) (v:=vI (n)) (xT:=74) (d:=(some 27)) (λ_=>d6) (λ_=>d6) Tryz.underlying223 d6 d6 (jK 5 [9,10] [] (NS (jK 6 [35] [] (NF (KX (SR (jK 1 [36] [] (NN (av.block (SR (aB.lacks (x:=(.tmp 36)) (t:=38) (v:=vI (n)) (xT:=74) (d:=(some 37)) (λ_=>d6) (λ_=>d6) Tryz.underlying226 d6 d6 (jK 2 [38,39] [] (NF (SR (aB.lacks (x:=(.tmp 36)) (t:=38) (v:=vI (n)) (xT:=74) (d:=(some 44)) (λ_=>d6) (λ_=>d6) Tryz.underlying228 d6 d6 (jK 2 [45,46] [] (NF (SR (jK 1 [] [] (NS (jK 1 [8] [] (eN (v:=(.bool false)) ⟨rfl,rfl⟩ [1,2])))))))))))))))))))))))))))))
theorem Yt {β:Bs} (hE:oC β) (n:Int) (t:Nat) (x:Value) :
 aU Tryz.prog β 42 #[.iface 38 (.int .i64 (n)),.iface 119 (vP t)] [.aD t [x] 112] (λv l=>v=.bool false/\l=[.aD t [x] 112]):=by
 exact SE Tryz.func42 Tryz.ntmps42 (λR=>SR (jK 1 [] [] (NZ (jK 2 [9] [] (NF (KX (SQ (jK 2 [11] [] (NF (KX (SR (jB 2 [14] (λb10=>.aD b10 [vP t] 119) (λb10=>jN 2 [5] (λb11=>[(1,A_ 3 b11 3)]) (λ_=>[]) (λb11=>.aD b11 [.pointer (some ⟨4,119,none⟩),vP b10,.int .u64 150] 161) (λb11=>NS (jK 3 [6] [(0,A_ 3 b11 3)] (NZ (jK 7 [23] [(4,A_ 3 b11 3),(5,a_ 2 b10)] (NF (KX (SR (jK 3 [7] [] (NZ (jK 9 [35] [(5,r_ hE)] (NF (KX (SR (jK 4 [37,38,39,40] [(2,A_ 3 b11 3)] (gE [2,0] (Vs b10 n t x) (jK 1 [4] [] (eN (v:=(.bool false)) ⟨rfl,rfl⟩))))))))))))))))))))))))))))))
theorem Lz {β:Bs} (hE:oC β) (n:Int) :
 aU Tryz.prog β 14 #[.iface 38 (.int .i64 (n))] [] (λv l=>v=.tuple #[vI n,vI 0]/\l=[]):=by
 exact SE Tryz.func14 Tryz.ntmps14 (λR=>SR (jK 2 [] [] (NZ (jK 2 [7] [] (NF (KX (SR (jB 1 [4] (λb12=>.aD b12 [.pointer none] 112) (λb12=>NZ (jK 2 [8,9] [] (gE [1] (Yt hE n b12 (.pointer none)) (NF (KX (SR (jB 1 [5] (λb13=>.aD b13 [vI 0] 38) (λb13=>NZ (jK 2 [19,20] [] (gE [2] (Vr hE n b13 (.int .i64 0)) (NT (SR (jK 3 [2,3] [(0,a_ 0 b13)] (eN (v:=(.tuple #[vI (n),vI 0])) ⟨rfl,rfl⟩ [2]))))))))))))))))))))))
theorem Nj {β:Bs} (hE:oC β) (e:Nat) (at_:Int) (nm:ByteArray) (n:Int) :
 aU Tryz.prog β 14 #[.iface 112 (vP e)] [.aD e [vI (at_),.string nm,vI (n)] 114] (λv l=>v=.tuple #[vI n,vI at_]/\l=[.aD e [vI (at_),.string nm,vI (n)] 114]):=by
 exact SE Tryz.func14 Tryz.ntmps14 (λR=>SR (jK 2 [] [] (NZ (jK 2 [7] [] (NF (KX (SR (jB 1 [4] (λb14=>.aD b14 [.pointer none] 112) (λb14=>NZ (jK 2 [8,9] [] (gE [2] (Ys hE e b14 (.pointer none)) (NT (av.seq (rQ (jQ 10 [2,3] [(0,a_ 0 b14),(3,a_ 1 e),(4,a_ 0 b14),(7,a_ 1 e)] (NQ (NX (av.ret (aF.br (RT (.tuple #[vI (n),vI (at_)]) [1,2] (⟨rfl,rfl⟩)))))))))))))))))))))
theorem afo {β:Bs} (n k:Int) :
 aU Tryz.prog β 100 #[.iface 38 (.int .i64 (n)),.iface 38 (.int .i64 (k)),.bool true] [] (λv l=>v=.bool (decide (n=k))/\l=[]):=by
 refine SE Tryz.func100 Tryz.ntmps100 (λR=>SR (jK 1 [] [] (NN (av.block (lJ (ι:=Unit) (λ(u:Unit)=>True) (λ(u:Unit)=>0) (λ(u:Unit)=>[(0,.iface 38 (.int .i64 (n))),(1,.iface 38 (.int .i64 (k))),(2,.bool true)]) (λ(u:Unit)=>[.abs R]) () [0] (trivial) ?_)))))
 rintro u _
 exact av.block (SQ (jK 6 [19] [] (NN (cP ((n:Int)=(k:Int)) (λGS=>zR (v:=(.bool true)) ⟨zc Value.bool (by simp_all),rfl⟩) (λGS=>KX (SQ (jK 1 [21] [] (aB.lacks (x:=(.tmp 21)) (t:=38) (v:=vI (n)) (xT:=74) (d:=(some 22)) (λ_=>d6) (λ_=>d6) Tryz.underlying247 d6 d6 (jK 5 [7,8] [] (NS (jK 6 [30] [] (NF (KX (SR (jK 1 [31] [] (NN (av.block (SR (aB.lacks (x:=(.tmp 31)) (t:=38) (v:=vI (n)) (xT:=74) (d:=(some 32)) (λ_=>d6) (λ_=>d6) Tryz.underlying226 d6 d6 (jK 2 [33,34] [] (NF (SR (aB.lacks (x:=(.tmp 31)) (t:=38) (v:=vI (n)) (xT:=74) (d:=(some 39)) (λ_=>d6) (λ_=>d6) Tryz.underlying228 d6 d6 (jK 2 [40,41] [] (NF (SR (jK 1 [] [] (NS (jK 1 [6] [] (eN (v:=(.bool false)) ⟨zc Value.bool (by simp_all),rfl⟩))))))))))))))))))))))))))))))
theorem agz {β:Bs} (n k:Int) :
 aU Tryz.prog β 64 #[.iface 38 (.int .i64 (n)),.iface 38 (.int .i64 (k))] [] (λv l=>v=.bool (decide (n=k))/\l=[]):=by
 exact SE Tryz.func64 Tryz.ntmps64 (λR=>SR (jK 1 [] [] (NZ (jK 6 [11] [] (NF (KX (SR (jK 4 [5] [] (NS (jK 3 [18,19,20] [] (gE [] (afo n k) (jK 1 [4] [] (eN (v:=(.bool (decide (n=k)))) ⟨rfl,rfl⟩)))))))))))))
end
section
open Go.RowKit
def LA (P:Program) (β:Bs) (N:fP) (ar:Nat->Value) (ops:Array Oper) (fr:Fr) (k:Nat):Option (Deferred×Option Tmp):=
 match ops.toList[k]? with
 |some o=>
   match Region.wanted o (yF ops N fr ar) with
   |true=>
     match fe P β 0 true (execOp (fo N fr ar) o) ⟨[],[],[],true⟩ with
     |some (.defer d,_)=>some (d,o.dst)
     |_=>none
   |false=>none
 |none=>none
def wh (P:Program) (β:Bs) (f:FuncId) (args:Array Value) (pre:List HP) (post:Bs->Value->List HP->Prop):Prop:=
 ∀(R:eG) (w:World),aP β (pre++[.abs R]) w->CallsD P f args .returning w λe u w'=>u=.returning/\uf β R post e w'
section df
variable {P:Program} {β:Bs} {N:fP} {ops:Array Oper} {k n0:Nat} {fr:Fr} {ay R pre rest:List HP} {Q:Post} {f:FuncId} {args:Array Value} {d:Deferred} {x:Option Tmp} {fn:Func} {c:Code} {post:Bs->Value->List HP->Prop} {w:World}
theorem QG {ar:Nat->Value} (h:LA P β N ar ops fr k=some (d,x)):∃o,ops.toList[k]?=some o/\Region.wanted o (yF ops N fr ar)=true/\o.dst=x ∧
 ∀w,aP β [] w->(execOp (fo N fr ar) o).run P w=.ok (.defer d) w:=by
 unfold LA at h
 repeat' split at h
 all_goals first|(cases h;done)|skip
 rename_i o h1 _ h2 _ d' S' h3
 cases h
 refine⟨o,h1,h2,rfl,λw hS=>?_⟩
 have hob:=LH _ _ _ _ h3 rfl
 obtain⟨w',h4,_,_,h5⟩:=vr _ _ _ _ w h3 (λp hp=>by rw [hob] at hp;cases hp) hS (λe=>by cases e)
 rw [h4,(h5 rfl).1]
theorem aB.defer (d:Deferred) (hc:∀ar,LA P β N ar ops fr k=some (d,x)) (K:aB P β ⟨N.n,d::N.ds⟩ ops (k+1) (eX fr x undef) ay Q):aB P β N ops k fr ay Q:=by
 intro ar w hS
 obtain⟨o,h1,h2,rfl,h3⟩:=QG (hc ar)
 rw [drop_cons h1]
 unfold wpList
 rw [gY,t8 h2]
 refine .inl ?_
 unfold Oper.wp
 rw [iY,h3 w hS.nil,Oper.upon_defer]
 have e:({fk N fr ar with defers:=d::(fk N fr ar).defers}:Act)=fk ⟨N.n,d::N.ds⟩ fr ar:=rfl
 rw [e,gS]
 exact K ar w hS
theorem wh.enter (hf:P.funcs[f]?=some fn) (hb:fn.body=some c) (hN:fn.ntmps=n0) (hl:args.toList.length<=n0) (h:β.le β->∀R:eG,av P β ⟨n0,[]⟩ c (zu 0 args.toList) (pre++[.abs R]) (bodyPost P fn (uf β R post))):wh P β f args pre post:=by
 intro R w hS
 refine (callsD_of_wp (R:=uf β R post) hf hb ?_)
 rw [hN,Bd hl]
 exact h hS.1.Cy R _ w hS
theorem bK.afp (hf:P.funcs[f]?=some fn) (hb:fn.body=some c) (hN:fn.ntmps=n0) (hl:args.toList.length<=n0) (h:β.le β->∀R:eG,av P β ⟨n0,[]⟩ c (zu 0 args.toList) (pre++[.abs R]) (bodyPostD P fn (uf β R post))):bK P β f args pre post:=by
 intro R w hS
 refine calls_of_wp_defers hf hb ?_
 rw [hN,Bd hl]
 exact h hS.1.Cy R _ w hS
theorem wh.use (h:wh P β f args pre post) (hS:aP β (pre++rest) w):CallsD P f args .returning w λe u w'=>u=.returning/\∃β' v l,β.le β'/\e=.returned v/\post β' v l/\aP β' (l++rest) w':=
 (h _ w hS.gy).mono λ_ _ _ ⟨h0,β',v,l,h1,h2,h3,h4⟩=>⟨h0,β',v,l,h1,h2,h3,h4.rX⟩
theorem Vt {R:Ending->World->Prop} {ar:Nat->Value} (h:bodyPost P fn R .ret (fk ⟨n0,[]⟩ fr ar) w):Leaves P fn (fk ⟨n0,[]⟩ fr ar).tmps R [] .returning w:=h.2
theorem aF.door {xO:Bs} {fv:Fn} {cap dargs:Array Value} {A:eG} {pst:Bs->Value->List HP->Prop} (pk:List Nat) (hi:∀w,(invoke (.fn fv cap) dargs).run P w=.ok (.enter f args) w) (hs:wh P β f args pre post) (hn:bU pk=true) (hp:cT ay pk=some (pre++rest))
 (K:∀β' v l,β.le β'->post β' v l->aF β' ⟨n0,[]⟩ (bodyPost P fn (uf xO A pst)) .ret fr (l++rest)):aF β ⟨n0,[⟨.fn fv cap,dargs⟩]⟩ (bodyPostD P fn (uf xO A pst)) .ret fr ay:=by
 intro ar w hS
 refine leaves_cons (by intro e;cases e) (hi w) ?_
 refine (hs.use (hS.pick hn hp)).mono ?_
 rintro e u w' ⟨rfl,β',v,l,dP,rfl,kE,gG⟩
 exact Vt (K β' v l dP kE ar w' gG)
end df
end
section
open Go.RowKit Go.Maps bw aH
attribute [local irreducible] aB bJ av aF
theorem adF {β:Bs} {G:WG} {fs:List ck} {xs:List cI} {af:Int} {S:aZ} {V:WV} {tr:List aK} (hrw:(Lit.int .i64 af).wf=true) (hI:bB S) (hn:tr.length<=8388604) (hZ:kK β G.Z xs) (hX:fS xs 1048576) (hg:iO β) (cur:Int) (hw:(Lit.int .i64 cur).wf=true) (part:ByteArray) (hnm:part.size<=1048576) (mode:Int) {r:JQ} (hr:dK fs xs af S tr.length cur part mode=r) :
 bK Tryz.prog β 39 #[.agg #[.iface 37 (vP G.w)],vI (cur),.string part,vI (mode)] [wA G fs xs af S V tr] (λ_ v l=>∃(V':WV) (jF:List aK),jF.length=r.n/\lD fs xs af tr S jF r.S/\((r.code=0/\v=.tuple #[vI r.next,.bool r.made,.nilIface])\/(r.code≠0/\v=.tuple #[vI 0,.bool r.made,.iface 38 (.int .i64 r.code)]))/\l=[wA G fs xs af r.S V' jF]):=by
 refine lW Tryz.func39 Tryz.ntmps39 (λaE R=>SR (jB 4 [4] (λb1=>.aD b1 [.iface 37 (vP G.w)] 55) (λb1=>NS (jK 3 [13,14,15] [(0,a_ 2 b1)] ?_))))
 obtain⟨S1,c1,e1⟩:∃Sx cx,bq fs xs af (tr.length+1) S (jT cur part)=(Sx,cx):=⟨_,_,rfl⟩
 refine ia [0] (Cv (β:=β) (G:=G) (V:=V) (tr:=tr) (S2:=S1) (c2:=c1) hrw hI d5 hZ hX hg cur hw part hnm e1) ?_
 rintro oV _ _ gJ ⟨V1,Eh,rfl,rfl,ht1,hy1⟩
 replace hZ:=hZ.le gJ
 replace hg:=hg.le gJ
 replace aE:=aE.trans gJ
 have dz:bB S1:=by have h:=bB.bq (fs:=fs) (xs:=xs) (af:=af) (n:=tr.length+1) (c:=jT cur part) hI;rw [e1] at h;exact h
 refine jK 5 [8,11] [] (NZ (jK 2 [20] [] (NN (cP ((c1.code:Int)=(0:Int)) (λlZ=>?_) (λlZ=>?_)))))
 ·refine SR (jK 4 [8,9,10] [] (NN (av.ret (aF.br ?_))))
  rw [DM e1 lZ] at hr
  subst hr
  exact rB (.tuple #[vI (c1.answer),.bool false,.nilIface]) [] [0,1] aE (⟨V1,Eh,ht1,hy1,.inl ⟨rfl,rfl⟩,rfl⟩)
 refine KX (SR (jK 3 [10] [] (NZ (jK 2 [24,25] [] (gE [] (agz c1.code 170) (jK 2 [28] [] (sN 28 (c1.code=170) (λtN=>?_) (λtN=>?_))))))))
 ·refine jK 3 [31] [] (NT (SR (jK 4 [8,9,10] [] (NN (av.ret (aF.br ?_))))))
  rw [yx e1 lZ (.inl tN)] at hr
  subst hr
  exact rB (.tuple #[vI 0,.bool false,.iface 38 (.int .i64 (c1.code))]) [] [0,1] aE (⟨V1,Eh,ht1,hy1,.inr ⟨lZ,rfl⟩,rfl⟩)
 refine jK 3 [31] [] (NN (cP ((mode:Int)<(0:Int)) (λLY=>?_) (λLY=>?_)))
 ·refine SR (jK 4 [8,9,10] [] (NN (av.ret (aF.br ?_))))
  rw [yx e1 lZ (.inr LY)] at hr
  subst hr
  exact rB (.tuple #[vI 0,.bool false,.iface 38 (.int .i64 (c1.code))]) [] [0,1] aE (⟨V1,Eh,ht1,hy1,.inr ⟨lZ,rfl⟩,rfl⟩)
 refine KX (SR (jK 4 [33,34,35,36] [(0,a_ 2 b1)] ?_))
 obtain⟨S2,c2,e2⟩:∃Sx cx,bq fs xs af (tr.length+2) S1 (BK cur part mode)=(Sx,cx):=⟨_,_,rfl⟩
 refine ia [0] (Yr (β:=oV) (G:=G) (V:=V1) (tr:=Eh) (S2:=S2) (c2:=c2) hrw dz d5 hZ hX hg cur hw part hnm mode (by rw [ht1];exact e2)) ?_
 rintro vn _ _ fY ⟨V2,AX,rfl,rfl,ht2,hy2⟩
 replace hZ:=hZ.le fY
 replace hg:=hg.le fY
 replace aE:=aE.trans fY
 rw [ht1] at ht2
 have vX:bB S2:=by have h:=bB.bq (fs:=fs) (xs:=xs) (af:=af) (n:=tr.length+2) (c:=BK cur part mode) dz;rw [e2] at h;exact h
 refine jK 1 [11] [] (NS (jK 3 [9] [] (NZ (jK 3 [42] [] (sN 42 ((c2.code:Int)=(0:Int)) (λtO=>?_) (λtO=>?_))))))
 ·refine jK 3 [45] [] (NN (cN ((c2.code:Int)=(171:Int)) (λvH=>?_) (λvH=>?_)))
  ·refine SR (jK 5 [8,9,10] [] (NN (av.ret (aF.br ?_))))
   rw [E9 e1 lZ d5 e2 d5] at hr
   subst hr
   exact rB (.tuple #[vI 0,.bool false,.iface 38 (.int .i64 (c2.code))]) [] [0,1] aE (⟨V2,AX,ht2,(hy1.trans hy2),.inr ⟨d5,rfl⟩,rfl⟩)
  refine KX (SQ (jK 3 [49,50,51] [(0,a_ 2 b1)] ?_))
  obtain⟨S3,c3,e3⟩:∃Sx cx,bq fs xs af (tr.length+3) S2 (jT cur part)=(Sx,cx):=⟨_,_,rfl⟩
  refine ia [0] (Cv (β:=vn) (G:=G) (V:=V2) (tr:=AX) (S2:=S3) (c2:=c3) hrw vX d5 hZ hX hg cur hw part hnm (by rw [ht2];exact e3)) ?_
  rintro BZ _ _ jH ⟨V3,FI,rfl,rfl,QH,hy3⟩
  replace hZ:=hZ.le jH
  replace hg:=hg.le jH
  replace aE:=aE.trans jH
  rw [ht2] at QH
  have XS:bB S3:=by have h:=bB.bq (fs:=fs) (xs:=xs) (af:=af) (n:=tr.length+3) (c:=jT cur part) vX;rw [e3] at h;exact h
  refine jK 5 [8,11] [] (NS (jK 2 [56] [] (NN (cN ((c3.code:Int)=(0:Int)) (λAV=>?_) (λAV=>?_)))))
  ·refine SR (jK 6 [8,9,10] [] (NN (av.ret (aF.br ?_))))
   rw [BL e1 lZ d5 e2 d5 e3 AV] at hr
   subst hr
   exact rB (.tuple #[vI 0,.bool (decide ((c2.code:Int)=(0:Int))),.iface 38 (.int .i64 (c3.code))]) [] [0,1] aE (⟨V3,FI,QH,((hy1.trans hy2).trans hy3),.inr ⟨AV,rfl⟩,rfl⟩)
  refine KX (SR (jK 5 [8,9,10] [] (NN (av.ret ?_))))
  rw [Am e1 lZ d5 e2 d5 e3 AV] at hr
  subst hr
  exact rB (.tuple #[vI (c3.answer),.bool (decide ((c2.code:Int)=(0:Int))),.nilIface]) [] [0,1] aE (⟨V3,FI,QH,((hy1.trans hy2).trans hy3),.inl ⟨rfl,rfl⟩,rfl⟩)
 refine jK 3 [45] [] (NF (KX (SQ (jK 3 [49,50,51] [(0,a_ 2 b1)] ?_))))
 obtain⟨S3,c3,e3⟩:∃Sx cx,bq fs xs af (tr.length+3) S2 (jT cur part)=(Sx,cx):=⟨_,_,rfl⟩
 refine ia [0] (Cv (β:=vn) (G:=G) (V:=V2) (tr:=AX) (S2:=S3) (c2:=c3) hrw vX d5 hZ hX hg cur hw part hnm (by rw [ht2];exact e3)) ?_
 rintro AU _ _ fQ ⟨V3,FI,rfl,rfl,QH,hy3⟩
 replace hZ:=hZ.le fQ
 replace hg:=hg.le fQ
 replace aE:=aE.trans fQ
 rw [ht2] at QH
 have XS:bB S3:=by have h:=bB.bq (fs:=fs) (xs:=xs) (af:=af) (n:=tr.length+3) (c:=jT cur part) vX;rw [e3] at h;exact h
 refine jK 5 [8,11] [] (NS (jK 2 [56] [] (NN (cN ((c3.code:Int)=(0:Int)) (λAV=>?_) (λAV=>?_)))))
 ·refine SR (jK 6 [8,9,10] [] (NN (av.ret (aF.br ?_))))
  rw [BL e1 lZ d5 e2 d5 e3 AV] at hr
  subst hr
  exact rB (.tuple #[vI 0,.bool (decide ((c2.code:Int)=(0:Int))),.iface 38 (.int .i64 (c3.code))]) [] [0,1] aE (⟨V3,FI,QH,((hy1.trans hy2).trans hy3),.inr ⟨AV,rfl⟩,rfl⟩)
 refine KX (SR (jK 5 [8,9,10] [] (NN (av.ret ?_))))
 rw [Am e1 lZ d5 e2 d5 e3 AV] at hr
 subst hr
 exact rB (.tuple #[vI (c3.answer),.bool (decide ((c2.code:Int)=(0:Int))),.nilIface]) [] [0,1] aE (⟨V3,FI,QH,((hy1.trans hy2).trans hy3),.inl ⟨rfl,rfl⟩,rfl⟩)
theorem afq {β:Bs} (be bm bf bo bc bu:Nat) :
 wh Tryz.prog β 37 #[vP be,vP bm,vP bf,vP bo,vP bc,vP bu] [.aD be [.nilIface] 74] (λ_ v l=>v=.tuple #[]/\l=[.aD be [.nilIface] 74]):=by
 exact wh.enter Tryz.func37 rfl Tryz.ntmps37 (ais rfl) (λaE R=>SR (jK 2 [7] [(0,a_ 0 be)] (NF (av.skip (aF.YW (v:=.tuple #[]) (l:=[.aD be [.nilIface] 74]) (eT:=[]) [] [0,1] aE (λ_=>d6) trivial rfl d6 (⟨rfl,rfl⟩))))))
theorem afr {β:Bs} (be bm bf bo bc bu:Nat) (e:Nat) (made:Int) (x1 x2 x3:Value) :
 wh Tryz.prog β 37 #[vP be,vP bm,vP bf,vP bo,vP bc,vP bu] [.aD be [.iface 112 (vP e)] 74,.aD bm [vI (made)] 3,.aD bf [x1,x2,x3] 72,.aD bo [.bool false] 4] (λ_ v l=>v=.tuple #[]/\l=[.aD be [.iface 112 (vP e)] 74,.aD bf [vI 0,.bool false,vI (made)] 72]):=by
 exact wh.enter Tryz.func37 rfl Tryz.ntmps37 (ais rfl) (λaE R=>SR (jK 2 [7] [(0,a_ 0 be)] (NT (SR (jC 3 [] [(0,a_ 1 bm),(2,A_ 2 bf 3)] [(2,[(0,vI 0),(1,.bool false),(2,vI (made))])] (NS (jK 1 [10] [(0,a_ 3 bo)] (NF (av.skip (aF.YW (v:=.tuple #[]) (l:=[.aD be [.iface 112 (vP e)] 74,.aD bf [vI 0,.bool false,vI (made)] 72]) (eT:=[]) [] [0,2,4] aE (λ_=>d6) trivial rfl d6 (⟨rfl,rfl⟩)))))))))))
theorem Yu {β:Bs} {G:WG} {fs:List ck} {xs:List cI} {af:Int} {S:aZ} {V:WV} {tr:List aK} (hrw:(Lit.int .i64 af).wf=true) (hI:bB S) (hn:tr.length<=8388607) (hZ:kK β G.Z xs) (hX:fS xs 1048576) (hg:iO β) (be bm bf bo bc bu:Nat) (e:Nat) (made:Int) (x1 x2 x3:Value) (cur:Int) (hw:(Lit.int .i64 cur).wf=true) {S2:aZ} {c2:aK} (eW:bq fs xs af (tr.length+1) S (fL cur)=(S2,c2)) :
 wh Tryz.prog β 37 #[vP be,vP bm,vP bf,vP bo,vP bc,vP bu] [.aD be [.iface 112 (vP e)] 74,.aD bm [vI (made)] 3,.aD bf [x1,x2,x3] 72,.aD bo [.bool true] 4,.aD bc [.iface 37 (vP G.w)] 55,.aD bu [vI (cur)] 3,wA G fs xs af S V tr] (λ_ v l=>∃(V':WV) (jF:List aK),jF.length=tr.length+1/\lD fs xs af tr S jF S2/\v=.tuple #[]/\l=[.aD be [.iface 112 (vP e)] 74,.aD bf [vI 0,.bool false,vI (made)] 72]++[wA G fs xs af S2 V' jF]):=by
 refine wh.enter Tryz.func37 rfl Tryz.ntmps37 (ais rfl) (λaE R=>SR (jK 2 [7] [(0,a_ 0 be)] (NT (SR (jC 3 [] [(0,a_ 1 bm),(2,A_ 2 bf 3)] [(2,[(0,vI 0),(1,.bool false),(2,vI (made))])] (NS (jK 1 [10] [(0,a_ 3 bo)] (NT (av.region (jK 2 [11,12] [(0,a_ 4 bc),(1,a_ 5 bu)] (ia [6] (FH (β:=β) (G:=G) (V:=V) (tr:=tr) (S2:=S2) (c2:=c2) hrw hI d5 hZ hX hg cur hw eW) ?_)))))))))))
 rintro Fx _ _ lN ⟨V1,Eh,rfl,rfl,ht1,hy1⟩
 replace hZ:=hZ.le lN
 replace hg:=hg.le lN
 replace aE:=aE.trans lN
 exact NL (aF.YW (v:=.tuple #[]) (l:=[.aD be [.iface 112 (vP e)] 74,.aD bf [vI 0,.bool false,vI (made)] 72,wA G fs xs af S2 V1 Eh]) (eT:=[]) [] [1,3,0,7] aE (λ_=>d6) trivial rfl d6 (⟨V1,Eh,ht1,hy1,rfl,rfl⟩))
theorem GA {β:Bs} {G:WG} {fs:List ck} {xs:List cI} {af:Int} {S0:aZ} {V0:WV} {yT:List aK} (hrw:(Lit.int .i64 af).wf=true) (hI:bB S0) (hZ:kK β G.Z xs) (hX:fS xs 1048576) (hg:iO β) (hE:oC β) (h:Int) (hw:(Lit.int .i64 h).wf=true) (A:Option Addr) (oF:Nat) (ps:List ByteArray) (hP:jg β A ps) (_aii:ps.length<=1048576) (ay:∀i,i<ps.length->(pc ps i).size<=1048576) (hn0:yT.length+4*ps.length+4<=8388607) (mode:Int) {r:Ms} (hr:jw fs xs af mode ps 0 S0 yT.length h false 0=r) :
 bK Tryz.prog β 12 #[.agg #[.iface 37 (vP G.w)],vI (h),.slice A (ps.length) (oF),vI (mode)] [wA G fs xs af S0 V0 yT] (λ_ v l=>∃(V':WV) (jF:List aK),jF.length=r.n/\lD fs xs af yT S0 jF r.S/\((r.code=0/\v=.tuple #[.agg #[vI r.cur,.bool r.own,vI r.made],.nilIface]/\l=[wA G fs xs af r.S V' jF])\/(r.code≠0/\∃(e:Nat) (nm:ByteArray),v=.tuple #[.agg #[vI 0,.bool false,vI r.made],.iface 112 (vP e)]/\l=[wA G fs xs af r.S V' jF,.aD e [vI r.at_,.string nm,vI r.code] 114]))):=by
 refine bK.afp Tryz.func12 rfl Tryz.ntmps12 (ais rfl) (λaE R=>SR (jB 1 [4] (λb1=>.aD b1 [.iface 37 (vP G.w)] 55) (λb1=>jB 1 [8] (λb2=>.aD b2 [vI 0,.bool false,vI 0] 72) (λb2=>jB 1 [9] (λb3=>.aD b3 [.nilIface] 74) (λb3=>NS (jB 2 [10,21] (λb4=>.aD b4 [vI 0] 3) (λb4=>jB 1 [11] (λb5=>.aD b5 [.bool false] 4) (λb5=>jN 4 [12] (λb6=>[(1,a_ 5 b4),(2,a_ 6 b5),(3,a_ 7 b6)]) (λb6=>[(5,[(0,vI (h))])]) (λb6=>.aD b6 [vI 0] 3) (λb6=>NS (jK 1 [22] [] (aB.defer (x:=none) ⟨.fn (.func 37) #[vP b3,vP b6,vP b2,vP b5,vP b1,vP b4],#[]⟩ (λ_=>d6) (NZ (jK 3 [23,24,25] [] (NN (av.block (lB (ι:=Nat×Bs×aZ×WV×(List aK)×Int×Bool×Int) (λ(i,b,S,V,tr,cur,own,made)=>b) (λ(i,b,S,V,tr,cur,own,made)=>(i<=ps.length)/\(β.le b)/\(jg b A ps)/\(iO b)/\(oC b)/\(kK b G.Z xs)/\(bB S)/\((Lit.int .i64 cur).wf=true)/\(tr.length<=yT.length+4*i)/\(0<=made/\made<=i)/\(jw fs xs af mode (ps.drop i) (i:Int) S tr.length cur own made=r)/\(lD fs xs af yT S0 tr S)) (λ(i,b,S,V,tr,cur,own,made)=>ps.length-i) (λ(i,b,S,V,tr,cur,own,made)=>[(3,vI (mode)),(4,vP b1),(8,vP b2),(9,vP b3),(10,vP b4),(11,vP b5),(12,vP b6),(23,.slice A (ps.length) (oF)),(24,vI ↑ps.length),(25,vI ↑i)]) (λ(i,b,S,V,tr,cur,own,made)=>[.aD b1 [.iface 37 (vP G.w)] 55,.aD b2 [vI 0,.bool false,vI 0] 72,.aD b3 [.nilIface] 74,.aD b4 [vI (cur)] 3,.aD b5 [.bool own] 4,.aD b6 [vI (made)] 3,wA G fs xs af S V tr,.abs R]) (0,β,S0,V0,yT,h,false,0) [2,3,4,5,6,7,0,1] (⟨L4 _,aE,hP,hg,hE,hZ,hI,hw,d5,d5,hr,lD.refl⟩) ?_))))))))))))))))
 rintro⟨i,b,S,V,tr,cur,own,made⟩ ⟨hi,aE,hP,hg,hE,hZ,hI,hw,hn,hm,hr,hy⟩
 refine SR (jK 1 [26] [] (NN (av.seq (cP ((((i:Nat):Int):Int)<(((ps.length:Nat):Int):Int)) (λwq=>?_) (λwq=>?_)))))
 ·refine KX (av.seq (av.block (SR (jK 5 [13,14] [(1,x_ i ps.length (jg.hd hP (j:=i) d5)),(2,p_ ⟨[.old (.string (pc ps i))],none,none,none,none⟩ [(Rd b ⟨(bG A),bE A+i*1,none⟩ (.string (pc ps i)))] ⟨jg.rd hP d5,trivial⟩)] (NS (jK 4 [31,32,33,34] [(0,a_ 0 b1),(1,a_ 3 b4)] ?_))))))
  obtain⟨a,ha⟩:∃a,dK fs xs af S tr.length cur (pc ps i) mode=a:=⟨_,rfl⟩
  refine ia [6] (adF (β:=b) (G:=G) (V:=V) (tr:=tr) hrw hI d5 hZ hX hg cur hw (pc ps i) (ay i d5) mode ha) ?_
  rintro ql _ _ cU ⟨Va,Kl,Jq,hya,(⟨hc,rfl⟩|⟨hc,rfl⟩),rfl⟩
  ·replace hP:=hP.le cU
   replace hg:=hg.le cU
   replace hE:=hE.le cU
   replace hZ:=hZ.le cU
   replace aE:=aE.trans cU
   have Hy:bB a.S:=by rw [←ha];exact DN hI
   have hna:a.n<=tr.length+3:=by rw [←ha];exact Fa
   have QI:(Lit.int .i64 a.next).wf=true:=by rw [←ha];exact K9 hI
   refine jK 7 [15,16,17] [] (NN (av.join (ι:=Int) (λ(m2:Int)=>((if a.made=true then made+1 else made)=m2)) (λ(m2:Int)=>[(3,vI (mode)),(4,vP b1),(8,vP b2),(9,vP b3),(10,vP b4),(11,vP b5),(12,vP b6),(13,vI ↑i),(14,.string (pc ps i)),(15,vI (a.next)),(17,.nilIface),(23,.slice A (ps.length) (oF)),(24,vI ↑ps.length),(25,vI ↑i)]) (λ(m2:Int)=>[wA G fs xs af a.S Va Kl,.aD b1 [.iface 37 (vP G.w)] 55,.aD b2 [vI 0,.bool false,vI 0] 72,.aD b3 [.nilIface] 74,.aD b4 [vI (cur)] 3,.aD b5 [.bool own] 4,.aD b6 [vI (m2)] 3,.abs R]) ?_ (SR (jK 1 [39] [] (NN (av.cond (b:=a.made) (λ_=>d6) (λlY=>av.region (jC 3 [] [(0,a_ 6 b6),(1,wJ (made+1) (made+1)),(2,a_ 6 b6)] [(6,[(0,vI (made+1))])] (NL (mJ ((made+1)) [0,1,2,3,4,5,6,7] (t8 lY))))) (λlY=>av.skip (mJ made [0,1,2,3,4,5,6,7] (nw (by rw [lY];decide))))))))))
   rintro m2 hm2
   have Tn:0<=m2/\m2<=i+1:=by rw [←hm2];split<;>omega
   refine SQ (jK 2 [43] [] (NF (KX (SQ (jK 1 [56] [(0,a_ 5 b5)] (NN (av.cond (b:=own) (λ_=>d6) (λAV=>?_) (λAV=>?_))))))))
   ·subst AV
    refine SR (jK 2 [57,58] [(0,a_ 1 b1),(1,a_ 4 b4)] ?_)
    obtain⟨Sb,cb,eb⟩:∃Sx cx,bq fs xs af (a.n+1) a.S (fL cur)=(Sx,cx):=⟨_,_,rfl⟩
    refine ia [0] (FH (β:=ql) (G:=G) (V:=Va) (tr:=Kl) (S2:=Sb) (c2:=cb) hrw Hy d5 hZ hX hg cur hw (by rw [Jq];exact eb)) ?_
    rintro C3 _ _ iX ⟨Vb,trb,rfl,rfl,htb,hyb⟩
    replace hP:=hP.le iX
    replace hg:=hg.le iX
    replace hE:=hE.le iX
    replace hZ:=hZ.le iX
    replace aE:=aE.trans iX
    have hIb:bB Sb:=by have h:=bB.bq (fs:=fs) (xs:=xs) (af:=af) (n:=a.n+1) (c:=fL cur) Hy;rw [eb] at h;exact h
    refine jK 1 [20] [] (NS (jK 2 [61] [] (NN (cN ((cb.code:Int)=(0:Int)) (λL7=>?_) (λL7=>?_)))))
    ·refine SR (jC 2 [] [(1,a_ 4 b4)] [(4,[(0,vI (a.next))])] (NS (jN 9 [] (λb9=>[(7,A_ 2 b2 3),(8,a_ 3 b3)]) (λb9=>[(3,[(0,.iface 112 (vP b9))])]) (λb9=>.aD b9 [vI ↑i,.string (pc ps i),vI (cb.code)] 114) (λb9=>NN (av.ret (aF.br (aF.fM (aF.br (aF.br (aF.fM (aF.br ?_)))))))))))
     obtain⟨Sc,cc,ec⟩:∃Sx cx,bq fs xs af (a.n+1+1) Sb (fL a.next)=(Sx,cx):=⟨_,_,rfl⟩
     refine aF.door (rest:=[.abs R,.aD b9 [vI ↑i,.string (pc ps i),vI (cb.code)] 114]) [3,6,2,5,1,4,0,7,8] (λ_=>d6) (Yu (β:=C3) (G:=G) (V:=Vb) (tr:=trb) hrw hIb d5 hZ hX hg b3 b6 b2 b5 b1 b4 b9 (m2) (.int .i64 0) (.bool false) (.int .i64 0) a.next QI (S2:=Sc) (c2:=cc) (by rw [htb.trans (by rw [Jq])];exact ec)) d6 rfl ?_
     rintro Lg _ _ iH ⟨Vc,Yv,htc,hyc,rfl,rfl⟩
     replace hP:=hP.le iH
     replace hg:=hg.le iH
     replace hE:=hE.le iH
     replace hZ:=hZ.le iH
     replace aE:=aE.trans iH
     have hr2:r=⟨Sc,a.n+1+1,0,false,m2,cb.code,(i:Int)⟩:=by rw [←hr,mY d5,vU (by rw [ha];exact hc) rfl (by rw [ha,eb];exact L7),ha,eb,hm2];exact Ar ec
     subst hr2
     exact rB (l:=[wA G fs xs af Sc Vc Yv,.aD b9 [vI ↑i,.string (pc ps i),vI (cb.code)] 114]) (.tuple #[.agg #[vI 0,.bool false,vI (m2)],.iface 112 (vP b9)]) [A_ 1 b2 3,a_ 0 b3] [2,4,3] aE (⟨Vc,Yv,(by rw [htc,htb,Jq]),(((hy.trans hya).trans hyb).trans hyc),.inr ⟨L7,b9,_,rfl,rfl⟩⟩)
    refine KX (av.region (jC 3 [] [(1,a_ 4 b4),(2,a_ 5 b5)] [(4,[(0,vI (a.next))])] (LX (av.region (jK 2 [25] [(0,wJ ((i:Int)+1) (↑(i+1)))] (NL ?_))))))
    have hl2:trb.length=a.n+1:=(by rw [htb,Jq])
    exact tB ((i+1),C3,Sb,Vb,trb,a.next,true,m2) [1,2,3,4,5,6,0,7] (⟨d5,aE,hP,hg,hE,hZ,hIb,QI,d5,d5,by rw [←hr,mY (ps:=ps) (j:=i) d5,vl (by rw [ha];exact hc) rfl (by rw [ha,eb];exact L7),ha,eb,hm2,hl2];rfl,(hy.trans hya).trans hyb⟩)
   subst AV
   refine KX (av.region (jC 3 [] [(1,a_ 4 b4),(2,a_ 5 b5)] [(4,[(0,vI (a.next))]),(5,[(0,.bool true)])] (LX (av.region (jK 2 [25] [(0,wJ ((i:Int)+1) (↑(i+1)))] (NL ?_))))))
   have hl2:Kl.length=a.n:=Jq
   exact tB ((i+1),ql,a.S,Va,Kl,a.next,true,m2) [1,2,3,4,5,6,0,7] (⟨d5,aE,hP,hg,hE,hZ,Hy,QI,d5,d5,by rw [←hr,mY (ps:=ps) (j:=i) d5,xq (by rw [ha];exact hc) d8,ha,hm2,hl2];rfl,hy.trans hya⟩)
  replace hP:=hP.le cU
  replace hg:=hg.le cU
  replace hE:=hE.le cU
  replace hZ:=hZ.le cU
  replace aE:=aE.trans cU
  have Hy:bB a.S:=by rw [←ha];exact DN hI
  have hna:a.n<=tr.length+3:=by rw [←ha];exact Fa
  have QI:(Lit.int .i64 a.next).wf=true:=by rw [←ha];exact K9 hI
  refine jK 7 [15,16,17] [] (NN (av.join (ι:=Int) (λ(m2:Int)=>((if a.made=true then made+1 else made)=m2)) (λ(m2:Int)=>[(3,vI (mode)),(4,vP b1),(8,vP b2),(9,vP b3),(10,vP b4),(11,vP b5),(12,vP b6),(13,vI ↑i),(14,.string (pc ps i)),(15,vI 0),(17,.iface 38 (.int .i64 (a.code))),(23,.slice A (ps.length) (oF)),(24,vI ↑ps.length),(25,vI ↑i)]) (λ(m2:Int)=>[wA G fs xs af a.S Va Kl,.aD b1 [.iface 37 (vP G.w)] 55,.aD b2 [vI 0,.bool false,vI 0] 72,.aD b3 [.nilIface] 74,.aD b4 [vI (cur)] 3,.aD b5 [.bool own] 4,.aD b6 [vI (m2)] 3,.abs R]) ?_ (SR (jK 1 [39] [] (NN (av.cond (b:=a.made) (λ_=>d6) (λlY=>av.region (jC 3 [] [(0,a_ 6 b6),(1,wJ (made+1) (made+1)),(2,a_ 6 b6)] [(6,[(0,vI (made+1))])] (NL (mJ ((made+1)) [0,1,2,3,4,5,6,7] (t8 lY))))) (λlY=>av.skip (mJ made [0,1,2,3,4,5,6,7] (nw (by rw [lY];decide))))))))))
  rintro m2 hm2
  have Tn:0<=m2/\m2<=i+1:=by rw [←hm2];split<;>omega
  refine SQ (jK 2 [43] [] (NT (SR (jK 1 [45] [] (gE [] (Lz hE (a.code)) (jK 5 [18] [] (NS ?_)))))))
  rcases Bool.eq_false_or_eq_true own with rfl|rfl
  ·refine jN 9 [] (λb11=>[(7,A_ 2 b2 3),(8,a_ 3 b3)]) (λb11=>[(3,[(0,.iface 112 (vP b11))])]) (λb11=>.aD b11 [vI ↑i,.string (pc ps i),vI (a.code)] 114) (λb11=>NN (av.ret (aF.br (aF.fM (aF.br (aF.br (aF.fM (aF.br ?_))))))))
   obtain⟨Sc,cc,ec⟩:∃Sx cx,bq fs xs af (a.n+1) a.S (fL cur)=(Sx,cx):=⟨_,_,rfl⟩
   refine aF.door (rest:=[.abs R,.aD b11 [vI ↑i,.string (pc ps i),vI (a.code)] 114]) [3,6,2,5,1,4,0,7,8] (λ_=>d6) (Yu (β:=ql) (G:=G) (V:=Va) (tr:=Kl) hrw Hy d5 hZ hX hg b3 b6 b2 b5 b1 b4 b11 (m2) (.int .i64 0) (.bool false) (.int .i64 0) cur hw (S2:=Sc) (c2:=cc) (by rw [Jq];exact ec)) d6 rfl ?_
   rintro DY _ _ gA ⟨Vc,Yv,htc,hyc,rfl,rfl⟩
   replace hP:=hP.le gA
   replace hg:=hg.le gA
   replace hE:=hE.le gA
   replace hZ:=hZ.le gA
   replace aE:=aE.trans gA
   have hr2:r=⟨Sc,a.n+1,0,false,m2,a.code,(i:Int)⟩:=by rw [←hr,mY d5,rG (by rw [ha];exact hc),ha,hm2];exact Ar ec
   subst hr2
   exact rB (l:=[wA G fs xs af Sc Vc Yv,.aD b11 [vI ↑i,.string (pc ps i),vI (a.code)] 114]) (.tuple #[.agg #[vI 0,.bool false,vI (m2)],.iface 112 (vP b11)]) [A_ 1 b2 3,a_ 0 b3] [2,4,3] aE (⟨Vc,Yv,(by rw [htc,Jq]),((hy.trans hya).trans hyc),.inr ⟨hc,b11,_,rfl,rfl⟩⟩)
  refine jN 9 [] (λb13=>[(7,A_ 2 b2 3),(8,a_ 3 b3)]) (λb13=>[(3,[(0,.iface 112 (vP b13))])]) (λb13=>.aD b13 [vI ↑i,.string (pc ps i),vI (a.code)] 114) (λb13=>NN (av.ret (aF.br (aF.fM (aF.br (aF.br (aF.fM (aF.br (aF.door (rest:=[wA G fs xs af a.S Va Kl,.aD b1 [.iface 37 (vP G.w)] 55,.aD b4 [vI (cur)] 3,.abs R,.aD b13 [vI ↑i,.string (pc ps i),vI (a.code)] 114]) [3,6,2,5,0,1,4,7,8] (λ_=>d6) (afr b3 b6 b2 b5 b1 b4 b13 (m2) (.int .i64 0) (.bool false) (.int .i64 0)) d6 rfl ?_)))))))))
  rintro Fv _ _ j7 ⟨rfl,rfl⟩
  replace hP:=hP.le j7
  replace hg:=hg.le j7
  replace hE:=hE.le j7
  replace hZ:=hZ.le j7
  replace aE:=aE.trans j7
  have hr2:r=⟨a.S,a.n,0,false,m2,a.code,(i:Int)⟩:=by rw [←hr,mY d5,rG (by rw [ha];exact hc),ha,hm2];exact IB
  subst hr2
  exact rB (l:=[wA G fs xs af a.S Va Kl,.aD b13 [vI ↑i,.string (pc ps i),vI (a.code)] 114]) (.tuple #[.agg #[vI 0,.bool false,vI (m2)],.iface 112 (vP b13)]) [A_ 1 b2 3,a_ 0 b3] [2,6,5] aE (⟨Va,Kl,Jq,(hy.trans hya),.inr ⟨hc,b13,_,rfl,rfl⟩⟩)
 refine XX (SR (jC 6 [] [(0,a_ 3 b4),(1,a_ 4 b5),(2,a_ 5 b6),(4,A_ 1 b2 3),(5,a_ 2 b3)] [(1,[(0,vI (cur)),(1,.bool own),(2,vI (made))])] (NN (av.ret (aF.door (rest:=[.aD b1 [.iface 37 (vP G.w)] 55,.aD b2 [vI (cur),.bool own,vI (made)] 72,.aD b4 [vI (cur)] 3,.aD b5 [.bool own] 4,.aD b6 [vI (made)] 3,wA G fs xs af S V tr,.abs R]) [2,0,1,3,4,5,6,7] (λ_=>d6) (afq b3 b6 b2 b5 b1 b4) d6 rfl ?_)))))
 rintro Ct _ _ gP ⟨rfl,rfl⟩
 replace hP:=hP.le gP
 replace hg:=hg.le gP
 replace hE:=hE.le gP
 replace hZ:=hZ.le gP
 replace aE:=aE.trans gP
 have hi2:i=ps.length:=d5
 have hr2:r=⟨S,tr.length,cur,own,made,0,0⟩:=by rw [←hr,hi2,List.drop_length,E8]
 subst hr2
 exact rB (.tuple #[.agg #[vI (cur),.bool own,vI (made)],.nilIface]) [A_ 2 b2 3,a_ 0 b3] [6,7] aE (⟨V,tr,rfl,hy,.inl ⟨rfl,rfl,rfl⟩⟩)
theorem abf {β:Bs} {G:WG} {fs:List ck} {xs:List cI} {af:Int} {S:aZ} {V:WV} {tr:List aK} (hrw:(Lit.int .i64 af).wf=true) (hI:bB S) (hn:tr.length<=8388607) (hZ:kK β G.Z xs) (hX:fS xs 1048576) (hg:iO β) (cur made:Int) (hw:(Lit.int .i64 cur).wf=true) {S2:aZ} {c2:aK} (eW:bq fs xs af (tr.length+1) S (fL cur)=(S2,c2)) :
 bK Tryz.prog β 21 #[.agg #[.iface 37 (vP G.w)],.agg #[vI (cur),.bool true,vI (made)]] [wA G fs xs af S V tr] (λ_ v l=>∃(V':WV) (q:{l:List aK // l.length=tr.length+1}),v=vI c2.code/\l=[wA G fs xs af S2 V' q.1]/\lD fs xs af tr S q.1 S2):=by
 refine lW Tryz.func21 Tryz.ntmps21 (λaE R=>SR (jB 1 [2] (λb16=>.aD b16 [.iface 37 (vP G.w)] 55) (λb16=>jB 2 [3] (λb17=>.aD b17 [vI (cur),.bool true,vI (made)] 72) (λb17=>NZ (jK 3 [7] [(1,a_ 3 b17)] (NF (KX (SR (jK 3 [8,10] [(0,a_ 2 b16),(2,a_ 3 b17)] (ia [0] (FH (β:=β) (G:=G) (V:=V) (tr:=tr) (S2:=S2) (c2:=c2) hrw hI d5 hZ hX hg cur hw eW) ?_))))))))))
 rintro adX _ _ ur ⟨V1,Eh,rfl,rfl,ht1,hy1⟩
 replace hZ:=hZ.le ur
 replace hg:=hg.le ur
 replace aE:=aE.trans ur
 exact jK 1 [4] [] (eO (v:=(vI (c2.code))) [] aE ⟨V1,⟨Eh,ht1⟩,rfl,rfl,hy1⟩)
theorem RJ {β:Bs} (G:WG) (cur made:Int) :
 aU Tryz.prog β 21 #[.agg #[.iface 37 (vP G.w)],.agg #[vI (cur),.bool false,vI (made)]] [] (λv l=>v=vI 0/\l=[]):=by
 exact SE Tryz.func21 Tryz.ntmps21 (λR=>SR (jB 1 [2] (λb19=>.aD b19 [.iface 37 (vP G.w)] 55) (λb19=>jB 2 [3] (λb20=>.aD b20 [vI (cur),.bool false,vI (made)] 72) (λb20=>NZ (jK 3 [7] [(1,a_ 2 b20)] (NT (zR (v:=(vI 0)) ⟨rfl,rfl⟩)))))))
end
section
open Go.RowKit Go.Maps bw aH
abbrev qq (id:Int):aK:=⟨1,0,id,⟨#[]⟩,⟨#[]⟩,none,0,[],0,0,0,0,0,0,0⟩
section h
variable {fs:List ck} {xs:List cI} {af:Int} {S S1 S2:aZ} {c1 c2:aK} {n:Nat} {cur mode made i h:Int} {own:Bool} {p:ByteArray} {t:Th}
theorem D2 {us:bC Th} {k:Int} {t:Th} (e:aH.get us k=some t):k∈aY us:=aik.2 ⟨_,get_mem e,rfl⟩
theorem afs {name:ByteArray} (e:bq fs xs af n S (BK h name mode)=(S2,c2)):S2.us=S.us/\S2.aL=S.aL:=by
 have hu:=Al (af:=af) (S:=S) (xs:=dm xs n)
 rcases Cr (fs:=fs) (xs:=xs) (af:=af) (n:=n) (S:=S) (c:=BK h name mode) (by show (4:Int)≠1;decide) (by show (4:Int)≠9;decide) with h1|⟨k,hk,h1⟩
 ·rw [h1] at e
  unfold fF at e
  rw [vN (c:={BK h name mode with answer:=0,code:=230}) rfl] at e
  unfold iQ at e
  split at e
  ·cases e;exact hu
  split at e
  ·unfold lP at e
   split at e<;>(cases e;exact hu)
  cases e;exact hu
 rw [h1] at e
 cases e
 exact hu
theorem M4 (e:bq fs xs af n S (fL h)=(S2,c2)) (hg:aH.get S.us h=some t):S2.us=del h S.us/\S2.aL=S.aL:=by
 have hu:=Al (af:=af) (S:=S) (xs:=dm xs n)
 have hd:(fF (jh af S (dm xs n)) (fL h)).1.us=del h S.us/\(fF (jh af S (dm xs n)) (fL h)).1.aL=S.aL:=by
  unfold fF
  rw [sU (c:={fL h with answer:=0,code:=230}) rfl]
  unfold ju
  rw [show aH.get (jh af S (dm xs n)).us ({fL h with answer:=0,code:=230}:aK).bA=some t by rw [hu.1];exact hg]
  exact⟨by rw [←hu.1],hu.2⟩
 rcases Cr (fs:=fs) (xs:=xs) (af:=af) (n:=n) (S:=S) (c:=fL h) (by show (13:Int)≠1;decide) (by show (13:Int)≠9;decide) with h1|⟨k,hk,h1⟩
 ·rw [h1] at e
  rw [e] at hd
  exact hd
 rw [h1,t8 (show (fL h).op=13 from rfl)] at e
 cases e
 exact hd
structure Held (S:aZ) (cur:Int) (own:Bool):Prop where
 inv:bB S
 len:S.us.length=if own=true then 2 else 1
 cur:own=true->∃t,aH.get S.us cur=some t
 pk:S.aL<=3
theorem Held.Vu (h:Held S cur own) (e:bq fs xs af n S c1=(S2,c2)):bB S2:=by
 have:=h.inv.bq (fs:=fs) (xs:=xs) (af:=af) (n:=n) (c:=c1);rw [e] at this;exact this
structure acr (S:aZ) (cur:Int) (own:Bool) (a:JQ):Prop where
 ok:a.code=0->a.S.us.length=(if own=true then 3 else 2)/\(own=true->∃t,aH.get a.S.us cur=some t)/\(∃t,aH.get a.S.us a.next=some t)/\(own=true->a.next≠cur)
 bad:a.code≠0->Held a.S cur own
 pk:a.S.aL<=3
 made:a.made=true->mode<0->False
theorem M5 (hl:S.us.length=if own=true then 2 else 1) (hI:bB S) (hc:own=true->∃t,aH.get S.us cur=some t) (hpk:S.aL<=3) {name:ByteArray} (e:bq fs xs af n S (jT h name)=(S2,c2)) :
 (c2.code=0->S2.us.length=(if own=true then 3 else 2)/\(own=true->∃t,aH.get S2.us cur=some t)/\(∃t,aH.get S2.us c2.answer=some t)/\(own=true->c2.answer≠cur))/\(c2.code≠0->S2.us=S.us)/\S2.aL<=3:=by
 rcases G6 e with ⟨h1,t,h2,h3,h4⟩|⟨h1,h2,h3,h4⟩
 ·obtain⟨g1,g2,_⟩:=least_le hI.usr (λx hx=>(hI.wC x hx).1)
  refine⟨λ_=>⟨?_,λho=>?_,⟨t,?_⟩,λho hq=>?_⟩,λhn=>KB h1 hn,?_⟩
  ·rw [h3,kR,hl];split<;>rfl
  ·obtain⟨u,hu⟩:=hc ho
   refine⟨u,?_⟩
   rw [h3,tj g2,nw (λhq:cur=aH.aR S.us=>g2 (hq ▸ D2 hu))]
   exact hu
  ·rw [h3,h2,tj g2,t8 rfl]
  ·obtain⟨u,hu⟩:=hc ho
   rw [h2] at hq
   exact g2 (hq ▸ D2 hu)
  rw [h4,hl]
  split<;>omega
 exact⟨λhn=>KB hn h1,λ_=>h3,by rw [h4];exact hpk⟩
theorem Held.step (hh:Held S cur own):acr (mode:=mode) S cur own (dK fs xs af S n cur p mode):=by
 obtain⟨S1,c1,e1⟩:∃Sx cx,bq fs xs af (n+1) S (jT cur p)=(Sx,cx):=⟨_,_,rfl⟩
 obtain⟨a1,a2,a3⟩:=M5 hh.len hh.inv hh.cur hh.pk e1
 have i1:=hh.Vu e1
 by_cases h1:c1.code=0
 ·rw [DM e1 h1]
  exact⟨λ_=>a1 h1,λh=>KB rfl h,a3,λh=>KB h Bool.false_ne_true⟩
 have u1:=a2 h1
 have Tp:Held S1 cur own:=⟨i1,by rw [u1];exact hh.len,by rw [u1];exact hh.cur,a3⟩
 by_cases h2:¬c1.code=170\/mode<0
 ·rw [yx e1 h1 h2]
  exact⟨λh=>KB h h1,λ_=>Tp,a3,λh=>KB h Bool.false_ne_true⟩
 obtain⟨S2,c2,e2⟩:∃Sx cx,bq fs xs af (n+2) S1 (BK cur p mode)=(Sx,cx):=⟨_,_,rfl⟩
 obtain⟨b1,b2⟩:=afs e2
 have Ei:Held S2 cur own:=⟨Tp.Vu e2,by rw [b1];exact Tp.len,by rw [b1];exact Tp.cur,by rw [b2];exact a3⟩
 by_cases h3:¬c2.code=0/\¬c2.code=171
 ·rw [E9 e1 h1 h2 e2 h3]
  exact⟨λh=>KB h h3.1,λ_=>Ei,Ei.pk,λh=>KB h Bool.false_ne_true⟩
 obtain⟨S3,c3,e3⟩:∃Sx cx,bq fs xs af (n+3) S2 (jT cur p)=(Sx,cx):=⟨_,_,rfl⟩
 obtain⟨d1,d2,d3⟩:=M5 Ei.len Ei.inv Ei.cur Ei.pk e3
 have hm:mode<0->False:=λh=>h2 (.inr h)
 by_cases h4:c3.code=0
 ·rw [Am e1 h1 h2 e2 h3 e3 h4]
  exact⟨λ_=>d1 h4,λh=>KB rfl h,d3,λ_=>hm⟩
 rw [BL e1 h1 h2 e2 h3 e3 h4]
 have u3:=d2 h4
 exact⟨λh=>KB h h4,λ_=>⟨Ei.Vu e3,by rw [u3];exact Ei.len,by rw [u3];exact Ei.cur,d3⟩,d3,λ_=>hm⟩
theorem Held.close (hI:bB S) (hl:S.us.length=3) (hg:∃t,aH.get S.us cur=some t) {next:Int} (hn:∃t,aH.get S.us next=some t) (cF:next≠cur) (hpk:S.aL<=3) (e:bq fs xs af n S (fL cur)=(S2,c2)):Held S2 next true:=by
 obtain⟨t,hg⟩:=hg
 obtain⟨u,hn⟩:=hn
 obtain⟨h1,h2⟩:=M4 e hg
 refine⟨by have:=hI.bq (fs:=fs) (xs:=xs) (af:=af) (n:=n) (c:=fL cur);rw [e] at this;exact this,?_,λ_=>⟨u,?_⟩,by rw [h2];exact hpk⟩
 ·have:=tq hI.usr (D2 hg)
  rw [h1]
  show _=2
  omega
 rw [h1,wU,nw cF];exact hn
structure acs (mode:Int) (len:Nat) (n0:Nat) (h:Int) (r:Ms):Prop where
 inv:bB r.S
 pk:r.S.aL<=3
 made:0<=r.made/\r.made<=len
 m0:mode<0->r.made=0
 n:r.n<=4*len+1+n0
 bad:r.code≠0->r.S.us.length=1
 ok:r.code=0->Held r.S r.cur r.own/\(r.own=decide (0<len))/\(r.own=false->r.cur=h)
theorem Held.fail (hh:Held S cur own) {code at_:Int} (_hc:code≠0):(mH fs xs af S n cur own made code at_).S.us.length=1/\bB (mH fs xs af S n cur own made code at_).S/\(mH fs xs af S n cur own made code at_).S.aL<=3/\(mH fs xs af S n cur own made code at_).made=made/\(mH fs xs af S n cur own made code at_).code=code/\(mH fs xs af S n cur own made code at_).n<=n+1:=by
 obtain⟨S2,c2,e2⟩:∃Sx cx,bq fs xs af (n+1) S (fL cur)=(Sx,cx):=⟨_,_,rfl⟩
 cases own with
 |false=>rw [IB];exact⟨hh.len,hh.inv,hh.pk,rfl,rfl,Nat.le_succ n⟩
 |true=>
   rw [Ar e2]
   obtain⟨t,hg⟩:=hh.cur rfl
   obtain⟨h1,h2⟩:=M4 e2 hg
   refine⟨?_,hh.Vu e2,by show S2.aL<=3;rw [h2];exact hh.pk,rfl,rfl,N6 _⟩
   have h3:=tq hh.inv.usr (D2 hg)
   have h4:S.us.length=2:=hh.len
   show S2.us.length=1
   rw [h1]
   omega
theorem FJ {h0:Int} {n0 len:Nat}:∀(r:List ByteArray) (i:Int) (S:aZ) (n:Nat) (cur:Int) (own:Bool) (made:Int),Held S cur own->0<=made->made+r.length<=len->(mode<0->made=0)->(own=true->n+4*r.length<=4*len+n0/\r.length<len)->(own=false->n=n0/\r.length=len/\cur=h0)->acs mode len n0 h0 (jw fs xs af mode r i S n cur own made)
 |[],i,S,n,cur,own,made,hh,hm,hml,hm0,hn,hf=>by
   rw [E8]
   simp only [List.length_nil] at hml hn hf
   refine⟨hh.inv,hh.pk,⟨hm,by show made<=_;omega⟩,hm0,?_,λh=>KB rfl h,λ_=>⟨hh,?_,λho=>(hf ho).2.2⟩⟩
   ·show n<=_
    cases own with
    |true=>have:=(hn rfl).1;omega
    |false=>have:=(hf rfl).1;omega
   show own=_
   cases own with
   |true=>have:=(hn rfl).2;exact (aio d5).symm
   |false=>have:=(hf rfl).2.1;exact (Lk d5).symm
 |p::r,i,S,n,cur,own,made,hh,hm,hml,hm0,hn,hf=>by
   obtain⟨a,ha⟩:∃a,dK fs xs af S n cur p mode=a:=⟨_,rfl⟩
   have hs:acr (mode:=mode) S cur own a:=by rw [←ha];exact hh.step
   have hna:a.n<=n+3:=by rw [←ha];exact Fa
   have Hy:bB a.S:=by rw [←ha];exact DN hh.inv
   obtain⟨m2,hm2⟩:∃m2,(if a.made=true then made+1 else made)=m2:=⟨_,rfl⟩
   have Tn:0<=m2/\m2<=made+1:=by rw [←hm2];split<;>omega
   have Yw:mode<0->m2=0:=λhq=>by
    rw [←hm2,nw (λh=>hs.made h hq)];exact hm0 hq
   rw [aix] at hml hn hf
   have hnn:n+4*(r.length+1)<=4*len+n0:=by
    cases own with
    |true=>exact (hn rfl).1
    |false=>have:=hf rfl;omega
   by_cases hc:a.code=0
   ·obtain⟨o1,o2,o3,o4⟩:=hs.ok hc
    by_cases ho:own=true
    ·subst ho
     obtain⟨S2,c2,e2⟩:∃Sx cx,bq fs xs af (a.n+1) a.S (fL cur)=(Sx,cx):=⟨_,_,rfl⟩
     have h2:Held S2 a.next true:=Held.close Hy o1 (o2 rfl) o3 (o4 rfl) hs.pk e2
     by_cases hc2:c2.code=0
     ·rw [vl (by rw [ha];exact hc) rfl (by rw [ha,e2];exact hc2),ha,e2,hm2]
      exact FJ r _ _ _ _ _ _ h2 Tn.1 d5 Yw (λ_=>⟨d5,d5⟩) (λh=>KB h (by decide))
     rw [vU (by rw [ha];exact hc) rfl (by rw [ha,e2];exact hc2),ha,e2,hm2]
     show acs mode len n0 h0 (mH fs xs af S2 (a.n+1) a.next true m2 c2.code i)
     obtain⟨f1,f2,f3,f4,f5,f6⟩:=h2.fail (fs:=fs) (xs:=xs) (af:=af) (n:=a.n+1) (made:=m2) (at_:=i) hc2
     exact⟨f2,f3,by rw [f4];omega,by rw [f4];exact Yw,d5,λ_=>f1,λh=>KB (f5.symm.trans h) hc2⟩
    have ho:own=false:=by simpa using ho
    subst ho
    rw [xq (by rw [ha];exact hc) d8,ha,hm2]
    have:=hf rfl
    exact FJ r _ _ _ _ _ _ ⟨Hy,o1,λ_=>o3,hs.pk⟩ Tn.1 d5 Yw (λ_=>⟨d5,d5⟩) (λh=>KB h (by decide))
   rw [rG (by rw [ha];exact hc),ha,hm2]
   obtain⟨f1,f2,f3,f4,f5,f6⟩:=(hs.bad hc).fail (fs:=fs) (xs:=xs) (af:=af) (n:=a.n) (made:=m2) (at_:=i) hc
   exact⟨f2,f3,by rw [f4];omega,by rw [f4];exact Yw,d5,λ_=>f1,λh=>KB (f5.symm.trans h) hc⟩
end h
section e
variable {β:Bs} {fs:List ck} {xs:List cI} {af:Int} {ns:List aO} {X:FM}
abbrev newP (β:Bs) (B:Option Addr) (ns:List aO) (Bf:Option Addr) (bf:Nat) (fs:List ck) (Ba:Option Addr) (ba:Nat) (xs:List cI):List HP:=[.abs (jL β (λβ'=>∃K,aN β' B ns K)),.abs (aI 136 2 Bf fs.length bf (cJ jv fs)),.abs (aI 133 5 Ba xs.length ba (cJ kr xs))]
abbrev abg (B:Option Addr) (n cp:Nat) (af:Int) (X:FM) (Bf:Option Addr) (nf bf:Nat) (Ba:Option Addr) (na ba:Nat):Array Value:=#[.agg #[.slice B n cp],.int .i64 af,.agg #[.int .i64 X.cN,.int .i64 X.cB,.int .i64 X.cH,.int .i64 X.cS,.int .i64 X.cZ],.agg #[.slice Bf nf bf,.slice Ba na ba]]
theorem QJ {Bf Ba:Option Addr} (B:Option Addr) (cp:Nat) (hB:kA ns 1048576) (bf ba:Nat) (ox:lI fs 2097152) (gF:fS xs 1048576) :
 bK Tryz.prog β 26 (abg B ns.length cp af X Bf fs.length bf Ba xs.length ba) (newP β B ns Bf bf fs Ba ba xs) (λβ' v l=>(fN X ns af≠0/\v=.tuple #[.pointer none,.int .i64 (fN X ns af)]/\l=[])\/(fN X ns af=0/\∃(N:DU X ns) (G:WG) (V:WV),v=.tuple #[vP G.w,.int .i64 0]/\l=[wA G fs xs af N.1 V []]/\kK β' G.Z xs)):=
 bK.UA λβ1 _ ⟨K,hG⟩=>bK.aez λoV hL=>by
  obtain⟨F,h1,h2⟩:=hL.get 0 rfl
  obtain⟨F',h1',h2'⟩:=hL.get 1 rfl
  exact (adl B cp (hG.le hL.le) hB bf ba (cq.gZ h1 h2 rfl) ox (cq.gZ h1' h2' rfl) gF).mono (by
   rintro β' v l _ (h|⟨h,N,G,V,q1,q2,q3⟩)
   ·exact .inl h
   exact .inr ⟨h,N,G,V,q1,q2,q3.at_⟩)
theorem abh (h0:fN X ns af=0) {Bf Ba:Option Addr} (B:Option Addr) (cp:Nat) (hB:kA ns 1048576) (bf ba:Nat) (ox:lI fs 2097152) (gF:fS xs 1048576) :
 aU Tryz.prog β 26 (abg B ns.length cp af X Bf fs.length bf Ba xs.length ba) (newP β B ns Bf bf fs Ba ba xs) (λv l=>∃(N:DU X ns) (G:WG) (V:WV),v=.tuple #[vP G.w,.int .i64 0]/\l=[.abs (jL β (λβ'=>kK β' G.Z xs)),wA G fs xs af N.1 V []]):=
 (bK.G0 (ι:=DU X ns×WG×WV) (vv:=λx=>.tuple #[vP x.2.1.w,.int .i64 0]) (ll:=λx=>[wA x.2.1 fs xs af x.1.1 x.2.2 []]) (Φ:=λx β'=>kK β' x.2.1.Z xs)
  ((QJ (X:=X) B cp hB bf ba ox gF).mono (by
    rintro β' v l _ (⟨h,_⟩|⟨_,N,G,V,h1,h2,h3⟩)
    ·exact KB h0 h
    exact⟨(N,G,V),h1,h2,h3⟩))).mono (by rintro v l ⟨⟨N,G,V⟩,h1,h2⟩;exact⟨N,G,V,h1,h2⟩)
theorem Yx (h0:¬fN X ns af=0) {Bf Ba:Option Addr} (B:Option Addr) (cp:Nat) (hB:kA ns 1048576) (bf ba:Nat) (ox:lI fs 2097152) (gF:fS xs 1048576) :
 aU Tryz.prog β 26 (abg B ns.length cp af X Bf fs.length bf Ba xs.length ba) (newP β B ns Bf bf fs Ba ba xs) (λv l=>v=.tuple #[.pointer none,.int .i64 (fN X ns af)]/\l=[]):=
 ((QJ (X:=X) B cp hB bf ba ox gF).mono (by
  rintro β' v l _ (⟨_,h1,h2⟩|⟨h,_⟩)
  ·exact⟨h1,h2⟩
  exact KB h h0)).Pj
end e
end
section
open Go.RowKit Go.Maps bw aH
attribute [local irreducible] aB bJ av aF eH
theorem M6 {β:Bs} (A:Option Addr) (c:Nat) (ns:List aO) (Y:fq) (hG:aN β A ns Y) (hB:kA ns 1048576) (X:FM) (af:Int) (Af:Option Addr) (cf:Nat) (fs:List ck) (hF:cq β Af (cJ jv fs)) (ox:lI fs 2097152) (Aa:Option Addr) (ca:Nat) (xs:List cI) (hA:cq β Aa (cJ kr xs)) (gF:fS xs 1048576) :
 bK Tryz.prog β 6 #[.agg #[.slice A (ns.length) (c),vI (af),vI (X.cN),vI (X.cB),vI (X.cH),vI (X.cS),vI (X.cZ),.slice Af (fs.length) (cf),.slice Aa (xs.length) (ca)]] [] (λβ' v l=>(fN X ns af≠0/\v=.tuple #[.pointer none,vI (fN X ns af)]/\l=[])\/(fN X ns af=0/\∃(N:DU X ns) (G:WG) (V:WV),v=.tuple #[vP G.w,vI 0]/\l=[wA G fs xs af N.1 V []]/\kK β' G.Z xs)):=by
 refine lW Tryz.func6 Tryz.ntmps6 (λaE R=>SR (jB 3 [1] (λb1=>.aD b1 [.slice A (ns.length) (c),vI (af),vI (X.cN),vI (X.cB),vI (X.cH),vI (X.cS),vI (X.cZ),.slice Af (fs.length) (cf),.slice Aa (xs.length) (ca)] 34) (λb1=>NN (av.seq ?_))))
 by_cases h0:fN X ns af=0
 ·refine jM [0,1,3,4,5,6,7,8,502,509,510,11,12,13,514] [1] (jG 8 [5,8,10,12] [(1,a_ 0 b1),(3,a_ 0 b1),(5,A_ 0 b1 5),(7,A_ 0 b1 2)] (kL [2] [] (yI (β:=β) A c ns Y hG (vJ hB) (F8 hB)) ?_ (by rintro _ _ ⟨B,cp,rfl,rfl⟩;kernel_rfl)))
  rintro _ _ ⟨B,cp,rfl,rfl⟩
  refine kL [4] [] (yJ (β:=β) Af cf fs hF ox.len Aa ca xs hA (Pe gF.len d8)) ?_ (by rintro _ _ ⟨Bf,bf,Ba,ba,rfl,rfl⟩;kernel_rfl)
  rintro _ _ ⟨Bf,bf,Ba,ba,rfl,rfl⟩
  refine kL [3] [2,0,1] (abh (β:=β) (X:=X) (Bf:=Bf) (Ba:=Ba) h0 B cp hB bf ba ox gF) ?_ (by rintro _ _ ⟨N,G,V,rfl,rfl⟩;kernel_rfl)
  rintro _ _ ⟨N,G,V,rfl,rfl⟩
  refine jG 3 [2,16] [] (eH.last d6 (jK 1 [3] [] (NL (aF.np (NX (av.ret (aF.tL 0 [1,2,3] (gj:=[wA G fs xs af N.1 V ([]),.abs R,.aD b1 [.slice A (ns.length) (c),vI (af),vI (X.cN),vI (X.cB),vI (X.cH),vI (X.cS),vI (X.cZ),.slice Af (fs.length) (cf),.slice Aa (xs.length) (ca)] 34]) rfl d6 rfl (λoV gJ hz=>?_))))))))
  replace aE:=aE.trans gJ
  exact rB (.tuple #[vP G.w,vI 0]) [] [0,1] aE (.inr ⟨h0,N,G,V,rfl,rfl,hz⟩)
 refine jM [0,1,3,4,5,6,7,8,502,509,510,11,12,13,514] [1] (jG 8 [5,8,10,12] [(1,a_ 0 b1),(3,a_ 0 b1),(5,A_ 0 b1 5),(7,A_ 0 b1 2)] (kL [2] [] (yI (β:=β) A c ns Y hG (vJ hB) (F8 hB)) ?_ (by rintro _ _ ⟨B,cp,rfl,rfl⟩;kernel_rfl)))
 rintro _ _ ⟨B,cp,rfl,rfl⟩
 refine kL [4] [] (yJ (β:=β) Af cf fs hF ox.len Aa ca xs hA (Pe gF.len d8)) ?_ (by rintro _ _ ⟨Bf,bf,Ba,ba,rfl,rfl⟩;kernel_rfl)
 rintro _ _ ⟨Bf,bf,Ba,ba,rfl,rfl⟩
 refine kL [1] [2,0,1] (Yx (β:=β) (X:=X) (Bf:=Bf) (Ba:=Ba) h0 B cp hB bf ba ox gF) ?_ (by rintro _ _ ⟨rfl,rfl⟩;kernel_rfl)
 rintro _ _ ⟨rfl,rfl⟩
 exact jG 3 [2,16] [] (eH.last d6 (jK 1 [3] [] (NL (aF.np (NX (av.ret (rB (.tuple #[.pointer none,vI ((fN X ns af))]) [] [0] aE (.inl ⟨h0,rfl,rfl⟩))))))))
end
section
open Go.RowKit Go.Maps bw aH
theorem aft:kW (PL 99):=adg d8
structure aij (S:aZ):Prop where
 inv:bB S
 ax:S.ax=[(1,⟨1,2⟩)]
 us:S.us=[]
 X:S.X=⟨9,99,9,0,0,1,0,0⟩
 o1:∃l u,ah S.O 1=⟨1,493,0,0,0,0,l,0,false,2,[],⟨#[]⟩,[],u⟩
section v
variable {S:aZ}
end v
section f
variable {β:Bs} {fs:List ck} {xs:List cI} {af:Int} {ns:List aO} {X:FM}
theorem Km {ns:List aO} (h0:fN X ns af=0) (A:Option Addr) (c:Nat) (Y:fq) (hG:aN β A ns Y) (hB:kA ns 1048576) (Af:Option Addr) (cf:Nat) (fs:List ck) (hF:cq β Af (cJ jv fs)) (ox:lI fs 2097152) (Aa:Option Addr) (ca:Nat) (xs:List cI) (hA:cq β Aa (cJ kr xs)) (gF:fS xs 1048576) :
 bK Tryz.prog β 6 #[KY A ns.length c af X Af fs.length cf Aa xs.length ca] [] (λβ' v l=>∃(N:DU X ns) (G:WG) (V:WV),v=.tuple #[vP G.w,.int .i64 0]/\l=[wA G fs xs af N.1 V []]/\kK β' G.Z xs):=
 (M6 A c ns Y hG hB X af Af cf fs hF ox Aa ca xs hA gF).mono (by
  rintro β' v l _ (⟨h,_⟩|⟨_,h⟩)
  ·exact KB h0 h
  exact h)
theorem Vv {ns:List aO} (h0:¬fN X ns af=0) (A:Option Addr) (c:Nat) (Y:fq) (hG:aN β A ns Y) (hB:kA ns 1048576) (Af:Option Addr) (cf:Nat) (fs:List ck) (hF:cq β Af (cJ jv fs)) (ox:lI fs 2097152) (Aa:Option Addr) (ca:Nat) (xs:List cI) (hA:cq β Aa (cJ kr xs)) (gF:fS xs 1048576) :
 bK Tryz.prog β 6 #[KY A ns.length c af X Af fs.length cf Aa xs.length ca] [] (λ_ v l=>v=.tuple #[.pointer none,.int .i64 (fN X ns af)]/\l=[]):=
 (M6 A c ns Y hG hB X af Af cf fs hF ox Aa ca xs hA gF).mono (by
  rintro β' v l _ (⟨_,h1,h2⟩|⟨h,_⟩)
  ·exact⟨h1,h2⟩
  exact KB h h0)
theorem ND:fS [] 1048576:=⟨d8,λa ha=>by cases ha⟩
end f
section w
variable {β:Bs} {G:WG} {fs:List ck} {xs:List cI} {af:Int} {S S1:aZ} {V:WV} {tr:List aK} {c1:aK} {n:Nat} {id h:Int}
theorem Cc:∀F w,(gy (wP G fs xs af S V tr)).h F w->w.cell? ⟨G.w,0,none⟩=some (.iface 37 (vP G.w)):=by
 rintro F w ⟨φ,h1,_,_⟩
 exact (lu (h1 0 _ rfl).1 rfl rfl rfl).1
theorem abj (hrw:(Lit.int .i64 af).wf=true) (hI:bB S) (hZ:kK β G.Z xs) (hX:fS xs 1048576) (hg:iO β) (id:Int) (how:(Lit.int .i64 id).wf=true) (hW:bq fs xs af 1 S (qq id)=(S1,c1)) :
 bK Tryz.prog β 8 #[.agg #[.iface 37 (vP G.w)],.int .i64 id] [wA G fs xs af S V []] (λ_ v l=>∃(V':WV) (q:{l:List aK // l.length=1/\lD fs xs af [] S l S1}),v=.tuple #[.int .i64 c1.answer,.int .i64 c1.code]/\l=[wA G fs xs af S1 V' q.1]):=
 (QF (β:=β) (G:=G) (V:=V) (tr:=[]) (S2:=S1) (c2:=c1) hrw hI d8 hZ hX hg id how hW).mono (by
  rintro _ v l _ ⟨V',jF,h1,h2,h3,h4⟩
  exact⟨V',⟨jF,h3,h4⟩,h1,h2⟩)
abbrev AY (G:WG) (h:Int) (A:Option Addr) (n pc:Nat) (mode:Int):Array Value:=#[.agg #[.iface 37 (vP G.w)],.int .i64 h,.slice A n pc,.int .i64 mode]
variable {r:Ms} {A:Option Addr} {oF:Nat} {ps:List ByteArray} {mode:Int}
theorem Yy (hc:r.code=0) (hrw:(Lit.int .i64 af).wf=true) (hI:bB S) (hn:tr.length=n) (hn2:n+4*ps.length+4<=8388607) (hZ:kK β G.Z xs) (hX:fS xs 1048576) (hg:iO β) (hE:oC β) (hw:(Lit.int .i64 h).wf=true) (hP:jg β A ps) (hpl:ps.length<=1048576) (ay:∀i,i<ps.length->(pc ps i).size<=1048576) (hr:jw fs xs af mode ps 0 S n h false 0=r) :
 bK Tryz.prog β 12 (AY G h A ps.length oF mode) [wA G fs xs af S V tr] (λ_ v l=>∃(V':WV) (q:{l:List aK // l.length=r.n/\lD fs xs af tr S l r.S}),v=.tuple #[.agg #[.int .i64 r.cur,.bool r.own,.int .i64 r.made],.nilIface]/\l=[wA G fs xs af r.S V' q.1]):=
 (GA (V0:=V) (r:=r) hrw hI hZ hX hg hE h hw A oF ps hP hpl ay d5 mode (by rw [hn];exact hr)).mono (by
  rintro _ v l _ ⟨V',jF,h1,h4,(⟨_,h2,h3⟩|⟨h2,_⟩)⟩
  ·exact⟨V',⟨jF,h1,h4⟩,h2,h3⟩
  exact KB hc h2)
theorem Vw (hc:¬r.code=0) (hrw:(Lit.int .i64 af).wf=true) (hI:bB S) (hn:tr.length=n) (hn2:n+4*ps.length+4<=8388607) (hZ:kK β G.Z xs) (hX:fS xs 1048576) (hg:iO β) (hE:oC β) (hw:(Lit.int .i64 h).wf=true) (hP:jg β A ps) (hpl:ps.length<=1048576) (ay:∀i,i<ps.length->(pc ps i).size<=1048576) (hr:jw fs xs af mode ps 0 S n h false 0=r) :
 bK Tryz.prog β 12 (AY G h A ps.length oF mode) [wA G fs xs af S V tr] (λ_ v l=>∃(V':WV) (q:{l:List aK // l.length=r.n/\lD fs xs af tr S l r.S}) (e:Nat) (nm:ByteArray),v=.tuple #[.agg #[.int .i64 0,.bool false,.int .i64 r.made],.iface 112 (vP e)]/\l=[wA G fs xs af r.S V' q.1,.aD e [.int .i64 r.at_,.string nm,.int .i64 r.code] 114]):=
 (GA (V0:=V) (r:=r) hrw hI hZ hX hg hE h hw A oF ps hP hpl ay d5 mode (by rw [hn];exact hr)).mono (by
  rintro _ v l _ ⟨V',jF,h1,h4,(⟨h2,_⟩|⟨_,e,nm,h2,h3⟩)⟩
  ·exact KB h2 hc
  exact⟨V',⟨jF,h1,h4⟩,e,nm,h2,h3⟩)
end w
def wj (G:WG):eG where
 h F w:=∃fs xs af S V tr,(gy (wP G fs xs af S V tr)).h F w
 lt:=λ⟨_,_,_,_,_,_,h⟩=>eG.lt _ h
 st:=λ⟨fs,xs,af,S,V,tr,h⟩ _ _ hk hd=>⟨fs,xs,af,S,V,tr,eG.st _ h hk hd⟩
theorem yK {G:WG}:∀F w,(wj G).h F w->w.cell? ⟨G.w,0,none⟩=some (.iface 37 (vP G.w)):=by
 rintro F w ⟨fs,xs,af,S,V,tr,h⟩
 exact Cc F w h
theorem aP.QK {β:Bs} {l:List HP} {w:World} {i:Nat} {G:WG} {fs:List ck} {xs:List cI} {af:Int} {S:aZ} {V:WV} {tr:List aK} (h:aP β l w) (hp:l[i]?=some (wA G fs xs af S V tr)):aP β (l.set i (.abs (wj G))) w:=by
 refine h.set hp (λF hF=>⟨F,⟨fs,xs,af,S,V,tr,hF⟩,?_⟩)
 exact Step.refl _ _
theorem aP.emb {β:Bs} {l l':List HP} {w:World} (f:Nat->Nat) (h:aP β l w) (hf:∀k p,l'[k]?=some p->l[f k]?=some p) (hi:∀a b,a<l'.length->b<l'.length->f a=f b->a=b):aP β l' w:=by
 obtain⟨ho,φ,h1,h2,h3⟩:=h
 have key:∀k,k<l'.length->f k<l.length:=λk hk=>by
  obtain⟨p,hp⟩:=lq hk
  exact dH (hf k p hp)
 exact⟨ho,λk=>φ (f k),λk p hp=>h1 _ p (hf k p hp),λk hk=>h2 _ (key k hk),λa b ha hb cF=>h3 _ _ (key a ha) (key b hb) (λe=>cF (hi a b ha hb e))⟩
def abk (G:WG) (l:List HP):Prop:=∃(i:Nat) (fs:List ck) (xs:List cI) (af:Int) (S:aZ) (V:WV) (tr:List aK),l[i]?=some (wA G fs xs af S V tr)
theorem abl {G:WG} {l:List HP} (i:Nat) {fs:List ck} {xs:List cI} {af:Int} {S:aZ} {V:WV} {tr:List aK} (h:l[i]?=some (wA G fs xs af S V tr)):abk G l:=⟨i,fs,xs,af,S,V,tr,h⟩
theorem afu {β:Bs} {G:WG} {Z S1:List HP} {pS:List Nat} (hn:bU pS=true) (hp:cT Z pS=some S1) (h X:List HP) (w:World) (hw:abk G h) (hS:aP β (h++(X++Z)) w):aP β (S1++[.abs (wj G)]) w:=by
 obtain⟨i,fs,xs,af,S,V,tr,hi⟩:=hw
 have hil:=dH hi
 have h1:=hS.QK (i:=i) (G:=G) (fs:=fs) (xs:=xs) (af:=af) (S:=S) (V:=V) (tr:=tr) (by rw [aiX hil];exact hi)
 rw [List.set_append_left _ _ hil] at h1
 obtain⟨hl,hx⟩:=C6 hp
 have hnd:=aiZ.1 (Ch hn)
 have hz:∀k,k<S1.length->∃p m,S1[k]?=some p/\pS[k]?=some m/\Z[m]?=some p:=λk hk=>by
  obtain⟨p,hp⟩:=lq hk
  obtain⟨m,h2,h3⟩:=hx k p hp
  exact⟨p,m,hp,h2,h3⟩
 refine aP.emb (λk=>if k<S1.length then h.length+X.length+pS.getD k 0 else i) h1 (λk p hk=>?_) (λa b ha hb e=>?_)
 ·by_cases hk1:k<S1.length
  ·obtain⟨p2,m,h2,h3,h4⟩:=hz k hk1
   rw [aiX hk1,h2] at hk
   injection hk with hk
   subst hk
   simp only [t8 hk1]
   rw [aiw,h3,aiO (by rw [T7];omega),T7,aiO d5]
   show Z[h.length+X.length+m-h.length-X.length]?=_
   rw [show h.length+X.length+m-h.length-X.length=m by omega]
   exact h4
  rw [aiO d5] at hk
  have:k-S1.length=0:=by
   have:=dH hk
   simp at this
   omega
  rw [this] at hk
  injection hk with hk
  subst hk
  simp only [nw hk1]
  rw [aiX (by rw [T7];exact hil),ai8 hil]
 simp only [T3,aiW] at ha hb
 have fX:∀k,k<S1.length->h.length+X.length+pS.getD k 0≠i:=λk hk q=>d5
 by_cases h1:a<S1.length<;>by_cases h2:b<S1.length
 ·simp only [t8 h1,t8 h2] at e
  have ga:pS.getD a 0=pS[a]'d5:=by rw [aiw,T6 d5];rfl
  have gb:pS.getD b 0=pS[b]'d5:=by rw [aiw,T6 d5];rfl
  rcases aiS a b with q|q|q
  ·exact KB (by rw [←ga,←gb];omega) (hnd a b d5 d5 q)
  ·exact q
  exact KB (by rw [←ga,←gb];omega) (hnd b a d5 d5 q)
 ·simp only [t8 h1,nw h2] at e;exact KB e (fX a h1)
 ·simp only [nw h1,t8 h2] at e;exact KB e.symm (fX b h2)
 omega
theorem bK.Tq {P:Program} {β:Bs} {f:FuncId} {args:Array Value} {pre R:List HP} {post:Bs->Value->List HP->Prop} (h:∀β':Bs,oe β R β'->bK P β' f args pre post):bK P β f args (pre++R) post:=by
 intro A w hS
 have h1:=aP.turn hS
 rw [←aiv] at h1
 obtain⟨β',g1,_,g3⟩:=h1.sF
 refine (h β' g1 A w (aP.turn g3)).mono ?_
 rintro e w' ⟨oV,v,l,dP,h2⟩
 exact⟨oV,v,l,g1.le.trans dP,h2⟩
section w
variable {β:Bs} {G:WG} {fs:List ck} {xs:List cI} {af:Int} {S:aZ} {V:WV} {tr:List aK} {n:Nat} {h:Int} {r:Ms} {A:Option Addr} {oF:Nat} {ps:List ByteArray} {mode:Int}
abbrev FL (A:Option Addr) (n c:Nat) (ps:List ByteArray):HP:=.abs (aI 9 1 A n c (kx ps))
theorem Vx (hc:r.code=0) (hrw:(Lit.int .i64 af).wf=true) (hI:bB S) (hn:tr.length=n) (hn2:n+4*ps.length+4<=8388607) (hZ:kK β G.Z xs) (hX:fS xs 1048576) (hg:iO β) (hE:oC β) (hw:(Lit.int .i64 h).wf=true) (hpl:ps.length<=1048576) (ay:∀i,i<ps.length->(pc ps i).size<=1048576) (hr:jw fs xs af mode ps 0 S n h false 0=r) :
 aU Tryz.prog β 12 (AY G h A ps.length oF mode) [wA G fs xs af S V tr,FL A ps.length oF ps] (λv l=>∃(V':WV) (q:{l:List aK // l.length=r.n/\lD fs xs af tr S l r.S}),v=.tuple #[.agg #[.int .i64 r.cur,.bool r.own,.int .i64 r.made],.nilIface]/\l=[wA G fs xs af r.S V' q.1]):=
 (bK.Tq (pre:=[wA G fs xs af S V tr]) (R:=[FL A ps.length oF ps]) λ_ hL=>by
  obtain⟨F,h1,h2⟩:=hL.get 0 rfl
  exact Yy hc hrw hI hn hn2 (hZ.le hL.le) hX (hg.le hL.le) (hE.le hL.le) hw (cq.gZ h1 h2 rfl) hpl ay hr).Pj
theorem RM (hc:¬r.code=0) (hrw:(Lit.int .i64 af).wf=true) (hI:bB S) (hn:tr.length=n) (hn2:n+4*ps.length+4<=8388607) (hZ:kK β G.Z xs) (hX:fS xs 1048576) (hg:iO β) (hE:oC β) (hw:(Lit.int .i64 h).wf=true) (hpl:ps.length<=1048576) (ay:∀i,i<ps.length->(pc ps i).size<=1048576) (hr:jw fs xs af mode ps 0 S n h false 0=r) :
 aU Tryz.prog β 12 (AY G h A ps.length oF mode) [wA G fs xs af S V tr,FL A ps.length oF ps] (λv l=>∃(V':WV) (q:{l:List aK // l.length=r.n/\lD fs xs af tr S l r.S}) (e:Nat) (nm:ByteArray),v=.tuple #[.agg #[.int .i64 0,.bool false,.int .i64 r.made],.iface 112 (vP e)]/\l=[wA G fs xs af r.S V' q.1,.aD e [.int .i64 r.at_,.string nm,.int .i64 r.code] 114]):=
 (bK.Tq (pre:=[wA G fs xs af S V tr]) (R:=[FL A ps.length oF ps]) λ_ hL=>by
  obtain⟨F,h1,h2⟩:=hL.get 0 rfl
  exact Vw hc hrw hI hn hn2 (hZ.le hL.le) hX (hg.le hL.le) (hE.le hL.le) hw (cq.gZ h1 h2 rfl) hpl ay hr).Pj
end w
section rules
variable {P:Program} {β xO:Bs} {N:fP} {ops:Array Oper} {S:List HP} {l:List (Bool×Nat)} {fr:Fr} {ay:List HP} {Q:Post} {i:Nat}
theorem av.Hz {id:Nat} (l:List (Bool×Nat)) (hm:P.follows .mixedOrders=true) (hB:CC ops l=true) (hp:∀w,aP β ay w->aP β S w) (h:eH P β N ops S l fr ay Q):av P β N (.region id ops true) fr ay Q:=by
 intro ar w hS
 unfold CC at hB
 simp only [ait,ai0] at hB
 obtain⟨⟨⟨h1,h2⟩,h3⟩,h4⟩:=hB
 have gG:=hS.drewN 1
 have h5:=zE (Q:=Q) h1 h2 l _ _ _ h4 (λj oj _ hl=>by simp [Array.getD_eq_getD_getElem?,Array.getElem?_replicate] at hl;split at hl<;>simp at hl) (.inr (hp _ gG)) (h ar (w.drewN 1) gG)
 rw [h3] at h5
 refine aiY (λe a w q=>?_) (wp_region_any hm (sY _ _ _ _ h5))
 cases e with
 |normal=>exact q
 |exit id=>exact q.elim
 |goto l=>exact q.elim
 |ret=>exact q.elim
 |panic ch=>exact q.elim
 |outgrown=>exact q.elim
theorem tI.acu {ι:Type} {B:ι->Bs} {Φ:ι->Prop} {bN:ι->Fr} {dh:ι->List HP} (dP:Grown xO β) (hg:gB ops i=true) (h:aB P β N (kY ops i) i fr ay (NP (adS β N B Φ bN dh))) (hp:∀j w,aP (B j) (dh j) w->aP (B j) S w)
 (K:∀j,β.le (B j)->Φ j->tI P (B j) xO N ops S l (bN j) (dh j) Q):tI P β xO N ops S ((false,i)::l) fr ay Q:=by
 intro ar w hS
 unfold rY
 refine sE hg (rJ (Q':=_) (λa w ⟨j,nV,hle2,GK,ha,gG⟩=>?_) _ (h ar w hS))
 subst ha
 exact⟨.inr ((dP.trans hle2).sat (hp j _ gG)),K j hle2 GK nV w gG⟩
theorem eH.ahs {ι:Type} {bN:ι->Fr} {dh:ι->List HP} (hg:gB ops i=true) (h:aB P β N (kY ops i) i fr ay (NP (Er β N bN dh))) (hp:∀j w,aP β (dh j) w->aP β S w)
 (K:∀j,eH P β N ops S l (bN j) (dh j) Q):eH P β N ops S ((false,i)::l) fr ay Q:=by
 intro ar w hS
 unfold kJ
 refine sE hg (rJ (Q':=_) (λa w ⟨j,nV,ha,gG⟩=>?_) _ (h ar w hS))
 subst ha
 exact⟨.inr (hp j _ gG),K j nV w gG⟩
end rules
noncomputable section
def oL (R:RS):Nat->List ByteArray->Except Int (Nat×ByteArray)
 |_,[]=>.error 170
 |d,[p]=>if (nd R.ns d).id∈R.aJ then .error 170 else .ok (d,p)
 |d,p::q::r=>
   if 0<=cQ R.ns d p then
    if (nd R.ns (cQ R.ns d p).toNat).kind=3 then .error 174
    else if (nd R.ns (cQ R.ns d p).toNat).kind=1 then .error 173
    else oL R (cQ R.ns d p).toNat (q::r)
   else .error 170
def mM (R:RS) (d:Nat) (path:ByteArray):Except Int (Nat×ByteArray):=if ∀p∈bQ path,bW p then oL R d (bQ path) else .error 95
def fI (R:RS) (top d:Nat) (name:ByteArray) (a:cI):RS×Int:=
 if a.op=1 then
  let m:=cG R d name ⟨0,1,420,0,0,0,0,[],⟨#[]⟩,[]⟩
  if m.2=0 then ((kZ m.1 (m.1.ns.length-1) a.text.data.toList).1,0) else (R,m.2)
 else if a.op=2 then cG R d name ⟨0,2,493,0,0,0,0,[],⟨#[]⟩,[]⟩
 else if a.op=3 then cG R d name ⟨0,3,511,0,0,0,0,[],a.text,[]⟩
 else if a.op=4 then jV R d name false
 else if a.op=5 then jV R d name true
 else if a.op=6 then match mM R top a.to with
  |.error e=>(R,e)
  |.ok (to,aG)=>jW R d name to aG
 else if 0<=cQ R.ns d name then
  if (nd R.ns (cQ R.ns d name).toNat).kind=3 then (R,174)
  else if (nd R.ns (cQ R.ns d name).toNat).kind=2 then (R,172)
  else ((kZ R (cQ R.ns d name).toNat a.text.data.toList).1,(kZ R (cQ R.ns d name).toNat a.text.data.toList).2.2)
 else (R,170)
def mh (R:RS) (af:Int) (a:cI):RS×Int:=
 if a.op<1\/a.op>7 then (R,230)
 else if 0<=gU R.ns af then
  if (nd R.ns (bZ R.ns af)).kind=2 then
   match mM R (bZ R.ns af) a.path with
   |.error e=>(R,e)
   |.ok (d,name)=>if (fI R (bZ R.ns af) d name a).2=0 then ((fI R (bZ R.ns af) d name a).1,0) else (R,(fI R (bZ R.ns af) d name a).2)
  else (R,173)
 else (R,141)
end
section i
variable {S S' S2:aZ} {g:List Int} {t u:Th} {d top k i j:Nat} {name:ByteArray} {a:cI}
theorem QL (hr:RelR S g):∀(ps:List ByteArray) (d:Nat),aS S.ax ⟨d,2⟩->oL (toR S g) (bT S ⟨d,2⟩) ps=match pV S.O d ps with|.error e=>.error e|.ok (d',n)=>.ok (bT S ⟨d',2⟩,n)
 |[],d,hd=>rfl
 |[p],d,hd=>by
   have hI:=hr.inv.toInv0
   unfold oL pV
   rw [qo hI hd]
   show (if (d:Int)∈g then _ else _)=_
   have hiff:=hr.aJ.Fy ⟨d,2⟩ hd
   by_cases h:(ah S.O d).aJ=true
   ·rw [t8 (hiff.2 h),t8 h]
   rw [nw (λq=>h (hiff.1 q)),nw h]
 |p::q::r,d,hd=>by
   have hI:=hr.inv.toInv0
   unfold oL pV
   rcases qp hr hd p with ⟨h1,h2⟩|⟨t,h1,h2,hl,hk,-⟩
   ·rw [h1,nw (by rw [h2];decide)]
   rw [h1,t8 (by rw [h2];omega),h2,aiH,qo hI hl]
   show (if t.kind=3 then _ else if t.kind=1 then _ else _)=_
   simp only
   by_cases h3:t.kind=3
   ·rw [t8 h3,t8 h3]
   rw [nw h3,nw h3]
   by_cases h4:t.kind=1
   ·rw [t8 h4,t8 h4]
   rw [nw h4,nw h4]
   have ht:t=⟨t.k,2⟩:=by
    have:t.kind=2:=d5
    rw [←this]
   rw [ht] at hl
   rw [show bT S t=bT S ⟨t.k,2⟩ by rw [←ht]]
   exact QL hr (q::r) t.k hl
theorem IW (hr:RelR S g) (hd:aS S.ax ⟨d,2⟩) (path:ByteArray):mM (toR S g) (bT S ⟨d,2⟩) path=match mV S.O d path with|.error e=>.error e|.ok (d',n)=>.ok (bT S ⟨d',2⟩,n):=by
 grind [mM,mV,bQ,bW,QL]
theorem Vy (hr:RelR S g) (hd:aS S.ax ⟨d,2⟩) (nB:(ah S.O d).aJ=false) (hgn:bW name) (text:ByteArray):∃m,m=cG (toR S g) (bT S ⟨d,2⟩) name ⟨0,1,420,0,0,0,0,[],⟨#[]⟩,[]⟩ ∧
 iK ((if m.2=0 then ((kZ m.1 (m.1.ns.length-1) text.data.toList).1,0) else (toR S g,m.2)).1,0,(if m.2=0 then ((kZ m.1 (m.1.ns.length-1) text.data.toList).1,0) else (toR S g,m.2)).2) (qQ S d name text).1 (qQ S d name text).2 0:=by
 refine⟨_,rfl,?_⟩
 have hI:=hr.inv.toInv0
 unfold qQ
 rcases Cu (n:=⟨0,1,420,0,0,0,0,[],⟨#[]⟩,[]⟩) hr hd name (λq=>KB (show (1:Int)=3 from q.1) d8) with ⟨h1,h2⟩|⟨h1,h2⟩
 rotate_left
 ·rw [h2,nw h1,nw h1];exact .bad rfl h1
 rw [h2,t8 h1]
 obtain⟨hA,hG⟩:=Lv (name:=name) (o:=dN S.X 1 420) (n:=⟨0,1,420,0,0,0,0,[],⟨#[]⟩,[]⟩) hr hd ⟨rfl,rfl,rfl,rfl,rfl⟩ ⟨rfl,rfl,rfl,rfl,rfl,rfl,rfl⟩
 have dz:bB (iw S d name (dN S.X 1 420)):=hr.inv.Gn hd nB hgn h1 (.inl rfl) ⟨d8,d8⟩ (.inl ⟨d8,rfl⟩)
 have hl1:aS (iw S d name (dN S.X 1 420)).ax ⟨dx S.X,1⟩:=(Qs hI).2.1
 rw [t8 rfl,hA]
 have hidx:(iw S d name (dN S.X 1 420)).ax=_:=Lu hI
 have hp:=nR dz.ix hl1
 have jX:(toR (iw S d name (dN S.X 1 420)) g).ns.length-1=bT (iw S d name (dN S.X 1 420)) ⟨dx S.X,1⟩:=by
  show (aV _).length-1=_
  rw [iM,hidx,T3]
  refine Kf dz.ix (by rw [hidx,T3];exact aiA _) hp.2.1 ?_
  grind [iy,tv]
 rw [jX]
 have hg:=MV (t:=⟨dx S.X,1⟩) ⟨dz,hG⟩ hl1 text.data.toList
 grind [iC,iw,dN,dx,kZ,toR,bT,aS,ah,bW,cG,iK,qQ]
theorem abm (hr:RelR S g) (ht:aS S.ax ⟨top,2⟩) (hd:aS S.ax ⟨d,2⟩) (nB:(ah S.O d).aJ=false) (hgn:bW name) (a:cI):iK ((fI (toR S g) (bT S ⟨top,2⟩) (bT S ⟨d,2⟩) name a).1,0,(fI (toR S g) (bT S ⟨top,2⟩) (bT S ⟨d,2⟩) name a).2) (nJ S top a d name).1 (nJ S top a d name).2 0:=by
 have hI:=hr.inv.toInv0
 unfold fI nJ
 by_cases h1:a.op=1
 ·rw [t8 h1,t8 h1]
  obtain⟨m,hm,h⟩:=Vy hr hd nB hgn a.text
  rw [hm] at h;exact h
 rw [nw h1,nw h1]
 by_cases h2:a.op=2
 ·rw [t8 h2,t8 h2]
  exact IU (o:=dN S.X 2 493) hr hd name (λq=>KB (show (2:Int)=3 from q.1) d8) ⟨rfl,rfl,rfl,rfl,rfl⟩ ⟨rfl,rfl,rfl,rfl,rfl,rfl,rfl⟩
 rw [nw h2,nw h2]
 by_cases h3:a.op=3
 ·grind [j4,lF,IU,dN,cG,aS,ah,bW,iK,fI,toR,bT,nJ]
 rw [nw h3,nw h3]
 by_cases h4:a.op=4
 ·grind [Yg]
 rw [nw h4,nw h4]
 by_cases h5:a.op=5
 ·grind [Yh]
 rw [nw h5,nw h5]
 by_cases h6:a.op=6
 ·rw [t8 h6,t8 h6,IW hr ht]
  rcases yw hr.inv ht a.to with ⟨e,h,he⟩|⟨to,aG,h,fw,-⟩
  ·rw [h];exact .bad rfl he
  rw [h];exact Yl hr hd fw name aG
 rw [nw h6,nw h6]
 unfold oG
 rcases qp hr hd name with ⟨h7,h8⟩|⟨t,h7,h8,hl,hk,-⟩
 ·grind [aS,ah,bW,iK,fI,toR,bT,nJ]
 rw [h7,t8 (by rw [h8];omega),h8,aiH,qo hI hl]
 grind [jZ,MV,aS,ah,bW,iK,fI,toR,bT,nJ]
theorem adG (hr:RelR S g) (af:Int) (a:cI):∃g',mh (toR S g) af a=(toR (cK S af a).2 g',(cK S af a).1)/\RelR (cK S af a).2 g':=by
 have hI:=hr.inv.toInv0
 have Hy:bB (cK S af a).2:=hr.inv.cK
 have Fk:∀{e:Int},(cK S af a).1=e->e≠0->mh (toR S g) af a=(toR S g,e)->∃g',mh (toR S g) af a=(toR (cK S af a).2 g',(cK S af a).1)/\RelR (cK S af a).2 g':=λ{e} h1 h2 h3=>by
  grind [ZV]
 by_cases h0:a.op<1\/a.op>7
 ·grind [cK,mh]
 have ha:gU (toR S g).ns af=_:=Qp hI af
 cases e:aH.get S.ax af with
 |none=>
   grind [gU,toR,cK,mh]
 |some t=>
   rw [e] at ha
   replace ha:gU (toR S g).ns af=(bT S t:Int):=ha
   obtain⟨hl,_⟩:=IQ hI e
   have Eg:bZ (toR S g).ns af=bT S t:=by unfold bZ;rw [ha];exact aiH _
   by_cases h2:t.kind=2
   rotate_left
   ·exact Fk (by unfold cK;rw [nw h0,e];exact zc Prod.fst (nw h2)) (show (173:Int)≠0 by decide) (by unfold mh;rw [nw h0,t8 (by rw [ha];omega),Eg,qo hI hl];exact nw h2)
   have ht:t=⟨t.k,2⟩:=by rw [←h2]
   have hl2:aS S.ax ⟨t.k,2⟩:=by rw [←ht];exact hl
   have hA:cK S af a=match mV S.O t.k a.path with|.error e=>(e,S)|.ok (d,name)=>nJ S t.k a d name:=by
    unfold cK;rw [nw h0,e];exact t8 h2
   have hB:mh (toR S g) af a=match mM (toR S g) (bT S ⟨t.k,2⟩) a.path with|.error e=>(toR S g,e)|.ok (d,name)=>if (fI (toR S g) (bT S ⟨t.k,2⟩) d name a).2=0 then ((fI (toR S g) (bT S ⟨t.k,2⟩) d name a).1,0) else (toR S g,(fI (toR S g) (bT S ⟨t.k,2⟩) d name a).2):=by
    unfold mh;rw [nw h0,t8 (by rw [ha];omega),Eg,qo hI hl,←ht];exact t8 h2
   rw [IW hr hl2] at hB
   rcases yw hr.inv hl2 a.path with ⟨e,h,he⟩|⟨d,name,h,hd,nB,hgn⟩
   ·rw [h] at hA hB
    exact Fk (by rw [hA]) he hB
   rw [h] at hA hB
   replace hA:cK S af a=nJ S t.k a d name:=hA
   obtain⟨e1,e2⟩:=abm hr hl2 hd nB hgn a
   by_cases hc:(nJ S t.k a d name).1=0
   ·obtain⟨g',q1,q2,_⟩:=e2 hc
    have e3:(fI (toR S g) (bT S ⟨t.k,2⟩) (bT S ⟨d,2⟩) name a).2=0:=e1.trans hc
    refine⟨g',?_,Hy,by rw [hA];exact q2⟩
    grind
   grind
end i
def Bb:Except Int (Nat×ByteArray)->Value
 |.error e=>.tuple #[.int .i64 0,.string ⟨#[]⟩,.int .i64 e]
 |.ok x=>.tuple #[.int .i64 ((x.1:Nat):Int),.string x.2,.int .i64 0]
section w
variable {R:RS} {ps:List ByteArray} {d j k:Nat}
theorem Cd {B:Option Addr} {c:Nat} (hj:j<ps.length):∀F w,(aI 9 1 B ps.length c (kx ps)).h F w->w.cell? ⟨bG B,bE B+j*1,none⟩=some (.string (pc ps j)):=
 aI.cellAt (size:=1) (j:=0) hj (by rw [Nat.mul_one];exact Ak hj)
theorem Yz (hj:j+1<ps.length) (hl:cQ R.ns d (pc ps j) = -1):oL R d (ps.drop j)=.error 170:=by
 grind [mY,cQ,pc,oL]
theorem FN (hj:j+1<ps.length) (hl:cQ R.ns d (pc ps j)=(k:Int)):oL R d (ps.drop j)=if (nd R.ns k).kind=3 then .error 174 else if (nd R.ns k).kind=1 then .error 173 else oL R k (ps.drop (j+1)):=by
 have e:(cQ R.ns d (pc ps j)).toNat=k:=by rw [hl];rfl
 grind [mY,cQ,pc,oL,nd]
theorem M7 (hj:j+1=ps.length):oL R d (ps.drop j)=if (nd R.ns d).id∈R.aJ then .error 170 else .ok (d,pc ps j):=by
 grind [mY,oL,nd,pc]
end w
end
end Go.Proofs.YtfececghhgeapaaGreatDoor
