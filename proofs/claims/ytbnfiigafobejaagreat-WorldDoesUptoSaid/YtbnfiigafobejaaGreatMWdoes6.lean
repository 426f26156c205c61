/-
  PROVED HERE: lemmas and contracts of functions (texts of this repo, joined; what the claim does not use is left out): WE, WF, UC, WA, HA, HB, WB, Wc, WC, Wd, UD, Ue, Dt, GTe, XS, Wt, XR, We, WG, Wl, Wf, WH, Wq, XD, Zg.
  CONDITIONS: as the theorems say.
-/
import Derived.Test.YtbnfiigafobejaaGreatMWdoes5
import Derived.ChangeMaps5
set_option maxRecDepth 100000
set_option maxHeartbeats 4000000
namespace Go.Proofs.YtbnfiigafobejaaGreat
section
open Go.RowKit Go.Maps bK aF
attribute [local irreducible] av bN aq aB ck
noncomputable abbrev zE1 (w)(f:Nat) (o) (au):=(.aD w [.iface 37 (vP w),vP f,.iface 108 (vP o),vI (au),.slice none (0) (0)] 79:HP)
noncomputable abbrev zE2 (o)(q:Nat) (f:Nat) (au) (am):=(.aD o [.iface 109 (vP q),vP f,vI (au),.map (some am),vI 0] 113:HP)
noncomputable abbrev Mx (b2:Nat) (au):=(.aD b2 [vI (au)] 3:HP)
noncomputable abbrev Mz (b1:Nat) (A:Option Addr) (ns:List aO) (c):=(.aD b1 [.slice A (ns.length) (c)] 24:HP)
noncomputable abbrev MB (b3:Nat) (X:FM):=(.aD b3 [vI (X.cN),vI (X.cB),vI (X.cH),vI (X.cS),vI (X.cZ)] 28:HP)
noncomputable abbrev MC (b4:Nat) (Af) (fs:List dF) (cf) (Aa) (xs:List dK) (ca):=(.aD b4 [.slice Af (fs.length) (cf),.slice Aa (xs.length) (ca)] 32:HP)
noncomputable abbrev XA (m5:Nat) (Z) (xs:List dK) (i:Nat) (an):=(.abs (bM Tryz.prog 3 m5 (kZ Z (xs.take i)) an):HP)
noncomputable abbrev SH (b6:Nat) (xs) (i:Nat):=(.aD b6 [vI ((act xs i).at_),vI ((act xs i).op),.string (act xs i).path,.string (act xs i).to,.string (act xs i).text] 68:HP)
theorem aaw {β:Bs} (A:Option Addr) (c:Nat) (ns:List aO) (Y:eV) (hG:aP β A ns Y) (hB:jZ ns 1048576) (X:FM) (au:Int) (Af:Option Addr) (cf:Nat) (fs:List dF) (hF:cC β Af (cI jb fs)) (oL:kR fs 2097152) (Aa:Option Addr) (ca:Nat) (xs:List dK) (hA:cC β Aa (cI kg xs)) (d8:lG xs 1048576) :
 cE Tryz.prog β 18 #[.agg #[.slice A (ns.length) (c)],vI (au),.agg #[vI (X.cN),vI (X.cB),vI (X.cH),vI (X.cS),vI (X.cZ)],.agg #[.slice Af (fs.length) (cf),.slice Aa (xs.length) (ca)]] [] (λβ' v l=>(fC X ns au≠0/\v=.tuple #[.pointer none,vI (fC X ns au)]/\l=[])\/(fC X ns au=0/\∃(N:DP X ns) (L:HL) (w o q f m t am an km kn:Nat) (Z:AZ),v=.tuple #[vP w,vI 0]/\l=[zE1 w f o au,zE2 o q f au am,.aD q [.iface 76 (vP f),.map (some km),vI 0] 111,.abs (bM Tryz.prog 3 am (kZ Z xs) an),.abs (bM Tryz.prog 3 km (iu fs) kn),.abs (aH 53 13 none 0 0 ([])),pF f m t N.1.X,pI m L N.1.ar,pT t N.1.X.cH N.1.aJ L N.1.us,pO N.1.O L,pD N.1.O L,pE N.1.O L]/\rP β' Z xs)):=by
 have hfl:=oL.len
 have hxl:=d8.len
 refine oI Tryz.func18 Tryz.ntmps18 (λaE R=>SR (jB 1 [4] (λb1=>.aD b1 [.slice A (ns.length) (c)] 24) (λb1=>jB 1 [5] (λb2=>.aD b2 [vI (au)] 3) (λb2=>jB 1 [6] (λb3=>.aD b3 [vI (X.cN),vI (X.cB),vI (X.cH),vI (X.cS),vI (X.cZ)] 28) (λb3=>jB 3 [7] (λb4=>.aD b4 [.slice Af (fs.length) (cf),.slice Aa (xs.length) (ca)] 32) (λb4=>NN (aq.seq ?_)))))))
 by_cases lH:kK X/\cA ns
 ·refine aq.region (jK 2 [21,22] [(0,a_ 1 b1),(1,A_ 3 b3 5)] (gL [] (aat (β:=β) lH.1 lH.2 A c hG hB) ?_))
  rintro _ _ ⟨N,f,m,t,L,rfl,rfl⟩
  refine jK 5 [10,11] [] (NZ (jK 2 [27] [] (NF (KX (aq.seq ?_)))))
  rcases Qi ns au with ⟨r,hr⟩|iP
  ·have hr1:r<ns.length:=hr.1
   refine aq.region (jK 3 [30,31] [(1,a_ 7 b1)] (gE [8] (Xz (β:=β) hr A c hG hB b2) (jK 1 [12] [] (NZ (jK 2 [34] [(1,wF (((r:Int):Int)<(0:Int)))] (NF (KX (SQ (jK 7 [41] [(1,a_ 8 b1),(3,x_ r ns.length (aP.hd hG (i:=r) zc)),(5,r_ (aP.rd hG (i:=r) zc (j:=1) rfl))] (NN (cN (((nd ns r).kind:Int)=(2:Int)) (λAB=>SR (jK 2 [8,9] [] (eO (v:=(.tuple #[.pointer none,vI 173])) [] aE (.inl ⟨by rw [zk lH.1 lH.2 hr AB];decide,by rw [zk lH.1 lH.2 hr AB],rfl⟩) [7]))) (λAB=>KX (SR (av.tj (d:=(some 42)) (t:=106) (λ_=>KB) Tryz.prog rfl 3 (λm5=>jK 1 [13] [] (NZ (av.cL 11 (p':=.abs (bM Tryz.prog 3 m5 (kZ AZ.none (xs.take 0)) 0)) rfl (agX (λf=>HP.abs (bM Tryz.prog 3 _ f 0)) YT.symm) (av.mem (fe:=[Mx b2 au,pF f m t N.1.X,pI m L N.1.ar,pT t N.1.X.cH N.1.aJ L N.1.us,pO N.1.O L,pD N.1.O L,pE N.1.O L,.abs R,Mz b1 A ns c,MB b3 X,MC b4 Af fs cf Aa xs ca,.abs (bM Tryz.prog 3 m5 (kZ AZ.none (xs.take 0)) 0),.abs (aY (tP AZ.none (xs.take 0)))]) (λw hS=>hS.adn) (jK 4 [44,45,46] [(1,a_ 10 b4)] (NN (aq.block (lJ (ι:=Nat×AZ×Nat) (λ(i,Z,an)=>(i<=xs.length)/\(an<=i)) (λ(i,Z,an)=>xs.length-i) (λ(i,Z,an)=>[(5,vP b2),(7,vP b4),(10,vP f),(13,.map (some m5)),(44,.slice Aa (xs.length) (ca)),(45,vI ↑xs.length),(46,vI ↑i)]) (λ(i,Z,an)=>[Mx b2 au,pF f m t N.1.X,pI m L N.1.ar,pT t N.1.X.cH N.1.aJ L N.1.us,pO N.1.O L,pD N.1.O L,pE N.1.O L,Mz b1 A ns c,MB b3 X,MC b4 Af fs cf Aa xs ca,XA m5 Z xs i an,.abs (aY (tP Z (xs.take i))),.abs R]) (0,AZ.none,0) [0,1,2,3,4,5,6,8,9,10,11,12,7] (⟨ag0 _,ag5 _⟩) ?_))))))))))))))))))))))
   rintro⟨i,Z,an⟩ ⟨hi,han⟩
   refine SR (jK 1 [47] [] (NN (aq.seq (cP ((((i:Nat):Int):Int)<(((xs.length:Nat):Int):Int)) (λRn=>?_) (λRn=>?_)))))
   ·refine KX (aq.seq (aq.block (SR (jN 4 [15] (λb6=>[(0,x_ i xs.length (M5 hA (i:=i) zc)),(1,p_ ⟨[.old (.int .i64 ((act xs i).at_)),.old (.int .i64 ((act xs i).op)),.old (.string (act xs i).path),.old (.string (act xs i).to),.old (.string (act xs i).text)],none,none,none,none⟩ [(Rd β ⟨(bw Aa),br Aa+i*5+4,none⟩ (.string (act xs i).text)),(Rd β ⟨(bw Aa),br Aa+i*5+3,none⟩ (.string (act xs i).to)),(Rd β ⟨(bw Aa),br Aa+i*5+2,none⟩ (.string (act xs i).path)),(Rd β ⟨(bw Aa),br Aa+i*5+1,none⟩ (vI ((act xs i).op))),(Rd β ⟨(bw Aa),br Aa+i*5,none⟩ (vI ((act xs i).at_)))] ⟨qK hA (i:=i) zc (j:=4) rfl,qK hA (i:=i) zc (j:=3) rfl,qK hA (i:=i) zc (j:=2) rfl,qK hA (i:=i) zc (j:=1) rfl,qK hA (i:=i) zc (j:=0) rfl,trivial⟩),(3,A_ 13 b6 5)]) (λ_=>[]) (λb6=>.aD b6 [vI ((act xs i).at_),vI ((act xs i).op),.string (act xs i).path,.string (act xs i).to,.string (act xs i).text] 68) (λb6=>NN (rM (List.range 11) 8 [10,13] (jR 6 [5,7,10,13,15,44,45,46,50,52,53,55] [(2,a_ 1 b6),(5,a_ 1 b6)] (ck.je 0 (d:=(some 56)) (t:=106) (K:=3) (E:=30) (b:=m5) (cnt:=an) (f:=(kZ Z (xs.take i))) (x:=(.tmp 53)) (ix:=(.tmp 55)) (key:=vI ((act xs i).at_)) (z:=.slice none (0) (0)) (kl:=(Lit.int IntKind.i64 (act xs i).at_)) (q:=(kZ Z (xs.take i) (Lit.int IntKind.i64 (act xs i).at_))) KB KB (λ_=>KB) (λ_=>KB) iU Tryz.underlying106 (λ_=>KB) (mA (d8.at zc).aw) (rfl) (by rw [Hy];rfl) (jR 1 [5,7,10,13,44,45,46,50,52,56,57] [(0,A_ 1 b6 5)] (mN [10,13] (λb7=>[(58,.slice (some ⟨b7,0,none⟩) (1) (1))]) (λ_=>[]) (λb7=>.aD b7 [vI ((act xs i).at_),vI ((act xs i).op),.string (act xs i).path,.string (act xs i).to,.string (act xs i).text] 68) (λb7=>ck.cut (ι:=(Option Addr)×Nat) (bU:=λ((A8,c9):(Option Addr)×Nat)=>[(5,vP b2),(7,vP b4),(10,vP f),(13,.map (some m5)),(44,.slice Aa (xs.length) (ca)),(45,vI ↑xs.length),(46,vI ↑i),(50,.map (some m5)),(52,vI ((act xs i).at_)),(59,.slice A8 (((dO (xs.take i) (act xs i).at_).length+1)) (c9))]) (dI:=λ((A8,c9):(Option Addr)×Nat)=>[Mx b2 au,pF f m t N.1.X,pI m L N.1.ar,pT t N.1.X.cH N.1.aJ L N.1.us,pO N.1.O L,pD N.1.O L,pE N.1.O L,Mz b1 A ns c,MB b3 X,MC b4 Af fs cf Aa xs ca,XA m5 Z xs i an,.abs (aY (nR (tP Z (xs.take i)) (zz (act xs i).at_) eH.none)),.abs R,SH b6 xs i,SH b7 xs i,.abs (aH 68 5 A8 ((dO (xs.take i) (act xs i).at_).length+1) c9 (cI kg (dO (xs.take i) (act xs i).at_)++kg (act xs i)))]) [10,13] rfl rfl ?_ rfl (λ_=>KB) ?_)))))))))))
    ·refine sl 56 (((kZ Z (xs.take i) (Lit.int IntKind.i64 (act xs i).at_)).getD (.slice none 0 0))) (.slice (aA Z (xs.take i) (act xs i).at_) ((dO (xs.take i) (act xs i).at_).length) ((aC Z (xs.take i) (act xs i).at_))) (Hy) (av.mem (fe:=[Mx b2 au,pF f m t N.1.X,pI m L N.1.ar,pT t N.1.X.cH N.1.aJ L N.1.us,pO N.1.O L,pD N.1.O L,pE N.1.O L,Mz b1 A ns c,MB b3 X,MC b4 Af fs cf Aa xs ca,XA m5 Z xs i an,.abs (aY (nR (tP Z (xs.take i)) (zz (act xs i).at_) eH.none)),.abs R,SH b6 xs i,SH b7 xs i,.abs (aH 68 5 (aA Z (xs.take i) (act xs i).at_) ((dO (xs.take i) (act xs i).at_).length) (aC Z (xs.take i) (act xs i).at_) (cI kg (dO (xs.take i) (act xs i).at_)))]) (λw hS=>hS.ab1 (i:=11) rfl (act xs i).at_) ?_)
     have hay:(dO (xs.take i) (act xs i).at_).length<=1048576:=ag1 (Jk _) (by rw [ahi];omega)
     exact mR 15 30 (some ⟨b7,0,none⟩) 1 1 [vI ((act xs i).at_),vI ((act xs i).op),.string (act xs i).path,.string (act xs i).to,.string (act xs i).text] rfl (fP (j:=14) rfl) (λA8 c9=>av.cL 15 (p':=.abs (aH 68 5 A8 ((dO (xs.take i) (act xs i).at_).length+1) c9 (cI kg (dO (xs.take i) (act xs i).at_)++kg (act xs i)))) rfl (rfl) (sl 59 (.slice A8 (((dO (xs.take i) (act xs i).at_).length)+1) (c9)) (.slice A8 (((dO (xs.take i) (act xs i).at_).length+1)) (c9)) (rfl) (NL (MD (A8,c9) [5,7,10,13,44,45,46,50,52,59] [0,1,2,3,4,5,6,7,8,9,10,11,12,13,14,15]))))
    rintro⟨A8,c9⟩
    exact ck.last rfl rfl (av.mem (fe:=[.abs (aY (tP (Z.put (act xs i).at_ A8 c9) (xs.take (i+1)))),Mx b2 au,pF f m t N.1.X,pI m L N.1.ar,pT t N.1.X.cH N.1.aJ L N.1.us,pO N.1.O L,pD N.1.O L,pE N.1.O L,Mz b1 A ns c,MB b3 X,MC b4 Af fs cf Aa xs ca,XA m5 Z xs i an,.abs R,SH b6 xs i,SH b7 xs i]) (λw hS=>by rw [Dr zc];exact hS.ado (i:=11) (j:=15) (ar:=[0,1,2,3,4,5,6,7,8,9,10,12,13,14]) rfl rfl KB rfl) (av.qO 11 (d:=none) (t:=106) (K:=3) (E:=30) (b:=m5) (n:=an) (f:=(kZ Z (xs.take i))) (x:=(.tmp 50)) (ix:=(.tmp 52)) (y:=(.tmp 59)) (key:=vI ((act xs i).at_)) (u:=.slice A8 (((dO (xs.take i) (act xs i).at_).length+1)) (c9)) (kl:=(Lit.int IntKind.i64 (act xs i).at_)) (n':=(if (kZ Z (xs.take i) (Lit.int IntKind.i64 (act xs i).at_)).isSome then an else an+1)) (f':=(kZ (Z.put (act xs i).at_ A8 c9) (xs.take (i+1)))) (λ_=>KB) KB (λ_=>KB) (λ_=>KB) (λ_=>KB) iU Tryz.underlying106 (by unfold maxLen;omega) (mA (d8.at zc).aw) (rfl) (by rw [Dr zc];exact YU) (NL (aB.np (BX (aq.region (jK 2 [46] [(0,wJ ((i:Int)+1) (↑(i+1)))] (NL (tJ ((i+1),(Z.put (act xs i).at_ A8 c9),(if (kZ Z (xs.take i) (Lit.int IntKind.i64 (act xs i).at_)).isSome then an else an+1)) [1,2,3,4,5,6,7,8,9,10,11,0,12] (⟨zc,by split<;>omega⟩))))))))))
   refine XX (SR (av.mQ (Φ:=λβ'=>rP β' Z xs) 11 [0,1,2,3,4,5,6,7,8,9,10,12] (fe:=[Mx b2 au,pF f m t N.1.X,pI m L N.1.ar,pT t N.1.X.cH N.1.aJ L N.1.us,pO N.1.O L,pD N.1.O L,pE N.1.O L,Mz b1 A ns c,MB b3 X,MC b4 Af fs cf Aa xs ca,XA m5 Z xs i an,.abs R]) rfl rfl KB (λF w h β' h1 h2=>rP.of (by rw [show xs.take i=xs by rw [show i=xs.length by omega,ahl]] at h;exact h) h1 h2) (λPV qF hZ=>?_)))
   replace hF:=hF.le qF
   replace aE:=aE.trans qF
   refine av.cL 10 (p:=.abs (bM Tryz.prog 3 m5 (kZ Z (xs.take i)) an)) (p':=.abs (bM Tryz.prog 3 m5 (kZ Z xs) an)) KB (by rw [show xs.take i=xs by rw [show i=xs.length by omega,ahl]]) (av.tj (d:=(some 61)) (t:=107) (λ_=>KB) Tryz.prog rfl 3 (λm11=>jK 1 [16] [] (NZ (av.cL 12 (p':=.abs (bM Tryz.prog 3 m11 (iu (fs.take 0)) 0)) rfl (agX (λf=>HP.abs (bM Tryz.prog 3 _ f 0)) VR.symm) (jK 4 [63,64,65] [(1,a_ 9 b4)] (NN (aq.block (lJ (ι:=Nat×Nat) (λ(j,kn)=>(j<=fs.length)/\(kn<=j)) (λ(j,kn)=>fs.length-j) (λ(j,kn)=>[(5,vP b2),(10,vP f),(13,.map (some m5)),(16,.map (some m11)),(63,.slice Af (fs.length) (cf)),(64,vI ↑fs.length),(65,vI ↑j)]) (λ(j,kn)=>[Mx b2 au,pF f m t N.1.X,pI m L N.1.ar,pT t N.1.X.cH N.1.aJ L N.1.us,pO N.1.O L,pD N.1.O L,pE N.1.O L,Mz b1 A ns c,MB b3 X,MC b4 Af fs cf Aa xs ca,.abs (bM Tryz.prog 3 m5 (kZ Z xs) an),.abs (bM Tryz.prog 3 m11 (iu (fs.take j)) kn),.abs R]) (0,0) [0,1,2,3,4,5,6,7,8,9,10,12,11] (⟨ag0 _,ag5 _⟩) ?_))))))))
   rintro⟨j,kn⟩ ⟨hj,hkn⟩
   refine SR (jK 1 [66] [] (NN (aq.seq (cP ((((j:Nat):Int):Int)<(((fs.length:Nat):Int):Int)) (λl6=>KX (aq.seq (aq.block (SR (jN 4 [18] (λb12=>[(0,x_ j fs.length (aaP hF (i:=j) zc)),(1,r2 (M6 hF (i:=j) zc (j:=0) rfl) (M6 hF (i:=j) zc (j:=1) rfl)),(3,A_ 13 b12 2)]) (λ_=>[]) (λb12=>.aD b12 [vI ((pq fs j).at_),vI ((pq fs j).kind)] 66) (λb12=>NS (jK 4 [72] [(1,a_ 13 b12)] (sP 72 (((pq fs j).kind:Int)>=(1:Int)) (λh72=>jK 5 [77] [(1,a_ 13 b12)] (sP 77 (((pq fs j).kind:Int)<=(3:Int)) (λh77=>jK 3 [78,80] [(2,a_ 13 b12)] (av.je 11 (d:=(some 81)) (t:=107) (K:=3) (E:=3) (b:=m11) (n:=kn) (f:=(iu (fs.take j))) (x:=(.tmp 78)) (ix:=(.tmp 80)) (key:=vI ((pq fs j).at_)) (z:=.int .i64 0) (kl:=(Lit.int IntKind.i64 (pq fs j).at_)) (r:=(iu (fs.take j) (Lit.int IntKind.i64 (pq fs j).at_))) (λ_=>KB) KB (λ_=>KB) (λ_=>KB) iU Tryz.underlying107 (λ_=>KB) (mA (oL.at zc)) (rfl) (sl 81 (((iu (fs.take j) (Lit.int IntKind.i64 (pq fs j).at_)).getD (.int .i64 0))) (.int .i64 ((iM (fs.take j) (pq fs j).at_))) (LH) (jK 2 [83] [] (NN (cP (((iM (fs.take j) (pq fs j).at_):Int)=(0:Int)) (λh83=>aq.region (jK 5 [84,86,88] [(2,a_ 13 b12),(4,a_ 13 b12)] (av.qO 11 (d:=none) (t:=107) (K:=3) (E:=3) (b:=m11) (n:=kn) (f:=(iu (fs.take j))) (x:=(.tmp 84)) (ix:=(.tmp 86)) (y:=(.tmp 88)) (key:=vI ((pq fs j).at_)) (u:=.int .i64 ((pq fs j).kind)) (kl:=(Lit.int IntKind.i64 (pq fs j).at_)) (n':=(if (iu (fs.take j) (Lit.int IntKind.i64 (pq fs j).at_)).isSome then kn else kn+1)) (f':=(iu (fs.take (j+1)))) (λ_=>KB) KB (λ_=>KB) (λ_=>KB) (λ_=>KB) iU Tryz.underlying107 (by unfold maxLen;omega) (mA (oL.at zc)) (rfl) (by rw [wu zc];exact VS ⟨zc,zc⟩ zc) (LX (aq.region (jK 2 [65] [(0,wJ ((j:Int)+1) (↑(j+1)))] (NL (tJ ((j+1),(if (iu (fs.take j) (Lit.int IntKind.i64 (pq fs j).at_)).isSome then kn else kn+1)) [0,1,2,3,4,5,6,7,8,9,10,11,12] (⟨zc,by split<;>omega⟩))))))))) (λh83=>KX (aq.region (av.cL 11 (p:=.abs (bM Tryz.prog 3 m11 (iu (fs.take j)) kn)) (p':=.abs (bM Tryz.prog 3 m11 (iu (fs.take (j+1))) kn)) KB (by rw [wu zc,Dq];unfold FK;omega) (jK 2 [65] [(0,wJ ((j:Int)+1) (↑(j+1)))] (NL (tJ ((j+1),kn) [0,1,2,3,4,5,6,7,8,9,10,11,12] (⟨zc,zc⟩))))))))))))) (λh77=>jK 4 [81] [] (jK 2 [83] [] (NF (KX (aq.region (av.cL 11 (p:=.abs (bM Tryz.prog 3 m11 (iu (fs.take j)) kn)) (p':=.abs (bM Tryz.prog 3 m11 (iu (fs.take (j+1))) kn)) KB (by rw [wu zc,Dq];unfold FK;omega) (jK 2 [65] [(0,wJ ((j:Int)+1) (↑(j+1)))] (NL (tJ ((j+1),kn) [0,1,2,3,4,5,6,7,8,9,10,11,12] (⟨zc,zc⟩)))))))))))) (λh72=>jK 9 [77,81] [] (jK 2 [83] [] (NF (KX (aq.region (av.cL 11 (p:=.abs (bM Tryz.prog 3 m11 (iu (fs.take j)) kn)) (p':=.abs (bM Tryz.prog 3 m11 (iu (fs.take (j+1))) kn)) KB (by rw [wu zc,Dq];unfold FK;omega) (jK 2 [65] [(0,wJ ((j:Int)+1) (↑(j+1)))] (NL (tJ ((j+1),kn) [0,1,2,3,4,5,6,7,8,9,10,11,12] (⟨zc,zc⟩)))))))))))))))))) (λl6=>?_)))))
   exact XX (SR (av.cL 11 (p:=.abs (bM Tryz.prog 3 m11 (iu (fs.take j)) kn)) (p':=.abs (bM Tryz.prog 3 m11 (iu fs) kn)) KB (by rw [show fs.take j=fs by rw [show j=fs.length by omega,ahl]]) (jN 5 [19] (λb13=>[(1,a_ 0 b2)]) (λ_=>[]) (λb13=>.aD b13 [.nilIface,vP f,.nilIface,vI (au),.slice none (0) (0)] 79) (λb13=>NS (jN 11 [94,104] (λb14=>[(8,a_ 0 b2)]) (λ_=>[]) (λb14=>.aD b14 [.iface 76 (vP f),.map (some m11),vI 0] 111) (λb14=>jN 5 [] (λb15=>[(4,a_ 13 b13)]) (λb15=>[(13,[(2,.iface 108 (vP b15))])]) (λb15=>.aD b15 [.iface 109 (vP b14),vP f,vI (au),.map (some m5),vI 0] 113) (λb15=>NS (jK 3 [109,111] [] (gE [] (aej b13) (jC 3 [] [(2,a_ 13 b13)] [(13,[(0,.iface 37 (vP b13))])] (NS (jK 3 [8,9] [] (NN (aq.ret (aB.mem (fe:=[Mx b2 au,pF f m t N.1.X,pI m L N.1.ar,pT t N.1.X.cH N.1.aJ L N.1.us,pO N.1.O L,pD N.1.O L,pE N.1.O L,Mz b1 A ns c,MB b3 X,MC b4 Af fs cf Aa xs ca,.abs (bM Tryz.prog 3 m5 (kZ Z xs) an),.abs (bM Tryz.prog 3 m11 (iu fs) kn),.abs R,zE1 b13 f b15 au,.aD b14 [.iface 76 (vP f),.map (some m11),vI 0] 111,zE2 b15 b14 f au m5,.abs (aH 53 13 none 0 0 ([]))]) (λw hS=>hS.mB (e:=53) (size:=13)) (rB (.tuple #[vP b13,vI 0]) [] [13,15,14,10,11,16,1,2,3,4,5,6,12] aE (.inr ⟨DN lH.1 lH.2 hr AB,N,L,b13,b15,b14,f,m,t,m5,an,m11,kn,Z,rfl,rfl,hZ⟩)))))))))))))))))
  exact aq.region (jK 3 [30,31] [(1,a_ 7 b1)] (gE [8] (aav (β:=β) iP A c hG hB b2) (jK 1 [12] [] (NZ (jK 2 [34] [] (NT (SR (jK 2 [8,9] [] (eO (v:=(.tuple #[.pointer none,vI 141])) [] aE (.inl ⟨by rw [xk lH.1 lH.2 iP];decide,by rw [xk lH.1 lH.2 iP],rfl⟩) [7])))))))))
 exact aq.region (jK 2 [21,22] [(0,a_ 1 b1),(1,A_ 3 b3 5)] (gE [] (aau (β:=β) (au:=au) lH A c hG hB) (jK 5 [10,11] [] (NZ (jK 2 [27] [] (NN (cN (((fC X ns au):Int)=(0:Int)) (λxE=>SR (jK 3 [8,9] [] (eO (v:=(.tuple #[.pointer none,vI ((fC X ns au))])) [] aE (.inl ⟨DQ lH,rfl,rfl⟩)))) (λxE=>agY xE (DQ lH)))))))))
end
section
open Go.RowKit Go.Maps bK aF
attribute [local irreducible] av bN aq aB
noncomputable abbrev zF1 (w)(f:Nat) (o) (au) (tA) (tr:List aN) (tC):=(.aD w [.iface 37 (vP w),vP f,.iface 108 (vP o),vI (au),.slice tA (tr.length) (tC)] 79:HP)
noncomputable abbrev zF2 (o)(q:Nat) (f:Nat) (au) (am) (tr:List aN):=(.aD o [.iface 109 (vP q),vP f,vI (au),.map (some am),vI (((tr.length:Nat):Int))] 113:HP)
noncomputable abbrev zF3 (q:Nat) (f:Nat) (km) (tr:List aN):=(.aD q [.iface 76 (vP f),.map (some km),vI (((tr.length:Nat):Int))] 111:HP)
noncomputable abbrev zF4 (am)(Z)(xs)(an):=(.abs (bM Tryz.prog 3 am (kZ Z xs) an):HP)
noncomputable abbrev zF5 (km)(fs)(kn):=(.abs (bM Tryz.prog 3 km (iu fs) kn):HP)
noncomputable abbrev SI (tA)(tr:List aN) (tC):=(.abs (aH 53 13 tA tr.length tC (cI aQ tr)):HP)
noncomputable abbrev zF7 (t)(S:bB) (L:HL):=(pT t S.X.cH S.aJ L S.us:HP)
noncomputable abbrev GR (w)(f:Nat) (o) (au) (tA) (tr) (tC) (q:Nat) (am) (km) (Z) (xs) (an) (fs) (kn) (m:Nat) (t) (S:bB) (L:HL):=([zF1 w f o au tA tr tC,zF2 o q f au am tr,zF3 q f km tr,zF4 am Z xs an,zF5 km fs kn,SI tA tr tC,pF f m t S.X,pI m L S.ar,zF7 t S L,pO S.O L,pD S.O L,pE S.O L]:List HP)
theorem UI {β:Bs} (S:bB) (L:HL) (w o q f m t am an km kn:Nat) (Z:AZ) (fs:List dF) (xs:List dK) (au:Int) (tr:List aN) (tA:Option Addr) (tC:Nat)  :
 aW Tryz.prog β 29 #[vP w] (GR w f o au tA tr tC q am km Z xs an fs kn m t S L) (λv l=>v=vI (tr.length:Int)/\l=(GR w f o au tA tr tC q am km Z xs an fs kn m t S L)):=by
 exact SE Tryz.func29 Tryz.ntmps29 (λR=>SR (jK 1 [] [] (NS (jK 6 [2] [(3,a_ 0 w)] (eN (v:=(vI ↑tr.length)) ⟨rfl,rfl⟩)))))
theorem XB {β:Bs} (S:bB) (L:HL) (w o q f m t am an km kn:Nat) (Z:AZ) (fs:List dF) (xs:List dK) (au:Int) (tr:List aN) (tA:Option Addr) (tC:Nat)  :
 aW Tryz.prog β 40 #[vP w] (GR w f o au tA tr tC q am km Z xs an fs kn m t S L) (λv l=>v=vI (S.us.length:Int)/\l=(GR w f o au tA tr tC q am km Z xs an fs kn m t S L)):=by
 refine SE Tryz.func40 Tryz.ntmps40 (λR=>SR (jK 1 [] [] (NS (jK 4 [6] [(3,a_ 0 w)] (gL [6,8] (Xr S L f m t) ?_)))))
 rintro _ _ ⟨Ah,ch,rfl,rfl⟩
 exact jK 2 [2] [] (eN (v:=(vI ↑S.us.length)) ⟨rfl,rfl⟩ [3,4,5,6,7,8,0,9,1,10,11,12,13])
theorem XC {β:Bs} (S:bB) (L:HL) (w o q f m t am an km kn:Nat) (Z:AZ) (fs:List dF) (xs:List dK) (au:Int) (tr:List aN) (tA:Option Addr) (tC:Nat)  :
 aW Tryz.prog β 41 #[vP w] (GR w f o au tA tr tC q am km Z xs an fs kn m t S L) (λv l=>v=vI S.aJ/\l=(GR w f o au tA tr tC q am km Z xs an fs kn m t S L)):=by
 exact SE Tryz.func41 Tryz.ntmps41 (λR=>SR (jK 1 [] [] (NS (jK 4 [6] [(3,a_ 0 w)] (gE [6,8] (aai S L f m t) (jK 1 [2] [] (eN (v:=(vI (S.aJ))) ⟨rfl,rfl⟩ [2,3,4,5,6,7,0,8,1,9,10,11,12])))))))
theorem UJ {β:Bs} (S:bB) (L:HL) (w o q f m t am an km kn:Nat) (Z:AZ) (fs:List dF) (xs:List dK) (au:Int) (tr:List aN) (tA:Option Addr) (tC:Nat) (hI:bR S) :
 aW Tryz.prog β 30 #[vP w] (GR w f o au tA tr tC q am km Z xs an fs kn m t S L) (λv l=>∃A cp K,v=.agg #[.slice A (aX S).length cp]/\l=(GR w f o au tA tr tC q am km Z xs an fs kn m t S L)++[.abs (aH 95 10 A (aX S).length cp (bG K (aX S))),.abs (kE (qY (aX S) K) (aX S).length),.abs (kE (kY (aX S) K) (aX S).length)]):=by
 refine SE Tryz.func30 Tryz.ntmps30 (λR=>SR (jB 1 [2] (λb1=>.aD b1 [.slice none (0) (0)] 24) (λb1=>NS (jK 4 [6] [(3,a_ 0 w)] (gL [6,7,9,10,11] (Xp S L f m t hI) ?_)))))
 rintro _ _ ⟨Ao,cp,K,rfl,rfl⟩
 exact jC 1 [] [(0,a_ 16 b1)] [(16,[(0,.slice Ao ((aX S).length) (cp))])] (eS (v:=(.agg #[.slice Ao ((aX S).length) (cp)])) [a_ 16 b1] ⟨Ao,cp,K,rfl,rfl⟩ [8,9,10,11,12,13,0,1,14,2,3,4,5,6,7,15])
theorem yG {β:Bs} (Af:Option Addr) (cf:Nat) (fs:List dF) (hF:cC β Af (cI jb fs)) (hfl:fs.length<=2097152) (Aa:Option Addr) (ca:Nat) (xs:List dK) (hA:cC β Aa (cI kg xs)) (hxl:xs.length<=2097152) :
 aW Tryz.prog β 17 #[.agg #[.slice Af (fs.length) (cf),.slice Aa (xs.length) (ca)]] [] (λv l=>∃B b C c,v=.agg #[.slice B fs.length b,.slice C xs.length c]/\l=[.abs (aH 66 2 B fs.length b (cI jb fs)),.abs (aH 68 5 C xs.length c (cI kg xs))]):=by
 exact SE Tryz.func17 Tryz.ntmps17 (λR=>SR (jB 1 [1] (λb2=>.aD b2 [.slice Af (fs.length) (cf),.slice Aa (xs.length) (ca)] 32) (λb2=>jB 1 [2] (λb3=>.aD b3 [.slice none (0) (0),.slice none (0) (0)] 32) (λb3=>NS (jB 2 [3] (λb4=>.aD b4 [] 66) (λb4=>NS (av.mem (λw hS=>hS.ou (i:=3) (b:=b4) (cs:=[]) (e:=66) 2 0 KB rfl Pd) (jK 3 [6,8] [(2,a_ 1 b2)] (mR 3 29 Af fs.length cf (cI jb fs) rfl (hF.src) (λA5 c6=>av.cL 3 (p:=.abs (aH 66 2 A5 (0+fs.length) c6 ([]++(cI jb fs)))) (p':=.abs (aH 66 2 A5 fs.length c6 (cI jb fs))) KB (by rw [ahd,List.nil_append]) (sl 9 (.slice A5 (0+fs.length) (c6)) (.slice A5 (fs.length) (c6)) (by rw [ahd]) (jK 1 [3] [] (NS (jB 2 [4] (λb7=>.aD b7 [] 68) (λb7=>NS (av.mem (λw hS=>hS.ou (i:=4) (b:=b7) (cs:=[]) (e:=68) 5 0 KB rfl Pd) (jK 3 [11,13] [(2,a_ 1 b2)] (mR 4 30 Aa xs.length ca (cI kg xs) rfl (hA.src) (λA8 c9=>av.cL 4 (p:=.abs (aH 68 5 A8 (0+xs.length) c9 ([]++(cI kg xs)))) (p':=.abs (aH 68 5 A8 xs.length c9 (cI kg xs))) KB (by rw [ahd,List.nil_append]) (sl 14 (.slice A8 (0+xs.length) (c9)) (.slice A8 (xs.length) (c9)) (by rw [ahd]) (jK 1 [4] [] (NS (jC 4 [] [(3,A_ 2 b3 2)] [(2,[(0,.slice A5 (fs.length) (c6)),(1,.slice A8 (xs.length) (c9))])] (eS (v:=(.agg #[.slice A5 (fs.length) (c6),.slice A8 (xs.length) (c9)])) [A_ 2 b3 2] ⟨A5,c6,A8,c9,rfl,rfl⟩ [3,4,0])))))) (hl:=ye (f:=kg) (s:=5) (λ_=>rfl) _) (h1:=xA (YS) _ _)))))))))) (hl:=ye (f:=jb) (s:=2) (λ_=>rfl) _) (h1:=xA (TL) _ _))))))))))
theorem aek {β:Bs} (A:Option Addr) (c:Nat) (xs:List aN) (hc:xs.length<=c) :
 aW Tryz.prog β 9 #[.slice A xs.length c] [] (λv l=>∃n,n<=xs.length/\n<=300/\v=.slice A n c/\l=[]):=by
 exact SE Tryz.func9 Tryz.ntmps9 (λR=>SR (jK 1 [] [] (NZ (jK 3 [5] [] (NN (cP ((((xs.length:Nat):Int):Int)>(300:Int)) (λh5=>SR (jK 3 [2] [(1,p_ ⟨[],some 300,none,none,none⟩ [300=((300:Nat):Int),300<=c] ⟨rfl,zc,trivial⟩)] (eN (v:=(.slice A (300) (c))) ⟨300,zc,Pd,rfl,rfl⟩))) (λh5=>KX (zR (v:=(.slice A (xs.length) (c))) ⟨xs.length,ag5 _,zc,rfl,rfl⟩))))))))
end
section
open Go.RowKit Go.Maps bK aF
attribute [local irreducible] av bN aq aB ck
theorem SJ {β:Bs} {X:FM} {ns:List aO} {Y:eV} {fs:List dF} {xs:List dK} {Af Aa:Option Addr} (A:Option Addr) (c:Nat) (hG:aP β A ns Y) (hB:jZ ns 1048576) (au:Int) (cf:Nat) (hF:cC β Af (cI jb fs)) (oL:kR fs 2097152) (ca:Nat) (hA:cC β Aa (cI kg xs)) (d8:lG xs 1048576) :
 cE Tryz.prog β 8 #[.agg #[.slice A (ns.length) (c)],vI (au),.agg #[vI (X.cN),vI (X.cB),vI (X.cH),vI (X.cS),vI (X.cZ)],.agg #[.slice Af (fs.length) (cf),.slice Aa (xs.length) (ca)]] [] (λβ' v l=>(fC X ns au≠0/\v=.tuple #[.agg ⟨uZ⟩,vI (fC X ns au)]/\l=[])\/(fC X ns au=0/\∃B cp K U,v=.tuple #[.agg #[.slice B (ns.length) (cp),.slice none (0) (0),vI (X.cH),vI 0,.slice none (0) (0),.slice none (0) (0),vI (X.cN),vI (X.cB),vI (X.cH),vI (X.cS),vI (X.cZ),vI ((if ns.length=0 then 0 else (nd ns (ns.length-1)).id)),vI (au),.slice U.A (fs.length) (U.a),.slice U.B (xs.length) (U.b),vI 0],vI 0]/\l=[]/\aP β' B ns K/\Mw β' U fs xs)):=by
 have hnl:=vw hB
 refine oI Tryz.func8 Tryz.ntmps8 (λaE R=>SR (jB 1 [4] (λb1=>.aD b1 [.slice A (ns.length) (c)] 24) (λb1=>jB 1 [6] (λb2=>.aD b2 [vI (X.cN),vI (X.cB),vI (X.cH),vI (X.cS),vI (X.cZ)] 28) (λb2=>jB 1 [7] (λb3=>.aD b3 [.slice Af (fs.length) (cf),.slice Aa (xs.length) (ca)] 32) (λb3=>jB 2 [8] (λb4=>.aD b4 (uZ) 47) (λb4=>NN (aq.seq ?_)))))))
 by_cases lH:kK X/\cA ns
 ·refine aq.region (jK 2 [14,15] [(0,a_ 1 b1),(1,A_ 2 b2 5)] (jx [] (aaj lH.1 lH.2 A c hG hB) ?_))
  rintro JO _ _ j6 ⟨B,cp,K,rfl,rfl,hK⟩
  replace hG:=hG.le j6
  replace hF:=hF.le j6
  replace hA:=hA.le j6
  replace aE:=aE.trans j6
  refine jN 6 [10,11] (λb6=>[(4,A_ 5 b6 12)]) (λ_=>[]) (λb6=>.aD b6 [.slice B (ns.length) (cp),.slice none (0) (0),vI (X.cH),vI 0,.slice none (0) (0),.slice none (0) (0),vI (X.cN),vI (X.cB),vI (X.cH),vI (X.cS),vI (X.cZ),vI ((if ns.length=0 then 0 else (nd ns (ns.length-1)).id))] 45) (λb6=>NZ (jK 2 [20] [] (NF (KX (aq.seq ?_)))))
  rcases Qi ns au with ⟨r,hr⟩|iP
  ·have hr1:r<ns.length:=hr.1
   refine aq.region (jK 2 [23,24] [(0,a_ 1 b1)] (gE [] (yY A c ns Y hG lH.2.fI (vw hB) au) (jK 1 [12] [] (NZ (sl 12 (vI ((gI ns au))) (.int .i64 ↑r) (agX (Value.int .i64) (GZ lH.2.fI hr.1 hr.2.1)) (jK 2 [27] [(1,wF (((r:Int):Int)<(0:Int)))] (NF (KX (SQ (jK 7 [35] [(1,a_ 1 b1),(3,x_ r ns.length (aP.hd hG (i:=r) zc)),(5,r_ (aP.rd hG (i:=r) zc (j:=1) rfl))] (NN (cN (((nd ns r).kind:Int)=(2:Int)) (λnO=>SR (jC 3 [9] [(1,A_ 4 b4 16)] [] (eO (v:=(.tuple #[.agg ⟨uZ⟩,vI 173])) [A_ 4 b4 16] aE (.inl ⟨by rw [zk lH.1 lH.2 hr zc];decide,by rw [zk lH.1 lH.2 hr zc],rfl⟩)))) (λnO=>KX (aq.seq (rM (List.range 7) 3 [5,3] (jR 3 [8,37,38,39] [(0,A_ 0 b6 12),(2,A_ 1 b3 2)] (mL [7,5] [] (yG Af cf fs hF (by have:=oL.len;omega) Aa ca xs hA (by have:=d8.len;omega)) ?_ (by rintro _ _ ⟨Bf,bf,Bx,bx,rfl,rfl⟩;rfl))))))))))))))))))
   rintro _ _ ⟨Bf,bf,Bx,bx,rfl,rfl⟩
   refine nC [7,5] [41] [] [] (nC [7,5] [] [(0,A_ 6 b4 16)] [(6,[(0,.slice B (ns.length) (cp)),(2,vI (X.cH)),(6,vI (X.cN)),(7,vI (X.cB)),(8,vI (X.cH)),(9,vI (X.cS)),(10,vI (X.cZ)),(11,vI ((if ns.length=0 then 0 else (nd ns (ns.length-1)).id))),(12,vI (au)),(13,.slice Bf (fs.length) (bf)),(14,.slice Bx (xs.length) (bx))])] (ck.last rfl rfl (jK 1 [9] [] (NL (aB.np (NX (aq.ret (aB.cQ [0,1] [.abs (aH 66 2 Bf fs.length bf (cI jb fs)),.abs (aH 68 5 Bx xs.length bx (cI kg xs))] (λES kA hL=>?_)))))))))
   have hU:Mw _ ⟨Bf,bf,Bx,bx⟩ fs xs:=⟨hL.rowAt 0 rfl,hL.rowAt 1 rfl⟩
   replace hK:=hK.le kA
   replace aE:=aE.trans kA
   exact rB (.tuple #[.agg #[.slice B (ns.length) (cp),.slice none (0) (0),vI (X.cH),vI 0,.slice none (0) (0),.slice none (0) (0),vI (X.cN),vI (X.cB),vI (X.cH),vI (X.cS),vI (X.cZ),vI ((if ns.length=0 then 0 else (nd ns (ns.length-1)).id)),vI (au),.slice Bf (fs.length) (bf),.slice Bx (xs.length) (bx),vI 0],vI 0]) [A_ 4 b4 16] [0] aE (.inr ⟨DN lH.1 lH.2 hr zc,B,cp,K,⟨Bf,bf,Bx,bx⟩,rfl,rfl,hK,hU⟩)
  exact aq.region (jK 2 [23,24] [(0,a_ 1 b1)] (gE [] (yY A c ns Y hG lH.2.fI (vw hB) au) (jK 1 [12] [] (NZ (sl 12 (vI ((gI ns au))) (.int .i64 (-1)) (agX (Value.int .i64) (C6 iP)) (jK 2 [27] [] (NT (SR (jC 3 [9] [(1,A_ 4 b4 16)] [] (eO (v:=(.tuple #[.agg ⟨uZ⟩,vI 141])) [A_ 4 b4 16] aE (.inl ⟨by rw [xk lH.1 lH.2 iP];decide,by rw [xk lH.1 lH.2 iP],rfl⟩)))))))))))
 refine aq.region (jK 2 [14,15] [(0,a_ 1 b1),(1,A_ 2 b2 5)] (jx [] (aak lH A c hG hB) ?_))
 rintro Sv _ _ qc ⟨rfl,rfl⟩
 replace aE:=aE.trans qc
 exact jN 6 [10,11] (λb9=>[(4,A_ 5 b9 12)]) (λ_=>[]) (λb9=>.aD b9 (rZ) 45) (λb9=>NZ (jK 2 [20] [] (NN (cN (((Fh X):Int)=(0:Int)) (λo5=>SR (jC 4 [9] [(2,A_ 4 b4 16)] [] (eO (v:=(.tuple #[.agg ⟨uZ⟩,vI ((Fh X))])) [A_ 4 b4 16] aE (.inl ⟨DQ lH,by rw [Q8 lH],rfl⟩)))) (λo5=>agY o5 (acw X))))))
noncomputable abbrev XD (b4:Nat):=(.aD b4 [vI 0,vI 0,vI 0,.string ⟨#[]⟩,.string ⟨#[]⟩,.slice none (0) (0),vI 0,vI 0,vI 0,vI 0,vI 0,vI 0,vI 0] 53:HP)
noncomputable abbrev zA2:=([(2,vI 0),(6,vI 0),(7,vI 0),(8,vI 0),(9,vI 0),(10,vI 0),(11,vI 0),(12,vI 0)]:Fr)
noncomputable abbrev zA3 (c:aN):=([(3,.string c.name),(4,.string c.text),(5,.slice c.dA (c.data.length) (c.dC))]:Fr)
noncomputable abbrev XE (km)(fs)(kn)(f:Nat) (m:Nat) (t) (S:bB) (L:HL):=([.abs (bM Tryz.prog 3 km (iu fs) kn),pF f m t S.X,pI m L S.ar,pT t S.X.cH S.aJ L S.us,pO S.O L,pD S.O L,pE S.O L]:List HP)
theorem Fm {β:Bs} (c:aN) (e:Int) :
 aW Tryz.prog β 242 #[.agg ⟨aQ c⟩,vI (e)] [] (λv l=>v=.agg ⟨aQ (jd c e)⟩/\l=[]):=by
 exact SE Tryz.func242 Tryz.ntmps242 (λR=>SR (jB 1 [2] (λb1=>.aD b1 (aQ c) 53) (λb1=>jB 1 [4] (λb2=>.aD b2 [vI 0,vI 0,vI 0,.string ⟨#[]⟩,.string ⟨#[]⟩,.slice none (0) (0),vI 0,vI 0,vI 0,vI 0,vI 0,vI 0,vI 0] 53) (λb2=>NZ (jK 4 [8] [(1,a_ 1 b1)] (sP 8 ((c.op:Int)=(11:Int)) (λh8=>jK 4 [12] [] (NT (aq.region (jC 12 [] [(1,a_ 1 b1),(3,a_ 1 b1),(5,a_ 1 b1),(7,a_ 1 b1),(9,a_ 1 b1),(11,A_ 1 b1 13)] [(1,(zA2))] (NS (jC 5 [] [(2,a_ 1 b1),(4,a_ 1 b1)] [(1,[(11,vI (e))])] (NS (jC 2 [] [(0,A_ 1 b1 13),(1,A_ 2 b2 13)] [(2,([(0,vI (c.op)),(1,vI (c.aL))]++zA3 c++[(11,vI (e))]))] (eS (v:=(.agg ⟨aQ {c with other:=0,mode:=0,bg:=0,bh:=0,aU:=0,aI:=0,code:=e,answer:=0}⟩)) [A_ 2 b2 13] ⟨agX (λx=>Value.agg ⟨aQ x⟩) (ahD (agW zc:jd c e=_)),rfl⟩))))))))) (λh8=>jK 4 [12] [(1,a_ 1 b1)] (NN (cP ((c.op:Int)=(12:Int)) (λh12=>aq.region (jC 12 [] [(1,a_ 1 b1),(3,a_ 1 b1),(5,a_ 1 b1),(7,a_ 1 b1),(9,a_ 1 b1),(11,A_ 1 b1 13)] [(1,(zA2))] (NS (jC 5 [] [(2,a_ 1 b1),(4,a_ 1 b1)] [(1,[(11,vI (e))])] (NS (jC 2 [] [(0,A_ 1 b1 13),(1,A_ 2 b2 13)] [(2,([(0,vI (c.op)),(1,vI (c.aL))]++zA3 c++[(11,vI (e))]))] (eS (v:=(.agg ⟨aQ {c with other:=0,mode:=0,bg:=0,bh:=0,aU:=0,aI:=0,code:=e,answer:=0}⟩)) [A_ 2 b2 13] ⟨agX (λx=>Value.agg ⟨aQ x⟩) (ahD (agW zc:jd c e=_)),rfl⟩))))))) (λh12=>KX (SR (jC 5 [] [(2,a_ 1 b1),(4,a_ 1 b1)] [(1,[(11,vI (e)),(12,vI 0)])] (NS (jC 2 [] [(0,A_ 1 b1 13),(1,A_ 2 b2 13)] [(2,([(0,vI (c.op)),(1,vI (c.aL)),(2,vI (c.other))]++zA3 c++[(6,vI (c.mode)),(7,vI (c.bg)),(8,vI (c.bh)),(9,vI (c.aU)),(10,vI (c.aI)),(11,vI (e))]))] (eS (v:=(.agg ⟨aQ {c with code:=e,answer:=0}⟩)) [A_ 2 b2 13] ⟨agX (λx=>Value.agg ⟨aQ x⟩) (ahD (agV zc:jd c e=_)),rfl⟩)))))))))))))))
theorem ael {β:Bs} (S:bB) (L:HL) (q f m t km kn n:Nat) (fs:List dF) (hI:bR S) (hn:n<=8388608) (k:Int) (hk:iM fs ((n+1:Nat):Int)=k) (c:aN) (hC:kH β c) :
 aW Tryz.prog β 241 #[vP q,.agg ⟨aQ c⟩] ([.aD q [.iface 76 (vP f),.map (some km),vI (((n:Nat):Int))] 111]++XE km fs kn f m t S L) (λv l=>∃L2,v=.agg ⟨aQ (dY k S c).2⟩/\l=[.aD q [.iface 76 (vP f),.map (some km),vI ((((n+1):Nat):Int))] 111,.abs (bM Tryz.prog 3 km (iu fs) kn),pF f m t ((dY k S c).1.X),pI m L2 (dY k S c).1.ar,pT t (dY k S c).1.X.cH ((dY k S c).1.aJ) L2 ((dY k S c).1.us),pO ((dY k S c).1.O) L2,pD ((dY k S c).1.O) L2,pE ((dY k S c).1.O) L2]):=by
 have hdl:=hC.dl
 have hdc:=hC.dc
 refine SE Tryz.func241 Tryz.ntmps241 (λR=>SR (jB 1 [3] (λb3=>.aD b3 (aQ c) 53) (λb3=>jB 1 [4] (λb4=>.aD b4 [vI 0,vI 0,vI 0,.string ⟨#[]⟩,.string ⟨#[]⟩,.slice none (0) (0),vI 0,vI 0,vI 0,vI 0,vI 0,vI 0,vI 0] 53) (λb4=>NS (jC 8 [] [(3,a_ 0 q),(4,wJ ((n:Int)+1) (↑(n+1))),(7,a_ 0 q)] [(0,[(2,vI ↑(n+1))])] (NN (aq.join (ι:=Unit) (λ(u:Unit)=>(¬k=1)/\(¬(k=2/\(c.op=4\/c.op=5\/c.op=6\/c.op=7\/c.op=9)))/\(¬(k=3/\c.op=9/\2<=c.data.length))) (λ(u:Unit)=>[(0,vP q),(3,vP b3),(4,vP b4)]) (λ(u:Unit)=>([.aD q [.iface 76 (vP f),.map (some km),vI ↑(n+1)] 111]++XE km fs kn f m t S L++[.abs R,pC b3 c,XD b4])) ?_ ?_)))))))
 ·rintro u ⟨uJ,hj2,hj3⟩
  refine aq.seq (rM (List.range 7) 5 [0,9] (jR 5 [4,78,79] [(3,a_ 0 q),(4,A_ 1 b3 13)] (mL [6,9] [2,3,4,5,6,7] (Qb S L f m t hI c hC) ?_ (by rintro _ _ ⟨L2,rfl,rfl⟩;rfl))))
  rintro _ _ ⟨L2,rfl,rfl⟩
  exact ck.last rfl rfl (jC 1 [] [(0,A_ 10 b4 13)] [(10,(zC (aQ ((gF S c).2))))] (NL (aB.np (NX (aq.ret (rT (.agg ⟨aQ ((gF S c).2)⟩) [A_ 10 b4 13] [6,7,0,1,2,3,4,5,8] (⟨L2,by rw [show dY k S c=((gF S c).1,(gF S c).2) by unfold dY;rw [agV uJ,agV hj2,agV hj3]]<;>exact⟨rfl,rfl⟩⟩)))))))
 refine aq.seq (rQ (jQ 8 [16,20] [(3,a_ 0 q),(7,a_ 0 q)] (bN.je 1 (d:=(some 21)) (t:=107) (K:=3) (E:=3) (b:=km) (n:=kn) (f:=(iu fs)) (x:=(.tmp 16)) (ix:=(.tmp 20)) (key:=vI ↑(n+1)) (z:=.int .i64 0) (kl:=(.int .i64 ((n+1:Nat):Int))) (r:=(iu fs (.int .i64 ((n+1:Nat):Int)))) (λ_=>KB) KB (λ_=>KB) (λ_=>KB) iU Tryz.underlying107 (λ_=>KB) (mA (VT zc)) (rfl) (NQ (NX (aq.block (SR (sl 21 (((iu fs (.int .i64 ((n+1:Nat):Int))).getD (.int .i64 0))) (.int .i64 (k)) (LH.trans (agX (Value.int .i64) hk)) (jK 2 [22] [] (NN (cP ((k:Int)=(1:Int)) (λsj=>SQ (jK 3 [26] [(1,a_ 9 b3)] (NN (cP ((c.op:Int)=(13:Int)) (λyI=>rM (List.range 6) 5 [0,9] (jR 5 [3,4,30,31] [(3,a_ 0 q),(4,A_ 1 b3 13)] (ck.last rfl rfl (gX [2,3,4,5,6,7] (Qb S L f m t hI c hC) (λL2=>NL (aB.np (NX (SR (jK 1 [33] [(0,A_ 9 b3 13)] (gE [] (Fm c 180) (jC 1 [] [(0,A_ 10 b4 13)] [(10,(zC (aQ (jd c 180))))] (eS (v:=(.agg ⟨aQ (jd c 180)⟩)) [A_ 10 b4 13] ⟨L2,by rw [show dY k S c=((gF S c).1,jd c 180) by unfold dY;rw [agW sj,agW yI]]<;>exact⟨rfl,rfl⟩⟩ [6,7,0,1,2,3,4,5,8])))))))))))) (λyI=>KX (SR (jK 1 [33] [(0,A_ 9 b3 13)] (gE [] (Fm c 180) (jC 1 [] [(0,A_ 10 b4 13)] [(10,(zC (aQ (jd c 180))))] (eS (v:=(.agg ⟨aQ (jd c 180)⟩)) [A_ 10 b4 13] ⟨L,by rw [show dY k S c=(S,jd c 180) by unfold dY;rw [agW sj,agV yI]]<;>exact⟨rfl,rfl⟩⟩)))))))))) (λsj=>SR (jK 2 [35] [] (NN (cP ((k:Int)=(2:Int)) (λnO=>?_) (λnO=>?_))))))))))))))))
 ·refine SR (jK 2 [38] [(1,a_ 9 b3)] (NN (aq.block (aq.join (ι:=Bool) (λ(fl:Bool)=>(fl=true↔(c.op=4\/c.op=5\/c.op=6\/c.op=7\/c.op=9))) (λ(fl:Bool)=>[(0,vP q),(3,vP b3),(4,vP b4),(39,.bool fl)]) (λ(fl:Bool)=>([.aD q [.iface 76 (vP f),.map (some km),vI ↑(n+1)] 111]++XE km fs kn f m t S L++[.abs R,pC b3 c,XD b4])) ?_ (SR (jK 2 [39] [] (NN (cP ((c.op:Int)=(4:Int)) (λnh=>aq.skip (aB.slot 39 (.bool (decide ((c.op:Int)=(4:Int)))) (.bool true) (λ_=>KB) (agX Value.bool (ahh nh)) (mJ true [0,1,2,3,4,5,6,7,8,9,10] (⟨λ_=>zc,λ_=>rfl⟩)))) (λnh=>SR (jK 2 [39] [] (NN (cP ((c.op:Int)=(5:Int)) (λnh=>aq.skip (aB.slot 39 (.bool (decide ((c.op:Int)=(5:Int)))) (.bool true) (λ_=>KB) (agX Value.bool (ahh nh)) (mJ true [0,1,2,3,4,5,6,7,8,9,10] (⟨λ_=>zc,λ_=>rfl⟩)))) (λnh=>SR (jK 2 [39] [] (NN (cP ((c.op:Int)=(6:Int)) (λnh=>aq.skip (aB.slot 39 (.bool (decide ((c.op:Int)=(6:Int)))) (.bool true) (λ_=>KB) (agX Value.bool (ahh nh)) (mJ true [0,1,2,3,4,5,6,7,8,9,10] (⟨λ_=>zc,λ_=>rfl⟩)))) (λnh=>SR (jK 2 [39] [] (NN (cP ((c.op:Int)=(7:Int)) (λnh=>aq.skip (aB.slot 39 (.bool (decide ((c.op:Int)=(7:Int)))) (.bool true) (λ_=>KB) (agX Value.bool (ahh nh)) (mJ true [0,1,2,3,4,5,6,7,8,9,10] (⟨λ_=>zc,λ_=>rfl⟩)))) (λnh=>aq.region (jK 2 [39] [] (NL (mJ ((decide (c.op=9))) [0,1,2,3,4,5,6,7,8,9,10] (⟨λh=>by have:=ahL h;omega,λh=>ahh zc⟩)))))))))))))))))))))))))
  rintro fl hfl
  exact aq.cond (b:=fl) (λ_=>KB) (λnh=>SR (jK 1 [45] [(0,A_ 9 b3 13)] (gE [] (Fm c 176) (jC 1 [] [(0,A_ 10 b4 13)] [(10,(zC (aQ (jd c 176))))] (eS (v:=(.agg ⟨aQ (jd c 176)⟩)) [A_ 10 b4 13] ⟨L,by rw [show dY k S c=(S,jd c 176) by unfold dY;rw [agV zc,agW ⟨nO,hfl.1 nh⟩]]<;>exact⟨rfl,rfl⟩⟩))))) (λnh=>aq.skip (aB.jX (aB.jX (mJ () [0,1,2,3,4,5,6,7,8,9,10] (⟨sj,λh=>agY (nh.symm.trans (hfl.2 h.2)) Pd,λh=>zc⟩)))))
 refine SR (jK 2 [47] [] (NN (cP ((k:Int)=(3:Int)) (λRn=>SR (jK 4 [52] [(1,a_ 9 b3)] (sP 52 ((c.op:Int)=(9:Int)) (λyL=>jK 5 [57] [(1,a_ 9 b3)] (NN (cP ((((c.data.length:Nat):Int):Int)>=(2:Int)) (λxH=>SR (jK 3 [5] [(1,a_ 9 b3)] (NS (jK 5 [64] [(3,w_ (.int .i64 ↑(c.data.length / 2)) (vg (Int.ofNat_tdiv _ _).symm zc zc)),(4,xP (c.data.length / 2) ((c.data.length / 2)<=c.dC))] (sl 64 (.slice c.dA ((c.data.length / 2)) (c.dC)) (.slice c.dA ((c.data.take (c.data.length / 2)).length) (c.dC)) (by rw [ahi,ahS zc]) (jC 2 [] [(1,a_ 9 b3)] [(9,[(5,.slice c.dA ((c.data.take (c.data.length / 2)).length) (c.dC))])] (NN (aq.seq (rM (List.range 7) 5 [0,9] (jR 5 [3,4,5,69,70] [(3,a_ 0 q),(4,A_ 1 b3 13)] (mL [6,9] [2,3,4,5,6,7] (Qb S L f m t hI {c with data:=c.data.take (c.data.length / 2)} (QK hC)) ?_ (by rintro _ _ ⟨L2,rfl,rfl⟩;rfl)))))))))))) (λxH=>aq.skip (aB.jX (mJ () [0,1,2,3,4,5,6,7,8,9,10] (⟨sj,λh=>nO h.1,λh=>zc⟩))))))) (λyL=>jK 5 [57] [] (NF (aq.skip (aB.jX (mJ () [0,1,2,3,4,5,6,7,8,9,10] (⟨sj,λh=>nO h.1,λh=>zc⟩))))))))) (λRn=>aq.skip (aB.jX (mJ () [0,1,2,3,4,5,6,7,8,9,10] (⟨sj,λh=>nO h.1,λh=>zc⟩)))))))
 rintro _ _ ⟨L2,rfl,rfl⟩
 exact ck.last rfl rfl (jC 1 [] [(0,A_ 9 b3 13)] [(9,(zC (aQ ((gF S {c with data:=c.data.take (c.data.length / 2)}).2))))] (NL (aB.np (NX (SR (jC 3 [] [(2,a_ 9 b3)] [(9,[(5,.slice c.dA (c.data.length) (c.dC))])] (NS (jC 2 [] [(0,A_ 9 b3 13),(1,A_ 10 b4 13)] [(10,[(0,vI ((gF S {c with data:=c.data.take (c.data.length / 2)}).2.op)),(1,vI ((gF S {c with data:=c.data.take (c.data.length / 2)}).2.aL)),(2,vI ((gF S {c with data:=c.data.take (c.data.length / 2)}).2.other)),(3,.string (gF S {c with data:=c.data.take (c.data.length / 2)}).2.name),(4,.string (gF S {c with data:=c.data.take (c.data.length / 2)}).2.text),(5,.slice c.dA (c.data.length) (c.dC)),(6,vI ((gF S {c with data:=c.data.take (c.data.length / 2)}).2.mode)),(7,vI ((gF S {c with data:=c.data.take (c.data.length / 2)}).2.bg)),(8,vI ((gF S {c with data:=c.data.take (c.data.length / 2)}).2.bh)),(9,vI ((gF S {c with data:=c.data.take (c.data.length / 2)}).2.aU)),(10,vI ((gF S {c with data:=c.data.take (c.data.length / 2)}).2.aI)),(11,vI ((gF S {c with data:=c.data.take (c.data.length / 2)}).2.code)),(12,vI ((gF S {c with data:=c.data.take (c.data.length / 2)}).2.answer))])] (eS (v:=(.agg #[vI ((gF S {c with data:=c.data.take (c.data.length / 2)}).2.op),vI ((gF S {c with data:=c.data.take (c.data.length / 2)}).2.aL),vI ((gF S {c with data:=c.data.take (c.data.length / 2)}).2.other),.string (gF S {c with data:=c.data.take (c.data.length / 2)}).2.name,.string (gF S {c with data:=c.data.take (c.data.length / 2)}).2.text,.slice c.dA (c.data.length) (c.dC),vI ((gF S {c with data:=c.data.take (c.data.length / 2)}).2.mode),vI ((gF S {c with data:=c.data.take (c.data.length / 2)}).2.bg),vI ((gF S {c with data:=c.data.take (c.data.length / 2)}).2.bh),vI ((gF S {c with data:=c.data.take (c.data.length / 2)}).2.aU),vI ((gF S {c with data:=c.data.take (c.data.length / 2)}).2.aI),vI ((gF S {c with data:=c.data.take (c.data.length / 2)}).2.code),vI ((gF S {c with data:=c.data.take (c.data.length / 2)}).2.answer)])) [A_ 10 b4 13] ⟨L2,by rw [show dY k S c=((gF S {c with data:=c.data.take (c.data.length / 2)}).1,{ (gF S {c with data:=c.data.take (c.data.length / 2)}).2 with dA:=c.dA,dC:=c.dC,data:=c.data}) by unfold dY;rw [agV zc,agV zc,agW ⟨Rn,zc,zc⟩]]<;>exact⟨rfl,rfl⟩⟩ [6,7,0,1,2,3,4,5,8])))))))))
end
section
open Go.RowKit Go.Maps bK aF
attribute [local irreducible] av bN aq aB
theorem Ga {β:Bs} (S:bB) (L:HL) (f:Nat) (hI:bR S) (d:Nat) (hd:aT S.ar ⟨d,2⟩) (path:ByteArray) (eT:path.size<=1048576) (hg:pG β) :
 aW Tryz.prog β 228 #[vP f,vP (L.b d),.string path] [.abs (aY (eM S.O L)),.abs (aY (gq S.O L))] (λv l=>v=Ih L (mV S.O d path)/\l=[.abs (aY (eM S.O L)),.abs (aY (gq S.O L))]):=by
 have dQ:(af S.O d).kind=2:=hI.kind hd
 obtain⟨ps,ax⟩:∃ps,ps=bQ path:=⟨_,rfl⟩
 have hpl:1<=ps.length/\ps.length<=1048577:=by rw [ax,DG];have:=AP path;omega
 have XF:∀q,q<ps.length->(pc ps q).size<=1048576:=λq hq=>ag1 (GN (ax ▸ PI hq)) eT
 refine SE Tryz.func228 Tryz.ntmps228 (λR=>SR (jK 3 [] [] (NS (jK 1 [19] [] (gX [] (Xb hg path eT ax) (λb1=>jK 1 [9] [] (NN (SQ (jK 3 [21,22,23] [] (NN (aq.block (lJ (λ(j:Nat)=>(j<=ps.length)/\(∀q,q<j->cq (pc ps q))) (λ(j:Nat)=>ps.length-j) (λ(j:Nat)=>[(1,vP (L.b d)),(9,.slice (some ⟨b1,0,none⟩) (ps.length) (ps.length)),(21,.slice (some ⟨b1,0,none⟩) (ps.length) (ps.length)),(22,vI ↑ps.length),(23,vI ↑j)]) (λ(j:Nat)=>[pO S.O L,pE S.O L,.abs (aH 9 1 (some ⟨b1,0,none⟩) ps.length ps.length (mY ps)),.abs R]) 0 [1,2,0,3] (⟨ag0 _,λq h=>agY h (ag2 q)⟩) ?_))))))))))))
 rintro j ⟨hj,hgd⟩
 refine SR (jK 1 [24] [] (NN (aq.seq (cP ((((j:Nat):Int):Int)<(((ps.length:Nat):Int):Int)) (λrA=>aq.skip (NX (aq.seq (aq.block (SR (jK 3 [11] [(0,p_ ⟨[],some j,none,none,some (.pointer (some ⟨b1,j,none⟩))⟩ [(Value.pointer (some ⟨b1,0+j*1,none⟩))=(.pointer (some ⟨b1,j,none⟩)),((j:Nat):Int)=((j:Nat):Int),j<ps.length,(⟨b1,0,none⟩:Addr).spot=none] ⟨agU,rfl,zc,rfl,trivial⟩),(1,p_ ⟨[.view 2 (.string (pc ps j))],none,none,none,none⟩ [(∀F w,(aH 9 1 (some ⟨b1,0,none⟩) ps.length ps.length (mY ps)).h F w->w.cell? ⟨b1,j,none⟩=some (.string (pc ps j)))] ⟨aH.cell (DH zc),trivial⟩)] (NS (jK 1 [27] [] (gE [] (zU (pc ps j) (by have:=XF j zc;omega)) (jK 1 [29] [] (NN (cN (cq (pc ps j)) (λCJ=>SR (jK 3 [6,7,8] [] (NN (aq.ret (aB.fW (aB.bD (aB.bD (aB.fW (aB.bD (RT _ [0,1,3] (⟨agX (Ih L) (ahD (show mV S.O d path=.error 95 from agV (λh=>CJ (DI.1 (ax ▸ h) j zc)))),rfl⟩))))))))))) (λCJ=>aq.skip (BX (aq.region (jK 2 [23] [(0,wJ ((j:Int)+1) (↑(j+1)))] (NL (tJ ((j+1)) [0,1,2,3] (⟨zc,λq hq=>(ag3.1 hq).elim (hgd q) (λe=>e ▸ CJ)⟩))))))))))))))))))) (λrA=>XX (SR ?_))))))
 have jP:∀p∈ps,cq p:=DI.2 (λq hq=>hgd q zc)
 refine jK 4 [12] [(2,wJ ((ps.length:Int)-1) (↑(ps.length-1)))] (NN (SQ (jK 5 [36,37,38] [(2,xP (ps.length-1) ((ps.length-1)<=ps.length))] (NN (aq.block (lJ (λ(j,e)=>(j<=ps.length-1)/\(aT S.ar ⟨e,2⟩)/\(pX S.O d ps=pX S.O e (ps.drop j))) (λ(j,e)=>ps.length-1-j) (λ(j,e)=>[(1,vP (L.b e)),(9,.slice (some ⟨b1,0,none⟩) (ps.length) (ps.length)),(12,vI ↑(ps.length-1)),(36,.slice (some ⟨b1,0,none⟩) ((ps.length-1)) (ps.length)),(37,vI ↑(ps.length-1)),(38,vI ↑j)]) (λ(j,e)=>[pO S.O L,pE S.O L,.abs (aH 9 1 (some ⟨b1,0,none⟩) ps.length ps.length (mY ps)),.abs R]) (0,d) [0,1,2,3] (⟨ag0 _,hd,by rw [List.drop_zero]⟩) ?_))))))
 rintro⟨j,e⟩ ⟨hj,dU,hw⟩
 have hke:(af S.O e).kind=2:=hI.kind dU
 refine SR (jK 1 [39] [] (NN (aq.seq (cP ((((j:Nat):Int):Int)<((((ps.length-1):Nat):Int):Int)) (λnh=>?_) (λnh=>?_)))))
 ·have vG:(pc ps j).size<=1048576:=XF j zc
  have hee:(af S.O e).ah.length<=8192:=hI.lF dU
  refine aq.skip (NX (aq.seq (aq.block (SR (jK 3 [14] [(0,p_ ⟨[],some j,none,none,some (.pointer (some ⟨b1,j,none⟩))⟩ [(Value.pointer (some ⟨b1,0+j*1,none⟩))=(.pointer (some ⟨b1,j,none⟩)),((j:Nat):Int)=((j:Nat):Int),j<(ps.length-1),(⟨b1,0,none⟩:Addr).spot=none] ⟨agU,rfl,zc,rfl,trivial⟩),(1,p_ ⟨[.view 2 (.string (pc ps j))],none,none,none,none⟩ [(∀F w,(aH 9 1 (some ⟨b1,0,none⟩) ps.length ps.length (mY ps)).h F w->w.cell? ⟨b1,j,none⟩=some (.string (pc ps j)))] ⟨aH.cell (DH zc),trivial⟩)] (NN (aq.seq ?_)))))))
  rcases hI.sJ dU (pc ps j) with eF|⟨tk,eF,bW⟩|⟨tk,eF,bW⟩|⟨tk,eF,bW⟩
  ·exact aq.region (jK 5 [45,46] [(3,v_ 0 (dw L hke))] (mX 1 hke eF (NN (aq.block (SR (jK 1 [48] [] (NN (CT (SR (jK 1 [] [] (NS (jK 3 [6,7,8] [] (NN (aq.ret (aB.fW (aB.fW (aB.bD (aB.bD (aB.fW (aB.bD (RT _ [0,1,3] (⟨agX (Ih L) (ahD (show mV S.O d path=.error 170 from (show mV S.O d path=pX S.O d ps by unfold mV;rw [←ax];exact agW jP).trans (hw.trans ((BZ zc).trans (by rw [eF]<;>rfl))))),rfl⟩))))))))))))))))))))))
  ·have bC:(af S.O tk).kind=1:=hI.kind bW
   exact aq.region (jK 5 [45,46] [(3,v_ 0 (dw L hke))] (mX 1 hke eF (NN (aq.block (SR (jK 1 [48] [] (NN (CF (SR (jK 3 [50,51] [] (NN (CF (SR (jK 3 [53,54] [] (NN (CT (SR (jK 1 [] [] (NS (jK 3 [6,7,8] [] (eN ⟨agX (Ih L) (ahD (show mV S.O d path=.error 173 from (show mV S.O d path=pX S.O d ps by unfold mV;rw [←ax];exact agW jP).trans (hw.trans ((BZ zc).trans (by rw [eF]<;>rfl))))),rfl⟩ [0,1,3])))))))))))))))))))))
  ·have bC:(af S.O tk).kind=2:=hI.kind bW
   exact aq.region (jK 5 [45,46] [(3,v_ 0 (dw L hke))] (mX 1 hke eF (NN (aq.block (SR (jK 1 [48] [] (NF (SR (jK 3 [50,51] [] (NF (SR (jK 3 [53,54] [] (NF (SR (jK 3 [56,57] [] (NT (SR (jK 1 [18] [] (NN (aq.region (jK 2 [1] [] (LX (aq.region (jK 2 [38] [(0,wJ ((j:Int)+1) (↑(j+1)))] (NL (tJ ((j+1),tk) [0,1,2,3] (⟨zc,bW,hw.trans ((BZ zc).trans (by rw [eF]<;>rfl))⟩)))))))))))))))))))))))))))
  have bC:(af S.O tk).kind=3:=hI.kind bW
  exact aq.region (jK 5 [45,46] [(3,v_ 0 (dw L hke))] (mX 1 hke eF (NN (aq.block (SR (jK 1 [48] [] (NF (SR (jK 3 [50,51] [] (NT (SR (jK 1 [] [] (NS (jK 3 [6,7,8] [] (eN ⟨agX (Ih L) (ahD (show mV S.O d path=.error 174 from (show mV S.O d path=pX S.O d ps by unfold mV;rw [←ax];exact agW jP).trans (hw.trans ((BZ zc).trans (by rw [eF]<;>rfl))))),rfl⟩ [0,1,3])))))))))))))))
 have ej:j=ps.length-1:=zc
 exact XX (SQ (jK 5 [64] [(4,v_ 0 (uh L hke))] (NN (aq.cond (b:=(af S.O e).aG) (λ_=>KB) (λWH=>zR ⟨agX (Ih L) (ahD ((show mV S.O d path=pX S.O d ps by unfold mV;rw [←ax];exact agW jP).trans (hw.trans ((Ml zc).trans (agW WH))))),rfl⟩ [0,1,3]) (λWH=>KX (aq.seq (rQ (jQ 8 [6,7,8] [(3,p_ ⟨[],some (ps.length-1),none,none,some (.pointer (some ⟨b1,(ps.length-1),none⟩))⟩ [(Value.pointer (some ⟨b1,0+(ps.length-1)*1,none⟩))=(.pointer (some ⟨b1,(ps.length-1),none⟩)),(((ps.length-1):Nat):Int)=(((ps.length-1):Nat):Int),(ps.length-1)<ps.length,(⟨b1,0,none⟩:Addr).spot=none] ⟨agU,rfl,zc,rfl,trivial⟩),(4,p_ ⟨[.view 2 (.string (pc ps (ps.length-1)))],none,none,none,none⟩ [(∀F w,(aH 9 1 (some ⟨b1,0,none⟩) ps.length ps.length (mY ps)).h F w->w.cell? ⟨b1,(ps.length-1),none⟩=some (.string (pc ps (ps.length-1))))] ⟨aH.cell (DH zc),trivial⟩)] (NQ (NX (aq.ret (RT (.tuple #[vP (L.b e),.string (pc ps (ps.length-1)),vI 0]) [0,1,3] (⟨by rw [←ej];exact agX (Ih L) (ahD (show mV S.O d path=.ok (e,pc ps j) from (show mV S.O d path=pX S.O d ps by unfold mV;rw [←ax];exact agW jP).trans (hw.trans ((Ml zc).trans (agV (by rw [WH];exact Bool.false_ne_true)))))),rfl⟩)))))))))))))
theorem acz {β:Bs} (S:bB) (L:HL) (f m t:Nat) (hI:bR S) (au:Int) (hrw:(Lit.int .i64 au).wf=true) (a:dK) (XF:a.path.size<=1048576) (htz:a.to.size<=1048576) (hxz:a.text.size<=1048576) (hg:pG β) :
 aW Tryz.prog β 227 #[vP f,vI (au),.agg #[vI (a.at_),vI (a.op),.string a.path,.string a.to,.string a.text]] [.aD f [vI (S.X.cN),vI (S.X.cB),vI (S.X.cH),vI (S.X.cS),vI (S.X.cZ),.map (some m),vP t,vI (S.X.last),vI (S.X.ah),vI (S.X.used)] 135,.abs (bM Tryz.prog 3 m (cT (cV L S.ar)) S.ar.length),.abs (gj 182 t S.X.cH S.aJ (cV L S.us)),.abs (aY (eM S.O L)),.abs (aY (dS S.O L)),.abs (aY (gq S.O L))] (λv l=>∃L2,v=vI (cO S au a).1/\l=[.aD f [vI ((cO S au a).2.X.cN),vI ((cO S au a).2.X.cB),vI ((cO S au a).2.X.cH),vI ((cO S au a).2.X.cS),vI ((cO S au a).2.X.cZ),.map (some m),vP t,vI ((cO S au a).2.X.last),vI ((cO S au a).2.X.ah),vI ((cO S au a).2.X.used)] 135,.abs (bM Tryz.prog 3 m (cT (cV L2 (cO S au a).2.ar)) ((cO S au a).2.ar.length)),.abs (gj 182 t (cO S au a).2.X.cH ((cO S au a).2.aJ) (cV L2 ((cO S au a).2.us))),.abs (aY (eM ((cO S au a).2.O) L2)),.abs (aY (dS ((cO S au a).2.O) L2)),.abs (aY (gq ((cO S au a).2.O) L2))]):=by
 have hX:=hI.hX
 refine SE Tryz.func227 Tryz.ntmps227 (λR=>SR (jB 2 [5] (λb1=>.aD b1 [vI (a.at_),vI (a.op),.string a.path,.string a.to,.string a.text] 68) (λb1=>NZ (jK 4 [25] [(1,a_ 7 b1)] (sP 25 ((a.op:Int)<(1:Int)) (λpR=>jK 4 [29] [] (NT (zR ⟨L,by rw [show (cO S au a)=(230,S) by unfold cO;exact agW zc]<;>exact⟨rfl,rfl⟩⟩))) (λpR=>jK 4 [29] [(1,a_ 7 b1)] (NN (cP ((a.op:Int)>(7:Int)) (λCJ=>zR ⟨L,by rw [show (cO S au a)=(230,S) by unfold cO;exact agW zc]<;>exact⟨rfl,rfl⟩⟩) (λCJ=>KX (aq.seq ?_))))))))))
 rcases hI.ac9 au with fH|⟨tk,fH,bW⟩|⟨tk,fH,bW⟩|⟨tk,fH,bW⟩
 ·exact aq.region (jK 5 [33,34] [(3,a_ 0 f)] (av.je 1 (d:=(some 35)) (t:=129) (K:=3) (E:=133) (b:=m) (n:=S.ar.length) (f:=(cT (cV L S.ar))) (x:=(.tmp 33)) (ix:=(.tmp 34)) (key:=vI (au)) (z:=.nilIface) (kl:=(.int .i64 au)) (r:=none) (λ_=>KB) KB (λ_=>KB) (λ_=>KB) iU Tryz.underlying129 (λ_=>KB) (mA hrw) (by rw [j4,fH];rfl) (jK 1 [7] [] (NZ (jK 2 [37] [] (NT (zR ⟨L,by rw [show (cO S au a)=(141,S) by unfold cO;rw [agV zc,fH]]<;>exact⟨rfl,rfl⟩⟩)))))))
 ·have bC:(af S.O tk).kind=1:=hI.kind bW
  exact aq.region (jK 5 [33,34] [(3,a_ 0 f)] (av.je 1 (d:=(some 35)) (t:=129) (K:=3) (E:=133) (b:=m) (n:=S.ar.length) (f:=(cT (cV L S.ar))) (x:=(.tmp 33)) (ix:=(.tmp 34)) (key:=vI (au)) (z:=.nilIface) (kl:=(.int .i64 au)) (r:=(some (iw L ⟨tk,1⟩))) (λ_=>KB) KB (λ_=>KB) (λ_=>KB) iU Tryz.underlying129 (λ_=>KB) (mA hrw) (by rw [j4,fH];rfl) (jK 1 [7] [] (NZ (jK 2 [37] [] (NF (KX (SR (jK 7 [8,9] [] (NZ (jK 2 [44] [] (NT (zR ⟨L,by rw [show (cO S au a)=(173,S) by unfold cO;rw [agV zc,fH];simp only;exact agV agU]<;>exact⟨rfl,rfl⟩⟩)))))))))))))
 ·have bC:(af S.O tk).kind=2:=hI.kind bW
  refine aq.region (jK 5 [33,34] [(3,a_ 0 f)] (av.je 1 (d:=(some 35)) (t:=129) (K:=3) (E:=133) (b:=m) (n:=S.ar.length) (f:=(cT (cV L S.ar))) (x:=(.tmp 33)) (ix:=(.tmp 34)) (key:=vI (au)) (z:=.nilIface) (kl:=(.int .i64 au)) (r:=(some (iw L ⟨tk,2⟩))) (λ_=>KB) KB (λ_=>KB) (λ_=>KB) iU Tryz.underlying129 (λ_=>KB) (mA hrw) (by rw [j4,fH];rfl) (jK 1 [7] [] (NZ (jK 2 [37] [] (NF (KX (SR (jK 7 [8,9] [] (NZ (jK 2 [44] [] (NF (KX (SR (jK 4 [46,47,49] [(3,a_ 7 b1)] ?_)))))))))))))))
  rcases yx hI bW a.path with ⟨e,o4,bX⟩|⟨d,name,o4,hd,lQ,j3⟩
  ·exact gE [3,5] ((by have h:=Ga (β:=β) S L f hI tk bW a.path XF hg;rw [o4] at h;exact h)) (jK 7 [10,11,12] [] (NZ (jK 2 [55] [] (NN (cN ((e:Int)=(0:Int)) (λh55=>zR ⟨L,by rw [show (cO S au a)=(e,S) by unfold cO;rw [agV zc,fH];simp only;rw [agW trivial,o4]]<;>exact⟨rfl,rfl⟩⟩ [2,3,4,0,5,1,6]) (λh55=>agY h55 bX))))))
  have dQ:(af S.O d).kind=2:=hI.kind hd
  have eT:name.size<=1048576:=Mk j3
  refine gE [3,5] ((by have h:=Ga (β:=β) S L f hI tk bW a.path XF hg;rw [o4] at h;exact h)) (jK 7 [10,11,12] [] (NZ (jK 2 [55] [] (NF (KX (SQ (jK 2 [58] [(1,a_ 7 b1)] (NN (aq.block (SR (jK 2 [59] [] (NN (cP ((a.op:Int)=(1:Int)) (λvN=>?_) (λvN=>?_))))))))))))))
  ·refine SQ (jK 3 [61,62,63] [] (gE [2,3,1,0] (BW S L f m t hI d hd name eT) (jK 1 [12] [] (NS (jK 2 [66] [] (NN (cN (((gu S.X S.O S.ar d name):Int)=(0:Int)) (λh0=>zR ⟨L,by rw [show (cO S au a)=(gu S.X S.O S.ar d name,S) by unfold cO;rw [agV zc,fH];simp only;rw [agW trivial,o4];simp only;unfold nS;rw [agW zc];unfold sx;exact agV h0]<;>exact⟨rfl,rfl⟩⟩ [0,1,4,3,5,2,6]) (λh0=>?_))))))))
   have iP:=uT h0
   refine KX (SR (jK 1 [68] [] (gE [0] (BV S.X f m t hX 420) (jB 2 [71] (λb2=>.aD b2 [vI (S.X.last+1),vI (420),vI 0,vI 0,vI (S.X.cS),vI (S.X.cZ),vI 0,vI 0,.bool false,.slice none (0) (0)] 140) (λb2=>?_)))))
   obtain⟨L2,fS⟩:∃L2:HL,L2=L.put (bA S.X) b2 0 none 0:=⟨_,rfl⟩
   have hfr:=hI.toInv0.fresh
   refine av.mem (λw hS=>hS.Bo fS hfr (o:=(cR S.X 1 420)) (i:=3) (j:=8) (ix:=[0,1,2,4,5,6,7]) rfl rfl KB rfl (by show (1:Int)≠0;decide) ((mE (L:=L2) (k:=(bA S.X)) (o:=(cR S.X 1 420)) rfl).trans (by rw [show L2.dA (bA S.X)=none by rw [fS];exact agW rfl,show L2.dC (bA S.X)=0 by rw [fS];exact agW rfl];rfl)) rfl) (av.gG [(3,pE (aZ S.O (bA S.X) (λ_=>(cR S.X 1 420))) L2)] (λw hS=>hS.CG fS hfr (o:=(cR S.X 1 420)) (i:=3) rfl (by show (1:Int)≠2;decide)) (av.mem (λw hS=>hS.mB (e:=5) (size:=1)) (av.mem (λw hS=>hS.Tn fS (o:=(cR S.X 1 420)) (i:=5) (j:=8) (ix:=[0,1,2,3,4,6,7]) rfl rfl KB rfl rfl rfl) (av.gG [(3,.abs (bM Tryz.prog 3 m (cT (cV L2 S.ar)) S.ar.length)),(5,.abs (gj 182 t S.X.cH S.aJ (cV L2 S.us)))] (λw hS=>by rw [lW fS hfr.ar,lW fS hfr.us];exact hS) (jK 1 [13] [] (NS (jK 5 [72,73,74,76] [] (gE [2,3,1,4] ((by have h:=zj (β:=β) S L2 f m t hI.toInv0 d hd name eT iP (cR S.X 1 420) rfl (by simp [cR]) rfl (wX h0);rw [Dj fS (hI.CD hd),uS fS] at h;exact h)) (NS (av.gG [(4,.abs (aY (dS ((gn S d name (cR S.X 1 420)).O) L2)))] (λw hS=>by rw [show dS ((gn S d name (cR S.X 1 420)).O) L2=dS (aZ S.O (bA S.X) (λ_=>(cR S.X 1 420))) L2 from mG];exact hS) ?_))))))))))
   have WD:bR (gn S d name (cR S.X 1 420)):=hI.FN hd lQ j3 h0 (.inl rfl) ⟨Pd,Pd⟩ (.inl ⟨Pd,rfl⟩)
   have Vg:aT (gn S d name (cR S.X 1 420)).ar ⟨(bA S.X),1⟩:=OA hI (o:=(cR S.X 1 420))
   exact jK 4 [78,79,81] [(3,a_ 7 b1)] (av.DJ (d:=(some 82)) (t1:=9) (t2:=51) (e:=5) (x:=(.tmp 81)) (s:=a.text) (λ_=>KB) (λ_=>KB) Tryz.underlying9 Tryz.underlying51 Tryz.underlying5 (λb3 c4 af9=>gX [8,0,1,5,2,4,3] ((by have h:=JY (β:=β) (gn S d name (cR S.X 1 420)) L2 f m t WD (bA S.X) Vg (some ⟨b3,0,none⟩) c4 a.text.data.toList (by rw [Array.length_toList];have:a.text.data.size=a.text.size:=rfl;omega) af9;rw [I9 fS] at h;exact h)) (λL3=>NS (jK 1 [6] [] (eN ⟨L3,by rw [show (cO S au a)=(0,(gD (gn S d name (cR S.X 1 420)) (bA S.X) a.text.data.toList).2.2) by unfold cO;rw [agV zc,fH];simp only;rw [agW trivial,o4];simp only;unfold nS;rw [agW zc];unfold sx;exact agW h0]<;>exact⟨rfl,rfl⟩⟩)))))
  refine SR (jK 2 [84] [] (NN (cP ((a.op:Int)=(2:Int)) (λh84=>SR (jK 3 [86,87,88] [] (gX [2,3,4,0,5,1] (Mh S L f m t hI d hd name eT 493) (λL2=>jK 1 [6] [] (eN ⟨L2,by rw [show (cO S au a)=((mF S d name 493).1,(mF S d name 493).2) by unfold cO;rw [agV zc,fH];simp only;rw [agW trivial,o4];simp only;unfold nS;rw [agV zc];exact agW zc]<;>exact⟨rfl,rfl⟩⟩))))) (λh84=>SR (jK 2 [90] [] (NN (cP ((a.op:Int)=(3:Int)) (λvM=>SR (jK 5 [92,93,94,96] [(4,a_ 7 b1)] (gX [2,3,4,0,5,1] (GJ S L f m t hI d hd name eT a.text hxz) (λL2=>jK 1 [6] [] (eN ⟨L2,by rw [show (cO S au a)=((jk S d name a.text).1,(jk S d name a.text).2) by unfold cO;rw [agV zc,fH];simp only;rw [agW trivial,o4];simp only;unfold nS;rw [agV zc];rw [agV zc];exact agW zc]<;>exact⟨rfl,rfl⟩⟩))))) (λvM=>SR (jK 2 [98] [] (NN (cP ((a.op:Int)=(4:Int)) (λV8=>SR (jK 3 [100,101,102] [] (gX [2,3,4,0,5,1] (JW S L f m t hI d hd name eT) (λL2=>jK 1 [6] [] (eN ⟨L2,by rw [show (cO S au a)=((iA S d name).1,(iA S d name).2) by unfold cO;rw [agV zc,fH];simp only;rw [agW trivial,o4];simp only;unfold nS;rw [agV zc];rw [agV zc];rw [agV zc];exact agW zc]<;>exact⟨rfl,rfl⟩⟩))))) (λV8=>SR (jK 2 [104] [] (NN (cP ((a.op:Int)=(5:Int)) (λaga=>SR (jK 3 [106,107,108] [] (gX [2,3,4,0,5,1] (Mi S L f m t hI d hd name eT) (λL2=>jK 1 [6] [] (eN ⟨L2,by rw [show (cO S au a)=((iZ S d name).1,(iZ S d name).2) by unfold cO;rw [agV zc,fH];simp only;rw [agW trivial,o4];simp only;unfold nS;rw [agV zc];rw [agV zc];rw [agV zc];rw [agV zc];exact agW zc]<;>exact⟨rfl,rfl⟩⟩))))) (λaga=>SR (jK 2 [110] [] (NN (cP ((a.op:Int)=(6:Int)) (λagb=>?_) (λagb=>?_))))))))))))))))))))
  ·refine SR (jK 4 [113,114,116] [(3,a_ 7 b1)] ?_)
   rcases yx hI bW a.to with ⟨e2,J5,P8⟩|⟨to,ay,J5,hd2,aec,Z6⟩
   ·exact gE [0,1] ((by have h:=Ga (β:=β) S L f hI tk bW a.to htz hg;rw [J5] at h;exact h)) (jK 7 [14,15,16] [] (NZ (jK 2 [122] [] (NN (cN ((e2:Int)=(0:Int)) (λTb=>zR ⟨L,by rw [show (cO S au a)=(e2,S) by unfold cO;rw [agV zc,fH];simp only;rw [agW trivial,o4];simp only;unfold nS;rw [agV zc];rw [agV zc];rw [agV zc];rw [agV zc];rw [agV zc];rw [agW zc];rw [J5]]<;>exact⟨rfl,rfl⟩⟩ [2,3,4,0,5,1,6]) (λTb=>agY Tb P8))))))
   have jo:(af S.O to).kind=2:=hI.kind hd2
   have vG:ay.size<=1048576:=Mk Z6
   exact gE [0,1] ((by have h:=Ga (β:=β) S L f hI tk bW a.to htz hg;rw [J5] at h;exact h)) (jK 7 [14,15,16] [] (NZ (jK 2 [122] [] (NF (KX (SR (jK 5 [124,125,126,127,128] [] (gX [2,3,4,0,5,1] (JX S L f m t hI d hd name eT to hd2 ay vG) (λL2=>jK 1 [6] [] (eN ⟨L2,by rw [show (cO S au a)=((dm S d name to ay).1,(dm S d name to ay).2) by unfold cO;rw [agV zc,fH];simp only;rw [agW trivial,o4];simp only;unfold nS;rw [agV zc];rw [agV zc];rw [agV zc];rw [agV zc];rw [agV zc];rw [agW zc];rw [J5]]<;>exact⟨rfl,rfl⟩⟩))))))))))
  refine KX (aq.seq (aq.seq ?_))
  have hel:(af S.O d).ah.length<=8192:=hI.lF hd
  have Xn:=eT
  rcases hI.sJ hd name with eu|⟨ok,eu,jF⟩|⟨ok,eu,jF⟩|⟨ok,eu,jF⟩
  ·exact aq.region (jK 5 [133,134] [(3,v_ 0 (dw L dQ))] (mX 1 dQ eu (NN (aq.block (SR (jK 3 [137,138] [] (NF (SR (jK 3 [140,141] [] (NF (SR (jK 3 [143,144] [] (NF (KX (zR ⟨L,by rw [show (cO S au a)=(170,S) by unfold cO;rw [agV zc,fH];simp only;rw [agW trivial,o4];simp only;unfold nS;rw [agV zc];rw [agV zc];rw [agV zc];rw [agV zc];rw [agV zc];rw [agV zc];unfold o9;rw [eu]]<;>exact⟨rfl,rfl⟩⟩ [2,3,4,0,5,1,6])))))))))))))))
  ·have rz:(af S.O ok).kind=1:=hI.kind jF
   exact aq.region (jK 5 [133,134] [(3,v_ 0 (dw L dQ))] (mX 1 dQ eu (NN (aq.block (SR (jK 3 [137,138] [] (NF (SR (jK 3 [140,141] [] (NF (SR (jK 3 [143,144] [] (NT (SR (jK 1 [19] [] (NS (jK 4 [146,147,149] [(3,a_ 7 b1)] (av.DJ (d:=(some 150)) (t1:=9) (t2:=51) (e:=5) (x:=(.tmp 149)) (s:=a.text) (λ_=>KB) (λ_=>KB) Tryz.underlying9 Tryz.underlying51 Tryz.underlying5 (λb6 c7 agc=>gX [8,2,3,4,0,5,1] (JY (β:=β) S L f m t hI ok jF (some ⟨b6,0,none⟩) c7 a.text.data.toList (by rw [Array.length_toList];have:a.text.data.size=a.text.size:=rfl;omega) agc) (λL3=>jK 5 [21] [] (NS (jK 2 [6] [] (eN ⟨L3,by rw [show (cO S au a)=((gD S ok a.text.data.toList).2.1,(gD S ok a.text.data.toList).2.2) by unfold cO;rw [agV zc,fH];simp only;rw [agW trivial,o4];simp only;unfold nS;rw [agV zc];rw [agV zc];rw [agV zc];rw [agV zc];rw [agV zc];rw [agV zc];unfold o9;rw [eu];exact (agV agU).trans (agV agU)]<;>exact⟨rfl,rfl⟩⟩)))))))))))))))))))))))
  ·have rz:(af S.O ok).kind=2:=hI.kind jF
   exact aq.region (jK 5 [133,134] [(3,v_ 0 (dw L dQ))] (mX 1 dQ eu (NN (aq.block (SR (jK 3 [137,138] [] (NF (SR (jK 3 [140,141] [] (NT (SR (jK 1 [] [] (NS (jK 1 [6] [] (eN ⟨L,by rw [show (cO S au a)=(172,S) by unfold cO;rw [agV zc,fH];simp only;rw [agW trivial,o4];simp only;unfold nS;rw [agV zc];rw [agV zc];rw [agV zc];rw [agV zc];rw [agV zc];rw [agV zc];unfold o9;rw [eu];exact (agV agU).trans (agW rfl)]<;>exact⟨rfl,rfl⟩⟩ [2,3,4,0,5,1,6])))))))))))))))
  have rz:(af S.O ok).kind=3:=hI.kind jF
  exact aq.region (jK 5 [133,134] [(3,v_ 0 (dw L dQ))] (mX 1 dQ eu (NN (aq.block (SR (jK 3 [137,138] [] (NT (SR (jK 1 [] [] (NS (jK 1 [6] [] (eN ⟨L,by rw [show (cO S au a)=(174,S) by unfold cO;rw [agV zc,fH];simp only;rw [agW trivial,o4];simp only;unfold nS;rw [agV zc];rw [agV zc];rw [agV zc];rw [agV zc];rw [agV zc];rw [agV zc];unfold o9;rw [eu];exact agW rfl]<;>exact⟨rfl,rfl⟩⟩ [2,3,4,0,5,1,6]))))))))))))
 have bC:(af S.O tk).kind=3:=hI.kind bW
 exact aq.region (jK 5 [33,34] [(3,a_ 0 f)] (av.je 1 (d:=(some 35)) (t:=129) (K:=3) (E:=133) (b:=m) (n:=S.ar.length) (f:=(cT (cV L S.ar))) (x:=(.tmp 33)) (ix:=(.tmp 34)) (key:=vI (au)) (z:=.nilIface) (kl:=(.int .i64 au)) (r:=(some (iw L ⟨tk,3⟩))) (λ_=>KB) KB (λ_=>KB) (λ_=>KB) iU Tryz.underlying129 (λ_=>KB) (mA hrw) (by rw [j4,fH];rfl) (jK 1 [7] [] (NZ (jK 2 [37] [] (NF (KX (SR (jK 7 [8,9] [] (NZ (jK 2 [44] [] (NT (zR ⟨L,by rw [show (cO S au a)=(173,S) by unfold cO;rw [agV zc,fH];simp only;exact agV agU]<;>exact⟨rfl,rfl⟩⟩)))))))))))))
end
section
open Go.RowKit Go.Maps bK aF
attribute [local irreducible] av bN aq aB ck
theorem aem {β:Bs} (S:bB) (L:HL) (o q f m t am an km kn n:Nat) (Z:AZ) (fs:List dF) (xs:List dK) (au:Int) (hrw:(Lit.int .i64 au).wf=true) (hI:bR S) (hn:n<=8388608) (k:Int) (hk:iM fs ((n+1:Nat):Int)=k) (hZ:rP β Z xs) (hX:lG xs 1048576) (hg:pG β) (c:aN) (hC:kH β c) :
 aW Tryz.prog β 226 #[vP o,.agg ⟨aQ c⟩] ([.aD o [.iface 109 (vP q),vP f,vI (au),.map (some am),vI (((n:Nat):Int))] 113,.aD q [.iface 76 (vP f),.map (some km),vI (((n:Nat):Int))] 111,.abs (bM Tryz.prog 3 am (kZ Z xs) an)]++XE km fs kn f m t S L) (λv l=>∃L2,v=.agg ⟨aQ (dY k (kJ au S (dO xs ((n+1:Nat):Int))) c).2⟩/\l=[.aD o [.iface 109 (vP q),vP f,vI (au),.map (some am),vI ((((n+1):Nat):Int))] 113,.aD q [.iface 76 (vP f),.map (some km),vI ((((n+1):Nat):Int))] 111,.abs (bM Tryz.prog 3 am (kZ Z xs) an),.abs (bM Tryz.prog 3 km (iu fs) kn),pF f m t ((dY k (kJ au S (dO xs ((n+1:Nat):Int))) c).1.X),.abs (bM Tryz.prog 3 m (cT (cV L2 (dY k (kJ au S (dO xs ((n+1:Nat):Int))) c).1.ar)) ((dY k (kJ au S (dO xs ((n+1:Nat):Int))) c).1.ar.length)),pT t (dY k (kJ au S (dO xs ((n+1:Nat):Int))) c).1.X.cH ((dY k (kJ au S (dO xs ((n+1:Nat):Int))) c).1.aJ) L2 ((dY k (kJ au S (dO xs ((n+1:Nat):Int))) c).1.us),pO ((dY k (kJ au S (dO xs ((n+1:Nat):Int))) c).1.O) L2,pD ((dY k (kJ au S (dO xs ((n+1:Nat):Int))) c).1.O) L2,pE ((dY k (kJ au S (dO xs ((n+1:Nat):Int))) c).1.O) L2]):=by
 obtain⟨ys,hys⟩:∃ys,dO xs ((n+1:Nat):Int)=ys:=⟨_,rfl⟩
 obtain⟨D5,has⟩:∃a,aA Z xs ((n+1:Nat):Int)=a:=⟨_,rfl⟩
 obtain⟨ac_,hac⟩:∃a,aC Z xs ((n+1:Nat):Int)=a:=⟨_,rfl⟩
 have hrow:=hZ ((n+1:Nat):Int)
 rw [hys,has] at hrow
 have hyb:∀{i},i<ys.length->EH (act ys i) 1048576:=λ{i} h=>hX.q _ (TA (x:=((n+1:Nat):Int)) (by rw [hys];exact aht (zo h)))
 have vK:ys.length<=1048576:=by rw [←hys];exact ag1 (Jk _) hX.len
 rw [show dO xs ((n+1:Nat):Int)=ys from hys]
 obtain⟨SA,hSA⟩:∃SA,kJ au S ys=SA:=⟨_,rfl⟩
 rw [hSA]
 refine SE Tryz.func226 Tryz.ntmps226 (λR=>SR (jB 1 [3] (λb1=>.aD b1 (aQ c) 53) (λb1=>jB 1 [4] (λb2=>.aD b2 [vI 0,vI 0,vI 0,.string ⟨#[]⟩,.string ⟨#[]⟩,.slice none (0) (0),vI 0,vI 0,vI 0,vI 0,vI 0,vI 0,vI 0] 53) (λb2=>NS (jC 8 [] [(3,a_ 0 o),(4,wJ ((n:Int)+1) (↑(n+1))),(7,a_ 0 o)] [(0,[(4,vI ↑(n+1))])] (NN (aq.seq (aq.seq (rQ (jQ 8 [17,21] [(3,a_ 0 o),(7,a_ 0 o)] (bN.je 2 (d:=(some 22)) (t:=106) (K:=3) (E:=30) (b:=am) (n:=an) (f:=(kZ Z xs)) (x:=(.tmp 17)) (ix:=(.tmp 21)) (key:=vI ↑(n+1)) (z:=.slice none (0) (0)) (kl:=(.int .i64 ((n+1:Nat):Int))) (r:=(kZ Z xs (.int .i64 ((n+1:Nat):Int)))) (λ_=>KB) KB (λ_=>KB) (λ_=>KB) iU Tryz.underlying106 (λ_=>KB) (mA (VT zc)) (rfl) (bN.slot 22 (((kZ Z xs (.int .i64 ((n+1:Nat):Int))).getD (.slice none 0 0))) (.slice D5 (ys.length) (ac_)) (λ_=>KB) (Hy.trans (by rw [hys,has,hac])) (jQ 2 [23,24] [] (NQ (NX (aq.block (lJ (ι:=Nat×bB×HL) (λ(i,S1,L1)=>(i<=ys.length)/\(S1=kJ au S (ys.take i))/\(bR S1)) (λ(i,S1,L1)=>ys.length-i) (λ(i,S1,L1)=>[(0,vP o),(3,vP b1),(4,vP b2),(22,.slice D5 (ys.length) (ac_)),(23,vI ↑ys.length),(24,vI ↑i)]) (λ(i,S1,L1)=>[.aD o [.iface 109 (vP q),vP f,vI (au),.map (some am),vI ↑(n+1)] 113,.aD q [.iface 76 (vP f),.map (some km),vI ↑n] 111,.abs (bM Tryz.prog 3 am (kZ Z xs) an),.abs (bM Tryz.prog 3 km (iu fs) kn),pC b1 c,XD b2,pF f m t S1.X,pI m L1 S1.ar,pT t S1.X.cH S1.aJ L1 S1.us,pO S1.O L1,pD S1.O L1,pE S1.O L1,.abs R]) (0,S,L) [0,1,2,3,11,12,4,5,6,7,8,9,10] (⟨ag0 _,rfl,hI⟩) ?_)))))))))))))))))
 rintro⟨i,S1,L1⟩ ⟨hi,hs1,di⟩
 refine SR (jK 1 [25] [] (NN (aq.seq (cP ((((i:Nat):Int):Int)<(((ys.length:Nat):Int):Int)) (λpR=>KX (aq.seq (aq.block (SR (jN 4 [6] (λb3=>[(0,x_ i ys.length (M5 hrow (i:=i) zc)),(1,p_ ⟨[.old (.int .i64 ((act ys i).at_)),.old (.int .i64 ((act ys i).op)),.old (.string (act ys i).path),.old (.string (act ys i).to),.old (.string (act ys i).text)],none,none,none,none⟩ [(Rd β ⟨(bw D5),br D5+i*5+4,none⟩ (.string (act ys i).text)),(Rd β ⟨(bw D5),br D5+i*5+3,none⟩ (.string (act ys i).to)),(Rd β ⟨(bw D5),br D5+i*5+2,none⟩ (.string (act ys i).path)),(Rd β ⟨(bw D5),br D5+i*5+1,none⟩ (vI ((act ys i).op))),(Rd β ⟨(bw D5),br D5+i*5,none⟩ (vI ((act ys i).at_)))] ⟨qK hrow (i:=i) zc (j:=4) rfl,qK hrow (i:=i) zc (j:=3) rfl,qK hrow (i:=i) zc (j:=2) rfl,qK hrow (i:=i) zc (j:=1) rfl,qK hrow (i:=i) zc (j:=0) rfl,trivial⟩),(3,A_ 13 b3 5)]) (λ_=>[]) (λb3=>.aD b3 [vI ((act ys i).at_),vI ((act ys i).op),.string (act ys i).path,.string (act ys i).to,.string (act ys i).text] 68) (λb3=>NN (rM (List.range 10) 9 [0,13] (jR 9 [0,3,4,22,23,24,31,35,36] [(3,a_ 0 o),(7,a_ 0 o),(8,A_ 1 b3 5)] (ck.last rfl rfl (gX [6,7,8,9,10,11] (acz S1 L1 f m t di au hrw (act ys i) (hyb zc).path (hyb zc).to (hyb zc).text hg) (λL2=>NL (aB.np (BX (aq.region (jK 2 [24] [(0,wJ ((i:Int)+1) (↑(i+1)))] (NL (tJ ((i+1),(cO S1 au (act ys i)).2,L2) [6,7,8,9,10,11,0,1,2,3,4,5,12] (⟨zc,by rw [hs1];exact (TB zc).symm,di.cO⟩)))))))))))))))))) (λpR=>XX (aq.seq (rM (List.range 7) 5 [0,4] (jR 5 [4,42,43] [(3,a_ 0 o),(4,A_ 1 b1 13)] (mL [8,10] [1,3,6,7,8,9,10,11] (ael S1 L1 q f m t km kn n fs di hn k hk c hC) ?_ (by rintro _ _ ⟨L2,rfl,rfl⟩;rfl))))))))))
 rintro _ _ ⟨L2,rfl,rfl⟩
 refine ck.last rfl rfl (jC 1 [] [(0,A_ 11 b2 13)] [(11,(zC (aQ ((dY k S1 c).2))))] (NL (aB.np (NX (aq.ret ?_)))))
 have hs2:S1=SA:=by rw [hs1,show i=ys.length by omega,ahl];exact hSA
 subst hs2
 exact rT (.agg ⟨aQ ((dY k S1 c).2)⟩) [A_ 11 b2 13] [8,0,9,1,2,3,4,5,6,7,12] (⟨L2,rfl,rfl⟩)
end
section
open Go.RowKit Go.Maps bK aF
theorem Fo {β:Bs} (A:Option Addr) (c:Nat) (d:List UInt8) (hA:bF β A d) (hl:d.length<=1048576):cE Tryz.prog β 37 #[.slice A d.length c] [] (λβ' v l=>∃B cap,v=.slice B d.length cap/\l=[]/\bF β' B d/\d.length<=cap):=
 (Cq A c d hA zc).UB (by
  rintro v l ⟨B,cap,rfl,rfl⟩
  refine⟨[],_,rfl,λβ' h=>⟨B,cap,rfl,rfl,h.bytes,?_⟩⟩
  obtain⟨F,h1,_⟩:=h.get 0 rfl
  exact (aH.len h1).2)
theorem acA {β:Bs} (S:bB) (L:HL) (o q f m t am an km kn n:Nat) (Z:AZ) (fs:List dF) (xs:List dK) (au:Int) (hrw:(Lit.int .i64 au).wf=true) (hI:bR S) (hn:n<=8388608) (hZ:rP β Z xs) (hX:lG xs 1048576) (hg:pG β) (c:aN) (B:Option Addr) (p:Nat) {sK:Int} (ho:sK=if c.op=1 then au else c.other) (hC:kH β {dW B p c with other:=sK}) {S2:bB} {c2:aN} (hW:nJ fs xs au (n+1) S c=(S2,c2)) :
 aW Tryz.prog β 226 #[vP o,.agg ⟨aQ {dW B p c with other:=sK}⟩] ([oB o q f au am n,qB q f km n,aM am an Z xs,kM km kn fs]++pA f m t L S) (λv l=>∃L2,v=.agg ⟨aQ (dW B p c2)⟩/\l=[oB o q f au am (n+1),qB q f km (n+1),aM am an Z xs,kM km kn fs]++pA f m t L2 S2):=by
 have e:({dW B p c with other:=sK}:aN)=dW B p (cF au c):=by rw [QG ho];rfl
 rw [e] at hC ⊢
 have h:=aem S L o q f m t am an km kn n Z fs xs au hrw hI hn _ rfl hZ hX hg (dW B p (cF au c)) hC
 rw [LB] at h
 have hW:dY (iM fs ((n+1:Nat):Int)) (kJ au S (dO xs ((n+1:Nat):Int))) (cF au c)=(S2,c2):=hW
 rw [hW] at h
 exact h
end
section
open Go.RowKit Go.Maps bK aF
attribute [local irreducible] av bN aq aB ck
noncomputable abbrev zC1 (w)(f:Nat) (o) (au) (tA) (tr:List aN) (tC):=(.aD w [.iface 37 (vP w),vP f,.iface 108 (vP o),vI (au),.slice tA (tr.length) (tC)] 79:HP)
theorem acB {β:Bs} (S:bB) (L:HL) (w o q f m t am an km kn:Nat) (Z:AZ) (fs:List dF) (xs:List dK) (au:Int) (tr:List aN) (tA:Option Addr) (tC:Nat) (hrw:(Lit.int .i64 au).wf=true) (hI:bR S) (hn:tr.length<=8388607) (hZ:rP β Z xs) (hX:lG xs 1048576) (hg:pG β) (c:aN) (hD:bF β c.dA c.data) (hl:c.data.length<=1048576) (hw:(Lit.int .i64 c.aL).wf=true) (how:(Lit.int .i64 c.other).wf=true) (hnm:c.name.size<=1048576) (yt:c.text.size<=1048576) (bZ:tW c.op) {S2:bB} {c2:aN} (hW:nJ fs xs au (tr.length+1) S c=(S2,c2)) :
 cE Tryz.prog β 11 #[vP w,.agg ⟨aQ c⟩] [zC1 w f o au tA tr tC,.aD o [.iface 109 (vP q),vP f,vI (au),.map (some am),vI (((tr.length:Nat):Int))] 113,.aD q [.iface 76 (vP f),.map (some km),vI (((tr.length:Nat):Int))] 111,.abs (bM Tryz.prog 3 am (kZ Z xs) an),.abs (bM Tryz.prog 3 km (iu fs) kn),.abs (aH 53 13 tA tr.length tC (cI aQ tr)),pF f m t S.X,pI m L S.ar,pT t S.X.cH S.aJ L S.us,pO S.O L,pD S.O L,pE S.O L] (λβ' v l=>∃B1 p1 B2 p2 A' k' L2,v=.agg ⟨aQ (dW B2 p2 c2)⟩/\l=[.aD w [.iface 37 (vP w),vP f,.iface 108 (vP o),vI (au),.slice A' ((tr.length+1)) (k')] 79,.aD o [.iface 109 (vP q),vP f,vI (au),.map (some am),vI ((((tr.length+1):Nat):Int))] 113,.aD q [.iface 76 (vP f),.map (some km),vI ((((tr.length+1):Nat):Int))] 111,.abs (bM Tryz.prog 3 am (kZ Z xs) an),.abs (bM Tryz.prog 3 km (iu fs) kn),.abs (aH 53 13 A' (tr.length+1) k' (cI aQ (tr++[dW B1 p1 c2]))),pF f m t S2.X,pI m L2 S2.ar,pT t S2.X.cH S2.aJ L2 S2.us,pO S2.O L2,pD S2.O L2,pE S2.O L2]/\bF β' B1 c2.data/\bF β' B2 c2.data/\c2.data.length<=p2):=by
 have hd2:c2.data=c.data:=by have h:=Gt (fs:=fs) (xs:=xs) (au:=au) (n:=tr.length+1) (S:=S) (c:=c);rw [hW] at h;exact h
 refine oI Tryz.func11 Tryz.ntmps11 (λaE R=>SR (jB 1 [3] (λb1=>.aD b1 (aQ c) 53) (λb1=>jB 1 [4] (λb2=>.aD b2 [vI 0,vI 0,vI 0,.string ⟨#[]⟩,.string ⟨#[]⟩,.slice none (0) (0),vI 0,vI 0,vI 0,vI 0,vI 0,vI 0,vI 0] 53) (λb2=>NS (jK 2 [6] [(1,a_ 13 b1)] (jx [] (Fo c.dA c.dC c.data hD hl) ?_))))))
 rintro yP _ _ iK ⟨B1,p1,rfl,rfl,D4,hp1⟩
 replace hZ:=hZ.le iK
 replace hg:=hg.le iK
 replace aE:=aE.trans iK
 refine jC 2 [] [(1,a_ 13 b1)] [(13,[(5,.slice B1 (c.data.length) (p1))])] (NN (aq.join (ι:=Int) (λ(sK:Int)=>(sK=if c.op=1 then au else c.other)/\((Lit.int .i64 sK).wf=true)) (λ(sK:Int)=>[(0,vP w),(3,vP b1),(4,vP b2)]) (λ(sK:Int)=>[zC1 w f o au tA tr tC,.aD o [.iface 109 (vP q),vP f,vI (au),.map (some am),vI ↑tr.length] 113,.aD q [.iface 76 (vP f),.map (some km),vI ↑tr.length] 111,.abs (bM Tryz.prog 3 am (kZ Z xs) an),.abs (bM Tryz.prog 3 km (iu fs) kn),.abs (aH 53 13 tA tr.length tC (cI aQ tr)),pF f m t S.X,pI m L S.ar,pT t S.X.cH S.aJ L S.us,pO S.O L,pD S.O L,pE S.O L,.abs R,.aD b1 (aQ (fX {c with other:=sK} B1 p1)) 53,XD b2]) ?_ (SR (jK 3 [11] [(1,a_ 13 b1)] (NN (cP ((c.op:Int)=(1:Int)) (λh11=>aq.region (jC 6 [] [(3,a_ 0 w),(5,a_ 13 b1)] [(13,[(2,vI (au))])] (NL (mJ au [0,1,2,3,4,5,6,7,8,9,10,11,12,13,14] (⟨(agW h11).symm,hrw⟩))))) (λh11=>aq.skip (mJ c.other [0,1,2,3,4,5,6,7,8,9,10,11,12,13,14] (⟨(agV h11).symm,how⟩)))))))))
 rintro sK ⟨hoth,how⟩
 refine aq.seq (rM (List.range 7) 5 [0,13] (jR 5 [0,3,4,20,21] [(3,a_ 0 w),(4,A_ 1 b1 13)] (mL [10,13] [1,2,3,4,6,7,8,9,10,11] (acA (β:=yP) S L o q f m t am an km kn tr.length Z fs xs au hrw hI zc hZ hX hg c B1 p1 hoth ⟨hw,how,hnm,yt,D4,ag1 hl Pd,hp1,bZ⟩ hW) ?_ (by rintro _ _ ⟨L2,rfl,rfl⟩;rfl))))
 rintro _ _ ⟨L2,rfl,rfl⟩
 refine ck.last rfl rfl (jC 1 [] [(0,A_ 13 b1 13)] [(13,(zC (aQ (fX c2 B1 p1))))] (NL (aB.np (NX (aq.seq (rM (List.range 11) 6 [10,13] (jR 6 [3,4,23,27,28] [(4,a_ 0 w),(5,A_ 1 b1 13)] (mN [10,13] (λb4=>[(29,.slice (some ⟨b4,0,none⟩) (1) (1))]) (λ_=>[]) (λb4=>.aD b4 (aQ (fX c2 B1 p1)) 53) (λb4=>ck.cut (ι:=(Option Addr)×Nat) (bU:=λ((A5,c6):(Option Addr)×Nat)=>[(3,vP b1),(4,vP b2),(23,vP w),(30,.slice A5 ((tr.length+1)) (c6))]) (dI:=λ((A5,c6):(Option Addr)×Nat)=>([.aD o [.iface 109 (vP q),vP f,vI (au),.map (some am),vI ↑(tr.length+1)] 113,.aD q [.iface 76 (vP f),.map (some km),vI ↑(tr.length+1)] 111,.abs (bM Tryz.prog 3 am (kZ Z xs) an)]++XE km fs kn f m t S2 L2++[zC1 w f o au tA tr tC,.abs (aH 53 13 A5 (tr.length+1) c6 (cI aQ (tr++[dW B1 p1 c2]))),.abs R,.aD b1 (aQ (fX c2 B1 p1)) 53,XD b2,.aD b4 (aQ (fX c2 B1 p1)) 53])) [10,13] rfl rfl ?_ rfl (λ_=>KB) ?_)))))))))
 ·exact av.append 11 (d:=(some 30)) (t:=35) (e:=53) (z:=.agg #[vI 0,vI 0,vI 0,.string ⟨#[]⟩,.string ⟨#[]⟩,.slice none (0) (0),vI 0,vI 0,vI 0,vI 0,vI 0,vI 0,vI 0]) (size:=13) (bytes:=136) (n:=tr.length) (cap:=tC) (A:=tA) (xs:=(cI aQ tr)) (s:=(.tmp 27)) (x:=(.tmp 29)) (ats:=#[35,35]) (A':=some ⟨b4,0,none⟩) (m:=1) (c':=1) (news:=[vI (c2.op),vI (c2.aL),vI (c2.other),.string c2.name,.string c2.text,.slice B1 (c2.data.length) (p1),vI (c2.mode),vI (c2.bg),vI (c2.bh),vI (c2.aU),vI (c2.aI),vI (c2.code),vI (c2.answer)]) (λ_=>KB) rfl KB (λ_=>KB) (λ_=>KB) Tryz.underlying35 KB rfl Pd (rfl) (by simp [Value.oneCell']) (fP (j:=15) rfl) (by unfold maxLen;omega) zc (λA5 c6=>av.cL 11 (p':=.abs (aH 53 13 A5 (tr.length+1) c6 (cI aQ (tr++[dW B1 p1 c2])))) rfl (agX (λx=>HP.abs (aH 53 13 _ _ _ x)) (zf aQ (dW B1 p1 c2) tr).symm) (sl 30 (.slice A5 (tr.length+1) (c6)) (.slice A5 ((tr.length+1)) (c6)) (rfl) (NL (MD (A5,c6) [3,4,23,30] [0,1,2,3,4,5,6,7,8,9,10,11,12,13,14,15]))))
 rintro⟨A5,c6⟩
 refine nC [10,13] [31] [] [] (nC [10,13] [32] [] [] (ck.last rfl rfl (jC 1 [] [(0,a_ 10 w)] [(10,[(4,.slice A5 ((tr.length+1)) (c6))])] (NL (aB.np (NX (SR (jK 2 [34] [(1,a_ 13 b1)] (jx [] (Fo B1 p1 c2.data (by rw [hd2];exact D4) (by rw [hd2];exact hl)) ?_)))))))))
 rintro ES _ _ kA ⟨B2,p2,rfl,rfl,Fk,hp2⟩
 replace D4:=D4.le kA
 replace aE:=aE.trans kA
 exact jC 2 [] [(1,a_ 13 b1)] [(13,[(5,.slice B2 (c2.data.length) (p2))])] (NS (jC 2 [] [(0,A_ 13 b1 13),(1,A_ 14 b2 13)] [(14,(zC (aQ (fX c2 B2 p2))))] (eO (v:=(.agg ⟨aQ (fX c2 B2 p2)⟩)) [A_ 14 b2 13] aE ⟨B1,p1,B2,p2,A5,c6,L2,rfl,rfl,by rw [hd2];exact D4,Fk,hp2⟩ [10,0,1,2,3,11,4,5,6,7,8,9,12])))
end
section
open Go.RowKit Go.Maps bK aF
section d
variable {β:Bs} {fs:List dF} {xs:List dK} {au:Int} {S S2:bB} {V:WV} {tr:List aN} {c c2:aN} {G:WG}
theorem J6 (hrw:(Lit.int .i64 au).wf=true) (hI:bR S) (hn:tr.length<=8388607) (hZ:rP β G.Z xs) (hX:lG xs 1048576) (hg:pG β) (hD:bF β c.dA c.data) (hl:c.data.length<=1048576) (hw:(Lit.int .i64 c.aL).wf=true) (how:(Lit.int .i64 c.other).wf=true) (hnm:c.name.size<=1048576) (yt:c.text.size<=1048576) (bZ:tW c.op) (hW:nJ fs xs au (tr.length+1) S c=(S2,c2)) :
 cE Tryz.prog β 11 #[vP G.w,.agg ⟨aQ c⟩] [wA G fs xs au S V tr] (λβ' v l=>∃(V':WV) (B1:Option Addr) (p1:Nat) (B2:Option Addr) (p2:Nat),v=.agg ⟨aQ (dW B2 p2 c2)⟩/\l=[wA G fs xs au S2 V' (tr++[dW B1 p1 c2])]/\bF β' B1 c2.data/\bF β' B2 c2.data/\c2.data.length<=p2):=
 (acB S V.L G.w G.o G.q G.f G.m G.t G.am G.an G.km G.kn G.Z fs xs au tr V.A V.c hrw hI hn hZ hX hg c hD hl hw how hnm yt bZ hW).one.mono (by
  rintro β' v l _ ⟨l0,⟨B1,p1,B2,p2,A',k',L2,rfl,rfl,h1,h2,h3⟩,rfl⟩
  refine⟨⟨L2,A',k'⟩,B1,p1,B2,p2,rfl,?_,h1,h2,h3⟩
  unfold wA wP tR
  rw [ag4]
  rfl)
theorem ME:aW Tryz.prog β 29 #[vP G.w] [wA G fs xs au S V tr] (λv l=>v=.int .i64 (tr.length:Int)/\l=[wA G fs xs au S V tr]):=
 (UI S V.L G.w G.o G.q G.f G.m G.t G.am G.an G.km G.kn G.Z fs xs au tr V.A V.c).one.mono (by rintro v l ⟨l0,⟨rfl,rfl⟩,rfl⟩;exact⟨rfl,rfl⟩)
theorem aax:aW Tryz.prog β 40 #[vP G.w] [wA G fs xs au S V tr] (λv l=>v=.int .i64 (S.us.length:Int)/\l=[wA G fs xs au S V tr]):=
 (XB S V.L G.w G.o G.q G.f G.m G.t G.am G.an G.km G.kn G.Z fs xs au tr V.A V.c).one.mono (by rintro v l ⟨l0,⟨rfl,rfl⟩,rfl⟩;exact⟨rfl,rfl⟩)
theorem aay:aW Tryz.prog β 41 #[vP G.w] [wA G fs xs au S V tr] (λv l=>v=.int .i64 S.aJ/\l=[wA G fs xs au S V tr]):=
 (XC S V.L G.w G.o G.q G.f G.m G.t G.am G.an G.km G.kn G.Z fs xs au tr V.A V.c).one.mono (by rintro v l ⟨l0,⟨rfl,rfl⟩,rfl⟩;exact⟨rfl,rfl⟩)
theorem MF (hI:bR S):aW Tryz.prog β 30 #[vP G.w] [wA G fs xs au S V tr] (λv l=>∃A cp K,v=.agg #[.slice A (aX S).length cp]/\l=[wA G fs xs au S V tr]++KF A cp (aX S) K):=by
 intro R w hS
 have h1:aR β ([.abs R]++[wA G fs xs au S V tr]) w:=aR.turn hS
 refine (UJ S V.L G.w G.o G.q G.f G.m G.t G.am G.an G.km G.kn G.Z fs xs au tr V.A V.c hI R w (aR.turn (aR.sQ h1))).mono ?_
 rintro e w' ⟨v,l,h2,⟨A,cp,K,h3,rfl⟩,h4⟩
 refine⟨v,_,h2,⟨A,cp,K,h3,rfl⟩,?_⟩
 rw [ahp] at h4
 have h5:=(aR.turn h4).gU
 rw [ahp] at h5 ⊢
 exact aR.turn h5
theorem UK (hI:bR S):cE Tryz.prog β 30 #[vP G.w] [wA G fs xs au S V tr] (λβ' v l=>∃A cp K,v=.agg #[.slice A (aX S).length cp]/\l=[wA G fs xs au S V tr]/\aP β' A (aX S) K):=
 (MF hI).UB (by
  rintro v l ⟨A,cp,K,rfl,rfl⟩
  exact⟨_,_,rfl,λβ' h=>⟨A,cp,K,rfl,rfl,h.graph⟩⟩)
theorem acC {ns:List aO} {Y:eV} {X:FM} (A:Option Addr) (cp:Nat) (hG:aP β A ns Y) (hB:jZ ns 1048576) {Af Aa:Option Addr} (cf ca:Nat) (hF:cC β Af (cI jb fs)) (oL:kR fs 2097152) (hA:cC β Aa (cI kg xs)) (d8:lG xs 1048576) :
 cE Tryz.prog β 18 #[.agg #[.slice A ns.length cp],.int .i64 au,.agg #[.int .i64 X.cN,.int .i64 X.cB,.int .i64 X.cH,.int .i64 X.cS,.int .i64 X.cZ],.agg #[.slice Af fs.length cf,.slice Aa xs.length ca]] [] (λβ' v l=>(fC X ns au≠0/\v=.tuple #[.pointer none,.int .i64 (fC X ns au)]/\l=[])\/(fC X ns au=0/\∃(N:DP X ns) (G:WG) (V:WV),v=.tuple #[vP G.w,.int .i64 0]/\l=[wA G fs xs au N.1 V []]/\rP β' G.Z xs)):=
 ((aaw A cp ns Y hG hB X au Af cf fs hF oL Aa ca xs hA d8).adr (by
   rintro β' v l (⟨h1,h2,rfl⟩|⟨h1,N,L,w,o,q,f,m,t,am,an,km,kn,Z,h2,rfl,h3⟩)
   ·exact .inl ⟨rfl,.inl ⟨h1,h2,rfl⟩⟩
   exact .inr (.inr ⟨h1,N,⟨w,o,q,am,km,an,kn,f,m,t,Z⟩,⟨L,none,0⟩,h2,rfl,h3⟩)))
end d
end
section
open Go.RowKit Go.Maps bK aF
attribute [local irreducible] av bN aq aB fN
theorem UM {β:Bs} {S:bB} {g:List Int} (hp:Pair S g) (Y:RL) (hR:dz β (toR S g) Y) (G:WG) (fs:List dF) (xs:List dK) (au:Int) (V:WV) (tr:List aN) (U:UL) (nf na:Nat) {n:Nat} (hn:(tr.length:Int)=(n:Int)) :
 aW Tryz.prog β 14 #[vP G.w,.agg ⟨uV (toR S g) Y au U nf na ((n:Nat):Int)⟩] [wA G fs xs au S V tr] (λv l=>v=.bool true/\l=[wA G fs xs au S V tr]):=by
 have hI:bR S:=hp.inv
 refine SE Tryz.func14 Tryz.ntmps14 (λR=>SR (jN 2 [3] (λ_=>[]) (λ_=>[]) (λb1=>.aD b1 (uV (toR S g) Y au U nf na (↑n)) 47) (λb1=>NN (aq.seq (jM [0,2,3,4,501,505,6,7,9,10,11,12,13,508,14,15,16,17,19,20,21,22,518,23,24,25,26,28,29,527,30,31,532] [2] (jG 4 [0,3,5,9] [(3,a_ 0 b1)] (kL [5] [0] (MF (G:=G) (fs:=fs) (xs:=xs) (au:=au) (S:=S) (V:=V) (tr:=tr) hI) ?_ (by rintro _ _ ⟨Ao,co,Ko,rfl,rfl⟩;kernel_rfl))))))))
 rintro _ _ ⟨Ao,co,Ko,rfl,rfl⟩
 refine kL [5] [1,2,3] (MR Ao Y.A co Y.c (aX S) (aX S) Ko Y.L hR.n (aas hI.toInv0) (aah hI.toInv0) (ahh rfl)) ?_ (by rintro _ _ ⟨rfl,rfl⟩;kernel_rfl)
 rintro _ _ ⟨rfl,rfl⟩
 refine jG 7 [0,3,11,12,18] [(5,a_ 0 b1)] (kL [5] [3] ((aax (G:=G) (fs:=fs) (xs:=xs) (au:=au) (S:=S) (V:=V) (tr:=tr)).val (agX (Value.int .i64) (show (S.us.length:Int)=((toR S g).us.length:Int) from agX Nat.cast CM.symm))) ?_ (by rintro _ _ ⟨rfl,rfl⟩;kernel_rfl))
 rintro _ _ ⟨rfl,rfl⟩
 refine jG 8 [0,3,21,22,27] [(0,p_ ⟨[],none,none,none,some (.bool true)⟩ [(Value.bool (decide (((((toR S g).us.length:Nat):Int):Int)=((((toR S g).us.length:Nat):Int):Int))))=(.bool true)] ⟨agU,trivial⟩),(7,a_ 0 b1)] (kL [5] [0] ((aay (G:=G) (fs:=fs) (xs:=xs) (au:=au) (S:=S) (V:=V) (tr:=tr)).val (agX (Value.int .i64) (show S.aJ=(toR S g).aJ from rfl))) ?_ (by rintro _ _ ⟨rfl,rfl⟩;kernel_rfl))
 rintro _ _ ⟨rfl,rfl⟩
 refine jG 6 [30,31,34] [(0,p_ ⟨[],none,none,none,some (.bool true)⟩ [(Value.bool (decide (((toR S g).aJ:Int)=((toR S g).aJ:Int))))=(.bool true)] ⟨agU,trivial⟩),(5,a_ 0 b1)] (kL [5] [0] ((ME (G:=G) (fs:=fs) (xs:=xs) (au:=au) (S:=S) (V:=V) (tr:=tr)).val (agX (Value.int .i64) hn)) ?_ (by rintro _ _ ⟨rfl,rfl⟩;kernel_rfl))
 rintro _ _ ⟨rfl,rfl⟩
 exact jG 2 [36] [(0,p_ ⟨[],none,none,none,some (.bool true)⟩ [(Value.bool (decide ((((n:Nat):Int):Int)=(((n:Nat):Int):Int))))=(.bool true)] ⟨agU,trivial⟩)] (fN.last KB (jK 1 [4] [] (NL (aB.np (NX (aq.ret (RT (.bool true) [0,4] (⟨rfl,rfl⟩))))))))
end
section
open Go.RowKit Go.Maps bK aF
section n
variable {β:Bs} {X:FM} {ns:List aO} {Y:eV} {fs:List dF} {xs:List dK} {Af Aa:Option Addr} {au:Int}
theorem XG (h0:¬fC X ns au=0) (A:Option Addr) (c:Nat) (hG:aP β A ns Y) (hB:jZ ns 1048576) (cf:Nat) (hF:cC β Af (cI jb fs)) (oL:kR fs 2097152) (ca:Nat) (hA:cC β Aa (cI kg xs)) (d8:lG xs 1048576) :
 cE Tryz.prog β 8 #[.agg #[.slice A ns.length c],.int .i64 au,.agg #[.int .i64 X.cN,.int .i64 X.cB,.int .i64 X.cH,.int .i64 X.cS,.int .i64 X.cZ],.agg #[.slice Af fs.length cf,.slice Aa xs.length ca]] [] (λ_ v l=>v=.tuple #[.agg ⟨rZ++[.int .i64 0,.slice none 0 0,.slice none 0 0,.int .i64 0]⟩,.int .i64 (fC X ns au)]/\l=[]):=
 (SJ A c hG hB au cf hF oL ca hA d8).mono (by
  rintro β' v l _ (⟨_,h1,h2⟩|⟨h,_⟩)
  ·exact⟨h1,h2⟩
  exact agY h h0)
theorem XH (h0:fC X ns au=0) (N:DP X ns) (A:Option Addr) (c:Nat) (hG:aP β A ns Y) (hB:jZ ns 1048576) (cf:Nat) (hF:cC β Af (cI jb fs)) (oL:kR fs 2097152) (ca:Nat) (hA:cC β Aa (cI kg xs)) (d8:lG xs 1048576) :
 cE Tryz.prog β 8 #[.agg #[.slice A ns.length c],.int .i64 au,.agg #[.int .i64 X.cN,.int .i64 X.cB,.int .i64 X.cH,.int .i64 X.cS,.int .i64 X.cZ],.agg #[.slice Af fs.length cf,.slice Aa xs.length ca]] [] (λβ' v l=>∃Y' U,v=.tuple #[.agg ⟨uV (toR N.1 []) Y' au U fs.length xs.length 0⟩,.int .i64 0]/\l=[]/\dz β' (toR N.1 []) Y'/\Mw β' U fs xs):=by
 refine (SJ A c hG hB au cf hF oL ca hA d8).mono ?_
 rintro β' v l _ (⟨h,_⟩|⟨_,B,cp,K,U,rfl,rfl,h1,h2⟩)
 ·exact agY h0 h
 have e:=(Mu N.2 (Fl h0).2).2
 rw [e]
 refine⟨⟨B,cp,K,none,0,none,0,none,0⟩,U,?_,rfl,⟨⟨cC.nil,cC.nil,cC.nil⟩,h1⟩,h2⟩
 have hl:(if ns.length=0 then 0 else (nd ns (ns.length-1)).id)=qQ ns ns.length:=by cases ns.length<;>rfl
 rw [hl]
 rfl
end n
theorem XI {β:Bs} {S S2:bB} {g:List Int} {c c2:aN} (hp:Pair S g) (Y:RL) (hR:dz β (toR S g) Y) (au:Int) (U:UL) (fs:List dF) (xs:List dK) (k:Nat) (hk:k<=1048576) (hU:Mw β U fs xs) (hfl:fs.length<=2097152) (hX:lG xs 1048576) (hD:nJ fs xs au (k+1) S c=(S2,c2)) (hn:c.name.size<=1048576) (ht:c.text.size<=1048576) (hb:bF β c.dA c.data) (hl:c.data.length<=140737488355328) (hc:c.data.length<=c.dC) :
 aW Tryz.prog β 10 #[.agg ⟨uV (toR S g) Y au U fs.length xs.length k⟩,.agg ⟨aQ c⟩] [] (λv l=>∃g' Y' B p,v=.tuple #[.agg ⟨uV (toR S2 g') Y' au U fs.length xs.length ((k+1:Nat):Int)⟩,.agg ⟨aQ (fX c2 B p)⟩]/\l=[.abs (ko β (λβ'=>Pair S2 g'/\dz β' (toR S2 g') Y'/\bF β' B c2.data))]):=
 (cE.Jr (ι:=List Int×RL×Option Addr×Nat) (vv:=λx=>.tuple #[.agg ⟨uV (toR S2 x.1) x.2.1 au U fs.length xs.length ((k+1:Nat):Int)⟩,.agg ⟨aQ (fX c2 x.2.2.1 x.2.2.2)⟩]) (ll:=λ_=>[]) (Φ:=λx β'=>Pair S2 x.1/\dz β' (toR S2 x.1) x.2.1/\bF β' x.2.2.1 c2.data)
  ((aaq hp Y hR au U fs xs k hk hU.f hfl hU.x hX hD hn ht hb hl hc).mono (by rintro β' v l _ ⟨g',Y',B,p,rfl,rfl,h1,h2,h3⟩;exact⟨(g',Y',B,p),rfl,rfl,h1,h2,h3⟩))).mono (by rintro v l ⟨⟨g',Y',B,p⟩,rfl,rfl⟩;exact⟨g',Y',B,p,rfl,rfl⟩)
section c
variable {S S2:bB} {β:Bs} {c c2 x q out:aN} {f m t:Nat} {L:HL}
structure agA (β:Bs) (c:aN):Prop where
 hw:(Lit.int .i64 c.aL).wf=true
 ow:(Lit.int .i64 c.other).wf=true
 nm:c.name.size<=1048576
 tx:c.text.size<=1048576
 da:bF β c.dA c.data
structure ByR (β:Bs) (S:bB) (op:Int) (S2:bB) (q c2 out:aN):Prop where
 did:gF S q=(S2,c2)
 ok:kH β q
 dl:q.data.length<=1048576
 ans:out.answer=c2.answer
 code:out.code=c2.code
 st:op=11\/op=12->out.other=c2.other/\out.mode=c2.mode/\out.bg=c2.bg/\out.bh=c2.bh/\out.aU=c2.aU/\out.aI=c2.aI
end c
end
section
open Go.RowKit
theorem UN {w:World} {o:Oper} {ev:Operand->Value} {x y:Operand} {a b c d:Int} (ho:o.op=.binOp .eql 26 x y 26) (hx:ev x=.agg #[.int .i64 a,.int .i64 b]) (hy:ev y=.agg #[.int .i64 c,.int .i64 d]) :
 sG Tryz.prog ev o w (.bool (decide (a=c/\b=d))) w:=by
 obtain⟨dst,op,type,pos,after,guard⟩:=o
 cases ho
 refine .inl ?_
 simp only [execOp,hx,hy]
 simp [go_sem]
 by_cases h1:a=c<;>by_cases h2:b=d<;>simp [h1,h2]
end
section
open Go.RowKit Go.Maps bK aF
attribute [local irreducible] av bN aq aB
theorem Fq {β:Bs} (c:aN) (A1 A2:Option Addr) (p1 p2:Nat) (h1:bF β A1 c.data) (h2:bF β A2 c.data) (hl:c.data.length<=140737488355328) :
 aW Tryz.prog β 13 #[.agg ⟨aQ (fX c A1 p1)⟩,.agg ⟨aQ (fX c A2 p2)⟩] [] (λv l=>v=.bool true/\l=[]):=by
 exact SE Tryz.func13 Tryz.ntmps13 (λR=>SR (jB 1 [2] (λb1=>.aD b1 (aQ (fX c A1 p1)) 53) (λb1=>jB 2 [3] (λb2=>.aD b2 (aQ (fX c A2 p2)) 53) (λb2=>NS (jK 59 [59,61,63] [(1,a_ 1 b1),(3,a_ 2 b2),(4,p_ ⟨[],none,none,none,some (.bool true)⟩ [(Value.bool (decide ((c.op:Int)=(c.op:Int))))=(.bool true)] ⟨agU,trivial⟩),(7,a_ 1 b1),(9,a_ 2 b2),(10,p_ ⟨[],none,none,none,some (.bool true)⟩ [(Value.bool (decide ((c.aL:Int)=(c.aL:Int))))=(.bool true)] ⟨agU,trivial⟩),(14,a_ 1 b1),(16,a_ 2 b2),(17,p_ ⟨[],none,none,none,some (.bool true)⟩ [(Value.bool (decide ((c.other:Int)=(c.other:Int))))=(.bool true)] ⟨agU,trivial⟩),(21,a_ 1 b1),(23,a_ 2 b2),(24,p_ ⟨[],none,none,none,some (.bool true)⟩ [(Value.bool ((c.name:ByteArray).toList == (c.name:ByteArray).toList))=(.bool true)] ⟨agU,trivial⟩),(28,a_ 1 b1),(30,a_ 2 b2),(31,p_ ⟨[],none,none,none,some (.bool true)⟩ [(Value.bool ((c.text:ByteArray).toList == (c.text:ByteArray).toList))=(.bool true)] ⟨agU,trivial⟩),(35,a_ 1 b1),(37,a_ 2 b2),(38,p_ ⟨[],none,none,none,some (.bool true)⟩ [(Value.bool (decide ((c.mode:Int)=(c.mode:Int))))=(.bool true)] ⟨agU,trivial⟩),(42,a_ 1 b1),(44,a_ 2 b2),(45,p_ ⟨[],none,none,none,some (.bool true)⟩ [(Value.bool (decide ((c.bg:Int)=(c.bg:Int))))=(.bool true)] ⟨agU,trivial⟩),(49,a_ 1 b1),(51,a_ 2 b2),(52,p_ ⟨[],none,none,none,some (.bool true)⟩ [(Value.bool (decide ((c.bh:Int)=(c.bh:Int))))=(.bool true)] ⟨agU,trivial⟩),(56,A_ 1 b1 2),(58,A_ 2 b2 2)] (av.nP (d:=(some 64)) (op:=.binOp .eql 26 (.tmp 61) (.tmp 63) 26) (v:=.bool (decide ((c.aU:Int)=(c.aU:Int)/\(c.aI:Int)=(c.aI:Int)))) (λ_=>KB) (λo ai w ho hS=>⟨w,UN ho KB KB,hS⟩) (sl 64 (.bool (decide ((c.aU:Int)=(c.aU:Int)/\(c.aI:Int)=(c.aI:Int)))) (.bool true) (agX Value.bool agU) (jK 20 [80,82,84] [(3,a_ 1 b1),(5,a_ 2 b2),(6,p_ ⟨[],none,none,none,some (.bool true)⟩ [(Value.bool (decide ((c.code:Int)=(c.code:Int))))=(.bool true)] ⟨agU,trivial⟩),(10,a_ 1 b1),(12,a_ 2 b2),(13,p_ ⟨[],none,none,none,some (.bool true)⟩ [(Value.bool (decide ((c.answer:Int)=(c.answer:Int))))=(.bool true)] ⟨agU,trivial⟩),(17,a_ 1 b1),(19,a_ 2 b2)] (gE [] (Eh A1 A2 p1 p2 c.data c.data h1 h2 hl) (jK 2 [4] [] (eN (v:=(.bool (decide (c.data=c.data)))) ⟨agX Value.bool (ahh rfl),rfl⟩ [0])))))))))))
end
section
open Go.RowKit Go.Maps bK aF
def bare (c:aN):aN:=dW none 0 c
theorem acD {A:Option Addr} {m:Nat} {c:aN}:bare (dW A m c)=bare c:=rfl
theorem XJ {c d:aN} (h:bare c=bare d):c.data=d.data:=by
 have e:(bare c).data=(bare d).data:=by rw [h]
 exact e
theorem acE {c d:aN} (h:bare c=bare d):d=dW d.dA d.dC c:=by
 show dW d.dA d.dC (bare d)=dW d.dA d.dC (bare c)
 rw [h]
theorem Fs {α:Type} (f:α->List Value) (ys:List α):∀xs:List α,cI f (xs++ys)=cI f xs++cI f ys
 |[]=>rfl
 |a::r=>by
   rw [ahB,Ds,Ds,Fs f ys r,ahp]
theorem SK {os tr:List aN} (h:os.map bare=tr.map bare) (i:Nat):bare (cM os i)=bare (cM tr i):=by
 have h1:=agX (λl=>l[i]?) h
 simp only [List.getElem?_map] at h1
 unfold cM
 rw [ahy,ahy]
 cases e1:os[i]?<;>cases e2:tr[i]?<;>rw [e1,e2] at h1<;>simp at h1 ⊢
 exact h1
theorem SL {os tr:List aN} (h:os.map bare=tr.map bare):os.length=tr.length:=by
 have:=agX List.length h
 simpa using this
structure mZ (β:Bs) (A:Option Addr) (os:List aN):Prop where
 row:cC β A (cI aQ os)
 dat:wv β os
section t
variable {β β':Bs} {A:Option Addr} {os tr:List aN} {i j:Nat} {v:Value} {B:Option Addr} {p:Nat}
theorem mZ.le (h:mZ β A os) (g:β.le β'):mZ β' A os:=⟨h.row.le g,h.dat.le g⟩
theorem mZ.hd (h:mZ β A os) (hi:i<os.length):A=some ⟨bw A,br A,none⟩:=(Jm (s:=13) (j:=0) h.row (λ_=>rfl) (uU hi) rfl).1
theorem mZ.rd (h:mZ β A os) (hi:i<os.length) (hv:(aQ (cM os i))[j]?=some v):Rd β ⟨bw A,br A+i*13+j,none⟩ v:=(Jm h.row (λ_=>rfl) (uU hi) hv).2
theorem zE (hi:i<os.length):cM os i∈os:=aht (uU hi)
theorem aff (ho:os.length=i) (hi:i<tr.length):(os++tr.drop i)[i]?=some (cM tr i):=by
 rw [ahQ zc,ho,Nat.sub_self,List.getElem?_drop,Nat.add_zero]
 exact uU hi
theorem aen (ho:os.length=i) (hi:i<tr.length) {v:Value} (hj:j<13) (hv:(aQ (cM tr i))[j]?=some v):(cI aQ (os++tr.drop i))[i*13+j]?=some v:=(LC (f:=aQ) (s:=13) (λ_=>rfl) (aff ho hi) hj).trans hv
theorem aeo (ho:os.length=i) (hi:i<=tr.length):(os++tr.drop i).length=tr.length:=by
 rw [ag4,List.length_drop];omega
theorem aep (ho:os.length=i) (hi:i<tr.length):(cI aQ (os++tr.drop i)).set (i*13+5) (.slice B (cM tr i).data.length p)=cI aQ ((os++[dW B p (cM tr i)])++tr.drop (i+1)):=by
 have e:tr.drop i=cM tr i::tr.drop (i+1):=by
  rw [ahJ hi]
  have:=uU hi
  rw [ag9 hi] at this
  injection this with this
  rw [this]
 have hl:(cI aQ os).length=i*13:=by rw [ye (f:=aQ) (s:=13) (λ_=>rfl),ho]
 rw [e,Fs,Ds,List.set_append_right _ _ zc,hl,Nat.add_sub_cancel_left,List.set_append_left _ _ (by show 5<13;decide),Fs,zf,ahp]
 rfl
theorem aer {c:aN} (hm:os.map bare=(tr.take i).map bare) (hi:i<tr.length) (hc:bare c=bare (cM tr i)):(os++[c]).map bare=(tr.take (i+1)).map bare:=by
 rw [ahq,uU hi,ahv,ahv,hm]
 show _++[bare c]=_++[bare (cM tr i)]
 rw [hc]
theorem Qk (c d:aN) (h:bare c=bare d) (h1:bF β c.dA c.data) (h2:bF β d.dA d.data) (hl:c.data.length<=140737488355328):aW Tryz.prog β 13 #[.agg ⟨aQ c⟩,.agg ⟨aQ d⟩] [] (λv l=>v=.bool true/\l=[]):=by
 have e:=acE h
 rw [←XJ h] at h2
 rw [e]
 exact Fq c c.dA d.dA c.dC d.dC h1 h2 hl
end t
end
section
open Go.RowKit Go.Maps bK aF
attribute [local irreducible] av bN aq aB
noncomputable abbrev yP1 (o)(q:Nat) (f:Nat) (au) (am) (tr:List aN):=(.aD o [.iface 109 (vP q),vP f,vI (au),.map (some am),vI ↑tr.length] 113:HP)
noncomputable abbrev yP2 (q:Nat) (f:Nat) (km) (tr:List aN):=(.aD q [.iface 76 (vP f),.map (some km),vI ↑tr.length] 111:HP)
theorem Ql {β:Bs} (c:Nat):aW Tryz.prog β 42 #[.slice none 0 c] [] (λv l=>∃B cap,v=.slice B 0 cap/\l=[.abs (aH 53 13 B 0 cap [])]):=by
 exact SE Tryz.func42 Tryz.ntmps42 (λR=>SR (jK 1 [] [] (NZ (jK 2 [4] [] (NT (SR (jK 1 [2] [] (NN (aq.ret (aB.bD (aB.mem (λw hS=>(hS.mB (e:=53) (size:=13)).pick (ar:=[1,0]) (l':=[.abs (aH 53 13 none 0 0 ([])),.abs R]) rfl KB) (RT (.slice none (0) (0)) [0,1] (⟨none,0,rfl,rfl⟩)))))))))))))
theorem MS {β:Bs} (a:Addr) (c:Nat) (d:List aN) (hA:cC β (some a) (cI aQ d)) (hl:d.length<=1048576):aW Tryz.prog β 42 #[.slice (some a) d.length c] [] (λv l=>∃B cap,v=.slice B d.length cap/\l=[SI B d cap]):=by
 exact SE Tryz.func42 Tryz.ntmps42 (λR=>SR (jK 1 [] [] (NZ (jK 2 [4] [] (NF (KX (SR (jB 1 [5] (λb1=>.aD b1 [] 53) (λb1=>av.mem (λw hS=>hS.ou (i:=1) (b:=b1) (cs:=[]) (e:=53) 13 0 KB rfl Pd) (jK 1 [6] [] (av.append 1 (d:=(some 7)) (t:=35) (e:=53) (z:=.agg #[vI 0,vI 0,vI 0,.string ⟨#[]⟩,.string ⟨#[]⟩,.slice none (0) (0),vI 0,vI 0,vI 0,vI 0,vI 0,vI 0,vI 0]) (size:=13) (bytes:=136) (n:=0) (cap:=0) (A:=some ⟨b1,0,none⟩) (xs:=[]) (s:=(.tmp 5)) (x:=(.tmp 6)) (ats:=#[35,35]) (A':=(some a)) (m:=d.length) (c':=c) (news:=(cI aQ d)) (λ_=>KB) rfl KB (λ_=>KB) (λ_=>KB) Tryz.underlying35 KB rfl Pd (ye (f:=aQ) (s:=13) (λ_=>rfl) _) (xA (VQ) _ _) (hA.src) (by unfold maxLen;omega) zc (λA2 c3=>av.cL 1 (p:=.abs (aH 53 13 A2 (0+d.length) c3 ([]++(cI aQ d)))) (p':=.abs (aH 53 13 A2 d.length c3 (cI aQ d))) KB (by rw [ahd,List.nil_append]) (sl 7 (.slice A2 (0+d.length) (c3)) (.slice A2 (d.length) (c3)) (by rw [ahd]) (jK 1 [2] [] (eN (v:=(.slice A2 (d.length) (c3))) ⟨A2,c3,rfl,rfl⟩ [1,0])))))))))))))))
theorem MT {β:Bs} (A:Option Addr) (c:Nat) (d:List aN) (hA:cC β A (cI aQ d)) (hl:d.length<=1048576):aW Tryz.prog β 42 #[.slice A d.length c] [] (λv l=>∃B cap,v=.slice B d.length cap/\l=[SI B d cap]):=by
 cases A with
 |some a=>exact MS a c d hA hl
 |none=>
   cases d with
   |nil=>exact Ql c
   |cons b r=>have h:=(Jm (s:=13) (i:=0) (j:=0) hA (λ_=>rfl) rfl rfl).1;cases h
theorem UO {β:Bs} (A:Option Addr) (c:Nat) (d:List aN) (hl:d.length<=1048576):aW Tryz.prog β 42 #[.slice A d.length c] [tR A c d] (λv l=>∃B cap,v=.slice B d.length cap/\l=[.abs (aH 53 13 B d.length cap (cI aQ d)),tR A c d]):=
 (aW.wg (pre:=[]) (R:=[tR A c d]) (λ_ h=>MT A c d (let ⟨_,h1,h2⟩:=h.get 0 rfl;cC.iH h1 h2 rfl) hl)).mono (by rintro v l ⟨l0,⟨B,cap,rfl,rfl⟩,rfl⟩;exact⟨B,cap,rfl,rfl⟩)
theorem UQ {β:Bs} (S:bB) (L:HL) (w o q f m t am an km kn:Nat) (Z:AZ) (fs:List dF) (xs:List dK) (au:Int) (tr:List aN) (tA:Option Addr) (tC:Nat) (hn:tr.length<=1048576) (hT:wv β tr) :
 cE Tryz.prog β 16 #[vP w] (GR w f o au tA tr tC q am km Z xs an fs kn m t S L) (λβ' v l=>∃A' c' os,v=.slice A' tr.length c'/\l=(GR w f o au tA tr tC q am km Z xs an fs kn m t S L)/\mZ β' A' os/\os.map bare=tr.map bare):=by
 refine oI Tryz.func16 Tryz.ntmps16 (λaE R=>SR (jK 1 [] [] (NS (jK 4 [8] [(3,a_ 0 w)] (gL [5] (UO tA tC tr zc) ?_)))))
 rintro _ _ ⟨B,cp,rfl,rfl⟩
 refine jK 1 [3] [] (NZ (jK 3 [11,12] [] (NN (aq.block (lB (ι:=Nat×Bs×(List aN)) (λ(i,b,os)=>b) (λ(i,b,os)=>(i<=tr.length)/\(β.le b)/\(wv b tr)/\(wv b os)/\(os.map bare=(tr.take i).map bare)/\(os.length=i)) (λ(i,b,os)=>tr.length-i) (λ(i,b,os)=>[(3,.slice B (tr.length) (cp)),(11,vI ↑tr.length),(12,vI ↑i)]) (λ(i,b,os)=>[SI tA tr tC,zF1 w f o au tA tr tC,yP1 o q f au am tr,yP2 q f km tr,zF4 am Z xs an,zF5 km fs kn,pF f m t S.X,pI m L S.ar,zF7 t S L,pO S.O L,pD S.O L,pE S.O L,.abs (aH 53 13 B tr.length cp (cI aQ (os++tr.drop i))),.abs R]) (0,β,[]) [1,2,3,4,5,6,7,8,9,10,11,12,0,13] (⟨ag0 _,aE,hT,λc hc=>(by cases hc),rfl,rfl⟩) ?_)))))
 rintro⟨i,b,os⟩ ⟨hi,aE,hT,hO,hm,hol⟩
 show aq _ b _ _ [(3,.slice B (tr.length) (cp)),(11,vI ↑tr.length),(12,vI ↑i)] [SI tA tr tC,zF1 w f o au tA tr tC,yP1 o q f au am tr,yP2 q f km tr,zF4 am Z xs an,zF5 km fs kn,pF f m t S.X,pI m L S.ar,zF7 t S L,pO S.O L,pD S.O L,pE S.O L,.abs (aH 53 13 B tr.length cp (cI aQ (os++tr.drop i))),.abs R] _
 refine SR (jK 1 [13] [] (NN (aq.seq (cP ((((i:Nat):Int):Int)<(((tr.length:Nat):Int):Int)) (λsi=>?_) (λsi=>?_)))))
 ·refine KX (aq.seq (aq.block (SR (jK 2 [4] [] (NN (aq.region ?_))))))
  have hin:i<tr.length:=zc
  refine av.tell (p:=∃g,B=some ⟨g,0,none⟩) (λw hS=>let ⟨F,h⟩:=hS.get (i:=12) rfl;aH.head h zc) (λ⟨g4,hg⟩=>?_)
  subst hg
  refine jK 7 [15,16,21] [(4,p_ ⟨[],some i,none,none,some (.pointer (some ⟨g4,i*13,none⟩))⟩ [(Value.pointer (some ⟨g4,0+i*13,none⟩))=(.pointer (some ⟨g4,i*13,none⟩)),((i:Nat):Int)=((i:Nat):Int),i<tr.length,(⟨g4,0,none⟩:Addr).spot=none] ⟨agU,rfl,hin,rfl,trivial⟩),(6,p_ ⟨[.view 12 (.slice (cM tr i).dA ((cM tr i).data.length) ((cM tr i).dC))],none,none,none,none⟩ [(∀F w,(aH 53 13 (some ⟨g4,0,none⟩) tr.length cp (cI aQ (os++tr.drop i))).h F w->w.cell? ⟨g4,i*13+5,none⟩=some (.slice (cM tr i).dA ((cM tr i).data.length) ((cM tr i).dC)))] ⟨aH.cell (aen hol hin Pd rfl),trivial⟩)] (jx [] (Fo (cM tr i).dA (cM tr i).dC (cM tr i).data (hT _ (zE hin)).1 (hT _ (zE hin)).2) ?_)
  rintro ES _ _ kA ⟨B5,p6,rfl,rfl,hB5,_⟩
  replace hT:=hT.le kA
  replace hO:=hO.le kA
  replace aE:=aE.trans kA
  exact jK 2 [24] [(0,p_ ⟨[],some i,none,none,some (.pointer (some ⟨g4,i*13,none⟩))⟩ [(Value.pointer (some ⟨g4,0+i*13,none⟩))=(.pointer (some ⟨g4,i*13,none⟩)),((i:Nat):Int)=((i:Nat):Int),i<tr.length,(⟨g4,0,none⟩:Addr).spot=none] ⟨agU,rfl,hin,rfl,trivial⟩)] (av.D9 12 (i*13+5) (d:=none) (T:=51) (e:=53) (size:=13) (n:=tr.length) (cap:=cp) (g:=g4) (xs:=(cI aQ (os++tr.drop i))) (u:=.slice B5 ((cM tr i).data.length) (p6)) (a:=(.tmp 24)) (y:=(.tmp 22)) (λ_=>KB) KB (λ_=>KB) (λ_=>KB) KB rfl (by rw [ye (f:=aQ) (s:=13) (λ_=>rfl),aeo hol zc];omega) (av.cL 12 (p':=.abs (aH 53 13 (some ⟨g4,0,none⟩) tr.length cp (cI aQ ((os++[dW B5 p6 (cM tr i)])++tr.drop (i+1))))) rfl (agX (λx=>HP.abs (aH 53 13 _ _ _ x)) (aep hol hin)) (LX (aq.region (jK 2 [12] [(0,wJ ((i:Int)+1) (↑(i+1)))] (NL (tB ((i+1),ES,(os++[(dW B5 p6 (cM tr i))])) [0,1,2,3,4,5,6,7,8,9,10,11,12,13] (⟨zc,aE,hT,hO.snoc (c:=(dW B5 p6 (cM tr i))) hB5 (hT _ (zE hin)).2,aer hm hin acD,by rw [ag4,hol];rfl⟩))))))))
 refine XX (SR ?_)
 have hos:os++tr.drop i=os:=by rw [show i=tr.length by omega,List.drop_length,List.append_nil]
 have hmt:os.map bare=tr.map bare:=by rw [hm,show i=tr.length by omega,ahl]
 refine av.cL 12 (p:=.abs (aH 53 13 B tr.length cp (cI aQ (os++tr.drop i)))) (p':=.abs (aH 53 13 B tr.length cp (cI aQ os))) KB (by rw [hos]) (av.mQ (Φ:=λβ'=>cC β' B (cI aQ os)) 12 [0,1,2,3,4,5,6,7,8,9,10,11,13] (fe:=[SI tA tr tC,zF1 w f o au tA tr tC,yP1 o q f au am tr,yP2 q f km tr,zF4 am Z xs an,zF5 km fs kn,pF f m t S.X,pI m L S.ar,zF7 t S L,pO S.O L,pD S.O L,pE S.O L,.abs R]) rfl rfl KB (λF w h β' h1 h2=>cC.iH h h1 h2) (λSv qc hR=>?_))
 replace hO:=hO.le qc
 replace aE:=aE.trans qc
 exact jK 2 [2] [] (eO (v:=(.slice B (tr.length) (cp))) [] aE ⟨B,cp,os,rfl,rfl,⟨hR,hO⟩,hmt⟩ [1,2,3,4,5,0,6,7,8,9,10,11,12])
theorem XK {β:Bs} {fs:List dF} {xs:List dK} {au:Int} {S:bB} {V:WV} {tr:List aN} {G:WG} (hn:tr.length<=1048576) (hT:wv β tr):cE Tryz.prog β 16 #[vP G.w] [wA G fs xs au S V tr] (λβ' v l=>∃A' c' os,v=.slice A' tr.length c'/\l=[wA G fs xs au S V tr]/\mZ β' A' os/\os.map bare=tr.map bare):=
 (UQ S V.L G.w G.o G.q G.f G.m G.t G.am G.an G.km G.kn G.Z fs xs au tr V.A V.c hn hT).one.mono (by
  rintro β' v l _ ⟨l0,⟨A',c',os,rfl,rfl,h1,h2⟩,rfl⟩
  exact⟨A',c',os,rfl,rfl,h1,h2⟩)
theorem MU {β:Bs} (A1 A2:Option Addr) (c1 c2 n:Nat) (os ms tr:List aN) (h1:mZ β A1 os) (h2:mZ β A2 ms) (h1m:os.map bare=tr.map bare) (h2m:ms.map bare=tr.map bare) (hn:tr.length=n) (hn2:n<=1048576) :
 aW Tryz.prog β 15 #[.slice A1 (n) (c1),.slice A2 (n) (c2)] [] (λv l=>v=.bool true/\l=[]):=by
 have ho1:=SL h1m
 have ho2:=SL h2m
 refine SE Tryz.func15 Tryz.ntmps15 (λR=>SR (jK 1 [] [] (NZ (jK 5 [10] [(4,p_ ⟨[],none,none,none,some (.bool false)⟩ [(Value.bool (!decide ((((n:Nat):Int):Int)=(((n:Nat):Int):Int))))=(.bool false)] ⟨agU,trivial⟩)] (NF (KX (SQ (jK 1 [5] [] (NN (aq.block (lJ (ι:=Nat) (λ(i:Nat)=>(i<=n)) (λ(i:Nat)=>n-i) (λ(i:Nat)=>[(0,.slice A1 (n) (c1)),(1,.slice A2 (n) (c2)),(5,vI ↑i)]) (λ(i:Nat)=>[.abs R]) 0 [0] (ag0 _) ?_)))))))))))
 rintro i hi
 show aq _ _ _ _ [(0,.slice A1 (n) (c1)),(1,.slice A2 (n) (c2)),(5,vI ↑i)] [.abs R] _
 exact SQ (jK 4 [14] [] (NN (cP ((((i:Nat):Int):Int)<(((n:Nat):Int):Int)) (λmw=>KX (aq.seq (aq.block (aq.seq (rQ (jQ 8 [20,24] [(2,x_ i n (mZ.hd h1 (i:=i) zc)),(3,p_ ⟨[.old (.int .i64 ((cM os i).op)),.old (.int .i64 ((cM os i).aL)),.old (.int .i64 ((cM os i).other)),.old (.string (cM os i).name),.old (.string (cM os i).text),.old (.slice (cM os i).dA ((cM os i).data.length) ((cM os i).dC)),.old (.int .i64 ((cM os i).mode)),.old (.int .i64 ((cM os i).bg)),.old (.int .i64 ((cM os i).bh)),.old (.int .i64 ((cM os i).aU)),.old (.int .i64 ((cM os i).aI)),.old (.int .i64 ((cM os i).code)),.old (.int .i64 ((cM os i).answer))],none,none,none,none⟩ [(Rd β ⟨(bw A1),br A1+i*13+12,none⟩ (vI ((cM os i).answer))),(Rd β ⟨(bw A1),br A1+i*13+11,none⟩ (vI ((cM os i).code))),(Rd β ⟨(bw A1),br A1+i*13+10,none⟩ (vI ((cM os i).aI))),(Rd β ⟨(bw A1),br A1+i*13+9,none⟩ (vI ((cM os i).aU))),(Rd β ⟨(bw A1),br A1+i*13+8,none⟩ (vI ((cM os i).bh))),(Rd β ⟨(bw A1),br A1+i*13+7,none⟩ (vI ((cM os i).bg))),(Rd β ⟨(bw A1),br A1+i*13+6,none⟩ (vI ((cM os i).mode))),(Rd β ⟨(bw A1),br A1+i*13+5,none⟩ (.slice (cM os i).dA ((cM os i).data.length) ((cM os i).dC))),(Rd β ⟨(bw A1),br A1+i*13+4,none⟩ (.string (cM os i).text)),(Rd β ⟨(bw A1),br A1+i*13+3,none⟩ (.string (cM os i).name)),(Rd β ⟨(bw A1),br A1+i*13+2,none⟩ (vI ((cM os i).other))),(Rd β ⟨(bw A1),br A1+i*13+1,none⟩ (vI ((cM os i).aL))),(Rd β ⟨(bw A1),br A1+i*13,none⟩ (vI ((cM os i).op)))] ⟨mZ.rd h1 (i:=i) zc (j:=12) rfl,mZ.rd h1 (i:=i) zc (j:=11) rfl,mZ.rd h1 (i:=i) zc (j:=10) rfl,mZ.rd h1 (i:=i) zc (j:=9) rfl,mZ.rd h1 (i:=i) zc (j:=8) rfl,mZ.rd h1 (i:=i) zc (j:=7) rfl,mZ.rd h1 (i:=i) zc (j:=6) rfl,mZ.rd h1 (i:=i) zc (j:=5) rfl,mZ.rd h1 (i:=i) zc (j:=4) rfl,mZ.rd h1 (i:=i) zc (j:=3) rfl,mZ.rd h1 (i:=i) zc (j:=2) rfl,mZ.rd h1 (i:=i) zc (j:=1) rfl,mZ.rd h1 (i:=i) zc (j:=0) rfl,trivial⟩),(6,x_ i n (mZ.hd h2 (i:=i) zc)),(7,p_ ⟨[.old (.int .i64 ((cM ms i).op)),.old (.int .i64 ((cM ms i).aL)),.old (.int .i64 ((cM ms i).other)),.old (.string (cM ms i).name),.old (.string (cM ms i).text),.old (.slice (cM ms i).dA ((cM ms i).data.length) ((cM ms i).dC)),.old (.int .i64 ((cM ms i).mode)),.old (.int .i64 ((cM ms i).bg)),.old (.int .i64 ((cM ms i).bh)),.old (.int .i64 ((cM ms i).aU)),.old (.int .i64 ((cM ms i).aI)),.old (.int .i64 ((cM ms i).code)),.old (.int .i64 ((cM ms i).answer))],none,none,none,none⟩ [(Rd β ⟨(bw A2),br A2+i*13+12,none⟩ (vI ((cM ms i).answer))),(Rd β ⟨(bw A2),br A2+i*13+11,none⟩ (vI ((cM ms i).code))),(Rd β ⟨(bw A2),br A2+i*13+10,none⟩ (vI ((cM ms i).aI))),(Rd β ⟨(bw A2),br A2+i*13+9,none⟩ (vI ((cM ms i).aU))),(Rd β ⟨(bw A2),br A2+i*13+8,none⟩ (vI ((cM ms i).bh))),(Rd β ⟨(bw A2),br A2+i*13+7,none⟩ (vI ((cM ms i).bg))),(Rd β ⟨(bw A2),br A2+i*13+6,none⟩ (vI ((cM ms i).mode))),(Rd β ⟨(bw A2),br A2+i*13+5,none⟩ (.slice (cM ms i).dA ((cM ms i).data.length) ((cM ms i).dC))),(Rd β ⟨(bw A2),br A2+i*13+4,none⟩ (.string (cM ms i).text)),(Rd β ⟨(bw A2),br A2+i*13+3,none⟩ (.string (cM ms i).name)),(Rd β ⟨(bw A2),br A2+i*13+2,none⟩ (vI ((cM ms i).other))),(Rd β ⟨(bw A2),br A2+i*13+1,none⟩ (vI ((cM ms i).aL))),(Rd β ⟨(bw A2),br A2+i*13,none⟩ (vI ((cM ms i).op)))] ⟨mZ.rd h2 (i:=i) zc (j:=12) rfl,mZ.rd h2 (i:=i) zc (j:=11) rfl,mZ.rd h2 (i:=i) zc (j:=10) rfl,mZ.rd h2 (i:=i) zc (j:=9) rfl,mZ.rd h2 (i:=i) zc (j:=8) rfl,mZ.rd h2 (i:=i) zc (j:=7) rfl,mZ.rd h2 (i:=i) zc (j:=6) rfl,mZ.rd h2 (i:=i) zc (j:=5) rfl,mZ.rd h2 (i:=i) zc (j:=4) rfl,mZ.rd h2 (i:=i) zc (j:=3) rfl,mZ.rd h2 (i:=i) zc (j:=2) rfl,mZ.rd h2 (i:=i) zc (j:=1) rfl,mZ.rd h2 (i:=i) zc (j:=0) rfl,trivial⟩)] (mD [] [0] (.bool true) (Qk (cM os i) (cM ms i) ((SK h1m i).trans (SK h2m i).symm) (h1.dat _ (zE zc)).1 (h2.dat _ (zE zc)).1 (ag1 (h1.dat _ (zE zc)).2 Pd)) (jQ 1 [26] [] (NQ (NX (CF (KX (aq.region (jK 3 [5] [(1,wJ ((i:Int)+1) (↑(i+1)))] (NL (tJ ((i+1)) [0] zc)))))))))))))))) (λmw=>XX (zR (v:=(.bool true)) ⟨rfl,rfl⟩ [0])))))
end
section
open Go.RowKit Go.Maps bK aF
section e
variable {β:Bs} {fs:List dF} {xs:List dK} {au:Int} {ns:List aO} {X:FM}
abbrev newP (β:Bs) (B:Option Addr) (ns:List aO) (Bf:Option Addr) (bf:Nat) (fs:List dF) (Ba:Option Addr) (ba:Nat) (xs:List dK):List HP:=[.abs (ko β (λβ'=>∃K,aP β' B ns K)),.abs (aH 66 2 Bf fs.length bf (cI jb fs)),.abs (aH 68 5 Ba xs.length ba (cI kg xs))]
abbrev aaz (B:Option Addr) (n cp:Nat) (au:Int) (X:FM) (Bf:Option Addr) (nf bf:Nat) (Ba:Option Addr) (na ba:Nat):Array Value:=#[.agg #[.slice B n cp],.int .i64 au,.agg #[.int .i64 X.cN,.int .i64 X.cB,.int .i64 X.cH,.int .i64 X.cS,.int .i64 X.cZ],.agg #[.slice Bf nf bf,.slice Ba na ba]]
theorem Qm {Bf Ba:Option Addr} (B:Option Addr) (cp:Nat) (hB:jZ ns 1048576) (bf ba:Nat) (oL:kR fs 2097152) (d8:lG xs 1048576) :
 cE Tryz.prog β 18 (aaz B ns.length cp au X Bf fs.length bf Ba xs.length ba) (newP β B ns Bf bf fs Ba ba xs) (λβ' v l=>(fC X ns au≠0/\v=.tuple #[.pointer none,.int .i64 (fC X ns au)]/\l=[])\/(fC X ns au=0/\∃(N:DP X ns) (G:WG) (V:WV),v=.tuple #[vP G.w,.int .i64 0]/\l=[wA G fs xs au N.1 V []]/\rP β' G.Z xs)):=
 cE.TK λβ1 _ ⟨K,hG⟩=>cE.adp λnV hL=>by
  obtain⟨F,h1,h2⟩:=hL.get 0 rfl
  obtain⟨F',h1',h2'⟩:=hL.get 1 rfl
  exact acC B cp (hG.le hL.le) hB bf ba (cC.iH h1 h2 rfl) oL (cC.iH h1' h2' rfl) d8
theorem aaA (h0:fC X ns au=0) {Bf Ba:Option Addr} (B:Option Addr) (cp:Nat) (hB:jZ ns 1048576) (bf ba:Nat) (oL:kR fs 2097152) (d8:lG xs 1048576) :
 aW Tryz.prog β 18 (aaz B ns.length cp au X Bf fs.length bf Ba xs.length ba) (newP β B ns Bf bf fs Ba ba xs) (λv l=>∃(N:DP X ns) (G:WG) (V:WV),v=.tuple #[vP G.w,.int .i64 0]/\l=[.abs (ko β (λβ'=>rP β' G.Z xs)),wA G fs xs au N.1 V []]):=
 (cE.Jr (ι:=DP X ns×WG×WV) (vv:=λx=>.tuple #[vP x.2.1.w,.int .i64 0]) (ll:=λx=>[wA x.2.1 fs xs au x.1.1 x.2.2 []]) (Φ:=λx β'=>rP β' x.2.1.Z xs)
  ((Qm (X:=X) B cp hB bf ba oL d8).mono (by
    rintro β' v l _ (⟨h,_⟩|⟨_,N,G,V,h1,h2,h3⟩)
    ·exact agY h0 h
    exact⟨(N,G,V),h1,h2,h3⟩))).mono (by rintro v l ⟨⟨N,G,V⟩,h1,h2⟩;exact⟨N,G,V,h1,h2⟩)
theorem XL (h0:¬fC X ns au=0) {Bf Ba:Option Addr} (B:Option Addr) (cp:Nat) (hB:jZ ns 1048576) (bf ba:Nat) (oL:kR fs 2097152) (d8:lG xs 1048576) :
 aW Tryz.prog β 18 (aaz B ns.length cp au X Bf fs.length bf Ba xs.length ba) (newP β B ns Bf bf fs Ba ba xs) (λv l=>v=.tuple #[.pointer none,.int .i64 (fC X ns au)]/\l=[]):=
 ((Qm (X:=X) B cp hB bf ba oL d8).mono (by
  rintro β' v l _ (⟨_,h1,h2⟩|⟨h,_⟩)
  ·exact⟨h1,h2⟩
  exact agY h h0)).adq
end e
end
section
open Go.RowKit Go.Maps bK aF
attribute [local irreducible] av bN aq aB fN
theorem MG {β:Bs} (A:Option Addr) (c:Nat) (ns:List aO) (Y:eV) (hG:aP β A ns Y) (hB:jZ ns 1048576) (X:FM) (au:Int) (Af:Option Addr) (cf:Nat) (fs:List dF) (hF:cC β Af (cI jb fs)) (oL:kR fs 2097152) (Aa:Option Addr) (ca:Nat) (xs:List dK) (hA:cC β Aa (cI kg xs)) (d8:lG xs 1048576) :
 cE Tryz.prog β 7 #[.agg #[.slice A (ns.length) (c),vI (au),vI (X.cN),vI (X.cB),vI (X.cH),vI (X.cS),vI (X.cZ),.slice Af (fs.length) (cf),.slice Aa (xs.length) (ca)]] [] (λβ' v l=>(fC X ns au≠0/\v=.tuple #[.pointer none,vI (fC X ns au)]/\l=[])\/(fC X ns au=0/\∃(N:DP X ns) (G:WG) (V:WV),v=.tuple #[vP G.w,vI 0]/\l=[wA G fs xs au N.1 V []]/\rP β' G.Z xs)):=by
 refine oI Tryz.func7 Tryz.ntmps7 (λaE R=>SR (jB 3 [1] (λb1=>.aD b1 [.slice A (ns.length) (c),vI (au),vI (X.cN),vI (X.cB),vI (X.cH),vI (X.cS),vI (X.cZ),.slice Af (fs.length) (cf),.slice Aa (xs.length) (ca)] 34) (λb1=>NN (aq.seq ?_))))
 by_cases h0:fC X ns au=0
 ·refine jM [0,1,3,4,5,6,7,8,502,509,510,11,12,13,514] [1] (jG 8 [5,8,10,12] [(1,a_ 0 b1),(3,a_ 0 b1),(5,A_ 0 b1 5),(7,A_ 0 b1 2)] (kL [2] [] (yE (β:=β) A c ns Y hG (vw hB) (FE hB)) ?_ (by rintro _ _ ⟨B,cp,rfl,rfl⟩;kernel_rfl)))
  rintro _ _ ⟨B,cp,rfl,rfl⟩
  refine kL [4] [] (yG (β:=β) Af cf fs hF oL.len Aa ca xs hA (ag1 d8.len Pd)) ?_ (by rintro _ _ ⟨Bf,bf,Ba,ba,rfl,rfl⟩;kernel_rfl)
  rintro _ _ ⟨Bf,bf,Ba,ba,rfl,rfl⟩
  refine kL [3] [2,0,1] (aaA (β:=β) (X:=X) (Bf:=Bf) (Ba:=Ba) h0 B cp hB bf ba oL d8) ?_ (by rintro _ _ ⟨N,G,V,rfl,rfl⟩;kernel_rfl)
  rintro _ _ ⟨N,G,V,rfl,rfl⟩
  refine jG 3 [2,16] [] (fN.last KB (jK 1 [3] [] (NL (aB.np (NX (aq.ret (aB.uz 0 [1,2,3] (fe:=[wA G fs xs au N.1 V ([]),.abs R,.aD b1 [.slice A (ns.length) (c),vI (au),vI (X.cN),vI (X.cB),vI (X.cH),vI (X.cS),vI (X.cZ),.slice Af (fs.length) (cf),.slice Aa (xs.length) (ca)] 34]) rfl KB rfl (λnV fw hz=>?_))))))))
  replace aE:=aE.trans fw
  exact rB (.tuple #[vP G.w,vI 0]) [] [0,1] aE (.inr ⟨h0,N,G,V,rfl,rfl,hz⟩)
 refine jM [0,1,3,4,5,6,7,8,502,509,510,11,12,13,514] [1] (jG 8 [5,8,10,12] [(1,a_ 0 b1),(3,a_ 0 b1),(5,A_ 0 b1 5),(7,A_ 0 b1 2)] (kL [2] [] (yE (β:=β) A c ns Y hG (vw hB) (FE hB)) ?_ (by rintro _ _ ⟨B,cp,rfl,rfl⟩;kernel_rfl)))
 rintro _ _ ⟨B,cp,rfl,rfl⟩
 refine kL [4] [] (yG (β:=β) Af cf fs hF oL.len Aa ca xs hA (ag1 d8.len Pd)) ?_ (by rintro _ _ ⟨Bf,bf,Ba,ba,rfl,rfl⟩;kernel_rfl)
 rintro _ _ ⟨Bf,bf,Ba,ba,rfl,rfl⟩
 refine kL [1] [2,0,1] (XL (β:=β) (X:=X) (Bf:=Bf) (Ba:=Ba) h0 B cp hB bf ba oL d8) ?_ (by rintro _ _ ⟨rfl,rfl⟩;kernel_rfl)
 rintro _ _ ⟨rfl,rfl⟩
 exact jG 3 [2,16] [] (fN.last KB (jK 1 [3] [] (NL (aB.np (NX (aq.ret (rB (.tuple #[.pointer none,vI ((fC X ns au))]) [] [0] aE (.inl ⟨h0,rfl,rfl⟩))))))))
end
section
open Go.RowKit Go.Maps bK aF
def lwN:aO:=⟨1,2,493,0,0,0,0,[],⟨#[]⟩,[]⟩
def CU:List aO:=[lwN]
def Fu:List dF:=[⟨2,1⟩]
theorem SM {i:Nat} (h:i<CU.length):i=0:=by
 have h:i<1:=h
 omega
theorem afg:cA CU:=by
 refine⟨Pd,λi hi=>?_,λi hi=>?_,λi j hij hj=>?_,Pd,λi hi j hj=>?_,Pd,λz=>?_⟩
 ·obtain rfl:=SM hi
  exact⟨Pd,Pd,Pd,Pd,Mv,λ_=>rfl,λh=>agY rfl h,.inl ⟨Pd,rfl⟩⟩
 ·obtain rfl:=SM hi
  exact⟨Pd,Pd⟩
 ·have:=SM hj;omega
 ·obtain rfl:=SM hi
  exact agY hj (ag2 j)
 have e:(jj CU CU.length).map (lf CU)=[]:=Pd
 rw [e]
 exact⟨0,rfl⟩
theorem aes:kK (Qg 99):=acu Pd
theorem afh {β:Bs} {B:Option Addr} (hR:cC β B (bG ⟨λ_=>none,λ_=>none,λ_=>0,λ_=>0⟩ CU)):aP β B CU ⟨λ_=>none,λ_=>none,λ_=>0,λ_=>0⟩:=by
 have hn:∀{A:Option Addr},cC β A []:=λj v hj=>by simp at hj
 refine⟨hR,λi hi=>?_,λi hi=>?_⟩<;>(obtain rfl:=SM hi;exact hn)
structure aaB (S:bB):Prop where
 inv:bR S
 ar:S.ar=[(1,⟨1,2⟩)]
 us:S.us=[]
 X:S.X=⟨9,99,9,0,0,1,0,0⟩
 o1:∃l u,af S.O 1=⟨1,493,0,0,0,0,l,0,false,2,[],⟨#[]⟩,[],u⟩
section v
variable {S:bB}
theorem aeu (h:kP (Qg 99) CU CU.length 0 S):aaB S:=by
 obtain⟨l1,u1,h1⟩:=h.ob 0 Pd
 exact⟨h.full,h.ar,h.us,h.cap,⟨l1,u1,h1⟩⟩
def vH:aN:=⟨1,0,0,⟨#[]⟩,⟨#[]⟩,none,0,[],0,0,0,0,0,0,0⟩
def vJ:aN:=⟨4,1,0,⟨#[100]⟩,⟨#[]⟩,none,0,[],0,0,0,0,0,0,0⟩
theorem agd (h:aaB S):nJ Fu [] 1 1 S vH=(S1 S,{vH with other:=1,answer:=1,code:=0}):=by
 have:=acv (S:=S) (c:={vH with other:=1}) (t:=⟨1,2⟩) rfl (by rw [h.ar];rfl) rfl (by rw [h.us,h.X];show (0:Int)<9;decide)
 rw [h.us] at this
 exact this
theorem agf:nJ Fu [] 1 2 S vJ=(S,{vJ with code:=180}):=rfl
theorem agh (h:aaB S):∃S2,nJ Fu [] 1 3 (S1 S) vJ=(S2,{vJ with answer:=0,code:=0})/\S2.ar.length=2:=by
 obtain⟨l,u,h1⟩:=h.o1
 have e1:af (S1 S).O 1=⟨1,493,0,0,0,0,l,1,false,2,[],⟨#[]⟩,[],u⟩:=by
  rw [af7,h1];rfl
 have hX:(S1 S).X=⟨9,99,9,0,0,1,0,0⟩:=h.X
 have hi:(S1 S).ar=[(1,⟨1,2⟩)]:=h.ar
 have ha:iJ (S1 S).O (S1 S).us 1 ⟨#[100]⟩ 192=.ok 1:=aaf (t:=⟨1,2⟩) rfl rfl (by rw [e1]) aef (by rw [e1];exact aeg)
 refine⟨_,show gF (S1 S) vJ=_ from aag (S:=S1 S) (c:=vJ) rfl ha ⟨Pd,Pd⟩ (by rw [e1];rfl) ⟨by rw [hX,hi];show (1:Int)<9;decide,by rw [hX];show (1:Int)<1099511627776;decide,by rw [hX];show (0:Int)<8192;decide⟩,?_⟩
 show (ins _ _ (S1 S).ar).length=2
 rw [hX,hi];rfl
end v
section f
variable {β:Bs} {fs:List dF} {xs:List dK} {au:Int} {ns:List aO} {X:FM}
theorem J7 {ns:List aO} (h0:fC X ns au=0) (A:Option Addr) (c:Nat) (Y:eV) (hG:aP β A ns Y) (hB:jZ ns 1048576) (Af:Option Addr) (cf:Nat) (fs:List dF) (hF:cC β Af (cI jb fs)) (oL:kR fs 2097152) (Aa:Option Addr) (ca:Nat) (xs:List dK) (hA:cC β Aa (cI kg xs)) (d8:lG xs 1048576) :
 cE Tryz.prog β 7 #[KD A ns.length c au X Af fs.length cf Aa xs.length ca] [] (λβ' v l=>∃(N:DP X ns) (G:WG) (V:WV),v=.tuple #[vP G.w,.int .i64 0]/\l=[wA G fs xs au N.1 V []]/\rP β' G.Z xs):=
 (MG A c ns Y hG hB X au Af cf fs hF oL Aa ca xs hA d8).mono (by
  rintro β' v l _ (⟨h,_⟩|⟨_,h⟩)
  ·exact agY h0 h
  exact h)
theorem UR {ns:List aO} (h0:¬fC X ns au=0) (A:Option Addr) (c:Nat) (Y:eV) (hG:aP β A ns Y) (hB:jZ ns 1048576) (Af:Option Addr) (cf:Nat) (fs:List dF) (hF:cC β Af (cI jb fs)) (oL:kR fs 2097152) (Aa:Option Addr) (ca:Nat) (xs:List dK) (hA:cC β Aa (cI kg xs)) (d8:lG xs 1048576) :
 cE Tryz.prog β 7 #[KD A ns.length c au X Af fs.length cf Aa xs.length ca] [] (λ_ v l=>v=.tuple #[.pointer none,.int .i64 (fC X ns au)]/\l=[]):=
 (MG A c ns Y hG hB X au Af cf fs hF oL Aa ca xs hA d8).mono (by
  rintro β' v l _ (⟨_,h1,h2⟩|⟨h,_⟩)
  ·exact⟨h1,h2⟩
  exact agY h h0)
theorem aev:fC (Qg 99) CU 1=0:=DN aes afg (i:=0) ⟨Pd,rfl,λq h=>agY h (ag2 q)⟩ rfl
theorem agi:jZ CU 1048576:=⟨Pd,λi hi=>by
 obtain rfl:=SM hi
 exact⟨by unfold xB;decide,Pd,Pd,Pd,λj hj=>agY hj (ag2 j)⟩⟩
theorem afi:kR Fu 2097152:=⟨Pd,λa ha=>by
 obtain rfl:=ahu.1 ha
 decide⟩
theorem Nf:lG [] 1048576:=⟨Pd,λa ha=>by cases ha⟩
end f
end
section
open Go.RowKit Go.Maps bK aF
attribute [local irreducible] av bN aq aB
noncomputable abbrev zH1 (b4:Nat):=(.aD b4 [.slice none (0) (0),vI 0,vI 0,vI 0,vI 0,vI 0,vI 0,.slice none (0) (0),.slice none (0) (0)] 34:HP)
theorem Q9 {β:Bs} (c:aN) (hD:bF β c.dA c.data) (hl:c.data.length<=1048576) :
 cE Tryz.prog β 12 #[.agg ⟨aQ c⟩] [] (λβ' v l=>∃B cp,v=.agg ⟨aQ {c with dA:=B,dC:=cp}⟩/\l=[]/\bF β' B c.data/\c.data.length<=cp):=by
 refine oI Tryz.func12 Tryz.ntmps12 (λaE R=>SR (jB 1 [1] (λb1=>.aD b1 (aQ c) 53) (λb1=>jB 1 [2] (λb2=>.aD b2 [vI 0,vI 0,vI 0,.string ⟨#[]⟩,.string ⟨#[]⟩,.slice none (0) (0),vI 0,vI 0,vI 0,vI 0,vI 0,vI 0,vI 0] 53) (λb2=>NS (jK 2 [4] [(1,a_ 1 b1)] (jx [] (MQ c.dA c.dC c.data hD hl) ?_))))))
 rintro yP _ _ iK ⟨B,cp,rfl,rfl,hB,OE⟩
 replace aE:=aE.trans iK
 exact jC 2 [] [(1,a_ 1 b1)] [(1,[(5,.slice B (c.data.length) (cp))])] (NS (jC 2 [] [(0,A_ 1 b1 13),(1,A_ 2 b2 13)] [(2,(zC (aQ (fX c B cp))))] (eO (v:=(.agg ⟨aQ (fX c B cp)⟩)) [A_ 2 b2 13] aE ⟨B,cp,rfl,rfl,hB,OE⟩)))
theorem Ra {β:Bs}:cE Tryz.prog β 28 #[] [] (λβ' v l=>∃B Bf,v=.agg #[.slice B 1 1,vI 1,vI 9,vI 99,vI 9,vI 0,vI 0,.slice Bf 1 1,.slice none 0 0]/\l=[]/\cC β' B (bG ⟨λ_=>none,λ_=>none,λ_=>0,λ_=>0⟩ CU)/\cC β' Bf (cI jb Fu)):=by
 refine oI Tryz.func28 Tryz.ntmps28 (λaE R=>SR (jB 1 [0] (λb4=>.aD b4 [.slice none (0) (0),vI 0,vI 0,vI 0,vI 0,vI 0,vI 0,.slice none (0) (0),.slice none (0) (0)] 34) (λb4=>NS (jB 3 [4] (λb5=>.aD b5 [vI 1,vI 2,vI 493,vI 0,vI 0,vI 0,vI 0,.slice none (0) (0),.string ⟨#[]⟩,.slice none (0) (0)] 95) (λb5=>jN 2 [1] (λb6=>[(1,a_ 3 b6)]) (λ_=>[]) (λb6=>.aD b6 [.slice (some ⟨b5,0,none⟩) (1) (1)] 24) (λb6=>NS (av.mem (λw hS=>hS.ou (i:=2) (b:=b5) (cs:=[vI 1,vI 2,vI 493,vI 0,vI 0,vI 0,vI 0,.slice none (0) (0),.string ⟨#[]⟩,.slice none (0) (0)]) (e:=95) 10 1 KB rfl Pd) (av.mQ (Φ:=λβ'=>cC β' (some ⟨b5,0,none⟩) (bG ⟨λ_=>none,λ_=>none,λ_=>0,λ_=>0⟩ CU)) 2 [0,1,3] (fe:=[.abs R,zH1 b4,.aD b6 [.slice (some ⟨b5,0,none⟩) (1) (1)] 24]) rfl rfl KB (λF w h β' h1 h2=>cC.iH h h1 h2) (λES kA hR=>?_)))))))))
 replace aE:=aE.trans kA
 refine jN 4 [5,6,8] (λb8=>[(0,a_ 2 b6)]) (λ_=>[]) (λb8=>.aD b8 [vI 2,vI 1] 66) (λb8=>av.mem (λw hS=>hS.ou (i:=3) (b:=b8) (cs:=[vI 2,vI 1]) (e:=66) 2 1 KB rfl Pd) (av.mQ (Φ:=λβ'=>cC β' (some ⟨b8,0,none⟩) (cI jb Fu)) 3 [0,1,2] (fe:=[.abs R,zH1 b4,.aD b6 [.slice (some ⟨b5,0,none⟩) (1) (1)] 24]) rfl rfl KB (λF w h β' h1 h2=>cC.iH h h1 h2) (λvT mI hQ=>?_)))
 replace hR:=hR.le mI
 replace aE:=aE.trans mI
 exact jC 3 [] [(2,A_ 1 b4 9)] [(1,[(0,.slice (some ⟨b5,0,none⟩) (1) (1)),(1,vI 1),(2,vI 9),(3,vI 99),(4,vI 9),(7,.slice (some ⟨b8,0,none⟩) (1) (1))])] (eO (l:=[]) (v:=(.agg #[.slice (some ⟨b5,0,none⟩) (1) (1),vI 1,vI 9,vI 99,vI 9,vI 0,vI 0,.slice (some ⟨b8,0,none⟩) (1) (1),.slice none (0) (0)])) [A_ 1 b4 9] aE ⟨_,_,rfl,rfl,hR,hQ⟩)
theorem aaC {β:Bs} (hg:pG β):cE Tryz.prog β 6 #[] [] (λ_ v l=>v=.bool true/\l=[]):=by
 refine oI Tryz.func6 Tryz.ntmps6 (λaE R=>SR (jK 1 [] [] (NS (jx [] (Ra) ?_))))
 rintro PV _ _ qF ⟨B,Bf,rfl,rfl,hR,hQ⟩
 replace hg:=hg.le qF
 replace aE:=aE.trans qF
 refine jx [] (J7 (β:=PV) (X:=Qg 99) aev B 1 _ (afh hR) agi Bf 1 Fu hQ afi none 0 [] (λj v hj=>by simp [cI,fq] at hj) Nf) ?_
 rintro H6 _ _ pz ⟨N,G,V,rfl,rfl,hZ⟩
 replace hg:=hg.le pz
 replace aE:=aE.trans pz
 refine jK 5 [1,2] [] (NN (aq.seq (SR (jK 6 [16] [] (NN (CF (KX (SR (jK 2 [17,18] [] ?_)))))))))
 have hv:=aeu N.2
 have e1:=agd hv
 have di:bR (S1 N.1):=by have h:=bR.nJ (fs:=Fu) (xs:=[]) (au:=1) (n:=1) (c:=vH) hv.inv;rw [e1] at h;exact h
 obtain⟨S3,e3,hx3⟩:=agh hv
 have WE:bR S3:=by have h:=bR.nJ (fs:=Fu) (xs:=[]) (au:=1) (n:=3) (c:=vJ) di;rw [e3] at h;exact h
 refine jx [0] (J6 (β:=H6) (G:=G) (V:=V) (tr:=[]) (c:=vH) Pd hv.inv (by show 0<=8388607;decide) hZ Nf hg (λj v hj=>by cases hj) Pd Pd Pd Pd Pd (by first|exact rfl|(unfold tW;decide)) e1) ?_
 rintro ZW _ _ AR ⟨V12,B13,p14,B15,p16,rfl,rfl,_,_,_⟩
 replace hg:=hg.le AR
 replace hZ:=hZ.le AR
 replace aE:=aE.trans AR
 refine jN 2 [3] (λb18=>[(1,A_ 2 b18 13)]) (λ_=>[]) (λb18=>.aD b18 [vI 1,vI 0,vI 1,.string ⟨#[]⟩,.string ⟨#[]⟩,.slice B15 (0) (p16),vI 0,vI 0,vI 0,vI 0,vI 0,vI 0,vI 1] 53) (λb18=>NS (jK 2 [20,21] [] (jx [0] (J6 (β:=ZW) (G:=G) (V:=V12) (tr:=([]++[dW B13 p14 ({vH with other:=1,answer:=1,code:=0})])) (c:=vJ) Pd di (by show 1<=8388607;decide) hZ Nf hg (λj v hj=>by cases hj) Pd Pd Pd Pd Pd (by first|exact rfl|(unfold tW;decide)) agf) ?_)))
 rintro T6 _ _ sY ⟨V19,B20,p21,B22,p23,rfl,rfl,_,_,_⟩
 replace hg:=hg.le sY
 replace hZ:=hZ.le sY
 replace aE:=aE.trans sY
 refine jN 2 [4] (λsA=>[(1,A_ 3 sA 13)]) (λ_=>[]) (λsA=>.aD sA [vI 4,vI 1,vI 0,.string ⟨#[100]⟩,.string ⟨#[]⟩,.slice B22 (0) (p23),vI 0,vI 0,vI 0,vI 0,vI 0,vI 180,vI 0] 53) (λsA=>NS (jK 2 [23,24] [] (jx [0] (J6 (β:=T6) (G:=G) (V:=V19) (tr:=(([]++[dW B13 p14 ({vH with other:=1,answer:=1,code:=0})])++[dW B20 p21 ({vJ with code:=180})])) (c:=vJ) Pd di (by show 2<=8388607;decide) hZ Nf hg (λj v hj=>by cases hj) Pd Pd Pd Pd Pd (by first|exact rfl|(unfold tW;decide)) e3) ?_)))
 rintro T7 _ _ H8 ⟨V26,B27,p28,B29,p30,rfl,rfl,_,_,_⟩
 replace aE:=aE.trans H8
 refine jN 2 [5] (λb32=>[(1,A_ 4 b32 13)]) (λ_=>[]) (λb32=>.aD b32 [vI 4,vI 1,vI 0,.string ⟨#[100]⟩,.string ⟨#[]⟩,.slice B29 (0) (p30),vI 0,vI 0,vI 0,vI 0,vI 0,vI 0,vI 0] 53) (λb32=>NS (jK 20 [44,45] [(1,a_ 2 b18),(5,a_ 2 b18),(10,a_ 3 sA),(15,a_ 4 b32)] (gE [0] (ME (β:=T7) (G:=G) (fs:=Fu) (xs:=[]) (au:=1) (S:=S3) (V:=V26) (tr:=((([]++[dW B13 p14 ({vH with other:=1,answer:=1,code:=0})])++[dW B20 p21 ({vJ with code:=180})])++[dW B27 p28 ({vJ with answer:=0,code:=0})]))) (jK 4 [49,50] [(0,w_ (.bool true) rfl)] (jx [0] (UK (β:=T7) (G:=G) (fs:=Fu) (xs:=[]) (au:=1) (S:=S3) (V:=V26) (tr:=((([]++[dW B13 p14 ({vH with other:=1,answer:=1,code:=0})])++[dW B20 p21 ({vJ with code:=180})])++[dW B27 p28 ({vJ with answer:=0,code:=0})])) WE) ?_)))))
 rintro adX _ _ H9 ⟨A4,c4,K4,rfl,rfl,_⟩
 replace aE:=aE.trans H9
 exact jK 5 [0] [(1,p_ ⟨[],none,none,none,some (vI (((2:Nat):Int)))⟩ [((.int .i64 ↑((aX S3).length):Value))=(.int .i64 (((2:Nat):Int)))] ⟨by rw [ia,hx3],trivial⟩)] (eO (v:=(.bool (decide ((((2:Nat):Int):Int)=(2:Int))))) [] aE ⟨rfl,rfl⟩ [1])
end
section
open Go.RowKit Go.Maps bK aF
section q
variable {β:Bs} {ns:List aO} {Y:eV} {X:FM} {au sK:Int} {S S2:bB} {c c2:aN} {n:Nat} {A:Option Addr} {p:Nat}
structure aew (β:Bs) (B:Option Addr) (p:Nat) (d:List UInt8):Prop where
 b:bF β B d
 l:d.length<=p
theorem Qn (c:aN) (hD:bF β c.dA c.data) (hl:c.data.length<=1048576):cE Tryz.prog β 12 #[.agg ⟨aQ c⟩] [] (λβ' v l=>∃B p,v=.agg ⟨aQ (dW B p c)⟩/\l=[]/\aew β' B p c.data):=
 (Q9 c hD hl).mono (by
  rintro β' v l _ ⟨B,p,rfl,rfl,h1,h2⟩
  exact⟨B,p,rfl,rfl,h1,h2⟩)
end q
end
section
open Go.RowKit Go.Maps bK aF
attribute [local irreducible] av bN aq aB fN oo
theorem law_worldDoes (W:World) (A:Option Addr) (c:Nat) (ns:List aO) (Y:eV) (hG:aP (B0 W) A ns Y) (hB:jZ ns 1048576) (X:FM) (au:Int) (Af:Option Addr) (cf:Nat) (fs:List dF) (hF:cC (B0 W) Af (cI jb fs)) (oL:kR fs 1048576) (Aa:Option Addr) (ca:Nat) (xs:List dK) (hA:cC (B0 W) Aa (cI kg xs)) (d8:lG xs 1048576) (hrw:(Lit.int .i64 au).wf=true) (A1:Option Addr) (c1:Nat) (cs:List aN) (hS:fB (B0 W) A1 cs) (_agS:cs.length<=1048576) (hxc:cs.length<=c1) (hg:pG (B0 W)) :
 aW Tryz.prog (B0 W) 3 #[.agg #[.slice A (ns.length) (c),vI (au),vI (X.cN),vI (X.cB),vI (X.cH),vI (X.cS),vI (X.cZ),.slice Af (fs.length) (cf),.slice Aa (xs.length) (ca)],.slice A1 (cs.length) (c1)] [] (λv _=>v=.bool true):=by
 have aE:=B0.refl W
 have hfl:=oL.len
 have hxn:=d8.len
 refine SE Tryz.func3 Tryz.ntmps3 (λR=>SR (jB 2 [2] (λb1=>.aD b1 [.slice A (ns.length) (c),vI (au),vI (X.cN),vI (X.cB),vI (X.cH),vI (X.cS),vI (X.cZ),.slice Af (fs.length) (cf),.slice Aa (xs.length) (ca)] 34) (λb1=>NZ (jx [] (aaC hg) ?_))))
 rintro nV _ _ fw ⟨rfl,rfl⟩
 replace hG:=hG.le fw
 replace hF:=hF.le fw
 replace hA:=hA.le fw
 replace hS:=hS.le fw
 replace hg:=hg.le fw
 replace aE:=aE.trans fw
 refine jK 1 [15] [] (NF (KX (aq.seq ?_)))
 by_cases h0:fC X ns au=0
 ·have hok:=Fl h0
  refine aq.region (jK 1 [17] [(0,A_ 1 b1 9)] (jx [] (J7 (β:=nV) (X:=X) h0 A c Y hG hB Af cf fs hF (oL.wide Pd) Aa ca xs hA d8) ?_))
  rintro yP _ _ iK ⟨N,G,V,rfl,rfl,D6⟩
  replace hG:=hG.le iK
  replace hF:=hF.le iK
  replace hA:=hA.le iK
  replace hS:=hS.le iK
  replace hg:=hg.le iK
  replace aE:=aE.trans iK
  refine jK 5 [5,6] [] (NS (jK 8 [23,25,27,29] [(1,a_ 2 b1),(3,a_ 2 b1),(5,A_ 2 b1 5),(7,A_ 2 b1 2)] (jx [] (XH (β:=yP) h0 N A c hG hB cf hF (oL.wide Pd) ca hA d8) ?_)))
  rintro CK _ _ lX ⟨Yd,U,rfl,rfl,hR,hU⟩
  replace hS:=hS.le lX
  replace hg:=hg.le lX
  replace D6:=D6.le lX
  replace aE:=aE.trans lX
  refine jN 6 [7,8] (λb5=>[(4,A_ 3 b5 16)]) (λ_=>[]) (λb5=>.aD b5 (uV (toR N.1 []) Yd au U fs.length xs.length 0) 47) (λb5=>NZ (jK 7 [39] [] (NF (KX (SR (jK 1 [51] [] (gL [] (aek A1 c1 cs hxc) ?_)))))))
  rintro _ _ ⟨n,hn,hn3,rfl,rfl⟩
  refine jK 1 [1] [] (NS (jB 2 [9] (λb6=>.aD b6 [] 53) (λb6=>NZ (av.mem (fe:=[wA G fs xs au N.1 V ([]),.abs R,.aD b1 [.slice A (ns.length) (c),vI (au),vI (X.cN),vI (X.cB),vI (X.cH),vI (X.cS),vI (X.cZ),.slice Af (fs.length) (cf),.slice Aa (xs.length) (ca)] 34,.aD b5 (uV (toR N.1 []) Yd au U fs.length xs.length 0) 47,.abs (aH 53 13 (some ⟨b6,0,none⟩) 0 0 (cI aQ []))]) (λw hS=>hS.ou (i:=4) (b:=b6) (cs:=[]) (e:=53) 13 0 rfl rfl (ag0 _)) (jK 1 [10] [] (NN (aq.block (lB (ι:=Nat×Bs×bB×(List Int)×RL×WV×(List aN)×(Option Addr)×Nat×(List aN)) (λ(i,b,S,g,Yd,V,tr,Am,cm,ms)=>b) (λ(i,b,S,g,Yd,V,tr,Am,cm,ms)=>(i<=n)/\((B0 W).le b)/\(fB b A1 cs)/\(pG b)/\(Pair S g)/\(dz b (toR S g) Yd)/\(rP b G.Z xs)/\(Mw b U fs xs)/\(tr.length=i)/\(wv b tr)/\(wv b ms)/\(ms.map bare=tr.map bare)) (λ(i,b,S,g,Yd,V,tr,Am,cm,ms)=>n-i) (λ(i,b,S,g,Yd,V,tr,Am,cm,ms)=>[(1,.slice A1 (n) (c1)),(5,vP G.w),(7,vP b5),(9,.slice Am (i) (cm)),(10,vI ↑i)]) (λ(i,b,S,g,Yd,V,tr,Am,cm,ms)=>[.aD b1 [.slice A (ns.length) (c),vI (au),vI (X.cN),vI (X.cB),vI (X.cH),vI (X.cS),vI (X.cZ),.slice Af (fs.length) (cf),.slice Aa (xs.length) (ca)] 34,.aD b5 (uV (toR S g) Yd au U fs.length xs.length (↑i)) 47,wA G fs xs au S V tr,.abs (aH 53 13 Am i cm (cI aQ ms)),.abs R]) (0,CK,N.1,[],Yd,V,[],(some ⟨b6,0,none⟩),0,[]) [2,3,0,4,1] (⟨ag0 _,aE,hS,hg,.start N hok.2,hR,D6,hU,rfl,λc hc=>(by cases hc),λc hc=>(by cases hc),rfl⟩) ?_))))))))
  rintro⟨i,b,S,g,Yd,V,tr,Am,cm,ms⟩ ⟨hi,aE,hS,hg,hp,hR,D6,hU,htr,hT,hM,hmm⟩
  obtain⟨⟨S2,c2⟩,hWx⟩:∃q,nJ fs xs au (i+1) S (cM cs i)=q:=⟨_,rfl⟩
  have hd2:c2.data=(cM cs i).data:=by have h:=Gt (fs:=fs) (xs:=xs) (au:=au) (n:=i+1) (S:=S) (c:=(cM cs i));rw [hWx] at h;exact h
  refine SQ (jK 4 [57] [] (NN (cP ((((i:Nat):Int):Int)<(((n:Nat):Int):Int)) (λxH=>?_) (λxH=>?_))))
  ·refine KX (aq.seq (aq.block (aq.seq (aq.qZ (S:=[.aD b5 (uV (toR S g) Yd au U fs.length xs.length (↑i)) 47]) (yN [0,1,2,3,4] (oK 9 10 [(false,11),(false,12)] [(false,5),(true,6),(true,7),(true,8)])) [1] (gT (oK 9 10 [(false,11),(false,12)] [(false,5),(true,6),(true,7),(true,8)]) [(1,.slice A1 (n) (c1)),(5,vP G.w),(7,vP b5),(9,.slice Am (i) (cm)),(10,vI ↑i),(61,.agg ⟨uV (toR S g) Yd au U fs.length xs.length (↑i)⟩),(65,.agg ⟨aQ (cM cs i)⟩)] [0,1,2,3,4] [(0,A_ 0 b5 16),(3,x_ i n (fB.hd hS (i:=i) zc)),(4,p_ ⟨[.old (.int .i64 ((cM cs i).op)),.old (.int .i64 ((cM cs i).aL)),.old (.int .i64 ((cM cs i).other)),.old (.string (cM cs i).name),.old (.string (cM cs i).text),.old (.slice (cM cs i).dA ((cM cs i).data.length) ((cM cs i).dC)),.old (.int .i64 ((cM cs i).mode)),.old (.int .i64 ((cM cs i).bg)),.old (.int .i64 ((cM cs i).bh)),.old (.int .i64 ((cM cs i).aU)),.old (.int .i64 ((cM cs i).aI)),.old (.int .i64 ((cM cs i).code)),.old (.int .i64 ((cM cs i).answer))],none,none,none,none⟩ [(Rd b ⟨(bw A1),br A1+i*13+12,none⟩ (vI ((cM cs i).answer))),(Rd b ⟨(bw A1),br A1+i*13+11,none⟩ (vI ((cM cs i).code))),(Rd b ⟨(bw A1),br A1+i*13+10,none⟩ (vI ((cM cs i).aI))),(Rd b ⟨(bw A1),br A1+i*13+9,none⟩ (vI ((cM cs i).aU))),(Rd b ⟨(bw A1),br A1+i*13+8,none⟩ (vI ((cM cs i).bh))),(Rd b ⟨(bw A1),br A1+i*13+7,none⟩ (vI ((cM cs i).bg))),(Rd b ⟨(bw A1),br A1+i*13+6,none⟩ (vI ((cM cs i).mode))),(Rd b ⟨(bw A1),br A1+i*13+5,none⟩ (.slice (cM cs i).dA ((cM cs i).data.length) ((cM cs i).dC))),(Rd b ⟨(bw A1),br A1+i*13+4,none⟩ (.string (cM cs i).text)),(Rd b ⟨(bw A1),br A1+i*13+3,none⟩ (.string (cM cs i).name)),(Rd b ⟨(bw A1),br A1+i*13+2,none⟩ (vI ((cM cs i).other))),(Rd b ⟨(bw A1),br A1+i*13+1,none⟩ (vI ((cM cs i).aL))),(Rd b ⟨(bw A1),br A1+i*13,none⟩ (vI ((cM cs i).op)))] ⟨fB.rd hS (i:=i) zc (j:=12) rfl,fB.rd hS (i:=i) zc (j:=11) rfl,fB.rd hS (i:=i) zc (j:=10) rfl,fB.rd hS (i:=i) zc (j:=9) rfl,fB.rd hS (i:=i) zc (j:=8) rfl,fB.rd hS (i:=i) zc (j:=7) rfl,fB.rd hS (i:=i) zc (j:=6) rfl,fB.rd hS (i:=i) zc (j:=5) rfl,fB.rd hS (i:=i) zc (j:=4) rfl,fB.rd hS (i:=i) zc (j:=3) rfl,fB.rd hS (i:=i) zc (j:=2) rfl,fB.rd hS (i:=i) zc (j:=1) rfl,fB.rd hS (i:=i) zc (j:=0) rfl,trivial⟩)] (oo.both (j:=9) (dj:=11) (k:=10) (dk:=12) (R:=λf_ l_=>∃g2:List Int,∃Y2:RL,∃B2:Option Addr,∃p2:Nat,f_=[(68,.agg ⟨aQ (fX c2 B2 p2)⟩),(67,.agg ⟨uV (toR S2 g2) Y2 au U fs.length xs.length (↑(i+1))⟩),(60,.tuple #[.agg ⟨uV (toR S2 g2) Y2 au U fs.length xs.length (↑(i+1))⟩,.agg ⟨aQ (fX c2 B2 p2)⟩]),(66,.tuple #[.agg ⟨uV (toR S2 g2) Y2 au U fs.length xs.length (↑(i+1))⟩,.agg ⟨aQ (fX c2 B2 p2)⟩]),(1,.slice A1 (n) (c1)),(5,vP G.w),(7,vP b5),(9,.slice Am (i) (cm)),(10,vI ↑i),(61,.agg ⟨uV (toR S g) Yd au U fs.length xs.length (↑i)⟩),(65,.agg ⟨aQ (cM cs i)⟩)]/\l_=[.abs (ko b (λβ'=>Pair S2 g2/\dz β' (toR S2 g2) Y2/\bF β' B2 c2.data))]) [1] [(false,5,66),(true,6,60),(true,7,67),(true,8,68)] (jm.of (ι:=Nat) (v:=λ(b7:Nat)=>vP b7) (l:=λ(b7:Nat)=>[.aD b7 (uZ) 47]) [66,60,67,68,12] rfl rfl rfl rfl ?_) (jm.of (ι:=Nat) (v:=λ(b8:Nat)=>vP b8) (l:=λ(b8:Nat)=>[yS1 b8]) [66,60,67,68,11] rfl rfl rfl rfl ?_) ?_ ?_))))))
   ·intro u Aq
    exact jB 1 [11] (λb7=>.aD b7 (uZ) 47) (λb7=>NL (MD b7 [11,66,60,67,68,12,1,5,7,9,10,61,65] [1,0]))
   ·intro u Aq
    exact jB 1 [12] (λb8=>.aD b8 [vI 0,vI 0,vI 0,.string ⟨#[]⟩,.string ⟨#[]⟩,.slice none (0) (0),vI 0,vI 0,vI 0,vI 0,vI 0,vI 0,vI 0] 53) (λb8=>NL (MD b8 [12,66,60,67,68,11,1,5,7,9,10,61,65] [1,0]))
   ·refine ez.step (jm.of (ι:=(List Int)×RL×(Option Addr)×Nat) (v:=λ((g2,Y2,B2,p2):(List Int)×RL×(Option Addr)×Nat)=>.tuple #[.agg ⟨uV (toR S2 g2) Y2 au U fs.length xs.length (↑(i+1))⟩,.agg ⟨aQ (fX c2 B2 p2)⟩]) (l:=λ((g2,Y2,B2,p2):(List Int)×RL×(Option Addr)×Nat)=>[.abs (ko b (λβ'=>Pair S2 g2/\dz β' (toR S2 g2) Y2/\bF β' B2 c2.data))]) [11,12] rfl rfl rfl rfl ?_) ?_
    ·intro u Aq
     refine gL [] (XI hp Yd hR au U fs xs i zc hU zc d8 hWx (hS.q i zc).name (hS.q i zc).text (hS.q i zc).data (ag1 (hS.q i zc).len Pd) (hS.q i zc).cap) ?_
     rintro _ _ ⟨g2,Y2,B2,p2,rfl,rfl⟩
     exact NL (MD (g2,Y2,B2,p2) [66,11,12,1,5,7,9,10,61,65] [0,1])
    rintro _ _ ⟨⟨g2,Y2,B2,p2⟩,rfl,rfl⟩
    exact ez.read (.tuple #[.agg ⟨uV (toR S2 g2) Y2 au U fs.length xs.length (↑(i+1))⟩,.agg ⟨aQ (fX c2 B2 p2)⟩]) (ez.read (.agg ⟨uV (toR S2 g2) Y2 au U fs.length xs.length (↑(i+1))⟩) (ez.read (.agg ⟨aQ (fX c2 B2 p2)⟩) ⟨g2,Y2,B2,p2,rfl,rfl⟩))
   rintro _ _ ⟨g2,Y2,B2,p2,rfl,rfl⟩ _ _ ⟨b7,rfl,rfl⟩ _ _ ⟨b8,rfl,rfl⟩
   refine kC [4] [] [(0,A_ 1 b7 16)] [(1,(zC (uV (toR S2 g2) Y2 au U fs.length xs.length (↑(i+1)))))] (fN.last KB (jC 1 [] [(0,A_ 2 b8 13)] [(2,(zC (aQ (fX c2 B2 p2))))] (NL (aB.np (NX (SR (av.uz 0 [1,2,3,4,5,6,7] (fe:=[.aD b7 (uV (toR S2 g2) Y2 au U fs.length xs.length (↑(i+1))) 47,.aD b8 (aQ (fX c2 B2 p2)) 53,.aD b1 [.slice A (ns.length) (c),vI (au),vI (X.cN),vI (X.cB),vI (X.cH),vI (X.cS),vI (X.cZ),.slice Af (fs.length) (cf),.slice Aa (xs.length) (ca)] 34,.aD b5 (uV (toR S g) Yd au U fs.length xs.length (↑i)) 47,wA G fs xs au S V tr,.abs (aH 53 13 Am i cm (cI aQ ms)),.abs R]) rfl rfl KB (λvT mI ⟨hp2,tN,Fk⟩=>?_))))))))
   replace hS:=hS.le mI
   replace hg:=hg.le mI
   replace D6:=D6.le mI
   replace hU:=hU.le mI
   replace hT:=hT.le mI
   replace hM:=hM.le mI
   replace aE:=aE.trans mI
   refine jC 2 [] [(0,A_ 0 b7 16),(1,A_ 3 b5 16)] [(3,[(0,.slice Y2.A ((toR S2 g2).ns.length) (Y2.c)),(1,.slice Y2.G ((toR S2 g2).aG.length) (Y2.cg)),(2,vI ((toR S2 g2).cH)),(3,vI ((toR S2 g2).aJ)),(4,.slice Y2.H ((toR S2 g2).us.length) (Y2.ch)),(5,.slice Y2.V ((toR S2 g2).us.length) (Y2.cv)),(6,vI ((toR S2 g2).cN)),(7,vI ((toR S2 g2).cB)),(8,vI ((toR S2 g2).cH)),(9,vI ((toR S2 g2).cS)),(10,vI ((toR S2 g2).cZ)),(11,vI ((toR S2 g2).last)),(15,vI ↑(i+1))])] (NS (jK 5 [70,74] [(3,x_ i n (fB.hd hS (i:=i) zc)),(4,p_ ⟨[.old (.int .i64 ((cM cs i).op)),.old (.int .i64 ((cM cs i).aL)),.old (.int .i64 ((cM cs i).other)),.old (.string (cM cs i).name),.old (.string (cM cs i).text),.old (.slice (cM cs i).dA ((cM cs i).data.length) ((cM cs i).dC)),.old (.int .i64 ((cM cs i).mode)),.old (.int .i64 ((cM cs i).bg)),.old (.int .i64 ((cM cs i).bh)),.old (.int .i64 ((cM cs i).aU)),.old (.int .i64 ((cM cs i).aI)),.old (.int .i64 ((cM cs i).code)),.old (.int .i64 ((cM cs i).answer))],none,none,none,none⟩ [(Rd vT ⟨(bw A1),br A1+i*13+12,none⟩ (vI ((cM cs i).answer))),(Rd vT ⟨(bw A1),br A1+i*13+11,none⟩ (vI ((cM cs i).code))),(Rd vT ⟨(bw A1),br A1+i*13+10,none⟩ (vI ((cM cs i).aI))),(Rd vT ⟨(bw A1),br A1+i*13+9,none⟩ (vI ((cM cs i).aU))),(Rd vT ⟨(bw A1),br A1+i*13+8,none⟩ (vI ((cM cs i).bh))),(Rd vT ⟨(bw A1),br A1+i*13+7,none⟩ (vI ((cM cs i).bg))),(Rd vT ⟨(bw A1),br A1+i*13+6,none⟩ (vI ((cM cs i).mode))),(Rd vT ⟨(bw A1),br A1+i*13+5,none⟩ (.slice (cM cs i).dA ((cM cs i).data.length) ((cM cs i).dC))),(Rd vT ⟨(bw A1),br A1+i*13+4,none⟩ (.string (cM cs i).text)),(Rd vT ⟨(bw A1),br A1+i*13+3,none⟩ (.string (cM cs i).name)),(Rd vT ⟨(bw A1),br A1+i*13+2,none⟩ (vI ((cM cs i).other))),(Rd vT ⟨(bw A1),br A1+i*13+1,none⟩ (vI ((cM cs i).aL))),(Rd vT ⟨(bw A1),br A1+i*13,none⟩ (vI ((cM cs i).op)))] ⟨fB.rd hS (i:=i) zc (j:=12) rfl,fB.rd hS (i:=i) zc (j:=11) rfl,fB.rd hS (i:=i) zc (j:=10) rfl,fB.rd hS (i:=i) zc (j:=9) rfl,fB.rd hS (i:=i) zc (j:=8) rfl,fB.rd hS (i:=i) zc (j:=7) rfl,fB.rd hS (i:=i) zc (j:=6) rfl,fB.rd hS (i:=i) zc (j:=5) rfl,fB.rd hS (i:=i) zc (j:=4) rfl,fB.rd hS (i:=i) zc (j:=3) rfl,fB.rd hS (i:=i) zc (j:=2) rfl,fB.rd hS (i:=i) zc (j:=1) rfl,fB.rd hS (i:=i) zc (j:=0) rfl,trivial⟩)] (jx [] (Qn (cM cs i) (hS.q i zc).data (hS.q i zc).len) ?_)))
   rintro EV _ _ kF ⟨Cc,c11,rfl,rfl,agj⟩
   replace hS:=hS.le kF
   replace hg:=hg.le kF
   replace D6:=D6.le kF
   replace hU:=hU.le kF
   replace hT:=hT.le kF
   replace hM:=hM.le kF
   replace tN:=tN.le kF
   replace Fk:=Fk.le kF
   replace aE:=aE.trans kF
   refine jx [4] (J6 (β:=EV) (G:=G) (fs:=fs) (xs:=xs) (S:=S) (V:=V) (tr:=tr) (c:=dW Cc c11 (cM cs i)) (c2:=dW Cc c11 c2) (S2:=S2) hrw hp.inv zc D6 d8 hg agj.b (hS.q i zc).len (hS.q i zc).hw (hS.q i zc).ow (hS.q i zc).name (hS.q i zc).text rfl (VL.trans (by rw [htr,hWx]))) ?_
   rintro Cn _ _ ld ⟨V2,X1,x1,X2,x2,rfl,rfl,hX1,hX2,_⟩
   replace hS:=hS.le ld
   replace hg:=hg.le ld
   replace D6:=D6.le ld
   replace hU:=hU.le ld
   replace hT:=hT.le ld
   replace hM:=hM.le ld
   replace tN:=tN.le ld
   replace Fk:=Fk.le ld
   replace aE:=aE.trans ld
   exact jN 2 [13] (λb14=>[(1,A_ 7 b14 13)]) (λ_=>[]) (λb14=>.aD b14 (aQ (fX c2 X2 x2)) 53) (λb14=>NZ (jK 2 [77,78] [(0,A_ 7 b14 13),(1,A_ 2 b8 13)] (gE [] (Fq c2 X2 B2 x2 p2 hX2 Fk (by rw [hd2];exact ag1 (hS.q i zc).len Pd)) (jK 4 [81,82,83] [(3,A_ 4 b5 16)] (gE [0] ((UM (β:=Cn) hp2 Y2 tN G fs xs au V2 (tr++[dW X1 x1 c2]) U fs.length xs.length (n:=i+1) (by rw [ag4,htr];rfl))) (jK 2 [86] [] (NF (KX (aq.region (jN 3 [87,89] (λb15=>[(1,A_ 2 b8 13)]) (λ_=>[]) (λb15=>.aD b15 (aQ (fX c2 B2 p2)) 53) (λb15=>av.append 5 (d:=(some 90)) (t:=35) (e:=53) (z:=.agg #[vI 0,vI 0,vI 0,.string ⟨#[]⟩,.string ⟨#[]⟩,.slice none (0) (0),vI 0,vI 0,vI 0,vI 0,vI 0,vI 0,vI 0]) (size:=13) (bytes:=136) (n:=i) (cap:=cm) (A:=Am) (xs:=(cI aQ ms)) (s:=(.tmp 87)) (x:=(.tmp 89)) (ats:=#[35,35]) (A':=some ⟨b15,0,none⟩) (m:=1) (c':=1) (news:=[vI (c2.op),vI (c2.aL),vI (c2.other),.string c2.name,.string c2.text,.slice B2 (c2.data.length) (p2),vI (c2.mode),vI (c2.bg),vI (c2.bh),vI (c2.aU),vI (c2.aI),vI (c2.code),vI (c2.answer)]) (λ_=>KB) rfl KB (λ_=>KB) (λ_=>KB) Tryz.underlying35 KB rfl Pd (rfl) (by simp [Value.oneCell']) (fP (j:=8) rfl) (by unfold maxLen;omega) zc (λA16 c17=>av.cL 5 (p':=.abs (aH 53 13 A16 (i+1) c17 (cI aQ (ms++[dW B2 p2 c2])))) rfl (agX (λx=>HP.abs (aH 53 13 _ _ _ x)) (zf aQ (dW B2 p2 c2) ms).symm) (sl 90 (.slice A16 (i+1) (c17)) (.slice A16 ((i+1)) (c17)) (rfl) (jK 1 [9] [] (LX (aq.region (jK 3 [10] [(1,wJ ((i:Int)+1) (↑(i+1)))] (NL (tB ((i+1),Cn,S2,g2,Y2,V2,(tr++[dW X1 x1 c2]),A16,c17,(ms++[dW B2 p2 c2])) [3,4,0,5,6] (⟨zc,aE,hS,hg,hp2,tN,D6,hU,by rw [ag4,htr];rfl,hT.snoc (c:=dW X1 x1 c2) hX1 (by show c2.data.length<=_;rw [hd2];exact (hS.q i zc).len),hM.snoc (c:=dW B2 p2 c2) Fk (by show c2.data.length<=_;rw [hd2];exact (hS.q i zc).len),by rw [ahv,ahv,hmm];rfl⟩))))))))))))))))))))
  refine XX (SR (jK 1 [91] [] (jx [2] (XK (β:=b) (G:=G) (fs:=fs) (xs:=xs) (au:=au) (S:=S) (V:=V) (tr:=tr) zc hT) ?_)))
  rintro S7 _ _ sR ⟨At,ct,os,rfl,rfl,hO,hM1⟩
  replace hM:=hM.le sR
  replace aE:=aE.trans sR
  refine jK 1 [93] [] (av.cQ [3] [.abs (aH 53 13 Am i cm (cI aQ ms))] (λaei wO hL=>?_))
  have hMr:cC aei Am (cI aQ ms):=hL.rowAt 0 rfl
  replace hM:=hM.le wO
  replace hO:=hO.le wO
  replace aE:=aE.trans wO
  exact sl 92 (.slice At (tr.length) (ct)) (.slice At (i) (ct)) (agX (λn=>Value.slice _ n _) htr) (gE [] (MU At Am ct cm i os ms tr hO ⟨hMr,hM⟩ hM1 hmm htr zc) (jK 1 [4] [] (NN (aq.ret (aB.acG (v:=.bool true) (l:=[]) (eZ:=[]) [] [3] aE (λ_=>KB) trivial rfl KB (rfl))))))
 refine aq.region (jK 1 [17] [(0,A_ 1 b1 9)] (jx [] (UR (β:=nV) (X:=X) h0 A c Y hG hB Af cf fs hF (oL.wide Pd) Aa ca xs hA d8) ?_))
 rintro Z0 _ _ wN ⟨rfl,rfl⟩
 replace hG:=hG.le wN
 replace hF:=hF.le wN
 replace hA:=hA.le wN
 replace aE:=aE.trans wN
 refine jK 5 [5,6] [] (NS (jK 8 [23,25,27,29] [(1,a_ 1 b1),(3,a_ 1 b1),(5,A_ 1 b1 5),(7,A_ 1 b1 2)] (jx [] (XG (β:=Z0) (X:=X) h0 A c hG hB cf hF (oL.wide Pd) ca hA d8) ?_)))
 rintro agT _ _ aaD ⟨rfl,rfl⟩
 replace aE:=aE.trans aaD
 exact jN 6 [7,8] (λlI=>[(4,A_ 2 lI 16)]) (λ_=>[]) (λlI=>.aD lI (uZ) 47) (λlI=>NZ (jK 7 [39] [(2,p_ ⟨[],none,none,none,some (.bool false)⟩ [(Value.bool (!decide (((fC X ns au):Int)=((fC X ns au):Int))))=(.bool false)] ⟨agU,trivial⟩)] (NT (SR (jK 12 [4] [(5,p_ ⟨[],none,none,none,some (.bool true)⟩ [(Value.bool (decide (((fC X ns au):Int)=((fC X ns au):Int))))=(.bool true)] ⟨agU,trivial⟩),(9,Np (((fC X ns au):Int)=(0:Int)) h0)] (NN (aq.ret (aB.bD (aB.acG (v:=.bool true) (l:=[]) (eZ:=[]) [] [0] aE (λ_=>KB) trivial rfl KB (rfl))))))))))
end
section
open Go.RowKit
theorem glob_ok {W:World} (h:W.ShapedOpen Tryz.prog):pG (B0 W):=by
 obtain⟨m,hm⟩:=cell_of_shapedOpen_int (g:=0) (t:=3) (zero:=#[.int .i64 0]) (k:=.i64) h (ahr KB) KB rfl KB KB Tryz.underlying3
 exact⟨m,Rj hm,hm⟩
end
end Go.Proofs.YtbnfiigafobejaaGreat
