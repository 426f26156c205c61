/-
  PROVED HERE: lemmas and contracts of functions (texts of this repo, joined; what the claim does not use is left out): WE, WF, WA, HA, HB, WB, Wc, WC, Wd, WK, EA, Df, RA, RB, Rh, We, WG, Wl, Wf, Rw, Rl, Ra, YA, Wy, Vu, Wv, YC, Cn.
  CONDITIONS: as the theorems say.
-/
import Derived.Test.YtiehgnlnofhbaaaGreatDoorMRunder4
import Derived.Stop.Asserts
import Derived.Defers
set_option maxRecDepth 100000
set_option maxHeartbeats 4000000
namespace Go.Proofs.YtiehgnlnofhbaaaGreatDoor
section
open Go.RowKit Go.Maps bC aE
attribute [local irreducible] ak aW af aj
noncomputable abbrev YH (w)(f:Nat) (o) (root):=(.blk w [.iface 39 (vP w),vP f,.iface 140 (vP o),vI (root),.slice none (0) (0)] 53:HP)
noncomputable abbrev YI (o)(q)(f:Nat) (root) (am):=(.blk o [.iface 141 (vP q),vP f,vI (root),.map (some am),vI 0] 145:HP)
noncomputable abbrev Fh (b4:Nat) (Af) (fs:List bh) (cf) (Aa) (xs:List bM) (ca):=(.blk b4 [.slice Af (fs.length) (cf),.slice Aa (xs.length) (ca)] 32:HP)
noncomputable abbrev Kh (m5:Nat) (Z) (xs:List bM) (i:Nat) (an):=(.abs (aN Tryz.prog 3 m5 (gA Z (xs.take i)) an):HP)
noncomputable abbrev NW (b6:Nat) (xs) (i:Nat):=(.blk b6 [vI ((act xs i).at_),vI ((act xs i).op),.string (act xs i).path,.string (act xs i).to,.string (act xs i).text] 136:HP)
noncomputable abbrev UC (b2:Nat) (b4:Nat) (f:Nat) (m5:Nat):=([(5,vP b2),(7,vP b4),(10,vP f),(13,.map (some m5))]:Fr)
noncomputable abbrev Rv (Aa)(xs:List bM) (ca):=([(44,.slice Aa (xs.length) (ca)),(45,vI ↑xs.length)]:Fr)
noncomputable abbrev WN (b2:Nat) (f:Nat) (m5:Nat) (m11:Nat) (Af) (fs:List bh) (cf) (j:Nat):=([(5,vP b2),(10,vP f),(13,.map (some m5)),(16,.map (some m11)),(63,.slice Af (fs.length) (cf)),(64,vI ↑fs.length),(65,vI ↑j)]:Fr)
noncomputable abbrev WO (w)(f:Nat) (o) (root) (q) (am) (km) (Z) (xs) (an) (fs) (kn):=([YH w f o root,YI o q f root am,.blk q [.iface 49 (vP f),.map (some km),vI 0] 143,.abs (aN Tryz.prog 3 am (gA Z xs) an),.abs (aN Tryz.prog 3 km (eO fs) kn),.abs (aK 88 13 none 0 0 ([]))]:List HP)
theorem Qq {β:Bs} (A:Option Addr) (c:Nat) (ns:List aG) (Y:Lay) (hG:aF β A ns Y) (hB:iA ns 1048576) (X:FM) (root:Int) (Af:Option Addr) (cf:Nat) (fs:List bh) (hF:cF β Af (bQ fP fs)) (mG:je fs 2097152) (Aa:Option Addr) (ca:Nat) (xs:List bM) (hA:cF β Aa (bQ gu xs)) (hab:dZ xs 1048576) :
    bw Tryz.prog β 26 #[.agg #[.slice A (ns.length) (c)],vI (root),.agg #[vI (X.cN),vI (X.cB),vI (X.cH),vI (X.cS),vI (X.cZ)],.agg #[.slice Af (fs.length) (cf),.slice Aa (xs.length) (ca)]] [] (fun β' v l=>(dh X ns root≠0/\v=.tuple #[.pointer none,vI (dh X ns root)]/\l=[])\/(dh X ns root=0/\∃ (N:uh X ns) (L:HL) (w o q f m t am an km kn:Nat) (Z:AZ),v=.tuple #[vP w,vI 0]/\l=(WO w f o root q am km Z xs an fs kn++[pF f m t N.1.X,pI m L N.1.idx,pT t N.1.X.cH N.1.aD L N.1.us,pO N.1.O L,pD N.1.O L,pE N.1.O L])/\fF β' Z xs)):=by
 have hfl:=mG.len
 have hxl:=hab.len
 refine bw.enter Tryz.func26 rfl Tryz.ntmps26 (Nat.le_of_ble_eq_true rfl) (fun hle0 R=>?_)
 refine SR (gN 1 (fun b1=>[(4,vP b1)]) (fun _=>[]) (fun _=>[]) (fun b1=>.blk b1 [.slice A (ns.length) (c)] 24) (fun b1=>?_))
 refine gN 1 (fun b2=>[(5,vP b2)]) (fun _=>[]) (fun _=>[]) (fun b2=>.blk b2 [vI (root)] 3) (fun b2=>?_)
 refine gN 1 (fun b3=>[(6,vP b3)]) (fun _=>[]) (fun _=>[]) (fun b3=>.blk b3 [vI (X.cN),vI (X.cB),vI (X.cH),vI (X.cS),vI (X.cZ)] 28) (fun b3=>?_)
 refine gN 3 (fun b4=>[(7,vP b4)]) (fun _=>[]) (fun _=>[]) (fun b4=>.blk b4 [.slice Af (fs.length) (cf),.slice Aa (xs.length) (ca)] 32) (fun b4=>?_)
 refine NN (af.seq ?_)
 by_cases oU:jQ X/\bp ns
 ·refine af.region (gK 2 [(21,.agg #[.slice A (ns.length) (c)]),(22,.agg #[vI (X.cN),vI (X.cB),vI (X.cH),vI (X.cS),vI (X.cZ)])] [(0,a_ 1 b1),(1,A_ 3 b3 5)] ?_)
  refine gL [] (Qm (β:=β) oU.1 oU.2 A c hG hB) ?_
  rintro _ _ ⟨N,f,m,t,L,rfl,rfl⟩
  refine gK 5 [(10,vP f),(11,vI 0)] [] ?_
  refine NN (af.seq (SR (gK 2 [(27,.bool false)] [] ?_)))
  refine NN (CF (af.skip (NX (af.seq ?_))))
  rcases P9 ns root with ⟨r,hr⟩|hno
  ·have hr1:r < ns.length:=hr.1
   refine af.region (gK 3 [(30,.slice A (ns.length) (c)),(31,.func (.func 50) #[] #[vP b2])] [(1,a_ 7 b1)] ?_)
   refine gL [8] (NV (β:=β) hr A c hG hB b2) ?_
   rintro _ _ ⟨rfl,rfl⟩
   refine gK 1 [(12,vI ↑r)] [] ?_
   refine NN (af.seq (SR (gK 2 [(34,.bool false)] [(1,p_ ⟨[],none,none,none,some (.bool false)⟩ [(Value.bool (decide ((((r:Nat):Int):Int) < (0:Int))))=(.bool false)] ⟨congrArg Value.bool (decide_eq_false (by omega)),trivial⟩)] ?_)))
   refine NN (CF (af.skip (NX (af.seq (SR (gK 7 [(41,.bool (!(decide (((nd ns r).kind:Int)=(2:Int)))))] [(1,a_ 8 b1),(3,p_ ⟨[],some r,none,some ⟨(ax A),av A,none⟩,none⟩ [((r:Nat):Int)=((r:Nat):Int),r < ns.length,(⟨(ax A),av A,none⟩:Addr).spot=none,(A:Option Addr)=some ⟨(ax A),av A,none⟩] ⟨rfl,by omega,rfl,aF.hd hG (i:=r) (by omega),trivial⟩),(5,p_ ⟨[.old (.int .i64 ((nd ns r).kind))],none,none,none,none⟩ [(Rd β ⟨(ax A),av A+r * 10+1,none⟩ (.int .i64 ((nd ns r).kind)))] ⟨aF.rd hG (i:=r) (by omega) (j:=1) rfl,trivial⟩)] ?_))))))
   refine NN (af.gT (p:=((nd ns r).kind:Int)=(2:Int)) (fun _=>by kernel_rfl) (fun vR=>?_) (fun vR=>?_))
   ·refine SR (gK 2 [(8,.pointer none),(9,vI 173)] [] ?_)
    refine NN (af.ret (aj.aq ?_))
    exact aj.gU (v:=.tuple #[.pointer none,vI 173]) (l:=[]) (aZ:=[]) [] [7] hle0 (fun _=>by kernel_rfl) trivial rfl (by kernel_rfl) (.inl ⟨by rw [Di oU.1 oU.2 hr vR];decide,by rw [Di oU.1 oU.2 hr vR],rfl⟩)
   refine af.skip (NX (SR (ak.kV (d:=(some 42)) (t:=134) (fun _=>by kernel_rfl) Tryz.prog rfl 3 (fun m5=>?_))))
   refine gK 1 [(13,.map (some m5))] [] ?_
   refine NN (af.seq (SR (ak.dI 11 (p:=.abs (aN Tryz.prog 3 m5 (fun _=>none) 0)) (p':=.abs (aN Tryz.prog 3 m5 (gA AZ.none (xs.take 0)) 0)) (by kernel_rfl) (congrArg (fun f=>HP.abs (aN Tryz.prog 3 _ f 0)) PV.symm) ?_)))
   refine ak.mem (dw:=[ud b2 root,pF f m t N.1.X,pI m L N.1.idx,pT t N.1.X.cH N.1.aD L N.1.us,pO N.1.O L,pD N.1.O L,pE N.1.O L,.abs R,rX b1 A ns c,sG b3 X,Fh b4 Af fs cf Aa xs ca,.abs (aN Tryz.prog 3 m5 (gA AZ.none (xs.take 0)) 0),.abs (aH (nA AZ.none (xs.take 0)))]) (fun w hS=>hS.Ud) ?_
   refine gK 4 (Rv Aa xs ca++[(46,vI 0)]) [(1,a_ 10 b4)] ?_
   refine NN (af.block ?_)
   refine af.loop (ι:=Nat×AZ×Nat) (fun ((i,Z,an):Nat×AZ×Nat)=>(i<=xs.length)/\(an<=i)) (fun ((i,Z,an):Nat×AZ×Nat)=>xs.length - i) (fun ((i,Z,an):Nat×AZ×Nat)=>(UC b2 b4 f m5++Rv Aa xs ca++[(46,vI ↑i)])) (fun ((i,Z,an):Nat×AZ×Nat)=>[ud b2 root,pF f m t N.1.X,pI m L N.1.idx,pT t N.1.X.cH N.1.aD L N.1.us,pO N.1.O L,pD N.1.O L,pE N.1.O L,rX b1 A ns c,sG b3 X,Fh b4 Af fs cf Aa xs ca,Kh m5 Z xs i an,.abs (aH (nA Z (xs.take i))),.abs R]) (0,AZ.none,0) (idx:=[5,7,10,13,44,45,46]) (pk:=[0,1,2,3,4,5,6,8,9,10,11,12,7]) (show (0<=xs.length)/\(0<=0) from ⟨Nat.zero_le _,Nat.le_refl _⟩) (fun _=>by kernel_rfl) rfl (by kernel_rfl) ?_
   rintro⟨i,Z,an⟩ ⟨hi,han⟩
   show af _ _ _ _ (UC b2 b4 f m5++Rv Aa xs ca++[(46,vI ↑i)]) [ud b2 root,pF f m t N.1.X,pI m L N.1.idx,pT t N.1.X.cH N.1.aD L N.1.us,pO N.1.O L,pD N.1.O L,pE N.1.O L,rX b1 A ns c,sG b3 X,Fh b4 Af fs cf Aa xs ca,Kh m5 Z xs i an,.abs (aH (nA Z (xs.take i))),.abs R] _
   refine SR (gK 1 [(47,.bool (decide ((((i:Nat):Int):Int) < (((xs.length:Nat):Int):Int))))] [] ?_)
   refine NN (af.seq (af.aV (p:=(((i:Nat):Int):Int) < (((xs.length:Nat):Int):Int)) (fun _=>by kernel_rfl) (fun Rw=>?_) (fun Rw=>?_)))
   ·refine af.skip (NX (af.seq (af.block (SR ?_))))
    refine gN 4 (fun b6=>[(15,vP b6)]) (fun b6=>[(0,p_ ⟨[],some i,none,some ⟨(ax Aa),av Aa,none⟩,none⟩ [((i:Nat):Int)=((i:Nat):Int),i < xs.length,(⟨(ax Aa),av Aa,none⟩:Addr).spot=none,(Aa:Option Addr)=some ⟨(ax Aa),av Aa,none⟩] ⟨rfl,by omega,rfl,QY hA (i:=i) (by omega),trivial⟩),(1,p_ ⟨[.old (.int .i64 ((act xs i).at_)),.old (.int .i64 ((act xs i).op)),.old (.string (act xs i).path),.old (.string (act xs i).to),.old (.string (act xs i).text)],none,none,none,none⟩ [(Rd β ⟨(ax Aa),av Aa+i * 5+4,none⟩ (.string (act xs i).text)),(Rd β ⟨(ax Aa),av Aa+i * 5+3,none⟩ (.string (act xs i).to)),(Rd β ⟨(ax Aa),av Aa+i * 5+2,none⟩ (.string (act xs i).path)),(Rd β ⟨(ax Aa),av Aa+i * 5+1,none⟩ (.int .i64 ((act xs i).op))),(Rd β ⟨(ax Aa),av Aa+i * 5,none⟩ (.int .i64 ((act xs i).at_)))] ⟨ru hA (i:=i) (by omega) (j:=4) rfl,ru hA (i:=i) (by omega) (j:=3) rfl,ru hA (i:=i) (by omega) (j:=2) rfl,ru hA (i:=i) (by omega) (j:=1) rfl,ru hA (i:=i) (by omega) (j:=0) rfl,trivial⟩),(3,A_ 13 b6 5)]) (fun _=>[]) (fun b6=>.blk b6 [vI ((act xs i).at_),vI ((act xs i).op),.string (act xs i).path,.string (act xs i).to,.string (act xs i).text] 136) (fun b6=>?_)
    refine NN (af.cA (S:=[Kh m5 Z xs i an,NW b6 xs i]) [0,1,2,3,4,5,6,7,8,9,10] 8 [10,13] (by kernel_rfl) (by kernel_rfl) rfl (by kernel_rfl) ?_)
    refine gR 2 [6,7,8,9,10] (UC b2 b4 f m5++[(15,vP b6)]++Rv Aa xs ca++[(46,vI ↑i),(50,.map (some m5)),(52,vI ((act xs i).at_)),(53,.map (some m5)),(55,vI ((act xs i).at_))]) [0,1,2,3,4,5] [(2,a_ 1 b6),(5,a_ 1 b6)] ?_
    refine aS.dR 0 (d:=(some 56)) (t:=134) (K:=3) (E:=30) (b:=m5) (cnt:=an) (f:=(gA Z (xs.take i))) (x:=(.tmp 53)) (ix:=(.tmp 55)) (key:=.int .i64 ((act xs i).at_)) (z:=.slice none (0) (0)) (kl:=(Lit.int IntKind.i64 (act xs i).at_)) (q:=(gA Z (xs.take i) (Lit.int IntKind.i64 (act xs i).at_))) (by kernel_rfl) (by kernel_rfl) (fun _=>by kernel_rfl) (fun _=>by kernel_rfl) dG Tryz.underlying134 (fun _=>by kernel_rfl) (iK (hab.at (by omega)).aw) (rfl) (by rw [BP];rfl) ?_
    refine gR 0 [8,9,10] [(5,vP b2),(7,vP b4),(10,vP f),(13,.map (some m5)),(44,.slice Aa (xs.length) (ca)),(45,vI ↑xs.length),(46,vI ↑i),(50,.map (some m5)),(52,vI ((act xs i).at_)),(56,((gA Z (xs.take i) (Lit.int IntKind.i64 (act xs i).at_)).getD (.slice none 0 0))),(57,.agg #[vI ((act xs i).at_),vI ((act xs i).op),.string (act xs i).path,.string (act xs i).to,.string (act xs i).text])] [7] [(0,A_ 1 b6 5)] ?_
    refine mN [10,13] (fun b7=>[(58,.slice (some ⟨b7,0,none⟩) (1) (1))]) (fun _=>[]) (fun b7=>.blk b7 [vI ((act xs i).at_),vI ((act xs i).op),.string (act xs i).path,.string (act xs i).to,.string (act xs i).text] 136) (fun b7=>?_)
    refine aS.cut (ι:=(Option Addr)×Nat) (fr':=fun ((A8,c9):(Option Addr)×Nat)=>[(5,vP b2),(7,vP b4),(10,vP f),(13,.map (some m5)),(44,.slice Aa (xs.length) (ca)),(45,vI ↑xs.length),(46,vI ↑i),(50,.map (some m5)),(52,vI ((act xs i).at_)),(59,.slice A8 (((bn (xs.take i) (act xs i).at_).length+1)) (c9))]) (hp':=fun ((A8,c9):(Option Addr)×Nat)=>[ud b2 root,pF f m t N.1.X,pI m L N.1.idx,pT t N.1.X.cH N.1.aD L N.1.us,pO N.1.O L,pD N.1.O L,pE N.1.O L,rX b1 A ns c,sG b3 X,Fh b4 Af fs cf Aa xs ca,Kh m5 Z xs i an,.abs (aH (kZ (nA Z (xs.take i)) (zz (act xs i).at_) bV.none)),.abs R,NW b6 xs i,NW b7 xs i,.abs (aK 136 5 A8 ((bn (xs.take i) (act xs i).at_).length+1) c9 (bQ gu (bn (xs.take i) (act xs i).at_)++gu (act xs i)))]) [10,13] rfl rfl ?_ rfl (fun _=>by kernel_rfl) ?_
    ·refine ak.slot 56 (((gA Z (xs.take i) (Lit.int IntKind.i64 (act xs i).at_)).getD (.slice none 0 0))) (.slice (aA Z (xs.take i) (act xs i).at_) ((bn (xs.take i) (act xs i).at_).length) ((aC Z (xs.take i) (act xs i).at_))) (fun _=>by kernel_rfl) (BP) ?_
     refine ak.mem (dw:=[ud b2 root,pF f m t N.1.X,pI m L N.1.idx,pT t N.1.X.cH N.1.aD L N.1.us,pO N.1.O L,pD N.1.O L,pE N.1.O L,rX b1 A ns c,sG b3 X,Fh b4 Af fs cf Aa xs ca,Kh m5 Z xs i an,.abs (aH (kZ (nA Z (xs.take i)) (zz (act xs i).at_) bV.none)),.abs R,NW b6 xs i,NW b7 xs i,.abs (aK 136 5 (aA Z (xs.take i) (act xs i).at_) ((bn (xs.take i) (act xs i).at_).length) (aC Z (xs.take i) (act xs i).at_) (bQ gu (bn (xs.take i) (act xs i).at_)))]) (fun w hS=>hS.Sh (i:=11) rfl (act xs i).at_) ?_
     have Z1:(bn (xs.take i) (act xs i).at_).length<=1048576:=Nat.le_trans (CY _) (by rw [List.length_take];omega)
     refine ak.append 15 (d:=(some 59)) (t:=30) (e:=136) (z:=.agg #[vI 0,vI 0,.string ⟨#[]⟩,.string ⟨#[]⟩,.string ⟨#[]⟩]) (size:=5) (bytes:=64) (n:=(bn (xs.take i) (act xs i).at_).length) (cap:=(aC Z (xs.take i) (act xs i).at_)) (A:=(aA Z (xs.take i) (act xs i).at_)) (xs:=(bQ gu (bn (xs.take i) (act xs i).at_))) (s:=(.tmp 56)) (x:=(.tmp 58)) (ats:=#[30,30]) (A':=some ⟨b7,0,none⟩) (m:=1) (c':=1) (news:=[vI ((act xs i).at_),vI ((act xs i).op),.string (act xs i).path,.string (act xs i).to,.string (act xs i).text]) (fun _=>by kernel_rfl) rfl (by kernel_rfl) (fun _=>by kernel_rfl) (fun _=>by kernel_rfl) Tryz.underlying30 (by kernel_rfl) rfl (by decide) (rfl) (by simp [Value.oneCell']) (kW (j:=14) rfl) (by unfold maxLen;omega) (by omega) (fun A8 c9=>?_)
     refine ak.dI 15 (p:=.abs (aK 136 5 A8 (((bn (xs.take i) (act xs i).at_).length)+1) c9 ((bQ gu (bn (xs.take i) (act xs i).at_))++[vI ((act xs i).at_),vI ((act xs i).op),.string (act xs i).path,.string (act xs i).to,.string (act xs i).text]))) (p':=.abs (aK 136 5 A8 ((bn (xs.take i) (act xs i).at_).length+1) c9 (bQ gu (bn (xs.take i) (act xs i).at_)++gu (act xs i)))) (by kernel_rfl) (rfl) ?_
     refine ak.slot 59 (.slice A8 (((bn (xs.take i) (act xs i).at_).length)+1) (c9)) (.slice A8 (((bn (xs.take i) (act xs i).at_).length+1)) (c9)) (fun _=>by kernel_rfl) (rfl) ?_
     refine NL ?_
     exact MD (A8,c9) [5,7,10,13,44,45,46,50,52,59] [0,1,2,3,4,5,6,7,8,9,10,11,12,13,14,15]
    rintro⟨A8,c9⟩
    refine aS.last rfl rfl ?_
    refine ak.mem (dw:=[.abs (aH (nA (Z.put (act xs i).at_ A8 c9) (xs.take (i+1)))),.blk b2 [vI (root)] 3,.blk f [vI (N.1.X.cN),vI (N.1.X.cB),vI (N.1.X.cH),vI (N.1.X.cS),vI (N.1.X.cZ),.map (some m),vP t,vI (N.1.X.last),vI (N.1.X.ah),vI (N.1.X.used)] 154,.abs (aN Tryz.prog 3 m (bE (bI L N.1.idx)) N.1.idx.length),.abs (dV 212 t N.1.X.cH N.1.aD (bI L N.1.us)),.abs (aH (bR N.1.O L)),.abs (aH (ct N.1.O L)),.abs (aH (dg N.1.O L)),.blk b1 [.slice A (ns.length) (c)] 24,.blk b3 [vI (X.cN),vI (X.cB),vI (X.cH),vI (X.cS),vI (X.cZ)] 28,.blk b4 [.slice Af (fs.length) (cf),.slice Aa (xs.length) (ca)] 32,.abs (aN Tryz.prog 3 m5 (gA Z (xs.take i)) an),.abs R,.blk b6 [vI ((act xs i).at_),vI ((act xs i).op),.string (act xs i).path,.string (act xs i).to,.string (act xs i).text] 136,.blk b7 [vI ((act xs i).at_),vI ((act xs i).op),.string (act xs i).path,.string (act xs i).to,.string (act xs i).text] 136]) (fun w hS=>by rw [Hf (by omega)];exact hS.Ue (i:=11) (j:=15) (idx:=[0,1,2,3,4,5,6,7,8,9,10,12,13,14]) rfl rfl (by kernel_rfl) rfl) ?_
    refine ak.kH 11 (d:=none) (t:=134) (K:=3) (E:=30) (b:=m5) (n:=an) (f:=(gA Z (xs.take i))) (x:=(.tmp 50)) (ix:=(.tmp 52)) (y:=(.tmp 59)) (key:=.int .i64 ((act xs i).at_)) (u:=.slice A8 (((bn (xs.take i) (act xs i).at_).length+1)) (c9)) (kl:=(Lit.int IntKind.i64 (act xs i).at_)) (n':=(if (gA Z (xs.take i) (Lit.int IntKind.i64 (act xs i).at_)).isSome then an else an+1)) (f':=(gA (Z.put (act xs i).at_ A8 c9) (xs.take (i+1)))) (fun _=>by kernel_rfl) (by kernel_rfl) (fun _=>by kernel_rfl) (fun _=>by kernel_rfl) (fun _=>by kernel_rfl) dG Tryz.underlying134 (by unfold maxLen;omega) (iK (hab.at (by omega)).aw) (rfl) (by rw [Hf (by omega)];exact PW) ?_
    refine NL (aj.np (aj.aP (NX (af.region ?_))))
    refine gK 2 [(46,vI ↑(i+1))] [(0,p_ ⟨[],none,none,none,some (vI ↑(i+1))⟩ [(Value.int .i64 (IntKind.wrap .i64 (((i:Nat):Int)+1)))=(.int .i64 ↑(i+1))] ⟨bB (by omega) (by omega) (by omega),trivial⟩)] ?_
    refine NL ?_
    exact aj.turn ((i+1),(Z.put (act xs i).at_ A8 c9),(if (gA Z (xs.take i) (Lit.int IntKind.i64 (act xs i).at_)).isSome then an else an+1)) (idx:=[5,7,10,13,44,45,46]) (pk:=[1,2,3,4,5,6,7,8,9,10,11,0,12]) (show (((i+1))<=xs.length)/\(((if (gA Z (xs.take i) (Lit.int IntKind.i64 (act xs i).at_)).isSome then an else an+1))<=((i+1))) from ⟨by omega,by split<;>omega⟩) (by show xs.length - ((i+1)) < xs.length - i;omega) (fun _=>by kernel_rfl) rfl (by kernel_rfl)
   refine af.exit (aj.aU (aj.aU (aj.cK (NX (SR ?_)))))
   refine ak.mX (Φ:=fun β'=>fF β' Z xs) 11 [0,1,2,3,4,5,6,7,8,9,10,12] (dw:=[ud b2 root,pF f m t N.1.X,pI m L N.1.idx,pT t N.1.X.cH N.1.aD L N.1.us,pO N.1.O L,pD N.1.O L,pE N.1.O L,rX b1 A ns c,sG b3 X,Fh b4 Af fs cf Aa xs ca,Kh m5 Z xs i an,.abs R]) rfl rfl (by kernel_rfl) (fun F w h β' h1 h2=>fF.of (by rw [show xs.take i=xs by rw [show i=xs.length by omega,List.take_length]] at h;exact h) h1 h2) (fun Ez eX hZ=>?_)
   replace hG:=hG.le eX
   replace hA:=hA.le eX
   replace hF:=hF.le eX
   replace hle0:=hle0.trans eX
   refine ak.dI 10 (p:=.abs (aN Tryz.prog 3 m5 (gA Z (xs.take i)) an)) (p':=.abs (aN Tryz.prog 3 m5 (gA Z xs) an)) (by kernel_rfl) (by rw [show xs.take i=xs by rw [show i=xs.length by omega,List.take_length]]) ?_
   refine ak.kV (d:=(some 61)) (t:=137) (fun _=>by kernel_rfl) Tryz.prog rfl 3 (fun m11=>?_)
   refine gK 1 [(16,.map (some m11))] [] ?_
   refine NN (af.seq (SR (ak.dI 12 (p:=.abs (aN Tryz.prog 3 m11 (fun _=>none) 0)) (p':=.abs (aN Tryz.prog 3 m11 (eO (fs.take 0)) 0)) (by kernel_rfl) (congrArg (fun f=>HP.abs (aN Tryz.prog 3 _ f 0)) Nb.symm) ?_)))
   refine gK 4 [(63,.slice Af (fs.length) (cf)),(64,vI ↑fs.length),(65,vI 0)] [(1,a_ 9 b4)] ?_
   refine NN (af.block ?_)
   refine af.loop (ι:=Nat×Nat) (fun ((j,kn):Nat×Nat)=>(j<=fs.length)/\(kn<=j)) (fun ((j,kn):Nat×Nat)=>fs.length - j) (fun ((j,kn):Nat×Nat)=>(WN b2 f m5 m11 Af fs cf j)) (fun ((j,kn):Nat×Nat)=>[ud b2 root,pF f m t N.1.X,pI m L N.1.idx,pT t N.1.X.cH N.1.aD L N.1.us,pO N.1.O L,pD N.1.O L,pE N.1.O L,rX b1 A ns c,sG b3 X,Fh b4 Af fs cf Aa xs ca,.abs (aN Tryz.prog 3 m5 (gA Z xs) an),.abs (aN Tryz.prog 3 m11 (eO (fs.take j)) kn),.abs R]) (0,0) (idx:=[5,10,13,16,63,64,65]) (pk:=[0,1,2,3,4,5,6,7,8,9,10,12,11]) (show (0<=fs.length)/\(0<=0) from ⟨Nat.zero_le _,Nat.le_refl _⟩) (fun _=>by kernel_rfl) rfl (by kernel_rfl) ?_
   rintro⟨j,kn⟩ ⟨hj,hkn⟩
   show af _ _ _ _ (WN b2 f m5 m11 Af fs cf j) [ud b2 root,pF f m t N.1.X,pI m L N.1.idx,pT t N.1.X.cH N.1.aD L N.1.us,pO N.1.O L,pD N.1.O L,pE N.1.O L,rX b1 A ns c,sG b3 X,Fh b4 Af fs cf Aa xs ca,.abs (aN Tryz.prog 3 m5 (gA Z xs) an),.abs (aN Tryz.prog 3 m11 (eO (fs.take j)) kn),.abs R] _
   refine SR (gK 1 [(66,.bool (decide ((((j:Nat):Int):Int) < (((fs.length:Nat):Int):Int))))] [] ?_)
   refine NN (af.seq (af.aV (p:=(((j:Nat):Int):Int) < (((fs.length:Nat):Int):Int)) (fun _=>by kernel_rfl) (fun Ct=>?_) (fun Ct=>?_)))
   ·refine af.skip (NX (af.seq (af.block (SR ?_))))
    refine gN 4 (fun b12=>[(18,vP b12)]) (fun b12=>[(0,p_ ⟨[],some j,none,some ⟨(ax Af),av Af,none⟩,none⟩ [((j:Nat):Int)=((j:Nat):Int),j < fs.length,(⟨(ax Af),av Af,none⟩:Addr).spot=none,(Af:Option Addr)=some ⟨(ax Af),av Af,none⟩] ⟨rfl,by omega,rfl,VK hF (i:=j) (by omega),trivial⟩),(1,p_ ⟨[.old (.int .i64 ((kx fs j).at_)),.old (.int .i64 ((kx fs j).kind))],none,none,none,none⟩ [(Rd Ez ⟨(ax Af),av Af+j * 2+1,none⟩ (.int .i64 ((kx fs j).kind))),(Rd Ez ⟨(ax Af),av Af+j * 2,none⟩ (.int .i64 ((kx fs j).at_)))] ⟨QZ hF (i:=j) (by omega) (j:=1) rfl,QZ hF (i:=j) (by omega) (j:=0) rfl,trivial⟩),(3,A_ 13 b12 2)]) (fun _=>[]) (fun b12=>.blk b12 [vI ((kx fs j).at_),vI ((kx fs j).kind)] 139) (fun b12=>?_)
    refine NS (gK 4 [(72,.bool (decide (((kx fs j).kind:Int) ≥ (1:Int))))] [(1,a_ 13 b12)] ?_)
    refine ak.iG 72 (((kx fs j).kind:Int) ≥ (1:Int)) (fun _=>by kernel_rfl) (fun YJ=>?_) (fun YJ=>?_)
    ·refine gK 5 [(77,.bool (decide (((kx fs j).kind:Int)<=(3:Int))))] [(1,a_ 13 b12)] ?_
     refine ak.iG 77 (((kx fs j).kind:Int)<=(3:Int)) (fun _=>by kernel_rfl) (fun YK=>?_) (fun YK=>?_)
     ·refine gK 3 [(78,.map (some m11)),(80,vI ((kx fs j).at_))] [(2,a_ 13 b12)] ?_
      refine ak.dR 11 (d:=(some 81)) (t:=137) (K:=3) (E:=3) (b:=m11) (n:=kn) (f:=(eO (fs.take j))) (x:=(.tmp 78)) (ix:=(.tmp 80)) (key:=.int .i64 ((kx fs j).at_)) (z:=.int .i64 0) (kl:=(Lit.int IntKind.i64 (kx fs j).at_)) (r:=(eO (fs.take j) (Lit.int IntKind.i64 (kx fs j).at_))) (fun _=>by kernel_rfl) (by kernel_rfl) (fun _=>by kernel_rfl) (fun _=>by kernel_rfl) dG Tryz.underlying137 (fun _=>by kernel_rfl) (iK (mG.at (by omega))) (rfl) ?_
      refine ak.slot 81 (((eO (fs.take j) (Lit.int IntKind.i64 (kx fs j).at_)).getD (.int .i64 0))) (.int .i64 ((iU (fs.take j) (kx fs j).at_))) (fun _=>by kernel_rfl) (E5) ?_
      refine gK 2 [(83,.bool (decide (((iU (fs.take j) (kx fs j).at_):Int)=(0:Int))))] [] ?_
      refine NN (af.aV (p:=((iU (fs.take j) (kx fs j).at_):Int)=(0:Int)) (fun _=>by kernel_rfl) (fun YL=>?_) (fun YL=>?_))
      ·refine af.region (gK 5 [(84,.map (some m11)),(86,vI ((kx fs j).at_)),(88,vI ((kx fs j).kind))] [(2,a_ 13 b12),(4,a_ 13 b12)] ?_)
       refine ak.kH 11 (d:=none) (t:=137) (K:=3) (E:=3) (b:=m11) (n:=kn) (f:=(eO (fs.take j))) (x:=(.tmp 84)) (ix:=(.tmp 86)) (y:=(.tmp 88)) (key:=.int .i64 ((kx fs j).at_)) (u:=.int .i64 ((kx fs j).kind)) (kl:=(Lit.int IntKind.i64 (kx fs j).at_)) (n':=(if (eO (fs.take j) (Lit.int IntKind.i64 (kx fs j).at_)).isSome then kn else kn+1)) (f':=(eO (fs.take (j+1)))) (fun _=>by kernel_rfl) (by kernel_rfl) (fun _=>by kernel_rfl) (fun _=>by kernel_rfl) (fun _=>by kernel_rfl) dG Tryz.underlying137 (by unfold maxLen;omega) (iK (mG.at (by omega))) (rfl) (by rw [xh (by omega)];exact Nc ⟨by omega,by omega⟩ (by omega)) ?_
       refine NL (aj.aP (NX (af.region ?_)))
       refine gK 2 [(65,vI ↑(j+1))] [(0,p_ ⟨[],none,none,none,some (vI ↑(j+1))⟩ [(Value.int .i64 (IntKind.wrap .i64 (((j:Nat):Int)+1)))=(.int .i64 ↑(j+1))] ⟨bB (by omega) (by omega) (by omega),trivial⟩)] ?_
       refine NL ?_
       exact aj.turn ((j+1),(if (eO (fs.take j) (Lit.int IntKind.i64 (kx fs j).at_)).isSome then kn else kn+1)) (idx:=[5,10,13,16,63,64,65]) (pk:=[0,1,2,3,4,5,6,7,8,9,10,11,12]) (show (((j+1))<=fs.length)/\(((if (eO (fs.take j) (Lit.int IntKind.i64 (kx fs j).at_)).isSome then kn else kn+1))<=((j+1))) from ⟨by omega,by split<;>omega⟩) (by show fs.length - ((j+1)) < fs.length - j;omega) (fun _=>by kernel_rfl) rfl (by kernel_rfl)
      refine af.skip (aj.aP (NX (af.region ?_)))
      refine ak.dI 11 (p:=.abs (aN Tryz.prog 3 m11 (eO (fs.take j)) kn)) (p':=.abs (aN Tryz.prog 3 m11 (eO (fs.take (j+1))) kn)) (by kernel_rfl) (by rw [xh (by omega),xg];unfold FK;omega) ?_
      refine gK 2 [(65,vI ↑(j+1))] [(0,p_ ⟨[],none,none,none,some (vI ↑(j+1))⟩ [(Value.int .i64 (IntKind.wrap .i64 (((j:Nat):Int)+1)))=(.int .i64 ↑(j+1))] ⟨bB (by omega) (by omega) (by omega),trivial⟩)] ?_
      refine NL ?_
      exact aj.turn ((j+1),kn) (idx:=[5,10,13,16,63,64,65]) (pk:=[0,1,2,3,4,5,6,7,8,9,10,11,12]) (show (((j+1))<=fs.length)/\(kn<=((j+1))) from ⟨by omega,by omega⟩) (by show fs.length - ((j+1)) < fs.length - j;omega) (fun _=>by kernel_rfl) rfl (by kernel_rfl)
     refine gK 4 [(81,undef)] [] ?_
     refine gK 2 [(83,.bool false)] [] ?_
     refine NN (CF (af.skip (aj.aP (NX (af.region ?_)))))
     refine ak.dI 11 (p:=.abs (aN Tryz.prog 3 m11 (eO (fs.take j)) kn)) (p':=.abs (aN Tryz.prog 3 m11 (eO (fs.take (j+1))) kn)) (by kernel_rfl) (by rw [xh (by omega),xg];unfold FK;omega) ?_
     refine gK 2 [(65,vI ↑(j+1))] [(0,p_ ⟨[],none,none,none,some (vI ↑(j+1))⟩ [(Value.int .i64 (IntKind.wrap .i64 (((j:Nat):Int)+1)))=(.int .i64 ↑(j+1))] ⟨bB (by omega) (by omega) (by omega),trivial⟩)] ?_
     refine NL ?_
     exact aj.turn ((j+1),kn) (idx:=[5,10,13,16,63,64,65]) (pk:=[0,1,2,3,4,5,6,7,8,9,10,11,12]) (show (((j+1))<=fs.length)/\(kn<=((j+1))) from ⟨by omega,by omega⟩) (by show fs.length - ((j+1)) < fs.length - j;omega) (fun _=>by kernel_rfl) rfl (by kernel_rfl)
    refine gK 9 [(77,.bool false),(81,undef)] [] ?_
    refine gK 2 [(83,.bool false)] [] ?_
    refine NN (CF (af.skip (aj.aP (NX (af.region ?_)))))
    refine ak.dI 11 (p:=.abs (aN Tryz.prog 3 m11 (eO (fs.take j)) kn)) (p':=.abs (aN Tryz.prog 3 m11 (eO (fs.take (j+1))) kn)) (by kernel_rfl) (by rw [xh (by omega),xg];unfold FK;omega) ?_
    refine gK 2 [(65,vI ↑(j+1))] [(0,p_ ⟨[],none,none,none,some (vI ↑(j+1))⟩ [(Value.int .i64 (IntKind.wrap .i64 (((j:Nat):Int)+1)))=(.int .i64 ↑(j+1))] ⟨bB (by omega) (by omega) (by omega),trivial⟩)] ?_
    refine NL ?_
    exact aj.turn ((j+1),kn) (idx:=[5,10,13,16,63,64,65]) (pk:=[0,1,2,3,4,5,6,7,8,9,10,11,12]) (show (((j+1))<=fs.length)/\(kn<=((j+1))) from ⟨by omega,by omega⟩) (by show fs.length - ((j+1)) < fs.length - j;omega) (fun _=>by kernel_rfl) rfl (by kernel_rfl)
   refine af.exit (aj.aU (aj.aU (aj.cK (NX (SR ?_)))))
   refine ak.dI 11 (p:=.abs (aN Tryz.prog 3 m11 (eO (fs.take j)) kn)) (p':=.abs (aN Tryz.prog 3 m11 (eO fs) kn)) (by kernel_rfl) (by rw [show fs.take j=fs by rw [show j=fs.length by omega,List.take_length]]) ?_
   refine gN 5 (fun b13=>[(19,vP b13)]) (fun b13=>[(1,a_ 0 b2)]) (fun _=>[]) (fun b13=>.blk b13 [.nilIface,vP f,.nilIface,vI (root),.slice none (0) (0)] 53) (fun b13=>?_)
   refine NS (gN 11 (fun b14=>[(94,vP b13),(104,.agg #[.iface 141 (vP b14),vP f,vI (root),.map (some m5),vI 0])]) (fun b14=>[(8,a_ 0 b2)]) (fun _=>[]) (fun b14=>.blk b14 [.iface 49 (vP f),.map (some m11),vI 0] 143) (fun b14=>?_))
   refine gN 5 (fun _=>[]) (fun b15=>[(4,a_ 13 b13)]) (fun b15=>[(13,[(2,.iface 140 (vP b15))])]) (fun b15=>.blk b15 [.iface 141 (vP b14),vP f,vI (root),.map (some m5),vI 0] 145) (fun b15=>?_)
   refine NS (gK 3 [(109,vP b13),(111,.iface 39 (vP b13))] [] ?_)
   refine gL [] (Ut b13) ?_
   rintro _ _ ⟨rfl,rfl⟩
   refine gC 3 [] [(2,a_ 13 b13)] [(13,[(0,.iface 39 (vP b13))])] ?_
   refine NS (gK 3 [(8,vP b13),(9,vI 0)] [] ?_)
   refine NN (af.ret (aj.mem (fun w hS=>hS.mF (e:=88) (size:=13)) ?_))
   exact aj.gU (v:=.tuple #[vP b13,vI 0]) (l:=(WO b13 f b15 root b14 m5 m11 Z xs an fs kn++[pF f m t N.1.X,pI m L N.1.idx,pT t N.1.X.cH N.1.aD L N.1.us,pO N.1.O L,pD N.1.O L,pE N.1.O L])) (aZ:=[]) [] [13,15,14,10,11,16,1,2,3,4,5,6,12] hle0 (fun _=>by kernel_rfl) trivial rfl (by kernel_rfl) (.inr ⟨Dh oU.1 oU.2 hr vR,N,L,b13,b15,b14,f,m,t,m5,an,m11,kn,Z,rfl,rfl,hZ⟩)
  refine af.region (gK 3 [(30,.slice A (ns.length) (c)),(31,.func (.func 50) #[] #[vP b2])] [(1,a_ 7 b1)] ?_)
  refine gL [8] (Qp (β:=β) hno A c hG hB b2) ?_
  rintro _ _ ⟨rfl,rfl⟩
  refine gK 1 [(12,vI (-1))] [] ?_
  refine NN (af.seq (SR (gK 2 [(34,.bool true)] [] ?_)))
  refine NN (CT (SR (gK 2 [(8,.pointer none),(9,vI 141)] [] ?_)))
  refine NN (af.ret (aj.aq ?_))
  exact aj.gU (v:=.tuple #[.pointer none,vI 141]) (l:=[]) (aZ:=[]) [] [7] hle0 (fun _=>by kernel_rfl) trivial rfl (by kernel_rfl) (.inl ⟨by rw [AV oU.1 oU.2 hno];decide,by rw [AV oU.1 oU.2 hno],rfl⟩)
 refine af.region (gK 2 [(21,.agg #[.slice A (ns.length) (c)]),(22,.agg #[vI (X.cN),vI (X.cB),vI (X.cH),vI (X.cS),vI (X.cZ)])] [(0,a_ 1 b1),(1,A_ 3 b3 5)] ?_)
 refine gL [] (Qn (β:=β) (root:=root) oU A c hG hB) ?_
 rintro _ _ ⟨rfl,rfl⟩
 refine gK 5 [(10,.pointer none),(11,vI ((dh X ns root)))] [] ?_
 refine NN (af.seq (SR (gK 2 [(27,.bool (!(decide (((dh X ns root):Int)=(0:Int)))))] [] ?_)))
 refine NN (af.gT (p:=((dh X ns root):Int)=(0:Int)) (fun _=>by kernel_rfl) (fun WQ=>?_) (fun WQ=>?_))
 ·refine SR (gK 3 [(8,.pointer none),(9,vI ((dh X ns root)))] [] ?_)
  refine NN (af.ret (aj.aq ?_))
  exact aj.gU (v:=.tuple #[.pointer none,vI ((dh X ns root))]) (l:=[]) (aZ:=[]) [] [0] hle0 (fun _=>by kernel_rfl) trivial rfl (by kernel_rfl) (.inl ⟨Dp oU,rfl,rfl⟩)
 exact absurd WQ (Dp oU)
end
section
open Go.RowKit Go.Maps bC aE
attribute [local irreducible] ak aW af aj
noncomputable abbrev WR (w)(f:Nat) (o) (root) (tA) (tr:List aB) (tC):=(.blk w [.iface 39 (vP w),vP f,.iface 140 (vP o),vI (root),.slice tA (tr.length) (tC)] 53:HP)
noncomputable abbrev YM (o)(q)(f:Nat) (root) (am) (tr:List aB):=(.blk o [.iface 141 (vP q),vP f,vI (root),.map (some am),vI (((tr.length:Nat):Int))] 145:HP)
noncomputable abbrev YN (q)(f:Nat) (km) (tr:List aB):=(.blk q [.iface 49 (vP f),.map (some km),vI (((tr.length:Nat):Int))] 143:HP)
noncomputable abbrev WS (am)(Z)(xs)(an):=(.abs (aN Tryz.prog 3 am (gA Z xs) an):HP)
noncomputable abbrev WT (km)(fs)(kn):=(.abs (aN Tryz.prog 3 km (eO fs) kn):HP)
noncomputable abbrev WU (tA)(tr:List aB) (tC):=(.abs (aK 88 13 tA tr.length tC (bQ dr tr)):HP)
noncomputable abbrev Rx (w)(f:Nat) (o) (root) (tA) (tr) (tC) (q) (am) (km) (Z) (xs) (an) (fs) (kn) (m:Nat) (t) (S:aI) (L:HL):=([WR w f o root tA tr tC,YM o q f root am tr,YN q f km tr,WS am Z xs an,WT km fs kn,WU tA tr tC,pF f m t S.X,pI m L S.idx,x6 t S L,pO S.O L,pD S.O L,pE S.O L]:List HP)
theorem Lz {β:Bs} (S:aI) (L:HL) (w o q f m t am an km kn:Nat) (Z:AZ) (fs:List bh) (xs:List bM) (root:Int) (tr:List aB) (tA:Option Addr) (tC:Nat)  :
    Spec Tryz.prog β 13 #[vP w] (Rx w f o root tA tr tC q am km Z xs an fs kn m t S L) (fun v l=>v=vI (tr.length:Int)/\l=(Rx w f o root tA tr tC q am km Z xs an fs kn m t S L)):=by
 refine Spec.enter Tryz.func13 rfl Tryz.ntmps13 (Nat.le_of_ble_eq_true rfl) (fun R=>?_)
 refine SR (gK 1 [] [] ?_)
 refine NS (gK 6 [(2,vI ↑tr.length)] [(3,a_ 0 w)] ?_)
 refine NN (af.ret ?_)
 exact RT (vI ↑tr.length) [0,1,2,3,4,5,6,7,8,9,10,11,12] (⟨rfl,rfl⟩)
theorem LA {β:Bs} (S:aI) (L:HL) (w o q f m t am an km kn:Nat) (Z:AZ) (fs:List bh) (xs:List bM) (root:Int) (tr:List aB) (tA:Option Addr) (tC:Nat) (hI:Inv S) :
    Spec Tryz.prog β 17 #[vP w] (Rx w f o root tA tr tC q am km Z xs an fs kn m t S L) (fun v l=>∃ A cp K,v=.agg #[.slice A (ay S).length cp]/\l=(Rx w f o root tA tr tC q am km Z xs an fs kn m t S L)++[.abs (aK 108 10 A (ay S).length cp (dU K (ay S))),.abs (jN (mw (ay S) K) (ay S).length),.abs (jN (mz (ay S) K) (ay S).length)]):=by
 refine Spec.enter Tryz.func17 rfl Tryz.ntmps17 (Nat.le_of_ble_eq_true rfl) (fun R=>?_)
 refine SR (gN 1 (fun b1=>[(2,vP b1)]) (fun _=>[]) (fun _=>[]) (fun b1=>.blk b1 [.slice none (0) (0)] 24) (fun b1=>?_))
 refine NS (gK 4 [(6,vP f)] [(3,a_ 0 w)] ?_)
 refine gL [6,7,9,10,11] (NI S L f m t hI) ?_
 rintro _ _ ⟨Ao,cp,K,rfl,rfl⟩
 refine gC 1 [] [(0,a_ 16 b1)] [(16,[(0,.slice Ao ((ay S).length) (cp))])] ?_
 refine NN (af.ret ?_)
 exact aj.ret (v:=.agg #[.slice Ao ((ay S).length) (cp)]) (l:=[WR w f o root tA tr tC,.blk o [.iface 141 (vP q),vP f,vI (root),.map (some am),vI ↑tr.length] 145,.blk q [.iface 49 (vP f),.map (some km),vI ↑tr.length] 143,WS am Z xs an,WT km fs kn,WU tA tr tC,pF f m t S.X,pI m L S.idx,x6 t S L,pO S.O L,pD S.O L,pE S.O L,.abs (aK 108 10 Ao ((ay S).length) cp (dU K (ay S))),.abs (jN (mw (ay S) K) (ay S).length),.abs (jN (mz (ay S) K) (ay S).length)]) (aZ:=[b1=b1]) [.at 16] [8,9,10,11,12,13,0,1,14,2,3,4,5,6,7,15] (fun _=>by kernel_rfl) ⟨rfl,trivial⟩ rfl (by kernel_rfl) (⟨Ao,cp,K,rfl,rfl⟩)
theorem yc {β:Bs} (Af:Option Addr) (cf:Nat) (fs:List bh) (hF:cF β Af (bQ fP fs)) (hfl:fs.length<=2097152) (Aa:Option Addr) (ca:Nat) (xs:List bM) (hA:cF β Aa (bQ gu xs)) (hxl:xs.length<=2097152) :
    Spec Tryz.prog β 27 #[.agg #[.slice Af (fs.length) (cf),.slice Aa (xs.length) (ca)]] [] (fun v l=>∃ B b C c,v=.agg #[.slice B fs.length b,.slice C xs.length c]/\l=[.abs (aK 139 2 B fs.length b (bQ fP fs)),.abs (aK 136 5 C xs.length c (bQ gu xs))]):=by
 refine Spec.enter Tryz.func27 rfl Tryz.ntmps27 (Nat.le_of_ble_eq_true rfl) (fun R=>?_)
 refine SR (gN 1 (fun b2=>[(1,vP b2)]) (fun _=>[]) (fun _=>[]) (fun b2=>.blk b2 [.slice Af (fs.length) (cf),.slice Aa (xs.length) (ca)] 32) (fun b2=>?_))
 refine gN 1 (fun b3=>[(2,vP b3)]) (fun _=>[]) (fun _=>[]) (fun b3=>.blk b3 [.slice none (0) (0),.slice none (0) (0)] 32) (fun b3=>?_)
 refine NS (gN 2 (fun b4=>[(3,.slice (some ⟨b4,0,none⟩) (0) (0))]) (fun _=>[]) (fun _=>[]) (fun b4=>.blk b4 [] 139) (fun b4=>?_))
 refine NS (ak.mem (fun w hS=>hS.pQ (i:=3) (b:=b4) (cs:=[]) (e:=139) 2 0 (by kernel_rfl) rfl (by decide)) ?_)
 refine gK 3 [(6,.slice (some ⟨b4,0,none⟩) (0) (0)),(8,.slice Af (fs.length) (cf))] [(2,a_ 1 b2)] ?_
 refine ak.append 3 (d:=(some 9)) (t:=29) (e:=139) (z:=.agg #[vI 0,vI 0]) (size:=2) (bytes:=16) (n:=0) (cap:=0) (A:=some ⟨b4,0,none⟩) (xs:=[]) (s:=(.tmp 6)) (x:=(.tmp 8)) (ats:=#[29,29]) (A':=Af) (m:=fs.length) (c':=cf) (news:=(bQ fP fs)) (fun _=>by kernel_rfl) rfl (by kernel_rfl) (fun _=>by kernel_rfl) (fun _=>by kernel_rfl) Tryz.underlying29 (by kernel_rfl) rfl (by decide) (E4 (f:=fP) (s:=2) (fun _=>rfl) _) (uy (K7) _ _) (hF.src) (by unfold maxLen;omega) (by omega) (fun A5 c6=>?_)
 refine ak.dI 3 (p:=.abs (aK 139 2 A5 (0+fs.length) c6 ([]++(bQ fP fs)))) (p':=.abs (aK 139 2 A5 fs.length c6 (bQ fP fs))) (by kernel_rfl) (by rw [Nat.zero_add,List.nil_append]) ?_
 refine ak.slot 9 (.slice A5 (0+fs.length) (c6)) (.slice A5 (fs.length) (c6)) (fun _=>by kernel_rfl) (by rw [Nat.zero_add]) ?_
 refine gK 1 [(3,.slice A5 (fs.length) (c6))] [] ?_
 refine NS (gN 2 (fun b7=>[(4,.slice (some ⟨b7,0,none⟩) (0) (0))]) (fun _=>[]) (fun _=>[]) (fun b7=>.blk b7 [] 136) (fun b7=>?_))
 refine NS (ak.mem (fun w hS=>hS.pQ (i:=4) (b:=b7) (cs:=[]) (e:=136) 5 0 (by kernel_rfl) rfl (by decide)) ?_)
 refine gK 3 [(11,.slice (some ⟨b7,0,none⟩) (0) (0)),(13,.slice Aa (xs.length) (ca))] [(2,a_ 1 b2)] ?_
 refine ak.append 4 (d:=(some 14)) (t:=30) (e:=136) (z:=.agg #[vI 0,vI 0,.string ⟨#[]⟩,.string ⟨#[]⟩,.string ⟨#[]⟩]) (size:=5) (bytes:=64) (n:=0) (cap:=0) (A:=some ⟨b7,0,none⟩) (xs:=[]) (s:=(.tmp 11)) (x:=(.tmp 13)) (ats:=#[30,30]) (A':=Aa) (m:=xs.length) (c':=ca) (news:=(bQ gu xs)) (fun _=>by kernel_rfl) rfl (by kernel_rfl) (fun _=>by kernel_rfl) (fun _=>by kernel_rfl) Tryz.underlying30 (by kernel_rfl) rfl (by decide) (E4 (f:=gu) (s:=5) (fun _=>rfl) _) (uy (PU) _ _) (hA.src) (by unfold maxLen;omega) (by omega) (fun A8 c9=>?_)
 refine ak.dI 4 (p:=.abs (aK 136 5 A8 (0+xs.length) c9 ([]++(bQ gu xs)))) (p':=.abs (aK 136 5 A8 xs.length c9 (bQ gu xs))) (by kernel_rfl) (by rw [Nat.zero_add,List.nil_append]) ?_
 refine ak.slot 14 (.slice A8 (0+xs.length) (c9)) (.slice A8 (xs.length) (c9)) (fun _=>by kernel_rfl) (by rw [Nat.zero_add]) ?_
 refine gK 1 [(4,.slice A8 (xs.length) (c9))] [] ?_
 refine NS (gC 4 [] [(3,A_ 2 b3 2)] [(2,[(0,.slice A5 (fs.length) (c6)),(1,.slice A8 (xs.length) (c9))])] ?_)
 refine NN (af.ret ?_)
 exact aj.ret (v:=.agg #[.slice A5 (fs.length) (c6),.slice A8 (xs.length) (c9)]) (l:=[.abs (aK 139 2 A5 fs.length c6 (bQ fP fs)),.abs (aK 136 5 A8 xs.length c9 (bQ gu xs))]) (aZ:=[b3=b3,b3=b3]) [.at 2,.at 2] [3,4,0] (fun _=>by kernel_rfl) ⟨rfl,rfl,trivial⟩ rfl (by kernel_rfl) (⟨A5,c6,A8,c9,rfl,rfl⟩)
end
section
open Go.RowKit Go.Maps bC aE
attribute [local irreducible] ak aW af aj
noncomputable abbrev lV (km)(fs)(kn):=(.abs (aN Tryz.prog 3 km (eO fs) kn):HP)
noncomputable abbrev vW (q)(f:Nat) (km) (n):=(.blk q [.iface 49 (vP f),.map (some km),vI ↑(n+1)] 143:HP)
noncomputable abbrev WW (S:aI) (c:aB):=([(6,vI ((bK S { c with data:=c.data.take (c.data.length / 2) }).2.mode)),(7,vI ((bK S { c with data:=c.data.take (c.data.length / 2) }).2.uid)),(8,vI ((bK S { c with data:=c.data.take (c.data.length / 2) }).2.gid)),(9,vI ((bK S { c with data:=c.data.take (c.data.length / 2) }).2.sec)),(10,vI ((bK S { c with data:=c.data.take (c.data.length / 2) }).2.nano)),(11,vI ((bK S { c with data:=c.data.take (c.data.length / 2) }).2.code)),(12,vI ((bK S { c with data:=c.data.take (c.data.length / 2) }).2.answer))]:Fr)
noncomputable abbrev WX (c):=([(0,vI ((cP c 180).op)),(1,vI ((cP c 180).handle)),(2,vI ((cP c 180).other)),(3,.string (cP c 180).name),(4,.string (cP c 180).text),(5,.slice (cP c 180).dA ((cP c 180).data.length) ((cP c 180).dC)),(6,vI ((cP c 180).mode)),(7,vI ((cP c 180).uid)),(8,vI ((cP c 180).gid)),(9,vI ((cP c 180).sec)),(10,vI ((cP c 180).nano)),(11,vI ((cP c 180).code)),(12,vI ((cP c 180).answer))]:Fr)
noncomputable abbrev WY (S:aI) (c:aB):=([(0,vI ((bK S { c with data:=c.data.take (c.data.length / 2) }).2.op)),(1,vI ((bK S { c with data:=c.data.take (c.data.length / 2) }).2.handle)),(2,vI ((bK S { c with data:=c.data.take (c.data.length / 2) }).2.other)),(3,.string (bK S { c with data:=c.data.take (c.data.length / 2) }).2.name),(4,.string (bK S { c with data:=c.data.take (c.data.length / 2) }).2.text)]:Fr)
noncomputable abbrev AY (b3:Nat) (b4:Nat):=([(3,vP b3),(4,vP b4)]:Fr)
noncomputable abbrev pG (f:Nat) (m:Nat) (t) (S:aI) (L:HL):=([pF f m t S.X,pI m L S.idx,x6 t S L,pO S.O L,pD S.O L,pE S.O L]:List HP)
noncomputable abbrev UD (c:aB):=([(3,.string c.name),(4,.string c.text),(5,.slice c.dA (c.data.length) (c.dC))]:Fr)
noncomputable abbrev WZ (f:Nat) (m:Nat) (t) (S:aI) (c) (L2:HL):=([pF f m t ((bK S c).1.X),pI m L2 (bK S c).1.idx,pT t (bK S c).1.X.cH ((bK S c).1.aD) L2 ((bK S c).1.us),pO ((bK S c).1.O) L2,pD ((bK S c).1.O) L2,pE ((bK S c).1.O) L2]:List HP)
theorem zy {β:Bs} (c:aB) (e:Int) :
    Spec Tryz.prog β 242 #[.agg ⟨dr c⟩,vI (e)] [] (fun v l=>v=.agg ⟨dr (cP c e)⟩/\l=[]):=by
 refine Spec.enter Tryz.func242 rfl Tryz.ntmps242 (Nat.le_of_ble_eq_true rfl) (fun R=>?_)
 refine SR (gN 1 (fun b1=>[(2,vP b1)]) (fun _=>[]) (fun _=>[]) (fun b1=>pC b1 c) (fun b1=>?_))
 refine gN 1 (fun b2=>[(4,vP b2)]) (fun _=>[]) (fun _=>[]) (fun b2=>.blk b2 [vI 0,vI 0,vI 0,.string ⟨#[]⟩,.string ⟨#[]⟩,.slice none (0) (0),vI 0,vI 0,vI 0,vI 0,vI 0,vI 0,vI 0] 88) (fun b2=>?_)
 refine NN (af.seq (SR (gK 4 [(8,.bool (decide ((c.op:Int)=(11:Int))))] [(1,a_ 1 b1)] ?_)))
 refine ak.iG 8 ((c.op:Int)=(11:Int)) (fun _=>by kernel_rfl) (fun h8=>?_) (fun h8=>?_)
 ·refine gK 4 [(12,.bool true)] [] ?_
  refine NN (CT (af.region (gC 12 [] [(1,a_ 1 b1),(3,a_ 1 b1),(5,a_ 1 b1),(7,a_ 1 b1),(9,a_ 1 b1),(11,A_ 1 b1 13)] [(1,(Ep++[(11,vI 0),(12,vI 0)]))] ?_)))
  refine NS (gC 5 [] [(2,a_ 1 b1),(4,a_ 1 b1)] [(1,[(11,vI (e))])] ?_)
  refine NS (gC 2 [] [(0,A_ 1 b1 13),(1,A_ 2 b2 13)] [(2,([(0,vI (c.op)),(1,vI (c.handle))]++UD c++[(11,vI (e))]))] ?_)
  refine NN (af.ret ?_)
  exact aj.ret (v:=.agg ⟨dr { c with other:=0,mode:=0,uid:=0,gid:=0,sec:=0,nano:=0,code:=e,answer:=0 }⟩) (l:=[]) (aZ:=[b2=b2,b2=b2,b2=b2,b2=b2,b2=b2,b2=b2,b2=b2,b2=b2,b2=b2,b2=b2,b2=b2,b2=b2,b2=b2]) [.at 2,.at 2,.at 2,.at 2,.at 2,.at 2,.at 2,.at 2,.at 2,.at 2,.at 2,.at 2,.at 2] [0] (fun _=>by kernel_rfl) ⟨rfl,rfl,rfl,rfl,rfl,rfl,rfl,rfl,rfl,rfl,rfl,rfl,rfl,trivial⟩ rfl (by kernel_rfl) (⟨congrArg (fun x=>Value.agg ⟨dr x⟩) (Eq.symm (if_pos (by omega):cP c e=_)),rfl⟩)
 refine gK 4 [(12,.bool (decide ((c.op:Int)=(12:Int))))] [(1,a_ 1 b1)] ?_
 refine NN (af.aV (p:=(c.op:Int)=(12:Int)) (fun _=>by kernel_rfl) (fun h12=>?_) (fun h12=>?_))
 ·refine af.region (gC 12 [] [(1,a_ 1 b1),(3,a_ 1 b1),(5,a_ 1 b1),(7,a_ 1 b1),(9,a_ 1 b1),(11,A_ 1 b1 13)] [(1,(Ep++[(11,vI 0),(12,vI 0)]))] ?_)
  refine NS (gC 5 [] [(2,a_ 1 b1),(4,a_ 1 b1)] [(1,[(11,vI (e))])] ?_)
  refine NS (gC 2 [] [(0,A_ 1 b1 13),(1,A_ 2 b2 13)] [(2,([(0,vI (c.op)),(1,vI (c.handle))]++UD c++[(11,vI (e))]))] ?_)
  refine NN (af.ret ?_)
  exact aj.ret (v:=.agg ⟨dr { c with other:=0,mode:=0,uid:=0,gid:=0,sec:=0,nano:=0,code:=e,answer:=0 }⟩) (l:=[]) (aZ:=[b2=b2,b2=b2,b2=b2,b2=b2,b2=b2,b2=b2,b2=b2,b2=b2,b2=b2,b2=b2,b2=b2,b2=b2,b2=b2]) [.at 2,.at 2,.at 2,.at 2,.at 2,.at 2,.at 2,.at 2,.at 2,.at 2,.at 2,.at 2,.at 2] [0] (fun _=>by kernel_rfl) ⟨rfl,rfl,rfl,rfl,rfl,rfl,rfl,rfl,rfl,rfl,rfl,rfl,rfl,trivial⟩ rfl (by kernel_rfl) (⟨congrArg (fun x=>Value.agg ⟨dr x⟩) (Eq.symm (if_pos (by omega):cP c e=_)),rfl⟩)
 refine af.skip (NX (SR (gC 5 [] [(2,a_ 1 b1),(4,a_ 1 b1)] [(1,[(11,vI (e)),(12,vI 0)])] ?_)))
 refine NS (gC 2 [] [(0,A_ 1 b1 13),(1,A_ 2 b2 13)] [(2,([(0,vI (c.op)),(1,vI (c.handle)),(2,vI (c.other))]++UD c++[(6,vI (c.mode)),(7,vI (c.uid)),(8,vI (c.gid)),(9,vI (c.sec)),(10,vI (c.nano)),(11,vI (e))]))] ?_)
 refine NN (af.ret ?_)
 exact aj.ret (v:=.agg ⟨dr { c with code:=e,answer:=0 }⟩) (l:=[]) (aZ:=[b2=b2,b2=b2,b2=b2,b2=b2,b2=b2,b2=b2,b2=b2,b2=b2,b2=b2,b2=b2,b2=b2,b2=b2,b2=b2]) [.at 2,.at 2,.at 2,.at 2,.at 2,.at 2,.at 2,.at 2,.at 2,.at 2,.at 2,.at 2,.at 2] [0] (fun _=>by kernel_rfl) ⟨rfl,rfl,rfl,rfl,rfl,rfl,rfl,rfl,rfl,rfl,rfl,rfl,rfl,trivial⟩ rfl (by kernel_rfl) (⟨congrArg (fun x=>Value.agg ⟨dr x⟩) (Eq.symm (if_neg (by omega):cP c e=_)),rfl⟩)
theorem UE {β:Bs} (S:aI) (L:HL) (q f m t km kn n:Nat) (fs:List bh) (hI:Inv S) (hn:n<=8388608) (k:Int) (hk:iU fs ((n+1:Nat):Int)=k) (c:aB) (hC:lq β c) :
    Spec Tryz.prog β 241 #[vP q,.agg ⟨dr c⟩] ([.blk q [.iface 49 (vP f),.map (some km),vI (((n:Nat):Int))] 143,lV km fs kn]++pG f m t S L) (fun v l=>∃ L2,v=.agg ⟨dr (bD k S c).2⟩/\l=[.blk q [.iface 49 (vP f),.map (some km),vI ((((n+1):Nat):Int))] 143,lV km fs kn,pF f m t ((bD k S c).1.X),pI m L2 (bD k S c).1.idx,pT t (bD k S c).1.X.cH ((bD k S c).1.aD) L2 ((bD k S c).1.us),pO ((bD k S c).1.O) L2,pD ((bD k S c).1.O) L2,pE ((bD k S c).1.O) L2]):=by
 have hdl:=hC.dl
 have hdc:=hC.dc
 refine Spec.enter Tryz.func241 rfl Tryz.ntmps241 (Nat.le_of_ble_eq_true rfl) (fun R=>?_)
 refine SR (gN 1 (fun b3=>[(3,vP b3)]) (fun _=>[]) (fun _=>[]) (fun b3=>pC b3 c) (fun b3=>?_))
 refine gN 1 (fun b4=>[(4,vP b4)]) (fun _=>[]) (fun _=>[]) (fun b4=>.blk b4 [vI 0,vI 0,vI 0,.string ⟨#[]⟩,.string ⟨#[]⟩,.slice none (0) (0),vI 0,vI 0,vI 0,vI 0,vI 0,vI 0,vI 0] 88) (fun b4=>?_)
 refine NS (gC 8 [] [(3,a_ 0 q),(4,p_ ⟨[],none,none,none,some (vI ↑(n+1))⟩ [(Value.int .i64 (IntKind.wrap .i64 (((n:Nat):Int)+1)))=(.int .i64 ↑(n+1))] ⟨bB (by omega) (by omega) (by omega),trivial⟩),(7,a_ 0 q)] [(0,[(2,vI ↑(n+1))])] ?_)
 refine NN (af.join (ι:=Unit) (fun (u:Unit)=>(¬ k=1)/\(¬ (k=2/\(c.op=4\/c.op=5\/c.op=6\/c.op=7\/c.op=9)))/\(¬ (k=3/\c.op=9/\2<=c.data.length))) (fun (u:Unit)=>([(0,vP q)]++AY b3 b4)) (fun (u:Unit)=>([vW q f km n,lV km fs kn]++pG f m t S L++[.abs R,pC b3 c,rW b4])) ?_ ?_)
 ·rintro u ⟨oY,hj2,hj3⟩
  show af _ _ _ _ ([(0,vP q)]++AY b3 b4) ([vW q f km n,lV km fs kn]++pG f m t S L++[.abs R,pC b3 c,rW b4]) _
  refine af.seq (af.cA (S:=[vW q f km n,pC b3 c]) [0,1,2,3,4,5,6] 5 [0,9] (by kernel_rfl) (by kernel_rfl) rfl (by kernel_rfl) ?_)
  refine gR 0 [5,6] [(4,vP b4),(78,.iface 49 (vP f)),(79,.agg ⟨dr c⟩)] [0,1,2,3,4] [(3,a_ 0 q),(4,A_ 1 b3 13)] ?_
  refine mL [6,9] [2,3,4,5,6,7] (H8 S L f m t hI c hC) ?_ (by rintro _ _ ⟨L2,rfl,rfl⟩;rfl)
  rintro _ _ ⟨L2,rfl,rfl⟩
  refine aS.last rfl rfl ?_
  refine gC 1 [] [(0,A_ 10 b4 13)] [(10,[(0,vI ((bK S c).2.op)),(1,vI ((bK S c).2.handle)),(2,vI ((bK S c).2.other)),(3,.string (bK S c).2.name),(4,.string (bK S c).2.text),(5,.slice (bK S c).2.dA ((bK S c).2.data.length) ((bK S c).2.dC)),(6,vI ((bK S c).2.mode)),(7,vI ((bK S c).2.uid)),(8,vI ((bK S c).2.gid)),(9,vI ((bK S c).2.sec)),(10,vI ((bK S c).2.nano)),(11,vI ((bK S c).2.code)),(12,vI ((bK S c).2.answer))])] ?_
  refine NL (aj.np (NX (af.ret ?_)))
  exact aj.ret (v:=.agg ⟨dr ((bK S c).2)⟩) (l:=([vW q f km n,lV km fs kn]++WZ f m t S c L2)) (aZ:=[b4=b4,b4=b4,b4=b4,b4=b4,b4=b4,b4=b4,b4=b4,b4=b4,b4=b4,b4=b4,b4=b4,b4=b4,b4=b4]) [.at 10,.at 10,.at 10,.at 10,.at 10,.at 10,.at 10,.at 10,.at 10,.at 10,.at 10,.at 10,.at 10] [6,7,0,1,2,3,4,5,8] (fun _=>by kernel_rfl) ⟨rfl,rfl,rfl,rfl,rfl,rfl,rfl,rfl,rfl,rfl,rfl,rfl,rfl,trivial⟩ rfl (by kernel_rfl) (⟨L2,by rw [show bD k S c=((bK S c).1,(bK S c).2) by unfold bD;rw [if_neg oY,if_neg hj2,if_neg hj3]]<;>exact⟨rfl,rfl⟩⟩)
 refine af.seq (af.eP (by kernel_rfl) (by kernel_rfl) ?_)
 refine gQ 8 [(16,.map (some km)),(20,vI ↑(n+1))] [(3,a_ 0 q),(7,a_ 0 q)] ?_
 refine aW.dR 1 (d:=(some 21)) (t:=137) (K:=3) (E:=3) (b:=km) (n:=kn) (f:=(eO fs)) (x:=(.tmp 16)) (ix:=(.tmp 20)) (key:=.int .i64 ↑(n+1)) (z:=.int .i64 0) (kl:=(.int .i64 ((n+1:Nat):Int))) (r:=(eO fs (.int .i64 ((n+1:Nat):Int)))) (fun _=>by kernel_rfl) (by kernel_rfl) (fun _=>by kernel_rfl) (fun _=>by kernel_rfl) dG Tryz.underlying137 (fun _=>by kernel_rfl) (iK (Nd (by omega))) (rfl) ?_
 refine NQ (NX (af.block (SR ?_)))
 refine ak.slot 21 (((eO fs (.int .i64 ((n+1:Nat):Int))).getD (.int .i64 0))) (.int .i64 (k)) (fun _=>by kernel_rfl) (E5.trans (congrArg (Value.int .i64) hk)) ?_
 refine gK 2 [(22,.bool (decide ((k:Int)=(1:Int))))] [] ?_
 refine NN (af.aV (p:=(k:Int)=(1:Int)) (fun _=>by kernel_rfl) (fun Dk=>?_) (fun Dk=>?_))
 ·refine af.seq (SR (gK 3 [(26,.bool (decide ((c.op:Int)=(13:Int))))] [(1,a_ 9 b3)] ?_))
  refine NN (af.aV (p:=(c.op:Int)=(13:Int)) (fun _=>by kernel_rfl) (fun pX=>?_) (fun pX=>?_))
  ·refine af.cA (S:=[vW q f km n,pC b3 c]) [0,1,2,3,4,5] 5 [0,9] (by kernel_rfl) (by kernel_rfl) rfl (by kernel_rfl) ?_
   refine gR 0 [5] (AY b3 b4++[(30,.iface 49 (vP f)),(31,.agg ⟨dr c⟩)]) [0,1,2,3,4] [(3,a_ 0 q),(4,A_ 1 b3 13)] ?_
   refine aS.last rfl rfl ?_
   refine gL [2,3,4,5,6,7] (H8 S L f m t hI c hC) ?_
   rintro _ _ ⟨L2,rfl,rfl⟩
   refine NL (aj.np (NX (SR ?_)))
   refine gK 1 [(33,.agg ⟨dr c⟩)] [(0,A_ 9 b3 13)] ?_
   refine gL [] (zy c 180) ?_
   rintro _ _ ⟨rfl,rfl⟩
   refine gC 1 [] [(0,A_ 10 b4 13)] [(10,(WX c))] ?_
   refine NN (af.ret (aj.aL (aj.aq ?_)))
   exact aj.ret (v:=.agg ⟨dr (cP c 180)⟩) (l:=([vW q f km n,lV km fs kn]++WZ f m t S c L2)) (aZ:=[b4=b4,b4=b4,b4=b4,b4=b4,b4=b4,b4=b4,b4=b4,b4=b4,b4=b4,b4=b4,b4=b4,b4=b4,b4=b4]) [.at 10,.at 10,.at 10,.at 10,.at 10,.at 10,.at 10,.at 10,.at 10,.at 10,.at 10,.at 10,.at 10] [6,7,0,1,2,3,4,5,8] (fun _=>by kernel_rfl) ⟨rfl,rfl,rfl,rfl,rfl,rfl,rfl,rfl,rfl,rfl,rfl,rfl,rfl,trivial⟩ rfl (by kernel_rfl) (⟨L2,by rw [show bD k S c=((bK S c).1,cP c 180) by unfold bD;rw [if_pos Dk,if_pos pX]]<;>exact⟨rfl,rfl⟩⟩)
  refine af.skip (NX (SR (gK 1 [(33,.agg ⟨dr c⟩)] [(0,A_ 9 b3 13)] ?_)))
  refine gL [] (zy c 180) ?_
  rintro _ _ ⟨rfl,rfl⟩
  refine gC 1 [] [(0,A_ 10 b4 13)] [(10,(WX c))] ?_
  refine NN (af.ret (aj.aL (aj.aq ?_)))
  exact aj.ret (v:=.agg ⟨dr (cP c 180)⟩) (l:=([vW q f km n,lV km fs kn]++pG f m t S L)) (aZ:=[b4=b4,b4=b4,b4=b4,b4=b4,b4=b4,b4=b4,b4=b4,b4=b4,b4=b4,b4=b4,b4=b4,b4=b4,b4=b4]) [.at 10,.at 10,.at 10,.at 10,.at 10,.at 10,.at 10,.at 10,.at 10,.at 10,.at 10,.at 10,.at 10] [0,1,2,3,4,5,6,7,8] (fun _=>by kernel_rfl) ⟨rfl,rfl,rfl,rfl,rfl,rfl,rfl,rfl,rfl,rfl,rfl,rfl,rfl,trivial⟩ rfl (by kernel_rfl) (⟨L,by rw [show bD k S c=(S,cP c 180) by unfold bD;rw [if_pos Dk,if_neg pX]]<;>exact⟨rfl,rfl⟩⟩)
 refine SR (gK 2 [(35,.bool (decide ((k:Int)=(2:Int))))] [] ?_)
 refine NN (af.aV (p:=(k:Int)=(2:Int)) (fun _=>by kernel_rfl) (fun zx=>?_) (fun zx=>?_))
 ·refine SR (gK 2 [(38,vI (c.op))] [(1,a_ 9 b3)] ?_)
  refine NN (af.block ?_)
  refine af.join (ι:=Bool) (fun (fl:Bool)=>(fl=true↔(c.op=4\/c.op=5\/c.op=6\/c.op=7\/c.op=9))) (fun (fl:Bool)=>([(0,vP q)]++AY b3 b4++[(39,.bool fl)])) (fun (fl:Bool)=>([vW q f km n,lV km fs kn]++pG f m t S L++[.abs R,pC b3 c,rW b4])) ?_ ?_
  ·rintro fl hfl
   show af _ _ _ _ ([(0,vP q)]++AY b3 b4++[(39,.bool fl)]) ([vW q f km n,lV km fs kn]++pG f m t S L++[.abs R,pC b3 c,rW b4]) _
   refine af.cond (b:=fl) (fun _=>by kernel_rfl) (fun jt=>?_) (fun jt=>?_)
   ·refine SR (gK 1 [(45,.agg ⟨dr c⟩)] [(0,A_ 9 b3 13)] ?_)
    refine gL [] (zy c 176) ?_
    rintro _ _ ⟨rfl,rfl⟩
    refine gC 1 [] [(0,A_ 10 b4 13)] [(10,[(0,vI ((cP c 176).op)),(1,vI ((cP c 176).handle)),(2,vI ((cP c 176).other)),(3,.string (cP c 176).name),(4,.string (cP c 176).text),(5,.slice (cP c 176).dA ((cP c 176).data.length) ((cP c 176).dC)),(6,vI ((cP c 176).mode)),(7,vI ((cP c 176).uid)),(8,vI ((cP c 176).gid)),(9,vI ((cP c 176).sec)),(10,vI ((cP c 176).nano)),(11,vI ((cP c 176).code)),(12,vI ((cP c 176).answer))])] ?_
    refine NN (af.ret (aj.aL (aj.aL (aj.aq ?_))))
    exact aj.ret (v:=.agg ⟨dr (cP c 176)⟩) (l:=([vW q f km n,lV km fs kn]++pG f m t S L)) (aZ:=[b4=b4,b4=b4,b4=b4,b4=b4,b4=b4,b4=b4,b4=b4,b4=b4,b4=b4,b4=b4,b4=b4,b4=b4,b4=b4]) [.at 10,.at 10,.at 10,.at 10,.at 10,.at 10,.at 10,.at 10,.at 10,.at 10,.at 10,.at 10,.at 10] [0,1,2,3,4,5,6,7,8] (fun _=>by kernel_rfl) ⟨rfl,rfl,rfl,rfl,rfl,rfl,rfl,rfl,rfl,rfl,rfl,rfl,rfl,trivial⟩ rfl (by kernel_rfl) (⟨L,by rw [show bD k S c=(S,cP c 176) by unfold bD;rw [if_neg (by omega),if_pos ⟨zx,hfl.1 jt⟩]]<;>exact⟨rfl,rfl⟩⟩)
   refine af.skip (aj.aP (aj.aP ?_))
   exact aj.meet () (idx:=[0,3,4]) (pk:=[0,1,2,3,4,5,6,7,8,9,10]) (show (¬ k=1)/\(¬ (k=2/\(c.op=4\/c.op=5\/c.op=6\/c.op=7\/c.op=9)))/\(¬ (k=3/\c.op=9/\2<=c.data.length)) from ⟨Dk,fun h=>absurd (jt.symm.trans (hfl.2 h.2)) (by decide),fun h=>by omega⟩) (fun _=>by kernel_rfl) rfl (by kernel_rfl)
  refine SR (gK 2 [(39,.bool (decide ((c.op:Int)=(4:Int))))] [] ?_)
  refine NN (af.aV (p:=(c.op:Int)=(4:Int)) (fun _=>by kernel_rfl) (fun jt=>?_) (fun jt=>?_))
  ·refine af.skip (aj.slot 39 (.bool (decide ((c.op:Int)=(4:Int)))) (.bool true) (fun _=>by kernel_rfl) (congrArg Value.bool (decide_eq_true jt)) ?_)
   exact aj.meet true (idx:=[0,3,4,39]) (pk:=[0,1,2,3,4,5,6,7,8,9,10]) (show (true=true↔(c.op=4\/c.op=5\/c.op=6\/c.op=7\/c.op=9)) from ⟨fun _=>by omega,fun _=>rfl⟩) (fun _=>by kernel_rfl) rfl (by kernel_rfl)
  refine SR (gK 2 [(39,.bool (decide ((c.op:Int)=(5:Int))))] [] ?_)
  refine NN (af.aV (p:=(c.op:Int)=(5:Int)) (fun _=>by kernel_rfl) (fun jt=>?_) (fun jt=>?_))
  ·refine af.skip (aj.slot 39 (.bool (decide ((c.op:Int)=(5:Int)))) (.bool true) (fun _=>by kernel_rfl) (congrArg Value.bool (decide_eq_true jt)) ?_)
   exact aj.meet true (idx:=[0,3,4,39]) (pk:=[0,1,2,3,4,5,6,7,8,9,10]) (show (true=true↔(c.op=4\/c.op=5\/c.op=6\/c.op=7\/c.op=9)) from ⟨fun _=>by omega,fun _=>rfl⟩) (fun _=>by kernel_rfl) rfl (by kernel_rfl)
  refine SR (gK 2 [(39,.bool (decide ((c.op:Int)=(6:Int))))] [] ?_)
  refine NN (af.aV (p:=(c.op:Int)=(6:Int)) (fun _=>by kernel_rfl) (fun jt=>?_) (fun jt=>?_))
  ·refine af.skip (aj.slot 39 (.bool (decide ((c.op:Int)=(6:Int)))) (.bool true) (fun _=>by kernel_rfl) (congrArg Value.bool (decide_eq_true jt)) ?_)
   exact aj.meet true (idx:=[0,3,4,39]) (pk:=[0,1,2,3,4,5,6,7,8,9,10]) (show (true=true↔(c.op=4\/c.op=5\/c.op=6\/c.op=7\/c.op=9)) from ⟨fun _=>by omega,fun _=>rfl⟩) (fun _=>by kernel_rfl) rfl (by kernel_rfl)
  refine SR (gK 2 [(39,.bool (decide ((c.op:Int)=(7:Int))))] [] ?_)
  refine NN (af.aV (p:=(c.op:Int)=(7:Int)) (fun _=>by kernel_rfl) (fun jt=>?_) (fun jt=>?_))
  ·refine af.skip (aj.slot 39 (.bool (decide ((c.op:Int)=(7:Int)))) (.bool true) (fun _=>by kernel_rfl) (congrArg Value.bool (decide_eq_true jt)) ?_)
   exact aj.meet true (idx:=[0,3,4,39]) (pk:=[0,1,2,3,4,5,6,7,8,9,10]) (show (true=true↔(c.op=4\/c.op=5\/c.op=6\/c.op=7\/c.op=9)) from ⟨fun _=>by omega,fun _=>rfl⟩) (fun _=>by kernel_rfl) rfl (by kernel_rfl)
  refine af.region (gK 2 [(39,.bool (decide ((c.op:Int)=(9:Int))))] [] ?_)
  refine NL ?_
  exact aj.meet ((decide (c.op=9))) (idx:=[0,3,4,39]) (pk:=[0,1,2,3,4,5,6,7,8,9,10]) (show (((decide (c.op=9)))=true↔(c.op=4\/c.op=5\/c.op=6\/c.op=7\/c.op=9)) from ⟨fun h=>by have:=of_decide_eq_true h;omega,fun h=>decide_eq_true (by omega)⟩) (fun _=>by kernel_rfl) rfl (by kernel_rfl)
 refine SR (gK 2 [(47,.bool (decide ((k:Int)=(3:Int))))] [] ?_)
 refine NN (af.aV (p:=(k:Int)=(3:Int)) (fun _=>by kernel_rfl) (fun Rw=>?_) (fun Rw=>?_))
 ·refine SR (gK 4 [(52,.bool (decide ((c.op:Int)=(9:Int))))] [(1,a_ 9 b3)] ?_)
  refine ak.iG 52 ((c.op:Int)=(9:Int)) (fun _=>by kernel_rfl) (fun Mi=>?_) (fun Mi=>?_)
  ·refine gK 5 [(57,.bool (decide ((((c.data.length:Nat):Int):Int) ≥ (2:Int))))] [(1,a_ 9 b3)] ?_
   refine NN (af.aV (p:=(((c.data.length:Nat):Int):Int) ≥ (2:Int)) (fun _=>by kernel_rfl) (fun YO=>?_) (fun YO=>?_))
   ·refine SR (gK 3 [(5,.slice c.dA (c.data.length) (c.dC))] [(1,a_ 9 b3)] ?_)
    refine NS (gK 5 [(64,.slice c.dA ((c.data.length / 2)) (c.dC))] [(3,p_ ⟨[],none,none,none,some (vI ↑(c.data.length / 2))⟩ [(Value.int .i64 (IntKind.wrap .i64 (Int.tdiv ((c.data.length:Nat):Int) 2)))=(.int .i64 ↑(c.data.length / 2))] ⟨bB (Int.ofNat_tdiv _ _).symm (by omega) (by omega),trivial⟩),(4,p_ ⟨[],some (c.data.length / 2),none,none,none⟩ [((c.data.length / 2:Nat):Int)=(((c.data.length / 2):Nat):Int),(c.data.length / 2)<=c.dC] ⟨rfl,by omega,trivial⟩)] ?_)
    refine ak.slot 64 (.slice c.dA ((c.data.length / 2)) (c.dC)) (.slice c.dA ((c.data.take (c.data.length / 2)).length) (c.dC)) (fun _=>by kernel_rfl) (by rw [List.length_take,Nat.min_eq_left (by omega)]) ?_
    refine gC 2 [] [(1,a_ 9 b3)] [(9,[(5,.slice c.dA ((c.data.take (c.data.length / 2)).length) (c.dC))])] ?_
    refine NN (af.seq (af.cA (S:=[vW q f km n,.blk b3 [vI (c.op),vI (c.handle),vI (c.other),.string c.name,.string c.text,.slice c.dA ((c.data.take (c.data.length / 2)).length) (c.dC),vI (c.mode),vI (c.uid),vI (c.gid),vI (c.sec),vI (c.nano),vI (c.code),vI (c.answer)] 88]) [0,1,2,3,4,5,6] 5 [0,9] (by kernel_rfl) (by kernel_rfl) rfl (by kernel_rfl) ?_))
    refine gR 0 [5,6] (AY b3 b4++[(5,.slice c.dA (c.data.length) (c.dC)),(69,.iface 49 (vP f)),(70,.agg #[vI (c.op),vI (c.handle),vI (c.other),.string c.name,.string c.text,.slice c.dA ((c.data.take (c.data.length / 2)).length) (c.dC),vI (c.mode),vI (c.uid),vI (c.gid),vI (c.sec),vI (c.nano),vI (c.code),vI (c.answer)])]) [0,1,2,3,4] [(3,a_ 0 q),(4,A_ 1 b3 13)] ?_
    refine mL [6,9] [2,3,4,5,6,7] (H8 S L f m t hI { c with data:=c.data.take (c.data.length / 2) } (Jk hC)) ?_ (by rintro _ _ ⟨L2,rfl,rfl⟩;rfl)
    rintro _ _ ⟨L2,rfl,rfl⟩
    refine aS.last rfl rfl ?_
    refine gC 1 [] [(0,A_ 9 b3 13)] [(9,(WY S c++[(5,.slice (bK S { c with data:=c.data.take (c.data.length / 2) }).2.dA ((bK S { c with data:=c.data.take (c.data.length / 2) }).2.data.length) ((bK S { c with data:=c.data.take (c.data.length / 2) }).2.dC))]++WW S c))] ?_
    refine NL (aj.np (NX (SR ?_)))
    refine gC 3 [] [(2,a_ 9 b3)] [(9,[(5,.slice c.dA (c.data.length) (c.dC))])] ?_
    refine NS (gC 2 [] [(0,A_ 9 b3 13),(1,A_ 10 b4 13)] [(10,(WY S c++[(5,.slice c.dA (c.data.length) (c.dC))]++WW S c))] ?_)
    refine NN (af.ret (aj.aL (aj.aq ?_)))
    exact aj.ret (v:=.agg #[vI ((bK S { c with data:=c.data.take (c.data.length / 2) }).2.op),vI ((bK S { c with data:=c.data.take (c.data.length / 2) }).2.handle),vI ((bK S { c with data:=c.data.take (c.data.length / 2) }).2.other),.string (bK S { c with data:=c.data.take (c.data.length / 2) }).2.name,.string (bK S { c with data:=c.data.take (c.data.length / 2) }).2.text,.slice c.dA (c.data.length) (c.dC),vI ((bK S { c with data:=c.data.take (c.data.length / 2) }).2.mode),vI ((bK S { c with data:=c.data.take (c.data.length / 2) }).2.uid),vI ((bK S { c with data:=c.data.take (c.data.length / 2) }).2.gid),vI ((bK S { c with data:=c.data.take (c.data.length / 2) }).2.sec),vI ((bK S { c with data:=c.data.take (c.data.length / 2) }).2.nano),vI ((bK S { c with data:=c.data.take (c.data.length / 2) }).2.code),vI ((bK S { c with data:=c.data.take (c.data.length / 2) }).2.answer)]) (l:=[vW q f km n,lV km fs kn,pF f m t ((bK S { c with data:=c.data.take (c.data.length / 2) }).1.X),pI m L2 (bK S { c with data:=c.data.take (c.data.length / 2) }).1.idx,pT t (bK S { c with data:=c.data.take (c.data.length / 2) }).1.X.cH ((bK S { c with data:=c.data.take (c.data.length / 2) }).1.aD) L2 ((bK S { c with data:=c.data.take (c.data.length / 2) }).1.us),pO ((bK S { c with data:=c.data.take (c.data.length / 2) }).1.O) L2,pD ((bK S { c with data:=c.data.take (c.data.length / 2) }).1.O) L2,pE ((bK S { c with data:=c.data.take (c.data.length / 2) }).1.O) L2]) (aZ:=[b4=b4,b4=b4,b4=b4,b4=b4,b4=b4,b4=b4,b4=b4,b4=b4,b4=b4,b4=b4,b4=b4,b4=b4,b4=b4]) [.at 10,.at 10,.at 10,.at 10,.at 10,.at 10,.at 10,.at 10,.at 10,.at 10,.at 10,.at 10,.at 10] [6,7,0,1,2,3,4,5,8] (fun _=>by kernel_rfl) ⟨rfl,rfl,rfl,rfl,rfl,rfl,rfl,rfl,rfl,rfl,rfl,rfl,rfl,trivial⟩ rfl (by kernel_rfl) (⟨L2,by rw [show bD k S c=((bK S { c with data:=c.data.take (c.data.length / 2) }).1,{ (bK S { c with data:=c.data.take (c.data.length / 2) }).2 with dA:=c.dA,dC:=c.dC,data:=c.data }) by unfold bD;rw [if_neg (by omega),if_neg (by omega),if_pos ⟨Rw,by omega,by omega⟩]]<;>exact⟨rfl,rfl⟩⟩)
   refine af.skip (aj.aP ?_)
   exact aj.meet () (idx:=[0,3,4]) (pk:=[0,1,2,3,4,5,6,7,8,9,10]) (show (¬ k=1)/\(¬ (k=2/\(c.op=4\/c.op=5\/c.op=6\/c.op=7\/c.op=9)))/\(¬ (k=3/\c.op=9/\2<=c.data.length)) from ⟨Dk,fun h=>zx h.1,fun h=>by omega⟩) (fun _=>by kernel_rfl) rfl (by kernel_rfl)
  refine gK 5 [(57,.bool false)] [] ?_
  refine NN (CF (af.skip (aj.aP ?_)))
  exact aj.meet () (idx:=[0,3,4]) (pk:=[0,1,2,3,4,5,6,7,8,9,10]) (show (¬ k=1)/\(¬ (k=2/\(c.op=4\/c.op=5\/c.op=6\/c.op=7\/c.op=9)))/\(¬ (k=3/\c.op=9/\2<=c.data.length)) from ⟨Dk,fun h=>zx h.1,fun h=>by omega⟩) (fun _=>by kernel_rfl) rfl (by kernel_rfl)
 refine af.skip (aj.aP ?_)
 exact aj.meet () (idx:=[0,3,4]) (pk:=[0,1,2,3,4,5,6,7,8,9,10]) (show (¬ k=1)/\(¬ (k=2/\(c.op=4\/c.op=5\/c.op=6\/c.op=7\/c.op=9)))/\(¬ (k=3/\c.op=9/\2<=c.data.length)) from ⟨Dk,fun h=>zx h.1,fun h=>by omega⟩) (fun _=>by kernel_rfl) rfl (by kernel_rfl)
end
section
open Go.RowKit Go.Maps bC aE
attribute [local irreducible] ak aW af aj
theorem Ak {β:Bs} (S:aI) (L:HL) (f:Nat) (hI:Inv S) (d:Nat) (hd:Live S.idx ⟨d,2⟩) (path:ByteArray) (hsz:path.size<=1048576) (hg:dQ β) :
    Spec Tryz.prog β 230 #[vP f,vP (L.b d),.string path] [.abs (aH (bR S.O L)),.abs (aH (dg S.O L))] (fun v l=>v=BR L (jC S.O d path)/\l=[.abs (aH (bR S.O L)),.abs (aH (dg S.O L))]):=by
 have hkd:(obj S.O d).kind=2:=hI.kind hd
 obtain⟨ps,hps⟩:∃ ps,ps=jF path:=⟨_,rfl⟩
 have hpl:1<=ps.length/\ps.length<=1048577:=by rw [hps,Db];have:=zj path;omega
 have NY:∀ q,q < ps.length->(pc ps q).size<=1048576:=fun q hq=>Nat.le_trans (Jo (hps ▸ Nt hq)) hsz
 refine Spec.enter Tryz.func230 rfl Tryz.ntmps230 (Nat.le_of_ble_eq_true rfl) (fun R=>?_)
 refine SR (gK 3 [] [] ?_)
 refine NS (gK 1 [(19,.string path)] [] ?_)
 refine gL [] (Ns hg path hsz hps) ?_
 rintro _ _ ⟨b1,rfl,rfl⟩
 refine gK 1 [(9,.slice (some ⟨b1,0,none⟩) (ps.length) (ps.length))] [] ?_
 refine NN (af.seq (SR (gK 3 [(21,.slice (some ⟨b1,0,none⟩) (ps.length) (ps.length)),(22,vI ↑ps.length),(23,vI 0)] [] ?_)))
 refine NN (af.block ?_)
 refine af.loop (ι:=Nat) (fun (j:Nat)=>(j<=ps.length)/\(∀ q,q < j->bF (pc ps q))) (fun (j:Nat)=>ps.length - j) (fun (j:Nat)=>[(1,vP (L.b d)),(9,.slice (some ⟨b1,0,none⟩) (ps.length) (ps.length)),(21,.slice (some ⟨b1,0,none⟩) (ps.length) (ps.length)),(22,vI ↑ps.length),(23,vI ↑j)]) (fun (j:Nat)=>[pO S.O L,pE S.O L,.abs (aK 9 1 (some ⟨b1,0,none⟩) ps.length ps.length (gZ ps)),.abs R]) 0 (idx:=[1,9,21,22,23]) (pk:=[1,2,0,3]) (show (0<=ps.length)/\(∀ q,q < 0->bF (pc ps q)) from ⟨Nat.zero_le _,fun q h=>absurd h (Nat.not_lt_zero q)⟩) (fun _=>by kernel_rfl) rfl (by kernel_rfl) ?_
 rintro j ⟨hj,hgd⟩
 show af _ _ _ _ [(1,vP (L.b d)),(9,.slice (some ⟨b1,0,none⟩) (ps.length) (ps.length)),(21,.slice (some ⟨b1,0,none⟩) (ps.length) (ps.length)),(22,vI ↑ps.length),(23,vI ↑j)] [pO S.O L,pE S.O L,.abs (aK 9 1 (some ⟨b1,0,none⟩) ps.length ps.length (gZ ps)),.abs R] _
 refine SR (gK 1 [(24,.bool (decide ((((j:Nat):Int):Int) < (((ps.length:Nat):Int):Int))))] [] ?_)
 refine NN (af.seq (af.aV (p:=(((j:Nat):Int):Int) < (((ps.length:Nat):Int):Int)) (fun _=>by kernel_rfl) (fun x5=>?_) (fun x5=>?_)))
 ·refine af.skip (NX (af.seq (af.block (SR ?_))))
  refine gK 3 [(11,.string (pc ps j))] [(0,p_ ⟨[],some j,none,none,some (.pointer (some ⟨b1,j,none⟩))⟩ [(Value.pointer (some ⟨b1,0+j * 1,none⟩))=(.pointer (some ⟨b1,j,none⟩)),((j:Nat):Int)=((j:Nat):Int),j < ps.length,(⟨b1,0,none⟩:Addr).spot=none] ⟨by simp,rfl,by omega,rfl,trivial⟩),(1,p_ ⟨[.view 2 (.string (pc ps j))],none,none,none,none⟩ [(∀ F w,(aK 9 1 (some ⟨b1,0,none⟩) ps.length ps.length (gZ ps)).h F w->w.cell? ⟨b1,j,none⟩=some (.string (pc ps j)))] ⟨aK.cell (xq (by omega)),trivial⟩)] ?_
  refine NS (gK 1 [(27,.string (pc ps j))] [] ?_)
  refine gL [] (tL (pc ps j) (by have:=NY j (by omega);omega)) ?_
  rintro _ _ ⟨rfl,rfl⟩
  refine gK 1 [(29,.bool (!(decide (bF (pc ps j)))))] [] ?_
  refine NN (af.gT (p:=bF (pc ps j)) (fun _=>by kernel_rfl) (fun NZ=>?_) (fun NZ=>?_))
  ·refine SR (gK 3 [(6,.pointer none),(7,.string ⟨#[]⟩),(8,vI 95)] [] ?_)
   refine NN (af.ret (aj.aL (aj.aq (aj.aq (aj.aL (aj.aq ?_))))))
   exact RT (l:=[.abs (aH (bR S.O L)),.abs (aH (dg S.O L))]) (.tuple #[.pointer none,.string ⟨#[]⟩,vI 95]) [0,1,3] (⟨congrArg (BR L) (Eq.symm (show jC S.O d path=.error 95 from if_neg (fun h=>NZ (Hz.1 (hps ▸ h) j (by omega))))),rfl⟩)
  refine af.skip (aj.aP (NX (af.region ?_)))
  refine gK 2 [(23,vI ↑(j+1))] [(0,p_ ⟨[],none,none,none,some (vI ↑(j+1))⟩ [(Value.int .i64 (IntKind.wrap .i64 (((j:Nat):Int)+1)))=(.int .i64 ↑(j+1))] ⟨bB (by omega) (by omega) (by omega),trivial⟩)] ?_
  refine NL ?_
  exact aj.turn ((j+1)) (idx:=[1,9,21,22,23]) (pk:=[0,1,2,3]) (show (((j+1))<=ps.length)/\(∀ q,q < ((j+1))->bF (pc ps q)) from ⟨by omega,fun q hq=>(Nat.lt_succ_iff_lt_or_eq.1 hq).elim (hgd q) (fun e=>e ▸ NZ)⟩) (by show ps.length - ((j+1)) < ps.length - j;omega) (fun _=>by kernel_rfl) rfl (by kernel_rfl)
 refine af.exit (aj.aU (aj.aU (aj.cK (NX (SR ?_)))))
 have hall:∀ p∈ps,bF p:=Hz.2 (fun q hq=>hgd q (by omega))
 refine gK 4 [(12,vI ↑(ps.length - 1))] [(2,p_ ⟨[],none,none,none,some (vI ↑(ps.length - 1))⟩ [(Value.int .i64 (IntKind.wrap .i64 (((ps.length:Nat):Int) - 1)))=(.int .i64 ↑(ps.length - 1))] ⟨bB (by omega) (by omega) (by omega),trivial⟩)] ?_
 refine NN (af.seq (SR (gK 5 [(36,.slice (some ⟨b1,0,none⟩) ((ps.length - 1)) (ps.length)),(37,vI ↑(ps.length - 1)),(38,vI 0)] [(2,p_ ⟨[],some (ps.length - 1),none,none,none⟩ [(((ps.length - 1):Nat):Int)=(((ps.length - 1):Nat):Int),(ps.length - 1)<=ps.length] ⟨rfl,by omega,trivial⟩)] ?_)))
 refine NN (af.block ?_)
 refine af.loop (ι:=Nat×Nat) (fun ((j,e):Nat×Nat)=>(j<=ps.length - 1)/\(Live S.idx ⟨e,2⟩)/\(jJ S.O d ps=jJ S.O e (ps.drop j))) (fun ((j,e):Nat×Nat)=>ps.length - 1 - j) (fun ((j,e):Nat×Nat)=>[(1,vP (L.b e)),(9,.slice (some ⟨b1,0,none⟩) (ps.length) (ps.length)),(12,vI ↑(ps.length - 1)),(36,.slice (some ⟨b1,0,none⟩) ((ps.length - 1)) (ps.length)),(37,vI ↑(ps.length - 1)),(38,vI ↑j)]) (fun ((j,e):Nat×Nat)=>[pO S.O L,pE S.O L,.abs (aK 9 1 (some ⟨b1,0,none⟩) ps.length ps.length (gZ ps)),.abs R]) (0,d) (idx:=[1,9,12,36,37,38]) (pk:=[0,1,2,3]) (show (0<=ps.length - 1)/\(Live S.idx ⟨d,2⟩)/\(jJ S.O d ps=jJ S.O d (ps.drop 0)) from ⟨Nat.zero_le _,hd,by rw [List.drop_zero]⟩) (fun _=>by kernel_rfl) rfl (by kernel_rfl) ?_
 rintro⟨j,e⟩ ⟨hj,hle,hw⟩
 show af _ _ _ _ [(1,vP (L.b e)),(9,.slice (some ⟨b1,0,none⟩) (ps.length) (ps.length)),(12,vI ↑(ps.length - 1)),(36,.slice (some ⟨b1,0,none⟩) ((ps.length - 1)) (ps.length)),(37,vI ↑(ps.length - 1)),(38,vI ↑j)] [pO S.O L,pE S.O L,.abs (aK 9 1 (some ⟨b1,0,none⟩) ps.length ps.length (gZ ps)),.abs R] _
 have hke:(obj S.O e).kind=2:=hI.kind hle
 refine SR (gK 1 [(39,.bool (decide ((((j:Nat):Int):Int) < ((((ps.length - 1):Nat):Int):Int))))] [] ?_)
 refine NN (af.seq (af.aV (p:=(((j:Nat):Int):Int) < ((((ps.length - 1):Nat):Int):Int)) (fun _=>by kernel_rfl) (fun jt=>?_) (fun jt=>?_)))
 ·have qd:(pc ps j).size<=1048576:=NY j (by omega)
  have hee:(obj S.O e).ah.length<=8192:=hI.iL hle
  refine af.skip (NX (af.seq (af.block (SR ?_))))
  refine gK 3 [(14,.string (pc ps j))] [(0,p_ ⟨[],some j,none,none,some (.pointer (some ⟨b1,j,none⟩))⟩ [(Value.pointer (some ⟨b1,0+j * 1,none⟩))=(.pointer (some ⟨b1,j,none⟩)),((j:Nat):Int)=((j:Nat):Int),j < (ps.length - 1),(⟨b1,0,none⟩:Addr).spot=none] ⟨by simp,rfl,by omega,rfl,trivial⟩),(1,p_ ⟨[.view 2 (.string (pc ps j))],none,none,none,none⟩ [(∀ F w,(aK 9 1 (some ⟨b1,0,none⟩) ps.length ps.length (gZ ps)).h F w->w.cell? ⟨b1,j,none⟩=some (.string (pc ps j)))] ⟨aK.cell (xq (by omega)),trivial⟩)] ?_
  refine NN (af.seq ?_)
  rcases hI.pZ hle (pc ps j) with hlk|⟨tk,hlk,hlv⟩|⟨tk,hlk,hlv⟩|⟨tk,hlk,hlv⟩
  ·refine af.region (gK 5 [(45,.map (some (L.m e))),(46,.string (pc ps j))] [(3,v_ 0 (bP L hke))] ?_)
   refine jb 1 hke hlk ?_
   refine NN (af.block (SR ?_))
   refine gK 1 [(48,.bool true)] [] ?_
   refine NN (CT (SR (gK 1 [] [] ?_)))
   refine NS (gK 3 [(6,.pointer none),(7,.string ⟨#[]⟩),(8,vI 170)] [] ?_)
   refine NN (af.ret (aj.aL (aj.aL (aj.aq (aj.aq (aj.aL (aj.aq ?_)))))))
   exact RT (l:=[.abs (aH (bR S.O L)),.abs (aH (dg S.O L))]) (.tuple #[.pointer none,.string ⟨#[]⟩,vI 170]) [0,1,3] (⟨congrArg (BR L) (Eq.symm (show jC S.O d path=.error 170 from (show jC S.O d path=jJ S.O d ps by unfold jC;rw [← hps];exact if_pos hall).trans (hw.trans ((uK (by omega)).trans (by rw [hlk]<;>rfl))))),rfl⟩)
  ·have hkt:(obj S.O tk).kind=1:=hI.kind hlv
   refine af.region (gK 5 [(45,.map (some (L.m e))),(46,.string (pc ps j))] [(3,v_ 0 (bP L hke))] ?_)
   refine jb 1 hke hlk ?_
   refine NN (af.block (SR ?_))
   refine gK 1 [(48,.bool false)] [] ?_
   refine NN (CF (SR (gK 3 [(50,.bool false),(51,.pointer none)] [] ?_)))
   refine NN (CF (SR (gK 3 [(53,.bool true),(54,vP (L.b tk))] [] ?_)))
   refine NN (CT (SR (gK 1 [] [] ?_)))
   refine NS (gK 3 [(6,.pointer none),(7,.string ⟨#[]⟩),(8,vI 173)] [] ?_)
   refine NN (af.ret (aj.aL (aj.aL (aj.aq (aj.aq (aj.aL (aj.aq ?_)))))))
   exact RT (l:=[.abs (aH (bR S.O L)),.abs (aH (dg S.O L))]) (.tuple #[.pointer none,.string ⟨#[]⟩,vI 173]) [0,1,3] (⟨congrArg (BR L) (Eq.symm (show jC S.O d path=.error 173 from (show jC S.O d path=jJ S.O d ps by unfold jC;rw [← hps];exact if_pos hall).trans (hw.trans ((uK (by omega)).trans (by rw [hlk]<;>rfl))))),rfl⟩)
  ·have hkt:(obj S.O tk).kind=2:=hI.kind hlv
   refine af.region (gK 5 [(45,.map (some (L.m e))),(46,.string (pc ps j))] [(3,v_ 0 (bP L hke))] ?_)
   refine jb 1 hke hlk ?_
   refine NN (af.block (SR ?_))
   refine gK 1 [(48,.bool false)] [] ?_
   refine NN (CF (SR (gK 3 [(50,.bool false),(51,.pointer none)] [] ?_)))
   refine NN (CF (SR (gK 3 [(53,.bool false),(54,.pointer none)] [] ?_)))
   refine NN (CF (SR (gK 3 [(56,.bool true),(57,vP (L.b tk))] [] ?_)))
   refine NN (CT (SR (gK 1 [(18,vP (L.b tk))] [] ?_)))
   refine NN (af.region (gK 2 [(1,vP (L.b tk))] [] ?_))
   refine NL (aj.aP (aj.aP (NX (af.region ?_))))
   refine gK 2 [(38,vI ↑(j+1))] [(0,p_ ⟨[],none,none,none,some (vI ↑(j+1))⟩ [(Value.int .i64 (IntKind.wrap .i64 (((j:Nat):Int)+1)))=(.int .i64 ↑(j+1))] ⟨bB (by omega) (by omega) (by omega),trivial⟩)] ?_
   refine NL ?_
   exact aj.turn ((j+1),tk) (idx:=[1,9,12,36,37,38]) (pk:=[0,1,2,3]) (show (((j+1))<=ps.length - 1)/\(Live S.idx ⟨tk,2⟩)/\(jJ S.O d ps=jJ S.O tk (ps.drop ((j+1)))) from ⟨by omega,hlv,hw.trans ((uK (by omega)).trans (by rw [hlk]<;>rfl))⟩) (by show ps.length - 1 - ((j+1)) < ps.length - 1 - j;omega) (fun _=>by kernel_rfl) rfl (by kernel_rfl)
  have hkt:(obj S.O tk).kind=3:=hI.kind hlv
  refine af.region (gK 5 [(45,.map (some (L.m e))),(46,.string (pc ps j))] [(3,v_ 0 (bP L hke))] ?_)
  refine jb 1 hke hlk ?_
  refine NN (af.block (SR ?_))
  refine gK 1 [(48,.bool false)] [] ?_
  refine NN (CF (SR (gK 3 [(50,.bool true),(51,vP (L.b tk))] [] ?_)))
  refine NN (CT (SR (gK 1 [] [] ?_)))
  refine NS (gK 3 [(6,.pointer none),(7,.string ⟨#[]⟩),(8,vI 174)] [] ?_)
  refine NN (af.ret (aj.aL (aj.aL (aj.aq (aj.aq (aj.aL (aj.aq ?_)))))))
  exact RT (l:=[.abs (aH (bR S.O L)),.abs (aH (dg S.O L))]) (.tuple #[.pointer none,.string ⟨#[]⟩,vI 174]) [0,1,3] (⟨congrArg (BR L) (Eq.symm (show jC S.O d path=.error 174 from (show jC S.O d path=jJ S.O d ps by unfold jC;rw [← hps];exact if_pos hall).trans (hw.trans ((uK (by omega)).trans (by rw [hlk]<;>rfl))))),rfl⟩)
 have ej:j=ps.length - 1:=by omega
 refine af.exit (aj.aU (aj.aU (aj.cK (NX (af.seq (SR ?_))))))
 refine gK 5 [(64,.bool (obj S.O e).gone)] [(4,v_ 0 (rQ L hke))] ?_
 refine NN (af.cond (b:=(obj S.O e).gone) (fun _=>by kernel_rfl) (fun UF=>?_) (fun UF=>?_))
 ·refine SR (gK 3 [(6,.pointer none),(7,.string ⟨#[]⟩),(8,vI 170)] [] ?_)
  refine NN (af.ret (aj.aq ?_))
  exact RT (l:=[.abs (aH (bR S.O L)),.abs (aH (dg S.O L))]) (.tuple #[.pointer none,.string ⟨#[]⟩,vI 170]) [0,1,3] (⟨congrArg (BR L) (Eq.symm ((show jC S.O d path=jJ S.O d ps by unfold jC;rw [← hps];exact if_pos hall).trans (hw.trans ((Fa (by omega)).trans (if_pos UF))))),rfl⟩)
 refine af.skip (NX (af.seq (af.eP (by kernel_rfl) (by kernel_rfl) ?_)))
 refine gQ 8 [(6,vP (L.b e)),(7,.string (pc ps (ps.length - 1))),(8,vI 0)] [(3,p_ ⟨[],some (ps.length - 1),none,none,some (.pointer (some ⟨b1,(ps.length - 1),none⟩))⟩ [(Value.pointer (some ⟨b1,0+(ps.length - 1) * 1,none⟩))=(.pointer (some ⟨b1,(ps.length - 1),none⟩)),(((ps.length - 1):Nat):Int)=(((ps.length - 1):Nat):Int),(ps.length - 1) < ps.length,(⟨b1,0,none⟩:Addr).spot=none] ⟨by simp,rfl,by omega,rfl,trivial⟩),(4,p_ ⟨[.view 2 (.string (pc ps (ps.length - 1)))],none,none,none,none⟩ [(∀ F w,(aK 9 1 (some ⟨b1,0,none⟩) ps.length ps.length (gZ ps)).h F w->w.cell? ⟨b1,(ps.length - 1),none⟩=some (.string (pc ps (ps.length - 1))))] ⟨aK.cell (xq (by omega)),trivial⟩)] ?_
 refine NQ (NX (af.ret ?_))
 exact RT (l:=[.abs (aH (bR S.O L)),.abs (aH (dg S.O L))]) (.tuple #[vP (L.b e),.string (pc ps (ps.length - 1)),vI 0]) [0,1,3] (⟨by rw [← ej];exact congrArg (BR L) (Eq.symm (show jC S.O d path=.ok (e,pc ps j) from (show jC S.O d path=jJ S.O d ps by unfold jC;rw [← hps];exact if_pos hall).trans (hw.trans ((Fa (by omega)).trans (if_neg (by rw [UF];exact Bool.false_ne_true)))))),rfl⟩)
end
section
open Go.RowKit Go.Maps bC aE
attribute [local irreducible] ak aW af aj
theorem SB {β:Bs} (S:aI) (L:HL) (f m t:Nat) (hI:Inv S) (root:Int) (hrw:(Lit.int .i64 root).wf=true) (a:bM) (NY:a.path.size<=1048576) (Rl:a.to.size<=1048576) (hxz:a.text.size<=1048576) (hg:dQ β) :
    Spec Tryz.prog β 229 #[vP f,vI (root),.agg #[vI (a.at_),vI (a.op),.string a.path,.string a.to,.string a.text]] [.blk f [vI (S.X.cN),vI (S.X.cB),vI (S.X.cH),vI (S.X.cS),vI (S.X.cZ),.map (some m),vP t,vI (S.X.last),vI (S.X.ah),vI (S.X.used)] 154,.abs (aN Tryz.prog 3 m (bE (bI L S.idx)) S.idx.length),.abs (dV 212 t S.X.cH S.aD (bI L S.us)),.abs (aH (bR S.O L)),.abs (aH (ct S.O L)),.abs (aH (dg S.O L))] (fun v l=>∃ L2,v=vI (cG S root a).1/\l=[.blk f [vI ((cG S root a).2.X.cN),vI ((cG S root a).2.X.cB),vI ((cG S root a).2.X.cH),vI ((cG S root a).2.X.cS),vI ((cG S root a).2.X.cZ),.map (some m),vP t,vI ((cG S root a).2.X.last),vI ((cG S root a).2.X.ah),vI ((cG S root a).2.X.used)] 154,.abs (aN Tryz.prog 3 m (bE (bI L2 (cG S root a).2.idx)) ((cG S root a).2.idx.length)),.abs (dV 212 t (cG S root a).2.X.cH ((cG S root a).2.aD) (bI L2 ((cG S root a).2.us))),.abs (aH (bR ((cG S root a).2.O) L2)),.abs (aH (ct ((cG S root a).2.O) L2)),.abs (aH (dg ((cG S root a).2.O) L2))]):=by
 have hX:=hI.hX
 refine Spec.enter Tryz.func229 rfl Tryz.ntmps229 (Nat.le_of_ble_eq_true rfl) (fun R=>?_)
 refine SR (gN 2 (fun b1=>[(5,vP b1)]) (fun _=>[]) (fun _=>[]) (fun b1=>.blk b1 [vI (a.at_),vI (a.op),.string a.path,.string a.to,.string a.text] 136) (fun b1=>?_))
 refine NN (af.seq (SR (gK 4 [(25,.bool (decide ((a.op:Int) < (1:Int))))] [(1,a_ 7 b1)] ?_)))
 refine ak.iG 25 ((a.op:Int) < (1:Int)) (fun _=>by kernel_rfl) (fun Mh=>?_) (fun Mh=>?_)
 ·refine gK 4 [(29,.bool true)] [] ?_
  refine NN (CT (SR (gK 1 [(6,vI 230)] [] ?_)))
  refine NN (af.ret (aj.aq ?_))
  exact RT (vI 230) [0,1,2,3,4,5,6] (⟨L,by rw [show (cG S root a)=(230,S) by unfold cG;exact if_pos (by omega)]<;>exact⟨rfl,rfl⟩⟩)
 refine gK 4 [(29,.bool (decide ((a.op:Int) > (7:Int))))] [(1,a_ 7 b1)] ?_
 refine NN (af.aV (p:=(a.op:Int) > (7:Int)) (fun _=>by kernel_rfl) (fun NZ=>?_) (fun NZ=>?_))
 ·refine SR (gK 1 [(6,vI 230)] [] ?_)
  refine NN (af.ret (aj.aq ?_))
  exact RT (vI 230) [0,1,2,3,4,5,6] (⟨L,by rw [show (cG S root a)=(230,S) by unfold cG;exact if_pos (by omega)]<;>exact⟨rfl,rfl⟩⟩)
 refine af.skip (NX (af.seq ?_))
 rcases hI.TG root with hix|⟨tk,hix,hlv⟩|⟨tk,hix,hlv⟩|⟨tk,hix,hlv⟩
 ·refine af.region (gK 5 [(33,.map (some m)),(34,vI (root))] [(3,a_ 0 f)] ?_)
  refine ak.dR 1 (d:=(some 35)) (t:=151) (K:=3) (E:=156) (b:=m) (n:=S.idx.length) (f:=(bE (bI L S.idx))) (x:=(.tmp 33)) (ix:=(.tmp 34)) (key:=.int .i64 (root)) (z:=.nilIface) (kl:=(.int .i64 root)) (r:=none) (fun _=>by kernel_rfl) (by kernel_rfl) (fun _=>by kernel_rfl) (fun _=>by kernel_rfl) dG Tryz.underlying151 (fun _=>by kernel_rfl) (iK hrw) (by rw [fQ,hix];rfl) ?_
  refine gK 1 [(7,.nilIface)] [] ?_
  refine NN (af.seq (SR (gK 2 [(37,.bool true)] [] ?_)))
  refine NN (CT (SR (gK 1 [(6,vI 141)] [] ?_)))
  refine NN (af.ret (aj.aq ?_))
  exact RT (vI 141) [0,1,2,3,4,5,6] (⟨L,by rw [show (cG S root a)=(141,S) by unfold cG;rw [if_neg (by omega),hix]]<;>exact⟨rfl,rfl⟩⟩)
 ·have hkt:(obj S.O tk).kind=1:=hI.kind hlv
  refine af.region (gK 5 [(33,.map (some m)),(34,vI (root))] [(3,a_ 0 f)] ?_)
  refine ak.dR 1 (d:=(some 35)) (t:=151) (K:=3) (E:=156) (b:=m) (n:=S.idx.length) (f:=(bE (bI L S.idx))) (x:=(.tmp 33)) (ix:=(.tmp 34)) (key:=.int .i64 (root)) (z:=.nilIface) (kl:=(.int .i64 root)) (r:=(some (ez L ⟨tk,1⟩))) (fun _=>by kernel_rfl) (by kernel_rfl) (fun _=>by kernel_rfl) (fun _=>by kernel_rfl) dG Tryz.underlying151 (fun _=>by kernel_rfl) (iK hrw) (by rw [fQ,hix];rfl) ?_
  refine gK 1 [(7,.iface 162 (vP (L.b tk)))] [] ?_
  refine NN (af.seq (SR (gK 2 [(37,.bool false)] [] ?_)))
  refine NN (CF (af.skip (NX (SR (gK 7 [(8,.pointer none),(9,.bool false)] [] ?_)))))
  refine NN (af.seq (SR (gK 2 [(44,.bool true)] [] ?_)))
  refine NN (CT (SR (gK 1 [(6,vI 173)] [] ?_)))
  refine NN (af.ret (aj.aq ?_))
  exact RT (vI 173) [0,1,2,3,4,5,6] (⟨L,by rw [show (cG S root a)=(173,S) by unfold cG;rw [if_neg (by omega),hix];simp only;exact if_neg (by simp)]<;>exact⟨rfl,rfl⟩⟩)
 ·have hkt:(obj S.O tk).kind=2:=hI.kind hlv
  refine af.region (gK 5 [(33,.map (some m)),(34,vI (root))] [(3,a_ 0 f)] ?_)
  refine ak.dR 1 (d:=(some 35)) (t:=151) (K:=3) (E:=156) (b:=m) (n:=S.idx.length) (f:=(bE (bI L S.idx))) (x:=(.tmp 33)) (ix:=(.tmp 34)) (key:=.int .i64 (root)) (z:=.nilIface) (kl:=(.int .i64 root)) (r:=(some (ez L ⟨tk,2⟩))) (fun _=>by kernel_rfl) (by kernel_rfl) (fun _=>by kernel_rfl) (fun _=>by kernel_rfl) dG Tryz.underlying151 (fun _=>by kernel_rfl) (iK hrw) (by rw [fQ,hix];rfl) ?_
  refine gK 1 [(7,.iface 169 (vP (L.b tk)))] [] ?_
  refine NN (af.seq (SR (gK 2 [(37,.bool false)] [] ?_)))
  refine NN (CF (af.skip (NX (SR (gK 7 [(8,vP (L.b tk)),(9,.bool true)] [] ?_)))))
  refine NN (af.seq (SR (gK 2 [(44,.bool false)] [] ?_)))
  refine NN (CF (af.skip (NX (SR (gK 4 [(46,vP f),(47,vP (L.b tk)),(49,.string a.path)] [(3,a_ 7 b1)] ?_)))))
  rcases E9 hI hlv a.path with ⟨e,j4,hne⟩|⟨d,name,j4,hd,kq,hgn⟩
  ·refine gL (f:=230) (args:=#[vP f,vP (L.b tk),.string a.path]) (pre:=[.abs (aH (bR S.O L)),.abs (aH (dg S.O L))]) [3,5] ((by have h:=Ak (β:=β) S L f hI tk hlv a.path NY hg;rw [j4] at h;exact h)) ?_
   rintro _ _ ⟨rfl,rfl⟩
   refine gK 7 [(10,.pointer none),(11,.string ⟨#[]⟩),(12,vI (e))] [] ?_
   refine NN (af.seq (SR (gK 2 [(55,.bool (!(decide ((e:Int)=(0:Int)))))] [] ?_)))
   refine NN (af.gT (p:=(e:Int)=(0:Int)) (fun _=>by kernel_rfl) (fun W4=>?_) (fun W4=>?_))
   ·refine SR (gK 2 [(6,vI (e))] [] ?_)
    refine NN (af.ret (aj.aq ?_))
    exact RT (vI (e)) [2,3,4,0,5,1,6] (⟨L,by rw [show (cG S root a)=(e,S) by unfold cG;rw [if_neg (by omega),hix];simp only;rw [if_pos trivial,j4]]<;>exact⟨rfl,rfl⟩⟩)
   exact absurd W4 hne
  have hkd:(obj S.O d).kind=2:=hI.kind hd
  have hsz:name.size<=1048576:=E8 hgn
  refine gL (f:=230) (args:=#[vP f,vP (L.b tk),.string a.path]) (pre:=[.abs (aH (bR S.O L)),.abs (aH (dg S.O L))]) [3,5] ((by have h:=Ak (β:=β) S L f hI tk hlv a.path NY hg;rw [j4] at h;exact h)) ?_
  rintro _ _ ⟨rfl,rfl⟩
  refine gK 7 [(10,vP (L.b d)),(11,.string name),(12,vI 0)] [] ?_
  refine NN (af.seq (SR (gK 2 [(55,.bool false)] [] ?_)))
  refine NN (CF (af.skip (NX (af.seq (SR (gK 2 [(58,vI (a.op))] [(1,a_ 7 b1)] ?_))))))
  refine NN (af.block (SR ?_))
  refine gK 2 [(59,.bool (decide ((a.op:Int)=(1:Int))))] [] ?_
  refine NN (af.aV (p:=(a.op:Int)=(1:Int)) (fun _=>by kernel_rfl) (fun UG=>?_) (fun UG=>?_))
  ·refine af.seq (SR (gK 3 [(61,vP f),(62,vP (L.b d)),(63,.string name)] [] ?_))
   refine gL [2,3,1,0] (zi S L f m t hI d hd name hsz) ?_
   rintro _ _ ⟨rfl,rfl⟩
   refine gK 1 [(12,vI ((cR S.X S.O S.idx d name)))] [] ?_
   refine NS (gK 2 [(66,.bool (!(decide (((cR S.X S.O S.idx d name):Int)=(0:Int)))))] [] ?_)
   refine NN (af.gT (p:=((cR S.X S.O S.idx d name):Int)=(0:Int)) (fun _=>by kernel_rfl) (fun h0=>?_) (fun h0=>?_))
   ·refine SR (gK 2 [(6,vI ((cR S.X S.O S.idx d name)))] [] ?_)
    refine NN (af.ret (aj.aq (aj.aL (aj.aq ?_))))
    exact RT (vI ((cR S.X S.O S.idx d name))) [0,1,4,3,5,2,6] (⟨L,by rw [show (cG S root a)=(cR S.X S.O S.idx d name,S) by unfold cG;rw [if_neg (by omega),hix];simp only;rw [if_pos trivial,j4];simp only;unfold mo;rw [if_pos (by omega)];unfold p8;exact if_neg h0]<;>exact⟨rfl,rfl⟩⟩)
   have hno:=rK h0
   refine af.skip (NX (SR (gK 1 [(68,vP f)] [] ?_)))
   refine gL [0] (za S.X f m t hX 420) ?_
   rintro _ _ ⟨rfl,rfl⟩
   refine gN 2 (fun b2=>[(71,vP b2)]) (fun _=>[]) (fun _=>[]) (fun b2=>.blk b2 [vI (S.X.last+1),vI (420),vI 0,vI 0,vI (S.X.cS),vI (S.X.cZ),vI 0,vI 0,.bool false,.slice none (0) (0)] 165) (fun b2=>?_)
   obtain⟨L2,hL2⟩:∃ L2:HL,L2=L.put (bG S.X) b2 0 none 0:=⟨_,rfl⟩
   have hfr:=hI.toInv0.fresh
   refine ak.mem (dw:=[.abs (aH (bR (aO S.O (bG S.X) (fun _=>(bg S.X 1 420))) L2)),.blk f [vI (S.X.cN),vI (S.X.cB),vI (S.X.cH),vI (S.X.cS),vI (S.X.cZ),.map (some m),vP t,vI (S.X.last+1),vI (S.X.ah),vI (S.X.used)] 154,.abs (aN Tryz.prog 3 m (bE (bI L S.idx)) S.idx.length),.abs (aH (dg S.O L)),.abs (dV 212 t S.X.cH S.aD (bI L S.us)),.abs (aH (ct S.O L)),.abs R,.blk b1 [vI (a.at_),vI (a.op),.string a.path,.string a.to,.string a.text] 136]) (fun w hS=>hS.zZ hL2 hfr (o:=(bg S.X 1 420)) (i:=3) (j:=8) (ix:=[0,1,2,4,5,6,7]) rfl rfl (by kernel_rfl) rfl (by show (1:Int)≠0;decide) ((rI (L:=L2) (k:=(bG S.X)) (o:=(bg S.X 1 420)) rfl).trans (by rw [show L2.dA (bG S.X)=none by rw [hL2];exact if_pos rfl,show L2.dC (bG S.X)=0 by rw [hL2];exact if_pos rfl];rfl)) rfl) ?_
   refine ak.eZ [(3,pE (aO S.O (bG S.X) (fun _=>(bg S.X 1 420))) L2)] (fun w hS=>hS.CM hL2 hfr (o:=(bg S.X 1 420)) (i:=3) rfl (by show (1:Int)≠2;decide)) ?_
   refine ak.mem (dw:=[pO (aO S.O (bG S.X) (fun _=>(bg S.X 1 420))) L2,pF f m t { S.X with last:=S.X.last+1 },pI m L S.idx,pE (aO S.O (bG S.X) (fun _=>(bg S.X 1 420))) L2,pT t S.X.cH S.aD L S.us,pD S.O L,.abs R,.blk b1 [vI (a.at_),vI (a.op),.string a.path,.string a.to,.string a.text] 136,.abs (aK 5 1 none 0 0 ([]))]) (fun w hS=>hS.mF (e:=5) (size:=1)) ?_
   refine ak.mem (dw:=[pD (aO S.O (bG S.X) (fun _=>(bg S.X 1 420))) L2,pO (aO S.O (bG S.X) (fun _=>(bg S.X 1 420))) L2,pF f m t { S.X with last:=S.X.last+1 },pI m L S.idx,pE (aO S.O (bG S.X) (fun _=>(bg S.X 1 420))) L2,pT t S.X.cH S.aD L S.us,.abs R,.blk b1 [vI (a.at_),vI (a.op),.string a.path,.string a.to,.string a.text] 136]) (fun w hS=>hS.VF hL2 (o:=(bg S.X 1 420)) (i:=5) (j:=8) (ix:=[0,1,2,3,4,6,7]) rfl rfl (by kernel_rfl) rfl rfl rfl) ?_
   refine ak.eZ [(3,.abs (aN Tryz.prog 3 m (bE (bI L2 S.idx)) S.idx.length)),(5,.abs (dV 212 t S.X.cH S.aD (bI L2 S.us)))] (fun w hS=>by rw [kD hL2 hfr.idx,kD hL2 hfr.us];exact hS) ?_
   refine gK 1 [(13,vP b2)] [] ?_
   refine NS (gK 5 [(72,vP f),(73,vP (L.b d)),(74,.string name),(76,.iface 162 (vP b2))] [] ?_)
   refine gL (f:=193) (args:=#[vP f,vP (L.b d),.string name,.iface 162 (vP b2)]) (pre:=[.blk f [vI (S.X.cN),vI (S.X.cB),vI (S.X.cH),vI (S.X.cS),vI (S.X.cZ),.map (some m),vP t,vI (S.X.last+1),vI (S.X.ah),vI (S.X.used)] 154,.abs (aN Tryz.prog 3 m (bE (bI L2 S.idx)) S.idx.length),.abs (aH (bR (aO S.O (bG S.X) (fun _=>(bg S.X 1 420))) L2)),.abs (aH (dg (aO S.O (bG S.X) (fun _=>(bg S.X 1 420))) L2))]) [2,3,1,4] ((by have h:=xk (β:=β) S L2 f m t hI.toInv0 d hd name hsz hno (bg S.X 1 420) rfl (by simp [bg]) rfl (vo h0);rw [zY hL2 (hI.yN hd),tu hL2] at h;exact h)) ?_
   rintro _ _ ⟨rfl,rfl⟩
   refine NS (ak.eZ [(4,.abs (aH (ct ((fe S d name (bg S.X 1 420)).O) L2)))] (fun w hS=>by rw [show ct ((fe S d name (bg S.X 1 420)).O) L2=ct (aO S.O (bG S.X) (fun _=>(bg S.X 1 420))) L2 from jU];exact hS) ?_)
   have uj:Inv (fe S d name (bg S.X 1 420)):=hI.FU hd kq hgn h0 (.inl rfl) ⟨by decide,by decide⟩ (.inl ⟨by decide,rfl⟩)
   have YP:Live (fe S d name (bg S.X 1 420)).idx ⟨(bG S.X),1⟩:=G0 hI (o:=(bg S.X 1 420))
   refine gK 4 [(78,vP f),(79,vP b2),(81,.string a.text)] [(3,a_ 7 b1)] ?_
   refine ak.HF (d:=(some 82)) (t1:=9) (t2:=86) (e:=5) (x:=(.tmp 81)) (s:=a.text) (fun _=>by kernel_rfl) (fun _=>by kernel_rfl) Tryz.underlying9 Tryz.underlying86 Tryz.underlying5 (fun b3 c4 XR=>?_)
   refine gL (f:=199) (args:=#[vP f,vP b2,.slice (some ⟨b3,0,none⟩) (a.text.data.toList.length) (c4)]) (pre:=[.abs (lE β (fun β'=>bS β' (some ⟨b3,0,none⟩) a.text.data.toList)),.blk f [vI ((fe S d name (bg S.X 1 420)).X.cN),vI ((fe S d name (bg S.X 1 420)).X.cB),vI ((fe S d name (bg S.X 1 420)).X.cH),vI ((fe S d name (bg S.X 1 420)).X.cS),vI ((fe S d name (bg S.X 1 420)).X.cZ),.map (some m),vP t,vI ((fe S d name (bg S.X 1 420)).X.last),vI ((fe S d name (bg S.X 1 420)).X.ah),vI ((fe S d name (bg S.X 1 420)).X.used)] 154,.abs (aN Tryz.prog 3 m (bE (bI L2 (fe S d name (bg S.X 1 420)).idx)) ((fe S d name (bg S.X 1 420)).idx.length)),.abs (dV 212 t S.X.cH S.aD (bI L2 S.us)),.abs (aH (bR ((fe S d name (bg S.X 1 420)).O) L2)),.abs (aH (ct ((fe S d name (bg S.X 1 420)).O) L2)),.abs (aH (dg ((fe S d name (bg S.X 1 420)).O) L2))]) [8,0,1,5,2,4,3] ((by have h:=Dc (β:=β) (fe S d name (bg S.X 1 420)) L2 f m t uj (bG S.X) YP (some ⟨b3,0,none⟩) c4 a.text.data.toList (by rw [Array.length_toList];have:a.text.data.size=a.text.size:=rfl;omega) XR;rw [GP hL2] at h;exact h)) ?_
   rintro _ _ ⟨L3,rfl,rfl⟩
   refine NS (gK 1 [(6,vI 0)] [] ?_)
   refine NN (af.ret (aj.aL (aj.aq ?_)))
   exact RT (vI 0) [0,1,2,3,4,5,6] (⟨L3,by rw [show (cG S root a)=(0,(d9 (fe S d name (bg S.X 1 420)) (bG S.X) a.text.data.toList).2.2) by unfold cG;rw [if_neg (by omega),hix];simp only;rw [if_pos trivial,j4];simp only;unfold mo;rw [if_pos (by omega)];unfold p8;exact if_pos h0]<;>exact⟨rfl,rfl⟩⟩)
  refine SR (gK 2 [(84,.bool (decide ((a.op:Int)=(2:Int))))] [] ?_)
  refine NN (af.aV (p:=(a.op:Int)=(2:Int)) (fun _=>by kernel_rfl) (fun YQ=>?_) (fun YQ=>?_))
  ·refine SR (gK 3 [(86,vP f),(87,vP (L.b d)),(88,.string name)] [] ?_)
   refine gL [2,3,4,0,5,1] (E7 S L f m t hI d hd name hsz 493) ?_
   rintro _ _ ⟨L2,rfl,rfl⟩
   refine gK 1 [(6,vI ((fX S d name 493).1))] [] ?_
   refine NN (af.ret (aj.aL (aj.aq ?_)))
   exact RT (vI ((fX S d name 493).1)) [0,1,2,3,4,5,6] (⟨L2,by rw [show (cG S root a)=((fX S d name 493).1,(fX S d name 493).2) by unfold cG;rw [if_neg (by omega),hix];simp only;rw [if_pos trivial,j4];simp only;unfold mo;rw [if_neg (by omega)];exact if_pos (by omega)]<;>exact⟨rfl,rfl⟩⟩)
  refine SR (gK 2 [(90,.bool (decide ((a.op:Int)=(3:Int))))] [] ?_)
  refine NN (af.aV (p:=(a.op:Int)=(3:Int)) (fun _=>by kernel_rfl) (fun YR=>?_) (fun YR=>?_))
  ·refine SR (gK 5 [(92,vP f),(93,vP (L.b d)),(94,.string name),(96,.string a.text)] [(4,a_ 7 b1)] ?_)
   refine gL [2,3,4,0,5,1] (Jm S L f m t hI d hd name hsz a.text hxz) ?_
   rintro _ _ ⟨L2,rfl,rfl⟩
   refine gK 1 [(6,vI ((fT S d name a.text).1))] [] ?_
   refine NN (af.ret (aj.aL (aj.aq ?_)))
   exact RT (vI ((fT S d name a.text).1)) [0,1,2,3,4,5,6] (⟨L2,by rw [show (cG S root a)=((fT S d name a.text).1,(fT S d name a.text).2) by unfold cG;rw [if_neg (by omega),hix];simp only;rw [if_pos trivial,j4];simp only;unfold mo;rw [if_neg (by omega)];rw [if_neg (by omega)];exact if_pos (by omega)]<;>exact⟨rfl,rfl⟩⟩)
  refine SR (gK 2 [(98,.bool (decide ((a.op:Int)=(4:Int))))] [] ?_)
  refine NN (af.aV (p:=(a.op:Int)=(4:Int)) (fun _=>by kernel_rfl) (fun YS=>?_) (fun YS=>?_))
  ·refine SR (gK 3 [(100,vP f),(101,vP (L.b d)),(102,.string name)] [] ?_)
   refine gL [2,3,4,0,5,1] (Lj S L f m t hI d hd name hsz) ?_
   rintro _ _ ⟨L2,rfl,rfl⟩
   refine gK 1 [(6,vI ((fA S d name).1))] [] ?_
   refine NN (af.ret (aj.aL (aj.aq ?_)))
   exact RT (vI ((fA S d name).1)) [0,1,2,3,4,5,6] (⟨L2,by rw [show (cG S root a)=((fA S d name).1,(fA S d name).2) by unfold cG;rw [if_neg (by omega),hix];simp only;rw [if_pos trivial,j4];simp only;unfold mo;rw [if_neg (by omega)];rw [if_neg (by omega)];rw [if_neg (by omega)];exact if_pos (by omega)]<;>exact⟨rfl,rfl⟩⟩)
  refine SR (gK 2 [(104,.bool (decide ((a.op:Int)=(5:Int))))] [] ?_)
  refine NN (af.aV (p:=(a.op:Int)=(5:Int)) (fun _=>by kernel_rfl) (fun XS=>?_) (fun XS=>?_))
  ·refine SR (gK 3 [(106,vP f),(107,vP (L.b d)),(108,.string name)] [] ?_)
   refine gL [2,3,4,0,5,1] (Np S L f m t hI d hd name hsz) ?_
   rintro _ _ ⟨L2,rfl,rfl⟩
   refine gK 1 [(6,vI ((fO S d name).1))] [] ?_
   refine NN (af.ret (aj.aL (aj.aq ?_)))
   exact RT (vI ((fO S d name).1)) [0,1,2,3,4,5,6] (⟨L2,by rw [show (cG S root a)=((fO S d name).1,(fO S d name).2) by unfold cG;rw [if_neg (by omega),hix];simp only;rw [if_pos trivial,j4];simp only;unfold mo;rw [if_neg (by omega)];rw [if_neg (by omega)];rw [if_neg (by omega)];rw [if_neg (by omega)];exact if_pos (by omega)]<;>exact⟨rfl,rfl⟩⟩)
  refine SR (gK 2 [(110,.bool (decide ((a.op:Int)=(6:Int))))] [] ?_)
  refine NN (af.aV (p:=(a.op:Int)=(6:Int)) (fun _=>by kernel_rfl) (fun XT=>?_) (fun XT=>?_))
  ·refine SR (gK 4 [(113,vP f),(114,vP (L.b tk)),(116,.string a.to)] [(3,a_ 7 b1)] ?_)
   rcases E9 hI hlv a.to with ⟨e2,Dq,XU⟩|⟨to,toName,Dq,hd2,ZE,XV⟩
   ·refine gL (f:=230) (args:=#[vP f,vP (L.b tk),.string a.to]) (pre:=[.abs (aH (bR S.O L)),.abs (aH (dg S.O L))]) [0,1] ((by have h:=Ak (β:=β) S L f hI tk hlv a.to Rl hg;rw [Dq] at h;exact h)) ?_
    rintro _ _ ⟨rfl,rfl⟩
    refine gK 7 [(14,.pointer none),(15,.string ⟨#[]⟩),(16,vI (e2))] [] ?_
    refine NN (af.seq (SR (gK 2 [(122,.bool (!(decide ((e2:Int)=(0:Int)))))] [] ?_)))
    refine NN (af.gT (p:=(e2:Int)=(0:Int)) (fun _=>by kernel_rfl) (fun UH=>?_) (fun UH=>?_))
    ·refine SR (gK 2 [(6,vI (e2))] [] ?_)
     refine NN (af.ret (aj.aq (aj.aL (aj.aq ?_))))
     exact RT (vI (e2)) [2,3,4,0,5,1,6] (⟨L,by rw [show (cG S root a)=(e2,S) by unfold cG;rw [if_neg (by omega),hix];simp only;rw [if_pos trivial,j4];simp only;unfold mo;rw [if_neg (by omega)];rw [if_neg (by omega)];rw [if_neg (by omega)];rw [if_neg (by omega)];rw [if_neg (by omega)];rw [if_pos (by omega)];rw [Dq]]<;>exact⟨rfl,rfl⟩⟩)
    exact absurd UH XU
   have jK:(obj S.O to).kind=2:=hI.kind hd2
   have qd:toName.size<=1048576:=E8 XV
   refine gL (f:=230) (args:=#[vP f,vP (L.b tk),.string a.to]) (pre:=[.abs (aH (bR S.O L)),.abs (aH (dg S.O L))]) [0,1] ((by have h:=Ak (β:=β) S L f hI tk hlv a.to Rl hg;rw [Dq] at h;exact h)) ?_
   rintro _ _ ⟨rfl,rfl⟩
   refine gK 7 [(14,vP (L.b to)),(15,.string toName),(16,vI 0)] [] ?_
   refine NN (af.seq (SR (gK 2 [(122,.bool false)] [] ?_)))
   refine NN (CF (af.skip (NX (SR (gK 5 [(124,vP f),(125,vP (L.b d)),(126,.string name),(127,vP (L.b to)),(128,.string toName)] [] ?_)))))
   refine gL [2,3,4,0,5,1] (Ll S L f m t hI d hd name hsz to hd2 toName qd) ?_
   rintro _ _ ⟨L2,rfl,rfl⟩
   refine gK 1 [(6,vI ((bL S d name to toName).1))] [] ?_
   refine NN (af.ret (aj.aL (aj.aq ?_)))
   exact RT (vI ((bL S d name to toName).1)) [0,1,2,3,4,5,6] (⟨L2,by rw [show (cG S root a)=((bL S d name to toName).1,(bL S d name to toName).2) by unfold cG;rw [if_neg (by omega),hix];simp only;rw [if_pos trivial,j4];simp only;unfold mo;rw [if_neg (by omega)];rw [if_neg (by omega)];rw [if_neg (by omega)];rw [if_neg (by omega)];rw [if_neg (by omega)];rw [if_pos (by omega)];rw [Dq]]<;>exact⟨rfl,rfl⟩⟩)
  refine af.skip (aj.aP (NX (af.seq (af.seq ?_))))
  have hel:(obj S.O d).ah.length<=8192:=hI.iL hd
  have YT:=hsz
  rcases hI.pZ hd name with bU|⟨ok,bU,iF⟩|⟨ok,bU,iF⟩|⟨ok,bU,iF⟩
  ·refine af.region (gK 5 [(133,.map (some (L.m d))),(134,.string name)] [(3,v_ 0 (bP L hkd))] ?_)
   refine jb 1 hkd bU ?_
   refine NN (af.block (SR ?_))
   refine gK 3 [(137,.bool false),(138,.pointer none)] [] ?_
   refine NN (CF (SR (gK 3 [(140,.bool false),(141,.pointer none)] [] ?_)))
   refine NN (CF (SR (gK 3 [(143,.bool false),(144,.pointer none)] [] ?_)))
   refine NN (CF (af.skip (aj.aP (NX (SR ?_)))))
   refine gK 1 [(6,vI 170)] [] ?_
   refine NN (af.ret ?_)
   exact RT (vI 170) [2,3,4,0,5,1,6] (⟨L,by rw [show (cG S root a)=(170,S) by unfold cG;rw [if_neg (by omega),hix];simp only;rw [if_pos trivial,j4];simp only;unfold mo;rw [if_neg (by omega)];rw [if_neg (by omega)];rw [if_neg (by omega)];rw [if_neg (by omega)];rw [if_neg (by omega)];rw [if_neg (by omega)];unfold j5;rw [bU]]<;>exact⟨rfl,rfl⟩⟩)
  ·have qf:(obj S.O ok).kind=1:=hI.kind iF
   refine af.region (gK 5 [(133,.map (some (L.m d))),(134,.string name)] [(3,v_ 0 (bP L hkd))] ?_)
   refine jb 1 hkd bU ?_
   refine NN (af.block (SR ?_))
   refine gK 3 [(137,.bool false),(138,.pointer none)] [] ?_
   refine NN (CF (SR (gK 3 [(140,.bool false),(141,.pointer none)] [] ?_)))
   refine NN (CF (SR (gK 3 [(143,.bool true),(144,vP (L.b ok))] [] ?_)))
   refine NN (CT (SR (gK 1 [(19,vP (L.b ok))] [] ?_)))
   refine NS (gK 4 [(146,vP f),(147,vP (L.b ok)),(149,.string a.text)] [(3,a_ 7 b1)] ?_)
   refine ak.HF (d:=(some 150)) (t1:=9) (t2:=86) (e:=5) (x:=(.tmp 149)) (s:=a.text) (fun _=>by kernel_rfl) (fun _=>by kernel_rfl) Tryz.underlying9 Tryz.underlying86 Tryz.underlying5 (fun b6 c7 XW=>?_)
   refine gL [8,2,3,4,0,5,1] (Dc (β:=β) S L f m t hI ok iF (some ⟨b6,0,none⟩) c7 a.text.data.toList (by rw [Array.length_toList];have:a.text.data.size=a.text.size:=rfl;omega) XW) ?_
   rintro _ _ ⟨L3,rfl,rfl⟩
   refine gK 5 [(21,vI ((d9 S ok a.text.data.toList).2.1))] [] ?_
   refine NS (gK 2 [(6,vI ((d9 S ok a.text.data.toList).2.1))] [] ?_)
   refine NN (af.ret (aj.aL (aj.aq ?_)))
   exact RT (vI ((d9 S ok a.text.data.toList).2.1)) [0,1,2,3,4,5,6] (⟨L3,by rw [show (cG S root a)=((d9 S ok a.text.data.toList).2.1,(d9 S ok a.text.data.toList).2.2) by unfold cG;rw [if_neg (by omega),hix];simp only;rw [if_pos trivial,j4];simp only;unfold mo;rw [if_neg (by omega)];rw [if_neg (by omega)];rw [if_neg (by omega)];rw [if_neg (by omega)];rw [if_neg (by omega)];rw [if_neg (by omega)];unfold j5;rw [bU];exact (if_neg (by simp)).trans (if_neg (by simp))]<;>exact⟨rfl,rfl⟩⟩)
  ·have qf:(obj S.O ok).kind=2:=hI.kind iF
   refine af.region (gK 5 [(133,.map (some (L.m d))),(134,.string name)] [(3,v_ 0 (bP L hkd))] ?_)
   refine jb 1 hkd bU ?_
   refine NN (af.block (SR ?_))
   refine gK 3 [(137,.bool false),(138,.pointer none)] [] ?_
   refine NN (CF (SR (gK 3 [(140,.bool true),(141,vP (L.b ok))] [] ?_)))
   refine NN (CT (SR (gK 1 [] [] ?_)))
   refine NS (gK 1 [(6,vI 172)] [] ?_)
   refine NN (af.ret (aj.aL (aj.aq ?_)))
   exact RT (vI 172) [2,3,4,0,5,1,6] (⟨L,by rw [show (cG S root a)=(172,S) by unfold cG;rw [if_neg (by omega),hix];simp only;rw [if_pos trivial,j4];simp only;unfold mo;rw [if_neg (by omega)];rw [if_neg (by omega)];rw [if_neg (by omega)];rw [if_neg (by omega)];rw [if_neg (by omega)];rw [if_neg (by omega)];unfold j5;rw [bU];exact (if_neg (by simp)).trans (if_pos rfl)]<;>exact⟨rfl,rfl⟩⟩)
  have qf:(obj S.O ok).kind=3:=hI.kind iF
  refine af.region (gK 5 [(133,.map (some (L.m d))),(134,.string name)] [(3,v_ 0 (bP L hkd))] ?_)
  refine jb 1 hkd bU ?_
  refine NN (af.block (SR ?_))
  refine gK 3 [(137,.bool true),(138,vP (L.b ok))] [] ?_
  refine NN (CT (SR (gK 1 [] [] ?_)))
  refine NS (gK 1 [(6,vI 174)] [] ?_)
  refine NN (af.ret (aj.aL (aj.aq ?_)))
  exact RT (vI 174) [2,3,4,0,5,1,6] (⟨L,by rw [show (cG S root a)=(174,S) by unfold cG;rw [if_neg (by omega),hix];simp only;rw [if_pos trivial,j4];simp only;unfold mo;rw [if_neg (by omega)];rw [if_neg (by omega)];rw [if_neg (by omega)];rw [if_neg (by omega)];rw [if_neg (by omega)];rw [if_neg (by omega)];unfold j5;rw [bU];exact if_pos rfl]<;>exact⟨rfl,rfl⟩⟩)
 have hkt:(obj S.O tk).kind=3:=hI.kind hlv
 refine af.region (gK 5 [(33,.map (some m)),(34,vI (root))] [(3,a_ 0 f)] ?_)
 refine ak.dR 1 (d:=(some 35)) (t:=151) (K:=3) (E:=156) (b:=m) (n:=S.idx.length) (f:=(bE (bI L S.idx))) (x:=(.tmp 33)) (ix:=(.tmp 34)) (key:=.int .i64 (root)) (z:=.nilIface) (kl:=(.int .i64 root)) (r:=(some (ez L ⟨tk,3⟩))) (fun _=>by kernel_rfl) (by kernel_rfl) (fun _=>by kernel_rfl) (fun _=>by kernel_rfl) dG Tryz.underlying151 (fun _=>by kernel_rfl) (iK hrw) (by rw [fQ,hix];rfl) ?_
 refine gK 1 [(7,.iface 166 (vP (L.b tk)))] [] ?_
 refine NN (af.seq (SR (gK 2 [(37,.bool false)] [] ?_)))
 refine NN (CF (af.skip (NX (SR (gK 7 [(8,.pointer none),(9,.bool false)] [] ?_)))))
 refine NN (af.seq (SR (gK 2 [(44,.bool true)] [] ?_)))
 refine NN (CT (SR (gK 1 [(6,vI 173)] [] ?_)))
 refine NN (af.ret (aj.aq ?_))
 exact RT (vI 173) [0,1,2,3,4,5,6] (⟨L,by rw [show (cG S root a)=(173,S) by unfold cG;rw [if_neg (by omega),hix];simp only;exact if_neg (by simp)]<;>exact⟨rfl,rfl⟩⟩)
end
section
open Go.RowKit Go.Maps bC aE
attribute [local irreducible] ak aW af aj
noncomputable abbrev N0 (o)(q)(f:Nat) (root) (am) (n):=(.blk o [.iface 141 (vP q),vP f,vI (root),.map (some am),vI ↑(n+1)] 145:HP)
noncomputable abbrev UI (o)(b1:Nat) (b2:Nat) (nC) (ys:List bM) (Ki) (i:Nat):=([(0,vP o),(3,vP b1),(4,vP b2),(22,.slice nC (ys.length) (Ki)),(23,vI ↑ys.length),(24,vI ↑i)]:Fr)
theorem UJ {β:Bs} (S:aI) (L:HL) (o q f m t am an km kn n:Nat) (Z:AZ) (fs:List bh) (xs:List bM) (root:Int) (hrw:(Lit.int .i64 root).wf=true) (hI:Inv S) (hn:n<=8388608) (k:Int) (hk:iU fs ((n+1:Nat):Int)=k) (hZ:fF β Z xs) (hX:dZ xs 1048576) (hg:dQ β) (c:aB) (hC:lq β c) :
    Spec Tryz.prog β 228 #[vP o,.agg ⟨dr c⟩] ([.blk o [.iface 141 (vP q),vP f,vI (root),.map (some am),vI (((n:Nat):Int))] 145,.blk q [.iface 49 (vP f),.map (some km),vI (((n:Nat):Int))] 143,.abs (aN Tryz.prog 3 am (gA Z xs) an),lV km fs kn]++pG f m t S L) (fun v l=>∃ L2,v=.agg ⟨dr (bD k (eE root S (bn xs ((n+1:Nat):Int))) c).2⟩/\l=[.blk o [.iface 141 (vP q),vP f,vI (root),.map (some am),vI ((((n+1):Nat):Int))] 145,.blk q [.iface 49 (vP f),.map (some km),vI ((((n+1):Nat):Int))] 143,.abs (aN Tryz.prog 3 am (gA Z xs) an),lV km fs kn,pF f m t ((bD k (eE root S (bn xs ((n+1:Nat):Int))) c).1.X),.abs (aN Tryz.prog 3 m (bE (bI L2 (bD k (eE root S (bn xs ((n+1:Nat):Int))) c).1.idx)) ((bD k (eE root S (bn xs ((n+1:Nat):Int))) c).1.idx.length)),pT t (bD k (eE root S (bn xs ((n+1:Nat):Int))) c).1.X.cH ((bD k (eE root S (bn xs ((n+1:Nat):Int))) c).1.aD) L2 ((bD k (eE root S (bn xs ((n+1:Nat):Int))) c).1.us),pO ((bD k (eE root S (bn xs ((n+1:Nat):Int))) c).1.O) L2,pD ((bD k (eE root S (bn xs ((n+1:Nat):Int))) c).1.O) L2,pE ((bD k (eE root S (bn xs ((n+1:Nat):Int))) c).1.O) L2]):=by
 obtain⟨ys,hys⟩:∃ ys,bn xs ((n+1:Nat):Int)=ys:=⟨_,rfl⟩
 obtain⟨nC,has⟩:∃ a,aA Z xs ((n+1:Nat):Int)=a:=⟨_,rfl⟩
 obtain⟨Ki,hac⟩:∃ a,aC Z xs ((n+1:Nat):Int)=a:=⟨_,rfl⟩
 have hrow:=hZ ((n+1:Nat):Int)
 rw [hys,has] at hrow
 have hyb:∀ {i},i < ys.length->yX (act ys i) 1048576:=fun {i} h=>hX.q _ (KV (x:=((n+1:Nat):Int)) (by rw [hys];exact List.mem_of_getElem? (tv h)))
 have nQ:ys.length<=1048576:=by rw [← hys];exact Nat.le_trans (CY _) hX.len
 rw [show bn xs ((n+1:Nat):Int)=ys from hys]
 obtain⟨SA,W5⟩:∃ SA,eE root S ys=SA:=⟨_,rfl⟩
 rw [W5]
 refine Spec.enter Tryz.func228 rfl Tryz.ntmps228 (Nat.le_of_ble_eq_true rfl) (fun R=>?_)
 refine SR (gN 1 (fun b1=>[(3,vP b1)]) (fun _=>[]) (fun _=>[]) (fun b1=>pC b1 c) (fun b1=>?_))
 refine gN 1 (fun b2=>[(4,vP b2)]) (fun _=>[]) (fun _=>[]) (fun b2=>.blk b2 [vI 0,vI 0,vI 0,.string ⟨#[]⟩,.string ⟨#[]⟩,.slice none (0) (0),vI 0,vI 0,vI 0,vI 0,vI 0,vI 0,vI 0] 88) (fun b2=>?_)
 refine NS (gC 8 [] [(3,a_ 0 o),(4,p_ ⟨[],none,none,none,some (vI ↑(n+1))⟩ [(Value.int .i64 (IntKind.wrap .i64 (((n:Nat):Int)+1)))=(.int .i64 ↑(n+1))] ⟨bB (by omega) (by omega) (by omega),trivial⟩),(7,a_ 0 o)] [(0,[(4,vI ↑(n+1))])] ?_)
 refine NN (af.seq (af.seq (af.eP (by kernel_rfl) (by kernel_rfl) ?_)))
 refine gQ 8 [(17,.map (some am)),(21,vI ↑(n+1))] [(3,a_ 0 o),(7,a_ 0 o)] ?_
 refine aW.dR 2 (d:=(some 22)) (t:=134) (K:=3) (E:=30) (b:=am) (n:=an) (f:=(gA Z xs)) (x:=(.tmp 17)) (ix:=(.tmp 21)) (key:=.int .i64 ↑(n+1)) (z:=.slice none (0) (0)) (kl:=(.int .i64 ((n+1:Nat):Int))) (r:=(gA Z xs (.int .i64 ((n+1:Nat):Int)))) (fun _=>by kernel_rfl) (by kernel_rfl) (fun _=>by kernel_rfl) (fun _=>by kernel_rfl) dG Tryz.underlying134 (fun _=>by kernel_rfl) (iK (Nd (by omega))) (rfl) ?_
 refine aW.slot 22 (((gA Z xs (.int .i64 ((n+1:Nat):Int))).getD (.slice none 0 0))) (.slice nC (ys.length) (Ki)) (fun _=>by kernel_rfl) (BP.trans (by rw [hys,has,hac])) ?_
 refine gQ 2 [(23,vI ↑ys.length),(24,vI 0)] [] ?_
 refine NQ (NX (af.block ?_))
 refine af.loop (ι:=Nat×aI×HL) (fun ((i,S1,L1):Nat×aI×HL)=>(i<=ys.length)/\(S1=eE root S (ys.take i))/\(Inv S1)) (fun ((i,S1,L1):Nat×aI×HL)=>ys.length - i) (fun ((i,S1,L1):Nat×aI×HL)=>(UI o b1 b2 nC ys Ki i)) (fun ((i,S1,L1):Nat×aI×HL)=>([N0 o q f root am n,.blk q [.iface 49 (vP f),.map (some km),vI ↑n] 143,.abs (aN Tryz.prog 3 am (gA Z xs) an),lV km fs kn,pC b1 c,rW b2]++pG f m t S1 L1++[.abs R])) (0,S,L) (idx:=[0,3,4,22,23,24]) (pk:=[0,1,2,3,11,12,4,5,6,7,8,9,10]) (show (0<=ys.length)/\(S=eE root S (ys.take 0))/\(Inv S) from ⟨Nat.zero_le _,rfl,hI⟩) (fun _=>by kernel_rfl) rfl (by kernel_rfl) ?_
 rintro⟨i,S1,L1⟩ ⟨hi,hs1,bY⟩
 show af _ _ _ _ (UI o b1 b2 nC ys Ki i) ([N0 o q f root am n,.blk q [.iface 49 (vP f),.map (some km),vI ↑n] 143,.abs (aN Tryz.prog 3 am (gA Z xs) an),lV km fs kn,pC b1 c,rW b2]++pG f m t S1 L1++[.abs R]) _
 refine SR (gK 1 [(25,.bool (decide ((((i:Nat):Int):Int) < (((ys.length:Nat):Int):Int))))] [] ?_)
 refine NN (af.seq (af.aV (p:=(((i:Nat):Int):Int) < (((ys.length:Nat):Int):Int)) (fun _=>by kernel_rfl) (fun Mh=>?_) (fun Mh=>?_)))
 ·refine af.skip (NX (af.seq (af.block (SR ?_))))
  refine gN 4 (fun b3=>[(6,vP b3)]) (fun b3=>[(0,p_ ⟨[],some i,none,some ⟨(ax nC),av nC,none⟩,none⟩ [((i:Nat):Int)=((i:Nat):Int),i < ys.length,(⟨(ax nC),av nC,none⟩:Addr).spot=none,(nC:Option Addr)=some ⟨(ax nC),av nC,none⟩] ⟨rfl,by omega,rfl,QY hrow (i:=i) (by omega),trivial⟩),(1,p_ ⟨[.old (.int .i64 ((act ys i).at_)),.old (.int .i64 ((act ys i).op)),.old (.string (act ys i).path),.old (.string (act ys i).to),.old (.string (act ys i).text)],none,none,none,none⟩ [(Rd β ⟨(ax nC),av nC+i * 5+4,none⟩ (.string (act ys i).text)),(Rd β ⟨(ax nC),av nC+i * 5+3,none⟩ (.string (act ys i).to)),(Rd β ⟨(ax nC),av nC+i * 5+2,none⟩ (.string (act ys i).path)),(Rd β ⟨(ax nC),av nC+i * 5+1,none⟩ (.int .i64 ((act ys i).op))),(Rd β ⟨(ax nC),av nC+i * 5,none⟩ (.int .i64 ((act ys i).at_)))] ⟨ru hrow (i:=i) (by omega) (j:=4) rfl,ru hrow (i:=i) (by omega) (j:=3) rfl,ru hrow (i:=i) (by omega) (j:=2) rfl,ru hrow (i:=i) (by omega) (j:=1) rfl,ru hrow (i:=i) (by omega) (j:=0) rfl,trivial⟩),(3,A_ 13 b3 5)]) (fun _=>[]) (fun b3=>.blk b3 [vI ((act ys i).at_),vI ((act ys i).op),.string (act ys i).path,.string (act ys i).to,.string (act ys i).text] 136) (fun b3=>?_)
  refine NN (af.cA (S:=[N0 o q f root am n,.blk b3 [vI ((act ys i).at_),vI ((act ys i).op),.string (act ys i).path,.string (act ys i).to,.string (act ys i).text] 136]) [0,1,2,3,4,5,6,7,8,9] 9 [0,13] (by kernel_rfl) (by kernel_rfl) rfl (by kernel_rfl) ?_)
  refine gR 0 [9] (UI o b1 b2 nC ys Ki i++[(31,vP f),(35,vI (root)),(36,.agg #[vI ((act ys i).at_),vI ((act ys i).op),.string (act ys i).path,.string (act ys i).to,.string (act ys i).text])]) [0,1,2,3,4,5,6,7,8] [(3,a_ 0 o),(7,a_ 0 o),(8,A_ 1 b3 5)] ?_
  refine aS.last rfl rfl ?_
  refine gL [6,7,8,9,10,11] (SB S1 L1 f m t bY root hrw (act ys i) (hyb (by omega)).path (hyb (by omega)).to (hyb (by omega)).text hg) ?_
  rintro _ _ ⟨L2,rfl,rfl⟩
  refine NL (aj.np (aj.aP (NX (af.region ?_))))
  refine gK 2 [(24,vI ↑(i+1))] [(0,p_ ⟨[],none,none,none,some (vI ↑(i+1))⟩ [(Value.int .i64 (IntKind.wrap .i64 (((i:Nat):Int)+1)))=(.int .i64 ↑(i+1))] ⟨bB (by omega) (by omega) (by omega),trivial⟩)] ?_
  refine NL ?_
  exact aj.turn ((i+1),(cG S1 root (act ys i)).2,L2) (idx:=[0,3,4,22,23,24]) (pk:=[6,7,8,9,10,11,0,1,2,3,4,5,12]) (show (((i+1))<=ys.length)/\(((cG S1 root (act ys i)).2)=eE root S (ys.take ((i+1))))/\(Inv ((cG S1 root (act ys i)).2)) from ⟨by omega,by rw [hs1];exact (KX (by omega)).symm,bY.cG⟩) (by show ys.length - ((i+1)) < ys.length - i;omega) (fun _=>by kernel_rfl) rfl (by kernel_rfl)
 refine af.exit (aj.aU (aj.aU (aj.cK (NX (af.seq ?_)))))
 refine af.cA (S:=[N0 o q f root am n,pC b1 c]) [0,1,2,3,4,5,6] 5 [0,4] (by kernel_rfl) (by kernel_rfl) rfl (by kernel_rfl) ?_
 refine gR 0 [5,6] [(4,vP b2),(42,.iface 141 (vP q)),(43,.agg ⟨dr c⟩)] [0,1,2,3,4] [(3,a_ 0 o),(4,A_ 1 b1 13)] ?_
 refine mL [8,10] [1,3,6,7,8,9,10,11] (UE S1 L1 q f m t km kn n fs bY hn k hk c hC) ?_ (by rintro _ _ ⟨L2,rfl,rfl⟩;rfl)
 rintro _ _ ⟨L2,rfl,rfl⟩
 refine aS.last rfl rfl ?_
 refine gC 1 [] [(0,A_ 11 b2 13)] [(11,[(0,vI ((bD k S1 c).2.op)),(1,vI ((bD k S1 c).2.handle)),(2,vI ((bD k S1 c).2.other)),(3,.string (bD k S1 c).2.name),(4,.string (bD k S1 c).2.text),(5,.slice (bD k S1 c).2.dA ((bD k S1 c).2.data.length) ((bD k S1 c).2.dC)),(6,vI ((bD k S1 c).2.mode)),(7,vI ((bD k S1 c).2.uid)),(8,vI ((bD k S1 c).2.gid)),(9,vI ((bD k S1 c).2.sec)),(10,vI ((bD k S1 c).2.nano)),(11,vI ((bD k S1 c).2.code)),(12,vI ((bD k S1 c).2.answer))])] ?_
 refine NL (aj.np (NX (af.ret ?_)))
 have hs2:S1=SA:=by rw [hs1,show i=ys.length by omega,List.take_length];exact W5
 subst hs2
 exact aj.ret (v:=.agg ⟨dr ((bD k S1 c).2)⟩) (l:=[N0 o q f root am n,vW q f km n,.abs (aN Tryz.prog 3 am (gA Z xs) an),lV km fs kn,pF f m t ((bD k S1 c).1.X),pI m L2 (bD k S1 c).1.idx,pT t (bD k S1 c).1.X.cH ((bD k S1 c).1.aD) L2 ((bD k S1 c).1.us),pO ((bD k S1 c).1.O) L2,pD ((bD k S1 c).1.O) L2,pE ((bD k S1 c).1.O) L2]) (aZ:=[b2=b2,b2=b2,b2=b2,b2=b2,b2=b2,b2=b2,b2=b2,b2=b2,b2=b2,b2=b2,b2=b2,b2=b2,b2=b2]) [.at 11,.at 11,.at 11,.at 11,.at 11,.at 11,.at 11,.at 11,.at 11,.at 11,.at 11,.at 11,.at 11] [8,0,9,1,2,3,4,5,6,7,12] (fun _=>by kernel_rfl) ⟨rfl,rfl,rfl,rfl,rfl,rfl,rfl,rfl,rfl,rfl,rfl,rfl,rfl,trivial⟩ rfl (by kernel_rfl) (⟨L2,rfl,rfl⟩)
end
section
open Go.RowKit Go.Maps bC aE
theorem Fj {β:Bs} (A:Option Addr) (c:Nat) (d:List UInt8) (hA:bS β A d) (hl:d.length<=1048576):bw Tryz.prog β 58 #[.slice A d.length c] [] (fun β' v l=>∃ B cap,v=.slice B d.length cap/\l=[]/\bS β' B d/\d.length<=cap):=
  (vw A c d hA (by omega)).Ru (by
    rintro v l ⟨B,cap,rfl,rfl⟩
    refine⟨[],_,rfl,fun β' h=>⟨B,cap,rfl,rfl,h.bytes,?_⟩⟩
    obtain⟨F,h1,_⟩:=h.get 0 rfl
    exact (aK.len h1).2)
theorem SC {β:Bs} (S:aI) (L:HL) (o q f m t am an km kn n:Nat) (Z:AZ) (fs:List bh) (xs:List bM) (root:Int) (hrw:(Lit.int .i64 root).wf=true) (hI:Inv S) (hn:n<=8388608) (hZ:fF β Z xs) (hX:dZ xs 1048576) (hg:dQ β) (c:aB) (B:Option Addr) (p:Nat) {kS:Int} (ho:kS=if c.op=1 then root else c.other) (hC:lq β { dz B p c with other:=kS }) {S2:aI} {c2:aB} (hW:aR fs xs root (n+1) S c=(S2,c2)) :
    Spec Tryz.prog β 228 #[vP o,.agg ⟨dr { dz B p c with other:=kS }⟩] ([oB o q f root am n,qB q f km n,aM am an Z xs,kM km kn fs]++pA f m t L S) (fun v l=>∃ L2,v=.agg ⟨dr (dz B p c2)⟩/\l=[oB o q f root am (n+1),qB q f km (n+1),aM am an Z xs,kM km kn fs]++pA f m t L2 S2):=by
  have e:({ dz B p c with other:=kS }:aB)=dz B p (mq root c):=by rw [Jh ho];rfl
  rw [e] at hC ⊢
  have h:=UJ S L o q f m t am an km kn n Z fs xs root hrw hI hn _ rfl hZ hX hg (dz B p (mq root c)) hC
  rw [M5] at h
  have hW:bD (iU fs ((n+1:Nat):Int)) (eE root S (bn xs ((n+1:Nat):Int))) (mq root c)=(S2,c2):=hW
  rw [hW] at h
  exact h
end
section
open Go.RowKit Go.Maps bC aE
attribute [local irreducible] ak aW af aj
noncomputable abbrev Dr (w)(f:Nat) (o) (root) (tA) (tr:List aB) (tC):=(.blk w [.iface 39 (vP w),vP f,.iface 140 (vP o),vI (root),.slice tA (tr.length) (tC)] 53:HP)
noncomputable abbrev A6 (am)(Z)(xs)(an):=(.abs (aN Tryz.prog 3 am (gA Z xs) an):HP)
noncomputable abbrev Ry (tA)(tr:List aB) (tC):=(.abs (aK 88 13 tA tr.length tC (bQ dr tr)):HP)
noncomputable abbrev UK (w)(f:Nat) (o) (root) (A') (tr:List aB) (k'):=(.blk w [.iface 39 (vP w),vP f,.iface 140 (vP o),vI (root),.slice A' ((tr.length+1)) (k')] 53:HP)
noncomputable abbrev Kj (A')(tr:List aB) (k') (B1) (p1) (c2):=(.abs (aK 88 13 A' (tr.length+1) k' (bQ dr (tr++[dz B1 p1 c2]))):HP)
noncomputable abbrev UL (o)(q)(f:Nat) (root) (am) (tr:List aB):=(.blk o [.iface 141 (vP q),vP f,vI (root),.map (some am),vI ↑tr.length] 145:HP)
noncomputable abbrev UM (q)(f:Nat) (km) (tr:List aB):=(.blk q [.iface 49 (vP f),.map (some km),vI ↑tr.length] 143:HP)
noncomputable abbrev UN (b1:Nat) (c:aB) (kS) (B1) (p1):=(.blk b1 [vI (c.op),vI (c.handle),vI (kS),.string c.name,.string c.text,.slice B1 (c.data.length) (p1),vI (c.mode),vI (c.uid),vI (c.gid),vI (c.sec),vI (c.nano),vI (c.code),vI (c.answer)] 88:HP)
noncomputable abbrev Ds (b1:Nat) (c2:aB) (B1) (p1):=(.blk b1 [vI (c2.op),vI (c2.handle),vI (c2.other),.string c2.name,.string c2.text,.slice B1 (c2.data.length) (p1),vI (c2.mode),vI (c2.uid),vI (c2.gid),vI (c2.sec),vI (c2.nano),vI (c2.code),vI (c2.answer)] 88:HP)
noncomputable abbrev Io (o)(q)(f:Nat) (root) (am) (tr:List aB):=(.blk o [.iface 141 (vP q),vP f,vI (root),.map (some am),vI ↑(tr.length+1)] 145:HP)
noncomputable abbrev Ip (q)(f:Nat) (km) (tr:List aB):=(.blk q [.iface 49 (vP f),.map (some km),vI ↑(tr.length+1)] 143:HP)
noncomputable abbrev UO (c2:aB) (B1) (p1):=([(0,vI (c2.op)),(1,vI (c2.handle)),(2,vI (c2.other)),(3,.string c2.name),(4,.string c2.text),(5,.slice B1 (c2.data.length) (p1)),(6,vI (c2.mode)),(7,vI (c2.uid)),(8,vI (c2.gid)),(9,vI (c2.sec)),(10,vI (c2.nano)),(11,vI (c2.code)),(12,vI (c2.answer))]:Fr)
theorem SD {β:Bs} (S:aI) (L:HL) (w o q f m t am an km kn:Nat) (Z:AZ) (fs:List bh) (xs:List bM) (root:Int) (tr:List aB) (tA:Option Addr) (tC:Nat) (hrw:(Lit.int .i64 root).wf=true) (hI:Inv S) (hn:tr.length<=8388607) (hZ:fF β Z xs) (hX:dZ xs 1048576) (hg:dQ β) (c:aB) (hD:bS β c.dA c.data) (hl:c.data.length<=1048576) (hw:(Lit.int .i64 c.handle).wf=true) (how:(Lit.int .i64 c.other).wf=true) (hnm:c.name.size<=1048576) (Dt:c.text.size<=1048576) (hop:lT c.op) {S2:aI} {c2:aB} (hW:aR fs xs root (tr.length+1) S c=(S2,c2)) :
    bw Tryz.prog β 155 #[vP w,.agg ⟨dr c⟩] ([Dr w f o root tA tr tC,.blk o [.iface 141 (vP q),vP f,vI (root),.map (some am),vI (((tr.length:Nat):Int))] 145,.blk q [.iface 49 (vP f),.map (some km),vI (((tr.length:Nat):Int))] 143,A6 am Z xs an,lV km fs kn,Ry tA tr tC]++pG f m t S L) (fun β' v l=>∃ B1 p1 B2 p2 A' k' L2,v=.agg ⟨dr (dz B2 p2 c2)⟩/\l=([UK w f o root A' tr k',.blk o [.iface 141 (vP q),vP f,vI (root),.map (some am),vI ((((tr.length+1):Nat):Int))] 145,.blk q [.iface 49 (vP f),.map (some km),vI ((((tr.length+1):Nat):Int))] 143,A6 am Z xs an,lV km fs kn,Kj A' tr k' B1 p1 c2]++pG f m t S2 L2)/\bS β' B1 c2.data/\bS β' B2 c2.data/\c2.data.length<=p2):=by
 have hd2:c2.data=c.data:=by have h:=Jg (fs:=fs) (xs:=xs) (root:=root) (n:=tr.length+1) (S:=S) (c:=c);rw [hW] at h;exact h
 refine bw.enter Tryz.func155 rfl Tryz.ntmps155 (Nat.le_of_ble_eq_true rfl) (fun hle0 R=>?_)
 refine SR (gN 1 (fun b1=>[(3,vP b1)]) (fun _=>[]) (fun _=>[]) (fun b1=>pC b1 c) (fun b1=>?_))
 refine gN 1 (fun b2=>[(4,vP b2)]) (fun _=>[]) (fun _=>[]) (fun b2=>.blk b2 [vI 0,vI 0,vI 0,.string ⟨#[]⟩,.string ⟨#[]⟩,.slice none (0) (0),vI 0,vI 0,vI 0,vI 0,vI 0,vI 0,vI 0] 88) (fun b2=>?_)
 refine NS (gK 2 [(6,.slice c.dA (c.data.length) (c.dC))] [(1,a_ 13 b1)] ?_)
 refine ak.fH (d:=(some 7)) (R:=([Dr w f o root tA tr tC,UL o q f root am tr,UM q f km tr,A6 am Z xs an,lV km fs kn,Ry tA tr tC]++pG f m t S L++[.abs R,pC b1 c,rW b2])) (pk:=[0,1,2,3,4,5,6,7,8,9,10,11,12,13,14]) (fun _=>by kernel_rfl) (Fj c.dA c.dC c.data hD hl) rfl (by kernel_rfl) ?_
 rintro Fk _ _ iz ⟨B1,p1,rfl,rfl,N7,hp1⟩
 replace hD:=hD.le iz
 replace hZ:=hZ.le iz
 replace hg:=hg.le iz
 replace hle0:=hle0.trans iz
 refine gC 2 [] [(1,a_ 13 b1)] [(13,[(5,.slice B1 (c.data.length) (p1))])] ?_
 refine NN (af.join (ι:=Int) (fun (kS:Int)=>(kS=if c.op=1 then root else c.other)/\((Lit.int .i64 kS).wf=true)) (fun (kS:Int)=>([(0,vP w)]++AY b1 b2)) (fun (kS:Int)=>([Dr w f o root tA tr tC,UL o q f root am tr,UM q f km tr,A6 am Z xs an,lV km fs kn,Ry tA tr tC]++pG f m t S L++[.abs R,UN b1 c kS B1 p1,rW b2])) ?_ ?_)
 ·rintro kS ⟨hoth,how⟩
  show af _ _ _ _ ([(0,vP w)]++AY b1 b2) ([Dr w f o root tA tr tC,UL o q f root am tr,UM q f km tr,A6 am Z xs an,lV km fs kn,Ry tA tr tC]++pG f m t S L++[.abs R,UN b1 c kS B1 p1,rW b2]) _
  refine af.seq (af.cA (S:=[Dr w f o root tA tr tC,UN b1 c kS B1 p1]) [0,1,2,3,4,5,6] 5 [0,13] (by kernel_rfl) (by kernel_rfl) rfl (by kernel_rfl) ?_)
  refine gR 0 [5,6] ([(0,vP w)]++AY b1 b2++[(20,.iface 140 (vP o)),(21,.agg #[vI (c.op),vI (c.handle),vI (kS),.string c.name,.string c.text,.slice B1 (c.data.length) (p1),vI (c.mode),vI (c.uid),vI (c.gid),vI (c.sec),vI (c.nano),vI (c.code),vI (c.answer)])]) [0,1,2,3,4] [(3,a_ 0 w),(4,A_ 1 b1 13)] ?_
  refine mL [10,13] [1,2,3,4,6,7,8,9,10,11] (SC (β:=Fk) S L o q f m t am an km kn tr.length Z fs xs root hrw hI (by omega) hZ hX hg c B1 p1 hoth ⟨hw,how,hnm,Dt,N7,Nat.le_trans hl (by decide),hp1,hop⟩ hW) ?_ (by rintro _ _ ⟨L2,rfl,rfl⟩;rfl)
  rintro _ _ ⟨L2,rfl,rfl⟩
  refine aS.last rfl rfl ?_
  refine gC 1 [] [(0,A_ 13 b1 13)] [(13,(UO c2 B1 p1))] ?_
  refine NL (aj.np (NX (af.seq ?_)))
  refine af.cA (S:=[Dr w f o root tA tr tC,Ds b1 c2 B1 p1]) [0,1,2,3,4,5,6,7,8,9,10] 6 [10,13] (by kernel_rfl) (by kernel_rfl) rfl (by kernel_rfl) ?_
  refine gR 0 [6,7,8,9,10] (AY b1 b2++[(23,vP w),(27,.slice tA (tr.length) (tC)),(28,.agg ⟨dr (dz B1 p1 c2)⟩)]) [0,1,2,3,4,5] [(4,a_ 0 w),(5,A_ 1 b1 13)] ?_
  refine mN [10,13] (fun b4=>[(29,.slice (some ⟨b4,0,none⟩) (1) (1))]) (fun _=>[]) (fun b4=>.blk b4 [vI (c2.op),vI (c2.handle),vI (c2.other),.string c2.name,.string c2.text,.slice B1 (c2.data.length) (p1),vI (c2.mode),vI (c2.uid),vI (c2.gid),vI (c2.sec),vI (c2.nano),vI (c2.code),vI (c2.answer)] 88) (fun b4=>?_)
  refine aS.cut (ι:=(Option Addr)×Nat) (fr':=fun ((A5,c6):(Option Addr)×Nat)=>[(3,vP b1),(4,vP b2),(23,vP w),(30,.slice A5 ((tr.length+1)) (c6))]) (hp':=fun ((A5,c6):(Option Addr)×Nat)=>([Io o q f root am tr,Ip q f km tr,A6 am Z xs an,lV km fs kn]++pG f m t S2 L2++[Dr w f o root tA tr tC,Kj A5 tr c6 B1 p1 c2,.abs R,Ds b1 c2 B1 p1,rW b2,Ds b4 c2 B1 p1])) [10,13] rfl rfl ?_ rfl (fun _=>by kernel_rfl) ?_
  ·refine ak.append 11 (d:=(some 30)) (t:=51) (e:=88) (z:=.agg #[vI 0,vI 0,vI 0,.string ⟨#[]⟩,.string ⟨#[]⟩,.slice none (0) (0),vI 0,vI 0,vI 0,vI 0,vI 0,vI 0,vI 0]) (size:=13) (bytes:=136) (n:=tr.length) (cap:=tC) (A:=tA) (xs:=(bQ dr tr)) (s:=(.tmp 27)) (x:=(.tmp 29)) (ats:=#[51,51]) (A':=some ⟨b4,0,none⟩) (m:=1) (c':=1) (news:=[vI (c2.op),vI (c2.handle),vI (c2.other),.string c2.name,.string c2.text,.slice B1 (c2.data.length) (p1),vI (c2.mode),vI (c2.uid),vI (c2.gid),vI (c2.sec),vI (c2.nano),vI (c2.code),vI (c2.answer)]) (fun _=>by kernel_rfl) rfl (by kernel_rfl) (fun _=>by kernel_rfl) (fun _=>by kernel_rfl) Tryz.underlying51 (by kernel_rfl) rfl (by decide) (rfl) (by simp [Value.oneCell']) (kW (j:=15) rfl) (by unfold maxLen;omega) (by omega) (fun A5 c6=>?_)
   refine ak.dI 11 (p:=.abs (aK 88 13 A5 (tr.length+1) c6 ((bQ dr tr)++[vI (c2.op),vI (c2.handle),vI (c2.other),.string c2.name,.string c2.text,.slice B1 (c2.data.length) (p1),vI (c2.mode),vI (c2.uid),vI (c2.gid),vI (c2.sec),vI (c2.nano),vI (c2.code),vI (c2.answer)]))) (p':=.abs (aK 88 13 A5 (tr.length+1) c6 (bQ dr (tr++[dz B1 p1 c2])))) (by kernel_rfl) (congrArg (fun x=>HP.abs (aK 88 13 _ _ _ x)) (C2 dr (dz B1 p1 c2) tr).symm) ?_
   refine ak.slot 30 (.slice A5 (tr.length+1) (c6)) (.slice A5 ((tr.length+1)) (c6)) (fun _=>by kernel_rfl) (rfl) ?_
   refine NL ?_
   exact MD (A5,c6) [3,4,23,30] [0,1,2,3,4,5,6,7,8,9,10,11,12,13,14,15]
  rintro⟨A5,c6⟩
  refine aS.cut (ι:=Unit) (fr':=fun (_:Unit)=>[(3,vP b1),(4,vP b2),(30,.slice A5 ((tr.length+1)) (c6)),(31,vP w)]) (hp':=fun (_:Unit)=>([Io o q f root am tr,Ip q f km tr,A6 am Z xs an,lV km fs kn]++pG f m t S2 L2++[Dr w f o root tA tr tC,Kj A5 tr c6 B1 p1 c2,.abs R,Ds b1 c2 B1 p1,rW b2,Ds b4 c2 B1 p1])) [10,13] rfl rfl ?_ rfl (fun _=>by kernel_rfl) ?_
  ·refine gK 1 [(31,vP w)] [] ?_
   refine NL ?_
   exact MD () [3,4,30,31] [0,1,2,3,4,5,6,7,8,9,10,11,12,13,14,15]
  rintro _
  refine aS.cut (ι:=Unit) (fr':=fun (_:Unit)=>[(3,vP b1),(4,vP b2),(30,.slice A5 ((tr.length+1)) (c6)),(32,.pointer (some ⟨w,4,none⟩))]) (hp':=fun (_:Unit)=>([Io o q f root am tr,Ip q f km tr,A6 am Z xs an,lV km fs kn]++pG f m t S2 L2++[Dr w f o root tA tr tC,Kj A5 tr c6 B1 p1 c2,.abs R,Ds b1 c2 B1 p1,rW b2,Ds b4 c2 B1 p1])) [10,13] rfl rfl ?_ rfl (fun _=>by kernel_rfl) ?_
  ·refine gK 1 [(32,.pointer (some ⟨w,4,none⟩))] [] ?_
   refine NL ?_
   exact MD () [3,4,30,32] [0,1,2,3,4,5,6,7,8,9,10,11,12,13,14,15]
  rintro _
  refine aS.last rfl rfl ?_
  refine gC 1 [] [(0,a_ 10 w)] [(10,[(4,.slice A5 ((tr.length+1)) (c6))])] ?_
  refine NL (aj.np (NX (SR ?_)))
  refine gK 2 [(34,.slice B1 (c2.data.length) (p1))] [(1,a_ 13 b1)] ?_
  refine ak.fH (d:=(some 35)) (R:=([Io o q f root am tr,Ip q f km tr,A6 am Z xs an,lV km fs kn]++pG f m t S2 L2++[UK w f o root A5 tr c6,Kj A5 tr c6 B1 p1 c2,.abs R,Ds b1 c2 B1 p1,rW b2,Ds b4 c2 B1 p1])) (pk:=[0,1,2,3,4,5,6,7,8,9,10,11,12,13,14,15]) (fun _=>by kernel_rfl) (Fj B1 p1 c2.data (by rw [hd2];exact N7) (by rw [hd2];exact hl)) rfl (by kernel_rfl) ?_
  rintro zA _ _ gI ⟨B2,p2,rfl,rfl,YU,hp2⟩
  replace hD:=hD.le gI
  replace hZ:=hZ.le gI
  replace hg:=hg.le gI
  replace N7:=N7.le gI
  replace hle0:=hle0.trans gI
  refine gC 2 [] [(1,a_ 13 b1)] [(13,[(5,.slice B2 (c2.data.length) (p2))])] ?_
  refine NS (gC 2 [] [(0,A_ 13 b1 13),(1,A_ 14 b2 13)] [(14,(UO c2 B2 p2))] ?_)
  refine NN (af.ret ?_)
  exact aj.gU (v:=.agg ⟨dr (dz B2 p2 c2)⟩) (l:=([UK w f o root A5 tr c6,Io o q f root am tr,Ip q f km tr,A6 am Z xs an,lV km fs kn,Kj A5 tr c6 B1 p1 c2]++pG f m t S2 L2)) (aZ:=[b2=b2,b2=b2,b2=b2,b2=b2,b2=b2,b2=b2,b2=b2,b2=b2,b2=b2,b2=b2,b2=b2,b2=b2,b2=b2]) [.at 14,.at 14,.at 14,.at 14,.at 14,.at 14,.at 14,.at 14,.at 14,.at 14,.at 14,.at 14,.at 14] [10,0,1,2,3,11,4,5,6,7,8,9,12] hle0 (fun _=>by kernel_rfl) ⟨rfl,rfl,rfl,rfl,rfl,rfl,rfl,rfl,rfl,rfl,rfl,rfl,rfl,trivial⟩ rfl (by kernel_rfl) (⟨B1,p1,B2,p2,A5,c6,L2,rfl,rfl,by rw [hd2];exact N7,YU,hp2⟩)
 refine SR (gK 3 [(11,.bool (decide ((c.op:Int)=(1:Int))))] [(1,a_ 13 b1)] ?_)
 refine NN (af.aV (p:=(c.op:Int)=(1:Int)) (fun _=>by kernel_rfl) (fun h11=>?_) (fun h11=>?_))
 ·refine af.region (gC 6 [] [(3,a_ 0 w),(5,a_ 13 b1)] [(13,[(2,vI (root))])] ?_)
  refine NL ?_
  exact aj.meet root (idx:=[0,3,4]) (pk:=[0,1,2,3,4,5,6,7,8,9,10,11,12,13,14]) (show (root=if c.op=1 then root else c.other)/\((Lit.int .i64 root).wf=true) from ⟨(if_pos h11).symm,hrw⟩) (fun _=>by kernel_rfl) rfl (by kernel_rfl)
 refine af.skip ?_
 exact aj.meet c.other (idx:=[0,3,4]) (pk:=[0,1,2,3,4,5,6,7,8,9,10,11,12,13,14]) (show (c.other=if c.op=1 then root else c.other)/\((Lit.int .i64 c.other).wf=true) from ⟨(if_neg h11).symm,how⟩) (fun _=>by kernel_rfl) rfl (by kernel_rfl)
end
section
open Go.RowKit Go.Maps bC aE
section d
variable {β:Bs} {fs:List bh} {xs:List bM} {root:Int} {S S2:aI} {V:WV} {tr:List aB} {c c2:aB} {G:WG}
theorem Iq (hrw:(Lit.int .i64 root).wf=true) (hI:Inv S) (hn:tr.length<=8388607) (hZ:fF β G.Z xs) (hX:dZ xs 1048576) (hg:dQ β) (hD:bS β c.dA c.data) (hl:c.data.length<=1048576) (hw:(Lit.int .i64 c.handle).wf=true) (how:(Lit.int .i64 c.other).wf=true) (hnm:c.name.size<=1048576) (Dt:c.text.size<=1048576) (hop:lT c.op) (hW:aR fs xs root (tr.length+1) S c=(S2,c2)) :
    bw Tryz.prog β 155 #[vP G.w,.agg ⟨dr c⟩] [wA G fs xs root S V tr] (fun β' v l=>∃ (V':WV) (B1:Option Addr) (p1:Nat) (B2:Option Addr) (p2:Nat),v=.agg ⟨dr (dz B2 p2 c2)⟩/\l=[wA G fs xs root S2 V' (tr++[dz B1 p1 c2])]/\bS β' B1 c2.data/\bS β' B2 c2.data/\c2.data.length<=p2):=
  (SD S V.L G.w G.o G.q G.f G.m G.t G.am G.an G.km G.kn G.Z fs xs root tr V.A V.c hrw hI hn hZ hX hg c hD hl hw how hnm Dt hop hW).one.mono (by
    rintro β' v l _ ⟨l0,⟨B1,p1,B2,p2,A',k',L2,rfl,rfl,h1,h2,h3⟩,rfl⟩
    refine⟨⟨L2,A',k'⟩,B1,p1,B2,p2,rfl,?_,h1,h2,h3⟩
    unfold wA wP tR
    rw [List.length_append]
    rfl)
theorem uV:Spec Tryz.prog β 13 #[vP G.w] [wA G fs xs root S V tr] (fun v l=>v=.int .i64 (tr.length:Int)/\l=[wA G fs xs root S V tr]):=
  (Lz S V.L G.w G.o G.q G.f G.m G.t G.am G.an G.km G.kn G.Z fs xs root tr V.A V.c).one.mono (by rintro v l ⟨l0,⟨rfl,rfl⟩,rfl⟩;exact⟨rfl,rfl⟩)
theorem N8 (hI:Inv S):Spec Tryz.prog β 17 #[vP G.w] [wA G fs xs root S V tr] (fun v l=>∃ A cp K,v=.agg #[.slice A (ay S).length cp]/\l=[wA G fs xs root S V tr]++PO A cp (ay S) K):=by
  intro R w hS
  have h1:Sat β ([.abs R]++[wA G fs xs root S V tr]) w:=Sat.turn hS
  refine (LA S V.L G.w G.o G.q G.f G.m G.t G.am G.an G.km G.kn G.Z fs xs root tr V.A V.c hI R w (Sat.turn (Sat.pN h1))).mono ?_
  rintro e w' ⟨v,l,h2,⟨A,cp,K,h3,rfl⟩,h4⟩
  refine⟨v,_,h2,⟨A,cp,K,h3,rfl⟩,?_⟩
  rw [List.append_assoc] at h4
  have h5:=(Sat.turn h4).fC
  rw [List.append_assoc] at h5 ⊢
  exact Sat.turn h5
theorem xH (hI:Inv S):bw Tryz.prog β 17 #[vP G.w] [wA G fs xs root S V tr] (fun β' v l=>∃ A cp K,v=.agg #[.slice A (ay S).length cp]/\l=[wA G fs xs root S V tr]/\aF β' A (ay S) K):=
  (N8 hI).Ru (by
    rintro v l ⟨A,cp,K,rfl,rfl⟩
    exact⟨_,_,rfl,fun β' h=>⟨A,cp,K,rfl,rfl,h.graph⟩⟩)
theorem SE {ns:List aG} {Y:Lay} {X:FM} (A:Option Addr) (cp:Nat) (hG:aF β A ns Y) (hB:iA ns 1048576) {Af Aa:Option Addr} (cf ca:Nat) (hF:cF β Af (bQ fP fs)) (mG:je fs 2097152) (hA:cF β Aa (bQ gu xs)) (hab:dZ xs 1048576) :
    bw Tryz.prog β 26 #[.agg #[.slice A ns.length cp],.int .i64 root,.agg #[.int .i64 X.cN,.int .i64 X.cB,.int .i64 X.cH,.int .i64 X.cS,.int .i64 X.cZ],.agg #[.slice Af fs.length cf,.slice Aa xs.length ca]] [] (fun β' v l=>(dh X ns root≠0/\v=.tuple #[.pointer none,.int .i64 (dh X ns root)]/\l=[])\/(dh X ns root=0/\∃ (N:uh X ns) (G:WG) (V:WV),v=.tuple #[vP G.w,.int .i64 0]/\l=[wA G fs xs root N.1 V []]/\fF β' G.Z xs)):=
  ((Qq A cp ns Y hG hB X root Af cf fs hF mG Aa ca xs hA hab).Ug (by
    rintro β' v l (⟨h1,h2,rfl⟩|⟨h1,N,L,w,o,q,f,m,t,am,an,km,kn,Z,h2,rfl,h3⟩)
    ·exact .inl ⟨rfl,.inl ⟨h1,h2,rfl⟩⟩
    exact .inr (.inr ⟨h1,N,⟨w,o,q,am,km,an,kn,f,m,t,Z⟩,⟨L,none,0⟩,h2,rfl,h3⟩)))
end d
end
section
open Go.RowKit Go.Maps bC aE
attribute [local irreducible] ak aW af aj
theorem Du {β:Bs} {G:WG} {fs:List bh} {xs:List bM} {root:Int} {S S2:aI} {V:WV} {tr:List aB} (hrw:(Lit.int .i64 root).wf=true) (hI:Inv S) (hn:tr.length<=8388607) (hZ:fF β G.Z xs) (hX:dZ xs 1048576) (hg:dQ β) (c:aB) (hD:bS β c.dA c.data) (hl:c.data.length<=1048576) (hw:(Lit.int .i64 c.handle).wf=true) (how:(Lit.int .i64 c.other).wf=true) (hnm:c.name.size<=1048576) (Dt:c.text.size<=1048576) (hop:lT c.op) {c2:aB} (hW:aR fs xs root (tr.length+1) S c=(S2,c2)) :
    bw Tryz.prog β 28 #[.agg #[.iface 39 (vP G.w)],.agg #[vI (c.op),vI (c.handle),vI (c.other),.string c.name,.string c.text,.slice c.dA (c.data.length) (c.dC),vI (c.mode),vI (c.uid),vI (c.gid),vI (c.sec),vI (c.nano),vI (c.code),vI (c.answer)]] [wA G fs xs root S V tr] (fun _ v l=>∃ (V':WV) (eD:List aB),v=.tuple #[vI c2.answer,vI c2.code]/\l=[wA G fs xs root S2 V' eD]/\eD.length=tr.length+1):=by
 refine bw.enter Tryz.func28 rfl Tryz.ntmps28 (Nat.le_of_ble_eq_true rfl) (fun hle0 R=>?_)
 refine SR (gN 1 (fun b1=>[(2,vP b1)]) (fun _=>[]) (fun _=>[]) (fun b1=>.blk b1 [.iface 39 (vP G.w)] 48) (fun b1=>?_))
 refine gN 3 (fun b2=>[(3,vP b2)]) (fun _=>[]) (fun _=>[]) (fun b2=>.blk b2 [vI (c.op),vI (c.handle),vI (c.other),.string c.name,.string c.text,.slice c.dA (c.data.length) (c.dC),vI (c.mode),vI (c.uid),vI (c.gid),vI (c.sec),vI (c.nano),vI (c.code),vI (c.answer)] 88) (fun b2=>?_)
 refine NS (gK 3 [(7,.iface 39 (vP G.w)),(8,.agg #[vI (c.op),vI (c.handle),vI (c.other),.string c.name,.string c.text,.slice c.dA (c.data.length) (c.dC),vI (c.mode),vI (c.uid),vI (c.gid),vI (c.sec),vI (c.nano),vI (c.code),vI (c.answer)])] [(1,a_ 2 b1),(2,A_ 3 b2 13)] ?_)
 refine ak.fH (d:=(some 9)) (R:=[.abs R,.blk b1 [.iface 39 (vP G.w)] 48,pC b2 c]) (pk:=[0,1,2,3]) (fun _=>by kernel_rfl) (Iq (β:=β) (G:=G) (fs:=fs) (xs:=xs) (S:=S) (V:=V) (tr:=tr) (c:=c) (c2:=c2) (S2:=S2) hrw hI hn hZ hX hg hD hl hw how hnm Dt hop hW) rfl (by kernel_rfl) ?_
 rintro Fk _ _ iz ⟨V',B1,p1,B2,p2,rfl,rfl,_,_,_⟩
 replace hle0:=hle0.trans iz
 refine gC 1 [] [(0,A_ 3 b2 13)] [(3,[(0,vI (c2.op)),(1,vI (c2.handle)),(2,vI (c2.other)),(3,.string c2.name),(4,.string c2.text),(5,.slice B2 (c2.data.length) (p2)),(6,vI (c2.mode)),(7,vI (c2.uid)),(8,vI (c2.gid)),(9,vI (c2.sec)),(10,vI (c2.nano)),(11,vI (c2.code)),(12,vI (c2.answer))])] ?_
 refine NN (af.seq (af.eP (by kernel_rfl) (by kernel_rfl) ?_))
 refine gQ 6 [(4,vI (c2.answer)),(5,vI (c2.code))] [(1,a_ 3 b2),(3,a_ 3 b2)] ?_
 refine NQ (NX (af.ret ?_))
 exact aj.gU (v:=.tuple #[vI (c2.answer),vI (c2.code)]) (l:=[wA G fs xs root S2 V' (tr++[dz B1 p1 c2])]) (aZ:=[]) [] [0,1] hle0 (fun _=>by kernel_rfl) trivial rfl (by kernel_rfl) (⟨V',_,rfl,rfl,by rw [List.length_append];rfl⟩)
theorem Ir {β:Bs} {G:WG} {fs:List bh} {xs:List bM} {root:Int} {S S2:aI} {V:WV} {tr:List aB} (hrw:(Lit.int .i64 root).wf=true) (hI:Inv S) (hn:tr.length<=8388607) (hZ:fF β G.Z xs) (hX:dZ xs 1048576) (hg:dQ β) (c:aB) (hD:bS β c.dA c.data) (hl:c.data.length<=1048576) (hw:(Lit.int .i64 c.handle).wf=true) (how:(Lit.int .i64 c.other).wf=true) (hnm:c.name.size<=1048576) (Dt:c.text.size<=1048576) (hop:lT c.op) {c2:aB} (hW:aR fs xs root (tr.length+1) S c=(S2,c2)) :
    bw Tryz.prog β 52 #[.agg #[.iface 39 (vP G.w)],.agg #[vI (c.op),vI (c.handle),vI (c.other),.string c.name,.string c.text,.slice c.dA (c.data.length) (c.dC),vI (c.mode),vI (c.uid),vI (c.gid),vI (c.sec),vI (c.nano),vI (c.code),vI (c.answer)]] [wA G fs xs root S V tr] (fun _ v l=>∃ (V':WV) (eD:List aB),v=vI c2.code/\l=[wA G fs xs root S2 V' eD]/\eD.length=tr.length+1):=by
 refine bw.enter Tryz.func52 rfl Tryz.ntmps52 (Nat.le_of_ble_eq_true rfl) (fun hle0 R=>?_)
 refine SR (gN 1 (fun b4=>[(2,vP b4)]) (fun _=>[]) (fun _=>[]) (fun b4=>.blk b4 [.iface 39 (vP G.w)] 48) (fun b4=>?_))
 refine gN 2 (fun b5=>[(3,vP b5)]) (fun _=>[]) (fun _=>[]) (fun b5=>.blk b5 [vI (c.op),vI (c.handle),vI (c.other),.string c.name,.string c.text,.slice c.dA (c.data.length) (c.dC),vI (c.mode),vI (c.uid),vI (c.gid),vI (c.sec),vI (c.nano),vI (c.code),vI (c.answer)] 88) (fun b5=>?_)
 refine NS (gK 3 [(6,.iface 39 (vP G.w)),(7,.agg #[vI (c.op),vI (c.handle),vI (c.other),.string c.name,.string c.text,.slice c.dA (c.data.length) (c.dC),vI (c.mode),vI (c.uid),vI (c.gid),vI (c.sec),vI (c.nano),vI (c.code),vI (c.answer)])] [(1,a_ 2 b4),(2,A_ 3 b5 13)] ?_)
 refine ak.fH (d:=(some 8)) (R:=[.abs R,.blk b4 [.iface 39 (vP G.w)] 48,pC b5 c]) (pk:=[0,1,2,3]) (fun _=>by kernel_rfl) (Iq (β:=β) (G:=G) (fs:=fs) (xs:=xs) (S:=S) (V:=V) (tr:=tr) (c:=c) (c2:=c2) (S2:=S2) hrw hI hn hZ hX hg hD hl hw how hnm Dt hop hW) rfl (by kernel_rfl) ?_
 rintro W6 _ _ pH ⟨V',B1,p1,B2,p2,rfl,rfl,_,_,_⟩
 replace hle0:=hle0.trans pH
 refine gK 2 [(4,vI (c2.code))] [] ?_
 refine NN (af.ret ?_)
 exact aj.gU (v:=.int .i64 (c2.code)) (l:=[wA G fs xs root S2 V' (tr++[dz B1 p1 c2])]) (aZ:=[]) [] [0,1] hle0 (fun _=>by kernel_rfl) trivial rfl (by kernel_rfl) (⟨V',_,rfl,rfl,by rw [List.length_append];rfl⟩)
theorem Iu {β:Bs} {G:WG} {fs:List bh} {xs:List bM} {root:Int} {S S2:aI} {V:WV} {tr:List aB} (hrw:(Lit.int .i64 root).wf=true) (hI:Inv S) (hn:tr.length<=8388607) (hZ:fF β G.Z xs) (hX:dZ xs 1048576) (hg:dQ β) (id:Int) (how:(Lit.int .i64 id).wf=true) {c2:aB} (hW:aR fs xs root (tr.length+1) S (⟨1,0,id,⟨#[]⟩,⟨#[]⟩,none,0,[],0,0,0,0,0,0,0⟩:aB)=(S2,c2)) :
    bw Tryz.prog β 9 #[.agg #[.iface 39 (vP G.w)],vI (id)] [wA G fs xs root S V tr] (fun _ v l=>∃ (V':WV) (eD:List aB),v=.tuple #[vI c2.answer,vI c2.code]/\l=[wA G fs xs root S2 V' eD]/\eD.length=tr.length+1):=by
 refine bw.enter Tryz.func9 rfl Tryz.ntmps9 (Nat.le_of_ble_eq_true rfl) (fun hle0 R=>?_)
 refine SR (gN 3 (fun b7=>[(2,vP b7)]) (fun _=>[]) (fun _=>[]) (fun b7=>.blk b7 [.iface 39 (vP G.w)] 48) (fun b7=>?_))
 refine NS (gK 3 [(6,.agg #[.iface 39 (vP G.w)]),(8,.agg #[vI 1,vI 0,vI (id),.string ⟨#[]⟩,.string ⟨#[]⟩,.slice none (0) (0),vI 0,vI 0,vI 0,vI 0,vI 0,vI 0,vI 0])] [(0,a_ 2 b7)] ?_)
 refine ak.fH (d:=(some 9)) (R:=[.abs R,.blk b7 [.iface 39 (vP G.w)] 48]) (pk:=[0,1,2]) (fun _=>by kernel_rfl) (Du (β:=β) (G:=G) (fs:=fs) (xs:=xs) (S:=S) (V:=V) (tr:=tr) (S2:=S2) (c2:=c2) hrw hI hn hZ hX hg (⟨1,0,id,⟨#[]⟩,⟨#[]⟩,none,0,[],0,0,0,0,0,0,0⟩:aB) (fun j v h=>by cases h) (Nat.zero_le _) (by show (Lit.int .i64 0).wf=true;decide) how (Nat.zero_le _) (Nat.zero_le _) (by show lT 1;first|exact rfl|(unfold lT;decide)) hW) rfl (by kernel_rfl) ?_
 rintro zB _ _ gq ⟨V',eD,rfl,rfl,ht⟩
 replace hle0:=hle0.trans gq
 refine gK 4 [(4,vI (c2.answer)),(5,vI (c2.code))] [] ?_
 refine NN (af.ret ?_)
 exact aj.gU (v:=.tuple #[vI (c2.answer),vI (c2.code)]) (l:=[wA G fs xs root S2 V' eD]) (aZ:=[]) [] [0,1] hle0 (fun _=>by kernel_rfl) trivial rfl (by kernel_rfl) (⟨V',eD,rfl,rfl,ht⟩)
theorem vz {β:Bs} {G:WG} {fs:List bh} {xs:List bM} {root:Int} {S S2:aI} {V:WV} {tr:List aB} (hrw:(Lit.int .i64 root).wf=true) (hI:Inv S) (hn:tr.length<=8388607) (hZ:fF β G.Z xs) (hX:dZ xs 1048576) (hg:dQ β) (h:Int) (hw:(Lit.int .i64 h).wf=true) (name:ByteArray) (hnm:name.size<=1048576) {c2:aB} (hW:aR fs xs root (tr.length+1) S (⟨2,h,0,name,⟨#[]⟩,none,0,[],0,0,0,0,0,0,0⟩:aB)=(S2,c2)) :
    bw Tryz.prog β 53 #[.agg #[.iface 39 (vP G.w)],vI (h),.string name] [wA G fs xs root S V tr] (fun _ v l=>∃ (V':WV) (eD:List aB),v=.tuple #[vI c2.answer,vI c2.code]/\l=[wA G fs xs root S2 V' eD]/\eD.length=tr.length+1):=by
 refine bw.enter Tryz.func53 rfl Tryz.ntmps53 (Nat.le_of_ble_eq_true rfl) (fun hle0 R=>?_)
 refine SR (gN 3 (fun b9=>[(3,vP b9)]) (fun _=>[]) (fun _=>[]) (fun b9=>.blk b9 [.iface 39 (vP G.w)] 48) (fun b9=>?_))
 refine NS (gK 4 [(8,.agg #[.iface 39 (vP G.w)]),(11,.agg #[vI 2,vI (h),vI 0,.string name,.string ⟨#[]⟩,.slice none (0) (0),vI 0,vI 0,vI 0,vI 0,vI 0,vI 0,vI 0])] [(0,a_ 2 b9)] ?_)
 refine ak.fH (d:=(some 12)) (R:=[.abs R,.blk b9 [.iface 39 (vP G.w)] 48]) (pk:=[0,1,2]) (fun _=>by kernel_rfl) (Du (β:=β) (G:=G) (fs:=fs) (xs:=xs) (S:=S) (V:=V) (tr:=tr) (S2:=S2) (c2:=c2) hrw hI hn hZ hX hg (⟨2,h,0,name,⟨#[]⟩,none,0,[],0,0,0,0,0,0,0⟩:aB) (fun j v h=>by cases h) (Nat.zero_le _) hw (by show (Lit.int .i64 0).wf=true;decide) hnm (Nat.zero_le _) (by show lT 2;first|exact rfl|(unfold lT;decide)) hW) rfl (by kernel_rfl) ?_
 rintro Ez _ _ eX ⟨V',eD,rfl,rfl,ht⟩
 replace hle0:=hle0.trans eX
 refine gK 4 [(6,vI (c2.answer)),(7,vI (c2.code))] [] ?_
 refine NN (af.ret ?_)
 exact aj.gU (v:=.tuple #[vI (c2.answer),vI (c2.code)]) (l:=[wA G fs xs root S2 V' eD]) (aZ:=[]) [] [0,1] hle0 (fun _=>by kernel_rfl) trivial rfl (by kernel_rfl) (⟨V',eD,rfl,rfl,ht⟩)
theorem N9 {β:Bs} {G:WG} {fs:List bh} {xs:List bM} {root:Int} {S S2:aI} {V:WV} {tr:List aB} (hrw:(Lit.int .i64 root).wf=true) (hI:Inv S) (hn:tr.length<=8388607) (hZ:fF β G.Z xs) (hX:dZ xs 1048576) (hg:dQ β) (h:Int) (hw:(Lit.int .i64 h).wf=true) (name:ByteArray) (hnm:name.size<=1048576) (mode:Int) {c2:aB} (hW:aR fs xs root (tr.length+1) S (⟨4,h,0,name,⟨#[]⟩,none,0,[],mode,0,0,0,0,0,0⟩:aB)=(S2,c2)) :
    bw Tryz.prog β 54 #[.agg #[.iface 39 (vP G.w)],vI (h),.string name,vI (mode)] [wA G fs xs root S V tr] (fun _ v l=>∃ (V':WV) (eD:List aB),v=vI c2.code/\l=[wA G fs xs root S2 V' eD]/\eD.length=tr.length+1):=by
 refine bw.enter Tryz.func54 rfl Tryz.ntmps54 (Nat.le_of_ble_eq_true rfl) (fun hle0 R=>?_)
 refine SR (gN 2 (fun b11=>[(4,vP b11)]) (fun _=>[]) (fun _=>[]) (fun b11=>.blk b11 [.iface 39 (vP G.w)] 48) (fun b11=>?_))
 refine NS (gK 5 [(9,.agg #[.iface 39 (vP G.w)]),(13,.agg #[vI 4,vI (h),vI 0,.string name,.string ⟨#[]⟩,.slice none (0) (0),vI (mode),vI 0,vI 0,vI 0,vI 0,vI 0,vI 0])] [(0,a_ 2 b11)] ?_)
 refine ak.fH (d:=(some 14)) (R:=[.abs R,.blk b11 [.iface 39 (vP G.w)] 48]) (pk:=[0,1,2]) (fun _=>by kernel_rfl) (Ir (β:=β) (G:=G) (fs:=fs) (xs:=xs) (S:=S) (V:=V) (tr:=tr) (S2:=S2) (c2:=c2) hrw hI hn hZ hX hg (⟨4,h,0,name,⟨#[]⟩,none,0,[],mode,0,0,0,0,0,0⟩:aB) (fun j v h=>by cases h) (Nat.zero_le _) hw (by show (Lit.int .i64 0).wf=true;decide) hnm (Nat.zero_le _) (by show lT 4;first|exact rfl|(unfold lT;decide)) hW) rfl (by kernel_rfl) ?_
 rintro Qr _ _ jc ⟨V',eD,rfl,rfl,ht⟩
 replace hle0:=hle0.trans jc
 refine gK 1 [(8,vI (c2.code))] [] ?_
 refine NN (af.ret ?_)
 exact aj.gU (v:=.int .i64 (c2.code)) (l:=[wA G fs xs root S2 V' eD]) (aZ:=[]) [] [0,1] hle0 (fun _=>by kernel_rfl) trivial rfl (by kernel_rfl) (⟨V',eD,rfl,rfl,ht⟩)
theorem Fl {β:Bs} {G:WG} {fs:List bh} {xs:List bM} {root:Int} {S S2:aI} {V:WV} {tr:List aB} (hrw:(Lit.int .i64 root).wf=true) (hI:Inv S) (hn:tr.length<=8388607) (hZ:fF β G.Z xs) (hX:dZ xs 1048576) (hg:dQ β) (h:Int) (hw:(Lit.int .i64 h).wf=true) {c2:aB} (hW:aR fs xs root (tr.length+1) S (⟨13,h,0,⟨#[]⟩,⟨#[]⟩,none,0,[],0,0,0,0,0,0,0⟩:aB)=(S2,c2)) :
    bw Tryz.prog β 30 #[.agg #[.iface 39 (vP G.w)],vI (h)] [wA G fs xs root S V tr] (fun _ v l=>∃ (V':WV) (eD:List aB),v=vI c2.code/\l=[wA G fs xs root S2 V' eD]/\eD.length=tr.length+1):=by
 refine bw.enter Tryz.func30 rfl Tryz.ntmps30 (Nat.le_of_ble_eq_true rfl) (fun hle0 R=>?_)
 refine SR (gN 2 (fun b13=>[(2,vP b13)]) (fun _=>[]) (fun _=>[]) (fun b13=>.blk b13 [.iface 39 (vP G.w)] 48) (fun b13=>?_))
 refine NS (gK 3 [(5,.agg #[.iface 39 (vP G.w)]),(7,.agg #[vI 13,vI (h),vI 0,.string ⟨#[]⟩,.string ⟨#[]⟩,.slice none (0) (0),vI 0,vI 0,vI 0,vI 0,vI 0,vI 0,vI 0])] [(0,a_ 2 b13)] ?_)
 refine ak.fH (d:=(some 8)) (R:=[.abs R,.blk b13 [.iface 39 (vP G.w)] 48]) (pk:=[0,1,2]) (fun _=>by kernel_rfl) (Ir (β:=β) (G:=G) (fs:=fs) (xs:=xs) (S:=S) (V:=V) (tr:=tr) (S2:=S2) (c2:=c2) hrw hI hn hZ hX hg (⟨13,h,0,⟨#[]⟩,⟨#[]⟩,none,0,[],0,0,0,0,0,0,0⟩:aB) (fun j v h=>by cases h) (Nat.zero_le _) hw (by show (Lit.int .i64 0).wf=true;decide) (Nat.zero_le _) (Nat.zero_le _) (by show lT 13;first|exact rfl|(unfold lT;decide)) hW) rfl (by kernel_rfl) ?_
 rintro UQ _ _ jd ⟨V',eD,rfl,rfl,ht⟩
 replace hle0:=hle0.trans jd
 refine gK 1 [(4,vI (c2.code))] [] ?_
 refine NN (af.ret ?_)
 exact aj.gU (v:=.int .i64 (c2.code)) (l:=[wA G fs xs root S2 V' eD]) (aZ:=[]) [] [0,1] hle0 (fun _=>by kernel_rfl) trivial rfl (by kernel_rfl) (⟨V',eD,rfl,rfl,ht⟩)
theorem Qs {β:Bs} {G:WG} {fs:List bh} {xs:List bM} {root:Int} {S S2:aI} {V:WV} {tr:List aB} (hrw:(Lit.int .i64 root).wf=true) (hI:Inv S) (hn:tr.length<=8388607) (hZ:fF β G.Z xs) (hX:dZ xs 1048576) (hg:dQ β) (c:aB) (hD:bS β c.dA c.data) (hl:c.data.length<=1048576) (hw:(Lit.int .i64 c.handle).wf=true) (how:(Lit.int .i64 c.other).wf=true) (hnm:c.name.size<=1048576) (Dt:c.text.size<=1048576) (hop:lT c.op) {c2:aB} (hW:aR fs xs root (tr.length+1) S c=(S2,c2)) :
    bw Tryz.prog β 34 #[.agg #[.iface 39 (vP G.w)],.agg #[vI (c.op),vI (c.handle),vI (c.other),.string c.name,.string c.text,.slice c.dA (c.data.length) (c.dC),vI (c.mode),vI (c.uid),vI (c.gid),vI (c.sec),vI (c.nano),vI (c.code),vI (c.answer)]] [wA G fs xs root S V tr] (fun _ v l=>∃ (V':WV) (eD:List aB),v=.tuple #[.agg #[vI c2.answer,vI c2.other,vI c2.mode,vI c2.uid,vI c2.gid,vI c2.sec,vI c2.nano],vI c2.code]/\l=[wA G fs xs root S2 V' eD]/\eD.length=tr.length+1):=by
 refine bw.enter Tryz.func34 rfl Tryz.ntmps34 (Nat.le_of_ble_eq_true rfl) (fun hle0 R=>?_)
 refine SR (gN 1 (fun b15=>[(2,vP b15)]) (fun _=>[]) (fun _=>[]) (fun b15=>.blk b15 [.iface 39 (vP G.w)] 48) (fun b15=>?_))
 refine gN 1 (fun b16=>[(3,vP b16)]) (fun _=>[]) (fun _=>[]) (fun b16=>.blk b16 [vI (c.op),vI (c.handle),vI (c.other),.string c.name,.string c.text,.slice c.dA (c.data.length) (c.dC),vI (c.mode),vI (c.uid),vI (c.gid),vI (c.sec),vI (c.nano),vI (c.code),vI (c.answer)] 88) (fun b16=>?_)
 refine gN 2 (fun b17=>[(4,vP b17)]) (fun _=>[]) (fun _=>[]) (fun b17=>.blk b17 [vI 0,vI 0,vI 0,vI 0,vI 0,vI 0,vI 0] 65) (fun b17=>?_)
 refine NS (gK 3 [(7,.iface 39 (vP G.w)),(8,.agg #[vI (c.op),vI (c.handle),vI (c.other),.string c.name,.string c.text,.slice c.dA (c.data.length) (c.dC),vI (c.mode),vI (c.uid),vI (c.gid),vI (c.sec),vI (c.nano),vI (c.code),vI (c.answer)])] [(1,a_ 2 b15),(2,A_ 3 b16 13)] ?_)
 refine ak.fH (d:=(some 9)) (R:=[.abs R,.blk b15 [.iface 39 (vP G.w)] 48,pC b16 c,.blk b17 [vI 0,vI 0,vI 0,vI 0,vI 0,vI 0,vI 0] 65]) (pk:=[0,1,2,3,4]) (fun _=>by kernel_rfl) (Iq (β:=β) (G:=G) (fs:=fs) (xs:=xs) (S:=S) (V:=V) (tr:=tr) (c:=c) (c2:=c2) (S2:=S2) hrw hI hn hZ hX hg hD hl hw how hnm Dt hop hW) rfl (by kernel_rfl) ?_
 rintro Gj _ _ tK ⟨V',B1,p1,B2,p2,rfl,rfl,_,_,_⟩
 replace hle0:=hle0.trans tK
 refine gC 1 [] [(0,A_ 3 b16 13)] [(3,[(0,vI (c2.op)),(1,vI (c2.handle)),(2,vI (c2.other)),(3,.string c2.name),(4,.string c2.text),(5,.slice B2 (c2.data.length) (p2)),(6,vI (c2.mode)),(7,vI (c2.uid)),(8,vI (c2.gid)),(9,vI (c2.sec)),(10,vI (c2.nano)),(11,vI (c2.code)),(12,vI (c2.answer))])] ?_
 refine NN (af.seq (af.cA (S:=[.blk b16 [vI (c2.op),vI (c2.handle),vI (c2.other),.string c2.name,.string c2.text,.slice B2 (c2.data.length) (p2),vI (c2.mode),vI (c2.uid),vI (c2.gid),vI (c2.sec),vI (c2.nano),vI (c2.code),vI (c2.answer)] 88]) [0,1,2,3,4,5,6,7,8,9,10,11,12,13,14,15,16] 15 [3] (by kernel_rfl) (by kernel_rfl) rfl (by kernel_rfl) ?_))
 refine gR 0 [15,16] [(4,vP b17),(22,.agg #[vI (c2.answer),vI (c2.other),vI (c2.mode),vI (c2.uid),vI (c2.gid),vI (c2.sec),vI (c2.nano)]),(24,vI (c2.code))] [0,1,2,3,4,5,6,7,8,9,10,11,12,13,14] [(1,a_ 0 b16),(3,a_ 0 b16),(5,a_ 0 b16),(7,a_ 0 b16),(9,a_ 0 b16),(11,A_ 0 b16 2),(14,a_ 0 b16)] ?_
 refine mC [3] [] [(0,A_ 4 b17 7)] [(4,[(0,vI (c2.answer)),(1,vI (c2.other)),(2,vI (c2.mode)),(3,vI (c2.uid)),(4,vI (c2.gid)),(5,vI (c2.sec)),(6,vI (c2.nano))])] ?_
 refine aS.last rfl rfl ?_
 refine gK 1 [(5,vI (c2.code))] [] ?_
 refine NL (aj.np (NX (af.ret ?_)))
 exact aj.gU (v:=.tuple #[.agg #[vI (c2.answer),vI (c2.other),vI (c2.mode),vI (c2.uid),vI (c2.gid),vI (c2.sec),vI (c2.nano)],vI (c2.code)]) (l:=[wA G fs xs root S2 V' (tr++[dz B1 p1 c2])]) (aZ:=[b17=b17,b17=b17,b17=b17,b17=b17,b17=b17,b17=b17,b17=b17]) [.at 4,.at 4,.at 4,.at 4,.at 4,.at 4,.at 4] [0,1] hle0 (fun _=>by kernel_rfl) ⟨rfl,rfl,rfl,rfl,rfl,rfl,rfl,trivial⟩ rfl (by kernel_rfl) (⟨V',_,rfl,rfl,by rw [List.length_append];rfl⟩)
theorem Qt {β:Bs} {G:WG} {fs:List bh} {xs:List bM} {root:Int} {S S2:aI} {V:WV} {tr:List aB} (hrw:(Lit.int .i64 root).wf=true) (hI:Inv S) (hn:tr.length<=8388607) (hZ:fF β G.Z xs) (hX:dZ xs 1048576) (hg:dQ β) (h:Int) (hw:(Lit.int .i64 h).wf=true) {c2:aB} (hW:aR fs xs root (tr.length+1) S (⟨11,h,0,⟨#[]⟩,⟨#[]⟩,none,0,[],0,0,0,0,0,0,0⟩:aB)=(S2,c2)) :
    bw Tryz.prog β 16 #[.agg #[.iface 39 (vP G.w)],vI (h)] [wA G fs xs root S V tr] (fun _ v l=>∃ (V':WV) (eD:List aB),v=.tuple #[.agg #[vI c2.answer,vI c2.other,vI c2.mode,vI c2.uid,vI c2.gid,vI c2.sec,vI c2.nano],vI c2.code]/\l=[wA G fs xs root S2 V' eD]/\eD.length=tr.length+1):=by
 refine bw.enter Tryz.func16 rfl Tryz.ntmps16 (Nat.le_of_ble_eq_true rfl) (fun hle0 R=>?_)
 refine SR (gN 1 (fun b19=>[(2,vP b19)]) (fun _=>[]) (fun _=>[]) (fun b19=>.blk b19 [.iface 39 (vP G.w)] 48) (fun b19=>?_))
 refine gN 2 (fun b20=>[(4,vP b20)]) (fun _=>[]) (fun _=>[]) (fun b20=>.blk b20 [vI 0,vI 0,vI 0,vI 0,vI 0,vI 0,vI 0] 65) (fun b20=>?_)
 refine NS (gK 3 [(6,.agg #[.iface 39 (vP G.w)]),(8,.agg #[vI 11,vI (h),vI 0,.string ⟨#[]⟩,.string ⟨#[]⟩,.slice none (0) (0),vI 0,vI 0,vI 0,vI 0,vI 0,vI 0,vI 0])] [(0,a_ 2 b19)] ?_)
 refine ak.fH (d:=(some 9)) (R:=[.abs R,.blk b19 [.iface 39 (vP G.w)] 48,.blk b20 [vI 0,vI 0,vI 0,vI 0,vI 0,vI 0,vI 0] 65]) (pk:=[0,1,2,3]) (fun _=>by kernel_rfl) (Qs (β:=β) (G:=G) (fs:=fs) (xs:=xs) (S:=S) (V:=V) (tr:=tr) (S2:=S2) (c2:=c2) hrw hI hn hZ hX hg (⟨11,h,0,⟨#[]⟩,⟨#[]⟩,none,0,[],0,0,0,0,0,0,0⟩:aB) (fun j v h=>by cases h) (Nat.zero_le _) hw (by show (Lit.int .i64 0).wf=true;decide) (Nat.zero_le _) (Nat.zero_le _) (by show lT 11;first|exact rfl|(unfold lT;decide)) hW) rfl (by kernel_rfl) ?_
 rintro ZF _ _ Qu ⟨V',eD,rfl,rfl,ht⟩
 replace hle0:=hle0.trans Qu
 refine gC 4 [(5,vI (c2.code))] [(2,A_ 3 b20 7)] [(3,[(0,vI (c2.answer)),(1,vI (c2.other)),(2,vI (c2.mode)),(3,vI (c2.uid)),(4,vI (c2.gid)),(5,vI (c2.sec)),(6,vI (c2.nano))])] ?_
 refine NN (af.ret ?_)
 exact aj.gU (v:=.tuple #[.agg #[vI (c2.answer),vI (c2.other),vI (c2.mode),vI (c2.uid),vI (c2.gid),vI (c2.sec),vI (c2.nano)],vI (c2.code)]) (l:=[wA G fs xs root S2 V' eD]) (aZ:=[b20=b20,b20=b20,b20=b20,b20=b20,b20=b20,b20=b20,b20=b20]) [.at 3,.at 3,.at 3,.at 3,.at 3,.at 3,.at 3] [0,1] hle0 (fun _=>by kernel_rfl) ⟨rfl,rfl,rfl,rfl,rfl,rfl,rfl,trivial⟩ rfl (by kernel_rfl) (⟨V',eD,rfl,rfl,ht⟩)
theorem Fm {β:Bs} {G:WG} {fs:List bh} {xs:List bM} {root:Int} {S S2:aI} {V:WV} {tr:List aB} (hrw:(Lit.int .i64 root).wf=true) (hI:Inv S) (hn:tr.length<=8388607) (hZ:fF β G.Z xs) (hX:dZ xs 1048576) (hg:dQ β) (h:Int) (hw:(Lit.int .i64 h).wf=true) {c2:aB} {n:Nat} (htr:tr.length=n) (hW:aR fs xs root (n+1) S (⟨11,h,0,⟨#[]⟩,⟨#[]⟩,none,0,[],0,0,0,0,0,0,0⟩:aB)=(S2,c2)) :
    Spec Tryz.prog β 16 #[.agg #[.iface 39 (vP G.w)],vI (h)] [wA G fs xs root S V tr] (fun v l=>∃ (V':WV) (q:{ l:List aB // l.length=n+1 }),v=.tuple #[.agg #[vI c2.answer,vI c2.other,vI c2.mode,vI c2.uid,vI c2.gid,vI c2.sec,vI c2.nano],vI c2.code]/\l=[wA G fs xs root S2 V' q.1]):=
  ((Qt (V:=V) (S2:=S2) (c2:=c2) hrw hI hn hZ hX hg h hw (by rw [htr];exact hW)).mono (post':=fun _ v l=>∃ (V':WV) (q:{ l:List aB // l.length=n+1 }),v=.tuple #[.agg #[vI c2.answer,vI c2.other,vI c2.mode,vI c2.uid,vI c2.gid,vI c2.sec,vI c2.nano],vI c2.code]/\l=[wA G fs xs root S2 V' q.1]) (by
    rintro _ v l _ ⟨V',eD,h1,h2,h3⟩
    exact⟨V',⟨eD,h3.trans (by rw [htr])⟩,h1,h2⟩)).C3
end
section
open Go.RowKit Go.Maps
attribute [local irreducible] ak aW af aj
section rules
variable {P:Program} {β:Bs} {N:dD} {ops:Array Oper} {k:Nat} {fr:Fr} {hps:List HP} {Q:Post} {d:Option Tmp} {v:Value} {t xT asserted:TypeId} {x:Operand} {want:Array (String×TypeId)}
theorem ak.lacks (hop:∀ junk,fK N junk ops fr k=some (.typeAssert x xT asserted true,d)) (hx:∀ junk,dm N fr junk x=.iface t v) (hu:P.underlying asserted=some (.interface want)) (h:(P.info? t).map (fun i=>(lacking want i.methods).isEmpty)=some false) (hz:(P.info? asserted).map (·.zero)=some (some .nilIface))
    (K:ak P β N ops (k+1) (cY fr d (.tuple #[.nilIface,.bool false])) hps Q):ak P β N ops k fr hps Q:=
  ak.jZ hop (fun o junk w ho hS=>⟨w,.inl (by
    obtain⟨dst,op,type,pos,after,guard⟩:=o
    cases ho
    simp only [execOp,hx]
    simp [run_typeAssert_lacksB hu h hz,Result.andThen]),hS⟩) K
end rules
def jl (β:Bs):Prop:=Rd β ⟨0,0,none⟩ (.iface 195 (.agg #[.pointer (some ⟨12,57,none⟩)]))
theorem jl.le {β β':Bs} (h:jl β) (hle:β.le β'):jl β':=Rd.le h hle
theorem LB {β:Bs} (a:Nat) (e t:Nat) (x:Value) :
    Spec Tryz.prog β 71 #[.iface 92 (vP e),.iface 119 (vP t),.agg #[.pointer (some ⟨12,119,none⟩),vP a,.int .u64 150],.iface 195 (.agg #[.pointer (some ⟨12,92,none⟩)])] [.blk a [vP t] 119,.blk t [x] 92] (fun v l=>v=.bool true/\l=[.blk t [vP e] 92]):=by
 refine Spec.enter Tryz.func71 rfl Tryz.ntmps71 (Nat.le_of_ble_eq_true rfl) (fun R=>?_)
 refine SR (gN 2 (fun b1=>[(6,vP b1)]) (fun _=>[]) (fun _=>[]) (fun b1=>.blk b1 [.pointer (some ⟨12,119,none⟩),vP a,.int .u64 150] 186) (fun b1=>?_))
 refine NN (af.block ?_)
 refine af.loop (ι:=Unit) (fun (u:Unit)=>True) (fun (u:Unit)=>0) (fun (u:Unit)=>[(0,.iface 92 (vP e)),(1,.iface 119 (vP t)),(3,.iface 195 (.agg #[.pointer (some ⟨12,92,none⟩)])),(6,vP b1)]) (fun (u:Unit)=>[.blk a [vP t] 119,.blk t [x] 92,.abs R,.blk b1 [.pointer (some ⟨12,119,none⟩),vP a,.int .u64 150] 186]) () (idx:=[0,1,3,6]) (pk:=[0,1,2,3]) (show True from trivial) (fun _=>by kernel_rfl) rfl (by kernel_rfl) ?_
 rintro u _
 show af _ _ _ _ [(0,.iface 92 (vP e)),(1,.iface 119 (vP t)),(3,.iface 195 (.agg #[.pointer (some ⟨12,92,none⟩)])),(6,vP b1)] [.blk a [vP t] 119,.blk t [x] 92,.abs R,.blk b1 [.pointer (some ⟨12,119,none⟩),vP a,.int .u64 150] 186] _
 refine af.block (af.seq (SR ?_))
 refine gK 4 [(19,.bool true)] [] ?_
 refine NN (CT (SR (gN 5 (fun _=>[]) (fun b2=>[(0,A_ 3 b1 3),(1,a_ 0 a),(4,p_ ⟨[.at 4,.at 1],none,none,none,none⟩ [t=t,b2=b2] ⟨rfl,rfl,trivial⟩)]) (fun b2=>[(1,[(0,vP e)])]) (fun b2=>.blk b2 [vP e] 92) (fun b2=>?_))))
 refine NS (gK 1 [(8,.bool true)] [] ?_)
 refine NN (af.ret (aj.aq (aj.aL (aj.aq (aj.aL ?_)))))
 exact RT (.bool true) [1,2] (⟨rfl,rfl⟩)
theorem Oa {β:Bs} (hE:jl β) (e t:Nat) (x:Value) :
    Spec Tryz.prog β 41 #[.iface 92 (vP e),.iface 119 (vP t)] [.blk t [x] 92] (fun v l=>v=.bool true/\l=[.blk t [vP e] 92]):=by
 refine Spec.enter Tryz.func41 rfl Tryz.ntmps41 (Nat.le_of_ble_eq_true rfl) (fun R=>?_)
 refine SR (gK 1 [] [] ?_)
 refine NN (af.seq (SR (gK 2 [(9,.bool false)] [] ?_)))
 refine NN (CF (af.skip (NX (af.seq (SR (gK 2 [(11,.bool false)] [] ?_))))))
 refine NN (CF (af.skip (NX (SR (gN 2 (fun b3=>[(14,.agg #[.pointer (some ⟨12,119,none⟩),vP b3,.int .u64 150])]) (fun _=>[]) (fun _=>[]) (fun b3=>.blk b3 [vP t] 119) (fun b3=>?_))))))
 refine gN 2 (fun b4=>[(5,vP b4)]) (fun b4=>[(1,A_ 3 b4 3)]) (fun _=>[]) (fun b4=>.blk b4 [.pointer (some ⟨12,119,none⟩),vP b3,.int .u64 150] 186) (fun b4=>?_)
 refine NS (gK 3 [(6,.iface 195 (.agg #[.pointer (some ⟨12,119,none⟩)]))] [(0,A_ 3 b4 3)] ?_)
 refine NN (af.seq (SR (gK 7 [(23,.bool false)] [(4,A_ 3 b4 3),(5,a_ 2 b3)] ?_)))
 refine NN (CF (af.skip (NX (SR (gK 3 [(7,.iface 195 (.agg #[.pointer (some ⟨12,92,none⟩)]))] [] ?_)))))
 refine NN (af.seq (SR (gK 9 [(35,.bool false)] [(5,p_ ⟨[.old (.iface 195 (.agg #[.pointer (some ⟨12,57,none⟩)]))],none,none,none,none⟩ [(Rd β ⟨0,0,none⟩ (.iface 195 (.agg #[.pointer (some ⟨12,57,none⟩)])))] ⟨hE,trivial⟩)] ?_)))
 refine NN (CF (af.skip (NX (SR (gK 4 [(37,.iface 92 (vP e)),(38,.iface 119 (vP t)),(39,.agg #[.pointer (some ⟨12,119,none⟩),vP b3,.int .u64 150]),(40,.iface 195 (.agg #[.pointer (some ⟨12,92,none⟩)]))] [(2,A_ 3 b4 3)] ?_)))))
 refine gL [2,0] (LB b3 e t x) ?_
 rintro _ _ ⟨rfl,rfl⟩
 refine gK 1 [(4,.bool true)] [] ?_
 refine NN (af.ret ?_)
 exact RT (.bool true) [0,1] (⟨rfl,rfl⟩)
theorem Js {β:Bs} (a:Nat) (n:Int) (t:Nat) (x:Value) :
    Spec Tryz.prog β 71 #[.iface 40 (.int .i64 (n)),.iface 120 (vP t),.agg #[.pointer (some ⟨12,120,none⟩),vP a,.int .u64 150],.iface 195 (.agg #[.pointer (some ⟨12,40,none⟩)])] [.blk a [vP t] 120,.blk t [x] 40] (fun v l=>v=.bool true/\l=[.blk t [vI (n)] 40]):=by
 refine Spec.enter Tryz.func71 rfl Tryz.ntmps71 (Nat.le_of_ble_eq_true rfl) (fun R=>?_)
 refine SR (gN 2 (fun b5=>[(6,vP b5)]) (fun _=>[]) (fun _=>[]) (fun b5=>.blk b5 [.pointer (some ⟨12,120,none⟩),vP a,.int .u64 150] 186) (fun b5=>?_))
 refine NN (af.block ?_)
 refine af.loop (ι:=Unit) (fun (u:Unit)=>True) (fun (u:Unit)=>0) (fun (u:Unit)=>[(0,.iface 40 (.int .i64 (n))),(1,.iface 120 (vP t)),(3,.iface 195 (.agg #[.pointer (some ⟨12,40,none⟩)])),(6,vP b5)]) (fun (u:Unit)=>[.blk a [vP t] 120,.blk t [x] 40,.abs R,.blk b5 [.pointer (some ⟨12,120,none⟩),vP a,.int .u64 150] 186]) () (idx:=[0,1,3,6]) (pk:=[0,1,2,3]) (show True from trivial) (fun _=>by kernel_rfl) rfl (by kernel_rfl) ?_
 rintro u _
 show af _ _ _ _ [(0,.iface 40 (.int .i64 (n))),(1,.iface 120 (vP t)),(3,.iface 195 (.agg #[.pointer (some ⟨12,40,none⟩)])),(6,vP b5)] [.blk a [vP t] 120,.blk t [x] 40,.abs R,.blk b5 [.pointer (some ⟨12,120,none⟩),vP a,.int .u64 150] 186] _
 refine af.block (af.seq (SR ?_))
 refine gK 4 [(19,.bool true)] [] ?_
 refine NN (CT (SR (gN 5 (fun _=>[]) (fun b6=>[(0,A_ 3 b5 3),(1,a_ 0 a),(4,p_ ⟨[.at 4,.at 1],none,none,none,none⟩ [t=t,b6=b6] ⟨rfl,rfl,trivial⟩)]) (fun b6=>[(1,[(0,vI (n))])]) (fun b6=>.blk b6 [vI (n)] 40) (fun b6=>?_))))
 refine NS (gK 1 [(8,.bool true)] [] ?_)
 refine NN (af.ret (aj.aq (aj.aL (aj.aq (aj.aL ?_)))))
 exact RT (.bool true) [1,2] (⟨rfl,rfl⟩)
theorem LC {β:Bs} (hE:jl β) (n:Int) (t:Nat) (x:Value) :
    Spec Tryz.prog β 41 #[.iface 40 (.int .i64 (n)),.iface 120 (vP t)] [.blk t [x] 40] (fun v l=>v=.bool true/\l=[.blk t [vI (n)] 40]):=by
 refine Spec.enter Tryz.func41 rfl Tryz.ntmps41 (Nat.le_of_ble_eq_true rfl) (fun R=>?_)
 refine SR (gK 1 [] [] ?_)
 refine NN (af.seq (SR (gK 2 [(9,.bool false)] [] ?_)))
 refine NN (CF (af.skip (NX (af.seq (SR (gK 2 [(11,.bool false)] [] ?_))))))
 refine NN (CF (af.skip (NX (SR (gN 2 (fun b7=>[(14,.agg #[.pointer (some ⟨12,120,none⟩),vP b7,.int .u64 150])]) (fun _=>[]) (fun _=>[]) (fun b7=>.blk b7 [vP t] 120) (fun b7=>?_))))))
 refine gN 2 (fun b8=>[(5,vP b8)]) (fun b8=>[(1,A_ 3 b8 3)]) (fun _=>[]) (fun b8=>.blk b8 [.pointer (some ⟨12,120,none⟩),vP b7,.int .u64 150] 186) (fun b8=>?_)
 refine NS (gK 3 [(6,.iface 195 (.agg #[.pointer (some ⟨12,120,none⟩)]))] [(0,A_ 3 b8 3)] ?_)
 refine NN (af.seq (SR (gK 7 [(23,.bool false)] [(4,A_ 3 b8 3),(5,a_ 2 b7)] ?_)))
 refine NN (CF (af.skip (NX (SR (gK 3 [(7,.iface 195 (.agg #[.pointer (some ⟨12,40,none⟩)]))] [] ?_)))))
 refine NN (af.seq (SR (gK 9 [(35,.bool false)] [(5,p_ ⟨[.old (.iface 195 (.agg #[.pointer (some ⟨12,57,none⟩)]))],none,none,none,none⟩ [(Rd β ⟨0,0,none⟩ (.iface 195 (.agg #[.pointer (some ⟨12,57,none⟩)])))] ⟨hE,trivial⟩)] ?_)))
 refine NN (CF (af.skip (NX (SR (gK 4 [(37,.iface 40 (.int .i64 (n))),(38,.iface 120 (vP t)),(39,.agg #[.pointer (some ⟨12,120,none⟩),vP b7,.int .u64 150]),(40,.iface 195 (.agg #[.pointer (some ⟨12,40,none⟩)]))] [(2,A_ 3 b8 3)] ?_)))))
 refine gL [2,0] (Js b7 n t x) ?_
 rintro _ _ ⟨rfl,rfl⟩
 refine gK 1 [(4,.bool true)] [] ?_
 refine NN (af.ret ?_)
 exact RT (.bool true) [0,1] (⟨rfl,rfl⟩)
theorem LD {β:Bs} (a:Nat) (n:Int) (t:Nat) (x:Value) :
    Spec Tryz.prog β 71 #[.iface 40 (.int .i64 (n)),.iface 119 (vP t),.agg #[.pointer (some ⟨12,119,none⟩),vP a,.int .u64 150],.iface 195 (.agg #[.pointer (some ⟨12,92,none⟩)])] [.blk a [vP t] 119,.blk t [x] 92] (fun v l=>v=.bool false/\l=[.blk t [x] 92]):=by
 refine Spec.enter Tryz.func71 rfl Tryz.ntmps71 (Nat.le_of_ble_eq_true rfl) (fun R=>?_)
 refine SR (gN 2 (fun b9=>[(6,vP b9)]) (fun _=>[]) (fun _=>[]) (fun b9=>.blk b9 [.pointer (some ⟨12,119,none⟩),vP a,.int .u64 150] 186) (fun b9=>?_))
 refine NN (af.block ?_)
 refine af.loop (ι:=Unit) (fun (u:Unit)=>True) (fun (u:Unit)=>0) (fun (u:Unit)=>[(0,.iface 40 (.int .i64 (n))),(1,.iface 119 (vP t)),(3,.iface 195 (.agg #[.pointer (some ⟨12,92,none⟩)])),(6,vP b9)]) (fun (u:Unit)=>[.blk a [vP t] 119,.blk t [x] 92,.abs R,.blk b9 [.pointer (some ⟨12,119,none⟩),vP a,.int .u64 150] 186]) () (idx:=[0,1,3,6]) (pk:=[0,1,2,3]) (show True from trivial) (fun _=>by kernel_rfl) rfl (by kernel_rfl) ?_
 rintro u _
 show af _ _ _ _ [(0,.iface 40 (.int .i64 (n))),(1,.iface 119 (vP t)),(3,.iface 195 (.agg #[.pointer (some ⟨12,92,none⟩)])),(6,vP b9)] [.blk a [vP t] 119,.blk t [x] 92,.abs R,.blk b9 [.pointer (some ⟨12,119,none⟩),vP a,.int .u64 150] 186] _
 refine af.block (af.seq (SR ?_))
 refine gK 4 [(19,.bool false)] [] ?_
 refine NN (CF (af.skip (NX (af.seq (SR (gK 1 [(26,.iface 40 (.int .i64 (n)))] [] ?_))))))
 refine ak.lacks (x:=(.tmp 26)) (t:=40) (v:=.int .i64 (n)) (xT:=57) (d:=(some 27)) (fun _=>by kernel_rfl) (fun _=>by kernel_rfl) Tryz.underlying221 (by kernel_rfl) (by kernel_rfl) ?_
 refine gK 5 [(9,.nilIface),(10,.bool false)] [] ?_
 refine NS (gK 6 [(35,.bool false)] [] ?_)
 refine NN (CF (af.skip (NX (SR (gK 1 [(36,.iface 40 (.int .i64 (n)))] [] ?_)))))
 refine NN (af.block (SR ?_))
 refine ak.lacks (x:=(.tmp 36)) (t:=40) (v:=.int .i64 (n)) (xT:=57) (d:=(some 37)) (fun _=>by kernel_rfl) (fun _=>by kernel_rfl) Tryz.underlying200 (by kernel_rfl) (by kernel_rfl) ?_
 refine gK 2 [(38,.bool false),(39,.nilIface)] [] ?_
 refine NN (CF (SR (ak.lacks (x:=(.tmp 36)) (t:=40) (v:=.int .i64 (n)) (xT:=57) (d:=(some 44)) (fun _=>by kernel_rfl) (fun _=>by kernel_rfl) Tryz.underlying202 (by kernel_rfl) (by kernel_rfl) ?_)))
 refine gK 2 [(45,.bool false),(46,.nilIface)] [] ?_
 refine NN (CF (SR (gK 1 [] [] ?_)))
 refine NS (gK 1 [(8,.bool false)] [] ?_)
 refine NN (af.ret (aj.aL (aj.aL (aj.aq (aj.aL ?_)))))
 exact RT (.bool false) [1,2] (⟨rfl,rfl⟩)
theorem Ob {β:Bs} (hE:jl β) (n:Int) (t:Nat) (x:Value) :
    Spec Tryz.prog β 41 #[.iface 40 (.int .i64 (n)),.iface 119 (vP t)] [.blk t [x] 92] (fun v l=>v=.bool false/\l=[.blk t [x] 92]):=by
 refine Spec.enter Tryz.func41 rfl Tryz.ntmps41 (Nat.le_of_ble_eq_true rfl) (fun R=>?_)
 refine SR (gK 1 [] [] ?_)
 refine NN (af.seq (SR (gK 2 [(9,.bool false)] [] ?_)))
 refine NN (CF (af.skip (NX (af.seq (SR (gK 2 [(11,.bool false)] [] ?_))))))
 refine NN (CF (af.skip (NX (SR (gN 2 (fun b10=>[(14,.agg #[.pointer (some ⟨12,119,none⟩),vP b10,.int .u64 150])]) (fun _=>[]) (fun _=>[]) (fun b10=>.blk b10 [vP t] 119) (fun b10=>?_))))))
 refine gN 2 (fun b11=>[(5,vP b11)]) (fun b11=>[(1,A_ 3 b11 3)]) (fun _=>[]) (fun b11=>.blk b11 [.pointer (some ⟨12,119,none⟩),vP b10,.int .u64 150] 186) (fun b11=>?_)
 refine NS (gK 3 [(6,.iface 195 (.agg #[.pointer (some ⟨12,119,none⟩)]))] [(0,A_ 3 b11 3)] ?_)
 refine NN (af.seq (SR (gK 7 [(23,.bool false)] [(4,A_ 3 b11 3),(5,a_ 2 b10)] ?_)))
 refine NN (CF (af.skip (NX (SR (gK 3 [(7,.iface 195 (.agg #[.pointer (some ⟨12,92,none⟩)]))] [] ?_)))))
 refine NN (af.seq (SR (gK 9 [(35,.bool false)] [(5,p_ ⟨[.old (.iface 195 (.agg #[.pointer (some ⟨12,57,none⟩)]))],none,none,none,none⟩ [(Rd β ⟨0,0,none⟩ (.iface 195 (.agg #[.pointer (some ⟨12,57,none⟩)])))] ⟨hE,trivial⟩)] ?_)))
 refine NN (CF (af.skip (NX (SR (gK 4 [(37,.iface 40 (.int .i64 (n))),(38,.iface 119 (vP t)),(39,.agg #[.pointer (some ⟨12,119,none⟩),vP b10,.int .u64 150]),(40,.iface 195 (.agg #[.pointer (some ⟨12,92,none⟩)]))] [(2,A_ 3 b11 3)] ?_)))))
 refine gL [2,0] (LD b10 n t x) ?_
 rintro _ _ ⟨rfl,rfl⟩
 refine gK 1 [(4,.bool false)] [] ?_
 refine NN (af.ret ?_)
 exact RT (.bool false) [0,1] (⟨rfl,rfl⟩)
theorem EA {β:Bs} (hE:jl β) (n:Int) :
    Spec Tryz.prog β 21 #[.iface 40 (.int .i64 (n))] [] (fun v l=>v=.tuple #[vI n,vI 0]/\l=[]):=by
 refine Spec.enter Tryz.func21 rfl Tryz.ntmps21 (Nat.le_of_ble_eq_true rfl) (fun R=>?_)
 refine SR (gK 2 [] [] ?_)
 refine NN (af.seq (SR (gK 2 [(7,.bool false)] [] ?_)))
 refine NN (CF (af.skip (NX (SR (gN 1 (fun b12=>[(4,vP b12)]) (fun _=>[]) (fun _=>[]) (fun b12=>.blk b12 [.pointer none] 92) (fun b12=>?_))))))
 refine NN (af.seq (SR (gK 2 [(8,.iface 40 (.int .i64 (n))),(9,.iface 119 (vP b12))] [] ?_)))
 refine gL [1] (Ob hE n b12 (.pointer none)) ?_
 rintro _ _ ⟨rfl,rfl⟩
 refine NN (CF (af.skip (NX (SR (gN 1 (fun b13=>[(5,vP b13)]) (fun _=>[]) (fun _=>[]) (fun b13=>.blk b13 [vI 0] 40) (fun b13=>?_))))))
 refine NN (af.seq (SR (gK 2 [(19,.iface 40 (.int .i64 (n))),(20,.iface 120 (vP b13))] [] ?_)))
 refine gL [2] (LC hE n b13 (.int .i64 0)) ?_
 rintro _ _ ⟨rfl,rfl⟩
 refine NN (CT (SR (gK 3 [(2,vI (n)),(3,vI 0)] [(0,a_ 0 b13)] ?_)))
 refine NN (af.ret (aj.aq ?_))
 exact RT (.tuple #[vI (n),vI 0]) [2] (⟨rfl,rfl⟩)
theorem FE {β:Bs} (hE:jl β) (e:Nat) (at_:Int) (nm:ByteArray) (n:Int) :
    Spec Tryz.prog β 21 #[.iface 92 (vP e)] [.blk e [vI (at_),.string nm,vI (n)] 94] (fun v l=>v=.tuple #[vI n,vI at_]/\l=[.blk e [vI (at_),.string nm,vI (n)] 94]):=by
 refine Spec.enter Tryz.func21 rfl Tryz.ntmps21 (Nat.le_of_ble_eq_true rfl) (fun R=>?_)
 refine SR (gK 2 [] [] ?_)
 refine NN (af.seq (SR (gK 2 [(7,.bool false)] [] ?_)))
 refine NN (CF (af.skip (NX (SR (gN 1 (fun b14=>[(4,vP b14)]) (fun _=>[]) (fun _=>[]) (fun b14=>.blk b14 [.pointer none] 92) (fun b14=>?_))))))
 refine NN (af.seq (SR (gK 2 [(8,.iface 92 (vP e)),(9,.iface 119 (vP b14))] [] ?_)))
 refine gL [2] (Oa hE e b14 (.pointer none)) ?_
 rintro _ _ ⟨rfl,rfl⟩
 refine NN (CT (af.seq (af.eP (by kernel_rfl) (by kernel_rfl) ?_)))
 refine gQ 10 [(2,vI (n)),(3,vI (at_))] [(0,a_ 0 b14),(3,a_ 1 e),(4,a_ 0 b14),(7,a_ 1 e)] ?_
 refine NQ (NX (af.ret (aj.aq ?_)))
 exact RT (.tuple #[vI (n),vI (at_)]) [1,2] (⟨rfl,rfl⟩)
theorem UR {β:Bs} (n k:Int) :
    Spec Tryz.prog β 47 #[.iface 40 (.int .i64 (n)),.iface 40 (.int .i64 (k)),.bool true] [] (fun v l=>v=.bool (decide (n=k))/\l=[]):=by
 refine Spec.enter Tryz.func47 rfl Tryz.ntmps47 (Nat.le_of_ble_eq_true rfl) (fun R=>?_)
 refine SR (gK 1 [] [] ?_)
 refine NN (af.block ?_)
 refine af.loop (ι:=Unit) (fun (u:Unit)=>True) (fun (u:Unit)=>0) (fun (u:Unit)=>[(0,.iface 40 (.int .i64 (n))),(1,.iface 40 (.int .i64 (k))),(2,.bool true)]) (fun (u:Unit)=>[.abs R]) () (idx:=[0,1,2]) (pk:=[0]) (show True from trivial) (fun _=>by kernel_rfl) rfl (by kernel_rfl) ?_
 rintro u _
 show af _ _ _ _ [(0,.iface 40 (.int .i64 (n))),(1,.iface 40 (.int .i64 (k))),(2,.bool true)] [.abs R] _
 refine af.block (af.seq (SR ?_))
 refine gK 6 [(19,.bool (decide ((n:Int)=(k:Int))))] [] ?_
 refine NN (af.aV (p:=(n:Int)=(k:Int)) (fun _=>by kernel_rfl) (fun Tk=>?_) (fun Tk=>?_))
 ·refine SR (gK 1 [(6,.bool true)] [] ?_)
  refine NN (af.ret (aj.aq (aj.aL (aj.aq (aj.aL ?_)))))
  exact RT (.bool true) [0] (⟨congrArg Value.bool (by simp_all),rfl⟩)
 refine af.skip (NX (af.seq (SR (gK 1 [(21,.iface 40 (.int .i64 (n)))] [] ?_))))
 refine ak.lacks (x:=(.tmp 21)) (t:=40) (v:=.int .i64 (n)) (xT:=57) (d:=(some 22)) (fun _=>by kernel_rfl) (fun _=>by kernel_rfl) Tryz.underlying197 (by kernel_rfl) (by kernel_rfl) ?_
 refine gK 5 [(7,.nilIface),(8,.bool false)] [] ?_
 refine NS (gK 6 [(30,.bool false)] [] ?_)
 refine NN (CF (af.skip (NX (SR (gK 1 [(31,.iface 40 (.int .i64 (n)))] [] ?_)))))
 refine NN (af.block (SR ?_))
 refine ak.lacks (x:=(.tmp 31)) (t:=40) (v:=.int .i64 (n)) (xT:=57) (d:=(some 32)) (fun _=>by kernel_rfl) (fun _=>by kernel_rfl) Tryz.underlying200 (by kernel_rfl) (by kernel_rfl) ?_
 refine gK 2 [(33,.bool false),(34,.nilIface)] [] ?_
 refine NN (CF (SR (ak.lacks (x:=(.tmp 31)) (t:=40) (v:=.int .i64 (n)) (xT:=57) (d:=(some 39)) (fun _=>by kernel_rfl) (fun _=>by kernel_rfl) Tryz.underlying202 (by kernel_rfl) (by kernel_rfl) ?_)))
 refine gK 2 [(40,.bool false),(41,.nilIface)] [] ?_
 refine NN (CF (SR (gK 1 [] [] ?_)))
 refine NS (gK 1 [(6,.bool false)] [] ?_)
 refine NN (af.ret (aj.aL (aj.aL (aj.aq (aj.aL ?_)))))
 exact RT (.bool false) [0] (⟨congrArg Value.bool (by simp_all),rfl⟩)
theorem VZ {β:Bs} (n k:Int) :
    Spec Tryz.prog β 24 #[.iface 40 (.int .i64 (n)),.iface 40 (.int .i64 (k))] [] (fun v l=>v=.bool (decide (n=k))/\l=[]):=by
 refine Spec.enter Tryz.func24 rfl Tryz.ntmps24 (Nat.le_of_ble_eq_true rfl) (fun R=>?_)
 refine SR (gK 1 [] [] ?_)
 refine NN (af.seq (SR (gK 6 [(11,.bool false)] [] ?_)))
 refine NN (CF (af.skip (NX (SR (gK 4 [(5,.bool true)] [] ?_)))))
 refine NS (gK 3 [(18,.iface 40 (.int .i64 (n))),(19,.iface 40 (.int .i64 (k))),(20,.bool true)] [] ?_)
 refine gL [] (UR n k) ?_
 rintro _ _ ⟨rfl,rfl⟩
 refine gK 1 [(4,.bool (decide (n=k)))] [] ?_
 refine NN (af.ret ?_)
 exact RT (.bool (decide (n=k))) [0] (⟨rfl,rfl⟩)
end
section
open Go.RowKit
def EB (P:Program) (β:Bs) (N:dD) (junk:Nat->Value) (ops:Array Oper) (fr:Fr) (k:Nat):Option (Deferred×Option Tmp):=
  match ops.toList[k]? with
  | some o=>
    match Region.wanted o (yF ops N fr junk) with
    | true=>
      match cC P β 0 true (execOp (dm N fr junk) o) ⟨[],[],[],true⟩ with
      | some (.defer d,_)=>some (d,o.dst)
      | _=>none
    | false=>none
  | none=>none
def qp (P:Program) (β:Bs) (f:FuncId) (args:Array Value) (pre:List HP) (post:Bs->Value->List HP->Prop):Prop:=
  ∀ (R:bV) (w:World),Sat β (pre++[.abs R]) w->CallsD P f args .returning w fun e u w'=>u=.returning/\sM β R post e w'
section df
variable {P:Program} {β:Bs} {N:dD} {ops:Array Oper} {k n0:Nat} {fr:Fr} {hps R pre rest:List HP} {Q:Post} {f:FuncId} {args:Array Value} {d:Deferred} {x:Option Tmp} {fn:Func} {c:Code} {post:Bs->Value->List HP->Prop} {w:World}
theorem Iw {junk:Nat->Value} (h:EB P β N junk ops fr k=some (d,x)):∃ o,ops.toList[k]?=some o/\Region.wanted o (yF ops N fr junk)=true/\o.dst=x ∧
    ∀ w,Sat β [] w->(execOp (dm N fr junk) o).run P w=.ok (.defer d) w:=by
  unfold EB at h
  repeat' split at h
  all_goals first|(cases h;done)|skip
  rename_i o h1 _ h2 _ d' S' h3
  cases h
  refine⟨o,h1,h2,rfl,fun w hS=>?_⟩
  have SL:=EF _ _ _ _ h3 rfl
  obtain⟨w',h4,_,_,h5⟩:=pJ _ _ _ _ w h3 (fun p hp=>by rw [SL] at hp;cases hp) hS (fun e=>by cases e)
  rw [h4,(h5 rfl).1]
theorem ak.defer (d:Deferred) (hc:∀ junk,EB P β N junk ops fr k=some (d,x)) (K:ak P β ⟨N.n,d::N.ds⟩ ops (k+1) (cY fr x undef) hps Q):ak P β N ops k fr hps Q:=by
  intro junk w hS
  obtain⟨o,h1,h2,rfl,h3⟩:=Iw (hc junk)
  rw [drop_cons h1]
  unfold wpList
  rw [dO,if_pos h2]
  refine .inl ?_
  unfold Oper.wp
  rw [dX,h3 w hS.nil,Oper.upon_defer]
  have e:({ bN N fr junk with defers:=d::(bN N fr junk).defers }:Act)=bN ⟨N.n,d::N.ds⟩ fr junk:=rfl
  rw [e,dM]
  exact K junk w hS
theorem qp.enter (hf:P.funcs[f]?=some fn) (hb:fn.body=some c) (hN:fn.ntmps=n0) (hl:args.toList.length<=n0) (h:β.le β->∀ R:bV,af P β ⟨n0,[]⟩ c (wq 0 args.toList) (pre++[.abs R]) (bodyPost P fn (sM β R post))):qp P β f args pre post:=by
  intro R w hS
  refine (callsD_of_wp (R:=sM β R post) hf hb ?_)
  rw [hN,ux hl]
  exact h hS.1.DJ R _ w hS
theorem bw.UU (hf:P.funcs[f]?=some fn) (hb:fn.body=some c) (hN:fn.ntmps=n0) (hl:args.toList.length<=n0) (h:β.le β->∀ R:bV,af P β ⟨n0,[]⟩ c (wq 0 args.toList) (pre++[.abs R]) (bodyPostD P fn (sM β R post))):bw P β f args pre post:=by
  intro R w hS
  refine calls_of_wp_defers hf hb ?_
  rw [hN,ux hl]
  exact h hS.1.DJ R _ w hS
theorem qp.use (h:qp P β f args pre post) (hS:Sat β (pre++rest) w):CallsD P f args .returning w fun e u w'=>u=.returning/\∃ β' v l,β.le β'/\e=.returned v/\post β' v l/\Sat β' (l++rest) w':=
  (h _ w hS.fC).mono fun _ _ _ ⟨h0,β',v,l,h1,h2,h3,h4⟩=>⟨h0,β',v,l,h1,h2,h3,h4.pN⟩
theorem LF {R:Ending->World->Prop} {junk:Nat->Value} (h:bodyPost P fn R .ret (bN ⟨n0,[]⟩ fr junk) w):Leaves P fn (bN ⟨n0,[]⟩ fr junk).tmps R [] .returning w:=h.2
theorem aj.door {rH:Bs} {fv:Fn} {cap dargs:Array Value} {A:bV} {W7:Bs->Value->List HP->Prop} (pk:List Nat) (hi:∀ w,(invoke (.fn fv cap) dargs).run P w=.ok (.enter f args) w) (hs:qp P β f args pre post) (hn:nodupB pk=true) (hp:bO hps pk=some (pre++rest))
    (K:∀ β' v l,β.le β'->post β' v l->aj β' ⟨n0,[]⟩ (bodyPost P fn (sM rH A W7)) .ret fr (l++rest)):aj β ⟨n0,[⟨.fn fv cap,dargs⟩]⟩ (bodyPostD P fn (sM rH A W7)) .ret fr hps:=by
  intro junk w hS
  refine leaves_cons (by intro e;cases e) (hi w) ?_
  refine (hs.use (hS.pick hn hp)).mono ?_
  rintro e u w' ⟨rfl,β',v,l,hle,rfl,hpost,cU⟩
  exact LF (K β' v l hle hpost junk w' cU)
end df
end
section
open Go.RowKit Go.Maps bC aE
attribute [local irreducible] ak aW af aj
theorem SF {β:Bs} {G:WG} {fs:List bh} {xs:List bM} {root:Int} {S:aI} {V:WV} {tr:List aB} (hrw:(Lit.int .i64 root).wf=true) (hI:Inv S) (hn:tr.length<=8388604) (hZ:fF β G.Z xs) (hX:dZ xs 1048576) (hg:dQ β) (cur:Int) (hw:(Lit.int .i64 cur).wf=true) (part:ByteArray) (hnm:part.size<=1048576) (mode:Int) {r:Lm} (hr:ck fs xs root S tr.length cur part mode=r) :
    bw Tryz.prog β 31 #[.agg #[.iface 39 (vP G.w)],vI (cur),.string part,vI (mode)] [wA G fs xs root S V tr] (fun _ v l=>∃ (V':WV) (eD:List aB),eD.length=r.n/\((r.code=0/\v=.tuple #[vI r.next,.bool r.made,.nilIface])\/(r.code≠0/\v=.tuple #[vI 0,.bool r.made,.iface 40 (.int .i64 r.code)]))/\l=[wA G fs xs root r.S V' eD]):=by
 refine bw.enter Tryz.func31 rfl Tryz.ntmps31 (Nat.le_of_ble_eq_true rfl) (fun hle0 R=>?_)
 refine SR (gN 4 (fun b1=>[(4,vP b1)]) (fun _=>[]) (fun _=>[]) (fun b1=>.blk b1 [.iface 39 (vP G.w)] 48) (fun b1=>?_))
 refine NS (gK 3 [(13,.agg #[.iface 39 (vP G.w)]),(14,vI (cur)),(15,.string part)] [(0,a_ 2 b1)] ?_)
 obtain⟨S1,c1,e1⟩:∃ Sx cx,aR fs xs root (tr.length+1) S (fk cur part)=(Sx,cx):=⟨_,_,rfl⟩
 refine ak.fH (d:=(some 16)) (R:=[.abs R,.blk b1 [.iface 39 (vP G.w)] 48]) (pk:=[0,1,2]) (fun _=>by kernel_rfl) (vz (β:=β) (G:=G) (V:=V) (tr:=tr) (S2:=S1) (c2:=c1) hrw hI (by omega) hZ hX hg cur hw part hnm e1) rfl (by kernel_rfl) ?_
 rintro EQ _ _ jY ⟨V1,Bb,rfl,rfl,ht1⟩
 replace hZ:=hZ.le jY
 replace hg:=hg.le jY
 replace hle0:=hle0.trans jY
 have bY:Inv S1:=by have h:=Inv.aR (fs:=fs) (xs:=xs) (root:=root) (n:=tr.length+1) (c:=fk cur part) hI;rw [e1] at h;exact h
 refine gK 5 [(8,vI (c1.answer)),(11,vI (c1.code))] [] ?_
 refine NN (af.seq (SR (gK 2 [(20,.bool (decide ((c1.code:Int)=(0:Int))))] [] ?_)))
 refine NN (af.aV (p:=(c1.code:Int)=(0:Int)) (fun _=>by kernel_rfl) (fun kg=>?_) (fun kg=>?_))
 ·refine SR (gK 4 [(8,vI (c1.answer)),(9,.bool false),(10,.nilIface)] [] ?_)
  refine NN (af.ret (aj.aq ?_))
  exact aj.gU (v:=.tuple #[vI (c1.answer),.bool false,.nilIface]) (l:=[wA G fs xs root S1 V1 Bb]) (aZ:=[]) [] [0,1] hle0 (fun _=>by kernel_rfl) trivial rfl (by kernel_rfl) (by subst hr;rw [xA e1 kg];exact⟨V1,Bb,ht1,.inl ⟨rfl,rfl⟩,rfl⟩)
 refine af.skip (NX (SR (gK 3 [(10,.iface 40 (.int .i64 (c1.code)))] [] ?_)))
 refine NN (af.seq (SR (gK 2 [(24,.iface 40 (.int .i64 (c1.code))),(25,.iface 40 (.int .i64 170))] [] ?_)))
 refine gL [] (VZ c1.code 170) ?_
 rintro _ _ ⟨rfl,rfl⟩
 refine gK 2 [(28,.bool (!(decide (c1.code=170))))] [] ?_
 refine ak.nH 28 (c1.code=170) (fun _=>by kernel_rfl) (fun Ff=>?_) (fun Ff=>?_)
 ·refine gK 3 [(31,.bool true)] [] ?_
  refine NN (CT (SR (gK 4 [(8,vI 0),(9,.bool false),(10,.iface 40 (.int .i64 (c1.code)))] [] ?_)))
  refine NN (af.ret (aj.aq ?_))
  exact aj.gU (v:=.tuple #[vI 0,.bool false,.iface 40 (.int .i64 (c1.code))]) (l:=[wA G fs xs root S1 V1 Bb]) (aZ:=[]) [] [0,1] hle0 (fun _=>by kernel_rfl) trivial rfl (by kernel_rfl) (by subst hr;rw [rV e1 kg (.inl Ff)];exact⟨V1,Bb,ht1,.inr ⟨kg,rfl⟩,rfl⟩)
 refine gK 3 [(31,.bool (decide ((mode:Int) < (0:Int))))] [] ?_
 refine NN (af.aV (p:=(mode:Int) < (0:Int)) (fun _=>by kernel_rfl) (fun Rz=>?_) (fun Rz=>?_))
 ·refine SR (gK 4 [(8,vI 0),(9,.bool false),(10,.iface 40 (.int .i64 (c1.code)))] [] ?_)
  refine NN (af.ret (aj.aq ?_))
  exact aj.gU (v:=.tuple #[vI 0,.bool false,.iface 40 (.int .i64 (c1.code))]) (l:=[wA G fs xs root S1 V1 Bb]) (aZ:=[]) [] [0,1] hle0 (fun _=>by kernel_rfl) trivial rfl (by kernel_rfl) (by subst hr;rw [rV e1 kg (.inr Rz)];exact⟨V1,Bb,ht1,.inr ⟨kg,rfl⟩,rfl⟩)
 refine af.skip (NX (SR (gK 4 [(33,.agg #[.iface 39 (vP G.w)]),(34,vI (cur)),(35,.string part),(36,vI (mode))] [(0,a_ 2 b1)] ?_)))
 obtain⟨S2,c2,e2⟩:∃ Sx cx,aR fs xs root (tr.length+2) S1 (rT cur part mode)=(Sx,cx):=⟨_,_,rfl⟩
 refine ak.fH (d:=(some 37)) (R:=[.abs R,.blk b1 [.iface 39 (vP G.w)] 48]) (pk:=[0,1,2]) (fun _=>by kernel_rfl) (N9 (β:=EQ) (G:=G) (V:=V1) (tr:=Bb) (S2:=S2) (c2:=c2) hrw bY (by omega) hZ hX hg cur hw part hnm mode (by rw [ht1];exact e2)) rfl (by kernel_rfl) ?_
 rintro Fk _ _ iz ⟨V2,Dv,rfl,rfl,ht2⟩
 replace hZ:=hZ.le iz
 replace hg:=hg.le iz
 replace hle0:=hle0.trans iz
 rw [ht1] at ht2
 have uj:Inv S2:=by have h:=Inv.aR (fs:=fs) (xs:=xs) (root:=root) (n:=tr.length+2) (c:=rT cur part mode) bY;rw [e2] at h;exact h
 refine gK 1 [(11,vI (c2.code))] [] ?_
 refine NS (gK 3 [(9,.bool (decide ((c2.code:Int)=(0:Int))))] [] ?_)
 refine NN (af.seq (SR (gK 3 [(42,.bool (!(decide ((c2.code:Int)=(0:Int)))))] [] ?_)))
 refine ak.nH 42 ((c2.code:Int)=(0:Int)) (fun _=>by kernel_rfl) (fun YV=>?_) (fun YV=>?_)
 ·refine gK 3 [(45,.bool (!(decide ((c2.code:Int)=(171:Int)))))] [] ?_
  refine NN (af.gT (p:=(c2.code:Int)=(171:Int)) (fun _=>by kernel_rfl) (fun YW=>?_) (fun YW=>?_))
  ·refine SR (gK 5 [(8,vI 0),(9,.bool false),(10,.iface 40 (.int .i64 (c2.code)))] [] ?_)
   refine NN (af.ret (aj.aq ?_))
   exact aj.gU (v:=.tuple #[vI 0,.bool false,.iface 40 (.int .i64 (c2.code))]) (l:=[wA G fs xs root S2 V2 Dv]) (aZ:=[]) [] [0,1] hle0 (fun _=>by kernel_rfl) trivial rfl (by kernel_rfl) (by subst hr;rw [zm e1 kg (by omega) e2 (by omega)];exact⟨V2,Dv,ht2,.inr ⟨by omega,rfl⟩,rfl⟩)
  refine af.skip (NX (af.seq (SR (gK 3 [(49,.agg #[.iface 39 (vP G.w)]),(50,vI (cur)),(51,.string part)] [(0,a_ 2 b1)] ?_))))
  obtain⟨S3,c3,e3⟩:∃ Sx cx,aR fs xs root (tr.length+3) S2 (fk cur part)=(Sx,cx):=⟨_,_,rfl⟩
  refine ak.fH (d:=(some 52)) (R:=[.abs R,.blk b1 [.iface 39 (vP G.w)] 48]) (pk:=[0,1,2]) (fun _=>by kernel_rfl) (vz (β:=Fk) (G:=G) (V:=V2) (tr:=Dv) (S2:=S3) (c2:=c3) hrw uj (by omega) hZ hX hg cur hw part hnm (by rw [ht2];exact e3)) rfl (by kernel_rfl) ?_
  rintro RA _ _ lN ⟨V3,ul,rfl,rfl,Ix⟩
  replace hZ:=hZ.le lN
  replace hg:=hg.le lN
  replace hle0:=hle0.trans lN
  rw [ht2] at Ix
  have YX:Inv S3:=by have h:=Inv.aR (fs:=fs) (xs:=xs) (root:=root) (n:=tr.length+3) (c:=fk cur part) uj;rw [e3] at h;exact h
  refine gK 5 [(8,vI (c3.answer)),(11,vI (c3.code))] [] ?_
  refine NS (gK 2 [(56,.bool (!(decide ((c3.code:Int)=(0:Int)))))] [] ?_)
  refine NN (af.gT (p:=(c3.code:Int)=(0:Int)) (fun _=>by kernel_rfl) (fun vX=>?_) (fun vX=>?_))
  ·refine SR (gK 6 [(8,vI 0),(9,.bool (decide ((c2.code:Int)=(0:Int)))),(10,.iface 40 (.int .i64 (c3.code)))] [] ?_)
   refine NN (af.ret (aj.aq ?_))
   exact aj.gU (v:=.tuple #[vI 0,.bool (decide ((c2.code:Int)=(0:Int))),.iface 40 (.int .i64 (c3.code))]) (l:=[wA G fs xs root S3 V3 ul]) (aZ:=[]) [] [0,1] hle0 (fun _=>by kernel_rfl) trivial rfl (by kernel_rfl) (by subst hr;rw [uM e1 kg (by omega) e2 (by omega) e3 vX];exact⟨V3,ul,Ix,.inr ⟨vX,rfl⟩,rfl⟩)
  refine af.skip (NX (SR (gK 5 [(8,vI (c3.answer)),(9,.bool (decide ((c2.code:Int)=(0:Int)))),(10,.nilIface)] [] ?_)))
  refine NN (af.ret ?_)
  exact aj.gU (v:=.tuple #[vI (c3.answer),.bool (decide ((c2.code:Int)=(0:Int))),.nilIface]) (l:=[wA G fs xs root S3 V3 ul]) (aZ:=[]) [] [0,1] hle0 (fun _=>by kernel_rfl) trivial rfl (by kernel_rfl) (by subst hr;rw [tY e1 kg (by omega) e2 (by omega) e3 vX];exact⟨V3,ul,Ix,.inl ⟨rfl,rfl⟩,rfl⟩)
 refine gK 3 [(45,.bool false)] [] ?_
 refine NN (CF (af.skip (NX (af.seq (SR (gK 3 [(49,.agg #[.iface 39 (vP G.w)]),(50,vI (cur)),(51,.string part)] [(0,a_ 2 b1)] ?_))))))
 obtain⟨S3,c3,e3⟩:∃ Sx cx,aR fs xs root (tr.length+3) S2 (fk cur part)=(Sx,cx):=⟨_,_,rfl⟩
 refine ak.fH (d:=(some 52)) (R:=[.abs R,.blk b1 [.iface 39 (vP G.w)] 48]) (pk:=[0,1,2]) (fun _=>by kernel_rfl) (vz (β:=Fk) (G:=G) (V:=V2) (tr:=Dv) (S2:=S3) (c2:=c3) hrw uj (by omega) hZ hX hg cur hw part hnm (by rw [ht2];exact e3)) rfl (by kernel_rfl) ?_
 rintro mV _ _ eY ⟨V3,ul,rfl,rfl,Ix⟩
 replace hZ:=hZ.le eY
 replace hg:=hg.le eY
 replace hle0:=hle0.trans eY
 rw [ht2] at Ix
 have YX:Inv S3:=by have h:=Inv.aR (fs:=fs) (xs:=xs) (root:=root) (n:=tr.length+3) (c:=fk cur part) uj;rw [e3] at h;exact h
 refine gK 5 [(8,vI (c3.answer)),(11,vI (c3.code))] [] ?_
 refine NS (gK 2 [(56,.bool (!(decide ((c3.code:Int)=(0:Int)))))] [] ?_)
 refine NN (af.gT (p:=(c3.code:Int)=(0:Int)) (fun _=>by kernel_rfl) (fun vX=>?_) (fun vX=>?_))
 ·refine SR (gK 6 [(8,vI 0),(9,.bool (decide ((c2.code:Int)=(0:Int)))),(10,.iface 40 (.int .i64 (c3.code)))] [] ?_)
  refine NN (af.ret (aj.aq ?_))
  exact aj.gU (v:=.tuple #[vI 0,.bool (decide ((c2.code:Int)=(0:Int))),.iface 40 (.int .i64 (c3.code))]) (l:=[wA G fs xs root S3 V3 ul]) (aZ:=[]) [] [0,1] hle0 (fun _=>by kernel_rfl) trivial rfl (by kernel_rfl) (by subst hr;rw [uM e1 kg (by omega) e2 (by omega) e3 vX];exact⟨V3,ul,Ix,.inr ⟨vX,rfl⟩,rfl⟩)
 refine af.skip (NX (SR (gK 5 [(8,vI (c3.answer)),(9,.bool (decide ((c2.code:Int)=(0:Int)))),(10,.nilIface)] [] ?_)))
 refine NN (af.ret ?_)
 exact aj.gU (v:=.tuple #[vI (c3.answer),.bool (decide ((c2.code:Int)=(0:Int))),.nilIface]) (l:=[wA G fs xs root S3 V3 ul]) (aZ:=[]) [] [0,1] hle0 (fun _=>by kernel_rfl) trivial rfl (by kernel_rfl) (by subst hr;rw [tY e1 kg (by omega) e2 (by omega) e3 vX];exact⟨V3,ul,Ix,.inl ⟨rfl,rfl⟩,rfl⟩)
theorem UW {β:Bs} (be bm bf bo bc bu:Nat) :
    qp Tryz.prog β 29 #[vP be,vP bm,vP bf,vP bo,vP bc,vP bu] [.blk be [.nilIface] 57] (fun _ v l=>v=.tuple #[]/\l=[.blk be [.nilIface] 57]):=by
 refine qp.enter Tryz.func29 rfl Tryz.ntmps29 (Nat.le_of_ble_eq_true rfl) (fun hle0 R=>?_)
 refine SR (gK 2 [(7,.bool false)] [(0,a_ 0 be)] ?_)
 refine NN (CF (af.skip ?_))
 exact aj.OG (v:=.tuple #[]) (l:=[.blk be [.nilIface] 57]) (aZ:=[]) [] [0,1] hle0 (fun _=>by kernel_rfl) trivial rfl (by kernel_rfl) (⟨rfl,rfl⟩)
theorem UX {β:Bs} (be bm bf bo bc bu:Nat) (e:Nat) (made:Int) (x1 x2 x3:Value) :
    qp Tryz.prog β 29 #[vP be,vP bm,vP bf,vP bo,vP bc,vP bu] [.blk be [.iface 92 (vP e)] 57,.blk bm [vI (made)] 3,.blk bf [x1,x2,x3] 55,.blk bo [.bool false] 4] (fun _ v l=>v=.tuple #[]/\l=[.blk be [.iface 92 (vP e)] 57,.blk bf [vI 0,.bool false,vI (made)] 55]):=by
 refine qp.enter Tryz.func29 rfl Tryz.ntmps29 (Nat.le_of_ble_eq_true rfl) (fun hle0 R=>?_)
 refine SR (gK 2 [(7,.bool true)] [(0,a_ 0 be)] ?_)
 refine NN (CT (SR (gC 3 [] [(0,a_ 1 bm),(2,A_ 2 bf 3)] [(2,[(0,vI 0),(1,.bool false),(2,vI (made))])] ?_)))
 refine NS (gK 1 [(10,.bool false)] [(0,a_ 3 bo)] ?_)
 refine NN (CF (af.skip ?_))
 exact aj.OG (v:=.tuple #[]) (l:=[.blk be [.iface 92 (vP e)] 57,.blk bf [vI 0,.bool false,vI (made)] 55]) (aZ:=[]) [] [0,2,4] hle0 (fun _=>by kernel_rfl) trivial rfl (by kernel_rfl) (⟨rfl,rfl⟩)
theorem Oc {β:Bs} {G:WG} {fs:List bh} {xs:List bM} {root:Int} {S:aI} {V:WV} {tr:List aB} (hrw:(Lit.int .i64 root).wf=true) (hI:Inv S) (hn:tr.length<=8388607) (hZ:fF β G.Z xs) (hX:dZ xs 1048576) (hg:dQ β) (be bm bf bo bc bu:Nat) (e:Nat) (made:Int) (x1 x2 x3:Value) (cur:Int) (hw:(Lit.int .i64 cur).wf=true) {S2:aI} {c2:aB} (eW:aR fs xs root (tr.length+1) S (eu cur)=(S2,c2)) :
    qp Tryz.prog β 29 #[vP be,vP bm,vP bf,vP bo,vP bc,vP bu] [.blk be [.iface 92 (vP e)] 57,.blk bm [vI (made)] 3,.blk bf [x1,x2,x3] 55,.blk bo [.bool true] 4,.blk bc [.iface 39 (vP G.w)] 48,.blk bu [vI (cur)] 3,wA G fs xs root S V tr] (fun _ v l=>∃ (V':WV) (eD:List aB),eD.length=tr.length+1/\v=.tuple #[]/\l=[.blk be [.iface 92 (vP e)] 57,.blk bf [vI 0,.bool false,vI (made)] 55]++[wA G fs xs root S2 V' eD]):=by
 refine qp.enter Tryz.func29 rfl Tryz.ntmps29 (Nat.le_of_ble_eq_true rfl) (fun hle0 R=>?_)
 refine SR (gK 2 [(7,.bool true)] [(0,a_ 0 be)] ?_)
 refine NN (CT (SR (gC 3 [] [(0,a_ 1 bm),(2,A_ 2 bf 3)] [(2,[(0,vI 0),(1,.bool false),(2,vI (made))])] ?_)))
 refine NS (gK 1 [(10,.bool true)] [(0,a_ 3 bo)] ?_)
 refine NN (CT (af.region (gK 2 [(11,.agg #[.iface 39 (vP G.w)]),(12,vI (cur))] [(0,a_ 4 bc),(1,a_ 5 bu)] ?_)))
 refine ak.fH (d:=(some 13)) (R:=[.blk be [.iface 92 (vP e)] 57,.blk bm [vI (made)] 3,.blk bf [vI 0,.bool false,vI (made)] 55,.blk bo [.bool true] 4,.blk bc [.iface 39 (vP G.w)] 48,.blk bu [vI (cur)] 3,.abs R]) (pk:=[6,0,1,2,3,4,5,7]) (fun _=>by kernel_rfl) (Fl (β:=β) (G:=G) (V:=V) (tr:=tr) (S2:=S2) (c2:=c2) hrw hI (by omega) hZ hX hg cur hw eW) rfl (by kernel_rfl) ?_
 rintro W6 _ _ pH ⟨V1,Bb,rfl,rfl,ht1⟩
 replace hZ:=hZ.le pH
 replace hg:=hg.le pH
 replace hle0:=hle0.trans pH
 refine NL ?_
 exact aj.OG (v:=.tuple #[]) (l:=[.blk be [.iface 92 (vP e)] 57,.blk bf [vI 0,.bool false,vI (made)] 55,wA G fs xs root S2 V1 Bb]) (aZ:=[]) [] [1,3,0,7] hle0 (fun _=>by kernel_rfl) trivial rfl (by kernel_rfl) (⟨V1,Bb,ht1,rfl,rfl⟩)
end
section
open Go.RowKit Go.Maps bC aE
attribute [local irreducible] ak aW af aj
theorem Al {β:Bs} {G:WG} {fs:List bh} {xs:List bM} {root:Int} {S0:aI} {V0:WV} {um:List aB} (hrw:(Lit.int .i64 root).wf=true) (hI:Inv S0) (hn:um.length<=100) (hZ:fF β G.Z xs) (hX:dZ xs 1048576) (hg:dQ β) (hE:jl β) (h:Int) (hw:(Lit.int .i64 h).wf=true) (A:Option Addr) (kz:Nat) (ps:List ByteArray) (hP:eU β A ps) (hpl:ps.length<=1048576) (hps:∀ i,i < ps.length->(pc ps i).size<=1048576) (mode:Int) {r:HM} (hr:fI fs xs root mode ps 0 S0 um.length h false 0=r) :
    bw Tryz.prog β 10 #[.agg #[.iface 39 (vP G.w)],vI (h),.slice A (ps.length) (kz),vI (mode)] [wA G fs xs root S0 V0 um] (fun _ v l=>∃ (V':WV) (eD:List aB),eD.length=r.n/\((r.code=0/\v=.tuple #[.agg #[vI r.cur,.bool r.own,vI r.made],.nilIface]/\l=[wA G fs xs root r.S V' eD])\/(r.code≠0/\∃ (e:Nat) (nm:ByteArray),v=.tuple #[.agg #[vI 0,.bool false,vI r.made],.iface 92 (vP e)]/\l=[wA G fs xs root r.S V' eD,.blk e [vI r.at_,.string nm,vI r.code] 94]))):=by
 refine bw.UU Tryz.func10 rfl Tryz.ntmps10 (Nat.le_of_ble_eq_true rfl) (fun hle0 R=>?_)
 refine SR (gN 1 (fun b1=>[(4,vP b1)]) (fun _=>[]) (fun _=>[]) (fun b1=>.blk b1 [.iface 39 (vP G.w)] 48) (fun b1=>?_))
 refine gN 1 (fun b2=>[(8,vP b2)]) (fun _=>[]) (fun _=>[]) (fun b2=>.blk b2 [vI 0,.bool false,vI 0] 55) (fun b2=>?_)
 refine gN 1 (fun b3=>[(9,vP b3)]) (fun _=>[]) (fun _=>[]) (fun b3=>.blk b3 [.nilIface] 57) (fun b3=>?_)
 refine NS (gN 2 (fun b4=>[(10,vP b4),(21,vI (h))]) (fun _=>[]) (fun _=>[]) (fun b4=>.blk b4 [vI 0] 3) (fun b4=>?_))
 refine gN 1 (fun b5=>[(11,vP b5)]) (fun _=>[]) (fun _=>[]) (fun b5=>.blk b5 [.bool false] 4) (fun b5=>?_)
 refine gN 4 (fun b6=>[(12,vP b6)]) (fun b6=>[(1,a_ 5 b4),(2,a_ 6 b5),(3,a_ 7 b6)]) (fun b6=>[(5,[(0,vI (h))])]) (fun b6=>.blk b6 [vI 0] 3) (fun b6=>?_)
 refine NS (gK 1 [(22,.func (.func 29) #[] #[vP b3,vP b6,vP b2,vP b5,vP b1,vP b4])] [] ?_)
 refine ak.defer (x:=none) ⟨.fn (.func 29) #[vP b3,vP b6,vP b2,vP b5,vP b1,vP b4],#[]⟩ (fun _=>by kernel_rfl) ?_
 refine NN (af.seq (SR (gK 3 [(23,.slice A (ps.length) (kz)),(24,vI ↑ps.length),(25,vI 0)] [] ?_)))
 refine NN (af.block ?_)
 refine af.QK (ι:=Nat×Bs×aI×WV×(List aB)×Int×Bool×Int) (fun ((i,b,S,V,tr,cur,own,made):Nat×Bs×aI×WV×(List aB)×Int×Bool×Int)=>b) (fun ((i,b,S,V,tr,cur,own,made):Nat×Bs×aI×WV×(List aB)×Int×Bool×Int)=>(i<=ps.length)/\(β.le b)/\(eU b A ps)/\(dQ b)/\(jl b)/\(fF b G.Z xs)/\(Inv S)/\((Lit.int .i64 cur).wf=true)/\(tr.length<=100+4 * i)/\(0<=made/\made<=i)/\(fI fs xs root mode (ps.drop i) (i:Int) S tr.length cur own made=r)) (fun ((i,b,S,V,tr,cur,own,made):Nat×Bs×aI×WV×(List aB)×Int×Bool×Int)=>ps.length - i) (fun ((i,b,S,V,tr,cur,own,made):Nat×Bs×aI×WV×(List aB)×Int×Bool×Int)=>[(3,vI (mode)),(4,vP b1),(8,vP b2),(9,vP b3),(10,vP b4),(11,vP b5),(12,vP b6),(23,.slice A (ps.length) (kz)),(24,vI ↑ps.length),(25,vI ↑i)]) (fun ((i,b,S,V,tr,cur,own,made):Nat×Bs×aI×WV×(List aB)×Int×Bool×Int)=>[.blk b1 [.iface 39 (vP G.w)] 48,.blk b2 [vI 0,.bool false,vI 0] 55,.blk b3 [.nilIface] 57,.blk b4 [vI (cur)] 3,.blk b5 [.bool own] 4,.blk b6 [vI (made)] 3,wA G fs xs root S V tr,.abs R]) (0,β,S0,V0,um,h,false,0) rfl (idx:=[3,4,8,9,10,11,12,23,24,25]) (pk:=[2,3,4,5,6,7,0,1]) (show (0<=ps.length)/\(β.le β)/\(eU β A ps)/\(dQ β)/\(jl β)/\(fF β G.Z xs)/\(Inv S0)/\((Lit.int .i64 h).wf=true)/\(um.length<=100+4 * 0)/\(0<=0/\0<=0)/\(fI fs xs root mode (ps.drop 0) (0:Int) S0 um.length h false 0=r) from ⟨Nat.zero_le _,hle0,hP,hg,hE,hZ,hI,hw,by omega,by omega,hr⟩) (fun _=>by kernel_rfl) rfl (by kernel_rfl) ?_
 rintro⟨i,b,S,V,tr,cur,own,made⟩ ⟨hi,hle0,hP,hg,hE,hZ,hI,hw,hn,hm,hr⟩
 show af _ b _ _ [(3,vI (mode)),(4,vP b1),(8,vP b2),(9,vP b3),(10,vP b4),(11,vP b5),(12,vP b6),(23,.slice A (ps.length) (kz)),(24,vI ↑ps.length),(25,vI ↑i)] [.blk b1 [.iface 39 (vP G.w)] 48,.blk b2 [vI 0,.bool false,vI 0] 55,.blk b3 [.nilIface] 57,.blk b4 [vI (cur)] 3,.blk b5 [.bool own] 4,.blk b6 [vI (made)] 3,wA G fs xs root S V tr,.abs R] _
 refine SR (gK 1 [(26,.bool (decide ((((i:Nat):Int):Int) < (((ps.length:Nat):Int):Int))))] [] ?_)
 refine NN (af.seq (af.aV (p:=(((i:Nat):Int):Int) < (((ps.length:Nat):Int):Int)) (fun _=>by kernel_rfl) (fun pX=>?_) (fun pX=>?_)))
 ·refine af.skip (NX (af.seq (af.block (SR ?_))))
  refine gK 5 [(13,vI ↑i),(14,.string (pc ps i))] [(1,p_ ⟨[],some i,none,some ⟨(ax A),av A,none⟩,none⟩ [((i:Nat):Int)=((i:Nat):Int),i < ps.length,(⟨(ax A),av A,none⟩:Addr).spot=none,(A:Option Addr)=some ⟨(ax A),av A,none⟩] ⟨rfl,by omega,rfl,eU.hd hP (j:=i) (by omega),trivial⟩),(2,p_ ⟨[.old (.string (pc ps i))],none,none,none,none⟩ [(Rd b ⟨(ax A),av A+i * 1,none⟩ (.string (pc ps i)))] ⟨eU.rd hP (by omega),trivial⟩)] ?_
  refine NS (gK 4 [(31,.agg #[.iface 39 (vP G.w)]),(32,vI (cur)),(33,.string (pc ps i)),(34,vI (mode))] [(0,a_ 0 b1),(1,a_ 3 b4)] ?_)
  obtain⟨a,ha⟩:∃ a,ck fs xs root S tr.length cur (pc ps i) mode=a:=⟨_,rfl⟩
  refine ak.fH (d:=(some 35)) (R:=[.blk b1 [.iface 39 (vP G.w)] 48,.blk b2 [vI 0,.bool false,vI 0] 55,.blk b3 [.nilIface] 57,.blk b4 [vI (cur)] 3,.blk b5 [.bool own] 4,.blk b6 [vI (made)] 3,.abs R]) (pk:=[6,0,1,2,3,4,5,7]) (fun _=>by kernel_rfl) (SF (β:=b) (G:=G) (V:=V) (tr:=tr) hrw hI (by omega) hZ hX hg cur hw (pc ps i) (hps i (by omega)) mode ha) rfl (by kernel_rfl) ?_
  rintro zA _ _ gI ⟨Va,vY,xS,(⟨hc,rfl⟩|⟨hc,rfl⟩),rfl⟩
  ·replace hP:=hP.le gI
   replace hg:=hg.le gI
   replace hE:=hE.le gI
   replace hZ:=hZ.le gI
   replace hle0:=hle0.trans gI
   have qu:Inv a.S:=by rw [← ha];exact xB hI
   have hna:a.n<=tr.length+3:=by rw [← ha];exact HY
   have Dw:(Lit.int .i64 a.next).wf=true:=by rw [← ha];exact J1 hI
   refine gK 7 [(15,vI (a.next)),(16,.bool a.made),(17,.nilIface)] [] ?_
   refine NN (af.join (ι:=Int) (fun (m2:Int)=>((if a.made=true then made+1 else made)=m2)) (fun (m2:Int)=>[(3,vI (mode)),(4,vP b1),(8,vP b2),(9,vP b3),(10,vP b4),(11,vP b5),(12,vP b6),(13,vI ↑i),(14,.string (pc ps i)),(15,vI (a.next)),(17,.nilIface),(23,.slice A (ps.length) (kz)),(24,vI ↑ps.length),(25,vI ↑i)]) (fun (m2:Int)=>[wA G fs xs root a.S Va vY,.blk b1 [.iface 39 (vP G.w)] 48,.blk b2 [vI 0,.bool false,vI 0] 55,.blk b3 [.nilIface] 57,.blk b4 [vI (cur)] 3,.blk b5 [.bool own] 4,.blk b6 [vI (m2)] 3,.abs R]) ?_ ?_)
   ·rintro m2 hm2
    show af _ _ _ _ [(3,vI (mode)),(4,vP b1),(8,vP b2),(9,vP b3),(10,vP b4),(11,vP b5),(12,vP b6),(13,vI ↑i),(14,.string (pc ps i)),(15,vI (a.next)),(17,.nilIface),(23,.slice A (ps.length) (kz)),(24,vI ↑ps.length),(25,vI ↑i)] [wA G fs xs root a.S Va vY,.blk b1 [.iface 39 (vP G.w)] 48,.blk b2 [vI 0,.bool false,vI 0] 55,.blk b3 [.nilIface] 57,.blk b4 [vI (cur)] 3,.blk b5 [.bool own] 4,.blk b6 [vI (m2)] 3,.abs R] _
    have RB:0<=m2/\m2<=i+1:=by rw [← hm2];split<;>omega
    refine af.seq (SR (gK 2 [(43,.bool false)] [] ?_))
    refine NN (CF (af.skip (NX (af.seq (SR (gK 1 [(56,.bool own)] [(0,a_ 5 b5)] ?_))))))
    refine NN (af.cond (b:=own) (fun _=>by kernel_rfl) (fun vX=>?_) (fun vX=>?_))
    ·subst vX
     refine SR (gK 2 [(57,.agg #[.iface 39 (vP G.w)]),(58,vI (cur))] [(0,a_ 1 b1),(1,a_ 4 b4)] ?_)
     obtain⟨Sb,cb,eb⟩:∃ Sx cx,aR fs xs root (a.n+1) a.S (eu cur)=(Sx,cx):=⟨_,_,rfl⟩
     refine ak.fH (d:=(some 59)) (R:=[.blk b1 [.iface 39 (vP G.w)] 48,.blk b2 [vI 0,.bool false,vI 0] 55,.blk b3 [.nilIface] 57,.blk b4 [vI (cur)] 3,.blk b5 [.bool true] 4,.blk b6 [vI (m2)] 3,.abs R]) (pk:=[0,1,2,3,4,5,6,7]) (fun _=>by kernel_rfl) (Fl (β:=zA) (G:=G) (V:=Va) (tr:=vY) (S2:=Sb) (c2:=cb) hrw qu (by omega) hZ hX hg cur hw (by rw [xS];exact eb)) rfl (by kernel_rfl) ?_
     rintro zB _ _ gq ⟨Vb,Od,rfl,rfl,htb⟩
     replace hP:=hP.le gq
     replace hg:=hg.le gq
     replace hE:=hE.le gq
     replace hZ:=hZ.le gq
     replace hle0:=hle0.trans gq
     have W8:Inv Sb:=by have h:=Inv.aR (fs:=fs) (xs:=xs) (root:=root) (n:=a.n+1) (c:=eu cur) qu;rw [eb] at h;exact h
     refine gK 1 [(20,vI (cb.code))] [] ?_
     refine NS (gK 2 [(61,.bool (!(decide ((cb.code:Int)=(0:Int)))))] [] ?_)
     refine NN (af.gT (p:=(cb.code:Int)=(0:Int)) (fun _=>by kernel_rfl) (fun RD=>?_) (fun RD=>?_))
     ·refine SR (gC 2 [] [(1,a_ 4 b4)] [(4,[(0,vI (a.next))])] ?_)
      refine NS (gN 9 (fun _=>[]) (fun b9=>[(7,A_ 2 b2 3),(8,a_ 3 b3)]) (fun b9=>[(3,[(0,.iface 92 (vP b9))])]) (fun b9=>.blk b9 [vI ↑i,.string (pc ps i),vI (cb.code)] 94) (fun b9=>?_))
      refine NN (af.ret (aj.aq (aj.aL (aj.aq (aj.aq (aj.aL (aj.aq ?_)))))))
      obtain⟨Sc,cc,ec⟩:∃ Sx cx,aR fs xs root (a.n+1+1) Sb (eu a.next)=(Sx,cx):=⟨_,_,rfl⟩
      refine aj.door (rest:=[.abs R,.blk b9 [vI ↑i,.string (pc ps i),vI (cb.code)] 94]) [3,6,2,5,1,4,0,7,8] (fun _=>by kernel_rfl) (Oc (β:=zB) (G:=G) (V:=Vb) (tr:=Od) hrw W8 (by omega) hZ hX hg b3 b6 b2 b5 b1 b4 b9 (m2) (.int .i64 0) (.bool false) (.int .i64 0) a.next Dw (S2:=Sc) (c2:=cc) (by rw [htb.trans (by rw [xS])];exact ec)) (by kernel_rfl) rfl ?_
      rintro Ez _ _ eX ⟨Vc,Oe,UY,rfl,rfl⟩
      replace hP:=hP.le eX
      replace hg:=hg.le eX
      replace hE:=hE.le eX
      replace hZ:=hZ.le eX
      replace hle0:=hle0.trans eX
      have hr2:r=⟨Sc,a.n+1+1,0,false,m2,cb.code,(i:Int)⟩:=by rw [← hr,pz (by omega),xu (by rw [ha];exact hc) rfl (by rw [ha,eb];exact RD),ha,eb,hm2];exact BS ec
      subst hr2
      exact aj.gU (v:=.tuple #[.agg #[vI 0,.bool false,vI (m2)],.iface 92 (vP b9)]) (l:=[wA G fs xs root Sc Vc Oe,.blk b9 [vI ↑i,.string (pc ps i),vI (cb.code)] 94]) (aZ:=[b3=b3,b2=b2,b2=b2,b2=b2]) [.at 1,.at 1,.at 1,.at 0] [2,4,3] hle0 (fun _=>by kernel_rfl) ⟨rfl,rfl,rfl,rfl,trivial⟩ rfl (by kernel_rfl) (⟨Vc,Oe,(by rw [UY,htb,xS]),.inr ⟨RD,b9,_,rfl,rfl⟩⟩)
     refine af.skip (NX (af.region (gC 3 [] [(1,a_ 4 b4),(2,a_ 5 b5)] [(4,[(0,vI (a.next))])] ?_)))
     refine NL (aj.aP (NX (af.region ?_)))
     refine gK 2 [(25,vI ↑(i+1))] [(0,p_ ⟨[],none,none,none,some (vI ↑(i+1))⟩ [(Value.int .i64 (IntKind.wrap .i64 (((i:Nat):Int)+1)))=(.int .i64 ↑(i+1))] ⟨bB (by omega) (by omega) (by omega),trivial⟩)] ?_
     refine NL ?_
     have hl2:Od.length=a.n+1:=(by rw [htb,xS])
     exact aj.Kt ((i+1),zB,Sb,Vb,Od,a.next,true,m2) (hb:=rfl) (idx:=[3,4,8,9,10,11,12,23,24,25]) (pk:=[1,2,3,4,5,6,0,7]) (show (((i+1))<=ps.length)/\(β.le zB)/\(eU zB A ps)/\(dQ zB)/\(jl zB)/\(fF zB G.Z xs)/\(Inv Sb)/\((Lit.int .i64 a.next).wf=true)/\(Od.length<=100+4 * ((i+1)))/\(0<=m2/\m2<=((i+1)))/\(fI fs xs root mode (ps.drop ((i+1))) (((i+1)):Int) Sb Od.length a.next true m2=r) from ⟨by omega,hle0,hP,hg,hE,hZ,W8,Dw,by omega,by omega,by rw [← hr,pz (ps:=ps) (j:=i) (by omega),uL (by rw [ha];exact hc) rfl (by rw [ha,eb];exact RD),ha,eb,hm2,hl2]⟩) (by show ps.length - ((i+1)) < ps.length - i;omega) (fun _=>by kernel_rfl) rfl (by kernel_rfl)
    subst vX
    refine af.skip (NX (af.region (gC 3 [] [(1,a_ 4 b4),(2,a_ 5 b5)] [(4,[(0,vI (a.next))]),(5,[(0,.bool true)])] ?_)))
    refine NL (aj.aP (NX (af.region ?_)))
    refine gK 2 [(25,vI ↑(i+1))] [(0,p_ ⟨[],none,none,none,some (vI ↑(i+1))⟩ [(Value.int .i64 (IntKind.wrap .i64 (((i:Nat):Int)+1)))=(.int .i64 ↑(i+1))] ⟨bB (by omega) (by omega) (by omega),trivial⟩)] ?_
    refine NL ?_
    have hl2:vY.length=a.n:=xS
    exact aj.Kt ((i+1),zA,a.S,Va,vY,a.next,true,m2) (hb:=rfl) (idx:=[3,4,8,9,10,11,12,23,24,25]) (pk:=[1,2,3,4,5,6,0,7]) (show (((i+1))<=ps.length)/\(β.le zA)/\(eU zA A ps)/\(dQ zA)/\(jl zA)/\(fF zA G.Z xs)/\(Inv a.S)/\((Lit.int .i64 a.next).wf=true)/\(vY.length<=100+4 * ((i+1)))/\(0<=m2/\m2<=((i+1)))/\(fI fs xs root mode (ps.drop ((i+1))) (((i+1)):Int) a.S vY.length a.next true m2=r) from ⟨by omega,hle0,hP,hg,hE,hZ,qu,Dw,by omega,by omega,by rw [← hr,pz (ps:=ps) (j:=i) (by omega),xw (by rw [ha];exact hc) (by decide),ha,hm2,hl2]⟩) (by show ps.length - ((i+1)) < ps.length - i;omega) (fun _=>by kernel_rfl) rfl (by kernel_rfl)
   refine SR (gK 1 [(39,.bool a.made)] [] ?_)
   refine NN (af.cond (b:=a.made) (fun _=>by kernel_rfl) (fun jt=>?_) (fun jt=>?_))
   ·refine af.region (gC 3 [] [(0,a_ 6 b6),(1,p_ ⟨[],none,none,none,some (vI (made+1))⟩ [(Value.int .i64 (IntKind.wrap .i64 (made+1)))=(.int .i64 (made+1))] ⟨bB (by omega) (by omega) (by omega),trivial⟩),(2,a_ 6 b6)] [(6,[(0,vI (made+1))])] ?_)
    refine NL ?_
    exact aj.meet ((made+1)) (idx:=[3,4,8,9,10,11,12,13,14,15,17,23,24,25]) (pk:=[0,1,2,3,4,5,6,7]) (show ((if a.made=true then made+1 else made)=((made+1))) from if_pos jt) (fun _=>by kernel_rfl) rfl (by kernel_rfl)
   refine af.skip ?_
   exact aj.meet made (idx:=[3,4,8,9,10,11,12,13,14,15,17,23,24,25]) (pk:=[0,1,2,3,4,5,6,7]) (show ((if a.made=true then made+1 else made)=made) from if_neg (by rw [jt];decide)) (fun _=>by kernel_rfl) rfl (by kernel_rfl)
  replace hP:=hP.le gI
  replace hg:=hg.le gI
  replace hE:=hE.le gI
  replace hZ:=hZ.le gI
  replace hle0:=hle0.trans gI
  have qu:Inv a.S:=by rw [← ha];exact xB hI
  have hna:a.n<=tr.length+3:=by rw [← ha];exact HY
  have Dw:(Lit.int .i64 a.next).wf=true:=by rw [← ha];exact J1 hI
  refine gK 7 [(15,vI 0),(16,.bool a.made),(17,.iface 40 (.int .i64 (a.code)))] [] ?_
  refine NN (af.join (ι:=Int) (fun (m2:Int)=>((if a.made=true then made+1 else made)=m2)) (fun (m2:Int)=>[(3,vI (mode)),(4,vP b1),(8,vP b2),(9,vP b3),(10,vP b4),(11,vP b5),(12,vP b6),(13,vI ↑i),(14,.string (pc ps i)),(15,vI 0),(17,.iface 40 (.int .i64 (a.code))),(23,.slice A (ps.length) (kz)),(24,vI ↑ps.length),(25,vI ↑i)]) (fun (m2:Int)=>[wA G fs xs root a.S Va vY,.blk b1 [.iface 39 (vP G.w)] 48,.blk b2 [vI 0,.bool false,vI 0] 55,.blk b3 [.nilIface] 57,.blk b4 [vI (cur)] 3,.blk b5 [.bool own] 4,.blk b6 [vI (m2)] 3,.abs R]) ?_ ?_)
  ·rintro m2 hm2
   show af _ _ _ _ [(3,vI (mode)),(4,vP b1),(8,vP b2),(9,vP b3),(10,vP b4),(11,vP b5),(12,vP b6),(13,vI ↑i),(14,.string (pc ps i)),(15,vI 0),(17,.iface 40 (.int .i64 (a.code))),(23,.slice A (ps.length) (kz)),(24,vI ↑ps.length),(25,vI ↑i)] [wA G fs xs root a.S Va vY,.blk b1 [.iface 39 (vP G.w)] 48,.blk b2 [vI 0,.bool false,vI 0] 55,.blk b3 [.nilIface] 57,.blk b4 [vI (cur)] 3,.blk b5 [.bool own] 4,.blk b6 [vI (m2)] 3,.abs R] _
   have RB:0<=m2/\m2<=i+1:=by rw [← hm2];split<;>omega
   refine af.seq (SR (gK 2 [(43,.bool true)] [] ?_))
   refine NN (CT (SR (gK 1 [(45,.iface 40 (.int .i64 (a.code)))] [] ?_)))
   refine gL [] (EA hE (a.code)) ?_
   rintro _ _ ⟨rfl,rfl⟩
   refine gK 5 [(18,vI (a.code))] [] ?_
   refine NS ?_
   rcases Bool.eq_false_or_eq_true own with rfl|rfl
   ·refine gN 9 (fun _=>[]) (fun b11=>[(7,A_ 2 b2 3),(8,a_ 3 b3)]) (fun b11=>[(3,[(0,.iface 92 (vP b11))])]) (fun b11=>.blk b11 [vI ↑i,.string (pc ps i),vI (a.code)] 94) (fun b11=>?_)
    refine NN (af.ret (aj.aq (aj.aL (aj.aq (aj.aq (aj.aL (aj.aq ?_)))))))
    obtain⟨Sc,cc,ec⟩:∃ Sx cx,aR fs xs root (a.n+1) a.S (eu cur)=(Sx,cx):=⟨_,_,rfl⟩
    refine aj.door (rest:=[.abs R,.blk b11 [vI ↑i,.string (pc ps i),vI (a.code)] 94]) [3,6,2,5,1,4,0,7,8] (fun _=>by kernel_rfl) (Oc (β:=zA) (G:=G) (V:=Va) (tr:=vY) hrw qu (by omega) hZ hX hg b3 b6 b2 b5 b1 b4 b11 (m2) (.int .i64 0) (.bool false) (.int .i64 0) cur hw (S2:=Sc) (c2:=cc) (by rw [xS];exact ec)) (by kernel_rfl) rfl ?_
    rintro Qr _ _ jc ⟨Vc,Oe,UY,rfl,rfl⟩
    replace hP:=hP.le jc
    replace hg:=hg.le jc
    replace hE:=hE.le jc
    replace hZ:=hZ.le jc
    replace hle0:=hle0.trans jc
    have hr2:r=⟨Sc,a.n+1,0,false,m2,a.code,(i:Int)⟩:=by rw [← hr,pz (by omega),rU (by rw [ha];exact hc),ha,hm2];exact BS ec
    subst hr2
    exact aj.gU (v:=.tuple #[.agg #[vI 0,.bool false,vI (m2)],.iface 92 (vP b11)]) (l:=[wA G fs xs root Sc Vc Oe,.blk b11 [vI ↑i,.string (pc ps i),vI (a.code)] 94]) (aZ:=[b3=b3,b2=b2,b2=b2,b2=b2]) [.at 1,.at 1,.at 1,.at 0] [2,4,3] hle0 (fun _=>by kernel_rfl) ⟨rfl,rfl,rfl,rfl,trivial⟩ rfl (by kernel_rfl) (⟨Vc,Oe,(by rw [UY,xS]),.inr ⟨hc,b11,_,rfl,rfl⟩⟩)
   refine gN 9 (fun _=>[]) (fun b13=>[(7,A_ 2 b2 3),(8,a_ 3 b3)]) (fun b13=>[(3,[(0,.iface 92 (vP b13))])]) (fun b13=>.blk b13 [vI ↑i,.string (pc ps i),vI (a.code)] 94) (fun b13=>?_)
   refine NN (af.ret (aj.aq (aj.aL (aj.aq (aj.aq (aj.aL (aj.aq ?_)))))))
   refine aj.door (rest:=[wA G fs xs root a.S Va vY,.blk b1 [.iface 39 (vP G.w)] 48,.blk b4 [vI (cur)] 3,.abs R,.blk b13 [vI ↑i,.string (pc ps i),vI (a.code)] 94]) [3,6,2,5,0,1,4,7,8] (fun _=>by kernel_rfl) (UX b3 b6 b2 b5 b1 b4 b13 (m2) (.int .i64 0) (.bool false) (.int .i64 0)) (by kernel_rfl) rfl ?_
   rintro UQ _ _ jd ⟨rfl,rfl⟩
   replace hP:=hP.le jd
   replace hg:=hg.le jd
   replace hE:=hE.le jd
   replace hZ:=hZ.le jd
   replace hle0:=hle0.trans jd
   have hr2:r=⟨a.S,a.n,0,false,m2,a.code,(i:Int)⟩:=by rw [← hr,pz (by omega),rU (by rw [ha];exact hc),ha,hm2];exact HZ
   subst hr2
   exact aj.gU (v:=.tuple #[.agg #[vI 0,.bool false,vI (m2)],.iface 92 (vP b13)]) (l:=[wA G fs xs root a.S Va vY,.blk b13 [vI ↑i,.string (pc ps i),vI (a.code)] 94]) (aZ:=[b3=b3,b2=b2,b2=b2,b2=b2]) [.at 1,.at 1,.at 1,.at 0] [2,6,5] hle0 (fun _=>by kernel_rfl) ⟨rfl,rfl,rfl,rfl,trivial⟩ rfl (by kernel_rfl) (⟨Va,vY,xS,.inr ⟨hc,b13,_,rfl,rfl⟩⟩)
  refine SR (gK 1 [(39,.bool a.made)] [] ?_)
  refine NN (af.cond (b:=a.made) (fun _=>by kernel_rfl) (fun jt=>?_) (fun jt=>?_))
  ·refine af.region (gC 3 [] [(0,a_ 6 b6),(1,p_ ⟨[],none,none,none,some (vI (made+1))⟩ [(Value.int .i64 (IntKind.wrap .i64 (made+1)))=(.int .i64 (made+1))] ⟨bB (by omega) (by omega) (by omega),trivial⟩),(2,a_ 6 b6)] [(6,[(0,vI (made+1))])] ?_)
   refine NL ?_
   exact aj.meet ((made+1)) (idx:=[3,4,8,9,10,11,12,13,14,15,17,23,24,25]) (pk:=[0,1,2,3,4,5,6,7]) (show ((if a.made=true then made+1 else made)=((made+1))) from if_pos jt) (fun _=>by kernel_rfl) rfl (by kernel_rfl)
  refine af.skip ?_
  exact aj.meet made (idx:=[3,4,8,9,10,11,12,13,14,15,17,23,24,25]) (pk:=[0,1,2,3,4,5,6,7]) (show ((if a.made=true then made+1 else made)=made) from if_neg (by rw [jt];decide)) (fun _=>by kernel_rfl) rfl (by kernel_rfl)
 refine af.exit (aj.aU (aj.aU (aj.cK (NX (SR ?_)))))
 refine gC 6 [] [(0,a_ 3 b4),(1,a_ 4 b5),(2,a_ 5 b6),(4,A_ 1 b2 3),(5,a_ 2 b3)] [(1,[(0,vI (cur)),(1,.bool own),(2,vI (made))])] ?_
 refine NN (af.ret (aj.door (rest:=[.blk b1 [.iface 39 (vP G.w)] 48,.blk b2 [vI (cur),.bool own,vI (made)] 55,.blk b4 [vI (cur)] 3,.blk b5 [.bool own] 4,.blk b6 [vI (made)] 3,wA G fs xs root S V tr,.abs R]) [2,0,1,3,4,5,6,7] (fun _=>by kernel_rfl) (UW b3 b6 b2 b5 b1 b4) (by kernel_rfl) rfl ?_))
 rintro UZ _ _ iN ⟨rfl,rfl⟩
 replace hP:=hP.le iN
 replace hg:=hg.le iN
 replace hE:=hE.le iN
 replace hZ:=hZ.le iN
 replace hle0:=hle0.trans iN
 have hi2:i=ps.length:=by omega
 have hr2:r=⟨S,tr.length,cur,own,made,0,0⟩:=by rw [← hr,hi2,List.drop_length,zk]
 subst hr2
 exact aj.gU (v:=.tuple #[.agg #[vI (cur),.bool own,vI (made)],.nilIface]) (l:=[wA G fs xs root S V tr]) (aZ:=[b3=b3,b2=b2,b2=b2,b2=b2]) [.at 2,.at 2,.at 2,.at 0] [6,7] hle0 (fun _=>by kernel_rfl) ⟨rfl,rfl,rfl,rfl,trivial⟩ rfl (by kernel_rfl) (⟨V,tr,rfl,.inl ⟨rfl,rfl,rfl⟩⟩)
end
section
open Go.RowKit Go.Maps bC aE
abbrev kN (id:Int):aB:=⟨1,0,id,⟨#[]⟩,⟨#[]⟩,none,0,[],0,0,0,0,0,0,0⟩
section h
variable {fs:List bh} {xs:List bM} {root:Int} {S S1 S2:aI} {c1 c2:aB} {n:Nat} {cur mode made i h:Int} {own:Bool} {p:ByteArray} {t:Th}
theorem qV {us:Used Th} {k:Int} {t:Th} (e:aE.get us k=some t):k∈keys us:=List.mem_map.2 ⟨_,get_mem e,rfl⟩
theorem Og {name:ByteArray} (e:aR fs xs root n S (rT h name mode)=(S2,c2)):S2.us=S.us/\S2.aD=S.aD:=by
  have hu:=oO (root:=root) (S:=S) (xs:=bn xs n)
  rcases og (fs:=fs) (xs:=xs) (root:=root) (n:=n) (S:=S) (c:=rT h name mode) (by show (4:Int)≠1;decide) (by show (4:Int)≠9;decide) with h1|⟨k,hk,h1⟩
  ·rw [h1] at e
   unfold bK at e
   rw [sU (c:={ rT h name mode with answer:=0,code:=230 }) rfl] at e
   unfold fU at e
   split at e
   ·cases e;exact hu
   split at e
   ·unfold fX at e
    split at e<;>(cases e;exact hu)
   cases e;exact hu
  rw [h1] at e
  cases e
  exact hu
theorem zC (e:aR fs xs root n S (eu h)=(S2,c2)) (hg:aE.get S.us h=some t):S2.us=del h S.us/\S2.aD=S.aD:=by
  have hu:=oO (root:=root) (S:=S) (xs:=bn xs n)
  have hd:(bK (eE root S (bn xs n)) (eu h)).1.us=del h S.us/\(bK (eE root S (bn xs n)) (eu h)).1.aD=S.aD:=by
    unfold bK
    rw [p6 (c:={ eu h with answer:=0,code:=230 }) rfl]
    unfold ja
    rw [show aE.get (eE root S (bn xs n)).us ({ eu h with answer:=0,code:=230 }:aB).handle=some t by rw [hu.1];exact hg]
    exact⟨by rw [← hu.1],hu.2⟩
  rcases og (fs:=fs) (xs:=xs) (root:=root) (n:=n) (S:=S) (c:=eu h) (by show (13:Int)≠1;decide) (by show (13:Int)≠9;decide) with h1|⟨k,hk,h1⟩
  ·rw [h1] at e
   rw [e] at hd
   exact hd
  rw [h1,if_pos (show (eu h).op=13 from rfl)] at e
  cases e
  exact hd
structure Held (S:aI) (cur:Int) (own:Bool):Prop where
  inv:Inv S
  len:S.us.length=if own=true then 2 else 1
  cur:own=true->∃ t,aE.get S.us cur=some t
  pk:S.aD<=3
theorem Held.LG (h:Held S cur own) (e:aR fs xs root n S c1=(S2,c2)):Inv S2:=by
  have:=h.inv.aR (fs:=fs) (xs:=xs) (root:=root) (n:=n) (c:=c1);rw [e] at this;exact this
structure LH (S:aI) (cur:Int) (own:Bool) (a:Lm):Prop where
  ok:a.code=0->a.S.us.length=(if own=true then 3 else 2)/\(own=true->∃ t,aE.get a.S.us cur=some t)/\(∃ t,aE.get a.S.us a.next=some t)/\(own=true->a.next≠cur)
  bad:a.code≠0->Held a.S cur own
  pk:a.S.aD<=3
  made:a.made=true->mode < 0->False
theorem Fo (hl:S.us.length=if own=true then 2 else 1) (hI:Inv S) (hc:own=true->∃ t,aE.get S.us cur=some t) (hpk:S.aD<=3) {name:ByteArray} (e:aR fs xs root n S (fk h name)=(S2,c2)) :
    (c2.code=0->S2.us.length=(if own=true then 3 else 2)/\(own=true->∃ t,aE.get S2.us cur=some t)/\(∃ t,aE.get S2.us c2.answer=some t)/\(own=true->c2.answer≠cur))/\(c2.code≠0->S2.us=S.us)/\S2.aD<=3:=by
  rcases vu e with ⟨h1,t,h2,h3,h4⟩|⟨h1,h2,h3,h4⟩
  ·obtain⟨g1,g2,_⟩:=least_le hI.usr (fun x hx=>(hI.sE x hx).1)
   refine⟨fun _=>⟨?_,fun ho=>?_,⟨t,?_⟩,fun ho hq=>?_⟩,fun hn=>absurd h1 hn,?_⟩
   ·rw [h3,iw,hl];split<;>rfl
   ·obtain⟨u,hu⟩:=hc ho
    refine⟨u,?_⟩
    rw [h3,lf g2,if_neg (fun hq:cur=aE.least S.us=>g2 (hq ▸ qV hu))]
    exact hu
   ·rw [h3,h2,lf g2,if_pos rfl]
   ·obtain⟨u,hu⟩:=hc ho
    rw [h2] at hq
    exact g2 (hq ▸ qV hu)
   rw [h4,hl]
   split<;>omega
  exact⟨fun hn=>absurd hn h1,fun _=>h3,by rw [h4];exact hpk⟩
theorem Held.step (hh:Held S cur own):LH (mode:=mode) S cur own (ck fs xs root S n cur p mode):=by
  obtain⟨S1,c1,e1⟩:∃ Sx cx,aR fs xs root (n+1) S (fk cur p)=(Sx,cx):=⟨_,_,rfl⟩
  obtain⟨a1,a2,a3⟩:=Fo hh.len hh.inv hh.cur hh.pk e1
  have i1:=hh.LG e1
  by_cases h1:c1.code=0
  ·rw [xA e1 h1]
   exact⟨fun _=>a1 h1,fun h=>absurd rfl h,a3,fun h=>absurd h Bool.false_ne_true⟩
  have u1:=a2 h1
  have Kk:Held S1 cur own:=⟨i1,by rw [u1];exact hh.len,by rw [u1];exact hh.cur,a3⟩
  by_cases h2:¬ c1.code=170\/mode < 0
  ·rw [rV e1 h1 h2]
   exact⟨fun h=>absurd h h1,fun _=>Kk,a3,fun h=>absurd h Bool.false_ne_true⟩
  obtain⟨S2,c2,e2⟩:∃ Sx cx,aR fs xs root (n+2) S1 (rT cur p mode)=(Sx,cx):=⟨_,_,rfl⟩
  obtain⟨b1,b2⟩:=Og e2
  have sI:Held S2 cur own:=⟨Kk.LG e2,by rw [b1];exact Kk.len,by rw [b1];exact Kk.cur,by rw [b2];exact a3⟩
  by_cases h3:¬ c2.code=0/\¬ c2.code=171
  ·rw [zm e1 h1 h2 e2 h3]
   exact⟨fun h=>absurd h h3.1,fun _=>sI,sI.pk,fun h=>absurd h Bool.false_ne_true⟩
  obtain⟨S3,c3,e3⟩:∃ Sx cx,aR fs xs root (n+3) S2 (fk cur p)=(Sx,cx):=⟨_,_,rfl⟩
  obtain⟨d1,d2,d3⟩:=Fo sI.len sI.inv sI.cur sI.pk e3
  have hm:mode < 0->False:=fun h=>h2 (.inr h)
  by_cases h4:c3.code=0
  ·rw [tY e1 h1 h2 e2 h3 e3 h4]
   exact⟨fun _=>d1 h4,fun h=>absurd rfl h,d3,fun _=>hm⟩
  rw [uM e1 h1 h2 e2 h3 e3 h4]
  have u3:=d2 h4
  exact⟨fun h=>absurd h h4,fun _=>⟨sI.LG e3,by rw [u3];exact sI.len,by rw [u3];exact sI.cur,d3⟩,d3,fun _=>hm⟩
theorem Held.close (hI:Inv S) (hl:S.us.length=3) (hg:∃ t,aE.get S.us cur=some t) {next:Int} (hn:∃ t,aE.get S.us next=some t) (hne:next≠cur) (hpk:S.aD<=3) (e:aR fs xs root n S (eu cur)=(S2,c2)):Held S2 next true:=by
  obtain⟨t,hg⟩:=hg
  obtain⟨u,hn⟩:=hn
  obtain⟨h1,h2⟩:=zC e hg
  refine⟨by have:=hI.aR (fs:=fs) (xs:=xs) (root:=root) (n:=n) (c:=eu cur);rw [e] at this;exact this,?_,fun _=>⟨u,?_⟩,by rw [h2];exact hpk⟩
  ·have:=nL hI.usr (qV hg)
   rw [h1]
   show _=2
   omega
  rw [h1,o7,if_neg hne];exact hn
structure RG (mode:Int) (len:Nat) (n0:Nat) (h:Int) (r:HM):Prop where
  inv:Inv r.S
  pk:r.S.aD<=3
  made:0<=r.made/\r.made<=len
  m0:mode < 0->r.made=0
  n:r.n<=4 * len+1+n0
  bad:r.code≠0->r.S.us.length=1
  ok:r.code=0->Held r.S r.cur r.own/\(r.own=decide (0 < len))/\(r.own=false->r.cur=h)
theorem Held.fail (hh:Held S cur own) {code at_:Int} (_Z2:code≠0):(mR fs xs root S n cur own made code at_).S.us.length=1/\Inv (mR fs xs root S n cur own made code at_).S/\(mR fs xs root S n cur own made code at_).S.aD<=3/\(mR fs xs root S n cur own made code at_).made=made/\(mR fs xs root S n cur own made code at_).code=code/\(mR fs xs root S n cur own made code at_).n<=n+1:=by
  obtain⟨S2,c2,e2⟩:∃ Sx cx,aR fs xs root (n+1) S (eu cur)=(Sx,cx):=⟨_,_,rfl⟩
  cases own with
  | false=>rw [HZ];exact⟨hh.len,hh.inv,hh.pk,rfl,rfl,Nat.le_succ n⟩
  | true=>
    rw [BS e2]
    obtain⟨t,hg⟩:=hh.cur rfl
    obtain⟨h1,h2⟩:=zC e2 hg
    refine⟨?_,hh.LG e2,by show S2.aD<=3;rw [h2];exact hh.pk,rfl,rfl,Nat.le_refl _⟩
    have h3:=nL hh.inv.usr (qV hg)
    have h4:S.us.length=2:=hh.len
    show S2.us.length=1
    rw [h1]
    omega
theorem uW {h0:Int} {n0 len:Nat}:∀ (r:List ByteArray) (i:Int) (S:aI) (n:Nat) (cur:Int) (own:Bool) (made:Int),Held S cur own->0<=made->made+r.length<=len->(mode < 0->made=0)->(own=true->n+4 * r.length<=4 * len+n0/\r.length < len)->(own=false->n=n0/\r.length=len/\cur=h0)->RG mode len n0 h0 (fI fs xs root mode r i S n cur own made)
  | [],i,S,n,cur,own,made,hh,hm,hml,hm0,hn,hf=>by
    rw [zk]
    simp only [List.length_nil] at hml hn hf
    refine⟨hh.inv,hh.pk,⟨hm,by show made<=_;omega⟩,hm0,?_,fun h=>absurd rfl h,fun _=>⟨hh,?_,fun ho=>(hf ho).2.2⟩⟩
    ·show n<=_
     cases own with
     | true=>have:=(hn rfl).1;omega
     | false=>have:=(hf rfl).1;omega
    show own=_
    cases own with
    | true=>have:=(hn rfl).2;exact (decide_eq_true (by omega)).symm
    | false=>have:=(hf rfl).2.1;exact (decide_eq_false (by omega)).symm
  | p::r,i,S,n,cur,own,made,hh,hm,hml,hm0,hn,hf=>by
    obtain⟨a,ha⟩:∃ a,ck fs xs root S n cur p mode=a:=⟨_,rfl⟩
    have hs:LH (mode:=mode) S cur own a:=by rw [← ha];exact hh.step
    have hna:a.n<=n+3:=by rw [← ha];exact HY
    have qu:Inv a.S:=by rw [← ha];exact xB hh.inv
    obtain⟨m2,hm2⟩:∃ m2,(if a.made=true then made+1 else made)=m2:=⟨_,rfl⟩
    have RB:0<=m2/\m2<=made+1:=by rw [← hm2];split<;>omega
    have RH:mode < 0->m2=0:=fun hq=>by
      rw [← hm2,if_neg (fun h=>hs.made h hq)];exact hm0 hq
    rw [List.length_cons] at hml hn hf
    have hnn:n+4 * (r.length+1)<=4 * len+n0:=by
      cases own with
      | true=>exact (hn rfl).1
      | false=>have:=hf rfl;omega
    by_cases hc:a.code=0
    ·obtain⟨o1,o2,o3,o4⟩:=hs.ok hc
     by_cases ho:own=true
     ·subst ho
      obtain⟨S2,c2,e2⟩:∃ Sx cx,aR fs xs root (a.n+1) a.S (eu cur)=(Sx,cx):=⟨_,_,rfl⟩
      have h2:Held S2 a.next true:=Held.close qu o1 (o2 rfl) o3 (o4 rfl) hs.pk e2
      by_cases hc2:c2.code=0
      ·rw [uL (by rw [ha];exact hc) rfl (by rw [ha,e2];exact hc2),ha,e2,hm2]
       exact uW r _ _ _ _ _ _ h2 RB.1 (by omega) RH (fun _=>⟨by omega,by omega⟩) (fun h=>absurd h (by decide))
      rw [xu (by rw [ha];exact hc) rfl (by rw [ha,e2];exact hc2),ha,e2,hm2]
      show RG mode len n0 h0 (mR fs xs root S2 (a.n+1) a.next true m2 c2.code i)
      obtain⟨f1,f2,f3,f4,f5,f6⟩:=h2.fail (fs:=fs) (xs:=xs) (root:=root) (n:=a.n+1) (made:=m2) (at_:=i) hc2
      exact⟨f2,f3,by rw [f4];omega,by rw [f4];exact RH,by omega,fun _=>f1,fun h=>absurd (f5.symm.trans h) hc2⟩
     have ho:own=false:=by simpa using ho
     subst ho
     rw [xw (by rw [ha];exact hc) (by decide),ha,hm2]
     have:=hf rfl
     exact uW r _ _ _ _ _ _ ⟨qu,o1,fun _=>o3,hs.pk⟩ RB.1 (by omega) RH (fun _=>⟨by omega,by omega⟩) (fun h=>absurd h (by decide))
    rw [rU (by rw [ha];exact hc),ha,hm2]
    obtain⟨f1,f2,f3,f4,f5,f6⟩:=(hs.bad hc).fail (fs:=fs) (xs:=xs) (root:=root) (n:=a.n) (made:=m2) (at_:=i) hc
    exact⟨f2,f3,by rw [f4];omega,by rw [f4];exact RH,by omega,fun _=>f1,fun h=>absurd (f5.symm.trans h) hc⟩
end h
end
section
open Go.RowKit Go.Maps bC aE
section e
variable {β:Bs} {fs:List bh} {xs:List bM} {root:Int} {ns:List aG} {X:FM}
abbrev newP (β:Bs) (B:Option Addr) (ns:List aG) (Bf:Option Addr) (bf:Nat) (fs:List bh) (Ba:Option Addr) (ba:Nat) (xs:List bM):List HP:=[.abs (lE β (fun β'=>∃ K,aF β' B ns K)),.abs (aK 139 2 Bf fs.length bf (bQ fP fs)),.abs (aK 136 5 Ba xs.length ba (bQ gu xs))]
abbrev Qv (B:Option Addr) (n cp:Nat) (root:Int) (X:FM) (Bf:Option Addr) (nf bf:Nat) (Ba:Option Addr) (na ba:Nat):Array Value:=#[.agg #[.slice B n cp],.int .i64 root,.agg #[.int .i64 X.cN,.int .i64 X.cB,.int .i64 X.cH,.int .i64 X.cS,.int .i64 X.cZ],.agg #[.slice Bf nf bf,.slice Ba na ba]]
theorem Iy {Bf Ba:Option Addr} (B:Option Addr) (cp:Nat) (hB:iA ns 1048576) (bf ba:Nat) (mG:je fs 2097152) (hab:dZ xs 1048576) :
    bw Tryz.prog β 26 (Qv B ns.length cp root X Bf fs.length bf Ba xs.length ba) (newP β B ns Bf bf fs Ba ba xs) (fun β' v l=>(dh X ns root≠0/\v=.tuple #[.pointer none,.int .i64 (dh X ns root)]/\l=[])\/(dh X ns root=0/\∃ (N:uh X ns) (G:WG) (V:WV),v=.tuple #[vP G.w,.int .i64 0]/\l=[wA G fs xs root N.1 V []]/\fF β' G.Z xs)):=
  bw.K6 fun β1 _ ⟨K,hG⟩=>bw.Uf fun EQ hL=>by
    obtain⟨F,h1,h2⟩:=hL.get 0 rfl
    obtain⟨F',h1',h2'⟩:=hL.get 1 rfl
    exact SE B cp (hG.le hL.le) hB bf ba (cF.jx h1 h2 rfl) mG (cF.jx h1' h2' rfl) hab
theorem Qw (h0:dh X ns root=0) {Bf Ba:Option Addr} (B:Option Addr) (cp:Nat) (hB:iA ns 1048576) (bf ba:Nat) (mG:je fs 2097152) (hab:dZ xs 1048576) :
    Spec Tryz.prog β 26 (Qv B ns.length cp root X Bf fs.length bf Ba xs.length ba) (newP β B ns Bf bf fs Ba ba xs) (fun v l=>∃ (N:uh X ns) (G:WG) (V:WV),v=.tuple #[vP G.w,.int .i64 0]/\l=[.abs (lE β (fun β'=>fF β' G.Z xs)),wA G fs xs root N.1 V []]):=
  (bw.Q5 (ι:=uh X ns×WG×WV) (vv:=fun x=>.tuple #[vP x.2.1.w,.int .i64 0]) (ll:=fun x=>[wA x.2.1 fs xs root x.1.1 x.2.2 []]) (Φ:=fun x β'=>fF β' x.2.1.Z xs)
    ((Iy (X:=X) B cp hB bf ba mG hab).mono (by
      rintro β' v l _ (⟨h,_⟩|⟨_,N,G,V,h1,h2,h3⟩)
      ·exact absurd h0 h
      exact⟨(N,G,V),h1,h2,h3⟩))).mono (by rintro v l ⟨⟨N,G,V⟩,h1,h2⟩;exact⟨N,G,V,h1,h2⟩)
theorem Oh (h0:¬ dh X ns root=0) {Bf Ba:Option Addr} (B:Option Addr) (cp:Nat) (hB:iA ns 1048576) (bf ba:Nat) (mG:je fs 2097152) (hab:dZ xs 1048576) :
    Spec Tryz.prog β 26 (Qv B ns.length cp root X Bf fs.length bf Ba xs.length ba) (newP β B ns Bf bf fs Ba ba xs) (fun v l=>v=.tuple #[.pointer none,.int .i64 (dh X ns root)]/\l=[]):=
  ((Iy (X:=X) B cp hB bf ba mG hab).mono (by
      rintro β' v l _ (⟨_,h1,h2⟩|⟨h,_⟩)
      ·exact⟨h1,h2⟩
      exact absurd h h0)).C3
end e
end
section
open Go.RowKit Go.Maps bC aE
attribute [local irreducible] ak aW af aj
noncomputable abbrev Iz (b1:Nat) (A:Option Addr) (ns:List aG) (c) (root) (X:FM) (Af) (fs:List bh) (cf) (Aa) (xs:List bM) (ca):=(.blk b1 [.slice A (ns.length) (c),vI (root),vI (X.cN),vI (X.cB),vI (X.cH),vI (X.cS),vI (X.cZ),.slice Af (fs.length) (cf),.slice Aa (xs.length) (ca)] 34:HP)
noncomputable abbrev RI (B)(ns:List aG) (cp) (root) (X:FM):=([(6,.agg #[.slice B (ns.length) (cp)]),(8,vI (root)),(10,.agg #[vI (X.cN),vI (X.cB),vI (X.cH),vI (X.cS),vI (X.cZ)])]:Fr)
noncomputable abbrev W9 (root)(X:FM):=([(8,vI (root)),(10,.agg #[vI (X.cN),vI (X.cB),vI (X.cH),vI (X.cS),vI (X.cZ)])]:Fr)
theorem Fq {β:Bs} (A:Option Addr) (c:Nat) (ns:List aG) (Y:Lay) (hG:aF β A ns Y) (hB:iA ns 1048576) (X:FM) (root:Int) (Af:Option Addr) (cf:Nat) (fs:List bh) (hF:cF β Af (bQ fP fs)) (mG:je fs 2097152) (Aa:Option Addr) (ca:Nat) (xs:List bM) (hA:cF β Aa (bQ gu xs)) (hab:dZ xs 1048576) :
    bw Tryz.prog β 8 #[.agg #[.slice A (ns.length) (c),vI (root),vI (X.cN),vI (X.cB),vI (X.cH),vI (X.cS),vI (X.cZ),.slice Af (fs.length) (cf),.slice Aa (xs.length) (ca)]] [] (fun β' v l=>(dh X ns root≠0/\v=.tuple #[.pointer none,vI (dh X ns root)]/\l=[])\/(dh X ns root=0/\∃ (N:uh X ns) (G:WG) (V:WV),v=.tuple #[vP G.w,vI 0]/\l=[wA G fs xs root N.1 V []]/\fF β' G.Z xs)):=by
 refine bw.enter Tryz.func8 rfl Tryz.ntmps8 (Nat.le_of_ble_eq_true rfl) (fun hle0 R=>?_)
 refine SR (gN 3 (fun b1=>[(1,vP b1)]) (fun _=>[]) (fun _=>[]) (fun b1=>.blk b1 [.slice A (ns.length) (c),vI (root),vI (X.cN),vI (X.cB),vI (X.cH),vI (X.cS),vI (X.cZ),.slice Af (fs.length) (cf),.slice Aa (xs.length) (ca)] 34) (fun b1=>?_))
 refine NN (af.seq ?_)
 by_cases h0:dh X ns root=0
 ·refine af.qi (S:=[Iz b1 A ns c root X Af fs cf Aa xs ca]) [(true,0),(true,1),(true,3),(true,4),(true,5),(true,6),(true,7),(true,8),(false,2),(false,9),(false,10),(true,11),(true,12),(true,13),(false,14)] [1] (by kernel_rfl) (by kernel_rfl) rfl (by kernel_rfl) ?_
  refine gG [(false,2),(false,9),(false,10),(true,11),(true,12),(true,13),(false,14)] ([(5,.agg #[.slice A (ns.length) (c)])]++W9 root X++[(12,.agg #[.slice Af (fs.length) (cf),.slice Aa (xs.length) (ca)])]) [0,1,3,4,5,6,7,8] [(1,a_ 0 b1),(3,a_ 0 b1),(5,A_ 0 b1 5),(7,A_ 0 b1 2)] ?_
  refine fo.cut (ι:=(Option Addr)×Nat) (fr':=fun ((B,cp):(Option Addr)×Nat)=>(RI B ns cp root X++[(12,.agg #[.slice Af (fs.length) (cf),.slice Aa (xs.length) (ca)])])) (hp':=fun ((B,cp):(Option Addr)×Nat)=>[.abs (lE β (fun β'=>∃ K,aF β' B ns K)),.abs R,Iz b1 A ns c root X Af fs cf Aa xs ca]) [2] (by kernel_rfl) ?_ rfl (fun _=>by kernel_rfl) ?_
  ·refine gL [] (x9 (β:=β) A c ns Y hG (zT hB) (FQ hB)) ?_
   rintro _ _ ⟨B,cp,rfl,rfl⟩
   refine NL ?_
   exact MD (B,cp) [6,8,10,12] [0,1,2]
  rintro⟨B,cp⟩
  refine fo.cut (ι:=(Option Addr)×Nat×(Option Addr)×Nat) (fr':=fun ((Bf,bf,Ba,ba):(Option Addr)×Nat×(Option Addr)×Nat)=>(RI B ns cp root X++[(13,.agg #[.slice Bf (fs.length) (bf),.slice Ba (xs.length) (ba)])])) (hp':=fun ((Bf,bf,Ba,ba):(Option Addr)×Nat×(Option Addr)×Nat)=>[.abs (aK 139 2 Bf fs.length bf (bQ fP fs)),.abs (aK 136 5 Ba xs.length ba (bQ gu xs)),.abs (lE β (fun β'=>∃ K,aF β' B ns K)),.abs R,Iz b1 A ns c root X Af fs cf Aa xs ca]) [4] (by kernel_rfl) ?_ rfl (fun _=>by kernel_rfl) ?_
  ·refine gL [] (yc (β:=β) Af cf fs hF mG.len Aa ca xs hA (Nat.le_trans hab.len (by decide))) ?_
   rintro _ _ ⟨Bf,bf,Ba,ba,rfl,rfl⟩
   refine NL ?_
   exact MD (Bf,bf,Ba,ba) [6,8,10,13] [0,1,2,3,4]
  rintro⟨Bf,bf,Ba,ba⟩
  refine fo.cut (ι:=(uh X ns)×WG×WV) (fr':=fun ((N,G,V):(uh X ns)×WG×WV)=>[(14,.tuple #[vP G.w,vI 0])]) (hp':=fun ((N,G,V):(uh X ns)×WG×WV)=>[.abs (lE β (fun β'=>fF β' G.Z xs)),wA G fs xs root N.1 V ([]),.abs R,.blk b1 [.slice A (ns.length) (c),vI (root),vI (X.cN),vI (X.cB),vI (X.cH),vI (X.cS),vI (X.cZ),.slice Af (fs.length) (cf),.slice Aa (xs.length) (ca)] 34]) [3] (by kernel_rfl) ?_ rfl (fun _=>by kernel_rfl) ?_
  ·refine gL [2,0,1] (Qw (β:=β) (X:=X) (Bf:=Bf) (Ba:=Ba) h0 B cp hB bf ba mG hab) ?_
   rintro _ _ ⟨N,G,V,rfl,rfl⟩
   refine NL ?_
   exact MD (N,G,V) [14] [0,1,2,3]
  rintro⟨N,G,V⟩
  refine gG [(false,14)] [(2,vP G.w),(16,vI 0)] [11,12,13] [] ?_
  refine fo.last (by kernel_rfl) ?_
  refine gK 1 [(3,vI 0)] [] ?_
  refine NL (aj.np (NX (af.ret ?_)))
  refine aj.G9 0 [1,2,3] (dw:=[wA G fs xs root N.1 V ([]),.abs R,.blk b1 [.slice A (ns.length) (c),vI (root),vI (X.cN),vI (X.cB),vI (X.cH),vI (X.cS),vI (X.cZ),.slice Af (fs.length) (cf),.slice Aa (xs.length) (ca)] 34]) rfl (by kernel_rfl) rfl (fun EQ jY hz=>?_)
  replace hG:=hG.le jY
  replace hF:=hF.le jY
  replace hA:=hA.le jY
  replace hle0:=hle0.trans jY
  exact aj.gU (v:=.tuple #[vP G.w,vI 0]) (l:=[wA G fs xs root N.1 V ([])]) (aZ:=[]) [] [0,1] hle0 (fun _=>by kernel_rfl) trivial rfl (by kernel_rfl) (.inr ⟨h0,N,G,V,rfl,rfl,hz⟩)
 refine af.qi (S:=[Iz b1 A ns c root X Af fs cf Aa xs ca]) [(true,0),(true,1),(true,3),(true,4),(true,5),(true,6),(true,7),(true,8),(false,2),(false,9),(false,10),(true,11),(true,12),(true,13),(false,14)] [1] (by kernel_rfl) (by kernel_rfl) rfl (by kernel_rfl) ?_
 refine gG [(false,2),(false,9),(false,10),(true,11),(true,12),(true,13),(false,14)] ([(5,.agg #[.slice A (ns.length) (c)])]++W9 root X++[(12,.agg #[.slice Af (fs.length) (cf),.slice Aa (xs.length) (ca)])]) [0,1,3,4,5,6,7,8] [(1,a_ 0 b1),(3,a_ 0 b1),(5,A_ 0 b1 5),(7,A_ 0 b1 2)] ?_
 refine fo.cut (ι:=(Option Addr)×Nat) (fr':=fun ((B,cp):(Option Addr)×Nat)=>(RI B ns cp root X++[(12,.agg #[.slice Af (fs.length) (cf),.slice Aa (xs.length) (ca)])])) (hp':=fun ((B,cp):(Option Addr)×Nat)=>[.abs (lE β (fun β'=>∃ K,aF β' B ns K)),.abs R,Iz b1 A ns c root X Af fs cf Aa xs ca]) [2] (by kernel_rfl) ?_ rfl (fun _=>by kernel_rfl) ?_
 ·refine gL [] (x9 (β:=β) A c ns Y hG (zT hB) (FQ hB)) ?_
  rintro _ _ ⟨B,cp,rfl,rfl⟩
  refine NL ?_
  exact MD (B,cp) [6,8,10,12] [0,1,2]
 rintro⟨B,cp⟩
 refine fo.cut (ι:=(Option Addr)×Nat×(Option Addr)×Nat) (fr':=fun ((Bf,bf,Ba,ba):(Option Addr)×Nat×(Option Addr)×Nat)=>(RI B ns cp root X++[(13,.agg #[.slice Bf (fs.length) (bf),.slice Ba (xs.length) (ba)])])) (hp':=fun ((Bf,bf,Ba,ba):(Option Addr)×Nat×(Option Addr)×Nat)=>[.abs (aK 139 2 Bf fs.length bf (bQ fP fs)),.abs (aK 136 5 Ba xs.length ba (bQ gu xs)),.abs (lE β (fun β'=>∃ K,aF β' B ns K)),.abs R,Iz b1 A ns c root X Af fs cf Aa xs ca]) [4] (by kernel_rfl) ?_ rfl (fun _=>by kernel_rfl) ?_
 ·refine gL [] (yc (β:=β) Af cf fs hF mG.len Aa ca xs hA (Nat.le_trans hab.len (by decide))) ?_
  rintro _ _ ⟨Bf,bf,Ba,ba,rfl,rfl⟩
  refine NL ?_
  exact MD (Bf,bf,Ba,ba) [6,8,10,13] [0,1,2,3,4]
 rintro⟨Bf,bf,Ba,ba⟩
 refine fo.cut (ι:=Unit) (fr':=fun (_:Unit)=>[(14,.tuple #[.pointer none,vI (dh X ns root)])]) (hp':=fun (_:Unit)=>[.abs R,Iz b1 A ns c root X Af fs cf Aa xs ca]) [1] (by kernel_rfl) ?_ rfl (fun _=>by kernel_rfl) ?_
 ·refine gL [2,0,1] (Oh (β:=β) (X:=X) (Bf:=Bf) (Ba:=Ba) h0 B cp hB bf ba mG hab) ?_
  rintro _ _ ⟨rfl,rfl⟩
  refine NL ?_
  exact MD () [14] [0,1]
 rintro _
 refine gG [(false,14)] [(2,.pointer none),(16,vI ((dh X ns root)))] [11,12,13] [] ?_
 refine fo.last (by kernel_rfl) ?_
 refine gK 1 [(3,vI ((dh X ns root)))] [] ?_
 refine NL (aj.np (NX (af.ret ?_)))
 exact aj.gU (v:=.tuple #[.pointer none,vI ((dh X ns root))]) (l:=[]) (aZ:=[]) [] [0] hle0 (fun _=>by kernel_rfl) trivial rfl (by kernel_rfl) (.inl ⟨h0,rfl,rfl⟩)
end
section
open Go.RowKit Go.Maps bC aE
theorem U0:jQ (Ij 99):=St (by decide)
structure ZG (S:aI):Prop where
  inv:Inv S
  idx:S.idx=[(1,⟨1,2⟩)]
  us:S.us=[]
  X:S.X=⟨9,99,9,0,0,1,0,0⟩
  o1:∃ l u,obj S.O 1=⟨1,493,0,0,0,0,l,0,false,2,[],⟨#[]⟩,[],u⟩
section v
variable {S:aI}
end v
end
section
open Go.RowKit Go.Maps bC aE
section f
variable {β:Bs} {fs:List bh} {xs:List bM} {root:Int} {ns:List aG} {X:FM}
theorem Dx {ns:List aG} (h0:dh X ns root=0) (A:Option Addr) (c:Nat) (Y:Lay) (hG:aF β A ns Y) (hB:iA ns 1048576) (Af:Option Addr) (cf:Nat) (fs:List bh) (hF:cF β Af (bQ fP fs)) (mG:je fs 2097152) (Aa:Option Addr) (ca:Nat) (xs:List bM) (hA:cF β Aa (bQ gu xs)) (hab:dZ xs 1048576) :
    bw Tryz.prog β 8 #[Eb A ns.length c root X Af fs.length cf Aa xs.length ca] [] (fun β' v l=>∃ (N:uh X ns) (G:WG) (V:WV),v=.tuple #[vP G.w,.int .i64 0]/\l=[wA G fs xs root N.1 V []]/\fF β' G.Z xs):=
  (Fq A c ns Y hG hB X root Af cf fs hF mG Aa ca xs hA hab).mono (by
    rintro β' v l _ (⟨h,_⟩|⟨_,h⟩)
    ·exact absurd h0 h
    exact h)
theorem LI {ns:List aG} (h0:¬ dh X ns root=0) (A:Option Addr) (c:Nat) (Y:Lay) (hG:aF β A ns Y) (hB:iA ns 1048576) (Af:Option Addr) (cf:Nat) (fs:List bh) (hF:cF β Af (bQ fP fs)) (mG:je fs 2097152) (Aa:Option Addr) (ca:Nat) (xs:List bM) (hA:cF β Aa (bQ gu xs)) (hab:dZ xs 1048576) :
    bw Tryz.prog β 8 #[Eb A ns.length c root X Af fs.length cf Aa xs.length ca] [] (fun _ v l=>v=.tuple #[.pointer none,.int .i64 (dh X ns root)]/\l=[]):=
  (Fq A c ns Y hG hB X root Af cf fs hF mG Aa ca xs hA hab).mono (by
    rintro β' v l _ (⟨_,h1,h2⟩|⟨h,_⟩)
    ·exact⟨h1,h2⟩
    exact absurd h h0)
theorem F6:dZ [] 1048576:=⟨by decide,fun a ha=>by cases ha⟩
end f
end
section
open Go.RowKit Go.Maps bC aE
section w
variable {β:Bs} {G:WG} {fs:List bh} {xs:List bM} {root:Int} {S S1:aI} {V:WV} {tr:List aB} {c1:aB} {n:Nat} {id h:Int}
theorem uX:∀ F w,(fC (wP G fs xs root S V tr)).h F w->w.cell? ⟨G.w,0,none⟩=some (.iface 39 (vP G.w)):=by
  rintro F w ⟨φ,h1,_,_⟩
  exact (gj (h1 0 _ rfl).1 rfl rfl rfl).1
theorem Qx (hrw:(Lit.int .i64 root).wf=true) (hI:Inv S) (hZ:fF β G.Z xs) (hX:dZ xs 1048576) (hg:dQ β) (id:Int) (how:(Lit.int .i64 id).wf=true) (hW:aR fs xs root 1 S (kN id)=(S1,c1)) :
    bw Tryz.prog β 9 #[.agg #[.iface 39 (vP G.w)],.int .i64 id] [wA G fs xs root S V []] (fun _ v l=>∃ (V':WV) (q:{ l:List aB // l.length=1 }),v=.tuple #[.int .i64 c1.answer,.int .i64 c1.code]/\l=[wA G fs xs root S1 V' q.1]):=
  (Iu (β:=β) (G:=G) (V:=V) (tr:=[]) (S2:=S1) (c2:=c1) hrw hI (by decide) hZ hX hg id how hW).mono (by
    rintro _ v l _ ⟨V',eD,h1,h2,h3⟩
    exact⟨V',⟨eD,h3⟩,h1,h2⟩)
abbrev xI (G:WG) (h:Int) (A:Option Addr) (n pc:Nat) (mode:Int):Array Value:=#[.agg #[.iface 39 (vP G.w)],.int .i64 h,.slice A n pc,.int .i64 mode]
variable {r:HM} {A:Option Addr} {kz:Nat} {ps:List ByteArray} {mode:Int}
theorem Oi (hc:r.code=0) (hrw:(Lit.int .i64 root).wf=true) (hI:Inv S) (hn:tr.length=n) (hn2:n<=100) (hZ:fF β G.Z xs) (hX:dZ xs 1048576) (hg:dQ β) (hE:jl β) (hw:(Lit.int .i64 h).wf=true) (hP:eU β A ps) (hpl:ps.length<=1048576) (hps:∀ i,i < ps.length->(pc ps i).size<=1048576) (hr:fI fs xs root mode ps 0 S n h false 0=r) :
    bw Tryz.prog β 10 (xI G h A ps.length kz mode) [wA G fs xs root S V tr] (fun _ v l=>∃ (V':WV) (q:{ l:List aB // l.length=r.n }),v=.tuple #[.agg #[.int .i64 r.cur,.bool r.own,.int .i64 r.made],.nilIface]/\l=[wA G fs xs root r.S V' q.1]):=
  (Al (V0:=V) (r:=r) hrw hI (by omega) hZ hX hg hE h hw A kz ps hP hpl hps mode (by rw [hn];exact hr)).mono (by
    rintro _ v l _ ⟨V',eD,h1,(⟨_,h2,h3⟩|⟨h2,_⟩)⟩
    ·exact⟨V',⟨eD,h1⟩,h2,h3⟩
    exact absurd hc h2)
theorem LJ (hc:¬ r.code=0) (hrw:(Lit.int .i64 root).wf=true) (hI:Inv S) (hn:tr.length=n) (hn2:n<=100) (hZ:fF β G.Z xs) (hX:dZ xs 1048576) (hg:dQ β) (hE:jl β) (hw:(Lit.int .i64 h).wf=true) (hP:eU β A ps) (hpl:ps.length<=1048576) (hps:∀ i,i < ps.length->(pc ps i).size<=1048576) (hr:fI fs xs root mode ps 0 S n h false 0=r) :
    bw Tryz.prog β 10 (xI G h A ps.length kz mode) [wA G fs xs root S V tr] (fun _ v l=>∃ (V':WV) (q:{ l:List aB // l.length=r.n }) (e:Nat) (nm:ByteArray),v=.tuple #[.agg #[.int .i64 0,.bool false,.int .i64 r.made],.iface 92 (vP e)]/\l=[wA G fs xs root r.S V' q.1,.blk e [.int .i64 r.at_,.string nm,.int .i64 r.code] 94]):=
  (Al (V0:=V) (r:=r) hrw hI (by omega) hZ hX hg hE h hw A kz ps hP hpl hps mode (by rw [hn];exact hr)).mono (by
    rintro _ v l _ ⟨V',eD,h1,(⟨h2,_⟩|⟨_,e,nm,h2,h3⟩)⟩
    ·exact absurd h2 hc
    exact⟨V',⟨eD,h1⟩,e,nm,h2,h3⟩)
theorem Oj (hI:Inv S) (iJ:S.us=[]) (hpk:S.aD=0) (e:aR fs xs root n S (kN id)=(S1,c1)) (h0:c1.code=0):Held S1 h false/\c1.answer=1:=by
  have bY:Inv S1:=by have:=hI.aR (fs:=fs) (xs:=xs) (root:=root) (n:=n) (c:=kN id);rw [e] at this;exact this
  have hu:=oO (root:=root) (S:=S) (xs:=bn xs n)
  have key:∀ (S':aI) (c:aB),c.op=1->S'.us=[]->S'.aD=0->(bK S' c).2.code=0->(bK S' c).1.us.length=1/\(bK S' c).1.aD<=3/\(bK S' c).2.answer=1:=by
    intro S' c hop hu hp hc
    have hm:cV S' { c with answer:=0,code:=230 }=jk S' { c with answer:=0,code:=230 }:=sS (c:={ c with answer:=0,code:=230 }) hop
    unfold bK at hc ⊢
    rw [hm] at hc ⊢
    unfold jk at hc ⊢
    cases hq:aE.get S'.idx ({ c with answer:=0,code:=230 }:aB).other with
    | none=>rw [hq] at hc;exact absurd hc (by show ¬ (141:Int)=0;decide)
    | some t=>
      rw [hq] at hc
      simp only at hc ⊢
      by_cases hk:t.kind=2
      ·rw [if_pos hk] at hc ⊢
       by_cases hl:(S'.us.length:Int) < S'.X.cH
       ·rw [jf hl] at hc ⊢
        refine⟨?_,?_,?_⟩
        ·show (ins _ _ _).length=1
         rw [iw,hu];rfl
        ·show max S'.aD _<=3
         rw [hu,hp];decide
        show aE.least S'.us=1
        rw [hu];rfl
       rw [jT hl] at hc
       exact absurd hc (by show ¬ (130:Int)=0;decide)
      rw [if_neg hk] at hc
      exact absurd hc (by show ¬ (173:Int)=0;decide)
  unfold aR bD at e
  split at e
  ·cases e;exact absurd h0 (by rw [sX.1];decide)
  split at e
  ·cases e;exact absurd h0 (by rw [sX.1];decide)
  split at e
  ·rename_i q
   rw [Hg] at q
   exact absurd (show (1:Int)=9 from q.2.1) (by decide)
  have:=key (eE root S (bn xs n)) (mq root (kN id)) (by rw [Hg]) (hu.1.trans iJ) (hu.2.trans hpk) (by rw [e];exact h0)
  rw [e] at this
  exact⟨⟨bY,this.1,(fun h=>by cases h),this.2.1⟩,this.2.2⟩
end w
end
section
open Go.RowKit Go.Maps bC aE
def Qy:aG:=⟨1,2,493,0,0,0,0,[],⟨#[]⟩,[⟨⟨#[97]⟩,2⟩,⟨⟨#[115]⟩,3⟩]⟩
def XY:aG:=⟨2,2,493,0,0,0,0,[],⟨#[]⟩,[]⟩
def XZ:aG:=⟨3,3,0,0,0,0,0,[],⟨#[97]⟩,[]⟩
def vZ:List aG:=[Qy,XY,XZ]
theorem IB {i:Nat} (h:i < vZ.length):i=0\/i=1\/i=2:=by
  have h:i < 3:=h
  omega
theorem V5:bp vZ:=by
  refine⟨by decide,fun i hi=>?_,fun i hi=>?_,fun i j hij hj=>?_,by decide,fun i hi j hj=>?_,by decide,fun z=>?_⟩
  ·rcases IB hi with rfl|rfl|rfl
   ·exact⟨by decide,by decide,by decide,by decide,uT,fun _=>rfl,fun h=>absurd rfl h,.inl ⟨by decide,rfl⟩⟩
   ·exact⟨by decide,by decide,by decide,by decide,uT,fun _=>rfl,fun h=>absurd rfl h,.inl ⟨by decide,rfl⟩⟩
   exact⟨by decide,by decide,by decide,by decide,uT,fun _=>rfl,fun _=>rfl,.inr ⟨rfl,by decide,by decide,fun j hj=>by
     have:j=0:=by have hj:j < 1:=hj;omega
     subst this;decide⟩⟩
  ·rcases IB hi with rfl|rfl|rfl<;>exact⟨by decide,by decide⟩
  ·rcases IB hj with rfl|rfl|rfl
   ·omega
   ·have:i=0:=by omega
    subst this;decide
   have:i=0\/i=1:=by omega
   rcases this with rfl|rfl<;>decide
  ·rcases IB hi with rfl|rfl|rfl
   ·have hj:j < 2:=hj
    have:j=0\/j=1:=by omega
    rcases this with rfl|rfl
    ·exact⟨by decide,ug (by decide) (by decide) (by decide),by show ¬ ju ⟨#[97]⟩ ⟨#[]⟩;unfold ju;decide +kernel⟩
    exact⟨by decide,ug (by decide) (by decide) (by decide),by show ¬ ju ⟨#[115]⟩ ⟨#[97]⟩;unfold ju;decide +kernel⟩
   ·exact absurd hj (Nat.not_lt_zero j)
   exact absurd hj (Nat.not_lt_zero j)
  have e:(fw vZ vZ.length).map (iQ vZ)=[(2,1)]:=by decide
  rw [e]
  by_cases h:z=2
  ·subst h;exact⟨1,1,rfl,rfl⟩
  exact⟨0,by show up [(2,1)] z=none;simp [up,h]⟩
theorem V6 {β:Bs} {B:Option Addr} {e:Nat} (hR:cF β B (dU ⟨fun _=>none,fun i=>if i=0 then some ⟨e,0,none⟩ else none,fun _=>0,fun i=>if i=0 then 2 else 0⟩ vZ)) (h1:eG β (some ⟨e,0,none⟩) Qy.ah):aF β B vZ ⟨fun _=>none,fun i=>if i=0 then some ⟨e,0,none⟩ else none,fun _=>0,fun i=>if i=0 then 2 else 0⟩:=by
  have hn:∀ {A:Option Addr},cF β A []:=fun j v hj=>by simp at hj
  refine⟨hR,fun i hi=>?_,fun i hi=>?_⟩
  ·rcases IB hi with rfl|rfl|rfl<;>exact hn
  rcases IB hi with rfl|rfl|rfl
  ·exact h1
  ·exact hn
  exact hn
theorem X1:iA vZ 1048576:=⟨by decide,fun i hi=>by
  rcases IB hi with rfl|rfl|rfl
  ·refine⟨by unfold kX;decide,by decide,by decide,by decide,fun j hj=>?_⟩
   have hj:j < 2:=hj
   have:j=0\/j=1:=by omega
   rcases this with rfl|rfl<;>exact⟨by unfold kX;decide,by decide⟩
  ·exact⟨by unfold kX;decide,by decide,by decide,by decide,fun j hj=>absurd hj (Nat.not_lt_zero j)⟩
  exact⟨by unfold kX;decide,by decide,by decide,by decide,fun j hj=>absurd hj (Nat.not_lt_zero j)⟩⟩
structure U1 (S:aI):Prop where
  inv:Inv S
  idx:S.idx=[(1,⟨1,2⟩),(2,⟨2,2⟩),(3,⟨3,3⟩)]
  us:S.us=[]
  X:S.X=⟨9,99,9,0,0,3,2,0⟩
  o1:∃ l u,obj S.O 1=⟨1,493,0,0,0,0,l,0,false,2,[],⟨#[]⟩,[(⟨#[97]⟩,⟨2,2⟩),(⟨#[115]⟩,⟨3,3⟩)],u⟩
  o2:∃ l u,obj S.O 2=⟨2,493,0,0,0,0,l,0,false,2,[],⟨#[]⟩,[],u⟩
section v
variable {S:aI}
theorem U2 (h:gD (Ij 99) vZ vZ.length 0 S):U1 S:=by
  obtain⟨l1,u1,h1⟩:=h.ob 0 (by decide)
  obtain⟨l2,u2,h2⟩:=h.ob 1 (by decide)
  exact⟨h.full,h.idx,h.us,h.cap,⟨l1,u1,h1⟩,⟨l2,u2,h2⟩⟩
theorem U3:bF ⟨#[97]⟩:=ug (by decide) (by decide) (by decide)
theorem Ol:bF ⟨#[98]⟩:=ug (by decide) (by decide) (by decide)
theorem U4:bF ⟨#[115]⟩:=ug (by decide) (by decide) (by decide)
theorem wg {root:Int} {n:Nat} {c:aB} (h:c.op≠1):aR [] [] root n S c=bK S c:=by
  unfold aR mq
  rw [if_neg h]
  rfl
theorem IC {h:Int} {name:ByteArray} {d:Nat} (ha:dJ S.O S.us h name 64=.ok d) {e:Int} (hl:(match aT name (obj S.O d).ah with|none=>170|some t=>if t.kind=3 then 174 else 0)=e) (he:e≠0):bK S (fk h name)=(S,{ fk h name with code:=e }):=by
  unfold bK
  rw [rf (c:={ fk h name with answer:=0,code:=230 }) rfl]
  unfold eV fB
  simp only
  rw [ha]
  simp only
  cases hq:aT name (obj S.O d).ah with
  | none=>rw [hq] at hl;subst hl;rfl
  | some t=>
    rw [hq] at hl
    simp only at hl ⊢
    by_cases h3:t.kind=3
    ·rw [if_pos h3] at hl
     subst hl
     rw [if_pos h3]
    rw [if_neg h3] at hl
    exact absurd hl.symm he
theorem Kl (h:U1 S):aR [] [] 1 1 S (kN 1)=(S1 S,{ kN 1 with answer:=1,code:=0 }):=by
  have:=Sv (S:=S) (c:=kN 1) (t:=⟨1,2⟩) rfl (by rw [h.idx];rfl) rfl (by rw [h.us,h.X];show (0:Int) < 9;decide)
  rw [h.us] at this
  exact this
theorem Qz (h:U1 S):∃ S2,fI [] [] 1 448 [⟨#[97]⟩,⟨#[98]⟩] 0 (S1 S) 1 1 false 0=⟨S2,6,3,true,1,0,0⟩/\S2.idx.length=4/\fI [] [] 1 448 [⟨#[115]⟩,⟨#[120]⟩] 0 S2 6 1 false 0=⟨S2,7,0,false,0,174,0⟩:=by
  obtain⟨l1,u1,h1⟩:=h.o1
  obtain⟨l2,u2,h2⟩:=h.o2
  obtain⟨A,hA⟩:∃ A,A=S1 S:=⟨_,rfl⟩
  have a1:obj A.O 1=⟨1,493,0,0,0,0,l1,1,false,2,[],⟨#[]⟩,[(⟨#[97]⟩,⟨2,2⟩),(⟨#[115]⟩,⟨3,3⟩)],u1⟩:=by rw [hA,XP,h1];rfl
  have a2:obj A.O 2=⟨2,493,0,0,0,0,l2,0,false,2,[],⟨#[]⟩,[],u2⟩:=by rw [hA];exact XQ.trans h2
  have aX:A.X=⟨9,99,9,0,0,3,2,0⟩:=by rw [hA];exact h.X
  have ai:A.idx=[(1,⟨1,2⟩),(2,⟨2,2⟩),(3,⟨3,3⟩)]:=by rw [hA];exact h.idx
  have au:A.us=[(1,⟨1,2⟩)]:=by rw [hA];rfl
  rw [← hA]
  clear hA
  have e1:=Dl (S:=A) (c:=fk 1 ⟨#[97]⟩) rfl (xE (t:=⟨1,2⟩) (by rw [au];rfl) rfl (by rw [a1]) U3 (by rw [a1];exact Dm)) (t:=⟨2,2⟩) (by rw [a1];rfl) rfl (by rw [au,aX];show (1:Int) < 9;decide)
  rw [← wg (root:=1) (n:=2) (by decide),show least A.us=2 by rw [au];rfl] at e1
  obtain⟨B,hB⟩:∃ B:aI,B={ A with O:=aO A.O 2 (fun o=>{ o with opens:=o.opens+1 }),us:=ins 2 ⟨2,2⟩ A.us,aD:=max A.aD ((A.us.length:Int)+1) }:=⟨_,rfl⟩
  rw [← hB] at e1
  have b1:obj B.O 1=obj A.O 1:=by rw [hB];rfl
  have b2:obj B.O 2=⟨2,493,0,0,0,0,l2,1,false,2,[],⟨#[]⟩,[],u2⟩:=by rw [hB];show { obj A.O 2 with opens:=(obj A.O 2).opens+1 }=_;rw [a2];rfl
  have bX:B.X=A.X:=by rw [hB]
  have bi:B.idx=A.idx:=by rw [hB]
  have bu:B.us=[(1,⟨1,2⟩),(2,⟨2,2⟩)]:=by rw [hB];show ins 2 ⟨2,2⟩ A.us=_;rw [au];rfl
  rw [a1] at b1;rw [aX] at bX;rw [ai] at bi
  clear hB a1 a2 aX ai au
  have hab:∀ need:Int,bits BinOp.and .i64 493 need=need->dJ B.O B.us 2 ⟨#[98]⟩ need=.ok 2:=fun need hn=>xE (t:=⟨2,2⟩) (by rw [bu];rfl) rfl (by rw [b2]) Ol (by rw [b2];exact hn)
  have e2:=IC (S:=B) (hab 64 Dm) (e:=170) (by rw [b2];rfl) (by decide)
  rw [← wg (root:=1) (n:=3) (by decide)] at e2
  have e3:=Qj (S:=B) (c:=rT 2 ⟨#[98]⟩ 448) rfl (hab 192 UA) ⟨by decide,by decide⟩ (by rw [b2];rfl) ⟨by rw [bX,bi];show (3:Int) < 9;decide,by rw [bX];show (3:Int) < 1099511627776;decide,by rw [bX];show (2:Int) < 8192;decide⟩
  rw [← wg (root:=1) (n:=4) (by decide)] at e3
  obtain⟨C,hC⟩:∃ C,C=fe B 2 ⟨#[98]⟩ (bg B.X 2 448):=⟨_,rfl⟩
  rw [← hC] at e3
  have hn:bG B.X=4:=by rw [bX];rfl
  have c1:obj C.O 1=obj B.O 1:=by
    rw [hC]
    show obj (cO B.X (aO B.O (bG B.X) (fun _=>bg B.X 2 448)) 2 ⟨#[98]⟩ ⟨bG B.X,2⟩) 1=_
    rw [hn];rfl
  have c2:obj C.O 2=⟨2,493,0,0,0,0,l2,1,false,2,[],⟨#[]⟩,[(⟨#[98]⟩,⟨4,2⟩)],u2⟩:=by
    rw [hC]
    show obj (cO B.X (aO B.O (bG B.X) (fun _=>bg B.X 2 448)) 2 ⟨#[98]⟩ ⟨bG B.X,2⟩) 2=_
    rw [hn]
    show { obj B.O 2 with ah:=ic ⟨#[98]⟩ ⟨4,2⟩ (obj B.O 2).ah,sec:=B.X.cS,nano:=B.X.cZ }=_
    rw [b2,bX];rfl
  have cX:C.X.cH=9:=by rw [hC];show B.X.cH=9;rw [bX]
  have ci:C.idx.length=4:=by rw [hC];show (ins (B.X.last+1) ⟨bG B.X,2⟩ B.idx).length=4;rw [iw,bi];rfl
  have cu:C.us=B.us:=by rw [hC];rfl
  rw [b1] at c1;rw [bu] at cu
  clear hC b1 b2 bX bi bu hab
  have e4:=Dl (S:=C) (c:=fk 2 ⟨#[98]⟩) rfl (xE (t:=⟨2,2⟩) (by rw [cu];rfl) rfl (by rw [c2]) Ol (by rw [c2];exact Dm)) (t:=⟨4,2⟩) (by rw [c2];rfl) rfl (by rw [cu,cX];show (2:Int) < 9;decide)
  rw [← wg (root:=1) (n:=5) (by decide),show least C.us=3 by rw [cu];rfl] at e4
  obtain⟨D,hD⟩:∃ D:aI,D={ C with O:=aO C.O 4 (fun o=>{ o with opens:=o.opens+1 }),us:=ins 3 ⟨4,2⟩ C.us,aD:=max C.aD ((C.us.length:Int)+1) }:=⟨_,rfl⟩
  rw [← hD] at e4
  have d1:obj D.O 1=obj C.O 1:=by rw [hD];rfl
  have d2:obj D.O 2=obj C.O 2:=by rw [hD];rfl
  have di:D.idx.length=4:=by rw [hD];exact ci
  have du:D.us=[(1,⟨1,2⟩),(2,⟨2,2⟩),(3,⟨4,2⟩)]:=by rw [hD];show ins 3 ⟨4,2⟩ C.us=_;rw [cu];rfl
  rw [c1] at d1;rw [c2] at d2
  clear hD c1 c2 cX ci cu
  have e5:=Qk (S:=D) (c:=eu 2) (t:=⟨2,2⟩) rfl (by rw [du];rfl)
  rw [← wg (root:=1) (n:=6) (by decide)] at e5
  obtain⟨F,hF⟩:∃ F:aI,F={ D with X:={ D.X with used:=jO (iR D.O 2) D.X.used ⟨2,2⟩ },O:=iR D.O 2,idx:=jj (iR D.O 2) D.idx ⟨2,2⟩,us:=del 2 D.us }:=⟨_,rfl⟩
  have e5:aR [] [] 1 6 D (eu 2)=(F,{ eu 2 with answer:=0,code:=0 }):=by rw [hF];exact e5
  have f1:obj F.O 1=obj D.O 1:=by rw [hF];rfl
  have fi:F.idx.length=4:=by
    rw [hF]
    show (jj (iR D.O 2) D.idx ⟨2,2⟩).length=4
    rw [show jj (iR D.O 2) D.idx ⟨2,2⟩=D.idx from if_neg (by
      show ¬ ((obj (iR D.O 2) 2).gone=true/\_)
      rw [show obj (iR D.O 2) 2={ obj D.O 2 with opens:=(obj D.O 2).opens - 1 } from rfl,d2]
      exact fun h=>by cases h.1)]
    exact di
  have fu:F.us=[(1,⟨1,2⟩),(3,⟨4,2⟩)]:=by rw [hF];show del 2 D.us=_;rw [du];rfl
  rw [d1] at f1
  clear hF d1 d2 di du
  have e6:=IC (S:=F) (xE (h:=1) (name:=⟨#[115]⟩) (need:=64) (t:=⟨1,2⟩) (by rw [fu];rfl) rfl (by rw [f1]) U4 (by rw [f1];exact Dm)) (e:=174) (by rw [f1];rfl) (by decide)
  rw [← wg (root:=1) (n:=7) (by decide)] at e6
  refine⟨F,?_,fi,?_⟩
  ·have s1:=xA (mode:=448) e1 rfl
   have s2:=tY (mode:=448) e2 (by show (170:Int)≠0;decide) (fun h=>h.elim (fun h=>h rfl) (fun h=>absurd h (by decide))) e3 (fun h=>h.1 rfl) e4 rfl
   rw [xw (by rw [s1]) (by decide),s1]
   show fI [] [] 1 448 [⟨#[98]⟩] 1 B 2 2 true 0=_
   rw [uL (by rw [s2]) rfl (by rw [s2];show (aR [] [] 1 6 D (eu 2)).2.code=0;rw [e5]),s2]
   show fI [] [] 1 448 [] 2 (aR [] [] 1 6 D (eu 2)).1 6 3 true 1=_
   rw [e5]
   rfl
  have s3:=rV (mode:=448) e6 (by show (174:Int)≠0;decide) (.inl (by show ¬ (174:Int)=170;decide))
  rw [rU (by rw [s3];show (174:Int)≠0;decide),s3]
  rfl
end v
end
section
open Go.RowKit Go.Maps bC aE
section a
variable {β:Bs} {G:WG} {fs:List bh} {xs:List bM} {root:Int} {S0:aI} {V0:WV} {um:List aB} {A:Option Addr} {kz:Nat} {ps:List ByteArray} {mode h:Int} {S:aI} {n:Nat} {cur made code at_:Int} {own:Bool}
abbrev Om (cur:Int) (own:Bool) (made:Int):Value:=.agg #[.int .i64 cur,.bool own,.int .i64 made]
theorem QA (hrw:(Lit.int .i64 root).wf=true) (hI:Inv S0) (hn:um.length<=100) (hZ:fF β G.Z xs) (hX:dZ xs 1048576) (hg:dQ β) (hE:jl β) (hw:(Lit.int .i64 h).wf=true) (hP:eU β A ps) (hpl:ps.length<=1048576) (hps:∀ i,i < ps.length->(pc ps i).size<=1048576) (hr:fI fs xs root mode ps 0 S0 um.length h false 0=⟨S,n,cur,own,made,0,at_⟩) :
    bw Tryz.prog β 10 #[.agg #[.iface 39 (vP G.w)],.int .i64 h,.slice A ps.length kz,.int .i64 mode] [wA G fs xs root S0 V0 um] (fun _ v l=>∃ (V':WV) (eD:List aB),eD.length=n/\v=.tuple #[Om cur own made,.nilIface]/\l=[wA G fs xs root S V' eD]):=
  (Al hrw hI hn hZ hX hg hE h hw A kz ps hP hpl hps mode hr).mono (by
    rintro β' v l _ ⟨V',eD,h1,⟨_,h2,h3⟩|⟨h2,_⟩⟩
    ·exact⟨V',eD,h1,h2,h3⟩
    exact absurd rfl h2)
theorem QB (hrw:(Lit.int .i64 root).wf=true) (hI:Inv S0) (hn:um.length<=100) (hZ:fF β G.Z xs) (hX:dZ xs 1048576) (hg:dQ β) (hE:jl β) (hw:(Lit.int .i64 h).wf=true) (hP:eU β A ps) (hpl:ps.length<=1048576) (hps:∀ i,i < ps.length->(pc ps i).size<=1048576) (hr:fI fs xs root mode ps 0 S0 um.length h false 0=⟨S,n,cur,own,made,code,at_⟩) (hc:¬ code=0) :
    bw Tryz.prog β 10 #[.agg #[.iface 39 (vP G.w)],.int .i64 h,.slice A ps.length kz,.int .i64 mode] [wA G fs xs root S0 V0 um] (fun _ v l=>∃ (V':WV) (eD:List aB) (e:Nat) (nm:ByteArray),eD.length=n/\v=.tuple #[Om 0 false made,.iface 92 (vP e)]/\l=[wA G fs xs root S V' eD,.blk e [.int .i64 at_,.string nm,.int .i64 code] 94]):=
  (Al hrw hI hn hZ hX hg hE h hw A kz ps hP hpl hps mode hr).mono (by
    rintro β' v l _ ⟨V',eD,h1,⟨h2,_⟩|⟨_,e,nm,h2,h3⟩⟩
    ·exact absurd h2 hc
    exact⟨V',eD,e,nm,h1,h2,h3⟩)
theorem U5:dh (Ij 99) vZ 1=0:=Dh U0 V5 (i:=0) ⟨by decide,rfl,fun q h=>absurd h (Nat.not_lt_zero q)⟩ rfl
theorem IE {ps:List ByteArray} {i:Nat} (h1:i < ps.length) (h2:ps=[⟨#[97]⟩,⟨#[98]⟩]\/ps=[⟨#[115]⟩,⟨#[120]⟩]):(pc ps i).size<=1048576:=by
  have h3:i < 2:=by rcases h2 with rfl|rfl<;>exact h1
  have:i=0\/i=1:=by omega
  rcases h2 with rfl|rfl<;>rcases this with rfl|rfl<;>decide
theorem LK {S2:aI} {c2:aB} (hI:Inv S) (hu:S.us=[]) (hp:S.aD=0) (e:aR fs xs root n S (kN root)=(S2,c2)) (h0:c2.code=0):∃ t,c2.answer=1/\S2.us=[(1,t)]/\S2.aD=1/\(t.k:Int)=root/\t.kind=2/\Inv S2:=by
  have uj:Inv S2:=by have h:=Inv.aR (fs:=fs) (xs:=xs) (root:=root) (n:=n) (c:=kN root) hI;rw [e] at h;exact h
  have iJ:=oO (root:=root) (S:=S) (xs:=bn xs n)
  have qu:=hI.eE (root:=root) (bn xs n)
  unfold aR at e
  have hr:mq root (kN root)=kN root:=rfl
  rw [hr] at e
  have hcode:∀ z,z≠0->(cP (kN root) z).code≠0:=fun z hz=>by rw [sX.1];exact hz
  unfold bD at e
  split at e
  ·cases e;exact absurd h0 (hcode 180 (by decide))
  split at e
  ·cases e;exact absurd h0 (hcode 176 (by decide))
  split at e
  ·rename_i q;exact absurd q.2.1 (by show (1:Int)≠9;decide)
  obtain⟨A,hA⟩:∃ A,A=eE root S (bn xs n):=⟨_,rfl⟩
  rw [← hA] at e iJ qu
  unfold bK at e
  rw [sS (c:={ kN root with answer:=0,code:=230 }) rfl] at e
  unfold jk at e
  split at e
  ·cases e;cases h0
  rename_i t ht
  split at e
  ·rename_i h2
   by_cases hl:(A.us.length:Int) < A.X.cH
   ·rw [jf hl] at e
    cases e
    refine⟨t,?_,?_,?_,(qu.key ht).symm,h2,uj⟩
    ·show least A.us=1;rw [iJ.1,hu];rfl
    ·show ins (least A.us) t A.us=_;rw [iJ.1,hu];rfl
    show max A.aD ((A.us.length:Int)+1)=1
    rw [iJ.2,hp,iJ.1,hu];rfl
   rw [jT hl] at e
   cases e;cases h0
  cases e;cases h0
theorem U6 {β:Bs}:cF β none (bQ fP []):=fun j v hj=>by simp [bQ,dH] at hj
theorem U7 {β:Bs}:cF β none (bQ gu []):=fun j v hj=>by simp [bQ,dH] at hj
theorem V7 {X:FM} {ns:List aG} (h:gD X ns ns.length 0 S):(S1 S).aD<=3:=by
  show max S.aD 1<=3
  rw [h.aD];decide
theorem SG (hh:Held S cur true):(Lit.int .i64 cur).wf=true:=by
  obtain⟨t,hg⟩:=hh.cur rfl
  have h1:=hh.inv.sE _ (qV hg)
  have:=hh.pk
  exact WalkArith.wf_i64 (by omega)
end a
end
section
open Go.RowKit Go.Maps bC aE
attribute [local irreducible] ak aW af aj
theorem Jt {β:Bs}:bw Tryz.prog β 25 #[] [] (fun β' v l=>∃ B Y,v=.agg #[.slice B 3 3,vI 1,vI 9,vI 99,vI 9,vI 0,vI 0,.slice none 0 0,.slice none 0 0]/\l=[]/\aF β' B vZ Y):=by
 refine bw.enter Tryz.func25 rfl Tryz.ntmps25 (Nat.le_of_ble_eq_true rfl) (fun hle0 R=>?_)
 refine SR (gN 1 (fun b1=>[(0,vP b1)]) (fun _=>[]) (fun _=>[]) (fun b1=>.blk b1 [.slice none (0) (0),vI 0,vI 0,vI 0,vI 0,vI 0,vI 0,.slice none (0) (0),.slice none (0) (0)] 34) (fun b1=>?_))
 refine NS (gN 6 (fun b2=>[(5,.agg #[vI 1,vI 2,vI 493,vI 0,vI 0,vI 0,vI 0,.slice none (0) (0),.string ⟨#[]⟩,.slice (some ⟨b2,0,none⟩) (2) (2)]),(6,.agg #[vI 2,vI 2,vI 493,vI 0,vI 0,vI 0,vI 0,.slice none (0) (0),.string ⟨#[]⟩,.slice none (0) (0)]),(7,.agg #[vI 3,vI 3,vI 0,vI 0,vI 0,vI 0,vI 0,.slice none (0) (0),.string ⟨#[97]⟩,.slice none (0) (0)])]) (fun _=>[]) (fun _=>[]) (fun b2=>.blk b2 [.string ⟨#[97]⟩,vI 2,.string ⟨#[115]⟩,vI 3] 110) (fun b2=>?_))
 refine gN 2 (fun b3=>[(9,.agg #[.slice (some ⟨b3,0,none⟩) (3) (3)])]) (fun _=>[]) (fun _=>[]) (fun b3=>.blk b3 [vI 1,vI 2,vI 493,vI 0,vI 0,vI 0,vI 0,.slice none (0) (0),.string ⟨#[]⟩,.slice (some ⟨b2,0,none⟩) (2) (2),vI 2,vI 2,vI 493,vI 0,vI 0,vI 0,vI 0,.slice none (0) (0),.string ⟨#[]⟩,.slice none (0) (0),vI 3,vI 3,vI 0,vI 0,vI 0,vI 0,vI 0,.slice none (0) (0),.string ⟨#[97]⟩,.slice none (0) (0)] 108) (fun b3=>?_)
 refine gN 2 (fun b4=>[(1,vP b4)]) (fun b4=>[(1,a_ 4 b4)]) (fun _=>[]) (fun b4=>.blk b4 [.slice (some ⟨b3,0,none⟩) (3) (3)] 24) (fun b4=>?_)
 refine NS (ak.mem (fun w hS=>hS.pQ (i:=2) (b:=b2) (cs:=[.string ⟨#[97]⟩,vI 2,.string ⟨#[115]⟩,vI 3]) (e:=110) 2 2 (by kernel_rfl) rfl (by decide)) ?_)
 refine ak.mX (Φ:=fun β'=>eG β' (some ⟨b2,0,none⟩) Qy.ah) 2 [0,1,3,4] (dw:=[.abs R,.blk b1 [.slice none (0) (0),vI 0,vI 0,vI 0,vI 0,vI 0,vI 0,.slice none (0) (0),.slice none (0) (0)] 34,.blk b3 [vI 1,vI 2,vI 493,vI 0,vI 0,vI 0,vI 0,.slice none (0) (0),.string ⟨#[]⟩,.slice (some ⟨b2,0,none⟩) (2) (2),vI 2,vI 2,vI 493,vI 0,vI 0,vI 0,vI 0,.slice none (0) (0),.string ⟨#[]⟩,.slice none (0) (0),vI 3,vI 3,vI 0,vI 0,vI 0,vI 0,vI 0,.slice none (0) (0),.string ⟨#[97]⟩,.slice none (0) (0)] 108,.blk b4 [.slice (some ⟨b3,0,none⟩) (3) (3)] 24]) rfl rfl (by kernel_rfl) (fun F w h β' h1 h2=>cF.jx h h1 h2) (fun mV eY hE=>?_)
 replace hle0:=hle0.trans eY
 refine ak.mem (fun w hS=>hS.pQ (i:=2) (b:=b3) (cs:=[vI 1,vI 2,vI 493,vI 0,vI 0,vI 0,vI 0,.slice none (0) (0),.string ⟨#[]⟩,.slice (some ⟨b2,0,none⟩) (2) (2),vI 2,vI 2,vI 493,vI 0,vI 0,vI 0,vI 0,.slice none (0) (0),.string ⟨#[]⟩,.slice none (0) (0),vI 3,vI 3,vI 0,vI 0,vI 0,vI 0,vI 0,.slice none (0) (0),.string ⟨#[97]⟩,.slice none (0) (0)]) (e:=108) 10 3 (by kernel_rfl) rfl (by decide)) ?_
 refine ak.mX (Φ:=fun β'=>cF β' (some ⟨b3,0,none⟩) (dU ⟨fun _=>none,fun i=>if i=0 then some ⟨b2,0,none⟩ else none,fun _=>0,fun i=>if i=0 then 2 else 0⟩ vZ)) 2 [0,1,3] (dw:=[.abs R,.blk b1 [.slice none (0) (0),vI 0,vI 0,vI 0,vI 0,vI 0,vI 0,.slice none (0) (0),.slice none (0) (0)] 34,.blk b4 [.slice (some ⟨b3,0,none⟩) (3) (3)] 24]) rfl rfl (by kernel_rfl) (fun F w h β' h1 h2=>cF.jx h h1 h2) (fun W6 pH hR=>?_)
 replace hE:=hE.le pH
 replace hle0:=hle0.trans pH
 refine gC 4 [] [(0,a_ 2 b4),(3,A_ 1 b1 9)] [(1,[(0,.slice (some ⟨b3,0,none⟩) (3) (3)),(1,vI 1),(2,vI 9),(3,vI 99),(4,vI 9)])] ?_
 refine NN (af.ret ?_)
 exact aj.gU (v:=.agg #[.slice (some ⟨b3,0,none⟩) (3) (3),vI 1,vI 9,vI 99,vI 9,vI 0,vI 0,.slice none (0) (0),.slice none (0) (0)]) (l:=[]) (aZ:=[b1=b1,b1=b1,b1=b1,b1=b1,b1=b1,b1=b1,b1=b1,b1=b1,b1=b1]) [.at 1,.at 1,.at 1,.at 1,.at 1,.at 1,.at 1,.at 1,.at 1] [0] hle0 (fun _=>by kernel_rfl) ⟨rfl,rfl,rfl,rfl,rfl,rfl,rfl,rfl,rfl,trivial⟩ rfl (by kernel_rfl) (⟨_,_,rfl,rfl,V6 hR hE⟩)
theorem LM {β:Bs} (hg:dQ β) (hE:jl β):bw Tryz.prog β 7 #[] [] (fun _ v l=>v=.bool true/\l=[]):=by
 refine bw.enter Tryz.func7 rfl Tryz.ntmps7 (Nat.le_of_ble_eq_true rfl) (fun hle0 R=>?_)
 refine SR (gK 1 [] [] ?_)
 refine NS (ak.fH (d:=(some 10)) (R:=[.abs R]) (pk:=[0]) (fun _=>by kernel_rfl) (Jt) rfl (by kernel_rfl) ?_)
 rintro zA _ _ gI ⟨B,Y,rfl,rfl,hG⟩
 replace hg:=hg.le gI
 replace hE:=hE.le gI
 replace hle0:=hle0.trans gI
 refine ak.fH (d:=(some 11)) (R:=[.abs R]) (pk:=[0]) (fun _=>by kernel_rfl) (Dx (β:=zA) (X:=Ij 99) U5 B 3 _ hG X1 none 0 [] U6 ⟨by decide,fun a ha=>by cases ha⟩ none 0 [] U7 F6) rfl (by kernel_rfl) ?_
 rintro zB _ _ gq ⟨N,G,V,rfl,rfl,jG⟩
 replace hg:=hg.le gq
 replace hE:=hE.le gq
 replace hG:=hG.le gq
 replace hle0:=hle0.trans gq
 refine gK 5 [(1,vP G.w),(2,vI 0)] [] ?_
 refine NN (af.seq (SR (gK 6 [(19,.bool false)] [] ?_)))
 refine NN (CF (af.skip (NX (SR (gK 4 [(24,.agg #[.iface 39 (vP G.w)])] [(3,p_ ⟨[.view 0 (.iface 39 (vP G.w))],none,none,none,none⟩ [(∀ F w,(fC (wP G ([]) ([]) 1 N.1 V ([]))).h F w->w.cell? ⟨G.w,0,none⟩=some (.iface 39 (vP G.w)))] ⟨uX,trivial⟩)] ?_)))))
 have hv:=U2 N.2
 obtain⟨S2,w1,wi,w2⟩:=Qz hv
 have bY:Inv (S1 N.1):=by have h:=Inv.aR (fs:=[]) (xs:=[]) (root:=1) (n:=1) (c:=kN 1) hv.inv;rw [Kl hv] at h;exact h
 have Kk:Held (S1 N.1) 1 false:=⟨bY,rfl,fun h=>absurd h Bool.false_ne_true,V7 N.2⟩
 have sI:=uW (mode:=448) (fs:=[]) (xs:=[]) (root:=1) (h0:=1) (n0:=1) (len:=2) [⟨#[97]⟩,⟨#[98]⟩] 0 (S1 N.1) 1 1 false 0 Kk (by decide) (by decide) (fun _=>rfl) (fun h=>absurd h Bool.false_ne_true) (fun _=>⟨rfl,rfl,rfl⟩)
 rw [w1] at sI
 have uj:Inv S2:=sI.inv
 refine ak.fH (d:=(some 25)) (R:=[.abs R]) (pk:=[0,1]) (fun _=>by kernel_rfl) (Iu (β:=zB) (G:=G) (fs:=[]) (xs:=[]) (root:=1) (S:=N.1) (V:=V) (tr:=[]) (S2:=(S1 N.1)) (c2:={ kN 1 with answer:=1,code:=0 }) (by decide) hv.inv (by decide) jG F6 hg 1 (by decide) (Kl hv)) rfl (by kernel_rfl) ?_
 rintro Z4 _ _ wh ⟨V2,Dv,rfl,rfl,RJ⟩
 replace hg:=hg.le wh
 replace hE:=hE.le wh
 replace hG:=hG.le wh
 replace jG:=jG.le wh
 replace hle0:=hle0.trans wh
 refine gK 5 [(3,vI 1)] [] ?_
 refine NS (gN 6 (fun b10=>[(32,.agg #[.iface 39 (vP G.w)]),(33,vI 1),(34,.slice (some ⟨b10,0,none⟩) (2) (2))]) (fun b10=>[(3,p_ ⟨[.view 0 (.iface 39 (vP G.w))],none,none,none,none⟩ [(∀ F w,(fC (wP G ([]) ([]) 1 (S1 N.1) V2 Dv)).h F w->w.cell? ⟨G.w,0,none⟩=some (.iface 39 (vP G.w)))] ⟨uX,trivial⟩)]) (fun _=>[]) (fun b10=>.blk b10 [.string ⟨#[97]⟩,.string ⟨#[98]⟩] 9) (fun b10=>?_))
 refine ak.mem (fun w hS=>hS.pQ (i:=2) (b:=b10) (cs:=[.string ⟨#[97]⟩,.string ⟨#[98]⟩]) (e:=9) 1 2 (by kernel_rfl) rfl (by decide)) ?_
 refine ak.mX (Φ:=fun β'=>eU β' (some ⟨b10,0,none⟩) [(⟨#[97]⟩:ByteArray),⟨#[98]⟩]) 2 [0,1] (dw:=[wA G ([]) ([]) 1 (S1 N.1) V2 Dv,.abs R]) rfl rfl (by kernel_rfl) (fun F w h β' h1 h2=>cF.jx h h1 h2) (fun U8 nD qq=>?_)
 replace hg:=hg.le nD
 replace hE:=hE.le nD
 replace hG:=hG.le nD
 replace jG:=jG.le nD
 replace hle0:=hle0.trans nD
 have YZ:fI [] [] 1 448 [(⟨#[97]⟩:ByteArray),⟨#[98]⟩] 0 (S1 N.1) Dv.length 1 false 0=⟨S2,6,3,true,1,0,0⟩:=by rw [RJ];exact w1
 refine ak.fH (d:=(some 35)) (R:=[.abs R]) (pk:=[0,1]) (fun _=>by kernel_rfl) (QA (β:=U8) (kz:=2) (G:=G) (root:=1) (h:=1) (fs:=[]) (xs:=[]) (V0:=V2) (um:=Dv) (by decide) bY (by rw [RJ];decide) jG F6 hg hE (by decide) qq (by decide) (fun i hi=>IE hi (.inl rfl)) YZ) rfl (by kernel_rfl) ?_
 rintro Qr _ _ jc ⟨V3,ul,RL,rfl,rfl⟩
 replace hg:=hg.le jc
 replace hE:=hE.le jc
 replace hG:=hG.le jc
 replace jG:=jG.le jc
 replace qq:=qq.le jc
 replace hle0:=hle0.trans jc
 refine gN 6 (fun b13=>[(5,vP b13),(6,.nilIface)]) (fun b13=>[(4,A_ 2 b13 3)]) (fun _=>[]) (fun b13=>.blk b13 [vI (3),.bool true,vI (1)] 55) (fun b13=>?_)
 refine NN (af.seq (SR (gK 14 [(50,.bool false),(51,vP G.w)] [(4,a_ 2 b13),(5,p_ ⟨[],none,none,none,some (.bool false)⟩ [(Value.bool (!decide ((1:Int)=(1:Int))))=(.bool false)] ⟨by simp,trivial⟩),(9,a_ 2 b13)] ?_)))
 refine ak.fH (d:=(some 52)) (R:=[.abs R,.blk b13 [vI (3),.bool true,vI (1)] 55]) (pk:=[0,1,2]) (fun _=>by kernel_rfl) (xH (β:=Qr) (G:=G) (fs:=[]) (xs:=[]) (root:=1) (S:=S2) (V:=V3) (tr:=ul) uj) rfl (by kernel_rfl) ?_
 rintro UQ _ _ jd ⟨A4,c4,K4,rfl,rfl,_⟩
 replace hg:=hg.le jd
 replace hE:=hE.le jd
 replace hG:=hG.le jd
 replace jG:=jG.le jd
 replace qq:=qq.le jd
 replace hle0:=hle0.trans jd
 refine gK 4 [(56,.bool false)] [(1,p_ ⟨[],none,none,none,some (vI (((4:Nat):Int)))⟩ [((.int .i64 ↑((ay S2).length):Value))=(.int .i64 (((4:Nat):Int)))] ⟨by rw [dP,wi],trivial⟩),(2,p_ ⟨[],none,none,none,some (.bool false)⟩ [((.bool (!(decide ((((4:Nat):Int):Int)=(4:Int)))):Value))=(.bool false)] ⟨rfl,trivial⟩)] ?_
 refine NN (CF (af.skip (NX (SR (gN 6 (fun b15=>[(61,.agg #[.iface 39 (vP G.w)]),(62,vI 1),(63,.slice (some ⟨b15,0,none⟩) (2) (2))]) (fun b15=>[(3,p_ ⟨[.view 0 (.iface 39 (vP G.w))],none,none,none,none⟩ [(∀ F w,(fC (wP G ([]) ([]) 1 S2 V3 ul)).h F w->w.cell? ⟨G.w,0,none⟩=some (.iface 39 (vP G.w)))] ⟨uX,trivial⟩)]) (fun _=>[]) (fun b15=>.blk b15 [.string ⟨#[115]⟩,.string ⟨#[120]⟩] 9) (fun b15=>?_))))))
 refine ak.mem (fun w hS=>hS.pQ (i:=3) (b:=b15) (cs:=[.string ⟨#[115]⟩,.string ⟨#[120]⟩]) (e:=9) 1 2 (by kernel_rfl) rfl (by decide)) ?_
 refine ak.mX (Φ:=fun β'=>eU β' (some ⟨b15,0,none⟩) [(⟨#[115]⟩:ByteArray),⟨#[120]⟩]) 3 [0,1,2] (dw:=[wA G ([]) ([]) 1 S2 V3 ul,.abs R,.blk b13 [vI (3),.bool true,vI (1)] 55]) rfl rfl (by kernel_rfl) (fun F w h β' h1 h2=>cF.jx h h1 h2) (fun X2 qW IG=>?_)
 replace hg:=hg.le qW
 replace hE:=hE.le qW
 replace hG:=hG.le qW
 replace jG:=jG.le qW
 replace qq:=qq.le qW
 replace hle0:=hle0.trans qW
 have Y0:fI [] [] 1 448 [(⟨#[115]⟩:ByteArray),⟨#[120]⟩] 0 S2 ul.length 1 false 0=⟨S2,7,0,false,0,174,0⟩:=by rw [RL];exact w2
 refine ak.fH (d:=(some 64)) (R:=[.abs R,.blk b13 [vI (3),.bool true,vI (1)] 55]) (pk:=[0,1,2]) (fun _=>by kernel_rfl) (QB (β:=X2) (kz:=2) (G:=G) (root:=1) (h:=1) (fs:=[]) (xs:=[]) (V0:=V3) (um:=ul) (by decide) uj (by rw [RL];decide) jG F6 hg hE (by decide) IG (by decide) (fun i hi=>IE hi (.inr rfl)) Y0 (by decide)) rfl (by kernel_rfl) ?_
 rintro X3 _ _ iO ⟨V4,Z5,e,nm,Zo,rfl,rfl⟩
 replace hg:=hg.le iO
 replace hE:=hE.le iO
 replace hG:=hG.le iO
 replace jG:=jG.le iO
 replace qq:=qq.le iO
 replace IG:=IG.le iO
 replace hle0:=hle0.trans iO
 refine gK 4 [(6,.iface 92 (vP e))] [] ?_
 refine NS (gK 1 [(68,.iface 92 (vP e))] [] ?_)
 refine gL [1] (FE hE e 0 nm 174) ?_
 rintro _ _ ⟨rfl,rfl⟩
 refine gK 5 [(7,vI 174),(8,vI 0)] [] ?_
 refine NS (gK 11 [(0,.bool true)] [] ?_)
 refine NN (af.ret ?_)
 exact aj.gU (v:=.bool true) (l:=[]) (aZ:=[]) [] [2] hle0 (fun _=>by kernel_rfl) trivial rfl (by kernel_rfl) (⟨rfl,rfl⟩)
end
section
open Go.RowKit
section y
variable {P:Program} {β rH:Bs} {N:dD} {ops:Array Oper} {S:List HP} {l l':List (Bool×Nat)} {fr fr':Fr} {hps:List HP} {Q:Post} {i:Nat} {aZ:List Prop}
def lP (P:Program) (ops:Array Oper) (Q:Post) (R S:World->Prop):List (Bool×Nat)->Act->World->Prop
  | [],a,w=>Q .normal a w
  | (false,i)::l,a,w=>wpOp P ops Q i (fun a' w'=>(l=[]\/S w')/\lP P ops Q R S l a' w') a w
  | (true,i)::l,a,w=>∃ o v,ops[i]?=some o/\YieldsIf P ops R o v a/\lP P ops Q R S l (a.put o.dst v) w
theorem BW {R S:World->Prop} (hs:∀ w,S w->R w):∀ (l:List (Bool×Nat)) (a:Act) (w:World),lP P ops Q R S l a w->fY P ops Q S l a w
  | [],_,_,h=>h
  | (false,i)::l,a,w,h=>by
    unfold lP at h;unfold fY
    exact wpOp_mono (fun a' w' h'=>⟨h'.1,BW hs l a' w' h'.2⟩) h
  | (true,i)::l,a,w,h=>by
    unfold lP at h;unfold fY
    obtain⟨o,v,h1,h2,h3⟩:=h
    exact⟨o,v,h1,h2.imp (fun q=>⟨q.1,fun w hw=>q.2 w (hs w hw)⟩) id,BW hs l _ w h3⟩
def Bs.bare (β:Bs):Bs:=⟨fun _=>False,β.w0⟩
theorem Sat.bare {w:World} (h:Sat β S w):Sat β.bare [] w:=by
  obtain⟨ho,_⟩:=h
  exact⟨⟨ho.os,ho.tape,ho.output,ho.size,fun k hk=>hk.elim⟩,fun _ _=>False,fun i p h=>absurd h (by simp),fun i hi=>absurd hi (Nat.not_lt_zero i),fun i j hi=>absurd hi (Nat.not_lt_zero i)⟩
def Grown (a b:Bs):Prop:=a=b\/a.le b
theorem Grown.trans {a b c:Bs} (h:Grown a b) (g:b.le c):Grown a c:=.inr (h.elim (fun e=>e ▸ g) (fun h=>h.trans g))
theorem Grown.sat {a b:Bs} {w:World} (h:Grown a b) (hS:Sat b S w):Sat a S w:=h.elim (fun e=>e ▸ hS) (fun h=>hS.Cg h)
def uo (P:Program) (β rH:Bs) (N:dD) (ops:Array Oper) (S:List HP) (l:List (Bool×Nat)) (fr:Fr) (hps:List HP) (Q:Post):Prop:=
  ∀ junk w,Sat β hps w->lP P ops (NP Q) (Sat rH.bare []) (Sat rH S) l (bN N fr junk) w
theorem fo.Y1 (K:uo P β β N ops S l fr hps Q):fo P β N ops S l fr hps Q:=fun junk w hS=>BW (fun _ h=>h.bare) _ _ _ (K junk w hS)
theorem uo.last (hg:gB ops i=true) (h:ak P β N (oo ops i) i fr hps (NP Q)):uo P β rH N ops S [(false,i)] fr hps Q:=by
  intro junk w hS
  unfold lP
  exact nB hg (mD (Q':=_) (fun a w hq=>⟨.inl rfl,by unfold lP;exact hq⟩) _ (h junk w hS))
theorem uq {junk:Nat->Value} {w:World} {S2:World->Prop}:∀ {hs:List OH} {is:List Nat} {fr fr':Fr} {T T':SS},kL P β N junk ops hs is fr T=some (fr',T')->(∀ p,p∈T'.aZ->p)->T.used=true->T.hps=S →
    lP P ops (NP Q) (Sat β S) S2 l (bN N fr' junk) w->lP P ops (NP Q) (Sat β S) S2 (is.map (fun i=>(true,i))++l) (bN N fr junk) w
  | [],[],fr,fr',T,T',h,ho,hu,hT,hK=>by cases h;exact hK
  | h::hs,i::is,fr,fr',T,T',hr,ho,hu,hT,hK=>by
    unfold kL at hr
    repeat' split at hr
    all_goals first|(cases hr;done)|skip
    ·rename_i o hget _ hwant _ v T1 h0 _ hv
     obtain⟨e1,e2⟩:=qv h0
     rw [List.map_cons,List.cons_append]
     unfold lP
     refine⟨o,v,hget,.inl ⟨by rw [dO];exact hwant,fun w' cU=>?_⟩,?_⟩
     ·rw [dX]
      obtain⟨w2,h1,_,_,h4⟩:=jM h0 (fun p hp=>ho p (ql hr p hp)) (by rw [hT];exact cU) (fun e=>by rw [hu] at e;cases e)
      obtain⟨ew,_⟩:=h4 rfl
      rw [ew] at h1
      rcases h1 with h1|⟨h1,_⟩
      ·exact h1
      exact absurd h1 (mY hv)
     rw [dM]
     exact uq hr ho (e2.trans hu) (e1.trans hT) hK
    rename_i o hget _ hwant
    rw [List.map_cons,List.cons_append]
    unfold lP
    refine⟨o,undef,hget,.inr ⟨by rw [dO];exact hwant,rfl⟩,?_⟩
    rw [dM]
    exact uq hr ho hu hT hK
  | [],_::_,_,_,_,_,h,_,_,_,_=>by cases h
  | _::_,[],_,_,_,_,h,_,_,_,_=>by cases h
theorem gH (l2:List (Bool×Nat)) (lQ:Fr) (is:List Nat) (os:List (Nat×OP)) (K:uo P β rH N ops S l2 lQ hps Q)
    (h:∀ junk,mE P rH.bare N junk ops (jy (gV is.length os 0)) is fr [] (br lQ)=some (lQ,owed (gV is.length os 0)):=by intro _;kernel_rfl) (hl:l'=is.map (fun i=>(true,i))++l2:=by rfl):uo P β rH N ops S l' fr hps Q:=by
  intro junk w hS
  subst hl
  have h0:=h junk
  unfold mE at h0
  split at h0
  ·rename_i fr1 S1 h1
   injection h0 with h0
   injection h0 with e1 e2
   have hK:=K (lk fr1 junk) w hS
   rw [← e1,← jo] at hK
   exact uq h1 (fun p hp=>(mZ _).mem (by rw [← e2];exact hp)) rfl rfl hK
  cases h0
end y
end
section
open Go.RowKit
section order
variable {P:Program} {ops:Array Oper} {Q Q':Post} {n:Nat} {S:World->Prop} {j:Nat} {l2:List (Bool×Nat)}
def nE (P:Program) (ops:Array Oper) (Q:Post) (S:World->Prop) (j:Nat) (l2:List (Bool×Nat)):List (Bool×Nat)->Act->World->Prop
  | [],a,w=>wpOp P ops Q j (fun a' w'=>S w'/\fY P ops Q S l2 a' w') a w
  | (false,i)::l,a,w=>wpOp P ops Q i (fun a' w'=>S w'/\nE P ops Q S j l2 l a' w') a w/\wpOp P ops Q j (fun a' w'=>S w'/\fY P ops Q S ((false,i)::(l++l2)) a' w') a w
  | (true,i)::l,a,w=>∃ o v,ops[i]?=some o/\YieldsIf P ops S o v a/\nE P ops Q S j l2 l (a.put o.dst v) w
def xJ (ops:Array Oper) (n j:Nat) (l2:List (Bool×Nat)):List (Bool×Nat)->Array Bool->Bool
  | [],listed=>(Region.ready .any ops listed == [j]) && uO ops n l2 (listed.setIfInBounds j true)
  | (false,i)::l,listed=>(Region.ready .any ops listed == (if i < j then [i,j] else [j,i])) && xJ ops n j l2 l (listed.setIfInBounds i true) && uO ops n ((false,i)::(l++l2)) (listed.setIfInBounds j true)
  | (true,i)::l,listed=>decide (i < n) && Region.free .any ops listed i && (Region.ready .any ops listed).contains i && xJ ops n j l2 l (listed.setIfInBounds i true)
theorem BX (hsel:Region.noSelect ops=true) (kI:Region.sinkB .any ops n=true):∀ (l:List (Bool×Nat)) (listed:Array Bool) (a:Act) (w:World),xJ ops n j l2 l listed=true->Closed ops listed->S w->nE P ops (NP Q) S j l2 l a w->iP P ops (NP Q) n S (l.length+(l2.length+1)) listed a w
  | [],listed,a,w,hb,hc,_,h=>by
    unfold xJ at hb
    simp only [Bool.and_eq_true,beq_iff_eq] at hb
    obtain⟨h1,h3⟩:=hb
    rw [List.length_nil,Nat.zero_add]
    refine⟨fun h0=>(by rw [h1] at h0;cases h0),fun k hk=>?_⟩
    have hr:=hk
    rw [h1] at hk
    have hk:k=j:=by simpa using hk
    subst hk
    exact wpOp_mono (fun a' w' h4=>⟨.inr h4.1,qR hsel kI l2 _ a' w' h3 (hc.set hr) (.inr h4.1) h4.2⟩) h
  | (false,i)::l,listed,a,w,hb,hc,_,h=>by
    unfold xJ at hb
    simp only [Bool.and_eq_true,beq_iff_eq] at hb
    obtain⟨⟨h1,h2⟩,h3⟩:=hb
    rw [List.length_cons,Nat.succ_add]
    refine⟨fun h0=>(by rw [h1] at h0;split at h0<;>cases h0),fun k hk=>?_⟩
    have hr:=hk
    rw [h1] at hk
    have hk:k=i\/k=j:=by
      split at hk<;>(simp at hk;omega)
    rcases hk with rfl|rfl
    ·exact wpOp_mono (fun a' w' h4=>⟨.inr h4.1,BX hsel kI l _ a' w' h2 (hc.set hr) h4.1 h4.2⟩) h.1
    refine wpOp_mono (fun a' w' h4=>⟨.inr h4.1,?_⟩) h.2
    have:=qR hsel kI ((false,i)::(l++l2)) _ a' w' h3 (hc.set hr) (.inr h4.1) h4.2
    rw [List.length_cons,List.length_append] at this
    exact this
  | (true,i)::l,listed,a,w,hb,hc,hS,h=>by
    unfold xJ at hb
    simp only [Bool.and_eq_true,decide_eq_true_iff] at hb
    obtain⟨⟨⟨h1,h2⟩,h3⟩,h4⟩:=hb
    obtain⟨o,v,ho,hy,hk⟩:=h
    have hr:i∈Region.ready .any ops listed:=by simpa using h3
    rw [List.length_cons,Nat.succ_add]
    exact pV ho hsel kI h1 _ listed a w hc (Region.free_spec ho h2) hr hy hS (BX hsel kI l _ _ w h4 (hc.set hr) hS hk)
def Km (ops:Array Oper) (j:Nat) (l l2:List (Bool×Nat)):Bool:=
  Region.noSelect ops && Region.sinkB .any ops (ops.size - 1) && (l.length+(l2.length+1) == ops.size) && xJ ops (ops.size - 1) j l2 l (Array.replicate ops.size false)
end order
section mix
variable {P:Program} {β:Bs} {N:dD} {ops:Array Oper} {S:List HP} {l l' l2:List (Bool×Nat)} {fr fr':Fr} {hps:List HP} {Q:Post} {aZ:List Prop} {i j:Nat}
def vA (P:Program) (β:Bs) (N:dD) (ops:Array Oper) (S:List HP) (j:Nat) (l2 l:List (Bool×Nat)) (fr:Fr) (hps:List HP) (Q:Post):Prop:=
  ∀ junk w,Sat β hps w->nE P ops (NP Q) (Sat β S) j l2 l (bN N fr junk) w
theorem af.wj {id:Nat} (j:Nat) (l l2:List (Bool×Nat)) (hm:P.follows .mixedOrders=true) (hB:Km ops j l l2=true) (hp:∀ w,Sat β hps w->Sat β S w) (h:vA P β N ops S j l2 l fr hps Q):af P β N (.region id ops true) fr hps Q:=by
  intro junk w hS
  unfold Km at hB
  simp only [Bool.and_eq_true,beq_iff_eq] at hB
  obtain⟨⟨⟨h1,h2⟩,h3⟩,h4⟩:=hB
  have cU:=hS.drewN 1
  have h5:=BX (Q:=Q) h1 h2 l _ _ _ h4 (fun j oj _ hl=>by simp [Array.getD_eq_getD_getElem?,Array.getElem?_replicate] at hl;split at hl<;>simp at hl) (hp _ cU) (h junk (w.drewN 1) cU)
  rw [h3] at h5
  refine Code.wp_mono (fun e a w q=>?_) (wp_region_any hm (lW _ _ _ _ h5))
  cases e with
  | normal=>exact q
  | exit id=>exact q.elim
  | goto l=>exact q.elim
  | ret=>exact q.elim
  | panic ch=>exact q.elim
  | outgrown=>exact q.elim
theorem ur {junk:Nat->Value} {w:World}:∀ {hs:List OH} {is:List Nat} {fr fr':Fr} {T T':SS},kL P β N junk ops hs is fr T=some (fr',T')->(∀ p,p∈T'.aZ->p)->T.used=true->T.hps=S →
    nE P ops (NP Q) (Sat β S) j l2 l (bN N fr' junk) w->nE P ops (NP Q) (Sat β S) j l2 (is.map (fun i=>(true,i))++l) (bN N fr junk) w
  | [],[],fr,fr',T,T',h,ho,hu,hT,hK=>by cases h;exact hK
  | h::hs,i::is,fr,fr',T,T',hr,ho,hu,hT,hK=>by
    unfold kL at hr
    repeat' split at hr
    all_goals first|(cases hr;done)|skip
    ·rename_i o hget _ hwant _ v T1 h0 _ hv
     obtain⟨e1,e2⟩:=qv h0
     rw [List.map_cons,List.cons_append]
     unfold nE
     refine⟨o,v,hget,.inl ⟨by rw [dO];exact hwant,fun w' cU=>?_⟩,?_⟩
     ·rw [dX]
      obtain⟨w2,h1,_,_,h4⟩:=jM h0 (fun p hp=>ho p (ql hr p hp)) (by rw [hT];exact cU) (fun e=>by rw [hu] at e;cases e)
      obtain⟨ew,_⟩:=h4 rfl
      rw [ew] at h1
      rcases h1 with h1|⟨h1,_⟩
      ·exact h1
      exact absurd h1 (mY hv)
     rw [dM]
     exact ur hr ho (e2.trans hu) (e1.trans hT) hK
    rename_i o hget _ hwant
    rw [List.map_cons,List.cons_append]
    unfold nE
    refine⟨o,undef,hget,.inr ⟨by rw [dO];exact hwant,rfl⟩,?_⟩
    rw [dM]
    exact ur hr ho hu hT hK
  | [],_::_,_,_,_,_,h,_,_,_,_=>by cases h
  | _::_,[],_,_,_,_,h,_,_,_,_=>by cases h
theorem gJ (l3:List (Bool×Nat)) (lQ:Fr) (is:List Nat) (os:List (Nat×OP)) (K:vA P β N ops S j l2 l3 lQ hps Q)
    (h:∀ junk,mE P β N junk ops (jy (gV is.length os 0)) is fr S (br lQ)=some (lQ,owed (gV is.length os 0)):=by intro _;kernel_rfl) (hl:l'=is.map (fun i=>(true,i))++l3:=by rfl):vA P β N ops S j l2 l' fr hps Q:=by
  intro junk w hS
  subst hl
  have h0:=h junk
  unfold mE at h0
  split at h0
  ·rename_i fr1 S1 h1
   injection h0 with h0
   injection h0 with ha hb
   have hK:=K (lk fr1 junk) w hS
   rw [← ha,← jo] at hK
   refine ur h1 (fun p hp=>?_) rfl rfl hK
   rw [hb] at hp
   exact (mZ _).mem hp
  cases h0
def dW (P:Program) (β:Bs) (N:dD) (ops:Array Oper) (Q:Post) (S:List HP) (G:List HP->Prop) (dj:Nat):List (Bool×Nat×Nat)->Fr->List HP->(Fr->List HP->Prop)->Prop
  | [],fr,hps,R=>R fr hps
  | (false,i,d)::c,fr,hps,R=>(iV d (br fr)=false/\d≠dj)/\∃ q:Value->List HP->Prop,gy P β N ops Q i d [d,dj] fr hps q/\∀ v l,q v l->G l/\dW P β N ops Q S G dj c ((d,v)::fr) l R
  | (true,i,d)::c,fr,hps,R=>(iV d (br fr)=false/\d≠dj)/\∃ o v,ops[i]?=some o/\o.dst=some d/\(∀ junk,YieldsIf P ops (Sat β S) o v (bN N fr junk))/\dW P β N ops Q S G dj c ((d,v)::fr) hps R
theorem dW.step {G:List HP->Prop} {dj d:Nat} {c:List (Bool×Nat×Nat)} {R:Fr->List HP->Prop} {q:Value->List HP->Prop} (h:gy P β N ops Q i d [d,dj] fr hps q) (h1:(!iV d (br fr) && decide (d≠dj))=true) (K:∀ v l,q v l->G l/\dW P β N ops Q S G dj c ((d,v)::fr) l R):dW P β N ops Q S G dj ((false,i,d)::c) fr hps R:=by
  simp only [Bool.and_eq_true,Bool.not_eq_true',decide_eq_true_iff] at h1
  exact⟨h1,q,h,K⟩
theorem dW.read {G:List HP->Prop} {dj d:Nat} {c:List (Bool×Nat×Nat)} {R:Fr->List HP->Prop} {v:Value} (h:∀ junk,mE P β N junk ops [o_] [i] fr S (d::br fr)=some ((d,v)::fr,[])) (hd:(ops[i]?).map Oper.dst=some (some d)) (h1:(!iV d (br fr) && decide (d≠dj))=true) (K:dW P β N ops Q S G dj c ((d,v)::fr) hps R):dW P β N ops Q S G dj ((true,i,d)::c) fr hps R:=by
  simp only [Bool.and_eq_true,Bool.not_eq_true',decide_eq_true_iff] at h1
  obtain⟨o,ho,U9⟩:=Option.map_eq_some_iff.1 hd
  refine⟨h1,o,v,ho,U9,fun junk=>?_,K⟩
  have h0:=h junk
  unfold mE at h0
  split at h0
  ·rename_i fr1 S1 hr
   injection h0 with h0
   injection h0 with ha hb
   unfold kL at hr
   rw [ho] at hr
   simp only at hr
   repeat' split at hr
   all_goals first|(cases hr;done)|skip
   ·rename_i _ hwant _ v1 T1 hrun _ hv
    unfold kL at hr
    injection hr with hr
    injection hr with hr1 hr2
    have hv1:v1=v:=by
      rw [← hr1] at ha
      have h3:lk (ij (cY fr o.dst v1) junk (d::br fr)) junk d=lk ((d,v)::fr) junk d:=congrArg (fun f:Fr=>lk f junk d) ha
      have h2:lk (ij (cY fr o.dst v1) junk (d::br fr)) junk d=v1:=by
        rw [U9]
        simp [ij,lk,cY]
      rw [h2,fJ,if_pos rfl] at h3
      exact h3
    refine .inl ⟨by rw [dO];exact hwant,fun w' cU=>?_⟩
    rw [dX]
    obtain⟨w2,g1,_,_,g4⟩:=jM hrun (fun p hp=>by rw [hr2,hb] at hp;cases hp) (by exact cU) (fun e=>by cases e)
    obtain⟨ew,_⟩:=g4 rfl
    rw [ew] at g1
    rcases g1 with g1|⟨g1,_⟩
    ·rw [← hv1];exact g1
    exact absurd g1 (mY hv)
   rename_i _ hwant
   unfold kL at hr
   injection hr with hr
   injection hr with hr1 hr2
   have hv1:undef=v:=by
     rw [← hr1] at ha
     have h3:lk (ij (cY fr o.dst undef) junk (d::br fr)) junk d=lk ((d,v)::fr) junk d:=congrArg (fun f:Fr=>lk f junk d) ha
     have h2:lk (ij (cY fr o.dst undef) junk (d::br fr)) junk d=undef:=by
       rw [U9]
       simp [ij,lk,cY]
     rw [h2,fJ,if_pos rfl] at h3
     exact h3
   exact .inr ⟨by rw [dO];exact hwant,hv1.symm⟩
  cases h0
section Ub
variable {dj:Nat} {Z pj:List HP} {qj:Value->List HP->Prop} {R:Fr->List HP->Prop} {G:List HP->Prop}
theorem Am {v:Value} {junk:Nat->Value} (hv:junk dj=v) (hdj:iV dj (br fr)=false):bN N fr junk=bN N ((dj,v)::fr) junk:=nO fun t=>by
  rw [fJ]
  by_cases e1:dj=t
  ·subst e1;rw [if_pos rfl,kY (fun hm=>by rw [iD.2 hm] at hdj;cases hdj),hv]
  rw [if_neg e1]
theorem xK {d:Nat} {v:Value} (h1:d≠dj) (hdj:iV dj (br fr)=false):iV dj (br ((d,v)::fr))=false:=by
  cases hb:iV dj (br ((d,v)::fr)) with
  | false=>rfl
  | true=>
    rcases List.mem_cons.1 (iD.1 hb) with e|e
    ·exact absurd e.symm h1
    rw [iD.2 e] at hdj;cases hdj
abbrev Kn (c:List (Bool×Nat×Nat)):List (Bool×Nat):=c.map (fun x=>(x.1,x.2.1))
theorem xL {v:Value} {lp:List HP} (hG:∀ h X w,G h->Sat β (h++(X++Z)) w->Sat β S w) (hK:∀ f1 h1,R f1 h1->∀ junk w,Sat β (h1++(lp++Z)) w->fY P ops (NP Q) (Sat β S) l2 (bN N ((dj,v)::f1) junk) w) :
    ∀ (c:List (Bool×Nat×Nat)) (fr:Fr) (hps:List HP) (junk:Nat->Value) (w:World),iV dj (br fr)=false->dW P β N ops Q S G dj c fr hps R->junk dj=v->Sat β (hps++(lp++Z)) w->fY P ops (NP Q) (Sat β S) (Kn c++l2) (bN N fr junk) w
  | [],fr,hps,junk,w,hdj,hc,hv,hS=>by
    show fY _ _ _ _ l2 _ _
    rw [Am hv hdj]
    exact hK fr hps hc junk w hS
  | (false,i,d)::c,fr,hps,junk,w,hdj,⟨⟨h1,h2⟩,q,h3,h4⟩,hv,hS=>by
    show fY _ _ _ _ ((false,i)::(Kn c++l2)) _ _
    unfold fY
    refine h3.at_ (X:=[]) hS (fun v' l j2 w' g1 g2 g3 g4=>?_)
    obtain⟨k1,k2⟩:=h4 v' l g1
    refine⟨.inr (hG l lp w' k1 g4),?_⟩
    rw [Am g2 h1]
    exact xL hG hK c _ l j2 w' (xK h2 hdj) k2 ((g3 dj (by simp) (fun e=>h2 e.symm)).trans hv) g4
  | (true,i,d)::c,fr,hps,junk,w,hdj,⟨⟨h1,h2⟩,o,v',h3,h4,h5,h6⟩,hv,hS=>by
    show fY _ _ _ _ ((true,i)::(Kn c++l2)) _ _
    unfold fY
    refine⟨o,v',h3,h5 junk,?_⟩
    rw [h4,dM]
    exact xL hG hK c _ hps junk w (xK h2 hdj) h6 hv hS
theorem xM {j:Nat} (hG:∀ h X w,G h->Sat β (h++(X++Z)) w->Sat β S w) (hK:∀ f1 h1,R f1 h1->∀ v lp,qj v lp->∀ junk w,Sat β (h1++(lp++Z)) w->fY P ops (NP Q) (Sat β S) l2 (bN N ((dj,v)::f1) junk) w) :
    ∀ (c:List (Bool×Nat×Nat)) (fr:Fr) (hps:List HP) (junk:Nat->Value) (w:World),nodupB (c.map (·.2.2))=true->iV dj (br fr)=false->gy P β N ops Q j dj (dj::c.map (·.2.2)) fr pj qj->dW P β N ops Q S G dj c fr hps R->G hps->Sat β (hps++(pj++Z)) w->nE P ops (NP Q) (Sat β S) j l2 (Kn c) (bN N fr junk) w
  | [],fr,hps,junk,w,_,hdj,hj,hc,hg,hS=>by
    show wpOp P ops (NP Q) j _ _ _
    refine hj.at_ (X:=hps) hS (fun v l j2 w' g1 g2 g3 g4=>⟨hG hps l w' hg g4,?_⟩)
    rw [Am g2 hdj]
    exact hK fr hps hc v l g1 j2 w' g4
  | (false,i,d)::c,fr,hps,junk,w,hnd,hdj,hj,hc,hg,hS=>by
    have hc0:=hc
    obtain⟨⟨h1,h2⟩,q,h3,h4⟩:=hc
    have hout:d∉br fr:=fun hm=>by rw [iD.2 hm] at h1;cases h1
    have y6:d∉c.map (·.2.2)/\nodupB (c.map (·.2.2))=true:=by
      have hx:nodupB (d::c.map (·.2.2))=true:=hnd
      unfold nodupB at hx
      simp only [Bool.and_eq_true] at hx
      exact⟨fun hm=>by have h:=hx.1;simp_all,hx.2⟩
    refine⟨h3.at_ (X:=[]) hS (fun v' l j2 w' g1 g2 g3 g4=>?_),hj.at_ (X:=hps) hS (fun v l j2 w' g1 g2 g3 g4=>⟨hG hps l w' hg g4,?_⟩)⟩
    ·obtain⟨k1,k2⟩:=h4 v' l g1
     refine⟨hG l pj w' k1 g4,?_⟩
     rw [Am g2 h1]
     exact xM hG hK c _ l j2 w' y6.2 (xK h2 hdj) (hj.grow hout h2 y6.1 v') k2 k1 g4
    exact xL hG (fun f1 h1 hr=>hK f1 h1 hr v l g1) ((false,i,d)::c) fr hps j2 w' hdj hc0 g2 g4
  | (true,i,d)::c,fr,hps,junk,w,hnd,hdj,hj,⟨⟨h1,h2⟩,o,v',h3,h4,h5,h6⟩,hg,hS=>by
    have hout:d∉br fr:=fun hm=>by rw [iD.2 hm] at h1;cases h1
    have y6:d∉c.map (·.2.2)/\nodupB (c.map (·.2.2))=true:=by
      have hx:nodupB (d::c.map (·.2.2))=true:=hnd
      unfold nodupB at hx
      simp only [Bool.and_eq_true] at hx
      exact⟨fun hm=>by have h:=hx.1;simp_all,hx.2⟩
    show nE _ _ _ _ _ _ ((true,i)::Kn c) _ _
    unfold nE
    refine⟨o,v',h3,h5 junk,?_⟩
    rw [h4,dM]
    exact xM hG hK c _ hps junk w y6.2 (xK h2 hdj) (hj.grow hout h2 y6.1 v') h6 hg hS
theorem vA.beside {j:Nat} {pc:List HP} (pk:List Nat) (G:List HP->Prop) (c:List (Bool×Nat×Nat)) (hn:nodupB pk=true) (hp:bO hps pk=some (pc++(pj++Z))) (hl:l=Kn c) (hG:∀ h X w,G h->Sat β (h++(X++Z)) w->Sat β S w) (hg:G pc) (hnd:nodupB (c.map (·.2.2))=true) (hdj:iV dj (br fr)=false)
    (hj:gy P β N ops Q j dj (dj::c.map (·.2.2)) fr pj qj) (hc:dW P β N ops Q S G dj c fr pc R)
    (K:∀ f1 h1,R f1 h1->∀ v lp,qj v lp->fo P β N ops S l2 ((dj,v)::f1) (h1++(lp++Z)) Q):vA P β N ops S j l2 l fr hps Q:=by
  intro junk w hS
  subst hl
  exact xM hG (fun f1 h1 hr v lp hv junk w hS=>K f1 h1 hr v lp hv junk w hS) c fr pc junk w hnd hdj hj hc hg (hS.pick hn hp)
end Ub
end mix
end
section
open Go.RowKit Go.Maps bC aE
def j6 (G:WG):bV where
  h F w:=∃ fs xs root S V tr,(fC (wP G fs xs root S V tr)).h F w
  lt:=fun ⟨_,_,_,_,_,_,h⟩=>bV.lt _ h
  st:=fun ⟨fs,xs,root,S,V,tr,h⟩ _ _ hk hd=>⟨fs,xs,root,S,V,tr,bV.st _ h hk hd⟩
theorem kE {G:WG}:∀ F w,(j6 G).h F w->w.cell? ⟨G.w,0,none⟩=some (.iface 39 (vP G.w)):=by
  rintro F w ⟨fs,xs,root,S,V,tr,h⟩
  exact uX F w h
theorem Sat.wk {β:Bs} {l:List HP} {w:World} {i:Nat} {G:WG} {fs:List bh} {xs:List bM} {root:Int} {S:aI} {V:WV} {tr:List aB} (h:Sat β l w) (hp:l[i]?=some (wA G fs xs root S V tr)):Sat β (l.set i (.abs (j6 G))) w:=by
  refine h.set hp (fun F hF=>⟨F,⟨fs,xs,root,S,V,tr,hF⟩,?_⟩)
  exact Step.refl _ _
theorem Sat.Y2 {β:Bs} {l l':List HP} {w:World} (f:Nat->Nat) (h:Sat β l w) (hf:∀ k p,l'[k]?=some p->l[f k]?=some p) (hi:∀ a b,a < l'.length->b < l'.length->f a=f b->a=b):Sat β l' w:=by
  obtain⟨ho,φ,h1,h2,h3⟩:=h
  have key:∀ k,k < l'.length->f k < l.length:=fun k hk=>by
    obtain⟨p,hp⟩:=iW hk
    exact bq (hf k p hp)
  exact⟨ho,fun k=>φ (f k),fun k p hp=>h1 _ p (hf k p hp),fun k hk=>h2 _ (key k hk),fun a b ha hb hne=>h3 _ _ (key a ha) (key b hb) (fun e=>hne (hi a b ha hb e))⟩
def BZ (G:WG) (l:List HP):Prop:=∃ (i:Nat) (fs:List bh) (xs:List bM) (root:Int) (S:aI) (V:WV) (tr:List aB),l[i]?=some (wA G fs xs root S V tr)
theorem qX {G:WG} {l:List HP} (i:Nat) {fs:List bh} {xs:List bM} {root:Int} {S:aI} {V:WV} {tr:List aB} (h:l[i]?=some (wA G fs xs root S V tr)):BZ G l:=⟨i,fs,xs,root,S,V,tr,h⟩
theorem zD {β:Bs} {G:WG} {Z S1:List HP} {pS:List Nat} (hn:nodupB pS=true) (hp:bO Z pS=some S1) (h X:List HP) (w:World) (hw:BZ G h) (hS:Sat β (h++(X++Z)) w):Sat β (S1++[.abs (j6 G)]) w:=by
  obtain⟨i,fs,xs,root,S,V,tr,hi⟩:=hw
  have hil:=bq hi
  have h1:=hS.wk (i:=i) (G:=G) (fs:=fs) (xs:=xs) (root:=root) (S:=S) (V:=V) (tr:=tr) (by rw [List.getElem?_append_left hil];exact hi)
  rw [List.set_append_left _ _ hil] at h1
  obtain⟨hl,hx⟩:=wm hp
  have hnd:=List.pairwise_iff_getElem.1 (vf hn)
  have hz:∀ k,k < S1.length->∃ p m,S1[k]?=some p/\pS[k]?=some m/\Z[m]?=some p:=fun k hk=>by
    obtain⟨p,hp⟩:=iW hk
    obtain⟨m,h2,h3⟩:=hx k p hp
    exact⟨p,m,hp,h2,h3⟩
  refine Sat.Y2 (fun k=>if k < S1.length then h.length+X.length+pS.getD k 0 else i) h1 (fun k p hk=>?_) (fun a b ha hb e=>?_)
  ·by_cases hk1:k < S1.length
   ·obtain⟨p2,m,h2,h3,h4⟩:=hz k hk1
    rw [List.getElem?_append_left hk1,h2] at hk
    injection hk with hk
    subst hk
    simp only [if_pos hk1]
    rw [List.getD_eq_getElem?_getD,h3,List.getElem?_append_right (by rw [List.length_set];omega),List.length_set,List.getElem?_append_right (by omega)]
    show Z[h.length+X.length+m - h.length - X.length]?=_
    rw [show h.length+X.length+m - h.length - X.length=m by omega]
    exact h4
   rw [List.getElem?_append_right (by omega)] at hk
   have:k - S1.length=0:=by
     have:=bq hk
     simp at this
     omega
   rw [this] at hk
   injection hk with hk
   subst hk
   simp only [if_neg hk1]
   rw [List.getElem?_append_left (by rw [List.length_set];exact hil),List.getElem?_set_self hil]
  simp only [List.length_append,List.length_singleton] at ha hb
  have hlt:∀ k,k < S1.length->h.length+X.length+pS.getD k 0≠i:=fun k hk q=>by omega
  by_cases h1:a < S1.length<;>by_cases h2:b < S1.length
  ·simp only [if_pos h1,if_pos h2] at e
   have ga:pS.getD a 0=pS[a]'(by omega):=by rw [List.getD_eq_getElem?_getD,List.getElem?_eq_getElem (by omega)];rfl
   have gb:pS.getD b 0=pS[b]'(by omega):=by rw [List.getD_eq_getElem?_getD,List.getElem?_eq_getElem (by omega)];rfl
   rcases Nat.lt_trichotomy a b with q|q|q
   ·exact absurd (by rw [← ga,← gb];omega) (hnd a b (by omega) (by omega) q)
   ·exact q
   exact absurd (by rw [← ga,← gb];omega) (hnd b a (by omega) (by omega) q)
  ·simp only [if_pos h1,if_neg h2] at e;exact absurd e (hlt a h1)
  ·simp only [if_neg h1,if_pos h2] at e;exact absurd e.symm (hlt b h2)
  omega
theorem bw.Ko {P:Program} {β:Bs} {f:FuncId} {args:Array Value} {pre R:List HP} {post:Bs->Value->List HP->Prop} (h:∀ β':Bs,qC β R β'->bw P β' f args pre post):bw P β f args (pre++R) post:=by
  intro A w hS
  have h1:=Sat.turn hS
  rw [← List.append_assoc] at h1
  obtain⟨β',g1,_,g3⟩:=h1.BA
  refine (h β' g1 A w (Sat.turn g3)).mono ?_
  rintro e w' ⟨EQ,v,l,hle,h2⟩
  exact⟨EQ,v,l,g1.le.trans hle,h2⟩
section w
variable {β:Bs} {G:WG} {fs:List bh} {xs:List bM} {root:Int} {S:aI} {V:WV} {tr:List aB} {n:Nat} {h:Int} {r:HM} {A:Option Addr} {kz:Nat} {ps:List ByteArray} {mode:Int}
abbrev Dy (A:Option Addr) (n c:Nat) (ps:List ByteArray):HP:=.abs (aK 9 1 A n c (gZ ps))
theorem Dz (hc:r.code=0) (hrw:(Lit.int .i64 root).wf=true) (hI:Inv S) (hn:tr.length=n) (hn2:n<=100) (hZ:fF β G.Z xs) (hX:dZ xs 1048576) (hg:dQ β) (hE:jl β) (hw:(Lit.int .i64 h).wf=true) (hpl:ps.length<=1048576) (hps:∀ i,i < ps.length->(pc ps i).size<=1048576) (hr:fI fs xs root mode ps 0 S n h false 0=r) :
    Spec Tryz.prog β 10 (xI G h A ps.length kz mode) [wA G fs xs root S V tr,Dy A ps.length kz ps] (fun v l=>∃ (V':WV) (q:{ l:List aB // l.length=r.n }),v=.tuple #[.agg #[.int .i64 r.cur,.bool r.own,.int .i64 r.made],.nilIface]/\l=[wA G fs xs root r.S V' q.1]):=
  (bw.Ko (pre:=[wA G fs xs root S V tr]) (R:=[Dy A ps.length kz ps]) fun _ hL=>by
    obtain⟨F,h1,h2⟩:=hL.get 0 rfl
    exact Oi hc hrw hI hn hn2 (hZ.le hL.le) hX (hg.le hL.le) (hE.le hL.le) hw (cF.jx h1 h2 rfl) hpl hps hr).C3
theorem Ju (hc:¬ r.code=0) (hrw:(Lit.int .i64 root).wf=true) (hI:Inv S) (hn:tr.length=n) (hn2:n<=100) (hZ:fF β G.Z xs) (hX:dZ xs 1048576) (hg:dQ β) (hE:jl β) (hw:(Lit.int .i64 h).wf=true) (hpl:ps.length<=1048576) (hps:∀ i,i < ps.length->(pc ps i).size<=1048576) (hr:fI fs xs root mode ps 0 S n h false 0=r) :
    Spec Tryz.prog β 10 (xI G h A ps.length kz mode) [wA G fs xs root S V tr,Dy A ps.length kz ps] (fun v l=>∃ (V':WV) (q:{ l:List aB // l.length=r.n }) (e:Nat) (nm:ByteArray),v=.tuple #[.agg #[.int .i64 0,.bool false,.int .i64 r.made],.iface 92 (vP e)]/\l=[wA G fs xs root r.S V' q.1,.blk e [.int .i64 r.at_,.string nm,.int .i64 r.code] 94]):=
  (bw.Ko (pre:=[wA G fs xs root S V tr]) (R:=[Dy A ps.length kz ps]) fun _ hL=>by
    obtain⟨F,h1,h2⟩:=hL.get 0 rfl
    exact LJ hc hrw hI hn hn2 (hZ.le hL.le) hX (hg.le hL.le) (hE.le hL.le) hw (cF.jx h1 h2 rfl) hpl hps hr).C3
end w
section rules
variable {P:Program} {β rH:Bs} {N:dD} {ops:Array Oper} {S:List HP} {l:List (Bool×Nat)} {fr:Fr} {hps:List HP} {Q:Post} {i:Nat}
theorem af.Jv {id:Nat} (l:List (Bool×Nat)) (hm:P.follows .mixedOrders=true) (hB:Aj ops l=true) (hp:∀ w,Sat β hps w->Sat β S w) (h:fo P β N ops S l fr hps Q):af P β N (.region id ops true) fr hps Q:=by
  intro junk w hS
  unfold Aj at hB
  simp only [Bool.and_eq_true,beq_iff_eq] at hB
  obtain⟨⟨⟨h1,h2⟩,h3⟩,h4⟩:=hB
  have cU:=hS.drewN 1
  have h5:=qR (Q:=Q) h1 h2 l _ _ _ h4 (fun j oj _ hl=>by simp [Array.getD_eq_getD_getElem?,Array.getElem?_replicate] at hl;split at hl<;>simp at hl) (.inr (hp _ cU)) (h junk (w.drewN 1) cU)
  rw [h3] at h5
  refine Code.wp_mono (fun e a w q=>?_) (wp_region_any hm (lW _ _ _ _ h5))
  cases e with
  | normal=>exact q
  | exit id=>exact q.elim
  | goto l=>exact q.elim
  | ret=>exact q.elim
  | panic ch=>exact q.elim
  | outgrown=>exact q.elim
theorem uo.V8 {ι:Type} {B:ι->Bs} {Φ:ι->Prop} {fr':ι->Fr} {hp':ι->List HP} (hle:Grown rH β) (hg:gB ops i=true) (h:ak P β N (oo ops i) i fr hps (NP (Tq β N B Φ fr' hp'))) (hp:∀ j w,Sat (B j) (hp' j) w->Sat (B j) S w)
    (K:∀ j,β.le (B j)->Φ j->uo P (B j) rH N ops S l (fr' j) (hp' j) Q):uo P β rH N ops S ((false,i)::l) fr hps Q:=by
  intro junk w hS
  unfold lP
  refine nB hg (mD (Q':=_) (fun a w ⟨j,gE,hle2,yj,ha,cU⟩=>?_) _ (h junk w hS))
  subst ha
  exact⟨.inr ((hle.trans hle2).sat (hp j _ cU)),K j hle2 yj gE w cU⟩
theorem fo.II {ι:Type} {fr':ι->Fr} {hp':ι->List HP} (hg:gB ops i=true) (h:ak P β N (oo ops i) i fr hps (NP (nU β N fr' hp'))) (hp:∀ j w,Sat β (hp' j) w->Sat β S w)
    (K:∀ j,fo P β N ops S l (fr' j) (hp' j) Q):fo P β N ops S ((false,i)::l) fr hps Q:=by
  intro junk w hS
  unfold fY
  refine nB hg (mD (Q':=_) (fun a w ⟨j,gE,ha,cU⟩=>?_) _ (h junk w hS))
  subst ha
  exact⟨.inr (hp j _ cU),K j gE w cU⟩
end rules
end
section
open Go.RowKit Go.Maps bC aE
attribute [local irreducible] ak aW af aj
theorem sA {β:Bs} (A:Option Addr) (c:Nat) (d:List ByteArray) (hA:eU β A d) (hl:d.length<=1048576) :
    Spec Tryz.prog β 11 #[.slice A d.length c] [] (fun v l=>∃ B cap,v=.slice B d.length cap/\l=[.abs (aK 9 1 B d.length cap (gZ d))]):=by
 refine Spec.enter Tryz.func11 rfl Tryz.ntmps11 (Nat.le_of_ble_eq_true rfl) (fun R=>?_)
 refine SR (gK 1 [] [] ?_)
 refine NS (gN 2 (fun b1=>[(3,.slice (some ⟨b1,0,none⟩) (0) (0))]) (fun _=>[]) (fun _=>[]) (fun b1=>.blk b1 [] 9) (fun b1=>?_))
 refine NS (ak.mem (fun w hS=>hS.pQ (i:=1) (b:=b1) (cs:=[]) (e:=9) 1 0 (by kernel_rfl) rfl (by decide)) ?_)
 refine gK 2 [(5,.slice (some ⟨b1,0,none⟩) (0) (0)),(6,.slice A (d.length) (c))] [] ?_
 refine ak.append 1 (d:=(some 7)) (t:=35) (e:=9) (z:=.string ⟨#[]⟩) (size:=1) (bytes:=16) (n:=0) (cap:=0) (A:=some ⟨b1,0,none⟩) (xs:=[]) (s:=(.tmp 5)) (x:=(.tmp 6)) (ats:=#[35,35]) (A':=A) (m:=d.length) (c':=c) (news:=(gZ d)) (fun _=>by kernel_rfl) rfl (by kernel_rfl) (fun _=>by kernel_rfl) (fun _=>by kernel_rfl) Tryz.underlying35 (by kernel_rfl) rfl (by decide) (by rw [Nw,Nat.mul_one]) (P5) (hA.src) (by unfold maxLen;omega) (by omega) (fun A2 c3=>?_)
 refine ak.dI 1 (p:=.abs (aK 9 1 A2 (0+d.length) c3 ([]++(gZ d)))) (p':=.abs (aK 9 1 A2 d.length c3 (gZ d))) (by kernel_rfl) (by rw [Nat.zero_add,List.nil_append]) ?_
 refine ak.slot 7 (.slice A2 (0+d.length) (c3)) (.slice A2 (d.length) (c3)) (fun _=>by kernel_rfl) (by rw [Nat.zero_add]) ?_
 refine gK 1 [(3,.slice A2 (d.length) (c3))] [] ?_
 refine NS (gK 2 [(2,.slice A2 (d.length) (c3))] [] ?_)
 refine NN (af.ret ?_)
 exact RT (.slice A2 (d.length) (c3)) [1,0] (⟨A2,c3,rfl,rfl⟩)
end
section
open Go.RowKit
def ia (es:List jq) (id:Int):Nat->Nat
  | 0=>0
  | j+1=>ia es id j+(if (en es j).id=id then 1 else 0)
def fZ (ns:List aG) (id:Int):Nat->Nat
  | 0=>0
  | i+1=>fZ ns id i+ia (nd ns i).ah id (nd ns i).ah.length
theorem Fs (es:List jq) (id:Int) (j:Nat):ia es id j<=j:=by
  induction j with
  | zero=>exact Nat.le_refl _
  | succ j ih=>
    rw [ia]
    split<;>omega
theorem LO {es:List jq} {id:Int} {j:Nat} (h:(en es j).id=id):ia es id j+1=ia es id (j+1):=by rw [ia,if_pos h]
theorem Bc {es:List jq} {id:Int} {j:Nat} (h:¬ (en es j).id=id):ia es id j=ia es id (j+1):=by rw [ia,if_neg h];rfl
theorem LP (ns:List aG) (id:Int) (i:Nat):fZ ns id i<=dS ns i:=by
  induction i with
  | zero=>exact Nat.le_refl _
  | succ i ih=>
    rw [fZ,dS]
    have:=Fs (nd ns i).ah id (nd ns i).ah.length
    omega
theorem Oo {ns:List aG} {i:Nat} (h:dS ns ns.length<=8192) (id:Int) (hi:i<=ns.length):fZ ns id i<=8192:=
  Nat.le_trans (Nat.le_trans (LP ns id i) (q6 hi)) h
noncomputable def kO (ns:List aG) (id:Int):Int×Int:=if ¬ bp ns then (0,140) else if ¬ 0<=jm ns id then (0,141) else ((fZ ns id ns.length:Int),0)
theorem LQ {ns:List aG} {id:Int} (h:¬ bp ns):kO ns id=(0,140):=if_pos h
theorem Jw {ns:List aG} {id:Int} (h:bp ns) (h1:¬ 0<=jm ns id):kO ns id=(0,141):=by unfold kO;rw [if_neg (fun e=>e h),if_pos h1]
theorem Fu {ns:List aG} {id:Int} (h:bp ns) (h1:0<=jm ns id):kO ns id=((fZ ns id ns.length:Int),0):=by unfold kO;rw [if_neg (fun e=>e h),if_neg (fun e=>e h1)]
end
end Go.Proofs.YtiehgnlnofhbaaaGreatDoor
