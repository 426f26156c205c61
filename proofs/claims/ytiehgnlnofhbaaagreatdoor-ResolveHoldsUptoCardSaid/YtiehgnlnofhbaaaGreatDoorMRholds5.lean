/-
  PROVED HERE: lemmas and contracts of functions (texts of this repo, joined; what the claim does not use is left out): H12, Lw, LA, Lc, HW, Og, LC, Oh, Wm, WE, WF, WA, HA, HB, WB, Wc, WC, Wd, WK, EA, Df, RA, RB, Rh, We, WG, Wl, Wf, Rw.
  CONDITIONS: as the theorems say.
-/
import Derived.Test.YtiehgnlnofhbaaaGreatDoorMRholds4
import Derived.Stop.Asserts
import Derived.Defers
set_option maxRecDepth 100000
set_option maxHeartbeats 4000000
namespace Go.Proofs.YtiehgnlnofhbaaaGreatDoor
section
open Go.RowKit Go.Maps bF aB
attribute [local irreducible] ak aR af aj
abbrev rU (b2:Nat) (X:FM):=(.blk b2 [vI (X.cN),vI (X.cB),vI (X.cH),vI (X.cS),vI (X.cZ)] 28:HP)
abbrev rG (b1:Nat) (A:Option Addr) (ns:List aL) (c):=(.blk b1 [.slice A (ns.length) (c)] 24:HP)
abbrev rV (b8:Nat) (ns) (k:Nat) (Y:Lay):=(.blk b8 [vI ((nd ns k).id),vI ((nd ns k).kind),vI ((nd ns k).mode),vI ((nd ns k).uid),vI ((nd ns k).gid),vI ((nd ns k).sec),vI ((nd ns k).nano),.slice (Y.dA k) ((nd ns k).data.length) ((Y.dC k)),.string (nd ns k).target,.slice (Y.eA k) ((nd ns k).ah.length) ((Y.eC k))] 108:HP)
abbrev Ac (b9:Nat) (ns) (k:Nat):=(.blk b9 [vI ((nd ns k).id),vI ((nd ns k).mode),vI ((nd ns k).uid),vI ((nd ns k).gid),vI ((nd ns k).sec),vI ((nd ns k).nano),vI 0,vI 0,.bool false] 161:HP)
abbrev xL (b1:Nat) (A:Option Addr) (ns) (c) (b7:Nat) (m3:Nat) (t4:Nat) (S:aG) (L:HL) (R:bY):=([rG b1 A ns c,pF b7 m3 t4 S.X,pI m3 L S.idx,lP t4 S L,pO S.O L,pD S.O L,pE S.O L,.abs R]:List HP)
abbrev PW (A:Option Addr) (ns:List aL) (c) (i:Nat) (Y:Lay) (j:Nat):=([(123,.slice A (ns.length) (c)),(124,vI ↑ns.length),(125,vI ↑i),(130,.slice (Y.eA i) ((nd ns i).ah.length) ((Y.eC i))),(131,vI ↑((nd ns i).ah.length)),(132,vI ↑j)]:Fr)
abbrev Mu (b1:Nat) (X:FM):=([(2,vP b1),(39,.agg #[vI (X.cN),vI (X.cB),vI (X.cH),vI (X.cS),vI (X.cZ)])]:Fr)
abbrev Mv (b1:Nat) (b7:Nat) (A:Option Addr) (ns:List aL) (c) (k:Nat):=([(2,vP b1),(6,vP b7),(47,.slice A (ns.length) (c)),(48,vI ↑ns.length),(49,vI ↑k)]:Fr)
abbrev Jm (b1:Nat) (b7:Nat) (b8:Nat) (A:Option Addr) (ns:List aL) (c) (k:Nat):=([(2,vP b1),(6,vP b7),(8,vP b8),(47,.slice A (ns.length) (c)),(48,vI ↑ns.length),(49,vI ↑k)]:Fr)
abbrev OL (b1:Nat) (b7:Nat) (b8:Nat) (A:Option Addr) (ns:List aL) (c) (k:Nat):=([(2,vP b1),(6,vP b7),(8,vP b8),(47,.slice A (ns.length) (c)),(48,vI ↑ns.length),(49,vI ↑k)]:Fr)
abbrev Ky (b7:Nat) (b16:Nat):=([(6,vP b7),(11,vP b16)]:Fr)
abbrev OM (S:aG) (ns) (k:Nat) (b7:Nat):=([(118,vI (S.X.used+(((nd ns k).data.length:Nat):Int))),(120,.pointer (some ⟨b7,9,none⟩))]:Fr)
theorem Jo {β:Bs} (A:Option Addr) (c:Nat) (ns:List aL) (Y:Lay) (hG:aI β A ns Y) (hl:ns.length<=1048576) (hd:∀ i,i < ns.length->(nd ns i).data.length<=1048576/\(nd ns i).ah.length<=1048576) (hwf:∀ i,i < ns.length->∀ j,j < (nd ns i).ah.length->-9223372036854775808<=(ent ns i j).id/\(ent ns i j).id<=9223372036854775807) (hnm:∀ i,i < ns.length->∀ j,j < (nd ns i).ah.length->(ent ns i j).name.size<=1048576) (X:FM) :
    Spec Tryz.prog β 48 #[.agg #[.slice A (ns.length) (c)],.agg #[vI (X.cN),vI (X.cB),vI (X.cH),vI (X.cS),vI (X.cZ)]] [] (fun v l=>(¬ jT X/\v=.tuple #[.pointer none,vI 179]/\l=[])\/(jT X/\¬ bS ns/\v=.tuple #[.pointer none,vI 140]/\l=[])\/(jT X/\bS ns/\∃ S f m t L,gy X ns ns.length 0 S/\v=.tuple #[vP f,vI 0]/\l=pA f m t L S)):=by
 refine Spec.enter Tryz.func48 rfl Tryz.ntmps48 (Nat.le_of_ble_eq_true rfl) (fun R=>?_)
 refine SR (gN 1 (fun b1=>[(2,vP b1)]) (fun _=>[]) (fun _=>[]) (fun b1=>.blk b1 [.slice A (ns.length) (c)] 24) (fun b1=>?_))
 refine gN 3 (fun b2=>[(3,vP b2)]) (fun _=>[]) (fun _=>[]) (fun b2=>.blk b2 [vI (X.cN),vI (X.cB),vI (X.cH),vI (X.cS),vI (X.cZ)] 28) (fun b2=>?_)
 refine NN (af.seq (SR (gK 2 [(15,vI (X.cN))] [(1,a_ 2 b2)] ?_)))
 refine gL [] (gE X.cN 4096) ?_
 rintro _ _ ⟨rfl,rfl⟩
 refine gK 2 [(18,.bool (!(decide ((0<=X.cN/\X.cN<=4096)))))] [] ?_
 refine ak.kX 18 ((0<=X.cN/\X.cN<=4096)) (fun _=>by kernel_rfl) (fun qW=>?_) (fun qW=>?_)
 ·refine gK 17 [(35,.bool true)] [] ?_
  refine NN (CT (SR (gK 2 [(4,.pointer none),(5,vI 179)] [] ?_)))
  refine NN (af.ret (aj.aq ?_))
  exact RT (.tuple #[.pointer none,vI 179]) [0] (.inl ⟨fun h=>qW h.cN,rfl,rfl⟩)
 refine gK 2 [(20,vI (X.cB))] [(1,a_ 2 b2)] ?_
 refine gL [] (gE X.cB 1099511627776) ?_
 rintro _ _ ⟨rfl,rfl⟩
 refine gK 3 [(24,.bool (!(decide ((0<=X.cB/\X.cB<=1099511627776)))))] [] ?_
 refine ak.kX 24 ((0<=X.cB/\X.cB<=1099511627776)) (fun _=>by kernel_rfl) (fun Cx=>?_) (fun Cx=>?_)
 ·refine gK 11 [(35,.bool true)] [] ?_
  refine NN (CT (SR (gK 2 [(4,.pointer none),(5,vI 179)] [] ?_)))
  refine NN (af.ret (aj.aq ?_))
  exact RT (.tuple #[.pointer none,vI 179]) [0] (.inl ⟨fun h=>Cx h.cB,rfl,rfl⟩)
 refine gK 2 [(26,vI (X.cH))] [(1,a_ 2 b2)] ?_
 refine gL [] (gE X.cH 1024) ?_
 rintro _ _ ⟨rfl,rfl⟩
 refine gK 3 [(30,.bool (!(decide ((0<=X.cH/\X.cH<=1024)))))] [] ?_
 refine ak.kX 30 ((0<=X.cH/\X.cH<=1024)) (fun _=>by kernel_rfl) (fun ny=>?_) (fun ny=>?_)
 ·refine gK 5 [(35,.bool true)] [] ?_
  refine NN (CT (SR (gK 2 [(4,.pointer none),(5,vI 179)] [] ?_)))
  refine NN (af.ret (aj.aq ?_))
  exact RT (.tuple #[.pointer none,vI 179]) [0] (.inl ⟨fun h=>ny h.cH,rfl,rfl⟩)
 refine gK 2 [(32,.agg #[vI (X.cS),vI (X.cZ)])] [(1,A_ 2 b2 2)] ?_
 refine gL [] (jj X.cS X.cZ) ?_
 rintro _ _ ⟨rfl,rfl⟩
 refine gK 2 [(35,.bool (!(decide (ef X.cS X.cZ))))] [] ?_
 refine NN (af.dx (p:=ef X.cS X.cZ) (fun _=>by kernel_rfl) (fun ko=>?_) (fun ko=>?_))
 ·refine SR (gK 2 [(4,.pointer none),(5,vI 179)] [] ?_)
  refine NN (af.ret (aj.aq ?_))
  exact RT (.tuple #[.pointer none,vI 179]) [0] (.inl ⟨fun h=>ko h.now,rfl,rfl⟩)
 have hcap:jT X:=⟨qW,Cx,ny,ko⟩
 refine af.skip (NX (af.seq (SR (gK 1 [(36,.agg #[.slice A (ns.length) (c)])] [(0,a_ 1 b1)] ?_))))
 refine gL [] (Ng A c ns Y hG hl (fun i hi=>⟨Nat.le_trans (hd i hi).1 (by decide),(hd i hi).2⟩) hwf hnm) ?_
 rintro _ _ ⟨rfl,rfl⟩
 refine gK 1 [(38,.bool (!(decide (((if bS ns then 0 else 140):Int)=(0:Int)))))] [] ?_
 refine NN (af.dx (p:=((if bS ns then 0 else 140):Int)=(0:Int)) (fun _=>by kernel_rfl) (fun BM=>?_) (fun BM=>?_))
 ·have WL:¬ bS ns:=fun h=>BM (if_pos h)
  refine SR (gK 2 [(4,.pointer none),(5,vI 140)] [] ?_)
  refine NN (af.ret (aj.aq ?_))
  exact RT (.tuple #[.pointer none,vI 140]) [0] (.inr (.inl ⟨hcap,WL,rfl,rfl⟩))
 have hok:bS ns:=Classical.byContradiction (fun h=>by rw [if_neg h] at BM;exact absurd BM (by decide))
 refine af.skip (NX (af.seq (af.sC (S:=[rU b2 X]) [0,2,3] [.two 1 4,.one 5,.one 6,.one 7] [2] (by kernel_rfl) (by kernel_rfl) rfl (by kernel_rfl) ?_)))
 refine gP (Mu b1 X++[(42,vI (X.cH))]) [0,2,3] [(0,A_ 0 b2 5),(2,a_ 0 b2)] ?_
 refine jq.pair (ι:=Nat×Nat) (RY:=Nat) (RZ:=Nat) (LM:=fun (m3:Nat)=>(Mu b1 X++[(40,.map (some m3)),(42,vI (X.cH))])) (hpi:=fun (m3:Nat)=>[.abs R,rG b1 A ns c,rU b2 X,.abs (aP Tryz.prog 3 m3 (fun _=>none) 0)]) (LO:=fun (t5:Nat)=>(Mu b1 X++[(43,vP t5)])) (LP:=fun (t5:Nat)=>[.abs (cE 212 t5 (min (max X.cH 0) 1024) 0 []),.abs R,rG b1 A ns c,rU b2 X]) (fr':=fun ((m3,t4):Nat×Nat)=>[(2,vP b1),(39,.agg #[vI (X.cN),vI (X.cB),vI (X.cH),vI (X.cS),vI (X.cZ)]),(40,.map (some m3)),(43,vP t4)]) (hp':=fun ((m3,t4):Nat×Nat)=>[.abs (cE 212 t4 (min (max X.cH 0) 1024) 0 []),.abs R,rG b1 A ns c,rU b2 X,.abs (aP Tryz.prog 3 m3 (fun _=>none) 0)]) [2] [3] [3] rfl rfl rfl rfl ?_ ?_ ?_ ?_ rfl (fun _=>by kernel_rfl) rfl (fun _=>by kernel_rfl) rfl (fun _=>by kernel_rfl) ?_
 ·refine ak.mF (d:=(some 40)) (t:=151) (fun _=>by kernel_rfl) Tryz.prog rfl 3 (fun m3=>?_)
  refine NL ?_
  exact MD m3 [2,39,40,42] [0,1,2,3]
 ·rintro m3
  show ak _ _ _ _ _ (Mu b1 X++[(40,.map (some m3)),(42,vI (X.cH))]) [.abs R,rG b1 A ns c,rU b2 X,.abs (aP Tryz.prog 3 m3 (fun _=>none) 0)] _
  refine gL [] (FQ X.cH) ?_
  rintro _ _ ⟨t4,rfl,rfl⟩
  refine NL ?_
  exact MD (m3,t4) [2,39,40,43] [0,1,2,3,4]
 ·refine gL [] (FQ X.cH) ?_
  rintro _ _ ⟨t5,rfl,rfl⟩
  refine NL ?_
  exact MD t5 [2,39,43] [0,1,2,3]
 ·rintro t5
  show ak _ _ _ _ _ (Mu b1 X++[(43,vP t5)]) [.abs (cE 212 t5 (min (max X.cH 0) 1024) 0 []),.abs R,rG b1 A ns c,rU b2 X] _
  refine ak.mF (d:=(some 40)) (t:=151) (fun _=>by kernel_rfl) Tryz.prog rfl 3 (fun m6=>?_)
  refine NL ?_
  exact MD (m6,t5) [2,39,40,43] [0,1,2,3,4]
 rintro⟨m3,t4⟩
 refine jq.cut (ι:=Unit) (fr':=fun (_:Unit)=>[(2,vP b1),(44,.agg #[vI (X.cN),vI (X.cB),vI (X.cH),vI (X.cS),vI (X.cZ),.map (some m3),vP t4,vI 0,vI 0,vI 0])]) (hp':=fun (_:Unit)=>[.abs (cE 212 t4 (min (max X.cH 0) 1024) 0 []),.abs R,rG b1 A ns c,rU b2 X,.abs (aP Tryz.prog 3 m3 (fun _=>none) 0)]) [3] rfl rfl ?_ rfl (fun _=>by kernel_rfl) ?_
 ·refine gK 1 [(44,.agg #[vI (X.cN),vI (X.cB),vI (X.cH),vI (X.cS),vI (X.cZ),.map (some m3),vP t4,vI 0,vI 0,vI 0])] [] ?_
  refine NL ?_
  exact MD () [2,44] [0,1,2,3,4]
 rintro _
 refine jq.cut (ι:=Nat) (fr':=fun (b7:Nat)=>[(2,vP b1),(45,vP b7)]) (hp':=fun (b7:Nat)=>[.abs (cE 212 t4 (min (max X.cH 0) 1024) 0 []),.abs R,rG b1 A ns c,rU b2 X,.abs (aP Tryz.prog 3 m3 (fun _=>none) 0),pF b7 m3 t4 { X with last:=0,ah:=0,used:=0 }]) [3] rfl rfl ?_ rfl (fun _=>by kernel_rfl) ?_
 ·refine gN 1 (fun b7=>[(45,vP b7)]) (fun _=>[]) (fun _=>[]) (fun b7=>pF b7 m3 t4 { X with last:=0,ah:=0,used:=0 }) (fun b7=>?_)
  refine NL ?_
  exact MD b7 [2,45] [0,1,2,3,4,5]
 rintro b7
 refine jq.last rfl rfl ?_
 refine gK 1 [(6,vP b7)] [] ?_
 refine NL (aj.np (NX (af.seq (SR ?_))))
 obtain⟨L,XW⟩:∃ L:HL,L=⟨fun _=>0,fun _=>0,fun _=>none,fun _=>0⟩:=⟨_,rfl⟩
 refine ak.mem (fun w hS=>hS.ET (bN (iP X).O L) (Br X L).1) ?_
 refine ak.mem (fun w hS=>hS.ET (bO (iP X).O L) (Br X L).2.1) ?_
 refine ak.mem (fun w hS=>hS.ET (cJ (iP X).O L) (Br X L).2.2) ?_
 have hc:min (max X.cH 0) 1024=X.cH:=by have:=hcap.cH;omega
 refine ak.mem (cP:=[.abs (cE 212 t4 (iP X).X.cH (iP X).av (bn L (iP X).us)),.abs R,.blk b1 [.slice A (ns.length) (c)] 24,.blk b2 [vI (X.cN),vI (X.cB),vI (X.cH),vI (X.cS),vI (X.cZ)] 28,.abs (aP Tryz.prog 3 m3 (bg (bn L (iP X).idx)) ((iP X).idx.length)),.blk b7 [vI ((iP X).X.cN),vI ((iP X).X.cB),vI ((iP X).X.cH),vI ((iP X).X.cS),vI ((iP X).X.cZ),.map (some m3),vP t4,vI ((iP X).X.last),vI ((iP X).X.ah),vI ((iP X).X.used)] 154,.abs (ay (bN ((iP X).O) L)),.abs (ay (bO ((iP X).O) L)),.abs (ay (cJ ((iP X).O) L))]) (fun w hS=>by rw [hc,← FO] at hS;exact hS) ?_
 refine gK 4 [(47,.slice A (ns.length) (c)),(48,vI ↑ns.length),(49,vI 0)] [(1,a_ 2 b1)] ?_
 refine NN (af.block ?_)
 refine af.loop (ι:=Nat×aG×HL) (fun ((k,S,L):Nat×aG×HL)=>(k<=ns.length)/\(mT X ns k S)) (fun ((k,S,L):Nat×aG×HL)=>ns.length - k) (fun ((k,S,L):Nat×aG×HL)=>(Mv b1 b7 A ns c k)) (fun ((k,S,L):Nat×aG×HL)=>(xL b1 A ns c b7 m3 t4 S L R)) (0,(iP X),L) (idx:=[2,6,47,48,49]) (pk:=[2,5,4,0,6,7,8,1]) (show (0<=ns.length)/\(mT X ns 0 ((iP X))) from ⟨Nat.zero_le _,Mh hcap⟩) (fun _=>by kernel_rfl) rfl (by kernel_rfl) ?_
 rintro⟨k,S,L⟩ ⟨hk,hB⟩
 show af _ _ _ _ (Mv b1 b7 A ns c k) (xL b1 A ns c b7 m3 t4 S L R) _
 refine SR (gK 1 [(50,.bool (decide ((((k:Nat):Int):Int) < (((ns.length:Nat):Int):Int))))] [] ?_)
 refine NN (af.seq (af.bh (p:=(((k:Nat):Int):Int) < (((ns.length:Nat):Int):Int)) (fun _=>by kernel_rfl) (fun h50=>?_) (fun h50=>?_)))
 ·have hk2:k < ns.length:=by omega
  have hdk:=hd k hk2
  have hds:=Ev (fun i hi=>(hd i hi).1) hk
  have Oq:=hok.ids k hk2
  have hni:=hB.new hok hk2
  have qA:(Lit.int .i64 (nd ns k).id).wf=true:=WalkArith.wf_i64 (by omega)
  have hkk:=(hok.node k hk2).kind
  have dL:S.X.used=(tF ns k:Int):=by rw [hB.cap]
  have hil:=hB.inv.len
  refine af.skip (NX (af.seq (af.block (SR ?_))))
  refine gN 4 (fun b8=>[(8,vP b8)]) (fun b8=>[(0,p_ ⟨[],some k,none,some ⟨(aE A),aD A,none⟩,none⟩ [((k:Nat):Int)=((k:Nat):Int),k < ns.length,(⟨(aE A),aD A,none⟩:Addr).spot=none,(A:Option Addr)=some ⟨(aE A),aD A,none⟩] ⟨rfl,by omega,rfl,aI.hd hG (i:=k) (by omega),trivial⟩),(1,p_ ⟨[.old (.int .i64 ((nd ns k).id)),.old (.int .i64 ((nd ns k).kind)),.old (.int .i64 ((nd ns k).mode)),.old (.int .i64 ((nd ns k).uid)),.old (.int .i64 ((nd ns k).gid)),.old (.int .i64 ((nd ns k).sec)),.old (.int .i64 ((nd ns k).nano)),.old (.slice (Y.dA k) ((nd ns k).data.length) ((Y.dC k))),.old (.string (nd ns k).target),.old (.slice (Y.eA k) ((nd ns k).ah.length) ((Y.eC k)))],none,none,none,none⟩ [(Rd β ⟨(aE A),aD A+k * 10+9,none⟩ (.slice (Y.eA k) ((nd ns k).ah.length) ((Y.eC k)))),(Rd β ⟨(aE A),aD A+k * 10+8,none⟩ (.string (nd ns k).target)),(Rd β ⟨(aE A),aD A+k * 10+7,none⟩ (.slice (Y.dA k) ((nd ns k).data.length) ((Y.dC k)))),(Rd β ⟨(aE A),aD A+k * 10+6,none⟩ (.int .i64 ((nd ns k).nano))),(Rd β ⟨(aE A),aD A+k * 10+5,none⟩ (.int .i64 ((nd ns k).sec))),(Rd β ⟨(aE A),aD A+k * 10+4,none⟩ (.int .i64 ((nd ns k).gid))),(Rd β ⟨(aE A),aD A+k * 10+3,none⟩ (.int .i64 ((nd ns k).uid))),(Rd β ⟨(aE A),aD A+k * 10+2,none⟩ (.int .i64 ((nd ns k).mode))),(Rd β ⟨(aE A),aD A+k * 10+1,none⟩ (.int .i64 ((nd ns k).kind))),(Rd β ⟨(aE A),aD A+k * 10,none⟩ (.int .i64 ((nd ns k).id)))] ⟨aI.rd hG (i:=k) (by omega) (j:=9) rfl,aI.rd hG (i:=k) (by omega) (j:=8) rfl,aI.rd hG (i:=k) (by omega) (j:=7) rfl,aI.rd hG (i:=k) (by omega) (j:=6) rfl,aI.rd hG (i:=k) (by omega) (j:=5) rfl,aI.rd hG (i:=k) (by omega) (j:=4) rfl,aI.rd hG (i:=k) (by omega) (j:=3) rfl,aI.rd hG (i:=k) (by omega) (j:=2) rfl,aI.rd hG (i:=k) (by omega) (j:=1) rfl,aI.rd hG (i:=k) (by omega) (j:=0) rfl,trivial⟩),(3,A_ 8 b8 10)]) (fun _=>[]) (fun b8=>.blk b8 [vI ((nd ns k).id),vI ((nd ns k).kind),vI ((nd ns k).mode),vI ((nd ns k).uid),vI ((nd ns k).gid),vI ((nd ns k).sec),vI ((nd ns k).nano),.slice (Y.dA k) ((nd ns k).data.length) ((Y.dC k)),.string (nd ns k).target,.slice (Y.eA k) ((nd ns k).ah.length) ((Y.eC k))] 108) (fun b8=>?_)
  refine NS (gN 13 (fun b9=>[(9,vP b9)]) (fun b9=>[(1,a_ 8 b8),(3,a_ 8 b8),(5,a_ 8 b8),(7,a_ 8 b8),(9,A_ 8 b8 2),(12,A_ 9 b9 9)]) (fun _=>[]) (fun b9=>.blk b9 [vI ((nd ns k).id),vI ((nd ns k).mode),vI ((nd ns k).uid),vI ((nd ns k).gid),vI ((nd ns k).sec),vI ((nd ns k).nano),vI 0,vI 0,.bool false] 161) (fun b9=>?_))
  refine NN (af.seq (SR (gK 2 [(65,vI ((nd ns k).kind))] [(1,a_ 8 b8)] ?_)))
  refine NN (af.block (SR ?_))
  refine gK 2 [(77,.bool (decide (((nd ns k).kind:Int)=(1:Int))))] [] ?_
  refine NN (af.bh (p:=((nd ns k).kind:Int)=(1:Int)) (fun _=>by kernel_rfl) (fun hk1=>?_) (fun hk1=>?_))
  ·refine af.bU (S:=[pF b7 m3 t4 S.X,rV b8 ns k Y,Ac b9 ns k]) [0,1,2,3,4,5,6,7,8,9,10,11,12,13] 9 [1,8,9] (by kernel_rfl) (by kernel_rfl) rfl (by kernel_rfl) ?_
   refine gR 0 [9,10,11,12,13] (OL b1 b7 b8 A ns c k++[(82,.map (some m3)),(84,vI ((nd ns k).id)),(85,.agg #[vI ((nd ns k).id),vI ((nd ns k).mode),vI ((nd ns k).uid),vI ((nd ns k).gid),vI ((nd ns k).sec),vI ((nd ns k).nano),vI 0,vI 0,.bool false]),(87,.slice (Y.dA k) ((nd ns k).data.length) ((Y.dC k)))]) [0,1,2,3,4,5,6,7,8] [(3,a_ 0 b7),(5,a_ 1 b8),(6,A_ 2 b9 9),(8,a_ 1 b8)] ?_
   refine mL [2,9,10] [] (uX (Y.dA k) (Y.dC k) (nd ns k).data (hG.data k (by omega)) (by have:=(hd k (by omega)).1;omega)) ?_ (by rintro _ _ ⟨pZ,c11,rfl,rfl⟩;rfl)
   rintro _ _ ⟨pZ,c11,rfl,rfl⟩
   refine aO.cut (ι:=Unit) (fr':=fun (_:Unit)=>(Jm b1 b7 b8 A ns c k++[(82,.map (some m3)),(84,vI ((nd ns k).id)),(89,.agg #[vI ((nd ns k).id),vI ((nd ns k).mode),vI ((nd ns k).uid),vI ((nd ns k).gid),vI ((nd ns k).sec),vI ((nd ns k).nano),vI 0,vI 0,.bool false,.slice pZ ((nd ns k).data.length) (c11)])])) (hp':=fun (_:Unit)=>([.abs (aJ 5 1 pZ ((nd ns k).data.length) c11 (cL (nd ns k).data))]++xL b1 A ns c b7 m3 t4 S L R++[rV b8 ns k Y,Ac b9 ns k])) [2,9,10] rfl rfl ?_ rfl (fun _=>by kernel_rfl) ?_
   ·refine gK 1 [(89,.agg #[vI ((nd ns k).id),vI ((nd ns k).mode),vI ((nd ns k).uid),vI ((nd ns k).gid),vI ((nd ns k).sec),vI ((nd ns k).nano),vI 0,vI 0,.bool false,.slice pZ ((nd ns k).data.length) (c11)])] [] ?_
    refine NL ?_
    exact MD () [2,6,8,47,48,49,82,84,89] [0,1,2,3,4,5,6,7,8,9,10]
   rintro _
   refine mN [2,9,10] (fun b12=>[(90,vP b12)]) (fun _=>[]) (fun b12=>.blk b12 [vI ((nd ns k).id),vI ((nd ns k).mode),vI ((nd ns k).uid),vI ((nd ns k).gid),vI ((nd ns k).sec),vI ((nd ns k).nano),vI 0,vI 0,.bool false,.slice pZ ((nd ns k).data.length) (c11)] 165) (fun b12=>?_)
   refine aO.cut (ι:=Unit) (fr':=fun (_:Unit)=>(Jm b1 b7 b8 A ns c k++[(82,.map (some m3)),(84,vI ((nd ns k).id)),(91,.iface 162 (vP b12))])) (hp':=fun (_:Unit)=>([.abs (aJ 5 1 pZ ((nd ns k).data.length) c11 (cL (nd ns k).data))]++xL b1 A ns c b7 m3 t4 S L R++[rV b8 ns k Y,Ac b9 ns k,.blk b12 [vI ((nd ns k).id),vI ((nd ns k).mode),vI ((nd ns k).uid),vI ((nd ns k).gid),vI ((nd ns k).sec),vI ((nd ns k).nano),vI 0,vI 0,.bool false,.slice pZ ((nd ns k).data.length) (c11)] 165])) [2,9,10] rfl rfl ?_ rfl (fun _=>by kernel_rfl) ?_
   ·refine gK 1 [(91,.iface 162 (vP b12))] [] ?_
    refine NL ?_
    exact MD () [2,6,8,47,48,49,82,84,91] [0,1,2,3,4,5,6,7,8,9,10,11]
   rintro _
   refine aO.last rfl rfl ?_
   obtain⟨L2,hL2⟩:∃ L2:HL,L2=L.put (fU (nd ns k)) b12 0 pZ c11:=⟨_,rfl⟩
   have hfr:=hB.fresh hok (by omega)
   refine ak.mem (fun w hS=>hS.uh hL2 hfr (o:=(qc (nd ns k))) (i:=5) (j:=11) (ix:=[0,1,2,3,4,6,7,8,9,10]) rfl rfl (by kernel_rfl) rfl (by show (nd ns k).kind≠0;rw [hk1];decide) ((iU (L:=L2) (k:=(fU (nd ns k))) (o:=(qc (nd ns k))) hk1).trans (by rw [show L2.dA (fU (nd ns k))=pZ by rw [hL2];exact if_pos rfl,show L2.dC (fU (nd ns k))=c11 by rw [hL2];exact if_pos rfl];rfl)) (by show kR (nd ns k).kind=_;rw [hk1]<;>rfl)) ?_
   refine ak.dN [(7,.abs (ay (cJ ((cI S (nd ns k)).O) L2)))] (fun w hS=>hS.vw hL2 hfr (o:=(qc (nd ns k))) (i:=7) rfl (by show ¬ (nd ns k).kind=2;rw [hk1];decide)) ?_
   refine ak.mem (cP:=[pD ((cI S (nd ns k)).O) L2,pO ((cI S (nd ns k)).O) L2,rG b1 A ns c,pF b7 m3 t4 S.X,pI m3 L S.idx,lP t4 S L,pE ((cI S (nd ns k)).O) L2,.abs R,rV b8 ns k Y,Ac b9 ns k]) (fun w hS=>hS.Uc hL2 (o:=(qc (nd ns k))) (i:=6) (j:=1) (ix:=[0,2,3,4,5,7,8,9,10]) rfl rfl (by kernel_rfl) rfl hk1) ?_
   refine ak.dN [(4,.abs (aP Tryz.prog 3 m3 (bg (bn L2 S.idx)) S.idx.length)),(5,.abs (cE 212 t4 S.X.cH S.av (bn L2 S.us)))] (fun w hS=>by rw [iH hL2 hfr.idx,iH hL2 hfr.us];exact hS) ?_
   have G3:dR L2 (pV (nd ns k))=.iface 162 (vP b12):=by unfold pV;rw [oW hL2,hk1];rfl
   refine ak.ld 4 (d:=none) (t:=151) (K:=3) (E:=156) (b:=m3) (n:=S.idx.length) (f:=(bg (bn L2 S.idx))) (x:=(.tmp 82)) (ix:=(.tmp 84)) (y:=(.tmp 91)) (key:=.int .i64 ((nd ns k).id)) (u:=.iface 162 (vP b12)) (kl:=(.int .i64 (nd ns k).id)) (n':=(S.idx.length+1)) (f':=(bg (bn L2 (ins (nd ns k).id (pV (nd ns k)) S.idx)))) (fun _=>by kernel_rfl) (by kernel_rfl) (fun _=>by kernel_rfl) (fun _=>by kernel_rfl) (fun _=>by kernel_rfl) eE Tryz.underlying151 (by unfold maxLen;omega) (iR qA) (by rw [fP,hni];rfl) (by rw [← G3];exact sJ hni) ?_
   refine NL (aj.np (aj.aQ (NX (SR ?_))))
   refine gC 6 [] [(2,a_ 8 b8),(5,a_ 3 b7)] [(3,[(7,vI ((nd ns k).id))])] ?_
   refine NN (af.bU (S:=[pF b7 m3 t4 { S.X with last:=(nd ns k).id },rV b8 ns k Y]) [0,1,2,3,4,5,6,7,8,9,10] 10 [3,8] (by kernel_rfl) (by kernel_rfl) rfl (by kernel_rfl) ?_)
   refine gR 0 [10] (Mv b1 b7 A ns c k++OM S ns k b7) [0,1,2,3,4,5,6,7,8,9] [(3,a_ 0 b7),(5,a_ 1 b8),(7,p_ ⟨[],none,none,none,some (vI (S.X.used+(((nd ns k).data.length:Nat):Int)))⟩ [(Value.int .i64 (IntKind.wrap .i64 (S.X.used+(((nd ns k).data.length:Nat):Int))))=(.int .i64 (S.X.used+(((nd ns k).data.length:Nat):Int)))] ⟨aY (by omega) (by omega) (by omega),trivial⟩)] ?_
   refine aO.last rfl rfl ?_
   refine gC 1 [] [(0,a_ 3 b7)] [(3,[(9,vI (S.X.used+(((nd ns k).data.length:Nat):Int)))])] ?_
   refine NL (aj.np (aj.aQ (NX (af.region ?_))))
   refine gK 2 [(49,vI ↑(k+1))] [(0,p_ ⟨[],none,none,none,some (vI ↑(k+1))⟩ [(Value.int .i64 (IntKind.wrap .i64 (((k:Nat):Int)+1)))=(.int .i64 ↑(k+1))] ⟨aY (by omega) (by omega) (by omega),trivial⟩)] ?_
   refine NL (aj.dN [(3,.blk b7 [vI ((cI S (nd ns k)).X.cN),vI ((cI S (nd ns k)).X.cB),vI ((cI S (nd ns k)).X.cH),vI ((cI S (nd ns k)).X.cS),vI ((cI S (nd ns k)).X.cZ),.map (some m3),vP t4,vI ((cI S (nd ns k)).X.last),vI ((cI S (nd ns k)).X.ah),vI ((cI S (nd ns k)).X.used)] 154),(4,.abs (aP Tryz.prog 3 m3 (bg (bn L2 (cI S (nd ns k)).idx)) ((cI S (nd ns k)).idx.length))),(5,.abs (cE 212 t4 (cI S (nd ns k)).X.cH (cI S (nd ns k)).av (bn L2 (cI S (nd ns k)).us)))] (fun w hS=>by rw [show (cI S (nd ns k)).idx.length=S.idx.length+1 from iE _ _ _];exact hS) ?_)
   exact aj.turn ((k+1),(cI S (nd ns k)),L2) (idx:=[2,6,47,48,49]) (pk:=[2,3,4,5,1,0,6,7]) (show (((k+1))<=ns.length)/\(mT X ns ((k+1)) ((cI S (nd ns k)))) from ⟨by omega,yY hok (fun i hi=>(hd i hi).1) (by omega) hB⟩) (by show ns.length - ((k+1)) < ns.length - k;omega) (fun _=>by kernel_rfl) rfl (by kernel_rfl)
  refine SR (gK 2 [(92,.bool (decide (((nd ns k).kind:Int)=(3:Int))))] [] ?_)
  refine NN (af.bh (p:=((nd ns k).kind:Int)=(3:Int)) (fun _=>by kernel_rfl) (fun hk3=>?_) (fun hk3=>?_))
  ·refine af.bU (S:=[pF b7 m3 t4 S.X,rV b8 ns k Y,Ac b9 ns k]) [0,1,2,3,4,5,6,7,8,9,10,11,12] 10 [1,8,9] (by kernel_rfl) (by kernel_rfl) rfl (by kernel_rfl) ?_
   refine gR 0 [10,11,12] (OL b1 b7 b8 A ns c k++[(97,.map (some m3)),(99,vI ((nd ns k).id)),(103,.agg #[vI ((nd ns k).id),vI ((nd ns k).mode),vI ((nd ns k).uid),vI ((nd ns k).gid),vI ((nd ns k).sec),vI ((nd ns k).nano),vI 0,vI 0,.bool false,.string (nd ns k).target])]) [0,1,2,3,4,5,6,7,8,9] [(3,a_ 0 b7),(5,a_ 1 b8),(6,A_ 2 b9 9),(8,a_ 1 b8)] ?_
   refine mN [1,8,9] (fun b13=>[(104,vP b13)]) (fun _=>[]) (fun b13=>.blk b13 [vI ((nd ns k).id),vI ((nd ns k).mode),vI ((nd ns k).uid),vI ((nd ns k).gid),vI ((nd ns k).sec),vI ((nd ns k).nano),vI 0,vI 0,.bool false,.string (nd ns k).target] 168) (fun b13=>?_)
   refine aO.cut (ι:=Unit) (fr':=fun (_:Unit)=>(Jm b1 b7 b8 A ns c k++[(97,.map (some m3)),(99,vI ((nd ns k).id)),(105,.iface 166 (vP b13))])) (hp':=fun (_:Unit)=>(xL b1 A ns c b7 m3 t4 S L R++[rV b8 ns k Y,Ac b9 ns k,.blk b13 [vI ((nd ns k).id),vI ((nd ns k).mode),vI ((nd ns k).uid),vI ((nd ns k).gid),vI ((nd ns k).sec),vI ((nd ns k).nano),vI 0,vI 0,.bool false,.string (nd ns k).target] 168])) [1,8,9] rfl rfl ?_ rfl (fun _=>by kernel_rfl) ?_
   ·refine gK 1 [(105,.iface 166 (vP b13))] [] ?_
    refine NL ?_
    exact MD () [2,6,8,47,48,49,97,99,105] [0,1,2,3,4,5,6,7,8,9,10]
   rintro _
   refine aO.last rfl rfl ?_
   obtain⟨L2,hL2⟩:∃ L2:HL,L2=L.put (fU (nd ns k)) b13 0 none 0:=⟨_,rfl⟩
   have hfr:=hB.fresh hok (by omega)
   refine ak.mem (fun w hS=>hS.uh hL2 hfr (o:=(qc (nd ns k))) (i:=4) (j:=10) (ix:=[0,1,2,3,5,6,7,8,9]) rfl rfl (by kernel_rfl) rfl (by show (nd ns k).kind≠0;rw [hk3];decide) ((yg (L:=L2) (k:=(fU (nd ns k))) (o:=(qc (nd ns k))) hk3).trans (by rfl)) (by show kR (nd ns k).kind=_;rw [hk3]<;>rfl)) ?_
   refine ak.dN [(6,.abs (ay (cJ ((cI S (nd ns k)).O) L2)))] (fun w hS=>hS.vw hL2 hfr (o:=(qc (nd ns k))) (i:=6) rfl (by show ¬ (nd ns k).kind=2;rw [hk3];decide)) ?_
   refine ak.dN [(5,.abs (ay (bO ((cI S (nd ns k)).O) L2)))] (fun w hS=>hS.Cc hL2 (o:=(qc (nd ns k))) (i:=5) rfl (by show ¬ (nd ns k).kind=1;rw [hk3];decide)) ?_
   refine ak.dN [(3,.abs (aP Tryz.prog 3 m3 (bg (bn L2 S.idx)) S.idx.length)),(4,.abs (cE 212 t4 S.X.cH S.av (bn L2 S.us)))] (fun w hS=>by rw [iH hL2 hfr.idx,iH hL2 hfr.us];exact hS) ?_
   have G3:dR L2 (pV (nd ns k))=.iface 166 (vP b13):=by unfold pV;rw [oW hL2,hk3];rfl
   refine ak.ld 3 (d:=none) (t:=151) (K:=3) (E:=156) (b:=m3) (n:=S.idx.length) (f:=(bg (bn L2 S.idx))) (x:=(.tmp 97)) (ix:=(.tmp 99)) (y:=(.tmp 105)) (key:=.int .i64 ((nd ns k).id)) (u:=.iface 166 (vP b13)) (kl:=(.int .i64 (nd ns k).id)) (n':=(S.idx.length+1)) (f':=(bg (bn L2 (ins (nd ns k).id (pV (nd ns k)) S.idx)))) (fun _=>by kernel_rfl) (by kernel_rfl) (fun _=>by kernel_rfl) (fun _=>by kernel_rfl) (fun _=>by kernel_rfl) eE Tryz.underlying151 (by unfold maxLen;omega) (iR qA) (by rw [fP,hni];rfl) (by rw [← G3];exact sJ hni) ?_
   refine NL (aj.np (aj.aQ (NX (SR ?_))))
   refine gC 6 [] [(2,a_ 8 b8),(5,a_ 2 b7)] [(2,[(7,vI ((nd ns k).id))])] ?_
   refine NN (af.bU (S:=[pF b7 m3 t4 { S.X with last:=(nd ns k).id },rV b8 ns k Y]) [0,1,2,3,4,5,6,7,8,9,10] 10 [2,8] (by kernel_rfl) (by kernel_rfl) rfl (by kernel_rfl) ?_)
   refine gR 0 [10] (Mv b1 b7 A ns c k++OM S ns k b7) [0,1,2,3,4,5,6,7,8,9] [(3,a_ 0 b7),(5,a_ 1 b8),(7,p_ ⟨[],none,none,none,some (vI (S.X.used+(((nd ns k).data.length:Nat):Int)))⟩ [(Value.int .i64 (IntKind.wrap .i64 (S.X.used+(((nd ns k).data.length:Nat):Int))))=(.int .i64 (S.X.used+(((nd ns k).data.length:Nat):Int)))] ⟨aY (by omega) (by omega) (by omega),trivial⟩)] ?_
   refine aO.last rfl rfl ?_
   refine gC 1 [] [(0,a_ 2 b7)] [(2,[(9,vI (S.X.used+(((nd ns k).data.length:Nat):Int)))])] ?_
   refine NL (aj.np (aj.aQ (NX (af.region ?_))))
   refine gK 2 [(49,vI ↑(k+1))] [(0,p_ ⟨[],none,none,none,some (vI ↑(k+1))⟩ [(Value.int .i64 (IntKind.wrap .i64 (((k:Nat):Int)+1)))=(.int .i64 ↑(k+1))] ⟨aY (by omega) (by omega) (by omega),trivial⟩)] ?_
   refine NL (aj.dN [(2,.blk b7 [vI ((cI S (nd ns k)).X.cN),vI ((cI S (nd ns k)).X.cB),vI ((cI S (nd ns k)).X.cH),vI ((cI S (nd ns k)).X.cS),vI ((cI S (nd ns k)).X.cZ),.map (some m3),vP t4,vI ((cI S (nd ns k)).X.last),vI ((cI S (nd ns k)).X.ah),vI ((cI S (nd ns k)).X.used)] 154),(3,.abs (aP Tryz.prog 3 m3 (bg (bn L2 (cI S (nd ns k)).idx)) ((cI S (nd ns k)).idx.length))),(4,.abs (cE 212 t4 (cI S (nd ns k)).X.cH (cI S (nd ns k)).av (bn L2 (cI S (nd ns k)).us)))] (fun w hS=>by rw [show (cI S (nd ns k)).idx.length=S.idx.length+1 from iE _ _ _];exact hS) ?_)
   exact aj.turn ((k+1),(cI S (nd ns k)),L2) (idx:=[2,6,47,48,49]) (pk:=[1,2,3,4,0,5,6,7]) (show (((k+1))<=ns.length)/\(mT X ns ((k+1)) ((cI S (nd ns k)))) from ⟨by omega,yY hok (fun i hi=>(hd i hi).1) (by omega) hB⟩) (by show ns.length - ((k+1)) < ns.length - k;omega) (fun _=>by kernel_rfl) rfl (by kernel_rfl)
  have nu:(nd ns k).kind=2:=by omega
  refine af.bU (S:=[pF b7 m3 t4 S.X,rV b8 ns k Y,Ac b9 ns k]) [0,1,2,3,4,5,6,7,8,9,10,11] 7 [1,8,9] (by kernel_rfl) (by kernel_rfl) rfl (by kernel_rfl) ?_
  refine gR 0 [7,8,9,10,11] (OL b1 b7 b8 A ns c k++[(69,.map (some m3)),(71,vI ((nd ns k).id)),(72,.agg #[vI ((nd ns k).id),vI ((nd ns k).mode),vI ((nd ns k).uid),vI ((nd ns k).gid),vI ((nd ns k).sec),vI ((nd ns k).nano),vI 0,vI 0,.bool false])]) [0,1,2,3,4,5,6] [(3,a_ 0 b7),(5,a_ 1 b8),(6,A_ 2 b9 9)] ?_
  refine aO.cut (ι:=Nat) (fr':=fun (m14:Nat)=>(Jm b1 b7 b8 A ns c k++[(69,.map (some m3)),(71,vI ((nd ns k).id)),(72,.agg #[vI ((nd ns k).id),vI ((nd ns k).mode),vI ((nd ns k).uid),vI ((nd ns k).gid),vI ((nd ns k).sec),vI ((nd ns k).nano),vI 0,vI 0,.bool false]),(73,.map (some m14))])) (hp':=fun (m14:Nat)=>(xL b1 A ns c b7 m3 t4 S L R++[rV b8 ns k Y,Ac b9 ns k,.abs (aP Tryz.prog 9 m14 (fun _=>none) 0)])) [1,8,9] rfl rfl ?_ rfl (fun _=>by kernel_rfl) ?_
  ·refine ak.mF (d:=(some 73)) (t:=174) (fun _=>by kernel_rfl) Tryz.prog rfl 9 (fun m14=>?_)
   refine NL ?_
   exact MD m14 [2,6,8,47,48,49,69,71,72,73] [0,1,2,3,4,5,6,7,8,9,10]
  rintro m14
  refine aO.cut (ι:=Unit) (fr':=fun (_:Unit)=>(Jm b1 b7 b8 A ns c k++[(69,.map (some m3)),(71,vI ((nd ns k).id)),(74,.agg #[vI ((nd ns k).id),vI ((nd ns k).mode),vI ((nd ns k).uid),vI ((nd ns k).gid),vI ((nd ns k).sec),vI ((nd ns k).nano),vI 0,vI 0,.bool false,.map (some m14),.pointer none])])) (hp':=fun (_:Unit)=>(xL b1 A ns c b7 m3 t4 S L R++[rV b8 ns k Y,Ac b9 ns k,.abs (aP Tryz.prog 9 m14 (fun _=>none) 0)])) [1,8,9] rfl rfl ?_ rfl (fun _=>by kernel_rfl) ?_
  ·refine gK 1 [(74,.agg #[vI ((nd ns k).id),vI ((nd ns k).mode),vI ((nd ns k).uid),vI ((nd ns k).gid),vI ((nd ns k).sec),vI ((nd ns k).nano),vI 0,vI 0,.bool false,.map (some m14),.pointer none])] [] ?_
   refine NL ?_
   exact MD () [2,6,8,47,48,49,69,71,74] [0,1,2,3,4,5,6,7,8,9,10]
  rintro _
  refine mN [1,8,9] (fun b15=>[(75,vP b15)]) (fun _=>[]) (fun b15=>.blk b15 [vI ((nd ns k).id),vI ((nd ns k).mode),vI ((nd ns k).uid),vI ((nd ns k).gid),vI ((nd ns k).sec),vI ((nd ns k).nano),vI 0,vI 0,.bool false,.map (some m14),.pointer none] 176) (fun b15=>?_)
  refine aO.cut (ι:=Unit) (fr':=fun (_:Unit)=>(Jm b1 b7 b8 A ns c k++[(69,.map (some m3)),(71,vI ((nd ns k).id)),(76,.iface 169 (vP b15))])) (hp':=fun (_:Unit)=>(xL b1 A ns c b7 m3 t4 S L R++[rV b8 ns k Y,Ac b9 ns k,.abs (aP Tryz.prog 9 m14 (fun _=>none) 0),.blk b15 [vI ((nd ns k).id),vI ((nd ns k).mode),vI ((nd ns k).uid),vI ((nd ns k).gid),vI ((nd ns k).sec),vI ((nd ns k).nano),vI 0,vI 0,.bool false,.map (some m14),.pointer none] 176])) [1,8,9] rfl rfl ?_ rfl (fun _=>by kernel_rfl) ?_
  ·refine gK 1 [(76,.iface 169 (vP b15))] [] ?_
   refine NL ?_
   exact MD () [2,6,8,47,48,49,69,71,76] [0,1,2,3,4,5,6,7,8,9,10,11]
  rintro _
  refine aO.last rfl rfl ?_
  obtain⟨L2,hL2⟩:∃ L2:HL,L2=L.put (fU (nd ns k)) b15 m14 none 0:=⟨_,rfl⟩
  have hfr:=hB.fresh hok (by omega)
  refine ak.mem (fun w hS=>hS.uh hL2 hfr (o:=(qc (nd ns k))) (i:=4) (j:=11) (ix:=[0,1,2,3,5,6,7,8,9,10]) rfl rfl (by kernel_rfl) rfl (by show (nd ns k).kind≠0;rw [nu];decide) ((lY (L:=L2) (k:=(fU (nd ns k))) (o:=(qc (nd ns k))) nu).trans (by rw [FX hL2];rfl)) (by show kR (nd ns k).kind=_;rw [nu]<;>rfl)) ?_
  refine ak.mem (fun w hS=>hS.Po hL2 hfr (o:=(qc (nd ns k))) (i:=6) (j:=10) (ix:=[0,1,2,3,4,5,7,8,9]) rfl rfl (by kernel_rfl) rfl nu rfl) ?_
  refine ak.dN [(6,.abs (ay (bO ((cI S (nd ns k)).O) L2)))] (fun w hS=>hS.Cc hL2 (o:=(qc (nd ns k))) (i:=6) rfl (by show ¬ (nd ns k).kind=1;rw [nu];decide)) ?_
  refine ak.dN [(4,.abs (aP Tryz.prog 3 m3 (bg (bn L2 S.idx)) S.idx.length)),(5,.abs (cE 212 t4 S.X.cH S.av (bn L2 S.us)))] (fun w hS=>by rw [iH hL2 hfr.idx,iH hL2 hfr.us];exact hS) ?_
  have G3:dR L2 (pV (nd ns k))=.iface 169 (vP b15):=by unfold pV;rw [oW hL2,nu];rfl
  refine ak.ld 4 (d:=none) (t:=151) (K:=3) (E:=156) (b:=m3) (n:=S.idx.length) (f:=(bg (bn L2 S.idx))) (x:=(.tmp 69)) (ix:=(.tmp 71)) (y:=(.tmp 76)) (key:=.int .i64 ((nd ns k).id)) (u:=.iface 169 (vP b15)) (kl:=(.int .i64 (nd ns k).id)) (n':=(S.idx.length+1)) (f':=(bg (bn L2 (ins (nd ns k).id (pV (nd ns k)) S.idx)))) (fun _=>by kernel_rfl) (by kernel_rfl) (fun _=>by kernel_rfl) (fun _=>by kernel_rfl) (fun _=>by kernel_rfl) eE Tryz.underlying151 (by unfold maxLen;omega) (iR qA) (by rw [fP,hni];rfl) (by rw [← G3];exact sJ hni) ?_
  refine NL (aj.np (aj.aQ (NX (SR ?_))))
  refine gC 6 [] [(2,a_ 8 b8),(5,a_ 3 b7)] [(3,[(7,vI ((nd ns k).id))])] ?_
  refine NN (af.bU (S:=[pF b7 m3 t4 { S.X with last:=(nd ns k).id },rV b8 ns k Y]) [0,1,2,3,4,5,6,7,8,9,10] 10 [3,8] (by kernel_rfl) (by kernel_rfl) rfl (by kernel_rfl) ?_)
  refine gR 0 [10] (Mv b1 b7 A ns c k++OM S ns k b7) [0,1,2,3,4,5,6,7,8,9] [(3,a_ 0 b7),(5,a_ 1 b8),(7,p_ ⟨[],none,none,none,some (vI (S.X.used+(((nd ns k).data.length:Nat):Int)))⟩ [(Value.int .i64 (IntKind.wrap .i64 (S.X.used+(((nd ns k).data.length:Nat):Int))))=(.int .i64 (S.X.used+(((nd ns k).data.length:Nat):Int)))] ⟨aY (by omega) (by omega) (by omega),trivial⟩)] ?_
  refine aO.last rfl rfl ?_
  refine gC 1 [] [(0,a_ 3 b7)] [(3,[(9,vI (S.X.used+(((nd ns k).data.length:Nat):Int)))])] ?_
  refine NL (aj.np (aj.aQ (NX (af.region ?_))))
  refine gK 2 [(49,vI ↑(k+1))] [(0,p_ ⟨[],none,none,none,some (vI ↑(k+1))⟩ [(Value.int .i64 (IntKind.wrap .i64 (((k:Nat):Int)+1)))=(.int .i64 ↑(k+1))] ⟨aY (by omega) (by omega) (by omega),trivial⟩)] ?_
  refine NL (aj.dN [(3,.blk b7 [vI ((cI S (nd ns k)).X.cN),vI ((cI S (nd ns k)).X.cB),vI ((cI S (nd ns k)).X.cH),vI ((cI S (nd ns k)).X.cS),vI ((cI S (nd ns k)).X.cZ),.map (some m3),vP t4,vI ((cI S (nd ns k)).X.last),vI ((cI S (nd ns k)).X.ah),vI ((cI S (nd ns k)).X.used)] 154),(4,.abs (aP Tryz.prog 3 m3 (bg (bn L2 (cI S (nd ns k)).idx)) ((cI S (nd ns k)).idx.length))),(5,.abs (cE 212 t4 (cI S (nd ns k)).X.cH (cI S (nd ns k)).av (bn L2 (cI S (nd ns k)).us)))] (fun w hS=>by rw [show (cI S (nd ns k)).idx.length=S.idx.length+1 from iE _ _ _];exact hS) ?_)
  exact aj.turn ((k+1),(cI S (nd ns k)),L2) (idx:=[2,6,47,48,49]) (pk:=[2,3,4,5,1,6,0,7]) (show (((k+1))<=ns.length)/\(mT X ns ((k+1)) ((cI S (nd ns k)))) from ⟨by omega,yY hok (fun i hi=>(hd i hi).1) (by omega) hB⟩) (by show ns.length - ((k+1)) < ns.length - k;omega) (fun _=>by kernel_rfl) rfl (by kernel_rfl)
 refine af.exit (aj.br (aj.br (aj.dM (NX (af.seq (SR ?_))))))
 refine gK 4 [(123,.slice A (ns.length) (c)),(124,vI ↑ns.length),(125,vI 0)] [(1,a_ 0 b1)] ?_
 refine NN (af.block ?_)
 refine af.loop (ι:=Nat×aG) (fun ((i,S1):Nat×aG)=>(i<=ns.length)/\(gy X ns i 0 S1)) (fun ((i,S1):Nat×aG)=>ns.length - i) (fun ((i,S1):Nat×aG)=>[(6,vP b7),(123,.slice A (ns.length) (c)),(124,vI ↑ns.length),(125,vI ↑i)]) (fun ((i,S1):Nat×aG)=>(xL b1 A ns c b7 m3 t4 S1 L R)) (0,S) (idx:=[6,123,124,125]) (pk:=[0,1,2,3,4,5,6,7]) (show (0<=ns.length)/\(gy X ns 0 0 S) from ⟨Nat.zero_le _,by have h:=hB;rw [show k=ns.length by omega] at h;exact h.ah⟩) (fun _=>by kernel_rfl) rfl (by kernel_rfl) ?_
 rintro⟨i,S1⟩ ⟨hi,hE⟩
 show af _ _ _ _ [(6,vP b7),(123,.slice A (ns.length) (c)),(124,vI ↑ns.length),(125,vI ↑i)] (xL b1 A ns c b7 m3 t4 S1 L R) _
 refine SR (gK 1 [(126,.bool (decide ((((i:Nat):Int):Int) < (((ns.length:Nat):Int):Int))))] [] ?_)
 refine NN (af.seq (af.bh (p:=(((i:Nat):Int):Int) < (((ns.length:Nat):Int):Int)) (fun _=>by kernel_rfl) (fun VW=>?_) (fun VW=>?_)))
 ·refine af.skip (NX (af.seq (af.block (SR ?_))))
  refine gN 4 (fun b16=>[(11,vP b16)]) (fun b16=>[(0,p_ ⟨[],some i,none,some ⟨(aE A),aD A,none⟩,none⟩ [((i:Nat):Int)=((i:Nat):Int),i < ns.length,(⟨(aE A),aD A,none⟩:Addr).spot=none,(A:Option Addr)=some ⟨(aE A),aD A,none⟩] ⟨rfl,by omega,rfl,aI.hd hG (i:=i) (by omega),trivial⟩),(1,p_ ⟨[.old (.int .i64 ((nd ns i).id)),.old (.int .i64 ((nd ns i).kind)),.old (.int .i64 ((nd ns i).mode)),.old (.int .i64 ((nd ns i).uid)),.old (.int .i64 ((nd ns i).gid)),.old (.int .i64 ((nd ns i).sec)),.old (.int .i64 ((nd ns i).nano)),.old (.slice (Y.dA i) ((nd ns i).data.length) ((Y.dC i))),.old (.string (nd ns i).target),.old (.slice (Y.eA i) ((nd ns i).ah.length) ((Y.eC i)))],none,none,none,none⟩ [(Rd β ⟨(aE A),aD A+i * 10+9,none⟩ (.slice (Y.eA i) ((nd ns i).ah.length) ((Y.eC i)))),(Rd β ⟨(aE A),aD A+i * 10+8,none⟩ (.string (nd ns i).target)),(Rd β ⟨(aE A),aD A+i * 10+7,none⟩ (.slice (Y.dA i) ((nd ns i).data.length) ((Y.dC i)))),(Rd β ⟨(aE A),aD A+i * 10+6,none⟩ (.int .i64 ((nd ns i).nano))),(Rd β ⟨(aE A),aD A+i * 10+5,none⟩ (.int .i64 ((nd ns i).sec))),(Rd β ⟨(aE A),aD A+i * 10+4,none⟩ (.int .i64 ((nd ns i).gid))),(Rd β ⟨(aE A),aD A+i * 10+3,none⟩ (.int .i64 ((nd ns i).uid))),(Rd β ⟨(aE A),aD A+i * 10+2,none⟩ (.int .i64 ((nd ns i).mode))),(Rd β ⟨(aE A),aD A+i * 10+1,none⟩ (.int .i64 ((nd ns i).kind))),(Rd β ⟨(aE A),aD A+i * 10,none⟩ (.int .i64 ((nd ns i).id)))] ⟨aI.rd hG (i:=i) (by omega) (j:=9) rfl,aI.rd hG (i:=i) (by omega) (j:=8) rfl,aI.rd hG (i:=i) (by omega) (j:=7) rfl,aI.rd hG (i:=i) (by omega) (j:=6) rfl,aI.rd hG (i:=i) (by omega) (j:=5) rfl,aI.rd hG (i:=i) (by omega) (j:=4) rfl,aI.rd hG (i:=i) (by omega) (j:=3) rfl,aI.rd hG (i:=i) (by omega) (j:=2) rfl,aI.rd hG (i:=i) (by omega) (j:=1) rfl,aI.rd hG (i:=i) (by omega) (j:=0) rfl,trivial⟩),(3,A_ 8 b16 10)]) (fun _=>[]) (fun b16=>.blk b16 [vI ((nd ns i).id),vI ((nd ns i).kind),vI ((nd ns i).mode),vI ((nd ns i).uid),vI ((nd ns i).gid),vI ((nd ns i).sec),vI ((nd ns i).nano),.slice (Y.dA i) ((nd ns i).data.length) ((Y.dC i)),.string (nd ns i).target,.slice (Y.eA i) ((nd ns i).ah.length) ((Y.eC i))] 108) (fun b16=>?_)
  refine NS (gK 4 [(130,.slice (Y.eA i) ((nd ns i).ah.length) ((Y.eC i))),(131,vI ↑((nd ns i).ah.length)),(132,vI 0)] [(1,a_ 8 b16)] ?_)
  refine NN (af.block ?_)
  refine af.loop (ι:=Nat×aG) (fun ((j,S2):Nat×aG)=>(j<=(nd ns i).ah.length)/\(gy X ns i j S2)) (fun ((j,S2):Nat×aG)=>(nd ns i).ah.length - j) (fun ((j,S2):Nat×aG)=>(Ky b7 b16++PW A ns c i Y j)) (fun ((j,S2):Nat×aG)=>([rV b16 ns i Y]++xL b1 A ns c b7 m3 t4 S2 L R)) (0,S1) (idx:=[6,11,123,124,125,130,131,132]) (pk:=[8,0,1,2,3,4,5,6,7]) (show (0<=(nd ns i).ah.length)/\(gy X ns i 0 S1) from ⟨Nat.zero_le _,hE⟩) (fun _=>by kernel_rfl) rfl (by kernel_rfl) ?_
  rintro⟨j,S2⟩ ⟨hj,vQ⟩
  show af _ _ _ _ (Ky b7 b16++PW A ns c i Y j) ([rV b16 ns i Y]++xL b1 A ns c b7 m3 t4 S2 L R) _
  refine SR (gK 1 [(133,.bool (decide ((((j:Nat):Int):Int) < ((((nd ns i).ah.length:Nat):Int):Int))))] [] ?_)
  refine NN (af.seq (af.bh (p:=(((j:Nat):Int):Int) < ((((nd ns i).ah.length:Nat):Int):Int)) (fun _=>by kernel_rfl) (fun VX=>?_) (fun VX=>?_)))
  ·have hj2:j < (nd ns i).ah.length:=by omega
   have hi2:i < ns.length:=by omega
   have VY:=vQ.get hi2
   obtain⟨hes,hno,hk2⟩:=vQ.look hok hi2 hj2
   have SE:=vL hok hi2 hj2
   have Pt:aB.get S2.idx (nd ns i).id=some ⟨(fU (nd ns i)),2⟩:=by rw [VY];unfold pV;rw [hk2]
   have hge:aB.get S2.idx (ent ns i j).id=some (mE ns (ent ns i j)):=by rw [← SE.2];exact vQ.get SE.1
   have Oq:=hok.ids i hi2
   have hiw:(Lit.int .i64 (nd ns i).id).wf=true:=WalkArith.wf_i64 (by omega)
   have WM:(Lit.int .i64 (ent ns i j).id).wf=true:=WalkArith.wf_i64 (by have:=hwf i hi2 j hj2;omega)
   have hld:=vQ.live hok hi2
   have hlt:=vQ.live hok SE.1
   have hkd:(obj S2.O (fU (nd ns i))).kind=2:=(vQ.inv.kind hld).trans hk2
   have hkt:(obj S2.O (mE ns (ent ns i j)).k).kind=(mE ns (ent ns i j)).kind:=vQ.inv.kind hlt
   have h3:(mE ns (ent ns i j)).kind=1\/(mE ns (ent ns i j)).kind=2\/(mE ns (ent ns i j)).kind=3:=(vQ.inv.ob _ hlt).2.2
   have hlb:0<=(obj S2.O (mE ns (ent ns i j)).k).links/\(obj S2.O (mE ns (ent ns i j)).k).links<=8192:=vQ.inv.lb hlt
   have hel:(obj S2.O (fU (nd ns i))).ah.length<=8192:=vQ.inv.ic hld
   have hsz:=hnm i hi2 j hj2
   have hde:=hd i hi2
   have XY:=vQ.inv.hX
   refine af.skip (NX (af.seq (af.block (SR ?_))))
   refine gN 4 (fun b17=>[(13,vP b17)]) (fun b17=>[(0,p_ ⟨[],some j,none,some ⟨(aE (Y.eA i)),aD (Y.eA i),none⟩,none⟩ [((j:Nat):Int)=((j:Nat):Int),j < (nd ns i).ah.length,(⟨(aE (Y.eA i)),aD (Y.eA i),none⟩:Addr).spot=none,((Y.eA i):Option Addr)=some ⟨(aE (Y.eA i)),aD (Y.eA i),none⟩] ⟨rfl,by omega,rfl,fM.hd (hG.ah i (by omega)) (i:=j) (by omega),trivial⟩),(1,p_ ⟨[.old (.string (en (nd ns i).ah j).name),.old (.int .i64 ((en (nd ns i).ah j).id))],none,none,none,none⟩ [(Rd β ⟨(aE (Y.eA i)),aD (Y.eA i)+j * 2+1,none⟩ (.int .i64 ((en (nd ns i).ah j).id))),(Rd β ⟨(aE (Y.eA i)),aD (Y.eA i)+j * 2,none⟩ (.string (en (nd ns i).ah j).name))] ⟨fM.rd (hG.ah i (by omega)) (i:=j) (by omega) (j:=1) rfl,fM.rd (hG.ah i (by omega)) (i:=j) (by omega) (j:=0) rfl,trivial⟩),(3,A_ 9 b17 2)]) (fun _=>[]) (fun b17=>.blk b17 [.string (en (nd ns i).ah j).name,vI ((en (nd ns i).ah j).id)] 110) (fun b17=>?_)
   refine NN (af.seq (af.bU (S:=[pF b7 m3 t4 S2.X,pI m3 L S2.idx,rV b16 ns i Y,.blk b17 [.string (en (nd ns i).ah j).name,vI ((en (nd ns i).ah j).id)] 110]) [0,1,2,3,4,5,6,7,8,9,10,11,12,13,14,15,16,17] 17 [2,3,0,9] (by kernel_rfl) (by kernel_rfl) rfl (by kernel_rfl) ?_))
   refine gR 11 [6,7,8,9,10,11,12,13,14,15,16,17] (Ky b7 b16++[(13,vP b17)]++PW A ns c i Y j++[(139,.map (some m3)),(141,vI ((nd ns i).id))]) [0,1,2,3,4,5] [(3,a_ 0 b7),(5,a_ 2 b16)] ?_
   refine aO.eP 1 (d:=(some 142)) (t:=151) (K:=3) (E:=156) (b:=m3) (cnt:=S2.idx.length) (f:=(bg (bn L S2.idx))) (x:=(.tmp 139)) (ix:=(.tmp 141)) (key:=.int .i64 ((nd ns i).id)) (z:=.nilIface) (kl:=(.int .i64 (nd ns i).id)) (q:=(some (dR L ⟨(fU (nd ns i)),2⟩))) (by kernel_rfl) (by kernel_rfl) (fun _=>by kernel_rfl) (fun _=>by kernel_rfl) eE Tryz.underlying151 (fun _=>by kernel_rfl) (iR hiw) (by rw [fP,Pt];rfl) (by kernel_rfl) ?_
   refine gR 1 [16,17] (Ky b7 b16++PW A ns c i Y j++[(143,vP (L.b (fU (nd ns i)))),(145,.string (en (nd ns i).ah j).name),(149,.map (some m3)),(151,vI ((en (nd ns i).ah j).id))]) [7,8,9,10,11,12,13,14,15] [(2,a_ 3 b17),(6,a_ 0 b7),(8,a_ 3 b17)] ?_
   refine aO.eP 1 (d:=(some 152)) (t:=151) (K:=3) (E:=156) (b:=m3) (cnt:=S2.idx.length) (f:=(bg (bn L S2.idx))) (x:=(.tmp 149)) (ix:=(.tmp 151)) (key:=.int .i64 ((en (nd ns i).ah j).id)) (z:=.nilIface) (kl:=(.int .i64 (ent ns i j).id)) (q:=(some (dR L (mE ns (ent ns i j))))) (by kernel_rfl) (by kernel_rfl) (fun _=>by kernel_rfl) (fun _=>by kernel_rfl) eE Tryz.underlying151 (fun _=>by kernel_rfl) (iR WM) (by rw [fP,hge];rfl) (by kernel_rfl) ?_
   refine aO.last rfl rfl ?_
   refine gL [5,7] (I7 S2.O L (fU (nd ns i)) hkd (ent ns i j).name hsz hno (by omega) (mE ns (ent ns i j)) hkt h3 (by omega)) ?_
   rintro _ _ ⟨rfl,rfl⟩
   refine NL (aj.np (NX (af.region ?_)))
   refine gC 8 [] [(3,a_ 4 b7),(4,p_ ⟨[],none,none,none,some (vI (S2.X.ah+1))⟩ [(Value.int .i64 (IntKind.wrap .i64 (S2.X.ah+1)))=(.int .i64 (S2.X.ah+1))] ⟨aY (by omega) (by omega) (by omega),trivial⟩),(7,a_ 4 b7)] [(4,[(8,vI (S2.X.ah+1))])] ?_
   refine NL (aj.aQ (NX (af.region ?_)))
   refine gK 2 [(132,vI ↑(j+1))] [(0,p_ ⟨[],none,none,none,some (vI ↑(j+1))⟩ [(Value.int .i64 (IntKind.wrap .i64 (((j:Nat):Int)+1)))=(.int .i64 ↑(j+1))] ⟨aY (by omega) (by omega) (by omega),trivial⟩)] ?_
   refine NL (aj.dN [(0,.abs (ay (bN ((lH ns S2 (nd ns i) (ent ns i j)).O) L))),(1,.abs (ay (cJ ((lH ns S2 (nd ns i) (ent ns i j)).O) L))),(4,.blk b7 [vI ((lH ns S2 (nd ns i) (ent ns i j)).X.cN),vI ((lH ns S2 (nd ns i) (ent ns i j)).X.cB),vI ((lH ns S2 (nd ns i) (ent ns i j)).X.cH),vI ((lH ns S2 (nd ns i) (ent ns i j)).X.cS),vI ((lH ns S2 (nd ns i) (ent ns i j)).X.cZ),.map (some m3),vP t4,vI ((lH ns S2 (nd ns i) (ent ns i j)).X.last),vI ((lH ns S2 (nd ns i) (ent ns i j)).X.ah),vI ((lH ns S2 (nd ns i) (ent ns i j)).X.used)] 154),(5,.abs (aP Tryz.prog 3 m3 (bg (bn L (lH ns S2 (nd ns i) (ent ns i j)).idx)) ((lH ns S2 (nd ns i) (ent ns i j)).idx.length))),(6,.abs (cE 212 t4 (lH ns S2 (nd ns i) (ent ns i j)).X.cH (lH ns S2 (nd ns i) (ent ns i j)).av (bn L (lH ns S2 (nd ns i) (ent ns i j)).us))),(7,.abs (ay (bO ((lH ns S2 (nd ns i) (ent ns i j)).O) L)))] (fun w hS=>by rw [show bO (lH ns S2 (nd ns i) (ent ns i j)).O L=bO S2.O L from QF];exact hS) ?_)
   exact aj.turn ((j+1),(lH ns S2 (nd ns i) (ent ns i j))) (idx:=[6,11,123,124,125,130,131,132]) (pk:=[2,3,4,5,6,0,7,1,8]) (show (((j+1))<=(nd ns i).ah.length)/\(gy X ns i ((j+1)) ((lH ns S2 (nd ns i) (ent ns i j)))) from ⟨by omega,vQ.step hok (by omega) (by omega)⟩) (by show (nd ns i).ah.length - ((j+1)) < (nd ns i).ah.length - j;omega) (fun _=>by kernel_rfl) rfl (by kernel_rfl)
  refine af.exit (aj.br (aj.br (aj.dM (aj.aQ (NX (af.region ?_))))))
  refine gK 2 [(125,vI ↑(i+1))] [(0,p_ ⟨[],none,none,none,some (vI ↑(i+1))⟩ [(Value.int .i64 (IntKind.wrap .i64 (((i:Nat):Int)+1)))=(.int .i64 ↑(i+1))] ⟨aY (by omega) (by omega) (by omega),trivial⟩)] ?_
  refine NL ?_
  exact aj.turn ((i+1),S2) (idx:=[6,123,124,125]) (pk:=[1,2,3,4,5,6,7,8]) (show (((i+1))<=ns.length)/\(gy X ns ((i+1)) 0 S2) from ⟨by omega,by have h:=vQ;rw [show j=(nd ns i).ah.length by omega] at h;exact h.next⟩) (by show ns.length - ((i+1)) < ns.length - i;omega) (fun _=>by kernel_rfl) rfl (by kernel_rfl)
 refine af.exit (aj.br (aj.br (aj.dM (NX (SR ?_)))))
 refine gK 3 [(4,vP b7),(5,vI 0)] [] ?_
 refine NN (af.ret ?_)
 exact RT (.tuple #[vP b7,vI 0]) [1,2,3,4,5,6,7] (.inr (.inr ⟨hcap,hok,S1,b7,m3,t4,L,by have h:=hE;rw [show i=ns.length by omega] at h;exact h,rfl,rfl⟩))
end
section
open Go.RowKit Go.Maps bF aB
theorem tK {b:UInt8} (h0:¬ b=0) (h1:¬ b=47) (h2:¬ b=46):bK ⟨#[b]⟩:=by
  refine⟨Nat.le_refl _,(by show 1<=255;decide),fun e=>h2 ?_,fun e=>?_,fun j hj=>?_⟩
  ·injection e with e
   have e:[b]=[46]:=congrArg Array.toList e
   injection e
  ·injection e with e
   have e:[b]=[46,46]:=congrArg Array.toList e
   injection e with _ e
   cases e
  have:j=0:=by have hj:j < 1:=hj;omega
  subst this
  show ¬ b.toNat=0/\¬ b.toNat=47
  exact⟨fun e=>h0 (UInt8.toNat_inj.1 e),fun e=>h1 (UInt8.toNat_inj.1 e)⟩
theorem uK:ef 0 0:=⟨by decide,by decide,by decide,by decide,by decide⟩
def G4 (room:Int):FM:=⟨9,room,9,0,0,0,0,0⟩
theorem QG {room:Int} (h:0<=room/\room<=1099511627776):jT (G4 room):=⟨by show (0:Int)<=9/\(9:Int)<=4096;decide,h,by show (0:Int)<=9/\(9:Int)<=1024;decide,uK⟩
section ops
variable {S:aG} {c:ax} {t:Th} {d:Nat}
theorem xg {O:ck} {us:Used Th} {h:Int} {name:ByteArray} {need:Int} (h1:aB.get us h=some t) (h2:t.kind=2) (h3:(obj O t.k).gone=false) (h4:bK name) (h5:bits BinOp.and .i64 (obj O t.k).mode need=need):dS O us h name need=.ok t.k:=by
  unfold dS
  rw [h1]
  simp only
  rw [if_pos h2,if_neg (by rw [h3];decide),if_pos h4,if_pos h5]
theorem QH (hop:c.op=1) (h1:aB.get S.idx c.other=some t) (h2:t.kind=2) (h3:(S.us.length:Int) < S.X.cH):bV S c=({ S with O:=aH S.O t.k (fun o=>{ o with opens:=o.opens+1 }),us:=ins (least S.us) t S.us,av:=max S.av ((S.us.length:Int)+1) },{ c with answer:=least S.us,code:=0 }):=by
  unfold bV
  rw [uj (by exact hop)]
  unfold jC
  simp only
  rw [h1]
  simp only
  rw [if_pos h2,jG h3]
theorem CJ (hop:c.op=2) (ha:dS S.O S.us c.handle c.name 64=.ok d) (hl:aU c.name (obj S.O d).ah=some t) (h2:t.kind=2) (h3:(S.us.length:Int) < S.X.cH):bV S c=({ S with O:=aH S.O t.k (fun o=>{ o with opens:=o.opens+1 }),us:=ins (least S.us) t S.us,av:=max S.av ((S.us.length:Int)+1) },{ c with answer:=least S.us,code:=0 }):=by
  unfold bV
  rw [sA (by exact hop)]
  unfold fo fH
  simp only
  rw [ha]
  simp only
  rw [hl]
  simp only
  rw [if_neg (by omega),if_neg (by omega),jG h3]
theorem OO (hop:c.op=4) (ha:dS S.O S.us c.handle c.name 192=.ok d) (hm:og c.mode) (hl:aU c.name (obj S.O d).ah=none) (hr:Room S.X S.idx):bV S c=(fw S d c.name (aW S.X 2 c.mode),{ c with answer:=0,code:=0 }):=by
  unfold bV
  rw [ul (by exact hop)]
  unfold gj
  simp only
  rw [ha]
  simp only
  rw [if_pos hm]
  unfold gS cq
  rw [if_pos hl,if_pos hr,if_pos rfl]
theorem OQ (hop:c.op=13) (h1:aB.get S.us c.handle=some t):bV S c=({ S with
      X:={ S.X with used:=jR (ju S.O t.k) S.X.used t }
      O:=ju S.O t.k
      idx:=jr (ju S.O t.k) S.idx t
      us:=del c.handle S.us },{ c with answer:=0,code:=0 }):=by
  unfold bV
  rw [rf (by exact hop)]
  unfold jv
  simp only
  rw [h1]
end ops
structure XE (room:Int) (S:aG):Prop where
  inv:Inv S
  idx:S.idx=[(1,⟨1,2⟩),(2,⟨2,1⟩)]
  us:S.us=[]
  X:S.X=⟨9,room,9,0,0,2,1,0⟩
  o1:∃ l u,obj S.O 1=⟨1,493,0,0,0,0,l,0,false,2,[],⟨#[]⟩,[(⟨#[102]⟩,⟨2,1⟩)],u⟩
  o2:∃ u,obj S.O 2=⟨2,420,0,0,0,0,1,0,false,1,[],⟨#[]⟩,[],u⟩
theorem SF:bits BinOp.and .i64 493 192=192:=by kernel_rfl
theorem CK:bits BinOp.and .i64 493 64=64:=by kernel_rfl
section chain
variable {room:Int} {S:aG}
def S1 (S:aG):aG:={ S with O:=aH S.O 1 (fun o=>{ o with opens:=o.opens+1 }),us:=[(1,⟨1,2⟩)],av:=max S.av 1 }
theorem VZ:obj (S1 S).O 1={ obj S.O 1 with opens:=(obj S.O 1).opens+1 }:=rfl
theorem V5:obj (S1 S).O 2=obj S.O 2:=rfl
structure XZ (room:Int) (ds:List UInt8) (S:aG):Prop where
  inv:Inv S
  idx:S.idx=[(1,⟨1,2⟩),(2,⟨2,1⟩)]
  us:S.us=[(1,⟨1,2⟩),(2,⟨2,1⟩)]
  X:S.X=⟨9,room,9,0,0,2,1,ds.length⟩
  o1:∃ l n u,obj S.O 1=⟨1,493,0,0,0,0,l,n,false,2,[],⟨#[]⟩,[(⟨#[102]⟩,⟨2,1⟩)],u⟩
  o2:∃ u,obj S.O 2=⟨2,420,0,0,0,0,1,1,false,1,ds,⟨#[]⟩,[],u⟩
structure X1 (ds:List UInt8) (S:aG):Prop where
  inv:Inv S
  idx:S.idx=[(1,⟨1,2⟩),(2,⟨2,1⟩)]
  us:S.us=[(1,⟨1,2⟩),(2,⟨2,1⟩)]
  used:S.X.used=ds.length
  o2:∃ s z u,obj S.O 2=⟨2,420,0,0,s,z,0,1,true,1,ds,⟨#[]⟩,[],u⟩
end chain
end
section
open Go.RowKit Go.Maps bF aB
theorem Spec.PX {P:Program} {β:Bs} {f:FuncId} {args:Array Value} {pre:List HP} {post:Value->List HP->Prop} {Ψ:Bs->Value->List HP->Prop} (h:Spec P β f args pre post) (xS:∀ v l,post v l->∃ l1 l2,l=l1++l2/\∀ β',qq β l2 β'->Ψ β' v l1):bD P β f args pre Ψ:=by
  intro A w hS
  refine (h A w hS).mono ?_
  rintro e w' ⟨v,l,h1,h2,h3⟩
  obtain⟨l1,l2,rfl,hl⟩:=xS v l h2
  have h4:Sat β (([.abs A]++l1)++l2) w':=by rw [List.append_assoc];exact Sat.turn h3
  obtain⟨β',g1,_,g3⟩:=h4.AJ
  exact⟨β',v,l1,g1.le,h1,hl β' g1,Sat.turn g3⟩
section c
variable {β:Bs} {S S2:aG} {L:HL} {f m t:Nat} {c c2:ax}
end c
end
section
open Go.RowKit bF aB Go.Maps
section ints
variable {β:Bs} {A:Option Addr} {l:List Int} {j:Nat}
end ints
theorem G5 {β:Bs} (t:Nat) (most av:Int) (L:HL) (us:Used Th) :
    Spec Tryz.prog β 56 #[.pointer (some ⟨t,0,none⟩)] [.abs (cE 212 t most av (bn L us))] (fun v l=>∃ A c,v=.slice A us.length c/\l=[.abs (cE 212 t most av (bn L us)),.abs (aJ 3 1 A us.length c (ints (keys us)))]):=by
  have h:=FT (β:=β) t most av (bn L us)
  have e:keys (bn L us)=keys us:=keys_map (dR L) us
  have e2:(keys us).length=us.length:=List.length_map ..
  rw [e,e2] at h
  exact h
theorem xM {β:Bs} (A:Option Addr) (c:Nat) (ns:List aL) (L:Lay) (hG:aI β A ns L) (hl:ns.length<=1048576) (hd:∀ i,i < ns.length->(nd ns i).data.length<=1048576/\(nd ns i).ah.length<=1048576) :
    Spec Tryz.prog β 23 #[.agg #[.slice A ns.length c]] [] (fun v l=>∃ B cap,v=.agg #[.slice B ns.length cap]/\l=[.abs (lC β (fun β'=>∃ K,aI β' B ns K))]):=
  (bD.Pu (ι:=Option Addr×Nat) (vv:=fun x=>.agg #[.slice x.1 ns.length x.2]) (ll:=fun _=>[]) (Φ:=fun x β'=>∃ K,aI β' x.1 ns K)
    ((Fo A c ns L hG hl hd).mono (by rintro β' v l _ ⟨B,cap,K,rfl,rfl,h⟩;exact⟨(B,cap),rfl,rfl,K,h⟩))).mono (by rintro v l ⟨⟨B,cap⟩,rfl,rfl⟩;exact⟨B,cap,rfl,rfl⟩)
end
section
open Go.RowKit Go.Maps bF aB
attribute [local irreducible] ak aR af aj
theorem Mw {β:Bs} (S:aG) (L:HL) (f m t:Nat):Spec Tryz.prog β 33 #[vP f] [pF f m t S.X,pT t S.X.cH S.av L S.us] (fun v l=>∃ A c,v=.slice A S.us.length c/\l=[pF f m t S.X,pT t S.X.cH S.av L S.us,.abs (aJ 3 1 A S.us.length c (ints (keys S.us)))]):=by
 refine Spec.enter Tryz.func33 rfl Tryz.ntmps33 (Nat.le_of_ble_eq_true rfl) (fun R=>?_)
 refine SR (gK 1 [] [] ?_)
 refine NS (gK 4 [(6,vP t)] [(3,a_ 0 f)] ?_)
 refine gL [1] (G5 t S.X.cH S.av L S.us) ?_
 rintro _ _ ⟨A,c,rfl,rfl⟩
 refine gK 1 [(2,.slice A (S.us.length) (c))] [] ?_
 refine NN (af.ret ?_)
 exact RT (.slice A (S.us.length) (c)) [2,0,1,3] (⟨A,c,rfl,rfl⟩)
theorem OT {β:Bs} (S:aG) (L:HL) (f m t:Nat):Spec Tryz.prog β 32 #[vP f] [pF f m t S.X,pT t S.X.cH S.av L S.us] (fun v l=>v=vI S.av/\l=[pF f m t S.X,pT t S.X.cH S.av L S.us]):=by
 refine Spec.enter Tryz.func32 rfl Tryz.ntmps32 (Nat.le_of_ble_eq_true rfl) (fun R=>?_)
 refine SR (gK 1 [] [] ?_)
 refine NS (gK 4 [(6,vP t)] [(3,a_ 0 f)] ?_)
 refine gL [1] (Lp t S.X.cH S.av (bn L S.us)) ?_
 rintro _ _ ⟨rfl,rfl⟩
 refine gK 1 [(2,vI (S.av))] [] ?_
 refine NN (af.ret ?_)
 exact RT (vI (S.av)) [1,0,2] (⟨rfl,rfl⟩)
end
section
open Go.RowKit bF aB Go.Maps
abbrev tL (X:FM) (ns:List aL):={ S:aG // gy X ns ns.length 0 S }
theorem A6 (us:Used Th):us.length=(keys us).length:=(List.length_map ..).symm
end
section
open Go.RowKit Go.Maps bF aB
section m
variable {β:Bs} {ns:List aL} {Y:Lay} {X:FM} {root:Int}
theorem OU (hcap:jT X) (hok:bS ns) (A:Option Addr) (c:Nat) (hG:aI β A ns Y) (hB:iJ ns 1048576) :
    Spec Tryz.prog β 48 #[.agg #[.slice A ns.length c],.agg #[.int .i64 X.cN,.int .i64 X.cB,.int .i64 X.cH,.int .i64 X.cS,.int .i64 X.cZ]] [] (fun v l=>∃ (S:tL X ns) (f m t:Nat) (L:HL),v=.tuple #[.pointer (some ⟨f,0,none⟩),.int .i64 0]/\l=pA f m t L S.1):=
  (Jo A c ns Y hG (zo hB) (EU hB) (Lc hB) (Ld hB) X).mono (by
    rintro v l (⟨h,_⟩|⟨_,h,_⟩|⟨_,_,h⟩)
    ·exact absurd hcap h
    ·exact absurd hok h
    obtain⟨S,f,m,t,L,h1,h2,h3⟩:=h
    exact⟨⟨S,h1⟩,f,m,t,L,h2,h3⟩)
theorem OV (OW:¬ (jT X/\bS ns)) (A:Option Addr) (c:Nat) (hG:aI β A ns Y) (hB:iJ ns 1048576) :
    Spec Tryz.prog β 48 #[.agg #[.slice A ns.length c],.agg #[.int .i64 X.cN,.int .i64 X.cB,.int .i64 X.cH,.int .i64 X.cS,.int .i64 X.cZ]] [] (fun v l=>v=.tuple #[.pointer none,.int .i64 (dg X ns root)]/\l=[]):=
  (Jo A c ns Y hG (zo hB) (EU hB) (Lc hB) (Ld hB) X).mono (by
    rintro v l (⟨h,h1,h2⟩|⟨h,h',h1,h2⟩|⟨h1,h2,_⟩)
    ·exact⟨by rw [CD h];exact h1,h2⟩
    ·exact⟨by rw [yZ h h'];exact h1,h2⟩
    exact absurd ⟨h1,h2⟩ OW)
theorem CM (OW:¬ (jT X/\bS ns)):dg X ns root≠0:=fun h=>OW (Ey h)
theorem Mx {i:Nat} (hi:tH ns root i) (A:Option Addr) (c:Nat) (hG:aI β A ns Y) (hB:iJ ns 1048576) (b:Nat) :
    Spec Tryz.prog β 49 #[.slice A ns.length c,.func (.func 50) #[] #[.pointer (some ⟨b,0,none⟩)]] [.blk b [.int .i64 root] 3] (fun v l=>v=.int .i64 (i:Int)/\l=[.blk b [.int .i64 root] 3]):=
  (GN A c ns Y hG (zo hB) b root).mono (by
    rintro v l (⟨j,hj,h1,h2⟩|⟨h,_⟩)
    ·have e:i=j:=by
       obtain⟨a1,a2,a3⟩:=hi
       obtain⟨b1,b2,b3⟩:=hj
       rcases Nat.lt_trichotomy i j with h|h|h
       ·exact absurd a2 (b3 i h)
       ·exact h
       exact absurd b2 (a3 j h)
     subst e
     exact⟨h1,h2⟩
    exact absurd hi.2.1 (h i hi.1))
theorem OX (hi:∀ q,q < ns.length->(nd ns q).id≠root) (A:Option Addr) (c:Nat) (hG:aI β A ns Y) (hB:iJ ns 1048576) (b:Nat) :
    Spec Tryz.prog β 49 #[.slice A ns.length c,.func (.func 50) #[] #[.pointer (some ⟨b,0,none⟩)]] [.blk b [.int .i64 root] 3] (fun v l=>v=.int .i64 (-1)/\l=[.blk b [.int .i64 root] 3]):=
  (GN A c ns Y hG (zo hB) b root).mono (by
    rintro v l (⟨j,hj,_⟩|⟨_,h1,h2⟩)
    ·exact absurd hj.2.1 (hi j hj.1)
    exact⟨h1,h2⟩)
end m
end
section
open Go.RowKit Go.Maps bF aB
attribute [local irreducible] ak aR af aj
noncomputable abbrev WN (w)(f:Nat) (o) (root):=(.blk w [.iface 39 (vP w),vP f,.iface 140 (vP o),vI (root),.slice none (0) (0)] 53:HP)
noncomputable abbrev WO (o)(q)(f:Nat) (root) (am):=(.blk o [.iface 141 (vP q),vP f,vI (root),.map (some am),vI 0] 145:HP)
noncomputable abbrev Ez (b4:Nat) (Af) (fs:List bq) (cf) (Aa) (xs:List bP) (ca):=(.blk b4 [.slice Af (fs.length) (cf),.slice Aa (xs.length) (ca)] 32:HP)
noncomputable abbrev Jp (m5:Nat) (Z) (xs:List bP) (i:Nat) (an):=(.abs (aP Tryz.prog 3 m5 (gu Z (xs.take i)) an):HP)
noncomputable abbrev Mz (b6:Nat) (xs) (i:Nat):=(.blk b6 [vI ((act xs i).at_),vI ((act xs i).op),.string (act xs i).path,.string (act xs i).to,.string (act xs i).text] 136:HP)
noncomputable abbrev SG (b2:Nat) (b4:Nat) (f:Nat) (m5:Nat):=([(5,vP b2),(7,vP b4),(10,vP f),(13,.map (some m5))]:Fr)
noncomputable abbrev PY (Aa)(xs:List bP) (ca):=([(44,.slice Aa (xs.length) (ca)),(45,vI ↑xs.length)]:Fr)
noncomputable abbrev U0 (b2:Nat) (f:Nat) (m5:Nat) (m11:Nat) (Af) (fs:List bq) (cf) (j:Nat):=([(5,vP b2),(10,vP f),(13,.map (some m5)),(16,.map (some m11)),(63,.slice Af (fs.length) (cf)),(64,vI ↑fs.length),(65,vI ↑j)]:Fr)
noncomputable abbrev U1 (w)(f:Nat) (o) (root) (q) (am) (km) (Z) (xs) (an) (fs) (kn):=([WN w f o root,WO o q f root am,.blk q [.iface 49 (vP f),.map (some km),vI 0] 143,.abs (aP Tryz.prog 3 am (gu Z xs) an),.abs (aP Tryz.prog 3 km (eO fs) kn),.abs (aJ 88 13 none 0 0 ([]))]:List HP)
theorem OY {β:Bs} (A:Option Addr) (c:Nat) (ns:List aL) (Y:Lay) (hG:aI β A ns Y) (hB:iJ ns 1048576) (X:FM) (root:Int) (Af:Option Addr) (cf:Nat) (fs:List bq) (hF:cW β Af (bW fN fs)) (mA:ji fs 2097152) (Aa:Option Addr) (ca:Nat) (xs:List bP) (hA:cW β Aa (bW gq xs)) (hab:eG xs 1048576) :
    bD Tryz.prog β 26 #[.agg #[.slice A (ns.length) (c)],vI (root),.agg #[vI (X.cN),vI (X.cB),vI (X.cH),vI (X.cS),vI (X.cZ)],.agg #[.slice Af (fs.length) (cf),.slice Aa (xs.length) (ca)]] [] (fun β' v l=>(dg X ns root≠0/\v=.tuple #[.pointer none,vI (dg X ns root)]/\l=[])\/(dg X ns root=0/\∃ (N:tL X ns) (L:HL) (w o q f m t am an km kn:Nat) (Z:AZ),v=.tuple #[vP w,vI 0]/\l=(U1 w f o root q am km Z xs an fs kn++[pF f m t N.1.X,pI m L N.1.idx,pT t N.1.X.cH N.1.av L N.1.us,pO N.1.O L,pD N.1.O L,pE N.1.O L])/\fL β' Z xs)):=by
 have hfl:=mA.len
 have hxl:=hab.len
 refine bD.enter Tryz.func26 rfl Tryz.ntmps26 (Nat.le_of_ble_eq_true rfl) (fun hle0 R=>?_)
 refine SR (gN 1 (fun b1=>[(4,vP b1)]) (fun _=>[]) (fun _=>[]) (fun b1=>.blk b1 [.slice A (ns.length) (c)] 24) (fun b1=>?_))
 refine gN 1 (fun b2=>[(5,vP b2)]) (fun _=>[]) (fun _=>[]) (fun b2=>.blk b2 [vI (root)] 3) (fun b2=>?_)
 refine gN 1 (fun b3=>[(6,vP b3)]) (fun _=>[]) (fun _=>[]) (fun b3=>.blk b3 [vI (X.cN),vI (X.cB),vI (X.cH),vI (X.cS),vI (X.cZ)] 28) (fun b3=>?_)
 refine gN 3 (fun b4=>[(7,vP b4)]) (fun _=>[]) (fun _=>[]) (fun b4=>.blk b4 [.slice Af (fs.length) (cf),.slice Aa (xs.length) (ca)] 32) (fun b4=>?_)
 refine NN (af.seq ?_)
 by_cases oI:jT X/\bS ns
 ·refine af.region (gK 2 [(21,.agg #[.slice A (ns.length) (c)]),(22,.agg #[vI (X.cN),vI (X.cB),vI (X.cH),vI (X.cS),vI (X.cZ)])] [(0,a_ 1 b1),(1,A_ 3 b3 5)] ?_)
  refine gL [] (OU (β:=β) oI.1 oI.2 A c hG hB) ?_
  rintro _ _ ⟨N,f,m,t,L,rfl,rfl⟩
  refine gK 5 [(10,vP f),(11,vI 0)] [] ?_
  refine NN (af.seq (SR (gK 2 [(27,.bool false)] [] ?_)))
  refine NN (CF (af.skip (NX (af.seq ?_))))
  rcases Ov ns root with ⟨r,hr⟩|hno
  ·have hr1:r < ns.length:=hr.1
   refine af.region (gK 3 [(30,.slice A (ns.length) (c)),(31,.func (.func 50) #[] #[vP b2])] [(1,a_ 7 b1)] ?_)
   refine gL [8] (Mx (β:=β) hr A c hG hB b2) ?_
   rintro _ _ ⟨rfl,rfl⟩
   refine gK 1 [(12,vI ↑r)] [] ?_
   refine NN (af.seq (SR (gK 2 [(34,.bool false)] [(1,p_ ⟨[],none,none,none,some (.bool false)⟩ [(Value.bool (decide ((((r:Nat):Int):Int) < (0:Int))))=(.bool false)] ⟨congrArg Value.bool (decide_eq_false (by omega)),trivial⟩)] ?_)))
   refine NN (CF (af.skip (NX (af.seq (SR (gK 7 [(41,.bool (!(decide (((nd ns r).kind:Int)=(2:Int)))))] [(1,a_ 8 b1),(3,p_ ⟨[],some r,none,some ⟨(aE A),aD A,none⟩,none⟩ [((r:Nat):Int)=((r:Nat):Int),r < ns.length,(⟨(aE A),aD A,none⟩:Addr).spot=none,(A:Option Addr)=some ⟨(aE A),aD A,none⟩] ⟨rfl,by omega,rfl,aI.hd hG (i:=r) (by omega),trivial⟩),(5,p_ ⟨[.old (.int .i64 ((nd ns r).kind))],none,none,none,none⟩ [(Rd β ⟨(aE A),aD A+r * 10+1,none⟩ (.int .i64 ((nd ns r).kind)))] ⟨aI.rd hG (i:=r) (by omega) (j:=1) rfl,trivial⟩)] ?_))))))
   refine NN (af.dx (p:=((nd ns r).kind:Int)=(2:Int)) (fun _=>by kernel_rfl) (fun Cw=>?_) (fun Cw=>?_))
   ·refine SR (gK 2 [(8,.pointer none),(9,vI 173)] [] ?_)
    refine NN (af.ret (aj.aq ?_))
    exact aj.iQ (v:=.tuple #[.pointer none,vI 173]) (l:=[]) (aZ:=[]) [] [7] hle0 (fun _=>by kernel_rfl) trivial rfl (by kernel_rfl) (.inl ⟨by rw [CH oI.1 oI.2 hr Cw];decide,by rw [CH oI.1 oI.2 hr Cw],rfl⟩)
   refine af.skip (NX (SR (ak.mF (d:=(some 42)) (t:=134) (fun _=>by kernel_rfl) Tryz.prog rfl 3 (fun m5=>?_))))
   refine gK 1 [(13,.map (some m5))] [] ?_
   refine NN (af.seq (SR (ak.d9 11 (p:=.abs (aP Tryz.prog 3 m5 (fun _=>none) 0)) (p':=.abs (aP Tryz.prog 3 m5 (gu AZ.none (xs.take 0)) 0)) (by kernel_rfl) (congrArg (fun f=>HP.abs (aP Tryz.prog 3 _ f 0)) Od.symm) ?_)))
   refine ak.mem (cP:=[tI b2 root,pF f m t N.1.X,pI m L N.1.idx,pT t N.1.X.cH N.1.av L N.1.us,pO N.1.O L,pD N.1.O L,pE N.1.O L,.abs R,rG b1 A ns c,rU b3 X,Ez b4 Af fs cf Aa xs ca,.abs (aP Tryz.prog 3 m5 (gu AZ.none (xs.take 0)) 0),.abs (ay (ni AZ.none (xs.take 0)))]) (fun w hS=>hS.R5) ?_
   refine gK 4 (PY Aa xs ca++[(46,vI 0)]) [(1,a_ 10 b4)] ?_
   refine NN (af.block ?_)
   refine af.loop (ι:=Nat×AZ×Nat) (fun ((i,Z,an):Nat×AZ×Nat)=>(i<=xs.length)/\(an<=i)) (fun ((i,Z,an):Nat×AZ×Nat)=>xs.length - i) (fun ((i,Z,an):Nat×AZ×Nat)=>(SG b2 b4 f m5++PY Aa xs ca++[(46,vI ↑i)])) (fun ((i,Z,an):Nat×AZ×Nat)=>[tI b2 root,pF f m t N.1.X,pI m L N.1.idx,pT t N.1.X.cH N.1.av L N.1.us,pO N.1.O L,pD N.1.O L,pE N.1.O L,rG b1 A ns c,rU b3 X,Ez b4 Af fs cf Aa xs ca,Jp m5 Z xs i an,.abs (ay (ni Z (xs.take i))),.abs R]) (0,AZ.none,0) (idx:=[5,7,10,13,44,45,46]) (pk:=[0,1,2,3,4,5,6,8,9,10,11,12,7]) (show (0<=xs.length)/\(0<=0) from ⟨Nat.zero_le _,Nat.le_refl _⟩) (fun _=>by kernel_rfl) rfl (by kernel_rfl) ?_
   rintro⟨i,Z,an⟩ ⟨hi,han⟩
   show af _ _ _ _ (SG b2 b4 f m5++PY Aa xs ca++[(46,vI ↑i)]) [tI b2 root,pF f m t N.1.X,pI m L N.1.idx,pT t N.1.X.cH N.1.av L N.1.us,pO N.1.O L,pD N.1.O L,pE N.1.O L,rG b1 A ns c,rU b3 X,Ez b4 Af fs cf Aa xs ca,Jp m5 Z xs i an,.abs (ay (ni Z (xs.take i))),.abs R] _
   refine SR (gK 1 [(47,.bool (decide ((((i:Nat):Int):Int) < (((xs.length:Nat):Int):Int))))] [] ?_)
   refine NN (af.seq (af.bh (p:=(((i:Nat):Int):Int) < (((xs.length:Nat):Int):Int)) (fun _=>by kernel_rfl) (fun PZ=>?_) (fun PZ=>?_)))
   ·refine af.skip (NX (af.seq (af.block (SR ?_))))
    refine gN 4 (fun b6=>[(15,vP b6)]) (fun b6=>[(0,p_ ⟨[],some i,none,some ⟨(aE Aa),aD Aa,none⟩,none⟩ [((i:Nat):Int)=((i:Nat):Int),i < xs.length,(⟨(aE Aa),aD Aa,none⟩:Addr).spot=none,(Aa:Option Addr)=some ⟨(aE Aa),aD Aa,none⟩] ⟨rfl,by omega,rfl,Pq hA (i:=i) (by omega),trivial⟩),(1,p_ ⟨[.old (.int .i64 ((act xs i).at_)),.old (.int .i64 ((act xs i).op)),.old (.string (act xs i).path),.old (.string (act xs i).to),.old (.string (act xs i).text)],none,none,none,none⟩ [(Rd β ⟨(aE Aa),aD Aa+i * 5+4,none⟩ (.string (act xs i).text)),(Rd β ⟨(aE Aa),aD Aa+i * 5+3,none⟩ (.string (act xs i).to)),(Rd β ⟨(aE Aa),aD Aa+i * 5+2,none⟩ (.string (act xs i).path)),(Rd β ⟨(aE Aa),aD Aa+i * 5+1,none⟩ (.int .i64 ((act xs i).op))),(Rd β ⟨(aE Aa),aD Aa+i * 5,none⟩ (.int .i64 ((act xs i).at_)))] ⟨qO hA (i:=i) (by omega) (j:=4) rfl,qO hA (i:=i) (by omega) (j:=3) rfl,qO hA (i:=i) (by omega) (j:=2) rfl,qO hA (i:=i) (by omega) (j:=1) rfl,qO hA (i:=i) (by omega) (j:=0) rfl,trivial⟩),(3,A_ 13 b6 5)]) (fun _=>[]) (fun b6=>.blk b6 [vI ((act xs i).at_),vI ((act xs i).op),.string (act xs i).path,.string (act xs i).to,.string (act xs i).text] 136) (fun b6=>?_)
    refine NN (af.bU (S:=[Jp m5 Z xs i an,Mz b6 xs i]) [0,1,2,3,4,5,6,7,8,9,10] 8 [10,13] (by kernel_rfl) (by kernel_rfl) rfl (by kernel_rfl) ?_)
    refine gR 2 [6,7,8,9,10] (SG b2 b4 f m5++[(15,vP b6)]++PY Aa xs ca++[(46,vI ↑i),(50,.map (some m5)),(52,vI ((act xs i).at_)),(53,.map (some m5)),(55,vI ((act xs i).at_))]) [0,1,2,3,4,5] [(2,a_ 1 b6),(5,a_ 1 b6)] ?_
    refine aO.eP 0 (d:=(some 56)) (t:=134) (K:=3) (E:=30) (b:=m5) (cnt:=an) (f:=(gu Z (xs.take i))) (x:=(.tmp 53)) (ix:=(.tmp 55)) (key:=.int .i64 ((act xs i).at_)) (z:=.slice none (0) (0)) (kl:=(Lit.int IntKind.i64 (act xs i).at_)) (q:=(gu Z (xs.take i) (Lit.int IntKind.i64 (act xs i).at_))) (by kernel_rfl) (by kernel_rfl) (fun _=>by kernel_rfl) (fun _=>by kernel_rfl) eE Tryz.underlying134 (fun _=>by kernel_rfl) (iR (hab.at (by omega)).aw) (rfl) (by rw [Bj];rfl) ?_
    refine gR 0 [8,9,10] [(5,vP b2),(7,vP b4),(10,vP f),(13,.map (some m5)),(44,.slice Aa (xs.length) (ca)),(45,vI ↑xs.length),(46,vI ↑i),(50,.map (some m5)),(52,vI ((act xs i).at_)),(56,((gu Z (xs.take i) (Lit.int IntKind.i64 (act xs i).at_)).getD (.slice none 0 0))),(57,.agg #[vI ((act xs i).at_),vI ((act xs i).op),.string (act xs i).path,.string (act xs i).to,.string (act xs i).text])] [7] [(0,A_ 1 b6 5)] ?_
    refine mN [10,13] (fun b7=>[(58,.slice (some ⟨b7,0,none⟩) (1) (1))]) (fun _=>[]) (fun b7=>.blk b7 [vI ((act xs i).at_),vI ((act xs i).op),.string (act xs i).path,.string (act xs i).to,.string (act xs i).text] 136) (fun b7=>?_)
    refine aO.cut (ι:=(Option Addr)×Nat) (fr':=fun ((A8,c9):(Option Addr)×Nat)=>[(5,vP b2),(7,vP b4),(10,vP f),(13,.map (some m5)),(44,.slice Aa (xs.length) (ca)),(45,vI ↑xs.length),(46,vI ↑i),(50,.map (some m5)),(52,vI ((act xs i).at_)),(59,.slice A8 (((bG (xs.take i) (act xs i).at_).length+1)) (c9))]) (hp':=fun ((A8,c9):(Option Addr)×Nat)=>[tI b2 root,pF f m t N.1.X,pI m L N.1.idx,pT t N.1.X.cH N.1.av L N.1.us,pO N.1.O L,pD N.1.O L,pE N.1.O L,rG b1 A ns c,rU b3 X,Ez b4 Af fs cf Aa xs ca,Jp m5 Z xs i an,.abs (ay (kQ (ni Z (xs.take i)) (zz (act xs i).at_) bY.none)),.abs R,Mz b6 xs i,Mz b7 xs i,.abs (aJ 136 5 A8 ((bG (xs.take i) (act xs i).at_).length+1) c9 (bW gq (bG (xs.take i) (act xs i).at_)++gq (act xs i)))]) [10,13] rfl rfl ?_ rfl (fun _=>by kernel_rfl) ?_
    ·refine ak.slot 56 (((gu Z (xs.take i) (Lit.int IntKind.i64 (act xs i).at_)).getD (.slice none 0 0))) (.slice (aA Z (xs.take i) (act xs i).at_) ((bG (xs.take i) (act xs i).at_).length) ((aC Z (xs.take i) (act xs i).at_))) (fun _=>by kernel_rfl) (Bj) ?_
     refine ak.mem (cP:=[tI b2 root,pF f m t N.1.X,pI m L N.1.idx,pT t N.1.X.cH N.1.av L N.1.us,pO N.1.O L,pD N.1.O L,pE N.1.O L,rG b1 A ns c,rU b3 X,Ez b4 Af fs cf Aa xs ca,Jp m5 Z xs i an,.abs (ay (kQ (ni Z (xs.take i)) (zz (act xs i).at_) bY.none)),.abs R,Mz b6 xs i,Mz b7 xs i,.abs (aJ 136 5 (aA Z (xs.take i) (act xs i).at_) ((bG (xs.take i) (act xs i).at_).length) (aC Z (xs.take i) (act xs i).at_) (bW gq (bG (xs.take i) (act xs i).at_)))]) (fun w hS=>hS.Qy (i:=11) rfl (act xs i).at_) ?_
     have X2:(bG (xs.take i) (act xs i).at_).length<=1048576:=Nat.le_trans (Ci _) (by rw [List.length_take];omega)
     refine ak.append 15 (d:=(some 59)) (t:=30) (e:=136) (z:=.agg #[vI 0,vI 0,.string ⟨#[]⟩,.string ⟨#[]⟩,.string ⟨#[]⟩]) (size:=5) (bytes:=64) (n:=(bG (xs.take i) (act xs i).at_).length) (cap:=(aC Z (xs.take i) (act xs i).at_)) (A:=(aA Z (xs.take i) (act xs i).at_)) (xs:=(bW gq (bG (xs.take i) (act xs i).at_))) (s:=(.tmp 56)) (x:=(.tmp 58)) (ats:=#[30,30]) (A':=some ⟨b7,0,none⟩) (m:=1) (c':=1) (news:=[vI ((act xs i).at_),vI ((act xs i).op),.string (act xs i).path,.string (act xs i).to,.string (act xs i).text]) (fun _=>by kernel_rfl) rfl (by kernel_rfl) (fun _=>by kernel_rfl) (fun _=>by kernel_rfl) Tryz.underlying30 (by kernel_rfl) rfl (by decide) (rfl) (by simp [Value.oneCell']) (mG (j:=14) rfl) (by unfold maxLen;omega) (by omega) (fun A8 c9=>?_)
     refine ak.d9 15 (p:=.abs (aJ 136 5 A8 (((bG (xs.take i) (act xs i).at_).length)+1) c9 ((bW gq (bG (xs.take i) (act xs i).at_))++[vI ((act xs i).at_),vI ((act xs i).op),.string (act xs i).path,.string (act xs i).to,.string (act xs i).text]))) (p':=.abs (aJ 136 5 A8 ((bG (xs.take i) (act xs i).at_).length+1) c9 (bW gq (bG (xs.take i) (act xs i).at_)++gq (act xs i)))) (by kernel_rfl) (rfl) ?_
     refine ak.slot 59 (.slice A8 (((bG (xs.take i) (act xs i).at_).length)+1) (c9)) (.slice A8 (((bG (xs.take i) (act xs i).at_).length+1)) (c9)) (fun _=>by kernel_rfl) (rfl) ?_
     refine NL ?_
     exact MD (A8,c9) [5,7,10,13,44,45,46,50,52,59] [0,1,2,3,4,5,6,7,8,9,10,11,12,13,14,15]
    rintro⟨A8,c9⟩
    refine aO.last rfl rfl ?_
    refine ak.mem (cP:=[.abs (ay (ni (Z.put (act xs i).at_ A8 c9) (xs.take (i+1)))),.blk b2 [vI (root)] 3,.blk f [vI (N.1.X.cN),vI (N.1.X.cB),vI (N.1.X.cH),vI (N.1.X.cS),vI (N.1.X.cZ),.map (some m),vP t,vI (N.1.X.last),vI (N.1.X.ah),vI (N.1.X.used)] 154,.abs (aP Tryz.prog 3 m (bg (bn L N.1.idx)) N.1.idx.length),.abs (cE 212 t N.1.X.cH N.1.av (bn L N.1.us)),.abs (ay (bN N.1.O L)),.abs (ay (bO N.1.O L)),.abs (ay (cJ N.1.O L)),.blk b1 [.slice A (ns.length) (c)] 24,.blk b3 [vI (X.cN),vI (X.cB),vI (X.cH),vI (X.cS),vI (X.cZ)] 28,.blk b4 [.slice Af (fs.length) (cf),.slice Aa (xs.length) (ca)] 32,.abs (aP Tryz.prog 3 m5 (gu Z (xs.take i)) an),.abs R,.blk b6 [vI ((act xs i).at_),vI ((act xs i).op),.string (act xs i).path,.string (act xs i).to,.string (act xs i).text] 136,.blk b7 [vI ((act xs i).at_),vI ((act xs i).op),.string (act xs i).path,.string (act xs i).to,.string (act xs i).text] 136]) (fun w hS=>by rw [Gl (by omega)];exact hS.R6 (i:=11) (j:=15) (idx:=[0,1,2,3,4,5,6,7,8,9,10,12,13,14]) rfl rfl (by kernel_rfl) rfl) ?_
    refine ak.ld 11 (d:=none) (t:=134) (K:=3) (E:=30) (b:=m5) (n:=an) (f:=(gu Z (xs.take i))) (x:=(.tmp 50)) (ix:=(.tmp 52)) (y:=(.tmp 59)) (key:=.int .i64 ((act xs i).at_)) (u:=.slice A8 (((bG (xs.take i) (act xs i).at_).length+1)) (c9)) (kl:=(Lit.int IntKind.i64 (act xs i).at_)) (n':=(if (gu Z (xs.take i) (Lit.int IntKind.i64 (act xs i).at_)).isSome then an else an+1)) (f':=(gu (Z.put (act xs i).at_ A8 c9) (xs.take (i+1)))) (fun _=>by kernel_rfl) (by kernel_rfl) (fun _=>by kernel_rfl) (fun _=>by kernel_rfl) (fun _=>by kernel_rfl) eE Tryz.underlying134 (by unfold maxLen;omega) (iR (hab.at (by omega)).aw) (rfl) (by rw [Gl (by omega)];exact Oe) ?_
    refine NL (aj.np (aj.aQ (NX (af.region ?_))))
    refine gK 2 [(46,vI ↑(i+1))] [(0,p_ ⟨[],none,none,none,some (vI ↑(i+1))⟩ [(Value.int .i64 (IntKind.wrap .i64 (((i:Nat):Int)+1)))=(.int .i64 ↑(i+1))] ⟨aY (by omega) (by omega) (by omega),trivial⟩)] ?_
    refine NL ?_
    exact aj.turn ((i+1),(Z.put (act xs i).at_ A8 c9),(if (gu Z (xs.take i) (Lit.int IntKind.i64 (act xs i).at_)).isSome then an else an+1)) (idx:=[5,7,10,13,44,45,46]) (pk:=[1,2,3,4,5,6,7,8,9,10,11,0,12]) (show (((i+1))<=xs.length)/\(((if (gu Z (xs.take i) (Lit.int IntKind.i64 (act xs i).at_)).isSome then an else an+1))<=((i+1))) from ⟨by omega,by split<;>omega⟩) (by show xs.length - ((i+1)) < xs.length - i;omega) (fun _=>by kernel_rfl) rfl (by kernel_rfl)
   refine af.exit (aj.br (aj.br (aj.dM (NX (SR ?_)))))
   refine ak.nU (Φ:=fun β'=>fL β' Z xs) 11 [0,1,2,3,4,5,6,7,8,9,10,12] (cP:=[tI b2 root,pF f m t N.1.X,pI m L N.1.idx,pT t N.1.X.cH N.1.av L N.1.us,pO N.1.O L,pD N.1.O L,pE N.1.O L,rG b1 A ns c,rU b3 X,Ez b4 Af fs cf Aa xs ca,Jp m5 Z xs i an,.abs R]) rfl rfl (by kernel_rfl) (fun F w h β' h1 h2=>fL.of (by rw [show xs.take i=xs by rw [show i=xs.length by omega,List.take_length]] at h;exact h) h1 h2) (fun Kz jL hZ=>?_)
   replace hG:=hG.le jL
   replace hA:=hA.le jL
   replace hF:=hF.le jL
   replace hle0:=hle0.trans jL
   refine ak.d9 10 (p:=.abs (aP Tryz.prog 3 m5 (gu Z (xs.take i)) an)) (p':=.abs (aP Tryz.prog 3 m5 (gu Z xs) an)) (by kernel_rfl) (by rw [show xs.take i=xs by rw [show i=xs.length by omega,List.take_length]]) ?_
   refine ak.mF (d:=(some 61)) (t:=137) (fun _=>by kernel_rfl) Tryz.prog rfl 3 (fun m11=>?_)
   refine gK 1 [(16,.map (some m11))] [] ?_
   refine NN (af.seq (SR (ak.d9 12 (p:=.abs (aP Tryz.prog 3 m11 (fun _=>none) 0)) (p':=.abs (aP Tryz.prog 3 m11 (eO (fs.take 0)) 0)) (by kernel_rfl) (congrArg (fun f=>HP.abs (aP Tryz.prog 3 _ f 0)) LR.symm) ?_)))
   refine gK 4 [(63,.slice Af (fs.length) (cf)),(64,vI ↑fs.length),(65,vI 0)] [(1,a_ 9 b4)] ?_
   refine NN (af.block ?_)
   refine af.loop (ι:=Nat×Nat) (fun ((j,kn):Nat×Nat)=>(j<=fs.length)/\(kn<=j)) (fun ((j,kn):Nat×Nat)=>fs.length - j) (fun ((j,kn):Nat×Nat)=>(U0 b2 f m5 m11 Af fs cf j)) (fun ((j,kn):Nat×Nat)=>[tI b2 root,pF f m t N.1.X,pI m L N.1.idx,pT t N.1.X.cH N.1.av L N.1.us,pO N.1.O L,pD N.1.O L,pE N.1.O L,rG b1 A ns c,rU b3 X,Ez b4 Af fs cf Aa xs ca,.abs (aP Tryz.prog 3 m5 (gu Z xs) an),.abs (aP Tryz.prog 3 m11 (eO (fs.take j)) kn),.abs R]) (0,0) (idx:=[5,10,13,16,63,64,65]) (pk:=[0,1,2,3,4,5,6,7,8,9,10,12,11]) (show (0<=fs.length)/\(0<=0) from ⟨Nat.zero_le _,Nat.le_refl _⟩) (fun _=>by kernel_rfl) rfl (by kernel_rfl) ?_
   rintro⟨j,kn⟩ ⟨hj,hkn⟩
   show af _ _ _ _ (U0 b2 f m5 m11 Af fs cf j) [tI b2 root,pF f m t N.1.X,pI m L N.1.idx,pT t N.1.X.cH N.1.av L N.1.us,pO N.1.O L,pD N.1.O L,pE N.1.O L,rG b1 A ns c,rU b3 X,Ez b4 Af fs cf Aa xs ca,.abs (aP Tryz.prog 3 m5 (gu Z xs) an),.abs (aP Tryz.prog 3 m11 (eO (fs.take j)) kn),.abs R] _
   refine SR (gK 1 [(66,.bool (decide ((((j:Nat):Int):Int) < (((fs.length:Nat):Int):Int))))] [] ?_)
   refine NN (af.seq (af.bh (p:=(((j:Nat):Int):Int) < (((fs.length:Nat):Int):Int)) (fun _=>by kernel_rfl) (fun BN=>?_) (fun BN=>?_)))
   ·refine af.skip (NX (af.seq (af.block (SR ?_))))
    refine gN 4 (fun b12=>[(18,vP b12)]) (fun b12=>[(0,p_ ⟨[],some j,none,some ⟨(aE Af),aD Af,none⟩,none⟩ [((j:Nat):Int)=((j:Nat):Int),j < fs.length,(⟨(aE Af),aD Af,none⟩:Addr).spot=none,(Af:Option Addr)=some ⟨(aE Af),aD Af,none⟩] ⟨rfl,by omega,rfl,TP hF (i:=j) (by omega),trivial⟩),(1,p_ ⟨[.old (.int .i64 ((kg fs j).at_)),.old (.int .i64 ((kg fs j).kind))],none,none,none,none⟩ [(Rd Kz ⟨(aE Af),aD Af+j * 2+1,none⟩ (.int .i64 ((kg fs j).kind))),(Rd Kz ⟨(aE Af),aD Af+j * 2,none⟩ (.int .i64 ((kg fs j).at_)))] ⟨Pr hF (i:=j) (by omega) (j:=1) rfl,Pr hF (i:=j) (by omega) (j:=0) rfl,trivial⟩),(3,A_ 13 b12 2)]) (fun _=>[]) (fun b12=>.blk b12 [vI ((kg fs j).at_),vI ((kg fs j).kind)] 139) (fun b12=>?_)
    refine NS (gK 4 [(72,.bool (decide (((kg fs j).kind:Int) ≥ (1:Int))))] [(1,a_ 13 b12)] ?_)
    refine ak.iN 72 (((kg fs j).kind:Int) ≥ (1:Int)) (fun _=>by kernel_rfl) (fun WQ=>?_) (fun WQ=>?_)
    ·refine gK 5 [(77,.bool (decide (((kg fs j).kind:Int)<=(3:Int))))] [(1,a_ 13 b12)] ?_
     refine ak.iN 77 (((kg fs j).kind:Int)<=(3:Int)) (fun _=>by kernel_rfl) (fun WR=>?_) (fun WR=>?_)
     ·refine gK 3 [(78,.map (some m11)),(80,vI ((kg fs j).at_))] [(2,a_ 13 b12)] ?_
      refine ak.eP 11 (d:=(some 81)) (t:=137) (K:=3) (E:=3) (b:=m11) (n:=kn) (f:=(eO (fs.take j))) (x:=(.tmp 78)) (ix:=(.tmp 80)) (key:=.int .i64 ((kg fs j).at_)) (z:=.int .i64 0) (kl:=(Lit.int IntKind.i64 (kg fs j).at_)) (r:=(eO (fs.take j) (Lit.int IntKind.i64 (kg fs j).at_))) (fun _=>by kernel_rfl) (by kernel_rfl) (fun _=>by kernel_rfl) (fun _=>by kernel_rfl) eE Tryz.underlying137 (fun _=>by kernel_rfl) (iR (mA.at (by omega))) (rfl) ?_
      refine ak.slot 81 (((eO (fs.take j) (Lit.int IntKind.i64 (kg fs j).at_)).getD (.int .i64 0))) (.int .i64 ((iW (fs.take j) (kg fs j).at_))) (fun _=>by kernel_rfl) (Ej) ?_
      refine gK 2 [(83,.bool (decide (((iW (fs.take j) (kg fs j).at_):Int)=(0:Int))))] [] ?_
      refine NN (af.bh (p:=((iW (fs.take j) (kg fs j).at_):Int)=(0:Int)) (fun _=>by kernel_rfl) (fun WS=>?_) (fun WS=>?_))
      ·refine af.region (gK 5 [(84,.map (some m11)),(86,vI ((kg fs j).at_)),(88,vI ((kg fs j).kind))] [(2,a_ 13 b12),(4,a_ 13 b12)] ?_)
       refine ak.ld 11 (d:=none) (t:=137) (K:=3) (E:=3) (b:=m11) (n:=kn) (f:=(eO (fs.take j))) (x:=(.tmp 84)) (ix:=(.tmp 86)) (y:=(.tmp 88)) (key:=.int .i64 ((kg fs j).at_)) (u:=.int .i64 ((kg fs j).kind)) (kl:=(Lit.int IntKind.i64 (kg fs j).at_)) (n':=(if (eO (fs.take j) (Lit.int IntKind.i64 (kg fs j).at_)).isSome then kn else kn+1)) (f':=(eO (fs.take (j+1)))) (fun _=>by kernel_rfl) (by kernel_rfl) (fun _=>by kernel_rfl) (fun _=>by kernel_rfl) (fun _=>by kernel_rfl) eE Tryz.underlying137 (by unfold maxLen;omega) (iR (mA.at (by omega))) (rfl) (by rw [wU (by omega)];exact LU ⟨by omega,by omega⟩ (by omega)) ?_
       refine NL (aj.aQ (NX (af.region ?_)))
       refine gK 2 [(65,vI ↑(j+1))] [(0,p_ ⟨[],none,none,none,some (vI ↑(j+1))⟩ [(Value.int .i64 (IntKind.wrap .i64 (((j:Nat):Int)+1)))=(.int .i64 ↑(j+1))] ⟨aY (by omega) (by omega) (by omega),trivial⟩)] ?_
       refine NL ?_
       exact aj.turn ((j+1),(if (eO (fs.take j) (Lit.int IntKind.i64 (kg fs j).at_)).isSome then kn else kn+1)) (idx:=[5,10,13,16,63,64,65]) (pk:=[0,1,2,3,4,5,6,7,8,9,10,11,12]) (show (((j+1))<=fs.length)/\(((if (eO (fs.take j) (Lit.int IntKind.i64 (kg fs j).at_)).isSome then kn else kn+1))<=((j+1))) from ⟨by omega,by split<;>omega⟩) (by show fs.length - ((j+1)) < fs.length - j;omega) (fun _=>by kernel_rfl) rfl (by kernel_rfl)
      refine af.skip (aj.aQ (NX (af.region ?_)))
      refine ak.d9 11 (p:=.abs (aP Tryz.prog 3 m11 (eO (fs.take j)) kn)) (p':=.abs (aP Tryz.prog 3 m11 (eO (fs.take (j+1))) kn)) (by kernel_rfl) (by rw [wU (by omega),wT];unfold FK;omega) ?_
      refine gK 2 [(65,vI ↑(j+1))] [(0,p_ ⟨[],none,none,none,some (vI ↑(j+1))⟩ [(Value.int .i64 (IntKind.wrap .i64 (((j:Nat):Int)+1)))=(.int .i64 ↑(j+1))] ⟨aY (by omega) (by omega) (by omega),trivial⟩)] ?_
      refine NL ?_
      exact aj.turn ((j+1),kn) (idx:=[5,10,13,16,63,64,65]) (pk:=[0,1,2,3,4,5,6,7,8,9,10,11,12]) (show (((j+1))<=fs.length)/\(kn<=((j+1))) from ⟨by omega,by omega⟩) (by show fs.length - ((j+1)) < fs.length - j;omega) (fun _=>by kernel_rfl) rfl (by kernel_rfl)
     refine gK 4 [(81,undef)] [] ?_
     refine gK 2 [(83,.bool false)] [] ?_
     refine NN (CF (af.skip (aj.aQ (NX (af.region ?_)))))
     refine ak.d9 11 (p:=.abs (aP Tryz.prog 3 m11 (eO (fs.take j)) kn)) (p':=.abs (aP Tryz.prog 3 m11 (eO (fs.take (j+1))) kn)) (by kernel_rfl) (by rw [wU (by omega),wT];unfold FK;omega) ?_
     refine gK 2 [(65,vI ↑(j+1))] [(0,p_ ⟨[],none,none,none,some (vI ↑(j+1))⟩ [(Value.int .i64 (IntKind.wrap .i64 (((j:Nat):Int)+1)))=(.int .i64 ↑(j+1))] ⟨aY (by omega) (by omega) (by omega),trivial⟩)] ?_
     refine NL ?_
     exact aj.turn ((j+1),kn) (idx:=[5,10,13,16,63,64,65]) (pk:=[0,1,2,3,4,5,6,7,8,9,10,11,12]) (show (((j+1))<=fs.length)/\(kn<=((j+1))) from ⟨by omega,by omega⟩) (by show fs.length - ((j+1)) < fs.length - j;omega) (fun _=>by kernel_rfl) rfl (by kernel_rfl)
    refine gK 9 [(77,.bool false),(81,undef)] [] ?_
    refine gK 2 [(83,.bool false)] [] ?_
    refine NN (CF (af.skip (aj.aQ (NX (af.region ?_)))))
    refine ak.d9 11 (p:=.abs (aP Tryz.prog 3 m11 (eO (fs.take j)) kn)) (p':=.abs (aP Tryz.prog 3 m11 (eO (fs.take (j+1))) kn)) (by kernel_rfl) (by rw [wU (by omega),wT];unfold FK;omega) ?_
    refine gK 2 [(65,vI ↑(j+1))] [(0,p_ ⟨[],none,none,none,some (vI ↑(j+1))⟩ [(Value.int .i64 (IntKind.wrap .i64 (((j:Nat):Int)+1)))=(.int .i64 ↑(j+1))] ⟨aY (by omega) (by omega) (by omega),trivial⟩)] ?_
    refine NL ?_
    exact aj.turn ((j+1),kn) (idx:=[5,10,13,16,63,64,65]) (pk:=[0,1,2,3,4,5,6,7,8,9,10,11,12]) (show (((j+1))<=fs.length)/\(kn<=((j+1))) from ⟨by omega,by omega⟩) (by show fs.length - ((j+1)) < fs.length - j;omega) (fun _=>by kernel_rfl) rfl (by kernel_rfl)
   refine af.exit (aj.br (aj.br (aj.dM (NX (SR ?_)))))
   refine ak.d9 11 (p:=.abs (aP Tryz.prog 3 m11 (eO (fs.take j)) kn)) (p':=.abs (aP Tryz.prog 3 m11 (eO fs) kn)) (by kernel_rfl) (by rw [show fs.take j=fs by rw [show j=fs.length by omega,List.take_length]]) ?_
   refine gN 5 (fun b13=>[(19,vP b13)]) (fun b13=>[(1,a_ 0 b2)]) (fun _=>[]) (fun b13=>.blk b13 [.nilIface,vP f,.nilIface,vI (root),.slice none (0) (0)] 53) (fun b13=>?_)
   refine NS (gN 11 (fun b14=>[(94,vP b13),(104,.agg #[.iface 141 (vP b14),vP f,vI (root),.map (some m5),vI 0])]) (fun b14=>[(8,a_ 0 b2)]) (fun _=>[]) (fun b14=>.blk b14 [.iface 49 (vP f),.map (some m11),vI 0] 143) (fun b14=>?_))
   refine gN 5 (fun _=>[]) (fun b15=>[(4,a_ 13 b13)]) (fun b15=>[(13,[(2,.iface 140 (vP b15))])]) (fun b15=>.blk b15 [.iface 141 (vP b14),vP f,vI (root),.map (some m5),vI 0] 145) (fun b15=>?_)
   refine NS (gK 3 [(109,vP b13),(111,.iface 39 (vP b13))] [] ?_)
   refine gL [] (Sq b13) ?_
   rintro _ _ ⟨rfl,rfl⟩
   refine gC 3 [] [(2,a_ 13 b13)] [(13,[(0,.iface 39 (vP b13))])] ?_
   refine NS (gK 3 [(8,vP b13),(9,vI 0)] [] ?_)
   refine NN (af.ret (aj.mem (fun w hS=>hS.kI (e:=88) (size:=13)) ?_))
   exact aj.iQ (v:=.tuple #[vP b13,vI 0]) (l:=(U1 b13 f b15 root b14 m5 m11 Z xs an fs kn++[pF f m t N.1.X,pI m L N.1.idx,pT t N.1.X.cH N.1.av L N.1.us,pO N.1.O L,pD N.1.O L,pE N.1.O L])) (aZ:=[]) [] [13,15,14,10,11,16,1,2,3,4,5,6,12] hle0 (fun _=>by kernel_rfl) trivial rfl (by kernel_rfl) (.inr ⟨CG oI.1 oI.2 hr Cw,N,L,b13,b15,b14,f,m,t,m5,an,m11,kn,Z,rfl,rfl,hZ⟩)
  refine af.region (gK 3 [(30,.slice A (ns.length) (c)),(31,.func (.func 50) #[] #[vP b2])] [(1,a_ 7 b1)] ?_)
  refine gL [8] (OX (β:=β) hno A c hG hB b2) ?_
  rintro _ _ ⟨rfl,rfl⟩
  refine gK 1 [(12,vI (-1))] [] ?_
  refine NN (af.seq (SR (gK 2 [(34,.bool true)] [] ?_)))
  refine NN (CT (SR (gK 2 [(8,.pointer none),(9,vI 141)] [] ?_)))
  refine NN (af.ret (aj.aq ?_))
  exact aj.iQ (v:=.tuple #[.pointer none,vI 141]) (l:=[]) (aZ:=[]) [] [7] hle0 (fun _=>by kernel_rfl) trivial rfl (by kernel_rfl) (.inl ⟨by rw [Ab oI.1 oI.2 hno];decide,by rw [Ab oI.1 oI.2 hno],rfl⟩)
 refine af.region (gK 2 [(21,.agg #[.slice A (ns.length) (c)]),(22,.agg #[vI (X.cN),vI (X.cB),vI (X.cH),vI (X.cS),vI (X.cZ)])] [(0,a_ 1 b1),(1,A_ 3 b3 5)] ?_)
 refine gL [] (OV (β:=β) (root:=root) oI A c hG hB) ?_
 rintro _ _ ⟨rfl,rfl⟩
 refine gK 5 [(10,.pointer none),(11,vI ((dg X ns root)))] [] ?_
 refine NN (af.seq (SR (gK 2 [(27,.bool (!(decide (((dg X ns root):Int)=(0:Int)))))] [] ?_)))
 refine NN (af.dx (p:=((dg X ns root):Int)=(0:Int)) (fun _=>by kernel_rfl) (fun U2=>?_) (fun U2=>?_))
 ·refine SR (gK 3 [(8,.pointer none),(9,vI ((dg X ns root)))] [] ?_)
  refine NN (af.ret (aj.aq ?_))
  exact aj.iQ (v:=.tuple #[.pointer none,vI ((dg X ns root))]) (l:=[]) (aZ:=[]) [] [0] hle0 (fun _=>by kernel_rfl) trivial rfl (by kernel_rfl) (.inl ⟨CM oI,rfl,rfl⟩)
 exact absurd U2 (CM oI)
end
section
open Go.RowKit Go.Maps bF aB
attribute [local irreducible] ak aR af aj
noncomputable abbrev U3 (w)(f:Nat) (o) (root) (tA) (tr:List ax) (tC):=(.blk w [.iface 39 (vP w),vP f,.iface 140 (vP o),vI (root),.slice tA (tr.length) (tC)] 53:HP)
noncomputable abbrev WT (o)(q)(f:Nat) (root) (am) (tr:List ax):=(.blk o [.iface 141 (vP q),vP f,vI (root),.map (some am),vI (((tr.length:Nat):Int))] 145:HP)
noncomputable abbrev WU (q)(f:Nat) (km) (tr:List ax):=(.blk q [.iface 49 (vP f),.map (some km),vI (((tr.length:Nat):Int))] 143:HP)
noncomputable abbrev U4 (am)(Z)(xs)(an):=(.abs (aP Tryz.prog 3 am (gu Z xs) an):HP)
noncomputable abbrev U5 (km)(fs)(kn):=(.abs (aP Tryz.prog 3 km (eO fs) kn):HP)
noncomputable abbrev U6 (tA)(tr:List ax) (tC):=(.abs (aJ 88 13 tA tr.length tC (bW cC tr)):HP)
noncomputable abbrev EA (w)(f:Nat) (o) (root) (tA) (tr) (tC) (q) (am) (km) (Z) (xs) (an) (fs) (kn) (m:Nat) (t) (S:aG) (L:HL):=([U3 w f o root tA tr tC,WT o q f root am tr,WU q f km tr,U4 am Z xs an,U5 km fs kn,U6 tA tr tC,pF f m t S.X,pI m L S.idx,lP t S L,pO S.O L,pD S.O L,pE S.O L]:List HP)
theorem KA {β:Bs} (S:aG) (L:HL) (w o q f m t am an km kn:Nat) (Z:AZ) (fs:List bq) (xs:List bP) (root:Int) (tr:List ax) (tA:Option Addr) (tC:Nat)  :
    Spec Tryz.prog β 13 #[vP w] (EA w f o root tA tr tC q am km Z xs an fs kn m t S L) (fun v l=>v=vI (tr.length:Int)/\l=(EA w f o root tA tr tC q am km Z xs an fs kn m t S L)):=by
 refine Spec.enter Tryz.func13 rfl Tryz.ntmps13 (Nat.le_of_ble_eq_true rfl) (fun R=>?_)
 refine SR (gK 1 [] [] ?_)
 refine NS (gK 6 [(2,vI ↑tr.length)] [(3,a_ 0 w)] ?_)
 refine NN (af.ret ?_)
 exact RT (vI ↑tr.length) [0,1,2,3,4,5,6,7,8,9,10,11,12] (⟨rfl,rfl⟩)
theorem MB {β:Bs} (S:aG) (L:HL) (w o q f m t am an km kn:Nat) (Z:AZ) (fs:List bq) (xs:List bP) (root:Int) (tr:List ax) (tA:Option Addr) (tC:Nat)  :
    Spec Tryz.prog β 14 #[vP w] (EA w f o root tA tr tC q am km Z xs an fs kn m t S L) (fun v l=>v=vI (S.us.length:Int)/\l=(EA w f o root tA tr tC q am km Z xs an fs kn m t S L)):=by
 refine Spec.enter Tryz.func14 rfl Tryz.ntmps14 (Nat.le_of_ble_eq_true rfl) (fun R=>?_)
 refine SR (gK 1 [] [] ?_)
 refine NS (gK 4 [(6,vP f)] [(3,a_ 0 w)] ?_)
 refine gL [6,8] (Mw S L f m t) ?_
 rintro _ _ ⟨Ah,ch,rfl,rfl⟩
 refine gK 2 [(2,vI ↑S.us.length)] [] ?_
 refine NN (af.ret ?_)
 exact RT (vI ↑S.us.length) [3,4,5,6,7,8,0,9,1,10,11,12,13] (⟨rfl,rfl⟩)
theorem MC {β:Bs} (S:aG) (L:HL) (w o q f m t am an km kn:Nat) (Z:AZ) (fs:List bq) (xs:List bP) (root:Int) (tr:List ax) (tA:Option Addr) (tC:Nat)  :
    Spec Tryz.prog β 12 #[vP w] (EA w f o root tA tr tC q am km Z xs an fs kn m t S L) (fun v l=>v=vI S.av/\l=(EA w f o root tA tr tC q am km Z xs an fs kn m t S L)):=by
 refine Spec.enter Tryz.func12 rfl Tryz.ntmps12 (Nat.le_of_ble_eq_true rfl) (fun R=>?_)
 refine SR (gK 1 [] [] ?_)
 refine NS (gK 4 [(6,vP f)] [(3,a_ 0 w)] ?_)
 refine gL [6,8] (OT S L f m t) ?_
 rintro _ _ ⟨rfl,rfl⟩
 refine gK 1 [(2,vI (S.av))] [] ?_
 refine NN (af.ret ?_)
 exact RT (vI (S.av)) [2,3,4,5,6,7,0,8,1,9,10,11,12] (⟨rfl,rfl⟩)
theorem KC {β:Bs} (S:aG) (L:HL) (w o q f m t am an km kn:Nat) (Z:AZ) (fs:List bq) (xs:List bP) (root:Int) (tr:List ax) (tA:Option Addr) (tC:Nat) (hI:Inv S) :
    Spec Tryz.prog β 17 #[vP w] (EA w f o root tA tr tC q am km Z xs an fs kn m t S L) (fun v l=>∃ A cp K,v=.agg #[.slice A (bC S).length cp]/\l=(EA w f o root tA tr tC q am km Z xs an fs kn m t S L)++[.abs (aJ 108 10 A (bC S).length cp (dQ K (bC S))),.abs (jQ (mh (bC S) K) (bC S).length),.abs (jQ (mo (bC S) K) (bC S).length)]):=by
 refine Spec.enter Tryz.func17 rfl Tryz.ntmps17 (Nat.le_of_ble_eq_true rfl) (fun R=>?_)
 refine SR (gN 1 (fun b1=>[(2,vP b1)]) (fun _=>[]) (fun _=>[]) (fun b1=>.blk b1 [.slice none (0) (0)] 24) (fun b1=>?_))
 refine NS (gK 4 [(6,vP f)] [(3,a_ 0 w)] ?_)
 refine gL [6,7,9,10,11] (Ms S L f m t hI) ?_
 rintro _ _ ⟨Ao,cp,K,rfl,rfl⟩
 refine gC 1 [] [(0,a_ 16 b1)] [(16,[(0,.slice Ao ((bC S).length) (cp))])] ?_
 refine NN (af.ret ?_)
 exact aj.ret (v:=.agg #[.slice Ao ((bC S).length) (cp)]) (l:=[U3 w f o root tA tr tC,.blk o [.iface 141 (vP q),vP f,vI (root),.map (some am),vI ↑tr.length] 145,.blk q [.iface 49 (vP f),.map (some km),vI ↑tr.length] 143,U4 am Z xs an,U5 km fs kn,U6 tA tr tC,pF f m t S.X,pI m L S.idx,lP t S L,pO S.O L,pD S.O L,pE S.O L,.abs (aJ 108 10 Ao ((bC S).length) cp (dQ K (bC S))),.abs (jQ (mh (bC S) K) (bC S).length),.abs (jQ (mo (bC S) K) (bC S).length)]) (aZ:=[b1=b1]) [.at 16] [8,9,10,11,12,13,0,1,14,2,3,4,5,6,7,15] (fun _=>by kernel_rfl) ⟨rfl,trivial⟩ rfl (by kernel_rfl) (⟨Ao,cp,K,rfl,rfl⟩)
theorem xO {β:Bs} (Af:Option Addr) (cf:Nat) (fs:List bq) (hF:cW β Af (bW fN fs)) (hfl:fs.length<=2097152) (Aa:Option Addr) (ca:Nat) (xs:List bP) (hA:cW β Aa (bW gq xs)) (hxl:xs.length<=2097152) :
    Spec Tryz.prog β 27 #[.agg #[.slice Af (fs.length) (cf),.slice Aa (xs.length) (ca)]] [] (fun v l=>∃ B b C c,v=.agg #[.slice B fs.length b,.slice C xs.length c]/\l=[.abs (aJ 139 2 B fs.length b (bW fN fs)),.abs (aJ 136 5 C xs.length c (bW gq xs))]):=by
 refine Spec.enter Tryz.func27 rfl Tryz.ntmps27 (Nat.le_of_ble_eq_true rfl) (fun R=>?_)
 refine SR (gN 1 (fun b2=>[(1,vP b2)]) (fun _=>[]) (fun _=>[]) (fun b2=>.blk b2 [.slice Af (fs.length) (cf),.slice Aa (xs.length) (ca)] 32) (fun b2=>?_))
 refine gN 1 (fun b3=>[(2,vP b3)]) (fun _=>[]) (fun _=>[]) (fun b3=>.blk b3 [.slice none (0) (0),.slice none (0) (0)] 32) (fun b3=>?_)
 refine NS (gN 2 (fun b4=>[(3,.slice (some ⟨b4,0,none⟩) (0) (0))]) (fun _=>[]) (fun _=>[]) (fun b4=>.blk b4 [] 139) (fun b4=>?_))
 refine NS (ak.mem (fun w hS=>hS.pG (i:=3) (b:=b4) (cs:=[]) (e:=139) 2 0 (by kernel_rfl) rfl (by decide)) ?_)
 refine gK 3 [(6,.slice (some ⟨b4,0,none⟩) (0) (0)),(8,.slice Af (fs.length) (cf))] [(2,a_ 1 b2)] ?_
 refine ak.append 3 (d:=(some 9)) (t:=29) (e:=139) (z:=.agg #[vI 0,vI 0]) (size:=2) (bytes:=16) (n:=0) (cap:=0) (A:=some ⟨b4,0,none⟩) (xs:=[]) (s:=(.tmp 6)) (x:=(.tmp 8)) (ats:=#[29,29]) (A':=Af) (m:=fs.length) (c':=cf) (news:=(bW fN fs)) (fun _=>by kernel_rfl) rfl (by kernel_rfl) (fun _=>by kernel_rfl) (fun _=>by kernel_rfl) Tryz.underlying29 (by kernel_rfl) rfl (by decide) (Ei (f:=fN) (s:=2) (fun _=>rfl) _) (tV (Ke) _ _) (hF.src) (by unfold maxLen;omega) (by omega) (fun A5 c6=>?_)
 refine ak.d9 3 (p:=.abs (aJ 139 2 A5 (0+fs.length) c6 ([]++(bW fN fs)))) (p':=.abs (aJ 139 2 A5 fs.length c6 (bW fN fs))) (by kernel_rfl) (by rw [Nat.zero_add,List.nil_append]) ?_
 refine ak.slot 9 (.slice A5 (0+fs.length) (c6)) (.slice A5 (fs.length) (c6)) (fun _=>by kernel_rfl) (by rw [Nat.zero_add]) ?_
 refine gK 1 [(3,.slice A5 (fs.length) (c6))] [] ?_
 refine NS (gN 2 (fun b7=>[(4,.slice (some ⟨b7,0,none⟩) (0) (0))]) (fun _=>[]) (fun _=>[]) (fun b7=>.blk b7 [] 136) (fun b7=>?_))
 refine NS (ak.mem (fun w hS=>hS.pG (i:=4) (b:=b7) (cs:=[]) (e:=136) 5 0 (by kernel_rfl) rfl (by decide)) ?_)
 refine gK 3 [(11,.slice (some ⟨b7,0,none⟩) (0) (0)),(13,.slice Aa (xs.length) (ca))] [(2,a_ 1 b2)] ?_
 refine ak.append 4 (d:=(some 14)) (t:=30) (e:=136) (z:=.agg #[vI 0,vI 0,.string ⟨#[]⟩,.string ⟨#[]⟩,.string ⟨#[]⟩]) (size:=5) (bytes:=64) (n:=0) (cap:=0) (A:=some ⟨b7,0,none⟩) (xs:=[]) (s:=(.tmp 11)) (x:=(.tmp 13)) (ats:=#[30,30]) (A':=Aa) (m:=xs.length) (c':=ca) (news:=(bW gq xs)) (fun _=>by kernel_rfl) rfl (by kernel_rfl) (fun _=>by kernel_rfl) (fun _=>by kernel_rfl) Tryz.underlying30 (by kernel_rfl) rfl (by decide) (Ei (f:=gq) (s:=5) (fun _=>rfl) _) (tV (Oc) _ _) (hA.src) (by unfold maxLen;omega) (by omega) (fun A8 c9=>?_)
 refine ak.d9 4 (p:=.abs (aJ 136 5 A8 (0+xs.length) c9 ([]++(bW gq xs)))) (p':=.abs (aJ 136 5 A8 xs.length c9 (bW gq xs))) (by kernel_rfl) (by rw [Nat.zero_add,List.nil_append]) ?_
 refine ak.slot 14 (.slice A8 (0+xs.length) (c9)) (.slice A8 (xs.length) (c9)) (fun _=>by kernel_rfl) (by rw [Nat.zero_add]) ?_
 refine gK 1 [(4,.slice A8 (xs.length) (c9))] [] ?_
 refine NS (gC 4 [] [(3,A_ 2 b3 2)] [(2,[(0,.slice A5 (fs.length) (c6)),(1,.slice A8 (xs.length) (c9))])] ?_)
 refine NN (af.ret ?_)
 exact aj.ret (v:=.agg #[.slice A5 (fs.length) (c6),.slice A8 (xs.length) (c9)]) (l:=[.abs (aJ 139 2 A5 fs.length c6 (bW fN fs)),.abs (aJ 136 5 A8 xs.length c9 (bW gq xs))]) (aZ:=[b3=b3,b3=b3]) [.at 2,.at 2] [3,4,0] (fun _=>by kernel_rfl) ⟨rfl,rfl,trivial⟩ rfl (by kernel_rfl) (⟨A5,c6,A8,c9,rfl,rfl⟩)
end
section
open Go.RowKit Go.Maps bF aB
attribute [local irreducible] ak aR af aj
noncomputable abbrev lQ (km)(fs)(kn):=(.abs (aP Tryz.prog 3 km (eO fs) kn):HP)
noncomputable abbrev vR (q)(f:Nat) (km) (n):=(.blk q [.iface 49 (vP f),.map (some km),vI ↑(n+1)] 143:HP)
noncomputable abbrev U7 (S:aG) (c:ax):=([(6,vI ((bV S { c with data:=c.data.take (c.data.length / 2) }).2.mode)),(7,vI ((bV S { c with data:=c.data.take (c.data.length / 2) }).2.uid)),(8,vI ((bV S { c with data:=c.data.take (c.data.length / 2) }).2.gid)),(9,vI ((bV S { c with data:=c.data.take (c.data.length / 2) }).2.sec)),(10,vI ((bV S { c with data:=c.data.take (c.data.length / 2) }).2.nano)),(11,vI ((bV S { c with data:=c.data.take (c.data.length / 2) }).2.code)),(12,vI ((bV S { c with data:=c.data.take (c.data.length / 2) }).2.answer))]:Fr)
noncomputable abbrev U8 (c):=([(0,vI ((cQ c 180).op)),(1,vI ((cQ c 180).handle)),(2,vI ((cQ c 180).other)),(3,.string (cQ c 180).name),(4,.string (cQ c 180).text),(5,.slice (cQ c 180).dA ((cQ c 180).data.length) ((cQ c 180).dC)),(6,vI ((cQ c 180).mode)),(7,vI ((cQ c 180).uid)),(8,vI ((cQ c 180).gid)),(9,vI ((cQ c 180).sec)),(10,vI ((cQ c 180).nano)),(11,vI ((cQ c 180).code)),(12,vI ((cQ c 180).answer))]:Fr)
noncomputable abbrev U9 (S:aG) (c:ax):=([(0,vI ((bV S { c with data:=c.data.take (c.data.length / 2) }).2.op)),(1,vI ((bV S { c with data:=c.data.take (c.data.length / 2) }).2.handle)),(2,vI ((bV S { c with data:=c.data.take (c.data.length / 2) }).2.other)),(3,.string (bV S { c with data:=c.data.take (c.data.length / 2) }).2.name),(4,.string (bV S { c with data:=c.data.take (c.data.length / 2) }).2.text)]:Fr)
noncomputable abbrev Ad (b3:Nat) (b4:Nat):=([(3,vP b3),(4,vP b4)]:Fr)
noncomputable abbrev o7 (f:Nat) (m:Nat) (t) (S:aG) (L:HL):=([pF f m t S.X,pI m L S.idx,lP t S L,pO S.O L,pD S.O L,pE S.O L]:List HP)
noncomputable abbrev SH (c:ax):=([(3,.string c.name),(4,.string c.text),(5,.slice c.dA (c.data.length) (c.dC))]:Fr)
noncomputable abbrev Vd (f:Nat) (m:Nat) (t) (S:aG) (c) (L2:HL):=([pF f m t ((bV S c).1.X),pI m L2 (bV S c).1.idx,pT t (bV S c).1.X.cH ((bV S c).1.av) L2 ((bV S c).1.us),pO ((bV S c).1.O) L2,pD ((bV S c).1.O) L2,pE ((bV S c).1.O) L2]:List HP)
theorem y7 {β:Bs} (c:ax) (e:Int) :
    Spec Tryz.prog β 242 #[.agg ⟨cC c⟩,vI (e)] [] (fun v l=>v=.agg ⟨cC (cQ c e)⟩/\l=[]):=by
 refine Spec.enter Tryz.func242 rfl Tryz.ntmps242 (Nat.le_of_ble_eq_true rfl) (fun R=>?_)
 refine SR (gN 1 (fun b1=>[(2,vP b1)]) (fun _=>[]) (fun _=>[]) (fun b1=>pC b1 c) (fun b1=>?_))
 refine gN 1 (fun b2=>[(4,vP b2)]) (fun _=>[]) (fun _=>[]) (fun b2=>.blk b2 [vI 0,vI 0,vI 0,.string ⟨#[]⟩,.string ⟨#[]⟩,.slice none (0) (0),vI 0,vI 0,vI 0,vI 0,vI 0,vI 0,vI 0] 88) (fun b2=>?_)
 refine NN (af.seq (SR (gK 4 [(8,.bool (decide ((c.op:Int)=(11:Int))))] [(1,a_ 1 b1)] ?_)))
 refine ak.iN 8 ((c.op:Int)=(11:Int)) (fun _=>by kernel_rfl) (fun h8=>?_) (fun h8=>?_)
 ·refine gK 4 [(12,.bool true)] [] ?_
  refine NN (CT (af.region (gC 12 [] [(1,a_ 1 b1),(3,a_ 1 b1),(5,a_ 1 b1),(7,a_ 1 b1),(9,a_ 1 b1),(11,A_ 1 b1 13)] [(1,(DH++[(11,vI 0),(12,vI 0)]))] ?_)))
  refine NS (gC 5 [] [(2,a_ 1 b1),(4,a_ 1 b1)] [(1,[(11,vI (e))])] ?_)
  refine NS (gC 2 [] [(0,A_ 1 b1 13),(1,A_ 2 b2 13)] [(2,([(0,vI (c.op)),(1,vI (c.handle))]++SH c++[(11,vI (e))]))] ?_)
  refine NN (af.ret ?_)
  exact aj.ret (v:=.agg ⟨cC { c with other:=0,mode:=0,uid:=0,gid:=0,sec:=0,nano:=0,code:=e,answer:=0 }⟩) (l:=[]) (aZ:=[b2=b2,b2=b2,b2=b2,b2=b2,b2=b2,b2=b2,b2=b2,b2=b2,b2=b2,b2=b2,b2=b2,b2=b2,b2=b2]) [.at 2,.at 2,.at 2,.at 2,.at 2,.at 2,.at 2,.at 2,.at 2,.at 2,.at 2,.at 2,.at 2] [0] (fun _=>by kernel_rfl) ⟨rfl,rfl,rfl,rfl,rfl,rfl,rfl,rfl,rfl,rfl,rfl,rfl,rfl,trivial⟩ rfl (by kernel_rfl) (⟨congrArg (fun x=>Value.agg ⟨cC x⟩) (Eq.symm (if_pos (by omega):cQ c e=_)),rfl⟩)
 refine gK 4 [(12,.bool (decide ((c.op:Int)=(12:Int))))] [(1,a_ 1 b1)] ?_
 refine NN (af.bh (p:=(c.op:Int)=(12:Int)) (fun _=>by kernel_rfl) (fun h12=>?_) (fun h12=>?_))
 ·refine af.region (gC 12 [] [(1,a_ 1 b1),(3,a_ 1 b1),(5,a_ 1 b1),(7,a_ 1 b1),(9,a_ 1 b1),(11,A_ 1 b1 13)] [(1,(DH++[(11,vI 0),(12,vI 0)]))] ?_)
  refine NS (gC 5 [] [(2,a_ 1 b1),(4,a_ 1 b1)] [(1,[(11,vI (e))])] ?_)
  refine NS (gC 2 [] [(0,A_ 1 b1 13),(1,A_ 2 b2 13)] [(2,([(0,vI (c.op)),(1,vI (c.handle))]++SH c++[(11,vI (e))]))] ?_)
  refine NN (af.ret ?_)
  exact aj.ret (v:=.agg ⟨cC { c with other:=0,mode:=0,uid:=0,gid:=0,sec:=0,nano:=0,code:=e,answer:=0 }⟩) (l:=[]) (aZ:=[b2=b2,b2=b2,b2=b2,b2=b2,b2=b2,b2=b2,b2=b2,b2=b2,b2=b2,b2=b2,b2=b2,b2=b2,b2=b2]) [.at 2,.at 2,.at 2,.at 2,.at 2,.at 2,.at 2,.at 2,.at 2,.at 2,.at 2,.at 2,.at 2] [0] (fun _=>by kernel_rfl) ⟨rfl,rfl,rfl,rfl,rfl,rfl,rfl,rfl,rfl,rfl,rfl,rfl,rfl,trivial⟩ rfl (by kernel_rfl) (⟨congrArg (fun x=>Value.agg ⟨cC x⟩) (Eq.symm (if_pos (by omega):cQ c e=_)),rfl⟩)
 refine af.skip (NX (SR (gC 5 [] [(2,a_ 1 b1),(4,a_ 1 b1)] [(1,[(11,vI (e)),(12,vI 0)])] ?_)))
 refine NS (gC 2 [] [(0,A_ 1 b1 13),(1,A_ 2 b2 13)] [(2,([(0,vI (c.op)),(1,vI (c.handle)),(2,vI (c.other))]++SH c++[(6,vI (c.mode)),(7,vI (c.uid)),(8,vI (c.gid)),(9,vI (c.sec)),(10,vI (c.nano)),(11,vI (e))]))] ?_)
 refine NN (af.ret ?_)
 exact aj.ret (v:=.agg ⟨cC { c with code:=e,answer:=0 }⟩) (l:=[]) (aZ:=[b2=b2,b2=b2,b2=b2,b2=b2,b2=b2,b2=b2,b2=b2,b2=b2,b2=b2,b2=b2,b2=b2,b2=b2,b2=b2]) [.at 2,.at 2,.at 2,.at 2,.at 2,.at 2,.at 2,.at 2,.at 2,.at 2,.at 2,.at 2,.at 2] [0] (fun _=>by kernel_rfl) ⟨rfl,rfl,rfl,rfl,rfl,rfl,rfl,rfl,rfl,rfl,rfl,rfl,rfl,trivial⟩ rfl (by kernel_rfl) (⟨congrArg (fun x=>Value.agg ⟨cC x⟩) (Eq.symm (if_neg (by omega):cQ c e=_)),rfl⟩)
theorem SI {β:Bs} (S:aG) (L:HL) (q f m t km kn n:Nat) (fs:List bq) (hI:Inv S) (hn:n<=8388608) (k:Int) (hk:iW fs ((n+1:Nat):Int)=k) (c:ax) (hC:gT β c) :
    Spec Tryz.prog β 241 #[vP q,.agg ⟨cC c⟩] ([.blk q [.iface 49 (vP f),.map (some km),vI (((n:Nat):Int))] 143,lQ km fs kn]++o7 f m t S L) (fun v l=>∃ L2,v=.agg ⟨cC (bE k S c).2⟩/\l=[.blk q [.iface 49 (vP f),.map (some km),vI ((((n+1):Nat):Int))] 143,lQ km fs kn,pF f m t ((bE k S c).1.X),pI m L2 (bE k S c).1.idx,pT t (bE k S c).1.X.cH ((bE k S c).1.av) L2 ((bE k S c).1.us),pO ((bE k S c).1.O) L2,pD ((bE k S c).1.O) L2,pE ((bE k S c).1.O) L2]):=by
 have hdl:=hC.dl
 have hdc:=hC.dc
 refine Spec.enter Tryz.func241 rfl Tryz.ntmps241 (Nat.le_of_ble_eq_true rfl) (fun R=>?_)
 refine SR (gN 1 (fun b3=>[(3,vP b3)]) (fun _=>[]) (fun _=>[]) (fun b3=>pC b3 c) (fun b3=>?_))
 refine gN 1 (fun b4=>[(4,vP b4)]) (fun _=>[]) (fun _=>[]) (fun b4=>.blk b4 [vI 0,vI 0,vI 0,.string ⟨#[]⟩,.string ⟨#[]⟩,.slice none (0) (0),vI 0,vI 0,vI 0,vI 0,vI 0,vI 0,vI 0] 88) (fun b4=>?_)
 refine NS (gC 8 [] [(3,a_ 0 q),(4,p_ ⟨[],none,none,none,some (vI ↑(n+1))⟩ [(Value.int .i64 (IntKind.wrap .i64 (((n:Nat):Int)+1)))=(.int .i64 ↑(n+1))] ⟨aY (by omega) (by omega) (by omega),trivial⟩),(7,a_ 0 q)] [(0,[(2,vI ↑(n+1))])] ?_)
 refine NN (af.join (ι:=Unit) (fun (u:Unit)=>(¬ k=1)/\(¬ (k=2/\(c.op=4\/c.op=5\/c.op=6\/c.op=7\/c.op=9)))/\(¬ (k=3/\c.op=9/\2<=c.data.length))) (fun (u:Unit)=>([(0,vP q)]++Ad b3 b4)) (fun (u:Unit)=>([vR q f km n,lQ km fs kn]++o7 f m t S L++[.abs R,pC b3 c,rF b4])) ?_ ?_)
 ·rintro u ⟨oL,hj2,hj3⟩
  show af _ _ _ _ ([(0,vP q)]++Ad b3 b4) ([vR q f km n,lQ km fs kn]++o7 f m t S L++[.abs R,pC b3 c,rF b4]) _
  refine af.seq (af.bU (S:=[vR q f km n,pC b3 c]) [0,1,2,3,4,5,6] 5 [0,9] (by kernel_rfl) (by kernel_rfl) rfl (by kernel_rfl) ?_)
  refine gR 0 [5,6] [(4,vP b4),(78,.iface 49 (vP f)),(79,.agg ⟨cC c⟩)] [0,1,2,3,4] [(3,a_ 0 q),(4,A_ 1 b3 13)] ?_
  refine mL [6,9] [2,3,4,5,6,7] (GW S L f m t hI c hC) ?_ (by rintro _ _ ⟨L2,rfl,rfl⟩;rfl)
  rintro _ _ ⟨L2,rfl,rfl⟩
  refine aO.last rfl rfl ?_
  refine gC 1 [] [(0,A_ 10 b4 13)] [(10,[(0,vI ((bV S c).2.op)),(1,vI ((bV S c).2.handle)),(2,vI ((bV S c).2.other)),(3,.string (bV S c).2.name),(4,.string (bV S c).2.text),(5,.slice (bV S c).2.dA ((bV S c).2.data.length) ((bV S c).2.dC)),(6,vI ((bV S c).2.mode)),(7,vI ((bV S c).2.uid)),(8,vI ((bV S c).2.gid)),(9,vI ((bV S c).2.sec)),(10,vI ((bV S c).2.nano)),(11,vI ((bV S c).2.code)),(12,vI ((bV S c).2.answer))])] ?_
  refine NL (aj.np (NX (af.ret ?_)))
  exact aj.ret (v:=.agg ⟨cC ((bV S c).2)⟩) (l:=([vR q f km n,lQ km fs kn]++Vd f m t S c L2)) (aZ:=[b4=b4,b4=b4,b4=b4,b4=b4,b4=b4,b4=b4,b4=b4,b4=b4,b4=b4,b4=b4,b4=b4,b4=b4,b4=b4]) [.at 10,.at 10,.at 10,.at 10,.at 10,.at 10,.at 10,.at 10,.at 10,.at 10,.at 10,.at 10,.at 10] [6,7,0,1,2,3,4,5,8] (fun _=>by kernel_rfl) ⟨rfl,rfl,rfl,rfl,rfl,rfl,rfl,rfl,rfl,rfl,rfl,rfl,rfl,trivial⟩ rfl (by kernel_rfl) (⟨L2,by rw [show bE k S c=((bV S c).1,(bV S c).2) by unfold bE;rw [if_neg oL,if_neg hj2,if_neg hj3]]<;>exact⟨rfl,rfl⟩⟩)
 refine af.seq (af.bI (by kernel_rfl) (by kernel_rfl) ?_)
 refine gQ 8 [(16,.map (some km)),(20,vI ↑(n+1))] [(3,a_ 0 q),(7,a_ 0 q)] ?_
 refine aR.eP 1 (d:=(some 21)) (t:=137) (K:=3) (E:=3) (b:=km) (n:=kn) (f:=(eO fs)) (x:=(.tmp 16)) (ix:=(.tmp 20)) (key:=.int .i64 ↑(n+1)) (z:=.int .i64 0) (kl:=(.int .i64 ((n+1:Nat):Int))) (r:=(eO fs (.int .i64 ((n+1:Nat):Int)))) (fun _=>by kernel_rfl) (by kernel_rfl) (fun _=>by kernel_rfl) (fun _=>by kernel_rfl) eE Tryz.underlying137 (fun _=>by kernel_rfl) (iR (LV (by omega))) (rfl) ?_
 refine NQ (NX (af.block (SR ?_)))
 refine ak.slot 21 (((eO fs (.int .i64 ((n+1:Nat):Int))).getD (.int .i64 0))) (.int .i64 (k)) (fun _=>by kernel_rfl) (Ej.trans (congrArg (Value.int .i64) hk)) ?_
 refine gK 2 [(22,.bool (decide ((k:Int)=(1:Int))))] [] ?_
 refine NN (af.bh (p:=(k:Int)=(1:Int)) (fun _=>by kernel_rfl) (fun xK=>?_) (fun xK=>?_))
 ·refine af.seq (SR (gK 3 [(26,.bool (decide ((c.op:Int)=(13:Int))))] [(1,a_ 9 b3)] ?_))
  refine NN (af.bh (p:=(c.op:Int)=(13:Int)) (fun _=>by kernel_rfl) (fun tW=>?_) (fun tW=>?_))
  ·refine af.bU (S:=[vR q f km n,pC b3 c]) [0,1,2,3,4,5] 5 [0,9] (by kernel_rfl) (by kernel_rfl) rfl (by kernel_rfl) ?_
   refine gR 0 [5] (Ad b3 b4++[(30,.iface 49 (vP f)),(31,.agg ⟨cC c⟩)]) [0,1,2,3,4] [(3,a_ 0 q),(4,A_ 1 b3 13)] ?_
   refine aO.last rfl rfl ?_
   refine gL [2,3,4,5,6,7] (GW S L f m t hI c hC) ?_
   rintro _ _ ⟨L2,rfl,rfl⟩
   refine NL (aj.np (NX (SR ?_)))
   refine gK 1 [(33,.agg ⟨cC c⟩)] [(0,A_ 9 b3 13)] ?_
   refine gL [] (y7 c 180) ?_
   rintro _ _ ⟨rfl,rfl⟩
   refine gC 1 [] [(0,A_ 10 b4 13)] [(10,(U8 c))] ?_
   refine NN (af.ret (aj.aF (aj.aq ?_)))
   exact aj.ret (v:=.agg ⟨cC (cQ c 180)⟩) (l:=([vR q f km n,lQ km fs kn]++Vd f m t S c L2)) (aZ:=[b4=b4,b4=b4,b4=b4,b4=b4,b4=b4,b4=b4,b4=b4,b4=b4,b4=b4,b4=b4,b4=b4,b4=b4,b4=b4]) [.at 10,.at 10,.at 10,.at 10,.at 10,.at 10,.at 10,.at 10,.at 10,.at 10,.at 10,.at 10,.at 10] [6,7,0,1,2,3,4,5,8] (fun _=>by kernel_rfl) ⟨rfl,rfl,rfl,rfl,rfl,rfl,rfl,rfl,rfl,rfl,rfl,rfl,rfl,trivial⟩ rfl (by kernel_rfl) (⟨L2,by rw [show bE k S c=((bV S c).1,cQ c 180) by unfold bE;rw [if_pos xK,if_pos tW]]<;>exact⟨rfl,rfl⟩⟩)
  refine af.skip (NX (SR (gK 1 [(33,.agg ⟨cC c⟩)] [(0,A_ 9 b3 13)] ?_)))
  refine gL [] (y7 c 180) ?_
  rintro _ _ ⟨rfl,rfl⟩
  refine gC 1 [] [(0,A_ 10 b4 13)] [(10,(U8 c))] ?_
  refine NN (af.ret (aj.aF (aj.aq ?_)))
  exact aj.ret (v:=.agg ⟨cC (cQ c 180)⟩) (l:=([vR q f km n,lQ km fs kn]++o7 f m t S L)) (aZ:=[b4=b4,b4=b4,b4=b4,b4=b4,b4=b4,b4=b4,b4=b4,b4=b4,b4=b4,b4=b4,b4=b4,b4=b4,b4=b4]) [.at 10,.at 10,.at 10,.at 10,.at 10,.at 10,.at 10,.at 10,.at 10,.at 10,.at 10,.at 10,.at 10] [0,1,2,3,4,5,6,7,8] (fun _=>by kernel_rfl) ⟨rfl,rfl,rfl,rfl,rfl,rfl,rfl,rfl,rfl,rfl,rfl,rfl,rfl,trivial⟩ rfl (by kernel_rfl) (⟨L,by rw [show bE k S c=(S,cQ c 180) by unfold bE;rw [if_pos xK,if_neg tW]]<;>exact⟨rfl,rfl⟩⟩)
 refine SR (gK 2 [(35,.bool (decide ((k:Int)=(2:Int))))] [] ?_)
 refine NN (af.bh (p:=(k:Int)=(2:Int)) (fun _=>by kernel_rfl) (fun ko=>?_) (fun ko=>?_))
 ·refine SR (gK 2 [(38,vI (c.op))] [(1,a_ 9 b3)] ?_)
  refine NN (af.block ?_)
  refine af.join (ι:=Bool) (fun (fl:Bool)=>(fl=true↔(c.op=4\/c.op=5\/c.op=6\/c.op=7\/c.op=9))) (fun (fl:Bool)=>([(0,vP q)]++Ad b3 b4++[(39,.bool fl)])) (fun (fl:Bool)=>([vR q f km n,lQ km fs kn]++o7 f m t S L++[.abs R,pC b3 c,rF b4])) ?_ ?_
  ·rintro fl hfl
   show af _ _ _ _ ([(0,vP q)]++Ad b3 b4++[(39,.bool fl)]) ([vR q f km n,lQ km fs kn]++o7 f m t S L++[.abs R,pC b3 c,rF b4]) _
   refine af.cond (b:=fl) (fun _=>by kernel_rfl) (fun jb=>?_) (fun jb=>?_)
   ·refine SR (gK 1 [(45,.agg ⟨cC c⟩)] [(0,A_ 9 b3 13)] ?_)
    refine gL [] (y7 c 176) ?_
    rintro _ _ ⟨rfl,rfl⟩
    refine gC 1 [] [(0,A_ 10 b4 13)] [(10,[(0,vI ((cQ c 176).op)),(1,vI ((cQ c 176).handle)),(2,vI ((cQ c 176).other)),(3,.string (cQ c 176).name),(4,.string (cQ c 176).text),(5,.slice (cQ c 176).dA ((cQ c 176).data.length) ((cQ c 176).dC)),(6,vI ((cQ c 176).mode)),(7,vI ((cQ c 176).uid)),(8,vI ((cQ c 176).gid)),(9,vI ((cQ c 176).sec)),(10,vI ((cQ c 176).nano)),(11,vI ((cQ c 176).code)),(12,vI ((cQ c 176).answer))])] ?_
    refine NN (af.ret (aj.aF (aj.aF (aj.aq ?_))))
    exact aj.ret (v:=.agg ⟨cC (cQ c 176)⟩) (l:=([vR q f km n,lQ km fs kn]++o7 f m t S L)) (aZ:=[b4=b4,b4=b4,b4=b4,b4=b4,b4=b4,b4=b4,b4=b4,b4=b4,b4=b4,b4=b4,b4=b4,b4=b4,b4=b4]) [.at 10,.at 10,.at 10,.at 10,.at 10,.at 10,.at 10,.at 10,.at 10,.at 10,.at 10,.at 10,.at 10] [0,1,2,3,4,5,6,7,8] (fun _=>by kernel_rfl) ⟨rfl,rfl,rfl,rfl,rfl,rfl,rfl,rfl,rfl,rfl,rfl,rfl,rfl,trivial⟩ rfl (by kernel_rfl) (⟨L,by rw [show bE k S c=(S,cQ c 176) by unfold bE;rw [if_neg (by omega),if_pos ⟨ko,hfl.1 jb⟩]]<;>exact⟨rfl,rfl⟩⟩)
   refine af.skip (aj.aQ (aj.aQ ?_))
   exact aj.meet () (idx:=[0,3,4]) (pk:=[0,1,2,3,4,5,6,7,8,9,10]) (show (¬ k=1)/\(¬ (k=2/\(c.op=4\/c.op=5\/c.op=6\/c.op=7\/c.op=9)))/\(¬ (k=3/\c.op=9/\2<=c.data.length)) from ⟨xK,fun h=>absurd (jb.symm.trans (hfl.2 h.2)) (by decide),fun h=>by omega⟩) (fun _=>by kernel_rfl) rfl (by kernel_rfl)
  refine SR (gK 2 [(39,.bool (decide ((c.op:Int)=(4:Int))))] [] ?_)
  refine NN (af.bh (p:=(c.op:Int)=(4:Int)) (fun _=>by kernel_rfl) (fun jb=>?_) (fun jb=>?_))
  ·refine af.skip (aj.slot 39 (.bool (decide ((c.op:Int)=(4:Int)))) (.bool true) (fun _=>by kernel_rfl) (congrArg Value.bool (decide_eq_true jb)) ?_)
   exact aj.meet true (idx:=[0,3,4,39]) (pk:=[0,1,2,3,4,5,6,7,8,9,10]) (show (true=true↔(c.op=4\/c.op=5\/c.op=6\/c.op=7\/c.op=9)) from ⟨fun _=>by omega,fun _=>rfl⟩) (fun _=>by kernel_rfl) rfl (by kernel_rfl)
  refine SR (gK 2 [(39,.bool (decide ((c.op:Int)=(5:Int))))] [] ?_)
  refine NN (af.bh (p:=(c.op:Int)=(5:Int)) (fun _=>by kernel_rfl) (fun jb=>?_) (fun jb=>?_))
  ·refine af.skip (aj.slot 39 (.bool (decide ((c.op:Int)=(5:Int)))) (.bool true) (fun _=>by kernel_rfl) (congrArg Value.bool (decide_eq_true jb)) ?_)
   exact aj.meet true (idx:=[0,3,4,39]) (pk:=[0,1,2,3,4,5,6,7,8,9,10]) (show (true=true↔(c.op=4\/c.op=5\/c.op=6\/c.op=7\/c.op=9)) from ⟨fun _=>by omega,fun _=>rfl⟩) (fun _=>by kernel_rfl) rfl (by kernel_rfl)
  refine SR (gK 2 [(39,.bool (decide ((c.op:Int)=(6:Int))))] [] ?_)
  refine NN (af.bh (p:=(c.op:Int)=(6:Int)) (fun _=>by kernel_rfl) (fun jb=>?_) (fun jb=>?_))
  ·refine af.skip (aj.slot 39 (.bool (decide ((c.op:Int)=(6:Int)))) (.bool true) (fun _=>by kernel_rfl) (congrArg Value.bool (decide_eq_true jb)) ?_)
   exact aj.meet true (idx:=[0,3,4,39]) (pk:=[0,1,2,3,4,5,6,7,8,9,10]) (show (true=true↔(c.op=4\/c.op=5\/c.op=6\/c.op=7\/c.op=9)) from ⟨fun _=>by omega,fun _=>rfl⟩) (fun _=>by kernel_rfl) rfl (by kernel_rfl)
  refine SR (gK 2 [(39,.bool (decide ((c.op:Int)=(7:Int))))] [] ?_)
  refine NN (af.bh (p:=(c.op:Int)=(7:Int)) (fun _=>by kernel_rfl) (fun jb=>?_) (fun jb=>?_))
  ·refine af.skip (aj.slot 39 (.bool (decide ((c.op:Int)=(7:Int)))) (.bool true) (fun _=>by kernel_rfl) (congrArg Value.bool (decide_eq_true jb)) ?_)
   exact aj.meet true (idx:=[0,3,4,39]) (pk:=[0,1,2,3,4,5,6,7,8,9,10]) (show (true=true↔(c.op=4\/c.op=5\/c.op=6\/c.op=7\/c.op=9)) from ⟨fun _=>by omega,fun _=>rfl⟩) (fun _=>by kernel_rfl) rfl (by kernel_rfl)
  refine af.region (gK 2 [(39,.bool (decide ((c.op:Int)=(9:Int))))] [] ?_)
  refine NL ?_
  exact aj.meet ((decide (c.op=9))) (idx:=[0,3,4,39]) (pk:=[0,1,2,3,4,5,6,7,8,9,10]) (show (((decide (c.op=9)))=true↔(c.op=4\/c.op=5\/c.op=6\/c.op=7\/c.op=9)) from ⟨fun h=>by have:=of_decide_eq_true h;omega,fun h=>decide_eq_true (by omega)⟩) (fun _=>by kernel_rfl) rfl (by kernel_rfl)
 refine SR (gK 2 [(47,.bool (decide ((k:Int)=(3:Int))))] [] ?_)
 refine NN (af.bh (p:=(k:Int)=(3:Int)) (fun _=>by kernel_rfl) (fun PZ=>?_) (fun PZ=>?_))
 ·refine SR (gK 4 [(52,.bool (decide ((c.op:Int)=(9:Int))))] [(1,a_ 9 b3)] ?_)
  refine ak.iN 52 ((c.op:Int)=(9:Int)) (fun _=>by kernel_rfl) (fun K2=>?_) (fun K2=>?_)
  ·refine gK 5 [(57,.bool (decide ((((c.data.length:Nat):Int):Int) ≥ (2:Int))))] [(1,a_ 9 b3)] ?_
   refine NN (af.bh (p:=(((c.data.length:Nat):Int):Int) ≥ (2:Int)) (fun _=>by kernel_rfl) (fun vM=>?_) (fun vM=>?_))
   ·refine SR (gK 3 [(5,.slice c.dA (c.data.length) (c.dC))] [(1,a_ 9 b3)] ?_)
    refine NS (gK 5 [(64,.slice c.dA ((c.data.length / 2)) (c.dC))] [(3,p_ ⟨[],none,none,none,some (vI ↑(c.data.length / 2))⟩ [(Value.int .i64 (IntKind.wrap .i64 (Int.tdiv ((c.data.length:Nat):Int) 2)))=(.int .i64 ↑(c.data.length / 2))] ⟨aY (Int.ofNat_tdiv _ _).symm (by omega) (by omega),trivial⟩),(4,p_ ⟨[],some (c.data.length / 2),none,none,none⟩ [((c.data.length / 2:Nat):Int)=(((c.data.length / 2):Nat):Int),(c.data.length / 2)<=c.dC] ⟨rfl,by omega,trivial⟩)] ?_)
    refine ak.slot 64 (.slice c.dA ((c.data.length / 2)) (c.dC)) (.slice c.dA ((c.data.take (c.data.length / 2)).length) (c.dC)) (fun _=>by kernel_rfl) (by rw [List.length_take,Nat.min_eq_left (by omega)]) ?_
    refine gC 2 [] [(1,a_ 9 b3)] [(9,[(5,.slice c.dA ((c.data.take (c.data.length / 2)).length) (c.dC))])] ?_
    refine NN (af.seq (af.bU (S:=[vR q f km n,.blk b3 [vI (c.op),vI (c.handle),vI (c.other),.string c.name,.string c.text,.slice c.dA ((c.data.take (c.data.length / 2)).length) (c.dC),vI (c.mode),vI (c.uid),vI (c.gid),vI (c.sec),vI (c.nano),vI (c.code),vI (c.answer)] 88]) [0,1,2,3,4,5,6] 5 [0,9] (by kernel_rfl) (by kernel_rfl) rfl (by kernel_rfl) ?_))
    refine gR 0 [5,6] (Ad b3 b4++[(5,.slice c.dA (c.data.length) (c.dC)),(69,.iface 49 (vP f)),(70,.agg #[vI (c.op),vI (c.handle),vI (c.other),.string c.name,.string c.text,.slice c.dA ((c.data.take (c.data.length / 2)).length) (c.dC),vI (c.mode),vI (c.uid),vI (c.gid),vI (c.sec),vI (c.nano),vI (c.code),vI (c.answer)])]) [0,1,2,3,4] [(3,a_ 0 q),(4,A_ 1 b3 13)] ?_
    refine mL [6,9] [2,3,4,5,6,7] (GW S L f m t hI { c with data:=c.data.take (c.data.length / 2) } (Ig hC)) ?_ (by rintro _ _ ⟨L2,rfl,rfl⟩;rfl)
    rintro _ _ ⟨L2,rfl,rfl⟩
    refine aO.last rfl rfl ?_
    refine gC 1 [] [(0,A_ 9 b3 13)] [(9,(U9 S c++[(5,.slice (bV S { c with data:=c.data.take (c.data.length / 2) }).2.dA ((bV S { c with data:=c.data.take (c.data.length / 2) }).2.data.length) ((bV S { c with data:=c.data.take (c.data.length / 2) }).2.dC))]++U7 S c))] ?_
    refine NL (aj.np (NX (SR ?_)))
    refine gC 3 [] [(2,a_ 9 b3)] [(9,[(5,.slice c.dA (c.data.length) (c.dC))])] ?_
    refine NS (gC 2 [] [(0,A_ 9 b3 13),(1,A_ 10 b4 13)] [(10,(U9 S c++[(5,.slice c.dA (c.data.length) (c.dC))]++U7 S c))] ?_)
    refine NN (af.ret (aj.aF (aj.aq ?_)))
    exact aj.ret (v:=.agg #[vI ((bV S { c with data:=c.data.take (c.data.length / 2) }).2.op),vI ((bV S { c with data:=c.data.take (c.data.length / 2) }).2.handle),vI ((bV S { c with data:=c.data.take (c.data.length / 2) }).2.other),.string (bV S { c with data:=c.data.take (c.data.length / 2) }).2.name,.string (bV S { c with data:=c.data.take (c.data.length / 2) }).2.text,.slice c.dA (c.data.length) (c.dC),vI ((bV S { c with data:=c.data.take (c.data.length / 2) }).2.mode),vI ((bV S { c with data:=c.data.take (c.data.length / 2) }).2.uid),vI ((bV S { c with data:=c.data.take (c.data.length / 2) }).2.gid),vI ((bV S { c with data:=c.data.take (c.data.length / 2) }).2.sec),vI ((bV S { c with data:=c.data.take (c.data.length / 2) }).2.nano),vI ((bV S { c with data:=c.data.take (c.data.length / 2) }).2.code),vI ((bV S { c with data:=c.data.take (c.data.length / 2) }).2.answer)]) (l:=[vR q f km n,lQ km fs kn,pF f m t ((bV S { c with data:=c.data.take (c.data.length / 2) }).1.X),pI m L2 (bV S { c with data:=c.data.take (c.data.length / 2) }).1.idx,pT t (bV S { c with data:=c.data.take (c.data.length / 2) }).1.X.cH ((bV S { c with data:=c.data.take (c.data.length / 2) }).1.av) L2 ((bV S { c with data:=c.data.take (c.data.length / 2) }).1.us),pO ((bV S { c with data:=c.data.take (c.data.length / 2) }).1.O) L2,pD ((bV S { c with data:=c.data.take (c.data.length / 2) }).1.O) L2,pE ((bV S { c with data:=c.data.take (c.data.length / 2) }).1.O) L2]) (aZ:=[b4=b4,b4=b4,b4=b4,b4=b4,b4=b4,b4=b4,b4=b4,b4=b4,b4=b4,b4=b4,b4=b4,b4=b4,b4=b4]) [.at 10,.at 10,.at 10,.at 10,.at 10,.at 10,.at 10,.at 10,.at 10,.at 10,.at 10,.at 10,.at 10] [6,7,0,1,2,3,4,5,8] (fun _=>by kernel_rfl) ⟨rfl,rfl,rfl,rfl,rfl,rfl,rfl,rfl,rfl,rfl,rfl,rfl,rfl,trivial⟩ rfl (by kernel_rfl) (⟨L2,by rw [show bE k S c=((bV S { c with data:=c.data.take (c.data.length / 2) }).1,{ (bV S { c with data:=c.data.take (c.data.length / 2) }).2 with dA:=c.dA,dC:=c.dC,data:=c.data }) by unfold bE;rw [if_neg (by omega),if_neg (by omega),if_pos ⟨PZ,by omega,by omega⟩]]<;>exact⟨rfl,rfl⟩⟩)
   refine af.skip (aj.aQ ?_)
   exact aj.meet () (idx:=[0,3,4]) (pk:=[0,1,2,3,4,5,6,7,8,9,10]) (show (¬ k=1)/\(¬ (k=2/\(c.op=4\/c.op=5\/c.op=6\/c.op=7\/c.op=9)))/\(¬ (k=3/\c.op=9/\2<=c.data.length)) from ⟨xK,fun h=>ko h.1,fun h=>by omega⟩) (fun _=>by kernel_rfl) rfl (by kernel_rfl)
  refine gK 5 [(57,.bool false)] [] ?_
  refine NN (CF (af.skip (aj.aQ ?_)))
  exact aj.meet () (idx:=[0,3,4]) (pk:=[0,1,2,3,4,5,6,7,8,9,10]) (show (¬ k=1)/\(¬ (k=2/\(c.op=4\/c.op=5\/c.op=6\/c.op=7\/c.op=9)))/\(¬ (k=3/\c.op=9/\2<=c.data.length)) from ⟨xK,fun h=>ko h.1,fun h=>by omega⟩) (fun _=>by kernel_rfl) rfl (by kernel_rfl)
 refine af.skip (aj.aQ ?_)
 exact aj.meet () (idx:=[0,3,4]) (pk:=[0,1,2,3,4,5,6,7,8,9,10]) (show (¬ k=1)/\(¬ (k=2/\(c.op=4\/c.op=5\/c.op=6\/c.op=7\/c.op=9)))/\(¬ (k=3/\c.op=9/\2<=c.data.length)) from ⟨xK,fun h=>ko h.1,fun h=>by omega⟩) (fun _=>by kernel_rfl) rfl (by kernel_rfl)
end
section
open Go.RowKit Go.Maps bF aB
attribute [local irreducible] ak aR af aj
theorem zK {β:Bs} (S:aG) (L:HL) (f:Nat) (hI:Inv S) (d:Nat) (hd:Live S.idx ⟨d,2⟩) (path:ByteArray) (hsz:path.size<=1048576) (hg:dV β) :
    Spec Tryz.prog β 230 #[vP f,vP (L.b d),.string path] [.abs (ay (bN S.O L)),.abs (ay (cJ S.O L))] (fun v l=>v=Bl L (jS S.O d path)/\l=[.abs (ay (bN S.O L)),.abs (ay (cJ S.O L))]):=by
 have hkd:(obj S.O d).kind=2:=hI.kind hd
 obtain⟨ps,hps⟩:∃ ps,ps=jK path:=⟨_,rfl⟩
 have hpl:1<=ps.length/\ps.length<=1048577:=by rw [hps,Cy];have:=yS path;omega
 have ME:∀ q,q < ps.length->(pc ps q).size<=1048576:=fun q hq=>Nat.le_trans (Ih (hps ▸ Mb hq)) hsz
 refine Spec.enter Tryz.func230 rfl Tryz.ntmps230 (Nat.le_of_ble_eq_true rfl) (fun R=>?_)
 refine SR (gK 3 [] [] ?_)
 refine NS (gK 1 [(19,.string path)] [] ?_)
 refine gL [] (Ma hg path hsz hps) ?_
 rintro _ _ ⟨b1,rfl,rfl⟩
 refine gK 1 [(9,.slice (some ⟨b1,0,none⟩) (ps.length) (ps.length))] [] ?_
 refine NN (af.seq (SR (gK 3 [(21,.slice (some ⟨b1,0,none⟩) (ps.length) (ps.length)),(22,vI ↑ps.length),(23,vI 0)] [] ?_)))
 refine NN (af.block ?_)
 refine af.loop (ι:=Nat) (fun (j:Nat)=>(j<=ps.length)/\(∀ q,q < j->bK (pc ps q))) (fun (j:Nat)=>ps.length - j) (fun (j:Nat)=>[(1,vP (L.b d)),(9,.slice (some ⟨b1,0,none⟩) (ps.length) (ps.length)),(21,.slice (some ⟨b1,0,none⟩) (ps.length) (ps.length)),(22,vI ↑ps.length),(23,vI ↑j)]) (fun (j:Nat)=>[pO S.O L,pE S.O L,.abs (aJ 9 1 (some ⟨b1,0,none⟩) ps.length ps.length (ig ps)),.abs R]) 0 (idx:=[1,9,21,22,23]) (pk:=[1,2,0,3]) (show (0<=ps.length)/\(∀ q,q < 0->bK (pc ps q)) from ⟨Nat.zero_le _,fun q h=>absurd h (Nat.not_lt_zero q)⟩) (fun _=>by kernel_rfl) rfl (by kernel_rfl) ?_
 rintro j ⟨hj,hgd⟩
 show af _ _ _ _ [(1,vP (L.b d)),(9,.slice (some ⟨b1,0,none⟩) (ps.length) (ps.length)),(21,.slice (some ⟨b1,0,none⟩) (ps.length) (ps.length)),(22,vI ↑ps.length),(23,vI ↑j)] [pO S.O L,pE S.O L,.abs (aJ 9 1 (some ⟨b1,0,none⟩) ps.length ps.length (ig ps)),.abs R] _
 refine SR (gK 1 [(24,.bool (decide ((((j:Nat):Int):Int) < (((ps.length:Nat):Int):Int))))] [] ?_)
 refine NN (af.seq (af.bh (p:=(((j:Nat):Int):Int) < (((ps.length:Nat):Int):Int)) (fun _=>by kernel_rfl) (fun Cx=>?_) (fun Cx=>?_)))
 ·refine af.skip (NX (af.seq (af.block (SR ?_))))
  refine gK 3 [(11,.string (pc ps j))] [(0,p_ ⟨[],some j,none,none,some (.pointer (some ⟨b1,j,none⟩))⟩ [(Value.pointer (some ⟨b1,0+j * 1,none⟩))=(.pointer (some ⟨b1,j,none⟩)),((j:Nat):Int)=((j:Nat):Int),j < ps.length,(⟨b1,0,none⟩:Addr).spot=none] ⟨by simp,rfl,by omega,rfl,trivial⟩),(1,p_ ⟨[.view 2 (.string (pc ps j))],none,none,none,none⟩ [(∀ F w,(aJ 9 1 (some ⟨b1,0,none⟩) ps.length ps.length (ig ps)).h F w->w.cell? ⟨b1,j,none⟩=some (.string (pc ps j)))] ⟨aJ.cell (wW (by omega)),trivial⟩)] ?_
  refine NS (gK 1 [(27,.string (pc ps j))] [] ?_)
  refine gL [] (sV (pc ps j) (by have:=ME j (by omega);omega)) ?_
  rintro _ _ ⟨rfl,rfl⟩
  refine gK 1 [(29,.bool (!(decide (bK (pc ps j)))))] [] ?_
  refine NN (af.dx (p:=bK (pc ps j)) (fun _=>by kernel_rfl) (fun MF=>?_) (fun MF=>?_))
  ·refine SR (gK 3 [(6,.pointer none),(7,.string ⟨#[]⟩),(8,vI 95)] [] ?_)
   refine NN (af.ret (aj.aF (aj.aq (aj.aq (aj.aF (aj.aq ?_))))))
   exact RT (l:=[.abs (ay (bN S.O L)),.abs (ay (cJ S.O L))]) (.tuple #[.pointer none,.string ⟨#[]⟩,vI 95]) [0,1,3] (⟨congrArg (Bl L) (Eq.symm (show jS S.O d path=.error 95 from if_neg (fun h=>MF (Gz.1 (hps ▸ h) j (by omega))))),rfl⟩)
  refine af.skip (aj.aQ (NX (af.region ?_)))
  refine gK 2 [(23,vI ↑(j+1))] [(0,p_ ⟨[],none,none,none,some (vI ↑(j+1))⟩ [(Value.int .i64 (IntKind.wrap .i64 (((j:Nat):Int)+1)))=(.int .i64 ↑(j+1))] ⟨aY (by omega) (by omega) (by omega),trivial⟩)] ?_
  refine NL ?_
  exact aj.turn ((j+1)) (idx:=[1,9,21,22,23]) (pk:=[0,1,2,3]) (show (((j+1))<=ps.length)/\(∀ q,q < ((j+1))->bK (pc ps q)) from ⟨by omega,fun q hq=>(Nat.lt_succ_iff_lt_or_eq.1 hq).elim (hgd q) (fun e=>e ▸ MF)⟩) (by show ps.length - ((j+1)) < ps.length - j;omega) (fun _=>by kernel_rfl) rfl (by kernel_rfl)
 refine af.exit (aj.br (aj.br (aj.dM (NX (SR ?_)))))
 have hall:∀ p∈ps,bK p:=Gz.2 (fun q hq=>hgd q (by omega))
 refine gK 4 [(12,vI ↑(ps.length - 1))] [(2,p_ ⟨[],none,none,none,some (vI ↑(ps.length - 1))⟩ [(Value.int .i64 (IntKind.wrap .i64 (((ps.length:Nat):Int) - 1)))=(.int .i64 ↑(ps.length - 1))] ⟨aY (by omega) (by omega) (by omega),trivial⟩)] ?_
 refine NN (af.seq (SR (gK 5 [(36,.slice (some ⟨b1,0,none⟩) ((ps.length - 1)) (ps.length)),(37,vI ↑(ps.length - 1)),(38,vI 0)] [(2,p_ ⟨[],some (ps.length - 1),none,none,none⟩ [(((ps.length - 1):Nat):Int)=(((ps.length - 1):Nat):Int),(ps.length - 1)<=ps.length] ⟨rfl,by omega,trivial⟩)] ?_)))
 refine NN (af.block ?_)
 refine af.loop (ι:=Nat×Nat) (fun ((j,e):Nat×Nat)=>(j<=ps.length - 1)/\(Live S.idx ⟨e,2⟩)/\(kB S.O d ps=kB S.O e (ps.drop j))) (fun ((j,e):Nat×Nat)=>ps.length - 1 - j) (fun ((j,e):Nat×Nat)=>[(1,vP (L.b e)),(9,.slice (some ⟨b1,0,none⟩) (ps.length) (ps.length)),(12,vI ↑(ps.length - 1)),(36,.slice (some ⟨b1,0,none⟩) ((ps.length - 1)) (ps.length)),(37,vI ↑(ps.length - 1)),(38,vI ↑j)]) (fun ((j,e):Nat×Nat)=>[pO S.O L,pE S.O L,.abs (aJ 9 1 (some ⟨b1,0,none⟩) ps.length ps.length (ig ps)),.abs R]) (0,d) (idx:=[1,9,12,36,37,38]) (pk:=[0,1,2,3]) (show (0<=ps.length - 1)/\(Live S.idx ⟨d,2⟩)/\(kB S.O d ps=kB S.O d (ps.drop 0)) from ⟨Nat.zero_le _,hd,by rw [List.drop_zero]⟩) (fun _=>by kernel_rfl) rfl (by kernel_rfl) ?_
 rintro⟨j,e⟩ ⟨hj,hle,hw⟩
 show af _ _ _ _ [(1,vP (L.b e)),(9,.slice (some ⟨b1,0,none⟩) (ps.length) (ps.length)),(12,vI ↑(ps.length - 1)),(36,.slice (some ⟨b1,0,none⟩) ((ps.length - 1)) (ps.length)),(37,vI ↑(ps.length - 1)),(38,vI ↑j)] [pO S.O L,pE S.O L,.abs (aJ 9 1 (some ⟨b1,0,none⟩) ps.length ps.length (ig ps)),.abs R] _
 have hke:(obj S.O e).kind=2:=hI.kind hle
 refine SR (gK 1 [(39,.bool (decide ((((j:Nat):Int):Int) < ((((ps.length - 1):Nat):Int):Int))))] [] ?_)
 refine NN (af.seq (af.bh (p:=(((j:Nat):Int):Int) < ((((ps.length - 1):Nat):Int):Int)) (fun _=>by kernel_rfl) (fun jb=>?_) (fun jb=>?_)))
 ·have pU:(pc ps j).size<=1048576:=ME j (by omega)
  have hee:(obj S.O e).ah.length<=8192:=hI.ic hle
  refine af.skip (NX (af.seq (af.block (SR ?_))))
  refine gK 3 [(14,.string (pc ps j))] [(0,p_ ⟨[],some j,none,none,some (.pointer (some ⟨b1,j,none⟩))⟩ [(Value.pointer (some ⟨b1,0+j * 1,none⟩))=(.pointer (some ⟨b1,j,none⟩)),((j:Nat):Int)=((j:Nat):Int),j < (ps.length - 1),(⟨b1,0,none⟩:Addr).spot=none] ⟨by simp,rfl,by omega,rfl,trivial⟩),(1,p_ ⟨[.view 2 (.string (pc ps j))],none,none,none,none⟩ [(∀ F w,(aJ 9 1 (some ⟨b1,0,none⟩) ps.length ps.length (ig ps)).h F w->w.cell? ⟨b1,j,none⟩=some (.string (pc ps j)))] ⟨aJ.cell (wW (by omega)),trivial⟩)] ?_
  refine NN (af.seq ?_)
  rcases hI.mQ hle (pc ps j) with hlk|⟨tk,hlk,hlv⟩|⟨tk,hlk,hlv⟩|⟨tk,hlk,hlv⟩
  ·refine af.region (gK 5 [(45,.map (some (L.m e))),(46,.string (pc ps j))] [(3,v_ 0 (bH L hke))] ?_)
   refine je 1 hke hlk ?_
   refine NN (af.block (SR ?_))
   refine gK 1 [(48,.bool true)] [] ?_
   refine NN (CT (SR (gK 1 [] [] ?_)))
   refine NS (gK 3 [(6,.pointer none),(7,.string ⟨#[]⟩),(8,vI 170)] [] ?_)
   refine NN (af.ret (aj.aF (aj.aF (aj.aq (aj.aq (aj.aF (aj.aq ?_)))))))
   exact RT (l:=[.abs (ay (bN S.O L)),.abs (ay (cJ S.O L))]) (.tuple #[.pointer none,.string ⟨#[]⟩,vI 170]) [0,1,3] (⟨congrArg (Bl L) (Eq.symm (show jS S.O d path=.error 170 from (show jS S.O d path=kB S.O d ps by unfold jS;rw [← hps];exact if_pos hall).trans (hw.trans ((uy (by omega)).trans (by rw [hlk]<;>rfl))))),rfl⟩)
  ·have hkt:(obj S.O tk).kind=1:=hI.kind hlv
   refine af.region (gK 5 [(45,.map (some (L.m e))),(46,.string (pc ps j))] [(3,v_ 0 (bH L hke))] ?_)
   refine je 1 hke hlk ?_
   refine NN (af.block (SR ?_))
   refine gK 1 [(48,.bool false)] [] ?_
   refine NN (CF (SR (gK 3 [(50,.bool false),(51,.pointer none)] [] ?_)))
   refine NN (CF (SR (gK 3 [(53,.bool true),(54,vP (L.b tk))] [] ?_)))
   refine NN (CT (SR (gK 1 [] [] ?_)))
   refine NS (gK 3 [(6,.pointer none),(7,.string ⟨#[]⟩),(8,vI 173)] [] ?_)
   refine NN (af.ret (aj.aF (aj.aF (aj.aq (aj.aq (aj.aF (aj.aq ?_)))))))
   exact RT (l:=[.abs (ay (bN S.O L)),.abs (ay (cJ S.O L))]) (.tuple #[.pointer none,.string ⟨#[]⟩,vI 173]) [0,1,3] (⟨congrArg (Bl L) (Eq.symm (show jS S.O d path=.error 173 from (show jS S.O d path=kB S.O d ps by unfold jS;rw [← hps];exact if_pos hall).trans (hw.trans ((uy (by omega)).trans (by rw [hlk]<;>rfl))))),rfl⟩)
  ·have hkt:(obj S.O tk).kind=2:=hI.kind hlv
   refine af.region (gK 5 [(45,.map (some (L.m e))),(46,.string (pc ps j))] [(3,v_ 0 (bH L hke))] ?_)
   refine je 1 hke hlk ?_
   refine NN (af.block (SR ?_))
   refine gK 1 [(48,.bool false)] [] ?_
   refine NN (CF (SR (gK 3 [(50,.bool false),(51,.pointer none)] [] ?_)))
   refine NN (CF (SR (gK 3 [(53,.bool false),(54,.pointer none)] [] ?_)))
   refine NN (CF (SR (gK 3 [(56,.bool true),(57,vP (L.b tk))] [] ?_)))
   refine NN (CT (SR (gK 1 [(18,vP (L.b tk))] [] ?_)))
   refine NN (af.region (gK 2 [(1,vP (L.b tk))] [] ?_))
   refine NL (aj.aQ (aj.aQ (NX (af.region ?_))))
   refine gK 2 [(38,vI ↑(j+1))] [(0,p_ ⟨[],none,none,none,some (vI ↑(j+1))⟩ [(Value.int .i64 (IntKind.wrap .i64 (((j:Nat):Int)+1)))=(.int .i64 ↑(j+1))] ⟨aY (by omega) (by omega) (by omega),trivial⟩)] ?_
   refine NL ?_
   exact aj.turn ((j+1),tk) (idx:=[1,9,12,36,37,38]) (pk:=[0,1,2,3]) (show (((j+1))<=ps.length - 1)/\(Live S.idx ⟨tk,2⟩)/\(kB S.O d ps=kB S.O tk (ps.drop ((j+1)))) from ⟨by omega,hlv,hw.trans ((uy (by omega)).trans (by rw [hlk]<;>rfl))⟩) (by show ps.length - 1 - ((j+1)) < ps.length - 1 - j;omega) (fun _=>by kernel_rfl) rfl (by kernel_rfl)
  have hkt:(obj S.O tk).kind=3:=hI.kind hlv
  refine af.region (gK 5 [(45,.map (some (L.m e))),(46,.string (pc ps j))] [(3,v_ 0 (bH L hke))] ?_)
  refine je 1 hke hlk ?_
  refine NN (af.block (SR ?_))
  refine gK 1 [(48,.bool false)] [] ?_
  refine NN (CF (SR (gK 3 [(50,.bool true),(51,vP (L.b tk))] [] ?_)))
  refine NN (CT (SR (gK 1 [] [] ?_)))
  refine NS (gK 3 [(6,.pointer none),(7,.string ⟨#[]⟩),(8,vI 174)] [] ?_)
  refine NN (af.ret (aj.aF (aj.aF (aj.aq (aj.aq (aj.aF (aj.aq ?_)))))))
  exact RT (l:=[.abs (ay (bN S.O L)),.abs (ay (cJ S.O L))]) (.tuple #[.pointer none,.string ⟨#[]⟩,vI 174]) [0,1,3] (⟨congrArg (Bl L) (Eq.symm (show jS S.O d path=.error 174 from (show jS S.O d path=kB S.O d ps by unfold jS;rw [← hps];exact if_pos hall).trans (hw.trans ((uy (by omega)).trans (by rw [hlk]<;>rfl))))),rfl⟩)
 have ej:j=ps.length - 1:=by omega
 refine af.exit (aj.br (aj.br (aj.dM (NX (af.seq (SR ?_))))))
 refine gK 5 [(64,.bool (obj S.O e).gone)] [(4,v_ 0 (oh L hke))] ?_
 refine NN (af.cond (b:=(obj S.O e).gone) (fun _=>by kernel_rfl) (fun SJ=>?_) (fun SJ=>?_))
 ·refine SR (gK 3 [(6,.pointer none),(7,.string ⟨#[]⟩),(8,vI 170)] [] ?_)
  refine NN (af.ret (aj.aq ?_))
  exact RT (l:=[.abs (ay (bN S.O L)),.abs (ay (cJ S.O L))]) (.tuple #[.pointer none,.string ⟨#[]⟩,vI 170]) [0,1,3] (⟨congrArg (Bl L) (Eq.symm ((show jS S.O d path=kB S.O d ps by unfold jS;rw [← hps];exact if_pos hall).trans (hw.trans ((Ep (by omega)).trans (if_pos SJ))))),rfl⟩)
 refine af.skip (NX (af.seq (af.bI (by kernel_rfl) (by kernel_rfl) ?_)))
 refine gQ 8 [(6,vP (L.b e)),(7,.string (pc ps (ps.length - 1))),(8,vI 0)] [(3,p_ ⟨[],some (ps.length - 1),none,none,some (.pointer (some ⟨b1,(ps.length - 1),none⟩))⟩ [(Value.pointer (some ⟨b1,0+(ps.length - 1) * 1,none⟩))=(.pointer (some ⟨b1,(ps.length - 1),none⟩)),(((ps.length - 1):Nat):Int)=(((ps.length - 1):Nat):Int),(ps.length - 1) < ps.length,(⟨b1,0,none⟩:Addr).spot=none] ⟨by simp,rfl,by omega,rfl,trivial⟩),(4,p_ ⟨[.view 2 (.string (pc ps (ps.length - 1)))],none,none,none,none⟩ [(∀ F w,(aJ 9 1 (some ⟨b1,0,none⟩) ps.length ps.length (ig ps)).h F w->w.cell? ⟨b1,(ps.length - 1),none⟩=some (.string (pc ps (ps.length - 1))))] ⟨aJ.cell (wW (by omega)),trivial⟩)] ?_
 refine NQ (NX (af.ret ?_))
 exact RT (l:=[.abs (ay (bN S.O L)),.abs (ay (cJ S.O L))]) (.tuple #[vP (L.b e),.string (pc ps (ps.length - 1)),vI 0]) [0,1,3] (⟨by rw [← ej];exact congrArg (Bl L) (Eq.symm (show jS S.O d path=.ok (e,pc ps j) from (show jS S.O d path=kB S.O d ps by unfold jS;rw [← hps];exact if_pos hall).trans (hw.trans ((Ep (by omega)).trans (if_neg (by rw [SJ];exact Bool.false_ne_true)))))),rfl⟩)
end
section
open Go.RowKit Go.Maps bF aB
attribute [local irreducible] ak aR af aj
theorem QI {β:Bs} (S:aG) (L:HL) (f m t:Nat) (hI:Inv S) (root:Int) (hrw:(Lit.int .i64 root).wf=true) (a:bP) (ME:a.path.size<=1048576) (PI:a.to.size<=1048576) (hxz:a.text.size<=1048576) (hg:dV β) :
    Spec Tryz.prog β 229 #[vP f,vI (root),.agg #[vI (a.at_),vI (a.op),.string a.path,.string a.to,.string a.text]] [.blk f [vI (S.X.cN),vI (S.X.cB),vI (S.X.cH),vI (S.X.cS),vI (S.X.cZ),.map (some m),vP t,vI (S.X.last),vI (S.X.ah),vI (S.X.used)] 154,.abs (aP Tryz.prog 3 m (bg (bn L S.idx)) S.idx.length),.abs (cE 212 t S.X.cH S.av (bn L S.us)),.abs (ay (bN S.O L)),.abs (ay (bO S.O L)),.abs (ay (cJ S.O L))] (fun v l=>∃ L2,v=vI (cM S root a).1/\l=[.blk f [vI ((cM S root a).2.X.cN),vI ((cM S root a).2.X.cB),vI ((cM S root a).2.X.cH),vI ((cM S root a).2.X.cS),vI ((cM S root a).2.X.cZ),.map (some m),vP t,vI ((cM S root a).2.X.last),vI ((cM S root a).2.X.ah),vI ((cM S root a).2.X.used)] 154,.abs (aP Tryz.prog 3 m (bg (bn L2 (cM S root a).2.idx)) ((cM S root a).2.idx.length)),.abs (cE 212 t (cM S root a).2.X.cH ((cM S root a).2.av) (bn L2 ((cM S root a).2.us))),.abs (ay (bN ((cM S root a).2.O) L2)),.abs (ay (bO ((cM S root a).2.O) L2)),.abs (ay (cJ ((cM S root a).2.O) L2))]):=by
 have hX:=hI.hX
 refine Spec.enter Tryz.func229 rfl Tryz.ntmps229 (Nat.le_of_ble_eq_true rfl) (fun R=>?_)
 refine SR (gN 2 (fun b1=>[(5,vP b1)]) (fun _=>[]) (fun _=>[]) (fun b1=>.blk b1 [vI (a.at_),vI (a.op),.string a.path,.string a.to,.string a.text] 136) (fun b1=>?_))
 refine NN (af.seq (SR (gK 4 [(25,.bool (decide ((a.op:Int) < (1:Int))))] [(1,a_ 7 b1)] ?_)))
 refine ak.iN 25 ((a.op:Int) < (1:Int)) (fun _=>by kernel_rfl) (fun K1=>?_) (fun K1=>?_)
 ·refine gK 4 [(29,.bool true)] [] ?_
  refine NN (CT (SR (gK 1 [(6,vI 230)] [] ?_)))
  refine NN (af.ret (aj.aq ?_))
  exact RT (vI 230) [0,1,2,3,4,5,6] (⟨L,by rw [show (cM S root a)=(230,S) by unfold cM;exact if_pos (by omega)]<;>exact⟨rfl,rfl⟩⟩)
 refine gK 4 [(29,.bool (decide ((a.op:Int) > (7:Int))))] [(1,a_ 7 b1)] ?_
 refine NN (af.bh (p:=(a.op:Int) > (7:Int)) (fun _=>by kernel_rfl) (fun MF=>?_) (fun MF=>?_))
 ·refine SR (gK 1 [(6,vI 230)] [] ?_)
  refine NN (af.ret (aj.aq ?_))
  exact RT (vI 230) [0,1,2,3,4,5,6] (⟨L,by rw [show (cM S root a)=(230,S) by unfold cM;exact if_pos (by omega)]<;>exact⟨rfl,rfl⟩⟩)
 refine af.skip (NX (af.seq ?_))
 rcases hI.RH root with hix|⟨tk,hix,hlv⟩|⟨tk,hix,hlv⟩|⟨tk,hix,hlv⟩
 ·refine af.region (gK 5 [(33,.map (some m)),(34,vI (root))] [(3,a_ 0 f)] ?_)
  refine ak.eP 1 (d:=(some 35)) (t:=151) (K:=3) (E:=156) (b:=m) (n:=S.idx.length) (f:=(bg (bn L S.idx))) (x:=(.tmp 33)) (ix:=(.tmp 34)) (key:=.int .i64 (root)) (z:=.nilIface) (kl:=(.int .i64 root)) (r:=none) (fun _=>by kernel_rfl) (by kernel_rfl) (fun _=>by kernel_rfl) (fun _=>by kernel_rfl) eE Tryz.underlying151 (fun _=>by kernel_rfl) (iR hrw) (by rw [fP,hix];rfl) ?_
  refine gK 1 [(7,.nilIface)] [] ?_
  refine NN (af.seq (SR (gK 2 [(37,.bool true)] [] ?_)))
  refine NN (CT (SR (gK 1 [(6,vI 141)] [] ?_)))
  refine NN (af.ret (aj.aq ?_))
  exact RT (vI 141) [0,1,2,3,4,5,6] (⟨L,by rw [show (cM S root a)=(141,S) by unfold cM;rw [if_neg (by omega),hix]]<;>exact⟨rfl,rfl⟩⟩)
 ·have hkt:(obj S.O tk).kind=1:=hI.kind hlv
  refine af.region (gK 5 [(33,.map (some m)),(34,vI (root))] [(3,a_ 0 f)] ?_)
  refine ak.eP 1 (d:=(some 35)) (t:=151) (K:=3) (E:=156) (b:=m) (n:=S.idx.length) (f:=(bg (bn L S.idx))) (x:=(.tmp 33)) (ix:=(.tmp 34)) (key:=.int .i64 (root)) (z:=.nilIface) (kl:=(.int .i64 root)) (r:=(some (dR L ⟨tk,1⟩))) (fun _=>by kernel_rfl) (by kernel_rfl) (fun _=>by kernel_rfl) (fun _=>by kernel_rfl) eE Tryz.underlying151 (fun _=>by kernel_rfl) (iR hrw) (by rw [fP,hix];rfl) ?_
  refine gK 1 [(7,.iface 162 (vP (L.b tk)))] [] ?_
  refine NN (af.seq (SR (gK 2 [(37,.bool false)] [] ?_)))
  refine NN (CF (af.skip (NX (SR (gK 7 [(8,.pointer none),(9,.bool false)] [] ?_)))))
  refine NN (af.seq (SR (gK 2 [(44,.bool true)] [] ?_)))
  refine NN (CT (SR (gK 1 [(6,vI 173)] [] ?_)))
  refine NN (af.ret (aj.aq ?_))
  exact RT (vI 173) [0,1,2,3,4,5,6] (⟨L,by rw [show (cM S root a)=(173,S) by unfold cM;rw [if_neg (by omega),hix];simp only;exact if_neg (by simp)]<;>exact⟨rfl,rfl⟩⟩)
 ·have hkt:(obj S.O tk).kind=2:=hI.kind hlv
  refine af.region (gK 5 [(33,.map (some m)),(34,vI (root))] [(3,a_ 0 f)] ?_)
  refine ak.eP 1 (d:=(some 35)) (t:=151) (K:=3) (E:=156) (b:=m) (n:=S.idx.length) (f:=(bg (bn L S.idx))) (x:=(.tmp 33)) (ix:=(.tmp 34)) (key:=.int .i64 (root)) (z:=.nilIface) (kl:=(.int .i64 root)) (r:=(some (dR L ⟨tk,2⟩))) (fun _=>by kernel_rfl) (by kernel_rfl) (fun _=>by kernel_rfl) (fun _=>by kernel_rfl) eE Tryz.underlying151 (fun _=>by kernel_rfl) (iR hrw) (by rw [fP,hix];rfl) ?_
  refine gK 1 [(7,.iface 169 (vP (L.b tk)))] [] ?_
  refine NN (af.seq (SR (gK 2 [(37,.bool false)] [] ?_)))
  refine NN (CF (af.skip (NX (SR (gK 7 [(8,vP (L.b tk)),(9,.bool true)] [] ?_)))))
  refine NN (af.seq (SR (gK 2 [(44,.bool false)] [] ?_)))
  refine NN (CF (af.skip (NX (SR (gK 4 [(46,vP f),(47,vP (L.b tk)),(49,.string a.path)] [(3,a_ 7 b1)] ?_)))))
  rcases Eo hI hlv a.path with ⟨e,j5,hne⟩|⟨d,name,j5,hd,jB,hgn⟩
  ·refine gL (f:=230) (args:=#[vP f,vP (L.b tk),.string a.path]) (pre:=[.abs (ay (bN S.O L)),.abs (ay (cJ S.O L))]) [3,5] ((by have h:=zK (β:=β) S L f hI tk hlv a.path ME hg;rw [j5] at h;exact h)) ?_
   rintro _ _ ⟨rfl,rfl⟩
   refine gK 7 [(10,.pointer none),(11,.string ⟨#[]⟩),(12,vI (e))] [] ?_
   refine NN (af.seq (SR (gK 2 [(55,.bool (!(decide ((e:Int)=(0:Int)))))] [] ?_)))
   refine NN (af.dx (p:=(e:Int)=(0:Int)) (fun _=>by kernel_rfl) (fun Ve=>?_) (fun Ve=>?_))
   ·refine SR (gK 2 [(6,vI (e))] [] ?_)
    refine NN (af.ret (aj.aq ?_))
    exact RT (vI (e)) [2,3,4,0,5,1,6] (⟨L,by rw [show (cM S root a)=(e,S) by unfold cM;rw [if_neg (by omega),hix];simp only;rw [if_pos trivial,j5]]<;>exact⟨rfl,rfl⟩⟩)
   exact absurd Ve hne
  have hkd:(obj S.O d).kind=2:=hI.kind hd
  have hsz:name.size<=1048576:=En hgn
  refine gL (f:=230) (args:=#[vP f,vP (L.b tk),.string a.path]) (pre:=[.abs (ay (bN S.O L)),.abs (ay (cJ S.O L))]) [3,5] ((by have h:=zK (β:=β) S L f hI tk hlv a.path ME hg;rw [j5] at h;exact h)) ?_
  rintro _ _ ⟨rfl,rfl⟩
  refine gK 7 [(10,vP (L.b d)),(11,.string name),(12,vI 0)] [] ?_
  refine NN (af.seq (SR (gK 2 [(55,.bool false)] [] ?_)))
  refine NN (CF (af.skip (NX (af.seq (SR (gK 2 [(58,vI (a.op))] [(1,a_ 7 b1)] ?_))))))
  refine NN (af.block (SR ?_))
  refine gK 2 [(59,.bool (decide ((a.op:Int)=(1:Int))))] [] ?_
  refine NN (af.bh (p:=(a.op:Int)=(1:Int)) (fun _=>by kernel_rfl) (fun WW=>?_) (fun WW=>?_))
  ·refine af.seq (SR (gK 3 [(61,vP f),(62,vP (L.b d)),(63,.string name)] [] ?_))
   refine gL [2,3,1,0] (uw S L f m t hI d hd name hsz) ?_
   rintro _ _ ⟨rfl,rfl⟩
   refine gK 1 [(12,vI ((cq S.X S.O S.idx d name)))] [] ?_
   refine NS (gK 2 [(66,.bool (!(decide (((cq S.X S.O S.idx d name):Int)=(0:Int)))))] [] ?_)
   refine NN (af.dx (p:=((cq S.X S.O S.idx d name):Int)=(0:Int)) (fun _=>by kernel_rfl) (fun h0=>?_) (fun h0=>?_))
   ·refine SR (gK 2 [(6,vI ((cq S.X S.O S.idx d name)))] [] ?_)
    refine NN (af.ret (aj.aq (aj.aF (aj.aq ?_))))
    exact RT (vI ((cq S.X S.O S.idx d name))) [0,1,4,3,5,2,6] (⟨L,by rw [show (cM S root a)=(cq S.X S.O S.idx d name,S) by unfold cM;rw [if_neg (by omega),hix];simp only;rw [if_pos trivial,j5];simp only;unfold mJ;rw [if_pos (by omega)];unfold ru;exact if_neg h0]<;>exact⟨rfl,rfl⟩⟩)
   have hno:=oY h0
   refine af.skip (NX (SR (gK 1 [(68,vP f)] [] ?_)))
   refine gL [0] (ur S.X f m t hX 420) ?_
   rintro _ _ ⟨rfl,rfl⟩
   refine gN 2 (fun b2=>[(71,vP b2)]) (fun _=>[]) (fun _=>[]) (fun b2=>.blk b2 [vI (S.X.last+1),vI (420),vI 0,vI 0,vI (S.X.cS),vI (S.X.cZ),vI 0,vI 0,.bool false,.slice none (0) (0)] 165) (fun b2=>?_)
   obtain⟨L2,hL2⟩:∃ L2:HL,L2=L.put (aN S.X) b2 0 none 0:=⟨_,rfl⟩
   have hfr:=hI.toInv0.fresh
   refine ak.mem (cP:=[.abs (ay (bN (aH S.O (aN S.X) (fun _=>(aW S.X 1 420))) L2)),.blk f [vI (S.X.cN),vI (S.X.cB),vI (S.X.cH),vI (S.X.cS),vI (S.X.cZ),.map (some m),vP t,vI (S.X.last+1),vI (S.X.ah),vI (S.X.used)] 154,.abs (aP Tryz.prog 3 m (bg (bn L S.idx)) S.idx.length),.abs (ay (cJ S.O L)),.abs (cE 212 t S.X.cH S.av (bn L S.us)),.abs (ay (bO S.O L)),.abs R,.blk b1 [vI (a.at_),vI (a.op),.string a.path,.string a.to,.string a.text] 136]) (fun w hS=>hS.uh hL2 hfr (o:=(aW S.X 1 420)) (i:=3) (j:=8) (ix:=[0,1,2,4,5,6,7]) rfl rfl (by kernel_rfl) rfl (by show (1:Int)≠0;decide) ((iU (L:=L2) (k:=(aN S.X)) (o:=(aW S.X 1 420)) rfl).trans (by rw [show L2.dA (aN S.X)=none by rw [hL2];exact if_pos rfl,show L2.dC (aN S.X)=0 by rw [hL2];exact if_pos rfl];rfl)) rfl) ?_
   refine ak.dN [(3,pE (aH S.O (aN S.X) (fun _=>(aW S.X 1 420))) L2)] (fun w hS=>hS.vw hL2 hfr (o:=(aW S.X 1 420)) (i:=3) rfl (by show (1:Int)≠2;decide)) ?_
   refine ak.mem (cP:=[pO (aH S.O (aN S.X) (fun _=>(aW S.X 1 420))) L2,pF f m t { S.X with last:=S.X.last+1 },pI m L S.idx,pE (aH S.O (aN S.X) (fun _=>(aW S.X 1 420))) L2,pT t S.X.cH S.av L S.us,pD S.O L,.abs R,.blk b1 [vI (a.at_),vI (a.op),.string a.path,.string a.to,.string a.text] 136,.abs (aJ 5 1 none 0 0 ([]))]) (fun w hS=>hS.kI (e:=5) (size:=1)) ?_
   refine ak.mem (cP:=[pD (aH S.O (aN S.X) (fun _=>(aW S.X 1 420))) L2,pO (aH S.O (aN S.X) (fun _=>(aW S.X 1 420))) L2,pF f m t { S.X with last:=S.X.last+1 },pI m L S.idx,pE (aH S.O (aN S.X) (fun _=>(aW S.X 1 420))) L2,pT t S.X.cH S.av L S.us,.abs R,.blk b1 [vI (a.at_),vI (a.op),.string a.path,.string a.to,.string a.text] 136]) (fun w hS=>hS.JQ hL2 (o:=(aW S.X 1 420)) (i:=5) (j:=8) (ix:=[0,1,2,3,4,6,7]) rfl rfl (by kernel_rfl) rfl rfl rfl) ?_
   refine ak.dN [(3,.abs (aP Tryz.prog 3 m (bg (bn L2 S.idx)) S.idx.length)),(5,.abs (cE 212 t S.X.cH S.av (bn L2 S.us)))] (fun w hS=>by rw [iH hL2 hfr.idx,iH hL2 hfr.us];exact hS) ?_
   refine gK 1 [(13,vP b2)] [] ?_
   refine NS (gK 5 [(72,vP f),(73,vP (L.b d)),(74,.string name),(76,.iface 162 (vP b2))] [] ?_)
   refine gL (f:=193) (args:=#[vP f,vP (L.b d),.string name,.iface 162 (vP b2)]) (pre:=[.blk f [vI (S.X.cN),vI (S.X.cB),vI (S.X.cH),vI (S.X.cS),vI (S.X.cZ),.map (some m),vP t,vI (S.X.last+1),vI (S.X.ah),vI (S.X.used)] 154,.abs (aP Tryz.prog 3 m (bg (bn L2 S.idx)) S.idx.length),.abs (ay (bN (aH S.O (aN S.X) (fun _=>(aW S.X 1 420))) L2)),.abs (ay (cJ (aH S.O (aN S.X) (fun _=>(aW S.X 1 420))) L2))]) [2,3,1,4] ((by have h:=sD (β:=β) S L2 f m t hI.toInv0 d hd name hsz hno (aW S.X 1 420) rfl (by simp [aW]) rfl (qN h0);rw [wM hL2 (hI.vu hd),oW hL2] at h;exact h)) ?_
   rintro _ _ ⟨rfl,rfl⟩
   refine NS (ak.dN [(4,.abs (ay (bO ((fw S d name (aW S.X 1 420)).O) L2)))] (fun w hS=>by rw [show bO ((fw S d name (aW S.X 1 420)).O) L2=bO (aH S.O (aN S.X) (fun _=>(aW S.X 1 420))) L2 from iV];exact hS) ?_)
   have vS:Inv (fw S d name (aW S.X 1 420)):=hI.EX hd jB hgn h0 (.inl rfl) ⟨by decide,by decide⟩ (.inl ⟨by decide,rfl⟩)
   have WX:Live (fw S d name (aW S.X 1 420)).idx ⟨(aN S.X),1⟩:=F9 hI (o:=(aW S.X 1 420))
   refine gK 4 [(78,vP f),(79,vP b2),(81,.string a.text)] [(3,a_ 7 b1)] ?_
   refine ak.GD (d:=(some 82)) (t1:=9) (t2:=86) (e:=5) (x:=(.tmp 81)) (s:=a.text) (fun _=>by kernel_rfl) (fun _=>by kernel_rfl) Tryz.underlying9 Tryz.underlying86 Tryz.underlying5 (fun b3 c4 V6=>?_)
   refine gL (f:=199) (args:=#[vP f,vP b2,.slice (some ⟨b3,0,none⟩) (a.text.data.toList.length) (c4)]) (pre:=[.abs (lC β (fun β'=>cg β' (some ⟨b3,0,none⟩) a.text.data.toList)),.blk f [vI ((fw S d name (aW S.X 1 420)).X.cN),vI ((fw S d name (aW S.X 1 420)).X.cB),vI ((fw S d name (aW S.X 1 420)).X.cH),vI ((fw S d name (aW S.X 1 420)).X.cS),vI ((fw S d name (aW S.X 1 420)).X.cZ),.map (some m),vP t,vI ((fw S d name (aW S.X 1 420)).X.last),vI ((fw S d name (aW S.X 1 420)).X.ah),vI ((fw S d name (aW S.X 1 420)).X.used)] 154,.abs (aP Tryz.prog 3 m (bg (bn L2 (fw S d name (aW S.X 1 420)).idx)) ((fw S d name (aW S.X 1 420)).idx.length)),.abs (cE 212 t S.X.cH S.av (bn L2 S.us)),.abs (ay (bN ((fw S d name (aW S.X 1 420)).O) L2)),.abs (ay (bO ((fw S d name (aW S.X 1 420)).O) L2)),.abs (ay (cJ ((fw S d name (aW S.X 1 420)).O) L2))]) [8,0,1,5,2,4,3] ((by have h:=Cz (β:=β) (fw S d name (aW S.X 1 420)) L2 f m t vS (aN S.X) WX (some ⟨b3,0,none⟩) c4 a.text.data.toList (by rw [Array.length_toList];have:a.text.data.size=a.text.size:=rfl;omega) V6;rw [Ca hL2] at h;exact h)) ?_
   rintro _ _ ⟨L3,rfl,rfl⟩
   refine NS (gK 1 [(6,vI 0)] [] ?_)
   refine NN (af.ret (aj.aF (aj.aq ?_)))
   exact RT (vI 0) [0,1,2,3,4,5,6] (⟨L3,by rw [show (cM S root a)=(0,(dK (fw S d name (aW S.X 1 420)) (aN S.X) a.text.data.toList).2.2) by unfold cM;rw [if_neg (by omega),hix];simp only;rw [if_pos trivial,j5];simp only;unfold mJ;rw [if_pos (by omega)];unfold ru;exact if_pos h0]<;>exact⟨rfl,rfl⟩⟩)
  refine SR (gK 2 [(84,.bool (decide ((a.op:Int)=(2:Int))))] [] ?_)
  refine NN (af.bh (p:=(a.op:Int)=(2:Int)) (fun _=>by kernel_rfl) (fun WY=>?_) (fun WY=>?_))
  ·refine SR (gK 3 [(86,vP f),(87,vP (L.b d)),(88,.string name)] [] ?_)
   refine gL [2,3,4,0,5,1] (Ek S L f m t hI d hd name hsz 493) ?_
   rintro _ _ ⟨L2,rfl,rfl⟩
   refine gK 1 [(6,vI ((gS S d name 493).1))] [] ?_
   refine NN (af.ret (aj.aF (aj.aq ?_)))
   exact RT (vI ((gS S d name 493).1)) [0,1,2,3,4,5,6] (⟨L2,by rw [show (cM S root a)=((gS S d name 493).1,(gS S d name 493).2) by unfold cM;rw [if_neg (by omega),hix];simp only;rw [if_pos trivial,j5];simp only;unfold mJ;rw [if_neg (by omega)];exact if_pos (by omega)]<;>exact⟨rfl,rfl⟩⟩)
  refine SR (gK 2 [(90,.bool (decide ((a.op:Int)=(3:Int))))] [] ?_)
  refine NN (af.bh (p:=(a.op:Int)=(3:Int)) (fun _=>by kernel_rfl) (fun WZ=>?_) (fun WZ=>?_))
  ·refine SR (gK 5 [(92,vP f),(93,vP (L.b d)),(94,.string name),(96,.string a.text)] [(4,a_ 7 b1)] ?_)
   refine gL [2,3,4,0,5,1] (zZ S L f m t hI d hd name hsz a.text hxz) ?_
   rintro _ _ ⟨L2,rfl,rfl⟩
   refine gK 1 [(6,vI ((eV S d name a.text).1))] [] ?_
   refine NN (af.ret (aj.aF (aj.aq ?_)))
   exact RT (vI ((eV S d name a.text).1)) [0,1,2,3,4,5,6] (⟨L2,by rw [show (cM S root a)=((eV S d name a.text).1,(eV S d name a.text).2) by unfold cM;rw [if_neg (by omega),hix];simp only;rw [if_pos trivial,j5];simp only;unfold mJ;rw [if_neg (by omega)];rw [if_neg (by omega)];exact if_pos (by omega)]<;>exact⟨rfl,rfl⟩⟩)
  refine SR (gK 2 [(98,.bool (decide ((a.op:Int)=(4:Int))))] [] ?_)
  refine NN (af.bh (p:=(a.op:Int)=(4:Int)) (fun _=>by kernel_rfl) (fun W4=>?_) (fun W4=>?_))
  ·refine SR (gK 3 [(100,vP f),(101,vP (L.b d)),(102,.string name)] [] ?_)
   refine gL [2,3,4,0,5,1] (Cu S L f m t hI d hd name hsz) ?_
   rintro _ _ ⟨L2,rfl,rfl⟩
   refine gK 1 [(6,vI ((eF S d name).1))] [] ?_
   refine NN (af.ret (aj.aF (aj.aq ?_)))
   exact RT (vI ((eF S d name).1)) [0,1,2,3,4,5,6] (⟨L2,by rw [show (cM S root a)=((eF S d name).1,(eF S d name).2) by unfold cM;rw [if_neg (by omega),hix];simp only;rw [if_pos trivial,j5];simp only;unfold mJ;rw [if_neg (by omega)];rw [if_neg (by omega)];rw [if_neg (by omega)];exact if_pos (by omega)]<;>exact⟨rfl,rfl⟩⟩)
  refine SR (gK 2 [(104,.bool (decide ((a.op:Int)=(5:Int))))] [] ?_)
  refine NN (af.bh (p:=(a.op:Int)=(5:Int)) (fun _=>by kernel_rfl) (fun V7=>?_) (fun V7=>?_))
  ·refine SR (gK 3 [(106,vP f),(107,vP (L.b d)),(108,.string name)] [] ?_)
   refine gL [2,3,4,0,5,1] (El S L f m t hI d hd name hsz) ?_
   rintro _ _ ⟨L2,rfl,rfl⟩
   refine gK 1 [(6,vI ((eZ S d name).1))] [] ?_
   refine NN (af.ret (aj.aF (aj.aq ?_)))
   exact RT (vI ((eZ S d name).1)) [0,1,2,3,4,5,6] (⟨L2,by rw [show (cM S root a)=((eZ S d name).1,(eZ S d name).2) by unfold cM;rw [if_neg (by omega),hix];simp only;rw [if_pos trivial,j5];simp only;unfold mJ;rw [if_neg (by omega)];rw [if_neg (by omega)];rw [if_neg (by omega)];rw [if_neg (by omega)];exact if_pos (by omega)]<;>exact⟨rfl,rfl⟩⟩)
  refine SR (gK 2 [(110,.bool (decide ((a.op:Int)=(6:Int))))] [] ?_)
  refine NN (af.bh (p:=(a.op:Int)=(6:Int)) (fun _=>by kernel_rfl) (fun V8=>?_) (fun V8=>?_))
  ·refine SR (gK 4 [(113,vP f),(114,vP (L.b tk)),(116,.string a.to)] [(3,a_ 7 b1)] ?_)
   rcases Eo hI hlv a.to with ⟨e2,CN,GS⟩|⟨to,toName,CN,hd2,Sv,Ox⟩
   ·refine gL (f:=230) (args:=#[vP f,vP (L.b tk),.string a.to]) (pre:=[.abs (ay (bN S.O L)),.abs (ay (cJ S.O L))]) [0,1] ((by have h:=zK (β:=β) S L f hI tk hlv a.to PI hg;rw [CN] at h;exact h)) ?_
    rintro _ _ ⟨rfl,rfl⟩
    refine gK 7 [(14,.pointer none),(15,.string ⟨#[]⟩),(16,vI (e2))] [] ?_
    refine NN (af.seq (SR (gK 2 [(122,.bool (!(decide ((e2:Int)=(0:Int)))))] [] ?_)))
    refine NN (af.dx (p:=(e2:Int)=(0:Int)) (fun _=>by kernel_rfl) (fun SK=>?_) (fun SK=>?_))
    ·refine SR (gK 2 [(6,vI (e2))] [] ?_)
     refine NN (af.ret (aj.aq (aj.aF (aj.aq ?_))))
     exact RT (vI (e2)) [2,3,4,0,5,1,6] (⟨L,by rw [show (cM S root a)=(e2,S) by unfold cM;rw [if_neg (by omega),hix];simp only;rw [if_pos trivial,j5];simp only;unfold mJ;rw [if_neg (by omega)];rw [if_neg (by omega)];rw [if_neg (by omega)];rw [if_neg (by omega)];rw [if_neg (by omega)];rw [if_pos (by omega)];rw [CN]]<;>exact⟨rfl,rfl⟩⟩)
    exact absurd SK GS
   have eX:(obj S.O to).kind=2:=hI.kind hd2
   have pU:toName.size<=1048576:=En Ox
   refine gL (f:=230) (args:=#[vP f,vP (L.b tk),.string a.to]) (pre:=[.abs (ay (bN S.O L)),.abs (ay (cJ S.O L))]) [0,1] ((by have h:=zK (β:=β) S L f hI tk hlv a.to PI hg;rw [CN] at h;exact h)) ?_
   rintro _ _ ⟨rfl,rfl⟩
   refine gK 7 [(14,vP (L.b to)),(15,.string toName),(16,vI 0)] [] ?_
   refine NN (af.seq (SR (gK 2 [(122,.bool false)] [] ?_)))
   refine NN (CF (af.skip (NX (SR (gK 5 [(124,vP f),(125,vP (L.b d)),(126,.string name),(127,vP (L.b to)),(128,.string toName)] [] ?_)))))
   refine gL [2,3,4,0,5,1] (Cv S L f m t hI d hd name hsz to hd2 toName pU) ?_
   rintro _ _ ⟨L2,rfl,rfl⟩
   refine gK 1 [(6,vI ((bJ S d name to toName).1))] [] ?_
   refine NN (af.ret (aj.aF (aj.aq ?_)))
   exact RT (vI ((bJ S d name to toName).1)) [0,1,2,3,4,5,6] (⟨L2,by rw [show (cM S root a)=((bJ S d name to toName).1,(bJ S d name to toName).2) by unfold cM;rw [if_neg (by omega),hix];simp only;rw [if_pos trivial,j5];simp only;unfold mJ;rw [if_neg (by omega)];rw [if_neg (by omega)];rw [if_neg (by omega)];rw [if_neg (by omega)];rw [if_neg (by omega)];rw [if_pos (by omega)];rw [CN]]<;>exact⟨rfl,rfl⟩⟩)
  refine af.skip (aj.aQ (NX (af.seq (af.seq ?_))))
  have hel:(obj S.O d).ah.length<=8192:=hI.ic hd
  have Mp:=hsz
  rcases hI.mQ hd name with bB|⟨ok,bB,fe⟩|⟨ok,bB,fe⟩|⟨ok,bB,fe⟩
  ·refine af.region (gK 5 [(133,.map (some (L.m d))),(134,.string name)] [(3,v_ 0 (bH L hkd))] ?_)
   refine je 1 hkd bB ?_
   refine NN (af.block (SR ?_))
   refine gK 3 [(137,.bool false),(138,.pointer none)] [] ?_
   refine NN (CF (SR (gK 3 [(140,.bool false),(141,.pointer none)] [] ?_)))
   refine NN (CF (SR (gK 3 [(143,.bool false),(144,.pointer none)] [] ?_)))
   refine NN (CF (af.skip (aj.aQ (NX (SR ?_)))))
   refine gK 1 [(6,vI 170)] [] ?_
   refine NN (af.ret ?_)
   exact RT (vI 170) [2,3,4,0,5,1,6] (⟨L,by rw [show (cM S root a)=(170,S) by unfold cM;rw [if_neg (by omega),hix];simp only;rw [if_pos trivial,j5];simp only;unfold mJ;rw [if_neg (by omega)];rw [if_neg (by omega)];rw [if_neg (by omega)];rw [if_neg (by omega)];rw [if_neg (by omega)];rw [if_neg (by omega)];unfold kU;rw [bB]]<;>exact⟨rfl,rfl⟩⟩)
  ·have lG:(obj S.O ok).kind=1:=hI.kind fe
   refine af.region (gK 5 [(133,.map (some (L.m d))),(134,.string name)] [(3,v_ 0 (bH L hkd))] ?_)
   refine je 1 hkd bB ?_
   refine NN (af.block (SR ?_))
   refine gK 3 [(137,.bool false),(138,.pointer none)] [] ?_
   refine NN (CF (SR (gK 3 [(140,.bool false),(141,.pointer none)] [] ?_)))
   refine NN (CF (SR (gK 3 [(143,.bool true),(144,vP (L.b ok))] [] ?_)))
   refine NN (CT (SR (gK 1 [(19,vP (L.b ok))] [] ?_)))
   refine NS (gK 4 [(146,vP f),(147,vP (L.b ok)),(149,.string a.text)] [(3,a_ 7 b1)] ?_)
   refine ak.GD (d:=(some 150)) (t1:=9) (t2:=86) (e:=5) (x:=(.tmp 149)) (s:=a.text) (fun _=>by kernel_rfl) (fun _=>by kernel_rfl) Tryz.underlying9 Tryz.underlying86 Tryz.underlying5 (fun b6 c7 V9=>?_)
   refine gL [8,2,3,4,0,5,1] (Cz (β:=β) S L f m t hI ok fe (some ⟨b6,0,none⟩) c7 a.text.data.toList (by rw [Array.length_toList];have:a.text.data.size=a.text.size:=rfl;omega) V9) ?_
   rintro _ _ ⟨L3,rfl,rfl⟩
   refine gK 5 [(21,vI ((dK S ok a.text.data.toList).2.1))] [] ?_
   refine NS (gK 2 [(6,vI ((dK S ok a.text.data.toList).2.1))] [] ?_)
   refine NN (af.ret (aj.aF (aj.aq ?_)))
   exact RT (vI ((dK S ok a.text.data.toList).2.1)) [0,1,2,3,4,5,6] (⟨L3,by rw [show (cM S root a)=((dK S ok a.text.data.toList).2.1,(dK S ok a.text.data.toList).2.2) by unfold cM;rw [if_neg (by omega),hix];simp only;rw [if_pos trivial,j5];simp only;unfold mJ;rw [if_neg (by omega)];rw [if_neg (by omega)];rw [if_neg (by omega)];rw [if_neg (by omega)];rw [if_neg (by omega)];rw [if_neg (by omega)];unfold kU;rw [bB];exact (if_neg (by simp)).trans (if_neg (by simp))]<;>exact⟨rfl,rfl⟩⟩)
  ·have lG:(obj S.O ok).kind=2:=hI.kind fe
   refine af.region (gK 5 [(133,.map (some (L.m d))),(134,.string name)] [(3,v_ 0 (bH L hkd))] ?_)
   refine je 1 hkd bB ?_
   refine NN (af.block (SR ?_))
   refine gK 3 [(137,.bool false),(138,.pointer none)] [] ?_
   refine NN (CF (SR (gK 3 [(140,.bool true),(141,vP (L.b ok))] [] ?_)))
   refine NN (CT (SR (gK 1 [] [] ?_)))
   refine NS (gK 1 [(6,vI 172)] [] ?_)
   refine NN (af.ret (aj.aF (aj.aq ?_)))
   exact RT (vI 172) [2,3,4,0,5,1,6] (⟨L,by rw [show (cM S root a)=(172,S) by unfold cM;rw [if_neg (by omega),hix];simp only;rw [if_pos trivial,j5];simp only;unfold mJ;rw [if_neg (by omega)];rw [if_neg (by omega)];rw [if_neg (by omega)];rw [if_neg (by omega)];rw [if_neg (by omega)];rw [if_neg (by omega)];unfold kU;rw [bB];exact (if_neg (by simp)).trans (if_pos rfl)]<;>exact⟨rfl,rfl⟩⟩)
  have lG:(obj S.O ok).kind=3:=hI.kind fe
  refine af.region (gK 5 [(133,.map (some (L.m d))),(134,.string name)] [(3,v_ 0 (bH L hkd))] ?_)
  refine je 1 hkd bB ?_
  refine NN (af.block (SR ?_))
  refine gK 3 [(137,.bool true),(138,vP (L.b ok))] [] ?_
  refine NN (CT (SR (gK 1 [] [] ?_)))
  refine NS (gK 1 [(6,vI 174)] [] ?_)
  refine NN (af.ret (aj.aF (aj.aq ?_)))
  exact RT (vI 174) [2,3,4,0,5,1,6] (⟨L,by rw [show (cM S root a)=(174,S) by unfold cM;rw [if_neg (by omega),hix];simp only;rw [if_pos trivial,j5];simp only;unfold mJ;rw [if_neg (by omega)];rw [if_neg (by omega)];rw [if_neg (by omega)];rw [if_neg (by omega)];rw [if_neg (by omega)];rw [if_neg (by omega)];unfold kU;rw [bB];exact if_pos rfl]<;>exact⟨rfl,rfl⟩⟩)
 have hkt:(obj S.O tk).kind=3:=hI.kind hlv
 refine af.region (gK 5 [(33,.map (some m)),(34,vI (root))] [(3,a_ 0 f)] ?_)
 refine ak.eP 1 (d:=(some 35)) (t:=151) (K:=3) (E:=156) (b:=m) (n:=S.idx.length) (f:=(bg (bn L S.idx))) (x:=(.tmp 33)) (ix:=(.tmp 34)) (key:=.int .i64 (root)) (z:=.nilIface) (kl:=(.int .i64 root)) (r:=(some (dR L ⟨tk,3⟩))) (fun _=>by kernel_rfl) (by kernel_rfl) (fun _=>by kernel_rfl) (fun _=>by kernel_rfl) eE Tryz.underlying151 (fun _=>by kernel_rfl) (iR hrw) (by rw [fP,hix];rfl) ?_
 refine gK 1 [(7,.iface 166 (vP (L.b tk)))] [] ?_
 refine NN (af.seq (SR (gK 2 [(37,.bool false)] [] ?_)))
 refine NN (CF (af.skip (NX (SR (gK 7 [(8,.pointer none),(9,.bool false)] [] ?_)))))
 refine NN (af.seq (SR (gK 2 [(44,.bool true)] [] ?_)))
 refine NN (CT (SR (gK 1 [(6,vI 173)] [] ?_)))
 refine NN (af.ret (aj.aq ?_))
 exact RT (vI 173) [0,1,2,3,4,5,6] (⟨L,by rw [show (cM S root a)=(173,S) by unfold cM;rw [if_neg (by omega),hix];simp only;exact if_neg (by simp)]<;>exact⟨rfl,rfl⟩⟩)
end
section
open Go.RowKit Go.Maps bF aB
attribute [local irreducible] ak aR af aj
noncomputable abbrev MG (o)(q)(f:Nat) (root) (am) (n):=(.blk o [.iface 141 (vP q),vP f,vI (root),.map (some am),vI ↑(n+1)] 145:HP)
noncomputable abbrev SL (o)(b1:Nat) (b2:Nat) (nB) (ys:List bP) (Jq) (i:Nat):=([(0,vP o),(3,vP b1),(4,vP b2),(22,.slice nB (ys.length) (Jq)),(23,vI ↑ys.length),(24,vI ↑i)]:Fr)
theorem SM {β:Bs} (S:aG) (L:HL) (o q f m t am an km kn n:Nat) (Z:AZ) (fs:List bq) (xs:List bP) (root:Int) (hrw:(Lit.int .i64 root).wf=true) (hI:Inv S) (hn:n<=8388608) (k:Int) (hk:iW fs ((n+1:Nat):Int)=k) (hZ:fL β Z xs) (hX:eG xs 1048576) (hg:dV β) (c:ax) (hC:gT β c) :
    Spec Tryz.prog β 228 #[vP o,.agg ⟨cC c⟩] ([.blk o [.iface 141 (vP q),vP f,vI (root),.map (some am),vI (((n:Nat):Int))] 145,.blk q [.iface 49 (vP f),.map (some km),vI (((n:Nat):Int))] 143,.abs (aP Tryz.prog 3 am (gu Z xs) an),lQ km fs kn]++o7 f m t S L) (fun v l=>∃ L2,v=.agg ⟨cC (bE k (fB root S (bG xs ((n+1:Nat):Int))) c).2⟩/\l=[.blk o [.iface 141 (vP q),vP f,vI (root),.map (some am),vI ((((n+1):Nat):Int))] 145,.blk q [.iface 49 (vP f),.map (some km),vI ((((n+1):Nat):Int))] 143,.abs (aP Tryz.prog 3 am (gu Z xs) an),lQ km fs kn,pF f m t ((bE k (fB root S (bG xs ((n+1:Nat):Int))) c).1.X),.abs (aP Tryz.prog 3 m (bg (bn L2 (bE k (fB root S (bG xs ((n+1:Nat):Int))) c).1.idx)) ((bE k (fB root S (bG xs ((n+1:Nat):Int))) c).1.idx.length)),pT t (bE k (fB root S (bG xs ((n+1:Nat):Int))) c).1.X.cH ((bE k (fB root S (bG xs ((n+1:Nat):Int))) c).1.av) L2 ((bE k (fB root S (bG xs ((n+1:Nat):Int))) c).1.us),pO ((bE k (fB root S (bG xs ((n+1:Nat):Int))) c).1.O) L2,pD ((bE k (fB root S (bG xs ((n+1:Nat):Int))) c).1.O) L2,pE ((bE k (fB root S (bG xs ((n+1:Nat):Int))) c).1.O) L2]):=by
 obtain⟨ys,hys⟩:∃ ys,bG xs ((n+1:Nat):Int)=ys:=⟨_,rfl⟩
 obtain⟨nB,has⟩:∃ a,aA Z xs ((n+1:Nat):Int)=a:=⟨_,rfl⟩
 obtain⟨Jq,hac⟩:∃ a,aC Z xs ((n+1:Nat):Int)=a:=⟨_,rfl⟩
 have hrow:=hZ ((n+1:Nat):Int)
 rw [hys,has] at hrow
 have hyb:∀ {i},i < ys.length->yG (act ys i) 1048576:=fun {i} h=>hX.q _ (J2 (x:=((n+1:Nat):Int)) (by rw [hys];exact List.mem_of_getElem? (sK h)))
 have nQ:ys.length<=1048576:=by rw [← hys];exact Nat.le_trans (Ci _) hX.len
 rw [show bG xs ((n+1:Nat):Int)=ys from hys]
 obtain⟨SA,Vf⟩:∃ SA,fB root S ys=SA:=⟨_,rfl⟩
 rw [Vf]
 refine Spec.enter Tryz.func228 rfl Tryz.ntmps228 (Nat.le_of_ble_eq_true rfl) (fun R=>?_)
 refine SR (gN 1 (fun b1=>[(3,vP b1)]) (fun _=>[]) (fun _=>[]) (fun b1=>pC b1 c) (fun b1=>?_))
 refine gN 1 (fun b2=>[(4,vP b2)]) (fun _=>[]) (fun _=>[]) (fun b2=>.blk b2 [vI 0,vI 0,vI 0,.string ⟨#[]⟩,.string ⟨#[]⟩,.slice none (0) (0),vI 0,vI 0,vI 0,vI 0,vI 0,vI 0,vI 0] 88) (fun b2=>?_)
 refine NS (gC 8 [] [(3,a_ 0 o),(4,p_ ⟨[],none,none,none,some (vI ↑(n+1))⟩ [(Value.int .i64 (IntKind.wrap .i64 (((n:Nat):Int)+1)))=(.int .i64 ↑(n+1))] ⟨aY (by omega) (by omega) (by omega),trivial⟩),(7,a_ 0 o)] [(0,[(4,vI ↑(n+1))])] ?_)
 refine NN (af.seq (af.seq (af.bI (by kernel_rfl) (by kernel_rfl) ?_)))
 refine gQ 8 [(17,.map (some am)),(21,vI ↑(n+1))] [(3,a_ 0 o),(7,a_ 0 o)] ?_
 refine aR.eP 2 (d:=(some 22)) (t:=134) (K:=3) (E:=30) (b:=am) (n:=an) (f:=(gu Z xs)) (x:=(.tmp 17)) (ix:=(.tmp 21)) (key:=.int .i64 ↑(n+1)) (z:=.slice none (0) (0)) (kl:=(.int .i64 ((n+1:Nat):Int))) (r:=(gu Z xs (.int .i64 ((n+1:Nat):Int)))) (fun _=>by kernel_rfl) (by kernel_rfl) (fun _=>by kernel_rfl) (fun _=>by kernel_rfl) eE Tryz.underlying134 (fun _=>by kernel_rfl) (iR (LV (by omega))) (rfl) ?_
 refine aR.slot 22 (((gu Z xs (.int .i64 ((n+1:Nat):Int))).getD (.slice none 0 0))) (.slice nB (ys.length) (Jq)) (fun _=>by kernel_rfl) (Bj.trans (by rw [hys,has,hac])) ?_
 refine gQ 2 [(23,vI ↑ys.length),(24,vI 0)] [] ?_
 refine NQ (NX (af.block ?_))
 refine af.loop (ι:=Nat×aG×HL) (fun ((i,S1,L1):Nat×aG×HL)=>(i<=ys.length)/\(S1=fB root S (ys.take i))/\(Inv S1)) (fun ((i,S1,L1):Nat×aG×HL)=>ys.length - i) (fun ((i,S1,L1):Nat×aG×HL)=>(SL o b1 b2 nB ys Jq i)) (fun ((i,S1,L1):Nat×aG×HL)=>([MG o q f root am n,.blk q [.iface 49 (vP f),.map (some km),vI ↑n] 143,.abs (aP Tryz.prog 3 am (gu Z xs) an),lQ km fs kn,pC b1 c,rF b2]++o7 f m t S1 L1++[.abs R])) (0,S,L) (idx:=[0,3,4,22,23,24]) (pk:=[0,1,2,3,11,12,4,5,6,7,8,9,10]) (show (0<=ys.length)/\(S=fB root S (ys.take 0))/\(Inv S) from ⟨Nat.zero_le _,rfl,hI⟩) (fun _=>by kernel_rfl) rfl (by kernel_rfl) ?_
 rintro⟨i,S1,L1⟩ ⟨hi,hs1,bZ⟩
 show af _ _ _ _ (SL o b1 b2 nB ys Jq i) ([MG o q f root am n,.blk q [.iface 49 (vP f),.map (some km),vI ↑n] 143,.abs (aP Tryz.prog 3 am (gu Z xs) an),lQ km fs kn,pC b1 c,rF b2]++o7 f m t S1 L1++[.abs R]) _
 refine SR (gK 1 [(25,.bool (decide ((((i:Nat):Int):Int) < (((ys.length:Nat):Int):Int))))] [] ?_)
 refine NN (af.seq (af.bh (p:=(((i:Nat):Int):Int) < (((ys.length:Nat):Int):Int)) (fun _=>by kernel_rfl) (fun K1=>?_) (fun K1=>?_)))
 ·refine af.skip (NX (af.seq (af.block (SR ?_))))
  refine gN 4 (fun b3=>[(6,vP b3)]) (fun b3=>[(0,p_ ⟨[],some i,none,some ⟨(aE nB),aD nB,none⟩,none⟩ [((i:Nat):Int)=((i:Nat):Int),i < ys.length,(⟨(aE nB),aD nB,none⟩:Addr).spot=none,(nB:Option Addr)=some ⟨(aE nB),aD nB,none⟩] ⟨rfl,by omega,rfl,Pq hrow (i:=i) (by omega),trivial⟩),(1,p_ ⟨[.old (.int .i64 ((act ys i).at_)),.old (.int .i64 ((act ys i).op)),.old (.string (act ys i).path),.old (.string (act ys i).to),.old (.string (act ys i).text)],none,none,none,none⟩ [(Rd β ⟨(aE nB),aD nB+i * 5+4,none⟩ (.string (act ys i).text)),(Rd β ⟨(aE nB),aD nB+i * 5+3,none⟩ (.string (act ys i).to)),(Rd β ⟨(aE nB),aD nB+i * 5+2,none⟩ (.string (act ys i).path)),(Rd β ⟨(aE nB),aD nB+i * 5+1,none⟩ (.int .i64 ((act ys i).op))),(Rd β ⟨(aE nB),aD nB+i * 5,none⟩ (.int .i64 ((act ys i).at_)))] ⟨qO hrow (i:=i) (by omega) (j:=4) rfl,qO hrow (i:=i) (by omega) (j:=3) rfl,qO hrow (i:=i) (by omega) (j:=2) rfl,qO hrow (i:=i) (by omega) (j:=1) rfl,qO hrow (i:=i) (by omega) (j:=0) rfl,trivial⟩),(3,A_ 13 b3 5)]) (fun _=>[]) (fun b3=>.blk b3 [vI ((act ys i).at_),vI ((act ys i).op),.string (act ys i).path,.string (act ys i).to,.string (act ys i).text] 136) (fun b3=>?_)
  refine NN (af.bU (S:=[MG o q f root am n,.blk b3 [vI ((act ys i).at_),vI ((act ys i).op),.string (act ys i).path,.string (act ys i).to,.string (act ys i).text] 136]) [0,1,2,3,4,5,6,7,8,9] 9 [0,13] (by kernel_rfl) (by kernel_rfl) rfl (by kernel_rfl) ?_)
  refine gR 0 [9] (SL o b1 b2 nB ys Jq i++[(31,vP f),(35,vI (root)),(36,.agg #[vI ((act ys i).at_),vI ((act ys i).op),.string (act ys i).path,.string (act ys i).to,.string (act ys i).text])]) [0,1,2,3,4,5,6,7,8] [(3,a_ 0 o),(7,a_ 0 o),(8,A_ 1 b3 5)] ?_
  refine aO.last rfl rfl ?_
  refine gL [6,7,8,9,10,11] (QI S1 L1 f m t bZ root hrw (act ys i) (hyb (by omega)).path (hyb (by omega)).to (hyb (by omega)).text hg) ?_
  rintro _ _ ⟨L2,rfl,rfl⟩
  refine NL (aj.np (aj.aQ (NX (af.region ?_))))
  refine gK 2 [(24,vI ↑(i+1))] [(0,p_ ⟨[],none,none,none,some (vI ↑(i+1))⟩ [(Value.int .i64 (IntKind.wrap .i64 (((i:Nat):Int)+1)))=(.int .i64 ↑(i+1))] ⟨aY (by omega) (by omega) (by omega),trivial⟩)] ?_
  refine NL ?_
  exact aj.turn ((i+1),(cM S1 root (act ys i)).2,L2) (idx:=[0,3,4,22,23,24]) (pk:=[6,7,8,9,10,11,0,1,2,3,4,5,12]) (show (((i+1))<=ys.length)/\(((cM S1 root (act ys i)).2)=fB root S (ys.take ((i+1))))/\(Inv ((cM S1 root (act ys i)).2)) from ⟨by omega,by rw [hs1];exact (J4 (by omega)).symm,bZ.cM⟩) (by show ys.length - ((i+1)) < ys.length - i;omega) (fun _=>by kernel_rfl) rfl (by kernel_rfl)
 refine af.exit (aj.br (aj.br (aj.dM (NX (af.seq ?_)))))
 refine af.bU (S:=[MG o q f root am n,pC b1 c]) [0,1,2,3,4,5,6] 5 [0,4] (by kernel_rfl) (by kernel_rfl) rfl (by kernel_rfl) ?_
 refine gR 0 [5,6] [(4,vP b2),(42,.iface 141 (vP q)),(43,.agg ⟨cC c⟩)] [0,1,2,3,4] [(3,a_ 0 o),(4,A_ 1 b1 13)] ?_
 refine mL [8,10] [1,3,6,7,8,9,10,11] (SI S1 L1 q f m t km kn n fs bZ hn k hk c hC) ?_ (by rintro _ _ ⟨L2,rfl,rfl⟩;rfl)
 rintro _ _ ⟨L2,rfl,rfl⟩
 refine aO.last rfl rfl ?_
 refine gC 1 [] [(0,A_ 11 b2 13)] [(11,[(0,vI ((bE k S1 c).2.op)),(1,vI ((bE k S1 c).2.handle)),(2,vI ((bE k S1 c).2.other)),(3,.string (bE k S1 c).2.name),(4,.string (bE k S1 c).2.text),(5,.slice (bE k S1 c).2.dA ((bE k S1 c).2.data.length) ((bE k S1 c).2.dC)),(6,vI ((bE k S1 c).2.mode)),(7,vI ((bE k S1 c).2.uid)),(8,vI ((bE k S1 c).2.gid)),(9,vI ((bE k S1 c).2.sec)),(10,vI ((bE k S1 c).2.nano)),(11,vI ((bE k S1 c).2.code)),(12,vI ((bE k S1 c).2.answer))])] ?_
 refine NL (aj.np (NX (af.ret ?_)))
 have hs2:S1=SA:=by rw [hs1,show i=ys.length by omega,List.take_length];exact Vf
 subst hs2
 exact aj.ret (v:=.agg ⟨cC ((bE k S1 c).2)⟩) (l:=[MG o q f root am n,vR q f km n,.abs (aP Tryz.prog 3 am (gu Z xs) an),lQ km fs kn,pF f m t ((bE k S1 c).1.X),pI m L2 (bE k S1 c).1.idx,pT t (bE k S1 c).1.X.cH ((bE k S1 c).1.av) L2 ((bE k S1 c).1.us),pO ((bE k S1 c).1.O) L2,pD ((bE k S1 c).1.O) L2,pE ((bE k S1 c).1.O) L2]) (aZ:=[b2=b2,b2=b2,b2=b2,b2=b2,b2=b2,b2=b2,b2=b2,b2=b2,b2=b2,b2=b2,b2=b2,b2=b2,b2=b2]) [.at 11,.at 11,.at 11,.at 11,.at 11,.at 11,.at 11,.at 11,.at 11,.at 11,.at 11,.at 11,.at 11] [8,0,9,1,2,3,4,5,6,7,12] (fun _=>by kernel_rfl) ⟨rfl,rfl,rfl,rfl,rfl,rfl,rfl,rfl,rfl,rfl,rfl,rfl,rfl,trivial⟩ rfl (by kernel_rfl) (⟨L2,rfl,rfl⟩)
end
section
open Go.RowKit Go.Maps bF aB
theorem EB {β:Bs} (A:Option Addr) (c:Nat) (d:List UInt8) (hA:cg β A d) (hl:d.length<=1048576):bD Tryz.prog β 58 #[.slice A d.length c] [] (fun β' v l=>∃ B cap,v=.slice B d.length cap/\l=[]/\cg β' B d/\d.length<=cap):=
  (uX A c d hA (by omega)).PX (by
    rintro v l ⟨B,cap,rfl,rfl⟩
    refine⟨[],_,rfl,fun β' h=>⟨B,cap,rfl,rfl,h.bytes,?_⟩⟩
    obtain⟨F,h1,_⟩:=h.get 0 rfl
    exact (aJ.len h1).2)
theorem QJ {β:Bs} (S:aG) (L:HL) (o q f m t am an km kn n:Nat) (Z:AZ) (fs:List bq) (xs:List bP) (root:Int) (hrw:(Lit.int .i64 root).wf=true) (hI:Inv S) (hn:n<=8388608) (hZ:fL β Z xs) (hX:eG xs 1048576) (hg:dV β) (c:ax) (B:Option Addr) (p:Nat) {kW:Int} (ho:kW=if c.op=1 then root else c.other) (hC:gT β { dz B p c with other:=kW }) {S2:aG} {c2:ax} (hW:aV fs xs root (n+1) S c=(S2,c2)) :
    Spec Tryz.prog β 228 #[vP o,.agg ⟨cC { dz B p c with other:=kW }⟩] ([oB o q f root am n,qB q f km n,aM am an Z xs,kM km kn fs]++pA f m t L S) (fun v l=>∃ L2,v=.agg ⟨cC (dz B p c2)⟩/\l=[oB o q f root am (n+1),qB q f km (n+1),aM am an Z xs,kM km kn fs]++pA f m t L2 S2):=by
  have e:({ dz B p c with other:=kW }:ax)=dz B p (nM root c):=by rw [Ib ho];rfl
  rw [e] at hC ⊢
  have h:=SM S L o q f m t am an km kn n Z fs xs root hrw hI hn _ rfl hZ hX hg (dz B p (nM root c)) hC
  rw [LJ] at h
  have hW:bE (iW fs ((n+1:Nat):Int)) (fB root S (bG xs ((n+1:Nat):Int))) (nM root c)=(S2,c2):=hW
  rw [hW] at h
  exact h
end
section
open Go.RowKit Go.Maps bF aB
attribute [local irreducible] ak aR af aj
noncomputable abbrev CO (w)(f:Nat) (o) (root) (tA) (tr:List ax) (tC):=(.blk w [.iface 39 (vP w),vP f,.iface 140 (vP o),vI (root),.slice tA (tr.length) (tC)] 53:HP)
noncomputable abbrev Ag (am)(Z)(xs)(an):=(.abs (aP Tryz.prog 3 am (gu Z xs) an):HP)
noncomputable abbrev P0 (tA)(tr:List ax) (tC):=(.abs (aJ 88 13 tA tr.length tC (bW cC tr)):HP)
noncomputable abbrev SN (w)(f:Nat) (o) (root) (A') (tr:List ax) (k'):=(.blk w [.iface 39 (vP w),vP f,.iface 140 (vP o),vI (root),.slice A' ((tr.length+1)) (k')] 53:HP)
noncomputable abbrev Jr (A')(tr:List ax) (k') (B1) (p1) (c2):=(.abs (aJ 88 13 A' (tr.length+1) k' (bW cC (tr++[dz B1 p1 c2]))):HP)
noncomputable abbrev SQ (o)(q)(f:Nat) (root) (am) (tr:List ax):=(.blk o [.iface 141 (vP q),vP f,vI (root),.map (some am),vI ↑tr.length] 145:HP)
noncomputable abbrev SV (q)(f:Nat) (km) (tr:List ax):=(.blk q [.iface 49 (vP f),.map (some km),vI ↑tr.length] 143:HP)
noncomputable abbrev SW (b1:Nat) (c:ax) (kW) (B1) (p1):=(.blk b1 [vI (c.op),vI (c.handle),vI (kW),.string c.name,.string c.text,.slice B1 (c.data.length) (p1),vI (c.mode),vI (c.uid),vI (c.gid),vI (c.sec),vI (c.nano),vI (c.code),vI (c.answer)] 88:HP)
noncomputable abbrev CP (b1:Nat) (c2:ax) (B1) (p1):=(.blk b1 [vI (c2.op),vI (c2.handle),vI (c2.other),.string c2.name,.string c2.text,.slice B1 (c2.data.length) (p1),vI (c2.mode),vI (c2.uid),vI (c2.gid),vI (c2.sec),vI (c2.nano),vI (c2.code),vI (c2.answer)] 88:HP)
noncomputable abbrev G6 (o)(q)(f:Nat) (root) (am) (tr:List ax):=(.blk o [.iface 141 (vP q),vP f,vI (root),.map (some am),vI ↑(tr.length+1)] 145:HP)
noncomputable abbrev G7 (q)(f:Nat) (km) (tr:List ax):=(.blk q [.iface 49 (vP f),.map (some km),vI ↑(tr.length+1)] 143:HP)
noncomputable abbrev SX (c2:ax) (B1) (p1):=([(0,vI (c2.op)),(1,vI (c2.handle)),(2,vI (c2.other)),(3,.string c2.name),(4,.string c2.text),(5,.slice B1 (c2.data.length) (p1)),(6,vI (c2.mode)),(7,vI (c2.uid)),(8,vI (c2.gid)),(9,vI (c2.sec)),(10,vI (c2.nano)),(11,vI (c2.code)),(12,vI (c2.answer))]:Fr)
theorem QK {β:Bs} (S:aG) (L:HL) (w o q f m t am an km kn:Nat) (Z:AZ) (fs:List bq) (xs:List bP) (root:Int) (tr:List ax) (tA:Option Addr) (tC:Nat) (hrw:(Lit.int .i64 root).wf=true) (hI:Inv S) (hn:tr.length<=8388607) (hZ:fL β Z xs) (hX:eG xs 1048576) (hg:dV β) (c:ax) (hD:cg β c.dA c.data) (hl:c.data.length<=1048576) (hw:(Lit.int .i64 c.handle).wf=true) (how:(Lit.int .i64 c.other).wf=true) (hnm:c.name.size<=1048576) (G8:c.text.size<=1048576) {S2:aG} {c2:ax} (hW:aV fs xs root (tr.length+1) S c=(S2,c2)) :
    bD Tryz.prog β 155 #[vP w,.agg ⟨cC c⟩] ([CO w f o root tA tr tC,.blk o [.iface 141 (vP q),vP f,vI (root),.map (some am),vI (((tr.length:Nat):Int))] 145,.blk q [.iface 49 (vP f),.map (some km),vI (((tr.length:Nat):Int))] 143,Ag am Z xs an,lQ km fs kn,P0 tA tr tC]++o7 f m t S L) (fun β' v l=>∃ B1 p1 B2 p2 A' k' L2,v=.agg ⟨cC (dz B2 p2 c2)⟩/\l=([SN w f o root A' tr k',.blk o [.iface 141 (vP q),vP f,vI (root),.map (some am),vI ((((tr.length+1):Nat):Int))] 145,.blk q [.iface 49 (vP f),.map (some km),vI ((((tr.length+1):Nat):Int))] 143,Ag am Z xs an,lQ km fs kn,Jr A' tr k' B1 p1 c2]++o7 f m t S2 L2)/\cg β' B1 c2.data/\cg β' B2 c2.data/\c2.data.length<=p2):=by
 have hd2:c2.data=c.data:=by have h:=Ia (fs:=fs) (xs:=xs) (root:=root) (n:=tr.length+1) (S:=S) (c:=c);rw [hW] at h;exact h
 refine bD.enter Tryz.func155 rfl Tryz.ntmps155 (Nat.le_of_ble_eq_true rfl) (fun hle0 R=>?_)
 refine SR (gN 1 (fun b1=>[(3,vP b1)]) (fun _=>[]) (fun _=>[]) (fun b1=>pC b1 c) (fun b1=>?_))
 refine gN 1 (fun b2=>[(4,vP b2)]) (fun _=>[]) (fun _=>[]) (fun b2=>.blk b2 [vI 0,vI 0,vI 0,.string ⟨#[]⟩,.string ⟨#[]⟩,.slice none (0) (0),vI 0,vI 0,vI 0,vI 0,vI 0,vI 0,vI 0] 88) (fun b2=>?_)
 refine NS (gK 2 [(6,.slice c.dA (c.data.length) (c.dC))] [(1,a_ 13 b1)] ?_)
 refine ak.fX (d:=(some 7)) (R:=([CO w f o root tA tr tC,SQ o q f root am tr,SV q f km tr,Ag am Z xs an,lQ km fs kn,P0 tA tr tC]++o7 f m t S L++[.abs R,pC b1 c,rF b2])) (pk:=[0,1,2,3,4,5,6,7,8,9,10,11,12,13,14]) (fun _=>by kernel_rfl) (EB c.dA c.dC c.data hD hl) rfl (by kernel_rfl) ?_
 rintro EC _ _ iI ⟨B1,p1,rfl,rfl,MH,hp1⟩
 replace hD:=hD.le iI
 replace hZ:=hZ.le iI
 replace hg:=hg.le iI
 replace hle0:=hle0.trans iI
 refine gC 2 [] [(1,a_ 13 b1)] [(13,[(5,.slice B1 (c.data.length) (p1))])] ?_
 refine NN (af.join (ι:=Int) (fun (kW:Int)=>(kW=if c.op=1 then root else c.other)/\((Lit.int .i64 kW).wf=true)) (fun (kW:Int)=>([(0,vP w)]++Ad b1 b2)) (fun (kW:Int)=>([CO w f o root tA tr tC,SQ o q f root am tr,SV q f km tr,Ag am Z xs an,lQ km fs kn,P0 tA tr tC]++o7 f m t S L++[.abs R,SW b1 c kW B1 p1,rF b2])) ?_ ?_)
 ·rintro kW ⟨hoth,how⟩
  show af _ _ _ _ ([(0,vP w)]++Ad b1 b2) ([CO w f o root tA tr tC,SQ o q f root am tr,SV q f km tr,Ag am Z xs an,lQ km fs kn,P0 tA tr tC]++o7 f m t S L++[.abs R,SW b1 c kW B1 p1,rF b2]) _
  refine af.seq (af.bU (S:=[CO w f o root tA tr tC,SW b1 c kW B1 p1]) [0,1,2,3,4,5,6] 5 [0,13] (by kernel_rfl) (by kernel_rfl) rfl (by kernel_rfl) ?_)
  refine gR 0 [5,6] ([(0,vP w)]++Ad b1 b2++[(20,.iface 140 (vP o)),(21,.agg #[vI (c.op),vI (c.handle),vI (kW),.string c.name,.string c.text,.slice B1 (c.data.length) (p1),vI (c.mode),vI (c.uid),vI (c.gid),vI (c.sec),vI (c.nano),vI (c.code),vI (c.answer)])]) [0,1,2,3,4] [(3,a_ 0 w),(4,A_ 1 b1 13)] ?_
  refine mL [10,13] [1,2,3,4,6,7,8,9,10,11] (QJ (β:=EC) S L o q f m t am an km kn tr.length Z fs xs root hrw hI (by omega) hZ hX hg c B1 p1 hoth ⟨hw,how,hnm,G8,MH,Nat.le_trans hl (by decide),hp1⟩ hW) ?_ (by rintro _ _ ⟨L2,rfl,rfl⟩;rfl)
  rintro _ _ ⟨L2,rfl,rfl⟩
  refine aO.last rfl rfl ?_
  refine gC 1 [] [(0,A_ 13 b1 13)] [(13,(SX c2 B1 p1))] ?_
  refine NL (aj.np (NX (af.seq ?_)))
  refine af.bU (S:=[CO w f o root tA tr tC,CP b1 c2 B1 p1]) [0,1,2,3,4,5,6,7,8,9,10] 6 [10,13] (by kernel_rfl) (by kernel_rfl) rfl (by kernel_rfl) ?_
  refine gR 0 [6,7,8,9,10] (Ad b1 b2++[(23,vP w),(27,.slice tA (tr.length) (tC)),(28,.agg ⟨cC (dz B1 p1 c2)⟩)]) [0,1,2,3,4,5] [(4,a_ 0 w),(5,A_ 1 b1 13)] ?_
  refine mN [10,13] (fun b4=>[(29,.slice (some ⟨b4,0,none⟩) (1) (1))]) (fun _=>[]) (fun b4=>.blk b4 [vI (c2.op),vI (c2.handle),vI (c2.other),.string c2.name,.string c2.text,.slice B1 (c2.data.length) (p1),vI (c2.mode),vI (c2.uid),vI (c2.gid),vI (c2.sec),vI (c2.nano),vI (c2.code),vI (c2.answer)] 88) (fun b4=>?_)
  refine aO.cut (ι:=(Option Addr)×Nat) (fr':=fun ((A5,c6):(Option Addr)×Nat)=>[(3,vP b1),(4,vP b2),(23,vP w),(30,.slice A5 ((tr.length+1)) (c6))]) (hp':=fun ((A5,c6):(Option Addr)×Nat)=>([G6 o q f root am tr,G7 q f km tr,Ag am Z xs an,lQ km fs kn]++o7 f m t S2 L2++[CO w f o root tA tr tC,Jr A5 tr c6 B1 p1 c2,.abs R,CP b1 c2 B1 p1,rF b2,CP b4 c2 B1 p1])) [10,13] rfl rfl ?_ rfl (fun _=>by kernel_rfl) ?_
  ·refine ak.append 11 (d:=(some 30)) (t:=51) (e:=88) (z:=.agg #[vI 0,vI 0,vI 0,.string ⟨#[]⟩,.string ⟨#[]⟩,.slice none (0) (0),vI 0,vI 0,vI 0,vI 0,vI 0,vI 0,vI 0]) (size:=13) (bytes:=136) (n:=tr.length) (cap:=tC) (A:=tA) (xs:=(bW cC tr)) (s:=(.tmp 27)) (x:=(.tmp 29)) (ats:=#[51,51]) (A':=some ⟨b4,0,none⟩) (m:=1) (c':=1) (news:=[vI (c2.op),vI (c2.handle),vI (c2.other),.string c2.name,.string c2.text,.slice B1 (c2.data.length) (p1),vI (c2.mode),vI (c2.uid),vI (c2.gid),vI (c2.sec),vI (c2.nano),vI (c2.code),vI (c2.answer)]) (fun _=>by kernel_rfl) rfl (by kernel_rfl) (fun _=>by kernel_rfl) (fun _=>by kernel_rfl) Tryz.underlying51 (by kernel_rfl) rfl (by decide) (rfl) (by simp [Value.oneCell']) (mG (j:=15) rfl) (by unfold maxLen;omega) (by omega) (fun A5 c6=>?_)
   refine ak.d9 11 (p:=.abs (aJ 88 13 A5 (tr.length+1) c6 ((bW cC tr)++[vI (c2.op),vI (c2.handle),vI (c2.other),.string c2.name,.string c2.text,.slice B1 (c2.data.length) (p1),vI (c2.mode),vI (c2.uid),vI (c2.gid),vI (c2.sec),vI (c2.nano),vI (c2.code),vI (c2.answer)]))) (p':=.abs (aJ 88 13 A5 (tr.length+1) c6 (bW cC (tr++[dz B1 p1 c2])))) (by kernel_rfl) (congrArg (fun x=>HP.abs (aJ 88 13 _ _ _ x)) (Cm cC (dz B1 p1 c2) tr).symm) ?_
   refine ak.slot 30 (.slice A5 (tr.length+1) (c6)) (.slice A5 ((tr.length+1)) (c6)) (fun _=>by kernel_rfl) (rfl) ?_
   refine NL ?_
   exact MD (A5,c6) [3,4,23,30] [0,1,2,3,4,5,6,7,8,9,10,11,12,13,14,15]
  rintro⟨A5,c6⟩
  refine aO.cut (ι:=Unit) (fr':=fun (_:Unit)=>[(3,vP b1),(4,vP b2),(30,.slice A5 ((tr.length+1)) (c6)),(31,vP w)]) (hp':=fun (_:Unit)=>([G6 o q f root am tr,G7 q f km tr,Ag am Z xs an,lQ km fs kn]++o7 f m t S2 L2++[CO w f o root tA tr tC,Jr A5 tr c6 B1 p1 c2,.abs R,CP b1 c2 B1 p1,rF b2,CP b4 c2 B1 p1])) [10,13] rfl rfl ?_ rfl (fun _=>by kernel_rfl) ?_
  ·refine gK 1 [(31,vP w)] [] ?_
   refine NL ?_
   exact MD () [3,4,30,31] [0,1,2,3,4,5,6,7,8,9,10,11,12,13,14,15]
  rintro _
  refine aO.cut (ι:=Unit) (fr':=fun (_:Unit)=>[(3,vP b1),(4,vP b2),(30,.slice A5 ((tr.length+1)) (c6)),(32,.pointer (some ⟨w,4,none⟩))]) (hp':=fun (_:Unit)=>([G6 o q f root am tr,G7 q f km tr,Ag am Z xs an,lQ km fs kn]++o7 f m t S2 L2++[CO w f o root tA tr tC,Jr A5 tr c6 B1 p1 c2,.abs R,CP b1 c2 B1 p1,rF b2,CP b4 c2 B1 p1])) [10,13] rfl rfl ?_ rfl (fun _=>by kernel_rfl) ?_
  ·refine gK 1 [(32,.pointer (some ⟨w,4,none⟩))] [] ?_
   refine NL ?_
   exact MD () [3,4,30,32] [0,1,2,3,4,5,6,7,8,9,10,11,12,13,14,15]
  rintro _
  refine aO.last rfl rfl ?_
  refine gC 1 [] [(0,a_ 10 w)] [(10,[(4,.slice A5 ((tr.length+1)) (c6))])] ?_
  refine NL (aj.np (NX (SR ?_)))
  refine gK 2 [(34,.slice B1 (c2.data.length) (p1))] [(1,a_ 13 b1)] ?_
  refine ak.fX (d:=(some 35)) (R:=([G6 o q f root am tr,G7 q f km tr,Ag am Z xs an,lQ km fs kn]++o7 f m t S2 L2++[SN w f o root A5 tr c6,Jr A5 tr c6 B1 p1 c2,.abs R,CP b1 c2 B1 p1,rF b2,CP b4 c2 B1 p1])) (pk:=[0,1,2,3,4,5,6,7,8,9,10,11,12,13,14,15]) (fun _=>by kernel_rfl) (EB B1 p1 c2.data (by rw [hd2];exact MH) (by rw [hd2];exact hl)) rfl (by kernel_rfl) ?_
  rintro vT _ _ dX ⟨B2,p2,rfl,rfl,W5,hp2⟩
  replace hD:=hD.le dX
  replace hZ:=hZ.le dX
  replace hg:=hg.le dX
  replace MH:=MH.le dX
  replace hle0:=hle0.trans dX
  refine gC 2 [] [(1,a_ 13 b1)] [(13,[(5,.slice B2 (c2.data.length) (p2))])] ?_
  refine NS (gC 2 [] [(0,A_ 13 b1 13),(1,A_ 14 b2 13)] [(14,(SX c2 B2 p2))] ?_)
  refine NN (af.ret ?_)
  exact aj.iQ (v:=.agg ⟨cC (dz B2 p2 c2)⟩) (l:=([SN w f o root A5 tr c6,G6 o q f root am tr,G7 q f km tr,Ag am Z xs an,lQ km fs kn,Jr A5 tr c6 B1 p1 c2]++o7 f m t S2 L2)) (aZ:=[b2=b2,b2=b2,b2=b2,b2=b2,b2=b2,b2=b2,b2=b2,b2=b2,b2=b2,b2=b2,b2=b2,b2=b2,b2=b2]) [.at 14,.at 14,.at 14,.at 14,.at 14,.at 14,.at 14,.at 14,.at 14,.at 14,.at 14,.at 14,.at 14] [10,0,1,2,3,11,4,5,6,7,8,9,12] hle0 (fun _=>by kernel_rfl) ⟨rfl,rfl,rfl,rfl,rfl,rfl,rfl,rfl,rfl,rfl,rfl,rfl,rfl,trivial⟩ rfl (by kernel_rfl) (⟨B1,p1,B2,p2,A5,c6,L2,rfl,rfl,by rw [hd2];exact MH,W5,hp2⟩)
 refine SR (gK 3 [(11,.bool (decide ((c.op:Int)=(1:Int))))] [(1,a_ 13 b1)] ?_)
 refine NN (af.bh (p:=(c.op:Int)=(1:Int)) (fun _=>by kernel_rfl) (fun h11=>?_) (fun h11=>?_))
 ·refine af.region (gC 6 [] [(3,a_ 0 w),(5,a_ 13 b1)] [(13,[(2,vI (root))])] ?_)
  refine NL ?_
  exact aj.meet root (idx:=[0,3,4]) (pk:=[0,1,2,3,4,5,6,7,8,9,10,11,12,13,14]) (show (root=if c.op=1 then root else c.other)/\((Lit.int .i64 root).wf=true) from ⟨(if_pos h11).symm,hrw⟩) (fun _=>by kernel_rfl) rfl (by kernel_rfl)
 refine af.skip ?_
 exact aj.meet c.other (idx:=[0,3,4]) (pk:=[0,1,2,3,4,5,6,7,8,9,10,11,12,13,14]) (show (c.other=if c.op=1 then root else c.other)/\((Lit.int .i64 c.other).wf=true) from ⟨(if_neg h11).symm,how⟩) (fun _=>by kernel_rfl) rfl (by kernel_rfl)
end
section
open Go.RowKit Go.Maps bF aB
section d
variable {β:Bs} {fs:List bq} {xs:List bP} {root:Int} {S S2:aG} {V:WV} {tr:List ax} {c c2:ax} {G:WG}
theorem MI (hrw:(Lit.int .i64 root).wf=true) (hI:Inv S) (hn:tr.length<=8388607) (hZ:fL β G.Z xs) (hX:eG xs 1048576) (hg:dV β) (hD:cg β c.dA c.data) (hl:c.data.length<=1048576) (hw:(Lit.int .i64 c.handle).wf=true) (how:(Lit.int .i64 c.other).wf=true) (hnm:c.name.size<=1048576) (G8:c.text.size<=1048576) (hW:aV fs xs root (tr.length+1) S c=(S2,c2)) :
    bD Tryz.prog β 155 #[vP G.w,.agg ⟨cC c⟩] [wA G fs xs root S V tr] (fun β' v l=>∃ (V':WV) (B1:Option Addr) (p1:Nat) (B2:Option Addr) (p2:Nat),v=.agg ⟨cC (dz B2 p2 c2)⟩/\l=[wA G fs xs root S2 V' (tr++[dz B1 p1 c2])]/\cg β' B1 c2.data/\cg β' B2 c2.data/\c2.data.length<=p2):=
  (QK S V.L G.w G.o G.q G.f G.m G.t G.am G.an G.km G.kn G.Z fs xs root tr V.A V.c hrw hI hn hZ hX hg c hD hl hw how hnm G8 hW).one.mono (by
    rintro β' v l _ ⟨l0,⟨B1,p1,B2,p2,A',k',L2,rfl,rfl,h1,h2,h3⟩,rfl⟩
    refine⟨⟨L2,A',k'⟩,B1,p1,B2,p2,rfl,?_,h1,h2,h3⟩
    unfold wA wP tR
    rw [List.length_append]
    rfl)
theorem o8:Spec Tryz.prog β 13 #[vP G.w] [wA G fs xs root S V tr] (fun v l=>v=.int .i64 (tr.length:Int)/\l=[wA G fs xs root S V tr]):=
  (KA S V.L G.w G.o G.q G.f G.m G.t G.am G.an G.km G.kn G.Z fs xs root tr V.A V.c).one.mono (by rintro v l ⟨l0,⟨rfl,rfl⟩,rfl⟩;exact⟨rfl,rfl⟩)
theorem kV:Spec Tryz.prog β 14 #[vP G.w] [wA G fs xs root S V tr] (fun v l=>v=.int .i64 (S.us.length:Int)/\l=[wA G fs xs root S V tr]):=
  (MB S V.L G.w G.o G.q G.f G.m G.t G.am G.an G.km G.kn G.Z fs xs root tr V.A V.c).one.mono (by rintro v l ⟨l0,⟨rfl,rfl⟩,rfl⟩;exact⟨rfl,rfl⟩)
theorem qG:Spec Tryz.prog β 12 #[vP G.w] [wA G fs xs root S V tr] (fun v l=>v=.int .i64 S.av/\l=[wA G fs xs root S V tr]):=
  (MC S V.L G.w G.o G.q G.f G.m G.t G.am G.an G.km G.kn G.Z fs xs root tr V.A V.c).one.mono (by rintro v l ⟨l0,⟨rfl,rfl⟩,rfl⟩;exact⟨rfl,rfl⟩)
theorem MJ (hI:Inv S):Spec Tryz.prog β 17 #[vP G.w] [wA G fs xs root S V tr] (fun v l=>∃ A cp K,v=.agg #[.slice A (bC S).length cp]/\l=[wA G fs xs root S V tr]++Oa A cp (bC S) K):=by
  intro R w hS
  have h1:Sat β ([.abs R]++[wA G fs xs root S V tr]) w:=Sat.turn hS
  refine (KC S V.L G.w G.o G.q G.f G.m G.t G.am G.an G.km G.kn G.Z fs xs root tr V.A V.c hI R w (Sat.turn (Sat.pu h1))).mono ?_
  rintro e w' ⟨v,l,h2,⟨A,cp,K,h3,rfl⟩,h4⟩
  refine⟨v,_,h2,⟨A,cp,K,h3,rfl⟩,?_⟩
  rw [List.append_assoc] at h4
  have h5:=(Sat.turn h4).fq
  rw [List.append_assoc] at h5 ⊢
  exact Sat.turn h5
theorem KD (hI:Inv S):bD Tryz.prog β 17 #[vP G.w] [wA G fs xs root S V tr] (fun β' v l=>∃ A cp K,v=.agg #[.slice A (bC S).length cp]/\l=[wA G fs xs root S V tr]/\aI β' A (bC S) K):=
  (MJ hI).PX (by
    rintro v l ⟨A,cp,K,rfl,rfl⟩
    exact⟨_,_,rfl,fun β' h=>⟨A,cp,K,rfl,rfl,h.graph⟩⟩)
theorem QL {ns:List aL} {Y:Lay} {X:FM} (A:Option Addr) (cp:Nat) (hG:aI β A ns Y) (hB:iJ ns 1048576) {Af Aa:Option Addr} (cf ca:Nat) (hF:cW β Af (bW fN fs)) (mA:ji fs 2097152) (hA:cW β Aa (bW gq xs)) (hab:eG xs 1048576) :
    bD Tryz.prog β 26 #[.agg #[.slice A ns.length cp],.int .i64 root,.agg #[.int .i64 X.cN,.int .i64 X.cB,.int .i64 X.cH,.int .i64 X.cS,.int .i64 X.cZ],.agg #[.slice Af fs.length cf,.slice Aa xs.length ca]] [] (fun β' v l=>(dg X ns root≠0/\v=.tuple #[.pointer none,.int .i64 (dg X ns root)]/\l=[])\/(dg X ns root=0/\∃ (N:tL X ns) (G:WG) (V:WV),v=.tuple #[vP G.w,.int .i64 0]/\l=[wA G fs xs root N.1 V []]/\fL β' G.Z xs)):=
  ((OY A cp ns Y hG hB X root Af cf fs hF mA Aa ca xs hA hab).R8 (by
    rintro β' v l (⟨h1,h2,rfl⟩|⟨h1,N,L,w,o,q,f,m,t,am,an,km,kn,Z,h2,rfl,h3⟩)
    ·exact .inl ⟨rfl,.inl ⟨h1,h2,rfl⟩⟩
    exact .inr (.inr ⟨h1,N,⟨w,o,q,am,km,an,kn,f,m,t,Z⟩,⟨L,none,0⟩,h2,rfl,h3⟩)))
end d
end
section
open Go.RowKit Go.Maps bF aB
attribute [local irreducible] ak aR af aj
theorem CQ {β:Bs} {G:WG} {fs:List bq} {xs:List bP} {root:Int} {S S2:aG} {V:WV} {tr:List ax} (hrw:(Lit.int .i64 root).wf=true) (hI:Inv S) (hn:tr.length<=8388607) (hZ:fL β G.Z xs) (hX:eG xs 1048576) (hg:dV β) (c:ax) (hD:cg β c.dA c.data) (hl:c.data.length<=1048576) (hw:(Lit.int .i64 c.handle).wf=true) (how:(Lit.int .i64 c.other).wf=true) (hnm:c.name.size<=1048576) (G8:c.text.size<=1048576) {c2:ax} (hW:aV fs xs root (tr.length+1) S c=(S2,c2)) :
    bD Tryz.prog β 28 #[.agg #[.iface 39 (vP G.w)],.agg #[vI (c.op),vI (c.handle),vI (c.other),.string c.name,.string c.text,.slice c.dA (c.data.length) (c.dC),vI (c.mode),vI (c.uid),vI (c.gid),vI (c.sec),vI (c.nano),vI (c.code),vI (c.answer)]] [wA G fs xs root S V tr] (fun _ v l=>∃ (V':WV) (fJ:List ax),v=.tuple #[vI c2.answer,vI c2.code]/\l=[wA G fs xs root S2 V' fJ]/\fJ.length=tr.length+1):=by
 refine bD.enter Tryz.func28 rfl Tryz.ntmps28 (Nat.le_of_ble_eq_true rfl) (fun hle0 R=>?_)
 refine SR (gN 1 (fun b1=>[(2,vP b1)]) (fun _=>[]) (fun _=>[]) (fun b1=>.blk b1 [.iface 39 (vP G.w)] 48) (fun b1=>?_))
 refine gN 3 (fun b2=>[(3,vP b2)]) (fun _=>[]) (fun _=>[]) (fun b2=>.blk b2 [vI (c.op),vI (c.handle),vI (c.other),.string c.name,.string c.text,.slice c.dA (c.data.length) (c.dC),vI (c.mode),vI (c.uid),vI (c.gid),vI (c.sec),vI (c.nano),vI (c.code),vI (c.answer)] 88) (fun b2=>?_)
 refine NS (gK 3 [(7,.iface 39 (vP G.w)),(8,.agg #[vI (c.op),vI (c.handle),vI (c.other),.string c.name,.string c.text,.slice c.dA (c.data.length) (c.dC),vI (c.mode),vI (c.uid),vI (c.gid),vI (c.sec),vI (c.nano),vI (c.code),vI (c.answer)])] [(1,a_ 2 b1),(2,A_ 3 b2 13)] ?_)
 refine ak.fX (d:=(some 9)) (R:=[.abs R,.blk b1 [.iface 39 (vP G.w)] 48,pC b2 c]) (pk:=[0,1,2,3]) (fun _=>by kernel_rfl) (MI (β:=β) (G:=G) (fs:=fs) (xs:=xs) (S:=S) (V:=V) (tr:=tr) (c:=c) (c2:=c2) (S2:=S2) hrw hI hn hZ hX hg hD hl hw how hnm G8 hW) rfl (by kernel_rfl) ?_
 rintro EC _ _ iI ⟨V',B1,p1,B2,p2,rfl,rfl,_,_,_⟩
 replace hle0:=hle0.trans iI
 refine gC 1 [] [(0,A_ 3 b2 13)] [(3,[(0,vI (c2.op)),(1,vI (c2.handle)),(2,vI (c2.other)),(3,.string c2.name),(4,.string c2.text),(5,.slice B2 (c2.data.length) (p2)),(6,vI (c2.mode)),(7,vI (c2.uid)),(8,vI (c2.gid)),(9,vI (c2.sec)),(10,vI (c2.nano)),(11,vI (c2.code)),(12,vI (c2.answer))])] ?_
 refine NN (af.seq (af.bI (by kernel_rfl) (by kernel_rfl) ?_))
 refine gQ 6 [(4,vI (c2.answer)),(5,vI (c2.code))] [(1,a_ 3 b2),(3,a_ 3 b2)] ?_
 refine NQ (NX (af.ret ?_))
 exact aj.iQ (v:=.tuple #[vI (c2.answer),vI (c2.code)]) (l:=[wA G fs xs root S2 V' (tr++[dz B1 p1 c2])]) (aZ:=[]) [] [0,1] hle0 (fun _=>by kernel_rfl) trivial rfl (by kernel_rfl) (⟨V',_,rfl,rfl,by rw [List.length_append];rfl⟩)
theorem G9 {β:Bs} {G:WG} {fs:List bq} {xs:List bP} {root:Int} {S S2:aG} {V:WV} {tr:List ax} (hrw:(Lit.int .i64 root).wf=true) (hI:Inv S) (hn:tr.length<=8388607) (hZ:fL β G.Z xs) (hX:eG xs 1048576) (hg:dV β) (c:ax) (hD:cg β c.dA c.data) (hl:c.data.length<=1048576) (hw:(Lit.int .i64 c.handle).wf=true) (how:(Lit.int .i64 c.other).wf=true) (hnm:c.name.size<=1048576) (G8:c.text.size<=1048576) {c2:ax} (hW:aV fs xs root (tr.length+1) S c=(S2,c2)) :
    bD Tryz.prog β 52 #[.agg #[.iface 39 (vP G.w)],.agg #[vI (c.op),vI (c.handle),vI (c.other),.string c.name,.string c.text,.slice c.dA (c.data.length) (c.dC),vI (c.mode),vI (c.uid),vI (c.gid),vI (c.sec),vI (c.nano),vI (c.code),vI (c.answer)]] [wA G fs xs root S V tr] (fun _ v l=>∃ (V':WV) (fJ:List ax),v=vI c2.code/\l=[wA G fs xs root S2 V' fJ]/\fJ.length=tr.length+1):=by
 refine bD.enter Tryz.func52 rfl Tryz.ntmps52 (Nat.le_of_ble_eq_true rfl) (fun hle0 R=>?_)
 refine SR (gN 1 (fun b4=>[(2,vP b4)]) (fun _=>[]) (fun _=>[]) (fun b4=>.blk b4 [.iface 39 (vP G.w)] 48) (fun b4=>?_))
 refine gN 2 (fun b5=>[(3,vP b5)]) (fun _=>[]) (fun _=>[]) (fun b5=>.blk b5 [vI (c.op),vI (c.handle),vI (c.other),.string c.name,.string c.text,.slice c.dA (c.data.length) (c.dC),vI (c.mode),vI (c.uid),vI (c.gid),vI (c.sec),vI (c.nano),vI (c.code),vI (c.answer)] 88) (fun b5=>?_)
 refine NS (gK 3 [(6,.iface 39 (vP G.w)),(7,.agg #[vI (c.op),vI (c.handle),vI (c.other),.string c.name,.string c.text,.slice c.dA (c.data.length) (c.dC),vI (c.mode),vI (c.uid),vI (c.gid),vI (c.sec),vI (c.nano),vI (c.code),vI (c.answer)])] [(1,a_ 2 b4),(2,A_ 3 b5 13)] ?_)
 refine ak.fX (d:=(some 8)) (R:=[.abs R,.blk b4 [.iface 39 (vP G.w)] 48,pC b5 c]) (pk:=[0,1,2,3]) (fun _=>by kernel_rfl) (MI (β:=β) (G:=G) (fs:=fs) (xs:=xs) (S:=S) (V:=V) (tr:=tr) (c:=c) (c2:=c2) (S2:=S2) hrw hI hn hZ hX hg hD hl hw how hnm G8 hW) rfl (by kernel_rfl) ?_
 rintro Vg _ _ o9 ⟨V',B1,p1,B2,p2,rfl,rfl,_,_,_⟩
 replace hle0:=hle0.trans o9
 refine gK 2 [(4,vI (c2.code))] [] ?_
 refine NN (af.ret ?_)
 exact aj.iQ (v:=.int .i64 (c2.code)) (l:=[wA G fs xs root S2 V' (tr++[dz B1 p1 c2])]) (aZ:=[]) [] [0,1] hle0 (fun _=>by kernel_rfl) trivial rfl (by kernel_rfl) (⟨V',_,rfl,rfl,by rw [List.length_append];rfl⟩)
theorem He {β:Bs} {G:WG} {fs:List bq} {xs:List bP} {root:Int} {S S2:aG} {V:WV} {tr:List ax} (hrw:(Lit.int .i64 root).wf=true) (hI:Inv S) (hn:tr.length<=8388607) (hZ:fL β G.Z xs) (hX:eG xs 1048576) (hg:dV β) (id:Int) (how:(Lit.int .i64 id).wf=true) {c2:ax} (hW:aV fs xs root (tr.length+1) S (⟨1,0,id,⟨#[]⟩,⟨#[]⟩,none,0,[],0,0,0,0,0,0,0⟩:ax)=(S2,c2)) :
    bD Tryz.prog β 9 #[.agg #[.iface 39 (vP G.w)],vI (id)] [wA G fs xs root S V tr] (fun _ v l=>∃ (V':WV) (fJ:List ax),v=.tuple #[vI c2.answer,vI c2.code]/\l=[wA G fs xs root S2 V' fJ]/\fJ.length=tr.length+1):=by
 refine bD.enter Tryz.func9 rfl Tryz.ntmps9 (Nat.le_of_ble_eq_true rfl) (fun hle0 R=>?_)
 refine SR (gN 3 (fun b7=>[(2,vP b7)]) (fun _=>[]) (fun _=>[]) (fun b7=>.blk b7 [.iface 39 (vP G.w)] 48) (fun b7=>?_))
 refine NS (gK 3 [(6,.agg #[.iface 39 (vP G.w)]),(8,.agg #[vI 1,vI 0,vI (id),.string ⟨#[]⟩,.string ⟨#[]⟩,.slice none (0) (0),vI 0,vI 0,vI 0,vI 0,vI 0,vI 0,vI 0])] [(0,a_ 2 b7)] ?_)
 refine ak.fX (d:=(some 9)) (R:=[.abs R,.blk b7 [.iface 39 (vP G.w)] 48]) (pk:=[0,1,2]) (fun _=>by kernel_rfl) (CQ (β:=β) (G:=G) (fs:=fs) (xs:=xs) (S:=S) (V:=V) (tr:=tr) (S2:=S2) (c2:=c2) hrw hI hn hZ hX hg (⟨1,0,id,⟨#[]⟩,⟨#[]⟩,none,0,[],0,0,0,0,0,0,0⟩:ax) (fun j v h=>by cases h) (Nat.zero_le _) (by show (Lit.int .i64 0).wf=true;decide) how (Nat.zero_le _) (Nat.zero_le _) hW) rfl (by kernel_rfl) ?_
 rintro xP _ _ fZ ⟨V',fJ,rfl,rfl,ht⟩
 replace hle0:=hle0.trans fZ
 refine gK 4 [(4,vI (c2.answer)),(5,vI (c2.code))] [] ?_
 refine NN (af.ret ?_)
 exact aj.iQ (v:=.tuple #[vI (c2.answer),vI (c2.code)]) (l:=[wA G fs xs root S2 V' fJ]) (aZ:=[]) [] [0,1] hle0 (fun _=>by kernel_rfl) trivial rfl (by kernel_rfl) (⟨V',fJ,rfl,rfl,ht⟩)
theorem uY {β:Bs} {G:WG} {fs:List bq} {xs:List bP} {root:Int} {S S2:aG} {V:WV} {tr:List ax} (hrw:(Lit.int .i64 root).wf=true) (hI:Inv S) (hn:tr.length<=8388607) (hZ:fL β G.Z xs) (hX:eG xs 1048576) (hg:dV β) (h:Int) (hw:(Lit.int .i64 h).wf=true) (name:ByteArray) (hnm:name.size<=1048576) {c2:ax} (hW:aV fs xs root (tr.length+1) S (⟨2,h,0,name,⟨#[]⟩,none,0,[],0,0,0,0,0,0,0⟩:ax)=(S2,c2)) :
    bD Tryz.prog β 53 #[.agg #[.iface 39 (vP G.w)],vI (h),.string name] [wA G fs xs root S V tr] (fun _ v l=>∃ (V':WV) (fJ:List ax),v=.tuple #[vI c2.answer,vI c2.code]/\l=[wA G fs xs root S2 V' fJ]/\fJ.length=tr.length+1):=by
 refine bD.enter Tryz.func53 rfl Tryz.ntmps53 (Nat.le_of_ble_eq_true rfl) (fun hle0 R=>?_)
 refine SR (gN 3 (fun b9=>[(3,vP b9)]) (fun _=>[]) (fun _=>[]) (fun b9=>.blk b9 [.iface 39 (vP G.w)] 48) (fun b9=>?_))
 refine NS (gK 4 [(8,.agg #[.iface 39 (vP G.w)]),(11,.agg #[vI 2,vI (h),vI 0,.string name,.string ⟨#[]⟩,.slice none (0) (0),vI 0,vI 0,vI 0,vI 0,vI 0,vI 0,vI 0])] [(0,a_ 2 b9)] ?_)
 refine ak.fX (d:=(some 12)) (R:=[.abs R,.blk b9 [.iface 39 (vP G.w)] 48]) (pk:=[0,1,2]) (fun _=>by kernel_rfl) (CQ (β:=β) (G:=G) (fs:=fs) (xs:=xs) (S:=S) (V:=V) (tr:=tr) (S2:=S2) (c2:=c2) hrw hI hn hZ hX hg (⟨2,h,0,name,⟨#[]⟩,none,0,[],0,0,0,0,0,0,0⟩:ax) (fun j v h=>by cases h) (Nat.zero_le _) hw (by show (Lit.int .i64 0).wf=true;decide) hnm (Nat.zero_le _) hW) rfl (by kernel_rfl) ?_
 rintro Kz _ _ jL ⟨V',fJ,rfl,rfl,ht⟩
 replace hle0:=hle0.trans jL
 refine gK 4 [(6,vI (c2.answer)),(7,vI (c2.code))] [] ?_
 refine NN (af.ret ?_)
 exact aj.iQ (v:=.tuple #[vI (c2.answer),vI (c2.code)]) (l:=[wA G fs xs root S2 V' fJ]) (aZ:=[]) [] [0,1] hle0 (fun _=>by kernel_rfl) trivial rfl (by kernel_rfl) (⟨V',fJ,rfl,rfl,ht⟩)
theorem MK {β:Bs} {G:WG} {fs:List bq} {xs:List bP} {root:Int} {S S2:aG} {V:WV} {tr:List ax} (hrw:(Lit.int .i64 root).wf=true) (hI:Inv S) (hn:tr.length<=8388607) (hZ:fL β G.Z xs) (hX:eG xs 1048576) (hg:dV β) (h:Int) (hw:(Lit.int .i64 h).wf=true) (name:ByteArray) (hnm:name.size<=1048576) (mode:Int) {c2:ax} (hW:aV fs xs root (tr.length+1) S (⟨4,h,0,name,⟨#[]⟩,none,0,[],mode,0,0,0,0,0,0⟩:ax)=(S2,c2)) :
    bD Tryz.prog β 54 #[.agg #[.iface 39 (vP G.w)],vI (h),.string name,vI (mode)] [wA G fs xs root S V tr] (fun _ v l=>∃ (V':WV) (fJ:List ax),v=vI c2.code/\l=[wA G fs xs root S2 V' fJ]/\fJ.length=tr.length+1):=by
 refine bD.enter Tryz.func54 rfl Tryz.ntmps54 (Nat.le_of_ble_eq_true rfl) (fun hle0 R=>?_)
 refine SR (gN 2 (fun b11=>[(4,vP b11)]) (fun _=>[]) (fun _=>[]) (fun b11=>.blk b11 [.iface 39 (vP G.w)] 48) (fun b11=>?_))
 refine NS (gK 5 [(9,.agg #[.iface 39 (vP G.w)]),(13,.agg #[vI 4,vI (h),vI 0,.string name,.string ⟨#[]⟩,.slice none (0) (0),vI (mode),vI 0,vI 0,vI 0,vI 0,vI 0,vI 0])] [(0,a_ 2 b11)] ?_)
 refine ak.fX (d:=(some 14)) (R:=[.abs R,.blk b11 [.iface 39 (vP G.w)] 48]) (pk:=[0,1,2]) (fun _=>by kernel_rfl) (G9 (β:=β) (G:=G) (fs:=fs) (xs:=xs) (S:=S) (V:=V) (tr:=tr) (S2:=S2) (c2:=c2) hrw hI hn hZ hX hg (⟨4,h,0,name,⟨#[]⟩,none,0,[],mode,0,0,0,0,0,0⟩:ax) (fun j v h=>by cases h) (Nat.zero_le _) hw (by show (Lit.int .i64 0).wf=true;decide) hnm (Nat.zero_le _) hW) rfl (by kernel_rfl) ?_
 rintro OZ _ _ jf ⟨V',fJ,rfl,rfl,ht⟩
 replace hle0:=hle0.trans jf
 refine gK 1 [(8,vI (c2.code))] [] ?_
 refine NN (af.ret ?_)
 exact aj.iQ (v:=.int .i64 (c2.code)) (l:=[wA G fs xs root S2 V' fJ]) (aZ:=[]) [] [0,1] hle0 (fun _=>by kernel_rfl) trivial rfl (by kernel_rfl) (⟨V',fJ,rfl,rfl,ht⟩)
theorem y8 {β:Bs} {G:WG} {fs:List bq} {xs:List bP} {root:Int} {S S2:aG} {V:WV} {tr:List ax} (hrw:(Lit.int .i64 root).wf=true) (hI:Inv S) (hn:tr.length<=8388607) (hZ:fL β G.Z xs) (hX:eG xs 1048576) (hg:dV β) (h:Int) (hw:(Lit.int .i64 h).wf=true) {c2:ax} (hW:aV fs xs root (tr.length+1) S (⟨13,h,0,⟨#[]⟩,⟨#[]⟩,none,0,[],0,0,0,0,0,0,0⟩:ax)=(S2,c2)) :
    bD Tryz.prog β 30 #[.agg #[.iface 39 (vP G.w)],vI (h)] [wA G fs xs root S V tr] (fun _ v l=>∃ (V':WV) (fJ:List ax),v=vI c2.code/\l=[wA G fs xs root S2 V' fJ]/\fJ.length=tr.length+1):=by
 refine bD.enter Tryz.func30 rfl Tryz.ntmps30 (Nat.le_of_ble_eq_true rfl) (fun hle0 R=>?_)
 refine SR (gN 2 (fun b13=>[(2,vP b13)]) (fun _=>[]) (fun _=>[]) (fun b13=>.blk b13 [.iface 39 (vP G.w)] 48) (fun b13=>?_))
 refine NS (gK 3 [(5,.agg #[.iface 39 (vP G.w)]),(7,.agg #[vI 13,vI (h),vI 0,.string ⟨#[]⟩,.string ⟨#[]⟩,.slice none (0) (0),vI 0,vI 0,vI 0,vI 0,vI 0,vI 0,vI 0])] [(0,a_ 2 b13)] ?_)
 refine ak.fX (d:=(some 8)) (R:=[.abs R,.blk b13 [.iface 39 (vP G.w)] 48]) (pk:=[0,1,2]) (fun _=>by kernel_rfl) (G9 (β:=β) (G:=G) (fs:=fs) (xs:=xs) (S:=S) (V:=V) (tr:=tr) (S2:=S2) (c2:=c2) hrw hI hn hZ hX hg (⟨13,h,0,⟨#[]⟩,⟨#[]⟩,none,0,[],0,0,0,0,0,0,0⟩:ax) (fun j v h=>by cases h) (Nat.zero_le _) hw (by show (Lit.int .i64 0).wf=true;decide) (Nat.zero_le _) (Nat.zero_le _) hW) rfl (by kernel_rfl) ?_
 rintro SY _ _ jg ⟨V',fJ,rfl,rfl,ht⟩
 replace hle0:=hle0.trans jg
 refine gK 1 [(4,vI (c2.code))] [] ?_
 refine NN (af.ret ?_)
 exact aj.iQ (v:=.int .i64 (c2.code)) (l:=[wA G fs xs root S2 V' fJ]) (aZ:=[]) [] [0,1] hle0 (fun _=>by kernel_rfl) trivial rfl (by kernel_rfl) (⟨V',fJ,rfl,rfl,ht⟩)
end
section
open Go.RowKit Go.Maps
attribute [local irreducible] ak aR af aj
section rules
variable {P:Program} {β:Bs} {N:dF} {ops:Array Oper} {k:Nat} {fr:Fr} {hps:List HP} {Q:Post} {d:Option Tmp} {v:Value} {t xT asserted:TypeId} {x:Operand} {want:Array (String×TypeId)}
theorem ak.lacks (hop:∀ junk,fQ N junk ops fr k=some (.typeAssert x xT asserted true,d)) (hx:∀ junk,dH N fr junk x=.iface t v) (hu:P.underlying asserted=some (.interface want)) (h:(P.info? t).map (fun i=>(lacking want i.methods).isEmpty)=some false) (hz:(P.info? asserted).map (·.zero)=some (some .nilIface))
    (K:ak P β N ops (k+1) (dw fr d (.tuple #[.nilIface,.bool false])) hps Q):ak P β N ops k fr hps Q:=
  ak.jZ hop (fun o junk w ho hS=>⟨w,.inl (by
    obtain⟨dst,op,type,pos,after,guard⟩:=o
    cases ho
    simp only [execOp,hx]
    simp [run_typeAssert_lacksB hu h hz,Result.andThen]),hS⟩) K
end rules
def jt (β:Bs):Prop:=Rd β ⟨0,0,none⟩ (.iface 195 (.agg #[.pointer (some ⟨12,57,none⟩)]))
theorem jt.le {β β':Bs} (h:jt β) (hle:β.le β'):jt β':=Rd.le h hle
theorem KE {β:Bs} (a:Nat) (e t:Nat) (x:Value) :
    Spec Tryz.prog β 71 #[.iface 92 (vP e),.iface 119 (vP t),.agg #[.pointer (some ⟨12,119,none⟩),vP a,.int .u64 150],.iface 195 (.agg #[.pointer (some ⟨12,92,none⟩)])] [.blk a [vP t] 119,.blk t [x] 92] (fun v l=>v=.bool true/\l=[.blk t [vP e] 92]):=by
 refine Spec.enter Tryz.func71 rfl Tryz.ntmps71 (Nat.le_of_ble_eq_true rfl) (fun R=>?_)
 refine SR (gN 2 (fun b1=>[(6,vP b1)]) (fun _=>[]) (fun _=>[]) (fun b1=>.blk b1 [.pointer (some ⟨12,119,none⟩),vP a,.int .u64 150] 186) (fun b1=>?_))
 refine NN (af.block ?_)
 refine af.loop (ι:=Unit) (fun (u:Unit)=>True) (fun (u:Unit)=>0) (fun (u:Unit)=>[(0,.iface 92 (vP e)),(1,.iface 119 (vP t)),(3,.iface 195 (.agg #[.pointer (some ⟨12,92,none⟩)])),(6,vP b1)]) (fun (u:Unit)=>[.blk a [vP t] 119,.blk t [x] 92,.abs R,.blk b1 [.pointer (some ⟨12,119,none⟩),vP a,.int .u64 150] 186]) () (idx:=[0,1,3,6]) (pk:=[0,1,2,3]) (show True from trivial) (fun _=>by kernel_rfl) rfl (by kernel_rfl) ?_
 rintro u _
 show af _ _ _ _ [(0,.iface 92 (vP e)),(1,.iface 119 (vP t)),(3,.iface 195 (.agg #[.pointer (some ⟨12,92,none⟩)])),(6,vP b1)] [.blk a [vP t] 119,.blk t [x] 92,.abs R,.blk b1 [.pointer (some ⟨12,119,none⟩),vP a,.int .u64 150] 186] _
 refine af.block (af.seq (SR ?_))
 refine gK 4 [(19,.bool true)] [] ?_
 refine NN (CT (SR (gN 5 (fun _=>[]) (fun b2=>[(0,A_ 3 b1 3),(1,a_ 0 a),(4,p_ ⟨[.at 4,.at 1],none,none,none,none⟩ [t=t,b2=b2] ⟨rfl,rfl,trivial⟩)]) (fun b2=>[(1,[(0,vP e)])]) (fun b2=>.blk b2 [vP e] 92) (fun b2=>?_))))
 refine NS (gK 1 [(8,.bool true)] [] ?_)
 refine NN (af.ret (aj.aq (aj.aF (aj.aq (aj.aF ?_)))))
 exact RT (.bool true) [1,2] (⟨rfl,rfl⟩)
theorem ML {β:Bs} (hE:jt β) (e t:Nat) (x:Value) :
    Spec Tryz.prog β 41 #[.iface 92 (vP e),.iface 119 (vP t)] [.blk t [x] 92] (fun v l=>v=.bool true/\l=[.blk t [vP e] 92]):=by
 refine Spec.enter Tryz.func41 rfl Tryz.ntmps41 (Nat.le_of_ble_eq_true rfl) (fun R=>?_)
 refine SR (gK 1 [] [] ?_)
 refine NN (af.seq (SR (gK 2 [(9,.bool false)] [] ?_)))
 refine NN (CF (af.skip (NX (af.seq (SR (gK 2 [(11,.bool false)] [] ?_))))))
 refine NN (CF (af.skip (NX (SR (gN 2 (fun b3=>[(14,.agg #[.pointer (some ⟨12,119,none⟩),vP b3,.int .u64 150])]) (fun _=>[]) (fun _=>[]) (fun b3=>.blk b3 [vP t] 119) (fun b3=>?_))))))
 refine gN 2 (fun b4=>[(5,vP b4)]) (fun b4=>[(1,A_ 3 b4 3)]) (fun _=>[]) (fun b4=>.blk b4 [.pointer (some ⟨12,119,none⟩),vP b3,.int .u64 150] 186) (fun b4=>?_)
 refine NS (gK 3 [(6,.iface 195 (.agg #[.pointer (some ⟨12,119,none⟩)]))] [(0,A_ 3 b4 3)] ?_)
 refine NN (af.seq (SR (gK 7 [(23,.bool false)] [(4,A_ 3 b4 3),(5,a_ 2 b3)] ?_)))
 refine NN (CF (af.skip (NX (SR (gK 3 [(7,.iface 195 (.agg #[.pointer (some ⟨12,92,none⟩)]))] [] ?_)))))
 refine NN (af.seq (SR (gK 9 [(35,.bool false)] [(5,p_ ⟨[.old (.iface 195 (.agg #[.pointer (some ⟨12,57,none⟩)]))],none,none,none,none⟩ [(Rd β ⟨0,0,none⟩ (.iface 195 (.agg #[.pointer (some ⟨12,57,none⟩)])))] ⟨hE,trivial⟩)] ?_)))
 refine NN (CF (af.skip (NX (SR (gK 4 [(37,.iface 92 (vP e)),(38,.iface 119 (vP t)),(39,.agg #[.pointer (some ⟨12,119,none⟩),vP b3,.int .u64 150]),(40,.iface 195 (.agg #[.pointer (some ⟨12,92,none⟩)]))] [(2,A_ 3 b4 3)] ?_)))))
 refine gL [2,0] (KE b3 e t x) ?_
 rintro _ _ ⟨rfl,rfl⟩
 refine gK 1 [(4,.bool true)] [] ?_
 refine NN (af.ret ?_)
 exact RT (.bool true) [0,1] (⟨rfl,rfl⟩)
theorem Io {β:Bs} (a:Nat) (n:Int) (t:Nat) (x:Value) :
    Spec Tryz.prog β 71 #[.iface 40 (.int .i64 (n)),.iface 120 (vP t),.agg #[.pointer (some ⟨12,120,none⟩),vP a,.int .u64 150],.iface 195 (.agg #[.pointer (some ⟨12,40,none⟩)])] [.blk a [vP t] 120,.blk t [x] 40] (fun v l=>v=.bool true/\l=[.blk t [vI (n)] 40]):=by
 refine Spec.enter Tryz.func71 rfl Tryz.ntmps71 (Nat.le_of_ble_eq_true rfl) (fun R=>?_)
 refine SR (gN 2 (fun b5=>[(6,vP b5)]) (fun _=>[]) (fun _=>[]) (fun b5=>.blk b5 [.pointer (some ⟨12,120,none⟩),vP a,.int .u64 150] 186) (fun b5=>?_))
 refine NN (af.block ?_)
 refine af.loop (ι:=Unit) (fun (u:Unit)=>True) (fun (u:Unit)=>0) (fun (u:Unit)=>[(0,.iface 40 (.int .i64 (n))),(1,.iface 120 (vP t)),(3,.iface 195 (.agg #[.pointer (some ⟨12,40,none⟩)])),(6,vP b5)]) (fun (u:Unit)=>[.blk a [vP t] 120,.blk t [x] 40,.abs R,.blk b5 [.pointer (some ⟨12,120,none⟩),vP a,.int .u64 150] 186]) () (idx:=[0,1,3,6]) (pk:=[0,1,2,3]) (show True from trivial) (fun _=>by kernel_rfl) rfl (by kernel_rfl) ?_
 rintro u _
 show af _ _ _ _ [(0,.iface 40 (.int .i64 (n))),(1,.iface 120 (vP t)),(3,.iface 195 (.agg #[.pointer (some ⟨12,40,none⟩)])),(6,vP b5)] [.blk a [vP t] 120,.blk t [x] 40,.abs R,.blk b5 [.pointer (some ⟨12,120,none⟩),vP a,.int .u64 150] 186] _
 refine af.block (af.seq (SR ?_))
 refine gK 4 [(19,.bool true)] [] ?_
 refine NN (CT (SR (gN 5 (fun _=>[]) (fun b6=>[(0,A_ 3 b5 3),(1,a_ 0 a),(4,p_ ⟨[.at 4,.at 1],none,none,none,none⟩ [t=t,b6=b6] ⟨rfl,rfl,trivial⟩)]) (fun b6=>[(1,[(0,vI (n))])]) (fun b6=>.blk b6 [vI (n)] 40) (fun b6=>?_))))
 refine NS (gK 1 [(8,.bool true)] [] ?_)
 refine NN (af.ret (aj.aq (aj.aF (aj.aq (aj.aF ?_)))))
 exact RT (.bool true) [1,2] (⟨rfl,rfl⟩)
theorem KF {β:Bs} (hE:jt β) (n:Int) (t:Nat) (x:Value) :
    Spec Tryz.prog β 41 #[.iface 40 (.int .i64 (n)),.iface 120 (vP t)] [.blk t [x] 40] (fun v l=>v=.bool true/\l=[.blk t [vI (n)] 40]):=by
 refine Spec.enter Tryz.func41 rfl Tryz.ntmps41 (Nat.le_of_ble_eq_true rfl) (fun R=>?_)
 refine SR (gK 1 [] [] ?_)
 refine NN (af.seq (SR (gK 2 [(9,.bool false)] [] ?_)))
 refine NN (CF (af.skip (NX (af.seq (SR (gK 2 [(11,.bool false)] [] ?_))))))
 refine NN (CF (af.skip (NX (SR (gN 2 (fun b7=>[(14,.agg #[.pointer (some ⟨12,120,none⟩),vP b7,.int .u64 150])]) (fun _=>[]) (fun _=>[]) (fun b7=>.blk b7 [vP t] 120) (fun b7=>?_))))))
 refine gN 2 (fun b8=>[(5,vP b8)]) (fun b8=>[(1,A_ 3 b8 3)]) (fun _=>[]) (fun b8=>.blk b8 [.pointer (some ⟨12,120,none⟩),vP b7,.int .u64 150] 186) (fun b8=>?_)
 refine NS (gK 3 [(6,.iface 195 (.agg #[.pointer (some ⟨12,120,none⟩)]))] [(0,A_ 3 b8 3)] ?_)
 refine NN (af.seq (SR (gK 7 [(23,.bool false)] [(4,A_ 3 b8 3),(5,a_ 2 b7)] ?_)))
 refine NN (CF (af.skip (NX (SR (gK 3 [(7,.iface 195 (.agg #[.pointer (some ⟨12,40,none⟩)]))] [] ?_)))))
 refine NN (af.seq (SR (gK 9 [(35,.bool false)] [(5,p_ ⟨[.old (.iface 195 (.agg #[.pointer (some ⟨12,57,none⟩)]))],none,none,none,none⟩ [(Rd β ⟨0,0,none⟩ (.iface 195 (.agg #[.pointer (some ⟨12,57,none⟩)])))] ⟨hE,trivial⟩)] ?_)))
 refine NN (CF (af.skip (NX (SR (gK 4 [(37,.iface 40 (.int .i64 (n))),(38,.iface 120 (vP t)),(39,.agg #[.pointer (some ⟨12,120,none⟩),vP b7,.int .u64 150]),(40,.iface 195 (.agg #[.pointer (some ⟨12,40,none⟩)]))] [(2,A_ 3 b8 3)] ?_)))))
 refine gL [2,0] (Io b7 n t x) ?_
 rintro _ _ ⟨rfl,rfl⟩
 refine gK 1 [(4,.bool true)] [] ?_
 refine NN (af.ret ?_)
 exact RT (.bool true) [0,1] (⟨rfl,rfl⟩)
theorem KG {β:Bs} (a:Nat) (n:Int) (t:Nat) (x:Value) :
    Spec Tryz.prog β 71 #[.iface 40 (.int .i64 (n)),.iface 119 (vP t),.agg #[.pointer (some ⟨12,119,none⟩),vP a,.int .u64 150],.iface 195 (.agg #[.pointer (some ⟨12,92,none⟩)])] [.blk a [vP t] 119,.blk t [x] 92] (fun v l=>v=.bool false/\l=[.blk t [x] 92]):=by
 refine Spec.enter Tryz.func71 rfl Tryz.ntmps71 (Nat.le_of_ble_eq_true rfl) (fun R=>?_)
 refine SR (gN 2 (fun b9=>[(6,vP b9)]) (fun _=>[]) (fun _=>[]) (fun b9=>.blk b9 [.pointer (some ⟨12,119,none⟩),vP a,.int .u64 150] 186) (fun b9=>?_))
 refine NN (af.block ?_)
 refine af.loop (ι:=Unit) (fun (u:Unit)=>True) (fun (u:Unit)=>0) (fun (u:Unit)=>[(0,.iface 40 (.int .i64 (n))),(1,.iface 119 (vP t)),(3,.iface 195 (.agg #[.pointer (some ⟨12,92,none⟩)])),(6,vP b9)]) (fun (u:Unit)=>[.blk a [vP t] 119,.blk t [x] 92,.abs R,.blk b9 [.pointer (some ⟨12,119,none⟩),vP a,.int .u64 150] 186]) () (idx:=[0,1,3,6]) (pk:=[0,1,2,3]) (show True from trivial) (fun _=>by kernel_rfl) rfl (by kernel_rfl) ?_
 rintro u _
 show af _ _ _ _ [(0,.iface 40 (.int .i64 (n))),(1,.iface 119 (vP t)),(3,.iface 195 (.agg #[.pointer (some ⟨12,92,none⟩)])),(6,vP b9)] [.blk a [vP t] 119,.blk t [x] 92,.abs R,.blk b9 [.pointer (some ⟨12,119,none⟩),vP a,.int .u64 150] 186] _
 refine af.block (af.seq (SR ?_))
 refine gK 4 [(19,.bool false)] [] ?_
 refine NN (CF (af.skip (NX (af.seq (SR (gK 1 [(26,.iface 40 (.int .i64 (n)))] [] ?_))))))
 refine ak.lacks (x:=(.tmp 26)) (t:=40) (v:=.int .i64 (n)) (xT:=57) (d:=(some 27)) (fun _=>by kernel_rfl) (fun _=>by kernel_rfl) Tryz.underlying221 (by kernel_rfl) (by kernel_rfl) ?_
 refine gK 5 [(9,.nilIface),(10,.bool false)] [] ?_
 refine NS (gK 6 [(35,.bool false)] [] ?_)
 refine NN (CF (af.skip (NX (SR (gK 1 [(36,.iface 40 (.int .i64 (n)))] [] ?_)))))
 refine NN (af.block (SR ?_))
 refine ak.lacks (x:=(.tmp 36)) (t:=40) (v:=.int .i64 (n)) (xT:=57) (d:=(some 37)) (fun _=>by kernel_rfl) (fun _=>by kernel_rfl) Tryz.underlying200 (by kernel_rfl) (by kernel_rfl) ?_
 refine gK 2 [(38,.bool false),(39,.nilIface)] [] ?_
 refine NN (CF (SR (ak.lacks (x:=(.tmp 36)) (t:=40) (v:=.int .i64 (n)) (xT:=57) (d:=(some 44)) (fun _=>by kernel_rfl) (fun _=>by kernel_rfl) Tryz.underlying202 (by kernel_rfl) (by kernel_rfl) ?_)))
 refine gK 2 [(45,.bool false),(46,.nilIface)] [] ?_
 refine NN (CF (SR (gK 1 [] [] ?_)))
 refine NS (gK 1 [(8,.bool false)] [] ?_)
 refine NN (af.ret (aj.aF (aj.aF (aj.aq (aj.aF ?_)))))
 exact RT (.bool false) [1,2] (⟨rfl,rfl⟩)
theorem MN {β:Bs} (hE:jt β) (n:Int) (t:Nat) (x:Value) :
    Spec Tryz.prog β 41 #[.iface 40 (.int .i64 (n)),.iface 119 (vP t)] [.blk t [x] 92] (fun v l=>v=.bool false/\l=[.blk t [x] 92]):=by
 refine Spec.enter Tryz.func41 rfl Tryz.ntmps41 (Nat.le_of_ble_eq_true rfl) (fun R=>?_)
 refine SR (gK 1 [] [] ?_)
 refine NN (af.seq (SR (gK 2 [(9,.bool false)] [] ?_)))
 refine NN (CF (af.skip (NX (af.seq (SR (gK 2 [(11,.bool false)] [] ?_))))))
 refine NN (CF (af.skip (NX (SR (gN 2 (fun b10=>[(14,.agg #[.pointer (some ⟨12,119,none⟩),vP b10,.int .u64 150])]) (fun _=>[]) (fun _=>[]) (fun b10=>.blk b10 [vP t] 119) (fun b10=>?_))))))
 refine gN 2 (fun b11=>[(5,vP b11)]) (fun b11=>[(1,A_ 3 b11 3)]) (fun _=>[]) (fun b11=>.blk b11 [.pointer (some ⟨12,119,none⟩),vP b10,.int .u64 150] 186) (fun b11=>?_)
 refine NS (gK 3 [(6,.iface 195 (.agg #[.pointer (some ⟨12,119,none⟩)]))] [(0,A_ 3 b11 3)] ?_)
 refine NN (af.seq (SR (gK 7 [(23,.bool false)] [(4,A_ 3 b11 3),(5,a_ 2 b10)] ?_)))
 refine NN (CF (af.skip (NX (SR (gK 3 [(7,.iface 195 (.agg #[.pointer (some ⟨12,92,none⟩)]))] [] ?_)))))
 refine NN (af.seq (SR (gK 9 [(35,.bool false)] [(5,p_ ⟨[.old (.iface 195 (.agg #[.pointer (some ⟨12,57,none⟩)]))],none,none,none,none⟩ [(Rd β ⟨0,0,none⟩ (.iface 195 (.agg #[.pointer (some ⟨12,57,none⟩)])))] ⟨hE,trivial⟩)] ?_)))
 refine NN (CF (af.skip (NX (SR (gK 4 [(37,.iface 40 (.int .i64 (n))),(38,.iface 119 (vP t)),(39,.agg #[.pointer (some ⟨12,119,none⟩),vP b10,.int .u64 150]),(40,.iface 195 (.agg #[.pointer (some ⟨12,92,none⟩)]))] [(2,A_ 3 b11 3)] ?_)))))
 refine gL [2,0] (KG b10 n t x) ?_
 rintro _ _ ⟨rfl,rfl⟩
 refine gK 1 [(4,.bool false)] [] ?_
 refine NN (af.ret ?_)
 exact RT (.bool false) [0,1] (⟨rfl,rfl⟩)
theorem DQ {β:Bs} (hE:jt β) (n:Int) :
    Spec Tryz.prog β 21 #[.iface 40 (.int .i64 (n))] [] (fun v l=>v=.tuple #[vI n,vI 0]/\l=[]):=by
 refine Spec.enter Tryz.func21 rfl Tryz.ntmps21 (Nat.le_of_ble_eq_true rfl) (fun R=>?_)
 refine SR (gK 2 [] [] ?_)
 refine NN (af.seq (SR (gK 2 [(7,.bool false)] [] ?_)))
 refine NN (CF (af.skip (NX (SR (gN 1 (fun b12=>[(4,vP b12)]) (fun _=>[]) (fun _=>[]) (fun b12=>.blk b12 [.pointer none] 92) (fun b12=>?_))))))
 refine NN (af.seq (SR (gK 2 [(8,.iface 40 (.int .i64 (n))),(9,.iface 119 (vP b12))] [] ?_)))
 refine gL [1] (MN hE n b12 (.pointer none)) ?_
 rintro _ _ ⟨rfl,rfl⟩
 refine NN (CF (af.skip (NX (SR (gN 1 (fun b13=>[(5,vP b13)]) (fun _=>[]) (fun _=>[]) (fun b13=>.blk b13 [vI 0] 40) (fun b13=>?_))))))
 refine NN (af.seq (SR (gK 2 [(19,.iface 40 (.int .i64 (n))),(20,.iface 120 (vP b13))] [] ?_)))
 refine gL [2] (KF hE n b13 (.int .i64 0)) ?_
 rintro _ _ ⟨rfl,rfl⟩
 refine NN (CT (SR (gK 3 [(2,vI (n)),(3,vI 0)] [(0,a_ 0 b13)] ?_)))
 refine NN (af.ret (aj.aq ?_))
 exact RT (.tuple #[vI (n),vI 0]) [2] (⟨rfl,rfl⟩)
theorem EO {β:Bs} (hE:jt β) (e:Nat) (at_:Int) (nm:ByteArray) (n:Int) :
    Spec Tryz.prog β 21 #[.iface 92 (vP e)] [.blk e [vI (at_),.string nm,vI (n)] 94] (fun v l=>v=.tuple #[vI n,vI at_]/\l=[.blk e [vI (at_),.string nm,vI (n)] 94]):=by
 refine Spec.enter Tryz.func21 rfl Tryz.ntmps21 (Nat.le_of_ble_eq_true rfl) (fun R=>?_)
 refine SR (gK 2 [] [] ?_)
 refine NN (af.seq (SR (gK 2 [(7,.bool false)] [] ?_)))
 refine NN (CF (af.skip (NX (SR (gN 1 (fun b14=>[(4,vP b14)]) (fun _=>[]) (fun _=>[]) (fun b14=>.blk b14 [.pointer none] 92) (fun b14=>?_))))))
 refine NN (af.seq (SR (gK 2 [(8,.iface 92 (vP e)),(9,.iface 119 (vP b14))] [] ?_)))
 refine gL [2] (ML hE e b14 (.pointer none)) ?_
 rintro _ _ ⟨rfl,rfl⟩
 refine NN (CT (af.seq (af.bI (by kernel_rfl) (by kernel_rfl) ?_)))
 refine gQ 10 [(2,vI (n)),(3,vI (at_))] [(0,a_ 0 b14),(3,a_ 1 e),(4,a_ 0 b14),(7,a_ 1 e)] ?_
 refine NQ (NX (af.ret (aj.aq ?_)))
 exact RT (.tuple #[vI (n),vI (at_)]) [1,2] (⟨rfl,rfl⟩)
theorem SZ {β:Bs} (n k:Int) :
    Spec Tryz.prog β 47 #[.iface 40 (.int .i64 (n)),.iface 40 (.int .i64 (k)),.bool true] [] (fun v l=>v=.bool (decide (n=k))/\l=[]):=by
 refine Spec.enter Tryz.func47 rfl Tryz.ntmps47 (Nat.le_of_ble_eq_true rfl) (fun R=>?_)
 refine SR (gK 1 [] [] ?_)
 refine NN (af.block ?_)
 refine af.loop (ι:=Unit) (fun (u:Unit)=>True) (fun (u:Unit)=>0) (fun (u:Unit)=>[(0,.iface 40 (.int .i64 (n))),(1,.iface 40 (.int .i64 (k))),(2,.bool true)]) (fun (u:Unit)=>[.abs R]) () (idx:=[0,1,2]) (pk:=[0]) (show True from trivial) (fun _=>by kernel_rfl) rfl (by kernel_rfl) ?_
 rintro u _
 show af _ _ _ _ [(0,.iface 40 (.int .i64 (n))),(1,.iface 40 (.int .i64 (k))),(2,.bool true)] [.abs R] _
 refine af.block (af.seq (SR ?_))
 refine gK 6 [(19,.bool (decide ((n:Int)=(k:Int))))] [] ?_
 refine NN (af.bh (p:=(n:Int)=(k:Int)) (fun _=>by kernel_rfl) (fun Rl=>?_) (fun Rl=>?_))
 ·refine SR (gK 1 [(6,.bool true)] [] ?_)
  refine NN (af.ret (aj.aq (aj.aF (aj.aq (aj.aF ?_)))))
  exact RT (.bool true) [0] (⟨congrArg Value.bool (by simp_all),rfl⟩)
 refine af.skip (NX (af.seq (SR (gK 1 [(21,.iface 40 (.int .i64 (n)))] [] ?_))))
 refine ak.lacks (x:=(.tmp 21)) (t:=40) (v:=.int .i64 (n)) (xT:=57) (d:=(some 22)) (fun _=>by kernel_rfl) (fun _=>by kernel_rfl) Tryz.underlying197 (by kernel_rfl) (by kernel_rfl) ?_
 refine gK 5 [(7,.nilIface),(8,.bool false)] [] ?_
 refine NS (gK 6 [(30,.bool false)] [] ?_)
 refine NN (CF (af.skip (NX (SR (gK 1 [(31,.iface 40 (.int .i64 (n)))] [] ?_)))))
 refine NN (af.block (SR ?_))
 refine ak.lacks (x:=(.tmp 31)) (t:=40) (v:=.int .i64 (n)) (xT:=57) (d:=(some 32)) (fun _=>by kernel_rfl) (fun _=>by kernel_rfl) Tryz.underlying200 (by kernel_rfl) (by kernel_rfl) ?_
 refine gK 2 [(33,.bool false),(34,.nilIface)] [] ?_
 refine NN (CF (SR (ak.lacks (x:=(.tmp 31)) (t:=40) (v:=.int .i64 (n)) (xT:=57) (d:=(some 39)) (fun _=>by kernel_rfl) (fun _=>by kernel_rfl) Tryz.underlying202 (by kernel_rfl) (by kernel_rfl) ?_)))
 refine gK 2 [(40,.bool false),(41,.nilIface)] [] ?_
 refine NN (CF (SR (gK 1 [] [] ?_)))
 refine NS (gK 1 [(6,.bool false)] [] ?_)
 refine NN (af.ret (aj.aF (aj.aF (aj.aq (aj.aF ?_)))))
 exact RT (.bool false) [0] (⟨congrArg Value.bool (by simp_all),rfl⟩)
theorem Uf {β:Bs} (n k:Int) :
    Spec Tryz.prog β 24 #[.iface 40 (.int .i64 (n)),.iface 40 (.int .i64 (k))] [] (fun v l=>v=.bool (decide (n=k))/\l=[]):=by
 refine Spec.enter Tryz.func24 rfl Tryz.ntmps24 (Nat.le_of_ble_eq_true rfl) (fun R=>?_)
 refine SR (gK 1 [] [] ?_)
 refine NN (af.seq (SR (gK 6 [(11,.bool false)] [] ?_)))
 refine NN (CF (af.skip (NX (SR (gK 4 [(5,.bool true)] [] ?_)))))
 refine NS (gK 3 [(18,.iface 40 (.int .i64 (n))),(19,.iface 40 (.int .i64 (k))),(20,.bool true)] [] ?_)
 refine gL [] (SZ n k) ?_
 rintro _ _ ⟨rfl,rfl⟩
 refine gK 1 [(4,.bool (decide (n=k)))] [] ?_
 refine NN (af.ret ?_)
 exact RT (.bool (decide (n=k))) [0] (⟨rfl,rfl⟩)
end
section
open Go.RowKit
def DR (P:Program) (β:Bs) (N:dF) (junk:Nat->Value) (ops:Array Oper) (fr:Fr) (k:Nat):Option (Deferred×Option Tmp):=
  match ops.toList[k]? with
  | some o=>
    match Region.wanted o (yF ops N fr junk) with
    | true=>
      match ct P β 0 true (execOp (dH N fr junk) o) ⟨[],[],[],true⟩ with
      | some (.defer d,_)=>some (d,o.dst)
      | _=>none
    | false=>none
  | none=>none
def p4 (P:Program) (β:Bs) (f:FuncId) (args:Array Value) (pre:List HP) (post:Bs->Value->List HP->Prop):Prop:=
  ∀ (R:bY) (w:World),Sat β (pre++[.abs R]) w->CallsD P f args .returning w fun e u w'=>u=.returning/\rY β R post e w'
section df
variable {P:Program} {β:Bs} {N:dF} {ops:Array Oper} {k n0:Nat} {fr:Fr} {hps R pre rest:List HP} {Q:Post} {f:FuncId} {args:Array Value} {d:Deferred} {x:Option Tmp} {fn:Func} {c:Code} {post:Bs->Value->List HP->Prop} {w:World}
theorem Hf {junk:Nat->Value} (h:DR P β N junk ops fr k=some (d,x)):∃ o,ops.toList[k]?=some o/\Region.wanted o (yF ops N fr junk)=true/\o.dst=x ∧
    ∀ w,Sat β [] w->(execOp (dH N fr junk) o).run P w=.ok (.defer d) w:=by
  unfold DR at h
  repeat' split at h
  all_goals first|(cases h;done)|skip
  rename_i o h1 _ h2 _ d' S' h3
  cases h
  refine⟨o,h1,h2,rfl,fun w hS=>?_⟩
  have QS:=DU _ _ _ _ h3 rfl
  obtain⟨w',h4,_,_,h5⟩:=pq _ _ _ _ w h3 (fun p hp=>by rw [QS] at hp;cases hp) hS (fun e=>by cases e)
  rw [h4,(h5 rfl).1]
theorem ak.defer (d:Deferred) (hc:∀ junk,DR P β N junk ops fr k=some (d,x)) (K:ak P β ⟨N.n,d::N.ds⟩ ops (k+1) (dw fr x undef) hps Q):ak P β N ops k fr hps Q:=by
  intro junk w hS
  obtain⟨o,h1,h2,rfl,h3⟩:=Hf (hc junk)
  rw [drop_cons h1]
  unfold wpList
  rw [dJ,if_pos h2]
  refine .inl ?_
  unfold Oper.wp
  rw [dY,h3 w hS.nil,Oper.upon_defer]
  have e:({ bQ N fr junk with defers:=d::(bQ N fr junk).defers }:Act)=bQ ⟨N.n,d::N.ds⟩ fr junk:=rfl
  rw [e,dI]
  exact K junk w hS
theorem p4.enter (hf:P.funcs[f]?=some fn) (hb:fn.body=some c) (hN:fn.ntmps=n0) (hl:args.toList.length<=n0) (h:β.le β->∀ R:bY,af P β ⟨n0,[]⟩ c (wk 0 args.toList) (pre++[.abs R]) (bodyPost P fn (rY β R post))):p4 P β f args pre post:=by
  intro R w hS
  refine (callsD_of_wp (R:=rY β R post) hf hb ?_)
  rw [hN,tT hl]
  exact h hS.1.CZ R _ w hS
theorem bD.S5 (hf:P.funcs[f]?=some fn) (hb:fn.body=some c) (hN:fn.ntmps=n0) (hl:args.toList.length<=n0) (h:β.le β->∀ R:bY,af P β ⟨n0,[]⟩ c (wk 0 args.toList) (pre++[.abs R]) (bodyPostD P fn (rY β R post))):bD P β f args pre post:=by
  intro R w hS
  refine calls_of_wp_defers hf hb ?_
  rw [hN,tT hl]
  exact h hS.1.CZ R _ w hS
theorem p4.use (h:p4 P β f args pre post) (hS:Sat β (pre++rest) w):CallsD P f args .returning w fun e u w'=>u=.returning/\∃ β' v l,β.le β'/\e=.returned v/\post β' v l/\Sat β' (l++rest) w':=
  (h _ w hS.fq).mono fun _ _ _ ⟨h0,β',v,l,h1,h2,h3,h4⟩=>⟨h0,β',v,l,h1,h2,h3,h4.pu⟩
theorem KH {R:Ending->World->Prop} {junk:Nat->Value} (h:bodyPost P fn R .ret (bQ ⟨n0,[]⟩ fr junk) w):Leaves P fn (bQ ⟨n0,[]⟩ fr junk).tmps R [] .returning w:=h.2
theorem aj.door {qY:Bs} {fv:Fn} {cap dargs:Array Value} {A:bY} {Vh:Bs->Value->List HP->Prop} (pk:List Nat) (hi:∀ w,(invoke (.fn fv cap) dargs).run P w=.ok (.enter f args) w) (hs:p4 P β f args pre post) (hn:nodupB pk=true) (hp:bT hps pk=some (pre++rest))
    (K:∀ β' v l,β.le β'->post β' v l->aj β' ⟨n0,[]⟩ (bodyPost P fn (rY qY A Vh)) .ret fr (l++rest)):aj β ⟨n0,[⟨.fn fv cap,dargs⟩]⟩ (bodyPostD P fn (rY qY A Vh)) .ret fr hps:=by
  intro junk w hS
  refine leaves_cons (by intro e;cases e) (hi w) ?_
  refine (hs.use (hS.pick hn hp)).mono ?_
  rintro e u w' ⟨rfl,β',v,l,hle,rfl,hpost,cT⟩
  exact KH (K β' v l hle hpost junk w' cT)
end df
end
section
open Go.RowKit Go.Maps bF aB
attribute [local irreducible] ak aR af aj
theorem QM {β:Bs} {G:WG} {fs:List bq} {xs:List bP} {root:Int} {S:aG} {V:WV} {tr:List ax} (hrw:(Lit.int .i64 root).wf=true) (hI:Inv S) (hn:tr.length<=8388604) (hZ:fL β G.Z xs) (hX:eG xs 1048576) (hg:dV β) (cur:Int) (hw:(Lit.int .i64 cur).wf=true) (part:ByteArray) (hnm:part.size<=1048576) (mode:Int) {r:Ko} (hr:dh fs xs root S tr.length cur part mode=r) :
    bD Tryz.prog β 31 #[.agg #[.iface 39 (vP G.w)],vI (cur),.string part,vI (mode)] [wA G fs xs root S V tr] (fun _ v l=>∃ (V':WV) (fJ:List ax),fJ.length=r.n/\((r.code=0/\v=.tuple #[vI r.next,.bool r.made,.nilIface])\/(r.code≠0/\v=.tuple #[vI 0,.bool r.made,.iface 40 (.int .i64 r.code)]))/\l=[wA G fs xs root r.S V' fJ]):=by
 refine bD.enter Tryz.func31 rfl Tryz.ntmps31 (Nat.le_of_ble_eq_true rfl) (fun hle0 R=>?_)
 refine SR (gN 4 (fun b1=>[(4,vP b1)]) (fun _=>[]) (fun _=>[]) (fun b1=>.blk b1 [.iface 39 (vP G.w)] 48) (fun b1=>?_))
 refine NS (gK 3 [(13,.agg #[.iface 39 (vP G.w)]),(14,vI (cur)),(15,.string part)] [(0,a_ 2 b1)] ?_)
 obtain⟨S1,c1,e1⟩:∃ Sx cx,aV fs xs root (tr.length+1) S (gF cur part)=(Sx,cx):=⟨_,_,rfl⟩
 refine ak.fX (d:=(some 16)) (R:=[.abs R,.blk b1 [.iface 39 (vP G.w)] 48]) (pk:=[0,1,2]) (fun _=>by kernel_rfl) (uY (β:=β) (G:=G) (V:=V) (tr:=tr) (S2:=S1) (c2:=c1) hrw hI (by omega) hZ hX hg cur hw part hnm e1) rfl (by kernel_rfl) ?_
 rintro D6 _ _ jY ⟨V1,vU,rfl,rfl,ht1⟩
 replace hZ:=hZ.le jY
 replace hg:=hg.le jY
 replace hle0:=hle0.trans jY
 have bZ:Inv S1:=by have h:=Inv.aV (fs:=fs) (xs:=xs) (root:=root) (n:=tr.length+1) (c:=gF cur part) hI;rw [e1] at h;exact h
 refine gK 5 [(8,vI (c1.answer)),(11,vI (c1.code))] [] ?_
 refine NN (af.seq (SR (gK 2 [(20,.bool (decide ((c1.code:Int)=(0:Int))))] [] ?_)))
 refine NN (af.bh (p:=(c1.code:Int)=(0:Int)) (fun _=>by kernel_rfl) (fun j9=>?_) (fun j9=>?_))
 ·refine SR (gK 4 [(8,vI (c1.answer)),(9,.bool false),(10,.nilIface)] [] ?_)
  refine NN (af.ret (aj.aq ?_))
  exact aj.iQ (v:=.tuple #[vI (c1.answer),.bool false,.nilIface]) (l:=[wA G fs xs root S1 V1 vU]) (aZ:=[]) [] [0,1] hle0 (fun _=>by kernel_rfl) trivial rfl (by kernel_rfl) (by subst hr;rw [Bo e1 j9];exact⟨V1,vU,ht1,.inl ⟨rfl,rfl⟩,rfl⟩)
 refine af.skip (NX (SR (gK 3 [(10,.iface 40 (.int .i64 (c1.code)))] [] ?_)))
 refine NN (af.seq (SR (gK 2 [(24,.iface 40 (.int .i64 (c1.code))),(25,.iface 40 (.int .i64 170))] [] ?_)))
 refine gL [] (Uf c1.code 170) ?_
 rintro _ _ ⟨rfl,rfl⟩
 refine gK 2 [(28,.bool (!(decide (c1.code=170))))] [] ?_
 refine ak.kX 28 (c1.code=170) (fun _=>by kernel_rfl) (fun Jc=>?_) (fun Jc=>?_)
 ·refine gK 3 [(31,.bool true)] [] ?_
  refine NN (CT (SR (gK 4 [(8,vI 0),(9,.bool false),(10,.iface 40 (.int .i64 (c1.code)))] [] ?_)))
  refine NN (af.ret (aj.aq ?_))
  exact aj.iQ (v:=.tuple #[vI 0,.bool false,.iface 40 (.int .i64 (c1.code))]) (l:=[wA G fs xs root S1 V1 vU]) (aZ:=[]) [] [0,1] hle0 (fun _=>by kernel_rfl) trivial rfl (by kernel_rfl) (by subst hr;rw [uD e1 j9 (.inl Jc)];exact⟨V1,vU,ht1,.inr ⟨j9,rfl⟩,rfl⟩)
 refine gK 3 [(31,.bool (decide ((mode:Int) < (0:Int))))] [] ?_
 refine NN (af.bh (p:=(mode:Int) < (0:Int)) (fun _=>by kernel_rfl) (fun Vi=>?_) (fun Vi=>?_))
 ·refine SR (gK 4 [(8,vI 0),(9,.bool false),(10,.iface 40 (.int .i64 (c1.code)))] [] ?_)
  refine NN (af.ret (aj.aq ?_))
  exact aj.iQ (v:=.tuple #[vI 0,.bool false,.iface 40 (.int .i64 (c1.code))]) (l:=[wA G fs xs root S1 V1 vU]) (aZ:=[]) [] [0,1] hle0 (fun _=>by kernel_rfl) trivial rfl (by kernel_rfl) (by subst hr;rw [uD e1 j9 (.inr Vi)];exact⟨V1,vU,ht1,.inr ⟨j9,rfl⟩,rfl⟩)
 refine af.skip (NX (SR (gK 4 [(33,.agg #[.iface 39 (vP G.w)]),(34,vI (cur)),(35,.string part),(36,vI (mode))] [(0,a_ 2 b1)] ?_)))
 obtain⟨S2,c2,e2⟩:∃ Sx cx,aV fs xs root (tr.length+2) S1 (yT cur part mode)=(Sx,cx):=⟨_,_,rfl⟩
 refine ak.fX (d:=(some 37)) (R:=[.abs R,.blk b1 [.iface 39 (vP G.w)] 48]) (pk:=[0,1,2]) (fun _=>by kernel_rfl) (MK (β:=D6) (G:=G) (V:=V1) (tr:=vU) (S2:=S2) (c2:=c2) hrw bZ (by omega) hZ hX hg cur hw part hnm mode (by rw [ht1];exact e2)) rfl (by kernel_rfl) ?_
 rintro EC _ _ iI ⟨V2,CR,rfl,rfl,ht2⟩
 replace hZ:=hZ.le iI
 replace hg:=hg.le iI
 replace hle0:=hle0.trans iI
 rw [ht1] at ht2
 have vS:Inv S2:=by have h:=Inv.aV (fs:=fs) (xs:=xs) (root:=root) (n:=tr.length+2) (c:=yT cur part mode) bZ;rw [e2] at h;exact h
 refine gK 1 [(11,vI (c2.code))] [] ?_
 refine NS (gK 3 [(9,.bool (decide ((c2.code:Int)=(0:Int))))] [] ?_)
 refine NN (af.seq (SR (gK 3 [(42,.bool (!(decide ((c2.code:Int)=(0:Int)))))] [] ?_)))
 refine ak.kX 42 ((c2.code:Int)=(0:Int)) (fun _=>by kernel_rfl) (fun rT=>?_) (fun rT=>?_)
 ·refine gK 3 [(45,.bool (!(decide ((c2.code:Int)=(171:Int)))))] [] ?_
  refine NN (af.dx (p:=(c2.code:Int)=(171:Int)) (fun _=>by kernel_rfl) (fun W6=>?_) (fun W6=>?_))
  ·refine SR (gK 5 [(8,vI 0),(9,.bool false),(10,.iface 40 (.int .i64 (c2.code)))] [] ?_)
   refine NN (af.ret (aj.aq ?_))
   exact aj.iQ (v:=.tuple #[vI 0,.bool false,.iface 40 (.int .i64 (c2.code))]) (l:=[wA G fs xs root S2 V2 CR]) (aZ:=[]) [] [0,1] hle0 (fun _=>by kernel_rfl) trivial rfl (by kernel_rfl) (by subst hr;rw [Et e1 j9 (by omega) e2 (by omega)];exact⟨V2,CR,ht2,.inr ⟨by omega,rfl⟩,rfl⟩)
  refine af.skip (NX (af.seq (SR (gK 3 [(49,.agg #[.iface 39 (vP G.w)]),(50,vI (cur)),(51,.string part)] [(0,a_ 2 b1)] ?_))))
  obtain⟨S3,c3,e3⟩:∃ Sx cx,aV fs xs root (tr.length+3) S2 (gF cur part)=(Sx,cx):=⟨_,_,rfl⟩
  refine ak.fX (d:=(some 52)) (R:=[.abs R,.blk b1 [.iface 39 (vP G.w)] 48]) (pk:=[0,1,2]) (fun _=>by kernel_rfl) (uY (β:=EC) (G:=G) (V:=V2) (tr:=CR) (S2:=S3) (c2:=c3) hrw vS (by omega) hZ hX hg cur hw part hnm (by rw [ht2];exact e3)) rfl (by kernel_rfl) ?_
  rintro P4 _ _ lJ ⟨V3,tM,rfl,rfl,Hg⟩
  replace hZ:=hZ.le lJ
  replace hg:=hg.le lJ
  replace hle0:=hle0.trans lJ
  rw [ht2] at Hg
  have W7:Inv S3:=by have h:=Inv.aV (fs:=fs) (xs:=xs) (root:=root) (n:=tr.length+3) (c:=gF cur part) vS;rw [e3] at h;exact h
  refine gK 5 [(8,vI (c3.answer)),(11,vI (c3.code))] [] ?_
  refine NS (gK 2 [(56,.bool (!(decide ((c3.code:Int)=(0:Int)))))] [] ?_)
  refine NN (af.dx (p:=(c3.code:Int)=(0:Int)) (fun _=>by kernel_rfl) (fun vV=>?_) (fun vV=>?_))
  ·refine SR (gK 6 [(8,vI 0),(9,.bool (decide ((c2.code:Int)=(0:Int)))),(10,.iface 40 (.int .i64 (c3.code)))] [] ?_)
   refine NN (af.ret (aj.aq ?_))
   exact aj.iQ (v:=.tuple #[vI 0,.bool (decide ((c2.code:Int)=(0:Int))),.iface 40 (.int .i64 (c3.code))]) (l:=[wA G fs xs root S3 V3 tM]) (aZ:=[]) [] [0,1] hle0 (fun _=>by kernel_rfl) trivial rfl (by kernel_rfl) (by subst hr;rw [yV e1 j9 (by omega) e2 (by omega) e3 vV];exact⟨V3,tM,Hg,.inr ⟨vV,rfl⟩,rfl⟩)
  refine af.skip (NX (SR (gK 5 [(8,vI (c3.answer)),(9,.bool (decide ((c2.code:Int)=(0:Int)))),(10,.nilIface)] [] ?_)))
  refine NN (af.ret ?_)
  exact aj.iQ (v:=.tuple #[vI (c3.answer),.bool (decide ((c2.code:Int)=(0:Int))),.nilIface]) (l:=[wA G fs xs root S3 V3 tM]) (aZ:=[]) [] [0,1] hle0 (fun _=>by kernel_rfl) trivial rfl (by kernel_rfl) (by subst hr;rw [wX e1 j9 (by omega) e2 (by omega) e3 vV];exact⟨V3,tM,Hg,.inl ⟨rfl,rfl⟩,rfl⟩)
 refine gK 3 [(45,.bool false)] [] ?_
 refine NN (CF (af.skip (NX (af.seq (SR (gK 3 [(49,.agg #[.iface 39 (vP G.w)]),(50,vI (cur)),(51,.string part)] [(0,a_ 2 b1)] ?_))))))
 obtain⟨S3,c3,e3⟩:∃ Sx cx,aV fs xs root (tr.length+3) S2 (gF cur part)=(Sx,cx):=⟨_,_,rfl⟩
 refine ak.fX (d:=(some 52)) (R:=[.abs R,.blk b1 [.iface 39 (vP G.w)] 48]) (pk:=[0,1,2]) (fun _=>by kernel_rfl) (uY (β:=EC) (G:=G) (V:=V2) (tr:=CR) (S2:=S3) (c2:=c3) hrw vS (by omega) hZ hX hg cur hw part hnm (by rw [ht2];exact e3)) rfl (by kernel_rfl) ?_
 rintro gV _ _ eY ⟨V3,tM,rfl,rfl,Hg⟩
 replace hZ:=hZ.le eY
 replace hg:=hg.le eY
 replace hle0:=hle0.trans eY
 rw [ht2] at Hg
 have W7:Inv S3:=by have h:=Inv.aV (fs:=fs) (xs:=xs) (root:=root) (n:=tr.length+3) (c:=gF cur part) vS;rw [e3] at h;exact h
 refine gK 5 [(8,vI (c3.answer)),(11,vI (c3.code))] [] ?_
 refine NS (gK 2 [(56,.bool (!(decide ((c3.code:Int)=(0:Int)))))] [] ?_)
 refine NN (af.dx (p:=(c3.code:Int)=(0:Int)) (fun _=>by kernel_rfl) (fun vV=>?_) (fun vV=>?_))
 ·refine SR (gK 6 [(8,vI 0),(9,.bool (decide ((c2.code:Int)=(0:Int)))),(10,.iface 40 (.int .i64 (c3.code)))] [] ?_)
  refine NN (af.ret (aj.aq ?_))
  exact aj.iQ (v:=.tuple #[vI 0,.bool (decide ((c2.code:Int)=(0:Int))),.iface 40 (.int .i64 (c3.code))]) (l:=[wA G fs xs root S3 V3 tM]) (aZ:=[]) [] [0,1] hle0 (fun _=>by kernel_rfl) trivial rfl (by kernel_rfl) (by subst hr;rw [yV e1 j9 (by omega) e2 (by omega) e3 vV];exact⟨V3,tM,Hg,.inr ⟨vV,rfl⟩,rfl⟩)
 refine af.skip (NX (SR (gK 5 [(8,vI (c3.answer)),(9,.bool (decide ((c2.code:Int)=(0:Int)))),(10,.nilIface)] [] ?_)))
 refine NN (af.ret ?_)
 exact aj.iQ (v:=.tuple #[vI (c3.answer),.bool (decide ((c2.code:Int)=(0:Int))),.nilIface]) (l:=[wA G fs xs root S3 V3 tM]) (aZ:=[]) [] [0,1] hle0 (fun _=>by kernel_rfl) trivial rfl (by kernel_rfl) (by subst hr;rw [wX e1 j9 (by omega) e2 (by omega) e3 vV];exact⟨V3,tM,Hg,.inl ⟨rfl,rfl⟩,rfl⟩)
theorem S6 {β:Bs} (be bm bf bo bc bu:Nat) :
    p4 Tryz.prog β 29 #[vP be,vP bm,vP bf,vP bo,vP bc,vP bu] [.blk be [.nilIface] 57] (fun _ v l=>v=.tuple #[]/\l=[.blk be [.nilIface] 57]):=by
 refine p4.enter Tryz.func29 rfl Tryz.ntmps29 (Nat.le_of_ble_eq_true rfl) (fun hle0 R=>?_)
 refine SR (gK 2 [(7,.bool false)] [(0,a_ 0 be)] ?_)
 refine NN (CF (af.skip ?_))
 exact aj.MZ (v:=.tuple #[]) (l:=[.blk be [.nilIface] 57]) (aZ:=[]) [] [0,1] hle0 (fun _=>by kernel_rfl) trivial rfl (by kernel_rfl) (⟨rfl,rfl⟩)
theorem S7 {β:Bs} (be bm bf bo bc bu:Nat) (e:Nat) (made:Int) (x1 x2 x3:Value) :
    p4 Tryz.prog β 29 #[vP be,vP bm,vP bf,vP bo,vP bc,vP bu] [.blk be [.iface 92 (vP e)] 57,.blk bm [vI (made)] 3,.blk bf [x1,x2,x3] 55,.blk bo [.bool false] 4] (fun _ v l=>v=.tuple #[]/\l=[.blk be [.iface 92 (vP e)] 57,.blk bf [vI 0,.bool false,vI (made)] 55]):=by
 refine p4.enter Tryz.func29 rfl Tryz.ntmps29 (Nat.le_of_ble_eq_true rfl) (fun hle0 R=>?_)
 refine SR (gK 2 [(7,.bool true)] [(0,a_ 0 be)] ?_)
 refine NN (CT (SR (gC 3 [] [(0,a_ 1 bm),(2,A_ 2 bf 3)] [(2,[(0,vI 0),(1,.bool false),(2,vI (made))])] ?_)))
 refine NS (gK 1 [(10,.bool false)] [(0,a_ 3 bo)] ?_)
 refine NN (CF (af.skip ?_))
 exact aj.MZ (v:=.tuple #[]) (l:=[.blk be [.iface 92 (vP e)] 57,.blk bf [vI 0,.bool false,vI (made)] 55]) (aZ:=[]) [] [0,2,4] hle0 (fun _=>by kernel_rfl) trivial rfl (by kernel_rfl) (⟨rfl,rfl⟩)
theorem MO {β:Bs} {G:WG} {fs:List bq} {xs:List bP} {root:Int} {S:aG} {V:WV} {tr:List ax} (hrw:(Lit.int .i64 root).wf=true) (hI:Inv S) (hn:tr.length<=8388607) (hZ:fL β G.Z xs) (hX:eG xs 1048576) (hg:dV β) (be bm bf bo bc bu:Nat) (e:Nat) (made:Int) (x1 x2 x3:Value) (cur:Int) (hw:(Lit.int .i64 cur).wf=true) {S2:aG} {c2:ax} (eW:aV fs xs root (tr.length+1) S (eu cur)=(S2,c2)) :
    p4 Tryz.prog β 29 #[vP be,vP bm,vP bf,vP bo,vP bc,vP bu] [.blk be [.iface 92 (vP e)] 57,.blk bm [vI (made)] 3,.blk bf [x1,x2,x3] 55,.blk bo [.bool true] 4,.blk bc [.iface 39 (vP G.w)] 48,.blk bu [vI (cur)] 3,wA G fs xs root S V tr] (fun _ v l=>∃ (V':WV) (fJ:List ax),fJ.length=tr.length+1/\v=.tuple #[]/\l=[.blk be [.iface 92 (vP e)] 57,.blk bf [vI 0,.bool false,vI (made)] 55]++[wA G fs xs root S2 V' fJ]):=by
 refine p4.enter Tryz.func29 rfl Tryz.ntmps29 (Nat.le_of_ble_eq_true rfl) (fun hle0 R=>?_)
 refine SR (gK 2 [(7,.bool true)] [(0,a_ 0 be)] ?_)
 refine NN (CT (SR (gC 3 [] [(0,a_ 1 bm),(2,A_ 2 bf 3)] [(2,[(0,vI 0),(1,.bool false),(2,vI (made))])] ?_)))
 refine NS (gK 1 [(10,.bool true)] [(0,a_ 3 bo)] ?_)
 refine NN (CT (af.region (gK 2 [(11,.agg #[.iface 39 (vP G.w)]),(12,vI (cur))] [(0,a_ 4 bc),(1,a_ 5 bu)] ?_)))
 refine ak.fX (d:=(some 13)) (R:=[.blk be [.iface 92 (vP e)] 57,.blk bm [vI (made)] 3,.blk bf [vI 0,.bool false,vI (made)] 55,.blk bo [.bool true] 4,.blk bc [.iface 39 (vP G.w)] 48,.blk bu [vI (cur)] 3,.abs R]) (pk:=[6,0,1,2,3,4,5,7]) (fun _=>by kernel_rfl) (y8 (β:=β) (G:=G) (V:=V) (tr:=tr) (S2:=S2) (c2:=c2) hrw hI (by omega) hZ hX hg cur hw eW) rfl (by kernel_rfl) ?_
 rintro Vg _ _ o9 ⟨V1,vU,rfl,rfl,ht1⟩
 replace hZ:=hZ.le o9
 replace hg:=hg.le o9
 replace hle0:=hle0.trans o9
 refine NL ?_
 exact aj.MZ (v:=.tuple #[]) (l:=[.blk be [.iface 92 (vP e)] 57,.blk bf [vI 0,.bool false,vI (made)] 55,wA G fs xs root S2 V1 vU]) (aZ:=[]) [] [1,3,0,7] hle0 (fun _=>by kernel_rfl) trivial rfl (by kernel_rfl) (⟨V1,vU,ht1,rfl,rfl⟩)
end
section
open Go.RowKit Go.Maps bF aB
attribute [local irreducible] ak aR af aj
theorem zL {β:Bs} {G:WG} {fs:List bq} {xs:List bP} {root:Int} {S0:aG} {V0:WV} {tN:List ax} (hrw:(Lit.int .i64 root).wf=true) (hI:Inv S0) (hn:tN.length<=100) (hZ:fL β G.Z xs) (hX:eG xs 1048576) (hg:dV β) (hE:jt β) (h:Int) (hw:(Lit.int .i64 h).wf=true) (A:Option Addr) (kq:Nat) (ps:List ByteArray) (hP:eU β A ps) (hpl:ps.length<=1048576) (hps:∀ i,i < ps.length->(pc ps i).size<=1048576) (mode:Int) {r:I8} (hr:gI fs xs root mode ps 0 S0 tN.length h false 0=r) :
    bD Tryz.prog β 10 #[.agg #[.iface 39 (vP G.w)],vI (h),.slice A (ps.length) (kq),vI (mode)] [wA G fs xs root S0 V0 tN] (fun _ v l=>∃ (V':WV) (fJ:List ax),fJ.length=r.n/\((r.code=0/\v=.tuple #[.agg #[vI r.cur,.bool r.own,vI r.made],.nilIface]/\l=[wA G fs xs root r.S V' fJ])\/(r.code≠0/\∃ (e:Nat) (nm:ByteArray),v=.tuple #[.agg #[vI 0,.bool false,vI r.made],.iface 92 (vP e)]/\l=[wA G fs xs root r.S V' fJ,.blk e [vI r.at_,.string nm,vI r.code] 94]))):=by
 refine bD.S5 Tryz.func10 rfl Tryz.ntmps10 (Nat.le_of_ble_eq_true rfl) (fun hle0 R=>?_)
 refine SR (gN 1 (fun b1=>[(4,vP b1)]) (fun _=>[]) (fun _=>[]) (fun b1=>.blk b1 [.iface 39 (vP G.w)] 48) (fun b1=>?_))
 refine gN 1 (fun b2=>[(8,vP b2)]) (fun _=>[]) (fun _=>[]) (fun b2=>.blk b2 [vI 0,.bool false,vI 0] 55) (fun b2=>?_)
 refine gN 1 (fun b3=>[(9,vP b3)]) (fun _=>[]) (fun _=>[]) (fun b3=>.blk b3 [.nilIface] 57) (fun b3=>?_)
 refine NS (gN 2 (fun b4=>[(10,vP b4),(21,vI (h))]) (fun _=>[]) (fun _=>[]) (fun b4=>.blk b4 [vI 0] 3) (fun b4=>?_))
 refine gN 1 (fun b5=>[(11,vP b5)]) (fun _=>[]) (fun _=>[]) (fun b5=>.blk b5 [.bool false] 4) (fun b5=>?_)
 refine gN 4 (fun b6=>[(12,vP b6)]) (fun b6=>[(1,a_ 5 b4),(2,a_ 6 b5),(3,a_ 7 b6)]) (fun b6=>[(5,[(0,vI (h))])]) (fun b6=>.blk b6 [vI 0] 3) (fun b6=>?_)
 refine NS (gK 1 [(22,.func (.func 29) #[] #[vP b3,vP b6,vP b2,vP b5,vP b1,vP b4])] [] ?_)
 refine ak.defer (x:=none) ⟨.fn (.func 29) #[vP b3,vP b6,vP b2,vP b5,vP b1,vP b4],#[]⟩ (fun _=>by kernel_rfl) ?_
 refine NN (af.seq (SR (gK 3 [(23,.slice A (ps.length) (kq)),(24,vI ↑ps.length),(25,vI 0)] [] ?_)))
 refine NN (af.block ?_)
 refine af.Pb (ι:=Nat×Bs×aG×WV×(List ax)×Int×Bool×Int) (fun ((i,b,S,V,tr,cur,own,made):Nat×Bs×aG×WV×(List ax)×Int×Bool×Int)=>b) (fun ((i,b,S,V,tr,cur,own,made):Nat×Bs×aG×WV×(List ax)×Int×Bool×Int)=>(i<=ps.length)/\(β.le b)/\(eU b A ps)/\(dV b)/\(jt b)/\(fL b G.Z xs)/\(Inv S)/\((Lit.int .i64 cur).wf=true)/\(tr.length<=100+4 * i)/\(0<=made/\made<=i)/\(gI fs xs root mode (ps.drop i) (i:Int) S tr.length cur own made=r)) (fun ((i,b,S,V,tr,cur,own,made):Nat×Bs×aG×WV×(List ax)×Int×Bool×Int)=>ps.length - i) (fun ((i,b,S,V,tr,cur,own,made):Nat×Bs×aG×WV×(List ax)×Int×Bool×Int)=>[(3,vI (mode)),(4,vP b1),(8,vP b2),(9,vP b3),(10,vP b4),(11,vP b5),(12,vP b6),(23,.slice A (ps.length) (kq)),(24,vI ↑ps.length),(25,vI ↑i)]) (fun ((i,b,S,V,tr,cur,own,made):Nat×Bs×aG×WV×(List ax)×Int×Bool×Int)=>[.blk b1 [.iface 39 (vP G.w)] 48,.blk b2 [vI 0,.bool false,vI 0] 55,.blk b3 [.nilIface] 57,.blk b4 [vI (cur)] 3,.blk b5 [.bool own] 4,.blk b6 [vI (made)] 3,wA G fs xs root S V tr,.abs R]) (0,β,S0,V0,tN,h,false,0) rfl (idx:=[3,4,8,9,10,11,12,23,24,25]) (pk:=[2,3,4,5,6,7,0,1]) (show (0<=ps.length)/\(β.le β)/\(eU β A ps)/\(dV β)/\(jt β)/\(fL β G.Z xs)/\(Inv S0)/\((Lit.int .i64 h).wf=true)/\(tN.length<=100+4 * 0)/\(0<=0/\0<=0)/\(gI fs xs root mode (ps.drop 0) (0:Int) S0 tN.length h false 0=r) from ⟨Nat.zero_le _,hle0,hP,hg,hE,hZ,hI,hw,by omega,by omega,hr⟩) (fun _=>by kernel_rfl) rfl (by kernel_rfl) ?_
 rintro⟨i,b,S,V,tr,cur,own,made⟩ ⟨hi,hle0,hP,hg,hE,hZ,hI,hw,hn,hm,hr⟩
 show af _ b _ _ [(3,vI (mode)),(4,vP b1),(8,vP b2),(9,vP b3),(10,vP b4),(11,vP b5),(12,vP b6),(23,.slice A (ps.length) (kq)),(24,vI ↑ps.length),(25,vI ↑i)] [.blk b1 [.iface 39 (vP G.w)] 48,.blk b2 [vI 0,.bool false,vI 0] 55,.blk b3 [.nilIface] 57,.blk b4 [vI (cur)] 3,.blk b5 [.bool own] 4,.blk b6 [vI (made)] 3,wA G fs xs root S V tr,.abs R] _
 refine SR (gK 1 [(26,.bool (decide ((((i:Nat):Int):Int) < (((ps.length:Nat):Int):Int))))] [] ?_)
 refine NN (af.seq (af.bh (p:=(((i:Nat):Int):Int) < (((ps.length:Nat):Int):Int)) (fun _=>by kernel_rfl) (fun tW=>?_) (fun tW=>?_)))
 ·refine af.skip (NX (af.seq (af.block (SR ?_))))
  refine gK 5 [(13,vI ↑i),(14,.string (pc ps i))] [(1,p_ ⟨[],some i,none,some ⟨(aE A),aD A,none⟩,none⟩ [((i:Nat):Int)=((i:Nat):Int),i < ps.length,(⟨(aE A),aD A,none⟩:Addr).spot=none,(A:Option Addr)=some ⟨(aE A),aD A,none⟩] ⟨rfl,by omega,rfl,eU.hd hP (j:=i) (by omega),trivial⟩),(2,p_ ⟨[.old (.string (pc ps i))],none,none,none,none⟩ [(Rd b ⟨(aE A),aD A+i * 1,none⟩ (.string (pc ps i)))] ⟨eU.rd hP (by omega),trivial⟩)] ?_
  refine NS (gK 4 [(31,.agg #[.iface 39 (vP G.w)]),(32,vI (cur)),(33,.string (pc ps i)),(34,vI (mode))] [(0,a_ 0 b1),(1,a_ 3 b4)] ?_)
  obtain⟨a,ha⟩:∃ a,dh fs xs root S tr.length cur (pc ps i) mode=a:=⟨_,rfl⟩
  refine ak.fX (d:=(some 35)) (R:=[.blk b1 [.iface 39 (vP G.w)] 48,.blk b2 [vI 0,.bool false,vI 0] 55,.blk b3 [.nilIface] 57,.blk b4 [vI (cur)] 3,.blk b5 [.bool own] 4,.blk b6 [vI (made)] 3,.abs R]) (pk:=[6,0,1,2,3,4,5,7]) (fun _=>by kernel_rfl) (QM (β:=b) (G:=G) (V:=V) (tr:=tr) hrw hI (by omega) hZ hX hg cur hw (pc ps i) (hps i (by omega)) mode ha) rfl (by kernel_rfl) ?_
  rintro vT _ _ dX ⟨Va,vW,BQ,(⟨hc,rfl⟩|⟨hc,rfl⟩),rfl⟩
  ·replace hP:=hP.le dX
   replace hg:=hg.le dX
   replace hE:=hE.le dX
   replace hZ:=hZ.le dX
   replace hle0:=hle0.trans dX
   have ED:Inv a.S:=by rw [← ha];exact Bp hI
   have hna:a.n<=tr.length+3:=by rw [← ha];exact GJ
   have EF:(Lit.int .i64 a.next).wf=true:=by rw [← ha];exact I9 hI
   refine gK 7 [(15,vI (a.next)),(16,.bool a.made),(17,.nilIface)] [] ?_
   refine NN (af.join (ι:=Int) (fun (m2:Int)=>((if a.made=true then made+1 else made)=m2)) (fun (m2:Int)=>[(3,vI (mode)),(4,vP b1),(8,vP b2),(9,vP b3),(10,vP b4),(11,vP b5),(12,vP b6),(13,vI ↑i),(14,.string (pc ps i)),(15,vI (a.next)),(17,.nilIface),(23,.slice A (ps.length) (kq)),(24,vI ↑ps.length),(25,vI ↑i)]) (fun (m2:Int)=>[wA G fs xs root a.S Va vW,.blk b1 [.iface 39 (vP G.w)] 48,.blk b2 [vI 0,.bool false,vI 0] 55,.blk b3 [.nilIface] 57,.blk b4 [vI (cur)] 3,.blk b5 [.bool own] 4,.blk b6 [vI (m2)] 3,.abs R]) ?_ ?_)
   ·rintro m2 hm2
    show af _ _ _ _ [(3,vI (mode)),(4,vP b1),(8,vP b2),(9,vP b3),(10,vP b4),(11,vP b5),(12,vP b6),(13,vI ↑i),(14,.string (pc ps i)),(15,vI (a.next)),(17,.nilIface),(23,.slice A (ps.length) (kq)),(24,vI ↑ps.length),(25,vI ↑i)] [wA G fs xs root a.S Va vW,.blk b1 [.iface 39 (vP G.w)] 48,.blk b2 [vI 0,.bool false,vI 0] 55,.blk b3 [.nilIface] 57,.blk b4 [vI (cur)] 3,.blk b5 [.bool own] 4,.blk b6 [vI (m2)] 3,.abs R] _
    have P5:0<=m2/\m2<=i+1:=by rw [← hm2];split<;>omega
    refine af.seq (SR (gK 2 [(43,.bool false)] [] ?_))
    refine NN (CF (af.skip (NX (af.seq (SR (gK 1 [(56,.bool own)] [(0,a_ 5 b5)] ?_))))))
    refine NN (af.cond (b:=own) (fun _=>by kernel_rfl) (fun vV=>?_) (fun vV=>?_))
    ·subst vV
     refine SR (gK 2 [(57,.agg #[.iface 39 (vP G.w)]),(58,vI (cur))] [(0,a_ 1 b1),(1,a_ 4 b4)] ?_)
     obtain⟨Sb,cb,eb⟩:∃ Sx cx,aV fs xs root (a.n+1) a.S (eu cur)=(Sx,cx):=⟨_,_,rfl⟩
     refine ak.fX (d:=(some 59)) (R:=[.blk b1 [.iface 39 (vP G.w)] 48,.blk b2 [vI 0,.bool false,vI 0] 55,.blk b3 [.nilIface] 57,.blk b4 [vI (cur)] 3,.blk b5 [.bool true] 4,.blk b6 [vI (m2)] 3,.abs R]) (pk:=[0,1,2,3,4,5,6,7]) (fun _=>by kernel_rfl) (y8 (β:=vT) (G:=G) (V:=Va) (tr:=vW) (S2:=Sb) (c2:=cb) hrw ED (by omega) hZ hX hg cur hw (by rw [BQ];exact eb)) rfl (by kernel_rfl) ?_
     rintro xP _ _ fZ ⟨Vb,MP,rfl,rfl,htb⟩
     replace hP:=hP.le fZ
     replace hg:=hg.le fZ
     replace hE:=hE.le fZ
     replace hZ:=hZ.le fZ
     replace hle0:=hle0.trans fZ
     have Vj:Inv Sb:=by have h:=Inv.aV (fs:=fs) (xs:=xs) (root:=root) (n:=a.n+1) (c:=eu cur) ED;rw [eb] at h;exact h
     refine gK 1 [(20,vI (cb.code))] [] ?_
     refine NS (gK 2 [(61,.bool (!(decide ((cb.code:Int)=(0:Int)))))] [] ?_)
     refine NN (af.dx (p:=(cb.code:Int)=(0:Int)) (fun _=>by kernel_rfl) (fun P6=>?_) (fun P6=>?_))
     ·refine SR (gC 2 [] [(1,a_ 4 b4)] [(4,[(0,vI (a.next))])] ?_)
      refine NS (gN 9 (fun _=>[]) (fun b9=>[(7,A_ 2 b2 3),(8,a_ 3 b3)]) (fun b9=>[(3,[(0,.iface 92 (vP b9))])]) (fun b9=>.blk b9 [vI ↑i,.string (pc ps i),vI (cb.code)] 94) (fun b9=>?_))
      refine NN (af.ret (aj.aq (aj.aF (aj.aq (aj.aq (aj.aF (aj.aq ?_)))))))
      obtain⟨Sc,cc,ec⟩:∃ Sx cx,aV fs xs root (a.n+1+1) Sb (eu a.next)=(Sx,cx):=⟨_,_,rfl⟩
      refine aj.door (rest:=[.abs R,.blk b9 [vI ↑i,.string (pc ps i),vI (cb.code)] 94]) [3,6,2,5,1,4,0,7,8] (fun _=>by kernel_rfl) (MO (β:=xP) (G:=G) (V:=Vb) (tr:=MP) hrw Vj (by omega) hZ hX hg b3 b6 b2 b5 b1 b4 b9 (m2) (.int .i64 0) (.bool false) (.int .i64 0) a.next EF (S2:=Sc) (c2:=cc) (by rw [htb.trans (by rw [BQ])];exact ec)) (by kernel_rfl) rfl ?_
      rintro Kz _ _ jL ⟨Vc,MQ,S8,rfl,rfl⟩
      replace hP:=hP.le jL
      replace hg:=hg.le jL
      replace hE:=hE.le jL
      replace hZ:=hZ.le jL
      replace hle0:=hle0.trans jL
      have hr2:r=⟨Sc,a.n+1+1,0,false,m2,cb.code,(i:Int)⟩:=by rw [← hr,o5 (by omega),CA (by rw [ha];exact hc) rfl (by rw [ha,eb];exact P6),ha,eb,hm2];exact Bq ec
      subst hr2
      exact aj.iQ (v:=.tuple #[.agg #[vI 0,.bool false,vI (m2)],.iface 92 (vP b9)]) (l:=[wA G fs xs root Sc Vc MQ,.blk b9 [vI ↑i,.string (pc ps i),vI (cb.code)] 94]) (aZ:=[b3=b3,b2=b2,b2=b2,b2=b2]) [.at 1,.at 1,.at 1,.at 0] [2,4,3] hle0 (fun _=>by kernel_rfl) ⟨rfl,rfl,rfl,rfl,trivial⟩ rfl (by kernel_rfl) (⟨Vc,MQ,(by rw [S8,htb,BQ]),.inr ⟨P6,b9,_,rfl,rfl⟩⟩)
     refine af.skip (NX (af.region (gC 3 [] [(1,a_ 4 b4),(2,a_ 5 b5)] [(4,[(0,vI (a.next))])] ?_)))
     refine NL (aj.aQ (NX (af.region ?_)))
     refine gK 2 [(25,vI ↑(i+1))] [(0,p_ ⟨[],none,none,none,some (vI ↑(i+1))⟩ [(Value.int .i64 (IntKind.wrap .i64 (((i:Nat):Int)+1)))=(.int .i64 ↑(i+1))] ⟨aY (by omega) (by omega) (by omega),trivial⟩)] ?_
     refine NL ?_
     have hl2:MP.length=a.n+1:=(by rw [htb,BQ])
     exact aj.Jz ((i+1),xP,Sb,Vb,MP,a.next,true,m2) (hb:=rfl) (idx:=[3,4,8,9,10,11,12,23,24,25]) (pk:=[1,2,3,4,5,6,0,7]) (show (((i+1))<=ps.length)/\(β.le xP)/\(eU xP A ps)/\(dV xP)/\(jt xP)/\(fL xP G.Z xs)/\(Inv Sb)/\((Lit.int .i64 a.next).wf=true)/\(MP.length<=100+4 * ((i+1)))/\(0<=m2/\m2<=((i+1)))/\(gI fs xs root mode (ps.drop ((i+1))) (((i+1)):Int) Sb MP.length a.next true m2=r) from ⟨by omega,hle0,hP,hg,hE,hZ,Vj,EF,by omega,by omega,by rw [← hr,o5 (ps:=ps) (j:=i) (by omega),yU (by rw [ha];exact hc) rfl (by rw [ha,eb];exact P6),ha,eb,hm2,hl2]⟩) (by show ps.length - ((i+1)) < ps.length - i;omega) (fun _=>by kernel_rfl) rfl (by kernel_rfl)
    subst vV
    refine af.skip (NX (af.region (gC 3 [] [(1,a_ 4 b4),(2,a_ 5 b5)] [(4,[(0,vI (a.next))]),(5,[(0,.bool true)])] ?_)))
    refine NL (aj.aQ (NX (af.region ?_)))
    refine gK 2 [(25,vI ↑(i+1))] [(0,p_ ⟨[],none,none,none,some (vI ↑(i+1))⟩ [(Value.int .i64 (IntKind.wrap .i64 (((i:Nat):Int)+1)))=(.int .i64 ↑(i+1))] ⟨aY (by omega) (by omega) (by omega),trivial⟩)] ?_
    refine NL ?_
    have hl2:vW.length=a.n:=BQ
    exact aj.Jz ((i+1),vT,a.S,Va,vW,a.next,true,m2) (hb:=rfl) (idx:=[3,4,8,9,10,11,12,23,24,25]) (pk:=[1,2,3,4,5,6,0,7]) (show (((i+1))<=ps.length)/\(β.le vT)/\(eU vT A ps)/\(dV vT)/\(jt vT)/\(fL vT G.Z xs)/\(Inv a.S)/\((Lit.int .i64 a.next).wf=true)/\(vW.length<=100+4 * ((i+1)))/\(0<=m2/\m2<=((i+1)))/\(gI fs xs root mode (ps.drop ((i+1))) (((i+1)):Int) a.S vW.length a.next true m2=r) from ⟨by omega,hle0,hP,hg,hE,hZ,ED,EF,by omega,by omega,by rw [← hr,o5 (ps:=ps) (j:=i) (by omega),Bn (by rw [ha];exact hc) (by decide),ha,hm2,hl2]⟩) (by show ps.length - ((i+1)) < ps.length - i;omega) (fun _=>by kernel_rfl) rfl (by kernel_rfl)
   refine SR (gK 1 [(39,.bool a.made)] [] ?_)
   refine NN (af.cond (b:=a.made) (fun _=>by kernel_rfl) (fun jb=>?_) (fun jb=>?_))
   ·refine af.region (gC 3 [] [(0,a_ 6 b6),(1,p_ ⟨[],none,none,none,some (vI (made+1))⟩ [(Value.int .i64 (IntKind.wrap .i64 (made+1)))=(.int .i64 (made+1))] ⟨aY (by omega) (by omega) (by omega),trivial⟩),(2,a_ 6 b6)] [(6,[(0,vI (made+1))])] ?_)
    refine NL ?_
    exact aj.meet ((made+1)) (idx:=[3,4,8,9,10,11,12,13,14,15,17,23,24,25]) (pk:=[0,1,2,3,4,5,6,7]) (show ((if a.made=true then made+1 else made)=((made+1))) from if_pos jb) (fun _=>by kernel_rfl) rfl (by kernel_rfl)
   refine af.skip ?_
   exact aj.meet made (idx:=[3,4,8,9,10,11,12,13,14,15,17,23,24,25]) (pk:=[0,1,2,3,4,5,6,7]) (show ((if a.made=true then made+1 else made)=made) from if_neg (by rw [jb];decide)) (fun _=>by kernel_rfl) rfl (by kernel_rfl)
  replace hP:=hP.le dX
  replace hg:=hg.le dX
  replace hE:=hE.le dX
  replace hZ:=hZ.le dX
  replace hle0:=hle0.trans dX
  have ED:Inv a.S:=by rw [← ha];exact Bp hI
  have hna:a.n<=tr.length+3:=by rw [← ha];exact GJ
  have EF:(Lit.int .i64 a.next).wf=true:=by rw [← ha];exact I9 hI
  refine gK 7 [(15,vI 0),(16,.bool a.made),(17,.iface 40 (.int .i64 (a.code)))] [] ?_
  refine NN (af.join (ι:=Int) (fun (m2:Int)=>((if a.made=true then made+1 else made)=m2)) (fun (m2:Int)=>[(3,vI (mode)),(4,vP b1),(8,vP b2),(9,vP b3),(10,vP b4),(11,vP b5),(12,vP b6),(13,vI ↑i),(14,.string (pc ps i)),(15,vI 0),(17,.iface 40 (.int .i64 (a.code))),(23,.slice A (ps.length) (kq)),(24,vI ↑ps.length),(25,vI ↑i)]) (fun (m2:Int)=>[wA G fs xs root a.S Va vW,.blk b1 [.iface 39 (vP G.w)] 48,.blk b2 [vI 0,.bool false,vI 0] 55,.blk b3 [.nilIface] 57,.blk b4 [vI (cur)] 3,.blk b5 [.bool own] 4,.blk b6 [vI (m2)] 3,.abs R]) ?_ ?_)
  ·rintro m2 hm2
   show af _ _ _ _ [(3,vI (mode)),(4,vP b1),(8,vP b2),(9,vP b3),(10,vP b4),(11,vP b5),(12,vP b6),(13,vI ↑i),(14,.string (pc ps i)),(15,vI 0),(17,.iface 40 (.int .i64 (a.code))),(23,.slice A (ps.length) (kq)),(24,vI ↑ps.length),(25,vI ↑i)] [wA G fs xs root a.S Va vW,.blk b1 [.iface 39 (vP G.w)] 48,.blk b2 [vI 0,.bool false,vI 0] 55,.blk b3 [.nilIface] 57,.blk b4 [vI (cur)] 3,.blk b5 [.bool own] 4,.blk b6 [vI (m2)] 3,.abs R] _
   have P5:0<=m2/\m2<=i+1:=by rw [← hm2];split<;>omega
   refine af.seq (SR (gK 2 [(43,.bool true)] [] ?_))
   refine NN (CT (SR (gK 1 [(45,.iface 40 (.int .i64 (a.code)))] [] ?_)))
   refine gL [] (DQ hE (a.code)) ?_
   rintro _ _ ⟨rfl,rfl⟩
   refine gK 5 [(18,vI (a.code))] [] ?_
   refine NS ?_
   rcases Bool.eq_false_or_eq_true own with rfl|rfl
   ·refine gN 9 (fun _=>[]) (fun b11=>[(7,A_ 2 b2 3),(8,a_ 3 b3)]) (fun b11=>[(3,[(0,.iface 92 (vP b11))])]) (fun b11=>.blk b11 [vI ↑i,.string (pc ps i),vI (a.code)] 94) (fun b11=>?_)
    refine NN (af.ret (aj.aq (aj.aF (aj.aq (aj.aq (aj.aF (aj.aq ?_)))))))
    obtain⟨Sc,cc,ec⟩:∃ Sx cx,aV fs xs root (a.n+1) a.S (eu cur)=(Sx,cx):=⟨_,_,rfl⟩
    refine aj.door (rest:=[.abs R,.blk b11 [vI ↑i,.string (pc ps i),vI (a.code)] 94]) [3,6,2,5,1,4,0,7,8] (fun _=>by kernel_rfl) (MO (β:=vT) (G:=G) (V:=Va) (tr:=vW) hrw ED (by omega) hZ hX hg b3 b6 b2 b5 b1 b4 b11 (m2) (.int .i64 0) (.bool false) (.int .i64 0) cur hw (S2:=Sc) (c2:=cc) (by rw [BQ];exact ec)) (by kernel_rfl) rfl ?_
    rintro OZ _ _ jf ⟨Vc,MQ,S8,rfl,rfl⟩
    replace hP:=hP.le jf
    replace hg:=hg.le jf
    replace hE:=hE.le jf
    replace hZ:=hZ.le jf
    replace hle0:=hle0.trans jf
    have hr2:r=⟨Sc,a.n+1,0,false,m2,a.code,(i:Int)⟩:=by rw [← hr,o5 (by omega),uz (by rw [ha];exact hc),ha,hm2];exact Bq ec
    subst hr2
    exact aj.iQ (v:=.tuple #[.agg #[vI 0,.bool false,vI (m2)],.iface 92 (vP b11)]) (l:=[wA G fs xs root Sc Vc MQ,.blk b11 [vI ↑i,.string (pc ps i),vI (a.code)] 94]) (aZ:=[b3=b3,b2=b2,b2=b2,b2=b2]) [.at 1,.at 1,.at 1,.at 0] [2,4,3] hle0 (fun _=>by kernel_rfl) ⟨rfl,rfl,rfl,rfl,trivial⟩ rfl (by kernel_rfl) (⟨Vc,MQ,(by rw [S8,BQ]),.inr ⟨hc,b11,_,rfl,rfl⟩⟩)
   refine gN 9 (fun _=>[]) (fun b13=>[(7,A_ 2 b2 3),(8,a_ 3 b3)]) (fun b13=>[(3,[(0,.iface 92 (vP b13))])]) (fun b13=>.blk b13 [vI ↑i,.string (pc ps i),vI (a.code)] 94) (fun b13=>?_)
   refine NN (af.ret (aj.aq (aj.aF (aj.aq (aj.aq (aj.aF (aj.aq ?_)))))))
   refine aj.door (rest:=[wA G fs xs root a.S Va vW,.blk b1 [.iface 39 (vP G.w)] 48,.blk b4 [vI (cur)] 3,.abs R,.blk b13 [vI ↑i,.string (pc ps i),vI (a.code)] 94]) [3,6,2,5,0,1,4,7,8] (fun _=>by kernel_rfl) (S7 b3 b6 b2 b5 b1 b4 b13 (m2) (.int .i64 0) (.bool false) (.int .i64 0)) (by kernel_rfl) rfl ?_
   rintro SY _ _ jg ⟨rfl,rfl⟩
   replace hP:=hP.le jg
   replace hg:=hg.le jg
   replace hE:=hE.le jg
   replace hZ:=hZ.le jg
   replace hle0:=hle0.trans jg
   have hr2:r=⟨a.S,a.n,0,false,m2,a.code,(i:Int)⟩:=by rw [← hr,o5 (by omega),uz (by rw [ha];exact hc),ha,hm2];exact GK
   subst hr2
   exact aj.iQ (v:=.tuple #[.agg #[vI 0,.bool false,vI (m2)],.iface 92 (vP b13)]) (l:=[wA G fs xs root a.S Va vW,.blk b13 [vI ↑i,.string (pc ps i),vI (a.code)] 94]) (aZ:=[b3=b3,b2=b2,b2=b2,b2=b2]) [.at 1,.at 1,.at 1,.at 0] [2,6,5] hle0 (fun _=>by kernel_rfl) ⟨rfl,rfl,rfl,rfl,trivial⟩ rfl (by kernel_rfl) (⟨Va,vW,BQ,.inr ⟨hc,b13,_,rfl,rfl⟩⟩)
  refine SR (gK 1 [(39,.bool a.made)] [] ?_)
  refine NN (af.cond (b:=a.made) (fun _=>by kernel_rfl) (fun jb=>?_) (fun jb=>?_))
  ·refine af.region (gC 3 [] [(0,a_ 6 b6),(1,p_ ⟨[],none,none,none,some (vI (made+1))⟩ [(Value.int .i64 (IntKind.wrap .i64 (made+1)))=(.int .i64 (made+1))] ⟨aY (by omega) (by omega) (by omega),trivial⟩),(2,a_ 6 b6)] [(6,[(0,vI (made+1))])] ?_)
   refine NL ?_
   exact aj.meet ((made+1)) (idx:=[3,4,8,9,10,11,12,13,14,15,17,23,24,25]) (pk:=[0,1,2,3,4,5,6,7]) (show ((if a.made=true then made+1 else made)=((made+1))) from if_pos jb) (fun _=>by kernel_rfl) rfl (by kernel_rfl)
  refine af.skip ?_
  exact aj.meet made (idx:=[3,4,8,9,10,11,12,13,14,15,17,23,24,25]) (pk:=[0,1,2,3,4,5,6,7]) (show ((if a.made=true then made+1 else made)=made) from if_neg (by rw [jb];decide)) (fun _=>by kernel_rfl) rfl (by kernel_rfl)
 refine af.exit (aj.br (aj.br (aj.dM (NX (SR ?_)))))
 refine gC 6 [] [(0,a_ 3 b4),(1,a_ 4 b5),(2,a_ 5 b6),(4,A_ 1 b2 3),(5,a_ 2 b3)] [(1,[(0,vI (cur)),(1,.bool own),(2,vI (made))])] ?_
 refine NN (af.ret (aj.door (rest:=[.blk b1 [.iface 39 (vP G.w)] 48,.blk b2 [vI (cur),.bool own,vI (made)] 55,.blk b4 [vI (cur)] 3,.blk b5 [.bool own] 4,.blk b6 [vI (made)] 3,wA G fs xs root S V tr,.abs R]) [2,0,1,3,4,5,6,7] (fun _=>by kernel_rfl) (S6 b3 b6 b2 b5 b1 b4) (by kernel_rfl) rfl ?_))
 rintro XF _ _ tO ⟨rfl,rfl⟩
 replace hP:=hP.le tO
 replace hg:=hg.le tO
 replace hE:=hE.le tO
 replace hZ:=hZ.le tO
 replace hle0:=hle0.trans tO
 have hi2:i=ps.length:=by omega
 have hr2:r=⟨S,tr.length,cur,own,made,0,0⟩:=by rw [← hr,hi2,List.drop_length,Er]
 subst hr2
 exact aj.iQ (v:=.tuple #[.agg #[vI (cur),.bool own,vI (made)],.nilIface]) (l:=[wA G fs xs root S V tr]) (aZ:=[b3=b3,b2=b2,b2=b2,b2=b2]) [.at 2,.at 2,.at 2,.at 0] [6,7] hle0 (fun _=>by kernel_rfl) ⟨rfl,rfl,rfl,rfl,trivial⟩ rfl (by kernel_rfl) (⟨V,tr,rfl,.inl ⟨rfl,rfl,rfl⟩⟩)
theorem Hj {β:Bs} {G:WG} {fs:List bq} {xs:List bP} {root:Int} {S:aG} {V:WV} {tr:List ax} (hrw:(Lit.int .i64 root).wf=true) (hI:Inv S) (hn:tr.length<=8388607) (hZ:fL β G.Z xs) (hX:eG xs 1048576) (hg:dV β) (cur made:Int) (hw:(Lit.int .i64 cur).wf=true) {S2:aG} {c2:ax} (eW:aV fs xs root (tr.length+1) S (eu cur)=(S2,c2)) :
    bD Tryz.prog β 15 #[.agg #[.iface 39 (vP G.w)],.agg #[vI (cur),.bool true,vI (made)]] [wA G fs xs root S V tr] (fun _ v l=>∃ (V':WV) (q:{ l:List ax // l.length=tr.length+1 }),v=vI c2.code/\l=[wA G fs xs root S2 V' q.1]):=by
 refine bD.enter Tryz.func15 rfl Tryz.ntmps15 (Nat.le_of_ble_eq_true rfl) (fun hle0 R=>?_)
 refine SR (gN 1 (fun b16=>[(2,vP b16)]) (fun _=>[]) (fun _=>[]) (fun b16=>.blk b16 [.iface 39 (vP G.w)] 48) (fun b16=>?_))
 refine gN 2 (fun b17=>[(3,vP b17)]) (fun _=>[]) (fun _=>[]) (fun b17=>.blk b17 [vI (cur),.bool true,vI (made)] 55) (fun b17=>?_)
 refine NN (af.seq (SR (gK 3 [(7,.bool false)] [(1,a_ 3 b17)] ?_)))
 refine NN (CF (af.skip (NX (SR (gK 3 [(8,.agg #[.iface 39 (vP G.w)]),(10,vI (cur))] [(0,a_ 2 b16),(2,a_ 3 b17)] ?_)))))
 refine ak.fX (d:=(some 11)) (R:=[.abs R,.blk b16 [.iface 39 (vP G.w)] 48,.blk b17 [vI (cur),.bool true,vI (made)] 55]) (pk:=[0,1,2,3]) (fun _=>by kernel_rfl) (y8 (β:=β) (G:=G) (V:=V) (tr:=tr) (S2:=S2) (c2:=c2) hrw hI (by omega) hZ hX hg cur hw eW) rfl (by kernel_rfl) ?_
 rintro Fq _ _ oy ⟨V1,vU,rfl,rfl,ht1⟩
 replace hZ:=hZ.le oy
 replace hg:=hg.le oy
 replace hle0:=hle0.trans oy
 refine gK 1 [(4,vI (c2.code))] [] ?_
 refine NN (af.ret ?_)
 exact aj.iQ (v:=.int .i64 (c2.code)) (l:=[wA G fs xs root S2 V1 vU]) (aZ:=[]) [] [0,1] hle0 (fun _=>by kernel_rfl) trivial rfl (by kernel_rfl) (⟨V1,⟨vU,ht1⟩,rfl,rfl⟩)
theorem Ai {β:Bs} (G:WG) (cur made:Int) :
    Spec Tryz.prog β 15 #[.agg #[.iface 39 (vP G.w)],.agg #[vI (cur),.bool false,vI (made)]] [] (fun v l=>v=vI 0/\l=[]):=by
 refine Spec.enter Tryz.func15 rfl Tryz.ntmps15 (Nat.le_of_ble_eq_true rfl) (fun R=>?_)
 refine SR (gN 1 (fun b19=>[(2,vP b19)]) (fun _=>[]) (fun _=>[]) (fun b19=>.blk b19 [.iface 39 (vP G.w)] 48) (fun b19=>?_))
 refine gN 2 (fun b20=>[(3,vP b20)]) (fun _=>[]) (fun _=>[]) (fun b20=>.blk b20 [vI (cur),.bool false,vI (made)] 55) (fun b20=>?_)
 refine NN (af.seq (SR (gK 3 [(7,.bool true)] [(1,a_ 2 b20)] ?_)))
 refine NN (CT (SR (gK 1 [(4,vI 0)] [] ?_)))
 refine NN (af.ret (aj.aq ?_))
 exact RT (vI 0) [0] (⟨rfl,rfl⟩)
end
section
open Go.RowKit Go.Maps bF aB
abbrev qP (id:Int):ax:=⟨1,0,id,⟨#[]⟩,⟨#[]⟩,none,0,[],0,0,0,0,0,0,0⟩
section h
variable {fs:List bq} {xs:List bP} {root:Int} {S S1 S2:aG} {c1 c2:ax} {n:Nat} {cur mode made i h:Int} {own:Bool} {p:ByteArray} {t:Th}
theorem qH {us:Used Th} {k:Int} {t:Th} (e:aB.get us k=some t):k∈keys us:=List.mem_map.2 ⟨_,get_mem e,rfl⟩
theorem S9 {name:ByteArray} (e:aV fs xs root n S (yT h name mode)=(S2,c2)):S2.us=S.us/\S2.av=S.av:=by
  have hu:=tD (root:=root) (S:=S) (xs:=bG xs n)
  rcases uW (fs:=fs) (xs:=xs) (root:=root) (n:=n) (S:=S) (c:=yT h name mode) (by show (4:Int)≠1;decide) (by show (4:Int)≠9;decide) with h1|⟨k,hk,h1⟩
  ·rw [h1] at e
   unfold bV at e
   rw [ul (c:={ yT h name mode with answer:=0,code:=230 }) rfl] at e
   unfold gj at e
   split at e
   ·cases e;exact hu
   split at e
   ·unfold gS at e
    split at e<;>(cases e;exact hu)
   cases e;exact hu
  rw [h1] at e
  cases e
  exact hu
theorem y9 (e:aV fs xs root n S (eu h)=(S2,c2)) (hg:aB.get S.us h=some t):S2.us=del h S.us/\S2.av=S.av:=by
  have hu:=tD (root:=root) (S:=S) (xs:=bG xs n)
  have hd:(bV (fB root S (bG xs n)) (eu h)).1.us=del h S.us/\(bV (fB root S (bG xs n)) (eu h)).1.av=S.av:=by
    unfold bV
    rw [rf (c:={ eu h with answer:=0,code:=230 }) rfl]
    unfold jv
    rw [show aB.get (fB root S (bG xs n)).us ({ eu h with answer:=0,code:=230 }:ax).handle=some t by rw [hu.1];exact hg]
    exact⟨by rw [← hu.1],hu.2⟩
  rcases uW (fs:=fs) (xs:=xs) (root:=root) (n:=n) (S:=S) (c:=eu h) (by show (13:Int)≠1;decide) (by show (13:Int)≠9;decide) with h1|⟨k,hk,h1⟩
  ·rw [h1] at e
   rw [e] at hd
   exact hd
  rw [h1,if_pos (show (eu h).op=13 from rfl)] at e
  cases e
  exact hd
structure Held (S:aG) (cur:Int) (own:Bool):Prop where
  inv:Inv S
  len:S.us.length=if own=true then 2 else 1
  cur:own=true->∃ t,aB.get S.us cur=some t
  pk:S.av<=3
theorem Held.KI (h:Held S cur own) (e:aV fs xs root n S c1=(S2,c2)):Inv S2:=by
  have:=h.inv.aV (fs:=fs) (xs:=xs) (root:=root) (n:=n) (c:=c1);rw [e] at this;exact this
structure P7 (S:aG) (cur:Int) (own:Bool) (a:Ko):Prop where
  ok:a.code=0->a.S.us.length=(if own=true then 3 else 2)/\(own=true->∃ t,aB.get a.S.us cur=some t)/\(∃ t,aB.get a.S.us a.next=some t)/\(own=true->a.next≠cur)
  bad:a.code≠0->Held a.S cur own
  pk:a.S.av<=3
  made:a.made=true->mode < 0->False
theorem EG (hl:S.us.length=if own=true then 2 else 1) (hI:Inv S) (hc:own=true->∃ t,aB.get S.us cur=some t) (hpk:S.av<=3) {name:ByteArray} (e:aV fs xs root n S (gF h name)=(S2,c2)) :
    (c2.code=0->S2.us.length=(if own=true then 3 else 2)/\(own=true->∃ t,aB.get S2.us cur=some t)/\(∃ t,aB.get S2.us c2.answer=some t)/\(own=true->c2.answer≠cur))/\(c2.code≠0->S2.us=S.us)/\S2.av<=3:=by
  rcases z8 e with ⟨h1,t,h2,h3,h4⟩|⟨h1,h2,h3,h4⟩
  ·obtain⟨g1,g2,_⟩:=least_le hI.usr (fun x hx=>(hI.uf x hx).1)
   refine⟨fun _=>⟨?_,fun ho=>?_,⟨t,?_⟩,fun ho hq=>?_⟩,fun hn=>absurd h1 hn,?_⟩
   ·rw [h3,iE,hl];split<;>rfl
   ·obtain⟨u,hu⟩:=hc ho
    refine⟨u,?_⟩
    rw [h3,oR g2,if_neg (fun hq:cur=aB.least S.us=>g2 (hq ▸ qH hu))]
    exact hu
   ·rw [h3,h2,oR g2,if_pos rfl]
   ·obtain⟨u,hu⟩:=hc ho
    rw [h2] at hq
    exact g2 (hq ▸ qH hu)
   rw [h4,hl]
   split<;>omega
  exact⟨fun hn=>absurd hn h1,fun _=>h3,by rw [h4];exact hpk⟩
theorem Held.step (hh:Held S cur own):P7 (mode:=mode) S cur own (dh fs xs root S n cur p mode):=by
  obtain⟨S1,c1,e1⟩:∃ Sx cx,aV fs xs root (n+1) S (gF cur p)=(Sx,cx):=⟨_,_,rfl⟩
  obtain⟨a1,a2,a3⟩:=EG hh.len hh.inv hh.cur hh.pk e1
  have i1:=hh.KI e1
  by_cases h1:c1.code=0
  ·rw [Bo e1 h1]
   exact⟨fun _=>a1 h1,fun h=>absurd rfl h,a3,fun h=>absurd h Bool.false_ne_true⟩
  have u1:=a2 h1
  have Js:Held S1 cur own:=⟨i1,by rw [u1];exact hh.len,by rw [u1];exact hh.cur,a3⟩
  by_cases h2:¬ c1.code=170\/mode < 0
  ·rw [uD e1 h1 h2]
   exact⟨fun h=>absurd h h1,fun _=>Js,a3,fun h=>absurd h Bool.false_ne_true⟩
  obtain⟨S2,c2,e2⟩:∃ Sx cx,aV fs xs root (n+2) S1 (yT cur p mode)=(Sx,cx):=⟨_,_,rfl⟩
  obtain⟨b1,b2⟩:=S9 e2
  have tP:Held S2 cur own:=⟨Js.KI e2,by rw [b1];exact Js.len,by rw [b1];exact Js.cur,by rw [b2];exact a3⟩
  by_cases h3:¬ c2.code=0/\¬ c2.code=171
  ·rw [Et e1 h1 h2 e2 h3]
   exact⟨fun h=>absurd h h3.1,fun _=>tP,tP.pk,fun h=>absurd h Bool.false_ne_true⟩
  obtain⟨S3,c3,e3⟩:∃ Sx cx,aV fs xs root (n+3) S2 (gF cur p)=(Sx,cx):=⟨_,_,rfl⟩
  obtain⟨d1,d2,d3⟩:=EG tP.len tP.inv tP.cur tP.pk e3
  have hm:mode < 0->False:=fun h=>h2 (.inr h)
  by_cases h4:c3.code=0
  ·rw [wX e1 h1 h2 e2 h3 e3 h4]
   exact⟨fun _=>d1 h4,fun h=>absurd rfl h,d3,fun _=>hm⟩
  rw [yV e1 h1 h2 e2 h3 e3 h4]
  have u3:=d2 h4
  exact⟨fun h=>absurd h h4,fun _=>⟨tP.KI e3,by rw [u3];exact tP.len,by rw [u3];exact tP.cur,d3⟩,d3,fun _=>hm⟩
theorem Held.close (hI:Inv S) (hl:S.us.length=3) (hg:∃ t,aB.get S.us cur=some t) {next:Int} (hn:∃ t,aB.get S.us next=some t) (hne:next≠cur) (hpk:S.av<=3) (e:aV fs xs root n S (eu cur)=(S2,c2)):Held S2 next true:=by
  obtain⟨t,hg⟩:=hg
  obtain⟨u,hn⟩:=hn
  obtain⟨h1,h2⟩:=y9 e hg
  refine⟨by have:=hI.aV (fs:=fs) (xs:=xs) (root:=root) (n:=n) (c:=eu cur);rw [e] at this;exact this,?_,fun _=>⟨u,?_⟩,by rw [h2];exact hpk⟩
  ·have:=mI hI.usr (qH hg)
   rw [h1]
   show _=2
   omega
  rw [h1,sI,if_neg hne];exact hn
structure P8 (mode:Int) (len:Nat) (n0:Nat) (h:Int) (r:I8):Prop where
  inv:Inv r.S
  pk:r.S.av<=3
  made:0<=r.made/\r.made<=len
  m0:mode < 0->r.made=0
  n:r.n<=4 * len+1+n0
  bad:r.code≠0->r.S.us.length=1
  ok:r.code=0->Held r.S r.cur r.own/\(r.own=decide (0 < len))/\(r.own=false->r.cur=h)
theorem Held.fail (hh:Held S cur own) {code at_:Int} (_X3:code≠0):(mR fs xs root S n cur own made code at_).S.us.length=1/\Inv (mR fs xs root S n cur own made code at_).S/\(mR fs xs root S n cur own made code at_).S.av<=3/\(mR fs xs root S n cur own made code at_).made=made/\(mR fs xs root S n cur own made code at_).code=code/\(mR fs xs root S n cur own made code at_).n<=n+1:=by
  obtain⟨S2,c2,e2⟩:∃ Sx cx,aV fs xs root (n+1) S (eu cur)=(Sx,cx):=⟨_,_,rfl⟩
  cases own with
  | false=>rw [GK];exact⟨hh.len,hh.inv,hh.pk,rfl,rfl,Nat.le_succ n⟩
  | true=>
    rw [Bq e2]
    obtain⟨t,hg⟩:=hh.cur rfl
    obtain⟨h1,h2⟩:=y9 e2 hg
    refine⟨?_,hh.KI e2,by show S2.av<=3;rw [h2];exact hh.pk,rfl,rfl,Nat.le_refl _⟩
    have h3:=mI hh.inv.usr (qH hg)
    have h4:S.us.length=2:=hh.len
    show S2.us.length=1
    rw [h1]
    omega
theorem uL {h0:Int} {n0 len:Nat}:∀ (r:List ByteArray) (i:Int) (S:aG) (n:Nat) (cur:Int) (own:Bool) (made:Int),Held S cur own->0<=made->made+r.length<=len->(mode < 0->made=0)->(own=true->n+4 * r.length<=4 * len+n0/\r.length < len)->(own=false->n=n0/\r.length=len/\cur=h0)->P8 mode len n0 h0 (gI fs xs root mode r i S n cur own made)
  | [],i,S,n,cur,own,made,hh,hm,hml,hm0,hn,hf=>by
    rw [Er]
    simp only [List.length_nil] at hml hn hf
    refine⟨hh.inv,hh.pk,⟨hm,by show made<=_;omega⟩,hm0,?_,fun h=>absurd rfl h,fun _=>⟨hh,?_,fun ho=>(hf ho).2.2⟩⟩
    ·show n<=_
     cases own with
     | true=>have:=(hn rfl).1;omega
     | false=>have:=(hf rfl).1;omega
    show own=_
    cases own with
    | true=>have:=(hn rfl).2;exact (decide_eq_true (by omega)).symm
    | false=>have:=(hf rfl).2.1;exact (decide_eq_false (by omega)).symm
  | p::r,i,S,n,cur,own,made,hh,hm,hml,hm0,hn,hf=>by
    obtain⟨a,ha⟩:∃ a,dh fs xs root S n cur p mode=a:=⟨_,rfl⟩
    have hs:P7 (mode:=mode) S cur own a:=by rw [← ha];exact hh.step
    have hna:a.n<=n+3:=by rw [← ha];exact GJ
    have ED:Inv a.S:=by rw [← ha];exact Bp hh.inv
    obtain⟨m2,hm2⟩:∃ m2,(if a.made=true then made+1 else made)=m2:=⟨_,rfl⟩
    have P5:0<=m2/\m2<=made+1:=by rw [← hm2];split<;>omega
    have P9:mode < 0->m2=0:=fun hq=>by
      rw [← hm2,if_neg (fun h=>hs.made h hq)];exact hm0 hq
    rw [List.length_cons] at hml hn hf
    have hnn:n+4 * (r.length+1)<=4 * len+n0:=by
      cases own with
      | true=>exact (hn rfl).1
      | false=>have:=hf rfl;omega
    by_cases hc:a.code=0
    ·obtain⟨o1,o2,o3,o4⟩:=hs.ok hc
     by_cases ho:own=true
     ·subst ho
      obtain⟨S2,c2,e2⟩:∃ Sx cx,aV fs xs root (a.n+1) a.S (eu cur)=(Sx,cx):=⟨_,_,rfl⟩
      have h2:Held S2 a.next true:=Held.close ED o1 (o2 rfl) o3 (o4 rfl) hs.pk e2
      by_cases hc2:c2.code=0
      ·rw [yU (by rw [ha];exact hc) rfl (by rw [ha,e2];exact hc2),ha,e2,hm2]
       exact uL r _ _ _ _ _ _ h2 P5.1 (by omega) P9 (fun _=>⟨by omega,by omega⟩) (fun h=>absurd h (by decide))
      rw [CA (by rw [ha];exact hc) rfl (by rw [ha,e2];exact hc2),ha,e2,hm2]
      show P8 mode len n0 h0 (mR fs xs root S2 (a.n+1) a.next true m2 c2.code i)
      obtain⟨f1,f2,f3,f4,f5,f6⟩:=h2.fail (fs:=fs) (xs:=xs) (root:=root) (n:=a.n+1) (made:=m2) (at_:=i) hc2
      exact⟨f2,f3,by rw [f4];omega,by rw [f4];exact P9,by omega,fun _=>f1,fun h=>absurd (f5.symm.trans h) hc2⟩
     have ho:own=false:=by simpa using ho
     subst ho
     rw [Bn (by rw [ha];exact hc) (by decide),ha,hm2]
     have:=hf rfl
     exact uL r _ _ _ _ _ _ ⟨ED,o1,fun _=>o3,hs.pk⟩ P5.1 (by omega) P9 (fun _=>⟨by omega,by omega⟩) (fun h=>absurd h (by decide))
    rw [uz (by rw [ha];exact hc),ha,hm2]
    obtain⟨f1,f2,f3,f4,f5,f6⟩:=(hs.bad hc).fail (fs:=fs) (xs:=xs) (root:=root) (n:=a.n) (made:=m2) (at_:=i) hc
    exact⟨f2,f3,by rw [f4];omega,by rw [f4];exact P9,by omega,fun _=>f1,fun h=>absurd (f5.symm.trans h) hc⟩
end h
end
section
open Go.RowKit Go.Maps bF aB
section e
variable {β:Bs} {fs:List bq} {xs:List bP} {root:Int} {ns:List aL} {X:FM}
abbrev newP (β:Bs) (B:Option Addr) (ns:List aL) (Bf:Option Addr) (bf:Nat) (fs:List bq) (Ba:Option Addr) (ba:Nat) (xs:List bP):List HP:=[.abs (lC β (fun β'=>∃ K,aI β' B ns K)),.abs (aJ 139 2 Bf fs.length bf (bW fN fs)),.abs (aJ 136 5 Ba xs.length ba (bW gq xs))]
abbrev O0 (B:Option Addr) (n cp:Nat) (root:Int) (X:FM) (Bf:Option Addr) (nf bf:Nat) (Ba:Option Addr) (na ba:Nat):Array Value:=#[.agg #[.slice B n cp],.int .i64 root,.agg #[.int .i64 X.cN,.int .i64 X.cB,.int .i64 X.cH,.int .i64 X.cS,.int .i64 X.cZ],.agg #[.slice Bf nf bf,.slice Ba na ba]]
theorem Hl {Bf Ba:Option Addr} (B:Option Addr) (cp:Nat) (hB:iJ ns 1048576) (bf ba:Nat) (mA:ji fs 2097152) (hab:eG xs 1048576) :
    bD Tryz.prog β 26 (O0 B ns.length cp root X Bf fs.length bf Ba xs.length ba) (newP β B ns Bf bf fs Ba ba xs) (fun β' v l=>(dg X ns root≠0/\v=.tuple #[.pointer none,.int .i64 (dg X ns root)]/\l=[])\/(dg X ns root=0/\∃ (N:tL X ns) (G:WG) (V:WV),v=.tuple #[vP G.w,.int .i64 0]/\l=[wA G fs xs root N.1 V []]/\fL β' G.Z xs)):=
  bD.Kc fun β1 _ ⟨K,hG⟩=>bD.R7 fun D6 hL=>by
    obtain⟨F,h1,h2⟩:=hL.get 0 rfl
    obtain⟨F',h1',h2'⟩:=hL.get 1 rfl
    exact QL B cp (hG.le hL.le) hB bf ba (cW.jM h1 h2 rfl) mA (cW.jM h1' h2' rfl) hab
theorem O3 (h0:dg X ns root=0) {Bf Ba:Option Addr} (B:Option Addr) (cp:Nat) (hB:iJ ns 1048576) (bf ba:Nat) (mA:ji fs 2097152) (hab:eG xs 1048576) :
    Spec Tryz.prog β 26 (O0 B ns.length cp root X Bf fs.length bf Ba xs.length ba) (newP β B ns Bf bf fs Ba ba xs) (fun v l=>∃ (N:tL X ns) (G:WG) (V:WV),v=.tuple #[vP G.w,.int .i64 0]/\l=[.abs (lC β (fun β'=>fL β' G.Z xs)),wA G fs xs root N.1 V []]):=
  (bD.Pu (ι:=tL X ns×WG×WV) (vv:=fun x=>.tuple #[vP x.2.1.w,.int .i64 0]) (ll:=fun x=>[wA x.2.1 fs xs root x.1.1 x.2.2 []]) (Φ:=fun x β'=>fL β' x.2.1.Z xs)
    ((Hl (X:=X) B cp hB bf ba mA hab).mono (by
      rintro β' v l _ (⟨h,_⟩|⟨_,N,G,V,h1,h2,h3⟩)
      ·exact absurd h0 h
      exact⟨(N,G,V),h1,h2,h3⟩))).mono (by rintro v l ⟨⟨N,G,V⟩,h1,h2⟩;exact⟨N,G,V,h1,h2⟩)
theorem MR (h0:¬ dg X ns root=0) {Bf Ba:Option Addr} (B:Option Addr) (cp:Nat) (hB:iJ ns 1048576) (bf ba:Nat) (mA:ji fs 2097152) (hab:eG xs 1048576) :
    Spec Tryz.prog β 26 (O0 B ns.length cp root X Bf fs.length bf Ba xs.length ba) (newP β B ns Bf bf fs Ba ba xs) (fun v l=>v=.tuple #[.pointer none,.int .i64 (dg X ns root)]/\l=[]):=
  ((Hl (X:=X) B cp hB bf ba mA hab).mono (by
      rintro β' v l _ (⟨_,h1,h2⟩|⟨h,_⟩)
      ·exact⟨h1,h2⟩
      exact absurd h h0)).Gm
end e
end
section
open Go.RowKit Go.Maps bF aB
attribute [local irreducible] ak aR af aj
noncomputable abbrev Ho (b1:Nat) (A:Option Addr) (ns:List aL) (c) (root) (X:FM) (Af) (fs:List bq) (cf) (Aa) (xs:List bP) (ca):=(.blk b1 [.slice A (ns.length) (c),vI (root),vI (X.cN),vI (X.cB),vI (X.cH),vI (X.cS),vI (X.cZ),.slice Af (fs.length) (cf),.slice Aa (xs.length) (ca)] 34:HP)
noncomputable abbrev Qa (B)(ns:List aL) (cp) (root) (X:FM):=([(6,.agg #[.slice B (ns.length) (cp)]),(8,vI (root)),(10,.agg #[vI (X.cN),vI (X.cB),vI (X.cH),vI (X.cS),vI (X.cZ)])]:Fr)
noncomputable abbrev Vk (root)(X:FM):=([(8,vI (root)),(10,.agg #[vI (X.cN),vI (X.cB),vI (X.cH),vI (X.cS),vI (X.cZ)])]:Fr)
theorem EH {β:Bs} (A:Option Addr) (c:Nat) (ns:List aL) (Y:Lay) (hG:aI β A ns Y) (hB:iJ ns 1048576) (X:FM) (root:Int) (Af:Option Addr) (cf:Nat) (fs:List bq) (hF:cW β Af (bW fN fs)) (mA:ji fs 2097152) (Aa:Option Addr) (ca:Nat) (xs:List bP) (hA:cW β Aa (bW gq xs)) (hab:eG xs 1048576) :
    bD Tryz.prog β 8 #[.agg #[.slice A (ns.length) (c),vI (root),vI (X.cN),vI (X.cB),vI (X.cH),vI (X.cS),vI (X.cZ),.slice Af (fs.length) (cf),.slice Aa (xs.length) (ca)]] [] (fun β' v l=>(dg X ns root≠0/\v=.tuple #[.pointer none,vI (dg X ns root)]/\l=[])\/(dg X ns root=0/\∃ (N:tL X ns) (G:WG) (V:WV),v=.tuple #[vP G.w,vI 0]/\l=[wA G fs xs root N.1 V []]/\fL β' G.Z xs)):=by
 refine bD.enter Tryz.func8 rfl Tryz.ntmps8 (Nat.le_of_ble_eq_true rfl) (fun hle0 R=>?_)
 refine SR (gN 3 (fun b1=>[(1,vP b1)]) (fun _=>[]) (fun _=>[]) (fun b1=>.blk b1 [.slice A (ns.length) (c),vI (root),vI (X.cN),vI (X.cB),vI (X.cH),vI (X.cS),vI (X.cZ),.slice Af (fs.length) (cf),.slice Aa (xs.length) (ca)] 34) (fun b1=>?_))
 refine NN (af.seq ?_)
 by_cases h0:dg X ns root=0
 ·refine af.pX (S:=[Ho b1 A ns c root X Af fs cf Aa xs ca]) [(true,0),(true,1),(true,3),(true,4),(true,5),(true,6),(true,7),(true,8),(false,2),(false,9),(false,10),(true,11),(true,12),(true,13),(false,14)] [1] (by kernel_rfl) (by kernel_rfl) rfl (by kernel_rfl) ?_
  refine gG [(false,2),(false,9),(false,10),(true,11),(true,12),(true,13),(false,14)] ([(5,.agg #[.slice A (ns.length) (c)])]++Vk root X++[(12,.agg #[.slice Af (fs.length) (cf),.slice Aa (xs.length) (ca)])]) [0,1,3,4,5,6,7,8] [(1,a_ 0 b1),(3,a_ 0 b1),(5,A_ 0 b1 5),(7,A_ 0 b1 2)] ?_
  refine fk.cut (ι:=(Option Addr)×Nat) (fr':=fun ((B,cp):(Option Addr)×Nat)=>(Qa B ns cp root X++[(12,.agg #[.slice Af (fs.length) (cf),.slice Aa (xs.length) (ca)])])) (hp':=fun ((B,cp):(Option Addr)×Nat)=>[.abs (lC β (fun β'=>∃ K,aI β' B ns K)),.abs R,Ho b1 A ns c root X Af fs cf Aa xs ca]) [2] (by kernel_rfl) ?_ rfl (fun _=>by kernel_rfl) ?_
  ·refine gL [] (xM (β:=β) A c ns Y hG (zo hB) (EU hB)) ?_
   rintro _ _ ⟨B,cp,rfl,rfl⟩
   refine NL ?_
   exact MD (B,cp) [6,8,10,12] [0,1,2]
  rintro⟨B,cp⟩
  refine fk.cut (ι:=(Option Addr)×Nat×(Option Addr)×Nat) (fr':=fun ((Bf,bf,Ba,ba):(Option Addr)×Nat×(Option Addr)×Nat)=>(Qa B ns cp root X++[(13,.agg #[.slice Bf (fs.length) (bf),.slice Ba (xs.length) (ba)])])) (hp':=fun ((Bf,bf,Ba,ba):(Option Addr)×Nat×(Option Addr)×Nat)=>[.abs (aJ 139 2 Bf fs.length bf (bW fN fs)),.abs (aJ 136 5 Ba xs.length ba (bW gq xs)),.abs (lC β (fun β'=>∃ K,aI β' B ns K)),.abs R,Ho b1 A ns c root X Af fs cf Aa xs ca]) [4] (by kernel_rfl) ?_ rfl (fun _=>by kernel_rfl) ?_
  ·refine gL [] (xO (β:=β) Af cf fs hF mA.len Aa ca xs hA (Nat.le_trans hab.len (by decide))) ?_
   rintro _ _ ⟨Bf,bf,Ba,ba,rfl,rfl⟩
   refine NL ?_
   exact MD (Bf,bf,Ba,ba) [6,8,10,13] [0,1,2,3,4]
  rintro⟨Bf,bf,Ba,ba⟩
  refine fk.cut (ι:=(tL X ns)×WG×WV) (fr':=fun ((N,G,V):(tL X ns)×WG×WV)=>[(14,.tuple #[vP G.w,vI 0])]) (hp':=fun ((N,G,V):(tL X ns)×WG×WV)=>[.abs (lC β (fun β'=>fL β' G.Z xs)),wA G fs xs root N.1 V ([]),.abs R,.blk b1 [.slice A (ns.length) (c),vI (root),vI (X.cN),vI (X.cB),vI (X.cH),vI (X.cS),vI (X.cZ),.slice Af (fs.length) (cf),.slice Aa (xs.length) (ca)] 34]) [3] (by kernel_rfl) ?_ rfl (fun _=>by kernel_rfl) ?_
  ·refine gL [2,0,1] (O3 (β:=β) (X:=X) (Bf:=Bf) (Ba:=Ba) h0 B cp hB bf ba mA hab) ?_
   rintro _ _ ⟨N,G,V,rfl,rfl⟩
   refine NL ?_
   exact MD (N,G,V) [14] [0,1,2,3]
  rintro⟨N,G,V⟩
  refine gG [(false,14)] [(2,vP G.w),(16,vI 0)] [11,12,13] [] ?_
  refine fk.last (by kernel_rfl) ?_
  refine gK 1 [(3,vI 0)] [] ?_
  refine NL (aj.np (NX (af.ret ?_)))
  refine aj.Gi 0 [1,2,3] (cP:=[wA G fs xs root N.1 V ([]),.abs R,.blk b1 [.slice A (ns.length) (c),vI (root),vI (X.cN),vI (X.cB),vI (X.cH),vI (X.cS),vI (X.cZ),.slice Af (fs.length) (cf),.slice Aa (xs.length) (ca)] 34]) rfl (by kernel_rfl) rfl (fun D6 jY hz=>?_)
  replace hG:=hG.le jY
  replace hF:=hF.le jY
  replace hA:=hA.le jY
  replace hle0:=hle0.trans jY
  exact aj.iQ (v:=.tuple #[vP G.w,vI 0]) (l:=[wA G fs xs root N.1 V ([])]) (aZ:=[]) [] [0,1] hle0 (fun _=>by kernel_rfl) trivial rfl (by kernel_rfl) (.inr ⟨h0,N,G,V,rfl,rfl,hz⟩)
 refine af.pX (S:=[Ho b1 A ns c root X Af fs cf Aa xs ca]) [(true,0),(true,1),(true,3),(true,4),(true,5),(true,6),(true,7),(true,8),(false,2),(false,9),(false,10),(true,11),(true,12),(true,13),(false,14)] [1] (by kernel_rfl) (by kernel_rfl) rfl (by kernel_rfl) ?_
 refine gG [(false,2),(false,9),(false,10),(true,11),(true,12),(true,13),(false,14)] ([(5,.agg #[.slice A (ns.length) (c)])]++Vk root X++[(12,.agg #[.slice Af (fs.length) (cf),.slice Aa (xs.length) (ca)])]) [0,1,3,4,5,6,7,8] [(1,a_ 0 b1),(3,a_ 0 b1),(5,A_ 0 b1 5),(7,A_ 0 b1 2)] ?_
 refine fk.cut (ι:=(Option Addr)×Nat) (fr':=fun ((B,cp):(Option Addr)×Nat)=>(Qa B ns cp root X++[(12,.agg #[.slice Af (fs.length) (cf),.slice Aa (xs.length) (ca)])])) (hp':=fun ((B,cp):(Option Addr)×Nat)=>[.abs (lC β (fun β'=>∃ K,aI β' B ns K)),.abs R,Ho b1 A ns c root X Af fs cf Aa xs ca]) [2] (by kernel_rfl) ?_ rfl (fun _=>by kernel_rfl) ?_
 ·refine gL [] (xM (β:=β) A c ns Y hG (zo hB) (EU hB)) ?_
  rintro _ _ ⟨B,cp,rfl,rfl⟩
  refine NL ?_
  exact MD (B,cp) [6,8,10,12] [0,1,2]
 rintro⟨B,cp⟩
 refine fk.cut (ι:=(Option Addr)×Nat×(Option Addr)×Nat) (fr':=fun ((Bf,bf,Ba,ba):(Option Addr)×Nat×(Option Addr)×Nat)=>(Qa B ns cp root X++[(13,.agg #[.slice Bf (fs.length) (bf),.slice Ba (xs.length) (ba)])])) (hp':=fun ((Bf,bf,Ba,ba):(Option Addr)×Nat×(Option Addr)×Nat)=>[.abs (aJ 139 2 Bf fs.length bf (bW fN fs)),.abs (aJ 136 5 Ba xs.length ba (bW gq xs)),.abs (lC β (fun β'=>∃ K,aI β' B ns K)),.abs R,Ho b1 A ns c root X Af fs cf Aa xs ca]) [4] (by kernel_rfl) ?_ rfl (fun _=>by kernel_rfl) ?_
 ·refine gL [] (xO (β:=β) Af cf fs hF mA.len Aa ca xs hA (Nat.le_trans hab.len (by decide))) ?_
  rintro _ _ ⟨Bf,bf,Ba,ba,rfl,rfl⟩
  refine NL ?_
  exact MD (Bf,bf,Ba,ba) [6,8,10,13] [0,1,2,3,4]
 rintro⟨Bf,bf,Ba,ba⟩
 refine fk.cut (ι:=Unit) (fr':=fun (_:Unit)=>[(14,.tuple #[.pointer none,vI (dg X ns root)])]) (hp':=fun (_:Unit)=>[.abs R,Ho b1 A ns c root X Af fs cf Aa xs ca]) [1] (by kernel_rfl) ?_ rfl (fun _=>by kernel_rfl) ?_
 ·refine gL [2,0,1] (MR (β:=β) (X:=X) (Bf:=Bf) (Ba:=Ba) h0 B cp hB bf ba mA hab) ?_
  rintro _ _ ⟨rfl,rfl⟩
  refine NL ?_
  exact MD () [14] [0,1]
 rintro _
 refine gG [(false,14)] [(2,.pointer none),(16,vI ((dg X ns root)))] [11,12,13] [] ?_
 refine fk.last (by kernel_rfl) ?_
 refine gK 1 [(3,vI ((dg X ns root)))] [] ?_
 refine NL (aj.np (NX (af.ret ?_)))
 exact aj.iQ (v:=.tuple #[.pointer none,vI ((dg X ns root))]) (l:=[]) (aZ:=[]) [] [0] hle0 (fun _=>by kernel_rfl) trivial rfl (by kernel_rfl) (.inl ⟨h0,rfl,rfl⟩)
end
section
open Go.RowKit Go.Maps bF aB
theorem Ta:jT (G4 99):=QG (by decide)
structure XG (S:aG):Prop where
  inv:Inv S
  idx:S.idx=[(1,⟨1,2⟩)]
  us:S.us=[]
  X:S.X=⟨9,99,9,0,0,1,0,0⟩
  o1:∃ l u,obj S.O 1=⟨1,493,0,0,0,0,l,0,false,2,[],⟨#[]⟩,[],u⟩
section v
variable {S:aG}
end v
end
section
open Go.RowKit Go.Maps bF aB
section f
variable {β:Bs} {fs:List bq} {xs:List bP} {root:Int} {ns:List aL} {X:FM}
theorem CS {ns:List aL} (h0:dg X ns root=0) (A:Option Addr) (c:Nat) (Y:Lay) (hG:aI β A ns Y) (hB:iJ ns 1048576) (Af:Option Addr) (cf:Nat) (fs:List bq) (hF:cW β Af (bW fN fs)) (mA:ji fs 2097152) (Aa:Option Addr) (ca:Nat) (xs:List bP) (hA:cW β Aa (bW gq xs)) (hab:eG xs 1048576) :
    bD Tryz.prog β 8 #[Ds A ns.length c root X Af fs.length cf Aa xs.length ca] [] (fun β' v l=>∃ (N:tL X ns) (G:WG) (V:WV),v=.tuple #[vP G.w,.int .i64 0]/\l=[wA G fs xs root N.1 V []]/\fL β' G.Z xs):=
  (EH A c ns Y hG hB X root Af cf fs hF mA Aa ca xs hA hab).mono (by
    rintro β' v l _ (⟨h,_⟩|⟨_,h⟩)
    ·exact absurd h0 h
    exact h)
theorem KJ {ns:List aL} (h0:¬ dg X ns root=0) (A:Option Addr) (c:Nat) (Y:Lay) (hG:aI β A ns Y) (hB:iJ ns 1048576) (Af:Option Addr) (cf:Nat) (fs:List bq) (hF:cW β Af (bW fN fs)) (mA:ji fs 2097152) (Aa:Option Addr) (ca:Nat) (xs:List bP) (hA:cW β Aa (bW gq xs)) (hab:eG xs 1048576) :
    bD Tryz.prog β 8 #[Ds A ns.length c root X Af fs.length cf Aa xs.length ca] [] (fun _ v l=>v=.tuple #[.pointer none,.int .i64 (dg X ns root)]/\l=[]):=
  (EH A c ns Y hG hB X root Af cf fs hF mA Aa ca xs hA hab).mono (by
    rintro β' v l _ (⟨_,h1,h2⟩|⟨h,_⟩)
    ·exact⟨h1,h2⟩
    exact absurd h h0)
theorem E6:eG [] 1048576:=⟨by decide,fun a ha=>by cases ha⟩
end f
end
section
open Go.RowKit Go.Maps bF aB
section w
variable {β:Bs} {G:WG} {fs:List bq} {xs:List bP} {root:Int} {S S1:aG} {V:WV} {tr:List ax} {c1:ax} {n:Nat} {id h:Int}
theorem uM:∀ F w,(fq (wP G fs xs root S V tr)).h F w->w.cell? ⟨G.w,0,none⟩=some (.iface 39 (vP G.w)):=by
  rintro F w ⟨φ,h1,_,_⟩
  exact (gU (h1 0 _ rfl).1 rfl rfl rfl).1
theorem O4 (hrw:(Lit.int .i64 root).wf=true) (hI:Inv S) (hZ:fL β G.Z xs) (hX:eG xs 1048576) (hg:dV β) (id:Int) (how:(Lit.int .i64 id).wf=true) (hW:aV fs xs root 1 S (qP id)=(S1,c1)) :
    bD Tryz.prog β 9 #[.agg #[.iface 39 (vP G.w)],.int .i64 id] [wA G fs xs root S V []] (fun _ v l=>∃ (V':WV) (q:{ l:List ax // l.length=1 }),v=.tuple #[.int .i64 c1.answer,.int .i64 c1.code]/\l=[wA G fs xs root S1 V' q.1]):=
  (He (β:=β) (G:=G) (V:=V) (tr:=[]) (S2:=S1) (c2:=c1) hrw hI (by decide) hZ hX hg id how hW).mono (by
    rintro _ v l _ ⟨V',fJ,h1,h2,h3⟩
    exact⟨V',⟨fJ,h3⟩,h1,h2⟩)
abbrev xh (G:WG) (h:Int) (A:Option Addr) (n pc:Nat) (mode:Int):Array Value:=#[.agg #[.iface 39 (vP G.w)],.int .i64 h,.slice A n pc,.int .i64 mode]
variable {r:I8} {A:Option Addr} {kq:Nat} {ps:List ByteArray} {mode:Int}
theorem MS (hc:r.code=0) (hrw:(Lit.int .i64 root).wf=true) (hI:Inv S) (hn:tr.length=n) (hn2:n<=100) (hZ:fL β G.Z xs) (hX:eG xs 1048576) (hg:dV β) (hE:jt β) (hw:(Lit.int .i64 h).wf=true) (hP:eU β A ps) (hpl:ps.length<=1048576) (hps:∀ i,i < ps.length->(pc ps i).size<=1048576) (hr:gI fs xs root mode ps 0 S n h false 0=r) :
    bD Tryz.prog β 10 (xh G h A ps.length kq mode) [wA G fs xs root S V tr] (fun _ v l=>∃ (V':WV) (q:{ l:List ax // l.length=r.n }),v=.tuple #[.agg #[.int .i64 r.cur,.bool r.own,.int .i64 r.made],.nilIface]/\l=[wA G fs xs root r.S V' q.1]):=
  (zL (V0:=V) (r:=r) hrw hI (by omega) hZ hX hg hE h hw A kq ps hP hpl hps mode (by rw [hn];exact hr)).mono (by
    rintro _ v l _ ⟨V',fJ,h1,(⟨_,h2,h3⟩|⟨h2,_⟩)⟩
    ·exact⟨V',⟨fJ,h1⟩,h2,h3⟩
    exact absurd hc h2)
theorem KL (hc:¬ r.code=0) (hrw:(Lit.int .i64 root).wf=true) (hI:Inv S) (hn:tr.length=n) (hn2:n<=100) (hZ:fL β G.Z xs) (hX:eG xs 1048576) (hg:dV β) (hE:jt β) (hw:(Lit.int .i64 h).wf=true) (hP:eU β A ps) (hpl:ps.length<=1048576) (hps:∀ i,i < ps.length->(pc ps i).size<=1048576) (hr:gI fs xs root mode ps 0 S n h false 0=r) :
    bD Tryz.prog β 10 (xh G h A ps.length kq mode) [wA G fs xs root S V tr] (fun _ v l=>∃ (V':WV) (q:{ l:List ax // l.length=r.n }) (e:Nat) (nm:ByteArray),v=.tuple #[.agg #[.int .i64 0,.bool false,.int .i64 r.made],.iface 92 (vP e)]/\l=[wA G fs xs root r.S V' q.1,.blk e [.int .i64 r.at_,.string nm,.int .i64 r.code] 94]):=
  (zL (V0:=V) (r:=r) hrw hI (by omega) hZ hX hg hE h hw A kq ps hP hpl hps mode (by rw [hn];exact hr)).mono (by
    rintro _ v l _ ⟨V',fJ,h1,(⟨h2,_⟩|⟨_,e,nm,h2,h3⟩)⟩
    ·exact absurd h2 hc
    exact⟨V',⟨fJ,h1⟩,e,nm,h2,h3⟩)
theorem MT (hI:Inv S) (dL:S.us=[]) (hpk:S.av=0) (e:aV fs xs root n S (qP id)=(S1,c1)) (h0:c1.code=0):Held S1 h false/\c1.answer=1:=by
  have bZ:Inv S1:=by have:=hI.aV (fs:=fs) (xs:=xs) (root:=root) (n:=n) (c:=qP id);rw [e] at this;exact this
  have hu:=tD (root:=root) (S:=S) (xs:=bG xs n)
  have key:∀ (S':aG) (c:ax),c.op=1->S'.us=[]->S'.av=0->(bV S' c).2.code=0->(bV S' c).1.us.length=1/\(bV S' c).1.av<=3/\(bV S' c).2.answer=1:=by
    intro S' c hop hu hp hc
    have hm:cU S' { c with answer:=0,code:=230 }=jC S' { c with answer:=0,code:=230 }:=uj (c:={ c with answer:=0,code:=230 }) hop
    unfold bV at hc ⊢
    rw [hm] at hc ⊢
    unfold jC at hc ⊢
    cases hq:aB.get S'.idx ({ c with answer:=0,code:=230 }:ax).other with
    | none=>rw [hq] at hc;exact absurd hc (by show ¬ (141:Int)=0;decide)
    | some t=>
      rw [hq] at hc
      simp only at hc ⊢
      by_cases hk:t.kind=2
      ·rw [if_pos hk] at hc ⊢
       by_cases hl:(S'.us.length:Int) < S'.X.cH
       ·rw [jG hl] at hc ⊢
        refine⟨?_,?_,?_⟩
        ·show (ins _ _ _).length=1
         rw [iE,hu];rfl
        ·show max S'.av _<=3
         rw [hu,hp];decide
        show aB.least S'.us=1
        rw [hu];rfl
       rw [kK hl] at hc
       exact absurd hc (by show ¬ (130:Int)=0;decide)
      rw [if_neg hk] at hc
      exact absurd hc (by show ¬ (173:Int)=0;decide)
  unfold aV bE at e
  split at e
  ·cases e;exact absurd h0 (by rw [Cn.1];decide)
  split at e
  ·cases e;exact absurd h0 (by rw [Cn.1];decide)
  split at e
  ·rename_i q
   rw [Gn] at q
   exact absurd (show (1:Int)=9 from q.2.1) (by decide)
  have:=key (fB root S (bG xs n)) (nM root (qP id)) (by rw [Gn]) (hu.1.trans dL) (hu.2.trans hpk) (by rw [e];exact h0)
  rw [e] at this
  exact⟨⟨bZ,this.1,(fun h=>by cases h),this.2.1⟩,this.2.2⟩
end w
end
end Go.Proofs.YtiehgnlnofhbaaaGreatDoor
