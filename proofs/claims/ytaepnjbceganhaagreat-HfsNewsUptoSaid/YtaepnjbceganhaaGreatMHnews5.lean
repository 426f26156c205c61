/-
  PROVED HERE: lemmas and contracts of functions (texts of this repo, joined; what the claim does not use is left out): H12, Lw, LA, Row, GO, GRef, GW, Lc, HW, Fz, Og, LC, Sb, St, LD, Ns, Oh, Ol, LG, LB, LN.
  CONDITIONS: as the theorems say.
-/
import Derived.Test.YtaepnjbceganhaaGreatMHnews4
import Derived.Test.YtaepnjbceganhaaGreatRows
import Derived.ProofKit
import Derived.OpenShut
import Derived.Carry
import Derived.Deep.Slices
set_option maxRecDepth 100000
set_option maxHeartbeats 4000000
namespace Go.Proofs.YtaepnjbceganhaaGreat
section
open Go.RowKit Go.Maps ck aB
attribute [local irreducible] ak aK af ai
abbrev zN (b2:Nat) (X:FM):=(.blk b2 [vI (X.cN),vI (X.cB),vI (X.cH),vI (X.cS),vI (X.cZ)] 28:HP)
abbrev xK (b1:Nat) (A:Option Addr) (ns:List aE) (c):=(.blk b1 [.slice A (ns.length) (c)] 24:HP)
abbrev oB (b8:Nat) (ns) (k:Nat) (Y:Lay):=(.blk b8 [vI ((nd ns k).id),vI ((nd ns k).kind),vI ((nd ns k).mode),vI ((nd ns k).uid),vI ((nd ns k).gid),vI ((nd ns k).sec),vI ((nd ns k).nano),.slice (Y.dA k) ((nd ns k).data.length) ((Y.dC k)),.string (nd ns k).target,.slice (Y.eA k) ((nd ns k).ah.length) ((Y.eC k))] 55:HP)
abbrev vF (b9:Nat) (ns) (k:Nat):=(.blk b9 [vI ((nd ns k).id),vI ((nd ns k).mode),vI ((nd ns k).uid),vI ((nd ns k).gid),vI ((nd ns k).sec),vI ((nd ns k).nano),vI 0,vI 0,.bool false] 68:HP)
abbrev sU (b1:Nat) (A:Option Addr) (ns) (c) (b7:Nat) (m3:Nat) (t4:Nat) (S:aH) (L:HL) (R:bY):=([xK b1 A ns c,pF b7 m3 t4 S.X,pI m3 L S.idx,kB t4 S L,pO S.O L,pD S.O L,pE S.O L,.abs R]:List HP)
abbrev JM (A:Option Addr) (ns:List aE) (c) (i:Nat) (Y:Lay) (j:Nat):=([(123,.slice A (ns.length) (c)),(124,vI ↑ns.length),(125,vI ↑i),(130,.slice (Y.eA i) ((nd ns i).ah.length) ((Y.eC i))),(131,vI ↑((nd ns i).ah.length)),(132,vI ↑j)]:Fr)
abbrev GI (b1:Nat) (X:FM):=([(2,vP b1),(39,.agg #[vI (X.cN),vI (X.cB),vI (X.cH),vI (X.cS),vI (X.cZ)])]:Fr)
abbrev GJ (b1:Nat) (b7:Nat) (A:Option Addr) (ns:List aE) (c) (k:Nat):=([(2,vP b1),(6,vP b7),(47,.slice A (ns.length) (c)),(48,vI ↑ns.length),(49,vI ↑k)]:Fr)
abbrev DQ (b1:Nat) (b7:Nat) (b8:Nat) (A:Option Addr) (ns:List aE) (c) (k:Nat):=([(2,vP b1),(6,vP b7),(8,vP b8),(47,.slice A (ns.length) (c)),(48,vI ↑ns.length),(49,vI ↑k)]:Fr)
abbrev IQ (b1:Nat) (b7:Nat) (b8:Nat) (A:Option Addr) (ns:List aE) (c) (k:Nat):=([(2,vP b1),(6,vP b7),(8,vP b8),(47,.slice A (ns.length) (c)),(48,vI ↑ns.length),(49,vI ↑k)]:Fr)
abbrev EX (b7:Nat) (b16:Nat):=([(6,vP b7),(11,vP b16)]:Fr)
abbrev IU (S:aH) (ns) (k:Nat) (b7:Nat):=([(118,vI (S.X.used+(((nd ns k).data.length:Nat):Int))),(120,.pointer (some ⟨b7,9,none⟩))]:Fr)
theorem y4 {β:Bs} (A:Option Addr) (c:Nat) (ns:List aE) (Y:Lay) (hG:au β A ns Y) (hl:ns.length<=1048576) (hd:∀ i,i < ns.length->(nd ns i).data.length<=1048576/\(nd ns i).ah.length<=1048576) (hwf:∀ i,i < ns.length->∀ j,j < (nd ns i).ah.length->-9223372036854775808<=(ent ns i j).id/\(ent ns i j).id<=9223372036854775807) (hnm:∀ i,i < ns.length->∀ j,j < (nd ns i).ah.length->(ent ns i j).name.size<=1048576) (X:FM) :
    Spec Tryz.prog β 6 #[.agg #[.slice A (ns.length) (c)],.agg #[vI (X.cN),vI (X.cB),vI (X.cH),vI (X.cS),vI (X.cZ)]] [] (fun v l=>(¬ jm X/\v=.tuple #[.pointer none,vI 179]/\l=[])\/(jm X/\¬ aS ns/\v=.tuple #[.pointer none,vI 140]/\l=[])\/(jm X/\aS ns/\∃ S f m t L,dX X ns ns.length 0 S/\v=.tuple #[vP f,vI 0]/\l=pA f m t L S)):=by
 refine Spec.enter Tryz.func6 rfl Tryz.ntmps6 (Nat.le_of_ble_eq_true rfl) (fun R=>?_)
 refine SR (gN 1 (fun b1=>[(2,vP b1)]) (fun _=>[]) (fun _=>[]) (fun b1=>.blk b1 [.slice A (ns.length) (c)] 24) (fun b1=>?_))
 refine gN 3 (fun b2=>[(3,vP b2)]) (fun _=>[]) (fun _=>[]) (fun b2=>.blk b2 [vI (X.cN),vI (X.cB),vI (X.cH),vI (X.cS),vI (X.cZ)] 28) (fun b2=>?_)
 refine NN (af.seq (SR (gK 2 [(15,vI (X.cN))] [(1,a_ 2 b2)] ?_)))
 refine gL [] (ef X.cN 4096) ?_
 rintro _ _ ⟨rfl,rfl⟩
 refine gK 2 [(18,.bool (!(decide ((0<=X.cN/\X.cN<=4096)))))] [] ?_
 refine ak.d9 18 ((0<=X.cN/\X.cN<=4096)) (fun _=>by kernel_rfl) (fun kS=>?_) (fun kS=>?_)
 ·refine gK 17 [(35,.bool true)] [] ?_
  refine NN (CT (SR (gK 2 [(4,.pointer none),(5,vI 179)] [] ?_)))
  refine NN (af.ret (ai.aj ?_))
  exact RT (.tuple #[.pointer none,vI 179]) [0] (.inl ⟨fun h=>kS h.cN,rfl,rfl⟩)
 refine gK 2 [(20,vI (X.cB))] [(1,a_ 2 b2)] ?_
 refine gL [] (ef X.cB 1099511627776) ?_
 rintro _ _ ⟨rfl,rfl⟩
 refine gK 3 [(24,.bool (!(decide ((0<=X.cB/\X.cB<=1099511627776)))))] [] ?_
 refine ak.d9 24 ((0<=X.cB/\X.cB<=1099511627776)) (fun _=>by kernel_rfl) (fun wS=>?_) (fun wS=>?_)
 ·refine gK 11 [(35,.bool true)] [] ?_
  refine NN (CT (SR (gK 2 [(4,.pointer none),(5,vI 179)] [] ?_)))
  refine NN (af.ret (ai.aj ?_))
  exact RT (.tuple #[.pointer none,vI 179]) [0] (.inl ⟨fun h=>wS h.cB,rfl,rfl⟩)
 refine gK 2 [(26,vI (X.cH))] [(1,a_ 2 b2)] ?_
 refine gL [] (ef X.cH 1024) ?_
 rintro _ _ ⟨rfl,rfl⟩
 refine gK 3 [(30,.bool (!(decide ((0<=X.cH/\X.cH<=1024)))))] [] ?_
 refine ak.d9 30 ((0<=X.cH/\X.cH<=1024)) (fun _=>by kernel_rfl) (fun jR=>?_) (fun jR=>?_)
 ·refine gK 5 [(35,.bool true)] [] ?_
  refine NN (CT (SR (gK 2 [(4,.pointer none),(5,vI 179)] [] ?_)))
  refine NN (af.ret (ai.aj ?_))
  exact RT (.tuple #[.pointer none,vI 179]) [0] (.inl ⟨fun h=>jR h.cH,rfl,rfl⟩)
 refine gK 2 [(32,.agg #[vI (X.cS),vI (X.cZ)])] [(1,A_ 2 b2 2)] ?_
 refine gL [] (fU X.cS X.cZ) ?_
 rintro _ _ ⟨rfl,rfl⟩
 refine gK 2 [(35,.bool (!(decide (cg X.cS X.cZ))))] [] ?_
 refine NN (af.cu (p:=cg X.cS X.cZ) (fun _=>by kernel_rfl) (fun jD=>?_) (fun jD=>?_))
 ·refine SR (gK 2 [(4,.pointer none),(5,vI 179)] [] ?_)
  refine NN (af.ret (ai.aj ?_))
  exact RT (.tuple #[.pointer none,vI 179]) [0] (.inl ⟨fun h=>jD h.now,rfl,rfl⟩)
 have hcap:jm X:=⟨kS,wS,jR,jD⟩
 refine af.skip (NX (af.seq (SR (gK 1 [(36,.agg #[.slice A (ns.length) (c)])] [(0,a_ 1 b1)] ?_))))
 refine gL [] (II A c ns Y hG hl (fun i hi=>⟨Nat.le_trans (hd i hi).1 (by decide),(hd i hi).2⟩) hwf hnm) ?_
 rintro _ _ ⟨rfl,rfl⟩
 refine gK 1 [(38,.bool (!(decide (((if aS ns then 0 else 140):Int)=(0:Int)))))] [] ?_
 refine NN (af.cu (p:=((if aS ns then 0 else 140):Int)=(0:Int)) (fun _=>by kernel_rfl) (fun wT=>?_) (fun wT=>?_))
 ·have L4:¬ aS ns:=fun h=>wT (if_pos h)
  refine SR (gK 2 [(4,.pointer none),(5,vI 140)] [] ?_)
  refine NN (af.ret (ai.aj ?_))
  exact RT (.tuple #[.pointer none,vI 140]) [0] (.inr (.inl ⟨hcap,L4,rfl,rfl⟩))
 have hok:aS ns:=Classical.byContradiction (fun h=>by rw [if_neg h] at wT;exact absurd wT (by decide))
 refine af.skip (NX (af.seq (af.mF (S:=[zN b2 X]) [0,2,3] [.two 1 4,.one 5,.one 6,.one 7] [2] (by kernel_rfl) (by kernel_rfl) rfl (by kernel_rfl) ?_)))
 refine gP (GI b1 X++[(42,vI (X.cH))]) [0,2,3] [(0,A_ 0 b2 5),(2,a_ 0 b2)] ?_
 refine fL.pair (ι:=Nat×Nat) (LM:=Nat) (LO:=Nat) (Gt:=fun (m3:Nat)=>(GI b1 X++[(40,.map (some m3)),(42,vI (X.cH))])) (hpi:=fun (m3:Nat)=>[.abs R,xK b1 A ns c,zN b2 X,.abs (aN Tryz.prog 3 m3 (fun _=>none) 0)]) (Gu:=fun (t5:Nat)=>(GI b1 X++[(43,vP t5)])) (Gv:=fun (t5:Nat)=>[.abs (bH 110 t5 (min (max X.cH 0) 1024) 0 []),.abs R,xK b1 A ns c,zN b2 X]) (fr':=fun ((m3,t4):Nat×Nat)=>[(2,vP b1),(39,.agg #[vI (X.cN),vI (X.cB),vI (X.cH),vI (X.cS),vI (X.cZ)]),(40,.map (some m3)),(43,vP t4)]) (hp':=fun ((m3,t4):Nat×Nat)=>[.abs (bH 110 t4 (min (max X.cH 0) 1024) 0 []),.abs R,xK b1 A ns c,zN b2 X,.abs (aN Tryz.prog 3 m3 (fun _=>none) 0)]) [2] [3] [3] rfl rfl rfl rfl ?_ ?_ ?_ ?_ rfl (fun _=>by kernel_rfl) rfl (fun _=>by kernel_rfl) rfl (fun _=>by kernel_rfl) ?_
 ·refine ak.lQ (d:=(some 40)) (t:=60) (fun _=>by kernel_rfl) Tryz.prog rfl 3 (fun m3=>?_)
  refine NL ?_
  exact MD m3 [2,39,40,42] [0,1,2,3]
 ·rintro m3
  show ak _ _ _ _ _ (GI b1 X++[(40,.map (some m3)),(42,vI (X.cH))]) [.abs R,xK b1 A ns c,zN b2 X,.abs (aN Tryz.prog 3 m3 (fun _=>none) 0)] _
  refine gL [] (Bq X.cH) ?_
  rintro _ _ ⟨t4,rfl,rfl⟩
  refine NL ?_
  exact MD (m3,t4) [2,39,40,43] [0,1,2,3,4]
 ·refine gL [] (Bq X.cH) ?_
  rintro _ _ ⟨t5,rfl,rfl⟩
  refine NL ?_
  exact MD t5 [2,39,43] [0,1,2,3]
 ·rintro t5
  show ak _ _ _ _ _ (GI b1 X++[(43,vP t5)]) [.abs (bH 110 t5 (min (max X.cH 0) 1024) 0 []),.abs R,xK b1 A ns c,zN b2 X] _
  refine ak.lQ (d:=(some 40)) (t:=60) (fun _=>by kernel_rfl) Tryz.prog rfl 3 (fun m6=>?_)
  refine NL ?_
  exact MD (m6,t5) [2,39,40,43] [0,1,2,3,4]
 rintro⟨m3,t4⟩
 refine fL.cut (ι:=Unit) (fr':=fun (_:Unit)=>[(2,vP b1),(44,.agg #[vI (X.cN),vI (X.cB),vI (X.cH),vI (X.cS),vI (X.cZ),.map (some m3),vP t4,vI 0,vI 0,vI 0])]) (hp':=fun (_:Unit)=>[.abs (bH 110 t4 (min (max X.cH 0) 1024) 0 []),.abs R,xK b1 A ns c,zN b2 X,.abs (aN Tryz.prog 3 m3 (fun _=>none) 0)]) [3] rfl rfl ?_ rfl (fun _=>by kernel_rfl) ?_
 ·refine gK 1 [(44,.agg #[vI (X.cN),vI (X.cB),vI (X.cH),vI (X.cS),vI (X.cZ),.map (some m3),vP t4,vI 0,vI 0,vI 0])] [] ?_
  refine NL ?_
  exact MD () [2,44] [0,1,2,3,4]
 rintro _
 refine fL.cut (ι:=Nat) (fr':=fun (b7:Nat)=>[(2,vP b1),(45,vP b7)]) (hp':=fun (b7:Nat)=>[.abs (bH 110 t4 (min (max X.cH 0) 1024) 0 []),.abs R,xK b1 A ns c,zN b2 X,.abs (aN Tryz.prog 3 m3 (fun _=>none) 0),pF b7 m3 t4 { X with last:=0,ah:=0,used:=0 }]) [3] rfl rfl ?_ rfl (fun _=>by kernel_rfl) ?_
 ·refine gN 1 (fun b7=>[(45,vP b7)]) (fun _=>[]) (fun _=>[]) (fun b7=>pF b7 m3 t4 { X with last:=0,ah:=0,used:=0 }) (fun b7=>?_)
  refine NL ?_
  exact MD b7 [2,45] [0,1,2,3,4,5]
 rintro b7
 refine fL.last rfl rfl ?_
 refine gK 1 [(6,vP b7)] [] ?_
 refine NL (ai.np (NX (af.seq (SR ?_))))
 obtain⟨L,Qh⟩:∃ L:HL,L=⟨fun _=>0,fun _=>0,fun _=>none,fun _=>0⟩:=⟨_,rfl⟩
 refine ak.mem (fun w hS=>hS.D2 (bD (fC X).O L) (wB X L).1) ?_
 refine ak.mem (fun w hS=>hS.D2 (bq (fC X).O L) (wB X L).2.1) ?_
 refine ak.mem (fun w hS=>hS.D2 (cE (fC X).O L) (wB X L).2.2) ?_
 have hc:min (max X.cH 0) 1024=X.cH:=by have:=hcap.cH;omega
 refine ak.mem (cO:=[.abs (bH 110 t4 (fC X).X.cH (fC X).av (aT L (fC X).us)),.abs R,.blk b1 [.slice A (ns.length) (c)] 24,.blk b2 [vI (X.cN),vI (X.cB),vI (X.cH),vI (X.cS),vI (X.cZ)] 28,.abs (aN Tryz.prog 3 m3 (aV (aT L (fC X).idx)) ((fC X).idx.length)),.blk b7 [vI ((fC X).X.cN),vI ((fC X).X.cB),vI ((fC X).X.cH),vI ((fC X).X.cS),vI ((fC X).X.cZ),.map (some m3),vP t4,vI ((fC X).X.last),vI ((fC X).X.ah),vI ((fC X).X.used)] 66,.abs (ay (bD ((fC X).O) L)),.abs (ay (bq ((fC X).O) L)),.abs (ay (cE ((fC X).O) L))]) (fun w hS=>by rw [hc,← Bo] at hS;exact hS) ?_
 refine gK 4 [(47,.slice A (ns.length) (c)),(48,vI ↑ns.length),(49,vI 0)] [(1,a_ 2 b1)] ?_
 refine NN (af.block ?_)
 refine af.loop (ι:=Nat×aH×HL) (fun ((k,S,L):Nat×aH×HL)=>(k<=ns.length)/\(j5 X ns k S)) (fun ((k,S,L):Nat×aH×HL)=>ns.length - k) (fun ((k,S,L):Nat×aH×HL)=>(GJ b1 b7 A ns c k)) (fun ((k,S,L):Nat×aH×HL)=>(sU b1 A ns c b7 m3 t4 S L R)) (0,(fC X),L) (idx:=[2,6,47,48,49]) (pk:=[2,5,4,0,6,7,8,1]) (show (0<=ns.length)/\(j5 X ns 0 ((fC X))) from ⟨Nat.zero_le _,GF hcap⟩) (fun _=>by kernel_rfl) rfl (by kernel_rfl) ?_
 rintro⟨k,S,L⟩ ⟨hk,hB⟩
 show af _ _ _ _ (GJ b1 b7 A ns c k) (sU b1 A ns c b7 m3 t4 S L R) _
 refine SR (gK 1 [(50,.bool (decide ((((k:Nat):Int):Int) < (((ns.length:Nat):Int):Int))))] [] ?_)
 refine NN (af.seq (af.aR (p:=(((k:Nat):Int):Int) < (((ns.length:Nat):Int):Int)) (fun _=>by kernel_rfl) (fun h50=>?_) (fun h50=>?_)))
 ·have hk2:k < ns.length:=by omega
  have hdk:=hd k hk2
  have hds:=uF (fun i hi=>(hd i hi).1) hk
  have IJ:=hok.ids k hk2
  have hni:=hB.new hok hk2
  have nj:(Lit.int .i64 (nd ns k).id).wf=true:=WalkArith.wf_i64 (by omega)
  have hkk:=(hok.node k hk2).kind
  have cT:S.X.used=(dL ns k:Int):=by rw [hB.cap]
  have hil:=hB.inv.len
  refine af.skip (NX (af.seq (af.block (SR ?_))))
  refine gN 4 (fun b8=>[(8,vP b8)]) (fun b8=>[(0,p_ ⟨[],some k,none,some ⟨(ar A),aq A,none⟩,none⟩ [((k:Nat):Int)=((k:Nat):Int),k < ns.length,(⟨(ar A),aq A,none⟩:Addr).spot=none,(A:Option Addr)=some ⟨(ar A),aq A,none⟩] ⟨rfl,by omega,rfl,au.hd hG (i:=k) (by omega),trivial⟩),(1,p_ ⟨[.old (.int .i64 ((nd ns k).id)),.old (.int .i64 ((nd ns k).kind)),.old (.int .i64 ((nd ns k).mode)),.old (.int .i64 ((nd ns k).uid)),.old (.int .i64 ((nd ns k).gid)),.old (.int .i64 ((nd ns k).sec)),.old (.int .i64 ((nd ns k).nano)),.old (.slice (Y.dA k) ((nd ns k).data.length) ((Y.dC k))),.old (.string (nd ns k).target),.old (.slice (Y.eA k) ((nd ns k).ah.length) ((Y.eC k)))],none,none,none,none⟩ [(Rd β ⟨(ar A),aq A+k * 10+9,none⟩ (.slice (Y.eA k) ((nd ns k).ah.length) ((Y.eC k)))),(Rd β ⟨(ar A),aq A+k * 10+8,none⟩ (.string (nd ns k).target)),(Rd β ⟨(ar A),aq A+k * 10+7,none⟩ (.slice (Y.dA k) ((nd ns k).data.length) ((Y.dC k)))),(Rd β ⟨(ar A),aq A+k * 10+6,none⟩ (.int .i64 ((nd ns k).nano))),(Rd β ⟨(ar A),aq A+k * 10+5,none⟩ (.int .i64 ((nd ns k).sec))),(Rd β ⟨(ar A),aq A+k * 10+4,none⟩ (.int .i64 ((nd ns k).gid))),(Rd β ⟨(ar A),aq A+k * 10+3,none⟩ (.int .i64 ((nd ns k).uid))),(Rd β ⟨(ar A),aq A+k * 10+2,none⟩ (.int .i64 ((nd ns k).mode))),(Rd β ⟨(ar A),aq A+k * 10+1,none⟩ (.int .i64 ((nd ns k).kind))),(Rd β ⟨(ar A),aq A+k * 10,none⟩ (.int .i64 ((nd ns k).id)))] ⟨au.rd hG (i:=k) (by omega) (j:=9) rfl,au.rd hG (i:=k) (by omega) (j:=8) rfl,au.rd hG (i:=k) (by omega) (j:=7) rfl,au.rd hG (i:=k) (by omega) (j:=6) rfl,au.rd hG (i:=k) (by omega) (j:=5) rfl,au.rd hG (i:=k) (by omega) (j:=4) rfl,au.rd hG (i:=k) (by omega) (j:=3) rfl,au.rd hG (i:=k) (by omega) (j:=2) rfl,au.rd hG (i:=k) (by omega) (j:=1) rfl,au.rd hG (i:=k) (by omega) (j:=0) rfl,trivial⟩),(3,A_ 8 b8 10)]) (fun _=>[]) (fun b8=>.blk b8 [vI ((nd ns k).id),vI ((nd ns k).kind),vI ((nd ns k).mode),vI ((nd ns k).uid),vI ((nd ns k).gid),vI ((nd ns k).sec),vI ((nd ns k).nano),.slice (Y.dA k) ((nd ns k).data.length) ((Y.dC k)),.string (nd ns k).target,.slice (Y.eA k) ((nd ns k).ah.length) ((Y.eC k))] 55) (fun b8=>?_)
  refine NS (gN 13 (fun b9=>[(9,vP b9)]) (fun b9=>[(1,a_ 8 b8),(3,a_ 8 b8),(5,a_ 8 b8),(7,a_ 8 b8),(9,A_ 8 b8 2),(12,A_ 9 b9 9)]) (fun _=>[]) (fun b9=>.blk b9 [vI ((nd ns k).id),vI ((nd ns k).mode),vI ((nd ns k).uid),vI ((nd ns k).gid),vI ((nd ns k).sec),vI ((nd ns k).nano),vI 0,vI 0,.bool false] 68) (fun b9=>?_))
  refine NN (af.seq (SR (gK 2 [(65,vI ((nd ns k).kind))] [(1,a_ 8 b8)] ?_)))
  refine NN (af.block (SR ?_))
  refine gK 2 [(77,.bool (decide (((nd ns k).kind:Int)=(1:Int))))] [] ?_
  refine NN (af.aR (p:=((nd ns k).kind:Int)=(1:Int)) (fun _=>by kernel_rfl) (fun hk1=>?_) (fun hk1=>?_))
  ·refine af.ct (S:=[pF b7 m3 t4 S.X,oB b8 ns k Y,vF b9 ns k]) [0,1,2,3,4,5,6,7,8,9,10,11,12,13] 9 [1,8,9] (by kernel_rfl) (by kernel_rfl) rfl (by kernel_rfl) ?_
   refine gR 0 [9,10,11,12,13] (IQ b1 b7 b8 A ns c k++[(82,.map (some m3)),(84,vI ((nd ns k).id)),(85,.agg #[vI ((nd ns k).id),vI ((nd ns k).mode),vI ((nd ns k).uid),vI ((nd ns k).gid),vI ((nd ns k).sec),vI ((nd ns k).nano),vI 0,vI 0,.bool false]),(87,.slice (Y.dA k) ((nd ns k).data.length) ((Y.dC k)))]) [0,1,2,3,4,5,6,7,8] [(3,a_ 0 b7),(5,a_ 1 b8),(6,A_ 2 b9 9),(8,a_ 1 b8)] ?_
   refine mL [2,9,10] [] (vE (Y.dA k) (Y.dC k) (nd ns k).data (hG.data k (by omega)) (by have:=(hd k (by omega)).1;omega)) ?_ (by rintro _ _ ⟨mG,c11,rfl,rfl⟩;rfl)
   rintro _ _ ⟨mG,c11,rfl,rfl⟩
   refine aG.cut (ι:=Unit) (fr':=fun (_:Unit)=>(DQ b1 b7 b8 A ns c k++[(82,.map (some m3)),(84,vI ((nd ns k).id)),(89,.agg #[vI ((nd ns k).id),vI ((nd ns k).mode),vI ((nd ns k).uid),vI ((nd ns k).gid),vI ((nd ns k).sec),vI ((nd ns k).nano),vI 0,vI 0,.bool false,.slice mG ((nd ns k).data.length) (c11)])])) (hp':=fun (_:Unit)=>([.abs (aC 5 1 mG ((nd ns k).data.length) c11 (cA (nd ns k).data))]++sU b1 A ns c b7 m3 t4 S L R++[oB b8 ns k Y,vF b9 ns k])) [2,9,10] rfl rfl ?_ rfl (fun _=>by kernel_rfl) ?_
   ·refine gK 1 [(89,.agg #[vI ((nd ns k).id),vI ((nd ns k).mode),vI ((nd ns k).uid),vI ((nd ns k).gid),vI ((nd ns k).sec),vI ((nd ns k).nano),vI 0,vI 0,.bool false,.slice mG ((nd ns k).data.length) (c11)])] [] ?_
    refine NL ?_
    exact MD () [2,6,8,47,48,49,82,84,89] [0,1,2,3,4,5,6,7,8,9,10]
   rintro _
   refine mN [2,9,10] (fun b12=>[(90,vP b12)]) (fun _=>[]) (fun b12=>.blk b12 [vI ((nd ns k).id),vI ((nd ns k).mode),vI ((nd ns k).uid),vI ((nd ns k).gid),vI ((nd ns k).sec),vI ((nd ns k).nano),vI 0,vI 0,.bool false,.slice mG ((nd ns k).data.length) (c11)] 72) (fun b12=>?_)
   refine aG.cut (ι:=Unit) (fr':=fun (_:Unit)=>(DQ b1 b7 b8 A ns c k++[(82,.map (some m3)),(84,vI ((nd ns k).id)),(91,.iface 69 (vP b12))])) (hp':=fun (_:Unit)=>([.abs (aC 5 1 mG ((nd ns k).data.length) c11 (cA (nd ns k).data))]++sU b1 A ns c b7 m3 t4 S L R++[oB b8 ns k Y,vF b9 ns k,.blk b12 [vI ((nd ns k).id),vI ((nd ns k).mode),vI ((nd ns k).uid),vI ((nd ns k).gid),vI ((nd ns k).sec),vI ((nd ns k).nano),vI 0,vI 0,.bool false,.slice mG ((nd ns k).data.length) (c11)] 72])) [2,9,10] rfl rfl ?_ rfl (fun _=>by kernel_rfl) ?_
   ·refine gK 1 [(91,.iface 69 (vP b12))] [] ?_
    refine NL ?_
    exact MD () [2,6,8,47,48,49,82,84,91] [0,1,2,3,4,5,6,7,8,9,10,11]
   rintro _
   refine aG.last rfl rfl ?_
   obtain⟨L2,hL2⟩:∃ L2:HL,L2=L.put (dO (nd ns k)) b12 0 mG c11:=⟨_,rfl⟩
   have hfr:=hB.fresh hok (by omega)
   refine ak.mem (fun w hS=>hS.r9 hL2 hfr (o:=(mT (nd ns k))) (i:=5) (j:=11) (ix:=[0,1,2,3,4,6,7,8,9,10]) rfl rfl (by kernel_rfl) rfl (by show (nd ns k).kind≠0;rw [hk1];decide) ((fV (L:=L2) (k:=(dO (nd ns k))) (o:=(mT (nd ns k))) hk1).trans (by rw [show L2.dA (dO (nd ns k))=mG by rw [hL2];exact if_pos rfl,show L2.dC (dO (nd ns k))=c11 by rw [hL2];exact if_pos rfl];rfl)) (by show je (nd ns k).kind=_;rw [hk1]<;>rfl)) ?_
   refine ak.cW [(7,.abs (ay (cE ((bS S (nd ns k)).O) L2)))] (fun w hS=>hS.ud hL2 hfr (o:=(mT (nd ns k))) (i:=7) rfl (by show ¬ (nd ns k).kind=2;rw [hk1];decide)) ?_
   refine ak.mem (cO:=[pD ((bS S (nd ns k)).O) L2,pO ((bS S (nd ns k)).O) L2,xK b1 A ns c,pF b7 m3 t4 S.X,pI m3 L S.idx,kB t4 S L,pE ((bS S (nd ns k)).O) L2,.abs R,oB b8 ns k Y,vF b9 ns k]) (fun w hS=>hS.MZ hL2 (o:=(mT (nd ns k))) (i:=6) (j:=1) (ix:=[0,2,3,4,5,7,8,9,10]) rfl rfl (by kernel_rfl) rfl hk1) ?_
   refine ak.cW [(4,.abs (aN Tryz.prog 3 m3 (aV (aT L2 S.idx)) S.idx.length)),(5,.abs (bH 110 t4 S.X.cH S.av (aT L2 S.us)))] (fun w hS=>by rw [fT hL2 hfr.idx,fT hL2 hfr.us];exact hS) ?_
   have Ct:dh L2 (mH (nd ns k))=.iface 69 (vP b12):=by unfold mH;rw [nk hL2,hk1];rfl
   refine ak.j7 4 (d:=none) (t:=60) (K:=3) (E:=64) (b:=m3) (n:=S.idx.length) (f:=(aV (aT L2 S.idx))) (x:=(.tmp 82)) (ix:=(.tmp 84)) (y:=(.tmp 91)) (key:=.int .i64 ((nd ns k).id)) (u:=.iface 69 (vP b12)) (kl:=(.int .i64 (nd ns k).id)) (n':=(S.idx.length+1)) (f':=(aV (aT L2 (ins (nd ns k).id (mH (nd ns k)) S.idx)))) (fun _=>by kernel_rfl) (by kernel_rfl) (fun _=>by kernel_rfl) (fun _=>by kernel_rfl) (fun _=>by kernel_rfl) dW Tryz.underlying60 (by unfold maxLen;omega) (jf nj) (by rw [eX,hni];rfl) (by rw [← Ct];exact o4 hni) ?_
   refine NL (ai.np (ai.aF (NX (SR ?_))))
   refine gC 6 [] [(2,a_ 8 b8),(5,a_ 3 b7)] [(3,[(7,vI ((nd ns k).id))])] ?_
   refine NN (af.ct (S:=[pF b7 m3 t4 { S.X with last:=(nd ns k).id },oB b8 ns k Y]) [0,1,2,3,4,5,6,7,8,9,10] 10 [3,8] (by kernel_rfl) (by kernel_rfl) rfl (by kernel_rfl) ?_)
   refine gR 0 [10] (GJ b1 b7 A ns c k++IU S ns k b7) [0,1,2,3,4,5,6,7,8,9] [(3,a_ 0 b7),(5,a_ 1 b8),(7,p_ ⟨[],none,none,none,some (vI (S.X.used+(((nd ns k).data.length:Nat):Int)))⟩ [(Value.int .i64 (IntKind.wrap .i64 (S.X.used+(((nd ns k).data.length:Nat):Int))))=(.int .i64 (S.X.used+(((nd ns k).data.length:Nat):Int)))] ⟨aU (by omega) (by omega) (by omega),trivial⟩)] ?_
   refine aG.last rfl rfl ?_
   refine gC 1 [] [(0,a_ 3 b7)] [(3,[(9,vI (S.X.used+(((nd ns k).data.length:Nat):Int)))])] ?_
   refine NL (ai.np (ai.aF (NX (af.region ?_))))
   refine gK 2 [(49,vI ↑(k+1))] [(0,p_ ⟨[],none,none,none,some (vI ↑(k+1))⟩ [(Value.int .i64 (IntKind.wrap .i64 (((k:Nat):Int)+1)))=(.int .i64 ↑(k+1))] ⟨aU (by omega) (by omega) (by omega),trivial⟩)] ?_
   refine NL (ai.cW [(3,.blk b7 [vI ((bS S (nd ns k)).X.cN),vI ((bS S (nd ns k)).X.cB),vI ((bS S (nd ns k)).X.cH),vI ((bS S (nd ns k)).X.cS),vI ((bS S (nd ns k)).X.cZ),.map (some m3),vP t4,vI ((bS S (nd ns k)).X.last),vI ((bS S (nd ns k)).X.ah),vI ((bS S (nd ns k)).X.used)] 66),(4,.abs (aN Tryz.prog 3 m3 (aV (aT L2 (bS S (nd ns k)).idx)) ((bS S (nd ns k)).idx.length))),(5,.abs (bH 110 t4 (bS S (nd ns k)).X.cH (bS S (nd ns k)).av (aT L2 (bS S (nd ns k)).us)))] (fun w hS=>by rw [show (bS S (nd ns k)).idx.length=S.idx.length+1 from gy _ _ _];exact hS) ?_)
   exact ai.turn ((k+1),(bS S (nd ns k)),L2) (idx:=[2,6,47,48,49]) (pk:=[2,3,4,5,1,0,6,7]) (show (((k+1))<=ns.length)/\(j5 X ns ((k+1)) ((bS S (nd ns k)))) from ⟨by omega,uG hok (fun i hi=>(hd i hi).1) (by omega) hB⟩) (by show ns.length - ((k+1)) < ns.length - k;omega) (fun _=>by kernel_rfl) rfl (by kernel_rfl)
  refine SR (gK 2 [(92,.bool (decide (((nd ns k).kind:Int)=(3:Int))))] [] ?_)
  refine NN (af.aR (p:=((nd ns k).kind:Int)=(3:Int)) (fun _=>by kernel_rfl) (fun hk3=>?_) (fun hk3=>?_))
  ·refine af.ct (S:=[pF b7 m3 t4 S.X,oB b8 ns k Y,vF b9 ns k]) [0,1,2,3,4,5,6,7,8,9,10,11,12] 10 [1,8,9] (by kernel_rfl) (by kernel_rfl) rfl (by kernel_rfl) ?_
   refine gR 0 [10,11,12] (IQ b1 b7 b8 A ns c k++[(97,.map (some m3)),(99,vI ((nd ns k).id)),(103,.agg #[vI ((nd ns k).id),vI ((nd ns k).mode),vI ((nd ns k).uid),vI ((nd ns k).gid),vI ((nd ns k).sec),vI ((nd ns k).nano),vI 0,vI 0,.bool false,.string (nd ns k).target])]) [0,1,2,3,4,5,6,7,8,9] [(3,a_ 0 b7),(5,a_ 1 b8),(6,A_ 2 b9 9),(8,a_ 1 b8)] ?_
   refine mN [1,8,9] (fun b13=>[(104,vP b13)]) (fun _=>[]) (fun b13=>.blk b13 [vI ((nd ns k).id),vI ((nd ns k).mode),vI ((nd ns k).uid),vI ((nd ns k).gid),vI ((nd ns k).sec),vI ((nd ns k).nano),vI 0,vI 0,.bool false,.string (nd ns k).target] 75) (fun b13=>?_)
   refine aG.cut (ι:=Unit) (fr':=fun (_:Unit)=>(DQ b1 b7 b8 A ns c k++[(97,.map (some m3)),(99,vI ((nd ns k).id)),(105,.iface 73 (vP b13))])) (hp':=fun (_:Unit)=>(sU b1 A ns c b7 m3 t4 S L R++[oB b8 ns k Y,vF b9 ns k,.blk b13 [vI ((nd ns k).id),vI ((nd ns k).mode),vI ((nd ns k).uid),vI ((nd ns k).gid),vI ((nd ns k).sec),vI ((nd ns k).nano),vI 0,vI 0,.bool false,.string (nd ns k).target] 75])) [1,8,9] rfl rfl ?_ rfl (fun _=>by kernel_rfl) ?_
   ·refine gK 1 [(105,.iface 73 (vP b13))] [] ?_
    refine NL ?_
    exact MD () [2,6,8,47,48,49,97,99,105] [0,1,2,3,4,5,6,7,8,9,10]
   rintro _
   refine aG.last rfl rfl ?_
   obtain⟨L2,hL2⟩:∃ L2:HL,L2=L.put (dO (nd ns k)) b13 0 none 0:=⟨_,rfl⟩
   have hfr:=hB.fresh hok (by omega)
   refine ak.mem (fun w hS=>hS.r9 hL2 hfr (o:=(mT (nd ns k))) (i:=4) (j:=10) (ix:=[0,1,2,3,5,6,7,8,9]) rfl rfl (by kernel_rfl) rfl (by show (nd ns k).kind≠0;rw [hk3];decide) ((tI (L:=L2) (k:=(dO (nd ns k))) (o:=(mT (nd ns k))) hk3).trans (by rfl)) (by show je (nd ns k).kind=_;rw [hk3]<;>rfl)) ?_
   refine ak.cW [(6,.abs (ay (cE ((bS S (nd ns k)).O) L2)))] (fun w hS=>hS.ud hL2 hfr (o:=(mT (nd ns k))) (i:=6) rfl (by show ¬ (nd ns k).kind=2;rw [hk3];decide)) ?_
   refine ak.cW [(5,.abs (ay (bq ((bS S (nd ns k)).O) L2)))] (fun w hS=>hS.xB hL2 (o:=(mT (nd ns k))) (i:=5) rfl (by show ¬ (nd ns k).kind=1;rw [hk3];decide)) ?_
   refine ak.cW [(3,.abs (aN Tryz.prog 3 m3 (aV (aT L2 S.idx)) S.idx.length)),(4,.abs (bH 110 t4 S.X.cH S.av (aT L2 S.us)))] (fun w hS=>by rw [fT hL2 hfr.idx,fT hL2 hfr.us];exact hS) ?_
   have Ct:dh L2 (mH (nd ns k))=.iface 73 (vP b13):=by unfold mH;rw [nk hL2,hk3];rfl
   refine ak.j7 3 (d:=none) (t:=60) (K:=3) (E:=64) (b:=m3) (n:=S.idx.length) (f:=(aV (aT L2 S.idx))) (x:=(.tmp 97)) (ix:=(.tmp 99)) (y:=(.tmp 105)) (key:=.int .i64 ((nd ns k).id)) (u:=.iface 73 (vP b13)) (kl:=(.int .i64 (nd ns k).id)) (n':=(S.idx.length+1)) (f':=(aV (aT L2 (ins (nd ns k).id (mH (nd ns k)) S.idx)))) (fun _=>by kernel_rfl) (by kernel_rfl) (fun _=>by kernel_rfl) (fun _=>by kernel_rfl) (fun _=>by kernel_rfl) dW Tryz.underlying60 (by unfold maxLen;omega) (jf nj) (by rw [eX,hni];rfl) (by rw [← Ct];exact o4 hni) ?_
   refine NL (ai.np (ai.aF (NX (SR ?_))))
   refine gC 6 [] [(2,a_ 8 b8),(5,a_ 2 b7)] [(2,[(7,vI ((nd ns k).id))])] ?_
   refine NN (af.ct (S:=[pF b7 m3 t4 { S.X with last:=(nd ns k).id },oB b8 ns k Y]) [0,1,2,3,4,5,6,7,8,9,10] 10 [2,8] (by kernel_rfl) (by kernel_rfl) rfl (by kernel_rfl) ?_)
   refine gR 0 [10] (GJ b1 b7 A ns c k++IU S ns k b7) [0,1,2,3,4,5,6,7,8,9] [(3,a_ 0 b7),(5,a_ 1 b8),(7,p_ ⟨[],none,none,none,some (vI (S.X.used+(((nd ns k).data.length:Nat):Int)))⟩ [(Value.int .i64 (IntKind.wrap .i64 (S.X.used+(((nd ns k).data.length:Nat):Int))))=(.int .i64 (S.X.used+(((nd ns k).data.length:Nat):Int)))] ⟨aU (by omega) (by omega) (by omega),trivial⟩)] ?_
   refine aG.last rfl rfl ?_
   refine gC 1 [] [(0,a_ 2 b7)] [(2,[(9,vI (S.X.used+(((nd ns k).data.length:Nat):Int)))])] ?_
   refine NL (ai.np (ai.aF (NX (af.region ?_))))
   refine gK 2 [(49,vI ↑(k+1))] [(0,p_ ⟨[],none,none,none,some (vI ↑(k+1))⟩ [(Value.int .i64 (IntKind.wrap .i64 (((k:Nat):Int)+1)))=(.int .i64 ↑(k+1))] ⟨aU (by omega) (by omega) (by omega),trivial⟩)] ?_
   refine NL (ai.cW [(2,.blk b7 [vI ((bS S (nd ns k)).X.cN),vI ((bS S (nd ns k)).X.cB),vI ((bS S (nd ns k)).X.cH),vI ((bS S (nd ns k)).X.cS),vI ((bS S (nd ns k)).X.cZ),.map (some m3),vP t4,vI ((bS S (nd ns k)).X.last),vI ((bS S (nd ns k)).X.ah),vI ((bS S (nd ns k)).X.used)] 66),(3,.abs (aN Tryz.prog 3 m3 (aV (aT L2 (bS S (nd ns k)).idx)) ((bS S (nd ns k)).idx.length))),(4,.abs (bH 110 t4 (bS S (nd ns k)).X.cH (bS S (nd ns k)).av (aT L2 (bS S (nd ns k)).us)))] (fun w hS=>by rw [show (bS S (nd ns k)).idx.length=S.idx.length+1 from gy _ _ _];exact hS) ?_)
   exact ai.turn ((k+1),(bS S (nd ns k)),L2) (idx:=[2,6,47,48,49]) (pk:=[1,2,3,4,0,5,6,7]) (show (((k+1))<=ns.length)/\(j5 X ns ((k+1)) ((bS S (nd ns k)))) from ⟨by omega,uG hok (fun i hi=>(hd i hi).1) (by omega) hB⟩) (by show ns.length - ((k+1)) < ns.length - k;omega) (fun _=>by kernel_rfl) rfl (by kernel_rfl)
  have kq:(nd ns k).kind=2:=by omega
  refine af.ct (S:=[pF b7 m3 t4 S.X,oB b8 ns k Y,vF b9 ns k]) [0,1,2,3,4,5,6,7,8,9,10,11] 7 [1,8,9] (by kernel_rfl) (by kernel_rfl) rfl (by kernel_rfl) ?_
  refine gR 0 [7,8,9,10,11] (IQ b1 b7 b8 A ns c k++[(69,.map (some m3)),(71,vI ((nd ns k).id)),(72,.agg #[vI ((nd ns k).id),vI ((nd ns k).mode),vI ((nd ns k).uid),vI ((nd ns k).gid),vI ((nd ns k).sec),vI ((nd ns k).nano),vI 0,vI 0,.bool false])]) [0,1,2,3,4,5,6] [(3,a_ 0 b7),(5,a_ 1 b8),(6,A_ 2 b9 9)] ?_
  refine aG.cut (ι:=Nat) (fr':=fun (m14:Nat)=>(DQ b1 b7 b8 A ns c k++[(69,.map (some m3)),(71,vI ((nd ns k).id)),(72,.agg #[vI ((nd ns k).id),vI ((nd ns k).mode),vI ((nd ns k).uid),vI ((nd ns k).gid),vI ((nd ns k).sec),vI ((nd ns k).nano),vI 0,vI 0,.bool false]),(73,.map (some m14))])) (hp':=fun (m14:Nat)=>(sU b1 A ns c b7 m3 t4 S L R++[oB b8 ns k Y,vF b9 ns k,.abs (aN Tryz.prog 9 m14 (fun _=>none) 0)])) [1,8,9] rfl rfl ?_ rfl (fun _=>by kernel_rfl) ?_
  ·refine ak.lQ (d:=(some 73)) (t:=77) (fun _=>by kernel_rfl) Tryz.prog rfl 9 (fun m14=>?_)
   refine NL ?_
   exact MD m14 [2,6,8,47,48,49,69,71,72,73] [0,1,2,3,4,5,6,7,8,9,10]
  rintro m14
  refine aG.cut (ι:=Unit) (fr':=fun (_:Unit)=>(DQ b1 b7 b8 A ns c k++[(69,.map (some m3)),(71,vI ((nd ns k).id)),(74,.agg #[vI ((nd ns k).id),vI ((nd ns k).mode),vI ((nd ns k).uid),vI ((nd ns k).gid),vI ((nd ns k).sec),vI ((nd ns k).nano),vI 0,vI 0,.bool false,.map (some m14),.pointer none])])) (hp':=fun (_:Unit)=>(sU b1 A ns c b7 m3 t4 S L R++[oB b8 ns k Y,vF b9 ns k,.abs (aN Tryz.prog 9 m14 (fun _=>none) 0)])) [1,8,9] rfl rfl ?_ rfl (fun _=>by kernel_rfl) ?_
  ·refine gK 1 [(74,.agg #[vI ((nd ns k).id),vI ((nd ns k).mode),vI ((nd ns k).uid),vI ((nd ns k).gid),vI ((nd ns k).sec),vI ((nd ns k).nano),vI 0,vI 0,.bool false,.map (some m14),.pointer none])] [] ?_
   refine NL ?_
   exact MD () [2,6,8,47,48,49,69,71,74] [0,1,2,3,4,5,6,7,8,9,10]
  rintro _
  refine mN [1,8,9] (fun b15=>[(75,vP b15)]) (fun _=>[]) (fun b15=>.blk b15 [vI ((nd ns k).id),vI ((nd ns k).mode),vI ((nd ns k).uid),vI ((nd ns k).gid),vI ((nd ns k).sec),vI ((nd ns k).nano),vI 0,vI 0,.bool false,.map (some m14),.pointer none] 79) (fun b15=>?_)
  refine aG.cut (ι:=Unit) (fr':=fun (_:Unit)=>(DQ b1 b7 b8 A ns c k++[(69,.map (some m3)),(71,vI ((nd ns k).id)),(76,.iface 76 (vP b15))])) (hp':=fun (_:Unit)=>(sU b1 A ns c b7 m3 t4 S L R++[oB b8 ns k Y,vF b9 ns k,.abs (aN Tryz.prog 9 m14 (fun _=>none) 0),.blk b15 [vI ((nd ns k).id),vI ((nd ns k).mode),vI ((nd ns k).uid),vI ((nd ns k).gid),vI ((nd ns k).sec),vI ((nd ns k).nano),vI 0,vI 0,.bool false,.map (some m14),.pointer none] 79])) [1,8,9] rfl rfl ?_ rfl (fun _=>by kernel_rfl) ?_
  ·refine gK 1 [(76,.iface 76 (vP b15))] [] ?_
   refine NL ?_
   exact MD () [2,6,8,47,48,49,69,71,76] [0,1,2,3,4,5,6,7,8,9,10,11]
  rintro _
  refine aG.last rfl rfl ?_
  obtain⟨L2,hL2⟩:∃ L2:HL,L2=L.put (dO (nd ns k)) b15 m14 none 0:=⟨_,rfl⟩
  have hfr:=hB.fresh hok (by omega)
  refine ak.mem (fun w hS=>hS.r9 hL2 hfr (o:=(mT (nd ns k))) (i:=4) (j:=11) (ix:=[0,1,2,3,5,6,7,8,9,10]) rfl rfl (by kernel_rfl) rfl (by show (nd ns k).kind≠0;rw [kq];decide) ((jJ (L:=L2) (k:=(dO (nd ns k))) (o:=(mT (nd ns k))) kq).trans (by rw [BD hL2];rfl)) (by show je (nd ns k).kind=_;rw [kq]<;>rfl)) ?_
  refine ak.mem (fun w hS=>hS.Jy hL2 hfr (o:=(mT (nd ns k))) (i:=6) (j:=10) (ix:=[0,1,2,3,4,5,7,8,9]) rfl rfl (by kernel_rfl) rfl kq rfl) ?_
  refine ak.cW [(6,.abs (ay (bq ((bS S (nd ns k)).O) L2)))] (fun w hS=>hS.xB hL2 (o:=(mT (nd ns k))) (i:=6) rfl (by show ¬ (nd ns k).kind=1;rw [kq];decide)) ?_
  refine ak.cW [(4,.abs (aN Tryz.prog 3 m3 (aV (aT L2 S.idx)) S.idx.length)),(5,.abs (bH 110 t4 S.X.cH S.av (aT L2 S.us)))] (fun w hS=>by rw [fT hL2 hfr.idx,fT hL2 hfr.us];exact hS) ?_
  have Ct:dh L2 (mH (nd ns k))=.iface 76 (vP b15):=by unfold mH;rw [nk hL2,kq];rfl
  refine ak.j7 4 (d:=none) (t:=60) (K:=3) (E:=64) (b:=m3) (n:=S.idx.length) (f:=(aV (aT L2 S.idx))) (x:=(.tmp 69)) (ix:=(.tmp 71)) (y:=(.tmp 76)) (key:=.int .i64 ((nd ns k).id)) (u:=.iface 76 (vP b15)) (kl:=(.int .i64 (nd ns k).id)) (n':=(S.idx.length+1)) (f':=(aV (aT L2 (ins (nd ns k).id (mH (nd ns k)) S.idx)))) (fun _=>by kernel_rfl) (by kernel_rfl) (fun _=>by kernel_rfl) (fun _=>by kernel_rfl) (fun _=>by kernel_rfl) dW Tryz.underlying60 (by unfold maxLen;omega) (jf nj) (by rw [eX,hni];rfl) (by rw [← Ct];exact o4 hni) ?_
  refine NL (ai.np (ai.aF (NX (SR ?_))))
  refine gC 6 [] [(2,a_ 8 b8),(5,a_ 3 b7)] [(3,[(7,vI ((nd ns k).id))])] ?_
  refine NN (af.ct (S:=[pF b7 m3 t4 { S.X with last:=(nd ns k).id },oB b8 ns k Y]) [0,1,2,3,4,5,6,7,8,9,10] 10 [3,8] (by kernel_rfl) (by kernel_rfl) rfl (by kernel_rfl) ?_)
  refine gR 0 [10] (GJ b1 b7 A ns c k++IU S ns k b7) [0,1,2,3,4,5,6,7,8,9] [(3,a_ 0 b7),(5,a_ 1 b8),(7,p_ ⟨[],none,none,none,some (vI (S.X.used+(((nd ns k).data.length:Nat):Int)))⟩ [(Value.int .i64 (IntKind.wrap .i64 (S.X.used+(((nd ns k).data.length:Nat):Int))))=(.int .i64 (S.X.used+(((nd ns k).data.length:Nat):Int)))] ⟨aU (by omega) (by omega) (by omega),trivial⟩)] ?_
  refine aG.last rfl rfl ?_
  refine gC 1 [] [(0,a_ 3 b7)] [(3,[(9,vI (S.X.used+(((nd ns k).data.length:Nat):Int)))])] ?_
  refine NL (ai.np (ai.aF (NX (af.region ?_))))
  refine gK 2 [(49,vI ↑(k+1))] [(0,p_ ⟨[],none,none,none,some (vI ↑(k+1))⟩ [(Value.int .i64 (IntKind.wrap .i64 (((k:Nat):Int)+1)))=(.int .i64 ↑(k+1))] ⟨aU (by omega) (by omega) (by omega),trivial⟩)] ?_
  refine NL (ai.cW [(3,.blk b7 [vI ((bS S (nd ns k)).X.cN),vI ((bS S (nd ns k)).X.cB),vI ((bS S (nd ns k)).X.cH),vI ((bS S (nd ns k)).X.cS),vI ((bS S (nd ns k)).X.cZ),.map (some m3),vP t4,vI ((bS S (nd ns k)).X.last),vI ((bS S (nd ns k)).X.ah),vI ((bS S (nd ns k)).X.used)] 66),(4,.abs (aN Tryz.prog 3 m3 (aV (aT L2 (bS S (nd ns k)).idx)) ((bS S (nd ns k)).idx.length))),(5,.abs (bH 110 t4 (bS S (nd ns k)).X.cH (bS S (nd ns k)).av (aT L2 (bS S (nd ns k)).us)))] (fun w hS=>by rw [show (bS S (nd ns k)).idx.length=S.idx.length+1 from gy _ _ _];exact hS) ?_)
  exact ai.turn ((k+1),(bS S (nd ns k)),L2) (idx:=[2,6,47,48,49]) (pk:=[2,3,4,5,1,6,0,7]) (show (((k+1))<=ns.length)/\(j5 X ns ((k+1)) ((bS S (nd ns k)))) from ⟨by omega,uG hok (fun i hi=>(hd i hi).1) (by omega) hB⟩) (by show ns.length - ((k+1)) < ns.length - k;omega) (fun _=>by kernel_rfl) rfl (by kernel_rfl)
 refine af.exit (ai.aL (ai.aL (ai.bG (NX (af.seq (SR ?_))))))
 refine gK 4 [(123,.slice A (ns.length) (c)),(124,vI ↑ns.length),(125,vI 0)] [(1,a_ 0 b1)] ?_
 refine NN (af.block ?_)
 refine af.loop (ι:=Nat×aH) (fun ((i,S1):Nat×aH)=>(i<=ns.length)/\(dX X ns i 0 S1)) (fun ((i,S1):Nat×aH)=>ns.length - i) (fun ((i,S1):Nat×aH)=>[(6,vP b7),(123,.slice A (ns.length) (c)),(124,vI ↑ns.length),(125,vI ↑i)]) (fun ((i,S1):Nat×aH)=>(sU b1 A ns c b7 m3 t4 S1 L R)) (0,S) (idx:=[6,123,124,125]) (pk:=[0,1,2,3,4,5,6,7]) (show (0<=ns.length)/\(dX X ns 0 0 S) from ⟨Nat.zero_le _,by have h:=hB;rw [show k=ns.length by omega] at h;exact h.ah⟩) (fun _=>by kernel_rfl) rfl (by kernel_rfl) ?_
 rintro⟨i,S1⟩ ⟨hi,hE⟩
 show af _ _ _ _ [(6,vP b7),(123,.slice A (ns.length) (c)),(124,vI ↑ns.length),(125,vI ↑i)] (sU b1 A ns c b7 m3 t4 S1 L R) _
 refine SR (gK 1 [(126,.bool (decide ((((i:Nat):Int):Int) < (((ns.length:Nat):Int):Int))))] [] ?_)
 refine NN (af.seq (af.aR (p:=(((i:Nat):Int):Int) < (((ns.length:Nat):Int):Int)) (fun _=>by kernel_rfl) (fun Ov=>?_) (fun Ov=>?_)))
 ·refine af.skip (NX (af.seq (af.block (SR ?_))))
  refine gN 4 (fun b16=>[(11,vP b16)]) (fun b16=>[(0,p_ ⟨[],some i,none,some ⟨(ar A),aq A,none⟩,none⟩ [((i:Nat):Int)=((i:Nat):Int),i < ns.length,(⟨(ar A),aq A,none⟩:Addr).spot=none,(A:Option Addr)=some ⟨(ar A),aq A,none⟩] ⟨rfl,by omega,rfl,au.hd hG (i:=i) (by omega),trivial⟩),(1,p_ ⟨[.old (.int .i64 ((nd ns i).id)),.old (.int .i64 ((nd ns i).kind)),.old (.int .i64 ((nd ns i).mode)),.old (.int .i64 ((nd ns i).uid)),.old (.int .i64 ((nd ns i).gid)),.old (.int .i64 ((nd ns i).sec)),.old (.int .i64 ((nd ns i).nano)),.old (.slice (Y.dA i) ((nd ns i).data.length) ((Y.dC i))),.old (.string (nd ns i).target),.old (.slice (Y.eA i) ((nd ns i).ah.length) ((Y.eC i)))],none,none,none,none⟩ [(Rd β ⟨(ar A),aq A+i * 10+9,none⟩ (.slice (Y.eA i) ((nd ns i).ah.length) ((Y.eC i)))),(Rd β ⟨(ar A),aq A+i * 10+8,none⟩ (.string (nd ns i).target)),(Rd β ⟨(ar A),aq A+i * 10+7,none⟩ (.slice (Y.dA i) ((nd ns i).data.length) ((Y.dC i)))),(Rd β ⟨(ar A),aq A+i * 10+6,none⟩ (.int .i64 ((nd ns i).nano))),(Rd β ⟨(ar A),aq A+i * 10+5,none⟩ (.int .i64 ((nd ns i).sec))),(Rd β ⟨(ar A),aq A+i * 10+4,none⟩ (.int .i64 ((nd ns i).gid))),(Rd β ⟨(ar A),aq A+i * 10+3,none⟩ (.int .i64 ((nd ns i).uid))),(Rd β ⟨(ar A),aq A+i * 10+2,none⟩ (.int .i64 ((nd ns i).mode))),(Rd β ⟨(ar A),aq A+i * 10+1,none⟩ (.int .i64 ((nd ns i).kind))),(Rd β ⟨(ar A),aq A+i * 10,none⟩ (.int .i64 ((nd ns i).id)))] ⟨au.rd hG (i:=i) (by omega) (j:=9) rfl,au.rd hG (i:=i) (by omega) (j:=8) rfl,au.rd hG (i:=i) (by omega) (j:=7) rfl,au.rd hG (i:=i) (by omega) (j:=6) rfl,au.rd hG (i:=i) (by omega) (j:=5) rfl,au.rd hG (i:=i) (by omega) (j:=4) rfl,au.rd hG (i:=i) (by omega) (j:=3) rfl,au.rd hG (i:=i) (by omega) (j:=2) rfl,au.rd hG (i:=i) (by omega) (j:=1) rfl,au.rd hG (i:=i) (by omega) (j:=0) rfl,trivial⟩),(3,A_ 8 b16 10)]) (fun _=>[]) (fun b16=>.blk b16 [vI ((nd ns i).id),vI ((nd ns i).kind),vI ((nd ns i).mode),vI ((nd ns i).uid),vI ((nd ns i).gid),vI ((nd ns i).sec),vI ((nd ns i).nano),.slice (Y.dA i) ((nd ns i).data.length) ((Y.dC i)),.string (nd ns i).target,.slice (Y.eA i) ((nd ns i).ah.length) ((Y.eC i))] 55) (fun b16=>?_)
  refine NS (gK 4 [(130,.slice (Y.eA i) ((nd ns i).ah.length) ((Y.eC i))),(131,vI ↑((nd ns i).ah.length)),(132,vI 0)] [(1,a_ 8 b16)] ?_)
  refine NN (af.block ?_)
  refine af.loop (ι:=Nat×aH) (fun ((j,S2):Nat×aH)=>(j<=(nd ns i).ah.length)/\(dX X ns i j S2)) (fun ((j,S2):Nat×aH)=>(nd ns i).ah.length - j) (fun ((j,S2):Nat×aH)=>(EX b7 b16++JM A ns c i Y j)) (fun ((j,S2):Nat×aH)=>([oB b16 ns i Y]++sU b1 A ns c b7 m3 t4 S2 L R)) (0,S1) (idx:=[6,11,123,124,125,130,131,132]) (pk:=[8,0,1,2,3,4,5,6,7]) (show (0<=(nd ns i).ah.length)/\(dX X ns i 0 S1) from ⟨Nat.zero_le _,hE⟩) (fun _=>by kernel_rfl) rfl (by kernel_rfl) ?_
  rintro⟨j,S2⟩ ⟨hj,nM⟩
  show af _ _ _ _ (EX b7 b16++JM A ns c i Y j) ([oB b16 ns i Y]++sU b1 A ns c b7 m3 t4 S2 L R) _
  refine SR (gK 1 [(133,.bool (decide ((((j:Nat):Int):Int) < ((((nd ns i).ah.length:Nat):Int):Int))))] [] ?_)
  refine NN (af.seq (af.aR (p:=(((j:Nat):Int):Int) < ((((nd ns i).ah.length:Nat):Int):Int)) (fun _=>by kernel_rfl) (fun Ow=>?_) (fun Ow=>?_)))
  ·have hj2:j < (nd ns i).ah.length:=by omega
   have hi2:i < ns.length:=by omega
   have Ox:=nM.get hi2
   obtain⟨hes,hno,hk2⟩:=nM.look hok hi2 hj2
   have L5:=qd hok hi2 hj2
   have JK:aB.get S2.idx (nd ns i).id=some ⟨(dO (nd ns i)),2⟩:=by rw [Ox];unfold mH;rw [hk2]
   have hge:aB.get S2.idx (ent ns i j).id=some (jy ns (ent ns i j)):=by rw [← L5.2];exact nM.get L5.1
   have IJ:=hok.ids i hi2
   have hiw:(Lit.int .i64 (nd ns i).id).wf=true:=WalkArith.wf_i64 (by omega)
   have Pj:(Lit.int .i64 (ent ns i j).id).wf=true:=WalkArith.wf_i64 (by have:=hwf i hi2 j hj2;omega)
   have hld:=nM.live hok hi2
   have hlt:=nM.live hok L5.1
   have hkd:(obj S2.O (dO (nd ns i))).kind=2:=(nM.inv.kind hld).trans hk2
   have hkt:(obj S2.O (jy ns (ent ns i j)).k).kind=(jy ns (ent ns i j)).kind:=nM.inv.kind hlt
   have h3:(jy ns (ent ns i j)).kind=1\/(jy ns (ent ns i j)).kind=2\/(jy ns (ent ns i j)).kind=3:=(nM.inv.ob _ hlt).2.2
   have hlb:0<=(obj S2.O (jy ns (ent ns i j)).k).links/\(obj S2.O (jy ns (ent ns i j)).k).links<=8192:=nM.inv.lb hlt
   have hel:(obj S2.O (dO (nd ns i))).ah.length<=8192:=nM.inv.fq hld
   have hsz:=hnm i hi2 j hj2
   have hde:=hd i hi2
   have Qi:=nM.inv.hX
   refine af.skip (NX (af.seq (af.block (SR ?_))))
   refine gN 4 (fun b17=>[(13,vP b17)]) (fun b17=>[(0,p_ ⟨[],some j,none,some ⟨(ar (Y.eA i)),aq (Y.eA i),none⟩,none⟩ [((j:Nat):Int)=((j:Nat):Int),j < (nd ns i).ah.length,(⟨(ar (Y.eA i)),aq (Y.eA i),none⟩:Addr).spot=none,((Y.eA i):Option Addr)=some ⟨(ar (Y.eA i)),aq (Y.eA i),none⟩] ⟨rfl,by omega,rfl,cL.hd (hG.ah i (by omega)) (i:=j) (by omega),trivial⟩),(1,p_ ⟨[.old (.string (en (nd ns i).ah j).name),.old (.int .i64 ((en (nd ns i).ah j).id))],none,none,none,none⟩ [(Rd β ⟨(ar (Y.eA i)),aq (Y.eA i)+j * 2+1,none⟩ (.int .i64 ((en (nd ns i).ah j).id))),(Rd β ⟨(ar (Y.eA i)),aq (Y.eA i)+j * 2,none⟩ (.string (en (nd ns i).ah j).name))] ⟨cL.rd (hG.ah i (by omega)) (i:=j) (by omega) (j:=1) rfl,cL.rd (hG.ah i (by omega)) (i:=j) (by omega) (j:=0) rfl,trivial⟩),(3,A_ 9 b17 2)]) (fun _=>[]) (fun b17=>.blk b17 [.string (en (nd ns i).ah j).name,vI ((en (nd ns i).ah j).id)] 81) (fun b17=>?_)
   refine NN (af.seq (af.ct (S:=[pF b7 m3 t4 S2.X,pI m3 L S2.idx,oB b16 ns i Y,.blk b17 [.string (en (nd ns i).ah j).name,vI ((en (nd ns i).ah j).id)] 81]) [0,1,2,3,4,5,6,7,8,9,10,11,12,13,14,15,16,17] 17 [2,3,0,9] (by kernel_rfl) (by kernel_rfl) rfl (by kernel_rfl) ?_))
   refine gR 11 [6,7,8,9,10,11,12,13,14,15,16,17] (EX b7 b16++[(13,vP b17)]++JM A ns c i Y j++[(139,.map (some m3)),(141,vI ((nd ns i).id))]) [0,1,2,3,4,5] [(3,a_ 0 b7),(5,a_ 2 b16)] ?_
   refine aG.eW 1 (d:=(some 142)) (t:=60) (K:=3) (E:=64) (b:=m3) (cnt:=S2.idx.length) (f:=(aV (aT L S2.idx))) (x:=(.tmp 139)) (ix:=(.tmp 141)) (key:=.int .i64 ((nd ns i).id)) (z:=.nilIface) (kl:=(.int .i64 (nd ns i).id)) (q:=(some (dh L ⟨(dO (nd ns i)),2⟩))) (by kernel_rfl) (by kernel_rfl) (fun _=>by kernel_rfl) (fun _=>by kernel_rfl) dW Tryz.underlying60 (fun _=>by kernel_rfl) (jf hiw) (by rw [eX,JK];rfl) (by kernel_rfl) ?_
   refine gR 1 [16,17] (EX b7 b16++JM A ns c i Y j++[(143,vP (L.b (dO (nd ns i)))),(145,.string (en (nd ns i).ah j).name),(149,.map (some m3)),(151,vI ((en (nd ns i).ah j).id))]) [7,8,9,10,11,12,13,14,15] [(2,a_ 3 b17),(6,a_ 0 b7),(8,a_ 3 b17)] ?_
   refine aG.eW 1 (d:=(some 152)) (t:=60) (K:=3) (E:=64) (b:=m3) (cnt:=S2.idx.length) (f:=(aV (aT L S2.idx))) (x:=(.tmp 149)) (ix:=(.tmp 151)) (key:=.int .i64 ((en (nd ns i).ah j).id)) (z:=.nilIface) (kl:=(.int .i64 (ent ns i j).id)) (q:=(some (dh L (jy ns (ent ns i j))))) (by kernel_rfl) (by kernel_rfl) (fun _=>by kernel_rfl) (fun _=>by kernel_rfl) dW Tryz.underlying60 (fun _=>by kernel_rfl) (jf Pj) (by rw [eX,hge];rfl) (by kernel_rfl) ?_
   refine aG.last rfl rfl ?_
   refine gL [5,7] (Di S2.O L (dO (nd ns i)) hkd (ent ns i j).name hsz hno (by omega) (jy ns (ent ns i j)) hkt h3 (by omega)) ?_
   rintro _ _ ⟨rfl,rfl⟩
   refine NL (ai.np (NX (af.region ?_)))
   refine gC 8 [] [(3,a_ 4 b7),(4,p_ ⟨[],none,none,none,some (vI (S2.X.ah+1))⟩ [(Value.int .i64 (IntKind.wrap .i64 (S2.X.ah+1)))=(.int .i64 (S2.X.ah+1))] ⟨aU (by omega) (by omega) (by omega),trivial⟩),(7,a_ 4 b7)] [(4,[(8,vI (S2.X.ah+1))])] ?_
   refine NL (ai.aF (NX (af.region ?_)))
   refine gK 2 [(132,vI ↑(j+1))] [(0,p_ ⟨[],none,none,none,some (vI ↑(j+1))⟩ [(Value.int .i64 (IntKind.wrap .i64 (((j:Nat):Int)+1)))=(.int .i64 ↑(j+1))] ⟨aU (by omega) (by omega) (by omega),trivial⟩)] ?_
   refine NL (ai.cW [(0,.abs (ay (bD ((jA ns S2 (nd ns i) (ent ns i j)).O) L))),(1,.abs (ay (cE ((jA ns S2 (nd ns i) (ent ns i j)).O) L))),(4,.blk b7 [vI ((jA ns S2 (nd ns i) (ent ns i j)).X.cN),vI ((jA ns S2 (nd ns i) (ent ns i j)).X.cB),vI ((jA ns S2 (nd ns i) (ent ns i j)).X.cH),vI ((jA ns S2 (nd ns i) (ent ns i j)).X.cS),vI ((jA ns S2 (nd ns i) (ent ns i j)).X.cZ),.map (some m3),vP t4,vI ((jA ns S2 (nd ns i) (ent ns i j)).X.last),vI ((jA ns S2 (nd ns i) (ent ns i j)).X.ah),vI ((jA ns S2 (nd ns i) (ent ns i j)).X.used)] 66),(5,.abs (aN Tryz.prog 3 m3 (aV (aT L (jA ns S2 (nd ns i) (ent ns i j)).idx)) ((jA ns S2 (nd ns i) (ent ns i j)).idx.length))),(6,.abs (bH 110 t4 (jA ns S2 (nd ns i) (ent ns i j)).X.cH (jA ns S2 (nd ns i) (ent ns i j)).av (aT L (jA ns S2 (nd ns i) (ent ns i j)).us))),(7,.abs (ay (bq ((jA ns S2 (nd ns i) (ent ns i j)).O) L)))] (fun w hS=>by rw [show bq (jA ns S2 (nd ns i) (ent ns i j)).O L=bq S2.O L from Kj];exact hS) ?_)
   exact ai.turn ((j+1),(jA ns S2 (nd ns i) (ent ns i j))) (idx:=[6,11,123,124,125,130,131,132]) (pk:=[2,3,4,5,6,0,7,1,8]) (show (((j+1))<=(nd ns i).ah.length)/\(dX X ns i ((j+1)) ((jA ns S2 (nd ns i) (ent ns i j)))) from ⟨by omega,nM.step hok (by omega) (by omega)⟩) (by show (nd ns i).ah.length - ((j+1)) < (nd ns i).ah.length - j;omega) (fun _=>by kernel_rfl) rfl (by kernel_rfl)
  refine af.exit (ai.aL (ai.aL (ai.bG (ai.aF (NX (af.region ?_))))))
  refine gK 2 [(125,vI ↑(i+1))] [(0,p_ ⟨[],none,none,none,some (vI ↑(i+1))⟩ [(Value.int .i64 (IntKind.wrap .i64 (((i:Nat):Int)+1)))=(.int .i64 ↑(i+1))] ⟨aU (by omega) (by omega) (by omega),trivial⟩)] ?_
  refine NL ?_
  exact ai.turn ((i+1),S2) (idx:=[6,123,124,125]) (pk:=[1,2,3,4,5,6,7,8]) (show (((i+1))<=ns.length)/\(dX X ns ((i+1)) 0 S2) from ⟨by omega,by have h:=nM;rw [show j=(nd ns i).ah.length by omega] at h;exact h.next⟩) (by show ns.length - ((i+1)) < ns.length - i;omega) (fun _=>by kernel_rfl) rfl (by kernel_rfl)
 refine af.exit (ai.aL (ai.aL (ai.bG (NX (SR ?_)))))
 refine gK 3 [(4,vP b7),(5,vI 0)] [] ?_
 refine NN (af.ret ?_)
 exact RT (.tuple #[vP b7,vI 0]) [1,2,3,4,5,6,7] (.inr (.inr ⟨hcap,hok,S1,b7,m3,t4,L,by have h:=hE;rw [show i=ns.length by omega] at h;exact h,rfl,rfl⟩))
end
section
open Go.RowKit Go.Maps ck aB
theorem Cu {b:UInt8} (h0:¬ b=0) (h1:¬ b=47) (h2:¬ b=46):bI ⟨#[b]⟩:=by
  refine⟨Nat.le_refl _,(by show 1<=255;decide),fun e=>h2 ?_,fun e=>?_,fun j hj=>?_⟩
  ·injection e with e
   have e:[b]=[46]:=congrArg Array.toList e
   injection e
  ·injection e with e
   have e:[b]=[46,46]:=congrArg Array.toList e
   injection e with _ e
   cases e
  have:j=0:=by have hj:j < 1:=hj;omega
  subst this
  show ¬ b.toNat=0/\¬ b.toNat=47
  exact⟨fun e=>h0 (UInt8.toNat_inj.1 e),fun e=>h1 (UInt8.toNat_inj.1 e)⟩
theorem uH:cg 0 0:=⟨by decide,by decide,by decide,by decide,by decide⟩
def EY:aE:=⟨1,2,493,0,0,0,0,[],⟨#[]⟩,[⟨⟨#[102]⟩,2⟩]⟩
def M0:aE:=⟨2,1,420,0,0,0,0,[],⟨#[]⟩,[]⟩
def nB:List aE:=[EY,M0]
def IV (room:Int):FM:=⟨9,room,9,0,0,0,0,0⟩
theorem sI {i:Nat} (h:i < nB.length):i=0\/i=1:=by
  have h:i < 2:=h
  omega
theorem L6:aS nB:=by
  refine⟨by decide,fun i hi=>?_,fun i hi=>?_,fun i j hij hj=>?_,by decide,fun i hi j hj=>?_,by decide,fun z=>?_⟩
  ·rcases sI hi with rfl|rfl
   ·exact⟨by decide,by decide,by decide,by decide,uH,fun _=>rfl,fun h=>absurd rfl h,.inl ⟨by decide,rfl⟩⟩
   exact⟨by decide,by decide,by decide,by decide,uH,fun h=>absurd rfl h,fun _=>rfl,.inl ⟨by decide,rfl⟩⟩
  ·rcases sI hi with rfl|rfl<;>exact⟨by decide,by decide⟩
  ·rcases sI hj with rfl|rfl
   ·omega
   have:i=0:=by omega
   subst this;decide
  ·rcases sI hi with rfl|rfl
   ·have hj:j < 1:=hj
    have:j=0:=by omega
    subst this
    exact⟨by decide,Cu (by decide) (by decide) (by decide),by show ¬ fJ ⟨#[102]⟩ ⟨#[]⟩;unfold fJ;decide +kernel⟩
   exact absurd hj (Nat.not_lt_zero j)
  have e:(bX nB nB.length).map (dM nB)=[]:=by decide
  rw [e]
  exact⟨0,rfl⟩
theorem L7 {β:Bs} {B:Option Addr} {e:Nat} (hR:eF β B (cI ⟨fun _=>none,fun i=>if i=0 then some ⟨e,0,none⟩ else none,fun _=>0,fun i=>if i=0 then 1 else 0⟩ nB)) (h1:cL β (some ⟨e,0,none⟩) EY.ah):au β B nB ⟨fun _=>none,fun i=>if i=0 then some ⟨e,0,none⟩ else none,fun _=>0,fun i=>if i=0 then 1 else 0⟩:=by
  have hn:∀ {A:Option Addr},eF β A []:=fun j v hj=>by simp at hj
  refine⟨hR,fun i hi=>?_,fun i hi=>?_⟩
  ·rcases sI hi with rfl|rfl<;>exact hn
  rcases sI hi with rfl|rfl
  ·exact h1
  exact hn
theorem Kk {room:Int} (h:0<=room/\room<=1099511627776):jm (IV room):=⟨by show (0:Int)<=9/\(9:Int)<=4096;decide,h,by show (0:Int)<=9/\(9:Int)<=1024;decide,uH⟩
section ops
variable {S:aH} {c:aQ} {t:Th} {d:Nat}
theorem Cv {O:bO} {us:Used Th} {h:Int} {name:ByteArray} {need:Int} (h1:aB.get us h=some t) (h2:t.kind=2) (h3:(obj O t.k).gone=false) (h4:bI name) (h5:bits BinOp.and .i64 (obj O t.k).mode need=need):cY O us h name need=.ok t.k:=by
  unfold cY
  rw [h1]
  simp only
  rw [if_pos h2,if_neg (by rw [h3];decide),if_pos h4,if_pos h5]
theorem Kl (hop:c.op=1) (h1:aB.get S.idx c.other=some t) (h2:t.kind=2) (h3:(S.us.length:Int) < S.X.cH):mB S c=({ S with O:=aA S.O t.k (fun o=>{ o with opens:=o.opens+1 }),us:=ins (least S.us) t S.us,av:=max S.av ((S.us.length:Int)+1) },{ c with answer:=least S.us,code:=0 }):=by
  unfold mB
  rw [Aa (by exact hop)]
  unfold iU
  simp only
  rw [h1]
  simp only
  rw [if_pos h2,iT h3]
theorem EZ (hop:c.op=2) (ha:cY S.O S.us c.handle c.name 64=.ok d) (hl:aP c.name (obj S.O d).ah=some t) (h2:t.kind=2) (h3:(S.us.length:Int) < S.X.cH):mB S c=({ S with O:=aA S.O t.k (fun o=>{ o with opens:=o.opens+1 }),us:=ins (least S.us) t S.us,av:=max S.av ((S.us.length:Int)+1) },{ c with answer:=least S.us,code:=0 }):=by
  unfold mB
  rw [Ab (by exact hop)]
  unfold eE fo
  simp only
  rw [ha]
  simp only
  rw [hl]
  simp only
  rw [if_neg (by omega),if_neg (by omega),iT h3]
theorem IW (hop:c.op=4) (ha:cY S.O S.us c.handle c.name 192=.ok d) (hm:lq c.mode) (hl:aP c.name (obj S.O d).ah=none) (hr:Room S.X S.idx):mB S c=(iK S d c.name (bQ S.X 2 c.mode),{ c with answer:=0,code:=0 }):=by
  unfold mB
  rw [Ac (by exact hop)]
  unfold fF
  simp only
  rw [ha]
  simp only
  rw [if_pos hm]
  unfold iF cF
  rw [if_pos hl,if_pos hr,if_pos rfl]
end ops
structure E0 (room:Int) (S:aH):Prop where
  inv:Inv S
  idx:S.idx=[(1,⟨1,2⟩),(2,⟨2,1⟩)]
  us:S.us=[]
  X:S.X=⟨9,room,9,0,0,2,1,0⟩
  o1:∃ l u,obj S.O 1=⟨1,493,0,0,0,0,l,0,false,2,[],⟨#[]⟩,[(⟨#[102]⟩,⟨2,1⟩)],u⟩
  o2:∃ u,obj S.O 2=⟨2,420,0,0,0,0,1,0,false,1,[],⟨#[]⟩,[],u⟩
theorem Km {room:Int} {S:aH} (h:dX (IV room) nB nB.length 0 S):E0 room S:=by
  have hi:S.idx=[(1,⟨1,2⟩),(2,⟨2,1⟩)]:=h.idx
  have L8:Inv S:=h.full
  obtain⟨l1,u1,h1⟩:=h.ob 0 (by decide)
  obtain⟨l2,u2,h2⟩:=h.ob 1 (by decide)
  have h1:obj S.O 1=⟨1,493,0,0,0,0,l1,0,false,2,[],⟨#[]⟩,[(⟨#[102]⟩,⟨2,1⟩)],u1⟩:=h1
  have h2:obj S.O 2=⟨2,420,0,0,0,0,l2,0,false,1,[],⟨#[]⟩,[],u2⟩:=h2
  have hl:=L8.links ⟨2,1⟩ (by rw [hi];rfl)
  have hl2:l2=1:=by
    rw [hi] at hl
    have e:gu [(1,⟨1,2⟩),(2,⟨2,1⟩)] S.O 2=1:=by
      show (obj S.O 1).ah.countP _+((obj S.O 2).ah.countP _+0)=1
      rw [h1,h2];rfl
    simp only at hl
    rw [e,h2] at hl
    exact hl
  subst hl2
  exact⟨L8,hi,h.us,h.cap,⟨l1,u1,h1⟩,⟨u2,h2⟩⟩
theorem GK:bI ⟨#[100]⟩:=Cu (by decide) (by decide) (by decide)
def sJ:aQ:=⟨1,0,1,⟨#[]⟩,⟨#[]⟩,none,0,[],0,0,0,0,0,0,0⟩
def rK:aQ:=⟨4,1,0,⟨#[100]⟩,⟨#[]⟩,none,0,[],448,0,0,0,0,0,0⟩
def xL:aQ:=⟨2,1,0,⟨#[100]⟩,⟨#[]⟩,none,0,[],0,0,0,0,0,0,0⟩
theorem L9:bits BinOp.and .i64 493 192=192:=by kernel_rfl
theorem Ma:bits BinOp.and .i64 493 64=64:=by kernel_rfl
section chain
variable {room:Int} {S:aH}
def S1 (S:aH):aH:={ S with O:=aA S.O 1 (fun o=>{ o with opens:=o.opens+1 }),us:=[(1,⟨1,2⟩)],av:=max S.av 1 }
theorem Oy:obj (S1 S).O 1={ obj S.O 1 with opens:=(obj S.O 1).opens+1 }:=rfl
theorem Cw (h:E0 room S):mB S sJ=(S1 S,{ sJ with answer:=1,code:=0 }):=by
  rw [Kl (S:=S) (c:=sJ) (t:=⟨1,2⟩) rfl (by rw [h.idx];rfl) rfl (by rw [h.us,h.X];show (0:Int) < 9;decide),h.us]
  rfl
theorem Mb {X:FM} {O:bO} {o:aO}:obj (cC X (aA O 3 (fun _=>o)) 1 ⟨#[100]⟩ ⟨3,2⟩) 1={ obj O 1 with ah:=eH ⟨#[100]⟩ ⟨3,2⟩ (obj O 1).ah,sec:=X.cS,nano:=X.cZ }:=rfl
theorem Mc (h:E0 room S):∃ S2,mB (S1 S) rK=(S2,{ rK with answer:=0,code:=0 })/\S2.us=[(1,⟨1,2⟩)]/\S2.idx.length=3/\S2.X.cH=9/\cY S2.O S2.us 1 ⟨#[100]⟩ 64=.ok 1/\aP ⟨#[100]⟩ (obj S2.O 1).ah=some ⟨3,2⟩:=by
  obtain⟨l,u,h1⟩:=h.o1
  have e1:obj (S1 S).O 1=⟨1,493,0,0,0,0,l,1,false,2,[],⟨#[]⟩,[(⟨#[102]⟩,⟨2,1⟩)],u⟩:=by
    rw [Oy,h1];rfl
  have hX:(S1 S).X=⟨9,room,9,0,0,2,1,0⟩:=h.X
  have hi:(S1 S).idx=[(1,⟨1,2⟩),(2,⟨2,1⟩)]:=h.idx
  have ha:cY (S1 S).O (S1 S).us 1 ⟨#[100]⟩ 192=.ok 1:=Cv (t:=⟨1,2⟩) rfl rfl (by rw [e1]) GK (by rw [e1];exact L9)
  have hn:aJ (S1 S).X=3:=by rw [hX];rfl
  have e2:obj (iK (S1 S) 1 rK.name (bQ (S1 S).X 2 rK.mode)).O 1=⟨1,493,0,0,0,0,l,1,false,2,[],⟨#[]⟩,[(⟨#[100]⟩,⟨3,2⟩),(⟨#[102]⟩,⟨2,1⟩)],u⟩:=by
    show obj (cC (S1 S).X (aA (S1 S).O (aJ (S1 S).X) (fun _=>_)) 1 ⟨#[100]⟩ ⟨aJ (S1 S).X,2⟩) 1=_
    rw [hn,Mb,e1,hX]
    simp only [eH]
    rw [if_pos (by unfold fJ;decide +kernel)]
  refine⟨_,IW (c:=rK) rfl ha ⟨by decide,by decide⟩ (by rw [e1];rfl) ⟨by rw [hX,hi];show (2:Int) < 9;decide,by rw [hX];show (2:Int) < 1099511627776;decide,by rw [hX];show (1:Int) < 8192;decide⟩,rfl,?_,by show (S1 S).X.cH=9;rw [hX],?_,?_⟩
  ·show (ins _ _ (S1 S).idx).length=3
   rw [hX,hi];rfl
  ·exact Cv (t:=⟨1,2⟩) rfl rfl (by rw [e2]) GK (by rw [e2];exact Ma)
  rw [e2];rfl
theorem Md {S2:aH} (h1:S2.us=[(1,⟨1,2⟩)]) (h2:S2.X.cH=9) (h3:cY S2.O S2.us 1 ⟨#[100]⟩ 64=.ok 1) (h4:aP ⟨#[100]⟩ (obj S2.O 1).ah=some ⟨3,2⟩):∃ S3,mB S2 xL=(S3,{ xL with answer:=2,code:=0 })/\S3.idx=S2.idx:=by
  have h:=EZ (S:=S2) (c:=xL) rfl h3 h4 rfl (by rw [h1,h2];show (1:Int) < 9;decide)
  have e:least S2.us=2:=by rw [h1];rfl
  rw [e] at h
  exact⟨_,h,rfl⟩
structure Qj (room:Int) (ds:List UInt8) (S:aH):Prop where
  inv:Inv S
  idx:S.idx=[(1,⟨1,2⟩),(2,⟨2,1⟩)]
  us:S.us=[(1,⟨1,2⟩),(2,⟨2,1⟩)]
  X:S.X=⟨9,room,9,0,0,2,1,ds.length⟩
  o1:∃ l n u,obj S.O 1=⟨1,493,0,0,0,0,l,n,false,2,[],⟨#[]⟩,[(⟨#[102]⟩,⟨2,1⟩)],u⟩
  o2:∃ u,obj S.O 2=⟨2,420,0,0,0,0,1,1,false,1,ds,⟨#[]⟩,[],u⟩
structure Qk (ds:List UInt8) (S:aH):Prop where
  inv:Inv S
  idx:S.idx=[(1,⟨1,2⟩),(2,⟨2,1⟩)]
  us:S.us=[(1,⟨1,2⟩),(2,⟨2,1⟩)]
  used:S.X.used=ds.length
  o2:∃ s z u,obj S.O 2=⟨2,420,0,0,s,z,0,1,true,1,ds,⟨#[]⟩,[],u⟩
end chain
end
section
open Go.RowKit Go.Maps ck aB
attribute [local irreducible] ak aK af ai
theorem IX {β:Bs} (f m t:Nat) (X:FM):Spec Tryz.prog β 27 #[vP f] [.blk f [vI (X.cN),vI (X.cB),vI (X.cH),vI (X.cS),vI (X.cZ),.map (some m),vP t,vI (X.last),vI (X.ah),vI (X.used)] 66] (fun v l=>v=vI X.used/\l=[.blk f [vI (X.cN),vI (X.cB),vI (X.cH),vI (X.cS),vI (X.cZ),.map (some m),vP t,vI (X.last),vI (X.ah),vI (X.used)] 66]):=by
 refine Spec.enter Tryz.func27 rfl Tryz.ntmps27 (Nat.le_of_ble_eq_true rfl) (fun R=>?_)
 refine SR (gK 1 [] [] ?_)
 refine NS (gK 5 [(2,vI (X.used))] [(3,a_ 0 f)] ?_)
 refine NN (af.ret ?_)
 exact RT (vI (X.used)) [0,1] (⟨rfl,rfl⟩)
theorem GL {β:Bs}:eG Tryz.prog β 10 #[] [] (fun β' v l=>∃ B Y,v=.agg #[.slice B 2 2,vI 9,vI 99,vI 9,vI 0,vI 0]/\l=[]/\au β' B nB Y):=by
 refine eG.enter Tryz.func10 rfl Tryz.ntmps10 (Nat.le_of_ble_eq_true rfl) (fun hle0 R=>?_)
 refine SR (gN 1 (fun b4=>[(0,vP b4)]) (fun _=>[]) (fun _=>[]) (fun b4=>.blk b4 [.slice none (0) (0),vI 0,vI 0,vI 0,vI 0,vI 0] 30) (fun b4=>?_))
 refine NS (gN 4 (fun b5=>[(4,.agg #[vI 1,vI 2,vI 493,vI 0,vI 0,vI 0,vI 0,.slice none (0) (0),.string ⟨#[]⟩,.slice (some ⟨b5,0,none⟩) (1) (1)]),(5,.agg #[vI 2,vI 1,vI 420,vI 0,vI 0,vI 0,vI 0,.slice none (0) (0),.string ⟨#[]⟩,.slice none (0) (0)])]) (fun _=>[]) (fun _=>[]) (fun b5=>.blk b5 [.string ⟨#[102]⟩,vI 2] 81) (fun b5=>?_))
 refine gN 2 (fun b6=>[(7,.agg #[.slice (some ⟨b6,0,none⟩) (2) (2)])]) (fun _=>[]) (fun _=>[]) (fun b6=>.blk b6 [vI 1,vI 2,vI 493,vI 0,vI 0,vI 0,vI 0,.slice none (0) (0),.string ⟨#[]⟩,.slice (some ⟨b5,0,none⟩) (1) (1),vI 2,vI 1,vI 420,vI 0,vI 0,vI 0,vI 0,.slice none (0) (0),.string ⟨#[]⟩,.slice none (0) (0)] 55) (fun b6=>?_)
 refine gN 2 (fun b7=>[(1,vP b7)]) (fun b7=>[(1,a_ 4 b7)]) (fun _=>[]) (fun b7=>.blk b7 [.slice (some ⟨b6,0,none⟩) (2) (2)] 24) (fun b7=>?_)
 refine NS (ak.mem (fun w hS=>hS.uK (i:=2) (b:=b5) (cs:=[.string ⟨#[102]⟩,vI 2]) (e:=81) 2 1 (by kernel_rfl) rfl (by decide)) ?_)
 refine ak.pG (Φ:=fun β'=>cL β' (some ⟨b5,0,none⟩) EY.ah) 2 [0,1,3,4] (cO:=[.abs R,.blk b4 [.slice none (0) (0),vI 0,vI 0,vI 0,vI 0,vI 0] 30,.blk b6 [vI 1,vI 2,vI 493,vI 0,vI 0,vI 0,vI 0,.slice none (0) (0),.string ⟨#[]⟩,.slice (some ⟨b5,0,none⟩) (1) (1),vI 2,vI 1,vI 420,vI 0,vI 0,vI 0,vI 0,.slice none (0) (0),.string ⟨#[]⟩,.slice none (0) (0)] 55,.blk b7 [.slice (some ⟨b6,0,none⟩) (2) (2)] 24]) rfl rfl (by kernel_rfl) (fun F w h β' h1 h2=>eF.kZ h h1 h2) (fun Ql Kn hE=>?_)
 replace hle0:=hle0.trans Kn
 refine ak.mem (fun w hS=>hS.uK (i:=2) (b:=b6) (cs:=[vI 1,vI 2,vI 493,vI 0,vI 0,vI 0,vI 0,.slice none (0) (0),.string ⟨#[]⟩,.slice (some ⟨b5,0,none⟩) (1) (1),vI 2,vI 1,vI 420,vI 0,vI 0,vI 0,vI 0,.slice none (0) (0),.string ⟨#[]⟩,.slice none (0) (0)]) (e:=55) 10 2 (by kernel_rfl) rfl (by decide)) ?_
 refine ak.pG (Φ:=fun β'=>eF β' (some ⟨b6,0,none⟩) (cI ⟨fun _=>none,fun i=>if i=0 then some ⟨b5,0,none⟩ else none,fun _=>0,fun i=>if i=0 then 1 else 0⟩ nB)) 2 [0,1,3] (cO:=[.abs R,.blk b4 [.slice none (0) (0),vI 0,vI 0,vI 0,vI 0,vI 0] 30,.blk b7 [.slice (some ⟨b6,0,none⟩) (2) (2)] 24]) rfl rfl (by kernel_rfl) (fun F w h β' h1 h2=>eF.kZ h h1 h2) (fun Pk rL hR=>?_)
 replace hE:=hE.le rL
 replace hle0:=hle0.trans rL
 refine gC 4 [] [(0,a_ 2 b7),(3,A_ 1 b4 6)] [(1,[(0,.slice (some ⟨b6,0,none⟩) (2) (2)),(1,vI 9),(2,vI 99),(3,vI 9)])] ?_
 refine NN (af.ret ?_)
 exact ai.lF (v:=.agg #[.slice (some ⟨b6,0,none⟩) (2) (2),vI 9,vI 99,vI 9,vI 0,vI 0]) (l:=[]) (bw:=[b4=b4,b4=b4,b4=b4,b4=b4,b4=b4,b4=b4]) [.at 1,.at 1,.at 1,.at 1,.at 1,.at 1] [0] hle0 (fun _=>by kernel_rfl) ⟨rfl,rfl,rfl,rfl,rfl,rfl,trivial⟩ rfl (by kernel_rfl) (⟨_,_,rfl,rfl,L7 hR hE⟩)
end
section
open Go.RowKit Go.WideShapes Go.ChangeShapes Go.ChangeAt Go.Deep
theorem laidOut:laidOutB Tryz.prog=true:=by kernel_rfl
theorem own:ownKnob Tryz.prog.godebug=none:=by kernel_rfl
section row
variable {H:Type} {enc:TypeId×Value->H} {P:Program}
theorem sV (hl:laidOutB P=true) {W W':World} (hb:Below W.heap.size W W') {sp:Nat->Bool}:∀ {ts:List TypeId} {vs:List Value} {ds:List (DataW H)} {ps:List MemPlace},
    (∀ t∈ts,P.readableRec t=true/\t < P.types.size)->DataW.TrodAll enc P W 0 (fun _=>true) true ts vs ds ps->(∀ x∈ps,x.block < W.heap.size)->(∀ x∈ps,sp x.block=true)->DataW.TrodAll enc P W' 0 sp true ts vs ds ps
  | [],vs,ds,ps,_,h,_,_=>by
    obtain⟨rfl,rfl,rfl⟩:=trodAll_nil h
    exact trodAll_mk0
  | t::ts,vs,ds,ps,hr,h,hlt,hsp=>by
    obtain⟨v,vs',d,ds',p,q,rfl,rfl,rfl,h1,h2⟩:=trodAll_cons h
    have h3:=hr t List.mem_cons_self
    exact trodAll_cons_mk (WideElems.Trod_stays hl h3.1 h3.2 h1 (fun x hx=>hb.same (hlt x (List.mem_append.2 (.inl hx)))) (fun x hx=>hsp x (List.mem_append.2 (.inl hx))))
      (sV hl hb (fun t ht=>hr t (List.mem_cons_of_mem _ ht)) h2 (fun x hx=>hlt x (List.mem_append.2 (.inr hx))) (fun x hx=>hsp x (List.mem_append.2 (.inr hx))))
def Oz (P:Program) (f:Func):Bool:=f.params.toList.all fun t=>P.readableRec t && decide (t < P.types.size)
theorem law_post (hl:laidOutB P=true) {f:Func} {s:ChangeSpec} {apart fresh handsOn again:Bool} {W W':World} {args:Array Value} {ds gs:List (DataW H)} {before:List MemPlace} {tb:TypeId} {rb:Bool}
    (hW:DataW.Whole enc P f.params.toList s.vars apart W args.toList ds gs before) (hvars:s.vars=[]) (hrow:Oz P f=true) (hres:f.resultTypes=#[tb]) (hb0:P.underlying tb=some .bool)
    (hfn:(s.fn H (ds++gs)).results=[.lit (.bool rb)]) (hargs:(s.fn H (ds++gs)).args=ds) (hv:(s.fn H (ds++gs)).vars=[]) (hb:Below W.heap.size W W') :
    s.post enc P f apart fresh handsOn again W args (.bool rb) W':=by
  have hW':=hW
  obtain⟨p,q,hA,hV,rfl,_,_⟩:=hW
  rw [hvars] at hV
  obtain⟨rfl,rfl⟩:=trodVars_none hV
  have hlt:∀ x∈p,x.block < W.heap.size:=fun x hx=>hW'.lt x (List.mem_append.2 (.inl hx))
  have hr:∀ t∈f.params.toList,P.readableRec t=true/\t < P.types.size:=fun t ht=>by
    have:=List.all_eq_true.1 hrow t ht
    simpa using this
  refine zO (pa:=p) (pv:=[]) hW' (fun b sp hd=>?_) (fun sp hsp=>?_) (fun sp _=>?_) (by simp) hb ?_
  ·rw [hfn,hres]
   exact trodAll_cons_mk (shut_bool hb0 _) trodAll_mk0
  ·rw [hargs]
   exact sV hl hb hr hA hlt (fun x hx=>hsp x (List.mem_append.2 (.inl hx)))
  ·rw [hvars,hv]
   exact rfl
  exact ok_one hres rfl (okWide_bool_mk hb0 _)
end row
end
section
open Go.RowKit Go.WideShapes Go.ChangeShapes Go.ChangeAt Go.Deep
abbrev B0 (W:World):Bs:=⟨(· < W.heap.size),W⟩
theorem Kp {w:World} {a:Addr} {v:Value} (h:w.cell? a=some v):a.block < w.heap.size:=by
  unfold World.cell? at h
  split at h
  ·rename_i hb;exact lt_of_some hb
  cases h
theorem GN {w:World} {a:Addr} {v:Value} (h:w.cell? a=some v):a.spot=none:=by
  unfold World.cell? at h
  split at h
  ·split at h
   ·cases h
   rename_i h0
   cases hs:a.spot with
   | none=>rfl
   | some x=>rw [hs] at h0;exact absurd rfl h0
  cases h
theorem add_plain {a:Addr} (k:Nat) (h:a.spot=none):a.add k=⟨a.block,a.off+k,none⟩:=by
  obtain⟨b,o,s⟩:=a
  cases h
  unfold Addr.add
  split
  ·rename_i h0;subst h0;rfl
  rfl
theorem Cx {H:Type} {D:Nat->DataW H} {n i:Nat} (hi:i < n):Rows.uptoBulk (D i)<=Rows.uptoBulkAll ((List.range n).map D):=by
  have hm:D i∈(List.range n).map D:=List.mem_map.2 ⟨i,List.mem_range.2 hi,rfl⟩
  generalize (List.range n).map D=l at hm
  induction l with
  | nil=>cases hm
  | cons x r ih=>
    simp only [Rows.uptoBulkAll]
    rcases List.mem_cons.1 hm with e|hm
    ·subst e;omega
    have:=ih hm;omega
theorem IY {H:Type} (d:DataW H):1<=Rows.uptoBulk d:=by
  cases d with
  | lit l=>cases l<;>simp [Rows.uptoBulk]
  | nil=>simp [Rows.uptoBulk]
  | ptr d=>simp [Rows.uptoBulk]
  | slice elems spare=>simp [Rows.uptoBulk]
  | agg parts=>simp [Rows.uptoBulk]
  | iface t d=>simp [Rows.uptoBulk]
  | map entries=>simp [Rows.uptoBulk]
  | held h=>simp [Rows.uptoBulk]
theorem wC {H:Type} (l:List (DataW H)):l.length<=Rows.uptoBulkAll l:=by
  induction l with
  | nil=>simp [Rows.uptoBulkAll]
  | cons x r ih=>have:=IY x;simp only [Rows.uptoBulkAll,List.length_cons];omega
theorem bulk_mem {H:Type} {d:DataW H} {l:List (DataW H)} (h:d∈l):Rows.uptoBulk d<=Rows.uptoBulkAll l:=by
  induction l with
  | nil=>cases h
  | cons x r ih=>
    simp only [Rows.uptoBulkAll]
    rcases List.mem_cons.1 h with e|h
    ·subst e;omega
    have:=ih h;omega
section open_
variable {H:Type} {enc:TypeId×Value->H} {P:Program} {W:World} {sp:Nat->Bool}
theorem wD {α:Type} [Inhabited α] {t e:TypeId} {size:Nat} {f:α->List Value} {Q:α->DataW H->Prop} (ht:P.underlying t=some (.slice e)) (hC:P.cellsOf e=size) (h0:0 < size)
    (hel:∀ n cs x,DataW.trod enc P W 0 sp true n e cs=some x->∃ a,cs=f a/\Q a x.1) (hf:∀ a,(f a).length=size)
    {fuel:Nat} {cs:List Value} {x:DataW H×List MemPlace} (h:DataW.trod enc P W 0 sp true fuel t cs=some x) :
    ∃ A c,∃ xs:List α,∃ D:Nat->DataW H,cs=[.slice A xs.length c]/\xs.length<=c/\c<=maxLen/\eF (B0 W) A (dJ (fun _ a=>f a) 0 xs)/\(∀ i,i < xs.length->Q (xs.getD i default) (D i)) ∧
      Rows.uptoBulkAll ((List.range xs.length).map D)+1<=Rows.uptoBulk x.1:=by
  rcases open_slice ht h with ⟨hv,hx⟩|⟨a,len,cap,m,n,D,Pl,hcs,hb,hl,hm,hmm,hx,hi⟩
  ·subst hv
   refine⟨none,0,[],fun _=>.nil,rfl,Nat.le_refl _,Nat.zero_le _,fun j v hj=>by simp [dJ] at hj,fun i hi=>absurd hi (Nat.not_lt_zero i),?_⟩
   rw [hx]
   simp [Rows.uptoBulk,Rows.uptoBulkAll]
  have Qm:len<=m:=by rw [hmm];split<;>omega
  have hch:∀ i,∃ b:α,i < len->(W.cells? 0 (a.add (i * P.cellsOf e)) (P.cellsOf e)=some (f b)/\Q b (D i)):=fun i=>by
    by_cases hil:i < len
    ·obtain⟨cs',h1,h2⟩:=hi i (by omega)
     obtain⟨b,rfl,h3⟩:=hel _ _ _ h2
     exact⟨b,fun _=>⟨h1,h3⟩⟩
    exact⟨default,fun h=>absurd h hil⟩
  have hg:=fun i=>Classical.choose_spec (hch i)
  generalize hG:(fun i=>Classical.choose (hch i))=g at hg
  have hg:∀ i,i < len->W.cells? 0 (a.add (i * P.cellsOf e)) (P.cellsOf e)=some (f (g i))/\Q (g i) (D i):=fun i hi=>by
    have h1:=hg i hi
    have h2:Classical.choose (hch i)=g i:=congrFun hG i
    rw [h2] at h1
    exact h1
  have hlen:((List.range len).map g).length=len:=by simp
  have hget:∀ i,i < len->((List.range len).map g)[i]?=some (g i):=fun i hi=>by simp [hi]
  have M4:∀ i,i < len->((List.range len).map g).getD i default=g i:=fun i hi=>by rw [List.getD_eq_getElem?_getD,hget i hi];rfl
  have hs1:0 < len->a.spot=none:=fun hl0=>by
    obtain⟨h2,-⟩:=hg 0 hl0
    rw [hC] at h2
    obtain⟨_,hcl,hat⟩:=World.cells?_some h2
    have h3:=hat 0 h0
    rw [List.getElem?_eq_getElem (by rw [hcl];exact h0)] at h3
    have e:(a.add (0 * size)).add 0=a:=by rw [Nat.zero_mul];rfl
    rw [e] at h3
    exact GN h3
  refine⟨some a,cap,(List.range len).map g,D,by rw [hlen];exact hcs,by rw [hlen];exact hl,hm,fun j v hj=>?_,fun i hi'=>?_,?_⟩
  ·have hfl:=sZ (f:=fun _ a=>f a) (s:=size) (fun _ a=>hf a) ((List.range len).map g) 0
   have hjl:=bh hj
   rw [hfl,hlen] at hjl
   have mJ:j / size < len:=(Nat.div_lt_iff_lt_mul h0).2 hjl
   have hj2:j % size < size:=Nat.mod_lt _ h0
   have e:=Nat.div_add_mod j size
   rw [Nat.mul_comm] at e
   have h1:=qm (f:=fun _ a=>f a) (s:=size) (fun _ a=>hf a) _ 0 _ (j % size) _ (hget _ mJ) hj2
   rw [e,hj] at h1
   obtain⟨h2,-⟩:=hg _ mJ
   rw [hC] at h2
   obtain⟨_,_,hat⟩:=World.cells?_some h2
   have h3:=hat _ hj2
   rw [← h1] at h3
   have hs1:=hs1 (Nat.lt_of_le_of_lt (Nat.zero_le _) mJ)
   rw [add_plain _ hs1] at h3
   rw [add_plain (a:=⟨a.block,a.off+j / size * size,none⟩) _ rfl] at h3
   have e2:a.off+j / size * size+j % size=a.off+j:=by omega
   have h4:W.cell? ⟨a.block,a.off+j,none⟩=some v:=by rw [← e2];exact h3
   have ea:(some a:Option Addr)=some ⟨ar (some a),aq (some a),none⟩:=by
     obtain⟨b,o,s⟩:=a
     cases hs1
     rfl
   exact⟨ea,Kp h4,h4⟩
  ·rw [hlen] at hi'
   rw [M4 i hi']
   exact (hg i hi').2
  rw [hx,hlen]
  simp only [Rows.uptoBulk]
  omega
theorem Kq {t:TypeId} {n:Nat} {cs:List Value} {x:DataW H×List MemPlace} (ht:P.underlying t=some (.int .u8)) (h:DataW.trod enc P W 0 sp true n t cs=some x):∃ b:UInt8,cs=[uL b]/\True:=by
  obtain⟨z,h1,_,h3⟩:=DataW.trod_int ht h
  have h4:0<=z/\z<=255:=by simpa [Lit.wf,IntKind.min,IntKind.max,IntKind.signed,IntKind.bits] using h3
  refine⟨UInt8.ofNat z.toNat,?_,trivial⟩
  have e:(((UInt8.ofNat z.toNat).toNat:Nat):Int)=z:=by
    rw [UInt8.toNat_ofNat']
    omega
  rw [uL,e]
  exact h1
def qf (z:Int):Prop:=-9223372036854775808<=z/\z<=9223372036854775807
theorem gA {t:TypeId} {n:Nat} {c:Value} {x:DataW H×List MemPlace} (ht:P.underlying t=some (.int .i64)) (h:DataW.trod enc P W 0 sp true n t [c]=some x):∃ z,c=.int .i64 z/\qf z:=by
  obtain⟨z,h1,_,h3⟩:=DataW.trod_int ht h
  cases h1
  exact⟨z,rfl,by unfold qf;simpa [Lit.wf,IntKind.min,IntKind.max,IntKind.signed,IntKind.bits] using h3⟩
theorem Cy {t:TypeId} {n:Nat} {c:Value} {x:DataW H×List MemPlace} (ht:P.underlying t=some .string) (h:DataW.trod enc P W 0 sp true n t [c]=some x):∃ s:ByteArray,c=.string s/\s.size+1<=Rows.uptoBulk x.1:=by
  obtain⟨s,h1,h2,_⟩:=DataW.trod_string ht h
  cases h1
  refine⟨s,rfl,?_⟩
  rw [h2]
  simp only [Rows.uptoBulk,Array.length_toList]
  exact Nat.le_refl _
end open_
section graph
variable {H:Type} {enc:TypeId×Value->H} {W:World} {sp:Nat->Bool}
theorem xM:∀ (d:List UInt8) (k:Nat),dJ (fun _ b=>[uL b]) k d=cA d
  | [],_=>rfl
  | b::r,k=>by rw [dJ,xM r (k+1)];rfl
theorem E4 {n:Nat} {c:Value} {x:DataW H×List MemPlace} (h:DataW.trod enc Tryz.prog W 0 sp true n 48 [c]=some x) :
    ∃ A cp,∃ d:List UInt8,c=.slice A d.length cp/\cq (B0 W) A d/\d.length+1<=Rows.uptoBulk x.1:=by
  obtain⟨A,cp,xs,D,h1,_,_,h2,_,h3⟩:=wD (α:=UInt8) (f:=fun b=>[uL b]) (Q:=fun _ _=>True) Tryz.underlying48 (size:=1) (by kernel_rfl) (by decide) (fun n cs x h=>Kq Tryz.underlying5 h) (fun _=>rfl) h
  cases h1
  have:=wC ((List.range xs.length).map D)
  refine⟨A,cp,xs,rfl,?_,by simp at this;omega⟩
  rw [xM] at h2
  exact h2
structure E5 (e:gV) (b:Nat):Prop where
  id:qf e.id
  name:e.name.size+1<=b
theorem cQ {n:Nat} {cs:List Value} {xs:List (DataW H×List MemPlace)} {i:Nat} {t:TypeId} (h:DataW.trod enc Tryz.prog W 0 sp true n t cs=xs[i]?) (hi:i < xs.length):DataW.trod enc Tryz.prog W 0 sp true n t cs=some xs[i]/\Rows.uptoBulk (xs[i]).1<=Rows.uptoBulk (.agg (xs.map (·.1))):=by
  refine⟨h.trans (List.getElem?_eq_getElem hi),?_⟩
  have hm:(xs[i]).1∈xs.map (·.1):=List.mem_map.2 ⟨xs[i],List.getElem_mem hi,rfl⟩
  have:=bulk_mem hm
  simp only [Rows.uptoBulk]
  omega
theorem IZ {n:Nat} {cs:List Value} {x:DataW H×List MemPlace} (h:DataW.trod enc Tryz.prog W 0 sp true n 81 cs=some x):∃ e:gV,cs=vL e/\E5 e (Rows.uptoBulk x.1):=by
  obtain⟨ys,m,_,hx,hl,qg,hf⟩:=DataW.trod_struct Tryz.underlying81 h
  have hC:Tryz.prog.cellsOf 81=2:=by kernel_rfl
  rw [hC] at hl
  match cs,hl with
  | [c0,c1],_=>
    obtain⟨h0,b0⟩:=cQ (hf 0 _ rfl) (by rw [qg];decide)
    obtain⟨h1,_⟩:=cQ (hf 1 _ rfl) (by rw [qg];decide)
    obtain⟨s,rfl,hs⟩:=Cy Tryz.underlying9 h0
    obtain⟨z,rfl,hz⟩:=gA Tryz.underlying3 h1
    exact⟨⟨s,z⟩,rfl,⟨hz,by rw [hx];exact Nat.le_trans hs b0⟩⟩
theorem GP {n:Nat} {c:Value} {x:DataW H×List MemPlace} (h:DataW.trod enc Tryz.prog W 0 sp true n 53 [c]=some x) :
    ∃ A cp,∃ es:List gV,c=.slice A es.length cp/\cL (B0 W) A es/\es.length+1<=Rows.uptoBulk x.1/\∀ i,i < es.length->E5 (en es i) (Rows.uptoBulk x.1):=by
  obtain⟨A,cp,xs,D,h1,_,_,h2,h4,h3⟩:=wD (α:=gV) (f:=vL) (Q:=fun e d=>E5 e (Rows.uptoBulk d)) Tryz.underlying53 (size:=2) (by kernel_rfl) (by decide) (fun n cs x h=>IZ h) (fun _=>rfl) h
  cases h1
  have h5:=wC ((List.range xs.length).map D)
  refine⟨A,cp,xs,rfl,h2,by simp at h5;omega,fun i hi=>⟨(h4 i hi).id,?_⟩⟩
  have h6:=(h4 i hi).name
  have h7:=Cx (D:=D) hi
  unfold en
  omega
structure JN (nd:aE) (b:Nat):Prop where
  ids:qf nd.id/\qf nd.kind/\qf nd.mode/\qf nd.uid/\qf nd.gid/\qf nd.sec/\qf nd.nano
  data:nd.data.length+1<=b
  target:nd.target.size+1<=b
  ah:nd.ah.length+1<=b
  ent:∀ i,i < nd.ah.length->E5 (en nd.ah i) b
structure xO where
  n:aE
  dA:Option Addr
  dC:Nat
  eA:Option Addr
  eC:Nat
deriving Inhabited
def Me (a:xO):List Value:=[.int .i64 a.n.id,.int .i64 a.n.kind,.int .i64 a.n.mode,.int .i64 a.n.uid,.int .i64 a.n.gid,.int .i64 a.n.sec,.int .i64 a.n.nano,.slice a.dA a.n.data.length a.dC,.string a.n.target,.slice a.eA a.n.ah.length a.eC]
structure JO (W:World) (a:xO) (b:Nat):Prop where
  nb:JN a.n b
  data:cq (B0 W) a.dA a.n.data
  ah:cL (B0 W) a.eA a.n.ah
theorem GQ {n:Nat} {cs:List Value} {x:DataW H×List MemPlace} (h:DataW.trod enc Tryz.prog W 0 sp true n 55 cs=some x):∃ a:xO,cs=Me a/\JO W a (Rows.uptoBulk x.1):=by
  obtain⟨ys,m,_,hx,hl,qg,hf⟩:=DataW.trod_struct Tryz.underlying55 h
  have hC:Tryz.prog.cellsOf 55=10:=by kernel_rfl
  rw [hC] at hl
  match cs,hl with
  | [c0,c1,c2,c3,c4,c5,c6,c7,c8,c9],_=>
    obtain⟨h0,_⟩:=cQ (hf 0 _ rfl) (by rw [qg];decide)
    obtain⟨h1,_⟩:=cQ (hf 1 _ rfl) (by rw [qg];decide)
    obtain⟨h2,_⟩:=cQ (hf 2 _ rfl) (by rw [qg];decide)
    obtain⟨h3,_⟩:=cQ (hf 3 _ rfl) (by rw [qg];decide)
    obtain⟨h4,_⟩:=cQ (hf 4 _ rfl) (by rw [qg];decide)
    obtain⟨h5,_⟩:=cQ (hf 5 _ rfl) (by rw [qg];decide)
    obtain⟨h6,b6⟩:=cQ (hf 6 _ rfl) (by rw [qg];decide)
    obtain⟨h7,b7⟩:=cQ (hf 7 _ rfl) (by rw [qg];decide)
    obtain⟨h8,b8⟩:=cQ (hf 8 _ rfl) (by rw [qg];decide)
    obtain⟨z0,rfl,w0⟩:=gA Tryz.underlying3 h0
    obtain⟨z1,rfl,w1⟩:=gA Tryz.underlying3 h1
    obtain⟨z2,rfl,w2⟩:=gA Tryz.underlying3 h2
    obtain⟨z3,rfl,w3⟩:=gA Tryz.underlying3 h3
    obtain⟨z4,rfl,w4⟩:=gA Tryz.underlying3 h4
    obtain⟨us,_,_,_,_,JQ,hu⟩:=DataW.trod_struct Tryz.underlying26 h5
    obtain⟨g0,_⟩:=cQ (hu 0 _ rfl) (by rw [JQ];decide)
    obtain⟨g1,_⟩:=cQ (hu 1 _ rfl) (by rw [JQ];decide)
    obtain⟨z5,rfl,w5⟩:=gA (c:=c5) Tryz.underlying3 g0
    obtain⟨z6,rfl,w6⟩:=gA (c:=c6) Tryz.underlying3 g1
    obtain⟨A7,p7,d7,rfl,q7,l7⟩:=E4 (c:=c7) h6
    obtain⟨s8,rfl,l8⟩:=Cy (c:=c8) Tryz.underlying9 h7
    obtain⟨A9,p9,e9,rfl,q9,l9,k9⟩:=GP (c:=c9) h8
    rw [hx]
    exact⟨⟨⟨z0,z1,z2,z3,z4,z5,z6,d7,s8,e9⟩,A7,p7,A9,p9⟩,rfl,⟨⟨w0,w1,w2,w3,w4,w5,w6⟩,Nat.le_trans l7 b6,Nat.le_trans l8 b7,Nat.le_trans l9 b8,fun i hi=>⟨(k9 i hi).id,Nat.le_trans (k9 i hi).name b8⟩⟩,q7,q9⟩
structure jB (ns:List aE) (b:Nat):Prop where
  len:ns.length+1<=b
  node:∀ i,i < ns.length->JN (nd ns i) b
theorem xP (L:Lay):∀ (xs:List xO) (k:Nat),(∀ i,i < xs.length->L.dA (k+i)=(xs.getD i default).dA/\L.dC (k+i)=(xs.getD i default).dC/\L.eA (k+i)=(xs.getD i default).eA/\L.eC (k+i)=(xs.getD i default).eC)->dJ (fun _ a=>Me a) k xs=dJ (nF L) k (xs.map (·.n))
  | [],_,_=>rfl
  | a::r,k,h=>by
    obtain⟨h1,h2,h3,h4⟩:=h 0 (by simp)
    simp only [Nat.add_zero,List.getD_cons_zero] at h1 h2 h3 h4
    rw [dJ,List.map_cons,dJ,xP L r (k+1) (fun i hi=>by
      have:=h (i+1) (by simp;omega)
      rw [List.getD_cons_succ] at this
      have e:k+(i+1)=k+1+i:=by omega
      rw [e] at this
      exact this)]
    rw [nF,h1,h2,h3,h4]
    rfl
theorem E6 {n:Nat} {c:Value} {x:DataW H×List MemPlace} (h:DataW.trod enc Tryz.prog W 0 sp true n 22 [c]=some x) :
    ∃ A cp,∃ ns:List aE,∃ L:Lay,c=.slice A ns.length cp/\au (B0 W) A ns L/\jB ns (Rows.uptoBulk x.1):=by
  obtain⟨A,cp,xs,D,h1,_,_,h2,h4,h3⟩:=wD (α:=xO) (f:=Me) (Q:=fun a d=>JO W a (Rows.uptoBulk d)) Tryz.underlying22 (size:=10) (by kernel_rfl) (by decide) (fun n cs x h=>GQ h) (fun _=>rfl) h
  cases h1
  have h5:=wC ((List.range xs.length).map D)
  have e:(xs.map (·.n)).length=xs.length:=by simp
  have hnd:∀ i,i < xs.length->nd (xs.map (·.n)) i=(xs.getD i default).n:=fun i hi=>by
    simp [nd,List.getD_eq_getElem?_getD,hi]
  refine⟨A,cp,xs.map (·.n),⟨fun i=>(xs.getD i default).dA,fun i=>(xs.getD i default).eA,fun i=>(xs.getD i default).dC,fun i=>(xs.getD i default).eC⟩,by rw [e],⟨?_,fun i hi=>?_,fun i hi=>?_⟩,by simp at h5;rw [e];omega,fun i hi=>?_⟩
  ·rw [xP ⟨fun i=>(xs.getD i default).dA,fun i=>(xs.getD i default).eA,fun i=>(xs.getD i default).dC,fun i=>(xs.getD i default).eC⟩ xs 0 (fun i _=>by rw [Nat.zero_add];exact⟨rfl,rfl,rfl,rfl⟩)] at h2
   exact h2
  ·rw [e] at hi
   rw [hnd i hi]
   exact (h4 i hi).data
  ·rw [e] at hi
   rw [hnd i hi]
   exact (h4 i hi).ah
  rw [e] at hi
  rw [hnd i hi]
  have h7:=Cx (D:=D) hi
  have h8:=(h4 i hi).nb
  exact⟨h8.ids,by have:=h8.data;omega,by have:=h8.target;omega,by have:=h8.ah;omega,fun j hj=>⟨(h8.ent j hj).id,by have:=(h8.ent j hj).name;omega⟩⟩
end graph
end
section
open Go.RowKit
attribute [local irreducible] ak aK af ai
theorem C5 {β:Bs} (A:Option Addr) (c:Nat) (ns:List aE) (L:Lay) (hG:au β A ns L) (hl:ns.length<=1048576) (hd:∀ i,i < ns.length->(nd ns i).data.length<=1048576/\(nd ns i).ah.length<=1048576) (_:∀ i,i < ns.length->∀ j,j < (nd ns i).ah.length->-9223372036854775808<=(ent ns i j).id/\(ent ns i j).id<=9223372036854775807) (hnm:∀ i,i < ns.length->∀ j,j < (nd ns i).ah.length->(ent ns i j).name.size<=1048576) (ht:∀ i,i < ns.length->(nd ns i).target.size<=1048576) :
    Spec Tryz.prog β 21 #[.agg #[.slice A ns.length c]] [] (fun v l=>v=vI (if aS ns then 0 else 140)/\l=[]):=by
 refine Spec.enter Tryz.func21 rfl Tryz.ntmps21 (Nat.le_of_ble_eq_true rfl) (fun R=>?_)
 refine SR (gN 2 (fun b1=>[(1,vP b1)]) (fun _=>[]) (fun _=>[]) (fun b1=>.blk b1 [.slice A (ns.length) (c)] 24) (fun b1=>?_))
 refine NN (af.seq (SR (gK 4 [(18,.bool (decide ((((ns.length:Nat):Int):Int) > (4096:Int))))] [(1,a_ 1 b1)] ?_)))
 refine NN (af.aR (p:=(((ns.length:Nat):Int):Int) > (4096:Int)) (fun _=>by kernel_rfl) (fun kS=>?_) (fun kS=>?_))
 ·refine SR (gK 1 [(2,vI 140)] [] ?_)
  refine NN (af.ret (ai.aj ?_))
  exact RT (vI 140) [0] (⟨congrArg (Value.int .i64) (if_neg (c:=aS ns) (fun h=>by have:=h.len;omega)).symm,rfl⟩)
 refine af.skip (NX (SR (gK 1 [(3,vI 0)] [] ?_)))
 refine NN (af.seq (SR (gK 1 [(4,vI 0)] [] ?_)))
 refine NN (af.block ?_)
 refine af.loop (ι:=Nat) (fun (k:Nat)=>(k<=ns.length)/\(jY ns k)/\(bU ns k<=k * 1048576)) (fun (k:Nat)=>ns.length - k) (fun (k:Nat)=>[(1,vP b1),(3,vI ↑(bU ns k)),(4,vI ↑k)]) (fun (k:Nat)=>[.blk b1 [.slice A (ns.length) (c)] 24,.abs R]) 0 (idx:=[1,3,4]) (pk:=[1,0]) (show (0<=ns.length)/\(jY ns 0)/\(bU ns 0<=0 * 1048576) from ⟨Nat.zero_le _,jY.zero ns,Nat.zero_le _⟩) (fun _=>by kernel_rfl) rfl (by kernel_rfl) ?_
 rintro k ⟨hk,hu,hs⟩
 show af _ _ _ _ [(1,vP b1),(3,vI ↑(bU ns k)),(4,vI ↑k)] [.blk b1 [.slice A (ns.length) (c)] 24,.abs R] _
 have hk4:=(hd k)
 refine af.seq (SR (gK 5 [(23,.bool (decide ((((k:Nat):Int):Int) < (((ns.length:Nat):Int):Int))))] [(2,a_ 0 b1)] ?_))
 refine NN (af.aR (p:=(((k:Nat):Int):Int) < (((ns.length:Nat):Int):Int)) (fun _=>by kernel_rfl) (fun h23=>?_) (fun h23=>?_))
 ·refine af.skip (NX (af.seq (af.block (SR ?_))))
  refine gN 7 (fun b2=>[(5,vP b2)]) (fun b2=>[(1,a_ 0 b1),(3,p_ ⟨[],some k,none,some ⟨(ar A),aq A,none⟩,none⟩ [((k:Nat):Int)=((k:Nat):Int),k < ns.length,(⟨(ar A),aq A,none⟩:Addr).spot=none,(A:Option Addr)=some ⟨(ar A),aq A,none⟩] ⟨rfl,by omega,rfl,au.hd hG (i:=k) (by omega),trivial⟩),(4,p_ ⟨[.old (.int .i64 ((nd ns k).id)),.old (.int .i64 ((nd ns k).kind)),.old (.int .i64 ((nd ns k).mode)),.old (.int .i64 ((nd ns k).uid)),.old (.int .i64 ((nd ns k).gid)),.old (.int .i64 ((nd ns k).sec)),.old (.int .i64 ((nd ns k).nano)),.old (.slice (L.dA k) ((nd ns k).data.length) ((L.dC k))),.old (.string (nd ns k).target),.old (.slice (L.eA k) ((nd ns k).ah.length) ((L.eC k)))],none,none,none,none⟩ [(Rd β ⟨(ar A),aq A+k * 10+9,none⟩ (.slice (L.eA k) ((nd ns k).ah.length) ((L.eC k)))),(Rd β ⟨(ar A),aq A+k * 10+8,none⟩ (.string (nd ns k).target)),(Rd β ⟨(ar A),aq A+k * 10+7,none⟩ (.slice (L.dA k) ((nd ns k).data.length) ((L.dC k)))),(Rd β ⟨(ar A),aq A+k * 10+6,none⟩ (.int .i64 ((nd ns k).nano))),(Rd β ⟨(ar A),aq A+k * 10+5,none⟩ (.int .i64 ((nd ns k).sec))),(Rd β ⟨(ar A),aq A+k * 10+4,none⟩ (.int .i64 ((nd ns k).gid))),(Rd β ⟨(ar A),aq A+k * 10+3,none⟩ (.int .i64 ((nd ns k).uid))),(Rd β ⟨(ar A),aq A+k * 10+2,none⟩ (.int .i64 ((nd ns k).mode))),(Rd β ⟨(ar A),aq A+k * 10+1,none⟩ (.int .i64 ((nd ns k).kind))),(Rd β ⟨(ar A),aq A+k * 10,none⟩ (.int .i64 ((nd ns k).id)))] ⟨au.rd hG (i:=k) (by omega) (j:=9) rfl,au.rd hG (i:=k) (by omega) (j:=8) rfl,au.rd hG (i:=k) (by omega) (j:=7) rfl,au.rd hG (i:=k) (by omega) (j:=6) rfl,au.rd hG (i:=k) (by omega) (j:=5) rfl,au.rd hG (i:=k) (by omega) (j:=4) rfl,au.rd hG (i:=k) (by omega) (j:=3) rfl,au.rd hG (i:=k) (by omega) (j:=2) rfl,au.rd hG (i:=k) (by omega) (j:=1) rfl,au.rd hG (i:=k) (by omega) (j:=0) rfl,trivial⟩),(6,A_ 2 b2 10)]) (fun _=>[]) (fun b2=>.blk b2 [vI ((nd ns k).id),vI ((nd ns k).kind),vI ((nd ns k).mode),vI ((nd ns k).uid),vI ((nd ns k).gid),vI ((nd ns k).sec),vI ((nd ns k).nano),.slice (L.dA k) ((nd ns k).data.length) ((L.dC k)),.string (nd ns k).target,.slice (L.eA k) ((nd ns k).ah.length) ((L.eC k))] 55) (fun b2=>?_)
  refine NN (af.seq (af.seq (af.bp (by kernel_rfl) (by kernel_rfl) ?_)))
  refine gQ 4 [(34,.bool (decide (((nd ns k).id:Int) < (1:Int))))] [(1,a_ 2 b2)] ?_
  refine aK.bZ 34 (((nd ns k).id:Int) < (1:Int)) (fun _=>by kernel_rfl) (fun rG=>?_) (fun rG=>?_)
  ·refine gQ 25 [(59,.bool true)] [] ?_
   refine NQ (NX ?_)
   refine CT (SR (gK 1 [(2,vI 140)] [] ?_))
   refine NN (af.ret (ai.aj (ai.ax (ai.aj (ai.aj (ai.ax (ai.aj ?_)))))))
   exact RT (vI 140) [1] (⟨congrArg (Value.int .i64) (if_neg (c:=aS ns) (fun h=>by have:=(h.ids k (by omega)).1;omega)).symm,rfl⟩)
  refine gQ 5 [(39,.bool (decide (((nd ns k).id:Int) > (1099511627776:Int))))] [(1,a_ 2 b2)] ?_
  refine aK.bZ 39 (((nd ns k).id:Int) > (1099511627776:Int)) (fun _=>by kernel_rfl) (fun mO=>?_) (fun mO=>?_)
  ·refine gQ 20 [(59,.bool true)] [] ?_
   refine NQ (NX ?_)
   refine CT (SR (gK 1 [(2,vI 140)] [] ?_))
   refine NN (af.ret (ai.aj (ai.ax (ai.aj (ai.aj (ai.ax (ai.aj ?_)))))))
   exact RT (vI 140) [1] (⟨congrArg (Value.int .i64) (if_neg (c:=aS ns) (fun h=>by have:=(h.ids k (by omega)).2;omega)).symm,rfl⟩)
  refine gQ 3 [(42,.bool (decide ((((k:Nat):Int):Int) > (0:Int))))] [] ?_
  refine aK.bZ 42 ((((k:Nat):Int):Int) > (0:Int)) (fun _=>by kernel_rfl) (fun mP=>?_) (fun mP=>?_)
  ·refine gQ 13 [(55,.bool (decide (((nd ns k).id:Int)<=((nd ns (k - 1)).id:Int))))] [(1,a_ 2 b2),(3,a_ 0 b1),(5,p_ ⟨[],none,none,none,some (vI ↑(k - 1))⟩ [(Value.int .i64 (IntKind.wrap .i64 (((k:Nat):Int) - 1)))=(.int .i64 ↑(k - 1))] ⟨aU (by omega) (by omega) (by omega),trivial⟩),(6,p_ ⟨[],some (k - 1),none,some ⟨(ar A),aq A,none⟩,none⟩ [(((k - 1):Nat):Int)=(((k - 1):Nat):Int),(k - 1) < ns.length,(⟨(ar A),aq A,none⟩:Addr).spot=none,(A:Option Addr)=some ⟨(ar A),aq A,none⟩] ⟨rfl,by omega,rfl,au.hd hG (i:=(k - 1)) (by omega),trivial⟩),(8,p_ ⟨[.old (.int .i64 ((nd ns (k - 1)).id))],none,none,none,none⟩ [(Rd β ⟨(ar A),aq A+(k - 1) * 10,none⟩ (.int .i64 ((nd ns (k - 1)).id)))] ⟨au.rd hG (i:=(k - 1)) (by omega) (j:=0) rfl,trivial⟩)] ?_
   refine aK.bZ 55 (((nd ns k).id:Int)<=((nd ns (k - 1)).id:Int)) (fun _=>by kernel_rfl) (fun Pm=>?_) (fun Pm=>?_)
   ·refine gQ 4 [(59,.bool true)] [] ?_
    refine NQ (NX ?_)
    refine CT (SR (gK 1 [(2,vI 140)] [] ?_))
    refine NN (af.ret (ai.aj (ai.ax (ai.aj (ai.aj (ai.ax (ai.aj ?_)))))))
    exact RT (vI 140) [1] (⟨congrArg (Value.int .i64) (if_neg (c:=aS ns) (fun h=>by have:=h.rise (k - 1) k (by omega) (by omega);omega)).symm,rfl⟩)
   refine gQ 1 [(56,.agg #[vI ((nd ns k).id),vI ((nd ns k).kind),vI ((nd ns k).mode),vI ((nd ns k).uid),vI ((nd ns k).gid),vI ((nd ns k).sec),vI ((nd ns k).nano),.slice (L.dA k) ((nd ns k).data.length) ((L.dC k)),.string (nd ns k).target,.slice (L.eA k) ((nd ns k).ah.length) ((L.eC k))])] [(0,A_ 2 b2 10)] ?_
   refine aK.call (f:=36) (args:=#[.agg #[vI ((nd ns k).id),vI ((nd ns k).kind),vI ((nd ns k).mode),vI ((nd ns k).uid),vI ((nd ns k).gid),vI ((nd ns k).sec),vI ((nd ns k).nano),.slice (L.dA k) ((nd ns k).data.length) ((L.dC k)),.string (nd ns k).target,.slice (L.eA k) ((nd ns k).ah.length) ((L.eC k))]]) (d:=(some 57)) (pre:=[]) (R:=[.blk b1 [.slice A (ns.length) (c)] 24,.abs R,.blk b2 [vI ((nd ns k).id),vI ((nd ns k).kind),vI ((nd ns k).mode),vI ((nd ns k).uid),vI ((nd ns k).gid),vI ((nd ns k).sec),vI ((nd ns k).nano),.slice (L.dA k) ((nd ns k).data.length) ((L.dC k)),.string (nd ns k).target,.slice (L.eA k) ((nd ns k).ah.length) ((L.eC k))] 55]) (pk:=[0,1,2]) (gq:=[0,1,2]) (v0:=.bool (decide (iC (nd ns k)))) (fun _=>by kernel_rfl) (AU (nd ns k) (L.dA k) (L.eA k) (L.dC k) (L.eC k) (ht k (by omega))) rfl (by kernel_rfl) rfl (by kernel_rfl) (fun _ _ h=>h) ?_
   refine gQ 2 [(59,.bool (!(decide (iC (nd ns k)))))] [] ?_
   refine NQ (NX ?_)
   refine af.cu (p:=iC (nd ns k)) (fun _=>by kernel_rfl) (fun Cz=>?_) (fun Cz=>?_)
   ·refine SR (gK 1 [(2,vI 140)] [] ?_)
    refine NN (af.ret (ai.aj (ai.ax (ai.aj (ai.aj (ai.ax (ai.aj ?_)))))))
    exact RT (vI 140) [1] (⟨congrArg (Value.int .i64) (if_neg (c:=aS ns) (fun h=>by exact Cz (h.node k (by omega)))).symm,rfl⟩)
   refine af.skip (NX (af.region (gK 6 [(3,vI ↑((bU ns k)+((nd ns k).ah.length)))] [(2,a_ 2 b2),(4,p_ ⟨[],none,none,none,some (vI ↑((bU ns k)+((nd ns k).ah.length)))⟩ [(Value.int .i64 (IntKind.wrap .i64 (((bU ns k:Nat):Int)+(((nd ns k).ah.length:Nat):Int))))=(.int .i64 ↑((bU ns k)+((nd ns k).ah.length)))] ⟨aU (by omega) (by omega) (by omega),trivial⟩)] ?_)))
   refine NL (ai.aF (NX (af.region ?_)))
   refine gK 3 [(4,vI ↑(k+1))] [(1,p_ ⟨[],none,none,none,some (vI ↑(k+1))⟩ [(Value.int .i64 (IntKind.wrap .i64 (((k:Nat):Int)+1)))=(.int .i64 ↑(k+1))] ⟨aU (by omega) (by omega) (by omega),trivial⟩)] ?_
   refine NL ?_
   exact ai.turn ((k+1)) (idx:=[1,3,4]) (pk:=[0,1]) (show (((k+1))<=ns.length)/\(jY ns ((k+1)))/\(bU ns ((k+1))<=((k+1)) * 1048576) from ⟨by omega,hu.step (by rw [EW (by omega)];omega) (by omega) Cz,by show bU ns k+_<=_;omega⟩) (by show ns.length - ((k+1)) < ns.length - k;omega) (fun _=>by kernel_rfl) rfl (by kernel_rfl)
  refine gQ 14 [(55,.bool false),(56,.agg #[vI ((nd ns k).id),vI ((nd ns k).kind),vI ((nd ns k).mode),vI ((nd ns k).uid),vI ((nd ns k).gid),vI ((nd ns k).sec),vI ((nd ns k).nano),.slice (L.dA k) ((nd ns k).data.length) ((L.dC k)),.string (nd ns k).target,.slice (L.eA k) ((nd ns k).ah.length) ((L.eC k))])] [(13,A_ 2 b2 10)] ?_
  refine aK.call (f:=36) (args:=#[.agg #[vI ((nd ns k).id),vI ((nd ns k).kind),vI ((nd ns k).mode),vI ((nd ns k).uid),vI ((nd ns k).gid),vI ((nd ns k).sec),vI ((nd ns k).nano),.slice (L.dA k) ((nd ns k).data.length) ((L.dC k)),.string (nd ns k).target,.slice (L.eA k) ((nd ns k).ah.length) ((L.eC k))]]) (d:=(some 57)) (pre:=[]) (R:=[.blk b1 [.slice A (ns.length) (c)] 24,.abs R,.blk b2 [vI ((nd ns k).id),vI ((nd ns k).kind),vI ((nd ns k).mode),vI ((nd ns k).uid),vI ((nd ns k).gid),vI ((nd ns k).sec),vI ((nd ns k).nano),.slice (L.dA k) ((nd ns k).data.length) ((L.dC k)),.string (nd ns k).target,.slice (L.eA k) ((nd ns k).ah.length) ((L.eC k))] 55]) (pk:=[0,1,2]) (gq:=[0,1,2]) (v0:=.bool (decide (iC (nd ns k)))) (fun _=>by kernel_rfl) (AU (nd ns k) (L.dA k) (L.eA k) (L.dC k) (L.eC k) (ht k (by omega))) rfl (by kernel_rfl) rfl (by kernel_rfl) (fun _ _ h=>h) ?_
  refine gQ 2 [(59,.bool (!(decide (iC (nd ns k)))))] [] ?_
  refine NQ (NX ?_)
  refine af.cu (p:=iC (nd ns k)) (fun _=>by kernel_rfl) (fun Cz=>?_) (fun Cz=>?_)
  ·refine SR (gK 1 [(2,vI 140)] [] ?_)
   refine NN (af.ret (ai.aj (ai.ax (ai.aj (ai.aj (ai.ax (ai.aj ?_)))))))
   exact RT (vI 140) [1] (⟨congrArg (Value.int .i64) (if_neg (c:=aS ns) (fun h=>by exact Cz (h.node k (by omega)))).symm,rfl⟩)
  refine af.skip (NX (af.region (gK 6 [(3,vI ↑((bU ns k)+((nd ns k).ah.length)))] [(2,a_ 2 b2),(4,p_ ⟨[],none,none,none,some (vI ↑((bU ns k)+((nd ns k).ah.length)))⟩ [(Value.int .i64 (IntKind.wrap .i64 (((bU ns k:Nat):Int)+(((nd ns k).ah.length:Nat):Int))))=(.int .i64 ↑((bU ns k)+((nd ns k).ah.length)))] ⟨aU (by omega) (by omega) (by omega),trivial⟩)] ?_)))
  refine NL (ai.aF (NX (af.region ?_)))
  refine gK 3 [(4,vI ↑(k+1))] [(1,p_ ⟨[],none,none,none,some (vI ↑(k+1))⟩ [(Value.int .i64 (IntKind.wrap .i64 (((k:Nat):Int)+1)))=(.int .i64 ↑(k+1))] ⟨aU (by omega) (by omega) (by omega),trivial⟩)] ?_
  refine NL ?_
  exact ai.turn ((k+1)) (idx:=[1,3,4]) (pk:=[0,1]) (show (((k+1))<=ns.length)/\(jY ns ((k+1)))/\(bU ns ((k+1))<=((k+1)) * 1048576) from ⟨by omega,hu.step (by rw [show k=0 by omega];rw [show k=0 by omega] at rG;show (0:Int) < _;omega) (by omega) Cz,by show bU ns k+_<=_;omega⟩) (by show ns.length - ((k+1)) < ns.length - k;omega) (fun _=>by kernel_rfl) rfl (by kernel_rfl)
 refine af.exit (ai.aL (ai.aL (ai.bG (NX (af.seq (SR ?_))))))
 refine gK 2 [(66,.bool (decide ((((bU ns k:Nat):Int):Int) > (8192:Int))))] [] ?_
 refine NN (af.aR (p:=(((bU ns k:Nat):Int):Int) > (8192:Int)) (fun _=>by kernel_rfl) (fun wU=>?_) (fun wU=>?_))
 ·refine SR (gK 1 [(2,vI 140)] [] ?_)
  refine NN (af.ret (ai.aj ?_))
  exact RT (vI 140) [1] (⟨congrArg (Value.int .i64) (if_neg (c:=aS ns) (fun h=>by have h1:=h.sum;rw [show ns.length=k by omega] at h1;omega)).symm,rfl⟩)
 refine af.skip (NX (SR (gK 3 [(69,vI ↑ns.length)] [(1,a_ 0 b1)] ?_)))
 refine ak.GZ (d:=(some 70)) (t:=37) (e:=3) (z:=.int .i64 0) (bytes:=8) (n:=ns.length) (l:=(.tmp 69)) (c:=(.tmp 69)) (fun _=>by kernel_rfl) (fun _=>by kernel_rfl) (fun _=>by kernel_rfl) Tryz.underlying37 (by kernel_rfl) rfl (by omega) (by omega) (fun b3=>?_)
 refine gK 1 [(6,.slice (some ⟨b3,0,none⟩) (ns.length) (ns.length))] [] ?_
 refine NN (af.seq (SR (ak.dV 2 (p:=.abs (aC 3 1 (some ⟨b3,0,none⟩) ns.length ns.length (List.replicate ns.length (.int .i64 0)))) (p':=.abs (aC 3 1 (some ⟨b3,0,none⟩) ns.length ns.length (cG (List.replicate ns.length 0)))) (by kernel_rfl) (by rw [cG,List.map_replicate]) ?_)))
 refine gK 1 [(7,vI 0)] [] ?_
 refine NN (af.block ?_)
 refine af.loop (ι:=Nat×(List Int)) (fun ((t,pl):Nat×(List Int))=>(t<=ns.length)/\(pl.length=ns.length)/\(∀ a,a < t->pl.getD a 0 = -1)) (fun ((t,pl):Nat×(List Int))=>ns.length - t) (fun ((t,pl):Nat×(List Int))=>[(1,vP b1),(6,.slice (some ⟨b3,0,none⟩) (ns.length) (ns.length)),(7,vI ↑t)]) (fun ((t,pl):Nat×(List Int))=>[.blk b1 [.slice A (ns.length) (c)] 24,.abs (aC 3 1 (some ⟨b3,0,none⟩) ns.length ns.length (cG pl)),.abs R]) (0,(List.replicate ns.length 0)) (idx:=[1,6,7]) (pk:=[0,2,1]) (show (0<=ns.length)/\(((List.replicate ns.length 0)).length=ns.length)/\(∀ a,a < 0->((List.replicate ns.length 0)).getD a 0 = -1) from ⟨Nat.zero_le _,by simp,fun a ha=>absurd ha (Nat.not_lt_zero a)⟩) (fun _=>by kernel_rfl) rfl (by kernel_rfl) ?_
 rintro⟨t,pl⟩ ⟨ht2,hpl,hpa⟩
 show af _ _ _ _ [(1,vP b1),(6,.slice (some ⟨b3,0,none⟩) (ns.length) (ns.length)),(7,vI ↑t)] [.blk b1 [.slice A (ns.length) (c)] 24,.abs (aC 3 1 (some ⟨b3,0,none⟩) ns.length ns.length (cG pl)),.abs R] _
 refine af.seq (SR (gK 4 [(74,.bool (decide ((((t:Nat):Int):Int) < (((ns.length:Nat):Int):Int))))] [] ?_))
 refine NN (af.aR (p:=(((t:Nat):Int):Int) < (((ns.length:Nat):Int):Int)) (fun _=>by kernel_rfl) (fun KG=>?_) (fun KG=>?_))
 ·refine af.skip (NX (af.seq (af.block (af.region ?_))))
  refine gK 3 [(79,.pointer (some ⟨b3,t,none⟩))] [(2,p_ ⟨[],some t,none,none,some (.pointer (some ⟨b3,t,none⟩))⟩ [(Value.pointer (some ⟨b3,0+t * 1,none⟩))=(.pointer (some ⟨b3,t,none⟩)),((t:Nat):Int)=((t:Nat):Int),t < ns.length,(⟨b3,0,none⟩:Addr).spot=none] ⟨by simp,rfl,by omega,rfl,trivial⟩)] ?_
  refine ak.Ap 1 (t) (d:=none) (T:=3) (e:=3) (size:=1) (n:=ns.length) (cap:=ns.length) (g:=b3) (xs:=(cG pl)) (u:=.int .i64 (-1)) (a:=(.tmp 79)) (y:=(.const (.int .i64 (-1)))) (fun _=>by kernel_rfl) (by kernel_rfl) (fun _=>by kernel_rfl) (fun _=>by kernel_rfl) (by kernel_rfl) rfl (by rw [cG,List.length_map];omega) ?_
  refine ak.dV 1 (p:=.abs (aC 3 1 (some ⟨b3,0,none⟩) ns.length ns.length ((cG pl).set (t) (.int .i64 (-1))))) (p':=.abs (aC 3 1 (some ⟨b3,0,none⟩) ns.length ns.length (cG (pl.set t (-1))))) (by kernel_rfl) (by rw [uz]) ?_
  refine NL (ai.aF (NX (af.region ?_)))
  refine gK 3 [(7,vI ↑(t+1))] [(1,p_ ⟨[],none,none,none,some (vI ↑(t+1))⟩ [(Value.int .i64 (IntKind.wrap .i64 (((t:Nat):Int)+1)))=(.int .i64 ↑(t+1))] ⟨aU (by omega) (by omega) (by omega),trivial⟩)] ?_
  refine NL ?_
  exact ai.turn ((t+1),(pl.set t (-1))) (idx:=[1,6,7]) (pk:=[0,1,2]) (show (((t+1))<=ns.length)/\(((pl.set t (-1))).length=ns.length)/\(∀ a,a < ((t+1))->((pl.set t (-1))).getD a 0 = -1) from ⟨by omega,by rw [List.length_set];exact hpl,fun a ha=>(by rw [Co (by omega)];by_cases e:a=t;simp [e];rw [if_neg e];exact hpa a (by omega))⟩) (by show ns.length - ((t+1)) < ns.length - t;omega) (fun _=>by kernel_rfl) rfl (by kernel_rfl)
 refine af.exit (ai.aL (ai.aL (ai.bG (NX (af.seq (SR ?_))))))
 refine gK 1 [(8,vI 0)] [] ?_
 refine NN (af.block ?_)
 have sD:bN ns:=fun a b hab hb=>hu.rise a b hab (by omega)
 have hsum:bU ns ns.length<=8192:=by rw [show ns.length=k by omega];omega
 refine af.loop (ι:=Nat×(List Int)) (fun ((i,jk):Nat×(List Int))=>(i<=ns.length)/\(∀ a,a < i->∀ j,j < (nd ns a).ah.length->gj ns a j)/\(((bX ns i).map Prod.fst).Nodup)/\(qG ns.length jk (bX ns i))) (fun ((i,jk):Nat×(List Int))=>ns.length - i) (fun ((i,jk):Nat×(List Int))=>[(1,vP b1),(6,.slice (some ⟨b3,0,none⟩) (ns.length) (ns.length)),(8,vI ↑i)]) (fun ((i,jk):Nat×(List Int))=>[.blk b1 [.slice A (ns.length) (c)] 24,.abs (aC 3 1 (some ⟨b3,0,none⟩) ns.length ns.length (cG jk)),.abs R]) (0,pl) (idx:=[1,6,8]) (pk:=[0,1,2]) (show (0<=ns.length)/\(∀ a,a < 0->∀ j,j < (nd ns a).ah.length->gj ns a j)/\(((bX ns 0).map Prod.fst).Nodup)/\(qG ns.length pl (bX ns 0)) from ⟨Nat.zero_le _,fun a ha=>absurd ha (Nat.not_lt_zero a),List.nodup_nil,⟨hpl,fun a ha=>hpa a (by omega)⟩⟩) (fun _=>by kernel_rfl) rfl (by kernel_rfl) ?_
 rintro⟨i,jk⟩ ⟨hi,qF,hnd,hpar⟩
 show af _ _ _ _ [(1,vP b1),(6,.slice (some ⟨b3,0,none⟩) (ns.length) (ns.length)),(8,vI ↑i)] [.blk b1 [.slice A (ns.length) (c)] 24,.abs (aC 3 1 (some ⟨b3,0,none⟩) ns.length ns.length (cG jk)),.abs R] _
 refine af.seq (SR (gK 5 [(84,.bool (decide ((((i:Nat):Int):Int) < (((ns.length:Nat):Int):Int))))] [(2,a_ 0 b1)] ?_))
 refine NN (af.aR (p:=(((i:Nat):Int):Int) < (((ns.length:Nat):Int):Int)) (fun _=>by kernel_rfl) (fun Pn=>?_) (fun Pn=>?_))
 ·refine af.skip (NX (af.seq (af.block (SR ?_))))
  refine gK 1 [(9,vI 0)] [] ?_
  refine NN (af.block ?_)
  refine af.loop (ι:=Nat×(List Int)) (fun ((j,gT):Nat×(List Int))=>(j<=(nd ns i).ah.length)/\(∀ t,t < j->gj ns i t)/\(((bW ns i j++bX ns i).map Prod.fst).Nodup)/\(qG ns.length gT (bW ns i j++bX ns i))) (fun ((j,gT):Nat×(List Int))=>(nd ns i).ah.length - j) (fun ((j,gT):Nat×(List Int))=>[(1,vP b1),(6,.slice (some ⟨b3,0,none⟩) (ns.length) (ns.length)),(8,vI ↑i),(9,vI ↑j)]) (fun ((j,gT):Nat×(List Int))=>[.blk b1 [.slice A (ns.length) (c)] 24,.abs (aC 3 1 (some ⟨b3,0,none⟩) ns.length ns.length (cG gT)),.abs R]) (0,jk) (idx:=[1,6,8,9]) (pk:=[0,1,2]) (show (0<=(nd ns i).ah.length)/\(∀ t,t < 0->gj ns i t)/\(((bW ns i 0++bX ns i).map Prod.fst).Nodup)/\(qG ns.length jk (bW ns i 0++bX ns i)) from ⟨Nat.zero_le _,fun t ht=>absurd ht (Nat.not_lt_zero t),hnd,hpar⟩) (fun _=>by kernel_rfl) rfl (by kernel_rfl) ?_
  rintro⟨j,gT⟩ ⟨hj,hok,uw,nI⟩
  show af _ _ _ _ [(1,vP b1),(6,.slice (some ⟨b3,0,none⟩) (ns.length) (ns.length)),(8,vI ↑i),(9,vI ↑j)] [.blk b1 [.slice A (ns.length) (c)] 24,.abs (aC 3 1 (some ⟨b3,0,none⟩) ns.length ns.length (cG gT)),.abs R] _
  have hd3:=(hd i (by omega)).2
  have Po:=nI.len
  refine af.seq (SR (gK 9 [(95,.bool (decide ((((j:Nat):Int):Int) < ((((nd ns i).ah.length:Nat):Int):Int))))] [(2,a_ 0 b1),(4,p_ ⟨[],some i,none,some ⟨(ar A),aq A,none⟩,none⟩ [((i:Nat):Int)=((i:Nat):Int),i < ns.length,(⟨(ar A),aq A,none⟩:Addr).spot=none,(A:Option Addr)=some ⟨(ar A),aq A,none⟩] ⟨rfl,by omega,rfl,au.hd hG (i:=i) (by omega),trivial⟩),(6,p_ ⟨[.old (.slice (L.eA i) ((nd ns i).ah.length) ((L.eC i)))],none,none,none,none⟩ [(Rd β ⟨(ar A),aq A+i * 10+9,none⟩ (.slice (L.eA i) ((nd ns i).ah.length) ((L.eC i))))] ⟨au.rd hG (i:=i) (by omega) (j:=9) rfl,trivial⟩)] ?_))
  refine NN (af.aR (p:=(((j:Nat):Int):Int) < ((((nd ns i).ah.length:Nat):Int):Int)) (fun _=>by kernel_rfl) (fun Pp=>?_) (fun Pp=>?_))
  ·refine af.skip (NX (af.seq (af.block (SR ?_))))
   refine gN 11 (fun b4=>[(10,vP b4)]) (fun b4=>[(1,a_ 0 b1),(3,p_ ⟨[],some i,none,some ⟨(ar A),aq A,none⟩,none⟩ [((i:Nat):Int)=((i:Nat):Int),i < ns.length,(⟨(ar A),aq A,none⟩:Addr).spot=none,(A:Option Addr)=some ⟨(ar A),aq A,none⟩] ⟨rfl,by omega,rfl,au.hd hG (i:=i) (by omega),trivial⟩),(5,p_ ⟨[.old (.slice (L.eA i) ((nd ns i).ah.length) ((L.eC i)))],none,none,none,none⟩ [(Rd β ⟨(ar A),aq A+i * 10+9,none⟩ (.slice (L.eA i) ((nd ns i).ah.length) ((L.eC i))))] ⟨au.rd hG (i:=i) (by omega) (j:=9) rfl,trivial⟩),(7,p_ ⟨[],some j,none,some ⟨(ar (L.eA i)),aq (L.eA i),none⟩,none⟩ [((j:Nat):Int)=((j:Nat):Int),j < (nd ns i).ah.length,(⟨(ar (L.eA i)),aq (L.eA i),none⟩:Addr).spot=none,((L.eA i):Option Addr)=some ⟨(ar (L.eA i)),aq (L.eA i),none⟩] ⟨rfl,by omega,rfl,cL.hd (hG.ah i (by omega)) (i:=j) (by omega),trivial⟩),(8,p_ ⟨[.old (.string (en (nd ns i).ah j).name),.old (.int .i64 ((en (nd ns i).ah j).id))],none,none,none,none⟩ [(Rd β ⟨(ar (L.eA i)),aq (L.eA i)+j * 2+1,none⟩ (.int .i64 ((en (nd ns i).ah j).id))),(Rd β ⟨(ar (L.eA i)),aq (L.eA i)+j * 2,none⟩ (.string (en (nd ns i).ah j).name))] ⟨cL.rd (hG.ah i (by omega)) (i:=j) (by omega) (j:=1) rfl,cL.rd (hG.ah i (by omega)) (i:=j) (by omega) (j:=0) rfl,trivial⟩),(10,A_ 3 b4 2)]) (fun _=>[]) (fun b4=>.blk b4 [.string (en (nd ns i).ah j).name,vI ((en (nd ns i).ah j).id)] 81) (fun b4=>?_)
   refine NS (gK 3 [(107,.agg #[.slice A (ns.length) (c)]),(109,vI ((en (nd ns i).ah j).id))] [(0,a_ 0 b1),(2,a_ 3 b4)] ?_)
   refine gL [] (Mv A c ns L hG sD hl (en (nd ns i).ah j).id) ?_
   rintro _ _ ⟨rfl,rfl⟩
   refine gK 1 [(11,vI (gJ ns (en (nd ns i).ah j).id))] [] ?_
   refine NN (af.seq (af.seq (af.bp (by kernel_rfl) (by kernel_rfl) ?_)))
   refine gQ 3 [(113,.bool (decide ((gJ ns (en (nd ns i).ah j).id:Int) < (0:Int))))] [] ?_
   refine aK.bZ 113 ((gJ ns (en (nd ns i).ah j).id:Int) < (0:Int)) (fun _=>by kernel_rfl) (fun y5=>?_) (fun y5=>?_)
   ·refine gQ 25 [(138,.bool true)] [] ?_
    refine NQ (NX ?_)
    refine CT (SR (gK 1 [(2,vI 140)] [] ?_))
    refine NN (af.ret (ai.aj (ai.ax (ai.aj (ai.aj (ai.ax (ai.ax (ai.aj (ai.aj (ai.ax (ai.aj ?_)))))))))))
    exact RT (vI 140) [2] (⟨congrArg (Value.int .i64) (if_neg (c:=aS ns) (fun h=>by have h1:=(h.ah i (by omega) j (by omega)).at_;change 0<=gJ ns (en (nd ns i).ah j).id at h1;omega)).symm,rfl⟩)
   have htl:=j9 (Int.not_lt.1 y5)
   refine gQ 2 [(115,.string (en (nd ns i).ah j).name)] [(1,a_ 3 b4)] ?_
   refine aK.call (f:=38) (args:=#[.string (en (nd ns i).ah j).name]) (d:=(some 116)) (pre:=[]) (R:=[.blk b1 [.slice A (ns.length) (c)] 24,.abs (aC 3 1 (some ⟨b3,0,none⟩) ns.length ns.length (cG gT)),.abs R,.blk b4 [.string (en (nd ns i).ah j).name,vI ((en (nd ns i).ah j).id)] 81]) (pk:=[0,1,2,3]) (gq:=[0,1,2,3]) (v0:=.bool (decide (bI (en (nd ns i).ah j).name))) (fun _=>by kernel_rfl) (DY (en (nd ns i).ah j).name (hnm i (by omega) j (by omega))) rfl (by kernel_rfl) rfl (by kernel_rfl) (fun _ _ h=>h) ?_
   refine gQ 3 [(119,.bool (!(decide (bI (en (nd ns i).ah j).name))))] [] ?_
   refine aK.d9 119 (bI (en (nd ns i).ah j).name) (fun _=>by kernel_rfl) (fun y6=>?_) (fun y6=>?_)
   ·refine gQ 19 [(138,.bool true)] [] ?_
    refine NQ (NX ?_)
    refine CT (SR (gK 1 [(2,vI 140)] [] ?_))
    refine NN (af.ret (ai.aj (ai.ax (ai.aj (ai.aj (ai.ax (ai.ax (ai.aj (ai.aj (ai.ax (ai.aj ?_)))))))))))
    exact RT (vI 140) [2] (⟨congrArg (Value.int .i64) (if_neg (c:=aS ns) (fun h=>by exact y6 (h.ah i (by omega) j (by omega)).good)).symm,rfl⟩)
   refine gQ 3 [(122,.bool (decide ((((j:Nat):Int):Int) > (0:Int))))] [] ?_
   refine aK.bZ 122 ((((j:Nat):Int):Int) > (0:Int)) (fun _=>by kernel_rfl) (fun OA=>?_) (fun OA=>?_)
   ·refine gQ 16 [(138,.bool (decide (fJ ((en (nd ns i).ah j).name) ((en (nd ns i).ah (j - 1)).name))))] [(1,a_ 3 b4),(3,a_ 0 b1),(5,p_ ⟨[],some i,none,some ⟨(ar A),aq A,none⟩,none⟩ [((i:Nat):Int)=((i:Nat):Int),i < ns.length,(⟨(ar A),aq A,none⟩:Addr).spot=none,(A:Option Addr)=some ⟨(ar A),aq A,none⟩] ⟨rfl,by omega,rfl,au.hd hG (i:=i) (by omega),trivial⟩),(7,p_ ⟨[.old (.slice (L.eA i) ((nd ns i).ah.length) ((L.eC i)))],none,none,none,none⟩ [(Rd β ⟨(ar A),aq A+i * 10+9,none⟩ (.slice (L.eA i) ((nd ns i).ah.length) ((L.eC i))))] ⟨au.rd hG (i:=i) (by omega) (j:=9) rfl,trivial⟩),(9,p_ ⟨[],none,none,none,some (vI ↑(j - 1))⟩ [(Value.int .i64 (IntKind.wrap .i64 (((j:Nat):Int) - 1)))=(.int .i64 ↑(j - 1))] ⟨aU (by omega) (by omega) (by omega),trivial⟩),(10,p_ ⟨[],some (j - 1),none,some ⟨(ar (L.eA i)),aq (L.eA i),none⟩,none⟩ [(((j - 1):Nat):Int)=(((j - 1):Nat):Int),(j - 1) < (nd ns i).ah.length,(⟨(ar (L.eA i)),aq (L.eA i),none⟩:Addr).spot=none,((L.eA i):Option Addr)=some ⟨(ar (L.eA i)),aq (L.eA i),none⟩] ⟨rfl,by omega,rfl,cL.hd (hG.ah i (by omega)) (i:=(j - 1)) (by omega),trivial⟩),(12,p_ ⟨[.old (.string (en (nd ns i).ah (j - 1)).name)],none,none,none,none⟩ [(Rd β ⟨(ar (L.eA i)),aq (L.eA i)+(j - 1) * 2,none⟩ (.string (en (nd ns i).ah (j - 1)).name))] ⟨cL.rd (hG.ah i (by omega)) (i:=(j - 1)) (by omega) (j:=0) rfl,trivial⟩),(13,p_ ⟨[],none,none,none,some (.bool (decide (fJ ((en (nd ns i).ah j).name) ((en (nd ns i).ah (j - 1)).name))))⟩ [(Value.bool (Op.bytesLess (((en (nd ns i).ah j).name):ByteArray).toList (((en (nd ns i).ah (j - 1)).name):ByteArray).toList || (((en (nd ns i).ah j).name):ByteArray).toList == (((en (nd ns i).ah (j - 1)).name):ByteArray).toList))=(.bool (decide (fJ ((en (nd ns i).ah j).name) ((en (nd ns i).ah (j - 1)).name))))] ⟨Fu _ _,trivial⟩)] ?_
    refine NQ (NX ?_)
    refine af.aR (p:=fJ ((en (nd ns i).ah j).name) ((en (nd ns i).ah (j - 1)).name)) (fun _=>by kernel_rfl) (fun E7=>?_) (fun E7=>?_)
    ·refine SR (gK 1 [(2,vI 140)] [] ?_)
     refine NN (af.ret (ai.aj (ai.ax (ai.aj (ai.aj (ai.ax (ai.ax (ai.aj (ai.aj (ai.ax (ai.aj ?_)))))))))))
     exact RT (vI 140) [2] (⟨congrArg (Value.int .i64) (if_neg (c:=aS ns) (fun h=>by have h1:=(h.ah i (by omega) j (by omega)).ord;rw [Cr (by omega)] at h1;exact h1 E7)).symm,rfl⟩)
    refine af.skip (NX (SR (gK 7 [(145,.bool (decide (((nd ns (tgt ns (en (nd ns i).ah j).id)).kind:Int)=(2:Int))))] [(1,a_ 0 b1),(3,p_ ⟨[],some (tgt ns (en (nd ns i).ah j).id),none,some ⟨(ar A),aq A,none⟩,none⟩ [gJ ns (en (nd ns i).ah j).id=(((tgt ns (en (nd ns i).ah j).id):Nat):Int),(tgt ns (en (nd ns i).ah j).id) < ns.length,(⟨(ar A),aq A,none⟩:Addr).spot=none,(A:Option Addr)=some ⟨(ar A),aq A,none⟩] ⟨htl.2.2,by omega,rfl,au.hd hG (i:=(tgt ns (en (nd ns i).ah j).id)) (by omega),trivial⟩),(5,p_ ⟨[.old (.int .i64 ((nd ns (tgt ns (en (nd ns i).ah j).id)).kind))],none,none,none,none⟩ [(Rd β ⟨(ar A),aq A+(tgt ns (en (nd ns i).ah j).id) * 10+1,none⟩ (.int .i64 ((nd ns (tgt ns (en (nd ns i).ah j).id)).kind)))] ⟨au.rd hG (i:=(tgt ns (en (nd ns i).ah j).id)) (by omega) (j:=1) rfl,trivial⟩)] ?_)))
    refine NN (af.aR (p:=((nd ns (tgt ns (en (nd ns i).ah j).id)).kind:Int)=(2:Int)) (fun _=>by kernel_rfl) (fun nC=>?_) (fun nC=>?_))
    ·refine af.seq (SR (gK 5 [(150,.bool (decide (((gT.getD (tgt ns (en (nd ns i).ah j).id) 0):Int) ≥ (0:Int))))] [(2,p_ ⟨[],some (tgt ns (en (nd ns i).ah j).id),none,none,some (.pointer (some ⟨b3,(tgt ns (en (nd ns i).ah j).id),none⟩))⟩ [(Value.pointer (some ⟨b3,0+(tgt ns (en (nd ns i).ah j).id) * 1,none⟩))=(.pointer (some ⟨b3,(tgt ns (en (nd ns i).ah j).id),none⟩)),gJ ns (en (nd ns i).ah j).id=(((tgt ns (en (nd ns i).ah j).id):Nat):Int),(tgt ns (en (nd ns i).ah j).id) < ns.length,(⟨b3,0,none⟩:Addr).spot=none] ⟨by simp,htl.2.2,by omega,rfl,trivial⟩),(3,p_ ⟨[.view 1 (.int .i64 ((gT.getD (tgt ns (en (nd ns i).ah j).id) 0)))],none,none,none,none⟩ [(∀ F w,(aC 3 1 (some ⟨b3,0,none⟩) ns.length ns.length (cG gT)).h F w->w.cell? ⟨b3,(tgt ns (en (nd ns i).ah j).id),none⟩=some (vI ((gT.getD (tgt ns (en (nd ns i).ah j).id) 0))))] ⟨aC.cell (qH (by omega)),trivial⟩)] ?_))
     refine NN (af.aR (p:=((gT.getD (tgt ns (en (nd ns i).ah j).id) 0):Int) ≥ (0:Int)) (fun _=>by kernel_rfl) (fun I0=>?_) (fun I0=>?_))
     ·refine SR (gK 1 [(2,vI 140)] [] ?_)
      refine NN (af.ret (ai.aj (ai.ax (ai.aj (ai.aj (ai.ax (ai.ax (ai.aj (ai.aj (ai.ax (ai.aj ?_)))))))))))
      exact RT (vI 140) [2] (⟨congrArg (Value.int .i64) (if_neg (c:=aS ns) (fun h=>by have h1:sE (bW ns i j++bX ns i) (tgt ns (en (nd ns i).ah j).id) < 0:=qI.2 (qO (h.row (by omega)) (by omega) nC);rw [← nI.at_ (tgt ns (en (nd ns i).ah j).id) (by omega)] at h1;omega)).symm,rfl⟩)
     refine af.skip (NX (af.region (gK 4 [(153,vI ↑i),(154,.pointer (some ⟨b3,(tgt ns (en (nd ns i).ah j).id),none⟩))] [(3,p_ ⟨[],some (tgt ns (en (nd ns i).ah j).id),none,none,some (.pointer (some ⟨b3,(tgt ns (en (nd ns i).ah j).id),none⟩))⟩ [(Value.pointer (some ⟨b3,0+(tgt ns (en (nd ns i).ah j).id) * 1,none⟩))=(.pointer (some ⟨b3,(tgt ns (en (nd ns i).ah j).id),none⟩)),gJ ns (en (nd ns i).ah j).id=(((tgt ns (en (nd ns i).ah j).id):Nat):Int),(tgt ns (en (nd ns i).ah j).id) < ns.length,(⟨b3,0,none⟩:Addr).spot=none] ⟨by simp,htl.2.2,by omega,rfl,trivial⟩)] ?_)))
     refine ak.Ap 1 ((tgt ns (en (nd ns i).ah j).id)) (d:=none) (T:=3) (e:=3) (size:=1) (n:=ns.length) (cap:=ns.length) (g:=b3) (xs:=(cG gT)) (u:=.int .i64 ↑i) (a:=(.tmp 154)) (y:=(.tmp 153)) (fun _=>by kernel_rfl) (by kernel_rfl) (fun _=>by kernel_rfl) (fun _=>by kernel_rfl) (by kernel_rfl) rfl (by rw [cG,List.length_map];omega) ?_
     refine ak.dV 1 (p:=.abs (aC 3 1 (some ⟨b3,0,none⟩) ns.length ns.length ((cG gT).set ((tgt ns (en (nd ns i).ah j).id)) (.int .i64 ↑i)))) (p':=.abs (aC 3 1 (some ⟨b3,0,none⟩) ns.length ns.length (cG (gT.set (tgt ns (en (nd ns i).ah j).id) ((i:Nat):Int))))) (by kernel_rfl) (by rw [uz]) ?_
     refine NL (ai.aF (NX (af.region ?_)))
     refine gK 3 [(9,vI ↑(j+1))] [(1,p_ ⟨[],none,none,none,some (vI ↑(j+1))⟩ [(Value.int .i64 (IntKind.wrap .i64 (((j:Nat):Int)+1)))=(.int .i64 ↑(j+1))] ⟨aU (by omega) (by omega) (by omega),trivial⟩)] ?_
     refine NL ?_
     exact ai.turn ((j+1),(gT.set (tgt ns (en (nd ns i).ah j).id) ((i:Nat):Int))) (idx:=[1,6,8,9]) (pk:=[0,1,2]) (show (((j+1))<=(nd ns i).ah.length)/\(∀ t,t < ((j+1))->gj ns i t)/\(((bW ns i ((j+1))++bX ns i).map Prod.fst).Nodup)/\(qG ns.length ((gT.set (tgt ns (en (nd ns i).ah j).id) ((i:Nat):Int))) (bW ns i ((j+1))++bX ns i)) from ⟨by omega,fun t ht=>(by rcases Nat.lt_succ_iff_lt_or_eq.1 ht with h|h;exact hok t h;subst h;exact sF (Int.not_lt.1 y5) y6 (fun _=>E7)),(by rw [jc nC,List.cons_append,List.map_cons];exact List.nodup_cons.2 ⟨show tgt ns (en (nd ns i).ah j).id∉_ from qI.1 (by rw [← nI.at_ (tgt ns (en (nd ns i).ah j).id) (by omega)];omega),uw⟩),(by rw [jc nC];exact nI.put (by omega))⟩) (by show (nd ns i).ah.length - ((j+1)) < (nd ns i).ah.length - j;omega) (fun _=>by kernel_rfl) rfl (by kernel_rfl)
    refine af.skip (ai.aF (NX (af.region ?_)))
    refine gK 3 [(9,vI ↑(j+1))] [(1,p_ ⟨[],none,none,none,some (vI ↑(j+1))⟩ [(Value.int .i64 (IntKind.wrap .i64 (((j:Nat):Int)+1)))=(.int .i64 ↑(j+1))] ⟨aU (by omega) (by omega) (by omega),trivial⟩)] ?_
    refine NL ?_
    exact ai.turn ((j+1),gT) (idx:=[1,6,8,9]) (pk:=[0,1,2]) (show (((j+1))<=(nd ns i).ah.length)/\(∀ t,t < ((j+1))->gj ns i t)/\(((bW ns i ((j+1))++bX ns i).map Prod.fst).Nodup)/\(qG ns.length gT (bW ns i ((j+1))++bX ns i)) from ⟨by omega,fun t ht=>(by rcases Nat.lt_succ_iff_lt_or_eq.1 ht with h|h;exact hok t h;subst h;exact sF (Int.not_lt.1 y5) y6 (fun _=>E7)),(by rw [jC nC];exact uw),(by rw [jC nC];exact nI)⟩) (by show (nd ns i).ah.length - ((j+1)) < (nd ns i).ah.length - j;omega) (fun _=>by kernel_rfl) rfl (by kernel_rfl)
   refine gQ 16 [(138,.bool false)] [] ?_
   refine NQ (NX ?_)
   refine CF (af.skip (NX (SR (gK 7 [(145,.bool (decide (((nd ns (tgt ns (en (nd ns i).ah j).id)).kind:Int)=(2:Int))))] [(1,a_ 0 b1),(3,p_ ⟨[],some (tgt ns (en (nd ns i).ah j).id),none,some ⟨(ar A),aq A,none⟩,none⟩ [gJ ns (en (nd ns i).ah j).id=(((tgt ns (en (nd ns i).ah j).id):Nat):Int),(tgt ns (en (nd ns i).ah j).id) < ns.length,(⟨(ar A),aq A,none⟩:Addr).spot=none,(A:Option Addr)=some ⟨(ar A),aq A,none⟩] ⟨htl.2.2,by omega,rfl,au.hd hG (i:=(tgt ns (en (nd ns i).ah j).id)) (by omega),trivial⟩),(5,p_ ⟨[.old (.int .i64 ((nd ns (tgt ns (en (nd ns i).ah j).id)).kind))],none,none,none,none⟩ [(Rd β ⟨(ar A),aq A+(tgt ns (en (nd ns i).ah j).id) * 10+1,none⟩ (.int .i64 ((nd ns (tgt ns (en (nd ns i).ah j).id)).kind)))] ⟨au.rd hG (i:=(tgt ns (en (nd ns i).ah j).id)) (by omega) (j:=1) rfl,trivial⟩)] ?_))))
   refine NN (af.aR (p:=((nd ns (tgt ns (en (nd ns i).ah j).id)).kind:Int)=(2:Int)) (fun _=>by kernel_rfl) (fun nC=>?_) (fun nC=>?_))
   ·refine af.seq (SR (gK 5 [(150,.bool (decide (((gT.getD (tgt ns (en (nd ns i).ah j).id) 0):Int) ≥ (0:Int))))] [(2,p_ ⟨[],some (tgt ns (en (nd ns i).ah j).id),none,none,some (.pointer (some ⟨b3,(tgt ns (en (nd ns i).ah j).id),none⟩))⟩ [(Value.pointer (some ⟨b3,0+(tgt ns (en (nd ns i).ah j).id) * 1,none⟩))=(.pointer (some ⟨b3,(tgt ns (en (nd ns i).ah j).id),none⟩)),gJ ns (en (nd ns i).ah j).id=(((tgt ns (en (nd ns i).ah j).id):Nat):Int),(tgt ns (en (nd ns i).ah j).id) < ns.length,(⟨b3,0,none⟩:Addr).spot=none] ⟨by simp,htl.2.2,by omega,rfl,trivial⟩),(3,p_ ⟨[.view 1 (.int .i64 ((gT.getD (tgt ns (en (nd ns i).ah j).id) 0)))],none,none,none,none⟩ [(∀ F w,(aC 3 1 (some ⟨b3,0,none⟩) ns.length ns.length (cG gT)).h F w->w.cell? ⟨b3,(tgt ns (en (nd ns i).ah j).id),none⟩=some (vI ((gT.getD (tgt ns (en (nd ns i).ah j).id) 0))))] ⟨aC.cell (qH (by omega)),trivial⟩)] ?_))
    refine NN (af.aR (p:=((gT.getD (tgt ns (en (nd ns i).ah j).id) 0):Int) ≥ (0:Int)) (fun _=>by kernel_rfl) (fun I0=>?_) (fun I0=>?_))
    ·refine SR (gK 1 [(2,vI 140)] [] ?_)
     refine NN (af.ret (ai.aj (ai.ax (ai.aj (ai.aj (ai.ax (ai.ax (ai.aj (ai.aj (ai.ax (ai.aj ?_)))))))))))
     exact RT (vI 140) [2] (⟨congrArg (Value.int .i64) (if_neg (c:=aS ns) (fun h=>by have h1:sE (bW ns i j++bX ns i) (tgt ns (en (nd ns i).ah j).id) < 0:=qI.2 (qO (h.row (by omega)) (by omega) nC);rw [← nI.at_ (tgt ns (en (nd ns i).ah j).id) (by omega)] at h1;omega)).symm,rfl⟩)
    refine af.skip (NX (af.region (gK 4 [(153,vI ↑i),(154,.pointer (some ⟨b3,(tgt ns (en (nd ns i).ah j).id),none⟩))] [(3,p_ ⟨[],some (tgt ns (en (nd ns i).ah j).id),none,none,some (.pointer (some ⟨b3,(tgt ns (en (nd ns i).ah j).id),none⟩))⟩ [(Value.pointer (some ⟨b3,0+(tgt ns (en (nd ns i).ah j).id) * 1,none⟩))=(.pointer (some ⟨b3,(tgt ns (en (nd ns i).ah j).id),none⟩)),gJ ns (en (nd ns i).ah j).id=(((tgt ns (en (nd ns i).ah j).id):Nat):Int),(tgt ns (en (nd ns i).ah j).id) < ns.length,(⟨b3,0,none⟩:Addr).spot=none] ⟨by simp,htl.2.2,by omega,rfl,trivial⟩)] ?_)))
    refine ak.Ap 1 ((tgt ns (en (nd ns i).ah j).id)) (d:=none) (T:=3) (e:=3) (size:=1) (n:=ns.length) (cap:=ns.length) (g:=b3) (xs:=(cG gT)) (u:=.int .i64 ↑i) (a:=(.tmp 154)) (y:=(.tmp 153)) (fun _=>by kernel_rfl) (by kernel_rfl) (fun _=>by kernel_rfl) (fun _=>by kernel_rfl) (by kernel_rfl) rfl (by rw [cG,List.length_map];omega) ?_
    refine ak.dV 1 (p:=.abs (aC 3 1 (some ⟨b3,0,none⟩) ns.length ns.length ((cG gT).set ((tgt ns (en (nd ns i).ah j).id)) (.int .i64 ↑i)))) (p':=.abs (aC 3 1 (some ⟨b3,0,none⟩) ns.length ns.length (cG (gT.set (tgt ns (en (nd ns i).ah j).id) ((i:Nat):Int))))) (by kernel_rfl) (by rw [uz]) ?_
    refine NL (ai.aF (NX (af.region ?_)))
    refine gK 3 [(9,vI ↑(j+1))] [(1,p_ ⟨[],none,none,none,some (vI ↑(j+1))⟩ [(Value.int .i64 (IntKind.wrap .i64 (((j:Nat):Int)+1)))=(.int .i64 ↑(j+1))] ⟨aU (by omega) (by omega) (by omega),trivial⟩)] ?_
    refine NL ?_
    exact ai.turn ((j+1),(gT.set (tgt ns (en (nd ns i).ah j).id) ((i:Nat):Int))) (idx:=[1,6,8,9]) (pk:=[0,1,2]) (show (((j+1))<=(nd ns i).ah.length)/\(∀ t,t < ((j+1))->gj ns i t)/\(((bW ns i ((j+1))++bX ns i).map Prod.fst).Nodup)/\(qG ns.length ((gT.set (tgt ns (en (nd ns i).ah j).id) ((i:Nat):Int))) (bW ns i ((j+1))++bX ns i)) from ⟨by omega,fun t ht=>(by rcases Nat.lt_succ_iff_lt_or_eq.1 ht with h|h;exact hok t h;subst h;exact sF (Int.not_lt.1 y5) y6 (fun h=>absurd h (by omega))),(by rw [jc nC,List.cons_append,List.map_cons];exact List.nodup_cons.2 ⟨show tgt ns (en (nd ns i).ah j).id∉_ from qI.1 (by rw [← nI.at_ (tgt ns (en (nd ns i).ah j).id) (by omega)];omega),uw⟩),(by rw [jc nC];exact nI.put (by omega))⟩) (by show (nd ns i).ah.length - ((j+1)) < (nd ns i).ah.length - j;omega) (fun _=>by kernel_rfl) rfl (by kernel_rfl)
   refine af.skip (ai.aF (NX (af.region ?_)))
   refine gK 3 [(9,vI ↑(j+1))] [(1,p_ ⟨[],none,none,none,some (vI ↑(j+1))⟩ [(Value.int .i64 (IntKind.wrap .i64 (((j:Nat):Int)+1)))=(.int .i64 ↑(j+1))] ⟨aU (by omega) (by omega) (by omega),trivial⟩)] ?_
   refine NL ?_
   exact ai.turn ((j+1),gT) (idx:=[1,6,8,9]) (pk:=[0,1,2]) (show (((j+1))<=(nd ns i).ah.length)/\(∀ t,t < ((j+1))->gj ns i t)/\(((bW ns i ((j+1))++bX ns i).map Prod.fst).Nodup)/\(qG ns.length gT (bW ns i ((j+1))++bX ns i)) from ⟨by omega,fun t ht=>(by rcases Nat.lt_succ_iff_lt_or_eq.1 ht with h|h;exact hok t h;subst h;exact sF (Int.not_lt.1 y5) y6 (fun h=>absurd h (by omega))),(by rw [jC nC];exact uw),(by rw [jC nC];exact nI)⟩) (by show (nd ns i).ah.length - ((j+1)) < (nd ns i).ah.length - j;omega) (fun _=>by kernel_rfl) rfl (by kernel_rfl)
  refine af.exit (ai.aL (ai.aL (ai.bG (ai.aF (NX (af.region ?_))))))
  refine gK 3 [(8,vI ↑(i+1))] [(1,p_ ⟨[],none,none,none,some (vI ↑(i+1))⟩ [(Value.int .i64 (IntKind.wrap .i64 (((i:Nat):Int)+1)))=(.int .i64 ↑(i+1))] ⟨aU (by omega) (by omega) (by omega),trivial⟩)] ?_
  refine NL ?_
  exact ai.turn ((i+1),gT) (idx:=[1,6,8]) (pk:=[0,1,2]) (show (((i+1))<=ns.length)/\(∀ a,a < ((i+1))->∀ j,j < (nd ns a).ah.length->gj ns a j)/\(((bX ns ((i+1))).map Prod.fst).Nodup)/\(qG ns.length gT (bX ns ((i+1)))) from ⟨by omega,fun a ha=>(by rcases Nat.lt_succ_iff_lt_or_eq.1 ha with h|h;exact qF a h;subst h;exact fun j' hj'=>hok j' (by omega)),(by have:=uw;rwa [show j=(nd ns i).ah.length by omega] at this),(by have:=nI;rwa [show j=(nd ns i).ah.length by omega] at this)⟩) (by show ns.length - ((i+1)) < ns.length - i;omega) (fun _=>by kernel_rfl) rfl (by kernel_rfl)
 refine af.exit (ai.aL (ai.aL (ai.bG (NX (af.seq (SR ?_))))))
 refine gK 1 [(12,vI 0)] [] ?_
 refine NN (af.block ?_)
 have JR:qG ns.length jk (bX ns ns.length):=by have:=hpar;rwa [show i=ns.length by omega] at this
 have hed:=qb (ns:=ns) (Nat.le_refl _) (fun a ha=>qF a (by omega))
 refine af.loop (ι:=Nat) (fun (a:Nat)=>(a<=ns.length)/\(∀ b,b < a->Ends ((bX ns ns.length).map (dM ns)) (nd ns b).id)) (fun (a:Nat)=>ns.length - a) (fun (a:Nat)=>[(6,.slice (some ⟨b3,0,none⟩) (ns.length) (ns.length)),(12,vI ↑a)]) (fun (a:Nat)=>[.abs (aC 3 1 (some ⟨b3,0,none⟩) ns.length ns.length (cG jk)),.abs R]) 0 (idx:=[6,12]) (pk:=[1,2]) (show (0<=ns.length)/\(∀ b,b < 0->Ends ((bX ns ns.length).map (dM ns)) (nd ns b).id) from ⟨Nat.zero_le _,fun b hb=>absurd hb (Nat.not_lt_zero b)⟩) (fun _=>by kernel_rfl) rfl (by kernel_rfl) ?_
 rintro a ⟨ha,hend⟩
 show af _ _ _ _ [(6,.slice (some ⟨b3,0,none⟩) (ns.length) (ns.length)),(12,vI ↑a)] [.abs (aC 3 1 (some ⟨b3,0,none⟩) ns.length ns.length (cG jk)),.abs R] _
 have Po:=hpar.len
 refine af.seq (SR (gK 4 [(158,.bool (decide ((((a:Nat):Int):Int) < (((ns.length:Nat):Int):Int))))] [] ?_))
 refine NN (af.aR (p:=(((a:Nat):Int):Int) < (((ns.length:Nat):Int):Int)) (fun _=>by kernel_rfl) (fun OB=>?_) (fun OB=>?_))
 ·refine af.skip (NX (af.seq (af.block (SR ?_))))
  refine gK 5 [(13,vI ((jk.getD a 0)))] [(2,p_ ⟨[],some a,none,none,some (.pointer (some ⟨b3,a,none⟩))⟩ [(Value.pointer (some ⟨b3,0+a * 1,none⟩))=(.pointer (some ⟨b3,a,none⟩)),((a:Nat):Int)=((a:Nat):Int),a < ns.length,(⟨b3,0,none⟩:Addr).spot=none] ⟨by simp,rfl,by omega,rfl,trivial⟩),(3,p_ ⟨[.view 0 (.int .i64 ((jk.getD a 0)))],none,none,none,none⟩ [(∀ F w,(aC 3 1 (some ⟨b3,0,none⟩) ns.length ns.length (cG jk)).h F w->w.cell? ⟨b3,a,none⟩=some (vI ((jk.getD a 0))))] ⟨aC.cell (qH (by omega)),trivial⟩)] ?_
  refine NS (gK 1 [(14,vI 0)] [] ?_)
  refine NN (af.block ?_)
  refine af.loop (ι:=Int×Nat×(List Int)) (fun ((at_,step,w):Int×Nat×(List Int))=>((at_ < 0/\Ends ((bX ns ns.length).map (dM ns)) (nd ns a).id)\/∃ q:Nat,at_=(q:Int)/\q < ns.length/\Way ((bX ns ns.length).map (dM ns)) (nd ns a).id w (nd ns q).id/\w.length=step+1)) (fun ((at_,step,w):Int×Nat×(List Int))=>ns.length+2 - step) (fun ((at_,step,w):Int×Nat×(List Int))=>[(6,.slice (some ⟨b3,0,none⟩) (ns.length) (ns.length)),(12,vI ↑a),(13,vI (at_)),(14,vI ↑step)]) (fun ((at_,step,w):Int×Nat×(List Int))=>[.abs (aC 3 1 (some ⟨b3,0,none⟩) ns.length ns.length (cG jk)),.abs R]) ((jk.getD a 0),0,[(nd ns a).id]) (idx:=[6,12,13,14]) (pk:=[0,1]) (show ((((jk.getD a 0)) < 0/\Ends ((bX ns ns.length).map (dM ns)) (nd ns a).id)\/∃ q:Nat,((jk.getD a 0))=(q:Int)/\q < ns.length/\Way ((bX ns ns.length).map (dM ns)) (nd ns a).id ([(nd ns a).id]) (nd ns q).id/\([(nd ns a).id]).length=0+1) from Cq sD hed JR (by omega) .nil rfl) (fun _=>by kernel_rfl) rfl (by kernel_rfl) ?_
  rintro⟨at_,step,w⟩ hst
  show af _ _ _ _ [(6,.slice (some ⟨b3,0,none⟩) (ns.length) (ns.length)),(12,vI ↑a),(13,vI (at_)),(14,vI ↑step)] [.abs (aC 3 1 (some ⟨b3,0,none⟩) ns.length ns.length (cG jk)),.abs R] _
  refine af.seq (SR (gK 2 [(166,.bool (decide ((at_:Int) ≥ (0:Int))))] [] ?_))
  refine NN (af.aR (p:=(at_:Int) ≥ (0:Int)) (fun _=>by kernel_rfl) (fun OC=>?_) (fun OC=>?_))
  ·obtain⟨b,hb0,hb1,hb2,hb3⟩:=hst.resolve_left (fun h=>by omega)
   refine af.skip (NX (af.seq (af.block (af.seq (SR ?_)))))
   refine gK 4 [(172,.bool (decide ((at_:Int)=(((a:Nat):Int):Int))))] [] ?_
   refine ak.bZ 172 ((at_:Int)=(((a:Nat):Int):Int)) (fun _=>by kernel_rfl) (fun OD=>?_) (fun OD=>?_)
   ·refine gK 5 [(177,.bool true)] [] ?_
    refine NN (CT (SR (gK 1 [(2,vI 140)] [] ?_)))
    refine NN (af.ret (ai.aj (ai.ax (ai.aj (ai.aj (ai.ax (ai.ax (ai.aj (ai.aj (ai.ax (ai.aj ?_)))))))))))
    exact RT (vI 140) [1] (⟨congrArg (Value.int .i64) (if_neg (c:=aS ns) (fun h=>by rw [show b=a by omega] at hb2;exact hb2.back (by omega) (h.ends _))).symm,rfl⟩)
   refine gK 5 [(177,.bool (decide ((((step:Nat):Int):Int) > (((ns.length:Nat):Int):Int))))] [] ?_
   refine NN (af.aR (p:=(((step:Nat):Int):Int) > (((ns.length:Nat):Int):Int)) (fun _=>by kernel_rfl) (fun OE=>?_) (fun OE=>?_))
   ·refine SR (gK 1 [(2,vI 140)] [] ?_)
    refine NN (af.ret (ai.aj (ai.ax (ai.aj (ai.aj (ai.ax (ai.ax (ai.aj (ai.aj (ai.ax (ai.aj ?_)))))))))))
    exact RT (vI 140) [1] (⟨congrArg (Value.int .i64) (if_neg (c:=aS ns) (fun h=>by exact hb2.never (by have:=h.few;omega) (h.ends _))).symm,rfl⟩)
   refine af.skip (NX (af.region (gK 5 [(13,vI ((jk.getD b 0)))] [(2,p_ ⟨[],some b,none,none,some (.pointer (some ⟨b3,b,none⟩))⟩ [(Value.pointer (some ⟨b3,0+b * 1,none⟩))=(.pointer (some ⟨b3,b,none⟩)),at_=((b:Nat):Int),b < ns.length,(⟨b3,0,none⟩:Addr).spot=none] ⟨by simp,hb0,by omega,rfl,trivial⟩),(3,p_ ⟨[.view 0 (.int .i64 ((jk.getD b 0)))],none,none,none,none⟩ [(∀ F w,(aC 3 1 (some ⟨b3,0,none⟩) ns.length ns.length (cG jk)).h F w->w.cell? ⟨b3,b,none⟩=some (vI ((jk.getD b 0))))] ⟨aC.cell (qH (by omega)),trivial⟩)] ?_)))
   refine NL (ai.aF (NX (af.region ?_)))
   refine gK 3 [(14,vI ↑(step+1))] [(1,p_ ⟨[],none,none,none,some (vI ↑(step+1))⟩ [(Value.int .i64 (IntKind.wrap .i64 (((step:Nat):Int)+1)))=(.int .i64 ↑(step+1))] ⟨aU (by omega) (by omega) (by omega),trivial⟩)] ?_
   refine NL ?_
   exact ai.turn ((jk.getD b 0),(step+1),(w++[(nd ns b).id])) (idx:=[6,12,13,14]) (pk:=[0,1]) (show ((((jk.getD b 0)) < 0/\Ends ((bX ns ns.length).map (dM ns)) (nd ns a).id)\/∃ q:Nat,((jk.getD b 0))=(q:Int)/\q < ns.length/\Way ((bX ns ns.length).map (dM ns)) (nd ns a).id ((w++[(nd ns b).id])) (nd ns q).id/\((w++[(nd ns b).id])).length=((step+1))+1) from Cq sD hed JR hb1 hb2 hb3) (by show ns.length+2 - ((step+1)) < ns.length+2 - step;omega) (fun _=>by kernel_rfl) rfl (by kernel_rfl)
  refine af.exit (ai.aL (ai.aL (ai.bG (ai.aF (NX (af.region ?_))))))
  refine gK 3 [(12,vI ↑(a+1))] [(1,p_ ⟨[],none,none,none,some (vI ↑(a+1))⟩ [(Value.int .i64 (IntKind.wrap .i64 (((a:Nat):Int)+1)))=(.int .i64 ↑(a+1))] ⟨aU (by omega) (by omega) (by omega),trivial⟩)] ?_
  refine NL ?_
  exact ai.turn ((a+1)) (idx:=[6,12]) (pk:=[0,1]) (show (((a+1))<=ns.length)/\(∀ b,b < ((a+1))->Ends ((bX ns ns.length).map (dM ns)) (nd ns b).id) from ⟨by omega,fun b hb=>by rcases Nat.lt_succ_iff_lt_or_eq.1 hb with h|h;exact hend b h;subst h;rcases hst with h2|⟨q,hq,_⟩;exact h2.2;omega⟩) (by show ns.length - ((a+1)) < ns.length - a;omega) (fun _=>by kernel_rfl) rfl (by kernel_rfl)
 refine af.exit (ai.aL (ai.aL (ai.bG (NX (SR ?_)))))
 refine gK 1 [(2,vI 0)] [] ?_
 refine NN (af.ret ?_)
 exact RT (vI 0) [1] (⟨congrArg (Value.int .i64) (if_pos (c:=aS ns) ⟨by omega,fun a ha=>hu.node a (by omega),fun a ha=>hu.ids a (by omega),sD,by omega,fun a ha=>qF a (by omega),by have:=hnd;rwa [show i=ns.length by omega] at this,Gz (fun p hp=>(hed p hp).1) (fun b hb=>hend b (by omega))⟩).symm,rfl⟩)
end
section
open Go.RowKit
theorem B0.refl (W:World):(B0 W).le (B0 W):=⟨fun _ h=>h,rfl,rfl,rfl,Nat.le_refl _,fun _ hk=>⟨hk,rfl⟩⟩
theorem Spec.val {P:Program} {β:Bs} {f:FuncId} {args:Array Value} {pre:List HP} {x y:Value} {l0:List HP} (h:Spec P β f args pre (fun v l=>v=x/\l=l0)) (e:x=y):Spec P β f args pre (fun v l=>v=y/\l=l0):=h.mono fun _ _ h=>⟨h.1.trans e,h.2⟩
section gb
variable {ns:List aE} {b:Nat}
variable (h:jB ns 1048576)
include h
end gb
def L0:Lay:=⟨fun _=>none,fun _=>none,fun _=>0,fun _=>0⟩
end
section
open Go.RowKit Go.Maps ck aB
theorem Spec.M5 {P:Program} {β:Bs} {f:FuncId} {args:Array Value} {pre:List HP} {post:Value->List HP->Prop} {Ψ:Bs->Value->List HP->Prop} (h:Spec P β f args pre post) (Am:∀ v l,post v l->∃ l1 l2,l=l1++l2/\∀ β',og β l2 β'->Ψ β' v l1):eG P β f args pre Ψ:=by
  intro A w hS
  refine (h A w hS).mono ?_
  rintro e w' ⟨v,l,h1,h2,h3⟩
  obtain⟨l1,l2,rfl,hl⟩:=Am v l h2
  have h4:Sat β (([.abs A]++l1)++l2) w':=by rw [List.append_assoc];exact Sat.turn h3
  obtain⟨β',g1,_,g3⟩:=h4.yc
  exact⟨β',v,l1,g1.le,h1,hl β' g1,Sat.turn g3⟩
section c
variable {β:Bs} {S S2:aH} {L:HL} {f m t:Nat} {c c2:aQ}
theorem wE (hI:Inv S) (hC:fI β c) (h:mB S c=(S2,c2)):Spec Tryz.prog β 11 #[vP f,.agg ⟨gM c⟩] (pA f m t L S) (fun v l=>∃ L2,v=.agg ⟨gM c2⟩/\l=pA f m t L2 S2):=by
  have h1:=LG (β:=β) S L f m t hI c hC
  rw [h] at h1
  exact h1
theorem E8 (hI:Inv S):eG Tryz.prog β 12 #[vP f] [pF f m t S.X,pI m L S.idx,pO S.O L,pD S.O L,pE S.O L] (fun β' v l=>∃ A cp K,v=.agg #[.slice A (aI S).length cp]/\l=[pF f m t S.X,pI m L S.idx,pO S.O L,pD S.O L,pE S.O L]/\au β' A (aI S) K):=
  (zK S L f m t hI).M5 (by
    rintro v l ⟨A,cp,K,rfl,rfl⟩
    exact⟨_,_,rfl,fun β' h=>⟨A,cp,K,rfl,rfl,h.graph⟩⟩)
theorem y7 (h1:(Lit.int .i64 c.handle).wf=true) (h2:(Lit.int .i64 c.other).wf=true) (h3:c.name.size<=1048576) (h4:c.text.size<=1048576) (h5:c.data=[]):fI β c:=
  ⟨h1,h2,h3,h4,by rw [h5];exact fun j v hj=>by simp [cA] at hj,by rw [h5];decide,by rw [h5];exact Nat.zero_le _⟩
theorem E9 {room:Int} (hr:0<=room/\room<=1099511627776) {B:Option Addr} {cp:Nat} {Y:Lay} (hG:au β B nB Y):Spec Tryz.prog β 6 #[.agg #[.slice B 2 cp],.agg #[.int .i64 9,.int .i64 room,.int .i64 9,.int .i64 0,.int .i64 0]] [] (fun v l=>∃ S f m t L,E0 room S/\v=.tuple #[.pointer (some ⟨f,0,none⟩),.int .i64 0]/\l=pA f m t L S):=by
  refine (y4 B cp nB Y hG (by decide) (fun i hi=>?_) (fun i hi j hj=>?_) (fun i hi j hj=>?_) (IV room)).mono ?_
  ·rcases sI hi with rfl|rfl<;>exact⟨by decide,by decide⟩
  ·rcases sI hi with rfl|rfl
   ·have:j=0:=by have hj:j < 1:=hj;omega
    subst this;exact⟨by decide,by decide⟩
   exact absurd hj (Nat.not_lt_zero j)
  ·rcases sI hi with rfl|rfl
   ·have:j=0:=by have hj:j < 1:=hj;omega
    subst this;decide
   exact absurd hj (Nat.not_lt_zero j)
  rintro v l (⟨h,_⟩|⟨_,h,_⟩|⟨_,_,S,f,m,t,L,h1,h2,h3⟩)
  ·exact absurd (Kk hr) h
  ·exact absurd L6 h
  exact⟨S,f,m,t,L,Km h1,h2,h3⟩
end c
end
section
open Go.RowKit Go.Maps ck aB
theorem C6 {ns:List aE} {i j:Nat} (h:i<=j):dL ns i<=dL ns j:=by
  induction j with
  | zero=>rw [Nat.le_zero.1 h];exact Nat.le_refl _
  | succ j ih=>
    rcases Nat.lt_or_ge j i with e|e
    ·rw [show i=j+1 by omega];exact Nat.le_refl _
    exact Nat.le_trans (ih e) (Nat.le_add_right ..)
theorem Fa {ns:List aE} {i:Nat} (h:i<=ns.length):dL ns i<=dL ns ns.length:=C6 h
section at_
variable {S:aH} {i j:Nat}
theorem I3 (hi:i < S.idx.length):nd (aI S) i=qA S.O (cD S i) (jW S i):=by
  unfold nd aI
  rw [List.getD_eq_getElem?_getD,List.getElem?_map,xH hi];rfl
end at_
end
section
open Go.RowKit
def nD (β:Bs) (Φ:Bs->Prop):bY where
  h F w:=∃ β':Bs,β.le β'/\(∀ k,β'.O k->β.O k\/F k)/\(∀ k,F k->β'.O k)/\β'.w0.heap.size<=w.heap.size/\(∀ k,F k->k < β'.w0.heap.size/\w.heap[k]?=β'.w0.heap[k]?)/\Φ β'
  lt:=fun ⟨_,_,_,_,h4,h5,_⟩ k hk=>Nat.lt_of_lt_of_le (h5 k hk).1 h4
  st:=fun ⟨β',h1,h2,h3,h4,h5,h6⟩ _ _ hk hs=>⟨β',h1,h2,h3,Nat.le_trans h4 hk.size,fun k hF=>⟨(h5 k hF).1,(hk.block k (Nat.lt_of_lt_of_le (h5 k hF).1 h4) (hs k hF)).trans (h5 k hF).2⟩,h6⟩
section Mf
variable {P:Program} {β:Bs} {N:Nat} {ops:Array Oper} {k:Nat} {fr:Fr} {hps cO:List HP} {Q:Post} {f:FuncId} {args:Array Value} {pre:List HP}
theorem eG.Mf {ι:Type} {vv:ι->Value} {ll:ι->List HP} {Φ:ι->Bs->Prop} (h:eG P β f args pre (fun β' v l=>∃ x,v=vv x/\l=ll x/\Φ x β')):Spec P β f args pre (fun v l=>∃ x,v=vv x/\l=.abs (nD β (Φ x))::ll x):=by
  intro R w hS
  refine (h R w hS).mono ?_
  rintro e w' ⟨β',v,l,hle,he,⟨x,rfl,rfl,Am⟩,ho,φ,h1,h2,h3⟩
  refine⟨vv x,_,he,⟨x,rfl,rfl⟩,ho.le hle,fun i=>match i with
    | 0=>fun k=>β'.O k/\¬ β.O k
    | i+1=>φ i,fun i p hp=>?_,fun i hi k hk hO=>?_,fun i j hi hj hne k hk hk'=>?_⟩
  ·cases i with
   | zero=>
     have hp:some (HP.abs (nD β (Φ x)))=some p:=hp
     cases hp
     exact⟨β',hle,fun k hk=>(Classical.em (β.O k)).elim .inl (fun hn=>.inr ⟨hk,hn⟩),fun k hk=>hk.1,ho.size,fun k hk=>ho.old k hk.1,Am⟩
   | succ i=>exact h1 i p (by simpa using hp)
  ·cases i with
   | zero=>exact hk.2 hO
   | succ i=>exact h2 i (by simp at hi ⊢;omega) k hk (hle.O k hO)
  cases i with
  | zero=>
    cases j with
    | zero=>exact hne rfl
    | succ j=>exact h2 j (by simp at hj ⊢;omega) k hk' hk.1
  | succ i=>
    cases j with
    | zero=>exact h2 i (by simp at hi ⊢;omega) k hk hk'.1
    | succ j=>exact h3 i j (by simp at hi ⊢;omega) (by simp at hj ⊢;omega) (by omega) k hk hk'
theorem Sat.I4 {Φ:Bs->Prop} {l:List HP} {w:World} (h:Sat β (.abs (nD β Φ)::l) w):∃ β':Bs,β.le β'/\Φ β'/\Sat β' l w:=by
  obtain⟨ho,φ,h1,h2,h3⟩:=h
  have hF:(nD β Φ).h (φ 0) w:=h1 0 _ rfl
  obtain⟨β',g1,g2,g3,g4,g5,g6⟩:=hF
  refine⟨β',g1,g6,⟨ho.os.trans g1.os.symm,ho.tape.trans g1.tape.symm,ho.output.trans g1.output.symm,g4,fun k hk=>?_⟩,fun j=>φ (j+1),fun j p hp=>h1 (j+1) p (by simpa using hp),fun j hj k hk hO=>?_,fun a b ha hb hne=>h3 (a+1) (b+1) (by simp;omega) (by simp;omega) (by omega)⟩
  ·rcases g2 k hk with hb|hb
   ·have e1:=g1.old k hb
    have e2:=ho.old k hb
    exact⟨Nat.lt_of_lt_of_le e1.1 g1.size,e2.2.trans e1.2.symm⟩
   exact g5 k hb
  rcases g2 k hO with hb|hb
  ·exact h2 (j+1) (by simp;omega) k hk hb
  exact h3 (j+1) 0 (by simp;omega) (by simp) (by omega) k hk hb
theorem ak.I4 {Φ:Bs->Prop} (i:Nat) (idx:List Nat) (hp:hps[i]?=some (.abs (nD β Φ))) (hn:aZ (i::idx)=true) (hl:bF hps idx=some cO)
    (K:∀ β':Bs,β.le β'->Φ β'->ak P β' N ops k fr cO Q):ak P β N ops k fr hps Q:=fun junk w hS=>by
  obtain⟨β',g1,g2,g3⟩:=(hS.pick (idx:=i::idx) (l':=.abs (nD β Φ)::cO) hn (by simp only [bF,hp,hl])).I4
  exact K β' g1 g2 junk w g3
end Mf
end
section
open Go.RowKit ck aB Go.Maps
theorem Spec.D1 {P:Program} {β:Bs} {f:FuncId} {args:Array Value} {pre R:List HP} {post:Value->List HP->Prop} (h:∀ β':Bs,og β R β'->Spec P β' f args pre post):Spec P β f args (pre++R) (fun v l=>∃ l0,post v l0/\l=l0++R):=by
  intro A w hS
  have h1:=Sat.turn hS
  rw [← List.append_assoc] at h1
  obtain⟨β',g1,_,g3⟩:=h1.yc
  refine (h β' g1 A w (Sat.turn g3)).mono ?_
  rintro e w' ⟨v,l,h1,h2,h3⟩
  refine⟨v,l++R,h1,⟨l,h2,rfl⟩,?_⟩
  have h4:=g1.back (Sat.turn h3)
  rw [List.append_assoc] at h4
  exact Sat.turn h4
section ints
variable {β:Bs} {A:Option Addr} {l:List Int} {j:Nat}
theorem qJ.get (h:eF β A (ints l)) (hj:j < l.length):A=some ⟨ar A,aq A,none⟩/\Rd β ⟨ar A,aq A+j * 1,none⟩ (.int .i64 (l.getD j 0)):=by
  rw [Nat.mul_one]
  refine h j _ ?_
  unfold ints
  rw [List.getElem?_map,List.getElem?_eq_getElem hj,List.getD_eq_getElem?_getD,List.getElem?_eq_getElem hj];rfl
theorem qJ.hd (h:eF β A (ints l)) (hj:j < l.length):A=some ⟨ar A,aq A,none⟩:=(qJ.get h hj).1
theorem qJ.rd (h:eF β A (ints l)) (hj:j < l.length):Rd β ⟨ar A,aq A+j * 1,none⟩ (.int .i64 (l.getD j 0)):=(qJ.get h hj).2
end ints
theorem zU {β:Bs} (A B:Option Addr) (c c':Nat) (ns ms:List aE) (L K:Lay) (hH:au β B ms K) (hl:ns.length<=1048576) (hd:∀ i,i < ns.length->(nd ns i).data.length<=140737488355328/\(nd ns i).ah.length<=1048576) {b:Bool} (hb:decide (ns=ms)=b) :
    Spec Tryz.prog β 8 #[.agg #[.slice A ns.length c],.agg #[.slice B ms.length c']] (ES A c ns L) (fun v l=>v=.bool b/\l=ES A c ns L):=
  (Spec.D1 (pre:=[]) (fun _ g=>pK A B c c' ns ms L K g.graph (hH.le g.le) hl hd)).mono (by rintro v l ⟨l0,⟨rfl,rfl⟩,rfl⟩;exact⟨congrArg Value.bool hb,rfl⟩)
theorem CA {β:Bs} (t:Nat) (most av:Int) (L:HL) (us:Used Th) :
    Spec Tryz.prog β 40 #[.pointer (some ⟨t,0,none⟩)] [.abs (bH 110 t most av (aT L us))] (fun v l=>∃ A c,v=.slice A us.length c/\l=[.abs (bH 110 t most av (aT L us)),.abs (aC 3 1 A us.length c (ints (keys us)))]):=by
  have h:=Bt (β:=β) t most av (aT L us)
  have e:keys (aT L us)=keys us:=keys_map (dh L) us
  have e2:(keys us).length=us.length:=List.length_map ..
  rw [e,e2] at h
  exact h
theorem I5 {S:aH} (h:Inv0 S):∀ i,i < (aI S).length->(nd (aI S) i).data.length<=140737488355328/\(nd (aI S) i).ah.length<=1048576:=fun i hi=>by
  rw [mD] at hi
  have h1:(obj S.O (jW S i).k).data.length<=bytes S.idx S.O:=jU (g:=fun p:Int×Th=>(obj S.O p.2.k).data.length) (get_at h hi)
  have h2:(obj S.O (jW S i).k).ah.length<=tot S.idx S.O:=jU (g:=fun p:Int×Th=>(obj S.O p.2.k).ah.length) (get_at h hi)
  have h3:=h.used
  have h4:=h.total
  rw [I3 hi]
  refine⟨by show (obj S.O (jW S i).k).data.length<=_;omega,?_⟩
  show ((obj S.O (jW S i).k).ah.map _).length<=_
  rw [List.length_map]
  omega
theorem zV {β:Bs} (A:Option Addr) (c:Nat) (ns:List aE) (L:Lay) (hG:au β A ns L) (hl:ns.length<=1048576) (hd:∀ i,i < ns.length->(nd ns i).data.length<=1048576/\(nd ns i).ah.length<=1048576) :
    Spec Tryz.prog β 5 #[.agg #[.slice A ns.length c]] [] (fun v l=>∃ B cap,v=.agg #[.slice B ns.length cap]/\l=[.abs (nD β (fun β'=>∃ K,au β' B ns K))]):=
  (eG.Mf (ι:=Option Addr×Nat) (vv:=fun x=>.agg #[.slice x.1 ns.length x.2]) (ll:=fun _=>[]) (Φ:=fun x β'=>∃ K,au β' x.1 ns K)
    ((tu A c ns L hG hl hd).mono (by rintro β' v l _ ⟨B,cap,K,rfl,rfl,h⟩;exact⟨(B,cap),rfl,rfl,K,h⟩))).mono (by rintro v l ⟨⟨B,cap⟩,rfl,rfl⟩;exact⟨B,cap,rfl,rfl⟩)
end
section
open Go.RowKit Go.Maps ck aB
attribute [local irreducible] ak aK af ai
theorem I6 {β:Bs} (A B:Option Addr) (c d:Nat) (l:List Int) (hA:eF β A (ints l)) (hB:eF β B (ints l)) (hl:l.length<=1048576) :
    Spec Tryz.prog β 24 #[.slice A l.length c,.slice B l.length d] [] (fun v l=>v=.bool true/\l=[]):=by
 refine Spec.enter Tryz.func24 rfl Tryz.ntmps24 (Nat.le_of_ble_eq_true rfl) (fun R=>?_)
 refine SR (gK 1 [] [] ?_)
 refine NN (af.seq (SR (gK 5 [(10,.bool false)] [(4,p_ ⟨[],none,none,none,some (.bool false)⟩ [(Value.bool (!decide ((((l.length:Nat):Int):Int)=(((l.length:Nat):Int):Int))))=(.bool false)] ⟨by simp,trivial⟩)] ?_)))
 refine NN (CF (af.skip (NX (af.seq (SR (gK 1 [(5,vI 0)] [] ?_))))))
 refine NN (af.block ?_)
 refine af.loop (ι:=Nat) (fun (i:Nat)=>(i<=l.length)) (fun (i:Nat)=>l.length - i) (fun (i:Nat)=>[(0,.slice A (l.length) (c)),(1,.slice B (l.length) (d)),(5,vI ↑i)]) (fun (i:Nat)=>[.abs R]) 0 (idx:=[0,1,5]) (pk:=[0]) (show (0<=l.length) from Nat.zero_le _) (fun _=>by kernel_rfl) rfl (by kernel_rfl) ?_
 rintro i hi
 show af _ _ _ _ [(0,.slice A (l.length) (c)),(1,.slice B (l.length) (d)),(5,vI ↑i)] [.abs R] _
 refine af.seq (SR (gK 4 [(14,.bool (decide ((((i:Nat):Int):Int) < (((l.length:Nat):Int):Int))))] [] ?_))
 refine NN (af.aR (p:=(((i:Nat):Int):Int) < (((l.length:Nat):Int):Int)) (fun _=>by kernel_rfl) (fun fO=>?_) (fun fO=>?_))
 ·refine af.skip (NX (af.seq (af.block (af.seq ?_))))
  refine af.bp (by kernel_rfl) (by kernel_rfl) ?_
  refine gQ 9 [(25,.bool false)] [(2,p_ ⟨[],some i,none,some ⟨(ar A),aq A,none⟩,none⟩ [((i:Nat):Int)=((i:Nat):Int),i < l.length,(⟨(ar A),aq A,none⟩:Addr).spot=none,(A:Option Addr)=some ⟨(ar A),aq A,none⟩] ⟨rfl,by omega,rfl,qJ.hd hA (j:=i) (by omega),trivial⟩),(3,p_ ⟨[.old (.int .i64 ((l.getD i 0)))],none,none,none,none⟩ [(Rd β ⟨(ar A),aq A+i * 1,none⟩ (.int .i64 ((l.getD i 0))))] ⟨qJ.rd hA (j:=i) (by omega),trivial⟩),(6,p_ ⟨[],some i,none,some ⟨(ar B),aq B,none⟩,none⟩ [((i:Nat):Int)=((i:Nat):Int),i < l.length,(⟨(ar B),aq B,none⟩:Addr).spot=none,(B:Option Addr)=some ⟨(ar B),aq B,none⟩] ⟨rfl,by omega,rfl,qJ.hd hB (j:=i) (by omega),trivial⟩),(7,p_ ⟨[.old (.int .i64 ((l.getD i 0)))],none,none,none,none⟩ [(Rd β ⟨(ar B),aq B+i * 1,none⟩ (.int .i64 ((l.getD i 0))))] ⟨qJ.rd hB (j:=i) (by omega),trivial⟩),(8,p_ ⟨[],none,none,none,some (.bool false)⟩ [(Value.bool (!decide (((l.getD i 0):Int)=((l.getD i 0):Int))))=(.bool false)] ⟨by simp,trivial⟩)] ?_
  refine NQ (NX ?_)
  refine CF (af.skip (ai.aF (NX (af.region ?_))))
  refine gK 3 [(5,vI ↑(i+1))] [(1,p_ ⟨[],none,none,none,some (vI ↑(i+1))⟩ [(Value.int .i64 (IntKind.wrap .i64 (((i:Nat):Int)+1)))=(.int .i64 ↑(i+1))] ⟨aU (by omega) (by omega) (by omega),trivial⟩)] ?_
  refine NL ?_
  exact ai.turn ((i+1)) (idx:=[0,1,5]) (pk:=[0]) (show (((i+1))<=l.length) from by omega) (by show l.length - ((i+1)) < l.length - i;omega) (fun _=>by kernel_rfl) rfl (by kernel_rfl)
 refine af.exit (ai.aL (ai.aL (ai.bG (NX (SR ?_)))))
 refine gK 1 [(4,.bool true)] [] ?_
 refine NN (af.ret ?_)
 exact RT (.bool true) [0] (⟨rfl,rfl⟩)
theorem GR {β:Bs} (S:aH) (L:HL) (f m t:Nat):Spec Tryz.prog β 25 #[vP f] [pF f m t S.X,pT t S.X.cH S.av L S.us] (fun v l=>∃ A c,v=.slice A S.us.length c/\l=[pF f m t S.X,pT t S.X.cH S.av L S.us,.abs (aC 3 1 A S.us.length c (ints (keys S.us)))]):=by
 refine Spec.enter Tryz.func25 rfl Tryz.ntmps25 (Nat.le_of_ble_eq_true rfl) (fun R=>?_)
 refine SR (gK 1 [] [] ?_)
 refine NS (gK 4 [(6,vP t)] [(3,a_ 0 f)] ?_)
 refine gL [1] (CA t S.X.cH S.av L S.us) ?_
 rintro _ _ ⟨A,c,rfl,rfl⟩
 refine gK 1 [(2,.slice A (S.us.length) (c))] [] ?_
 refine NN (af.ret ?_)
 exact RT (.slice A (S.us.length) (c)) [2,0,1,3] (⟨A,c,rfl,rfl⟩)
theorem I7 {β:Bs} (S:aH) (L:HL) (f m t:Nat):Spec Tryz.prog β 26 #[vP f] [pF f m t S.X,pT t S.X.cH S.av L S.us] (fun v l=>v=vI S.av/\l=[pF f m t S.X,pT t S.X.cH S.av L S.us]):=by
 refine Spec.enter Tryz.func26 rfl Tryz.ntmps26 (Nat.le_of_ble_eq_true rfl) (fun R=>?_)
 refine SR (gK 1 [] [] ?_)
 refine NS (gK 4 [(6,vP t)] [(3,a_ 0 f)] ?_)
 refine gL [1] (FU t S.X.cH S.av (aT L S.us)) ?_
 rintro _ _ ⟨rfl,rfl⟩
 refine gK 1 [(2,vI (S.av))] [] ?_
 refine NN (af.ret ?_)
 exact RT (vI (S.av)) [1,0,2] (⟨rfl,rfl⟩)
theorem GS {β:Bs} (most:Int) (h:0<=most/\most<=1024):Spec Tryz.prog β 22 #[vI most] [] (fun v l=>v=.agg #[vI most,vI 0,.slice none 0 0,.slice none 0 0]/\l=[]):=by
 refine Spec.enter Tryz.func22 rfl Tryz.ntmps22 (Nat.le_of_ble_eq_true rfl) (fun R=>?_)
 refine SR (gN 1 (fun b1=>[(2,vP b1)]) (fun _=>[]) (fun _=>[]) (fun b1=>.blk b1 [vI 0,vI 0,.slice none (0) (0),.slice none (0) (0)] 39) (fun b1=>?_))
 refine NN (af.seq (SR (gK 2 [(4,.bool (decide ((most:Int) < (0:Int))))] [] ?_)))
 refine NN (af.aR (p:=(most:Int) < (0:Int)) (fun _=>by kernel_rfl) (fun h4=>?_) (fun h4=>?_))
 ·exact absurd h4 (by omega)
 refine af.skip (NX (af.seq (SR (gK 2 [(6,.bool (decide ((most:Int) > (1024:Int))))] [] ?_))))
 refine NN (af.aR (p:=(most:Int) > (1024:Int)) (fun _=>by kernel_rfl) (fun h6=>?_) (fun h6=>?_))
 ·exact absurd h6 (by omega)
 refine af.skip (NX (SR (gC 3 [] [(2,A_ 1 b1 4)] [(1,[(0,vI (most))])] ?_)))
 refine NN (af.ret ?_)
 exact ai.ret (v:=.agg #[vI (most),vI 0,.slice none (0) (0),.slice none (0) (0)]) (l:=[]) (bw:=[b1=b1,b1=b1,b1=b1,b1=b1]) [.at 1,.at 1,.at 1,.at 1] [0] (fun _=>by kernel_rfl) ⟨rfl,rfl,rfl,rfl,trivial⟩ rfl (by kernel_rfl) (⟨rfl,rfl⟩)
theorem GU {β:Bs} (ns:List aE) (B Go Hs Vs:Option Addr) (c2 gn gc hn hc vn vc:Nat) (pk last:Int) (X:FM) (K:Lay) (hG:au β B ns K) (hl:ns.length<=1048576) (hd:dL ns ns.length<=140737488355328) :
    Spec Tryz.prog β 28 #[(.agg #[.slice B ns.length c2,.slice Go gn gc,vI X.cH,vI pk,.slice Hs hn hc,.slice Vs vn vc,vI X.cN,vI X.cB,vI X.cH,vI X.cS,vI X.cZ,vI last])] [] (fun v l=>v=vI ((dL ns ns.length:Nat):Int)/\l=[]):=by
 refine Spec.enter Tryz.func28 rfl Tryz.ntmps28 (Nat.le_of_ble_eq_true rfl) (fun R=>?_)
 refine SR (gN 2 (fun b2=>[(1,vP b2)]) (fun _=>[]) (fun _=>[]) (fun b2=>.blk b2 [.slice B (ns.length) (c2),.slice Go (gn) (gc),vI (X.cH),vI (pk),.slice Hs (hn) (hc),.slice Vs (vn) (vc),vI (X.cN),vI (X.cB),vI (X.cH),vI (X.cS),vI (X.cZ),vI (last)] 41) (fun b2=>?_))
 refine NS (gK 1 [(3,vI 0)] [] ?_)
 refine NN (af.seq (SR (gK 1 [(4,vI 0)] [] ?_)))
 refine NN (af.block ?_)
 refine af.loop (ι:=Nat) (fun (i:Nat)=>(i<=ns.length)) (fun (i:Nat)=>ns.length - i) (fun (i:Nat)=>[(1,vP b2),(3,vI ↑(dL ns i)),(4,vI ↑i)]) (fun (i:Nat)=>[.abs R,.blk b2 [.slice B (ns.length) (c2),.slice Go (gn) (gc),vI (X.cH),vI (pk),.slice Hs (hn) (hc),.slice Vs (vn) (vc),vI (X.cN),vI (X.cB),vI (X.cH),vI (X.cS),vI (X.cZ),vI (last)] 41]) 0 (idx:=[1,3,4]) (pk:=[0,1]) (show (0<=ns.length) from Nat.zero_le _) (fun _=>by kernel_rfl) rfl (by kernel_rfl) ?_
 rintro i hi
 show af _ _ _ _ [(1,vP b2),(3,vI ↑(dL ns i)),(4,vI ↑i)] [.abs R,.blk b2 [.slice B (ns.length) (c2),.slice Go (gn) (gc),vI (X.cH),vI (pk),.slice Hs (hn) (hc),.slice Vs (vn) (vc),vI (X.cN),vI (X.cB),vI (X.cH),vI (X.cS),vI (X.cZ),vI (last)] 41] _
 refine af.seq (SR (gK 6 [(10,.bool (decide ((((i:Nat):Int):Int) < (((ns.length:Nat):Int):Int))))] [(3,a_ 1 b2)] ?_))
 refine NN (af.aR (p:=(((i:Nat):Int):Int) < (((ns.length:Nat):Int):Int)) (fun _=>by kernel_rfl) (fun h10=>?_) (fun h10=>?_))
 ·refine af.skip (NX (af.seq (af.block (af.region ?_))))
  refine gK 11 [(3,vI ↑(dL ns (i+1)))] [(3,a_ 1 b2),(5,p_ ⟨[],some i,none,some ⟨(ar B),aq B,none⟩,none⟩ [((i:Nat):Int)=((i:Nat):Int),i < ns.length,(⟨(ar B),aq B,none⟩:Addr).spot=none,(B:Option Addr)=some ⟨(ar B),aq B,none⟩] ⟨rfl,by omega,rfl,au.hd hG (i:=i) (by omega),trivial⟩),(7,p_ ⟨[.old (.slice (K.dA i) ((nd ns i).data.length) ((K.dC i)))],none,none,none,none⟩ [(Rd β ⟨(ar B),aq B+i * 10+7,none⟩ (.slice (K.dA i) ((nd ns i).data.length) ((K.dC i))))] ⟨au.rd hG (i:=i) (by omega) (j:=7) rfl,trivial⟩),(9,p_ ⟨[],none,none,none,some (vI ↑(dL ns (i+1)))⟩ [(Value.int .i64 (IntKind.wrap .i64 ((((dL ns i):Nat):Int)+(((nd ns i).data.length:Nat):Int))))=(.int .i64 ↑(dL ns (i+1)))] ⟨aU (Int.natCast_add _ _).symm (by omega) (by have:=Fa (ns:=ns) (i:=i+1) (by omega);omega),trivial⟩)] ?_
  refine NL (ai.aF (NX (af.region ?_)))
  refine gK 3 [(4,vI ↑(i+1))] [(1,p_ ⟨[],none,none,none,some (vI ↑(i+1))⟩ [(Value.int .i64 (IntKind.wrap .i64 (((i:Nat):Int)+1)))=(.int .i64 ↑(i+1))] ⟨aU (by omega) (by omega) (by omega),trivial⟩)] ?_
  refine NL ?_
  exact ai.turn ((i+1)) (idx:=[1,3,4]) (pk:=[0,1]) (show (((i+1))<=ns.length) from by omega) (by show ns.length - ((i+1)) < ns.length - i;omega) (fun _=>by kernel_rfl) rfl (by kernel_rfl)
 refine af.exit (ai.aL (ai.aL (ai.bG (NX (SR ?_)))))
 refine gK 2 [(2,vI ↑(dL ns i))] [] ?_
 refine NN (af.ret ?_)
 exact RT (vI ↑(dL ns i)) [0] (⟨by rw [show i=ns.length by omega],rfl⟩)
end
section
open Go.RowKit
theorem jB.wide {ns:List aE} {b b':Nat} (h:jB ns b) (hb:b<=b'):jB ns b':=⟨Nat.le_trans h.len hb,fun i hi=>by
  have:=h.node i hi
  exact⟨this.ids,Nat.le_trans this.data hb,Nat.le_trans this.target hb,Nat.le_trans this.ah hb,fun j hj=>⟨(this.ent j hj).id,Nat.le_trans (this.ent j hj).name hb⟩⟩⟩
section gb
variable {ns:List aE} (h:jB ns 1048576)
include h
theorem oW:ns.length<=1048576:=by have:=h.len;omega
theorem nJ:∀ i,i < ns.length->(nd ns i).data.length<=1048576/\(nd ns i).ah.length<=1048576:=fun i hi=>by
  have h1:=(h.node i hi).data
  have h2:=(h.node i hi).ah
  omega
theorem xQ:∀ i,i < ns.length->∀ j,j < (nd ns i).ah.length->-9223372036854775808<=(ent ns i j).id/\(ent ns i j).id<=9223372036854775807:=fun i hi j hj=>((h.node i hi).ent j hj).id
theorem xR:∀ i,i < ns.length->∀ j,j < (nd ns i).ah.length->(ent ns i j).name.size<=1048576:=fun i hi j hj=>by
  have h1:=((h.node i hi).ent j hj).name
  unfold ent
  omega
theorem JS:∀ i,i < ns.length->(nd ns i).target.size<=1048576:=fun i hi=>by
  have h1:=(h.node i hi).target
  omega
end gb
structure OG (X:FM):Prop where
  cN:qf X.cN
  cB:qf X.cB
  cH:qf X.cH
  cS:qf X.cS
  cZ:qf X.cZ
end
section
open Go.RowKit Go.WideShapes Go.ChangeShapes Go.ChangeAt Go.Deep
section a
variable {H:Type} {enc:TypeId×Value->H} {W:World} {sp:Nat->Bool}
def Mg (A:Option Addr) (n cp:Nat) (X:FM):Value:=.agg #[.slice A n cp,.int .i64 X.cN,.int .i64 X.cB,.int .i64 X.cH,.int .i64 X.cS,.int .i64 X.cZ]
theorem open_start {v:Value} {d:DataW H} {ps:List MemPlace} {r:Go.Reach} {b0:Nat} (hval:Value.okWide Tryz.prog W r b0 30 v) (h:DataW.Trod enc Tryz.prog W 0 sp true 30 v d ps) :
    ∃ A cp,∃ ns:List aE,∃ L:Lay,∃ X:FM,v=Mg A ns.length cp X/\au (B0 W) A ns L/\jB ns (Rows.uptoBulk d)/\OG X:=by
  obtain⟨cs,rfl,hcs⟩:=okWide_struct Tryz.underlying30 hval
  obtain⟨fuel,h⟩:=h
  obtain⟨ys,m,_,hx,hl,qg,hf⟩:=DataW.trod_struct Tryz.underlying30 h
  have hC:Tryz.prog.cellsOf 30=6:=by kernel_rfl
  rw [hC] at hcs
  obtain⟨cs⟩:=cs
  match cs,hcs with
  | [c0,c1,c2,c3,c4,c5],_=>
    obtain⟨h0,b0⟩:=cQ (hf 0 _ rfl) (by rw [qg];decide)
    obtain⟨h1,_⟩:=cQ (hf 1 _ rfl) (by rw [qg];decide)
    obtain⟨us,_,_,Pq,_,JQ,hu⟩:=DataW.trod_struct Tryz.underlying24 h0
    obtain⟨g0,e0⟩:=cQ (hu 0 _ rfl) (by rw [JQ];decide)
    obtain⟨A,cp,ns,L,rfl,hG,hB⟩:=E6 (c:=c0) g0
    obtain⟨vs,_,_,_,_,hvl,hv⟩:=DataW.trod_struct Tryz.underlying28 h1
    obtain⟨k0,_⟩:=cQ (hv 0 _ rfl) (by rw [hvl];decide)
    obtain⟨k1,_⟩:=cQ (hv 1 _ rfl) (by rw [hvl];decide)
    obtain⟨k2,_⟩:=cQ (hv 2 _ rfl) (by rw [hvl];decide)
    obtain⟨k3,_⟩:=cQ (hv 3 _ rfl) (by rw [hvl];decide)
    obtain⟨ts,_,_,_,_,htl,ht⟩:=DataW.trod_struct Tryz.underlying26 k3
    obtain⟨t0,_⟩:=cQ (ht 0 _ rfl) (by rw [htl];decide)
    obtain⟨t1,_⟩:=cQ (ht 1 _ rfl) (by rw [htl];decide)
    obtain⟨z0,rfl,w0⟩:=gA (c:=c1) Tryz.underlying3 k0
    obtain⟨z1,rfl,w1⟩:=gA (c:=c2) Tryz.underlying3 k1
    obtain⟨z2,rfl,w2⟩:=gA (c:=c3) Tryz.underlying3 k2
    obtain⟨z3,rfl,w3⟩:=gA (c:=c4) Tryz.underlying3 t0
    obtain⟨z4,rfl,w4⟩:=gA (c:=c5) Tryz.underlying3 t1
    cases hx
    rw [Pq] at b0
    exact⟨A,cp,ns,L,⟨z0,z1,z2,z3,z4,0,0,0⟩,rfl,hG,hB.wide (Nat.le_trans e0 b0),⟨w0,w1,w2,w3,w4⟩⟩
end a
end
section
open Go.RowKit Go.Maps ck aB
attribute [local irreducible] ak aK af ai
theorem DR {β:Bs} (A:Option Addr) (c:Nat) (ns:List aE) (Y:Lay) (hG:au β A ns Y) (hl:ns.length<=1048576) (hd:∀ i,i < ns.length->(nd ns i).data.length<=1048576/\(nd ns i).ah.length<=1048576) (hwf:∀ i,i < ns.length->∀ j,j < (nd ns i).ah.length->-9223372036854775808<=(ent ns i j).id/\(ent ns i j).id<=9223372036854775807) (hnm:∀ i,i < ns.length->∀ j,j < (nd ns i).ah.length->(ent ns i j).name.size<=1048576) (ht:∀ i,i < ns.length->(nd ns i).target.size<=1048576) (X:FM) :
    eG Tryz.prog β 7 #[.agg #[.slice A (ns.length) (c)],.agg #[vI (X.cN),vI (X.cB),vI (X.cH),vI (X.cS),vI (X.cZ)]] [] (fun β' v l=>(¬ jm X/\v=.tuple #[.agg #[.slice none (0) (0),.slice none (0) (0),vI 0,vI 0,.slice none (0) (0),.slice none (0) (0),vI 0,vI 0,vI 0,vI 0,vI 0,vI 0],vI 179]/\l=[])\/(jm X/\¬ aS ns/\v=.tuple #[.agg #[.slice none (0) (0),.slice none (0) (0),vI 0,vI 0,.slice none (0) (0),.slice none (0) (0),vI 0,vI 0,vI 0,vI 0,vI 0,vI 0],vI 140]/\l=[])\/(jm X/\aS ns/\∃ B cp K,v=.tuple #[.agg #[.slice B (ns.length) (cp),.slice none (0) (0),vI (X.cH),vI 0,.slice none (0) (0),.slice none (0) (0),vI (X.cN),vI (X.cB),vI (X.cH),vI (X.cS),vI (X.cZ),vI ((if ns.length=0 then 0 else (nd ns (ns.length - 1)).id))],vI 0]/\l=[]/\au β' B ns K)):=by
 refine eG.enter Tryz.func7 rfl Tryz.ntmps7 (Nat.le_of_ble_eq_true rfl) (fun hle0 R=>?_)
 refine SR (gN 1 (fun b1=>[(2,vP b1)]) (fun _=>[]) (fun _=>[]) (fun b1=>.blk b1 [.slice A (ns.length) (c)] 24) (fun b1=>?_))
 refine gN 1 (fun b2=>[(3,vP b2)]) (fun _=>[]) (fun _=>[]) (fun b2=>.blk b2 [vI (X.cN),vI (X.cB),vI (X.cH),vI (X.cS),vI (X.cZ)] 28) (fun b2=>?_)
 refine gN 2 (fun b3=>[(4,vP b3)]) (fun _=>[]) (fun _=>[]) (fun b3=>.blk b3 [.slice none (0) (0),.slice none (0) (0),vI 0,vI 0,.slice none (0) (0),.slice none (0) (0),vI 0,vI 0,vI 0,vI 0,vI 0,vI 0] 41) (fun b3=>?_)
 refine NN (af.seq (SR (gK 4 [(10,.bool (decide ((X.cN:Int) < (0:Int))))] [(1,a_ 2 b2)] ?_)))
 refine ak.bZ 10 ((X.cN:Int) < (0:Int)) (fun _=>by kernel_rfl) (fun h10=>?_) (fun h10=>?_)
 ·refine gK 30 [(40,.bool true)] [] ?_
  refine NN (CT (SR (gC 3 [(5,vI 179)] [(1,A_ 3 b3 12)] [] ?_)))
  refine NN (af.ret (ai.aj ?_))
  exact ai.lF (v:=.tuple #[.agg #[.slice none (0) (0),.slice none (0) (0),vI 0,vI 0,.slice none (0) (0),.slice none (0) (0),vI 0,vI 0,vI 0,vI 0,vI 0,vI 0],vI 179]) (l:=[]) (bw:=[b3=b3,b3=b3,b3=b3,b3=b3,b3=b3,b3=b3,b3=b3,b3=b3,b3=b3,b3=b3,b3=b3,b3=b3]) [.at 3,.at 3,.at 3,.at 3,.at 3,.at 3,.at 3,.at 3,.at 3,.at 3,.at 3,.at 3] [0] hle0 (fun _=>by kernel_rfl) ⟨rfl,rfl,rfl,rfl,rfl,rfl,rfl,rfl,rfl,rfl,rfl,rfl,trivial⟩ rfl (by kernel_rfl) (.inl ⟨fun h=>by first|(have:=h.cN;omega)|(have:=h.cB;omega)|(have:=h.cH;omega)|exact absurd h.now (by assumption),rfl,rfl⟩)
 refine gK 5 [(15,.bool (decide ((X.cN:Int) > (4096:Int))))] [(1,a_ 2 b2)] ?_
 refine ak.bZ 15 ((X.cN:Int) > (4096:Int)) (fun _=>by kernel_rfl) (fun Jm=>?_) (fun Jm=>?_)
 ·refine gK 25 [(40,.bool true)] [] ?_
  refine NN (CT (SR (gC 3 [(5,vI 179)] [(1,A_ 3 b3 12)] [] ?_)))
  refine NN (af.ret (ai.aj ?_))
  exact ai.lF (v:=.tuple #[.agg #[.slice none (0) (0),.slice none (0) (0),vI 0,vI 0,.slice none (0) (0),.slice none (0) (0),vI 0,vI 0,vI 0,vI 0,vI 0,vI 0],vI 179]) (l:=[]) (bw:=[b3=b3,b3=b3,b3=b3,b3=b3,b3=b3,b3=b3,b3=b3,b3=b3,b3=b3,b3=b3,b3=b3,b3=b3]) [.at 3,.at 3,.at 3,.at 3,.at 3,.at 3,.at 3,.at 3,.at 3,.at 3,.at 3,.at 3] [0] hle0 (fun _=>by kernel_rfl) ⟨rfl,rfl,rfl,rfl,rfl,rfl,rfl,rfl,rfl,rfl,rfl,rfl,trivial⟩ rfl (by kernel_rfl) (.inl ⟨fun h=>by first|(have:=h.cN;omega)|(have:=h.cB;omega)|(have:=h.cH;omega)|exact absurd h.now (by assumption),rfl,rfl⟩)
 refine gK 5 [(20,.bool (decide ((X.cB:Int) < (0:Int))))] [(1,a_ 2 b2)] ?_
 refine ak.bZ 20 ((X.cB:Int) < (0:Int)) (fun _=>by kernel_rfl) (fun kT=>?_) (fun kT=>?_)
 ·refine gK 20 [(40,.bool true)] [] ?_
  refine NN (CT (SR (gC 3 [(5,vI 179)] [(1,A_ 3 b3 12)] [] ?_)))
  refine NN (af.ret (ai.aj ?_))
  exact ai.lF (v:=.tuple #[.agg #[.slice none (0) (0),.slice none (0) (0),vI 0,vI 0,.slice none (0) (0),.slice none (0) (0),vI 0,vI 0,vI 0,vI 0,vI 0,vI 0],vI 179]) (l:=[]) (bw:=[b3=b3,b3=b3,b3=b3,b3=b3,b3=b3,b3=b3,b3=b3,b3=b3,b3=b3,b3=b3,b3=b3,b3=b3]) [.at 3,.at 3,.at 3,.at 3,.at 3,.at 3,.at 3,.at 3,.at 3,.at 3,.at 3,.at 3] [0] hle0 (fun _=>by kernel_rfl) ⟨rfl,rfl,rfl,rfl,rfl,rfl,rfl,rfl,rfl,rfl,rfl,rfl,trivial⟩ rfl (by kernel_rfl) (.inl ⟨fun h=>by first|(have:=h.cN;omega)|(have:=h.cB;omega)|(have:=h.cH;omega)|exact absurd h.now (by assumption),rfl,rfl⟩)
 refine gK 5 [(25,.bool (decide ((X.cB:Int) > (1099511627776:Int))))] [(1,a_ 2 b2)] ?_
 refine ak.bZ 25 ((X.cB:Int) > (1099511627776:Int)) (fun _=>by kernel_rfl) (fun vr=>?_) (fun vr=>?_)
 ·refine gK 15 [(40,.bool true)] [] ?_
  refine NN (CT (SR (gC 3 [(5,vI 179)] [(1,A_ 3 b3 12)] [] ?_)))
  refine NN (af.ret (ai.aj ?_))
  exact ai.lF (v:=.tuple #[.agg #[.slice none (0) (0),.slice none (0) (0),vI 0,vI 0,.slice none (0) (0),.slice none (0) (0),vI 0,vI 0,vI 0,vI 0,vI 0,vI 0],vI 179]) (l:=[]) (bw:=[b3=b3,b3=b3,b3=b3,b3=b3,b3=b3,b3=b3,b3=b3,b3=b3,b3=b3,b3=b3,b3=b3,b3=b3]) [.at 3,.at 3,.at 3,.at 3,.at 3,.at 3,.at 3,.at 3,.at 3,.at 3,.at 3,.at 3] [0] hle0 (fun _=>by kernel_rfl) ⟨rfl,rfl,rfl,rfl,rfl,rfl,rfl,rfl,rfl,rfl,rfl,rfl,trivial⟩ rfl (by kernel_rfl) (.inl ⟨fun h=>by first|(have:=h.cN;omega)|(have:=h.cB;omega)|(have:=h.cH;omega)|exact absurd h.now (by assumption),rfl,rfl⟩)
 refine gK 5 [(30,.bool (decide ((X.cH:Int) < (0:Int))))] [(1,a_ 2 b2)] ?_
 refine ak.bZ 30 ((X.cH:Int) < (0:Int)) (fun _=>by kernel_rfl) (fun jR=>?_) (fun jR=>?_)
 ·refine gK 10 [(40,.bool true)] [] ?_
  refine NN (CT (SR (gC 3 [(5,vI 179)] [(1,A_ 3 b3 12)] [] ?_)))
  refine NN (af.ret (ai.aj ?_))
  exact ai.lF (v:=.tuple #[.agg #[.slice none (0) (0),.slice none (0) (0),vI 0,vI 0,.slice none (0) (0),.slice none (0) (0),vI 0,vI 0,vI 0,vI 0,vI 0,vI 0],vI 179]) (l:=[]) (bw:=[b3=b3,b3=b3,b3=b3,b3=b3,b3=b3,b3=b3,b3=b3,b3=b3,b3=b3,b3=b3,b3=b3,b3=b3]) [.at 3,.at 3,.at 3,.at 3,.at 3,.at 3,.at 3,.at 3,.at 3,.at 3,.at 3,.at 3] [0] hle0 (fun _=>by kernel_rfl) ⟨rfl,rfl,rfl,rfl,rfl,rfl,rfl,rfl,rfl,rfl,rfl,rfl,trivial⟩ rfl (by kernel_rfl) (.inl ⟨fun h=>by first|(have:=h.cN;omega)|(have:=h.cB;omega)|(have:=h.cH;omega)|exact absurd h.now (by assumption),rfl,rfl⟩)
 refine gK 5 [(35,.bool (decide ((X.cH:Int) > (1024:Int))))] [(1,a_ 2 b2)] ?_
 refine ak.bZ 35 ((X.cH:Int) > (1024:Int)) (fun _=>by kernel_rfl) (fun jD=>?_) (fun jD=>?_)
 ·refine gK 5 [(40,.bool true)] [] ?_
  refine NN (CT (SR (gC 3 [(5,vI 179)] [(1,A_ 3 b3 12)] [] ?_)))
  refine NN (af.ret (ai.aj ?_))
  exact ai.lF (v:=.tuple #[.agg #[.slice none (0) (0),.slice none (0) (0),vI 0,vI 0,.slice none (0) (0),.slice none (0) (0),vI 0,vI 0,vI 0,vI 0,vI 0,vI 0],vI 179]) (l:=[]) (bw:=[b3=b3,b3=b3,b3=b3,b3=b3,b3=b3,b3=b3,b3=b3,b3=b3,b3=b3,b3=b3,b3=b3,b3=b3]) [.at 3,.at 3,.at 3,.at 3,.at 3,.at 3,.at 3,.at 3,.at 3,.at 3,.at 3,.at 3] [0] hle0 (fun _=>by kernel_rfl) ⟨rfl,rfl,rfl,rfl,rfl,rfl,rfl,rfl,rfl,rfl,rfl,rfl,trivial⟩ rfl (by kernel_rfl) (.inl ⟨fun h=>by first|(have:=h.cN;omega)|(have:=h.cB;omega)|(have:=h.cH;omega)|exact absurd h.now (by assumption),rfl,rfl⟩)
 refine gK 2 [(37,.agg #[vI (X.cS),vI (X.cZ)])] [(1,A_ 2 b2 2)] ?_
 refine gL [] (vz X.cS X.cZ) ?_
 rintro _ _ ⟨rfl,rfl⟩
 refine gK 2 [(40,.bool (!(decide (cg X.cS X.cZ))))] [] ?_
 refine NN (af.cu (p:=cg X.cS X.cZ) (fun _=>by kernel_rfl) (fun BA=>?_) (fun BA=>?_))
 ·refine SR (gC 3 [(5,vI 179)] [(1,A_ 3 b3 12)] [] ?_)
  refine NN (af.ret (ai.aj ?_))
  exact ai.lF (v:=.tuple #[.agg #[.slice none (0) (0),.slice none (0) (0),vI 0,vI 0,.slice none (0) (0),.slice none (0) (0),vI 0,vI 0,vI 0,vI 0,vI 0,vI 0],vI 179]) (l:=[]) (bw:=[b3=b3,b3=b3,b3=b3,b3=b3,b3=b3,b3=b3,b3=b3,b3=b3,b3=b3,b3=b3,b3=b3,b3=b3]) [.at 3,.at 3,.at 3,.at 3,.at 3,.at 3,.at 3,.at 3,.at 3,.at 3,.at 3,.at 3] [0] hle0 (fun _=>by kernel_rfl) ⟨rfl,rfl,rfl,rfl,rfl,rfl,rfl,rfl,rfl,rfl,rfl,rfl,trivial⟩ rfl (by kernel_rfl) (.inl ⟨fun h=>by first|(have:=h.cN;omega)|(have:=h.cB;omega)|(have:=h.cH;omega)|exact absurd h.now (by assumption),rfl,rfl⟩)
 have hcap:jm X:=⟨⟨by omega,by omega⟩,⟨by omega,by omega⟩,⟨by omega,by omega⟩,BA⟩
 refine af.skip (NX (af.seq (SR (gK 1 [(42,.agg #[.slice A (ns.length) (c)])] [(0,a_ 1 b1)] ?_))))
 refine gL [] (C5 A c ns Y hG hl hd hwf hnm ht) ?_
 rintro _ _ ⟨rfl,rfl⟩
 refine gK 1 [(44,.bool (!(decide (((if aS ns then 0 else 140):Int)=(0:Int)))))] [] ?_
 refine NN (af.cu (p:=((if aS ns then 0 else 140):Int)=(0:Int)) (fun _=>by kernel_rfl) (fun vw=>?_) (fun vw=>?_))
 ·have L4:¬ aS ns:=fun h=>vw (if_pos h)
  refine SR (gC 3 [(5,vI 140)] [(1,A_ 3 b3 12)] [] ?_)
  refine NN (af.ret (ai.aj ?_))
  exact ai.lF (v:=.tuple #[.agg #[.slice none (0) (0),.slice none (0) (0),vI 0,vI 0,.slice none (0) (0),.slice none (0) (0),vI 0,vI 0,vI 0,vI 0,vI 0,vI 0],vI 140]) (l:=[]) (bw:=[b3=b3,b3=b3,b3=b3,b3=b3,b3=b3,b3=b3,b3=b3,b3=b3,b3=b3,b3=b3,b3=b3,b3=b3]) [.at 3,.at 3,.at 3,.at 3,.at 3,.at 3,.at 3,.at 3,.at 3,.at 3,.at 3,.at 3] [0] hle0 (fun _=>by kernel_rfl) ⟨rfl,rfl,rfl,rfl,rfl,rfl,rfl,rfl,rfl,rfl,rfl,rfl,trivial⟩ rfl (by kernel_rfl) (.inr (.inl ⟨hcap,L4,rfl,rfl⟩))
 have hok:aS ns:=Classical.byContradiction (fun h=>by rw [if_neg h] at vw;exact absurd vw (by decide))
 refine af.skip (NX (af.seq (af.mF (S:=[.blk b1 [.slice A (ns.length) (c)] 24,.blk b2 [vI (X.cN),vI (X.cB),vI (X.cH),vI (X.cS),vI (X.cZ)] 28]) [0,2,3,5] [.beside [1,4,6] 7,.one 8] [1,2] (by kernel_rfl) (by kernel_rfl) rfl (by kernel_rfl) ?_)))
 refine gP [(2,vP b1),(4,vP b3),(46,.agg #[.slice A (ns.length) (c)]),(49,vI (X.cH)),(51,.agg #[vI (X.cN),vI (X.cB),vI (X.cH),vI (X.cS),vI (X.cZ)])] [0,2,3,5] [(0,a_ 0 b1),(2,a_ 1 b2),(3,A_ 1 b2 5)] ?_
 refine fL.beside (j:=7) (dj:=6) (R:=fun f_ l_=>∃ B:Option Addr,∃ cp:Nat,f_=[(52,.agg #[.slice B (ns.length) (cp),.slice none (0) (0),vI (X.cH),vI 0,.slice none (0) (0),.slice none (0) (0),vI (X.cN),vI (X.cB),vI (X.cH),vI (X.cS),vI (X.cZ),vI 0]),(50,.agg #[vI (X.cH),vI 0,.slice none (0) (0),.slice none (0) (0)]),(47,.agg #[.slice B (ns.length) (cp)]),(2,vP b1),(4,vP b3),(46,.agg #[.slice A (ns.length) (c)]),(49,vI (X.cH)),(51,.agg #[vI (X.cN),vI (X.cB),vI (X.cH),vI (X.cS),vI (X.cZ)])]/\l_=[.abs (nD β (fun β'=>∃ K,au β' B ns K))]) [0,1,2,3] [1,2] [(1,47),(4,50),(6,52)] rfl (pc:=[]) (pj:=[]) (Z:=[.abs R,.blk b1 [.slice A (ns.length) (c)] 24,.blk b2 [vI (X.cN),vI (X.cB),vI (X.cH),vI (X.cS),vI (X.cZ)] 28,.blk b3 [.slice none (0) (0),.slice none (0) (0),vI 0,vI 0,.slice none (0) (0),.slice none (0) (0),vI 0,vI 0,vI 0,vI 0,vI 0,vI 0] 41]) (by kernel_rfl) rfl (by kernel_rfl) rfl rfl (iu.of (ι:=Nat) (v:=fun (b4:Nat)=>vP b4) (l:=fun (b4:Nat)=>[.blk b4 [.slice none (0) (0),.slice none (0) (0),vI 0,vI 0,.slice none (0) (0),.slice none (0) (0),vI 0,vI 0,vI 0,vI 0,vI 0,vI 0] 41]) [47,50,52] rfl rfl rfl rfl ?_) ?_ ?_
 ·intro u Aq
  show ak _ _ _ _ _ [(47,(u 47)),(50,(u 50)),(52,(u 52)),(2,vP b1),(4,vP b3),(46,.agg #[.slice A (ns.length) (c)]),(49,vI (X.cH)),(51,.agg #[vI (X.cN),vI (X.cB),vI (X.cH),vI (X.cS),vI (X.cZ)])] [.abs Aq] _
  refine gN 1 (fun b4=>[(6,vP b4)]) (fun _=>[]) (fun _=>[]) (fun b4=>.blk b4 [.slice none (0) (0),.slice none (0) (0),vI 0,vI 0,.slice none (0) (0),.slice none (0) (0),vI 0,vI 0,vI 0,vI 0,vI 0,vI 0] 41) (fun b4=>?_)
  refine NL ?_
  exact MD b4 [6,47,50,52,2,4,46,49,51] [1,0]
 ·refine ic.step (iu.of (ι:=(Option Addr)×Nat) (v:=fun ((B,cp):(Option Addr)×Nat)=>.agg #[.slice B (ns.length) (cp)]) (l:=fun ((B,cp):(Option Addr)×Nat)=>[.abs (nD β (fun β'=>∃ K,au β' B ns K))]) [6] rfl rfl rfl rfl ?_) rfl ?_
  ·intro u Aq
   show ak _ _ _ _ _ [(6,(u 6)),(2,vP b1),(4,vP b3),(46,.agg #[.slice A (ns.length) (c)]),(49,vI (X.cH)),(51,.agg #[vI (X.cN),vI (X.cB),vI (X.cH),vI (X.cS),vI (X.cZ)])] [.abs Aq] _
   refine gL [] (zV (β:=β) A c ns Y hG hl hd) ?_
   rintro _ _ ⟨B,cp,rfl,rfl⟩
   refine NL ?_
   exact MD (B,cp) [47,6,2,4,46,49,51] [0,1]
  rintro _ _ ⟨⟨B,cp⟩,rfl,rfl⟩
  refine ic.step (iu.of (ι:=Unit) (v:=fun (_:Unit)=>.agg #[vI (X.cH),vI 0,.slice none (0) (0),.slice none (0) (0)]) (l:=fun (_:Unit)=>[.abs (nD β (fun β'=>∃ K,au β' B ns K))]) [6] rfl rfl rfl rfl ?_) rfl ?_
  ·intro u Aq
   show ak _ _ _ _ _ [(6,(u 6)),(47,.agg #[.slice B (ns.length) (cp)]),(2,vP b1),(4,vP b3),(46,.agg #[.slice A (ns.length) (c)]),(49,vI (X.cH)),(51,.agg #[vI (X.cN),vI (X.cB),vI (X.cH),vI (X.cS),vI (X.cZ)])] [.abs (nD β (fun β'=>∃ K,au β' B ns K)),.abs Aq] _
   refine gL [] (GS X.cH hcap.cH) ?_
   rintro _ _ ⟨rfl,rfl⟩
   refine NL ?_
   exact MD () [50,6,47,2,4,46,49,51] [0,1]
  rintro _ _ ⟨_,rfl,rfl⟩
  refine ic.step (iu.of (ι:=Unit) (v:=fun (_:Unit)=>.agg #[.slice B (ns.length) (cp),.slice none (0) (0),vI (X.cH),vI 0,.slice none (0) (0),.slice none (0) (0),vI (X.cN),vI (X.cB),vI (X.cH),vI (X.cS),vI (X.cZ),vI 0]) (l:=fun (_:Unit)=>[.abs (nD β (fun β'=>∃ K,au β' B ns K))]) [6] rfl rfl rfl rfl ?_) rfl ?_
  ·intro u Aq
   show ak _ _ _ _ _ [(6,(u 6)),(50,.agg #[vI (X.cH),vI 0,.slice none (0) (0),.slice none (0) (0)]),(47,.agg #[.slice B (ns.length) (cp)]),(2,vP b1),(4,vP b3),(46,.agg #[.slice A (ns.length) (c)]),(49,vI (X.cH)),(51,.agg #[vI (X.cN),vI (X.cB),vI (X.cH),vI (X.cS),vI (X.cZ)])] [.abs (nD β (fun β'=>∃ K,au β' B ns K)),.abs Aq] _
   refine gK 1 [(52,.agg #[.slice B (ns.length) (cp),.slice none (0) (0),vI (X.cH),vI 0,.slice none (0) (0),.slice none (0) (0),vI (X.cN),vI (X.cB),vI (X.cH),vI (X.cS),vI (X.cZ),vI 0])] [] ?_
   refine NL ?_
   exact MD () [52,6,50,47,2,4,46,49,51] [0,1]
  rintro _ _ ⟨_,rfl,rfl⟩
  exact⟨B,cp,rfl,rfl⟩
 rintro _ _ ⟨B,cp,rfl,rfl⟩ _ _ ⟨b4,rfl,rfl⟩
 refine fL.last rfl rfl ?_
 refine gC 1 [] [(0,A_ 1 b4 12)] [(1,[(0,.slice B (ns.length) (cp)),(2,vI (X.cH)),(6,vI (X.cN)),(7,vI (X.cB)),(8,vI (X.cH)),(9,vI (X.cS)),(10,vI (X.cZ))])] ?_
 refine NL (ai.np (NX (af.seq (SR ?_))))
 refine ak.I4 0 [1,2,3,4,5] (cO:=[.blk b4 [.slice B (ns.length) (cp),.slice none (0) (0),vI (X.cH),vI 0,.slice none (0) (0),.slice none (0) (0),vI (X.cN),vI (X.cB),vI (X.cH),vI (X.cS),vI (X.cZ),vI 0] 41,.abs R,.blk b1 [.slice A (ns.length) (c)] 24,.blk b2 [vI (X.cN),vI (X.cB),vI (X.cH),vI (X.cS),vI (X.cZ)] 28,.blk b3 [.slice none (0) (0),.slice none (0) (0),vI 0,vI 0,.slice none (0) (0),.slice none (0) (0),vI 0,vI 0,vI 0,vI 0,vI 0,vI 0] 41]) rfl rfl (by kernel_rfl) (fun NJ o7 ⟨K,hH⟩=>?_)
 replace hG:=hG.le o7
 replace hle0:=hle0.trans o7
 refine gK 4 [(56,.bool (decide ((((ns.length:Nat):Int):Int) > (0:Int))))] [(1,a_ 2 b1)] ?_
 refine NN (af.aR (p:=(((ns.length:Nat):Int):Int) > (0:Int)) (fun _=>by kernel_rfl) (fun Pr=>?_) (fun Pr=>?_))
 ·refine af.region (gC 11 [] [(1,a_ 2 b1),(3,a_ 2 b1),(5,p_ ⟨[],none,none,none,some (vI (((ns.length:Nat):Int) - 1))⟩ [(Value.int .i64 (IntKind.wrap .i64 (((ns.length:Nat):Int) - 1)))=(.int .i64 (((ns.length:Nat):Int) - 1))] ⟨aU (by omega) (by omega) (by omega),trivial⟩),(6,p_ ⟨[],some (ns.length - 1),none,some ⟨(ar A),aq A,none⟩,none⟩ [((ns.length:Nat):Int) - 1=(((ns.length - 1):Nat):Int),(ns.length - 1) < ns.length,(⟨(ar A),aq A,none⟩:Addr).spot=none,(A:Option Addr)=some ⟨(ar A),aq A,none⟩] ⟨by omega,by omega,rfl,au.hd hG (i:=(ns.length - 1)) (by omega),trivial⟩),(8,p_ ⟨[.old (.int .i64 ((nd ns (ns.length - 1)).id))],none,none,none,none⟩ [(Rd NJ ⟨(ar A),aq A+(ns.length - 1) * 10,none⟩ (.int .i64 ((nd ns (ns.length - 1)).id)))] ⟨au.rd hG (i:=(ns.length - 1)) (by omega) (j:=0) rfl,trivial⟩),(10,a_ 0 b4)] [(0,[(11,vI ((nd ns (ns.length - 1)).id))])] ?_)
  refine NS (gC 3 [(5,vI 0)] [(0,A_ 0 b4 12),(1,A_ 4 b3 12)] [(4,[(0,.slice B (ns.length) (cp)),(2,vI (X.cH)),(6,vI (X.cN)),(7,vI (X.cB)),(8,vI (X.cH)),(9,vI (X.cS)),(10,vI (X.cZ)),(11,vI ((nd ns (ns.length - 1)).id))])] ?_)
  refine NN (af.ret ?_)
  exact ai.lF (v:=.tuple #[.agg #[.slice B (ns.length) (cp),.slice none (0) (0),vI (X.cH),vI 0,.slice none (0) (0),.slice none (0) (0),vI (X.cN),vI (X.cB),vI (X.cH),vI (X.cS),vI (X.cZ),vI ((nd ns (ns.length - 1)).id)],vI 0]) (l:=[]) (bw:=[b3=b3,b3=b3,b3=b3,b3=b3,b3=b3,b3=b3,b3=b3,b3=b3,b3=b3,b3=b3,b3=b3,b3=b3]) [.at 4,.at 4,.at 4,.at 4,.at 4,.at 4,.at 4,.at 4,.at 4,.at 4,.at 4,.at 4] [1] hle0 (fun _=>by kernel_rfl) ⟨rfl,rfl,rfl,rfl,rfl,rfl,rfl,rfl,rfl,rfl,rfl,rfl,trivial⟩ rfl (by kernel_rfl) (.inr (.inr ⟨hcap,hok,B,cp,K,by rw [if_neg (by omega)],rfl,hH⟩))
 refine af.skip (NX (SR (gC 3 [(5,vI 0)] [(0,A_ 0 b4 12),(1,A_ 4 b3 12)] [(4,[(0,.slice B (ns.length) (cp)),(2,vI (X.cH)),(6,vI (X.cN)),(7,vI (X.cB)),(8,vI (X.cH)),(9,vI (X.cS)),(10,vI (X.cZ))])] ?_)))
 refine NN (af.ret ?_)
 exact ai.lF (v:=.tuple #[.agg #[.slice B (ns.length) (cp),.slice none (0) (0),vI (X.cH),vI 0,.slice none (0) (0),.slice none (0) (0),vI (X.cN),vI (X.cB),vI (X.cH),vI (X.cS),vI (X.cZ),vI 0],vI 0]) (l:=[]) (bw:=[b3=b3,b3=b3,b3=b3,b3=b3,b3=b3,b3=b3,b3=b3,b3=b3,b3=b3,b3=b3,b3=b3,b3=b3]) [.at 4,.at 4,.at 4,.at 4,.at 4,.at 4,.at 4,.at 4,.at 4,.at 4,.at 4,.at 4] [1] hle0 (fun _=>by kernel_rfl) ⟨rfl,rfl,rfl,rfl,rfl,rfl,rfl,rfl,rfl,rfl,rfl,rfl,trivial⟩ rfl (by kernel_rfl) (.inr (.inr ⟨hcap,hok,B,cp,K,by rw [if_pos (by omega)],rfl,hH⟩))
end
section
open Go.RowKit Go.Maps ck aB
noncomputable def nE (X:FM):Int:=open Classical in if jm X then 140 else 179
theorem Kr (X:FM):nE X≠0:=by
  unfold nE
  split<;>decide
def Mh (X:FM) (ns:List aE):Type:={ S:aH // dX X ns ns.length 0 S }
section m
variable {β:Bs} {ns:List aE} {Y:Lay} {X:FM}
theorem I8 (hcap:jm X) (hok:aS ns) (A:Option Addr) (c:Nat) (hG:au β A ns Y) (hB:jB ns 1048576) :
    Spec Tryz.prog β 6 #[.agg #[.slice A ns.length c],.agg #[.int .i64 X.cN,.int .i64 X.cB,.int .i64 X.cH,.int .i64 X.cS,.int .i64 X.cZ]] [] (fun v l=>∃ (N:Mh X ns) (f m t:Nat) (L:HL),v=.tuple #[.pointer (some ⟨f,0,none⟩),.int .i64 0]/\l=pA f m t L N.1):=
  (y4 A c ns Y hG (oW hB) (nJ hB) (xQ hB) (xR hB) X).mono (by
    rintro v l (⟨h,_⟩|⟨_,h,_⟩|⟨_,_,h⟩)
    ·exact absurd hcap h
    ·exact absurd hok h
    obtain⟨S,f,m,t,L,h1,h2,h3⟩:=h
    exact⟨⟨S,h1⟩,f,m,t,L,h2,h3⟩)
theorem I9 (Ja:¬ (jm X/\aS ns)) (A:Option Addr) (c:Nat) (hG:au β A ns Y) (hB:jB ns 1048576) :
    Spec Tryz.prog β 6 #[.agg #[.slice A ns.length c],.agg #[.int .i64 X.cN,.int .i64 X.cB,.int .i64 X.cH,.int .i64 X.cS,.int .i64 X.cZ]] [] (fun v l=>v=.tuple #[.pointer none,.int .i64 (nE X)]/\l=[]):=
  (y4 A c ns Y hG (oW hB) (nJ hB) (xQ hB) (xR hB) X).mono (by
    rintro v l (⟨h,h1,h2⟩|⟨h,h',h1,h2⟩|⟨h1,h2,_⟩)
    ·exact⟨by rw [show nE X=179 from if_neg h];exact h1,h2⟩
    ·exact⟨by rw [show nE X=140 from if_pos h];exact h1,h2⟩
    exact absurd ⟨h1,h2⟩ Ja)
theorem Jb (hcap:jm X) (hok:aS ns) (A:Option Addr) (c:Nat) (hG:au β A ns Y) (hB:jB ns 1048576) :
    eG Tryz.prog β 7 #[.agg #[.slice A ns.length c],.agg #[.int .i64 X.cN,.int .i64 X.cB,.int .i64 X.cH,.int .i64 X.cS,.int .i64 X.cZ]] [] (fun β' v l=>∃ B cp K,v=.tuple #[.agg #[.slice B ns.length cp,.slice none 0 0,.int .i64 X.cH,.int .i64 0,.slice none 0 0,.slice none 0 0,.int .i64 X.cN,.int .i64 X.cB,.int .i64 X.cH,.int .i64 X.cS,.int .i64 X.cZ,.int .i64 (if ns.length=0 then 0 else (nd ns (ns.length - 1)).id)],.int .i64 0]/\l=[]/\au β' B ns K):=
  (DR A c ns Y hG (oW hB) (nJ hB) (xQ hB) (xR hB) (JS hB) X).mono (by
    rintro β' v l _ (⟨h,_⟩|⟨_,h,_⟩|⟨_,_,h⟩)
    ·exact absurd hcap h
    ·exact absurd hok h
    exact h)
theorem Jc (Ja:¬ (jm X/\aS ns)) (A:Option Addr) (c:Nat) (hG:au β A ns Y) (hB:jB ns 1048576) :
    eG Tryz.prog β 7 #[.agg #[.slice A ns.length c],.agg #[.int .i64 X.cN,.int .i64 X.cB,.int .i64 X.cH,.int .i64 X.cS,.int .i64 X.cZ]] [] (fun _ v l=>v=.tuple #[.agg #[.slice none 0 0,.slice none 0 0,.int .i64 0,.int .i64 0,.slice none 0 0,.slice none 0 0,.int .i64 0,.int .i64 0,.int .i64 0,.int .i64 0,.int .i64 0,.int .i64 0],.int .i64 (nE X)]/\l=[]):=
  (DR A c ns Y hG (oW hB) (nJ hB) (xQ hB) (xR hB) (JS hB) X).mono (by
    rintro β' v l _ (⟨h,h1,h2⟩|⟨h,h',h1,h2⟩|⟨h1,h2,_⟩)
    ·exact⟨by rw [show nE X=179 from if_neg h];exact h1,h2⟩
    ·exact⟨by rw [show nE X=140 from if_pos h];exact h1,h2⟩
    exact absurd ⟨h1,h2⟩ Ja)
end m
end
section
open Go.RowKit ck aB Go.Maps
theorem sj (us:Used Th):us.length=(keys us).length:=(List.length_map ..).symm
theorem Jd {S:aH} (h:Inv0 S):(aI S).length<=1048576:=by
  rw [mD]
  have:=h.len
  omega
end
section
open Go.RowKit ck aB Go.Maps
theorem GV {β:Bs} (A B:Option Addr) (c d:Nat) {n1 n2:Nat} {l1 l2:List Int} (e1:n1=l1.length) (e2:n2=l2.length) (e:l1=l2) (hB:eF β B (ints l2)) (hl:l1.length<=1048576) :
    Spec Tryz.prog β 24 #[.slice A n1 c,.slice B n2 d] [.abs (aC 3 1 A n1 c (ints l1))] (fun v l=>v=.bool true/\l=[.abs (aC 3 1 A n1 c (ints l1))]):=by
  subst e1 e2 e
  refine (Spec.D1 (pre:=[]) (post:=fun v l=>v=.bool true/\l=[]) (fun β' g=>?_)).mono (by rintro v l ⟨l0,⟨rfl,rfl⟩,rfl⟩;exact⟨rfl,rfl⟩)
  obtain⟨F,h1,h2⟩:=g.get 0 rfl
  exact I6 A B c d l1 (eF.kZ h1 h2 rfl) (hB.le g.le) hl
end
section
open Go.RowKit Go.Maps ck aB
attribute [local irreducible] ak aK af ai
theorem Fb {β:Bs} {X:FM} {ns:List aE} (N:Mh X ns) (hok:aS ns) (hB:jB ns 1048576) (B:Option Addr) (cp:Nat) (K:Lay) (hH:au β B ns K) (f m t:Nat) (L:HL) :
    Spec Tryz.prog β 9 #[vP f,.agg #[.slice B (ns.length) (cp),.slice none (0) (0),vI (X.cH),vI 0,.slice none (0) (0),.slice none (0) (0),vI (X.cN),vI (X.cB),vI (X.cH),vI (X.cS),vI (X.cZ),vI ((if ns.length=0 then 0 else (nd ns (ns.length - 1)).id))]] [.blk f [vI (N.1.X.cN),vI (N.1.X.cB),vI (N.1.X.cH),vI (N.1.X.cS),vI (N.1.X.cZ),.map (some m),vP t,vI (N.1.X.last),vI (N.1.X.ah),vI (N.1.X.used)] 66,.abs (aN Tryz.prog 3 m (aV (aT L N.1.idx)) N.1.idx.length),.abs (bH 110 t N.1.X.cH N.1.av (aT L N.1.us)),.abs (ay (bD N.1.O L)),.abs (ay (bq N.1.O L)),.abs (ay (cE N.1.O L))] (fun v l=>v=.bool true/\l=[.blk f [vI (N.1.X.cN),vI (N.1.X.cB),vI (N.1.X.cH),vI (N.1.X.cS),vI (N.1.X.cZ),.map (some m),vP t,vI (N.1.X.last),vI (N.1.X.ah),vI (N.1.X.used)] 66,.abs (aN Tryz.prog 3 m (aV (aT L N.1.idx)) N.1.idx.length),.abs (bH 110 t N.1.X.cH N.1.av (aT L N.1.us)),.abs (ay (bD N.1.O L)),.abs (ay (bq N.1.O L)),.abs (ay (cE N.1.O L))]):=by
 have hI:Inv N.1:=N.2.full
 have hgr:aI N.1=ns:=N.2.graph hok
 refine Spec.enter Tryz.func9 rfl Tryz.ntmps9 (Nat.le_of_ble_eq_true rfl) (fun R=>?_)
 refine SR (gN 2 (fun b1=>[(3,vP b1)]) (fun _=>[]) (fun _=>[]) (fun b1=>.blk b1 [.slice B (ns.length) (cp),.slice none (0) (0),vI (X.cH),vI 0,.slice none (0) (0),.slice none (0) (0),vI (X.cN),vI (X.cB),vI (X.cH),vI (X.cS),vI (X.cZ),vI ((if ns.length=0 then 0 else (nd ns (ns.length - 1)).id))] 41) (fun b1=>?_))
 refine NN (af.seq (af.oV (S:=[.blk b1 [.slice B (ns.length) (cp),.slice none (0) (0),vI (X.cH),vI 0,.slice none (0) (0),.slice none (0) (0),vI (X.cN),vI (X.cB),vI (X.cH),vI (X.cS),vI (X.cZ),vI ((if ns.length=0 then 0 else (nd ns (ns.length - 1)).id))] 41]) [(true,0),(true,2),(true,3),(false,1),(false,4),(true,5),(true,6),(true,8),(true,9),(true,10),(false,7),(false,11),(true,12),(true,13),(true,14),(true,16),(true,17),(true,18),(false,15),(true,19),(true,20),(true,21),(true,22),(true,24),(false,23),(false,25),(true,26),(true,27),(false,28)] [7] (by kernel_rfl) (by kernel_rfl) rfl (by kernel_rfl) ?_))
 refine gG [(false,1),(false,4),(true,5),(true,6),(true,8),(true,9),(true,10),(false,7),(false,11),(true,12),(true,13),(true,14),(true,16),(true,17),(true,18),(false,15),(true,19),(true,20),(true,21),(true,22),(true,24),(false,23),(false,25),(true,26),(true,27),(false,28)] [(0,vP f),(3,vP b1),(5,vP f),(8,.agg #[.slice B (ns.length) (cp)])] [0,2,3] [(2,a_ 0 b1)] ?_
 refine gI.cut (ι:=(Option Addr)×Nat×Lay) (fr':=fun ((Ao,co,Ko):(Option Addr)×Nat×Lay)=>[(0,vP f),(3,vP b1),(6,.agg #[.slice Ao ((aI N.1).length) (co)]),(8,.agg #[.slice B (ns.length) (cp)])]) (hp':=fun ((Ao,co,Ko):(Option Addr)×Nat×Lay)=>[.blk f [vI (N.1.X.cN),vI (N.1.X.cB),vI (N.1.X.cH),vI (N.1.X.cS),vI (N.1.X.cZ),.map (some m),vP t,vI (N.1.X.last),vI (N.1.X.ah),vI (N.1.X.used)] 66,.abs (aN Tryz.prog 3 m (aV (aT L N.1.idx)) N.1.idx.length),.abs (ay (bD N.1.O L)),.abs (ay (bq N.1.O L)),.abs (ay (cE N.1.O L)),.abs (aC 55 10 Ao ((aI N.1).length) co (cI Ko (aI N.1))),.abs (eM (ij (aI N.1) Ko) (aI N.1).length),.abs (eM (iq (aI N.1) Ko) (aI N.1).length),.abs (bH 110 t N.1.X.cH N.1.av (aT L N.1.us)),.abs R,.blk b1 [.slice B (ns.length) (cp),.slice none (0) (0),vI (X.cH),vI 0,.slice none (0) (0),.slice none (0) (0),vI (X.cN),vI (X.cB),vI (X.cH),vI (X.cS),vI (X.cZ),vI ((if ns.length=0 then 0 else (nd ns (ns.length - 1)).id))] 41]) [10] (by kernel_rfl) ?_ rfl (fun _=>by kernel_rfl) ?_
 ·refine gL [0,1,3,4,5] (zK N.1 L f m t hI) ?_
  rintro _ _ ⟨Ao,co,Ko,rfl,rfl⟩
  refine NL ?_
  exact MD (Ao,co,Ko) [0,3,6,8] [0,1,2,3,4,5,6,7,8,9,10]
 rintro⟨Ao,co,Ko⟩
 refine gI.cut (ι:=Unit) (fr':=fun (_:Unit)=>[(0,vP f),(3,vP b1),(9,.bool true)]) (hp':=fun (_:Unit)=>[.abs (aC 55 10 Ao ((aI N.1).length) co (cI Ko (aI N.1))),.abs (eM (ij (aI N.1) Ko) (aI N.1).length),.abs (eM (iq (aI N.1) Ko) (aI N.1).length),.blk f [vI (N.1.X.cN),vI (N.1.X.cB),vI (N.1.X.cH),vI (N.1.X.cS),vI (N.1.X.cZ),.map (some m),vP t,vI (N.1.X.last),vI (N.1.X.ah),vI (N.1.X.used)] 66,.abs (aN Tryz.prog 3 m (aV (aT L N.1.idx)) N.1.idx.length),.abs (ay (bD N.1.O L)),.abs (ay (bq N.1.O L)),.abs (ay (cE N.1.O L)),.abs (bH 110 t N.1.X.cH N.1.av (aT L N.1.us)),.abs R,.blk b1 [.slice B (ns.length) (cp),.slice none (0) (0),vI (X.cH),vI 0,.slice none (0) (0),.slice none (0) (0),vI (X.cN),vI (X.cB),vI (X.cH),vI (X.cS),vI (X.cZ),vI ((if ns.length=0 then 0 else (nd ns (ns.length - 1)).id))] 41]) [10] (by kernel_rfl) ?_ rfl (fun _=>by kernel_rfl) ?_
 ·refine gL [5,6,7] (zU Ao B co cp (aI N.1) ns Ko K hH (Jd hI.toInv0) (I5 hI.toInv0) (decide_eq_true hgr)) ?_
  rintro _ _ ⟨rfl,rfl⟩
  refine NL ?_
  exact MD () [0,3,9] [0,1,2,3,4,5,6,7,8,9,10]
 rintro _
 refine gG [(false,7),(false,11),(true,12),(true,13),(true,14),(true,16),(true,17),(true,18),(false,15),(true,19),(true,20),(true,21),(true,22),(true,24),(false,23),(false,25),(true,26),(true,27),(false,28)] [(0,vP f),(3,vP b1),(10,.bool true),(11,vP f),(15,.slice none (0) (0))] [5,6,8,9,10] [(4,a_ 0 b1)] ?_
 refine gI.cut (ι:=(Option Addr)×Nat) (fr':=fun ((Ah,ch):(Option Addr)×Nat)=>[(0,vP f),(3,vP b1),(10,.bool true),(12,.slice Ah (N.1.us.length) (ch)),(15,.slice none (0) (0))]) (hp':=fun ((Ah,ch):(Option Addr)×Nat)=>[.blk f [vI (N.1.X.cN),vI (N.1.X.cB),vI (N.1.X.cH),vI (N.1.X.cS),vI (N.1.X.cZ),.map (some m),vP t,vI (N.1.X.last),vI (N.1.X.ah),vI (N.1.X.used)] 66,.abs (bH 110 t N.1.X.cH N.1.av (aT L N.1.us)),.abs (aC 3 1 Ah N.1.us.length ch (ints (keys N.1.us))),.abs (aC 55 10 Ao ((aI N.1).length) co (cI Ko (aI N.1))),.abs (eM (ij (aI N.1) Ko) (aI N.1).length),.abs (eM (iq (aI N.1) Ko) (aI N.1).length),.abs (aN Tryz.prog 3 m (aV (aT L N.1.idx)) N.1.idx.length),.abs (ay (bD N.1.O L)),.abs (ay (bq N.1.O L)),.abs (ay (cE N.1.O L)),.abs R,.blk b1 [.slice B (ns.length) (cp),.slice none (0) (0),vI (X.cH),vI 0,.slice none (0) (0),.slice none (0) (0),vI (X.cN),vI (X.cB),vI (X.cH),vI (X.cS),vI (X.cZ),vI ((if ns.length=0 then 0 else (nd ns (ns.length - 1)).id))] 41]) [11] (by kernel_rfl) ?_ rfl (fun _=>by kernel_rfl) ?_
 ·refine gL [3,8] (GR N.1 L f m t) ?_
  rintro _ _ ⟨Ah,ch,rfl,rfl⟩
  refine NL ?_
  exact MD (Ah,ch) [0,3,10,12,15] [0,1,2,3,4,5,6,7,8,9,10,11]
 rintro⟨Ah,ch⟩
 refine gI.cut (ι:=Unit) (fr':=fun (_:Unit)=>[(0,vP f),(3,vP b1),(10,.bool true),(16,.bool true)]) (hp':=fun (_:Unit)=>[.abs (aC 3 1 Ah N.1.us.length ch (ints (keys N.1.us))),.blk f [vI (N.1.X.cN),vI (N.1.X.cB),vI (N.1.X.cH),vI (N.1.X.cS),vI (N.1.X.cZ),.map (some m),vP t,vI (N.1.X.last),vI (N.1.X.ah),vI (N.1.X.used)] 66,.abs (bH 110 t N.1.X.cH N.1.av (aT L N.1.us)),.abs (aC 55 10 Ao ((aI N.1).length) co (cI Ko (aI N.1))),.abs (eM (ij (aI N.1) Ko) (aI N.1).length),.abs (eM (iq (aI N.1) Ko) (aI N.1).length),.abs (aN Tryz.prog 3 m (aV (aT L N.1.idx)) N.1.idx.length),.abs (ay (bD N.1.O L)),.abs (ay (bq N.1.O L)),.abs (ay (cE N.1.O L)),.abs R,.blk b1 [.slice B (ns.length) (cp),.slice none (0) (0),vI (X.cH),vI 0,.slice none (0) (0),.slice none (0) (0),vI (X.cN),vI (X.cB),vI (X.cH),vI (X.cS),vI (X.cZ),vI ((if ns.length=0 then 0 else (nd ns (ns.length - 1)).id))] 41]) [11] (by kernel_rfl) ?_ rfl (fun _=>by kernel_rfl) ?_
 ·refine gL [2] (GV (n1:=N.1.us.length) (n2:=0) (l1:=keys N.1.us) (l2:=[]) Ah none ch 0 (by rw [sj]) rfl (by rw [N.2.us];rfl) (fun j v hj=>by cases hj) (by rw [N.2.us];decide)) ?_
  rintro _ _ ⟨rfl,rfl⟩
  refine NL ?_
  exact MD () [0,3,10,16] [0,1,2,3,4,5,6,7,8,9,10,11]
 rintro _
 refine gG [(false,15),(true,19),(true,20),(true,21),(true,22),(true,24),(false,23),(false,25),(true,26),(true,27),(false,28)] [(0,vP f),(3,vP b1),(18,.bool true),(19,vP f),(23,vI 0)] [12,13,14,16,17,18] [(5,a_ 0 b1)] ?_
 refine gI.cut (ι:=Unit) (fr':=fun (_:Unit)=>[(0,vP f),(3,vP b1),(18,.bool true),(20,vI 0),(23,vI 0)]) (hp':=fun (_:Unit)=>[.blk f [vI (N.1.X.cN),vI (N.1.X.cB),vI (N.1.X.cH),vI (N.1.X.cS),vI (N.1.X.cZ),.map (some m),vP t,vI (N.1.X.last),vI (N.1.X.ah),vI (N.1.X.used)] 66,.abs (bH 110 t N.1.X.cH N.1.av (aT L N.1.us)),.abs (aC 3 1 Ah N.1.us.length ch (ints (keys N.1.us))),.abs (aC 55 10 Ao ((aI N.1).length) co (cI Ko (aI N.1))),.abs (eM (ij (aI N.1) Ko) (aI N.1).length),.abs (eM (iq (aI N.1) Ko) (aI N.1).length),.abs (aN Tryz.prog 3 m (aV (aT L N.1.idx)) N.1.idx.length),.abs (ay (bD N.1.O L)),.abs (ay (bq N.1.O L)),.abs (ay (cE N.1.O L)),.abs R,.blk b1 [.slice B (ns.length) (cp),.slice none (0) (0),vI (X.cH),vI 0,.slice none (0) (0),.slice none (0) (0),vI (X.cN),vI (X.cB),vI (X.cH),vI (X.cS),vI (X.cZ),vI ((if ns.length=0 then 0 else (nd ns (ns.length - 1)).id))] 41]) [11] (by kernel_rfl) ?_ rfl (fun _=>by kernel_rfl) ?_
 ·refine gL [1,2] ((I7 N.1 L f m t).val (congrArg (Value.int .i64) N.2.av)) ?_
  rintro _ _ ⟨rfl,rfl⟩
  refine NL ?_
  exact MD () [0,3,18,20,23] [0,1,2,3,4,5,6,7,8,9,10,11]
 rintro _
 refine gG [(false,23),(false,25),(true,26),(true,27),(false,28)] [(26,.bool true),(27,vP f),(29,.agg #[.slice B (ns.length) (cp),.slice none (0) (0),vI (X.cH),vI 0,.slice none (0) (0),.slice none (0) (0),vI (X.cN),vI (X.cB),vI (X.cH),vI (X.cS),vI (X.cZ),vI ((if ns.length=0 then 0 else (nd ns (ns.length - 1)).id))])] [19,20,21,22,24] [(4,A_ 0 b1 12)] ?_
 refine gI.cut (ι:=Unit) (fr':=fun (_:Unit)=>[(26,.bool true),(28,vI ↑(dL ns ns.length)),(29,.agg #[.slice B (ns.length) (cp),.slice none (0) (0),vI (X.cH),vI 0,.slice none (0) (0),.slice none (0) (0),vI (X.cN),vI (X.cB),vI (X.cH),vI (X.cS),vI (X.cZ),vI ((if ns.length=0 then 0 else (nd ns (ns.length - 1)).id))])]) (hp':=fun (_:Unit)=>[.blk f [vI (N.1.X.cN),vI (N.1.X.cB),vI (N.1.X.cH),vI (N.1.X.cS),vI (N.1.X.cZ),.map (some m),vP t,vI (N.1.X.last),vI (N.1.X.ah),vI (N.1.X.used)] 66,.abs (bH 110 t N.1.X.cH N.1.av (aT L N.1.us)),.abs (aC 3 1 Ah N.1.us.length ch (ints (keys N.1.us))),.abs (aC 55 10 Ao ((aI N.1).length) co (cI Ko (aI N.1))),.abs (eM (ij (aI N.1) Ko) (aI N.1).length),.abs (eM (iq (aI N.1) Ko) (aI N.1).length),.abs (aN Tryz.prog 3 m (aV (aT L N.1.idx)) N.1.idx.length),.abs (ay (bD N.1.O L)),.abs (ay (bq N.1.O L)),.abs (ay (cE N.1.O L)),.abs R,.blk b1 [.slice B (ns.length) (cp),.slice none (0) (0),vI (X.cH),vI 0,.slice none (0) (0),.slice none (0) (0),vI (X.cN),vI (X.cB),vI (X.cH),vI (X.cS),vI (X.cZ),vI ((if ns.length=0 then 0 else (nd ns (ns.length - 1)).id))] 41]) [11] (by kernel_rfl) ?_ rfl (fun _=>by kernel_rfl) ?_
 ·refine gL [0] ((IX f m t N.1.X).val (congrArg (Value.int .i64) (show N.1.X.used=((dL ns ns.length:Nat):Int) by rw [N.2.cap]))) ?_
  rintro _ _ ⟨rfl,rfl⟩
  refine NL ?_
  exact MD () [26,28,29] [0,1,2,3,4,5,6,7,8,9,10,11]
 rintro _
 refine gI.cut (ι:=Unit) (fr':=fun (_:Unit)=>[(26,.bool true),(28,vI ↑(dL ns ns.length)),(30,vI ↑(dL ns ns.length))]) (hp':=fun (_:Unit)=>[.blk f [vI (N.1.X.cN),vI (N.1.X.cB),vI (N.1.X.cH),vI (N.1.X.cS),vI (N.1.X.cZ),.map (some m),vP t,vI (N.1.X.last),vI (N.1.X.ah),vI (N.1.X.used)] 66,.abs (bH 110 t N.1.X.cH N.1.av (aT L N.1.us)),.abs (aC 3 1 Ah N.1.us.length ch (ints (keys N.1.us))),.abs (aC 55 10 Ao ((aI N.1).length) co (cI Ko (aI N.1))),.abs (eM (ij (aI N.1) Ko) (aI N.1).length),.abs (eM (iq (aI N.1) Ko) (aI N.1).length),.abs (aN Tryz.prog 3 m (aV (aT L N.1.idx)) N.1.idx.length),.abs (ay (bD N.1.O L)),.abs (ay (bq N.1.O L)),.abs (ay (cE N.1.O L)),.abs R,.blk b1 [.slice B (ns.length) (cp),.slice none (0) (0),vI (X.cH),vI 0,.slice none (0) (0),.slice none (0) (0),vI (X.cN),vI (X.cB),vI (X.cH),vI (X.cS),vI (X.cZ),vI ((if ns.length=0 then 0 else (nd ns (ns.length - 1)).id))] 41]) [11] (by kernel_rfl) ?_ rfl (fun _=>by kernel_rfl) ?_
 ·refine gL [] (GU ns B none none none cp 0 0 0 0 0 0 0 (if ns.length=0 then 0 else (nd ns (ns.length - 1)).id) X K hH (oW hB) (by have:=uF (fun i hi=>(nJ hB i hi).1) (Nat.le_refl ns.length);have:=oW hB;omega)) ?_
  rintro _ _ ⟨rfl,rfl⟩
  refine NL ?_
  exact MD () [26,28,30] [0,1,2,3,4,5,6,7,8,9,10,11]
 rintro _
 refine gG [(false,28)] [(32,.bool true)] [26,27] [(0,p_ ⟨[],none,none,none,some (.bool true)⟩ [(Value.bool (decide (((((dL ns ns.length):Nat):Int):Int)=((((dL ns ns.length):Nat):Int):Int))))=(.bool true)] ⟨by simp,trivial⟩)] ?_
 refine gI.last (by kernel_rfl) ?_
 refine gK 1 [(4,.bool true)] [] ?_
 refine NL (ai.np (NX (af.ret ?_)))
 exact RT (.bool true) [0,6,1,7,8,9,10] (⟨rfl,rfl⟩)
end
section
open Go.RowKit Go.Maps ck aB
attribute [local irreducible] ak aK af ai
theorem Je {β:Bs}:eG Tryz.prog β 4 #[] [] (fun _ v l=>v=.bool true/\l=[]):=by
 refine eG.enter Tryz.func4 rfl Tryz.ntmps4 (Nat.le_of_ble_eq_true rfl) (fun hle0 R=>?_)
 refine SR (gK 1 [] [] ?_)
 refine NS (ak.ql (d:=(some 7)) (R:=[.abs R]) (pk:=[0]) (fun _=>by kernel_rfl) (GL) rfl (by kernel_rfl) ?_)
 rintro β1 _ _ lU ⟨B,Y,rfl,rfl,hG⟩
 replace hle0:=hle0.trans lU
 refine gN 2 (fun b2=>[(1,vP b2)]) (fun b2=>[(1,A_ 1 b2 6)]) (fun _=>[]) (fun b2=>.blk b2 [.slice B (2) (2),vI 9,vI 99,vI 9,vI 0,vI 0] 30) (fun b2=>?_)
 refine NS (gK 4 [(10,.agg #[.slice B (2) (2)]),(12,.agg #[vI 9,vI 99,vI 9,vI 0,vI 0])] [(1,a_ 1 b2),(3,A_ 1 b2 5)] ?_)
 refine gL [] (E9 (room:=99) (cp:=2) (by decide) hG) ?_
 rintro _ _ ⟨S,f3,m4,t5,L,h0,rfl,rfl⟩
 refine gK 5 [(2,vP f3),(3,vI 0)] [] ?_
 refine NN (af.seq (SR (gK 6 [(21,.bool false)] [] ?_)))
 refine NN (CF (af.skip (NX (SR (gK 2 [(22,vP f3),(23,.agg #[vI 1,vI 0,vI 1,.string ⟨#[]⟩,.string ⟨#[]⟩,.slice none (0) (0),vI 0,vI 0,vI 0,vI 0,vI 0,vI 0,vI 0])] [] ?_)))))
 have bT:Inv (S1 S):=by have h:=h0.inv.mB sJ;rw [Cw h0] at h;exact h
 refine gL [0,1,2,3,4,5] (wE (β:=β1) (f:=f3) (m:=m4) (t:=t5) (L:=L) h0.inv (y7 (by decide) (by decide) (by decide) (by decide) rfl) (Cw h0)) ?_
 rintro _ _ ⟨L1,rfl,rfl⟩
 refine gN 2 (fun b6=>[(4,vP b6)]) (fun b6=>[(1,A_ 8 b6 13)]) (fun _=>[]) (fun b6=>.blk b6 [vI 1,vI 0,vI 1,.string ⟨#[]⟩,.string ⟨#[]⟩,.slice none (0) (0),vI 0,vI 0,vI 0,vI 0,vI 0,vI 0,vI 1] 50) (fun b6=>?_)
 refine NS (gK 2 [(25,vP f3),(26,.agg #[vI 4,vI 1,vI 0,.string ⟨#[100]⟩,.string ⟨#[]⟩,.slice none (0) (0),vI 448,vI 0,vI 0,vI 0,vI 0,vI 0,vI 0])] [] ?_)
 obtain⟨S2,hd2,Pt,hn2,hc2,ha2,hk2⟩:=Mc h0
 have NK:Inv S2:=by have h:=bT.mB rK;rw [hd2] at h;exact h
 refine gL [0,1,2,3,4,5] (wE (β:=β1) (f:=f3) (m:=m4) (t:=t5) (L:=L1) bT (y7 (by decide) (by decide) (by decide) (by decide) rfl) hd2) ?_
 rintro _ _ ⟨L2,rfl,rfl⟩
 refine gN 2 (fun b7=>[(5,vP b7)]) (fun b7=>[(1,A_ 9 b7 13)]) (fun _=>[]) (fun b7=>.blk b7 [vI 4,vI 1,vI 0,.string ⟨#[100]⟩,.string ⟨#[]⟩,.slice none (0) (0),vI 448,vI 0,vI 0,vI 0,vI 0,vI 0,vI 0] 50) (fun b7=>?_)
 refine NS (gK 2 [(28,vP f3),(29,.agg #[vI 2,vI 1,vI 0,.string ⟨#[100]⟩,.string ⟨#[]⟩,.slice none (0) (0),vI 0,vI 0,vI 0,vI 0,vI 0,vI 0,vI 0])] [] ?_)
 obtain⟨S3,hd3,Pu⟩:=Md Pt hc2 ha2 hk2
 have Pv:Inv S3:=by have h:=NK.mB xL;rw [hd3] at h;exact h
 refine gL [0,1,2,3,4,5] (wE (β:=β1) (f:=f3) (m:=m4) (t:=t5) (L:=L2) NK (y7 (by decide) (by decide) (by decide) (by decide) rfl) hd3) ?_
 rintro _ _ ⟨L3,rfl,rfl⟩
 refine gN 2 (fun b8=>[(6,vP b8)]) (fun b8=>[(1,A_ 10 b8 13)]) (fun _=>[]) (fun b8=>.blk b8 [vI 2,vI 1,vI 0,.string ⟨#[100]⟩,.string ⟨#[]⟩,.slice none (0) (0),vI 0,vI 0,vI 0,vI 0,vI 0,vI 0,vI 2] 50) (fun b8=>?_)
 refine NS (gK 20 [(49,.bool true),(50,vP f3)] [(1,a_ 8 b6),(5,a_ 8 b6),(10,a_ 9 b7),(15,a_ 10 b8)] ?_)
 refine ak.ql (d:=(some 51)) (R:=[pT t5 S3.X.cH S3.av L3 S3.us,.abs R,.blk b2 [.slice B (2) (2),vI 9,vI 99,vI 9,vI 0,vI 0] 30,.blk b6 [vI 1,vI 0,vI 1,.string ⟨#[]⟩,.string ⟨#[]⟩,.slice none (0) (0),vI 0,vI 0,vI 0,vI 0,vI 0,vI 0,vI 1] 50,.blk b7 [vI 4,vI 1,vI 0,.string ⟨#[100]⟩,.string ⟨#[]⟩,.slice none (0) (0),vI 448,vI 0,vI 0,vI 0,vI 0,vI 0,vI 0] 50,.blk b8 [vI 2,vI 1,vI 0,.string ⟨#[100]⟩,.string ⟨#[]⟩,.slice none (0) (0),vI 0,vI 0,vI 0,vI 0,vI 0,vI 0,vI 2] 50]) (pk:=[0,1,3,4,5,2,6,7,8,9,10]) (fun _=>by kernel_rfl) (E8 (β:=β1) (S:=S3) (L:=L3) (f:=f3) (m:=m4) (t:=t5) Pv) rfl (by kernel_rfl) ?_
 rintro Pk _ _ rL ⟨A4,c4,K4,rfl,rfl,_⟩
 replace hG:=hG.le rL
 replace hle0:=hle0.trans rL
 refine gK 5 [(0,.bool (decide ((((3:Nat):Int):Int)=(3:Int))))] [(1,p_ ⟨[],none,none,none,some (vI (((3:Nat):Int)))⟩ [((.int .i64 ↑((aI S3).length):Value))=(.int .i64 (((3:Nat):Int)))] ⟨by rw [mD,Pu,hn2],trivial⟩)] ?_
 refine NN (af.ret ?_)
 exact ai.lF (v:=.bool (decide ((((3:Nat):Int):Int)=(3:Int)))) (l:=[]) (bw:=[]) [] [6] hle0 (fun _=>by kernel_rfl) trivial rfl (by kernel_rfl) (⟨rfl,rfl⟩)
end
section
open Go.RowKit Go.Maps ck aB
attribute [local irreducible] ak aK af ai
theorem law_news (W:World) (A:Option Addr) (c:Nat) (ns:List aE) (Y:Lay) (X:FM) (hG:au (B0 W) A ns Y) (hB:jB ns 1048576) :
    Spec Tryz.prog (B0 W) 3 #[.agg #[.slice A (ns.length) (c),vI (X.cN),vI (X.cB),vI (X.cH),vI (X.cS),vI (X.cZ)]] [] (fun v _=>v=.bool true):=by
 have hle0:=B0.refl W
 refine Spec.enter Tryz.func3 rfl Tryz.ntmps3 (Nat.le_of_ble_eq_true rfl) (fun R=>?_)
 refine SR (gN 2 (fun b1=>[(1,vP b1)]) (fun _=>[]) (fun _=>[]) (fun b1=>.blk b1 [.slice A (ns.length) (c),vI (X.cN),vI (X.cB),vI (X.cH),vI (X.cS),vI (X.cZ)] 30) (fun b1=>?_))
 refine NN (af.seq (SR (ak.ql (d:=(some 8)) (R:=[.abs R,.blk b1 [.slice A (ns.length) (c),vI (X.cN),vI (X.cB),vI (X.cH),vI (X.cS),vI (X.cZ)] 30]) (pk:=[0,1]) (fun _=>by kernel_rfl) (Je) rfl (by kernel_rfl) ?_)))
 rintro KF _ _ mV ⟨rfl,rfl⟩
 replace hG:=hG.le mV
 replace hle0:=hle0.trans mV
 refine gK 1 [(9,.bool false)] [] ?_
 refine NN (CF (af.skip (NX (SR (gK 2 [(11,.agg #[.slice A (ns.length) (c)])] [(1,a_ 1 b1)] ?_)))))
 refine ak.ql (d:=(some 12)) (R:=[.abs R,.blk b1 [.slice A (ns.length) (c),vI (X.cN),vI (X.cB),vI (X.cH),vI (X.cS),vI (X.cZ)] 30]) (pk:=[0,1]) (fun _=>by kernel_rfl) (tu A c ns Y hG (oW hB) (nJ hB)) rfl (by kernel_rfl) ?_
 rintro Qn _ _ DS ⟨B2,c2,K2,rfl,rfl,tL⟩
 replace hG:=hG.le DS
 replace hle0:=hle0.trans DS
 refine gN 2 (fun b4=>[(3,vP b4)]) (fun b4=>[(1,a_ 2 b4)]) (fun _=>[]) (fun b4=>.blk b4 [.slice B2 (ns.length) (c2)] 24) (fun b4=>?_)
 refine NN (af.seq ?_)
 by_cases wF:jm X/\aS ns
 ·refine af.region (gK 3 [(14,.agg #[.slice B2 (ns.length) (c2)]),(16,.agg #[vI (X.cN),vI (X.cB),vI (X.cH),vI (X.cS),vI (X.cZ)])] [(0,a_ 2 b4),(2,A_ 1 b1 5)] ?_)
  refine gL [] (I8 wF.1 wF.2 B2 c2 tL hB) ?_
  rintro _ _ ⟨N,f,m,t,L,rfl,rfl⟩
  refine gK 5 [(4,vP f),(5,vI 0)] [] ?_
  refine NS (gK 4 [(22,.agg #[.slice A (ns.length) (c)]),(24,.agg #[vI (X.cN),vI (X.cB),vI (X.cH),vI (X.cS),vI (X.cZ)])] [(1,a_ 7 b1),(3,A_ 7 b1 5)] ?_)
  refine ak.ql (d:=(some 25)) (R:=((pA f m t L N.1)++[.abs R,.blk b1 [.slice A (ns.length) (c),vI (X.cN),vI (X.cB),vI (X.cH),vI (X.cS),vI (X.cZ)] 30,.blk b4 [.slice B2 (ns.length) (c2)] 24])) (pk:=[0,1,2,3,4,5,6,7,8]) (fun _=>by kernel_rfl) (Jb wF.1 wF.2 A c hG hB) rfl (by kernel_rfl) ?_
  rintro NJ _ _ o7 ⟨B,cp,K,rfl,rfl,hH⟩
  replace hG:=hG.le o7
  replace tL:=tL.le o7
  replace hle0:=hle0.trans o7
  refine gN 6 (fun b6=>[(6,vP b6),(7,vI 0)]) (fun b6=>[(4,A_ 9 b6 12)]) (fun _=>[]) (fun b6=>.blk b6 [.slice B (ns.length) (cp),.slice none (0) (0),vI (X.cH),vI 0,.slice none (0) (0),.slice none (0) (0),vI (X.cN),vI (X.cB),vI (X.cH),vI (X.cS),vI (X.cZ),vI ((if ns.length=0 then 0 else (nd ns (ns.length - 1)).id))] 41) (fun b6=>?_)
  refine NN (af.seq (SR (gK 14 [(38,.bool false),(39,.agg #[.slice B2 (ns.length) (c2)]),(41,.agg #[.slice A (ns.length) (c)])] [(2,p_ ⟨[],none,none,none,some (.bool false)⟩ [((.bool false:Value))=(.bool false)] ⟨rfl,trivial⟩),(7,p_ ⟨[],none,none,none,some (.bool false)⟩ [((.bool false:Value))=(.bool false)] ⟨rfl,trivial⟩),(11,a_ 8 b4),(13,a_ 7 b1)] ?_)))
  refine gL [] ((pK B2 A c2 c ns ns K2 Y tL hG (oW hB) (fun i hi=>⟨Nat.le_trans (nJ hB i hi).1 (by decide),(nJ hB i hi).2⟩)).val (congrArg Value.bool (decide_eq_true rfl))) ?_
  rintro _ _ ⟨rfl,rfl⟩
  refine gK 2 [(44,.bool false)] [] ?_
  refine NN (CF (af.skip (NX (SR (gK 5 [(47,.bool false),(48,vP f),(49,.agg #[.slice B (ns.length) (cp),.slice none (0) (0),vI (X.cH),vI 0,.slice none (0) (0),.slice none (0) (0),vI (X.cN),vI (X.cB),vI (X.cH),vI (X.cS),vI (X.cZ),vI ((if ns.length=0 then 0 else (nd ns (ns.length - 1)).id))])] [(4,A_ 9 b6 12)] ?_)))))
  refine gL [0,1,2,3,4,5] (Fb N wF.2 hB B cp K hH f m t L) ?_
  rintro _ _ ⟨rfl,rfl⟩
  refine gK 2 [(2,.bool true)] [] ?_
  refine NN (af.ret ?_)
  exact ai.Kw (v:=.bool true) (l:=[]) (bw:=[]) [] [6] hle0 (fun _=>by kernel_rfl) trivial rfl (by kernel_rfl) (rfl)
 refine af.region (gK 3 [(14,.agg #[.slice B2 (ns.length) (c2)]),(16,.agg #[vI (X.cN),vI (X.cB),vI (X.cH),vI (X.cS),vI (X.cZ)])] [(0,a_ 2 b4),(2,A_ 1 b1 5)] ?_)
 refine gL [] (I9 wF B2 c2 tL hB) ?_
 rintro _ _ ⟨rfl,rfl⟩
 refine gK 5 [(4,.pointer none),(5,vI ((nE X)))] [] ?_
 refine NS (gK 4 [(22,.agg #[.slice A (ns.length) (c)]),(24,.agg #[vI (X.cN),vI (X.cB),vI (X.cH),vI (X.cS),vI (X.cZ)])] [(1,a_ 1 b1),(3,A_ 1 b1 5)] ?_)
 refine ak.ql (d:=(some 25)) (R:=[.abs R,.blk b1 [.slice A (ns.length) (c),vI (X.cN),vI (X.cB),vI (X.cH),vI (X.cS),vI (X.cZ)] 30,.blk b4 [.slice B2 (ns.length) (c2)] 24]) (pk:=[0,1,2]) (fun _=>by kernel_rfl) (Jc wF A c hG hB) rfl (by kernel_rfl) ?_
 rintro Qo _ _ y8 ⟨rfl,rfl⟩
 replace hG:=hG.le y8
 replace tL:=tL.le y8
 replace hle0:=hle0.trans y8
 refine gN 6 (fun b8=>[(6,vP b8),(7,vI ((nE X)))]) (fun b8=>[(4,A_ 3 b8 12)]) (fun _=>[]) (fun b8=>.blk b8 [.slice none (0) (0),.slice none (0) (0),vI 0,vI 0,.slice none (0) (0),.slice none (0) (0),vI 0,vI 0,vI 0,vI 0,vI 0,vI 0] 41) (fun b8=>?_)
 refine NN (af.seq (SR (gK 14 [(38,.bool false),(39,.agg #[.slice B2 (ns.length) (c2)]),(41,.agg #[.slice A (ns.length) (c)])] [(2,p_ ⟨[],none,none,none,some (.bool false)⟩ [(Value.bool (!decide (((nE X):Int)=((nE X):Int))))=(.bool false)] ⟨congrArg (fun b=>Value.bool !b) (decide_eq_true rfl),trivial⟩),(7,p_ ⟨[],none,none,none,some (.bool true)⟩ [((.bool (!(decide (((nE X):Int)=(0:Int)))):Value))=(.bool true)] ⟨congrArg (fun b=>Value.bool !b) (decide_eq_false (Kr X)),trivial⟩),(11,a_ 2 b4),(13,a_ 1 b1)] ?_)))
 refine gL [] ((pK B2 A c2 c ns ns K2 Y tL hG (oW hB) (fun i hi=>⟨Nat.le_trans (nJ hB i hi).1 (by decide),(nJ hB i hi).2⟩)).val (congrArg Value.bool (decide_eq_true rfl))) ?_
 rintro _ _ ⟨rfl,rfl⟩
 refine gK 2 [(44,.bool false)] [] ?_
 refine NN (CF (af.skip (NX (SR (gK 8 [(2,.bool true)] [] ?_)))))
 refine NN (af.ret ?_)
 exact ai.Kw (v:=.bool true) (l:=[]) (bw:=[]) [] [0] hle0 (fun _=>by kernel_rfl) trivial rfl (by kernel_rfl) (rfl)
end
end Go.Proofs.YtaepnjbceganhaaGreat
