/-
  PROVED HERE: lemmas and contracts of functions (texts of this repo, joined; what the claim does not use is left out): H12, Lw, LA, Lc, HW, Og, LC, Oh, Wm, WE, WF, WA, ShelfP, As, HA, HB, WB, Wc, WC, Wd, We, WG, Wl, Wf, Wk, GTe, XS, Wt, XR, WH, Wq, Wu, Wy.
  CONDITIONS: as the theorems say.
-/
import Derived.Test.YtidjcblbdmfalaaGreatMWtails4
import Derived.Shelf.Strings.Split
import Derived.Test.YtidjcblbdmfalaaGreatProg
import Derived.Laws.IdiomStrings
import Derived.Lib.SplitLaws
set_option maxRecDepth 100000
set_option maxHeartbeats 4000000
namespace Go.Proofs.YtidjcblbdmfalaaGreat
section
open Go.RowKit Go.Maps bH aE
attribute [local irreducible] aj aS af ai
abbrev rK (b2:Nat) (X:FM):=(.blk b2 [vI (X.cN),vI (X.cB),vI (X.cH),vI (X.cS),vI (X.cZ)] 28:HP)
abbrev qW (b1:Nat) (A:Option Addr) (ns:List aP) (c):=(.blk b1 [.slice A (ns.length) (c)] 24:HP)
abbrev rL (b8:Nat) (ns) (k:Nat) (Y:Lay):=(.blk b8 [vI ((nd ns k).id),vI ((nd ns k).kind),vI ((nd ns k).mode),vI ((nd ns k).uid),vI ((nd ns k).gid),vI ((nd ns k).sec),vI ((nd ns k).nano),.slice (Y.dA k) ((nd ns k).data.length) ((Y.dC k)),.string (nd ns k).target,.slice (Y.eA k) ((nd ns k).ah.length) ((Y.eC k))] 70:HP)
abbrev zO (b9:Nat) (ns) (k:Nat):=(.blk b9 [vI ((nd ns k).id),vI ((nd ns k).mode),vI ((nd ns k).uid),vI ((nd ns k).gid),vI ((nd ns k).sec),vI ((nd ns k).nano),vI 0,vI 0,.bool false] 128:HP)
abbrev wW (b1:Nat) (A:Option Addr) (ns) (c) (b7:Nat) (m3:Nat) (t4:Nat) (S:aI) (L:HL) (R:cE):=([qW b1 A ns c,pF b7 m3 t4 S.X,pI m3 L S.idx,j7 t4 S L,pO S.O L,pD S.O L,pE S.O L,.abs R]:List HP)
abbrev O3 (A:Option Addr) (ns:List aP) (c) (i:Nat) (Y:Lay) (j:Nat):=([(123,.slice A (ns.length) (c)),(124,vI ↑ns.length),(125,vI ↑i),(130,.slice (Y.eA i) ((nd ns i).ah.length) ((Y.eC i))),(131,vI ↑((nd ns i).ah.length)),(132,vI ↑j)]:Fr)
abbrev LD (b1:Nat) (X:FM):=([(2,vP b1),(39,.agg #[vI (X.cN),vI (X.cB),vI (X.cH),vI (X.cS),vI (X.cZ)])]:Fr)
abbrev LF (b1:Nat) (b7:Nat) (A:Option Addr) (ns:List aP) (c) (k:Nat):=([(2,vP b1),(6,vP b7),(47,.slice A (ns.length) (c)),(48,vI ↑ns.length),(49,vI ↑k)]:Fr)
abbrev Iq (b1:Nat) (b7:Nat) (b8:Nat) (A:Option Addr) (ns:List aP) (c) (k:Nat):=([(2,vP b1),(6,vP b7),(8,vP b8),(47,.slice A (ns.length) (c)),(48,vI ↑ns.length),(49,vI ↑k)]:Fr)
abbrev NG (b1:Nat) (b7:Nat) (b8:Nat) (A:Option Addr) (ns:List aP) (c) (k:Nat):=([(2,vP b1),(6,vP b7),(8,vP b8),(47,.slice A (ns.length) (c)),(48,vI ↑ns.length),(49,vI ↑k)]:Fr)
abbrev JW (b7:Nat) (b16:Nat):=([(6,vP b7),(11,vP b16)]:Fr)
abbrev NH (S:aI) (ns) (k:Nat) (b7:Nat):=([(118,vI (S.X.used+(((nd ns k).data.length:Nat):Int))),(120,.pointer (some ⟨b7,9,none⟩))]:Fr)
theorem Ir {β:Bs} (A:Option Addr) (c:Nat) (ns:List aP) (Y:Lay) (hG:ay β A ns Y) (hl:ns.length<=1048576) (hd:∀ i,i < ns.length->(nd ns i).data.length<=1048576/\(nd ns i).ah.length<=1048576) (hwf:∀ i,i < ns.length->∀ j,j < (nd ns i).ah.length->-9223372036854775808<=(ent ns i j).id/\(ent ns i j).id<=9223372036854775807) (hnm:∀ i,i < ns.length->∀ j,j < (nd ns i).ah.length->(ent ns i j).name.size<=1048576) (X:FM) :
    Spec Tryz.prog β 21 #[.agg #[.slice A (ns.length) (c)],.agg #[vI (X.cN),vI (X.cB),vI (X.cH),vI (X.cS),vI (X.cZ)]] [] (fun v l=>(¬ jx X/\v=.tuple #[.pointer none,vI 179]/\l=[])\/(jx X/\¬ bS ns/\v=.tuple #[.pointer none,vI 140]/\l=[])\/(jx X/\bS ns/\∃ S f m t L,fH X ns ns.length 0 S/\v=.tuple #[vP f,vI 0]/\l=pA f m t L S)):=by
 refine Spec.enter Tryz.func21 rfl Tryz.ntmps21 (Nat.le_of_ble_eq_true rfl) (fun R=>?_)
 refine SR (gN 1 (fun b1=>[(2,vP b1)]) (fun _=>[]) (fun _=>[]) (fun b1=>.blk b1 [.slice A (ns.length) (c)] 24) (fun b1=>?_))
 refine gN 3 (fun b2=>[(3,vP b2)]) (fun _=>[]) (fun _=>[]) (fun b2=>.blk b2 [vI (X.cN),vI (X.cB),vI (X.cH),vI (X.cS),vI (X.cZ)] 28) (fun b2=>?_)
 refine NN (af.seq (SR (gK 2 [(15,vI (X.cN))] [(1,a_ 2 b2)] ?_)))
 refine gL [] (fR X.cN 4096) ?_
 rintro _ _ ⟨rfl,rfl⟩
 refine gK 2 [(18,.bool (!(decide ((0<=X.cN/\X.cN<=4096)))))] [] ?_
 refine aj.iI 18 ((0<=X.cN/\X.cN<=4096)) (fun _=>by kernel_rfl) (fun oF=>?_) (fun oF=>?_)
 ·refine gK 17 [(35,.bool true)] [] ?_
  refine NN (CT (SR (gK 2 [(4,.pointer none),(5,vI 179)] [] ?_)))
  refine NN (af.ret (ai.ar ?_))
  exact RT (.tuple #[.pointer none,vI 179]) [0] (.inl ⟨fun h=>oF h.cN,rfl,rfl⟩)
 refine gK 2 [(20,vI (X.cB))] [(1,a_ 2 b2)] ?_
 refine gL [] (fR X.cB 1099511627776) ?_
 rintro _ _ ⟨rfl,rfl⟩
 refine gK 3 [(24,.bool (!(decide ((0<=X.cB/\X.cB<=1099511627776)))))] [] ?_
 refine aj.iI 24 ((0<=X.cB/\X.cB<=1099511627776)) (fun _=>by kernel_rfl) (fun Ct=>?_) (fun Ct=>?_)
 ·refine gK 11 [(35,.bool true)] [] ?_
  refine NN (CT (SR (gK 2 [(4,.pointer none),(5,vI 179)] [] ?_)))
  refine NN (af.ret (ai.ar ?_))
  exact RT (.tuple #[.pointer none,vI 179]) [0] (.inl ⟨fun h=>Ct h.cB,rfl,rfl⟩)
 refine gK 2 [(26,vI (X.cH))] [(1,a_ 2 b2)] ?_
 refine gL [] (fR X.cH 1024) ?_
 rintro _ _ ⟨rfl,rfl⟩
 refine gK 3 [(30,.bool (!(decide ((0<=X.cH/\X.cH<=1024)))))] [] ?_
 refine aj.iI 30 ((0<=X.cH/\X.cH<=1024)) (fun _=>by kernel_rfl) (fun mO=>?_) (fun mO=>?_)
 ·refine gK 5 [(35,.bool true)] [] ?_
  refine NN (CT (SR (gK 2 [(4,.pointer none),(5,vI 179)] [] ?_)))
  refine NN (af.ret (ai.ar ?_))
  exact RT (.tuple #[.pointer none,vI 179]) [0] (.inl ⟨fun h=>mO h.cH,rfl,rfl⟩)
 refine gK 2 [(32,.agg #[vI (X.cS),vI (X.cZ)])] [(1,A_ 2 b2 2)] ?_
 refine gL [] (iC X.cS X.cZ) ?_
 rintro _ _ ⟨rfl,rfl⟩
 refine gK 2 [(35,.bool (!(decide (dW X.cS X.cZ))))] [] ?_
 refine NN (af.dm (p:=dW X.cS X.cZ) (fun _=>by kernel_rfl) (fun jQ=>?_) (fun jQ=>?_))
 ·refine SR (gK 2 [(4,.pointer none),(5,vI 179)] [] ?_)
  refine NN (af.ret (ai.ar ?_))
  exact RT (.tuple #[.pointer none,vI 179]) [0] (.inl ⟨fun h=>jQ h.now,rfl,rfl⟩)
 have hcap:jx X:=⟨oF,Ct,mO,jQ⟩
 refine af.skip (NX (af.seq (SR (gK 1 [(36,.agg #[.slice A (ns.length) (c)])] [(0,a_ 1 b1)] ?_))))
 refine gL [] (Mp A c ns Y hG hl (fun i hi=>⟨Nat.le_trans (hd i hi).1 (by decide),(hd i hi).2⟩) hwf hnm) ?_
 rintro _ _ ⟨rfl,rfl⟩
 refine gK 1 [(38,.bool (!(decide (((if bS ns then 0 else 140):Int)=(0:Int)))))] [] ?_
 refine NN (af.dm (p:=((if bS ns then 0 else 140):Int)=(0:Int)) (fun _=>by kernel_rfl) (fun BF=>?_) (fun BF=>?_))
 ·have VK:¬ bS ns:=fun h=>BF (if_pos h)
  refine SR (gK 2 [(4,.pointer none),(5,vI 140)] [] ?_)
  refine NN (af.ret (ai.ar ?_))
  exact RT (.tuple #[.pointer none,vI 140]) [0] (.inr (.inl ⟨hcap,VK,rfl,rfl⟩))
 have hok:bS ns:=Classical.byContradiction (fun h=>by rw [if_neg h] at BF;exact absurd BF (by decide))
 refine af.skip (NX (af.seq (af.rY (S:=[rK b2 X]) [0,2,3] [.two 1 4,.one 5,.one 6,.one 7] [2] (by kernel_rfl) (by kernel_rfl) rfl (by kernel_rfl) ?_)))
 refine gP (LD b1 X++[(42,vI (X.cH))]) [0,2,3] [(0,A_ 0 b2 5),(2,a_ 0 b2)] ?_
 refine iH.pair (ι:=Nat×Nat) (Q8:=Nat) (Q9:=Nat) (K5:=fun (m3:Nat)=>(LD b1 X++[(40,.map (some m3)),(42,vI (X.cH))])) (hpi:=fun (m3:Nat)=>[.abs R,qW b1 A ns c,rK b2 X,.abs (aN Tryz.prog 3 m3 (fun _=>none) 0)]) (K6:=fun (t5:Nat)=>(LD b1 X++[(43,vP t5)])) (K7:=fun (t5:Nat)=>[.abs (cV 197 t5 (min (max X.cH 0) 1024) 0 []),.abs R,qW b1 A ns c,rK b2 X]) (fr':=fun ((m3,t4):Nat×Nat)=>[(2,vP b1),(39,.agg #[vI (X.cN),vI (X.cB),vI (X.cH),vI (X.cS),vI (X.cZ)]),(40,.map (some m3)),(43,vP t4)]) (hp':=fun ((m3,t4):Nat×Nat)=>[.abs (cV 197 t4 (min (max X.cH 0) 1024) 0 []),.abs R,qW b1 A ns c,rK b2 X,.abs (aN Tryz.prog 3 m3 (fun _=>none) 0)]) [2] [3] [3] rfl rfl rfl rfl ?_ ?_ ?_ ?_ rfl (fun _=>by kernel_rfl) rfl (fun _=>by kernel_rfl) rfl (fun _=>by kernel_rfl) ?_
 ·refine aj.lT (d:=(some 40)) (t:=120) (fun _=>by kernel_rfl) Tryz.prog rfl 3 (fun m3=>?_)
  refine NL ?_
  exact MD m3 [2,39,40,42] [0,1,2,3]
 ·rintro m3
  show aj _ _ _ _ _ (LD b1 X++[(40,.map (some m3)),(42,vI (X.cH))]) [.abs R,qW b1 A ns c,rK b2 X,.abs (aN Tryz.prog 3 m3 (fun _=>none) 0)] _
  refine gL [] (Fv X.cH) ?_
  rintro _ _ ⟨t4,rfl,rfl⟩
  refine NL ?_
  exact MD (m3,t4) [2,39,40,43] [0,1,2,3,4]
 ·refine gL [] (Fv X.cH) ?_
  rintro _ _ ⟨t5,rfl,rfl⟩
  refine NL ?_
  exact MD t5 [2,39,43] [0,1,2,3]
 ·rintro t5
  show aj _ _ _ _ _ (LD b1 X++[(43,vP t5)]) [.abs (cV 197 t5 (min (max X.cH 0) 1024) 0 []),.abs R,qW b1 A ns c,rK b2 X] _
  refine aj.lT (d:=(some 40)) (t:=120) (fun _=>by kernel_rfl) Tryz.prog rfl 3 (fun m6=>?_)
  refine NL ?_
  exact MD (m6,t5) [2,39,40,43] [0,1,2,3,4]
 rintro⟨m3,t4⟩
 refine iH.cut (ι:=Unit) (fr':=fun (_:Unit)=>[(2,vP b1),(44,.agg #[vI (X.cN),vI (X.cB),vI (X.cH),vI (X.cS),vI (X.cZ),.map (some m3),vP t4,vI 0,vI 0,vI 0])]) (hp':=fun (_:Unit)=>[.abs (cV 197 t4 (min (max X.cH 0) 1024) 0 []),.abs R,qW b1 A ns c,rK b2 X,.abs (aN Tryz.prog 3 m3 (fun _=>none) 0)]) [3] rfl rfl ?_ rfl (fun _=>by kernel_rfl) ?_
 ·refine gK 1 [(44,.agg #[vI (X.cN),vI (X.cB),vI (X.cH),vI (X.cS),vI (X.cZ),.map (some m3),vP t4,vI 0,vI 0,vI 0])] [] ?_
  refine NL ?_
  exact MD () [2,44] [0,1,2,3,4]
 rintro _
 refine iH.cut (ι:=Nat) (fr':=fun (b7:Nat)=>[(2,vP b1),(45,vP b7)]) (hp':=fun (b7:Nat)=>[.abs (cV 197 t4 (min (max X.cH 0) 1024) 0 []),.abs R,qW b1 A ns c,rK b2 X,.abs (aN Tryz.prog 3 m3 (fun _=>none) 0),pF b7 m3 t4 { X with last:=0,ah:=0,used:=0 }]) [3] rfl rfl ?_ rfl (fun _=>by kernel_rfl) ?_
 ·refine gN 1 (fun b7=>[(45,vP b7)]) (fun _=>[]) (fun _=>[]) (fun b7=>pF b7 m3 t4 { X with last:=0,ah:=0,used:=0 }) (fun b7=>?_)
  refine NL ?_
  exact MD b7 [2,45] [0,1,2,3,4,5]
 rintro b7
 refine iH.last rfl rfl ?_
 refine gK 1 [(6,vP b7)] [] ?_
 refine NL (ai.np (NX (af.seq (SR ?_))))
 obtain⟨L,Xg⟩:∃ L:HL,L=⟨fun _=>0,fun _=>0,fun _=>none,fun _=>0⟩:=⟨_,rfl⟩
 refine aj.mem (fun w hS=>hS.EF (bM (gV X).O L) (AV X L).1) ?_
 refine aj.mem (fun w hS=>hS.EF (bN (gV X).O L) (AV X L).2.1) ?_
 refine aj.mem (fun w hS=>hS.EF (cF (gV X).O L) (AV X L).2.2) ?_
 have hc:min (max X.cH 0) 1024=X.cH:=by have:=hcap.cH;omega
 refine aj.mem (cR:=[.abs (cV 197 t4 (gV X).X.cH (gV X).aD (bq L (gV X).us)),.abs R,.blk b1 [.slice A (ns.length) (c)] 24,.blk b2 [vI (X.cN),vI (X.cB),vI (X.cH),vI (X.cS),vI (X.cZ)] 28,.abs (aN Tryz.prog 3 m3 (bp (bq L (gV X).idx)) ((gV X).idx.length)),.blk b7 [vI ((gV X).X.cN),vI ((gV X).X.cB),vI ((gV X).X.cH),vI ((gV X).X.cS),vI ((gV X).X.cZ),.map (some m3),vP t4,vI ((gV X).X.last),vI ((gV X).X.ah),vI ((gV X).X.used)] 126,.abs (ax (bM ((gV X).O) L)),.abs (ax (bN ((gV X).O) L)),.abs (ax (cF ((gV X).O) L))]) (fun w hS=>by rw [hc,← Fu] at hS;exact hS) ?_
 refine gK 4 [(47,.slice A (ns.length) (c)),(48,vI ↑ns.length),(49,vI 0)] [(1,a_ 2 b1)] ?_
 refine NN (af.block ?_)
 refine af.loop (ι:=Nat×aI×HL) (fun ((k,S,L):Nat×aI×HL)=>(k<=ns.length)/\(mr X ns k S)) (fun ((k,S,L):Nat×aI×HL)=>ns.length - k) (fun ((k,S,L):Nat×aI×HL)=>(LF b1 b7 A ns c k)) (fun ((k,S,L):Nat×aI×HL)=>(wW b1 A ns c b7 m3 t4 S L R)) (0,(gV X),L) (idx:=[2,6,47,48,49]) (pk:=[2,5,4,0,6,7,8,1]) (show (0<=ns.length)/\(mr X ns 0 ((gV X))) from ⟨Nat.zero_le _,Lf hcap⟩) (fun _=>by kernel_rfl) rfl (by kernel_rfl) ?_
 rintro⟨k,S,L⟩ ⟨hk,hB⟩
 show af _ _ _ _ (LF b1 b7 A ns c k) (wW b1 A ns c b7 m3 t4 S L R) _
 refine SR (gK 1 [(50,.bool (decide ((((k:Nat):Int):Int) < (((ns.length:Nat):Int):Int))))] [] ?_)
 refine NN (af.seq (af.bg (p:=(((k:Nat):Int):Int) < (((ns.length:Nat):Int):Int)) (fun _=>by kernel_rfl) (fun h50=>?_) (fun h50=>?_)))
 ·have hk2:k < ns.length:=by omega
  have hdk:=hd k hk2
  have hds:=Ea (fun i hi=>(hd i hi).1) hk
  have Ni:=hok.ids k hk2
  have hni:=hB.new hok hk2
  have qm:(Lit.int .i64 (nd ns k).id).wf=true:=WalkArith.wf_i64 (by omega)
  have hkk:=(hok.node k hk2).kind
  have dN:S.X.used=(sV ns k:Int):=by rw [hB.cap]
  have hil:=hB.inv.len
  refine af.skip (NX (af.seq (af.block (SR ?_))))
  refine gN 4 (fun b8=>[(8,vP b8)]) (fun b8=>[(0,p_ ⟨[],some k,none,some ⟨(aq A),ak A,none⟩,none⟩ [((k:Nat):Int)=((k:Nat):Int),k < ns.length,(⟨(aq A),ak A,none⟩:Addr).spot=none,(A:Option Addr)=some ⟨(aq A),ak A,none⟩] ⟨rfl,by omega,rfl,ay.hd hG (i:=k) (by omega),trivial⟩),(1,p_ ⟨[.old (.int .i64 ((nd ns k).id)),.old (.int .i64 ((nd ns k).kind)),.old (.int .i64 ((nd ns k).mode)),.old (.int .i64 ((nd ns k).uid)),.old (.int .i64 ((nd ns k).gid)),.old (.int .i64 ((nd ns k).sec)),.old (.int .i64 ((nd ns k).nano)),.old (.slice (Y.dA k) ((nd ns k).data.length) ((Y.dC k))),.old (.string (nd ns k).target),.old (.slice (Y.eA k) ((nd ns k).ah.length) ((Y.eC k)))],none,none,none,none⟩ [(Rd β ⟨(aq A),ak A+k * 10+9,none⟩ (.slice (Y.eA k) ((nd ns k).ah.length) ((Y.eC k)))),(Rd β ⟨(aq A),ak A+k * 10+8,none⟩ (.string (nd ns k).target)),(Rd β ⟨(aq A),ak A+k * 10+7,none⟩ (.slice (Y.dA k) ((nd ns k).data.length) ((Y.dC k)))),(Rd β ⟨(aq A),ak A+k * 10+6,none⟩ (.int .i64 ((nd ns k).nano))),(Rd β ⟨(aq A),ak A+k * 10+5,none⟩ (.int .i64 ((nd ns k).sec))),(Rd β ⟨(aq A),ak A+k * 10+4,none⟩ (.int .i64 ((nd ns k).gid))),(Rd β ⟨(aq A),ak A+k * 10+3,none⟩ (.int .i64 ((nd ns k).uid))),(Rd β ⟨(aq A),ak A+k * 10+2,none⟩ (.int .i64 ((nd ns k).mode))),(Rd β ⟨(aq A),ak A+k * 10+1,none⟩ (.int .i64 ((nd ns k).kind))),(Rd β ⟨(aq A),ak A+k * 10,none⟩ (.int .i64 ((nd ns k).id)))] ⟨ay.rd hG (i:=k) (by omega) (j:=9) rfl,ay.rd hG (i:=k) (by omega) (j:=8) rfl,ay.rd hG (i:=k) (by omega) (j:=7) rfl,ay.rd hG (i:=k) (by omega) (j:=6) rfl,ay.rd hG (i:=k) (by omega) (j:=5) rfl,ay.rd hG (i:=k) (by omega) (j:=4) rfl,ay.rd hG (i:=k) (by omega) (j:=3) rfl,ay.rd hG (i:=k) (by omega) (j:=2) rfl,ay.rd hG (i:=k) (by omega) (j:=1) rfl,ay.rd hG (i:=k) (by omega) (j:=0) rfl,trivial⟩),(3,A_ 8 b8 10)]) (fun _=>[]) (fun b8=>.blk b8 [vI ((nd ns k).id),vI ((nd ns k).kind),vI ((nd ns k).mode),vI ((nd ns k).uid),vI ((nd ns k).gid),vI ((nd ns k).sec),vI ((nd ns k).nano),.slice (Y.dA k) ((nd ns k).data.length) ((Y.dC k)),.string (nd ns k).target,.slice (Y.eA k) ((nd ns k).ah.length) ((Y.eC k))] 70) (fun b8=>?_)
  refine NS (gN 13 (fun b9=>[(9,vP b9)]) (fun b9=>[(1,a_ 8 b8),(3,a_ 8 b8),(5,a_ 8 b8),(7,a_ 8 b8),(9,A_ 8 b8 2),(12,A_ 9 b9 9)]) (fun _=>[]) (fun b9=>.blk b9 [vI ((nd ns k).id),vI ((nd ns k).mode),vI ((nd ns k).uid),vI ((nd ns k).gid),vI ((nd ns k).sec),vI ((nd ns k).nano),vI 0,vI 0,.bool false] 128) (fun b9=>?_))
  refine NN (af.seq (SR (gK 2 [(65,vI ((nd ns k).kind))] [(1,a_ 8 b8)] ?_)))
  refine NN (af.block (SR ?_))
  refine gK 2 [(77,.bool (decide (((nd ns k).kind:Int)=(1:Int))))] [] ?_
  refine NN (af.bg (p:=((nd ns k).kind:Int)=(1:Int)) (fun _=>by kernel_rfl) (fun hk1=>?_) (fun hk1=>?_))
  ·refine af.bT (S:=[pF b7 m3 t4 S.X,rL b8 ns k Y,zO b9 ns k]) [0,1,2,3,4,5,6,7,8,9,10,11,12,13] 9 [1,8,9] (by kernel_rfl) (by kernel_rfl) rfl (by kernel_rfl) ?_
   refine gR 0 [9,10,11,12,13] (NG b1 b7 b8 A ns c k++[(82,.map (some m3)),(84,vI ((nd ns k).id)),(85,.agg #[vI ((nd ns k).id),vI ((nd ns k).mode),vI ((nd ns k).uid),vI ((nd ns k).gid),vI ((nd ns k).sec),vI ((nd ns k).nano),vI 0,vI 0,.bool false]),(87,.slice (Y.dA k) ((nd ns k).data.length) ((Y.dC k)))]) [0,1,2,3,4,5,6,7,8] [(3,a_ 0 b7),(5,a_ 1 b8),(6,A_ 2 b9 9),(8,a_ 1 b8)] ?_
   refine mL [2,9,10] [] (uz (Y.dA k) (Y.dC k) (nd ns k).data (hG.data k (by omega)) (by have:=(hd k (by omega)).1;omega)) ?_ (by rintro _ _ ⟨pq,c11,rfl,rfl⟩;rfl)
   rintro _ _ ⟨pq,c11,rfl,rfl⟩
   refine aQ.cut (ι:=Unit) (fr':=fun (_:Unit)=>(Iq b1 b7 b8 A ns c k++[(82,.map (some m3)),(84,vI ((nd ns k).id)),(89,.agg #[vI ((nd ns k).id),vI ((nd ns k).mode),vI ((nd ns k).uid),vI ((nd ns k).gid),vI ((nd ns k).sec),vI ((nd ns k).nano),vI 0,vI 0,.bool false,.slice pq ((nd ns k).data.length) (c11)])])) (hp':=fun (_:Unit)=>([.abs (av 5 1 pq ((nd ns k).data.length) c11 (bZ (nd ns k).data))]++wW b1 A ns c b7 m3 t4 S L R++[rL b8 ns k Y,zO b9 ns k])) [2,9,10] rfl rfl ?_ rfl (fun _=>by kernel_rfl) ?_
   ·refine gK 1 [(89,.agg #[vI ((nd ns k).id),vI ((nd ns k).mode),vI ((nd ns k).uid),vI ((nd ns k).gid),vI ((nd ns k).sec),vI ((nd ns k).nano),vI 0,vI 0,.bool false,.slice pq ((nd ns k).data.length) (c11)])] [] ?_
    refine NL ?_
    exact MD () [2,6,8,47,48,49,82,84,89] [0,1,2,3,4,5,6,7,8,9,10]
   rintro _
   refine mN [2,9,10] (fun b12=>[(90,vP b12)]) (fun _=>[]) (fun b12=>.blk b12 [vI ((nd ns k).id),vI ((nd ns k).mode),vI ((nd ns k).uid),vI ((nd ns k).gid),vI ((nd ns k).sec),vI ((nd ns k).nano),vI 0,vI 0,.bool false,.slice pq ((nd ns k).data.length) (c11)] 131) (fun b12=>?_)
   refine aQ.cut (ι:=Unit) (fr':=fun (_:Unit)=>(Iq b1 b7 b8 A ns c k++[(82,.map (some m3)),(84,vI ((nd ns k).id)),(91,.iface 129 (vP b12))])) (hp':=fun (_:Unit)=>([.abs (av 5 1 pq ((nd ns k).data.length) c11 (bZ (nd ns k).data))]++wW b1 A ns c b7 m3 t4 S L R++[rL b8 ns k Y,zO b9 ns k,.blk b12 [vI ((nd ns k).id),vI ((nd ns k).mode),vI ((nd ns k).uid),vI ((nd ns k).gid),vI ((nd ns k).sec),vI ((nd ns k).nano),vI 0,vI 0,.bool false,.slice pq ((nd ns k).data.length) (c11)] 131])) [2,9,10] rfl rfl ?_ rfl (fun _=>by kernel_rfl) ?_
   ·refine gK 1 [(91,.iface 129 (vP b12))] [] ?_
    refine NL ?_
    exact MD () [2,6,8,47,48,49,82,84,91] [0,1,2,3,4,5,6,7,8,9,10,11]
   rintro _
   refine aQ.last rfl rfl ?_
   obtain⟨L2,hL2⟩:∃ L2:HL,L2=L.put (eG (nd ns k)) b12 0 pq c11:=⟨_,rfl⟩
   have hfr:=hB.fresh hok (by omega)
   refine aj.mem (fun w hS=>hS.tP hL2 hfr (o:=(oO (nd ns k))) (i:=5) (j:=11) (ix:=[0,1,2,3,4,6,7,8,9,10]) rfl rfl (by kernel_rfl) rfl (by show (nd ns k).kind≠0;rw [hk1];decide) ((gY (L:=L2) (k:=(eG (nd ns k))) (o:=(oO (nd ns k))) hk1).trans (by rw [show L2.dA (eG (nd ns k))=pq by rw [hL2];exact if_pos rfl,show L2.dC (eG (nd ns k))=c11 by rw [hL2];exact if_pos rfl];rfl)) (by show ko (nd ns k).kind=_;rw [hk1]<;>rfl)) ?_
   refine aj.dG [(7,.abs (ax (cF ((cJ S (nd ns k)).O) L2)))] (fun w hS=>hS.uU hL2 hfr (o:=(oO (nd ns k))) (i:=7) rfl (by show ¬ (nd ns k).kind=2;rw [hk1];decide)) ?_
   refine aj.mem (cR:=[pD ((cJ S (nd ns k)).O) L2,pO ((cJ S (nd ns k)).O) L2,qW b1 A ns c,pF b7 m3 t4 S.X,pI m3 L S.idx,j7 t4 S L,pE ((cJ S (nd ns k)).O) L2,.abs R,rL b8 ns k Y,zO b9 ns k]) (fun w hS=>hS.SQ hL2 (o:=(oO (nd ns k))) (i:=6) (j:=1) (ix:=[0,2,3,4,5,7,8,9,10]) rfl rfl (by kernel_rfl) rfl hk1) ?_
   refine aj.dG [(4,.abs (aN Tryz.prog 3 m3 (bp (bq L2 S.idx)) S.idx.length)),(5,.abs (cV 197 t4 S.X.cH S.aD (bq L2 S.us)))] (fun w hS=>by rw [gH hL2 hfr.idx,gH hL2 hfr.us];exact hS) ?_
   have Gp:dQ L2 (nP (nd ns k))=.iface 129 (vP b12):=by unfold nP;rw [oJ hL2,hk1];rfl
   refine aj.kG 4 (d:=none) (t:=120) (K:=3) (E:=124) (b:=m3) (n:=S.idx.length) (f:=(bp (bq L2 S.idx))) (x:=(.tmp 82)) (ix:=(.tmp 84)) (y:=(.tmp 91)) (key:=.int .i64 ((nd ns k).id)) (u:=.iface 129 (vP b12)) (kl:=(.int .i64 (nd ns k).id)) (n':=(S.idx.length+1)) (f':=(bp (bq L2 (ins (nd ns k).id (nP (nd ns k)) S.idx)))) (fun _=>by kernel_rfl) (by kernel_rfl) (fun _=>by kernel_rfl) (fun _=>by kernel_rfl) (fun _=>by kernel_rfl) d6 Tryz.underlying120 (by unfold maxLen;omega) (gX qm) (by rw [fw,hni];rfl) (by rw [← Gp];exact sx hni) ?_
   refine NL (ai.np (ai.aJ (NX (SR ?_))))
   refine gC 6 [] [(2,a_ 8 b8),(5,a_ 3 b7)] [(3,[(7,vI ((nd ns k).id))])] ?_
   refine NN (af.bT (S:=[pF b7 m3 t4 { S.X with last:=(nd ns k).id },rL b8 ns k Y]) [0,1,2,3,4,5,6,7,8,9,10] 10 [3,8] (by kernel_rfl) (by kernel_rfl) rfl (by kernel_rfl) ?_)
   refine gR 0 [10] (LF b1 b7 A ns c k++NH S ns k b7) [0,1,2,3,4,5,6,7,8,9] [(3,a_ 0 b7),(5,a_ 1 b8),(7,p_ ⟨[],none,none,none,some (vI (S.X.used+(((nd ns k).data.length:Nat):Int)))⟩ [(Value.int .i64 (IntKind.wrap .i64 (S.X.used+(((nd ns k).data.length:Nat):Int))))=(.int .i64 (S.X.used+(((nd ns k).data.length:Nat):Int)))] ⟨bA (by omega) (by omega) (by omega),trivial⟩)] ?_
   refine aQ.last rfl rfl ?_
   refine gC 1 [] [(0,a_ 3 b7)] [(3,[(9,vI (S.X.used+(((nd ns k).data.length:Nat):Int)))])] ?_
   refine NL (ai.np (ai.aJ (NX (af.region ?_))))
   refine gK 2 [(49,vI ↑(k+1))] [(0,p_ ⟨[],none,none,none,some (vI ↑(k+1))⟩ [(Value.int .i64 (IntKind.wrap .i64 (((k:Nat):Int)+1)))=(.int .i64 ↑(k+1))] ⟨bA (by omega) (by omega) (by omega),trivial⟩)] ?_
   refine NL (ai.dG [(3,.blk b7 [vI ((cJ S (nd ns k)).X.cN),vI ((cJ S (nd ns k)).X.cB),vI ((cJ S (nd ns k)).X.cH),vI ((cJ S (nd ns k)).X.cS),vI ((cJ S (nd ns k)).X.cZ),.map (some m3),vP t4,vI ((cJ S (nd ns k)).X.last),vI ((cJ S (nd ns k)).X.ah),vI ((cJ S (nd ns k)).X.used)] 126),(4,.abs (aN Tryz.prog 3 m3 (bp (bq L2 (cJ S (nd ns k)).idx)) ((cJ S (nd ns k)).idx.length))),(5,.abs (cV 197 t4 (cJ S (nd ns k)).X.cH (cJ S (nd ns k)).aD (bq L2 (cJ S (nd ns k)).us)))] (fun w hS=>by rw [show (cJ S (nd ns k)).idx.length=S.idx.length+1 from iP _ _ _];exact hS) ?_)
   exact ai.turn ((k+1),(cJ S (nd ns k)),L2) (idx:=[2,6,47,48,49]) (pk:=[2,3,4,5,1,0,6,7]) (show (((k+1))<=ns.length)/\(mr X ns ((k+1)) ((cJ S (nd ns k)))) from ⟨by omega,x9 hok (fun i hi=>(hd i hi).1) (by omega) hB⟩) (by show ns.length - ((k+1)) < ns.length - k;omega) (fun _=>by kernel_rfl) rfl (by kernel_rfl)
  refine SR (gK 2 [(92,.bool (decide (((nd ns k).kind:Int)=(3:Int))))] [] ?_)
  refine NN (af.bg (p:=((nd ns k).kind:Int)=(3:Int)) (fun _=>by kernel_rfl) (fun hk3=>?_) (fun hk3=>?_))
  ·refine af.bT (S:=[pF b7 m3 t4 S.X,rL b8 ns k Y,zO b9 ns k]) [0,1,2,3,4,5,6,7,8,9,10,11,12] 10 [1,8,9] (by kernel_rfl) (by kernel_rfl) rfl (by kernel_rfl) ?_
   refine gR 0 [10,11,12] (NG b1 b7 b8 A ns c k++[(97,.map (some m3)),(99,vI ((nd ns k).id)),(103,.agg #[vI ((nd ns k).id),vI ((nd ns k).mode),vI ((nd ns k).uid),vI ((nd ns k).gid),vI ((nd ns k).sec),vI ((nd ns k).nano),vI 0,vI 0,.bool false,.string (nd ns k).target])]) [0,1,2,3,4,5,6,7,8,9] [(3,a_ 0 b7),(5,a_ 1 b8),(6,A_ 2 b9 9),(8,a_ 1 b8)] ?_
   refine mN [1,8,9] (fun b13=>[(104,vP b13)]) (fun _=>[]) (fun b13=>.blk b13 [vI ((nd ns k).id),vI ((nd ns k).mode),vI ((nd ns k).uid),vI ((nd ns k).gid),vI ((nd ns k).sec),vI ((nd ns k).nano),vI 0,vI 0,.bool false,.string (nd ns k).target] 134) (fun b13=>?_)
   refine aQ.cut (ι:=Unit) (fr':=fun (_:Unit)=>(Iq b1 b7 b8 A ns c k++[(97,.map (some m3)),(99,vI ((nd ns k).id)),(105,.iface 132 (vP b13))])) (hp':=fun (_:Unit)=>(wW b1 A ns c b7 m3 t4 S L R++[rL b8 ns k Y,zO b9 ns k,.blk b13 [vI ((nd ns k).id),vI ((nd ns k).mode),vI ((nd ns k).uid),vI ((nd ns k).gid),vI ((nd ns k).sec),vI ((nd ns k).nano),vI 0,vI 0,.bool false,.string (nd ns k).target] 134])) [1,8,9] rfl rfl ?_ rfl (fun _=>by kernel_rfl) ?_
   ·refine gK 1 [(105,.iface 132 (vP b13))] [] ?_
    refine NL ?_
    exact MD () [2,6,8,47,48,49,97,99,105] [0,1,2,3,4,5,6,7,8,9,10]
   rintro _
   refine aQ.last rfl rfl ?_
   obtain⟨L2,hL2⟩:∃ L2:HL,L2=L.put (eG (nd ns k)) b13 0 none 0:=⟨_,rfl⟩
   have hfr:=hB.fresh hok (by omega)
   refine aj.mem (fun w hS=>hS.tP hL2 hfr (o:=(oO (nd ns k))) (i:=4) (j:=10) (ix:=[0,1,2,3,5,6,7,8,9]) rfl rfl (by kernel_rfl) rfl (by show (nd ns k).kind≠0;rw [hk3];decide) ((xH (L:=L2) (k:=(eG (nd ns k))) (o:=(oO (nd ns k))) hk3).trans (by rfl)) (by show ko (nd ns k).kind=_;rw [hk3]<;>rfl)) ?_
   refine aj.dG [(6,.abs (ax (cF ((cJ S (nd ns k)).O) L2)))] (fun w hS=>hS.uU hL2 hfr (o:=(oO (nd ns k))) (i:=6) rfl (by show ¬ (nd ns k).kind=2;rw [hk3];decide)) ?_
   refine aj.dG [(5,.abs (ax (bN ((cJ S (nd ns k)).O) L2)))] (fun w hS=>hS.BR hL2 (o:=(oO (nd ns k))) (i:=5) rfl (by show ¬ (nd ns k).kind=1;rw [hk3];decide)) ?_
   refine aj.dG [(3,.abs (aN Tryz.prog 3 m3 (bp (bq L2 S.idx)) S.idx.length)),(4,.abs (cV 197 t4 S.X.cH S.aD (bq L2 S.us)))] (fun w hS=>by rw [gH hL2 hfr.idx,gH hL2 hfr.us];exact hS) ?_
   have Gp:dQ L2 (nP (nd ns k))=.iface 132 (vP b13):=by unfold nP;rw [oJ hL2,hk3];rfl
   refine aj.kG 3 (d:=none) (t:=120) (K:=3) (E:=124) (b:=m3) (n:=S.idx.length) (f:=(bp (bq L2 S.idx))) (x:=(.tmp 97)) (ix:=(.tmp 99)) (y:=(.tmp 105)) (key:=.int .i64 ((nd ns k).id)) (u:=.iface 132 (vP b13)) (kl:=(.int .i64 (nd ns k).id)) (n':=(S.idx.length+1)) (f':=(bp (bq L2 (ins (nd ns k).id (nP (nd ns k)) S.idx)))) (fun _=>by kernel_rfl) (by kernel_rfl) (fun _=>by kernel_rfl) (fun _=>by kernel_rfl) (fun _=>by kernel_rfl) d6 Tryz.underlying120 (by unfold maxLen;omega) (gX qm) (by rw [fw,hni];rfl) (by rw [← Gp];exact sx hni) ?_
   refine NL (ai.np (ai.aJ (NX (SR ?_))))
   refine gC 6 [] [(2,a_ 8 b8),(5,a_ 2 b7)] [(2,[(7,vI ((nd ns k).id))])] ?_
   refine NN (af.bT (S:=[pF b7 m3 t4 { S.X with last:=(nd ns k).id },rL b8 ns k Y]) [0,1,2,3,4,5,6,7,8,9,10] 10 [2,8] (by kernel_rfl) (by kernel_rfl) rfl (by kernel_rfl) ?_)
   refine gR 0 [10] (LF b1 b7 A ns c k++NH S ns k b7) [0,1,2,3,4,5,6,7,8,9] [(3,a_ 0 b7),(5,a_ 1 b8),(7,p_ ⟨[],none,none,none,some (vI (S.X.used+(((nd ns k).data.length:Nat):Int)))⟩ [(Value.int .i64 (IntKind.wrap .i64 (S.X.used+(((nd ns k).data.length:Nat):Int))))=(.int .i64 (S.X.used+(((nd ns k).data.length:Nat):Int)))] ⟨bA (by omega) (by omega) (by omega),trivial⟩)] ?_
   refine aQ.last rfl rfl ?_
   refine gC 1 [] [(0,a_ 2 b7)] [(2,[(9,vI (S.X.used+(((nd ns k).data.length:Nat):Int)))])] ?_
   refine NL (ai.np (ai.aJ (NX (af.region ?_))))
   refine gK 2 [(49,vI ↑(k+1))] [(0,p_ ⟨[],none,none,none,some (vI ↑(k+1))⟩ [(Value.int .i64 (IntKind.wrap .i64 (((k:Nat):Int)+1)))=(.int .i64 ↑(k+1))] ⟨bA (by omega) (by omega) (by omega),trivial⟩)] ?_
   refine NL (ai.dG [(2,.blk b7 [vI ((cJ S (nd ns k)).X.cN),vI ((cJ S (nd ns k)).X.cB),vI ((cJ S (nd ns k)).X.cH),vI ((cJ S (nd ns k)).X.cS),vI ((cJ S (nd ns k)).X.cZ),.map (some m3),vP t4,vI ((cJ S (nd ns k)).X.last),vI ((cJ S (nd ns k)).X.ah),vI ((cJ S (nd ns k)).X.used)] 126),(3,.abs (aN Tryz.prog 3 m3 (bp (bq L2 (cJ S (nd ns k)).idx)) ((cJ S (nd ns k)).idx.length))),(4,.abs (cV 197 t4 (cJ S (nd ns k)).X.cH (cJ S (nd ns k)).aD (bq L2 (cJ S (nd ns k)).us)))] (fun w hS=>by rw [show (cJ S (nd ns k)).idx.length=S.idx.length+1 from iP _ _ _];exact hS) ?_)
   exact ai.turn ((k+1),(cJ S (nd ns k)),L2) (idx:=[2,6,47,48,49]) (pk:=[1,2,3,4,0,5,6,7]) (show (((k+1))<=ns.length)/\(mr X ns ((k+1)) ((cJ S (nd ns k)))) from ⟨by omega,x9 hok (fun i hi=>(hd i hi).1) (by omega) hB⟩) (by show ns.length - ((k+1)) < ns.length - k;omega) (fun _=>by kernel_rfl) rfl (by kernel_rfl)
  have mM:(nd ns k).kind=2:=by omega
  refine af.bT (S:=[pF b7 m3 t4 S.X,rL b8 ns k Y,zO b9 ns k]) [0,1,2,3,4,5,6,7,8,9,10,11] 7 [1,8,9] (by kernel_rfl) (by kernel_rfl) rfl (by kernel_rfl) ?_
  refine gR 0 [7,8,9,10,11] (NG b1 b7 b8 A ns c k++[(69,.map (some m3)),(71,vI ((nd ns k).id)),(72,.agg #[vI ((nd ns k).id),vI ((nd ns k).mode),vI ((nd ns k).uid),vI ((nd ns k).gid),vI ((nd ns k).sec),vI ((nd ns k).nano),vI 0,vI 0,.bool false])]) [0,1,2,3,4,5,6] [(3,a_ 0 b7),(5,a_ 1 b8),(6,A_ 2 b9 9)] ?_
  refine aQ.cut (ι:=Nat) (fr':=fun (m14:Nat)=>(Iq b1 b7 b8 A ns c k++[(69,.map (some m3)),(71,vI ((nd ns k).id)),(72,.agg #[vI ((nd ns k).id),vI ((nd ns k).mode),vI ((nd ns k).uid),vI ((nd ns k).gid),vI ((nd ns k).sec),vI ((nd ns k).nano),vI 0,vI 0,.bool false]),(73,.map (some m14))])) (hp':=fun (m14:Nat)=>(wW b1 A ns c b7 m3 t4 S L R++[rL b8 ns k Y,zO b9 ns k,.abs (aN Tryz.prog 9 m14 (fun _=>none) 0)])) [1,8,9] rfl rfl ?_ rfl (fun _=>by kernel_rfl) ?_
  ·refine aj.lT (d:=(some 73)) (t:=136) (fun _=>by kernel_rfl) Tryz.prog rfl 9 (fun m14=>?_)
   refine NL ?_
   exact MD m14 [2,6,8,47,48,49,69,71,72,73] [0,1,2,3,4,5,6,7,8,9,10]
  rintro m14
  refine aQ.cut (ι:=Unit) (fr':=fun (_:Unit)=>(Iq b1 b7 b8 A ns c k++[(69,.map (some m3)),(71,vI ((nd ns k).id)),(74,.agg #[vI ((nd ns k).id),vI ((nd ns k).mode),vI ((nd ns k).uid),vI ((nd ns k).gid),vI ((nd ns k).sec),vI ((nd ns k).nano),vI 0,vI 0,.bool false,.map (some m14),.pointer none])])) (hp':=fun (_:Unit)=>(wW b1 A ns c b7 m3 t4 S L R++[rL b8 ns k Y,zO b9 ns k,.abs (aN Tryz.prog 9 m14 (fun _=>none) 0)])) [1,8,9] rfl rfl ?_ rfl (fun _=>by kernel_rfl) ?_
  ·refine gK 1 [(74,.agg #[vI ((nd ns k).id),vI ((nd ns k).mode),vI ((nd ns k).uid),vI ((nd ns k).gid),vI ((nd ns k).sec),vI ((nd ns k).nano),vI 0,vI 0,.bool false,.map (some m14),.pointer none])] [] ?_
   refine NL ?_
   exact MD () [2,6,8,47,48,49,69,71,74] [0,1,2,3,4,5,6,7,8,9,10]
  rintro _
  refine mN [1,8,9] (fun b15=>[(75,vP b15)]) (fun _=>[]) (fun b15=>.blk b15 [vI ((nd ns k).id),vI ((nd ns k).mode),vI ((nd ns k).uid),vI ((nd ns k).gid),vI ((nd ns k).sec),vI ((nd ns k).nano),vI 0,vI 0,.bool false,.map (some m14),.pointer none] 138) (fun b15=>?_)
  refine aQ.cut (ι:=Unit) (fr':=fun (_:Unit)=>(Iq b1 b7 b8 A ns c k++[(69,.map (some m3)),(71,vI ((nd ns k).id)),(76,.iface 135 (vP b15))])) (hp':=fun (_:Unit)=>(wW b1 A ns c b7 m3 t4 S L R++[rL b8 ns k Y,zO b9 ns k,.abs (aN Tryz.prog 9 m14 (fun _=>none) 0),.blk b15 [vI ((nd ns k).id),vI ((nd ns k).mode),vI ((nd ns k).uid),vI ((nd ns k).gid),vI ((nd ns k).sec),vI ((nd ns k).nano),vI 0,vI 0,.bool false,.map (some m14),.pointer none] 138])) [1,8,9] rfl rfl ?_ rfl (fun _=>by kernel_rfl) ?_
  ·refine gK 1 [(76,.iface 135 (vP b15))] [] ?_
   refine NL ?_
   exact MD () [2,6,8,47,48,49,69,71,76] [0,1,2,3,4,5,6,7,8,9,10,11]
  rintro _
  refine aQ.last rfl rfl ?_
  obtain⟨L2,hL2⟩:∃ L2:HL,L2=L.put (eG (nd ns k)) b15 m14 none 0:=⟨_,rfl⟩
  have hfr:=hB.fresh hok (by omega)
  refine aj.mem (fun w hS=>hS.tP hL2 hfr (o:=(oO (nd ns k))) (i:=4) (j:=11) (ix:=[0,1,2,3,5,6,7,8,9,10]) rfl rfl (by kernel_rfl) rfl (by show (nd ns k).kind≠0;rw [mM];decide) ((lp (L:=L2) (k:=(eG (nd ns k))) (o:=(oO (nd ns k))) mM).trans (by rw [Fz hL2];rfl)) (by show ko (nd ns k).kind=_;rw [mM]<;>rfl)) ?_
  refine aj.mem (fun w hS=>hS.Ox hL2 hfr (o:=(oO (nd ns k))) (i:=6) (j:=10) (ix:=[0,1,2,3,4,5,7,8,9]) rfl rfl (by kernel_rfl) rfl mM rfl) ?_
  refine aj.dG [(6,.abs (ax (bN ((cJ S (nd ns k)).O) L2)))] (fun w hS=>hS.BR hL2 (o:=(oO (nd ns k))) (i:=6) rfl (by show ¬ (nd ns k).kind=1;rw [mM];decide)) ?_
  refine aj.dG [(4,.abs (aN Tryz.prog 3 m3 (bp (bq L2 S.idx)) S.idx.length)),(5,.abs (cV 197 t4 S.X.cH S.aD (bq L2 S.us)))] (fun w hS=>by rw [gH hL2 hfr.idx,gH hL2 hfr.us];exact hS) ?_
  have Gp:dQ L2 (nP (nd ns k))=.iface 135 (vP b15):=by unfold nP;rw [oJ hL2,mM];rfl
  refine aj.kG 4 (d:=none) (t:=120) (K:=3) (E:=124) (b:=m3) (n:=S.idx.length) (f:=(bp (bq L2 S.idx))) (x:=(.tmp 69)) (ix:=(.tmp 71)) (y:=(.tmp 76)) (key:=.int .i64 ((nd ns k).id)) (u:=.iface 135 (vP b15)) (kl:=(.int .i64 (nd ns k).id)) (n':=(S.idx.length+1)) (f':=(bp (bq L2 (ins (nd ns k).id (nP (nd ns k)) S.idx)))) (fun _=>by kernel_rfl) (by kernel_rfl) (fun _=>by kernel_rfl) (fun _=>by kernel_rfl) (fun _=>by kernel_rfl) d6 Tryz.underlying120 (by unfold maxLen;omega) (gX qm) (by rw [fw,hni];rfl) (by rw [← Gp];exact sx hni) ?_
  refine NL (ai.np (ai.aJ (NX (SR ?_))))
  refine gC 6 [] [(2,a_ 8 b8),(5,a_ 3 b7)] [(3,[(7,vI ((nd ns k).id))])] ?_
  refine NN (af.bT (S:=[pF b7 m3 t4 { S.X with last:=(nd ns k).id },rL b8 ns k Y]) [0,1,2,3,4,5,6,7,8,9,10] 10 [3,8] (by kernel_rfl) (by kernel_rfl) rfl (by kernel_rfl) ?_)
  refine gR 0 [10] (LF b1 b7 A ns c k++NH S ns k b7) [0,1,2,3,4,5,6,7,8,9] [(3,a_ 0 b7),(5,a_ 1 b8),(7,p_ ⟨[],none,none,none,some (vI (S.X.used+(((nd ns k).data.length:Nat):Int)))⟩ [(Value.int .i64 (IntKind.wrap .i64 (S.X.used+(((nd ns k).data.length:Nat):Int))))=(.int .i64 (S.X.used+(((nd ns k).data.length:Nat):Int)))] ⟨bA (by omega) (by omega) (by omega),trivial⟩)] ?_
  refine aQ.last rfl rfl ?_
  refine gC 1 [] [(0,a_ 3 b7)] [(3,[(9,vI (S.X.used+(((nd ns k).data.length:Nat):Int)))])] ?_
  refine NL (ai.np (ai.aJ (NX (af.region ?_))))
  refine gK 2 [(49,vI ↑(k+1))] [(0,p_ ⟨[],none,none,none,some (vI ↑(k+1))⟩ [(Value.int .i64 (IntKind.wrap .i64 (((k:Nat):Int)+1)))=(.int .i64 ↑(k+1))] ⟨bA (by omega) (by omega) (by omega),trivial⟩)] ?_
  refine NL (ai.dG [(3,.blk b7 [vI ((cJ S (nd ns k)).X.cN),vI ((cJ S (nd ns k)).X.cB),vI ((cJ S (nd ns k)).X.cH),vI ((cJ S (nd ns k)).X.cS),vI ((cJ S (nd ns k)).X.cZ),.map (some m3),vP t4,vI ((cJ S (nd ns k)).X.last),vI ((cJ S (nd ns k)).X.ah),vI ((cJ S (nd ns k)).X.used)] 126),(4,.abs (aN Tryz.prog 3 m3 (bp (bq L2 (cJ S (nd ns k)).idx)) ((cJ S (nd ns k)).idx.length))),(5,.abs (cV 197 t4 (cJ S (nd ns k)).X.cH (cJ S (nd ns k)).aD (bq L2 (cJ S (nd ns k)).us)))] (fun w hS=>by rw [show (cJ S (nd ns k)).idx.length=S.idx.length+1 from iP _ _ _];exact hS) ?_)
  exact ai.turn ((k+1),(cJ S (nd ns k)),L2) (idx:=[2,6,47,48,49]) (pk:=[2,3,4,5,1,6,0,7]) (show (((k+1))<=ns.length)/\(mr X ns ((k+1)) ((cJ S (nd ns k)))) from ⟨by omega,x9 hok (fun i hi=>(hd i hi).1) (by omega) hB⟩) (by show ns.length - ((k+1)) < ns.length - k;omega) (fun _=>by kernel_rfl) rfl (by kernel_rfl)
 refine af.exit (ai.aU (ai.aU (ai.cM (NX (af.seq (SR ?_))))))
 refine gK 4 [(123,.slice A (ns.length) (c)),(124,vI ↑ns.length),(125,vI 0)] [(1,a_ 0 b1)] ?_
 refine NN (af.block ?_)
 refine af.loop (ι:=Nat×aI) (fun ((i,S1):Nat×aI)=>(i<=ns.length)/\(fH X ns i 0 S1)) (fun ((i,S1):Nat×aI)=>ns.length - i) (fun ((i,S1):Nat×aI)=>[(6,vP b7),(123,.slice A (ns.length) (c)),(124,vI ↑ns.length),(125,vI ↑i)]) (fun ((i,S1):Nat×aI)=>(wW b1 A ns c b7 m3 t4 S1 L R)) (0,S) (idx:=[6,123,124,125]) (pk:=[0,1,2,3,4,5,6,7]) (show (0<=ns.length)/\(fH X ns 0 0 S) from ⟨Nat.zero_le _,by have h:=hB;rw [show k=ns.length by omega] at h;exact h.ah⟩) (fun _=>by kernel_rfl) rfl (by kernel_rfl) ?_
 rintro⟨i,S1⟩ ⟨hi,hE⟩
 show af _ _ _ _ [(6,vP b7),(123,.slice A (ns.length) (c)),(124,vI ↑ns.length),(125,vI ↑i)] (wW b1 A ns c b7 m3 t4 S1 L R) _
 refine SR (gK 1 [(126,.bool (decide ((((i:Nat):Int):Int) < (((ns.length:Nat):Int):Int))))] [] ?_)
 refine NN (af.seq (af.bg (p:=(((i:Nat):Int):Int) < (((ns.length:Nat):Int):Int)) (fun _=>by kernel_rfl) (fun UW=>?_) (fun UW=>?_)))
 ·refine af.skip (NX (af.seq (af.block (SR ?_))))
  refine gN 4 (fun b16=>[(11,vP b16)]) (fun b16=>[(0,p_ ⟨[],some i,none,some ⟨(aq A),ak A,none⟩,none⟩ [((i:Nat):Int)=((i:Nat):Int),i < ns.length,(⟨(aq A),ak A,none⟩:Addr).spot=none,(A:Option Addr)=some ⟨(aq A),ak A,none⟩] ⟨rfl,by omega,rfl,ay.hd hG (i:=i) (by omega),trivial⟩),(1,p_ ⟨[.old (.int .i64 ((nd ns i).id)),.old (.int .i64 ((nd ns i).kind)),.old (.int .i64 ((nd ns i).mode)),.old (.int .i64 ((nd ns i).uid)),.old (.int .i64 ((nd ns i).gid)),.old (.int .i64 ((nd ns i).sec)),.old (.int .i64 ((nd ns i).nano)),.old (.slice (Y.dA i) ((nd ns i).data.length) ((Y.dC i))),.old (.string (nd ns i).target),.old (.slice (Y.eA i) ((nd ns i).ah.length) ((Y.eC i)))],none,none,none,none⟩ [(Rd β ⟨(aq A),ak A+i * 10+9,none⟩ (.slice (Y.eA i) ((nd ns i).ah.length) ((Y.eC i)))),(Rd β ⟨(aq A),ak A+i * 10+8,none⟩ (.string (nd ns i).target)),(Rd β ⟨(aq A),ak A+i * 10+7,none⟩ (.slice (Y.dA i) ((nd ns i).data.length) ((Y.dC i)))),(Rd β ⟨(aq A),ak A+i * 10+6,none⟩ (.int .i64 ((nd ns i).nano))),(Rd β ⟨(aq A),ak A+i * 10+5,none⟩ (.int .i64 ((nd ns i).sec))),(Rd β ⟨(aq A),ak A+i * 10+4,none⟩ (.int .i64 ((nd ns i).gid))),(Rd β ⟨(aq A),ak A+i * 10+3,none⟩ (.int .i64 ((nd ns i).uid))),(Rd β ⟨(aq A),ak A+i * 10+2,none⟩ (.int .i64 ((nd ns i).mode))),(Rd β ⟨(aq A),ak A+i * 10+1,none⟩ (.int .i64 ((nd ns i).kind))),(Rd β ⟨(aq A),ak A+i * 10,none⟩ (.int .i64 ((nd ns i).id)))] ⟨ay.rd hG (i:=i) (by omega) (j:=9) rfl,ay.rd hG (i:=i) (by omega) (j:=8) rfl,ay.rd hG (i:=i) (by omega) (j:=7) rfl,ay.rd hG (i:=i) (by omega) (j:=6) rfl,ay.rd hG (i:=i) (by omega) (j:=5) rfl,ay.rd hG (i:=i) (by omega) (j:=4) rfl,ay.rd hG (i:=i) (by omega) (j:=3) rfl,ay.rd hG (i:=i) (by omega) (j:=2) rfl,ay.rd hG (i:=i) (by omega) (j:=1) rfl,ay.rd hG (i:=i) (by omega) (j:=0) rfl,trivial⟩),(3,A_ 8 b16 10)]) (fun _=>[]) (fun b16=>.blk b16 [vI ((nd ns i).id),vI ((nd ns i).kind),vI ((nd ns i).mode),vI ((nd ns i).uid),vI ((nd ns i).gid),vI ((nd ns i).sec),vI ((nd ns i).nano),.slice (Y.dA i) ((nd ns i).data.length) ((Y.dC i)),.string (nd ns i).target,.slice (Y.eA i) ((nd ns i).ah.length) ((Y.eC i))] 70) (fun b16=>?_)
  refine NS (gK 4 [(130,.slice (Y.eA i) ((nd ns i).ah.length) ((Y.eC i))),(131,vI ↑((nd ns i).ah.length)),(132,vI 0)] [(1,a_ 8 b16)] ?_)
  refine NN (af.block ?_)
  refine af.loop (ι:=Nat×aI) (fun ((j,S2):Nat×aI)=>(j<=(nd ns i).ah.length)/\(fH X ns i j S2)) (fun ((j,S2):Nat×aI)=>(nd ns i).ah.length - j) (fun ((j,S2):Nat×aI)=>(JW b7 b16++O3 A ns c i Y j)) (fun ((j,S2):Nat×aI)=>([rL b16 ns i Y]++wW b1 A ns c b7 m3 t4 S2 L R)) (0,S1) (idx:=[6,11,123,124,125,130,131,132]) (pk:=[8,0,1,2,3,4,5,6,7]) (show (0<=(nd ns i).ah.length)/\(fH X ns i 0 S1) from ⟨Nat.zero_le _,hE⟩) (fun _=>by kernel_rfl) rfl (by kernel_rfl) ?_
  rintro⟨j,S2⟩ ⟨hj,qG⟩
  show af _ _ _ _ (JW b7 b16++O3 A ns c i Y j) ([rL b16 ns i Y]++wW b1 A ns c b7 m3 t4 S2 L R) _
  refine SR (gK 1 [(133,.bool (decide ((((j:Nat):Int):Int) < ((((nd ns i).ah.length:Nat):Int):Int))))] [] ?_)
  refine NN (af.seq (af.bg (p:=(((j:Nat):Int):Int) < ((((nd ns i).ah.length:Nat):Int):Int)) (fun _=>by kernel_rfl) (fun NI=>?_) (fun NI=>?_)))
  ·have hj2:j < (nd ns i).ah.length:=by omega
   have hi2:i < ns.length:=by omega
   have UX:=qG.get hi2
   obtain⟨hes,hno,hk2⟩:=qG.look hok hi2 hj2
   have RJ:=vl hok hi2 hj2
   have hgi:aE.get S2.idx (nd ns i).id=some ⟨(eG (nd ns i)),2⟩:=by rw [UX];unfold nP;rw [hk2]
   have hge:aE.get S2.idx (ent ns i j).id=some (lS ns (ent ns i j)):=by rw [← RJ.2];exact qG.get RJ.1
   have Ni:=hok.ids i hi2
   have hiw:(Lit.int .i64 (nd ns i).id).wf=true:=WalkArith.wf_i64 (by omega)
   have VL:(Lit.int .i64 (ent ns i j).id).wf=true:=WalkArith.wf_i64 (by have:=hwf i hi2 j hj2;omega)
   have hld:=qG.live hok hi2
   have hlt:=qG.live hok RJ.1
   have hkd:(obj S2.O (eG (nd ns i))).kind=2:=(qG.inv.kind hld).trans hk2
   have hkt:(obj S2.O (lS ns (ent ns i j)).k).kind=(lS ns (ent ns i j)).kind:=qG.inv.kind hlt
   have h3:(lS ns (ent ns i j)).kind=1\/(lS ns (ent ns i j)).kind=2\/(lS ns (ent ns i j)).kind=3:=(qG.inv.ob _ hlt).2.2
   have hlb:0<=(obj S2.O (lS ns (ent ns i j)).k).links/\(obj S2.O (lS ns (ent ns i j)).k).links<=8192:=qG.inv.lb hlt
   have hel:(obj S2.O (eG (nd ns i))).ah.length<=8192:=qG.inv.gi hld
   have hsz:=hnm i hi2 j hj2
   have hde:=hd i hi2
   have Xh:=qG.inv.hX
   refine af.skip (NX (af.seq (af.block (SR ?_))))
   refine gN 4 (fun b17=>[(13,vP b17)]) (fun b17=>[(0,p_ ⟨[],some j,none,some ⟨(aq (Y.eA i)),ak (Y.eA i),none⟩,none⟩ [((j:Nat):Int)=((j:Nat):Int),j < (nd ns i).ah.length,(⟨(aq (Y.eA i)),ak (Y.eA i),none⟩:Addr).spot=none,((Y.eA i):Option Addr)=some ⟨(aq (Y.eA i)),ak (Y.eA i),none⟩] ⟨rfl,by omega,rfl,dY.hd (hG.ah i (by omega)) (i:=j) (by omega),trivial⟩),(1,p_ ⟨[.old (.string (en (nd ns i).ah j).name),.old (.int .i64 ((en (nd ns i).ah j).id))],none,none,none,none⟩ [(Rd β ⟨(aq (Y.eA i)),ak (Y.eA i)+j * 2+1,none⟩ (.int .i64 ((en (nd ns i).ah j).id))),(Rd β ⟨(aq (Y.eA i)),ak (Y.eA i)+j * 2,none⟩ (.string (en (nd ns i).ah j).name))] ⟨dY.rd (hG.ah i (by omega)) (i:=j) (by omega) (j:=1) rfl,dY.rd (hG.ah i (by omega)) (i:=j) (by omega) (j:=0) rfl,trivial⟩),(3,A_ 9 b17 2)]) (fun _=>[]) (fun b17=>.blk b17 [.string (en (nd ns i).ah j).name,vI ((en (nd ns i).ah j).id)] 140) (fun b17=>?_)
   refine NN (af.seq (af.bT (S:=[pF b7 m3 t4 S2.X,pI m3 L S2.idx,rL b16 ns i Y,.blk b17 [.string (en (nd ns i).ah j).name,vI ((en (nd ns i).ah j).id)] 140]) [0,1,2,3,4,5,6,7,8,9,10,11,12,13,14,15,16,17] 17 [2,3,0,9] (by kernel_rfl) (by kernel_rfl) rfl (by kernel_rfl) ?_))
   refine gR 11 [6,7,8,9,10,11,12,13,14,15,16,17] (JW b7 b16++[(13,vP b17)]++O3 A ns c i Y j++[(139,.map (some m3)),(141,vI ((nd ns i).id))]) [0,1,2,3,4,5] [(3,a_ 0 b7),(5,a_ 2 b16)] ?_
   refine aQ.eu 1 (d:=(some 142)) (t:=120) (K:=3) (E:=124) (b:=m3) (cnt:=S2.idx.length) (f:=(bp (bq L S2.idx))) (x:=(.tmp 139)) (ix:=(.tmp 141)) (key:=.int .i64 ((nd ns i).id)) (z:=.nilIface) (kl:=(.int .i64 (nd ns i).id)) (q:=(some (dQ L ⟨(eG (nd ns i)),2⟩))) (by kernel_rfl) (by kernel_rfl) (fun _=>by kernel_rfl) (fun _=>by kernel_rfl) d6 Tryz.underlying120 (fun _=>by kernel_rfl) (gX hiw) (by rw [fw,hgi];rfl) (by kernel_rfl) ?_
   refine gR 1 [16,17] (JW b7 b16++O3 A ns c i Y j++[(143,vP (L.b (eG (nd ns i)))),(145,.string (en (nd ns i).ah j).name),(149,.map (some m3)),(151,vI ((en (nd ns i).ah j).id))]) [7,8,9,10,11,12,13,14,15] [(2,a_ 3 b17),(6,a_ 0 b7),(8,a_ 3 b17)] ?_
   refine aQ.eu 1 (d:=(some 152)) (t:=120) (K:=3) (E:=124) (b:=m3) (cnt:=S2.idx.length) (f:=(bp (bq L S2.idx))) (x:=(.tmp 149)) (ix:=(.tmp 151)) (key:=.int .i64 ((en (nd ns i).ah j).id)) (z:=.nilIface) (kl:=(.int .i64 (ent ns i j).id)) (q:=(some (dQ L (lS ns (ent ns i j))))) (by kernel_rfl) (by kernel_rfl) (fun _=>by kernel_rfl) (fun _=>by kernel_rfl) d6 Tryz.underlying120 (fun _=>by kernel_rfl) (gX VL) (by rw [fw,hge];rfl) (by kernel_rfl) ?_
   refine aQ.last rfl rfl ?_
   refine gL [5,7] (Ie S2.O L (eG (nd ns i)) hkd (ent ns i j).name hsz hno (by omega) (lS ns (ent ns i j)) hkt h3 (by omega)) ?_
   rintro _ _ ⟨rfl,rfl⟩
   refine NL (ai.np (NX (af.region ?_)))
   refine gC 8 [] [(3,a_ 4 b7),(4,p_ ⟨[],none,none,none,some (vI (S2.X.ah+1))⟩ [(Value.int .i64 (IntKind.wrap .i64 (S2.X.ah+1)))=(.int .i64 (S2.X.ah+1))] ⟨bA (by omega) (by omega) (by omega),trivial⟩),(7,a_ 4 b7)] [(4,[(8,vI (S2.X.ah+1))])] ?_
   refine NL (ai.aJ (NX (af.region ?_)))
   refine gK 2 [(132,vI ↑(j+1))] [(0,p_ ⟨[],none,none,none,some (vI ↑(j+1))⟩ [(Value.int .i64 (IntKind.wrap .i64 (((j:Nat):Int)+1)))=(.int .i64 ↑(j+1))] ⟨bA (by omega) (by omega) (by omega),trivial⟩)] ?_
   refine NL (ai.dG [(0,.abs (ax (bM ((kN ns S2 (nd ns i) (ent ns i j)).O) L))),(1,.abs (ax (cF ((kN ns S2 (nd ns i) (ent ns i j)).O) L))),(4,.blk b7 [vI ((kN ns S2 (nd ns i) (ent ns i j)).X.cN),vI ((kN ns S2 (nd ns i) (ent ns i j)).X.cB),vI ((kN ns S2 (nd ns i) (ent ns i j)).X.cH),vI ((kN ns S2 (nd ns i) (ent ns i j)).X.cS),vI ((kN ns S2 (nd ns i) (ent ns i j)).X.cZ),.map (some m3),vP t4,vI ((kN ns S2 (nd ns i) (ent ns i j)).X.last),vI ((kN ns S2 (nd ns i) (ent ns i j)).X.ah),vI ((kN ns S2 (nd ns i) (ent ns i j)).X.used)] 126),(5,.abs (aN Tryz.prog 3 m3 (bp (bq L (kN ns S2 (nd ns i) (ent ns i j)).idx)) ((kN ns S2 (nd ns i) (ent ns i j)).idx.length))),(6,.abs (cV 197 t4 (kN ns S2 (nd ns i) (ent ns i j)).X.cH (kN ns S2 (nd ns i) (ent ns i j)).aD (bq L (kN ns S2 (nd ns i) (ent ns i j)).us))),(7,.abs (ax (bN ((kN ns S2 (nd ns i) (ent ns i j)).O) L)))] (fun w hS=>by rw [show bN (kN ns S2 (nd ns i) (ent ns i j)).O L=bN S2.O L from PJ];exact hS) ?_)
   exact ai.turn ((j+1),(kN ns S2 (nd ns i) (ent ns i j))) (idx:=[6,11,123,124,125,130,131,132]) (pk:=[2,3,4,5,6,0,7,1,8]) (show (((j+1))<=(nd ns i).ah.length)/\(fH X ns i ((j+1)) ((kN ns S2 (nd ns i) (ent ns i j)))) from ⟨by omega,qG.step hok (by omega) (by omega)⟩) (by show (nd ns i).ah.length - ((j+1)) < (nd ns i).ah.length - j;omega) (fun _=>by kernel_rfl) rfl (by kernel_rfl)
  refine af.exit (ai.aU (ai.aU (ai.cM (ai.aJ (NX (af.region ?_))))))
  refine gK 2 [(125,vI ↑(i+1))] [(0,p_ ⟨[],none,none,none,some (vI ↑(i+1))⟩ [(Value.int .i64 (IntKind.wrap .i64 (((i:Nat):Int)+1)))=(.int .i64 ↑(i+1))] ⟨bA (by omega) (by omega) (by omega),trivial⟩)] ?_
  refine NL ?_
  exact ai.turn ((i+1),S2) (idx:=[6,123,124,125]) (pk:=[1,2,3,4,5,6,7,8]) (show (((i+1))<=ns.length)/\(fH X ns ((i+1)) 0 S2) from ⟨by omega,by have h:=qG;rw [show j=(nd ns i).ah.length by omega] at h;exact h.next⟩) (by show ns.length - ((i+1)) < ns.length - i;omega) (fun _=>by kernel_rfl) rfl (by kernel_rfl)
 refine af.exit (ai.aU (ai.aU (ai.cM (NX (SR ?_)))))
 refine gK 3 [(4,vP b7),(5,vI 0)] [] ?_
 refine NN (af.ret ?_)
 exact RT (.tuple #[vP b7,vI 0]) [1,2,3,4,5,6,7] (.inr (.inr ⟨hcap,hok,S1,b7,m3,t4,L,by have h:=hE;rw [show i=ns.length by omega] at h;exact h,rfl,rfl⟩))
end
section
open Go.RowKit Go.Maps bH aE
theorem NJ {b:UInt8} (h0:¬ b=0) (h1:¬ b=47) (h2:¬ b=46):bO ⟨#[b]⟩:=by
  refine⟨Nat.le_refl _,(by show 1<=255;decide),fun e=>h2 ?_,fun e=>?_,fun j hj=>?_⟩
  ·injection e with e
   have e:[b]=[46]:=congrArg Array.toList e
   injection e
  ·injection e with e
   have e:[b]=[46,46]:=congrArg Array.toList e
   injection e with _ e
   cases e
  have:j=0:=by have hj:j < 1:=hj;omega
  subst this
  show ¬ b.toNat=0/\¬ b.toNat=47
  exact⟨fun e=>h0 (UInt8.toNat_inj.1 e),fun e=>h1 (UInt8.toNat_inj.1 e)⟩
theorem Eg:dW 0 0:=⟨by decide,by decide,by decide,by decide,by decide⟩
def Gq (room:Int):FM:=⟨9,room,9,0,0,0,0,0⟩
theorem PN {room:Int} (h:0<=room/\room<=1099511627776):jx (Gq room):=⟨by show (0:Int)<=9/\(9:Int)<=4096;decide,h,by show (0:Int)<=9/\(9:Int)<=1024;decide,Eg⟩
section ops
variable {S:aI} {c:aB} {t:Th} {d:Nat}
theorem NK {O:cg} {us:Used Th} {h:Int} {name:ByteArray} {need:Int} (h1:aE.get us h=some t) (h2:t.kind=2) (h3:(obj O t.k).gone=false) (h4:bO name) (h5:bits BinOp.and .i64 (obj O t.k).mode need=need):d9 O us h name need=.ok t.k:=by
  unfold d9
  rw [h1]
  simp only
  rw [if_pos h2,if_neg (by rw [h3];decide),if_pos h4,if_pos h5]
theorem PO (hop:c.op=1) (h1:aE.get S.idx c.other=some t) (h2:t.kind=2) (h3:(S.us.length:Int) < S.X.cH):cQ S c=({ S with O:=aF S.O t.k (fun o=>{ o with opens:=o.opens+1 }),us:=ins (least S.us) t S.us,aD:=max S.aD ((S.us.length:Int)+1) },{ c with answer:=least S.us,code:=0 }):=by
  unfold cQ
  rw [wg (by exact hop)]
  unfold jv
  simp only
  rw [h1]
  simp only
  rw [if_pos h2,kW h3]
theorem NM (hop:c.op=4) (ha:d9 S.O S.us c.handle c.name 192=.ok d) (hm:nO c.mode) (hl:aX c.name (obj S.O d).ah=none) (hr:Room S.X S.idx):cQ S c=(eY S d c.name (aY S.X 2 c.mode),{ c with answer:=0,code:=0 }):=by
  unfold cQ
  rw [wh (by exact hop)]
  unfold fW
  simp only
  rw [ha]
  simp only
  rw [if_pos hm]
  unfold gT ck
  rw [if_pos hl,if_pos hr,if_pos rfl]
end ops
structure WO (room:Int) (S:aI):Prop where
  inv:Inv S
  idx:S.idx=[(1,⟨1,2⟩),(2,⟨2,1⟩)]
  us:S.us=[]
  X:S.X=⟨9,room,9,0,0,2,1,0⟩
  o1:∃ l u,obj S.O 1=⟨1,493,0,0,0,0,l,0,false,2,[],⟨#[]⟩,[(⟨#[102]⟩,⟨2,1⟩)],u⟩
  o2:∃ u,obj S.O 2=⟨2,420,0,0,0,0,1,0,false,1,[],⟨#[]⟩,[],u⟩
theorem RL:bO ⟨#[100]⟩:=NJ (by decide) (by decide) (by decide)
theorem RM:bits BinOp.and .i64 493 192=192:=by kernel_rfl
section chain
variable {room:Int} {S:aI}
def S1 (S:aI):aI:={ S with O:=aF S.O 1 (fun o=>{ o with opens:=o.opens+1 }),us:=[(1,⟨1,2⟩)],aD:=max S.aD 1 }
theorem UY:obj (S1 S).O 1={ obj S.O 1 with opens:=(obj S.O 1).opens+1 }:=rfl
structure Xi (room:Int) (ds:List UInt8) (S:aI):Prop where
  inv:Inv S
  idx:S.idx=[(1,⟨1,2⟩),(2,⟨2,1⟩)]
  us:S.us=[(1,⟨1,2⟩),(2,⟨2,1⟩)]
  X:S.X=⟨9,room,9,0,0,2,1,ds.length⟩
  o1:∃ l n u,obj S.O 1=⟨1,493,0,0,0,0,l,n,false,2,[],⟨#[]⟩,[(⟨#[102]⟩,⟨2,1⟩)],u⟩
  o2:∃ u,obj S.O 2=⟨2,420,0,0,0,0,1,1,false,1,ds,⟨#[]⟩,[],u⟩
structure Xj (ds:List UInt8) (S:aI):Prop where
  inv:Inv S
  idx:S.idx=[(1,⟨1,2⟩),(2,⟨2,1⟩)]
  us:S.us=[(1,⟨1,2⟩),(2,⟨2,1⟩)]
  used:S.X.used=ds.length
  o2:∃ s z u,obj S.O 2=⟨2,420,0,0,s,z,0,1,true,1,ds,⟨#[]⟩,[],u⟩
end chain
end
section
open Go.RowKit Go.Maps bH aE
attribute [local irreducible] aj aS af ai
theorem Cv {β:Bs} (A:Option Addr) (c:Nat) (d:List UInt8) (hA:bh β A d) (hl:d.length<=1048576) :
    Spec Tryz.prog β 43 #[.slice A d.length c] [] (fun v l=>∃ B cap,v=.slice B d.length cap/\l=[.abs (av 5 1 B d.length cap (bZ d))]):=by
 refine Spec.enter Tryz.func43 rfl Tryz.ntmps43 (Nat.le_of_ble_eq_true rfl) (fun R=>?_)
 refine SR (gK 1 [] [] ?_)
 refine NS (gN 2 (fun b1=>[(3,.slice (some ⟨b1,0,none⟩) (0) (0))]) (fun _=>[]) (fun _=>[]) (fun b1=>.blk b1 [] 5) (fun b1=>?_))
 refine NS (aj.mem (fun w hS=>hS.qt (i:=1) (b:=b1) (cs:=[]) (e:=5) 1 0 (by kernel_rfl) rfl (by decide)) ?_)
 refine gK 2 [(5,.slice (some ⟨b1,0,none⟩) (0) (0)),(6,.slice A (d.length) (c))] [] ?_
 refine aj.append 1 (d:=(some 7)) (t:=46) (e:=5) (z:=.int .u8 0) (size:=1) (bytes:=1) (n:=0) (cap:=0) (A:=some ⟨b1,0,none⟩) (xs:=[]) (s:=(.tmp 5)) (x:=(.tmp 6)) (ats:=#[46,46]) (A':=A) (m:=d.length) (c':=c) (news:=(bZ d)) (fun _=>by kernel_rfl) rfl (by kernel_rfl) (fun _=>by kernel_rfl) (fun _=>by kernel_rfl) Tryz.underlying46 (by kernel_rfl) rfl (by decide) (by rw [rQ,Nat.mul_one]) (nV d) (hA.src) (by unfold maxLen;omega) (by omega) (fun A2 c3=>?_)
 refine aj.bI 1 (p:=.abs (av 5 1 A2 (0+d.length) c3 ([]++(bZ d)))) (p':=.abs (av 5 1 A2 d.length c3 (bZ d))) (by kernel_rfl) (by rw [Nat.zero_add,List.nil_append]) ?_
 refine aj.slot 7 (.slice A2 (0+d.length) (c3)) (.slice A2 (d.length) (c3)) (fun _=>by kernel_rfl) (by rw [Nat.zero_add]) ?_
 refine gK 1 [(3,.slice A2 (d.length) (c3))] [] ?_
 refine NS (gK 2 [(2,.slice A2 (d.length) (c3))] [] ?_)
 refine NN (af.ret ?_)
 exact RT (.slice A2 (d.length) (c3)) [1,0] (⟨A2,c3,rfl,rfl⟩)
end
section
open Go.RowKit Go.Maps bH aE
theorem Spec.JX {P:Program} {β:Bs} {f:FuncId} {args:Array Value} {pre:List HP} {post:Value->List HP->Prop} {Ψ:Bs->Value->List HP->Prop} (h:Spec P β f args pre post) (xg:∀ v l,post v l->∃ l1 l2,l=l1++l2/\∀ β',q6 β l2 β'->Ψ β' v l1):bY P β f args pre Ψ:=by
  intro A w hS
  refine (h A w hS).mono ?_
  rintro e w' ⟨v,l,h1,h2,h3⟩
  obtain⟨l1,l2,rfl,hl⟩:=xg v l h2
  have h4:Sat β (([.abs A]++l1)++l2) w':=by rw [List.append_assoc];exact Sat.turn h3
  obtain⟨β',g1,_,g3⟩:=h4.Am
  exact⟨β',v,l1,g1.le,h1,hl β' g1,Sat.turn g3⟩
section c
variable {β:Bs} {S S2:aI} {L:HL} {f m t:Nat} {c c2:aB}
theorem Ev (A:Option Addr) (cp:Nat) (d:List UInt8) (hA:bh β A d) (hl:d.length<=1048576):bY Tryz.prog β 43 #[.slice A d.length cp] [] (fun β' v l=>∃ B cap,v=.slice B d.length cap/\l=[]/\bh β' B d/\d.length<=cap):=
  (Cv A cp d hA hl).JX (by
    rintro v l ⟨B,cap,rfl,rfl⟩
    refine⟨[],_,rfl,fun β' h=>⟨B,cap,rfl,rfl,h.bytes,?_⟩⟩
    obtain⟨F,h1,_⟩:=h.get 0 rfl
    exact (av.len h1).2)
end c
end
section
open Go.RowKit Go.Maps bH aE
section at_
variable {S:aI} {i j:Nat}
theorem NR (hi:i < S.idx.length):nd (bn S) i=zm S.O (cY S i) (lX S i):=by
  unfold nd bn
  rw [List.getD_eq_getElem?_getD,List.getElem?_map,Cd hi];rfl
end at_
end
section
open Go.RowKit bH aE Go.Maps
section ints
variable {β:Bs} {A:Option Addr} {l:List Int} {j:Nat}
end ints
theorem NT {S:aI} (h:Inv0 S):∀ i,i < (bn S).length->(nd (bn S) i).data.length<=140737488355328/\(nd (bn S) i).ah.length<=1048576:=fun i hi=>by
  rw [o7] at hi
  have h1:(obj S.O (lX S i).k).data.length<=bytes S.idx S.O:=lV (g:=fun p:Int×Th=>(obj S.O p.2.k).data.length) (get_at h hi)
  have h2:(obj S.O (lX S i).k).ah.length<=tot S.idx S.O:=lV (g:=fun p:Int×Th=>(obj S.O p.2.k).ah.length) (get_at h hi)
  have h3:=h.used
  have h4:=h.total
  rw [NR hi]
  refine⟨by show (obj S.O (lX S i).k).data.length<=_;omega,?_⟩
  show ((obj S.O (lX S i).k).ah.map _).length<=_
  rw [List.length_map]
  omega
theorem wX {β:Bs} (A:Option Addr) (c:Nat) (ns:List aP) (L:Lay) (hG:ay β A ns L) (hl:ns.length<=1048576) (hd:∀ i,i < ns.length->(nd ns i).data.length<=1048576/\(nd ns i).ah.length<=1048576) :
    Spec Tryz.prog β 22 #[.agg #[.slice A ns.length c]] [] (fun v l=>∃ B cap,v=.agg #[.slice B ns.length cap]/\l=[.abs (kL β (fun β'=>∃ K,ay β' B ns K))]):=
  (bY.Oy (ι:=Option Addr×Nat) (vv:=fun x=>.agg #[.slice x.1 ns.length x.2]) (ll:=fun _=>[]) (Φ:=fun x β'=>∃ K,ay β' x.1 ns K)
    ((E5 A c ns L hG hl hd).mono (by rintro β' v l _ ⟨B,cap,K,rfl,rfl,h⟩;exact⟨(B,cap),rfl,rfl,K,h⟩))).mono (by rintro v l ⟨⟨B,cap⟩,rfl,rfl⟩;exact⟨B,cap,rfl,rfl⟩)
end
section
open Go.RowKit bH aE Go.Maps
abbrev rC (X:FM) (ns:List aP):={ S:aI // fH X ns ns.length 0 S }
theorem AJ (us:Used Th):us.length=(keys us).length:=(List.length_map ..).symm
theorem NU {S:aI} (h:Inv0 S):(bn S).length<=1048576:=by
  rw [o7]
  have:=h.len
  omega
end
section
open Go.RowKit Go.Maps bH aE
section m
variable {β:Bs} {ns:List aP} {Y:Lay} {X:FM} {root:Int}
theorem NV (hcap:jx X) (hok:bS ns) (A:Option Addr) (c:Nat) (hG:ay β A ns Y) (hB:gn ns 1048576) :
    Spec Tryz.prog β 21 #[.agg #[.slice A ns.length c],.agg #[.int .i64 X.cN,.int .i64 X.cB,.int .i64 X.cH,.int .i64 X.cS,.int .i64 X.cZ]] [] (fun v l=>∃ (S:rC X ns) (f m t:Nat) (L:HL),v=.tuple #[.pointer (some ⟨f,0,none⟩),.int .i64 0]/\l=pA f m t L S.1):=
  (Ir A c ns Y hG (yY hB) (EG hB) (Kv hB) (Kw hB) X).mono (by
    rintro v l (⟨h,_⟩|⟨_,h,_⟩|⟨_,_,h⟩)
    ·exact absurd hcap h
    ·exact absurd hok h
    obtain⟨S,f,m,t,L,h1,h2,h3⟩:=h
    exact⟨⟨S,h1⟩,f,m,t,L,h2,h3⟩)
theorem NW (NY:¬ (jx X/\bS ns)) (A:Option Addr) (c:Nat) (hG:ay β A ns Y) (hB:gn ns 1048576) :
    Spec Tryz.prog β 21 #[.agg #[.slice A ns.length c],.agg #[.int .i64 X.cN,.int .i64 X.cB,.int .i64 X.cH,.int .i64 X.cS,.int .i64 X.cZ]] [] (fun v l=>v=.tuple #[.pointer none,.int .i64 (cL X ns root)]/\l=[]):=
  (Ir A c ns Y hG (yY hB) (EG hB) (Kv hB) (Kw hB) X).mono (by
    rintro v l (⟨h,h1,h2⟩|⟨h,h',h1,h2⟩|⟨h1,h2,_⟩)
    ·exact⟨by rw [Ch h];exact h1,h2⟩
    ·exact⟨by rw [yc h h'];exact h1,h2⟩
    exact absurd ⟨h1,h2⟩ NY)
theorem Cw (NY:¬ (jx X/\bS ns)):cL X ns root≠0:=fun h=>NY (Ec h)
theorem LG {i:Nat} (hi:sW ns root i) (A:Option Addr) (c:Nat) (hG:ay β A ns Y) (hB:gn ns 1048576) (b:Nat) :
    Spec Tryz.prog β 81 #[.slice A ns.length c,.func (.func 82) #[] #[.pointer (some ⟨b,0,none⟩)]] [.blk b [.int .i64 root] 3] (fun v l=>v=.int .i64 (i:Int)/\l=[.blk b [.int .i64 root] 3]):=
  (FW A c ns Y hG (yY hB) b root).mono (by
    rintro v l (⟨j,hj,h1,h2⟩|⟨h,_⟩)
    ·have e:i=j:=by
       obtain⟨a1,a2,a3⟩:=hi
       obtain⟨b1,b2,b3⟩:=hj
       rcases Nat.lt_trichotomy i j with h|h|h
       ·exact absurd a2 (b3 i h)
       ·exact h
       exact absurd b2 (a3 j h)
     subst e
     exact⟨h1,h2⟩
    exact absurd hi.2.1 (h i hi.1))
theorem NZ (hi:∀ q,q < ns.length->(nd ns q).id≠root) (A:Option Addr) (c:Nat) (hG:ay β A ns Y) (hB:gn ns 1048576) (b:Nat) :
    Spec Tryz.prog β 81 #[.slice A ns.length c,.func (.func 82) #[] #[.pointer (some ⟨b,0,none⟩)]] [.blk b [.int .i64 root] 3] (fun v l=>v=.int .i64 (-1)/\l=[.blk b [.int .i64 root] 3]):=
  (FW A c ns Y hG (yY hB) b root).mono (by
    rintro v l (⟨j,hj,_⟩|⟨_,h1,h2⟩)
    ·exact absurd hj.2.1 (hi j hj.1)
    exact⟨h1,h2⟩)
end m
end
section
open Go.RowKit Go.Maps bH aE
attribute [local irreducible] aj aS af ai
noncomputable abbrev VN (w)(f:Nat) (o) (root):=(.blk w [.iface 42 (vP w),vP f,.iface 180 (vP o),vI (root),.slice none (0) (0)] 93:HP)
noncomputable abbrev VO (o)(q)(f:Nat) (root) (am):=(.blk o [.iface 181 (vP q),vP f,vI (root),.map (some am),vI 0] 185:HP)
noncomputable abbrev Eh (b4:Nat) (Af) (fs:List bJ) (cf) (Aa) (xs:List cC) (ca):=(.blk b4 [.slice Af (fs.length) (cf),.slice Aa (xs.length) (ca)] 32:HP)
noncomputable abbrev Iu (m5:Nat) (Z) (xs:List cC) (i:Nat) (an):=(.abs (aN Tryz.prog 3 m5 (eO Z (xs.take i)) an):HP)
noncomputable abbrev LH (b6:Nat) (xs) (i:Nat):=(.blk b6 [vI ((act xs i).at_),vI ((act xs i).op),.string (act xs i).path,.string (act xs i).to,.string (act xs i).text] 41:HP)
noncomputable abbrev RN (b2:Nat) (b4:Nat) (f:Nat) (m5:Nat):=([(5,vP b2),(7,vP b4),(10,vP f),(13,.map (some m5))]:Fr)
noncomputable abbrev O4 (Aa)(xs:List cC) (ca):=([(44,.slice Aa (xs.length) (ca)),(45,vI ↑xs.length)]:Fr)
noncomputable abbrev TW (b2:Nat) (f:Nat) (m5:Nat) (m11:Nat) (Af) (fs:List bJ) (cf) (j:Nat):=([(5,vP b2),(10,vP f),(13,.map (some m5)),(16,.map (some m11)),(63,.slice Af (fs.length) (cf)),(64,vI ↑fs.length),(65,vI ↑j)]:Fr)
noncomputable abbrev TY (w)(f:Nat) (o) (root) (q) (am) (km) (Z) (xs) (an) (fs) (kn):=([VN w f o root,VO o q f root am,.blk q [.iface 54 (vP f),.map (some km),vI 0] 183,.abs (aN Tryz.prog 3 am (eO Z xs) an),.abs (aN Tryz.prog 3 km (dF fs) kn),.abs (av 48 13 none 0 0 ([]))]:List HP)
theorem N0 {β:Bs} (A:Option Addr) (c:Nat) (ns:List aP) (Y:Lay) (hG:ay β A ns Y) (hB:gn ns 1048576) (X:FM) (root:Int) (Af:Option Addr) (cf:Nat) (fs:List bJ) (hF:bX β Af (aH bV fs)) (jZ:eZ fs 2097152) (Aa:Option Addr) (ca:Nat) (xs:List cC) (hA:bX β Aa (aH cD xs)) (hab:gj xs 1048576) :
    bY Tryz.prog β 37 #[.agg #[.slice A (ns.length) (c)],vI (root),.agg #[vI (X.cN),vI (X.cB),vI (X.cH),vI (X.cS),vI (X.cZ)],.agg #[.slice Af (fs.length) (cf),.slice Aa (xs.length) (ca)]] [] (fun β' v l=>(cL X ns root≠0/\v=.tuple #[.pointer none,vI (cL X ns root)]/\l=[])\/(cL X ns root=0/\∃ (N:rC X ns) (L:HL) (w o q f m t am an km kn:Nat) (Z:AZ),v=.tuple #[vP w,vI 0]/\l=(TY w f o root q am km Z xs an fs kn++[pF f m t N.1.X,pI m L N.1.idx,pT t N.1.X.cH N.1.aD L N.1.us,pO N.1.O L,pD N.1.O L,pE N.1.O L])/\je β' Z xs)):=by
 have hfl:=jZ.len
 have hxl:=hab.len
 refine bY.enter Tryz.func37 rfl Tryz.ntmps37 (Nat.le_of_ble_eq_true rfl) (fun hle0 R=>?_)
 refine SR (gN 1 (fun b1=>[(4,vP b1)]) (fun _=>[]) (fun _=>[]) (fun b1=>.blk b1 [.slice A (ns.length) (c)] 24) (fun b1=>?_))
 refine gN 1 (fun b2=>[(5,vP b2)]) (fun _=>[]) (fun _=>[]) (fun b2=>.blk b2 [vI (root)] 3) (fun b2=>?_)
 refine gN 1 (fun b3=>[(6,vP b3)]) (fun _=>[]) (fun _=>[]) (fun b3=>.blk b3 [vI (X.cN),vI (X.cB),vI (X.cH),vI (X.cS),vI (X.cZ)] 28) (fun b3=>?_)
 refine gN 3 (fun b4=>[(7,vP b4)]) (fun _=>[]) (fun _=>[]) (fun b4=>.blk b4 [.slice Af (fs.length) (cf),.slice Aa (xs.length) (ca)] 32) (fun b4=>?_)
 refine NN (af.seq ?_)
 by_cases oy:jx X/\bS ns
 ·refine af.region (gK 2 [(21,.agg #[.slice A (ns.length) (c)]),(22,.agg #[vI (X.cN),vI (X.cB),vI (X.cH),vI (X.cS),vI (X.cZ)])] [(0,a_ 1 b1),(1,A_ 3 b3 5)] ?_)
  refine gL [] (NV (β:=β) oy.1 oy.2 A c hG hB) ?_
  rintro _ _ ⟨N,f,m,t,L,rfl,rfl⟩
  refine gK 5 [(10,vP f),(11,vI 0)] [] ?_
  refine NN (af.seq (SR (gK 2 [(27,.bool false)] [] ?_)))
  refine NN (CF (af.skip (NX (af.seq ?_))))
  rcases Nl ns root with ⟨r,hr⟩|hno
  ·have hr1:r < ns.length:=hr.1
   refine af.region (gK 3 [(30,.slice A (ns.length) (c)),(31,.func (.func 82) #[] #[vP b2])] [(1,a_ 7 b1)] ?_)
   refine gL [8] (LG (β:=β) hr A c hG hB b2) ?_
   rintro _ _ ⟨rfl,rfl⟩
   refine gK 1 [(12,vI ↑r)] [] ?_
   refine NN (af.seq (SR (gK 2 [(34,.bool false)] [(1,p_ ⟨[],none,none,none,some (.bool false)⟩ [(Value.bool (decide ((((r:Nat):Int):Int) < (0:Int))))=(.bool false)] ⟨congrArg Value.bool (decide_eq_false (by omega)),trivial⟩)] ?_)))
   refine NN (CF (af.skip (NX (af.seq (SR (gK 7 [(41,.bool (!(decide (((nd ns r).kind:Int)=(2:Int)))))] [(1,a_ 8 b1),(3,p_ ⟨[],some r,none,some ⟨(aq A),ak A,none⟩,none⟩ [((r:Nat):Int)=((r:Nat):Int),r < ns.length,(⟨(aq A),ak A,none⟩:Addr).spot=none,(A:Option Addr)=some ⟨(aq A),ak A,none⟩] ⟨rfl,by omega,rfl,ay.hd hG (i:=r) (by omega),trivial⟩),(5,p_ ⟨[.old (.int .i64 ((nd ns r).kind))],none,none,none,none⟩ [(Rd β ⟨(aq A),ak A+r * 10+1,none⟩ (.int .i64 ((nd ns r).kind)))] ⟨ay.rd hG (i:=r) (by omega) (j:=1) rfl,trivial⟩)] ?_))))))
   refine NN (af.dm (p:=((nd ns r).kind:Int)=(2:Int)) (fun _=>by kernel_rfl) (fun Cs=>?_) (fun Cs=>?_))
   ·refine SR (gK 2 [(8,.pointer none),(9,vI 173)] [] ?_)
    refine NN (af.ret (ai.ar ?_))
    exact ai.oU (v:=.tuple #[.pointer none,vI 173]) (l:=[]) (bG:=[]) [] [7] hle0 (fun _=>by kernel_rfl) trivial rfl (by kernel_rfl) (.inl ⟨by rw [Cj oy.1 oy.2 hr Cs];decide,by rw [Cj oy.1 oy.2 hr Cs],rfl⟩)
   refine af.skip (NX (SR (aj.lT (d:=(some 42)) (t:=178) (fun _=>by kernel_rfl) Tryz.prog rfl 3 (fun m5=>?_))))
   refine gK 1 [(13,.map (some m5))] [] ?_
   refine NN (af.seq (SR (aj.bI 11 (p:=.abs (aN Tryz.prog 3 m5 (fun _=>none) 0)) (p':=.abs (aN Tryz.prog 3 m5 (eO AZ.none (xs.take 0)) 0)) (by kernel_rfl) (congrArg (fun f=>HP.abs (aN Tryz.prog 3 _ f 0)) Nf.symm) ?_)))
   refine aj.mem (cR:=[sX b2 root,pF f m t N.1.X,pI m L N.1.idx,pT t N.1.X.cH N.1.aD L N.1.us,pO N.1.O L,pD N.1.O L,pE N.1.O L,.abs R,qW b1 A ns c,rK b3 X,Eh b4 Af fs cf Aa xs ca,.abs (aN Tryz.prog 3 m5 (eO AZ.none (xs.take 0)) 0),.abs (ax (mI AZ.none (xs.take 0)))]) (fun w hS=>hS.Rc) ?_
   refine gK 4 (O4 Aa xs ca++[(46,vI 0)]) [(1,a_ 10 b4)] ?_
   refine NN (af.block ?_)
   refine af.loop (ι:=Nat×AZ×Nat) (fun ((i,Z,an):Nat×AZ×Nat)=>(i<=xs.length)/\(an<=i)) (fun ((i,Z,an):Nat×AZ×Nat)=>xs.length - i) (fun ((i,Z,an):Nat×AZ×Nat)=>(RN b2 b4 f m5++O4 Aa xs ca++[(46,vI ↑i)])) (fun ((i,Z,an):Nat×AZ×Nat)=>[sX b2 root,pF f m t N.1.X,pI m L N.1.idx,pT t N.1.X.cH N.1.aD L N.1.us,pO N.1.O L,pD N.1.O L,pE N.1.O L,qW b1 A ns c,rK b3 X,Eh b4 Af fs cf Aa xs ca,Iu m5 Z xs i an,.abs (ax (mI Z (xs.take i))),.abs R]) (0,AZ.none,0) (idx:=[5,7,10,13,44,45,46]) (pk:=[0,1,2,3,4,5,6,8,9,10,11,12,7]) (show (0<=xs.length)/\(0<=0) from ⟨Nat.zero_le _,Nat.le_refl _⟩) (fun _=>by kernel_rfl) rfl (by kernel_rfl) ?_
   rintro⟨i,Z,an⟩ ⟨hi,han⟩
   show af _ _ _ _ (RN b2 b4 f m5++O4 Aa xs ca++[(46,vI ↑i)]) [sX b2 root,pF f m t N.1.X,pI m L N.1.idx,pT t N.1.X.cH N.1.aD L N.1.us,pO N.1.O L,pD N.1.O L,pE N.1.O L,qW b1 A ns c,rK b3 X,Eh b4 Af fs cf Aa xs ca,Iu m5 Z xs i an,.abs (ax (mI Z (xs.take i))),.abs R] _
   refine SR (gK 1 [(47,.bool (decide ((((i:Nat):Int):Int) < (((xs.length:Nat):Int):Int))))] [] ?_)
   refine NN (af.seq (af.bg (p:=(((i:Nat):Int):Int) < (((xs.length:Nat):Int):Int)) (fun _=>by kernel_rfl) (fun O5=>?_) (fun O5=>?_)))
   ·refine af.skip (NX (af.seq (af.block (SR ?_))))
    refine gN 4 (fun b6=>[(15,vP b6)]) (fun b6=>[(0,p_ ⟨[],some i,none,some ⟨(aq Aa),ak Aa,none⟩,none⟩ [((i:Nat):Int)=((i:Nat):Int),i < xs.length,(⟨(aq Aa),ak Aa,none⟩:Addr).spot=none,(Aa:Option Addr)=some ⟨(aq Aa),ak Aa,none⟩] ⟨rfl,by omega,rfl,zk hA (i:=i) (by omega),trivial⟩),(1,p_ ⟨[.old (.int .i64 ((act xs i).at_)),.old (.int .i64 ((act xs i).op)),.old (.string (act xs i).path),.old (.string (act xs i).to),.old (.string (act xs i).text)],none,none,none,none⟩ [(Rd β ⟨(aq Aa),ak Aa+i * 5+4,none⟩ (.string (act xs i).text)),(Rd β ⟨(aq Aa),ak Aa+i * 5+3,none⟩ (.string (act xs i).to)),(Rd β ⟨(aq Aa),ak Aa+i * 5+2,none⟩ (.string (act xs i).path)),(Rd β ⟨(aq Aa),ak Aa+i * 5+1,none⟩ (.int .i64 ((act xs i).op))),(Rd β ⟨(aq Aa),ak Aa+i * 5,none⟩ (.int .i64 ((act xs i).at_)))] ⟨iJ hA (i:=i) (by omega) (j:=4) rfl,iJ hA (i:=i) (by omega) (j:=3) rfl,iJ hA (i:=i) (by omega) (j:=2) rfl,iJ hA (i:=i) (by omega) (j:=1) rfl,iJ hA (i:=i) (by omega) (j:=0) rfl,trivial⟩),(3,A_ 13 b6 5)]) (fun _=>[]) (fun b6=>.blk b6 [vI ((act xs i).at_),vI ((act xs i).op),.string (act xs i).path,.string (act xs i).to,.string (act xs i).text] 41) (fun b6=>?_)
    refine NN (af.bT (S:=[Iu m5 Z xs i an,LH b6 xs i]) [0,1,2,3,4,5,6,7,8,9,10] 8 [10,13] (by kernel_rfl) (by kernel_rfl) rfl (by kernel_rfl) ?_)
    refine gR 2 [6,7,8,9,10] (RN b2 b4 f m5++[(15,vP b6)]++O4 Aa xs ca++[(46,vI ↑i),(50,.map (some m5)),(52,vI ((act xs i).at_)),(53,.map (some m5)),(55,vI ((act xs i).at_))]) [0,1,2,3,4,5] [(2,a_ 1 b6),(5,a_ 1 b6)] ?_
    refine aQ.eu 0 (d:=(some 56)) (t:=178) (K:=3) (E:=30) (b:=m5) (cnt:=an) (f:=(eO Z (xs.take i))) (x:=(.tmp 53)) (ix:=(.tmp 55)) (key:=.int .i64 ((act xs i).at_)) (z:=.slice none (0) (0)) (kl:=(Lit.int IntKind.i64 (act xs i).at_)) (q:=(eO Z (xs.take i) (Lit.int IntKind.i64 (act xs i).at_))) (by kernel_rfl) (by kernel_rfl) (fun _=>by kernel_rfl) (fun _=>by kernel_rfl) d6 Tryz.underlying178 (fun _=>by kernel_rfl) (gX (hab.at (by omega)).aw) (rfl) (by rw [AU];rfl) ?_
    refine gR 0 [8,9,10] [(5,vP b2),(7,vP b4),(10,vP f),(13,.map (some m5)),(44,.slice Aa (xs.length) (ca)),(45,vI ↑xs.length),(46,vI ↑i),(50,.map (some m5)),(52,vI ((act xs i).at_)),(56,((eO Z (xs.take i) (Lit.int IntKind.i64 (act xs i).at_)).getD (.slice none 0 0))),(57,.agg #[vI ((act xs i).at_),vI ((act xs i).op),.string (act xs i).path,.string (act xs i).to,.string (act xs i).text])] [7] [(0,A_ 1 b6 5)] ?_
    refine mN [10,13] (fun b7=>[(58,.slice (some ⟨b7,0,none⟩) (1) (1))]) (fun _=>[]) (fun b7=>.blk b7 [vI ((act xs i).at_),vI ((act xs i).op),.string (act xs i).path,.string (act xs i).to,.string (act xs i).text] 41) (fun b7=>?_)
    refine aQ.cut (ι:=(Option Addr)×Nat) (fr':=fun ((A8,c9):(Option Addr)×Nat)=>[(5,vP b2),(7,vP b4),(10,vP f),(13,.map (some m5)),(44,.slice Aa (xs.length) (ca)),(45,vI ↑xs.length),(46,vI ↑i),(50,.map (some m5)),(52,vI ((act xs i).at_)),(59,.slice A8 (((bQ (xs.take i) (act xs i).at_).length+1)) (c9))]) (hp':=fun ((A8,c9):(Option Addr)×Nat)=>[sX b2 root,pF f m t N.1.X,pI m L N.1.idx,pT t N.1.X.cH N.1.aD L N.1.us,pO N.1.O L,pD N.1.O L,pE N.1.O L,qW b1 A ns c,rK b3 X,Eh b4 Af fs cf Aa xs ca,Iu m5 Z xs i an,.abs (ax (kg (mI Z (xs.take i)) (zz (act xs i).at_) cE.none)),.abs R,LH b6 xs i,LH b7 xs i,.abs (av 41 5 A8 ((bQ (xs.take i) (act xs i).at_).length+1) c9 (aH cD (bQ (xs.take i) (act xs i).at_)++cD (act xs i)))]) [10,13] rfl rfl ?_ rfl (fun _=>by kernel_rfl) ?_
    ·refine aj.slot 56 (((eO Z (xs.take i) (Lit.int IntKind.i64 (act xs i).at_)).getD (.slice none 0 0))) (.slice (aA Z (xs.take i) (act xs i).at_) ((bQ (xs.take i) (act xs i).at_).length) ((aC Z (xs.take i) (act xs i).at_))) (fun _=>by kernel_rfl) (AU) ?_
     refine aj.mem (cR:=[sX b2 root,pF f m t N.1.X,pI m L N.1.idx,pT t N.1.X.cH N.1.aD L N.1.us,pO N.1.O L,pD N.1.O L,pE N.1.O L,qW b1 A ns c,rK b3 X,Eh b4 Af fs cf Aa xs ca,Iu m5 Z xs i an,.abs (ax (kg (mI Z (xs.take i)) (zz (act xs i).at_) cE.none)),.abs R,LH b6 xs i,LH b7 xs i,.abs (av 41 5 (aA Z (xs.take i) (act xs i).at_) ((bQ (xs.take i) (act xs i).at_).length) (aC Z (xs.take i) (act xs i).at_) (aH cD (bQ (xs.take i) (act xs i).at_)))]) (fun w hS=>hS.PG (i:=11) rfl (act xs i).at_) ?_
     have Xk:(bQ (xs.take i) (act xs i).at_).length<=1048576:=Nat.le_trans (BX _) (by rw [List.length_take];omega)
     refine aj.append 15 (d:=(some 59)) (t:=30) (e:=41) (z:=.agg #[vI 0,vI 0,.string ⟨#[]⟩,.string ⟨#[]⟩,.string ⟨#[]⟩]) (size:=5) (bytes:=64) (n:=(bQ (xs.take i) (act xs i).at_).length) (cap:=(aC Z (xs.take i) (act xs i).at_)) (A:=(aA Z (xs.take i) (act xs i).at_)) (xs:=(aH cD (bQ (xs.take i) (act xs i).at_))) (s:=(.tmp 56)) (x:=(.tmp 58)) (ats:=#[30,30]) (A':=some ⟨b7,0,none⟩) (m:=1) (c':=1) (news:=[vI ((act xs i).at_),vI ((act xs i).op),.string (act xs i).path,.string (act xs i).to,.string (act xs i).text]) (fun _=>by kernel_rfl) rfl (by kernel_rfl) (fun _=>by kernel_rfl) (fun _=>by kernel_rfl) Tryz.underlying30 (by kernel_rfl) rfl (by decide) (rfl) (by simp [Value.oneCell']) (jh (j:=14) rfl) (by unfold maxLen;omega) (by omega) (fun A8 c9=>?_)
     refine aj.bI 15 (p:=.abs (av 41 5 A8 (((bQ (xs.take i) (act xs i).at_).length)+1) c9 ((aH cD (bQ (xs.take i) (act xs i).at_))++[vI ((act xs i).at_),vI ((act xs i).op),.string (act xs i).path,.string (act xs i).to,.string (act xs i).text]))) (p':=.abs (av 41 5 A8 ((bQ (xs.take i) (act xs i).at_).length+1) c9 (aH cD (bQ (xs.take i) (act xs i).at_)++cD (act xs i)))) (by kernel_rfl) (rfl) ?_
     refine aj.slot 59 (.slice A8 (((bQ (xs.take i) (act xs i).at_).length)+1) (c9)) (.slice A8 (((bQ (xs.take i) (act xs i).at_).length+1)) (c9)) (fun _=>by kernel_rfl) (rfl) ?_
     refine NL ?_
     exact MD (A8,c9) [5,7,10,13,44,45,46,50,52,59] [0,1,2,3,4,5,6,7,8,9,10,11,12,13,14,15]
    rintro⟨A8,c9⟩
    refine aQ.last rfl rfl ?_
    refine aj.mem (cR:=[.abs (ax (mI (Z.put (act xs i).at_ A8 c9) (xs.take (i+1)))),.blk b2 [vI (root)] 3,.blk f [vI (N.1.X.cN),vI (N.1.X.cB),vI (N.1.X.cH),vI (N.1.X.cS),vI (N.1.X.cZ),.map (some m),vP t,vI (N.1.X.last),vI (N.1.X.ah),vI (N.1.X.used)] 126,.abs (aN Tryz.prog 3 m (bp (bq L N.1.idx)) N.1.idx.length),.abs (cV 197 t N.1.X.cH N.1.aD (bq L N.1.us)),.abs (ax (bM N.1.O L)),.abs (ax (bN N.1.O L)),.abs (ax (cF N.1.O L)),.blk b1 [.slice A (ns.length) (c)] 24,.blk b3 [vI (X.cN),vI (X.cB),vI (X.cH),vI (X.cS),vI (X.cZ)] 28,.blk b4 [.slice Af (fs.length) (cf),.slice Aa (xs.length) (ca)] 32,.abs (aN Tryz.prog 3 m5 (eO Z (xs.take i)) an),.abs R,.blk b6 [vI ((act xs i).at_),vI ((act xs i).op),.string (act xs i).path,.string (act xs i).to,.string (act xs i).text] 41,.blk b7 [vI ((act xs i).at_),vI ((act xs i).op),.string (act xs i).path,.string (act xs i).to,.string (act xs i).text] 41]) (fun w hS=>by rw [wq (by omega)];exact hS.Rf (i:=11) (j:=15) (idx:=[0,1,2,3,4,5,6,7,8,9,10,12,13,14]) rfl rfl (by kernel_rfl) rfl) ?_
    refine aj.kG 11 (d:=none) (t:=178) (K:=3) (E:=30) (b:=m5) (n:=an) (f:=(eO Z (xs.take i))) (x:=(.tmp 50)) (ix:=(.tmp 52)) (y:=(.tmp 59)) (key:=.int .i64 ((act xs i).at_)) (u:=.slice A8 (((bQ (xs.take i) (act xs i).at_).length+1)) (c9)) (kl:=(Lit.int IntKind.i64 (act xs i).at_)) (n':=(if (eO Z (xs.take i) (Lit.int IntKind.i64 (act xs i).at_)).isSome then an else an+1)) (f':=(eO (Z.put (act xs i).at_ A8 c9) (xs.take (i+1)))) (fun _=>by kernel_rfl) (by kernel_rfl) (fun _=>by kernel_rfl) (fun _=>by kernel_rfl) (fun _=>by kernel_rfl) d6 Tryz.underlying178 (by unfold maxLen;omega) (gX (hab.at (by omega)).aw) (rfl) (by rw [wq (by omega)];exact Ng) ?_
    refine NL (ai.np (ai.aJ (NX (af.region ?_))))
    refine gK 2 [(46,vI ↑(i+1))] [(0,p_ ⟨[],none,none,none,some (vI ↑(i+1))⟩ [(Value.int .i64 (IntKind.wrap .i64 (((i:Nat):Int)+1)))=(.int .i64 ↑(i+1))] ⟨bA (by omega) (by omega) (by omega),trivial⟩)] ?_
    refine NL ?_
    exact ai.turn ((i+1),(Z.put (act xs i).at_ A8 c9),(if (eO Z (xs.take i) (Lit.int IntKind.i64 (act xs i).at_)).isSome then an else an+1)) (idx:=[5,7,10,13,44,45,46]) (pk:=[1,2,3,4,5,6,7,8,9,10,11,0,12]) (show (((i+1))<=xs.length)/\(((if (eO Z (xs.take i) (Lit.int IntKind.i64 (act xs i).at_)).isSome then an else an+1))<=((i+1))) from ⟨by omega,by split<;>omega⟩) (by show xs.length - ((i+1)) < xs.length - i;omega) (fun _=>by kernel_rfl) rfl (by kernel_rfl)
   refine af.exit (ai.aU (ai.aU (ai.cM (NX (SR ?_)))))
   refine aj.lM (Φ:=fun β'=>je β' Z xs) 11 [0,1,2,3,4,5,6,7,8,9,10,12] (cR:=[sX b2 root,pF f m t N.1.X,pI m L N.1.idx,pT t N.1.X.cH N.1.aD L N.1.us,pO N.1.O L,pD N.1.O L,pE N.1.O L,qW b1 A ns c,rK b3 X,Eh b4 Af fs cf Aa xs ca,Iu m5 Z xs i an,.abs R]) rfl rfl (by kernel_rfl) (fun F w h β' h1 h2=>je.of (by rw [show xs.take i=xs by rw [show i=xs.length by omega,List.take_length]] at h;exact h) h1 h2) (fun JY oz hZ=>?_)
   replace hG:=hG.le oz
   replace hA:=hA.le oz
   replace hF:=hF.le oz
   replace hle0:=hle0.trans oz
   refine aj.bI 10 (p:=.abs (aN Tryz.prog 3 m5 (eO Z (xs.take i)) an)) (p':=.abs (aN Tryz.prog 3 m5 (eO Z xs) an)) (by kernel_rfl) (by rw [show xs.take i=xs by rw [show i=xs.length by omega,List.take_length]]) ?_
   refine aj.lT (d:=(some 61)) (t:=179) (fun _=>by kernel_rfl) Tryz.prog rfl 3 (fun m11=>?_)
   refine gK 1 [(16,.map (some m11))] [] ?_
   refine NN (af.seq (SR (aj.bI 12 (p:=.abs (aN Tryz.prog 3 m11 (fun _=>none) 0)) (p':=.abs (aN Tryz.prog 3 m11 (dF (fs.take 0)) 0)) (by kernel_rfl) (congrArg (fun f=>HP.abs (aN Tryz.prog 3 _ f 0)) La.symm) ?_)))
   refine gK 4 [(63,.slice Af (fs.length) (cf)),(64,vI ↑fs.length),(65,vI 0)] [(1,a_ 9 b4)] ?_
   refine NN (af.block ?_)
   refine af.loop (ι:=Nat×Nat) (fun ((j,kn):Nat×Nat)=>(j<=fs.length)/\(kn<=j)) (fun ((j,kn):Nat×Nat)=>fs.length - j) (fun ((j,kn):Nat×Nat)=>(TW b2 f m5 m11 Af fs cf j)) (fun ((j,kn):Nat×Nat)=>[sX b2 root,pF f m t N.1.X,pI m L N.1.idx,pT t N.1.X.cH N.1.aD L N.1.us,pO N.1.O L,pD N.1.O L,pE N.1.O L,qW b1 A ns c,rK b3 X,Eh b4 Af fs cf Aa xs ca,.abs (aN Tryz.prog 3 m5 (eO Z xs) an),.abs (aN Tryz.prog 3 m11 (dF (fs.take j)) kn),.abs R]) (0,0) (idx:=[5,10,13,16,63,64,65]) (pk:=[0,1,2,3,4,5,6,7,8,9,10,12,11]) (show (0<=fs.length)/\(0<=0) from ⟨Nat.zero_le _,Nat.le_refl _⟩) (fun _=>by kernel_rfl) rfl (by kernel_rfl) ?_
   rintro⟨j,kn⟩ ⟨hj,hkn⟩
   show af _ _ _ _ (TW b2 f m5 m11 Af fs cf j) [sX b2 root,pF f m t N.1.X,pI m L N.1.idx,pT t N.1.X.cH N.1.aD L N.1.us,pO N.1.O L,pD N.1.O L,pE N.1.O L,qW b1 A ns c,rK b3 X,Eh b4 Af fs cf Aa xs ca,.abs (aN Tryz.prog 3 m5 (eO Z xs) an),.abs (aN Tryz.prog 3 m11 (dF (fs.take j)) kn),.abs R] _
   refine SR (gK 1 [(66,.bool (decide ((((j:Nat):Int):Int) < (((fs.length:Nat):Int):Int))))] [] ?_)
   refine NN (af.seq (af.bg (p:=(((j:Nat):Int):Int) < (((fs.length:Nat):Int):Int)) (fun _=>by kernel_rfl) (fun BG=>?_) (fun BG=>?_)))
   ·refine af.skip (NX (af.seq (af.block (SR ?_))))
    refine gN 4 (fun b12=>[(18,vP b12)]) (fun b12=>[(0,p_ ⟨[],some j,none,some ⟨(aq Af),ak Af,none⟩,none⟩ [((j:Nat):Int)=((j:Nat):Int),j < fs.length,(⟨(aq Af),ak Af,none⟩:Addr).spot=none,(Af:Option Addr)=some ⟨(aq Af),ak Af,none⟩] ⟨rfl,by omega,rfl,Cb hF (i:=j) (by omega),trivial⟩),(1,p_ ⟨[.old (.int .i64 ((dK fs j).at_)),.old (.int .i64 ((dK fs j).kind))],none,none,none,none⟩ [(Rd JY ⟨(aq Af),ak Af+j * 2+1,none⟩ (.int .i64 ((dK fs j).kind))),(Rd JY ⟨(aq Af),ak Af+j * 2,none⟩ (.int .i64 ((dK fs j).at_)))] ⟨tQ hF (i:=j) (by omega) (j:=1) rfl,tQ hF (i:=j) (by omega) (j:=0) rfl,trivial⟩),(3,A_ 13 b12 2)]) (fun _=>[]) (fun b12=>.blk b12 [vI ((dK fs j).at_),vI ((dK fs j).kind)] 39) (fun b12=>?_)
    refine NS (gK 4 [(72,.bool (decide (((dK fs j).kind:Int) ≥ (1:Int))))] [(1,a_ 13 b12)] ?_)
    refine aj.fY 72 (((dK fs j).kind:Int) ≥ (1:Int)) (fun _=>by kernel_rfl) (fun VP=>?_) (fun VP=>?_)
    ·refine gK 5 [(77,.bool (decide (((dK fs j).kind:Int)<=(3:Int))))] [(1,a_ 13 b12)] ?_
     refine aj.fY 77 (((dK fs j).kind:Int)<=(3:Int)) (fun _=>by kernel_rfl) (fun VQ=>?_) (fun VQ=>?_)
     ·refine gK 3 [(78,.map (some m11)),(80,vI ((dK fs j).at_))] [(2,a_ 13 b12)] ?_
      refine aj.eu 11 (d:=(some 81)) (t:=179) (K:=3) (E:=3) (b:=m11) (n:=kn) (f:=(dF (fs.take j))) (x:=(.tmp 78)) (ix:=(.tmp 80)) (key:=.int .i64 ((dK fs j).at_)) (z:=.int .i64 0) (kl:=(Lit.int IntKind.i64 (dK fs j).at_)) (r:=(dF (fs.take j) (Lit.int IntKind.i64 (dK fs j).at_))) (fun _=>by kernel_rfl) (by kernel_rfl) (fun _=>by kernel_rfl) (fun _=>by kernel_rfl) d6 Tryz.underlying179 (fun _=>by kernel_rfl) (gX (jZ.at (by omega))) (rfl) ?_
      refine aj.slot 81 (((dF (fs.take j) (Lit.int IntKind.i64 (dK fs j).at_)).getD (.int .i64 0))) (.int .i64 ((fQ (fs.take j) (dK fs j).at_))) (fun _=>by kernel_rfl) (D8) ?_
      refine gK 2 [(83,.bool (decide (((fQ (fs.take j) (dK fs j).at_):Int)=(0:Int))))] [] ?_
      refine NN (af.bg (p:=((fQ (fs.take j) (dK fs j).at_):Int)=(0:Int)) (fun _=>by kernel_rfl) (fun VR=>?_) (fun VR=>?_))
      ·refine af.region (gK 5 [(84,.map (some m11)),(86,vI ((dK fs j).at_)),(88,vI ((dK fs j).kind))] [(2,a_ 13 b12),(4,a_ 13 b12)] ?_)
       refine aj.kG 11 (d:=none) (t:=179) (K:=3) (E:=3) (b:=m11) (n:=kn) (f:=(dF (fs.take j))) (x:=(.tmp 84)) (ix:=(.tmp 86)) (y:=(.tmp 88)) (key:=.int .i64 ((dK fs j).at_)) (u:=.int .i64 ((dK fs j).kind)) (kl:=(Lit.int IntKind.i64 (dK fs j).at_)) (n':=(if (dF (fs.take j) (Lit.int IntKind.i64 (dK fs j).at_)).isSome then kn else kn+1)) (f':=(dF (fs.take (j+1)))) (fun _=>by kernel_rfl) (by kernel_rfl) (fun _=>by kernel_rfl) (fun _=>by kernel_rfl) (fun _=>by kernel_rfl) d6 Tryz.underlying179 (by unfold maxLen;omega) (gX (jZ.at (by omega))) (rfl) (by rw [qh (by omega)];exact Lb ⟨by omega,by omega⟩ (by omega)) ?_
       refine NL (ai.aJ (NX (af.region ?_)))
       refine gK 2 [(65,vI ↑(j+1))] [(0,p_ ⟨[],none,none,none,some (vI ↑(j+1))⟩ [(Value.int .i64 (IntKind.wrap .i64 (((j:Nat):Int)+1)))=(.int .i64 ↑(j+1))] ⟨bA (by omega) (by omega) (by omega),trivial⟩)] ?_
       refine NL ?_
       exact ai.turn ((j+1),(if (dF (fs.take j) (Lit.int IntKind.i64 (dK fs j).at_)).isSome then kn else kn+1)) (idx:=[5,10,13,16,63,64,65]) (pk:=[0,1,2,3,4,5,6,7,8,9,10,11,12]) (show (((j+1))<=fs.length)/\(((if (dF (fs.take j) (Lit.int IntKind.i64 (dK fs j).at_)).isSome then kn else kn+1))<=((j+1))) from ⟨by omega,by split<;>omega⟩) (by show fs.length - ((j+1)) < fs.length - j;omega) (fun _=>by kernel_rfl) rfl (by kernel_rfl)
      refine af.skip (ai.aJ (NX (af.region ?_)))
      refine aj.bI 11 (p:=.abs (aN Tryz.prog 3 m11 (dF (fs.take j)) kn)) (p':=.abs (aN Tryz.prog 3 m11 (dF (fs.take (j+1))) kn)) (by kernel_rfl) (by rw [qh (by omega),wo];unfold FK;omega) ?_
      refine gK 2 [(65,vI ↑(j+1))] [(0,p_ ⟨[],none,none,none,some (vI ↑(j+1))⟩ [(Value.int .i64 (IntKind.wrap .i64 (((j:Nat):Int)+1)))=(.int .i64 ↑(j+1))] ⟨bA (by omega) (by omega) (by omega),trivial⟩)] ?_
      refine NL ?_
      exact ai.turn ((j+1),kn) (idx:=[5,10,13,16,63,64,65]) (pk:=[0,1,2,3,4,5,6,7,8,9,10,11,12]) (show (((j+1))<=fs.length)/\(kn<=((j+1))) from ⟨by omega,by omega⟩) (by show fs.length - ((j+1)) < fs.length - j;omega) (fun _=>by kernel_rfl) rfl (by kernel_rfl)
     refine gK 4 [(81,undef)] [] ?_
     refine gK 2 [(83,.bool false)] [] ?_
     refine NN (CF (af.skip (ai.aJ (NX (af.region ?_)))))
     refine aj.bI 11 (p:=.abs (aN Tryz.prog 3 m11 (dF (fs.take j)) kn)) (p':=.abs (aN Tryz.prog 3 m11 (dF (fs.take (j+1))) kn)) (by kernel_rfl) (by rw [qh (by omega),wo];unfold FK;omega) ?_
     refine gK 2 [(65,vI ↑(j+1))] [(0,p_ ⟨[],none,none,none,some (vI ↑(j+1))⟩ [(Value.int .i64 (IntKind.wrap .i64 (((j:Nat):Int)+1)))=(.int .i64 ↑(j+1))] ⟨bA (by omega) (by omega) (by omega),trivial⟩)] ?_
     refine NL ?_
     exact ai.turn ((j+1),kn) (idx:=[5,10,13,16,63,64,65]) (pk:=[0,1,2,3,4,5,6,7,8,9,10,11,12]) (show (((j+1))<=fs.length)/\(kn<=((j+1))) from ⟨by omega,by omega⟩) (by show fs.length - ((j+1)) < fs.length - j;omega) (fun _=>by kernel_rfl) rfl (by kernel_rfl)
    refine gK 9 [(77,.bool false),(81,undef)] [] ?_
    refine gK 2 [(83,.bool false)] [] ?_
    refine NN (CF (af.skip (ai.aJ (NX (af.region ?_)))))
    refine aj.bI 11 (p:=.abs (aN Tryz.prog 3 m11 (dF (fs.take j)) kn)) (p':=.abs (aN Tryz.prog 3 m11 (dF (fs.take (j+1))) kn)) (by kernel_rfl) (by rw [qh (by omega),wo];unfold FK;omega) ?_
    refine gK 2 [(65,vI ↑(j+1))] [(0,p_ ⟨[],none,none,none,some (vI ↑(j+1))⟩ [(Value.int .i64 (IntKind.wrap .i64 (((j:Nat):Int)+1)))=(.int .i64 ↑(j+1))] ⟨bA (by omega) (by omega) (by omega),trivial⟩)] ?_
    refine NL ?_
    exact ai.turn ((j+1),kn) (idx:=[5,10,13,16,63,64,65]) (pk:=[0,1,2,3,4,5,6,7,8,9,10,11,12]) (show (((j+1))<=fs.length)/\(kn<=((j+1))) from ⟨by omega,by omega⟩) (by show fs.length - ((j+1)) < fs.length - j;omega) (fun _=>by kernel_rfl) rfl (by kernel_rfl)
   refine af.exit (ai.aU (ai.aU (ai.cM (NX (SR ?_)))))
   refine aj.bI 11 (p:=.abs (aN Tryz.prog 3 m11 (dF (fs.take j)) kn)) (p':=.abs (aN Tryz.prog 3 m11 (dF fs) kn)) (by kernel_rfl) (by rw [show fs.take j=fs by rw [show j=fs.length by omega,List.take_length]]) ?_
   refine gN 5 (fun b13=>[(19,vP b13)]) (fun b13=>[(1,a_ 0 b2)]) (fun _=>[]) (fun b13=>.blk b13 [.nilIface,vP f,.nilIface,vI (root),.slice none (0) (0)] 93) (fun b13=>?_)
   refine NS (gN 11 (fun b14=>[(94,vP b13),(104,.agg #[.iface 181 (vP b14),vP f,vI (root),.map (some m5),vI 0])]) (fun b14=>[(8,a_ 0 b2)]) (fun _=>[]) (fun b14=>.blk b14 [.iface 54 (vP f),.map (some m11),vI 0] 183) (fun b14=>?_))
   refine gN 5 (fun _=>[]) (fun b15=>[(4,a_ 13 b13)]) (fun b15=>[(13,[(2,.iface 180 (vP b15))])]) (fun b15=>.blk b15 [.iface 181 (vP b14),vP f,vI (root),.map (some m5),vI 0] 185) (fun b15=>?_)
   refine NS (gK 3 [(109,vP b13),(111,.iface 42 (vP b13))] [] ?_)
   refine gL [] (Rk b13) ?_
   rintro _ _ ⟨rfl,rfl⟩
   refine gC 3 [] [(2,a_ 13 b13)] [(13,[(0,.iface 42 (vP b13))])] ?_
   refine NS (gK 3 [(8,vP b13),(9,vI 0)] [] ?_)
   refine NN (af.ret (ai.mem (fun w hS=>hS.jF (e:=48) (size:=13)) ?_))
   exact ai.oU (v:=.tuple #[vP b13,vI 0]) (l:=(TY b13 f b15 root b14 m5 m11 Z xs an fs kn++[pF f m t N.1.X,pI m L N.1.idx,pT t N.1.X.cH N.1.aD L N.1.us,pO N.1.O L,pD N.1.O L,pE N.1.O L])) (bG:=[]) [] [13,15,14,10,11,16,1,2,3,4,5,6,12] hle0 (fun _=>by kernel_rfl) trivial rfl (by kernel_rfl) (.inr ⟨Ci oy.1 oy.2 hr Cs,N,L,b13,b15,b14,f,m,t,m5,an,m11,kn,Z,rfl,rfl,hZ⟩)
  refine af.region (gK 3 [(30,.slice A (ns.length) (c)),(31,.func (.func 82) #[] #[vP b2])] [(1,a_ 7 b1)] ?_)
  refine gL [8] (NZ (β:=β) hno A c hG hB b2) ?_
  rintro _ _ ⟨rfl,rfl⟩
  refine gK 1 [(12,vI (-1))] [] ?_
  refine NN (af.seq (SR (gK 2 [(34,.bool true)] [] ?_)))
  refine NN (CT (SR (gK 2 [(8,.pointer none),(9,vI 141)] [] ?_)))
  refine NN (af.ret (ai.ar ?_))
  exact ai.oU (v:=.tuple #[.pointer none,vI 141]) (l:=[]) (bG:=[]) [] [7] hle0 (fun _=>by kernel_rfl) trivial rfl (by kernel_rfl) (.inl ⟨by rw [zM oy.1 oy.2 hno];decide,by rw [zM oy.1 oy.2 hno],rfl⟩)
 refine af.region (gK 2 [(21,.agg #[.slice A (ns.length) (c)]),(22,.agg #[vI (X.cN),vI (X.cB),vI (X.cH),vI (X.cS),vI (X.cZ)])] [(0,a_ 1 b1),(1,A_ 3 b3 5)] ?_)
 refine gL [] (NW (β:=β) (root:=root) oy A c hG hB) ?_
 rintro _ _ ⟨rfl,rfl⟩
 refine gK 5 [(10,.pointer none),(11,vI ((cL X ns root)))] [] ?_
 refine NN (af.seq (SR (gK 2 [(27,.bool (!(decide (((cL X ns root):Int)=(0:Int)))))] [] ?_)))
 refine NN (af.dm (p:=((cL X ns root):Int)=(0:Int)) (fun _=>by kernel_rfl) (fun T3=>?_) (fun T3=>?_))
 ·refine SR (gK 3 [(8,.pointer none),(9,vI ((cL X ns root)))] [] ?_)
  refine NN (af.ret (ai.ar ?_))
  exact ai.oU (v:=.tuple #[.pointer none,vI ((cL X ns root))]) (l:=[]) (bG:=[]) [] [0] hle0 (fun _=>by kernel_rfl) trivial rfl (by kernel_rfl) (.inl ⟨Cw oy,rfl,rfl⟩)
 exact absurd T3 (Cw oy)
end
section
open Go.RowKit Go.Maps bH aE
attribute [local irreducible] aj aS af ai
noncomputable abbrev T4 (w)(f:Nat) (o) (root) (tA) (tr:List aB) (tC):=(.blk w [.iface 42 (vP w),vP f,.iface 180 (vP o),vI (root),.slice tA (tr.length) (tC)] 93:HP)
noncomputable abbrev VS (o)(q)(f:Nat) (root) (am) (tr:List aB):=(.blk o [.iface 181 (vP q),vP f,vI (root),.map (some am),vI (((tr.length:Nat):Int))] 185:HP)
noncomputable abbrev VT (q)(f:Nat) (km) (tr:List aB):=(.blk q [.iface 54 (vP f),.map (some km),vI (((tr.length:Nat):Int))] 183:HP)
noncomputable abbrev T5 (am)(Z)(xs)(an):=(.abs (aN Tryz.prog 3 am (eO Z xs) an):HP)
noncomputable abbrev T6 (km)(fs)(kn):=(.abs (aN Tryz.prog 3 km (dF fs) kn):HP)
noncomputable abbrev T7 (tA)(tr:List aB) (tC):=(.abs (av 48 13 tA tr.length tC (aH aW tr)):HP)
noncomputable abbrev O6 (w)(f:Nat) (o) (root) (tA) (tr) (tC) (q) (am) (km) (Z) (xs) (an) (fs) (kn) (m:Nat) (t) (S:aI) (L:HL):=([T4 w f o root tA tr tC,VS o q f root am tr,VT q f km tr,T5 am Z xs an,T6 km fs kn,T7 tA tr tC,pF f m t S.X,pI m L S.idx,j7 t S L,pO S.O L,pD S.O L,pE S.O L]:List HP)
theorem JZ {β:Bs} (S:aI) (L:HL) (w o q f m t am an km kn:Nat) (Z:AZ) (fs:List bJ) (xs:List cC) (root:Int) (tr:List aB) (tA:Option Addr) (tC:Nat)  :
    Spec Tryz.prog β 49 #[vP w] (O6 w f o root tA tr tC q am km Z xs an fs kn m t S L) (fun v l=>v=vI (tr.length:Int)/\l=(O6 w f o root tA tr tC q am km Z xs an fs kn m t S L)):=by
 refine Spec.enter Tryz.func49 rfl Tryz.ntmps49 (Nat.le_of_ble_eq_true rfl) (fun R=>?_)
 refine SR (gK 1 [] [] ?_)
 refine NS (gK 6 [(2,vI ↑tr.length)] [(3,a_ 0 w)] ?_)
 refine NN (af.ret ?_)
 exact RT (vI ↑tr.length) [0,1,2,3,4,5,6,7,8,9,10,11,12] (⟨rfl,rfl⟩)
theorem J0 {β:Bs} (S:aI) (L:HL) (w o q f m t am an km kn:Nat) (Z:AZ) (fs:List bJ) (xs:List cC) (root:Int) (tr:List aB) (tA:Option Addr) (tC:Nat) (hI:Inv S) :
    Spec Tryz.prog β 18 #[vP w] (O6 w f o root tA tr tC q am km Z xs an fs kn m t S L) (fun v l=>∃ A cp K,v=.agg #[.slice A (bn S).length cp]/\l=(O6 w f o root tA tr tC q am km Z xs an fs kn m t S L)++[.abs (av 70 10 A (bn S).length cp (dJ K (bn S))),.abs (ju (lD (bn S) K) (bn S).length),.abs (ju (lE (bn S) K) (bn S).length)]):=by
 refine Spec.enter Tryz.func18 rfl Tryz.ntmps18 (Nat.le_of_ble_eq_true rfl) (fun R=>?_)
 refine SR (gN 1 (fun b1=>[(2,vP b1)]) (fun _=>[]) (fun _=>[]) (fun b1=>.blk b1 [.slice none (0) (0)] 24) (fun b1=>?_))
 refine NS (gK 4 [(6,vP f)] [(3,a_ 0 w)] ?_)
 refine gL [6,7,9,10,11] (LB S L f m t hI) ?_
 rintro _ _ ⟨Ao,cp,K,rfl,rfl⟩
 refine gC 1 [] [(0,a_ 16 b1)] [(16,[(0,.slice Ao ((bn S).length) (cp))])] ?_
 refine NN (af.ret ?_)
 exact ai.ret (v:=.agg #[.slice Ao ((bn S).length) (cp)]) (l:=[T4 w f o root tA tr tC,.blk o [.iface 181 (vP q),vP f,vI (root),.map (some am),vI ↑tr.length] 185,.blk q [.iface 54 (vP f),.map (some km),vI ↑tr.length] 183,T5 am Z xs an,T6 km fs kn,T7 tA tr tC,pF f m t S.X,pI m L S.idx,j7 t S L,pO S.O L,pD S.O L,pE S.O L,.abs (av 70 10 Ao ((bn S).length) cp (dJ K (bn S))),.abs (ju (lD (bn S) K) (bn S).length),.abs (ju (lE (bn S) K) (bn S).length)]) (bG:=[b1=b1]) [.at 16] [8,9,10,11,12,13,0,1,14,2,3,4,5,6,7,15] (fun _=>by kernel_rfl) ⟨rfl,trivial⟩ rfl (by kernel_rfl) (⟨Ao,cp,K,rfl,rfl⟩)
theorem rE {β:Bs} (Af:Option Addr) (cf:Nat) (fs:List bJ) (hF:bX β Af (aH bV fs)) (hfl:fs.length<=2097152) (Aa:Option Addr) (ca:Nat) (xs:List cC) (hA:bX β Aa (aH cD xs)) (hxl:xs.length<=2097152) :
    Spec Tryz.prog β 29 #[.agg #[.slice Af (fs.length) (cf),.slice Aa (xs.length) (ca)]] [] (fun v l=>∃ B b C c,v=.agg #[.slice B fs.length b,.slice C xs.length c]/\l=[.abs (av 39 2 B fs.length b (aH bV fs)),.abs (av 41 5 C xs.length c (aH cD xs))]):=by
 refine Spec.enter Tryz.func29 rfl Tryz.ntmps29 (Nat.le_of_ble_eq_true rfl) (fun R=>?_)
 refine SR (gN 1 (fun b2=>[(1,vP b2)]) (fun _=>[]) (fun _=>[]) (fun b2=>.blk b2 [.slice Af (fs.length) (cf),.slice Aa (xs.length) (ca)] 32) (fun b2=>?_))
 refine gN 1 (fun b3=>[(2,vP b3)]) (fun _=>[]) (fun _=>[]) (fun b3=>.blk b3 [.slice none (0) (0),.slice none (0) (0)] 32) (fun b3=>?_)
 refine NS (gN 2 (fun b4=>[(3,.slice (some ⟨b4,0,none⟩) (0) (0))]) (fun _=>[]) (fun _=>[]) (fun b4=>.blk b4 [] 39) (fun b4=>?_))
 refine NS (aj.mem (fun w hS=>hS.qt (i:=3) (b:=b4) (cs:=[]) (e:=39) 2 0 (by kernel_rfl) rfl (by decide)) ?_)
 refine gK 3 [(6,.slice (some ⟨b4,0,none⟩) (0) (0)),(8,.slice Af (fs.length) (cf))] [(2,a_ 1 b2)] ?_
 refine aj.append 3 (d:=(some 9)) (t:=29) (e:=39) (z:=.agg #[vI 0,vI 0]) (size:=2) (bytes:=16) (n:=0) (cap:=0) (A:=some ⟨b4,0,none⟩) (xs:=[]) (s:=(.tmp 6)) (x:=(.tmp 8)) (ats:=#[29,29]) (A':=Af) (m:=fs.length) (c':=cf) (news:=(aH bV fs)) (fun _=>by kernel_rfl) rfl (by kernel_rfl) (fun _=>by kernel_rfl) (fun _=>by kernel_rfl) Tryz.underlying29 (by kernel_rfl) rfl (by decide) (qR (f:=bV) (s:=2) (fun _=>rfl) _) (qD (JC) _ _) (hF.src) (by unfold maxLen;omega) (by omega) (fun A5 c6=>?_)
 refine aj.bI 3 (p:=.abs (av 39 2 A5 (0+fs.length) c6 ([]++(aH bV fs)))) (p':=.abs (av 39 2 A5 fs.length c6 (aH bV fs))) (by kernel_rfl) (by rw [Nat.zero_add,List.nil_append]) ?_
 refine aj.slot 9 (.slice A5 (0+fs.length) (c6)) (.slice A5 (fs.length) (c6)) (fun _=>by kernel_rfl) (by rw [Nat.zero_add]) ?_
 refine gK 1 [(3,.slice A5 (fs.length) (c6))] [] ?_
 refine NS (gN 2 (fun b7=>[(4,.slice (some ⟨b7,0,none⟩) (0) (0))]) (fun _=>[]) (fun _=>[]) (fun b7=>.blk b7 [] 41) (fun b7=>?_))
 refine NS (aj.mem (fun w hS=>hS.qt (i:=4) (b:=b7) (cs:=[]) (e:=41) 5 0 (by kernel_rfl) rfl (by decide)) ?_)
 refine gK 3 [(11,.slice (some ⟨b7,0,none⟩) (0) (0)),(13,.slice Aa (xs.length) (ca))] [(2,a_ 1 b2)] ?_
 refine aj.append 4 (d:=(some 14)) (t:=30) (e:=41) (z:=.agg #[vI 0,vI 0,.string ⟨#[]⟩,.string ⟨#[]⟩,.string ⟨#[]⟩]) (size:=5) (bytes:=64) (n:=0) (cap:=0) (A:=some ⟨b7,0,none⟩) (xs:=[]) (s:=(.tmp 11)) (x:=(.tmp 13)) (ats:=#[30,30]) (A':=Aa) (m:=xs.length) (c':=ca) (news:=(aH cD xs)) (fun _=>by kernel_rfl) rfl (by kernel_rfl) (fun _=>by kernel_rfl) (fun _=>by kernel_rfl) Tryz.underlying30 (by kernel_rfl) rfl (by decide) (qR (f:=cD) (s:=5) (fun _=>rfl) _) (qD (Nd) _ _) (hA.src) (by unfold maxLen;omega) (by omega) (fun A8 c9=>?_)
 refine aj.bI 4 (p:=.abs (av 41 5 A8 (0+xs.length) c9 ([]++(aH cD xs)))) (p':=.abs (av 41 5 A8 xs.length c9 (aH cD xs))) (by kernel_rfl) (by rw [Nat.zero_add,List.nil_append]) ?_
 refine aj.slot 14 (.slice A8 (0+xs.length) (c9)) (.slice A8 (xs.length) (c9)) (fun _=>by kernel_rfl) (by rw [Nat.zero_add]) ?_
 refine gK 1 [(4,.slice A8 (xs.length) (c9))] [] ?_
 refine NS (gC 4 [] [(3,A_ 2 b3 2)] [(2,[(0,.slice A5 (fs.length) (c6)),(1,.slice A8 (xs.length) (c9))])] ?_)
 refine NN (af.ret ?_)
 exact ai.ret (v:=.agg #[.slice A5 (fs.length) (c6),.slice A8 (xs.length) (c9)]) (l:=[.abs (av 39 2 A5 fs.length c6 (aH bV fs)),.abs (av 41 5 A8 xs.length c9 (aH cD xs))]) (bG:=[b3=b3,b3=b3]) [.at 2,.at 2] [3,4,0] (fun _=>by kernel_rfl) ⟨rfl,rfl,trivial⟩ rfl (by kernel_rfl) (⟨A5,c6,A8,c9,rfl,rfl⟩)
theorem RO {β:Bs} (A:Option Addr) (c:Nat) (xs:List aB) (hc:xs.length<=c) :
    Spec Tryz.prog β 14 #[.slice A xs.length c] [] (fun v l=>∃ n,n<=xs.length/\n<=300/\v=.slice A n c/\l=[]):=by
 refine Spec.enter Tryz.func14 rfl Tryz.ntmps14 (Nat.le_of_ble_eq_true rfl) (fun R=>?_)
 refine SR (gK 1 [] [] ?_)
 refine NN (af.seq (SR (gK 3 [(5,.bool (decide ((((xs.length:Nat):Int):Int) > (300:Int))))] [] ?_)))
 refine NN (af.bg (p:=(((xs.length:Nat):Int):Int) > (300:Int)) (fun _=>by kernel_rfl) (fun h5=>?_) (fun h5=>?_))
 ·refine SR (gK 3 [(2,.slice A (300) (c))] [(1,p_ ⟨[],some 300,none,none,none⟩ [300=((300:Nat):Int),300<=c] ⟨rfl,by omega,trivial⟩)] ?_)
  refine NN (af.ret (ai.ar ?_))
  exact RT (.slice A (300) (c)) [0] (⟨300,by omega,by decide,rfl,rfl⟩)
 refine af.skip (NX (SR (gK 2 [(2,.slice A (xs.length) (c))] [] ?_)))
 refine NN (af.ret ?_)
 exact RT (.slice A (xs.length) (c)) [0] (⟨xs.length,Nat.le_refl _,by omega,rfl,rfl⟩)
end
section
open Go.RowKit Go.Maps bH aE
attribute [local irreducible] aj aS af ai
noncomputable abbrev pz (km)(fs)(kn):=(.abs (aN Tryz.prog 3 km (dF fs) kn):HP)
noncomputable abbrev vA (q)(f:Nat) (km) (n):=(.blk q [.iface 54 (vP f),.map (some km),vI ↑(n+1)] 183:HP)
noncomputable abbrev T8 (S:aI) (c:aB):=([(6,vI ((cQ S { c with data:=c.data.take (c.data.length / 2) }).2.mode)),(7,vI ((cQ S { c with data:=c.data.take (c.data.length / 2) }).2.uid)),(8,vI ((cQ S { c with data:=c.data.take (c.data.length / 2) }).2.gid)),(9,vI ((cQ S { c with data:=c.data.take (c.data.length / 2) }).2.sec)),(10,vI ((cQ S { c with data:=c.data.take (c.data.length / 2) }).2.nano)),(11,vI ((cQ S { c with data:=c.data.take (c.data.length / 2) }).2.code)),(12,vI ((cQ S { c with data:=c.data.take (c.data.length / 2) }).2.answer))]:Fr)
noncomputable abbrev T9 (c):=([(0,vI ((dr c 180).op)),(1,vI ((dr c 180).handle)),(2,vI ((dr c 180).other)),(3,.string (dr c 180).name),(4,.string (dr c 180).text),(5,.slice (dr c 180).dA ((dr c 180).data.length) ((dr c 180).dC)),(6,vI ((dr c 180).mode)),(7,vI ((dr c 180).uid)),(8,vI ((dr c 180).gid)),(9,vI ((dr c 180).sec)),(10,vI ((dr c 180).nano)),(11,vI ((dr c 180).code)),(12,vI ((dr c 180).answer))]:Fr)
noncomputable abbrev Ua (S:aI) (c:aB):=([(0,vI ((cQ S { c with data:=c.data.take (c.data.length / 2) }).2.op)),(1,vI ((cQ S { c with data:=c.data.take (c.data.length / 2) }).2.handle)),(2,vI ((cQ S { c with data:=c.data.take (c.data.length / 2) }).2.other)),(3,.string (cQ S { c with data:=c.data.take (c.data.length / 2) }).2.name),(4,.string (cQ S { c with data:=c.data.take (c.data.length / 2) }).2.text)]:Fr)
noncomputable abbrev zP (b3:Nat) (b4:Nat):=([(3,vP b3),(4,vP b4)]:Fr)
noncomputable abbrev Ei (km)(fs)(kn)(f:Nat) (m:Nat) (t) (S:aI) (L:HL):=([pz km fs kn,pF f m t S.X,pI m L S.idx,j7 t S L,pO S.O L,pD S.O L,pE S.O L]:List HP)
noncomputable abbrev RP (c:aB):=([(3,.string c.name),(4,.string c.text),(5,.slice c.dA (c.data.length) (c.dC))]:Fr)
noncomputable abbrev Ub (f:Nat) (m:Nat) (t) (S:aI) (c) (L2:HL):=([pF f m t ((cQ S c).1.X),pI m L2 (cQ S c).1.idx,pT t (cQ S c).1.X.cH ((cQ S c).1.aD) L2 ((cQ S c).1.us),pO ((cQ S c).1.O) L2,pD ((cQ S c).1.O) L2,pE ((cQ S c).1.O) L2]:List HP)
theorem yA {β:Bs} (c:aB) (e:Int) :
    Spec Tryz.prog β 270 #[.agg ⟨aW c⟩,vI (e)] [] (fun v l=>v=.agg ⟨aW (dr c e)⟩/\l=[]):=by
 refine Spec.enter Tryz.func270 rfl Tryz.ntmps270 (Nat.le_of_ble_eq_true rfl) (fun R=>?_)
 refine SR (gN 1 (fun b1=>[(2,vP b1)]) (fun _=>[]) (fun _=>[]) (fun b1=>pC b1 c) (fun b1=>?_))
 refine gN 1 (fun b2=>[(4,vP b2)]) (fun _=>[]) (fun _=>[]) (fun b2=>.blk b2 [vI 0,vI 0,vI 0,.string ⟨#[]⟩,.string ⟨#[]⟩,.slice none (0) (0),vI 0,vI 0,vI 0,vI 0,vI 0,vI 0,vI 0] 48) (fun b2=>?_)
 refine NN (af.seq (SR (gK 4 [(8,.bool (decide ((c.op:Int)=(11:Int))))] [(1,a_ 1 b1)] ?_)))
 refine aj.fY 8 ((c.op:Int)=(11:Int)) (fun _=>by kernel_rfl) (fun h8=>?_) (fun h8=>?_)
 ·refine gK 4 [(12,.bool true)] [] ?_
  refine NN (CT (af.region (gC 12 [] [(1,a_ 1 b1),(3,a_ 1 b1),(5,a_ 1 b1),(7,a_ 1 b1),(9,a_ 1 b1),(11,A_ 1 b1 13)] [(1,(Ds++[(11,vI 0),(12,vI 0)]))] ?_)))
  refine NS (gC 5 [] [(2,a_ 1 b1),(4,a_ 1 b1)] [(1,[(11,vI (e))])] ?_)
  refine NS (gC 2 [] [(0,A_ 1 b1 13),(1,A_ 2 b2 13)] [(2,([(0,vI (c.op)),(1,vI (c.handle))]++RP c++[(11,vI (e))]))] ?_)
  refine NN (af.ret ?_)
  exact ai.ret (v:=.agg ⟨aW { c with other:=0,mode:=0,uid:=0,gid:=0,sec:=0,nano:=0,code:=e,answer:=0 }⟩) (l:=[]) (bG:=[b2=b2,b2=b2,b2=b2,b2=b2,b2=b2,b2=b2,b2=b2,b2=b2,b2=b2,b2=b2,b2=b2,b2=b2,b2=b2]) [.at 2,.at 2,.at 2,.at 2,.at 2,.at 2,.at 2,.at 2,.at 2,.at 2,.at 2,.at 2,.at 2] [0] (fun _=>by kernel_rfl) ⟨rfl,rfl,rfl,rfl,rfl,rfl,rfl,rfl,rfl,rfl,rfl,rfl,rfl,trivial⟩ rfl (by kernel_rfl) (⟨congrArg (fun x=>Value.agg ⟨aW x⟩) (Eq.symm (if_pos (by omega):dr c e=_)),rfl⟩)
 refine gK 4 [(12,.bool (decide ((c.op:Int)=(12:Int))))] [(1,a_ 1 b1)] ?_
 refine NN (af.bg (p:=(c.op:Int)=(12:Int)) (fun _=>by kernel_rfl) (fun h12=>?_) (fun h12=>?_))
 ·refine af.region (gC 12 [] [(1,a_ 1 b1),(3,a_ 1 b1),(5,a_ 1 b1),(7,a_ 1 b1),(9,a_ 1 b1),(11,A_ 1 b1 13)] [(1,(Ds++[(11,vI 0),(12,vI 0)]))] ?_)
  refine NS (gC 5 [] [(2,a_ 1 b1),(4,a_ 1 b1)] [(1,[(11,vI (e))])] ?_)
  refine NS (gC 2 [] [(0,A_ 1 b1 13),(1,A_ 2 b2 13)] [(2,([(0,vI (c.op)),(1,vI (c.handle))]++RP c++[(11,vI (e))]))] ?_)
  refine NN (af.ret ?_)
  exact ai.ret (v:=.agg ⟨aW { c with other:=0,mode:=0,uid:=0,gid:=0,sec:=0,nano:=0,code:=e,answer:=0 }⟩) (l:=[]) (bG:=[b2=b2,b2=b2,b2=b2,b2=b2,b2=b2,b2=b2,b2=b2,b2=b2,b2=b2,b2=b2,b2=b2,b2=b2,b2=b2]) [.at 2,.at 2,.at 2,.at 2,.at 2,.at 2,.at 2,.at 2,.at 2,.at 2,.at 2,.at 2,.at 2] [0] (fun _=>by kernel_rfl) ⟨rfl,rfl,rfl,rfl,rfl,rfl,rfl,rfl,rfl,rfl,rfl,rfl,rfl,trivial⟩ rfl (by kernel_rfl) (⟨congrArg (fun x=>Value.agg ⟨aW x⟩) (Eq.symm (if_pos (by omega):dr c e=_)),rfl⟩)
 refine af.skip (NX (SR (gC 5 [] [(2,a_ 1 b1),(4,a_ 1 b1)] [(1,[(11,vI (e)),(12,vI 0)])] ?_)))
 refine NS (gC 2 [] [(0,A_ 1 b1 13),(1,A_ 2 b2 13)] [(2,([(0,vI (c.op)),(1,vI (c.handle)),(2,vI (c.other))]++RP c++[(6,vI (c.mode)),(7,vI (c.uid)),(8,vI (c.gid)),(9,vI (c.sec)),(10,vI (c.nano)),(11,vI (e))]))] ?_)
 refine NN (af.ret ?_)
 exact ai.ret (v:=.agg ⟨aW { c with code:=e,answer:=0 }⟩) (l:=[]) (bG:=[b2=b2,b2=b2,b2=b2,b2=b2,b2=b2,b2=b2,b2=b2,b2=b2,b2=b2,b2=b2,b2=b2,b2=b2,b2=b2]) [.at 2,.at 2,.at 2,.at 2,.at 2,.at 2,.at 2,.at 2,.at 2,.at 2,.at 2,.at 2,.at 2] [0] (fun _=>by kernel_rfl) ⟨rfl,rfl,rfl,rfl,rfl,rfl,rfl,rfl,rfl,rfl,rfl,rfl,rfl,trivial⟩ rfl (by kernel_rfl) (⟨congrArg (fun x=>Value.agg ⟨aW x⟩) (Eq.symm (if_neg (by omega):dr c e=_)),rfl⟩)
theorem RQ {β:Bs} (S:aI) (L:HL) (q f m t km kn n:Nat) (fs:List bJ) (hI:Inv S) (hn:n<=1048576) (k:Int) (hk:fQ fs ((n+1:Nat):Int)=k) (c:aB) (hC:fX β c) :
    Spec Tryz.prog β 269 #[vP q,.agg ⟨aW c⟩] ([.blk q [.iface 54 (vP f),.map (some km),vI (((n:Nat):Int))] 183]++Ei km fs kn f m t S L) (fun v l=>∃ L2,v=.agg ⟨aW (bF k S c).2⟩/\l=[.blk q [.iface 54 (vP f),.map (some km),vI ((((n+1):Nat):Int))] 183,pz km fs kn,pF f m t ((bF k S c).1.X),pI m L2 (bF k S c).1.idx,pT t (bF k S c).1.X.cH ((bF k S c).1.aD) L2 ((bF k S c).1.us),pO ((bF k S c).1.O) L2,pD ((bF k S c).1.O) L2,pE ((bF k S c).1.O) L2]):=by
 have hdl:=hC.dl
 have hdc:=hC.dc
 refine Spec.enter Tryz.func269 rfl Tryz.ntmps269 (Nat.le_of_ble_eq_true rfl) (fun R=>?_)
 refine SR (gN 1 (fun b3=>[(3,vP b3)]) (fun _=>[]) (fun _=>[]) (fun b3=>pC b3 c) (fun b3=>?_))
 refine gN 1 (fun b4=>[(4,vP b4)]) (fun _=>[]) (fun _=>[]) (fun b4=>.blk b4 [vI 0,vI 0,vI 0,.string ⟨#[]⟩,.string ⟨#[]⟩,.slice none (0) (0),vI 0,vI 0,vI 0,vI 0,vI 0,vI 0,vI 0] 48) (fun b4=>?_)
 refine NS (gC 8 [] [(3,a_ 0 q),(4,p_ ⟨[],none,none,none,some (vI ↑(n+1))⟩ [(Value.int .i64 (IntKind.wrap .i64 (((n:Nat):Int)+1)))=(.int .i64 ↑(n+1))] ⟨bA (by omega) (by omega) (by omega),trivial⟩),(7,a_ 0 q)] [(0,[(2,vI ↑(n+1))])] ?_)
 refine NN (af.join (ι:=Unit) (fun (u:Unit)=>(¬ k=1)/\(¬ (k=2/\(c.op=4\/c.op=5\/c.op=6\/c.op=7\/c.op=9)))/\(¬ (k=3/\c.op=9/\2<=c.data.length))) (fun (u:Unit)=>([(0,vP q)]++zP b3 b4)) (fun (u:Unit)=>([vA q f km n]++Ei km fs kn f m t S L++[.abs R,pC b3 c,pU b4])) ?_ ?_)
 ·rintro u ⟨oC,hj2,hj3⟩
  show af _ _ _ _ ([(0,vP q)]++zP b3 b4) ([vA q f km n]++Ei km fs kn f m t S L++[.abs R,pC b3 c,pU b4]) _
  refine af.seq (af.bT (S:=[vA q f km n,pC b3 c]) [0,1,2,3,4,5,6] 5 [0,9] (by kernel_rfl) (by kernel_rfl) rfl (by kernel_rfl) ?_)
  refine gR 0 [5,6] [(4,vP b4),(78,.iface 54 (vP f)),(79,.agg ⟨aW c⟩)] [0,1,2,3,4] [(3,a_ 0 q),(4,A_ 1 b3 13)] ?_
  refine mL [6,9] [2,3,4,5,6,7] (Gh S L f m t hI c hC) ?_ (by rintro _ _ ⟨L2,rfl,rfl⟩;rfl)
  rintro _ _ ⟨L2,rfl,rfl⟩
  refine aQ.last rfl rfl ?_
  refine gC 1 [] [(0,A_ 10 b4 13)] [(10,[(0,vI ((cQ S c).2.op)),(1,vI ((cQ S c).2.handle)),(2,vI ((cQ S c).2.other)),(3,.string (cQ S c).2.name),(4,.string (cQ S c).2.text),(5,.slice (cQ S c).2.dA ((cQ S c).2.data.length) ((cQ S c).2.dC)),(6,vI ((cQ S c).2.mode)),(7,vI ((cQ S c).2.uid)),(8,vI ((cQ S c).2.gid)),(9,vI ((cQ S c).2.sec)),(10,vI ((cQ S c).2.nano)),(11,vI ((cQ S c).2.code)),(12,vI ((cQ S c).2.answer))])] ?_
  refine NL (ai.np (NX (af.ret ?_)))
  exact ai.ret (v:=.agg ⟨aW ((cQ S c).2)⟩) (l:=([vA q f km n,pz km fs kn]++Ub f m t S c L2)) (bG:=[b4=b4,b4=b4,b4=b4,b4=b4,b4=b4,b4=b4,b4=b4,b4=b4,b4=b4,b4=b4,b4=b4,b4=b4,b4=b4]) [.at 10,.at 10,.at 10,.at 10,.at 10,.at 10,.at 10,.at 10,.at 10,.at 10,.at 10,.at 10,.at 10] [6,7,0,1,2,3,4,5,8] (fun _=>by kernel_rfl) ⟨rfl,rfl,rfl,rfl,rfl,rfl,rfl,rfl,rfl,rfl,rfl,rfl,rfl,trivial⟩ rfl (by kernel_rfl) (⟨L2,by rw [show bF k S c=((cQ S c).1,(cQ S c).2) by unfold bF;rw [if_neg oC,if_neg hj2,if_neg hj3]]<;>exact⟨rfl,rfl⟩⟩)
 refine af.seq (af.bK (by kernel_rfl) (by kernel_rfl) ?_)
 refine gQ 8 [(16,.map (some km)),(20,vI ↑(n+1))] [(3,a_ 0 q),(7,a_ 0 q)] ?_
 refine aS.eu 1 (d:=(some 21)) (t:=179) (K:=3) (E:=3) (b:=km) (n:=kn) (f:=(dF fs)) (x:=(.tmp 16)) (ix:=(.tmp 20)) (key:=.int .i64 ↑(n+1)) (z:=.int .i64 0) (kl:=(.int .i64 ((n+1:Nat):Int))) (r:=(dF fs (.int .i64 ((n+1:Nat):Int)))) (fun _=>by kernel_rfl) (by kernel_rfl) (fun _=>by kernel_rfl) (fun _=>by kernel_rfl) d6 Tryz.underlying179 (fun _=>by kernel_rfl) (gX (Lc (by omega))) (rfl) ?_
 refine NQ (NX (af.block (SR ?_)))
 refine aj.slot 21 (((dF fs (.int .i64 ((n+1:Nat):Int))).getD (.int .i64 0))) (.int .i64 (k)) (fun _=>by kernel_rfl) (D8.trans (congrArg (Value.int .i64) hk)) ?_
 refine gK 2 [(22,.bool (decide ((k:Int)=(1:Int))))] [] ?_
 refine NN (af.bg (p:=(k:Int)=(1:Int)) (fun _=>by kernel_rfl) (fun wV=>?_) (fun wV=>?_))
 ·refine af.seq (SR (gK 3 [(26,.bool (decide ((c.op:Int)=(13:Int))))] [(1,a_ 9 b3)] ?_))
  refine NN (af.bg (p:=(c.op:Int)=(13:Int)) (fun _=>by kernel_rfl) (fun tI=>?_) (fun tI=>?_))
  ·refine af.bT (S:=[vA q f km n,pC b3 c]) [0,1,2,3,4,5] 5 [0,9] (by kernel_rfl) (by kernel_rfl) rfl (by kernel_rfl) ?_
   refine gR 0 [5] (zP b3 b4++[(30,.iface 54 (vP f)),(31,.agg ⟨aW c⟩)]) [0,1,2,3,4] [(3,a_ 0 q),(4,A_ 1 b3 13)] ?_
   refine aQ.last rfl rfl ?_
   refine gL [2,3,4,5,6,7] (Gh S L f m t hI c hC) ?_
   rintro _ _ ⟨L2,rfl,rfl⟩
   refine NL (ai.np (NX (SR ?_)))
   refine gK 1 [(33,.agg ⟨aW c⟩)] [(0,A_ 9 b3 13)] ?_
   refine gL [] (yA c 180) ?_
   rintro _ _ ⟨rfl,rfl⟩
   refine gC 1 [] [(0,A_ 10 b4 13)] [(10,(T9 c))] ?_
   refine NN (af.ret (ai.aG (ai.ar ?_)))
   exact ai.ret (v:=.agg ⟨aW (dr c 180)⟩) (l:=([vA q f km n,pz km fs kn]++Ub f m t S c L2)) (bG:=[b4=b4,b4=b4,b4=b4,b4=b4,b4=b4,b4=b4,b4=b4,b4=b4,b4=b4,b4=b4,b4=b4,b4=b4,b4=b4]) [.at 10,.at 10,.at 10,.at 10,.at 10,.at 10,.at 10,.at 10,.at 10,.at 10,.at 10,.at 10,.at 10] [6,7,0,1,2,3,4,5,8] (fun _=>by kernel_rfl) ⟨rfl,rfl,rfl,rfl,rfl,rfl,rfl,rfl,rfl,rfl,rfl,rfl,rfl,trivial⟩ rfl (by kernel_rfl) (⟨L2,by rw [show bF k S c=((cQ S c).1,dr c 180) by unfold bF;rw [if_pos wV,if_pos tI]]<;>exact⟨rfl,rfl⟩⟩)
  refine af.skip (NX (SR (gK 1 [(33,.agg ⟨aW c⟩)] [(0,A_ 9 b3 13)] ?_)))
  refine gL [] (yA c 180) ?_
  rintro _ _ ⟨rfl,rfl⟩
  refine gC 1 [] [(0,A_ 10 b4 13)] [(10,(T9 c))] ?_
  refine NN (af.ret (ai.aG (ai.ar ?_)))
  exact ai.ret (v:=.agg ⟨aW (dr c 180)⟩) (l:=([vA q f km n]++Ei km fs kn f m t S L)) (bG:=[b4=b4,b4=b4,b4=b4,b4=b4,b4=b4,b4=b4,b4=b4,b4=b4,b4=b4,b4=b4,b4=b4,b4=b4,b4=b4]) [.at 10,.at 10,.at 10,.at 10,.at 10,.at 10,.at 10,.at 10,.at 10,.at 10,.at 10,.at 10,.at 10] [0,1,2,3,4,5,6,7,8] (fun _=>by kernel_rfl) ⟨rfl,rfl,rfl,rfl,rfl,rfl,rfl,rfl,rfl,rfl,rfl,rfl,rfl,trivial⟩ rfl (by kernel_rfl) (⟨L,by rw [show bF k S c=(S,dr c 180) by unfold bF;rw [if_pos wV,if_neg tI]]<;>exact⟨rfl,rfl⟩⟩)
 refine SR (gK 2 [(35,.bool (decide ((k:Int)=(2:Int))))] [] ?_)
 refine NN (af.bg (p:=(k:Int)=(2:Int)) (fun _=>by kernel_rfl) (fun jQ=>?_) (fun jQ=>?_))
 ·refine SR (gK 2 [(38,vI (c.op))] [(1,a_ 9 b3)] ?_)
  refine NN (af.block ?_)
  refine af.join (ι:=Bool) (fun (fl:Bool)=>(fl=true↔(c.op=4\/c.op=5\/c.op=6\/c.op=7\/c.op=9))) (fun (fl:Bool)=>([(0,vP q)]++zP b3 b4++[(39,.bool fl)])) (fun (fl:Bool)=>([vA q f km n]++Ei km fs kn f m t S L++[.abs R,pC b3 c,pU b4])) ?_ ?_
  ·rintro fl hfl
   show af _ _ _ _ ([(0,vP q)]++zP b3 b4++[(39,.bool fl)]) ([vA q f km n]++Ei km fs kn f m t S L++[.abs R,pC b3 c,pU b4]) _
   refine af.cond (b:=fl) (fun _=>by kernel_rfl) (fun ji=>?_) (fun ji=>?_)
   ·refine SR (gK 1 [(45,.agg ⟨aW c⟩)] [(0,A_ 9 b3 13)] ?_)
    refine gL [] (yA c 176) ?_
    rintro _ _ ⟨rfl,rfl⟩
    refine gC 1 [] [(0,A_ 10 b4 13)] [(10,[(0,vI ((dr c 176).op)),(1,vI ((dr c 176).handle)),(2,vI ((dr c 176).other)),(3,.string (dr c 176).name),(4,.string (dr c 176).text),(5,.slice (dr c 176).dA ((dr c 176).data.length) ((dr c 176).dC)),(6,vI ((dr c 176).mode)),(7,vI ((dr c 176).uid)),(8,vI ((dr c 176).gid)),(9,vI ((dr c 176).sec)),(10,vI ((dr c 176).nano)),(11,vI ((dr c 176).code)),(12,vI ((dr c 176).answer))])] ?_
    refine NN (af.ret (ai.aG (ai.aG (ai.ar ?_))))
    exact ai.ret (v:=.agg ⟨aW (dr c 176)⟩) (l:=([vA q f km n]++Ei km fs kn f m t S L)) (bG:=[b4=b4,b4=b4,b4=b4,b4=b4,b4=b4,b4=b4,b4=b4,b4=b4,b4=b4,b4=b4,b4=b4,b4=b4,b4=b4]) [.at 10,.at 10,.at 10,.at 10,.at 10,.at 10,.at 10,.at 10,.at 10,.at 10,.at 10,.at 10,.at 10] [0,1,2,3,4,5,6,7,8] (fun _=>by kernel_rfl) ⟨rfl,rfl,rfl,rfl,rfl,rfl,rfl,rfl,rfl,rfl,rfl,rfl,rfl,trivial⟩ rfl (by kernel_rfl) (⟨L,by rw [show bF k S c=(S,dr c 176) by unfold bF;rw [if_neg (by omega),if_pos ⟨jQ,hfl.1 ji⟩]]<;>exact⟨rfl,rfl⟩⟩)
   refine af.skip (ai.aJ (ai.aJ ?_))
   exact ai.meet () (idx:=[0,3,4]) (pk:=[0,1,2,3,4,5,6,7,8,9,10]) (show (¬ k=1)/\(¬ (k=2/\(c.op=4\/c.op=5\/c.op=6\/c.op=7\/c.op=9)))/\(¬ (k=3/\c.op=9/\2<=c.data.length)) from ⟨wV,fun h=>absurd (ji.symm.trans (hfl.2 h.2)) (by decide),fun h=>by omega⟩) (fun _=>by kernel_rfl) rfl (by kernel_rfl)
  refine SR (gK 2 [(39,.bool (decide ((c.op:Int)=(4:Int))))] [] ?_)
  refine NN (af.bg (p:=(c.op:Int)=(4:Int)) (fun _=>by kernel_rfl) (fun ji=>?_) (fun ji=>?_))
  ·refine af.skip (ai.slot 39 (.bool (decide ((c.op:Int)=(4:Int)))) (.bool true) (fun _=>by kernel_rfl) (congrArg Value.bool (decide_eq_true ji)) ?_)
   exact ai.meet true (idx:=[0,3,4,39]) (pk:=[0,1,2,3,4,5,6,7,8,9,10]) (show (true=true↔(c.op=4\/c.op=5\/c.op=6\/c.op=7\/c.op=9)) from ⟨fun _=>by omega,fun _=>rfl⟩) (fun _=>by kernel_rfl) rfl (by kernel_rfl)
  refine SR (gK 2 [(39,.bool (decide ((c.op:Int)=(5:Int))))] [] ?_)
  refine NN (af.bg (p:=(c.op:Int)=(5:Int)) (fun _=>by kernel_rfl) (fun ji=>?_) (fun ji=>?_))
  ·refine af.skip (ai.slot 39 (.bool (decide ((c.op:Int)=(5:Int)))) (.bool true) (fun _=>by kernel_rfl) (congrArg Value.bool (decide_eq_true ji)) ?_)
   exact ai.meet true (idx:=[0,3,4,39]) (pk:=[0,1,2,3,4,5,6,7,8,9,10]) (show (true=true↔(c.op=4\/c.op=5\/c.op=6\/c.op=7\/c.op=9)) from ⟨fun _=>by omega,fun _=>rfl⟩) (fun _=>by kernel_rfl) rfl (by kernel_rfl)
  refine SR (gK 2 [(39,.bool (decide ((c.op:Int)=(6:Int))))] [] ?_)
  refine NN (af.bg (p:=(c.op:Int)=(6:Int)) (fun _=>by kernel_rfl) (fun ji=>?_) (fun ji=>?_))
  ·refine af.skip (ai.slot 39 (.bool (decide ((c.op:Int)=(6:Int)))) (.bool true) (fun _=>by kernel_rfl) (congrArg Value.bool (decide_eq_true ji)) ?_)
   exact ai.meet true (idx:=[0,3,4,39]) (pk:=[0,1,2,3,4,5,6,7,8,9,10]) (show (true=true↔(c.op=4\/c.op=5\/c.op=6\/c.op=7\/c.op=9)) from ⟨fun _=>by omega,fun _=>rfl⟩) (fun _=>by kernel_rfl) rfl (by kernel_rfl)
  refine SR (gK 2 [(39,.bool (decide ((c.op:Int)=(7:Int))))] [] ?_)
  refine NN (af.bg (p:=(c.op:Int)=(7:Int)) (fun _=>by kernel_rfl) (fun ji=>?_) (fun ji=>?_))
  ·refine af.skip (ai.slot 39 (.bool (decide ((c.op:Int)=(7:Int)))) (.bool true) (fun _=>by kernel_rfl) (congrArg Value.bool (decide_eq_true ji)) ?_)
   exact ai.meet true (idx:=[0,3,4,39]) (pk:=[0,1,2,3,4,5,6,7,8,9,10]) (show (true=true↔(c.op=4\/c.op=5\/c.op=6\/c.op=7\/c.op=9)) from ⟨fun _=>by omega,fun _=>rfl⟩) (fun _=>by kernel_rfl) rfl (by kernel_rfl)
  refine af.region (gK 2 [(39,.bool (decide ((c.op:Int)=(9:Int))))] [] ?_)
  refine NL ?_
  exact ai.meet ((decide (c.op=9))) (idx:=[0,3,4,39]) (pk:=[0,1,2,3,4,5,6,7,8,9,10]) (show (((decide (c.op=9)))=true↔(c.op=4\/c.op=5\/c.op=6\/c.op=7\/c.op=9)) from ⟨fun h=>by have:=of_decide_eq_true h;omega,fun h=>decide_eq_true (by omega)⟩) (fun _=>by kernel_rfl) rfl (by kernel_rfl)
 refine SR (gK 2 [(47,.bool (decide ((k:Int)=(3:Int))))] [] ?_)
 refine NN (af.bg (p:=(k:Int)=(3:Int)) (fun _=>by kernel_rfl) (fun O5=>?_) (fun O5=>?_))
 ·refine SR (gK 4 [(52,.bool (decide ((c.op:Int)=(9:Int))))] [(1,a_ 9 b3)] ?_)
  refine aj.fY 52 ((c.op:Int)=(9:Int)) (fun _=>by kernel_rfl) (fun Kl=>?_) (fun Kl=>?_)
  ·refine gK 5 [(57,.bool (decide ((((c.data.length:Nat):Int):Int) ≥ (2:Int))))] [(1,a_ 9 b3)] ?_
   refine NN (af.bg (p:=(((c.data.length:Nat):Int):Int) ≥ (2:Int)) (fun _=>by kernel_rfl) (fun vu=>?_) (fun vu=>?_))
   ·refine SR (gK 3 [(5,.slice c.dA (c.data.length) (c.dC))] [(1,a_ 9 b3)] ?_)
    refine NS (gK 5 [(64,.slice c.dA ((c.data.length / 2)) (c.dC))] [(3,p_ ⟨[],none,none,none,some (vI ↑(c.data.length / 2))⟩ [(Value.int .i64 (IntKind.wrap .i64 (Int.tdiv ((c.data.length:Nat):Int) 2)))=(.int .i64 ↑(c.data.length / 2))] ⟨bA (Int.ofNat_tdiv _ _).symm (by omega) (by omega),trivial⟩),(4,p_ ⟨[],some (c.data.length / 2),none,none,none⟩ [((c.data.length / 2:Nat):Int)=(((c.data.length / 2):Nat):Int),(c.data.length / 2)<=c.dC] ⟨rfl,by omega,trivial⟩)] ?_)
    refine aj.slot 64 (.slice c.dA ((c.data.length / 2)) (c.dC)) (.slice c.dA ((c.data.take (c.data.length / 2)).length) (c.dC)) (fun _=>by kernel_rfl) (by rw [List.length_take,Nat.min_eq_left (by omega)]) ?_
    refine gC 2 [] [(1,a_ 9 b3)] [(9,[(5,.slice c.dA ((c.data.take (c.data.length / 2)).length) (c.dC))])] ?_
    refine NN (af.seq (af.bT (S:=[vA q f km n,.blk b3 [vI (c.op),vI (c.handle),vI (c.other),.string c.name,.string c.text,.slice c.dA ((c.data.take (c.data.length / 2)).length) (c.dC),vI (c.mode),vI (c.uid),vI (c.gid),vI (c.sec),vI (c.nano),vI (c.code),vI (c.answer)] 48]) [0,1,2,3,4,5,6] 5 [0,9] (by kernel_rfl) (by kernel_rfl) rfl (by kernel_rfl) ?_))
    refine gR 0 [5,6] (zP b3 b4++[(5,.slice c.dA (c.data.length) (c.dC)),(69,.iface 54 (vP f)),(70,.agg #[vI (c.op),vI (c.handle),vI (c.other),.string c.name,.string c.text,.slice c.dA ((c.data.take (c.data.length / 2)).length) (c.dC),vI (c.mode),vI (c.uid),vI (c.gid),vI (c.sec),vI (c.nano),vI (c.code),vI (c.answer)])]) [0,1,2,3,4] [(3,a_ 0 q),(4,A_ 1 b3 13)] ?_
    refine mL [6,9] [2,3,4,5,6,7] (Gh S L f m t hI { c with data:=c.data.take (c.data.length / 2) } (G3 hC)) ?_ (by rintro _ _ ⟨L2,rfl,rfl⟩;rfl)
    rintro _ _ ⟨L2,rfl,rfl⟩
    refine aQ.last rfl rfl ?_
    refine gC 1 [] [(0,A_ 9 b3 13)] [(9,(Ua S c++[(5,.slice (cQ S { c with data:=c.data.take (c.data.length / 2) }).2.dA ((cQ S { c with data:=c.data.take (c.data.length / 2) }).2.data.length) ((cQ S { c with data:=c.data.take (c.data.length / 2) }).2.dC))]++T8 S c))] ?_
    refine NL (ai.np (NX (SR ?_)))
    refine gC 3 [] [(2,a_ 9 b3)] [(9,[(5,.slice c.dA (c.data.length) (c.dC))])] ?_
    refine NS (gC 2 [] [(0,A_ 9 b3 13),(1,A_ 10 b4 13)] [(10,(Ua S c++[(5,.slice c.dA (c.data.length) (c.dC))]++T8 S c))] ?_)
    refine NN (af.ret (ai.aG (ai.ar ?_)))
    exact ai.ret (v:=.agg #[vI ((cQ S { c with data:=c.data.take (c.data.length / 2) }).2.op),vI ((cQ S { c with data:=c.data.take (c.data.length / 2) }).2.handle),vI ((cQ S { c with data:=c.data.take (c.data.length / 2) }).2.other),.string (cQ S { c with data:=c.data.take (c.data.length / 2) }).2.name,.string (cQ S { c with data:=c.data.take (c.data.length / 2) }).2.text,.slice c.dA (c.data.length) (c.dC),vI ((cQ S { c with data:=c.data.take (c.data.length / 2) }).2.mode),vI ((cQ S { c with data:=c.data.take (c.data.length / 2) }).2.uid),vI ((cQ S { c with data:=c.data.take (c.data.length / 2) }).2.gid),vI ((cQ S { c with data:=c.data.take (c.data.length / 2) }).2.sec),vI ((cQ S { c with data:=c.data.take (c.data.length / 2) }).2.nano),vI ((cQ S { c with data:=c.data.take (c.data.length / 2) }).2.code),vI ((cQ S { c with data:=c.data.take (c.data.length / 2) }).2.answer)]) (l:=[vA q f km n,pz km fs kn,pF f m t ((cQ S { c with data:=c.data.take (c.data.length / 2) }).1.X),pI m L2 (cQ S { c with data:=c.data.take (c.data.length / 2) }).1.idx,pT t (cQ S { c with data:=c.data.take (c.data.length / 2) }).1.X.cH ((cQ S { c with data:=c.data.take (c.data.length / 2) }).1.aD) L2 ((cQ S { c with data:=c.data.take (c.data.length / 2) }).1.us),pO ((cQ S { c with data:=c.data.take (c.data.length / 2) }).1.O) L2,pD ((cQ S { c with data:=c.data.take (c.data.length / 2) }).1.O) L2,pE ((cQ S { c with data:=c.data.take (c.data.length / 2) }).1.O) L2]) (bG:=[b4=b4,b4=b4,b4=b4,b4=b4,b4=b4,b4=b4,b4=b4,b4=b4,b4=b4,b4=b4,b4=b4,b4=b4,b4=b4]) [.at 10,.at 10,.at 10,.at 10,.at 10,.at 10,.at 10,.at 10,.at 10,.at 10,.at 10,.at 10,.at 10] [6,7,0,1,2,3,4,5,8] (fun _=>by kernel_rfl) ⟨rfl,rfl,rfl,rfl,rfl,rfl,rfl,rfl,rfl,rfl,rfl,rfl,rfl,trivial⟩ rfl (by kernel_rfl) (⟨L2,by rw [show bF k S c=((cQ S { c with data:=c.data.take (c.data.length / 2) }).1,{ (cQ S { c with data:=c.data.take (c.data.length / 2) }).2 with dA:=c.dA,dC:=c.dC,data:=c.data }) by unfold bF;rw [if_neg (by omega),if_neg (by omega),if_pos ⟨O5,by omega,by omega⟩]]<;>exact⟨rfl,rfl⟩⟩)
   refine af.skip (ai.aJ ?_)
   exact ai.meet () (idx:=[0,3,4]) (pk:=[0,1,2,3,4,5,6,7,8,9,10]) (show (¬ k=1)/\(¬ (k=2/\(c.op=4\/c.op=5\/c.op=6\/c.op=7\/c.op=9)))/\(¬ (k=3/\c.op=9/\2<=c.data.length)) from ⟨wV,fun h=>jQ h.1,fun h=>by omega⟩) (fun _=>by kernel_rfl) rfl (by kernel_rfl)
  refine gK 5 [(57,.bool false)] [] ?_
  refine NN (CF (af.skip (ai.aJ ?_)))
  exact ai.meet () (idx:=[0,3,4]) (pk:=[0,1,2,3,4,5,6,7,8,9,10]) (show (¬ k=1)/\(¬ (k=2/\(c.op=4\/c.op=5\/c.op=6\/c.op=7\/c.op=9)))/\(¬ (k=3/\c.op=9/\2<=c.data.length)) from ⟨wV,fun h=>jQ h.1,fun h=>by omega⟩) (fun _=>by kernel_rfl) rfl (by kernel_rfl)
 refine af.skip (ai.aJ ?_)
 exact ai.meet () (idx:=[0,3,4]) (pk:=[0,1,2,3,4,5,6,7,8,9,10]) (show (¬ k=1)/\(¬ (k=2/\(c.op=4\/c.op=5\/c.op=6\/c.op=7\/c.op=9)))/\(¬ (k=3/\c.op=9/\2<=c.data.length)) from ⟨wV,fun h=>jQ h.1,fun h=>by omega⟩) (fun _=>by kernel_rfl) rfl (by kernel_rfl)
end
end Go.Proofs.YtidjcblbdmfalaaGreat
section
namespace Go.Proofs
open Go.Shelf
def Tryz.lays146_ren:Go.Shelf.Ren:=⟨fun|146=>257|221=>258|268=>259|138=>260|143=>261|195=>262|197=>263|218=>264|219=>265|260=>266|217=>219|225=>231|224=>230|267=>267|266=>224|314=>268|n=>n,fun|9=>9|31=>154|3=>3|4=>4|0=>0|105=>332|21=>21|5=>5|46=>234|119=>334|139=>337|138=>336|146=>338|51=>266|n=>n,fun|1=>0|3=>1|4=>2|n=>n⟩
theorem Tryz.lays146:Go.Proofs.Lays.n146 Tryz.prog Tryz.lays146_ren:={
  mixed:=by kernel_rfl
  f138:=Tryz.func260.trans (congrArg some (by kernel_rfl))
  f143:=Tryz.func261.trans (congrArg some (by kernel_rfl))
  f146:=Tryz.func257.trans (congrArg some (by kernel_rfl))
  f195:=Tryz.func262.trans (congrArg some (by kernel_rfl))
  f197:=Tryz.func263.trans (congrArg some (by kernel_rfl))
  f217:=Tryz.func219.trans (congrArg some (by kernel_rfl))
  f218:=Tryz.func264.trans (congrArg some (by kernel_rfl))
  f219:=Tryz.func265.trans (congrArg some (by kernel_rfl))
  f221:=Tryz.func258.trans (congrArg some (by kernel_rfl))
  f224:=Tryz.func230.trans (congrArg some (by kernel_rfl))
  f225:=Tryz.func231.trans (congrArg some (by kernel_rfl))
  f260:=Tryz.func266.trans (congrArg some (by kernel_rfl))
  f266:=Tryz.func224.trans (congrArg some (by kernel_rfl))
  f267:=Tryz.func267.trans (congrArg some (by kernel_rfl))
  f268:=Tryz.func259.trans (congrArg some (by kernel_rfl))
  f314:=Tryz.func268.trans (congrArg some (by kernel_rfl))
  t0:=Tryz.underlying0
  a0:=Tryz.isAgg0
  z0:=Tryz.sizeOf0
  v0:=Tryz.zeroValue0
  t3:=Tryz.underlying3
  a3:=Tryz.isAgg3
  z3:=Tryz.sizeOf3
  v3:=Tryz.zeroValue3
  t4:=Tryz.underlying4
  a4:=Tryz.isAgg4
  z4:=Tryz.sizeOf4
  v4:=Tryz.zeroValue4
  t5:=Tryz.underlying5
  a5:=Tryz.isAgg5
  z5:=Tryz.sizeOf5
  v5:=Tryz.zeroValue5
  t9:=Tryz.underlying9
  a9:=Tryz.isAgg9
  z9:=Tryz.sizeOf9
  v9:=Tryz.zeroValue9
  t21:=Tryz.underlying21
  a21:=Tryz.isAgg21
  z21:=Tryz.sizeOf21
  v21:=Tryz.zeroValue21
  t31:=Tryz.underlying154
  a31:=Tryz.isAgg154
  z31:=Tryz.sizeOf154
  v31:=Tryz.zeroValue154
  t46:=Tryz.underlying234
  a46:=Tryz.isAgg234
  z46:=Tryz.sizeOf234
  v46:=Tryz.zeroValue234
  t51:=Tryz.underlying266
  a51:=Tryz.isAgg266
  z51:=Tryz.sizeOf266
  v51:=Tryz.zeroValue266
  t105:=Tryz.underlying332
  a105:=Tryz.isAgg332
  z105:=Tryz.sizeOf332
  v105:=Tryz.zeroValue332
  t119:=Tryz.underlying334
  a119:=Tryz.isAgg334
  z119:=Tryz.sizeOf334
  t138:=Tryz.underlying336
  a138:=Tryz.isAgg336
  z138:=Tryz.sizeOf336
  v138:=Tryz.zeroValue336
  t139:=Tryz.underlying337
  a139:=Tryz.isAgg337
  z139:=Tryz.sizeOf337
  v139:=Tryz.zeroValue337
  t146:=Tryz.underlying338
  a146:=Tryz.isAgg338
  z146:=Tryz.sizeOf338
  v146:=Tryz.zeroValue338
  g1:=by kernel_rfl
  g3:=by kernel_rfl
  g4:=by kernel_rfl }
open Go.RowKit Go.Lib in
theorem Tryz.strings_Split (s sep:ByteArray) (m:Int) (w:World) (hs:s.size < 4294967281) (hm:w.cell? ⟨0,0,none⟩=some (.int .i64 m)) (h1:1<=sep.size) :
    Calls Tryz.prog 257 #[.string s,.string sep] w fun e w'=>
      e=.returned (.slice (some ⟨w.heap.size,0,none⟩) (Lib.countB s sep+1) (Lib.countB s sep+1))/\w'=w.alloc (.cells ((Lib.splitB sep 0 (Lib.countB s sep) s).map Value.string).toArray 9):=Any.strings_Split Tryz.lays146 (by kernel_rfl) s sep m w hs hm h1
end Go.Proofs
end
namespace Go.Proofs.YtidjcblbdmfalaaGreat
section
open Go.RowKit Go.Maps bH aE
def jf (β:Bs):Prop:=∃ m,Rd β ⟨0,0,none⟩ (.int .i64 m)
theorem jf.le {β β':Bs} (h:jf β) (hle:β.le β'):jf β':=h.imp fun _ h=>h.le hle
theorem Cx (s:ByteArray):(jl s).length=Lib.countB s slash+1:=Lib.splitB_all slash (by decide) 0 _ s rfl
theorem yB (s:ByteArray):Lib.countB s slash<=s.size:=Lib.countB_le slash (by decide) _ s (Nat.le_refl _)
theorem zQ (sep:ByteArray):∀ (k:Nat) (s:ByteArray),∀ p∈Lib.splitB sep 0 k s,p.size<=s.size
  | 0,s,p,hp=>by
    rw [Lib.splitB_zero] at hp
    rw [List.mem_singleton.1 hp];exact Nat.le_refl _
  | k+1,s,p,hp=>by
    rcases Lib.indexB_cases s sep with hix|⟨i,hix,_⟩
    ·rw [Lib.splitB_miss sep 0 (k+1) s hix] at hp
     rw [List.mem_singleton.1 hp];exact Nat.le_refl _
    rw [Lib.splitB_hit sep 0 k s i hix] at hp
    rcases List.mem_cons.1 hp with rfl|hp
    ·rw [ByteArray.size_extract];omega
    have:=zQ sep k _ p hp
    rw [ByteArray.size_extract] at this
    omega
theorem G9 {s p:ByteArray} (hp:p∈jl s):p.size<=s.size:=zQ slash _ s p hp
def l6 (ps:List ByteArray):List Value:=ps.map Value.string
theorem N5 {β:Bs} (hg:jf β) (s:ByteArray) (hs:s.size<=1048576):Spec Tryz.prog β 257 #[.string s,.string ⟨#[47]⟩] [] (fun v l=>∃ b,v=.slice (some ⟨b,0,none⟩) (jl s).length (jl s).length/\l=[.abs (av 9 1 (some ⟨b,0,none⟩) (jl s).length (jl s).length (l6 (jl s)))]):=
  Spec.ER fun W hW=>by
    obtain⟨m,hg⟩:=hg
    have hm:W.cell? ⟨0,0,none⟩=some (.int .i64 m):=(World.cell?_of_block (w:=β.w0) (hW.old _ hg.1).2).trans hg.2
    have hl:=Cx s
    have hc:=yB s
    refine (Tryz.strings_Split s slash m W (by omega) hm (by decide)).mono ?_
    rintro e w' ⟨rfl,rfl⟩
    refine⟨_,_,rfl,⟨W.heap.size,by rw [hl],rfl⟩,(Keeps.refl _ _).alloc _,fun k=>k=W.heap.size,⟨⟨?_,.inr ⟨W.heap.size,(jl s).length,(l6 (jl s)).toArray,rfl,Nat.zero_le _,?_,Nat.le_refl _,?_,?_,?_⟩⟩,fun k=>?_⟩,fun k hk=>Nat.le_of_eq hk.symm⟩
    ·simp [l6]
    ·show (W.heap.push _)[W.heap.size]?=_
     simp [l6,jl]
    ·unfold maxLen;omega
    ·first|(simp [l6];done)|(simp [l6];exact List.take_of_length_le (by simp))
    ·first|(simp [l6];done)|(simp [l6];exact List.take_of_length_le (by simp))
    simp [Value.ownBlock,eq_comm]
theorem LI {β:Bs} {ps:List ByteArray} (hg:jf β) (s:ByteArray) (hs:s.size<=1048576) (hp:ps=jl s):Spec Tryz.prog β 257 #[.string s,.string ⟨#[47]⟩] [] (fun v l=>∃ b,v=.slice (some ⟨b,0,none⟩) ps.length ps.length/\l=[.abs (av 9 1 (some ⟨b,0,none⟩) ps.length ps.length (l6 ps))]):=by
  subst hp;exact N5 hg s hs
def pc (ps:List ByteArray) (j:Nat):ByteArray:=ps.getD j ⟨#[]⟩
theorem LJ {ps:List ByteArray} {j:Nat} (hj:j < ps.length):pc ps j∈ps:=by
  unfold pc
  rw [List.getD_eq_getElem?_getD,List.getElem?_eq_getElem hj]
  exact List.getElem_mem _
theorem Bd {ps:List ByteArray} {j:Nat} (hj:j < ps.length):(l6 ps)[j]?=some (.string (pc ps j)):=by
  unfold l6 pc
  rw [List.getElem?_map,List.getD_eq_getElem?_getD,List.getElem?_eq_getElem hj]
  rfl
theorem DA {ps:List ByteArray} {j:Nat} (hj:j < ps.length):ps.drop j=pc ps j::ps.drop (j+1):=by
  unfold pc
  rw [List.getD_eq_getElem?_getD,List.getElem?_eq_getElem hj]
  exact List.drop_eq_getElem_cons hj
theorem Gr {ps:List ByteArray}:(∀ p∈ps,bO p)↔∀ j,j < ps.length->bO (pc ps j):=by
  refine⟨fun h j hj=>h _ (LJ hj),fun h p hp=>?_⟩
  obtain⟨j,hj,rfl⟩:=List.getElem_of_mem hp
  have:=h j hj
  unfold pc at this
  rw [List.getD_eq_getElem?_getD,List.getElem?_eq_getElem hj] at this
  exact this
theorem Ej {n:ByteArray} (h:bO n):n.size<=1048576:=Nat.le_trans h.2.1 (by decide)
theorem Gs {O:cg}:∀ {ps:List ByteArray} {d:Nat} {e:Int},jT O d ps=.error e->e≠0
  | [],d,e,h=>by cases h;decide
  | [p],d,e,h=>by
    unfold jT at h
    split at h
    ·cases h;decide
    cases h
  | p::q::r,d,e,h=>by
    unfold jT at h
    split at h
    ·cases h;decide
    split at h
    ·cases h;decide
    split at h
    ·cases h;decide
    exact Gs h
theorem Ek {S:aI} {d:Nat} (hI:Inv S) (hd:Live S.idx ⟨d,2⟩) (path:ByteArray):(∃ e,jw S.O d path=.error e/\e≠0)\/∃ d' name,jw S.O d path=.ok (d',name)/\Live S.idx ⟨d',2⟩/\(obj S.O d').gone=false/\bO name:=by
  cases h:jw S.O d path with
  | error e=>
    refine .inl ⟨e,rfl,?_⟩
    unfold jw at h
    split at h
    ·exact Gs h
    cases h;decide
  | ok x=>
    obtain⟨d',name⟩:=x
    exact .inr ⟨d',name,rfl,Dc hI.toInv0 hd h⟩
section way
variable {O:cg} {d:Nat} {ps:List ByteArray} {j:Nat}
theorem El (hj:j+1=ps.length):jT O d (ps.drop j)=if (obj O d).gone=true then .error 170 else .ok (d,pc ps j):=by
  rw [DA (by omega),List.drop_of_length_le (by omega)]
  rfl
theorem uf (hj:j+1 < ps.length):jT O d (ps.drop j)=match aX (pc ps j) (obj O d).ah with
    | none=>.error 170
    | some t=>if t.kind=3 then .error 174 else if t.kind=1 then .error 173 else jT O t.k (ps.drop (j+1)):=by
  rw [DA (j:=j) (by omega),DA (j:=j+1) hj]
  rfl
end way
section bytes
variable {P:Program} {β:Bs} {N:Nat} {ops:Array Oper} {k:Nat} {fr:Fr} {hps:List HP} {Q:Post} {d:Option Tmp} {s:ByteArray}
theorem Bs.ok.PS {β:Bs} {w:World} (h:β.ok w) (F:Nat->Prop):β.le ⟨fun k=>β.O k\/F k,w⟩:=⟨fun _ h=>.inl h,h.os,h.tape,h.output,h.size,fun k hk=>h.old k hk⟩
theorem aj.Gt {t1 t2 e:TypeId} {x:Operand} (hop:∀ junk,fB N junk ops fr k=some (.convert t1 t2 x,d)) (hx:∀ junk,dz N fr junk x=.string s) (h1:P.underlying t1=some .string) (h2:P.underlying t2=some (.slice e)) (h3:P.underlying e=some (.int .u8))
    (K:∀ b cap,s.data.toList.length<=cap->aj P β N ops (k+1) (dO fr d (.slice (some ⟨b,0,none⟩) s.data.toList.length cap)) (hps++[.abs (kL β (fun β'=>bh β' (some ⟨b,0,none⟩) s.data.toList))]) Q):aj P β N ops k fr hps Q:=by
  refine aj.ES (ι:={ p:Nat×Nat // s.data.toList.length<=p.2 }) (v:=fun p=>.slice (some ⟨p.1.1,0,none⟩) s.data.toList.length p.1.2) (hp':=fun p=>hps++[.abs (kL β (fun β'=>bh β' (some ⟨p.1.1,0,none⟩) s.data.toList))]) hop (fun o junk w ho hS=>?_) (fun p=>K p.1.1 p.1.2 p.2)
  have hr:=run_bytes_of_string (P:=P) w t1 t2 e s h1 h2 h3
  have hsz:s.data.toList.length=s.size:=Array.length_toList ..
  generalize hw:(w.drew.alloc (.cells (bytesRow s (grownCap w s.size 0 e)) e ((bytesRow s (grownCap w s.size 0 e)).size,(bytesRow s (grownCap w s.size 0 e)).size+1)))=w' at hr
  have hk:Keeps (fun _=>False) w w':=by rw [← hw];exact (Keeps.refl _ _).drew.alloc _
  have hok:=hS.1.keeps hk (fun _ _ h=>h)
  have hheap:w'.heap[w.heap.size]?=some (.cells (bytesRow s (grownCap w s.size 0 e)) e ((bytesRow s (grownCap w s.size 0 e)).size,(bytesRow s (grownCap w s.size 0 e)).size+1)):=by
    rw [← hw]
    show (w.heap.push _)[w.heap.size]?=_
    simp
  have hsize:w.heap.size < w'.heap.size:=by
    have:=(Array.getElem?_eq_some_iff.1 hheap).1
    exact this
  refine⟨⟨(w.heap.size,grownCap w s.size 0 e),by rw [hsz];exact grownCap_ge w s.size 0 e⟩,w',.inl ?_,hS.new (F:=fun k=>k=w.heap.size) ?_ hk (fun k e=>Nat.le_of_eq e.symm)⟩
  ·obtain⟨dst,op,type,pos,after,guard⟩:=o
   cases ho
   have hr2:(convert t1 t2 (.string s)).run P w=.ok (.slice (some ⟨w.heap.size,0,none⟩) s.data.toList.length (grownCap w s.size 0 e)) w':=by rw [hr,hsz]
   simp only [execOp,hx]
   simp [hr2,Result.andThen]
  refine⟨⟨fun k=>β.O k\/k=w.heap.size,w'⟩,hok.PS _,fun _ h=>h,fun _ h=>.inr h,Nat.le_refl _,fun k hk=>⟨by rw [hk];exact hsize,rfl⟩,fun j v hj=>⟨rfl,.inr rfl,?_⟩⟩
  show World.cell? w' ⟨w.heap.size,0+j,none⟩=some v
  have hj2:=bE hj
  unfold World.cell?
  rw [hheap]
  unfold bZ at hj hj2
  rw [List.length_map] at hj2
  rw [List.getElem?_map,List.getElem?_eq_getElem hj2] at hj
  simp only [Option.map_some,Option.some.injEq] at hj
  subst hj
  unfold bytesRow
  rw [Nat.zero_add]
  simp only [Option.isSome_none,Bool.false_eq_true,if_false]
  have hj3:j < s.data.size:=by rw [← Array.length_toList];exact hj2
  rw [Array.getElem?_append_left (by simpa using hj3)]
  simp [vJ]
  exact⟨_,Array.getElem?_eq_getElem hj3,rfl⟩
end bytes
theorem Cy {β:Bs} (S:aI) (L:HL) (f m t:Nat) (hI:Inv S) (k:Nat) (hk:Live S.idx ⟨k,1⟩) (A:Option Addr) (c:Nat) (bs:List UInt8) (hbl:bs.length<=1099511627776) (hbc:bs.length<=c) :
    Spec Tryz.prog β 133 #[vP f,vP (L.b k),.slice A bs.length c] (.abs (kL β (fun β'=>bh β' A bs))::pA f m t L S) (fun v l=>∃ L2,v=.tuple #[vI (dS S k bs).1,vI (dS S k bs).2.1]/\l=pA f m t L2 (dS S k bs).2.2):=
  Spec.JB fun _ _ hA=>Ef S L f m t hI k hk A c bs hA hbl hbc
def Be (L:HL):Except Int (Nat×ByteArray)->Value
  | .error e=>.tuple #[.pointer none,.string ⟨#[]⟩,.int .i64 e]
  | .ok (d,p)=>.tuple #[.pointer (some ⟨L.b d,0,none⟩),.string p,.int .i64 0]
end
section
open Go.RowKit Go.Maps bH aE
attribute [local irreducible] aj aS af ai
theorem zw {β:Bs} (S:aI) (L:HL) (f:Nat) (hI:Inv S) (d:Nat) (hd:Live S.idx ⟨d,2⟩) (path:ByteArray) (hsz:path.size<=1048576) (hg:jf β) :
    Spec Tryz.prog β 256 #[vP f,vP (L.b d),.string path] [.abs (ax (bM S.O L)),.abs (ax (cF S.O L))] (fun v l=>v=Be L (jw S.O d path)/\l=[.abs (ax (bM S.O L)),.abs (ax (cF S.O L))]):=by
 have hkd:(obj S.O d).kind=2:=hI.kind hd
 obtain⟨ps,hps⟩:∃ ps,ps=jl path:=⟨_,rfl⟩
 have hpl:1<=ps.length/\ps.length<=1048577:=by rw [hps,Cx];have:=yB path;omega
 have LK:∀ q,q < ps.length->(pc ps q).size<=1048576:=fun q hq=>Nat.le_trans (G9 (hps ▸ LJ hq)) hsz
 refine Spec.enter Tryz.func256 rfl Tryz.ntmps256 (Nat.le_of_ble_eq_true rfl) (fun R=>?_)
 refine SR (gK 3 [] [] ?_)
 refine NS (gK 1 [(19,.string path)] [] ?_)
 refine gL [] (LI hg path hsz hps) ?_
 rintro _ _ ⟨b1,rfl,rfl⟩
 refine gK 1 [(9,.slice (some ⟨b1,0,none⟩) (ps.length) (ps.length))] [] ?_
 refine NN (af.seq (SR (gK 3 [(21,.slice (some ⟨b1,0,none⟩) (ps.length) (ps.length)),(22,vI ↑ps.length),(23,vI 0)] [] ?_)))
 refine NN (af.block ?_)
 refine af.loop (ι:=Nat) (fun (j:Nat)=>(j<=ps.length)/\(∀ q,q < j->bO (pc ps q))) (fun (j:Nat)=>ps.length - j) (fun (j:Nat)=>[(1,vP (L.b d)),(9,.slice (some ⟨b1,0,none⟩) (ps.length) (ps.length)),(21,.slice (some ⟨b1,0,none⟩) (ps.length) (ps.length)),(22,vI ↑ps.length),(23,vI ↑j)]) (fun (j:Nat)=>[pO S.O L,pE S.O L,.abs (av 9 1 (some ⟨b1,0,none⟩) ps.length ps.length (l6 ps)),.abs R]) 0 (idx:=[1,9,21,22,23]) (pk:=[1,2,0,3]) (show (0<=ps.length)/\(∀ q,q < 0->bO (pc ps q)) from ⟨Nat.zero_le _,fun q h=>absurd h (Nat.not_lt_zero q)⟩) (fun _=>by kernel_rfl) rfl (by kernel_rfl) ?_
 rintro j ⟨hj,hgd⟩
 show af _ _ _ _ [(1,vP (L.b d)),(9,.slice (some ⟨b1,0,none⟩) (ps.length) (ps.length)),(21,.slice (some ⟨b1,0,none⟩) (ps.length) (ps.length)),(22,vI ↑ps.length),(23,vI ↑j)] [pO S.O L,pE S.O L,.abs (av 9 1 (some ⟨b1,0,none⟩) ps.length ps.length (l6 ps)),.abs R] _
 refine SR (gK 1 [(24,.bool (decide ((((j:Nat):Int):Int) < (((ps.length:Nat):Int):Int))))] [] ?_)
 refine NN (af.seq (af.bg (p:=(((j:Nat):Int):Int) < (((ps.length:Nat):Int):Int)) (fun _=>by kernel_rfl) (fun Ct=>?_) (fun Ct=>?_)))
 ·refine af.skip (NX (af.seq (af.block (SR ?_))))
  refine gK 3 [(11,.string (pc ps j))] [(0,p_ ⟨[],some j,none,none,some (.pointer (some ⟨b1,j,none⟩))⟩ [(Value.pointer (some ⟨b1,0+j * 1,none⟩))=(.pointer (some ⟨b1,j,none⟩)),((j:Nat):Int)=((j:Nat):Int),j < ps.length,(⟨b1,0,none⟩:Addr).spot=none] ⟨by simp,rfl,by omega,rfl,trivial⟩),(1,p_ ⟨[.view 2 (.string (pc ps j))],none,none,none,none⟩ [(∀ F w,(av 9 1 (some ⟨b1,0,none⟩) ps.length ps.length (l6 ps)).h F w->w.cell? ⟨b1,j,none⟩=some (.string (pc ps j)))] ⟨av.cell (Bd (by omega)),trivial⟩)] ?_
  refine NS (gK 1 [(27,.string (pc ps j))] [] ?_)
  refine gL [] (sJ (pc ps j) (by have:=LK j (by omega);omega)) ?_
  rintro _ _ ⟨rfl,rfl⟩
  refine gK 1 [(29,.bool (!(decide (bO (pc ps j)))))] [] ?_
  refine NN (af.dm (p:=bO (pc ps j)) (fun _=>by kernel_rfl) (fun LM=>?_) (fun LM=>?_))
  ·refine SR (gK 3 [(6,.pointer none),(7,.string ⟨#[]⟩),(8,vI 95)] [] ?_)
   refine NN (af.ret (ai.aG (ai.ar (ai.ar (ai.aG (ai.ar ?_))))))
   exact RT (l:=[.abs (ax (bM S.O L)),.abs (ax (cF S.O L))]) (.tuple #[.pointer none,.string ⟨#[]⟩,vI 95]) [0,1,3] (⟨congrArg (Be L) (Eq.symm (show jw S.O d path=.error 95 from if_neg (fun h=>LM (Gr.1 (hps ▸ h) j (by omega))))),rfl⟩)
  refine af.skip (ai.aJ (NX (af.region ?_)))
  refine gK 2 [(23,vI ↑(j+1))] [(0,p_ ⟨[],none,none,none,some (vI ↑(j+1))⟩ [(Value.int .i64 (IntKind.wrap .i64 (((j:Nat):Int)+1)))=(.int .i64 ↑(j+1))] ⟨bA (by omega) (by omega) (by omega),trivial⟩)] ?_
  refine NL ?_
  exact ai.turn ((j+1)) (idx:=[1,9,21,22,23]) (pk:=[0,1,2,3]) (show (((j+1))<=ps.length)/\(∀ q,q < ((j+1))->bO (pc ps q)) from ⟨by omega,fun q hq=>(Nat.lt_succ_iff_lt_or_eq.1 hq).elim (hgd q) (fun e=>e ▸ LM)⟩) (by show ps.length - ((j+1)) < ps.length - j;omega) (fun _=>by kernel_rfl) rfl (by kernel_rfl)
 refine af.exit (ai.aU (ai.aU (ai.cM (NX (SR ?_)))))
 have hall:∀ p∈ps,bO p:=Gr.2 (fun q hq=>hgd q (by omega))
 refine gK 4 [(12,vI ↑(ps.length - 1))] [(2,p_ ⟨[],none,none,none,some (vI ↑(ps.length - 1))⟩ [(Value.int .i64 (IntKind.wrap .i64 (((ps.length:Nat):Int) - 1)))=(.int .i64 ↑(ps.length - 1))] ⟨bA (by omega) (by omega) (by omega),trivial⟩)] ?_
 refine NN (af.seq (SR (gK 5 [(36,.slice (some ⟨b1,0,none⟩) ((ps.length - 1)) (ps.length)),(37,vI ↑(ps.length - 1)),(38,vI 0)] [(2,p_ ⟨[],some (ps.length - 1),none,none,none⟩ [(((ps.length - 1):Nat):Int)=(((ps.length - 1):Nat):Int),(ps.length - 1)<=ps.length] ⟨rfl,by omega,trivial⟩)] ?_)))
 refine NN (af.block ?_)
 refine af.loop (ι:=Nat×Nat) (fun ((j,e):Nat×Nat)=>(j<=ps.length - 1)/\(Live S.idx ⟨e,2⟩)/\(jT S.O d ps=jT S.O e (ps.drop j))) (fun ((j,e):Nat×Nat)=>ps.length - 1 - j) (fun ((j,e):Nat×Nat)=>[(1,vP (L.b e)),(9,.slice (some ⟨b1,0,none⟩) (ps.length) (ps.length)),(12,vI ↑(ps.length - 1)),(36,.slice (some ⟨b1,0,none⟩) ((ps.length - 1)) (ps.length)),(37,vI ↑(ps.length - 1)),(38,vI ↑j)]) (fun ((j,e):Nat×Nat)=>[pO S.O L,pE S.O L,.abs (av 9 1 (some ⟨b1,0,none⟩) ps.length ps.length (l6 ps)),.abs R]) (0,d) (idx:=[1,9,12,36,37,38]) (pk:=[0,1,2,3]) (show (0<=ps.length - 1)/\(Live S.idx ⟨d,2⟩)/\(jT S.O d ps=jT S.O d (ps.drop 0)) from ⟨Nat.zero_le _,hd,by rw [List.drop_zero]⟩) (fun _=>by kernel_rfl) rfl (by kernel_rfl) ?_
 rintro⟨j,e⟩ ⟨hj,hle,hw⟩
 show af _ _ _ _ [(1,vP (L.b e)),(9,.slice (some ⟨b1,0,none⟩) (ps.length) (ps.length)),(12,vI ↑(ps.length - 1)),(36,.slice (some ⟨b1,0,none⟩) ((ps.length - 1)) (ps.length)),(37,vI ↑(ps.length - 1)),(38,vI ↑j)] [pO S.O L,pE S.O L,.abs (av 9 1 (some ⟨b1,0,none⟩) ps.length ps.length (l6 ps)),.abs R] _
 have hke:(obj S.O e).kind=2:=hI.kind hle
 refine SR (gK 1 [(39,.bool (decide ((((j:Nat):Int):Int) < ((((ps.length - 1):Nat):Int):Int))))] [] ?_)
 refine NN (af.seq (af.bg (p:=(((j:Nat):Int):Int) < ((((ps.length - 1):Nat):Int):Int)) (fun _=>by kernel_rfl) (fun ji=>?_) (fun ji=>?_)))
 ·have o9:(pc ps j).size<=1048576:=LK j (by omega)
  have hee:(obj S.O e).ah.length<=8192:=hI.gi hle
  refine af.skip (NX (af.seq (af.block (SR ?_))))
  refine gK 3 [(14,.string (pc ps j))] [(0,p_ ⟨[],some j,none,none,some (.pointer (some ⟨b1,j,none⟩))⟩ [(Value.pointer (some ⟨b1,0+j * 1,none⟩))=(.pointer (some ⟨b1,j,none⟩)),((j:Nat):Int)=((j:Nat):Int),j < (ps.length - 1),(⟨b1,0,none⟩:Addr).spot=none] ⟨by simp,rfl,by omega,rfl,trivial⟩),(1,p_ ⟨[.view 2 (.string (pc ps j))],none,none,none,none⟩ [(∀ F w,(av 9 1 (some ⟨b1,0,none⟩) ps.length ps.length (l6 ps)).h F w->w.cell? ⟨b1,j,none⟩=some (.string (pc ps j)))] ⟨av.cell (Bd (by omega)),trivial⟩)] ?_
  refine NN (af.seq ?_)
  rcases hI.mq hle (pc ps j) with hlk|⟨tk,hlk,hlv⟩|⟨tk,hlk,hlv⟩|⟨tk,hlk,hlv⟩
  ·refine af.region (gK 5 [(45,.map (some (L.m e))),(46,.string (pc ps j))] [(3,v_ 0 (bD L hke))] ?_)
   refine iA 1 hke hlk ?_
   refine NN (af.block (SR ?_))
   refine gK 1 [(48,.bool true)] [] ?_
   refine NN (CT (SR (gK 1 [] [] ?_)))
   refine NS (gK 3 [(6,.pointer none),(7,.string ⟨#[]⟩),(8,vI 170)] [] ?_)
   refine NN (af.ret (ai.aG (ai.aG (ai.ar (ai.ar (ai.aG (ai.ar ?_)))))))
   exact RT (l:=[.abs (ax (bM S.O L)),.abs (ax (cF S.O L))]) (.tuple #[.pointer none,.string ⟨#[]⟩,vI 170]) [0,1,3] (⟨congrArg (Be L) (Eq.symm (show jw S.O d path=.error 170 from (show jw S.O d path=jT S.O d ps by unfold jw;rw [← hps];exact if_pos hall).trans (hw.trans ((uf (by omega)).trans (by rw [hlk]<;>rfl))))),rfl⟩)
  ·have hkt:(obj S.O tk).kind=1:=hI.kind hlv
   refine af.region (gK 5 [(45,.map (some (L.m e))),(46,.string (pc ps j))] [(3,v_ 0 (bD L hke))] ?_)
   refine iA 1 hke hlk ?_
   refine NN (af.block (SR ?_))
   refine gK 1 [(48,.bool false)] [] ?_
   refine NN (CF (SR (gK 3 [(50,.bool false),(51,.pointer none)] [] ?_)))
   refine NN (CF (SR (gK 3 [(53,.bool true),(54,vP (L.b tk))] [] ?_)))
   refine NN (CT (SR (gK 1 [] [] ?_)))
   refine NS (gK 3 [(6,.pointer none),(7,.string ⟨#[]⟩),(8,vI 173)] [] ?_)
   refine NN (af.ret (ai.aG (ai.aG (ai.ar (ai.ar (ai.aG (ai.ar ?_)))))))
   exact RT (l:=[.abs (ax (bM S.O L)),.abs (ax (cF S.O L))]) (.tuple #[.pointer none,.string ⟨#[]⟩,vI 173]) [0,1,3] (⟨congrArg (Be L) (Eq.symm (show jw S.O d path=.error 173 from (show jw S.O d path=jT S.O d ps by unfold jw;rw [← hps];exact if_pos hall).trans (hw.trans ((uf (by omega)).trans (by rw [hlk]<;>rfl))))),rfl⟩)
  ·have hkt:(obj S.O tk).kind=2:=hI.kind hlv
   refine af.region (gK 5 [(45,.map (some (L.m e))),(46,.string (pc ps j))] [(3,v_ 0 (bD L hke))] ?_)
   refine iA 1 hke hlk ?_
   refine NN (af.block (SR ?_))
   refine gK 1 [(48,.bool false)] [] ?_
   refine NN (CF (SR (gK 3 [(50,.bool false),(51,.pointer none)] [] ?_)))
   refine NN (CF (SR (gK 3 [(53,.bool false),(54,.pointer none)] [] ?_)))
   refine NN (CF (SR (gK 3 [(56,.bool true),(57,vP (L.b tk))] [] ?_)))
   refine NN (CT (SR (gK 1 [(18,vP (L.b tk))] [] ?_)))
   refine NN (af.region (gK 2 [(1,vP (L.b tk))] [] ?_))
   refine NL (ai.aJ (ai.aJ (NX (af.region ?_))))
   refine gK 2 [(38,vI ↑(j+1))] [(0,p_ ⟨[],none,none,none,some (vI ↑(j+1))⟩ [(Value.int .i64 (IntKind.wrap .i64 (((j:Nat):Int)+1)))=(.int .i64 ↑(j+1))] ⟨bA (by omega) (by omega) (by omega),trivial⟩)] ?_
   refine NL ?_
   exact ai.turn ((j+1),tk) (idx:=[1,9,12,36,37,38]) (pk:=[0,1,2,3]) (show (((j+1))<=ps.length - 1)/\(Live S.idx ⟨tk,2⟩)/\(jT S.O d ps=jT S.O tk (ps.drop ((j+1)))) from ⟨by omega,hlv,hw.trans ((uf (by omega)).trans (by rw [hlk]<;>rfl))⟩) (by show ps.length - 1 - ((j+1)) < ps.length - 1 - j;omega) (fun _=>by kernel_rfl) rfl (by kernel_rfl)
  have hkt:(obj S.O tk).kind=3:=hI.kind hlv
  refine af.region (gK 5 [(45,.map (some (L.m e))),(46,.string (pc ps j))] [(3,v_ 0 (bD L hke))] ?_)
  refine iA 1 hke hlk ?_
  refine NN (af.block (SR ?_))
  refine gK 1 [(48,.bool false)] [] ?_
  refine NN (CF (SR (gK 3 [(50,.bool true),(51,vP (L.b tk))] [] ?_)))
  refine NN (CT (SR (gK 1 [] [] ?_)))
  refine NS (gK 3 [(6,.pointer none),(7,.string ⟨#[]⟩),(8,vI 174)] [] ?_)
  refine NN (af.ret (ai.aG (ai.aG (ai.ar (ai.ar (ai.aG (ai.ar ?_)))))))
  exact RT (l:=[.abs (ax (bM S.O L)),.abs (ax (cF S.O L))]) (.tuple #[.pointer none,.string ⟨#[]⟩,vI 174]) [0,1,3] (⟨congrArg (Be L) (Eq.symm (show jw S.O d path=.error 174 from (show jw S.O d path=jT S.O d ps by unfold jw;rw [← hps];exact if_pos hall).trans (hw.trans ((uf (by omega)).trans (by rw [hlk]<;>rfl))))),rfl⟩)
 have ej:j=ps.length - 1:=by omega
 refine af.exit (ai.aU (ai.aU (ai.cM (NX (af.seq (SR ?_))))))
 refine gK 5 [(64,.bool (obj S.O e).gone)] [(4,v_ 0 (nQ L hke))] ?_
 refine NN (af.cond (b:=(obj S.O e).gone) (fun _=>by kernel_rfl) (fun RR=>?_) (fun RR=>?_))
 ·refine SR (gK 3 [(6,.pointer none),(7,.string ⟨#[]⟩),(8,vI 170)] [] ?_)
  refine NN (af.ret (ai.ar ?_))
  exact RT (l:=[.abs (ax (bM S.O L)),.abs (ax (cF S.O L))]) (.tuple #[.pointer none,.string ⟨#[]⟩,vI 170]) [0,1,3] (⟨congrArg (Be L) (Eq.symm ((show jw S.O d path=jT S.O d ps by unfold jw;rw [← hps];exact if_pos hall).trans (hw.trans ((El (by omega)).trans (if_pos RR))))),rfl⟩)
 refine af.skip (NX (af.seq (af.bK (by kernel_rfl) (by kernel_rfl) ?_)))
 refine gQ 8 [(6,vP (L.b e)),(7,.string (pc ps (ps.length - 1))),(8,vI 0)] [(3,p_ ⟨[],some (ps.length - 1),none,none,some (.pointer (some ⟨b1,(ps.length - 1),none⟩))⟩ [(Value.pointer (some ⟨b1,0+(ps.length - 1) * 1,none⟩))=(.pointer (some ⟨b1,(ps.length - 1),none⟩)),(((ps.length - 1):Nat):Int)=(((ps.length - 1):Nat):Int),(ps.length - 1) < ps.length,(⟨b1,0,none⟩:Addr).spot=none] ⟨by simp,rfl,by omega,rfl,trivial⟩),(4,p_ ⟨[.view 2 (.string (pc ps (ps.length - 1)))],none,none,none,none⟩ [(∀ F w,(av 9 1 (some ⟨b1,0,none⟩) ps.length ps.length (l6 ps)).h F w->w.cell? ⟨b1,(ps.length - 1),none⟩=some (.string (pc ps (ps.length - 1))))] ⟨av.cell (Bd (by omega)),trivial⟩)] ?_
 refine NQ (NX (af.ret ?_))
 exact RT (l:=[.abs (ax (bM S.O L)),.abs (ax (cF S.O L))]) (.tuple #[vP (L.b e),.string (pc ps (ps.length - 1)),vI 0]) [0,1,3] (⟨by rw [← ej];exact congrArg (Be L) (Eq.symm (show jw S.O d path=.ok (e,pc ps j) from (show jw S.O d path=jT S.O d ps by unfold jw;rw [← hps];exact if_pos hall).trans (hw.trans ((El (by omega)).trans (if_neg (by rw [RR];exact Bool.false_ne_true)))))),rfl⟩)
end
section
open Go.RowKit Go.Maps bH aE
attribute [local irreducible] aj aS af ai
theorem PU {β:Bs} (S:aI) (L:HL) (f m t:Nat) (hI:Inv S) (root:Int) (hrw:(Lit.int .i64 root).wf=true) (a:cC) (LK:a.path.size<=1048576) (OT:a.to.size<=1048576) (hxz:a.text.size<=1048576) (hg:jf β) :
    Spec Tryz.prog β 255 #[vP f,vI (root),.agg #[vI (a.at_),vI (a.op),.string a.path,.string a.to,.string a.text]] [.blk f [vI (S.X.cN),vI (S.X.cB),vI (S.X.cH),vI (S.X.cS),vI (S.X.cZ),.map (some m),vP t,vI (S.X.last),vI (S.X.ah),vI (S.X.used)] 126,.abs (aN Tryz.prog 3 m (bp (bq L S.idx)) S.idx.length),.abs (cV 197 t S.X.cH S.aD (bq L S.us)),.abs (ax (bM S.O L)),.abs (ax (bN S.O L)),.abs (ax (cF S.O L))] (fun v l=>∃ L2,v=vI (cW S root a).1/\l=[.blk f [vI ((cW S root a).2.X.cN),vI ((cW S root a).2.X.cB),vI ((cW S root a).2.X.cH),vI ((cW S root a).2.X.cS),vI ((cW S root a).2.X.cZ),.map (some m),vP t,vI ((cW S root a).2.X.last),vI ((cW S root a).2.X.ah),vI ((cW S root a).2.X.used)] 126,.abs (aN Tryz.prog 3 m (bp (bq L2 (cW S root a).2.idx)) ((cW S root a).2.idx.length)),.abs (cV 197 t (cW S root a).2.X.cH ((cW S root a).2.aD) (bq L2 ((cW S root a).2.us))),.abs (ax (bM ((cW S root a).2.O) L2)),.abs (ax (bN ((cW S root a).2.O) L2)),.abs (ax (cF ((cW S root a).2.O) L2))]):=by
 have hX:=hI.hX
 refine Spec.enter Tryz.func255 rfl Tryz.ntmps255 (Nat.le_of_ble_eq_true rfl) (fun R=>?_)
 refine SR (gN 2 (fun b1=>[(5,vP b1)]) (fun _=>[]) (fun _=>[]) (fun b1=>.blk b1 [vI (a.at_),vI (a.op),.string a.path,.string a.to,.string a.text] 41) (fun b1=>?_))
 refine NN (af.seq (SR (gK 4 [(25,.bool (decide ((a.op:Int) < (1:Int))))] [(1,a_ 7 b1)] ?_)))
 refine aj.fY 25 ((a.op:Int) < (1:Int)) (fun _=>by kernel_rfl) (fun wM=>?_) (fun wM=>?_)
 ·refine gK 4 [(29,.bool true)] [] ?_
  refine NN (CT (SR (gK 1 [(6,vI 230)] [] ?_)))
  refine NN (af.ret (ai.ar ?_))
  exact RT (vI 230) [0,1,2,3,4,5,6] (⟨L,by rw [show (cW S root a)=(230,S) by unfold cW;exact if_pos (by omega)]<;>exact⟨rfl,rfl⟩⟩)
 refine gK 4 [(29,.bool (decide ((a.op:Int) > (7:Int))))] [(1,a_ 7 b1)] ?_
 refine NN (af.bg (p:=(a.op:Int) > (7:Int)) (fun _=>by kernel_rfl) (fun LM=>?_) (fun LM=>?_))
 ·refine SR (gK 1 [(6,vI 230)] [] ?_)
  refine NN (af.ret (ai.ar ?_))
  exact RT (vI 230) [0,1,2,3,4,5,6] (⟨L,by rw [show (cW S root a)=(230,S) by unfold cW;exact if_pos (by omega)]<;>exact⟨rfl,rfl⟩⟩)
 refine af.skip (NX (af.seq ?_))
 rcases hI.QK root with hix|⟨tk,hix,hlv⟩|⟨tk,hix,hlv⟩|⟨tk,hix,hlv⟩
 ·refine af.region (gK 5 [(33,.map (some m)),(34,vI (root))] [(3,a_ 0 f)] ?_)
  refine aj.eu 1 (d:=(some 35)) (t:=120) (K:=3) (E:=124) (b:=m) (n:=S.idx.length) (f:=(bp (bq L S.idx))) (x:=(.tmp 33)) (ix:=(.tmp 34)) (key:=.int .i64 (root)) (z:=.nilIface) (kl:=(.int .i64 root)) (r:=none) (fun _=>by kernel_rfl) (by kernel_rfl) (fun _=>by kernel_rfl) (fun _=>by kernel_rfl) d6 Tryz.underlying120 (fun _=>by kernel_rfl) (gX hrw) (by rw [fw,hix];rfl) ?_
  refine gK 1 [(7,.nilIface)] [] ?_
  refine NN (af.seq (SR (gK 2 [(37,.bool true)] [] ?_)))
  refine NN (CT (SR (gK 1 [(6,vI 141)] [] ?_)))
  refine NN (af.ret (ai.ar ?_))
  exact RT (vI 141) [0,1,2,3,4,5,6] (⟨L,by rw [show (cW S root a)=(141,S) by unfold cW;rw [if_neg (by omega),hix]]<;>exact⟨rfl,rfl⟩⟩)
 ·have hkt:(obj S.O tk).kind=1:=hI.kind hlv
  refine af.region (gK 5 [(33,.map (some m)),(34,vI (root))] [(3,a_ 0 f)] ?_)
  refine aj.eu 1 (d:=(some 35)) (t:=120) (K:=3) (E:=124) (b:=m) (n:=S.idx.length) (f:=(bp (bq L S.idx))) (x:=(.tmp 33)) (ix:=(.tmp 34)) (key:=.int .i64 (root)) (z:=.nilIface) (kl:=(.int .i64 root)) (r:=(some (dQ L ⟨tk,1⟩))) (fun _=>by kernel_rfl) (by kernel_rfl) (fun _=>by kernel_rfl) (fun _=>by kernel_rfl) d6 Tryz.underlying120 (fun _=>by kernel_rfl) (gX hrw) (by rw [fw,hix];rfl) ?_
  refine gK 1 [(7,.iface 129 (vP (L.b tk)))] [] ?_
  refine NN (af.seq (SR (gK 2 [(37,.bool false)] [] ?_)))
  refine NN (CF (af.skip (NX (SR (gK 7 [(8,.pointer none),(9,.bool false)] [] ?_)))))
  refine NN (af.seq (SR (gK 2 [(44,.bool true)] [] ?_)))
  refine NN (CT (SR (gK 1 [(6,vI 173)] [] ?_)))
  refine NN (af.ret (ai.ar ?_))
  exact RT (vI 173) [0,1,2,3,4,5,6] (⟨L,by rw [show (cW S root a)=(173,S) by unfold cW;rw [if_neg (by omega),hix];simp only;exact if_neg (by simp)]<;>exact⟨rfl,rfl⟩⟩)
 ·have hkt:(obj S.O tk).kind=2:=hI.kind hlv
  refine af.region (gK 5 [(33,.map (some m)),(34,vI (root))] [(3,a_ 0 f)] ?_)
  refine aj.eu 1 (d:=(some 35)) (t:=120) (K:=3) (E:=124) (b:=m) (n:=S.idx.length) (f:=(bp (bq L S.idx))) (x:=(.tmp 33)) (ix:=(.tmp 34)) (key:=.int .i64 (root)) (z:=.nilIface) (kl:=(.int .i64 root)) (r:=(some (dQ L ⟨tk,2⟩))) (fun _=>by kernel_rfl) (by kernel_rfl) (fun _=>by kernel_rfl) (fun _=>by kernel_rfl) d6 Tryz.underlying120 (fun _=>by kernel_rfl) (gX hrw) (by rw [fw,hix];rfl) ?_
  refine gK 1 [(7,.iface 135 (vP (L.b tk)))] [] ?_
  refine NN (af.seq (SR (gK 2 [(37,.bool false)] [] ?_)))
  refine NN (CF (af.skip (NX (SR (gK 7 [(8,vP (L.b tk)),(9,.bool true)] [] ?_)))))
  refine NN (af.seq (SR (gK 2 [(44,.bool false)] [] ?_)))
  refine NN (CF (af.skip (NX (SR (gK 4 [(46,vP f),(47,vP (L.b tk)),(49,.string a.path)] [(3,a_ 7 b1)] ?_)))))
  rcases Ek hI hlv a.path with ⟨e,jI,hne⟩|⟨d,name,jI,hd,iU,iM⟩
  ·refine gL (f:=256) (args:=#[vP f,vP (L.b tk),.string a.path]) (pre:=[.abs (ax (bM S.O L)),.abs (ax (cF S.O L))]) [3,5] ((by have h:=zw (β:=β) S L f hI tk hlv a.path LK hg;rw [jI] at h;exact h)) ?_
   rintro _ _ ⟨rfl,rfl⟩
   refine gK 7 [(10,.pointer none),(11,.string ⟨#[]⟩),(12,vI (e))] [] ?_
   refine NN (af.seq (SR (gK 2 [(55,.bool (!(decide ((e:Int)=(0:Int)))))] [] ?_)))
   refine NN (af.dm (p:=(e:Int)=(0:Int)) (fun _=>by kernel_rfl) (fun Uc=>?_) (fun Uc=>?_))
   ·refine SR (gK 2 [(6,vI (e))] [] ?_)
    refine NN (af.ret (ai.ar ?_))
    exact RT (vI (e)) [2,3,4,0,5,1,6] (⟨L,by rw [show (cW S root a)=(e,S) by unfold cW;rw [if_neg (by omega),hix];simp only;rw [if_pos trivial,jI]]<;>exact⟨rfl,rfl⟩⟩)
   exact absurd Uc hne
  have hkd:(obj S.O d).kind=2:=hI.kind hd
  have hsz:name.size<=1048576:=Ej iM
  refine gL (f:=256) (args:=#[vP f,vP (L.b tk),.string a.path]) (pre:=[.abs (ax (bM S.O L)),.abs (ax (cF S.O L))]) [3,5] ((by have h:=zw (β:=β) S L f hI tk hlv a.path LK hg;rw [jI] at h;exact h)) ?_
  rintro _ _ ⟨rfl,rfl⟩
  refine gK 7 [(10,vP (L.b d)),(11,.string name),(12,vI 0)] [] ?_
  refine NN (af.seq (SR (gK 2 [(55,.bool false)] [] ?_)))
  refine NN (CF (af.skip (NX (af.seq (SR (gK 2 [(58,vI (a.op))] [(1,a_ 7 b1)] ?_))))))
  refine NN (af.block (SR ?_))
  refine gK 2 [(59,.bool (decide ((a.op:Int)=(1:Int))))] [] ?_
  refine NN (af.bg (p:=(a.op:Int)=(1:Int)) (fun _=>by kernel_rfl) (fun VU=>?_) (fun VU=>?_))
  ·refine af.seq (SR (gK 3 [(61,vP f),(62,vP (L.b d)),(63,.string name)] [] ?_))
   refine gL [2,3,1,0] (tW S L f m t hI d hd name hsz) ?_
   rintro _ _ ⟨rfl,rfl⟩
   refine gK 1 [(12,vI ((ck S.X S.O S.idx d name)))] [] ?_
   refine NS (gK 2 [(66,.bool (!(decide (((ck S.X S.O S.idx d name):Int)=(0:Int)))))] [] ?_)
   refine NN (af.dm (p:=((ck S.X S.O S.idx d name):Int)=(0:Int)) (fun _=>by kernel_rfl) (fun h0=>?_) (fun h0=>?_))
   ·refine SR (gK 2 [(6,vI ((ck S.X S.O S.idx d name)))] [] ?_)
    refine NN (af.ret (ai.ar (ai.aG (ai.ar ?_))))
    exact RT (vI ((ck S.X S.O S.idx d name))) [0,1,4,3,5,2,6] (⟨L,by rw [show (cW S root a)=(ck S.X S.O S.idx d name,S) by unfold cW;rw [if_neg (by omega),hix];simp only;rw [if_pos trivial,jI];simp only;unfold mH;rw [if_pos (by omega)];unfold sQ;exact if_neg h0]<;>exact⟨rfl,rfl⟩⟩)
   have hno:=oK h0
   refine af.skip (NX (SR (gK 1 [(68,vP f)] [] ?_)))
   refine gL [0] (tV S.X f m t hX 420) ?_
   rintro _ _ ⟨rfl,rfl⟩
   refine gN 2 (fun b2=>[(71,vP b2)]) (fun _=>[]) (fun _=>[]) (fun b2=>.blk b2 [vI (S.X.last+1),vI (420),vI 0,vI 0,vI (S.X.cS),vI (S.X.cZ),vI 0,vI 0,.bool false,.slice none (0) (0)] 131) (fun b2=>?_)
   obtain⟨L2,hL2⟩:∃ L2:HL,L2=L.put (aR S.X) b2 0 none 0:=⟨_,rfl⟩
   have hfr:=hI.toInv0.fresh
   refine aj.mem (cR:=[.abs (ax (bM (aF S.O (aR S.X) (fun _=>(aY S.X 1 420))) L2)),.blk f [vI (S.X.cN),vI (S.X.cB),vI (S.X.cH),vI (S.X.cS),vI (S.X.cZ),.map (some m),vP t,vI (S.X.last+1),vI (S.X.ah),vI (S.X.used)] 126,.abs (aN Tryz.prog 3 m (bp (bq L S.idx)) S.idx.length),.abs (ax (cF S.O L)),.abs (cV 197 t S.X.cH S.aD (bq L S.us)),.abs (ax (bN S.O L)),.abs R,.blk b1 [vI (a.at_),vI (a.op),.string a.path,.string a.to,.string a.text] 41]) (fun w hS=>hS.tP hL2 hfr (o:=(aY S.X 1 420)) (i:=3) (j:=8) (ix:=[0,1,2,4,5,6,7]) rfl rfl (by kernel_rfl) rfl (by show (1:Int)≠0;decide) ((gY (L:=L2) (k:=(aR S.X)) (o:=(aY S.X 1 420)) rfl).trans (by rw [show L2.dA (aR S.X)=none by rw [hL2];exact if_pos rfl,show L2.dC (aR S.X)=0 by rw [hL2];exact if_pos rfl];rfl)) rfl) ?_
   refine aj.dG [(3,pE (aF S.O (aR S.X) (fun _=>(aY S.X 1 420))) L2)] (fun w hS=>hS.uU hL2 hfr (o:=(aY S.X 1 420)) (i:=3) rfl (by show (1:Int)≠2;decide)) ?_
   refine aj.mem (cR:=[pO (aF S.O (aR S.X) (fun _=>(aY S.X 1 420))) L2,pF f m t { S.X with last:=S.X.last+1 },pI m L S.idx,pE (aF S.O (aR S.X) (fun _=>(aY S.X 1 420))) L2,pT t S.X.cH S.aD L S.us,pD S.O L,.abs R,.blk b1 [vI (a.at_),vI (a.op),.string a.path,.string a.to,.string a.text] 41,.abs (av 5 1 none 0 0 ([]))]) (fun w hS=>hS.jF (e:=5) (size:=1)) ?_
   refine aj.mem (cR:=[pD (aF S.O (aR S.X) (fun _=>(aY S.X 1 420))) L2,pO (aF S.O (aR S.X) (fun _=>(aY S.X 1 420))) L2,pF f m t { S.X with last:=S.X.last+1 },pI m L S.idx,pE (aF S.O (aR S.X) (fun _=>(aY S.X 1 420))) L2,pT t S.X.cH S.aD L S.us,.abs R,.blk b1 [vI (a.at_),vI (a.op),.string a.path,.string a.to,.string a.text] 41]) (fun w hS=>hS.Je hL2 (o:=(aY S.X 1 420)) (i:=5) (j:=8) (ix:=[0,1,2,3,4,6,7]) rfl rfl (by kernel_rfl) rfl rfl rfl) ?_
   refine aj.dG [(3,.abs (aN Tryz.prog 3 m (bp (bq L2 S.idx)) S.idx.length)),(5,.abs (cV 197 t S.X.cH S.aD (bq L2 S.us)))] (fun w hS=>by rw [gH hL2 hfr.idx,gH hL2 hfr.us];exact hS) ?_
   refine gK 1 [(13,vP b2)] [] ?_
   refine NS (gK 5 [(72,vP f),(73,vP (L.b d)),(74,.string name),(76,.iface 129 (vP b2))] [] ?_)
   refine gL (f:=127) (args:=#[vP f,vP (L.b d),.string name,.iface 129 (vP b2)]) (pre:=[.blk f [vI (S.X.cN),vI (S.X.cB),vI (S.X.cH),vI (S.X.cS),vI (S.X.cZ),.map (some m),vP t,vI (S.X.last+1),vI (S.X.ah),vI (S.X.used)] 126,.abs (aN Tryz.prog 3 m (bp (bq L2 S.idx)) S.idx.length),.abs (ax (bM (aF S.O (aR S.X) (fun _=>(aY S.X 1 420))) L2)),.abs (ax (cF (aF S.O (aR S.X) (fun _=>(aY S.X 1 420))) L2))]) [2,3,1,4] ((by have h:=rZ (β:=β) S L2 f m t hI.toInv0 d hd name hsz hno (aY S.X 1 420) rfl (by simp [aY]) rfl (qy h0);rw [vZ hL2 (hI.uT hd),oJ hL2] at h;exact h)) ?_
   rintro _ _ ⟨rfl,rfl⟩
   refine NS (aj.dG [(4,.abs (ax (bN ((eY S d name (aY S.X 1 420)).O) L2)))] (fun w hS=>by rw [show bN ((eY S d name (aY S.X 1 420)).O) L2=bN (aF S.O (aR S.X) (fun _=>(aY S.X 1 420))) L2 from gZ];exact hS) ?_)
   have VW:Inv (eY S d name (aY S.X 1 420)):=hI.EJ hd iU iM h0 (.inl rfl) ⟨by decide,by decide⟩ (.inl ⟨by decide,rfl⟩)
   have VX:Live (eY S d name (aY S.X 1 420)).idx ⟨(aR S.X),1⟩:=FI hI (o:=(aY S.X 1 420))
   refine gK 4 [(78,vP f),(79,vP b2),(81,.string a.text)] [(3,a_ 7 b1)] ?_
   refine aj.Gt (d:=(some 82)) (t1:=9) (t2:=46) (e:=5) (x:=(.tmp 81)) (s:=a.text) (fun _=>by kernel_rfl) (fun _=>by kernel_rfl) Tryz.underlying9 Tryz.underlying46 Tryz.underlying5 (fun b3 c4 UZ=>?_)
   refine gL (f:=133) (args:=#[vP f,vP b2,.slice (some ⟨b3,0,none⟩) (a.text.data.toList.length) (c4)]) (pre:=[.abs (kL β (fun β'=>bh β' (some ⟨b3,0,none⟩) a.text.data.toList)),.blk f [vI ((eY S d name (aY S.X 1 420)).X.cN),vI ((eY S d name (aY S.X 1 420)).X.cB),vI ((eY S d name (aY S.X 1 420)).X.cH),vI ((eY S d name (aY S.X 1 420)).X.cS),vI ((eY S d name (aY S.X 1 420)).X.cZ),.map (some m),vP t,vI ((eY S d name (aY S.X 1 420)).X.last),vI ((eY S d name (aY S.X 1 420)).X.ah),vI ((eY S d name (aY S.X 1 420)).X.used)] 126,.abs (aN Tryz.prog 3 m (bp (bq L2 (eY S d name (aY S.X 1 420)).idx)) ((eY S d name (aY S.X 1 420)).idx.length)),.abs (cV 197 t S.X.cH S.aD (bq L2 S.us)),.abs (ax (bM ((eY S d name (aY S.X 1 420)).O) L2)),.abs (ax (bN ((eY S d name (aY S.X 1 420)).O) L2)),.abs (ax (cF ((eY S d name (aY S.X 1 420)).O) L2))]) [8,0,1,5,2,4,3] ((by have h:=Cy (β:=β) (eY S d name (aY S.X 1 420)) L2 f m t VW (aR S.X) VX (some ⟨b3,0,none⟩) c4 a.text.data.toList (by rw [Array.length_toList];have:a.text.data.size=a.text.size:=rfl;omega) UZ;rw [BP hL2] at h;exact h)) ?_
   rintro _ _ ⟨L3,rfl,rfl⟩
   refine NS (gK 1 [(6,vI 0)] [] ?_)
   refine NN (af.ret (ai.aG (ai.ar ?_)))
   exact RT (vI 0) [0,1,2,3,4,5,6] (⟨L3,by rw [show (cW S root a)=(0,(dS (eY S d name (aY S.X 1 420)) (aR S.X) a.text.data.toList).2.2) by unfold cW;rw [if_neg (by omega),hix];simp only;rw [if_pos trivial,jI];simp only;unfold mH;rw [if_pos (by omega)];unfold sQ;exact if_pos h0]<;>exact⟨rfl,rfl⟩⟩)
  refine SR (gK 2 [(84,.bool (decide ((a.op:Int)=(2:Int))))] [] ?_)
  refine NN (af.bg (p:=(a.op:Int)=(2:Int)) (fun _=>by kernel_rfl) (fun VY=>?_) (fun VY=>?_))
  ·refine SR (gK 3 [(86,vP f),(87,vP (L.b d)),(88,.string name)] [] ?_)
   refine gL [2,3,4,0,5,1] (Ed S L f m t hI d hd name hsz 493) ?_
   rintro _ _ ⟨L2,rfl,rfl⟩
   refine gK 1 [(6,vI ((gT S d name 493).1))] [] ?_
   refine NN (af.ret (ai.aG (ai.ar ?_)))
   exact RT (vI ((gT S d name 493).1)) [0,1,2,3,4,5,6] (⟨L2,by rw [show (cW S root a)=((gT S d name 493).1,(gT S d name 493).2) by unfold cW;rw [if_neg (by omega),hix];simp only;rw [if_pos trivial,jI];simp only;unfold mH;rw [if_neg (by omega)];exact if_pos (by omega)]<;>exact⟨rfl,rfl⟩⟩)
  refine SR (gK 2 [(90,.bool (decide ((a.op:Int)=(3:Int))))] [] ?_)
  refine NN (af.bg (p:=(a.op:Int)=(3:Int)) (fun _=>by kernel_rfl) (fun VZ=>?_) (fun VZ=>?_))
  ·refine SR (gK 5 [(92,vP f),(93,vP (L.b d)),(94,.string name),(96,.string a.text)] [(4,a_ 7 b1)] ?_)
   refine gL [2,3,4,0,5,1] (zN S L f m t hI d hd name hsz a.text hxz) ?_
   rintro _ _ ⟨L2,rfl,rfl⟩
   refine gK 1 [(6,vI ((eT S d name a.text).1))] [] ?_
   refine NN (af.ret (ai.aG (ai.ar ?_)))
   exact RT (vI ((eT S d name a.text).1)) [0,1,2,3,4,5,6] (⟨L2,by rw [show (cW S root a)=((eT S d name a.text).1,(eT S d name a.text).2) by unfold cW;rw [if_neg (by omega),hix];simp only;rw [if_pos trivial,jI];simp only;unfold mH;rw [if_neg (by omega)];rw [if_neg (by omega)];exact if_pos (by omega)]<;>exact⟨rfl,rfl⟩⟩)
  refine SR (gK 2 [(98,.bool (decide ((a.op:Int)=(4:Int))))] [] ?_)
  refine NN (af.bg (p:=(a.op:Int)=(4:Int)) (fun _=>by kernel_rfl) (fun V0=>?_) (fun V0=>?_))
  ·refine SR (gK 3 [(100,vP f),(101,vP (L.b d)),(102,.string name)] [] ?_)
   refine gL [2,3,4,0,5,1] (Cq S L f m t hI d hd name hsz) ?_
   rintro _ _ ⟨L2,rfl,rfl⟩
   refine gK 1 [(6,vI ((ez S d name).1))] [] ?_
   refine NN (af.ret (ai.aG (ai.ar ?_)))
   exact RT (vI ((ez S d name).1)) [0,1,2,3,4,5,6] (⟨L2,by rw [show (cW S root a)=((ez S d name).1,(ez S d name).2) by unfold cW;rw [if_neg (by omega),hix];simp only;rw [if_pos trivial,jI];simp only;unfold mH;rw [if_neg (by omega)];rw [if_neg (by omega)];rw [if_neg (by omega)];exact if_pos (by omega)]<;>exact⟨rfl,rfl⟩⟩)
  refine SR (gK 2 [(104,.bool (decide ((a.op:Int)=(5:Int))))] [] ?_)
  refine NN (af.bg (p:=(a.op:Int)=(5:Int)) (fun _=>by kernel_rfl) (fun U0=>?_) (fun U0=>?_))
  ·refine SR (gK 3 [(106,vP f),(107,vP (L.b d)),(108,.string name)] [] ?_)
   refine gL [2,3,4,0,5,1] (Ee S L f m t hI d hd name hsz) ?_
   rintro _ _ ⟨L2,rfl,rfl⟩
   refine gK 1 [(6,vI ((eU S d name).1))] [] ?_
   refine NN (af.ret (ai.aG (ai.ar ?_)))
   exact RT (vI ((eU S d name).1)) [0,1,2,3,4,5,6] (⟨L2,by rw [show (cW S root a)=((eU S d name).1,(eU S d name).2) by unfold cW;rw [if_neg (by omega),hix];simp only;rw [if_pos trivial,jI];simp only;unfold mH;rw [if_neg (by omega)];rw [if_neg (by omega)];rw [if_neg (by omega)];rw [if_neg (by omega)];exact if_pos (by omega)]<;>exact⟨rfl,rfl⟩⟩)
  refine SR (gK 2 [(110,.bool (decide ((a.op:Int)=(6:Int))))] [] ?_)
  refine NN (af.bg (p:=(a.op:Int)=(6:Int)) (fun _=>by kernel_rfl) (fun U1=>?_) (fun U1=>?_))
  ·refine SR (gK 4 [(113,vP f),(114,vP (L.b tk)),(116,.string a.to)] [(3,a_ 7 b1)] ?_)
   rcases Ek hI hlv a.to with ⟨e2,Cz,Ge⟩|⟨to,toName,Cz,hd2,Rz,Nt⟩
   ·refine gL (f:=256) (args:=#[vP f,vP (L.b tk),.string a.to]) (pre:=[.abs (ax (bM S.O L)),.abs (ax (cF S.O L))]) [0,1] ((by have h:=zw (β:=β) S L f hI tk hlv a.to OT hg;rw [Cz] at h;exact h)) ?_
    rintro _ _ ⟨rfl,rfl⟩
    refine gK 7 [(14,.pointer none),(15,.string ⟨#[]⟩),(16,vI (e2))] [] ?_
    refine NN (af.seq (SR (gK 2 [(122,.bool (!(decide ((e2:Int)=(0:Int)))))] [] ?_)))
    refine NN (af.dm (p:=(e2:Int)=(0:Int)) (fun _=>by kernel_rfl) (fun RS=>?_) (fun RS=>?_))
    ·refine SR (gK 2 [(6,vI (e2))] [] ?_)
     refine NN (af.ret (ai.ar (ai.aG (ai.ar ?_))))
     exact RT (vI (e2)) [2,3,4,0,5,1,6] (⟨L,by rw [show (cW S root a)=(e2,S) by unfold cW;rw [if_neg (by omega),hix];simp only;rw [if_pos trivial,jI];simp only;unfold mH;rw [if_neg (by omega)];rw [if_neg (by omega)];rw [if_neg (by omega)];rw [if_neg (by omega)];rw [if_neg (by omega)];rw [if_pos (by omega)];rw [Cz]]<;>exact⟨rfl,rfl⟩⟩)
    exact absurd RS Ge
   have eH:(obj S.O to).kind=2:=hI.kind hd2
   have o9:toName.size<=1048576:=Ej Nt
   refine gL (f:=256) (args:=#[vP f,vP (L.b tk),.string a.to]) (pre:=[.abs (ax (bM S.O L)),.abs (ax (cF S.O L))]) [0,1] ((by have h:=zw (β:=β) S L f hI tk hlv a.to OT hg;rw [Cz] at h;exact h)) ?_
   rintro _ _ ⟨rfl,rfl⟩
   refine gK 7 [(14,vP (L.b to)),(15,.string toName),(16,vI 0)] [] ?_
   refine NN (af.seq (SR (gK 2 [(122,.bool false)] [] ?_)))
   refine NN (CF (af.skip (NX (SR (gK 5 [(124,vP f),(125,vP (L.b d)),(126,.string name),(127,vP (L.b to)),(128,.string toName)] [] ?_)))))
   refine gL [2,3,4,0,5,1] (Cr S L f m t hI d hd name hsz to hd2 toName o9) ?_
   rintro _ _ ⟨L2,rfl,rfl⟩
   refine gK 1 [(6,vI ((bL S d name to toName).1))] [] ?_
   refine NN (af.ret (ai.aG (ai.ar ?_)))
   exact RT (vI ((bL S d name to toName).1)) [0,1,2,3,4,5,6] (⟨L2,by rw [show (cW S root a)=((bL S d name to toName).1,(bL S d name to toName).2) by unfold cW;rw [if_neg (by omega),hix];simp only;rw [if_pos trivial,jI];simp only;unfold mH;rw [if_neg (by omega)];rw [if_neg (by omega)];rw [if_neg (by omega)];rw [if_neg (by omega)];rw [if_neg (by omega)];rw [if_pos (by omega)];rw [Cz]]<;>exact⟨rfl,rfl⟩⟩)
  refine af.skip (ai.aJ (NX (af.seq (af.seq ?_))))
  have hel:(obj S.O d).ah.length<=8192:=hI.gi hd
  have Lx:=hsz
  rcases hI.mq hd name with bw|⟨ok,bw,eP⟩|⟨ok,bw,eP⟩|⟨ok,bw,eP⟩
  ·refine af.region (gK 5 [(133,.map (some (L.m d))),(134,.string name)] [(3,v_ 0 (bD L hkd))] ?_)
   refine iA 1 hkd bw ?_
   refine NN (af.block (SR ?_))
   refine gK 3 [(137,.bool false),(138,.pointer none)] [] ?_
   refine NN (CF (SR (gK 3 [(140,.bool false),(141,.pointer none)] [] ?_)))
   refine NN (CF (SR (gK 3 [(143,.bool false),(144,.pointer none)] [] ?_)))
   refine NN (CF (af.skip (ai.aJ (NX (SR ?_)))))
   refine gK 1 [(6,vI 170)] [] ?_
   refine NN (af.ret ?_)
   exact RT (vI 170) [2,3,4,0,5,1,6] (⟨L,by rw [show (cW S root a)=(170,S) by unfold cW;rw [if_neg (by omega),hix];simp only;rw [if_pos trivial,jI];simp only;unfold mH;rw [if_neg (by omega)];rw [if_neg (by omega)];rw [if_neg (by omega)];rw [if_neg (by omega)];rw [if_neg (by omega)];rw [if_neg (by omega)];unfold lC;rw [bw]]<;>exact⟨rfl,rfl⟩⟩)
  ·have kR:(obj S.O ok).kind=1:=hI.kind eP
   refine af.region (gK 5 [(133,.map (some (L.m d))),(134,.string name)] [(3,v_ 0 (bD L hkd))] ?_)
   refine iA 1 hkd bw ?_
   refine NN (af.block (SR ?_))
   refine gK 3 [(137,.bool false),(138,.pointer none)] [] ?_
   refine NN (CF (SR (gK 3 [(140,.bool false),(141,.pointer none)] [] ?_)))
   refine NN (CF (SR (gK 3 [(143,.bool true),(144,vP (L.b ok))] [] ?_)))
   refine NN (CT (SR (gK 1 [(19,vP (L.b ok))] [] ?_)))
   refine NS (gK 4 [(146,vP f),(147,vP (L.b ok)),(149,.string a.text)] [(3,a_ 7 b1)] ?_)
   refine aj.Gt (d:=(some 150)) (t1:=9) (t2:=46) (e:=5) (x:=(.tmp 149)) (s:=a.text) (fun _=>by kernel_rfl) (fun _=>by kernel_rfl) Tryz.underlying9 Tryz.underlying46 Tryz.underlying5 (fun b6 c7 U2=>?_)
   refine gL [8,2,3,4,0,5,1] (Cy (β:=β) S L f m t hI ok eP (some ⟨b6,0,none⟩) c7 a.text.data.toList (by rw [Array.length_toList];have:a.text.data.size=a.text.size:=rfl;omega) U2) ?_
   rintro _ _ ⟨L3,rfl,rfl⟩
   refine gK 5 [(21,vI ((dS S ok a.text.data.toList).2.1))] [] ?_
   refine NS (gK 2 [(6,vI ((dS S ok a.text.data.toList).2.1))] [] ?_)
   refine NN (af.ret (ai.aG (ai.ar ?_)))
   exact RT (vI ((dS S ok a.text.data.toList).2.1)) [0,1,2,3,4,5,6] (⟨L3,by rw [show (cW S root a)=((dS S ok a.text.data.toList).2.1,(dS S ok a.text.data.toList).2.2) by unfold cW;rw [if_neg (by omega),hix];simp only;rw [if_pos trivial,jI];simp only;unfold mH;rw [if_neg (by omega)];rw [if_neg (by omega)];rw [if_neg (by omega)];rw [if_neg (by omega)];rw [if_neg (by omega)];rw [if_neg (by omega)];unfold lC;rw [bw];exact (if_neg (by simp)).trans (if_neg (by simp))]<;>exact⟨rfl,rfl⟩⟩)
  ·have kR:(obj S.O ok).kind=2:=hI.kind eP
   refine af.region (gK 5 [(133,.map (some (L.m d))),(134,.string name)] [(3,v_ 0 (bD L hkd))] ?_)
   refine iA 1 hkd bw ?_
   refine NN (af.block (SR ?_))
   refine gK 3 [(137,.bool false),(138,.pointer none)] [] ?_
   refine NN (CF (SR (gK 3 [(140,.bool true),(141,vP (L.b ok))] [] ?_)))
   refine NN (CT (SR (gK 1 [] [] ?_)))
   refine NS (gK 1 [(6,vI 172)] [] ?_)
   refine NN (af.ret (ai.aG (ai.ar ?_)))
   exact RT (vI 172) [2,3,4,0,5,1,6] (⟨L,by rw [show (cW S root a)=(172,S) by unfold cW;rw [if_neg (by omega),hix];simp only;rw [if_pos trivial,jI];simp only;unfold mH;rw [if_neg (by omega)];rw [if_neg (by omega)];rw [if_neg (by omega)];rw [if_neg (by omega)];rw [if_neg (by omega)];rw [if_neg (by omega)];unfold lC;rw [bw];exact (if_neg (by simp)).trans (if_pos rfl)]<;>exact⟨rfl,rfl⟩⟩)
  have kR:(obj S.O ok).kind=3:=hI.kind eP
  refine af.region (gK 5 [(133,.map (some (L.m d))),(134,.string name)] [(3,v_ 0 (bD L hkd))] ?_)
  refine iA 1 hkd bw ?_
  refine NN (af.block (SR ?_))
  refine gK 3 [(137,.bool true),(138,vP (L.b ok))] [] ?_
  refine NN (CT (SR (gK 1 [] [] ?_)))
  refine NS (gK 1 [(6,vI 174)] [] ?_)
  refine NN (af.ret (ai.aG (ai.ar ?_)))
  exact RT (vI 174) [2,3,4,0,5,1,6] (⟨L,by rw [show (cW S root a)=(174,S) by unfold cW;rw [if_neg (by omega),hix];simp only;rw [if_pos trivial,jI];simp only;unfold mH;rw [if_neg (by omega)];rw [if_neg (by omega)];rw [if_neg (by omega)];rw [if_neg (by omega)];rw [if_neg (by omega)];rw [if_neg (by omega)];unfold lC;rw [bw];exact if_pos rfl]<;>exact⟨rfl,rfl⟩⟩)
 have hkt:(obj S.O tk).kind=3:=hI.kind hlv
 refine af.region (gK 5 [(33,.map (some m)),(34,vI (root))] [(3,a_ 0 f)] ?_)
 refine aj.eu 1 (d:=(some 35)) (t:=120) (K:=3) (E:=124) (b:=m) (n:=S.idx.length) (f:=(bp (bq L S.idx))) (x:=(.tmp 33)) (ix:=(.tmp 34)) (key:=.int .i64 (root)) (z:=.nilIface) (kl:=(.int .i64 root)) (r:=(some (dQ L ⟨tk,3⟩))) (fun _=>by kernel_rfl) (by kernel_rfl) (fun _=>by kernel_rfl) (fun _=>by kernel_rfl) d6 Tryz.underlying120 (fun _=>by kernel_rfl) (gX hrw) (by rw [fw,hix];rfl) ?_
 refine gK 1 [(7,.iface 132 (vP (L.b tk)))] [] ?_
 refine NN (af.seq (SR (gK 2 [(37,.bool false)] [] ?_)))
 refine NN (CF (af.skip (NX (SR (gK 7 [(8,.pointer none),(9,.bool false)] [] ?_)))))
 refine NN (af.seq (SR (gK 2 [(44,.bool true)] [] ?_)))
 refine NN (CT (SR (gK 1 [(6,vI 173)] [] ?_)))
 refine NN (af.ret (ai.ar ?_))
 exact RT (vI 173) [0,1,2,3,4,5,6] (⟨L,by rw [show (cW S root a)=(173,S) by unfold cW;rw [if_neg (by omega),hix];simp only;exact if_neg (by simp)]<;>exact⟨rfl,rfl⟩⟩)
end
section
open Go.RowKit Go.Maps bH aE
attribute [local irreducible] aj aS af ai
noncomputable abbrev LO (o)(q)(f:Nat) (root) (am) (n):=(.blk o [.iface 181 (vP q),vP f,vI (root),.map (some am),vI ↑(n+1)] 185:HP)
noncomputable abbrev RU (o)(b1:Nat) (b2:Nat) (mQ) (ys:List cC) (Iw) (i:Nat):=([(0,vP o),(3,vP b1),(4,vP b2),(22,.slice mQ (ys.length) (Iw)),(23,vI ↑ys.length),(24,vI ↑i)]:Fr)
theorem RV {β:Bs} (S:aI) (L:HL) (o q f m t am an km kn n:Nat) (Z:AZ) (fs:List bJ) (xs:List cC) (root:Int) (hrw:(Lit.int .i64 root).wf=true) (hI:Inv S) (hn:n<=1048576) (k:Int) (hk:fQ fs ((n+1:Nat):Int)=k) (hZ:je β Z xs) (hX:gj xs 1048576) (hg:jf β) (c:aB) (hC:fX β c) :
    Spec Tryz.prog β 254 #[vP o,.agg ⟨aW c⟩] ([.blk o [.iface 181 (vP q),vP f,vI (root),.map (some am),vI (((n:Nat):Int))] 185,.blk q [.iface 54 (vP f),.map (some km),vI (((n:Nat):Int))] 183,.abs (aN Tryz.prog 3 am (eO Z xs) an)]++Ei km fs kn f m t S L) (fun v l=>∃ L2,v=.agg ⟨aW (bF k (ic root S (bQ xs ((n+1:Nat):Int))) c).2⟩/\l=[.blk o [.iface 181 (vP q),vP f,vI (root),.map (some am),vI ((((n+1):Nat):Int))] 185,.blk q [.iface 54 (vP f),.map (some km),vI ((((n+1):Nat):Int))] 183,.abs (aN Tryz.prog 3 am (eO Z xs) an),pz km fs kn,pF f m t ((bF k (ic root S (bQ xs ((n+1:Nat):Int))) c).1.X),.abs (aN Tryz.prog 3 m (bp (bq L2 (bF k (ic root S (bQ xs ((n+1:Nat):Int))) c).1.idx)) ((bF k (ic root S (bQ xs ((n+1:Nat):Int))) c).1.idx.length)),pT t (bF k (ic root S (bQ xs ((n+1:Nat):Int))) c).1.X.cH ((bF k (ic root S (bQ xs ((n+1:Nat):Int))) c).1.aD) L2 ((bF k (ic root S (bQ xs ((n+1:Nat):Int))) c).1.us),pO ((bF k (ic root S (bQ xs ((n+1:Nat):Int))) c).1.O) L2,pD ((bF k (ic root S (bQ xs ((n+1:Nat):Int))) c).1.O) L2,pE ((bF k (ic root S (bQ xs ((n+1:Nat):Int))) c).1.O) L2]):=by
 obtain⟨ys,hys⟩:∃ ys,bQ xs ((n+1:Nat):Int)=ys:=⟨_,rfl⟩
 obtain⟨mQ,has⟩:∃ a,aA Z xs ((n+1:Nat):Int)=a:=⟨_,rfl⟩
 obtain⟨Iw,hac⟩:∃ a,aC Z xs ((n+1:Nat):Int)=a:=⟨_,rfl⟩
 have hrow:=hZ ((n+1:Nat):Int)
 rw [hys,has] at hrow
 have hyb:∀ {i},i < ys.length->xW (act ys i) 1048576:=fun {i} h=>hX.q _ (Js (x:=((n+1:Nat):Int)) (by rw [hys];exact List.mem_of_getElem? (sA h)))
 have pH:ys.length<=1048576:=by rw [← hys];exact Nat.le_trans (BX _) hX.len
 rw [show bQ xs ((n+1:Nat):Int)=ys from hys]
 obtain⟨SA,Ud⟩:∃ SA,ic root S ys=SA:=⟨_,rfl⟩
 rw [Ud]
 refine Spec.enter Tryz.func254 rfl Tryz.ntmps254 (Nat.le_of_ble_eq_true rfl) (fun R=>?_)
 refine SR (gN 1 (fun b1=>[(3,vP b1)]) (fun _=>[]) (fun _=>[]) (fun b1=>pC b1 c) (fun b1=>?_))
 refine gN 1 (fun b2=>[(4,vP b2)]) (fun _=>[]) (fun _=>[]) (fun b2=>.blk b2 [vI 0,vI 0,vI 0,.string ⟨#[]⟩,.string ⟨#[]⟩,.slice none (0) (0),vI 0,vI 0,vI 0,vI 0,vI 0,vI 0,vI 0] 48) (fun b2=>?_)
 refine NS (gC 8 [] [(3,a_ 0 o),(4,p_ ⟨[],none,none,none,some (vI ↑(n+1))⟩ [(Value.int .i64 (IntKind.wrap .i64 (((n:Nat):Int)+1)))=(.int .i64 ↑(n+1))] ⟨bA (by omega) (by omega) (by omega),trivial⟩),(7,a_ 0 o)] [(0,[(4,vI ↑(n+1))])] ?_)
 refine NN (af.seq (af.seq (af.bK (by kernel_rfl) (by kernel_rfl) ?_)))
 refine gQ 8 [(17,.map (some am)),(21,vI ↑(n+1))] [(3,a_ 0 o),(7,a_ 0 o)] ?_
 refine aS.eu 2 (d:=(some 22)) (t:=178) (K:=3) (E:=30) (b:=am) (n:=an) (f:=(eO Z xs)) (x:=(.tmp 17)) (ix:=(.tmp 21)) (key:=.int .i64 ↑(n+1)) (z:=.slice none (0) (0)) (kl:=(.int .i64 ((n+1:Nat):Int))) (r:=(eO Z xs (.int .i64 ((n+1:Nat):Int)))) (fun _=>by kernel_rfl) (by kernel_rfl) (fun _=>by kernel_rfl) (fun _=>by kernel_rfl) d6 Tryz.underlying178 (fun _=>by kernel_rfl) (gX (Lc (by omega))) (rfl) ?_
 refine aS.slot 22 (((eO Z xs (.int .i64 ((n+1:Nat):Int))).getD (.slice none 0 0))) (.slice mQ (ys.length) (Iw)) (fun _=>by kernel_rfl) (AU.trans (by rw [hys,has,hac])) ?_
 refine gQ 2 [(23,vI ↑ys.length),(24,vI 0)] [] ?_
 refine NQ (NX (af.block ?_))
 refine af.loop (ι:=Nat×aI×HL) (fun ((i,S1,L1):Nat×aI×HL)=>(i<=ys.length)/\(S1=ic root S (ys.take i))/\(Inv S1)) (fun ((i,S1,L1):Nat×aI×HL)=>ys.length - i) (fun ((i,S1,L1):Nat×aI×HL)=>(RU o b1 b2 mQ ys Iw i)) (fun ((i,S1,L1):Nat×aI×HL)=>[LO o q f root am n,.blk q [.iface 54 (vP f),.map (some km),vI ↑n] 183,.abs (aN Tryz.prog 3 am (eO Z xs) an),pz km fs kn,pC b1 c,pU b2,pF f m t S1.X,pI m L1 S1.idx,j7 t S1 L1,pO S1.O L1,pD S1.O L1,pE S1.O L1,.abs R]) (0,S,L) (idx:=[0,3,4,22,23,24]) (pk:=[0,1,2,3,11,12,4,5,6,7,8,9,10]) (show (0<=ys.length)/\(S=ic root S (ys.take 0))/\(Inv S) from ⟨Nat.zero_le _,rfl,hI⟩) (fun _=>by kernel_rfl) rfl (by kernel_rfl) ?_
 rintro⟨i,S1,L1⟩ ⟨hi,hs1,cq⟩
 show af _ _ _ _ (RU o b1 b2 mQ ys Iw i) [LO o q f root am n,.blk q [.iface 54 (vP f),.map (some km),vI ↑n] 183,.abs (aN Tryz.prog 3 am (eO Z xs) an),pz km fs kn,pC b1 c,pU b2,pF f m t S1.X,pI m L1 S1.idx,j7 t S1 L1,pO S1.O L1,pD S1.O L1,pE S1.O L1,.abs R] _
 refine SR (gK 1 [(25,.bool (decide ((((i:Nat):Int):Int) < (((ys.length:Nat):Int):Int))))] [] ?_)
 refine NN (af.seq (af.bg (p:=(((i:Nat):Int):Int) < (((ys.length:Nat):Int):Int)) (fun _=>by kernel_rfl) (fun wM=>?_) (fun wM=>?_)))
 ·refine af.skip (NX (af.seq (af.block (SR ?_))))
  refine gN 4 (fun b3=>[(6,vP b3)]) (fun b3=>[(0,p_ ⟨[],some i,none,some ⟨(aq mQ),ak mQ,none⟩,none⟩ [((i:Nat):Int)=((i:Nat):Int),i < ys.length,(⟨(aq mQ),ak mQ,none⟩:Addr).spot=none,(mQ:Option Addr)=some ⟨(aq mQ),ak mQ,none⟩] ⟨rfl,by omega,rfl,zk hrow (i:=i) (by omega),trivial⟩),(1,p_ ⟨[.old (.int .i64 ((act ys i).at_)),.old (.int .i64 ((act ys i).op)),.old (.string (act ys i).path),.old (.string (act ys i).to),.old (.string (act ys i).text)],none,none,none,none⟩ [(Rd β ⟨(aq mQ),ak mQ+i * 5+4,none⟩ (.string (act ys i).text)),(Rd β ⟨(aq mQ),ak mQ+i * 5+3,none⟩ (.string (act ys i).to)),(Rd β ⟨(aq mQ),ak mQ+i * 5+2,none⟩ (.string (act ys i).path)),(Rd β ⟨(aq mQ),ak mQ+i * 5+1,none⟩ (.int .i64 ((act ys i).op))),(Rd β ⟨(aq mQ),ak mQ+i * 5,none⟩ (.int .i64 ((act ys i).at_)))] ⟨iJ hrow (i:=i) (by omega) (j:=4) rfl,iJ hrow (i:=i) (by omega) (j:=3) rfl,iJ hrow (i:=i) (by omega) (j:=2) rfl,iJ hrow (i:=i) (by omega) (j:=1) rfl,iJ hrow (i:=i) (by omega) (j:=0) rfl,trivial⟩),(3,A_ 13 b3 5)]) (fun _=>[]) (fun b3=>.blk b3 [vI ((act ys i).at_),vI ((act ys i).op),.string (act ys i).path,.string (act ys i).to,.string (act ys i).text] 41) (fun b3=>?_)
  refine NN (af.bT (S:=[LO o q f root am n,.blk b3 [vI ((act ys i).at_),vI ((act ys i).op),.string (act ys i).path,.string (act ys i).to,.string (act ys i).text] 41]) [0,1,2,3,4,5,6,7,8,9] 9 [0,13] (by kernel_rfl) (by kernel_rfl) rfl (by kernel_rfl) ?_)
  refine gR 0 [9] (RU o b1 b2 mQ ys Iw i++[(31,vP f),(35,vI (root)),(36,.agg #[vI ((act ys i).at_),vI ((act ys i).op),.string (act ys i).path,.string (act ys i).to,.string (act ys i).text])]) [0,1,2,3,4,5,6,7,8] [(3,a_ 0 o),(7,a_ 0 o),(8,A_ 1 b3 5)] ?_
  refine aQ.last rfl rfl ?_
  refine gL [6,7,8,9,10,11] (PU S1 L1 f m t cq root hrw (act ys i) (hyb (by omega)).path (hyb (by omega)).to (hyb (by omega)).text hg) ?_
  rintro _ _ ⟨L2,rfl,rfl⟩
  refine NL (ai.np (ai.aJ (NX (af.region ?_))))
  refine gK 2 [(24,vI ↑(i+1))] [(0,p_ ⟨[],none,none,none,some (vI ↑(i+1))⟩ [(Value.int .i64 (IntKind.wrap .i64 (((i:Nat):Int)+1)))=(.int .i64 ↑(i+1))] ⟨bA (by omega) (by omega) (by omega),trivial⟩)] ?_
  refine NL ?_
  exact ai.turn ((i+1),(cW S1 root (act ys i)).2,L2) (idx:=[0,3,4,22,23,24]) (pk:=[6,7,8,9,10,11,0,1,2,3,4,5,12]) (show (((i+1))<=ys.length)/\(((cW S1 root (act ys i)).2)=ic root S (ys.take ((i+1))))/\(Inv ((cW S1 root (act ys i)).2)) from ⟨by omega,by rw [hs1];exact (Ju (by omega)).symm,cq.cW⟩) (by show ys.length - ((i+1)) < ys.length - i;omega) (fun _=>by kernel_rfl) rfl (by kernel_rfl)
 refine af.exit (ai.aU (ai.aU (ai.cM (NX (af.seq ?_)))))
 refine af.bT (S:=[LO o q f root am n,pC b1 c]) [0,1,2,3,4,5,6] 5 [0,4] (by kernel_rfl) (by kernel_rfl) rfl (by kernel_rfl) ?_
 refine gR 0 [5,6] [(4,vP b2),(42,.iface 181 (vP q)),(43,.agg ⟨aW c⟩)] [0,1,2,3,4] [(3,a_ 0 o),(4,A_ 1 b1 13)] ?_
 refine mL [8,10] [1,3,6,7,8,9,10,11] (RQ S1 L1 q f m t km kn n fs cq hn k hk c hC) ?_ (by rintro _ _ ⟨L2,rfl,rfl⟩;rfl)
 rintro _ _ ⟨L2,rfl,rfl⟩
 refine aQ.last rfl rfl ?_
 refine gC 1 [] [(0,A_ 11 b2 13)] [(11,[(0,vI ((bF k S1 c).2.op)),(1,vI ((bF k S1 c).2.handle)),(2,vI ((bF k S1 c).2.other)),(3,.string (bF k S1 c).2.name),(4,.string (bF k S1 c).2.text),(5,.slice (bF k S1 c).2.dA ((bF k S1 c).2.data.length) ((bF k S1 c).2.dC)),(6,vI ((bF k S1 c).2.mode)),(7,vI ((bF k S1 c).2.uid)),(8,vI ((bF k S1 c).2.gid)),(9,vI ((bF k S1 c).2.sec)),(10,vI ((bF k S1 c).2.nano)),(11,vI ((bF k S1 c).2.code)),(12,vI ((bF k S1 c).2.answer))])] ?_
 refine NL (ai.np (NX (af.ret ?_)))
 have hs2:S1=SA:=by rw [hs1,show i=ys.length by omega,List.take_length];exact Ud
 subst hs2
 exact ai.ret (v:=.agg ⟨aW ((bF k S1 c).2)⟩) (l:=[LO o q f root am n,vA q f km n,.abs (aN Tryz.prog 3 am (eO Z xs) an),pz km fs kn,pF f m t ((bF k S1 c).1.X),pI m L2 (bF k S1 c).1.idx,pT t (bF k S1 c).1.X.cH ((bF k S1 c).1.aD) L2 ((bF k S1 c).1.us),pO ((bF k S1 c).1.O) L2,pD ((bF k S1 c).1.O) L2,pE ((bF k S1 c).1.O) L2]) (bG:=[b2=b2,b2=b2,b2=b2,b2=b2,b2=b2,b2=b2,b2=b2,b2=b2,b2=b2,b2=b2,b2=b2,b2=b2,b2=b2]) [.at 11,.at 11,.at 11,.at 11,.at 11,.at 11,.at 11,.at 11,.at 11,.at 11,.at 11,.at 11,.at 11] [8,0,9,1,2,3,4,5,6,7,12] (fun _=>by kernel_rfl) ⟨rfl,rfl,rfl,rfl,rfl,rfl,rfl,rfl,rfl,rfl,rfl,rfl,rfl,trivial⟩ rfl (by kernel_rfl) (⟨L2,rfl,rfl⟩)
end
section
open Go.RowKit Go.Maps bH aE
theorem yC {β:Bs} (A:Option Addr) (c:Nat) (d:List UInt8) (hA:bh β A d) (hl:d.length<=1048576):bY Tryz.prog β 58 #[.slice A d.length c] [] (fun β' v l=>∃ B cap,v=.slice B d.length cap/\l=[]/\bh β' B d/\d.length<=cap):=
  (uz A c d hA (by omega)).JX (by
    rintro v l ⟨B,cap,rfl,rfl⟩
    refine⟨[],_,rfl,fun β' h=>⟨B,cap,rfl,rfl,h.bytes,?_⟩⟩
    obtain⟨F,h1,_⟩:=h.get 0 rfl
    exact (av.len h1).2)
theorem PV {β:Bs} (S:aI) (L:HL) (o q f m t am an km kn n:Nat) (Z:AZ) (fs:List bJ) (xs:List cC) (root:Int) (hrw:(Lit.int .i64 root).wf=true) (hI:Inv S) (hn:n<=1048576) (hZ:je β Z xs) (hX:gj xs 1048576) (hg:jf β) (c:aB) (B:Option Addr) (p:Nat) {j6:Int} (ho:j6=if c.op=1 then root else c.other) (hC:fX β { bB B p c with other:=j6 }) {S2:aI} {c2:aB} (hW:ia fs xs root (n+1) S c=(S2,c2)) :
    Spec Tryz.prog β 254 #[vP o,.agg ⟨aW { bB B p c with other:=j6 }⟩] ([oB o q f root am n,qB q f km n,aM am an Z xs,kM km kn fs]++pA f m t L S) (fun v l=>∃ L2,v=.agg ⟨aW (bB B p c2)⟩/\l=[oB o q f root am (n+1),qB q f km (n+1),aM am an Z xs,kM km kn fs]++pA f m t L2 S2):=by
  have e:({ bB B p c with other:=j6 }:aB)=bB B p (o6 root c):=by rw [GZ ho];rfl
  rw [e] at hC ⊢
  have h:=RV S L o q f m t am an km kn n Z fs xs root hrw hI hn _ rfl hZ hX hg (bB B p (o6 root c)) hC
  rw [DZ] at h
  have hW:bF (fQ fs ((n+1:Nat):Int)) (ic root S (bQ xs ((n+1:Nat):Int))) (o6 root c)=(S2,c2):=hW
  rw [hW] at h
  exact h
end
section
open Go.RowKit Go.Maps bH aE
attribute [local irreducible] aj aS af ai
noncomputable abbrev CA (w)(f:Nat) (o) (root) (tA) (tr:List aB) (tC):=(.blk w [.iface 42 (vP w),vP f,.iface 180 (vP o),vI (root),.slice tA (tr.length) (tC)] 93:HP)
noncomputable abbrev zR (am)(Z)(xs)(an):=(.abs (aN Tryz.prog 3 am (eO Z xs) an):HP)
noncomputable abbrev O7 (tA)(tr:List aB) (tC):=(.abs (av 48 13 tA tr.length tC (aH aW tr)):HP)
noncomputable abbrev RW (w)(f:Nat) (o) (root) (A') (tr:List aB) (k'):=(.blk w [.iface 42 (vP w),vP f,.iface 180 (vP o),vI (root),.slice A' ((tr.length+1)) (k')] 93:HP)
noncomputable abbrev Ix (A')(tr:List aB) (k') (B1) (p1) (c2):=(.abs (av 48 13 A' (tr.length+1) k' (aH aW (tr++[bB B1 p1 c2]))):HP)
noncomputable abbrev RX (o)(q)(f:Nat) (root) (am) (tr:List aB):=(.blk o [.iface 181 (vP q),vP f,vI (root),.map (some am),vI ↑tr.length] 185:HP)
noncomputable abbrev RY (q)(f:Nat) (km) (tr:List aB):=(.blk q [.iface 54 (vP f),.map (some km),vI ↑tr.length] 183:HP)
noncomputable abbrev RZ (b1:Nat) (c:aB) (j6) (B1) (p1):=(.blk b1 [vI (c.op),vI (c.handle),vI (j6),.string c.name,.string c.text,.slice B1 (c.data.length) (p1),vI (c.mode),vI (c.uid),vI (c.gid),vI (c.sec),vI (c.nano),vI (c.code),vI (c.answer)] 48:HP)
noncomputable abbrev CB (b1:Nat) (c2:aB) (B1) (p1):=(.blk b1 [vI (c2.op),vI (c2.handle),vI (c2.other),.string c2.name,.string c2.text,.slice B1 (c2.data.length) (p1),vI (c2.mode),vI (c2.uid),vI (c2.gid),vI (c2.sec),vI (c2.nano),vI (c2.code),vI (c2.answer)] 48:HP)
noncomputable abbrev Gu (o)(q)(f:Nat) (root) (am) (tr:List aB):=(.blk o [.iface 181 (vP q),vP f,vI (root),.map (some am),vI ↑(tr.length+1)] 185:HP)
noncomputable abbrev Gv (q)(f:Nat) (km) (tr:List aB):=(.blk q [.iface 54 (vP f),.map (some km),vI ↑(tr.length+1)] 183:HP)
noncomputable abbrev uD (f:Nat) (m:Nat) (t) (S:aI) (L:HL):=([pF f m t S.X,pI m L S.idx,j7 t S L,pO S.O L,pD S.O L,pE S.O L]:List HP)
noncomputable abbrev N6 (c2:aB) (B1) (p1):=([(0,vI (c2.op)),(1,vI (c2.handle)),(2,vI (c2.other)),(3,.string c2.name),(4,.string c2.text),(5,.slice B1 (c2.data.length) (p1)),(6,vI (c2.mode)),(7,vI (c2.uid)),(8,vI (c2.gid)),(9,vI (c2.sec)),(10,vI (c2.nano)),(11,vI (c2.code)),(12,vI (c2.answer))]:Fr)
theorem PW {β:Bs} (S:aI) (L:HL) (w o q f m t am an km kn:Nat) (Z:AZ) (fs:List bJ) (xs:List cC) (root:Int) (tr:List aB) (tA:Option Addr) (tC:Nat) (hrw:(Lit.int .i64 root).wf=true) (hI:Inv S) (hn:tr.length<=1048575) (hZ:je β Z xs) (hX:gj xs 1048576) (hg:jf β) (c:aB) (hD:bh β c.dA c.data) (hl:c.data.length<=1048576) (hw:(Lit.int .i64 c.handle).wf=true) (how:(Lit.int .i64 c.other).wf=true) (hnm:c.name.size<=1048576) (R3:c.text.size<=1048576) {S2:aI} {c2:aB} (hW:ia fs xs root (tr.length+1) S c=(S2,c2)) :
    bY Tryz.prog β 16 #[vP w,.agg ⟨aW c⟩] ([CA w f o root tA tr tC,.blk o [.iface 181 (vP q),vP f,vI (root),.map (some am),vI (((tr.length:Nat):Int))] 185,.blk q [.iface 54 (vP f),.map (some km),vI (((tr.length:Nat):Int))] 183,zR am Z xs an,pz km fs kn,O7 tA tr tC]++uD f m t S L) (fun β' v l=>∃ B1 p1 B2 p2 A' k' L2,v=.agg ⟨aW (bB B2 p2 c2)⟩/\l=([RW w f o root A' tr k',.blk o [.iface 181 (vP q),vP f,vI (root),.map (some am),vI ((((tr.length+1):Nat):Int))] 185,.blk q [.iface 54 (vP f),.map (some km),vI ((((tr.length+1):Nat):Int))] 183,zR am Z xs an,pz km fs kn,Ix A' tr k' B1 p1 c2]++uD f m t S2 L2)/\bh β' B1 c2.data/\bh β' B2 c2.data/\c2.data.length<=p2):=by
 have hd2:c2.data=c.data:=by have h:=zK (fs:=fs) (xs:=xs) (root:=root) (n:=tr.length+1) (S:=S) (c:=c);rw [hW] at h;exact h
 refine bY.enter Tryz.func16 rfl Tryz.ntmps16 (Nat.le_of_ble_eq_true rfl) (fun hle0 R=>?_)
 refine SR (gN 1 (fun b1=>[(3,vP b1)]) (fun _=>[]) (fun _=>[]) (fun b1=>pC b1 c) (fun b1=>?_))
 refine gN 1 (fun b2=>[(4,vP b2)]) (fun _=>[]) (fun _=>[]) (fun b2=>.blk b2 [vI 0,vI 0,vI 0,.string ⟨#[]⟩,.string ⟨#[]⟩,.slice none (0) (0),vI 0,vI 0,vI 0,vI 0,vI 0,vI 0,vI 0] 48) (fun b2=>?_)
 refine NS (gK 2 [(6,.slice c.dA (c.data.length) (c.dC))] [(1,a_ 13 b1)] ?_)
 refine aj.gA (d:=(some 7)) (R:=([CA w f o root tA tr tC,RX o q f root am tr,RY q f km tr,zR am Z xs an,pz km fs kn,O7 tA tr tC]++uD f m t S L++[.abs R,pC b1 c,pU b2])) (pk:=[0,1,2,3,4,5,6,7,8,9,10,11,12,13,14]) (fun _=>by kernel_rfl) (yC c.dA c.dC c.data hD hl) rfl (by kernel_rfl) ?_
 rintro CC _ _ iR ⟨B1,p1,rfl,rfl,LP,hp1⟩
 replace hD:=hD.le iR
 replace hZ:=hZ.le iR
 replace hg:=hg.le iR
 replace hle0:=hle0.trans iR
 refine gC 2 [] [(1,a_ 13 b1)] [(13,[(5,.slice B1 (c.data.length) (p1))])] ?_
 refine NN (af.join (ι:=Int) (fun (j6:Int)=>(j6=if c.op=1 then root else c.other)/\((Lit.int .i64 j6).wf=true)) (fun (j6:Int)=>([(0,vP w)]++zP b1 b2)) (fun (j6:Int)=>([CA w f o root tA tr tC,RX o q f root am tr,RY q f km tr,zR am Z xs an,pz km fs kn,O7 tA tr tC]++uD f m t S L++[.abs R,RZ b1 c j6 B1 p1,pU b2])) ?_ ?_)
 ·rintro j6 ⟨hoth,how⟩
  show af _ _ _ _ ([(0,vP w)]++zP b1 b2) ([CA w f o root tA tr tC,RX o q f root am tr,RY q f km tr,zR am Z xs an,pz km fs kn,O7 tA tr tC]++uD f m t S L++[.abs R,RZ b1 c j6 B1 p1,pU b2]) _
  refine af.seq (af.bT (S:=[CA w f o root tA tr tC,RZ b1 c j6 B1 p1]) [0,1,2,3,4,5,6] 5 [0,13] (by kernel_rfl) (by kernel_rfl) rfl (by kernel_rfl) ?_)
  refine gR 0 [5,6] ([(0,vP w)]++zP b1 b2++[(20,.iface 180 (vP o)),(21,.agg #[vI (c.op),vI (c.handle),vI (j6),.string c.name,.string c.text,.slice B1 (c.data.length) (p1),vI (c.mode),vI (c.uid),vI (c.gid),vI (c.sec),vI (c.nano),vI (c.code),vI (c.answer)])]) [0,1,2,3,4] [(3,a_ 0 w),(4,A_ 1 b1 13)] ?_
  refine mL [10,13] [1,2,3,4,6,7,8,9,10,11] (PV (β:=CC) S L o q f m t am an km kn tr.length Z fs xs root hrw hI (by omega) hZ hX hg c B1 p1 hoth ⟨hw,how,hnm,R3,LP,Nat.le_trans hl (by decide),hp1⟩ hW) ?_ (by rintro _ _ ⟨L2,rfl,rfl⟩;rfl)
  rintro _ _ ⟨L2,rfl,rfl⟩
  refine aQ.last rfl rfl ?_
  refine gC 1 [] [(0,A_ 13 b1 13)] [(13,(N6 c2 B1 p1))] ?_
  refine NL (ai.np (NX (af.seq ?_)))
  refine af.bT (S:=[CA w f o root tA tr tC,CB b1 c2 B1 p1]) [0,1,2,3,4,5,6,7,8,9,10] 6 [10,13] (by kernel_rfl) (by kernel_rfl) rfl (by kernel_rfl) ?_
  refine gR 0 [6,7,8,9,10] (zP b1 b2++[(23,vP w),(27,.slice tA (tr.length) (tC)),(28,.agg ⟨aW (bB B1 p1 c2)⟩)]) [0,1,2,3,4,5] [(4,a_ 0 w),(5,A_ 1 b1 13)] ?_
  refine mN [10,13] (fun b4=>[(29,.slice (some ⟨b4,0,none⟩) (1) (1))]) (fun _=>[]) (fun b4=>.blk b4 [vI (c2.op),vI (c2.handle),vI (c2.other),.string c2.name,.string c2.text,.slice B1 (c2.data.length) (p1),vI (c2.mode),vI (c2.uid),vI (c2.gid),vI (c2.sec),vI (c2.nano),vI (c2.code),vI (c2.answer)] 48) (fun b4=>?_)
  refine aQ.cut (ι:=(Option Addr)×Nat) (fr':=fun ((A5,c6):(Option Addr)×Nat)=>[(3,vP b1),(4,vP b2),(23,vP w),(30,.slice A5 ((tr.length+1)) (c6))]) (hp':=fun ((A5,c6):(Option Addr)×Nat)=>([Gu o q f root am tr,Gv q f km tr,zR am Z xs an,pz km fs kn]++uD f m t S2 L2++[CA w f o root tA tr tC,Ix A5 tr c6 B1 p1 c2,.abs R,CB b1 c2 B1 p1,pU b2,CB b4 c2 B1 p1])) [10,13] rfl rfl ?_ rfl (fun _=>by kernel_rfl) ?_
  ·refine aj.append 11 (d:=(some 30)) (t:=35) (e:=48) (z:=.agg #[vI 0,vI 0,vI 0,.string ⟨#[]⟩,.string ⟨#[]⟩,.slice none (0) (0),vI 0,vI 0,vI 0,vI 0,vI 0,vI 0,vI 0]) (size:=13) (bytes:=136) (n:=tr.length) (cap:=tC) (A:=tA) (xs:=(aH aW tr)) (s:=(.tmp 27)) (x:=(.tmp 29)) (ats:=#[35,35]) (A':=some ⟨b4,0,none⟩) (m:=1) (c':=1) (news:=[vI (c2.op),vI (c2.handle),vI (c2.other),.string c2.name,.string c2.text,.slice B1 (c2.data.length) (p1),vI (c2.mode),vI (c2.uid),vI (c2.gid),vI (c2.sec),vI (c2.nano),vI (c2.code),vI (c2.answer)]) (fun _=>by kernel_rfl) rfl (by kernel_rfl) (fun _=>by kernel_rfl) (fun _=>by kernel_rfl) Tryz.underlying35 (by kernel_rfl) rfl (by decide) (rfl) (by simp [Value.oneCell']) (jh (j:=15) rfl) (by unfold maxLen;omega) (by omega) (fun A5 c6=>?_)
   refine aj.bI 11 (p:=.abs (av 48 13 A5 (tr.length+1) c6 ((aH aW tr)++[vI (c2.op),vI (c2.handle),vI (c2.other),.string c2.name,.string c2.text,.slice B1 (c2.data.length) (p1),vI (c2.mode),vI (c2.uid),vI (c2.gid),vI (c2.sec),vI (c2.nano),vI (c2.code),vI (c2.answer)]))) (p':=.abs (av 48 13 A5 (tr.length+1) c6 (aH aW (tr++[bB B1 p1 c2])))) (by kernel_rfl) (congrArg (fun x=>HP.abs (av 48 13 _ _ _ x)) (lG aW (bB B1 p1 c2) tr).symm) ?_
   refine aj.slot 30 (.slice A5 (tr.length+1) (c6)) (.slice A5 ((tr.length+1)) (c6)) (fun _=>by kernel_rfl) (rfl) ?_
   refine NL ?_
   exact MD (A5,c6) [3,4,23,30] [0,1,2,3,4,5,6,7,8,9,10,11,12,13,14,15]
  rintro⟨A5,c6⟩
  refine aQ.cut (ι:=Unit) (fr':=fun (_:Unit)=>[(3,vP b1),(4,vP b2),(30,.slice A5 ((tr.length+1)) (c6)),(31,vP w)]) (hp':=fun (_:Unit)=>([Gu o q f root am tr,Gv q f km tr,zR am Z xs an,pz km fs kn]++uD f m t S2 L2++[CA w f o root tA tr tC,Ix A5 tr c6 B1 p1 c2,.abs R,CB b1 c2 B1 p1,pU b2,CB b4 c2 B1 p1])) [10,13] rfl rfl ?_ rfl (fun _=>by kernel_rfl) ?_
  ·refine gK 1 [(31,vP w)] [] ?_
   refine NL ?_
   exact MD () [3,4,30,31] [0,1,2,3,4,5,6,7,8,9,10,11,12,13,14,15]
  rintro _
  refine aQ.cut (ι:=Unit) (fr':=fun (_:Unit)=>[(3,vP b1),(4,vP b2),(30,.slice A5 ((tr.length+1)) (c6)),(32,.pointer (some ⟨w,4,none⟩))]) (hp':=fun (_:Unit)=>([Gu o q f root am tr,Gv q f km tr,zR am Z xs an,pz km fs kn]++uD f m t S2 L2++[CA w f o root tA tr tC,Ix A5 tr c6 B1 p1 c2,.abs R,CB b1 c2 B1 p1,pU b2,CB b4 c2 B1 p1])) [10,13] rfl rfl ?_ rfl (fun _=>by kernel_rfl) ?_
  ·refine gK 1 [(32,.pointer (some ⟨w,4,none⟩))] [] ?_
   refine NL ?_
   exact MD () [3,4,30,32] [0,1,2,3,4,5,6,7,8,9,10,11,12,13,14,15]
  rintro _
  refine aQ.last rfl rfl ?_
  refine gC 1 [] [(0,a_ 10 w)] [(10,[(4,.slice A5 ((tr.length+1)) (c6))])] ?_
  refine NL (ai.np (NX (SR ?_)))
  refine gK 2 [(34,.slice B1 (c2.data.length) (p1))] [(1,a_ 13 b1)] ?_
  refine aj.gA (d:=(some 35)) (R:=([Gu o q f root am tr,Gv q f km tr,zR am Z xs an,pz km fs kn]++uD f m t S2 L2++[RW w f o root A5 tr c6,Ix A5 tr c6 B1 p1 c2,.abs R,CB b1 c2 B1 p1,pU b2,CB b4 c2 B1 p1])) (pk:=[0,1,2,3,4,5,6,7,8,9,10,11,12,13,14,15]) (fun _=>by kernel_rfl) (yC B1 p1 c2.data (by rw [hd2];exact LP) (by rw [hd2];exact hl)) rfl (by kernel_rfl) ?_
  rintro Iy _ _ kT ⟨B2,p2,rfl,rfl,V1,hp2⟩
  replace hD:=hD.le kT
  replace hZ:=hZ.le kT
  replace hg:=hg.le kT
  replace LP:=LP.le kT
  replace hle0:=hle0.trans kT
  refine gC 2 [] [(1,a_ 13 b1)] [(13,[(5,.slice B2 (c2.data.length) (p2))])] ?_
  refine NS (gC 2 [] [(0,A_ 13 b1 13),(1,A_ 14 b2 13)] [(14,(N6 c2 B2 p2))] ?_)
  refine NN (af.ret ?_)
  exact ai.oU (v:=.agg ⟨aW (bB B2 p2 c2)⟩) (l:=([RW w f o root A5 tr c6,Gu o q f root am tr,Gv q f km tr,zR am Z xs an,pz km fs kn,Ix A5 tr c6 B1 p1 c2]++uD f m t S2 L2)) (bG:=[b2=b2,b2=b2,b2=b2,b2=b2,b2=b2,b2=b2,b2=b2,b2=b2,b2=b2,b2=b2,b2=b2,b2=b2,b2=b2]) [.at 14,.at 14,.at 14,.at 14,.at 14,.at 14,.at 14,.at 14,.at 14,.at 14,.at 14,.at 14,.at 14] [10,0,1,2,3,11,4,5,6,7,8,9,12] hle0 (fun _=>by kernel_rfl) ⟨rfl,rfl,rfl,rfl,rfl,rfl,rfl,rfl,rfl,rfl,rfl,rfl,rfl,trivial⟩ rfl (by kernel_rfl) (⟨B1,p1,B2,p2,A5,c6,L2,rfl,rfl,by rw [hd2];exact LP,V1,hp2⟩)
 refine SR (gK 3 [(11,.bool (decide ((c.op:Int)=(1:Int))))] [(1,a_ 13 b1)] ?_)
 refine NN (af.bg (p:=(c.op:Int)=(1:Int)) (fun _=>by kernel_rfl) (fun h11=>?_) (fun h11=>?_))
 ·refine af.region (gC 6 [] [(3,a_ 0 w),(5,a_ 13 b1)] [(13,[(2,vI (root))])] ?_)
  refine NL ?_
  exact ai.meet root (idx:=[0,3,4]) (pk:=[0,1,2,3,4,5,6,7,8,9,10,11,12,13,14]) (show (root=if c.op=1 then root else c.other)/\((Lit.int .i64 root).wf=true) from ⟨(if_pos h11).symm,hrw⟩) (fun _=>by kernel_rfl) rfl (by kernel_rfl)
 refine af.skip ?_
 exact ai.meet c.other (idx:=[0,3,4]) (pk:=[0,1,2,3,4,5,6,7,8,9,10,11,12,13,14]) (show (c.other=if c.op=1 then root else c.other)/\((Lit.int .i64 c.other).wf=true) from ⟨(if_neg h11).symm,how⟩) (fun _=>by kernel_rfl) rfl (by kernel_rfl)
end
section
open Go.RowKit Go.Maps bH aE
section d
variable {β:Bs} {fs:List bJ} {xs:List cC} {root:Int} {S S2:aI} {V:WV} {tr:List aB} {c c2:aB} {G:WG}
theorem yD (hrw:(Lit.int .i64 root).wf=true) (hI:Inv S) (hn:tr.length<=1048575) (hZ:je β G.Z xs) (hX:gj xs 1048576) (hg:jf β) (hD:bh β c.dA c.data) (hl:c.data.length<=1048576) (hw:(Lit.int .i64 c.handle).wf=true) (how:(Lit.int .i64 c.other).wf=true) (hnm:c.name.size<=1048576) (R3:c.text.size<=1048576) (hW:ia fs xs root (tr.length+1) S c=(S2,c2)) :
    bY Tryz.prog β 16 #[vP G.w,.agg ⟨aW c⟩] [wA G fs xs root S V tr] (fun β' v l=>∃ (V':WV) (B1:Option Addr) (p1:Nat) (B2:Option Addr) (p2:Nat),v=.agg ⟨aW (bB B2 p2 c2)⟩/\l=[wA G fs xs root S2 V' (tr++[bB B1 p1 c2])]/\bh β' B1 c2.data/\bh β' B2 c2.data/\c2.data.length<=p2):=
  (PW S V.L G.w G.o G.q G.f G.m G.t G.am G.an G.km G.kn G.Z fs xs root tr V.A V.c hrw hI hn hZ hX hg c hD hl hw how hnm R3 hW).one.mono (by
    rintro β' v l _ ⟨l0,⟨B1,p1,B2,p2,A',k',L2,rfl,rfl,h1,h2,h3⟩,rfl⟩
    refine⟨⟨L2,A',k'⟩,B1,p1,B2,p2,rfl,?_,h1,h2,h3⟩
    unfold wA wP tR
    rw [List.length_append]
    rfl)
theorem LQ:Spec Tryz.prog β 49 #[vP G.w] [wA G fs xs root S V tr] (fun v l=>v=.int .i64 (tr.length:Int)/\l=[wA G fs xs root S V tr]):=
  (JZ S V.L G.w G.o G.q G.f G.m G.t G.am G.an G.km G.kn G.Z fs xs root tr V.A V.c).one.mono (by rintro v l ⟨l0,⟨rfl,rfl⟩,rfl⟩;exact⟨rfl,rfl⟩)
theorem LR (hI:Inv S):Spec Tryz.prog β 18 #[vP G.w] [wA G fs xs root S V tr] (fun v l=>∃ A cp K,v=.agg #[.slice A (bn S).length cp]/\l=[wA G fs xs root S V tr]++Nb A cp (bn S) K):=by
  intro R w hS
  have h1:Sat β ([.abs R]++[wA G fs xs root S V tr]) w:=Sat.turn hS
  refine (J0 S V.L G.w G.o G.q G.f G.m G.t G.am G.an G.km G.kn G.Z fs xs root tr V.A V.c hI R w (Sat.turn (Sat.qA h1))).mono ?_
  rintro e w' ⟨v,l,h2,⟨A,cp,K,h3,rfl⟩,h4⟩
  refine⟨v,_,h2,⟨A,cp,K,h3,rfl⟩,?_⟩
  rw [List.append_assoc] at h4
  have h5:=(Sat.turn h4).fS
  rw [List.append_assoc] at h5 ⊢
  exact Sat.turn h5
theorem wE (hI:Inv S):bY Tryz.prog β 18 #[vP G.w] [wA G fs xs root S V tr] (fun β' v l=>∃ A cp K,v=.agg #[.slice A (bn S).length cp]/\l=[wA G fs xs root S V tr]/\ay β' A (bn S) K):=
  (LR hI).JX (by
    rintro v l ⟨A,cp,K,rfl,rfl⟩
    exact⟨_,_,rfl,fun β' h=>⟨A,cp,K,rfl,rfl,h.graph⟩⟩)
theorem PX {ns:List aP} {Y:Lay} {X:FM} (A:Option Addr) (cp:Nat) (hG:ay β A ns Y) (hB:gn ns 1048576) {Af Aa:Option Addr} (cf ca:Nat) (hF:bX β Af (aH bV fs)) (jZ:eZ fs 2097152) (hA:bX β Aa (aH cD xs)) (hab:gj xs 1048576) :
    bY Tryz.prog β 37 #[.agg #[.slice A ns.length cp],.int .i64 root,.agg #[.int .i64 X.cN,.int .i64 X.cB,.int .i64 X.cH,.int .i64 X.cS,.int .i64 X.cZ],.agg #[.slice Af fs.length cf,.slice Aa xs.length ca]] [] (fun β' v l=>(cL X ns root≠0/\v=.tuple #[.pointer none,.int .i64 (cL X ns root)]/\l=[])\/(cL X ns root=0/\∃ (N:rC X ns) (G:WG) (V:WV),v=.tuple #[vP G.w,.int .i64 0]/\l=[wA G fs xs root N.1 V []]/\je β' G.Z xs)):=
  ((N0 A cp ns Y hG hB X root Af cf fs hF jZ Aa ca xs hA hab).Ri (by
    rintro β' v l (⟨h1,h2,rfl⟩|⟨h1,N,L,w,o,q,f,m,t,am,an,km,kn,Z,h2,rfl,h3⟩)
    ·exact .inl ⟨rfl,.inl ⟨h1,h2,rfl⟩⟩
    exact .inr (.inr ⟨h1,N,⟨w,o,q,am,km,an,kn,f,m,t,Z⟩,⟨L,none,0⟩,h2,rfl,h3⟩)))
end d
end
section
open Go.RowKit Go.Maps bH aE
section e
variable {β:Bs} {fs:List bJ} {xs:List cC} {root:Int} {ns:List aP} {X:FM}
abbrev newP (β:Bs) (B:Option Addr) (ns:List aP) (Bf:Option Addr) (bf:Nat) (fs:List bJ) (Ba:Option Addr) (ba:Nat) (xs:List cC):List HP:=[.abs (kL β (fun β'=>∃ K,ay β' B ns K)),.abs (av 39 2 Bf fs.length bf (aH bV fs)),.abs (av 41 5 Ba xs.length ba (aH cD xs))]
abbrev N7 (B:Option Addr) (n cp:Nat) (root:Int) (X:FM) (Bf:Option Addr) (nf bf:Nat) (Ba:Option Addr) (na ba:Nat):Array Value:=#[.agg #[.slice B n cp],.int .i64 root,.agg #[.int .i64 X.cN,.int .i64 X.cB,.int .i64 X.cH,.int .i64 X.cS,.int .i64 X.cZ],.agg #[.slice Bf nf bf,.slice Ba na ba]]
theorem Gw {Bf Ba:Option Addr} (B:Option Addr) (cp:Nat) (hB:gn ns 1048576) (bf ba:Nat) (jZ:eZ fs 2097152) (hab:gj xs 1048576) :
    bY Tryz.prog β 37 (N7 B ns.length cp root X Bf fs.length bf Ba xs.length ba) (newP β B ns Bf bf fs Ba ba xs) (fun β' v l=>(cL X ns root≠0/\v=.tuple #[.pointer none,.int .i64 (cL X ns root)]/\l=[])\/(cL X ns root=0/\∃ (N:rC X ns) (G:WG) (V:WV),v=.tuple #[vP G.w,.int .i64 0]/\l=[wA G fs xs root N.1 V []]/\je β' G.Z xs)):=
  bY.JB fun β1 _ ⟨K,hG⟩=>bY.Rg fun Oj hL=>by
    obtain⟨F,h1,h2⟩:=hL.get 0 rfl
    obtain⟨F',h1',h2'⟩:=hL.get 1 rfl
    exact PX B cp (hG.le hL.le) hB bf ba (bX.jb h1 h2 rfl) jZ (bX.jb h1' h2' rfl) hab
theorem N8 (h0:cL X ns root=0) {Bf Ba:Option Addr} (B:Option Addr) (cp:Nat) (hB:gn ns 1048576) (bf ba:Nat) (jZ:eZ fs 2097152) (hab:gj xs 1048576) :
    Spec Tryz.prog β 37 (N7 B ns.length cp root X Bf fs.length bf Ba xs.length ba) (newP β B ns Bf bf fs Ba ba xs) (fun v l=>∃ (N:rC X ns) (G:WG) (V:WV),v=.tuple #[vP G.w,.int .i64 0]/\l=[.abs (kL β (fun β'=>je β' G.Z xs)),wA G fs xs root N.1 V []]):=
  (bY.Oy (ι:=rC X ns×WG×WV) (vv:=fun x=>.tuple #[vP x.2.1.w,.int .i64 0]) (ll:=fun x=>[wA x.2.1 fs xs root x.1.1 x.2.2 []]) (Φ:=fun x β'=>je β' x.2.1.Z xs)
    ((Gw (X:=X) B cp hB bf ba jZ hab).mono (by
      rintro β' v l _ (⟨h,_⟩|⟨_,N,G,V,h1,h2,h3⟩)
      ·exact absurd h0 h
      exact⟨(N,G,V),h1,h2,h3⟩))).mono (by rintro v l ⟨⟨N,G,V⟩,h1,h2⟩;exact⟨N,G,V,h1,h2⟩)
theorem LU (h0:¬ cL X ns root=0) {Bf Ba:Option Addr} (B:Option Addr) (cp:Nat) (hB:gn ns 1048576) (bf ba:Nat) (jZ:eZ fs 2097152) (hab:gj xs 1048576) :
    Spec Tryz.prog β 37 (N7 B ns.length cp root X Bf fs.length bf Ba xs.length ba) (newP β B ns Bf bf fs Ba ba xs) (fun v l=>v=.tuple #[.pointer none,.int .i64 (cL X ns root)]/\l=[]):=
  ((Gw (X:=X) B cp hB bf ba jZ hab).mono (by
      rintro β' v l _ (⟨_,h1,h2⟩|⟨h,_⟩)
      ·exact⟨h1,h2⟩
      exact absurd h h0)).Rh
end e
end
section
open Go.RowKit Go.Maps bH aE
attribute [local irreducible] aj aS af ai
noncomputable abbrev Gx (b1:Nat) (A:Option Addr) (ns:List aP) (c) (root) (X:FM) (Af) (fs:List bJ) (cf) (Aa) (xs:List cC) (ca):=(.blk b1 [.slice A (ns.length) (c),vI (root),vI (X.cN),vI (X.cB),vI (X.cH),vI (X.cS),vI (X.cZ),.slice Af (fs.length) (cf),.slice Aa (xs.length) (ca)] 34:HP)
noncomputable abbrev O8 (B)(ns:List aP) (cp) (root) (X:FM):=([(6,.agg #[.slice B (ns.length) (cp)]),(8,vI (root)),(10,.agg #[vI (X.cN),vI (X.cB),vI (X.cH),vI (X.cS),vI (X.cZ)])]:Fr)
noncomputable abbrev Ue (root)(X:FM):=([(8,vI (root)),(10,.agg #[vI (X.cN),vI (X.cB),vI (X.cH),vI (X.cS),vI (X.cZ)])]:Fr)
theorem Em {β:Bs} (A:Option Addr) (c:Nat) (ns:List aP) (Y:Lay) (hG:ay β A ns Y) (hB:gn ns 1048576) (X:FM) (root:Int) (Af:Option Addr) (cf:Nat) (fs:List bJ) (hF:bX β Af (aH bV fs)) (jZ:eZ fs 2097152) (Aa:Option Addr) (ca:Nat) (xs:List cC) (hA:bX β Aa (aH cD xs)) (hab:gj xs 1048576) :
    bY Tryz.prog β 15 #[.agg #[.slice A (ns.length) (c),vI (root),vI (X.cN),vI (X.cB),vI (X.cH),vI (X.cS),vI (X.cZ),.slice Af (fs.length) (cf),.slice Aa (xs.length) (ca)]] [] (fun β' v l=>(cL X ns root≠0/\v=.tuple #[.pointer none,vI (cL X ns root)]/\l=[])\/(cL X ns root=0/\∃ (N:rC X ns) (G:WG) (V:WV),v=.tuple #[vP G.w,vI 0]/\l=[wA G fs xs root N.1 V []]/\je β' G.Z xs)):=by
 refine bY.enter Tryz.func15 rfl Tryz.ntmps15 (Nat.le_of_ble_eq_true rfl) (fun hle0 R=>?_)
 refine SR (gN 3 (fun b1=>[(1,vP b1)]) (fun _=>[]) (fun _=>[]) (fun b1=>.blk b1 [.slice A (ns.length) (c),vI (root),vI (X.cN),vI (X.cB),vI (X.cH),vI (X.cS),vI (X.cZ),.slice Af (fs.length) (cf),.slice Aa (xs.length) (ca)] 34) (fun b1=>?_))
 refine NN (af.seq ?_)
 by_cases h0:cL X ns root=0
 ·refine af.iY (S:=[Gx b1 A ns c root X Af fs cf Aa xs ca]) [(true,0),(true,1),(true,3),(true,4),(true,5),(true,6),(true,7),(true,8),(false,2),(false,9),(false,10),(true,11),(true,12),(true,13),(false,14)] [1] (by kernel_rfl) (by kernel_rfl) rfl (by kernel_rfl) ?_
  refine gG [(false,2),(false,9),(false,10),(true,11),(true,12),(true,13),(false,14)] ([(5,.agg #[.slice A (ns.length) (c)])]++Ue root X++[(12,.agg #[.slice Af (fs.length) (cf),.slice Aa (xs.length) (ca)])]) [0,1,3,4,5,6,7,8] [(1,a_ 0 b1),(3,a_ 0 b1),(5,A_ 0 b1 5),(7,A_ 0 b1 2)] ?_
  refine fk.cut (ι:=(Option Addr)×Nat) (fr':=fun ((B,cp):(Option Addr)×Nat)=>(O8 B ns cp root X++[(12,.agg #[.slice Af (fs.length) (cf),.slice Aa (xs.length) (ca)])])) (hp':=fun ((B,cp):(Option Addr)×Nat)=>[.abs (kL β (fun β'=>∃ K,ay β' B ns K)),.abs R,Gx b1 A ns c root X Af fs cf Aa xs ca]) [2] (by kernel_rfl) ?_ rfl (fun _=>by kernel_rfl) ?_
  ·refine gL [] (wX (β:=β) A c ns Y hG (yY hB) (EG hB)) ?_
   rintro _ _ ⟨B,cp,rfl,rfl⟩
   refine NL ?_
   exact MD (B,cp) [6,8,10,12] [0,1,2]
  rintro⟨B,cp⟩
  refine fk.cut (ι:=(Option Addr)×Nat×(Option Addr)×Nat) (fr':=fun ((Bf,bf,Ba,ba):(Option Addr)×Nat×(Option Addr)×Nat)=>(O8 B ns cp root X++[(13,.agg #[.slice Bf (fs.length) (bf),.slice Ba (xs.length) (ba)])])) (hp':=fun ((Bf,bf,Ba,ba):(Option Addr)×Nat×(Option Addr)×Nat)=>[.abs (av 39 2 Bf fs.length bf (aH bV fs)),.abs (av 41 5 Ba xs.length ba (aH cD xs)),.abs (kL β (fun β'=>∃ K,ay β' B ns K)),.abs R,Gx b1 A ns c root X Af fs cf Aa xs ca]) [4] (by kernel_rfl) ?_ rfl (fun _=>by kernel_rfl) ?_
  ·refine gL [] (rE (β:=β) Af cf fs hF jZ.len Aa ca xs hA (Nat.le_trans hab.len (by decide))) ?_
   rintro _ _ ⟨Bf,bf,Ba,ba,rfl,rfl⟩
   refine NL ?_
   exact MD (Bf,bf,Ba,ba) [6,8,10,13] [0,1,2,3,4]
  rintro⟨Bf,bf,Ba,ba⟩
  refine fk.cut (ι:=(rC X ns)×WG×WV) (fr':=fun ((N,G,V):(rC X ns)×WG×WV)=>[(14,.tuple #[vP G.w,vI 0])]) (hp':=fun ((N,G,V):(rC X ns)×WG×WV)=>[.abs (kL β (fun β'=>je β' G.Z xs)),wA G fs xs root N.1 V ([]),.abs R,.blk b1 [.slice A (ns.length) (c),vI (root),vI (X.cN),vI (X.cB),vI (X.cH),vI (X.cS),vI (X.cZ),.slice Af (fs.length) (cf),.slice Aa (xs.length) (ca)] 34]) [3] (by kernel_rfl) ?_ rfl (fun _=>by kernel_rfl) ?_
  ·refine gL [2,0,1] (N8 (β:=β) (X:=X) (Bf:=Bf) (Ba:=Ba) h0 B cp hB bf ba jZ hab) ?_
   rintro _ _ ⟨N,G,V,rfl,rfl⟩
   refine NL ?_
   exact MD (N,G,V) [14] [0,1,2,3]
  rintro⟨N,G,V⟩
  refine gG [(false,14)] [(2,vP G.w),(16,vI 0)] [11,12,13] [] ?_
  refine fk.last (by kernel_rfl) ?_
  refine gK 1 [(3,vI 0)] [] ?_
  refine NL (ai.np (NX (af.ret ?_)))
  refine ai.FT 0 [1,2,3] (cR:=[wA G fs xs root N.1 V ([]),.abs R,.blk b1 [.slice A (ns.length) (c),vI (root),vI (X.cN),vI (X.cB),vI (X.cH),vI (X.cS),vI (X.cZ),.slice Af (fs.length) (cf),.slice Aa (xs.length) (ca)] 34]) rfl (by kernel_rfl) rfl (fun Oj mY hz=>?_)
  replace hG:=hG.le mY
  replace hF:=hF.le mY
  replace hA:=hA.le mY
  replace hle0:=hle0.trans mY
  exact ai.oU (v:=.tuple #[vP G.w,vI 0]) (l:=[wA G fs xs root N.1 V ([])]) (bG:=[]) [] [0,1] hle0 (fun _=>by kernel_rfl) trivial rfl (by kernel_rfl) (.inr ⟨h0,N,G,V,rfl,rfl,hz⟩)
 refine af.iY (S:=[Gx b1 A ns c root X Af fs cf Aa xs ca]) [(true,0),(true,1),(true,3),(true,4),(true,5),(true,6),(true,7),(true,8),(false,2),(false,9),(false,10),(true,11),(true,12),(true,13),(false,14)] [1] (by kernel_rfl) (by kernel_rfl) rfl (by kernel_rfl) ?_
 refine gG [(false,2),(false,9),(false,10),(true,11),(true,12),(true,13),(false,14)] ([(5,.agg #[.slice A (ns.length) (c)])]++Ue root X++[(12,.agg #[.slice Af (fs.length) (cf),.slice Aa (xs.length) (ca)])]) [0,1,3,4,5,6,7,8] [(1,a_ 0 b1),(3,a_ 0 b1),(5,A_ 0 b1 5),(7,A_ 0 b1 2)] ?_
 refine fk.cut (ι:=(Option Addr)×Nat) (fr':=fun ((B,cp):(Option Addr)×Nat)=>(O8 B ns cp root X++[(12,.agg #[.slice Af (fs.length) (cf),.slice Aa (xs.length) (ca)])])) (hp':=fun ((B,cp):(Option Addr)×Nat)=>[.abs (kL β (fun β'=>∃ K,ay β' B ns K)),.abs R,Gx b1 A ns c root X Af fs cf Aa xs ca]) [2] (by kernel_rfl) ?_ rfl (fun _=>by kernel_rfl) ?_
 ·refine gL [] (wX (β:=β) A c ns Y hG (yY hB) (EG hB)) ?_
  rintro _ _ ⟨B,cp,rfl,rfl⟩
  refine NL ?_
  exact MD (B,cp) [6,8,10,12] [0,1,2]
 rintro⟨B,cp⟩
 refine fk.cut (ι:=(Option Addr)×Nat×(Option Addr)×Nat) (fr':=fun ((Bf,bf,Ba,ba):(Option Addr)×Nat×(Option Addr)×Nat)=>(O8 B ns cp root X++[(13,.agg #[.slice Bf (fs.length) (bf),.slice Ba (xs.length) (ba)])])) (hp':=fun ((Bf,bf,Ba,ba):(Option Addr)×Nat×(Option Addr)×Nat)=>[.abs (av 39 2 Bf fs.length bf (aH bV fs)),.abs (av 41 5 Ba xs.length ba (aH cD xs)),.abs (kL β (fun β'=>∃ K,ay β' B ns K)),.abs R,Gx b1 A ns c root X Af fs cf Aa xs ca]) [4] (by kernel_rfl) ?_ rfl (fun _=>by kernel_rfl) ?_
 ·refine gL [] (rE (β:=β) Af cf fs hF jZ.len Aa ca xs hA (Nat.le_trans hab.len (by decide))) ?_
  rintro _ _ ⟨Bf,bf,Ba,ba,rfl,rfl⟩
  refine NL ?_
  exact MD (Bf,bf,Ba,ba) [6,8,10,13] [0,1,2,3,4]
 rintro⟨Bf,bf,Ba,ba⟩
 refine fk.cut (ι:=Unit) (fr':=fun (_:Unit)=>[(14,.tuple #[.pointer none,vI (cL X ns root)])]) (hp':=fun (_:Unit)=>[.abs R,Gx b1 A ns c root X Af fs cf Aa xs ca]) [1] (by kernel_rfl) ?_ rfl (fun _=>by kernel_rfl) ?_
 ·refine gL [2,0,1] (LU (β:=β) (X:=X) (Bf:=Bf) (Ba:=Ba) h0 B cp hB bf ba jZ hab) ?_
  rintro _ _ ⟨rfl,rfl⟩
  refine NL ?_
  exact MD () [14] [0,1]
 rintro _
 refine gG [(false,14)] [(2,.pointer none),(16,vI ((cL X ns root)))] [11,12,13] [] ?_
 refine fk.last (by kernel_rfl) ?_
 refine gK 1 [(3,vI ((cL X ns root)))] [] ?_
 refine NL (ai.np (NX (af.ret ?_)))
 exact ai.oU (v:=.tuple #[.pointer none,vI ((cL X ns root))]) (l:=[]) (bG:=[]) [] [0] hle0 (fun _=>by kernel_rfl) trivial rfl (by kernel_rfl) (.inl ⟨h0,rfl,rfl⟩)
end
section
open Go.RowKit Go.Maps bH aE
def V3:aP:=⟨1,2,493,0,0,0,0,[],⟨#[]⟩,[]⟩
def vB:List aP:=[V3]
def yE:List bJ:=[⟨2,1⟩]
theorem Iz {i:Nat} (h:i < vB.length):i=0:=by
  have h:i < 1:=h
  omega
theorem Ta:bS vB:=by
  refine⟨by decide,fun i hi=>?_,fun i hi=>?_,fun i j hij hj=>?_,by decide,fun i hi j hj=>?_,by decide,fun z=>?_⟩
  ·obtain rfl:=Iz hi
   exact⟨by decide,by decide,by decide,by decide,Eg,fun _=>rfl,fun h=>absurd rfl h,.inl ⟨by decide,rfl⟩⟩
  ·obtain rfl:=Iz hi
   exact⟨by decide,by decide⟩
  ·have:=Iz hj;omega
  ·obtain rfl:=Iz hi
   exact absurd hj (Nat.not_lt_zero j)
  have e:(fM vB vB.length).map (jj vB)=[]:=by decide
  rw [e]
  exact⟨0,rfl⟩
theorem R4:jx (Gq 99):=PN (by decide)
theorem Tb {β:Bs} {B:Option Addr} (hR:bX β B (dJ ⟨fun _=>none,fun _=>none,fun _=>0,fun _=>0⟩ vB)):ay β B vB ⟨fun _=>none,fun _=>none,fun _=>0,fun _=>0⟩:=by
  have hn:∀ {A:Option Addr},bX β A []:=fun j v hj=>by simp at hj
  refine⟨hR,fun i hi=>?_,fun i hi=>?_⟩<;>(obtain rfl:=Iz hi;exact hn)
structure N9 (S:aI):Prop where
  inv:Inv S
  idx:S.idx=[(1,⟨1,2⟩)]
  us:S.us=[]
  X:S.X=⟨9,99,9,0,0,1,0,0⟩
  o1:∃ l u,obj S.O 1=⟨1,493,0,0,0,0,l,0,false,2,[],⟨#[]⟩,[],u⟩
section v
variable {S:aI}
theorem R5 (h:fH (Gq 99) vB vB.length 0 S):N9 S:=by
  obtain⟨l1,u1,h1⟩:=h.ob 0 (by decide)
  exact⟨h.full,h.idx,h.us,h.cap,⟨l1,u1,h1⟩⟩
def nR:aB:=⟨1,0,0,⟨#[]⟩,⟨#[]⟩,none,0,[],0,0,0,0,0,0,0⟩
def nF:aB:=⟨4,1,0,⟨#[100]⟩,⟨#[]⟩,none,0,[],0,0,0,0,0,0,0⟩
theorem U3 (h:N9 S):ia yE [] 1 1 S nR=(S1 S,{ nR with other:=1,answer:=1,code:=0 }):=by
  have:=PO (S:=S) (c:={ nR with other:=1 }) (t:=⟨1,2⟩) rfl (by rw [h.idx];rfl) rfl (by rw [h.us,h.X];show (0:Int) < 9;decide)
  rw [h.us] at this
  exact this
theorem U4:ia yE [] 1 2 S nF=(S,{ nF with code:=180 }):=rfl
theorem U5 (h:N9 S):∃ S2,ia yE [] 1 3 (S1 S) nF=(S2,{ nF with answer:=0,code:=0 })/\S2.idx.length=2:=by
  obtain⟨l,u,h1⟩:=h.o1
  have e1:obj (S1 S).O 1=⟨1,493,0,0,0,0,l,1,false,2,[],⟨#[]⟩,[],u⟩:=by
    rw [UY,h1];rfl
  have hX:(S1 S).X=⟨9,99,9,0,0,1,0,0⟩:=h.X
  have hi:(S1 S).idx=[(1,⟨1,2⟩)]:=h.idx
  have ha:d9 (S1 S).O (S1 S).us 1 ⟨#[100]⟩ 192=.ok 1:=NK (t:=⟨1,2⟩) rfl rfl (by rw [e1]) RL (by rw [e1];exact RM)
  refine⟨_,show cQ (S1 S) nF=_ from NM (S:=S1 S) (c:=nF) rfl ha ⟨by decide,by decide⟩ (by rw [e1];rfl) ⟨by rw [hX,hi];show (1:Int) < 9;decide,by rw [hX];show (1:Int) < 1099511627776;decide,by rw [hX];show (0:Int) < 8192;decide⟩,?_⟩
  show (ins _ _ (S1 S).idx).length=2
  rw [hX,hi];rfl
end v
end
section
open Go.RowKit Go.Maps bH aE
section f
variable {β:Bs} {fs:List bJ} {xs:List cC} {root:Int} {ns:List aP} {X:FM}
theorem wF {ns:List aP} (h0:cL X ns root=0) (A:Option Addr) (c:Nat) (Y:Lay) (hG:ay β A ns Y) (hB:gn ns 1048576) (Af:Option Addr) (cf:Nat) (fs:List bJ) (hF:bX β Af (aH bV fs)) (jZ:eZ fs 2097152) (Aa:Option Addr) (ca:Nat) (xs:List cC) (hA:bX β Aa (aH cD xs)) (hab:gj xs 1048576) :
    bY Tryz.prog β 15 #[zl A ns.length c root X Af fs.length cf Aa xs.length ca] [] (fun β' v l=>∃ (N:rC X ns) (G:WG) (V:WV),v=.tuple #[vP G.w,.int .i64 0]/\l=[wA G fs xs root N.1 V []]/\je β' G.Z xs):=
  (Em A c ns Y hG hB X root Af cf fs hF jZ Aa ca xs hA hab).mono (by
    rintro β' v l _ (⟨h,_⟩|⟨_,h⟩)
    ·exact absurd h0 h
    exact h)
theorem CD {ns:List aP} (h0:¬ cL X ns root=0) (A:Option Addr) (c:Nat) (Y:Lay) (hG:ay β A ns Y) (hB:gn ns 1048576) (Af:Option Addr) (cf:Nat) (fs:List bJ) (hF:bX β Af (aH bV fs)) (jZ:eZ fs 2097152) (Aa:Option Addr) (ca:Nat) (xs:List cC) (hA:bX β Aa (aH cD xs)) (hab:gj xs 1048576) :
    bY Tryz.prog β 15 #[zl A ns.length c root X Af fs.length cf Aa xs.length ca] [] (fun _ v l=>v=.tuple #[.pointer none,.int .i64 (cL X ns root)]/\l=[]):=
  (Em A c ns Y hG hB X root Af cf fs hF jZ Aa ca xs hA hab).mono (by
    rintro β' v l _ (⟨_,h1,h2⟩|⟨h,_⟩)
    ·exact⟨h1,h2⟩
    exact absurd h h0)
theorem R6:cL (Gq 99) vB 1=0:=Ci R4 Ta (i:=0) ⟨by decide,rfl,fun q h=>absurd h (Nat.not_lt_zero q)⟩ rfl
theorem U6:gn vB 1048576:=⟨by decide,fun i hi=>by
  obtain rfl:=Iz hi
  exact⟨by unfold rG;decide,by decide,by decide,by decide,fun j hj=>absurd hj (Nat.not_lt_zero j)⟩⟩
theorem Tc:eZ yE 2097152:=⟨by decide,fun a ha=>by
  obtain rfl:=List.mem_singleton.1 ha
  decide⟩
theorem EP:gj [] 1048576:=⟨by decide,fun a ha=>by cases ha⟩
end f
end
section
open Go.RowKit Go.Maps bH aE
theorem wG {α:Type} (f:α->List Value) (a:α) (r:List α):aH f (a::r)=f a++aH f r:=by
  have:∀ (k k':Nat) (r:List α),dg (fun _ x=>f x) k r=dg (fun _ x=>f x) k' r:=fun k k' r=>by
    induction r generalizing k k' with
    | nil=>rfl
    | cons y r ih=>show f y++dg _ (k+1) r=f y++dg _ (k'+1) r;rw [ih]
  show f a++dg _ 1 r=f a++dg _ 0 r
  rw [this]
section k
variable {xs:List cC} {z root:Int} {j n:Nat} {fs:List bJ} {S:aI} {c:aB} {k:Int}
end k
end
section
open Go.RowKit
theorem J1 {w:World} {o:Oper} {ev:Operand->Value} {x y:Operand} {a b c d:Int} (ho:o.op=.binOp .eql 26 x y 26) (hx:ev x=.agg #[.int .i64 a,.int .i64 b]) (hy:ev y=.agg #[.int .i64 c,.int .i64 d]) :
    nG Tryz.prog ev o w (.bool (decide (a=c/\b=d))) w:=by
  obtain⟨dst,op,type,pos,after,guard⟩:=o
  cases ho
  refine .inl ?_
  simp only [execOp,hx,hy]
  simp [go_sem]
  by_cases h1:a=c<;>by_cases h2:b=d<;>simp [h1,h2]
end
section
open Go.RowKit Go.Maps bH aE
attribute [local irreducible] aj aS af ai
theorem yG {β:Bs} (c:aB) (A1 A2:Option Addr) (p1 p2:Nat) (h1:bh β A1 c.data) (h2:bh β A2 c.data) (hl:c.data.length<=140737488355328) :
    Spec Tryz.prog β 23 #[.agg #[vI (c.op),vI (c.handle),vI (c.other),.string c.name,.string c.text,.slice A1 (c.data.length) (p1),vI (c.mode),vI (c.uid),vI (c.gid),vI (c.sec),vI (c.nano),vI (c.code),vI (c.answer)],.agg #[vI (c.op),vI (c.handle),vI (c.other),.string c.name,.string c.text,.slice A2 (c.data.length) (p2),vI (c.mode),vI (c.uid),vI (c.gid),vI (c.sec),vI (c.nano),vI (c.code),vI (c.answer)]] [] (fun v l=>v=.bool true/\l=[]):=by
 refine Spec.enter Tryz.func23 rfl Tryz.ntmps23 (Nat.le_of_ble_eq_true rfl) (fun R=>?_)
 refine SR (gN 1 (fun b1=>[(2,vP b1)]) (fun _=>[]) (fun _=>[]) (fun b1=>.blk b1 [vI (c.op),vI (c.handle),vI (c.other),.string c.name,.string c.text,.slice A1 (c.data.length) (p1),vI (c.mode),vI (c.uid),vI (c.gid),vI (c.sec),vI (c.nano),vI (c.code),vI (c.answer)] 48) (fun b1=>?_))
 refine gN 2 (fun b2=>[(3,vP b2)]) (fun _=>[]) (fun _=>[]) (fun b2=>.blk b2 [vI (c.op),vI (c.handle),vI (c.other),.string c.name,.string c.text,.slice A2 (c.data.length) (p2),vI (c.mode),vI (c.uid),vI (c.gid),vI (c.sec),vI (c.nano),vI (c.code),vI (c.answer)] 48) (fun b2=>?_)
 refine NS (gK 59 [(59,.bool true),(61,.agg #[vI (c.sec),vI (c.nano)]),(63,.agg #[vI (c.sec),vI (c.nano)])] [(1,a_ 1 b1),(3,a_ 2 b2),(4,p_ ⟨[],none,none,none,some (.bool true)⟩ [(Value.bool (decide ((c.op:Int)=(c.op:Int))))=(.bool true)] ⟨by simp,trivial⟩),(7,a_ 1 b1),(9,a_ 2 b2),(10,p_ ⟨[],none,none,none,some (.bool true)⟩ [(Value.bool (decide ((c.handle:Int)=(c.handle:Int))))=(.bool true)] ⟨by simp,trivial⟩),(14,a_ 1 b1),(16,a_ 2 b2),(17,p_ ⟨[],none,none,none,some (.bool true)⟩ [(Value.bool (decide ((c.other:Int)=(c.other:Int))))=(.bool true)] ⟨by simp,trivial⟩),(21,a_ 1 b1),(23,a_ 2 b2),(24,p_ ⟨[],none,none,none,some (.bool true)⟩ [(Value.bool ((c.name:ByteArray).toList == (c.name:ByteArray).toList))=(.bool true)] ⟨by simp,trivial⟩),(28,a_ 1 b1),(30,a_ 2 b2),(31,p_ ⟨[],none,none,none,some (.bool true)⟩ [(Value.bool ((c.text:ByteArray).toList == (c.text:ByteArray).toList))=(.bool true)] ⟨by simp,trivial⟩),(35,a_ 1 b1),(37,a_ 2 b2),(38,p_ ⟨[],none,none,none,some (.bool true)⟩ [(Value.bool (decide ((c.mode:Int)=(c.mode:Int))))=(.bool true)] ⟨by simp,trivial⟩),(42,a_ 1 b1),(44,a_ 2 b2),(45,p_ ⟨[],none,none,none,some (.bool true)⟩ [(Value.bool (decide ((c.uid:Int)=(c.uid:Int))))=(.bool true)] ⟨by simp,trivial⟩),(49,a_ 1 b1),(51,a_ 2 b2),(52,p_ ⟨[],none,none,none,some (.bool true)⟩ [(Value.bool (decide ((c.gid:Int)=(c.gid:Int))))=(.bool true)] ⟨by simp,trivial⟩),(56,A_ 1 b1 2),(58,A_ 2 b2 2)] ?_)
 refine aj.ja (d:=(some 64)) (op:=.binOp .eql 26 (.tmp 61) (.tmp 63) 26) (v:=.bool (decide ((c.sec:Int)=(c.sec:Int)/\(c.nano:Int)=(c.nano:Int)))) (fun _=>by kernel_rfl) (fun o junk w ho hS=>⟨w,J1 ho (by kernel_rfl) (by kernel_rfl),hS⟩) ?_
 refine aj.slot 64 (.bool (decide ((c.sec:Int)=(c.sec:Int)/\(c.nano:Int)=(c.nano:Int)))) (.bool true) (fun _=>by kernel_rfl) (congrArg Value.bool (by simp)) ?_
 refine gK 20 [(80,.bool true),(82,.slice A1 (c.data.length) (p1)),(84,.slice A2 (c.data.length) (p2))] [(3,a_ 1 b1),(5,a_ 2 b2),(6,p_ ⟨[],none,none,none,some (.bool true)⟩ [(Value.bool (decide ((c.code:Int)=(c.code:Int))))=(.bool true)] ⟨by simp,trivial⟩),(10,a_ 1 b1),(12,a_ 2 b2),(13,p_ ⟨[],none,none,none,some (.bool true)⟩ [(Value.bool (decide ((c.answer:Int)=(c.answer:Int))))=(.bool true)] ⟨by simp,trivial⟩),(17,a_ 1 b1),(19,a_ 2 b2)] ?_
 refine gL [] (xw A1 A2 p1 p2 c.data c.data h1 h2 hl) ?_
 rintro _ _ ⟨rfl,rfl⟩
 refine gK 2 [(4,.bool (decide (c.data=c.data)))] [] ?_
 refine NN (af.ret ?_)
 exact RT (.bool (decide (c.data=c.data))) [0] (⟨congrArg Value.bool (decide_eq_true rfl),rfl⟩)
end
section
open Go.RowKit Go.Maps bH aE
def bare (c:aB):aB:=bB none 0 c
theorem PY {A:Option Addr} {m:Nat} {c:aB}:bare (bB A m c)=bare c:=rfl
theorem LV {c d:aB} (h:bare c=bare d):c.data=d.data:=by
  have e:(bare c).data=(bare d).data:=by rw [h]
  exact e
theorem PZ {c d:aB} (h:bare c=bare d):d=bB d.dA d.dC c:=by
  show bB d.dA d.dC (bare d)=bB d.dA d.dC (bare c)
  rw [h]
theorem yH {α:Type} (f:α->List Value) (ys:List α):∀ xs:List α,aH f (xs++ys)=aH f xs++aH f ys
  | []=>rfl
  | a::r=>by
    rw [List.cons_append,wG,wG,yH f ys r,List.append_assoc]
theorem IB {os tr:List aB} (h:os.map bare=tr.map bare) (i:Nat):bare (au os i)=bare (au tr i):=by
  have h1:=congrArg (fun l=>l[i]?) h
  simp only [List.getElem?_map] at h1
  unfold au
  rw [List.getD_eq_getElem?_getD,List.getD_eq_getElem?_getD]
  cases e1:os[i]?<;>cases e2:tr[i]?<;>rw [e1,e2] at h1<;>simp at h1 ⊢
  exact h1
theorem kU {os tr:List aB} (h:os.map bare=tr.map bare):os.length=tr.length:=by
  have:=congrArg List.length h
  simpa using this
structure iB (β:Bs) (A:Option Addr) (os:List aB):Prop where
  row:bX β A (aH aW os)
  dat:kx β os
section t
variable {β β':Bs} {A:Option Addr} {os tr:List aB} {i j:Nat} {v:Value} {B:Option Addr} {p:Nat}
theorem iB.le (h:iB β A os) (g:β.le β'):iB β' A os:=⟨h.row.le g,h.dat.le g⟩
theorem iB.hd (h:iB β A os) (hi:i < os.length):A=some ⟨aq A,ak A,none⟩:=(Ca (s:=13) (j:=0) h.row (fun _=>rfl) (oL hi) rfl).1
theorem iB.rd (h:iB β A os) (hi:i < os.length) (hv:(aW (au os i))[j]?=some v):Rd β ⟨aq A,ak A+i * 13+j,none⟩ v:=(Ca h.row (fun _=>rfl) (oL hi) hv).2
theorem sC (hi:i < os.length):au os i∈os:=List.mem_of_getElem? (oL hi)
theorem Td (ho:os.length=i) (hi:i < tr.length):(os++tr.drop i)[i]?=some (au tr i):=by
  rw [List.getElem?_append_right (by omega),ho,Nat.sub_self,List.getElem?_drop,Nat.add_zero]
  exact oL hi
theorem R7 (ho:os.length=i) (hi:i < tr.length) {v:Value} (hj:j < 13) (hv:(aW (au tr i))[j]?=some v):(aH aW (os++tr.drop i))[i * 13+j]?=some v:=(D2 (f:=aW) (s:=13) (fun _=>rfl) (Td ho hi) hj).trans hv
theorem R8 (ho:os.length=i) (hi:i<=tr.length):(os++tr.drop i).length=tr.length:=by
  rw [List.length_append,List.length_drop];omega
theorem R9 (ho:os.length=i) (hi:i < tr.length):(aH aW (os++tr.drop i)).set (i * 13+5) (.slice B (au tr i).data.length p)=aH aW ((os++[bB B p (au tr i)])++tr.drop (i+1)):=by
  have e:tr.drop i=au tr i::tr.drop (i+1):=by
    rw [List.drop_eq_getElem_cons hi]
    have:=oL hi
    rw [List.getElem?_eq_getElem hi] at this
    injection this with this
    rw [this]
  have hl:(aH aW os).length=i * 13:=by rw [qR (f:=aW) (s:=13) (fun _=>rfl),ho]
  rw [e,yH,wG,List.set_append_right _ _ (by omega),hl,Nat.add_sub_cancel_left,List.set_append_left _ _ (by show 5 < 13;decide),yH,lG,List.append_assoc]
  rfl
theorem Sb {c:aB} (hm:os.map bare=(tr.take i).map bare) (hi:i < tr.length) (hc:bare c=bare (au tr i)):(os++[c]).map bare=(tr.take (i+1)).map bare:=by
  rw [List.take_add_one,oL hi,List.map_append,List.map_append,hm]
  show _++[bare c]=_++[bare (au tr i)]
  rw [hc]
theorem Gy (c d:aB) (h:bare c=bare d) (h1:bh β c.dA c.data) (h2:bh β d.dA d.data) (hl:c.data.length<=140737488355328):Spec Tryz.prog β 23 #[.agg ⟨aW c⟩,.agg ⟨aW d⟩] [] (fun v l=>v=.bool true/\l=[]):=by
  have e:=PZ h
  rw [← LV h] at h2
  rw [e]
  exact yG c c.dA d.dA c.dC d.dC h1 h2 hl
end t
end
section
open Go.RowKit Go.Maps bH aE
attribute [local irreducible] aj aS af ai
theorem Gz {β:Bs} (c:Nat):Spec Tryz.prog β 72 #[.slice none 0 c] [] (fun v l=>∃ B cap,v=.slice B 0 cap/\l=[.abs (av 48 13 B 0 cap [])]):=by
 refine Spec.enter Tryz.func72 rfl Tryz.ntmps72 (Nat.le_of_ble_eq_true rfl) (fun R=>?_)
 refine SR (gK 1 [] [] ?_)
 refine NN (af.seq (SR (gK 2 [(4,.bool true)] [] ?_)))
 refine NN (CT (SR (gK 1 [(2,.slice none (0) (0))] [] ?_)))
 refine NN (af.ret (ai.ar (ai.mem (fun w hS=>(hS.jF (e:=48) (size:=13)).pick (idx:=[1,0]) (l':=[.abs (av 48 13 none 0 0 ([])),.abs R]) rfl (by kernel_rfl)) ?_)))
 exact RT (.slice none (0) (0)) [0,1] (⟨none,0,rfl,rfl⟩)
theorem Ew {β:Bs} (a:Addr) (c:Nat) (d:List aB) (hA:bX β (some a) (aH aW d)) (hl:d.length<=1048576):Spec Tryz.prog β 72 #[.slice (some a) d.length c] [] (fun v l=>∃ B cap,v=.slice B d.length cap/\l=[.abs (av 48 13 B d.length cap (aH aW d))]):=by
 refine Spec.enter Tryz.func72 rfl Tryz.ntmps72 (Nat.le_of_ble_eq_true rfl) (fun R=>?_)
 refine SR (gK 1 [] [] ?_)
 refine NN (af.seq (SR (gK 2 [(4,.bool false)] [] ?_)))
 refine NN (CF (af.skip (NX (SR (gN 1 (fun b1=>[(5,.slice (some ⟨b1,0,none⟩) (0) (0))]) (fun _=>[]) (fun _=>[]) (fun b1=>.blk b1 [] 48) (fun b1=>?_))))))
 refine aj.mem (fun w hS=>hS.qt (i:=1) (b:=b1) (cs:=[]) (e:=48) 13 0 (by kernel_rfl) rfl (by decide)) ?_
 refine gK 1 [(6,.slice (some a) (d.length) (c))] [] ?_
 refine aj.append 1 (d:=(some 7)) (t:=35) (e:=48) (z:=.agg #[vI 0,vI 0,vI 0,.string ⟨#[]⟩,.string ⟨#[]⟩,.slice none (0) (0),vI 0,vI 0,vI 0,vI 0,vI 0,vI 0,vI 0]) (size:=13) (bytes:=136) (n:=0) (cap:=0) (A:=some ⟨b1,0,none⟩) (xs:=[]) (s:=(.tmp 5)) (x:=(.tmp 6)) (ats:=#[35,35]) (A':=(some a)) (m:=d.length) (c':=c) (news:=(aH aW d)) (fun _=>by kernel_rfl) rfl (by kernel_rfl) (fun _=>by kernel_rfl) (fun _=>by kernel_rfl) Tryz.underlying35 (by kernel_rfl) rfl (by decide) (qR (f:=aW) (s:=13) (fun _=>rfl) _) (qD (K9) _ _) (hA.src) (by unfold maxLen;omega) (by omega) (fun A2 c3=>?_)
 refine aj.bI 1 (p:=.abs (av 48 13 A2 (0+d.length) c3 ([]++(aH aW d)))) (p':=.abs (av 48 13 A2 d.length c3 (aH aW d))) (by kernel_rfl) (by rw [Nat.zero_add,List.nil_append]) ?_
 refine aj.slot 7 (.slice A2 (0+d.length) (c3)) (.slice A2 (d.length) (c3)) (fun _=>by kernel_rfl) (by rw [Nat.zero_add]) ?_
 refine gK 1 [(2,.slice A2 (d.length) (c3))] [] ?_
 refine NN (af.ret ?_)
 exact RT (.slice A2 (d.length) (c3)) [1,0] (⟨A2,c3,rfl,rfl⟩)
theorem Ey {β:Bs} (A:Option Addr) (c:Nat) (d:List aB) (hA:bX β A (aH aW d)) (hl:d.length<=1048576):Spec Tryz.prog β 72 #[.slice A d.length c] [] (fun v l=>∃ B cap,v=.slice B d.length cap/\l=[.abs (av 48 13 B d.length cap (aH aW d))]):=by
  cases A with
  | some a=>exact Ew a c d hA hl
  | none=>
    cases d with
    | nil=>exact Gz c
    | cons b r=>have h:=(Ca (s:=13) (i:=0) (j:=0) hA (fun _=>rfl) rfl rfl).1;cases h
theorem J2 {β:Bs} (A:Option Addr) (c:Nat) (d:List aB) (hl:d.length<=1048576):Spec Tryz.prog β 72 #[.slice A d.length c] [tR A c d] (fun v l=>∃ B cap,v=.slice B d.length cap/\l=[.abs (av 48 13 B d.length cap (aH aW d)),tR A c d]):=
  (Spec.Am (pre:=[]) (R:=[tR A c d]) (fun _ h=>Ey A c d (let ⟨_,h1,h2⟩:=h.get 0 rfl;bX.jb h1 h2 rfl) hl)).mono (by rintro v l ⟨l0,⟨B,cap,rfl,rfl⟩,rfl⟩;exact⟨B,cap,rfl,rfl⟩)
theorem J3 {β:Bs} (S:aI) (L:HL) (w o q f m t am an km kn:Nat) (Z:AZ) (fs:List bJ) (xs:List cC) (root:Int) (tr:List aB) (tA:Option Addr) (tC:Nat) (hn:tr.length<=1048576) (hT:kx β tr) :
    bY Tryz.prog β 31 #[vP w] [.blk w [.iface 42 (vP w),vP f,.iface 180 (vP o),vI (root),.slice tA (tr.length) (tC)] 93,.blk o [.iface 181 (vP q),vP f,vI (root),.map (some am),vI (((tr.length:Nat):Int))] 185,.blk q [.iface 54 (vP f),.map (some km),vI (((tr.length:Nat):Int))] 183,.abs (aN Tryz.prog 3 am (eO Z xs) an),.abs (aN Tryz.prog 3 km (dF fs) kn),.abs (av 48 13 tA tr.length tC (aH aW tr)),.blk f [vI (S.X.cN),vI (S.X.cB),vI (S.X.cH),vI (S.X.cS),vI (S.X.cZ),.map (some m),vP t,vI (S.X.last),vI (S.X.ah),vI (S.X.used)] 126,.abs (aN Tryz.prog 3 m (bp (bq L S.idx)) S.idx.length),.abs (cV 197 t S.X.cH S.aD (bq L S.us)),.abs (ax (bM S.O L)),.abs (ax (bN S.O L)),.abs (ax (cF S.O L))] (fun β' v l=>∃ A' c' os,v=.slice A' tr.length c'/\l=[.blk w [.iface 42 (vP w),vP f,.iface 180 (vP o),vI (root),.slice tA (tr.length) (tC)] 93,.blk o [.iface 181 (vP q),vP f,vI (root),.map (some am),vI (((tr.length:Nat):Int))] 185,.blk q [.iface 54 (vP f),.map (some km),vI (((tr.length:Nat):Int))] 183,.abs (aN Tryz.prog 3 am (eO Z xs) an),.abs (aN Tryz.prog 3 km (dF fs) kn),.abs (av 48 13 tA tr.length tC (aH aW tr)),.blk f [vI (S.X.cN),vI (S.X.cB),vI (S.X.cH),vI (S.X.cS),vI (S.X.cZ),.map (some m),vP t,vI (S.X.last),vI (S.X.ah),vI (S.X.used)] 126,.abs (aN Tryz.prog 3 m (bp (bq L S.idx)) S.idx.length),.abs (cV 197 t S.X.cH S.aD (bq L S.us)),.abs (ax (bM S.O L)),.abs (ax (bN S.O L)),.abs (ax (cF S.O L))]/\iB β' A' os/\os.map bare=tr.map bare):=by
 refine bY.enter Tryz.func31 rfl Tryz.ntmps31 (Nat.le_of_ble_eq_true rfl) (fun hle0 R=>?_)
 refine SR (gK 1 [] [] ?_)
 refine NS (gK 4 [(8,.slice tA (tr.length) (tC))] [(3,a_ 0 w)] ?_)
 refine gL [5] (J2 tA tC tr (by omega)) ?_
 rintro _ _ ⟨B,cp,rfl,rfl⟩
 refine gK 1 [(3,.slice B (tr.length) (cp))] [] ?_
 refine NN (af.seq (SR (gK 3 [(11,vI ↑tr.length),(12,vI 0)] [] ?_)))
 refine NN (af.block ?_)
 refine af.IQ (ι:=Nat×Bs×(List aB)) (fun ((i,b,os):Nat×Bs×(List aB))=>b) (fun ((i,b,os):Nat×Bs×(List aB))=>(i<=tr.length)/\(β.le b)/\(kx b tr)/\(kx b os)/\(os.map bare=(tr.take i).map bare)/\(os.length=i)) (fun ((i,b,os):Nat×Bs×(List aB))=>tr.length - i) (fun ((i,b,os):Nat×Bs×(List aB))=>[(3,.slice B (tr.length) (cp)),(11,vI ↑tr.length),(12,vI ↑i)]) (fun ((i,b,os):Nat×Bs×(List aB))=>[.abs (av 48 13 tA tr.length tC (aH aW tr)),.blk w [.iface 42 (vP w),vP f,.iface 180 (vP o),vI (root),.slice tA (tr.length) (tC)] 93,.blk o [.iface 181 (vP q),vP f,vI (root),.map (some am),vI ↑tr.length] 185,.blk q [.iface 54 (vP f),.map (some km),vI ↑tr.length] 183,.abs (aN Tryz.prog 3 am (eO Z xs) an),.abs (aN Tryz.prog 3 km (dF fs) kn),pF f m t S.X,pI m L S.idx,pT t S.X.cH S.aD L S.us,pO S.O L,pD S.O L,pE S.O L,.abs (av 48 13 B tr.length cp (aH aW (os++tr.drop i))),.abs R]) (0,β,[]) rfl (idx:=[3,11,12]) (pk:=[1,2,3,4,5,6,7,8,9,10,11,12,0,13]) (show (0<=tr.length)/\(β.le β)/\(kx β tr)/\(kx β ([]))/\(([]).map bare=(tr.take 0).map bare)/\(([]).length=0) from ⟨Nat.zero_le _,hle0,hT,fun c hc=>(by cases hc),rfl,rfl⟩) (fun _=>by kernel_rfl) rfl (by kernel_rfl) ?_
 rintro⟨i,b,os⟩ ⟨hi,hle0,hT,hO,hm,hol⟩
 show af _ b _ _ [(3,.slice B (tr.length) (cp)),(11,vI ↑tr.length),(12,vI ↑i)] [.abs (av 48 13 tA tr.length tC (aH aW tr)),.blk w [.iface 42 (vP w),vP f,.iface 180 (vP o),vI (root),.slice tA (tr.length) (tC)] 93,.blk o [.iface 181 (vP q),vP f,vI (root),.map (some am),vI ↑tr.length] 185,.blk q [.iface 54 (vP f),.map (some km),vI ↑tr.length] 183,.abs (aN Tryz.prog 3 am (eO Z xs) an),.abs (aN Tryz.prog 3 km (dF fs) kn),pF f m t S.X,pI m L S.idx,pT t S.X.cH S.aD L S.us,pO S.O L,pD S.O L,pE S.O L,.abs (av 48 13 B tr.length cp (aH aW (os++tr.drop i))),.abs R] _
 refine SR (gK 1 [(13,.bool (decide ((((i:Nat):Int):Int) < (((tr.length:Nat):Int):Int))))] [] ?_)
 refine NN (af.seq (af.bg (p:=(((i:Nat):Int):Int) < (((tr.length:Nat):Int):Int)) (fun _=>by kernel_rfl) (fun Qq=>?_) (fun Qq=>?_)))
 ·refine af.skip (NX (af.seq (af.block (SR ?_))))
  refine gK 2 [(4,vI ↑i)] [] ?_
  refine NN (af.region ?_)
  have hin:i < tr.length:=by omega
  refine aj.tell (p:=∃ g,B=some ⟨g,0,none⟩) (fun w hS=>let ⟨F,h⟩:=hS.get (i:=12) rfl;av.head h (by omega)) (fun ⟨g4,hg⟩=>?_)
  subst hg
  refine gK 7 [(15,.slice (some ⟨g4,0,none⟩) (tr.length) (cp)),(16,vI ↑i),(21,.slice (au tr i).dA ((au tr i).data.length) ((au tr i).dC))] [(4,p_ ⟨[],some i,none,none,some (.pointer (some ⟨g4,i * 13,none⟩))⟩ [(Value.pointer (some ⟨g4,0+i * 13,none⟩))=(.pointer (some ⟨g4,i * 13,none⟩)),((i:Nat):Int)=((i:Nat):Int),i < tr.length,(⟨g4,0,none⟩:Addr).spot=none] ⟨by simp,rfl,hin,rfl,trivial⟩),(6,p_ ⟨[.view 12 (.slice (au tr i).dA ((au tr i).data.length) ((au tr i).dC))],none,none,none,none⟩ [(∀ F w,(av 48 13 (some ⟨g4,0,none⟩) tr.length cp (aH aW (os++tr.drop i))).h F w->w.cell? ⟨g4,i * 13+5,none⟩=some (.slice (au tr i).dA ((au tr i).data.length) ((au tr i).dC)))] ⟨av.cell (R7 hol hin (by decide) rfl),trivial⟩)] ?_
  refine aj.gA (d:=(some 22)) (R:=[.abs (av 48 13 tA tr.length tC (aH aW tr)),.blk w [.iface 42 (vP w),vP f,.iface 180 (vP o),vI (root),.slice tA (tr.length) (tC)] 93,.blk o [.iface 181 (vP q),vP f,vI (root),.map (some am),vI ↑tr.length] 185,.blk q [.iface 54 (vP f),.map (some km),vI ↑tr.length] 183,.abs (aN Tryz.prog 3 am (eO Z xs) an),.abs (aN Tryz.prog 3 km (dF fs) kn),pF f m t S.X,pI m L S.idx,pT t S.X.cH S.aD L S.us,pO S.O L,pD S.O L,pE S.O L,.abs (av 48 13 (some ⟨g4,0,none⟩) tr.length cp (aH aW (os++tr.drop i))),.abs R]) (pk:=[0,1,2,3,4,5,6,7,8,9,10,11,12,13]) (fun _=>by kernel_rfl) (yC (au tr i).dA (au tr i).dC (au tr i).data (hT _ (sC hin)).1 (hT _ (sC hin)).2) rfl (by kernel_rfl) ?_
  rintro Iy _ _ kT ⟨B5,p6,rfl,rfl,V4,_⟩
  replace hT:=hT.le kT
  replace hO:=hO.le kT
  replace hle0:=hle0.trans kT
  refine gK 2 [(24,.pointer (some ⟨g4,i * 13+5,none⟩))] [(0,p_ ⟨[],some i,none,none,some (.pointer (some ⟨g4,i * 13,none⟩))⟩ [(Value.pointer (some ⟨g4,0+i * 13,none⟩))=(.pointer (some ⟨g4,i * 13,none⟩)),((i:Nat):Int)=((i:Nat):Int),i < tr.length,(⟨g4,0,none⟩:Addr).spot=none] ⟨by simp,rfl,hin,rfl,trivial⟩)] ?_
  refine aj.P5 12 (i * 13+5) (d:=none) (T:=46) (e:=48) (size:=13) (n:=tr.length) (cap:=cp) (g:=g4) (xs:=(aH aW (os++tr.drop i))) (u:=.slice B5 ((au tr i).data.length) (p6)) (a:=(.tmp 24)) (y:=(.tmp 22)) (fun _=>by kernel_rfl) (by kernel_rfl) (fun _=>by kernel_rfl) (fun _=>by kernel_rfl) (by kernel_rfl) rfl (by rw [qR (f:=aW) (s:=13) (fun _=>rfl),R8 hol (by omega)];omega) ?_
  refine aj.bI 12 (p:=.abs (av 48 13 (some ⟨g4,0,none⟩) tr.length cp ((aH aW (os++tr.drop i)).set (i * 13+5) (.slice B5 ((au tr i).data.length) (p6))))) (p':=.abs (av 48 13 (some ⟨g4,0,none⟩) tr.length cp (aH aW ((os++[bB B5 p6 (au tr i)])++tr.drop (i+1))))) (by kernel_rfl) (congrArg (fun x=>HP.abs (av 48 13 _ _ _ x)) (R9 hol hin)) ?_
  refine NL (ai.aJ (NX (af.region ?_)))
  refine gK 2 [(12,vI ↑(i+1))] [(0,p_ ⟨[],none,none,none,some (vI ↑(i+1))⟩ [(Value.int .i64 (IntKind.wrap .i64 (((i:Nat):Int)+1)))=(.int .i64 ↑(i+1))] ⟨bA (by omega) (by omega) (by omega),trivial⟩)] ?_
  refine NL ?_
  exact ai.IU ((i+1),Iy,(os++[(bB B5 p6 (au tr i))])) (hb:=rfl) (idx:=[3,11,12]) (pk:=[0,1,2,3,4,5,6,7,8,9,10,11,12,13]) (show (((i+1))<=tr.length)/\(β.le Iy)/\(kx Iy tr)/\(kx Iy ((os++[(bB B5 p6 (au tr i))])))/\(((os++[(bB B5 p6 (au tr i))])).map bare=(tr.take ((i+1))).map bare)/\(((os++[(bB B5 p6 (au tr i))])).length=((i+1))) from ⟨by omega,hle0,hT,hO.snoc (c:=(bB B5 p6 (au tr i))) V4 (hT _ (sC hin)).2,Sb hm hin PY,by rw [List.length_append,hol];rfl⟩) (by show tr.length - ((i+1)) < tr.length - i;omega) (fun _=>by kernel_rfl) rfl (by kernel_rfl)
 refine af.exit (ai.aU (ai.aU (ai.cM (NX (SR ?_)))))
 have hos:os++tr.drop i=os:=by rw [show i=tr.length by omega,List.drop_length,List.append_nil]
 have V5:os.map bare=tr.map bare:=by rw [hm,show i=tr.length by omega,List.take_length]
 refine aj.bI 12 (p:=.abs (av 48 13 B tr.length cp (aH aW (os++tr.drop i)))) (p':=.abs (av 48 13 B tr.length cp (aH aW os))) (by kernel_rfl) (by rw [hos]) ?_
 refine aj.lM (Φ:=fun β'=>bX β' B (aH aW os)) 12 [0,1,2,3,4,5,6,7,8,9,10,11,13] (cR:=[.abs (av 48 13 tA tr.length tC (aH aW tr)),.blk w [.iface 42 (vP w),vP f,.iface 180 (vP o),vI (root),.slice tA (tr.length) (tC)] 93,.blk o [.iface 181 (vP q),vP f,vI (root),.map (some am),vI ↑tr.length] 185,.blk q [.iface 54 (vP f),.map (some km),vI ↑tr.length] 183,.abs (aN Tryz.prog 3 am (eO Z xs) an),.abs (aN Tryz.prog 3 km (dF fs) kn),.blk f [vI (S.X.cN),vI (S.X.cB),vI (S.X.cH),vI (S.X.cS),vI (S.X.cZ),.map (some m),vP t,vI (S.X.last),vI (S.X.ah),vI (S.X.used)] 126,.abs (aN Tryz.prog 3 m (bp (bq L S.idx)) S.idx.length),.abs (cV 197 t S.X.cH S.aD (bq L S.us)),.abs (ax (bM S.O L)),.abs (ax (bN S.O L)),.abs (ax (cF S.O L)),.abs R]) rfl rfl (by kernel_rfl) (fun F w h β' h1 h2=>bX.jb h h1 h2) (fun Xl DB hR=>?_)
 replace hT:=hT.le DB
 replace hO:=hO.le DB
 replace hle0:=hle0.trans DB
 refine gK 2 [(2,.slice B (tr.length) (cp))] [] ?_
 refine NN (af.ret ?_)
 exact ai.oU (v:=.slice B (tr.length) (cp)) (l:=[.blk w [.iface 42 (vP w),vP f,.iface 180 (vP o),vI (root),.slice tA (tr.length) (tC)] 93,.blk o [.iface 181 (vP q),vP f,vI (root),.map (some am),vI ↑tr.length] 185,.blk q [.iface 54 (vP f),.map (some km),vI ↑tr.length] 183,.abs (aN Tryz.prog 3 am (eO Z xs) an),.abs (aN Tryz.prog 3 km (dF fs) kn),.abs (av 48 13 tA tr.length tC (aH aW tr)),pF f m t S.X,pI m L S.idx,pT t S.X.cH S.aD L S.us,pO S.O L,pD S.O L,pE S.O L]) (bG:=[]) [] [1,2,3,4,5,0,6,7,8,9,10,11,12] hle0 (fun _=>by kernel_rfl) trivial rfl (by kernel_rfl) (⟨B,cp,os,rfl,rfl,⟨hR,hO⟩,V5⟩)
theorem yI {β:Bs} {fs:List bJ} {xs:List cC} {root:Int} {S:aI} {V:WV} {tr:List aB} {G:WG} (hn:tr.length<=1048576) (hT:kx β tr):bY Tryz.prog β 31 #[vP G.w] [wA G fs xs root S V tr] (fun β' v l=>∃ A' c' os,v=.slice A' tr.length c'/\l=[wA G fs xs root S V tr]/\iB β' A' os/\os.map bare=tr.map bare):=
  (J3 S V.L G.w G.o G.q G.f G.m G.t G.am G.an G.km G.kn G.Z fs xs root tr V.A V.c hn hT).one.mono (by
    rintro β' v l _ ⟨l0,⟨A',c',os,rfl,rfl,h1,h2⟩,rfl⟩
    exact⟨A',c',os,rfl,rfl,h1,h2⟩)
theorem Ez {β:Bs} (A1 A2:Option Addr) (c1 c2 n:Nat) (os ms tr:List aB) (h1:iB β A1 os) (h2:iB β A2 ms) (Uf:os.map bare=tr.map bare) (Ug:ms.map bare=tr.map bare) (hn:tr.length=n) (hn2:n<=1048576) :
    Spec Tryz.prog β 30 #[.slice A1 (n) (c1),.slice A2 (n) (c2)] [] (fun v l=>v=.bool true/\l=[]):=by
 have Xm:=kU Uf
 have Xn:=kU Ug
 refine Spec.enter Tryz.func30 rfl Tryz.ntmps30 (Nat.le_of_ble_eq_true rfl) (fun R=>?_)
 refine SR (gK 1 [] [] ?_)
 refine NN (af.seq (SR (gK 5 [(10,.bool false)] [(4,p_ ⟨[],none,none,none,some (.bool false)⟩ [(Value.bool (!decide ((((n:Nat):Int):Int)=(((n:Nat):Int):Int))))=(.bool false)] ⟨by simp,trivial⟩)] ?_)))
 refine NN (CF (af.skip (NX (af.seq (SR (gK 1 [(5,vI 0)] [] ?_))))))
 refine NN (af.block ?_)
 refine af.loop (ι:=Nat) (fun (i:Nat)=>(i<=n)) (fun (i:Nat)=>n - i) (fun (i:Nat)=>[(0,.slice A1 (n) (c1)),(1,.slice A2 (n) (c2)),(5,vI ↑i)]) (fun (i:Nat)=>[.abs R]) 0 (idx:=[0,1,5]) (pk:=[0]) (show (0<=n) from Nat.zero_le _) (fun _=>by kernel_rfl) rfl (by kernel_rfl) ?_
 rintro i hi
 show af _ _ _ _ [(0,.slice A1 (n) (c1)),(1,.slice A2 (n) (c2)),(5,vI ↑i)] [.abs R] _
 refine af.seq (SR (gK 4 [(14,.bool (decide ((((i:Nat):Int):Int) < (((n:Nat):Int):Int))))] [] ?_))
 refine NN (af.bg (p:=(((i:Nat):Int):Int) < (((n:Nat):Int):Int)) (fun _=>by kernel_rfl) (fun iL=>?_) (fun iL=>?_))
 ·refine af.skip (NX (af.seq (af.block (af.seq ?_))))
  refine af.bK (by kernel_rfl) (by kernel_rfl) ?_
  refine gQ 8 [(20,.agg #[vI ((au os i).op),vI ((au os i).handle),vI ((au os i).other),.string (au os i).name,.string (au os i).text,.slice (au os i).dA ((au os i).data.length) ((au os i).dC),vI ((au os i).mode),vI ((au os i).uid),vI ((au os i).gid),vI ((au os i).sec),vI ((au os i).nano),vI ((au os i).code),vI ((au os i).answer)]),(24,.agg #[vI ((au ms i).op),vI ((au ms i).handle),vI ((au ms i).other),.string (au ms i).name,.string (au ms i).text,.slice (au ms i).dA ((au ms i).data.length) ((au ms i).dC),vI ((au ms i).mode),vI ((au ms i).uid),vI ((au ms i).gid),vI ((au ms i).sec),vI ((au ms i).nano),vI ((au ms i).code),vI ((au ms i).answer)])] [(2,p_ ⟨[],some i,none,some ⟨(aq A1),ak A1,none⟩,none⟩ [((i:Nat):Int)=((i:Nat):Int),i < n,(⟨(aq A1),ak A1,none⟩:Addr).spot=none,(A1:Option Addr)=some ⟨(aq A1),ak A1,none⟩] ⟨rfl,by omega,rfl,iB.hd h1 (i:=i) (by omega),trivial⟩),(3,p_ ⟨[.old (.int .i64 ((au os i).op)),.old (.int .i64 ((au os i).handle)),.old (.int .i64 ((au os i).other)),.old (.string (au os i).name),.old (.string (au os i).text),.old (.slice (au os i).dA ((au os i).data.length) ((au os i).dC)),.old (.int .i64 ((au os i).mode)),.old (.int .i64 ((au os i).uid)),.old (.int .i64 ((au os i).gid)),.old (.int .i64 ((au os i).sec)),.old (.int .i64 ((au os i).nano)),.old (.int .i64 ((au os i).code)),.old (.int .i64 ((au os i).answer))],none,none,none,none⟩ [(Rd β ⟨(aq A1),ak A1+i * 13+12,none⟩ (.int .i64 ((au os i).answer))),(Rd β ⟨(aq A1),ak A1+i * 13+11,none⟩ (.int .i64 ((au os i).code))),(Rd β ⟨(aq A1),ak A1+i * 13+10,none⟩ (.int .i64 ((au os i).nano))),(Rd β ⟨(aq A1),ak A1+i * 13+9,none⟩ (.int .i64 ((au os i).sec))),(Rd β ⟨(aq A1),ak A1+i * 13+8,none⟩ (.int .i64 ((au os i).gid))),(Rd β ⟨(aq A1),ak A1+i * 13+7,none⟩ (.int .i64 ((au os i).uid))),(Rd β ⟨(aq A1),ak A1+i * 13+6,none⟩ (.int .i64 ((au os i).mode))),(Rd β ⟨(aq A1),ak A1+i * 13+5,none⟩ (.slice (au os i).dA ((au os i).data.length) ((au os i).dC))),(Rd β ⟨(aq A1),ak A1+i * 13+4,none⟩ (.string (au os i).text)),(Rd β ⟨(aq A1),ak A1+i * 13+3,none⟩ (.string (au os i).name)),(Rd β ⟨(aq A1),ak A1+i * 13+2,none⟩ (.int .i64 ((au os i).other))),(Rd β ⟨(aq A1),ak A1+i * 13+1,none⟩ (.int .i64 ((au os i).handle))),(Rd β ⟨(aq A1),ak A1+i * 13,none⟩ (.int .i64 ((au os i).op)))] ⟨iB.rd h1 (i:=i) (by omega) (j:=12) rfl,iB.rd h1 (i:=i) (by omega) (j:=11) rfl,iB.rd h1 (i:=i) (by omega) (j:=10) rfl,iB.rd h1 (i:=i) (by omega) (j:=9) rfl,iB.rd h1 (i:=i) (by omega) (j:=8) rfl,iB.rd h1 (i:=i) (by omega) (j:=7) rfl,iB.rd h1 (i:=i) (by omega) (j:=6) rfl,iB.rd h1 (i:=i) (by omega) (j:=5) rfl,iB.rd h1 (i:=i) (by omega) (j:=4) rfl,iB.rd h1 (i:=i) (by omega) (j:=3) rfl,iB.rd h1 (i:=i) (by omega) (j:=2) rfl,iB.rd h1 (i:=i) (by omega) (j:=1) rfl,iB.rd h1 (i:=i) (by omega) (j:=0) rfl,trivial⟩),(6,p_ ⟨[],some i,none,some ⟨(aq A2),ak A2,none⟩,none⟩ [((i:Nat):Int)=((i:Nat):Int),i < n,(⟨(aq A2),ak A2,none⟩:Addr).spot=none,(A2:Option Addr)=some ⟨(aq A2),ak A2,none⟩] ⟨rfl,by omega,rfl,iB.hd h2 (i:=i) (by omega),trivial⟩),(7,p_ ⟨[.old (.int .i64 ((au ms i).op)),.old (.int .i64 ((au ms i).handle)),.old (.int .i64 ((au ms i).other)),.old (.string (au ms i).name),.old (.string (au ms i).text),.old (.slice (au ms i).dA ((au ms i).data.length) ((au ms i).dC)),.old (.int .i64 ((au ms i).mode)),.old (.int .i64 ((au ms i).uid)),.old (.int .i64 ((au ms i).gid)),.old (.int .i64 ((au ms i).sec)),.old (.int .i64 ((au ms i).nano)),.old (.int .i64 ((au ms i).code)),.old (.int .i64 ((au ms i).answer))],none,none,none,none⟩ [(Rd β ⟨(aq A2),ak A2+i * 13+12,none⟩ (.int .i64 ((au ms i).answer))),(Rd β ⟨(aq A2),ak A2+i * 13+11,none⟩ (.int .i64 ((au ms i).code))),(Rd β ⟨(aq A2),ak A2+i * 13+10,none⟩ (.int .i64 ((au ms i).nano))),(Rd β ⟨(aq A2),ak A2+i * 13+9,none⟩ (.int .i64 ((au ms i).sec))),(Rd β ⟨(aq A2),ak A2+i * 13+8,none⟩ (.int .i64 ((au ms i).gid))),(Rd β ⟨(aq A2),ak A2+i * 13+7,none⟩ (.int .i64 ((au ms i).uid))),(Rd β ⟨(aq A2),ak A2+i * 13+6,none⟩ (.int .i64 ((au ms i).mode))),(Rd β ⟨(aq A2),ak A2+i * 13+5,none⟩ (.slice (au ms i).dA ((au ms i).data.length) ((au ms i).dC))),(Rd β ⟨(aq A2),ak A2+i * 13+4,none⟩ (.string (au ms i).text)),(Rd β ⟨(aq A2),ak A2+i * 13+3,none⟩ (.string (au ms i).name)),(Rd β ⟨(aq A2),ak A2+i * 13+2,none⟩ (.int .i64 ((au ms i).other))),(Rd β ⟨(aq A2),ak A2+i * 13+1,none⟩ (.int .i64 ((au ms i).handle))),(Rd β ⟨(aq A2),ak A2+i * 13,none⟩ (.int .i64 ((au ms i).op)))] ⟨iB.rd h2 (i:=i) (by omega) (j:=12) rfl,iB.rd h2 (i:=i) (by omega) (j:=11) rfl,iB.rd h2 (i:=i) (by omega) (j:=10) rfl,iB.rd h2 (i:=i) (by omega) (j:=9) rfl,iB.rd h2 (i:=i) (by omega) (j:=8) rfl,iB.rd h2 (i:=i) (by omega) (j:=7) rfl,iB.rd h2 (i:=i) (by omega) (j:=6) rfl,iB.rd h2 (i:=i) (by omega) (j:=5) rfl,iB.rd h2 (i:=i) (by omega) (j:=4) rfl,iB.rd h2 (i:=i) (by omega) (j:=3) rfl,iB.rd h2 (i:=i) (by omega) (j:=2) rfl,iB.rd h2 (i:=i) (by omega) (j:=1) rfl,iB.rd h2 (i:=i) (by omega) (j:=0) rfl,trivial⟩)] ?_
  refine aS.call (f:=23) (args:=#[.agg #[vI ((au os i).op),vI ((au os i).handle),vI ((au os i).other),.string (au os i).name,.string (au os i).text,.slice (au os i).dA ((au os i).data.length) ((au os i).dC),vI ((au os i).mode),vI ((au os i).uid),vI ((au os i).gid),vI ((au os i).sec),vI ((au os i).nano),vI ((au os i).code),vI ((au os i).answer)],.agg #[vI ((au ms i).op),vI ((au ms i).handle),vI ((au ms i).other),.string (au ms i).name,.string (au ms i).text,.slice (au ms i).dA ((au ms i).data.length) ((au ms i).dC),vI ((au ms i).mode),vI ((au ms i).uid),vI ((au ms i).gid),vI ((au ms i).sec),vI ((au ms i).nano),vI ((au ms i).code),vI ((au ms i).answer)]]) (d:=(some 25)) (pre:=[]) (R:=[.abs R]) (pk:=[0]) (iZ:=[0]) (v0:=.bool true) (fun _=>by kernel_rfl) (Gy (au os i) (au ms i) ((IB Uf i).trans (IB Ug i).symm) (h1.dat _ (sC (by omega))).1 (h2.dat _ (sC (by omega))).1 (Nat.le_trans (h1.dat _ (sC (by omega))).2 (by decide))) rfl (by kernel_rfl) rfl (by kernel_rfl) (fun _ _ h=>h) ?_
  refine gQ 1 [(26,.bool false)] [] ?_
  refine NQ (NX ?_)
  refine CF (af.skip (ai.aJ (NX (af.region ?_))))
  refine gK 3 [(5,vI ↑(i+1))] [(1,p_ ⟨[],none,none,none,some (vI ↑(i+1))⟩ [(Value.int .i64 (IntKind.wrap .i64 (((i:Nat):Int)+1)))=(.int .i64 ↑(i+1))] ⟨bA (by omega) (by omega) (by omega),trivial⟩)] ?_
  refine NL ?_
  exact ai.turn ((i+1)) (idx:=[0,1,5]) (pk:=[0]) (show (((i+1))<=n) from by omega) (by show n - ((i+1)) < n - i;omega) (fun _=>by kernel_rfl) rfl (by kernel_rfl)
 refine af.exit (ai.aU (ai.aU (ai.cM (NX (SR ?_)))))
 refine gK 1 [(4,.bool true)] [] ?_
 refine NN (af.ret ?_)
 exact RT (.bool true) [0] (⟨rfl,rfl⟩)
end
section
open Go.RowKit Go.Maps bH aE
attribute [local irreducible] aj aS af ai
noncomputable abbrev Uh (b4:Nat):=(.blk b4 [.slice none (0) (0),vI 0,vI 0,vI 0,vI 0,vI 0,vI 0,.slice none (0) (0),.slice none (0) (0)] 34:HP)
noncomputable abbrev Sc (b18:Nat) (IC) (p16):=(.blk b18 [vI 1,vI 0,vI 1,.string ⟨#[]⟩,.string ⟨#[]⟩,.slice IC (0) (p16),vI 0,vI 0,vI 0,vI 0,vI 0,vI 0,vI 1] 48:HP)
noncomputable abbrev Ui (pu:Nat) (LW) (LX):=(.blk pu [vI 4,vI 1,vI 0,.string ⟨#[100]⟩,.string ⟨#[]⟩,.slice LW (0) (LX),vI 0,vI 0,vI 0,vI 0,vI 0,vI 180,vI 0] 48:HP)
theorem He {β:Bs} (c:aB) (hD:bh β c.dA c.data) (hl:c.data.length<=1048576) :
    bY Tryz.prog β 17 #[.agg ⟨aW c⟩] [] (fun β' v l=>∃ B cp,v=.agg ⟨aW { c with dA:=B,dC:=cp }⟩/\l=[]/\bh β' B c.data/\c.data.length<=cp):=by
 refine bY.enter Tryz.func17 rfl Tryz.ntmps17 (Nat.le_of_ble_eq_true rfl) (fun hle0 R=>?_)
 refine SR (gN 1 (fun b1=>[(1,vP b1)]) (fun _=>[]) (fun _=>[]) (fun b1=>pC b1 c) (fun b1=>?_))
 refine gN 1 (fun b2=>[(2,vP b2)]) (fun _=>[]) (fun _=>[]) (fun b2=>.blk b2 [vI 0,vI 0,vI 0,.string ⟨#[]⟩,.string ⟨#[]⟩,.slice none (0) (0),vI 0,vI 0,vI 0,vI 0,vI 0,vI 0,vI 0] 48) (fun b2=>?_)
 refine NS (gK 2 [(4,.slice c.dA (c.data.length) (c.dC))] [(1,a_ 1 b1)] ?_)
 refine aj.gA (d:=(some 5)) (R:=[.abs R,pC b1 c,pU b2]) (pk:=[0,1,2]) (fun _=>by kernel_rfl) (Ev c.dA c.dC c.data hD hl) rfl (by kernel_rfl) ?_
 rintro CC _ _ iR ⟨B,cp,rfl,rfl,hB,FN⟩
 replace hle0:=hle0.trans iR
 refine gC 2 [] [(1,a_ 1 b1)] [(1,[(5,.slice B (c.data.length) (cp))])] ?_
 refine NS (gC 2 [] [(0,A_ 1 b1 13),(1,A_ 2 b2 13)] [(2,(N6 c B cp))] ?_)
 refine NN (af.ret ?_)
 exact ai.oU (v:=.agg ⟨aW (bB B cp c)⟩) (l:=[]) (bG:=[b2=b2,b2=b2,b2=b2,b2=b2,b2=b2,b2=b2,b2=b2,b2=b2,b2=b2,b2=b2,b2=b2,b2=b2,b2=b2]) [.at 2,.at 2,.at 2,.at 2,.at 2,.at 2,.at 2,.at 2,.at 2,.at 2,.at 2,.at 2,.at 2] [0] hle0 (fun _=>by kernel_rfl) ⟨rfl,rfl,rfl,rfl,rfl,rfl,rfl,rfl,rfl,rfl,rfl,rfl,rfl,trivial⟩ rfl (by kernel_rfl) (⟨B,cp,rfl,rfl,hB,FN⟩)
theorem Hf {β:Bs}:bY Tryz.prog β 57 #[] [] (fun β' v l=>∃ B Bf,v=.agg #[.slice B 1 1,vI 1,vI 9,vI 99,vI 9,vI 0,vI 0,.slice Bf 1 1,.slice none 0 0]/\l=[]/\bX β' B (dJ ⟨fun _=>none,fun _=>none,fun _=>0,fun _=>0⟩ vB)/\bX β' Bf (aH bV yE)):=by
 refine bY.enter Tryz.func57 rfl Tryz.ntmps57 (Nat.le_of_ble_eq_true rfl) (fun hle0 R=>?_)
 refine SR (gN 1 (fun b4=>[(0,vP b4)]) (fun _=>[]) (fun _=>[]) (fun b4=>.blk b4 [.slice none (0) (0),vI 0,vI 0,vI 0,vI 0,vI 0,vI 0,.slice none (0) (0),.slice none (0) (0)] 34) (fun b4=>?_))
 refine NS (gN 3 (fun b5=>[(4,.agg #[.slice (some ⟨b5,0,none⟩) (1) (1)])]) (fun _=>[]) (fun _=>[]) (fun b5=>.blk b5 [vI 1,vI 2,vI 493,vI 0,vI 0,vI 0,vI 0,.slice none (0) (0),.string ⟨#[]⟩,.slice none (0) (0)] 70) (fun b5=>?_))
 refine gN 2 (fun b6=>[(1,vP b6)]) (fun b6=>[(1,a_ 3 b6)]) (fun _=>[]) (fun b6=>.blk b6 [.slice (some ⟨b5,0,none⟩) (1) (1)] 24) (fun b6=>?_)
 refine NS (aj.mem (fun w hS=>hS.qt (i:=2) (b:=b5) (cs:=[vI 1,vI 2,vI 493,vI 0,vI 0,vI 0,vI 0,.slice none (0) (0),.string ⟨#[]⟩,.slice none (0) (0)]) (e:=70) 10 1 (by kernel_rfl) rfl (by decide)) ?_)
 refine aj.lM (Φ:=fun β'=>bX β' (some ⟨b5,0,none⟩) (dJ ⟨fun _=>none,fun _=>none,fun _=>0,fun _=>0⟩ vB)) 2 [0,1,3] (cR:=[.abs R,Uh b4,.blk b6 [.slice (some ⟨b5,0,none⟩) (1) (1)] 24]) rfl rfl (by kernel_rfl) (fun F w h β' h1 h2=>bX.jb h h1 h2) (fun Iy kT hR=>?_)
 replace hle0:=hle0.trans kT
 refine gN 4 (fun b8=>[(5,.agg #[.slice (some ⟨b5,0,none⟩) (1) (1)]),(6,.agg #[vI 9,vI 99,vI 9,vI 0,vI 0]),(8,.slice (some ⟨b8,0,none⟩) (1) (1))]) (fun b8=>[(0,a_ 2 b6)]) (fun _=>[]) (fun b8=>.blk b8 [vI 2,vI 1] 39) (fun b8=>?_)
 refine aj.mem (fun w hS=>hS.qt (i:=3) (b:=b8) (cs:=[vI 2,vI 1]) (e:=39) 2 1 (by kernel_rfl) rfl (by decide)) ?_
 refine aj.lM (Φ:=fun β'=>bX β' (some ⟨b8,0,none⟩) (aH bV yE)) 3 [0,1,2] (cR:=[.abs R,Uh b4,.blk b6 [.slice (some ⟨b5,0,none⟩) (1) (1)] 24]) rfl rfl (by kernel_rfl) (fun F w h β' h1 h2=>bX.jb h h1 h2) (fun Xo IE hQ=>?_)
 replace hR:=hR.le IE
 replace hle0:=hle0.trans IE
 refine gC 3 [] [(2,A_ 1 b4 9)] [(1,[(0,.slice (some ⟨b5,0,none⟩) (1) (1)),(1,vI 1),(2,vI 9),(3,vI 99),(4,vI 9),(7,.slice (some ⟨b8,0,none⟩) (1) (1))])] ?_
 refine NN (af.ret ?_)
 exact ai.oU (v:=.agg #[.slice (some ⟨b5,0,none⟩) (1) (1),vI 1,vI 9,vI 99,vI 9,vI 0,vI 0,.slice (some ⟨b8,0,none⟩) (1) (1),.slice none (0) (0)]) (l:=[]) (bG:=[b4=b4,b4=b4,b4=b4,b4=b4,b4=b4,b4=b4,b4=b4,b4=b4,b4=b4]) [.at 1,.at 1,.at 1,.at 1,.at 1,.at 1,.at 1,.at 1,.at 1] [0] hle0 (fun _=>by kernel_rfl) ⟨rfl,rfl,rfl,rfl,rfl,rfl,rfl,rfl,rfl,trivial⟩ rfl (by kernel_rfl) (⟨_,_,rfl,rfl,hR,hQ⟩)
theorem Oa {β:Bs} (hg:jf β):bY Tryz.prog β 13 #[] [] (fun _ v l=>v=.bool true/\l=[]):=by
 refine bY.enter Tryz.func13 rfl Tryz.ntmps13 (Nat.le_of_ble_eq_true rfl) (fun hle0 R=>?_)
 refine SR (gK 1 [] [] ?_)
 refine NS (aj.gA (d:=(some 7)) (R:=[.abs R]) (pk:=[0]) (fun _=>by kernel_rfl) (Hf) rfl (by kernel_rfl) ?_)
 rintro JY _ _ oz ⟨B,Bf,rfl,rfl,hR,hQ⟩
 replace hg:=hg.le oz
 replace hle0:=hle0.trans oz
 refine aj.gA (d:=(some 8)) (R:=[.abs R]) (pk:=[0]) (fun _=>by kernel_rfl) (wF (β:=JY) (X:=Gq 99) R6 B 1 _ (Tb hR) U6 Bf 1 yE hQ Tc none 0 [] (fun j v hj=>by simp [aH,dg] at hj) EP) rfl (by kernel_rfl) ?_
 rintro pG _ _ iT ⟨N,G,V,rfl,rfl,hZ⟩
 replace hg:=hg.le iT
 replace hR:=hR.le iT
 replace hQ:=hQ.le iT
 replace hle0:=hle0.trans iT
 refine gK 5 [(1,vP G.w),(2,vI 0)] [] ?_
 refine NN (af.seq (SR (gK 6 [(16,.bool false)] [] ?_)))
 refine NN (CF (af.skip (NX (SR (gK 2 [(17,vP G.w),(18,.agg #[vI 1,vI 0,vI 0,.string ⟨#[]⟩,.string ⟨#[]⟩,.slice none (0) (0),vI 0,vI 0,vI 0,vI 0,vI 0,vI 0,vI 0])] [] ?_)))))
 have hv:=R5 N.2
 have e1:=U3 hv
 have cq:Inv (S1 N.1):=by have h:=Inv.ia (fs:=yE) (xs:=[]) (root:=1) (n:=1) (c:=nR) hv.inv;rw [e1] at h;exact h
 obtain⟨S3,e3,V6⟩:=U5 hv
 have V7:Inv S3:=by have h:=Inv.ia (fs:=yE) (xs:=[]) (root:=1) (n:=3) (c:=nF) cq;rw [e3] at h;exact h
 refine aj.gA (d:=(some 19)) (R:=[.abs R]) (pk:=[0,1]) (fun _=>by kernel_rfl) (yD (β:=pG) (G:=G) (V:=V) (tr:=[]) (c:=nR) (by decide) hv.inv (by show 0<=1048575;decide) hZ EP hg (fun j v hj=>by cases hj) (by decide) (by decide) (by decide) (by decide) (by decide) e1) rfl (by kernel_rfl) ?_
 rintro U7 _ _ tu ⟨V8,LY,LZ,IC,p16,rfl,rfl,_,_,_⟩
 replace hg:=hg.le tu
 replace hR:=hR.le tu
 replace hQ:=hQ.le tu
 replace hZ:=hZ.le tu
 replace hle0:=hle0.trans tu
 refine gN 2 (fun b18=>[(3,vP b18)]) (fun b18=>[(1,A_ 2 b18 13)]) (fun _=>[]) (fun b18=>.blk b18 [vI 1,vI 0,vI 1,.string ⟨#[]⟩,.string ⟨#[]⟩,.slice IC (0) (p16),vI 0,vI 0,vI 0,vI 0,vI 0,vI 0,vI 1] 48) (fun b18=>?_)
 refine NS (gK 2 [(20,vP G.w),(21,.agg #[vI 4,vI 1,vI 0,.string ⟨#[100]⟩,.string ⟨#[]⟩,.slice none (0) (0),vI 0,vI 0,vI 0,vI 0,vI 0,vI 0,vI 0])] [] ?_)
 refine aj.gA (d:=(some 22)) (R:=[.abs R,Sc b18 IC p16]) (pk:=[0,1,2]) (fun _=>by kernel_rfl) (yD (β:=U7) (G:=G) (V:=V8) (tr:=([]++[bB LY LZ ({ nR with other:=1,answer:=1,code:=0 })])) (c:=nF) (by decide) cq (by show 1<=1048575;decide) hZ EP hg (fun j v hj=>by cases hj) (by decide) (by decide) (by decide) (by decide) (by decide) U4) rfl (by kernel_rfl) ?_
 rintro rF _ _ dI ⟨V9,O9,Pa,LW,LX,rfl,rfl,_,_,_⟩
 replace hg:=hg.le dI
 replace hR:=hR.le dI
 replace hQ:=hQ.le dI
 replace hZ:=hZ.le dI
 replace hle0:=hle0.trans dI
 refine gN 2 (fun pu=>[(4,vP pu)]) (fun pu=>[(1,A_ 3 pu 13)]) (fun _=>[]) (fun pu=>.blk pu [vI 4,vI 1,vI 0,.string ⟨#[100]⟩,.string ⟨#[]⟩,.slice LW (0) (LX),vI 0,vI 0,vI 0,vI 0,vI 0,vI 180,vI 0] 48) (fun pu=>?_)
 refine NS (gK 2 [(23,vP G.w),(24,.agg #[vI 4,vI 1,vI 0,.string ⟨#[100]⟩,.string ⟨#[]⟩,.slice none (0) (0),vI 0,vI 0,vI 0,vI 0,vI 0,vI 0,vI 0])] [] ?_)
 refine aj.gA (d:=(some 25)) (R:=[.abs R,Sc b18 IC p16,Ui pu LW LX]) (pk:=[0,1,2,3]) (fun _=>by kernel_rfl) (yD (β:=rF) (G:=G) (V:=V9) (tr:=(([]++[bB LY LZ ({ nR with other:=1,answer:=1,code:=0 })])++[bB O9 Pa ({ nF with code:=180 })])) (c:=nF) (by decide) cq (by show 2<=1048575;decide) hZ EP hg (fun j v hj=>by cases hj) (by decide) (by decide) (by decide) (by decide) (by decide) e3) rfl (by kernel_rfl) ?_
 rintro Sd _ _ tv ⟨Uj,Sg,Sh,Uk,Ul,rfl,rfl,_,_,_⟩
 replace hg:=hg.le tv
 replace hR:=hR.le tv
 replace hQ:=hQ.le tv
 replace hZ:=hZ.le tv
 replace hle0:=hle0.trans tv
 refine gN 2 (fun b32=>[(5,vP b32)]) (fun b32=>[(1,A_ 4 b32 13)]) (fun _=>[]) (fun b32=>.blk b32 [vI 4,vI 1,vI 0,.string ⟨#[100]⟩,.string ⟨#[]⟩,.slice Uk (0) (Ul),vI 0,vI 0,vI 0,vI 0,vI 0,vI 0,vI 0] 48) (fun b32=>?_)
 refine NS (gK 20 [(44,.bool true),(45,vP G.w)] [(1,a_ 2 b18),(5,a_ 2 b18),(10,a_ 3 pu),(15,a_ 4 b32)] ?_)
 refine gL [0] (LQ (β:=Sd) (G:=G) (fs:=yE) (xs:=[]) (root:=1) (S:=S3) (V:=Uj) (tr:=((([]++[bB LY LZ ({ nR with other:=1,answer:=1,code:=0 })])++[bB O9 Pa ({ nF with code:=180 })])++[bB Sg Sh ({ nF with answer:=0,code:=0 })]))) ?_
 rintro _ _ ⟨rfl,rfl⟩
 refine gK 4 [(49,.bool true),(50,vP G.w)] [(0,p_ ⟨[],none,none,none,some (.bool true)⟩ [((.bool (decide (((((((([]++[bB LY LZ ({ nR with other:=1,answer:=1,code:=0 })])++[bB O9 Pa ({ nF with code:=180 })])++[bB Sg Sh ({ nF with answer:=0,code:=0 })])).length:Nat):Int):Int)=(3:Int))):Value))=(.bool true)] ⟨rfl,trivial⟩)] ?_
 refine aj.gA (d:=(some 51)) (R:=[.abs R,Sc b18 IC p16,Ui pu LW LX,.blk b32 [vI 4,vI 1,vI 0,.string ⟨#[100]⟩,.string ⟨#[]⟩,.slice Uk (0) (Ul),vI 0,vI 0,vI 0,vI 0,vI 0,vI 0,vI 0] 48]) (pk:=[0,1,2,3,4]) (fun _=>by kernel_rfl) (wE (β:=Sd) (G:=G) (fs:=yE) (xs:=[]) (root:=1) (S:=S3) (V:=Uj) (tr:=((([]++[bB LY LZ ({ nR with other:=1,answer:=1,code:=0 })])++[bB O9 Pa ({ nF with code:=180 })])++[bB Sg Sh ({ nF with answer:=0,code:=0 })])) V7) rfl (by kernel_rfl) ?_
 rintro kV _ _ cT ⟨A4,c4,K4,rfl,rfl,_⟩
 replace hg:=hg.le cT
 replace hR:=hR.le cT
 replace hQ:=hQ.le cT
 replace hZ:=hZ.le cT
 replace hle0:=hle0.trans cT
 refine gK 5 [(0,.bool (decide ((((2:Nat):Int):Int)=(2:Int))))] [(1,p_ ⟨[],none,none,none,some (vI (((2:Nat):Int)))⟩ [((.int .i64 ↑((bn S3).length):Value))=(.int .i64 (((2:Nat):Int)))] ⟨by rw [o7,V6],trivial⟩)] ?_
 refine NN (af.ret ?_)
 exact ai.oU (v:=.bool (decide ((((2:Nat):Int):Int)=(2:Int)))) (l:=[]) (bG:=[]) [] [1] hle0 (fun _=>by kernel_rfl) trivial rfl (by kernel_rfl) (⟨rfl,rfl⟩)
end
section
open Go.RowKit Go.Maps bH aE
section q
variable {β:Bs} {ns:List aP} {Y:Lay} {X:FM} {root j6:Int} {S S2:aI} {c c2:aB} {n:Nat} {A:Option Addr} {p:Nat}
structure vC (β:Bs) (B:Option Addr) (p:Nat) (d:List UInt8):Prop where
  b:bh β B d
  l:d.length<=p
theorem vC.le {β':Bs} {d:List UInt8} (h:vC β A p d) (g:β.le β'):vC β' A p d:=⟨h.b.le g,h.l⟩
theorem yJ (c:aB) (hD:bh β c.dA c.data) (hl:c.data.length<=1048576):bY Tryz.prog β 17 #[.agg ⟨aW c⟩] [] (fun β' v l=>∃ B p,v=.agg ⟨aW (bB B p c)⟩/\l=[]/\vC β' B p c.data):=
  (He c hD hl).mono (by
    rintro β' v l _ ⟨B,p,rfl,rfl,h1,h2⟩
    exact⟨B,p,rfl,rfl,h1,h2⟩)
end q
end
section
open Go.RowKit Go.Maps bH aE
def tB (n:Nat) (z:Int):Prop:=z < 1\/z > (n:Int)
instance (n:Nat) (z:Int):Decidable (tB n z):=inferInstanceAs (Decidable (_\/_))
def aL (fs gs:List bJ) (n:Nat):List bJ:=fs++gs.filter (fun g=>decide (tB n g.at_))
def aO (xs ys:List cC) (n:Nat):List cC:=xs++ys.filter (fun g=>decide (tB n g.at_))
section u
variable {fs gs:List bJ} {xs ys:List cC} {n j k:Nat} {S:aI} {c:aB} {root:Int} {b:Nat}
theorem En:aL fs (gs.take 0) n=fs:=by unfold aL;simp
theorem Eo:aO xs (ys.take 0) n=xs:=by unfold aO;simp
theorem nA (h:j < gs.length) (e:tB n (dK gs j).at_):aL fs (gs.take (j+1)) n=aL fs (gs.take j) n++[dK gs j]:=by
  unfold aL
  rw [qh h,List.filter_append,List.filter_cons_of_pos (by simpa using e),List.filter_nil,List.append_assoc]
theorem CG (h:j < gs.length) (e:¬ tB n (dK gs j).at_):aL fs (gs.take (j+1)) n=aL fs (gs.take j) n:=by
  unfold aL
  rw [qh h,List.filter_append,List.filter_cons_of_neg (by simpa using e),List.filter_nil,List.append_nil]
theorem nB (h:j < ys.length) (e:tB n (act ys j).at_):aO xs (ys.take (j+1)) n=aO xs (ys.take j) n++[act ys j]:=by
  unfold aO
  rw [wq h,List.filter_append,List.filter_cons_of_pos (by simpa using e),List.filter_nil,List.append_assoc]
theorem CH (h:j < ys.length) (e:¬ tB n (act ys j).at_):aO xs (ys.take (j+1)) n=aO xs (ys.take j) n:=by
  unfold aO
  rw [wq h,List.filter_append,List.filter_cons_of_neg (by simpa using e),List.filter_nil,List.append_nil]
theorem qX:(aL fs (gs.take j) n).length<=fs.length+j:=by
  unfold aL
  have h1:=List.length_filter_le (fun g:bJ=>decide (tB n g.at_)) (gs.take j)
  rw [List.length_take] at h1
  rw [List.length_append]
  omega
theorem qY:(aO xs (ys.take j) n).length<=xs.length+j:=by
  unfold aO
  have h1:=List.length_filter_le (fun g:cC=>decide (tB n g.at_)) (ys.take j)
  rw [List.length_take] at h1
  rw [List.length_append]
  omega
theorem IG (h1:eZ fs 1048576) (h2:eZ gs 1048576):eZ (aL fs gs n) 2097152:=⟨by
  have:=qX (fs:=fs) (gs:=gs) (n:=n) (j:=gs.length)
  rw [List.take_length] at this
  have:=h1.len;have:=h2.len
  omega,fun a ha=>by
  rcases List.mem_append.1 ha with ha|ha
  ·exact h1.q a ha
  exact h2.q a (List.mem_filter.1 ha).1⟩
theorem DC (h1:gj xs 1048576) (h2:gj ys 1048576) (h3:xs.length+ys.length<=1048576):gj (aO xs ys n) 1048576:=⟨by
  have:=qY (xs:=xs) (ys:=ys) (n:=n) (j:=ys.length)
  rw [List.take_length] at this
  omega,fun a ha=>by
  rcases List.mem_append.1 ha with ha|ha
  ·exact h1.q a ha
  exact h2.q a (List.mem_filter.1 ha).1⟩
theorem J4 (h1:1<=k) (h2:k<=n):ia (aL fs gs n) (aO xs ys n) root k S c=ia fs xs root k S c:=by
  have hn:∀ z:Int,tB n z->z≠(k:Int):=fun z hz e=>by
    unfold tB at hz
    omega
  unfold ia aL aO
  rw [DY _ (fun g hg=>hn _ (by simpa using (List.mem_filter.1 hg).2)),Jr _ (fun g hg=>hn _ (by simpa using (List.mem_filter.1 hg).2))]
theorem L4 {β:Bs} {ns:List aP} {X:FM} (N:rC X ns) (h0:cL X ns root=0) (A:Option Addr) (c:Nat) (Y:Lay) (hG:ay β A ns Y) (hB:gn ns 1048576) (Af:Option Addr) (cf:Nat) (fs:List bJ) (hF:bX β Af (aH bV fs)) (jZ:eZ fs 2097152) (Aa:Option Addr) (ca:Nat) (xs:List cC) (hA:bX β Aa (aH cD xs)) (hab:gj xs 1048576) :
    bY Tryz.prog β 15 #[zl A ns.length c root X Af fs.length cf Aa xs.length ca] [] (fun β' v l=>∃ (G:WG) (V:WV),v=.tuple #[vP G.w,.int .i64 0]/\l=[wA G fs xs root N.1 V []]/\je β' G.Z xs):=
  (wF h0 A c Y hG hB Af cf fs hF jZ Aa ca xs hA hab).mono (by
    rintro β' v l _ ⟨N2,G,V,rfl,rfl,h⟩
    exact⟨G,V,rfl,by rw [show N2.1=N.1 from N2.2.uniq N.2],h⟩)
end u
end
section
open Go.RowKit
section y
variable {P:Program} {β uK:Bs} {N:Nat} {ops:Array Oper} {S:List HP} {l l':List (Bool×Nat)} {fr fr':Fr} {hps:List HP} {Q:Post} {i:Nat} {bG:List Prop}
def nS (P:Program) (ops:Array Oper) (Q:Post) (R S:World->Prop):List (Bool×Nat)->Act->World->Prop
  | [],a,w=>Q .normal a w
  | (false,i)::l,a,w=>wpOp P ops Q i (fun a' w'=>(l=[]\/S w')/\nS P ops Q R S l a' w') a w
  | (true,i)::l,a,w=>∃ o v,ops[i]?=some o/\YieldsIf P ops R o v a/\nS P ops Q R S l (a.put o.dst v) w
theorem Bg {R S:World->Prop} (hs:∀ w,S w->R w):∀ (l:List (Bool×Nat)) (a:Act) (w:World),nS P ops Q R S l a w->j8 P ops Q S l a w
  | [],_,_,h=>h
  | (false,i)::l,a,w,h=>by
    unfold nS at h;unfold j8
    exact wpOp_mono (fun a' w' h'=>⟨h'.1,Bg hs l a' w' h'.2⟩) h
  | (true,i)::l,a,w,h=>by
    unfold nS at h;unfold j8
    obtain⟨o,v,h1,h2,h3⟩:=h
    exact⟨o,v,h1,h2.imp (fun q=>⟨q.1,fun w hw=>q.2 w (hs w hw)⟩) id,Bg hs l _ w h3⟩
def Bs.bare (β:Bs):Bs:=⟨fun _=>False,β.w0⟩
theorem Sat.bare {w:World} (h:Sat β S w):Sat β.bare [] w:=by
  obtain⟨ho,_⟩:=h
  exact⟨⟨ho.os,ho.tape,ho.output,ho.size,fun k hk=>hk.elim⟩,fun _ _=>False,fun i p h=>absurd h (by simp),fun i hi=>absurd hi (Nat.not_lt_zero i),fun i j hi=>absurd hi (Nat.not_lt_zero i)⟩
def Grown (a b:Bs):Prop:=a=b\/a.le b
theorem Grown.trans {a b c:Bs} (h:Grown a b) (g:b.le c):Grown a c:=.inr (h.elim (fun e=>e ▸ g) (fun h=>h.trans g))
theorem Grown.sat {a b:Bs} {w:World} (h:Grown a b) (hS:Sat b S w):Sat a S w:=h.elim (fun e=>e ▸ hS) (fun h=>hS.Bp h)
def lI (P:Program) (β uK:Bs) (N:Nat) (ops:Array Oper) (S:List HP) (l:List (Bool×Nat)) (fr:Fr) (hps:List HP) (Q:Post):Prop:=
  ∀ junk w,Sat β hps w->nS P ops (NP Q) (Sat uK.bare []) (Sat uK S) l (cx N fr junk) w
theorem fk.Wa (K:lI P β β N ops S l fr hps Q):fk P β N ops S l fr hps Q:=fun junk w hS=>Bg (fun _ h=>h.bare) _ _ _ (K junk w hS)
theorem lI.J5 {ι:Type} {B:ι->Bs} {Φ:ι->Prop} {fr':ι->Fr} {hp':ι->List HP} (pk:List Nat) (hle:Grown uK β) (hg:gB ops i=true) (h:aj P β N (nY ops i) i fr hps (NP (Qx β N B Φ fr' hp'))) (hn:bC pk=true) (hp:∀ j,bU (hp' j) pk=some S)
    (K:∀ j,β.le (B j)->Φ j->lI P (B j) uK N ops S l (fr' j) (hp' j) Q):lI P β uK N ops S ((false,i)::l) fr hps Q:=by
  intro junk w hS
  unfold nS
  refine mP hg (lH (Q':=_) (fun a w ⟨j,fO,hle2,xg,ha,dM⟩=>?_) _ (h junk w hS))
  subst ha
  exact⟨.inr ((hle.trans hle2).sat (dM.pick hn (hp j))),K j hle2 xg fO w dM⟩
theorem lI.cut {ι:Type} {fr':ι->Fr} {hp':ι->List HP} (pk:List Nat) (hle:Grown uK β) (hg:gB ops i=true) (h:aj P β N (nY ops i) i fr hps (NP (nI β N fr' hp'))) (hn:bC pk=true) (hp:∀ j,bU (hp' j) pk=some S)
    (K:∀ j,lI P β uK N ops S l (fr' j) (hp' j) Q):lI P β uK N ops S ((false,i)::l) fr hps Q:=by
  intro junk w hS
  unfold nS
  refine mP hg (lH (Q':=_) (fun a w ⟨j,fO,ha,dM⟩=>?_) _ (h junk w hS))
  subst ha
  exact⟨.inr (hle.sat (dM.pick hn (hp j))),K j fO w dM⟩
theorem lI.last (hg:gB ops i=true) (h:aj P β N (nY ops i) i fr hps (NP Q)):lI P β uK N ops S [(false,i)] fr hps Q:=by
  intro junk w hS
  unfold nS
  exact mP hg (lH (Q':=_) (fun a w hq=>⟨.inl rfl,by unfold nS;exact hq⟩) _ (h junk w hS))
end y
end
end Go.Proofs.YtidjcblbdmfalaaGreat
