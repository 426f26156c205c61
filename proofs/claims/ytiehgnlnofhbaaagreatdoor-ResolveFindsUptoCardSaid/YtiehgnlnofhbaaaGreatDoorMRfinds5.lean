/-
  PROVED HERE: lemmas and contracts of functions (texts of this repo, joined; what the claim does not use is left out): H12, Lw, LA, Lc, HW, Og, LC, Oh, Wm, WE, WF, WA, HA, HB, WB, Wc, WC, Wd, WK, EA, Df, RA, RB, Rh, We, WG, Wl.
  CONDITIONS: as the theorems say.
-/
import Derived.Test.YtiehgnlnofhbaaaGreatDoorMRfinds4
import Derived.Stop.Asserts
import Derived.Defers
set_option maxRecDepth 100000
set_option maxHeartbeats 4000000
namespace Go.Proofs.YtiehgnlnofhbaaaGreatDoor
section
open Go.RowKit Go.Maps bq aF
attribute [local irreducible] ak aU af aj
abbrev sy (b2:Nat) (X:FM):=(.blk b2 [vI (X.cN),vI (X.cB),vI (X.cH),vI (X.cS),vI (X.cZ)] 28:HP)
abbrev rT (b1:Nat) (A:Option Addr) (ns:List aI) (c):=(.blk b1 [.slice A (ns.length) (c)] 24:HP)
abbrev sA (b8:Nat) (ns) (k:Nat) (Y:Lay):=(.blk b8 [vI ((nd ns k).id),vI ((nd ns k).kind),vI ((nd ns k).mode),vI ((nd ns k).uid),vI ((nd ns k).gid),vI ((nd ns k).sec),vI ((nd ns k).nano),.slice (Y.dA k) ((nd ns k).data.length) ((Y.dC k)),.string (nd ns k).target,.slice (Y.eA k) ((nd ns k).ah.length) ((Y.eC k))] 108:HP)
abbrev AR (b9:Nat) (ns) (k:Nat):=(.blk b9 [vI ((nd ns k).id),vI ((nd ns k).mode),vI ((nd ns k).uid),vI ((nd ns k).gid),vI ((nd ns k).sec),vI ((nd ns k).nano),vI 0,vI 0,.bool false] 161:HP)
abbrev xR (b1:Nat) (A:Option Addr) (ns) (c) (b7:Nat) (m3:Nat) (t4:Nat) (S:aJ) (L:HL) (R:bW):=([rT b1 A ns c,pF b7 m3 t4 S.X,pI m3 L S.idx,xQ t4 S L,pO S.O L,pD S.O L,pE S.O L,.abs R]:List HP)
abbrev Rp (A:Option Addr) (ns:List aI) (c) (i:Nat) (Y:Lay) (j:Nat):=([(123,.slice A (ns.length) (c)),(124,vI ↑ns.length),(125,vI ↑i),(130,.slice (Y.eA i) ((nd ns i).ah.length) ((Y.eC i))),(131,vI ↑((nd ns i).ah.length)),(132,vI ↑j)]:Fr)
abbrev NW (b1:Nat) (X:FM):=([(2,vP b1),(39,.agg #[vI (X.cN),vI (X.cB),vI (X.cH),vI (X.cS),vI (X.cZ)])]:Fr)
abbrev NY (b1:Nat) (b7:Nat) (A:Option Addr) (ns:List aI) (c) (k:Nat):=([(2,vP b1),(6,vP b7),(47,.slice A (ns.length) (c)),(48,vI ↑ns.length),(49,vI ↑k)]:Fr)
abbrev Kh (b1:Nat) (b7:Nat) (b8:Nat) (A:Option Addr) (ns:List aI) (c) (k:Nat):=([(2,vP b1),(6,vP b7),(8,vP b8),(47,.slice A (ns.length) (c)),(48,vI ↑ns.length),(49,vI ↑k)]:Fr)
abbrev Qk (b1:Nat) (b7:Nat) (b8:Nat) (A:Option Addr) (ns:List aI) (c) (k:Nat):=([(2,vP b1),(6,vP b7),(8,vP b8),(47,.slice A (ns.length) (c)),(48,vI ↑ns.length),(49,vI ↑k)]:Fr)
abbrev LH (b7:Nat) (b16:Nat):=([(6,vP b7),(11,vP b16)]:Fr)
abbrev Ql (S:aJ) (ns) (k:Nat) (b7:Nat):=([(118,vI (S.X.used+(((nd ns k).data.length:Nat):Int))),(120,.pointer (some ⟨b7,9,none⟩))]:Fr)
theorem Ki {β:Bs} (A:Option Addr) (c:Nat) (ns:List aI) (Y:Lay) (hG:aE β A ns Y) (hl:ns.length<=1048576) (hd:∀ i,i < ns.length->(nd ns i).data.length<=1048576/\(nd ns i).ah.length<=1048576) (hwf:∀ i,i < ns.length->∀ j,j < (nd ns i).ah.length->-9223372036854775808<=(ent ns i j).id/\(ent ns i j).id<=9223372036854775807) (hnm:∀ i,i < ns.length->∀ j,j < (nd ns i).ah.length->(ent ns i j).name.size<=1048576) (X:FM) :
    Spec Tryz.prog β 48 #[.agg #[.slice A (ns.length) (c)],.agg #[vI (X.cN),vI (X.cB),vI (X.cH),vI (X.cS),vI (X.cZ)]] [] (fun v l=>(¬ jQ X/\v=.tuple #[.pointer none,vI 179]/\l=[])\/(jQ X/\¬ bB ns/\v=.tuple #[.pointer none,vI 140]/\l=[])\/(jQ X/\bB ns/\∃ S f m t L,fS X ns ns.length 0 S/\v=.tuple #[vP f,vI 0]/\l=pA f m t L S)):=by
 refine Spec.enter Tryz.func48 rfl Tryz.ntmps48 (Nat.le_of_ble_eq_true rfl) (fun R=>?_)
 refine SR (gN 1 (fun b1=>[(2,vP b1)]) (fun _=>[]) (fun _=>[]) (fun b1=>.blk b1 [.slice A (ns.length) (c)] 24) (fun b1=>?_))
 refine gN 3 (fun b2=>[(3,vP b2)]) (fun _=>[]) (fun _=>[]) (fun b2=>.blk b2 [vI (X.cN),vI (X.cB),vI (X.cH),vI (X.cS),vI (X.cZ)] 28) (fun b2=>?_)
 refine NN (af.seq (SR (gK 2 [(15,vI (X.cN))] [(1,a_ 2 b2)] ?_)))
 refine gL [] (sO X.cN 4096) ?_
 rintro _ _ ⟨rfl,rfl⟩
 refine gK 2 [(18,.bool (!(decide ((0<=X.cN/\X.cN<=4096)))))] [] ?_
 refine ak.jx 18 ((0<=X.cN/\X.cN<=4096)) (fun _=>by kernel_rfl) (fun oU=>?_) (fun oU=>?_)
 ·refine gK 17 [(35,.bool true)] [] ?_
  refine NN (CT (SR (gK 2 [(4,.pointer none),(5,vI 179)] [] ?_)))
  refine NN (af.ret (aj.aq ?_))
  exact RT (.tuple #[.pointer none,vI 179]) [0] (.inl ⟨fun h=>oU h.cN,rfl,rfl⟩)
 refine gK 2 [(20,vI (X.cB))] [(1,a_ 2 b2)] ?_
 refine gL [] (sO X.cB 1099511627776) ?_
 rintro _ _ ⟨rfl,rfl⟩
 refine gK 3 [(24,.bool (!(decide ((0<=X.cB/\X.cB<=1099511627776)))))] [] ?_
 refine ak.jx 24 ((0<=X.cB/\X.cB<=1099511627776)) (fun _=>by kernel_rfl) (fun C6=>?_) (fun C6=>?_)
 ·refine gK 11 [(35,.bool true)] [] ?_
  refine NN (CT (SR (gK 2 [(4,.pointer none),(5,vI 179)] [] ?_)))
  refine NN (af.ret (aj.aq ?_))
  exact RT (.tuple #[.pointer none,vI 179]) [0] (.inl ⟨fun h=>C6 h.cB,rfl,rfl⟩)
 refine gK 2 [(26,vI (X.cH))] [(1,a_ 2 b2)] ?_
 refine gL [] (sO X.cH 1024) ?_
 rintro _ _ ⟨rfl,rfl⟩
 refine gK 3 [(30,.bool (!(decide ((0<=X.cH/\X.cH<=1024)))))] [] ?_
 refine ak.jx 30 ((0<=X.cH/\X.cH<=1024)) (fun _=>by kernel_rfl) (fun uN=>?_) (fun uN=>?_)
 ·refine gK 5 [(35,.bool true)] [] ?_
  refine NN (CT (SR (gK 2 [(4,.pointer none),(5,vI 179)] [] ?_)))
  refine NN (af.ret (aj.aq ?_))
  exact RT (.tuple #[.pointer none,vI 179]) [0] (.inl ⟨fun h=>uN h.cH,rfl,rfl⟩)
 refine gK 2 [(32,.agg #[vI (X.cS),vI (X.cZ)])] [(1,A_ 2 b2 2)] ?_
 refine gL [] (mq X.cS X.cZ) ?_
 rintro _ _ ⟨rfl,rfl⟩
 refine gK 2 [(35,.bool (!(decide (fO X.cS X.cZ))))] [] ?_
 refine NN (af.fI (p:=fO X.cS X.cZ) (fun _=>by kernel_rfl) (fun uW=>?_) (fun uW=>?_))
 ·refine SR (gK 2 [(4,.pointer none),(5,vI 179)] [] ?_)
  refine NN (af.ret (aj.aq ?_))
  exact RT (.tuple #[.pointer none,vI 179]) [0] (.inl ⟨fun h=>uW h.now,rfl,rfl⟩)
 have hcap:jQ X:=⟨oU,C6,uN,uW⟩
 refine af.skip (NX (af.seq (SR (gK 1 [(36,.agg #[.slice A (ns.length) (c)])] [(0,a_ 1 b1)] ?_))))
 refine gL [] (O5 A c ns Y hG hl (fun i hi=>⟨Nat.le_trans (hd i hi).1 (by decide),(hd i hi).2⟩) hwf hnm) ?_
 rintro _ _ ⟨rfl,rfl⟩
 refine gK 1 [(38,.bool (!(decide (((if bB ns then 0 else 140):Int)=(0:Int)))))] [] ?_
 refine NN (af.fI (p:=((if bB ns then 0 else 140):Int)=(0:Int)) (fun _=>by kernel_rfl) (fun JG=>?_) (fun JG=>?_))
 ·have NZ:¬ bB ns:=fun h=>JG (if_pos h)
  refine SR (gK 2 [(4,.pointer none),(5,vI 140)] [] ?_)
  refine NN (af.ret (aj.aq ?_))
  exact RT (.tuple #[.pointer none,vI 140]) [0] (.inr (.inl ⟨hcap,NZ,rfl,rfl⟩))
 have hok:bB ns:=Classical.byContradiction (fun h=>by rw [if_neg h] at JG;exact absurd JG (by decide))
 refine af.skip (NX (af.seq (af.sN (S:=[sy b2 X]) [0,2,3] [.two 1 4,.one 5,.one 6,.one 7] [2] (by kernel_rfl) (by kernel_rfl) rfl (by kernel_rfl) ?_)))
 refine gP (NW b1 X++[(42,vI (X.cH))]) [0,2,3] [(0,A_ 0 b2 5),(2,a_ 0 b2)] ?_
 refine jo.pair (ι:=Nat×Nat) (TU:=Nat) (TV:=Nat) (Ng:=fun (m3:Nat)=>(NW b1 X++[(40,.map (some m3)),(42,vI (X.cH))])) (hpi:=fun (m3:Nat)=>[.abs R,rT b1 A ns c,sy b2 X,.abs (aP Tryz.prog 3 m3 (fun _=>none) 0)]) (Nh:=fun (t5:Nat)=>(NW b1 X++[(43,vP t5)])) (Ni:=fun (t5:Nat)=>[.abs (dx 212 t5 (min (max X.cH 0) 1024) 0 []),.abs R,rT b1 A ns c,sy b2 X]) (fr':=fun ((m3,t4):Nat×Nat)=>[(2,vP b1),(39,.agg #[vI (X.cN),vI (X.cB),vI (X.cH),vI (X.cS),vI (X.cZ)]),(40,.map (some m3)),(43,vP t4)]) (hp':=fun ((m3,t4):Nat×Nat)=>[.abs (dx 212 t4 (min (max X.cH 0) 1024) 0 []),.abs R,rT b1 A ns c,sy b2 X,.abs (aP Tryz.prog 3 m3 (fun _=>none) 0)]) [2] [3] [3] rfl rfl rfl rfl ?_ ?_ ?_ ?_ rfl (fun _=>by kernel_rfl) rfl (fun _=>by kernel_rfl) rfl (fun _=>by kernel_rfl) ?_
 ·refine ak.mz (d:=(some 40)) (t:=151) (fun _=>by kernel_rfl) Tryz.prog rfl 3 (fun m3=>?_)
  refine NL ?_
  exact MD m3 [2,39,40,42] [0,1,2,3]
 ·rintro m3
  show ak _ _ _ _ _ (NW b1 X++[(40,.map (some m3)),(42,vI (X.cH))]) [.abs R,rT b1 A ns c,sy b2 X,.abs (aP Tryz.prog 3 m3 (fun _=>none) 0)] _
  refine gL [] (Gy X.cH) ?_
  rintro _ _ ⟨t4,rfl,rfl⟩
  refine NL ?_
  exact MD (m3,t4) [2,39,40,43] [0,1,2,3,4]
 ·refine gL [] (Gy X.cH) ?_
  rintro _ _ ⟨t5,rfl,rfl⟩
  refine NL ?_
  exact MD t5 [2,39,43] [0,1,2,3]
 ·rintro t5
  show ak _ _ _ _ _ (NW b1 X++[(43,vP t5)]) [.abs (dx 212 t5 (min (max X.cH 0) 1024) 0 []),.abs R,rT b1 A ns c,sy b2 X] _
  refine ak.mz (d:=(some 40)) (t:=151) (fun _=>by kernel_rfl) Tryz.prog rfl 3 (fun m6=>?_)
  refine NL ?_
  exact MD (m6,t5) [2,39,40,43] [0,1,2,3,4]
 rintro⟨m3,t4⟩
 refine jo.cut (ι:=Unit) (fr':=fun (_:Unit)=>[(2,vP b1),(44,.agg #[vI (X.cN),vI (X.cB),vI (X.cH),vI (X.cS),vI (X.cZ),.map (some m3),vP t4,vI 0,vI 0,vI 0])]) (hp':=fun (_:Unit)=>[.abs (dx 212 t4 (min (max X.cH 0) 1024) 0 []),.abs R,rT b1 A ns c,sy b2 X,.abs (aP Tryz.prog 3 m3 (fun _=>none) 0)]) [3] rfl rfl ?_ rfl (fun _=>by kernel_rfl) ?_
 ·refine gK 1 [(44,.agg #[vI (X.cN),vI (X.cB),vI (X.cH),vI (X.cS),vI (X.cZ),.map (some m3),vP t4,vI 0,vI 0,vI 0])] [] ?_
  refine NL ?_
  exact MD () [2,44] [0,1,2,3,4]
 rintro _
 refine jo.cut (ι:=Nat) (fr':=fun (b7:Nat)=>[(2,vP b1),(45,vP b7)]) (hp':=fun (b7:Nat)=>[.abs (dx 212 t4 (min (max X.cH 0) 1024) 0 []),.abs R,rT b1 A ns c,sy b2 X,.abs (aP Tryz.prog 3 m3 (fun _=>none) 0),pF b7 m3 t4 { X with last:=0,ah:=0,used:=0 }]) [3] rfl rfl ?_ rfl (fun _=>by kernel_rfl) ?_
 ·refine gN 1 (fun b7=>[(45,vP b7)]) (fun _=>[]) (fun _=>[]) (fun b7=>pF b7 m3 t4 { X with last:=0,ah:=0,used:=0 }) (fun b7=>?_)
  refine NL ?_
  exact MD b7 [2,45] [0,1,2,3,4,5]
 rintro b7
 refine jo.last rfl rfl ?_
 refine gK 1 [(6,vP b7)] [] ?_
 refine NL (aj.np (NX (af.seq (SR ?_))))
 obtain⟨L,ZG⟩:∃ L:HL,L=⟨fun _=>0,fun _=>0,fun _=>none,fun _=>0⟩:=⟨_,rfl⟩
 refine ak.mem (fun w hS=>hS.FC (bS (iQ X).O L) (BR X L).1) ?_
 refine ak.mem (fun w hS=>hS.FC (cg (iQ X).O L) (BR X L).2.1) ?_
 refine ak.mem (fun w hS=>hS.FC (cY (iQ X).O L) (BR X L).2.2) ?_
 have hc:min (max X.cH 0) 1024=X.cH:=by have:=hcap.cH;omega
 refine ak.mem (dm:=[.abs (dx 212 t4 (iQ X).X.cH (iQ X).aD (bH L (iQ X).us)),.abs R,.blk b1 [.slice A (ns.length) (c)] 24,.blk b2 [vI (X.cN),vI (X.cB),vI (X.cH),vI (X.cS),vI (X.cZ)] 28,.abs (aP Tryz.prog 3 m3 (bA (bH L (iQ X).idx)) ((iQ X).idx.length)),.blk b7 [vI ((iQ X).X.cN),vI ((iQ X).X.cB),vI ((iQ X).X.cH),vI ((iQ X).X.cS),vI ((iQ X).X.cZ),.map (some m3),vP t4,vI ((iQ X).X.last),vI ((iQ X).X.ah),vI ((iQ X).X.used)] 154,.abs (aG (bS ((iQ X).O) L)),.abs (aG (cg ((iQ X).O) L)),.abs (aG (cY ((iQ X).O) L))]) (fun w hS=>by rw [hc,← Gw] at hS;exact hS) ?_
 refine gK 4 [(47,.slice A (ns.length) (c)),(48,vI ↑ns.length),(49,vI 0)] [(1,a_ 2 b1)] ?_
 refine NN (af.block ?_)
 refine af.loop (ι:=Nat×aJ×HL) (fun ((k,S,L):Nat×aJ×HL)=>(k<=ns.length)/\(mG X ns k S)) (fun ((k,S,L):Nat×aJ×HL)=>ns.length - k) (fun ((k,S,L):Nat×aJ×HL)=>(NY b1 b7 A ns c k)) (fun ((k,S,L):Nat×aJ×HL)=>(xR b1 A ns c b7 m3 t4 S L R)) (0,(iQ X),L) (idx:=[2,6,47,48,49]) (pk:=[2,5,4,0,6,7,8,1]) (show (0<=ns.length)/\(mG X ns 0 ((iQ X))) from ⟨Nat.zero_le _,NI hcap⟩) (fun _=>by kernel_rfl) rfl (by kernel_rfl) ?_
 rintro⟨k,S,L⟩ ⟨hk,hB⟩
 show af _ _ _ _ (NY b1 b7 A ns c k) (xR b1 A ns c b7 m3 t4 S L R) _
 refine SR (gK 1 [(50,.bool (decide ((((k:Nat):Int):Int) < (((ns.length:Nat):Int):Int))))] [] ?_)
 refine NN (af.seq (af.aW (p:=(((k:Nat):Int):Int) < (((ns.length:Nat):Int):Int)) (fun _=>by kernel_rfl) (fun h50=>?_) (fun h50=>?_)))
 ·have hk2:k < ns.length:=by omega
  have hdk:=hd k hk2
  have hds:=E9 (fun i hi=>(hd i hi).1) hk
  have P9:=hok.ids k hk2
  have hni:=hB.new hok hk2
  have qH:(Lit.int .i64 (nd ns k).id).wf=true:=WalkArith.wf_i64 (by omega)
  have hkk:=(hok.node k hk2).kind
  have jw:S.X.used=(tS ns k:Int):=by rw [hB.cap]
  have hil:=hB.inv.len
  refine af.skip (NX (af.seq (af.block (SR ?_))))
  refine gN 4 (fun b8=>[(8,vP b8)]) (fun b8=>[(0,p_ ⟨[],some k,none,some ⟨(ay A),ax A,none⟩,none⟩ [((k:Nat):Int)=((k:Nat):Int),k < ns.length,(⟨(ay A),ax A,none⟩:Addr).spot=none,(A:Option Addr)=some ⟨(ay A),ax A,none⟩] ⟨rfl,by omega,rfl,aE.hd hG (i:=k) (by omega),trivial⟩),(1,p_ ⟨[.old (.int .i64 ((nd ns k).id)),.old (.int .i64 ((nd ns k).kind)),.old (.int .i64 ((nd ns k).mode)),.old (.int .i64 ((nd ns k).uid)),.old (.int .i64 ((nd ns k).gid)),.old (.int .i64 ((nd ns k).sec)),.old (.int .i64 ((nd ns k).nano)),.old (.slice (Y.dA k) ((nd ns k).data.length) ((Y.dC k))),.old (.string (nd ns k).target),.old (.slice (Y.eA k) ((nd ns k).ah.length) ((Y.eC k)))],none,none,none,none⟩ [(Rd β ⟨(ay A),ax A+k * 10+9,none⟩ (.slice (Y.eA k) ((nd ns k).ah.length) ((Y.eC k)))),(Rd β ⟨(ay A),ax A+k * 10+8,none⟩ (.string (nd ns k).target)),(Rd β ⟨(ay A),ax A+k * 10+7,none⟩ (.slice (Y.dA k) ((nd ns k).data.length) ((Y.dC k)))),(Rd β ⟨(ay A),ax A+k * 10+6,none⟩ (.int .i64 ((nd ns k).nano))),(Rd β ⟨(ay A),ax A+k * 10+5,none⟩ (.int .i64 ((nd ns k).sec))),(Rd β ⟨(ay A),ax A+k * 10+4,none⟩ (.int .i64 ((nd ns k).gid))),(Rd β ⟨(ay A),ax A+k * 10+3,none⟩ (.int .i64 ((nd ns k).uid))),(Rd β ⟨(ay A),ax A+k * 10+2,none⟩ (.int .i64 ((nd ns k).mode))),(Rd β ⟨(ay A),ax A+k * 10+1,none⟩ (.int .i64 ((nd ns k).kind))),(Rd β ⟨(ay A),ax A+k * 10,none⟩ (.int .i64 ((nd ns k).id)))] ⟨aE.rd hG (i:=k) (by omega) (j:=9) rfl,aE.rd hG (i:=k) (by omega) (j:=8) rfl,aE.rd hG (i:=k) (by omega) (j:=7) rfl,aE.rd hG (i:=k) (by omega) (j:=6) rfl,aE.rd hG (i:=k) (by omega) (j:=5) rfl,aE.rd hG (i:=k) (by omega) (j:=4) rfl,aE.rd hG (i:=k) (by omega) (j:=3) rfl,aE.rd hG (i:=k) (by omega) (j:=2) rfl,aE.rd hG (i:=k) (by omega) (j:=1) rfl,aE.rd hG (i:=k) (by omega) (j:=0) rfl,trivial⟩),(3,A_ 8 b8 10)]) (fun _=>[]) (fun b8=>.blk b8 [vI ((nd ns k).id),vI ((nd ns k).kind),vI ((nd ns k).mode),vI ((nd ns k).uid),vI ((nd ns k).gid),vI ((nd ns k).sec),vI ((nd ns k).nano),.slice (Y.dA k) ((nd ns k).data.length) ((Y.dC k)),.string (nd ns k).target,.slice (Y.eA k) ((nd ns k).ah.length) ((Y.eC k))] 108) (fun b8=>?_)
  refine NS (gN 13 (fun b9=>[(9,vP b9)]) (fun b9=>[(1,a_ 8 b8),(3,a_ 8 b8),(5,a_ 8 b8),(7,a_ 8 b8),(9,A_ 8 b8 2),(12,A_ 9 b9 9)]) (fun _=>[]) (fun b9=>.blk b9 [vI ((nd ns k).id),vI ((nd ns k).mode),vI ((nd ns k).uid),vI ((nd ns k).gid),vI ((nd ns k).sec),vI ((nd ns k).nano),vI 0,vI 0,.bool false] 161) (fun b9=>?_))
  refine NN (af.seq (SR (gK 2 [(65,vI ((nd ns k).kind))] [(1,a_ 8 b8)] ?_)))
  refine NN (af.block (SR ?_))
  refine gK 2 [(77,.bool (decide (((nd ns k).kind:Int)=(1:Int))))] [] ?_
  refine NN (af.aW (p:=((nd ns k).kind:Int)=(1:Int)) (fun _=>by kernel_rfl) (fun hk1=>?_) (fun hk1=>?_))
  ·refine af.ck (S:=[pF b7 m3 t4 S.X,sA b8 ns k Y,AR b9 ns k]) [0,1,2,3,4,5,6,7,8,9,10,11,12,13] 9 [1,8,9] (by kernel_rfl) (by kernel_rfl) rfl (by kernel_rfl) ?_
   refine gR 0 [9,10,11,12,13] (Qk b1 b7 b8 A ns c k++[(82,.map (some m3)),(84,vI ((nd ns k).id)),(85,.agg #[vI ((nd ns k).id),vI ((nd ns k).mode),vI ((nd ns k).uid),vI ((nd ns k).gid),vI ((nd ns k).sec),vI ((nd ns k).nano),vI 0,vI 0,.bool false]),(87,.slice (Y.dA k) ((nd ns k).data.length) ((Y.dC k)))]) [0,1,2,3,4,5,6,7,8] [(3,a_ 0 b7),(5,a_ 1 b8),(6,A_ 2 b9 9),(8,a_ 1 b8)] ?_
   refine mL [2,9,10] [] (vz (Y.dA k) (Y.dC k) (nd ns k).data (hG.data k (by omega)) (by have:=(hd k (by omega)).1;omega)) ?_ (by rintro _ _ ⟨p6,c11,rfl,rfl⟩;rfl)
   rintro _ _ ⟨p6,c11,rfl,rfl⟩
   refine aQ.cut (ι:=Unit) (fr':=fun (_:Unit)=>(Kh b1 b7 b8 A ns c k++[(82,.map (some m3)),(84,vI ((nd ns k).id)),(89,.agg #[vI ((nd ns k).id),vI ((nd ns k).mode),vI ((nd ns k).uid),vI ((nd ns k).gid),vI ((nd ns k).sec),vI ((nd ns k).nano),vI 0,vI 0,.bool false,.slice p6 ((nd ns k).data.length) (c11)])])) (hp':=fun (_:Unit)=>([.abs (aH 5 1 p6 ((nd ns k).data.length) c11 (cG (nd ns k).data))]++xR b1 A ns c b7 m3 t4 S L R++[sA b8 ns k Y,AR b9 ns k])) [2,9,10] rfl rfl ?_ rfl (fun _=>by kernel_rfl) ?_
   ·refine gK 1 [(89,.agg #[vI ((nd ns k).id),vI ((nd ns k).mode),vI ((nd ns k).uid),vI ((nd ns k).gid),vI ((nd ns k).sec),vI ((nd ns k).nano),vI 0,vI 0,.bool false,.slice p6 ((nd ns k).data.length) (c11)])] [] ?_
    refine NL ?_
    exact MD () [2,6,8,47,48,49,82,84,89] [0,1,2,3,4,5,6,7,8,9,10]
   rintro _
   refine mN [2,9,10] (fun b12=>[(90,vP b12)]) (fun _=>[]) (fun b12=>.blk b12 [vI ((nd ns k).id),vI ((nd ns k).mode),vI ((nd ns k).uid),vI ((nd ns k).gid),vI ((nd ns k).sec),vI ((nd ns k).nano),vI 0,vI 0,.bool false,.slice p6 ((nd ns k).data.length) (c11)] 165) (fun b12=>?_)
   refine aQ.cut (ι:=Unit) (fr':=fun (_:Unit)=>(Kh b1 b7 b8 A ns c k++[(82,.map (some m3)),(84,vI ((nd ns k).id)),(91,.iface 162 (vP b12))])) (hp':=fun (_:Unit)=>([.abs (aH 5 1 p6 ((nd ns k).data.length) c11 (cG (nd ns k).data))]++xR b1 A ns c b7 m3 t4 S L R++[sA b8 ns k Y,AR b9 ns k,.blk b12 [vI ((nd ns k).id),vI ((nd ns k).mode),vI ((nd ns k).uid),vI ((nd ns k).gid),vI ((nd ns k).sec),vI ((nd ns k).nano),vI 0,vI 0,.bool false,.slice p6 ((nd ns k).data.length) (c11)] 165])) [2,9,10] rfl rfl ?_ rfl (fun _=>by kernel_rfl) ?_
   ·refine gK 1 [(91,.iface 162 (vP b12))] [] ?_
    refine NL ?_
    exact MD () [2,6,8,47,48,49,82,84,91] [0,1,2,3,4,5,6,7,8,9,10,11]
   rintro _
   refine aQ.last rfl rfl ?_
   obtain⟨L2,hL2⟩:∃ L2:HL,L2=L.put (fR (nd ns k)) b12 0 p6 c11:=⟨_,rfl⟩
   have hfr:=hB.fresh hok (by omega)
   refine ak.mem (fun w hS=>hS.zY hL2 hfr (o:=(qm (nd ns k))) (i:=5) (j:=11) (ix:=[0,1,2,3,4,6,7,8,9,10]) rfl rfl (by kernel_rfl) rfl (by show (nd ns k).kind≠0;rw [hk1];decide) ((rB (L:=L2) (k:=(fR (nd ns k))) (o:=(qm (nd ns k))) hk1).trans (by rw [show L2.dA (fR (nd ns k))=p6 by rw [hL2];exact if_pos rfl,show L2.dC (fR (nd ns k))=c11 by rw [hL2];exact if_pos rfl];rfl)) (by show rX (nd ns k).kind=_;rw [hk1]<;>rfl)) ?_
   refine ak.fo [(7,.abs (aG (cY ((cC S (nd ns k)).O) L2)))] (fun w hS=>hS.CB hL2 hfr (o:=(qm (nd ns k))) (i:=7) rfl (by show ¬ (nd ns k).kind=2;rw [hk1];decide)) ?_
   refine ak.mem (dm:=[pD ((cC S (nd ns k)).O) L2,pO ((cC S (nd ns k)).O) L2,rT b1 A ns c,pF b7 m3 t4 S.X,pI m3 L S.idx,xQ t4 S L,pE ((cC S (nd ns k)).O) L2,.abs R,sA b8 ns k Y,AR b9 ns k]) (fun w hS=>hS.VK hL2 (o:=(qm (nd ns k))) (i:=6) (j:=1) (ix:=[0,2,3,4,5,7,8,9,10]) rfl rfl (by kernel_rfl) rfl hk1) ?_
   refine ak.fo [(4,.abs (aP Tryz.prog 3 m3 (bA (bH L2 S.idx)) S.idx.length)),(5,.abs (dx 212 t4 S.X.cH S.aD (bH L2 S.us)))] (fun w hS=>by rw [kB hL2 hfr.idx,kB hL2 hfr.us];exact hS) ?_
   have Ib:eu L2 (nO (nd ns k))=.iface 162 (vP b12):=by unfold nO;rw [sX hL2,hk1];rfl
   refine ak.kU 4 (d:=none) (t:=151) (K:=3) (E:=156) (b:=m3) (n:=S.idx.length) (f:=(bA (bH L2 S.idx))) (x:=(.tmp 82)) (ix:=(.tmp 84)) (y:=(.tmp 91)) (key:=.int .i64 ((nd ns k).id)) (u:=.iface 162 (vP b12)) (kl:=(.int .i64 (nd ns k).id)) (n':=(S.idx.length+1)) (f':=(bA (bH L2 (ins (nd ns k).id (nO (nd ns k)) S.idx)))) (fun _=>by kernel_rfl) (by kernel_rfl) (fun _=>by kernel_rfl) (fun _=>by kernel_rfl) (fun _=>by kernel_rfl) dZ Tryz.underlying151 (by unfold maxLen;omega) (iR qH) (by rw [fV,hni];rfl) (by rw [← Ib];exact sV hni) ?_
   refine NL (aj.np (aj.aO (NX (SR ?_))))
   refine gC 6 [] [(2,a_ 8 b8),(5,a_ 3 b7)] [(3,[(7,vI ((nd ns k).id))])] ?_
   refine NN (af.ck (S:=[pF b7 m3 t4 { S.X with last:=(nd ns k).id },sA b8 ns k Y]) [0,1,2,3,4,5,6,7,8,9,10] 10 [3,8] (by kernel_rfl) (by kernel_rfl) rfl (by kernel_rfl) ?_)
   refine gR 0 [10] (NY b1 b7 A ns c k++Ql S ns k b7) [0,1,2,3,4,5,6,7,8,9] [(3,a_ 0 b7),(5,a_ 1 b8),(7,p_ ⟨[],none,none,none,some (vI (S.X.used+(((nd ns k).data.length:Nat):Int)))⟩ [(Value.int .i64 (IntKind.wrap .i64 (S.X.used+(((nd ns k).data.length:Nat):Int))))=(.int .i64 (S.X.used+(((nd ns k).data.length:Nat):Int)))] ⟨bC (by omega) (by omega) (by omega),trivial⟩)] ?_
   refine aQ.last rfl rfl ?_
   refine gC 1 [] [(0,a_ 3 b7)] [(3,[(9,vI (S.X.used+(((nd ns k).data.length:Nat):Int)))])] ?_
   refine NL (aj.np (aj.aO (NX (af.region ?_))))
   refine gK 2 [(49,vI ↑(k+1))] [(0,p_ ⟨[],none,none,none,some (vI ↑(k+1))⟩ [(Value.int .i64 (IntKind.wrap .i64 (((k:Nat):Int)+1)))=(.int .i64 ↑(k+1))] ⟨bC (by omega) (by omega) (by omega),trivial⟩)] ?_
   refine NL (aj.fo [(3,.blk b7 [vI ((cC S (nd ns k)).X.cN),vI ((cC S (nd ns k)).X.cB),vI ((cC S (nd ns k)).X.cH),vI ((cC S (nd ns k)).X.cS),vI ((cC S (nd ns k)).X.cZ),.map (some m3),vP t4,vI ((cC S (nd ns k)).X.last),vI ((cC S (nd ns k)).X.ah),vI ((cC S (nd ns k)).X.used)] 154),(4,.abs (aP Tryz.prog 3 m3 (bA (bH L2 (cC S (nd ns k)).idx)) ((cC S (nd ns k)).idx.length))),(5,.abs (dx 212 t4 (cC S (nd ns k)).X.cH (cC S (nd ns k)).aD (bH L2 (cC S (nd ns k)).us)))] (fun w hS=>by rw [show (cC S (nd ns k)).idx.length=S.idx.length+1 from iG _ _ _];exact hS) ?_)
   exact aj.turn ((k+1),(cC S (nd ns k)),L2) (idx:=[2,6,47,48,49]) (pk:=[2,3,4,5,1,0,6,7]) (show (((k+1))<=ns.length)/\(mG X ns ((k+1)) ((cC S (nd ns k)))) from ⟨by omega,zm hok (fun i hi=>(hd i hi).1) (by omega) hB⟩) (by show ns.length - ((k+1)) < ns.length - k;omega) (fun _=>by kernel_rfl) rfl (by kernel_rfl)
  refine SR (gK 2 [(92,.bool (decide (((nd ns k).kind:Int)=(3:Int))))] [] ?_)
  refine NN (af.aW (p:=((nd ns k).kind:Int)=(3:Int)) (fun _=>by kernel_rfl) (fun hk3=>?_) (fun hk3=>?_))
  ·refine af.ck (S:=[pF b7 m3 t4 S.X,sA b8 ns k Y,AR b9 ns k]) [0,1,2,3,4,5,6,7,8,9,10,11,12] 10 [1,8,9] (by kernel_rfl) (by kernel_rfl) rfl (by kernel_rfl) ?_
   refine gR 0 [10,11,12] (Qk b1 b7 b8 A ns c k++[(97,.map (some m3)),(99,vI ((nd ns k).id)),(103,.agg #[vI ((nd ns k).id),vI ((nd ns k).mode),vI ((nd ns k).uid),vI ((nd ns k).gid),vI ((nd ns k).sec),vI ((nd ns k).nano),vI 0,vI 0,.bool false,.string (nd ns k).target])]) [0,1,2,3,4,5,6,7,8,9] [(3,a_ 0 b7),(5,a_ 1 b8),(6,A_ 2 b9 9),(8,a_ 1 b8)] ?_
   refine mN [1,8,9] (fun b13=>[(104,vP b13)]) (fun _=>[]) (fun b13=>.blk b13 [vI ((nd ns k).id),vI ((nd ns k).mode),vI ((nd ns k).uid),vI ((nd ns k).gid),vI ((nd ns k).sec),vI ((nd ns k).nano),vI 0,vI 0,.bool false,.string (nd ns k).target] 168) (fun b13=>?_)
   refine aQ.cut (ι:=Unit) (fr':=fun (_:Unit)=>(Kh b1 b7 b8 A ns c k++[(97,.map (some m3)),(99,vI ((nd ns k).id)),(105,.iface 166 (vP b13))])) (hp':=fun (_:Unit)=>(xR b1 A ns c b7 m3 t4 S L R++[sA b8 ns k Y,AR b9 ns k,.blk b13 [vI ((nd ns k).id),vI ((nd ns k).mode),vI ((nd ns k).uid),vI ((nd ns k).gid),vI ((nd ns k).sec),vI ((nd ns k).nano),vI 0,vI 0,.bool false,.string (nd ns k).target] 168])) [1,8,9] rfl rfl ?_ rfl (fun _=>by kernel_rfl) ?_
   ·refine gK 1 [(105,.iface 166 (vP b13))] [] ?_
    refine NL ?_
    exact MD () [2,6,8,47,48,49,97,99,105] [0,1,2,3,4,5,6,7,8,9,10]
   rintro _
   refine aQ.last rfl rfl ?_
   obtain⟨L2,hL2⟩:∃ L2:HL,L2=L.put (fR (nd ns k)) b13 0 none 0:=⟨_,rfl⟩
   have hfr:=hB.fresh hok (by omega)
   refine ak.mem (fun w hS=>hS.zY hL2 hfr (o:=(qm (nd ns k))) (i:=4) (j:=10) (ix:=[0,1,2,3,5,6,7,8,9]) rfl rfl (by kernel_rfl) rfl (by show (nd ns k).kind≠0;rw [hk3];decide) ((yB (L:=L2) (k:=(fR (nd ns k))) (o:=(qm (nd ns k))) hk3).trans (by rfl)) (by show rX (nd ns k).kind=_;rw [hk3]<;>rfl)) ?_
   refine ak.fo [(6,.abs (aG (cY ((cC S (nd ns k)).O) L2)))] (fun w hS=>hS.CB hL2 hfr (o:=(qm (nd ns k))) (i:=6) rfl (by show ¬ (nd ns k).kind=2;rw [hk3];decide)) ?_
   refine ak.fo [(5,.abs (aG (cg ((cC S (nd ns k)).O) L2)))] (fun w hS=>hS.CC hL2 (o:=(qm (nd ns k))) (i:=5) rfl (by show ¬ (nd ns k).kind=1;rw [hk3];decide)) ?_
   refine ak.fo [(3,.abs (aP Tryz.prog 3 m3 (bA (bH L2 S.idx)) S.idx.length)),(4,.abs (dx 212 t4 S.X.cH S.aD (bH L2 S.us)))] (fun w hS=>by rw [kB hL2 hfr.idx,kB hL2 hfr.us];exact hS) ?_
   have Ib:eu L2 (nO (nd ns k))=.iface 166 (vP b13):=by unfold nO;rw [sX hL2,hk3];rfl
   refine ak.kU 3 (d:=none) (t:=151) (K:=3) (E:=156) (b:=m3) (n:=S.idx.length) (f:=(bA (bH L2 S.idx))) (x:=(.tmp 97)) (ix:=(.tmp 99)) (y:=(.tmp 105)) (key:=.int .i64 ((nd ns k).id)) (u:=.iface 166 (vP b13)) (kl:=(.int .i64 (nd ns k).id)) (n':=(S.idx.length+1)) (f':=(bA (bH L2 (ins (nd ns k).id (nO (nd ns k)) S.idx)))) (fun _=>by kernel_rfl) (by kernel_rfl) (fun _=>by kernel_rfl) (fun _=>by kernel_rfl) (fun _=>by kernel_rfl) dZ Tryz.underlying151 (by unfold maxLen;omega) (iR qH) (by rw [fV,hni];rfl) (by rw [← Ib];exact sV hni) ?_
   refine NL (aj.np (aj.aO (NX (SR ?_))))
   refine gC 6 [] [(2,a_ 8 b8),(5,a_ 2 b7)] [(2,[(7,vI ((nd ns k).id))])] ?_
   refine NN (af.ck (S:=[pF b7 m3 t4 { S.X with last:=(nd ns k).id },sA b8 ns k Y]) [0,1,2,3,4,5,6,7,8,9,10] 10 [2,8] (by kernel_rfl) (by kernel_rfl) rfl (by kernel_rfl) ?_)
   refine gR 0 [10] (NY b1 b7 A ns c k++Ql S ns k b7) [0,1,2,3,4,5,6,7,8,9] [(3,a_ 0 b7),(5,a_ 1 b8),(7,p_ ⟨[],none,none,none,some (vI (S.X.used+(((nd ns k).data.length:Nat):Int)))⟩ [(Value.int .i64 (IntKind.wrap .i64 (S.X.used+(((nd ns k).data.length:Nat):Int))))=(.int .i64 (S.X.used+(((nd ns k).data.length:Nat):Int)))] ⟨bC (by omega) (by omega) (by omega),trivial⟩)] ?_
   refine aQ.last rfl rfl ?_
   refine gC 1 [] [(0,a_ 2 b7)] [(2,[(9,vI (S.X.used+(((nd ns k).data.length:Nat):Int)))])] ?_
   refine NL (aj.np (aj.aO (NX (af.region ?_))))
   refine gK 2 [(49,vI ↑(k+1))] [(0,p_ ⟨[],none,none,none,some (vI ↑(k+1))⟩ [(Value.int .i64 (IntKind.wrap .i64 (((k:Nat):Int)+1)))=(.int .i64 ↑(k+1))] ⟨bC (by omega) (by omega) (by omega),trivial⟩)] ?_
   refine NL (aj.fo [(2,.blk b7 [vI ((cC S (nd ns k)).X.cN),vI ((cC S (nd ns k)).X.cB),vI ((cC S (nd ns k)).X.cH),vI ((cC S (nd ns k)).X.cS),vI ((cC S (nd ns k)).X.cZ),.map (some m3),vP t4,vI ((cC S (nd ns k)).X.last),vI ((cC S (nd ns k)).X.ah),vI ((cC S (nd ns k)).X.used)] 154),(3,.abs (aP Tryz.prog 3 m3 (bA (bH L2 (cC S (nd ns k)).idx)) ((cC S (nd ns k)).idx.length))),(4,.abs (dx 212 t4 (cC S (nd ns k)).X.cH (cC S (nd ns k)).aD (bH L2 (cC S (nd ns k)).us)))] (fun w hS=>by rw [show (cC S (nd ns k)).idx.length=S.idx.length+1 from iG _ _ _];exact hS) ?_)
   exact aj.turn ((k+1),(cC S (nd ns k)),L2) (idx:=[2,6,47,48,49]) (pk:=[1,2,3,4,0,5,6,7]) (show (((k+1))<=ns.length)/\(mG X ns ((k+1)) ((cC S (nd ns k)))) from ⟨by omega,zm hok (fun i hi=>(hd i hi).1) (by omega) hB⟩) (by show ns.length - ((k+1)) < ns.length - k;omega) (fun _=>by kernel_rfl) rfl (by kernel_rfl)
  have oF:(nd ns k).kind=2:=by omega
  refine af.ck (S:=[pF b7 m3 t4 S.X,sA b8 ns k Y,AR b9 ns k]) [0,1,2,3,4,5,6,7,8,9,10,11] 7 [1,8,9] (by kernel_rfl) (by kernel_rfl) rfl (by kernel_rfl) ?_
  refine gR 0 [7,8,9,10,11] (Qk b1 b7 b8 A ns c k++[(69,.map (some m3)),(71,vI ((nd ns k).id)),(72,.agg #[vI ((nd ns k).id),vI ((nd ns k).mode),vI ((nd ns k).uid),vI ((nd ns k).gid),vI ((nd ns k).sec),vI ((nd ns k).nano),vI 0,vI 0,.bool false])]) [0,1,2,3,4,5,6] [(3,a_ 0 b7),(5,a_ 1 b8),(6,A_ 2 b9 9)] ?_
  refine aQ.cut (ι:=Nat) (fr':=fun (m14:Nat)=>(Kh b1 b7 b8 A ns c k++[(69,.map (some m3)),(71,vI ((nd ns k).id)),(72,.agg #[vI ((nd ns k).id),vI ((nd ns k).mode),vI ((nd ns k).uid),vI ((nd ns k).gid),vI ((nd ns k).sec),vI ((nd ns k).nano),vI 0,vI 0,.bool false]),(73,.map (some m14))])) (hp':=fun (m14:Nat)=>(xR b1 A ns c b7 m3 t4 S L R++[sA b8 ns k Y,AR b9 ns k,.abs (aP Tryz.prog 9 m14 (fun _=>none) 0)])) [1,8,9] rfl rfl ?_ rfl (fun _=>by kernel_rfl) ?_
  ·refine ak.mz (d:=(some 73)) (t:=174) (fun _=>by kernel_rfl) Tryz.prog rfl 9 (fun m14=>?_)
   refine NL ?_
   exact MD m14 [2,6,8,47,48,49,69,71,72,73] [0,1,2,3,4,5,6,7,8,9,10]
  rintro m14
  refine aQ.cut (ι:=Unit) (fr':=fun (_:Unit)=>(Kh b1 b7 b8 A ns c k++[(69,.map (some m3)),(71,vI ((nd ns k).id)),(74,.agg #[vI ((nd ns k).id),vI ((nd ns k).mode),vI ((nd ns k).uid),vI ((nd ns k).gid),vI ((nd ns k).sec),vI ((nd ns k).nano),vI 0,vI 0,.bool false,.map (some m14),.pointer none])])) (hp':=fun (_:Unit)=>(xR b1 A ns c b7 m3 t4 S L R++[sA b8 ns k Y,AR b9 ns k,.abs (aP Tryz.prog 9 m14 (fun _=>none) 0)])) [1,8,9] rfl rfl ?_ rfl (fun _=>by kernel_rfl) ?_
  ·refine gK 1 [(74,.agg #[vI ((nd ns k).id),vI ((nd ns k).mode),vI ((nd ns k).uid),vI ((nd ns k).gid),vI ((nd ns k).sec),vI ((nd ns k).nano),vI 0,vI 0,.bool false,.map (some m14),.pointer none])] [] ?_
   refine NL ?_
   exact MD () [2,6,8,47,48,49,69,71,74] [0,1,2,3,4,5,6,7,8,9,10]
  rintro _
  refine mN [1,8,9] (fun b15=>[(75,vP b15)]) (fun _=>[]) (fun b15=>.blk b15 [vI ((nd ns k).id),vI ((nd ns k).mode),vI ((nd ns k).uid),vI ((nd ns k).gid),vI ((nd ns k).sec),vI ((nd ns k).nano),vI 0,vI 0,.bool false,.map (some m14),.pointer none] 176) (fun b15=>?_)
  refine aQ.cut (ι:=Unit) (fr':=fun (_:Unit)=>(Kh b1 b7 b8 A ns c k++[(69,.map (some m3)),(71,vI ((nd ns k).id)),(76,.iface 169 (vP b15))])) (hp':=fun (_:Unit)=>(xR b1 A ns c b7 m3 t4 S L R++[sA b8 ns k Y,AR b9 ns k,.abs (aP Tryz.prog 9 m14 (fun _=>none) 0),.blk b15 [vI ((nd ns k).id),vI ((nd ns k).mode),vI ((nd ns k).uid),vI ((nd ns k).gid),vI ((nd ns k).sec),vI ((nd ns k).nano),vI 0,vI 0,.bool false,.map (some m14),.pointer none] 176])) [1,8,9] rfl rfl ?_ rfl (fun _=>by kernel_rfl) ?_
  ·refine gK 1 [(76,.iface 169 (vP b15))] [] ?_
   refine NL ?_
   exact MD () [2,6,8,47,48,49,69,71,76] [0,1,2,3,4,5,6,7,8,9,10,11]
  rintro _
  refine aQ.last rfl rfl ?_
  obtain⟨L2,hL2⟩:∃ L2:HL,L2=L.put (fR (nd ns k)) b15 m14 none 0:=⟨_,rfl⟩
  have hfr:=hB.fresh hok (by omega)
  refine ak.mem (fun w hS=>hS.zY hL2 hfr (o:=(qm (nd ns k))) (i:=4) (j:=11) (ix:=[0,1,2,3,5,6,7,8,9,10]) rfl rfl (by kernel_rfl) rfl (by show (nd ns k).kind≠0;rw [oF];decide) ((ou (L:=L2) (k:=(fR (nd ns k))) (o:=(qm (nd ns k))) oF).trans (by rw [GJ hL2];rfl)) (by show rX (nd ns k).kind=_;rw [oF]<;>rfl)) ?_
  refine ak.mem (fun w hS=>hS.QT hL2 hfr (o:=(qm (nd ns k))) (i:=6) (j:=10) (ix:=[0,1,2,3,4,5,7,8,9]) rfl rfl (by kernel_rfl) rfl oF rfl) ?_
  refine ak.fo [(6,.abs (aG (cg ((cC S (nd ns k)).O) L2)))] (fun w hS=>hS.CC hL2 (o:=(qm (nd ns k))) (i:=6) rfl (by show ¬ (nd ns k).kind=1;rw [oF];decide)) ?_
  refine ak.fo [(4,.abs (aP Tryz.prog 3 m3 (bA (bH L2 S.idx)) S.idx.length)),(5,.abs (dx 212 t4 S.X.cH S.aD (bH L2 S.us)))] (fun w hS=>by rw [kB hL2 hfr.idx,kB hL2 hfr.us];exact hS) ?_
  have Ib:eu L2 (nO (nd ns k))=.iface 169 (vP b15):=by unfold nO;rw [sX hL2,oF];rfl
  refine ak.kU 4 (d:=none) (t:=151) (K:=3) (E:=156) (b:=m3) (n:=S.idx.length) (f:=(bA (bH L2 S.idx))) (x:=(.tmp 69)) (ix:=(.tmp 71)) (y:=(.tmp 76)) (key:=.int .i64 ((nd ns k).id)) (u:=.iface 169 (vP b15)) (kl:=(.int .i64 (nd ns k).id)) (n':=(S.idx.length+1)) (f':=(bA (bH L2 (ins (nd ns k).id (nO (nd ns k)) S.idx)))) (fun _=>by kernel_rfl) (by kernel_rfl) (fun _=>by kernel_rfl) (fun _=>by kernel_rfl) (fun _=>by kernel_rfl) dZ Tryz.underlying151 (by unfold maxLen;omega) (iR qH) (by rw [fV,hni];rfl) (by rw [← Ib];exact sV hni) ?_
  refine NL (aj.np (aj.aO (NX (SR ?_))))
  refine gC 6 [] [(2,a_ 8 b8),(5,a_ 3 b7)] [(3,[(7,vI ((nd ns k).id))])] ?_
  refine NN (af.ck (S:=[pF b7 m3 t4 { S.X with last:=(nd ns k).id },sA b8 ns k Y]) [0,1,2,3,4,5,6,7,8,9,10] 10 [3,8] (by kernel_rfl) (by kernel_rfl) rfl (by kernel_rfl) ?_)
  refine gR 0 [10] (NY b1 b7 A ns c k++Ql S ns k b7) [0,1,2,3,4,5,6,7,8,9] [(3,a_ 0 b7),(5,a_ 1 b8),(7,p_ ⟨[],none,none,none,some (vI (S.X.used+(((nd ns k).data.length:Nat):Int)))⟩ [(Value.int .i64 (IntKind.wrap .i64 (S.X.used+(((nd ns k).data.length:Nat):Int))))=(.int .i64 (S.X.used+(((nd ns k).data.length:Nat):Int)))] ⟨bC (by omega) (by omega) (by omega),trivial⟩)] ?_
  refine aQ.last rfl rfl ?_
  refine gC 1 [] [(0,a_ 3 b7)] [(3,[(9,vI (S.X.used+(((nd ns k).data.length:Nat):Int)))])] ?_
  refine NL (aj.np (aj.aO (NX (af.region ?_))))
  refine gK 2 [(49,vI ↑(k+1))] [(0,p_ ⟨[],none,none,none,some (vI ↑(k+1))⟩ [(Value.int .i64 (IntKind.wrap .i64 (((k:Nat):Int)+1)))=(.int .i64 ↑(k+1))] ⟨bC (by omega) (by omega) (by omega),trivial⟩)] ?_
  refine NL (aj.fo [(3,.blk b7 [vI ((cC S (nd ns k)).X.cN),vI ((cC S (nd ns k)).X.cB),vI ((cC S (nd ns k)).X.cH),vI ((cC S (nd ns k)).X.cS),vI ((cC S (nd ns k)).X.cZ),.map (some m3),vP t4,vI ((cC S (nd ns k)).X.last),vI ((cC S (nd ns k)).X.ah),vI ((cC S (nd ns k)).X.used)] 154),(4,.abs (aP Tryz.prog 3 m3 (bA (bH L2 (cC S (nd ns k)).idx)) ((cC S (nd ns k)).idx.length))),(5,.abs (dx 212 t4 (cC S (nd ns k)).X.cH (cC S (nd ns k)).aD (bH L2 (cC S (nd ns k)).us)))] (fun w hS=>by rw [show (cC S (nd ns k)).idx.length=S.idx.length+1 from iG _ _ _];exact hS) ?_)
  exact aj.turn ((k+1),(cC S (nd ns k)),L2) (idx:=[2,6,47,48,49]) (pk:=[2,3,4,5,1,6,0,7]) (show (((k+1))<=ns.length)/\(mG X ns ((k+1)) ((cC S (nd ns k)))) from ⟨by omega,zm hok (fun i hi=>(hd i hi).1) (by omega) hB⟩) (by show ns.length - ((k+1)) < ns.length - k;omega) (fun _=>by kernel_rfl) rfl (by kernel_rfl)
 refine af.exit (aj.aV (aj.aV (aj.cL (NX (af.seq (SR ?_))))))
 refine gK 4 [(123,.slice A (ns.length) (c)),(124,vI ↑ns.length),(125,vI 0)] [(1,a_ 0 b1)] ?_
 refine NN (af.block ?_)
 refine af.loop (ι:=Nat×aJ) (fun ((i,S1):Nat×aJ)=>(i<=ns.length)/\(fS X ns i 0 S1)) (fun ((i,S1):Nat×aJ)=>ns.length - i) (fun ((i,S1):Nat×aJ)=>[(6,vP b7),(123,.slice A (ns.length) (c)),(124,vI ↑ns.length),(125,vI ↑i)]) (fun ((i,S1):Nat×aJ)=>(xR b1 A ns c b7 m3 t4 S1 L R)) (0,S) (idx:=[6,123,124,125]) (pk:=[0,1,2,3,4,5,6,7]) (show (0<=ns.length)/\(fS X ns 0 0 S) from ⟨Nat.zero_le _,by have h:=hB;rw [show k=ns.length by omega] at h;exact h.ah⟩) (fun _=>by kernel_rfl) rfl (by kernel_rfl) ?_
 rintro⟨i,S1⟩ ⟨hi,hE⟩
 show af _ _ _ _ [(6,vP b7),(123,.slice A (ns.length) (c)),(124,vI ↑ns.length),(125,vI ↑i)] (xR b1 A ns c b7 m3 t4 S1 L R) _
 refine SR (gK 1 [(126,.bool (decide ((((i:Nat):Int):Int) < (((ns.length:Nat):Int):Int))))] [] ?_)
 refine NN (af.seq (af.aW (p:=(((i:Nat):Int):Int) < (((ns.length:Nat):Int):Int)) (fun _=>by kernel_rfl) (fun Xw=>?_) (fun Xw=>?_)))
 ·refine af.skip (NX (af.seq (af.block (SR ?_))))
  refine gN 4 (fun b16=>[(11,vP b16)]) (fun b16=>[(0,p_ ⟨[],some i,none,some ⟨(ay A),ax A,none⟩,none⟩ [((i:Nat):Int)=((i:Nat):Int),i < ns.length,(⟨(ay A),ax A,none⟩:Addr).spot=none,(A:Option Addr)=some ⟨(ay A),ax A,none⟩] ⟨rfl,by omega,rfl,aE.hd hG (i:=i) (by omega),trivial⟩),(1,p_ ⟨[.old (.int .i64 ((nd ns i).id)),.old (.int .i64 ((nd ns i).kind)),.old (.int .i64 ((nd ns i).mode)),.old (.int .i64 ((nd ns i).uid)),.old (.int .i64 ((nd ns i).gid)),.old (.int .i64 ((nd ns i).sec)),.old (.int .i64 ((nd ns i).nano)),.old (.slice (Y.dA i) ((nd ns i).data.length) ((Y.dC i))),.old (.string (nd ns i).target),.old (.slice (Y.eA i) ((nd ns i).ah.length) ((Y.eC i)))],none,none,none,none⟩ [(Rd β ⟨(ay A),ax A+i * 10+9,none⟩ (.slice (Y.eA i) ((nd ns i).ah.length) ((Y.eC i)))),(Rd β ⟨(ay A),ax A+i * 10+8,none⟩ (.string (nd ns i).target)),(Rd β ⟨(ay A),ax A+i * 10+7,none⟩ (.slice (Y.dA i) ((nd ns i).data.length) ((Y.dC i)))),(Rd β ⟨(ay A),ax A+i * 10+6,none⟩ (.int .i64 ((nd ns i).nano))),(Rd β ⟨(ay A),ax A+i * 10+5,none⟩ (.int .i64 ((nd ns i).sec))),(Rd β ⟨(ay A),ax A+i * 10+4,none⟩ (.int .i64 ((nd ns i).gid))),(Rd β ⟨(ay A),ax A+i * 10+3,none⟩ (.int .i64 ((nd ns i).uid))),(Rd β ⟨(ay A),ax A+i * 10+2,none⟩ (.int .i64 ((nd ns i).mode))),(Rd β ⟨(ay A),ax A+i * 10+1,none⟩ (.int .i64 ((nd ns i).kind))),(Rd β ⟨(ay A),ax A+i * 10,none⟩ (.int .i64 ((nd ns i).id)))] ⟨aE.rd hG (i:=i) (by omega) (j:=9) rfl,aE.rd hG (i:=i) (by omega) (j:=8) rfl,aE.rd hG (i:=i) (by omega) (j:=7) rfl,aE.rd hG (i:=i) (by omega) (j:=6) rfl,aE.rd hG (i:=i) (by omega) (j:=5) rfl,aE.rd hG (i:=i) (by omega) (j:=4) rfl,aE.rd hG (i:=i) (by omega) (j:=3) rfl,aE.rd hG (i:=i) (by omega) (j:=2) rfl,aE.rd hG (i:=i) (by omega) (j:=1) rfl,aE.rd hG (i:=i) (by omega) (j:=0) rfl,trivial⟩),(3,A_ 8 b16 10)]) (fun _=>[]) (fun b16=>.blk b16 [vI ((nd ns i).id),vI ((nd ns i).kind),vI ((nd ns i).mode),vI ((nd ns i).uid),vI ((nd ns i).gid),vI ((nd ns i).sec),vI ((nd ns i).nano),.slice (Y.dA i) ((nd ns i).data.length) ((Y.dC i)),.string (nd ns i).target,.slice (Y.eA i) ((nd ns i).ah.length) ((Y.eC i))] 108) (fun b16=>?_)
  refine NS (gK 4 [(130,.slice (Y.eA i) ((nd ns i).ah.length) ((Y.eC i))),(131,vI ↑((nd ns i).ah.length)),(132,vI 0)] [(1,a_ 8 b16)] ?_)
  refine NN (af.block ?_)
  refine af.loop (ι:=Nat×aJ) (fun ((j,S2):Nat×aJ)=>(j<=(nd ns i).ah.length)/\(fS X ns i j S2)) (fun ((j,S2):Nat×aJ)=>(nd ns i).ah.length - j) (fun ((j,S2):Nat×aJ)=>(LH b7 b16++Rp A ns c i Y j)) (fun ((j,S2):Nat×aJ)=>([sA b16 ns i Y]++xR b1 A ns c b7 m3 t4 S2 L R)) (0,S1) (idx:=[6,11,123,124,125,130,131,132]) (pk:=[8,0,1,2,3,4,5,6,7]) (show (0<=(nd ns i).ah.length)/\(fS X ns i 0 S1) from ⟨Nat.zero_le _,hE⟩) (fun _=>by kernel_rfl) rfl (by kernel_rfl) ?_
  rintro⟨j,S2⟩ ⟨hj,ru⟩
  show af _ _ _ _ (LH b7 b16++Rp A ns c i Y j) ([sA b16 ns i Y]++xR b1 A ns c b7 m3 t4 S2 L R) _
  refine SR (gK 1 [(133,.bool (decide ((((j:Nat):Int):Int) < ((((nd ns i).ah.length:Nat):Int):Int))))] [] ?_)
  refine NN (af.seq (af.aW (p:=(((j:Nat):Int):Int) < ((((nd ns i).ah.length:Nat):Int):Int)) (fun _=>by kernel_rfl) (fun Xx=>?_) (fun Xx=>?_)))
  ·have hj2:j < (nd ns i).ah.length:=by omega
   have hi2:i < ns.length:=by omega
   have Xy:=ru.get hi2
   obtain⟨hes,hno,hk2⟩:=ru.look hok hi2 hj2
   have Uv:=tT hok hi2 hj2
   have QX:aF.get S2.idx (nd ns i).id=some ⟨(fR (nd ns i)),2⟩:=by rw [Xy];unfold nO;rw [hk2]
   have hge:aF.get S2.idx (ent ns i j).id=some (lI ns (ent ns i j)):=by rw [← Uv.2];exact ru.get Uv.1
   have P9:=hok.ids i hi2
   have hiw:(Lit.int .i64 (nd ns i).id).wf=true:=WalkArith.wf_i64 (by omega)
   have Ym:(Lit.int .i64 (ent ns i j).id).wf=true:=WalkArith.wf_i64 (by have:=hwf i hi2 j hj2;omega)
   have hld:=ru.live hok hi2
   have hlt:=ru.live hok Uv.1
   have hkd:(obj S2.O (fR (nd ns i))).kind=2:=(ru.inv.kind hld).trans hk2
   have hkt:(obj S2.O (lI ns (ent ns i j)).k).kind=(lI ns (ent ns i j)).kind:=ru.inv.kind hlt
   have h3:(lI ns (ent ns i j)).kind=1\/(lI ns (ent ns i j)).kind=2\/(lI ns (ent ns i j)).kind=3:=(ru.inv.ob _ hlt).2.2
   have hlb:0<=(obj S2.O (lI ns (ent ns i j)).k).links/\(obj S2.O (lI ns (ent ns i j)).k).links<=8192:=ru.inv.lb hlt
   have hel:(obj S2.O (fR (nd ns i))).ah.length<=8192:=ru.inv.iT hld
   have hsz:=hnm i hi2 j hj2
   have hde:=hd i hi2
   have ZH:=ru.inv.hX
   refine af.skip (NX (af.seq (af.block (SR ?_))))
   refine gN 4 (fun b17=>[(13,vP b17)]) (fun b17=>[(0,p_ ⟨[],some j,none,some ⟨(ay (Y.eA i)),ax (Y.eA i),none⟩,none⟩ [((j:Nat):Int)=((j:Nat):Int),j < (nd ns i).ah.length,(⟨(ay (Y.eA i)),ax (Y.eA i),none⟩:Addr).spot=none,((Y.eA i):Option Addr)=some ⟨(ay (Y.eA i)),ax (Y.eA i),none⟩] ⟨rfl,by omega,rfl,cO.hd (hG.ah i (by omega)) (i:=j) (by omega),trivial⟩),(1,p_ ⟨[.old (.string (en (nd ns i).ah j).name),.old (.int .i64 ((en (nd ns i).ah j).id))],none,none,none,none⟩ [(Rd β ⟨(ay (Y.eA i)),ax (Y.eA i)+j * 2+1,none⟩ (.int .i64 ((en (nd ns i).ah j).id))),(Rd β ⟨(ay (Y.eA i)),ax (Y.eA i)+j * 2,none⟩ (.string (en (nd ns i).ah j).name))] ⟨cO.rd (hG.ah i (by omega)) (i:=j) (by omega) (j:=1) rfl,cO.rd (hG.ah i (by omega)) (i:=j) (by omega) (j:=0) rfl,trivial⟩),(3,A_ 9 b17 2)]) (fun _=>[]) (fun b17=>.blk b17 [.string (en (nd ns i).ah j).name,vI ((en (nd ns i).ah j).id)] 110) (fun b17=>?_)
   refine NN (af.seq (af.ck (S:=[pF b7 m3 t4 S2.X,pI m3 L S2.idx,sA b16 ns i Y,.blk b17 [.string (en (nd ns i).ah j).name,vI ((en (nd ns i).ah j).id)] 110]) [0,1,2,3,4,5,6,7,8,9,10,11,12,13,14,15,16,17] 17 [2,3,0,9] (by kernel_rfl) (by kernel_rfl) rfl (by kernel_rfl) ?_))
   refine gR 11 [6,7,8,9,10,11,12,13,14,15,16,17] (LH b7 b16++[(13,vP b17)]++Rp A ns c i Y j++[(139,.map (some m3)),(141,vI ((nd ns i).id))]) [0,1,2,3,4,5] [(3,a_ 0 b7),(5,a_ 2 b16)] ?_
   refine aQ.dW 1 (d:=(some 142)) (t:=151) (K:=3) (E:=156) (b:=m3) (cnt:=S2.idx.length) (f:=(bA (bH L S2.idx))) (x:=(.tmp 139)) (ix:=(.tmp 141)) (key:=.int .i64 ((nd ns i).id)) (z:=.nilIface) (kl:=(.int .i64 (nd ns i).id)) (q:=(some (eu L ⟨(fR (nd ns i)),2⟩))) (by kernel_rfl) (by kernel_rfl) (fun _=>by kernel_rfl) (fun _=>by kernel_rfl) dZ Tryz.underlying151 (fun _=>by kernel_rfl) (iR hiw) (by rw [fV,QX];rfl) (by kernel_rfl) ?_
   refine gR 1 [16,17] (LH b7 b16++Rp A ns c i Y j++[(143,vP (L.b (fR (nd ns i)))),(145,.string (en (nd ns i).ah j).name),(149,.map (some m3)),(151,vI ((en (nd ns i).ah j).id))]) [7,8,9,10,11,12,13,14,15] [(2,a_ 3 b17),(6,a_ 0 b7),(8,a_ 3 b17)] ?_
   refine aQ.dW 1 (d:=(some 152)) (t:=151) (K:=3) (E:=156) (b:=m3) (cnt:=S2.idx.length) (f:=(bA (bH L S2.idx))) (x:=(.tmp 149)) (ix:=(.tmp 151)) (key:=.int .i64 ((en (nd ns i).ah j).id)) (z:=.nilIface) (kl:=(.int .i64 (ent ns i j).id)) (q:=(some (eu L (lI ns (ent ns i j))))) (by kernel_rfl) (by kernel_rfl) (fun _=>by kernel_rfl) (fun _=>by kernel_rfl) dZ Tryz.underlying151 (fun _=>by kernel_rfl) (iR Ym) (by rw [fV,hge];rfl) (by kernel_rfl) ?_
   refine aQ.last rfl rfl ?_
   refine gL [5,7] (J4 S2.O L (fR (nd ns i)) hkd (ent ns i j).name hsz hno (by omega) (lI ns (ent ns i j)) hkt h3 (by omega)) ?_
   rintro _ _ ⟨rfl,rfl⟩
   refine NL (aj.np (NX (af.region ?_)))
   refine gC 8 [] [(3,a_ 4 b7),(4,p_ ⟨[],none,none,none,some (vI (S2.X.ah+1))⟩ [(Value.int .i64 (IntKind.wrap .i64 (S2.X.ah+1)))=(.int .i64 (S2.X.ah+1))] ⟨bC (by omega) (by omega) (by omega),trivial⟩),(7,a_ 4 b7)] [(4,[(8,vI (S2.X.ah+1))])] ?_
   refine NL (aj.aO (NX (af.region ?_)))
   refine gK 2 [(132,vI ↑(j+1))] [(0,p_ ⟨[],none,none,none,some (vI ↑(j+1))⟩ [(Value.int .i64 (IntKind.wrap .i64 (((j:Nat):Int)+1)))=(.int .i64 ↑(j+1))] ⟨bC (by omega) (by omega) (by omega),trivial⟩)] ?_
   refine NL (aj.fo [(0,.abs (aG (bS ((lJ ns S2 (nd ns i) (ent ns i j)).O) L))),(1,.abs (aG (cY ((lJ ns S2 (nd ns i) (ent ns i j)).O) L))),(4,.blk b7 [vI ((lJ ns S2 (nd ns i) (ent ns i j)).X.cN),vI ((lJ ns S2 (nd ns i) (ent ns i j)).X.cB),vI ((lJ ns S2 (nd ns i) (ent ns i j)).X.cH),vI ((lJ ns S2 (nd ns i) (ent ns i j)).X.cS),vI ((lJ ns S2 (nd ns i) (ent ns i j)).X.cZ),.map (some m3),vP t4,vI ((lJ ns S2 (nd ns i) (ent ns i j)).X.last),vI ((lJ ns S2 (nd ns i) (ent ns i j)).X.ah),vI ((lJ ns S2 (nd ns i) (ent ns i j)).X.used)] 154),(5,.abs (aP Tryz.prog 3 m3 (bA (bH L (lJ ns S2 (nd ns i) (ent ns i j)).idx)) ((lJ ns S2 (nd ns i) (ent ns i j)).idx.length))),(6,.abs (dx 212 t4 (lJ ns S2 (nd ns i) (ent ns i j)).X.cH (lJ ns S2 (nd ns i) (ent ns i j)).aD (bH L (lJ ns S2 (nd ns i) (ent ns i j)).us))),(7,.abs (aG (cg ((lJ ns S2 (nd ns i) (ent ns i j)).O) L)))] (fun w hS=>by rw [show cg (lJ ns S2 (nd ns i) (ent ns i j)).O L=cg S2.O L from Sn];exact hS) ?_)
   exact aj.turn ((j+1),(lJ ns S2 (nd ns i) (ent ns i j))) (idx:=[6,11,123,124,125,130,131,132]) (pk:=[2,3,4,5,6,0,7,1,8]) (show (((j+1))<=(nd ns i).ah.length)/\(fS X ns i ((j+1)) ((lJ ns S2 (nd ns i) (ent ns i j)))) from ⟨by omega,ru.step hok (by omega) (by omega)⟩) (by show (nd ns i).ah.length - ((j+1)) < (nd ns i).ah.length - j;omega) (fun _=>by kernel_rfl) rfl (by kernel_rfl)
  refine af.exit (aj.aV (aj.aV (aj.cL (aj.aO (NX (af.region ?_))))))
  refine gK 2 [(125,vI ↑(i+1))] [(0,p_ ⟨[],none,none,none,some (vI ↑(i+1))⟩ [(Value.int .i64 (IntKind.wrap .i64 (((i:Nat):Int)+1)))=(.int .i64 ↑(i+1))] ⟨bC (by omega) (by omega) (by omega),trivial⟩)] ?_
  refine NL ?_
  exact aj.turn ((i+1),S2) (idx:=[6,123,124,125]) (pk:=[1,2,3,4,5,6,7,8]) (show (((i+1))<=ns.length)/\(fS X ns ((i+1)) 0 S2) from ⟨by omega,by have h:=ru;rw [show j=(nd ns i).ah.length by omega] at h;exact h.next⟩) (by show ns.length - ((i+1)) < ns.length - i;omega) (fun _=>by kernel_rfl) rfl (by kernel_rfl)
 refine af.exit (aj.aV (aj.aV (aj.cL (NX (SR ?_)))))
 refine gK 3 [(4,vP b7),(5,vI 0)] [] ?_
 refine NN (af.ret ?_)
 exact RT (.tuple #[vP b7,vI 0]) [1,2,3,4,5,6,7] (.inr (.inr ⟨hcap,hok,S1,b7,m3,t4,L,by have h:=hE;rw [show i=ns.length by omega] at h;exact h,rfl,rfl⟩))
end
section
open Go.RowKit Go.Maps bq aF
theorem tX {b:UInt8} (h0:¬ b=0) (h1:¬ b=47) (h2:¬ b=46):bD ⟨#[b]⟩:=by
  refine⟨Nat.le_refl _,(by show 1<=255;decide),fun e=>h2 ?_,fun e=>?_,fun j hj=>?_⟩
  ·injection e with e
   have e:[b]=[46]:=congrArg Array.toList e
   injection e
  ·injection e with e
   have e:[b]=[46,46]:=congrArg Array.toList e
   injection e with _ e
   cases e
  have:j=0:=by have hj:j < 1:=hj;omega
  subst this
  show ¬ b.toNat=0/\¬ b.toNat=47
  exact⟨fun e=>h0 (UInt8.toNat_inj.1 e),fun e=>h1 (UInt8.toNat_inj.1 e)⟩
theorem uX:fO 0 0:=⟨by decide,by decide,by decide,by decide,by decide⟩
def Ic (room:Int):FM:=⟨9,room,9,0,0,0,0,0⟩
theorem Sp {room:Int} (h:0<=room/\room<=1099511627776):jQ (Ic room):=⟨by show (0:Int)<=9/\(9:Int)<=4096;decide,h,by show (0:Int)<=9/\(9:Int)<=1024;decide,uX⟩
section ops
variable {S:aJ} {c:aB} {t:Th} {d:Nat}
theorem xh {O:bU} {us:Used Th} {h:Int} {name:ByteArray} {need:Int} (h1:aF.get us h=some t) (h2:t.kind=2) (h3:(obj O t.k).gone=false) (h4:bD name) (h5:bits BinOp.and .i64 (obj O t.k).mode need=need):dP O us h name need=.ok t.k:=by
  unfold dP
  rw [h1]
  simp only
  rw [if_pos h2,if_neg (by rw [h3];decide),if_pos h4,if_pos h5]
theorem Ew (hop:c.op=1) (h1:aF.get S.idx c.other=some t) (h2:t.kind=2) (h3:(S.us.length:Int) < S.X.cH):bI S c=({ S with O:=aN S.O t.k (fun o=>{ o with opens:=o.opens+1 }),us:=ins (least S.us) t S.us,aD:=max S.aD ((S.us.length:Int)+1) },{ c with answer:=least S.us,code:=0 }):=by
  unfold bI
  rw [sK (by exact hop)]
  unfold jq
  simp only
  rw [h1]
  simp only
  rw [if_pos h2,jD h3]
theorem Di (hop:c.op=2) (ha:dP S.O S.us c.handle c.name 64=.ok d) (hl:aT c.name (obj S.O d).ah=some t) (h2:t.kind=2) (h3:(S.us.length:Int) < S.X.cH):bI S c=({ S with O:=aN S.O t.k (fun o=>{ o with opens:=o.opens+1 }),us:=ins (least S.us) t S.us,aD:=max S.aD ((S.us.length:Int)+1) },{ c with answer:=least S.us,code:=0 }):=by
  unfold bI
  rw [qW (by exact hop)]
  unfold eF fC
  simp only
  rw [ha]
  simp only
  rw [hl]
  simp only
  rw [if_neg (by omega),if_neg (by omega),jD h3]
theorem Qm (hop:c.op=4) (ha:dP S.O S.us c.handle c.name 192=.ok d) (hm:nZ c.mode) (hl:aT c.name (obj S.O d).ah=none) (hr:Room S.X S.idx):bI S c=(gj S d c.name (bg S.X 2 c.mode),{ c with answer:=0,code:=0 }):=by
  unfold bI
  rw [uH (by exact hop)]
  unfold gI
  simp only
  rw [ha]
  simp only
  rw [if_pos hm]
  unfold gY cQ
  rw [if_pos hl,if_pos hr,if_pos rfl]
theorem Ie (hop:c.op=13) (h1:aF.get S.us c.handle=some t):bI S c=({ S with
      X:={ S.X with used:=jO (iy S.O t.k) S.X.used t }
      O:=iy S.O t.k
      idx:=iP (iy S.O t.k) S.idx t
      us:=del c.handle S.us },{ c with answer:=0,code:=0 }):=by
  unfold bI
  rw [rI (by exact hop)]
  unfold jt
  simp only
  rw [h1]
end ops
structure Zj (room:Int) (S:aJ):Prop where
  inv:Inv S
  idx:S.idx=[(1,⟨1,2⟩),(2,⟨2,1⟩)]
  us:S.us=[]
  X:S.X=⟨9,room,9,0,0,2,1,0⟩
  o1:∃ l u,obj S.O 1=⟨1,493,0,0,0,0,l,0,false,2,[],⟨#[]⟩,[(⟨#[102]⟩,⟨2,1⟩)],u⟩
  o2:∃ u,obj S.O 2=⟨2,420,0,0,0,0,1,0,false,1,[],⟨#[]⟩,[],u⟩
theorem Uw:bits BinOp.and .i64 493 192=192:=by kernel_rfl
theorem Dj:bits BinOp.and .i64 493 64=64:=by kernel_rfl
section chain
variable {room:Int} {S:aJ}
def S1 (S:aJ):aJ:={ S with O:=aN S.O 1 (fun o=>{ o with opens:=o.opens+1 }),us:=[(1,⟨1,2⟩)],aD:=max S.aD 1 }
theorem Xz:obj (S1 S).O 1={ obj S.O 1 with opens:=(obj S.O 1).opens+1 }:=rfl
theorem XA:obj (S1 S).O 2=obj S.O 2:=rfl
structure ZI (room:Int) (ds:List UInt8) (S:aJ):Prop where
  inv:Inv S
  idx:S.idx=[(1,⟨1,2⟩),(2,⟨2,1⟩)]
  us:S.us=[(1,⟨1,2⟩),(2,⟨2,1⟩)]
  X:S.X=⟨9,room,9,0,0,2,1,ds.length⟩
  o1:∃ l n u,obj S.O 1=⟨1,493,0,0,0,0,l,n,false,2,[],⟨#[]⟩,[(⟨#[102]⟩,⟨2,1⟩)],u⟩
  o2:∃ u,obj S.O 2=⟨2,420,0,0,0,0,1,1,false,1,ds,⟨#[]⟩,[],u⟩
structure ZJ (ds:List UInt8) (S:aJ):Prop where
  inv:Inv S
  idx:S.idx=[(1,⟨1,2⟩),(2,⟨2,1⟩)]
  us:S.us=[(1,⟨1,2⟩),(2,⟨2,1⟩)]
  used:S.X.used=ds.length
  o2:∃ s z u,obj S.O 2=⟨2,420,0,0,s,z,0,1,true,1,ds,⟨#[]⟩,[],u⟩
end chain
end
section
open Go.RowKit Go.Maps bq aF
theorem Spec.Rq {P:Program} {β:Bs} {f:FuncId} {args:Array Value} {pre:List HP} {post:Value->List HP->Prop} {Ψ:Bs->Value->List HP->Prop} (h:Spec P β f args pre post) (vE:∀ v l,post v l->∃ l1 l2,l=l1++l2/\∀ β',pP β l2 β'->Ψ β' v l1):bp P β f args pre Ψ:=by
  intro A w hS
  refine (h A w hS).mono ?_
  rintro e w' ⟨v,l,h1,h2,h3⟩
  obtain⟨l1,l2,rfl,hl⟩:=vE v l h2
  have h4:Sat β (([.abs A]++l1)++l2) w':=by rw [List.append_assoc];exact Sat.turn h3
  obtain⟨β',g1,_,g3⟩:=h4.yA
  exact⟨β',v,l1,g1.le,h1,hl β' g1,Sat.turn g3⟩
section c
variable {β:Bs} {S S2:aJ} {L:HL} {f m t:Nat} {c c2:aB}
end c
end
section
open Go.RowKit Go.Maps bq aF
theorem Sq {α:Type} {l:List α} {p:α->Bool} {i j:Nat} {a b:α} (hij:i < j) (ha:l[i]?=some a) (hb:l[j]?=some b) (pa:p a=true) (pb:p b=true):2<=l.countP p:=by
  have e:=List.take_append_drop j l
  rw [← e,List.countP_append]
  have h1:0 < (l.take j).countP p:=List.countP_pos_iff.2 ⟨a,List.mem_of_getElem? (by rw [List.getElem?_take,if_pos hij];exact ha),pa⟩
  have h2:0 < (l.drop j).countP p:=List.countP_pos_iff.2 ⟨b,List.mem_of_getElem? (i:=0) (by rw [List.getElem?_drop,Nat.add_zero];exact hb),pb⟩
  omega
theorem Ig {V:Type} {g:Int×V->Nat}:∀ {a b:Used V},dz g (a++b)=dz g a+dz g b
  | [],b=>(Nat.zero_add _).symm
  | p::r,b=>by
    show g p+dz g (r++b)=g p+dz g r+dz g b
    rw [Ig];omega
section at_
variable {S:aJ} {i j:Nat}
theorem iC (hi:i < S.idx.length):nd (av S) i=pU S.O (bZ S i) (bT S i):=by
  unfold nd av
  rw [List.getD_eq_getElem?_getD,List.getElem?_map,vN hi];rfl
theorem Ey (h:Inv0 S) (hij:i < j) (hj:j < S.idx.length):bZ S i < bZ S j:=by
  have h1:=G0 (S:=S) (show i < S.idx.length by omega)
  have h2:=G0 hj
  obtain⟨g1,e1⟩:=List.getElem?_eq_some_iff.1 h1
  obtain⟨g2,e2⟩:=List.getElem?_eq_some_iff.1 h2
  have:=List.pairwise_iff_getElem.1 h.rise i j g1 g2 hij
  rw [e1,e2] at this
  exact this
theorem xj (h:Inv0 S):cJ (av S):=fun i j hij hj=>by
  rw [eX] at hj
  rw [iC (by omega),iC hj]
  exact Ey h hij hj
theorem N0 {t:Th} (hl:Live S.idx t):∃ i,i < S.idx.length/\bT S i=t/\bZ S i=(t.k:Int):=by
  obtain⟨i,hi,e⟩:=List.getElem_of_mem (get_mem hl)
  have h1:=vN hi
  rw [List.getElem?_eq_getElem hi,e] at h1
  injection h1 with h1
  injection h1 with h1 h2
  exact⟨i,hi,h2.symm,h1.symm⟩
theorem Ux (h:Inv0 S) (hi:i < S.idx.length) (hj:j < S.idx.length) (e:bZ S i=bZ S j):i=j:=by
  rcases Nat.lt_trichotomy i j with h1|h1|h1
  ·have:=Ey h h1 hj;omega
  ·exact h1
  have:=Ey h h1 hi;omega
theorem rU (hi:i < S.idx.length) (hj:j < (nd (av S) i).ah.length):j < (obj S.O (bT S i).k).ah.length/\ent (av S) i j=⟨fB (obj S.O (bT S i).k).ah j,(obj S.O (nR (obj S.O (bT S i).k).ah j).k).id⟩:=by
  rw [iC hi] at hj
  have hj:j < ((obj S.O (bT S i).k).ah.map (jI S.O)).length:=hj
  rw [List.length_map] at hj
  refine⟨hj,?_⟩
  unfold ent en
  rw [iC hi]
  show ((obj S.O (bT S i).k).ah.map (jI S.O)).getD j default=_
  rw [List.getD_eq_getElem?_getD,List.getElem?_map,pV hj];rfl
theorem BU (h:Inv0 S) (hi:i < S.idx.length) (hj:j < (obj S.O (bT S i).k).ah.length):Live S.idx (nR (obj S.O (bT S i).k).ah j)/\bD (fB (obj S.O (bT S i).k).ah j)/\aT (fB (obj S.O (bT S i).k).ah j) (obj S.O (bT S i).k).ah=some (nR (obj S.O (bT S i).k).ah j)/\(bT S i).kind=2:=by
  have hl:=(lq h hi).1
  have hm:=List.mem_of_getElem? (pV hj)
  have h1:=h.ah _ hl _ hm
  refine⟨h1.2,h1.1,tI (h.twice hl) hm,Classical.byContradiction fun hk=>?_⟩
  rw [(h.mt _ hl).ah (by rw [h.kind hl];exact hk)] at hj
  exact absurd hj (Nat.not_lt_zero j)
theorem rV (h:Inv0 S) (hi:i < S.idx.length) (hj:j < (nd (av S) i).ah.length):∃ a,a < S.idx.length/\bT S a=nR (obj S.O (bT S i).k).ah j/\tgt (av S) (ent (av S) i j).id=a/\j4 (av S) (ent (av S) i j).id=(a:Int):=by
  obtain⟨hj2,e⟩:=rU hi hj
  have hl:=(BU h hi hj2).1
  obtain⟨a,ha,h1,h2⟩:=N0 hl
  have h3:j4 (av S) (ent (av S) i j).id=(a:Int):=Gb (xj h) (by rw [eX];exact ha) (by
    rw [iC ha,e]
    show bZ S a=(obj S.O _).id
    rw [h2,(h.ob _ hl).1])
  exact⟨a,ha,h1,by unfold tgt;rw [h3];rfl,h3⟩
theorem Dk (hi:i < S.idx.length):(nd (av S) i).kind=(bT S i).kind:=by rw [iC hi];rfl
theorem St (h:Inv0 S) (hi:i < S.idx.length):nW (nd (av S) i):=by
  have hl:=(lq h hi).1
  have hk:=h.kind hl
  have h3:=(h.ob _ hl).2.2
  have hm:=h.mt _ hl
  rw [iC hi]
  refine⟨?_,hm.mode,hm.uid,hm.gid,hm.time,fun hn=>?_,fun hn=>?_,?_⟩
  ·show 1<=(bT S i).kind/\(bT S i).kind<=3
   omega
  ·show (obj S.O (bT S i).k).data.length=0
   rw [hm.data (by rw [hk];exact hn)];rfl
  ·show ((obj S.O (bT S i).k).ah.map _).length=0
   rw [hm.ah (by rw [hk];exact hn)];rfl
  show fw (bT S i).kind (obj S.O (bT S i).k).target
  rw [← hk];exact hm.target
theorem Fc (f:aY->Nat) (s:List aI->Nat->Nat) (h0:∀ ns,s ns 0=0) (hs:∀ k,k < S.idx.length->s (av S) (k+1)=s (av S) k+f (obj S.O (bT S k).k)):∀ k,k<=S.idx.length->s (av S) k=dz (fun p=>f (obj S.O p.2.k)) (S.idx.take k)
  | 0,_=>by rw [h0];rfl
  | k+1,hk=>by
    rw [hs k hk,Fc f s h0 hs k (by omega),List.take_add_one,vN hk,Ig]
    rfl
theorem Ih:eU (av S) S.idx.length=tot S.idx S.O:=by
  have h:=Fc (S:=S) (fun o=>o.ah.length) eU (fun _=>rfl) (fun k hk=>by
    show eU (av S) k+_=_
    rw [iC hk]
    show _+((obj S.O (bT S k).k).ah.map _).length=_
    rw [List.length_map]) S.idx.length (Nat.le_refl _)
  rw [List.take_length] at h
  exact h
theorem Sv (h:Inv0 S) {t:Th} (hl:Live S.idx t) (hk:t.kind=2) (hi:i < S.idx.length) {a b:Nat} (ha:a < (obj S.O (bT S i).k).ah.length) (hb:b < (obj S.O (bT S i).k).ah.length) (ea:nR (obj S.O (bT S i).k).ah a=t) (eb:nR (obj S.O (bT S i).k).ah b=t):a=b:=by
  have h1:=h.once t hl hk
  rw [h.links t hl] at h1
  have h2:(fun p:Int×Th=>(obj S.O p.2.k).ah.countP (fun e=>decide (e.2.k=t.k))) (bZ S i,bT S i)<=jl S.idx S.O t.k:=ld (g:=fun p:Int×Th=>(obj S.O p.2.k).ah.countP (fun e=>decide (e.2.k=t.k))) (get_at h hi)
  have h2:(obj S.O (bT S i).k).ah.countP (fun e=>decide (e.2.k=t.k))<=jl S.idx S.O t.k:=h2
  have key:∀ a b,a < b->b < (obj S.O (bT S i).k).ah.length->nR (obj S.O (bT S i).k).ah a=t->nR (obj S.O (bT S i).k).ah b=t->False:=fun a b hab hb ea eb=>by
    have:=Sq (p:=fun e:ByteArray×Th=>decide (e.2.k=t.k)) hab (pV (by omega)) (pV hb) (by simp [ea]) (by simp [eb])
    omega
  rcases Nat.lt_trichotomy a b with e|e|e
  ·exact (key a b e hb ea eb).elim
  ·exact e
  exact (key b a e ha eb ea).elim
theorem Inv0.Kj (h:Inv0 S):bB (av S):=by
  obtain⟨dp,hdp⟩:=h.deep
  have hup:∀ {i j a:Nat},i < S.idx.length->j < (nd (av S) i).ah.length->bT S a=nR (obj S.O (bT S i).k).ah j->(bT S a).kind=2->(obj S.O (bT S a).k).up=some (bT S i).k  :=fun {i j a} hi hj e hk=>by
    have hj2:=(rU hi hj).1
    obtain⟨h1,_,h3,h4⟩:=BU h hi hj2
    rw [← e] at h1 h3
    have hl:=(lq h hi).1
    have e2:bT S i=⟨(bT S i).k,2⟩:=by rw [← h4]
    rw [e2] at hl
    exact (h.up _ h1 _).2 ⟨hk,hl,_,h3⟩
  refine bB.Sl (by rw [eX];exact h.len) (fun i hi=>St h (by rw [eX] at hi;exact hi)) (fun i hi=>?_) (xj h) ?_ (fun i hi j hj=>?_) (fun i j i' j' g g' hi hi' e=>?_) (d:=fun i=>dp (bT S i).k) (fun i j g=>?_)
  ·rw [eX] at hi
   rw [iC hi]
   have h1:=h.idx _ _ (get_at h hi)
   have h2:=h.last
   show 1<=bZ S i/\bZ S i<=_
   omega
  ·rw [eX,Ih]
   have:=h.total
   omega
  ·rw [eX] at hi
   obtain⟨hj2,e⟩:=rU hi hj
   obtain⟨a,ha,h1,h2,h3⟩:=rV h hi hj
   obtain⟨g1,g2,_⟩:=BU h hi hj2
   refine O6 (by omega) (by rw [e];exact g2) (fun h0=>?_)
   have e2:=(rU hi (show j - 1 < _ by omega)).2
   rw [e,e2]
   obtain⟨x1,y1⟩:=List.getElem?_eq_some_iff.1 (pV (show j - 1 < (obj S.O (bT S i).k).ah.length by omega))
   obtain⟨x2,y2⟩:=List.getElem?_eq_some_iff.1 (pV hj2)
   have:=List.pairwise_iff_getElem.1 (h.sorted _ (lq h hi).1) (j - 1) j x1 x2 (by omega)
   rw [y1,y2] at this
   exact this
  ·rw [eX] at hi hi'
   obtain⟨a,ha,h1,h2,_⟩:=rV h hi g.sx
   obtain⟨b,hb,h1',h2',_⟩:=rV h hi' g'.sx
   have e3:a=b:=by rw [← h2,← h2'];exact e
   subst e3
   have hk:(bT S a).kind=2:=by rw [← Dk ha,← h2];exact g.dir
   have u1:=hup hi g.sx h1 hk
   have u2:=hup hi' g'.sx h1' hk
   rw [u1] at u2
   have e4:bZ S i=bZ S i':=by rw [(lq h hi).2,(lq h hi').2];exact congrArg (fun z:Option Nat=>((z.getD 0:Nat):Int)) u2
   have e5:=Ux h hi hi' e4
   subst e5
   exact⟨rfl,Sv h (lq h ha).1 hk hi (rU hi g.sx).1 (rU hi g'.sx).1 h1.symm h1'.symm⟩
  have hi:=g.Rm
  rw [eX] at hi
  obtain⟨a,ha,h1,h2,_⟩:=rV h hi g.sx
  have hk:(bT S a).kind=2:=by rw [← Dk ha,← h2];exact g.dir
  rw [h2]
  exact hdp _ _ (hup hi g.sx h1 hk)
end at_
end
section
open Go.RowKit bq aF Go.Maps
theorem Spec.O9 {P:Program} {β:Bs} {f:FuncId} {args:Array Value} {pre R:List HP} {post:Value->List HP->Prop} (h:∀ β':Bs,pP β R β'->Spec P β' f args pre post):Spec P β f args (pre++R) (fun v l=>∃ l0,post v l0/\l=l0++R):=by
  intro A w hS
  have h1:=Sat.turn hS
  rw [← List.append_assoc] at h1
  obtain⟨β',g1,_,g3⟩:=h1.yA
  refine (h β' g1 A w (Sat.turn g3)).mono ?_
  rintro e w' ⟨v,l,h1,h2,h3⟩
  refine⟨v,l++R,h1,⟨l,h2,rfl⟩,?_⟩
  have h4:=g1.back (Sat.turn h3)
  rw [List.append_assoc] at h4
  exact Sat.turn h4
section ints
variable {β:Bs} {A:Option Addr} {l:List Int} {j:Nat}
end ints
theorem xS {β:Bs} (A B:Option Addr) (c c':Nat) (ns ms:List aI) (L K:Lay) (hH:aE β B ms K) (hl:ns.length<=1048576) (hd:∀ i,i < ns.length->(nd ns i).data.length<=140737488355328/\(nd ns i).ah.length<=1048576) {b:Bool} (hb:decide (ns=ms)=b) :
    Spec Tryz.prog β 20 #[.agg #[.slice A ns.length c],.agg #[.slice B ms.length c']] (GZ A c ns L) (fun v l=>v=.bool b/\l=GZ A c ns L):=
  (Spec.O9 (pre:=[]) (fun _ g=>Ga A B c c' ns ms L K g.graph (hH.le g.le) hl hd)).mono (by rintro v l ⟨l0,⟨rfl,rfl⟩,rfl⟩;exact⟨congrArg Value.bool hb,rfl⟩)
theorem Ii {β:Bs} (t:Nat) (most aD:Int) (L:HL) (us:Used Th) :
    Spec Tryz.prog β 56 #[.pointer (some ⟨t,0,none⟩)] [.abs (dx 212 t most aD (bH L us))] (fun v l=>∃ A c,v=.slice A us.length c/\l=[.abs (dx 212 t most aD (bH L us)),.abs (aH 3 1 A us.length c (ints (keys us)))]):=by
  have h:=Gz (β:=β) t most aD (bH L us)
  have e:keys (bH L us)=keys us:=keys_map (eu L) us
  have e2:(keys us).length=us.length:=List.length_map ..
  rw [e,e2] at h
  exact h
theorem Ij {S:aJ} (h:Inv0 S):∀ i,i < (av S).length->(nd (av S) i).data.length<=140737488355328/\(nd (av S) i).ah.length<=1048576:=fun i hi=>by
  rw [eX] at hi
  have h1:(obj S.O (bT S i).k).data.length<=bytes S.idx S.O:=ld (g:=fun p:Int×Th=>(obj S.O p.2.k).data.length) (get_at h hi)
  have h2:(obj S.O (bT S i).k).ah.length<=tot S.idx S.O:=ld (g:=fun p:Int×Th=>(obj S.O p.2.k).ah.length) (get_at h hi)
  have h3:=h.used
  have h4:=h.total
  rw [iC hi]
  refine⟨by show (obj S.O (bT S i).k).data.length<=_;omega,?_⟩
  show ((obj S.O (bT S i).k).ah.map _).length<=_
  rw [List.length_map]
  omega
theorem xU {β:Bs} (A:Option Addr) (c:Nat) (ns:List aI) (L:Lay) (hG:aE β A ns L) (hl:ns.length<=1048576) (hd:∀ i,i < ns.length->(nd ns i).data.length<=1048576/\(nd ns i).ah.length<=1048576) :
    Spec Tryz.prog β 23 #[.agg #[.slice A ns.length c]] [] (fun v l=>∃ B cap,v=.agg #[.slice B ns.length cap]/\l=[.abs (lC β (fun β'=>∃ K,aE β' B ns K))]):=
  (bp.QY (ι:=Option Addr×Nat) (vv:=fun x=>.agg #[.slice x.1 ns.length x.2]) (ll:=fun _=>[]) (Φ:=fun x β'=>∃ K,aE β' x.1 ns K)
    ((tB A c ns L hG hl hd).mono (by rintro β' v l _ ⟨B,cap,K,rfl,rfl,h⟩;exact⟨(B,cap),rfl,rfl,K,h⟩))).mono (by rintro v l ⟨⟨B,cap⟩,rfl,rfl⟩;exact⟨B,cap,rfl,rfl⟩)
end
section
open Go.RowKit Go.Maps bq aF
attribute [local irreducible] ak aU af aj
theorem N7 {β:Bs} (S:aJ) (L:HL) (f m t:Nat):Spec Tryz.prog β 33 #[vP f] [pF f m t S.X,pT t S.X.cH S.aD L S.us] (fun v l=>∃ A c,v=.slice A S.us.length c/\l=[pF f m t S.X,pT t S.X.cH S.aD L S.us,.abs (aH 3 1 A S.us.length c (ints (keys S.us)))]):=by
 refine Spec.enter Tryz.func33 rfl Tryz.ntmps33 (Nat.le_of_ble_eq_true rfl) (fun R=>?_)
 refine SR (gK 1 [] [] ?_)
 refine NS (gK 4 [(6,vP t)] [(3,a_ 0 f)] ?_)
 refine gL [1] (Ii t S.X.cH S.aD L S.us) ?_
 rintro _ _ ⟨A,c,rfl,rfl⟩
 refine gK 1 [(2,.slice A (S.us.length) (c))] [] ?_
 refine NN (af.ret ?_)
 exact RT (.slice A (S.us.length) (c)) [2,0,1,3] (⟨A,c,rfl,rfl⟩)
end
section
open Go.RowKit bq aF Go.Maps
abbrev tY (X:FM) (ns:List aI):={ S:aJ // fS X ns ns.length 0 S }
theorem BI (us:Used Th):us.length=(keys us).length:=(List.length_map ..).symm
theorem Ik {S:aJ} (h:Inv0 S):(av S).length<=1048576:=by
  rw [eX]
  have:=h.len
  omega
end
section
open Go.RowKit Go.Maps bq aF
section m
variable {β:Bs} {ns:List aI} {Y:Lay} {X:FM} {root:Int}
theorem Qn (hcap:jQ X) (hok:bB ns) (A:Option Addr) (c:Nat) (hG:aE β A ns Y) (hB:fN ns 1048576) :
    Spec Tryz.prog β 48 #[.agg #[.slice A ns.length c],.agg #[.int .i64 X.cN,.int .i64 X.cB,.int .i64 X.cH,.int .i64 X.cS,.int .i64 X.cZ]] [] (fun v l=>∃ (S:tY X ns) (f m t:Nat) (L:HL),v=.tuple #[.pointer (some ⟨f,0,none⟩),.int .i64 0]/\l=pA f m t L S.1):=
  (Ki A c ns Y hG (uw hB) (zS hB) (MH hB) (MI hB) X).mono (by
    rintro v l (⟨h,_⟩|⟨_,h,_⟩|⟨_,_,h⟩)
    ·exact absurd hcap h
    ·exact absurd hok h
    obtain⟨S,f,m,t,L,h1,h2,h3⟩:=h
    exact⟨⟨S,h1⟩,f,m,t,L,h2,h3⟩)
theorem Qo (Ez:¬ (jQ X/\bB ns)) (A:Option Addr) (c:Nat) (hG:aE β A ns Y) (hB:fN ns 1048576) :
    Spec Tryz.prog β 48 #[.agg #[.slice A ns.length c],.agg #[.int .i64 X.cN,.int .i64 X.cB,.int .i64 X.cH,.int .i64 X.cS,.int .i64 X.cZ]] [] (fun v l=>v=.tuple #[.pointer none,.int .i64 (cU X ns root)]/\l=[]):=
  (Ki A c ns Y hG (uw hB) (zS hB) (MH hB) (MI hB) X).mono (by
    rintro v l (⟨h,h1,h2⟩|⟨h,h',h1,h2⟩|⟨h1,h2,_⟩)
    ·exact⟨by rw [Dc h];exact h1,h2⟩
    ·exact⟨by rw [zn h h'];exact h1,h2⟩
    exact absurd ⟨h1,h2⟩ Ez)
theorem Dl (Ez:¬ (jQ X/\bB ns)):cU X ns root≠0:=fun h=>Ez (zo h)
theorem N8 {i:Nat} (hi:tU ns root i) (A:Option Addr) (c:Nat) (hG:aE β A ns Y) (hB:fN ns 1048576) (b:Nat) :
    Spec Tryz.prog β 49 #[.slice A ns.length c,.func (.func 50) #[] #[.pointer (some ⟨b,0,none⟩)]] [.blk b [.int .i64 root] 3] (fun v l=>v=.int .i64 (i:Int)/\l=[.blk b [.int .i64 root] 3]):=
  (HV A c ns Y hG (uw hB) b root).mono (by
    rintro v l (⟨j,hj,h1,h2⟩|⟨h,_⟩)
    ·have e:i=j:=by
       obtain⟨a1,a2,a3⟩:=hi
       obtain⟨b1,b2,b3⟩:=hj
       rcases Nat.lt_trichotomy i j with h|h|h
       ·exact absurd a2 (b3 i h)
       ·exact h
       exact absurd b2 (a3 j h)
     subst e
     exact⟨h1,h2⟩
    exact absurd hi.2.1 (h i hi.1))
theorem Qp (hi:∀ q,q < ns.length->(nd ns q).id≠root) (A:Option Addr) (c:Nat) (hG:aE β A ns Y) (hB:fN ns 1048576) (b:Nat) :
    Spec Tryz.prog β 49 #[.slice A ns.length c,.func (.func 50) #[] #[.pointer (some ⟨b,0,none⟩)]] [.blk b [.int .i64 root] 3] (fun v l=>v=.int .i64 (-1)/\l=[.blk b [.int .i64 root] 3]):=
  (HV A c ns Y hG (uw hB) b root).mono (by
    rintro v l (⟨j,hj,_⟩|⟨_,h1,h2⟩)
    ·exact absurd hj.2.1 (hi j hj.1)
    exact⟨h1,h2⟩)
end m
end
section
open Go.RowKit Go.Maps bq aF
attribute [local irreducible] ak aU af aj
noncomputable abbrev Yn (w)(f:Nat) (o) (root):=(.blk w [.iface 39 (vP w),vP f,.iface 140 (vP o),vI (root),.slice none (0) (0)] 53:HP)
noncomputable abbrev Yo (o)(q)(f:Nat) (root) (am):=(.blk o [.iface 141 (vP q),vP f,vI (root),.map (some am),vI 0] 145:HP)
noncomputable abbrev Fe (b4:Nat) (Af) (fs:List bh) (cf) (Aa) (xs:List bK) (ca):=(.blk b4 [.slice Af (fs.length) (cf),.slice Aa (xs.length) (ca)] 32:HP)
noncomputable abbrev Kk (m5:Nat) (Z) (xs:List bK) (i:Nat) (an):=(.abs (aP Tryz.prog 3 m5 (gS Z (xs.take i)) an):HP)
noncomputable abbrev N9 (b6:Nat) (xs) (i:Nat):=(.blk b6 [vI ((act xs i).at_),vI ((act xs i).op),.string (act xs i).path,.string (act xs i).to,.string (act xs i).text] 136:HP)
noncomputable abbrev Uy (b2:Nat) (b4:Nat) (f:Nat) (m5:Nat):=([(5,vP b2),(7,vP b4),(10,vP f),(13,.map (some m5))]:Fr)
noncomputable abbrev Rs (Aa)(xs:List bK) (ca):=([(44,.slice Aa (xs.length) (ca)),(45,vI ↑xs.length)]:Fr)
noncomputable abbrev Ww (b2:Nat) (f:Nat) (m5:Nat) (m11:Nat) (Af) (fs:List bh) (cf) (j:Nat):=([(5,vP b2),(10,vP f),(13,.map (some m5)),(16,.map (some m11)),(63,.slice Af (fs.length) (cf)),(64,vI ↑fs.length),(65,vI ↑j)]:Fr)
noncomputable abbrev Wx (w)(f:Nat) (o) (root) (q) (am) (km) (Z) (xs) (an) (fs) (kn):=([Yn w f o root,Yo o q f root am,.blk q [.iface 49 (vP f),.map (some km),vI 0] 143,.abs (aP Tryz.prog 3 am (gS Z xs) an),.abs (aP Tryz.prog 3 km (eY fs) kn),.abs (aH 88 13 none 0 0 ([]))]:List HP)
theorem Qq {β:Bs} (A:Option Addr) (c:Nat) (ns:List aI) (Y:Lay) (hG:aE β A ns Y) (hB:fN ns 1048576) (X:FM) (root:Int) (Af:Option Addr) (cf:Nat) (fs:List bh) (hF:cM β Af (bR fU fs)) (mP:jj fs 2097152) (Aa:Option Addr) (ca:Nat) (xs:List bK) (hA:cM β Aa (bR gM xs)) (hab:ef xs 1048576) :
    bp Tryz.prog β 26 #[.agg #[.slice A (ns.length) (c)],vI (root),.agg #[vI (X.cN),vI (X.cB),vI (X.cH),vI (X.cS),vI (X.cZ)],.agg #[.slice Af (fs.length) (cf),.slice Aa (xs.length) (ca)]] [] (fun β' v l=>(cU X ns root≠0/\v=.tuple #[.pointer none,vI (cU X ns root)]/\l=[])\/(cU X ns root=0/\∃ (N:tY X ns) (L:HL) (w o q f m t am an km kn:Nat) (Z:AZ),v=.tuple #[vP w,vI 0]/\l=(Wx w f o root q am km Z xs an fs kn++[pF f m t N.1.X,pI m L N.1.idx,pT t N.1.X.cH N.1.aD L N.1.us,pO N.1.O L,pD N.1.O L,pE N.1.O L])/\fF β' Z xs)):=by
 have hfl:=mP.len
 have hxl:=hab.len
 refine bp.enter Tryz.func26 rfl Tryz.ntmps26 (Nat.le_of_ble_eq_true rfl) (fun hle0 R=>?_)
 refine SR (gN 1 (fun b1=>[(4,vP b1)]) (fun _=>[]) (fun _=>[]) (fun b1=>.blk b1 [.slice A (ns.length) (c)] 24) (fun b1=>?_))
 refine gN 1 (fun b2=>[(5,vP b2)]) (fun _=>[]) (fun _=>[]) (fun b2=>.blk b2 [vI (root)] 3) (fun b2=>?_)
 refine gN 1 (fun b3=>[(6,vP b3)]) (fun _=>[]) (fun _=>[]) (fun b3=>.blk b3 [vI (X.cN),vI (X.cB),vI (X.cH),vI (X.cS),vI (X.cZ)] 28) (fun b3=>?_)
 refine gN 3 (fun b4=>[(7,vP b4)]) (fun _=>[]) (fun _=>[]) (fun b4=>.blk b4 [.slice Af (fs.length) (cf),.slice Aa (xs.length) (ca)] 32) (fun b4=>?_)
 refine NN (af.seq ?_)
 by_cases oL:jQ X/\bB ns
 ·refine af.region (gK 2 [(21,.agg #[.slice A (ns.length) (c)]),(22,.agg #[vI (X.cN),vI (X.cB),vI (X.cH),vI (X.cS),vI (X.cZ)])] [(0,a_ 1 b1),(1,A_ 3 b3 5)] ?_)
  refine gL [] (Qn (β:=β) oL.1 oL.2 A c hG hB) ?_
  rintro _ _ ⟨N,f,m,t,L,rfl,rfl⟩
  refine gK 5 [(10,vP f),(11,vI 0)] [] ?_
  refine NN (af.seq (SR (gK 2 [(27,.bool false)] [] ?_)))
  refine NN (CF (af.skip (NX (af.seq ?_))))
  rcases Qc ns root with ⟨r,hr⟩|hno
  ·have hr1:r < ns.length:=hr.1
   refine af.region (gK 3 [(30,.slice A (ns.length) (c)),(31,.func (.func 50) #[] #[vP b2])] [(1,a_ 7 b1)] ?_)
   refine gL [8] (N8 (β:=β) hr A c hG hB b2) ?_
   rintro _ _ ⟨rfl,rfl⟩
   refine gK 1 [(12,vI ↑r)] [] ?_
   refine NN (af.seq (SR (gK 2 [(34,.bool false)] [(1,p_ ⟨[],none,none,none,some (.bool false)⟩ [(Value.bool (decide ((((r:Nat):Int):Int) < (0:Int))))=(.bool false)] ⟨congrArg Value.bool (decide_eq_false (by omega)),trivial⟩)] ?_)))
   refine NN (CF (af.skip (NX (af.seq (SR (gK 7 [(41,.bool (!(decide (((nd ns r).kind:Int)=(2:Int)))))] [(1,a_ 8 b1),(3,p_ ⟨[],some r,none,some ⟨(ay A),ax A,none⟩,none⟩ [((r:Nat):Int)=((r:Nat):Int),r < ns.length,(⟨(ay A),ax A,none⟩:Addr).spot=none,(A:Option Addr)=some ⟨(ay A),ax A,none⟩] ⟨rfl,by omega,rfl,aE.hd hG (i:=r) (by omega),trivial⟩),(5,p_ ⟨[.old (.int .i64 ((nd ns r).kind))],none,none,none,none⟩ [(Rd β ⟨(ay A),ax A+r * 10+1,none⟩ (.int .i64 ((nd ns r).kind)))] ⟨aE.rd hG (i:=r) (by omega) (j:=1) rfl,trivial⟩)] ?_))))))
   refine NN (af.fI (p:=((nd ns r).kind:Int)=(2:Int)) (fun _=>by kernel_rfl) (fun C5=>?_) (fun C5=>?_))
   ·refine SR (gK 2 [(8,.pointer none),(9,vI 173)] [] ?_)
    refine NN (af.ret (aj.aq ?_))
    exact aj.iz (v:=.tuple #[.pointer none,vI 173]) (l:=[]) (aZ:=[]) [] [7] hle0 (fun _=>by kernel_rfl) trivial rfl (by kernel_rfl) (.inl ⟨by rw [Df oL.1 oL.2 hr C5];decide,by rw [Df oL.1 oL.2 hr C5],rfl⟩)
   refine af.skip (NX (SR (ak.mz (d:=(some 42)) (t:=134) (fun _=>by kernel_rfl) Tryz.prog rfl 3 (fun m5=>?_))))
   refine gK 1 [(13,.map (some m5))] [] ?_
   refine NN (af.seq (SR (ak.dV 11 (p:=.abs (aP Tryz.prog 3 m5 (fun _=>none) 0)) (p':=.abs (aP Tryz.prog 3 m5 (gS AZ.none (xs.take 0)) 0)) (by kernel_rfl) (congrArg (fun f=>HP.abs (aP Tryz.prog 3 _ f 0)) PZ.symm) ?_)))
   refine ak.mem (dm:=[tV b2 root,pF f m t N.1.X,pI m L N.1.idx,pT t N.1.X.cH N.1.aD L N.1.us,pO N.1.O L,pD N.1.O L,pE N.1.O L,.abs R,rT b1 A ns c,sy b3 X,Fe b4 Af fs cf Aa xs ca,.abs (aP Tryz.prog 3 m5 (gS AZ.none (xs.take 0)) 0),.abs (aG (ni AZ.none (xs.take 0)))]) (fun w hS=>hS.T9) ?_
   refine gK 4 (Rs Aa xs ca++[(46,vI 0)]) [(1,a_ 10 b4)] ?_
   refine NN (af.block ?_)
   refine af.loop (ι:=Nat×AZ×Nat) (fun ((i,Z,an):Nat×AZ×Nat)=>(i<=xs.length)/\(an<=i)) (fun ((i,Z,an):Nat×AZ×Nat)=>xs.length - i) (fun ((i,Z,an):Nat×AZ×Nat)=>(Uy b2 b4 f m5++Rs Aa xs ca++[(46,vI ↑i)])) (fun ((i,Z,an):Nat×AZ×Nat)=>[tV b2 root,pF f m t N.1.X,pI m L N.1.idx,pT t N.1.X.cH N.1.aD L N.1.us,pO N.1.O L,pD N.1.O L,pE N.1.O L,rT b1 A ns c,sy b3 X,Fe b4 Af fs cf Aa xs ca,Kk m5 Z xs i an,.abs (aG (ni Z (xs.take i))),.abs R]) (0,AZ.none,0) (idx:=[5,7,10,13,44,45,46]) (pk:=[0,1,2,3,4,5,6,8,9,10,11,12,7]) (show (0<=xs.length)/\(0<=0) from ⟨Nat.zero_le _,Nat.le_refl _⟩) (fun _=>by kernel_rfl) rfl (by kernel_rfl) ?_
   rintro⟨i,Z,an⟩ ⟨hi,han⟩
   show af _ _ _ _ (Uy b2 b4 f m5++Rs Aa xs ca++[(46,vI ↑i)]) [tV b2 root,pF f m t N.1.X,pI m L N.1.idx,pT t N.1.X.cH N.1.aD L N.1.us,pO N.1.O L,pD N.1.O L,pE N.1.O L,rT b1 A ns c,sy b3 X,Fe b4 Af fs cf Aa xs ca,Kk m5 Z xs i an,.abs (aG (ni Z (xs.take i))),.abs R] _
   refine SR (gK 1 [(47,.bool (decide ((((i:Nat):Int):Int) < (((xs.length:Nat):Int):Int))))] [] ?_)
   refine NN (af.seq (af.aW (p:=(((i:Nat):Int):Int) < (((xs.length:Nat):Int):Int)) (fun _=>by kernel_rfl) (fun Rt=>?_) (fun Rt=>?_)))
   ·refine af.skip (NX (af.seq (af.block (SR ?_))))
    refine gN 4 (fun b6=>[(15,vP b6)]) (fun b6=>[(0,p_ ⟨[],some i,none,some ⟨(ay Aa),ax Aa,none⟩,none⟩ [((i:Nat):Int)=((i:Nat):Int),i < xs.length,(⟨(ay Aa),ax Aa,none⟩:Addr).spot=none,(Aa:Option Addr)=some ⟨(ay Aa),ax Aa,none⟩] ⟨rfl,by omega,rfl,QV hA (i:=i) (by omega),trivial⟩),(1,p_ ⟨[.old (.int .i64 ((act xs i).at_)),.old (.int .i64 ((act xs i).op)),.old (.string (act xs i).path),.old (.string (act xs i).to),.old (.string (act xs i).text)],none,none,none,none⟩ [(Rd β ⟨(ay Aa),ax Aa+i * 5+4,none⟩ (.string (act xs i).text)),(Rd β ⟨(ay Aa),ax Aa+i * 5+3,none⟩ (.string (act xs i).to)),(Rd β ⟨(ay Aa),ax Aa+i * 5+2,none⟩ (.string (act xs i).path)),(Rd β ⟨(ay Aa),ax Aa+i * 5+1,none⟩ (.int .i64 ((act xs i).op))),(Rd β ⟨(ay Aa),ax Aa+i * 5,none⟩ (.int .i64 ((act xs i).at_)))] ⟨qX hA (i:=i) (by omega) (j:=4) rfl,qX hA (i:=i) (by omega) (j:=3) rfl,qX hA (i:=i) (by omega) (j:=2) rfl,qX hA (i:=i) (by omega) (j:=1) rfl,qX hA (i:=i) (by omega) (j:=0) rfl,trivial⟩),(3,A_ 13 b6 5)]) (fun _=>[]) (fun b6=>.blk b6 [vI ((act xs i).at_),vI ((act xs i).op),.string (act xs i).path,.string (act xs i).to,.string (act xs i).text] 136) (fun b6=>?_)
    refine NN (af.ck (S:=[Kk m5 Z xs i an,N9 b6 xs i]) [0,1,2,3,4,5,6,7,8,9,10] 8 [10,13] (by kernel_rfl) (by kernel_rfl) rfl (by kernel_rfl) ?_)
    refine gR 2 [6,7,8,9,10] (Uy b2 b4 f m5++[(15,vP b6)]++Rs Aa xs ca++[(46,vI ↑i),(50,.map (some m5)),(52,vI ((act xs i).at_)),(53,.map (some m5)),(55,vI ((act xs i).at_))]) [0,1,2,3,4,5] [(2,a_ 1 b6),(5,a_ 1 b6)] ?_
    refine aQ.dW 0 (d:=(some 56)) (t:=134) (K:=3) (E:=30) (b:=m5) (cnt:=an) (f:=(gS Z (xs.take i))) (x:=(.tmp 53)) (ix:=(.tmp 55)) (key:=.int .i64 ((act xs i).at_)) (z:=.slice none (0) (0)) (kl:=(Lit.int IntKind.i64 (act xs i).at_)) (q:=(gS Z (xs.take i) (Lit.int IntKind.i64 (act xs i).at_))) (by kernel_rfl) (by kernel_rfl) (fun _=>by kernel_rfl) (fun _=>by kernel_rfl) dZ Tryz.underlying134 (fun _=>by kernel_rfl) (iR (hab.at (by omega)).aw) (rfl) (by rw [BM];rfl) ?_
    refine gR 0 [8,9,10] [(5,vP b2),(7,vP b4),(10,vP f),(13,.map (some m5)),(44,.slice Aa (xs.length) (ca)),(45,vI ↑xs.length),(46,vI ↑i),(50,.map (some m5)),(52,vI ((act xs i).at_)),(56,((gS Z (xs.take i) (Lit.int IntKind.i64 (act xs i).at_)).getD (.slice none 0 0))),(57,.agg #[vI ((act xs i).at_),vI ((act xs i).op),.string (act xs i).path,.string (act xs i).to,.string (act xs i).text])] [7] [(0,A_ 1 b6 5)] ?_
    refine mN [10,13] (fun b7=>[(58,.slice (some ⟨b7,0,none⟩) (1) (1))]) (fun _=>[]) (fun b7=>.blk b7 [vI ((act xs i).at_),vI ((act xs i).op),.string (act xs i).path,.string (act xs i).to,.string (act xs i).text] 136) (fun b7=>?_)
    refine aQ.cut (ι:=(Option Addr)×Nat) (fr':=fun ((A8,c9):(Option Addr)×Nat)=>[(5,vP b2),(7,vP b4),(10,vP f),(13,.map (some m5)),(44,.slice Aa (xs.length) (ca)),(45,vI ↑xs.length),(46,vI ↑i),(50,.map (some m5)),(52,vI ((act xs i).at_)),(59,.slice A8 (((bF (xs.take i) (act xs i).at_).length+1)) (c9))]) (hp':=fun ((A8,c9):(Option Addr)×Nat)=>[tV b2 root,pF f m t N.1.X,pI m L N.1.idx,pT t N.1.X.cH N.1.aD L N.1.us,pO N.1.O L,pD N.1.O L,pE N.1.O L,rT b1 A ns c,sy b3 X,Fe b4 Af fs cf Aa xs ca,Kk m5 Z xs i an,.abs (aG (kX (ni Z (xs.take i)) (zz (act xs i).at_) bW.none)),.abs R,N9 b6 xs i,N9 b7 xs i,.abs (aH 136 5 A8 ((bF (xs.take i) (act xs i).at_).length+1) c9 (bR gM (bF (xs.take i) (act xs i).at_)++gM (act xs i)))]) [10,13] rfl rfl ?_ rfl (fun _=>by kernel_rfl) ?_
    ·refine ak.slot 56 (((gS Z (xs.take i) (Lit.int IntKind.i64 (act xs i).at_)).getD (.slice none 0 0))) (.slice (aA Z (xs.take i) (act xs i).at_) ((bF (xs.take i) (act xs i).at_).length) ((aC Z (xs.take i) (act xs i).at_))) (fun _=>by kernel_rfl) (BM) ?_
     refine ak.mem (dm:=[tV b2 root,pF f m t N.1.X,pI m L N.1.idx,pT t N.1.X.cH N.1.aD L N.1.us,pO N.1.O L,pD N.1.O L,pE N.1.O L,rT b1 A ns c,sy b3 X,Fe b4 Af fs cf Aa xs ca,Kk m5 Z xs i an,.abs (aG (kX (ni Z (xs.take i)) (zz (act xs i).at_) bW.none)),.abs R,N9 b6 xs i,N9 b7 xs i,.abs (aH 136 5 (aA Z (xs.take i) (act xs i).at_) ((bF (xs.take i) (act xs i).at_).length) (aC Z (xs.take i) (act xs i).at_) (bR gM (bF (xs.take i) (act xs i).at_)))]) (fun w hS=>hS.Sd (i:=11) rfl (act xs i).at_) ?_
     have ZK:(bF (xs.take i) (act xs i).at_).length<=1048576:=Nat.le_trans (CQ _) (by rw [List.length_take];omega)
     refine ak.append 15 (d:=(some 59)) (t:=30) (e:=136) (z:=.agg #[vI 0,vI 0,.string ⟨#[]⟩,.string ⟨#[]⟩,.string ⟨#[]⟩]) (size:=5) (bytes:=64) (n:=(bF (xs.take i) (act xs i).at_).length) (cap:=(aC Z (xs.take i) (act xs i).at_)) (A:=(aA Z (xs.take i) (act xs i).at_)) (xs:=(bR gM (bF (xs.take i) (act xs i).at_))) (s:=(.tmp 56)) (x:=(.tmp 58)) (ats:=#[30,30]) (A':=some ⟨b7,0,none⟩) (m:=1) (c':=1) (news:=[vI ((act xs i).at_),vI ((act xs i).op),.string (act xs i).path,.string (act xs i).to,.string (act xs i).text]) (fun _=>by kernel_rfl) rfl (by kernel_rfl) (fun _=>by kernel_rfl) (fun _=>by kernel_rfl) Tryz.underlying30 (by kernel_rfl) rfl (by decide) (rfl) (by simp [Value.oneCell']) (mA (j:=14) rfl) (by unfold maxLen;omega) (by omega) (fun A8 c9=>?_)
     refine ak.dV 15 (p:=.abs (aH 136 5 A8 (((bF (xs.take i) (act xs i).at_).length)+1) c9 ((bR gM (bF (xs.take i) (act xs i).at_))++[vI ((act xs i).at_),vI ((act xs i).op),.string (act xs i).path,.string (act xs i).to,.string (act xs i).text]))) (p':=.abs (aH 136 5 A8 ((bF (xs.take i) (act xs i).at_).length+1) c9 (bR gM (bF (xs.take i) (act xs i).at_)++gM (act xs i)))) (by kernel_rfl) (rfl) ?_
     refine ak.slot 59 (.slice A8 (((bF (xs.take i) (act xs i).at_).length)+1) (c9)) (.slice A8 (((bF (xs.take i) (act xs i).at_).length+1)) (c9)) (fun _=>by kernel_rfl) (rfl) ?_
     refine NL ?_
     exact MD (A8,c9) [5,7,10,13,44,45,46,50,52,59] [0,1,2,3,4,5,6,7,8,9,10,11,12,13,14,15]
    rintro⟨A8,c9⟩
    refine aQ.last rfl rfl ?_
    refine ak.mem (dm:=[.abs (aG (ni (Z.put (act xs i).at_ A8 c9) (xs.take (i+1)))),.blk b2 [vI (root)] 3,.blk f [vI (N.1.X.cN),vI (N.1.X.cB),vI (N.1.X.cH),vI (N.1.X.cS),vI (N.1.X.cZ),.map (some m),vP t,vI (N.1.X.last),vI (N.1.X.ah),vI (N.1.X.used)] 154,.abs (aP Tryz.prog 3 m (bA (bH L N.1.idx)) N.1.idx.length),.abs (dx 212 t N.1.X.cH N.1.aD (bH L N.1.us)),.abs (aG (bS N.1.O L)),.abs (aG (cg N.1.O L)),.abs (aG (cY N.1.O L)),.blk b1 [.slice A (ns.length) (c)] 24,.blk b3 [vI (X.cN),vI (X.cB),vI (X.cH),vI (X.cS),vI (X.cZ)] 28,.blk b4 [.slice Af (fs.length) (cf),.slice Aa (xs.length) (ca)] 32,.abs (aP Tryz.prog 3 m5 (gS Z (xs.take i)) an),.abs R,.blk b6 [vI ((act xs i).at_),vI ((act xs i).op),.string (act xs i).path,.string (act xs i).to,.string (act xs i).text] 136,.blk b7 [vI ((act xs i).at_),vI ((act xs i).op),.string (act xs i).path,.string (act xs i).to,.string (act xs i).text] 136]) (fun w hS=>by rw [G7 (by omega)];exact hS.Ua (i:=11) (j:=15) (idx:=[0,1,2,3,4,5,6,7,8,9,10,12,13,14]) rfl rfl (by kernel_rfl) rfl) ?_
    refine ak.kU 11 (d:=none) (t:=134) (K:=3) (E:=30) (b:=m5) (n:=an) (f:=(gS Z (xs.take i))) (x:=(.tmp 50)) (ix:=(.tmp 52)) (y:=(.tmp 59)) (key:=.int .i64 ((act xs i).at_)) (u:=.slice A8 (((bF (xs.take i) (act xs i).at_).length+1)) (c9)) (kl:=(Lit.int IntKind.i64 (act xs i).at_)) (n':=(if (gS Z (xs.take i) (Lit.int IntKind.i64 (act xs i).at_)).isSome then an else an+1)) (f':=(gS (Z.put (act xs i).at_ A8 c9) (xs.take (i+1)))) (fun _=>by kernel_rfl) (by kernel_rfl) (fun _=>by kernel_rfl) (fun _=>by kernel_rfl) (fun _=>by kernel_rfl) dZ Tryz.underlying134 (by unfold maxLen;omega) (iR (hab.at (by omega)).aw) (rfl) (by rw [G7 (by omega)];exact P0) ?_
    refine NL (aj.np (aj.aO (NX (af.region ?_))))
    refine gK 2 [(46,vI ↑(i+1))] [(0,p_ ⟨[],none,none,none,some (vI ↑(i+1))⟩ [(Value.int .i64 (IntKind.wrap .i64 (((i:Nat):Int)+1)))=(.int .i64 ↑(i+1))] ⟨bC (by omega) (by omega) (by omega),trivial⟩)] ?_
    refine NL ?_
    exact aj.turn ((i+1),(Z.put (act xs i).at_ A8 c9),(if (gS Z (xs.take i) (Lit.int IntKind.i64 (act xs i).at_)).isSome then an else an+1)) (idx:=[5,7,10,13,44,45,46]) (pk:=[1,2,3,4,5,6,7,8,9,10,11,0,12]) (show (((i+1))<=xs.length)/\(((if (gS Z (xs.take i) (Lit.int IntKind.i64 (act xs i).at_)).isSome then an else an+1))<=((i+1))) from ⟨by omega,by split<;>omega⟩) (by show xs.length - ((i+1)) < xs.length - i;omega) (fun _=>by kernel_rfl) rfl (by kernel_rfl)
   refine af.exit (aj.aV (aj.aV (aj.cL (NX (SR ?_)))))
   refine ak.mK (Φ:=fun β'=>fF β' Z xs) 11 [0,1,2,3,4,5,6,7,8,9,10,12] (dm:=[tV b2 root,pF f m t N.1.X,pI m L N.1.idx,pT t N.1.X.cH N.1.aD L N.1.us,pO N.1.O L,pD N.1.O L,pE N.1.O L,rT b1 A ns c,sy b3 X,Fe b4 Af fs cf Aa xs ca,Kk m5 Z xs i an,.abs R]) rfl rfl (by kernel_rfl) (fun F w h β' h1 h2=>fF.of (by rw [show xs.take i=xs by rw [show i=xs.length by omega,List.take_length]] at h;exact h) h1 h2) (fun LI jK hZ=>?_)
   replace hG:=hG.le jK
   replace hA:=hA.le jK
   replace hF:=hF.le jK
   replace hle0:=hle0.trans jK
   refine ak.dV 10 (p:=.abs (aP Tryz.prog 3 m5 (gS Z (xs.take i)) an)) (p':=.abs (aP Tryz.prog 3 m5 (gS Z xs) an)) (by kernel_rfl) (by rw [show xs.take i=xs by rw [show i=xs.length by omega,List.take_length]]) ?_
   refine ak.mz (d:=(some 61)) (t:=137) (fun _=>by kernel_rfl) Tryz.prog rfl 3 (fun m11=>?_)
   refine gK 1 [(16,.map (some m11))] [] ?_
   refine NN (af.seq (SR (ak.dV 12 (p:=.abs (aP Tryz.prog 3 m11 (fun _=>none) 0)) (p':=.abs (aP Tryz.prog 3 m11 (eY (fs.take 0)) 0)) (by kernel_rfl) (congrArg (fun f=>HP.abs (aP Tryz.prog 3 _ f 0)) Nk.symm) ?_)))
   refine gK 4 [(63,.slice Af (fs.length) (cf)),(64,vI ↑fs.length),(65,vI 0)] [(1,a_ 9 b4)] ?_
   refine NN (af.block ?_)
   refine af.loop (ι:=Nat×Nat) (fun ((j,kn):Nat×Nat)=>(j<=fs.length)/\(kn<=j)) (fun ((j,kn):Nat×Nat)=>fs.length - j) (fun ((j,kn):Nat×Nat)=>(Ww b2 f m5 m11 Af fs cf j)) (fun ((j,kn):Nat×Nat)=>[tV b2 root,pF f m t N.1.X,pI m L N.1.idx,pT t N.1.X.cH N.1.aD L N.1.us,pO N.1.O L,pD N.1.O L,pE N.1.O L,rT b1 A ns c,sy b3 X,Fe b4 Af fs cf Aa xs ca,.abs (aP Tryz.prog 3 m5 (gS Z xs) an),.abs (aP Tryz.prog 3 m11 (eY (fs.take j)) kn),.abs R]) (0,0) (idx:=[5,10,13,16,63,64,65]) (pk:=[0,1,2,3,4,5,6,7,8,9,10,12,11]) (show (0<=fs.length)/\(0<=0) from ⟨Nat.zero_le _,Nat.le_refl _⟩) (fun _=>by kernel_rfl) rfl (by kernel_rfl) ?_
   rintro⟨j,kn⟩ ⟨hj,hkn⟩
   show af _ _ _ _ (Ww b2 f m5 m11 Af fs cf j) [tV b2 root,pF f m t N.1.X,pI m L N.1.idx,pT t N.1.X.cH N.1.aD L N.1.us,pO N.1.O L,pD N.1.O L,pE N.1.O L,rT b1 A ns c,sy b3 X,Fe b4 Af fs cf Aa xs ca,.abs (aP Tryz.prog 3 m5 (gS Z xs) an),.abs (aP Tryz.prog 3 m11 (eY (fs.take j)) kn),.abs R] _
   refine SR (gK 1 [(66,.bool (decide ((((j:Nat):Int):Int) < (((fs.length:Nat):Int):Int))))] [] ?_)
   refine NN (af.seq (af.aW (p:=(((j:Nat):Int):Int) < (((fs.length:Nat):Int):Int)) (fun _=>by kernel_rfl) (fun Cm=>?_) (fun Cm=>?_)))
   ·refine af.skip (NX (af.seq (af.block (SR ?_))))
    refine gN 4 (fun b12=>[(18,vP b12)]) (fun b12=>[(0,p_ ⟨[],some j,none,some ⟨(ay Af),ax Af,none⟩,none⟩ [((j:Nat):Int)=((j:Nat):Int),j < fs.length,(⟨(ay Af),ax Af,none⟩:Addr).spot=none,(Af:Option Addr)=some ⟨(ay Af),ax Af,none⟩] ⟨rfl,by omega,rfl,Vy hF (i:=j) (by omega),trivial⟩),(1,p_ ⟨[.old (.int .i64 ((kq fs j).at_)),.old (.int .i64 ((kq fs j).kind))],none,none,none,none⟩ [(Rd LI ⟨(ay Af),ax Af+j * 2+1,none⟩ (.int .i64 ((kq fs j).kind))),(Rd LI ⟨(ay Af),ax Af+j * 2,none⟩ (.int .i64 ((kq fs j).at_)))] ⟨QW hF (i:=j) (by omega) (j:=1) rfl,QW hF (i:=j) (by omega) (j:=0) rfl,trivial⟩),(3,A_ 13 b12 2)]) (fun _=>[]) (fun b12=>.blk b12 [vI ((kq fs j).at_),vI ((kq fs j).kind)] 139) (fun b12=>?_)
    refine NS (gK 4 [(72,.bool (decide (((kq fs j).kind:Int) ≥ (1:Int))))] [(1,a_ 13 b12)] ?_)
    refine ak.iE 72 (((kq fs j).kind:Int) ≥ (1:Int)) (fun _=>by kernel_rfl) (fun Yp=>?_) (fun Yp=>?_)
    ·refine gK 5 [(77,.bool (decide (((kq fs j).kind:Int)<=(3:Int))))] [(1,a_ 13 b12)] ?_
     refine ak.iE 77 (((kq fs j).kind:Int)<=(3:Int)) (fun _=>by kernel_rfl) (fun Yq=>?_) (fun Yq=>?_)
     ·refine gK 3 [(78,.map (some m11)),(80,vI ((kq fs j).at_))] [(2,a_ 13 b12)] ?_
      refine ak.dW 11 (d:=(some 81)) (t:=137) (K:=3) (E:=3) (b:=m11) (n:=kn) (f:=(eY (fs.take j))) (x:=(.tmp 78)) (ix:=(.tmp 80)) (key:=.int .i64 ((kq fs j).at_)) (z:=.int .i64 0) (kl:=(Lit.int IntKind.i64 (kq fs j).at_)) (r:=(eY (fs.take j) (Lit.int IntKind.i64 (kq fs j).at_))) (fun _=>by kernel_rfl) (by kernel_rfl) (fun _=>by kernel_rfl) (fun _=>by kernel_rfl) dZ Tryz.underlying137 (fun _=>by kernel_rfl) (iR (mP.at (by omega))) (rfl) ?_
      refine ak.slot 81 (((eY (fs.take j) (Lit.int IntKind.i64 (kq fs j).at_)).getD (.int .i64 0))) (.int .i64 ((iY (fs.take j) (kq fs j).at_))) (fun _=>by kernel_rfl) (EY) ?_
      refine gK 2 [(83,.bool (decide (((iY (fs.take j) (kq fs j).at_):Int)=(0:Int))))] [] ?_
      refine NN (af.aW (p:=((iY (fs.take j) (kq fs j).at_):Int)=(0:Int)) (fun _=>by kernel_rfl) (fun Yr=>?_) (fun Yr=>?_))
      ·refine af.region (gK 5 [(84,.map (some m11)),(86,vI ((kq fs j).at_)),(88,vI ((kq fs j).kind))] [(2,a_ 13 b12),(4,a_ 13 b12)] ?_)
       refine ak.kU 11 (d:=none) (t:=137) (K:=3) (E:=3) (b:=m11) (n:=kn) (f:=(eY (fs.take j))) (x:=(.tmp 84)) (ix:=(.tmp 86)) (y:=(.tmp 88)) (key:=.int .i64 ((kq fs j).at_)) (u:=.int .i64 ((kq fs j).kind)) (kl:=(Lit.int IntKind.i64 (kq fs j).at_)) (n':=(if (eY (fs.take j) (Lit.int IntKind.i64 (kq fs j).at_)).isSome then kn else kn+1)) (f':=(eY (fs.take (j+1)))) (fun _=>by kernel_rfl) (by kernel_rfl) (fun _=>by kernel_rfl) (fun _=>by kernel_rfl) (fun _=>by kernel_rfl) dZ Tryz.underlying137 (by unfold maxLen;omega) (iR (mP.at (by omega))) (rfl) (by rw [wS (by omega)];exact Nl ⟨by omega,by omega⟩ (by omega)) ?_
       refine NL (aj.aO (NX (af.region ?_)))
       refine gK 2 [(65,vI ↑(j+1))] [(0,p_ ⟨[],none,none,none,some (vI ↑(j+1))⟩ [(Value.int .i64 (IntKind.wrap .i64 (((j:Nat):Int)+1)))=(.int .i64 ↑(j+1))] ⟨bC (by omega) (by omega) (by omega),trivial⟩)] ?_
       refine NL ?_
       exact aj.turn ((j+1),(if (eY (fs.take j) (Lit.int IntKind.i64 (kq fs j).at_)).isSome then kn else kn+1)) (idx:=[5,10,13,16,63,64,65]) (pk:=[0,1,2,3,4,5,6,7,8,9,10,11,12]) (show (((j+1))<=fs.length)/\(((if (eY (fs.take j) (Lit.int IntKind.i64 (kq fs j).at_)).isSome then kn else kn+1))<=((j+1))) from ⟨by omega,by split<;>omega⟩) (by show fs.length - ((j+1)) < fs.length - j;omega) (fun _=>by kernel_rfl) rfl (by kernel_rfl)
      refine af.skip (aj.aO (NX (af.region ?_)))
      refine ak.dV 11 (p:=.abs (aP Tryz.prog 3 m11 (eY (fs.take j)) kn)) (p':=.abs (aP Tryz.prog 3 m11 (eY (fs.take (j+1))) kn)) (by kernel_rfl) (by rw [wS (by omega),wR];unfold FK;omega) ?_
      refine gK 2 [(65,vI ↑(j+1))] [(0,p_ ⟨[],none,none,none,some (vI ↑(j+1))⟩ [(Value.int .i64 (IntKind.wrap .i64 (((j:Nat):Int)+1)))=(.int .i64 ↑(j+1))] ⟨bC (by omega) (by omega) (by omega),trivial⟩)] ?_
      refine NL ?_
      exact aj.turn ((j+1),kn) (idx:=[5,10,13,16,63,64,65]) (pk:=[0,1,2,3,4,5,6,7,8,9,10,11,12]) (show (((j+1))<=fs.length)/\(kn<=((j+1))) from ⟨by omega,by omega⟩) (by show fs.length - ((j+1)) < fs.length - j;omega) (fun _=>by kernel_rfl) rfl (by kernel_rfl)
     refine gK 4 [(81,undef)] [] ?_
     refine gK 2 [(83,.bool false)] [] ?_
     refine NN (CF (af.skip (aj.aO (NX (af.region ?_)))))
     refine ak.dV 11 (p:=.abs (aP Tryz.prog 3 m11 (eY (fs.take j)) kn)) (p':=.abs (aP Tryz.prog 3 m11 (eY (fs.take (j+1))) kn)) (by kernel_rfl) (by rw [wS (by omega),wR];unfold FK;omega) ?_
     refine gK 2 [(65,vI ↑(j+1))] [(0,p_ ⟨[],none,none,none,some (vI ↑(j+1))⟩ [(Value.int .i64 (IntKind.wrap .i64 (((j:Nat):Int)+1)))=(.int .i64 ↑(j+1))] ⟨bC (by omega) (by omega) (by omega),trivial⟩)] ?_
     refine NL ?_
     exact aj.turn ((j+1),kn) (idx:=[5,10,13,16,63,64,65]) (pk:=[0,1,2,3,4,5,6,7,8,9,10,11,12]) (show (((j+1))<=fs.length)/\(kn<=((j+1))) from ⟨by omega,by omega⟩) (by show fs.length - ((j+1)) < fs.length - j;omega) (fun _=>by kernel_rfl) rfl (by kernel_rfl)
    refine gK 9 [(77,.bool false),(81,undef)] [] ?_
    refine gK 2 [(83,.bool false)] [] ?_
    refine NN (CF (af.skip (aj.aO (NX (af.region ?_)))))
    refine ak.dV 11 (p:=.abs (aP Tryz.prog 3 m11 (eY (fs.take j)) kn)) (p':=.abs (aP Tryz.prog 3 m11 (eY (fs.take (j+1))) kn)) (by kernel_rfl) (by rw [wS (by omega),wR];unfold FK;omega) ?_
    refine gK 2 [(65,vI ↑(j+1))] [(0,p_ ⟨[],none,none,none,some (vI ↑(j+1))⟩ [(Value.int .i64 (IntKind.wrap .i64 (((j:Nat):Int)+1)))=(.int .i64 ↑(j+1))] ⟨bC (by omega) (by omega) (by omega),trivial⟩)] ?_
    refine NL ?_
    exact aj.turn ((j+1),kn) (idx:=[5,10,13,16,63,64,65]) (pk:=[0,1,2,3,4,5,6,7,8,9,10,11,12]) (show (((j+1))<=fs.length)/\(kn<=((j+1))) from ⟨by omega,by omega⟩) (by show fs.length - ((j+1)) < fs.length - j;omega) (fun _=>by kernel_rfl) rfl (by kernel_rfl)
   refine af.exit (aj.aV (aj.aV (aj.cL (NX (SR ?_)))))
   refine ak.dV 11 (p:=.abs (aP Tryz.prog 3 m11 (eY (fs.take j)) kn)) (p':=.abs (aP Tryz.prog 3 m11 (eY fs) kn)) (by kernel_rfl) (by rw [show fs.take j=fs by rw [show j=fs.length by omega,List.take_length]]) ?_
   refine gN 5 (fun b13=>[(19,vP b13)]) (fun b13=>[(1,a_ 0 b2)]) (fun _=>[]) (fun b13=>.blk b13 [.nilIface,vP f,.nilIface,vI (root),.slice none (0) (0)] 53) (fun b13=>?_)
   refine NS (gN 11 (fun b14=>[(94,vP b13),(104,.agg #[.iface 141 (vP b14),vP f,vI (root),.map (some m5),vI 0])]) (fun b14=>[(8,a_ 0 b2)]) (fun _=>[]) (fun b14=>.blk b14 [.iface 49 (vP f),.map (some m11),vI 0] 143) (fun b14=>?_))
   refine gN 5 (fun _=>[]) (fun b15=>[(4,a_ 13 b13)]) (fun b15=>[(13,[(2,.iface 140 (vP b15))])]) (fun b15=>.blk b15 [.iface 141 (vP b14),vP f,vI (root),.map (some m5),vI 0] 145) (fun b15=>?_)
   refine NS (gK 3 [(109,vP b13),(111,.iface 39 (vP b13))] [] ?_)
   refine gL [] (Uo b13) ?_
   rintro _ _ ⟨rfl,rfl⟩
   refine gC 3 [] [(2,a_ 13 b13)] [(13,[(0,.iface 39 (vP b13))])] ?_
   refine NS (gK 3 [(8,vP b13),(9,vI 0)] [] ?_)
   refine NN (af.ret (aj.mem (fun w hS=>hS.mo (e:=88) (size:=13)) ?_))
   exact aj.iz (v:=.tuple #[vP b13,vI 0]) (l:=(Wx b13 f b15 root b14 m5 m11 Z xs an fs kn++[pF f m t N.1.X,pI m L N.1.idx,pT t N.1.X.cH N.1.aD L N.1.us,pO N.1.O L,pD N.1.O L,pE N.1.O L])) (aZ:=[]) [] [13,15,14,10,11,16,1,2,3,4,5,6,12] hle0 (fun _=>by kernel_rfl) trivial rfl (by kernel_rfl) (.inr ⟨Dd oL.1 oL.2 hr C5,N,L,b13,b15,b14,f,m,t,m5,an,m11,kn,Z,rfl,rfl,hZ⟩)
  refine af.region (gK 3 [(30,.slice A (ns.length) (c)),(31,.func (.func 50) #[] #[vP b2])] [(1,a_ 7 b1)] ?_)
  refine gL [8] (Qp (β:=β) hno A c hG hB b2) ?_
  rintro _ _ ⟨rfl,rfl⟩
  refine gK 1 [(12,vI (-1))] [] ?_
  refine NN (af.seq (SR (gK 2 [(34,.bool true)] [] ?_)))
  refine NN (CT (SR (gK 2 [(8,.pointer none),(9,vI 141)] [] ?_)))
  refine NN (af.ret (aj.aq ?_))
  exact aj.iz (v:=.tuple #[.pointer none,vI 141]) (l:=[]) (aZ:=[]) [] [7] hle0 (fun _=>by kernel_rfl) trivial rfl (by kernel_rfl) (.inl ⟨by rw [AQ oL.1 oL.2 hno];decide,by rw [AQ oL.1 oL.2 hno],rfl⟩)
 refine af.region (gK 2 [(21,.agg #[.slice A (ns.length) (c)]),(22,.agg #[vI (X.cN),vI (X.cB),vI (X.cH),vI (X.cS),vI (X.cZ)])] [(0,a_ 1 b1),(1,A_ 3 b3 5)] ?_)
 refine gL [] (Qo (β:=β) (root:=root) oL A c hG hB) ?_
 rintro _ _ ⟨rfl,rfl⟩
 refine gK 5 [(10,.pointer none),(11,vI ((cU X ns root)))] [] ?_
 refine NN (af.seq (SR (gK 2 [(27,.bool (!(decide (((cU X ns root):Int)=(0:Int)))))] [] ?_)))
 refine NN (af.fI (p:=((cU X ns root):Int)=(0:Int)) (fun _=>by kernel_rfl) (fun Wy=>?_) (fun Wy=>?_))
 ·refine SR (gK 3 [(8,.pointer none),(9,vI ((cU X ns root)))] [] ?_)
  refine NN (af.ret (aj.aq ?_))
  exact aj.iz (v:=.tuple #[.pointer none,vI ((cU X ns root))]) (l:=[]) (aZ:=[]) [] [0] hle0 (fun _=>by kernel_rfl) trivial rfl (by kernel_rfl) (.inl ⟨Dl oL,rfl,rfl⟩)
 exact absurd Wy (Dl oL)
end
section
open Go.RowKit Go.Maps bq aF
attribute [local irreducible] ak aU af aj
noncomputable abbrev Wz (w)(f:Nat) (o) (root) (tA) (tr:List aB) (tC):=(.blk w [.iface 39 (vP w),vP f,.iface 140 (vP o),vI (root),.slice tA (tr.length) (tC)] 53:HP)
noncomputable abbrev Ys (o)(q)(f:Nat) (root) (am) (tr:List aB):=(.blk o [.iface 141 (vP q),vP f,vI (root),.map (some am),vI (((tr.length:Nat):Int))] 145:HP)
noncomputable abbrev Yt (q)(f:Nat) (km) (tr:List aB):=(.blk q [.iface 49 (vP f),.map (some km),vI (((tr.length:Nat):Int))] 143:HP)
noncomputable abbrev WA (am)(Z)(xs)(an):=(.abs (aP Tryz.prog 3 am (gS Z xs) an):HP)
noncomputable abbrev WB (km)(fs)(kn):=(.abs (aP Tryz.prog 3 km (eY fs) kn):HP)
noncomputable abbrev WC (tA)(tr:List aB) (tC):=(.abs (aH 88 13 tA tr.length tC (bR dr tr)):HP)
noncomputable abbrev Ru (w)(f:Nat) (o) (root) (tA) (tr) (tC) (q) (am) (km) (Z) (xs) (an) (fs) (kn) (m:Nat) (t) (S:aJ) (L:HL):=([Wz w f o root tA tr tC,Ys o q f root am tr,Yt q f km tr,WA am Z xs an,WB km fs kn,WC tA tr tC,pF f m t S.X,pI m L S.idx,xQ t S L,pO S.O L,pD S.O L,pE S.O L]:List HP)
theorem Oa {β:Bs} (S:aJ) (L:HL) (w o q f m t am an km kn:Nat) (Z:AZ) (fs:List bh) (xs:List bK) (root:Int) (tr:List aB) (tA:Option Addr) (tC:Nat)  :
    Spec Tryz.prog β 14 #[vP w] (Ru w f o root tA tr tC q am km Z xs an fs kn m t S L) (fun v l=>v=vI (S.us.length:Int)/\l=(Ru w f o root tA tr tC q am km Z xs an fs kn m t S L)):=by
 refine Spec.enter Tryz.func14 rfl Tryz.ntmps14 (Nat.le_of_ble_eq_true rfl) (fun R=>?_)
 refine SR (gK 1 [] [] ?_)
 refine NS (gK 4 [(6,vP f)] [(3,a_ 0 w)] ?_)
 refine gL [6,8] (N7 S L f m t) ?_
 rintro _ _ ⟨Ah,ch,rfl,rfl⟩
 refine gK 2 [(2,vI ↑S.us.length)] [] ?_
 refine NN (af.ret ?_)
 exact RT (vI ↑S.us.length) [3,4,5,6,7,8,0,9,1,10,11,12,13] (⟨rfl,rfl⟩)
theorem LJ {β:Bs} (S:aJ) (L:HL) (w o q f m t am an km kn:Nat) (Z:AZ) (fs:List bh) (xs:List bK) (root:Int) (tr:List aB) (tA:Option Addr) (tC:Nat) (hI:Inv S) :
    Spec Tryz.prog β 17 #[vP w] (Ru w f o root tA tr tC q am km Z xs an fs kn m t S L) (fun v l=>∃ A cp K,v=.agg #[.slice A (av S).length cp]/\l=(Ru w f o root tA tr tC q am km Z xs an fs kn m t S L)++[.abs (aH 108 10 A (av S).length cp (bP K (av S))),.abs (cW (fZ (av S) K) (av S).length),.abs (cW (gh (av S) K) (av S).length)]):=by
 refine Spec.enter Tryz.func17 rfl Tryz.ntmps17 (Nat.le_of_ble_eq_true rfl) (fun R=>?_)
 refine SR (gN 1 (fun b1=>[(2,vP b1)]) (fun _=>[]) (fun _=>[]) (fun b1=>.blk b1 [.slice none (0) (0)] 24) (fun b1=>?_))
 refine NS (gK 4 [(6,vP f)] [(3,a_ 0 w)] ?_)
 refine gL [6,7,9,10,11] (NU S L f m t hI) ?_
 rintro _ _ ⟨Ao,cp,K,rfl,rfl⟩
 refine gC 1 [] [(0,a_ 16 b1)] [(16,[(0,.slice Ao ((av S).length) (cp))])] ?_
 refine NN (af.ret ?_)
 exact aj.ret (v:=.agg #[.slice Ao ((av S).length) (cp)]) (l:=[Wz w f o root tA tr tC,.blk o [.iface 141 (vP q),vP f,vI (root),.map (some am),vI ↑tr.length] 145,.blk q [.iface 49 (vP f),.map (some km),vI ↑tr.length] 143,WA am Z xs an,WB km fs kn,WC tA tr tC,pF f m t S.X,pI m L S.idx,xQ t S L,pO S.O L,pD S.O L,pE S.O L,.abs (aH 108 10 Ao ((av S).length) cp (bP K (av S))),.abs (cW (fZ (av S) K) (av S).length),.abs (cW (gh (av S) K) (av S).length)]) (aZ:=[b1=b1]) [.at 16] [8,9,10,11,12,13,0,1,14,2,3,4,5,6,7,15] (fun _=>by kernel_rfl) ⟨rfl,trivial⟩ rfl (by kernel_rfl) (⟨Ao,cp,K,rfl,rfl⟩)
theorem xV {β:Bs} (Af:Option Addr) (cf:Nat) (fs:List bh) (hF:cM β Af (bR fU fs)) (hfl:fs.length<=2097152) (Aa:Option Addr) (ca:Nat) (xs:List bK) (hA:cM β Aa (bR gM xs)) (hxl:xs.length<=2097152) :
    Spec Tryz.prog β 27 #[.agg #[.slice Af (fs.length) (cf),.slice Aa (xs.length) (ca)]] [] (fun v l=>∃ B b C c,v=.agg #[.slice B fs.length b,.slice C xs.length c]/\l=[.abs (aH 139 2 B fs.length b (bR fU fs)),.abs (aH 136 5 C xs.length c (bR gM xs))]):=by
 refine Spec.enter Tryz.func27 rfl Tryz.ntmps27 (Nat.le_of_ble_eq_true rfl) (fun R=>?_)
 refine SR (gN 1 (fun b2=>[(1,vP b2)]) (fun _=>[]) (fun _=>[]) (fun b2=>.blk b2 [.slice Af (fs.length) (cf),.slice Aa (xs.length) (ca)] 32) (fun b2=>?_))
 refine gN 1 (fun b3=>[(2,vP b3)]) (fun _=>[]) (fun _=>[]) (fun b3=>.blk b3 [.slice none (0) (0),.slice none (0) (0)] 32) (fun b3=>?_)
 refine NS (gN 2 (fun b4=>[(3,.slice (some ⟨b4,0,none⟩) (0) (0))]) (fun _=>[]) (fun _=>[]) (fun b4=>.blk b4 [] 139) (fun b4=>?_))
 refine NS (ak.mem (fun w hS=>hS.og (i:=3) (b:=b4) (cs:=[]) (e:=139) 2 0 (by kernel_rfl) rfl (by decide)) ?_)
 refine gK 3 [(6,.slice (some ⟨b4,0,none⟩) (0) (0)),(8,.slice Af (fs.length) (cf))] [(2,a_ 1 b2)] ?_
 refine ak.append 3 (d:=(some 9)) (t:=29) (e:=139) (z:=.agg #[vI 0,vI 0]) (size:=2) (bytes:=16) (n:=0) (cap:=0) (A:=some ⟨b4,0,none⟩) (xs:=[]) (s:=(.tmp 6)) (x:=(.tmp 8)) (ats:=#[29,29]) (A':=Af) (m:=fs.length) (c':=cf) (news:=(bR fU fs)) (fun _=>by kernel_rfl) rfl (by kernel_rfl) (fun _=>by kernel_rfl) (fun _=>by kernel_rfl) Tryz.underlying29 (by kernel_rfl) rfl (by decide) (EX (f:=fU) (s:=2) (fun _=>rfl) _) (uo (Lf) _ _) (hF.src) (by unfold maxLen;omega) (by omega) (fun A5 c6=>?_)
 refine ak.dV 3 (p:=.abs (aH 139 2 A5 (0+fs.length) c6 ([]++(bR fU fs)))) (p':=.abs (aH 139 2 A5 fs.length c6 (bR fU fs))) (by kernel_rfl) (by rw [Nat.zero_add,List.nil_append]) ?_
 refine ak.slot 9 (.slice A5 (0+fs.length) (c6)) (.slice A5 (fs.length) (c6)) (fun _=>by kernel_rfl) (by rw [Nat.zero_add]) ?_
 refine gK 1 [(3,.slice A5 (fs.length) (c6))] [] ?_
 refine NS (gN 2 (fun b7=>[(4,.slice (some ⟨b7,0,none⟩) (0) (0))]) (fun _=>[]) (fun _=>[]) (fun b7=>.blk b7 [] 136) (fun b7=>?_))
 refine NS (ak.mem (fun w hS=>hS.og (i:=4) (b:=b7) (cs:=[]) (e:=136) 5 0 (by kernel_rfl) rfl (by decide)) ?_)
 refine gK 3 [(11,.slice (some ⟨b7,0,none⟩) (0) (0)),(13,.slice Aa (xs.length) (ca))] [(2,a_ 1 b2)] ?_
 refine ak.append 4 (d:=(some 14)) (t:=30) (e:=136) (z:=.agg #[vI 0,vI 0,.string ⟨#[]⟩,.string ⟨#[]⟩,.string ⟨#[]⟩]) (size:=5) (bytes:=64) (n:=0) (cap:=0) (A:=some ⟨b7,0,none⟩) (xs:=[]) (s:=(.tmp 11)) (x:=(.tmp 13)) (ats:=#[30,30]) (A':=Aa) (m:=xs.length) (c':=ca) (news:=(bR gM xs)) (fun _=>by kernel_rfl) rfl (by kernel_rfl) (fun _=>by kernel_rfl) (fun _=>by kernel_rfl) Tryz.underlying30 (by kernel_rfl) rfl (by decide) (EX (f:=gM) (s:=5) (fun _=>rfl) _) (uo (PY) _ _) (hA.src) (by unfold maxLen;omega) (by omega) (fun A8 c9=>?_)
 refine ak.dV 4 (p:=.abs (aH 136 5 A8 (0+xs.length) c9 ([]++(bR gM xs)))) (p':=.abs (aH 136 5 A8 xs.length c9 (bR gM xs))) (by kernel_rfl) (by rw [Nat.zero_add,List.nil_append]) ?_
 refine ak.slot 14 (.slice A8 (0+xs.length) (c9)) (.slice A8 (xs.length) (c9)) (fun _=>by kernel_rfl) (by rw [Nat.zero_add]) ?_
 refine gK 1 [(4,.slice A8 (xs.length) (c9))] [] ?_
 refine NS (gC 4 [] [(3,A_ 2 b3 2)] [(2,[(0,.slice A5 (fs.length) (c6)),(1,.slice A8 (xs.length) (c9))])] ?_)
 refine NN (af.ret ?_)
 exact aj.ret (v:=.agg #[.slice A5 (fs.length) (c6),.slice A8 (xs.length) (c9)]) (l:=[.abs (aH 139 2 A5 fs.length c6 (bR fU fs)),.abs (aH 136 5 A8 xs.length c9 (bR gM xs))]) (aZ:=[b3=b3,b3=b3]) [.at 2,.at 2] [3,4,0] (fun _=>by kernel_rfl) ⟨rfl,rfl,trivial⟩ rfl (by kernel_rfl) (⟨A5,c6,A8,c9,rfl,rfl⟩)
end
section
open Go.RowKit Go.Maps bq aF
attribute [local irreducible] ak aU af aj
noncomputable abbrev lS (km)(fs)(kn):=(.abs (aP Tryz.prog 3 km (eY fs) kn):HP)
noncomputable abbrev vU (q)(f:Nat) (km) (n):=(.blk q [.iface 49 (vP f),.map (some km),vI ↑(n+1)] 143:HP)
noncomputable abbrev WD (S:aJ) (c:aB):=([(6,vI ((bI S { c with data:=c.data.take (c.data.length / 2) }).2.mode)),(7,vI ((bI S { c with data:=c.data.take (c.data.length / 2) }).2.uid)),(8,vI ((bI S { c with data:=c.data.take (c.data.length / 2) }).2.gid)),(9,vI ((bI S { c with data:=c.data.take (c.data.length / 2) }).2.sec)),(10,vI ((bI S { c with data:=c.data.take (c.data.length / 2) }).2.nano)),(11,vI ((bI S { c with data:=c.data.take (c.data.length / 2) }).2.code)),(12,vI ((bI S { c with data:=c.data.take (c.data.length / 2) }).2.answer))]:Fr)
noncomputable abbrev WE (c):=([(0,vI ((cK c 180).op)),(1,vI ((cK c 180).handle)),(2,vI ((cK c 180).other)),(3,.string (cK c 180).name),(4,.string (cK c 180).text),(5,.slice (cK c 180).dA ((cK c 180).data.length) ((cK c 180).dC)),(6,vI ((cK c 180).mode)),(7,vI ((cK c 180).uid)),(8,vI ((cK c 180).gid)),(9,vI ((cK c 180).sec)),(10,vI ((cK c 180).nano)),(11,vI ((cK c 180).code)),(12,vI ((cK c 180).answer))]:Fr)
noncomputable abbrev WH (S:aJ) (c:aB):=([(0,vI ((bI S { c with data:=c.data.take (c.data.length / 2) }).2.op)),(1,vI ((bI S { c with data:=c.data.take (c.data.length / 2) }).2.handle)),(2,vI ((bI S { c with data:=c.data.take (c.data.length / 2) }).2.other)),(3,.string (bI S { c with data:=c.data.take (c.data.length / 2) }).2.name),(4,.string (bI S { c with data:=c.data.take (c.data.length / 2) }).2.text)]:Fr)
noncomputable abbrev AU (b3:Nat) (b4:Nat):=([(3,vP b3),(4,vP b4)]:Fr)
noncomputable abbrev o6 (f:Nat) (m:Nat) (t) (S:aJ) (L:HL):=([pF f m t S.X,pI m L S.idx,xQ t S L,pO S.O L,pD S.O L,pE S.O L]:List HP)
noncomputable abbrev Uz (c:aB):=([(3,.string c.name),(4,.string c.text),(5,.slice c.dA (c.data.length) (c.dC))]:Fr)
noncomputable abbrev WI (f:Nat) (m:Nat) (t) (S:aJ) (c) (L2:HL):=([pF f m t ((bI S c).1.X),pI m L2 (bI S c).1.idx,pT t (bI S c).1.X.cH ((bI S c).1.aD) L2 ((bI S c).1.us),pO ((bI S c).1.O) L2,pD ((bI S c).1.O) L2,pE ((bI S c).1.O) L2]:List HP)
theorem zw {β:Bs} (c:aB) (e:Int) :
    Spec Tryz.prog β 242 #[.agg ⟨dr c⟩,vI (e)] [] (fun v l=>v=.agg ⟨dr (cK c e)⟩/\l=[]):=by
 refine Spec.enter Tryz.func242 rfl Tryz.ntmps242 (Nat.le_of_ble_eq_true rfl) (fun R=>?_)
 refine SR (gN 1 (fun b1=>[(2,vP b1)]) (fun _=>[]) (fun _=>[]) (fun b1=>pC b1 c) (fun b1=>?_))
 refine gN 1 (fun b2=>[(4,vP b2)]) (fun _=>[]) (fun _=>[]) (fun b2=>.blk b2 [vI 0,vI 0,vI 0,.string ⟨#[]⟩,.string ⟨#[]⟩,.slice none (0) (0),vI 0,vI 0,vI 0,vI 0,vI 0,vI 0,vI 0] 88) (fun b2=>?_)
 refine NN (af.seq (SR (gK 4 [(8,.bool (decide ((c.op:Int)=(11:Int))))] [(1,a_ 1 b1)] ?_)))
 refine ak.iE 8 ((c.op:Int)=(11:Int)) (fun _=>by kernel_rfl) (fun h8=>?_) (fun h8=>?_)
 ·refine gK 4 [(12,.bool true)] [] ?_
  refine NN (CT (af.region (gC 12 [] [(1,a_ 1 b1),(3,a_ 1 b1),(5,a_ 1 b1),(7,a_ 1 b1),(9,a_ 1 b1),(11,A_ 1 b1 13)] [(1,(Eo++[(11,vI 0),(12,vI 0)]))] ?_)))
  refine NS (gC 5 [] [(2,a_ 1 b1),(4,a_ 1 b1)] [(1,[(11,vI (e))])] ?_)
  refine NS (gC 2 [] [(0,A_ 1 b1 13),(1,A_ 2 b2 13)] [(2,([(0,vI (c.op)),(1,vI (c.handle))]++Uz c++[(11,vI (e))]))] ?_)
  refine NN (af.ret ?_)
  exact aj.ret (v:=.agg ⟨dr { c with other:=0,mode:=0,uid:=0,gid:=0,sec:=0,nano:=0,code:=e,answer:=0 }⟩) (l:=[]) (aZ:=[b2=b2,b2=b2,b2=b2,b2=b2,b2=b2,b2=b2,b2=b2,b2=b2,b2=b2,b2=b2,b2=b2,b2=b2,b2=b2]) [.at 2,.at 2,.at 2,.at 2,.at 2,.at 2,.at 2,.at 2,.at 2,.at 2,.at 2,.at 2,.at 2] [0] (fun _=>by kernel_rfl) ⟨rfl,rfl,rfl,rfl,rfl,rfl,rfl,rfl,rfl,rfl,rfl,rfl,rfl,trivial⟩ rfl (by kernel_rfl) (⟨congrArg (fun x=>Value.agg ⟨dr x⟩) (Eq.symm (if_pos (by omega):cK c e=_)),rfl⟩)
 refine gK 4 [(12,.bool (decide ((c.op:Int)=(12:Int))))] [(1,a_ 1 b1)] ?_
 refine NN (af.aW (p:=(c.op:Int)=(12:Int)) (fun _=>by kernel_rfl) (fun h12=>?_) (fun h12=>?_))
 ·refine af.region (gC 12 [] [(1,a_ 1 b1),(3,a_ 1 b1),(5,a_ 1 b1),(7,a_ 1 b1),(9,a_ 1 b1),(11,A_ 1 b1 13)] [(1,(Eo++[(11,vI 0),(12,vI 0)]))] ?_)
  refine NS (gC 5 [] [(2,a_ 1 b1),(4,a_ 1 b1)] [(1,[(11,vI (e))])] ?_)
  refine NS (gC 2 [] [(0,A_ 1 b1 13),(1,A_ 2 b2 13)] [(2,([(0,vI (c.op)),(1,vI (c.handle))]++Uz c++[(11,vI (e))]))] ?_)
  refine NN (af.ret ?_)
  exact aj.ret (v:=.agg ⟨dr { c with other:=0,mode:=0,uid:=0,gid:=0,sec:=0,nano:=0,code:=e,answer:=0 }⟩) (l:=[]) (aZ:=[b2=b2,b2=b2,b2=b2,b2=b2,b2=b2,b2=b2,b2=b2,b2=b2,b2=b2,b2=b2,b2=b2,b2=b2,b2=b2]) [.at 2,.at 2,.at 2,.at 2,.at 2,.at 2,.at 2,.at 2,.at 2,.at 2,.at 2,.at 2,.at 2] [0] (fun _=>by kernel_rfl) ⟨rfl,rfl,rfl,rfl,rfl,rfl,rfl,rfl,rfl,rfl,rfl,rfl,rfl,trivial⟩ rfl (by kernel_rfl) (⟨congrArg (fun x=>Value.agg ⟨dr x⟩) (Eq.symm (if_pos (by omega):cK c e=_)),rfl⟩)
 refine af.skip (NX (SR (gC 5 [] [(2,a_ 1 b1),(4,a_ 1 b1)] [(1,[(11,vI (e)),(12,vI 0)])] ?_)))
 refine NS (gC 2 [] [(0,A_ 1 b1 13),(1,A_ 2 b2 13)] [(2,([(0,vI (c.op)),(1,vI (c.handle)),(2,vI (c.other))]++Uz c++[(6,vI (c.mode)),(7,vI (c.uid)),(8,vI (c.gid)),(9,vI (c.sec)),(10,vI (c.nano)),(11,vI (e))]))] ?_)
 refine NN (af.ret ?_)
 exact aj.ret (v:=.agg ⟨dr { c with code:=e,answer:=0 }⟩) (l:=[]) (aZ:=[b2=b2,b2=b2,b2=b2,b2=b2,b2=b2,b2=b2,b2=b2,b2=b2,b2=b2,b2=b2,b2=b2,b2=b2,b2=b2]) [.at 2,.at 2,.at 2,.at 2,.at 2,.at 2,.at 2,.at 2,.at 2,.at 2,.at 2,.at 2,.at 2] [0] (fun _=>by kernel_rfl) ⟨rfl,rfl,rfl,rfl,rfl,rfl,rfl,rfl,rfl,rfl,rfl,rfl,rfl,trivial⟩ rfl (by kernel_rfl) (⟨congrArg (fun x=>Value.agg ⟨dr x⟩) (Eq.symm (if_neg (by omega):cK c e=_)),rfl⟩)
theorem UA {β:Bs} (S:aJ) (L:HL) (q f m t km kn n:Nat) (fs:List bh) (hI:Inv S) (hn:n<=8388608) (k:Int) (hk:iY fs ((n+1:Nat):Int)=k) (c:aB) (hC:lg β c) :
    Spec Tryz.prog β 241 #[vP q,.agg ⟨dr c⟩] ([.blk q [.iface 49 (vP f),.map (some km),vI (((n:Nat):Int))] 143,lS km fs kn]++o6 f m t S L) (fun v l=>∃ L2,v=.agg ⟨dr (bE k S c).2⟩/\l=[.blk q [.iface 49 (vP f),.map (some km),vI ((((n+1):Nat):Int))] 143,lS km fs kn,pF f m t ((bE k S c).1.X),pI m L2 (bE k S c).1.idx,pT t (bE k S c).1.X.cH ((bE k S c).1.aD) L2 ((bE k S c).1.us),pO ((bE k S c).1.O) L2,pD ((bE k S c).1.O) L2,pE ((bE k S c).1.O) L2]):=by
 have hdl:=hC.dl
 have hdc:=hC.dc
 refine Spec.enter Tryz.func241 rfl Tryz.ntmps241 (Nat.le_of_ble_eq_true rfl) (fun R=>?_)
 refine SR (gN 1 (fun b3=>[(3,vP b3)]) (fun _=>[]) (fun _=>[]) (fun b3=>pC b3 c) (fun b3=>?_))
 refine gN 1 (fun b4=>[(4,vP b4)]) (fun _=>[]) (fun _=>[]) (fun b4=>.blk b4 [vI 0,vI 0,vI 0,.string ⟨#[]⟩,.string ⟨#[]⟩,.slice none (0) (0),vI 0,vI 0,vI 0,vI 0,vI 0,vI 0,vI 0] 88) (fun b4=>?_)
 refine NS (gC 8 [] [(3,a_ 0 q),(4,p_ ⟨[],none,none,none,some (vI ↑(n+1))⟩ [(Value.int .i64 (IntKind.wrap .i64 (((n:Nat):Int)+1)))=(.int .i64 ↑(n+1))] ⟨bC (by omega) (by omega) (by omega),trivial⟩),(7,a_ 0 q)] [(0,[(2,vI ↑(n+1))])] ?_)
 refine NN (af.join (ι:=Unit) (fun (u:Unit)=>(¬ k=1)/\(¬ (k=2/\(c.op=4\/c.op=5\/c.op=6\/c.op=7\/c.op=9)))/\(¬ (k=3/\c.op=9/\2<=c.data.length))) (fun (u:Unit)=>([(0,vP q)]++AU b3 b4)) (fun (u:Unit)=>([vU q f km n,lS km fs kn]++o6 f m t S L++[.abs R,pC b3 c,rS b4])) ?_ ?_)
 ·rintro u ⟨oO,hj2,hj3⟩
  show af _ _ _ _ ([(0,vP q)]++AU b3 b4) ([vU q f km n,lS km fs kn]++o6 f m t S L++[.abs R,pC b3 c,rS b4]) _
  refine af.seq (af.ck (S:=[vU q f km n,pC b3 c]) [0,1,2,3,4,5,6] 5 [0,9] (by kernel_rfl) (by kernel_rfl) rfl (by kernel_rfl) ?_)
  refine gR 0 [5,6] [(4,vP b4),(78,.iface 49 (vP f)),(79,.agg ⟨dr c⟩)] [0,1,2,3,4] [(3,a_ 0 q),(4,A_ 1 b3 13)] ?_
  refine mL [6,9] [2,3,4,5,6,7] (HX S L f m t hI c hC) ?_ (by rintro _ _ ⟨L2,rfl,rfl⟩;rfl)
  rintro _ _ ⟨L2,rfl,rfl⟩
  refine aQ.last rfl rfl ?_
  refine gC 1 [] [(0,A_ 10 b4 13)] [(10,[(0,vI ((bI S c).2.op)),(1,vI ((bI S c).2.handle)),(2,vI ((bI S c).2.other)),(3,.string (bI S c).2.name),(4,.string (bI S c).2.text),(5,.slice (bI S c).2.dA ((bI S c).2.data.length) ((bI S c).2.dC)),(6,vI ((bI S c).2.mode)),(7,vI ((bI S c).2.uid)),(8,vI ((bI S c).2.gid)),(9,vI ((bI S c).2.sec)),(10,vI ((bI S c).2.nano)),(11,vI ((bI S c).2.code)),(12,vI ((bI S c).2.answer))])] ?_
  refine NL (aj.np (NX (af.ret ?_)))
  exact aj.ret (v:=.agg ⟨dr ((bI S c).2)⟩) (l:=([vU q f km n,lS km fs kn]++WI f m t S c L2)) (aZ:=[b4=b4,b4=b4,b4=b4,b4=b4,b4=b4,b4=b4,b4=b4,b4=b4,b4=b4,b4=b4,b4=b4,b4=b4,b4=b4]) [.at 10,.at 10,.at 10,.at 10,.at 10,.at 10,.at 10,.at 10,.at 10,.at 10,.at 10,.at 10,.at 10] [6,7,0,1,2,3,4,5,8] (fun _=>by kernel_rfl) ⟨rfl,rfl,rfl,rfl,rfl,rfl,rfl,rfl,rfl,rfl,rfl,rfl,rfl,trivial⟩ rfl (by kernel_rfl) (⟨L2,by rw [show bE k S c=((bI S c).1,(bI S c).2) by unfold bE;rw [if_neg oO,if_neg hj2,if_neg hj3]]<;>exact⟨rfl,rfl⟩⟩)
 refine af.seq (af.eM (by kernel_rfl) (by kernel_rfl) ?_)
 refine gQ 8 [(16,.map (some km)),(20,vI ↑(n+1))] [(3,a_ 0 q),(7,a_ 0 q)] ?_
 refine aU.dW 1 (d:=(some 21)) (t:=137) (K:=3) (E:=3) (b:=km) (n:=kn) (f:=(eY fs)) (x:=(.tmp 16)) (ix:=(.tmp 20)) (key:=.int .i64 ↑(n+1)) (z:=.int .i64 0) (kl:=(.int .i64 ((n+1:Nat):Int))) (r:=(eY fs (.int .i64 ((n+1:Nat):Int)))) (fun _=>by kernel_rfl) (by kernel_rfl) (fun _=>by kernel_rfl) (fun _=>by kernel_rfl) dZ Tryz.underlying137 (fun _=>by kernel_rfl) (iR (Nn (by omega))) (rfl) ?_
 refine NQ (NX (af.block (SR ?_)))
 refine ak.slot 21 (((eY fs (.int .i64 ((n+1:Nat):Int))).getD (.int .i64 0))) (.int .i64 (k)) (fun _=>by kernel_rfl) (EY.trans (congrArg (Value.int .i64) hk)) ?_
 refine gK 2 [(22,.bool (decide ((k:Int)=(1:Int))))] [] ?_
 refine NN (af.aW (p:=(k:Int)=(1:Int)) (fun _=>by kernel_rfl) (fun Dh=>?_) (fun Dh=>?_))
 ·refine af.seq (SR (gK 3 [(26,.bool (decide ((c.op:Int)=(13:Int))))] [(1,a_ 9 b3)] ?_))
  refine NN (af.aW (p:=(c.op:Int)=(13:Int)) (fun _=>by kernel_rfl) (fun pN=>?_) (fun pN=>?_))
  ·refine af.ck (S:=[vU q f km n,pC b3 c]) [0,1,2,3,4,5] 5 [0,9] (by kernel_rfl) (by kernel_rfl) rfl (by kernel_rfl) ?_
   refine gR 0 [5] (AU b3 b4++[(30,.iface 49 (vP f)),(31,.agg ⟨dr c⟩)]) [0,1,2,3,4] [(3,a_ 0 q),(4,A_ 1 b3 13)] ?_
   refine aQ.last rfl rfl ?_
   refine gL [2,3,4,5,6,7] (HX S L f m t hI c hC) ?_
   rintro _ _ ⟨L2,rfl,rfl⟩
   refine NL (aj.np (NX (SR ?_)))
   refine gK 1 [(33,.agg ⟨dr c⟩)] [(0,A_ 9 b3 13)] ?_
   refine gL [] (zw c 180) ?_
   rintro _ _ ⟨rfl,rfl⟩
   refine gC 1 [] [(0,A_ 10 b4 13)] [(10,(WE c))] ?_
   refine NN (af.ret (aj.aK (aj.aq ?_)))
   exact aj.ret (v:=.agg ⟨dr (cK c 180)⟩) (l:=([vU q f km n,lS km fs kn]++WI f m t S c L2)) (aZ:=[b4=b4,b4=b4,b4=b4,b4=b4,b4=b4,b4=b4,b4=b4,b4=b4,b4=b4,b4=b4,b4=b4,b4=b4,b4=b4]) [.at 10,.at 10,.at 10,.at 10,.at 10,.at 10,.at 10,.at 10,.at 10,.at 10,.at 10,.at 10,.at 10] [6,7,0,1,2,3,4,5,8] (fun _=>by kernel_rfl) ⟨rfl,rfl,rfl,rfl,rfl,rfl,rfl,rfl,rfl,rfl,rfl,rfl,rfl,trivial⟩ rfl (by kernel_rfl) (⟨L2,by rw [show bE k S c=((bI S c).1,cK c 180) by unfold bE;rw [if_pos Dh,if_pos pN]]<;>exact⟨rfl,rfl⟩⟩)
  refine af.skip (NX (SR (gK 1 [(33,.agg ⟨dr c⟩)] [(0,A_ 9 b3 13)] ?_)))
  refine gL [] (zw c 180) ?_
  rintro _ _ ⟨rfl,rfl⟩
  refine gC 1 [] [(0,A_ 10 b4 13)] [(10,(WE c))] ?_
  refine NN (af.ret (aj.aK (aj.aq ?_)))
  exact aj.ret (v:=.agg ⟨dr (cK c 180)⟩) (l:=([vU q f km n,lS km fs kn]++o6 f m t S L)) (aZ:=[b4=b4,b4=b4,b4=b4,b4=b4,b4=b4,b4=b4,b4=b4,b4=b4,b4=b4,b4=b4,b4=b4,b4=b4,b4=b4]) [.at 10,.at 10,.at 10,.at 10,.at 10,.at 10,.at 10,.at 10,.at 10,.at 10,.at 10,.at 10,.at 10] [0,1,2,3,4,5,6,7,8] (fun _=>by kernel_rfl) ⟨rfl,rfl,rfl,rfl,rfl,rfl,rfl,rfl,rfl,rfl,rfl,rfl,rfl,trivial⟩ rfl (by kernel_rfl) (⟨L,by rw [show bE k S c=(S,cK c 180) by unfold bE;rw [if_pos Dh,if_neg pN]]<;>exact⟨rfl,rfl⟩⟩)
 refine SR (gK 2 [(35,.bool (decide ((k:Int)=(2:Int))))] [] ?_)
 refine NN (af.aW (p:=(k:Int)=(2:Int)) (fun _=>by kernel_rfl) (fun uW=>?_) (fun uW=>?_))
 ·refine SR (gK 2 [(38,vI (c.op))] [(1,a_ 9 b3)] ?_)
  refine NN (af.block ?_)
  refine af.join (ι:=Bool) (fun (fl:Bool)=>(fl=true↔(c.op=4\/c.op=5\/c.op=6\/c.op=7\/c.op=9))) (fun (fl:Bool)=>([(0,vP q)]++AU b3 b4++[(39,.bool fl)])) (fun (fl:Bool)=>([vU q f km n,lS km fs kn]++o6 f m t S L++[.abs R,pC b3 c,rS b4])) ?_ ?_
  ·rintro fl hfl
   show af _ _ _ _ ([(0,vP q)]++AU b3 b4++[(39,.bool fl)]) ([vU q f km n,lS km fs kn]++o6 f m t S L++[.abs R,pC b3 c,rS b4]) _
   refine af.cond (b:=fl) (fun _=>by kernel_rfl) (fun iV=>?_) (fun iV=>?_)
   ·refine SR (gK 1 [(45,.agg ⟨dr c⟩)] [(0,A_ 9 b3 13)] ?_)
    refine gL [] (zw c 176) ?_
    rintro _ _ ⟨rfl,rfl⟩
    refine gC 1 [] [(0,A_ 10 b4 13)] [(10,[(0,vI ((cK c 176).op)),(1,vI ((cK c 176).handle)),(2,vI ((cK c 176).other)),(3,.string (cK c 176).name),(4,.string (cK c 176).text),(5,.slice (cK c 176).dA ((cK c 176).data.length) ((cK c 176).dC)),(6,vI ((cK c 176).mode)),(7,vI ((cK c 176).uid)),(8,vI ((cK c 176).gid)),(9,vI ((cK c 176).sec)),(10,vI ((cK c 176).nano)),(11,vI ((cK c 176).code)),(12,vI ((cK c 176).answer))])] ?_
    refine NN (af.ret (aj.aK (aj.aK (aj.aq ?_))))
    exact aj.ret (v:=.agg ⟨dr (cK c 176)⟩) (l:=([vU q f km n,lS km fs kn]++o6 f m t S L)) (aZ:=[b4=b4,b4=b4,b4=b4,b4=b4,b4=b4,b4=b4,b4=b4,b4=b4,b4=b4,b4=b4,b4=b4,b4=b4,b4=b4]) [.at 10,.at 10,.at 10,.at 10,.at 10,.at 10,.at 10,.at 10,.at 10,.at 10,.at 10,.at 10,.at 10] [0,1,2,3,4,5,6,7,8] (fun _=>by kernel_rfl) ⟨rfl,rfl,rfl,rfl,rfl,rfl,rfl,rfl,rfl,rfl,rfl,rfl,rfl,trivial⟩ rfl (by kernel_rfl) (⟨L,by rw [show bE k S c=(S,cK c 176) by unfold bE;rw [if_neg (by omega),if_pos ⟨uW,hfl.1 iV⟩]]<;>exact⟨rfl,rfl⟩⟩)
   refine af.skip (aj.aO (aj.aO ?_))
   exact aj.meet () (idx:=[0,3,4]) (pk:=[0,1,2,3,4,5,6,7,8,9,10]) (show (¬ k=1)/\(¬ (k=2/\(c.op=4\/c.op=5\/c.op=6\/c.op=7\/c.op=9)))/\(¬ (k=3/\c.op=9/\2<=c.data.length)) from ⟨Dh,fun h=>absurd (iV.symm.trans (hfl.2 h.2)) (by decide),fun h=>by omega⟩) (fun _=>by kernel_rfl) rfl (by kernel_rfl)
  refine SR (gK 2 [(39,.bool (decide ((c.op:Int)=(4:Int))))] [] ?_)
  refine NN (af.aW (p:=(c.op:Int)=(4:Int)) (fun _=>by kernel_rfl) (fun iV=>?_) (fun iV=>?_))
  ·refine af.skip (aj.slot 39 (.bool (decide ((c.op:Int)=(4:Int)))) (.bool true) (fun _=>by kernel_rfl) (congrArg Value.bool (decide_eq_true iV)) ?_)
   exact aj.meet true (idx:=[0,3,4,39]) (pk:=[0,1,2,3,4,5,6,7,8,9,10]) (show (true=true↔(c.op=4\/c.op=5\/c.op=6\/c.op=7\/c.op=9)) from ⟨fun _=>by omega,fun _=>rfl⟩) (fun _=>by kernel_rfl) rfl (by kernel_rfl)
  refine SR (gK 2 [(39,.bool (decide ((c.op:Int)=(5:Int))))] [] ?_)
  refine NN (af.aW (p:=(c.op:Int)=(5:Int)) (fun _=>by kernel_rfl) (fun iV=>?_) (fun iV=>?_))
  ·refine af.skip (aj.slot 39 (.bool (decide ((c.op:Int)=(5:Int)))) (.bool true) (fun _=>by kernel_rfl) (congrArg Value.bool (decide_eq_true iV)) ?_)
   exact aj.meet true (idx:=[0,3,4,39]) (pk:=[0,1,2,3,4,5,6,7,8,9,10]) (show (true=true↔(c.op=4\/c.op=5\/c.op=6\/c.op=7\/c.op=9)) from ⟨fun _=>by omega,fun _=>rfl⟩) (fun _=>by kernel_rfl) rfl (by kernel_rfl)
  refine SR (gK 2 [(39,.bool (decide ((c.op:Int)=(6:Int))))] [] ?_)
  refine NN (af.aW (p:=(c.op:Int)=(6:Int)) (fun _=>by kernel_rfl) (fun iV=>?_) (fun iV=>?_))
  ·refine af.skip (aj.slot 39 (.bool (decide ((c.op:Int)=(6:Int)))) (.bool true) (fun _=>by kernel_rfl) (congrArg Value.bool (decide_eq_true iV)) ?_)
   exact aj.meet true (idx:=[0,3,4,39]) (pk:=[0,1,2,3,4,5,6,7,8,9,10]) (show (true=true↔(c.op=4\/c.op=5\/c.op=6\/c.op=7\/c.op=9)) from ⟨fun _=>by omega,fun _=>rfl⟩) (fun _=>by kernel_rfl) rfl (by kernel_rfl)
  refine SR (gK 2 [(39,.bool (decide ((c.op:Int)=(7:Int))))] [] ?_)
  refine NN (af.aW (p:=(c.op:Int)=(7:Int)) (fun _=>by kernel_rfl) (fun iV=>?_) (fun iV=>?_))
  ·refine af.skip (aj.slot 39 (.bool (decide ((c.op:Int)=(7:Int)))) (.bool true) (fun _=>by kernel_rfl) (congrArg Value.bool (decide_eq_true iV)) ?_)
   exact aj.meet true (idx:=[0,3,4,39]) (pk:=[0,1,2,3,4,5,6,7,8,9,10]) (show (true=true↔(c.op=4\/c.op=5\/c.op=6\/c.op=7\/c.op=9)) from ⟨fun _=>by omega,fun _=>rfl⟩) (fun _=>by kernel_rfl) rfl (by kernel_rfl)
  refine af.region (gK 2 [(39,.bool (decide ((c.op:Int)=(9:Int))))] [] ?_)
  refine NL ?_
  exact aj.meet ((decide (c.op=9))) (idx:=[0,3,4,39]) (pk:=[0,1,2,3,4,5,6,7,8,9,10]) (show (((decide (c.op=9)))=true↔(c.op=4\/c.op=5\/c.op=6\/c.op=7\/c.op=9)) from ⟨fun h=>by have:=of_decide_eq_true h;omega,fun h=>decide_eq_true (by omega)⟩) (fun _=>by kernel_rfl) rfl (by kernel_rfl)
 refine SR (gK 2 [(47,.bool (decide ((k:Int)=(3:Int))))] [] ?_)
 refine NN (af.aW (p:=(k:Int)=(3:Int)) (fun _=>by kernel_rfl) (fun Rt=>?_) (fun Rt=>?_))
 ·refine SR (gK 4 [(52,.bool (decide ((c.op:Int)=(9:Int))))] [(1,a_ 9 b3)] ?_)
  refine ak.iE 52 ((c.op:Int)=(9:Int)) (fun _=>by kernel_rfl) (fun Mu=>?_) (fun Mu=>?_)
  ·refine gK 5 [(57,.bool (decide ((((c.data.length:Nat):Int):Int) ≥ (2:Int))))] [(1,a_ 9 b3)] ?_
   refine NN (af.aW (p:=(((c.data.length:Nat):Int):Int) ≥ (2:Int)) (fun _=>by kernel_rfl) (fun Yu=>?_) (fun Yu=>?_))
   ·refine SR (gK 3 [(5,.slice c.dA (c.data.length) (c.dC))] [(1,a_ 9 b3)] ?_)
    refine NS (gK 5 [(64,.slice c.dA ((c.data.length / 2)) (c.dC))] [(3,p_ ⟨[],none,none,none,some (vI ↑(c.data.length / 2))⟩ [(Value.int .i64 (IntKind.wrap .i64 (Int.tdiv ((c.data.length:Nat):Int) 2)))=(.int .i64 ↑(c.data.length / 2))] ⟨bC (Int.ofNat_tdiv _ _).symm (by omega) (by omega),trivial⟩),(4,p_ ⟨[],some (c.data.length / 2),none,none,none⟩ [((c.data.length / 2:Nat):Int)=(((c.data.length / 2):Nat):Int),(c.data.length / 2)<=c.dC] ⟨rfl,by omega,trivial⟩)] ?_)
    refine ak.slot 64 (.slice c.dA ((c.data.length / 2)) (c.dC)) (.slice c.dA ((c.data.take (c.data.length / 2)).length) (c.dC)) (fun _=>by kernel_rfl) (by rw [List.length_take,Nat.min_eq_left (by omega)]) ?_
    refine gC 2 [] [(1,a_ 9 b3)] [(9,[(5,.slice c.dA ((c.data.take (c.data.length / 2)).length) (c.dC))])] ?_
    refine NN (af.seq (af.ck (S:=[vU q f km n,.blk b3 [vI (c.op),vI (c.handle),vI (c.other),.string c.name,.string c.text,.slice c.dA ((c.data.take (c.data.length / 2)).length) (c.dC),vI (c.mode),vI (c.uid),vI (c.gid),vI (c.sec),vI (c.nano),vI (c.code),vI (c.answer)] 88]) [0,1,2,3,4,5,6] 5 [0,9] (by kernel_rfl) (by kernel_rfl) rfl (by kernel_rfl) ?_))
    refine gR 0 [5,6] (AU b3 b4++[(5,.slice c.dA (c.data.length) (c.dC)),(69,.iface 49 (vP f)),(70,.agg #[vI (c.op),vI (c.handle),vI (c.other),.string c.name,.string c.text,.slice c.dA ((c.data.take (c.data.length / 2)).length) (c.dC),vI (c.mode),vI (c.uid),vI (c.gid),vI (c.sec),vI (c.nano),vI (c.code),vI (c.answer)])]) [0,1,2,3,4] [(3,a_ 0 q),(4,A_ 1 b3 13)] ?_
    refine mL [6,9] [2,3,4,5,6,7] (HX S L f m t hI { c with data:=c.data.take (c.data.length / 2) } (Jl hC)) ?_ (by rintro _ _ ⟨L2,rfl,rfl⟩;rfl)
    rintro _ _ ⟨L2,rfl,rfl⟩
    refine aQ.last rfl rfl ?_
    refine gC 1 [] [(0,A_ 9 b3 13)] [(9,(WH S c++[(5,.slice (bI S { c with data:=c.data.take (c.data.length / 2) }).2.dA ((bI S { c with data:=c.data.take (c.data.length / 2) }).2.data.length) ((bI S { c with data:=c.data.take (c.data.length / 2) }).2.dC))]++WD S c))] ?_
    refine NL (aj.np (NX (SR ?_)))
    refine gC 3 [] [(2,a_ 9 b3)] [(9,[(5,.slice c.dA (c.data.length) (c.dC))])] ?_
    refine NS (gC 2 [] [(0,A_ 9 b3 13),(1,A_ 10 b4 13)] [(10,(WH S c++[(5,.slice c.dA (c.data.length) (c.dC))]++WD S c))] ?_)
    refine NN (af.ret (aj.aK (aj.aq ?_)))
    exact aj.ret (v:=.agg #[vI ((bI S { c with data:=c.data.take (c.data.length / 2) }).2.op),vI ((bI S { c with data:=c.data.take (c.data.length / 2) }).2.handle),vI ((bI S { c with data:=c.data.take (c.data.length / 2) }).2.other),.string (bI S { c with data:=c.data.take (c.data.length / 2) }).2.name,.string (bI S { c with data:=c.data.take (c.data.length / 2) }).2.text,.slice c.dA (c.data.length) (c.dC),vI ((bI S { c with data:=c.data.take (c.data.length / 2) }).2.mode),vI ((bI S { c with data:=c.data.take (c.data.length / 2) }).2.uid),vI ((bI S { c with data:=c.data.take (c.data.length / 2) }).2.gid),vI ((bI S { c with data:=c.data.take (c.data.length / 2) }).2.sec),vI ((bI S { c with data:=c.data.take (c.data.length / 2) }).2.nano),vI ((bI S { c with data:=c.data.take (c.data.length / 2) }).2.code),vI ((bI S { c with data:=c.data.take (c.data.length / 2) }).2.answer)]) (l:=[vU q f km n,lS km fs kn,pF f m t ((bI S { c with data:=c.data.take (c.data.length / 2) }).1.X),pI m L2 (bI S { c with data:=c.data.take (c.data.length / 2) }).1.idx,pT t (bI S { c with data:=c.data.take (c.data.length / 2) }).1.X.cH ((bI S { c with data:=c.data.take (c.data.length / 2) }).1.aD) L2 ((bI S { c with data:=c.data.take (c.data.length / 2) }).1.us),pO ((bI S { c with data:=c.data.take (c.data.length / 2) }).1.O) L2,pD ((bI S { c with data:=c.data.take (c.data.length / 2) }).1.O) L2,pE ((bI S { c with data:=c.data.take (c.data.length / 2) }).1.O) L2]) (aZ:=[b4=b4,b4=b4,b4=b4,b4=b4,b4=b4,b4=b4,b4=b4,b4=b4,b4=b4,b4=b4,b4=b4,b4=b4,b4=b4]) [.at 10,.at 10,.at 10,.at 10,.at 10,.at 10,.at 10,.at 10,.at 10,.at 10,.at 10,.at 10,.at 10] [6,7,0,1,2,3,4,5,8] (fun _=>by kernel_rfl) ⟨rfl,rfl,rfl,rfl,rfl,rfl,rfl,rfl,rfl,rfl,rfl,rfl,rfl,trivial⟩ rfl (by kernel_rfl) (⟨L2,by rw [show bE k S c=((bI S { c with data:=c.data.take (c.data.length / 2) }).1,{ (bI S { c with data:=c.data.take (c.data.length / 2) }).2 with dA:=c.dA,dC:=c.dC,data:=c.data }) by unfold bE;rw [if_neg (by omega),if_neg (by omega),if_pos ⟨Rt,by omega,by omega⟩]]<;>exact⟨rfl,rfl⟩⟩)
   refine af.skip (aj.aO ?_)
   exact aj.meet () (idx:=[0,3,4]) (pk:=[0,1,2,3,4,5,6,7,8,9,10]) (show (¬ k=1)/\(¬ (k=2/\(c.op=4\/c.op=5\/c.op=6\/c.op=7\/c.op=9)))/\(¬ (k=3/\c.op=9/\2<=c.data.length)) from ⟨Dh,fun h=>uW h.1,fun h=>by omega⟩) (fun _=>by kernel_rfl) rfl (by kernel_rfl)
  refine gK 5 [(57,.bool false)] [] ?_
  refine NN (CF (af.skip (aj.aO ?_)))
  exact aj.meet () (idx:=[0,3,4]) (pk:=[0,1,2,3,4,5,6,7,8,9,10]) (show (¬ k=1)/\(¬ (k=2/\(c.op=4\/c.op=5\/c.op=6\/c.op=7\/c.op=9)))/\(¬ (k=3/\c.op=9/\2<=c.data.length)) from ⟨Dh,fun h=>uW h.1,fun h=>by omega⟩) (fun _=>by kernel_rfl) rfl (by kernel_rfl)
 refine af.skip (aj.aO ?_)
 exact aj.meet () (idx:=[0,3,4]) (pk:=[0,1,2,3,4,5,6,7,8,9,10]) (show (¬ k=1)/\(¬ (k=2/\(c.op=4\/c.op=5\/c.op=6\/c.op=7\/c.op=9)))/\(¬ (k=3/\c.op=9/\2<=c.data.length)) from ⟨Dh,fun h=>uW h.1,fun h=>by omega⟩) (fun _=>by kernel_rfl) rfl (by kernel_rfl)
end
section
open Go.RowKit Go.Maps bq aF
attribute [local irreducible] ak aU af aj
theorem Ag {β:Bs} (S:aJ) (L:HL) (f:Nat) (hI:Inv S) (d:Nat) (hd:Live S.idx ⟨d,2⟩) (path:ByteArray) (hsz:path.size<=1048576) (hg:dQ β) :
    Spec Tryz.prog β 230 #[vP f,vP (L.b d),.string path] [.abs (aG (bS S.O L)),.abs (aG (cY S.O L))] (fun v l=>v=BO L (jP S.O d path)/\l=[.abs (aG (bS S.O L)),.abs (aG (cY S.O L))]):=by
 have hkd:(obj S.O d).kind=2:=hI.kind hd
 obtain⟨ps,hps⟩:∃ ps,ps=jG path:=⟨_,rfl⟩
 have hpl:1<=ps.length/\ps.length<=1048577:=by rw [hps,C8];have:=ze path;omega
 have Ob:∀ q,q < ps.length->(pc ps q).size<=1048576:=fun q hq=>Nat.le_trans (Jp (hps ▸ NC hq)) hsz
 refine Spec.enter Tryz.func230 rfl Tryz.ntmps230 (Nat.le_of_ble_eq_true rfl) (fun R=>?_)
 refine SR (gK 3 [] [] ?_)
 refine NS (gK 1 [(19,.string path)] [] ?_)
 refine gL [] (NA hg path hsz hps) ?_
 rintro _ _ ⟨b1,rfl,rfl⟩
 refine gK 1 [(9,.slice (some ⟨b1,0,none⟩) (ps.length) (ps.length))] [] ?_
 refine NN (af.seq (SR (gK 3 [(21,.slice (some ⟨b1,0,none⟩) (ps.length) (ps.length)),(22,vI ↑ps.length),(23,vI 0)] [] ?_)))
 refine NN (af.block ?_)
 refine af.loop (ι:=Nat) (fun (j:Nat)=>(j<=ps.length)/\(∀ q,q < j->bD (pc ps q))) (fun (j:Nat)=>ps.length - j) (fun (j:Nat)=>[(1,vP (L.b d)),(9,.slice (some ⟨b1,0,none⟩) (ps.length) (ps.length)),(21,.slice (some ⟨b1,0,none⟩) (ps.length) (ps.length)),(22,vI ↑ps.length),(23,vI ↑j)]) (fun (j:Nat)=>[pO S.O L,pE S.O L,.abs (aH 9 1 (some ⟨b1,0,none⟩) ps.length ps.length (gZ ps)),.abs R]) 0 (idx:=[1,9,21,22,23]) (pk:=[1,2,0,3]) (show (0<=ps.length)/\(∀ q,q < 0->bD (pc ps q)) from ⟨Nat.zero_le _,fun q h=>absurd h (Nat.not_lt_zero q)⟩) (fun _=>by kernel_rfl) rfl (by kernel_rfl) ?_
 rintro j ⟨hj,hgd⟩
 show af _ _ _ _ [(1,vP (L.b d)),(9,.slice (some ⟨b1,0,none⟩) (ps.length) (ps.length)),(21,.slice (some ⟨b1,0,none⟩) (ps.length) (ps.length)),(22,vI ↑ps.length),(23,vI ↑j)] [pO S.O L,pE S.O L,.abs (aH 9 1 (some ⟨b1,0,none⟩) ps.length ps.length (gZ ps)),.abs R] _
 refine SR (gK 1 [(24,.bool (decide ((((j:Nat):Int):Int) < (((ps.length:Nat):Int):Int))))] [] ?_)
 refine NN (af.seq (af.aW (p:=(((j:Nat):Int):Int) < (((ps.length:Nat):Int):Int)) (fun _=>by kernel_rfl) (fun C6=>?_) (fun C6=>?_)))
 ·refine af.skip (NX (af.seq (af.block (SR ?_))))
  refine gK 3 [(11,.string (pc ps j))] [(0,p_ ⟨[],some j,none,none,some (.pointer (some ⟨b1,j,none⟩))⟩ [(Value.pointer (some ⟨b1,0+j * 1,none⟩))=(.pointer (some ⟨b1,j,none⟩)),((j:Nat):Int)=((j:Nat):Int),j < ps.length,(⟨b1,0,none⟩:Addr).spot=none] ⟨by simp,rfl,by omega,rfl,trivial⟩),(1,p_ ⟨[.view 2 (.string (pc ps j))],none,none,none,none⟩ [(∀ F w,(aH 9 1 (some ⟨b1,0,none⟩) ps.length ps.length (gZ ps)).h F w->w.cell? ⟨b1,j,none⟩=some (.string (pc ps j)))] ⟨aH.cell (wV (by omega)),trivial⟩)] ?_
  refine NS (gK 1 [(27,.string (pc ps j))] [] ?_)
  refine gL [] (tD (pc ps j) (by have:=Ob j (by omega);omega)) ?_
  rintro _ _ ⟨rfl,rfl⟩
  refine gK 1 [(29,.bool (!(decide (bD (pc ps j)))))] [] ?_
  refine NN (af.fI (p:=bD (pc ps j)) (fun _=>by kernel_rfl) (fun Oc=>?_) (fun Oc=>?_))
  ·refine SR (gK 3 [(6,.pointer none),(7,.string ⟨#[]⟩),(8,vI 95)] [] ?_)
   refine NN (af.ret (aj.aK (aj.aq (aj.aq (aj.aK (aj.aq ?_))))))
   exact RT (l:=[.abs (aG (bS S.O L)),.abs (aG (cY S.O L))]) (.tuple #[.pointer none,.string ⟨#[]⟩,vI 95]) [0,1,3] (⟨congrArg (BO L) (Eq.symm (show jP S.O d path=.error 95 from if_neg (fun h=>Oc (Ht.1 (hps ▸ h) j (by omega))))),rfl⟩)
  refine af.skip (aj.aO (NX (af.region ?_)))
  refine gK 2 [(23,vI ↑(j+1))] [(0,p_ ⟨[],none,none,none,some (vI ↑(j+1))⟩ [(Value.int .i64 (IntKind.wrap .i64 (((j:Nat):Int)+1)))=(.int .i64 ↑(j+1))] ⟨bC (by omega) (by omega) (by omega),trivial⟩)] ?_
  refine NL ?_
  exact aj.turn ((j+1)) (idx:=[1,9,21,22,23]) (pk:=[0,1,2,3]) (show (((j+1))<=ps.length)/\(∀ q,q < ((j+1))->bD (pc ps q)) from ⟨by omega,fun q hq=>(Nat.lt_succ_iff_lt_or_eq.1 hq).elim (hgd q) (fun e=>e ▸ Oc)⟩) (by show ps.length - ((j+1)) < ps.length - j;omega) (fun _=>by kernel_rfl) rfl (by kernel_rfl)
 refine af.exit (aj.aV (aj.aV (aj.cL (NX (SR ?_)))))
 have hall:∀ p∈ps,bD p:=Ht.2 (fun q hq=>hgd q (by omega))
 refine gK 4 [(12,vI ↑(ps.length - 1))] [(2,p_ ⟨[],none,none,none,some (vI ↑(ps.length - 1))⟩ [(Value.int .i64 (IntKind.wrap .i64 (((ps.length:Nat):Int) - 1)))=(.int .i64 ↑(ps.length - 1))] ⟨bC (by omega) (by omega) (by omega),trivial⟩)] ?_
 refine NN (af.seq (SR (gK 5 [(36,.slice (some ⟨b1,0,none⟩) ((ps.length - 1)) (ps.length)),(37,vI ↑(ps.length - 1)),(38,vI 0)] [(2,p_ ⟨[],some (ps.length - 1),none,none,none⟩ [(((ps.length - 1):Nat):Int)=(((ps.length - 1):Nat):Int),(ps.length - 1)<=ps.length] ⟨rfl,by omega,trivial⟩)] ?_)))
 refine NN (af.block ?_)
 refine af.loop (ι:=Nat×Nat) (fun ((j,e):Nat×Nat)=>(j<=ps.length - 1)/\(Live S.idx ⟨e,2⟩)/\(kA S.O d ps=kA S.O e (ps.drop j))) (fun ((j,e):Nat×Nat)=>ps.length - 1 - j) (fun ((j,e):Nat×Nat)=>[(1,vP (L.b e)),(9,.slice (some ⟨b1,0,none⟩) (ps.length) (ps.length)),(12,vI ↑(ps.length - 1)),(36,.slice (some ⟨b1,0,none⟩) ((ps.length - 1)) (ps.length)),(37,vI ↑(ps.length - 1)),(38,vI ↑j)]) (fun ((j,e):Nat×Nat)=>[pO S.O L,pE S.O L,.abs (aH 9 1 (some ⟨b1,0,none⟩) ps.length ps.length (gZ ps)),.abs R]) (0,d) (idx:=[1,9,12,36,37,38]) (pk:=[0,1,2,3]) (show (0<=ps.length - 1)/\(Live S.idx ⟨d,2⟩)/\(kA S.O d ps=kA S.O d (ps.drop 0)) from ⟨Nat.zero_le _,hd,by rw [List.drop_zero]⟩) (fun _=>by kernel_rfl) rfl (by kernel_rfl) ?_
 rintro⟨j,e⟩ ⟨hj,hle,hw⟩
 show af _ _ _ _ [(1,vP (L.b e)),(9,.slice (some ⟨b1,0,none⟩) (ps.length) (ps.length)),(12,vI ↑(ps.length - 1)),(36,.slice (some ⟨b1,0,none⟩) ((ps.length - 1)) (ps.length)),(37,vI ↑(ps.length - 1)),(38,vI ↑j)] [pO S.O L,pE S.O L,.abs (aH 9 1 (some ⟨b1,0,none⟩) ps.length ps.length (gZ ps)),.abs R] _
 have hke:(obj S.O e).kind=2:=hI.kind hle
 refine SR (gK 1 [(39,.bool (decide ((((j:Nat):Int):Int) < ((((ps.length - 1):Nat):Int):Int))))] [] ?_)
 refine NN (af.seq (af.aW (p:=(((j:Nat):Int):Int) < ((((ps.length - 1):Nat):Int):Int)) (fun _=>by kernel_rfl) (fun iV=>?_) (fun iV=>?_)))
 ·have pX:(pc ps j).size<=1048576:=Ob j (by omega)
  have hee:(obj S.O e).ah.length<=8192:=hI.iT hle
  refine af.skip (NX (af.seq (af.block (SR ?_))))
  refine gK 3 [(14,.string (pc ps j))] [(0,p_ ⟨[],some j,none,none,some (.pointer (some ⟨b1,j,none⟩))⟩ [(Value.pointer (some ⟨b1,0+j * 1,none⟩))=(.pointer (some ⟨b1,j,none⟩)),((j:Nat):Int)=((j:Nat):Int),j < (ps.length - 1),(⟨b1,0,none⟩:Addr).spot=none] ⟨by simp,rfl,by omega,rfl,trivial⟩),(1,p_ ⟨[.view 2 (.string (pc ps j))],none,none,none,none⟩ [(∀ F w,(aH 9 1 (some ⟨b1,0,none⟩) ps.length ps.length (gZ ps)).h F w->w.cell? ⟨b1,j,none⟩=some (.string (pc ps j)))] ⟨aH.cell (wV (by omega)),trivial⟩)] ?_
  refine NN (af.seq ?_)
  rcases hI.pR hle (pc ps j) with hlk|⟨tk,hlk,hlv⟩|⟨tk,hlk,hlv⟩|⟨tk,hlk,hlv⟩
  ·refine af.region (gK 5 [(45,.map (some (L.m e))),(46,.string (pc ps j))] [(3,v_ 0 (bQ L hke))] ?_)
   refine jg 1 hke hlk ?_
   refine NN (af.block (SR ?_))
   refine gK 1 [(48,.bool true)] [] ?_
   refine NN (CT (SR (gK 1 [] [] ?_)))
   refine NS (gK 3 [(6,.pointer none),(7,.string ⟨#[]⟩),(8,vI 170)] [] ?_)
   refine NN (af.ret (aj.aK (aj.aK (aj.aq (aj.aq (aj.aK (aj.aq ?_)))))))
   exact RT (l:=[.abs (aG (bS S.O L)),.abs (aG (cY S.O L))]) (.tuple #[.pointer none,.string ⟨#[]⟩,vI 170]) [0,1,3] (⟨congrArg (BO L) (Eq.symm (show jP S.O d path=.error 170 from (show jP S.O d path=kA S.O d ps by unfold jP;rw [← hps];exact if_pos hall).trans (hw.trans ((uO (by omega)).trans (by rw [hlk]<;>rfl))))),rfl⟩)
  ·have hkt:(obj S.O tk).kind=1:=hI.kind hlv
   refine af.region (gK 5 [(45,.map (some (L.m e))),(46,.string (pc ps j))] [(3,v_ 0 (bQ L hke))] ?_)
   refine jg 1 hke hlk ?_
   refine NN (af.block (SR ?_))
   refine gK 1 [(48,.bool false)] [] ?_
   refine NN (CF (SR (gK 3 [(50,.bool false),(51,.pointer none)] [] ?_)))
   refine NN (CF (SR (gK 3 [(53,.bool true),(54,vP (L.b tk))] [] ?_)))
   refine NN (CT (SR (gK 1 [] [] ?_)))
   refine NS (gK 3 [(6,.pointer none),(7,.string ⟨#[]⟩),(8,vI 173)] [] ?_)
   refine NN (af.ret (aj.aK (aj.aK (aj.aq (aj.aq (aj.aK (aj.aq ?_)))))))
   exact RT (l:=[.abs (aG (bS S.O L)),.abs (aG (cY S.O L))]) (.tuple #[.pointer none,.string ⟨#[]⟩,vI 173]) [0,1,3] (⟨congrArg (BO L) (Eq.symm (show jP S.O d path=.error 173 from (show jP S.O d path=kA S.O d ps by unfold jP;rw [← hps];exact if_pos hall).trans (hw.trans ((uO (by omega)).trans (by rw [hlk]<;>rfl))))),rfl⟩)
  ·have hkt:(obj S.O tk).kind=2:=hI.kind hlv
   refine af.region (gK 5 [(45,.map (some (L.m e))),(46,.string (pc ps j))] [(3,v_ 0 (bQ L hke))] ?_)
   refine jg 1 hke hlk ?_
   refine NN (af.block (SR ?_))
   refine gK 1 [(48,.bool false)] [] ?_
   refine NN (CF (SR (gK 3 [(50,.bool false),(51,.pointer none)] [] ?_)))
   refine NN (CF (SR (gK 3 [(53,.bool false),(54,.pointer none)] [] ?_)))
   refine NN (CF (SR (gK 3 [(56,.bool true),(57,vP (L.b tk))] [] ?_)))
   refine NN (CT (SR (gK 1 [(18,vP (L.b tk))] [] ?_)))
   refine NN (af.region (gK 2 [(1,vP (L.b tk))] [] ?_))
   refine NL (aj.aO (aj.aO (NX (af.region ?_))))
   refine gK 2 [(38,vI ↑(j+1))] [(0,p_ ⟨[],none,none,none,some (vI ↑(j+1))⟩ [(Value.int .i64 (IntKind.wrap .i64 (((j:Nat):Int)+1)))=(.int .i64 ↑(j+1))] ⟨bC (by omega) (by omega) (by omega),trivial⟩)] ?_
   refine NL ?_
   exact aj.turn ((j+1),tk) (idx:=[1,9,12,36,37,38]) (pk:=[0,1,2,3]) (show (((j+1))<=ps.length - 1)/\(Live S.idx ⟨tk,2⟩)/\(kA S.O d ps=kA S.O tk (ps.drop ((j+1)))) from ⟨by omega,hlv,hw.trans ((uO (by omega)).trans (by rw [hlk]<;>rfl))⟩) (by show ps.length - 1 - ((j+1)) < ps.length - 1 - j;omega) (fun _=>by kernel_rfl) rfl (by kernel_rfl)
  have hkt:(obj S.O tk).kind=3:=hI.kind hlv
  refine af.region (gK 5 [(45,.map (some (L.m e))),(46,.string (pc ps j))] [(3,v_ 0 (bQ L hke))] ?_)
  refine jg 1 hke hlk ?_
  refine NN (af.block (SR ?_))
  refine gK 1 [(48,.bool false)] [] ?_
  refine NN (CF (SR (gK 3 [(50,.bool true),(51,vP (L.b tk))] [] ?_)))
  refine NN (CT (SR (gK 1 [] [] ?_)))
  refine NS (gK 3 [(6,.pointer none),(7,.string ⟨#[]⟩),(8,vI 174)] [] ?_)
  refine NN (af.ret (aj.aK (aj.aK (aj.aq (aj.aq (aj.aK (aj.aq ?_)))))))
  exact RT (l:=[.abs (aG (bS S.O L)),.abs (aG (cY S.O L))]) (.tuple #[.pointer none,.string ⟨#[]⟩,vI 174]) [0,1,3] (⟨congrArg (BO L) (Eq.symm (show jP S.O d path=.error 174 from (show jP S.O d path=kA S.O d ps by unfold jP;rw [← hps];exact if_pos hall).trans (hw.trans ((uO (by omega)).trans (by rw [hlk]<;>rfl))))),rfl⟩)
 have ej:j=ps.length - 1:=by omega
 refine af.exit (aj.aV (aj.aV (aj.cL (NX (af.seq (SR ?_))))))
 refine gK 5 [(64,.bool (obj S.O e).gone)] [(4,v_ 0 (rN L hke))] ?_
 refine NN (af.cond (b:=(obj S.O e).gone) (fun _=>by kernel_rfl) (fun UB=>?_) (fun UB=>?_))
 ·refine SR (gK 3 [(6,.pointer none),(7,.string ⟨#[]⟩),(8,vI 170)] [] ?_)
  refine NN (af.ret (aj.aq ?_))
  exact RT (l:=[.abs (aG (bS S.O L)),.abs (aG (cY S.O L))]) (.tuple #[.pointer none,.string ⟨#[]⟩,vI 170]) [0,1,3] (⟨congrArg (BO L) (Eq.symm ((show jP S.O d path=kA S.O d ps by unfold jP;rw [← hps];exact if_pos hall).trans (hw.trans ((E5 (by omega)).trans (if_pos UB))))),rfl⟩)
 refine af.skip (NX (af.seq (af.eM (by kernel_rfl) (by kernel_rfl) ?_)))
 refine gQ 8 [(6,vP (L.b e)),(7,.string (pc ps (ps.length - 1))),(8,vI 0)] [(3,p_ ⟨[],some (ps.length - 1),none,none,some (.pointer (some ⟨b1,(ps.length - 1),none⟩))⟩ [(Value.pointer (some ⟨b1,0+(ps.length - 1) * 1,none⟩))=(.pointer (some ⟨b1,(ps.length - 1),none⟩)),(((ps.length - 1):Nat):Int)=(((ps.length - 1):Nat):Int),(ps.length - 1) < ps.length,(⟨b1,0,none⟩:Addr).spot=none] ⟨by simp,rfl,by omega,rfl,trivial⟩),(4,p_ ⟨[.view 2 (.string (pc ps (ps.length - 1)))],none,none,none,none⟩ [(∀ F w,(aH 9 1 (some ⟨b1,0,none⟩) ps.length ps.length (gZ ps)).h F w->w.cell? ⟨b1,(ps.length - 1),none⟩=some (.string (pc ps (ps.length - 1))))] ⟨aH.cell (wV (by omega)),trivial⟩)] ?_
 refine NQ (NX (af.ret ?_))
 exact RT (l:=[.abs (aG (bS S.O L)),.abs (aG (cY S.O L))]) (.tuple #[vP (L.b e),.string (pc ps (ps.length - 1)),vI 0]) [0,1,3] (⟨by rw [← ej];exact congrArg (BO L) (Eq.symm (show jP S.O d path=.ok (e,pc ps j) from (show jP S.O d path=kA S.O d ps by unfold jP;rw [← hps];exact if_pos hall).trans (hw.trans ((E5 (by omega)).trans (if_neg (by rw [UB];exact Bool.false_ne_true)))))),rfl⟩)
end
section
open Go.RowKit Go.Maps bq aF
attribute [local irreducible] ak aU af aj
theorem Sw {β:Bs} (S:aJ) (L:HL) (f m t:Nat) (hI:Inv S) (root:Int) (hrw:(Lit.int .i64 root).wf=true) (a:bK) (Ob:a.path.size<=1048576) (Ri:a.to.size<=1048576) (hxz:a.text.size<=1048576) (hg:dQ β) :
    Spec Tryz.prog β 229 #[vP f,vI (root),.agg #[vI (a.at_),vI (a.op),.string a.path,.string a.to,.string a.text]] [.blk f [vI (S.X.cN),vI (S.X.cB),vI (S.X.cH),vI (S.X.cS),vI (S.X.cZ),.map (some m),vP t,vI (S.X.last),vI (S.X.ah),vI (S.X.used)] 154,.abs (aP Tryz.prog 3 m (bA (bH L S.idx)) S.idx.length),.abs (dx 212 t S.X.cH S.aD (bH L S.us)),.abs (aG (bS S.O L)),.abs (aG (cg S.O L)),.abs (aG (cY S.O L))] (fun v l=>∃ L2,v=vI (cI S root a).1/\l=[.blk f [vI ((cI S root a).2.X.cN),vI ((cI S root a).2.X.cB),vI ((cI S root a).2.X.cH),vI ((cI S root a).2.X.cS),vI ((cI S root a).2.X.cZ),.map (some m),vP t,vI ((cI S root a).2.X.last),vI ((cI S root a).2.X.ah),vI ((cI S root a).2.X.used)] 154,.abs (aP Tryz.prog 3 m (bA (bH L2 (cI S root a).2.idx)) ((cI S root a).2.idx.length)),.abs (dx 212 t (cI S root a).2.X.cH ((cI S root a).2.aD) (bH L2 ((cI S root a).2.us))),.abs (aG (bS ((cI S root a).2.O) L2)),.abs (aG (cg ((cI S root a).2.O) L2)),.abs (aG (cY ((cI S root a).2.O) L2))]):=by
 have hX:=hI.hX
 refine Spec.enter Tryz.func229 rfl Tryz.ntmps229 (Nat.le_of_ble_eq_true rfl) (fun R=>?_)
 refine SR (gN 2 (fun b1=>[(5,vP b1)]) (fun _=>[]) (fun _=>[]) (fun b1=>.blk b1 [vI (a.at_),vI (a.op),.string a.path,.string a.to,.string a.text] 136) (fun b1=>?_))
 refine NN (af.seq (SR (gK 4 [(25,.bool (decide ((a.op:Int) < (1:Int))))] [(1,a_ 7 b1)] ?_)))
 refine ak.iE 25 ((a.op:Int) < (1:Int)) (fun _=>by kernel_rfl) (fun xH=>?_) (fun xH=>?_)
 ·refine gK 4 [(29,.bool true)] [] ?_
  refine NN (CT (SR (gK 1 [(6,vI 230)] [] ?_)))
  refine NN (af.ret (aj.aq ?_))
  exact RT (vI 230) [0,1,2,3,4,5,6] (⟨L,by rw [show (cI S root a)=(230,S) by unfold cI;exact if_pos (by omega)]<;>exact⟨rfl,rfl⟩⟩)
 refine gK 4 [(29,.bool (decide ((a.op:Int) > (7:Int))))] [(1,a_ 7 b1)] ?_
 refine NN (af.aW (p:=(a.op:Int) > (7:Int)) (fun _=>by kernel_rfl) (fun Oc=>?_) (fun Oc=>?_))
 ·refine SR (gK 1 [(6,vI 230)] [] ?_)
  refine NN (af.ret (aj.aq ?_))
  exact RT (vI 230) [0,1,2,3,4,5,6] (⟨L,by rw [show (cI S root a)=(230,S) by unfold cI;exact if_pos (by omega)]<;>exact⟨rfl,rfl⟩⟩)
 refine af.skip (NX (af.seq ?_))
 rcases hI.TB root with hix|⟨tk,hix,hlv⟩|⟨tk,hix,hlv⟩|⟨tk,hix,hlv⟩
 ·refine af.region (gK 5 [(33,.map (some m)),(34,vI (root))] [(3,a_ 0 f)] ?_)
  refine ak.dW 1 (d:=(some 35)) (t:=151) (K:=3) (E:=156) (b:=m) (n:=S.idx.length) (f:=(bA (bH L S.idx))) (x:=(.tmp 33)) (ix:=(.tmp 34)) (key:=.int .i64 (root)) (z:=.nilIface) (kl:=(.int .i64 root)) (r:=none) (fun _=>by kernel_rfl) (by kernel_rfl) (fun _=>by kernel_rfl) (fun _=>by kernel_rfl) dZ Tryz.underlying151 (fun _=>by kernel_rfl) (iR hrw) (by rw [fV,hix];rfl) ?_
  refine gK 1 [(7,.nilIface)] [] ?_
  refine NN (af.seq (SR (gK 2 [(37,.bool true)] [] ?_)))
  refine NN (CT (SR (gK 1 [(6,vI 141)] [] ?_)))
  refine NN (af.ret (aj.aq ?_))
  exact RT (vI 141) [0,1,2,3,4,5,6] (⟨L,by rw [show (cI S root a)=(141,S) by unfold cI;rw [if_neg (by omega),hix]]<;>exact⟨rfl,rfl⟩⟩)
 ·have hkt:(obj S.O tk).kind=1:=hI.kind hlv
  refine af.region (gK 5 [(33,.map (some m)),(34,vI (root))] [(3,a_ 0 f)] ?_)
  refine ak.dW 1 (d:=(some 35)) (t:=151) (K:=3) (E:=156) (b:=m) (n:=S.idx.length) (f:=(bA (bH L S.idx))) (x:=(.tmp 33)) (ix:=(.tmp 34)) (key:=.int .i64 (root)) (z:=.nilIface) (kl:=(.int .i64 root)) (r:=(some (eu L ⟨tk,1⟩))) (fun _=>by kernel_rfl) (by kernel_rfl) (fun _=>by kernel_rfl) (fun _=>by kernel_rfl) dZ Tryz.underlying151 (fun _=>by kernel_rfl) (iR hrw) (by rw [fV,hix];rfl) ?_
  refine gK 1 [(7,.iface 162 (vP (L.b tk)))] [] ?_
  refine NN (af.seq (SR (gK 2 [(37,.bool false)] [] ?_)))
  refine NN (CF (af.skip (NX (SR (gK 7 [(8,.pointer none),(9,.bool false)] [] ?_)))))
  refine NN (af.seq (SR (gK 2 [(44,.bool true)] [] ?_)))
  refine NN (CT (SR (gK 1 [(6,vI 173)] [] ?_)))
  refine NN (af.ret (aj.aq ?_))
  exact RT (vI 173) [0,1,2,3,4,5,6] (⟨L,by rw [show (cI S root a)=(173,S) by unfold cI;rw [if_neg (by omega),hix];simp only;exact if_neg (by simp)]<;>exact⟨rfl,rfl⟩⟩)
 ·have hkt:(obj S.O tk).kind=2:=hI.kind hlv
  refine af.region (gK 5 [(33,.map (some m)),(34,vI (root))] [(3,a_ 0 f)] ?_)
  refine ak.dW 1 (d:=(some 35)) (t:=151) (K:=3) (E:=156) (b:=m) (n:=S.idx.length) (f:=(bA (bH L S.idx))) (x:=(.tmp 33)) (ix:=(.tmp 34)) (key:=.int .i64 (root)) (z:=.nilIface) (kl:=(.int .i64 root)) (r:=(some (eu L ⟨tk,2⟩))) (fun _=>by kernel_rfl) (by kernel_rfl) (fun _=>by kernel_rfl) (fun _=>by kernel_rfl) dZ Tryz.underlying151 (fun _=>by kernel_rfl) (iR hrw) (by rw [fV,hix];rfl) ?_
  refine gK 1 [(7,.iface 169 (vP (L.b tk)))] [] ?_
  refine NN (af.seq (SR (gK 2 [(37,.bool false)] [] ?_)))
  refine NN (CF (af.skip (NX (SR (gK 7 [(8,vP (L.b tk)),(9,.bool true)] [] ?_)))))
  refine NN (af.seq (SR (gK 2 [(44,.bool false)] [] ?_)))
  refine NN (CF (af.skip (NX (SR (gK 4 [(46,vP f),(47,vP (L.b tk)),(49,.string a.path)] [(3,a_ 7 b1)] ?_)))))
  rcases E4 hI hlv a.path with ⟨e,j6,hne⟩|⟨d,name,j6,hd,ko,hgn⟩
  ·refine gL (f:=230) (args:=#[vP f,vP (L.b tk),.string a.path]) (pre:=[.abs (aG (bS S.O L)),.abs (aG (cY S.O L))]) [3,5] ((by have h:=Ag (β:=β) S L f hI tk hlv a.path Ob hg;rw [j6] at h;exact h)) ?_
   rintro _ _ ⟨rfl,rfl⟩
   refine gK 7 [(10,.pointer none),(11,.string ⟨#[]⟩),(12,vI (e))] [] ?_
   refine NN (af.seq (SR (gK 2 [(55,.bool (!(decide ((e:Int)=(0:Int)))))] [] ?_)))
   refine NN (af.fI (p:=(e:Int)=(0:Int)) (fun _=>by kernel_rfl) (fun WJ=>?_) (fun WJ=>?_))
   ·refine SR (gK 2 [(6,vI (e))] [] ?_)
    refine NN (af.ret (aj.aq ?_))
    exact RT (vI (e)) [2,3,4,0,5,1,6] (⟨L,by rw [show (cI S root a)=(e,S) by unfold cI;rw [if_neg (by omega),hix];simp only;rw [if_pos trivial,j6]]<;>exact⟨rfl,rfl⟩⟩)
   exact absurd WJ hne
  have hkd:(obj S.O d).kind=2:=hI.kind hd
  have hsz:name.size<=1048576:=E0 hgn
  refine gL (f:=230) (args:=#[vP f,vP (L.b tk),.string a.path]) (pre:=[.abs (aG (bS S.O L)),.abs (aG (cY S.O L))]) [3,5] ((by have h:=Ag (β:=β) S L f hI tk hlv a.path Ob hg;rw [j6] at h;exact h)) ?_
  rintro _ _ ⟨rfl,rfl⟩
  refine gK 7 [(10,vP (L.b d)),(11,.string name),(12,vI 0)] [] ?_
  refine NN (af.seq (SR (gK 2 [(55,.bool false)] [] ?_)))
  refine NN (CF (af.skip (NX (af.seq (SR (gK 2 [(58,vI (a.op))] [(1,a_ 7 b1)] ?_))))))
  refine NN (af.block (SR ?_))
  refine gK 2 [(59,.bool (decide ((a.op:Int)=(1:Int))))] [] ?_
  refine NN (af.aW (p:=(a.op:Int)=(1:Int)) (fun _=>by kernel_rfl) (fun Yv=>?_) (fun Yv=>?_))
  ·refine af.seq (SR (gK 3 [(61,vP f),(62,vP (L.b d)),(63,.string name)] [] ?_))
   refine gL [2,3,1,0] (za S L f m t hI d hd name hsz) ?_
   rintro _ _ ⟨rfl,rfl⟩
   refine gK 1 [(12,vI ((cQ S.X S.O S.idx d name)))] [] ?_
   refine NS (gK 2 [(66,.bool (!(decide (((cQ S.X S.O S.idx d name):Int)=(0:Int)))))] [] ?_)
   refine NN (af.fI (p:=((cQ S.X S.O S.idx d name):Int)=(0:Int)) (fun _=>by kernel_rfl) (fun h0=>?_) (fun h0=>?_))
   ·refine SR (gK 2 [(6,vI ((cQ S.X S.O S.idx d name)))] [] ?_)
    refine NN (af.ret (aj.aq (aj.aK (aj.aq ?_))))
    exact RT (vI ((cQ S.X S.O S.idx d name))) [0,1,4,3,5,2,6] (⟨L,by rw [show (cI S root a)=(cQ S.X S.O S.idx d name,S) by unfold cI;rw [if_neg (by omega),hix];simp only;rw [if_pos trivial,j6];simp only;unfold mD;rw [if_pos (by omega)];unfold rJ;exact if_neg h0]<;>exact⟨rfl,rfl⟩⟩)
   have hno:=rF h0
   refine af.skip (NX (SR (gK 1 [(68,vP f)] [] ?_)))
   refine gL [0] (y6 S.X f m t hX 420) ?_
   rintro _ _ ⟨rfl,rfl⟩
   refine gN 2 (fun b2=>[(71,vP b2)]) (fun _=>[]) (fun _=>[]) (fun b2=>.blk b2 [vI (S.X.last+1),vI (420),vI 0,vI 0,vI (S.X.cS),vI (S.X.cZ),vI 0,vI 0,.bool false,.slice none (0) (0)] 165) (fun b2=>?_)
   obtain⟨L2,hL2⟩:∃ L2:HL,L2=L.put (bJ S.X) b2 0 none 0:=⟨_,rfl⟩
   have hfr:=hI.toInv0.fresh
   refine ak.mem (dm:=[.abs (aG (bS (aN S.O (bJ S.X) (fun _=>(bg S.X 1 420))) L2)),.blk f [vI (S.X.cN),vI (S.X.cB),vI (S.X.cH),vI (S.X.cS),vI (S.X.cZ),.map (some m),vP t,vI (S.X.last+1),vI (S.X.ah),vI (S.X.used)] 154,.abs (aP Tryz.prog 3 m (bA (bH L S.idx)) S.idx.length),.abs (aG (cY S.O L)),.abs (dx 212 t S.X.cH S.aD (bH L S.us)),.abs (aG (cg S.O L)),.abs R,.blk b1 [vI (a.at_),vI (a.op),.string a.path,.string a.to,.string a.text] 136]) (fun w hS=>hS.zY hL2 hfr (o:=(bg S.X 1 420)) (i:=3) (j:=8) (ix:=[0,1,2,4,5,6,7]) rfl rfl (by kernel_rfl) rfl (by show (1:Int)≠0;decide) ((rB (L:=L2) (k:=(bJ S.X)) (o:=(bg S.X 1 420)) rfl).trans (by rw [show L2.dA (bJ S.X)=none by rw [hL2];exact if_pos rfl,show L2.dC (bJ S.X)=0 by rw [hL2];exact if_pos rfl];rfl)) rfl) ?_
   refine ak.fo [(3,pE (aN S.O (bJ S.X) (fun _=>(bg S.X 1 420))) L2)] (fun w hS=>hS.CB hL2 hfr (o:=(bg S.X 1 420)) (i:=3) rfl (by show (1:Int)≠2;decide)) ?_
   refine ak.mem (dm:=[pO (aN S.O (bJ S.X) (fun _=>(bg S.X 1 420))) L2,pF f m t { S.X with last:=S.X.last+1 },pI m L S.idx,pE (aN S.O (bJ S.X) (fun _=>(bg S.X 1 420))) L2,pT t S.X.cH S.aD L S.us,pD S.O L,.abs R,.blk b1 [vI (a.at_),vI (a.op),.string a.path,.string a.to,.string a.text] 136,.abs (aH 5 1 none 0 0 ([]))]) (fun w hS=>hS.mo (e:=5) (size:=1)) ?_
   refine ak.mem (dm:=[pD (aN S.O (bJ S.X) (fun _=>(bg S.X 1 420))) L2,pO (aN S.O (bJ S.X) (fun _=>(bg S.X 1 420))) L2,pF f m t { S.X with last:=S.X.last+1 },pI m L S.idx,pE (aN S.O (bJ S.X) (fun _=>(bg S.X 1 420))) L2,pT t S.X.cH S.aD L S.us,.abs R,.blk b1 [vI (a.at_),vI (a.op),.string a.path,.string a.to,.string a.text] 136]) (fun w hS=>hS.Vt hL2 (o:=(bg S.X 1 420)) (i:=5) (j:=8) (ix:=[0,1,2,3,4,6,7]) rfl rfl (by kernel_rfl) rfl rfl rfl) ?_
   refine ak.fo [(3,.abs (aP Tryz.prog 3 m (bA (bH L2 S.idx)) S.idx.length)),(5,.abs (dx 212 t S.X.cH S.aD (bH L2 S.us)))] (fun w hS=>by rw [kB hL2 hfr.idx,kB hL2 hfr.us];exact hS) ?_
   refine gK 1 [(13,vP b2)] [] ?_
   refine NS (gK 5 [(72,vP f),(73,vP (L.b d)),(74,.string name),(76,.iface 162 (vP b2))] [] ?_)
   refine gL (f:=193) (args:=#[vP f,vP (L.b d),.string name,.iface 162 (vP b2)]) (pre:=[.blk f [vI (S.X.cN),vI (S.X.cB),vI (S.X.cH),vI (S.X.cS),vI (S.X.cZ),.map (some m),vP t,vI (S.X.last+1),vI (S.X.ah),vI (S.X.used)] 154,.abs (aP Tryz.prog 3 m (bA (bH L2 S.idx)) S.idx.length),.abs (aG (bS (aN S.O (bJ S.X) (fun _=>(bg S.X 1 420))) L2)),.abs (aG (cY (aN S.O (bJ S.X) (fun _=>(bg S.X 1 420))) L2))]) [2,3,1,4] ((by have h:=wU (β:=β) S L2 f m t hI.toInv0 d hd name hsz hno (bg S.X 1 420) rfl (by simp [bg]) rfl (vr h0);rw [zX hL2 (hI.yK hd),sX hL2] at h;exact h)) ?_
   rintro _ _ ⟨rfl,rfl⟩
   refine NS (ak.fo [(4,.abs (aG (cg ((gj S d name (bg S.X 1 420)).O) L2)))] (fun w hS=>by rw [show cg ((gj S d name (bg S.X 1 420)).O) L2=cg (aN S.O (bJ S.X) (fun _=>(bg S.X 1 420))) L2 from jX];exact hS) ?_)
   have xW:Inv (gj S d name (bg S.X 1 420)):=hI.FH hd ko hgn h0 (.inl rfl) ⟨by decide,by decide⟩ (.inl ⟨by decide,rfl⟩)
   have Yw:Live (gj S d name (bg S.X 1 420)).idx ⟨(bJ S.X),1⟩:=GV hI (o:=(bg S.X 1 420))
   refine gK 4 [(78,vP f),(79,vP b2),(81,.string a.text)] [(3,a_ 7 b1)] ?_
   refine ak.Hv (d:=(some 82)) (t1:=9) (t2:=86) (e:=5) (x:=(.tmp 81)) (s:=a.text) (fun _=>by kernel_rfl) (fun _=>by kernel_rfl) Tryz.underlying9 Tryz.underlying86 Tryz.underlying5 (fun b3 c4 XB=>?_)
   refine gL (f:=199) (args:=#[vP f,vP b2,.slice (some ⟨b3,0,none⟩) (a.text.data.toList.length) (c4)]) (pre:=[.abs (lC β (fun β'=>bG β' (some ⟨b3,0,none⟩) a.text.data.toList)),.blk f [vI ((gj S d name (bg S.X 1 420)).X.cN),vI ((gj S d name (bg S.X 1 420)).X.cB),vI ((gj S d name (bg S.X 1 420)).X.cH),vI ((gj S d name (bg S.X 1 420)).X.cS),vI ((gj S d name (bg S.X 1 420)).X.cZ),.map (some m),vP t,vI ((gj S d name (bg S.X 1 420)).X.last),vI ((gj S d name (bg S.X 1 420)).X.ah),vI ((gj S d name (bg S.X 1 420)).X.used)] 154,.abs (aP Tryz.prog 3 m (bA (bH L2 (gj S d name (bg S.X 1 420)).idx)) ((gj S d name (bg S.X 1 420)).idx.length)),.abs (dx 212 t S.X.cH S.aD (bH L2 S.us)),.abs (aG (bS ((gj S d name (bg S.X 1 420)).O) L2)),.abs (aG (cg ((gj S d name (bg S.X 1 420)).O) L2)),.abs (aG (cY ((gj S d name (bg S.X 1 420)).O) L2))]) [8,0,1,5,2,4,3] ((by have h:=C9 (β:=β) (gj S d name (bg S.X 1 420)) L2 f m t xW (bJ S.X) Yw (some ⟨b3,0,none⟩) c4 a.text.data.toList (by rw [Array.length_toList];have:a.text.data.size=a.text.size:=rfl;omega) XB;rw [GI hL2] at h;exact h)) ?_
   rintro _ _ ⟨L3,rfl,rfl⟩
   refine NS (gK 1 [(6,vI 0)] [] ?_)
   refine NN (af.ret (aj.aK (aj.aq ?_)))
   exact RT (vI 0) [0,1,2,3,4,5,6] (⟨L3,by rw [show (cI S root a)=(0,(fe (gj S d name (bg S.X 1 420)) (bJ S.X) a.text.data.toList).2.2) by unfold cI;rw [if_neg (by omega),hix];simp only;rw [if_pos trivial,j6];simp only;unfold mD;rw [if_pos (by omega)];unfold rJ;exact if_pos h0]<;>exact⟨rfl,rfl⟩⟩)
  refine SR (gK 2 [(84,.bool (decide ((a.op:Int)=(2:Int))))] [] ?_)
  refine NN (af.aW (p:=(a.op:Int)=(2:Int)) (fun _=>by kernel_rfl) (fun Yx=>?_) (fun Yx=>?_))
  ·refine SR (gK 3 [(86,vP f),(87,vP (L.b d)),(88,.string name)] [] ?_)
   refine gL [2,3,4,0,5,1] (EZ S L f m t hI d hd name hsz 493) ?_
   rintro _ _ ⟨L2,rfl,rfl⟩
   refine gK 1 [(6,vI ((gY S d name 493).1))] [] ?_
   refine NN (af.ret (aj.aK (aj.aq ?_)))
   exact RT (vI ((gY S d name 493).1)) [0,1,2,3,4,5,6] (⟨L2,by rw [show (cI S root a)=((gY S d name 493).1,(gY S d name 493).2) by unfold cI;rw [if_neg (by omega),hix];simp only;rw [if_pos trivial,j6];simp only;unfold mD;rw [if_neg (by omega)];exact if_pos (by omega)]<;>exact⟨rfl,rfl⟩⟩)
  refine SR (gK 2 [(90,.bool (decide ((a.op:Int)=(3:Int))))] [] ?_)
  refine NN (af.aW (p:=(a.op:Int)=(3:Int)) (fun _=>by kernel_rfl) (fun Yy=>?_) (fun Yy=>?_))
  ·refine SR (gK 5 [(92,vP f),(93,vP (L.b d)),(94,.string name),(96,.string a.text)] [(4,a_ 7 b1)] ?_)
   refine gL [2,3,4,0,5,1] (Jo S L f m t hI d hd name hsz a.text hxz) ?_
   rintro _ _ ⟨L2,rfl,rfl⟩
   refine gK 1 [(6,vI ((gF S d name a.text).1))] [] ?_
   refine NN (af.ret (aj.aK (aj.aq ?_)))
   exact RT (vI ((gF S d name a.text).1)) [0,1,2,3,4,5,6] (⟨L2,by rw [show (cI S root a)=((gF S d name a.text).1,(gF S d name a.text).2) by unfold cI;rw [if_neg (by omega),hix];simp only;rw [if_pos trivial,j6];simp only;unfold mD;rw [if_neg (by omega)];rw [if_neg (by omega)];exact if_pos (by omega)]<;>exact⟨rfl,rfl⟩⟩)
  refine SR (gK 2 [(98,.bool (decide ((a.op:Int)=(4:Int))))] [] ?_)
  refine NN (af.aW (p:=(a.op:Int)=(4:Int)) (fun _=>by kernel_rfl) (fun Yz=>?_) (fun Yz=>?_))
  ·refine SR (gK 3 [(100,vP f),(101,vP (L.b d)),(102,.string name)] [] ?_)
   refine gL [2,3,4,0,5,1] (Lv S L f m t hI d hd name hsz) ?_
   rintro _ _ ⟨L2,rfl,rfl⟩
   refine gK 1 [(6,vI ((fP S d name).1))] [] ?_
   refine NN (af.ret (aj.aK (aj.aq ?_)))
   exact RT (vI ((fP S d name).1)) [0,1,2,3,4,5,6] (⟨L2,by rw [show (cI S root a)=((fP S d name).1,(fP S d name).2) by unfold cI;rw [if_neg (by omega),hix];simp only;rw [if_pos trivial,j6];simp only;unfold mD;rw [if_neg (by omega)];rw [if_neg (by omega)];rw [if_neg (by omega)];exact if_pos (by omega)]<;>exact⟨rfl,rfl⟩⟩)
  refine SR (gK 2 [(104,.bool (decide ((a.op:Int)=(5:Int))))] [] ?_)
  refine NN (af.aW (p:=(a.op:Int)=(5:Int)) (fun _=>by kernel_rfl) (fun XC=>?_) (fun XC=>?_))
  ·refine SR (gK 3 [(106,vP f),(107,vP (L.b d)),(108,.string name)] [] ?_)
   refine gL [2,3,4,0,5,1] (Nx S L f m t hI d hd name hsz) ?_
   rintro _ _ ⟨L2,rfl,rfl⟩
   refine gK 1 [(6,vI ((gq S d name).1))] [] ?_
   refine NN (af.ret (aj.aK (aj.aq ?_)))
   exact RT (vI ((gq S d name).1)) [0,1,2,3,4,5,6] (⟨L2,by rw [show (cI S root a)=((gq S d name).1,(gq S d name).2) by unfold cI;rw [if_neg (by omega),hix];simp only;rw [if_pos trivial,j6];simp only;unfold mD;rw [if_neg (by omega)];rw [if_neg (by omega)];rw [if_neg (by omega)];rw [if_neg (by omega)];exact if_pos (by omega)]<;>exact⟨rfl,rfl⟩⟩)
  refine SR (gK 2 [(110,.bool (decide ((a.op:Int)=(6:Int))))] [] ?_)
  refine NN (af.aW (p:=(a.op:Int)=(6:Int)) (fun _=>by kernel_rfl) (fun XD=>?_) (fun XD=>?_))
  ·refine SR (gK 4 [(113,vP f),(114,vP (L.b tk)),(116,.string a.to)] [(3,a_ 7 b1)] ?_)
   rcases E4 hI hlv a.to with ⟨e2,Dm,XE⟩|⟨to,toName,Dm,hd2,Zk,XF⟩
   ·refine gL (f:=230) (args:=#[vP f,vP (L.b tk),.string a.to]) (pre:=[.abs (aG (bS S.O L)),.abs (aG (cY S.O L))]) [0,1] ((by have h:=Ag (β:=β) S L f hI tk hlv a.to Ri hg;rw [Dm] at h;exact h)) ?_
    rintro _ _ ⟨rfl,rfl⟩
    refine gK 7 [(14,.pointer none),(15,.string ⟨#[]⟩),(16,vI (e2))] [] ?_
    refine NN (af.seq (SR (gK 2 [(122,.bool (!(decide ((e2:Int)=(0:Int)))))] [] ?_)))
    refine NN (af.fI (p:=(e2:Int)=(0:Int)) (fun _=>by kernel_rfl) (fun UC=>?_) (fun UC=>?_))
    ·refine SR (gK 2 [(6,vI (e2))] [] ?_)
     refine NN (af.ret (aj.aq (aj.aK (aj.aq ?_))))
     exact RT (vI (e2)) [2,3,4,0,5,1,6] (⟨L,by rw [show (cI S root a)=(e2,S) by unfold cI;rw [if_neg (by omega),hix];simp only;rw [if_pos trivial,j6];simp only;unfold mD;rw [if_neg (by omega)];rw [if_neg (by omega)];rw [if_neg (by omega)];rw [if_neg (by omega)];rw [if_neg (by omega)];rw [if_pos (by omega)];rw [Dm]]<;>exact⟨rfl,rfl⟩⟩)
    exact absurd UC XE
   have jJ:(obj S.O to).kind=2:=hI.kind hd2
   have pX:toName.size<=1048576:=E0 XF
   refine gL (f:=230) (args:=#[vP f,vP (L.b tk),.string a.to]) (pre:=[.abs (aG (bS S.O L)),.abs (aG (cY S.O L))]) [0,1] ((by have h:=Ag (β:=β) S L f hI tk hlv a.to Ri hg;rw [Dm] at h;exact h)) ?_
   rintro _ _ ⟨rfl,rfl⟩
   refine gK 7 [(14,vP (L.b to)),(15,.string toName),(16,vI 0)] [] ?_
   refine NN (af.seq (SR (gK 2 [(122,.bool false)] [] ?_)))
   refine NN (CF (af.skip (NX (SR (gK 5 [(124,vP f),(125,vP (L.b d)),(126,.string name),(127,vP (L.b to)),(128,.string toName)] [] ?_)))))
   refine gL [2,3,4,0,5,1] (Lw S L f m t hI d hd name hsz to hd2 toName pX) ?_
   rintro _ _ ⟨L2,rfl,rfl⟩
   refine gK 1 [(6,vI ((bL S d name to toName).1))] [] ?_
   refine NN (af.ret (aj.aK (aj.aq ?_)))
   exact RT (vI ((bL S d name to toName).1)) [0,1,2,3,4,5,6] (⟨L2,by rw [show (cI S root a)=((bL S d name to toName).1,(bL S d name to toName).2) by unfold cI;rw [if_neg (by omega),hix];simp only;rw [if_pos trivial,j6];simp only;unfold mD;rw [if_neg (by omega)];rw [if_neg (by omega)];rw [if_neg (by omega)];rw [if_neg (by omega)];rw [if_neg (by omega)];rw [if_pos (by omega)];rw [Dm]]<;>exact⟨rfl,rfl⟩⟩)
  refine af.skip (aj.aO (NX (af.seq (af.seq ?_))))
  have hel:(obj S.O d).ah.length<=8192:=hI.iT hd
  have YA:=hsz
  rcases hI.pR hd name with bV|⟨ok,bV,iN⟩|⟨ok,bV,iN⟩|⟨ok,bV,iN⟩
  ·refine af.region (gK 5 [(133,.map (some (L.m d))),(134,.string name)] [(3,v_ 0 (bQ L hkd))] ?_)
   refine jg 1 hkd bV ?_
   refine NN (af.block (SR ?_))
   refine gK 3 [(137,.bool false),(138,.pointer none)] [] ?_
   refine NN (CF (SR (gK 3 [(140,.bool false),(141,.pointer none)] [] ?_)))
   refine NN (CF (SR (gK 3 [(143,.bool false),(144,.pointer none)] [] ?_)))
   refine NN (CF (af.skip (aj.aO (NX (SR ?_)))))
   refine gK 1 [(6,vI 170)] [] ?_
   refine NN (af.ret ?_)
   exact RT (vI 170) [2,3,4,0,5,1,6] (⟨L,by rw [show (cI S root a)=(170,S) by unfold cI;rw [if_neg (by omega),hix];simp only;rw [if_pos trivial,j6];simp only;unfold mD;rw [if_neg (by omega)];rw [if_neg (by omega)];rw [if_neg (by omega)];rw [if_neg (by omega)];rw [if_neg (by omega)];rw [if_neg (by omega)];unfold kR;rw [bV]]<;>exact⟨rfl,rfl⟩⟩)
  ·have pY:(obj S.O ok).kind=1:=hI.kind iN
   refine af.region (gK 5 [(133,.map (some (L.m d))),(134,.string name)] [(3,v_ 0 (bQ L hkd))] ?_)
   refine jg 1 hkd bV ?_
   refine NN (af.block (SR ?_))
   refine gK 3 [(137,.bool false),(138,.pointer none)] [] ?_
   refine NN (CF (SR (gK 3 [(140,.bool false),(141,.pointer none)] [] ?_)))
   refine NN (CF (SR (gK 3 [(143,.bool true),(144,vP (L.b ok))] [] ?_)))
   refine NN (CT (SR (gK 1 [(19,vP (L.b ok))] [] ?_)))
   refine NS (gK 4 [(146,vP f),(147,vP (L.b ok)),(149,.string a.text)] [(3,a_ 7 b1)] ?_)
   refine ak.Hv (d:=(some 150)) (t1:=9) (t2:=86) (e:=5) (x:=(.tmp 149)) (s:=a.text) (fun _=>by kernel_rfl) (fun _=>by kernel_rfl) Tryz.underlying9 Tryz.underlying86 Tryz.underlying5 (fun b6 c7 XG=>?_)
   refine gL [8,2,3,4,0,5,1] (C9 (β:=β) S L f m t hI ok iN (some ⟨b6,0,none⟩) c7 a.text.data.toList (by rw [Array.length_toList];have:a.text.data.size=a.text.size:=rfl;omega) XG) ?_
   rintro _ _ ⟨L3,rfl,rfl⟩
   refine gK 5 [(21,vI ((fe S ok a.text.data.toList).2.1))] [] ?_
   refine NS (gK 2 [(6,vI ((fe S ok a.text.data.toList).2.1))] [] ?_)
   refine NN (af.ret (aj.aK (aj.aq ?_)))
   exact RT (vI ((fe S ok a.text.data.toList).2.1)) [0,1,2,3,4,5,6] (⟨L3,by rw [show (cI S root a)=((fe S ok a.text.data.toList).2.1,(fe S ok a.text.data.toList).2.2) by unfold cI;rw [if_neg (by omega),hix];simp only;rw [if_pos trivial,j6];simp only;unfold mD;rw [if_neg (by omega)];rw [if_neg (by omega)];rw [if_neg (by omega)];rw [if_neg (by omega)];rw [if_neg (by omega)];rw [if_neg (by omega)];unfold kR;rw [bV];exact (if_neg (by simp)).trans (if_neg (by simp))]<;>exact⟨rfl,rfl⟩⟩)
  ·have pY:(obj S.O ok).kind=2:=hI.kind iN
   refine af.region (gK 5 [(133,.map (some (L.m d))),(134,.string name)] [(3,v_ 0 (bQ L hkd))] ?_)
   refine jg 1 hkd bV ?_
   refine NN (af.block (SR ?_))
   refine gK 3 [(137,.bool false),(138,.pointer none)] [] ?_
   refine NN (CF (SR (gK 3 [(140,.bool true),(141,vP (L.b ok))] [] ?_)))
   refine NN (CT (SR (gK 1 [] [] ?_)))
   refine NS (gK 1 [(6,vI 172)] [] ?_)
   refine NN (af.ret (aj.aK (aj.aq ?_)))
   exact RT (vI 172) [2,3,4,0,5,1,6] (⟨L,by rw [show (cI S root a)=(172,S) by unfold cI;rw [if_neg (by omega),hix];simp only;rw [if_pos trivial,j6];simp only;unfold mD;rw [if_neg (by omega)];rw [if_neg (by omega)];rw [if_neg (by omega)];rw [if_neg (by omega)];rw [if_neg (by omega)];rw [if_neg (by omega)];unfold kR;rw [bV];exact (if_neg (by simp)).trans (if_pos rfl)]<;>exact⟨rfl,rfl⟩⟩)
  have pY:(obj S.O ok).kind=3:=hI.kind iN
  refine af.region (gK 5 [(133,.map (some (L.m d))),(134,.string name)] [(3,v_ 0 (bQ L hkd))] ?_)
  refine jg 1 hkd bV ?_
  refine NN (af.block (SR ?_))
  refine gK 3 [(137,.bool true),(138,vP (L.b ok))] [] ?_
  refine NN (CT (SR (gK 1 [] [] ?_)))
  refine NS (gK 1 [(6,vI 174)] [] ?_)
  refine NN (af.ret (aj.aK (aj.aq ?_)))
  exact RT (vI 174) [2,3,4,0,5,1,6] (⟨L,by rw [show (cI S root a)=(174,S) by unfold cI;rw [if_neg (by omega),hix];simp only;rw [if_pos trivial,j6];simp only;unfold mD;rw [if_neg (by omega)];rw [if_neg (by omega)];rw [if_neg (by omega)];rw [if_neg (by omega)];rw [if_neg (by omega)];rw [if_neg (by omega)];unfold kR;rw [bV];exact if_pos rfl]<;>exact⟨rfl,rfl⟩⟩)
 have hkt:(obj S.O tk).kind=3:=hI.kind hlv
 refine af.region (gK 5 [(33,.map (some m)),(34,vI (root))] [(3,a_ 0 f)] ?_)
 refine ak.dW 1 (d:=(some 35)) (t:=151) (K:=3) (E:=156) (b:=m) (n:=S.idx.length) (f:=(bA (bH L S.idx))) (x:=(.tmp 33)) (ix:=(.tmp 34)) (key:=.int .i64 (root)) (z:=.nilIface) (kl:=(.int .i64 root)) (r:=(some (eu L ⟨tk,3⟩))) (fun _=>by kernel_rfl) (by kernel_rfl) (fun _=>by kernel_rfl) (fun _=>by kernel_rfl) dZ Tryz.underlying151 (fun _=>by kernel_rfl) (iR hrw) (by rw [fV,hix];rfl) ?_
 refine gK 1 [(7,.iface 166 (vP (L.b tk)))] [] ?_
 refine NN (af.seq (SR (gK 2 [(37,.bool false)] [] ?_)))
 refine NN (CF (af.skip (NX (SR (gK 7 [(8,.pointer none),(9,.bool false)] [] ?_)))))
 refine NN (af.seq (SR (gK 2 [(44,.bool true)] [] ?_)))
 refine NN (CT (SR (gK 1 [(6,vI 173)] [] ?_)))
 refine NN (af.ret (aj.aq ?_))
 exact RT (vI 173) [0,1,2,3,4,5,6] (⟨L,by rw [show (cI S root a)=(173,S) by unfold cI;rw [if_neg (by omega),hix];simp only;exact if_neg (by simp)]<;>exact⟨rfl,rfl⟩⟩)
end
section
open Go.RowKit Go.Maps bq aF
attribute [local irreducible] ak aU af aj
noncomputable abbrev Od (o)(q)(f:Nat) (root) (am) (n):=(.blk o [.iface 141 (vP q),vP f,vI (root),.map (some am),vI ↑(n+1)] 145:HP)
noncomputable abbrev UD (o)(b1:Nat) (b2:Nat) (nk) (ys:List bK) (Kl) (i:Nat):=([(0,vP o),(3,vP b1),(4,vP b2),(22,.slice nk (ys.length) (Kl)),(23,vI ↑ys.length),(24,vI ↑i)]:Fr)
theorem UE {β:Bs} (S:aJ) (L:HL) (o q f m t am an km kn n:Nat) (Z:AZ) (fs:List bh) (xs:List bK) (root:Int) (hrw:(Lit.int .i64 root).wf=true) (hI:Inv S) (hn:n<=8388608) (k:Int) (hk:iY fs ((n+1:Nat):Int)=k) (hZ:fF β Z xs) (hX:ef xs 1048576) (hg:dQ β) (c:aB) (hC:lg β c) :
    Spec Tryz.prog β 228 #[vP o,.agg ⟨dr c⟩] ([.blk o [.iface 141 (vP q),vP f,vI (root),.map (some am),vI (((n:Nat):Int))] 145,.blk q [.iface 49 (vP f),.map (some km),vI (((n:Nat):Int))] 143,.abs (aP Tryz.prog 3 am (gS Z xs) an),lS km fs kn]++o6 f m t S L) (fun v l=>∃ L2,v=.agg ⟨dr (bE k (fK root S (bF xs ((n+1:Nat):Int))) c).2⟩/\l=[.blk o [.iface 141 (vP q),vP f,vI (root),.map (some am),vI ((((n+1):Nat):Int))] 145,.blk q [.iface 49 (vP f),.map (some km),vI ((((n+1):Nat):Int))] 143,.abs (aP Tryz.prog 3 am (gS Z xs) an),lS km fs kn,pF f m t ((bE k (fK root S (bF xs ((n+1:Nat):Int))) c).1.X),.abs (aP Tryz.prog 3 m (bA (bH L2 (bE k (fK root S (bF xs ((n+1:Nat):Int))) c).1.idx)) ((bE k (fK root S (bF xs ((n+1:Nat):Int))) c).1.idx.length)),pT t (bE k (fK root S (bF xs ((n+1:Nat):Int))) c).1.X.cH ((bE k (fK root S (bF xs ((n+1:Nat):Int))) c).1.aD) L2 ((bE k (fK root S (bF xs ((n+1:Nat):Int))) c).1.us),pO ((bE k (fK root S (bF xs ((n+1:Nat):Int))) c).1.O) L2,pD ((bE k (fK root S (bF xs ((n+1:Nat):Int))) c).1.O) L2,pE ((bE k (fK root S (bF xs ((n+1:Nat):Int))) c).1.O) L2]):=by
 obtain⟨ys,hys⟩:∃ ys,bF xs ((n+1:Nat):Int)=ys:=⟨_,rfl⟩
 obtain⟨nk,has⟩:∃ a,aA Z xs ((n+1:Nat):Int)=a:=⟨_,rfl⟩
 obtain⟨Kl,hac⟩:∃ a,aC Z xs ((n+1:Nat):Int)=a:=⟨_,rfl⟩
 have hrow:=hZ ((n+1:Nat):Int)
 rw [hys,has] at hrow
 have hyb:∀ {i},i < ys.length->yS (act ys i) 1048576:=fun {i} h=>hX.q _ (K3 (x:=((n+1:Nat):Int)) (by rw [hys];exact List.mem_of_getElem? (sY h)))
 have qg:ys.length<=1048576:=by rw [← hys];exact Nat.le_trans (CQ _) hX.len
 rw [show bF xs ((n+1:Nat):Int)=ys from hys]
 obtain⟨SA,WK⟩:∃ SA,fK root S ys=SA:=⟨_,rfl⟩
 rw [WK]
 refine Spec.enter Tryz.func228 rfl Tryz.ntmps228 (Nat.le_of_ble_eq_true rfl) (fun R=>?_)
 refine SR (gN 1 (fun b1=>[(3,vP b1)]) (fun _=>[]) (fun _=>[]) (fun b1=>pC b1 c) (fun b1=>?_))
 refine gN 1 (fun b2=>[(4,vP b2)]) (fun _=>[]) (fun _=>[]) (fun b2=>.blk b2 [vI 0,vI 0,vI 0,.string ⟨#[]⟩,.string ⟨#[]⟩,.slice none (0) (0),vI 0,vI 0,vI 0,vI 0,vI 0,vI 0,vI 0] 88) (fun b2=>?_)
 refine NS (gC 8 [] [(3,a_ 0 o),(4,p_ ⟨[],none,none,none,some (vI ↑(n+1))⟩ [(Value.int .i64 (IntKind.wrap .i64 (((n:Nat):Int)+1)))=(.int .i64 ↑(n+1))] ⟨bC (by omega) (by omega) (by omega),trivial⟩),(7,a_ 0 o)] [(0,[(4,vI ↑(n+1))])] ?_)
 refine NN (af.seq (af.seq (af.eM (by kernel_rfl) (by kernel_rfl) ?_)))
 refine gQ 8 [(17,.map (some am)),(21,vI ↑(n+1))] [(3,a_ 0 o),(7,a_ 0 o)] ?_
 refine aU.dW 2 (d:=(some 22)) (t:=134) (K:=3) (E:=30) (b:=am) (n:=an) (f:=(gS Z xs)) (x:=(.tmp 17)) (ix:=(.tmp 21)) (key:=.int .i64 ↑(n+1)) (z:=.slice none (0) (0)) (kl:=(.int .i64 ((n+1:Nat):Int))) (r:=(gS Z xs (.int .i64 ((n+1:Nat):Int)))) (fun _=>by kernel_rfl) (by kernel_rfl) (fun _=>by kernel_rfl) (fun _=>by kernel_rfl) dZ Tryz.underlying134 (fun _=>by kernel_rfl) (iR (Nn (by omega))) (rfl) ?_
 refine aU.slot 22 (((gS Z xs (.int .i64 ((n+1:Nat):Int))).getD (.slice none 0 0))) (.slice nk (ys.length) (Kl)) (fun _=>by kernel_rfl) (BM.trans (by rw [hys,has,hac])) ?_
 refine gQ 2 [(23,vI ↑ys.length),(24,vI 0)] [] ?_
 refine NQ (NX (af.block ?_))
 refine af.loop (ι:=Nat×aJ×HL) (fun ((i,S1,L1):Nat×aJ×HL)=>(i<=ys.length)/\(S1=fK root S (ys.take i))/\(Inv S1)) (fun ((i,S1,L1):Nat×aJ×HL)=>ys.length - i) (fun ((i,S1,L1):Nat×aJ×HL)=>(UD o b1 b2 nk ys Kl i)) (fun ((i,S1,L1):Nat×aJ×HL)=>([Od o q f root am n,.blk q [.iface 49 (vP f),.map (some km),vI ↑n] 143,.abs (aP Tryz.prog 3 am (gS Z xs) an),lS km fs kn,pC b1 c,rS b2]++o6 f m t S1 L1++[.abs R])) (0,S,L) (idx:=[0,3,4,22,23,24]) (pk:=[0,1,2,3,11,12,4,5,6,7,8,9,10]) (show (0<=ys.length)/\(S=fK root S (ys.take 0))/\(Inv S) from ⟨Nat.zero_le _,rfl,hI⟩) (fun _=>by kernel_rfl) rfl (by kernel_rfl) ?_
 rintro⟨i,S1,L1⟩ ⟨hi,hs1,bY⟩
 show af _ _ _ _ (UD o b1 b2 nk ys Kl i) ([Od o q f root am n,.blk q [.iface 49 (vP f),.map (some km),vI ↑n] 143,.abs (aP Tryz.prog 3 am (gS Z xs) an),lS km fs kn,pC b1 c,rS b2]++o6 f m t S1 L1++[.abs R]) _
 refine SR (gK 1 [(25,.bool (decide ((((i:Nat):Int):Int) < (((ys.length:Nat):Int):Int))))] [] ?_)
 refine NN (af.seq (af.aW (p:=(((i:Nat):Int):Int) < (((ys.length:Nat):Int):Int)) (fun _=>by kernel_rfl) (fun xH=>?_) (fun xH=>?_)))
 ·refine af.skip (NX (af.seq (af.block (SR ?_))))
  refine gN 4 (fun b3=>[(6,vP b3)]) (fun b3=>[(0,p_ ⟨[],some i,none,some ⟨(ay nk),ax nk,none⟩,none⟩ [((i:Nat):Int)=((i:Nat):Int),i < ys.length,(⟨(ay nk),ax nk,none⟩:Addr).spot=none,(nk:Option Addr)=some ⟨(ay nk),ax nk,none⟩] ⟨rfl,by omega,rfl,QV hrow (i:=i) (by omega),trivial⟩),(1,p_ ⟨[.old (.int .i64 ((act ys i).at_)),.old (.int .i64 ((act ys i).op)),.old (.string (act ys i).path),.old (.string (act ys i).to),.old (.string (act ys i).text)],none,none,none,none⟩ [(Rd β ⟨(ay nk),ax nk+i * 5+4,none⟩ (.string (act ys i).text)),(Rd β ⟨(ay nk),ax nk+i * 5+3,none⟩ (.string (act ys i).to)),(Rd β ⟨(ay nk),ax nk+i * 5+2,none⟩ (.string (act ys i).path)),(Rd β ⟨(ay nk),ax nk+i * 5+1,none⟩ (.int .i64 ((act ys i).op))),(Rd β ⟨(ay nk),ax nk+i * 5,none⟩ (.int .i64 ((act ys i).at_)))] ⟨qX hrow (i:=i) (by omega) (j:=4) rfl,qX hrow (i:=i) (by omega) (j:=3) rfl,qX hrow (i:=i) (by omega) (j:=2) rfl,qX hrow (i:=i) (by omega) (j:=1) rfl,qX hrow (i:=i) (by omega) (j:=0) rfl,trivial⟩),(3,A_ 13 b3 5)]) (fun _=>[]) (fun b3=>.blk b3 [vI ((act ys i).at_),vI ((act ys i).op),.string (act ys i).path,.string (act ys i).to,.string (act ys i).text] 136) (fun b3=>?_)
  refine NN (af.ck (S:=[Od o q f root am n,.blk b3 [vI ((act ys i).at_),vI ((act ys i).op),.string (act ys i).path,.string (act ys i).to,.string (act ys i).text] 136]) [0,1,2,3,4,5,6,7,8,9] 9 [0,13] (by kernel_rfl) (by kernel_rfl) rfl (by kernel_rfl) ?_)
  refine gR 0 [9] (UD o b1 b2 nk ys Kl i++[(31,vP f),(35,vI (root)),(36,.agg #[vI ((act ys i).at_),vI ((act ys i).op),.string (act ys i).path,.string (act ys i).to,.string (act ys i).text])]) [0,1,2,3,4,5,6,7,8] [(3,a_ 0 o),(7,a_ 0 o),(8,A_ 1 b3 5)] ?_
  refine aQ.last rfl rfl ?_
  refine gL [6,7,8,9,10,11] (Sw S1 L1 f m t bY root hrw (act ys i) (hyb (by omega)).path (hyb (by omega)).to (hyb (by omega)).text hg) ?_
  rintro _ _ ⟨L2,rfl,rfl⟩
  refine NL (aj.np (aj.aO (NX (af.region ?_))))
  refine gK 2 [(24,vI ↑(i+1))] [(0,p_ ⟨[],none,none,none,some (vI ↑(i+1))⟩ [(Value.int .i64 (IntKind.wrap .i64 (((i:Nat):Int)+1)))=(.int .i64 ↑(i+1))] ⟨bC (by omega) (by omega) (by omega),trivial⟩)] ?_
  refine NL ?_
  exact aj.turn ((i+1),(cI S1 root (act ys i)).2,L2) (idx:=[0,3,4,22,23,24]) (pk:=[6,7,8,9,10,11,0,1,2,3,4,5,12]) (show (((i+1))<=ys.length)/\(((cI S1 root (act ys i)).2)=fK root S (ys.take ((i+1))))/\(Inv ((cI S1 root (act ys i)).2)) from ⟨by omega,by rw [hs1];exact (K6 (by omega)).symm,bY.cI⟩) (by show ys.length - ((i+1)) < ys.length - i;omega) (fun _=>by kernel_rfl) rfl (by kernel_rfl)
 refine af.exit (aj.aV (aj.aV (aj.cL (NX (af.seq ?_)))))
 refine af.ck (S:=[Od o q f root am n,pC b1 c]) [0,1,2,3,4,5,6] 5 [0,4] (by kernel_rfl) (by kernel_rfl) rfl (by kernel_rfl) ?_
 refine gR 0 [5,6] [(4,vP b2),(42,.iface 141 (vP q)),(43,.agg ⟨dr c⟩)] [0,1,2,3,4] [(3,a_ 0 o),(4,A_ 1 b1 13)] ?_
 refine mL [8,10] [1,3,6,7,8,9,10,11] (UA S1 L1 q f m t km kn n fs bY hn k hk c hC) ?_ (by rintro _ _ ⟨L2,rfl,rfl⟩;rfl)
 rintro _ _ ⟨L2,rfl,rfl⟩
 refine aQ.last rfl rfl ?_
 refine gC 1 [] [(0,A_ 11 b2 13)] [(11,[(0,vI ((bE k S1 c).2.op)),(1,vI ((bE k S1 c).2.handle)),(2,vI ((bE k S1 c).2.other)),(3,.string (bE k S1 c).2.name),(4,.string (bE k S1 c).2.text),(5,.slice (bE k S1 c).2.dA ((bE k S1 c).2.data.length) ((bE k S1 c).2.dC)),(6,vI ((bE k S1 c).2.mode)),(7,vI ((bE k S1 c).2.uid)),(8,vI ((bE k S1 c).2.gid)),(9,vI ((bE k S1 c).2.sec)),(10,vI ((bE k S1 c).2.nano)),(11,vI ((bE k S1 c).2.code)),(12,vI ((bE k S1 c).2.answer))])] ?_
 refine NL (aj.np (NX (af.ret ?_)))
 have hs2:S1=SA:=by rw [hs1,show i=ys.length by omega,List.take_length];exact WK
 subst hs2
 exact aj.ret (v:=.agg ⟨dr ((bE k S1 c).2)⟩) (l:=[Od o q f root am n,vU q f km n,.abs (aP Tryz.prog 3 am (gS Z xs) an),lS km fs kn,pF f m t ((bE k S1 c).1.X),pI m L2 (bE k S1 c).1.idx,pT t (bE k S1 c).1.X.cH ((bE k S1 c).1.aD) L2 ((bE k S1 c).1.us),pO ((bE k S1 c).1.O) L2,pD ((bE k S1 c).1.O) L2,pE ((bE k S1 c).1.O) L2]) (aZ:=[b2=b2,b2=b2,b2=b2,b2=b2,b2=b2,b2=b2,b2=b2,b2=b2,b2=b2,b2=b2,b2=b2,b2=b2,b2=b2]) [.at 11,.at 11,.at 11,.at 11,.at 11,.at 11,.at 11,.at 11,.at 11,.at 11,.at 11,.at 11,.at 11] [8,0,9,1,2,3,4,5,6,7,12] (fun _=>by kernel_rfl) ⟨rfl,rfl,rfl,rfl,rfl,rfl,rfl,rfl,rfl,rfl,rfl,rfl,rfl,trivial⟩ rfl (by kernel_rfl) (⟨L2,rfl,rfl⟩)
end
section
open Go.RowKit Go.Maps bq aF
theorem Ff {β:Bs} (A:Option Addr) (c:Nat) (d:List UInt8) (hA:bG β A d) (hl:d.length<=1048576):bp Tryz.prog β 58 #[.slice A d.length c] [] (fun β' v l=>∃ B cap,v=.slice B d.length cap/\l=[]/\bG β' B d/\d.length<=cap):=
  (vz A c d hA (by omega)).Rq (by
    rintro v l ⟨B,cap,rfl,rfl⟩
    refine⟨[],_,rfl,fun β' h=>⟨B,cap,rfl,rfl,h.bytes,?_⟩⟩
    obtain⟨F,h1,_⟩:=h.get 0 rfl
    exact (aH.len h1).2)
theorem Sy {β:Bs} (S:aJ) (L:HL) (o q f m t am an km kn n:Nat) (Z:AZ) (fs:List bh) (xs:List bK) (root:Int) (hrw:(Lit.int .i64 root).wf=true) (hI:Inv S) (hn:n<=8388608) (hZ:fF β Z xs) (hX:ef xs 1048576) (hg:dQ β) (c:aB) (B:Option Addr) (p:Nat) {kS:Int} (ho:kS=if c.op=1 then root else c.other) (hC:lg β { dF B p c with other:=kS }) {S2:aJ} {c2:aB} (hW:aS fs xs root (n+1) S c=(S2,c2)) :
    Spec Tryz.prog β 228 #[vP o,.agg ⟨dr { dF B p c with other:=kS }⟩] ([oB o q f root am n,qB q f km n,aM am an Z xs,kM km kn fs]++pA f m t L S) (fun v l=>∃ L2,v=.agg ⟨dr (dF B p c2)⟩/\l=[oB o q f root am (n+1),qB q f km (n+1),aM am an Z xs,kM km kn fs]++pA f m t L2 S2):=by
  have e:({ dF B p c with other:=kS }:aB)=dF B p (nI root c):=by rw [Ji ho];rfl
  rw [e] at hC ⊢
  have h:=UE S L o q f m t am an km kn n Z fs xs root hrw hI hn _ rfl hZ hX hg (dF B p (nI root c)) hC
  rw [Nd] at h
  have hW:bE (iY fs ((n+1:Nat):Int)) (fK root S (bF xs ((n+1:Nat):Int))) (nI root c)=(S2,c2):=hW
  rw [hW] at h
  exact h
end
section
open Go.RowKit Go.Maps bq aF
attribute [local irreducible] ak aU af aj
noncomputable abbrev Dn (w)(f:Nat) (o) (root) (tA) (tr:List aB) (tC):=(.blk w [.iface 39 (vP w),vP f,.iface 140 (vP o),vI (root),.slice tA (tr.length) (tC)] 53:HP)
noncomputable abbrev AV (am)(Z)(xs)(an):=(.abs (aP Tryz.prog 3 am (gS Z xs) an):HP)
noncomputable abbrev Rv (tA)(tr:List aB) (tC):=(.abs (aH 88 13 tA tr.length tC (bR dr tr)):HP)
noncomputable abbrev UF (w)(f:Nat) (o) (root) (A') (tr:List aB) (k'):=(.blk w [.iface 39 (vP w),vP f,.iface 140 (vP o),vI (root),.slice A' ((tr.length+1)) (k')] 53:HP)
noncomputable abbrev Km (A')(tr:List aB) (k') (B1) (p1) (c2):=(.abs (aH 88 13 A' (tr.length+1) k' (bR dr (tr++[dF B1 p1 c2]))):HP)
noncomputable abbrev UG (o)(q)(f:Nat) (root) (am) (tr:List aB):=(.blk o [.iface 141 (vP q),vP f,vI (root),.map (some am),vI ↑tr.length] 145:HP)
noncomputable abbrev UH (q)(f:Nat) (km) (tr:List aB):=(.blk q [.iface 49 (vP f),.map (some km),vI ↑tr.length] 143:HP)
noncomputable abbrev UI (b1:Nat) (c:aB) (kS) (B1) (p1):=(.blk b1 [vI (c.op),vI (c.handle),vI (kS),.string c.name,.string c.text,.slice B1 (c.data.length) (p1),vI (c.mode),vI (c.uid),vI (c.gid),vI (c.sec),vI (c.nano),vI (c.code),vI (c.answer)] 88:HP)
noncomputable abbrev Dp (b1:Nat) (c2:aB) (B1) (p1):=(.blk b1 [vI (c2.op),vI (c2.handle),vI (c2.other),.string c2.name,.string c2.text,.slice B1 (c2.data.length) (p1),vI (c2.mode),vI (c2.uid),vI (c2.gid),vI (c2.sec),vI (c2.nano),vI (c2.code),vI (c2.answer)] 88:HP)
noncomputable abbrev Il (o)(q)(f:Nat) (root) (am) (tr:List aB):=(.blk o [.iface 141 (vP q),vP f,vI (root),.map (some am),vI ↑(tr.length+1)] 145:HP)
noncomputable abbrev Im (q)(f:Nat) (km) (tr:List aB):=(.blk q [.iface 49 (vP f),.map (some km),vI ↑(tr.length+1)] 143:HP)
noncomputable abbrev UJ (c2:aB) (B1) (p1):=([(0,vI (c2.op)),(1,vI (c2.handle)),(2,vI (c2.other)),(3,.string c2.name),(4,.string c2.text),(5,.slice B1 (c2.data.length) (p1)),(6,vI (c2.mode)),(7,vI (c2.uid)),(8,vI (c2.gid)),(9,vI (c2.sec)),(10,vI (c2.nano)),(11,vI (c2.code)),(12,vI (c2.answer))]:Fr)
theorem Sz {β:Bs} (S:aJ) (L:HL) (w o q f m t am an km kn:Nat) (Z:AZ) (fs:List bh) (xs:List bK) (root:Int) (tr:List aB) (tA:Option Addr) (tC:Nat) (hrw:(Lit.int .i64 root).wf=true) (hI:Inv S) (hn:tr.length<=8388607) (hZ:fF β Z xs) (hX:ef xs 1048576) (hg:dQ β) (c:aB) (hD:bG β c.dA c.data) (hl:c.data.length<=1048576) (hw:(Lit.int .i64 c.handle).wf=true) (how:(Lit.int .i64 c.other).wf=true) (hnm:c.name.size<=1048576) (Dq:c.text.size<=1048576) (hop:lP c.op) {S2:aJ} {c2:aB} (hW:aS fs xs root (tr.length+1) S c=(S2,c2)) :
    bp Tryz.prog β 155 #[vP w,.agg ⟨dr c⟩] ([Dn w f o root tA tr tC,.blk o [.iface 141 (vP q),vP f,vI (root),.map (some am),vI (((tr.length:Nat):Int))] 145,.blk q [.iface 49 (vP f),.map (some km),vI (((tr.length:Nat):Int))] 143,AV am Z xs an,lS km fs kn,Rv tA tr tC]++o6 f m t S L) (fun β' v l=>∃ B1 p1 B2 p2 A' k' L2,v=.agg ⟨dr (dF B2 p2 c2)⟩/\l=([UF w f o root A' tr k',.blk o [.iface 141 (vP q),vP f,vI (root),.map (some am),vI ((((tr.length+1):Nat):Int))] 145,.blk q [.iface 49 (vP f),.map (some km),vI ((((tr.length+1):Nat):Int))] 143,AV am Z xs an,lS km fs kn,Km A' tr k' B1 p1 c2]++o6 f m t S2 L2)/\bG β' B1 c2.data/\bG β' B2 c2.data/\c2.data.length<=p2):=by
 have hd2:c2.data=c.data:=by have h:=Jh (fs:=fs) (xs:=xs) (root:=root) (n:=tr.length+1) (S:=S) (c:=c);rw [hW] at h;exact h
 refine bp.enter Tryz.func155 rfl Tryz.ntmps155 (Nat.le_of_ble_eq_true rfl) (fun hle0 R=>?_)
 refine SR (gN 1 (fun b1=>[(3,vP b1)]) (fun _=>[]) (fun _=>[]) (fun b1=>pC b1 c) (fun b1=>?_))
 refine gN 1 (fun b2=>[(4,vP b2)]) (fun _=>[]) (fun _=>[]) (fun b2=>.blk b2 [vI 0,vI 0,vI 0,.string ⟨#[]⟩,.string ⟨#[]⟩,.slice none (0) (0),vI 0,vI 0,vI 0,vI 0,vI 0,vI 0,vI 0] 88) (fun b2=>?_)
 refine NS (gK 2 [(6,.slice c.dA (c.data.length) (c.dC))] [(1,a_ 13 b1)] ?_)
 refine ak.fJ (d:=(some 7)) (R:=([Dn w f o root tA tr tC,UG o q f root am tr,UH q f km tr,AV am Z xs an,lS km fs kn,Rv tA tr tC]++o6 f m t S L++[.abs R,pC b1 c,rS b2])) (pk:=[0,1,2,3,4,5,6,7,8,9,10,11,12,13,14]) (fun _=>by kernel_rfl) (Ff c.dA c.dC c.data hD hl) rfl (by kernel_rfl) ?_
 rintro Dr _ _ jk ⟨B1,p1,rfl,rfl,Oe,hp1⟩
 replace hD:=hD.le jk
 replace hZ:=hZ.le jk
 replace hg:=hg.le jk
 replace hle0:=hle0.trans jk
 refine gC 2 [] [(1,a_ 13 b1)] [(13,[(5,.slice B1 (c.data.length) (p1))])] ?_
 refine NN (af.join (ι:=Int) (fun (kS:Int)=>(kS=if c.op=1 then root else c.other)/\((Lit.int .i64 kS).wf=true)) (fun (kS:Int)=>([(0,vP w)]++AU b1 b2)) (fun (kS:Int)=>([Dn w f o root tA tr tC,UG o q f root am tr,UH q f km tr,AV am Z xs an,lS km fs kn,Rv tA tr tC]++o6 f m t S L++[.abs R,UI b1 c kS B1 p1,rS b2])) ?_ ?_)
 ·rintro kS ⟨hoth,how⟩
  show af _ _ _ _ ([(0,vP w)]++AU b1 b2) ([Dn w f o root tA tr tC,UG o q f root am tr,UH q f km tr,AV am Z xs an,lS km fs kn,Rv tA tr tC]++o6 f m t S L++[.abs R,UI b1 c kS B1 p1,rS b2]) _
  refine af.seq (af.ck (S:=[Dn w f o root tA tr tC,UI b1 c kS B1 p1]) [0,1,2,3,4,5,6] 5 [0,13] (by kernel_rfl) (by kernel_rfl) rfl (by kernel_rfl) ?_)
  refine gR 0 [5,6] ([(0,vP w)]++AU b1 b2++[(20,.iface 140 (vP o)),(21,.agg #[vI (c.op),vI (c.handle),vI (kS),.string c.name,.string c.text,.slice B1 (c.data.length) (p1),vI (c.mode),vI (c.uid),vI (c.gid),vI (c.sec),vI (c.nano),vI (c.code),vI (c.answer)])]) [0,1,2,3,4] [(3,a_ 0 w),(4,A_ 1 b1 13)] ?_
  refine mL [10,13] [1,2,3,4,6,7,8,9,10,11] (Sy (β:=Dr) S L o q f m t am an km kn tr.length Z fs xs root hrw hI (by omega) hZ hX hg c B1 p1 hoth ⟨hw,how,hnm,Dq,Oe,Nat.le_trans hl (by decide),hp1,hop⟩ hW) ?_ (by rintro _ _ ⟨L2,rfl,rfl⟩;rfl)
  rintro _ _ ⟨L2,rfl,rfl⟩
  refine aQ.last rfl rfl ?_
  refine gC 1 [] [(0,A_ 13 b1 13)] [(13,(UJ c2 B1 p1))] ?_
  refine NL (aj.np (NX (af.seq ?_)))
  refine af.ck (S:=[Dn w f o root tA tr tC,Dp b1 c2 B1 p1]) [0,1,2,3,4,5,6,7,8,9,10] 6 [10,13] (by kernel_rfl) (by kernel_rfl) rfl (by kernel_rfl) ?_
  refine gR 0 [6,7,8,9,10] (AU b1 b2++[(23,vP w),(27,.slice tA (tr.length) (tC)),(28,.agg ⟨dr (dF B1 p1 c2)⟩)]) [0,1,2,3,4,5] [(4,a_ 0 w),(5,A_ 1 b1 13)] ?_
  refine mN [10,13] (fun b4=>[(29,.slice (some ⟨b4,0,none⟩) (1) (1))]) (fun _=>[]) (fun b4=>.blk b4 [vI (c2.op),vI (c2.handle),vI (c2.other),.string c2.name,.string c2.text,.slice B1 (c2.data.length) (p1),vI (c2.mode),vI (c2.uid),vI (c2.gid),vI (c2.sec),vI (c2.nano),vI (c2.code),vI (c2.answer)] 88) (fun b4=>?_)
  refine aQ.cut (ι:=(Option Addr)×Nat) (fr':=fun ((A5,c6):(Option Addr)×Nat)=>[(3,vP b1),(4,vP b2),(23,vP w),(30,.slice A5 ((tr.length+1)) (c6))]) (hp':=fun ((A5,c6):(Option Addr)×Nat)=>([Il o q f root am tr,Im q f km tr,AV am Z xs an,lS km fs kn]++o6 f m t S2 L2++[Dn w f o root tA tr tC,Km A5 tr c6 B1 p1 c2,.abs R,Dp b1 c2 B1 p1,rS b2,Dp b4 c2 B1 p1])) [10,13] rfl rfl ?_ rfl (fun _=>by kernel_rfl) ?_
  ·refine ak.append 11 (d:=(some 30)) (t:=51) (e:=88) (z:=.agg #[vI 0,vI 0,vI 0,.string ⟨#[]⟩,.string ⟨#[]⟩,.slice none (0) (0),vI 0,vI 0,vI 0,vI 0,vI 0,vI 0,vI 0]) (size:=13) (bytes:=136) (n:=tr.length) (cap:=tC) (A:=tA) (xs:=(bR dr tr)) (s:=(.tmp 27)) (x:=(.tmp 29)) (ats:=#[51,51]) (A':=some ⟨b4,0,none⟩) (m:=1) (c':=1) (news:=[vI (c2.op),vI (c2.handle),vI (c2.other),.string c2.name,.string c2.text,.slice B1 (c2.data.length) (p1),vI (c2.mode),vI (c2.uid),vI (c2.gid),vI (c2.sec),vI (c2.nano),vI (c2.code),vI (c2.answer)]) (fun _=>by kernel_rfl) rfl (by kernel_rfl) (fun _=>by kernel_rfl) (fun _=>by kernel_rfl) Tryz.underlying51 (by kernel_rfl) rfl (by decide) (rfl) (by simp [Value.oneCell']) (mA (j:=15) rfl) (by unfold maxLen;omega) (by omega) (fun A5 c6=>?_)
   refine ak.dV 11 (p:=.abs (aH 88 13 A5 (tr.length+1) c6 ((bR dr tr)++[vI (c2.op),vI (c2.handle),vI (c2.other),.string c2.name,.string c2.text,.slice B1 (c2.data.length) (p1),vI (c2.mode),vI (c2.uid),vI (c2.gid),vI (c2.sec),vI (c2.nano),vI (c2.code),vI (c2.answer)]))) (p':=.abs (aH 88 13 A5 (tr.length+1) c6 (bR dr (tr++[dF B1 p1 c2])))) (by kernel_rfl) (congrArg (fun x=>HP.abs (aH 88 13 _ _ _ x)) (CU dr (dF B1 p1 c2) tr).symm) ?_
   refine ak.slot 30 (.slice A5 (tr.length+1) (c6)) (.slice A5 ((tr.length+1)) (c6)) (fun _=>by kernel_rfl) (rfl) ?_
   refine NL ?_
   exact MD (A5,c6) [3,4,23,30] [0,1,2,3,4,5,6,7,8,9,10,11,12,13,14,15]
  rintro⟨A5,c6⟩
  refine aQ.cut (ι:=Unit) (fr':=fun (_:Unit)=>[(3,vP b1),(4,vP b2),(30,.slice A5 ((tr.length+1)) (c6)),(31,vP w)]) (hp':=fun (_:Unit)=>([Il o q f root am tr,Im q f km tr,AV am Z xs an,lS km fs kn]++o6 f m t S2 L2++[Dn w f o root tA tr tC,Km A5 tr c6 B1 p1 c2,.abs R,Dp b1 c2 B1 p1,rS b2,Dp b4 c2 B1 p1])) [10,13] rfl rfl ?_ rfl (fun _=>by kernel_rfl) ?_
  ·refine gK 1 [(31,vP w)] [] ?_
   refine NL ?_
   exact MD () [3,4,30,31] [0,1,2,3,4,5,6,7,8,9,10,11,12,13,14,15]
  rintro _
  refine aQ.cut (ι:=Unit) (fr':=fun (_:Unit)=>[(3,vP b1),(4,vP b2),(30,.slice A5 ((tr.length+1)) (c6)),(32,.pointer (some ⟨w,4,none⟩))]) (hp':=fun (_:Unit)=>([Il o q f root am tr,Im q f km tr,AV am Z xs an,lS km fs kn]++o6 f m t S2 L2++[Dn w f o root tA tr tC,Km A5 tr c6 B1 p1 c2,.abs R,Dp b1 c2 B1 p1,rS b2,Dp b4 c2 B1 p1])) [10,13] rfl rfl ?_ rfl (fun _=>by kernel_rfl) ?_
  ·refine gK 1 [(32,.pointer (some ⟨w,4,none⟩))] [] ?_
   refine NL ?_
   exact MD () [3,4,30,32] [0,1,2,3,4,5,6,7,8,9,10,11,12,13,14,15]
  rintro _
  refine aQ.last rfl rfl ?_
  refine gC 1 [] [(0,a_ 10 w)] [(10,[(4,.slice A5 ((tr.length+1)) (c6))])] ?_
  refine NL (aj.np (NX (SR ?_)))
  refine gK 2 [(34,.slice B1 (c2.data.length) (p1))] [(1,a_ 13 b1)] ?_
  refine ak.fJ (d:=(some 35)) (R:=([Il o q f root am tr,Im q f km tr,AV am Z xs an,lS km fs kn]++o6 f m t S2 L2++[UF w f o root A5 tr c6,Km A5 tr c6 B1 p1 c2,.abs R,Dp b1 c2 B1 p1,rS b2,Dp b4 c2 B1 p1])) (pk:=[0,1,2,3,4,5,6,7,8,9,10,11,12,13,14,15]) (fun _=>by kernel_rfl) (Ff B1 p1 c2.data (by rw [hd2];exact Oe) (by rw [hd2];exact hl)) rfl (by kernel_rfl) ?_
  rintro zx _ _ gU ⟨B2,p2,rfl,rfl,YB,hp2⟩
  replace hD:=hD.le gU
  replace hZ:=hZ.le gU
  replace hg:=hg.le gU
  replace Oe:=Oe.le gU
  replace hle0:=hle0.trans gU
  refine gC 2 [] [(1,a_ 13 b1)] [(13,[(5,.slice B2 (c2.data.length) (p2))])] ?_
  refine NS (gC 2 [] [(0,A_ 13 b1 13),(1,A_ 14 b2 13)] [(14,(UJ c2 B2 p2))] ?_)
  refine NN (af.ret ?_)
  exact aj.iz (v:=.agg ⟨dr (dF B2 p2 c2)⟩) (l:=([UF w f o root A5 tr c6,Il o q f root am tr,Im q f km tr,AV am Z xs an,lS km fs kn,Km A5 tr c6 B1 p1 c2]++o6 f m t S2 L2)) (aZ:=[b2=b2,b2=b2,b2=b2,b2=b2,b2=b2,b2=b2,b2=b2,b2=b2,b2=b2,b2=b2,b2=b2,b2=b2,b2=b2]) [.at 14,.at 14,.at 14,.at 14,.at 14,.at 14,.at 14,.at 14,.at 14,.at 14,.at 14,.at 14,.at 14] [10,0,1,2,3,11,4,5,6,7,8,9,12] hle0 (fun _=>by kernel_rfl) ⟨rfl,rfl,rfl,rfl,rfl,rfl,rfl,rfl,rfl,rfl,rfl,rfl,rfl,trivial⟩ rfl (by kernel_rfl) (⟨B1,p1,B2,p2,A5,c6,L2,rfl,rfl,by rw [hd2];exact Oe,YB,hp2⟩)
 refine SR (gK 3 [(11,.bool (decide ((c.op:Int)=(1:Int))))] [(1,a_ 13 b1)] ?_)
 refine NN (af.aW (p:=(c.op:Int)=(1:Int)) (fun _=>by kernel_rfl) (fun h11=>?_) (fun h11=>?_))
 ·refine af.region (gC 6 [] [(3,a_ 0 w),(5,a_ 13 b1)] [(13,[(2,vI (root))])] ?_)
  refine NL ?_
  exact aj.meet root (idx:=[0,3,4]) (pk:=[0,1,2,3,4,5,6,7,8,9,10,11,12,13,14]) (show (root=if c.op=1 then root else c.other)/\((Lit.int .i64 root).wf=true) from ⟨(if_pos h11).symm,hrw⟩) (fun _=>by kernel_rfl) rfl (by kernel_rfl)
 refine af.skip ?_
 exact aj.meet c.other (idx:=[0,3,4]) (pk:=[0,1,2,3,4,5,6,7,8,9,10,11,12,13,14]) (show (c.other=if c.op=1 then root else c.other)/\((Lit.int .i64 c.other).wf=true) from ⟨(if_neg h11).symm,how⟩) (fun _=>by kernel_rfl) rfl (by kernel_rfl)
end
section
open Go.RowKit Go.Maps bq aF
section d
variable {β:Bs} {fs:List bh} {xs:List bK} {root:Int} {S S2:aJ} {V:WV} {tr:List aB} {c c2:aB} {G:WG}
theorem Io (hrw:(Lit.int .i64 root).wf=true) (hI:Inv S) (hn:tr.length<=8388607) (hZ:fF β G.Z xs) (hX:ef xs 1048576) (hg:dQ β) (hD:bG β c.dA c.data) (hl:c.data.length<=1048576) (hw:(Lit.int .i64 c.handle).wf=true) (how:(Lit.int .i64 c.other).wf=true) (hnm:c.name.size<=1048576) (Dq:c.text.size<=1048576) (hop:lP c.op) (hW:aS fs xs root (tr.length+1) S c=(S2,c2)) :
    bp Tryz.prog β 155 #[vP G.w,.agg ⟨dr c⟩] [wA G fs xs root S V tr] (fun β' v l=>∃ (V':WV) (B1:Option Addr) (p1:Nat) (B2:Option Addr) (p2:Nat),v=.agg ⟨dr (dF B2 p2 c2)⟩/\l=[wA G fs xs root S2 V' (tr++[dF B1 p1 c2])]/\bG β' B1 c2.data/\bG β' B2 c2.data/\c2.data.length<=p2):=
  (Sz S V.L G.w G.o G.q G.f G.m G.t G.am G.an G.km G.kn G.Z fs xs root tr V.A V.c hrw hI hn hZ hX hg c hD hl hw how hnm Dq hop hW).one.mono (by
    rintro β' v l _ ⟨l0,⟨B1,p1,B2,p2,A',k',L2,rfl,rfl,h1,h2,h3⟩,rfl⟩
    refine⟨⟨L2,A',k'⟩,B1,p1,B2,p2,rfl,?_,h1,h2,h3⟩
    unfold wA wP tR
    rw [List.length_append]
    rfl)
theorem qM:Spec Tryz.prog β 14 #[vP G.w] [wA G fs xs root S V tr] (fun v l=>v=.int .i64 (S.us.length:Int)/\l=[wA G fs xs root S V tr]):=
  (Oa S V.L G.w G.o G.q G.f G.m G.t G.am G.an G.km G.kn G.Z fs xs root tr V.A V.c).one.mono (by rintro v l ⟨l0,⟨rfl,rfl⟩,rfl⟩;exact⟨rfl,rfl⟩)
theorem zy (hI:Inv S):Spec Tryz.prog β 17 #[vP G.w] [wA G fs xs root S V tr] (fun v l=>∃ A cp K,v=.agg #[.slice A (av S).length cp]/\l=[wA G fs xs root S V tr]++GZ A cp (av S) K):=by
  intro R w hS
  have h1:Sat β ([.abs R]++[wA G fs xs root S V tr]) w:=Sat.turn hS
  refine (LJ S V.L G.w G.o G.q G.f G.m G.t G.am G.an G.km G.kn G.Z fs xs root tr V.A V.c hI R w (Sat.turn (Sat.o9 h1))).mono ?_
  rintro e w' ⟨v,l,h2,⟨A,cp,K,h3,rfl⟩,h4⟩
  refine⟨v,_,h2,⟨A,cp,K,h3,rfl⟩,?_⟩
  rw [List.append_assoc] at h4
  have h5:=(Sat.turn h4).fD
  rw [List.append_assoc] at h5 ⊢
  exact Sat.turn h5
theorem LK (hI:Inv S):bp Tryz.prog β 17 #[vP G.w] [wA G fs xs root S V tr] (fun β' v l=>∃ A cp K,v=.agg #[.slice A (av S).length cp]/\l=[wA G fs xs root S V tr]/\aE β' A (av S) K):=
  (zy hI).Rq (by
    rintro v l ⟨A,cp,K,rfl,rfl⟩
    exact⟨_,_,rfl,fun β' h=>⟨A,cp,K,rfl,rfl,h.graph⟩⟩)
theorem SB {ns:List aI} {Y:Lay} {X:FM} (A:Option Addr) (cp:Nat) (hG:aE β A ns Y) (hB:fN ns 1048576) {Af Aa:Option Addr} (cf ca:Nat) (hF:cM β Af (bR fU fs)) (mP:jj fs 2097152) (hA:cM β Aa (bR gM xs)) (hab:ef xs 1048576) :
    bp Tryz.prog β 26 #[.agg #[.slice A ns.length cp],.int .i64 root,.agg #[.int .i64 X.cN,.int .i64 X.cB,.int .i64 X.cH,.int .i64 X.cS,.int .i64 X.cZ],.agg #[.slice Af fs.length cf,.slice Aa xs.length ca]] [] (fun β' v l=>(cU X ns root≠0/\v=.tuple #[.pointer none,.int .i64 (cU X ns root)]/\l=[])\/(cU X ns root=0/\∃ (N:tY X ns) (G:WG) (V:WV),v=.tuple #[vP G.w,.int .i64 0]/\l=[wA G fs xs root N.1 V []]/\fF β' G.Z xs)):=
  ((Qq A cp ns Y hG hB X root Af cf fs hF mP Aa ca xs hA hab).Uc (by
    rintro β' v l (⟨h1,h2,rfl⟩|⟨h1,N,L,w,o,q,f,m,t,am,an,km,kn,Z,h2,rfl,h3⟩)
    ·exact .inl ⟨rfl,.inl ⟨h1,h2,rfl⟩⟩
    exact .inr (.inr ⟨h1,N,⟨w,o,q,am,km,an,kn,f,m,t,Z⟩,⟨L,none,0⟩,h2,rfl,h3⟩)))
end d
end
section
open Go.RowKit Go.Maps bq aF
attribute [local irreducible] ak aU af aj
theorem Ds {β:Bs} {G:WG} {fs:List bh} {xs:List bK} {root:Int} {S S2:aJ} {V:WV} {tr:List aB} (hrw:(Lit.int .i64 root).wf=true) (hI:Inv S) (hn:tr.length<=8388607) (hZ:fF β G.Z xs) (hX:ef xs 1048576) (hg:dQ β) (c:aB) (hD:bG β c.dA c.data) (hl:c.data.length<=1048576) (hw:(Lit.int .i64 c.handle).wf=true) (how:(Lit.int .i64 c.other).wf=true) (hnm:c.name.size<=1048576) (Dq:c.text.size<=1048576) (hop:lP c.op) {c2:aB} (hW:aS fs xs root (tr.length+1) S c=(S2,c2)) :
    bp Tryz.prog β 28 #[.agg #[.iface 39 (vP G.w)],.agg #[vI (c.op),vI (c.handle),vI (c.other),.string c.name,.string c.text,.slice c.dA (c.data.length) (c.dC),vI (c.mode),vI (c.uid),vI (c.gid),vI (c.sec),vI (c.nano),vI (c.code),vI (c.answer)]] [wA G fs xs root S V tr] (fun _ v l=>∃ (V':WV) (eE:List aB),v=.tuple #[vI c2.answer,vI c2.code]/\l=[wA G fs xs root S2 V' eE]/\eE.length=tr.length+1):=by
 refine bp.enter Tryz.func28 rfl Tryz.ntmps28 (Nat.le_of_ble_eq_true rfl) (fun hle0 R=>?_)
 refine SR (gN 1 (fun b1=>[(2,vP b1)]) (fun _=>[]) (fun _=>[]) (fun b1=>.blk b1 [.iface 39 (vP G.w)] 48) (fun b1=>?_))
 refine gN 3 (fun b2=>[(3,vP b2)]) (fun _=>[]) (fun _=>[]) (fun b2=>.blk b2 [vI (c.op),vI (c.handle),vI (c.other),.string c.name,.string c.text,.slice c.dA (c.data.length) (c.dC),vI (c.mode),vI (c.uid),vI (c.gid),vI (c.sec),vI (c.nano),vI (c.code),vI (c.answer)] 88) (fun b2=>?_)
 refine NS (gK 3 [(7,.iface 39 (vP G.w)),(8,.agg #[vI (c.op),vI (c.handle),vI (c.other),.string c.name,.string c.text,.slice c.dA (c.data.length) (c.dC),vI (c.mode),vI (c.uid),vI (c.gid),vI (c.sec),vI (c.nano),vI (c.code),vI (c.answer)])] [(1,a_ 2 b1),(2,A_ 3 b2 13)] ?_)
 refine ak.fJ (d:=(some 9)) (R:=[.abs R,.blk b1 [.iface 39 (vP G.w)] 48,pC b2 c]) (pk:=[0,1,2,3]) (fun _=>by kernel_rfl) (Io (β:=β) (G:=G) (fs:=fs) (xs:=xs) (S:=S) (V:=V) (tr:=tr) (c:=c) (c2:=c2) (S2:=S2) hrw hI hn hZ hX hg hD hl hw how hnm Dq hop hW) rfl (by kernel_rfl) ?_
 rintro Dr _ _ jk ⟨V',B1,p1,B2,p2,rfl,rfl,_,_,_⟩
 replace hle0:=hle0.trans jk
 refine gC 1 [] [(0,A_ 3 b2 13)] [(3,[(0,vI (c2.op)),(1,vI (c2.handle)),(2,vI (c2.other)),(3,.string c2.name),(4,.string c2.text),(5,.slice B2 (c2.data.length) (p2)),(6,vI (c2.mode)),(7,vI (c2.uid)),(8,vI (c2.gid)),(9,vI (c2.sec)),(10,vI (c2.nano)),(11,vI (c2.code)),(12,vI (c2.answer))])] ?_
 refine NN (af.seq (af.eM (by kernel_rfl) (by kernel_rfl) ?_))
 refine gQ 6 [(4,vI (c2.answer)),(5,vI (c2.code))] [(1,a_ 3 b2),(3,a_ 3 b2)] ?_
 refine NQ (NX (af.ret ?_))
 exact aj.iz (v:=.tuple #[vI (c2.answer),vI (c2.code)]) (l:=[wA G fs xs root S2 V' (tr++[dF B1 p1 c2])]) (aZ:=[]) [] [0,1] hle0 (fun _=>by kernel_rfl) trivial rfl (by kernel_rfl) (⟨V',_,rfl,rfl,by rw [List.length_append];rfl⟩)
theorem Ip {β:Bs} {G:WG} {fs:List bh} {xs:List bK} {root:Int} {S S2:aJ} {V:WV} {tr:List aB} (hrw:(Lit.int .i64 root).wf=true) (hI:Inv S) (hn:tr.length<=8388607) (hZ:fF β G.Z xs) (hX:ef xs 1048576) (hg:dQ β) (c:aB) (hD:bG β c.dA c.data) (hl:c.data.length<=1048576) (hw:(Lit.int .i64 c.handle).wf=true) (how:(Lit.int .i64 c.other).wf=true) (hnm:c.name.size<=1048576) (Dq:c.text.size<=1048576) (hop:lP c.op) {c2:aB} (hW:aS fs xs root (tr.length+1) S c=(S2,c2)) :
    bp Tryz.prog β 52 #[.agg #[.iface 39 (vP G.w)],.agg #[vI (c.op),vI (c.handle),vI (c.other),.string c.name,.string c.text,.slice c.dA (c.data.length) (c.dC),vI (c.mode),vI (c.uid),vI (c.gid),vI (c.sec),vI (c.nano),vI (c.code),vI (c.answer)]] [wA G fs xs root S V tr] (fun _ v l=>∃ (V':WV) (eE:List aB),v=vI c2.code/\l=[wA G fs xs root S2 V' eE]/\eE.length=tr.length+1):=by
 refine bp.enter Tryz.func52 rfl Tryz.ntmps52 (Nat.le_of_ble_eq_true rfl) (fun hle0 R=>?_)
 refine SR (gN 1 (fun b4=>[(2,vP b4)]) (fun _=>[]) (fun _=>[]) (fun b4=>.blk b4 [.iface 39 (vP G.w)] 48) (fun b4=>?_))
 refine gN 2 (fun b5=>[(3,vP b5)]) (fun _=>[]) (fun _=>[]) (fun b5=>.blk b5 [vI (c.op),vI (c.handle),vI (c.other),.string c.name,.string c.text,.slice c.dA (c.data.length) (c.dC),vI (c.mode),vI (c.uid),vI (c.gid),vI (c.sec),vI (c.nano),vI (c.code),vI (c.answer)] 88) (fun b5=>?_)
 refine NS (gK 3 [(6,.iface 39 (vP G.w)),(7,.agg #[vI (c.op),vI (c.handle),vI (c.other),.string c.name,.string c.text,.slice c.dA (c.data.length) (c.dC),vI (c.mode),vI (c.uid),vI (c.gid),vI (c.sec),vI (c.nano),vI (c.code),vI (c.answer)])] [(1,a_ 2 b4),(2,A_ 3 b5 13)] ?_)
 refine ak.fJ (d:=(some 8)) (R:=[.abs R,.blk b4 [.iface 39 (vP G.w)] 48,pC b5 c]) (pk:=[0,1,2,3]) (fun _=>by kernel_rfl) (Io (β:=β) (G:=G) (fs:=fs) (xs:=xs) (S:=S) (V:=V) (tr:=tr) (c:=c) (c2:=c2) (S2:=S2) hrw hI hn hZ hX hg hD hl hw how hnm Dq hop hW) rfl (by kernel_rfl) ?_
 rintro WL _ _ o7 ⟨V',B1,p1,B2,p2,rfl,rfl,_,_,_⟩
 replace hle0:=hle0.trans o7
 refine gK 2 [(4,vI (c2.code))] [] ?_
 refine NN (af.ret ?_)
 exact aj.iz (v:=.int .i64 (c2.code)) (l:=[wA G fs xs root S2 V' (tr++[dF B1 p1 c2])]) (aZ:=[]) [] [0,1] hle0 (fun _=>by kernel_rfl) trivial rfl (by kernel_rfl) (⟨V',_,rfl,rfl,by rw [List.length_append];rfl⟩)
theorem Iq {β:Bs} {G:WG} {fs:List bh} {xs:List bK} {root:Int} {S S2:aJ} {V:WV} {tr:List aB} (hrw:(Lit.int .i64 root).wf=true) (hI:Inv S) (hn:tr.length<=8388607) (hZ:fF β G.Z xs) (hX:ef xs 1048576) (hg:dQ β) (id:Int) (how:(Lit.int .i64 id).wf=true) {c2:aB} (hW:aS fs xs root (tr.length+1) S (⟨1,0,id,⟨#[]⟩,⟨#[]⟩,none,0,[],0,0,0,0,0,0,0⟩:aB)=(S2,c2)) :
    bp Tryz.prog β 9 #[.agg #[.iface 39 (vP G.w)],vI (id)] [wA G fs xs root S V tr] (fun _ v l=>∃ (V':WV) (eE:List aB),v=.tuple #[vI c2.answer,vI c2.code]/\l=[wA G fs xs root S2 V' eE]/\eE.length=tr.length+1):=by
 refine bp.enter Tryz.func9 rfl Tryz.ntmps9 (Nat.le_of_ble_eq_true rfl) (fun hle0 R=>?_)
 refine SR (gN 3 (fun b7=>[(2,vP b7)]) (fun _=>[]) (fun _=>[]) (fun b7=>.blk b7 [.iface 39 (vP G.w)] 48) (fun b7=>?_))
 refine NS (gK 3 [(6,.agg #[.iface 39 (vP G.w)]),(8,.agg #[vI 1,vI 0,vI (id),.string ⟨#[]⟩,.string ⟨#[]⟩,.slice none (0) (0),vI 0,vI 0,vI 0,vI 0,vI 0,vI 0,vI 0])] [(0,a_ 2 b7)] ?_)
 refine ak.fJ (d:=(some 9)) (R:=[.abs R,.blk b7 [.iface 39 (vP G.w)] 48]) (pk:=[0,1,2]) (fun _=>by kernel_rfl) (Ds (β:=β) (G:=G) (fs:=fs) (xs:=xs) (S:=S) (V:=V) (tr:=tr) (S2:=S2) (c2:=c2) hrw hI hn hZ hX hg (⟨1,0,id,⟨#[]⟩,⟨#[]⟩,none,0,[],0,0,0,0,0,0,0⟩:aB) (fun j v h=>by cases h) (Nat.zero_le _) (by show (Lit.int .i64 0).wf=true;decide) how (Nat.zero_le _) (Nat.zero_le _) (by show lP 1;first|exact rfl|(unfold lP;decide)) hW) rfl (by kernel_rfl) ?_
 rintro AX _ _ kC ⟨V',eE,rfl,rfl,ht⟩
 replace hle0:=hle0.trans kC
 refine gK 4 [(4,vI (c2.answer)),(5,vI (c2.code))] [] ?_
 refine NN (af.ret ?_)
 exact aj.iz (v:=.tuple #[vI (c2.answer),vI (c2.code)]) (l:=[wA G fs xs root S2 V' eE]) (aZ:=[]) [] [0,1] hle0 (fun _=>by kernel_rfl) trivial rfl (by kernel_rfl) (⟨V',eE,rfl,rfl,ht⟩)
theorem vA {β:Bs} {G:WG} {fs:List bh} {xs:List bK} {root:Int} {S S2:aJ} {V:WV} {tr:List aB} (hrw:(Lit.int .i64 root).wf=true) (hI:Inv S) (hn:tr.length<=8388607) (hZ:fF β G.Z xs) (hX:ef xs 1048576) (hg:dQ β) (h:Int) (hw:(Lit.int .i64 h).wf=true) (name:ByteArray) (hnm:name.size<=1048576) {c2:aB} (hW:aS fs xs root (tr.length+1) S (⟨2,h,0,name,⟨#[]⟩,none,0,[],0,0,0,0,0,0,0⟩:aB)=(S2,c2)) :
    bp Tryz.prog β 53 #[.agg #[.iface 39 (vP G.w)],vI (h),.string name] [wA G fs xs root S V tr] (fun _ v l=>∃ (V':WV) (eE:List aB),v=.tuple #[vI c2.answer,vI c2.code]/\l=[wA G fs xs root S2 V' eE]/\eE.length=tr.length+1):=by
 refine bp.enter Tryz.func53 rfl Tryz.ntmps53 (Nat.le_of_ble_eq_true rfl) (fun hle0 R=>?_)
 refine SR (gN 3 (fun b9=>[(3,vP b9)]) (fun _=>[]) (fun _=>[]) (fun b9=>.blk b9 [.iface 39 (vP G.w)] 48) (fun b9=>?_))
 refine NS (gK 4 [(8,.agg #[.iface 39 (vP G.w)]),(11,.agg #[vI 2,vI (h),vI 0,.string name,.string ⟨#[]⟩,.slice none (0) (0),vI 0,vI 0,vI 0,vI 0,vI 0,vI 0,vI 0])] [(0,a_ 2 b9)] ?_)
 refine ak.fJ (d:=(some 12)) (R:=[.abs R,.blk b9 [.iface 39 (vP G.w)] 48]) (pk:=[0,1,2]) (fun _=>by kernel_rfl) (Ds (β:=β) (G:=G) (fs:=fs) (xs:=xs) (S:=S) (V:=V) (tr:=tr) (S2:=S2) (c2:=c2) hrw hI hn hZ hX hg (⟨2,h,0,name,⟨#[]⟩,none,0,[],0,0,0,0,0,0,0⟩:aB) (fun j v h=>by cases h) (Nat.zero_le _) hw (by show (Lit.int .i64 0).wf=true;decide) hnm (Nat.zero_le _) (by show lP 2;first|exact rfl|(unfold lP;decide)) hW) rfl (by kernel_rfl) ?_
 rintro LI _ _ jK ⟨V',eE,rfl,rfl,ht⟩
 replace hle0:=hle0.trans jK
 refine gK 4 [(6,vI (c2.answer)),(7,vI (c2.code))] [] ?_
 refine NN (af.ret ?_)
 exact aj.iz (v:=.tuple #[vI (c2.answer),vI (c2.code)]) (l:=[wA G fs xs root S2 V' eE]) (aZ:=[]) [] [0,1] hle0 (fun _=>by kernel_rfl) trivial rfl (by kernel_rfl) (⟨V',eE,rfl,rfl,ht⟩)
theorem Og {β:Bs} {G:WG} {fs:List bh} {xs:List bK} {root:Int} {S S2:aJ} {V:WV} {tr:List aB} (hrw:(Lit.int .i64 root).wf=true) (hI:Inv S) (hn:tr.length<=8388607) (hZ:fF β G.Z xs) (hX:ef xs 1048576) (hg:dQ β) (h:Int) (hw:(Lit.int .i64 h).wf=true) (name:ByteArray) (hnm:name.size<=1048576) (mode:Int) {c2:aB} (hW:aS fs xs root (tr.length+1) S (⟨4,h,0,name,⟨#[]⟩,none,0,[],mode,0,0,0,0,0,0⟩:aB)=(S2,c2)) :
    bp Tryz.prog β 54 #[.agg #[.iface 39 (vP G.w)],vI (h),.string name,vI (mode)] [wA G fs xs root S V tr] (fun _ v l=>∃ (V':WV) (eE:List aB),v=vI c2.code/\l=[wA G fs xs root S2 V' eE]/\eE.length=tr.length+1):=by
 refine bp.enter Tryz.func54 rfl Tryz.ntmps54 (Nat.le_of_ble_eq_true rfl) (fun hle0 R=>?_)
 refine SR (gN 2 (fun b11=>[(4,vP b11)]) (fun _=>[]) (fun _=>[]) (fun b11=>.blk b11 [.iface 39 (vP G.w)] 48) (fun b11=>?_))
 refine NS (gK 5 [(9,.agg #[.iface 39 (vP G.w)]),(13,.agg #[vI 4,vI (h),vI 0,.string name,.string ⟨#[]⟩,.slice none (0) (0),vI (mode),vI 0,vI 0,vI 0,vI 0,vI 0,vI 0])] [(0,a_ 2 b11)] ?_)
 refine ak.fJ (d:=(some 14)) (R:=[.abs R,.blk b11 [.iface 39 (vP G.w)] 48]) (pk:=[0,1,2]) (fun _=>by kernel_rfl) (Ip (β:=β) (G:=G) (fs:=fs) (xs:=xs) (S:=S) (V:=V) (tr:=tr) (S2:=S2) (c2:=c2) hrw hI hn hZ hX hg (⟨4,h,0,name,⟨#[]⟩,none,0,[],mode,0,0,0,0,0,0⟩:aB) (fun j v h=>by cases h) (Nat.zero_le _) hw (by show (Lit.int .i64 0).wf=true;decide) hnm (Nat.zero_le _) (by show lP 4;first|exact rfl|(unfold lP;decide)) hW) rfl (by kernel_rfl) ?_
 rintro p8 _ _ cV ⟨V',eE,rfl,rfl,ht⟩
 replace hle0:=hle0.trans cV
 refine gK 1 [(8,vI (c2.code))] [] ?_
 refine NN (af.ret ?_)
 exact aj.iz (v:=.int .i64 (c2.code)) (l:=[wA G fs xs root S2 V' eE]) (aZ:=[]) [] [0,1] hle0 (fun _=>by kernel_rfl) trivial rfl (by kernel_rfl) (⟨V',eE,rfl,rfl,ht⟩)
theorem Fg {β:Bs} {G:WG} {fs:List bh} {xs:List bK} {root:Int} {S S2:aJ} {V:WV} {tr:List aB} (hrw:(Lit.int .i64 root).wf=true) (hI:Inv S) (hn:tr.length<=8388607) (hZ:fF β G.Z xs) (hX:ef xs 1048576) (hg:dQ β) (h:Int) (hw:(Lit.int .i64 h).wf=true) {c2:aB} (hW:aS fs xs root (tr.length+1) S (⟨13,h,0,⟨#[]⟩,⟨#[]⟩,none,0,[],0,0,0,0,0,0,0⟩:aB)=(S2,c2)) :
    bp Tryz.prog β 30 #[.agg #[.iface 39 (vP G.w)],vI (h)] [wA G fs xs root S V tr] (fun _ v l=>∃ (V':WV) (eE:List aB),v=vI c2.code/\l=[wA G fs xs root S2 V' eE]/\eE.length=tr.length+1):=by
 refine bp.enter Tryz.func30 rfl Tryz.ntmps30 (Nat.le_of_ble_eq_true rfl) (fun hle0 R=>?_)
 refine SR (gN 2 (fun b13=>[(2,vP b13)]) (fun _=>[]) (fun _=>[]) (fun b13=>.blk b13 [.iface 39 (vP G.w)] 48) (fun b13=>?_))
 refine NS (gK 3 [(5,.agg #[.iface 39 (vP G.w)]),(7,.agg #[vI 13,vI (h),vI 0,.string ⟨#[]⟩,.string ⟨#[]⟩,.slice none (0) (0),vI 0,vI 0,vI 0,vI 0,vI 0,vI 0,vI 0])] [(0,a_ 2 b13)] ?_)
 refine ak.fJ (d:=(some 8)) (R:=[.abs R,.blk b13 [.iface 39 (vP G.w)] 48]) (pk:=[0,1,2]) (fun _=>by kernel_rfl) (Ip (β:=β) (G:=G) (fs:=fs) (xs:=xs) (S:=S) (V:=V) (tr:=tr) (S2:=S2) (c2:=c2) hrw hI hn hZ hX hg (⟨13,h,0,⟨#[]⟩,⟨#[]⟩,none,0,[],0,0,0,0,0,0,0⟩:aB) (fun j v h=>by cases h) (Nat.zero_le _) hw (by show (Lit.int .i64 0).wf=true;decide) (Nat.zero_le _) (Nat.zero_le _) (by show lP 13;first|exact rfl|(unfold lP;decide)) hW) rfl (by kernel_rfl) ?_
 rintro UK _ _ jh ⟨V',eE,rfl,rfl,ht⟩
 replace hle0:=hle0.trans jh
 refine gK 1 [(4,vI (c2.code))] [] ?_
 refine NN (af.ret ?_)
 exact aj.iz (v:=.int .i64 (c2.code)) (l:=[wA G fs xs root S2 V' eE]) (aZ:=[]) [] [0,1] hle0 (fun _=>by kernel_rfl) trivial rfl (by kernel_rfl) (⟨V',eE,rfl,rfl,ht⟩)
theorem Qr {β:Bs} {G:WG} {fs:List bh} {xs:List bK} {root:Int} {S S2:aJ} {V:WV} {tr:List aB} (hrw:(Lit.int .i64 root).wf=true) (hI:Inv S) (hn:tr.length<=8388607) (hZ:fF β G.Z xs) (hX:ef xs 1048576) (hg:dQ β) (c:aB) (hD:bG β c.dA c.data) (hl:c.data.length<=1048576) (hw:(Lit.int .i64 c.handle).wf=true) (how:(Lit.int .i64 c.other).wf=true) (hnm:c.name.size<=1048576) (Dq:c.text.size<=1048576) (hop:lP c.op) {c2:aB} (hW:aS fs xs root (tr.length+1) S c=(S2,c2)) :
    bp Tryz.prog β 34 #[.agg #[.iface 39 (vP G.w)],.agg #[vI (c.op),vI (c.handle),vI (c.other),.string c.name,.string c.text,.slice c.dA (c.data.length) (c.dC),vI (c.mode),vI (c.uid),vI (c.gid),vI (c.sec),vI (c.nano),vI (c.code),vI (c.answer)]] [wA G fs xs root S V tr] (fun _ v l=>∃ (V':WV) (eE:List aB),v=.tuple #[.agg #[vI c2.answer,vI c2.other,vI c2.mode,vI c2.uid,vI c2.gid,vI c2.sec,vI c2.nano],vI c2.code]/\l=[wA G fs xs root S2 V' eE]/\eE.length=tr.length+1):=by
 refine bp.enter Tryz.func34 rfl Tryz.ntmps34 (Nat.le_of_ble_eq_true rfl) (fun hle0 R=>?_)
 refine SR (gN 1 (fun b15=>[(2,vP b15)]) (fun _=>[]) (fun _=>[]) (fun b15=>.blk b15 [.iface 39 (vP G.w)] 48) (fun b15=>?_))
 refine gN 1 (fun b16=>[(3,vP b16)]) (fun _=>[]) (fun _=>[]) (fun b16=>.blk b16 [vI (c.op),vI (c.handle),vI (c.other),.string c.name,.string c.text,.slice c.dA (c.data.length) (c.dC),vI (c.mode),vI (c.uid),vI (c.gid),vI (c.sec),vI (c.nano),vI (c.code),vI (c.answer)] 88) (fun b16=>?_)
 refine gN 2 (fun b17=>[(4,vP b17)]) (fun _=>[]) (fun _=>[]) (fun b17=>.blk b17 [vI 0,vI 0,vI 0,vI 0,vI 0,vI 0,vI 0] 65) (fun b17=>?_)
 refine NS (gK 3 [(7,.iface 39 (vP G.w)),(8,.agg #[vI (c.op),vI (c.handle),vI (c.other),.string c.name,.string c.text,.slice c.dA (c.data.length) (c.dC),vI (c.mode),vI (c.uid),vI (c.gid),vI (c.sec),vI (c.nano),vI (c.code),vI (c.answer)])] [(1,a_ 2 b15),(2,A_ 3 b16 13)] ?_)
 refine ak.fJ (d:=(some 9)) (R:=[.abs R,.blk b15 [.iface 39 (vP G.w)] 48,pC b16 c,.blk b17 [vI 0,vI 0,vI 0,vI 0,vI 0,vI 0,vI 0] 65]) (pk:=[0,1,2,3,4]) (fun _=>by kernel_rfl) (Io (β:=β) (G:=G) (fs:=fs) (xs:=xs) (S:=S) (V:=V) (tr:=tr) (c:=c) (c2:=c2) (S2:=S2) hrw hI hn hZ hX hg hD hl hw how hnm Dq hop hW) rfl (by kernel_rfl) ?_
 rintro om _ _ fq ⟨V',B1,p1,B2,p2,rfl,rfl,_,_,_⟩
 replace hle0:=hle0.trans fq
 refine gC 1 [] [(0,A_ 3 b16 13)] [(3,[(0,vI (c2.op)),(1,vI (c2.handle)),(2,vI (c2.other)),(3,.string c2.name),(4,.string c2.text),(5,.slice B2 (c2.data.length) (p2)),(6,vI (c2.mode)),(7,vI (c2.uid)),(8,vI (c2.gid)),(9,vI (c2.sec)),(10,vI (c2.nano)),(11,vI (c2.code)),(12,vI (c2.answer))])] ?_
 refine NN (af.seq (af.ck (S:=[.blk b16 [vI (c2.op),vI (c2.handle),vI (c2.other),.string c2.name,.string c2.text,.slice B2 (c2.data.length) (p2),vI (c2.mode),vI (c2.uid),vI (c2.gid),vI (c2.sec),vI (c2.nano),vI (c2.code),vI (c2.answer)] 88]) [0,1,2,3,4,5,6,7,8,9,10,11,12,13,14,15,16] 15 [3] (by kernel_rfl) (by kernel_rfl) rfl (by kernel_rfl) ?_))
 refine gR 0 [15,16] [(4,vP b17),(22,.agg #[vI (c2.answer),vI (c2.other),vI (c2.mode),vI (c2.uid),vI (c2.gid),vI (c2.sec),vI (c2.nano)]),(24,vI (c2.code))] [0,1,2,3,4,5,6,7,8,9,10,11,12,13,14] [(1,a_ 0 b16),(3,a_ 0 b16),(5,a_ 0 b16),(7,a_ 0 b16),(9,a_ 0 b16),(11,A_ 0 b16 2),(14,a_ 0 b16)] ?_
 refine mC [3] [] [(0,A_ 4 b17 7)] [(4,[(0,vI (c2.answer)),(1,vI (c2.other)),(2,vI (c2.mode)),(3,vI (c2.uid)),(4,vI (c2.gid)),(5,vI (c2.sec)),(6,vI (c2.nano))])] ?_
 refine aQ.last rfl rfl ?_
 refine gK 1 [(5,vI (c2.code))] [] ?_
 refine NL (aj.np (NX (af.ret ?_)))
 exact aj.iz (v:=.tuple #[.agg #[vI (c2.answer),vI (c2.other),vI (c2.mode),vI (c2.uid),vI (c2.gid),vI (c2.sec),vI (c2.nano)],vI (c2.code)]) (l:=[wA G fs xs root S2 V' (tr++[dF B1 p1 c2])]) (aZ:=[b17=b17,b17=b17,b17=b17,b17=b17,b17=b17,b17=b17,b17=b17]) [.at 4,.at 4,.at 4,.at 4,.at 4,.at 4,.at 4] [0,1] hle0 (fun _=>by kernel_rfl) ⟨rfl,rfl,rfl,rfl,rfl,rfl,rfl,trivial⟩ rfl (by kernel_rfl) (⟨V',_,rfl,rfl,by rw [List.length_append];rfl⟩)
theorem Qs {β:Bs} {G:WG} {fs:List bh} {xs:List bK} {root:Int} {S S2:aJ} {V:WV} {tr:List aB} (hrw:(Lit.int .i64 root).wf=true) (hI:Inv S) (hn:tr.length<=8388607) (hZ:fF β G.Z xs) (hX:ef xs 1048576) (hg:dQ β) (h:Int) (hw:(Lit.int .i64 h).wf=true) {c2:aB} (hW:aS fs xs root (tr.length+1) S (⟨11,h,0,⟨#[]⟩,⟨#[]⟩,none,0,[],0,0,0,0,0,0,0⟩:aB)=(S2,c2)) :
    bp Tryz.prog β 16 #[.agg #[.iface 39 (vP G.w)],vI (h)] [wA G fs xs root S V tr] (fun _ v l=>∃ (V':WV) (eE:List aB),v=.tuple #[.agg #[vI c2.answer,vI c2.other,vI c2.mode,vI c2.uid,vI c2.gid,vI c2.sec,vI c2.nano],vI c2.code]/\l=[wA G fs xs root S2 V' eE]/\eE.length=tr.length+1):=by
 refine bp.enter Tryz.func16 rfl Tryz.ntmps16 (Nat.le_of_ble_eq_true rfl) (fun hle0 R=>?_)
 refine SR (gN 1 (fun b19=>[(2,vP b19)]) (fun _=>[]) (fun _=>[]) (fun b19=>.blk b19 [.iface 39 (vP G.w)] 48) (fun b19=>?_))
 refine gN 2 (fun b20=>[(4,vP b20)]) (fun _=>[]) (fun _=>[]) (fun b20=>.blk b20 [vI 0,vI 0,vI 0,vI 0,vI 0,vI 0,vI 0] 65) (fun b20=>?_)
 refine NS (gK 3 [(6,.agg #[.iface 39 (vP G.w)]),(8,.agg #[vI 11,vI (h),vI 0,.string ⟨#[]⟩,.string ⟨#[]⟩,.slice none (0) (0),vI 0,vI 0,vI 0,vI 0,vI 0,vI 0,vI 0])] [(0,a_ 2 b19)] ?_)
 refine ak.fJ (d:=(some 9)) (R:=[.abs R,.blk b19 [.iface 39 (vP G.w)] 48,.blk b20 [vI 0,vI 0,vI 0,vI 0,vI 0,vI 0,vI 0] 65]) (pk:=[0,1,2,3]) (fun _=>by kernel_rfl) (Qr (β:=β) (G:=G) (fs:=fs) (xs:=xs) (S:=S) (V:=V) (tr:=tr) (S2:=S2) (c2:=c2) hrw hI hn hZ hX hg (⟨11,h,0,⟨#[]⟩,⟨#[]⟩,none,0,[],0,0,0,0,0,0,0⟩:aB) (fun j v h=>by cases h) (Nat.zero_le _) hw (by show (Lit.int .i64 0).wf=true;decide) (Nat.zero_le _) (Nat.zero_le _) (by show lP 11;first|exact rfl|(unfold lP;decide)) hW) rfl (by kernel_rfl) ?_
 rintro nS _ _ gi ⟨V',eE,rfl,rfl,ht⟩
 replace hle0:=hle0.trans gi
 refine gC 4 [(5,vI (c2.code))] [(2,A_ 3 b20 7)] [(3,[(0,vI (c2.answer)),(1,vI (c2.other)),(2,vI (c2.mode)),(3,vI (c2.uid)),(4,vI (c2.gid)),(5,vI (c2.sec)),(6,vI (c2.nano))])] ?_
 refine NN (af.ret ?_)
 exact aj.iz (v:=.tuple #[.agg #[vI (c2.answer),vI (c2.other),vI (c2.mode),vI (c2.uid),vI (c2.gid),vI (c2.sec),vI (c2.nano)],vI (c2.code)]) (l:=[wA G fs xs root S2 V' eE]) (aZ:=[b20=b20,b20=b20,b20=b20,b20=b20,b20=b20,b20=b20,b20=b20]) [.at 3,.at 3,.at 3,.at 3,.at 3,.at 3,.at 3] [0,1] hle0 (fun _=>by kernel_rfl) ⟨rfl,rfl,rfl,rfl,rfl,rfl,rfl,trivial⟩ rfl (by kernel_rfl) (⟨V',eE,rfl,rfl,ht⟩)
theorem Oh {β:Bs} {G:WG} {fs:List bh} {xs:List bK} {root:Int} {S S2:aJ} {V:WV} {tr:List aB} (hrw:(Lit.int .i64 root).wf=true) (hI:Inv S) (hn:tr.length<=8388607) (hZ:fF β G.Z xs) (hX:ef xs 1048576) (hg:dQ β) (h:Int) (hw:(Lit.int .i64 h).wf=true) {c2:aB} {n:Nat} (htr:tr.length=n) (hW:aS fs xs root (n+1) S (⟨11,h,0,⟨#[]⟩,⟨#[]⟩,none,0,[],0,0,0,0,0,0,0⟩:aB)=(S2,c2)) :
    Spec Tryz.prog β 16 #[.agg #[.iface 39 (vP G.w)],vI (h)] [wA G fs xs root S V tr] (fun v l=>∃ (V':WV) (q:{ l:List aB // l.length=n+1 }),v=.tuple #[.agg #[vI c2.answer,vI c2.other,vI c2.mode,vI c2.uid,vI c2.gid,vI c2.sec,vI c2.nano],vI c2.code]/\l=[wA G fs xs root S2 V' q.1]):=
  ((Qs (V:=V) (S2:=S2) (c2:=c2) hrw hI hn hZ hX hg h hw (by rw [htr];exact hW)).mono (post':=fun _ v l=>∃ (V':WV) (q:{ l:List aB // l.length=n+1 }),v=.tuple #[.agg #[vI c2.answer,vI c2.other,vI c2.mode,vI c2.uid,vI c2.gid,vI c2.sec,vI c2.nano],vI c2.code]/\l=[wA G fs xs root S2 V' q.1]) (by
    rintro _ v l _ ⟨V',eE,h1,h2,h3⟩
    exact⟨V',⟨eE,h3.trans (by rw [htr])⟩,h1,h2⟩)).CV
end
section
open Go.RowKit Go.Maps
attribute [local irreducible] ak aU af aj
section rules
variable {P:Program} {β:Bs} {N:dG} {ops:Array Oper} {k:Nat} {fr:Fr} {hps:List HP} {Q:Post} {d:Option Tmp} {v:Value} {t xT asserted:TypeId} {x:Operand} {want:Array (String×TypeId)}
theorem ak.lacks (hop:∀ junk,fW N junk ops fr k=some (.typeAssert x xT asserted true,d)) (hx:∀ junk,dL N fr junk x=.iface t v) (hu:P.underlying asserted=some (.interface want)) (h:(P.info? t).map (fun i=>(lacking want i.methods).isEmpty)=some false) (hz:(P.info? asserted).map (·.zero)=some (some .nilIface))
    (K:ak P β N ops (k+1) (dw fr d (.tuple #[.nilIface,.bool false])) hps Q):ak P β N ops k fr hps Q:=
  ak.jH hop (fun o junk w ho hS=>⟨w,.inl (by
    obtain⟨dst,op,type,pos,after,guard⟩:=o
    cases ho
    simp only [execOp,hx]
    simp [run_typeAssert_lacksB hu h hz,Result.andThen]),hS⟩) K
end rules
def jr (β:Bs):Prop:=Rd β ⟨0,0,none⟩ (.iface 195 (.agg #[.pointer (some ⟨12,57,none⟩)]))
theorem jr.le {β β':Bs} (h:jr β) (hle:β.le β'):jr β':=Rd.le h hle
theorem LM {β:Bs} (a:Nat) (e t:Nat) (x:Value) :
    Spec Tryz.prog β 71 #[.iface 92 (vP e),.iface 119 (vP t),.agg #[.pointer (some ⟨12,119,none⟩),vP a,.int .u64 150],.iface 195 (.agg #[.pointer (some ⟨12,92,none⟩)])] [.blk a [vP t] 119,.blk t [x] 92] (fun v l=>v=.bool true/\l=[.blk t [vP e] 92]):=by
 refine Spec.enter Tryz.func71 rfl Tryz.ntmps71 (Nat.le_of_ble_eq_true rfl) (fun R=>?_)
 refine SR (gN 2 (fun b1=>[(6,vP b1)]) (fun _=>[]) (fun _=>[]) (fun b1=>.blk b1 [.pointer (some ⟨12,119,none⟩),vP a,.int .u64 150] 186) (fun b1=>?_))
 refine NN (af.block ?_)
 refine af.loop (ι:=Unit) (fun (u:Unit)=>True) (fun (u:Unit)=>0) (fun (u:Unit)=>[(0,.iface 92 (vP e)),(1,.iface 119 (vP t)),(3,.iface 195 (.agg #[.pointer (some ⟨12,92,none⟩)])),(6,vP b1)]) (fun (u:Unit)=>[.blk a [vP t] 119,.blk t [x] 92,.abs R,.blk b1 [.pointer (some ⟨12,119,none⟩),vP a,.int .u64 150] 186]) () (idx:=[0,1,3,6]) (pk:=[0,1,2,3]) (show True from trivial) (fun _=>by kernel_rfl) rfl (by kernel_rfl) ?_
 rintro u _
 show af _ _ _ _ [(0,.iface 92 (vP e)),(1,.iface 119 (vP t)),(3,.iface 195 (.agg #[.pointer (some ⟨12,92,none⟩)])),(6,vP b1)] [.blk a [vP t] 119,.blk t [x] 92,.abs R,.blk b1 [.pointer (some ⟨12,119,none⟩),vP a,.int .u64 150] 186] _
 refine af.block (af.seq (SR ?_))
 refine gK 4 [(19,.bool true)] [] ?_
 refine NN (CT (SR (gN 5 (fun _=>[]) (fun b2=>[(0,A_ 3 b1 3),(1,a_ 0 a),(4,p_ ⟨[.at 4,.at 1],none,none,none,none⟩ [t=t,b2=b2] ⟨rfl,rfl,trivial⟩)]) (fun b2=>[(1,[(0,vP e)])]) (fun b2=>.blk b2 [vP e] 92) (fun b2=>?_))))
 refine NS (gK 1 [(8,.bool true)] [] ?_)
 refine NN (af.ret (aj.aq (aj.aK (aj.aq (aj.aK ?_)))))
 exact RT (.bool true) [1,2] (⟨rfl,rfl⟩)
theorem Oi {β:Bs} (hE:jr β) (e t:Nat) (x:Value) :
    Spec Tryz.prog β 41 #[.iface 92 (vP e),.iface 119 (vP t)] [.blk t [x] 92] (fun v l=>v=.bool true/\l=[.blk t [vP e] 92]):=by
 refine Spec.enter Tryz.func41 rfl Tryz.ntmps41 (Nat.le_of_ble_eq_true rfl) (fun R=>?_)
 refine SR (gK 1 [] [] ?_)
 refine NN (af.seq (SR (gK 2 [(9,.bool false)] [] ?_)))
 refine NN (CF (af.skip (NX (af.seq (SR (gK 2 [(11,.bool false)] [] ?_))))))
 refine NN (CF (af.skip (NX (SR (gN 2 (fun b3=>[(14,.agg #[.pointer (some ⟨12,119,none⟩),vP b3,.int .u64 150])]) (fun _=>[]) (fun _=>[]) (fun b3=>.blk b3 [vP t] 119) (fun b3=>?_))))))
 refine gN 2 (fun b4=>[(5,vP b4)]) (fun b4=>[(1,A_ 3 b4 3)]) (fun _=>[]) (fun b4=>.blk b4 [.pointer (some ⟨12,119,none⟩),vP b3,.int .u64 150] 186) (fun b4=>?_)
 refine NS (gK 3 [(6,.iface 195 (.agg #[.pointer (some ⟨12,119,none⟩)]))] [(0,A_ 3 b4 3)] ?_)
 refine NN (af.seq (SR (gK 7 [(23,.bool false)] [(4,A_ 3 b4 3),(5,a_ 2 b3)] ?_)))
 refine NN (CF (af.skip (NX (SR (gK 3 [(7,.iface 195 (.agg #[.pointer (some ⟨12,92,none⟩)]))] [] ?_)))))
 refine NN (af.seq (SR (gK 9 [(35,.bool false)] [(5,p_ ⟨[.old (.iface 195 (.agg #[.pointer (some ⟨12,57,none⟩)]))],none,none,none,none⟩ [(Rd β ⟨0,0,none⟩ (.iface 195 (.agg #[.pointer (some ⟨12,57,none⟩)])))] ⟨hE,trivial⟩)] ?_)))
 refine NN (CF (af.skip (NX (SR (gK 4 [(37,.iface 92 (vP e)),(38,.iface 119 (vP t)),(39,.agg #[.pointer (some ⟨12,119,none⟩),vP b3,.int .u64 150]),(40,.iface 195 (.agg #[.pointer (some ⟨12,92,none⟩)]))] [(2,A_ 3 b4 3)] ?_)))))
 refine gL [2,0] (LM b3 e t x) ?_
 rintro _ _ ⟨rfl,rfl⟩
 refine gK 1 [(4,.bool true)] [] ?_
 refine NN (af.ret ?_)
 exact RT (.bool true) [0,1] (⟨rfl,rfl⟩)
theorem Jt {β:Bs} (a:Nat) (n:Int) (t:Nat) (x:Value) :
    Spec Tryz.prog β 71 #[.iface 40 (.int .i64 (n)),.iface 120 (vP t),.agg #[.pointer (some ⟨12,120,none⟩),vP a,.int .u64 150],.iface 195 (.agg #[.pointer (some ⟨12,40,none⟩)])] [.blk a [vP t] 120,.blk t [x] 40] (fun v l=>v=.bool true/\l=[.blk t [vI (n)] 40]):=by
 refine Spec.enter Tryz.func71 rfl Tryz.ntmps71 (Nat.le_of_ble_eq_true rfl) (fun R=>?_)
 refine SR (gN 2 (fun b5=>[(6,vP b5)]) (fun _=>[]) (fun _=>[]) (fun b5=>.blk b5 [.pointer (some ⟨12,120,none⟩),vP a,.int .u64 150] 186) (fun b5=>?_))
 refine NN (af.block ?_)
 refine af.loop (ι:=Unit) (fun (u:Unit)=>True) (fun (u:Unit)=>0) (fun (u:Unit)=>[(0,.iface 40 (.int .i64 (n))),(1,.iface 120 (vP t)),(3,.iface 195 (.agg #[.pointer (some ⟨12,40,none⟩)])),(6,vP b5)]) (fun (u:Unit)=>[.blk a [vP t] 120,.blk t [x] 40,.abs R,.blk b5 [.pointer (some ⟨12,120,none⟩),vP a,.int .u64 150] 186]) () (idx:=[0,1,3,6]) (pk:=[0,1,2,3]) (show True from trivial) (fun _=>by kernel_rfl) rfl (by kernel_rfl) ?_
 rintro u _
 show af _ _ _ _ [(0,.iface 40 (.int .i64 (n))),(1,.iface 120 (vP t)),(3,.iface 195 (.agg #[.pointer (some ⟨12,40,none⟩)])),(6,vP b5)] [.blk a [vP t] 120,.blk t [x] 40,.abs R,.blk b5 [.pointer (some ⟨12,120,none⟩),vP a,.int .u64 150] 186] _
 refine af.block (af.seq (SR ?_))
 refine gK 4 [(19,.bool true)] [] ?_
 refine NN (CT (SR (gN 5 (fun _=>[]) (fun b6=>[(0,A_ 3 b5 3),(1,a_ 0 a),(4,p_ ⟨[.at 4,.at 1],none,none,none,none⟩ [t=t,b6=b6] ⟨rfl,rfl,trivial⟩)]) (fun b6=>[(1,[(0,vI (n))])]) (fun b6=>.blk b6 [vI (n)] 40) (fun b6=>?_))))
 refine NS (gK 1 [(8,.bool true)] [] ?_)
 refine NN (af.ret (aj.aq (aj.aK (aj.aq (aj.aK ?_)))))
 exact RT (.bool true) [1,2] (⟨rfl,rfl⟩)
theorem LO {β:Bs} (hE:jr β) (n:Int) (t:Nat) (x:Value) :
    Spec Tryz.prog β 41 #[.iface 40 (.int .i64 (n)),.iface 120 (vP t)] [.blk t [x] 40] (fun v l=>v=.bool true/\l=[.blk t [vI (n)] 40]):=by
 refine Spec.enter Tryz.func41 rfl Tryz.ntmps41 (Nat.le_of_ble_eq_true rfl) (fun R=>?_)
 refine SR (gK 1 [] [] ?_)
 refine NN (af.seq (SR (gK 2 [(9,.bool false)] [] ?_)))
 refine NN (CF (af.skip (NX (af.seq (SR (gK 2 [(11,.bool false)] [] ?_))))))
 refine NN (CF (af.skip (NX (SR (gN 2 (fun b7=>[(14,.agg #[.pointer (some ⟨12,120,none⟩),vP b7,.int .u64 150])]) (fun _=>[]) (fun _=>[]) (fun b7=>.blk b7 [vP t] 120) (fun b7=>?_))))))
 refine gN 2 (fun b8=>[(5,vP b8)]) (fun b8=>[(1,A_ 3 b8 3)]) (fun _=>[]) (fun b8=>.blk b8 [.pointer (some ⟨12,120,none⟩),vP b7,.int .u64 150] 186) (fun b8=>?_)
 refine NS (gK 3 [(6,.iface 195 (.agg #[.pointer (some ⟨12,120,none⟩)]))] [(0,A_ 3 b8 3)] ?_)
 refine NN (af.seq (SR (gK 7 [(23,.bool false)] [(4,A_ 3 b8 3),(5,a_ 2 b7)] ?_)))
 refine NN (CF (af.skip (NX (SR (gK 3 [(7,.iface 195 (.agg #[.pointer (some ⟨12,40,none⟩)]))] [] ?_)))))
 refine NN (af.seq (SR (gK 9 [(35,.bool false)] [(5,p_ ⟨[.old (.iface 195 (.agg #[.pointer (some ⟨12,57,none⟩)]))],none,none,none,none⟩ [(Rd β ⟨0,0,none⟩ (.iface 195 (.agg #[.pointer (some ⟨12,57,none⟩)])))] ⟨hE,trivial⟩)] ?_)))
 refine NN (CF (af.skip (NX (SR (gK 4 [(37,.iface 40 (.int .i64 (n))),(38,.iface 120 (vP t)),(39,.agg #[.pointer (some ⟨12,120,none⟩),vP b7,.int .u64 150]),(40,.iface 195 (.agg #[.pointer (some ⟨12,40,none⟩)]))] [(2,A_ 3 b8 3)] ?_)))))
 refine gL [2,0] (Jt b7 n t x) ?_
 rintro _ _ ⟨rfl,rfl⟩
 refine gK 1 [(4,.bool true)] [] ?_
 refine NN (af.ret ?_)
 exact RT (.bool true) [0,1] (⟨rfl,rfl⟩)
theorem LP {β:Bs} (a:Nat) (n:Int) (t:Nat) (x:Value) :
    Spec Tryz.prog β 71 #[.iface 40 (.int .i64 (n)),.iface 119 (vP t),.agg #[.pointer (some ⟨12,119,none⟩),vP a,.int .u64 150],.iface 195 (.agg #[.pointer (some ⟨12,92,none⟩)])] [.blk a [vP t] 119,.blk t [x] 92] (fun v l=>v=.bool false/\l=[.blk t [x] 92]):=by
 refine Spec.enter Tryz.func71 rfl Tryz.ntmps71 (Nat.le_of_ble_eq_true rfl) (fun R=>?_)
 refine SR (gN 2 (fun b9=>[(6,vP b9)]) (fun _=>[]) (fun _=>[]) (fun b9=>.blk b9 [.pointer (some ⟨12,119,none⟩),vP a,.int .u64 150] 186) (fun b9=>?_))
 refine NN (af.block ?_)
 refine af.loop (ι:=Unit) (fun (u:Unit)=>True) (fun (u:Unit)=>0) (fun (u:Unit)=>[(0,.iface 40 (.int .i64 (n))),(1,.iface 119 (vP t)),(3,.iface 195 (.agg #[.pointer (some ⟨12,92,none⟩)])),(6,vP b9)]) (fun (u:Unit)=>[.blk a [vP t] 119,.blk t [x] 92,.abs R,.blk b9 [.pointer (some ⟨12,119,none⟩),vP a,.int .u64 150] 186]) () (idx:=[0,1,3,6]) (pk:=[0,1,2,3]) (show True from trivial) (fun _=>by kernel_rfl) rfl (by kernel_rfl) ?_
 rintro u _
 show af _ _ _ _ [(0,.iface 40 (.int .i64 (n))),(1,.iface 119 (vP t)),(3,.iface 195 (.agg #[.pointer (some ⟨12,92,none⟩)])),(6,vP b9)] [.blk a [vP t] 119,.blk t [x] 92,.abs R,.blk b9 [.pointer (some ⟨12,119,none⟩),vP a,.int .u64 150] 186] _
 refine af.block (af.seq (SR ?_))
 refine gK 4 [(19,.bool false)] [] ?_
 refine NN (CF (af.skip (NX (af.seq (SR (gK 1 [(26,.iface 40 (.int .i64 (n)))] [] ?_))))))
 refine ak.lacks (x:=(.tmp 26)) (t:=40) (v:=.int .i64 (n)) (xT:=57) (d:=(some 27)) (fun _=>by kernel_rfl) (fun _=>by kernel_rfl) Tryz.underlying221 (by kernel_rfl) (by kernel_rfl) ?_
 refine gK 5 [(9,.nilIface),(10,.bool false)] [] ?_
 refine NS (gK 6 [(35,.bool false)] [] ?_)
 refine NN (CF (af.skip (NX (SR (gK 1 [(36,.iface 40 (.int .i64 (n)))] [] ?_)))))
 refine NN (af.block (SR ?_))
 refine ak.lacks (x:=(.tmp 36)) (t:=40) (v:=.int .i64 (n)) (xT:=57) (d:=(some 37)) (fun _=>by kernel_rfl) (fun _=>by kernel_rfl) Tryz.underlying200 (by kernel_rfl) (by kernel_rfl) ?_
 refine gK 2 [(38,.bool false),(39,.nilIface)] [] ?_
 refine NN (CF (SR (ak.lacks (x:=(.tmp 36)) (t:=40) (v:=.int .i64 (n)) (xT:=57) (d:=(some 44)) (fun _=>by kernel_rfl) (fun _=>by kernel_rfl) Tryz.underlying202 (by kernel_rfl) (by kernel_rfl) ?_)))
 refine gK 2 [(45,.bool false),(46,.nilIface)] [] ?_
 refine NN (CF (SR (gK 1 [] [] ?_)))
 refine NS (gK 1 [(8,.bool false)] [] ?_)
 refine NN (af.ret (aj.aK (aj.aK (aj.aq (aj.aK ?_)))))
 exact RT (.bool false) [1,2] (⟨rfl,rfl⟩)
theorem Oj {β:Bs} (hE:jr β) (n:Int) (t:Nat) (x:Value) :
    Spec Tryz.prog β 41 #[.iface 40 (.int .i64 (n)),.iface 119 (vP t)] [.blk t [x] 92] (fun v l=>v=.bool false/\l=[.blk t [x] 92]):=by
 refine Spec.enter Tryz.func41 rfl Tryz.ntmps41 (Nat.le_of_ble_eq_true rfl) (fun R=>?_)
 refine SR (gK 1 [] [] ?_)
 refine NN (af.seq (SR (gK 2 [(9,.bool false)] [] ?_)))
 refine NN (CF (af.skip (NX (af.seq (SR (gK 2 [(11,.bool false)] [] ?_))))))
 refine NN (CF (af.skip (NX (SR (gN 2 (fun b10=>[(14,.agg #[.pointer (some ⟨12,119,none⟩),vP b10,.int .u64 150])]) (fun _=>[]) (fun _=>[]) (fun b10=>.blk b10 [vP t] 119) (fun b10=>?_))))))
 refine gN 2 (fun b11=>[(5,vP b11)]) (fun b11=>[(1,A_ 3 b11 3)]) (fun _=>[]) (fun b11=>.blk b11 [.pointer (some ⟨12,119,none⟩),vP b10,.int .u64 150] 186) (fun b11=>?_)
 refine NS (gK 3 [(6,.iface 195 (.agg #[.pointer (some ⟨12,119,none⟩)]))] [(0,A_ 3 b11 3)] ?_)
 refine NN (af.seq (SR (gK 7 [(23,.bool false)] [(4,A_ 3 b11 3),(5,a_ 2 b10)] ?_)))
 refine NN (CF (af.skip (NX (SR (gK 3 [(7,.iface 195 (.agg #[.pointer (some ⟨12,92,none⟩)]))] [] ?_)))))
 refine NN (af.seq (SR (gK 9 [(35,.bool false)] [(5,p_ ⟨[.old (.iface 195 (.agg #[.pointer (some ⟨12,57,none⟩)]))],none,none,none,none⟩ [(Rd β ⟨0,0,none⟩ (.iface 195 (.agg #[.pointer (some ⟨12,57,none⟩)])))] ⟨hE,trivial⟩)] ?_)))
 refine NN (CF (af.skip (NX (SR (gK 4 [(37,.iface 40 (.int .i64 (n))),(38,.iface 119 (vP t)),(39,.agg #[.pointer (some ⟨12,119,none⟩),vP b10,.int .u64 150]),(40,.iface 195 (.agg #[.pointer (some ⟨12,92,none⟩)]))] [(2,A_ 3 b11 3)] ?_)))))
 refine gL [2,0] (LP b10 n t x) ?_
 rintro _ _ ⟨rfl,rfl⟩
 refine gK 1 [(4,.bool false)] [] ?_
 refine NN (af.ret ?_)
 exact RT (.bool false) [0,1] (⟨rfl,rfl⟩)
theorem Ir {β:Bs}  :
    Spec Tryz.prog β 21 #[.nilIface] [] (fun v l=>v=.tuple #[vI 0,vI 0]/\l=[]):=by
 refine Spec.enter Tryz.func21 rfl Tryz.ntmps21 (Nat.le_of_ble_eq_true rfl) (fun R=>?_)
 refine SR (gK 2 [] [] ?_)
 refine NN (af.seq (SR (gK 2 [(7,.bool true)] [] ?_)))
 refine NN (CT (SR (gK 2 [(2,vI 0),(3,vI 0)] [] ?_)))
 refine NN (af.ret (aj.aq ?_))
 exact RT (.tuple #[vI 0,vI 0]) [0] (⟨rfl,rfl⟩)
theorem EA {β:Bs} (hE:jr β) (n:Int) :
    Spec Tryz.prog β 21 #[.iface 40 (.int .i64 (n))] [] (fun v l=>v=.tuple #[vI n,vI 0]/\l=[]):=by
 refine Spec.enter Tryz.func21 rfl Tryz.ntmps21 (Nat.le_of_ble_eq_true rfl) (fun R=>?_)
 refine SR (gK 2 [] [] ?_)
 refine NN (af.seq (SR (gK 2 [(7,.bool false)] [] ?_)))
 refine NN (CF (af.skip (NX (SR (gN 1 (fun b12=>[(4,vP b12)]) (fun _=>[]) (fun _=>[]) (fun b12=>.blk b12 [.pointer none] 92) (fun b12=>?_))))))
 refine NN (af.seq (SR (gK 2 [(8,.iface 40 (.int .i64 (n))),(9,.iface 119 (vP b12))] [] ?_)))
 refine gL [1] (Oj hE n b12 (.pointer none)) ?_
 rintro _ _ ⟨rfl,rfl⟩
 refine NN (CF (af.skip (NX (SR (gN 1 (fun b13=>[(5,vP b13)]) (fun _=>[]) (fun _=>[]) (fun b13=>.blk b13 [vI 0] 40) (fun b13=>?_))))))
 refine NN (af.seq (SR (gK 2 [(19,.iface 40 (.int .i64 (n))),(20,.iface 120 (vP b13))] [] ?_)))
 refine gL [2] (LO hE n b13 (.int .i64 0)) ?_
 rintro _ _ ⟨rfl,rfl⟩
 refine NN (CT (SR (gK 3 [(2,vI (n)),(3,vI 0)] [(0,a_ 0 b13)] ?_)))
 refine NN (af.ret (aj.aq ?_))
 exact RT (.tuple #[vI (n),vI 0]) [2] (⟨rfl,rfl⟩)
theorem xX {β:Bs} (hE:jr β) (e:Nat) (at_:Int) (nm:ByteArray) (n:Int) :
    Spec Tryz.prog β 21 #[.iface 92 (vP e)] [.blk e [vI (at_),.string nm,vI (n)] 94] (fun v l=>v=.tuple #[vI n,vI at_]/\l=[.blk e [vI (at_),.string nm,vI (n)] 94]):=by
 refine Spec.enter Tryz.func21 rfl Tryz.ntmps21 (Nat.le_of_ble_eq_true rfl) (fun R=>?_)
 refine SR (gK 2 [] [] ?_)
 refine NN (af.seq (SR (gK 2 [(7,.bool false)] [] ?_)))
 refine NN (CF (af.skip (NX (SR (gN 1 (fun b14=>[(4,vP b14)]) (fun _=>[]) (fun _=>[]) (fun b14=>.blk b14 [.pointer none] 92) (fun b14=>?_))))))
 refine NN (af.seq (SR (gK 2 [(8,.iface 92 (vP e)),(9,.iface 119 (vP b14))] [] ?_)))
 refine gL [2] (Oi hE e b14 (.pointer none)) ?_
 rintro _ _ ⟨rfl,rfl⟩
 refine NN (CT (af.seq (af.eM (by kernel_rfl) (by kernel_rfl) ?_)))
 refine gQ 10 [(2,vI (n)),(3,vI (at_))] [(0,a_ 0 b14),(3,a_ 1 e),(4,a_ 0 b14),(7,a_ 1 e)] ?_
 refine NQ (NX (af.ret (aj.aq ?_)))
 exact RT (.tuple #[vI (n),vI (at_)]) [1,2] (⟨rfl,rfl⟩)
theorem UL {β:Bs} (n k:Int) :
    Spec Tryz.prog β 47 #[.iface 40 (.int .i64 (n)),.iface 40 (.int .i64 (k)),.bool true] [] (fun v l=>v=.bool (decide (n=k))/\l=[]):=by
 refine Spec.enter Tryz.func47 rfl Tryz.ntmps47 (Nat.le_of_ble_eq_true rfl) (fun R=>?_)
 refine SR (gK 1 [] [] ?_)
 refine NN (af.block ?_)
 refine af.loop (ι:=Unit) (fun (u:Unit)=>True) (fun (u:Unit)=>0) (fun (u:Unit)=>[(0,.iface 40 (.int .i64 (n))),(1,.iface 40 (.int .i64 (k))),(2,.bool true)]) (fun (u:Unit)=>[.abs R]) () (idx:=[0,1,2]) (pk:=[0]) (show True from trivial) (fun _=>by kernel_rfl) rfl (by kernel_rfl) ?_
 rintro u _
 show af _ _ _ _ [(0,.iface 40 (.int .i64 (n))),(1,.iface 40 (.int .i64 (k))),(2,.bool true)] [.abs R] _
 refine af.block (af.seq (SR ?_))
 refine gK 6 [(19,.bool (decide ((n:Int)=(k:Int))))] [] ?_
 refine NN (af.aW (p:=(n:Int)=(k:Int)) (fun _=>by kernel_rfl) (fun Tg=>?_) (fun Tg=>?_))
 ·refine SR (gK 1 [(6,.bool true)] [] ?_)
  refine NN (af.ret (aj.aq (aj.aK (aj.aq (aj.aK ?_)))))
  exact RT (.bool true) [0] (⟨congrArg Value.bool (by simp_all),rfl⟩)
 refine af.skip (NX (af.seq (SR (gK 1 [(21,.iface 40 (.int .i64 (n)))] [] ?_))))
 refine ak.lacks (x:=(.tmp 21)) (t:=40) (v:=.int .i64 (n)) (xT:=57) (d:=(some 22)) (fun _=>by kernel_rfl) (fun _=>by kernel_rfl) Tryz.underlying197 (by kernel_rfl) (by kernel_rfl) ?_
 refine gK 5 [(7,.nilIface),(8,.bool false)] [] ?_
 refine NS (gK 6 [(30,.bool false)] [] ?_)
 refine NN (CF (af.skip (NX (SR (gK 1 [(31,.iface 40 (.int .i64 (n)))] [] ?_)))))
 refine NN (af.block (SR ?_))
 refine ak.lacks (x:=(.tmp 31)) (t:=40) (v:=.int .i64 (n)) (xT:=57) (d:=(some 32)) (fun _=>by kernel_rfl) (fun _=>by kernel_rfl) Tryz.underlying200 (by kernel_rfl) (by kernel_rfl) ?_
 refine gK 2 [(33,.bool false),(34,.nilIface)] [] ?_
 refine NN (CF (SR (ak.lacks (x:=(.tmp 31)) (t:=40) (v:=.int .i64 (n)) (xT:=57) (d:=(some 39)) (fun _=>by kernel_rfl) (fun _=>by kernel_rfl) Tryz.underlying202 (by kernel_rfl) (by kernel_rfl) ?_)))
 refine gK 2 [(40,.bool false),(41,.nilIface)] [] ?_
 refine NN (CF (SR (gK 1 [] [] ?_)))
 refine NS (gK 1 [(6,.bool false)] [] ?_)
 refine NN (af.ret (aj.aK (aj.aK (aj.aq (aj.aK ?_)))))
 exact RT (.bool false) [0] (⟨congrArg Value.bool (by simp_all),rfl⟩)
theorem VN {β:Bs} (n k:Int) :
    Spec Tryz.prog β 24 #[.iface 40 (.int .i64 (n)),.iface 40 (.int .i64 (k))] [] (fun v l=>v=.bool (decide (n=k))/\l=[]):=by
 refine Spec.enter Tryz.func24 rfl Tryz.ntmps24 (Nat.le_of_ble_eq_true rfl) (fun R=>?_)
 refine SR (gK 1 [] [] ?_)
 refine NN (af.seq (SR (gK 6 [(11,.bool false)] [] ?_)))
 refine NN (CF (af.skip (NX (SR (gK 4 [(5,.bool true)] [] ?_)))))
 refine NS (gK 3 [(18,.iface 40 (.int .i64 (n))),(19,.iface 40 (.int .i64 (k))),(20,.bool true)] [] ?_)
 refine gL [] (UL n k) ?_
 rintro _ _ ⟨rfl,rfl⟩
 refine gK 1 [(4,.bool (decide (n=k)))] [] ?_
 refine NN (af.ret ?_)
 exact RT (.bool (decide (n=k))) [0] (⟨rfl,rfl⟩)
end
section
open Go.RowKit
def EB (P:Program) (β:Bs) (N:dG) (junk:Nat->Value) (ops:Array Oper) (fr:Fr) (k:Nat):Option (Deferred×Option Tmp):=
  match ops.toList[k]? with
  | some o=>
    match Region.wanted o (yF ops N fr junk) with
    | true=>
      match cq P β 0 true (execOp (dL N fr junk) o) ⟨[],[],[],true⟩ with
      | some (.defer d,_)=>some (d,o.dst)
      | _=>none
    | false=>none
  | none=>none
def qb (P:Program) (β:Bs) (f:FuncId) (args:Array Value) (pre:List HP) (post:Bs->Value->List HP->Prop):Prop:=
  ∀ (R:bW) (w:World),Sat β (pre++[.abs R]) w->CallsD P f args .returning w fun e u w'=>u=.returning/\sD β R post e w'
section df
variable {P:Program} {β:Bs} {N:dG} {ops:Array Oper} {k n0:Nat} {fr:Fr} {hps R pre rest:List HP} {Q:Post} {f:FuncId} {args:Array Value} {d:Deferred} {x:Option Tmp} {fn:Func} {c:Code} {post:Bs->Value->List HP->Prop} {w:World}
theorem Iu {junk:Nat->Value} (h:EB P β N junk ops fr k=some (d,x)):∃ o,ops.toList[k]?=some o/\Region.wanted o (yF ops N fr junk)=true/\o.dst=x ∧
    ∀ w,Sat β [] w->(execOp (dL N fr junk) o).run P w=.ok (.defer d) w:=by
  unfold EB at h
  repeat' split at h
  all_goals first|(cases h;done)|skip
  rename_i o h1 _ h2 _ d' S' h3
  cases h
  refine⟨o,h1,h2,rfl,fun w hS=>?_⟩
  have SJ:=EF _ _ _ _ h3 rfl
  obtain⟨w',h4,_,_,h5⟩:=o8 _ _ _ _ w h3 (fun p hp=>by rw [SJ] at hp;cases hp) hS (fun e=>by cases e)
  rw [h4,(h5 rfl).1]
theorem ak.defer (d:Deferred) (hc:∀ junk,EB P β N junk ops fr k=some (d,x)) (K:ak P β ⟨N.n,d::N.ds⟩ ops (k+1) (dw fr x undef) hps Q):ak P β N ops k fr hps Q:=by
  intro junk w hS
  obtain⟨o,h1,h2,rfl,h3⟩:=Iu (hc junk)
  rw [drop_cons h1]
  unfold wpList
  rw [dO,if_pos h2]
  refine .inl ?_
  unfold Oper.wp
  rw [dY,h3 w hS.nil,Oper.upon_defer]
  have e:({ bM N fr junk with defers:=d::(bM N fr junk).defers }:Act)=bM ⟨N.n,d::N.ds⟩ fr junk:=rfl
  rw [e,dM]
  exact K junk w hS
theorem qb.enter (hf:P.funcs[f]?=some fn) (hb:fn.body=some c) (hN:fn.ntmps=n0) (hl:args.toList.length<=n0) (h:β.le β->∀ R:bW,af P β ⟨n0,[]⟩ c (wh 0 args.toList) (pre++[.abs R]) (bodyPost P fn (sD β R post))):qb P β f args pre post:=by
  intro R w hS
  refine (callsD_of_wp (R:=sD β R post) hf hb ?_)
  rw [hN,ul hl]
  exact h hS.1.DH R _ w hS
theorem bp.UM (hf:P.funcs[f]?=some fn) (hb:fn.body=some c) (hN:fn.ntmps=n0) (hl:args.toList.length<=n0) (h:β.le β->∀ R:bW,af P β ⟨n0,[]⟩ c (wh 0 args.toList) (pre++[.abs R]) (bodyPostD P fn (sD β R post))):bp P β f args pre post:=by
  intro R w hS
  refine calls_of_wp_defers hf hb ?_
  rw [hN,ul hl]
  exact h hS.1.DH R _ w hS
theorem qb.use (h:qb P β f args pre post) (hS:Sat β (pre++rest) w):CallsD P f args .returning w fun e u w'=>u=.returning/\∃ β' v l,β.le β'/\e=.returned v/\post β' v l/\Sat β' (l++rest) w':=
  (h _ w hS.fD).mono fun _ _ _ ⟨h0,β',v,l,h1,h2,h3,h4⟩=>⟨h0,β',v,l,h1,h2,h3,h4.o9⟩
theorem LQ {R:Ending->World->Prop} {junk:Nat->Value} (h:bodyPost P fn R .ret (bM ⟨n0,[]⟩ fr junk) w):Leaves P fn (bM ⟨n0,[]⟩ fr junk).tmps R [] .returning w:=h.2
theorem aj.door {mQ:Bs} {fv:Fn} {cap dargs:Array Value} {A:bW} {WM:Bs->Value->List HP->Prop} (pk:List Nat) (hi:∀ w,(invoke (.fn fv cap) dargs).run P w=.ok (.enter f args) w) (hs:qb P β f args pre post) (hn:nodupB pk=true) (hp:bN hps pk=some (pre++rest))
    (K:∀ β' v l,β.le β'->post β' v l->aj β' ⟨n0,[]⟩ (bodyPost P fn (sD mQ A WM)) .ret fr (l++rest)):aj β ⟨n0,[⟨.fn fv cap,dargs⟩]⟩ (bodyPostD P fn (sD mQ A WM)) .ret fr hps:=by
  intro junk w hS
  refine leaves_cons (by intro e;cases e) (hi w) ?_
  refine (hs.use (hS.pick hn hp)).mono ?_
  rintro e u w' ⟨rfl,β',v,l,hle,rfl,hpost,cE⟩
  exact LQ (K β' v l hle hpost junk w' cE)
end df
end
section
open Go.RowKit Go.Maps bq aF
attribute [local irreducible] ak aU af aj
theorem SC {β:Bs} {G:WG} {fs:List bh} {xs:List bK} {root:Int} {S:aJ} {V:WV} {tr:List aB} (hrw:(Lit.int .i64 root).wf=true) (hI:Inv S) (hn:tr.length<=8388604) (hZ:fF β G.Z xs) (hX:ef xs 1048576) (hg:dQ β) (cur:Int) (hw:(Lit.int .i64 cur).wf=true) (part:ByteArray) (hnm:part.size<=1048576) (mode:Int) {r:Lx} (hr:dh fs xs root S tr.length cur part mode=r) :
    bp Tryz.prog β 31 #[.agg #[.iface 39 (vP G.w)],vI (cur),.string part,vI (mode)] [wA G fs xs root S V tr] (fun _ v l=>∃ (V':WV) (eE:List aB),eE.length=r.n/\((r.code=0/\v=.tuple #[vI r.next,.bool r.made,.nilIface])\/(r.code≠0/\v=.tuple #[vI 0,.bool r.made,.iface 40 (.int .i64 r.code)]))/\l=[wA G fs xs root r.S V' eE]):=by
 refine bp.enter Tryz.func31 rfl Tryz.ntmps31 (Nat.le_of_ble_eq_true rfl) (fun hle0 R=>?_)
 refine SR (gN 4 (fun b1=>[(4,vP b1)]) (fun _=>[]) (fun _=>[]) (fun b1=>.blk b1 [.iface 39 (vP G.w)] 48) (fun b1=>?_))
 refine NS (gK 3 [(13,.agg #[.iface 39 (vP G.w)]),(14,vI (cur)),(15,.string part)] [(0,a_ 2 b1)] ?_)
 obtain⟨S1,c1,e1⟩:∃ Sx cx,aS fs xs root (tr.length+1) S (eP cur part)=(Sx,cx):=⟨_,_,rfl⟩
 refine ak.fJ (d:=(some 16)) (R:=[.abs R,.blk b1 [.iface 39 (vP G.w)] 48]) (pk:=[0,1,2]) (fun _=>by kernel_rfl) (vA (β:=β) (G:=G) (V:=V) (tr:=tr) (S2:=S1) (c2:=c1) hrw hI (by omega) hZ hX hg cur hw part hnm e1) rfl (by kernel_rfl) ?_
 rintro yj _ _ ig ⟨V1,AY,rfl,rfl,ht1⟩
 replace hZ:=hZ.le ig
 replace hg:=hg.le ig
 replace hle0:=hle0.trans ig
 have bY:Inv S1:=by have h:=Inv.aS (fs:=fs) (xs:=xs) (root:=root) (n:=tr.length+1) (c:=eP cur part) hI;rw [e1] at h;exact h
 refine gK 5 [(8,vI (c1.answer)),(11,vI (c1.code))] [] ?_
 refine NN (af.seq (SR (gK 2 [(20,.bool (decide ((c1.code:Int)=(0:Int))))] [] ?_)))
 refine NN (af.aW (p:=(c1.code:Int)=(0:Int)) (fun _=>by kernel_rfl) (fun kg=>?_) (fun kg=>?_))
 ·refine SR (gK 4 [(8,vI (c1.answer)),(9,.bool false),(10,.nilIface)] [] ?_)
  refine NN (af.ret (aj.aq ?_))
  exact aj.iz (v:=.tuple #[vI (c1.answer),.bool false,.nilIface]) (l:=[wA G fs xs root S1 V1 AY]) (aZ:=[]) [] [0,1] hle0 (fun _=>by kernel_rfl) trivial rfl (by kernel_rfl) (by subst hr;rw [wX e1 kg];exact⟨V1,AY,ht1,.inl ⟨rfl,rfl⟩,rfl⟩)
 refine af.skip (NX (SR (gK 3 [(10,.iface 40 (.int .i64 (c1.code)))] [] ?_)))
 refine NN (af.seq (SR (gK 2 [(24,.iface 40 (.int .i64 (c1.code))),(25,.iface 40 (.int .i64 170))] [] ?_)))
 refine gL [] (VN c1.code 170) ?_
 rintro _ _ ⟨rfl,rfl⟩
 refine gK 2 [(28,.bool (!(decide (c1.code=170))))] [] ?_
 refine ak.jx 28 (c1.code=170) (fun _=>by kernel_rfl) (fun Fb=>?_) (fun Fb=>?_)
 ·refine gK 3 [(31,.bool true)] [] ?_
  refine NN (CT (SR (gK 4 [(8,vI 0),(9,.bool false),(10,.iface 40 (.int .i64 (c1.code)))] [] ?_)))
  refine NN (af.ret (aj.aq ?_))
  exact aj.iz (v:=.tuple #[vI 0,.bool false,.iface 40 (.int .i64 (c1.code))]) (l:=[wA G fs xs root S1 V1 AY]) (aZ:=[]) [] [0,1] hle0 (fun _=>by kernel_rfl) trivial rfl (by kernel_rfl) (by subst hr;rw [rR e1 kg (.inl Fb)];exact⟨V1,AY,ht1,.inr ⟨kg,rfl⟩,rfl⟩)
 refine gK 3 [(31,.bool (decide ((mode:Int) < (0:Int))))] [] ?_
 refine NN (af.aW (p:=(mode:Int) < (0:Int)) (fun _=>by kernel_rfl) (fun Av=>?_) (fun Av=>?_))
 ·refine SR (gK 4 [(8,vI 0),(9,.bool false),(10,.iface 40 (.int .i64 (c1.code)))] [] ?_)
  refine NN (af.ret (aj.aq ?_))
  exact aj.iz (v:=.tuple #[vI 0,.bool false,.iface 40 (.int .i64 (c1.code))]) (l:=[wA G fs xs root S1 V1 AY]) (aZ:=[]) [] [0,1] hle0 (fun _=>by kernel_rfl) trivial rfl (by kernel_rfl) (by subst hr;rw [rR e1 kg (.inr Av)];exact⟨V1,AY,ht1,.inr ⟨kg,rfl⟩,rfl⟩)
 refine af.skip (NX (SR (gK 4 [(33,.agg #[.iface 39 (vP G.w)]),(34,vI (cur)),(35,.string part),(36,vI (mode))] [(0,a_ 2 b1)] ?_)))
 obtain⟨S2,c2,e2⟩:∃ Sx cx,aS fs xs root (tr.length+2) S1 (zf cur part mode)=(Sx,cx):=⟨_,_,rfl⟩
 refine ak.fJ (d:=(some 37)) (R:=[.abs R,.blk b1 [.iface 39 (vP G.w)] 48]) (pk:=[0,1,2]) (fun _=>by kernel_rfl) (Og (β:=yj) (G:=G) (V:=V1) (tr:=AY) (S2:=S2) (c2:=c2) hrw bY (by omega) hZ hX hg cur hw part hnm mode (by rw [ht1];exact e2)) rfl (by kernel_rfl) ?_
 rintro Dr _ _ jk ⟨V2,Dt,rfl,rfl,ht2⟩
 replace hZ:=hZ.le jk
 replace hg:=hg.le jk
 replace hle0:=hle0.trans jk
 rw [ht1] at ht2
 have xW:Inv S2:=by have h:=Inv.aS (fs:=fs) (xs:=xs) (root:=root) (n:=tr.length+2) (c:=zf cur part mode) bY;rw [e2] at h;exact h
 refine gK 1 [(11,vI (c2.code))] [] ?_
 refine NS (gK 3 [(9,.bool (decide ((c2.code:Int)=(0:Int))))] [] ?_)
 refine NN (af.seq (SR (gK 3 [(42,.bool (!(decide ((c2.code:Int)=(0:Int)))))] [] ?_)))
 refine ak.jx 42 ((c2.code:Int)=(0:Int)) (fun _=>by kernel_rfl) (fun YC=>?_) (fun YC=>?_)
 ·refine gK 3 [(45,.bool (!(decide ((c2.code:Int)=(171:Int)))))] [] ?_
  refine NN (af.fI (p:=(c2.code:Int)=(171:Int)) (fun _=>by kernel_rfl) (fun YD=>?_) (fun YD=>?_))
  ·refine SR (gK 5 [(8,vI 0),(9,.bool false),(10,.iface 40 (.int .i64 (c2.code)))] [] ?_)
   refine NN (af.ret (aj.aq ?_))
   exact aj.iz (v:=.tuple #[vI 0,.bool false,.iface 40 (.int .i64 (c2.code))]) (l:=[wA G fs xs root S2 V2 Dt]) (aZ:=[]) [] [0,1] hle0 (fun _=>by kernel_rfl) trivial rfl (by kernel_rfl) (by subst hr;rw [E7 e1 kg (by omega) e2 (by omega)];exact⟨V2,Dt,ht2,.inr ⟨by omega,rfl⟩,rfl⟩)
  refine af.skip (NX (af.seq (SR (gK 3 [(49,.agg #[.iface 39 (vP G.w)]),(50,vI (cur)),(51,.string part)] [(0,a_ 2 b1)] ?_))))
  obtain⟨S3,c3,e3⟩:∃ Sx cx,aS fs xs root (tr.length+3) S2 (eP cur part)=(Sx,cx):=⟨_,_,rfl⟩
  refine ak.fJ (d:=(some 52)) (R:=[.abs R,.blk b1 [.iface 39 (vP G.w)] 48]) (pk:=[0,1,2]) (fun _=>by kernel_rfl) (vA (β:=Dr) (G:=G) (V:=V2) (tr:=Dt) (S2:=S3) (c2:=c3) hrw xW (by omega) hZ hX hg cur hw part hnm (by rw [ht2];exact e3)) rfl (by kernel_rfl) ?_
  rintro oe _ _ iw ⟨V3,tZ,rfl,rfl,Iw⟩
  replace hZ:=hZ.le iw
  replace hg:=hg.le iw
  replace hle0:=hle0.trans iw
  rw [ht2] at Iw
  have YE:Inv S3:=by have h:=Inv.aS (fs:=fs) (xs:=xs) (root:=root) (n:=tr.length+3) (c:=eP cur part) xW;rw [e3] at h;exact h
  refine gK 5 [(8,vI (c3.answer)),(11,vI (c3.code))] [] ?_
  refine NS (gK 2 [(56,.bool (!(decide ((c3.code:Int)=(0:Int)))))] [] ?_)
  refine NN (af.fI (p:=(c3.code:Int)=(0:Int)) (fun _=>by kernel_rfl) (fun vV=>?_) (fun vV=>?_))
  ·refine SR (gK 6 [(8,vI 0),(9,.bool (decide ((c2.code:Int)=(0:Int)))),(10,.iface 40 (.int .i64 (c3.code)))] [] ?_)
   refine NN (af.ret (aj.aq ?_))
   exact aj.iz (v:=.tuple #[vI 0,.bool (decide ((c2.code:Int)=(0:Int))),.iface 40 (.int .i64 (c3.code))]) (l:=[wA G fs xs root S3 V3 tZ]) (aZ:=[]) [] [0,1] hle0 (fun _=>by kernel_rfl) trivial rfl (by kernel_rfl) (by subst hr;rw [zi e1 kg (by omega) e2 (by omega) e3 vV];exact⟨V3,tZ,Iw,.inr ⟨vV,rfl⟩,rfl⟩)
  refine af.skip (NX (SR (gK 5 [(8,vI (c3.answer)),(9,.bool (decide ((c2.code:Int)=(0:Int)))),(10,.nilIface)] [] ?_)))
  refine NN (af.ret ?_)
  exact aj.iz (v:=.tuple #[vI (c3.answer),.bool (decide ((c2.code:Int)=(0:Int))),.nilIface]) (l:=[wA G fs xs root S3 V3 tZ]) (aZ:=[]) [] [0,1] hle0 (fun _=>by kernel_rfl) trivial rfl (by kernel_rfl) (by subst hr;rw [wY e1 kg (by omega) e2 (by omega) e3 vV];exact⟨V3,tZ,Iw,.inl ⟨rfl,rfl⟩,rfl⟩)
 refine gK 3 [(45,.bool false)] [] ?_
 refine NN (CF (af.skip (NX (af.seq (SR (gK 3 [(49,.agg #[.iface 39 (vP G.w)]),(50,vI (cur)),(51,.string part)] [(0,a_ 2 b1)] ?_))))))
 obtain⟨S3,c3,e3⟩:∃ Sx cx,aS fs xs root (tr.length+3) S2 (eP cur part)=(Sx,cx):=⟨_,_,rfl⟩
 refine ak.fJ (d:=(some 52)) (R:=[.abs R,.blk b1 [.iface 39 (vP G.w)] 48]) (pk:=[0,1,2]) (fun _=>by kernel_rfl) (vA (β:=Dr) (G:=G) (V:=V2) (tr:=Dt) (S2:=S3) (c2:=c3) hrw xW (by omega) hZ hX hg cur hw part hnm (by rw [ht2];exact e3)) rfl (by kernel_rfl) ?_
 rintro YF _ _ vW ⟨V3,tZ,rfl,rfl,Iw⟩
 replace hZ:=hZ.le vW
 replace hg:=hg.le vW
 replace hle0:=hle0.trans vW
 rw [ht2] at Iw
 have YE:Inv S3:=by have h:=Inv.aS (fs:=fs) (xs:=xs) (root:=root) (n:=tr.length+3) (c:=eP cur part) xW;rw [e3] at h;exact h
 refine gK 5 [(8,vI (c3.answer)),(11,vI (c3.code))] [] ?_
 refine NS (gK 2 [(56,.bool (!(decide ((c3.code:Int)=(0:Int)))))] [] ?_)
 refine NN (af.fI (p:=(c3.code:Int)=(0:Int)) (fun _=>by kernel_rfl) (fun vV=>?_) (fun vV=>?_))
 ·refine SR (gK 6 [(8,vI 0),(9,.bool (decide ((c2.code:Int)=(0:Int)))),(10,.iface 40 (.int .i64 (c3.code)))] [] ?_)
  refine NN (af.ret (aj.aq ?_))
  exact aj.iz (v:=.tuple #[vI 0,.bool (decide ((c2.code:Int)=(0:Int))),.iface 40 (.int .i64 (c3.code))]) (l:=[wA G fs xs root S3 V3 tZ]) (aZ:=[]) [] [0,1] hle0 (fun _=>by kernel_rfl) trivial rfl (by kernel_rfl) (by subst hr;rw [zi e1 kg (by omega) e2 (by omega) e3 vV];exact⟨V3,tZ,Iw,.inr ⟨vV,rfl⟩,rfl⟩)
 refine af.skip (NX (SR (gK 5 [(8,vI (c3.answer)),(9,.bool (decide ((c2.code:Int)=(0:Int)))),(10,.nilIface)] [] ?_)))
 refine NN (af.ret ?_)
 exact aj.iz (v:=.tuple #[vI (c3.answer),.bool (decide ((c2.code:Int)=(0:Int))),.nilIface]) (l:=[wA G fs xs root S3 V3 tZ]) (aZ:=[]) [] [0,1] hle0 (fun _=>by kernel_rfl) trivial rfl (by kernel_rfl) (by subst hr;rw [wY e1 kg (by omega) e2 (by omega) e3 vV];exact⟨V3,tZ,Iw,.inl ⟨rfl,rfl⟩,rfl⟩)
theorem UN {β:Bs} (be bm bf bo bc bu:Nat) :
    qb Tryz.prog β 29 #[vP be,vP bm,vP bf,vP bo,vP bc,vP bu] [.blk be [.nilIface] 57] (fun _ v l=>v=.tuple #[]/\l=[.blk be [.nilIface] 57]):=by
 refine qb.enter Tryz.func29 rfl Tryz.ntmps29 (Nat.le_of_ble_eq_true rfl) (fun hle0 R=>?_)
 refine SR (gK 2 [(7,.bool false)] [(0,a_ 0 be)] ?_)
 refine NN (CF (af.skip ?_))
 exact aj.OM (v:=.tuple #[]) (l:=[.blk be [.nilIface] 57]) (aZ:=[]) [] [0,1] hle0 (fun _=>by kernel_rfl) trivial rfl (by kernel_rfl) (⟨rfl,rfl⟩)
theorem UO {β:Bs} (be bm bf bo bc bu:Nat) (e:Nat) (made:Int) (x1 x2 x3:Value) :
    qb Tryz.prog β 29 #[vP be,vP bm,vP bf,vP bo,vP bc,vP bu] [.blk be [.iface 92 (vP e)] 57,.blk bm [vI (made)] 3,.blk bf [x1,x2,x3] 55,.blk bo [.bool false] 4] (fun _ v l=>v=.tuple #[]/\l=[.blk be [.iface 92 (vP e)] 57,.blk bf [vI 0,.bool false,vI (made)] 55]):=by
 refine qb.enter Tryz.func29 rfl Tryz.ntmps29 (Nat.le_of_ble_eq_true rfl) (fun hle0 R=>?_)
 refine SR (gK 2 [(7,.bool true)] [(0,a_ 0 be)] ?_)
 refine NN (CT (SR (gC 3 [] [(0,a_ 1 bm),(2,A_ 2 bf 3)] [(2,[(0,vI 0),(1,.bool false),(2,vI (made))])] ?_)))
 refine NS (gK 1 [(10,.bool false)] [(0,a_ 3 bo)] ?_)
 refine NN (CF (af.skip ?_))
 exact aj.OM (v:=.tuple #[]) (l:=[.blk be [.iface 92 (vP e)] 57,.blk bf [vI 0,.bool false,vI (made)] 55]) (aZ:=[]) [] [0,2,4] hle0 (fun _=>by kernel_rfl) trivial rfl (by kernel_rfl) (⟨rfl,rfl⟩)
theorem Ol {β:Bs} {G:WG} {fs:List bh} {xs:List bK} {root:Int} {S:aJ} {V:WV} {tr:List aB} (hrw:(Lit.int .i64 root).wf=true) (hI:Inv S) (hn:tr.length<=8388607) (hZ:fF β G.Z xs) (hX:ef xs 1048576) (hg:dQ β) (be bm bf bo bc bu:Nat) (e:Nat) (made:Int) (x1 x2 x3:Value) (cur:Int) (hw:(Lit.int .i64 cur).wf=true) {S2:aJ} {c2:aB} (eW:aS fs xs root (tr.length+1) S (dU cur)=(S2,c2)) :
    qb Tryz.prog β 29 #[vP be,vP bm,vP bf,vP bo,vP bc,vP bu] [.blk be [.iface 92 (vP e)] 57,.blk bm [vI (made)] 3,.blk bf [x1,x2,x3] 55,.blk bo [.bool true] 4,.blk bc [.iface 39 (vP G.w)] 48,.blk bu [vI (cur)] 3,wA G fs xs root S V tr] (fun _ v l=>∃ (V':WV) (eE:List aB),eE.length=tr.length+1/\v=.tuple #[]/\l=[.blk be [.iface 92 (vP e)] 57,.blk bf [vI 0,.bool false,vI (made)] 55]++[wA G fs xs root S2 V' eE]):=by
 refine qb.enter Tryz.func29 rfl Tryz.ntmps29 (Nat.le_of_ble_eq_true rfl) (fun hle0 R=>?_)
 refine SR (gK 2 [(7,.bool true)] [(0,a_ 0 be)] ?_)
 refine NN (CT (SR (gC 3 [] [(0,a_ 1 bm),(2,A_ 2 bf 3)] [(2,[(0,vI 0),(1,.bool false),(2,vI (made))])] ?_)))
 refine NS (gK 1 [(10,.bool true)] [(0,a_ 3 bo)] ?_)
 refine NN (CT (af.region (gK 2 [(11,.agg #[.iface 39 (vP G.w)]),(12,vI (cur))] [(0,a_ 4 bc),(1,a_ 5 bu)] ?_)))
 refine ak.fJ (d:=(some 13)) (R:=[.blk be [.iface 92 (vP e)] 57,.blk bm [vI (made)] 3,.blk bf [vI 0,.bool false,vI (made)] 55,.blk bo [.bool true] 4,.blk bc [.iface 39 (vP G.w)] 48,.blk bu [vI (cur)] 3,.abs R]) (pk:=[6,0,1,2,3,4,5,7]) (fun _=>by kernel_rfl) (Fg (β:=β) (G:=G) (V:=V) (tr:=tr) (S2:=S2) (c2:=c2) hrw hI (by omega) hZ hX hg cur hw eW) rfl (by kernel_rfl) ?_
 rintro WL _ _ o7 ⟨V1,AY,rfl,rfl,ht1⟩
 replace hZ:=hZ.le o7
 replace hg:=hg.le o7
 replace hle0:=hle0.trans o7
 refine NL ?_
 exact aj.OM (v:=.tuple #[]) (l:=[.blk be [.iface 92 (vP e)] 57,.blk bf [vI 0,.bool false,vI (made)] 55,wA G fs xs root S2 V1 AY]) (aZ:=[]) [] [1,3,0,7] hle0 (fun _=>by kernel_rfl) trivial rfl (by kernel_rfl) (⟨V1,AY,ht1,rfl,rfl⟩)
end
section
open Go.RowKit Go.Maps bq aF
attribute [local irreducible] ak aU af aj
theorem Ai {β:Bs} {G:WG} {fs:List bh} {xs:List bK} {root:Int} {S0:aJ} {V0:WV} {t6:List aB} (hrw:(Lit.int .i64 root).wf=true) (hI:Inv S0) (hn:t6.length<=100) (hZ:fF β G.Z xs) (hX:ef xs 1048576) (hg:dQ β) (hE:jr β) (h:Int) (hw:(Lit.int .i64 h).wf=true) (A:Option Addr) (kN:Nat) (ps:List ByteArray) (hP:dR β A ps) (hpl:ps.length<=1048576) (hps:∀ i,i < ps.length->(pc ps i).size<=1048576) (mode:Int) {r:Hw} (hr:gD fs xs root mode ps 0 S0 t6.length h false 0=r) :
    bp Tryz.prog β 10 #[.agg #[.iface 39 (vP G.w)],vI (h),.slice A (ps.length) (kN),vI (mode)] [wA G fs xs root S0 V0 t6] (fun _ v l=>∃ (V':WV) (eE:List aB),eE.length=r.n/\((r.code=0/\v=.tuple #[.agg #[vI r.cur,.bool r.own,vI r.made],.nilIface]/\l=[wA G fs xs root r.S V' eE])\/(r.code≠0/\∃ (e:Nat) (nm:ByteArray),v=.tuple #[.agg #[vI 0,.bool false,vI r.made],.iface 92 (vP e)]/\l=[wA G fs xs root r.S V' eE,.blk e [vI r.at_,.string nm,vI r.code] 94]))):=by
 refine bp.UM Tryz.func10 rfl Tryz.ntmps10 (Nat.le_of_ble_eq_true rfl) (fun hle0 R=>?_)
 refine SR (gN 1 (fun b1=>[(4,vP b1)]) (fun _=>[]) (fun _=>[]) (fun b1=>.blk b1 [.iface 39 (vP G.w)] 48) (fun b1=>?_))
 refine gN 1 (fun b2=>[(8,vP b2)]) (fun _=>[]) (fun _=>[]) (fun b2=>.blk b2 [vI 0,.bool false,vI 0] 55) (fun b2=>?_)
 refine gN 1 (fun b3=>[(9,vP b3)]) (fun _=>[]) (fun _=>[]) (fun b3=>.blk b3 [.nilIface] 57) (fun b3=>?_)
 refine NS (gN 2 (fun b4=>[(10,vP b4),(21,vI (h))]) (fun _=>[]) (fun _=>[]) (fun b4=>.blk b4 [vI 0] 3) (fun b4=>?_))
 refine gN 1 (fun b5=>[(11,vP b5)]) (fun _=>[]) (fun _=>[]) (fun b5=>.blk b5 [.bool false] 4) (fun b5=>?_)
 refine gN 4 (fun b6=>[(12,vP b6)]) (fun b6=>[(1,a_ 5 b4),(2,a_ 6 b5),(3,a_ 7 b6)]) (fun b6=>[(5,[(0,vI (h))])]) (fun b6=>.blk b6 [vI 0] 3) (fun b6=>?_)
 refine NS (gK 1 [(22,.func (.func 29) #[] #[vP b3,vP b6,vP b2,vP b5,vP b1,vP b4])] [] ?_)
 refine ak.defer (x:=none) ⟨.fn (.func 29) #[vP b3,vP b6,vP b2,vP b5,vP b1,vP b4],#[]⟩ (fun _=>by kernel_rfl) ?_
 refine NN (af.seq (SR (gK 3 [(23,.slice A (ps.length) (kN)),(24,vI ↑ps.length),(25,vI 0)] [] ?_)))
 refine NN (af.block ?_)
 refine af.QE (ι:=Nat×Bs×aJ×WV×(List aB)×Int×Bool×Int) (fun ((i,b,S,V,tr,cur,own,made):Nat×Bs×aJ×WV×(List aB)×Int×Bool×Int)=>b) (fun ((i,b,S,V,tr,cur,own,made):Nat×Bs×aJ×WV×(List aB)×Int×Bool×Int)=>(i<=ps.length)/\(β.le b)/\(dR b A ps)/\(dQ b)/\(jr b)/\(fF b G.Z xs)/\(Inv S)/\((Lit.int .i64 cur).wf=true)/\(tr.length<=100+4 * i)/\(0<=made/\made<=i)/\(gD fs xs root mode (ps.drop i) (i:Int) S tr.length cur own made=r)) (fun ((i,b,S,V,tr,cur,own,made):Nat×Bs×aJ×WV×(List aB)×Int×Bool×Int)=>ps.length - i) (fun ((i,b,S,V,tr,cur,own,made):Nat×Bs×aJ×WV×(List aB)×Int×Bool×Int)=>[(3,vI (mode)),(4,vP b1),(8,vP b2),(9,vP b3),(10,vP b4),(11,vP b5),(12,vP b6),(23,.slice A (ps.length) (kN)),(24,vI ↑ps.length),(25,vI ↑i)]) (fun ((i,b,S,V,tr,cur,own,made):Nat×Bs×aJ×WV×(List aB)×Int×Bool×Int)=>[.blk b1 [.iface 39 (vP G.w)] 48,.blk b2 [vI 0,.bool false,vI 0] 55,.blk b3 [.nilIface] 57,.blk b4 [vI (cur)] 3,.blk b5 [.bool own] 4,.blk b6 [vI (made)] 3,wA G fs xs root S V tr,.abs R]) (0,β,S0,V0,t6,h,false,0) rfl (idx:=[3,4,8,9,10,11,12,23,24,25]) (pk:=[2,3,4,5,6,7,0,1]) (show (0<=ps.length)/\(β.le β)/\(dR β A ps)/\(dQ β)/\(jr β)/\(fF β G.Z xs)/\(Inv S0)/\((Lit.int .i64 h).wf=true)/\(t6.length<=100+4 * 0)/\(0<=0/\0<=0)/\(gD fs xs root mode (ps.drop 0) (0:Int) S0 t6.length h false 0=r) from ⟨Nat.zero_le _,hle0,hP,hg,hE,hZ,hI,hw,by omega,by omega,hr⟩) (fun _=>by kernel_rfl) rfl (by kernel_rfl) ?_
 rintro⟨i,b,S,V,tr,cur,own,made⟩ ⟨hi,hle0,hP,hg,hE,hZ,hI,hw,hn,hm,hr⟩
 show af _ b _ _ [(3,vI (mode)),(4,vP b1),(8,vP b2),(9,vP b3),(10,vP b4),(11,vP b5),(12,vP b6),(23,.slice A (ps.length) (kN)),(24,vI ↑ps.length),(25,vI ↑i)] [.blk b1 [.iface 39 (vP G.w)] 48,.blk b2 [vI 0,.bool false,vI 0] 55,.blk b3 [.nilIface] 57,.blk b4 [vI (cur)] 3,.blk b5 [.bool own] 4,.blk b6 [vI (made)] 3,wA G fs xs root S V tr,.abs R] _
 refine SR (gK 1 [(26,.bool (decide ((((i:Nat):Int):Int) < (((ps.length:Nat):Int):Int))))] [] ?_)
 refine NN (af.seq (af.aW (p:=(((i:Nat):Int):Int) < (((ps.length:Nat):Int):Int)) (fun _=>by kernel_rfl) (fun pN=>?_) (fun pN=>?_)))
 ·refine af.skip (NX (af.seq (af.block (SR ?_))))
  refine gK 5 [(13,vI ↑i),(14,.string (pc ps i))] [(1,p_ ⟨[],some i,none,some ⟨(ay A),ax A,none⟩,none⟩ [((i:Nat):Int)=((i:Nat):Int),i < ps.length,(⟨(ay A),ax A,none⟩:Addr).spot=none,(A:Option Addr)=some ⟨(ay A),ax A,none⟩] ⟨rfl,by omega,rfl,dR.hd hP (j:=i) (by omega),trivial⟩),(2,p_ ⟨[.old (.string (pc ps i))],none,none,none,none⟩ [(Rd b ⟨(ay A),ax A+i * 1,none⟩ (.string (pc ps i)))] ⟨dR.rd hP (by omega),trivial⟩)] ?_
  refine NS (gK 4 [(31,.agg #[.iface 39 (vP G.w)]),(32,vI (cur)),(33,.string (pc ps i)),(34,vI (mode))] [(0,a_ 0 b1),(1,a_ 3 b4)] ?_)
  obtain⟨a,ha⟩:∃ a,dh fs xs root S tr.length cur (pc ps i) mode=a:=⟨_,rfl⟩
  refine ak.fJ (d:=(some 35)) (R:=[.blk b1 [.iface 39 (vP G.w)] 48,.blk b2 [vI 0,.bool false,vI 0] 55,.blk b3 [.nilIface] 57,.blk b4 [vI (cur)] 3,.blk b5 [.bool own] 4,.blk b6 [vI (made)] 3,.abs R]) (pk:=[6,0,1,2,3,4,5,7]) (fun _=>by kernel_rfl) (SC (β:=b) (G:=G) (V:=V) (tr:=tr) hrw hI (by omega) hZ hX hg cur hw (pc ps i) (hps i (by omega)) mode ha) rfl (by kernel_rfl) ?_
  rintro zx _ _ gU ⟨Va,vX,qi,(⟨hc,rfl⟩|⟨hc,rfl⟩),rfl⟩
  ·replace hP:=hP.le gU
   replace hg:=hg.le gU
   replace hE:=hE.le gU
   replace hZ:=hZ.le gU
   replace hle0:=hle0.trans gU
   have Fh:Inv a.S:=by rw [← ha];exact BP hI
   have hna:a.n<=tr.length+3:=by rw [← ha];exact HF
   have Fj:(Lit.int .i64 a.next).wf=true:=by rw [← ha];exact J5 hI
   refine gK 7 [(15,vI (a.next)),(16,.bool a.made),(17,.nilIface)] [] ?_
   refine NN (af.join (ι:=Int) (fun (m2:Int)=>((if a.made=true then made+1 else made)=m2)) (fun (m2:Int)=>[(3,vI (mode)),(4,vP b1),(8,vP b2),(9,vP b3),(10,vP b4),(11,vP b5),(12,vP b6),(13,vI ↑i),(14,.string (pc ps i)),(15,vI (a.next)),(17,.nilIface),(23,.slice A (ps.length) (kN)),(24,vI ↑ps.length),(25,vI ↑i)]) (fun (m2:Int)=>[wA G fs xs root a.S Va vX,.blk b1 [.iface 39 (vP G.w)] 48,.blk b2 [vI 0,.bool false,vI 0] 55,.blk b3 [.nilIface] 57,.blk b4 [vI (cur)] 3,.blk b5 [.bool own] 4,.blk b6 [vI (m2)] 3,.abs R]) ?_ ?_)
   ·rintro m2 hm2
    show af _ _ _ _ [(3,vI (mode)),(4,vP b1),(8,vP b2),(9,vP b3),(10,vP b4),(11,vP b5),(12,vP b6),(13,vI ↑i),(14,.string (pc ps i)),(15,vI (a.next)),(17,.nilIface),(23,.slice A (ps.length) (kN)),(24,vI ↑ps.length),(25,vI ↑i)] [wA G fs xs root a.S Va vX,.blk b1 [.iface 39 (vP G.w)] 48,.blk b2 [vI 0,.bool false,vI 0] 55,.blk b3 [.nilIface] 57,.blk b4 [vI (cur)] 3,.blk b5 [.bool own] 4,.blk b6 [vI (m2)] 3,.abs R] _
    have Rw:0<=m2/\m2<=i+1:=by rw [← hm2];split<;>omega
    refine af.seq (SR (gK 2 [(43,.bool false)] [] ?_))
    refine NN (CF (af.skip (NX (af.seq (SR (gK 1 [(56,.bool own)] [(0,a_ 5 b5)] ?_))))))
    refine NN (af.cond (b:=own) (fun _=>by kernel_rfl) (fun vV=>?_) (fun vV=>?_))
    ·subst vV
     refine SR (gK 2 [(57,.agg #[.iface 39 (vP G.w)]),(58,vI (cur))] [(0,a_ 1 b1),(1,a_ 4 b4)] ?_)
     obtain⟨Sb,cb,eb⟩:∃ Sx cx,aS fs xs root (a.n+1) a.S (dU cur)=(Sx,cx):=⟨_,_,rfl⟩
     refine ak.fJ (d:=(some 59)) (R:=[.blk b1 [.iface 39 (vP G.w)] 48,.blk b2 [vI 0,.bool false,vI 0] 55,.blk b3 [.nilIface] 57,.blk b4 [vI (cur)] 3,.blk b5 [.bool true] 4,.blk b6 [vI (m2)] 3,.abs R]) (pk:=[0,1,2,3,4,5,6,7]) (fun _=>by kernel_rfl) (Fg (β:=zx) (G:=G) (V:=Va) (tr:=vX) (S2:=Sb) (c2:=cb) hrw Fh (by omega) hZ hX hg cur hw (by rw [qi];exact eb)) rfl (by kernel_rfl) ?_
     rintro AX _ _ kC ⟨Vb,Om,rfl,rfl,htb⟩
     replace hP:=hP.le kC
     replace hg:=hg.le kC
     replace hE:=hE.le kC
     replace hZ:=hZ.le kC
     replace hle0:=hle0.trans kC
     have WN:Inv Sb:=by have h:=Inv.aS (fs:=fs) (xs:=xs) (root:=root) (n:=a.n+1) (c:=dU cur) Fh;rw [eb] at h;exact h
     refine gK 1 [(20,vI (cb.code))] [] ?_
     refine NS (gK 2 [(61,.bool (!(decide ((cb.code:Int)=(0:Int)))))] [] ?_)
     refine NN (af.fI (p:=(cb.code:Int)=(0:Int)) (fun _=>by kernel_rfl) (fun Rx=>?_) (fun Rx=>?_))
     ·refine SR (gC 2 [] [(1,a_ 4 b4)] [(4,[(0,vI (a.next))])] ?_)
      refine NS (gN 9 (fun _=>[]) (fun b9=>[(7,A_ 2 b2 3),(8,a_ 3 b3)]) (fun b9=>[(3,[(0,.iface 92 (vP b9))])]) (fun b9=>.blk b9 [vI ↑i,.string (pc ps i),vI (cb.code)] 94) (fun b9=>?_))
      refine NN (af.ret (aj.aq (aj.aK (aj.aq (aj.aq (aj.aK (aj.aq ?_)))))))
      obtain⟨Sc,cc,ec⟩:∃ Sx cx,aS fs xs root (a.n+1+1) Sb (dU a.next)=(Sx,cx):=⟨_,_,rfl⟩
      refine aj.door (rest:=[.abs R,.blk b9 [vI ↑i,.string (pc ps i),vI (cb.code)] 94]) [3,6,2,5,1,4,0,7,8] (fun _=>by kernel_rfl) (Ol (β:=AX) (G:=G) (V:=Vb) (tr:=Om) hrw WN (by omega) hZ hX hg b3 b6 b2 b5 b1 b4 b9 (m2) (.int .i64 0) (.bool false) (.int .i64 0) a.next Fj (S2:=Sc) (c2:=cc) (by rw [htb.trans (by rw [qi])];exact ec)) (by kernel_rfl) rfl ?_
      rintro LI _ _ jK ⟨Vc,Oo,UQ,rfl,rfl⟩
      replace hP:=hP.le jK
      replace hg:=hg.le jK
      replace hE:=hE.le jK
      replace hZ:=hZ.le jK
      replace hle0:=hle0.trans jK
      have hr2:r=⟨Sc,a.n+1+1,0,false,m2,cb.code,(i:Int)⟩:=by rw [← hr,o5 (by omega),Da (by rw [ha];exact hc) rfl (by rw [ha,eb];exact Rx),ha,eb,hm2];exact wZ ec
      subst hr2
      exact aj.iz (v:=.tuple #[.agg #[vI 0,.bool false,vI (m2)],.iface 92 (vP b9)]) (l:=[wA G fs xs root Sc Vc Oo,.blk b9 [vI ↑i,.string (pc ps i),vI (cb.code)] 94]) (aZ:=[b3=b3,b2=b2,b2=b2,b2=b2]) [.at 1,.at 1,.at 1,.at 0] [2,4,3] hle0 (fun _=>by kernel_rfl) ⟨rfl,rfl,rfl,rfl,trivial⟩ rfl (by kernel_rfl) (⟨Vc,Oo,(by rw [UQ,htb,qi]),.inr ⟨Rx,b9,_,rfl,rfl⟩⟩)
     refine af.skip (NX (af.region (gC 3 [] [(1,a_ 4 b4),(2,a_ 5 b5)] [(4,[(0,vI (a.next))])] ?_)))
     refine NL (aj.aO (NX (af.region ?_)))
     refine gK 2 [(25,vI ↑(i+1))] [(0,p_ ⟨[],none,none,none,some (vI ↑(i+1))⟩ [(Value.int .i64 (IntKind.wrap .i64 (((i:Nat):Int)+1)))=(.int .i64 ↑(i+1))] ⟨bC (by omega) (by omega) (by omega),trivial⟩)] ?_
     refine NL ?_
     have hl2:Om.length=a.n+1:=(by rw [htb,qi])
     exact aj.Kx ((i+1),AX,Sb,Vb,Om,a.next,true,m2) (hb:=rfl) (idx:=[3,4,8,9,10,11,12,23,24,25]) (pk:=[1,2,3,4,5,6,0,7]) (show (((i+1))<=ps.length)/\(β.le AX)/\(dR AX A ps)/\(dQ AX)/\(jr AX)/\(fF AX G.Z xs)/\(Inv Sb)/\((Lit.int .i64 a.next).wf=true)/\(Om.length<=100+4 * ((i+1)))/\(0<=m2/\m2<=((i+1)))/\(gD fs xs root mode (ps.drop ((i+1))) (((i+1)):Int) Sb Om.length a.next true m2=r) from ⟨by omega,hle0,hP,hg,hE,hZ,WN,Fj,by omega,by omega,by rw [← hr,o5 (ps:=ps) (j:=i) (by omega),uP (by rw [ha];exact hc) rfl (by rw [ha,eb];exact Rx),ha,eb,hm2,hl2]⟩) (by show ps.length - ((i+1)) < ps.length - i;omega) (fun _=>by kernel_rfl) rfl (by kernel_rfl)
    subst vV
    refine af.skip (NX (af.region (gC 3 [] [(1,a_ 4 b4),(2,a_ 5 b5)] [(4,[(0,vI (a.next))]),(5,[(0,.bool true)])] ?_)))
    refine NL (aj.aO (NX (af.region ?_)))
    refine gK 2 [(25,vI ↑(i+1))] [(0,p_ ⟨[],none,none,none,some (vI ↑(i+1))⟩ [(Value.int .i64 (IntKind.wrap .i64 (((i:Nat):Int)+1)))=(.int .i64 ↑(i+1))] ⟨bC (by omega) (by omega) (by omega),trivial⟩)] ?_
    refine NL ?_
    have hl2:vX.length=a.n:=qi
    exact aj.Kx ((i+1),zx,a.S,Va,vX,a.next,true,m2) (hb:=rfl) (idx:=[3,4,8,9,10,11,12,23,24,25]) (pk:=[1,2,3,4,5,6,0,7]) (show (((i+1))<=ps.length)/\(β.le zx)/\(dR zx A ps)/\(dQ zx)/\(jr zx)/\(fF zx G.Z xs)/\(Inv a.S)/\((Lit.int .i64 a.next).wf=true)/\(vX.length<=100+4 * ((i+1)))/\(0<=m2/\m2<=((i+1)))/\(gD fs xs root mode (ps.drop ((i+1))) (((i+1)):Int) a.S vX.length a.next true m2=r) from ⟨by omega,hle0,hP,hg,hE,hZ,Fh,Fj,by omega,by omega,by rw [← hr,o5 (ps:=ps) (j:=i) (by omega),wW (by rw [ha];exact hc) (by decide),ha,hm2,hl2]⟩) (by show ps.length - ((i+1)) < ps.length - i;omega) (fun _=>by kernel_rfl) rfl (by kernel_rfl)
   refine SR (gK 1 [(39,.bool a.made)] [] ?_)
   refine NN (af.cond (b:=a.made) (fun _=>by kernel_rfl) (fun iV=>?_) (fun iV=>?_))
   ·refine af.region (gC 3 [] [(0,a_ 6 b6),(1,p_ ⟨[],none,none,none,some (vI (made+1))⟩ [(Value.int .i64 (IntKind.wrap .i64 (made+1)))=(.int .i64 (made+1))] ⟨bC (by omega) (by omega) (by omega),trivial⟩),(2,a_ 6 b6)] [(6,[(0,vI (made+1))])] ?_)
    refine NL ?_
    exact aj.meet ((made+1)) (idx:=[3,4,8,9,10,11,12,13,14,15,17,23,24,25]) (pk:=[0,1,2,3,4,5,6,7]) (show ((if a.made=true then made+1 else made)=((made+1))) from if_pos iV) (fun _=>by kernel_rfl) rfl (by kernel_rfl)
   refine af.skip ?_
   exact aj.meet made (idx:=[3,4,8,9,10,11,12,13,14,15,17,23,24,25]) (pk:=[0,1,2,3,4,5,6,7]) (show ((if a.made=true then made+1 else made)=made) from if_neg (by rw [iV];decide)) (fun _=>by kernel_rfl) rfl (by kernel_rfl)
  replace hP:=hP.le gU
  replace hg:=hg.le gU
  replace hE:=hE.le gU
  replace hZ:=hZ.le gU
  replace hle0:=hle0.trans gU
  have Fh:Inv a.S:=by rw [← ha];exact BP hI
  have hna:a.n<=tr.length+3:=by rw [← ha];exact HF
  have Fj:(Lit.int .i64 a.next).wf=true:=by rw [← ha];exact J5 hI
  refine gK 7 [(15,vI 0),(16,.bool a.made),(17,.iface 40 (.int .i64 (a.code)))] [] ?_
  refine NN (af.join (ι:=Int) (fun (m2:Int)=>((if a.made=true then made+1 else made)=m2)) (fun (m2:Int)=>[(3,vI (mode)),(4,vP b1),(8,vP b2),(9,vP b3),(10,vP b4),(11,vP b5),(12,vP b6),(13,vI ↑i),(14,.string (pc ps i)),(15,vI 0),(17,.iface 40 (.int .i64 (a.code))),(23,.slice A (ps.length) (kN)),(24,vI ↑ps.length),(25,vI ↑i)]) (fun (m2:Int)=>[wA G fs xs root a.S Va vX,.blk b1 [.iface 39 (vP G.w)] 48,.blk b2 [vI 0,.bool false,vI 0] 55,.blk b3 [.nilIface] 57,.blk b4 [vI (cur)] 3,.blk b5 [.bool own] 4,.blk b6 [vI (m2)] 3,.abs R]) ?_ ?_)
  ·rintro m2 hm2
   show af _ _ _ _ [(3,vI (mode)),(4,vP b1),(8,vP b2),(9,vP b3),(10,vP b4),(11,vP b5),(12,vP b6),(13,vI ↑i),(14,.string (pc ps i)),(15,vI 0),(17,.iface 40 (.int .i64 (a.code))),(23,.slice A (ps.length) (kN)),(24,vI ↑ps.length),(25,vI ↑i)] [wA G fs xs root a.S Va vX,.blk b1 [.iface 39 (vP G.w)] 48,.blk b2 [vI 0,.bool false,vI 0] 55,.blk b3 [.nilIface] 57,.blk b4 [vI (cur)] 3,.blk b5 [.bool own] 4,.blk b6 [vI (m2)] 3,.abs R] _
   have Rw:0<=m2/\m2<=i+1:=by rw [← hm2];split<;>omega
   refine af.seq (SR (gK 2 [(43,.bool true)] [] ?_))
   refine NN (CT (SR (gK 1 [(45,.iface 40 (.int .i64 (a.code)))] [] ?_)))
   refine gL [] (EA hE (a.code)) ?_
   rintro _ _ ⟨rfl,rfl⟩
   refine gK 5 [(18,vI (a.code))] [] ?_
   refine NS ?_
   rcases Bool.eq_false_or_eq_true own with rfl|rfl
   ·refine gN 9 (fun _=>[]) (fun b11=>[(7,A_ 2 b2 3),(8,a_ 3 b3)]) (fun b11=>[(3,[(0,.iface 92 (vP b11))])]) (fun b11=>.blk b11 [vI ↑i,.string (pc ps i),vI (a.code)] 94) (fun b11=>?_)
    refine NN (af.ret (aj.aq (aj.aK (aj.aq (aj.aq (aj.aK (aj.aq ?_)))))))
    obtain⟨Sc,cc,ec⟩:∃ Sx cx,aS fs xs root (a.n+1) a.S (dU cur)=(Sx,cx):=⟨_,_,rfl⟩
    refine aj.door (rest:=[.abs R,.blk b11 [vI ↑i,.string (pc ps i),vI (a.code)] 94]) [3,6,2,5,1,4,0,7,8] (fun _=>by kernel_rfl) (Ol (β:=zx) (G:=G) (V:=Va) (tr:=vX) hrw Fh (by omega) hZ hX hg b3 b6 b2 b5 b1 b4 b11 (m2) (.int .i64 0) (.bool false) (.int .i64 0) cur hw (S2:=Sc) (c2:=cc) (by rw [qi];exact ec)) (by kernel_rfl) rfl ?_
    rintro p8 _ _ cV ⟨Vc,Oo,UQ,rfl,rfl⟩
    replace hP:=hP.le cV
    replace hg:=hg.le cV
    replace hE:=hE.le cV
    replace hZ:=hZ.le cV
    replace hle0:=hle0.trans cV
    have hr2:r=⟨Sc,a.n+1,0,false,m2,a.code,(i:Int)⟩:=by rw [← hr,o5 (by omega),rQ (by rw [ha];exact hc),ha,hm2];exact wZ ec
    subst hr2
    exact aj.iz (v:=.tuple #[.agg #[vI 0,.bool false,vI (m2)],.iface 92 (vP b11)]) (l:=[wA G fs xs root Sc Vc Oo,.blk b11 [vI ↑i,.string (pc ps i),vI (a.code)] 94]) (aZ:=[b3=b3,b2=b2,b2=b2,b2=b2]) [.at 1,.at 1,.at 1,.at 0] [2,4,3] hle0 (fun _=>by kernel_rfl) ⟨rfl,rfl,rfl,rfl,trivial⟩ rfl (by kernel_rfl) (⟨Vc,Oo,(by rw [UQ,qi]),.inr ⟨hc,b11,_,rfl,rfl⟩⟩)
   refine gN 9 (fun _=>[]) (fun b13=>[(7,A_ 2 b2 3),(8,a_ 3 b3)]) (fun b13=>[(3,[(0,.iface 92 (vP b13))])]) (fun b13=>.blk b13 [vI ↑i,.string (pc ps i),vI (a.code)] 94) (fun b13=>?_)
   refine NN (af.ret (aj.aq (aj.aK (aj.aq (aj.aq (aj.aK (aj.aq ?_)))))))
   refine aj.door (rest:=[wA G fs xs root a.S Va vX,.blk b1 [.iface 39 (vP G.w)] 48,.blk b4 [vI (cur)] 3,.abs R,.blk b13 [vI ↑i,.string (pc ps i),vI (a.code)] 94]) [3,6,2,5,0,1,4,7,8] (fun _=>by kernel_rfl) (UO b3 b6 b2 b5 b1 b4 b13 (m2) (.int .i64 0) (.bool false) (.int .i64 0)) (by kernel_rfl) rfl ?_
   rintro UK _ _ jh ⟨rfl,rfl⟩
   replace hP:=hP.le jh
   replace hg:=hg.le jh
   replace hE:=hE.le jh
   replace hZ:=hZ.le jh
   replace hle0:=hle0.trans jh
   have hr2:r=⟨a.S,a.n,0,false,m2,a.code,(i:Int)⟩:=by rw [← hr,o5 (by omega),rQ (by rw [ha];exact hc),ha,hm2];exact BQ
   subst hr2
   exact aj.iz (v:=.tuple #[.agg #[vI 0,.bool false,vI (m2)],.iface 92 (vP b13)]) (l:=[wA G fs xs root a.S Va vX,.blk b13 [vI ↑i,.string (pc ps i),vI (a.code)] 94]) (aZ:=[b3=b3,b2=b2,b2=b2,b2=b2]) [.at 1,.at 1,.at 1,.at 0] [2,6,5] hle0 (fun _=>by kernel_rfl) ⟨rfl,rfl,rfl,rfl,trivial⟩ rfl (by kernel_rfl) (⟨Va,vX,qi,.inr ⟨hc,b13,_,rfl,rfl⟩⟩)
  refine SR (gK 1 [(39,.bool a.made)] [] ?_)
  refine NN (af.cond (b:=a.made) (fun _=>by kernel_rfl) (fun iV=>?_) (fun iV=>?_))
  ·refine af.region (gC 3 [] [(0,a_ 6 b6),(1,p_ ⟨[],none,none,none,some (vI (made+1))⟩ [(Value.int .i64 (IntKind.wrap .i64 (made+1)))=(.int .i64 (made+1))] ⟨bC (by omega) (by omega) (by omega),trivial⟩),(2,a_ 6 b6)] [(6,[(0,vI (made+1))])] ?_)
   refine NL ?_
   exact aj.meet ((made+1)) (idx:=[3,4,8,9,10,11,12,13,14,15,17,23,24,25]) (pk:=[0,1,2,3,4,5,6,7]) (show ((if a.made=true then made+1 else made)=((made+1))) from if_pos iV) (fun _=>by kernel_rfl) rfl (by kernel_rfl)
  refine af.skip ?_
  exact aj.meet made (idx:=[3,4,8,9,10,11,12,13,14,15,17,23,24,25]) (pk:=[0,1,2,3,4,5,6,7]) (show ((if a.made=true then made+1 else made)=made) from if_neg (by rw [iV];decide)) (fun _=>by kernel_rfl) rfl (by kernel_rfl)
 refine af.exit (aj.aV (aj.aV (aj.cL (NX (SR ?_)))))
 refine gC 6 [] [(0,a_ 3 b4),(1,a_ 4 b5),(2,a_ 5 b6),(4,A_ 1 b2 3),(5,a_ 2 b3)] [(1,[(0,vI (cur)),(1,.bool own),(2,vI (made))])] ?_
 refine NN (af.ret (aj.door (rest:=[.blk b1 [.iface 39 (vP G.w)] 48,.blk b2 [vI (cur),.bool own,vI (made)] 55,.blk b4 [vI (cur)] 3,.blk b5 [.bool own] 4,.blk b6 [vI (made)] 3,wA G fs xs root S V tr,.abs R]) [2,0,1,3,4,5,6,7] (fun _=>by kernel_rfl) (UN b3 b6 b2 b5 b1 b4) (by kernel_rfl) rfl ?_))
 rintro Zl _ _ t7 ⟨rfl,rfl⟩
 replace hP:=hP.le t7
 replace hg:=hg.le t7
 replace hE:=hE.le t7
 replace hZ:=hZ.le t7
 replace hle0:=hle0.trans t7
 have hi2:i=ps.length:=by omega
 have hr2:r=⟨S,tr.length,cur,own,made,0,0⟩:=by rw [← hr,hi2,List.drop_length,zh]
 subst hr2
 exact aj.iz (v:=.tuple #[.agg #[vI (cur),.bool own,vI (made)],.nilIface]) (l:=[wA G fs xs root S V tr]) (aZ:=[b3=b3,b2=b2,b2=b2,b2=b2]) [.at 2,.at 2,.at 2,.at 0] [6,7] hle0 (fun _=>by kernel_rfl) ⟨rfl,rfl,rfl,rfl,trivial⟩ rfl (by kernel_rfl) (⟨V,tr,rfl,.inl ⟨rfl,rfl,rfl⟩⟩)
theorem zA {β:Bs} (A:Option Addr) (c:Nat) (d:List ByteArray) (hA:dR β A d) (hl:d.length<=1048576) :
    bp Tryz.prog β 11 #[.slice A d.length c] [] (fun β' v l=>∃ B cap,v=.slice B d.length cap/\l=[]/\dR β' B d):=by
 refine bp.enter Tryz.func11 rfl Tryz.ntmps11 (Nat.le_of_ble_eq_true rfl) (fun hle0 R=>?_)
 refine SR (gK 1 [] [] ?_)
 refine NS (gN 2 (fun Ix=>[(3,.slice (some ⟨Ix,0,none⟩) (0) (0))]) (fun _=>[]) (fun _=>[]) (fun Ix=>.blk Ix [] 9) (fun Ix=>?_))
 refine NS (ak.mem (fun w hS=>hS.og (i:=1) (b:=Ix) (cs:=[]) (e:=9) 1 0 (by kernel_rfl) rfl (by decide)) ?_)
 refine gK 2 [(5,.slice (some ⟨Ix,0,none⟩) (0) (0)),(6,.slice A (d.length) (c))] [] ?_
 refine ak.append 1 (d:=(some 7)) (t:=35) (e:=9) (z:=.string ⟨#[]⟩) (size:=1) (bytes:=16) (n:=0) (cap:=0) (A:=some ⟨Ix,0,none⟩) (xs:=[]) (s:=(.tmp 5)) (x:=(.tmp 6)) (ats:=#[35,35]) (A':=A) (m:=d.length) (c':=c) (news:=(gZ d)) (fun _=>by kernel_rfl) rfl (by kernel_rfl) (fun _=>by kernel_rfl) (fun _=>by kernel_rfl) Tryz.underlying35 (by kernel_rfl) rfl (by decide) (by rw [E8,Nat.mul_one]) (HM) (hA.src) (by unfold maxLen;omega) (by omega) (fun Du Fk=>?_)
 refine ak.dV 1 (p:=.abs (aH 9 1 Du (0+d.length) Fk ([]++(gZ d)))) (p':=.abs (aH 9 1 Du d.length Fk (gZ d))) (by kernel_rfl) (by rw [Nat.zero_add,List.nil_append]) ?_
 refine ak.slot 7 (.slice Du (0+d.length) (Fk)) (.slice Du (d.length) (Fk)) (fun _=>by kernel_rfl) (by rw [Nat.zero_add]) ?_
 refine gK 1 [(3,.slice Du (d.length) (Fk))] [] ?_
 refine NS (ak.mK (Φ:=fun β'=>dR β' Du d) 1 [0] (dm:=[.abs R]) rfl rfl (by kernel_rfl) (fun F w h β' h1 h2=>cM.jA h h1 h2) (fun Zm Iy hB=>?_))
 replace hA:=hA.le Iy
 replace hle0:=hle0.trans Iy
 refine gK 2 [(2,.slice Du (d.length) (Fk))] [] ?_
 refine NN (af.ret ?_)
 exact aj.iz (v:=.slice Du (d.length) (Fk)) (l:=[]) (aZ:=[]) [] [0] hle0 (fun _=>by kernel_rfl) trivial rfl (by kernel_rfl) (⟨Du,Fk,rfl,rfl,hB⟩)
end
section
open Go.RowKit Go.Maps bq aF
abbrev kO (id:Int):aB:=⟨1,0,id,⟨#[]⟩,⟨#[]⟩,none,0,[],0,0,0,0,0,0,0⟩
section h
variable {fs:List bh} {xs:List bK} {root:Int} {S S1 S2:aJ} {c1 c2:aB} {n:Nat} {cur mode made i h:Int} {own:Bool} {p:ByteArray} {t:Th}
theorem qN {us:Used Th} {k:Int} {t:Th} (e:aF.get us k=some t):k∈keys us:=List.mem_map.2 ⟨_,get_mem e,rfl⟩
theorem UR {name:ByteArray} (e:aS fs xs root n S (zf h name mode)=(S2,c2)):S2.us=S.us/\S2.aD=S.aD:=by
  have hu:=tQ (root:=root) (S:=S) (xs:=bF xs n)
  rcases vw (fs:=fs) (xs:=xs) (root:=root) (n:=n) (S:=S) (c:=zf h name mode) (by show (4:Int)≠1;decide) (by show (4:Int)≠9;decide) with h1|⟨k,hk,h1⟩
  ·rw [h1] at e
   unfold bI at e
   rw [uH (c:={ zf h name mode with answer:=0,code:=230 }) rfl] at e
   unfold gI at e
   split at e
   ·cases e;exact hu
   split at e
   ·unfold gY at e
    split at e<;>(cases e;exact hu)
   cases e;exact hu
  rw [h1] at e
  cases e
  exact hu
theorem Fl (e:aS fs xs root n S (dU h)=(S2,c2)) (hg:aF.get S.us h=some t):S2.us=del h S.us/\S2.aD=S.aD:=by
  have hu:=tQ (root:=root) (S:=S) (xs:=bF xs n)
  have hd:(bI (fK root S (bF xs n)) (dU h)).1.us=del h S.us/\(bI (fK root S (bF xs n)) (dU h)).1.aD=S.aD:=by
    unfold bI
    rw [rI (c:={ dU h with answer:=0,code:=230 }) rfl]
    unfold jt
    rw [show aF.get (fK root S (bF xs n)).us ({ dU h with answer:=0,code:=230 }:aB).handle=some t by rw [hu.1];exact hg]
    exact⟨by rw [← hu.1],hu.2⟩
  rcases vw (fs:=fs) (xs:=xs) (root:=root) (n:=n) (S:=S) (c:=dU h) (by show (13:Int)≠1;decide) (by show (13:Int)≠9;decide) with h1|⟨k,hk,h1⟩
  ·rw [h1] at e
   rw [e] at hd
   exact hd
  rw [h1,if_pos (show (dU h).op=13 from rfl)] at e
  cases e
  exact hd
structure Held (S:aJ) (cur:Int) (own:Bool):Prop where
  inv:Inv S
  len:S.us.length=if own=true then 2 else 1
  cur:own=true->∃ t,aF.get S.us cur=some t
  pk:S.aD<=3
theorem Held.LR (h:Held S cur own) (e:aS fs xs root n S c1=(S2,c2)):Inv S2:=by
  have:=h.inv.aS (fs:=fs) (xs:=xs) (root:=root) (n:=n) (c:=c1);rw [e] at this;exact this
structure Ry (S:aJ) (cur:Int) (own:Bool) (a:Lx):Prop where
  ok:a.code=0->a.S.us.length=(if own=true then 3 else 2)/\(own=true->∃ t,aF.get a.S.us cur=some t)/\(∃ t,aF.get a.S.us a.next=some t)/\(own=true->a.next≠cur)
  bad:a.code≠0->Held a.S cur own
  pk:a.S.aD<=3
  made:a.made=true->mode < 0->False
theorem Fm (hl:S.us.length=if own=true then 2 else 1) (hI:Inv S) (hc:own=true->∃ t,aF.get S.us cur=some t) (hpk:S.aD<=3) {name:ByteArray} (e:aS fs xs root n S (eP h name)=(S2,c2)) :
    (c2.code=0->S2.us.length=(if own=true then 3 else 2)/\(own=true->∃ t,aF.get S2.us cur=some t)/\(∃ t,aF.get S2.us c2.answer=some t)/\(own=true->c2.answer≠cur))/\(c2.code≠0->S2.us=S.us)/\S2.aD<=3:=by
  rcases AP e with ⟨h1,t,h2,h3,h4⟩|⟨h1,h2,h3,h4⟩
  ·obtain⟨g1,g2,_⟩:=least_le hI.usr (fun x hx=>(hI.su x hx).1)
   refine⟨fun _=>⟨?_,fun ho=>?_,⟨t,?_⟩,fun ho hq=>?_⟩,fun hn=>absurd h1 hn,?_⟩
   ·rw [h3,iG,hl];split<;>rfl
   ·obtain⟨u,hu⟩:=hc ho
    refine⟨u,?_⟩
    rw [h3,kZ g2,if_neg (fun hq:cur=aF.least S.us=>g2 (hq ▸ qN hu))]
    exact hu
   ·rw [h3,h2,kZ g2,if_pos rfl]
   ·obtain⟨u,hu⟩:=hc ho
    rw [h2] at hq
    exact g2 (hq ▸ qN hu)
   rw [h4,hl]
   split<;>omega
  exact⟨fun hn=>absurd hn h1,fun _=>h3,by rw [h4];exact hpk⟩
theorem Held.step (hh:Held S cur own):Ry (mode:=mode) S cur own (dh fs xs root S n cur p mode):=by
  obtain⟨S1,c1,e1⟩:∃ Sx cx,aS fs xs root (n+1) S (eP cur p)=(Sx,cx):=⟨_,_,rfl⟩
  obtain⟨a1,a2,a3⟩:=Fm hh.len hh.inv hh.cur hh.pk e1
  have i1:=hh.LR e1
  by_cases h1:c1.code=0
  ·rw [wX e1 h1]
   exact⟨fun _=>a1 h1,fun h=>absurd rfl h,a3,fun h=>absurd h Bool.false_ne_true⟩
  have u1:=a2 h1
  have Kn:Held S1 cur own:=⟨i1,by rw [u1];exact hh.len,by rw [u1];exact hh.cur,a3⟩
  by_cases h2:¬ c1.code=170\/mode < 0
  ·rw [rR e1 h1 h2]
   exact⟨fun h=>absurd h h1,fun _=>Kn,a3,fun h=>absurd h Bool.false_ne_true⟩
  obtain⟨S2,c2,e2⟩:∃ Sx cx,aS fs xs root (n+2) S1 (zf cur p mode)=(Sx,cx):=⟨_,_,rfl⟩
  obtain⟨b1,b2⟩:=UR e2
  have ud:Held S2 cur own:=⟨Kn.LR e2,by rw [b1];exact Kn.len,by rw [b1];exact Kn.cur,by rw [b2];exact a3⟩
  by_cases h3:¬ c2.code=0/\¬ c2.code=171
  ·rw [E7 e1 h1 h2 e2 h3]
   exact⟨fun h=>absurd h h3.1,fun _=>ud,ud.pk,fun h=>absurd h Bool.false_ne_true⟩
  obtain⟨S3,c3,e3⟩:∃ Sx cx,aS fs xs root (n+3) S2 (eP cur p)=(Sx,cx):=⟨_,_,rfl⟩
  obtain⟨d1,d2,d3⟩:=Fm ud.len ud.inv ud.cur ud.pk e3
  have hm:mode < 0->False:=fun h=>h2 (.inr h)
  by_cases h4:c3.code=0
  ·rw [wY e1 h1 h2 e2 h3 e3 h4]
   exact⟨fun _=>d1 h4,fun h=>absurd rfl h,d3,fun _=>hm⟩
  rw [zi e1 h1 h2 e2 h3 e3 h4]
  have u3:=d2 h4
  exact⟨fun h=>absurd h h4,fun _=>⟨ud.LR e3,by rw [u3];exact ud.len,by rw [u3];exact ud.cur,d3⟩,d3,fun _=>hm⟩
theorem Held.close (hI:Inv S) (hl:S.us.length=3) (hg:∃ t,aF.get S.us cur=some t) {next:Int} (hn:∃ t,aF.get S.us next=some t) (hne:next≠cur) (hpk:S.aD<=3) (e:aS fs xs root n S (dU cur)=(S2,c2)):Held S2 next true:=by
  obtain⟨t,hg⟩:=hg
  obtain⟨u,hn⟩:=hn
  obtain⟨h1,h2⟩:=Fl e hg
  refine⟨by have:=hI.aS (fs:=fs) (xs:=xs) (root:=root) (n:=n) (c:=dU cur);rw [e] at this;exact this,?_,fun _=>⟨u,?_⟩,by rw [h2];exact hpk⟩
  ·have:=nE hI.usr (qN hg)
   rw [h1]
   show _=2
   omega
  rw [h1,qv,if_neg hne];exact hn
structure Rz (mode:Int) (len:Nat) (n0:Nat) (h:Int) (r:Hw):Prop where
  inv:Inv r.S
  pk:r.S.aD<=3
  made:0<=r.made/\r.made<=len
  m0:mode < 0->r.made=0
  n:r.n<=4 * len+1+n0
  bad:r.code≠0->r.S.us.length=1
  ok:r.code=0->Held r.S r.cur r.own/\(r.own=decide (0 < len))/\(r.own=false->r.cur=h)
theorem Held.fail (hh:Held S cur own) {code at_:Int} (_ZL:code≠0):(kf fs xs root S n cur own made code at_).S.us.length=1/\Inv (kf fs xs root S n cur own made code at_).S/\(kf fs xs root S n cur own made code at_).S.aD<=3/\(kf fs xs root S n cur own made code at_).made=made/\(kf fs xs root S n cur own made code at_).code=code/\(kf fs xs root S n cur own made code at_).n<=n+1:=by
  obtain⟨S2,c2,e2⟩:∃ Sx cx,aS fs xs root (n+1) S (dU cur)=(Sx,cx):=⟨_,_,rfl⟩
  cases own with
  | false=>rw [BQ];exact⟨hh.len,hh.inv,hh.pk,rfl,rfl,Nat.le_succ n⟩
  | true=>
    rw [wZ e2]
    obtain⟨t,hg⟩:=hh.cur rfl
    obtain⟨h1,h2⟩:=Fl e2 hg
    refine⟨?_,hh.LR e2,by show S2.aD<=3;rw [h2];exact hh.pk,rfl,rfl,Nat.le_refl _⟩
    have h3:=nE hh.inv.usr (qN hg)
    have h4:S.us.length=2:=hh.len
    show S2.us.length=1
    rw [h1]
    omega
theorem uY {h0:Int} {n0 len:Nat}:∀ (r:List ByteArray) (i:Int) (S:aJ) (n:Nat) (cur:Int) (own:Bool) (made:Int),Held S cur own->0<=made->made+r.length<=len->(mode < 0->made=0)->(own=true->n+4 * r.length<=4 * len+n0/\r.length < len)->(own=false->n=n0/\r.length=len/\cur=h0)->Rz mode len n0 h0 (gD fs xs root mode r i S n cur own made)
  | [],i,S,n,cur,own,made,hh,hm,hml,hm0,hn,hf=>by
    rw [zh]
    simp only [List.length_nil] at hml hn hf
    refine⟨hh.inv,hh.pk,⟨hm,by show made<=_;omega⟩,hm0,?_,fun h=>absurd rfl h,fun _=>⟨hh,?_,fun ho=>(hf ho).2.2⟩⟩
    ·show n<=_
     cases own with
     | true=>have:=(hn rfl).1;omega
     | false=>have:=(hf rfl).1;omega
    show own=_
    cases own with
    | true=>have:=(hn rfl).2;exact (decide_eq_true (by omega)).symm
    | false=>have:=(hf rfl).2.1;exact (decide_eq_false (by omega)).symm
  | p::r,i,S,n,cur,own,made,hh,hm,hml,hm0,hn,hf=>by
    obtain⟨a,ha⟩:∃ a,dh fs xs root S n cur p mode=a:=⟨_,rfl⟩
    have hs:Ry (mode:=mode) S cur own a:=by rw [← ha];exact hh.step
    have hna:a.n<=n+3:=by rw [← ha];exact HF
    have Fh:Inv a.S:=by rw [← ha];exact BP hh.inv
    obtain⟨m2,hm2⟩:∃ m2,(if a.made=true then made+1 else made)=m2:=⟨_,rfl⟩
    have Rw:0<=m2/\m2<=made+1:=by rw [← hm2];split<;>omega
    have RA:mode < 0->m2=0:=fun hq=>by
      rw [← hm2,if_neg (fun h=>hs.made h hq)];exact hm0 hq
    rw [List.length_cons] at hml hn hf
    have hnn:n+4 * (r.length+1)<=4 * len+n0:=by
      cases own with
      | true=>exact (hn rfl).1
      | false=>have:=hf rfl;omega
    by_cases hc:a.code=0
    ·obtain⟨o1,o2,o3,o4⟩:=hs.ok hc
     by_cases ho:own=true
     ·subst ho
      obtain⟨S2,c2,e2⟩:∃ Sx cx,aS fs xs root (a.n+1) a.S (dU cur)=(Sx,cx):=⟨_,_,rfl⟩
      have h2:Held S2 a.next true:=Held.close Fh o1 (o2 rfl) o3 (o4 rfl) hs.pk e2
      by_cases hc2:c2.code=0
      ·rw [uP (by rw [ha];exact hc) rfl (by rw [ha,e2];exact hc2),ha,e2,hm2]
       exact uY r _ _ _ _ _ _ h2 Rw.1 (by omega) RA (fun _=>⟨by omega,by omega⟩) (fun h=>absurd h (by decide))
      rw [Da (by rw [ha];exact hc) rfl (by rw [ha,e2];exact hc2),ha,e2,hm2]
      show Rz mode len n0 h0 (kf fs xs root S2 (a.n+1) a.next true m2 c2.code i)
      obtain⟨f1,f2,f3,f4,f5,f6⟩:=h2.fail (fs:=fs) (xs:=xs) (root:=root) (n:=a.n+1) (made:=m2) (at_:=i) hc2
      exact⟨f2,f3,by rw [f4];omega,by rw [f4];exact RA,by omega,fun _=>f1,fun h=>absurd (f5.symm.trans h) hc2⟩
     have ho:own=false:=by simpa using ho
     subst ho
     rw [wW (by rw [ha];exact hc) (by decide),ha,hm2]
     have:=hf rfl
     exact uY r _ _ _ _ _ _ ⟨Fh,o1,fun _=>o3,hs.pk⟩ Rw.1 (by omega) RA (fun _=>⟨by omega,by omega⟩) (fun h=>absurd h (by decide))
    rw [rQ (by rw [ha];exact hc),ha,hm2]
    obtain⟨f1,f2,f3,f4,f5,f6⟩:=(hs.bad hc).fail (fs:=fs) (xs:=xs) (root:=root) (n:=a.n) (made:=m2) (at_:=i) hc
    exact⟨f2,f3,by rw [f4];omega,by rw [f4];exact RA,by omega,fun _=>f1,fun h=>absurd (f5.symm.trans h) hc⟩
end h
end
section
open Go.RowKit Go.Maps bq aF
section e
variable {β:Bs} {fs:List bh} {xs:List bK} {root:Int} {ns:List aI} {X:FM}
abbrev newP (β:Bs) (B:Option Addr) (ns:List aI) (Bf:Option Addr) (bf:Nat) (fs:List bh) (Ba:Option Addr) (ba:Nat) (xs:List bK):List HP:=[.abs (lC β (fun β'=>∃ K,aE β' B ns K)),.abs (aH 139 2 Bf fs.length bf (bR fU fs)),.abs (aH 136 5 Ba xs.length ba (bR gM xs))]
abbrev Qt (B:Option Addr) (n cp:Nat) (root:Int) (X:FM) (Bf:Option Addr) (nf bf:Nat) (Ba:Option Addr) (na ba:Nat):Array Value:=#[.agg #[.slice B n cp],.int .i64 root,.agg #[.int .i64 X.cN,.int .i64 X.cB,.int .i64 X.cH,.int .i64 X.cS,.int .i64 X.cZ],.agg #[.slice Bf nf bf,.slice Ba na ba]]
theorem Iz {Bf Ba:Option Addr} (B:Option Addr) (cp:Nat) (hB:fN ns 1048576) (bf ba:Nat) (mP:jj fs 2097152) (hab:ef xs 1048576) :
    bp Tryz.prog β 26 (Qt B ns.length cp root X Bf fs.length bf Ba xs.length ba) (newP β B ns Bf bf fs Ba ba xs) (fun β' v l=>(cU X ns root≠0/\v=.tuple #[.pointer none,.int .i64 (cU X ns root)]/\l=[])\/(cU X ns root=0/\∃ (N:tY X ns) (G:WG) (V:WV),v=.tuple #[vP G.w,.int .i64 0]/\l=[wA G fs xs root N.1 V []]/\fF β' G.Z xs)):=
  bp.Le fun β1 _ ⟨K,hG⟩=>bp.Ub fun yj hL=>by
    obtain⟨F,h1,h2⟩:=hL.get 0 rfl
    obtain⟨F',h1',h2'⟩:=hL.get 1 rfl
    exact SB B cp (hG.le hL.le) hB bf ba (cM.jA h1 h2 rfl) mP (cM.jA h1' h2' rfl) hab
theorem Qu (h0:cU X ns root=0) {Bf Ba:Option Addr} (B:Option Addr) (cp:Nat) (hB:fN ns 1048576) (bf ba:Nat) (mP:jj fs 2097152) (hab:ef xs 1048576) :
    Spec Tryz.prog β 26 (Qt B ns.length cp root X Bf fs.length bf Ba xs.length ba) (newP β B ns Bf bf fs Ba ba xs) (fun v l=>∃ (N:tY X ns) (G:WG) (V:WV),v=.tuple #[vP G.w,.int .i64 0]/\l=[.abs (lC β (fun β'=>fF β' G.Z xs)),wA G fs xs root N.1 V []]):=
  (bp.QY (ι:=tY X ns×WG×WV) (vv:=fun x=>.tuple #[vP x.2.1.w,.int .i64 0]) (ll:=fun x=>[wA x.2.1 fs xs root x.1.1 x.2.2 []]) (Φ:=fun x β'=>fF β' x.2.1.Z xs)
    ((Iz (X:=X) B cp hB bf ba mP hab).mono (by
      rintro β' v l _ (⟨h,_⟩|⟨_,N,G,V,h1,h2,h3⟩)
      ·exact absurd h0 h
      exact⟨(N,G,V),h1,h2,h3⟩))).mono (by rintro v l ⟨⟨N,G,V⟩,h1,h2⟩;exact⟨N,G,V,h1,h2⟩)
theorem Oq (h0:¬ cU X ns root=0) {Bf Ba:Option Addr} (B:Option Addr) (cp:Nat) (hB:fN ns 1048576) (bf ba:Nat) (mP:jj fs 2097152) (hab:ef xs 1048576) :
    Spec Tryz.prog β 26 (Qt B ns.length cp root X Bf fs.length bf Ba xs.length ba) (newP β B ns Bf bf fs Ba ba xs) (fun v l=>v=.tuple #[.pointer none,.int .i64 (cU X ns root)]/\l=[]):=
  ((Iz (X:=X) B cp hB bf ba mP hab).mono (by
      rintro β' v l _ (⟨_,h1,h2⟩|⟨h,_⟩)
      ·exact⟨h1,h2⟩
      exact absurd h h0)).CV
end e
end
section
open Go.RowKit Go.Maps bq aF
attribute [local irreducible] ak aU af aj
noncomputable abbrev IB (b1:Nat) (A:Option Addr) (ns:List aI) (c) (root) (X:FM) (Af) (fs:List bh) (cf) (Aa) (xs:List bK) (ca):=(.blk b1 [.slice A (ns.length) (c),vI (root),vI (X.cN),vI (X.cB),vI (X.cH),vI (X.cS),vI (X.cZ),.slice Af (fs.length) (cf),.slice Aa (xs.length) (ca)] 34:HP)
noncomputable abbrev RB (B)(ns:List aI) (cp) (root) (X:FM):=([(6,.agg #[.slice B (ns.length) (cp)]),(8,vI (root)),(10,.agg #[vI (X.cN),vI (X.cB),vI (X.cH),vI (X.cS),vI (X.cZ)])]:Fr)
noncomputable abbrev WO (root)(X:FM):=([(8,vI (root)),(10,.agg #[vI (X.cN),vI (X.cB),vI (X.cH),vI (X.cS),vI (X.cZ)])]:Fr)
theorem Fo {β:Bs} (A:Option Addr) (c:Nat) (ns:List aI) (Y:Lay) (hG:aE β A ns Y) (hB:fN ns 1048576) (X:FM) (root:Int) (Af:Option Addr) (cf:Nat) (fs:List bh) (hF:cM β Af (bR fU fs)) (mP:jj fs 2097152) (Aa:Option Addr) (ca:Nat) (xs:List bK) (hA:cM β Aa (bR gM xs)) (hab:ef xs 1048576) :
    bp Tryz.prog β 8 #[.agg #[.slice A (ns.length) (c),vI (root),vI (X.cN),vI (X.cB),vI (X.cH),vI (X.cS),vI (X.cZ),.slice Af (fs.length) (cf),.slice Aa (xs.length) (ca)]] [] (fun β' v l=>(cU X ns root≠0/\v=.tuple #[.pointer none,vI (cU X ns root)]/\l=[])\/(cU X ns root=0/\∃ (N:tY X ns) (G:WG) (V:WV),v=.tuple #[vP G.w,vI 0]/\l=[wA G fs xs root N.1 V []]/\fF β' G.Z xs)):=by
 refine bp.enter Tryz.func8 rfl Tryz.ntmps8 (Nat.le_of_ble_eq_true rfl) (fun hle0 R=>?_)
 refine SR (gN 3 (fun b1=>[(1,vP b1)]) (fun _=>[]) (fun _=>[]) (fun b1=>.blk b1 [.slice A (ns.length) (c),vI (root),vI (X.cN),vI (X.cB),vI (X.cH),vI (X.cS),vI (X.cZ),.slice Af (fs.length) (cf),.slice Aa (xs.length) (ca)] 34) (fun b1=>?_))
 refine NN (af.seq ?_)
 by_cases h0:cU X ns root=0
 ·refine af.jS (S:=[IB b1 A ns c root X Af fs cf Aa xs ca]) [(true,0),(true,1),(true,3),(true,4),(true,5),(true,6),(true,7),(true,8),(false,2),(false,9),(false,10),(true,11),(true,12),(true,13),(false,14)] [1] (by kernel_rfl) (by kernel_rfl) rfl (by kernel_rfl) ?_
  refine gG [(false,2),(false,9),(false,10),(true,11),(true,12),(true,13),(false,14)] ([(5,.agg #[.slice A (ns.length) (c)])]++WO root X++[(12,.agg #[.slice Af (fs.length) (cf),.slice Aa (xs.length) (ca)])]) [0,1,3,4,5,6,7,8] [(1,a_ 0 b1),(3,a_ 0 b1),(5,A_ 0 b1 5),(7,A_ 0 b1 2)] ?_
  refine eO.cut (ι:=(Option Addr)×Nat) (fr':=fun ((B,cp):(Option Addr)×Nat)=>(RB B ns cp root X++[(12,.agg #[.slice Af (fs.length) (cf),.slice Aa (xs.length) (ca)])])) (hp':=fun ((B,cp):(Option Addr)×Nat)=>[.abs (lC β (fun β'=>∃ K,aE β' B ns K)),.abs R,IB b1 A ns c root X Af fs cf Aa xs ca]) [2] (by kernel_rfl) ?_ rfl (fun _=>by kernel_rfl) ?_
  ·refine gL [] (xU (β:=β) A c ns Y hG (uw hB) (zS hB)) ?_
   rintro _ _ ⟨B,cp,rfl,rfl⟩
   refine NL ?_
   exact MD (B,cp) [6,8,10,12] [0,1,2]
  rintro⟨B,cp⟩
  refine eO.cut (ι:=(Option Addr)×Nat×(Option Addr)×Nat) (fr':=fun ((Bf,bf,Ba,ba):(Option Addr)×Nat×(Option Addr)×Nat)=>(RB B ns cp root X++[(13,.agg #[.slice Bf (fs.length) (bf),.slice Ba (xs.length) (ba)])])) (hp':=fun ((Bf,bf,Ba,ba):(Option Addr)×Nat×(Option Addr)×Nat)=>[.abs (aH 139 2 Bf fs.length bf (bR fU fs)),.abs (aH 136 5 Ba xs.length ba (bR gM xs)),.abs (lC β (fun β'=>∃ K,aE β' B ns K)),.abs R,IB b1 A ns c root X Af fs cf Aa xs ca]) [4] (by kernel_rfl) ?_ rfl (fun _=>by kernel_rfl) ?_
  ·refine gL [] (xV (β:=β) Af cf fs hF mP.len Aa ca xs hA (Nat.le_trans hab.len (by decide))) ?_
   rintro _ _ ⟨Bf,bf,Ba,ba,rfl,rfl⟩
   refine NL ?_
   exact MD (Bf,bf,Ba,ba) [6,8,10,13] [0,1,2,3,4]
  rintro⟨Bf,bf,Ba,ba⟩
  refine eO.cut (ι:=(tY X ns)×WG×WV) (fr':=fun ((N,G,V):(tY X ns)×WG×WV)=>[(14,.tuple #[vP G.w,vI 0])]) (hp':=fun ((N,G,V):(tY X ns)×WG×WV)=>[.abs (lC β (fun β'=>fF β' G.Z xs)),wA G fs xs root N.1 V ([]),.abs R,.blk b1 [.slice A (ns.length) (c),vI (root),vI (X.cN),vI (X.cB),vI (X.cH),vI (X.cS),vI (X.cZ),.slice Af (fs.length) (cf),.slice Aa (xs.length) (ca)] 34]) [3] (by kernel_rfl) ?_ rfl (fun _=>by kernel_rfl) ?_
  ·refine gL [2,0,1] (Qu (β:=β) (X:=X) (Bf:=Bf) (Ba:=Ba) h0 B cp hB bf ba mP hab) ?_
   rintro _ _ ⟨N,G,V,rfl,rfl⟩
   refine NL ?_
   exact MD (N,G,V) [14] [0,1,2,3]
  rintro⟨N,G,V⟩
  refine gG [(false,14)] [(2,vP G.w),(16,vI 0)] [11,12,13] [] ?_
  refine eO.last (by kernel_rfl) ?_
  refine gK 1 [(3,vI 0)] [] ?_
  refine NL (aj.np (NX (af.ret ?_)))
  refine aj.G5 0 [1,2,3] (dm:=[wA G fs xs root N.1 V ([]),.abs R,.blk b1 [.slice A (ns.length) (c),vI (root),vI (X.cN),vI (X.cB),vI (X.cH),vI (X.cS),vI (X.cZ),.slice Af (fs.length) (cf),.slice Aa (xs.length) (ca)] 34]) rfl (by kernel_rfl) rfl (fun yj ig hz=>?_)
  replace hG:=hG.le ig
  replace hF:=hF.le ig
  replace hA:=hA.le ig
  replace hle0:=hle0.trans ig
  exact aj.iz (v:=.tuple #[vP G.w,vI 0]) (l:=[wA G fs xs root N.1 V ([])]) (aZ:=[]) [] [0,1] hle0 (fun _=>by kernel_rfl) trivial rfl (by kernel_rfl) (.inr ⟨h0,N,G,V,rfl,rfl,hz⟩)
 refine af.jS (S:=[IB b1 A ns c root X Af fs cf Aa xs ca]) [(true,0),(true,1),(true,3),(true,4),(true,5),(true,6),(true,7),(true,8),(false,2),(false,9),(false,10),(true,11),(true,12),(true,13),(false,14)] [1] (by kernel_rfl) (by kernel_rfl) rfl (by kernel_rfl) ?_
 refine gG [(false,2),(false,9),(false,10),(true,11),(true,12),(true,13),(false,14)] ([(5,.agg #[.slice A (ns.length) (c)])]++WO root X++[(12,.agg #[.slice Af (fs.length) (cf),.slice Aa (xs.length) (ca)])]) [0,1,3,4,5,6,7,8] [(1,a_ 0 b1),(3,a_ 0 b1),(5,A_ 0 b1 5),(7,A_ 0 b1 2)] ?_
 refine eO.cut (ι:=(Option Addr)×Nat) (fr':=fun ((B,cp):(Option Addr)×Nat)=>(RB B ns cp root X++[(12,.agg #[.slice Af (fs.length) (cf),.slice Aa (xs.length) (ca)])])) (hp':=fun ((B,cp):(Option Addr)×Nat)=>[.abs (lC β (fun β'=>∃ K,aE β' B ns K)),.abs R,IB b1 A ns c root X Af fs cf Aa xs ca]) [2] (by kernel_rfl) ?_ rfl (fun _=>by kernel_rfl) ?_
 ·refine gL [] (xU (β:=β) A c ns Y hG (uw hB) (zS hB)) ?_
  rintro _ _ ⟨B,cp,rfl,rfl⟩
  refine NL ?_
  exact MD (B,cp) [6,8,10,12] [0,1,2]
 rintro⟨B,cp⟩
 refine eO.cut (ι:=(Option Addr)×Nat×(Option Addr)×Nat) (fr':=fun ((Bf,bf,Ba,ba):(Option Addr)×Nat×(Option Addr)×Nat)=>(RB B ns cp root X++[(13,.agg #[.slice Bf (fs.length) (bf),.slice Ba (xs.length) (ba)])])) (hp':=fun ((Bf,bf,Ba,ba):(Option Addr)×Nat×(Option Addr)×Nat)=>[.abs (aH 139 2 Bf fs.length bf (bR fU fs)),.abs (aH 136 5 Ba xs.length ba (bR gM xs)),.abs (lC β (fun β'=>∃ K,aE β' B ns K)),.abs R,IB b1 A ns c root X Af fs cf Aa xs ca]) [4] (by kernel_rfl) ?_ rfl (fun _=>by kernel_rfl) ?_
 ·refine gL [] (xV (β:=β) Af cf fs hF mP.len Aa ca xs hA (Nat.le_trans hab.len (by decide))) ?_
  rintro _ _ ⟨Bf,bf,Ba,ba,rfl,rfl⟩
  refine NL ?_
  exact MD (Bf,bf,Ba,ba) [6,8,10,13] [0,1,2,3,4]
 rintro⟨Bf,bf,Ba,ba⟩
 refine eO.cut (ι:=Unit) (fr':=fun (_:Unit)=>[(14,.tuple #[.pointer none,vI (cU X ns root)])]) (hp':=fun (_:Unit)=>[.abs R,IB b1 A ns c root X Af fs cf Aa xs ca]) [1] (by kernel_rfl) ?_ rfl (fun _=>by kernel_rfl) ?_
 ·refine gL [2,0,1] (Oq (β:=β) (X:=X) (Bf:=Bf) (Ba:=Ba) h0 B cp hB bf ba mP hab) ?_
  rintro _ _ ⟨rfl,rfl⟩
  refine NL ?_
  exact MD () [14] [0,1]
 rintro _
 refine gG [(false,14)] [(2,.pointer none),(16,vI ((cU X ns root)))] [11,12,13] [] ?_
 refine eO.last (by kernel_rfl) ?_
 refine gK 1 [(3,vI ((cU X ns root)))] [] ?_
 refine NL (aj.np (NX (af.ret ?_)))
 exact aj.iz (v:=.tuple #[.pointer none,vI ((cU X ns root))]) (l:=[]) (aZ:=[]) [] [0] hle0 (fun _=>by kernel_rfl) trivial rfl (by kernel_rfl) (.inl ⟨h0,rfl,rfl⟩)
end
section
open Go.RowKit Go.Maps bq aF
theorem UU:jQ (Ic 99):=Sp (by decide)
structure Zn (S:aJ):Prop where
  inv:Inv S
  idx:S.idx=[(1,⟨1,2⟩)]
  us:S.us=[]
  X:S.X=⟨9,99,9,0,0,1,0,0⟩
  o1:∃ l u,obj S.O 1=⟨1,493,0,0,0,0,l,0,false,2,[],⟨#[]⟩,[],u⟩
section v
variable {S:aJ}
end v
end
end Go.Proofs.YtiehgnlnofhbaaaGreatDoor
