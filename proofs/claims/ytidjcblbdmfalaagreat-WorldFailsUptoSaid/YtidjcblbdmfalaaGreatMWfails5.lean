/-
  PROVED HERE: lemmas and contracts of functions (texts of this repo, joined; what the claim does not use is left out): H12, Lw, LA, Lc, HW, Og, LC, Oh, Wm, WE, WF, WA, ShelfP, As, HA, HB, WB, Wc, WC, Wd, We, WG, Wl, Wf, WH, Wk, XF, Zg, Lv.
  CONDITIONS: as the theorems say.
-/
import Derived.Test.YtidjcblbdmfalaaGreatMWfails4
import Derived.Shelf.Strings.Split
import Derived.Test.YtidjcblbdmfalaaGreatProg
import Derived.Laws.IdiomStrings
import Derived.Lib.SplitLaws
import Derived.ChangeMaps5
import Derived.Leaving
import Derived.JoinedCond
set_option maxRecDepth 100000
set_option maxHeartbeats 4000000
namespace Go.Proofs.YtidjcblbdmfalaaGreat
section
open Go.RowKit Go.Maps bL aB
attribute [local irreducible] aj aP af ai
abbrev qx (b2:Nat) (X:FM):=(.blk b2 [vI (X.cN),vI (X.cB),vI (X.cH),vI (X.cS),vI (X.cZ)] 28:HP)
abbrev qf (b1:Nat) (A:Option Addr) (ns:List aI) (c):=(.blk b1 [.slice A (ns.length) (c)] 24:HP)
abbrev qy (b8:Nat) (ns) (k:Nat) (Y:Lay):=(.blk b8 [vI ((nd ns k).id),vI ((nd ns k).kind),vI ((nd ns k).mode),vI ((nd ns k).uid),vI ((nd ns k).gid),vI ((nd ns k).sec),vI ((nd ns k).nano),.slice (Y.dA k) ((nd ns k).data.length) ((Y.dC k)),.string (nd ns k).target,.slice (Y.eA k) ((nd ns k).ah.length) ((Y.eC k))] 70:HP)
abbrev yI (b9:Nat) (ns) (k:Nat):=(.blk b9 [vI ((nd ns k).id),vI ((nd ns k).mode),vI ((nd ns k).uid),vI ((nd ns k).gid),vI ((nd ns k).sec),vI ((nd ns k).nano),vI 0,vI 0,.bool false] 128:HP)
abbrev vM (b1:Nat) (A:Option Addr) (ns) (c) (b7:Nat) (m3:Nat) (t4:Nat) (S:aG) (L:HL) (R:cA):=([qf b1 A ns c,pF b7 m3 t4 S.X,pI m3 L S.idx,jQ t4 S L,pO S.O L,pD S.O L,pE S.O L,.abs R]:List HP)
abbrev NT (A:Option Addr) (ns:List aI) (c) (i:Nat) (Y:Lay) (j:Nat):=([(123,.slice A (ns.length) (c)),(124,vI ↑ns.length),(125,vI ↑i),(130,.slice (Y.eA i) ((nd ns i).ah.length) ((Y.eC i))),(131,vI ↑((nd ns i).ah.length)),(132,vI ↑j)]:Fr)
abbrev KH (b1:Nat) (X:FM):=([(2,vP b1),(39,.agg #[vI (X.cN),vI (X.cB),vI (X.cH),vI (X.cS),vI (X.cZ)])]:Fr)
abbrev KI (b1:Nat) (b7:Nat) (A:Option Addr) (ns:List aI) (c) (k:Nat):=([(2,vP b1),(6,vP b7),(47,.slice A (ns.length) (c)),(48,vI ↑ns.length),(49,vI ↑k)]:Fr)
abbrev Hf (b1:Nat) (b7:Nat) (b8:Nat) (A:Option Addr) (ns:List aI) (c) (k:Nat):=([(2,vP b1),(6,vP b7),(8,vP b8),(47,.slice A (ns.length) (c)),(48,vI ↑ns.length),(49,vI ↑k)]:Fr)
abbrev MF (b1:Nat) (b7:Nat) (b8:Nat) (A:Option Addr) (ns:List aI) (c) (k:Nat):=([(2,vP b1),(6,vP b7),(8,vP b8),(47,.slice A (ns.length) (c)),(48,vI ↑ns.length),(49,vI ↑k)]:Fr)
abbrev I7 (b7:Nat) (b16:Nat):=([(6,vP b7),(11,vP b16)]:Fr)
abbrev MG (S:aG) (ns) (k:Nat) (b7:Nat):=([(118,vI (S.X.used+(((nd ns k).data.length:Nat):Int))),(120,.pointer (some ⟨b7,9,none⟩))]:Fr)
theorem Hg {β:Bs} (A:Option Addr) (c:Nat) (ns:List aI) (Y:Lay) (hG:au β A ns Y) (hl:ns.length<=1048576) (hd:∀ i,i < ns.length->(nd ns i).data.length<=1048576/\(nd ns i).ah.length<=1048576) (hwf:∀ i,i < ns.length->∀ j,j < (nd ns i).ah.length->-9223372036854775808<=(ent ns i j).id/\(ent ns i j).id<=9223372036854775807) (hnm:∀ i,i < ns.length->∀ j,j < (nd ns i).ah.length->(ent ns i j).name.size<=1048576) (X:FM) :
    Spec Tryz.prog β 21 #[.agg #[.slice A (ns.length) (c)],.agg #[vI (X.cN),vI (X.cB),vI (X.cH),vI (X.cS),vI (X.cZ)]] [] (fun v l=>(¬ jk X/\v=.tuple #[.pointer none,vI 179]/\l=[])\/(jk X/\¬ bQ ns/\v=.tuple #[.pointer none,vI 140]/\l=[])\/(jk X/\bQ ns/\∃ S f m t L,fL X ns ns.length 0 S/\v=.tuple #[vP f,vI 0]/\l=pA f m t L S)):=by
 refine Spec.enter Tryz.func21 rfl Tryz.ntmps21 (Nat.le_of_ble_eq_true rfl) (fun R=>?_)
 refine SR (gN 1 (fun b1=>[(2,vP b1)]) (fun _=>[]) (fun _=>[]) (fun b1=>.blk b1 [.slice A (ns.length) (c)] 24) (fun b1=>?_))
 refine gN 3 (fun b2=>[(3,vP b2)]) (fun _=>[]) (fun _=>[]) (fun b2=>.blk b2 [vI (X.cN),vI (X.cB),vI (X.cH),vI (X.cS),vI (X.cZ)] 28) (fun b2=>?_)
 refine NN (af.seq (SR (gK 2 [(15,vI (X.cN))] [(1,a_ 2 b2)] ?_)))
 refine gL [] (fJ X.cN 4096) ?_
 rintro _ _ ⟨rfl,rfl⟩
 refine gK 2 [(18,.bool (!(decide ((0<=X.cN/\X.cN<=4096)))))] [] ?_
 refine aj.iG 18 ((0<=X.cN/\X.cN<=4096)) (fun _=>by kernel_rfl) (fun nE=>?_) (fun nE=>?_)
 ·refine gK 17 [(35,.bool true)] [] ?_
  refine NN (CT (SR (gK 2 [(4,.pointer none),(5,vI 179)] [] ?_)))
  refine NN (af.ret (ai.ak ?_))
  exact RT (.tuple #[.pointer none,vI 179]) [0] (.inl ⟨fun h=>nE h.cN,rfl,rfl⟩)
 refine gK 2 [(20,vI (X.cB))] [(1,a_ 2 b2)] ?_
 refine gL [] (fJ X.cB 1099511627776) ?_
 rintro _ _ ⟨rfl,rfl⟩
 refine gK 3 [(24,.bool (!(decide ((0<=X.cB/\X.cB<=1099511627776)))))] [] ?_
 refine aj.iG 24 ((0<=X.cB/\X.cB<=1099511627776)) (fun _=>by kernel_rfl) (fun Bl=>?_) (fun Bl=>?_)
 ·refine gK 11 [(35,.bool true)] [] ?_
  refine NN (CT (SR (gK 2 [(4,.pointer none),(5,vI 179)] [] ?_)))
  refine NN (af.ret (ai.ak ?_))
  exact RT (.tuple #[.pointer none,vI 179]) [0] (.inl ⟨fun h=>Bl h.cB,rfl,rfl⟩)
 refine gK 2 [(26,vI (X.cH))] [(1,a_ 2 b2)] ?_
 refine gL [] (fJ X.cH 1024) ?_
 rintro _ _ ⟨rfl,rfl⟩
 refine gK 3 [(30,.bool (!(decide ((0<=X.cH/\X.cH<=1024)))))] [] ?_
 refine aj.iG 30 ((0<=X.cH/\X.cH<=1024)) (fun _=>by kernel_rfl) (fun lV=>?_) (fun lV=>?_)
 ·refine gK 5 [(35,.bool true)] [] ?_
  refine NN (CT (SR (gK 2 [(4,.pointer none),(5,vI 179)] [] ?_)))
  refine NN (af.ret (ai.ak ?_))
  exact RT (.tuple #[.pointer none,vI 179]) [0] (.inl ⟨fun h=>lV h.cH,rfl,rfl⟩)
 refine gK 2 [(32,.agg #[vI (X.cS),vI (X.cZ)])] [(1,A_ 2 b2 2)] ?_
 refine gL [] (iz X.cS X.cZ) ?_
 rintro _ _ ⟨rfl,rfl⟩
 refine gK 2 [(35,.bool (!(decide (dQ X.cS X.cZ))))] [] ?_
 refine NN (af.cY (p:=dQ X.cS X.cZ) (fun _=>by kernel_rfl) (fun jC=>?_) (fun jC=>?_))
 ·refine SR (gK 2 [(4,.pointer none),(5,vI 179)] [] ?_)
  refine NN (af.ret (ai.ak ?_))
  exact RT (.tuple #[.pointer none,vI 179]) [0] (.inl ⟨fun h=>jC h.now,rfl,rfl⟩)
 have hcap:jk X:=⟨nE,Bl,lV,jC⟩
 refine af.skip (NX (af.seq (SR (gK 1 [(36,.agg #[.slice A (ns.length) (c)])] [(0,a_ 1 b1)] ?_))))
 refine gL [] (Lj A c ns Y hG hl (fun i hi=>⟨Nat.le_trans (hd i hi).1 (by decide),(hd i hi).2⟩) hwf hnm) ?_
 rintro _ _ ⟨rfl,rfl⟩
 refine gK 1 [(38,.bool (!(decide (((if bQ ns then 0 else 140):Int)=(0:Int)))))] [] ?_
 refine NN (af.cY (p:=((if bQ ns then 0 else 140):Int)=(0:Int)) (fun _=>by kernel_rfl) (fun zY=>?_) (fun zY=>?_))
 ·have UD:¬ bQ ns:=fun h=>zY (if_pos h)
  refine SR (gK 2 [(4,.pointer none),(5,vI 140)] [] ?_)
  refine NN (af.ret (ai.ak ?_))
  exact RT (.tuple #[.pointer none,vI 140]) [0] (.inr (.inl ⟨hcap,UD,rfl,rfl⟩))
 have hok:bQ ns:=Classical.byContradiction (fun h=>by rw [if_neg h] at zY;exact absurd zY (by decide))
 refine af.skip (NX (af.seq (af.qL (S:=[qx b2 X]) [0,2,3] [.two 1 4,.one 5,.one 6,.one 7] [2] (by kernel_rfl) (by kernel_rfl) rfl (by kernel_rfl) ?_)))
 refine gP (KH b1 X++[(42,vI (X.cH))]) [0,2,3] [(0,A_ 0 b2 5),(2,a_ 0 b2)] ?_
 refine iF.pair (ι:=Nat×Nat) (P0:=Nat) (P4:=Nat) (J9:=fun (m3:Nat)=>(KH b1 X++[(40,.map (some m3)),(42,vI (X.cH))])) (hpi:=fun (m3:Nat)=>[.abs R,qf b1 A ns c,qx b2 X,.abs (aL Tryz.prog 3 m3 (fun _=>none) 0)]) (Ka:=fun (t5:Nat)=>(KH b1 X++[(43,vP t5)])) (Kb:=fun (t5:Nat)=>[.abs (cM 197 t5 (min (max X.cH 0) 1024) 0 []),.abs R,qf b1 A ns c,qx b2 X]) (fr':=fun ((m3,t4):Nat×Nat)=>[(2,vP b1),(39,.agg #[vI (X.cN),vI (X.cB),vI (X.cH),vI (X.cS),vI (X.cZ)]),(40,.map (some m3)),(43,vP t4)]) (hp':=fun ((m3,t4):Nat×Nat)=>[.abs (cM 197 t4 (min (max X.cH 0) 1024) 0 []),.abs R,qf b1 A ns c,qx b2 X,.abs (aL Tryz.prog 3 m3 (fun _=>none) 0)]) [2] [3] [3] rfl rfl rfl rfl ?_ ?_ ?_ ?_ rfl (fun _=>by kernel_rfl) rfl (fun _=>by kernel_rfl) rfl (fun _=>by kernel_rfl) ?_
 ·refine aj.kW (d:=(some 40)) (t:=120) (fun _=>by kernel_rfl) Tryz.prog rfl 3 (fun m3=>?_)
  refine NL ?_
  exact MD m3 [2,39,40,42] [0,1,2,3]
 ·rintro m3
  show aj _ _ _ _ _ (KH b1 X++[(40,.map (some m3)),(42,vI (X.cH))]) [.abs R,qf b1 A ns c,qx b2 X,.abs (aL Tryz.prog 3 m3 (fun _=>none) 0)] _
  refine gL [] (Et X.cH) ?_
  rintro _ _ ⟨t4,rfl,rfl⟩
  refine NL ?_
  exact MD (m3,t4) [2,39,40,43] [0,1,2,3,4]
 ·refine gL [] (Et X.cH) ?_
  rintro _ _ ⟨t5,rfl,rfl⟩
  refine NL ?_
  exact MD t5 [2,39,43] [0,1,2,3]
 ·rintro t5
  show aj _ _ _ _ _ (KH b1 X++[(43,vP t5)]) [.abs (cM 197 t5 (min (max X.cH 0) 1024) 0 []),.abs R,qf b1 A ns c,qx b2 X] _
  refine aj.kW (d:=(some 40)) (t:=120) (fun _=>by kernel_rfl) Tryz.prog rfl 3 (fun m6=>?_)
  refine NL ?_
  exact MD (m6,t5) [2,39,40,43] [0,1,2,3,4]
 rintro⟨m3,t4⟩
 refine iF.cut (ι:=Unit) (fr':=fun (_:Unit)=>[(2,vP b1),(44,.agg #[vI (X.cN),vI (X.cB),vI (X.cH),vI (X.cS),vI (X.cZ),.map (some m3),vP t4,vI 0,vI 0,vI 0])]) (hp':=fun (_:Unit)=>[.abs (cM 197 t4 (min (max X.cH 0) 1024) 0 []),.abs R,qf b1 A ns c,qx b2 X,.abs (aL Tryz.prog 3 m3 (fun _=>none) 0)]) [3] rfl rfl ?_ rfl (fun _=>by kernel_rfl) ?_
 ·refine gK 1 [(44,.agg #[vI (X.cN),vI (X.cB),vI (X.cH),vI (X.cS),vI (X.cZ),.map (some m3),vP t4,vI 0,vI 0,vI 0])] [] ?_
  refine NL ?_
  exact MD () [2,44] [0,1,2,3,4]
 rintro _
 refine iF.cut (ι:=Nat) (fr':=fun (b7:Nat)=>[(2,vP b1),(45,vP b7)]) (hp':=fun (b7:Nat)=>[.abs (cM 197 t4 (min (max X.cH 0) 1024) 0 []),.abs R,qf b1 A ns c,qx b2 X,.abs (aL Tryz.prog 3 m3 (fun _=>none) 0),pF b7 m3 t4 { X with last:=0,ah:=0,used:=0 }]) [3] rfl rfl ?_ rfl (fun _=>by kernel_rfl) ?_
 ·refine gN 1 (fun b7=>[(45,vP b7)]) (fun _=>[]) (fun _=>[]) (fun b7=>pF b7 m3 t4 { X with last:=0,ah:=0,used:=0 }) (fun b7=>?_)
  refine NL ?_
  exact MD b7 [2,45] [0,1,2,3,4,5]
 rintro b7
 refine iF.last rfl rfl ?_
 refine gK 1 [(6,vP b7)] [] ?_
 refine NL (ai.np (NX (af.seq (SR ?_))))
 obtain⟨L,VY⟩:∃ L:HL,L=⟨fun _=>0,fun _=>0,fun _=>none,fun _=>0⟩:=⟨_,rfl⟩
 refine aj.mem (fun w hS=>hS.DF (bM (gI X).O L) (zB X L).1) ?_
 refine aj.mem (fun w hS=>hS.DF (bN (gI X).O L) (zB X L).2.1) ?_
 refine aj.mem (fun w hS=>hS.DF (cG (gI X).O L) (zB X L).2.2) ?_
 have hc:min (max X.cH 0) 1024=X.cH:=by have:=hcap.cH;omega
 refine aj.mem (cL:=[.abs (cM 197 t4 (gI X).X.cH (gI X).av (bn L (gI X).us)),.abs R,.blk b1 [.slice A (ns.length) (c)] 24,.blk b2 [vI (X.cN),vI (X.cB),vI (X.cH),vI (X.cS),vI (X.cZ)] 28,.abs (aL Tryz.prog 3 m3 (bh (bn L (gI X).idx)) ((gI X).idx.length)),.blk b7 [vI ((gI X).X.cN),vI ((gI X).X.cB),vI ((gI X).X.cH),vI ((gI X).X.cS),vI ((gI X).X.cZ),.map (some m3),vP t4,vI ((gI X).X.last),vI ((gI X).X.ah),vI ((gI X).X.used)] 126,.abs (ax (bM ((gI X).O) L)),.abs (ax (bN ((gI X).O) L)),.abs (ax (cG ((gI X).O) L))]) (fun w hS=>by rw [hc,← Er] at hS;exact hS) ?_
 refine gK 4 [(47,.slice A (ns.length) (c)),(48,vI ↑ns.length),(49,vI 0)] [(1,a_ 2 b1)] ?_
 refine NN (af.block ?_)
 refine af.loop (ι:=Nat×aG×HL) (fun ((k,S,L):Nat×aG×HL)=>(k<=ns.length)/\(lE X ns k S)) (fun ((k,S,L):Nat×aG×HL)=>ns.length - k) (fun ((k,S,L):Nat×aG×HL)=>(KI b1 b7 A ns c k)) (fun ((k,S,L):Nat×aG×HL)=>(vM b1 A ns c b7 m3 t4 S L R)) (0,(gI X),L) (idx:=[2,6,47,48,49]) (pk:=[2,5,4,0,6,7,8,1]) (show (0<=ns.length)/\(lE X ns 0 ((gI X))) from ⟨Nat.zero_le _,Kk hcap⟩) (fun _=>by kernel_rfl) rfl (by kernel_rfl) ?_
 rintro⟨k,S,L⟩ ⟨hk,hB⟩
 show af _ _ _ _ (KI b1 b7 A ns c k) (vM b1 A ns c b7 m3 t4 S L R) _
 refine SR (gK 1 [(50,.bool (decide ((((k:Nat):Int):Int) < (((ns.length:Nat):Int):Int))))] [] ?_)
 refine NN (af.seq (af.bg (p:=(((k:Nat):Int):Int) < (((ns.length:Nat):Int):Int)) (fun _=>by kernel_rfl) (fun h50=>?_) (fun h50=>?_)))
 ·have hk2:k < ns.length:=by omega
  have hdk:=hd k hk2
  have hds:=Dc (fun i hi=>(hd i hi).1) hk
  have Mg:=hok.ids k hk2
  have hni:=hB.new hok hk2
  have o3:(Lit.int .i64 (nd ns k).id).wf=true:=WalkArith.wf_i64 (by omega)
  have hkk:=(hok.node k hk2).kind
  have dI:S.X.used=(rO ns k:Int):=by rw [hB.cap]
  have hil:=hB.inv.len
  refine af.skip (NX (af.seq (af.block (SR ?_))))
  refine gN 4 (fun b8=>[(8,vP b8)]) (fun b8=>[(0,p_ ⟨[],some k,none,some ⟨(ar A),aq A,none⟩,none⟩ [((k:Nat):Int)=((k:Nat):Int),k < ns.length,(⟨(ar A),aq A,none⟩:Addr).spot=none,(A:Option Addr)=some ⟨(ar A),aq A,none⟩] ⟨rfl,by omega,rfl,au.hd hG (i:=k) (by omega),trivial⟩),(1,p_ ⟨[.old (.int .i64 ((nd ns k).id)),.old (.int .i64 ((nd ns k).kind)),.old (.int .i64 ((nd ns k).mode)),.old (.int .i64 ((nd ns k).uid)),.old (.int .i64 ((nd ns k).gid)),.old (.int .i64 ((nd ns k).sec)),.old (.int .i64 ((nd ns k).nano)),.old (.slice (Y.dA k) ((nd ns k).data.length) ((Y.dC k))),.old (.string (nd ns k).target),.old (.slice (Y.eA k) ((nd ns k).ah.length) ((Y.eC k)))],none,none,none,none⟩ [(Rd β ⟨(ar A),aq A+k * 10+9,none⟩ (.slice (Y.eA k) ((nd ns k).ah.length) ((Y.eC k)))),(Rd β ⟨(ar A),aq A+k * 10+8,none⟩ (.string (nd ns k).target)),(Rd β ⟨(ar A),aq A+k * 10+7,none⟩ (.slice (Y.dA k) ((nd ns k).data.length) ((Y.dC k)))),(Rd β ⟨(ar A),aq A+k * 10+6,none⟩ (.int .i64 ((nd ns k).nano))),(Rd β ⟨(ar A),aq A+k * 10+5,none⟩ (.int .i64 ((nd ns k).sec))),(Rd β ⟨(ar A),aq A+k * 10+4,none⟩ (.int .i64 ((nd ns k).gid))),(Rd β ⟨(ar A),aq A+k * 10+3,none⟩ (.int .i64 ((nd ns k).uid))),(Rd β ⟨(ar A),aq A+k * 10+2,none⟩ (.int .i64 ((nd ns k).mode))),(Rd β ⟨(ar A),aq A+k * 10+1,none⟩ (.int .i64 ((nd ns k).kind))),(Rd β ⟨(ar A),aq A+k * 10,none⟩ (.int .i64 ((nd ns k).id)))] ⟨au.rd hG (i:=k) (by omega) (j:=9) rfl,au.rd hG (i:=k) (by omega) (j:=8) rfl,au.rd hG (i:=k) (by omega) (j:=7) rfl,au.rd hG (i:=k) (by omega) (j:=6) rfl,au.rd hG (i:=k) (by omega) (j:=5) rfl,au.rd hG (i:=k) (by omega) (j:=4) rfl,au.rd hG (i:=k) (by omega) (j:=3) rfl,au.rd hG (i:=k) (by omega) (j:=2) rfl,au.rd hG (i:=k) (by omega) (j:=1) rfl,au.rd hG (i:=k) (by omega) (j:=0) rfl,trivial⟩),(3,A_ 8 b8 10)]) (fun _=>[]) (fun b8=>.blk b8 [vI ((nd ns k).id),vI ((nd ns k).kind),vI ((nd ns k).mode),vI ((nd ns k).uid),vI ((nd ns k).gid),vI ((nd ns k).sec),vI ((nd ns k).nano),.slice (Y.dA k) ((nd ns k).data.length) ((Y.dC k)),.string (nd ns k).target,.slice (Y.eA k) ((nd ns k).ah.length) ((Y.eC k))] 70) (fun b8=>?_)
  refine NS (gN 13 (fun b9=>[(9,vP b9)]) (fun b9=>[(1,a_ 8 b8),(3,a_ 8 b8),(5,a_ 8 b8),(7,a_ 8 b8),(9,A_ 8 b8 2),(12,A_ 9 b9 9)]) (fun _=>[]) (fun b9=>.blk b9 [vI ((nd ns k).id),vI ((nd ns k).mode),vI ((nd ns k).uid),vI ((nd ns k).gid),vI ((nd ns k).sec),vI ((nd ns k).nano),vI 0,vI 0,.bool false] 128) (fun b9=>?_))
  refine NN (af.seq (SR (gK 2 [(65,vI ((nd ns k).kind))] [(1,a_ 8 b8)] ?_)))
  refine NN (af.block (SR ?_))
  refine gK 2 [(77,.bool (decide (((nd ns k).kind:Int)=(1:Int))))] [] ?_
  refine NN (af.bg (p:=((nd ns k).kind:Int)=(1:Int)) (fun _=>by kernel_rfl) (fun hk1=>?_) (fun hk1=>?_))
  ·refine af.bR (S:=[pF b7 m3 t4 S.X,qy b8 ns k Y,yI b9 ns k]) [0,1,2,3,4,5,6,7,8,9,10,11,12,13] 9 [1,8,9] (by kernel_rfl) (by kernel_rfl) rfl (by kernel_rfl) ?_
   refine gR 0 [9,10,11,12,13] (MF b1 b7 b8 A ns c k++[(82,.map (some m3)),(84,vI ((nd ns k).id)),(85,.agg #[vI ((nd ns k).id),vI ((nd ns k).mode),vI ((nd ns k).uid),vI ((nd ns k).gid),vI ((nd ns k).sec),vI ((nd ns k).nano),vI 0,vI 0,.bool false]),(87,.slice (Y.dA k) ((nd ns k).data.length) ((Y.dC k)))]) [0,1,2,3,4,5,6,7,8] [(3,a_ 0 b7),(5,a_ 1 b8),(6,A_ 2 b9 9),(8,a_ 1 b8)] ?_
   refine mL [2,9,10] [] (tG (Y.dA k) (Y.dC k) (nd ns k).data (hG.data k (by omega)) (by have:=(hd k (by omega)).1;omega)) ?_ (by rintro _ _ ⟨ol,c11,rfl,rfl⟩;rfl)
   rintro _ _ ⟨ol,c11,rfl,rfl⟩
   refine aK.cut (ι:=Unit) (fr':=fun (_:Unit)=>(Hf b1 b7 b8 A ns c k++[(82,.map (some m3)),(84,vI ((nd ns k).id)),(89,.agg #[vI ((nd ns k).id),vI ((nd ns k).mode),vI ((nd ns k).uid),vI ((nd ns k).gid),vI ((nd ns k).sec),vI ((nd ns k).nano),vI 0,vI 0,.bool false,.slice ol ((nd ns k).data.length) (c11)])])) (hp':=fun (_:Unit)=>([.abs (aE 5 1 ol ((nd ns k).data.length) c11 (bX (nd ns k).data))]++vM b1 A ns c b7 m3 t4 S L R++[qy b8 ns k Y,yI b9 ns k])) [2,9,10] rfl rfl ?_ rfl (fun _=>by kernel_rfl) ?_
   ·refine gK 1 [(89,.agg #[vI ((nd ns k).id),vI ((nd ns k).mode),vI ((nd ns k).uid),vI ((nd ns k).gid),vI ((nd ns k).sec),vI ((nd ns k).nano),vI 0,vI 0,.bool false,.slice ol ((nd ns k).data.length) (c11)])] [] ?_
    refine NL ?_
    exact MD () [2,6,8,47,48,49,82,84,89] [0,1,2,3,4,5,6,7,8,9,10]
   rintro _
   refine mN [2,9,10] (fun b12=>[(90,vP b12)]) (fun _=>[]) (fun b12=>.blk b12 [vI ((nd ns k).id),vI ((nd ns k).mode),vI ((nd ns k).uid),vI ((nd ns k).gid),vI ((nd ns k).sec),vI ((nd ns k).nano),vI 0,vI 0,.bool false,.slice ol ((nd ns k).data.length) (c11)] 131) (fun b12=>?_)
   refine aK.cut (ι:=Unit) (fr':=fun (_:Unit)=>(Hf b1 b7 b8 A ns c k++[(82,.map (some m3)),(84,vI ((nd ns k).id)),(91,.iface 129 (vP b12))])) (hp':=fun (_:Unit)=>([.abs (aE 5 1 ol ((nd ns k).data.length) c11 (bX (nd ns k).data))]++vM b1 A ns c b7 m3 t4 S L R++[qy b8 ns k Y,yI b9 ns k,.blk b12 [vI ((nd ns k).id),vI ((nd ns k).mode),vI ((nd ns k).uid),vI ((nd ns k).gid),vI ((nd ns k).sec),vI ((nd ns k).nano),vI 0,vI 0,.bool false,.slice ol ((nd ns k).data.length) (c11)] 131])) [2,9,10] rfl rfl ?_ rfl (fun _=>by kernel_rfl) ?_
   ·refine gK 1 [(91,.iface 129 (vP b12))] [] ?_
    refine NL ?_
    exact MD () [2,6,8,47,48,49,82,84,91] [0,1,2,3,4,5,6,7,8,9,10,11]
   rintro _
   refine aK.last rfl rfl ?_
   obtain⟨L2,hL2⟩:∃ L2:HL,L2=L.put (fq (nd ns k)) b12 0 ol c11:=⟨_,rfl⟩
   have hfr:=hB.fresh hok (by omega)
   refine aj.mem (fun w hS=>hS.sN hL2 hfr (o:=(oC (nd ns k))) (i:=5) (j:=11) (ix:=[0,1,2,3,4,6,7,8,9,10]) rfl rfl (by kernel_rfl) rfl (by show (nd ns k).kind≠0;rw [hk1];decide) ((gM (L:=L2) (k:=(fq (nd ns k))) (o:=(oC (nd ns k))) hk1).trans (by rw [show L2.dA (fq (nd ns k))=ol by rw [hL2];exact if_pos rfl,show L2.dC (fq (nd ns k))=c11 by rw [hL2];exact if_pos rfl];rfl)) (by show jV (nd ns k).kind=_;rw [hk1]<;>rfl)) ?_
   refine aj.dz [(7,.abs (ax (cG ((cE S (nd ns k)).O) L2)))] (fun w hS=>hS.tW hL2 hfr (o:=(oC (nd ns k))) (i:=7) rfl (by show ¬ (nd ns k).kind=2;rw [hk1];decide)) ?_
   refine aj.mem (cL:=[pD ((cE S (nd ns k)).O) L2,pO ((cE S (nd ns k)).O) L2,qf b1 A ns c,pF b7 m3 t4 S.X,pI m3 L S.idx,jQ t4 S L,pE ((cE S (nd ns k)).O) L2,.abs R,qy b8 ns k Y,yI b9 ns k]) (fun w hS=>hS.Ry hL2 (o:=(oC (nd ns k))) (i:=6) (j:=1) (ix:=[0,2,3,4,5,7,8,9,10]) rfl rfl (by kernel_rfl) rfl hk1) ?_
   refine aj.dz [(4,.abs (aL Tryz.prog 3 m3 (bh (bn L2 S.idx)) S.idx.length)),(5,.abs (cM 197 t4 S.X.cH S.av (bn L2 S.us)))] (fun w hS=>by rw [gn hL2 hfr.idx,gn hL2 hfr.us];exact hS) ?_
   have Fl:dJ L2 (oe (nd ns k))=.iface 129 (vP b12):=by unfold oe;rw [nK hL2,hk1];rfl
   refine aj.j7 4 (d:=none) (t:=120) (K:=3) (E:=124) (b:=m3) (n:=S.idx.length) (f:=(bh (bn L2 S.idx))) (x:=(.tmp 82)) (ix:=(.tmp 84)) (y:=(.tmp 91)) (key:=.int .i64 ((nd ns k).id)) (u:=.iface 129 (vP b12)) (kl:=(.int .i64 (nd ns k).id)) (n':=(S.idx.length+1)) (f':=(bh (bn L2 (ins (nd ns k).id (oe (nd ns k)) S.idx)))) (fun _=>by kernel_rfl) (by kernel_rfl) (fun _=>by kernel_rfl) (fun _=>by kernel_rfl) (fun _=>by kernel_rfl) dX Tryz.underlying120 (by unfold maxLen;omega) (gJ o3) (by rw [eY,hni];rfl) (by rw [← Fl];exact qX hni) ?_
   refine NL (ai.np (ai.aJ (NX (SR ?_))))
   refine gC 6 [] [(2,a_ 8 b8),(5,a_ 3 b7)] [(3,[(7,vI ((nd ns k).id))])] ?_
   refine NN (af.bR (S:=[pF b7 m3 t4 { S.X with last:=(nd ns k).id },qy b8 ns k Y]) [0,1,2,3,4,5,6,7,8,9,10] 10 [3,8] (by kernel_rfl) (by kernel_rfl) rfl (by kernel_rfl) ?_)
   refine gR 0 [10] (KI b1 b7 A ns c k++MG S ns k b7) [0,1,2,3,4,5,6,7,8,9] [(3,a_ 0 b7),(5,a_ 1 b8),(7,p_ ⟨[],none,none,none,some (vI (S.X.used+(((nd ns k).data.length:Nat):Int)))⟩ [(Value.int .i64 (IntKind.wrap .i64 (S.X.used+(((nd ns k).data.length:Nat):Int))))=(.int .i64 (S.X.used+(((nd ns k).data.length:Nat):Int)))] ⟨bw (by omega) (by omega) (by omega),trivial⟩)] ?_
   refine aK.last rfl rfl ?_
   refine gC 1 [] [(0,a_ 3 b7)] [(3,[(9,vI (S.X.used+(((nd ns k).data.length:Nat):Int)))])] ?_
   refine NL (ai.np (ai.aJ (NX (af.region ?_))))
   refine gK 2 [(49,vI ↑(k+1))] [(0,p_ ⟨[],none,none,none,some (vI ↑(k+1))⟩ [(Value.int .i64 (IntKind.wrap .i64 (((k:Nat):Int)+1)))=(.int .i64 ↑(k+1))] ⟨bw (by omega) (by omega) (by omega),trivial⟩)] ?_
   refine NL (ai.dz [(3,.blk b7 [vI ((cE S (nd ns k)).X.cN),vI ((cE S (nd ns k)).X.cB),vI ((cE S (nd ns k)).X.cH),vI ((cE S (nd ns k)).X.cS),vI ((cE S (nd ns k)).X.cZ),.map (some m3),vP t4,vI ((cE S (nd ns k)).X.last),vI ((cE S (nd ns k)).X.ah),vI ((cE S (nd ns k)).X.used)] 126),(4,.abs (aL Tryz.prog 3 m3 (bh (bn L2 (cE S (nd ns k)).idx)) ((cE S (nd ns k)).idx.length))),(5,.abs (cM 197 t4 (cE S (nd ns k)).X.cH (cE S (nd ns k)).av (bn L2 (cE S (nd ns k)).us)))] (fun w hS=>by rw [show (cE S (nd ns k)).idx.length=S.idx.length+1 from iJ _ _ _];exact hS) ?_)
   exact ai.turn ((k+1),(cE S (nd ns k)),L2) (idx:=[2,6,47,48,49]) (pk:=[2,3,4,5,1,0,6,7]) (show (((k+1))<=ns.length)/\(lE X ns ((k+1)) ((cE S (nd ns k)))) from ⟨by omega,wS hok (fun i hi=>(hd i hi).1) (by omega) hB⟩) (by show ns.length - ((k+1)) < ns.length - k;omega) (fun _=>by kernel_rfl) rfl (by kernel_rfl)
  refine SR (gK 2 [(92,.bool (decide (((nd ns k).kind:Int)=(3:Int))))] [] ?_)
  refine NN (af.bg (p:=((nd ns k).kind:Int)=(3:Int)) (fun _=>by kernel_rfl) (fun hk3=>?_) (fun hk3=>?_))
  ·refine af.bR (S:=[pF b7 m3 t4 S.X,qy b8 ns k Y,yI b9 ns k]) [0,1,2,3,4,5,6,7,8,9,10,11,12] 10 [1,8,9] (by kernel_rfl) (by kernel_rfl) rfl (by kernel_rfl) ?_
   refine gR 0 [10,11,12] (MF b1 b7 b8 A ns c k++[(97,.map (some m3)),(99,vI ((nd ns k).id)),(103,.agg #[vI ((nd ns k).id),vI ((nd ns k).mode),vI ((nd ns k).uid),vI ((nd ns k).gid),vI ((nd ns k).sec),vI ((nd ns k).nano),vI 0,vI 0,.bool false,.string (nd ns k).target])]) [0,1,2,3,4,5,6,7,8,9] [(3,a_ 0 b7),(5,a_ 1 b8),(6,A_ 2 b9 9),(8,a_ 1 b8)] ?_
   refine mN [1,8,9] (fun b13=>[(104,vP b13)]) (fun _=>[]) (fun b13=>.blk b13 [vI ((nd ns k).id),vI ((nd ns k).mode),vI ((nd ns k).uid),vI ((nd ns k).gid),vI ((nd ns k).sec),vI ((nd ns k).nano),vI 0,vI 0,.bool false,.string (nd ns k).target] 134) (fun b13=>?_)
   refine aK.cut (ι:=Unit) (fr':=fun (_:Unit)=>(Hf b1 b7 b8 A ns c k++[(97,.map (some m3)),(99,vI ((nd ns k).id)),(105,.iface 132 (vP b13))])) (hp':=fun (_:Unit)=>(vM b1 A ns c b7 m3 t4 S L R++[qy b8 ns k Y,yI b9 ns k,.blk b13 [vI ((nd ns k).id),vI ((nd ns k).mode),vI ((nd ns k).uid),vI ((nd ns k).gid),vI ((nd ns k).sec),vI ((nd ns k).nano),vI 0,vI 0,.bool false,.string (nd ns k).target] 134])) [1,8,9] rfl rfl ?_ rfl (fun _=>by kernel_rfl) ?_
   ·refine gK 1 [(105,.iface 132 (vP b13))] [] ?_
    refine NL ?_
    exact MD () [2,6,8,47,48,49,97,99,105] [0,1,2,3,4,5,6,7,8,9,10]
   rintro _
   refine aK.last rfl rfl ?_
   obtain⟨L2,hL2⟩:∃ L2:HL,L2=L.put (fq (nd ns k)) b13 0 none 0:=⟨_,rfl⟩
   have hfr:=hB.fresh hok (by omega)
   refine aj.mem (fun w hS=>hS.sN hL2 hfr (o:=(oC (nd ns k))) (i:=4) (j:=10) (ix:=[0,1,2,3,5,6,7,8,9]) rfl rfl (by kernel_rfl) rfl (by show (nd ns k).kind≠0;rw [hk3];decide) ((wk (L:=L2) (k:=(fq (nd ns k))) (o:=(oC (nd ns k))) hk3).trans (by rfl)) (by show jV (nd ns k).kind=_;rw [hk3]<;>rfl)) ?_
   refine aj.dz [(6,.abs (ax (cG ((cE S (nd ns k)).O) L2)))] (fun w hS=>hS.tW hL2 hfr (o:=(oC (nd ns k))) (i:=6) rfl (by show ¬ (nd ns k).kind=2;rw [hk3];decide)) ?_
   refine aj.dz [(5,.abs (ax (bN ((cE S (nd ns k)).O) L2)))] (fun w hS=>hS.Ax hL2 (o:=(oC (nd ns k))) (i:=5) rfl (by show ¬ (nd ns k).kind=1;rw [hk3];decide)) ?_
   refine aj.dz [(3,.abs (aL Tryz.prog 3 m3 (bh (bn L2 S.idx)) S.idx.length)),(4,.abs (cM 197 t4 S.X.cH S.av (bn L2 S.us)))] (fun w hS=>by rw [gn hL2 hfr.idx,gn hL2 hfr.us];exact hS) ?_
   have Fl:dJ L2 (oe (nd ns k))=.iface 132 (vP b13):=by unfold oe;rw [nK hL2,hk3];rfl
   refine aj.j7 3 (d:=none) (t:=120) (K:=3) (E:=124) (b:=m3) (n:=S.idx.length) (f:=(bh (bn L2 S.idx))) (x:=(.tmp 97)) (ix:=(.tmp 99)) (y:=(.tmp 105)) (key:=.int .i64 ((nd ns k).id)) (u:=.iface 132 (vP b13)) (kl:=(.int .i64 (nd ns k).id)) (n':=(S.idx.length+1)) (f':=(bh (bn L2 (ins (nd ns k).id (oe (nd ns k)) S.idx)))) (fun _=>by kernel_rfl) (by kernel_rfl) (fun _=>by kernel_rfl) (fun _=>by kernel_rfl) (fun _=>by kernel_rfl) dX Tryz.underlying120 (by unfold maxLen;omega) (gJ o3) (by rw [eY,hni];rfl) (by rw [← Fl];exact qX hni) ?_
   refine NL (ai.np (ai.aJ (NX (SR ?_))))
   refine gC 6 [] [(2,a_ 8 b8),(5,a_ 2 b7)] [(2,[(7,vI ((nd ns k).id))])] ?_
   refine NN (af.bR (S:=[pF b7 m3 t4 { S.X with last:=(nd ns k).id },qy b8 ns k Y]) [0,1,2,3,4,5,6,7,8,9,10] 10 [2,8] (by kernel_rfl) (by kernel_rfl) rfl (by kernel_rfl) ?_)
   refine gR 0 [10] (KI b1 b7 A ns c k++MG S ns k b7) [0,1,2,3,4,5,6,7,8,9] [(3,a_ 0 b7),(5,a_ 1 b8),(7,p_ ⟨[],none,none,none,some (vI (S.X.used+(((nd ns k).data.length:Nat):Int)))⟩ [(Value.int .i64 (IntKind.wrap .i64 (S.X.used+(((nd ns k).data.length:Nat):Int))))=(.int .i64 (S.X.used+(((nd ns k).data.length:Nat):Int)))] ⟨bw (by omega) (by omega) (by omega),trivial⟩)] ?_
   refine aK.last rfl rfl ?_
   refine gC 1 [] [(0,a_ 2 b7)] [(2,[(9,vI (S.X.used+(((nd ns k).data.length:Nat):Int)))])] ?_
   refine NL (ai.np (ai.aJ (NX (af.region ?_))))
   refine gK 2 [(49,vI ↑(k+1))] [(0,p_ ⟨[],none,none,none,some (vI ↑(k+1))⟩ [(Value.int .i64 (IntKind.wrap .i64 (((k:Nat):Int)+1)))=(.int .i64 ↑(k+1))] ⟨bw (by omega) (by omega) (by omega),trivial⟩)] ?_
   refine NL (ai.dz [(2,.blk b7 [vI ((cE S (nd ns k)).X.cN),vI ((cE S (nd ns k)).X.cB),vI ((cE S (nd ns k)).X.cH),vI ((cE S (nd ns k)).X.cS),vI ((cE S (nd ns k)).X.cZ),.map (some m3),vP t4,vI ((cE S (nd ns k)).X.last),vI ((cE S (nd ns k)).X.ah),vI ((cE S (nd ns k)).X.used)] 126),(3,.abs (aL Tryz.prog 3 m3 (bh (bn L2 (cE S (nd ns k)).idx)) ((cE S (nd ns k)).idx.length))),(4,.abs (cM 197 t4 (cE S (nd ns k)).X.cH (cE S (nd ns k)).av (bn L2 (cE S (nd ns k)).us)))] (fun w hS=>by rw [show (cE S (nd ns k)).idx.length=S.idx.length+1 from iJ _ _ _];exact hS) ?_)
   exact ai.turn ((k+1),(cE S (nd ns k)),L2) (idx:=[2,6,47,48,49]) (pk:=[1,2,3,4,0,5,6,7]) (show (((k+1))<=ns.length)/\(lE X ns ((k+1)) ((cE S (nd ns k)))) from ⟨by omega,wS hok (fun i hi=>(hd i hi).1) (by omega) hB⟩) (by show ns.length - ((k+1)) < ns.length - k;omega) (fun _=>by kernel_rfl) rfl (by kernel_rfl)
  have lU:(nd ns k).kind=2:=by omega
  refine af.bR (S:=[pF b7 m3 t4 S.X,qy b8 ns k Y,yI b9 ns k]) [0,1,2,3,4,5,6,7,8,9,10,11] 7 [1,8,9] (by kernel_rfl) (by kernel_rfl) rfl (by kernel_rfl) ?_
  refine gR 0 [7,8,9,10,11] (MF b1 b7 b8 A ns c k++[(69,.map (some m3)),(71,vI ((nd ns k).id)),(72,.agg #[vI ((nd ns k).id),vI ((nd ns k).mode),vI ((nd ns k).uid),vI ((nd ns k).gid),vI ((nd ns k).sec),vI ((nd ns k).nano),vI 0,vI 0,.bool false])]) [0,1,2,3,4,5,6] [(3,a_ 0 b7),(5,a_ 1 b8),(6,A_ 2 b9 9)] ?_
  refine aK.cut (ι:=Nat) (fr':=fun (m14:Nat)=>(Hf b1 b7 b8 A ns c k++[(69,.map (some m3)),(71,vI ((nd ns k).id)),(72,.agg #[vI ((nd ns k).id),vI ((nd ns k).mode),vI ((nd ns k).uid),vI ((nd ns k).gid),vI ((nd ns k).sec),vI ((nd ns k).nano),vI 0,vI 0,.bool false]),(73,.map (some m14))])) (hp':=fun (m14:Nat)=>(vM b1 A ns c b7 m3 t4 S L R++[qy b8 ns k Y,yI b9 ns k,.abs (aL Tryz.prog 9 m14 (fun _=>none) 0)])) [1,8,9] rfl rfl ?_ rfl (fun _=>by kernel_rfl) ?_
  ·refine aj.kW (d:=(some 73)) (t:=136) (fun _=>by kernel_rfl) Tryz.prog rfl 9 (fun m14=>?_)
   refine NL ?_
   exact MD m14 [2,6,8,47,48,49,69,71,72,73] [0,1,2,3,4,5,6,7,8,9,10]
  rintro m14
  refine aK.cut (ι:=Unit) (fr':=fun (_:Unit)=>(Hf b1 b7 b8 A ns c k++[(69,.map (some m3)),(71,vI ((nd ns k).id)),(74,.agg #[vI ((nd ns k).id),vI ((nd ns k).mode),vI ((nd ns k).uid),vI ((nd ns k).gid),vI ((nd ns k).sec),vI ((nd ns k).nano),vI 0,vI 0,.bool false,.map (some m14),.pointer none])])) (hp':=fun (_:Unit)=>(vM b1 A ns c b7 m3 t4 S L R++[qy b8 ns k Y,yI b9 ns k,.abs (aL Tryz.prog 9 m14 (fun _=>none) 0)])) [1,8,9] rfl rfl ?_ rfl (fun _=>by kernel_rfl) ?_
  ·refine gK 1 [(74,.agg #[vI ((nd ns k).id),vI ((nd ns k).mode),vI ((nd ns k).uid),vI ((nd ns k).gid),vI ((nd ns k).sec),vI ((nd ns k).nano),vI 0,vI 0,.bool false,.map (some m14),.pointer none])] [] ?_
   refine NL ?_
   exact MD () [2,6,8,47,48,49,69,71,74] [0,1,2,3,4,5,6,7,8,9,10]
  rintro _
  refine mN [1,8,9] (fun b15=>[(75,vP b15)]) (fun _=>[]) (fun b15=>.blk b15 [vI ((nd ns k).id),vI ((nd ns k).mode),vI ((nd ns k).uid),vI ((nd ns k).gid),vI ((nd ns k).sec),vI ((nd ns k).nano),vI 0,vI 0,.bool false,.map (some m14),.pointer none] 138) (fun b15=>?_)
  refine aK.cut (ι:=Unit) (fr':=fun (_:Unit)=>(Hf b1 b7 b8 A ns c k++[(69,.map (some m3)),(71,vI ((nd ns k).id)),(76,.iface 135 (vP b15))])) (hp':=fun (_:Unit)=>(vM b1 A ns c b7 m3 t4 S L R++[qy b8 ns k Y,yI b9 ns k,.abs (aL Tryz.prog 9 m14 (fun _=>none) 0),.blk b15 [vI ((nd ns k).id),vI ((nd ns k).mode),vI ((nd ns k).uid),vI ((nd ns k).gid),vI ((nd ns k).sec),vI ((nd ns k).nano),vI 0,vI 0,.bool false,.map (some m14),.pointer none] 138])) [1,8,9] rfl rfl ?_ rfl (fun _=>by kernel_rfl) ?_
  ·refine gK 1 [(76,.iface 135 (vP b15))] [] ?_
   refine NL ?_
   exact MD () [2,6,8,47,48,49,69,71,76] [0,1,2,3,4,5,6,7,8,9,10,11]
  rintro _
  refine aK.last rfl rfl ?_
  obtain⟨L2,hL2⟩:∃ L2:HL,L2=L.put (fq (nd ns k)) b15 m14 none 0:=⟨_,rfl⟩
  have hfr:=hB.fresh hok (by omega)
  refine aj.mem (fun w hS=>hS.sN hL2 hfr (o:=(oC (nd ns k))) (i:=4) (j:=11) (ix:=[0,1,2,3,5,6,7,8,9,10]) rfl rfl (by kernel_rfl) rfl (by show (nd ns k).kind≠0;rw [lU];decide) ((kK (L:=L2) (k:=(fq (nd ns k))) (o:=(oC (nd ns k))) lU).trans (by rw [Ez hL2];rfl)) (by show jV (nd ns k).kind=_;rw [lU]<;>rfl)) ?_
  refine aj.mem (fun w hS=>hS.Nl hL2 hfr (o:=(oC (nd ns k))) (i:=6) (j:=10) (ix:=[0,1,2,3,4,5,7,8,9]) rfl rfl (by kernel_rfl) rfl lU rfl) ?_
  refine aj.dz [(6,.abs (ax (bN ((cE S (nd ns k)).O) L2)))] (fun w hS=>hS.Ax hL2 (o:=(oC (nd ns k))) (i:=6) rfl (by show ¬ (nd ns k).kind=1;rw [lU];decide)) ?_
  refine aj.dz [(4,.abs (aL Tryz.prog 3 m3 (bh (bn L2 S.idx)) S.idx.length)),(5,.abs (cM 197 t4 S.X.cH S.av (bn L2 S.us)))] (fun w hS=>by rw [gn hL2 hfr.idx,gn hL2 hfr.us];exact hS) ?_
  have Fl:dJ L2 (oe (nd ns k))=.iface 135 (vP b15):=by unfold oe;rw [nK hL2,lU];rfl
  refine aj.j7 4 (d:=none) (t:=120) (K:=3) (E:=124) (b:=m3) (n:=S.idx.length) (f:=(bh (bn L2 S.idx))) (x:=(.tmp 69)) (ix:=(.tmp 71)) (y:=(.tmp 76)) (key:=.int .i64 ((nd ns k).id)) (u:=.iface 135 (vP b15)) (kl:=(.int .i64 (nd ns k).id)) (n':=(S.idx.length+1)) (f':=(bh (bn L2 (ins (nd ns k).id (oe (nd ns k)) S.idx)))) (fun _=>by kernel_rfl) (by kernel_rfl) (fun _=>by kernel_rfl) (fun _=>by kernel_rfl) (fun _=>by kernel_rfl) dX Tryz.underlying120 (by unfold maxLen;omega) (gJ o3) (by rw [eY,hni];rfl) (by rw [← Fl];exact qX hni) ?_
  refine NL (ai.np (ai.aJ (NX (SR ?_))))
  refine gC 6 [] [(2,a_ 8 b8),(5,a_ 3 b7)] [(3,[(7,vI ((nd ns k).id))])] ?_
  refine NN (af.bR (S:=[pF b7 m3 t4 { S.X with last:=(nd ns k).id },qy b8 ns k Y]) [0,1,2,3,4,5,6,7,8,9,10] 10 [3,8] (by kernel_rfl) (by kernel_rfl) rfl (by kernel_rfl) ?_)
  refine gR 0 [10] (KI b1 b7 A ns c k++MG S ns k b7) [0,1,2,3,4,5,6,7,8,9] [(3,a_ 0 b7),(5,a_ 1 b8),(7,p_ ⟨[],none,none,none,some (vI (S.X.used+(((nd ns k).data.length:Nat):Int)))⟩ [(Value.int .i64 (IntKind.wrap .i64 (S.X.used+(((nd ns k).data.length:Nat):Int))))=(.int .i64 (S.X.used+(((nd ns k).data.length:Nat):Int)))] ⟨bw (by omega) (by omega) (by omega),trivial⟩)] ?_
  refine aK.last rfl rfl ?_
  refine gC 1 [] [(0,a_ 3 b7)] [(3,[(9,vI (S.X.used+(((nd ns k).data.length:Nat):Int)))])] ?_
  refine NL (ai.np (ai.aJ (NX (af.region ?_))))
  refine gK 2 [(49,vI ↑(k+1))] [(0,p_ ⟨[],none,none,none,some (vI ↑(k+1))⟩ [(Value.int .i64 (IntKind.wrap .i64 (((k:Nat):Int)+1)))=(.int .i64 ↑(k+1))] ⟨bw (by omega) (by omega) (by omega),trivial⟩)] ?_
  refine NL (ai.dz [(3,.blk b7 [vI ((cE S (nd ns k)).X.cN),vI ((cE S (nd ns k)).X.cB),vI ((cE S (nd ns k)).X.cH),vI ((cE S (nd ns k)).X.cS),vI ((cE S (nd ns k)).X.cZ),.map (some m3),vP t4,vI ((cE S (nd ns k)).X.last),vI ((cE S (nd ns k)).X.ah),vI ((cE S (nd ns k)).X.used)] 126),(4,.abs (aL Tryz.prog 3 m3 (bh (bn L2 (cE S (nd ns k)).idx)) ((cE S (nd ns k)).idx.length))),(5,.abs (cM 197 t4 (cE S (nd ns k)).X.cH (cE S (nd ns k)).av (bn L2 (cE S (nd ns k)).us)))] (fun w hS=>by rw [show (cE S (nd ns k)).idx.length=S.idx.length+1 from iJ _ _ _];exact hS) ?_)
  exact ai.turn ((k+1),(cE S (nd ns k)),L2) (idx:=[2,6,47,48,49]) (pk:=[2,3,4,5,1,6,0,7]) (show (((k+1))<=ns.length)/\(lE X ns ((k+1)) ((cE S (nd ns k)))) from ⟨by omega,wS hok (fun i hi=>(hd i hi).1) (by omega) hB⟩) (by show ns.length - ((k+1)) < ns.length - k;omega) (fun _=>by kernel_rfl) rfl (by kernel_rfl)
 refine af.exit (ai.aX (ai.aX (ai.cV (NX (af.seq (SR ?_))))))
 refine gK 4 [(123,.slice A (ns.length) (c)),(124,vI ↑ns.length),(125,vI 0)] [(1,a_ 0 b1)] ?_
 refine NN (af.block ?_)
 refine af.loop (ι:=Nat×aG) (fun ((i,S1):Nat×aG)=>(i<=ns.length)/\(fL X ns i 0 S1)) (fun ((i,S1):Nat×aG)=>ns.length - i) (fun ((i,S1):Nat×aG)=>[(6,vP b7),(123,.slice A (ns.length) (c)),(124,vI ↑ns.length),(125,vI ↑i)]) (fun ((i,S1):Nat×aG)=>(vM b1 A ns c b7 m3 t4 S1 L R)) (0,S) (idx:=[6,123,124,125]) (pk:=[0,1,2,3,4,5,6,7]) (show (0<=ns.length)/\(fL X ns 0 0 S) from ⟨Nat.zero_le _,by have h:=hB;rw [show k=ns.length by omega] at h;exact h.ah⟩) (fun _=>by kernel_rfl) rfl (by kernel_rfl) ?_
 rintro⟨i,S1⟩ ⟨hi,hE⟩
 show af _ _ _ _ [(6,vP b7),(123,.slice A (ns.length) (c)),(124,vI ↑ns.length),(125,vI ↑i)] (vM b1 A ns c b7 m3 t4 S1 L R) _
 refine SR (gK 1 [(126,.bool (decide ((((i:Nat):Int):Int) < (((ns.length:Nat):Int):Int))))] [] ?_)
 refine NN (af.seq (af.bg (p:=(((i:Nat):Int):Int) < (((ns.length:Nat):Int):Int)) (fun _=>by kernel_rfl) (fun TK=>?_) (fun TK=>?_)))
 ·refine af.skip (NX (af.seq (af.block (SR ?_))))
  refine gN 4 (fun b16=>[(11,vP b16)]) (fun b16=>[(0,p_ ⟨[],some i,none,some ⟨(ar A),aq A,none⟩,none⟩ [((i:Nat):Int)=((i:Nat):Int),i < ns.length,(⟨(ar A),aq A,none⟩:Addr).spot=none,(A:Option Addr)=some ⟨(ar A),aq A,none⟩] ⟨rfl,by omega,rfl,au.hd hG (i:=i) (by omega),trivial⟩),(1,p_ ⟨[.old (.int .i64 ((nd ns i).id)),.old (.int .i64 ((nd ns i).kind)),.old (.int .i64 ((nd ns i).mode)),.old (.int .i64 ((nd ns i).uid)),.old (.int .i64 ((nd ns i).gid)),.old (.int .i64 ((nd ns i).sec)),.old (.int .i64 ((nd ns i).nano)),.old (.slice (Y.dA i) ((nd ns i).data.length) ((Y.dC i))),.old (.string (nd ns i).target),.old (.slice (Y.eA i) ((nd ns i).ah.length) ((Y.eC i)))],none,none,none,none⟩ [(Rd β ⟨(ar A),aq A+i * 10+9,none⟩ (.slice (Y.eA i) ((nd ns i).ah.length) ((Y.eC i)))),(Rd β ⟨(ar A),aq A+i * 10+8,none⟩ (.string (nd ns i).target)),(Rd β ⟨(ar A),aq A+i * 10+7,none⟩ (.slice (Y.dA i) ((nd ns i).data.length) ((Y.dC i)))),(Rd β ⟨(ar A),aq A+i * 10+6,none⟩ (.int .i64 ((nd ns i).nano))),(Rd β ⟨(ar A),aq A+i * 10+5,none⟩ (.int .i64 ((nd ns i).sec))),(Rd β ⟨(ar A),aq A+i * 10+4,none⟩ (.int .i64 ((nd ns i).gid))),(Rd β ⟨(ar A),aq A+i * 10+3,none⟩ (.int .i64 ((nd ns i).uid))),(Rd β ⟨(ar A),aq A+i * 10+2,none⟩ (.int .i64 ((nd ns i).mode))),(Rd β ⟨(ar A),aq A+i * 10+1,none⟩ (.int .i64 ((nd ns i).kind))),(Rd β ⟨(ar A),aq A+i * 10,none⟩ (.int .i64 ((nd ns i).id)))] ⟨au.rd hG (i:=i) (by omega) (j:=9) rfl,au.rd hG (i:=i) (by omega) (j:=8) rfl,au.rd hG (i:=i) (by omega) (j:=7) rfl,au.rd hG (i:=i) (by omega) (j:=6) rfl,au.rd hG (i:=i) (by omega) (j:=5) rfl,au.rd hG (i:=i) (by omega) (j:=4) rfl,au.rd hG (i:=i) (by omega) (j:=3) rfl,au.rd hG (i:=i) (by omega) (j:=2) rfl,au.rd hG (i:=i) (by omega) (j:=1) rfl,au.rd hG (i:=i) (by omega) (j:=0) rfl,trivial⟩),(3,A_ 8 b16 10)]) (fun _=>[]) (fun b16=>.blk b16 [vI ((nd ns i).id),vI ((nd ns i).kind),vI ((nd ns i).mode),vI ((nd ns i).uid),vI ((nd ns i).gid),vI ((nd ns i).sec),vI ((nd ns i).nano),.slice (Y.dA i) ((nd ns i).data.length) ((Y.dC i)),.string (nd ns i).target,.slice (Y.eA i) ((nd ns i).ah.length) ((Y.eC i))] 70) (fun b16=>?_)
  refine NS (gK 4 [(130,.slice (Y.eA i) ((nd ns i).ah.length) ((Y.eC i))),(131,vI ↑((nd ns i).ah.length)),(132,vI 0)] [(1,a_ 8 b16)] ?_)
  refine NN (af.block ?_)
  refine af.loop (ι:=Nat×aG) (fun ((j,S2):Nat×aG)=>(j<=(nd ns i).ah.length)/\(fL X ns i j S2)) (fun ((j,S2):Nat×aG)=>(nd ns i).ah.length - j) (fun ((j,S2):Nat×aG)=>(I7 b7 b16++NT A ns c i Y j)) (fun ((j,S2):Nat×aG)=>([qy b16 ns i Y]++vM b1 A ns c b7 m3 t4 S2 L R)) (0,S1) (idx:=[6,11,123,124,125,130,131,132]) (pk:=[8,0,1,2,3,4,5,6,7]) (show (0<=(nd ns i).ah.length)/\(fL X ns i 0 S1) from ⟨Nat.zero_le _,hE⟩) (fun _=>by kernel_rfl) rfl (by kernel_rfl) ?_
  rintro⟨j,S2⟩ ⟨hj,pR⟩
  show af _ _ _ _ (I7 b7 b16++NT A ns c i Y j) ([qy b16 ns i Y]++vM b1 A ns c b7 m3 t4 S2 L R) _
  refine SR (gK 1 [(133,.bool (decide ((((j:Nat):Int):Int) < ((((nd ns i).ah.length:Nat):Int):Int))))] [] ?_)
  refine NN (af.seq (af.bg (p:=(((j:Nat):Int):Int) < ((((nd ns i).ah.length:Nat):Int):Int)) (fun _=>by kernel_rfl) (fun TL=>?_) (fun TL=>?_)))
  ·have hj2:j < (nd ns i).ah.length:=by omega
   have hi2:i < ns.length:=by omega
   have TM:=pR.get hi2
   obtain⟨hes,hno,hk2⟩:=pR.look hok hi2 hj2
   have Qy:=uf hok hi2 hj2
   have hgi:aB.get S2.idx (nd ns i).id=some ⟨(fq (nd ns i)),2⟩:=by rw [TM];unfold oe;rw [hk2]
   have hge:aB.get S2.idx (ent ns i j).id=some (kV ns (ent ns i j)):=by rw [← Qy.2];exact pR.get Qy.1
   have Mg:=hok.ids i hi2
   have hiw:(Lit.int .i64 (nd ns i).id).wf=true:=WalkArith.wf_i64 (by omega)
   have UE:(Lit.int .i64 (ent ns i j).id).wf=true:=WalkArith.wf_i64 (by have:=hwf i hi2 j hj2;omega)
   have hld:=pR.live hok hi2
   have hlt:=pR.live hok Qy.1
   have hkd:(obj S2.O (fq (nd ns i))).kind=2:=(pR.inv.kind hld).trans hk2
   have hkt:(obj S2.O (kV ns (ent ns i j)).k).kind=(kV ns (ent ns i j)).kind:=pR.inv.kind hlt
   have h3:(kV ns (ent ns i j)).kind=1\/(kV ns (ent ns i j)).kind=2\/(kV ns (ent ns i j)).kind=3:=(pR.inv.ob _ hlt).2.2
   have hlb:0<=(obj S2.O (kV ns (ent ns i j)).k).links/\(obj S2.O (kV ns (ent ns i j)).k).links<=8192:=pR.inv.lb hlt
   have hel:(obj S2.O (fq (nd ns i))).ah.length<=8192:=pR.inv.fU hld
   have hsz:=hnm i hi2 j hj2
   have hde:=hd i hi2
   have VZ:=pR.inv.hX
   refine af.skip (NX (af.seq (af.block (SR ?_))))
   refine gN 4 (fun b17=>[(13,vP b17)]) (fun b17=>[(0,p_ ⟨[],some j,none,some ⟨(ar (Y.eA i)),aq (Y.eA i),none⟩,none⟩ [((j:Nat):Int)=((j:Nat):Int),j < (nd ns i).ah.length,(⟨(ar (Y.eA i)),aq (Y.eA i),none⟩:Addr).spot=none,((Y.eA i):Option Addr)=some ⟨(ar (Y.eA i)),aq (Y.eA i),none⟩] ⟨rfl,by omega,rfl,dV.hd (hG.ah i (by omega)) (i:=j) (by omega),trivial⟩),(1,p_ ⟨[.old (.string (en (nd ns i).ah j).name),.old (.int .i64 ((en (nd ns i).ah j).id))],none,none,none,none⟩ [(Rd β ⟨(ar (Y.eA i)),aq (Y.eA i)+j * 2+1,none⟩ (.int .i64 ((en (nd ns i).ah j).id))),(Rd β ⟨(ar (Y.eA i)),aq (Y.eA i)+j * 2,none⟩ (.string (en (nd ns i).ah j).name))] ⟨dV.rd (hG.ah i (by omega)) (i:=j) (by omega) (j:=1) rfl,dV.rd (hG.ah i (by omega)) (i:=j) (by omega) (j:=0) rfl,trivial⟩),(3,A_ 9 b17 2)]) (fun _=>[]) (fun b17=>.blk b17 [.string (en (nd ns i).ah j).name,vI ((en (nd ns i).ah j).id)] 140) (fun b17=>?_)
   refine NN (af.seq (af.bR (S:=[pF b7 m3 t4 S2.X,pI m3 L S2.idx,qy b16 ns i Y,.blk b17 [.string (en (nd ns i).ah j).name,vI ((en (nd ns i).ah j).id)] 140]) [0,1,2,3,4,5,6,7,8,9,10,11,12,13,14,15,16,17] 17 [2,3,0,9] (by kernel_rfl) (by kernel_rfl) rfl (by kernel_rfl) ?_))
   refine gR 11 [6,7,8,9,10,11,12,13,14,15,16,17] (I7 b7 b16++[(13,vP b17)]++NT A ns c i Y j++[(139,.map (some m3)),(141,vI ((nd ns i).id))]) [0,1,2,3,4,5] [(3,a_ 0 b7),(5,a_ 2 b16)] ?_
   refine aK.d9 1 (d:=(some 142)) (t:=120) (K:=3) (E:=124) (b:=m3) (cnt:=S2.idx.length) (f:=(bh (bn L S2.idx))) (x:=(.tmp 139)) (ix:=(.tmp 141)) (key:=.int .i64 ((nd ns i).id)) (z:=.nilIface) (kl:=(.int .i64 (nd ns i).id)) (q:=(some (dJ L ⟨(fq (nd ns i)),2⟩))) (by kernel_rfl) (by kernel_rfl) (fun _=>by kernel_rfl) (fun _=>by kernel_rfl) dX Tryz.underlying120 (fun _=>by kernel_rfl) (gJ hiw) (by rw [eY,hgi];rfl) (by kernel_rfl) ?_
   refine gR 1 [16,17] (I7 b7 b16++NT A ns c i Y j++[(143,vP (L.b (fq (nd ns i)))),(145,.string (en (nd ns i).ah j).name),(149,.map (some m3)),(151,vI ((en (nd ns i).ah j).id))]) [7,8,9,10,11,12,13,14,15] [(2,a_ 3 b17),(6,a_ 0 b7),(8,a_ 3 b17)] ?_
   refine aK.d9 1 (d:=(some 152)) (t:=120) (K:=3) (E:=124) (b:=m3) (cnt:=S2.idx.length) (f:=(bh (bn L S2.idx))) (x:=(.tmp 149)) (ix:=(.tmp 151)) (key:=.int .i64 ((en (nd ns i).ah j).id)) (z:=.nilIface) (kl:=(.int .i64 (ent ns i j).id)) (q:=(some (dJ L (kV ns (ent ns i j))))) (by kernel_rfl) (by kernel_rfl) (fun _=>by kernel_rfl) (fun _=>by kernel_rfl) dX Tryz.underlying120 (fun _=>by kernel_rfl) (gJ UE) (by rw [eY,hge];rfl) (by kernel_rfl) ?_
   refine aK.last rfl rfl ?_
   refine gL [5,7] (GZ S2.O L (fq (nd ns i)) hkd (ent ns i j).name hsz hno (by omega) (kV ns (ent ns i j)) hkt h3 (by omega)) ?_
   rintro _ _ ⟨rfl,rfl⟩
   refine NL (ai.np (NX (af.region ?_)))
   refine gC 8 [] [(3,a_ 4 b7),(4,p_ ⟨[],none,none,none,some (vI (S2.X.ah+1))⟩ [(Value.int .i64 (IntKind.wrap .i64 (S2.X.ah+1)))=(.int .i64 (S2.X.ah+1))] ⟨bw (by omega) (by omega) (by omega),trivial⟩),(7,a_ 4 b7)] [(4,[(8,vI (S2.X.ah+1))])] ?_
   refine NL (ai.aJ (NX (af.region ?_)))
   refine gK 2 [(132,vI ↑(j+1))] [(0,p_ ⟨[],none,none,none,some (vI ↑(j+1))⟩ [(Value.int .i64 (IntKind.wrap .i64 (((j:Nat):Int)+1)))=(.int .i64 ↑(j+1))] ⟨bw (by omega) (by omega) (by omega),trivial⟩)] ?_
   refine NL (ai.dz [(0,.abs (ax (bM ((kr ns S2 (nd ns i) (ent ns i j)).O) L))),(1,.abs (ax (cG ((kr ns S2 (nd ns i) (ent ns i j)).O) L))),(4,.blk b7 [vI ((kr ns S2 (nd ns i) (ent ns i j)).X.cN),vI ((kr ns S2 (nd ns i) (ent ns i j)).X.cB),vI ((kr ns S2 (nd ns i) (ent ns i j)).X.cH),vI ((kr ns S2 (nd ns i) (ent ns i j)).X.cS),vI ((kr ns S2 (nd ns i) (ent ns i j)).X.cZ),.map (some m3),vP t4,vI ((kr ns S2 (nd ns i) (ent ns i j)).X.last),vI ((kr ns S2 (nd ns i) (ent ns i j)).X.ah),vI ((kr ns S2 (nd ns i) (ent ns i j)).X.used)] 126),(5,.abs (aL Tryz.prog 3 m3 (bh (bn L (kr ns S2 (nd ns i) (ent ns i j)).idx)) ((kr ns S2 (nd ns i) (ent ns i j)).idx.length))),(6,.abs (cM 197 t4 (kr ns S2 (nd ns i) (ent ns i j)).X.cH (kr ns S2 (nd ns i) (ent ns i j)).av (bn L (kr ns S2 (nd ns i) (ent ns i j)).us))),(7,.abs (ax (bN ((kr ns S2 (nd ns i) (ent ns i j)).O) L)))] (fun w hS=>by rw [show bN (kr ns S2 (nd ns i) (ent ns i j)).O L=bN S2.O L from OD];exact hS) ?_)
   exact ai.turn ((j+1),(kr ns S2 (nd ns i) (ent ns i j))) (idx:=[6,11,123,124,125,130,131,132]) (pk:=[2,3,4,5,6,0,7,1,8]) (show (((j+1))<=(nd ns i).ah.length)/\(fL X ns i ((j+1)) ((kr ns S2 (nd ns i) (ent ns i j)))) from ⟨by omega,pR.step hok (by omega) (by omega)⟩) (by show (nd ns i).ah.length - ((j+1)) < (nd ns i).ah.length - j;omega) (fun _=>by kernel_rfl) rfl (by kernel_rfl)
  refine af.exit (ai.aX (ai.aX (ai.cV (ai.aJ (NX (af.region ?_))))))
  refine gK 2 [(125,vI ↑(i+1))] [(0,p_ ⟨[],none,none,none,some (vI ↑(i+1))⟩ [(Value.int .i64 (IntKind.wrap .i64 (((i:Nat):Int)+1)))=(.int .i64 ↑(i+1))] ⟨bw (by omega) (by omega) (by omega),trivial⟩)] ?_
  refine NL ?_
  exact ai.turn ((i+1),S2) (idx:=[6,123,124,125]) (pk:=[1,2,3,4,5,6,7,8]) (show (((i+1))<=ns.length)/\(fL X ns ((i+1)) 0 S2) from ⟨by omega,by have h:=pR;rw [show j=(nd ns i).ah.length by omega] at h;exact h.next⟩) (by show ns.length - ((i+1)) < ns.length - i;omega) (fun _=>by kernel_rfl) rfl (by kernel_rfl)
 refine af.exit (ai.aX (ai.aX (ai.cV (NX (SR ?_)))))
 refine gK 3 [(4,vP b7),(5,vI 0)] [] ?_
 refine NN (af.ret ?_)
 exact RT (.tuple #[vP b7,vI 0]) [1,2,3,4,5,6,7] (.inr (.inr ⟨hcap,hok,S1,b7,m3,t4,L,by have h:=hE;rw [show i=ns.length by omega] at h;exact h,rfl,rfl⟩))
end
section
open Go.RowKit Go.Maps bL aB
theorem MH {b:UInt8} (h0:¬ b=0) (h1:¬ b=47) (h2:¬ b=46):bJ ⟨#[b]⟩:=by
  refine⟨Nat.le_refl _,(by show 1<=255;decide),fun e=>h2 ?_,fun e=>?_,fun j hj=>?_⟩
  ·injection e with e
   have e:[b]=[46]:=congrArg Array.toList e
   injection e
  ·injection e with e
   have e:[b]=[46,46]:=congrArg Array.toList e
   injection e with _ e
   cases e
  have:j=0:=by have hj:j < 1:=hj;omega
  subst this
  show ¬ b.toNat=0/\¬ b.toNat=47
  exact⟨fun e=>h0 (UInt8.toNat_inj.1 e),fun e=>h1 (UInt8.toNat_inj.1 e)⟩
theorem Dj:dQ 0 0:=⟨by decide,by decide,by decide,by decide,by decide⟩
def Fm (room:Int):FM:=⟨9,room,9,0,0,0,0,0⟩
theorem OI {room:Int} (h:0<=room/\room<=1099511627776):jk (Fm room):=⟨by show (0:Int)<=9/\(9:Int)<=4096;decide,h,by show (0:Int)<=9/\(9:Int)<=1024;decide,Dj⟩
section ops
variable {S:aG} {c:aD} {t:Th} {d:Nat}
theorem MI {O:bY} {us:Used Th} {h:Int} {name:ByteArray} {need:Int} (h1:aB.get us h=some t) (h2:t.kind=2) (h3:(obj O t.k).gone=false) (h4:bJ name) (h5:bits BinOp.and .i64 (obj O t.k).mode need=need):dZ O us h name need=.ok t.k:=by
  unfold dZ
  rw [h1]
  simp only
  rw [if_pos h2,if_neg (by rw [h3];decide),if_pos h4,if_pos h5]
theorem OJ (hop:c.op=1) (h1:aB.get S.idx c.other=some t) (h2:t.kind=2) (h3:(S.us.length:Int) < S.X.cH):cI S c=({ S with O:=ay S.O t.k (fun o=>{ o with opens:=o.opens+1 }),us:=ins (least S.us) t S.us,av:=max S.av ((S.us.length:Int)+1) },{ c with answer:=least S.us,code:=0 }):=by
  unfold cI
  rw [uQ (by exact hop)]
  unfold ji
  simp only
  rw [h1]
  simp only
  rw [if_pos h2,kD h3]
theorem MJ (hop:c.op=4) (ha:dZ S.O S.us c.handle c.name 192=.ok d) (hm:mR c.mode) (hl:aU c.name (obj S.O d).ah=none) (hr:Room S.X S.idx):cI S c=(eU S d c.name (aV S.X 2 c.mode),{ c with answer:=0,code:=0 }):=by
  unfold cI
  rw [uR (by exact hop)]
  unfold fP
  simp only
  rw [ha]
  simp only
  rw [if_pos hm]
  unfold gE bZ
  rw [if_pos hl,if_pos hr,if_pos rfl]
end ops
structure Vu (room:Int) (S:aG):Prop where
  inv:Inv S
  idx:S.idx=[(1,⟨1,2⟩),(2,⟨2,1⟩)]
  us:S.us=[]
  X:S.X=⟨9,room,9,0,0,2,1,0⟩
  o1:∃ l u,obj S.O 1=⟨1,493,0,0,0,0,l,0,false,2,[],⟨#[]⟩,[(⟨#[102]⟩,⟨2,1⟩)],u⟩
  o2:∃ u,obj S.O 2=⟨2,420,0,0,0,0,1,0,false,1,[],⟨#[]⟩,[],u⟩
theorem Qz:bJ ⟨#[100]⟩:=MH (by decide) (by decide) (by decide)
theorem QA:bits BinOp.and .i64 493 192=192:=by kernel_rfl
section chain
variable {room:Int} {S:aG}
def S1 (S:aG):aG:={ S with O:=ay S.O 1 (fun o=>{ o with opens:=o.opens+1 }),us:=[(1,⟨1,2⟩)],av:=max S.av 1 }
theorem TN:obj (S1 S).O 1={ obj S.O 1 with opens:=(obj S.O 1).opens+1 }:=rfl
structure V0 (room:Int) (ds:List UInt8) (S:aG):Prop where
  inv:Inv S
  idx:S.idx=[(1,⟨1,2⟩),(2,⟨2,1⟩)]
  us:S.us=[(1,⟨1,2⟩),(2,⟨2,1⟩)]
  X:S.X=⟨9,room,9,0,0,2,1,ds.length⟩
  o1:∃ l n u,obj S.O 1=⟨1,493,0,0,0,0,l,n,false,2,[],⟨#[]⟩,[(⟨#[102]⟩,⟨2,1⟩)],u⟩
  o2:∃ u,obj S.O 2=⟨2,420,0,0,0,0,1,1,false,1,ds,⟨#[]⟩,[],u⟩
structure V1 (ds:List UInt8) (S:aG):Prop where
  inv:Inv S
  idx:S.idx=[(1,⟨1,2⟩),(2,⟨2,1⟩)]
  us:S.us=[(1,⟨1,2⟩),(2,⟨2,1⟩)]
  used:S.X.used=ds.length
  o2:∃ s z u,obj S.O 2=⟨2,420,0,0,s,z,0,1,true,1,ds,⟨#[]⟩,[],u⟩
end chain
end
section
open Go.RowKit Go.Maps bL aB
attribute [local irreducible] aj aP af ai
theorem Bo {β:Bs} (A:Option Addr) (c:Nat) (d:List UInt8) (hA:bD β A d) (hl:d.length<=1048576) :
    Spec Tryz.prog β 43 #[.slice A d.length c] [] (fun v l=>∃ B cap,v=.slice B d.length cap/\l=[.abs (aE 5 1 B d.length cap (bX d))]):=by
 refine Spec.enter Tryz.func43 rfl Tryz.ntmps43 (Nat.le_of_ble_eq_true rfl) (fun R=>?_)
 refine SR (gK 1 [] [] ?_)
 refine NS (gN 2 (fun b1=>[(3,.slice (some ⟨b1,0,none⟩) (0) (0))]) (fun _=>[]) (fun _=>[]) (fun b1=>.blk b1 [] 5) (fun b1=>?_))
 refine NS (aj.mem (fun w hS=>hS.nP (i:=1) (b:=b1) (cs:=[]) (e:=5) 1 0 (by kernel_rfl) rfl (by decide)) ?_)
 refine gK 2 [(5,.slice (some ⟨b1,0,none⟩) (0) (0)),(6,.slice A (d.length) (c))] [] ?_
 refine aj.append 1 (d:=(some 7)) (t:=46) (e:=5) (z:=.int .u8 0) (size:=1) (bytes:=1) (n:=0) (cap:=0) (A:=some ⟨b1,0,none⟩) (xs:=[]) (s:=(.tmp 5)) (x:=(.tmp 6)) (ats:=#[46,46]) (A':=A) (m:=d.length) (c':=c) (news:=(bX d)) (fun _=>by kernel_rfl) rfl (by kernel_rfl) (fun _=>by kernel_rfl) (fun _=>by kernel_rfl) Tryz.underlying46 (by kernel_rfl) rfl (by decide) (by rw [qD,Nat.mul_one]) (mW d) (hA.src) (by unfold maxLen;omega) (by omega) (fun A2 c3=>?_)
 refine aj.dr 1 (p:=.abs (aE 5 1 A2 (0+d.length) c3 ([]++(bX d)))) (p':=.abs (aE 5 1 A2 d.length c3 (bX d))) (by kernel_rfl) (by rw [Nat.zero_add,List.nil_append]) ?_
 refine aj.slot 7 (.slice A2 (0+d.length) (c3)) (.slice A2 (d.length) (c3)) (fun _=>by kernel_rfl) (by rw [Nat.zero_add]) ?_
 refine gK 1 [(3,.slice A2 (d.length) (c3))] [] ?_
 refine NS (gK 2 [(2,.slice A2 (d.length) (c3))] [] ?_)
 refine NN (af.ret ?_)
 exact RT (.slice A2 (d.length) (c3)) [1,0] (⟨A2,c3,rfl,rfl⟩)
end
section
open Go.RowKit Go.Maps bL aB
theorem Spec.I8 {P:Program} {β:Bs} {f:FuncId} {args:Array Value} {pre:List HP} {post:Value->List HP->Prop} {Ψ:Bs->Value->List HP->Prop} (h:Spec P β f args pre post) (DW:∀ v l,post v l->∃ l1 l2,l=l1++l2/\∀ β',oR β l2 β'->Ψ β' v l1):cJ P β f args pre Ψ:=by
  intro A w hS
  refine (h A w hS).mono ?_
  rintro e w' ⟨v,l,h1,h2,h3⟩
  obtain⟨l1,l2,rfl,hl⟩:=DW v l h2
  have h4:Sat β (([.abs A]++l1)++l2) w':=by rw [List.append_assoc];exact Sat.turn h3
  obtain⟨β',g1,_,g3⟩:=h4.za
  exact⟨β',v,l1,g1.le,h1,hl β' g1,Sat.turn g3⟩
section c
variable {β:Bs} {S S2:aG} {L:HL} {f m t:Nat} {c c2:aD}
theorem Dy (A:Option Addr) (cp:Nat) (d:List UInt8) (hA:bD β A d) (hl:d.length<=1048576):cJ Tryz.prog β 43 #[.slice A d.length cp] [] (fun β' v l=>∃ B cap,v=.slice B d.length cap/\l=[]/\bD β' B d/\d.length<=cap):=
  (Bo A cp d hA hl).I8 (by
    rintro v l ⟨B,cap,rfl,rfl⟩
    refine⟨[],_,rfl,fun β' h=>⟨B,cap,rfl,rfl,h.bytes,?_⟩⟩
    obtain⟨F,h1,_⟩:=h.get 0 rfl
    exact (aE.len h1).2)
end c
end
section
open Go.RowKit Go.Maps bL aB
section at_
variable {S:aG} {i j:Nat}
theorem MK (hi:i < S.idx.length):nd (aO S) i=x5 S.O (cW S i) (ld S i):=by
  unfold nd aO
  rw [List.getD_eq_getElem?_getD,List.getElem?_map,AK hi];rfl
end at_
end
section
open Go.RowKit bL aB Go.Maps
theorem Spec.Ll {P:Program} {β:Bs} {f:FuncId} {args:Array Value} {pre R:List HP} {post:Value->List HP->Prop} (h:∀ β':Bs,oR β R β'->Spec P β' f args pre post):Spec P β f args (pre++R) (fun v l=>∃ l0,post v l0/\l=l0++R):=by
  intro A w hS
  have h1:=Sat.turn hS
  rw [← List.append_assoc] at h1
  obtain⟨β',g1,_,g3⟩:=h1.za
  refine (h β' g1 A w (Sat.turn g3)).mono ?_
  rintro e w' ⟨v,l,h1,h2,h3⟩
  refine⟨v,l++R,h1,⟨l,h2,rfl⟩,?_⟩
  have h4:=g1.back (Sat.turn h3)
  rw [List.append_assoc] at h4
  exact Sat.turn h4
section ints
variable {β:Bs} {A:Option Addr} {l:List Int} {j:Nat}
end ints
theorem Dz {β:Bs} (A B:Option Addr) (c c':Nat) (ns ms:List aI) (L K:Lay) (hH:au β B ms K) (hl:ns.length<=1048576) (hd:∀ i,i < ns.length->(nd ns i).data.length<=140737488355328/\(nd ns i).ah.length<=1048576) {b:Bool} (hb:decide (ns=ms)=b) :
    Spec Tryz.prog β 20 #[.agg #[.slice A ns.length c],.agg #[.slice B ms.length c']] (EM A c ns L) (fun v l=>v=.bool b/\l=EM A c ns L):=
  (Spec.Ll (pre:=[]) (fun _ g=>D9 A B c c' ns ms L K g.graph (hH.le g.le) hl hd)).mono (by rintro v l ⟨l0,⟨rfl,rfl⟩,rfl⟩;exact⟨congrArg Value.bool hb,rfl⟩)
theorem Fo {β:Bs} (t:Nat) (most av:Int) (L:HL) (us:Used Th) :
    Spec Tryz.prog β 70 #[.pointer (some ⟨t,0,none⟩)] [.abs (cM 197 t most av (bn L us))] (fun v l=>∃ A c,v=.slice A us.length c/\l=[.abs (cM 197 t most av (bn L us)),.abs (aE 3 1 A us.length c (ints (keys us)))]):=by
  have h:=Eu (β:=β) t most av (bn L us)
  have e:keys (bn L us)=keys us:=keys_map (dJ L) us
  have e2:(keys us).length=us.length:=List.length_map ..
  rw [e,e2] at h
  exact h
theorem ML {S:aG} (h:Inv0 S):∀ i,i < (aO S).length->(nd (aO S) i).data.length<=140737488355328/\(nd (aO S) i).ah.length<=1048576:=fun i hi=>by
  rw [nY] at hi
  have h1:(obj S.O (ld S i).k).data.length<=bytes S.idx S.O:=kY (g:=fun p:Int×Th=>(obj S.O p.2.k).data.length) (get_at h hi)
  have h2:(obj S.O (ld S i).k).ah.length<=tot S.idx S.O:=kY (g:=fun p:Int×Th=>(obj S.O p.2.k).ah.length) (get_at h hi)
  have h3:=h.used
  have h4:=h.total
  rw [MK hi]
  refine⟨by show (obj S.O (ld S i).k).data.length<=_;omega,?_⟩
  show ((obj S.O (ld S i).k).ah.map _).length<=_
  rw [List.length_map]
  omega
theorem vN {β:Bs} (A:Option Addr) (c:Nat) (ns:List aI) (L:Lay) (hG:au β A ns L) (hl:ns.length<=1048576) (hd:∀ i,i < ns.length->(nd ns i).data.length<=1048576/\(nd ns i).ah.length<=1048576) :
    Spec Tryz.prog β 22 #[.agg #[.slice A ns.length c]] [] (fun v l=>∃ B cap,v=.agg #[.slice B ns.length cap]/\l=[.abs (kq β (fun β'=>∃ K,au β' B ns K))]):=
  (cJ.Np (ι:=Option Addr×Nat) (vv:=fun x=>.agg #[.slice x.1 ns.length x.2]) (ll:=fun _=>[]) (Φ:=fun x β'=>∃ K,au β' x.1 ns K)
    ((D8 A c ns L hG hl hd).mono (by rintro β' v l _ ⟨B,cap,K,rfl,rfl,h⟩;exact⟨(B,cap),rfl,rfl,K,h⟩))).mono (by rintro v l ⟨⟨B,cap⟩,rfl,rfl⟩;exact⟨B,cap,rfl,rfl⟩)
end
section
open Go.RowKit Go.Maps bL aB
attribute [local irreducible] aj aP af ai
theorem KJ {β:Bs} (S:aG) (L:HL) (f m t:Nat):Spec Tryz.prog β 26 #[vP f] [pF f m t S.X,pT t S.X.cH S.av L S.us] (fun v l=>∃ A c,v=.slice A S.us.length c/\l=[pF f m t S.X,pT t S.X.cH S.av L S.us,.abs (aE 3 1 A S.us.length c (ints (keys S.us)))]):=by
 refine Spec.enter Tryz.func26 rfl Tryz.ntmps26 (Nat.le_of_ble_eq_true rfl) (fun R=>?_)
 refine SR (gK 1 [] [] ?_)
 refine NS (gK 4 [(6,vP t)] [(3,a_ 0 f)] ?_)
 refine gL [1] (Fo t S.X.cH S.av L S.us) ?_
 rintro _ _ ⟨A,c,rfl,rfl⟩
 refine gK 1 [(2,.slice A (S.us.length) (c))] [] ?_
 refine NN (af.ret ?_)
 exact RT (.slice A (S.us.length) (c)) [2,0,1,3] (⟨A,c,rfl,rfl⟩)
end
section
open Go.RowKit bL aB Go.Maps
abbrev rY (X:FM) (ns:List aI):={ S:aG // fL X ns ns.length 0 S }
theorem rI (us:Used Th):us.length=(keys us).length:=(List.length_map ..).symm
theorem QB {S:aG} (h:Inv0 S):(keys S.us).length<=1048576:=by
  rw [← rI]
  have h1:=h.Am
  have h2:=h.cH
  omega
theorem MN {S:aG} (h:Inv0 S):(aO S).length<=1048576:=by
  rw [nY]
  have:=h.len
  omega
end
section
open Go.RowKit Go.Maps bL aB
section m
variable {β:Bs} {ns:List aI} {Y:Lay} {X:FM} {root:Int}
theorem MO (hcap:jk X) (hok:bQ ns) (A:Option Addr) (c:Nat) (hG:au β A ns Y) (hB:gu ns 1048576) :
    Spec Tryz.prog β 21 #[.agg #[.slice A ns.length c],.agg #[.int .i64 X.cN,.int .i64 X.cB,.int .i64 X.cH,.int .i64 X.cS,.int .i64 X.cZ]] [] (fun v l=>∃ (S:rY X ns) (f m t:Nat) (L:HL),v=.tuple #[.pointer (some ⟨f,0,none⟩),.int .i64 0]/\l=pA f m t L S.1):=
  (Hg A c ns Y hG (xM hB) (DG hB) (JE hB) (JF hB) X).mono (by
    rintro v l (⟨h,_⟩|⟨_,h,_⟩|⟨_,_,h⟩)
    ·exact absurd hcap h
    ·exact absurd hok h
    obtain⟨S,f,m,t,L,h1,h2,h3⟩:=h
    exact⟨⟨S,h1⟩,f,m,t,L,h2,h3⟩)
theorem MP (MQ:¬ (jk X/\bQ ns)) (A:Option Addr) (c:Nat) (hG:au β A ns Y) (hB:gu ns 1048576) :
    Spec Tryz.prog β 21 #[.agg #[.slice A ns.length c],.agg #[.int .i64 X.cN,.int .i64 X.cB,.int .i64 X.cH,.int .i64 X.cS,.int .i64 X.cZ]] [] (fun v l=>v=.tuple #[.pointer none,.int .i64 (cX X ns root)]/\l=[]):=
  (Hg A c ns Y hG (xM hB) (DG hB) (JE hB) (JF hB) X).mono (by
    rintro v l (⟨h,h1,h2⟩|⟨h,h',h1,h2⟩|⟨h1,h2,_⟩)
    ·exact⟨by rw [AR h];exact h1,h2⟩
    ·exact⟨by rw [wT h h'];exact h1,h2⟩
    exact absurd ⟨h1,h2⟩ MQ)
theorem Bp (MQ:¬ (jk X/\bQ ns)):cX X ns root≠0:=fun h=>MQ (Df h)
theorem KL {i:Nat} (hi:rQ ns root i) (A:Option Addr) (c:Nat) (hG:au β A ns Y) (hB:gu ns 1048576) (b:Nat) :
    Spec Tryz.prog β 81 #[.slice A ns.length c,.func (.func 82) #[] #[.pointer (some ⟨b,0,none⟩)]] [.blk b [.int .i64 root] 3] (fun v l=>v=.int .i64 (i:Int)/\l=[.blk b [.int .i64 root] 3]):=
  (EU A c ns Y hG (xM hB) b root).mono (by
    rintro v l (⟨j,hj,h1,h2⟩|⟨h,_⟩)
    ·have e:i=j:=by
       obtain⟨a1,a2,a3⟩:=hi
       obtain⟨b1,b2,b3⟩:=hj
       rcases Nat.lt_trichotomy i j with h|h|h
       ·exact absurd a2 (b3 i h)
       ·exact h
       exact absurd b2 (a3 j h)
     subst e
     exact⟨h1,h2⟩
    exact absurd hi.2.1 (h i hi.1))
theorem MR (hi:∀ q,q < ns.length->(nd ns q).id≠root) (A:Option Addr) (c:Nat) (hG:au β A ns Y) (hB:gu ns 1048576) (b:Nat) :
    Spec Tryz.prog β 81 #[.slice A ns.length c,.func (.func 82) #[] #[.pointer (some ⟨b,0,none⟩)]] [.blk b [.int .i64 root] 3] (fun v l=>v=.int .i64 (-1)/\l=[.blk b [.int .i64 root] 3]):=
  (EU A c ns Y hG (xM hB) b root).mono (by
    rintro v l (⟨j,hj,_⟩|⟨_,h1,h2⟩)
    ·exact absurd hj.2.1 (hi j hj.1)
    exact⟨h1,h2⟩)
end m
end
section
open Go.RowKit Go.Maps bL aB
attribute [local irreducible] aj aP af ai
noncomputable abbrev UF (w) (f:Nat) (o) (root):=(.blk w [.iface 42 (vP w),vP f,.iface 180 (vP o),vI (root),.slice none (0) (0)] 93:HP)
noncomputable abbrev UG (o) (q) (f:Nat) (root) (am):=(.blk o [.iface 181 (vP q),vP f,vI (root),.map (some am),vI 0] 185:HP)
noncomputable abbrev Dk (b4:Nat) (Af) (fs:List aZ) (cf) (Aa) (xs:List cQ) (ca):=(.blk b4 [.slice Af (fs.length) (cf),.slice Aa (xs.length) (ca)] 32:HP)
noncomputable abbrev Hj (m5:Nat) (Z) (xs:List cQ) (i:Nat) (an):=(.abs (aL Tryz.prog 3 m5 (fH Z (xs.take i)) an):HP)
noncomputable abbrev KM (b6:Nat) (xs) (i:Nat):=(.blk b6 [vI ((act xs i).at_),vI ((act xs i).op),.string (act xs i).path,.string (act xs i).to,.string (act xs i).text] 41:HP)
noncomputable abbrev QC (b2:Nat) (b4:Nat) (f:Nat) (m5:Nat):=([(5,vP b2),(7,vP b4),(10,vP f),(13,.map (some m5))]:Fr)
noncomputable abbrev NU (Aa) (xs:List cQ) (ca):=([(44,.slice Aa (xs.length) (ca)),(45,vI ↑xs.length)]:Fr)
noncomputable abbrev SD (b2:Nat) (f:Nat) (m5:Nat) (m11:Nat) (Af) (fs:List aZ) (cf) (j:Nat):=([(5,vP b2),(10,vP f),(13,.map (some m5)),(16,.map (some m11)),(63,.slice Af (fs.length) (cf)),(64,vI ↑fs.length),(65,vI ↑j)]:Fr)
noncomputable abbrev SE (w) (f:Nat) (o) (root) (q) (am) (km) (Z) (xs) (an) (fs) (kn):=([UF w f o root,UG o q f root am,.blk q [.iface 54 (vP f),.map (some km),vI 0] 183,.abs (aL Tryz.prog 3 am (fH Z xs) an),.abs (aL Tryz.prog 3 km (d8 fs) kn),.abs (aE 48 13 none 0 0 ([]))]:List HP)
theorem MS {β:Bs} (A:Option Addr) (c:Nat) (ns:List aI) (Y:Lay) (hG:au β A ns Y) (hB:gu ns 1048576) (X:FM) (root:Int) (Af:Option Addr) (cf:Nat) (fs:List aZ) (hF:cP β Af (bq dL fs)) (kS:fV fs 2097152) (Aa:Option Addr) (ca:Nat) (xs:List cQ) (hA:cP β Aa (bq dS xs)) (hab:iq xs 1048576) :
    cJ Tryz.prog β 37 #[.agg #[.slice A (ns.length) (c)],vI (root),.agg #[vI (X.cN),vI (X.cB),vI (X.cH),vI (X.cS),vI (X.cZ)],.agg #[.slice Af (fs.length) (cf),.slice Aa (xs.length) (ca)]] [] (fun β' v l=>(cX X ns root≠0/\v=.tuple #[.pointer none,vI (cX X ns root)]/\l=[])\/(cX X ns root=0/\∃ (N:rY X ns) (L:HL) (w o q f m t am an km kn:Nat) (Z:AZ),v=.tuple #[vP w,vI 0]/\l=(SE w f o root q am km Z xs an fs kn++[pF f m t N.1.X,pI m L N.1.idx,pT t N.1.X.cH N.1.av L N.1.us,pO N.1.O L,pD N.1.O L,pE N.1.O L])/\jF β' Z xs)):=by
 have hfl:=kS.len
 have hxl:=hab.len
 refine cJ.enter Tryz.func37 rfl Tryz.ntmps37 (Nat.le_of_ble_eq_true rfl) (fun hle0 R=>?_)
 refine SR (gN 1 (fun b1=>[(4,vP b1)]) (fun _=>[]) (fun _=>[]) (fun b1=>.blk b1 [.slice A (ns.length) (c)] 24) (fun b1=>?_))
 refine gN 1 (fun b2=>[(5,vP b2)]) (fun _=>[]) (fun _=>[]) (fun b2=>.blk b2 [vI (root)] 3) (fun b2=>?_)
 refine gN 1 (fun b3=>[(6,vP b3)]) (fun _=>[]) (fun _=>[]) (fun b3=>.blk b3 [vI (X.cN),vI (X.cB),vI (X.cH),vI (X.cS),vI (X.cZ)] 28) (fun b3=>?_)
 refine gN 3 (fun b4=>[(7,vP b4)]) (fun _=>[]) (fun _=>[]) (fun b4=>.blk b4 [.slice Af (fs.length) (cf),.slice Aa (xs.length) (ca)] 32) (fun b4=>?_)
 refine NN (af.seq ?_)
 by_cases ny:jk X/\bQ ns
 ·refine af.region (gK 2 [(21,.agg #[.slice A (ns.length) (c)]),(22,.agg #[vI (X.cN),vI (X.cB),vI (X.cH),vI (X.cS),vI (X.cZ)])] [(0,a_ 1 b1),(1,A_ 3 b3 5)] ?_)
  refine gL [] (MO (β:=β) ny.1 ny.2 A c hG hB) ?_
  rintro _ _ ⟨N,f,m,t,L,rfl,rfl⟩
  refine gK 5 [(10,vP f),(11,vI 0)] [] ?_
  refine NN (af.seq (SR (gK 2 [(27,.bool false)] [] ?_)))
  refine NN (CF (af.skip (NX (af.seq ?_))))
  rcases Mj ns root with ⟨r,hr⟩|hno
  ·have hr1:r < ns.length:=hr.1
   refine af.region (gK 3 [(30,.slice A (ns.length) (c)),(31,.func (.func 82) #[] #[vP b2])] [(1,a_ 7 b1)] ?_)
   refine gL [8] (KL (β:=β) hr A c hG hB b2) ?_
   rintro _ _ ⟨rfl,rfl⟩
   refine gK 1 [(12,vI ↑r)] [] ?_
   refine NN (af.seq (SR (gK 2 [(34,.bool false)] [(1,p_ ⟨[],none,none,none,some (.bool false)⟩ [(Value.bool (decide ((((r:Nat):Int):Int) < (0:Int))))=(.bool false)] ⟨congrArg Value.bool (decide_eq_false (by omega)),trivial⟩)] ?_)))
   refine NN (CF (af.skip (NX (af.seq (SR (gK 7 [(41,.bool (!(decide (((nd ns r).kind:Int)=(2:Int)))))] [(1,a_ 8 b1),(3,p_ ⟨[],some r,none,some ⟨(ar A),aq A,none⟩,none⟩ [((r:Nat):Int)=((r:Nat):Int),r < ns.length,(⟨(ar A),aq A,none⟩:Addr).spot=none,(A:Option Addr)=some ⟨(ar A),aq A,none⟩] ⟨rfl,by omega,rfl,au.hd hG (i:=r) (by omega),trivial⟩),(5,p_ ⟨[.old (.int .i64 ((nd ns r).kind))],none,none,none,none⟩ [(Rd β ⟨(ar A),aq A+r * 10+1,none⟩ (.int .i64 ((nd ns r).kind)))] ⟨au.rd hG (i:=r) (by omega) (j:=1) rfl,trivial⟩)] ?_))))))
   refine NN (af.cY (p:=((nd ns r).kind:Int)=(2:Int)) (fun _=>by kernel_rfl) (fun Bk=>?_) (fun Bk=>?_))
   ·refine SR (gK 2 [(8,.pointer none),(9,vI 173)] [] ?_)
    refine NN (af.ret (ai.ak ?_))
    exact ai.oI (v:=.tuple #[.pointer none,vI 173]) (l:=[]) (bF:=[]) [] [7] hle0 (fun _=>by kernel_rfl) trivial rfl (by kernel_rfl) (.inl ⟨by rw [AV ny.1 ny.2 hr Bk];decide,by rw [AV ny.1 ny.2 hr Bk],rfl⟩)
   refine af.skip (NX (SR (aj.kW (d:=(some 42)) (t:=178) (fun _=>by kernel_rfl) Tryz.prog rfl 3 (fun m5=>?_))))
   refine gK 1 [(13,.map (some m5))] [] ?_
   refine NN (af.seq (SR (aj.dr 11 (p:=.abs (aL Tryz.prog 3 m5 (fun _=>none) 0)) (p':=.abs (aL Tryz.prog 3 m5 (fH AZ.none (xs.take 0)) 0)) (by kernel_rfl) (congrArg (fun f=>HP.abs (aL Tryz.prog 3 _ f 0)) Md.symm) ?_)))
   refine aj.mem (cL:=[rR b2 root,pF f m t N.1.X,pI m L N.1.idx,pT t N.1.X.cH N.1.av L N.1.us,pO N.1.O L,pD N.1.O L,pE N.1.O L,.abs R,qf b1 A ns c,qx b3 X,Dk b4 Af fs cf Aa xs ca,.abs (aL Tryz.prog 3 m5 (fH AZ.none (xs.take 0)) 0),.abs (ax (lQ AZ.none (xs.take 0)))]) (fun w hS=>hS.P7) ?_
   refine gK 4 (NU Aa xs ca++[(46,vI 0)]) [(1,a_ 10 b4)] ?_
   refine NN (af.block ?_)
   refine af.loop (ι:=Nat×AZ×Nat) (fun ((i,Z,an):Nat×AZ×Nat)=>(i<=xs.length)/\(an<=i)) (fun ((i,Z,an):Nat×AZ×Nat)=>xs.length - i) (fun ((i,Z,an):Nat×AZ×Nat)=>(QC b2 b4 f m5++NU Aa xs ca++[(46,vI ↑i)])) (fun ((i,Z,an):Nat×AZ×Nat)=>[rR b2 root,pF f m t N.1.X,pI m L N.1.idx,pT t N.1.X.cH N.1.av L N.1.us,pO N.1.O L,pD N.1.O L,pE N.1.O L,qf b1 A ns c,qx b3 X,Dk b4 Af fs cf Aa xs ca,Hj m5 Z xs i an,.abs (ax (lQ Z (xs.take i))),.abs R]) (0,AZ.none,0) (idx:=[5,7,10,13,44,45,46]) (pk:=[0,1,2,3,4,5,6,8,9,10,11,12,7]) (show (0<=xs.length)/\(0<=0) from ⟨Nat.zero_le _,Nat.le_refl _⟩) (fun _=>by kernel_rfl) rfl (by kernel_rfl) ?_
   rintro⟨i,Z,an⟩ ⟨hi,han⟩
   show af _ _ _ _ (QC b2 b4 f m5++NU Aa xs ca++[(46,vI ↑i)]) [rR b2 root,pF f m t N.1.X,pI m L N.1.idx,pT t N.1.X.cH N.1.av L N.1.us,pO N.1.O L,pD N.1.O L,pE N.1.O L,qf b1 A ns c,qx b3 X,Dk b4 Af fs cf Aa xs ca,Hj m5 Z xs i an,.abs (ax (lQ Z (xs.take i))),.abs R] _
   refine SR (gK 1 [(47,.bool (decide ((((i:Nat):Int):Int) < (((xs.length:Nat):Int):Int))))] [] ?_)
   refine NN (af.seq (af.bg (p:=(((i:Nat):Int):Int) < (((xs.length:Nat):Int):Int)) (fun _=>by kernel_rfl) (fun NV=>?_) (fun NV=>?_)))
   ·refine af.skip (NX (af.seq (af.block (SR ?_))))
    refine gN 4 (fun b6=>[(15,vP b6)]) (fun b6=>[(0,p_ ⟨[],some i,none,some ⟨(ar Aa),aq Aa,none⟩,none⟩ [((i:Nat):Int)=((i:Nat):Int),i < xs.length,(⟨(ar Aa),aq Aa,none⟩:Addr).spot=none,(Aa:Option Addr)=some ⟨(ar Aa),aq Aa,none⟩] ⟨rfl,by omega,rfl,DK hA (i:=i) (by omega),trivial⟩),(1,p_ ⟨[.old (.int .i64 ((act xs i).at_)),.old (.int .i64 ((act xs i).op)),.old (.string (act xs i).path),.old (.string (act xs i).to),.old (.string (act xs i).text)],none,none,none,none⟩ [(Rd β ⟨(ar Aa),aq Aa+i * 5+4,none⟩ (.string (act xs i).text)),(Rd β ⟨(ar Aa),aq Aa+i * 5+3,none⟩ (.string (act xs i).to)),(Rd β ⟨(ar Aa),aq Aa+i * 5+2,none⟩ (.string (act xs i).path)),(Rd β ⟨(ar Aa),aq Aa+i * 5+1,none⟩ (.int .i64 ((act xs i).op))),(Rd β ⟨(ar Aa),aq Aa+i * 5,none⟩ (.int .i64 ((act xs i).at_)))] ⟨j6 hA (i:=i) (by omega) (j:=4) rfl,j6 hA (i:=i) (by omega) (j:=3) rfl,j6 hA (i:=i) (by omega) (j:=2) rfl,j6 hA (i:=i) (by omega) (j:=1) rfl,j6 hA (i:=i) (by omega) (j:=0) rfl,trivial⟩),(3,A_ 13 b6 5)]) (fun _=>[]) (fun b6=>.blk b6 [vI ((act xs i).at_),vI ((act xs i).op),.string (act xs i).path,.string (act xs i).to,.string (act xs i).text] 41) (fun b6=>?_)
    refine NN (af.bR (S:=[Hj m5 Z xs i an,KM b6 xs i]) [0,1,2,3,4,5,6,7,8,9,10] 8 [10,13] (by kernel_rfl) (by kernel_rfl) rfl (by kernel_rfl) ?_)
    refine gR 2 [6,7,8,9,10] (QC b2 b4 f m5++[(15,vP b6)]++NU Aa xs ca++[(46,vI ↑i),(50,.map (some m5)),(52,vI ((act xs i).at_)),(53,.map (some m5)),(55,vI ((act xs i).at_))]) [0,1,2,3,4,5] [(2,a_ 1 b6),(5,a_ 1 b6)] ?_
    refine aK.d9 0 (d:=(some 56)) (t:=178) (K:=3) (E:=30) (b:=m5) (cnt:=an) (f:=(fH Z (xs.take i))) (x:=(.tmp 53)) (ix:=(.tmp 55)) (key:=.int .i64 ((act xs i).at_)) (z:=.slice none (0) (0)) (kl:=(Lit.int IntKind.i64 (act xs i).at_)) (q:=(fH Z (xs.take i) (Lit.int IntKind.i64 (act xs i).at_))) (by kernel_rfl) (by kernel_rfl) (fun _=>by kernel_rfl) (fun _=>by kernel_rfl) dX Tryz.underlying178 (fun _=>by kernel_rfl) (gJ (hab.at (by omega)).aw) (rfl) (by rw [zA];rfl) ?_
    refine gR 0 [8,9,10] [(5,vP b2),(7,vP b4),(10,vP f),(13,.map (some m5)),(44,.slice Aa (xs.length) (ca)),(45,vI ↑xs.length),(46,vI ↑i),(50,.map (some m5)),(52,vI ((act xs i).at_)),(56,((fH Z (xs.take i) (Lit.int IntKind.i64 (act xs i).at_)).getD (.slice none 0 0))),(57,.agg #[vI ((act xs i).at_),vI ((act xs i).op),.string (act xs i).path,.string (act xs i).to,.string (act xs i).text])] [7] [(0,A_ 1 b6 5)] ?_
    refine mN [10,13] (fun b7=>[(58,.slice (some ⟨b7,0,none⟩) (1) (1))]) (fun _=>[]) (fun b7=>.blk b7 [vI ((act xs i).at_),vI ((act xs i).op),.string (act xs i).path,.string (act xs i).to,.string (act xs i).text] 41) (fun b7=>?_)
    refine aK.cut (ι:=(Option Addr)×Nat) (fr':=fun ((A8,c9):(Option Addr)×Nat)=>[(5,vP b2),(7,vP b4),(10,vP f),(13,.map (some m5)),(44,.slice Aa (xs.length) (ca)),(45,vI ↑xs.length),(46,vI ↑i),(50,.map (some m5)),(52,vI ((act xs i).at_)),(59,.slice A8 (((bO (xs.take i) (act xs i).at_).length+1)) (c9))]) (hp':=fun ((A8,c9):(Option Addr)×Nat)=>[rR b2 root,pF f m t N.1.X,pI m L N.1.idx,pT t N.1.X.cH N.1.av L N.1.us,pO N.1.O L,pD N.1.O L,pE N.1.O L,qf b1 A ns c,qx b3 X,Dk b4 Af fs cf Aa xs ca,Hj m5 Z xs i an,.abs (ax (jU (lQ Z (xs.take i)) (zz (act xs i).at_) cA.none)),.abs R,KM b6 xs i,KM b7 xs i,.abs (aE 41 5 A8 ((bO (xs.take i) (act xs i).at_).length+1) c9 (bq dS (bO (xs.take i) (act xs i).at_)++dS (act xs i)))]) [10,13] rfl rfl ?_ rfl (fun _=>by kernel_rfl) ?_
    ·refine aj.slot 56 (((fH Z (xs.take i) (Lit.int IntKind.i64 (act xs i).at_)).getD (.slice none 0 0))) (.slice (aA Z (xs.take i) (act xs i).at_) ((bO (xs.take i) (act xs i).at_).length) ((aC Z (xs.take i) (act xs i).at_))) (fun _=>by kernel_rfl) (zA) ?_
     refine aj.mem (cL:=[rR b2 root,pF f m t N.1.X,pI m L N.1.idx,pT t N.1.X.cH N.1.av L N.1.us,pO N.1.O L,pD N.1.O L,pE N.1.O L,qf b1 A ns c,qx b3 X,Dk b4 Af fs cf Aa xs ca,Hj m5 Z xs i an,.abs (ax (jU (lQ Z (xs.take i)) (zz (act xs i).at_) cA.none)),.abs R,KM b6 xs i,KM b7 xs i,.abs (aE 41 5 (aA Z (xs.take i) (act xs i).at_) ((bO (xs.take i) (act xs i).at_).length) (aC Z (xs.take i) (act xs i).at_) (bq dS (bO (xs.take i) (act xs i).at_)))]) (fun w hS=>hS.OB (i:=11) rfl (act xs i).at_) ?_
     have V2:(bO (xs.take i) (act xs i).at_).length<=1048576:=Nat.le_trans (AF _) (by rw [List.length_take];omega)
     refine aj.append 15 (d:=(some 59)) (t:=30) (e:=41) (z:=.agg #[vI 0,vI 0,.string ⟨#[]⟩,.string ⟨#[]⟩,.string ⟨#[]⟩]) (size:=5) (bytes:=64) (n:=(bO (xs.take i) (act xs i).at_).length) (cap:=(aC Z (xs.take i) (act xs i).at_)) (A:=(aA Z (xs.take i) (act xs i).at_)) (xs:=(bq dS (bO (xs.take i) (act xs i).at_))) (s:=(.tmp 56)) (x:=(.tmp 58)) (ats:=#[30,30]) (A':=some ⟨b7,0,none⟩) (m:=1) (c':=1) (news:=[vI ((act xs i).at_),vI ((act xs i).op),.string (act xs i).path,.string (act xs i).to,.string (act xs i).text]) (fun _=>by kernel_rfl) rfl (by kernel_rfl) (fun _=>by kernel_rfl) (fun _=>by kernel_rfl) Tryz.underlying30 (by kernel_rfl) rfl (by decide) (rfl) (by simp [Value.oneCell']) (j8 (j:=14) rfl) (by unfold maxLen;omega) (by omega) (fun A8 c9=>?_)
     refine aj.dr 15 (p:=.abs (aE 41 5 A8 (((bO (xs.take i) (act xs i).at_).length)+1) c9 ((bq dS (bO (xs.take i) (act xs i).at_))++[vI ((act xs i).at_),vI ((act xs i).op),.string (act xs i).path,.string (act xs i).to,.string (act xs i).text]))) (p':=.abs (aE 41 5 A8 ((bO (xs.take i) (act xs i).at_).length+1) c9 (bq dS (bO (xs.take i) (act xs i).at_)++dS (act xs i)))) (by kernel_rfl) (rfl) ?_
     refine aj.slot 59 (.slice A8 (((bO (xs.take i) (act xs i).at_).length)+1) (c9)) (.slice A8 (((bO (xs.take i) (act xs i).at_).length+1)) (c9)) (fun _=>by kernel_rfl) (rfl) ?_
     refine NL ?_
     exact MD (A8,c9) [5,7,10,13,44,45,46,50,52,59] [0,1,2,3,4,5,6,7,8,9,10,11,12,13,14,15]
    rintro⟨A8,c9⟩
    refine aK.last rfl rfl ?_
    refine aj.mem (cL:=[.abs (ax (lQ (Z.put (act xs i).at_ A8 c9) (xs.take (i+1)))),.blk b2 [vI (root)] 3,.blk f [vI (N.1.X.cN),vI (N.1.X.cB),vI (N.1.X.cH),vI (N.1.X.cS),vI (N.1.X.cZ),.map (some m),vP t,vI (N.1.X.last),vI (N.1.X.ah),vI (N.1.X.used)] 126,.abs (aL Tryz.prog 3 m (bh (bn L N.1.idx)) N.1.idx.length),.abs (cM 197 t N.1.X.cH N.1.av (bn L N.1.us)),.abs (ax (bM N.1.O L)),.abs (ax (bN N.1.O L)),.abs (ax (cG N.1.O L)),.blk b1 [.slice A (ns.length) (c)] 24,.blk b3 [vI (X.cN),vI (X.cB),vI (X.cH),vI (X.cS),vI (X.cZ)] 28,.blk b4 [.slice Af (fs.length) (cf),.slice Aa (xs.length) (ca)] 32,.abs (aL Tryz.prog 3 m5 (fH Z (xs.take i)) an),.abs R,.blk b6 [vI ((act xs i).at_),vI ((act xs i).op),.string (act xs i).path,.string (act xs i).to,.string (act xs i).text] 41,.blk b7 [vI ((act xs i).at_),vI ((act xs i).op),.string (act xs i).path,.string (act xs i).to,.string (act xs i).text] 41]) (fun w hS=>by rw [uY (by omega)];exact hS.P8 (i:=11) (j:=15) (idx:=[0,1,2,3,4,5,6,7,8,9,10,12,13,14]) rfl rfl (by kernel_rfl) rfl) ?_
    refine aj.j7 11 (d:=none) (t:=178) (K:=3) (E:=30) (b:=m5) (n:=an) (f:=(fH Z (xs.take i))) (x:=(.tmp 50)) (ix:=(.tmp 52)) (y:=(.tmp 59)) (key:=.int .i64 ((act xs i).at_)) (u:=.slice A8 (((bO (xs.take i) (act xs i).at_).length+1)) (c9)) (kl:=(Lit.int IntKind.i64 (act xs i).at_)) (n':=(if (fH Z (xs.take i) (Lit.int IntKind.i64 (act xs i).at_)).isSome then an else an+1)) (f':=(fH (Z.put (act xs i).at_ A8 c9) (xs.take (i+1)))) (fun _=>by kernel_rfl) (by kernel_rfl) (fun _=>by kernel_rfl) (fun _=>by kernel_rfl) (fun _=>by kernel_rfl) dX Tryz.underlying178 (by unfold maxLen;omega) (gJ (hab.at (by omega)).aw) (rfl) (by rw [uY (by omega)];exact Me) ?_
    refine NL (ai.np (ai.aJ (NX (af.region ?_))))
    refine gK 2 [(46,vI ↑(i+1))] [(0,p_ ⟨[],none,none,none,some (vI ↑(i+1))⟩ [(Value.int .i64 (IntKind.wrap .i64 (((i:Nat):Int)+1)))=(.int .i64 ↑(i+1))] ⟨bw (by omega) (by omega) (by omega),trivial⟩)] ?_
    refine NL ?_
    exact ai.turn ((i+1),(Z.put (act xs i).at_ A8 c9),(if (fH Z (xs.take i) (Lit.int IntKind.i64 (act xs i).at_)).isSome then an else an+1)) (idx:=[5,7,10,13,44,45,46]) (pk:=[1,2,3,4,5,6,7,8,9,10,11,0,12]) (show (((i+1))<=xs.length)/\(((if (fH Z (xs.take i) (Lit.int IntKind.i64 (act xs i).at_)).isSome then an else an+1))<=((i+1))) from ⟨by omega,by split<;>omega⟩) (by show xs.length - ((i+1)) < xs.length - i;omega) (fun _=>by kernel_rfl) rfl (by kernel_rfl)
   refine af.exit (ai.aX (ai.aX (ai.cV (NX (SR ?_)))))
   refine aj.kQ (Φ:=fun β'=>jF β' Z xs) 11 [0,1,2,3,4,5,6,7,8,9,10,12] (cL:=[rR b2 root,pF f m t N.1.X,pI m L N.1.idx,pT t N.1.X.cH N.1.av L N.1.us,pO N.1.O L,pD N.1.O L,pE N.1.O L,qf b1 A ns c,qx b3 X,Dk b4 Af fs cf Aa xs ca,Hj m5 Z xs i an,.abs R]) rfl rfl (by kernel_rfl) (fun F w h β' h1 h2=>jF.of (by rw [show xs.take i=xs by rw [show i=xs.length by omega,List.take_length]] at h;exact h) h1 h2) (fun Fq iw hZ=>?_)
   replace hG:=hG.le iw
   replace hA:=hA.le iw
   replace hF:=hF.le iw
   replace hle0:=hle0.trans iw
   refine aj.dr 10 (p:=.abs (aL Tryz.prog 3 m5 (fH Z (xs.take i)) an)) (p':=.abs (aL Tryz.prog 3 m5 (fH Z xs) an)) (by kernel_rfl) (by rw [show xs.take i=xs by rw [show i=xs.length by omega,List.take_length]]) ?_
   refine aj.kW (d:=(some 61)) (t:=179) (fun _=>by kernel_rfl) Tryz.prog rfl 3 (fun m11=>?_)
   refine gK 1 [(16,.map (some m11))] [] ?_
   refine NN (af.seq (SR (aj.dr 12 (p:=.abs (aL Tryz.prog 3 m11 (fun _=>none) 0)) (p':=.abs (aL Tryz.prog 3 m11 (d8 (fs.take 0)) 0)) (by kernel_rfl) (congrArg (fun f=>HP.abs (aL Tryz.prog 3 _ f 0)) Ke.symm) ?_)))
   refine gK 4 [(63,.slice Af (fs.length) (cf)),(64,vI ↑fs.length),(65,vI 0)] [(1,a_ 9 b4)] ?_
   refine NN (af.block ?_)
   refine af.loop (ι:=Nat×Nat) (fun ((j,kn):Nat×Nat)=>(j<=fs.length)/\(kn<=j)) (fun ((j,kn):Nat×Nat)=>fs.length - j) (fun ((j,kn):Nat×Nat)=>(SD b2 f m5 m11 Af fs cf j)) (fun ((j,kn):Nat×Nat)=>[rR b2 root,pF f m t N.1.X,pI m L N.1.idx,pT t N.1.X.cH N.1.av L N.1.us,pO N.1.O L,pD N.1.O L,pE N.1.O L,qf b1 A ns c,qx b3 X,Dk b4 Af fs cf Aa xs ca,.abs (aL Tryz.prog 3 m5 (fH Z xs) an),.abs (aL Tryz.prog 3 m11 (d8 (fs.take j)) kn),.abs R]) (0,0) (idx:=[5,10,13,16,63,64,65]) (pk:=[0,1,2,3,4,5,6,7,8,9,10,12,11]) (show (0<=fs.length)/\(0<=0) from ⟨Nat.zero_le _,Nat.le_refl _⟩) (fun _=>by kernel_rfl) rfl (by kernel_rfl) ?_
   rintro⟨j,kn⟩ ⟨hj,hkn⟩
   show af _ _ _ _ (SD b2 f m5 m11 Af fs cf j) [rR b2 root,pF f m t N.1.X,pI m L N.1.idx,pT t N.1.X.cH N.1.av L N.1.us,pO N.1.O L,pD N.1.O L,pE N.1.O L,qf b1 A ns c,qx b3 X,Dk b4 Af fs cf Aa xs ca,.abs (aL Tryz.prog 3 m5 (fH Z xs) an),.abs (aL Tryz.prog 3 m11 (d8 (fs.take j)) kn),.abs R] _
   refine SR (gK 1 [(66,.bool (decide ((((j:Nat):Int):Int) < (((fs.length:Nat):Int):Int))))] [] ?_)
   refine NN (af.seq (af.bg (p:=(((j:Nat):Int):Int) < (((fs.length:Nat):Int):Int)) (fun _=>by kernel_rfl) (fun zZ=>?_) (fun zZ=>?_)))
   ·refine af.skip (NX (af.seq (af.block (SR ?_))))
    refine gN 4 (fun b12=>[(18,vP b12)]) (fun b12=>[(0,p_ ⟨[],some j,none,some ⟨(ar Af),aq Af,none⟩,none⟩ [((j:Nat):Int)=((j:Nat):Int),j < fs.length,(⟨(ar Af),aq Af,none⟩:Addr).spot=none,(Af:Option Addr)=some ⟨(ar Af),aq Af,none⟩] ⟨rfl,by omega,rfl,Rv hF (i:=j) (by omega),trivial⟩),(1,p_ ⟨[.old (.int .i64 ((jB fs j).at_)),.old (.int .i64 ((jB fs j).kind))],none,none,none,none⟩ [(Rd Fq ⟨(ar Af),aq Af+j * 2+1,none⟩ (.int .i64 ((jB fs j).kind))),(Rd Fq ⟨(ar Af),aq Af+j * 2,none⟩ (.int .i64 ((jB fs j).at_)))] ⟨Nn hF (i:=j) (by omega) (j:=1) rfl,Nn hF (i:=j) (by omega) (j:=0) rfl,trivial⟩),(3,A_ 13 b12 2)]) (fun _=>[]) (fun b12=>.blk b12 [vI ((jB fs j).at_),vI ((jB fs j).kind)] 39) (fun b12=>?_)
    refine NS (gK 4 [(72,.bool (decide (((jB fs j).kind:Int) ≥ (1:Int))))] [(1,a_ 13 b12)] ?_)
    refine aj.fR 72 (((jB fs j).kind:Int) ≥ (1:Int)) (fun _=>by kernel_rfl) (fun UH=>?_) (fun UH=>?_)
    ·refine gK 5 [(77,.bool (decide (((jB fs j).kind:Int)<=(3:Int))))] [(1,a_ 13 b12)] ?_
     refine aj.fR 77 (((jB fs j).kind:Int)<=(3:Int)) (fun _=>by kernel_rfl) (fun UI=>?_) (fun UI=>?_)
     ·refine gK 3 [(78,.map (some m11)),(80,vI ((jB fs j).at_))] [(2,a_ 13 b12)] ?_
      refine aj.d9 11 (d:=(some 81)) (t:=179) (K:=3) (E:=3) (b:=m11) (n:=kn) (f:=(d8 (fs.take j))) (x:=(.tmp 78)) (ix:=(.tmp 80)) (key:=.int .i64 ((jB fs j).at_)) (z:=.int .i64 0) (kl:=(Lit.int IntKind.i64 (jB fs j).at_)) (r:=(d8 (fs.take j) (Lit.int IntKind.i64 (jB fs j).at_))) (fun _=>by kernel_rfl) (by kernel_rfl) (fun _=>by kernel_rfl) (fun _=>by kernel_rfl) dX Tryz.underlying179 (fun _=>by kernel_rfl) (gJ (kS.at (by omega))) (rfl) ?_
      refine aj.slot 81 (((d8 (fs.take j) (Lit.int IntKind.i64 (jB fs j).at_)).getD (.int .i64 0))) (.int .i64 ((gh (fs.take j) (jB fs j).at_))) (fun _=>by kernel_rfl) (Da) ?_
      refine gK 2 [(83,.bool (decide (((gh (fs.take j) (jB fs j).at_):Int)=(0:Int))))] [] ?_
      refine NN (af.bg (p:=((gh (fs.take j) (jB fs j).at_):Int)=(0:Int)) (fun _=>by kernel_rfl) (fun UJ=>?_) (fun UJ=>?_))
      ·refine af.region (gK 5 [(84,.map (some m11)),(86,vI ((jB fs j).at_)),(88,vI ((jB fs j).kind))] [(2,a_ 13 b12),(4,a_ 13 b12)] ?_)
       refine aj.j7 11 (d:=none) (t:=179) (K:=3) (E:=3) (b:=m11) (n:=kn) (f:=(d8 (fs.take j))) (x:=(.tmp 84)) (ix:=(.tmp 86)) (y:=(.tmp 88)) (key:=.int .i64 ((jB fs j).at_)) (u:=.int .i64 ((jB fs j).kind)) (kl:=(Lit.int IntKind.i64 (jB fs j).at_)) (n':=(if (d8 (fs.take j) (Lit.int IntKind.i64 (jB fs j).at_)).isSome then kn else kn+1)) (f':=(d8 (fs.take (j+1)))) (fun _=>by kernel_rfl) (by kernel_rfl) (fun _=>by kernel_rfl) (fun _=>by kernel_rfl) (fun _=>by kernel_rfl) dX Tryz.underlying179 (by unfold maxLen;omega) (gJ (kS.at (by omega))) (rfl) (by rw [uZ (by omega)];exact Kf ⟨by omega,by omega⟩ (by omega)) ?_
       refine NL (ai.aJ (NX (af.region ?_)))
       refine gK 2 [(65,vI ↑(j+1))] [(0,p_ ⟨[],none,none,none,some (vI ↑(j+1))⟩ [(Value.int .i64 (IntKind.wrap .i64 (((j:Nat):Int)+1)))=(.int .i64 ↑(j+1))] ⟨bw (by omega) (by omega) (by omega),trivial⟩)] ?_
       refine NL ?_
       exact ai.turn ((j+1),(if (d8 (fs.take j) (Lit.int IntKind.i64 (jB fs j).at_)).isSome then kn else kn+1)) (idx:=[5,10,13,16,63,64,65]) (pk:=[0,1,2,3,4,5,6,7,8,9,10,11,12]) (show (((j+1))<=fs.length)/\(((if (d8 (fs.take j) (Lit.int IntKind.i64 (jB fs j).at_)).isSome then kn else kn+1))<=((j+1))) from ⟨by omega,by split<;>omega⟩) (by show fs.length - ((j+1)) < fs.length - j;omega) (fun _=>by kernel_rfl) rfl (by kernel_rfl)
      refine af.skip (ai.aJ (NX (af.region ?_)))
      refine aj.dr 11 (p:=.abs (aL Tryz.prog 3 m11 (d8 (fs.take j)) kn)) (p':=.abs (aL Tryz.prog 3 m11 (d8 (fs.take (j+1))) kn)) (by kernel_rfl) (by rw [uZ (by omega),uX];unfold FK;omega) ?_
      refine gK 2 [(65,vI ↑(j+1))] [(0,p_ ⟨[],none,none,none,some (vI ↑(j+1))⟩ [(Value.int .i64 (IntKind.wrap .i64 (((j:Nat):Int)+1)))=(.int .i64 ↑(j+1))] ⟨bw (by omega) (by omega) (by omega),trivial⟩)] ?_
      refine NL ?_
      exact ai.turn ((j+1),kn) (idx:=[5,10,13,16,63,64,65]) (pk:=[0,1,2,3,4,5,6,7,8,9,10,11,12]) (show (((j+1))<=fs.length)/\(kn<=((j+1))) from ⟨by omega,by omega⟩) (by show fs.length - ((j+1)) < fs.length - j;omega) (fun _=>by kernel_rfl) rfl (by kernel_rfl)
     refine gK 4 [(81,undef)] [] ?_
     refine gK 2 [(83,.bool false)] [] ?_
     refine NN (CF (af.skip (ai.aJ (NX (af.region ?_)))))
     refine aj.dr 11 (p:=.abs (aL Tryz.prog 3 m11 (d8 (fs.take j)) kn)) (p':=.abs (aL Tryz.prog 3 m11 (d8 (fs.take (j+1))) kn)) (by kernel_rfl) (by rw [uZ (by omega),uX];unfold FK;omega) ?_
     refine gK 2 [(65,vI ↑(j+1))] [(0,p_ ⟨[],none,none,none,some (vI ↑(j+1))⟩ [(Value.int .i64 (IntKind.wrap .i64 (((j:Nat):Int)+1)))=(.int .i64 ↑(j+1))] ⟨bw (by omega) (by omega) (by omega),trivial⟩)] ?_
     refine NL ?_
     exact ai.turn ((j+1),kn) (idx:=[5,10,13,16,63,64,65]) (pk:=[0,1,2,3,4,5,6,7,8,9,10,11,12]) (show (((j+1))<=fs.length)/\(kn<=((j+1))) from ⟨by omega,by omega⟩) (by show fs.length - ((j+1)) < fs.length - j;omega) (fun _=>by kernel_rfl) rfl (by kernel_rfl)
    refine gK 9 [(77,.bool false),(81,undef)] [] ?_
    refine gK 2 [(83,.bool false)] [] ?_
    refine NN (CF (af.skip (ai.aJ (NX (af.region ?_)))))
    refine aj.dr 11 (p:=.abs (aL Tryz.prog 3 m11 (d8 (fs.take j)) kn)) (p':=.abs (aL Tryz.prog 3 m11 (d8 (fs.take (j+1))) kn)) (by kernel_rfl) (by rw [uZ (by omega),uX];unfold FK;omega) ?_
    refine gK 2 [(65,vI ↑(j+1))] [(0,p_ ⟨[],none,none,none,some (vI ↑(j+1))⟩ [(Value.int .i64 (IntKind.wrap .i64 (((j:Nat):Int)+1)))=(.int .i64 ↑(j+1))] ⟨bw (by omega) (by omega) (by omega),trivial⟩)] ?_
    refine NL ?_
    exact ai.turn ((j+1),kn) (idx:=[5,10,13,16,63,64,65]) (pk:=[0,1,2,3,4,5,6,7,8,9,10,11,12]) (show (((j+1))<=fs.length)/\(kn<=((j+1))) from ⟨by omega,by omega⟩) (by show fs.length - ((j+1)) < fs.length - j;omega) (fun _=>by kernel_rfl) rfl (by kernel_rfl)
   refine af.exit (ai.aX (ai.aX (ai.cV (NX (SR ?_)))))
   refine aj.dr 11 (p:=.abs (aL Tryz.prog 3 m11 (d8 (fs.take j)) kn)) (p':=.abs (aL Tryz.prog 3 m11 (d8 fs) kn)) (by kernel_rfl) (by rw [show fs.take j=fs by rw [show j=fs.length by omega,List.take_length]]) ?_
   refine gN 5 (fun b13=>[(19,vP b13)]) (fun b13=>[(1,a_ 0 b2)]) (fun _=>[]) (fun b13=>.blk b13 [.nilIface,vP f,.nilIface,vI (root),.slice none (0) (0)] 93) (fun b13=>?_)
   refine NS (gN 11 (fun b14=>[(94,vP b13),(104,.agg #[.iface 181 (vP b14),vP f,vI (root),.map (some m5),vI 0])]) (fun b14=>[(8,a_ 0 b2)]) (fun _=>[]) (fun b14=>.blk b14 [.iface 54 (vP f),.map (some m11),vI 0] 183) (fun b14=>?_))
   refine gN 5 (fun _=>[]) (fun b15=>[(4,a_ 13 b13)]) (fun b15=>[(13,[(2,.iface 180 (vP b15))])]) (fun b15=>.blk b15 [.iface 181 (vP b14),vP f,vI (root),.map (some m5),vI 0] 185) (fun b15=>?_)
   refine NS (gK 3 [(109,vP b13),(111,.iface 42 (vP b13))] [] ?_)
   refine gL [] (Qd b13) ?_
   rintro _ _ ⟨rfl,rfl⟩
   refine gC 3 [] [(2,a_ 13 b13)] [(13,[(0,.iface 42 (vP b13))])] ?_
   refine NS (gK 3 [(8,vP b13),(9,vI 0)] [] ?_)
   refine NN (af.ret (ai.mem (fun w hS=>hS.jL (e:=48) (size:=13)) ?_))
   exact ai.oI (v:=.tuple #[vP b13,vI 0]) (l:=(SE b13 f b15 root b14 m5 m11 Z xs an fs kn++[pF f m t N.1.X,pI m L N.1.idx,pT t N.1.X.cH N.1.av L N.1.us,pO N.1.O L,pD N.1.O L,pE N.1.O L])) (bF:=[]) [] [13,15,14,10,11,16,1,2,3,4,5,6,12] hle0 (fun _=>by kernel_rfl) trivial rfl (by kernel_rfl) (.inr ⟨AU ny.1 ny.2 hr Bk,N,L,b13,b15,b14,f,m,t,m5,an,m11,kn,Z,rfl,rfl,hZ⟩)
  refine af.region (gK 3 [(30,.slice A (ns.length) (c)),(31,.func (.func 82) #[] #[vP b2])] [(1,a_ 7 b1)] ?_)
  refine gL [8] (MR (β:=β) hno A c hG hB b2) ?_
  rintro _ _ ⟨rfl,rfl⟩
  refine gK 1 [(12,vI (-1))] [] ?_
  refine NN (af.seq (SR (gK 2 [(34,.bool true)] [] ?_)))
  refine NN (CT (SR (gK 2 [(8,.pointer none),(9,vI 141)] [] ?_)))
  refine NN (af.ret (ai.ak ?_))
  exact ai.oI (v:=.tuple #[.pointer none,vI 141]) (l:=[]) (bF:=[]) [] [7] hle0 (fun _=>by kernel_rfl) trivial rfl (by kernel_rfl) (.inl ⟨by rw [yG ny.1 ny.2 hno];decide,by rw [yG ny.1 ny.2 hno],rfl⟩)
 refine af.region (gK 2 [(21,.agg #[.slice A (ns.length) (c)]),(22,.agg #[vI (X.cN),vI (X.cB),vI (X.cH),vI (X.cS),vI (X.cZ)])] [(0,a_ 1 b1),(1,A_ 3 b3 5)] ?_)
 refine gL [] (MP (β:=β) (root:=root) ny A c hG hB) ?_
 rintro _ _ ⟨rfl,rfl⟩
 refine gK 5 [(10,.pointer none),(11,vI ((cX X ns root)))] [] ?_
 refine NN (af.seq (SR (gK 2 [(27,.bool (!(decide (((cX X ns root):Int)=(0:Int)))))] [] ?_)))
 refine NN (af.cY (p:=((cX X ns root):Int)=(0:Int)) (fun _=>by kernel_rfl) (fun NW=>?_) (fun NW=>?_))
 ·refine SR (gK 3 [(8,.pointer none),(9,vI ((cX X ns root)))] [] ?_)
  refine NN (af.ret (ai.ak ?_))
  exact ai.oI (v:=.tuple #[.pointer none,vI ((cX X ns root))]) (l:=[]) (bF:=[]) [] [0] hle0 (fun _=>by kernel_rfl) trivial rfl (by kernel_rfl) (.inl ⟨Bp ny,rfl,rfl⟩)
 exact absurd NW (Bp ny)
end
section
open Go.RowKit Go.Maps bL aB
attribute [local irreducible] aj aP af ai
noncomputable abbrev SF (w) (f:Nat) (o) (root) (tA) (tr:List aD) (tC):=(.blk w [.iface 42 (vP w),vP f,.iface 180 (vP o),vI (root),.slice tA (tr.length) (tC)] 93:HP)
noncomputable abbrev UK (o) (q) (f:Nat) (root) (am) (tr:List aD):=(.blk o [.iface 181 (vP q),vP f,vI (root),.map (some am),vI (((tr.length:Nat):Int))] 185:HP)
noncomputable abbrev UL (q) (f:Nat) (km) (tr:List aD):=(.blk q [.iface 54 (vP f),.map (some km),vI (((tr.length:Nat):Int))] 183:HP)
noncomputable abbrev SG (am) (Z) (xs) (an):=(.abs (aL Tryz.prog 3 am (fH Z xs) an):HP)
noncomputable abbrev SH (km) (fs) (kn):=(.abs (aL Tryz.prog 3 km (d8 fs) kn):HP)
noncomputable abbrev SI (tA) (tr:List aD) (tC):=(.abs (aE 48 13 tA tr.length tC (bq bT tr)):HP)
noncomputable abbrev Hl (w) (f:Nat) (o) (root) (tA) (tr) (tC) (q) (am) (km) (Z) (xs) (an) (fs) (kn) (m:Nat) (t) (S:aG) (L:HL):=([SF w f o root tA tr tC,UK o q f root am tr,UL q f km tr,SG am Z xs an,SH km fs kn,SI tA tr tC,pF f m t S.X,pI m L S.idx,jQ t S L,pO S.O L,pD S.O L,pE S.O L]:List HP)
theorem I9 {β:Bs} (S:aG) (L:HL) (w o q f m t am an km kn:Nat) (Z:AZ) (fs:List aZ) (xs:List cQ) (root:Int) (tr:List aD) (tA:Option Addr) (tC:Nat)  :
    Spec Tryz.prog β 49 #[vP w] (Hl w f o root tA tr tC q am km Z xs an fs kn m t S L) (fun v l=>v=vI (tr.length:Int)/\l=(Hl w f o root tA tr tC q am km Z xs an fs kn m t S L)):=by
 refine Spec.enter Tryz.func49 rfl Tryz.ntmps49 (Nat.le_of_ble_eq_true rfl) (fun R=>?_)
 refine SR (gK 1 [] [] ?_)
 refine NS (gK 6 [(2,vI ↑tr.length)] [(3,a_ 0 w)] ?_)
 refine NN (af.ret ?_)
 exact RT (vI ↑tr.length) [0,1,2,3,4,5,6,7,8,9,10,11,12] (⟨rfl,rfl⟩)
theorem KN {β:Bs} (S:aG) (L:HL) (w o q f m t am an km kn:Nat) (Z:AZ) (fs:List aZ) (xs:List cQ) (root:Int) (tr:List aD) (tA:Option Addr) (tC:Nat)  :
    Spec Tryz.prog β 19 #[vP w] (Hl w f o root tA tr tC q am km Z xs an fs kn m t S L) (fun v l=>v=vI (S.us.length:Int)/\l=(Hl w f o root tA tr tC q am km Z xs an fs kn m t S L)):=by
 refine Spec.enter Tryz.func19 rfl Tryz.ntmps19 (Nat.le_of_ble_eq_true rfl) (fun R=>?_)
 refine SR (gK 1 [] [] ?_)
 refine NS (gK 4 [(6,vP f)] [(3,a_ 0 w)] ?_)
 refine gL [6,8] (KJ S L f m t) ?_
 rintro _ _ ⟨Ah,ch,rfl,rfl⟩
 refine gK 2 [(2,vI ↑S.us.length)] [] ?_
 refine NN (af.ret ?_)
 exact RT (vI ↑S.us.length) [3,4,5,6,7,8,0,9,1,10,11,12,13] (⟨rfl,rfl⟩)
theorem Ja {β:Bs} (S:aG) (L:HL) (w o q f m t am an km kn:Nat) (Z:AZ) (fs:List aZ) (xs:List cQ) (root:Int) (tr:List aD) (tA:Option Addr) (tC:Nat) (hI:Inv S) :
    Spec Tryz.prog β 18 #[vP w] (Hl w f o root tA tr tC q am km Z xs an fs kn m t S L) (fun v l=>∃ A cp K,v=.agg #[.slice A (aO S).length cp]/\l=(Hl w f o root tA tr tC q am km Z xs an fs kn m t S L)++[.abs (aE 70 10 A (aO S).length cp (dx K (aO S))),.abs (iD (jY (aO S) K) (aO S).length),.abs (iD (jZ (aO S) K) (aO S).length)]):=by
 refine Spec.enter Tryz.func18 rfl Tryz.ntmps18 (Nat.le_of_ble_eq_true rfl) (fun R=>?_)
 refine SR (gN 1 (fun b1=>[(2,vP b1)]) (fun _=>[]) (fun _=>[]) (fun b1=>.blk b1 [.slice none (0) (0)] 24) (fun b1=>?_))
 refine NS (gK 4 [(6,vP f)] [(3,a_ 0 w)] ?_)
 refine gL [6,7,9,10,11] (KF S L f m t hI) ?_
 rintro _ _ ⟨Ao,cp,K,rfl,rfl⟩
 refine gC 1 [] [(0,a_ 16 b1)] [(16,[(0,.slice Ao ((aO S).length) (cp))])] ?_
 refine NN (af.ret ?_)
 exact ai.ret (v:=.agg #[.slice Ao ((aO S).length) (cp)]) (l:=[SF w f o root tA tr tC,.blk o [.iface 181 (vP q),vP f,vI (root),.map (some am),vI ↑tr.length] 185,.blk q [.iface 54 (vP f),.map (some km),vI ↑tr.length] 183,SG am Z xs an,SH km fs kn,SI tA tr tC,pF f m t S.X,pI m L S.idx,jQ t S L,pO S.O L,pD S.O L,pE S.O L,.abs (aE 70 10 Ao ((aO S).length) cp (dx K (aO S))),.abs (iD (jY (aO S) K) (aO S).length),.abs (iD (jZ (aO S) K) (aO S).length)]) (bF:=[b1=b1]) [.at 16] [8,9,10,11,12,13,0,1,14,2,3,4,5,6,7,15] (fun _=>by kernel_rfl) ⟨rfl,trivial⟩ rfl (by kernel_rfl) (⟨Ao,cp,K,rfl,rfl⟩)
theorem vO {β:Bs} (Af:Option Addr) (cf:Nat) (fs:List aZ) (hF:cP β Af (bq dL fs)) (hfl:fs.length<=2097152) (Aa:Option Addr) (ca:Nat) (xs:List cQ) (hA:cP β Aa (bq dS xs)) (hxl:xs.length<=2097152) :
    Spec Tryz.prog β 29 #[.agg #[.slice Af (fs.length) (cf),.slice Aa (xs.length) (ca)]] [] (fun v l=>∃ B b C c,v=.agg #[.slice B fs.length b,.slice C xs.length c]/\l=[.abs (aE 39 2 B fs.length b (bq dL fs)),.abs (aE 41 5 C xs.length c (bq dS xs))]):=by
 refine Spec.enter Tryz.func29 rfl Tryz.ntmps29 (Nat.le_of_ble_eq_true rfl) (fun R=>?_)
 refine SR (gN 1 (fun b2=>[(1,vP b2)]) (fun _=>[]) (fun _=>[]) (fun b2=>.blk b2 [.slice Af (fs.length) (cf),.slice Aa (xs.length) (ca)] 32) (fun b2=>?_))
 refine gN 1 (fun b3=>[(2,vP b3)]) (fun _=>[]) (fun _=>[]) (fun b3=>.blk b3 [.slice none (0) (0),.slice none (0) (0)] 32) (fun b3=>?_)
 refine NS (gN 2 (fun b4=>[(3,.slice (some ⟨b4,0,none⟩) (0) (0))]) (fun _=>[]) (fun _=>[]) (fun b4=>.blk b4 [] 39) (fun b4=>?_))
 refine NS (aj.mem (fun w hS=>hS.nP (i:=3) (b:=b4) (cs:=[]) (e:=39) 2 0 (by kernel_rfl) rfl (by decide)) ?_)
 refine gK 3 [(6,.slice (some ⟨b4,0,none⟩) (0) (0)),(8,.slice Af (fs.length) (cf))] [(2,a_ 1 b2)] ?_
 refine aj.append 3 (d:=(some 9)) (t:=29) (e:=39) (z:=.agg #[vI 0,vI 0]) (size:=2) (bytes:=16) (n:=0) (cap:=0) (A:=some ⟨b4,0,none⟩) (xs:=[]) (s:=(.tmp 6)) (x:=(.tmp 8)) (ats:=#[29,29]) (A':=Af) (m:=fs.length) (c':=cf) (news:=(bq dL fs)) (fun _=>by kernel_rfl) rfl (by kernel_rfl) (fun _=>by kernel_rfl) (fun _=>by kernel_rfl) Tryz.underlying29 (by kernel_rfl) rfl (by decide) (wQ (f:=dL) (s:=2) (fun _=>rfl) _) (pP (AO) _ _) (hF.src) (by unfold maxLen;omega) (by omega) (fun A5 c6=>?_)
 refine aj.dr 3 (p:=.abs (aE 39 2 A5 (0+fs.length) c6 ([]++(bq dL fs)))) (p':=.abs (aE 39 2 A5 fs.length c6 (bq dL fs))) (by kernel_rfl) (by rw [Nat.zero_add,List.nil_append]) ?_
 refine aj.slot 9 (.slice A5 (0+fs.length) (c6)) (.slice A5 (fs.length) (c6)) (fun _=>by kernel_rfl) (by rw [Nat.zero_add]) ?_
 refine gK 1 [(3,.slice A5 (fs.length) (c6))] [] ?_
 refine NS (gN 2 (fun b7=>[(4,.slice (some ⟨b7,0,none⟩) (0) (0))]) (fun _=>[]) (fun _=>[]) (fun b7=>.blk b7 [] 41) (fun b7=>?_))
 refine NS (aj.mem (fun w hS=>hS.nP (i:=4) (b:=b7) (cs:=[]) (e:=41) 5 0 (by kernel_rfl) rfl (by decide)) ?_)
 refine gK 3 [(11,.slice (some ⟨b7,0,none⟩) (0) (0)),(13,.slice Aa (xs.length) (ca))] [(2,a_ 1 b2)] ?_
 refine aj.append 4 (d:=(some 14)) (t:=30) (e:=41) (z:=.agg #[vI 0,vI 0,.string ⟨#[]⟩,.string ⟨#[]⟩,.string ⟨#[]⟩]) (size:=5) (bytes:=64) (n:=0) (cap:=0) (A:=some ⟨b7,0,none⟩) (xs:=[]) (s:=(.tmp 11)) (x:=(.tmp 13)) (ats:=#[30,30]) (A':=Aa) (m:=xs.length) (c':=ca) (news:=(bq dS xs)) (fun _=>by kernel_rfl) rfl (by kernel_rfl) (fun _=>by kernel_rfl) (fun _=>by kernel_rfl) Tryz.underlying30 (by kernel_rfl) rfl (by decide) (wQ (f:=dS) (s:=5) (fun _=>rfl) _) (pP (Mc) _ _) (hA.src) (by unfold maxLen;omega) (by omega) (fun A8 c9=>?_)
 refine aj.dr 4 (p:=.abs (aE 41 5 A8 (0+xs.length) c9 ([]++(bq dS xs)))) (p':=.abs (aE 41 5 A8 xs.length c9 (bq dS xs))) (by kernel_rfl) (by rw [Nat.zero_add,List.nil_append]) ?_
 refine aj.slot 14 (.slice A8 (0+xs.length) (c9)) (.slice A8 (xs.length) (c9)) (fun _=>by kernel_rfl) (by rw [Nat.zero_add]) ?_
 refine gK 1 [(4,.slice A8 (xs.length) (c9))] [] ?_
 refine NS (gC 4 [] [(3,A_ 2 b3 2)] [(2,[(0,.slice A5 (fs.length) (c6)),(1,.slice A8 (xs.length) (c9))])] ?_)
 refine NN (af.ret ?_)
 exact ai.ret (v:=.agg #[.slice A5 (fs.length) (c6),.slice A8 (xs.length) (c9)]) (l:=[.abs (aE 39 2 A5 fs.length c6 (bq dL fs)),.abs (aE 41 5 A8 xs.length c9 (bq dS xs))]) (bF:=[b3=b3,b3=b3]) [.at 2,.at 2] [3,4,0] (fun _=>by kernel_rfl) ⟨rfl,rfl,trivial⟩ rfl (by kernel_rfl) (⟨A5,c6,A8,c9,rfl,rfl⟩)
theorem QD {β:Bs} (A:Option Addr) (c:Nat) (xs:List aD) (hc:xs.length<=c) :
    Spec Tryz.prog β 14 #[.slice A xs.length c] [] (fun v l=>∃ n,n<=xs.length/\n<=300/\v=.slice A n c/\l=[]):=by
 refine Spec.enter Tryz.func14 rfl Tryz.ntmps14 (Nat.le_of_ble_eq_true rfl) (fun R=>?_)
 refine SR (gK 1 [] [] ?_)
 refine NN (af.seq (SR (gK 3 [(5,.bool (decide ((((xs.length:Nat):Int):Int) > (300:Int))))] [] ?_)))
 refine NN (af.bg (p:=(((xs.length:Nat):Int):Int) > (300:Int)) (fun _=>by kernel_rfl) (fun h5=>?_) (fun h5=>?_))
 ·refine SR (gK 3 [(2,.slice A (300) (c))] [(1,p_ ⟨[],some 300,none,none,none⟩ [300=((300:Nat):Int),300<=c] ⟨rfl,by omega,trivial⟩)] ?_)
  refine NN (af.ret (ai.ak ?_))
  exact RT (.slice A (300) (c)) [0] (⟨300,by omega,by decide,rfl,rfl⟩)
 refine af.skip (NX (SR (gK 2 [(2,.slice A (xs.length) (c))] [] ?_)))
 refine NN (af.ret ?_)
 exact RT (.slice A (xs.length) (c)) [0] (⟨xs.length,Nat.le_refl _,by omega,rfl,rfl⟩)
end
section
open Go.RowKit Go.Maps bL aB
attribute [local irreducible] aj aP af ai
noncomputable abbrev oo (km) (fs) (kn):=(.abs (aL Tryz.prog 3 km (d8 fs) kn):HP)
noncomputable abbrev ur (q) (f:Nat) (km) (n):=(.blk q [.iface 54 (vP f),.map (some km),vI ↑(n+1)] 183:HP)
noncomputable abbrev SJ (S:aG) (c:aD):=([(6,vI ((cI S { c with data:=c.data.take (c.data.length / 2) }).2.mode)),(7,vI ((cI S { c with data:=c.data.take (c.data.length / 2) }).2.uid)),(8,vI ((cI S { c with data:=c.data.take (c.data.length / 2) }).2.gid)),(9,vI ((cI S { c with data:=c.data.take (c.data.length / 2) }).2.sec)),(10,vI ((cI S { c with data:=c.data.take (c.data.length / 2) }).2.nano)),(11,vI ((cI S { c with data:=c.data.take (c.data.length / 2) }).2.code)),(12,vI ((cI S { c with data:=c.data.take (c.data.length / 2) }).2.answer))]:Fr)
noncomputable abbrev SK (c):=([(0,vI ((aQ c 180).op)),(1,vI ((aQ c 180).handle)),(2,vI ((aQ c 180).other)),(3,.string (aQ c 180).name),(4,.string (aQ c 180).text),(5,.slice (aQ c 180).dA ((aQ c 180).data.length) ((aQ c 180).dC)),(6,vI ((aQ c 180).mode)),(7,vI ((aQ c 180).uid)),(8,vI ((aQ c 180).gid)),(9,vI ((aQ c 180).sec)),(10,vI ((aQ c 180).nano)),(11,vI ((aQ c 180).code)),(12,vI ((aQ c 180).answer))]:Fr)
noncomputable abbrev SL (S:aG) (c:aD):=([(0,vI ((cI S { c with data:=c.data.take (c.data.length / 2) }).2.op)),(1,vI ((cI S { c with data:=c.data.take (c.data.length / 2) }).2.handle)),(2,vI ((cI S { c with data:=c.data.take (c.data.length / 2) }).2.other)),(3,.string (cI S { c with data:=c.data.take (c.data.length / 2) }).2.name),(4,.string (cI S { c with data:=c.data.take (c.data.length / 2) }).2.text)]:Fr)
noncomputable abbrev yJ (b3:Nat) (b4:Nat):=([(3,vP b3),(4,vP b4)]:Fr)
noncomputable abbrev Dl (km) (fs) (kn) (f:Nat) (m:Nat) (t) (S:aG) (L:HL):=([oo km fs kn,pF f m t S.X,pI m L S.idx,jQ t S L,pO S.O L,pD S.O L,pE S.O L]:List HP)
noncomputable abbrev QE (c:aD):=([(3,.string c.name),(4,.string c.text),(5,.slice c.dA (c.data.length) (c.dC))]:Fr)
noncomputable abbrev SM (f:Nat) (m:Nat) (t) (S:aG) (c) (L2:HL):=([pF f m t ((cI S c).1.X),pI m L2 (cI S c).1.idx,pT t (cI S c).1.X.cH ((cI S c).1.av) L2 ((cI S c).1.us),pO ((cI S c).1.O) L2,pD ((cI S c).1.O) L2,pE ((cI S c).1.O) L2]:List HP)
theorem xq {β:Bs} (c:aD) (e:Int) :
    Spec Tryz.prog β 270 #[.agg ⟨bT c⟩,vI (e)] [] (fun v l=>v=.agg ⟨bT (aQ c e)⟩/\l=[]):=by
 refine Spec.enter Tryz.func270 rfl Tryz.ntmps270 (Nat.le_of_ble_eq_true rfl) (fun R=>?_)
 refine SR (gN 1 (fun b1=>[(2,vP b1)]) (fun _=>[]) (fun _=>[]) (fun b1=>pC b1 c) (fun b1=>?_))
 refine gN 1 (fun b2=>[(4,vP b2)]) (fun _=>[]) (fun _=>[]) (fun b2=>.blk b2 [vI 0,vI 0,vI 0,.string ⟨#[]⟩,.string ⟨#[]⟩,.slice none (0) (0),vI 0,vI 0,vI 0,vI 0,vI 0,vI 0,vI 0] 48) (fun b2=>?_)
 refine NN (af.seq (SR (gK 4 [(8,.bool (decide ((c.op:Int)=(11:Int))))] [(1,a_ 1 b1)] ?_)))
 refine aj.fR 8 ((c.op:Int)=(11:Int)) (fun _=>by kernel_rfl) (fun h8=>?_) (fun h8=>?_)
 ·refine gK 4 [(12,.bool true)] [] ?_
  refine NN (CT (af.region (gC 12 [] [(1,a_ 1 b1),(3,a_ 1 b1),(5,a_ 1 b1),(7,a_ 1 b1),(9,a_ 1 b1),(11,A_ 1 b1 13)] [(1,(Cv++[(11,vI 0),(12,vI 0)]))] ?_)))
  refine NS (gC 5 [] [(2,a_ 1 b1),(4,a_ 1 b1)] [(1,[(11,vI (e))])] ?_)
  refine NS (gC 2 [] [(0,A_ 1 b1 13),(1,A_ 2 b2 13)] [(2,([(0,vI (c.op)),(1,vI (c.handle))]++QE c++[(11,vI (e))]))] ?_)
  refine NN (af.ret ?_)
  exact ai.ret (v:=.agg ⟨bT { c with other:=0,mode:=0,uid:=0,gid:=0,sec:=0,nano:=0,code:=e,answer:=0 }⟩) (l:=[]) (bF:=[b2=b2,b2=b2,b2=b2,b2=b2,b2=b2,b2=b2,b2=b2,b2=b2,b2=b2,b2=b2,b2=b2,b2=b2,b2=b2]) [.at 2,.at 2,.at 2,.at 2,.at 2,.at 2,.at 2,.at 2,.at 2,.at 2,.at 2,.at 2,.at 2] [0] (fun _=>by kernel_rfl) ⟨rfl,rfl,rfl,rfl,rfl,rfl,rfl,rfl,rfl,rfl,rfl,rfl,rfl,trivial⟩ rfl (by kernel_rfl) (⟨congrArg (fun x=>Value.agg ⟨bT x⟩) (Eq.symm (if_pos (by omega):aQ c e=_)),rfl⟩)
 refine gK 4 [(12,.bool (decide ((c.op:Int)=(12:Int))))] [(1,a_ 1 b1)] ?_
 refine NN (af.bg (p:=(c.op:Int)=(12:Int)) (fun _=>by kernel_rfl) (fun h12=>?_) (fun h12=>?_))
 ·refine af.region (gC 12 [] [(1,a_ 1 b1),(3,a_ 1 b1),(5,a_ 1 b1),(7,a_ 1 b1),(9,a_ 1 b1),(11,A_ 1 b1 13)] [(1,(Cv++[(11,vI 0),(12,vI 0)]))] ?_)
  refine NS (gC 5 [] [(2,a_ 1 b1),(4,a_ 1 b1)] [(1,[(11,vI (e))])] ?_)
  refine NS (gC 2 [] [(0,A_ 1 b1 13),(1,A_ 2 b2 13)] [(2,([(0,vI (c.op)),(1,vI (c.handle))]++QE c++[(11,vI (e))]))] ?_)
  refine NN (af.ret ?_)
  exact ai.ret (v:=.agg ⟨bT { c with other:=0,mode:=0,uid:=0,gid:=0,sec:=0,nano:=0,code:=e,answer:=0 }⟩) (l:=[]) (bF:=[b2=b2,b2=b2,b2=b2,b2=b2,b2=b2,b2=b2,b2=b2,b2=b2,b2=b2,b2=b2,b2=b2,b2=b2,b2=b2]) [.at 2,.at 2,.at 2,.at 2,.at 2,.at 2,.at 2,.at 2,.at 2,.at 2,.at 2,.at 2,.at 2] [0] (fun _=>by kernel_rfl) ⟨rfl,rfl,rfl,rfl,rfl,rfl,rfl,rfl,rfl,rfl,rfl,rfl,rfl,trivial⟩ rfl (by kernel_rfl) (⟨congrArg (fun x=>Value.agg ⟨bT x⟩) (Eq.symm (if_pos (by omega):aQ c e=_)),rfl⟩)
 refine af.skip (NX (SR (gC 5 [] [(2,a_ 1 b1),(4,a_ 1 b1)] [(1,[(11,vI (e)),(12,vI 0)])] ?_)))
 refine NS (gC 2 [] [(0,A_ 1 b1 13),(1,A_ 2 b2 13)] [(2,([(0,vI (c.op)),(1,vI (c.handle)),(2,vI (c.other))]++QE c++[(6,vI (c.mode)),(7,vI (c.uid)),(8,vI (c.gid)),(9,vI (c.sec)),(10,vI (c.nano)),(11,vI (e))]))] ?_)
 refine NN (af.ret ?_)
 exact ai.ret (v:=.agg ⟨bT { c with code:=e,answer:=0 }⟩) (l:=[]) (bF:=[b2=b2,b2=b2,b2=b2,b2=b2,b2=b2,b2=b2,b2=b2,b2=b2,b2=b2,b2=b2,b2=b2,b2=b2,b2=b2]) [.at 2,.at 2,.at 2,.at 2,.at 2,.at 2,.at 2,.at 2,.at 2,.at 2,.at 2,.at 2,.at 2] [0] (fun _=>by kernel_rfl) ⟨rfl,rfl,rfl,rfl,rfl,rfl,rfl,rfl,rfl,rfl,rfl,rfl,rfl,trivial⟩ rfl (by kernel_rfl) (⟨congrArg (fun x=>Value.agg ⟨bT x⟩) (Eq.symm (if_neg (by omega):aQ c e=_)),rfl⟩)
theorem QF {β:Bs} (S:aG) (L:HL) (q f m t km kn n:Nat) (fs:List aZ) (hI:Inv S) (hn:n<=1048576) (k:Int) (hk:gh fs ((n+1:Nat):Int)=k) (c:aD) (hC:fQ β c) :
    Spec Tryz.prog β 269 #[vP q,.agg ⟨bT c⟩] ([.blk q [.iface 54 (vP f),.map (some km),vI (((n:Nat):Int))] 183]++Dl km fs kn f m t S L) (fun v l=>∃ L2,v=.agg ⟨bT (bB k S c).2⟩/\l=[.blk q [.iface 54 (vP f),.map (some km),vI ((((n+1):Nat):Int))] 183,oo km fs kn,pF f m t ((bB k S c).1.X),pI m L2 (bB k S c).1.idx,pT t (bB k S c).1.X.cH ((bB k S c).1.av) L2 ((bB k S c).1.us),pO ((bB k S c).1.O) L2,pD ((bB k S c).1.O) L2,pE ((bB k S c).1.O) L2]):=by
 have hdl:=hC.dl
 have hdc:=hC.dc
 refine Spec.enter Tryz.func269 rfl Tryz.ntmps269 (Nat.le_of_ble_eq_true rfl) (fun R=>?_)
 refine SR (gN 1 (fun b3=>[(3,vP b3)]) (fun _=>[]) (fun _=>[]) (fun b3=>pC b3 c) (fun b3=>?_))
 refine gN 1 (fun b4=>[(4,vP b4)]) (fun _=>[]) (fun _=>[]) (fun b4=>.blk b4 [vI 0,vI 0,vI 0,.string ⟨#[]⟩,.string ⟨#[]⟩,.slice none (0) (0),vI 0,vI 0,vI 0,vI 0,vI 0,vI 0,vI 0] 48) (fun b4=>?_)
 refine NS (gC 8 [] [(3,a_ 0 q),(4,p_ ⟨[],none,none,none,some (vI ↑(n+1))⟩ [(Value.int .i64 (IntKind.wrap .i64 (((n:Nat):Int)+1)))=(.int .i64 ↑(n+1))] ⟨bw (by omega) (by omega) (by omega),trivial⟩),(7,a_ 0 q)] [(0,[(2,vI ↑(n+1))])] ?_)
 refine NN (af.join (ι:=Unit) (fun (u:Unit)=>(¬ k=1)/\(¬ (k=2/\(c.op=4\/c.op=5\/c.op=6\/c.op=7\/c.op=9)))/\(¬ (k=3/\c.op=9/\2<=c.data.length))) (fun (u:Unit)=>([(0,vP q)]++yJ b3 b4)) (fun (u:Unit)=>([ur q f km n]++Dl km fs kn f m t S L++[.abs R,pC b3 c,oH b4])) ?_ ?_)
 ·rintro u ⟨nA,hj2,hj3⟩
  show af _ _ _ _ ([(0,vP q)]++yJ b3 b4) ([ur q f km n]++Dl km fs kn f m t S L++[.abs R,pC b3 c,oH b4]) _
  refine af.seq (af.bR (S:=[ur q f km n,pC b3 c]) [0,1,2,3,4,5,6] 5 [0,9] (by kernel_rfl) (by kernel_rfl) rfl (by kernel_rfl) ?_)
  refine gR 0 [5,6] [(4,vP b4),(78,.iface 54 (vP f)),(79,.agg ⟨bT c⟩)] [0,1,2,3,4] [(3,a_ 0 q),(4,A_ 1 b3 13)] ?_
  refine mL [6,9] [2,3,4,5,6,7] (Fe S L f m t hI c hC) ?_ (by rintro _ _ ⟨L2,rfl,rfl⟩;rfl)
  rintro _ _ ⟨L2,rfl,rfl⟩
  refine aK.last rfl rfl ?_
  refine gC 1 [] [(0,A_ 10 b4 13)] [(10,[(0,vI ((cI S c).2.op)),(1,vI ((cI S c).2.handle)),(2,vI ((cI S c).2.other)),(3,.string (cI S c).2.name),(4,.string (cI S c).2.text),(5,.slice (cI S c).2.dA ((cI S c).2.data.length) ((cI S c).2.dC)),(6,vI ((cI S c).2.mode)),(7,vI ((cI S c).2.uid)),(8,vI ((cI S c).2.gid)),(9,vI ((cI S c).2.sec)),(10,vI ((cI S c).2.nano)),(11,vI ((cI S c).2.code)),(12,vI ((cI S c).2.answer))])] ?_
  refine NL (ai.np (NX (af.ret ?_)))
  exact ai.ret (v:=.agg ⟨bT ((cI S c).2)⟩) (l:=([ur q f km n,oo km fs kn]++SM f m t S c L2)) (bF:=[b4=b4,b4=b4,b4=b4,b4=b4,b4=b4,b4=b4,b4=b4,b4=b4,b4=b4,b4=b4,b4=b4,b4=b4,b4=b4]) [.at 10,.at 10,.at 10,.at 10,.at 10,.at 10,.at 10,.at 10,.at 10,.at 10,.at 10,.at 10,.at 10] [6,7,0,1,2,3,4,5,8] (fun _=>by kernel_rfl) ⟨rfl,rfl,rfl,rfl,rfl,rfl,rfl,rfl,rfl,rfl,rfl,rfl,rfl,trivial⟩ rfl (by kernel_rfl) (⟨L2,by rw [show bB k S c=((cI S c).1,(cI S c).2) by unfold bB;rw [if_neg nA,if_neg hj2,if_neg hj3]]<;>exact⟨rfl,rfl⟩⟩)
 refine af.seq (af.bI (by kernel_rfl) (by kernel_rfl) ?_)
 refine gQ 8 [(16,.map (some km)),(20,vI ↑(n+1))] [(3,a_ 0 q),(7,a_ 0 q)] ?_
 refine aP.d9 1 (d:=(some 21)) (t:=179) (K:=3) (E:=3) (b:=km) (n:=kn) (f:=(d8 fs)) (x:=(.tmp 16)) (ix:=(.tmp 20)) (key:=.int .i64 ↑(n+1)) (z:=.int .i64 0) (kl:=(.int .i64 ((n+1:Nat):Int))) (r:=(d8 fs (.int .i64 ((n+1:Nat):Int)))) (fun _=>by kernel_rfl) (by kernel_rfl) (fun _=>by kernel_rfl) (fun _=>by kernel_rfl) dX Tryz.underlying179 (fun _=>by kernel_rfl) (gJ (Kh (by omega))) (rfl) ?_
 refine NQ (NX (af.block (SR ?_)))
 refine aj.slot 21 (((d8 fs (.int .i64 ((n+1:Nat):Int))).getD (.int .i64 0))) (.int .i64 (k)) (fun _=>by kernel_rfl) (Da.trans (congrArg (Value.int .i64) hk)) ?_
 refine gK 2 [(22,.bool (decide ((k:Int)=(1:Int))))] [] ?_
 refine NN (af.bg (p:=(k:Int)=(1:Int)) (fun _=>by kernel_rfl) (fun sV=>?_) (fun sV=>?_))
 ·refine af.seq (SR (gK 3 [(26,.bool (decide ((c.op:Int)=(13:Int))))] [(1,a_ 9 b3)] ?_))
  refine NN (af.bg (p:=(c.op:Int)=(13:Int)) (fun _=>by kernel_rfl) (fun vE=>?_) (fun vE=>?_))
  ·refine af.bR (S:=[ur q f km n,pC b3 c]) [0,1,2,3,4,5] 5 [0,9] (by kernel_rfl) (by kernel_rfl) rfl (by kernel_rfl) ?_
   refine gR 0 [5] (yJ b3 b4++[(30,.iface 54 (vP f)),(31,.agg ⟨bT c⟩)]) [0,1,2,3,4] [(3,a_ 0 q),(4,A_ 1 b3 13)] ?_
   refine aK.last rfl rfl ?_
   refine gL [2,3,4,5,6,7] (Fe S L f m t hI c hC) ?_
   rintro _ _ ⟨L2,rfl,rfl⟩
   refine NL (ai.np (NX (SR ?_)))
   refine gK 1 [(33,.agg ⟨bT c⟩)] [(0,A_ 9 b3 13)] ?_
   refine gL [] (xq c 180) ?_
   rintro _ _ ⟨rfl,rfl⟩
   refine gC 1 [] [(0,A_ 10 b4 13)] [(10,(SK c))] ?_
   refine NN (af.ret (ai.aF (ai.ak ?_)))
   exact ai.ret (v:=.agg ⟨bT (aQ c 180)⟩) (l:=([ur q f km n,oo km fs kn]++SM f m t S c L2)) (bF:=[b4=b4,b4=b4,b4=b4,b4=b4,b4=b4,b4=b4,b4=b4,b4=b4,b4=b4,b4=b4,b4=b4,b4=b4,b4=b4]) [.at 10,.at 10,.at 10,.at 10,.at 10,.at 10,.at 10,.at 10,.at 10,.at 10,.at 10,.at 10,.at 10] [6,7,0,1,2,3,4,5,8] (fun _=>by kernel_rfl) ⟨rfl,rfl,rfl,rfl,rfl,rfl,rfl,rfl,rfl,rfl,rfl,rfl,rfl,trivial⟩ rfl (by kernel_rfl) (⟨L2,by rw [show bB k S c=((cI S c).1,aQ c 180) by unfold bB;rw [if_pos sV,if_pos vE]]<;>exact⟨rfl,rfl⟩⟩)
  refine af.skip (NX (SR (gK 1 [(33,.agg ⟨bT c⟩)] [(0,A_ 9 b3 13)] ?_)))
  refine gL [] (xq c 180) ?_
  rintro _ _ ⟨rfl,rfl⟩
  refine gC 1 [] [(0,A_ 10 b4 13)] [(10,(SK c))] ?_
  refine NN (af.ret (ai.aF (ai.ak ?_)))
  exact ai.ret (v:=.agg ⟨bT (aQ c 180)⟩) (l:=([ur q f km n]++Dl km fs kn f m t S L)) (bF:=[b4=b4,b4=b4,b4=b4,b4=b4,b4=b4,b4=b4,b4=b4,b4=b4,b4=b4,b4=b4,b4=b4,b4=b4,b4=b4]) [.at 10,.at 10,.at 10,.at 10,.at 10,.at 10,.at 10,.at 10,.at 10,.at 10,.at 10,.at 10,.at 10] [0,1,2,3,4,5,6,7,8] (fun _=>by kernel_rfl) ⟨rfl,rfl,rfl,rfl,rfl,rfl,rfl,rfl,rfl,rfl,rfl,rfl,rfl,trivial⟩ rfl (by kernel_rfl) (⟨L,by rw [show bB k S c=(S,aQ c 180) by unfold bB;rw [if_pos sV,if_neg vE]]<;>exact⟨rfl,rfl⟩⟩)
 refine SR (gK 2 [(35,.bool (decide ((k:Int)=(2:Int))))] [] ?_)
 refine NN (af.bg (p:=(k:Int)=(2:Int)) (fun _=>by kernel_rfl) (fun jC=>?_) (fun jC=>?_))
 ·refine SR (gK 2 [(38,vI (c.op))] [(1,a_ 9 b3)] ?_)
  refine NN (af.block ?_)
  refine af.join (ι:=Bool) (fun (fl:Bool)=>(fl=true↔(c.op=4\/c.op=5\/c.op=6\/c.op=7\/c.op=9))) (fun (fl:Bool)=>([(0,vP q)]++yJ b3 b4++[(39,.bool fl)])) (fun (fl:Bool)=>([ur q f km n]++Dl km fs kn f m t S L++[.abs R,pC b3 c,oH b4])) ?_ ?_
  ·rintro fl hfl
   show af _ _ _ _ ([(0,vP q)]++yJ b3 b4++[(39,.bool fl)]) ([ur q f km n]++Dl km fs kn f m t S L++[.abs R,pC b3 c,oH b4]) _
   refine af.cond (b:=fl) (fun _=>by kernel_rfl) (fun iW=>?_) (fun iW=>?_)
   ·refine SR (gK 1 [(45,.agg ⟨bT c⟩)] [(0,A_ 9 b3 13)] ?_)
    refine gL [] (xq c 176) ?_
    rintro _ _ ⟨rfl,rfl⟩
    refine gC 1 [] [(0,A_ 10 b4 13)] [(10,[(0,vI ((aQ c 176).op)),(1,vI ((aQ c 176).handle)),(2,vI ((aQ c 176).other)),(3,.string (aQ c 176).name),(4,.string (aQ c 176).text),(5,.slice (aQ c 176).dA ((aQ c 176).data.length) ((aQ c 176).dC)),(6,vI ((aQ c 176).mode)),(7,vI ((aQ c 176).uid)),(8,vI ((aQ c 176).gid)),(9,vI ((aQ c 176).sec)),(10,vI ((aQ c 176).nano)),(11,vI ((aQ c 176).code)),(12,vI ((aQ c 176).answer))])] ?_
    refine NN (af.ret (ai.aF (ai.aF (ai.ak ?_))))
    exact ai.ret (v:=.agg ⟨bT (aQ c 176)⟩) (l:=([ur q f km n]++Dl km fs kn f m t S L)) (bF:=[b4=b4,b4=b4,b4=b4,b4=b4,b4=b4,b4=b4,b4=b4,b4=b4,b4=b4,b4=b4,b4=b4,b4=b4,b4=b4]) [.at 10,.at 10,.at 10,.at 10,.at 10,.at 10,.at 10,.at 10,.at 10,.at 10,.at 10,.at 10,.at 10] [0,1,2,3,4,5,6,7,8] (fun _=>by kernel_rfl) ⟨rfl,rfl,rfl,rfl,rfl,rfl,rfl,rfl,rfl,rfl,rfl,rfl,rfl,trivial⟩ rfl (by kernel_rfl) (⟨L,by rw [show bB k S c=(S,aQ c 176) by unfold bB;rw [if_neg (by omega),if_pos ⟨jC,hfl.1 iW⟩]]<;>exact⟨rfl,rfl⟩⟩)
   refine af.skip (ai.aJ (ai.aJ ?_))
   exact ai.meet () (idx:=[0,3,4]) (pk:=[0,1,2,3,4,5,6,7,8,9,10]) (show (¬ k=1)/\(¬ (k=2/\(c.op=4\/c.op=5\/c.op=6\/c.op=7\/c.op=9)))/\(¬ (k=3/\c.op=9/\2<=c.data.length)) from ⟨sV,fun h=>absurd (iW.symm.trans (hfl.2 h.2)) (by decide),fun h=>by omega⟩) (fun _=>by kernel_rfl) rfl (by kernel_rfl)
  refine SR (gK 2 [(39,.bool (decide ((c.op:Int)=(4:Int))))] [] ?_)
  refine NN (af.bg (p:=(c.op:Int)=(4:Int)) (fun _=>by kernel_rfl) (fun iW=>?_) (fun iW=>?_))
  ·refine af.skip (ai.slot 39 (.bool (decide ((c.op:Int)=(4:Int)))) (.bool true) (fun _=>by kernel_rfl) (congrArg Value.bool (decide_eq_true iW)) ?_)
   exact ai.meet true (idx:=[0,3,4,39]) (pk:=[0,1,2,3,4,5,6,7,8,9,10]) (show (true=true↔(c.op=4\/c.op=5\/c.op=6\/c.op=7\/c.op=9)) from ⟨fun _=>by omega,fun _=>rfl⟩) (fun _=>by kernel_rfl) rfl (by kernel_rfl)
  refine SR (gK 2 [(39,.bool (decide ((c.op:Int)=(5:Int))))] [] ?_)
  refine NN (af.bg (p:=(c.op:Int)=(5:Int)) (fun _=>by kernel_rfl) (fun iW=>?_) (fun iW=>?_))
  ·refine af.skip (ai.slot 39 (.bool (decide ((c.op:Int)=(5:Int)))) (.bool true) (fun _=>by kernel_rfl) (congrArg Value.bool (decide_eq_true iW)) ?_)
   exact ai.meet true (idx:=[0,3,4,39]) (pk:=[0,1,2,3,4,5,6,7,8,9,10]) (show (true=true↔(c.op=4\/c.op=5\/c.op=6\/c.op=7\/c.op=9)) from ⟨fun _=>by omega,fun _=>rfl⟩) (fun _=>by kernel_rfl) rfl (by kernel_rfl)
  refine SR (gK 2 [(39,.bool (decide ((c.op:Int)=(6:Int))))] [] ?_)
  refine NN (af.bg (p:=(c.op:Int)=(6:Int)) (fun _=>by kernel_rfl) (fun iW=>?_) (fun iW=>?_))
  ·refine af.skip (ai.slot 39 (.bool (decide ((c.op:Int)=(6:Int)))) (.bool true) (fun _=>by kernel_rfl) (congrArg Value.bool (decide_eq_true iW)) ?_)
   exact ai.meet true (idx:=[0,3,4,39]) (pk:=[0,1,2,3,4,5,6,7,8,9,10]) (show (true=true↔(c.op=4\/c.op=5\/c.op=6\/c.op=7\/c.op=9)) from ⟨fun _=>by omega,fun _=>rfl⟩) (fun _=>by kernel_rfl) rfl (by kernel_rfl)
  refine SR (gK 2 [(39,.bool (decide ((c.op:Int)=(7:Int))))] [] ?_)
  refine NN (af.bg (p:=(c.op:Int)=(7:Int)) (fun _=>by kernel_rfl) (fun iW=>?_) (fun iW=>?_))
  ·refine af.skip (ai.slot 39 (.bool (decide ((c.op:Int)=(7:Int)))) (.bool true) (fun _=>by kernel_rfl) (congrArg Value.bool (decide_eq_true iW)) ?_)
   exact ai.meet true (idx:=[0,3,4,39]) (pk:=[0,1,2,3,4,5,6,7,8,9,10]) (show (true=true↔(c.op=4\/c.op=5\/c.op=6\/c.op=7\/c.op=9)) from ⟨fun _=>by omega,fun _=>rfl⟩) (fun _=>by kernel_rfl) rfl (by kernel_rfl)
  refine af.region (gK 2 [(39,.bool (decide ((c.op:Int)=(9:Int))))] [] ?_)
  refine NL ?_
  exact ai.meet ((decide (c.op=9))) (idx:=[0,3,4,39]) (pk:=[0,1,2,3,4,5,6,7,8,9,10]) (show (((decide (c.op=9)))=true↔(c.op=4\/c.op=5\/c.op=6\/c.op=7\/c.op=9)) from ⟨fun h=>by have:=of_decide_eq_true h;omega,fun h=>decide_eq_true (by omega)⟩) (fun _=>by kernel_rfl) rfl (by kernel_rfl)
 refine SR (gK 2 [(47,.bool (decide ((k:Int)=(3:Int))))] [] ?_)
 refine NN (af.bg (p:=(k:Int)=(3:Int)) (fun _=>by kernel_rfl) (fun NV=>?_) (fun NV=>?_))
 ·refine SR (gK 4 [(52,.bool (decide ((c.op:Int)=(9:Int))))] [(1,a_ 9 b3)] ?_)
  refine aj.fR 52 ((c.op:Int)=(9:Int)) (fun _=>by kernel_rfl) (fun Jv=>?_) (fun Jv=>?_)
  ·refine gK 5 [(57,.bool (decide ((((c.data.length:Nat):Int):Int) ≥ (2:Int))))] [(1,a_ 9 b3)] ?_
   refine NN (af.bg (p:=(((c.data.length:Nat):Int):Int) ≥ (2:Int)) (fun _=>by kernel_rfl) (fun um=>?_) (fun um=>?_))
   ·refine SR (gK 3 [(5,.slice c.dA (c.data.length) (c.dC))] [(1,a_ 9 b3)] ?_)
    refine NS (gK 5 [(64,.slice c.dA ((c.data.length / 2)) (c.dC))] [(3,p_ ⟨[],none,none,none,some (vI ↑(c.data.length / 2))⟩ [(Value.int .i64 (IntKind.wrap .i64 (Int.tdiv ((c.data.length:Nat):Int) 2)))=(.int .i64 ↑(c.data.length / 2))] ⟨bw (Int.ofNat_tdiv _ _).symm (by omega) (by omega),trivial⟩),(4,p_ ⟨[],some (c.data.length / 2),none,none,none⟩ [((c.data.length / 2:Nat):Int)=(((c.data.length / 2):Nat):Int),(c.data.length / 2)<=c.dC] ⟨rfl,by omega,trivial⟩)] ?_)
    refine aj.slot 64 (.slice c.dA ((c.data.length / 2)) (c.dC)) (.slice c.dA ((c.data.take (c.data.length / 2)).length) (c.dC)) (fun _=>by kernel_rfl) (by rw [List.length_take,Nat.min_eq_left (by omega)]) ?_
    refine gC 2 [] [(1,a_ 9 b3)] [(9,[(5,.slice c.dA ((c.data.take (c.data.length / 2)).length) (c.dC))])] ?_
    refine NN (af.seq (af.bR (S:=[ur q f km n,.blk b3 [vI (c.op),vI (c.handle),vI (c.other),.string c.name,.string c.text,.slice c.dA ((c.data.take (c.data.length / 2)).length) (c.dC),vI (c.mode),vI (c.uid),vI (c.gid),vI (c.sec),vI (c.nano),vI (c.code),vI (c.answer)] 48]) [0,1,2,3,4,5,6] 5 [0,9] (by kernel_rfl) (by kernel_rfl) rfl (by kernel_rfl) ?_))
    refine gR 0 [5,6] (yJ b3 b4++[(5,.slice c.dA (c.data.length) (c.dC)),(69,.iface 54 (vP f)),(70,.agg #[vI (c.op),vI (c.handle),vI (c.other),.string c.name,.string c.text,.slice c.dA ((c.data.take (c.data.length / 2)).length) (c.dC),vI (c.mode),vI (c.uid),vI (c.gid),vI (c.sec),vI (c.nano),vI (c.code),vI (c.answer)])]) [0,1,2,3,4] [(3,a_ 0 q),(4,A_ 1 b3 13)] ?_
    refine mL [6,9] [2,3,4,5,6,7] (Fe S L f m t hI { c with data:=c.data.take (c.data.length / 2) } (Gb hC)) ?_ (by rintro _ _ ⟨L2,rfl,rfl⟩;rfl)
    rintro _ _ ⟨L2,rfl,rfl⟩
    refine aK.last rfl rfl ?_
    refine gC 1 [] [(0,A_ 9 b3 13)] [(9,(SL S c++[(5,.slice (cI S { c with data:=c.data.take (c.data.length / 2) }).2.dA ((cI S { c with data:=c.data.take (c.data.length / 2) }).2.data.length) ((cI S { c with data:=c.data.take (c.data.length / 2) }).2.dC))]++SJ S c))] ?_
    refine NL (ai.np (NX (SR ?_)))
    refine gC 3 [] [(2,a_ 9 b3)] [(9,[(5,.slice c.dA (c.data.length) (c.dC))])] ?_
    refine NS (gC 2 [] [(0,A_ 9 b3 13),(1,A_ 10 b4 13)] [(10,(SL S c++[(5,.slice c.dA (c.data.length) (c.dC))]++SJ S c))] ?_)
    refine NN (af.ret (ai.aF (ai.ak ?_)))
    exact ai.ret (v:=.agg #[vI ((cI S { c with data:=c.data.take (c.data.length / 2) }).2.op),vI ((cI S { c with data:=c.data.take (c.data.length / 2) }).2.handle),vI ((cI S { c with data:=c.data.take (c.data.length / 2) }).2.other),.string (cI S { c with data:=c.data.take (c.data.length / 2) }).2.name,.string (cI S { c with data:=c.data.take (c.data.length / 2) }).2.text,.slice c.dA (c.data.length) (c.dC),vI ((cI S { c with data:=c.data.take (c.data.length / 2) }).2.mode),vI ((cI S { c with data:=c.data.take (c.data.length / 2) }).2.uid),vI ((cI S { c with data:=c.data.take (c.data.length / 2) }).2.gid),vI ((cI S { c with data:=c.data.take (c.data.length / 2) }).2.sec),vI ((cI S { c with data:=c.data.take (c.data.length / 2) }).2.nano),vI ((cI S { c with data:=c.data.take (c.data.length / 2) }).2.code),vI ((cI S { c with data:=c.data.take (c.data.length / 2) }).2.answer)]) (l:=[ur q f km n,oo km fs kn,pF f m t ((cI S { c with data:=c.data.take (c.data.length / 2) }).1.X),pI m L2 (cI S { c with data:=c.data.take (c.data.length / 2) }).1.idx,pT t (cI S { c with data:=c.data.take (c.data.length / 2) }).1.X.cH ((cI S { c with data:=c.data.take (c.data.length / 2) }).1.av) L2 ((cI S { c with data:=c.data.take (c.data.length / 2) }).1.us),pO ((cI S { c with data:=c.data.take (c.data.length / 2) }).1.O) L2,pD ((cI S { c with data:=c.data.take (c.data.length / 2) }).1.O) L2,pE ((cI S { c with data:=c.data.take (c.data.length / 2) }).1.O) L2]) (bF:=[b4=b4,b4=b4,b4=b4,b4=b4,b4=b4,b4=b4,b4=b4,b4=b4,b4=b4,b4=b4,b4=b4,b4=b4,b4=b4]) [.at 10,.at 10,.at 10,.at 10,.at 10,.at 10,.at 10,.at 10,.at 10,.at 10,.at 10,.at 10,.at 10] [6,7,0,1,2,3,4,5,8] (fun _=>by kernel_rfl) ⟨rfl,rfl,rfl,rfl,rfl,rfl,rfl,rfl,rfl,rfl,rfl,rfl,rfl,trivial⟩ rfl (by kernel_rfl) (⟨L2,by rw [show bB k S c=((cI S { c with data:=c.data.take (c.data.length / 2) }).1,{ (cI S { c with data:=c.data.take (c.data.length / 2) }).2 with dA:=c.dA,dC:=c.dC,data:=c.data }) by unfold bB;rw [if_neg (by omega),if_neg (by omega),if_pos ⟨NV,by omega,by omega⟩]]<;>exact⟨rfl,rfl⟩⟩)
   refine af.skip (ai.aJ ?_)
   exact ai.meet () (idx:=[0,3,4]) (pk:=[0,1,2,3,4,5,6,7,8,9,10]) (show (¬ k=1)/\(¬ (k=2/\(c.op=4\/c.op=5\/c.op=6\/c.op=7\/c.op=9)))/\(¬ (k=3/\c.op=9/\2<=c.data.length)) from ⟨sV,fun h=>jC h.1,fun h=>by omega⟩) (fun _=>by kernel_rfl) rfl (by kernel_rfl)
  refine gK 5 [(57,.bool false)] [] ?_
  refine NN (CF (af.skip (ai.aJ ?_)))
  exact ai.meet () (idx:=[0,3,4]) (pk:=[0,1,2,3,4,5,6,7,8,9,10]) (show (¬ k=1)/\(¬ (k=2/\(c.op=4\/c.op=5\/c.op=6\/c.op=7\/c.op=9)))/\(¬ (k=3/\c.op=9/\2<=c.data.length)) from ⟨sV,fun h=>jC h.1,fun h=>by omega⟩) (fun _=>by kernel_rfl) rfl (by kernel_rfl)
 refine af.skip (ai.aJ ?_)
 exact ai.meet () (idx:=[0,3,4]) (pk:=[0,1,2,3,4,5,6,7,8,9,10]) (show (¬ k=1)/\(¬ (k=2/\(c.op=4\/c.op=5\/c.op=6\/c.op=7\/c.op=9)))/\(¬ (k=3/\c.op=9/\2<=c.data.length)) from ⟨sV,fun h=>jC h.1,fun h=>by omega⟩) (fun _=>by kernel_rfl) rfl (by kernel_rfl)
end
end Go.Proofs.YtidjcblbdmfalaaGreat
section
namespace Go.Proofs
open Go.Shelf
def Tryz.lays146_ren:Go.Shelf.Ren:=⟨fun|146=>257|221=>258|268=>259|138=>260|143=>261|195=>262|197=>263|218=>264|219=>265|260=>266|217=>219|225=>231|224=>230|267=>267|266=>224|314=>268|n=>n,fun|9=>9|31=>154|3=>3|4=>4|0=>0|105=>332|21=>21|5=>5|46=>234|119=>334|139=>337|138=>336|146=>338|51=>266|n=>n,fun|1=>0|3=>1|4=>2|n=>n⟩
theorem Tryz.lays146:Go.Proofs.Lays.n146 Tryz.prog Tryz.lays146_ren:={
  mixed:=by kernel_rfl
  f138:=Tryz.func260.trans (congrArg some (by kernel_rfl))
  f143:=Tryz.func261.trans (congrArg some (by kernel_rfl))
  f146:=Tryz.func257.trans (congrArg some (by kernel_rfl))
  f195:=Tryz.func262.trans (congrArg some (by kernel_rfl))
  f197:=Tryz.func263.trans (congrArg some (by kernel_rfl))
  f217:=Tryz.func219.trans (congrArg some (by kernel_rfl))
  f218:=Tryz.func264.trans (congrArg some (by kernel_rfl))
  f219:=Tryz.func265.trans (congrArg some (by kernel_rfl))
  f221:=Tryz.func258.trans (congrArg some (by kernel_rfl))
  f224:=Tryz.func230.trans (congrArg some (by kernel_rfl))
  f225:=Tryz.func231.trans (congrArg some (by kernel_rfl))
  f260:=Tryz.func266.trans (congrArg some (by kernel_rfl))
  f266:=Tryz.func224.trans (congrArg some (by kernel_rfl))
  f267:=Tryz.func267.trans (congrArg some (by kernel_rfl))
  f268:=Tryz.func259.trans (congrArg some (by kernel_rfl))
  f314:=Tryz.func268.trans (congrArg some (by kernel_rfl))
  t0:=Tryz.underlying0
  a0:=Tryz.isAgg0
  z0:=Tryz.sizeOf0
  v0:=Tryz.zeroValue0
  t3:=Tryz.underlying3
  a3:=Tryz.isAgg3
  z3:=Tryz.sizeOf3
  v3:=Tryz.zeroValue3
  t4:=Tryz.underlying4
  a4:=Tryz.isAgg4
  z4:=Tryz.sizeOf4
  v4:=Tryz.zeroValue4
  t5:=Tryz.underlying5
  a5:=Tryz.isAgg5
  z5:=Tryz.sizeOf5
  v5:=Tryz.zeroValue5
  t9:=Tryz.underlying9
  a9:=Tryz.isAgg9
  z9:=Tryz.sizeOf9
  v9:=Tryz.zeroValue9
  t21:=Tryz.underlying21
  a21:=Tryz.isAgg21
  z21:=Tryz.sizeOf21
  v21:=Tryz.zeroValue21
  t31:=Tryz.underlying154
  a31:=Tryz.isAgg154
  z31:=Tryz.sizeOf154
  v31:=Tryz.zeroValue154
  t46:=Tryz.underlying234
  a46:=Tryz.isAgg234
  z46:=Tryz.sizeOf234
  v46:=Tryz.zeroValue234
  t51:=Tryz.underlying266
  a51:=Tryz.isAgg266
  z51:=Tryz.sizeOf266
  v51:=Tryz.zeroValue266
  t105:=Tryz.underlying332
  a105:=Tryz.isAgg332
  z105:=Tryz.sizeOf332
  v105:=Tryz.zeroValue332
  t119:=Tryz.underlying334
  a119:=Tryz.isAgg334
  z119:=Tryz.sizeOf334
  t138:=Tryz.underlying336
  a138:=Tryz.isAgg336
  z138:=Tryz.sizeOf336
  v138:=Tryz.zeroValue336
  t139:=Tryz.underlying337
  a139:=Tryz.isAgg337
  z139:=Tryz.sizeOf337
  v139:=Tryz.zeroValue337
  t146:=Tryz.underlying338
  a146:=Tryz.isAgg338
  z146:=Tryz.sizeOf338
  v146:=Tryz.zeroValue338
  g1:=by kernel_rfl
  g3:=by kernel_rfl
  g4:=by kernel_rfl }
open Go.RowKit Go.Lib in
theorem Tryz.strings_Split (s sep:ByteArray) (m:Int) (w:World) (hs:s.size < 4294967281) (hm:w.cell? ⟨0,0,none⟩=some (.int .i64 m)) (h1:1<=sep.size) :
    Calls Tryz.prog 257 #[.string s,.string sep] w fun e w'=>
      e=.returned (.slice (some ⟨w.heap.size,0,none⟩) (Lib.countB s sep+1) (Lib.countB s sep+1))/\w'=w.alloc (.cells ((Lib.splitB sep 0 (Lib.countB s sep) s).map Value.string).toArray 9):=Any.strings_Split Tryz.lays146 (by kernel_rfl) s sep m w hs hm h1
end Go.Proofs
end
namespace Go.Proofs.YtidjcblbdmfalaaGreat
section
open Go.RowKit Go.Maps bL aB
def iU (β:Bs):Prop:=∃ m,Rd β ⟨0,0,none⟩ (.int .i64 m)
theorem iU.le {β β':Bs} (h:iU β) (hle:β.le β'):iU β':=h.imp fun _ h=>h.le hle
theorem Bq (s:ByteArray):(iZ s).length=Lib.countB s slash+1:=Lib.splitB_all slash (by decide) 0 _ s rfl
theorem xu (s:ByteArray):Lib.countB s slash<=s.size:=Lib.countB_le slash (by decide) _ s (Nat.le_refl _)
theorem yK (sep:ByteArray):∀ (k:Nat) (s:ByteArray),∀ p∈Lib.splitB sep 0 k s,p.size<=s.size
  | 0,s,p,hp=>by
    rw [Lib.splitB_zero] at hp
    rw [List.mem_singleton.1 hp];exact Nat.le_refl _
  | k+1,s,p,hp=>by
    rcases Lib.indexB_cases s sep with hix|⟨i,hix,_⟩
    ·rw [Lib.splitB_miss sep 0 (k+1) s hix] at hp
     rw [List.mem_singleton.1 hp];exact Nat.le_refl _
    rw [Lib.splitB_hit sep 0 k s i hix] at hp
    rcases List.mem_cons.1 hp with rfl|hp
    ·rw [ByteArray.size_extract];omega
    have:=yK sep k _ p hp
    rw [ByteArray.size_extract] at this
    omega
theorem Gh {s p:ByteArray} (hp:p∈iZ s):p.size<=s.size:=yK slash _ s p hp
def lp (ps:List ByteArray):List Value:=ps.map Value.string
theorem MT {β:Bs} (hg:iU β) (s:ByteArray) (hs:s.size<=1048576):Spec Tryz.prog β 257 #[.string s,.string ⟨#[47]⟩] [] (fun v l=>∃ b,v=.slice (some ⟨b,0,none⟩) (iZ s).length (iZ s).length/\l=[.abs (aE 9 1 (some ⟨b,0,none⟩) (iZ s).length (iZ s).length (lp (iZ s)))]):=
  Spec.DT fun W hW=>by
    obtain⟨m,hg⟩:=hg
    have hm:W.cell? ⟨0,0,none⟩=some (.int .i64 m):=(World.cell?_of_block (w:=β.w0) (hW.old _ hg.1).2).trans hg.2
    have hl:=Bq s
    have hc:=xu s
    refine (Tryz.strings_Split s slash m W (by omega) hm (by decide)).mono ?_
    rintro e w' ⟨rfl,rfl⟩
    refine⟨_,_,rfl,⟨W.heap.size,by rw [hl],rfl⟩,(Keeps.refl _ _).alloc _,fun k=>k=W.heap.size,⟨⟨?_,.inr ⟨W.heap.size,(iZ s).length,(lp (iZ s)).toArray,rfl,Nat.zero_le _,?_,Nat.le_refl _,?_,?_,?_⟩⟩,fun k=>?_⟩,fun k hk=>Nat.le_of_eq hk.symm⟩
    ·simp [lp]
    ·show (W.heap.push _)[W.heap.size]?=_
     simp [lp,iZ]
    ·unfold maxLen;omega
    ·first|(simp [lp];done)|(simp [lp];exact List.take_of_length_le (by simp))
    ·first|(simp [lp];done)|(simp [lp];exact List.take_of_length_le (by simp))
    simp [Value.ownBlock,eq_comm]
theorem KO {β:Bs} {ps:List ByteArray} (hg:iU β) (s:ByteArray) (hs:s.size<=1048576) (hp:ps=iZ s):Spec Tryz.prog β 257 #[.string s,.string ⟨#[47]⟩] [] (fun v l=>∃ b,v=.slice (some ⟨b,0,none⟩) ps.length ps.length/\l=[.abs (aE 9 1 (some ⟨b,0,none⟩) ps.length ps.length (lp ps))]):=by
  subst hp;exact MT hg s hs
def pc (ps:List ByteArray) (j:Nat):ByteArray:=ps.getD j ⟨#[]⟩
theorem KP {ps:List ByteArray} {j:Nat} (hj:j < ps.length):pc ps j∈ps:=by
  unfold pc
  rw [List.getD_eq_getElem?_getD,List.getElem?_eq_getElem hj]
  exact List.getElem_mem _
theorem zG {ps:List ByteArray} {j:Nat} (hj:j < ps.length):(lp ps)[j]?=some (.string (pc ps j)):=by
  unfold lp pc
  rw [List.getElem?_map,List.getD_eq_getElem?_getD,List.getElem?_eq_getElem hj]
  rfl
theorem CD {ps:List ByteArray} {j:Nat} (hj:j < ps.length):ps.drop j=pc ps j::ps.drop (j+1):=by
  unfold pc
  rw [List.getD_eq_getElem?_getD,List.getElem?_eq_getElem hj]
  exact List.drop_eq_getElem_cons hj
theorem Fs {ps:List ByteArray}:(∀ p∈ps,bJ p)↔∀ j,j < ps.length->bJ (pc ps j):=by
  refine⟨fun h j hj=>h _ (KP hj),fun h p hp=>?_⟩
  obtain⟨j,hj,rfl⟩:=List.getElem_of_mem hp
  have:=h j hj
  unfold pc at this
  rw [List.getD_eq_getElem?_getD,List.getElem?_eq_getElem hj] at this
  exact this
theorem Dm {n:ByteArray} (h:bJ n):n.size<=1048576:=Nat.le_trans h.2.1 (by decide)
theorem Fu {O:bY}:∀ {ps:List ByteArray} {d:Nat} {e:Int},jE O d ps=.error e->e≠0
  | [],d,e,h=>by cases h;decide
  | [p],d,e,h=>by
    unfold jE at h
    split at h
    ·cases h;decide
    cases h
  | p::q::r,d,e,h=>by
    unfold jE at h
    split at h
    ·cases h;decide
    split at h
    ·cases h;decide
    split at h
    ·cases h;decide
    exact Fu h
theorem Dn {S:aG} {d:Nat} (hI:Inv S) (hd:Live S.idx ⟨d,2⟩) (path:ByteArray):(∃ e,jj S.O d path=.error e/\e≠0)\/∃ d' name,jj S.O d path=.ok (d',name)/\Live S.idx ⟨d',2⟩/\(obj S.O d').gone=false/\bJ name:=by
  cases h:jj S.O d path with
  | error e=>
    refine .inl ⟨e,rfl,?_⟩
    unfold jj at h
    split at h
    ·exact Fu h
    cases h;decide
  | ok x=>
    obtain⟨d',name⟩:=x
    exact .inr ⟨d',name,rfl,Cg hI.toInv0 hd h⟩
section way
variable {O:bY} {d:Nat} {ps:List ByteArray} {j:Nat}
theorem Dp (hj:j+1=ps.length):jE O d (ps.drop j)=if (obj O d).gone=true then .error 170 else .ok (d,pc ps j):=by
  rw [CD (by omega),List.drop_of_length_le (by omega)]
  rfl
theorem tf (hj:j+1 < ps.length):jE O d (ps.drop j)=match aU (pc ps j) (obj O d).ah with
    | none=>.error 170
    | some t=>if t.kind=3 then .error 174 else if t.kind=1 then .error 173 else jE O t.k (ps.drop (j+1)):=by
  rw [CD (j:=j) (by omega),CD (j:=j+1) hj]
  rfl
end way
section bytes
variable {P:Program} {β:Bs} {N:Nat} {ops:Array Oper} {k:Nat} {fr:Fr} {hps:List HP} {Q:Post} {d:Option Tmp} {s:ByteArray}
theorem Bs.ok.OL {β:Bs} {w:World} (h:β.ok w) (F:Nat->Prop):β.le ⟨fun k=>β.O k\/F k,w⟩:=⟨fun _ h=>.inl h,h.os,h.tape,h.output,h.size,fun k hk=>h.old k hk⟩
theorem aj.Fv {t1 t2 e:TypeId} {x:Operand} (hop:∀ junk,fw N junk ops fr k=some (.convert t1 t2 x,d)) (hx:∀ junk,dG N fr junk x=.string s) (h1:P.underlying t1=some .string) (h2:P.underlying t2=some (.slice e)) (h3:P.underlying e=some (.int .u8))
    (K:∀ b cap,s.data.toList.length<=cap->aj P β N ops (k+1) (dM fr d (.slice (some ⟨b,0,none⟩) s.data.toList.length cap)) (hps++[.abs (kq β (fun β'=>bD β' (some ⟨b,0,none⟩) s.data.toList))]) Q):aj P β N ops k fr hps Q:=by
  refine aj.DU (ι:={ p:Nat×Nat // s.data.toList.length<=p.2 }) (v:=fun p=>.slice (some ⟨p.1.1,0,none⟩) s.data.toList.length p.1.2) (hp':=fun p=>hps++[.abs (kq β (fun β'=>bD β' (some ⟨p.1.1,0,none⟩) s.data.toList))]) hop (fun o junk w ho hS=>?_) (fun p=>K p.1.1 p.1.2 p.2)
  have hr:=run_bytes_of_string (P:=P) w t1 t2 e s h1 h2 h3
  have hsz:s.data.toList.length=s.size:=Array.length_toList ..
  generalize hw:(w.drew.alloc (.cells (bytesRow s (grownCap w s.size 0 e)) e ((bytesRow s (grownCap w s.size 0 e)).size,(bytesRow s (grownCap w s.size 0 e)).size+1)))=w' at hr
  have hk:Keeps (fun _=>False) w w':=by rw [← hw];exact (Keeps.refl _ _).drew.alloc _
  have hok:=hS.1.keeps hk (fun _ _ h=>h)
  have hheap:w'.heap[w.heap.size]?=some (.cells (bytesRow s (grownCap w s.size 0 e)) e ((bytesRow s (grownCap w s.size 0 e)).size,(bytesRow s (grownCap w s.size 0 e)).size+1)):=by
    rw [← hw]
    show (w.heap.push _)[w.heap.size]?=_
    simp
  have hsize:w.heap.size < w'.heap.size:=by
    have:=(Array.getElem?_eq_some_iff.1 hheap).1
    exact this
  refine⟨⟨(w.heap.size,grownCap w s.size 0 e),by rw [hsz];exact grownCap_ge w s.size 0 e⟩,w',.inl ?_,hS.new (F:=fun k=>k=w.heap.size) ?_ hk (fun k e=>Nat.le_of_eq e.symm)⟩
  ·obtain⟨dst,op,type,pos,after,guard⟩:=o
   cases ho
   have hr2:(convert t1 t2 (.string s)).run P w=.ok (.slice (some ⟨w.heap.size,0,none⟩) s.data.toList.length (grownCap w s.size 0 e)) w':=by rw [hr,hsz]
   simp only [execOp,hx]
   simp [hr2,Result.andThen]
  refine⟨⟨fun k=>β.O k\/k=w.heap.size,w'⟩,hok.OL _,fun _ h=>h,fun _ h=>.inr h,Nat.le_refl _,fun k hk=>⟨by rw [hk];exact hsize,rfl⟩,fun j v hj=>⟨rfl,.inr rfl,?_⟩⟩
  show World.cell? w' ⟨w.heap.size,0+j,none⟩=some v
  have hj2:=bE hj
  unfold World.cell?
  rw [hheap]
  unfold bX at hj hj2
  rw [List.length_map] at hj2
  rw [List.getElem?_map,List.getElem?_eq_getElem hj2] at hj
  simp only [Option.map_some,Option.some.injEq] at hj
  subst hj
  unfold bytesRow
  rw [Nat.zero_add]
  simp only [Option.isSome_none,Bool.false_eq_true,if_false]
  have hj3:j < s.data.size:=by rw [← Array.length_toList];exact hj2
  rw [Array.getElem?_append_left (by simpa using hj3)]
  simp [uz]
  exact⟨_,Array.getElem?_eq_getElem hj3,rfl⟩
end bytes
theorem Br {β:Bs} (S:aG) (L:HL) (f m t:Nat) (hI:Inv S) (k:Nat) (hk:Live S.idx ⟨k,1⟩) (A:Option Addr) (c:Nat) (bs:List UInt8) (hbl:bs.length<=1099511627776) (hbc:bs.length<=c) :
    Spec Tryz.prog β 133 #[vP f,vP (L.b k),.slice A bs.length c] (.abs (kq β (fun β'=>bD β' A bs))::pA f m t L S) (fun v l=>∃ L2,v=.tuple #[vI (dO S k bs).1,vI (dO S k bs).2.1]/\l=pA f m t L2 (dO S k bs).2.2):=
  Spec.IC fun _ _ hA=>Di S L f m t hI k hk A c bs hA hbl hbc
def zH (L:HL):Except Int (Nat×ByteArray)->Value
  | .error e=>.tuple #[.pointer none,.string ⟨#[]⟩,.int .i64 e]
  | .ok (d,p)=>.tuple #[.pointer (some ⟨L.b d,0,none⟩),.string p,.int .i64 0]
end
section
open Go.RowKit Go.Maps bL aB
attribute [local irreducible] aj aP af ai
theorem ye {β:Bs} (S:aG) (L:HL) (f:Nat) (hI:Inv S) (d:Nat) (hd:Live S.idx ⟨d,2⟩) (path:ByteArray) (hsz:path.size<=1048576) (hg:iU β) :
    Spec Tryz.prog β 256 #[vP f,vP (L.b d),.string path] [.abs (ax (bM S.O L)),.abs (ax (cG S.O L))] (fun v l=>v=zH L (jj S.O d path)/\l=[.abs (ax (bM S.O L)),.abs (ax (cG S.O L))]):=by
 have hkd:(obj S.O d).kind=2:=hI.kind hd
 obtain⟨ps,hps⟩:∃ ps,ps=iZ path:=⟨_,rfl⟩
 have hpl:1<=ps.length/\ps.length<=1048577:=by rw [hps,Bq];have:=xu path;omega
 have KQ:∀ q,q < ps.length->(pc ps q).size<=1048576:=fun q hq=>Nat.le_trans (Gh (hps ▸ KP hq)) hsz
 refine Spec.enter Tryz.func256 rfl Tryz.ntmps256 (Nat.le_of_ble_eq_true rfl) (fun R=>?_)
 refine SR (gK 3 [] [] ?_)
 refine NS (gK 1 [(19,.string path)] [] ?_)
 refine gL [] (KO hg path hsz hps) ?_
 rintro _ _ ⟨b1,rfl,rfl⟩
 refine gK 1 [(9,.slice (some ⟨b1,0,none⟩) (ps.length) (ps.length))] [] ?_
 refine NN (af.seq (SR (gK 3 [(21,.slice (some ⟨b1,0,none⟩) (ps.length) (ps.length)),(22,vI ↑ps.length),(23,vI 0)] [] ?_)))
 refine NN (af.block ?_)
 refine af.loop (ι:=Nat) (fun (j:Nat)=>(j<=ps.length)/\(∀ q,q < j->bJ (pc ps q))) (fun (j:Nat)=>ps.length - j) (fun (j:Nat)=>[(1,vP (L.b d)),(9,.slice (some ⟨b1,0,none⟩) (ps.length) (ps.length)),(21,.slice (some ⟨b1,0,none⟩) (ps.length) (ps.length)),(22,vI ↑ps.length),(23,vI ↑j)]) (fun (j:Nat)=>[pO S.O L,pE S.O L,.abs (aE 9 1 (some ⟨b1,0,none⟩) ps.length ps.length (lp ps)),.abs R]) 0 (idx:=[1,9,21,22,23]) (pk:=[1,2,0,3]) (show (0<=ps.length)/\(∀ q,q < 0->bJ (pc ps q)) from ⟨Nat.zero_le _,fun q h=>absurd h (Nat.not_lt_zero q)⟩) (fun _=>by kernel_rfl) rfl (by kernel_rfl) ?_
 rintro j ⟨hj,hgd⟩
 show af _ _ _ _ [(1,vP (L.b d)),(9,.slice (some ⟨b1,0,none⟩) (ps.length) (ps.length)),(21,.slice (some ⟨b1,0,none⟩) (ps.length) (ps.length)),(22,vI ↑ps.length),(23,vI ↑j)] [pO S.O L,pE S.O L,.abs (aE 9 1 (some ⟨b1,0,none⟩) ps.length ps.length (lp ps)),.abs R] _
 refine SR (gK 1 [(24,.bool (decide ((((j:Nat):Int):Int) < (((ps.length:Nat):Int):Int))))] [] ?_)
 refine NN (af.seq (af.bg (p:=(((j:Nat):Int):Int) < (((ps.length:Nat):Int):Int)) (fun _=>by kernel_rfl) (fun Bl=>?_) (fun Bl=>?_)))
 ·refine af.skip (NX (af.seq (af.block (SR ?_))))
  refine gK 3 [(11,.string (pc ps j))] [(0,p_ ⟨[],some j,none,none,some (.pointer (some ⟨b1,j,none⟩))⟩ [(Value.pointer (some ⟨b1,0+j * 1,none⟩))=(.pointer (some ⟨b1,j,none⟩)),((j:Nat):Int)=((j:Nat):Int),j < ps.length,(⟨b1,0,none⟩:Addr).spot=none] ⟨by simp,rfl,by omega,rfl,trivial⟩),(1,p_ ⟨[.view 2 (.string (pc ps j))],none,none,none,none⟩ [(∀ F w,(aE 9 1 (some ⟨b1,0,none⟩) ps.length ps.length (lp ps)).h F w->w.cell? ⟨b1,j,none⟩=some (.string (pc ps j)))] ⟨aE.cell (zG (by omega)),trivial⟩)] ?_
  refine NS (gK 1 [(27,.string (pc ps j))] [] ?_)
  refine gL [] (rB (pc ps j) (by have:=KQ j (by omega);omega)) ?_
  rintro _ _ ⟨rfl,rfl⟩
  refine gK 1 [(29,.bool (!(decide (bJ (pc ps j)))))] [] ?_
  refine NN (af.cY (p:=bJ (pc ps j)) (fun _=>by kernel_rfl) (fun KR=>?_) (fun KR=>?_))
  ·refine SR (gK 3 [(6,.pointer none),(7,.string ⟨#[]⟩),(8,vI 95)] [] ?_)
   refine NN (af.ret (ai.aF (ai.ak (ai.ak (ai.aF (ai.ak ?_))))))
   exact RT (l:=[.abs (ax (bM S.O L)),.abs (ax (cG S.O L))]) (.tuple #[.pointer none,.string ⟨#[]⟩,vI 95]) [0,1,3] (⟨congrArg (zH L) (Eq.symm (show jj S.O d path=.error 95 from if_neg (fun h=>KR (Fs.1 (hps ▸ h) j (by omega))))),rfl⟩)
  refine af.skip (ai.aJ (NX (af.region ?_)))
  refine gK 2 [(23,vI ↑(j+1))] [(0,p_ ⟨[],none,none,none,some (vI ↑(j+1))⟩ [(Value.int .i64 (IntKind.wrap .i64 (((j:Nat):Int)+1)))=(.int .i64 ↑(j+1))] ⟨bw (by omega) (by omega) (by omega),trivial⟩)] ?_
  refine NL ?_
  exact ai.turn ((j+1)) (idx:=[1,9,21,22,23]) (pk:=[0,1,2,3]) (show (((j+1))<=ps.length)/\(∀ q,q < ((j+1))->bJ (pc ps q)) from ⟨by omega,fun q hq=>(Nat.lt_succ_iff_lt_or_eq.1 hq).elim (hgd q) (fun e=>e ▸ KR)⟩) (by show ps.length - ((j+1)) < ps.length - j;omega) (fun _=>by kernel_rfl) rfl (by kernel_rfl)
 refine af.exit (ai.aX (ai.aX (ai.cV (NX (SR ?_)))))
 have hall:∀ p∈ps,bJ p:=Fs.2 (fun q hq=>hgd q (by omega))
 refine gK 4 [(12,vI ↑(ps.length - 1))] [(2,p_ ⟨[],none,none,none,some (vI ↑(ps.length - 1))⟩ [(Value.int .i64 (IntKind.wrap .i64 (((ps.length:Nat):Int) - 1)))=(.int .i64 ↑(ps.length - 1))] ⟨bw (by omega) (by omega) (by omega),trivial⟩)] ?_
 refine NN (af.seq (SR (gK 5 [(36,.slice (some ⟨b1,0,none⟩) ((ps.length - 1)) (ps.length)),(37,vI ↑(ps.length - 1)),(38,vI 0)] [(2,p_ ⟨[],some (ps.length - 1),none,none,none⟩ [(((ps.length - 1):Nat):Int)=(((ps.length - 1):Nat):Int),(ps.length - 1)<=ps.length] ⟨rfl,by omega,trivial⟩)] ?_)))
 refine NN (af.block ?_)
 refine af.loop (ι:=Nat×Nat) (fun ((j,e):Nat×Nat)=>(j<=ps.length - 1)/\(Live S.idx ⟨e,2⟩)/\(jE S.O d ps=jE S.O e (ps.drop j))) (fun ((j,e):Nat×Nat)=>ps.length - 1 - j) (fun ((j,e):Nat×Nat)=>[(1,vP (L.b e)),(9,.slice (some ⟨b1,0,none⟩) (ps.length) (ps.length)),(12,vI ↑(ps.length - 1)),(36,.slice (some ⟨b1,0,none⟩) ((ps.length - 1)) (ps.length)),(37,vI ↑(ps.length - 1)),(38,vI ↑j)]) (fun ((j,e):Nat×Nat)=>[pO S.O L,pE S.O L,.abs (aE 9 1 (some ⟨b1,0,none⟩) ps.length ps.length (lp ps)),.abs R]) (0,d) (idx:=[1,9,12,36,37,38]) (pk:=[0,1,2,3]) (show (0<=ps.length - 1)/\(Live S.idx ⟨d,2⟩)/\(jE S.O d ps=jE S.O d (ps.drop 0)) from ⟨Nat.zero_le _,hd,by rw [List.drop_zero]⟩) (fun _=>by kernel_rfl) rfl (by kernel_rfl) ?_
 rintro⟨j,e⟩ ⟨hj,hle,hw⟩
 show af _ _ _ _ [(1,vP (L.b e)),(9,.slice (some ⟨b1,0,none⟩) (ps.length) (ps.length)),(12,vI ↑(ps.length - 1)),(36,.slice (some ⟨b1,0,none⟩) ((ps.length - 1)) (ps.length)),(37,vI ↑(ps.length - 1)),(38,vI ↑j)] [pO S.O L,pE S.O L,.abs (aE 9 1 (some ⟨b1,0,none⟩) ps.length ps.length (lp ps)),.abs R] _
 have hke:(obj S.O e).kind=2:=hI.kind hle
 refine SR (gK 1 [(39,.bool (decide ((((j:Nat):Int):Int) < ((((ps.length - 1):Nat):Int):Int))))] [] ?_)
 refine NN (af.seq (af.bg (p:=(((j:Nat):Int):Int) < ((((ps.length - 1):Nat):Int):Int)) (fun _=>by kernel_rfl) (fun iW=>?_) (fun iW=>?_)))
 ·have oh:(pc ps j).size<=1048576:=KQ j (by omega)
  have hee:(obj S.O e).ah.length<=8192:=hI.fU hle
  refine af.skip (NX (af.seq (af.block (SR ?_))))
  refine gK 3 [(14,.string (pc ps j))] [(0,p_ ⟨[],some j,none,none,some (.pointer (some ⟨b1,j,none⟩))⟩ [(Value.pointer (some ⟨b1,0+j * 1,none⟩))=(.pointer (some ⟨b1,j,none⟩)),((j:Nat):Int)=((j:Nat):Int),j < (ps.length - 1),(⟨b1,0,none⟩:Addr).spot=none] ⟨by simp,rfl,by omega,rfl,trivial⟩),(1,p_ ⟨[.view 2 (.string (pc ps j))],none,none,none,none⟩ [(∀ F w,(aE 9 1 (some ⟨b1,0,none⟩) ps.length ps.length (lp ps)).h F w->w.cell? ⟨b1,j,none⟩=some (.string (pc ps j)))] ⟨aE.cell (zG (by omega)),trivial⟩)] ?_
  refine NN (af.seq ?_)
  rcases hI.lD hle (pc ps j) with hlk|⟨tk,hlk,hlv⟩|⟨tk,hlk,hlv⟩|⟨tk,hlk,hlv⟩
  ·refine af.region (gK 5 [(45,.map (some (L.m e))),(46,.string (pc ps j))] [(3,v_ 0 (bC L hke))] ?_)
   refine iu 1 hke hlk ?_
   refine NN (af.block (SR ?_))
   refine gK 1 [(48,.bool true)] [] ?_
   refine NN (CT (SR (gK 1 [] [] ?_)))
   refine NS (gK 3 [(6,.pointer none),(7,.string ⟨#[]⟩),(8,vI 170)] [] ?_)
   refine NN (af.ret (ai.aF (ai.aF (ai.ak (ai.ak (ai.aF (ai.ak ?_)))))))
   exact RT (l:=[.abs (ax (bM S.O L)),.abs (ax (cG S.O L))]) (.tuple #[.pointer none,.string ⟨#[]⟩,vI 170]) [0,1,3] (⟨congrArg (zH L) (Eq.symm (show jj S.O d path=.error 170 from (show jj S.O d path=jE S.O d ps by unfold jj;rw [← hps];exact if_pos hall).trans (hw.trans ((tf (by omega)).trans (by rw [hlk]<;>rfl))))),rfl⟩)
  ·have hkt:(obj S.O tk).kind=1:=hI.kind hlv
   refine af.region (gK 5 [(45,.map (some (L.m e))),(46,.string (pc ps j))] [(3,v_ 0 (bC L hke))] ?_)
   refine iu 1 hke hlk ?_
   refine NN (af.block (SR ?_))
   refine gK 1 [(48,.bool false)] [] ?_
   refine NN (CF (SR (gK 3 [(50,.bool false),(51,.pointer none)] [] ?_)))
   refine NN (CF (SR (gK 3 [(53,.bool true),(54,vP (L.b tk))] [] ?_)))
   refine NN (CT (SR (gK 1 [] [] ?_)))
   refine NS (gK 3 [(6,.pointer none),(7,.string ⟨#[]⟩),(8,vI 173)] [] ?_)
   refine NN (af.ret (ai.aF (ai.aF (ai.ak (ai.ak (ai.aF (ai.ak ?_)))))))
   exact RT (l:=[.abs (ax (bM S.O L)),.abs (ax (cG S.O L))]) (.tuple #[.pointer none,.string ⟨#[]⟩,vI 173]) [0,1,3] (⟨congrArg (zH L) (Eq.symm (show jj S.O d path=.error 173 from (show jj S.O d path=jE S.O d ps by unfold jj;rw [← hps];exact if_pos hall).trans (hw.trans ((tf (by omega)).trans (by rw [hlk]<;>rfl))))),rfl⟩)
  ·have hkt:(obj S.O tk).kind=2:=hI.kind hlv
   refine af.region (gK 5 [(45,.map (some (L.m e))),(46,.string (pc ps j))] [(3,v_ 0 (bC L hke))] ?_)
   refine iu 1 hke hlk ?_
   refine NN (af.block (SR ?_))
   refine gK 1 [(48,.bool false)] [] ?_
   refine NN (CF (SR (gK 3 [(50,.bool false),(51,.pointer none)] [] ?_)))
   refine NN (CF (SR (gK 3 [(53,.bool false),(54,.pointer none)] [] ?_)))
   refine NN (CF (SR (gK 3 [(56,.bool true),(57,vP (L.b tk))] [] ?_)))
   refine NN (CT (SR (gK 1 [(18,vP (L.b tk))] [] ?_)))
   refine NN (af.region (gK 2 [(1,vP (L.b tk))] [] ?_))
   refine NL (ai.aJ (ai.aJ (NX (af.region ?_))))
   refine gK 2 [(38,vI ↑(j+1))] [(0,p_ ⟨[],none,none,none,some (vI ↑(j+1))⟩ [(Value.int .i64 (IntKind.wrap .i64 (((j:Nat):Int)+1)))=(.int .i64 ↑(j+1))] ⟨bw (by omega) (by omega) (by omega),trivial⟩)] ?_
   refine NL ?_
   exact ai.turn ((j+1),tk) (idx:=[1,9,12,36,37,38]) (pk:=[0,1,2,3]) (show (((j+1))<=ps.length - 1)/\(Live S.idx ⟨tk,2⟩)/\(jE S.O d ps=jE S.O tk (ps.drop ((j+1)))) from ⟨by omega,hlv,hw.trans ((tf (by omega)).trans (by rw [hlk]<;>rfl))⟩) (by show ps.length - 1 - ((j+1)) < ps.length - 1 - j;omega) (fun _=>by kernel_rfl) rfl (by kernel_rfl)
  have hkt:(obj S.O tk).kind=3:=hI.kind hlv
  refine af.region (gK 5 [(45,.map (some (L.m e))),(46,.string (pc ps j))] [(3,v_ 0 (bC L hke))] ?_)
  refine iu 1 hke hlk ?_
  refine NN (af.block (SR ?_))
  refine gK 1 [(48,.bool false)] [] ?_
  refine NN (CF (SR (gK 3 [(50,.bool true),(51,vP (L.b tk))] [] ?_)))
  refine NN (CT (SR (gK 1 [] [] ?_)))
  refine NS (gK 3 [(6,.pointer none),(7,.string ⟨#[]⟩),(8,vI 174)] [] ?_)
  refine NN (af.ret (ai.aF (ai.aF (ai.ak (ai.ak (ai.aF (ai.ak ?_)))))))
  exact RT (l:=[.abs (ax (bM S.O L)),.abs (ax (cG S.O L))]) (.tuple #[.pointer none,.string ⟨#[]⟩,vI 174]) [0,1,3] (⟨congrArg (zH L) (Eq.symm (show jj S.O d path=.error 174 from (show jj S.O d path=jE S.O d ps by unfold jj;rw [← hps];exact if_pos hall).trans (hw.trans ((tf (by omega)).trans (by rw [hlk]<;>rfl))))),rfl⟩)
 have ej:j=ps.length - 1:=by omega
 refine af.exit (ai.aX (ai.aX (ai.cV (NX (af.seq (SR ?_))))))
 refine gK 5 [(64,.bool (obj S.O e).gone)] [(4,v_ 0 (mT L hke))] ?_
 refine NN (af.cond (b:=(obj S.O e).gone) (fun _=>by kernel_rfl) (fun QG=>?_) (fun QG=>?_))
 ·refine SR (gK 3 [(6,.pointer none),(7,.string ⟨#[]⟩),(8,vI 170)] [] ?_)
  refine NN (af.ret (ai.ak ?_))
  exact RT (l:=[.abs (ax (bM S.O L)),.abs (ax (cG S.O L))]) (.tuple #[.pointer none,.string ⟨#[]⟩,vI 170]) [0,1,3] (⟨congrArg (zH L) (Eq.symm ((show jj S.O d path=jE S.O d ps by unfold jj;rw [← hps];exact if_pos hall).trans (hw.trans ((Dp (by omega)).trans (if_pos QG))))),rfl⟩)
 refine af.skip (NX (af.seq (af.bI (by kernel_rfl) (by kernel_rfl) ?_)))
 refine gQ 8 [(6,vP (L.b e)),(7,.string (pc ps (ps.length - 1))),(8,vI 0)] [(3,p_ ⟨[],some (ps.length - 1),none,none,some (.pointer (some ⟨b1,(ps.length - 1),none⟩))⟩ [(Value.pointer (some ⟨b1,0+(ps.length - 1) * 1,none⟩))=(.pointer (some ⟨b1,(ps.length - 1),none⟩)),(((ps.length - 1):Nat):Int)=(((ps.length - 1):Nat):Int),(ps.length - 1) < ps.length,(⟨b1,0,none⟩:Addr).spot=none] ⟨by simp,rfl,by omega,rfl,trivial⟩),(4,p_ ⟨[.view 2 (.string (pc ps (ps.length - 1)))],none,none,none,none⟩ [(∀ F w,(aE 9 1 (some ⟨b1,0,none⟩) ps.length ps.length (lp ps)).h F w->w.cell? ⟨b1,(ps.length - 1),none⟩=some (.string (pc ps (ps.length - 1))))] ⟨aE.cell (zG (by omega)),trivial⟩)] ?_
 refine NQ (NX (af.ret ?_))
 exact RT (l:=[.abs (ax (bM S.O L)),.abs (ax (cG S.O L))]) (.tuple #[vP (L.b e),.string (pc ps (ps.length - 1)),vI 0]) [0,1,3] (⟨by rw [← ej];exact congrArg (zH L) (Eq.symm (show jj S.O d path=.ok (e,pc ps j) from (show jj S.O d path=jE S.O d ps by unfold jj;rw [← hps];exact if_pos hall).trans (hw.trans ((Dp (by omega)).trans (if_neg (by rw [QG];exact Bool.false_ne_true)))))),rfl⟩)
end
section
open Go.RowKit Go.Maps bL aB
attribute [local irreducible] aj aP af ai
theorem OM {β:Bs} (S:aG) (L:HL) (f m t:Nat) (hI:Inv S) (root:Int) (hrw:(Lit.int .i64 root).wf=true) (a:cQ) (KQ:a.path.size<=1048576) (NE:a.to.size<=1048576) (hxz:a.text.size<=1048576) (hg:iU β) :
    Spec Tryz.prog β 255 #[vP f,vI (root),.agg #[vI (a.at_),vI (a.op),.string a.path,.string a.to,.string a.text]] [.blk f [vI (S.X.cN),vI (S.X.cB),vI (S.X.cH),vI (S.X.cS),vI (S.X.cZ),.map (some m),vP t,vI (S.X.last),vI (S.X.ah),vI (S.X.used)] 126,.abs (aL Tryz.prog 3 m (bh (bn L S.idx)) S.idx.length),.abs (cM 197 t S.X.cH S.av (bn L S.us)),.abs (ax (bM S.O L)),.abs (ax (bN S.O L)),.abs (ax (cG S.O L))] (fun v l=>∃ L2,v=vI (cU S root a).1/\l=[.blk f [vI ((cU S root a).2.X.cN),vI ((cU S root a).2.X.cB),vI ((cU S root a).2.X.cH),vI ((cU S root a).2.X.cS),vI ((cU S root a).2.X.cZ),.map (some m),vP t,vI ((cU S root a).2.X.last),vI ((cU S root a).2.X.ah),vI ((cU S root a).2.X.used)] 126,.abs (aL Tryz.prog 3 m (bh (bn L2 (cU S root a).2.idx)) ((cU S root a).2.idx.length)),.abs (cM 197 t (cU S root a).2.X.cH ((cU S root a).2.av) (bn L2 ((cU S root a).2.us))),.abs (ax (bM ((cU S root a).2.O) L2)),.abs (ax (bN ((cU S root a).2.O) L2)),.abs (ax (cG ((cU S root a).2.O) L2))]):=by
 have hX:=hI.hX
 refine Spec.enter Tryz.func255 rfl Tryz.ntmps255 (Nat.le_of_ble_eq_true rfl) (fun R=>?_)
 refine SR (gN 2 (fun b1=>[(5,vP b1)]) (fun _=>[]) (fun _=>[]) (fun b1=>.blk b1 [vI (a.at_),vI (a.op),.string a.path,.string a.to,.string a.text] 41) (fun b1=>?_))
 refine NN (af.seq (SR (gK 4 [(25,.bool (decide ((a.op:Int) < (1:Int))))] [(1,a_ 7 b1)] ?_)))
 refine aj.fR 25 ((a.op:Int) < (1:Int)) (fun _=>by kernel_rfl) (fun vC=>?_) (fun vC=>?_)
 ·refine gK 4 [(29,.bool true)] [] ?_
  refine NN (CT (SR (gK 1 [(6,vI 230)] [] ?_)))
  refine NN (af.ret (ai.ak ?_))
  exact RT (vI 230) [0,1,2,3,4,5,6] (⟨L,by rw [show (cU S root a)=(230,S) by unfold cU;exact if_pos (by omega)]<;>exact⟨rfl,rfl⟩⟩)
 refine gK 4 [(29,.bool (decide ((a.op:Int) > (7:Int))))] [(1,a_ 7 b1)] ?_
 refine NN (af.bg (p:=(a.op:Int) > (7:Int)) (fun _=>by kernel_rfl) (fun KR=>?_) (fun KR=>?_))
 ·refine SR (gK 1 [(6,vI 230)] [] ?_)
  refine NN (af.ret (ai.ak ?_))
  exact RT (vI 230) [0,1,2,3,4,5,6] (⟨L,by rw [show (cU S root a)=(230,S) by unfold cU;exact if_pos (by omega)]<;>exact⟨rfl,rfl⟩⟩)
 refine af.skip (NX (af.seq ?_))
 rcases hI.PF root with hix|⟨tk,hix,hlv⟩|⟨tk,hix,hlv⟩|⟨tk,hix,hlv⟩
 ·refine af.region (gK 5 [(33,.map (some m)),(34,vI (root))] [(3,a_ 0 f)] ?_)
  refine aj.d9 1 (d:=(some 35)) (t:=120) (K:=3) (E:=124) (b:=m) (n:=S.idx.length) (f:=(bh (bn L S.idx))) (x:=(.tmp 33)) (ix:=(.tmp 34)) (key:=.int .i64 (root)) (z:=.nilIface) (kl:=(.int .i64 root)) (r:=none) (fun _=>by kernel_rfl) (by kernel_rfl) (fun _=>by kernel_rfl) (fun _=>by kernel_rfl) dX Tryz.underlying120 (fun _=>by kernel_rfl) (gJ hrw) (by rw [eY,hix];rfl) ?_
  refine gK 1 [(7,.nilIface)] [] ?_
  refine NN (af.seq (SR (gK 2 [(37,.bool true)] [] ?_)))
  refine NN (CT (SR (gK 1 [(6,vI 141)] [] ?_)))
  refine NN (af.ret (ai.ak ?_))
  exact RT (vI 141) [0,1,2,3,4,5,6] (⟨L,by rw [show (cU S root a)=(141,S) by unfold cU;rw [if_neg (by omega),hix]]<;>exact⟨rfl,rfl⟩⟩)
 ·have hkt:(obj S.O tk).kind=1:=hI.kind hlv
  refine af.region (gK 5 [(33,.map (some m)),(34,vI (root))] [(3,a_ 0 f)] ?_)
  refine aj.d9 1 (d:=(some 35)) (t:=120) (K:=3) (E:=124) (b:=m) (n:=S.idx.length) (f:=(bh (bn L S.idx))) (x:=(.tmp 33)) (ix:=(.tmp 34)) (key:=.int .i64 (root)) (z:=.nilIface) (kl:=(.int .i64 root)) (r:=(some (dJ L ⟨tk,1⟩))) (fun _=>by kernel_rfl) (by kernel_rfl) (fun _=>by kernel_rfl) (fun _=>by kernel_rfl) dX Tryz.underlying120 (fun _=>by kernel_rfl) (gJ hrw) (by rw [eY,hix];rfl) ?_
  refine gK 1 [(7,.iface 129 (vP (L.b tk)))] [] ?_
  refine NN (af.seq (SR (gK 2 [(37,.bool false)] [] ?_)))
  refine NN (CF (af.skip (NX (SR (gK 7 [(8,.pointer none),(9,.bool false)] [] ?_)))))
  refine NN (af.seq (SR (gK 2 [(44,.bool true)] [] ?_)))
  refine NN (CT (SR (gK 1 [(6,vI 173)] [] ?_)))
  refine NN (af.ret (ai.ak ?_))
  exact RT (vI 173) [0,1,2,3,4,5,6] (⟨L,by rw [show (cU S root a)=(173,S) by unfold cU;rw [if_neg (by omega),hix];simp only;exact if_neg (by simp)]<;>exact⟨rfl,rfl⟩⟩)
 ·have hkt:(obj S.O tk).kind=2:=hI.kind hlv
  refine af.region (gK 5 [(33,.map (some m)),(34,vI (root))] [(3,a_ 0 f)] ?_)
  refine aj.d9 1 (d:=(some 35)) (t:=120) (K:=3) (E:=124) (b:=m) (n:=S.idx.length) (f:=(bh (bn L S.idx))) (x:=(.tmp 33)) (ix:=(.tmp 34)) (key:=.int .i64 (root)) (z:=.nilIface) (kl:=(.int .i64 root)) (r:=(some (dJ L ⟨tk,2⟩))) (fun _=>by kernel_rfl) (by kernel_rfl) (fun _=>by kernel_rfl) (fun _=>by kernel_rfl) dX Tryz.underlying120 (fun _=>by kernel_rfl) (gJ hrw) (by rw [eY,hix];rfl) ?_
  refine gK 1 [(7,.iface 135 (vP (L.b tk)))] [] ?_
  refine NN (af.seq (SR (gK 2 [(37,.bool false)] [] ?_)))
  refine NN (CF (af.skip (NX (SR (gK 7 [(8,vP (L.b tk)),(9,.bool true)] [] ?_)))))
  refine NN (af.seq (SR (gK 2 [(44,.bool false)] [] ?_)))
  refine NN (CF (af.skip (NX (SR (gK 4 [(46,vP f),(47,vP (L.b tk)),(49,.string a.path)] [(3,a_ 7 b1)] ?_)))))
  rcases Dn hI hlv a.path with ⟨e,jv,hne⟩|⟨d,name,jv,hd,iN,iH⟩
  ·refine gL (f:=256) (args:=#[vP f,vP (L.b tk),.string a.path]) (pre:=[.abs (ax (bM S.O L)),.abs (ax (cG S.O L))]) [3,5] ((by have h:=ye (β:=β) S L f hI tk hlv a.path KQ hg;rw [jv] at h;exact h)) ?_
   rintro _ _ ⟨rfl,rfl⟩
   refine gK 7 [(10,.pointer none),(11,.string ⟨#[]⟩),(12,vI (e))] [] ?_
   refine NN (af.seq (SR (gK 2 [(55,.bool (!(decide ((e:Int)=(0:Int)))))] [] ?_)))
   refine NN (af.cY (p:=(e:Int)=(0:Int)) (fun _=>by kernel_rfl) (fun SN=>?_) (fun SN=>?_))
   ·refine SR (gK 2 [(6,vI (e))] [] ?_)
    refine NN (af.ret (ai.ak ?_))
    exact RT (vI (e)) [2,3,4,0,5,1,6] (⟨L,by rw [show (cU S root a)=(e,S) by unfold cU;rw [if_neg (by omega),hix];simp only;rw [if_pos trivial,jv]]<;>exact⟨rfl,rfl⟩⟩)
   exact absurd SN hne
  have hkd:(obj S.O d).kind=2:=hI.kind hd
  have hsz:name.size<=1048576:=Dm iH
  refine gL (f:=256) (args:=#[vP f,vP (L.b tk),.string a.path]) (pre:=[.abs (ax (bM S.O L)),.abs (ax (cG S.O L))]) [3,5] ((by have h:=ye (β:=β) S L f hI tk hlv a.path KQ hg;rw [jv] at h;exact h)) ?_
  rintro _ _ ⟨rfl,rfl⟩
  refine gK 7 [(10,vP (L.b d)),(11,.string name),(12,vI 0)] [] ?_
  refine NN (af.seq (SR (gK 2 [(55,.bool false)] [] ?_)))
  refine NN (CF (af.skip (NX (af.seq (SR (gK 2 [(58,vI (a.op))] [(1,a_ 7 b1)] ?_))))))
  refine NN (af.block (SR ?_))
  refine gK 2 [(59,.bool (decide ((a.op:Int)=(1:Int))))] [] ?_
  refine NN (af.bg (p:=(a.op:Int)=(1:Int)) (fun _=>by kernel_rfl) (fun UM=>?_) (fun UM=>?_))
  ·refine af.seq (SR (gK 3 [(61,vP f),(62,vP (L.b d)),(63,.string name)] [] ?_))
   refine gL [2,3,1,0] (sS S L f m t hI d hd name hsz) ?_
   rintro _ _ ⟨rfl,rfl⟩
   refine gK 1 [(12,vI ((bZ S.X S.O S.idx d name)))] [] ?_
   refine NS (gK 2 [(66,.bool (!(decide (((bZ S.X S.O S.idx d name):Int)=(0:Int)))))] [] ?_)
   refine NN (af.cY (p:=((bZ S.X S.O S.idx d name):Int)=(0:Int)) (fun _=>by kernel_rfl) (fun h0=>?_) (fun h0=>?_))
   ·refine SR (gK 2 [(6,vI ((bZ S.X S.O S.idx d name)))] [] ?_)
    refine NN (af.ret (ai.ak (ai.aF (ai.ak ?_))))
    exact RT (vI ((bZ S.X S.O S.idx d name))) [0,1,4,3,5,2,6] (⟨L,by rw [show (cU S root a)=(bZ S.X S.O S.idx d name,S) by unfold cU;rw [if_neg (by omega),hix];simp only;rw [if_pos trivial,jv];simp only;unfold lP;rw [if_pos (by omega)];unfold rK;exact if_neg h0]<;>exact⟨rfl,rfl⟩⟩)
   have hno:=nL h0
   refine af.skip (NX (SR (gK 1 [(68,vP f)] [] ?_)))
   refine gL [0] (sR S.X f m t hX 420) ?_
   rintro _ _ ⟨rfl,rfl⟩
   refine gN 2 (fun b2=>[(71,vP b2)]) (fun _=>[]) (fun _=>[]) (fun b2=>.blk b2 [vI (S.X.last+1),vI (420),vI 0,vI 0,vI (S.X.cS),vI (S.X.cZ),vI 0,vI 0,.bool false,.slice none (0) (0)] 131) (fun b2=>?_)
   obtain⟨L2,hL2⟩:∃ L2:HL,L2=L.put (aN S.X) b2 0 none 0:=⟨_,rfl⟩
   have hfr:=hI.toInv0.fresh
   refine aj.mem (cL:=[.abs (ax (bM (ay S.O (aN S.X) (fun _=>(aV S.X 1 420))) L2)),.blk f [vI (S.X.cN),vI (S.X.cB),vI (S.X.cH),vI (S.X.cS),vI (S.X.cZ),.map (some m),vP t,vI (S.X.last+1),vI (S.X.ah),vI (S.X.used)] 126,.abs (aL Tryz.prog 3 m (bh (bn L S.idx)) S.idx.length),.abs (ax (cG S.O L)),.abs (cM 197 t S.X.cH S.av (bn L S.us)),.abs (ax (bN S.O L)),.abs R,.blk b1 [vI (a.at_),vI (a.op),.string a.path,.string a.to,.string a.text] 41]) (fun w hS=>hS.sN hL2 hfr (o:=(aV S.X 1 420)) (i:=3) (j:=8) (ix:=[0,1,2,4,5,6,7]) rfl rfl (by kernel_rfl) rfl (by show (1:Int)≠0;decide) ((gM (L:=L2) (k:=(aN S.X)) (o:=(aV S.X 1 420)) rfl).trans (by rw [show L2.dA (aN S.X)=none by rw [hL2];exact if_pos rfl,show L2.dC (aN S.X)=0 by rw [hL2];exact if_pos rfl];rfl)) rfl) ?_
   refine aj.dz [(3,pE (ay S.O (aN S.X) (fun _=>(aV S.X 1 420))) L2)] (fun w hS=>hS.tW hL2 hfr (o:=(aV S.X 1 420)) (i:=3) rfl (by show (1:Int)≠2;decide)) ?_
   refine aj.mem (cL:=[pO (ay S.O (aN S.X) (fun _=>(aV S.X 1 420))) L2,pF f m t { S.X with last:=S.X.last+1 },pI m L S.idx,pE (ay S.O (aN S.X) (fun _=>(aV S.X 1 420))) L2,pT t S.X.cH S.av L S.us,pD S.O L,.abs R,.blk b1 [vI (a.at_),vI (a.op),.string a.path,.string a.to,.string a.text] 41,.abs (aE 5 1 none 0 0 ([]))]) (fun w hS=>hS.jL (e:=5) (size:=1)) ?_
   refine aj.mem (cL:=[pD (ay S.O (aN S.X) (fun _=>(aV S.X 1 420))) L2,pO (ay S.O (aN S.X) (fun _=>(aV S.X 1 420))) L2,pF f m t { S.X with last:=S.X.last+1 },pI m L S.idx,pE (ay S.O (aN S.X) (fun _=>(aV S.X 1 420))) L2,pT t S.X.cH S.av L S.us,.abs R,.blk b1 [vI (a.at_),vI (a.op),.string a.path,.string a.to,.string a.text] 41]) (fun w hS=>hS.H9 hL2 (o:=(aV S.X 1 420)) (i:=5) (j:=8) (ix:=[0,1,2,3,4,6,7]) rfl rfl (by kernel_rfl) rfl rfl rfl) ?_
   refine aj.dz [(3,.abs (aL Tryz.prog 3 m (bh (bn L2 S.idx)) S.idx.length)),(5,.abs (cM 197 t S.X.cH S.av (bn L2 S.us)))] (fun w hS=>by rw [gn hL2 hfr.idx,gn hL2 hfr.us];exact hS) ?_
   refine gK 1 [(13,vP b2)] [] ?_
   refine NS (gK 5 [(72,vP f),(73,vP (L.b d)),(74,.string name),(76,.iface 129 (vP b2))] [] ?_)
   refine gL (f:=127) (args:=#[vP f,vP (L.b d),.string name,.iface 129 (vP b2)]) (pre:=[.blk f [vI (S.X.cN),vI (S.X.cB),vI (S.X.cH),vI (S.X.cS),vI (S.X.cZ),.map (some m),vP t,vI (S.X.last+1),vI (S.X.ah),vI (S.X.used)] 126,.abs (aL Tryz.prog 3 m (bh (bn L2 S.idx)) S.idx.length),.abs (ax (bM (ay S.O (aN S.X) (fun _=>(aV S.X 1 420))) L2)),.abs (ax (cG (ay S.O (aN S.X) (fun _=>(aV S.X 1 420))) L2))]) [2,3,1,4] ((by have h:=qM (β:=β) S L2 f m t hI.toInv0 d hd name hsz hno (aV S.X 1 420) rfl (by simp [aV]) rfl (pH h0);rw [uP hL2 (hI.tV hd),nK hL2] at h;exact h)) ?_
   rintro _ _ ⟨rfl,rfl⟩
   refine NS (aj.dz [(4,.abs (ax (bN ((eU S d name (aV S.X 1 420)).O) L2)))] (fun w hS=>by rw [show bN ((eU S d name (aV S.X 1 420)).O) L2=bN (ay S.O (aN S.X) (fun _=>(aV S.X 1 420))) L2 from gS];exact hS) ?_)
   have KS:Inv (eU S d name (aV S.X 1 420)):=hI.DJ hd iN iH h0 (.inl rfl) ⟨by decide,by decide⟩ (.inl ⟨by decide,rfl⟩)
   have UN:Live (eU S d name (aV S.X 1 420)).idx ⟨(aN S.X),1⟩:=EH hI (o:=(aV S.X 1 420))
   refine gK 4 [(78,vP f),(79,vP b2),(81,.string a.text)] [(3,a_ 7 b1)] ?_
   refine aj.Fv (d:=(some 82)) (t1:=9) (t2:=46) (e:=5) (x:=(.tmp 81)) (s:=a.text) (fun _=>by kernel_rfl) (fun _=>by kernel_rfl) Tryz.underlying9 Tryz.underlying46 Tryz.underlying5 (fun b3 c4 TP=>?_)
   refine gL (f:=133) (args:=#[vP f,vP b2,.slice (some ⟨b3,0,none⟩) (a.text.data.toList.length) (c4)]) (pre:=[.abs (kq β (fun β'=>bD β' (some ⟨b3,0,none⟩) a.text.data.toList)),.blk f [vI ((eU S d name (aV S.X 1 420)).X.cN),vI ((eU S d name (aV S.X 1 420)).X.cB),vI ((eU S d name (aV S.X 1 420)).X.cH),vI ((eU S d name (aV S.X 1 420)).X.cS),vI ((eU S d name (aV S.X 1 420)).X.cZ),.map (some m),vP t,vI ((eU S d name (aV S.X 1 420)).X.last),vI ((eU S d name (aV S.X 1 420)).X.ah),vI ((eU S d name (aV S.X 1 420)).X.used)] 126,.abs (aL Tryz.prog 3 m (bh (bn L2 (eU S d name (aV S.X 1 420)).idx)) ((eU S d name (aV S.X 1 420)).idx.length)),.abs (cM 197 t S.X.cH S.av (bn L2 S.us)),.abs (ax (bM ((eU S d name (aV S.X 1 420)).O) L2)),.abs (ax (bN ((eU S d name (aV S.X 1 420)).O) L2)),.abs (ax (cG ((eU S d name (aV S.X 1 420)).O) L2))]) [8,0,1,5,2,4,3] ((by have h:=Br (β:=β) (eU S d name (aV S.X 1 420)) L2 f m t KS (aN S.X) UN (some ⟨b3,0,none⟩) c4 a.text.data.toList (by rw [Array.length_toList];have:a.text.data.size=a.text.size:=rfl;omega) TP;rw [Au hL2] at h;exact h)) ?_
   rintro _ _ ⟨L3,rfl,rfl⟩
   refine NS (gK 1 [(6,vI 0)] [] ?_)
   refine NN (af.ret (ai.aF (ai.ak ?_)))
   exact RT (vI 0) [0,1,2,3,4,5,6] (⟨L3,by rw [show (cU S root a)=(0,(dO (eU S d name (aV S.X 1 420)) (aN S.X) a.text.data.toList).2.2) by unfold cU;rw [if_neg (by omega),hix];simp only;rw [if_pos trivial,jv];simp only;unfold lP;rw [if_pos (by omega)];unfold rK;exact if_pos h0]<;>exact⟨rfl,rfl⟩⟩)
  refine SR (gK 2 [(84,.bool (decide ((a.op:Int)=(2:Int))))] [] ?_)
  refine NN (af.bg (p:=(a.op:Int)=(2:Int)) (fun _=>by kernel_rfl) (fun UO=>?_) (fun UO=>?_))
  ·refine SR (gK 3 [(86,vP f),(87,vP (L.b d)),(88,.string name)] [] ?_)
   refine gL [2,3,4,0,5,1] (Dg S L f m t hI d hd name hsz 493) ?_
   rintro _ _ ⟨L2,rfl,rfl⟩
   refine gK 1 [(6,vI ((gE S d name 493).1))] [] ?_
   refine NN (af.ret (ai.aF (ai.ak ?_)))
   exact RT (vI ((gE S d name 493).1)) [0,1,2,3,4,5,6] (⟨L2,by rw [show (cU S root a)=((gE S d name 493).1,(gE S d name 493).2) by unfold cU;rw [if_neg (by omega),hix];simp only;rw [if_pos trivial,jv];simp only;unfold lP;rw [if_neg (by omega)];exact if_pos (by omega)]<;>exact⟨rfl,rfl⟩⟩)
  refine SR (gK 2 [(90,.bool (decide ((a.op:Int)=(3:Int))))] [] ?_)
  refine NN (af.bg (p:=(a.op:Int)=(3:Int)) (fun _=>by kernel_rfl) (fun UQ=>?_) (fun UQ=>?_))
  ·refine SR (gK 5 [(92,vP f),(93,vP (L.b d)),(94,.string name),(96,.string a.text)] [(4,a_ 7 b1)] ?_)
   refine gL [2,3,4,0,5,1] (yH S L f m t hI d hd name hsz a.text hxz) ?_
   rintro _ _ ⟨L2,rfl,rfl⟩
   refine gK 1 [(6,vI ((eM S d name a.text).1))] [] ?_
   refine NN (af.ret (ai.aF (ai.ak ?_)))
   exact RT (vI ((eM S d name a.text).1)) [0,1,2,3,4,5,6] (⟨L2,by rw [show (cU S root a)=((eM S d name a.text).1,(eM S d name a.text).2) by unfold cU;rw [if_neg (by omega),hix];simp only;rw [if_pos trivial,jv];simp only;unfold lP;rw [if_neg (by omega)];rw [if_neg (by omega)];exact if_pos (by omega)]<;>exact⟨rfl,rfl⟩⟩)
  refine SR (gK 2 [(98,.bool (decide ((a.op:Int)=(4:Int))))] [] ?_)
  refine NN (af.bg (p:=(a.op:Int)=(4:Int)) (fun _=>by kernel_rfl) (fun UR=>?_) (fun UR=>?_))
  ·refine SR (gK 3 [(100,vP f),(101,vP (L.b d)),(102,.string name)] [] ?_)
   refine gL [2,3,4,0,5,1] (Bh S L f m t hI d hd name hsz) ?_
   rintro _ _ ⟨L2,rfl,rfl⟩
   refine gK 1 [(6,vI ((ef S d name).1))] [] ?_
   refine NN (af.ret (ai.aF (ai.ak ?_)))
   exact RT (vI ((ef S d name).1)) [0,1,2,3,4,5,6] (⟨L2,by rw [show (cU S root a)=((ef S d name).1,(ef S d name).2) by unfold cU;rw [if_neg (by omega),hix];simp only;rw [if_pos trivial,jv];simp only;unfold lP;rw [if_neg (by omega)];rw [if_neg (by omega)];rw [if_neg (by omega)];exact if_pos (by omega)]<;>exact⟨rfl,rfl⟩⟩)
  refine SR (gK 2 [(104,.bool (decide ((a.op:Int)=(5:Int))))] [] ?_)
  refine NN (af.bg (p:=(a.op:Int)=(5:Int)) (fun _=>by kernel_rfl) (fun TQ=>?_) (fun TQ=>?_))
  ·refine SR (gK 3 [(106,vP f),(107,vP (L.b d)),(108,.string name)] [] ?_)
   refine gL [2,3,4,0,5,1] (Dh S L f m t hI d hd name hsz) ?_
   rintro _ _ ⟨L2,rfl,rfl⟩
   refine gK 1 [(6,vI ((eO S d name).1))] [] ?_
   refine NN (af.ret (ai.aF (ai.ak ?_)))
   exact RT (vI ((eO S d name).1)) [0,1,2,3,4,5,6] (⟨L2,by rw [show (cU S root a)=((eO S d name).1,(eO S d name).2) by unfold cU;rw [if_neg (by omega),hix];simp only;rw [if_pos trivial,jv];simp only;unfold lP;rw [if_neg (by omega)];rw [if_neg (by omega)];rw [if_neg (by omega)];rw [if_neg (by omega)];exact if_pos (by omega)]<;>exact⟨rfl,rfl⟩⟩)
  refine SR (gK 2 [(110,.bool (decide ((a.op:Int)=(6:Int))))] [] ?_)
  refine NN (af.bg (p:=(a.op:Int)=(6:Int)) (fun _=>by kernel_rfl) (fun TR=>?_) (fun TR=>?_))
  ·refine SR (gK 4 [(113,vP f),(114,vP (L.b tk)),(116,.string a.to)] [(3,a_ 7 b1)] ?_)
   rcases Dn hI hlv a.to with ⟨e2,Bt,Fa⟩|⟨to,toName,Bt,hd2,Qr,Mr⟩
   ·refine gL (f:=256) (args:=#[vP f,vP (L.b tk),.string a.to]) (pre:=[.abs (ax (bM S.O L)),.abs (ax (cG S.O L))]) [0,1] ((by have h:=ye (β:=β) S L f hI tk hlv a.to NE hg;rw [Bt] at h;exact h)) ?_
    rintro _ _ ⟨rfl,rfl⟩
    refine gK 7 [(14,.pointer none),(15,.string ⟨#[]⟩),(16,vI (e2))] [] ?_
    refine NN (af.seq (SR (gK 2 [(122,.bool (!(decide ((e2:Int)=(0:Int)))))] [] ?_)))
    refine NN (af.cY (p:=(e2:Int)=(0:Int)) (fun _=>by kernel_rfl) (fun QH=>?_) (fun QH=>?_))
    ·refine SR (gK 2 [(6,vI (e2))] [] ?_)
     refine NN (af.ret (ai.ak (ai.aF (ai.ak ?_))))
     exact RT (vI (e2)) [2,3,4,0,5,1,6] (⟨L,by rw [show (cU S root a)=(e2,S) by unfold cU;rw [if_neg (by omega),hix];simp only;rw [if_pos trivial,jv];simp only;unfold lP;rw [if_neg (by omega)];rw [if_neg (by omega)];rw [if_neg (by omega)];rw [if_neg (by omega)];rw [if_neg (by omega)];rw [if_pos (by omega)];rw [Bt]]<;>exact⟨rfl,rfl⟩⟩)
    exact absurd QH Fa
   have eE:(obj S.O to).kind=2:=hI.kind hd2
   have oh:toName.size<=1048576:=Dm Mr
   refine gL (f:=256) (args:=#[vP f,vP (L.b tk),.string a.to]) (pre:=[.abs (ax (bM S.O L)),.abs (ax (cG S.O L))]) [0,1] ((by have h:=ye (β:=β) S L f hI tk hlv a.to NE hg;rw [Bt] at h;exact h)) ?_
   rintro _ _ ⟨rfl,rfl⟩
   refine gK 7 [(14,vP (L.b to)),(15,.string toName),(16,vI 0)] [] ?_
   refine NN (af.seq (SR (gK 2 [(122,.bool false)] [] ?_)))
   refine NN (CF (af.skip (NX (SR (gK 5 [(124,vP f),(125,vP (L.b d)),(126,.string name),(127,vP (L.b to)),(128,.string toName)] [] ?_)))))
   refine gL [2,3,4,0,5,1] (Bj S L f m t hI d hd name hsz to hd2 toName oh) ?_
   rintro _ _ ⟨L2,rfl,rfl⟩
   refine gK 1 [(6,vI ((bH S d name to toName).1))] [] ?_
   refine NN (af.ret (ai.aF (ai.ak ?_)))
   exact RT (vI ((bH S d name to toName).1)) [0,1,2,3,4,5,6] (⟨L2,by rw [show (cU S root a)=((bH S d name to toName).1,(bH S d name to toName).2) by unfold cU;rw [if_neg (by omega),hix];simp only;rw [if_pos trivial,jv];simp only;unfold lP;rw [if_neg (by omega)];rw [if_neg (by omega)];rw [if_neg (by omega)];rw [if_neg (by omega)];rw [if_neg (by omega)];rw [if_pos (by omega)];rw [Bt]]<;>exact⟨rfl,rfl⟩⟩)
  refine af.skip (ai.aJ (NX (af.seq (af.seq ?_))))
  have hel:(obj S.O d).ah.length<=8192:=hI.fU hd
  have KC:=hsz
  rcases hI.lD hd name with br|⟨ok,br,eG⟩|⟨ok,br,eG⟩|⟨ok,br,eG⟩
  ·refine af.region (gK 5 [(133,.map (some (L.m d))),(134,.string name)] [(3,v_ 0 (bC L hkd))] ?_)
   refine iu 1 hkd br ?_
   refine NN (af.block (SR ?_))
   refine gK 3 [(137,.bool false),(138,.pointer none)] [] ?_
   refine NN (CF (SR (gK 3 [(140,.bool false),(141,.pointer none)] [] ?_)))
   refine NN (CF (SR (gK 3 [(143,.bool false),(144,.pointer none)] [] ?_)))
   refine NN (CF (af.skip (ai.aJ (NX (SR ?_)))))
   refine gK 1 [(6,vI 170)] [] ?_
   refine NN (af.ret ?_)
   exact RT (vI 170) [2,3,4,0,5,1,6] (⟨L,by rw [show (cU S root a)=(170,S) by unfold cU;rw [if_neg (by omega),hix];simp only;rw [if_pos trivial,jv];simp only;unfold lP;rw [if_neg (by omega)];rw [if_neg (by omega)];rw [if_neg (by omega)];rw [if_neg (by omega)];rw [if_neg (by omega)];rw [if_neg (by omega)];unfold kO;rw [br]]<;>exact⟨rfl,rfl⟩⟩)
  ·have kB:(obj S.O ok).kind=1:=hI.kind eG
   refine af.region (gK 5 [(133,.map (some (L.m d))),(134,.string name)] [(3,v_ 0 (bC L hkd))] ?_)
   refine iu 1 hkd br ?_
   refine NN (af.block (SR ?_))
   refine gK 3 [(137,.bool false),(138,.pointer none)] [] ?_
   refine NN (CF (SR (gK 3 [(140,.bool false),(141,.pointer none)] [] ?_)))
   refine NN (CF (SR (gK 3 [(143,.bool true),(144,vP (L.b ok))] [] ?_)))
   refine NN (CT (SR (gK 1 [(19,vP (L.b ok))] [] ?_)))
   refine NS (gK 4 [(146,vP f),(147,vP (L.b ok)),(149,.string a.text)] [(3,a_ 7 b1)] ?_)
   refine aj.Fv (d:=(some 150)) (t1:=9) (t2:=46) (e:=5) (x:=(.tmp 149)) (s:=a.text) (fun _=>by kernel_rfl) (fun _=>by kernel_rfl) Tryz.underlying9 Tryz.underlying46 Tryz.underlying5 (fun b6 c7 TS=>?_)
   refine gL [8,2,3,4,0,5,1] (Br (β:=β) S L f m t hI ok eG (some ⟨b6,0,none⟩) c7 a.text.data.toList (by rw [Array.length_toList];have:a.text.data.size=a.text.size:=rfl;omega) TS) ?_
   rintro _ _ ⟨L3,rfl,rfl⟩
   refine gK 5 [(21,vI ((dO S ok a.text.data.toList).2.1))] [] ?_
   refine NS (gK 2 [(6,vI ((dO S ok a.text.data.toList).2.1))] [] ?_)
   refine NN (af.ret (ai.aF (ai.ak ?_)))
   exact RT (vI ((dO S ok a.text.data.toList).2.1)) [0,1,2,3,4,5,6] (⟨L3,by rw [show (cU S root a)=((dO S ok a.text.data.toList).2.1,(dO S ok a.text.data.toList).2.2) by unfold cU;rw [if_neg (by omega),hix];simp only;rw [if_pos trivial,jv];simp only;unfold lP;rw [if_neg (by omega)];rw [if_neg (by omega)];rw [if_neg (by omega)];rw [if_neg (by omega)];rw [if_neg (by omega)];rw [if_neg (by omega)];unfold kO;rw [br];exact (if_neg (by simp)).trans (if_neg (by simp))]<;>exact⟨rfl,rfl⟩⟩)
  ·have kB:(obj S.O ok).kind=2:=hI.kind eG
   refine af.region (gK 5 [(133,.map (some (L.m d))),(134,.string name)] [(3,v_ 0 (bC L hkd))] ?_)
   refine iu 1 hkd br ?_
   refine NN (af.block (SR ?_))
   refine gK 3 [(137,.bool false),(138,.pointer none)] [] ?_
   refine NN (CF (SR (gK 3 [(140,.bool true),(141,vP (L.b ok))] [] ?_)))
   refine NN (CT (SR (gK 1 [] [] ?_)))
   refine NS (gK 1 [(6,vI 172)] [] ?_)
   refine NN (af.ret (ai.aF (ai.ak ?_)))
   exact RT (vI 172) [2,3,4,0,5,1,6] (⟨L,by rw [show (cU S root a)=(172,S) by unfold cU;rw [if_neg (by omega),hix];simp only;rw [if_pos trivial,jv];simp only;unfold lP;rw [if_neg (by omega)];rw [if_neg (by omega)];rw [if_neg (by omega)];rw [if_neg (by omega)];rw [if_neg (by omega)];rw [if_neg (by omega)];unfold kO;rw [br];exact (if_neg (by simp)).trans (if_pos rfl)]<;>exact⟨rfl,rfl⟩⟩)
  have kB:(obj S.O ok).kind=3:=hI.kind eG
  refine af.region (gK 5 [(133,.map (some (L.m d))),(134,.string name)] [(3,v_ 0 (bC L hkd))] ?_)
  refine iu 1 hkd br ?_
  refine NN (af.block (SR ?_))
  refine gK 3 [(137,.bool true),(138,vP (L.b ok))] [] ?_
  refine NN (CT (SR (gK 1 [] [] ?_)))
  refine NS (gK 1 [(6,vI 174)] [] ?_)
  refine NN (af.ret (ai.aF (ai.ak ?_)))
  exact RT (vI 174) [2,3,4,0,5,1,6] (⟨L,by rw [show (cU S root a)=(174,S) by unfold cU;rw [if_neg (by omega),hix];simp only;rw [if_pos trivial,jv];simp only;unfold lP;rw [if_neg (by omega)];rw [if_neg (by omega)];rw [if_neg (by omega)];rw [if_neg (by omega)];rw [if_neg (by omega)];rw [if_neg (by omega)];unfold kO;rw [br];exact if_pos rfl]<;>exact⟨rfl,rfl⟩⟩)
 have hkt:(obj S.O tk).kind=3:=hI.kind hlv
 refine af.region (gK 5 [(33,.map (some m)),(34,vI (root))] [(3,a_ 0 f)] ?_)
 refine aj.d9 1 (d:=(some 35)) (t:=120) (K:=3) (E:=124) (b:=m) (n:=S.idx.length) (f:=(bh (bn L S.idx))) (x:=(.tmp 33)) (ix:=(.tmp 34)) (key:=.int .i64 (root)) (z:=.nilIface) (kl:=(.int .i64 root)) (r:=(some (dJ L ⟨tk,3⟩))) (fun _=>by kernel_rfl) (by kernel_rfl) (fun _=>by kernel_rfl) (fun _=>by kernel_rfl) dX Tryz.underlying120 (fun _=>by kernel_rfl) (gJ hrw) (by rw [eY,hix];rfl) ?_
 refine gK 1 [(7,.iface 132 (vP (L.b tk)))] [] ?_
 refine NN (af.seq (SR (gK 2 [(37,.bool false)] [] ?_)))
 refine NN (CF (af.skip (NX (SR (gK 7 [(8,.pointer none),(9,.bool false)] [] ?_)))))
 refine NN (af.seq (SR (gK 2 [(44,.bool true)] [] ?_)))
 refine NN (CT (SR (gK 1 [(6,vI 173)] [] ?_)))
 refine NN (af.ret (ai.ak ?_))
 exact RT (vI 173) [0,1,2,3,4,5,6] (⟨L,by rw [show (cU S root a)=(173,S) by unfold cU;rw [if_neg (by omega),hix];simp only;exact if_neg (by simp)]<;>exact⟨rfl,rfl⟩⟩)
end
section
open Go.RowKit Go.Maps bL aB
attribute [local irreducible] aj aP af ai
noncomputable abbrev KT (o) (q) (f:Nat) (root) (am) (n):=(.blk o [.iface 181 (vP q),vP f,vI (root),.map (some am),vI ↑(n+1)] 185:HP)
noncomputable abbrev QI (o) (b1:Nat) (b2:Nat) (lX) (ys:List cQ) (Ho) (i:Nat):=([(0,vP o),(3,vP b1),(4,vP b2),(22,.slice lX (ys.length) (Ho)),(23,vI ↑ys.length),(24,vI ↑i)]:Fr)
theorem QJ {β:Bs} (S:aG) (L:HL) (o q f m t am an km kn n:Nat) (Z:AZ) (fs:List aZ) (xs:List cQ) (root:Int) (hrw:(Lit.int .i64 root).wf=true) (hI:Inv S) (hn:n<=1048576) (k:Int) (hk:gh fs ((n+1:Nat):Int)=k) (hZ:jF β Z xs) (hX:iq xs 1048576) (hg:iU β) (c:aD) (hC:fQ β c) :
    Spec Tryz.prog β 254 #[vP o,.agg ⟨bT c⟩] ([.blk o [.iface 181 (vP q),vP f,vI (root),.map (some am),vI (((n:Nat):Int))] 185,.blk q [.iface 54 (vP f),.map (some km),vI (((n:Nat):Int))] 183,.abs (aL Tryz.prog 3 am (fH Z xs) an)]++Dl km fs kn f m t S L) (fun v l=>∃ L2,v=.agg ⟨bT (bB k (gU root S (bO xs ((n+1:Nat):Int))) c).2⟩/\l=[.blk o [.iface 181 (vP q),vP f,vI (root),.map (some am),vI ((((n+1):Nat):Int))] 185,.blk q [.iface 54 (vP f),.map (some km),vI ((((n+1):Nat):Int))] 183,.abs (aL Tryz.prog 3 am (fH Z xs) an),oo km fs kn,pF f m t ((bB k (gU root S (bO xs ((n+1:Nat):Int))) c).1.X),.abs (aL Tryz.prog 3 m (bh (bn L2 (bB k (gU root S (bO xs ((n+1:Nat):Int))) c).1.idx)) ((bB k (gU root S (bO xs ((n+1:Nat):Int))) c).1.idx.length)),pT t (bB k (gU root S (bO xs ((n+1:Nat):Int))) c).1.X.cH ((bB k (gU root S (bO xs ((n+1:Nat):Int))) c).1.av) L2 ((bB k (gU root S (bO xs ((n+1:Nat):Int))) c).1.us),pO ((bB k (gU root S (bO xs ((n+1:Nat):Int))) c).1.O) L2,pD ((bB k (gU root S (bO xs ((n+1:Nat):Int))) c).1.O) L2,pE ((bB k (gU root S (bO xs ((n+1:Nat):Int))) c).1.O) L2]):=by
 obtain⟨ys,hys⟩:∃ ys,bO xs ((n+1:Nat):Int)=ys:=⟨_,rfl⟩
 obtain⟨lX,has⟩:∃ a,aA Z xs ((n+1:Nat):Int)=a:=⟨_,rfl⟩
 obtain⟨Ho,hac⟩:∃ a,aC Z xs ((n+1:Nat):Int)=a:=⟨_,rfl⟩
 have hrow:=hZ ((n+1:Nat):Int)
 rw [hys,has] at hrow
 have hyb:∀ {i},i < ys.length->wK (act ys i) 1048576:=fun {i} h=>hX.q _ (Io (x:=((n+1:Nat):Int)) (by rw [hys];exact List.mem_of_getElem? (qY h)))
 have ou:ys.length<=1048576:=by rw [← hys];exact Nat.le_trans (AF _) hX.len
 rw [show bO xs ((n+1:Nat):Int)=ys from hys]
 obtain⟨SA,SQ⟩:∃ SA,gU root S ys=SA:=⟨_,rfl⟩
 rw [SQ]
 refine Spec.enter Tryz.func254 rfl Tryz.ntmps254 (Nat.le_of_ble_eq_true rfl) (fun R=>?_)
 refine SR (gN 1 (fun b1=>[(3,vP b1)]) (fun _=>[]) (fun _=>[]) (fun b1=>pC b1 c) (fun b1=>?_))
 refine gN 1 (fun b2=>[(4,vP b2)]) (fun _=>[]) (fun _=>[]) (fun b2=>.blk b2 [vI 0,vI 0,vI 0,.string ⟨#[]⟩,.string ⟨#[]⟩,.slice none (0) (0),vI 0,vI 0,vI 0,vI 0,vI 0,vI 0,vI 0] 48) (fun b2=>?_)
 refine NS (gC 8 [] [(3,a_ 0 o),(4,p_ ⟨[],none,none,none,some (vI ↑(n+1))⟩ [(Value.int .i64 (IntKind.wrap .i64 (((n:Nat):Int)+1)))=(.int .i64 ↑(n+1))] ⟨bw (by omega) (by omega) (by omega),trivial⟩),(7,a_ 0 o)] [(0,[(4,vI ↑(n+1))])] ?_)
 refine NN (af.seq (af.seq (af.bI (by kernel_rfl) (by kernel_rfl) ?_)))
 refine gQ 8 [(17,.map (some am)),(21,vI ↑(n+1))] [(3,a_ 0 o),(7,a_ 0 o)] ?_
 refine aP.d9 2 (d:=(some 22)) (t:=178) (K:=3) (E:=30) (b:=am) (n:=an) (f:=(fH Z xs)) (x:=(.tmp 17)) (ix:=(.tmp 21)) (key:=.int .i64 ↑(n+1)) (z:=.slice none (0) (0)) (kl:=(.int .i64 ((n+1:Nat):Int))) (r:=(fH Z xs (.int .i64 ((n+1:Nat):Int)))) (fun _=>by kernel_rfl) (by kernel_rfl) (fun _=>by kernel_rfl) (fun _=>by kernel_rfl) dX Tryz.underlying178 (fun _=>by kernel_rfl) (gJ (Kh (by omega))) (rfl) ?_
 refine aP.slot 22 (((fH Z xs (.int .i64 ((n+1:Nat):Int))).getD (.slice none 0 0))) (.slice lX (ys.length) (Ho)) (fun _=>by kernel_rfl) (zA.trans (by rw [hys,has,hac])) ?_
 refine gQ 2 [(23,vI ↑ys.length),(24,vI 0)] [] ?_
 refine NQ (NX (af.block ?_))
 refine af.loop (ι:=Nat×aG×HL) (fun ((i,S1,L1):Nat×aG×HL)=>(i<=ys.length)/\(S1=gU root S (ys.take i))/\(Inv S1)) (fun ((i,S1,L1):Nat×aG×HL)=>ys.length - i) (fun ((i,S1,L1):Nat×aG×HL)=>(QI o b1 b2 lX ys Ho i)) (fun ((i,S1,L1):Nat×aG×HL)=>[KT o q f root am n,.blk q [.iface 54 (vP f),.map (some km),vI ↑n] 183,.abs (aL Tryz.prog 3 am (fH Z xs) an),oo km fs kn,pC b1 c,oH b2,pF f m t S1.X,pI m L1 S1.idx,jQ t S1 L1,pO S1.O L1,pD S1.O L1,pE S1.O L1,.abs R]) (0,S,L) (idx:=[0,3,4,22,23,24]) (pk:=[0,1,2,3,11,12,4,5,6,7,8,9,10]) (show (0<=ys.length)/\(S=gU root S (ys.take 0))/\(Inv S) from ⟨Nat.zero_le _,rfl,hI⟩) (fun _=>by kernel_rfl) rfl (by kernel_rfl) ?_
 rintro⟨i,S1,L1⟩ ⟨hi,hs1,ck⟩
 show af _ _ _ _ (QI o b1 b2 lX ys Ho i) [KT o q f root am n,.blk q [.iface 54 (vP f),.map (some km),vI ↑n] 183,.abs (aL Tryz.prog 3 am (fH Z xs) an),oo km fs kn,pC b1 c,oH b2,pF f m t S1.X,pI m L1 S1.idx,jQ t S1 L1,pO S1.O L1,pD S1.O L1,pE S1.O L1,.abs R] _
 refine SR (gK 1 [(25,.bool (decide ((((i:Nat):Int):Int) < (((ys.length:Nat):Int):Int))))] [] ?_)
 refine NN (af.seq (af.bg (p:=(((i:Nat):Int):Int) < (((ys.length:Nat):Int):Int)) (fun _=>by kernel_rfl) (fun vC=>?_) (fun vC=>?_)))
 ·refine af.skip (NX (af.seq (af.block (SR ?_))))
  refine gN 4 (fun b3=>[(6,vP b3)]) (fun b3=>[(0,p_ ⟨[],some i,none,some ⟨(ar lX),aq lX,none⟩,none⟩ [((i:Nat):Int)=((i:Nat):Int),i < ys.length,(⟨(ar lX),aq lX,none⟩:Addr).spot=none,(lX:Option Addr)=some ⟨(ar lX),aq lX,none⟩] ⟨rfl,by omega,rfl,DK hrow (i:=i) (by omega),trivial⟩),(1,p_ ⟨[.old (.int .i64 ((act ys i).at_)),.old (.int .i64 ((act ys i).op)),.old (.string (act ys i).path),.old (.string (act ys i).to),.old (.string (act ys i).text)],none,none,none,none⟩ [(Rd β ⟨(ar lX),aq lX+i * 5+4,none⟩ (.string (act ys i).text)),(Rd β ⟨(ar lX),aq lX+i * 5+3,none⟩ (.string (act ys i).to)),(Rd β ⟨(ar lX),aq lX+i * 5+2,none⟩ (.string (act ys i).path)),(Rd β ⟨(ar lX),aq lX+i * 5+1,none⟩ (.int .i64 ((act ys i).op))),(Rd β ⟨(ar lX),aq lX+i * 5,none⟩ (.int .i64 ((act ys i).at_)))] ⟨j6 hrow (i:=i) (by omega) (j:=4) rfl,j6 hrow (i:=i) (by omega) (j:=3) rfl,j6 hrow (i:=i) (by omega) (j:=2) rfl,j6 hrow (i:=i) (by omega) (j:=1) rfl,j6 hrow (i:=i) (by omega) (j:=0) rfl,trivial⟩),(3,A_ 13 b3 5)]) (fun _=>[]) (fun b3=>.blk b3 [vI ((act ys i).at_),vI ((act ys i).op),.string (act ys i).path,.string (act ys i).to,.string (act ys i).text] 41) (fun b3=>?_)
  refine NN (af.bR (S:=[KT o q f root am n,.blk b3 [vI ((act ys i).at_),vI ((act ys i).op),.string (act ys i).path,.string (act ys i).to,.string (act ys i).text] 41]) [0,1,2,3,4,5,6,7,8,9] 9 [0,13] (by kernel_rfl) (by kernel_rfl) rfl (by kernel_rfl) ?_)
  refine gR 0 [9] (QI o b1 b2 lX ys Ho i++[(31,vP f),(35,vI (root)),(36,.agg #[vI ((act ys i).at_),vI ((act ys i).op),.string (act ys i).path,.string (act ys i).to,.string (act ys i).text])]) [0,1,2,3,4,5,6,7,8] [(3,a_ 0 o),(7,a_ 0 o),(8,A_ 1 b3 5)] ?_
  refine aK.last rfl rfl ?_
  refine gL [6,7,8,9,10,11] (OM S1 L1 f m t ck root hrw (act ys i) (hyb (by omega)).path (hyb (by omega)).to (hyb (by omega)).text hg) ?_
  rintro _ _ ⟨L2,rfl,rfl⟩
  refine NL (ai.np (ai.aJ (NX (af.region ?_))))
  refine gK 2 [(24,vI ↑(i+1))] [(0,p_ ⟨[],none,none,none,some (vI ↑(i+1))⟩ [(Value.int .i64 (IntKind.wrap .i64 (((i:Nat):Int)+1)))=(.int .i64 ↑(i+1))] ⟨bw (by omega) (by omega) (by omega),trivial⟩)] ?_
  refine NL ?_
  exact ai.turn ((i+1),(cU S1 root (act ys i)).2,L2) (idx:=[0,3,4,22,23,24]) (pk:=[6,7,8,9,10,11,0,1,2,3,4,5,12]) (show (((i+1))<=ys.length)/\(((cU S1 root (act ys i)).2)=gU root S (ys.take ((i+1))))/\(Inv ((cU S1 root (act ys i)).2)) from ⟨by omega,by rw [hs1];exact (Iq (by omega)).symm,ck.cU⟩) (by show ys.length - ((i+1)) < ys.length - i;omega) (fun _=>by kernel_rfl) rfl (by kernel_rfl)
 refine af.exit (ai.aX (ai.aX (ai.cV (NX (af.seq ?_)))))
 refine af.bR (S:=[KT o q f root am n,pC b1 c]) [0,1,2,3,4,5,6] 5 [0,4] (by kernel_rfl) (by kernel_rfl) rfl (by kernel_rfl) ?_
 refine gR 0 [5,6] [(4,vP b2),(42,.iface 181 (vP q)),(43,.agg ⟨bT c⟩)] [0,1,2,3,4] [(3,a_ 0 o),(4,A_ 1 b1 13)] ?_
 refine mL [8,10] [1,3,6,7,8,9,10,11] (QF S1 L1 q f m t km kn n fs ck hn k hk c hC) ?_ (by rintro _ _ ⟨L2,rfl,rfl⟩;rfl)
 rintro _ _ ⟨L2,rfl,rfl⟩
 refine aK.last rfl rfl ?_
 refine gC 1 [] [(0,A_ 11 b2 13)] [(11,[(0,vI ((bB k S1 c).2.op)),(1,vI ((bB k S1 c).2.handle)),(2,vI ((bB k S1 c).2.other)),(3,.string (bB k S1 c).2.name),(4,.string (bB k S1 c).2.text),(5,.slice (bB k S1 c).2.dA ((bB k S1 c).2.data.length) ((bB k S1 c).2.dC)),(6,vI ((bB k S1 c).2.mode)),(7,vI ((bB k S1 c).2.uid)),(8,vI ((bB k S1 c).2.gid)),(9,vI ((bB k S1 c).2.sec)),(10,vI ((bB k S1 c).2.nano)),(11,vI ((bB k S1 c).2.code)),(12,vI ((bB k S1 c).2.answer))])] ?_
 refine NL (ai.np (NX (af.ret ?_)))
 have hs2:S1=SA:=by rw [hs1,show i=ys.length by omega,List.take_length];exact SQ
 subst hs2
 exact ai.ret (v:=.agg ⟨bT ((bB k S1 c).2)⟩) (l:=[KT o q f root am n,ur q f km n,.abs (aL Tryz.prog 3 am (fH Z xs) an),oo km fs kn,pF f m t ((bB k S1 c).1.X),pI m L2 (bB k S1 c).1.idx,pT t (bB k S1 c).1.X.cH ((bB k S1 c).1.av) L2 ((bB k S1 c).1.us),pO ((bB k S1 c).1.O) L2,pD ((bB k S1 c).1.O) L2,pE ((bB k S1 c).1.O) L2]) (bF:=[b2=b2,b2=b2,b2=b2,b2=b2,b2=b2,b2=b2,b2=b2,b2=b2,b2=b2,b2=b2,b2=b2,b2=b2,b2=b2]) [.at 11,.at 11,.at 11,.at 11,.at 11,.at 11,.at 11,.at 11,.at 11,.at 11,.at 11,.at 11,.at 11] [8,0,9,1,2,3,4,5,6,7,12] (fun _=>by kernel_rfl) ⟨rfl,rfl,rfl,rfl,rfl,rfl,rfl,rfl,rfl,rfl,rfl,rfl,rfl,trivial⟩ rfl (by kernel_rfl) (⟨L2,rfl,rfl⟩)
end
section
open Go.RowKit Go.Maps bL aB
theorem Dq {β:Bs} (A:Option Addr) (c:Nat) (d:List UInt8) (hA:bD β A d) (hl:d.length<=1048576):cJ Tryz.prog β 58 #[.slice A d.length c] [] (fun β' v l=>∃ B cap,v=.slice B d.length cap/\l=[]/\bD β' B d/\d.length<=cap):=
  (tG A c d hA (by omega)).I8 (by
    rintro v l ⟨B,cap,rfl,rfl⟩
    refine⟨[],_,rfl,fun β' h=>⟨B,cap,rfl,rfl,h.bytes,?_⟩⟩
    obtain⟨F,h1,_⟩:=h.get 0 rfl
    exact (aE.len h1).2)
theorem OO {β:Bs} (S:aG) (L:HL) (o q f m t am an km kn n:Nat) (Z:AZ) (fs:List aZ) (xs:List cQ) (root:Int) (hrw:(Lit.int .i64 root).wf=true) (hI:Inv S) (hn:n<=1048576) (hZ:jF β Z xs) (hX:iq xs 1048576) (hg:iU β) (c:aD) (B:Option Addr) (p:Nat) {j3:Int} (ho:j3=if c.op=1 then root else c.other) (hC:fQ β { bS B p c with other:=j3 }) {S2:aG} {c2:aD} (hW:ij fs xs root (n+1) S c=(S2,c2)) :
    Spec Tryz.prog β 254 #[vP o,.agg ⟨bT { bS B p c with other:=j3 }⟩] ([oB o q f root am n,qB q f km n,aM am an Z xs,kM km kn fs]++pA f m t L S) (fun v l=>∃ L2,v=.agg ⟨bT (bS B p c2)⟩/\l=[oB o q f root am (n+1),qB q f km (n+1),aM am an Z xs,kM km kn fs]++pA f m t L2 S2):=by
  have e:({ bS B p c with other:=j3 }:aD)=bS B p (bA root c):=by rw [F8 ho];rfl
  rw [e] at hC ⊢
  have h:=QJ S L o q f m t am an km kn n Z fs xs root hrw hI hn _ rfl hZ hX hg (bS B p (bA root c)) hC
  rw [C2] at h
  have hW:bB (gh fs ((n+1:Nat):Int)) (gU root S (bO xs ((n+1:Nat):Int))) (bA root c)=(S2,c2):=hW
  rw [hW] at h
  exact h
end
section
open Go.RowKit Go.Maps bL aB
attribute [local irreducible] aj aP af ai
noncomputable abbrev Bu (w) (f:Nat) (o) (root) (tA) (tr:List aD) (tC):=(.blk w [.iface 42 (vP w),vP f,.iface 180 (vP o),vI (root),.slice tA (tr.length) (tC)] 93:HP)
noncomputable abbrev yL (am) (Z) (xs) (an):=(.abs (aL Tryz.prog 3 am (fH Z xs) an):HP)
noncomputable abbrev NY (tA) (tr:List aD) (tC):=(.abs (aE 48 13 tA tr.length tC (bq bT tr)):HP)
noncomputable abbrev QK (w) (f:Nat) (o) (root) (A') (tr:List aD) (k'):=(.blk w [.iface 42 (vP w),vP f,.iface 180 (vP o),vI (root),.slice A' ((tr.length+1)) (k')] 93:HP)
noncomputable abbrev Hq (A') (tr:List aD) (k') (B1) (p1) (c2):=(.abs (aE 48 13 A' (tr.length+1) k' (bq bT (tr++[bS B1 p1 c2]))):HP)
noncomputable abbrev QL (o) (q) (f:Nat) (root) (am) (tr:List aD):=(.blk o [.iface 181 (vP q),vP f,vI (root),.map (some am),vI ↑tr.length] 185:HP)
noncomputable abbrev QM (q) (f:Nat) (km) (tr:List aD):=(.blk q [.iface 54 (vP f),.map (some km),vI ↑tr.length] 183:HP)
noncomputable abbrev QN (b1:Nat) (c:aD) (j3) (B1) (p1):=(.blk b1 [vI (c.op),vI (c.handle),vI (j3),.string c.name,.string c.text,.slice B1 (c.data.length) (p1),vI (c.mode),vI (c.uid),vI (c.gid),vI (c.sec),vI (c.nano),vI (c.code),vI (c.answer)] 48:HP)
noncomputable abbrev Bv (b1:Nat) (c2:aD) (B1) (p1):=(.blk b1 [vI (c2.op),vI (c2.handle),vI (c2.other),.string c2.name,.string c2.text,.slice B1 (c2.data.length) (p1),vI (c2.mode),vI (c2.uid),vI (c2.gid),vI (c2.sec),vI (c2.nano),vI (c2.code),vI (c2.answer)] 48:HP)
noncomputable abbrev Fw (o) (q) (f:Nat) (root) (am) (tr:List aD):=(.blk o [.iface 181 (vP q),vP f,vI (root),.map (some am),vI ↑(tr.length+1)] 185:HP)
noncomputable abbrev Fx (q) (f:Nat) (km) (tr:List aD):=(.blk q [.iface 54 (vP f),.map (some km),vI ↑(tr.length+1)] 183:HP)
noncomputable abbrev tH (f:Nat) (m:Nat) (t) (S:aG) (L:HL):=([pF f m t S.X,pI m L S.idx,jQ t S L,pO S.O L,pD S.O L,pE S.O L]:List HP)
noncomputable abbrev MU (c2:aD) (B1) (p1):=([(0,vI (c2.op)),(1,vI (c2.handle)),(2,vI (c2.other)),(3,.string c2.name),(4,.string c2.text),(5,.slice B1 (c2.data.length) (p1)),(6,vI (c2.mode)),(7,vI (c2.uid)),(8,vI (c2.gid)),(9,vI (c2.sec)),(10,vI (c2.nano)),(11,vI (c2.code)),(12,vI (c2.answer))]:Fr)
theorem OQ {β:Bs} (S:aG) (L:HL) (w o q f m t am an km kn:Nat) (Z:AZ) (fs:List aZ) (xs:List cQ) (root:Int) (tr:List aD) (tA:Option Addr) (tC:Nat) (hrw:(Lit.int .i64 root).wf=true) (hI:Inv S) (hn:tr.length<=1048575) (hZ:jF β Z xs) (hX:iq xs 1048576) (hg:iU β) (c:aD) (hD:bD β c.dA c.data) (hl:c.data.length<=1048576) (hw:(Lit.int .i64 c.handle).wf=true) (how:(Lit.int .i64 c.other).wf=true) (hnm:c.name.size<=1048576) (QO:c.text.size<=1048576) {S2:aG} {c2:aD} (hW:ij fs xs root (tr.length+1) S c=(S2,c2)) :
    cJ Tryz.prog β 16 #[vP w,.agg ⟨bT c⟩] ([Bu w f o root tA tr tC,.blk o [.iface 181 (vP q),vP f,vI (root),.map (some am),vI (((tr.length:Nat):Int))] 185,.blk q [.iface 54 (vP f),.map (some km),vI (((tr.length:Nat):Int))] 183,yL am Z xs an,oo km fs kn,NY tA tr tC]++tH f m t S L) (fun β' v l=>∃ B1 p1 B2 p2 A' k' L2,v=.agg ⟨bT (bS B2 p2 c2)⟩/\l=([QK w f o root A' tr k',.blk o [.iface 181 (vP q),vP f,vI (root),.map (some am),vI ((((tr.length+1):Nat):Int))] 185,.blk q [.iface 54 (vP f),.map (some km),vI ((((tr.length+1):Nat):Int))] 183,yL am Z xs an,oo km fs kn,Hq A' tr k' B1 p1 c2]++tH f m t S2 L2)/\bD β' B1 c2.data/\bD β' B2 c2.data/\c2.data.length<=p2):=by
 have hd2:c2.data=c.data:=by have h:=F7 (fs:=fs) (xs:=xs) (root:=root) (n:=tr.length+1) (S:=S) (c:=c);rw [hW] at h;exact h
 refine cJ.enter Tryz.func16 rfl Tryz.ntmps16 (Nat.le_of_ble_eq_true rfl) (fun hle0 R=>?_)
 refine SR (gN 1 (fun b1=>[(3,vP b1)]) (fun _=>[]) (fun _=>[]) (fun b1=>pC b1 c) (fun b1=>?_))
 refine gN 1 (fun b2=>[(4,vP b2)]) (fun _=>[]) (fun _=>[]) (fun b2=>.blk b2 [vI 0,vI 0,vI 0,.string ⟨#[]⟩,.string ⟨#[]⟩,.slice none (0) (0),vI 0,vI 0,vI 0,vI 0,vI 0,vI 0,vI 0] 48) (fun b2=>?_)
 refine NS (gK 2 [(6,.slice c.dA (c.data.length) (c.dC))] [(1,a_ 13 b1)] ?_)
 refine aj.jg (d:=(some 7)) (R:=([Bu w f o root tA tr tC,QL o q f root am tr,QM q f km tr,yL am Z xs an,oo km fs kn,NY tA tr tC]++tH f m t S L++[.abs R,pC b1 c,oH b2])) (pk:=[0,1,2,3,4,5,6,7,8,9,10,11,12,13,14]) (fun _=>by kernel_rfl) (Dq c.dA c.dC c.data hD hl) rfl (by kernel_rfl) ?_
 rintro SV _ _ q4 ⟨B1,p1,rfl,rfl,KU,hp1⟩
 replace hD:=hD.le q4
 replace hZ:=hZ.le q4
 replace hg:=hg.le q4
 replace hle0:=hle0.trans q4
 refine gC 2 [] [(1,a_ 13 b1)] [(13,[(5,.slice B1 (c.data.length) (p1))])] ?_
 refine NN (af.join (ι:=Int) (fun (j3:Int)=>(j3=if c.op=1 then root else c.other)/\((Lit.int .i64 j3).wf=true)) (fun (j3:Int)=>([(0,vP w)]++yJ b1 b2)) (fun (j3:Int)=>([Bu w f o root tA tr tC,QL o q f root am tr,QM q f km tr,yL am Z xs an,oo km fs kn,NY tA tr tC]++tH f m t S L++[.abs R,QN b1 c j3 B1 p1,oH b2])) ?_ ?_)
 ·rintro j3 ⟨hoth,how⟩
  show af _ _ _ _ ([(0,vP w)]++yJ b1 b2) ([Bu w f o root tA tr tC,QL o q f root am tr,QM q f km tr,yL am Z xs an,oo km fs kn,NY tA tr tC]++tH f m t S L++[.abs R,QN b1 c j3 B1 p1,oH b2]) _
  refine af.seq (af.bR (S:=[Bu w f o root tA tr tC,QN b1 c j3 B1 p1]) [0,1,2,3,4,5,6] 5 [0,13] (by kernel_rfl) (by kernel_rfl) rfl (by kernel_rfl) ?_)
  refine gR 0 [5,6] ([(0,vP w)]++yJ b1 b2++[(20,.iface 180 (vP o)),(21,.agg #[vI (c.op),vI (c.handle),vI (j3),.string c.name,.string c.text,.slice B1 (c.data.length) (p1),vI (c.mode),vI (c.uid),vI (c.gid),vI (c.sec),vI (c.nano),vI (c.code),vI (c.answer)])]) [0,1,2,3,4] [(3,a_ 0 w),(4,A_ 1 b1 13)] ?_
  refine mL [10,13] [1,2,3,4,6,7,8,9,10,11] (OO (β:=SV) S L o q f m t am an km kn tr.length Z fs xs root hrw hI (by omega) hZ hX hg c B1 p1 hoth ⟨hw,how,hnm,QO,KU,Nat.le_trans hl (by decide),hp1⟩ hW) ?_ (by rintro _ _ ⟨L2,rfl,rfl⟩;rfl)
  rintro _ _ ⟨L2,rfl,rfl⟩
  refine aK.last rfl rfl ?_
  refine gC 1 [] [(0,A_ 13 b1 13)] [(13,(MU c2 B1 p1))] ?_
  refine NL (ai.np (NX (af.seq ?_)))
  refine af.bR (S:=[Bu w f o root tA tr tC,Bv b1 c2 B1 p1]) [0,1,2,3,4,5,6,7,8,9,10] 6 [10,13] (by kernel_rfl) (by kernel_rfl) rfl (by kernel_rfl) ?_
  refine gR 0 [6,7,8,9,10] (yJ b1 b2++[(23,vP w),(27,.slice tA (tr.length) (tC)),(28,.agg ⟨bT (bS B1 p1 c2)⟩)]) [0,1,2,3,4,5] [(4,a_ 0 w),(5,A_ 1 b1 13)] ?_
  refine mN [10,13] (fun b4=>[(29,.slice (some ⟨b4,0,none⟩) (1) (1))]) (fun _=>[]) (fun b4=>.blk b4 [vI (c2.op),vI (c2.handle),vI (c2.other),.string c2.name,.string c2.text,.slice B1 (c2.data.length) (p1),vI (c2.mode),vI (c2.uid),vI (c2.gid),vI (c2.sec),vI (c2.nano),vI (c2.code),vI (c2.answer)] 48) (fun b4=>?_)
  refine aK.cut (ι:=(Option Addr)×Nat) (fr':=fun ((A5,c6):(Option Addr)×Nat)=>[(3,vP b1),(4,vP b2),(23,vP w),(30,.slice A5 ((tr.length+1)) (c6))]) (hp':=fun ((A5,c6):(Option Addr)×Nat)=>([Fw o q f root am tr,Fx q f km tr,yL am Z xs an,oo km fs kn]++tH f m t S2 L2++[Bu w f o root tA tr tC,Hq A5 tr c6 B1 p1 c2,.abs R,Bv b1 c2 B1 p1,oH b2,Bv b4 c2 B1 p1])) [10,13] rfl rfl ?_ rfl (fun _=>by kernel_rfl) ?_
  ·refine aj.append 11 (d:=(some 30)) (t:=35) (e:=48) (z:=.agg #[vI 0,vI 0,vI 0,.string ⟨#[]⟩,.string ⟨#[]⟩,.slice none (0) (0),vI 0,vI 0,vI 0,vI 0,vI 0,vI 0,vI 0]) (size:=13) (bytes:=136) (n:=tr.length) (cap:=tC) (A:=tA) (xs:=(bq bT tr)) (s:=(.tmp 27)) (x:=(.tmp 29)) (ats:=#[35,35]) (A':=some ⟨b4,0,none⟩) (m:=1) (c':=1) (news:=[vI (c2.op),vI (c2.handle),vI (c2.other),.string c2.name,.string c2.text,.slice B1 (c2.data.length) (p1),vI (c2.mode),vI (c2.uid),vI (c2.gid),vI (c2.sec),vI (c2.nano),vI (c2.code),vI (c2.answer)]) (fun _=>by kernel_rfl) rfl (by kernel_rfl) (fun _=>by kernel_rfl) (fun _=>by kernel_rfl) Tryz.underlying35 (by kernel_rfl) rfl (by decide) (rfl) (by simp [Value.oneCell']) (j8 (j:=15) rfl) (by unfold maxLen;omega) (by omega) (fun A5 c6=>?_)
   refine aj.dr 11 (p:=.abs (aE 48 13 A5 (tr.length+1) c6 ((bq bT tr)++[vI (c2.op),vI (c2.handle),vI (c2.other),.string c2.name,.string c2.text,.slice B1 (c2.data.length) (p1),vI (c2.mode),vI (c2.uid),vI (c2.gid),vI (c2.sec),vI (c2.nano),vI (c2.code),vI (c2.answer)]))) (p':=.abs (aE 48 13 A5 (tr.length+1) c6 (bq bT (tr++[bS B1 p1 c2])))) (by kernel_rfl) (congrArg (fun x=>HP.abs (aE 48 13 _ _ _ x)) (uW bT (bS B1 p1 c2) tr).symm) ?_
   refine aj.slot 30 (.slice A5 (tr.length+1) (c6)) (.slice A5 ((tr.length+1)) (c6)) (fun _=>by kernel_rfl) (rfl) ?_
   refine NL ?_
   exact MD (A5,c6) [3,4,23,30] [0,1,2,3,4,5,6,7,8,9,10,11,12,13,14,15]
  rintro⟨A5,c6⟩
  refine aK.cut (ι:=Unit) (fr':=fun (_:Unit)=>[(3,vP b1),(4,vP b2),(30,.slice A5 ((tr.length+1)) (c6)),(31,vP w)]) (hp':=fun (_:Unit)=>([Fw o q f root am tr,Fx q f km tr,yL am Z xs an,oo km fs kn]++tH f m t S2 L2++[Bu w f o root tA tr tC,Hq A5 tr c6 B1 p1 c2,.abs R,Bv b1 c2 B1 p1,oH b2,Bv b4 c2 B1 p1])) [10,13] rfl rfl ?_ rfl (fun _=>by kernel_rfl) ?_
  ·refine gK 1 [(31,vP w)] [] ?_
   refine NL ?_
   exact MD () [3,4,30,31] [0,1,2,3,4,5,6,7,8,9,10,11,12,13,14,15]
  rintro _
  refine aK.cut (ι:=Unit) (fr':=fun (_:Unit)=>[(3,vP b1),(4,vP b2),(30,.slice A5 ((tr.length+1)) (c6)),(32,.pointer (some ⟨w,4,none⟩))]) (hp':=fun (_:Unit)=>([Fw o q f root am tr,Fx q f km tr,yL am Z xs an,oo km fs kn]++tH f m t S2 L2++[Bu w f o root tA tr tC,Hq A5 tr c6 B1 p1 c2,.abs R,Bv b1 c2 B1 p1,oH b2,Bv b4 c2 B1 p1])) [10,13] rfl rfl ?_ rfl (fun _=>by kernel_rfl) ?_
  ·refine gK 1 [(32,.pointer (some ⟨w,4,none⟩))] [] ?_
   refine NL ?_
   exact MD () [3,4,30,32] [0,1,2,3,4,5,6,7,8,9,10,11,12,13,14,15]
  rintro _
  refine aK.last rfl rfl ?_
  refine gC 1 [] [(0,a_ 10 w)] [(10,[(4,.slice A5 ((tr.length+1)) (c6))])] ?_
  refine NL (ai.np (NX (SR ?_)))
  refine gK 2 [(34,.slice B1 (c2.data.length) (p1))] [(1,a_ 13 b1)] ?_
  refine aj.jg (d:=(some 35)) (R:=([Fw o q f root am tr,Fx q f km tr,yL am Z xs an,oo km fs kn]++tH f m t S2 L2++[QK w f o root A5 tr c6,Hq A5 tr c6 B1 p1 c2,.abs R,Bv b1 c2 B1 p1,oH b2,Bv b4 c2 B1 p1])) (pk:=[0,1,2,3,4,5,6,7,8,9,10,11,12,13,14,15]) (fun _=>by kernel_rfl) (Dq B1 p1 c2.data (by rw [hd2];exact KU) (by rw [hd2];exact hl)) rfl (by kernel_rfl) ?_
  rintro UU _ _ o7 ⟨B2,p2,rfl,rfl,UW,hp2⟩
  replace hD:=hD.le o7
  replace hZ:=hZ.le o7
  replace hg:=hg.le o7
  replace KU:=KU.le o7
  replace hle0:=hle0.trans o7
  refine gC 2 [] [(1,a_ 13 b1)] [(13,[(5,.slice B2 (c2.data.length) (p2))])] ?_
  refine NS (gC 2 [] [(0,A_ 13 b1 13),(1,A_ 14 b2 13)] [(14,(MU c2 B2 p2))] ?_)
  refine NN (af.ret ?_)
  exact ai.oI (v:=.agg ⟨bT (bS B2 p2 c2)⟩) (l:=([QK w f o root A5 tr c6,Fw o q f root am tr,Fx q f km tr,yL am Z xs an,oo km fs kn,Hq A5 tr c6 B1 p1 c2]++tH f m t S2 L2)) (bF:=[b2=b2,b2=b2,b2=b2,b2=b2,b2=b2,b2=b2,b2=b2,b2=b2,b2=b2,b2=b2,b2=b2,b2=b2,b2=b2]) [.at 14,.at 14,.at 14,.at 14,.at 14,.at 14,.at 14,.at 14,.at 14,.at 14,.at 14,.at 14,.at 14] [10,0,1,2,3,11,4,5,6,7,8,9,12] hle0 (fun _=>by kernel_rfl) ⟨rfl,rfl,rfl,rfl,rfl,rfl,rfl,rfl,rfl,rfl,rfl,rfl,rfl,trivial⟩ rfl (by kernel_rfl) (⟨B1,p1,B2,p2,A5,c6,L2,rfl,rfl,by rw [hd2];exact KU,UW,hp2⟩)
 refine SR (gK 3 [(11,.bool (decide ((c.op:Int)=(1:Int))))] [(1,a_ 13 b1)] ?_)
 refine NN (af.bg (p:=(c.op:Int)=(1:Int)) (fun _=>by kernel_rfl) (fun h11=>?_) (fun h11=>?_))
 ·refine af.region (gC 6 [] [(3,a_ 0 w),(5,a_ 13 b1)] [(13,[(2,vI (root))])] ?_)
  refine NL ?_
  exact ai.meet root (idx:=[0,3,4]) (pk:=[0,1,2,3,4,5,6,7,8,9,10,11,12,13,14]) (show (root=if c.op=1 then root else c.other)/\((Lit.int .i64 root).wf=true) from ⟨(if_pos h11).symm,hrw⟩) (fun _=>by kernel_rfl) rfl (by kernel_rfl)
 refine af.skip ?_
 exact ai.meet c.other (idx:=[0,3,4]) (pk:=[0,1,2,3,4,5,6,7,8,9,10,11,12,13,14]) (show (c.other=if c.op=1 then root else c.other)/\((Lit.int .i64 c.other).wf=true) from ⟨(if_neg h11).symm,how⟩) (fun _=>by kernel_rfl) rfl (by kernel_rfl)
end
section
open Go.RowKit Go.Maps bL aB
section d
variable {β:Bs} {fs:List aZ} {xs:List cQ} {root:Int} {S S2:aG} {V:WV} {tr:List aD} {c c2:aD} {G:WG}
theorem xw (hrw:(Lit.int .i64 root).wf=true) (hI:Inv S) (hn:tr.length<=1048575) (hZ:jF β G.Z xs) (hX:iq xs 1048576) (hg:iU β) (hD:bD β c.dA c.data) (hl:c.data.length<=1048576) (hw:(Lit.int .i64 c.handle).wf=true) (how:(Lit.int .i64 c.other).wf=true) (hnm:c.name.size<=1048576) (QO:c.text.size<=1048576) (hW:ij fs xs root (tr.length+1) S c=(S2,c2)) :
    cJ Tryz.prog β 16 #[vP G.w,.agg ⟨bT c⟩] [wA G fs xs root S V tr] (fun β' v l=>∃ (V':WV) (B1:Option Addr) (p1:Nat) (B2:Option Addr) (p2:Nat),v=.agg ⟨bT (bS B2 p2 c2)⟩/\l=[wA G fs xs root S2 V' (tr++[bS B1 p1 c2])]/\bD β' B1 c2.data/\bD β' B2 c2.data/\c2.data.length<=p2):=
  (OQ S V.L G.w G.o G.q G.f G.m G.t G.am G.an G.km G.kn G.Z fs xs root tr V.A V.c hrw hI hn hZ hX hg c hD hl hw how hnm QO hW).one.mono (by
    rintro β' v l _ ⟨l0,⟨B1,p1,B2,p2,A',k',L2,rfl,rfl,h1,h2,h3⟩,rfl⟩
    refine⟨⟨L2,A',k'⟩,B1,p1,B2,p2,rfl,?_,h1,h2,h3⟩
    unfold wA wP tR
    rw [List.length_append]
    rfl)
theorem KV:Spec Tryz.prog β 49 #[vP G.w] [wA G fs xs root S V tr] (fun v l=>v=.int .i64 (tr.length:Int)/\l=[wA G fs xs root S V tr]):=
  (I9 S V.L G.w G.o G.q G.f G.m G.t G.am G.an G.km G.kn G.Z fs xs root tr V.A V.c).one.mono (by rintro v l ⟨l0,⟨rfl,rfl⟩,rfl⟩;exact⟨rfl,rfl⟩)
theorem vn:Spec Tryz.prog β 19 #[vP G.w] [wA G fs xs root S V tr] (fun v l=>v=.int .i64 (S.us.length:Int)/\l=[wA G fs xs root S V tr]):=
  (KN S V.L G.w G.o G.q G.f G.m G.t G.am G.an G.km G.kn G.Z fs xs root tr V.A V.c).one.mono (by rintro v l ⟨l0,⟨rfl,rfl⟩,rfl⟩;exact⟨rfl,rfl⟩)
theorem Dr (hI:Inv S):Spec Tryz.prog β 18 #[vP G.w] [wA G fs xs root S V tr] (fun v l=>∃ A cp K,v=.agg #[.slice A (aO S).length cp]/\l=[wA G fs xs root S V tr]++EM A cp (aO S) K):=by
  intro R w hS
  have h1:Sat β ([.abs R]++[wA G fs xs root S V tr]) w:=Sat.turn hS
  refine (Ja S V.L G.w G.o G.q G.f G.m G.t G.am G.an G.km G.kn G.Z fs xs root tr V.A V.c hI R w (Sat.turn (Sat.pK h1))).mono ?_
  rintro e w' ⟨v,l,h2,⟨A,cp,K,h3,rfl⟩,h4⟩
  refine⟨v,_,h2,⟨A,cp,K,h3,rfl⟩,?_⟩
  rw [List.append_assoc] at h4
  have h5:=(Sat.turn h4).fK
  rw [List.append_assoc] at h5 ⊢
  exact Sat.turn h5
theorem Bw (hI:Inv S):cJ Tryz.prog β 18 #[vP G.w] [wA G fs xs root S V tr] (fun β' v l=>∃ A cp K,v=.agg #[.slice A (aO S).length cp]/\l=[wA G fs xs root S V tr]/\au β' A (aO S) K):=
  (Dr hI).I8 (by
    rintro v l ⟨A,cp,K,rfl,rfl⟩
    exact⟨_,_,rfl,fun β' h=>⟨A,cp,K,rfl,rfl,h.graph⟩⟩)
theorem OT {ns:List aI} {Y:Lay} {X:FM} (A:Option Addr) (cp:Nat) (hG:au β A ns Y) (hB:gu ns 1048576) {Af Aa:Option Addr} (cf ca:Nat) (hF:cP β Af (bq dL fs)) (kS:fV fs 2097152) (hA:cP β Aa (bq dS xs)) (hab:iq xs 1048576) :
    cJ Tryz.prog β 37 #[.agg #[.slice A ns.length cp],.int .i64 root,.agg #[.int .i64 X.cN,.int .i64 X.cB,.int .i64 X.cH,.int .i64 X.cS,.int .i64 X.cZ],.agg #[.slice Af fs.length cf,.slice Aa xs.length ca]] [] (fun β' v l=>(cX X ns root≠0/\v=.tuple #[.pointer none,.int .i64 (cX X ns root)]/\l=[])\/(cX X ns root=0/\∃ (N:rY X ns) (G:WG) (V:WV),v=.tuple #[vP G.w,.int .i64 0]/\l=[wA G fs xs root N.1 V []]/\jF β' G.Z xs)):=
  ((MS A cp ns Y hG hB X root Af cf fs hF kS Aa ca xs hA hab).Qb (by
    rintro β' v l (⟨h1,h2,rfl⟩|⟨h1,N,L,w,o,q,f,m,t,am,an,km,kn,Z,h2,rfl,h3⟩)
    ·exact .inl ⟨rfl,.inl ⟨h1,h2,rfl⟩⟩
    exact .inr (.inr ⟨h1,N,⟨w,o,q,am,km,an,kn,f,m,t,Z⟩,⟨L,none,0⟩,h2,rfl,h3⟩)))
end d
end
section
open Go.RowKit Go.Maps bL aB
section e
variable {β:Bs} {fs:List aZ} {xs:List cQ} {root:Int} {ns:List aI} {X:FM}
abbrev newP (β:Bs) (B:Option Addr) (ns:List aI) (Bf:Option Addr) (bf:Nat) (fs:List aZ) (Ba:Option Addr) (ba:Nat) (xs:List cQ):List HP:=[.abs (kq β (fun β'=>∃ K,au β' B ns K)),.abs (aE 39 2 Bf fs.length bf (bq dL fs)),.abs (aE 41 5 Ba xs.length ba (bq dS xs))]
abbrev MV (B:Option Addr) (n cp:Nat) (root:Int) (X:FM) (Bf:Option Addr) (nf bf:Nat) (Ba:Option Addr) (na ba:Nat):Array Value:=#[.agg #[.slice B n cp],.int .i64 root,.agg #[.int .i64 X.cN,.int .i64 X.cB,.int .i64 X.cH,.int .i64 X.cS,.int .i64 X.cZ],.agg #[.slice Bf nf bf,.slice Ba na ba]]
theorem Fy {Bf Ba:Option Addr} (B:Option Addr) (cp:Nat) (hB:gu ns 1048576) (bf ba:Nat) (kS:fV fs 2097152) (hab:iq xs 1048576) :
    cJ Tryz.prog β 37 (MV B ns.length cp root X Bf fs.length bf Ba xs.length ba) (newP β B ns Bf bf fs Ba ba xs) (fun β' v l=>(cX X ns root≠0/\v=.tuple #[.pointer none,.int .i64 (cX X ns root)]/\l=[])\/(cX X ns root=0/\∃ (N:rY X ns) (G:WG) (V:WV),v=.tuple #[vP G.w,.int .i64 0]/\l=[wA G fs xs root N.1 V []]/\jF β' G.Z xs)):=
  cJ.IC fun β1 _ ⟨K,hG⟩=>cJ.P9 fun vX hL=>by
    obtain⟨F,h1,h2⟩:=hL.get 0 rfl
    obtain⟨F',h1',h2'⟩:=hL.get 1 rfl
    exact OT B cp (hG.le hL.le) hB bf ba (cP.jb h1 h2 rfl) kS (cP.jb h1' h2' rfl) hab
theorem MW (h0:cX X ns root=0) {Bf Ba:Option Addr} (B:Option Addr) (cp:Nat) (hB:gu ns 1048576) (bf ba:Nat) (kS:fV fs 2097152) (hab:iq xs 1048576) :
    Spec Tryz.prog β 37 (MV B ns.length cp root X Bf fs.length bf Ba xs.length ba) (newP β B ns Bf bf fs Ba ba xs) (fun v l=>∃ (N:rY X ns) (G:WG) (V:WV),v=.tuple #[vP G.w,.int .i64 0]/\l=[.abs (kq β (fun β'=>jF β' G.Z xs)),wA G fs xs root N.1 V []]):=
  (cJ.Np (ι:=rY X ns×WG×WV) (vv:=fun x=>.tuple #[vP x.2.1.w,.int .i64 0]) (ll:=fun x=>[wA x.2.1 fs xs root x.1.1 x.2.2 []]) (Φ:=fun x β'=>jF β' x.2.1.Z xs)
    ((Fy (X:=X) B cp hB bf ba kS hab).mono (by
      rintro β' v l _ (⟨h,_⟩|⟨_,N,G,V,h1,h2,h3⟩)
      ·exact absurd h0 h
      exact⟨(N,G,V),h1,h2,h3⟩))).mono (by rintro v l ⟨⟨N,G,V⟩,h1,h2⟩;exact⟨N,G,V,h1,h2⟩)
theorem KW (h0:¬ cX X ns root=0) {Bf Ba:Option Addr} (B:Option Addr) (cp:Nat) (hB:gu ns 1048576) (bf ba:Nat) (kS:fV fs 2097152) (hab:iq xs 1048576) :
    Spec Tryz.prog β 37 (MV B ns.length cp root X Bf fs.length bf Ba xs.length ba) (newP β B ns Bf bf fs Ba ba xs) (fun v l=>v=.tuple #[.pointer none,.int .i64 (cX X ns root)]/\l=[]):=
  ((Fy (X:=X) B cp hB bf ba kS hab).mono (by
      rintro β' v l _ (⟨_,h1,h2⟩|⟨h,_⟩)
      ·exact⟨h1,h2⟩
      exact absurd h h0)).Qa
end e
end
section
open Go.RowKit Go.Maps bL aB
attribute [local irreducible] aj aP af ai
noncomputable abbrev Fz (b1:Nat) (A:Option Addr) (ns:List aI) (c) (root) (X:FM) (Af) (fs:List aZ) (cf) (Aa) (xs:List cQ) (ca):=(.blk b1 [.slice A (ns.length) (c),vI (root),vI (X.cN),vI (X.cB),vI (X.cH),vI (X.cS),vI (X.cZ),.slice Af (fs.length) (cf),.slice Aa (xs.length) (ca)] 34:HP)
noncomputable abbrev NZ (B) (ns:List aI) (cp) (root) (X:FM):=([(6,.agg #[.slice B (ns.length) (cp)]),(8,vI (root)),(10,.agg #[vI (X.cN),vI (X.cB),vI (X.cH),vI (X.cS),vI (X.cZ)])]:Fr)
noncomputable abbrev SW (root) (X:FM):=([(8,vI (root)),(10,.agg #[vI (X.cN),vI (X.cB),vI (X.cH),vI (X.cS),vI (X.cZ)])]:Fr)
theorem Ds {β:Bs} (A:Option Addr) (c:Nat) (ns:List aI) (Y:Lay) (hG:au β A ns Y) (hB:gu ns 1048576) (X:FM) (root:Int) (Af:Option Addr) (cf:Nat) (fs:List aZ) (hF:cP β Af (bq dL fs)) (kS:fV fs 2097152) (Aa:Option Addr) (ca:Nat) (xs:List cQ) (hA:cP β Aa (bq dS xs)) (hab:iq xs 1048576) :
    cJ Tryz.prog β 15 #[.agg #[.slice A (ns.length) (c),vI (root),vI (X.cN),vI (X.cB),vI (X.cH),vI (X.cS),vI (X.cZ),.slice Af (fs.length) (cf),.slice Aa (xs.length) (ca)]] [] (fun β' v l=>(cX X ns root≠0/\v=.tuple #[.pointer none,vI (cX X ns root)]/\l=[])\/(cX X ns root=0/\∃ (N:rY X ns) (G:WG) (V:WV),v=.tuple #[vP G.w,vI 0]/\l=[wA G fs xs root N.1 V []]/\jF β' G.Z xs)):=by
 refine cJ.enter Tryz.func15 rfl Tryz.ntmps15 (Nat.le_of_ble_eq_true rfl) (fun hle0 R=>?_)
 refine SR (gN 3 (fun b1=>[(1,vP b1)]) (fun _=>[]) (fun _=>[]) (fun b1=>.blk b1 [.slice A (ns.length) (c),vI (root),vI (X.cN),vI (X.cB),vI (X.cH),vI (X.cS),vI (X.cZ),.slice Af (fs.length) (cf),.slice Aa (xs.length) (ca)] 34) (fun b1=>?_))
 refine NN (af.seq ?_)
 by_cases h0:cX X ns root=0
 ·refine af.mF (S:=[Fz b1 A ns c root X Af fs cf Aa xs ca]) [(true,0),(true,1),(true,3),(true,4),(true,5),(true,6),(true,7),(true,8),(false,2),(false,9),(false,10),(true,11),(true,12),(true,13),(false,14)] [1] (by kernel_rfl) (by kernel_rfl) rfl (by kernel_rfl) ?_
  refine gG [(false,2),(false,9),(false,10),(true,11),(true,12),(true,13),(false,14)] ([(5,.agg #[.slice A (ns.length) (c)])]++SW root X++[(12,.agg #[.slice Af (fs.length) (cf),.slice Aa (xs.length) (ca)])]) [0,1,3,4,5,6,7,8] [(1,a_ 0 b1),(3,a_ 0 b1),(5,A_ 0 b1 5),(7,A_ 0 b1 2)] ?_
  refine gX.cut (ι:=(Option Addr)×Nat) (fr':=fun ((B,cp):(Option Addr)×Nat)=>(NZ B ns cp root X++[(12,.agg #[.slice Af (fs.length) (cf),.slice Aa (xs.length) (ca)])])) (hp':=fun ((B,cp):(Option Addr)×Nat)=>[.abs (kq β (fun β'=>∃ K,au β' B ns K)),.abs R,Fz b1 A ns c root X Af fs cf Aa xs ca]) [2] (by kernel_rfl) ?_ rfl (fun _=>by kernel_rfl) ?_
  ·refine gL [] (vN (β:=β) A c ns Y hG (xM hB) (DG hB)) ?_
   rintro _ _ ⟨B,cp,rfl,rfl⟩
   refine NL ?_
   exact MD (B,cp) [6,8,10,12] [0,1,2]
  rintro⟨B,cp⟩
  refine gX.cut (ι:=(Option Addr)×Nat×(Option Addr)×Nat) (fr':=fun ((Bf,bf,Ba,ba):(Option Addr)×Nat×(Option Addr)×Nat)=>(NZ B ns cp root X++[(13,.agg #[.slice Bf (fs.length) (bf),.slice Ba (xs.length) (ba)])])) (hp':=fun ((Bf,bf,Ba,ba):(Option Addr)×Nat×(Option Addr)×Nat)=>[.abs (aE 39 2 Bf fs.length bf (bq dL fs)),.abs (aE 41 5 Ba xs.length ba (bq dS xs)),.abs (kq β (fun β'=>∃ K,au β' B ns K)),.abs R,Fz b1 A ns c root X Af fs cf Aa xs ca]) [4] (by kernel_rfl) ?_ rfl (fun _=>by kernel_rfl) ?_
  ·refine gL [] (vO (β:=β) Af cf fs hF kS.len Aa ca xs hA (Nat.le_trans hab.len (by decide))) ?_
   rintro _ _ ⟨Bf,bf,Ba,ba,rfl,rfl⟩
   refine NL ?_
   exact MD (Bf,bf,Ba,ba) [6,8,10,13] [0,1,2,3,4]
  rintro⟨Bf,bf,Ba,ba⟩
  refine gX.cut (ι:=(rY X ns)×WG×WV) (fr':=fun ((N,G,V):(rY X ns)×WG×WV)=>[(14,.tuple #[vP G.w,vI 0])]) (hp':=fun ((N,G,V):(rY X ns)×WG×WV)=>[.abs (kq β (fun β'=>jF β' G.Z xs)),wA G fs xs root N.1 V ([]),.abs R,.blk b1 [.slice A (ns.length) (c),vI (root),vI (X.cN),vI (X.cB),vI (X.cH),vI (X.cS),vI (X.cZ),.slice Af (fs.length) (cf),.slice Aa (xs.length) (ca)] 34]) [3] (by kernel_rfl) ?_ rfl (fun _=>by kernel_rfl) ?_
  ·refine gL [2,0,1] (MW (β:=β) (X:=X) (Bf:=Bf) (Ba:=Ba) h0 B cp hB bf ba kS hab) ?_
   rintro _ _ ⟨N,G,V,rfl,rfl⟩
   refine NL ?_
   exact MD (N,G,V) [14] [0,1,2,3]
  rintro⟨N,G,V⟩
  refine gG [(false,14)] [(2,vP G.w),(16,vI 0)] [11,12,13] [] ?_
  refine gX.last (by kernel_rfl) ?_
  refine gK 1 [(3,vI 0)] [] ?_
  refine NL (ai.np (NX (af.ret ?_)))
  refine ai.ER 0 [1,2,3] (cL:=[wA G fs xs root N.1 V ([]),.abs R,.blk b1 [.slice A (ns.length) (c),vI (root),vI (X.cN),vI (X.cB),vI (X.cH),vI (X.cS),vI (X.cZ),.slice Af (fs.length) (cf),.slice Aa (xs.length) (ca)] 34]) rfl (by kernel_rfl) rfl (fun vX iy hz=>?_)
  replace hG:=hG.le iy
  replace hF:=hF.le iy
  replace hA:=hA.le iy
  replace hle0:=hle0.trans iy
  exact ai.oI (v:=.tuple #[vP G.w,vI 0]) (l:=[wA G fs xs root N.1 V ([])]) (bF:=[]) [] [0,1] hle0 (fun _=>by kernel_rfl) trivial rfl (by kernel_rfl) (.inr ⟨h0,N,G,V,rfl,rfl,hz⟩)
 refine af.mF (S:=[Fz b1 A ns c root X Af fs cf Aa xs ca]) [(true,0),(true,1),(true,3),(true,4),(true,5),(true,6),(true,7),(true,8),(false,2),(false,9),(false,10),(true,11),(true,12),(true,13),(false,14)] [1] (by kernel_rfl) (by kernel_rfl) rfl (by kernel_rfl) ?_
 refine gG [(false,2),(false,9),(false,10),(true,11),(true,12),(true,13),(false,14)] ([(5,.agg #[.slice A (ns.length) (c)])]++SW root X++[(12,.agg #[.slice Af (fs.length) (cf),.slice Aa (xs.length) (ca)])]) [0,1,3,4,5,6,7,8] [(1,a_ 0 b1),(3,a_ 0 b1),(5,A_ 0 b1 5),(7,A_ 0 b1 2)] ?_
 refine gX.cut (ι:=(Option Addr)×Nat) (fr':=fun ((B,cp):(Option Addr)×Nat)=>(NZ B ns cp root X++[(12,.agg #[.slice Af (fs.length) (cf),.slice Aa (xs.length) (ca)])])) (hp':=fun ((B,cp):(Option Addr)×Nat)=>[.abs (kq β (fun β'=>∃ K,au β' B ns K)),.abs R,Fz b1 A ns c root X Af fs cf Aa xs ca]) [2] (by kernel_rfl) ?_ rfl (fun _=>by kernel_rfl) ?_
 ·refine gL [] (vN (β:=β) A c ns Y hG (xM hB) (DG hB)) ?_
  rintro _ _ ⟨B,cp,rfl,rfl⟩
  refine NL ?_
  exact MD (B,cp) [6,8,10,12] [0,1,2]
 rintro⟨B,cp⟩
 refine gX.cut (ι:=(Option Addr)×Nat×(Option Addr)×Nat) (fr':=fun ((Bf,bf,Ba,ba):(Option Addr)×Nat×(Option Addr)×Nat)=>(NZ B ns cp root X++[(13,.agg #[.slice Bf (fs.length) (bf),.slice Ba (xs.length) (ba)])])) (hp':=fun ((Bf,bf,Ba,ba):(Option Addr)×Nat×(Option Addr)×Nat)=>[.abs (aE 39 2 Bf fs.length bf (bq dL fs)),.abs (aE 41 5 Ba xs.length ba (bq dS xs)),.abs (kq β (fun β'=>∃ K,au β' B ns K)),.abs R,Fz b1 A ns c root X Af fs cf Aa xs ca]) [4] (by kernel_rfl) ?_ rfl (fun _=>by kernel_rfl) ?_
 ·refine gL [] (vO (β:=β) Af cf fs hF kS.len Aa ca xs hA (Nat.le_trans hab.len (by decide))) ?_
  rintro _ _ ⟨Bf,bf,Ba,ba,rfl,rfl⟩
  refine NL ?_
  exact MD (Bf,bf,Ba,ba) [6,8,10,13] [0,1,2,3,4]
 rintro⟨Bf,bf,Ba,ba⟩
 refine gX.cut (ι:=Unit) (fr':=fun (_:Unit)=>[(14,.tuple #[.pointer none,vI (cX X ns root)])]) (hp':=fun (_:Unit)=>[.abs R,Fz b1 A ns c root X Af fs cf Aa xs ca]) [1] (by kernel_rfl) ?_ rfl (fun _=>by kernel_rfl) ?_
 ·refine gL [2,0,1] (KW (β:=β) (X:=X) (Bf:=Bf) (Ba:=Ba) h0 B cp hB bf ba kS hab) ?_
  rintro _ _ ⟨rfl,rfl⟩
  refine NL ?_
  exact MD () [14] [0,1]
 rintro _
 refine gG [(false,14)] [(2,.pointer none),(16,vI ((cX X ns root)))] [11,12,13] [] ?_
 refine gX.last (by kernel_rfl) ?_
 refine gK 1 [(3,vI ((cX X ns root)))] [] ?_
 refine NL (ai.np (NX (af.ret ?_)))
 exact ai.oI (v:=.tuple #[.pointer none,vI ((cX X ns root))]) (l:=[]) (bF:=[]) [] [0] hle0 (fun _=>by kernel_rfl) trivial rfl (by kernel_rfl) (.inl ⟨h0,rfl,rfl⟩)
end
section
open Go.RowKit Go.Maps bL aB
def UX:aI:=⟨1,2,493,0,0,0,0,[],⟨#[]⟩,[]⟩
def uw:List aI:=[UX]
def xA:List aZ:=[⟨2,1⟩]
theorem Hr {i:Nat} (h:i < uw.length):i=0:=by
  have h:i < 1:=h
  omega
theorem RN:bQ uw:=by
  refine⟨by decide,fun i hi=>?_,fun i hi=>?_,fun i j hij hj=>?_,by decide,fun i hi j hj=>?_,by decide,fun z=>?_⟩
  ·obtain rfl:=Hr hi
   exact⟨by decide,by decide,by decide,by decide,Dj,fun _=>rfl,fun h=>absurd rfl h,.inl ⟨by decide,rfl⟩⟩
  ·obtain rfl:=Hr hi
   exact⟨by decide,by decide⟩
  ·have:=Hr hj;omega
  ·obtain rfl:=Hr hi
   exact absurd hj (Nat.not_lt_zero j)
  have e:(fD uw uw.length).map (iX uw)=[]:=by decide
  rw [e]
  exact⟨0,rfl⟩
theorem QS:jk (Fm 99):=OI (by decide)
theorem RO {β:Bs} {B:Option Addr} (hR:cP β B (dx ⟨fun _=>none,fun _=>none,fun _=>0,fun _=>0⟩ uw)):au β B uw ⟨fun _=>none,fun _=>none,fun _=>0,fun _=>0⟩:=by
  have hn:∀ {A:Option Addr},cP β A []:=fun j v hj=>by simp at hj
  refine⟨hR,fun i hi=>?_,fun i hi=>?_⟩<;>(obtain rfl:=Hr hi;exact hn)
structure MX (S:aG):Prop where
  inv:Inv S
  idx:S.idx=[(1,⟨1,2⟩)]
  us:S.us=[]
  X:S.X=⟨9,99,9,0,0,1,0,0⟩
  o1:∃ l u,obj S.O 1=⟨1,493,0,0,0,0,l,0,false,2,[],⟨#[]⟩,[],u⟩
section v
variable {S:aG}
theorem QT (h:fL (Fm 99) uw uw.length 0 S):MX S:=by
  obtain⟨l1,u1,h1⟩:=h.ob 0 (by decide)
  exact⟨h.full,h.idx,h.us,h.cap,⟨l1,u1,h1⟩⟩
def mU:aD:=⟨1,0,0,⟨#[]⟩,⟨#[]⟩,none,0,[],0,0,0,0,0,0,0⟩
def mI:aD:=⟨4,1,0,⟨#[100]⟩,⟨#[]⟩,none,0,[],0,0,0,0,0,0,0⟩
theorem TU (h:MX S):ij xA [] 1 1 S mU=(S1 S,{ mU with other:=1,answer:=1,code:=0 }):=by
  have:=OJ (S:=S) (c:={ mU with other:=1 }) (t:=⟨1,2⟩) rfl (by rw [h.idx];rfl) rfl (by rw [h.us,h.X];show (0:Int) < 9;decide)
  rw [h.us] at this
  exact this
theorem TV:ij xA [] 1 2 S mI=(S,{ mI with code:=180 }):=rfl
theorem TW (h:MX S):∃ S2,ij xA [] 1 3 (S1 S) mI=(S2,{ mI with answer:=0,code:=0 })/\S2.idx.length=2:=by
  obtain⟨l,u,h1⟩:=h.o1
  have e1:obj (S1 S).O 1=⟨1,493,0,0,0,0,l,1,false,2,[],⟨#[]⟩,[],u⟩:=by
    rw [TN,h1];rfl
  have hX:(S1 S).X=⟨9,99,9,0,0,1,0,0⟩:=h.X
  have hi:(S1 S).idx=[(1,⟨1,2⟩)]:=h.idx
  have ha:dZ (S1 S).O (S1 S).us 1 ⟨#[100]⟩ 192=.ok 1:=MI (t:=⟨1,2⟩) rfl rfl (by rw [e1]) Qz (by rw [e1];exact QA)
  refine⟨_,show cI (S1 S) mI=_ from MJ (S:=S1 S) (c:=mI) rfl ha ⟨by decide,by decide⟩ (by rw [e1];rfl) ⟨by rw [hX,hi];show (1:Int) < 9;decide,by rw [hX];show (1:Int) < 1099511627776;decide,by rw [hX];show (0:Int) < 8192;decide⟩,?_⟩
  show (ins _ _ (S1 S).idx).length=2
  rw [hX,hi];rfl
end v
end
section
open Go.RowKit Go.Maps bL aB
section f
variable {β:Bs} {fs:List aZ} {xs:List cQ} {root:Int} {ns:List aI} {X:FM}
theorem Bx {ns:List aI} (h0:cX X ns root=0) (A:Option Addr) (c:Nat) (Y:Lay) (hG:au β A ns Y) (hB:gu ns 1048576) (Af:Option Addr) (cf:Nat) (fs:List aZ) (hF:cP β Af (bq dL fs)) (kS:fV fs 2097152) (Aa:Option Addr) (ca:Nat) (xs:List cQ) (hA:cP β Aa (bq dS xs)) (hab:iq xs 1048576) :
    cJ Tryz.prog β 15 #[Ch A ns.length c root X Af fs.length cf Aa xs.length ca] [] (fun β' v l=>∃ (N:rY X ns) (G:WG) (V:WV),v=.tuple #[vP G.w,.int .i64 0]/\l=[wA G fs xs root N.1 V []]/\jF β' G.Z xs):=
  (Ds A c ns Y hG hB X root Af cf fs hF kS Aa ca xs hA hab).mono (by
    rintro β' v l _ (⟨h,_⟩|⟨_,h⟩)
    ·exact absurd h0 h
    exact h)
theorem Jb {ns:List aI} (h0:¬ cX X ns root=0) (A:Option Addr) (c:Nat) (Y:Lay) (hG:au β A ns Y) (hB:gu ns 1048576) (Af:Option Addr) (cf:Nat) (fs:List aZ) (hF:cP β Af (bq dL fs)) (kS:fV fs 2097152) (Aa:Option Addr) (ca:Nat) (xs:List cQ) (hA:cP β Aa (bq dS xs)) (hab:iq xs 1048576) :
    cJ Tryz.prog β 15 #[Ch A ns.length c root X Af fs.length cf Aa xs.length ca] [] (fun _ v l=>v=.tuple #[.pointer none,.int .i64 (cX X ns root)]/\l=[]):=
  (Ds A c ns Y hG hB X root Af cf fs hF kS Aa ca xs hA hab).mono (by
    rintro β' v l _ (⟨_,h1,h2⟩|⟨h,_⟩)
    ·exact⟨h1,h2⟩
    exact absurd h h0)
theorem QU:cX (Fm 99) uw 1=0:=AU QS RN (i:=0) ⟨by decide,rfl,fun q h=>absurd h (Nat.not_lt_zero q)⟩ rfl
theorem TY:gu uw 1048576:=⟨by decide,fun i hi=>by
  obtain rfl:=Hr hi
  exact⟨by unfold I64;decide,by decide,by decide,by decide,fun j hj=>absurd hj (Nat.not_lt_zero j)⟩⟩
theorem RP:fV xA 2097152:=⟨by decide,fun a ha=>by
  obtain rfl:=List.mem_singleton.1 ha
  decide⟩
theorem DR:iq [] 1048576:=⟨by decide,fun a ha=>by cases ha⟩
end f
end
section
open Go.RowKit Go.Maps bL aB
attribute [local irreducible] aj aP af ai
noncomputable abbrev SX (b4:Nat):=(.blk b4 [.slice none (0) (0),vI 0,vI 0,vI 0,vI 0,vI 0,vI 0,.slice none (0) (0),.slice none (0) (0)] 34:HP)
noncomputable abbrev QV (b18:Nat) (Hs) (p16):=(.blk b18 [vI 1,vI 0,vI 1,.string ⟨#[]⟩,.string ⟨#[]⟩,.slice Hs (0) (p16),vI 0,vI 0,vI 0,vI 0,vI 0,vI 0,vI 1] 48:HP)
noncomputable abbrev SY (om:Nat) (KX) (KY):=(.blk om [vI 4,vI 1,vI 0,.string ⟨#[100]⟩,.string ⟨#[]⟩,.slice KX (0) (KY),vI 0,vI 0,vI 0,vI 0,vI 0,vI 180,vI 0] 48:HP)
theorem yM {β:Bs} (c:aD) (hD:bD β c.dA c.data) (hl:c.data.length<=1048576) :
    cJ Tryz.prog β 17 #[.agg ⟨bT c⟩] [] (fun β' v l=>∃ B cp,v=.agg ⟨bT { c with dA:=B,dC:=cp }⟩/\l=[]/\bD β' B c.data/\c.data.length<=cp):=by
 refine cJ.enter Tryz.func17 rfl Tryz.ntmps17 (Nat.le_of_ble_eq_true rfl) (fun hle0 R=>?_)
 refine SR (gN 1 (fun b1=>[(1,vP b1)]) (fun _=>[]) (fun _=>[]) (fun b1=>pC b1 c) (fun b1=>?_))
 refine gN 1 (fun b2=>[(2,vP b2)]) (fun _=>[]) (fun _=>[]) (fun b2=>.blk b2 [vI 0,vI 0,vI 0,.string ⟨#[]⟩,.string ⟨#[]⟩,.slice none (0) (0),vI 0,vI 0,vI 0,vI 0,vI 0,vI 0,vI 0] 48) (fun b2=>?_)
 refine NS (gK 2 [(4,.slice c.dA (c.data.length) (c.dC))] [(1,a_ 1 b1)] ?_)
 refine aj.jg (d:=(some 5)) (R:=[.abs R,pC b1 c,oH b2]) (pk:=[0,1,2]) (fun _=>by kernel_rfl) (Dy c.dA c.dC c.data hD hl) rfl (by kernel_rfl) ?_
 rintro SV _ _ q4 ⟨B,cp,rfl,rfl,hB,EK⟩
 replace hle0:=hle0.trans q4
 refine gC 2 [] [(1,a_ 1 b1)] [(1,[(5,.slice B (c.data.length) (cp))])] ?_
 refine NS (gC 2 [] [(0,A_ 1 b1 13),(1,A_ 2 b2 13)] [(2,(MU c B cp))] ?_)
 refine NN (af.ret ?_)
 exact ai.oI (v:=.agg ⟨bT (bS B cp c)⟩) (l:=[]) (bF:=[b2=b2,b2=b2,b2=b2,b2=b2,b2=b2,b2=b2,b2=b2,b2=b2,b2=b2,b2=b2,b2=b2,b2=b2,b2=b2]) [.at 2,.at 2,.at 2,.at 2,.at 2,.at 2,.at 2,.at 2,.at 2,.at 2,.at 2,.at 2,.at 2] [0] hle0 (fun _=>by kernel_rfl) ⟨rfl,rfl,rfl,rfl,rfl,rfl,rfl,rfl,rfl,rfl,rfl,rfl,rfl,trivial⟩ rfl (by kernel_rfl) (⟨B,cp,rfl,rfl,hB,EK⟩)
theorem Gi {β:Bs}:cJ Tryz.prog β 57 #[] [] (fun β' v l=>∃ B Bf,v=.agg #[.slice B 1 1,vI 1,vI 9,vI 99,vI 9,vI 0,vI 0,.slice Bf 1 1,.slice none 0 0]/\l=[]/\cP β' B (dx ⟨fun _=>none,fun _=>none,fun _=>0,fun _=>0⟩ uw)/\cP β' Bf (bq dL xA)):=by
 refine cJ.enter Tryz.func57 rfl Tryz.ntmps57 (Nat.le_of_ble_eq_true rfl) (fun hle0 R=>?_)
 refine SR (gN 1 (fun b4=>[(0,vP b4)]) (fun _=>[]) (fun _=>[]) (fun b4=>.blk b4 [.slice none (0) (0),vI 0,vI 0,vI 0,vI 0,vI 0,vI 0,.slice none (0) (0),.slice none (0) (0)] 34) (fun b4=>?_))
 refine NS (gN 3 (fun b5=>[(4,.agg #[.slice (some ⟨b5,0,none⟩) (1) (1)])]) (fun _=>[]) (fun _=>[]) (fun b5=>.blk b5 [vI 1,vI 2,vI 493,vI 0,vI 0,vI 0,vI 0,.slice none (0) (0),.string ⟨#[]⟩,.slice none (0) (0)] 70) (fun b5=>?_))
 refine gN 2 (fun b6=>[(1,vP b6)]) (fun b6=>[(1,a_ 3 b6)]) (fun _=>[]) (fun b6=>.blk b6 [.slice (some ⟨b5,0,none⟩) (1) (1)] 24) (fun b6=>?_)
 refine NS (aj.mem (fun w hS=>hS.nP (i:=2) (b:=b5) (cs:=[vI 1,vI 2,vI 493,vI 0,vI 0,vI 0,vI 0,.slice none (0) (0),.string ⟨#[]⟩,.slice none (0) (0)]) (e:=70) 10 1 (by kernel_rfl) rfl (by decide)) ?_)
 refine aj.kQ (Φ:=fun β'=>cP β' (some ⟨b5,0,none⟩) (dx ⟨fun _=>none,fun _=>none,fun _=>0,fun _=>0⟩ uw)) 2 [0,1,3] (cL:=[.abs R,SX b4,.blk b6 [.slice (some ⟨b5,0,none⟩) (1) (1)] 24]) rfl rfl (by kernel_rfl) (fun F w h β' h1 h2=>cP.jb h h1 h2) (fun UU o7 hR=>?_)
 replace hle0:=hle0.trans o7
 refine gN 4 (fun b8=>[(5,.agg #[.slice (some ⟨b5,0,none⟩) (1) (1)]),(6,.agg #[vI 9,vI 99,vI 9,vI 0,vI 0]),(8,.slice (some ⟨b8,0,none⟩) (1) (1))]) (fun b8=>[(0,a_ 2 b6)]) (fun _=>[]) (fun b8=>.blk b8 [vI 2,vI 1] 39) (fun b8=>?_)
 refine aj.mem (fun w hS=>hS.nP (i:=3) (b:=b8) (cs:=[vI 2,vI 1]) (e:=39) 2 1 (by kernel_rfl) rfl (by decide)) ?_
 refine aj.kQ (Φ:=fun β'=>cP β' (some ⟨b8,0,none⟩) (bq dL xA)) 3 [0,1,2] (cL:=[.abs R,SX b4,.blk b6 [.slice (some ⟨b5,0,none⟩) (1) (1)] 24]) rfl rfl (by kernel_rfl) (fun F w h β' h1 h2=>cP.jb h h1 h2) (fun V3 Ht hQ=>?_)
 replace hR:=hR.le Ht
 replace hle0:=hle0.trans Ht
 refine gC 3 [] [(2,A_ 1 b4 9)] [(1,[(0,.slice (some ⟨b5,0,none⟩) (1) (1)),(1,vI 1),(2,vI 9),(3,vI 99),(4,vI 9),(7,.slice (some ⟨b8,0,none⟩) (1) (1))])] ?_
 refine NN (af.ret ?_)
 exact ai.oI (v:=.agg #[.slice (some ⟨b5,0,none⟩) (1) (1),vI 1,vI 9,vI 99,vI 9,vI 0,vI 0,.slice (some ⟨b8,0,none⟩) (1) (1),.slice none (0) (0)]) (l:=[]) (bF:=[b4=b4,b4=b4,b4=b4,b4=b4,b4=b4,b4=b4,b4=b4,b4=b4,b4=b4]) [.at 1,.at 1,.at 1,.at 1,.at 1,.at 1,.at 1,.at 1,.at 1] [0] hle0 (fun _=>by kernel_rfl) ⟨rfl,rfl,rfl,rfl,rfl,rfl,rfl,rfl,rfl,trivial⟩ rfl (by kernel_rfl) (⟨_,_,rfl,rfl,hR,hQ⟩)
theorem MY {β:Bs} (hg:iU β):cJ Tryz.prog β 13 #[] [] (fun _ v l=>v=.bool true/\l=[]):=by
 refine cJ.enter Tryz.func13 rfl Tryz.ntmps13 (Nat.le_of_ble_eq_true rfl) (fun hle0 R=>?_)
 refine SR (gK 1 [] [] ?_)
 refine NS (aj.jg (d:=(some 7)) (R:=[.abs R]) (pk:=[0]) (fun _=>by kernel_rfl) (Gi) rfl (by kernel_rfl) ?_)
 rintro Fq _ _ iw ⟨B,Bf,rfl,rfl,hR,hQ⟩
 replace hg:=hg.le iw
 replace hle0:=hle0.trans iw
 refine aj.jg (d:=(some 8)) (R:=[.abs R]) (pk:=[0]) (fun _=>by kernel_rfl) (Bx (β:=Fq) (X:=Fm 99) QU B 1 _ (RO hR) TY Bf 1 xA hQ RP none 0 [] (fun j v hj=>by simp [bq,dg] at hj) DR) rfl (by kernel_rfl) ?_
 rintro MZ _ _ ja ⟨N,G,V,rfl,rfl,hZ⟩
 replace hg:=hg.le ja
 replace hR:=hR.le ja
 replace hQ:=hQ.le ja
 replace hle0:=hle0.trans ja
 refine gK 5 [(1,vP G.w),(2,vI 0)] [] ?_
 refine NN (af.seq (SR (gK 6 [(16,.bool false)] [] ?_)))
 refine NN (CF (af.skip (NX (SR (gK 2 [(17,vP G.w),(18,.agg #[vI 1,vI 0,vI 0,.string ⟨#[]⟩,.string ⟨#[]⟩,.slice none (0) (0),vI 0,vI 0,vI 0,vI 0,vI 0,vI 0,vI 0])] [] ?_)))))
 have hv:=QT N.2
 have e1:=TU hv
 have ck:Inv (S1 N.1):=by have h:=Inv.ij (fs:=xA) (xs:=[]) (root:=1) (n:=1) (c:=mU) hv.inv;rw [e1] at h;exact h
 obtain⟨S3,e3,UY⟩:=TW hv
 have UZ:Inv S3:=by have h:=Inv.ij (fs:=xA) (xs:=[]) (root:=1) (n:=3) (c:=mI) ck;rw [e3] at h;exact h
 refine aj.jg (d:=(some 19)) (R:=[.abs R]) (pk:=[0,1]) (fun _=>by kernel_rfl) (xw (β:=MZ) (G:=G) (V:=V) (tr:=[]) (c:=mU) (by decide) hv.inv (by show 0<=1048575;decide) hZ DR hg (fun j v hj=>by cases hj) (by decide) (by decide) (by decide) (by decide) (by decide) e1) rfl (by kernel_rfl) ?_
 rintro T3 _ _ rZ ⟨U0,KZ,K1,Hs,p16,rfl,rfl,_,_,_⟩
 replace hg:=hg.le rZ
 replace hR:=hR.le rZ
 replace hQ:=hQ.le rZ
 replace hZ:=hZ.le rZ
 replace hle0:=hle0.trans rZ
 refine gN 2 (fun b18=>[(3,vP b18)]) (fun b18=>[(1,A_ 2 b18 13)]) (fun _=>[]) (fun b18=>.blk b18 [vI 1,vI 0,vI 1,.string ⟨#[]⟩,.string ⟨#[]⟩,.slice Hs (0) (p16),vI 0,vI 0,vI 0,vI 0,vI 0,vI 0,vI 1] 48) (fun b18=>?_)
 refine NS (gK 2 [(20,vP G.w),(21,.agg #[vI 4,vI 1,vI 0,.string ⟨#[100]⟩,.string ⟨#[]⟩,.slice none (0) (0),vI 0,vI 0,vI 0,vI 0,vI 0,vI 0,vI 0])] [] ?_)
 refine aj.jg (d:=(some 22)) (R:=[.abs R,QV b18 Hs p16]) (pk:=[0,1,2]) (fun _=>by kernel_rfl) (xw (β:=T3) (G:=G) (V:=U0) (tr:=([]++[bS KZ K1 ({ mU with other:=1,answer:=1,code:=0 })])) (c:=mI) (by decide) ck (by show 1<=1048575;decide) hZ DR hg (fun j v hj=>by cases hj) (by decide) (by decide) (by decide) (by decide) (by decide) TV) rfl (by kernel_rfl) ?_
 rintro T4 _ _ r8 ⟨U1,N0,N5,KX,KY,rfl,rfl,_,_,_⟩
 replace hg:=hg.le r8
 replace hR:=hR.le r8
 replace hQ:=hQ.le r8
 replace hZ:=hZ.le r8
 replace hle0:=hle0.trans r8
 refine gN 2 (fun om=>[(4,vP om)]) (fun om=>[(1,A_ 3 om 13)]) (fun _=>[]) (fun om=>.blk om [vI 4,vI 1,vI 0,.string ⟨#[100]⟩,.string ⟨#[]⟩,.slice KX (0) (KY),vI 0,vI 0,vI 0,vI 0,vI 0,vI 180,vI 0] 48) (fun om=>?_)
 refine NS (gK 2 [(23,vP G.w),(24,.agg #[vI 4,vI 1,vI 0,.string ⟨#[100]⟩,.string ⟨#[]⟩,.slice none (0) (0),vI 0,vI 0,vI 0,vI 0,vI 0,vI 0,vI 0])] [] ?_)
 refine aj.jg (d:=(some 25)) (R:=[.abs R,QV b18 Hs p16,SY om KX KY]) (pk:=[0,1,2,3]) (fun _=>by kernel_rfl) (xw (β:=T4) (G:=G) (V:=U1) (tr:=(([]++[bS KZ K1 ({ mU with other:=1,answer:=1,code:=0 })])++[bS N0 N5 ({ mI with code:=180 })])) (c:=mI) (by decide) ck (by show 2<=1048575;decide) hZ DR hg (fun j v hj=>by cases hj) (by decide) (by decide) (by decide) (by decide) (by decide) e3) rfl (by kernel_rfl) ?_
 rintro Jc _ _ iL ⟨SZ,QW,QX,S5,S6,rfl,rfl,_,_,_⟩
 replace hg:=hg.le iL
 replace hR:=hR.le iL
 replace hQ:=hQ.le iL
 replace hZ:=hZ.le iL
 replace hle0:=hle0.trans iL
 refine gN 2 (fun b32=>[(5,vP b32)]) (fun b32=>[(1,A_ 4 b32 13)]) (fun _=>[]) (fun b32=>.blk b32 [vI 4,vI 1,vI 0,.string ⟨#[100]⟩,.string ⟨#[]⟩,.slice S5 (0) (S6),vI 0,vI 0,vI 0,vI 0,vI 0,vI 0,vI 0] 48) (fun b32=>?_)
 refine NS (gK 20 [(44,.bool true),(45,vP G.w)] [(1,a_ 2 b18),(5,a_ 2 b18),(10,a_ 3 om),(15,a_ 4 b32)] ?_)
 refine gL [0] (KV (β:=Jc) (G:=G) (fs:=xA) (xs:=[]) (root:=1) (S:=S3) (V:=SZ) (tr:=((([]++[bS KZ K1 ({ mU with other:=1,answer:=1,code:=0 })])++[bS N0 N5 ({ mI with code:=180 })])++[bS QW QX ({ mI with answer:=0,code:=0 })]))) ?_
 rintro _ _ ⟨rfl,rfl⟩
 refine gK 4 [(49,.bool true),(50,vP G.w)] [(0,p_ ⟨[],none,none,none,some (.bool true)⟩ [((.bool (decide (((((((([]++[bS KZ K1 ({ mU with other:=1,answer:=1,code:=0 })])++[bS N0 N5 ({ mI with code:=180 })])++[bS QW QX ({ mI with answer:=0,code:=0 })])).length:Nat):Int):Int)=(3:Int))):Value))=(.bool true)] ⟨rfl,trivial⟩)] ?_
 refine aj.jg (d:=(some 51)) (R:=[.abs R,QV b18 Hs p16,SY om KX KY,.blk b32 [vI 4,vI 1,vI 0,.string ⟨#[100]⟩,.string ⟨#[]⟩,.slice S5 (0) (S6),vI 0,vI 0,vI 0,vI 0,vI 0,vI 0,vI 0] 48]) (pk:=[0,1,2,3,4]) (fun _=>by kernel_rfl) (Bw (β:=Jc) (G:=G) (fs:=xA) (xs:=[]) (root:=1) (S:=S3) (V:=SZ) (tr:=((([]++[bS KZ K1 ({ mU with other:=1,answer:=1,code:=0 })])++[bS N0 N5 ({ mI with code:=180 })])++[bS QW QX ({ mI with answer:=0,code:=0 })])) UZ) rfl (by kernel_rfl) ?_
 rintro Vv _ _ r9 ⟨A4,c4,K4,rfl,rfl,_⟩
 replace hg:=hg.le r9
 replace hR:=hR.le r9
 replace hQ:=hQ.le r9
 replace hZ:=hZ.le r9
 replace hle0:=hle0.trans r9
 refine gK 5 [(0,.bool (decide ((((2:Nat):Int):Int)=(2:Int))))] [(1,p_ ⟨[],none,none,none,some (vI (((2:Nat):Int)))⟩ [((.int .i64 ↑((aO S3).length):Value))=(.int .i64 (((2:Nat):Int)))] ⟨by rw [nY,UY],trivial⟩)] ?_
 refine NN (af.ret ?_)
 exact ai.oI (v:=.bool (decide ((((2:Nat):Int):Int)=(2:Int)))) (l:=[]) (bF:=[]) [] [1] hle0 (fun _=>by kernel_rfl) trivial rfl (by kernel_rfl) (⟨rfl,rfl⟩)
end
section
open Go.RowKit Go.Maps bL aB
theorem Jd {α:Type} (f:α->List Value) (a:α) (r:List α):bq f (a::r)=f a++bq f r:=by
  have:∀ (k k':Nat) (r:List α),dg (fun _ x=>f x) k r=dg (fun _ x=>f x) k' r:=fun k k' r=>by
    induction r generalizing k k' with
    | nil=>rfl
    | cons y r ih=>show f y++dg _ (k+1) r=f y++dg _ (k'+1) r;rw [ih]
  show f a++dg _ 1 r=f a++dg _ 0 r
  rw [this]
def aS (xs:List cQ) (z:Int):List cQ:=xs.filter (fun a=>decide (a.at_≠z))
section k
variable {xs:List cQ} {z root:Int} {j n:Nat} {fs:List aZ} {S:aG} {c:aD} {k:Int}
theorem tI (h:j < xs.length) (e:(act xs j).at_≠z):aS (xs.take (j+1)) z=aS (xs.take j) z++[act xs j]:=by
  unfold aS
  rw [uY h,List.filter_append,List.filter_cons_of_pos (by simpa using e),List.filter_nil]
theorem yN (h:j < xs.length) (e:¬ (act xs j).at_≠z):aS (xs.take (j+1)) z=aS (xs.take j) z:=by
  unfold aS
  rw [uY h,List.filter_append,List.filter_cons_of_neg (by simpa using e),List.filter_nil,List.append_nil]
theorem Bz:(aS (xs.take j) z).length<=j:=Nat.le_trans (List.length_filter_le ..) (by rw [List.length_take];omega)
theorem vo {b:Nat} (h:iq xs b):iq (aS xs z) b:=⟨Nat.le_trans (List.length_filter_le ..) h.len,fun a ha=>h.q a (List.mem_filter.1 ha).1⟩
theorem yO {b:Nat} {f:aZ} (h:fV fs b) (hw:(Lit.int .i64 f.at_).wf=true) (hb:b+1<=2097152):fV (f::fs) 2097152:=⟨by have:=h.len;show fs.length+1<=_;omega,fun a ha=>by
  rcases List.mem_cons.1 ha with rfl|ha
  ·exact hw
  exact h.q a ha⟩
theorem Je {f:aZ} (h:FK f):gh (f::fs) f.at_=f.kind:=if_pos ⟨rfl,h⟩
theorem K2:bO (aS xs z) z=[]:=F5 z (fun a ha=>by simpa using (List.mem_filter.1 ha).2)
theorem M0:(bA root c).op=c.op:=by
  unfold bA;split<;>rfl
theorem BA {e:Int}:(aQ c e).code=e/\(aQ c e).answer=0:=by
  unfold aQ;split<;>exact⟨rfl,rfl⟩
theorem Jf (hn:((n:Nat):Int)=z):ij (⟨z,1⟩::fs) (aS xs z) root n S c=(if c.op=13 then (cI S (bA root c)).1 else S,aQ (bA root c) 180):=by
  unfold ij
  rw [hn,show gh (⟨z,1⟩::fs) z=1 from Je (f:=⟨z,1⟩) ⟨Int.le_refl 1,by show (1:Int)<=3;decide⟩,K2]
  unfold bB
  rw [if_pos rfl,M0]
  rfl
theorem M4 (hI:Inv S) {S2:aG} (h:(if c.op=13 then (cI S (bA root c)).1 else S)=S2):(c.op=13/\(S2.us.length=S.us.length\/S2.us.length+1=S.us.length))\/(¬ c.op=13/\S2=S):=by
  by_cases e:c.op=13
  ·rw [if_pos e] at h
   refine .inl ⟨e,?_⟩
   subst h
   have e2:bA root c=c:=if_neg (by omega)
   rw [e2]
   show (cT S { c with answer:=0,code:=230 }).2.1.us.length=_\/(cT S { c with answer:=0,code:=230 }).2.1.us.length+1=_
   rw [rJ (c:={ c with answer:=0,code:=230 }) e]
   unfold iR
   split
   ·exact .inl rfl
   rename_i t ht
   exact .inr (nI hI.usr (List.mem_map.2 ⟨_,get_mem ht,rfl⟩))
  rw [if_neg e] at h
  exact .inr ⟨e,h.symm⟩
end k
end
section
open Go.RowKit Go.Maps bL aB
attribute [local irreducible] aj aP af ai
theorem law_worldFails (W:World) (A:Option Addr) (c:Nat) (ns:List aI) (Y:Lay) (hG:au (B0 W) A ns Y) (hB:gu ns 1048576) (X:FM) (root:Int) (Af:Option Addr) (cf:Nat) (fs:List aZ) (hF:cP (B0 W) Af (bq dL fs)) (kS:fV fs 1048576) (Aa:Option Addr) (ca:Nat) (xs:List cQ) (hA:cP (B0 W) Aa (bq dS xs)) (hab:iq xs 1048576) (hrw:(Lit.int .i64 root).wf=true) (A1:Option Addr) (c1:Nat) (cs:List aD) (hS:bW (B0 W) A1 cs) (_Vw:cs.length<=1048576) (hxc:cs.length<=c1) (hg:iU (B0 W)) (at_:Int) (S7:(Lit.int .i64 at_).wf=true) :
    Spec Tryz.prog (B0 W) 3 #[.agg #[.slice A (ns.length) (c),vI (root),vI (X.cN),vI (X.cB),vI (X.cH),vI (X.cS),vI (X.cZ),.slice Af (fs.length) (cf),.slice Aa (xs.length) (ca)],.slice A1 (cs.length) (c1),vI (at_)] [] (fun v _=>v=.bool true):=by
 have hle0:=B0.refl W
 have hfl:=kS.len
 have hxn:=hab.len
 refine Spec.enter Tryz.func3 rfl Tryz.ntmps3 (Nat.le_of_ble_eq_true rfl) (fun R=>?_)
 refine SR (gN 2 (fun b1=>[(3,vP b1)]) (fun _=>[]) (fun _=>[]) (fun b1=>.blk b1 [.slice A (ns.length) (c),vI (root),vI (X.cN),vI (X.cB),vI (X.cH),vI (X.cS),vI (X.cZ),.slice Af (fs.length) (cf),.slice Aa (xs.length) (ca)] 34) (fun b1=>?_))
 refine NN (af.seq (SR (aj.jg (d:=(some 16)) (R:=[.abs R,.blk b1 [.slice A (ns.length) (c),vI (root),vI (X.cN),vI (X.cB),vI (X.cH),vI (X.cS),vI (X.cZ),.slice Af (fs.length) (cf),.slice Aa (xs.length) (ca)] 34]) (pk:=[0,1]) (fun _=>by kernel_rfl) (MY hg) rfl (by kernel_rfl) ?_)))
 rintro vX _ _ iy ⟨rfl,rfl⟩
 replace hG:=hG.le iy
 replace hF:=hF.le iy
 replace hA:=hA.le iy
 replace hS:=hS.le iy
 replace hg:=hg.le iy
 replace hle0:=hle0.trans iy
 refine gK 1 [(17,.bool false)] [] ?_
 refine NN (CF (af.skip (NX (SR (gK 1 [(18,.slice A1 (cs.length) (c1))] [] ?_)))))
 refine gL [] (QD A1 c1 cs hxc) ?_
 rintro _ _ ⟨n,hn,V4,rfl,rfl⟩
 refine gK 1 [(1,.slice A1 (n) (c1))] [] ?_
 refine NN (af.seq (SR (gK 3 [(22,.bool (decide ((at_:Int) < (1:Int))))] [] ?_)))
 refine aj.fR 22 ((at_:Int) < (1:Int)) (fun _=>by kernel_rfl) (fun sV=>?_) (fun sV=>?_)
 ·refine gK 5 [(27,.bool true)] [] ?_
  refine NN (CT (SR (gK 1 [(6,.bool true)] [] ?_)))
  refine NN (af.ret (ai.ak ?_))
  exact ai.BF (v:=.bool true) (l:=[]) (bF:=[]) [] [0] hle0 (fun _=>by kernel_rfl) trivial rfl (by kernel_rfl) (rfl)
 refine gK 5 [(27,.bool (decide ((at_:Int) > (((n:Nat):Int):Int))))] [] ?_
 refine NN (af.bg (p:=(at_:Int) > (((n:Nat):Int):Int)) (fun _=>by kernel_rfl) (fun NW=>?_) (fun NW=>?_))
 ·refine SR (gK 1 [(6,.bool true)] [] ?_)
  refine NN (af.ret (ai.ak ?_))
  exact ai.BF (v:=.bool true) (l:=[]) (bF:=[]) [] [0] hle0 (fun _=>by kernel_rfl) trivial rfl (by kernel_rfl) (rfl)
 refine af.skip (NX (SR ?_))
 obtain⟨a,ha⟩:∃ a:Nat,at_=((a+1:Nat):Int):=⟨(at_ - 1).toNat,by omega⟩
 refine gN 4 (fun b3=>[(7,.slice (some ⟨b3,0,none⟩) (1) (1))]) (fun _=>[]) (fun _=>[]) (fun b3=>.blk b3 [vI (at_),vI 1] 39) (fun b3=>?_)
 refine NS (aj.mem (fun w hS=>hS.nP (i:=2) (b:=b3) (cs:=[vI (at_),vI 1]) (e:=39) 2 1 (by kernel_rfl) rfl (by decide)) ?_)
 refine gK 4 [(31,.slice (some ⟨b3,0,none⟩) (1) (1)),(34,.slice Af (fs.length) (cf))] [(3,a_ 1 b1)] ?_
 refine aj.append 2 (d:=(some 35)) (t:=29) (e:=39) (z:=.agg #[vI 0,vI 0]) (size:=2) (bytes:=16) (n:=1) (cap:=1) (A:=some ⟨b3,0,none⟩) (xs:=[vI (at_),vI 1]) (s:=(.tmp 31)) (x:=(.tmp 34)) (ats:=#[29,29]) (A':=Af) (m:=fs.length) (c':=cf) (news:=(bq dL fs)) (fun _=>by kernel_rfl) rfl (by kernel_rfl) (fun _=>by kernel_rfl) (fun _=>by kernel_rfl) Tryz.underlying29 (by kernel_rfl) rfl (by decide) (wQ (f:=dL) (s:=2) (fun _=>rfl) _) (pP AO _ _) (hF.src) (by unfold maxLen;omega) (by omega) (fun A4 c5=>?_)
 refine aj.dr 2 (p:=.abs (aE 39 2 A4 (1+fs.length) c5 ([vI (at_),vI 1]++(bq dL fs)))) (p':=.abs (aE 39 2 A4 (fs.length+1) c5 (bq dL ((⟨at_,1⟩:aZ)::fs)))) (by kernel_rfl) (by rw [Jd,Nat.add_comm];rfl) ?_
 refine aj.slot 35 (.slice A4 (1+fs.length) (c5)) (.slice A4 ((fs.length+1)) (c5)) (fun _=>by kernel_rfl) (by rw [Nat.add_comm]) ?_
 refine gK 1 [(7,.slice A4 ((fs.length+1)) (c5))] [] ?_
 refine NS (gN 2 (fun b6=>[(8,.slice (some ⟨b6,0,none⟩) (0) (0))]) (fun _=>[]) (fun _=>[]) (fun b6=>.blk b6 [] 41) (fun b6=>?_))
 refine NN (af.seq (SR (aj.mem (fun w hS=>hS.nP (i:=3) (b:=b6) (cs:=[]) (e:=41) 5 0 (by kernel_rfl) rfl (by decide)) ?_)))
 refine gK 1 [(9,vI 0)] [] ?_
 refine NN (af.block ?_)
 refine af.loop (ι:=Nat×(Option Addr)×Nat) (fun ((j,Ar,cr):Nat×(Option Addr)×Nat)=>(j<=xs.length)) (fun ((j,Ar,cr):Nat×(Option Addr)×Nat)=>xs.length - j) (fun ((j,Ar,cr):Nat×(Option Addr)×Nat)=>[(1,.slice A1 (n) (c1)),(2,vI (at_)),(3,vP b1),(7,.slice A4 ((fs.length+1)) (c5)),(8,.slice Ar ((aS (xs.take j) at_).length) (cr)),(9,vI ↑j)]) (fun ((j,Ar,cr):Nat×(Option Addr)×Nat)=>[.blk b1 [.slice A (ns.length) (c),vI (root),vI (X.cN),vI (X.cB),vI (X.cH),vI (X.cS),vI (X.cZ),.slice Af (fs.length) (cf),.slice Aa (xs.length) (ca)] 34,.abs (aE 39 2 A4 (fs.length+1) c5 (bq dL ((⟨at_,1⟩:aZ)::fs))),.abs (aE 41 5 Ar ((aS (xs.take j) at_).length) cr (bq dS (aS (xs.take j) at_))),.abs R]) (0,some ⟨b6,0,none⟩,0) (idx:=[1,2,3,7,8,9]) (pk:=[1,2,3,0]) (show (0<=xs.length) from Nat.zero_le _) (fun _=>by kernel_rfl) rfl (by kernel_rfl) ?_
 rintro⟨j,Ar,cr⟩ hj
 show af _ _ _ _ [(1,.slice A1 (n) (c1)),(2,vI (at_)),(3,vP b1),(7,.slice A4 ((fs.length+1)) (c5)),(8,.slice Ar ((aS (xs.take j) at_).length) (cr)),(9,vI ↑j)] [.blk b1 [.slice A (ns.length) (c),vI (root),vI (X.cN),vI (X.cB),vI (X.cH),vI (X.cS),vI (X.cZ),.slice Af (fs.length) (cf),.slice Aa (xs.length) (ca)] 34,.abs (aE 39 2 A4 (fs.length+1) c5 (bq dL ((⟨at_,1⟩:aZ)::fs))),.abs (aE 41 5 Ar ((aS (xs.take j) at_).length) cr (bq dS (aS (xs.take j) at_))),.abs R] _
 refine af.seq (SR (gK 6 [(42,.bool (decide ((((j:Nat):Int):Int) < (((xs.length:Nat):Int):Int))))] [(3,a_ 0 b1)] ?_))
 refine NN (af.bg (p:=(((j:Nat):Int):Int) < (((xs.length:Nat):Int):Int)) (fun _=>by kernel_rfl) (fun qw=>?_) (fun qw=>?_))
 ·refine af.skip (NX (af.seq (af.block (SR ?_))))
  refine gK 9 [(53,.bool (!(decide (((act xs j).at_:Int)=(at_:Int)))))] [(2,a_ 0 b1),(4,p_ ⟨[],some j,none,some ⟨(ar Aa),aq Aa,none⟩,none⟩ [((j:Nat):Int)=((j:Nat):Int),j < xs.length,(⟨(ar Aa),aq Aa,none⟩:Addr).spot=none,(Aa:Option Addr)=some ⟨(ar Aa),aq Aa,none⟩] ⟨rfl,by omega,rfl,DK hA (i:=j) (by omega),trivial⟩),(6,p_ ⟨[.old (.int .i64 ((act xs j).at_))],none,none,none,none⟩ [(Rd vX ⟨(ar Aa),aq Aa+j * 5,none⟩ (.int .i64 ((act xs j).at_)))] ⟨j6 hA (i:=j) (by omega) (j:=0) rfl,trivial⟩)] ?_
  refine NN (af.cY (p:=((act xs j).at_:Int)=(at_:Int)) (fun _=>by kernel_rfl) (fun tN=>?_) (fun tN=>?_))
  ·refine af.region (gN 8 (fun b7=>[(54,.slice Ar ((aS (xs.take j) at_).length) (cr)),(61,.slice (some ⟨b7,0,none⟩) (1) (1))]) (fun b7=>[(3,a_ 0 b1),(5,p_ ⟨[],some j,none,some ⟨(ar Aa),aq Aa,none⟩,none⟩ [((j:Nat):Int)=((j:Nat):Int),j < xs.length,(⟨(ar Aa),aq Aa,none⟩:Addr).spot=none,(Aa:Option Addr)=some ⟨(ar Aa),aq Aa,none⟩] ⟨rfl,by omega,rfl,DK hA (i:=j) (by omega),trivial⟩),(6,p_ ⟨[.old (.int .i64 ((act xs j).at_)),.old (.int .i64 ((act xs j).op)),.old (.string (act xs j).path),.old (.string (act xs j).to),.old (.string (act xs j).text)],none,none,none,none⟩ [(Rd vX ⟨(ar Aa),aq Aa+j * 5+4,none⟩ (.string (act xs j).text)),(Rd vX ⟨(ar Aa),aq Aa+j * 5+3,none⟩ (.string (act xs j).to)),(Rd vX ⟨(ar Aa),aq Aa+j * 5+2,none⟩ (.string (act xs j).path)),(Rd vX ⟨(ar Aa),aq Aa+j * 5+1,none⟩ (.int .i64 ((act xs j).op))),(Rd vX ⟨(ar Aa),aq Aa+j * 5,none⟩ (.int .i64 ((act xs j).at_)))] ⟨j6 hA (i:=j) (by omega) (j:=4) rfl,j6 hA (i:=j) (by omega) (j:=3) rfl,j6 hA (i:=j) (by omega) (j:=2) rfl,j6 hA (i:=j) (by omega) (j:=1) rfl,j6 hA (i:=j) (by omega) (j:=0) rfl,trivial⟩)]) (fun _=>[]) (fun b7=>.blk b7 [vI ((act xs j).at_),vI ((act xs j).op),.string (act xs j).path,.string (act xs j).to,.string (act xs j).text] 41) (fun b7=>?_))
   refine aj.append 2 (d:=(some 62)) (t:=30) (e:=41) (z:=.agg #[vI 0,vI 0,.string ⟨#[]⟩,.string ⟨#[]⟩,.string ⟨#[]⟩]) (size:=5) (bytes:=64) (n:=(aS (xs.take j) at_).length) (cap:=cr) (A:=Ar) (xs:=(bq dS (aS (xs.take j) at_))) (s:=(.tmp 54)) (x:=(.tmp 61)) (ats:=#[30,30]) (A':=some ⟨b7,0,none⟩) (m:=1) (c':=1) (news:=[vI ((act xs j).at_),vI ((act xs j).op),.string (act xs j).path,.string (act xs j).to,.string (act xs j).text]) (fun _=>by kernel_rfl) rfl (by kernel_rfl) (fun _=>by kernel_rfl) (fun _=>by kernel_rfl) Tryz.underlying30 (by kernel_rfl) rfl (by decide) (rfl) (by simp [Value.oneCell']) (j8 (j:=4) rfl) (by unfold maxLen;have:=Bz (xs:=xs) (z:=at_) (j:=j);omega) (by have:=Bz (xs:=xs) (z:=at_) (j:=j);omega) (fun A8 c9=>?_)
   refine aj.dr 2 (p:=.abs (aE 41 5 A8 (((aS (xs.take j) at_).length)+1) c9 ((bq dS (aS (xs.take j) at_))++[vI ((act xs j).at_),vI ((act xs j).op),.string (act xs j).path,.string (act xs j).to,.string (act xs j).text]))) (p':=.abs (aE 41 5 A8 ((aS (xs.take j) at_).length+1) c9 (bq dS (aS (xs.take (j+1)) at_)))) (by kernel_rfl) (by rw [tI (by omega) tN,uW];rfl) ?_
   refine aj.slot 62 (.slice A8 (((aS (xs.take j) at_).length)+1) (c9)) (.slice A8 (((aS (xs.take j) at_).length+1)) (c9)) (fun _=>by kernel_rfl) (rfl) ?_
   refine gK 1 [(8,.slice A8 (((aS (xs.take j) at_).length+1)) (c9))] [] ?_
   refine NL (ai.aJ (NX (af.region ?_)))
   refine aj.dr 2 (p:=.abs (aE 41 5 A8 ((aS (xs.take j) at_).length+1) c9 (bq dS (aS (xs.take (j+1)) at_)))) (p':=.abs (aE 41 5 A8 ((aS (xs.take (j+1)) at_).length) c9 (bq dS (aS (xs.take (j+1)) at_)))) (by kernel_rfl) (congrArg (fun n=>HP.abs (aE 41 5 _ n _ _)) (by rw [tI (by omega) tN,List.length_append];rfl)) ?_
   refine aj.slot 8 (.slice A8 (((aS (xs.take j) at_).length+1)) (c9)) (.slice A8 ((aS (xs.take (j+1)) at_).length) (c9)) (fun _=>by kernel_rfl) (congrArg (fun n=>Value.slice _ n _) (by rw [tI (by omega) tN,List.length_append];rfl)) ?_
   refine gK 3 [(9,vI ↑(j+1))] [(1,p_ ⟨[],none,none,none,some (vI ↑(j+1))⟩ [(Value.int .i64 (IntKind.wrap .i64 (((j:Nat):Int)+1)))=(.int .i64 ↑(j+1))] ⟨bw (by omega) (by omega) (by omega),trivial⟩)] ?_
   refine NL ?_
   exact ai.turn ((j+1),A8,c9) (idx:=[1,2,3,7,8,9]) (pk:=[0,1,2,3]) (show (((j+1))<=xs.length) from by omega) (by show xs.length - ((j+1)) < xs.length - j;omega) (fun _=>by kernel_rfl) rfl (by kernel_rfl)
  refine af.skip (ai.aJ (NX (af.region ?_)))
  refine aj.dr 2 (p:=.abs (aE 41 5 Ar ((aS (xs.take j) at_).length) cr (bq dS (aS (xs.take j) at_)))) (p':=.abs (aE 41 5 Ar ((aS (xs.take (j+1)) at_).length) cr (bq dS (aS (xs.take (j+1)) at_)))) (by kernel_rfl) (by rw [yN (by omega) (fun h=>h tN)]) ?_
  refine aj.slot 8 (.slice Ar ((aS (xs.take j) at_).length) (cr)) (.slice Ar ((aS (xs.take (j+1)) at_).length) (cr)) (fun _=>by kernel_rfl) (by rw [yN (by omega) (fun h=>h tN)]) ?_
  refine gK 3 [(9,vI ↑(j+1))] [(1,p_ ⟨[],none,none,none,some (vI ↑(j+1))⟩ [(Value.int .i64 (IntKind.wrap .i64 (((j:Nat):Int)+1)))=(.int .i64 ↑(j+1))] ⟨bw (by omega) (by omega) (by omega),trivial⟩)] ?_
  refine NL ?_
  exact ai.turn ((j+1),Ar,cr) (idx:=[1,2,3,7,8,9]) (pk:=[0,1,2,3]) (show (((j+1))<=xs.length) from by omega) (by show xs.length - ((j+1)) < xs.length - j;omega) (fun _=>by kernel_rfl) rfl (by kernel_rfl)
 refine af.exit (ai.aX (ai.aX (ai.cV (NX (SR ?_)))))
 refine gC 5 [] [(4,A_ 0 b1 2)] [(0,[(7,.slice A4 ((fs.length+1)) (c5)),(8,.slice Ar ((aS (xs.take j) at_).length) (cr))])] ?_
 refine NN (af.seq ?_)
 by_cases h0:cX X ns root=0
 ·have hok:=Df h0
  refine af.region ?_
  have K3:xs.take j=xs:=by rw [show j=xs.length by omega,List.take_length]
  refine aj.dr 0 (p:=.blk b1 [.slice A (ns.length) (c),vI (root),vI (X.cN),vI (X.cB),vI (X.cH),vI (X.cS),vI (X.cZ),.slice A4 ((fs.length+1)) (c5),.slice Ar ((aS (xs.take j) at_).length) (cr)] 34) (p':=.blk b1 [.slice A (ns.length) (c),vI (root),vI (X.cN),vI (X.cB),vI (X.cH),vI (X.cS),vI (X.cZ),.slice A4 ((fs.length+1)) (c5),.slice Ar ((aS xs at_).length) (cr)] 34) (by kernel_rfl) (by rw [K3]) ?_
  refine aj.kQ (Φ:=fun β'=>cP β' A4 (bq dL ((⟨at_,1⟩:aZ)::fs))) 1 [0,2,3] (cL:=[.blk b1 [.slice A (ns.length) (c),vI (root),vI (X.cN),vI (X.cB),vI (X.cH),vI (X.cS),vI (X.cZ),.slice A4 ((fs.length+1)) (c5),.slice Ar ((aS xs at_).length) (cr)] 34,.abs (aE 41 5 Ar ((aS (xs.take j) at_).length) cr (bq dS (aS (xs.take j) at_))),.abs R]) rfl rfl (by kernel_rfl) (fun F w h β' h1 h2=>cP.jb h h1 h2) (fun Fq iw xB=>?_)
  replace hG:=hG.le iw
  replace hF:=hF.le iw
  replace hA:=hA.le iw
  replace hS:=hS.le iw
  replace hg:=hg.le iw
  replace hle0:=hle0.trans iw
  refine aj.kQ (Φ:=fun β'=>cP β' Ar (bq dS (aS xs at_))) 1 [0,2] (cL:=[.blk b1 [.slice A (ns.length) (c),vI (root),vI (X.cN),vI (X.cB),vI (X.cH),vI (X.cS),vI (X.cZ),.slice A4 ((fs.length+1)) (c5),.slice Ar ((aS xs at_).length) (cr)] 34,.abs R]) rfl rfl (by kernel_rfl) (fun F w h β' h1 h2=>cP.jb (by rw [K3] at h;exact h) h1 h2) (fun MZ ja vB=>?_)
  replace hG:=hG.le ja
  replace hF:=hF.le ja
  replace hA:=hA.le ja
  replace hS:=hS.le ja
  replace hg:=hg.le ja
  replace xB:=xB.le ja
  replace hle0:=hle0.trans ja
  refine gK 1 [(68,.agg #[.slice A (ns.length) (c),vI (root),vI (X.cN),vI (X.cB),vI (X.cH),vI (X.cS),vI (X.cZ),.slice A4 ((fs.length+1)) (c5),.slice Ar ((aS xs at_).length) (cr)])] [(0,A_ 0 b1 9)] ?_
  refine aj.jg (d:=(some 69)) (R:=[.blk b1 [.slice A (ns.length) (c),vI (root),vI (X.cN),vI (X.cB),vI (X.cH),vI (X.cS),vI (X.cZ),.slice A4 ((fs.length+1)) (c5),.slice Ar ((aS xs at_).length) (cr)] 34,.abs R]) (pk:=[0,1]) (fun _=>by kernel_rfl) (Bx (β:=MZ) (X:=X) h0 A c Y hG hB A4 c5 ((⟨at_,1⟩:aZ)::fs) xB (yO kS S7 (by omega)) Ar cr (aS xs at_) vB (vo hab)) rfl (by kernel_rfl) ?_
  rintro FA _ _ lY ⟨N,G,V,rfl,rfl,si⟩
  replace hG:=hG.le lY
  replace hF:=hF.le lY
  replace hA:=hA.le lY
  replace hS:=hS.le lY
  replace hg:=hg.le lY
  replace xB:=xB.le lY
  replace vB:=vB.le lY
  replace hle0:=hle0.trans lY
  refine gK 5 [(10,vP G.w),(11,vI 0)] [] ?_
  refine NN (af.seq (SR (gK 6 [(77,.bool false)] [(1,p_ ⟨[],none,none,none,some (.bool false)⟩ [((.bool false:Value))=(.bool false)] ⟨rfl,trivial⟩)] ?_)))
  refine NN (CF (af.skip (NX (af.seq (SR (gK 1 [(12,vI 0)] [] ?_))))))
  refine NN (af.block ?_)
  refine af.M8 (ι:=Nat×Bs×aG×WV×(List aD)) (fun ((i,b,S,V,tr):Nat×Bs×aG×WV×(List aD))=>b) (fun ((i,b,S,V,tr):Nat×Bs×aG×WV×(List aD))=>(i<=a)/\((B0 W).le b)/\(bW b A1 cs)/\(iU b)/\(Inv S)/\(jF b G.Z (aS xs at_))/\(tr.length=i)) (fun ((i,b,S,V,tr):Nat×Bs×aG×WV×(List aD))=>a - i) (fun ((i,b,S,V,tr):Nat×Bs×aG×WV×(List aD))=>[(1,.slice A1 (n) (c1)),(2,vI (at_)),(10,vP G.w),(12,vI ↑i)]) (fun ((i,b,S,V,tr):Nat×Bs×aG×WV×(List aD))=>[.blk b1 [.slice A (ns.length) (c),vI (root),vI (X.cN),vI (X.cB),vI (X.cH),vI (X.cS),vI (X.cZ),.slice A4 ((fs.length+1)) (c5),.slice Ar ((aS xs at_).length) (cr)] 34,wA G ((⟨at_,1⟩:aZ)::fs) (aS xs at_) root S V tr,.abs R]) (0,FA,N.1,V,[]) rfl (idx:=[1,2,10,12]) (pk:=[1,0,2]) (show (0<=a)/\((B0 W).le FA)/\(bW FA A1 cs)/\(iU FA)/\(Inv N.1)/\(jF FA G.Z (aS xs at_))/\(([]).length=0) from ⟨Nat.zero_le _,hle0,hS,hg,N.2.full,si,rfl⟩) (fun _=>by kernel_rfl) rfl (by kernel_rfl) ?_
  rintro⟨i,b,S,V,tr⟩ ⟨hi,hle0,hS,hg,hI,si,htr⟩
  show af _ b _ _ [(1,.slice A1 (n) (c1)),(2,vI (at_)),(10,vP G.w),(12,vI ↑i)] [.blk b1 [.slice A (ns.length) (c),vI (root),vI (X.cN),vI (X.cB),vI (X.cH),vI (X.cS),vI (X.cZ),.slice A4 ((fs.length+1)) (c5),.slice Ar ((aS xs at_).length) (cr)] 34,wA G ((⟨at_,1⟩:aZ)::fs) (aS xs at_) root S V tr,.abs R] _
  refine af.seq (SR (gK 4 [(87,.bool (decide ((((i:Nat):Int):Int) < (((a:Nat):Int):Int))))] [(2,p_ ⟨[],none,none,none,some (vI ↑a)⟩ [(Value.int .i64 (IntKind.wrap .i64 (at_ - 1)))=(.int .i64 ↑a)] ⟨bw (by omega) (by omega) (by omega),trivial⟩)] ?_))
  refine NN (af.bg (p:=(((i:Nat):Int):Int) < (((a:Nat):Int):Int)) (fun _=>by kernel_rfl) (fun h87=>?_) (fun h87=>?_))
  ·refine af.skip (NX (af.seq (af.block (af.region ?_))))
   refine gK 5 [(90,vP G.w),(94,.agg #[vI ((aW cs i).op),vI ((aW cs i).handle),vI ((aW cs i).other),.string (aW cs i).name,.string (aW cs i).text,.slice (aW cs i).dA ((aW cs i).data.length) ((aW cs i).dC),vI ((aW cs i).mode),vI ((aW cs i).uid),vI ((aW cs i).gid),vI ((aW cs i).sec),vI ((aW cs i).nano),vI ((aW cs i).code),vI ((aW cs i).answer)])] [(3,p_ ⟨[],some i,none,some ⟨(ar A1),aq A1,none⟩,none⟩ [((i:Nat):Int)=((i:Nat):Int),i < n,(⟨(ar A1),aq A1,none⟩:Addr).spot=none,(A1:Option Addr)=some ⟨(ar A1),aq A1,none⟩] ⟨rfl,by omega,rfl,bW.hd hS (i:=i) (by omega),trivial⟩),(4,p_ ⟨[.old (.int .i64 ((aW cs i).op)),.old (.int .i64 ((aW cs i).handle)),.old (.int .i64 ((aW cs i).other)),.old (.string (aW cs i).name),.old (.string (aW cs i).text),.old (.slice (aW cs i).dA ((aW cs i).data.length) ((aW cs i).dC)),.old (.int .i64 ((aW cs i).mode)),.old (.int .i64 ((aW cs i).uid)),.old (.int .i64 ((aW cs i).gid)),.old (.int .i64 ((aW cs i).sec)),.old (.int .i64 ((aW cs i).nano)),.old (.int .i64 ((aW cs i).code)),.old (.int .i64 ((aW cs i).answer))],none,none,none,none⟩ [(Rd b ⟨(ar A1),aq A1+i * 13+12,none⟩ (.int .i64 ((aW cs i).answer))),(Rd b ⟨(ar A1),aq A1+i * 13+11,none⟩ (.int .i64 ((aW cs i).code))),(Rd b ⟨(ar A1),aq A1+i * 13+10,none⟩ (.int .i64 ((aW cs i).nano))),(Rd b ⟨(ar A1),aq A1+i * 13+9,none⟩ (.int .i64 ((aW cs i).sec))),(Rd b ⟨(ar A1),aq A1+i * 13+8,none⟩ (.int .i64 ((aW cs i).gid))),(Rd b ⟨(ar A1),aq A1+i * 13+7,none⟩ (.int .i64 ((aW cs i).uid))),(Rd b ⟨(ar A1),aq A1+i * 13+6,none⟩ (.int .i64 ((aW cs i).mode))),(Rd b ⟨(ar A1),aq A1+i * 13+5,none⟩ (.slice (aW cs i).dA ((aW cs i).data.length) ((aW cs i).dC))),(Rd b ⟨(ar A1),aq A1+i * 13+4,none⟩ (.string (aW cs i).text)),(Rd b ⟨(ar A1),aq A1+i * 13+3,none⟩ (.string (aW cs i).name)),(Rd b ⟨(ar A1),aq A1+i * 13+2,none⟩ (.int .i64 ((aW cs i).other))),(Rd b ⟨(ar A1),aq A1+i * 13+1,none⟩ (.int .i64 ((aW cs i).handle))),(Rd b ⟨(ar A1),aq A1+i * 13,none⟩ (.int .i64 ((aW cs i).op)))] ⟨bW.rd hS (i:=i) (by omega) (j:=12) rfl,bW.rd hS (i:=i) (by omega) (j:=11) rfl,bW.rd hS (i:=i) (by omega) (j:=10) rfl,bW.rd hS (i:=i) (by omega) (j:=9) rfl,bW.rd hS (i:=i) (by omega) (j:=8) rfl,bW.rd hS (i:=i) (by omega) (j:=7) rfl,bW.rd hS (i:=i) (by omega) (j:=6) rfl,bW.rd hS (i:=i) (by omega) (j:=5) rfl,bW.rd hS (i:=i) (by omega) (j:=4) rfl,bW.rd hS (i:=i) (by omega) (j:=3) rfl,bW.rd hS (i:=i) (by omega) (j:=2) rfl,bW.rd hS (i:=i) (by omega) (j:=1) rfl,bW.rd hS (i:=i) (by omega) (j:=0) rfl,trivial⟩)] ?_
   refine aj.jg (d:=(some 95)) (R:=[.blk b1 [.slice A (ns.length) (c),vI (root),vI (X.cN),vI (X.cB),vI (X.cH),vI (X.cS),vI (X.cZ),.slice A4 ((fs.length+1)) (c5),.slice Ar ((aS xs at_).length) (cr)] 34,wA G ((⟨at_,1⟩:aZ)::fs) (aS xs at_) root S V tr,.abs R]) (pk:=[0,1,2]) (fun _=>by kernel_rfl) (yM (aW cs i) (hS.q i (by omega)).data (hS.q i (by omega)).len) rfl (by kernel_rfl) ?_
   rintro T5 _ _ vr ⟨Bc,pc,rfl,rfl,QY,hpc⟩
   replace hS:=hS.le vr
   replace hg:=hg.le vr
   replace si:=si.le vr
   replace hle0:=hle0.trans vr
   obtain⟨⟨Sx,cx⟩,S8⟩:∃ q,ij ((⟨at_,1⟩:aZ)::fs) (aS xs at_) root (tr.length+1) S (aW cs i)=q:=⟨_,rfl⟩
   refine aj.jg (d:=(some 96)) (R:=[.blk b1 [.slice A (ns.length) (c),vI (root),vI (X.cN),vI (X.cB),vI (X.cH),vI (X.cS),vI (X.cZ),.slice A4 ((fs.length+1)) (c5),.slice Ar ((aS xs at_).length) (cr)] 34,.abs R]) (pk:=[1,0,2]) (fun _=>by kernel_rfl) (xw (β:=T5) (G:=G) (fs:=((⟨at_,1⟩:aZ)::fs)) (xs:=(aS xs at_)) (S:=S) (V:=V) (tr:=tr) (c:=bS Bc pc (aW cs i)) (c2:=bS Bc pc cx) (S2:=Sx) hrw hI (by omega) si (vo hab) hg QY (hS.q i (by omega)).len (hS.q i (by omega)).hw (hS.q i (by omega)).ow (hS.q i (by omega)).name (hS.q i (by omega)).text (C3.trans (by rw [S8]))) rfl (by kernel_rfl) ?_
   rintro FB _ _ sj ⟨U2,S9,Ta,V5,V6,rfl,rfl,Vx,Vy,_⟩
   replace hS:=hS.le sj
   replace hg:=hg.le sj
   replace si:=si.le sj
   replace QY:=QY.le sj
   replace hle0:=hle0.trans sj
   refine NL (ai.aJ (NX (af.region ?_)))
   refine gK 3 [(12,vI ↑(i+1))] [(1,p_ ⟨[],none,none,none,some (vI ↑(i+1))⟩ [(Value.int .i64 (IntKind.wrap .i64 (((i:Nat):Int)+1)))=(.int .i64 ↑(i+1))] ⟨bw (by omega) (by omega) (by omega),trivial⟩)] ?_
   refine NL ?_
   exact ai.M9 ((i+1),FB,Sx,U2,(tr++[bS S9 Ta cx])) (hb:=rfl) (idx:=[1,2,10,12]) (pk:=[1,0,2]) (show (((i+1))<=a)/\((B0 W).le FB)/\(bW FB A1 cs)/\(iU FB)/\(Inv Sx)/\(jF FB G.Z (aS xs at_))/\(((tr++[bS S9 Ta cx])).length=((i+1))) from ⟨by omega,hle0,hS,hg,(by have h:=Inv.ij (fs:=((⟨at_,1⟩:aZ)::fs)) (xs:=(aS xs at_)) (root:=root) (n:=tr.length+1) (c:=aW cs i) hI;rw [S8] at h;exact h),si,by rw [List.length_append,htr];rfl⟩) (by show a - ((i+1)) < a - i;omega) (fun _=>by kernel_rfl) rfl (by kernel_rfl)
  refine af.exit (ai.aX (ai.aX (ai.cV (NX (SR ?_)))))
  have hia:i=a:=by omega
  refine gK 1 [(97,vP G.w)] [] ?_
  refine aj.jg (d:=(some 98)) (R:=[.blk b1 [.slice A (ns.length) (c),vI (root),vI (X.cN),vI (X.cB),vI (X.cH),vI (X.cS),vI (X.cZ),.slice A4 ((fs.length+1)) (c5),.slice Ar ((aS xs at_).length) (cr)] 34,.abs R]) (pk:=[1,0,2]) (fun _=>by kernel_rfl) (Bw (β:=b) (G:=G) (fs:=((⟨at_,1⟩:aZ)::fs)) (xs:=(aS xs at_)) (root:=root) (S:=S) (V:=V) (tr:=tr) hI) rfl (by kernel_rfl) ?_
  rintro oq _ _ vu ⟨Ag,cg,Kg,rfl,rfl,hH⟩
  replace hS:=hS.le vu
  replace hg:=hg.le vu
  replace si:=si.le vu
  replace hle0:=hle0.trans vu
  refine gN 2 (fun su=>[(13,vP su)]) (fun su=>[(1,a_ 3 su)]) (fun _=>[]) (fun su=>.blk su [.slice Ag ((aO S).length) (cg)] 24) (fun su=>?_)
  refine NS (gK 1 [(99,vP G.w)] [] ?_)
  refine gL [0] (vn (β:=oq) (G:=G) (fs:=((⟨at_,1⟩:aZ)::fs)) (xs:=(aS xs at_)) (root:=root) (S:=S) (V:=V) (tr:=tr)) ?_
  rintro _ _ ⟨rfl,rfl⟩
  refine gK 1 [(14,vI ↑S.us.length)] [] ?_
  refine NS (gK 6 [(101,vP G.w),(106,.agg #[vI ((aW cs a).op),vI ((aW cs a).handle),vI ((aW cs a).other),.string (aW cs a).name,.string (aW cs a).text,.slice (aW cs a).dA ((aW cs a).data.length) ((aW cs a).dC),vI ((aW cs a).mode),vI ((aW cs a).uid),vI ((aW cs a).gid),vI ((aW cs a).sec),vI ((aW cs a).nano),vI ((aW cs a).code),vI ((aW cs a).answer)])] [(3,p_ ⟨[],none,none,none,some (vI ↑a)⟩ [(Value.int .i64 (IntKind.wrap .i64 (at_ - 1)))=(.int .i64 ↑a)] ⟨bw (by omega) (by omega) (by omega),trivial⟩),(4,p_ ⟨[],some a,none,some ⟨(ar A1),aq A1,none⟩,none⟩ [((a:Nat):Int)=((a:Nat):Int),a < n,(⟨(ar A1),aq A1,none⟩:Addr).spot=none,(A1:Option Addr)=some ⟨(ar A1),aq A1,none⟩] ⟨rfl,by omega,rfl,bW.hd hS (i:=a) (by omega),trivial⟩),(5,p_ ⟨[.old (.int .i64 ((aW cs a).op)),.old (.int .i64 ((aW cs a).handle)),.old (.int .i64 ((aW cs a).other)),.old (.string (aW cs a).name),.old (.string (aW cs a).text),.old (.slice (aW cs a).dA ((aW cs a).data.length) ((aW cs a).dC)),.old (.int .i64 ((aW cs a).mode)),.old (.int .i64 ((aW cs a).uid)),.old (.int .i64 ((aW cs a).gid)),.old (.int .i64 ((aW cs a).sec)),.old (.int .i64 ((aW cs a).nano)),.old (.int .i64 ((aW cs a).code)),.old (.int .i64 ((aW cs a).answer))],none,none,none,none⟩ [(Rd oq ⟨(ar A1),aq A1+a * 13+12,none⟩ (.int .i64 ((aW cs a).answer))),(Rd oq ⟨(ar A1),aq A1+a * 13+11,none⟩ (.int .i64 ((aW cs a).code))),(Rd oq ⟨(ar A1),aq A1+a * 13+10,none⟩ (.int .i64 ((aW cs a).nano))),(Rd oq ⟨(ar A1),aq A1+a * 13+9,none⟩ (.int .i64 ((aW cs a).sec))),(Rd oq ⟨(ar A1),aq A1+a * 13+8,none⟩ (.int .i64 ((aW cs a).gid))),(Rd oq ⟨(ar A1),aq A1+a * 13+7,none⟩ (.int .i64 ((aW cs a).uid))),(Rd oq ⟨(ar A1),aq A1+a * 13+6,none⟩ (.int .i64 ((aW cs a).mode))),(Rd oq ⟨(ar A1),aq A1+a * 13+5,none⟩ (.slice (aW cs a).dA ((aW cs a).data.length) ((aW cs a).dC))),(Rd oq ⟨(ar A1),aq A1+a * 13+4,none⟩ (.string (aW cs a).text)),(Rd oq ⟨(ar A1),aq A1+a * 13+3,none⟩ (.string (aW cs a).name)),(Rd oq ⟨(ar A1),aq A1+a * 13+2,none⟩ (.int .i64 ((aW cs a).other))),(Rd oq ⟨(ar A1),aq A1+a * 13+1,none⟩ (.int .i64 ((aW cs a).handle))),(Rd oq ⟨(ar A1),aq A1+a * 13,none⟩ (.int .i64 ((aW cs a).op)))] ⟨bW.rd hS (i:=a) (by omega) (j:=12) rfl,bW.rd hS (i:=a) (by omega) (j:=11) rfl,bW.rd hS (i:=a) (by omega) (j:=10) rfl,bW.rd hS (i:=a) (by omega) (j:=9) rfl,bW.rd hS (i:=a) (by omega) (j:=8) rfl,bW.rd hS (i:=a) (by omega) (j:=7) rfl,bW.rd hS (i:=a) (by omega) (j:=6) rfl,bW.rd hS (i:=a) (by omega) (j:=5) rfl,bW.rd hS (i:=a) (by omega) (j:=4) rfl,bW.rd hS (i:=a) (by omega) (j:=3) rfl,bW.rd hS (i:=a) (by omega) (j:=2) rfl,bW.rd hS (i:=a) (by omega) (j:=1) rfl,bW.rd hS (i:=a) (by omega) (j:=0) rfl,trivial⟩)] ?_)
  refine aj.jg (d:=(some 107)) (R:=[wA G ((⟨at_,1⟩:aZ)::fs) (aS xs at_) root S V tr,.blk b1 [.slice A (ns.length) (c),vI (root),vI (X.cN),vI (X.cB),vI (X.cH),vI (X.cS),vI (X.cZ),.slice A4 ((fs.length+1)) (c5),.slice Ar ((aS xs at_).length) (cr)] 34,.abs R,.blk su [.slice Ag ((aO S).length) (cg)] 24]) (pk:=[0,1,2,3]) (fun _=>by kernel_rfl) (yM (aW cs a) (hS.q a (by omega)).data (hS.q a (by omega)).len) rfl (by kernel_rfl) ?_
  rintro T6 _ _ sx ⟨Bd,pd,rfl,rfl,QZ,V7⟩
  replace hS:=hS.le sx
  replace hg:=hg.le sx
  replace si:=si.le sx
  replace hH:=hH.le sx
  replace hle0:=hle0.trans sx
  have hwf:=Jf (xs:=xs) (fs:=fs) (root:=root) (S:=S) (c:=aW cs a) (n:=tr.length+1) (z:=at_) (by omega)
  obtain⟨S2,qt⟩:∃ S2,(if (aW cs a).op=13 then (cI S (bA root (aW cs a))).1 else S)=S2:=⟨_,rfl⟩
  rw [qt] at hwf
  have hW2:=hwf
  have hcl:=M4 hI qt
  refine aj.jg (d:=(some 108)) (R:=[.blk b1 [.slice A (ns.length) (c),vI (root),vI (X.cN),vI (X.cB),vI (X.cH),vI (X.cS),vI (X.cZ),.slice A4 ((fs.length+1)) (c5),.slice Ar ((aS xs at_).length) (cr)] 34,.abs R,.blk su [.slice Ag ((aO S).length) (cg)] 24]) (pk:=[0,1,2,3]) (fun _=>by kernel_rfl) (xw (β:=T6) (G:=G) (fs:=((⟨at_,1⟩:aZ)::fs)) (xs:=(aS xs at_)) (S:=S) (V:=V) (tr:=tr) (c:=bS Bd pd (aW cs a)) (c2:=bS Bd pd (aQ (bA root (aW cs a)) 180)) (S2:=S2) hrw hI (by omega) si (vo hab) hg QZ (hS.q a (by omega)).len (hS.q a (by omega)).hw (hS.q a (by omega)).ow (hS.q a (by omega)).name (hS.q a (by omega)).text (C3.trans (by rw [hW2]))) rfl (by kernel_rfl) ?_
  rintro CG _ _ o8 ⟨FC,FD,FE,N6,N7,rfl,rfl,Vz,VA,_⟩
  replace hS:=hS.le o8
  replace hg:=hg.le o8
  replace si:=si.le o8
  replace hH:=hH.le o8
  replace QZ:=QZ.le o8
  replace hle0:=hle0.trans o8
  refine gN 2 (fun xC=>[(15,vP xC)]) (fun xC=>[(1,A_ 4 xC 13)]) (fun _=>[]) (fun xC=>.blk xC [vI ((aQ (bA root (aW cs a)) 180).op),vI ((aQ (bA root (aW cs a)) 180).handle),vI ((aQ (bA root (aW cs a)) 180).other),.string (aQ (bA root (aW cs a)) 180).name,.string (aQ (bA root (aW cs a)) 180).text,.slice N6 ((aQ (bA root (aW cs a)) 180).data.length) (N7),vI ((aQ (bA root (aW cs a)) 180).mode),vI ((aQ (bA root (aW cs a)) 180).uid),vI ((aQ (bA root (aW cs a)) 180).gid),vI ((aQ (bA root (aW cs a)) 180).sec),vI ((aQ (bA root (aW cs a)) 180).nano),vI ((aQ (bA root (aW cs a)) 180).code),vI ((aQ (bA root (aW cs a)) 180).answer)] 48) (fun xC=>?_)
  refine NN (af.seq (SR (gK 8 [(116,.bool false)] [(1,a_ 4 xC),(2,p_ ⟨[],none,none,none,some (.bool false)⟩ [((.bool (!(decide (((aQ (bA root (aW cs a)) 180).code:Int)=(180:Int)))):Value))=(.bool false)] ⟨congrArg (fun b=>Value.bool !b) (decide_eq_true BA.1),trivial⟩),(5,a_ 4 xC),(6,p_ ⟨[],none,none,none,some (.bool false)⟩ [((.bool (!(decide (((aQ (bA root (aW cs a)) 180).answer:Int)=(0:Int)))):Value))=(.bool false)] ⟨congrArg (fun b=>Value.bool !b) (decide_eq_true BA.2),trivial⟩)] ?_)))
  refine NN (CF (af.skip (NX (af.seq (SR (gK 7 [(123,.bool (decide (((aW cs a).op:Int)=(13:Int))))] [(2,p_ ⟨[],none,none,none,some (vI ↑a)⟩ [(Value.int .i64 (IntKind.wrap .i64 (at_ - 1)))=(.int .i64 ↑a)] ⟨bw (by omega) (by omega) (by omega),trivial⟩),(3,p_ ⟨[],some a,none,some ⟨(ar A1),aq A1,none⟩,none⟩ [((a:Nat):Int)=((a:Nat):Int),a < n,(⟨(ar A1),aq A1,none⟩:Addr).spot=none,(A1:Option Addr)=some ⟨(ar A1),aq A1,none⟩] ⟨rfl,by omega,rfl,bW.hd hS (i:=a) (by omega),trivial⟩),(5,p_ ⟨[.old (.int .i64 ((aW cs a).op))],none,none,none,none⟩ [(Rd CG ⟨(ar A1),aq A1+a * 13,none⟩ (.int .i64 ((aW cs a).op)))] ⟨bW.rd hS (i:=a) (by omega) (j:=0) rfl,trivial⟩)] ?_))))))
  refine NN (af.bg (p:=((aW cs a).op:Int)=(13:Int)) (fun _=>by kernel_rfl) (fun M5=>?_) (fun M5=>?_))
  ·have VB:S2.us.length=S.us.length\/S2.us.length+1=S.us.length:=hcl.elim (fun h=>h.2) (fun h=>absurd M5 h.1)
   have nQ:=QB hI.toInv0
   rw [← rI] at nQ
   refine SR (gK 1 [(124,vP G.w)] [] ?_)
   refine gL [0] (vn (β:=CG) (G:=G) (fs:=((⟨at_,1⟩:aZ)::fs)) (xs:=(aS xs at_)) (root:=root) (S:=S2) (V:=FC) (tr:=(tr++[bS FD FE (aQ (bA root (aW cs a)) 180)]))) ?_
   rintro _ _ ⟨rfl,rfl⟩
   refine gK 3 [(128,.bool (decide ((((S2.us.length:Nat):Int):Int)=(((S.us.length:Nat):Int):Int))))] [] ?_
   refine aj.fR 128 ((((S2.us.length:Nat):Int):Int)=(((S.us.length:Nat):Int):Int)) (fun _=>by kernel_rfl) (fun h128=>?_) (fun h128=>?_)
   ·refine gK 7 [(6,.bool true)] [] ?_
    refine NN (af.ret (ai.ak ?_))
    exact ai.BF (v:=.bool true) (l:=[]) (bF:=[]) [] [2] hle0 (fun _=>by kernel_rfl) trivial rfl (by kernel_rfl) (rfl)
   refine gK 1 [(129,vP G.w)] [] ?_
   refine gL [0] (vn (β:=CG) (G:=G) (fs:=((⟨at_,1⟩:aZ)::fs)) (xs:=(aS xs at_)) (root:=root) (S:=S2) (V:=FC) (tr:=(tr++[bS FD FE (aQ (bA root (aW cs a)) 180)]))) ?_
   rintro _ _ ⟨rfl,rfl⟩
   refine gK 5 [(6,.bool true)] [(1,p_ ⟨[],none,none,none,some (vI ↑(S.us.length - 1))⟩ [(Value.int .i64 (IntKind.wrap .i64 (((S.us.length:Nat):Int) - 1)))=(.int .i64 ↑(S.us.length - 1))] ⟨bw (by omega) (by omega) (by omega),trivial⟩),(2,p_ ⟨[],none,none,none,some (.bool true)⟩ [((.bool (decide ((((S2.us.length:Nat):Int):Int)=((((S.us.length - 1):Nat):Int):Int))):Value))=(.bool true)] ⟨congrArg Value.bool (decide_eq_true (by omega)),trivial⟩)] ?_
   refine NN (af.ret (ai.ak ?_))
   exact ai.BF (v:=.bool true) (l:=[]) (bF:=[]) [] [2] hle0 (fun _=>by kernel_rfl) trivial rfl (by kernel_rfl) (rfl)
  have Q0:S2=S:=hcl.elim (fun h=>absurd h.1 M5) (fun h=>h.2)
  have KS:Inv S2:=by rw [Q0];exact hI
  refine af.skip (NX (af.seq (af.mF (S:=[.blk su [.slice Ag ((aO S).length) (cg)] 24]) [(true,0),(true,2),(false,1),(true,3),(true,4),(true,5),(true,7),(false,6),(false,8),(true,9),(false,10)] [3] (by kernel_rfl) (by kernel_rfl) rfl (by kernel_rfl) ?_)))
  refine gG [(false,1),(true,3),(true,4),(true,5),(true,7),(false,6),(false,8),(true,9),(false,10)] [(10,vP G.w),(13,vP su),(135,vP G.w),(137,vI ↑S.us.length)] [0,2] [] ?_
  refine gX.cut (ι:=Unit) (fr':=fun (_:Unit)=>[(10,vP G.w),(13,vP su),(136,vI ↑S2.us.length),(137,vI ↑S.us.length)]) (hp':=fun (_:Unit)=>[wA G ((⟨at_,1⟩:aZ)::fs) (aS xs at_) root S2 FC (tr++[bS FD FE (aQ (bA root (aW cs a)) 180)]),.blk b1 [.slice A (ns.length) (c),vI (root),vI (X.cN),vI (X.cB),vI (X.cH),vI (X.cS),vI (X.cZ),.slice A4 ((fs.length+1)) (c5),.slice Ar ((aS xs at_).length) (cr)] 34,.abs R,.blk su [.slice Ag ((aO S).length) (cg)] 24,.blk xC [vI ((aQ (bA root (aW cs a)) 180).op),vI ((aQ (bA root (aW cs a)) 180).handle),vI ((aQ (bA root (aW cs a)) 180).other),.string (aQ (bA root (aW cs a)) 180).name,.string (aQ (bA root (aW cs a)) 180).text,.slice N6 ((aQ (bA root (aW cs a)) 180).data.length) (N7),vI ((aQ (bA root (aW cs a)) 180).mode),vI ((aQ (bA root (aW cs a)) 180).uid),vI ((aQ (bA root (aW cs a)) 180).gid),vI ((aQ (bA root (aW cs a)) 180).sec),vI ((aQ (bA root (aW cs a)) 180).nano),vI ((aQ (bA root (aW cs a)) 180).code),vI ((aQ (bA root (aW cs a)) 180).answer)] 48]) [3] (by kernel_rfl) ?_ rfl (fun _=>by kernel_rfl) ?_
  ·refine gL [0] (vn (β:=CG) (G:=G) (fs:=((⟨at_,1⟩:aZ)::fs)) (xs:=(aS xs at_)) (root:=root) (S:=S2) (V:=FC) (tr:=(tr++[bS FD FE (aQ (bA root (aW cs a)) 180)]))) ?_
   rintro _ _ ⟨rfl,rfl⟩
   refine NL ?_
   exact MD () [10,13,136,137] [0,1,2,3,4]
  rintro _
  refine gG [(false,6),(false,8),(true,9),(false,10)] [(139,.bool true),(140,vP G.w),(142,.agg #[.slice Ag ((aO S).length) (cg)])] [3,4,5,7] [(0,p_ ⟨[],none,none,none,some (.bool true)⟩ [((.bool (decide ((((S2.us.length:Nat):Int):Int)=(((S.us.length:Nat):Int):Int))):Value))=(.bool true)] ⟨congrArg Value.bool (decide_eq_true (by rw [Q0])),trivial⟩),(3,a_ 0 su)] ?_
  refine gX.cut (ι:=(Option Addr)×Nat×Lay) (fr':=fun ((Ao,co,Ko):(Option Addr)×Nat×Lay)=>[(139,.bool true),(141,.agg #[.slice Ao ((aO S2).length) (co)]),(142,.agg #[.slice Ag ((aO S).length) (cg)])]) (hp':=fun ((Ao,co,Ko):(Option Addr)×Nat×Lay)=>[wA G ((⟨at_,1⟩:aZ)::fs) (aS xs at_) root S2 FC (tr++[bS FD FE (aQ (bA root (aW cs a)) 180)]),.abs (aE 70 10 Ao ((aO S2).length) co (dx Ko (aO S2))),.abs (iD (jY (aO S2) Ko) (aO S2).length),.abs (iD (jZ (aO S2) Ko) (aO S2).length),.blk b1 [.slice A (ns.length) (c),vI (root),vI (X.cN),vI (X.cB),vI (X.cH),vI (X.cS),vI (X.cZ),.slice A4 ((fs.length+1)) (c5),.slice Ar ((aS xs at_).length) (cr)] 34,.abs R,.blk su [.slice Ag ((aO S).length) (cg)] 24,.blk xC [vI ((aQ (bA root (aW cs a)) 180).op),vI ((aQ (bA root (aW cs a)) 180).handle),vI ((aQ (bA root (aW cs a)) 180).other),.string (aQ (bA root (aW cs a)) 180).name,.string (aQ (bA root (aW cs a)) 180).text,.slice N6 ((aQ (bA root (aW cs a)) 180).data.length) (N7),vI ((aQ (bA root (aW cs a)) 180).mode),vI ((aQ (bA root (aW cs a)) 180).uid),vI ((aQ (bA root (aW cs a)) 180).gid),vI ((aQ (bA root (aW cs a)) 180).sec),vI ((aQ (bA root (aW cs a)) 180).nano),vI ((aQ (bA root (aW cs a)) 180).code),vI ((aQ (bA root (aW cs a)) 180).answer)] 48]) [6] (by kernel_rfl) ?_ rfl (fun _=>by kernel_rfl) ?_
  ·refine gL [0] (Dr (β:=CG) (G:=G) (fs:=((⟨at_,1⟩:aZ)::fs)) (xs:=(aS xs at_)) (root:=root) (S:=S2) (V:=FC) (tr:=(tr++[bS FD FE (aQ (bA root (aW cs a)) 180)])) KS) ?_
   rintro _ _ ⟨Ao,co,Ko,rfl,rfl⟩
   refine NL ?_
   exact MD (Ao,co,Ko) [139,141,142] [0,1,2,3,4,5,6,7]
  rintro⟨Ao,co,Ko⟩
  refine gX.cut (ι:=Unit) (fr':=fun (_:Unit)=>[(139,.bool true),(143,.bool true)]) (hp':=fun (_:Unit)=>[.abs (aE 70 10 Ao ((aO S2).length) co (dx Ko (aO S2))),.abs (iD (jY (aO S2) Ko) (aO S2).length),.abs (iD (jZ (aO S2) Ko) (aO S2).length),wA G ((⟨at_,1⟩:aZ)::fs) (aS xs at_) root S2 FC (tr++[bS FD FE (aQ (bA root (aW cs a)) 180)]),.blk b1 [.slice A (ns.length) (c),vI (root),vI (X.cN),vI (X.cB),vI (X.cH),vI (X.cS),vI (X.cZ),.slice A4 ((fs.length+1)) (c5),.slice Ar ((aS xs at_).length) (cr)] 34,.abs R,.blk su [.slice Ag ((aO S).length) (cg)] 24,.blk xC [vI ((aQ (bA root (aW cs a)) 180).op),vI ((aQ (bA root (aW cs a)) 180).handle),vI ((aQ (bA root (aW cs a)) 180).other),.string (aQ (bA root (aW cs a)) 180).name,.string (aQ (bA root (aW cs a)) 180).text,.slice N6 ((aQ (bA root (aW cs a)) 180).data.length) (N7),vI ((aQ (bA root (aW cs a)) 180).mode),vI ((aQ (bA root (aW cs a)) 180).uid),vI ((aQ (bA root (aW cs a)) 180).gid),vI ((aQ (bA root (aW cs a)) 180).sec),vI ((aQ (bA root (aW cs a)) 180).nano),vI ((aQ (bA root (aW cs a)) 180).code),vI ((aQ (bA root (aW cs a)) 180).answer)] 48]) [6] (by kernel_rfl) ?_ rfl (fun _=>by kernel_rfl) ?_
  ·refine gL [1,2,3] (Dz (β:=CG) Ao Ag co cg (aO S2) (aO S) Ko Kg hH (MN KS.toInv0) (ML KS.toInv0) (decide_eq_true (by rw [Q0]))) ?_
   rintro _ _ ⟨rfl,rfl⟩
   refine NL ?_
   exact MD () [139,143] [0,1,2,3,4,5,6,7]
  rintro _
  refine gG [(false,10)] [(144,.bool true)] [9] [] ?_
  refine gX.last (by kernel_rfl) ?_
  refine gK 1 [(6,.bool true)] [] ?_
  refine NL (ai.np (NX (af.ret ?_)))
  exact ai.BF (v:=.bool true) (l:=[]) (bF:=[]) [] [5] hle0 (fun _=>by kernel_rfl) trivial rfl (by kernel_rfl) (rfl)
 refine af.region ?_
 have K3:xs.take j=xs:=by rw [show j=xs.length by omega,List.take_length]
 refine aj.dr 0 (p:=.blk b1 [.slice A (ns.length) (c),vI (root),vI (X.cN),vI (X.cB),vI (X.cH),vI (X.cS),vI (X.cZ),.slice A4 ((fs.length+1)) (c5),.slice Ar ((aS (xs.take j) at_).length) (cr)] 34) (p':=.blk b1 [.slice A (ns.length) (c),vI (root),vI (X.cN),vI (X.cB),vI (X.cH),vI (X.cS),vI (X.cZ),.slice A4 ((fs.length+1)) (c5),.slice Ar ((aS xs at_).length) (cr)] 34) (by kernel_rfl) (by rw [K3]) ?_
 refine aj.kQ (Φ:=fun β'=>cP β' A4 (bq dL ((⟨at_,1⟩:aZ)::fs))) 1 [0,2,3] (cL:=[.blk b1 [.slice A (ns.length) (c),vI (root),vI (X.cN),vI (X.cB),vI (X.cH),vI (X.cS),vI (X.cZ),.slice A4 ((fs.length+1)) (c5),.slice Ar ((aS xs at_).length) (cr)] 34,.abs (aE 41 5 Ar ((aS (xs.take j) at_).length) cr (bq dS (aS (xs.take j) at_))),.abs R]) rfl rfl (by kernel_rfl) (fun F w h β' h1 h2=>cP.jb h h1 h2) (fun VD o9 xB=>?_)
 replace hG:=hG.le o9
 replace hF:=hF.le o9
 replace hA:=hA.le o9
 replace hS:=hS.le o9
 replace hg:=hg.le o9
 replace hle0:=hle0.trans o9
 refine aj.kQ (Φ:=fun β'=>cP β' Ar (bq dS (aS xs at_))) 1 [0,2] (cL:=[.blk b1 [.slice A (ns.length) (c),vI (root),vI (X.cN),vI (X.cB),vI (X.cH),vI (X.cS),vI (X.cZ),.slice A4 ((fs.length+1)) (c5),.slice Ar ((aS xs at_).length) (cr)] 34,.abs R]) rfl rfl (by kernel_rfl) (fun F w h β' h1 h2=>cP.jb (by rw [K3] at h;exact h) h1 h2) (fun Jc iL vB=>?_)
 replace hG:=hG.le iL
 replace hF:=hF.le iL
 replace hA:=hA.le iL
 replace hS:=hS.le iL
 replace hg:=hg.le iL
 replace xB:=xB.le iL
 replace hle0:=hle0.trans iL
 refine gK 1 [(68,.agg #[.slice A (ns.length) (c),vI (root),vI (X.cN),vI (X.cB),vI (X.cH),vI (X.cS),vI (X.cZ),.slice A4 ((fs.length+1)) (c5),.slice Ar ((aS xs at_).length) (cr)])] [(0,A_ 0 b1 9)] ?_
 refine aj.jg (d:=(some 69)) (R:=[.blk b1 [.slice A (ns.length) (c),vI (root),vI (X.cN),vI (X.cB),vI (X.cH),vI (X.cS),vI (X.cZ),.slice A4 ((fs.length+1)) (c5),.slice Ar ((aS xs at_).length) (cr)] 34,.abs R]) (pk:=[0,1]) (fun _=>by kernel_rfl) (Jb (β:=Jc) (X:=X) h0 A c Y hG hB A4 c5 ((⟨at_,1⟩:aZ)::fs) xB (yO kS S7 (by omega)) Ar cr (aS xs at_) vB (vo hab)) rfl (by kernel_rfl) ?_
 rintro VE _ _ lZ ⟨rfl,rfl⟩
 replace hG:=hG.le lZ
 replace hF:=hF.le lZ
 replace hA:=hA.le lZ
 replace hS:=hS.le lZ
 replace hg:=hg.le lZ
 replace xB:=xB.le lZ
 replace vB:=vB.le lZ
 replace hle0:=hle0.trans lZ
 refine gK 5 [(10,.pointer none),(11,vI ((cX X ns root)))] [] ?_
 refine NN (af.seq (SR (gK 6 [(77,.bool true)] [(1,p_ ⟨[],none,none,none,some (.bool true)⟩ [((.bool (!(decide (((cX X ns root):Int)=(0:Int)))):Value))=(.bool true)] ⟨congrArg (fun b=>Value.bool !b) (decide_eq_false h0),trivial⟩)] ?_)))
 refine NN (CT (SR (gK 7 [(6,.bool true)] [(4,p_ ⟨[],none,none,none,some (.bool true)⟩ [((.bool (!(decide (((cX X ns root):Int)=(0:Int)))):Value))=(.bool true)] ⟨congrArg (fun b=>Value.bool !b) (decide_eq_false h0),trivial⟩)] ?_)))
 refine NN (af.ret (ai.ak ?_))
 exact ai.BF (v:=.bool true) (l:=[]) (bF:=[]) [] [1] hle0 (fun _=>by kernel_rfl) trivial rfl (by kernel_rfl) (rfl)
end
section
open Go.RowKit
theorem glob_ok {W:World} (h:W.ShapedOpen Tryz.prog):iU (B0 W):=by
  obtain⟨m,hm⟩:=cell_of_shapedOpen_int (g:=0) (t:=3) (zero:=#[.int .i64 0]) (k:=.i64) h (Nat.le_of_ble_eq_true (by kernel_rfl)) (by kernel_rfl) rfl (by kernel_rfl) (by kernel_rfl) Tryz.underlying3
  exact⟨m,Gl hm,hm⟩
end
section
theorem zI {a:Assume} {stops:Option Stop.Interp} {C:Checked} {os:Os} {f:FuncId} {r:Go.Reach} {okInput:Program->World->Go.Reach->Nat->FuncId->Input->Prop} {Pre:World->Array Value->Prop} {Post:World->Array Value->Value->World->Prop} {always:Machine->Prop}
    (h:ReturnsInOpen a stops C os f r okInput Pre Post (aloneAtReturn C.prog) always):ReturnsInOpen a stops C os f r okInput Pre Post (leavingAtReturn C.prog) always:=by
  obtain⟨g0,g1,g2,g3,T7⟩:=h
  refine⟨g0,g1,g2,g3,fun w tape i hf=>?_⟩
  obtain⟨n,v,w',hn,hc,hr,hp,⟨j,last,hj,hs,hq,hh,he⟩,ha⟩:=T7 w tape i hf
  exact⟨n,v,w',hn,hc,hr,hp,⟨j,last,hj,hs,hh,onlyLeaving_of_quiet hq,he⟩,ha⟩
theorem holds_leaving {p:Pinned} {s:OpenSpec} {c:OpenClaim} (hw:c.wf s=true) (hst:c.start=.entering) (hs:c.stops=[]) (hl:c.leaving=true) (h:({ c with leaving:=false }:OpenClaim).holds p s):c.holds p s:=by
  obtain⟨k1,k2,k3,k4,k5,k6,k7,k8,f,fn,k9,k10,k11,k12,k13,k14,k15,k16,k17,k18,k19,k20,k21,k22,k23,k24,k25,k26,k27,k28,U3,L,U4,hf⟩:=h
  refine⟨hw,k2,k3,k4,k5,k6,k7,k8,f,fn,k9,k10,k11,k12,k13,k14,k15,k16,k17,k18,k19,k20,k21,k22,k23,k24,k25,k26,k27,k28,U3,L,U4,fun os h1 h2 H enc inj=>?_⟩
  have h3:=hf os h1 h2 H enc inj
  unfold OpenClaim.form at h3 ⊢
  simp only [hst,hs] at h3 ⊢
  intro F
  have h4:=zI (h3 F)
  unfold OpenClaim.atReturn
  rw [hl]
  exact h4
end
end Go.Proofs.YtidjcblbdmfalaaGreat
