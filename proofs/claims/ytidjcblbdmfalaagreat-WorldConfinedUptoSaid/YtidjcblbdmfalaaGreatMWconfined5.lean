/-
  PROVED HERE: lemmas and contracts of functions (texts of this repo, joined; what the claim does not use is left out): H12, Lw, LA, Lc, HW, Og, LC, Oh, Wm, WE, WF, WA, ShelfP, As, HA, HB, WB, Wc, WC, Wd, We, WG, Wl, Wf, WH, Pl, Cf, Vq0, ShelfU, GKu, GFb, GBegin, GUd, GUnder.
  CONDITIONS: as the theorems say.
-/
import Derived.Test.YtidjcblbdmfalaaGreatMWconfined4
import Derived.Shelf.Strings.Split
import Derived.Test.YtidjcblbdmfalaaGreatProg
import Derived.Laws.IdiomStrings
import Derived.Lib.SplitLaws
import Derived.ArgAppend
import Derived.Shelf.SlGeneric
import Derived.Shelf.SlIterI.Nil
import Derived.Shelf.SortM.Plain
import Derived.Shelf.SortM.SortNone
import Derived.Ground.GgzProg
import Derived.Ground.SlgmProg
set_option maxRecDepth 100000
set_option maxHeartbeats 4000000
namespace Go.Proofs.YtidjcblbdmfalaaGreat
section
open Go.RowKit Go.Maps bD aE
attribute [local irreducible] aj aP af ai
abbrev rB (b2:Nat) (X:FM):=(.blk b2 [vI (X.cN),vI (X.cB),vI (X.cH),vI (X.cS),vI (X.cZ)] 28:HP)
abbrev qQ (b1:Nat) (A:Option Addr) (ns:List aB) (c):=(.blk b1 [.slice A (ns.length) (c)] 24:HP)
abbrev rC (b8:Nat) (ns) (k:Nat) (Y:Lay):=(.blk b8 [vI ((nd ns k).id),vI ((nd ns k).kind),vI ((nd ns k).mode),vI ((nd ns k).uid),vI ((nd ns k).gid),vI ((nd ns k).sec),vI ((nd ns k).nano),.slice (Y.dA k) ((nd ns k).data.length) ((Y.dC k)),.string (nd ns k).target,.slice (Y.eA k) ((nd ns k).ah.length) ((Y.eC k))] 70:HP)
abbrev zj (b9:Nat) (ns) (k:Nat):=(.blk b9 [vI ((nd ns k).id),vI ((nd ns k).mode),vI ((nd ns k).uid),vI ((nd ns k).gid),vI ((nd ns k).sec),vI ((nd ns k).nano),vI 0,vI 0,.bool false] 128:HP)
abbrev wO (b1:Nat) (A:Option Addr) (ns) (c) (b7:Nat) (m3:Nat) (t4:Nat) (S:aH) (L:HL) (R:cr):=([qQ b1 A ns c,pF b7 m3 t4 S.X,pI m3 L S.idx,kx t4 S L,pO S.O L,pD S.O L,pE S.O L,.abs R]:List HP)
abbrev OE (A:Option Addr) (ns:List aB) (c) (i:Nat) (Y:Lay) (j:Nat):=([(123,.slice A (ns.length) (c)),(124,vI ↑ns.length),(125,vI ↑i),(130,.slice (Y.eA i) ((nd ns i).ah.length) ((Y.eC i))),(131,vI ↑((nd ns i).ah.length)),(132,vI ↑j)]:Fr)
abbrev Lc (b1:Nat) (X:FM):=([(2,vP b1),(39,.agg #[vI (X.cN),vI (X.cB),vI (X.cH),vI (X.cS),vI (X.cZ)])]:Fr)
abbrev Ld (b1:Nat) (b7:Nat) (A:Option Addr) (ns:List aB) (c) (k:Nat):=([(2,vP b1),(6,vP b7),(47,.slice A (ns.length) (c)),(48,vI ↑ns.length),(49,vI ↑k)]:Fr)
abbrev H8 (b1:Nat) (b7:Nat) (b8:Nat) (A:Option Addr) (ns:List aB) (c) (k:Nat):=([(2,vP b1),(6,vP b7),(8,vP b8),(47,.slice A (ns.length) (c)),(48,vI ↑ns.length),(49,vI ↑k)]:Fr)
abbrev Nd (b1:Nat) (b7:Nat) (b8:Nat) (A:Option Addr) (ns:List aB) (c) (k:Nat):=([(2,vP b1),(6,vP b7),(8,vP b8),(47,.slice A (ns.length) (c)),(48,vI ↑ns.length),(49,vI ↑k)]:Fr)
abbrev Jy (b7:Nat) (b16:Nat):=([(6,vP b7),(11,vP b16)]:Fr)
abbrev Nf (S:aH) (ns) (k:Nat) (b7:Nat):=([(118,vI (S.X.used+(((nd ns k).data.length:Nat):Int))),(120,.pointer (some ⟨b7,9,none⟩))]:Fr)
theorem H9 {β:Bs} (A:Option Addr) (c:Nat) (ns:List aB) (Y:Lay) (hG:au β A ns Y) (hl:ns.length<=1048576) (hd:∀ i,i < ns.length->(nd ns i).data.length<=1048576/\(nd ns i).ah.length<=1048576) (hwf:∀ i,i < ns.length->∀ j,j < (nd ns i).ah.length->-9223372036854775808<=(ent ns i j).id/\(ent ns i j).id<=9223372036854775807) (hnm:∀ i,i < ns.length->∀ j,j < (nd ns i).ah.length->(ent ns i j).name.size<=1048576) (X:FM) :
    Spec Tryz.prog β 21 #[.agg #[.slice A (ns.length) (c)],.agg #[vI (X.cN),vI (X.cB),vI (X.cH),vI (X.cS),vI (X.cZ)]] [] (fun v l=>(¬ jC X/\v=.tuple #[.pointer none,vI 179]/\l=[])\/(jC X/\¬ bh ns/\v=.tuple #[.pointer none,vI 140]/\l=[])\/(jC X/\bh ns/\∃ S f m t L,eY X ns ns.length 0 S/\v=.tuple #[vP f,vI 0]/\l=pA f m t L S)):=by
 refine Spec.enter Tryz.func21 rfl Tryz.ntmps21 (Nat.le_of_ble_eq_true rfl) (fun R=>?_)
 refine SR (gN 1 (fun b1=>[(2,vP b1)]) (fun _=>[]) (fun _=>[]) (fun b1=>.blk b1 [.slice A (ns.length) (c)] 24) (fun b1=>?_))
 refine gN 3 (fun b2=>[(3,vP b2)]) (fun _=>[]) (fun _=>[]) (fun b2=>.blk b2 [vI (X.cN),vI (X.cB),vI (X.cH),vI (X.cS),vI (X.cZ)] 28) (fun b2=>?_)
 refine NN (af.seq (SR (gK 2 [(15,vI (X.cN))] [(1,a_ 2 b2)] ?_)))
 refine gL [] (fR X.cN 4096) ?_
 rintro _ _ ⟨rfl,rfl⟩
 refine gK 2 [(18,.bool (!(decide ((0<=X.cN/\X.cN<=4096)))))] [] ?_
 refine aj.iO 18 ((0<=X.cN/\X.cN<=4096)) (fun _=>by kernel_rfl) (fun ou=>?_) (fun ou=>?_)
 ·refine gK 17 [(35,.bool true)] [] ?_
  refine NN (CT (SR (gK 2 [(4,.pointer none),(5,vI 179)] [] ?_)))
  refine NN (af.ret (ai.ak ?_))
  exact RT (.tuple #[.pointer none,vI 179]) [0] (.inl ⟨fun h=>ou h.cN,rfl,rfl⟩)
 refine gK 2 [(20,vI (X.cB))] [(1,a_ 2 b2)] ?_
 refine gL [] (fR X.cB 1099511627776) ?_
 rintro _ _ ⟨rfl,rfl⟩
 refine gK 3 [(24,.bool (!(decide ((0<=X.cB/\X.cB<=1099511627776)))))] [] ?_
 refine aj.iO 24 ((0<=X.cB/\X.cB<=1099511627776)) (fun _=>by kernel_rfl) (fun wM=>?_) (fun wM=>?_)
 ·refine gK 11 [(35,.bool true)] [] ?_
  refine NN (CT (SR (gK 2 [(4,.pointer none),(5,vI 179)] [] ?_)))
  refine NN (af.ret (ai.ak ?_))
  exact RT (.tuple #[.pointer none,vI 179]) [0] (.inl ⟨fun h=>wM h.cB,rfl,rfl⟩)
 refine gK 2 [(26,vI (X.cH))] [(1,a_ 2 b2)] ?_
 refine gL [] (fR X.cH 1024) ?_
 rintro _ _ ⟨rfl,rfl⟩
 refine gK 3 [(30,.bool (!(decide ((0<=X.cH/\X.cH<=1024)))))] [] ?_
 refine aj.iO 30 ((0<=X.cH/\X.cH<=1024)) (fun _=>by kernel_rfl) (fun mM=>?_) (fun mM=>?_)
 ·refine gK 5 [(35,.bool true)] [] ?_
  refine NN (CT (SR (gK 2 [(4,.pointer none),(5,vI 179)] [] ?_)))
  refine NN (af.ret (ai.ak ?_))
  exact RT (.tuple #[.pointer none,vI 179]) [0] (.inl ⟨fun h=>mM h.cH,rfl,rfl⟩)
 refine gK 2 [(32,.agg #[vI (X.cS),vI (X.cZ)])] [(1,A_ 2 b2 2)] ?_
 refine gL [] (iH X.cS X.cZ) ?_
 rintro _ _ ⟨rfl,rfl⟩
 refine gK 2 [(35,.bool (!(decide (dU X.cS X.cZ))))] [] ?_
 refine NN (af.cX (p:=dU X.cS X.cZ) (fun _=>by kernel_rfl) (fun jU=>?_) (fun jU=>?_))
 ·refine SR (gK 2 [(4,.pointer none),(5,vI 179)] [] ?_)
  refine NN (af.ret (ai.ak ?_))
  exact RT (.tuple #[.pointer none,vI 179]) [0] (.inl ⟨fun h=>jU h.now,rfl,rfl⟩)
 have hcap:jC X:=⟨ou,wM,mM,jU⟩
 refine af.skip (NX (af.seq (SR (gK 1 [(36,.agg #[.slice A (ns.length) (c)])] [(0,a_ 1 b1)] ?_))))
 refine gL [] (LX A c ns Y hG hl (fun i hi=>⟨Nat.le_trans (hd i hi).1 (by decide),(hd i hi).2⟩) hwf hnm) ?_
 rintro _ _ ⟨rfl,rfl⟩
 refine gK 1 [(38,.bool (!(decide (((if bh ns then 0 else 140):Int)=(0:Int)))))] [] ?_
 refine NN (af.cX (p:=((if bh ns then 0 else 140):Int)=(0:Int)) (fun _=>by kernel_rfl) (fun AX=>?_) (fun AX=>?_))
 ·have VA:¬ bh ns:=fun h=>AX (if_pos h)
  refine SR (gK 2 [(4,.pointer none),(5,vI 140)] [] ?_)
  refine NN (af.ret (ai.ak ?_))
  exact RT (.tuple #[.pointer none,vI 140]) [0] (.inr (.inl ⟨hcap,VA,rfl,rfl⟩))
 have hok:bh ns:=Classical.byContradiction (fun h=>by rw [if_neg h] at AX;exact absurd AX (by decide))
 refine af.skip (NX (af.seq (af.rR (S:=[rB b2 X]) [0,2,3] [.two 1 4,.one 5,.one 6,.one 7] [2] (by kernel_rfl) (by kernel_rfl) rfl (by kernel_rfl) ?_)))
 refine gP (Lc b1 X++[(42,vI (X.cH))]) [0,2,3] [(0,A_ 0 b2 5),(2,a_ 0 b2)] ?_
 refine iN.pair (ι:=Nat×Nat) (QF:=Nat) (QG:=Nat) (KG:=fun (m3:Nat)=>(Lc b1 X++[(40,.map (some m3)),(42,vI (X.cH))])) (hpi:=fun (m3:Nat)=>[.abs R,qQ b1 A ns c,rB b2 X,.abs (aL Tryz.prog 3 m3 (fun _=>none) 0)]) (KH:=fun (t5:Nat)=>(Lc b1 X++[(43,vP t5)])) (KI:=fun (t5:Nat)=>[.abs (cV 197 t5 (min (max X.cH 0) 1024) 0 []),.abs R,qQ b1 A ns c,rB b2 X]) (fr':=fun ((m3,t4):Nat×Nat)=>[(2,vP b1),(39,.agg #[vI (X.cN),vI (X.cB),vI (X.cH),vI (X.cS),vI (X.cZ)]),(40,.map (some m3)),(43,vP t4)]) (hp':=fun ((m3,t4):Nat×Nat)=>[.abs (cV 197 t4 (min (max X.cH 0) 1024) 0 []),.abs R,qQ b1 A ns c,rB b2 X,.abs (aL Tryz.prog 3 m3 (fun _=>none) 0)]) [2] [3] [3] rfl rfl rfl rfl ?_ ?_ ?_ ?_ rfl (fun _=>by kernel_rfl) rfl (fun _=>by kernel_rfl) rfl (fun _=>by kernel_rfl) ?_
 ·refine aj.kO (d:=(some 40)) (t:=120) (fun _=>by kernel_rfl) Tryz.prog rfl 3 (fun m3=>?_)
  refine NL ?_
  exact MD m3 [2,39,40,42] [0,1,2,3]
 ·rintro m3
  show aj _ _ _ _ _ (Lc b1 X++[(40,.map (some m3)),(42,vI (X.cH))]) [.abs R,qQ b1 A ns c,rB b2 X,.abs (aL Tryz.prog 3 m3 (fun _=>none) 0)] _
  refine gL [] (ET X.cH) ?_
  rintro _ _ ⟨t4,rfl,rfl⟩
  refine NL ?_
  exact MD (m3,t4) [2,39,40,43] [0,1,2,3,4]
 ·refine gL [] (ET X.cH) ?_
  rintro _ _ ⟨t5,rfl,rfl⟩
  refine NL ?_
  exact MD t5 [2,39,43] [0,1,2,3]
 ·rintro t5
  show aj _ _ _ _ _ (Lc b1 X++[(43,vP t5)]) [.abs (cV 197 t5 (min (max X.cH 0) 1024) 0 []),.abs R,qQ b1 A ns c,rB b2 X] _
  refine aj.kO (d:=(some 40)) (t:=120) (fun _=>by kernel_rfl) Tryz.prog rfl 3 (fun m6=>?_)
  refine NL ?_
  exact MD (m6,t5) [2,39,40,43] [0,1,2,3,4]
 rintro⟨m3,t4⟩
 refine iN.cut (ι:=Unit) (fr':=fun (_:Unit)=>[(2,vP b1),(44,.agg #[vI (X.cN),vI (X.cB),vI (X.cH),vI (X.cS),vI (X.cZ),.map (some m3),vP t4,vI 0,vI 0,vI 0])]) (hp':=fun (_:Unit)=>[.abs (cV 197 t4 (min (max X.cH 0) 1024) 0 []),.abs R,qQ b1 A ns c,rB b2 X,.abs (aL Tryz.prog 3 m3 (fun _=>none) 0)]) [3] rfl rfl ?_ rfl (fun _=>by kernel_rfl) ?_
 ·refine gK 1 [(44,.agg #[vI (X.cN),vI (X.cB),vI (X.cH),vI (X.cS),vI (X.cZ),.map (some m3),vP t4,vI 0,vI 0,vI 0])] [] ?_
  refine NL ?_
  exact MD () [2,44] [0,1,2,3,4]
 rintro _
 refine iN.cut (ι:=Nat) (fr':=fun (b7:Nat)=>[(2,vP b1),(45,vP b7)]) (hp':=fun (b7:Nat)=>[.abs (cV 197 t4 (min (max X.cH 0) 1024) 0 []),.abs R,qQ b1 A ns c,rB b2 X,.abs (aL Tryz.prog 3 m3 (fun _=>none) 0),pF b7 m3 t4 { X with last:=0,ah:=0,used:=0 }]) [3] rfl rfl ?_ rfl (fun _=>by kernel_rfl) ?_
 ·refine gN 1 (fun b7=>[(45,vP b7)]) (fun _=>[]) (fun _=>[]) (fun b7=>pF b7 m3 t4 { X with last:=0,ah:=0,used:=0 }) (fun b7=>?_)
  refine NL ?_
  exact MD b7 [2,45] [0,1,2,3,4,5]
 rintro b7
 refine iN.last rfl rfl ?_
 refine gK 1 [(6,vP b7)] [] ?_
 refine NL (ai.np (NX (af.seq (SR ?_))))
 obtain⟨L,WY⟩:∃ L:HL,L=⟨fun _=>0,fun _=>0,fun _=>none,fun _=>0⟩:=⟨_,rfl⟩
 refine aj.mem (fun w hS=>hS.Ea (bI (gX X).O L) (Ad X L).1) ?_
 refine aj.mem (fun w hS=>hS.Ea (bJ (gX X).O L) (Ad X L).2.1) ?_
 refine aj.mem (fun w hS=>hS.Ea (cK (gX X).O L) (Ad X L).2.2) ?_
 have hc:min (max X.cH 0) 1024=X.cH:=by have:=hcap.cH;omega
 refine aj.mem (cR:=[.abs (cV 197 t4 (gX X).X.cH (gX X).ay (aY L (gX X).us)),.abs R,.blk b1 [.slice A (ns.length) (c)] 24,.blk b2 [vI (X.cN),vI (X.cB),vI (X.cH),vI (X.cS),vI (X.cZ)] 28,.abs (aL Tryz.prog 3 m3 (aX (aY L (gX X).idx)) ((gX X).idx.length)),.blk b7 [vI ((gX X).X.cN),vI ((gX X).X.cB),vI ((gX X).X.cH),vI ((gX X).X.cS),vI ((gX X).X.cZ),.map (some m3),vP t4,vI ((gX X).X.last),vI ((gX X).X.ah),vI ((gX X).X.used)] 126,.abs (ax (bI ((gX X).O) L)),.abs (ax (bJ ((gX X).O) L)),.abs (ax (cK ((gX X).O) L))]) (fun w hS=>by rw [hc,← ES] at hS;exact hS) ?_
 refine gK 4 [(47,.slice A (ns.length) (c)),(48,vI ↑ns.length),(49,vI 0)] [(1,a_ 2 b1)] ?_
 refine NN (af.block ?_)
 refine af.loop (ι:=Nat×aH×HL) (fun ((k,S,L):Nat×aH×HL)=>(k<=ns.length)/\(mw X ns k S)) (fun ((k,S,L):Nat×aH×HL)=>ns.length - k) (fun ((k,S,L):Nat×aH×HL)=>(Ld b1 b7 A ns c k)) (fun ((k,S,L):Nat×aH×HL)=>(wO b1 A ns c b7 m3 t4 S L R)) (0,(gX X),L) (idx:=[2,6,47,48,49]) (pk:=[2,5,4,0,6,7,8,1]) (show (0<=ns.length)/\(mw X ns 0 ((gX X))) from ⟨Nat.zero_le _,KQ hcap⟩) (fun _=>by kernel_rfl) rfl (by kernel_rfl) ?_
 rintro⟨k,S,L⟩ ⟨hk,hB⟩
 show af _ _ _ _ (Ld b1 b7 A ns c k) (wO b1 A ns c b7 m3 t4 S L R) _
 refine SR (gK 1 [(50,.bool (decide ((((k:Nat):Int):Int) < (((ns.length:Nat):Int):Int))))] [] ?_)
 refine NN (af.seq (af.aV (p:=(((k:Nat):Int):Int) < (((ns.length:Nat):Int):Int)) (fun _=>by kernel_rfl) (fun h50=>?_) (fun h50=>?_)))
 ·have hk2:k < ns.length:=by omega
  have hdk:=hd k hk2
  have hds:=DC (fun i hi=>(hd i hi).1) hk
  have MR:=hok.ids k hk2
  have hni:=hB.new hok hk2
  have qb:(Lit.int .i64 (nd ns k).id).wf=true:=WalkArith.wf_i64 (by omega)
  have hkk:=(hok.node k hk2).kind
  have dL:S.X.used=(sZ ns k:Int):=by rw [hB.cap]
  have hil:=hB.inv.len
  refine af.skip (NX (af.seq (af.block (SR ?_))))
  refine gN 4 (fun b8=>[(8,vP b8)]) (fun b8=>[(0,p_ ⟨[],some k,none,some ⟨(ar A),aq A,none⟩,none⟩ [((k:Nat):Int)=((k:Nat):Int),k < ns.length,(⟨(ar A),aq A,none⟩:Addr).spot=none,(A:Option Addr)=some ⟨(ar A),aq A,none⟩] ⟨rfl,by omega,rfl,au.hd hG (i:=k) (by omega),trivial⟩),(1,p_ ⟨[.old (.int .i64 ((nd ns k).id)),.old (.int .i64 ((nd ns k).kind)),.old (.int .i64 ((nd ns k).mode)),.old (.int .i64 ((nd ns k).uid)),.old (.int .i64 ((nd ns k).gid)),.old (.int .i64 ((nd ns k).sec)),.old (.int .i64 ((nd ns k).nano)),.old (.slice (Y.dA k) ((nd ns k).data.length) ((Y.dC k))),.old (.string (nd ns k).target),.old (.slice (Y.eA k) ((nd ns k).ah.length) ((Y.eC k)))],none,none,none,none⟩ [(Rd β ⟨(ar A),aq A+k * 10+9,none⟩ (.slice (Y.eA k) ((nd ns k).ah.length) ((Y.eC k)))),(Rd β ⟨(ar A),aq A+k * 10+8,none⟩ (.string (nd ns k).target)),(Rd β ⟨(ar A),aq A+k * 10+7,none⟩ (.slice (Y.dA k) ((nd ns k).data.length) ((Y.dC k)))),(Rd β ⟨(ar A),aq A+k * 10+6,none⟩ (.int .i64 ((nd ns k).nano))),(Rd β ⟨(ar A),aq A+k * 10+5,none⟩ (.int .i64 ((nd ns k).sec))),(Rd β ⟨(ar A),aq A+k * 10+4,none⟩ (.int .i64 ((nd ns k).gid))),(Rd β ⟨(ar A),aq A+k * 10+3,none⟩ (.int .i64 ((nd ns k).uid))),(Rd β ⟨(ar A),aq A+k * 10+2,none⟩ (.int .i64 ((nd ns k).mode))),(Rd β ⟨(ar A),aq A+k * 10+1,none⟩ (.int .i64 ((nd ns k).kind))),(Rd β ⟨(ar A),aq A+k * 10,none⟩ (.int .i64 ((nd ns k).id)))] ⟨au.rd hG (i:=k) (by omega) (j:=9) rfl,au.rd hG (i:=k) (by omega) (j:=8) rfl,au.rd hG (i:=k) (by omega) (j:=7) rfl,au.rd hG (i:=k) (by omega) (j:=6) rfl,au.rd hG (i:=k) (by omega) (j:=5) rfl,au.rd hG (i:=k) (by omega) (j:=4) rfl,au.rd hG (i:=k) (by omega) (j:=3) rfl,au.rd hG (i:=k) (by omega) (j:=2) rfl,au.rd hG (i:=k) (by omega) (j:=1) rfl,au.rd hG (i:=k) (by omega) (j:=0) rfl,trivial⟩),(3,A_ 8 b8 10)]) (fun _=>[]) (fun b8=>.blk b8 [vI ((nd ns k).id),vI ((nd ns k).kind),vI ((nd ns k).mode),vI ((nd ns k).uid),vI ((nd ns k).gid),vI ((nd ns k).sec),vI ((nd ns k).nano),.slice (Y.dA k) ((nd ns k).data.length) ((Y.dC k)),.string (nd ns k).target,.slice (Y.eA k) ((nd ns k).ah.length) ((Y.eC k))] 70) (fun b8=>?_)
  refine NS (gN 13 (fun b9=>[(9,vP b9)]) (fun b9=>[(1,a_ 8 b8),(3,a_ 8 b8),(5,a_ 8 b8),(7,a_ 8 b8),(9,A_ 8 b8 2),(12,A_ 9 b9 9)]) (fun _=>[]) (fun b9=>.blk b9 [vI ((nd ns k).id),vI ((nd ns k).mode),vI ((nd ns k).uid),vI ((nd ns k).gid),vI ((nd ns k).sec),vI ((nd ns k).nano),vI 0,vI 0,.bool false] 128) (fun b9=>?_))
  refine NN (af.seq (SR (gK 2 [(65,vI ((nd ns k).kind))] [(1,a_ 8 b8)] ?_)))
  refine NN (af.block (SR ?_))
  refine gK 2 [(77,.bool (decide (((nd ns k).kind:Int)=(1:Int))))] [] ?_
  refine NN (af.aV (p:=((nd ns k).kind:Int)=(1:Int)) (fun _=>by kernel_rfl) (fun hk1=>?_) (fun hk1=>?_))
  ·refine af.bM (S:=[pF b7 m3 t4 S.X,rC b8 ns k Y,zj b9 ns k]) [0,1,2,3,4,5,6,7,8,9,10,11,12,13] 9 [1,8,9] (by kernel_rfl) (by kernel_rfl) rfl (by kernel_rfl) ?_
   refine gR 0 [9,10,11,12,13] (Nd b1 b7 b8 A ns c k++[(82,.map (some m3)),(84,vI ((nd ns k).id)),(85,.agg #[vI ((nd ns k).id),vI ((nd ns k).mode),vI ((nd ns k).uid),vI ((nd ns k).gid),vI ((nd ns k).sec),vI ((nd ns k).nano),vI 0,vI 0,.bool false]),(87,.slice (Y.dA k) ((nd ns k).data.length) ((Y.dC k)))]) [0,1,2,3,4,5,6,7,8] [(3,a_ 0 b7),(5,a_ 1 b8),(6,A_ 2 b9 9),(8,a_ 1 b8)] ?_
   refine mL [2,9,10] [] (uF (Y.dA k) (Y.dC k) (nd ns k).data (hG.data k (by omega)) (by have:=(hd k (by omega)).1;omega)) ?_ (by rintro _ _ ⟨o7,c11,rfl,rfl⟩;rfl)
   rintro _ _ ⟨o7,c11,rfl,rfl⟩
   refine aN.cut (ι:=Unit) (fr':=fun (_:Unit)=>(H8 b1 b7 b8 A ns c k++[(82,.map (some m3)),(84,vI ((nd ns k).id)),(89,.agg #[vI ((nd ns k).id),vI ((nd ns k).mode),vI ((nd ns k).uid),vI ((nd ns k).gid),vI ((nd ns k).sec),vI ((nd ns k).nano),vI 0,vI 0,.bool false,.slice o7 ((nd ns k).data.length) (c11)])])) (hp':=fun (_:Unit)=>([.abs (aK 5 1 o7 ((nd ns k).data.length) c11 (bY (nd ns k).data))]++wO b1 A ns c b7 m3 t4 S L R++[rC b8 ns k Y,zj b9 ns k])) [2,9,10] rfl rfl ?_ rfl (fun _=>by kernel_rfl) ?_
   ·refine gK 1 [(89,.agg #[vI ((nd ns k).id),vI ((nd ns k).mode),vI ((nd ns k).uid),vI ((nd ns k).gid),vI ((nd ns k).sec),vI ((nd ns k).nano),vI 0,vI 0,.bool false,.slice o7 ((nd ns k).data.length) (c11)])] [] ?_
    refine NL ?_
    exact MD () [2,6,8,47,48,49,82,84,89] [0,1,2,3,4,5,6,7,8,9,10]
   rintro _
   refine mN [2,9,10] (fun b12=>[(90,vP b12)]) (fun _=>[]) (fun b12=>.blk b12 [vI ((nd ns k).id),vI ((nd ns k).mode),vI ((nd ns k).uid),vI ((nd ns k).gid),vI ((nd ns k).sec),vI ((nd ns k).nano),vI 0,vI 0,.bool false,.slice o7 ((nd ns k).data.length) (c11)] 131) (fun b12=>?_)
   refine aN.cut (ι:=Unit) (fr':=fun (_:Unit)=>(H8 b1 b7 b8 A ns c k++[(82,.map (some m3)),(84,vI ((nd ns k).id)),(91,.iface 129 (vP b12))])) (hp':=fun (_:Unit)=>([.abs (aK 5 1 o7 ((nd ns k).data.length) c11 (bY (nd ns k).data))]++wO b1 A ns c b7 m3 t4 S L R++[rC b8 ns k Y,zj b9 ns k,.blk b12 [vI ((nd ns k).id),vI ((nd ns k).mode),vI ((nd ns k).uid),vI ((nd ns k).gid),vI ((nd ns k).sec),vI ((nd ns k).nano),vI 0,vI 0,.bool false,.slice o7 ((nd ns k).data.length) (c11)] 131])) [2,9,10] rfl rfl ?_ rfl (fun _=>by kernel_rfl) ?_
   ·refine gK 1 [(91,.iface 129 (vP b12))] [] ?_
    refine NL ?_
    exact MD () [2,6,8,47,48,49,82,84,91] [0,1,2,3,4,5,6,7,8,9,10,11]
   rintro _
   refine aN.last rfl rfl ?_
   obtain⟨L2,hL2⟩:∃ L2:HL,L2=L.put (fk (nd ns k)) b12 0 o7 c11:=⟨_,rfl⟩
   have hfr:=hB.fresh hok (by omega)
   refine aj.mem (fun w hS=>hS.tU hL2 hfr (o:=(pH (nd ns k))) (i:=5) (j:=11) (ix:=[0,1,2,3,4,6,7,8,9,10]) rfl rfl (by kernel_rfl) rfl (by show (nd ns k).kind≠0;rw [hk1];decide) ((ia (L:=L2) (k:=(fk (nd ns k))) (o:=(pH (nd ns k))) hk1).trans (by rw [show L2.dA (fk (nd ns k))=o7 by rw [hL2];exact if_pos rfl,show L2.dC (fk (nd ns k))=c11 by rw [hL2];exact if_pos rfl];rfl)) (by show kE (nd ns k).kind=_;rw [hk1]<;>rfl)) ?_
   refine aj.dx [(7,.abs (ax (cK ((cG S (nd ns k)).O) L2)))] (fun w hS=>hS.uU hL2 hfr (o:=(pH (nd ns k))) (i:=7) rfl (by show ¬ (nd ns k).kind=2;rw [hk1];decide)) ?_
   refine aj.mem (cR:=[pD ((cG S (nd ns k)).O) L2,pO ((cG S (nd ns k)).O) L2,qQ b1 A ns c,pF b7 m3 t4 S.X,pI m3 L S.idx,kx t4 S L,pE ((cG S (nd ns k)).O) L2,.abs R,rC b8 ns k Y,zj b9 ns k]) (fun w hS=>hS.SE hL2 (o:=(pH (nd ns k))) (i:=6) (j:=1) (ix:=[0,2,3,4,5,7,8,9,10]) rfl rfl (by kernel_rfl) rfl hk1) ?_
   refine aj.dx [(4,.abs (aL Tryz.prog 3 m3 (aX (aY L2 S.idx)) S.idx.length)),(5,.abs (cV 197 t4 S.X.cH S.ay (aY L2 S.us)))] (fun w hS=>by rw [gJ hL2 hfr.idx,gJ hL2 hfr.us];exact hS) ?_
   have FT:dQ L2 (oY (nd ns k))=.iface 129 (vP b12):=by unfold oY;rw [oC hL2,hk1];rfl
   refine aj.j6 4 (d:=none) (t:=120) (K:=3) (E:=124) (b:=m3) (n:=S.idx.length) (f:=(aX (aY L2 S.idx))) (x:=(.tmp 82)) (ix:=(.tmp 84)) (y:=(.tmp 91)) (key:=.int .i64 ((nd ns k).id)) (u:=.iface 129 (vP b12)) (kl:=(.int .i64 (nd ns k).id)) (n':=(S.idx.length+1)) (f':=(aX (aY L2 (ins (nd ns k).id (oY (nd ns k)) S.idx)))) (fun _=>by kernel_rfl) (by kernel_rfl) (fun _=>by kernel_rfl) (fun _=>by kernel_rfl) (fun _=>by kernel_rfl) dw Tryz.underlying120 (by unfold maxLen;omega) (gY qb) (by rw [fC,hni];rfl) (by rw [← FT];exact si hni) ?_
   refine NL (ai.np (ai.aJ (NX (SR ?_))))
   refine gC 6 [] [(2,a_ 8 b8),(5,a_ 3 b7)] [(3,[(7,vI ((nd ns k).id))])] ?_
   refine NN (af.bM (S:=[pF b7 m3 t4 { S.X with last:=(nd ns k).id },rC b8 ns k Y]) [0,1,2,3,4,5,6,7,8,9,10] 10 [3,8] (by kernel_rfl) (by kernel_rfl) rfl (by kernel_rfl) ?_)
   refine gR 0 [10] (Ld b1 b7 A ns c k++Nf S ns k b7) [0,1,2,3,4,5,6,7,8,9] [(3,a_ 0 b7),(5,a_ 1 b8),(7,p_ ⟨[],none,none,none,some (vI (S.X.used+(((nd ns k).data.length:Nat):Int)))⟩ [(Value.int .i64 (IntKind.wrap .i64 (S.X.used+(((nd ns k).data.length:Nat):Int))))=(.int .i64 (S.X.used+(((nd ns k).data.length:Nat):Int)))] ⟨bn (by omega) (by omega) (by omega),trivial⟩)] ?_
   refine aN.last rfl rfl ?_
   refine gC 1 [] [(0,a_ 3 b7)] [(3,[(9,vI (S.X.used+(((nd ns k).data.length:Nat):Int)))])] ?_
   refine NL (ai.np (ai.aJ (NX (af.region ?_))))
   refine gK 2 [(49,vI ↑(k+1))] [(0,p_ ⟨[],none,none,none,some (vI ↑(k+1))⟩ [(Value.int .i64 (IntKind.wrap .i64 (((k:Nat):Int)+1)))=(.int .i64 ↑(k+1))] ⟨bn (by omega) (by omega) (by omega),trivial⟩)] ?_
   refine NL (ai.dx [(3,.blk b7 [vI ((cG S (nd ns k)).X.cN),vI ((cG S (nd ns k)).X.cB),vI ((cG S (nd ns k)).X.cH),vI ((cG S (nd ns k)).X.cS),vI ((cG S (nd ns k)).X.cZ),.map (some m3),vP t4,vI ((cG S (nd ns k)).X.last),vI ((cG S (nd ns k)).X.ah),vI ((cG S (nd ns k)).X.used)] 126),(4,.abs (aL Tryz.prog 3 m3 (aX (aY L2 (cG S (nd ns k)).idx)) ((cG S (nd ns k)).idx.length))),(5,.abs (cV 197 t4 (cG S (nd ns k)).X.cH (cG S (nd ns k)).ay (aY L2 (cG S (nd ns k)).us)))] (fun w hS=>by rw [show (cG S (nd ns k)).idx.length=S.idx.length+1 from iR _ _ _];exact hS) ?_)
   exact ai.turn ((k+1),(cG S (nd ns k)),L2) (idx:=[2,6,47,48,49]) (pk:=[2,3,4,5,1,0,6,7]) (show (((k+1))<=ns.length)/\(mw X ns ((k+1)) ((cG S (nd ns k)))) from ⟨by omega,xX hok (fun i hi=>(hd i hi).1) (by omega) hB⟩) (by show ns.length - ((k+1)) < ns.length - k;omega) (fun _=>by kernel_rfl) rfl (by kernel_rfl)
  refine SR (gK 2 [(92,.bool (decide (((nd ns k).kind:Int)=(3:Int))))] [] ?_)
  refine NN (af.aV (p:=((nd ns k).kind:Int)=(3:Int)) (fun _=>by kernel_rfl) (fun hk3=>?_) (fun hk3=>?_))
  ·refine af.bM (S:=[pF b7 m3 t4 S.X,rC b8 ns k Y,zj b9 ns k]) [0,1,2,3,4,5,6,7,8,9,10,11,12] 10 [1,8,9] (by kernel_rfl) (by kernel_rfl) rfl (by kernel_rfl) ?_
   refine gR 0 [10,11,12] (Nd b1 b7 b8 A ns c k++[(97,.map (some m3)),(99,vI ((nd ns k).id)),(103,.agg #[vI ((nd ns k).id),vI ((nd ns k).mode),vI ((nd ns k).uid),vI ((nd ns k).gid),vI ((nd ns k).sec),vI ((nd ns k).nano),vI 0,vI 0,.bool false,.string (nd ns k).target])]) [0,1,2,3,4,5,6,7,8,9] [(3,a_ 0 b7),(5,a_ 1 b8),(6,A_ 2 b9 9),(8,a_ 1 b8)] ?_
   refine mN [1,8,9] (fun b13=>[(104,vP b13)]) (fun _=>[]) (fun b13=>.blk b13 [vI ((nd ns k).id),vI ((nd ns k).mode),vI ((nd ns k).uid),vI ((nd ns k).gid),vI ((nd ns k).sec),vI ((nd ns k).nano),vI 0,vI 0,.bool false,.string (nd ns k).target] 134) (fun b13=>?_)
   refine aN.cut (ι:=Unit) (fr':=fun (_:Unit)=>(H8 b1 b7 b8 A ns c k++[(97,.map (some m3)),(99,vI ((nd ns k).id)),(105,.iface 132 (vP b13))])) (hp':=fun (_:Unit)=>(wO b1 A ns c b7 m3 t4 S L R++[rC b8 ns k Y,zj b9 ns k,.blk b13 [vI ((nd ns k).id),vI ((nd ns k).mode),vI ((nd ns k).uid),vI ((nd ns k).gid),vI ((nd ns k).sec),vI ((nd ns k).nano),vI 0,vI 0,.bool false,.string (nd ns k).target] 134])) [1,8,9] rfl rfl ?_ rfl (fun _=>by kernel_rfl) ?_
   ·refine gK 1 [(105,.iface 132 (vP b13))] [] ?_
    refine NL ?_
    exact MD () [2,6,8,47,48,49,97,99,105] [0,1,2,3,4,5,6,7,8,9,10]
   rintro _
   refine aN.last rfl rfl ?_
   obtain⟨L2,hL2⟩:∃ L2:HL,L2=L.put (fk (nd ns k)) b13 0 none 0:=⟨_,rfl⟩
   have hfr:=hB.fresh hok (by omega)
   refine aj.mem (fun w hS=>hS.tU hL2 hfr (o:=(pH (nd ns k))) (i:=4) (j:=10) (ix:=[0,1,2,3,5,6,7,8,9]) rfl rfl (by kernel_rfl) rfl (by show (nd ns k).kind≠0;rw [hk3];decide) ((xA (L:=L2) (k:=(fk (nd ns k))) (o:=(pH (nd ns k))) hk3).trans (by rfl)) (by show kE (nd ns k).kind=_;rw [hk3]<;>rfl)) ?_
   refine aj.dx [(6,.abs (ax (cK ((cG S (nd ns k)).O) L2)))] (fun w hS=>hS.uU hL2 hfr (o:=(pH (nd ns k))) (i:=6) rfl (by show ¬ (nd ns k).kind=2;rw [hk3];decide)) ?_
   refine aj.dx [(5,.abs (ax (bJ ((cG S (nd ns k)).O) L2)))] (fun w hS=>hS.Bp hL2 (o:=(pH (nd ns k))) (i:=5) rfl (by show ¬ (nd ns k).kind=1;rw [hk3];decide)) ?_
   refine aj.dx [(3,.abs (aL Tryz.prog 3 m3 (aX (aY L2 S.idx)) S.idx.length)),(4,.abs (cV 197 t4 S.X.cH S.ay (aY L2 S.us)))] (fun w hS=>by rw [gJ hL2 hfr.idx,gJ hL2 hfr.us];exact hS) ?_
   have FT:dQ L2 (oY (nd ns k))=.iface 132 (vP b13):=by unfold oY;rw [oC hL2,hk3];rfl
   refine aj.j6 3 (d:=none) (t:=120) (K:=3) (E:=124) (b:=m3) (n:=S.idx.length) (f:=(aX (aY L2 S.idx))) (x:=(.tmp 97)) (ix:=(.tmp 99)) (y:=(.tmp 105)) (key:=.int .i64 ((nd ns k).id)) (u:=.iface 132 (vP b13)) (kl:=(.int .i64 (nd ns k).id)) (n':=(S.idx.length+1)) (f':=(aX (aY L2 (ins (nd ns k).id (oY (nd ns k)) S.idx)))) (fun _=>by kernel_rfl) (by kernel_rfl) (fun _=>by kernel_rfl) (fun _=>by kernel_rfl) (fun _=>by kernel_rfl) dw Tryz.underlying120 (by unfold maxLen;omega) (gY qb) (by rw [fC,hni];rfl) (by rw [← FT];exact si hni) ?_
   refine NL (ai.np (ai.aJ (NX (SR ?_))))
   refine gC 6 [] [(2,a_ 8 b8),(5,a_ 2 b7)] [(2,[(7,vI ((nd ns k).id))])] ?_
   refine NN (af.bM (S:=[pF b7 m3 t4 { S.X with last:=(nd ns k).id },rC b8 ns k Y]) [0,1,2,3,4,5,6,7,8,9,10] 10 [2,8] (by kernel_rfl) (by kernel_rfl) rfl (by kernel_rfl) ?_)
   refine gR 0 [10] (Ld b1 b7 A ns c k++Nf S ns k b7) [0,1,2,3,4,5,6,7,8,9] [(3,a_ 0 b7),(5,a_ 1 b8),(7,p_ ⟨[],none,none,none,some (vI (S.X.used+(((nd ns k).data.length:Nat):Int)))⟩ [(Value.int .i64 (IntKind.wrap .i64 (S.X.used+(((nd ns k).data.length:Nat):Int))))=(.int .i64 (S.X.used+(((nd ns k).data.length:Nat):Int)))] ⟨bn (by omega) (by omega) (by omega),trivial⟩)] ?_
   refine aN.last rfl rfl ?_
   refine gC 1 [] [(0,a_ 2 b7)] [(2,[(9,vI (S.X.used+(((nd ns k).data.length:Nat):Int)))])] ?_
   refine NL (ai.np (ai.aJ (NX (af.region ?_))))
   refine gK 2 [(49,vI ↑(k+1))] [(0,p_ ⟨[],none,none,none,some (vI ↑(k+1))⟩ [(Value.int .i64 (IntKind.wrap .i64 (((k:Nat):Int)+1)))=(.int .i64 ↑(k+1))] ⟨bn (by omega) (by omega) (by omega),trivial⟩)] ?_
   refine NL (ai.dx [(2,.blk b7 [vI ((cG S (nd ns k)).X.cN),vI ((cG S (nd ns k)).X.cB),vI ((cG S (nd ns k)).X.cH),vI ((cG S (nd ns k)).X.cS),vI ((cG S (nd ns k)).X.cZ),.map (some m3),vP t4,vI ((cG S (nd ns k)).X.last),vI ((cG S (nd ns k)).X.ah),vI ((cG S (nd ns k)).X.used)] 126),(3,.abs (aL Tryz.prog 3 m3 (aX (aY L2 (cG S (nd ns k)).idx)) ((cG S (nd ns k)).idx.length))),(4,.abs (cV 197 t4 (cG S (nd ns k)).X.cH (cG S (nd ns k)).ay (aY L2 (cG S (nd ns k)).us)))] (fun w hS=>by rw [show (cG S (nd ns k)).idx.length=S.idx.length+1 from iR _ _ _];exact hS) ?_)
   exact ai.turn ((k+1),(cG S (nd ns k)),L2) (idx:=[2,6,47,48,49]) (pk:=[1,2,3,4,0,5,6,7]) (show (((k+1))<=ns.length)/\(mw X ns ((k+1)) ((cG S (nd ns k)))) from ⟨by omega,xX hok (fun i hi=>(hd i hi).1) (by omega) hB⟩) (by show ns.length - ((k+1)) < ns.length - k;omega) (fun _=>by kernel_rfl) rfl (by kernel_rfl)
  have mK:(nd ns k).kind=2:=by omega
  refine af.bM (S:=[pF b7 m3 t4 S.X,rC b8 ns k Y,zj b9 ns k]) [0,1,2,3,4,5,6,7,8,9,10,11] 7 [1,8,9] (by kernel_rfl) (by kernel_rfl) rfl (by kernel_rfl) ?_
  refine gR 0 [7,8,9,10,11] (Nd b1 b7 b8 A ns c k++[(69,.map (some m3)),(71,vI ((nd ns k).id)),(72,.agg #[vI ((nd ns k).id),vI ((nd ns k).mode),vI ((nd ns k).uid),vI ((nd ns k).gid),vI ((nd ns k).sec),vI ((nd ns k).nano),vI 0,vI 0,.bool false])]) [0,1,2,3,4,5,6] [(3,a_ 0 b7),(5,a_ 1 b8),(6,A_ 2 b9 9)] ?_
  refine aN.cut (ι:=Nat) (fr':=fun (m14:Nat)=>(H8 b1 b7 b8 A ns c k++[(69,.map (some m3)),(71,vI ((nd ns k).id)),(72,.agg #[vI ((nd ns k).id),vI ((nd ns k).mode),vI ((nd ns k).uid),vI ((nd ns k).gid),vI ((nd ns k).sec),vI ((nd ns k).nano),vI 0,vI 0,.bool false]),(73,.map (some m14))])) (hp':=fun (m14:Nat)=>(wO b1 A ns c b7 m3 t4 S L R++[rC b8 ns k Y,zj b9 ns k,.abs (aL Tryz.prog 9 m14 (fun _=>none) 0)])) [1,8,9] rfl rfl ?_ rfl (fun _=>by kernel_rfl) ?_
  ·refine aj.kO (d:=(some 73)) (t:=136) (fun _=>by kernel_rfl) Tryz.prog rfl 9 (fun m14=>?_)
   refine NL ?_
   exact MD m14 [2,6,8,47,48,49,69,71,72,73] [0,1,2,3,4,5,6,7,8,9,10]
  rintro m14
  refine aN.cut (ι:=Unit) (fr':=fun (_:Unit)=>(H8 b1 b7 b8 A ns c k++[(69,.map (some m3)),(71,vI ((nd ns k).id)),(74,.agg #[vI ((nd ns k).id),vI ((nd ns k).mode),vI ((nd ns k).uid),vI ((nd ns k).gid),vI ((nd ns k).sec),vI ((nd ns k).nano),vI 0,vI 0,.bool false,.map (some m14),.pointer none])])) (hp':=fun (_:Unit)=>(wO b1 A ns c b7 m3 t4 S L R++[rC b8 ns k Y,zj b9 ns k,.abs (aL Tryz.prog 9 m14 (fun _=>none) 0)])) [1,8,9] rfl rfl ?_ rfl (fun _=>by kernel_rfl) ?_
  ·refine gK 1 [(74,.agg #[vI ((nd ns k).id),vI ((nd ns k).mode),vI ((nd ns k).uid),vI ((nd ns k).gid),vI ((nd ns k).sec),vI ((nd ns k).nano),vI 0,vI 0,.bool false,.map (some m14),.pointer none])] [] ?_
   refine NL ?_
   exact MD () [2,6,8,47,48,49,69,71,74] [0,1,2,3,4,5,6,7,8,9,10]
  rintro _
  refine mN [1,8,9] (fun b15=>[(75,vP b15)]) (fun _=>[]) (fun b15=>.blk b15 [vI ((nd ns k).id),vI ((nd ns k).mode),vI ((nd ns k).uid),vI ((nd ns k).gid),vI ((nd ns k).sec),vI ((nd ns k).nano),vI 0,vI 0,.bool false,.map (some m14),.pointer none] 138) (fun b15=>?_)
  refine aN.cut (ι:=Unit) (fr':=fun (_:Unit)=>(H8 b1 b7 b8 A ns c k++[(69,.map (some m3)),(71,vI ((nd ns k).id)),(76,.iface 135 (vP b15))])) (hp':=fun (_:Unit)=>(wO b1 A ns c b7 m3 t4 S L R++[rC b8 ns k Y,zj b9 ns k,.abs (aL Tryz.prog 9 m14 (fun _=>none) 0),.blk b15 [vI ((nd ns k).id),vI ((nd ns k).mode),vI ((nd ns k).uid),vI ((nd ns k).gid),vI ((nd ns k).sec),vI ((nd ns k).nano),vI 0,vI 0,.bool false,.map (some m14),.pointer none] 138])) [1,8,9] rfl rfl ?_ rfl (fun _=>by kernel_rfl) ?_
  ·refine gK 1 [(76,.iface 135 (vP b15))] [] ?_
   refine NL ?_
   exact MD () [2,6,8,47,48,49,69,71,76] [0,1,2,3,4,5,6,7,8,9,10,11]
  rintro _
  refine aN.last rfl rfl ?_
  obtain⟨L2,hL2⟩:∃ L2:HL,L2=L.put (fk (nd ns k)) b15 m14 none 0:=⟨_,rfl⟩
  have hfr:=hB.fresh hok (by omega)
  refine aj.mem (fun w hS=>hS.tU hL2 hfr (o:=(pH (nd ns k))) (i:=4) (j:=11) (ix:=[0,1,2,3,5,6,7,8,9,10]) rfl rfl (by kernel_rfl) rfl (by show (nd ns k).kind≠0;rw [mK];decide) ((lM (L:=L2) (k:=(fk (nd ns k))) (o:=(pH (nd ns k))) mK).trans (by rw [EY hL2];rfl)) (by show kE (nd ns k).kind=_;rw [mK]<;>rfl)) ?_
  refine aj.mem (fun w hS=>hS.N9 hL2 hfr (o:=(pH (nd ns k))) (i:=6) (j:=10) (ix:=[0,1,2,3,4,5,7,8,9]) rfl rfl (by kernel_rfl) rfl mK rfl) ?_
  refine aj.dx [(6,.abs (ax (bJ ((cG S (nd ns k)).O) L2)))] (fun w hS=>hS.Bp hL2 (o:=(pH (nd ns k))) (i:=6) rfl (by show ¬ (nd ns k).kind=1;rw [mK];decide)) ?_
  refine aj.dx [(4,.abs (aL Tryz.prog 3 m3 (aX (aY L2 S.idx)) S.idx.length)),(5,.abs (cV 197 t4 S.X.cH S.ay (aY L2 S.us)))] (fun w hS=>by rw [gJ hL2 hfr.idx,gJ hL2 hfr.us];exact hS) ?_
  have FT:dQ L2 (oY (nd ns k))=.iface 135 (vP b15):=by unfold oY;rw [oC hL2,mK];rfl
  refine aj.j6 4 (d:=none) (t:=120) (K:=3) (E:=124) (b:=m3) (n:=S.idx.length) (f:=(aX (aY L2 S.idx))) (x:=(.tmp 69)) (ix:=(.tmp 71)) (y:=(.tmp 76)) (key:=.int .i64 ((nd ns k).id)) (u:=.iface 135 (vP b15)) (kl:=(.int .i64 (nd ns k).id)) (n':=(S.idx.length+1)) (f':=(aX (aY L2 (ins (nd ns k).id (oY (nd ns k)) S.idx)))) (fun _=>by kernel_rfl) (by kernel_rfl) (fun _=>by kernel_rfl) (fun _=>by kernel_rfl) (fun _=>by kernel_rfl) dw Tryz.underlying120 (by unfold maxLen;omega) (gY qb) (by rw [fC,hni];rfl) (by rw [← FT];exact si hni) ?_
  refine NL (ai.np (ai.aJ (NX (SR ?_))))
  refine gC 6 [] [(2,a_ 8 b8),(5,a_ 3 b7)] [(3,[(7,vI ((nd ns k).id))])] ?_
  refine NN (af.bM (S:=[pF b7 m3 t4 { S.X with last:=(nd ns k).id },rC b8 ns k Y]) [0,1,2,3,4,5,6,7,8,9,10] 10 [3,8] (by kernel_rfl) (by kernel_rfl) rfl (by kernel_rfl) ?_)
  refine gR 0 [10] (Ld b1 b7 A ns c k++Nf S ns k b7) [0,1,2,3,4,5,6,7,8,9] [(3,a_ 0 b7),(5,a_ 1 b8),(7,p_ ⟨[],none,none,none,some (vI (S.X.used+(((nd ns k).data.length:Nat):Int)))⟩ [(Value.int .i64 (IntKind.wrap .i64 (S.X.used+(((nd ns k).data.length:Nat):Int))))=(.int .i64 (S.X.used+(((nd ns k).data.length:Nat):Int)))] ⟨bn (by omega) (by omega) (by omega),trivial⟩)] ?_
  refine aN.last rfl rfl ?_
  refine gC 1 [] [(0,a_ 3 b7)] [(3,[(9,vI (S.X.used+(((nd ns k).data.length:Nat):Int)))])] ?_
  refine NL (ai.np (ai.aJ (NX (af.region ?_))))
  refine gK 2 [(49,vI ↑(k+1))] [(0,p_ ⟨[],none,none,none,some (vI ↑(k+1))⟩ [(Value.int .i64 (IntKind.wrap .i64 (((k:Nat):Int)+1)))=(.int .i64 ↑(k+1))] ⟨bn (by omega) (by omega) (by omega),trivial⟩)] ?_
  refine NL (ai.dx [(3,.blk b7 [vI ((cG S (nd ns k)).X.cN),vI ((cG S (nd ns k)).X.cB),vI ((cG S (nd ns k)).X.cH),vI ((cG S (nd ns k)).X.cS),vI ((cG S (nd ns k)).X.cZ),.map (some m3),vP t4,vI ((cG S (nd ns k)).X.last),vI ((cG S (nd ns k)).X.ah),vI ((cG S (nd ns k)).X.used)] 126),(4,.abs (aL Tryz.prog 3 m3 (aX (aY L2 (cG S (nd ns k)).idx)) ((cG S (nd ns k)).idx.length))),(5,.abs (cV 197 t4 (cG S (nd ns k)).X.cH (cG S (nd ns k)).ay (aY L2 (cG S (nd ns k)).us)))] (fun w hS=>by rw [show (cG S (nd ns k)).idx.length=S.idx.length+1 from iR _ _ _];exact hS) ?_)
  exact ai.turn ((k+1),(cG S (nd ns k)),L2) (idx:=[2,6,47,48,49]) (pk:=[2,3,4,5,1,6,0,7]) (show (((k+1))<=ns.length)/\(mw X ns ((k+1)) ((cG S (nd ns k)))) from ⟨by omega,xX hok (fun i hi=>(hd i hi).1) (by omega) hB⟩) (by show ns.length - ((k+1)) < ns.length - k;omega) (fun _=>by kernel_rfl) rfl (by kernel_rfl)
 refine af.exit (ai.aS (ai.aS (ai.cD (NX (af.seq (SR ?_))))))
 refine gK 4 [(123,.slice A (ns.length) (c)),(124,vI ↑ns.length),(125,vI 0)] [(1,a_ 0 b1)] ?_
 refine NN (af.block ?_)
 refine af.loop (ι:=Nat×aH) (fun ((i,S1):Nat×aH)=>(i<=ns.length)/\(eY X ns i 0 S1)) (fun ((i,S1):Nat×aH)=>ns.length - i) (fun ((i,S1):Nat×aH)=>[(6,vP b7),(123,.slice A (ns.length) (c)),(124,vI ↑ns.length),(125,vI ↑i)]) (fun ((i,S1):Nat×aH)=>(wO b1 A ns c b7 m3 t4 S1 L R)) (0,S) (idx:=[6,123,124,125]) (pk:=[0,1,2,3,4,5,6,7]) (show (0<=ns.length)/\(eY X ns 0 0 S) from ⟨Nat.zero_le _,by have h:=hB;rw [show k=ns.length by omega] at h;exact h.ah⟩) (fun _=>by kernel_rfl) rfl (by kernel_rfl) ?_
 rintro⟨i,S1⟩ ⟨hi,hE⟩
 show af _ _ _ _ [(6,vP b7),(123,.slice A (ns.length) (c)),(124,vI ↑ns.length),(125,vI ↑i)] (wO b1 A ns c b7 m3 t4 S1 L R) _
 refine SR (gK 1 [(126,.bool (decide ((((i:Nat):Int):Int) < (((ns.length:Nat):Int):Int))))] [] ?_)
 refine NN (af.seq (af.aV (p:=(((i:Nat):Int):Int) < (((ns.length:Nat):Int):Int)) (fun _=>by kernel_rfl) (fun UK=>?_) (fun UK=>?_)))
 ·refine af.skip (NX (af.seq (af.block (SR ?_))))
  refine gN 4 (fun b16=>[(11,vP b16)]) (fun b16=>[(0,p_ ⟨[],some i,none,some ⟨(ar A),aq A,none⟩,none⟩ [((i:Nat):Int)=((i:Nat):Int),i < ns.length,(⟨(ar A),aq A,none⟩:Addr).spot=none,(A:Option Addr)=some ⟨(ar A),aq A,none⟩] ⟨rfl,by omega,rfl,au.hd hG (i:=i) (by omega),trivial⟩),(1,p_ ⟨[.old (.int .i64 ((nd ns i).id)),.old (.int .i64 ((nd ns i).kind)),.old (.int .i64 ((nd ns i).mode)),.old (.int .i64 ((nd ns i).uid)),.old (.int .i64 ((nd ns i).gid)),.old (.int .i64 ((nd ns i).sec)),.old (.int .i64 ((nd ns i).nano)),.old (.slice (Y.dA i) ((nd ns i).data.length) ((Y.dC i))),.old (.string (nd ns i).target),.old (.slice (Y.eA i) ((nd ns i).ah.length) ((Y.eC i)))],none,none,none,none⟩ [(Rd β ⟨(ar A),aq A+i * 10+9,none⟩ (.slice (Y.eA i) ((nd ns i).ah.length) ((Y.eC i)))),(Rd β ⟨(ar A),aq A+i * 10+8,none⟩ (.string (nd ns i).target)),(Rd β ⟨(ar A),aq A+i * 10+7,none⟩ (.slice (Y.dA i) ((nd ns i).data.length) ((Y.dC i)))),(Rd β ⟨(ar A),aq A+i * 10+6,none⟩ (.int .i64 ((nd ns i).nano))),(Rd β ⟨(ar A),aq A+i * 10+5,none⟩ (.int .i64 ((nd ns i).sec))),(Rd β ⟨(ar A),aq A+i * 10+4,none⟩ (.int .i64 ((nd ns i).gid))),(Rd β ⟨(ar A),aq A+i * 10+3,none⟩ (.int .i64 ((nd ns i).uid))),(Rd β ⟨(ar A),aq A+i * 10+2,none⟩ (.int .i64 ((nd ns i).mode))),(Rd β ⟨(ar A),aq A+i * 10+1,none⟩ (.int .i64 ((nd ns i).kind))),(Rd β ⟨(ar A),aq A+i * 10,none⟩ (.int .i64 ((nd ns i).id)))] ⟨au.rd hG (i:=i) (by omega) (j:=9) rfl,au.rd hG (i:=i) (by omega) (j:=8) rfl,au.rd hG (i:=i) (by omega) (j:=7) rfl,au.rd hG (i:=i) (by omega) (j:=6) rfl,au.rd hG (i:=i) (by omega) (j:=5) rfl,au.rd hG (i:=i) (by omega) (j:=4) rfl,au.rd hG (i:=i) (by omega) (j:=3) rfl,au.rd hG (i:=i) (by omega) (j:=2) rfl,au.rd hG (i:=i) (by omega) (j:=1) rfl,au.rd hG (i:=i) (by omega) (j:=0) rfl,trivial⟩),(3,A_ 8 b16 10)]) (fun _=>[]) (fun b16=>.blk b16 [vI ((nd ns i).id),vI ((nd ns i).kind),vI ((nd ns i).mode),vI ((nd ns i).uid),vI ((nd ns i).gid),vI ((nd ns i).sec),vI ((nd ns i).nano),.slice (Y.dA i) ((nd ns i).data.length) ((Y.dC i)),.string (nd ns i).target,.slice (Y.eA i) ((nd ns i).ah.length) ((Y.eC i))] 70) (fun b16=>?_)
  refine NS (gK 4 [(130,.slice (Y.eA i) ((nd ns i).ah.length) ((Y.eC i))),(131,vI ↑((nd ns i).ah.length)),(132,vI 0)] [(1,a_ 8 b16)] ?_)
  refine NN (af.block ?_)
  refine af.loop (ι:=Nat×aH) (fun ((j,S2):Nat×aH)=>(j<=(nd ns i).ah.length)/\(eY X ns i j S2)) (fun ((j,S2):Nat×aH)=>(nd ns i).ah.length - j) (fun ((j,S2):Nat×aH)=>(Jy b7 b16++OE A ns c i Y j)) (fun ((j,S2):Nat×aH)=>([rC b16 ns i Y]++wO b1 A ns c b7 m3 t4 S2 L R)) (0,S1) (idx:=[6,11,123,124,125,130,131,132]) (pk:=[8,0,1,2,3,4,5,6,7]) (show (0<=(nd ns i).ah.length)/\(eY X ns i 0 S1) from ⟨Nat.zero_le _,hE⟩) (fun _=>by kernel_rfl) rfl (by kernel_rfl) ?_
  rintro⟨j,S2⟩ ⟨hj,qz⟩
  show af _ _ _ _ (Jy b7 b16++OE A ns c i Y j) ([rC b16 ns i Y]++wO b1 A ns c b7 m3 t4 S2 L R) _
  refine SR (gK 1 [(133,.bool (decide ((((j:Nat):Int):Int) < ((((nd ns i).ah.length:Nat):Int):Int))))] [] ?_)
  refine NN (af.seq (af.aV (p:=(((j:Nat):Int):Int) < ((((nd ns i).ah.length:Nat):Int):Int)) (fun _=>by kernel_rfl) (fun UL=>?_) (fun UL=>?_)))
  ·have hj2:j < (nd ns i).ah.length:=by omega
   have hi2:i < ns.length:=by omega
   have UM:=qz.get hi2
   obtain⟨hes,hno,hk2⟩:=qz.look hok hi2 hj2
   have Rj:=s5 hok hi2 hj2
   have hgi:aE.get S2.idx (nd ns i).id=some ⟨(fk (nd ns i)),2⟩:=by rw [UM];unfold oY;rw [hk2]
   have hge:aE.get S2.idx (ent ns i j).id=some (kX ns (ent ns i j)):=by rw [← Rj.2];exact qz.get Rj.1
   have MR:=hok.ids i hi2
   have hiw:(Lit.int .i64 (nd ns i).id).wf=true:=WalkArith.wf_i64 (by omega)
   have VB:(Lit.int .i64 (ent ns i j).id).wf=true:=WalkArith.wf_i64 (by have:=hwf i hi2 j hj2;omega)
   have hld:=qz.live hok hi2
   have hlt:=qz.live hok Rj.1
   have hkd:(obj S2.O (fk (nd ns i))).kind=2:=(qz.inv.kind hld).trans hk2
   have hkt:(obj S2.O (kX ns (ent ns i j)).k).kind=(kX ns (ent ns i j)).kind:=qz.inv.kind hlt
   have h3:(kX ns (ent ns i j)).kind=1\/(kX ns (ent ns i j)).kind=2\/(kX ns (ent ns i j)).kind=3:=(qz.inv.ob _ hlt).2.2
   have hlb:0<=(obj S2.O (kX ns (ent ns i j)).k).links/\(obj S2.O (kX ns (ent ns i j)).k).links<=8192:=qz.inv.lb hlt
   have hel:(obj S2.O (fk (nd ns i))).ah.length<=8192:=qz.inv.gy hld
   have hsz:=hnm i hi2 j hj2
   have hde:=hd i hi2
   have WZ:=qz.inv.hX
   refine af.skip (NX (af.seq (af.block (SR ?_))))
   refine gN 4 (fun b17=>[(13,vP b17)]) (fun b17=>[(0,p_ ⟨[],some j,none,some ⟨(ar (Y.eA i)),aq (Y.eA i),none⟩,none⟩ [((j:Nat):Int)=((j:Nat):Int),j < (nd ns i).ah.length,(⟨(ar (Y.eA i)),aq (Y.eA i),none⟩:Addr).spot=none,((Y.eA i):Option Addr)=some ⟨(ar (Y.eA i)),aq (Y.eA i),none⟩] ⟨rfl,by omega,rfl,dN.hd (hG.ah i (by omega)) (i:=j) (by omega),trivial⟩),(1,p_ ⟨[.old (.string (en (nd ns i).ah j).name),.old (.int .i64 ((en (nd ns i).ah j).id))],none,none,none,none⟩ [(Rd β ⟨(ar (Y.eA i)),aq (Y.eA i)+j * 2+1,none⟩ (.int .i64 ((en (nd ns i).ah j).id))),(Rd β ⟨(ar (Y.eA i)),aq (Y.eA i)+j * 2,none⟩ (.string (en (nd ns i).ah j).name))] ⟨dN.rd (hG.ah i (by omega)) (i:=j) (by omega) (j:=1) rfl,dN.rd (hG.ah i (by omega)) (i:=j) (by omega) (j:=0) rfl,trivial⟩),(3,A_ 9 b17 2)]) (fun _=>[]) (fun b17=>.blk b17 [.string (en (nd ns i).ah j).name,vI ((en (nd ns i).ah j).id)] 140) (fun b17=>?_)
   refine NN (af.seq (af.bM (S:=[pF b7 m3 t4 S2.X,pI m3 L S2.idx,rC b16 ns i Y,.blk b17 [.string (en (nd ns i).ah j).name,vI ((en (nd ns i).ah j).id)] 140]) [0,1,2,3,4,5,6,7,8,9,10,11,12,13,14,15,16,17] 17 [2,3,0,9] (by kernel_rfl) (by kernel_rfl) rfl (by kernel_rfl) ?_))
   refine gR 11 [6,7,8,9,10,11,12,13,14,15,16,17] (Jy b7 b16++[(13,vP b17)]++OE A ns c i Y j++[(139,.map (some m3)),(141,vI ((nd ns i).id))]) [0,1,2,3,4,5] [(3,a_ 0 b7),(5,a_ 2 b16)] ?_
   refine aN.dR 1 (d:=(some 142)) (t:=120) (K:=3) (E:=124) (b:=m3) (cnt:=S2.idx.length) (f:=(aX (aY L S2.idx))) (x:=(.tmp 139)) (ix:=(.tmp 141)) (key:=.int .i64 ((nd ns i).id)) (z:=.nilIface) (kl:=(.int .i64 (nd ns i).id)) (q:=(some (dQ L ⟨(fk (nd ns i)),2⟩))) (by kernel_rfl) (by kernel_rfl) (fun _=>by kernel_rfl) (fun _=>by kernel_rfl) dw Tryz.underlying120 (fun _=>by kernel_rfl) (gY hiw) (by rw [fC,hgi];rfl) (by kernel_rfl) ?_
   refine gR 1 [16,17] (Jy b7 b16++OE A ns c i Y j++[(143,vP (L.b (fk (nd ns i)))),(145,.string (en (nd ns i).ah j).name),(149,.map (some m3)),(151,vI ((en (nd ns i).ah j).id))]) [7,8,9,10,11,12,13,14,15] [(2,a_ 3 b17),(6,a_ 0 b7),(8,a_ 3 b17)] ?_
   refine aN.dR 1 (d:=(some 152)) (t:=120) (K:=3) (E:=124) (b:=m3) (cnt:=S2.idx.length) (f:=(aX (aY L S2.idx))) (x:=(.tmp 149)) (ix:=(.tmp 151)) (key:=.int .i64 ((en (nd ns i).ah j).id)) (z:=.nilIface) (kl:=(.int .i64 (ent ns i j).id)) (q:=(some (dQ L (kX ns (ent ns i j))))) (by kernel_rfl) (by kernel_rfl) (fun _=>by kernel_rfl) (fun _=>by kernel_rfl) dw Tryz.underlying120 (fun _=>by kernel_rfl) (gY VB) (by rw [fC,hge];rfl) (by kernel_rfl) ?_
   refine aN.last rfl rfl ?_
   refine gL [5,7] (Hz S2.O L (fk (nd ns i)) hkd (ent ns i j).name hsz hno (by omega) (kX ns (ent ns i j)) hkt h3 (by omega)) ?_
   rintro _ _ ⟨rfl,rfl⟩
   refine NL (ai.np (NX (af.region ?_)))
   refine gC 8 [] [(3,a_ 4 b7),(4,p_ ⟨[],none,none,none,some (vI (S2.X.ah+1))⟩ [(Value.int .i64 (IntKind.wrap .i64 (S2.X.ah+1)))=(.int .i64 (S2.X.ah+1))] ⟨bn (by omega) (by omega) (by omega),trivial⟩),(7,a_ 4 b7)] [(4,[(8,vI (S2.X.ah+1))])] ?_
   refine NL (ai.aJ (NX (af.region ?_)))
   refine gK 2 [(132,vI ↑(j+1))] [(0,p_ ⟨[],none,none,none,some (vI ↑(j+1))⟩ [(Value.int .i64 (IntKind.wrap .i64 (((j:Nat):Int)+1)))=(.int .i64 ↑(j+1))] ⟨bn (by omega) (by omega) (by omega),trivial⟩)] ?_
   refine NL (ai.dx [(0,.abs (ax (bI ((kY ns S2 (nd ns i) (ent ns i j)).O) L))),(1,.abs (ax (cK ((kY ns S2 (nd ns i) (ent ns i j)).O) L))),(4,.blk b7 [vI ((kY ns S2 (nd ns i) (ent ns i j)).X.cN),vI ((kY ns S2 (nd ns i) (ent ns i j)).X.cB),vI ((kY ns S2 (nd ns i) (ent ns i j)).X.cH),vI ((kY ns S2 (nd ns i) (ent ns i j)).X.cS),vI ((kY ns S2 (nd ns i) (ent ns i j)).X.cZ),.map (some m3),vP t4,vI ((kY ns S2 (nd ns i) (ent ns i j)).X.last),vI ((kY ns S2 (nd ns i) (ent ns i j)).X.ah),vI ((kY ns S2 (nd ns i) (ent ns i j)).X.used)] 126),(5,.abs (aL Tryz.prog 3 m3 (aX (aY L (kY ns S2 (nd ns i) (ent ns i j)).idx)) ((kY ns S2 (nd ns i) (ent ns i j)).idx.length))),(6,.abs (cV 197 t4 (kY ns S2 (nd ns i) (ent ns i j)).X.cH (kY ns S2 (nd ns i) (ent ns i j)).ay (aY L (kY ns S2 (nd ns i) (ent ns i j)).us))),(7,.abs (ax (bJ ((kY ns S2 (nd ns i) (ent ns i j)).O) L)))] (fun w hS=>by rw [show bJ (kY ns S2 (nd ns i) (ent ns i j)).O L=bJ S2.O L from Pp];exact hS) ?_)
   exact ai.turn ((j+1),(kY ns S2 (nd ns i) (ent ns i j))) (idx:=[6,11,123,124,125,130,131,132]) (pk:=[2,3,4,5,6,0,7,1,8]) (show (((j+1))<=(nd ns i).ah.length)/\(eY X ns i ((j+1)) ((kY ns S2 (nd ns i) (ent ns i j)))) from ⟨by omega,qz.step hok (by omega) (by omega)⟩) (by show (nd ns i).ah.length - ((j+1)) < (nd ns i).ah.length - j;omega) (fun _=>by kernel_rfl) rfl (by kernel_rfl)
  refine af.exit (ai.aS (ai.aS (ai.cD (ai.aJ (NX (af.region ?_))))))
  refine gK 2 [(125,vI ↑(i+1))] [(0,p_ ⟨[],none,none,none,some (vI ↑(i+1))⟩ [(Value.int .i64 (IntKind.wrap .i64 (((i:Nat):Int)+1)))=(.int .i64 ↑(i+1))] ⟨bn (by omega) (by omega) (by omega),trivial⟩)] ?_
  refine NL ?_
  exact ai.turn ((i+1),S2) (idx:=[6,123,124,125]) (pk:=[1,2,3,4,5,6,7,8]) (show (((i+1))<=ns.length)/\(eY X ns ((i+1)) 0 S2) from ⟨by omega,by have h:=qz;rw [show j=(nd ns i).ah.length by omega] at h;exact h.next⟩) (by show ns.length - ((i+1)) < ns.length - i;omega) (fun _=>by kernel_rfl) rfl (by kernel_rfl)
 refine af.exit (ai.aS (ai.aS (ai.cD (NX (SR ?_)))))
 refine gK 3 [(4,vP b7),(5,vI 0)] [] ?_
 refine NN (af.ret ?_)
 exact RT (.tuple #[vP b7,vI 0]) [1,2,3,4,5,6,7] (.inr (.inr ⟨hcap,hok,S1,b7,m3,t4,L,by have h:=hE;rw [show i=ns.length by omega] at h;exact h,rfl,rfl⟩))
end
section
open Go.RowKit Go.Maps bD aE
theorem Ng {b:UInt8} (h0:¬ b=0) (h1:¬ b=47) (h2:¬ b=46):bG ⟨#[b]⟩:=by
  refine⟨Nat.le_refl _,(by show 1<=255;decide),fun e=>h2 ?_,fun e=>?_,fun j hj=>?_⟩
  ·injection e with e
   have e:[b]=[46]:=congrArg Array.toList e
   injection e
  ·injection e with e
   have e:[b]=[46,46]:=congrArg Array.toList e
   injection e with _ e
   cases e
  have:j=0:=by have hj:j < 1:=hj;omega
  subst this
  show ¬ b.toNat=0/\¬ b.toNat=47
  exact⟨fun e=>h0 (UInt8.toNat_inj.1 e),fun e=>h1 (UInt8.toNat_inj.1 e)⟩
theorem DI:dU 0 0:=⟨by decide,by decide,by decide,by decide,by decide⟩
def FU (room:Int):FM:=⟨9,room,9,0,0,0,0,0⟩
theorem Pt {room:Int} (h:0<=room/\room<=1099511627776):jC (FU room):=⟨by show (0:Int)<=9/\(9:Int)<=4096;decide,h,by show (0:Int)<=9/\(9:Int)<=1024;decide,DI⟩
section ops
variable {S:aH} {c:aF} {t:Th} {d:Nat}
theorem Nh {O:bT} {us:Used Th} {h:Int} {name:ByteArray} {need:Int} (h1:aE.get us h=some t) (h2:t.kind=2) (h3:(obj O t.k).gone=false) (h4:bG name) (h5:bits BinOp.and .i64 (obj O t.k).mode need=need):dX O us h name need=.ok t.k:=by
  unfold dX
  rw [h1]
  simp only
  rw [if_pos h2,if_neg (by rw [h3];decide),if_pos h4,if_pos h5]
theorem Pu (hop:c.op=1) (h1:aE.get S.idx c.other=some t) (h2:t.kind=2) (h3:(S.us.length:Int) < S.X.cH):cA S c=({ S with O:=aD S.O t.k (fun o=>{ o with opens:=o.opens+1 }),us:=ins (least S.us) t S.us,ay:=max S.ay ((S.us.length:Int)+1) },{ c with answer:=least S.us,code:=0 }):=by
  unfold cA
  rw [tV (by exact hop)]
  unfold jl
  simp only
  rw [h1]
  simp only
  rw [if_pos h2,kf h3]
theorem Ni (hop:c.op=4) (ha:dX S.O S.us c.handle c.name 192=.ok d) (hm:nJ c.mode) (hl:aT c.name (obj S.O d).ah=none) (hr:Room S.X S.idx):cA S c=(d9 S d c.name (aU S.X 2 c.mode),{ c with answer:=0,code:=0 }):=by
  unfold cA
  rw [tW (by exact hop)]
  unfold fP
  simp only
  rw [ha]
  simp only
  rw [if_pos hm]
  unfold fq ck
  rw [if_pos hl,if_pos hr,if_pos rfl]
end ops
structure Ww (room:Int) (S:aH):Prop where
  inv:Inv S
  idx:S.idx=[(1,⟨1,2⟩),(2,⟨2,1⟩)]
  us:S.us=[]
  X:S.X=⟨9,room,9,0,0,2,1,0⟩
  o1:∃ l u,obj S.O 1=⟨1,493,0,0,0,0,l,0,false,2,[],⟨#[]⟩,[(⟨#[102]⟩,⟨2,1⟩)],u⟩
  o2:∃ u,obj S.O 2=⟨2,420,0,0,0,0,1,0,false,1,[],⟨#[]⟩,[],u⟩
theorem Rk:bG ⟨#[100]⟩:=Ng (by decide) (by decide) (by decide)
theorem Rl:bits BinOp.and .i64 493 192=192:=by kernel_rfl
section chain
variable {room:Int} {S:aH}
def S1 (S:aH):aH:={ S with O:=aD S.O 1 (fun o=>{ o with opens:=o.opens+1 }),us:=[(1,⟨1,2⟩)],ay:=max S.ay 1 }
theorem UN:obj (S1 S).O 1={ obj S.O 1 with opens:=(obj S.O 1).opens+1 }:=rfl
structure W4 (room:Int) (ds:List UInt8) (S:aH):Prop where
  inv:Inv S
  idx:S.idx=[(1,⟨1,2⟩),(2,⟨2,1⟩)]
  us:S.us=[(1,⟨1,2⟩),(2,⟨2,1⟩)]
  X:S.X=⟨9,room,9,0,0,2,1,ds.length⟩
  o1:∃ l n u,obj S.O 1=⟨1,493,0,0,0,0,l,n,false,2,[],⟨#[]⟩,[(⟨#[102]⟩,⟨2,1⟩)],u⟩
  o2:∃ u,obj S.O 2=⟨2,420,0,0,0,0,1,1,false,1,ds,⟨#[]⟩,[],u⟩
structure W5 (ds:List UInt8) (S:aH):Prop where
  inv:Inv S
  idx:S.idx=[(1,⟨1,2⟩),(2,⟨2,1⟩)]
  us:S.us=[(1,⟨1,2⟩),(2,⟨2,1⟩)]
  used:S.X.used=ds.length
  o2:∃ s z u,obj S.O 2=⟨2,420,0,0,s,z,0,1,true,1,ds,⟨#[]⟩,[],u⟩
end chain
end
section
open Go.RowKit Go.Maps bD aE
attribute [local irreducible] aj aP af ai
theorem BP {β:Bs} (A:Option Addr) (c:Nat) (d:List UInt8) (hA:bA β A d) (hl:d.length<=1048576) :
    Spec Tryz.prog β 43 #[.slice A d.length c] [] (fun v l=>∃ B cap,v=.slice B d.length cap/\l=[.abs (aK 5 1 B d.length cap (bY d))]):=by
 refine Spec.enter Tryz.func43 rfl Tryz.ntmps43 (Nat.le_of_ble_eq_true rfl) (fun R=>?_)
 refine SR (gK 1 [] [] ?_)
 refine NS (gN 2 (fun b1=>[(3,.slice (some ⟨b1,0,none⟩) (0) (0))]) (fun _=>[]) (fun _=>[]) (fun b1=>.blk b1 [] 5) (fun b1=>?_))
 refine NS (aj.mem (fun w hS=>hS.rH (i:=1) (b:=b1) (cs:=[]) (e:=5) 1 0 (by kernel_rfl) rfl (by decide)) ?_)
 refine gK 2 [(5,.slice (some ⟨b1,0,none⟩) (0) (0)),(6,.slice A (d.length) (c))] [] ?_
 refine aj.append 1 (d:=(some 7)) (t:=46) (e:=5) (z:=.int .u8 0) (size:=1) (bytes:=1) (n:=0) (cap:=0) (A:=some ⟨b1,0,none⟩) (xs:=[]) (s:=(.tmp 5)) (x:=(.tmp 6)) (ats:=#[46,46]) (A':=A) (m:=d.length) (c':=c) (news:=(bY d)) (fun _=>by kernel_rfl) rfl (by kernel_rfl) (fun _=>by kernel_rfl) (fun _=>by kernel_rfl) Tryz.underlying46 (by kernel_rfl) rfl (by decide) (by rw [rI,Nat.mul_one]) (nO d) (hA.src) (by unfold maxLen;omega) (by omega) (fun A2 c3=>?_)
 refine aj.dm 1 (p:=.abs (aK 5 1 A2 (0+d.length) c3 ([]++(bY d)))) (p':=.abs (aK 5 1 A2 d.length c3 (bY d))) (by kernel_rfl) (by rw [Nat.zero_add,List.nil_append]) ?_
 refine aj.slot 7 (.slice A2 (0+d.length) (c3)) (.slice A2 (d.length) (c3)) (fun _=>by kernel_rfl) (by rw [Nat.zero_add]) ?_
 refine gK 1 [(3,.slice A2 (d.length) (c3))] [] ?_
 refine NS (gK 2 [(2,.slice A2 (d.length) (c3))] [] ?_)
 refine NN (af.ret ?_)
 exact RT (.slice A2 (d.length) (c3)) [1,0] (⟨A2,c3,rfl,rfl⟩)
end
section
open Go.RowKit Go.Maps bD aE
theorem Spec.Jz {P:Program} {β:Bs} {f:FuncId} {args:Array Value} {pre:List HP} {post:Value->List HP->Prop} {Ψ:Bs->Value->List HP->Prop} (h:Spec P β f args pre post) (wU:∀ v l,post v l->∃ l1 l2,l=l1++l2/\∀ β',qU β l2 β'->Ψ β' v l1):cC P β f args pre Ψ:=by
  intro A w hS
  refine (h A w hS).mono ?_
  rintro e w' ⟨v,l,h1,h2,h3⟩
  obtain⟨l1,l2,rfl,hl⟩:=wU v l h2
  have h4:Sat β (([.abs A]++l1)++l2) w':=by rw [List.append_assoc];exact Sat.turn h3
  obtain⟨β',g1,_,g3⟩:=h4.Cq
  exact⟨β',v,l1,g1.le,h1,hl β' g1,Sat.turn g3⟩
section c
variable {β:Bs} {S S2:aH} {L:HL} {f m t:Nat} {c c2:aF}
theorem D4 (A:Option Addr) (cp:Nat) (d:List UInt8) (hA:bA β A d) (hl:d.length<=1048576):cC Tryz.prog β 43 #[.slice A d.length cp] [] (fun β' v l=>∃ B cap,v=.slice B d.length cap/\l=[]/\bA β' B d/\d.length<=cap):=
  (BP A cp d hA hl).Jz (by
    rintro v l ⟨B,cap,rfl,rfl⟩
    refine⟨[],_,rfl,fun β' h=>⟨B,cap,rfl,rfl,h.bytes,?_⟩⟩
    obtain⟨F,h1,_⟩:=h.get 0 rfl
    exact (aK.len h1).2)
end c
end
section
open Go.RowKit Go.Maps bD aE
section at_
variable {S:aH} {i j:Nat}
theorem ju (hi:i < S.idx.length):nd (av S) i=rQ S.O (cJ S i) (fJ S i):=by
  unfold nd av
  rw [List.getD_eq_getElem?_getD,List.getElem?_map,sV hi];rfl
theorem Pv (h:Inv0 S) (hij:i < j) (hj:j < S.idx.length):cJ S i < cJ S j:=by
  have h1:=Fe (S:=S) (show i < S.idx.length by omega)
  have h2:=Fe hj
  obtain⟨g1,e1⟩:=List.getElem?_eq_some_iff.1 h1
  obtain⟨g2,e2⟩:=List.getElem?_eq_some_iff.1 h2
  have:=List.pairwise_iff_getElem.1 h.rise i j g1 g2 hij
  rw [e1,e2] at this
  exact this
theorem BQ (h:Inv0 S):ct (av S):=fun i j hij hj=>by
  rw [iC] at hj
  rw [ju (by omega),ju hj]
  exact Pv h hij hj
theorem Rm {t:Th} (hl:Live S.idx t):∃ i,i < S.idx.length/\fJ S i=t/\cJ S i=(t.k:Int):=by
  obtain⟨i,hi,e⟩:=List.getElem_of_mem (get_mem hl)
  have h1:=sV hi
  rw [List.getElem?_eq_getElem hi,e] at h1
  injection h1 with h1
  injection h1 with h1 h2
  exact⟨i,hi,h2.symm,h1.symm⟩
theorem Rn (hi:i < S.idx.length) (hj:j < (nd (av S) i).ah.length):j < (obj S.O (fJ S i).k).ah.length/\ent (av S) i j=⟨eU (obj S.O (fJ S i).k).ah j,(obj S.O (qV (obj S.O (fJ S i).k).ah j).k).id⟩:=by
  rw [ju hi] at hj
  have hj:j < ((obj S.O (fJ S i).k).ah.map (jP S.O)).length:=hj
  rw [List.length_map] at hj
  refine⟨hj,?_⟩
  unfold ent en
  rw [ju hi]
  show ((obj S.O (fJ S i).k).ah.map (jP S.O)).getD j default=_
  rw [List.getD_eq_getElem?_getD,List.getElem?_map,yO hj];rfl
theorem Nj (h:Inv0 S) (hi:i < S.idx.length) (hj:j < (obj S.O (fJ S i).k).ah.length):Live S.idx (qV (obj S.O (fJ S i).k).ah j)/\bG (eU (obj S.O (fJ S i).k).ah j)/\aT (eU (obj S.O (fJ S i).k).ah j) (obj S.O (fJ S i).k).ah=some (qV (obj S.O (fJ S i).k).ah j)/\(fJ S i).kind=2:=by
  have hl:=(oG h hi).1
  have hm:=List.mem_of_getElem? (yO hj)
  have h1:=h.ah _ hl _ hm
  refine⟨h1.2,h1.1,sJ (h.twice hl) hm,Classical.byContradiction fun hk=>?_⟩
  rw [(h.mt _ hl).ah (by rw [h.kind hl];exact hk)] at hj
  exact absurd hj (Nat.not_lt_zero j)
theorem Le (h:Inv0 S) (hi:i < S.idx.length) (hj:j < (nd (av S) i).ah.length):∃ a,a < S.idx.length/\fJ S a=qV (obj S.O (fJ S i).k).ah j/\tgt (av S) (ent (av S) i j).id=a/\jL (av S) (ent (av S) i j).id=(a:Int):=by
  obtain⟨hj2,e⟩:=Rn hi hj
  have hl:=(Nj h hi hj2).1
  obtain⟨a,ha,h1,h2⟩:=Rm hl
  have h3:jL (av S) (ent (av S) i j).id=(a:Int):=EA (BQ h) (by rw [iC];exact ha) (by
    rw [ju ha,e]
    show cJ S a=(obj S.O _).id
    rw [h2,(h.ob _ hl).1])
  exact⟨a,ha,h1,by unfold tgt;rw [h3];rfl,h3⟩
end at_
end
section
open Go.RowKit bD aE Go.Maps
section ints
variable {β:Bs} {A:Option Addr} {l:List Int} {j:Nat}
theorem yT.get (h:cE β A (ints l)) (hj:j < l.length):A=some ⟨ar A,aq A,none⟩/\Rd β ⟨ar A,aq A+j * 1,none⟩ (.int .i64 (l.getD j 0)):=by
  rw [Nat.mul_one]
  refine h j _ ?_
  unfold ints
  rw [List.getElem?_map,List.getElem?_eq_getElem hj,List.getD_eq_getElem?_getD,List.getElem?_eq_getElem hj];rfl
theorem yT.hd (h:cE β A (ints l)) (hj:j < l.length):A=some ⟨ar A,aq A,none⟩:=(yT.get h hj).1
theorem yT.rd (h:cE β A (ints l)) (hj:j < l.length):Rd β ⟨ar A,aq A+j * 1,none⟩ (.int .i64 (l.getD j 0)):=(yT.get h hj).2
end ints
theorem FV {S:aH} (h:Inv0 S):∀ i,i < (av S).length->(nd (av S) i).data.length<=140737488355328/\(nd (av S) i).ah.length<=1048576:=fun i hi=>by
  rw [iC] at hi
  have h1:(obj S.O (fJ S i).k).data.length<=bytes S.idx S.O:=lY (g:=fun p:Int×Th=>(obj S.O p.2.k).data.length) (get_at h hi)
  have h2:(obj S.O (fJ S i).k).ah.length<=tot S.idx S.O:=lY (g:=fun p:Int×Th=>(obj S.O p.2.k).ah.length) (get_at h hi)
  have h3:=h.used
  have h4:=h.total
  rw [ju hi]
  refine⟨by show (obj S.O (fJ S i).k).data.length<=_;omega,?_⟩
  show ((obj S.O (fJ S i).k).ah.map _).length<=_
  rw [List.length_map]
  omega
theorem wQ {β:Bs} (A:Option Addr) (c:Nat) (ns:List aB) (L:Lay) (hG:au β A ns L) (hl:ns.length<=1048576) (hd:∀ i,i < ns.length->(nd ns i).data.length<=1048576/\(nd ns i).ah.length<=1048576) :
    Spec Tryz.prog β 22 #[.agg #[.slice A ns.length c]] [] (fun v l=>∃ B cap,v=.agg #[.slice B ns.length cap]/\l=[.abs (kW β (fun β'=>∃ K,au β' B ns K))]):=
  (cC.Oc (ι:=Option Addr×Nat) (vv:=fun x=>.agg #[.slice x.1 ns.length x.2]) (ll:=fun _=>[]) (Φ:=fun x β'=>∃ K,au β' x.1 ns K)
    ((xg A c ns L hG hl hd).mono (by rintro β' v l _ ⟨B,cap,K,rfl,rfl,h⟩;exact⟨(B,cap),rfl,rfl,K,h⟩))).mono (by rintro v l ⟨⟨B,cap⟩,rfl,rfl⟩;exact⟨B,cap,rfl,rfl⟩)
end
section
open Go.RowKit bD aE Go.Maps
abbrev tF (X:FM) (ns:List aB):={ S:aH // eY X ns ns.length 0 S }
theorem zV (us:Used Th):us.length=(keys us).length:=(List.length_map ..).symm
theorem Nk {S:aH} (h:Inv0 S):(av S).length<=1048576:=by
  rw [iC]
  have:=h.len
  omega
end
section
open Go.RowKit Go.Maps bD aE
section m
variable {β:Bs} {ns:List aB} {Y:Lay} {X:FM} {root:Int}
theorem Nl (hcap:jC X) (hok:bh ns) (A:Option Addr) (c:Nat) (hG:au β A ns Y) (hB:eV ns 1048576) :
    Spec Tryz.prog β 21 #[.agg #[.slice A ns.length c],.agg #[.int .i64 X.cN,.int .i64 X.cB,.int .i64 X.cH,.int .i64 X.cS,.int .i64 X.cZ]] [] (fun v l=>∃ (S:tF X ns) (f m t:Nat) (L:HL),v=.tuple #[.pointer (some ⟨f,0,none⟩),.int .i64 0]/\l=pA f m t L S.1):=
  (H9 A c ns Y hG (tS hB) (Bb hB) (J7 hB) (J8 hB) X).mono (by
    rintro v l (⟨h,_⟩|⟨_,h,_⟩|⟨_,_,h⟩)
    ·exact absurd hcap h
    ·exact absurd hok h
    obtain⟨S,f,m,t,L,h1,h2,h3⟩:=h
    exact⟨⟨S,h1⟩,f,m,t,L,h2,h3⟩)
theorem Nn (Np:¬ (jC X/\bh ns)) (A:Option Addr) (c:Nat) (hG:au β A ns Y) (hB:eV ns 1048576) :
    Spec Tryz.prog β 21 #[.agg #[.slice A ns.length c],.agg #[.int .i64 X.cN,.int .i64 X.cB,.int .i64 X.cH,.int .i64 X.cS,.int .i64 X.cZ]] [] (fun v l=>v=.tuple #[.pointer none,.int .i64 (cT X ns root)]/\l=[]):=
  (H9 A c ns Y hG (tS hB) (Bb hB) (J7 hB) (J8 hB) X).mono (by
    rintro v l (⟨h,h1,h2⟩|⟨h,h',h1,h2⟩|⟨h1,h2,_⟩)
    ·exact⟨by rw [BB h];exact h1,h2⟩
    ·exact⟨by rw [xY h h'];exact h1,h2⟩
    exact absurd ⟨h1,h2⟩ Np)
theorem BR (Np:¬ (jC X/\bh ns)):cT X ns root≠0:=fun h=>Np (xZ h)
theorem Lf {i:Nat} (hi:tf ns root i) (A:Option Addr) (c:Nat) (hG:au β A ns Y) (hB:eV ns 1048576) (b:Nat) :
    Spec Tryz.prog β 81 #[.slice A ns.length c,.func (.func 82) #[] #[.pointer (some ⟨b,0,none⟩)]] [.blk b [.int .i64 root] 3] (fun v l=>v=.int .i64 (i:Int)/\l=[.blk b [.int .i64 root] 3]):=
  (Fs A c ns Y hG (tS hB) b root).mono (by
    rintro v l (⟨j,hj,h1,h2⟩|⟨h,_⟩)
    ·have e:i=j:=by
       obtain⟨a1,a2,a3⟩:=hi
       obtain⟨b1,b2,b3⟩:=hj
       rcases Nat.lt_trichotomy i j with h|h|h
       ·exact absurd a2 (b3 i h)
       ·exact h
       exact absurd b2 (a3 j h)
     subst e
     exact⟨h1,h2⟩
    exact absurd hi.2.1 (h i hi.1))
theorem Nq (hi:∀ q,q < ns.length->(nd ns q).id≠root) (A:Option Addr) (c:Nat) (hG:au β A ns Y) (hB:eV ns 1048576) (b:Nat) :
    Spec Tryz.prog β 81 #[.slice A ns.length c,.func (.func 82) #[] #[.pointer (some ⟨b,0,none⟩)]] [.blk b [.int .i64 root] 3] (fun v l=>v=.int .i64 (-1)/\l=[.blk b [.int .i64 root] 3]):=
  (Fs A c ns Y hG (tS hB) b root).mono (by
    rintro v l (⟨j,hj,_⟩|⟨_,h1,h2⟩)
    ·exact absurd hj.2.1 (hi j hj.1)
    exact⟨h1,h2⟩)
end m
end
section
open Go.RowKit Go.Maps bD aE
attribute [local irreducible] aj aP af ai
noncomputable abbrev VD (w)(f:Nat) (o) (root):=(.blk w [.iface 42 (vP w),vP f,.iface 180 (vP o),vI (root),.slice none (0) (0)] 93:HP)
noncomputable abbrev VE (o)(q)(f:Nat) (root) (am):=(.blk o [.iface 181 (vP q),vP f,vI (root),.map (some am),vI 0] 185:HP)
noncomputable abbrev DJ (b4:Nat) (Af) (fs:List bP) (cf) (Aa) (xs:List cO) (ca):=(.blk b4 [.slice Af (fs.length) (cf),.slice Aa (xs.length) (ca)] 32:HP)
noncomputable abbrev Ia (m5:Nat) (Z) (xs:List cO) (i:Nat) (an):=(.abs (aL Tryz.prog 3 m5 (fQ Z (xs.take i)) an):HP)
noncomputable abbrev Lg (b6:Nat) (xs) (i:Nat):=(.blk b6 [vI ((act xs i).at_),vI ((act xs i).op),.string (act xs i).path,.string (act xs i).to,.string (act xs i).text] 41:HP)
noncomputable abbrev Ro (b2:Nat) (b4:Nat) (f:Nat) (m5:Nat):=([(5,vP b2),(7,vP b4),(10,vP f),(13,.map (some m5))]:Fr)
noncomputable abbrev OG (Aa)(xs:List cO) (ca):=([(44,.slice Aa (xs.length) (ca)),(45,vI ↑xs.length)]:Fr)
noncomputable abbrev TK (b2:Nat) (f:Nat) (m5:Nat) (m11:Nat) (Af) (fs:List bP) (cf) (j:Nat):=([(5,vP b2),(10,vP f),(13,.map (some m5)),(16,.map (some m11)),(63,.slice Af (fs.length) (cf)),(64,vI ↑fs.length),(65,vI ↑j)]:Fr)
noncomputable abbrev TL (w)(f:Nat) (o) (root) (q) (am) (km) (Z) (xs) (an) (fs) (kn):=([VD w f o root,VE o q f root am,.blk q [.iface 54 (vP f),.map (some km),vI 0] 183,.abs (aL Tryz.prog 3 am (fQ Z xs) an),.abs (aL Tryz.prog 3 km (eu fs) kn),.abs (aK 48 13 none 0 0 ([]))]:List HP)
theorem Nr {β:Bs} (A:Option Addr) (c:Nat) (ns:List aB) (Y:Lay) (hG:au β A ns Y) (hB:eV ns 1048576) (X:FM) (root:Int) (Af:Option Addr) (cf:Nat) (fs:List bP) (hF:cE β Af (bS eX fs)) (lV:ig fs 2097152) (Aa:Option Addr) (ca:Nat) (xs:List cO) (hA:cE β Aa (bS fT xs)) (hab:ja xs 1048576) :
    cC Tryz.prog β 37 #[.agg #[.slice A (ns.length) (c)],vI (root),.agg #[vI (X.cN),vI (X.cB),vI (X.cH),vI (X.cS),vI (X.cZ)],.agg #[.slice Af (fs.length) (cf),.slice Aa (xs.length) (ca)]] [] (fun β' v l=>(cT X ns root≠0/\v=.tuple #[.pointer none,vI (cT X ns root)]/\l=[])\/(cT X ns root=0/\∃ (N:tF X ns) (L:HL) (w o q f m t am an km kn:Nat) (Z:AZ),v=.tuple #[vP w,vI 0]/\l=(TL w f o root q am km Z xs an fs kn++[pF f m t N.1.X,pI m L N.1.idx,pT t N.1.X.cH N.1.ay L N.1.us,pO N.1.O L,pD N.1.O L,pE N.1.O L])/\jX β' Z xs)):=by
 have hfl:=lV.len
 have hxl:=hab.len
 refine cC.enter Tryz.func37 rfl Tryz.ntmps37 (Nat.le_of_ble_eq_true rfl) (fun hle0 R=>?_)
 refine SR (gN 1 (fun b1=>[(4,vP b1)]) (fun _=>[]) (fun _=>[]) (fun b1=>.blk b1 [.slice A (ns.length) (c)] 24) (fun b1=>?_))
 refine gN 1 (fun b2=>[(5,vP b2)]) (fun _=>[]) (fun _=>[]) (fun b2=>.blk b2 [vI (root)] 3) (fun b2=>?_)
 refine gN 1 (fun b3=>[(6,vP b3)]) (fun _=>[]) (fun _=>[]) (fun b3=>.blk b3 [vI (X.cN),vI (X.cB),vI (X.cH),vI (X.cS),vI (X.cZ)] 28) (fun b3=>?_)
 refine gN 3 (fun b4=>[(7,vP b4)]) (fun _=>[]) (fun _=>[]) (fun b4=>.blk b4 [.slice Af (fs.length) (cf),.slice Aa (xs.length) (ca)] 32) (fun b4=>?_)
 refine NN (af.seq ?_)
 by_cases oh:jC X/\bh ns
 ·refine af.region (gK 2 [(21,.agg #[.slice A (ns.length) (c)]),(22,.agg #[vI (X.cN),vI (X.cB),vI (X.cH),vI (X.cS),vI (X.cZ)])] [(0,a_ 1 b1),(1,A_ 3 b3 5)] ?_)
  refine gL [] (Nl (β:=β) oh.1 oh.2 A c hG hB) ?_
  rintro _ _ ⟨N,f,m,t,L,rfl,rfl⟩
  refine gK 5 [(10,vP f),(11,vI 0)] [] ?_
  refine NN (af.seq (SR (gK 2 [(27,.bool false)] [] ?_)))
  refine NN (CF (af.skip (NX (af.seq ?_))))
  rcases Fq ns root with ⟨r,hr⟩|hno
  ·have hr1:r < ns.length:=hr.1
   refine af.region (gK 3 [(30,.slice A (ns.length) (c)),(31,.func (.func 82) #[] #[vP b2])] [(1,a_ 7 b1)] ?_)
   refine gL [8] (Lf (β:=β) hr A c hG hB b2) ?_
   rintro _ _ ⟨rfl,rfl⟩
   refine gK 1 [(12,vI ↑r)] [] ?_
   refine NN (af.seq (SR (gK 2 [(34,.bool false)] [(1,p_ ⟨[],none,none,none,some (.bool false)⟩ [(Value.bool (decide ((((r:Nat):Int):Int) < (0:Int))))=(.bool false)] ⟨congrArg Value.bool (decide_eq_false (by omega)),trivial⟩)] ?_)))
   refine NN (CF (af.skip (NX (af.seq (SR (gK 7 [(41,.bool (!(decide (((nd ns r).kind:Int)=(2:Int)))))] [(1,a_ 8 b1),(3,p_ ⟨[],some r,none,some ⟨(ar A),aq A,none⟩,none⟩ [((r:Nat):Int)=((r:Nat):Int),r < ns.length,(⟨(ar A),aq A,none⟩:Addr).spot=none,(A:Option Addr)=some ⟨(ar A),aq A,none⟩] ⟨rfl,by omega,rfl,au.hd hG (i:=r) (by omega),trivial⟩),(5,p_ ⟨[.old (.int .i64 ((nd ns r).kind))],none,none,none,none⟩ [(Rd β ⟨(ar A),aq A+r * 10+1,none⟩ (.int .i64 ((nd ns r).kind)))] ⟨au.rd hG (i:=r) (by omega) (j:=1) rfl,trivial⟩)] ?_))))))
   refine NN (af.cX (p:=((nd ns r).kind:Int)=(2:Int)) (fun _=>by kernel_rfl) (fun BN=>?_) (fun BN=>?_))
   ·refine SR (gK 2 [(8,.pointer none),(9,vI 173)] [] ?_)
    refine NN (af.ret (ai.ak ?_))
    exact ai.nQ (v:=.tuple #[.pointer none,vI 173]) (l:=[]) (bC:=[]) [] [7] hle0 (fun _=>by kernel_rfl) trivial rfl (by kernel_rfl) (.inl ⟨by rw [wm oh.1 oh.2 hr BN];decide,by rw [wm oh.1 oh.2 hr BN],rfl⟩)
   refine af.skip (NX (SR (aj.kO (d:=(some 42)) (t:=178) (fun _=>by kernel_rfl) Tryz.prog rfl 3 (fun m5=>?_))))
   refine gK 1 [(13,.map (some m5))] [] ?_
   refine NN (af.seq (SR (aj.dm 11 (p:=.abs (aL Tryz.prog 3 m5 (fun _=>none) 0)) (p':=.abs (aL Tryz.prog 3 m5 (fQ AZ.none (xs.take 0)) 0)) (by kernel_rfl) (congrArg (fun f=>HP.abs (aL Tryz.prog 3 _ f 0)) MO.symm) ?_)))
   refine aj.mem (cR:=[tj b2 root,pF f m t N.1.X,pI m L N.1.idx,pT t N.1.X.cH N.1.ay L N.1.us,pO N.1.O L,pD N.1.O L,pE N.1.O L,.abs R,qQ b1 A ns c,rB b3 X,DJ b4 Af fs cf Aa xs ca,.abs (aL Tryz.prog 3 m5 (fQ AZ.none (xs.take 0)) 0),.abs (ax (mG AZ.none (xs.take 0)))]) (fun w hS=>hS.QJ) ?_
   refine gK 4 (OG Aa xs ca++[(46,vI 0)]) [(1,a_ 10 b4)] ?_
   refine NN (af.block ?_)
   refine af.loop (ι:=Nat×AZ×Nat) (fun ((i,Z,an):Nat×AZ×Nat)=>(i<=xs.length)/\(an<=i)) (fun ((i,Z,an):Nat×AZ×Nat)=>xs.length - i) (fun ((i,Z,an):Nat×AZ×Nat)=>(Ro b2 b4 f m5++OG Aa xs ca++[(46,vI ↑i)])) (fun ((i,Z,an):Nat×AZ×Nat)=>[tj b2 root,pF f m t N.1.X,pI m L N.1.idx,pT t N.1.X.cH N.1.ay L N.1.us,pO N.1.O L,pD N.1.O L,pE N.1.O L,qQ b1 A ns c,rB b3 X,DJ b4 Af fs cf Aa xs ca,Ia m5 Z xs i an,.abs (ax (mG Z (xs.take i))),.abs R]) (0,AZ.none,0) (idx:=[5,7,10,13,44,45,46]) (pk:=[0,1,2,3,4,5,6,8,9,10,11,12,7]) (show (0<=xs.length)/\(0<=0) from ⟨Nat.zero_le _,Nat.le_refl _⟩) (fun _=>by kernel_rfl) rfl (by kernel_rfl) ?_
   rintro⟨i,Z,an⟩ ⟨hi,han⟩
   show af _ _ _ _ (Ro b2 b4 f m5++OG Aa xs ca++[(46,vI ↑i)]) [tj b2 root,pF f m t N.1.X,pI m L N.1.idx,pT t N.1.X.cH N.1.ay L N.1.us,pO N.1.O L,pD N.1.O L,pE N.1.O L,qQ b1 A ns c,rB b3 X,DJ b4 Af fs cf Aa xs ca,Ia m5 Z xs i an,.abs (ax (mG Z (xs.take i))),.abs R] _
   refine SR (gK 1 [(47,.bool (decide ((((i:Nat):Int):Int) < (((xs.length:Nat):Int):Int))))] [] ?_)
   refine NN (af.seq (af.aV (p:=(((i:Nat):Int):Int) < (((xs.length:Nat):Int):Int)) (fun _=>by kernel_rfl) (fun OI=>?_) (fun OI=>?_)))
   ·refine af.skip (NX (af.seq (af.block (SR ?_))))
    refine gN 4 (fun b6=>[(15,vP b6)]) (fun b6=>[(0,p_ ⟨[],some i,none,some ⟨(ar Aa),aq Aa,none⟩,none⟩ [((i:Nat):Int)=((i:Nat):Int),i < xs.length,(⟨(ar Aa),aq Aa,none⟩:Addr).spot=none,(Aa:Option Addr)=some ⟨(ar Aa),aq Aa,none⟩] ⟨rfl,by omega,rfl,Oa hA (i:=i) (by omega),trivial⟩),(1,p_ ⟨[.old (.int .i64 ((act xs i).at_)),.old (.int .i64 ((act xs i).op)),.old (.string (act xs i).path),.old (.string (act xs i).to),.old (.string (act xs i).text)],none,none,none,none⟩ [(Rd β ⟨(ar Aa),aq Aa+i * 5+4,none⟩ (.string (act xs i).text)),(Rd β ⟨(ar Aa),aq Aa+i * 5+3,none⟩ (.string (act xs i).to)),(Rd β ⟨(ar Aa),aq Aa+i * 5+2,none⟩ (.string (act xs i).path)),(Rd β ⟨(ar Aa),aq Aa+i * 5+1,none⟩ (.int .i64 ((act xs i).op))),(Rd β ⟨(ar Aa),aq Aa+i * 5,none⟩ (.int .i64 ((act xs i).at_)))] ⟨qt hA (i:=i) (by omega) (j:=4) rfl,qt hA (i:=i) (by omega) (j:=3) rfl,qt hA (i:=i) (by omega) (j:=2) rfl,qt hA (i:=i) (by omega) (j:=1) rfl,qt hA (i:=i) (by omega) (j:=0) rfl,trivial⟩),(3,A_ 13 b6 5)]) (fun _=>[]) (fun b6=>.blk b6 [vI ((act xs i).at_),vI ((act xs i).op),.string (act xs i).path,.string (act xs i).to,.string (act xs i).text] 41) (fun b6=>?_)
    refine NN (af.bM (S:=[Ia m5 Z xs i an,Lg b6 xs i]) [0,1,2,3,4,5,6,7,8,9,10] 8 [10,13] (by kernel_rfl) (by kernel_rfl) rfl (by kernel_rfl) ?_)
    refine gR 2 [6,7,8,9,10] (Ro b2 b4 f m5++[(15,vP b6)]++OG Aa xs ca++[(46,vI ↑i),(50,.map (some m5)),(52,vI ((act xs i).at_)),(53,.map (some m5)),(55,vI ((act xs i).at_))]) [0,1,2,3,4,5] [(2,a_ 1 b6),(5,a_ 1 b6)] ?_
    refine aN.dR 0 (d:=(some 56)) (t:=178) (K:=3) (E:=30) (b:=m5) (cnt:=an) (f:=(fQ Z (xs.take i))) (x:=(.tmp 53)) (ix:=(.tmp 55)) (key:=.int .i64 ((act xs i).at_)) (z:=.slice none (0) (0)) (kl:=(Lit.int IntKind.i64 (act xs i).at_)) (q:=(fQ Z (xs.take i) (Lit.int IntKind.i64 (act xs i).at_))) (by kernel_rfl) (by kernel_rfl) (fun _=>by kernel_rfl) (fun _=>by kernel_rfl) dw Tryz.underlying178 (fun _=>by kernel_rfl) (gY (hab.at (by omega)).aw) (rfl) (by rw [Ac];rfl) ?_
    refine gR 0 [8,9,10] [(5,vP b2),(7,vP b4),(10,vP f),(13,.map (some m5)),(44,.slice Aa (xs.length) (ca)),(45,vI ↑xs.length),(46,vI ↑i),(50,.map (some m5)),(52,vI ((act xs i).at_)),(56,((fQ Z (xs.take i) (Lit.int IntKind.i64 (act xs i).at_)).getD (.slice none 0 0))),(57,.agg #[vI ((act xs i).at_),vI ((act xs i).op),.string (act xs i).path,.string (act xs i).to,.string (act xs i).text])] [7] [(0,A_ 1 b6 5)] ?_
    refine mN [10,13] (fun b7=>[(58,.slice (some ⟨b7,0,none⟩) (1) (1))]) (fun _=>[]) (fun b7=>.blk b7 [vI ((act xs i).at_),vI ((act xs i).op),.string (act xs i).path,.string (act xs i).to,.string (act xs i).text] 41) (fun b7=>?_)
    refine aN.cut (ι:=(Option Addr)×Nat) (fr':=fun ((A8,c9):(Option Addr)×Nat)=>[(5,vP b2),(7,vP b4),(10,vP f),(13,.map (some m5)),(44,.slice Aa (xs.length) (ca)),(45,vI ↑xs.length),(46,vI ↑i),(50,.map (some m5)),(52,vI ((act xs i).at_)),(59,.slice A8 (((bK (xs.take i) (act xs i).at_).length+1)) (c9))]) (hp':=fun ((A8,c9):(Option Addr)×Nat)=>[tj b2 root,pF f m t N.1.X,pI m L N.1.idx,pT t N.1.X.cH N.1.ay L N.1.us,pO N.1.O L,pD N.1.O L,pE N.1.O L,qQ b1 A ns c,rB b3 X,DJ b4 Af fs cf Aa xs ca,Ia m5 Z xs i an,.abs (ax (kD (mG Z (xs.take i)) (zz (act xs i).at_) cr.none)),.abs R,Lg b6 xs i,Lg b7 xs i,.abs (aK 41 5 A8 ((bK (xs.take i) (act xs i).at_).length+1) c9 (bS fT (bK (xs.take i) (act xs i).at_)++fT (act xs i)))]) [10,13] rfl rfl ?_ rfl (fun _=>by kernel_rfl) ?_
    ·refine aj.slot 56 (((fQ Z (xs.take i) (Lit.int IntKind.i64 (act xs i).at_)).getD (.slice none 0 0))) (.slice (aA Z (xs.take i) (act xs i).at_) ((bK (xs.take i) (act xs i).at_).length) ((aC Z (xs.take i) (act xs i).at_))) (fun _=>by kernel_rfl) (Ac) ?_
     refine aj.mem (cR:=[tj b2 root,pF f m t N.1.X,pI m L N.1.idx,pT t N.1.X.cH N.1.ay L N.1.us,pO N.1.O L,pD N.1.O L,pE N.1.O L,qQ b1 A ns c,rB b3 X,DJ b4 Af fs cf Aa xs ca,Ia m5 Z xs i an,.abs (ax (kD (mG Z (xs.take i)) (zz (act xs i).at_) cr.none)),.abs R,Lg b6 xs i,Lg b7 xs i,.abs (aK 41 5 (aA Z (xs.take i) (act xs i).at_) ((bK (xs.take i) (act xs i).at_).length) (aC Z (xs.take i) (act xs i).at_) (bS fT (bK (xs.take i) (act xs i).at_)))]) (fun w hS=>hS.Pn (i:=11) rfl (act xs i).at_) ?_
     have W6:(bK (xs.take i) (act xs i).at_).length<=1048576:=Nat.le_trans (Bv _) (by rw [List.length_take];omega)
     refine aj.append 15 (d:=(some 59)) (t:=30) (e:=41) (z:=.agg #[vI 0,vI 0,.string ⟨#[]⟩,.string ⟨#[]⟩,.string ⟨#[]⟩]) (size:=5) (bytes:=64) (n:=(bK (xs.take i) (act xs i).at_).length) (cap:=(aC Z (xs.take i) (act xs i).at_)) (A:=(aA Z (xs.take i) (act xs i).at_)) (xs:=(bS fT (bK (xs.take i) (act xs i).at_))) (s:=(.tmp 56)) (x:=(.tmp 58)) (ats:=#[30,30]) (A':=some ⟨b7,0,none⟩) (m:=1) (c':=1) (news:=[vI ((act xs i).at_),vI ((act xs i).op),.string (act xs i).path,.string (act xs i).to,.string (act xs i).text]) (fun _=>by kernel_rfl) rfl (by kernel_rfl) (fun _=>by kernel_rfl) (fun _=>by kernel_rfl) Tryz.underlying30 (by kernel_rfl) rfl (by decide) (rfl) (by simp [Value.oneCell']) (kP (j:=14) rfl) (by unfold maxLen;omega) (by omega) (fun A8 c9=>?_)
     refine aj.dm 15 (p:=.abs (aK 41 5 A8 (((bK (xs.take i) (act xs i).at_).length)+1) c9 ((bS fT (bK (xs.take i) (act xs i).at_))++[vI ((act xs i).at_),vI ((act xs i).op),.string (act xs i).path,.string (act xs i).to,.string (act xs i).text]))) (p':=.abs (aK 41 5 A8 ((bK (xs.take i) (act xs i).at_).length+1) c9 (bS fT (bK (xs.take i) (act xs i).at_)++fT (act xs i)))) (by kernel_rfl) (rfl) ?_
     refine aj.slot 59 (.slice A8 (((bK (xs.take i) (act xs i).at_).length)+1) (c9)) (.slice A8 (((bK (xs.take i) (act xs i).at_).length+1)) (c9)) (fun _=>by kernel_rfl) (rfl) ?_
     refine NL ?_
     exact MD (A8,c9) [5,7,10,13,44,45,46,50,52,59] [0,1,2,3,4,5,6,7,8,9,10,11,12,13,14,15]
    rintro⟨A8,c9⟩
    refine aN.last rfl rfl ?_
    refine aj.mem (cR:=[.abs (ax (mG (Z.put (act xs i).at_ A8 c9) (xs.take (i+1)))),.blk b2 [vI (root)] 3,.blk f [vI (N.1.X.cN),vI (N.1.X.cB),vI (N.1.X.cH),vI (N.1.X.cS),vI (N.1.X.cZ),.map (some m),vP t,vI (N.1.X.last),vI (N.1.X.ah),vI (N.1.X.used)] 126,.abs (aL Tryz.prog 3 m (aX (aY L N.1.idx)) N.1.idx.length),.abs (cV 197 t N.1.X.cH N.1.ay (aY L N.1.us)),.abs (ax (bI N.1.O L)),.abs (ax (bJ N.1.O L)),.abs (ax (cK N.1.O L)),.blk b1 [.slice A (ns.length) (c)] 24,.blk b3 [vI (X.cN),vI (X.cB),vI (X.cH),vI (X.cS),vI (X.cZ)] 28,.blk b4 [.slice Af (fs.length) (cf),.slice Aa (xs.length) (ca)] 32,.abs (aL Tryz.prog 3 m5 (fQ Z (xs.take i)) an),.abs R,.blk b6 [vI ((act xs i).at_),vI ((act xs i).op),.string (act xs i).path,.string (act xs i).to,.string (act xs i).text] 41,.blk b7 [vI ((act xs i).at_),vI ((act xs i).op),.string (act xs i).path,.string (act xs i).to,.string (act xs i).text] 41]) (fun w hS=>by rw [Fm (by omega)];exact hS.QK (i:=11) (j:=15) (idx:=[0,1,2,3,4,5,6,7,8,9,10,12,13,14]) rfl rfl (by kernel_rfl) rfl) ?_
    refine aj.j6 11 (d:=none) (t:=178) (K:=3) (E:=30) (b:=m5) (n:=an) (f:=(fQ Z (xs.take i))) (x:=(.tmp 50)) (ix:=(.tmp 52)) (y:=(.tmp 59)) (key:=.int .i64 ((act xs i).at_)) (u:=.slice A8 (((bK (xs.take i) (act xs i).at_).length+1)) (c9)) (kl:=(Lit.int IntKind.i64 (act xs i).at_)) (n':=(if (fQ Z (xs.take i) (Lit.int IntKind.i64 (act xs i).at_)).isSome then an else an+1)) (f':=(fQ (Z.put (act xs i).at_ A8 c9) (xs.take (i+1)))) (fun _=>by kernel_rfl) (by kernel_rfl) (fun _=>by kernel_rfl) (fun _=>by kernel_rfl) (fun _=>by kernel_rfl) dw Tryz.underlying178 (by unfold maxLen;omega) (gY (hab.at (by omega)).aw) (rfl) (by rw [Fm (by omega)];exact MP) ?_
    refine NL (ai.np (ai.aJ (NX (af.region ?_))))
    refine gK 2 [(46,vI ↑(i+1))] [(0,p_ ⟨[],none,none,none,some (vI ↑(i+1))⟩ [(Value.int .i64 (IntKind.wrap .i64 (((i:Nat):Int)+1)))=(.int .i64 ↑(i+1))] ⟨bn (by omega) (by omega) (by omega),trivial⟩)] ?_
    refine NL ?_
    exact ai.turn ((i+1),(Z.put (act xs i).at_ A8 c9),(if (fQ Z (xs.take i) (Lit.int IntKind.i64 (act xs i).at_)).isSome then an else an+1)) (idx:=[5,7,10,13,44,45,46]) (pk:=[1,2,3,4,5,6,7,8,9,10,11,0,12]) (show (((i+1))<=xs.length)/\(((if (fQ Z (xs.take i) (Lit.int IntKind.i64 (act xs i).at_)).isSome then an else an+1))<=((i+1))) from ⟨by omega,by split<;>omega⟩) (by show xs.length - ((i+1)) < xs.length - i;omega) (fun _=>by kernel_rfl) rfl (by kernel_rfl)
   refine af.exit (ai.aS (ai.aS (ai.cD (NX (SR ?_)))))
   refine aj.oL (Φ:=fun β'=>jX β' Z xs) 11 [0,1,2,3,4,5,6,7,8,9,10,12] (cR:=[tj b2 root,pF f m t N.1.X,pI m L N.1.idx,pT t N.1.X.cH N.1.ay L N.1.us,pO N.1.O L,pD N.1.O L,pE N.1.O L,qQ b1 A ns c,rB b3 X,DJ b4 Af fs cf Aa xs ca,Ia m5 Z xs i an,.abs R]) rfl rfl (by kernel_rfl) (fun F w h β' h1 h2=>jX.of (by rw [show xs.take i=xs by rw [show i=xs.length by omega,List.take_length]] at h;exact h) h1 h2) (fun kI dH hZ=>?_)
   replace hG:=hG.le dH
   replace hA:=hA.le dH
   replace hF:=hF.le dH
   replace hle0:=hle0.trans dH
   refine aj.dm 10 (p:=.abs (aL Tryz.prog 3 m5 (fQ Z (xs.take i)) an)) (p':=.abs (aL Tryz.prog 3 m5 (fQ Z xs) an)) (by kernel_rfl) (by rw [show xs.take i=xs by rw [show i=xs.length by omega,List.take_length]]) ?_
   refine aj.kO (d:=(some 61)) (t:=179) (fun _=>by kernel_rfl) Tryz.prog rfl 3 (fun m11=>?_)
   refine gK 1 [(16,.map (some m11))] [] ?_
   refine NN (af.seq (SR (aj.dm 12 (p:=.abs (aL Tryz.prog 3 m11 (fun _=>none) 0)) (p':=.abs (aL Tryz.prog 3 m11 (eu (fs.take 0)) 0)) (by kernel_rfl) (congrArg (fun f=>HP.abs (aL Tryz.prog 3 _ f 0)) KL.symm) ?_)))
   refine gK 4 [(63,.slice Af (fs.length) (cf)),(64,vI ↑fs.length),(65,vI 0)] [(1,a_ 9 b4)] ?_
   refine NN (af.block ?_)
   refine af.loop (ι:=Nat×Nat) (fun ((j,kn):Nat×Nat)=>(j<=fs.length)/\(kn<=j)) (fun ((j,kn):Nat×Nat)=>fs.length - j) (fun ((j,kn):Nat×Nat)=>(TK b2 f m5 m11 Af fs cf j)) (fun ((j,kn):Nat×Nat)=>[tj b2 root,pF f m t N.1.X,pI m L N.1.idx,pT t N.1.X.cH N.1.ay L N.1.us,pO N.1.O L,pD N.1.O L,pE N.1.O L,qQ b1 A ns c,rB b3 X,DJ b4 Af fs cf Aa xs ca,.abs (aL Tryz.prog 3 m5 (fQ Z xs) an),.abs (aL Tryz.prog 3 m11 (eu (fs.take j)) kn),.abs R]) (0,0) (idx:=[5,10,13,16,63,64,65]) (pk:=[0,1,2,3,4,5,6,7,8,9,10,12,11]) (show (0<=fs.length)/\(0<=0) from ⟨Nat.zero_le _,Nat.le_refl _⟩) (fun _=>by kernel_rfl) rfl (by kernel_rfl) ?_
   rintro⟨j,kn⟩ ⟨hj,hkn⟩
   show af _ _ _ _ (TK b2 f m5 m11 Af fs cf j) [tj b2 root,pF f m t N.1.X,pI m L N.1.idx,pT t N.1.X.cH N.1.ay L N.1.us,pO N.1.O L,pD N.1.O L,pE N.1.O L,qQ b1 A ns c,rB b3 X,DJ b4 Af fs cf Aa xs ca,.abs (aL Tryz.prog 3 m5 (fQ Z xs) an),.abs (aL Tryz.prog 3 m11 (eu (fs.take j)) kn),.abs R] _
   refine SR (gK 1 [(66,.bool (decide ((((j:Nat):Int):Int) < (((fs.length:Nat):Int):Int))))] [] ?_)
   refine NN (af.seq (af.aV (p:=(((j:Nat):Int):Int) < (((fs.length:Nat):Int):Int)) (fun _=>by kernel_rfl) (fun xj=>?_) (fun xj=>?_)))
   ·refine af.skip (NX (af.seq (af.block (SR ?_))))
    refine gN 4 (fun b12=>[(18,vP b12)]) (fun b12=>[(0,p_ ⟨[],some j,none,some ⟨(ar Af),aq Af,none⟩,none⟩ [((j:Nat):Int)=((j:Nat):Int),j < fs.length,(⟨(ar Af),aq Af,none⟩:Addr).spot=none,(Af:Option Addr)=some ⟨(ar Af),aq Af,none⟩] ⟨rfl,by omega,rfl,SB hF (i:=j) (by omega),trivial⟩),(1,p_ ⟨[.old (.int .i64 ((jT fs j).at_)),.old (.int .i64 ((jT fs j).kind))],none,none,none,none⟩ [(Rd kI ⟨(ar Af),aq Af+j * 2+1,none⟩ (.int .i64 ((jT fs j).kind))),(Rd kI ⟨(ar Af),aq Af+j * 2,none⟩ (.int .i64 ((jT fs j).at_)))] ⟨Ob hF (i:=j) (by omega) (j:=1) rfl,Ob hF (i:=j) (by omega) (j:=0) rfl,trivial⟩),(3,A_ 13 b12 2)]) (fun _=>[]) (fun b12=>.blk b12 [vI ((jT fs j).at_),vI ((jT fs j).kind)] 39) (fun b12=>?_)
    refine NS (gK 4 [(72,.bool (decide (((jT fs j).kind:Int) ≥ (1:Int))))] [(1,a_ 13 b12)] ?_)
    refine aj.gE 72 (((jT fs j).kind:Int) ≥ (1:Int)) (fun _=>by kernel_rfl) (fun Rp=>?_) (fun Rp=>?_)
    ·refine gK 5 [(77,.bool (decide (((jT fs j).kind:Int)<=(3:Int))))] [(1,a_ 13 b12)] ?_
     refine aj.gE 77 (((jT fs j).kind:Int)<=(3:Int)) (fun _=>by kernel_rfl) (fun VF=>?_) (fun VF=>?_)
     ·refine gK 3 [(78,.map (some m11)),(80,vI ((jT fs j).at_))] [(2,a_ 13 b12)] ?_
      refine aj.dR 11 (d:=(some 81)) (t:=179) (K:=3) (E:=3) (b:=m11) (n:=kn) (f:=(eu (fs.take j))) (x:=(.tmp 78)) (ix:=(.tmp 80)) (key:=.int .i64 ((jT fs j).at_)) (z:=.int .i64 0) (kl:=(Lit.int IntKind.i64 (jT fs j).at_)) (r:=(eu (fs.take j) (Lit.int IntKind.i64 (jT fs j).at_))) (fun _=>by kernel_rfl) (by kernel_rfl) (fun _=>by kernel_rfl) (fun _=>by kernel_rfl) dw Tryz.underlying179 (fun _=>by kernel_rfl) (gY (lV.at (by omega))) (rfl) ?_
      refine aj.slot 81 (((eu (fs.take j) (Lit.int IntKind.i64 (jT fs j).at_)).getD (.int .i64 0))) (.int .i64 ((iq (fs.take j) (jT fs j).at_))) (fun _=>by kernel_rfl) (DA) ?_
      refine gK 2 [(83,.bool (decide (((iq (fs.take j) (jT fs j).at_):Int)=(0:Int))))] [] ?_
      refine NN (af.aV (p:=((iq (fs.take j) (jT fs j).at_):Int)=(0:Int)) (fun _=>by kernel_rfl) (fun VG=>?_) (fun VG=>?_))
      ·refine af.region (gK 5 [(84,.map (some m11)),(86,vI ((jT fs j).at_)),(88,vI ((jT fs j).kind))] [(2,a_ 13 b12),(4,a_ 13 b12)] ?_)
       refine aj.j6 11 (d:=none) (t:=179) (K:=3) (E:=3) (b:=m11) (n:=kn) (f:=(eu (fs.take j))) (x:=(.tmp 84)) (ix:=(.tmp 86)) (y:=(.tmp 88)) (key:=.int .i64 ((jT fs j).at_)) (u:=.int .i64 ((jT fs j).kind)) (kl:=(Lit.int IntKind.i64 (jT fs j).at_)) (n':=(if (eu (fs.take j) (Lit.int IntKind.i64 (jT fs j).at_)).isSome then kn else kn+1)) (f':=(eu (fs.take (j+1)))) (fun _=>by kernel_rfl) (by kernel_rfl) (fun _=>by kernel_rfl) (fun _=>by kernel_rfl) (fun _=>by kernel_rfl) dw Tryz.underlying179 (by unfold maxLen;omega) (gY (lV.at (by omega))) (rfl) (by rw [wi (by omega)];exact KM ⟨by omega,by omega⟩ (by omega)) ?_
       refine NL (ai.aJ (NX (af.region ?_)))
       refine gK 2 [(65,vI ↑(j+1))] [(0,p_ ⟨[],none,none,none,some (vI ↑(j+1))⟩ [(Value.int .i64 (IntKind.wrap .i64 (((j:Nat):Int)+1)))=(.int .i64 ↑(j+1))] ⟨bn (by omega) (by omega) (by omega),trivial⟩)] ?_
       refine NL ?_
       exact ai.turn ((j+1),(if (eu (fs.take j) (Lit.int IntKind.i64 (jT fs j).at_)).isSome then kn else kn+1)) (idx:=[5,10,13,16,63,64,65]) (pk:=[0,1,2,3,4,5,6,7,8,9,10,11,12]) (show (((j+1))<=fs.length)/\(((if (eu (fs.take j) (Lit.int IntKind.i64 (jT fs j).at_)).isSome then kn else kn+1))<=((j+1))) from ⟨by omega,by split<;>omega⟩) (by show fs.length - ((j+1)) < fs.length - j;omega) (fun _=>by kernel_rfl) rfl (by kernel_rfl)
      refine af.skip (ai.aJ (NX (af.region ?_)))
      refine aj.dm 11 (p:=.abs (aL Tryz.prog 3 m11 (eu (fs.take j)) kn)) (p':=.abs (aL Tryz.prog 3 m11 (eu (fs.take (j+1))) kn)) (by kernel_rfl) (by rw [wi (by omega),wh];unfold FK;omega) ?_
      refine gK 2 [(65,vI ↑(j+1))] [(0,p_ ⟨[],none,none,none,some (vI ↑(j+1))⟩ [(Value.int .i64 (IntKind.wrap .i64 (((j:Nat):Int)+1)))=(.int .i64 ↑(j+1))] ⟨bn (by omega) (by omega) (by omega),trivial⟩)] ?_
      refine NL ?_
      exact ai.turn ((j+1),kn) (idx:=[5,10,13,16,63,64,65]) (pk:=[0,1,2,3,4,5,6,7,8,9,10,11,12]) (show (((j+1))<=fs.length)/\(kn<=((j+1))) from ⟨by omega,by omega⟩) (by show fs.length - ((j+1)) < fs.length - j;omega) (fun _=>by kernel_rfl) rfl (by kernel_rfl)
     refine gK 4 [(81,undef)] [] ?_
     refine gK 2 [(83,.bool false)] [] ?_
     refine NN (CF (af.skip (ai.aJ (NX (af.region ?_)))))
     refine aj.dm 11 (p:=.abs (aL Tryz.prog 3 m11 (eu (fs.take j)) kn)) (p':=.abs (aL Tryz.prog 3 m11 (eu (fs.take (j+1))) kn)) (by kernel_rfl) (by rw [wi (by omega),wh];unfold FK;omega) ?_
     refine gK 2 [(65,vI ↑(j+1))] [(0,p_ ⟨[],none,none,none,some (vI ↑(j+1))⟩ [(Value.int .i64 (IntKind.wrap .i64 (((j:Nat):Int)+1)))=(.int .i64 ↑(j+1))] ⟨bn (by omega) (by omega) (by omega),trivial⟩)] ?_
     refine NL ?_
     exact ai.turn ((j+1),kn) (idx:=[5,10,13,16,63,64,65]) (pk:=[0,1,2,3,4,5,6,7,8,9,10,11,12]) (show (((j+1))<=fs.length)/\(kn<=((j+1))) from ⟨by omega,by omega⟩) (by show fs.length - ((j+1)) < fs.length - j;omega) (fun _=>by kernel_rfl) rfl (by kernel_rfl)
    refine gK 9 [(77,.bool false),(81,undef)] [] ?_
    refine gK 2 [(83,.bool false)] [] ?_
    refine NN (CF (af.skip (ai.aJ (NX (af.region ?_)))))
    refine aj.dm 11 (p:=.abs (aL Tryz.prog 3 m11 (eu (fs.take j)) kn)) (p':=.abs (aL Tryz.prog 3 m11 (eu (fs.take (j+1))) kn)) (by kernel_rfl) (by rw [wi (by omega),wh];unfold FK;omega) ?_
    refine gK 2 [(65,vI ↑(j+1))] [(0,p_ ⟨[],none,none,none,some (vI ↑(j+1))⟩ [(Value.int .i64 (IntKind.wrap .i64 (((j:Nat):Int)+1)))=(.int .i64 ↑(j+1))] ⟨bn (by omega) (by omega) (by omega),trivial⟩)] ?_
    refine NL ?_
    exact ai.turn ((j+1),kn) (idx:=[5,10,13,16,63,64,65]) (pk:=[0,1,2,3,4,5,6,7,8,9,10,11,12]) (show (((j+1))<=fs.length)/\(kn<=((j+1))) from ⟨by omega,by omega⟩) (by show fs.length - ((j+1)) < fs.length - j;omega) (fun _=>by kernel_rfl) rfl (by kernel_rfl)
   refine af.exit (ai.aS (ai.aS (ai.cD (NX (SR ?_)))))
   refine aj.dm 11 (p:=.abs (aL Tryz.prog 3 m11 (eu (fs.take j)) kn)) (p':=.abs (aL Tryz.prog 3 m11 (eu fs) kn)) (by kernel_rfl) (by rw [show fs.take j=fs by rw [show j=fs.length by omega,List.take_length]]) ?_
   refine gN 5 (fun b13=>[(19,vP b13)]) (fun b13=>[(1,a_ 0 b2)]) (fun _=>[]) (fun b13=>.blk b13 [.nilIface,vP f,.nilIface,vI (root),.slice none (0) (0)] 93) (fun b13=>?_)
   refine NS (gN 11 (fun b14=>[(94,vP b13),(104,.agg #[.iface 181 (vP b14),vP f,vI (root),.map (some m5),vI 0])]) (fun b14=>[(8,a_ 0 b2)]) (fun _=>[]) (fun b14=>.blk b14 [.iface 54 (vP f),.map (some m11),vI 0] 183) (fun b14=>?_))
   refine gN 5 (fun _=>[]) (fun b15=>[(4,a_ 13 b13)]) (fun b15=>[(13,[(2,.iface 180 (vP b15))])]) (fun b15=>.blk b15 [.iface 181 (vP b14),vP f,vI (root),.map (some m5),vI 0] 185) (fun b15=>?_)
   refine NS (gK 3 [(109,vP b13),(111,.iface 42 (vP b13))] [] ?_)
   refine gL [] (QS b13) ?_
   rintro _ _ ⟨rfl,rfl⟩
   refine gC 3 [] [(2,a_ 13 b13)] [(13,[(0,.iface 42 (vP b13))])] ?_
   refine NS (gK 3 [(8,vP b13),(9,vI 0)] [] ?_)
   refine NN (af.ret (ai.mem (fun w hS=>hS.j7 (e:=48) (size:=13)) ?_))
   exact ai.nQ (v:=.tuple #[vP b13,vI 0]) (l:=(TL b13 f b15 root b14 m5 m11 Z xs an fs kn++[pF f m t N.1.X,pI m L N.1.idx,pT t N.1.X.cH N.1.ay L N.1.us,pO N.1.O L,pD N.1.O L,pE N.1.O L])) (bC:=[]) [] [13,15,14,10,11,16,1,2,3,4,5,6,12] hle0 (fun _=>by kernel_rfl) trivial rfl (by kernel_rfl) (.inr ⟨BD oh.1 oh.2 hr BN,N,L,b13,b15,b14,f,m,t,m5,an,m11,kn,Z,rfl,rfl,hZ⟩)
  refine af.region (gK 3 [(30,.slice A (ns.length) (c)),(31,.func (.func 82) #[] #[vP b2])] [(1,a_ 7 b1)] ?_)
  refine gL [8] (Nq (β:=β) hno A c hG hB b2) ?_
  rintro _ _ ⟨rfl,rfl⟩
  refine gK 1 [(12,vI (-1))] [] ?_
  refine NN (af.seq (SR (gK 2 [(34,.bool true)] [] ?_)))
  refine NN (CT (SR (gK 2 [(8,.pointer none),(9,vI 141)] [] ?_)))
  refine NN (af.ret (ai.ak ?_))
  exact ai.nQ (v:=.tuple #[.pointer none,vI 141]) (l:=[]) (bC:=[]) [] [7] hle0 (fun _=>by kernel_rfl) trivial rfl (by kernel_rfl) (.inl ⟨by rw [uD oh.1 oh.2 hno];decide,by rw [uD oh.1 oh.2 hno],rfl⟩)
 refine af.region (gK 2 [(21,.agg #[.slice A (ns.length) (c)]),(22,.agg #[vI (X.cN),vI (X.cB),vI (X.cH),vI (X.cS),vI (X.cZ)])] [(0,a_ 1 b1),(1,A_ 3 b3 5)] ?_)
 refine gL [] (Nn (β:=β) (root:=root) oh A c hG hB) ?_
 rintro _ _ ⟨rfl,rfl⟩
 refine gK 5 [(10,.pointer none),(11,vI ((cT X ns root)))] [] ?_
 refine NN (af.seq (SR (gK 2 [(27,.bool (!(decide (((cT X ns root):Int)=(0:Int)))))] [] ?_)))
 refine NN (af.cX (p:=((cT X ns root):Int)=(0:Int)) (fun _=>by kernel_rfl) (fun TM=>?_) (fun TM=>?_))
 ·refine SR (gK 3 [(8,.pointer none),(9,vI ((cT X ns root)))] [] ?_)
  refine NN (af.ret (ai.ak ?_))
  exact ai.nQ (v:=.tuple #[.pointer none,vI ((cT X ns root))]) (l:=[]) (bC:=[]) [] [0] hle0 (fun _=>by kernel_rfl) trivial rfl (by kernel_rfl) (.inl ⟨BR oh,rfl,rfl⟩)
 exact absurd TM (BR oh)
end
section
open Go.RowKit Go.Maps bD aE
attribute [local irreducible] aj aP af ai
noncomputable abbrev TN (w)(f:Nat) (o) (root) (tA) (tr:List aF) (tC):=(.blk w [.iface 42 (vP w),vP f,.iface 180 (vP o),vI (root),.slice tA (tr.length) (tC)] 93:HP)
noncomputable abbrev VH (o)(q)(f:Nat) (root) (am) (tr:List aF):=(.blk o [.iface 181 (vP q),vP f,vI (root),.map (some am),vI (((tr.length:Nat):Int))] 185:HP)
noncomputable abbrev VI (q)(f:Nat) (km) (tr:List aF):=(.blk q [.iface 54 (vP f),.map (some km),vI (((tr.length:Nat):Int))] 183:HP)
noncomputable abbrev TP (am)(Z)(xs)(an):=(.abs (aL Tryz.prog 3 am (fQ Z xs) an):HP)
noncomputable abbrev TQ (km)(fs)(kn):=(.abs (aL Tryz.prog 3 km (eu fs) kn):HP)
noncomputable abbrev TR (tA)(tr:List aF) (tC):=(.abs (aK 48 13 tA tr.length tC (bS bN tr)):HP)
noncomputable abbrev OJ (w)(f:Nat) (o) (root) (tA) (tr) (tC) (q) (am) (km) (Z) (xs) (an) (fs) (kn) (m:Nat) (t) (S:aH) (L:HL):=([TN w f o root tA tr tC,VH o q f root am tr,VI q f km tr,TP am Z xs an,TQ km fs kn,TR tA tr tC,pF f m t S.X,pI m L S.idx,kx t S L,pO S.O L,pD S.O L,pE S.O L]:List HP)
theorem JA {β:Bs} (S:aH) (L:HL) (w o q f m t am an km kn:Nat) (Z:AZ) (fs:List bP) (xs:List cO) (root:Int) (tr:List aF) (tA:Option Addr) (tC:Nat)  :
    Spec Tryz.prog β 49 #[vP w] (OJ w f o root tA tr tC q am km Z xs an fs kn m t S L) (fun v l=>v=vI (tr.length:Int)/\l=(OJ w f o root tA tr tC q am km Z xs an fs kn m t S L)):=by
 refine Spec.enter Tryz.func49 rfl Tryz.ntmps49 (Nat.le_of_ble_eq_true rfl) (fun R=>?_)
 refine SR (gK 1 [] [] ?_)
 refine NS (gK 6 [(2,vI ↑tr.length)] [(3,a_ 0 w)] ?_)
 refine NN (af.ret ?_)
 exact RT (vI ↑tr.length) [0,1,2,3,4,5,6,7,8,9,10,11,12] (⟨rfl,rfl⟩)
theorem JB {β:Bs} (S:aH) (L:HL) (w o q f m t am an km kn:Nat) (Z:AZ) (fs:List bP) (xs:List cO) (root:Int) (tr:List aF) (tA:Option Addr) (tC:Nat) (hI:Inv S) :
    Spec Tryz.prog β 18 #[vP w] (OJ w f o root tA tr tC q am km Z xs an fs kn m t S L) (fun v l=>∃ A cp K,v=.agg #[.slice A (av S).length cp]/\l=(OJ w f o root tA tr tC q am km Z xs an fs kn m t S L)++[.abs (aK 70 10 A (av S).length cp (dI K (av S))),.abs (jB (lQ (av S) K) (av S).length),.abs (jB (lS (av S) K) (av S).length)]):=by
 refine Spec.enter Tryz.func18 rfl Tryz.ntmps18 (Nat.le_of_ble_eq_true rfl) (fun R=>?_)
 refine SR (gN 1 (fun b1=>[(2,vP b1)]) (fun _=>[]) (fun _=>[]) (fun b1=>.blk b1 [.slice none (0) (0)] 24) (fun b1=>?_))
 refine NS (gK 4 [(6,vP f)] [(3,a_ 0 w)] ?_)
 refine gL [6,7,9,10,11] (La S L f m t hI) ?_
 rintro _ _ ⟨Ao,cp,K,rfl,rfl⟩
 refine gC 1 [] [(0,a_ 16 b1)] [(16,[(0,.slice Ao ((av S).length) (cp))])] ?_
 refine NN (af.ret ?_)
 exact ai.ret (v:=.agg #[.slice Ao ((av S).length) (cp)]) (l:=[TN w f o root tA tr tC,.blk o [.iface 181 (vP q),vP f,vI (root),.map (some am),vI ↑tr.length] 185,.blk q [.iface 54 (vP f),.map (some km),vI ↑tr.length] 183,TP am Z xs an,TQ km fs kn,TR tA tr tC,pF f m t S.X,pI m L S.idx,kx t S L,pO S.O L,pD S.O L,pE S.O L,.abs (aK 70 10 Ao ((av S).length) cp (dI K (av S))),.abs (jB (lQ (av S) K) (av S).length),.abs (jB (lS (av S) K) (av S).length)]) (bC:=[b1=b1]) [.at 16] [8,9,10,11,12,13,0,1,14,2,3,4,5,6,7,15] (fun _=>by kernel_rfl) ⟨rfl,trivial⟩ rfl (by kernel_rfl) (⟨Ao,cp,K,rfl,rfl⟩)
theorem wR {β:Bs} (Af:Option Addr) (cf:Nat) (fs:List bP) (hF:cE β Af (bS eX fs)) (hfl:fs.length<=2097152) (Aa:Option Addr) (ca:Nat) (xs:List cO) (hA:cE β Aa (bS fT xs)) (hxl:xs.length<=2097152) :
    Spec Tryz.prog β 29 #[.agg #[.slice Af (fs.length) (cf),.slice Aa (xs.length) (ca)]] [] (fun v l=>∃ B b C c,v=.agg #[.slice B fs.length b,.slice C xs.length c]/\l=[.abs (aK 39 2 B fs.length b (bS eX fs)),.abs (aK 41 5 C xs.length c (bS fT xs))]):=by
 refine Spec.enter Tryz.func29 rfl Tryz.ntmps29 (Nat.le_of_ble_eq_true rfl) (fun R=>?_)
 refine SR (gN 1 (fun b2=>[(1,vP b2)]) (fun _=>[]) (fun _=>[]) (fun b2=>.blk b2 [.slice Af (fs.length) (cf),.slice Aa (xs.length) (ca)] 32) (fun b2=>?_))
 refine gN 1 (fun b3=>[(2,vP b3)]) (fun _=>[]) (fun _=>[]) (fun b3=>.blk b3 [.slice none (0) (0),.slice none (0) (0)] 32) (fun b3=>?_)
 refine NS (gN 2 (fun b4=>[(3,.slice (some ⟨b4,0,none⟩) (0) (0))]) (fun _=>[]) (fun _=>[]) (fun b4=>.blk b4 [] 39) (fun b4=>?_))
 refine NS (aj.mem (fun w hS=>hS.rH (i:=3) (b:=b4) (cs:=[]) (e:=39) 2 0 (by kernel_rfl) rfl (by decide)) ?_)
 refine gK 3 [(6,.slice (some ⟨b4,0,none⟩) (0) (0)),(8,.slice Af (fs.length) (cf))] [(2,a_ 1 b2)] ?_
 refine aj.append 3 (d:=(some 9)) (t:=29) (e:=39) (z:=.agg #[vI 0,vI 0]) (size:=2) (bytes:=16) (n:=0) (cap:=0) (A:=some ⟨b4,0,none⟩) (xs:=[]) (s:=(.tmp 6)) (x:=(.tmp 8)) (ats:=#[29,29]) (A':=Af) (m:=fs.length) (c':=cf) (news:=(bS eX fs)) (fun _=>by kernel_rfl) rfl (by kernel_rfl) (fun _=>by kernel_rfl) (fun _=>by kernel_rfl) Tryz.underlying29 (by kernel_rfl) rfl (by decide) (Dz (f:=eX) (s:=2) (fun _=>rfl) _) (tN (Jf) _ _) (hF.src) (by unfold maxLen;omega) (by omega) (fun A5 c6=>?_)
 refine aj.dm 3 (p:=.abs (aK 39 2 A5 (0+fs.length) c6 ([]++(bS eX fs)))) (p':=.abs (aK 39 2 A5 fs.length c6 (bS eX fs))) (by kernel_rfl) (by rw [Nat.zero_add,List.nil_append]) ?_
 refine aj.slot 9 (.slice A5 (0+fs.length) (c6)) (.slice A5 (fs.length) (c6)) (fun _=>by kernel_rfl) (by rw [Nat.zero_add]) ?_
 refine gK 1 [(3,.slice A5 (fs.length) (c6))] [] ?_
 refine NS (gN 2 (fun b7=>[(4,.slice (some ⟨b7,0,none⟩) (0) (0))]) (fun _=>[]) (fun _=>[]) (fun b7=>.blk b7 [] 41) (fun b7=>?_))
 refine NS (aj.mem (fun w hS=>hS.rH (i:=4) (b:=b7) (cs:=[]) (e:=41) 5 0 (by kernel_rfl) rfl (by decide)) ?_)
 refine gK 3 [(11,.slice (some ⟨b7,0,none⟩) (0) (0)),(13,.slice Aa (xs.length) (ca))] [(2,a_ 1 b2)] ?_
 refine aj.append 4 (d:=(some 14)) (t:=30) (e:=41) (z:=.agg #[vI 0,vI 0,.string ⟨#[]⟩,.string ⟨#[]⟩,.string ⟨#[]⟩]) (size:=5) (bytes:=64) (n:=0) (cap:=0) (A:=some ⟨b7,0,none⟩) (xs:=[]) (s:=(.tmp 11)) (x:=(.tmp 13)) (ats:=#[30,30]) (A':=Aa) (m:=xs.length) (c':=ca) (news:=(bS fT xs)) (fun _=>by kernel_rfl) rfl (by kernel_rfl) (fun _=>by kernel_rfl) (fun _=>by kernel_rfl) Tryz.underlying30 (by kernel_rfl) rfl (by decide) (Dz (f:=fT) (s:=5) (fun _=>rfl) _) (tN (MN) _ _) (hA.src) (by unfold maxLen;omega) (by omega) (fun A8 c9=>?_)
 refine aj.dm 4 (p:=.abs (aK 41 5 A8 (0+xs.length) c9 ([]++(bS fT xs)))) (p':=.abs (aK 41 5 A8 xs.length c9 (bS fT xs))) (by kernel_rfl) (by rw [Nat.zero_add,List.nil_append]) ?_
 refine aj.slot 14 (.slice A8 (0+xs.length) (c9)) (.slice A8 (xs.length) (c9)) (fun _=>by kernel_rfl) (by rw [Nat.zero_add]) ?_
 refine gK 1 [(4,.slice A8 (xs.length) (c9))] [] ?_
 refine NS (gC 4 [] [(3,A_ 2 b3 2)] [(2,[(0,.slice A5 (fs.length) (c6)),(1,.slice A8 (xs.length) (c9))])] ?_)
 refine NN (af.ret ?_)
 exact ai.ret (v:=.agg #[.slice A5 (fs.length) (c6),.slice A8 (xs.length) (c9)]) (l:=[.abs (aK 39 2 A5 fs.length c6 (bS eX fs)),.abs (aK 41 5 A8 xs.length c9 (bS fT xs))]) (bC:=[b3=b3,b3=b3]) [.at 2,.at 2] [3,4,0] (fun _=>by kernel_rfl) ⟨rfl,rfl,trivial⟩ rfl (by kernel_rfl) (⟨A5,c6,A8,c9,rfl,rfl⟩)
theorem Rq {β:Bs} (A:Option Addr) (c:Nat) (xs:List aF) (hc:xs.length<=c) :
    Spec Tryz.prog β 14 #[.slice A xs.length c] [] (fun v l=>∃ n,n<=xs.length/\n<=300/\v=.slice A n c/\l=[]):=by
 refine Spec.enter Tryz.func14 rfl Tryz.ntmps14 (Nat.le_of_ble_eq_true rfl) (fun R=>?_)
 refine SR (gK 1 [] [] ?_)
 refine NN (af.seq (SR (gK 3 [(5,.bool (decide ((((xs.length:Nat):Int):Int) > (300:Int))))] [] ?_)))
 refine NN (af.aV (p:=(((xs.length:Nat):Int):Int) > (300:Int)) (fun _=>by kernel_rfl) (fun h5=>?_) (fun h5=>?_))
 ·refine SR (gK 3 [(2,.slice A (300) (c))] [(1,p_ ⟨[],some 300,none,none,none⟩ [300=((300:Nat):Int),300<=c] ⟨rfl,by omega,trivial⟩)] ?_)
  refine NN (af.ret (ai.ak ?_))
  exact RT (.slice A (300) (c)) [0] (⟨300,by omega,by decide,rfl,rfl⟩)
 refine af.skip (NX (SR (gK 2 [(2,.slice A (xs.length) (c))] [] ?_)))
 refine NN (af.ret ?_)
 exact RT (.slice A (xs.length) (c)) [0] (⟨xs.length,Nat.le_refl _,by omega,rfl,rfl⟩)
end
section
open Go.RowKit Go.Maps bD aE
attribute [local irreducible] aj aP af ai
noncomputable abbrev o9 (km)(fs)(kn):=(.abs (aL Tryz.prog 3 km (eu fs) kn):HP)
noncomputable abbrev vm (q)(f:Nat) (km) (n):=(.blk q [.iface 54 (vP f),.map (some km),vI ↑(n+1)] 183:HP)
noncomputable abbrev TS (S:aH) (c:aF):=([(6,vI ((cA S { c with data:=c.data.take (c.data.length / 2) }).2.mode)),(7,vI ((cA S { c with data:=c.data.take (c.data.length / 2) }).2.uid)),(8,vI ((cA S { c with data:=c.data.take (c.data.length / 2) }).2.gid)),(9,vI ((cA S { c with data:=c.data.take (c.data.length / 2) }).2.sec)),(10,vI ((cA S { c with data:=c.data.take (c.data.length / 2) }).2.nano)),(11,vI ((cA S { c with data:=c.data.take (c.data.length / 2) }).2.code)),(12,vI ((cA S { c with data:=c.data.take (c.data.length / 2) }).2.answer))]:Fr)
noncomputable abbrev TU (c):=([(0,vI ((cY c 180).op)),(1,vI ((cY c 180).handle)),(2,vI ((cY c 180).other)),(3,.string (cY c 180).name),(4,.string (cY c 180).text),(5,.slice (cY c 180).dA ((cY c 180).data.length) ((cY c 180).dC)),(6,vI ((cY c 180).mode)),(7,vI ((cY c 180).uid)),(8,vI ((cY c 180).gid)),(9,vI ((cY c 180).sec)),(10,vI ((cY c 180).nano)),(11,vI ((cY c 180).code)),(12,vI ((cY c 180).answer))]:Fr)
noncomputable abbrev TV (S:aH) (c:aF):=([(0,vI ((cA S { c with data:=c.data.take (c.data.length / 2) }).2.op)),(1,vI ((cA S { c with data:=c.data.take (c.data.length / 2) }).2.handle)),(2,vI ((cA S { c with data:=c.data.take (c.data.length / 2) }).2.other)),(3,.string (cA S { c with data:=c.data.take (c.data.length / 2) }).2.name),(4,.string (cA S { c with data:=c.data.take (c.data.length / 2) }).2.text)]:Fr)
noncomputable abbrev zk (b3:Nat) (b4:Nat):=([(3,vP b3),(4,vP b4)]:Fr)
noncomputable abbrev DK (km)(fs)(kn)(f:Nat) (m:Nat) (t) (S:aH) (L:HL):=([o9 km fs kn,pF f m t S.X,pI m L S.idx,kx t S L,pO S.O L,pD S.O L,pE S.O L]:List HP)
noncomputable abbrev Rs (c:aF):=([(3,.string c.name),(4,.string c.text),(5,.slice c.dA (c.data.length) (c.dC))]:Fr)
noncomputable abbrev TW (f:Nat) (m:Nat) (t) (S:aH) (c) (L2:HL):=([pF f m t ((cA S c).1.X),pI m L2 (cA S c).1.idx,pT t (cA S c).1.X.cH ((cA S c).1.ay) L2 ((cA S c).1.us),pO ((cA S c).1.O) L2,pD ((cA S c).1.O) L2,pE ((cA S c).1.O) L2]:List HP)
theorem yj {β:Bs} (c:aF) (e:Int) :
    Spec Tryz.prog β 270 #[.agg ⟨bN c⟩,vI (e)] [] (fun v l=>v=.agg ⟨bN (cY c e)⟩/\l=[]):=by
 refine Spec.enter Tryz.func270 rfl Tryz.ntmps270 (Nat.le_of_ble_eq_true rfl) (fun R=>?_)
 refine SR (gN 1 (fun b1=>[(2,vP b1)]) (fun _=>[]) (fun _=>[]) (fun b1=>pC b1 c) (fun b1=>?_))
 refine gN 1 (fun b2=>[(4,vP b2)]) (fun _=>[]) (fun _=>[]) (fun b2=>.blk b2 [vI 0,vI 0,vI 0,.string ⟨#[]⟩,.string ⟨#[]⟩,.slice none (0) (0),vI 0,vI 0,vI 0,vI 0,vI 0,vI 0,vI 0] 48) (fun b2=>?_)
 refine NN (af.seq (SR (gK 4 [(8,.bool (decide ((c.op:Int)=(11:Int))))] [(1,a_ 1 b1)] ?_)))
 refine aj.gE 8 ((c.op:Int)=(11:Int)) (fun _=>by kernel_rfl) (fun h8=>?_) (fun h8=>?_)
 ·refine gK 4 [(12,.bool true)] [] ?_
  refine NN (CT (af.region (gC 12 [] [(1,a_ 1 b1),(3,a_ 1 b1),(5,a_ 1 b1),(7,a_ 1 b1),(9,a_ 1 b1),(11,A_ 1 b1 13)] [(1,(CW++[(11,vI 0),(12,vI 0)]))] ?_)))
  refine NS (gC 5 [] [(2,a_ 1 b1),(4,a_ 1 b1)] [(1,[(11,vI (e))])] ?_)
  refine NS (gC 2 [] [(0,A_ 1 b1 13),(1,A_ 2 b2 13)] [(2,([(0,vI (c.op)),(1,vI (c.handle))]++Rs c++[(11,vI (e))]))] ?_)
  refine NN (af.ret ?_)
  exact ai.ret (v:=.agg ⟨bN { c with other:=0,mode:=0,uid:=0,gid:=0,sec:=0,nano:=0,code:=e,answer:=0 }⟩) (l:=[]) (bC:=[b2=b2,b2=b2,b2=b2,b2=b2,b2=b2,b2=b2,b2=b2,b2=b2,b2=b2,b2=b2,b2=b2,b2=b2,b2=b2]) [.at 2,.at 2,.at 2,.at 2,.at 2,.at 2,.at 2,.at 2,.at 2,.at 2,.at 2,.at 2,.at 2] [0] (fun _=>by kernel_rfl) ⟨rfl,rfl,rfl,rfl,rfl,rfl,rfl,rfl,rfl,rfl,rfl,rfl,rfl,trivial⟩ rfl (by kernel_rfl) (⟨congrArg (fun x=>Value.agg ⟨bN x⟩) (Eq.symm (if_pos (by omega):cY c e=_)),rfl⟩)
 refine gK 4 [(12,.bool (decide ((c.op:Int)=(12:Int))))] [(1,a_ 1 b1)] ?_
 refine NN (af.aV (p:=(c.op:Int)=(12:Int)) (fun _=>by kernel_rfl) (fun h12=>?_) (fun h12=>?_))
 ·refine af.region (gC 12 [] [(1,a_ 1 b1),(3,a_ 1 b1),(5,a_ 1 b1),(7,a_ 1 b1),(9,a_ 1 b1),(11,A_ 1 b1 13)] [(1,(CW++[(11,vI 0),(12,vI 0)]))] ?_)
  refine NS (gC 5 [] [(2,a_ 1 b1),(4,a_ 1 b1)] [(1,[(11,vI (e))])] ?_)
  refine NS (gC 2 [] [(0,A_ 1 b1 13),(1,A_ 2 b2 13)] [(2,([(0,vI (c.op)),(1,vI (c.handle))]++Rs c++[(11,vI (e))]))] ?_)
  refine NN (af.ret ?_)
  exact ai.ret (v:=.agg ⟨bN { c with other:=0,mode:=0,uid:=0,gid:=0,sec:=0,nano:=0,code:=e,answer:=0 }⟩) (l:=[]) (bC:=[b2=b2,b2=b2,b2=b2,b2=b2,b2=b2,b2=b2,b2=b2,b2=b2,b2=b2,b2=b2,b2=b2,b2=b2,b2=b2]) [.at 2,.at 2,.at 2,.at 2,.at 2,.at 2,.at 2,.at 2,.at 2,.at 2,.at 2,.at 2,.at 2] [0] (fun _=>by kernel_rfl) ⟨rfl,rfl,rfl,rfl,rfl,rfl,rfl,rfl,rfl,rfl,rfl,rfl,rfl,trivial⟩ rfl (by kernel_rfl) (⟨congrArg (fun x=>Value.agg ⟨bN x⟩) (Eq.symm (if_pos (by omega):cY c e=_)),rfl⟩)
 refine af.skip (NX (SR (gC 5 [] [(2,a_ 1 b1),(4,a_ 1 b1)] [(1,[(11,vI (e)),(12,vI 0)])] ?_)))
 refine NS (gC 2 [] [(0,A_ 1 b1 13),(1,A_ 2 b2 13)] [(2,([(0,vI (c.op)),(1,vI (c.handle)),(2,vI (c.other))]++Rs c++[(6,vI (c.mode)),(7,vI (c.uid)),(8,vI (c.gid)),(9,vI (c.sec)),(10,vI (c.nano)),(11,vI (e))]))] ?_)
 refine NN (af.ret ?_)
 exact ai.ret (v:=.agg ⟨bN { c with code:=e,answer:=0 }⟩) (l:=[]) (bC:=[b2=b2,b2=b2,b2=b2,b2=b2,b2=b2,b2=b2,b2=b2,b2=b2,b2=b2,b2=b2,b2=b2,b2=b2,b2=b2]) [.at 2,.at 2,.at 2,.at 2,.at 2,.at 2,.at 2,.at 2,.at 2,.at 2,.at 2,.at 2,.at 2] [0] (fun _=>by kernel_rfl) ⟨rfl,rfl,rfl,rfl,rfl,rfl,rfl,rfl,rfl,rfl,rfl,rfl,rfl,trivial⟩ rfl (by kernel_rfl) (⟨congrArg (fun x=>Value.agg ⟨bN x⟩) (Eq.symm (if_neg (by omega):cY c e=_)),rfl⟩)
theorem Rt {β:Bs} (S:aH) (L:HL) (q f m t km kn n:Nat) (fs:List bP) (hI:Inv S) (hn:n<=1048576) (k:Int) (hk:iq fs ((n+1:Nat):Int)=k) (c:aF) (hC:gh β c) :
    Spec Tryz.prog β 269 #[vP q,.agg ⟨bN c⟩] ([.blk q [.iface 54 (vP f),.map (some km),vI (((n:Nat):Int))] 183]++DK km fs kn f m t S L) (fun v l=>∃ L2,v=.agg ⟨bN (br k S c).2⟩/\l=[.blk q [.iface 54 (vP f),.map (some km),vI ((((n+1):Nat):Int))] 183,o9 km fs kn,pF f m t ((br k S c).1.X),pI m L2 (br k S c).1.idx,pT t (br k S c).1.X.cH ((br k S c).1.ay) L2 ((br k S c).1.us),pO ((br k S c).1.O) L2,pD ((br k S c).1.O) L2,pE ((br k S c).1.O) L2]):=by
 have hdl:=hC.dl
 have hdc:=hC.dc
 refine Spec.enter Tryz.func269 rfl Tryz.ntmps269 (Nat.le_of_ble_eq_true rfl) (fun R=>?_)
 refine SR (gN 1 (fun b3=>[(3,vP b3)]) (fun _=>[]) (fun _=>[]) (fun b3=>pC b3 c) (fun b3=>?_))
 refine gN 1 (fun b4=>[(4,vP b4)]) (fun _=>[]) (fun _=>[]) (fun b4=>.blk b4 [vI 0,vI 0,vI 0,.string ⟨#[]⟩,.string ⟨#[]⟩,.slice none (0) (0),vI 0,vI 0,vI 0,vI 0,vI 0,vI 0,vI 0] 48) (fun b4=>?_)
 refine NS (gC 8 [] [(3,a_ 0 q),(4,p_ ⟨[],none,none,none,some (vI ↑(n+1))⟩ [(Value.int .i64 (IntKind.wrap .i64 (((n:Nat):Int)+1)))=(.int .i64 ↑(n+1))] ⟨bn (by omega) (by omega) (by omega),trivial⟩),(7,a_ 0 q)] [(0,[(2,vI ↑(n+1))])] ?_)
 refine NN (af.join (ι:=Unit) (fun (u:Unit)=>(¬ k=1)/\(¬ (k=2/\(c.op=4\/c.op=5\/c.op=6\/c.op=7\/c.op=9)))/\(¬ (k=3/\c.op=9/\2<=c.data.length))) (fun (u:Unit)=>([(0,vP q)]++zk b3 b4)) (fun (u:Unit)=>([vm q f km n]++DK km fs kn f m t S L++[.abs R,pC b3 c,pN b4])) ?_ ?_)
 ·rintro u ⟨om,hj2,hj3⟩
  show af _ _ _ _ ([(0,vP q)]++zk b3 b4) ([vm q f km n]++DK km fs kn f m t S L++[.abs R,pC b3 c,pN b4]) _
  refine af.seq (af.bM (S:=[vm q f km n,pC b3 c]) [0,1,2,3,4,5,6] 5 [0,9] (by kernel_rfl) (by kernel_rfl) rfl (by kernel_rfl) ?_)
  refine gR 0 [5,6] [(4,vP b4),(78,.iface 54 (vP f)),(79,.agg ⟨bN c⟩)] [0,1,2,3,4] [(3,a_ 0 q),(4,A_ 1 b3 13)] ?_
  refine mL [6,9] [2,3,4,5,6,7] (FN S L f m t hI c hC) ?_ (by rintro _ _ ⟨L2,rfl,rfl⟩;rfl)
  rintro _ _ ⟨L2,rfl,rfl⟩
  refine aN.last rfl rfl ?_
  refine gC 1 [] [(0,A_ 10 b4 13)] [(10,[(0,vI ((cA S c).2.op)),(1,vI ((cA S c).2.handle)),(2,vI ((cA S c).2.other)),(3,.string (cA S c).2.name),(4,.string (cA S c).2.text),(5,.slice (cA S c).2.dA ((cA S c).2.data.length) ((cA S c).2.dC)),(6,vI ((cA S c).2.mode)),(7,vI ((cA S c).2.uid)),(8,vI ((cA S c).2.gid)),(9,vI ((cA S c).2.sec)),(10,vI ((cA S c).2.nano)),(11,vI ((cA S c).2.code)),(12,vI ((cA S c).2.answer))])] ?_
  refine NL (ai.np (NX (af.ret ?_)))
  exact ai.ret (v:=.agg ⟨bN ((cA S c).2)⟩) (l:=([vm q f km n,o9 km fs kn]++TW f m t S c L2)) (bC:=[b4=b4,b4=b4,b4=b4,b4=b4,b4=b4,b4=b4,b4=b4,b4=b4,b4=b4,b4=b4,b4=b4,b4=b4,b4=b4]) [.at 10,.at 10,.at 10,.at 10,.at 10,.at 10,.at 10,.at 10,.at 10,.at 10,.at 10,.at 10,.at 10] [6,7,0,1,2,3,4,5,8] (fun _=>by kernel_rfl) ⟨rfl,rfl,rfl,rfl,rfl,rfl,rfl,rfl,rfl,rfl,rfl,rfl,rfl,trivial⟩ rfl (by kernel_rfl) (⟨L2,by rw [show br k S c=((cA S c).1,(cA S c).2) by unfold br;rw [if_neg om,if_neg hj2,if_neg hj3]]<;>exact⟨rfl,rfl⟩⟩)
 refine af.seq (af.bF (by kernel_rfl) (by kernel_rfl) ?_)
 refine gQ 8 [(16,.map (some km)),(20,vI ↑(n+1))] [(3,a_ 0 q),(7,a_ 0 q)] ?_
 refine aP.dR 1 (d:=(some 21)) (t:=179) (K:=3) (E:=3) (b:=km) (n:=kn) (f:=(eu fs)) (x:=(.tmp 16)) (ix:=(.tmp 20)) (key:=.int .i64 ↑(n+1)) (z:=.int .i64 0) (kl:=(.int .i64 ((n+1:Nat):Int))) (r:=(eu fs (.int .i64 ((n+1:Nat):Int)))) (fun _=>by kernel_rfl) (by kernel_rfl) (fun _=>by kernel_rfl) (fun _=>by kernel_rfl) dw Tryz.underlying179 (fun _=>by kernel_rfl) (gY (KN (by omega))) (rfl) ?_
 refine NQ (NX (af.block (SR ?_)))
 refine aj.slot 21 (((eu fs (.int .i64 ((n+1:Nat):Int))).getD (.int .i64 0))) (.int .i64 (k)) (fun _=>by kernel_rfl) (DA.trans (congrArg (Value.int .i64) hk)) ?_
 refine gK 2 [(22,.bool (decide ((k:Int)=(1:Int))))] [] ?_
 refine NN (af.aV (p:=(k:Int)=(1:Int)) (fun _=>by kernel_rfl) (fun wN=>?_) (fun wN=>?_))
 ·refine af.seq (SR (gK 3 [(26,.bool (decide ((c.op:Int)=(13:Int))))] [(1,a_ 9 b3)] ?_))
  refine NN (af.aV (p:=(c.op:Int)=(13:Int)) (fun _=>by kernel_rfl) (fun qC=>?_) (fun qC=>?_))
  ·refine af.bM (S:=[vm q f km n,pC b3 c]) [0,1,2,3,4,5] 5 [0,9] (by kernel_rfl) (by kernel_rfl) rfl (by kernel_rfl) ?_
   refine gR 0 [5] (zk b3 b4++[(30,.iface 54 (vP f)),(31,.agg ⟨bN c⟩)]) [0,1,2,3,4] [(3,a_ 0 q),(4,A_ 1 b3 13)] ?_
   refine aN.last rfl rfl ?_
   refine gL [2,3,4,5,6,7] (FN S L f m t hI c hC) ?_
   rintro _ _ ⟨L2,rfl,rfl⟩
   refine NL (ai.np (NX (SR ?_)))
   refine gK 1 [(33,.agg ⟨bN c⟩)] [(0,A_ 9 b3 13)] ?_
   refine gL [] (yj c 180) ?_
   rintro _ _ ⟨rfl,rfl⟩
   refine gC 1 [] [(0,A_ 10 b4 13)] [(10,(TU c))] ?_
   refine NN (af.ret (ai.aG (ai.ak ?_)))
   exact ai.ret (v:=.agg ⟨bN (cY c 180)⟩) (l:=([vm q f km n,o9 km fs kn]++TW f m t S c L2)) (bC:=[b4=b4,b4=b4,b4=b4,b4=b4,b4=b4,b4=b4,b4=b4,b4=b4,b4=b4,b4=b4,b4=b4,b4=b4,b4=b4]) [.at 10,.at 10,.at 10,.at 10,.at 10,.at 10,.at 10,.at 10,.at 10,.at 10,.at 10,.at 10,.at 10] [6,7,0,1,2,3,4,5,8] (fun _=>by kernel_rfl) ⟨rfl,rfl,rfl,rfl,rfl,rfl,rfl,rfl,rfl,rfl,rfl,rfl,rfl,trivial⟩ rfl (by kernel_rfl) (⟨L2,by rw [show br k S c=((cA S c).1,cY c 180) by unfold br;rw [if_pos wN,if_pos qC]]<;>exact⟨rfl,rfl⟩⟩)
  refine af.skip (NX (SR (gK 1 [(33,.agg ⟨bN c⟩)] [(0,A_ 9 b3 13)] ?_)))
  refine gL [] (yj c 180) ?_
  rintro _ _ ⟨rfl,rfl⟩
  refine gC 1 [] [(0,A_ 10 b4 13)] [(10,(TU c))] ?_
  refine NN (af.ret (ai.aG (ai.ak ?_)))
  exact ai.ret (v:=.agg ⟨bN (cY c 180)⟩) (l:=([vm q f km n]++DK km fs kn f m t S L)) (bC:=[b4=b4,b4=b4,b4=b4,b4=b4,b4=b4,b4=b4,b4=b4,b4=b4,b4=b4,b4=b4,b4=b4,b4=b4,b4=b4]) [.at 10,.at 10,.at 10,.at 10,.at 10,.at 10,.at 10,.at 10,.at 10,.at 10,.at 10,.at 10,.at 10] [0,1,2,3,4,5,6,7,8] (fun _=>by kernel_rfl) ⟨rfl,rfl,rfl,rfl,rfl,rfl,rfl,rfl,rfl,rfl,rfl,rfl,rfl,trivial⟩ rfl (by kernel_rfl) (⟨L,by rw [show br k S c=(S,cY c 180) by unfold br;rw [if_pos wN,if_neg qC]]<;>exact⟨rfl,rfl⟩⟩)
 refine SR (gK 2 [(35,.bool (decide ((k:Int)=(2:Int))))] [] ?_)
 refine NN (af.aV (p:=(k:Int)=(2:Int)) (fun _=>by kernel_rfl) (fun jU=>?_) (fun jU=>?_))
 ·refine SR (gK 2 [(38,vI (c.op))] [(1,a_ 9 b3)] ?_)
  refine NN (af.block ?_)
  refine af.join (ι:=Bool) (fun (fl:Bool)=>(fl=true↔(c.op=4\/c.op=5\/c.op=6\/c.op=7\/c.op=9))) (fun (fl:Bool)=>([(0,vP q)]++zk b3 b4++[(39,.bool fl)])) (fun (fl:Bool)=>([vm q f km n]++DK km fs kn f m t S L++[.abs R,pC b3 c,pN b4])) ?_ ?_
  ·rintro fl hfl
   show af _ _ _ _ ([(0,vP q)]++zk b3 b4++[(39,.bool fl)]) ([vm q f km n]++DK km fs kn f m t S L++[.abs R,pC b3 c,pN b4]) _
   refine af.cond (b:=fl) (fun _=>by kernel_rfl) (fun jj=>?_) (fun jj=>?_)
   ·refine SR (gK 1 [(45,.agg ⟨bN c⟩)] [(0,A_ 9 b3 13)] ?_)
    refine gL [] (yj c 176) ?_
    rintro _ _ ⟨rfl,rfl⟩
    refine gC 1 [] [(0,A_ 10 b4 13)] [(10,[(0,vI ((cY c 176).op)),(1,vI ((cY c 176).handle)),(2,vI ((cY c 176).other)),(3,.string (cY c 176).name),(4,.string (cY c 176).text),(5,.slice (cY c 176).dA ((cY c 176).data.length) ((cY c 176).dC)),(6,vI ((cY c 176).mode)),(7,vI ((cY c 176).uid)),(8,vI ((cY c 176).gid)),(9,vI ((cY c 176).sec)),(10,vI ((cY c 176).nano)),(11,vI ((cY c 176).code)),(12,vI ((cY c 176).answer))])] ?_
    refine NN (af.ret (ai.aG (ai.aG (ai.ak ?_))))
    exact ai.ret (v:=.agg ⟨bN (cY c 176)⟩) (l:=([vm q f km n]++DK km fs kn f m t S L)) (bC:=[b4=b4,b4=b4,b4=b4,b4=b4,b4=b4,b4=b4,b4=b4,b4=b4,b4=b4,b4=b4,b4=b4,b4=b4,b4=b4]) [.at 10,.at 10,.at 10,.at 10,.at 10,.at 10,.at 10,.at 10,.at 10,.at 10,.at 10,.at 10,.at 10] [0,1,2,3,4,5,6,7,8] (fun _=>by kernel_rfl) ⟨rfl,rfl,rfl,rfl,rfl,rfl,rfl,rfl,rfl,rfl,rfl,rfl,rfl,trivial⟩ rfl (by kernel_rfl) (⟨L,by rw [show br k S c=(S,cY c 176) by unfold br;rw [if_neg (by omega),if_pos ⟨jU,hfl.1 jj⟩]]<;>exact⟨rfl,rfl⟩⟩)
   refine af.skip (ai.aJ (ai.aJ ?_))
   exact ai.meet () (idx:=[0,3,4]) (pk:=[0,1,2,3,4,5,6,7,8,9,10]) (show (¬ k=1)/\(¬ (k=2/\(c.op=4\/c.op=5\/c.op=6\/c.op=7\/c.op=9)))/\(¬ (k=3/\c.op=9/\2<=c.data.length)) from ⟨wN,fun h=>absurd (jj.symm.trans (hfl.2 h.2)) (by decide),fun h=>by omega⟩) (fun _=>by kernel_rfl) rfl (by kernel_rfl)
  refine SR (gK 2 [(39,.bool (decide ((c.op:Int)=(4:Int))))] [] ?_)
  refine NN (af.aV (p:=(c.op:Int)=(4:Int)) (fun _=>by kernel_rfl) (fun jj=>?_) (fun jj=>?_))
  ·refine af.skip (ai.slot 39 (.bool (decide ((c.op:Int)=(4:Int)))) (.bool true) (fun _=>by kernel_rfl) (congrArg Value.bool (decide_eq_true jj)) ?_)
   exact ai.meet true (idx:=[0,3,4,39]) (pk:=[0,1,2,3,4,5,6,7,8,9,10]) (show (true=true↔(c.op=4\/c.op=5\/c.op=6\/c.op=7\/c.op=9)) from ⟨fun _=>by omega,fun _=>rfl⟩) (fun _=>by kernel_rfl) rfl (by kernel_rfl)
  refine SR (gK 2 [(39,.bool (decide ((c.op:Int)=(5:Int))))] [] ?_)
  refine NN (af.aV (p:=(c.op:Int)=(5:Int)) (fun _=>by kernel_rfl) (fun jj=>?_) (fun jj=>?_))
  ·refine af.skip (ai.slot 39 (.bool (decide ((c.op:Int)=(5:Int)))) (.bool true) (fun _=>by kernel_rfl) (congrArg Value.bool (decide_eq_true jj)) ?_)
   exact ai.meet true (idx:=[0,3,4,39]) (pk:=[0,1,2,3,4,5,6,7,8,9,10]) (show (true=true↔(c.op=4\/c.op=5\/c.op=6\/c.op=7\/c.op=9)) from ⟨fun _=>by omega,fun _=>rfl⟩) (fun _=>by kernel_rfl) rfl (by kernel_rfl)
  refine SR (gK 2 [(39,.bool (decide ((c.op:Int)=(6:Int))))] [] ?_)
  refine NN (af.aV (p:=(c.op:Int)=(6:Int)) (fun _=>by kernel_rfl) (fun jj=>?_) (fun jj=>?_))
  ·refine af.skip (ai.slot 39 (.bool (decide ((c.op:Int)=(6:Int)))) (.bool true) (fun _=>by kernel_rfl) (congrArg Value.bool (decide_eq_true jj)) ?_)
   exact ai.meet true (idx:=[0,3,4,39]) (pk:=[0,1,2,3,4,5,6,7,8,9,10]) (show (true=true↔(c.op=4\/c.op=5\/c.op=6\/c.op=7\/c.op=9)) from ⟨fun _=>by omega,fun _=>rfl⟩) (fun _=>by kernel_rfl) rfl (by kernel_rfl)
  refine SR (gK 2 [(39,.bool (decide ((c.op:Int)=(7:Int))))] [] ?_)
  refine NN (af.aV (p:=(c.op:Int)=(7:Int)) (fun _=>by kernel_rfl) (fun jj=>?_) (fun jj=>?_))
  ·refine af.skip (ai.slot 39 (.bool (decide ((c.op:Int)=(7:Int)))) (.bool true) (fun _=>by kernel_rfl) (congrArg Value.bool (decide_eq_true jj)) ?_)
   exact ai.meet true (idx:=[0,3,4,39]) (pk:=[0,1,2,3,4,5,6,7,8,9,10]) (show (true=true↔(c.op=4\/c.op=5\/c.op=6\/c.op=7\/c.op=9)) from ⟨fun _=>by omega,fun _=>rfl⟩) (fun _=>by kernel_rfl) rfl (by kernel_rfl)
  refine af.region (gK 2 [(39,.bool (decide ((c.op:Int)=(9:Int))))] [] ?_)
  refine NL ?_
  exact ai.meet ((decide (c.op=9))) (idx:=[0,3,4,39]) (pk:=[0,1,2,3,4,5,6,7,8,9,10]) (show (((decide (c.op=9)))=true↔(c.op=4\/c.op=5\/c.op=6\/c.op=7\/c.op=9)) from ⟨fun h=>by have:=of_decide_eq_true h;omega,fun h=>decide_eq_true (by omega)⟩) (fun _=>by kernel_rfl) rfl (by kernel_rfl)
 refine SR (gK 2 [(47,.bool (decide ((k:Int)=(3:Int))))] [] ?_)
 refine NN (af.aV (p:=(k:Int)=(3:Int)) (fun _=>by kernel_rfl) (fun OI=>?_) (fun OI=>?_))
 ·refine SR (gK 4 [(52,.bool (decide ((c.op:Int)=(9:Int))))] [(1,a_ 9 b3)] ?_)
  refine aj.gE 52 ((c.op:Int)=(9:Int)) (fun _=>by kernel_rfl) (fun JY=>?_) (fun JY=>?_)
  ·refine gK 5 [(57,.bool (decide ((((c.data.length:Nat):Int):Int) ≥ (2:Int))))] [(1,a_ 9 b3)] ?_
   refine NN (af.aV (p:=(((c.data.length:Nat):Int):Int) ≥ (2:Int)) (fun _=>by kernel_rfl) (fun vg=>?_) (fun vg=>?_))
   ·refine SR (gK 3 [(5,.slice c.dA (c.data.length) (c.dC))] [(1,a_ 9 b3)] ?_)
    refine NS (gK 5 [(64,.slice c.dA ((c.data.length / 2)) (c.dC))] [(3,p_ ⟨[],none,none,none,some (vI ↑(c.data.length / 2))⟩ [(Value.int .i64 (IntKind.wrap .i64 (Int.tdiv ((c.data.length:Nat):Int) 2)))=(.int .i64 ↑(c.data.length / 2))] ⟨bn (Int.ofNat_tdiv _ _).symm (by omega) (by omega),trivial⟩),(4,p_ ⟨[],some (c.data.length / 2),none,none,none⟩ [((c.data.length / 2:Nat):Int)=(((c.data.length / 2):Nat):Int),(c.data.length / 2)<=c.dC] ⟨rfl,by omega,trivial⟩)] ?_)
    refine aj.slot 64 (.slice c.dA ((c.data.length / 2)) (c.dC)) (.slice c.dA ((c.data.take (c.data.length / 2)).length) (c.dC)) (fun _=>by kernel_rfl) (by rw [List.length_take,Nat.min_eq_left (by omega)]) ?_
    refine gC 2 [] [(1,a_ 9 b3)] [(9,[(5,.slice c.dA ((c.data.take (c.data.length / 2)).length) (c.dC))])] ?_
    refine NN (af.seq (af.bM (S:=[vm q f km n,.blk b3 [vI (c.op),vI (c.handle),vI (c.other),.string c.name,.string c.text,.slice c.dA ((c.data.take (c.data.length / 2)).length) (c.dC),vI (c.mode),vI (c.uid),vI (c.gid),vI (c.sec),vI (c.nano),vI (c.code),vI (c.answer)] 48]) [0,1,2,3,4,5,6] 5 [0,9] (by kernel_rfl) (by kernel_rfl) rfl (by kernel_rfl) ?_))
    refine gR 0 [5,6] (zk b3 b4++[(5,.slice c.dA (c.data.length) (c.dC)),(69,.iface 54 (vP f)),(70,.agg #[vI (c.op),vI (c.handle),vI (c.other),.string c.name,.string c.text,.slice c.dA ((c.data.take (c.data.length / 2)).length) (c.dC),vI (c.mode),vI (c.uid),vI (c.gid),vI (c.sec),vI (c.nano),vI (c.code),vI (c.answer)])]) [0,1,2,3,4] [(3,a_ 0 q),(4,A_ 1 b3 13)] ?_
    refine mL [6,9] [2,3,4,5,6,7] (FN S L f m t hI { c with data:=c.data.take (c.data.length / 2) } (GA hC)) ?_ (by rintro _ _ ⟨L2,rfl,rfl⟩;rfl)
    rintro _ _ ⟨L2,rfl,rfl⟩
    refine aN.last rfl rfl ?_
    refine gC 1 [] [(0,A_ 9 b3 13)] [(9,(TV S c++[(5,.slice (cA S { c with data:=c.data.take (c.data.length / 2) }).2.dA ((cA S { c with data:=c.data.take (c.data.length / 2) }).2.data.length) ((cA S { c with data:=c.data.take (c.data.length / 2) }).2.dC))]++TS S c))] ?_
    refine NL (ai.np (NX (SR ?_)))
    refine gC 3 [] [(2,a_ 9 b3)] [(9,[(5,.slice c.dA (c.data.length) (c.dC))])] ?_
    refine NS (gC 2 [] [(0,A_ 9 b3 13),(1,A_ 10 b4 13)] [(10,(TV S c++[(5,.slice c.dA (c.data.length) (c.dC))]++TS S c))] ?_)
    refine NN (af.ret (ai.aG (ai.ak ?_)))
    exact ai.ret (v:=.agg #[vI ((cA S { c with data:=c.data.take (c.data.length / 2) }).2.op),vI ((cA S { c with data:=c.data.take (c.data.length / 2) }).2.handle),vI ((cA S { c with data:=c.data.take (c.data.length / 2) }).2.other),.string (cA S { c with data:=c.data.take (c.data.length / 2) }).2.name,.string (cA S { c with data:=c.data.take (c.data.length / 2) }).2.text,.slice c.dA (c.data.length) (c.dC),vI ((cA S { c with data:=c.data.take (c.data.length / 2) }).2.mode),vI ((cA S { c with data:=c.data.take (c.data.length / 2) }).2.uid),vI ((cA S { c with data:=c.data.take (c.data.length / 2) }).2.gid),vI ((cA S { c with data:=c.data.take (c.data.length / 2) }).2.sec),vI ((cA S { c with data:=c.data.take (c.data.length / 2) }).2.nano),vI ((cA S { c with data:=c.data.take (c.data.length / 2) }).2.code),vI ((cA S { c with data:=c.data.take (c.data.length / 2) }).2.answer)]) (l:=[vm q f km n,o9 km fs kn,pF f m t ((cA S { c with data:=c.data.take (c.data.length / 2) }).1.X),pI m L2 (cA S { c with data:=c.data.take (c.data.length / 2) }).1.idx,pT t (cA S { c with data:=c.data.take (c.data.length / 2) }).1.X.cH ((cA S { c with data:=c.data.take (c.data.length / 2) }).1.ay) L2 ((cA S { c with data:=c.data.take (c.data.length / 2) }).1.us),pO ((cA S { c with data:=c.data.take (c.data.length / 2) }).1.O) L2,pD ((cA S { c with data:=c.data.take (c.data.length / 2) }).1.O) L2,pE ((cA S { c with data:=c.data.take (c.data.length / 2) }).1.O) L2]) (bC:=[b4=b4,b4=b4,b4=b4,b4=b4,b4=b4,b4=b4,b4=b4,b4=b4,b4=b4,b4=b4,b4=b4,b4=b4,b4=b4]) [.at 10,.at 10,.at 10,.at 10,.at 10,.at 10,.at 10,.at 10,.at 10,.at 10,.at 10,.at 10,.at 10] [6,7,0,1,2,3,4,5,8] (fun _=>by kernel_rfl) ⟨rfl,rfl,rfl,rfl,rfl,rfl,rfl,rfl,rfl,rfl,rfl,rfl,rfl,trivial⟩ rfl (by kernel_rfl) (⟨L2,by rw [show br k S c=((cA S { c with data:=c.data.take (c.data.length / 2) }).1,{ (cA S { c with data:=c.data.take (c.data.length / 2) }).2 with dA:=c.dA,dC:=c.dC,data:=c.data }) by unfold br;rw [if_neg (by omega),if_neg (by omega),if_pos ⟨OI,by omega,by omega⟩]]<;>exact⟨rfl,rfl⟩⟩)
   refine af.skip (ai.aJ ?_)
   exact ai.meet () (idx:=[0,3,4]) (pk:=[0,1,2,3,4,5,6,7,8,9,10]) (show (¬ k=1)/\(¬ (k=2/\(c.op=4\/c.op=5\/c.op=6\/c.op=7\/c.op=9)))/\(¬ (k=3/\c.op=9/\2<=c.data.length)) from ⟨wN,fun h=>jU h.1,fun h=>by omega⟩) (fun _=>by kernel_rfl) rfl (by kernel_rfl)
  refine gK 5 [(57,.bool false)] [] ?_
  refine NN (CF (af.skip (ai.aJ ?_)))
  exact ai.meet () (idx:=[0,3,4]) (pk:=[0,1,2,3,4,5,6,7,8,9,10]) (show (¬ k=1)/\(¬ (k=2/\(c.op=4\/c.op=5\/c.op=6\/c.op=7\/c.op=9)))/\(¬ (k=3/\c.op=9/\2<=c.data.length)) from ⟨wN,fun h=>jU h.1,fun h=>by omega⟩) (fun _=>by kernel_rfl) rfl (by kernel_rfl)
 refine af.skip (ai.aJ ?_)
 exact ai.meet () (idx:=[0,3,4]) (pk:=[0,1,2,3,4,5,6,7,8,9,10]) (show (¬ k=1)/\(¬ (k=2/\(c.op=4\/c.op=5\/c.op=6\/c.op=7\/c.op=9)))/\(¬ (k=3/\c.op=9/\2<=c.data.length)) from ⟨wN,fun h=>jU h.1,fun h=>by omega⟩) (fun _=>by kernel_rfl) rfl (by kernel_rfl)
end
end Go.Proofs.YtidjcblbdmfalaaGreat
section
namespace Go.Proofs
open Go.Shelf
def Tryz.lays146_ren:Go.Shelf.Ren:=⟨fun|146=>257|221=>258|268=>259|138=>260|143=>261|195=>262|197=>263|218=>264|219=>265|260=>266|217=>219|225=>231|224=>230|267=>267|266=>224|314=>268|n=>n,fun|9=>9|31=>154|3=>3|4=>4|0=>0|105=>332|21=>21|5=>5|46=>234|119=>334|139=>337|138=>336|146=>338|51=>266|n=>n,fun|1=>0|3=>1|4=>2|n=>n⟩
theorem Tryz.lays146:Go.Proofs.Lays.n146 Tryz.prog Tryz.lays146_ren:={
  mixed:=by kernel_rfl
  f138:=Tryz.func260.trans (congrArg some (by kernel_rfl))
  f143:=Tryz.func261.trans (congrArg some (by kernel_rfl))
  f146:=Tryz.func257.trans (congrArg some (by kernel_rfl))
  f195:=Tryz.func262.trans (congrArg some (by kernel_rfl))
  f197:=Tryz.func263.trans (congrArg some (by kernel_rfl))
  f217:=Tryz.func219.trans (congrArg some (by kernel_rfl))
  f218:=Tryz.func264.trans (congrArg some (by kernel_rfl))
  f219:=Tryz.func265.trans (congrArg some (by kernel_rfl))
  f221:=Tryz.func258.trans (congrArg some (by kernel_rfl))
  f224:=Tryz.func230.trans (congrArg some (by kernel_rfl))
  f225:=Tryz.func231.trans (congrArg some (by kernel_rfl))
  f260:=Tryz.func266.trans (congrArg some (by kernel_rfl))
  f266:=Tryz.func224.trans (congrArg some (by kernel_rfl))
  f267:=Tryz.func267.trans (congrArg some (by kernel_rfl))
  f268:=Tryz.func259.trans (congrArg some (by kernel_rfl))
  f314:=Tryz.func268.trans (congrArg some (by kernel_rfl))
  t0:=Tryz.underlying0
  a0:=Tryz.isAgg0
  z0:=Tryz.sizeOf0
  v0:=Tryz.zeroValue0
  t3:=Tryz.underlying3
  a3:=Tryz.isAgg3
  z3:=Tryz.sizeOf3
  v3:=Tryz.zeroValue3
  t4:=Tryz.underlying4
  a4:=Tryz.isAgg4
  z4:=Tryz.sizeOf4
  v4:=Tryz.zeroValue4
  t5:=Tryz.underlying5
  a5:=Tryz.isAgg5
  z5:=Tryz.sizeOf5
  v5:=Tryz.zeroValue5
  t9:=Tryz.underlying9
  a9:=Tryz.isAgg9
  z9:=Tryz.sizeOf9
  v9:=Tryz.zeroValue9
  t21:=Tryz.underlying21
  a21:=Tryz.isAgg21
  z21:=Tryz.sizeOf21
  v21:=Tryz.zeroValue21
  t31:=Tryz.underlying154
  a31:=Tryz.isAgg154
  z31:=Tryz.sizeOf154
  v31:=Tryz.zeroValue154
  t46:=Tryz.underlying234
  a46:=Tryz.isAgg234
  z46:=Tryz.sizeOf234
  v46:=Tryz.zeroValue234
  t51:=Tryz.underlying266
  a51:=Tryz.isAgg266
  z51:=Tryz.sizeOf266
  v51:=Tryz.zeroValue266
  t105:=Tryz.underlying332
  a105:=Tryz.isAgg332
  z105:=Tryz.sizeOf332
  v105:=Tryz.zeroValue332
  t119:=Tryz.underlying334
  a119:=Tryz.isAgg334
  z119:=Tryz.sizeOf334
  t138:=Tryz.underlying336
  a138:=Tryz.isAgg336
  z138:=Tryz.sizeOf336
  v138:=Tryz.zeroValue336
  t139:=Tryz.underlying337
  a139:=Tryz.isAgg337
  z139:=Tryz.sizeOf337
  v139:=Tryz.zeroValue337
  t146:=Tryz.underlying338
  a146:=Tryz.isAgg338
  z146:=Tryz.sizeOf338
  v146:=Tryz.zeroValue338
  g1:=by kernel_rfl
  g3:=by kernel_rfl
  g4:=by kernel_rfl }
open Go.RowKit Go.Lib in
theorem Tryz.strings_Split (s sep:ByteArray) (m:Int) (w:World) (hs:s.size < 4294967281) (hm:w.cell? ⟨0,0,none⟩=some (.int .i64 m)) (h1:1<=sep.size) :
    Calls Tryz.prog 257 #[.string s,.string sep] w fun e w'=>
      e=.returned (.slice (some ⟨w.heap.size,0,none⟩) (Lib.countB s sep+1) (Lib.countB s sep+1))/\w'=w.alloc (.cells ((Lib.splitB sep 0 (Lib.countB s sep) s).map Value.string).toArray 9):=Any.strings_Split Tryz.lays146 (by kernel_rfl) s sep m w hs hm h1
end Go.Proofs
end
namespace Go.Proofs.YtidjcblbdmfalaaGreat
section
open Go.RowKit Go.Maps bD aE
def jg (β:Bs):Prop:=∃ m,Rd β ⟨0,0,none⟩ (.int .i64 m)
theorem jg.le {β β':Bs} (h:jg β) (hle:β.le β'):jg β':=h.imp fun _ h=>h.le hle
theorem BS (s:ByteArray):(jo s).length=Lib.countB s slash+1:=Lib.splitB_all slash (by decide) 0 _ s rfl
theorem yq (s:ByteArray):Lib.countB s slash<=s.size:=Lib.countB_le slash (by decide) _ s (Nat.le_refl _)
theorem zl (sep:ByteArray):∀ (k:Nat) (s:ByteArray),∀ p∈Lib.splitB sep 0 k s,p.size<=s.size
  | 0,s,p,hp=>by
    rw [Lib.splitB_zero] at hp
    rw [List.mem_singleton.1 hp];exact Nat.le_refl _
  | k+1,s,p,hp=>by
    rcases Lib.indexB_cases s sep with hix|⟨i,hix,_⟩
    ·rw [Lib.splitB_miss sep 0 (k+1) s hix] at hp
     rw [List.mem_singleton.1 hp];exact Nat.le_refl _
    rw [Lib.splitB_hit sep 0 k s i hix] at hp
    rcases List.mem_cons.1 hp with rfl|hp
    ·rw [ByteArray.size_extract];omega
    have:=zl sep k _ p hp
    rw [ByteArray.size_extract] at this
    omega
theorem GK {s p:ByteArray} (hp:p∈jo s):p.size<=s.size:=zl slash _ s p hp
def mh (ps:List ByteArray):List Value:=ps.map Value.string
theorem Ns {β:Bs} (hg:jg β) (s:ByteArray) (hs:s.size<=1048576):Spec Tryz.prog β 257 #[.string s,.string ⟨#[47]⟩] [] (fun v l=>∃ b,v=.slice (some ⟨b,0,none⟩) (jo s).length (jo s).length/\l=[.abs (aK 9 1 (some ⟨b,0,none⟩) (jo s).length (jo s).length (mh (jo s)))]):=
  Spec.Ar fun W hW=>by
    obtain⟨m,hg⟩:=hg
    have hm:W.cell? ⟨0,0,none⟩=some (.int .i64 m):=(World.cell?_of_block (w:=β.w0) (hW.old _ hg.1).2).trans hg.2
    have hl:=BS s
    have hc:=yq s
    refine (Tryz.strings_Split s slash m W (by omega) hm (by decide)).mono ?_
    rintro e w' ⟨rfl,rfl⟩
    refine⟨_,_,rfl,⟨W.heap.size,by rw [hl],rfl⟩,(Keeps.refl _ _).alloc _,fun k=>k=W.heap.size,⟨⟨?_,.inr ⟨W.heap.size,(jo s).length,(mh (jo s)).toArray,rfl,Nat.zero_le _,?_,Nat.le_refl _,?_,?_,?_⟩⟩,fun k=>?_⟩,fun k hk=>Nat.le_of_eq hk.symm⟩
    ·simp [mh]
    ·show (W.heap.push _)[W.heap.size]?=_
     simp [mh,jo]
    ·unfold maxLen;omega
    ·first|(simp [mh];done)|(simp [mh];exact List.take_of_length_le (by simp))
    ·first|(simp [mh];done)|(simp [mh];exact List.take_of_length_le (by simp))
    simp [Value.ownBlock,eq_comm]
theorem Lh {β:Bs} {ps:List ByteArray} (hg:jg β) (s:ByteArray) (hs:s.size<=1048576) (hp:ps=jo s):Spec Tryz.prog β 257 #[.string s,.string ⟨#[47]⟩] [] (fun v l=>∃ b,v=.slice (some ⟨b,0,none⟩) ps.length ps.length/\l=[.abs (aK 9 1 (some ⟨b,0,none⟩) ps.length ps.length (mh ps))]):=by
  subst hp;exact Ns hg s hs
def pc (ps:List ByteArray) (j:Nat):ByteArray:=ps.getD j ⟨#[]⟩
theorem Li {ps:List ByteArray} {j:Nat} (hj:j < ps.length):pc ps j∈ps:=by
  unfold pc
  rw [List.getD_eq_getElem?_getD,List.getElem?_eq_getElem hj]
  exact List.getElem_mem _
theorem Aj {ps:List ByteArray} {j:Nat} (hj:j < ps.length):(mh ps)[j]?=some (.string (pc ps j)):=by
  unfold mh pc
  rw [List.getElem?_map,List.getD_eq_getElem?_getD,List.getElem?_eq_getElem hj]
  rfl
theorem C5 {ps:List ByteArray} {j:Nat} (hj:j < ps.length):ps.drop j=pc ps j::ps.drop (j+1):=by
  unfold pc
  rw [List.getD_eq_getElem?_getD,List.getElem?_eq_getElem hj]
  exact List.drop_eq_getElem_cons hj
theorem FW {ps:List ByteArray}:(∀ p∈ps,bG p)↔∀ j,j < ps.length->bG (pc ps j):=by
  refine⟨fun h j hj=>h _ (Li hj),fun h p hp=>?_⟩
  obtain⟨j,hj,rfl⟩:=List.getElem_of_mem hp
  have:=h j hj
  unfold pc at this
  rw [List.getD_eq_getElem?_getD,List.getElem?_eq_getElem hj] at this
  exact this
theorem DL {n:ByteArray} (h:bG n):n.size<=1048576:=Nat.le_trans h.2.1 (by decide)
theorem FX {O:bT}:∀ {ps:List ByteArray} {d:Nat} {e:Int},iM O d ps=.error e->e≠0
  | [],d,e,h=>by cases h;decide
  | [p],d,e,h=>by
    unfold iM at h
    split at h
    ·cases h;decide
    cases h
  | p::q::r,d,e,h=>by
    unfold iM at h
    split at h
    ·cases h;decide
    split at h
    ·cases h;decide
    split at h
    ·cases h;decide
    exact FX h
theorem DM {S:aH} {d:Nat} (hI:Inv S) (hd:Live S.idx ⟨d,2⟩) (path:ByteArray):(∃ e,iB S.O d path=.error e/\e≠0)\/∃ d' name,iB S.O d path=.ok (d',name)/\Live S.idx ⟨d',2⟩/\(obj S.O d').gone=false/\bG name:=by
  cases h:iB S.O d path with
  | error e=>
    refine .inl ⟨e,rfl,?_⟩
    unfold iB at h
    split at h
    ·exact FX h
    cases h;decide
  | ok x=>
    obtain⟨d',name⟩:=x
    exact .inr ⟨d',name,rfl,uV hI.toInv0 hd h⟩
section way
variable {O:bT} {d:Nat} {ps:List ByteArray} {j:Nat}
theorem DN (hj:j+1=ps.length):iM O d (ps.drop j)=if (obj O d).gone=true then .error 170 else .ok (d,pc ps j):=by
  rw [C5 (by omega),List.drop_of_length_le (by omega)]
  rfl
theorem ul (hj:j+1 < ps.length):iM O d (ps.drop j)=match aT (pc ps j) (obj O d).ah with
    | none=>.error 170
    | some t=>if t.kind=3 then .error 174 else if t.kind=1 then .error 173 else iM O t.k (ps.drop (j+1)):=by
  rw [C5 (j:=j) (by omega),C5 (j:=j+1) hj]
  rfl
end way
section bytes
variable {P:Program} {β:Bs} {N:Nat} {ops:Array Oper} {k:Nat} {fr:Fr} {hps:List HP} {Q:Post} {d:Option Tmp} {s:ByteArray}
theorem Bs.ok.Pw {β:Bs} {w:World} (h:β.ok w) (F:Nat->Prop):β.le ⟨fun k=>β.O k\/F k,w⟩:=⟨fun _ h=>.inl h,h.os,h.tape,h.output,h.size,fun k hk=>h.old k hk⟩
theorem aj.FY {t1 t2 e:TypeId} {x:Operand} (hop:∀ junk,fo N junk ops fr k=some (.convert t1 t2 x,d)) (hx:∀ junk,di N fr junk x=.string s) (h1:P.underlying t1=some .string) (h2:P.underlying t2=some (.slice e)) (h3:P.underlying e=some (.int .u8))
    (K:∀ b cap,s.data.toList.length<=cap->aj P β N ops (k+1) (dJ fr d (.slice (some ⟨b,0,none⟩) s.data.toList.length cap)) (hps++[.abs (kW β (fun β'=>bA β' (some ⟨b,0,none⟩) s.data.toList))]) Q):aj P β N ops k fr hps Q:=by
  refine aj.zC (ι:={ p:Nat×Nat // s.data.toList.length<=p.2 }) (v:=fun p=>.slice (some ⟨p.1.1,0,none⟩) s.data.toList.length p.1.2) (hp':=fun p=>hps++[.abs (kW β (fun β'=>bA β' (some ⟨p.1.1,0,none⟩) s.data.toList))]) hop (fun o junk w ho hS=>?_) (fun p=>K p.1.1 p.1.2 p.2)
  have hr:=run_bytes_of_string (P:=P) w t1 t2 e s h1 h2 h3
  have hsz:s.data.toList.length=s.size:=Array.length_toList ..
  generalize hw:(w.drew.alloc (.cells (bytesRow s (grownCap w s.size 0 e)) e ((bytesRow s (grownCap w s.size 0 e)).size,(bytesRow s (grownCap w s.size 0 e)).size+1)))=w' at hr
  have hk:Keeps (fun _=>False) w w':=by rw [← hw];exact (Keeps.refl _ _).drew.alloc _
  have hok:=hS.1.keeps hk (fun _ _ h=>h)
  have hheap:w'.heap[w.heap.size]?=some (.cells (bytesRow s (grownCap w s.size 0 e)) e ((bytesRow s (grownCap w s.size 0 e)).size,(bytesRow s (grownCap w s.size 0 e)).size+1)):=by
    rw [← hw]
    show (w.heap.push _)[w.heap.size]?=_
    simp
  have hsize:w.heap.size < w'.heap.size:=by
    have:=(Array.getElem?_eq_some_iff.1 hheap).1
    exact this
  refine⟨⟨(w.heap.size,grownCap w s.size 0 e),by rw [hsz];exact grownCap_ge w s.size 0 e⟩,w',.inl ?_,hS.new (F:=fun k=>k=w.heap.size) ?_ hk (fun k e=>Nat.le_of_eq e.symm)⟩
  ·obtain⟨dst,op,type,pos,after,guard⟩:=o
   cases ho
   have hr2:(convert t1 t2 (.string s)).run P w=.ok (.slice (some ⟨w.heap.size,0,none⟩) s.data.toList.length (grownCap w s.size 0 e)) w':=by rw [hr,hsz]
   simp only [execOp,hx]
   simp [hr2,Result.andThen]
  refine⟨⟨fun k=>β.O k\/k=w.heap.size,w'⟩,hok.Pw _,fun _ h=>h,fun _ h=>.inr h,Nat.le_refl _,fun k hk=>⟨by rw [hk];exact hsize,rfl⟩,fun j v hj=>⟨rfl,.inr rfl,?_⟩⟩
  show World.cell? w' ⟨w.heap.size,0+j,none⟩=some v
  have hj2:=bp hj
  unfold World.cell?
  rw [hheap]
  unfold bY at hj hj2
  rw [List.length_map] at hj2
  rw [List.getElem?_map,List.getElem?_eq_getElem hj2] at hj
  simp only [Option.map_some,Option.some.injEq] at hj
  subst hj
  unfold bytesRow
  rw [Nat.zero_add]
  simp only [Option.isSome_none,Bool.false_eq_true,if_false]
  have hj3:j < s.data.size:=by rw [← Array.length_toList];exact hj2
  rw [Array.getElem?_append_left (by simpa using hj3)]
  simp [vu]
  exact⟨_,Array.getElem?_eq_getElem hj3,rfl⟩
end bytes
theorem BU {β:Bs} (S:aH) (L:HL) (f m t:Nat) (hI:Inv S) (k:Nat) (hk:Live S.idx ⟨k,1⟩) (A:Option Addr) (c:Nat) (bs:List UInt8) (hbl:bs.length<=1099511627776) (hbc:bs.length<=c) :
    Spec Tryz.prog β 133 #[vP f,vP (L.b k),.slice A bs.length c] (.abs (kW β (fun β'=>bA β' A bs))::pA f m t L S) (fun v l=>∃ L2,v=.tuple #[vI (cW S k bs).1,vI (cW S k bs).2.1]/\l=pA f m t L2 (cW S k bs).2.2):=
  Spec.Je fun _ _ hA=>DH S L f m t hI k hk A c bs hA hbl hbc
def Ak (L:HL):Except Int (Nat×ByteArray)->Value
  | .error e=>.tuple #[.pointer none,.string ⟨#[]⟩,.int .i64 e]
  | .ok (d,p)=>.tuple #[.pointer (some ⟨L.b d,0,none⟩),.string p,.int .i64 0]
end
section
open Go.RowKit Go.Maps bD aE
attribute [local irreducible] aj aP af ai
theorem yU {β:Bs} (S:aH) (L:HL) (f:Nat) (hI:Inv S) (d:Nat) (hd:Live S.idx ⟨d,2⟩) (path:ByteArray) (hsz:path.size<=1048576) (hg:jg β) :
    Spec Tryz.prog β 256 #[vP f,vP (L.b d),.string path] [.abs (ax (bI S.O L)),.abs (ax (cK S.O L))] (fun v l=>v=Ak L (iB S.O d path)/\l=[.abs (ax (bI S.O L)),.abs (ax (cK S.O L))]):=by
 have hkd:(obj S.O d).kind=2:=hI.kind hd
 obtain⟨ps,hps⟩:∃ ps,ps=jo path:=⟨_,rfl⟩
 have hpl:1<=ps.length/\ps.length<=1048577:=by rw [hps,BS];have:=yq path;omega
 have Lj:∀ q,q < ps.length->(pc ps q).size<=1048576:=fun q hq=>Nat.le_trans (GK (hps ▸ Li hq)) hsz
 refine Spec.enter Tryz.func256 rfl Tryz.ntmps256 (Nat.le_of_ble_eq_true rfl) (fun R=>?_)
 refine SR (gK 3 [] [] ?_)
 refine NS (gK 1 [(19,.string path)] [] ?_)
 refine gL [] (Lh hg path hsz hps) ?_
 rintro _ _ ⟨b1,rfl,rfl⟩
 refine gK 1 [(9,.slice (some ⟨b1,0,none⟩) (ps.length) (ps.length))] [] ?_
 refine NN (af.seq (SR (gK 3 [(21,.slice (some ⟨b1,0,none⟩) (ps.length) (ps.length)),(22,vI ↑ps.length),(23,vI 0)] [] ?_)))
 refine NN (af.block ?_)
 refine af.loop (ι:=Nat) (fun (j:Nat)=>(j<=ps.length)/\(∀ q,q < j->bG (pc ps q))) (fun (j:Nat)=>ps.length - j) (fun (j:Nat)=>[(1,vP (L.b d)),(9,.slice (some ⟨b1,0,none⟩) (ps.length) (ps.length)),(21,.slice (some ⟨b1,0,none⟩) (ps.length) (ps.length)),(22,vI ↑ps.length),(23,vI ↑j)]) (fun (j:Nat)=>[pO S.O L,pE S.O L,.abs (aK 9 1 (some ⟨b1,0,none⟩) ps.length ps.length (mh ps)),.abs R]) 0 (idx:=[1,9,21,22,23]) (pk:=[1,2,0,3]) (show (0<=ps.length)/\(∀ q,q < 0->bG (pc ps q)) from ⟨Nat.zero_le _,fun q h=>absurd h (Nat.not_lt_zero q)⟩) (fun _=>by kernel_rfl) rfl (by kernel_rfl) ?_
 rintro j ⟨hj,hgd⟩
 show af _ _ _ _ [(1,vP (L.b d)),(9,.slice (some ⟨b1,0,none⟩) (ps.length) (ps.length)),(21,.slice (some ⟨b1,0,none⟩) (ps.length) (ps.length)),(22,vI ↑ps.length),(23,vI ↑j)] [pO S.O L,pE S.O L,.abs (aK 9 1 (some ⟨b1,0,none⟩) ps.length ps.length (mh ps)),.abs R] _
 refine SR (gK 1 [(24,.bool (decide ((((j:Nat):Int):Int) < (((ps.length:Nat):Int):Int))))] [] ?_)
 refine NN (af.seq (af.aV (p:=(((j:Nat):Int):Int) < (((ps.length:Nat):Int):Int)) (fun _=>by kernel_rfl) (fun wM=>?_) (fun wM=>?_)))
 ·refine af.skip (NX (af.seq (af.block (SR ?_))))
  refine gK 3 [(11,.string (pc ps j))] [(0,p_ ⟨[],some j,none,none,some (.pointer (some ⟨b1,j,none⟩))⟩ [(Value.pointer (some ⟨b1,0+j * 1,none⟩))=(.pointer (some ⟨b1,j,none⟩)),((j:Nat):Int)=((j:Nat):Int),j < ps.length,(⟨b1,0,none⟩:Addr).spot=none] ⟨by simp,rfl,by omega,rfl,trivial⟩),(1,p_ ⟨[.view 2 (.string (pc ps j))],none,none,none,none⟩ [(∀ F w,(aK 9 1 (some ⟨b1,0,none⟩) ps.length ps.length (mh ps)).h F w->w.cell? ⟨b1,j,none⟩=some (.string (pc ps j)))] ⟨aK.cell (Aj (by omega)),trivial⟩)] ?_
  refine NS (gK 1 [(27,.string (pc ps j))] [] ?_)
  refine gL [] (sF (pc ps j) (by have:=Lj j (by omega);omega)) ?_
  rintro _ _ ⟨rfl,rfl⟩
  refine gK 1 [(29,.bool (!(decide (bG (pc ps j)))))] [] ?_
  refine NN (af.cX (p:=bG (pc ps j)) (fun _=>by kernel_rfl) (fun Lk=>?_) (fun Lk=>?_))
  ·refine SR (gK 3 [(6,.pointer none),(7,.string ⟨#[]⟩),(8,vI 95)] [] ?_)
   refine NN (af.ret (ai.aG (ai.ak (ai.ak (ai.aG (ai.ak ?_))))))
   exact RT (l:=[.abs (ax (bI S.O L)),.abs (ax (cK S.O L))]) (.tuple #[.pointer none,.string ⟨#[]⟩,vI 95]) [0,1,3] (⟨congrArg (Ak L) (Eq.symm (show iB S.O d path=.error 95 from if_neg (fun h=>Lk (FW.1 (hps ▸ h) j (by omega))))),rfl⟩)
  refine af.skip (ai.aJ (NX (af.region ?_)))
  refine gK 2 [(23,vI ↑(j+1))] [(0,p_ ⟨[],none,none,none,some (vI ↑(j+1))⟩ [(Value.int .i64 (IntKind.wrap .i64 (((j:Nat):Int)+1)))=(.int .i64 ↑(j+1))] ⟨bn (by omega) (by omega) (by omega),trivial⟩)] ?_
  refine NL ?_
  exact ai.turn ((j+1)) (idx:=[1,9,21,22,23]) (pk:=[0,1,2,3]) (show (((j+1))<=ps.length)/\(∀ q,q < ((j+1))->bG (pc ps q)) from ⟨by omega,fun q hq=>(Nat.lt_succ_iff_lt_or_eq.1 hq).elim (hgd q) (fun e=>e ▸ Lk)⟩) (by show ps.length - ((j+1)) < ps.length - j;omega) (fun _=>by kernel_rfl) rfl (by kernel_rfl)
 refine af.exit (ai.aS (ai.aS (ai.cD (NX (SR ?_)))))
 have hall:∀ p∈ps,bG p:=FW.2 (fun q hq=>hgd q (by omega))
 refine gK 4 [(12,vI ↑(ps.length - 1))] [(2,p_ ⟨[],none,none,none,some (vI ↑(ps.length - 1))⟩ [(Value.int .i64 (IntKind.wrap .i64 (((ps.length:Nat):Int) - 1)))=(.int .i64 ↑(ps.length - 1))] ⟨bn (by omega) (by omega) (by omega),trivial⟩)] ?_
 refine NN (af.seq (SR (gK 5 [(36,.slice (some ⟨b1,0,none⟩) ((ps.length - 1)) (ps.length)),(37,vI ↑(ps.length - 1)),(38,vI 0)] [(2,p_ ⟨[],some (ps.length - 1),none,none,none⟩ [(((ps.length - 1):Nat):Int)=(((ps.length - 1):Nat):Int),(ps.length - 1)<=ps.length] ⟨rfl,by omega,trivial⟩)] ?_)))
 refine NN (af.block ?_)
 refine af.loop (ι:=Nat×Nat) (fun ((j,e):Nat×Nat)=>(j<=ps.length - 1)/\(Live S.idx ⟨e,2⟩)/\(iM S.O d ps=iM S.O e (ps.drop j))) (fun ((j,e):Nat×Nat)=>ps.length - 1 - j) (fun ((j,e):Nat×Nat)=>[(1,vP (L.b e)),(9,.slice (some ⟨b1,0,none⟩) (ps.length) (ps.length)),(12,vI ↑(ps.length - 1)),(36,.slice (some ⟨b1,0,none⟩) ((ps.length - 1)) (ps.length)),(37,vI ↑(ps.length - 1)),(38,vI ↑j)]) (fun ((j,e):Nat×Nat)=>[pO S.O L,pE S.O L,.abs (aK 9 1 (some ⟨b1,0,none⟩) ps.length ps.length (mh ps)),.abs R]) (0,d) (idx:=[1,9,12,36,37,38]) (pk:=[0,1,2,3]) (show (0<=ps.length - 1)/\(Live S.idx ⟨d,2⟩)/\(iM S.O d ps=iM S.O d (ps.drop 0)) from ⟨Nat.zero_le _,hd,by rw [List.drop_zero]⟩) (fun _=>by kernel_rfl) rfl (by kernel_rfl) ?_
 rintro⟨j,e⟩ ⟨hj,hle,hw⟩
 show af _ _ _ _ [(1,vP (L.b e)),(9,.slice (some ⟨b1,0,none⟩) (ps.length) (ps.length)),(12,vI ↑(ps.length - 1)),(36,.slice (some ⟨b1,0,none⟩) ((ps.length - 1)) (ps.length)),(37,vI ↑(ps.length - 1)),(38,vI ↑j)] [pO S.O L,pE S.O L,.abs (aK 9 1 (some ⟨b1,0,none⟩) ps.length ps.length (mh ps)),.abs R] _
 have hke:(obj S.O e).kind=2:=hI.kind hle
 refine SR (gK 1 [(39,.bool (decide ((((j:Nat):Int):Int) < ((((ps.length - 1):Nat):Int):Int))))] [] ?_)
 refine NN (af.seq (af.aV (p:=(((j:Nat):Int):Int) < ((((ps.length - 1):Nat):Int):Int)) (fun _=>by kernel_rfl) (fun jj=>?_) (fun jj=>?_)))
 ·have o3:(pc ps j).size<=1048576:=Lj j (by omega)
  have hee:(obj S.O e).ah.length<=8192:=hI.gy hle
  refine af.skip (NX (af.seq (af.block (SR ?_))))
  refine gK 3 [(14,.string (pc ps j))] [(0,p_ ⟨[],some j,none,none,some (.pointer (some ⟨b1,j,none⟩))⟩ [(Value.pointer (some ⟨b1,0+j * 1,none⟩))=(.pointer (some ⟨b1,j,none⟩)),((j:Nat):Int)=((j:Nat):Int),j < (ps.length - 1),(⟨b1,0,none⟩:Addr).spot=none] ⟨by simp,rfl,by omega,rfl,trivial⟩),(1,p_ ⟨[.view 2 (.string (pc ps j))],none,none,none,none⟩ [(∀ F w,(aK 9 1 (some ⟨b1,0,none⟩) ps.length ps.length (mh ps)).h F w->w.cell? ⟨b1,j,none⟩=some (.string (pc ps j)))] ⟨aK.cell (Aj (by omega)),trivial⟩)] ?_
  refine NN (af.seq ?_)
  rcases hI.mr hle (pc ps j) with hlk|⟨tk,hlk,hlv⟩|⟨tk,hlk,hlv⟩|⟨tk,hlk,hlv⟩
  ·refine af.region (gK 5 [(45,.map (some (L.m e))),(46,.string (pc ps j))] [(3,v_ 0 (bw L hke))] ?_)
   refine iD 1 hke hlk ?_
   refine NN (af.block (SR ?_))
   refine gK 1 [(48,.bool true)] [] ?_
   refine NN (CT (SR (gK 1 [] [] ?_)))
   refine NS (gK 3 [(6,.pointer none),(7,.string ⟨#[]⟩),(8,vI 170)] [] ?_)
   refine NN (af.ret (ai.aG (ai.aG (ai.ak (ai.ak (ai.aG (ai.ak ?_)))))))
   exact RT (l:=[.abs (ax (bI S.O L)),.abs (ax (cK S.O L))]) (.tuple #[.pointer none,.string ⟨#[]⟩,vI 170]) [0,1,3] (⟨congrArg (Ak L) (Eq.symm (show iB S.O d path=.error 170 from (show iB S.O d path=iM S.O d ps by unfold iB;rw [← hps];exact if_pos hall).trans (hw.trans ((ul (by omega)).trans (by rw [hlk]<;>rfl))))),rfl⟩)
  ·have hkt:(obj S.O tk).kind=1:=hI.kind hlv
   refine af.region (gK 5 [(45,.map (some (L.m e))),(46,.string (pc ps j))] [(3,v_ 0 (bw L hke))] ?_)
   refine iD 1 hke hlk ?_
   refine NN (af.block (SR ?_))
   refine gK 1 [(48,.bool false)] [] ?_
   refine NN (CF (SR (gK 3 [(50,.bool false),(51,.pointer none)] [] ?_)))
   refine NN (CF (SR (gK 3 [(53,.bool true),(54,vP (L.b tk))] [] ?_)))
   refine NN (CT (SR (gK 1 [] [] ?_)))
   refine NS (gK 3 [(6,.pointer none),(7,.string ⟨#[]⟩),(8,vI 173)] [] ?_)
   refine NN (af.ret (ai.aG (ai.aG (ai.ak (ai.ak (ai.aG (ai.ak ?_)))))))
   exact RT (l:=[.abs (ax (bI S.O L)),.abs (ax (cK S.O L))]) (.tuple #[.pointer none,.string ⟨#[]⟩,vI 173]) [0,1,3] (⟨congrArg (Ak L) (Eq.symm (show iB S.O d path=.error 173 from (show iB S.O d path=iM S.O d ps by unfold iB;rw [← hps];exact if_pos hall).trans (hw.trans ((ul (by omega)).trans (by rw [hlk]<;>rfl))))),rfl⟩)
  ·have hkt:(obj S.O tk).kind=2:=hI.kind hlv
   refine af.region (gK 5 [(45,.map (some (L.m e))),(46,.string (pc ps j))] [(3,v_ 0 (bw L hke))] ?_)
   refine iD 1 hke hlk ?_
   refine NN (af.block (SR ?_))
   refine gK 1 [(48,.bool false)] [] ?_
   refine NN (CF (SR (gK 3 [(50,.bool false),(51,.pointer none)] [] ?_)))
   refine NN (CF (SR (gK 3 [(53,.bool false),(54,.pointer none)] [] ?_)))
   refine NN (CF (SR (gK 3 [(56,.bool true),(57,vP (L.b tk))] [] ?_)))
   refine NN (CT (SR (gK 1 [(18,vP (L.b tk))] [] ?_)))
   refine NN (af.region (gK 2 [(1,vP (L.b tk))] [] ?_))
   refine NL (ai.aJ (ai.aJ (NX (af.region ?_))))
   refine gK 2 [(38,vI ↑(j+1))] [(0,p_ ⟨[],none,none,none,some (vI ↑(j+1))⟩ [(Value.int .i64 (IntKind.wrap .i64 (((j:Nat):Int)+1)))=(.int .i64 ↑(j+1))] ⟨bn (by omega) (by omega) (by omega),trivial⟩)] ?_
   refine NL ?_
   exact ai.turn ((j+1),tk) (idx:=[1,9,12,36,37,38]) (pk:=[0,1,2,3]) (show (((j+1))<=ps.length - 1)/\(Live S.idx ⟨tk,2⟩)/\(iM S.O d ps=iM S.O tk (ps.drop ((j+1)))) from ⟨by omega,hlv,hw.trans ((ul (by omega)).trans (by rw [hlk]<;>rfl))⟩) (by show ps.length - 1 - ((j+1)) < ps.length - 1 - j;omega) (fun _=>by kernel_rfl) rfl (by kernel_rfl)
  have hkt:(obj S.O tk).kind=3:=hI.kind hlv
  refine af.region (gK 5 [(45,.map (some (L.m e))),(46,.string (pc ps j))] [(3,v_ 0 (bw L hke))] ?_)
  refine iD 1 hke hlk ?_
  refine NN (af.block (SR ?_))
  refine gK 1 [(48,.bool false)] [] ?_
  refine NN (CF (SR (gK 3 [(50,.bool true),(51,vP (L.b tk))] [] ?_)))
  refine NN (CT (SR (gK 1 [] [] ?_)))
  refine NS (gK 3 [(6,.pointer none),(7,.string ⟨#[]⟩),(8,vI 174)] [] ?_)
  refine NN (af.ret (ai.aG (ai.aG (ai.ak (ai.ak (ai.aG (ai.ak ?_)))))))
  exact RT (l:=[.abs (ax (bI S.O L)),.abs (ax (cK S.O L))]) (.tuple #[.pointer none,.string ⟨#[]⟩,vI 174]) [0,1,3] (⟨congrArg (Ak L) (Eq.symm (show iB S.O d path=.error 174 from (show iB S.O d path=iM S.O d ps by unfold iB;rw [← hps];exact if_pos hall).trans (hw.trans ((ul (by omega)).trans (by rw [hlk]<;>rfl))))),rfl⟩)
 have ej:j=ps.length - 1:=by omega
 refine af.exit (ai.aS (ai.aS (ai.cD (NX (af.seq (SR ?_))))))
 refine gK 5 [(64,.bool (obj S.O e).gone)] [(4,v_ 0 (nK L hke))] ?_
 refine NN (af.cond (b:=(obj S.O e).gone) (fun _=>by kernel_rfl) (fun Ru=>?_) (fun Ru=>?_))
 ·refine SR (gK 3 [(6,.pointer none),(7,.string ⟨#[]⟩),(8,vI 170)] [] ?_)
  refine NN (af.ret (ai.ak ?_))
  exact RT (l:=[.abs (ax (bI S.O L)),.abs (ax (cK S.O L))]) (.tuple #[.pointer none,.string ⟨#[]⟩,vI 170]) [0,1,3] (⟨congrArg (Ak L) (Eq.symm ((show iB S.O d path=iM S.O d ps by unfold iB;rw [← hps];exact if_pos hall).trans (hw.trans ((DN (by omega)).trans (if_pos Ru))))),rfl⟩)
 refine af.skip (NX (af.seq (af.bF (by kernel_rfl) (by kernel_rfl) ?_)))
 refine gQ 8 [(6,vP (L.b e)),(7,.string (pc ps (ps.length - 1))),(8,vI 0)] [(3,p_ ⟨[],some (ps.length - 1),none,none,some (.pointer (some ⟨b1,(ps.length - 1),none⟩))⟩ [(Value.pointer (some ⟨b1,0+(ps.length - 1) * 1,none⟩))=(.pointer (some ⟨b1,(ps.length - 1),none⟩)),(((ps.length - 1):Nat):Int)=(((ps.length - 1):Nat):Int),(ps.length - 1) < ps.length,(⟨b1,0,none⟩:Addr).spot=none] ⟨by simp,rfl,by omega,rfl,trivial⟩),(4,p_ ⟨[.view 2 (.string (pc ps (ps.length - 1)))],none,none,none,none⟩ [(∀ F w,(aK 9 1 (some ⟨b1,0,none⟩) ps.length ps.length (mh ps)).h F w->w.cell? ⟨b1,(ps.length - 1),none⟩=some (.string (pc ps (ps.length - 1))))] ⟨aK.cell (Aj (by omega)),trivial⟩)] ?_
 refine NQ (NX (af.ret ?_))
 exact RT (l:=[.abs (ax (bI S.O L)),.abs (ax (cK S.O L))]) (.tuple #[vP (L.b e),.string (pc ps (ps.length - 1)),vI 0]) [0,1,3] (⟨by rw [← ej];exact congrArg (Ak L) (Eq.symm (show iB S.O d path=.ok (e,pc ps j) from (show iB S.O d path=iM S.O d ps by unfold iB;rw [← hps];exact if_pos hall).trans (hw.trans ((DN (by omega)).trans (if_neg (by rw [Ru];exact Bool.false_ne_true)))))),rfl⟩)
end
section
open Go.RowKit Go.Maps bD aE
attribute [local irreducible] aj aP af ai
theorem Px {β:Bs} (S:aH) (L:HL) (f m t:Nat) (hI:Inv S) (root:Int) (hrw:(Lit.int .i64 root).wf=true) (a:cO) (Lj:a.path.size<=1048576) (Ow:a.to.size<=1048576) (hxz:a.text.size<=1048576) (hg:jg β) :
    Spec Tryz.prog β 255 #[vP f,vI (root),.agg #[vI (a.at_),vI (a.op),.string a.path,.string a.to,.string a.text]] [.blk f [vI (S.X.cN),vI (S.X.cB),vI (S.X.cH),vI (S.X.cS),vI (S.X.cZ),.map (some m),vP t,vI (S.X.last),vI (S.X.ah),vI (S.X.used)] 126,.abs (aL Tryz.prog 3 m (aX (aY L S.idx)) S.idx.length),.abs (cV 197 t S.X.cH S.ay (aY L S.us)),.abs (ax (bI S.O L)),.abs (ax (bJ S.O L)),.abs (ax (cK S.O L))] (fun v l=>∃ L2,v=vI (cF S root a).1/\l=[.blk f [vI ((cF S root a).2.X.cN),vI ((cF S root a).2.X.cB),vI ((cF S root a).2.X.cH),vI ((cF S root a).2.X.cS),vI ((cF S root a).2.X.cZ),.map (some m),vP t,vI ((cF S root a).2.X.last),vI ((cF S root a).2.X.ah),vI ((cF S root a).2.X.used)] 126,.abs (aL Tryz.prog 3 m (aX (aY L2 (cF S root a).2.idx)) ((cF S root a).2.idx.length)),.abs (cV 197 t (cF S root a).2.X.cH ((cF S root a).2.ay) (aY L2 ((cF S root a).2.us))),.abs (ax (bI ((cF S root a).2.O) L2)),.abs (ax (bJ ((cF S root a).2.O) L2)),.abs (ax (cK ((cF S root a).2.O) L2))]):=by
 have hX:=hI.hX
 refine Spec.enter Tryz.func255 rfl Tryz.ntmps255 (Nat.le_of_ble_eq_true rfl) (fun R=>?_)
 refine SR (gN 2 (fun b1=>[(5,vP b1)]) (fun _=>[]) (fun _=>[]) (fun b1=>.blk b1 [vI (a.at_),vI (a.op),.string a.path,.string a.to,.string a.text] 41) (fun b1=>?_))
 refine NN (af.seq (SR (gK 4 [(25,.bool (decide ((a.op:Int) < (1:Int))))] [(1,a_ 7 b1)] ?_)))
 refine aj.gE 25 ((a.op:Int) < (1:Int)) (fun _=>by kernel_rfl) (fun wE=>?_) (fun wE=>?_)
 ·refine gK 4 [(29,.bool true)] [] ?_
  refine NN (CT (SR (gK 1 [(6,vI 230)] [] ?_)))
  refine NN (af.ret (ai.ak ?_))
  exact RT (vI 230) [0,1,2,3,4,5,6] (⟨L,by rw [show (cF S root a)=(230,S) by unfold cF;exact if_pos (by omega)]<;>exact⟨rfl,rfl⟩⟩)
 refine gK 4 [(29,.bool (decide ((a.op:Int) > (7:Int))))] [(1,a_ 7 b1)] ?_
 refine NN (af.aV (p:=(a.op:Int) > (7:Int)) (fun _=>by kernel_rfl) (fun Lk=>?_) (fun Lk=>?_))
 ·refine SR (gK 1 [(6,vI 230)] [] ?_)
  refine NN (af.ret (ai.ak ?_))
  exact RT (vI 230) [0,1,2,3,4,5,6] (⟨L,by rw [show (cF S root a)=(230,S) by unfold cF;exact if_pos (by omega)]<;>exact⟨rfl,rfl⟩⟩)
 refine af.skip (NX (af.seq ?_))
 rcases hI.Qq root with hix|⟨tk,hix,hlv⟩|⟨tk,hix,hlv⟩|⟨tk,hix,hlv⟩
 ·refine af.region (gK 5 [(33,.map (some m)),(34,vI (root))] [(3,a_ 0 f)] ?_)
  refine aj.dR 1 (d:=(some 35)) (t:=120) (K:=3) (E:=124) (b:=m) (n:=S.idx.length) (f:=(aX (aY L S.idx))) (x:=(.tmp 33)) (ix:=(.tmp 34)) (key:=.int .i64 (root)) (z:=.nilIface) (kl:=(.int .i64 root)) (r:=none) (fun _=>by kernel_rfl) (by kernel_rfl) (fun _=>by kernel_rfl) (fun _=>by kernel_rfl) dw Tryz.underlying120 (fun _=>by kernel_rfl) (gY hrw) (by rw [fC,hix];rfl) ?_
  refine gK 1 [(7,.nilIface)] [] ?_
  refine NN (af.seq (SR (gK 2 [(37,.bool true)] [] ?_)))
  refine NN (CT (SR (gK 1 [(6,vI 141)] [] ?_)))
  refine NN (af.ret (ai.ak ?_))
  exact RT (vI 141) [0,1,2,3,4,5,6] (⟨L,by rw [show (cF S root a)=(141,S) by unfold cF;rw [if_neg (by omega),hix]]<;>exact⟨rfl,rfl⟩⟩)
 ·have hkt:(obj S.O tk).kind=1:=hI.kind hlv
  refine af.region (gK 5 [(33,.map (some m)),(34,vI (root))] [(3,a_ 0 f)] ?_)
  refine aj.dR 1 (d:=(some 35)) (t:=120) (K:=3) (E:=124) (b:=m) (n:=S.idx.length) (f:=(aX (aY L S.idx))) (x:=(.tmp 33)) (ix:=(.tmp 34)) (key:=.int .i64 (root)) (z:=.nilIface) (kl:=(.int .i64 root)) (r:=(some (dQ L ⟨tk,1⟩))) (fun _=>by kernel_rfl) (by kernel_rfl) (fun _=>by kernel_rfl) (fun _=>by kernel_rfl) dw Tryz.underlying120 (fun _=>by kernel_rfl) (gY hrw) (by rw [fC,hix];rfl) ?_
  refine gK 1 [(7,.iface 129 (vP (L.b tk)))] [] ?_
  refine NN (af.seq (SR (gK 2 [(37,.bool false)] [] ?_)))
  refine NN (CF (af.skip (NX (SR (gK 7 [(8,.pointer none),(9,.bool false)] [] ?_)))))
  refine NN (af.seq (SR (gK 2 [(44,.bool true)] [] ?_)))
  refine NN (CT (SR (gK 1 [(6,vI 173)] [] ?_)))
  refine NN (af.ret (ai.ak ?_))
  exact RT (vI 173) [0,1,2,3,4,5,6] (⟨L,by rw [show (cF S root a)=(173,S) by unfold cF;rw [if_neg (by omega),hix];simp only;exact if_neg (by simp)]<;>exact⟨rfl,rfl⟩⟩)
 ·have hkt:(obj S.O tk).kind=2:=hI.kind hlv
  refine af.region (gK 5 [(33,.map (some m)),(34,vI (root))] [(3,a_ 0 f)] ?_)
  refine aj.dR 1 (d:=(some 35)) (t:=120) (K:=3) (E:=124) (b:=m) (n:=S.idx.length) (f:=(aX (aY L S.idx))) (x:=(.tmp 33)) (ix:=(.tmp 34)) (key:=.int .i64 (root)) (z:=.nilIface) (kl:=(.int .i64 root)) (r:=(some (dQ L ⟨tk,2⟩))) (fun _=>by kernel_rfl) (by kernel_rfl) (fun _=>by kernel_rfl) (fun _=>by kernel_rfl) dw Tryz.underlying120 (fun _=>by kernel_rfl) (gY hrw) (by rw [fC,hix];rfl) ?_
  refine gK 1 [(7,.iface 135 (vP (L.b tk)))] [] ?_
  refine NN (af.seq (SR (gK 2 [(37,.bool false)] [] ?_)))
  refine NN (CF (af.skip (NX (SR (gK 7 [(8,vP (L.b tk)),(9,.bool true)] [] ?_)))))
  refine NN (af.seq (SR (gK 2 [(44,.bool false)] [] ?_)))
  refine NN (CF (af.skip (NX (SR (gK 4 [(46,vP f),(47,vP (L.b tk)),(49,.string a.path)] [(3,a_ 7 b1)] ?_)))))
  rcases DM hI hlv a.path with ⟨e,jN,hne⟩|⟨d,name,jN,hd,iX,iP⟩
  ·refine gL (f:=256) (args:=#[vP f,vP (L.b tk),.string a.path]) (pre:=[.abs (ax (bI S.O L)),.abs (ax (cK S.O L))]) [3,5] ((by have h:=yU (β:=β) S L f hI tk hlv a.path Lj hg;rw [jN] at h;exact h)) ?_
   rintro _ _ ⟨rfl,rfl⟩
   refine gK 7 [(10,.pointer none),(11,.string ⟨#[]⟩),(12,vI (e))] [] ?_
   refine NN (af.seq (SR (gK 2 [(55,.bool (!(decide ((e:Int)=(0:Int)))))] [] ?_)))
   refine NN (af.cX (p:=(e:Int)=(0:Int)) (fun _=>by kernel_rfl) (fun TY=>?_) (fun TY=>?_))
   ·refine SR (gK 2 [(6,vI (e))] [] ?_)
    refine NN (af.ret (ai.ak ?_))
    exact RT (vI (e)) [2,3,4,0,5,1,6] (⟨L,by rw [show (cF S root a)=(e,S) by unfold cF;rw [if_neg (by omega),hix];simp only;rw [if_pos trivial,jN]]<;>exact⟨rfl,rfl⟩⟩)
   exact absurd TY hne
  have hkd:(obj S.O d).kind=2:=hI.kind hd
  have hsz:name.size<=1048576:=DL iP
  refine gL (f:=256) (args:=#[vP f,vP (L.b tk),.string a.path]) (pre:=[.abs (ax (bI S.O L)),.abs (ax (cK S.O L))]) [3,5] ((by have h:=yU (β:=β) S L f hI tk hlv a.path Lj hg;rw [jN] at h;exact h)) ?_
  rintro _ _ ⟨rfl,rfl⟩
  refine gK 7 [(10,vP (L.b d)),(11,.string name),(12,vI 0)] [] ?_
  refine NN (af.seq (SR (gK 2 [(55,.bool false)] [] ?_)))
  refine NN (CF (af.skip (NX (af.seq (SR (gK 2 [(58,vI (a.op))] [(1,a_ 7 b1)] ?_))))))
  refine NN (af.block (SR ?_))
  refine gK 2 [(59,.bool (decide ((a.op:Int)=(1:Int))))] [] ?_
  refine NN (af.aV (p:=(a.op:Int)=(1:Int)) (fun _=>by kernel_rfl) (fun Rv=>?_) (fun Rv=>?_))
  ·refine af.seq (SR (gK 3 [(61,vP f),(62,vP (L.b d)),(63,.string name)] [] ?_))
   refine gL [2,3,1,0] (t7 S L f m t hI d hd name hsz) ?_
   rintro _ _ ⟨rfl,rfl⟩
   refine gK 1 [(12,vI ((ck S.X S.O S.idx d name)))] [] ?_
   refine NS (gK 2 [(66,.bool (!(decide (((ck S.X S.O S.idx d name):Int)=(0:Int)))))] [] ?_)
   refine NN (af.cX (p:=((ck S.X S.O S.idx d name):Int)=(0:Int)) (fun _=>by kernel_rfl) (fun h0=>?_) (fun h0=>?_))
   ·refine SR (gK 2 [(6,vI ((ck S.X S.O S.idx d name)))] [] ?_)
    refine NN (af.ret (ai.ak (ai.aG (ai.ak ?_))))
    exact RT (vI ((ck S.X S.O S.idx d name))) [0,1,4,3,5,2,6] (⟨L,by rw [show (cF S root a)=(ck S.X S.O S.idx d name,S) by unfold cF;rw [if_neg (by omega),hix];simp only;rw [if_pos trivial,jN];simp only;unfold lZ;rw [if_pos (by omega)];unfold qK;exact if_neg h0]<;>exact⟨rfl,rfl⟩⟩)
   have hno:=oF h0
   refine af.skip (NX (SR (gK 1 [(68,vP f)] [] ?_)))
   refine gL [0] (t6 S.X f m t hX 420) ?_
   rintro _ _ ⟨rfl,rfl⟩
   refine gN 2 (fun b2=>[(71,vP b2)]) (fun _=>[]) (fun _=>[]) (fun b2=>.blk b2 [vI (S.X.last+1),vI (420),vI 0,vI 0,vI (S.X.cS),vI (S.X.cZ),vI 0,vI 0,.bool false,.slice none (0) (0)] 131) (fun b2=>?_)
   obtain⟨L2,hL2⟩:∃ L2:HL,L2=L.put (aO S.X) b2 0 none 0:=⟨_,rfl⟩
   have hfr:=hI.toInv0.fresh
   refine aj.mem (cR:=[.abs (ax (bI (aD S.O (aO S.X) (fun _=>(aU S.X 1 420))) L2)),.blk f [vI (S.X.cN),vI (S.X.cB),vI (S.X.cH),vI (S.X.cS),vI (S.X.cZ),.map (some m),vP t,vI (S.X.last+1),vI (S.X.ah),vI (S.X.used)] 126,.abs (aL Tryz.prog 3 m (aX (aY L S.idx)) S.idx.length),.abs (ax (cK S.O L)),.abs (cV 197 t S.X.cH S.ay (aY L S.us)),.abs (ax (bJ S.O L)),.abs R,.blk b1 [vI (a.at_),vI (a.op),.string a.path,.string a.to,.string a.text] 41]) (fun w hS=>hS.tU hL2 hfr (o:=(aU S.X 1 420)) (i:=3) (j:=8) (ix:=[0,1,2,4,5,6,7]) rfl rfl (by kernel_rfl) rfl (by show (1:Int)≠0;decide) ((ia (L:=L2) (k:=(aO S.X)) (o:=(aU S.X 1 420)) rfl).trans (by rw [show L2.dA (aO S.X)=none by rw [hL2];exact if_pos rfl,show L2.dC (aO S.X)=0 by rw [hL2];exact if_pos rfl];rfl)) rfl) ?_
   refine aj.dx [(3,pE (aD S.O (aO S.X) (fun _=>(aU S.X 1 420))) L2)] (fun w hS=>hS.uU hL2 hfr (o:=(aU S.X 1 420)) (i:=3) rfl (by show (1:Int)≠2;decide)) ?_
   refine aj.mem (cR:=[pO (aD S.O (aO S.X) (fun _=>(aU S.X 1 420))) L2,pF f m t { S.X with last:=S.X.last+1 },pI m L S.idx,pE (aD S.O (aO S.X) (fun _=>(aU S.X 1 420))) L2,pT t S.X.cH S.ay L S.us,pD S.O L,.abs R,.blk b1 [vI (a.at_),vI (a.op),.string a.path,.string a.to,.string a.text] 41,.abs (aK 5 1 none 0 0 ([]))]) (fun w hS=>hS.j7 (e:=5) (size:=1)) ?_
   refine aj.mem (cR:=[pD (aD S.O (aO S.X) (fun _=>(aU S.X 1 420))) L2,pO (aD S.O (aO S.X) (fun _=>(aU S.X 1 420))) L2,pF f m t { S.X with last:=S.X.last+1 },pI m L S.idx,pE (aD S.O (aO S.X) (fun _=>(aU S.X 1 420))) L2,pT t S.X.cH S.ay L S.us,.abs R,.blk b1 [vI (a.at_),vI (a.op),.string a.path,.string a.to,.string a.text] 41]) (fun w hS=>hS.IK hL2 (o:=(aU S.X 1 420)) (i:=5) (j:=8) (ix:=[0,1,2,3,4,6,7]) rfl rfl (by kernel_rfl) rfl rfl rfl) ?_
   refine aj.dx [(3,.abs (aL Tryz.prog 3 m (aX (aY L2 S.idx)) S.idx.length)),(5,.abs (cV 197 t S.X.cH S.ay (aY L2 S.us)))] (fun w hS=>by rw [gJ hL2 hfr.idx,gJ hL2 hfr.us];exact hS) ?_
   refine gK 1 [(13,vP b2)] [] ?_
   refine NS (gK 5 [(72,vP f),(73,vP (L.b d)),(74,.string name),(76,.iface 129 (vP b2))] [] ?_)
   refine gL (f:=127) (args:=#[vP f,vP (L.b d),.string name,.iface 129 (vP b2)]) (pre:=[.blk f [vI (S.X.cN),vI (S.X.cB),vI (S.X.cH),vI (S.X.cS),vI (S.X.cZ),.map (some m),vP t,vI (S.X.last+1),vI (S.X.ah),vI (S.X.used)] 126,.abs (aL Tryz.prog 3 m (aX (aY L2 S.idx)) S.idx.length),.abs (ax (bI (aD S.O (aO S.X) (fun _=>(aU S.X 1 420))) L2)),.abs (ax (cK (aD S.O (aO S.X) (fun _=>(aU S.X 1 420))) L2))]) [2,3,1,4] ((by have h:=rS (β:=β) S L2 f m t hI.toInv0 d hd name hsz hno (aU S.X 1 420) rfl (by simp [aU]) rfl (qq h0);rw [vO hL2 (hI.uT hd),oC hL2] at h;exact h)) ?_
   rintro _ _ ⟨rfl,rfl⟩
   refine NS (aj.dx [(4,.abs (ax (bJ ((d9 S d name (aU S.X 1 420)).O) L2)))] (fun w hS=>by rw [show bJ ((d9 S d name (aU S.X 1 420)).O) L2=bJ (aD S.O (aO S.X) (fun _=>(aU S.X 1 420))) L2 from ic];exact hS) ?_)
   have VJ:Inv (d9 S d name (aU S.X 1 420)):=hI.Ed hd iX iP h0 (.inl rfl) ⟨by decide,by decide⟩ (.inl ⟨by decide,rfl⟩)
   have VK:Live (d9 S d name (aU S.X 1 420)).idx ⟨(aO S.X),1⟩:=E8 hI (o:=(aU S.X 1 420))
   refine gK 4 [(78,vP f),(79,vP b2),(81,.string a.text)] [(3,a_ 7 b1)] ?_
   refine aj.FY (d:=(some 82)) (t1:=9) (t2:=46) (e:=5) (x:=(.tmp 81)) (s:=a.text) (fun _=>by kernel_rfl) (fun _=>by kernel_rfl) Tryz.underlying9 Tryz.underlying46 Tryz.underlying5 (fun b3 c4 UO=>?_)
   refine gL (f:=133) (args:=#[vP f,vP b2,.slice (some ⟨b3,0,none⟩) (a.text.data.toList.length) (c4)]) (pre:=[.abs (kW β (fun β'=>bA β' (some ⟨b3,0,none⟩) a.text.data.toList)),.blk f [vI ((d9 S d name (aU S.X 1 420)).X.cN),vI ((d9 S d name (aU S.X 1 420)).X.cB),vI ((d9 S d name (aU S.X 1 420)).X.cH),vI ((d9 S d name (aU S.X 1 420)).X.cS),vI ((d9 S d name (aU S.X 1 420)).X.cZ),.map (some m),vP t,vI ((d9 S d name (aU S.X 1 420)).X.last),vI ((d9 S d name (aU S.X 1 420)).X.ah),vI ((d9 S d name (aU S.X 1 420)).X.used)] 126,.abs (aL Tryz.prog 3 m (aX (aY L2 (d9 S d name (aU S.X 1 420)).idx)) ((d9 S d name (aU S.X 1 420)).idx.length)),.abs (cV 197 t S.X.cH S.ay (aY L2 S.us)),.abs (ax (bI ((d9 S d name (aU S.X 1 420)).O) L2)),.abs (ax (bJ ((d9 S d name (aU S.X 1 420)).O) L2)),.abs (ax (cK ((d9 S d name (aU S.X 1 420)).O) L2))]) [8,0,1,5,2,4,3] ((by have h:=BU (β:=β) (d9 S d name (aU S.X 1 420)) L2 f m t VJ (aO S.X) VK (some ⟨b3,0,none⟩) c4 a.text.data.toList (by rw [Array.length_toList];have:a.text.data.size=a.text.size:=rfl;omega) UO;rw [Bn hL2] at h;exact h)) ?_
   rintro _ _ ⟨L3,rfl,rfl⟩
   refine NS (gK 1 [(6,vI 0)] [] ?_)
   refine NN (af.ret (ai.aG (ai.ak ?_)))
   exact RT (vI 0) [0,1,2,3,4,5,6] (⟨L3,by rw [show (cF S root a)=(0,(cW (d9 S d name (aU S.X 1 420)) (aO S.X) a.text.data.toList).2.2) by unfold cF;rw [if_neg (by omega),hix];simp only;rw [if_pos trivial,jN];simp only;unfold lZ;rw [if_pos (by omega)];unfold qK;exact if_pos h0]<;>exact⟨rfl,rfl⟩⟩)
  refine SR (gK 2 [(84,.bool (decide ((a.op:Int)=(2:Int))))] [] ?_)
  refine NN (af.aV (p:=(a.op:Int)=(2:Int)) (fun _=>by kernel_rfl) (fun VL=>?_) (fun VL=>?_))
  ·refine SR (gK 3 [(86,vP f),(87,vP (L.b d)),(88,.string name)] [] ?_)
   refine gL [2,3,4,0,5,1] (DF S L f m t hI d hd name hsz 493) ?_
   rintro _ _ ⟨L2,rfl,rfl⟩
   refine gK 1 [(6,vI ((fq S d name 493).1))] [] ?_
   refine NN (af.ret (ai.aG (ai.ak ?_)))
   exact RT (vI ((fq S d name 493).1)) [0,1,2,3,4,5,6] (⟨L2,by rw [show (cF S root a)=((fq S d name 493).1,(fq S d name 493).2) by unfold cF;rw [if_neg (by omega),hix];simp only;rw [if_pos trivial,jN];simp only;unfold lZ;rw [if_neg (by omega)];exact if_pos (by omega)]<;>exact⟨rfl,rfl⟩⟩)
  refine SR (gK 2 [(90,.bool (decide ((a.op:Int)=(3:Int))))] [] ?_)
  refine NN (af.aV (p:=(a.op:Int)=(3:Int)) (fun _=>by kernel_rfl) (fun VN=>?_) (fun VN=>?_))
  ·refine SR (gK 5 [(92,vP f),(93,vP (L.b d)),(94,.string name),(96,.string a.text)] [(4,a_ 7 b1)] ?_)
   refine gL [2,3,4,0,5,1] (zi S L f m t hI d hd name hsz a.text hxz) ?_
   rintro _ _ ⟨L2,rfl,rfl⟩
   refine gK 1 [(6,vI ((dO S d name a.text).1))] [] ?_
   refine NN (af.ret (ai.aG (ai.ak ?_)))
   exact RT (vI ((dO S d name a.text).1)) [0,1,2,3,4,5,6] (⟨L2,by rw [show (cF S root a)=((dO S d name a.text).1,(dO S d name a.text).2) by unfold cF;rw [if_neg (by omega),hix];simp only;rw [if_pos trivial,jN];simp only;unfold lZ;rw [if_neg (by omega)];rw [if_neg (by omega)];exact if_pos (by omega)]<;>exact⟨rfl,rfl⟩⟩)
  refine SR (gK 2 [(98,.bool (decide ((a.op:Int)=(4:Int))))] [] ?_)
  refine NN (af.aV (p:=(a.op:Int)=(4:Int)) (fun _=>by kernel_rfl) (fun VO=>?_) (fun VO=>?_))
  ·refine SR (gK 3 [(100,vP f),(101,vP (L.b d)),(102,.string name)] [] ?_)
   refine gL [2,3,4,0,5,1] (BL S L f m t hI d hd name hsz) ?_
   rintro _ _ ⟨L2,rfl,rfl⟩
   refine gK 1 [(6,vI ((dG S d name).1))] [] ?_
   refine NN (af.ret (ai.aG (ai.ak ?_)))
   exact RT (vI ((dG S d name).1)) [0,1,2,3,4,5,6] (⟨L2,by rw [show (cF S root a)=((dG S d name).1,(dG S d name).2) by unfold cF;rw [if_neg (by omega),hix];simp only;rw [if_pos trivial,jN];simp only;unfold lZ;rw [if_neg (by omega)];rw [if_neg (by omega)];rw [if_neg (by omega)];exact if_pos (by omega)]<;>exact⟨rfl,rfl⟩⟩)
  refine SR (gK 2 [(104,.bool (decide ((a.op:Int)=(5:Int))))] [] ?_)
  refine NN (af.aV (p:=(a.op:Int)=(5:Int)) (fun _=>by kernel_rfl) (fun UQ=>?_) (fun UQ=>?_))
  ·refine SR (gK 3 [(106,vP f),(107,vP (L.b d)),(108,.string name)] [] ?_)
   refine gL [2,3,4,0,5,1] (DG S L f m t hI d hd name hsz) ?_
   rintro _ _ ⟨L2,rfl,rfl⟩
   refine gK 1 [(6,vI ((dV S d name).1))] [] ?_
   refine NN (af.ret (ai.aG (ai.ak ?_)))
   exact RT (vI ((dV S d name).1)) [0,1,2,3,4,5,6] (⟨L2,by rw [show (cF S root a)=((dV S d name).1,(dV S d name).2) by unfold cF;rw [if_neg (by omega),hix];simp only;rw [if_pos trivial,jN];simp only;unfold lZ;rw [if_neg (by omega)];rw [if_neg (by omega)];rw [if_neg (by omega)];rw [if_neg (by omega)];exact if_pos (by omega)]<;>exact⟨rfl,rfl⟩⟩)
  refine SR (gK 2 [(110,.bool (decide ((a.op:Int)=(6:Int))))] [] ?_)
  refine NN (af.aV (p:=(a.op:Int)=(6:Int)) (fun _=>by kernel_rfl) (fun UR=>?_) (fun UR=>?_))
  ·refine SR (gK 4 [(113,vP f),(114,vP (L.b tk)),(116,.string a.to)] [(3,a_ 7 b1)] ?_)
   rcases DM hI hlv a.to with ⟨e2,BV,FI⟩|⟨to,toName,BV,hd2,Ra,MZ⟩
   ·refine gL (f:=256) (args:=#[vP f,vP (L.b tk),.string a.to]) (pre:=[.abs (ax (bI S.O L)),.abs (ax (cK S.O L))]) [0,1] ((by have h:=yU (β:=β) S L f hI tk hlv a.to Ow hg;rw [BV] at h;exact h)) ?_
    rintro _ _ ⟨rfl,rfl⟩
    refine gK 7 [(14,.pointer none),(15,.string ⟨#[]⟩),(16,vI (e2))] [] ?_
    refine NN (af.seq (SR (gK 2 [(122,.bool (!(decide ((e2:Int)=(0:Int)))))] [] ?_)))
    refine NN (af.cX (p:=(e2:Int)=(0:Int)) (fun _=>by kernel_rfl) (fun Rw=>?_) (fun Rw=>?_))
    ·refine SR (gK 2 [(6,vI (e2))] [] ?_)
     refine NN (af.ret (ai.ak (ai.aG (ai.ak ?_))))
     exact RT (vI (e2)) [2,3,4,0,5,1,6] (⟨L,by rw [show (cF S root a)=(e2,S) by unfold cF;rw [if_neg (by omega),hix];simp only;rw [if_pos trivial,jN];simp only;unfold lZ;rw [if_neg (by omega)];rw [if_neg (by omega)];rw [if_neg (by omega)];rw [if_neg (by omega)];rw [if_neg (by omega)];rw [if_pos (by omega)];rw [BV]]<;>exact⟨rfl,rfl⟩⟩)
    exact absurd Rw FI
   have eG:(obj S.O to).kind=2:=hI.kind hd2
   have o3:toName.size<=1048576:=DL MZ
   refine gL (f:=256) (args:=#[vP f,vP (L.b tk),.string a.to]) (pre:=[.abs (ax (bI S.O L)),.abs (ax (cK S.O L))]) [0,1] ((by have h:=yU (β:=β) S L f hI tk hlv a.to Ow hg;rw [BV] at h;exact h)) ?_
   rintro _ _ ⟨rfl,rfl⟩
   refine gK 7 [(14,vP (L.b to)),(15,.string toName),(16,vI 0)] [] ?_
   refine NN (af.seq (SR (gK 2 [(122,.bool false)] [] ?_)))
   refine NN (CF (af.skip (NX (SR (gK 5 [(124,vP f),(125,vP (L.b d)),(126,.string name),(127,vP (L.b to)),(128,.string toName)] [] ?_)))))
   refine gL [2,3,4,0,5,1] (BM S L f m t hI d hd name hsz to hd2 toName o3) ?_
   rintro _ _ ⟨L2,rfl,rfl⟩
   refine gK 1 [(6,vI ((bq S d name to toName).1))] [] ?_
   refine NN (af.ret (ai.aG (ai.ak ?_)))
   exact RT (vI ((bq S d name to toName).1)) [0,1,2,3,4,5,6] (⟨L2,by rw [show (cF S root a)=((bq S d name to toName).1,(bq S d name to toName).2) by unfold cF;rw [if_neg (by omega),hix];simp only;rw [if_pos trivial,jN];simp only;unfold lZ;rw [if_neg (by omega)];rw [if_neg (by omega)];rw [if_neg (by omega)];rw [if_neg (by omega)];rw [if_neg (by omega)];rw [if_pos (by omega)];rw [BV]]<;>exact⟨rfl,rfl⟩⟩)
  refine af.skip (ai.aJ (NX (af.seq (af.seq ?_))))
  have hel:(obj S.O d).ah.length<=8192:=hI.gy hd
  have K7:=hsz
  rcases hI.mr hd name with bg|⟨ok,bg,eS⟩|⟨ok,bg,eS⟩|⟨ok,bg,eS⟩
  ·refine af.region (gK 5 [(133,.map (some (L.m d))),(134,.string name)] [(3,v_ 0 (bw L hkd))] ?_)
   refine iD 1 hkd bg ?_
   refine NN (af.block (SR ?_))
   refine gK 3 [(137,.bool false),(138,.pointer none)] [] ?_
   refine NN (CF (SR (gK 3 [(140,.bool false),(141,.pointer none)] [] ?_)))
   refine NN (CF (SR (gK 3 [(143,.bool false),(144,.pointer none)] [] ?_)))
   refine NN (CF (af.skip (ai.aJ (NX (SR ?_)))))
   refine gK 1 [(6,vI 170)] [] ?_
   refine NN (af.ret ?_)
   exact RT (vI 170) [2,3,4,0,5,1,6] (⟨L,by rw [show (cF S root a)=(170,S) by unfold cF;rw [if_neg (by omega),hix];simp only;rw [if_pos trivial,jN];simp only;unfold lZ;rw [if_neg (by omega)];rw [if_neg (by omega)];rw [if_neg (by omega)];rw [if_neg (by omega)];rw [if_neg (by omega)];rw [if_neg (by omega)];unfold kH;rw [bg]]<;>exact⟨rfl,rfl⟩⟩)
  ·have lg:(obj S.O ok).kind=1:=hI.kind eS
   refine af.region (gK 5 [(133,.map (some (L.m d))),(134,.string name)] [(3,v_ 0 (bw L hkd))] ?_)
   refine iD 1 hkd bg ?_
   refine NN (af.block (SR ?_))
   refine gK 3 [(137,.bool false),(138,.pointer none)] [] ?_
   refine NN (CF (SR (gK 3 [(140,.bool false),(141,.pointer none)] [] ?_)))
   refine NN (CF (SR (gK 3 [(143,.bool true),(144,vP (L.b ok))] [] ?_)))
   refine NN (CT (SR (gK 1 [(19,vP (L.b ok))] [] ?_)))
   refine NS (gK 4 [(146,vP f),(147,vP (L.b ok)),(149,.string a.text)] [(3,a_ 7 b1)] ?_)
   refine aj.FY (d:=(some 150)) (t1:=9) (t2:=46) (e:=5) (x:=(.tmp 149)) (s:=a.text) (fun _=>by kernel_rfl) (fun _=>by kernel_rfl) Tryz.underlying9 Tryz.underlying46 Tryz.underlying5 (fun b6 c7 UU=>?_)
   refine gL [8,2,3,4,0,5,1] (BU (β:=β) S L f m t hI ok eS (some ⟨b6,0,none⟩) c7 a.text.data.toList (by rw [Array.length_toList];have:a.text.data.size=a.text.size:=rfl;omega) UU) ?_
   rintro _ _ ⟨L3,rfl,rfl⟩
   refine gK 5 [(21,vI ((cW S ok a.text.data.toList).2.1))] [] ?_
   refine NS (gK 2 [(6,vI ((cW S ok a.text.data.toList).2.1))] [] ?_)
   refine NN (af.ret (ai.aG (ai.ak ?_)))
   exact RT (vI ((cW S ok a.text.data.toList).2.1)) [0,1,2,3,4,5,6] (⟨L3,by rw [show (cF S root a)=((cW S ok a.text.data.toList).2.1,(cW S ok a.text.data.toList).2.2) by unfold cF;rw [if_neg (by omega),hix];simp only;rw [if_pos trivial,jN];simp only;unfold lZ;rw [if_neg (by omega)];rw [if_neg (by omega)];rw [if_neg (by omega)];rw [if_neg (by omega)];rw [if_neg (by omega)];rw [if_neg (by omega)];unfold kH;rw [bg];exact (if_neg (by simp)).trans (if_neg (by simp))]<;>exact⟨rfl,rfl⟩⟩)
  ·have lg:(obj S.O ok).kind=2:=hI.kind eS
   refine af.region (gK 5 [(133,.map (some (L.m d))),(134,.string name)] [(3,v_ 0 (bw L hkd))] ?_)
   refine iD 1 hkd bg ?_
   refine NN (af.block (SR ?_))
   refine gK 3 [(137,.bool false),(138,.pointer none)] [] ?_
   refine NN (CF (SR (gK 3 [(140,.bool true),(141,vP (L.b ok))] [] ?_)))
   refine NN (CT (SR (gK 1 [] [] ?_)))
   refine NS (gK 1 [(6,vI 172)] [] ?_)
   refine NN (af.ret (ai.aG (ai.ak ?_)))
   exact RT (vI 172) [2,3,4,0,5,1,6] (⟨L,by rw [show (cF S root a)=(172,S) by unfold cF;rw [if_neg (by omega),hix];simp only;rw [if_pos trivial,jN];simp only;unfold lZ;rw [if_neg (by omega)];rw [if_neg (by omega)];rw [if_neg (by omega)];rw [if_neg (by omega)];rw [if_neg (by omega)];rw [if_neg (by omega)];unfold kH;rw [bg];exact (if_neg (by simp)).trans (if_pos rfl)]<;>exact⟨rfl,rfl⟩⟩)
  have lg:(obj S.O ok).kind=3:=hI.kind eS
  refine af.region (gK 5 [(133,.map (some (L.m d))),(134,.string name)] [(3,v_ 0 (bw L hkd))] ?_)
  refine iD 1 hkd bg ?_
  refine NN (af.block (SR ?_))
  refine gK 3 [(137,.bool true),(138,vP (L.b ok))] [] ?_
  refine NN (CT (SR (gK 1 [] [] ?_)))
  refine NS (gK 1 [(6,vI 174)] [] ?_)
  refine NN (af.ret (ai.aG (ai.ak ?_)))
  exact RT (vI 174) [2,3,4,0,5,1,6] (⟨L,by rw [show (cF S root a)=(174,S) by unfold cF;rw [if_neg (by omega),hix];simp only;rw [if_pos trivial,jN];simp only;unfold lZ;rw [if_neg (by omega)];rw [if_neg (by omega)];rw [if_neg (by omega)];rw [if_neg (by omega)];rw [if_neg (by omega)];rw [if_neg (by omega)];unfold kH;rw [bg];exact if_pos rfl]<;>exact⟨rfl,rfl⟩⟩)
 have hkt:(obj S.O tk).kind=3:=hI.kind hlv
 refine af.region (gK 5 [(33,.map (some m)),(34,vI (root))] [(3,a_ 0 f)] ?_)
 refine aj.dR 1 (d:=(some 35)) (t:=120) (K:=3) (E:=124) (b:=m) (n:=S.idx.length) (f:=(aX (aY L S.idx))) (x:=(.tmp 33)) (ix:=(.tmp 34)) (key:=.int .i64 (root)) (z:=.nilIface) (kl:=(.int .i64 root)) (r:=(some (dQ L ⟨tk,3⟩))) (fun _=>by kernel_rfl) (by kernel_rfl) (fun _=>by kernel_rfl) (fun _=>by kernel_rfl) dw Tryz.underlying120 (fun _=>by kernel_rfl) (gY hrw) (by rw [fC,hix];rfl) ?_
 refine gK 1 [(7,.iface 132 (vP (L.b tk)))] [] ?_
 refine NN (af.seq (SR (gK 2 [(37,.bool false)] [] ?_)))
 refine NN (CF (af.skip (NX (SR (gK 7 [(8,.pointer none),(9,.bool false)] [] ?_)))))
 refine NN (af.seq (SR (gK 2 [(44,.bool true)] [] ?_)))
 refine NN (CT (SR (gK 1 [(6,vI 173)] [] ?_)))
 refine NN (af.ret (ai.ak ?_))
 exact RT (vI 173) [0,1,2,3,4,5,6] (⟨L,by rw [show (cF S root a)=(173,S) by unfold cF;rw [if_neg (by omega),hix];simp only;exact if_neg (by simp)]<;>exact⟨rfl,rfl⟩⟩)
end
section
open Go.RowKit Go.Maps bD aE
attribute [local irreducible] aj aP af ai
noncomputable abbrev Ll (o)(q)(f:Nat) (root) (am) (n):=(.blk o [.iface 181 (vP q),vP f,vI (root),.map (some am),vI ↑(n+1)] 185:HP)
noncomputable abbrev Rx (o)(b1:Nat) (b2:Nat) (mO) (ys:List cO) (Ib) (i:Nat):=([(0,vP o),(3,vP b1),(4,vP b2),(22,.slice mO (ys.length) (Ib)),(23,vI ↑ys.length),(24,vI ↑i)]:Fr)
theorem Ry {β:Bs} (S:aH) (L:HL) (o q f m t am an km kn n:Nat) (Z:AZ) (fs:List bP) (xs:List cO) (root:Int) (hrw:(Lit.int .i64 root).wf=true) (hI:Inv S) (hn:n<=1048576) (k:Int) (hk:iq fs ((n+1:Nat):Int)=k) (hZ:jX β Z xs) (hX:ja xs 1048576) (hg:jg β) (c:aF) (hC:gh β c) :
    Spec Tryz.prog β 254 #[vP o,.agg ⟨bN c⟩] ([.blk o [.iface 181 (vP q),vP f,vI (root),.map (some am),vI (((n:Nat):Int))] 185,.blk q [.iface 54 (vP f),.map (some km),vI (((n:Nat):Int))] 183,.abs (aL Tryz.prog 3 am (fQ Z xs) an)]++DK km fs kn f m t S L) (fun v l=>∃ L2,v=.agg ⟨bN (br k (fN root S (bK xs ((n+1:Nat):Int))) c).2⟩/\l=[.blk o [.iface 181 (vP q),vP f,vI (root),.map (some am),vI ((((n+1):Nat):Int))] 185,.blk q [.iface 54 (vP f),.map (some km),vI ((((n+1):Nat):Int))] 183,.abs (aL Tryz.prog 3 am (fQ Z xs) an),o9 km fs kn,pF f m t ((br k (fN root S (bK xs ((n+1:Nat):Int))) c).1.X),.abs (aL Tryz.prog 3 m (aX (aY L2 (br k (fN root S (bK xs ((n+1:Nat):Int))) c).1.idx)) ((br k (fN root S (bK xs ((n+1:Nat):Int))) c).1.idx.length)),pT t (br k (fN root S (bK xs ((n+1:Nat):Int))) c).1.X.cH ((br k (fN root S (bK xs ((n+1:Nat):Int))) c).1.ay) L2 ((br k (fN root S (bK xs ((n+1:Nat):Int))) c).1.us),pO ((br k (fN root S (bK xs ((n+1:Nat):Int))) c).1.O) L2,pD ((br k (fN root S (bK xs ((n+1:Nat):Int))) c).1.O) L2,pE ((br k (fN root S (bK xs ((n+1:Nat):Int))) c).1.O) L2]):=by
 obtain⟨ys,hys⟩:∃ ys,bK xs ((n+1:Nat):Int)=ys:=⟨_,rfl⟩
 obtain⟨mO,has⟩:∃ a,aA Z xs ((n+1:Nat):Int)=a:=⟨_,rfl⟩
 obtain⟨Ib,hac⟩:∃ a,aC Z xs ((n+1:Nat):Int)=a:=⟨_,rfl⟩
 have hrow:=hZ ((n+1:Nat):Int)
 rw [hys,has] at hrow
 have hyb:∀ {i},i < ys.length->xQ (act ys i) 1048576:=fun {i} h=>hX.q _ (I5 (x:=((n+1:Nat):Int)) (by rw [hys];exact List.mem_of_getElem? (sj h)))
 have pq:ys.length<=1048576:=by rw [← hys];exact Nat.le_trans (Bv _) hX.len
 rw [show bK xs ((n+1:Nat):Int)=ys from hys]
 obtain⟨SA,T3⟩:∃ SA,fN root S ys=SA:=⟨_,rfl⟩
 rw [T3]
 refine Spec.enter Tryz.func254 rfl Tryz.ntmps254 (Nat.le_of_ble_eq_true rfl) (fun R=>?_)
 refine SR (gN 1 (fun b1=>[(3,vP b1)]) (fun _=>[]) (fun _=>[]) (fun b1=>pC b1 c) (fun b1=>?_))
 refine gN 1 (fun b2=>[(4,vP b2)]) (fun _=>[]) (fun _=>[]) (fun b2=>.blk b2 [vI 0,vI 0,vI 0,.string ⟨#[]⟩,.string ⟨#[]⟩,.slice none (0) (0),vI 0,vI 0,vI 0,vI 0,vI 0,vI 0,vI 0] 48) (fun b2=>?_)
 refine NS (gC 8 [] [(3,a_ 0 o),(4,p_ ⟨[],none,none,none,some (vI ↑(n+1))⟩ [(Value.int .i64 (IntKind.wrap .i64 (((n:Nat):Int)+1)))=(.int .i64 ↑(n+1))] ⟨bn (by omega) (by omega) (by omega),trivial⟩),(7,a_ 0 o)] [(0,[(4,vI ↑(n+1))])] ?_)
 refine NN (af.seq (af.seq (af.bF (by kernel_rfl) (by kernel_rfl) ?_)))
 refine gQ 8 [(17,.map (some am)),(21,vI ↑(n+1))] [(3,a_ 0 o),(7,a_ 0 o)] ?_
 refine aP.dR 2 (d:=(some 22)) (t:=178) (K:=3) (E:=30) (b:=am) (n:=an) (f:=(fQ Z xs)) (x:=(.tmp 17)) (ix:=(.tmp 21)) (key:=.int .i64 ↑(n+1)) (z:=.slice none (0) (0)) (kl:=(.int .i64 ((n+1:Nat):Int))) (r:=(fQ Z xs (.int .i64 ((n+1:Nat):Int)))) (fun _=>by kernel_rfl) (by kernel_rfl) (fun _=>by kernel_rfl) (fun _=>by kernel_rfl) dw Tryz.underlying178 (fun _=>by kernel_rfl) (gY (KN (by omega))) (rfl) ?_
 refine aP.slot 22 (((fQ Z xs (.int .i64 ((n+1:Nat):Int))).getD (.slice none 0 0))) (.slice mO (ys.length) (Ib)) (fun _=>by kernel_rfl) (Ac.trans (by rw [hys,has,hac])) ?_
 refine gQ 2 [(23,vI ↑ys.length),(24,vI 0)] [] ?_
 refine NQ (NX (af.block ?_))
 refine af.loop (ι:=Nat×aH×HL) (fun ((i,S1,L1):Nat×aH×HL)=>(i<=ys.length)/\(S1=fN root S (ys.take i))/\(Inv S1)) (fun ((i,S1,L1):Nat×aH×HL)=>ys.length - i) (fun ((i,S1,L1):Nat×aH×HL)=>(Rx o b1 b2 mO ys Ib i)) (fun ((i,S1,L1):Nat×aH×HL)=>[Ll o q f root am n,.blk q [.iface 54 (vP f),.map (some km),vI ↑n] 183,.abs (aL Tryz.prog 3 am (fQ Z xs) an),o9 km fs kn,pC b1 c,pN b2,pF f m t S1.X,pI m L1 S1.idx,kx t S1 L1,pO S1.O L1,pD S1.O L1,pE S1.O L1,.abs R]) (0,S,L) (idx:=[0,3,4,22,23,24]) (pk:=[0,1,2,3,11,12,4,5,6,7,8,9,10]) (show (0<=ys.length)/\(S=fN root S (ys.take 0))/\(Inv S) from ⟨Nat.zero_le _,rfl,hI⟩) (fun _=>by kernel_rfl) rfl (by kernel_rfl) ?_
 rintro⟨i,S1,L1⟩ ⟨hi,hs1,bU⟩
 show af _ _ _ _ (Rx o b1 b2 mO ys Ib i) [Ll o q f root am n,.blk q [.iface 54 (vP f),.map (some km),vI ↑n] 183,.abs (aL Tryz.prog 3 am (fQ Z xs) an),o9 km fs kn,pC b1 c,pN b2,pF f m t S1.X,pI m L1 S1.idx,kx t S1 L1,pO S1.O L1,pD S1.O L1,pE S1.O L1,.abs R] _
 refine SR (gK 1 [(25,.bool (decide ((((i:Nat):Int):Int) < (((ys.length:Nat):Int):Int))))] [] ?_)
 refine NN (af.seq (af.aV (p:=(((i:Nat):Int):Int) < (((ys.length:Nat):Int):Int)) (fun _=>by kernel_rfl) (fun wE=>?_) (fun wE=>?_)))
 ·refine af.skip (NX (af.seq (af.block (SR ?_))))
  refine gN 4 (fun b3=>[(6,vP b3)]) (fun b3=>[(0,p_ ⟨[],some i,none,some ⟨(ar mO),aq mO,none⟩,none⟩ [((i:Nat):Int)=((i:Nat):Int),i < ys.length,(⟨(ar mO),aq mO,none⟩:Addr).spot=none,(mO:Option Addr)=some ⟨(ar mO),aq mO,none⟩] ⟨rfl,by omega,rfl,Oa hrow (i:=i) (by omega),trivial⟩),(1,p_ ⟨[.old (.int .i64 ((act ys i).at_)),.old (.int .i64 ((act ys i).op)),.old (.string (act ys i).path),.old (.string (act ys i).to),.old (.string (act ys i).text)],none,none,none,none⟩ [(Rd β ⟨(ar mO),aq mO+i * 5+4,none⟩ (.string (act ys i).text)),(Rd β ⟨(ar mO),aq mO+i * 5+3,none⟩ (.string (act ys i).to)),(Rd β ⟨(ar mO),aq mO+i * 5+2,none⟩ (.string (act ys i).path)),(Rd β ⟨(ar mO),aq mO+i * 5+1,none⟩ (.int .i64 ((act ys i).op))),(Rd β ⟨(ar mO),aq mO+i * 5,none⟩ (.int .i64 ((act ys i).at_)))] ⟨qt hrow (i:=i) (by omega) (j:=4) rfl,qt hrow (i:=i) (by omega) (j:=3) rfl,qt hrow (i:=i) (by omega) (j:=2) rfl,qt hrow (i:=i) (by omega) (j:=1) rfl,qt hrow (i:=i) (by omega) (j:=0) rfl,trivial⟩),(3,A_ 13 b3 5)]) (fun _=>[]) (fun b3=>.blk b3 [vI ((act ys i).at_),vI ((act ys i).op),.string (act ys i).path,.string (act ys i).to,.string (act ys i).text] 41) (fun b3=>?_)
  refine NN (af.bM (S:=[Ll o q f root am n,.blk b3 [vI ((act ys i).at_),vI ((act ys i).op),.string (act ys i).path,.string (act ys i).to,.string (act ys i).text] 41]) [0,1,2,3,4,5,6,7,8,9] 9 [0,13] (by kernel_rfl) (by kernel_rfl) rfl (by kernel_rfl) ?_)
  refine gR 0 [9] (Rx o b1 b2 mO ys Ib i++[(31,vP f),(35,vI (root)),(36,.agg #[vI ((act ys i).at_),vI ((act ys i).op),.string (act ys i).path,.string (act ys i).to,.string (act ys i).text])]) [0,1,2,3,4,5,6,7,8] [(3,a_ 0 o),(7,a_ 0 o),(8,A_ 1 b3 5)] ?_
  refine aN.last rfl rfl ?_
  refine gL [6,7,8,9,10,11] (Px S1 L1 f m t bU root hrw (act ys i) (hyb (by omega)).path (hyb (by omega)).to (hyb (by omega)).text hg) ?_
  rintro _ _ ⟨L2,rfl,rfl⟩
  refine NL (ai.np (ai.aJ (NX (af.region ?_))))
  refine gK 2 [(24,vI ↑(i+1))] [(0,p_ ⟨[],none,none,none,some (vI ↑(i+1))⟩ [(Value.int .i64 (IntKind.wrap .i64 (((i:Nat):Int)+1)))=(.int .i64 ↑(i+1))] ⟨bn (by omega) (by omega) (by omega),trivial⟩)] ?_
  refine NL ?_
  exact ai.turn ((i+1),(cF S1 root (act ys i)).2,L2) (idx:=[0,3,4,22,23,24]) (pk:=[6,7,8,9,10,11,0,1,2,3,4,5,12]) (show (((i+1))<=ys.length)/\(((cF S1 root (act ys i)).2)=fN root S (ys.take ((i+1))))/\(Inv ((cF S1 root (act ys i)).2)) from ⟨by omega,by rw [hs1];exact (I7 (by omega)).symm,bU.cF⟩) (by show ys.length - ((i+1)) < ys.length - i;omega) (fun _=>by kernel_rfl) rfl (by kernel_rfl)
 refine af.exit (ai.aS (ai.aS (ai.cD (NX (af.seq ?_)))))
 refine af.bM (S:=[Ll o q f root am n,pC b1 c]) [0,1,2,3,4,5,6] 5 [0,4] (by kernel_rfl) (by kernel_rfl) rfl (by kernel_rfl) ?_
 refine gR 0 [5,6] [(4,vP b2),(42,.iface 181 (vP q)),(43,.agg ⟨bN c⟩)] [0,1,2,3,4] [(3,a_ 0 o),(4,A_ 1 b1 13)] ?_
 refine mL [8,10] [1,3,6,7,8,9,10,11] (Rt S1 L1 q f m t km kn n fs bU hn k hk c hC) ?_ (by rintro _ _ ⟨L2,rfl,rfl⟩;rfl)
 rintro _ _ ⟨L2,rfl,rfl⟩
 refine aN.last rfl rfl ?_
 refine gC 1 [] [(0,A_ 11 b2 13)] [(11,[(0,vI ((br k S1 c).2.op)),(1,vI ((br k S1 c).2.handle)),(2,vI ((br k S1 c).2.other)),(3,.string (br k S1 c).2.name),(4,.string (br k S1 c).2.text),(5,.slice (br k S1 c).2.dA ((br k S1 c).2.data.length) ((br k S1 c).2.dC)),(6,vI ((br k S1 c).2.mode)),(7,vI ((br k S1 c).2.uid)),(8,vI ((br k S1 c).2.gid)),(9,vI ((br k S1 c).2.sec)),(10,vI ((br k S1 c).2.nano)),(11,vI ((br k S1 c).2.code)),(12,vI ((br k S1 c).2.answer))])] ?_
 refine NL (ai.np (NX (af.ret ?_)))
 have hs2:S1=SA:=by rw [hs1,show i=ys.length by omega,List.take_length];exact T3
 subst hs2
 exact ai.ret (v:=.agg ⟨bN ((br k S1 c).2)⟩) (l:=[Ll o q f root am n,vm q f km n,.abs (aL Tryz.prog 3 am (fQ Z xs) an),o9 km fs kn,pF f m t ((br k S1 c).1.X),pI m L2 (br k S1 c).1.idx,pT t (br k S1 c).1.X.cH ((br k S1 c).1.ay) L2 ((br k S1 c).1.us),pO ((br k S1 c).1.O) L2,pD ((br k S1 c).1.O) L2,pE ((br k S1 c).1.O) L2]) (bC:=[b2=b2,b2=b2,b2=b2,b2=b2,b2=b2,b2=b2,b2=b2,b2=b2,b2=b2,b2=b2,b2=b2,b2=b2,b2=b2]) [.at 11,.at 11,.at 11,.at 11,.at 11,.at 11,.at 11,.at 11,.at 11,.at 11,.at 11,.at 11,.at 11] [8,0,9,1,2,3,4,5,6,7,12] (fun _=>by kernel_rfl) ⟨rfl,rfl,rfl,rfl,rfl,rfl,rfl,rfl,rfl,rfl,rfl,rfl,rfl,trivial⟩ rfl (by kernel_rfl) (⟨L2,rfl,rfl⟩)
end
section
open Go.RowKit Go.Maps bD aE
theorem DP {β:Bs} (A:Option Addr) (c:Nat) (d:List UInt8) (hA:bA β A d) (hl:d.length<=1048576):cC Tryz.prog β 58 #[.slice A d.length c] [] (fun β' v l=>∃ B cap,v=.slice B d.length cap/\l=[]/\bA β' B d/\d.length<=cap):=
  (uF A c d hA (by omega)).Jz (by
    rintro v l ⟨B,cap,rfl,rfl⟩
    refine⟨[],_,rfl,fun β' h=>⟨B,cap,rfl,rfl,h.bytes,?_⟩⟩
    obtain⟨F,h1,_⟩:=h.get 0 rfl
    exact (aK.len h1).2)
theorem Py {β:Bs} (S:aH) (L:HL) (o q f m t am an km kn n:Nat) (Z:AZ) (fs:List bP) (xs:List cO) (root:Int) (hrw:(Lit.int .i64 root).wf=true) (hI:Inv S) (hn:n<=1048576) (hZ:jX β Z xs) (hX:ja xs 1048576) (hg:jg β) (c:aF) (B:Option Addr) (p:Nat) {kJ:Int} (ho:kJ=if c.op=1 then root else c.other) (hC:gh β { bW B p c with other:=kJ }) {S2:aH} {c2:aF} (hW:gU fs xs root (n+1) S c=(S2,c2)) :
    Spec Tryz.prog β 254 #[vP o,.agg ⟨bN { bW B p c with other:=kJ }⟩] ([oB o q f root am n,qB q f km n,aM am an Z xs,kM km kn fs]++pA f m t L S) (fun v l=>∃ L2,v=.agg ⟨bN (bW B p c2)⟩/\l=[oB o q f root am (n+1),qB q f km (n+1),aM am an Z xs,kM km kn fs]++pA f m t L2 S2):=by
  have e:({ bW B p c with other:=kJ }:aF)=bW B p (kr root c):=by rw [Gx ho];rfl
  rw [e] at hC ⊢
  have h:=Ry S L o q f m t am an km kn n Z fs xs root hrw hI hn _ rfl hZ hX hg (bW B p (kr root c)) hC
  rw [Dt] at h
  have hW:br (iq fs ((n+1:Nat):Int)) (fN root S (bK xs ((n+1:Nat):Int))) (kr root c)=(S2,c2):=hW
  rw [hW] at h
  exact h
end
section
open Go.RowKit Go.Maps bD aE
attribute [local irreducible] aj aP af ai
noncomputable abbrev BW (w)(f:Nat) (o) (root) (tA) (tr:List aF) (tC):=(.blk w [.iface 42 (vP w),vP f,.iface 180 (vP o),vI (root),.slice tA (tr.length) (tC)] 93:HP)
noncomputable abbrev zm (am)(Z)(xs)(an):=(.abs (aL Tryz.prog 3 am (fQ Z xs) an):HP)
noncomputable abbrev OL (tA)(tr:List aF) (tC):=(.abs (aK 48 13 tA tr.length tC (bS bN tr)):HP)
noncomputable abbrev Rz (w)(f:Nat) (o) (root) (A') (tr:List aF) (k'):=(.blk w [.iface 42 (vP w),vP f,.iface 180 (vP o),vI (root),.slice A' ((tr.length+1)) (k')] 93:HP)
noncomputable abbrev Ic (A')(tr:List aF) (k') (B1) (p1) (c2):=(.abs (aK 48 13 A' (tr.length+1) k' (bS bN (tr++[bW B1 p1 c2]))):HP)
noncomputable abbrev RA (o)(q)(f:Nat) (root) (am) (tr:List aF):=(.blk o [.iface 181 (vP q),vP f,vI (root),.map (some am),vI ↑tr.length] 185:HP)
noncomputable abbrev RB (q)(f:Nat) (km) (tr:List aF):=(.blk q [.iface 54 (vP f),.map (some km),vI ↑tr.length] 183:HP)
noncomputable abbrev RD (b1:Nat) (c:aF) (kJ) (B1) (p1):=(.blk b1 [vI (c.op),vI (c.handle),vI (kJ),.string c.name,.string c.text,.slice B1 (c.data.length) (p1),vI (c.mode),vI (c.uid),vI (c.gid),vI (c.sec),vI (c.nano),vI (c.code),vI (c.answer)] 48:HP)
noncomputable abbrev BX (b1:Nat) (c2:aF) (B1) (p1):=(.blk b1 [vI (c2.op),vI (c2.handle),vI (c2.other),.string c2.name,.string c2.text,.slice B1 (c2.data.length) (p1),vI (c2.mode),vI (c2.uid),vI (c2.gid),vI (c2.sec),vI (c2.nano),vI (c2.code),vI (c2.answer)] 48:HP)
noncomputable abbrev FZ (o)(q)(f:Nat) (root) (am) (tr:List aF):=(.blk o [.iface 181 (vP q),vP f,vI (root),.map (some am),vI ↑(tr.length+1)] 185:HP)
noncomputable abbrev F5 (q)(f:Nat) (km) (tr:List aF):=(.blk q [.iface 54 (vP f),.map (some km),vI ↑(tr.length+1)] 183:HP)
noncomputable abbrev uG (f:Nat) (m:Nat) (t) (S:aH) (L:HL):=([pF f m t S.X,pI m L S.idx,kx t S L,pO S.O L,pD S.O L,pE S.O L]:List HP)
noncomputable abbrev Nt (c2:aF) (B1) (p1):=([(0,vI (c2.op)),(1,vI (c2.handle)),(2,vI (c2.other)),(3,.string c2.name),(4,.string c2.text),(5,.slice B1 (c2.data.length) (p1)),(6,vI (c2.mode)),(7,vI (c2.uid)),(8,vI (c2.gid)),(9,vI (c2.sec)),(10,vI (c2.nano)),(11,vI (c2.code)),(12,vI (c2.answer))]:Fr)
theorem Pz {β:Bs} (S:aH) (L:HL) (w o q f m t am an km kn:Nat) (Z:AZ) (fs:List bP) (xs:List cO) (root:Int) (tr:List aF) (tA:Option Addr) (tC:Nat) (hrw:(Lit.int .i64 root).wf=true) (hI:Inv S) (hn:tr.length<=1048575) (hZ:jX β Z xs) (hX:ja xs 1048576) (hg:jg β) (c:aF) (hD:bA β c.dA c.data) (hl:c.data.length<=1048576) (hw:(Lit.int .i64 c.handle).wf=true) (how:(Lit.int .i64 c.other).wf=true) (hnm:c.name.size<=1048576) (RG:c.text.size<=1048576) {S2:aH} {c2:aF} (hW:gU fs xs root (tr.length+1) S c=(S2,c2)) :
    cC Tryz.prog β 16 #[vP w,.agg ⟨bN c⟩] ([BW w f o root tA tr tC,.blk o [.iface 181 (vP q),vP f,vI (root),.map (some am),vI (((tr.length:Nat):Int))] 185,.blk q [.iface 54 (vP f),.map (some km),vI (((tr.length:Nat):Int))] 183,zm am Z xs an,o9 km fs kn,OL tA tr tC]++uG f m t S L) (fun β' v l=>∃ B1 p1 B2 p2 A' k' L2,v=.agg ⟨bN (bW B2 p2 c2)⟩/\l=([Rz w f o root A' tr k',.blk o [.iface 181 (vP q),vP f,vI (root),.map (some am),vI ((((tr.length+1):Nat):Int))] 185,.blk q [.iface 54 (vP f),.map (some km),vI ((((tr.length+1):Nat):Int))] 183,zm am Z xs an,o9 km fs kn,Ic A' tr k' B1 p1 c2]++uG f m t S2 L2)/\bA β' B1 c2.data/\bA β' B2 c2.data/\c2.data.length<=p2):=by
 have hd2:c2.data=c.data:=by have h:=Gw (fs:=fs) (xs:=xs) (root:=root) (n:=tr.length+1) (S:=S) (c:=c);rw [hW] at h;exact h
 refine cC.enter Tryz.func16 rfl Tryz.ntmps16 (Nat.le_of_ble_eq_true rfl) (fun hle0 R=>?_)
 refine SR (gN 1 (fun b1=>[(3,vP b1)]) (fun _=>[]) (fun _=>[]) (fun b1=>pC b1 c) (fun b1=>?_))
 refine gN 1 (fun b2=>[(4,vP b2)]) (fun _=>[]) (fun _=>[]) (fun b2=>.blk b2 [vI 0,vI 0,vI 0,.string ⟨#[]⟩,.string ⟨#[]⟩,.slice none (0) (0),vI 0,vI 0,vI 0,vI 0,vI 0,vI 0,vI 0] 48) (fun b2=>?_)
 refine NS (gK 2 [(6,.slice c.dA (c.data.length) (c.dC))] [(1,a_ 13 b1)] ?_)
 refine aj.jA (d:=(some 7)) (R:=([BW w f o root tA tr tC,RA o q f root am tr,RB q f km tr,zm am Z xs an,o9 km fs kn,OL tA tr tC]++uG f m t S L++[.abs R,pC b1 c,pN b2])) (pk:=[0,1,2,3,4,5,6,7,8,9,10,11,12,13,14]) (fun _=>by kernel_rfl) (DP c.dA c.dC c.data hD hl) rfl (by kernel_rfl) ?_
 rintro Lm _ _ jK ⟨B1,p1,rfl,rfl,Ln,hp1⟩
 replace hD:=hD.le jK
 replace hZ:=hZ.le jK
 replace hg:=hg.le jK
 replace hle0:=hle0.trans jK
 refine gC 2 [] [(1,a_ 13 b1)] [(13,[(5,.slice B1 (c.data.length) (p1))])] ?_
 refine NN (af.join (ι:=Int) (fun (kJ:Int)=>(kJ=if c.op=1 then root else c.other)/\((Lit.int .i64 kJ).wf=true)) (fun (kJ:Int)=>([(0,vP w)]++zk b1 b2)) (fun (kJ:Int)=>([BW w f o root tA tr tC,RA o q f root am tr,RB q f km tr,zm am Z xs an,o9 km fs kn,OL tA tr tC]++uG f m t S L++[.abs R,RD b1 c kJ B1 p1,pN b2])) ?_ ?_)
 ·rintro kJ ⟨hoth,how⟩
  show af _ _ _ _ ([(0,vP w)]++zk b1 b2) ([BW w f o root tA tr tC,RA o q f root am tr,RB q f km tr,zm am Z xs an,o9 km fs kn,OL tA tr tC]++uG f m t S L++[.abs R,RD b1 c kJ B1 p1,pN b2]) _
  refine af.seq (af.bM (S:=[BW w f o root tA tr tC,RD b1 c kJ B1 p1]) [0,1,2,3,4,5,6] 5 [0,13] (by kernel_rfl) (by kernel_rfl) rfl (by kernel_rfl) ?_)
  refine gR 0 [5,6] ([(0,vP w)]++zk b1 b2++[(20,.iface 180 (vP o)),(21,.agg #[vI (c.op),vI (c.handle),vI (kJ),.string c.name,.string c.text,.slice B1 (c.data.length) (p1),vI (c.mode),vI (c.uid),vI (c.gid),vI (c.sec),vI (c.nano),vI (c.code),vI (c.answer)])]) [0,1,2,3,4] [(3,a_ 0 w),(4,A_ 1 b1 13)] ?_
  refine mL [10,13] [1,2,3,4,6,7,8,9,10,11] (Py (β:=Lm) S L o q f m t am an km kn tr.length Z fs xs root hrw hI (by omega) hZ hX hg c B1 p1 hoth ⟨hw,how,hnm,RG,Ln,Nat.le_trans hl (by decide),hp1⟩ hW) ?_ (by rintro _ _ ⟨L2,rfl,rfl⟩;rfl)
  rintro _ _ ⟨L2,rfl,rfl⟩
  refine aN.last rfl rfl ?_
  refine gC 1 [] [(0,A_ 13 b1 13)] [(13,(Nt c2 B1 p1))] ?_
  refine NL (ai.np (NX (af.seq ?_)))
  refine af.bM (S:=[BW w f o root tA tr tC,BX b1 c2 B1 p1]) [0,1,2,3,4,5,6,7,8,9,10] 6 [10,13] (by kernel_rfl) (by kernel_rfl) rfl (by kernel_rfl) ?_
  refine gR 0 [6,7,8,9,10] (zk b1 b2++[(23,vP w),(27,.slice tA (tr.length) (tC)),(28,.agg ⟨bN (bW B1 p1 c2)⟩)]) [0,1,2,3,4,5] [(4,a_ 0 w),(5,A_ 1 b1 13)] ?_
  refine mN [10,13] (fun b4=>[(29,.slice (some ⟨b4,0,none⟩) (1) (1))]) (fun _=>[]) (fun b4=>.blk b4 [vI (c2.op),vI (c2.handle),vI (c2.other),.string c2.name,.string c2.text,.slice B1 (c2.data.length) (p1),vI (c2.mode),vI (c2.uid),vI (c2.gid),vI (c2.sec),vI (c2.nano),vI (c2.code),vI (c2.answer)] 48) (fun b4=>?_)
  refine aN.cut (ι:=(Option Addr)×Nat) (fr':=fun ((A5,c6):(Option Addr)×Nat)=>[(3,vP b1),(4,vP b2),(23,vP w),(30,.slice A5 ((tr.length+1)) (c6))]) (hp':=fun ((A5,c6):(Option Addr)×Nat)=>([FZ o q f root am tr,F5 q f km tr,zm am Z xs an,o9 km fs kn]++uG f m t S2 L2++[BW w f o root tA tr tC,Ic A5 tr c6 B1 p1 c2,.abs R,BX b1 c2 B1 p1,pN b2,BX b4 c2 B1 p1])) [10,13] rfl rfl ?_ rfl (fun _=>by kernel_rfl) ?_
  ·refine aj.append 11 (d:=(some 30)) (t:=35) (e:=48) (z:=.agg #[vI 0,vI 0,vI 0,.string ⟨#[]⟩,.string ⟨#[]⟩,.slice none (0) (0),vI 0,vI 0,vI 0,vI 0,vI 0,vI 0,vI 0]) (size:=13) (bytes:=136) (n:=tr.length) (cap:=tC) (A:=tA) (xs:=(bS bN tr)) (s:=(.tmp 27)) (x:=(.tmp 29)) (ats:=#[35,35]) (A':=some ⟨b4,0,none⟩) (m:=1) (c':=1) (news:=[vI (c2.op),vI (c2.handle),vI (c2.other),.string c2.name,.string c2.text,.slice B1 (c2.data.length) (p1),vI (c2.mode),vI (c2.uid),vI (c2.gid),vI (c2.sec),vI (c2.nano),vI (c2.code),vI (c2.answer)]) (fun _=>by kernel_rfl) rfl (by kernel_rfl) (fun _=>by kernel_rfl) (fun _=>by kernel_rfl) Tryz.underlying35 (by kernel_rfl) rfl (by decide) (rfl) (by simp [Value.oneCell']) (kP (j:=15) rfl) (by unfold maxLen;omega) (by omega) (fun A5 c6=>?_)
   refine aj.dm 11 (p:=.abs (aK 48 13 A5 (tr.length+1) c6 ((bS bN tr)++[vI (c2.op),vI (c2.handle),vI (c2.other),.string c2.name,.string c2.text,.slice B1 (c2.data.length) (p1),vI (c2.mode),vI (c2.uid),vI (c2.gid),vI (c2.sec),vI (c2.nano),vI (c2.code),vI (c2.answer)]))) (p':=.abs (aK 48 13 A5 (tr.length+1) c6 (bS bN (tr++[bW B1 p1 c2])))) (by kernel_rfl) (congrArg (fun x=>HP.abs (aK 48 13 _ _ _ x)) (Bz bN (bW B1 p1 c2) tr).symm) ?_
   refine aj.slot 30 (.slice A5 (tr.length+1) (c6)) (.slice A5 ((tr.length+1)) (c6)) (fun _=>by kernel_rfl) (rfl) ?_
   refine NL ?_
   exact MD (A5,c6) [3,4,23,30] [0,1,2,3,4,5,6,7,8,9,10,11,12,13,14,15]
  rintro⟨A5,c6⟩
  refine aN.cut (ι:=Unit) (fr':=fun (_:Unit)=>[(3,vP b1),(4,vP b2),(30,.slice A5 ((tr.length+1)) (c6)),(31,vP w)]) (hp':=fun (_:Unit)=>([FZ o q f root am tr,F5 q f km tr,zm am Z xs an,o9 km fs kn]++uG f m t S2 L2++[BW w f o root tA tr tC,Ic A5 tr c6 B1 p1 c2,.abs R,BX b1 c2 B1 p1,pN b2,BX b4 c2 B1 p1])) [10,13] rfl rfl ?_ rfl (fun _=>by kernel_rfl) ?_
  ·refine gK 1 [(31,vP w)] [] ?_
   refine NL ?_
   exact MD () [3,4,30,31] [0,1,2,3,4,5,6,7,8,9,10,11,12,13,14,15]
  rintro _
  refine aN.cut (ι:=Unit) (fr':=fun (_:Unit)=>[(3,vP b1),(4,vP b2),(30,.slice A5 ((tr.length+1)) (c6)),(32,.pointer (some ⟨w,4,none⟩))]) (hp':=fun (_:Unit)=>([FZ o q f root am tr,F5 q f km tr,zm am Z xs an,o9 km fs kn]++uG f m t S2 L2++[BW w f o root tA tr tC,Ic A5 tr c6 B1 p1 c2,.abs R,BX b1 c2 B1 p1,pN b2,BX b4 c2 B1 p1])) [10,13] rfl rfl ?_ rfl (fun _=>by kernel_rfl) ?_
  ·refine gK 1 [(32,.pointer (some ⟨w,4,none⟩))] [] ?_
   refine NL ?_
   exact MD () [3,4,30,32] [0,1,2,3,4,5,6,7,8,9,10,11,12,13,14,15]
  rintro _
  refine aN.last rfl rfl ?_
  refine gC 1 [] [(0,a_ 10 w)] [(10,[(4,.slice A5 ((tr.length+1)) (c6))])] ?_
  refine NL (ai.np (NX (SR ?_)))
  refine gK 2 [(34,.slice B1 (c2.data.length) (p1))] [(1,a_ 13 b1)] ?_
  refine aj.jA (d:=(some 35)) (R:=([FZ o q f root am tr,F5 q f km tr,zm am Z xs an,o9 km fs kn]++uG f m t S2 L2++[Rz w f o root A5 tr c6,Ic A5 tr c6 B1 p1 c2,.abs R,BX b1 c2 B1 p1,pN b2,BX b4 c2 B1 p1])) (pk:=[0,1,2,3,4,5,6,7,8,9,10,11,12,13,14,15]) (fun _=>by kernel_rfl) (DP B1 p1 c2.data (by rw [hd2];exact Ln) (by rw [hd2];exact hl)) rfl (by kernel_rfl) ?_
  rintro yt _ _ eH ⟨B2,p2,rfl,rfl,VP,hp2⟩
  replace hD:=hD.le eH
  replace hZ:=hZ.le eH
  replace hg:=hg.le eH
  replace Ln:=Ln.le eH
  replace hle0:=hle0.trans eH
  refine gC 2 [] [(1,a_ 13 b1)] [(13,[(5,.slice B2 (c2.data.length) (p2))])] ?_
  refine NS (gC 2 [] [(0,A_ 13 b1 13),(1,A_ 14 b2 13)] [(14,(Nt c2 B2 p2))] ?_)
  refine NN (af.ret ?_)
  exact ai.nQ (v:=.agg ⟨bN (bW B2 p2 c2)⟩) (l:=([Rz w f o root A5 tr c6,FZ o q f root am tr,F5 q f km tr,zm am Z xs an,o9 km fs kn,Ic A5 tr c6 B1 p1 c2]++uG f m t S2 L2)) (bC:=[b2=b2,b2=b2,b2=b2,b2=b2,b2=b2,b2=b2,b2=b2,b2=b2,b2=b2,b2=b2,b2=b2,b2=b2,b2=b2]) [.at 14,.at 14,.at 14,.at 14,.at 14,.at 14,.at 14,.at 14,.at 14,.at 14,.at 14,.at 14,.at 14] [10,0,1,2,3,11,4,5,6,7,8,9,12] hle0 (fun _=>by kernel_rfl) ⟨rfl,rfl,rfl,rfl,rfl,rfl,rfl,rfl,rfl,rfl,rfl,rfl,rfl,trivial⟩ rfl (by kernel_rfl) (⟨B1,p1,B2,p2,A5,c6,L2,rfl,rfl,by rw [hd2];exact Ln,VP,hp2⟩)
 refine SR (gK 3 [(11,.bool (decide ((c.op:Int)=(1:Int))))] [(1,a_ 13 b1)] ?_)
 refine NN (af.aV (p:=(c.op:Int)=(1:Int)) (fun _=>by kernel_rfl) (fun h11=>?_) (fun h11=>?_))
 ·refine af.region (gC 6 [] [(3,a_ 0 w),(5,a_ 13 b1)] [(13,[(2,vI (root))])] ?_)
  refine NL ?_
  exact ai.meet root (idx:=[0,3,4]) (pk:=[0,1,2,3,4,5,6,7,8,9,10,11,12,13,14]) (show (root=if c.op=1 then root else c.other)/\((Lit.int .i64 root).wf=true) from ⟨(if_pos h11).symm,hrw⟩) (fun _=>by kernel_rfl) rfl (by kernel_rfl)
 refine af.skip ?_
 exact ai.meet c.other (idx:=[0,3,4]) (pk:=[0,1,2,3,4,5,6,7,8,9,10,11,12,13,14]) (show (c.other=if c.op=1 then root else c.other)/\((Lit.int .i64 c.other).wf=true) from ⟨(if_neg h11).symm,how⟩) (fun _=>by kernel_rfl) rfl (by kernel_rfl)
end
section
open Go.RowKit Go.Maps bD aE
section d
variable {β:Bs} {fs:List bP} {xs:List cO} {root:Int} {S S2:aH} {V:WV} {tr:List aF} {c c2:aF} {G:WG}
theorem BZ (hrw:(Lit.int .i64 root).wf=true) (hI:Inv S) (hn:tr.length<=1048575) (hZ:jX β G.Z xs) (hX:ja xs 1048576) (hg:jg β) (hD:bA β c.dA c.data) (hl:c.data.length<=1048576) (hw:(Lit.int .i64 c.handle).wf=true) (how:(Lit.int .i64 c.other).wf=true) (hnm:c.name.size<=1048576) (RG:c.text.size<=1048576) (hW:gU fs xs root (tr.length+1) S c=(S2,c2)) :
    cC Tryz.prog β 16 #[vP G.w,.agg ⟨bN c⟩] [wA G fs xs root S V tr] (fun β' v l=>∃ (V':WV) (B1:Option Addr) (p1:Nat) (B2:Option Addr) (p2:Nat),v=.agg ⟨bN (bW B2 p2 c2)⟩/\l=[wA G fs xs root S2 V' (tr++[bW B1 p1 c2])]/\bA β' B1 c2.data/\bA β' B2 c2.data/\c2.data.length<=p2):=
  (Pz S V.L G.w G.o G.q G.f G.m G.t G.am G.an G.km G.kn G.Z fs xs root tr V.A V.c hrw hI hn hZ hX hg c hD hl hw how hnm RG hW).one.mono (by
    rintro β' v l _ ⟨l0,⟨B1,p1,B2,p2,A',k',L2,rfl,rfl,h1,h2,h3⟩,rfl⟩
    refine⟨⟨L2,A',k'⟩,B1,p1,B2,p2,rfl,?_,h1,h2,h3⟩
    unfold wA wP tR
    rw [List.length_append]
    rfl)
theorem Lp:Spec Tryz.prog β 49 #[vP G.w] [wA G fs xs root S V tr] (fun v l=>v=.int .i64 (tr.length:Int)/\l=[wA G fs xs root S V tr]):=
  (JA S V.L G.w G.o G.q G.f G.m G.t G.am G.an G.km G.kn G.Z fs xs root tr V.A V.c).one.mono (by rintro v l ⟨l0,⟨rfl,rfl⟩,rfl⟩;exact⟨rfl,rfl⟩)
theorem Lr (hI:Inv S):Spec Tryz.prog β 18 #[vP G.w] [wA G fs xs root S V tr] (fun v l=>∃ A cp K,v=.agg #[.slice A (av S).length cp]/\l=[wA G fs xs root S V tr]++MK A cp (av S) K):=by
  intro R w hS
  have h1:Sat β ([.abs R]++[wA G fs xs root S V tr]) w:=Sat.turn hS
  refine (JB S V.L G.w G.o G.q G.f G.m G.t G.am G.an G.km G.kn G.Z fs xs root tr V.A V.c hI R w (Sat.turn (Sat.qv h1))).mono ?_
  rintro e w' ⟨v,l,h2,⟨A,cp,K,h3,rfl⟩,h4⟩
  refine⟨v,_,h2,⟨A,cp,K,h3,rfl⟩,?_⟩
  rw [List.append_assoc] at h4
  have h5:=(Sat.turn h4).fS
  rw [List.append_assoc] at h5 ⊢
  exact Sat.turn h5
theorem Ca (hI:Inv S):cC Tryz.prog β 18 #[vP G.w] [wA G fs xs root S V tr] (fun β' v l=>∃ A cp K,v=.agg #[.slice A (av S).length cp]/\l=[wA G fs xs root S V tr]/\au β' A (av S) K):=
  (Lr hI).Jz (by
    rintro v l ⟨A,cp,K,rfl,rfl⟩
    exact⟨_,_,rfl,fun β' h=>⟨A,cp,K,rfl,rfl,h.graph⟩⟩)
theorem PA {ns:List aB} {Y:Lay} {X:FM} (A:Option Addr) (cp:Nat) (hG:au β A ns Y) (hB:eV ns 1048576) {Af Aa:Option Addr} (cf ca:Nat) (hF:cE β Af (bS eX fs)) (lV:ig fs 2097152) (hA:cE β Aa (bS fT xs)) (hab:ja xs 1048576) :
    cC Tryz.prog β 37 #[.agg #[.slice A ns.length cp],.int .i64 root,.agg #[.int .i64 X.cN,.int .i64 X.cB,.int .i64 X.cH,.int .i64 X.cS,.int .i64 X.cZ],.agg #[.slice Af fs.length cf,.slice Aa xs.length ca]] [] (fun β' v l=>(cT X ns root≠0/\v=.tuple #[.pointer none,.int .i64 (cT X ns root)]/\l=[])\/(cT X ns root=0/\∃ (N:tF X ns) (G:WG) (V:WV),v=.tuple #[vP G.w,.int .i64 0]/\l=[wA G fs xs root N.1 V []]/\jX β' G.Z xs)):=
  ((Nr A cp ns Y hG hB X root Af cf fs hF lV Aa ca xs hA hab).QN (by
    rintro β' v l (⟨h1,h2,rfl⟩|⟨h1,N,L,w,o,q,f,m,t,am,an,km,kn,Z,h2,rfl,h3⟩)
    ·exact .inl ⟨rfl,.inl ⟨h1,h2,rfl⟩⟩
    exact .inr (.inr ⟨h1,N,⟨w,o,q,am,km,an,kn,f,m,t,Z⟩,⟨L,none,0⟩,h2,rfl,h3⟩)))
end d
end
section
open Go.RowKit Go.Maps bD aE
section e
variable {β:Bs} {fs:List bP} {xs:List cO} {root:Int} {ns:List aB} {X:FM}
abbrev newP (β:Bs) (B:Option Addr) (ns:List aB) (Bf:Option Addr) (bf:Nat) (fs:List bP) (Ba:Option Addr) (ba:Nat) (xs:List cO):List HP:=[.abs (kW β (fun β'=>∃ K,au β' B ns K)),.abs (aK 39 2 Bf fs.length bf (bS eX fs)),.abs (aK 41 5 Ba xs.length ba (bS fT xs))]
abbrev Nu (B:Option Addr) (n cp:Nat) (root:Int) (X:FM) (Bf:Option Addr) (nf bf:Nat) (Ba:Option Addr) (na ba:Nat):Array Value:=#[.agg #[.slice B n cp],.int .i64 root,.agg #[.int .i64 X.cN,.int .i64 X.cB,.int .i64 X.cH,.int .i64 X.cS,.int .i64 X.cZ],.agg #[.slice Bf nf bf,.slice Ba na ba]]
theorem F6 {Bf Ba:Option Addr} (B:Option Addr) (cp:Nat) (hB:eV ns 1048576) (bf ba:Nat) (lV:ig fs 2097152) (hab:ja xs 1048576) :
    cC Tryz.prog β 37 (Nu B ns.length cp root X Bf fs.length bf Ba xs.length ba) (newP β B ns Bf bf fs Ba ba xs) (fun β' v l=>(cT X ns root≠0/\v=.tuple #[.pointer none,.int .i64 (cT X ns root)]/\l=[])\/(cT X ns root=0/\∃ (N:tF X ns) (G:WG) (V:WV),v=.tuple #[vP G.w,.int .i64 0]/\l=[wA G fs xs root N.1 V []]/\jX β' G.Z xs)):=
  cC.Je fun β1 _ ⟨K,hG⟩=>cC.QL fun Ez hL=>by
    obtain⟨F,h1,h2⟩:=hL.get 0 rfl
    obtain⟨F',h1',h2'⟩:=hL.get 1 rfl
    exact PA B cp (hG.le hL.le) hB bf ba (cE.kQ h1 h2 rfl) lV (cE.kQ h1' h2' rfl) hab
theorem Nv (h0:cT X ns root=0) {Bf Ba:Option Addr} (B:Option Addr) (cp:Nat) (hB:eV ns 1048576) (bf ba:Nat) (lV:ig fs 2097152) (hab:ja xs 1048576) :
    Spec Tryz.prog β 37 (Nu B ns.length cp root X Bf fs.length bf Ba xs.length ba) (newP β B ns Bf bf fs Ba ba xs) (fun v l=>∃ (N:tF X ns) (G:WG) (V:WV),v=.tuple #[vP G.w,.int .i64 0]/\l=[.abs (kW β (fun β'=>jX β' G.Z xs)),wA G fs xs root N.1 V []]):=
  (cC.Oc (ι:=tF X ns×WG×WV) (vv:=fun x=>.tuple #[vP x.2.1.w,.int .i64 0]) (ll:=fun x=>[wA x.2.1 fs xs root x.1.1 x.2.2 []]) (Φ:=fun x β'=>jX β' x.2.1.Z xs)
    ((F6 (X:=X) B cp hB bf ba lV hab).mono (by
      rintro β' v l _ (⟨h,_⟩|⟨_,N,G,V,h1,h2,h3⟩)
      ·exact absurd h0 h
      exact⟨(N,G,V),h1,h2,h3⟩))).mono (by rintro v l ⟨⟨N,G,V⟩,h1,h2⟩;exact⟨N,G,V,h1,h2⟩)
theorem Ls (h0:¬ cT X ns root=0) {Bf Ba:Option Addr} (B:Option Addr) (cp:Nat) (hB:eV ns 1048576) (bf ba:Nat) (lV:ig fs 2097152) (hab:ja xs 1048576) :
    Spec Tryz.prog β 37 (Nu B ns.length cp root X Bf fs.length bf Ba xs.length ba) (newP β B ns Bf bf fs Ba ba xs) (fun v l=>v=.tuple #[.pointer none,.int .i64 (cT X ns root)]/\l=[]):=
  ((F6 (X:=X) B cp hB bf ba lV hab).mono (by
      rintro β' v l _ (⟨_,h1,h2⟩|⟨h,_⟩)
      ·exact⟨h1,h2⟩
      exact absurd h h0)).QM
end e
end
section
open Go.RowKit Go.Maps bD aE
attribute [local irreducible] aj aP af ai
noncomputable abbrev F7 (b1:Nat) (A:Option Addr) (ns:List aB) (c) (root) (X:FM) (Af) (fs:List bP) (cf) (Aa) (xs:List cO) (ca):=(.blk b1 [.slice A (ns.length) (c),vI (root),vI (X.cN),vI (X.cB),vI (X.cH),vI (X.cS),vI (X.cZ),.slice Af (fs.length) (cf),.slice Aa (xs.length) (ca)] 34:HP)
noncomputable abbrev OM (B)(ns:List aB) (cp) (root) (X:FM):=([(6,.agg #[.slice B (ns.length) (cp)]),(8,vI (root)),(10,.agg #[vI (X.cN),vI (X.cB),vI (X.cH),vI (X.cS),vI (X.cZ)])]:Fr)
noncomputable abbrev T4 (root)(X:FM):=([(8,vI (root)),(10,.agg #[vI (X.cN),vI (X.cB),vI (X.cH),vI (X.cS),vI (X.cZ)])]:Fr)
theorem DQ {β:Bs} (A:Option Addr) (c:Nat) (ns:List aB) (Y:Lay) (hG:au β A ns Y) (hB:eV ns 1048576) (X:FM) (root:Int) (Af:Option Addr) (cf:Nat) (fs:List bP) (hF:cE β Af (bS eX fs)) (lV:ig fs 2097152) (Aa:Option Addr) (ca:Nat) (xs:List cO) (hA:cE β Aa (bS fT xs)) (hab:ja xs 1048576) :
    cC Tryz.prog β 15 #[.agg #[.slice A (ns.length) (c),vI (root),vI (X.cN),vI (X.cB),vI (X.cH),vI (X.cS),vI (X.cZ),.slice Af (fs.length) (cf),.slice Aa (xs.length) (ca)]] [] (fun β' v l=>(cT X ns root≠0/\v=.tuple #[.pointer none,vI (cT X ns root)]/\l=[])\/(cT X ns root=0/\∃ (N:tF X ns) (G:WG) (V:WV),v=.tuple #[vP G.w,vI 0]/\l=[wA G fs xs root N.1 V []]/\jX β' G.Z xs)):=by
 refine cC.enter Tryz.func15 rfl Tryz.ntmps15 (Nat.le_of_ble_eq_true rfl) (fun hle0 R=>?_)
 refine SR (gN 3 (fun b1=>[(1,vP b1)]) (fun _=>[]) (fun _=>[]) (fun b1=>.blk b1 [.slice A (ns.length) (c),vI (root),vI (X.cN),vI (X.cB),vI (X.cH),vI (X.cS),vI (X.cZ),.slice Af (fs.length) (cf),.slice Aa (xs.length) (ca)] 34) (fun b1=>?_))
 refine NN (af.seq ?_)
 by_cases h0:cT X ns root=0
 ·refine af.nk (S:=[F7 b1 A ns c root X Af fs cf Aa xs ca]) [(true,0),(true,1),(true,3),(true,4),(true,5),(true,6),(true,7),(true,8),(false,2),(false,9),(false,10),(true,11),(true,12),(true,13),(false,14)] [1] (by kernel_rfl) (by kernel_rfl) rfl (by kernel_rfl) ?_
  refine gG [(false,2),(false,9),(false,10),(true,11),(true,12),(true,13),(false,14)] ([(5,.agg #[.slice A (ns.length) (c)])]++T4 root X++[(12,.agg #[.slice Af (fs.length) (cf),.slice Aa (xs.length) (ca)])]) [0,1,3,4,5,6,7,8] [(1,a_ 0 b1),(3,a_ 0 b1),(5,A_ 0 b1 5),(7,A_ 0 b1 2)] ?_
  refine iE.cut (ι:=(Option Addr)×Nat) (fr':=fun ((B,cp):(Option Addr)×Nat)=>(OM B ns cp root X++[(12,.agg #[.slice Af (fs.length) (cf),.slice Aa (xs.length) (ca)])])) (hp':=fun ((B,cp):(Option Addr)×Nat)=>[.abs (kW β (fun β'=>∃ K,au β' B ns K)),.abs R,F7 b1 A ns c root X Af fs cf Aa xs ca]) [2] (by kernel_rfl) ?_ rfl (fun _=>by kernel_rfl) ?_
  ·refine gL [] (wQ (β:=β) A c ns Y hG (tS hB) (Bb hB)) ?_
   rintro _ _ ⟨B,cp,rfl,rfl⟩
   refine NL ?_
   exact MD (B,cp) [6,8,10,12] [0,1,2]
  rintro⟨B,cp⟩
  refine iE.cut (ι:=(Option Addr)×Nat×(Option Addr)×Nat) (fr':=fun ((Bf,bf,Ba,ba):(Option Addr)×Nat×(Option Addr)×Nat)=>(OM B ns cp root X++[(13,.agg #[.slice Bf (fs.length) (bf),.slice Ba (xs.length) (ba)])])) (hp':=fun ((Bf,bf,Ba,ba):(Option Addr)×Nat×(Option Addr)×Nat)=>[.abs (aK 39 2 Bf fs.length bf (bS eX fs)),.abs (aK 41 5 Ba xs.length ba (bS fT xs)),.abs (kW β (fun β'=>∃ K,au β' B ns K)),.abs R,F7 b1 A ns c root X Af fs cf Aa xs ca]) [4] (by kernel_rfl) ?_ rfl (fun _=>by kernel_rfl) ?_
  ·refine gL [] (wR (β:=β) Af cf fs hF lV.len Aa ca xs hA (Nat.le_trans hab.len (by decide))) ?_
   rintro _ _ ⟨Bf,bf,Ba,ba,rfl,rfl⟩
   refine NL ?_
   exact MD (Bf,bf,Ba,ba) [6,8,10,13] [0,1,2,3,4]
  rintro⟨Bf,bf,Ba,ba⟩
  refine iE.cut (ι:=(tF X ns)×WG×WV) (fr':=fun ((N,G,V):(tF X ns)×WG×WV)=>[(14,.tuple #[vP G.w,vI 0])]) (hp':=fun ((N,G,V):(tF X ns)×WG×WV)=>[.abs (kW β (fun β'=>jX β' G.Z xs)),wA G fs xs root N.1 V ([]),.abs R,.blk b1 [.slice A (ns.length) (c),vI (root),vI (X.cN),vI (X.cB),vI (X.cH),vI (X.cS),vI (X.cZ),.slice Af (fs.length) (cf),.slice Aa (xs.length) (ca)] 34]) [3] (by kernel_rfl) ?_ rfl (fun _=>by kernel_rfl) ?_
  ·refine gL [2,0,1] (Nv (β:=β) (X:=X) (Bf:=Bf) (Ba:=Ba) h0 B cp hB bf ba lV hab) ?_
   rintro _ _ ⟨N,G,V,rfl,rfl⟩
   refine NL ?_
   exact MD (N,G,V) [14] [0,1,2,3]
  rintro⟨N,G,V⟩
  refine gG [(false,14)] [(2,vP G.w),(16,vI 0)] [11,12,13] [] ?_
  refine iE.last (by kernel_rfl) ?_
  refine gK 1 [(3,vI 0)] [] ?_
  refine NL (ai.np (NX (af.ret ?_)))
  refine ai.Fk 0 [1,2,3] (cR:=[wA G fs xs root N.1 V ([]),.abs R,.blk b1 [.slice A (ns.length) (c),vI (root),vI (X.cN),vI (X.cB),vI (X.cH),vI (X.cS),vI (X.cZ),.slice Af (fs.length) (cf),.slice Aa (xs.length) (ca)] 34]) rfl (by kernel_rfl) rfl (fun Ez iG hz=>?_)
  replace hG:=hG.le iG
  replace hF:=hF.le iG
  replace hA:=hA.le iG
  replace hle0:=hle0.trans iG
  exact ai.nQ (v:=.tuple #[vP G.w,vI 0]) (l:=[wA G fs xs root N.1 V ([])]) (bC:=[]) [] [0,1] hle0 (fun _=>by kernel_rfl) trivial rfl (by kernel_rfl) (.inr ⟨h0,N,G,V,rfl,rfl,hz⟩)
 refine af.nk (S:=[F7 b1 A ns c root X Af fs cf Aa xs ca]) [(true,0),(true,1),(true,3),(true,4),(true,5),(true,6),(true,7),(true,8),(false,2),(false,9),(false,10),(true,11),(true,12),(true,13),(false,14)] [1] (by kernel_rfl) (by kernel_rfl) rfl (by kernel_rfl) ?_
 refine gG [(false,2),(false,9),(false,10),(true,11),(true,12),(true,13),(false,14)] ([(5,.agg #[.slice A (ns.length) (c)])]++T4 root X++[(12,.agg #[.slice Af (fs.length) (cf),.slice Aa (xs.length) (ca)])]) [0,1,3,4,5,6,7,8] [(1,a_ 0 b1),(3,a_ 0 b1),(5,A_ 0 b1 5),(7,A_ 0 b1 2)] ?_
 refine iE.cut (ι:=(Option Addr)×Nat) (fr':=fun ((B,cp):(Option Addr)×Nat)=>(OM B ns cp root X++[(12,.agg #[.slice Af (fs.length) (cf),.slice Aa (xs.length) (ca)])])) (hp':=fun ((B,cp):(Option Addr)×Nat)=>[.abs (kW β (fun β'=>∃ K,au β' B ns K)),.abs R,F7 b1 A ns c root X Af fs cf Aa xs ca]) [2] (by kernel_rfl) ?_ rfl (fun _=>by kernel_rfl) ?_
 ·refine gL [] (wQ (β:=β) A c ns Y hG (tS hB) (Bb hB)) ?_
  rintro _ _ ⟨B,cp,rfl,rfl⟩
  refine NL ?_
  exact MD (B,cp) [6,8,10,12] [0,1,2]
 rintro⟨B,cp⟩
 refine iE.cut (ι:=(Option Addr)×Nat×(Option Addr)×Nat) (fr':=fun ((Bf,bf,Ba,ba):(Option Addr)×Nat×(Option Addr)×Nat)=>(OM B ns cp root X++[(13,.agg #[.slice Bf (fs.length) (bf),.slice Ba (xs.length) (ba)])])) (hp':=fun ((Bf,bf,Ba,ba):(Option Addr)×Nat×(Option Addr)×Nat)=>[.abs (aK 39 2 Bf fs.length bf (bS eX fs)),.abs (aK 41 5 Ba xs.length ba (bS fT xs)),.abs (kW β (fun β'=>∃ K,au β' B ns K)),.abs R,F7 b1 A ns c root X Af fs cf Aa xs ca]) [4] (by kernel_rfl) ?_ rfl (fun _=>by kernel_rfl) ?_
 ·refine gL [] (wR (β:=β) Af cf fs hF lV.len Aa ca xs hA (Nat.le_trans hab.len (by decide))) ?_
  rintro _ _ ⟨Bf,bf,Ba,ba,rfl,rfl⟩
  refine NL ?_
  exact MD (Bf,bf,Ba,ba) [6,8,10,13] [0,1,2,3,4]
 rintro⟨Bf,bf,Ba,ba⟩
 refine iE.cut (ι:=Unit) (fr':=fun (_:Unit)=>[(14,.tuple #[.pointer none,vI (cT X ns root)])]) (hp':=fun (_:Unit)=>[.abs R,F7 b1 A ns c root X Af fs cf Aa xs ca]) [1] (by kernel_rfl) ?_ rfl (fun _=>by kernel_rfl) ?_
 ·refine gL [2,0,1] (Ls (β:=β) (X:=X) (Bf:=Bf) (Ba:=Ba) h0 B cp hB bf ba lV hab) ?_
  rintro _ _ ⟨rfl,rfl⟩
  refine NL ?_
  exact MD () [14] [0,1]
 rintro _
 refine gG [(false,14)] [(2,.pointer none),(16,vI ((cT X ns root)))] [11,12,13] [] ?_
 refine iE.last (by kernel_rfl) ?_
 refine gK 1 [(3,vI ((cT X ns root)))] [] ?_
 refine NL (ai.np (NX (af.ret ?_)))
 exact ai.nQ (v:=.tuple #[.pointer none,vI ((cT X ns root))]) (l:=[]) (bC:=[]) [] [0] hle0 (fun _=>by kernel_rfl) trivial rfl (by kernel_rfl) (.inl ⟨h0,rfl,rfl⟩)
end
section
open Go.RowKit Go.Maps bD aE
def VQ:aB:=⟨1,2,493,0,0,0,0,[],⟨#[]⟩,[]⟩
def vn:List aB:=[VQ]
def yu:List bP:=[⟨2,1⟩]
theorem Ie {i:Nat} (h:i < vn.length):i=0:=by
  have h:i < 1:=h
  omega
theorem SV:bh vn:=by
  refine⟨by decide,fun i hi=>?_,fun i hi=>?_,fun i j hij hj=>?_,by decide,fun i hi j hj=>?_,by decide,fun z=>?_⟩
  ·obtain rfl:=Ie hi
   exact⟨by decide,by decide,by decide,by decide,DI,fun _=>rfl,fun h=>absurd rfl h,.inl ⟨by decide,rfl⟩⟩
  ·obtain rfl:=Ie hi
   exact⟨by decide,by decide⟩
  ·have:=Ie hj;omega
  ·obtain rfl:=Ie hi
   exact absurd hj (Nat.not_lt_zero j)
  have e:(fO vn vn.length).map (jk vn)=[]:=by decide
  rw [e]
  exact⟨0,rfl⟩
theorem RH:jC (FU 99):=Pt (by decide)
theorem SW {β:Bs} {B:Option Addr} (hR:cE β B (dI ⟨fun _=>none,fun _=>none,fun _=>0,fun _=>0⟩ vn)):au β B vn ⟨fun _=>none,fun _=>none,fun _=>0,fun _=>0⟩:=by
  have hn:∀ {A:Option Addr},cE β A []:=fun j v hj=>by simp at hj
  refine⟨hR,fun i hi=>?_,fun i hi=>?_⟩<;>(obtain rfl:=Ie hi;exact hn)
structure Nw (S:aH):Prop where
  inv:Inv S
  idx:S.idx=[(1,⟨1,2⟩)]
  us:S.us=[]
  X:S.X=⟨9,99,9,0,0,1,0,0⟩
  o1:∃ l u,obj S.O 1=⟨1,493,0,0,0,0,l,0,false,2,[],⟨#[]⟩,[],u⟩
section v
variable {S:aH}
theorem RI (h:eY (FU 99) vn vn.length 0 S):Nw S:=by
  obtain⟨l1,u1,h1⟩:=h.ob 0 (by decide)
  exact⟨h.full,h.idx,h.us,h.cap,⟨l1,u1,h1⟩⟩
def nL:aF:=⟨1,0,0,⟨#[]⟩,⟨#[]⟩,none,0,[],0,0,0,0,0,0,0⟩
def nB:aF:=⟨4,1,0,⟨#[100]⟩,⟨#[]⟩,none,0,[],0,0,0,0,0,0,0⟩
theorem UW (h:Nw S):gU yu [] 1 1 S nL=(S1 S,{ nL with other:=1,answer:=1,code:=0 }):=by
  have:=Pu (S:=S) (c:={ nL with other:=1 }) (t:=⟨1,2⟩) rfl (by rw [h.idx];rfl) rfl (by rw [h.us,h.X];show (0:Int) < 9;decide)
  rw [h.us] at this
  exact this
theorem UX:gU yu [] 1 2 S nB=(S,{ nB with code:=180 }):=rfl
theorem UY (h:Nw S):∃ S2,gU yu [] 1 3 (S1 S) nB=(S2,{ nB with answer:=0,code:=0 })/\S2.idx.length=2:=by
  obtain⟨l,u,h1⟩:=h.o1
  have e1:obj (S1 S).O 1=⟨1,493,0,0,0,0,l,1,false,2,[],⟨#[]⟩,[],u⟩:=by
    rw [UN,h1];rfl
  have hX:(S1 S).X=⟨9,99,9,0,0,1,0,0⟩:=h.X
  have hi:(S1 S).idx=[(1,⟨1,2⟩)]:=h.idx
  have ha:dX (S1 S).O (S1 S).us 1 ⟨#[100]⟩ 192=.ok 1:=Nh (t:=⟨1,2⟩) rfl rfl (by rw [e1]) Rk (by rw [e1];exact Rl)
  refine⟨_,show cA (S1 S) nB=_ from Ni (S:=S1 S) (c:=nB) rfl ha ⟨by decide,by decide⟩ (by rw [e1];rfl) ⟨by rw [hX,hi];show (1:Int) < 9;decide,by rw [hX];show (1:Int) < 1099511627776;decide,by rw [hX];show (0:Int) < 8192;decide⟩,?_⟩
  show (ins _ _ (S1 S).idx).length=2
  rw [hX,hi];rfl
end v
end
section
open Go.RowKit Go.Maps bD aE
section f
variable {β:Bs} {fs:List bP} {xs:List cO} {root:Int} {ns:List aB} {X:FM}
theorem Cb {ns:List aB} (h0:cT X ns root=0) (A:Option Addr) (c:Nat) (Y:Lay) (hG:au β A ns Y) (hB:eV ns 1048576) (Af:Option Addr) (cf:Nat) (fs:List bP) (hF:cE β Af (bS eX fs)) (lV:ig fs 2097152) (Aa:Option Addr) (ca:Nat) (xs:List cO) (hA:cE β Aa (bS fT xs)) (hab:ja xs 1048576) :
    cC Tryz.prog β 15 #[CD A ns.length c root X Af fs.length cf Aa xs.length ca] [] (fun β' v l=>∃ (N:tF X ns) (G:WG) (V:WV),v=.tuple #[vP G.w,.int .i64 0]/\l=[wA G fs xs root N.1 V []]/\jX β' G.Z xs):=
  (DQ A c ns Y hG hB X root Af cf fs hF lV Aa ca xs hA hab).mono (by
    rintro β' v l _ (⟨h,_⟩|⟨_,h⟩)
    ·exact absurd h0 h
    exact h)
theorem JC {ns:List aB} (h0:¬ cT X ns root=0) (A:Option Addr) (c:Nat) (Y:Lay) (hG:au β A ns Y) (hB:eV ns 1048576) (Af:Option Addr) (cf:Nat) (fs:List bP) (hF:cE β Af (bS eX fs)) (lV:ig fs 2097152) (Aa:Option Addr) (ca:Nat) (xs:List cO) (hA:cE β Aa (bS fT xs)) (hab:ja xs 1048576) :
    cC Tryz.prog β 15 #[CD A ns.length c root X Af fs.length cf Aa xs.length ca] [] (fun _ v l=>v=.tuple #[.pointer none,.int .i64 (cT X ns root)]/\l=[]):=
  (DQ A c ns Y hG hB X root Af cf fs hF lV Aa ca xs hA hab).mono (by
    rintro β' v l _ (⟨_,h1,h2⟩|⟨h,_⟩)
    ·exact⟨h1,h2⟩
    exact absurd h h0)
theorem RJ:cT (FU 99) vn 1=0:=BD RH SV (i:=0) ⟨by decide,rfl,fun q h=>absurd h (Nat.not_lt_zero q)⟩ rfl
theorem UZ:eV vn 1048576:=⟨by decide,fun i hi=>by
  obtain rfl:=Ie hi
  exact⟨by unfold nE;decide,by decide,by decide,by decide,fun j hj=>absurd hj (Nat.not_lt_zero j)⟩⟩
theorem SX:ig yu 2097152:=⟨by decide,fun a ha=>by
  obtain rfl:=List.mem_singleton.1 ha
  decide⟩
theorem Ej:ja [] 1048576:=⟨by decide,fun a ha=>by cases ha⟩
end f
end
section
open Go.RowKit Go.Maps bD aE
attribute [local irreducible] aj aP af ai
noncomputable abbrev T5 (b4:Nat):=(.blk b4 [.slice none (0) (0),vI 0,vI 0,vI 0,vI 0,vI 0,vI 0,.slice none (0) (0),.slice none (0) (0)] 34:HP)
noncomputable abbrev RL (b18:Nat) (Ig) (p16):=(.blk b18 [vI 1,vI 0,vI 1,.string ⟨#[]⟩,.string ⟨#[]⟩,.slice Ig (0) (p16),vI 0,vI 0,vI 0,vI 0,vI 0,vI 0,vI 1] 48:HP)
noncomputable abbrev T6 (o8:Nat) (Lu) (Lv):=(.blk o8 [vI 4,vI 1,vI 0,.string ⟨#[100]⟩,.string ⟨#[]⟩,.slice Lu (0) (Lv),vI 0,vI 0,vI 0,vI 0,vI 0,vI 180,vI 0] 48:HP)
theorem GL {β:Bs} (c:aF) (hD:bA β c.dA c.data) (hl:c.data.length<=1048576) :
    cC Tryz.prog β 17 #[.agg ⟨bN c⟩] [] (fun β' v l=>∃ B cp,v=.agg ⟨bN { c with dA:=B,dC:=cp }⟩/\l=[]/\bA β' B c.data/\c.data.length<=cp):=by
 refine cC.enter Tryz.func17 rfl Tryz.ntmps17 (Nat.le_of_ble_eq_true rfl) (fun hle0 R=>?_)
 refine SR (gN 1 (fun b1=>[(1,vP b1)]) (fun _=>[]) (fun _=>[]) (fun b1=>pC b1 c) (fun b1=>?_))
 refine gN 1 (fun b2=>[(2,vP b2)]) (fun _=>[]) (fun _=>[]) (fun b2=>.blk b2 [vI 0,vI 0,vI 0,.string ⟨#[]⟩,.string ⟨#[]⟩,.slice none (0) (0),vI 0,vI 0,vI 0,vI 0,vI 0,vI 0,vI 0] 48) (fun b2=>?_)
 refine NS (gK 2 [(4,.slice c.dA (c.data.length) (c.dC))] [(1,a_ 1 b1)] ?_)
 refine aj.jA (d:=(some 5)) (R:=[.abs R,pC b1 c,pN b2]) (pk:=[0,1,2]) (fun _=>by kernel_rfl) (D4 c.dA c.dC c.data hD hl) rfl (by kernel_rfl) ?_
 rintro Lm _ _ jK ⟨B,cp,rfl,rfl,hB,Fb⟩
 replace hle0:=hle0.trans jK
 refine gC 2 [] [(1,a_ 1 b1)] [(1,[(5,.slice B (c.data.length) (cp))])] ?_
 refine NS (gC 2 [] [(0,A_ 1 b1 13),(1,A_ 2 b2 13)] [(2,(Nt c B cp))] ?_)
 refine NN (af.ret ?_)
 exact ai.nQ (v:=.agg ⟨bN (bW B cp c)⟩) (l:=[]) (bC:=[b2=b2,b2=b2,b2=b2,b2=b2,b2=b2,b2=b2,b2=b2,b2=b2,b2=b2,b2=b2,b2=b2,b2=b2,b2=b2]) [.at 2,.at 2,.at 2,.at 2,.at 2,.at 2,.at 2,.at 2,.at 2,.at 2,.at 2,.at 2,.at 2] [0] hle0 (fun _=>by kernel_rfl) ⟨rfl,rfl,rfl,rfl,rfl,rfl,rfl,rfl,rfl,rfl,rfl,rfl,rfl,trivial⟩ rfl (by kernel_rfl) (⟨B,cp,rfl,rfl,hB,Fb⟩)
theorem GN {β:Bs}:cC Tryz.prog β 57 #[] [] (fun β' v l=>∃ B Bf,v=.agg #[.slice B 1 1,vI 1,vI 9,vI 99,vI 9,vI 0,vI 0,.slice Bf 1 1,.slice none 0 0]/\l=[]/\cE β' B (dI ⟨fun _=>none,fun _=>none,fun _=>0,fun _=>0⟩ vn)/\cE β' Bf (bS eX yu)):=by
 refine cC.enter Tryz.func57 rfl Tryz.ntmps57 (Nat.le_of_ble_eq_true rfl) (fun hle0 R=>?_)
 refine SR (gN 1 (fun b4=>[(0,vP b4)]) (fun _=>[]) (fun _=>[]) (fun b4=>.blk b4 [.slice none (0) (0),vI 0,vI 0,vI 0,vI 0,vI 0,vI 0,.slice none (0) (0),.slice none (0) (0)] 34) (fun b4=>?_))
 refine NS (gN 3 (fun b5=>[(4,.agg #[.slice (some ⟨b5,0,none⟩) (1) (1)])]) (fun _=>[]) (fun _=>[]) (fun b5=>.blk b5 [vI 1,vI 2,vI 493,vI 0,vI 0,vI 0,vI 0,.slice none (0) (0),.string ⟨#[]⟩,.slice none (0) (0)] 70) (fun b5=>?_))
 refine gN 2 (fun b6=>[(1,vP b6)]) (fun b6=>[(1,a_ 3 b6)]) (fun _=>[]) (fun b6=>.blk b6 [.slice (some ⟨b5,0,none⟩) (1) (1)] 24) (fun b6=>?_)
 refine NS (aj.mem (fun w hS=>hS.rH (i:=2) (b:=b5) (cs:=[vI 1,vI 2,vI 493,vI 0,vI 0,vI 0,vI 0,.slice none (0) (0),.string ⟨#[]⟩,.slice none (0) (0)]) (e:=70) 10 1 (by kernel_rfl) rfl (by decide)) ?_)
 refine aj.oL (Φ:=fun β'=>cE β' (some ⟨b5,0,none⟩) (dI ⟨fun _=>none,fun _=>none,fun _=>0,fun _=>0⟩ vn)) 2 [0,1,3] (cR:=[.abs R,T5 b4,.blk b6 [.slice (some ⟨b5,0,none⟩) (1) (1)] 24]) rfl rfl (by kernel_rfl) (fun F w h β' h1 h2=>cE.kQ h h1 h2) (fun yt eH hR=>?_)
 replace hle0:=hle0.trans eH
 refine gN 4 (fun b8=>[(5,.agg #[.slice (some ⟨b5,0,none⟩) (1) (1)]),(6,.agg #[vI 9,vI 99,vI 9,vI 0,vI 0]),(8,.slice (some ⟨b8,0,none⟩) (1) (1))]) (fun b8=>[(0,a_ 2 b6)]) (fun _=>[]) (fun b8=>.blk b8 [vI 2,vI 1] 39) (fun b8=>?_)
 refine aj.mem (fun w hS=>hS.rH (i:=3) (b:=b8) (cs:=[vI 2,vI 1]) (e:=39) 2 1 (by kernel_rfl) rfl (by decide)) ?_
 refine aj.oL (Φ:=fun β'=>cE β' (some ⟨b8,0,none⟩) (bS eX yu)) 3 [0,1,2] (cR:=[.abs R,T5 b4,.blk b6 [.slice (some ⟨b5,0,none⟩) (1) (1)] 24]) rfl rfl (by kernel_rfl) (fun F w h β' h1 h2=>cE.kQ h h1 h2) (fun W7 Ih hQ=>?_)
 replace hR:=hR.le Ih
 replace hle0:=hle0.trans Ih
 refine gC 3 [] [(2,A_ 1 b4 9)] [(1,[(0,.slice (some ⟨b5,0,none⟩) (1) (1)),(1,vI 1),(2,vI 9),(3,vI 99),(4,vI 9),(7,.slice (some ⟨b8,0,none⟩) (1) (1))])] ?_
 refine NN (af.ret ?_)
 exact ai.nQ (v:=.agg #[.slice (some ⟨b5,0,none⟩) (1) (1),vI 1,vI 9,vI 99,vI 9,vI 0,vI 0,.slice (some ⟨b8,0,none⟩) (1) (1),.slice none (0) (0)]) (l:=[]) (bC:=[b4=b4,b4=b4,b4=b4,b4=b4,b4=b4,b4=b4,b4=b4,b4=b4,b4=b4]) [.at 1,.at 1,.at 1,.at 1,.at 1,.at 1,.at 1,.at 1,.at 1] [0] hle0 (fun _=>by kernel_rfl) ⟨rfl,rfl,rfl,rfl,rfl,rfl,rfl,rfl,rfl,trivial⟩ rfl (by kernel_rfl) (⟨_,_,rfl,rfl,hR,hQ⟩)
theorem Nx {β:Bs} (hg:jg β):cC Tryz.prog β 13 #[] [] (fun _ v l=>v=.bool true/\l=[]):=by
 refine cC.enter Tryz.func13 rfl Tryz.ntmps13 (Nat.le_of_ble_eq_true rfl) (fun hle0 R=>?_)
 refine SR (gK 1 [] [] ?_)
 refine NS (aj.jA (d:=(some 7)) (R:=[.abs R]) (pk:=[0]) (fun _=>by kernel_rfl) (GN) rfl (by kernel_rfl) ?_)
 rintro kI _ _ dH ⟨B,Bf,rfl,rfl,hR,hQ⟩
 replace hg:=hg.le dH
 replace hle0:=hle0.trans dH
 refine aj.jA (d:=(some 8)) (R:=[.abs R]) (pk:=[0]) (fun _=>by kernel_rfl) (Cb (β:=kI) (X:=FU 99) RJ B 1 _ (SW hR) UZ Bf 1 yu hQ SX none 0 [] (fun j v hj=>by simp [bS,dK] at hj) Ej) rfl (by kernel_rfl) ?_
 rintro JD _ _ iF ⟨N,G,V,rfl,rfl,hZ⟩
 replace hg:=hg.le iF
 replace hR:=hR.le iF
 replace hQ:=hQ.le iF
 replace hle0:=hle0.trans iF
 refine gK 5 [(1,vP G.w),(2,vI 0)] [] ?_
 refine NN (af.seq (SR (gK 6 [(16,.bool false)] [] ?_)))
 refine NN (CF (af.skip (NX (SR (gK 2 [(17,vP G.w),(18,.agg #[vI 1,vI 0,vI 0,.string ⟨#[]⟩,.string ⟨#[]⟩,.slice none (0) (0),vI 0,vI 0,vI 0,vI 0,vI 0,vI 0,vI 0])] [] ?_)))))
 have hv:=RI N.2
 have e1:=UW hv
 have bU:Inv (S1 N.1):=by have h:=Inv.gU (fs:=yu) (xs:=[]) (root:=1) (n:=1) (c:=nL) hv.inv;rw [e1] at h;exact h
 obtain⟨S3,e3,VR⟩:=UY hv
 have VS:Inv S3:=by have h:=Inv.gU (fs:=yu) (xs:=[]) (root:=1) (n:=3) (c:=nB) bU;rw [e3] at h;exact h
 refine aj.jA (d:=(some 19)) (R:=[.abs R]) (pk:=[0,1]) (fun _=>by kernel_rfl) (BZ (β:=JD) (G:=G) (V:=V) (tr:=[]) (c:=nL) (by decide) hv.inv (by show 0<=1048575;decide) hZ Ej hg (fun j v hj=>by cases hj) (by decide) (by decide) (by decide) (by decide) (by decide) e1) rfl (by kernel_rfl) ?_
 rintro wv _ _ iU ⟨VT,Lw,Lx,Ig,p16,rfl,rfl,_,_,_⟩
 replace hg:=hg.le iU
 replace hR:=hR.le iU
 replace hQ:=hQ.le iU
 replace hZ:=hZ.le iU
 replace hle0:=hle0.trans iU
 refine gN 2 (fun b18=>[(3,vP b18)]) (fun b18=>[(1,A_ 2 b18 13)]) (fun _=>[]) (fun b18=>.blk b18 [vI 1,vI 0,vI 1,.string ⟨#[]⟩,.string ⟨#[]⟩,.slice Ig (0) (p16),vI 0,vI 0,vI 0,vI 0,vI 0,vI 0,vI 1] 48) (fun b18=>?_)
 refine NS (gK 2 [(20,vP G.w),(21,.agg #[vI 4,vI 1,vI 0,.string ⟨#[100]⟩,.string ⟨#[]⟩,.slice none (0) (0),vI 0,vI 0,vI 0,vI 0,vI 0,vI 0,vI 0])] [] ?_)
 refine aj.jA (d:=(some 22)) (R:=[.abs R,RL b18 Ig p16]) (pk:=[0,1,2]) (fun _=>by kernel_rfl) (BZ (β:=wv) (G:=G) (V:=VT) (tr:=([]++[bW Lw Lx ({ nL with other:=1,answer:=1,code:=0 })])) (c:=nB) (by decide) bU (by show 1<=1048575;decide) hZ Ej hg (fun j v hj=>by cases hj) (by decide) (by decide) (by decide) (by decide) (by decide) UX) rfl (by kernel_rfl) ?_
 rintro U0 _ _ tG ⟨VU,OO,OQ,Lu,Lv,rfl,rfl,_,_,_⟩
 replace hg:=hg.le tG
 replace hR:=hR.le tG
 replace hQ:=hQ.le tG
 replace hZ:=hZ.le tG
 replace hle0:=hle0.trans tG
 refine gN 2 (fun o8=>[(4,vP o8)]) (fun o8=>[(1,A_ 3 o8 13)]) (fun _=>[]) (fun o8=>.blk o8 [vI 4,vI 1,vI 0,.string ⟨#[100]⟩,.string ⟨#[]⟩,.slice Lu (0) (Lv),vI 0,vI 0,vI 0,vI 0,vI 0,vI 180,vI 0] 48) (fun o8=>?_)
 refine NS (gK 2 [(23,vP G.w),(24,.agg #[vI 4,vI 1,vI 0,.string ⟨#[100]⟩,.string ⟨#[]⟩,.slice none (0) (0),vI 0,vI 0,vI 0,vI 0,vI 0,vI 0,vI 0])] [] ?_)
 refine aj.jA (d:=(some 25)) (R:=[.abs R,RL b18 Ig p16,T6 o8 Lu Lv]) (pk:=[0,1,2,3]) (fun _=>by kernel_rfl) (BZ (β:=U0) (G:=G) (V:=VU) (tr:=(([]++[bW Lw Lx ({ nL with other:=1,answer:=1,code:=0 })])++[bW OO OQ ({ nB with code:=180 })])) (c:=nB) (by decide) bU (by show 2<=1048575;decide) hZ Ej hg (fun j v hj=>by cases hj) (by decide) (by decide) (by decide) (by decide) (by decide) e3) rfl (by kernel_rfl) ?_
 rintro RM _ _ tH ⟨T7,RN,RO,T8,T9,rfl,rfl,_,_,_⟩
 replace hg:=hg.le tH
 replace hR:=hR.le tH
 replace hQ:=hQ.le tH
 replace hZ:=hZ.le tH
 replace hle0:=hle0.trans tH
 refine gN 2 (fun b32=>[(5,vP b32)]) (fun b32=>[(1,A_ 4 b32 13)]) (fun _=>[]) (fun b32=>.blk b32 [vI 4,vI 1,vI 0,.string ⟨#[100]⟩,.string ⟨#[]⟩,.slice T8 (0) (T9),vI 0,vI 0,vI 0,vI 0,vI 0,vI 0,vI 0] 48) (fun b32=>?_)
 refine NS (gK 20 [(44,.bool true),(45,vP G.w)] [(1,a_ 2 b18),(5,a_ 2 b18),(10,a_ 3 o8),(15,a_ 4 b32)] ?_)
 refine gL [0] (Lp (β:=RM) (G:=G) (fs:=yu) (xs:=[]) (root:=1) (S:=S3) (V:=T7) (tr:=((([]++[bW Lw Lx ({ nL with other:=1,answer:=1,code:=0 })])++[bW OO OQ ({ nB with code:=180 })])++[bW RN RO ({ nB with answer:=0,code:=0 })]))) ?_
 rintro _ _ ⟨rfl,rfl⟩
 refine gK 4 [(49,.bool true),(50,vP G.w)] [(0,p_ ⟨[],none,none,none,some (.bool true)⟩ [((.bool (decide (((((((([]++[bW Lw Lx ({ nL with other:=1,answer:=1,code:=0 })])++[bW OO OQ ({ nB with code:=180 })])++[bW RN RO ({ nB with answer:=0,code:=0 })])).length:Nat):Int):Int)=(3:Int))):Value))=(.bool true)] ⟨rfl,trivial⟩)] ?_
 refine aj.jA (d:=(some 51)) (R:=[.abs R,RL b18 Ig p16,T6 o8 Lu Lv,.blk b32 [vI 4,vI 1,vI 0,.string ⟨#[100]⟩,.string ⟨#[]⟩,.slice T8 (0) (T9),vI 0,vI 0,vI 0,vI 0,vI 0,vI 0,vI 0] 48]) (pk:=[0,1,2,3,4]) (fun _=>by kernel_rfl) (Ca (β:=RM) (G:=G) (fs:=yu) (xs:=[]) (root:=1) (S:=S3) (V:=T7) (tr:=((([]++[bW Lw Lx ({ nL with other:=1,answer:=1,code:=0 })])++[bW OO OQ ({ nB with code:=180 })])++[bW RN RO ({ nB with answer:=0,code:=0 })])) VS) rfl (by kernel_rfl) ?_
 rintro Wx _ _ tI ⟨A4,c4,K4,rfl,rfl,_⟩
 replace hg:=hg.le tI
 replace hR:=hR.le tI
 replace hQ:=hQ.le tI
 replace hZ:=hZ.le tI
 replace hle0:=hle0.trans tI
 refine gK 5 [(0,.bool (decide ((((2:Nat):Int):Int)=(2:Int))))] [(1,p_ ⟨[],none,none,none,some (vI (((2:Nat):Int)))⟩ [((.int .i64 ↑((av S3).length):Value))=(.int .i64 (((2:Nat):Int)))] ⟨by rw [iC,VR],trivial⟩)] ?_
 refine NN (af.ret ?_)
 exact ai.nQ (v:=.bool (decide ((((2:Nat):Int):Int)=(2:Int)))) (l:=[]) (bC:=[]) [] [1] hle0 (fun _=>by kernel_rfl) trivial rfl (by kernel_rfl) (⟨rfl,rfl⟩)
end
section
open Go.RowKit Go.Maps bD aE
structure Ek where
  c:aF
  a:cO
  root:Int
instance:Inhabited Ek:=⟨⟨⟨0,0,0,⟨#[]⟩,⟨#[]⟩,none,0,[],0,0,0,0,0,0,0⟩,⟨0,0,⟨#[]⟩,⟨#[]⟩,⟨#[]⟩⟩,0⟩⟩
inductive OT (S:aH) (x:Ek):aH->Int->Prop
  | act (h:¬ x.a.op=0):OT S x (cF S x.root x.a).2 (cF S x.root x.a).1
  | call (h:x.a.op=0) (A:Option Addr) (n:Nat):OT S x (cA S { x.c with dA:=A,dC:=n }).1 (cA S { x.c with dA:=A,dC:=n }).2.code
section p
variable {S S2 S3:aH} {x:Ek} {e:Int} {d to:Nat} {name toName text:ByteArray} {t:Th} {c:aF} {O:bT}
structure Grow (S S2:aH):Prop where
  used:S2.X.used<=S.X.used\/S2.X.used<=S.X.cB
  cB:S2.X.cB=S.X.cB
  cH:S2.X.cH=S.X.cH
  ay:S.ay<=S2.ay
end p
end
section
open Go.RowKit Go.Maps bD aE
def core (o:aR):aR:={ o with links:=0,opens:=0,gone:=false,up:=none }
theorem yV {V:Type} {h:Int} {v:V} {p:Int×V}:∀ {us:Used V},p∈ins h v us↔p=(h,v)\/p∈us
  | []=>by simp [ins]
  | q::r=>by
    unfold ins
    split
    ·simp
    rw [List.mem_cons,yV,List.mem_cons]
    constructor
    ·rintro (h|h|h)
     ·exact .inr (.inl h)
     ·exact .inl h
     exact .inr (.inr h)
    rintro (h|h|h)
    ·exact .inr (.inl h)
    ·exact .inl h
    exact .inr (.inr h)
theorem Ii {V:Type} {h:Int} {p:Int×V} {us:Used V}:p∈del h us↔p∈us/\p.1≠h:=by
  unfold del
  rw [List.mem_filter]
  simp
structure iV (In:Nat->Prop) (O0 O:bT):Prop where
  out:∀ k,¬ In k->core (obj O k)=core (obj O0 k)
  tJ:∀ k,In k->∀ e∈(obj O k).ah,In e.2.k
section o
variable {In:Nat->Prop} {O0 O:bT} {k d:Nat} {f:aR->aR} {name:ByteArray} {t:Th} {X:FM}
theorem iV.upd (h:iV In O0 O) (hk:In k) (hf:∀ e∈(f (obj O k)).ah,In e.2.k):iV In O0 (aD O k f):=by
  refine⟨fun j hj=>?_,fun j hj e he=>?_⟩
  ·rw [bZ (fun e=>hj (by rw [e];exact hk))];exact h.out j hj
  by_cases e2:j=k
  ·subst e2;rw [bL] at he;exact hf e he
  rw [bZ e2] at he;exact h.tJ j hj e he
theorem iV.mE (h:iV In O0 O) (hk:In k) (hf:∀ o,(f o).ah=o.ah):iV In O0 (aD O k f):=h.upd hk (by rw [hf];exact h.tJ k hk)
theorem iV.look (h:iV In O0 O) (hd:In d) (e:aT name (obj O d).ah=some t):In t.k:=h.tJ d hd _ (lC e)
theorem iV.enter (h:iV In O0 O) (hd:In d) (ht:In t.k):iV In O0 (cU X O d name t):=by
  have h1:iV In O0 (aD O d (fun o=>{ o with ah:=gA name t o.ah })):=h.upd hd (fun e he=>by
    rcases vG.1 he with rfl|he
    ·exact ht
    exact h.tJ d hd e he)
  have h2:iV In O0 (ny O d name t):=by
    unfold ny
    simp only
    split
    ·exact (h1.mE (f:=fun o=>{ o with links:=o.links+1 }) ht (fun _=>rfl)).mE (f:=fun o=>{ o with up:=some d }) ht (fun _=>rfl)
    exact h1.mE (f:=fun o=>{ o with links:=o.links+1 }) ht (fun _=>rfl)
  exact h2.mE (f:=fun o=>{ o with sec:=X.cS,nano:=X.cZ }) hd (fun _=>rfl)
theorem iV.leave (h:iV In O0 O) (hd:In d) (ht:In t.k):iV In O0 (aQ X O d name t):=by
  have h1:iV In O0 (aD O d (fun o=>{ o with ah:=fX name o.ah })):=h.upd hd (fun e he=>h.tJ d hd e (EV he).1)
  have h2:iV In O0 (oV X (aD O d (fun o=>{ o with ah:=fX name o.ah })) d):=h1.mE (f:=fun o=>{ o with sec:=X.cS,nano:=X.cZ }) hd (fun _=>rfl)
  exact h2.mE (f:=fun o=>{ o with links:=o.links - 1 }) ht (fun _=>rfl)
end o
structure bV (In:Nat->Prop) (S0 S:aH):Prop where
  o:iV In S0.O S.O
  us:∀ p∈S.us,In p.2.k
  idx:∀ p∈S0.idx,¬ In p.2.k->p∈S.idx
  last:S0.X.last<=S.X.last
  new:∀ k:Nat,S0.X.last < (k:Int)->In k
section c
variable {In:Nat->Prop} {S0 S S2:aH} {k d to:Nat} {name toName text:ByteArray} {t:Th} {c:aF} {x:Ek} {e:Int} {O:bT}
theorem bV.JE (h:bV In S0 S) (hI:Inv0 S):In (aO S.X):=h.new _ (by rw [oA hI];have:=h.last;omega)
theorem bV.hand (h:bV In S0 S) {i:Int} (e:aE.get S.us i=some t):In t.k:=h.us _ (get_mem e)
theorem bV.Lz (h:bV In S0 S) {X:FM} {O:bT} (hO:iV In S0.O O) (hX:S.X.last<=X.last):bV In S0 { S with X:=X,O:=O }:=⟨hO,h.us,h.idx,Int.le_trans h.last hX,h.new⟩
theorem bV.bR (h:bV In S0 S) (ht:In t.k):bV In S0 (Proofs.YtidjcblbdmfalaaGreat.bR S t).2.2:=by
  by_cases e:(S.us.length:Int) < S.X.cH
  ·rw [kf e]
   refine⟨h.o.mE (f:=fun o=>{ o with opens:=o.opens+1 }) ht (fun _=>rfl),fun p hp=>?_,h.idx,h.last,h.new⟩
   rcases yV.1 hp with rfl|hp
   ·exact ht
   exact h.us p hp
  rw [lD e];exact h
theorem bV.d9 (h:bV In S0 S) (hI:Inv0 S) (hd:In d) {o:aR} (ho:o.ah=[]):bV In S0 (Proofs.YtidjcblbdmfalaaGreat.d9 S d name o):=by
  have hn:=h.JE hI
  have h1:iV In S0.O (aD S.O (aO S.X) (fun _=>o)):=h.o.upd hn (fun e he=>by rw [ho] at he;cases he)
  refine⟨h1.enter hd hn,h.us,fun p hp hq=>yV.2 (.inr (h.idx p hp hq)),?_,h.new⟩
  show S0.X.last<=S.X.last+1
  have:=h.last
  omega
theorem bV.iA (h:bV In S0 S) (hI:Inv0 S) (hi:(obj O t.k).id=(t.k:Int)) (ht:In t.k):∀ p∈S0.idx,¬ In p.2.k->p∈Proofs.YtidjcblbdmfalaaGreat.iA O S.idx t:=by
  intro p hp hq
  have h1:=h.idx p hp hq
  unfold Proofs.YtidjcblbdmfalaaGreat.iA
  split
  ·refine Ii.2 ⟨h1,fun e=>hq ?_⟩
   have h2:=(hI.idx p.1 p.2 (mY hI.rise h1)).1
   rw [hi,h2] at e
   have e:p.2.k=t.k:=by omega
   rw [e];exact ht
  exact h1
theorem bV.aI (h:bV In S0 S) (hI:Inv0 S) (hd:In d) (hl:Live S.idx ⟨d,2⟩) (e:aT name (obj S.O d).ah=some t):bV In S0 (Proofs.YtidjcblbdmfalaaGreat.aI S d name t):=by
  have ht:=h.o.look hd e
  have hlt:=(hI.ent hl e).2
  have h1:iV In S0.O (aQ S.X S.O d name t):=h.o.leave hd ht
  have hid:(obj (aQ S.X S.O d name t) t.k).id=(t.k:Int):=(dr (g:=aR.id) (fun _ _=>rfl) (fun _ _=>rfl) (fun _ _ _=>rfl)).trans (hI.ob t hlt).1
  by_cases e2:(obj (aQ S.X S.O d name t) t.k).links=0
  ·rw [qF e2]
   refine⟨h1.mE (f:=fun o=>{ o with gone:=true }) ht (fun _=>rfl),h.us,?_,h.last,h.new⟩
   exact h.iA hI ((dF (f:=fun o=>{ o with gone:=true }) (g:=aR.id) (fun _=>rfl)).trans hid) ht
  rw [qG e2]
  exact⟨h1,h.us,h.idx,h.last,h.new⟩
theorem bV.kK (h:bV In S0 S) (hd:In d) (hto:In to) (ht:In t.k):bV In S0 (Proofs.YtidjcblbdmfalaaGreat.kK S d name to toName t):=h.Lz ((h.o.leave hd ht).enter hto ht) (Int.le_refl _)
theorem bV.fq (h:bV In S0 S) (hI:Inv0 S) (hd:In d) {m:Int}:bV In S0 (Proofs.YtidjcblbdmfalaaGreat.fq S d name m).2:=by
  unfold Proofs.YtidjcblbdmfalaaGreat.fq
  split
  ·exact h.d9 hI hd rfl
  exact h
theorem bV.dO (h:bV In S0 S) (hI:Inv0 S) (hd:In d):bV In S0 (Proofs.YtidjcblbdmfalaaGreat.dO S d name text).2:=by
  unfold Proofs.YtidjcblbdmfalaaGreat.dO
  (repeat' split)<;>first|exact h|exact h.d9 hI hd rfl
theorem bV.dG (h:bV In S0 S) (hI:Inv0 S) (hd:In d) (hl:Live S.idx ⟨d,2⟩):bV In S0 (Proofs.YtidjcblbdmfalaaGreat.dG S d name).2:=by
  unfold Proofs.YtidjcblbdmfalaaGreat.dG
  split
  ·exact h
  split
  ·exact h
  exact h.aI hI hd hl (by assumption)
theorem bV.dV (h:bV In S0 S) (hI:Inv0 S) (hd:In d) (hl:Live S.idx ⟨d,2⟩):bV In S0 (Proofs.YtidjcblbdmfalaaGreat.dV S d name).2:=by
  unfold Proofs.YtidjcblbdmfalaaGreat.dV
  split
  ·exact h
  rename_i t e
  (repeat' split)<;>first|exact h|skip
  have h1:=h.aI hI hd hl e
  exact h1.Lz (X:=(Proofs.YtidjcblbdmfalaaGreat.aI S d name t).X) (h1.o.mE (f:=fun o=>{ o with up:=none }) (h.o.look hd e) (fun _=>rfl)) (Int.le_refl _)
theorem bV.bq (h:bV In S0 S) (hI:Inv0 S) (hd:In d) (hto:In to) (hl:Live S.idx ⟨to,2⟩):bV In S0 (Proofs.YtidjcblbdmfalaaGreat.bq S d name to toName).2:=by
  unfold Proofs.YtidjcblbdmfalaaGreat.bq
  split
  ·exact h
  rename_i t e
  have ht:=h.o.look hd e
  split
  ·exact h
  split
  ·exact h.kK hd hto ht
  rename_i o e2
  (repeat' split)<;>first|exact h|skip
  exact (h.aI hI hto hl e2).kK hd hto ht
theorem bV.eT (h:bV In S0 S) (hd:In d) (hto:In to):bV In S0 (Proofs.YtidjcblbdmfalaaGreat.eT S d name to toName).2:=by
  unfold Proofs.YtidjcblbdmfalaaGreat.eT
  split
  ·exact h
  rename_i t e
  (repeat' split)<;>first|exact h|skip
  exact h.Lz (h.o.enter hto (h.o.look hd e)) (Int.le_refl _)
theorem bV.cW (h:bV In S0 S) (hk:In k) {bs:List UInt8}:bV In S0 (Proofs.YtidjcblbdmfalaaGreat.cW S k bs).2.2:=by
  unfold Proofs.YtidjcblbdmfalaaGreat.cW
  (repeat' split)<;>first|exact h|skip
  exact h.Lz (h.o.mE hk (fun _=>rfl)) (Int.le_refl _)
theorem bV.jJ (h:bV In S0 S) (hI:Inv0 S) (hd:In d) {m:Int}:bV In S0 (Proofs.YtidjcblbdmfalaaGreat.jJ S d name m).2.2:=by
  unfold Proofs.YtidjcblbdmfalaaGreat.jJ
  (repeat' split)<;>first|exact h|skip
  have h2:=h.d9 hI hd (name:=name) (o:={ aU S.X 1 m with opens:=1 }) rfl
  refine⟨h2.o,fun p hp=>?_,h2.idx,h2.last,h.new⟩
  rcases yV.1 hp with rfl|hp
  ·exact h.JE hI
  exact h.us p hp
theorem bV.cP (h:bV In S0 S) (hI:Inv S) (hr:c.op=1->∀ t,aE.get S.idx c.other=some t->In t.k):bV In S0 (Proofs.YtidjcblbdmfalaaGreat.cP S c).2.1:=by
  have habout:∀ {need:Int} {d:Nat} {i:Int} {n:ByteArray},dX S.O S.us i n need=.ok d->In d/\Live S.idx ⟨d,2⟩:=fun {need d i n} e=>by
    rcases kT hI.toInv0 i n need with ⟨e2,h1,_⟩|⟨d2,h1,h2,_,_,h3⟩
    ·rw [e] at h1;cases h1
    rw [e] at h1;cases h1;exact⟨h.hand h3,h2⟩
  have xP:∀ {t:Th},fK S.O S.us c=.ok t->In t.k:=fun {t} e=>by
    unfold fK at e
    split at e
    ·cases e
    rename_i d e1
    split at e
    ·cases e
    rename_i t2 e2
    cases e
    exact h.o.look (habout e1).1 e2
  by_cases hop:1<=c.op/\c.op<=15
  case neg=>rw [sU hop];exact h
  have hop:c.op=1\/c.op=2\/c.op=3\/c.op=4\/c.op=5\/c.op=6\/c.op=7\/c.op=8\/c.op=9\/c.op=10\/c.op=11\/c.op=12\/c.op=13\/c.op=14\/c.op=15:=by omega
  rcases hop with q|q|q|q|q|q|q|q|q|q|q|q|q|q|q
  ·rw [tV q];unfold jl
   split
   ·exact h
   rename_i t e1
   split
   ·exact h.bR (hr q t e1)
   exact h
  ·rw [vQ q];unfold fH
   split
   ·exact h
   rename_i t e1
   (repeat' split)<;>first|exact h|exact h.bR (xP e1)
  ·rw [vR q];unfold eP
   split
   ·exact h
   rename_i t e1
   (repeat' split)<;>first|exact h|exact h.bR (xP e1)
  ·rw [tW q];unfold fP
   split
   ·exact h
   rename_i d e1
   split<;>first|exact h|exact h.fq hI.toInv0 (habout e1).1
  ·rw [vS q];unfold dY
   split
   ·exact h
   rename_i d e1
   (repeat' split)<;>first|exact h|exact h.jJ hI.toInv0 (habout e1).1
  ·rw [vT q];unfold fI
   split
   ·exact h
   rename_i d e1;exact h.dO hI.toInv0 (habout e1).1
  ·rw [vU q];unfold cM
   split
   ·exact h
   rename_i d e1
   split
   ·exact h
   rename_i to e2;exact h.eT (habout e1).1 (habout e2).1
  ·rw [vV q];unfold fY
   split
   ·exact h
   rename_i d e1;exact h.dG hI.toInv0 (habout e1).1 (habout e1).2
  ·rw [vW q];unfold fZ
   split
   ·exact h
   rename_i t e1
   split
   ·exact h.cW (h.hand e1)
   exact h
  ·rw [sN q];unfold bH
   split
   ·exact h
   rename_i t e1
   (repeat' split)<;>first|exact h|skip
   exact h.Lz (X:=S.X) (h.o.mE (f:=fun o=>{ o with mode:=c.mode,uid:=c.uid,gid:=c.gid,sec:=c.sec,nano:=c.nano }) (h.hand e1) (fun _=>rfl)) (Int.le_refl _)
  ·rw [sO q];unfold kg;split<;>exact h
  ·rw [sP q];unfold gn;split<;>exact h
  ·rw [sQ q];unfold je
   split
   ·exact h
   rename_i t e1
   have ht:=h.hand e1
   refine⟨h.o.mE (f:=fun o=>{ o with opens:=o.opens - 1 }) ht (fun _=>rfl),fun p hp=>h.us p (Ii.1 hp).1,h.iA hI.toInv0 ?_ ht,h.last,h.new⟩
   exact (dF (f:=fun o=>{ o with opens:=o.opens - 1 }) (g:=aR.id) (fun _=>rfl)).trans (hI.ob t (hI.us _ _ e1).1).1
  ·rw [sR q];unfold gZ
   split
   ·exact h
   rename_i d e1;exact h.dV hI.toInv0 (habout e1).1 (habout e1).2
  rw [sS q];unfold fw
  split
  ·exact h
  rename_i d e1
  split
  ·exact h
  rename_i to e2;exact h.bq hI.toInv0 (habout e1).1 (habout e2).1 (habout e2).2
theorem iV.iM (h:iV In O O) {d':Nat}:∀ (ps:List ByteArray) (d:Nat),In d->iM O d ps=.ok (d',name)->In d'
  | [],d,_,e=>by cases e
  | [p],d,hd,e=>by
    unfold Proofs.YtidjcblbdmfalaaGreat.iM at e
    split at e
    ·cases e
    cases e;exact hd
  | p::q::r,d,hd,e=>by
    unfold Proofs.YtidjcblbdmfalaaGreat.iM at e
    cases e1:aT p (obj O d).ah with
    | none=>rw [e1] at e;cases e
    | some t=>
      rw [e1] at e
      simp only at e
      split at e
      ·cases e
      split at e
      ·cases e
      exact h.iM (q::r) t.k (h.look hd e1) e
theorem iV.self {O0:bT} (h:iV In O0 O):iV In O O:=⟨fun _ _=>rfl,h.tJ⟩
theorem bV.iB (h:bV In S0 S) {d':Nat} {path:ByteArray} (hd:In d) (e:iB S.O d path=.ok (d',name)):In d':=by
  unfold Proofs.YtidjcblbdmfalaaGreat.iB at e
  split at e
  ·exact h.o.self.iM _ _ hd e
  cases e
theorem bV.cF (h:bV In S0 S) (hI:Inv S) {root:Int} {a:cO} (hr:∀ t,aE.get S.idx root=some t->In t.k):bV In S0 (Proofs.YtidjcblbdmfalaaGreat.cF S root a).2:=by
  unfold Proofs.YtidjcblbdmfalaaGreat.cF
  split
  ·exact h
  split
  ·exact h
  rename_i t e1
  have RP:=hr t e1
  split
  ·rename_i hk
   have hlt:=Hl hI.toInv0 e1 hk
   split
   ·exact h
   rename_i d name e2
   obtain⟨l1,_,_⟩:=uV hI.toInv0 hlt e2
   have hd:=h.iB RP e2
   unfold lZ
   split
   ·unfold qK
    split
    ·exact (h.d9 hI.toInv0 hd rfl).cW (h.JE hI.toInv0)
    exact h
   split
   ·exact h.fq hI.toInv0 hd
   split
   ·exact h.dO hI.toInv0 hd
   split
   ·exact h.dG hI.toInv0 hd l1
   split
   ·exact h.dV hI.toInv0 hd l1
   split
   ·split
    ·exact h
    rename_i to toName e3
    obtain⟨l2,_,_⟩:=uV hI.toInv0 hlt e3
    exact h.bq hI.toInv0 hd (h.iB RP e3) l2
   unfold kH
   split
   ·exact h
   rename_i t2 e3
   (repeat' split)<;>first|exact h|exact h.cW (h.o.look hd e3)
  exact h
theorem bV.kept (h:bV In S0 S) (DR:Inv0 S0) (hI:Inv0 S) {i:Nat} (hi:i < S0.idx.length) (hn:¬ In (fJ S0 i).k):∃ j,j < S.idx.length/\nd (av S) j=nd (av S0) i:=by
  have hm:=List.mem_of_getElem? (sV hi)
  have h1:=h.idx _ hm hn
  obtain⟨j,hj,e⟩:=List.getElem_of_mem h1
  have h2:=sV hj
  rw [List.getElem?_eq_getElem hj,e] at h2
  injection h2 with h2
  injection h2 with e1 e2
  refine⟨j,hj,?_⟩
  rw [ju hj,ju hi,← e1,← e2]
  have hc:=h.o.out _ hn
  have hl0:=(oG DR hi).1
  have hl:=(oG hI hj).1
  rw [← e2] at hl
  have f:∀ {α:Type} (g:aR->α),(∀ o,g (core o)=g o)->g (obj S.O (fJ S0 i).k)=g (obj S0.O (fJ S0 i).k):=fun g hg=>by rw [← hg,hc,hg]
  unfold rQ
  rw [f aR.mode (fun _=>rfl),f aR.uid (fun _=>rfl),f aR.gid (fun _=>rfl),f aR.sec (fun _=>rfl),f aR.nano (fun _=>rfl),f aR.data (fun _=>rfl),f aR.target (fun _=>rfl),f aR.ah (fun _=>rfl)]
  refine congrArg (aB.mk _ _ _ _ _ _ _ _ _) (List.map_congr_left (fun p hp=>?_))
  unfold jP
  rw [(DR.ob _ (DR.ah _ hl0 p hp).2).1,(hI.ob _ (hI.ah _ hl p (by rw [f aR.ah (fun _=>rfl)];exact hp)).2).1]
end c
end
section
open Go.RowKit
def fV (e:TypeId) (size:Nat) (A:Option Addr) (n cap:Nat) (xs:List Value):cr where
  h F w:=xs.length=n * size/\∃ g off cur,A=some ⟨g,off,none⟩/\w.heap[g]?=some (.cells cur e (0,0))/\n<=cap/\cap<=maxLen/\off+cap * size<=cur.size/\(∀ (j:Nat) u,xs[j]?=some u->cur[off+j]?=some u)/\∀ k,F k↔k=g
  lt:=by
    rintro F w ⟨_,g,off,cur,_,h1,_,_,_,_,h2⟩ k hk
    rw [(h2 k).1 hk]
    exact lt_of_some h1
  st:=by
    rintro F w ⟨h0,g,off,cur,h3,h1,h4,h5,h6,h7,h2⟩ S w' hk hn
    exact⟨h0,g,off,cur,h3,(hk.block g (lt_of_some h1) (hn g ((h2 g).2 rfl))).trans h1,h4,h5,h6,h7,h2⟩
section tails
variable {e:TypeId} {size n m cap:Nat} {A:Option Addr} {xs news:List Value} {w:World}
theorem GP {b:Nat} {cs:List Value} (hl:cs.length=n * size) (hm:n<=maxLen):∀ F,(HP.blk b cs e).h F w->∃ F',(HP.abs (fV e size (some ⟨b,0,none⟩) n n cs)).h F' w/\Step F w F' w:=by
  rintro F ⟨h1,h2⟩
  refine⟨F,⟨hl,b,0,⟨cs⟩,rfl,h1,Nat.le_refl _,hm,by simp [hl],fun j u hj=>by simpa using hj,h2⟩,Step.refl F w⟩
theorem Sat.RQ {β:Bs} {hps:List HP} {b i:Nat} {cs:List Value} (size n:Nat) (hp:hps[i]?=some (.blk b cs e)) (hl:cs.length=n * size) (hm:n<=maxLen) (h:Sat β hps w):Sat β (hps.set i (.abs (fV e size (some ⟨b,0,none⟩) n n cs))) w:=
  h.set hp (GP hl hm)
theorem fV.len {F:Fp} (h:(HP.abs (fV e size A n cap xs)).h F w):xs.length=n * size/\n<=cap/\A=some ⟨ar A,aq A,none⟩:=by
  obtain⟨h0,g,off,cur,rfl,_,h4,_⟩:=h
  exact⟨h0,h4,rfl⟩
theorem fV.cellAt {i j:Nat} {u:Value} (hj:xs[i * size+j]?=some u):∀ F w,(fV e size A n cap xs).h F w->w.cell? ⟨ar A,aq A+i * size+j,none⟩=some u:=by
  rintro F w ⟨_,g,off,cur,rfl,h1,_,_,_,h6,_⟩
  have:=h6 _ _ hj
  show w.cell? ⟨g,off+i * size+j,none⟩=_
  unfold World.cell?
  rw [h1]
  rw [Nat.add_assoc]
  simpa using this
theorem wS {b:Nat} {fz:Nat×Nat}:∀ (vs:List Value) (o:Nat) (w:World) (cur:Array Value),w.heap[b]?=some (.cells cur e fz)->o+vs.length<=cur.size →
    ∃ cur',(w.setCells b o vs).heap[b]?=some (.cells cur' e fz)/\cur'.size=cur.size/\(∀ i,i < o->cur'[i]?=cur[i]?)/\(∀ (j:Nat) u,vs[j]?=some u->cur'[o+j]?=some u)/\Keeps (·=b) w (w.setCells b o vs)
  | [],o,w,cur,h,_=>⟨cur,h,rfl,fun _ _=>rfl,fun j u hj=>by simp at hj,Keeps.refl _ _⟩
  | v::r,o,w,cur,h,hl=>by
    have h1:(w.setCell ⟨b,o,none⟩ v).heap[b]?=some (.cells (cur.setIfInBounds o v) e fz):=by
      simp [World.setCell,Array.getElem?_modify,h]
    simp only [List.length_cons] at hl
    obtain⟨cur',h2,h3,h4,h5,h6⟩:=wS r (o+1) _ _ h1 (by simp;omega)
    refine⟨cur',h2,by rw [h3];simp,fun i hi=>?_,fun j u hj=>?_,?_⟩
    ·rw [h4 i (by omega),Array.getElem?_setIfInBounds_ne (by omega)]
    ·cases j with
     | zero=>
       simp at hj
       subst hj
       rw [Nat.add_zero,h4 o (by omega),Array.getElem?_setIfInBounds_self_of_lt (by omega)]
     | succ j=>
       have:=h5 j u (by simpa using hj)
       rw [show o+(j+1)=o+1+j by omega]
       exact this
    have h7:Keeps (·=b) w (w.setCell ⟨b,o,none⟩ v):=(Keeps.refl (·=b) w).setCell (.inr (rfl:(fun k=>k=b) (⟨b,o,none⟩:Addr).block)) v
    exact h7.trans h6
end tails
theorem Ny {β:Bs} {hps:List HP} {b j:Nat} {news:List Value} {T:TypeId} (hp:hps[j]?=some (.blk b news T)):∀ w,Sat β hps w->∀ (i:Nat) u,news[i]?=some u->w.cell? ((⟨b,0,none⟩:Addr).add i)=some u:=by
  intro w hS i u hi
  rcases kP hp w hS with ⟨h,_⟩|⟨ad,e,h⟩
  ·cases h
  cases e;exact h i u hi
section rules
variable {P:Program} {β:Bs} {N:Nat} {ops:Array Oper} {k:Nat} {fr:Fr} {hps:List HP} {Q:Post} {d:Option Tmp}
theorem aj.LA (i:Nat) {t e:TypeId} {size m n cap:Nat} {A:Option Addr} {xs:List Value} {x lo:Operand} (hop:∀ junk,fo N junk ops fr k=some (.slice t x (some lo) none none,d)) (hp:hps[i]?=some (.abs (fV e size A n cap xs)))
    (hx:∀ junk,di N fr junk x=.slice A n cap) (hlo:∀ junk,di N fr junk lo=.int .i64 ((m:Nat):Int)) (ht:P.underlying t=some (.slice e)) (kB:(P.info? e).map (·.size)=some size) (hm:m<=n)
    (K':∀ A',aj P β N ops (k+1) (dJ fr d (.slice A' (n - m) (cap - m))) (hps.set i (.abs (fV e size A' (n - m) (cap - m) (xs.drop (m * size))))) Q):aj P β N ops k fr hps Q:=by
  obtain⟨inf,hi,hsize⟩:∃ inf,P.info? e=some inf/\inf.size=size:=by
    cases h:P.info? e with
    | none=>rw [h] at kB;cases kB
    | some inf=>rw [h] at kB;simp at kB;exact⟨inf,rfl,kB⟩
  refine aj.zC (ι:=Option Addr) (v:=fun A'=>.slice A' (n - m) (cap - m)) (hp':=fun A'=>hps.set i (.abs (fV e size A' (n - m) (cap - m) (xs.drop (m * size))))) hop (fun o junk w ho hS=>?_) K'
  obtain⟨F,hF⟩:=hS.get hp
  obtain⟨h0,g,off,cur,hA,h1,h4,h5,h6,h7,h8⟩:=hF
  subst hA
  have e1:(underlying t).run P w=.ok (.slice e) w:=run_underlying ht w
  have e2:(sizeOf e).run P w=.ok size w:=hsize ▸ mQ hi w
  have hmn:m * size<=n * size:=Nat.mul_le_mul_right _ hm
  have W8:m * size<=cap * size:=Nat.mul_le_mul_right _ (Nat.le_trans hm h4)
  have hsub:∀ a,(a - m) * size=a * size - m * size:=fun a=>Nat.sub_mul a m size
  by_cases hc:cap=m
  ·refine⟨some ⟨g,off,none⟩,w,.inl ?_,hS.set hp (fun F' hF'=>⟨F',?_,Step.refl _ _⟩)⟩
   ·obtain⟨dst,op,type,pos,after,guard⟩:=o
    cases ho
    have hle:m<=n:=hm
    simp [execOp,Instr.sliceAt,Instr.slice,Instr.sliceBounds,Instr.sliceBound,asIntOf,hx,hlo,go_sem,e1,e2,hc,hle]
   obtain⟨_,g',off',cur',hA',h1',h4',Ua,Ub,RR,F8⟩:=hF'
   cases hA'
   refine⟨by rw [List.length_drop,h0,hsub],g,off,cur',rfl,h1',by omega,by omega,by rw [hsub];omega,fun j u hj=>?_,F8⟩
   have:(xs.drop (m * size)).length=0:=by rw [List.length_drop,h0];have:n=m:=by omega
                                          rw [this];omega
   have hnil:=List.eq_nil_of_length_eq_zero this
   rw [hnil] at hj
   simp at hj
  have ea:(⟨g,off,none⟩:Addr).add (m * size)=⟨g,off+m * size,none⟩:=by
    unfold Addr.add
    split
    ·rename_i RS;rw [RS];rfl
    rfl
  refine⟨some ⟨g,off+m * size,none⟩,w,.inl ?_,hS.set hp (fun F' hF'=>⟨F',?_,Step.refl _ _⟩)⟩
  ·obtain⟨dst,op,type,pos,after,guard⟩:=o
   cases ho
   have hle:m<=n:=hm
   simp [execOp,Instr.sliceAt,Instr.slice,Instr.sliceBounds,Instr.sliceBound,asIntOf,hx,hlo,go_sem,e1,e2,hc,hle]
  obtain⟨_,g',off',cur',hA',h1',h4',Ua,Ub,RR,F8⟩:=hF'
  cases hA'
  refine⟨by rw [List.length_drop,h0,hsub],g,off+m * size,cur',rfl,h1',by omega,by omega,by rw [hsub];omega,fun j u hj=>?_,F8⟩
  rw [List.getElem?_drop] at hj
  have:=RR _ _ hj
  rw [show off+m * size+j=off+(m * size+j) by omega]
  exact this
theorem aj.JF (i:Nat) {t e:TypeId} {z:Value} {size bytes n cap m c':Nat} {A:Option Addr} {ad:Addr} {xs news:List Value} {s x:Operand} {ats:Array TypeId}
    (hop:∀ junk,fo N junk ops fr k=some (.call ⟨.builtin .append,#[s,x],ats⟩,d)) (pQ:ats=#[t,t]) (hp:hps[i]?=some (.abs (fV e size A n cap xs))) (hs:∀ junk,di N fr junk s=.slice A n cap) (hx:∀ junk,di N fr junk x=.slice (some ad) m c')
    (ht:P.underlying t=some (.slice e)) (kB:(P.info? e).map (fun i=>(i.zero,i.size,i.bytes))=some (some z,size,bytes)) (hzs:z.cells.size=size) (hsz:0 < size)
    (hl:news.length=m * size) (h1:∀ u∈news,u.oneCell'=true) (hsrc:∀ w,Sat β hps w->∀ (j:Nat) u,news[j]?=some u->w.cell? (ad.add j)=some u)
    (h63:n+m<=maxLen) (hbytes:(n+m) * bytes<=140737488355328)
    (K':∀ B cap',aj P β N ops (k+1) (dJ fr d (.slice B (n+m) cap')) (hps.set i (.abs (fV e size B (n+m) cap' (xs++news)))) Q):aj P β N ops k fr hps Q:=by
  subst pQ
  obtain⟨inf,hi,hz,hsize,hby⟩:∃ inf,P.info? e=some inf/\inf.zero=some z/\inf.size=size/\inf.bytes=bytes:=by
    cases h:P.info? e with
    | none=>rw [h] at kB;cases kB
    | some inf=>rw [h] at kB;simp at kB;exact⟨inf,rfl,kB.1,kB.2.1,kB.2.2⟩
  refine aj.zC (ι:=Option Addr×Nat) (v:=fun p=>.slice p.1 (n+m) p.2) (hp':=fun p=>hps.set i (.abs (fV e size p.1 (n+m) p.2 (xs++news)))) hop (fun o junk w ho hS=>?_) (fun p=>K' p.1 p.2)
  obtain⟨F,hF⟩:=hS.get hp
  have hnews:=hsrc w hS
  obtain⟨h0,g,off,cur,hA,hg,h4,h5,h6,h7,h8⟩:=hF
  subst hA
  have hrun:∀ v' w',(Builtin.append_ #[t,t] o.type #[.slice (some ⟨g,off,none⟩) n cap,.slice (some ad) m c']).run P w=.ok v' w'->nC P (di N fr junk) o w v' w':=fun v' w' h=>by
    obtain⟨dst,op,type,pos,after,guard⟩:=o
    cases ho
    refine .inl ?_
    have h':(Builtin.append_ #[t,t] type #[.slice (some ⟨g,off,none⟩) n cap,.slice (some ad) m c']).run P w=.ok v' w':=h
    simp only [execOp,resolve,invoke,builtin,hs junk,hx junk,List.map_toArray,List.map_cons,List.map_nil,Sem.run_bind,Sem.run_pure,Result.andThen_ok,h']
  have hlen:(xs++news).length=(n+m) * size:=by rw [List.length_append,h0,hl,Nat.add_mul]
  by_cases hroom:n+m<=cap
  ·have hcm:(n+m) * size<=cap * size:=Nat.mul_le_mul_right _ hroom
   rw [Nat.add_mul,← hl] at hcm
   have hcell:∀ j,j < news.length->(w.cell? ⟨g,off+n * inf.size+j,none⟩).isSome=true:=fun j hj=>by
     rw [hsize]
     unfold World.cell?
     rw [hg]
     have:off+n * size+j < cur.size:=by omega
     simp [this]
   have hfro:∀ j,j < news.length->w.frozen? ⟨g,off+n * inf.size+j,none⟩=false:=fun j _=>by
     unfold World.frozen?
     rw [hg]
     simp
   have hr:=run_append_room_cells (P:=P) w t o.type e inf ht hi g off n cap ad m c' news (by rw [hsize];exact hl) hnews h1 hroom hcell hfro
   rw [hsize] at hr
   obtain⟨cur',g1,g2,g3,g4,g5⟩:=wS (e:=e) (b:=g) news (off+n * size) w cur hg (by omega)
   refine⟨(some ⟨g,off,none⟩,cap),_,hrun _ _ hr,hS.set hp (fun F' hF'=>⟨F',?_,?_⟩)⟩
   ·obtain⟨_,g',off',U1,hA',h1',h4',Ua,Ub,RR,F8⟩:=hF'
    cases hA'
    rw [hg] at h1'
    cases h1'
    refine⟨hlen,g,off,cur',rfl,g1,hroom,h5,by rw [g2];exact h6,fun j u hj=>?_,F8⟩
    by_cases hj2:j < xs.length
    ·rw [List.getElem?_append_left hj2] at hj
     rw [g3 _ (by omega)]
     exact h7 j u hj
    rw [List.getElem?_append_right (by omega)] at hj
    have:=g4 _ _ hj
    rw [h0] at this
    rw [show off+j=off+n * size+(j - n * size) by omega]
    exact this
   obtain⟨_,g',off',U1,hA',_,_,_,_,_,F8⟩:=hF'
   cases hA'
   exact⟨g5.mono (fun k _ e=>(F8 k).2 e),fun _ h=>.inl h⟩
  have holds:∀ (j:Nat) u,xs[j]?=some u->w.cell? ((⟨g,off,none⟩:Addr).add j)=some u:=fun j u hj=>by
    have ea:(⟨g,off,none⟩:Addr).add j=⟨g,off+j,none⟩:=by
      unfold Addr.add
      split
      ·rename_i RS;rw [RS];rfl
      rfl
    rw [ea]
    unfold World.cell?
    rw [hg]
    simpa using h7 j u hj
  obtain⟨v',w',hr,hown,hgr⟩:=run_append_arg_grows (P:=P) w t o.type e inf z size bytes ht hi hz hsize hby hzs hsz ⟨g,off,none⟩ n cap xs h0 holds ad m c' news hl hnews (by omega) h63 hbytes
  rcases hown.2 with ⟨_,e0⟩|⟨g',cp,cur',rfl,hlo,hg',hle,VW,U2,Qz⟩
  ·exact absurd e0 (by omega)
  refine⟨(some ⟨g',0,none⟩,cp),w',hrun _ _ hr,hS.set hp (fun F' hF'=>⟨fun k=>k=g',⟨hlen,g',0,cur',rfl,hg',hle,VW,Nat.le_of_eq (by rw [U2,Nat.zero_add]),fun j u hj=>?_,fun _=>Iff.rfl⟩,?_,fun k hk=>.inr (by rw [hk];exact hlo)⟩)⟩
  ·have hj2:=bp hj
   rw [← Qz,List.getElem?_take] at hj
   split at hj
   ·rw [Nat.zero_add];simpa using hj
   cases hj
  exact (Keeps.refl F' w).grown hgr (fun _ h=>by cases h)
end rules
end
end Go.Proofs.YtidjcblbdmfalaaGreat
section
namespace Go.Proofs
open Go.Shelf
def Tryz.keysU_ren:Go.Shelf.Ren:=⟨fun|7=>74|10=>110|n=>n,fun|23=>164|26=>3|3=>166|28=>150|0=>0|27=>149|33=>201|4=>4|n=>n,fun|n=>n⟩
theorem Tryz.keysU:Go.Proofs.SlLaysZI.n7 Tryz.prog Tryz.keysU_ren:={
  mixed:=by kernel_rfl
  f7:=⟨Tryz.f74.name,by decide,Tryz.func74.trans (congrArg some (by kernel_rfl))⟩
  f10:=⟨Tryz.f110.name,by decide,Tryz.func110.trans (congrArg some (by kernel_rfl))⟩
  t0:=Tryz.underlying0
  a0:=Tryz.isAgg0
  z0:=Tryz.sizeOf0
  v0:=Tryz.zeroValue0
  t4:=Tryz.underlying4
  a4:=Tryz.isAgg4
  z4:=Tryz.sizeOf4
  v4:=Tryz.zeroValue4
  t23:=Tryz.underlying164
  a23:=Tryz.isAgg164
  z23:=Tryz.sizeOf164
  v23:=Tryz.zeroValue164
  t26:=Tryz.underlying3
  a26:=Tryz.isAgg3
  z26:=Tryz.sizeOf3
  v26:=Tryz.zeroValue3
  t27:=Tryz.underlying149
  a27:=Tryz.isAgg149
  z27:=Tryz.sizeOf149
  v27:=Tryz.zeroValue149
  t28:=Tryz.underlying150
  a28:=Tryz.isAgg150
  z28:=Tryz.sizeOf150
  v28:=Tryz.zeroValue150
  t33:=Tryz.underlying201
  a33:=Tryz.isAgg201
  z33:=Tryz.sizeOf201
  v33:=Tryz.zeroValue201 }
end Go.Proofs
end
namespace Go.Proofs.YtidjcblbdmfalaaGreat
section
open Go.RowKit Go.Maps Go.Sort Go.Shelf
def C6 (bk:Nat):Value:=.func (.func 110) #[] #[.pointer (some ⟨bk,0,none⟩)]
theorem Nz {β:Bs} (mb:Option Nat):Spec Tryz.prog β 74 #[.map mb] [] (fun v l=>∃ bk,v=C6 bk/\l=[.blk bk [.map mb] 164]):=
  Spec.Ar fun W _=>by
    have h:CallsIn Fence.wide 5 Tryz.prog 74 #[.map mb] W fun e w'=>e=.returned (C6 W.heap.size)/\w'=W.alloc (.cells #[.map mb] 164):=AnyZI.keys_in Tryz.keysU Fence.wide 5 trivial rfl mb W
    refine ((callsIn_wide (n:=5)).1 h).mono ?_
    rintro e w' ⟨rfl,rfl⟩
    refine⟨_,_,rfl,⟨W.heap.size,rfl,rfl⟩,(Keeps.refl _ _).alloc _,fun k=>k=W.heap.size,⟨?_,fun k=>Iff.rfl⟩,fun k hk=>Nat.le_of_eq hk.symm⟩
    show (W.heap.push _)[W.heap.size]?=_
    simp
theorem JG {β:Bs} (b bk n:Nat) (f:Lit->Option Value) (hn:n<=16777216) :
    Spec Tryz.prog β 66 #[C6 bk] [.abs (aL Tryz.prog 3 b f n),.blk bk [.map (some b)] 164] (fun v l=>∃ A cap ss,v=.slice A ss.length cap/\KeysOf f ss/\ss.length=n ∧
      l=[.abs (aL Tryz.prog 3 b f n),.blk bk [.map (some b)] 164,.abs (aK 3 1 A ss.length cap (ij ss))]):=by
  intro R w hS
  obtain⟨F1,h1⟩:=hS.get (i:=0) (p:=.abs (aL Tryz.prog 3 b f n)) rfl
  obtain⟨F2,h2⟩:=hS.get (i:=1) (p:=.blk bk [.map (some b)] 164) rfl
  obtain⟨D,hown,hsz,hhas,_⟩:=h1.1
  have hcell:w.cell? ⟨bk,0,none⟩=some (.map (some b)):=(gi h2.1 rfl rfl rfl).1
  have hseq:SeqGives Fence.wide 2 Tryz.prog 110 #[.pointer (some ⟨bk,0,none⟩)] encZ (fun ss=>ss.Perm (intKeys D)) (Maps.size D) w:=
    AnyZI.keys_gives (ρ:=Tryz.keysU_ren) { Tryz.keysU with } Fence.wide _ trivial rfl (by omega) bk b n D w (lt_of_some h2.1) hcell hown
  have cS:=AnyZI.sorted_in Tryz.sortedI Fence.wide 5 trivial trivial trivial trivial rfl (by omega) (Kk _) (enters_of Tryz.func105 (by kernel_rfl) rfl) 110 #[.pointer (some ⟨bk,0,none⟩)] trivial (enters_of Tryz.func110 (by kernel_rfl) rfl) _ _ (by rw [hsz];unfold maxLen;omega) (by rw [hsz];omega) _ hseq
  change CallsIn _ _ Tryz.prog 66 _ _ _ at cS
  refine ((callsIn_wide (n:=5)).1 cS).mono ?_
  rintro e w' ⟨v,ss,rfl,hp,hrow,hnil,hb⟩
  have hlen:(ss.mergeSort (fun x y=>decide (x<=y))).length=ss.length:=List.length_mergeSort ss
  have hkeys:=Bj Tryz.underlying3 dw hown hhas hp
  have sC:∃ A cap,v=.slice A ss.length cap:=by
    rcases hrow.2 with ⟨e1,e2⟩|⟨g,cp,cur,e1,_⟩
    ·exact⟨none,0,by rw [e1,e2]⟩
    exact⟨_,cp,e1⟩
  obtain⟨A,cap,rfl⟩:=sC
  have hn1:ss.length=n:=by
    rw [hp.length_eq,← hsz]
    obtain⟨es,hD,_⟩:=hown.entries dw
    rw [hD]
    exact List.length_map ..
  have hq:Sat β ([.abs (aL Tryz.prog 3 b f n),.blk bk [.map (some b)] 164,.abs R]++[.abs (aK 3 1 A ss.length cap (ij (ss.mergeSort (fun x y=>decide (x<=y)))))]) w':=by
    refine Sat.new (F:=fun k=>(Value.slice A ss.length cap).ownBlock=some k) hS ⟨?_,fun k=>Iff.rfl⟩ ⟨hb.os,hb.tape,hb.output,hb.size,fun k hk _=>hb.block k hk⟩ (fun k hk=>(hrow.lt k hk).1)
    refine⟨hrow.1,?_⟩
    rcases hrow.2 with h|⟨g,cp,cur,e1,_,h3,h4⟩
    ·exact .inl h
    exact .inr ⟨g,cp,cur,e1,Nat.zero_le _,h3,h4⟩
  refine⟨_,[.abs (aL Tryz.prog 3 b f n),.blk bk [.map (some b)] 164,.abs (aK 3 1 A ss.length cap (ij (ss.mergeSort (fun x y=>decide (x<=y)))))],rfl,⟨A,cap,ss.mergeSort (fun x y=>decide (x<=y)),by rw [hlen],hkeys,by rw [hlen];exact hn1,by rw [hlen]⟩,?_⟩
  exact hq.pick (idx:=[0,1,3,2]) rfl rfl
end
section
open Go.RowKit Go.Maps
noncomputable def fL (ns:List aB) (root:Int):Int:=
  if ¬ bh ns then 140 else if ¬ 0<=jL ns root then 141 else if ¬ (nd ns (tgt ns root)).kind=2 then 173 else 0
theorem Cc {ns:List aB} {root:Int} (h:¬ bh ns):fL ns root=140:=if_pos h
theorem zn {ns:List aB} {root:Int} (h:bh ns) (h1:¬ 0<=jL ns root):fL ns root=141:=by
  unfold fL;rw [if_neg (fun e=>e h),if_pos h1]
theorem zo {ns:List aB} {root:Int} (h:bh ns) (h1:0<=jL ns root) (h2:¬ (nd ns (tgt ns root)).kind=2):fL ns root=173:=by
  unfold fL;rw [if_neg (fun e=>e h),if_neg (fun e=>e h1),if_pos h2]
theorem DS {ns:List aB} {root:Int} (h:bh ns) (h1:0<=jL ns root) (h2:(nd ns (tgt ns root)).kind=2):fL ns root=0:=by
  unfold fL;rw [if_neg (fun e=>e h),if_neg (fun e=>e h1),if_neg (fun e=>e h2)]
theorem zq {ns:List aB} {root:Int} (h:fL ns root=0):bh ns/\0<=jL ns root/\(nd ns (tgt ns root)).kind=2:=by
  unfold fL at h
  split at h
  ·cases h
  rename_i h1
  split at h
  ·cases h
  rename_i h2
  split at h
  ·cases h
  rename_i h3
  exact⟨Classical.not_not.1 h1,Classical.not_not.1 h2,Classical.not_not.1 h3⟩
end
section
open Go.RowKit
attribute [local irreducible] aj aP af ai
theorem NA {β:Bs} (A:Option Addr) (c:Nat) (ns:List aB) (L:Lay) (hG:au β A ns L) (hB:eV ns 1048576) (root:Int) (hz:nE root) :
    Spec Tryz.prog β 73 #[.agg #[.slice A ns.length c],vI root] [] (fun v l=>(∃ mb,v=.tuple #[.map (some mb),.pointer (some ⟨(ar A),aq A+(tgt ns root) * 10,none⟩),vI 0]/\fL ns root=0/\l=[.abs (aL Tryz.prog 3 mb (mf (bf A ns ns.length)) ns.length)])\/(∃ x y,v=.tuple #[x,y,vI (fL ns root)]/\¬ fL ns root=0/\l=[])):=by
 refine Spec.enter Tryz.func73 rfl Tryz.ntmps73 (Nat.le_of_ble_eq_true rfl) (fun R=>?_)
 refine SR (gN 4 (fun b1=>[(2,vP b1)]) (fun _=>[]) (fun _=>[]) (fun b1=>.blk b1 [.slice A (ns.length) (c)] 24) (fun b1=>?_))
 refine NS (gK 1 [(11,.agg #[.slice A (ns.length) (c)])] [(0,a_ 1 b1)] ?_)
 refine gL [] (G1 A c ns L hG hB.hl (fun i hi=>⟨Nat.le_trans (hB.hd i hi).1 (by decide),(hB.hd i hi).2⟩) hB.hwf hB.hnm) ?_
 rintro _ _ (⟨mb,rfl,hok,rfl⟩|⟨m,rfl,hok,rfl⟩)
 ·refine gK 5 [(7,.map (some mb)),(8,.bool true)] [] ?_
  refine NN (af.seq (SR (gK 2 [(16,.bool false)] [] ?_)))
  refine NN (CF (af.skip (NX (SR (gK 2 [(17,.map (some mb)),(18,vI (root))] [] ?_)))))
  by_cases hat:0<=jL ns root
  ·have htl:=jd hat
   refine aj.dR 0 (d:=(some 19)) (t:=160) (K:=3) (E:=161) (b:=mb) (n:=ns.length) (f:=(mf (bf A ns ns.length))) (x:=(.tmp 17)) (ix:=(.tmp 18)) (key:=.int .i64 (root)) (z:=.pointer none) (kl:=(.int .i64 root)) (r:=(some (.pointer (some ⟨(ar A),aq A+(tgt ns root) * 10,none⟩)))) (fun _=>by kernel_rfl) (by kernel_rfl) (fun _=>by kernel_rfl) (fun _=>by kernel_rfl) dw Tryz.underlying160 (fun _=>by kernel_rfl) (lH hz.1 hz.2) (Iu hat htl.1) ?_
   refine gK 1 [(9,.pointer (some ⟨(ar A),aq A+(tgt ns root) * 10,none⟩))] [] ?_
   refine NN (af.seq (SR (gK 2 [(21,.bool false)] [] ?_)))
   refine NN (CF (af.skip (NX (af.seq (SR (gK 5 [(26,.bool (!(decide (((nd ns (tgt ns root)).kind:Int)=(2:Int)))))] [(3,p_ ⟨[.old (.int .i64 ((nd ns (tgt ns root)).kind))],none,none,none,none⟩ [(Rd β ⟨(ar A),aq A+(tgt ns root) * 10+1,none⟩ (.int .i64 ((nd ns (tgt ns root)).kind)))] ⟨au.rd hG (i:=(tgt ns root)) (by omega) (j:=1) rfl,trivial⟩)] ?_))))))
   refine NN (af.cX (p:=((nd ns (tgt ns root)).kind:Int)=(2:Int)) (fun _=>by kernel_rfl) (fun qC=>?_) (fun qC=>?_))
   ·refine SR (gK 3 [(4,.map none),(5,.pointer none),(6,vI 173)] [] ?_)
    refine NN (af.ret (ai.ak ?_))
    exact RT (.tuple #[.map none,.pointer none,vI 173]) [1] (.inr ⟨_,_,by rw [zo hok hat qC],by rw [zo hok hat qC];decide,rfl⟩)
   refine af.skip (NX (SR (gK 5 [(4,.map (some mb)),(5,.pointer (some ⟨(ar A),aq A+(tgt ns root) * 10,none⟩)),(6,vI 0)] [] ?_)))
   refine NN (af.ret ?_)
   exact RT (.tuple #[.map (some mb),.pointer (some ⟨(ar A),aq A+(tgt ns root) * 10,none⟩),vI 0]) [0,1] (.inl ⟨mb,rfl,DS hok hat qC,rfl⟩)
  refine aj.dR 0 (d:=(some 19)) (t:=160) (K:=3) (E:=161) (b:=mb) (n:=ns.length) (f:=(mf (bf A ns ns.length))) (x:=(.tmp 17)) (ix:=(.tmp 18)) (key:=.int .i64 (root)) (z:=.pointer none) (kl:=(.int .i64 root)) (r:=none) (fun _=>by kernel_rfl) (by kernel_rfl) (fun _=>by kernel_rfl) (fun _=>by kernel_rfl) dw Tryz.underlying160 (fun _=>by kernel_rfl) (lH hz.1 hz.2) (G0 hat) ?_
  refine gK 1 [(9,.pointer none)] [] ?_
  refine NN (af.seq (SR (gK 2 [(21,.bool true)] [] ?_)))
  refine NN (CT (SR (gK 3 [(4,.map none),(5,.pointer none),(6,vI 141)] [] ?_)))
  refine NN (af.ret (ai.ak ?_))
  exact RT (.tuple #[.map none,.pointer none,vI 141]) [1] (.inr ⟨_,_,by rw [zn hok hat],by rw [zn hok hat];decide,rfl⟩)
 refine gK 5 [(7,m),(8,.bool false)] [] ?_
 refine NN (af.seq (SR (gK 2 [(16,.bool true)] [] ?_)))
 refine NN (CT (SR (gK 3 [(4,.map none),(5,.pointer none),(6,vI 140)] [] ?_)))
 refine NN (af.ret (ai.ak ?_))
 exact RT (.tuple #[.map none,.pointer none,vI 140]) [0] (.inr ⟨_,_,by rw [Cc hok],by rw [Cc hok];decide,rfl⟩)
end
section
open Go.RowKit Go.Maps
inductive Reach (ns:List aB) (k:Nat):Nat->Prop
  | refl:Reach ns k k
  | step {i:Nat} (j:Nat):Reach ns k i->j < (nd ns i).ah.length->Reach ns k (tgt ns (ent ns i j).id)
theorem Reach.lt {ns:List aB} {k i:Nat} (hok:bh ns) (hk:k < ns.length) (h:Reach ns k i):i < ns.length:=by
  induction h with
  | refl=>exact hk
  | step t _ ht ih=>exact (jd (hok.ah _ ih t ht).at_).1
noncomputable def nM (ns:List aB) (k:Nat):List Int:=by
  classical exact ((List.range ns.length).filter fun i=>decide (Reach ns k i)).map fun i=>(nd ns i).id
theorem rU {ns:List aB} {k:Nat} {z:Int}:z∈nM ns k↔∃ i,i < ns.length/\Reach ns k i/\(nd ns i).id=z:=by
  classical
  unfold nM
  simp only [List.mem_map,List.mem_filter,List.mem_range,decide_eq_true_eq]
  exact⟨fun ⟨i,⟨h1,h2⟩,h3⟩=>⟨i,h1,h2,h3⟩,fun ⟨i,h1,h2,h3⟩=>⟨i,⟨h1,h2⟩,h3⟩⟩
theorem F9 (n:Nat):(List.range n).Pairwise (· < ·):=List.pairwise_lt_range
theorem D5 {ns:List aB} {k:Nat} (hr:ct ns):(nM ns k).Pairwise (· < ·):=by
  classical
  unfold nM
  rw [List.pairwise_map]
  refine ((F9 ns.length).filter _).imp_of_mem (fun {a b} _ hb h=>?_)
  exact hr a b h (List.mem_range.1 (List.mem_filter.1 hb).1)
theorem Cd:∀ {l m:List Int},l.Pairwise (· < ·)->m.Pairwise (· < ·)->(∀ z,z∈l↔z∈m)->l=m
  | [],[],_,_,_=>rfl
  | [],b::m,_,_,h=>by have:=(h b).2 (List.mem_cons_self ..);cases this
  | a::l,[],_,_,h=>by have:=(h a).1 (List.mem_cons_self ..);cases this
  | a::l,b::m,hl,hm,h=>by
    have hl':=List.pairwise_cons.1 hl
    have hm':=List.pairwise_cons.1 hm
    have e:a=b:=by
      rcases List.mem_cons.1 ((h a).1 (List.mem_cons_self ..)) with e|e
      ·exact e
      rcases List.mem_cons.1 ((h b).2 (List.mem_cons_self ..)) with e2|e2
      ·exact e2.symm
      have:=hm'.1 a e;have:=hl'.1 b e2;omega
    subst e
    congr 1
    refine Cd hl'.2 hm'.2 (fun z=>⟨fun hz=>?_,fun hz=>?_⟩)
    ·rcases List.mem_cons.1 ((h z).1 (List.mem_cons_of_mem _ hz)) with e|e
     ·have:=hl'.1 z hz;omega
     exact e
    rcases List.mem_cons.1 ((h z).2 (List.mem_cons_of_mem _ hz)) with e|e
    ·have:=hm'.1 z hz;omega
    exact e
structure ol (ns:List aB) (k:Nat) (seen work:List Nat):Prop where
  start:k∈seen\/k∈work
  reach:∀ i,i∈seen\/i∈work->Reach ns k i
  tJ:∀ i,i∈seen->∀ j,j < (nd ns i).ah.length->tgt ns (ent ns i j).id∈seen\/tgt ns (ent ns i j).id∈work
theorem ol.done {ns:List aB} {k:Nat} {seen:List Nat} (h:ol ns k seen []) (i:Nat):i∈seen↔Reach ns k i:=by
  refine⟨fun hi=>h.reach i (.inl hi),fun hi=>?_⟩
  induction hi with
  | refl=>exact h.start.resolve_right (fun h=>by cases h)
  | step j _ hj ih=>exact (h.tJ _ ih j hj).resolve_right (fun h=>by cases h)
def tgts (ns:List aB) (x j:Nat):List Nat:=(List.range j).map fun t=>tgt ns (ent ns x t).id
theorem DT (ns:List aB) (x j:Nat):tgts ns x (j+1)=tgts ns x j++[tgt ns (ent ns x j).id]:=by simp [tgts,List.range_succ]
theorem tK (ns:List aB) (x j:Nat):(tgts ns x j).length=j:=by simp [tgts]
theorem ol.old {ns:List aB} {k x:Nat} {seen work:List Nat} (h:ol ns k seen (x::work)) (hx:x∈seen):ol ns k seen work:=by
  have aux:∀ i,i∈seen\/i∈x::work->i∈seen\/i∈work:=fun i hi=>by
    rcases hi with hi|hi
    ·exact .inl hi
    rcases List.mem_cons.1 hi with e|hi
    ·subst e;exact .inl hx
    exact .inr hi
  exact⟨aux k h.start,fun i hi=>h.reach i (hi.imp id (List.mem_cons_of_mem _)),fun i hi j hj=>aux _ (h.tJ i hi j hj)⟩
theorem ol.new {ns:List aB} {k x:Nat} {seen work:List Nat} (h:ol ns k seen (x::work)):ol ns k (x::seen) (work++tgts ns x (nd ns x).ah.length):=by
  have aux:∀ i,i∈seen\/i∈x::work->i∈x::seen\/i∈work++tgts ns x (nd ns x).ah.length:=fun i hi=>by
    rcases hi with hi|hi
    ·exact .inl (List.mem_cons_of_mem _ hi)
    rcases List.mem_cons.1 hi with e|hi
    ·subst e;exact .inl (List.mem_cons_self ..)
    exact .inr (List.mem_append.2 (.inl hi))
  refine⟨aux k h.start,fun i hi=>?_,fun i hi j hj=>?_⟩
  ·rcases hi with hi|hi
   ·rcases List.mem_cons.1 hi with e|hi
    ·subst e;exact h.reach i (.inr (List.mem_cons_self ..))
    exact h.reach i (.inl hi)
   rcases List.mem_append.1 hi with hi|hi
   ·exact h.reach i (.inr (List.mem_cons_of_mem _ hi))
   obtain⟨t,ht,rfl⟩:=List.mem_map.1 hi
   exact .step t (h.reach x (.inr (List.mem_cons_self ..))) (List.mem_range.1 ht)
  rcases List.mem_cons.1 hi with e|hi
  ·subst e
   exact .inr (List.mem_append.2 (.inr (List.mem_map.2 ⟨j,List.mem_range.2 hj,rfl⟩)))
  exact aux _ (h.tJ i hi j hj)
def jq (ns:List aB) (seen:List Nat):Nat->Nat
  | 0=>0
  | n+1=>jq ns seen n+(if n∈seen then 0 else (nd ns n).ah.length)
theorem DU {ns:List aB} {seen:List Nat} {x:Nat}:∀ n,n<=x->jq ns (x::seen) n=jq ns seen n
  | 0,_=>rfl
  | n+1,h=>by
    have:¬ n=x:=by omega
    rw [jq,jq,DU n (by omega)]
    simp [this]
theorem um {ns:List aB} {seen:List Nat} {x:Nat} (hx:x∉seen):∀ n,x < n->jq ns (x::seen) n+(nd ns x).ah.length=jq ns seen n
  | 0,h=>absurd h (Nat.not_lt_zero _)
  | n+1,h=>by
    rw [jq,jq]
    by_cases e:n=x
    ·subst e
     rw [DU n (Nat.le_refl _)]
     simp [hx]
    have:=um (ns:=ns) hx n (by omega)
    have h1:(n∈x::seen)=(n∈seen):=by simp [e]
    simp only [h1]
    omega
theorem DV (ns:List aB) (seen:List Nat):∀ n,jq ns seen n<=eO ns n
  | 0=>Nat.le_refl _
  | n+1=>by
    have:=DV ns seen n
    rw [jq,eO]
    split<;>omega
def sf (ns:List aB) (seen:List Nat) (z:Int):Option Value:=if 0<=jL ns z/\tgt ns z∈seen then some (.agg #[]) else none
theorem qR {ns:List aB} {k:Nat} (hr:ct ns) (hk:k < ns.length):jL ns (nd ns k).id=(k:Int)/\tgt ns (nd ns k).id=k:=by
  have h:=EA hr hk (rfl:(nd ns k).id=(nd ns k).id)
  refine⟨h,?_⟩
  unfold tgt
  rw [h]
  rfl
theorem PB {ns:List aB}:mf (sf ns [])=fun _=>none:=by
  rw [← yC]
  congr 1
  funext z
  exact if_neg (fun e=>by cases e.2)
theorem SY {ns:List aB} {seen:List Nat} {x:Nat} (hr:ct ns) (hx:x < ns.length) (h:x∈seen):mf (sf ns seen) (.int .i64 (nd ns x).id)=some (.agg #[]):=by
  obtain⟨h1,h2⟩:=qR hr hx
  exact if_pos ⟨by omega,by rw [h2];exact h⟩
theorem LB {ns:List aB} {seen:List Nat} {x:Nat} (hr:ct ns) (hx:x < ns.length) (h:x∉seen):mf (sf ns seen) (.int .i64 (nd ns x).id)=none:=by
  obtain⟨h1,h2⟩:=qR hr hx
  exact if_neg (fun e=>h (by rw [← h2];exact e.2))
theorem RU {ns:List aB} {seen:List Nat} {x:Nat} (hr:ct ns) (hx:x < ns.length):upd (mf (sf ns seen)) (.int .i64 (nd ns x).id) (some (.agg #[]))=mf (sf ns (x::seen)):=by
  obtain⟨h1,h2⟩:=qR hr hx
  rw [AR]
  congr 1
  funext z
  unfold sf
  by_cases e:z=(nd ns x).id
  ·subst e
   rw [if_pos rfl,if_pos ⟨by omega,by rw [h2];exact List.mem_cons_self ..⟩]
  rw [if_neg e]
  by_cases e2:0<=jL ns z
  ·have e3:¬ tgt ns z=x:=fun e3=>e (by rw [← (jd e2).2.1,e3])
   simp [e2,e3]
  rw [if_neg (fun h=>e2 h.1),if_neg (fun h=>e2 h.1)]
theorem RV {ns:List aB} {seen:List Nat} {x:Nat} (hr:ct ns) (hx:x < ns.length) (h:x∉seen):(if ((mf (sf ns seen)) (.int .i64 (nd ns x).id)).isSome then seen.length else seen.length+1)=(x::seen).length:=by
  rw [LB hr hx h]
  rfl
theorem JH {ns:List aB} {k:Nat} {seen:List Nat} {ss:List Int} (hok:bh ns) (h:ol ns k seen []) (hs:KeysOf (mf (sf ns seen)) ss):ss=nM ns k:=by
  refine Cd hs.sorted (D5 hok.rise) (fun z=>?_)
  rw [hs.mem,rU]
  show (sf ns seen z).isSome=true↔_
  unfold sf
  refine⟨fun hz=>?_,fun ⟨i,h1,h2,h3⟩=>?_⟩
  ·split at hz
   ·rename_i h1
    obtain⟨h2,h3,_⟩:=jd h1.1
    exact⟨tgt ns z,h2,(h.done _).1 h1.2,h3⟩
   cases hz
  obtain⟨e1,e2⟩:=qR hok.rise h1
  rw [h3] at e1 e2
  rw [if_pos ⟨by omega,by rw [e2];exact (h.done i).2 h2⟩]
  rfl
def jR (A:Option Addr) (l:List Nat):List Value:=l.map fun k=>.pointer (some ⟨ar A,aq A+k * 10,none⟩)
theorem LC (A:Option Addr) (l:List Nat) (k:Nat):jR A (l++[k])=jR A l++[.pointer (some ⟨ar A,aq A+k * 10,none⟩)]:=by simp [jR]
theorem Ga {α:Type} (l:List α) (x:α):(l++[x]).length=l.length+1:=by simp
structure Wy (ns:List aB) (k:Nat) (mk work:List Nat) (now:Option (Nat×Nat)):Prop where
  start:k∈mk
  reach:∀ i,i∈mk->Reach ns k i
  lies:∀ i,i∈work->i∈mk
  nodup:mk.Nodup
  tJ:∀ i,i∈mk->i∈work\/(∃ j,now=some (i,j)/\∀ t,t < j->tgt ns (ent ns i t).id∈mk)\/∀ t,t < (nd ns i).ah.length->tgt ns (ent ns i t).id∈mk
noncomputable def bE (ns:List aB) (root:Int):List Int×Int:=if fL ns root=0 then (nM ns (tgt ns root),0) else ([],fL ns root)
theorem mP {ns:List aB} {root:Int} (h:fL ns root=0):bE ns root=(nM ns (tgt ns root),0):=if_pos h
theorem rV {ns:List aB} {root:Int} (h:¬ fL ns root=0):bE ns root=([],fL ns root):=if_neg h
end
section
open Go.RowKit
attribute [local irreducible] aj aP af ai
theorem NC {β:Bs} (A:Option Addr) (c:Nat) (ns:List aB) (L:Lay) (hG:au β A ns L) (hB:eV ns 1048576) (root:Int) (hz:nE root) :
    cC Tryz.prog β 32 #[.agg #[.slice A ns.length c],vI root] [] (fun β' v l=>∃ B cap,v=.tuple #[.slice B (bE ns root).1.length cap,vI (bE ns root).2]/\l=[]/\cE β' B (ij (bE ns root).1)):=by
 refine cC.enter Tryz.func32 rfl Tryz.ntmps32 (Nat.le_of_ble_eq_true rfl) (fun hle0 R=>?_)
 refine SR (gN 3 (fun b1=>[(2,vP b1)]) (fun _=>[]) (fun _=>[]) (fun b1=>.blk b1 [.slice A (ns.length) (c)] 24) (fun b1=>?_))
 refine NS (gK 2 [(17,.agg #[.slice A (ns.length) (c)]),(18,vI (root))] [(0,a_ 1 b1)] ?_)
 refine gL [] (NA A c ns L hG hB root hz) ?_
 rintro _ _ (⟨mb,rfl,hbg,rfl⟩|⟨x,y,rfl,hbg,rfl⟩)
 ·obtain⟨hok,hat,hkd⟩:=zq hbg
  have htl:=jd hat
  refine gK 7 [(6,.map (some mb)),(7,.pointer (some ⟨(ar A),aq A+(tgt ns root) * 10,none⟩)),(8,vI 0)] [] ?_
  refine NN (af.seq (SR (gK 2 [(24,.bool false)] [] ?_)))
  refine NN (CF (af.skip (NX (SR (aj.kO (d:=(some 26)) (t:=164) (fun _=>by kernel_rfl) Tryz.prog rfl 3 (fun m2=>?_))))))
  refine gK 1 [(9,.map (some m2))] [] ?_
  refine NS (gN 2 (fun b3=>[(28,.slice (some ⟨b3,0,none⟩) (1) (1))]) (fun _=>[]) (fun _=>[]) (fun b3=>.blk b3 [.pointer (some ⟨(ar A),aq A+(tgt ns root) * 10,none⟩)] 161) (fun b3=>?_))
  refine aj.dm 3 (p:=.abs (aL Tryz.prog 3 m2 (fun _=>none) 0)) (p':=.abs (aL Tryz.prog 3 m2 (mf (sf ns ([]:List Nat))) (([]:List Nat).length))) (by kernel_rfl) (by rw [PB];rfl) ?_
  refine aj.mem (fun w hS=>hS.RQ (i:=4) (b:=b3) (cs:=[.pointer (some ⟨(ar A),aq A+(tgt ns root) * 10,none⟩)]) (e:=161) 1 1 (by kernel_rfl) rfl (by decide)) ?_
  refine aj.dm 4 (p:=.abs (fV 161 1 (some ⟨b3,0,none⟩) 1 1 ([.pointer (some ⟨(ar A),aq A+(tgt ns root) * 10,none⟩)]))) (p':=.abs (fV 161 1 (some ⟨b3,0,none⟩) 1 1 (jR A ([tgt ns root])))) (by kernel_rfl) (rfl) ?_
  refine gK 1 [(10,.slice (some ⟨b3,0,none⟩) (1) (1))] [] ?_
  refine NN (af.seq (af.block ?_))
  refine af.loop (ι:=(List Nat)×(List Nat)×(Option Addr)×Nat) (fun ((seen,work,Aw,cw):(List Nat)×(List Nat)×(Option Addr)×Nat)=>(ol ns (tgt ns root) seen work)/\(seen.Nodup)/\(work.length+jq ns seen ns.length<=8193)) (fun ((seen,work,Aw,cw):(List Nat)×(List Nat)×(Option Addr)×Nat)=>work.length+jq ns seen ns.length) (fun ((seen,work,Aw,cw):(List Nat)×(List Nat)×(Option Addr)×Nat)=>[(6,.map (some mb)),(9,.map (some m2)),(10,.slice Aw (work.length) (cw))]) (fun ((seen,work,Aw,cw):(List Nat)×(List Nat)×(Option Addr)×Nat)=>[.abs (aL Tryz.prog 3 mb (mf (bf A ns ns.length)) ns.length),.abs (aL Tryz.prog 3 m2 (mf (sf ns seen)) seen.length),.abs (fV 161 1 Aw work.length cw (jR A work)),.abs R]) (([]:List Nat),[tgt ns root],some ⟨b3,0,none⟩,1) (idx:=[6,9,10]) (pk:=[0,3,4,1]) (show (ol ns (tgt ns root) (([]:List Nat)) ([tgt ns root]))/\((([]:List Nat)).Nodup)/\(([tgt ns root]).length+jq ns (([]:List Nat)) ns.length<=8193) from ⟨⟨.inr (List.mem_cons_self ..),fun i hi=>by rcases hi with hi|hi;cases hi;rw [List.mem_singleton.1 hi];exact .refl,fun i hi=>by cases hi⟩,List.nodup_nil,by have:=DV ns [] ns.length;have:=hok.sum;show 1+_<=_;omega⟩) (fun _=>by kernel_rfl) rfl (by kernel_rfl) ?_
  rintro⟨seen,work,Aw,cw⟩ ⟨hinv,hnd,W9⟩
  show af _ _ _ _ [(6,.map (some mb)),(9,.map (some m2)),(10,.slice Aw (work.length) (cw))] [.abs (aL Tryz.prog 3 mb (mf (bf A ns ns.length)) ns.length),.abs (aL Tryz.prog 3 m2 (mf (sf ns seen)) seen.length),.abs (fV 161 1 Aw work.length cw (jR A work)),.abs R] _
  refine af.seq (SR (gK 3 [(31,.bool (decide ((((work.length:Nat):Int):Int) > (0:Int))))] [] ?_))
  refine NN (af.aV (p:=(((work.length:Nat):Int):Int) > (0:Int)) (fun _=>by kernel_rfl) (fun VX=>?_) (fun VX=>?_))
  ·obtain⟨x,rest,hw⟩:∃ x g2,work=x::g2:=List.exists_cons_of_length_pos (by omega)
   have hx:x < ns.length:=(hinv.reach x (.inr (by rw [hw];exact List.mem_cons_self ..))).lt hok htl.1
   have hwl:work.length=rest.length+1:=by rw [hw];rfl
   have U3:=zL ns.length seen hnd (fun i hi=>(hinv.reach i (.inl hi)).lt hok htl.1)
   have hll:=hB.hl
   have hd3:=hB.hd x hx
   refine af.skip (NX (af.block (SR ?_)))
   refine gK 1 [(32,.slice Aw (work.length) (cw))] [] ?_
   refine aj.tell (p:=(Aw=some ⟨ar Aw,aq Aw,none⟩)) (fun w hS=>let ⟨F,h⟩:=hS.get (i:=2) rfl;(fV.len h).2.2) (fun VY=>?_)
   refine gK 3 [(11,.pointer (some ⟨(ar A),aq A+x * 10,none⟩))] [(0,p_ ⟨[],some 0,none,some ⟨(ar Aw),aq Aw,none⟩,none⟩ [0=((0:Nat):Int),0 < work.length,(⟨(ar Aw),aq Aw,none⟩:Addr).spot=none,(Aw:Option Addr)=some ⟨(ar Aw),aq Aw,none⟩] ⟨rfl,by omega,rfl,VY,trivial⟩),(1,p_ ⟨[.view 2 (.pointer (some ⟨(ar A),aq A+x * 10,none⟩))],none,none,none,none⟩ [(∀ F w,(fV 161 1 Aw work.length cw (jR A work)).h F w->w.cell? ⟨(ar Aw),aq Aw+0 * 1,none⟩=some (.pointer (some ⟨(ar A),aq A+x * 10,none⟩)))] ⟨fV.cellAt (i:=0) (j:=0) (by rw [hw];rfl),trivial⟩)] ?_
   refine NS (gK 1 [(35,.slice Aw (work.length) (cw))] [] ?_)
   refine aj.LA 2 (d:=(some 36)) (t:=165) (e:=161) (size:=1) (m:=1) (n:=work.length) (cap:=cw) (A:=Aw) (xs:=(jR A work)) (x:=(.tmp 35)) (lo:=(.const (.int .i64 1))) (fun _=>by kernel_rfl) (by kernel_rfl) (fun _=>by kernel_rfl) (fun _=>by kernel_rfl) Tryz.underlying165 (by kernel_rfl) (by omega) (fun A4=>?_)
   refine aj.dm 2 (p:=.abs (fV 161 1 A4 (work.length - 1) (cw - 1) ((jR A work).drop (1 * 1)))) (p':=.abs (fV 161 1 A4 rest.length (cw - 1) (jR A rest))) (by kernel_rfl) (by rw [hw];rfl) ?_
   refine aj.slot 36 (.slice A4 ((work.length - 1)) ((cw - 1))) (.slice A4 (rest.length) ((cw - 1))) (fun _=>by kernel_rfl) (by rw [hw];rfl) ?_
   refine gK 1 [(10,.slice A4 (rest.length) ((cw - 1)))] [] ?_
   refine NN (af.seq (SR (gK 5 [(38,.map (some m2)),(42,vI ((nd ns x).id))] [(4,p_ ⟨[.old (.int .i64 ((nd ns x).id))],none,none,none,none⟩ [(Rd β ⟨(ar A),aq A+x * 10,none⟩ (.int .i64 ((nd ns x).id)))] ⟨au.rd hG (i:=x) (by omega) (j:=0) rfl,trivial⟩)] ?_)))
   by_cases DW:x∈seen
   ·refine aj.oo 1 (d:=(some 43)) (t:=164) (K:=3) (E:=166) (b:=m2) (n:=seen.length) (f:=(mf (sf ns seen))) (x:=(.tmp 38)) (ix:=(.tmp 42)) (key:=.int .i64 ((nd ns x).id)) (z:=.agg #[]) (kl:=(.int .i64 (nd ns x).id)) (r:=(some (.agg #[]))) (fun _=>by kernel_rfl) (by kernel_rfl) (fun _=>by kernel_rfl) (fun _=>by kernel_rfl) dw Tryz.underlying164 (fun _=>by kernel_rfl) (lH (hB.node x hx).ids.1.1 (hB.node x hx).ids.1.2) (SY hok.rise hx DW) ?_
    refine gN 6 (fun b5=>[(13,.bool true)]) (fun _=>[]) (fun _=>[]) (fun b5=>.blk b5 [] 166) (fun b5=>?_)
    refine NS (gK 1 [(46,.bool true)] [] ?_)
    refine NN (CT (af.exit (ai.aS (ai.cD ?_))))
    exact ai.turn (seen,rest,A4,(cw - 1)) (idx:=[6,9,10]) (pk:=[0,1,2,3]) (show (ol ns (tgt ns root) seen rest)/\(seen.Nodup)/\(rest.length+jq ns seen ns.length<=8193) from ⟨(hw ▸ hinv:ol ns _ seen (x::rest)).old DW,hnd,by omega⟩) (by show rest.length+jq ns seen ns.length < work.length+jq ns seen ns.length;first|omega|(have Uc:=um (ns:=ns) DW ns.length hx;rw [List.length_append,tK];omega)) (fun _=>by kernel_rfl) rfl (by kernel_rfl)
   refine aj.oo 1 (d:=(some 43)) (t:=164) (K:=3) (E:=166) (b:=m2) (n:=seen.length) (f:=(mf (sf ns seen))) (x:=(.tmp 38)) (ix:=(.tmp 42)) (key:=.int .i64 ((nd ns x).id)) (z:=.agg #[]) (kl:=(.int .i64 (nd ns x).id)) (r:=none) (fun _=>by kernel_rfl) (by kernel_rfl) (fun _=>by kernel_rfl) (fun _=>by kernel_rfl) dw Tryz.underlying164 (fun _=>by kernel_rfl) (lH (hB.node x hx).ids.1.1 (hB.node x hx).ids.1.2) (LB hok.rise hx DW) ?_
   refine gN 6 (fun b6=>[(13,.bool false)]) (fun _=>[]) (fun _=>[]) (fun b6=>.blk b6 [] 166) (fun b6=>?_)
   refine NS (gK 1 [(46,.bool false)] [] ?_)
   refine NN (CF (af.skip (NX (SR (gK 6 [(47,.map (some m2)),(51,vI ((nd ns x).id)),(52,.agg #[])] [(4,p_ ⟨[.old (.int .i64 ((nd ns x).id))],none,none,none,none⟩ [(Rd β ⟨(ar A),aq A+x * 10,none⟩ (.int .i64 ((nd ns x).id)))] ⟨au.rd hG (i:=x) (by omega) (j:=0) rfl,trivial⟩)] ?_)))))
   refine aj.j6 1 (d:=none) (t:=164) (K:=3) (E:=166) (b:=m2) (n:=seen.length) (f:=(mf (sf ns seen))) (x:=(.tmp 47)) (ix:=(.tmp 51)) (y:=(.tmp 52)) (key:=.int .i64 ((nd ns x).id)) (u:=.agg #[]) (kl:=(.int .i64 (nd ns x).id)) (n':=(x::seen).length) (f':=(mf (sf ns (x::seen)))) (fun _=>by kernel_rfl) (by kernel_rfl) (fun _=>by kernel_rfl) (fun _=>by kernel_rfl) (fun _=>by kernel_rfl) dw Tryz.underlying164 (by unfold maxLen;omega) (lH (hB.node x hx).ids.1.1 (hB.node x hx).ids.1.2) (RV hok.rise hx DW) (RU hok.rise hx) ?_
   refine NS (aj.dm 2 (p:=.abs (fV 161 1 A4 rest.length (cw - 1) (jR A rest))) (p':=.abs (fV 161 1 A4 ((rest++tgts ns x 0).length) (cw - 1) (jR A (rest++tgts ns x 0)))) (by kernel_rfl) (by rw [show tgts ns x 0=[] from rfl,List.append_nil]) ?_)
   refine aj.slot 10 (.slice A4 (rest.length) ((cw - 1))) (.slice A4 ((rest++tgts ns x 0).length) ((cw - 1))) (fun _=>by kernel_rfl) (by rw [show tgts ns x 0=[] from rfl,List.append_nil]) ?_
   refine gK 6 [(56,.slice (L.eA x) ((nd ns x).ah.length) ((L.eC x))),(57,vI ↑((nd ns x).ah.length)),(58,vI 0)] [(3,p_ ⟨[.old (.slice (L.eA x) ((nd ns x).ah.length) ((L.eC x)))],none,none,none,none⟩ [(Rd β ⟨(ar A),aq A+x * 10+9,none⟩ (.slice (L.eA x) ((nd ns x).ah.length) ((L.eC x))))] ⟨au.rd hG (i:=x) (by omega) (j:=9) rfl,trivial⟩)] ?_
   refine NN (af.block ?_)
   refine af.loop (ι:=Nat×(Option Addr)×Nat) (fun ((j,Ax,cx):Nat×(Option Addr)×Nat)=>(j<=(nd ns x).ah.length)) (fun ((j,Ax,cx):Nat×(Option Addr)×Nat)=>(nd ns x).ah.length - j) (fun ((j,Ax,cx):Nat×(Option Addr)×Nat)=>[(6,.map (some mb)),(9,.map (some m2)),(10,.slice Ax ((rest++tgts ns x j).length) (cx)),(56,.slice (L.eA x) ((nd ns x).ah.length) ((L.eC x))),(57,vI ↑((nd ns x).ah.length)),(58,vI ↑j)]) (fun ((j,Ax,cx):Nat×(Option Addr)×Nat)=>[.abs (aL Tryz.prog 3 mb (mf (bf A ns ns.length)) ns.length),.abs (aL Tryz.prog 3 m2 (mf (sf ns (x::seen))) ((x::seen).length)),.abs (fV 161 1 Ax ((rest++tgts ns x j).length) cx (jR A (rest++tgts ns x j))),.abs R]) (0,A4,(cw - 1)) (idx:=[6,9,10,56,57,58]) (pk:=[0,1,2,3]) (show (0<=(nd ns x).ah.length) from (by omega)) (fun _=>by kernel_rfl) rfl (by kernel_rfl) ?_
   rintro⟨j,Ax,cx⟩ hj
   show af _ _ _ _ [(6,.map (some mb)),(9,.map (some m2)),(10,.slice Ax ((rest++tgts ns x j).length) (cx)),(56,.slice (L.eA x) ((nd ns x).ah.length) ((L.eC x))),(57,vI ↑((nd ns x).ah.length)),(58,vI ↑j)] [.abs (aL Tryz.prog 3 mb (mf (bf A ns ns.length)) ns.length),.abs (aL Tryz.prog 3 m2 (mf (sf ns (x::seen))) ((x::seen).length)),.abs (fV 161 1 Ax ((rest++tgts ns x j).length) cx (jR A (rest++tgts ns x j))),.abs R] _
   refine SR (gK 1 [(59,.bool (decide ((((j:Nat):Int):Int) < ((((nd ns x).ah.length:Nat):Int):Int))))] [] ?_)
   refine NN (af.seq (af.aV (p:=(((j:Nat):Int):Int) < ((((nd ns x).ah.length:Nat):Int):Int)) (fun _=>by kernel_rfl) (fun Rv=>?_) (fun Rv=>?_)))
   ·refine af.skip (NX (af.seq (af.block (SR ?_))))
    refine gN 4 (fun b7=>[(15,vP b7)]) (fun b7=>[(0,p_ ⟨[],some j,none,some ⟨(ar (L.eA x)),aq (L.eA x),none⟩,none⟩ [((j:Nat):Int)=((j:Nat):Int),j < (nd ns x).ah.length,(⟨(ar (L.eA x)),aq (L.eA x),none⟩:Addr).spot=none,((L.eA x):Option Addr)=some ⟨(ar (L.eA x)),aq (L.eA x),none⟩] ⟨rfl,by omega,rfl,dN.hd (hG.ah x (by omega)) (i:=j) (by omega),trivial⟩),(1,p_ ⟨[.old (.string (en (nd ns x).ah j).name),.old (.int .i64 ((en (nd ns x).ah j).id))],none,none,none,none⟩ [(Rd β ⟨(ar (L.eA x)),aq (L.eA x)+j * 2+1,none⟩ (.int .i64 ((en (nd ns x).ah j).id))),(Rd β ⟨(ar (L.eA x)),aq (L.eA x)+j * 2,none⟩ (.string (en (nd ns x).ah j).name))] ⟨dN.rd (hG.ah x (by omega)) (i:=j) (by omega) (j:=1) rfl,dN.rd (hG.ah x (by omega)) (i:=j) (by omega) (j:=0) rfl,trivial⟩),(3,A_ 4 b7 2)]) (fun _=>[]) (fun b7=>.blk b7 [.string (en (nd ns x).ah j).name,vI ((en (nd ns x).ah j).id)] 140) (fun b7=>?_)
    refine NN (af.region (gK 4 [(62,.slice Ax ((rest++tgts ns x j).length) (cx)),(63,.map (some mb)),(65,vI ((en (nd ns x).ah j).id))] [(3,a_ 4 b7)] ?_))
    have RW:=(hok.ah x hx j (by omega)).at_
    have U4:=jd RW
    refine aj.dR 0 (d:=(some 66)) (t:=160) (K:=3) (E:=161) (b:=mb) (n:=ns.length) (f:=(mf (bf A ns ns.length))) (x:=(.tmp 63)) (ix:=(.tmp 65)) (key:=.int .i64 ((en (nd ns x).ah j).id)) (z:=.pointer none) (kl:=(.int .i64 (en (nd ns x).ah j).id)) (r:=(some (.pointer (some ⟨(ar A),aq A+(tgt ns (en (nd ns x).ah j).id) * 10,none⟩)))) (fun _=>by kernel_rfl) (by kernel_rfl) (fun _=>by kernel_rfl) (fun _=>by kernel_rfl) dw Tryz.underlying160 (fun _=>by kernel_rfl) (lH (hB.hwf x hx j (by omega)).1 (hB.hwf x hx j (by omega)).2) (Iu RW U4.1) ?_
    refine gN 1 (fun b8=>[(67,.slice (some ⟨b8,0,none⟩) (1) (1))]) (fun _=>[]) (fun _=>[]) (fun b8=>.blk b8 [.pointer (some ⟨(ar A),aq A+(tgt ns (en (nd ns x).ah j).id) * 10,none⟩)] 161) (fun b8=>?_)
    refine aj.JF 2 (d:=(some 68)) (t:=165) (e:=161) (z:=.pointer none) (size:=1) (bytes:=8) (n:=(rest++tgts ns x j).length) (cap:=cx) (A:=Ax) (ad:=⟨b8,0,none⟩) (xs:=(jR A (rest++tgts ns x j))) (s:=(.tmp 62)) (x:=(.tmp 67)) (ats:=#[165,165]) (m:=1) (c':=1) (news:=[.pointer (some ⟨(ar A),aq A+(tgt ns (en (nd ns x).ah j).id) * 10,none⟩)]) (fun _=>by kernel_rfl) rfl (by kernel_rfl) (fun _=>by kernel_rfl) (fun _=>by kernel_rfl) Tryz.underlying165 (by kernel_rfl) rfl (by decide) (rfl) (by simp [Value.oneCell']) (Ny (j:=5) rfl) (by unfold maxLen;rw [List.length_append,tK];omega) (by rw [List.length_append,tK];omega) (fun A9 c10=>?_)
    refine aj.dm 2 (p:=.abs (fV 161 1 A9 (((rest++tgts ns x j).length)+1) c10 ((jR A (rest++tgts ns x j))++[.pointer (some ⟨(ar A),aq A+(tgt ns (en (nd ns x).ah j).id) * 10,none⟩)]))) (p':=.abs (fV 161 1 A9 ((rest++tgts ns x (j+1)).length) c10 (jR A (rest++tgts ns x (j+1))))) (by kernel_rfl) (by rw [DT,← List.append_assoc,LC,Ga];rfl) ?_
    refine aj.slot 68 (.slice A9 (((rest++tgts ns x j).length)+1) (c10)) (.slice A9 ((rest++tgts ns x (j+1)).length) (c10)) (fun _=>by kernel_rfl) (by rw [DT,← List.append_assoc,Ga]) ?_
    refine gK 1 [(10,.slice A9 ((rest++tgts ns x (j+1)).length) (c10))] [] ?_
    refine NL (ai.aJ (NX (af.region ?_)))
    refine gK 2 [(58,vI ↑(j+1))] [(0,p_ ⟨[],none,none,none,some (vI ↑(j+1))⟩ [(Value.int .i64 (IntKind.wrap .i64 (((j:Nat):Int)+1)))=(.int .i64 ↑(j+1))] ⟨bn (by omega) (by omega) (by omega),trivial⟩)] ?_
    refine NL ?_
    exact ai.turn ((j+1),A9,c10) (idx:=[6,9,10,56,57,58]) (pk:=[0,1,2,3]) (show (((j+1))<=(nd ns x).ah.length) from (by omega)) (by show (nd ns x).ah.length - ((j+1)) < (nd ns x).ah.length - j;omega) (fun _=>by kernel_rfl) rfl (by kernel_rfl)
   refine af.exit (ai.aS (ai.aS (ai.cD (ai.aJ ?_))))
   exact ai.turn ((x::seen),(rest++tgts ns x j),Ax,cx) (idx:=[6,9,10]) (pk:=[0,1,2,3]) (show (ol ns (tgt ns root) ((x::seen)) ((rest++tgts ns x j)))/\(((x::seen)).Nodup)/\(((rest++tgts ns x j)).length+jq ns ((x::seen)) ns.length<=8193) from ⟨by rw [show j=(nd ns x).ah.length by omega];exact (hw ▸ hinv:ol ns _ seen (x::rest)).new,List.nodup_cons.2 ⟨DW,hnd⟩,by have Uc:=um (ns:=ns) DW ns.length hx;rw [List.length_append,tK];omega⟩) (by show ((rest++tgts ns x j)).length+jq ns ((x::seen)) ns.length < work.length+jq ns seen ns.length;first|omega|(have Uc:=um (ns:=ns) DW ns.length hx;rw [List.length_append,tK];omega)) (fun _=>by kernel_rfl) rfl (by kernel_rfl)
  have U3:=zL ns.length seen hnd (fun i hi=>(hinv.reach i (.inl hi)).lt hok htl.1)
  have hll:=hB.hl
  refine af.exit (ai.aS (ai.aS (ai.cD (NX (SR ?_)))))
  have hwn:work=[]:=List.eq_nil_of_length_eq_zero (by omega)
  refine gK 1 [(70,.map (some m2))] [] ?_
  refine gL [] (Nz (some m2)) ?_
  rintro _ _ ⟨bk,rfl,rfl⟩
  refine gL [2,0] (JG m2 bk seen.length (mf (sf ns seen)) (by omega)) ?_
  rintro _ _ ⟨A5,c5,ss,rfl,hkeys,hsl,rfl⟩
  have hss:ss=nM ns (tgt ns root):=JH hok (hwn ▸ hinv) hkeys
  refine aj.oL (Φ:=fun β'=>cE β' A5 (ij ss)) 2 [0,1,3,4,5] (cR:=[.abs (aL Tryz.prog 3 m2 (mf (sf ns seen)) seen.length),.blk bk [.map (some m2)] 164,.abs (aL Tryz.prog 3 mb (mf (bf A ns ns.length)) ns.length),.abs (fV 161 1 Aw work.length cw (jR A work)),.abs R]) rfl rfl (by kernel_rfl) (fun F w h β' h1 h2=>cE.kQ h h1 h2) (fun JD iF hR=>?_)
  replace hG:=hG.le iF
  replace hle0:=hle0.trans iF
  refine gK 2 [(4,.slice A5 (ss.length) (c5)),(5,vI 0)] [] ?_
  refine NN (af.ret ?_)
  exact ai.nQ (v:=.tuple #[.slice A5 (ss.length) (c5),vI 0]) (l:=[]) (bC:=[]) [] [4] hle0 (fun _=>by kernel_rfl) trivial rfl (by kernel_rfl) (⟨A5,c5,by rw [mP hbg,← hss],rfl,by rw [mP hbg,← hss];exact hR⟩)
 refine gK 7 [(6,x),(7,y),(8,vI ((fL ns root)))] [] ?_
 refine NN (af.seq (SR (gK 2 [(24,.bool (!(decide (((fL ns root):Int)=(0:Int)))))] [] ?_)))
 refine NN (af.cX (p:=((fL ns root):Int)=(0:Int)) (fun _=>by kernel_rfl) (fun wM=>?_) (fun wM=>?_))
 ·refine SR (gK 3 [(4,.slice none (0) (0)),(5,vI ((fL ns root)))] [] ?_)
  refine NN (af.ret (ai.ak ?_))
  exact ai.nQ (v:=.tuple #[.slice none (0) (0),vI ((fL ns root))]) (l:=[]) (bC:=[]) [] [0] hle0 (fun _=>by kernel_rfl) trivial rfl (by kernel_rfl) (⟨none,0,by rw [rV hbg];rfl,rfl,by rw [rV hbg];exact cE.nil⟩)
 exact absurd wM hbg
end
end Go.Proofs.YtidjcblbdmfalaaGreat
