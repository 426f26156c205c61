/-
  PROVED HERE: lemmas and contracts of functions (texts of this repo, joined; what the claim does not use is left out): H12, GTe, XS, Row, GO, GRef, GW, Sb, Ac, Wo, Wx, Fz, Ws, Wn, WD, Lw, LA, Lc, HW, Og, LC, Oh, Wm, WE, WF, WA, ShelfP, As, HA, HB, WB, Wc, WC, Wd, We.
  CONDITIONS: as the theorems say.
-/
import Derived.Test.YtidjcblbdmfalaaGreatMWquiet4
import Derived.Test.YtidjcblbdmfalaaGreatRows
import Derived.ProofKit
import Derived.OpenShut
import Derived.Carry
import Derived.Deep.Slices
import Derived.Lib.Split
import Derived.Shelf.Strings.Split
import Derived.Test.YtidjcblbdmfalaaGreatProg
import Derived.Laws.IdiomStrings
import Derived.Lib.SplitLaws
set_option maxRecDepth 100000
set_option maxHeartbeats 4000000
namespace Go.Proofs.YtidjcblbdmfalaaGreat
section
open Go.RowKit Go.Maps bG aE
attribute [local irreducible] aj aP af ai
abbrev qO (b2:Nat) (X:FM):=(.blk b2 [vI (X.cN),vI (X.cB),vI (X.cH),vI (X.cS),vI (X.cZ)] 28:HP)
abbrev qy (b1:Nat) (A:Option Addr) (ns:List aK) (c):=(.blk b1 [.slice A (ns.length) (c)] 24:HP)
abbrev qP (b8:Nat) (ns) (k:Nat) (Y:Lay):=(.blk b8 [vI ((nd ns k).id),vI ((nd ns k).kind),vI ((nd ns k).mode),vI ((nd ns k).uid),vI ((nd ns k).gid),vI ((nd ns k).sec),vI ((nd ns k).nano),.slice (Y.dA k) ((nd ns k).data.length) ((Y.dC k)),.string (nd ns k).target,.slice (Y.eA k) ((nd ns k).ah.length) ((Y.eC k))] 70:HP)
abbrev yU (b9:Nat) (ns) (k:Nat):=(.blk b9 [vI ((nd ns k).id),vI ((nd ns k).mode),vI ((nd ns k).uid),vI ((nd ns k).gid),vI ((nd ns k).sec),vI ((nd ns k).nano),vI 0,vI 0,.bool false] 128:HP)
abbrev vZ (b1:Nat) (A:Option Addr) (ns) (c) (b7:Nat) (m3:Nat) (t4:Nat) (S:aG) (L:HL) (R:cu):=([qy b1 A ns c,pF b7 m3 t4 S.X,pI m3 L S.idx,jT t4 S L,pO S.O L,pD S.O L,pE S.O L,.abs R]:List HP)
abbrev NV (A:Option Addr) (ns:List aK) (c) (i:Nat) (Y:Lay) (j:Nat):=([(123,.slice A (ns.length) (c)),(124,vI ↑ns.length),(125,vI ↑i),(130,.slice (Y.eA i) ((nd ns i).ah.length) ((Y.eC i))),(131,vI ↑((nd ns i).ah.length)),(132,vI ↑j)]:Fr)
abbrev KG (b1:Nat) (X:FM):=([(2,vP b1),(39,.agg #[vI (X.cN),vI (X.cB),vI (X.cH),vI (X.cS),vI (X.cZ)])]:Fr)
abbrev KH (b1:Nat) (b7:Nat) (A:Option Addr) (ns:List aK) (c) (k:Nat):=([(2,vP b1),(6,vP b7),(47,.slice A (ns.length) (c)),(48,vI ↑ns.length),(49,vI ↑k)]:Fr)
abbrev Hr (b1:Nat) (b7:Nat) (b8:Nat) (A:Option Addr) (ns:List aK) (c) (k:Nat):=([(2,vP b1),(6,vP b7),(8,vP b8),(47,.slice A (ns.length) (c)),(48,vI ↑ns.length),(49,vI ↑k)]:Fr)
abbrev ME (b1:Nat) (b7:Nat) (b8:Nat) (A:Option Addr) (ns:List aK) (c) (k:Nat):=([(2,vP b1),(6,vP b7),(8,vP b8),(47,.slice A (ns.length) (c)),(48,vI ↑ns.length),(49,vI ↑k)]:Fr)
abbrev Ja (b7:Nat) (b16:Nat):=([(6,vP b7),(11,vP b16)]:Fr)
abbrev MF (S:aG) (ns) (k:Nat) (b7:Nat):=([(118,vI (S.X.used+(((nd ns k).data.length:Nat):Int))),(120,.pointer (some ⟨b7,9,none⟩))]:Fr)
theorem Hs {β:Bs} (A:Option Addr) (c:Nat) (ns:List aK) (Y:Lay) (hG:ay β A ns Y) (hl:ns.length<=1048576) (hd:∀ i,i < ns.length->(nd ns i).data.length<=1048576/\(nd ns i).ah.length<=1048576) (hwf:∀ i,i < ns.length->∀ j,j < (nd ns i).ah.length->-9223372036854775808<=(ent ns i j).id/\(ent ns i j).id<=9223372036854775807) (hnm:∀ i,i < ns.length->∀ j,j < (nd ns i).ah.length->(ent ns i j).name.size<=1048576) (X:FM) :
    Spec Tryz.prog β 21 #[.agg #[.slice A (ns.length) (c)],.agg #[vI (X.cN),vI (X.cB),vI (X.cH),vI (X.cS),vI (X.cZ)]] [] (fun v l=>(¬ jb X/\v=.tuple #[.pointer none,vI 179]/\l=[])\/(jb X/\¬ bM ns/\v=.tuple #[.pointer none,vI 140]/\l=[])\/(jb X/\bM ns/\∃ S f m t L,fe X ns ns.length 0 S/\v=.tuple #[vP f,vI 0]/\l=pA f m t L S)):=by
 refine Spec.enter Tryz.func21 rfl Tryz.ntmps21 (Nat.le_of_ble_eq_true rfl) (fun R=>?_)
 refine SR (gN 1 (fun b1=>[(2,vP b1)]) (fun _=>[]) (fun _=>[]) (fun b1=>.blk b1 [.slice A (ns.length) (c)] 24) (fun b1=>?_))
 refine gN 3 (fun b2=>[(3,vP b2)]) (fun _=>[]) (fun _=>[]) (fun b2=>.blk b2 [vI (X.cN),vI (X.cB),vI (X.cH),vI (X.cS),vI (X.cZ)] 28) (fun b2=>?_)
 refine NN (af.seq (SR (gK 2 [(15,vI (X.cN))] [(1,a_ 2 b2)] ?_)))
 refine gL [] (fJ X.cN 4096) ?_
 rintro _ _ ⟨rfl,rfl⟩
 refine gK 2 [(18,.bool (!(decide ((0<=X.cN/\X.cN<=4096)))))] [] ?_
 refine aj.iF 18 ((0<=X.cN/\X.cN<=4096)) (fun _=>by kernel_rfl) (fun nY=>?_) (fun nY=>?_)
 ·refine gK 17 [(35,.bool true)] [] ?_
  refine NN (CT (SR (gK 2 [(4,.pointer none),(5,vI 179)] [] ?_)))
  refine NN (af.ret (ai.ak ?_))
  exact RT (.tuple #[.pointer none,vI 179]) [0] (.inl ⟨fun h=>nY h.cN,rfl,rfl⟩)
 refine gK 2 [(20,vI (X.cB))] [(1,a_ 2 b2)] ?_
 refine gL [] (fJ X.cB 1099511627776) ?_
 rintro _ _ ⟨rfl,rfl⟩
 refine gK 3 [(24,.bool (!(decide ((0<=X.cB/\X.cB<=1099511627776)))))] [] ?_
 refine aj.iF 24 ((0<=X.cB/\X.cB<=1099511627776)) (fun _=>by kernel_rfl) (fun Be=>?_) (fun Be=>?_)
 ·refine gK 11 [(35,.bool true)] [] ?_
  refine NN (CT (SR (gK 2 [(4,.pointer none),(5,vI 179)] [] ?_)))
  refine NN (af.ret (ai.ak ?_))
  exact RT (.tuple #[.pointer none,vI 179]) [0] (.inl ⟨fun h=>Be h.cB,rfl,rfl⟩)
 refine gK 2 [(26,vI (X.cH))] [(1,a_ 2 b2)] ?_
 refine gL [] (fJ X.cH 1024) ?_
 rintro _ _ ⟨rfl,rfl⟩
 refine gK 3 [(30,.bool (!(decide ((0<=X.cH/\X.cH<=1024)))))] [] ?_
 refine aj.iF 30 ((0<=X.cH/\X.cH<=1024)) (fun _=>by kernel_rfl) (fun mh=>?_) (fun mh=>?_)
 ·refine gK 5 [(35,.bool true)] [] ?_
  refine NN (CT (SR (gK 2 [(4,.pointer none),(5,vI 179)] [] ?_)))
  refine NN (af.ret (ai.ak ?_))
  exact RT (.tuple #[.pointer none,vI 179]) [0] (.inl ⟨fun h=>mh h.cH,rfl,rfl⟩)
 refine gK 2 [(32,.agg #[vI (X.cS),vI (X.cZ)])] [(1,A_ 2 b2 2)] ?_
 refine gL [] (iz X.cS X.cZ) ?_
 rintro _ _ ⟨rfl,rfl⟩
 refine gK 2 [(35,.bool (!(decide (dL X.cS X.cZ))))] [] ?_
 refine NN (af.cT (p:=dL X.cS X.cZ) (fun _=>by kernel_rfl) (fun jE=>?_) (fun jE=>?_))
 ·refine SR (gK 2 [(4,.pointer none),(5,vI 179)] [] ?_)
  refine NN (af.ret (ai.ak ?_))
  exact RT (.tuple #[.pointer none,vI 179]) [0] (.inl ⟨fun h=>jE h.now,rfl,rfl⟩)
 have hcap:jb X:=⟨nY,Be,mh,jE⟩
 refine af.skip (NX (af.seq (SR (gK 1 [(36,.agg #[.slice A (ns.length) (c)])] [(0,a_ 1 b1)] ?_))))
 refine gL [] (Mx A c ns Y hG hl (fun i hi=>⟨Nat.le_trans (hd i hi).1 (by decide),(hd i hi).2⟩) hwf hnm) ?_
 rintro _ _ ⟨rfl,rfl⟩
 refine gK 1 [(38,.bool (!(decide (((if bM ns then 0 else 140):Int)=(0:Int)))))] [] ?_
 refine NN (af.cT (p:=((if bM ns then 0 else 140):Int)=(0:Int)) (fun _=>by kernel_rfl) (fun Am=>?_) (fun Am=>?_))
 ·have UH:¬ bM ns:=fun h=>Am (if_pos h)
  refine SR (gK 2 [(4,.pointer none),(5,vI 140)] [] ?_)
  refine NN (af.ret (ai.ak ?_))
  exact RT (.tuple #[.pointer none,vI 140]) [0] (.inr (.inl ⟨hcap,UH,rfl,rfl⟩))
 have hok:bM ns:=Classical.byContradiction (fun h=>by rw [if_neg h] at Am;exact absurd Am (by decide))
 refine af.skip (NX (af.seq (af.rE (S:=[qO b2 X]) [0,2,3] [.two 1 4,.one 5,.one 6,.one 7] [2] (by kernel_rfl) (by kernel_rfl) rfl (by kernel_rfl) ?_)))
 refine gP (KG b1 X++[(42,vI (X.cH))]) [0,2,3] [(0,A_ 0 b2 5),(2,a_ 0 b2)] ?_
 refine iE.pair (ι:=Nat×Nat) (Qn:=Nat) (Qo:=Nat) (Ku:=fun (m3:Nat)=>(KG b1 X++[(40,.map (some m3)),(42,vI (X.cH))])) (hpi:=fun (m3:Nat)=>[.abs R,qy b1 A ns c,qO b2 X,.abs (aJ Tryz.prog 3 m3 (fun _=>none) 0)]) (Kv:=fun (t5:Nat)=>(KG b1 X++[(43,vP t5)])) (Kw:=fun (t5:Nat)=>[.abs (bS 197 t5 (min (max X.cH 0) 1024) 0 []),.abs R,qy b1 A ns c,qO b2 X]) (fr':=fun ((m3,t4):Nat×Nat)=>[(2,vP b1),(39,.agg #[vI (X.cN),vI (X.cB),vI (X.cH),vI (X.cS),vI (X.cZ)]),(40,.map (some m3)),(43,vP t4)]) (hp':=fun ((m3,t4):Nat×Nat)=>[.abs (bS 197 t4 (min (max X.cH 0) 1024) 0 []),.abs R,qy b1 A ns c,qO b2 X,.abs (aJ Tryz.prog 3 m3 (fun _=>none) 0)]) [2] [3] [3] rfl rfl rfl rfl ?_ ?_ ?_ ?_ rfl (fun _=>by kernel_rfl) rfl (fun _=>by kernel_rfl) rfl (fun _=>by kernel_rfl) ?_
 ·refine aj.lC (d:=(some 40)) (t:=120) (fun _=>by kernel_rfl) Tryz.prog rfl 3 (fun m3=>?_)
  refine NL ?_
  exact MD m3 [2,39,40,42] [0,1,2,3]
 ·rintro m3
  show aj _ _ _ _ _ (KG b1 X++[(40,.map (some m3)),(42,vI (X.cH))]) [.abs R,qy b1 A ns c,qO b2 X,.abs (aJ Tryz.prog 3 m3 (fun _=>none) 0)] _
  refine gL [] (EJ X.cH) ?_
  rintro _ _ ⟨t4,rfl,rfl⟩
  refine NL ?_
  exact MD (m3,t4) [2,39,40,43] [0,1,2,3,4]
 ·refine gL [] (EJ X.cH) ?_
  rintro _ _ ⟨t5,rfl,rfl⟩
  refine NL ?_
  exact MD t5 [2,39,43] [0,1,2,3]
 ·rintro t5
  show aj _ _ _ _ _ (KG b1 X++[(43,vP t5)]) [.abs (bS 197 t5 (min (max X.cH 0) 1024) 0 []),.abs R,qy b1 A ns c,qO b2 X] _
  refine aj.lC (d:=(some 40)) (t:=120) (fun _=>by kernel_rfl) Tryz.prog rfl 3 (fun m6=>?_)
  refine NL ?_
  exact MD (m6,t5) [2,39,40,43] [0,1,2,3,4]
 rintro⟨m3,t4⟩
 refine iE.cut (ι:=Unit) (fr':=fun (_:Unit)=>[(2,vP b1),(44,.agg #[vI (X.cN),vI (X.cB),vI (X.cH),vI (X.cS),vI (X.cZ),.map (some m3),vP t4,vI 0,vI 0,vI 0])]) (hp':=fun (_:Unit)=>[.abs (bS 197 t4 (min (max X.cH 0) 1024) 0 []),.abs R,qy b1 A ns c,qO b2 X,.abs (aJ Tryz.prog 3 m3 (fun _=>none) 0)]) [3] rfl rfl ?_ rfl (fun _=>by kernel_rfl) ?_
 ·refine gK 1 [(44,.agg #[vI (X.cN),vI (X.cB),vI (X.cH),vI (X.cS),vI (X.cZ),.map (some m3),vP t4,vI 0,vI 0,vI 0])] [] ?_
  refine NL ?_
  exact MD () [2,44] [0,1,2,3,4]
 rintro _
 refine iE.cut (ι:=Nat) (fr':=fun (b7:Nat)=>[(2,vP b1),(45,vP b7)]) (hp':=fun (b7:Nat)=>[.abs (bS 197 t4 (min (max X.cH 0) 1024) 0 []),.abs R,qy b1 A ns c,qO b2 X,.abs (aJ Tryz.prog 3 m3 (fun _=>none) 0),pF b7 m3 t4 { X with last:=0,ah:=0,used:=0 }]) [3] rfl rfl ?_ rfl (fun _=>by kernel_rfl) ?_
 ·refine gN 1 (fun b7=>[(45,vP b7)]) (fun _=>[]) (fun _=>[]) (fun b7=>pF b7 m3 t4 { X with last:=0,ah:=0,used:=0 }) (fun b7=>?_)
  refine NL ?_
  exact MD b7 [2,45] [0,1,2,3,4,5]
 rintro b7
 refine iE.last rfl rfl ?_
 refine gK 1 [(6,vP b7)] [] ?_
 refine NL (ai.np (NX (af.seq (SR ?_))))
 obtain⟨L,VT⟩:∃ L:HL,L=⟨fun _=>0,fun _=>0,fun _=>none,fun _=>0⟩:=⟨_,rfl⟩
 refine aj.mem (fun w hS=>hS.DV (bB (gM X).O L) (zP X L).1) ?_
 refine aj.mem (fun w hS=>hS.DV (bC (gM X).O L) (zP X L).2.1) ?_
 refine aj.mem (fun w hS=>hS.DV (bV (gM X).O L) (zP X L).2.2) ?_
 have hc:min (max X.cH 0) 1024=X.cH:=by have:=hcap.cH;omega
 refine aj.mem (cF:=[.abs (bS 197 t4 (gM X).X.cH (gM X).ar (aV L (gM X).us)),.abs R,.blk b1 [.slice A (ns.length) (c)] 24,.blk b2 [vI (X.cN),vI (X.cB),vI (X.cH),vI (X.cS),vI (X.cZ)] 28,.abs (aJ Tryz.prog 3 m3 (aW (aV L (gM X).idx)) ((gM X).idx.length)),.blk b7 [vI ((gM X).X.cN),vI ((gM X).X.cB),vI ((gM X).X.cH),vI ((gM X).X.cS),vI ((gM X).X.cZ),.map (some m3),vP t4,vI ((gM X).X.last),vI ((gM X).X.ah),vI ((gM X).X.used)] 126,.abs (ax (bB ((gM X).O) L)),.abs (ax (bC ((gM X).O) L)),.abs (ax (bV ((gM X).O) L))]) (fun w hS=>by rw [hc,← EH] at hS;exact hS) ?_
 refine gK 4 [(47,.slice A (ns.length) (c)),(48,vI ↑ns.length),(49,vI 0)] [(1,a_ 2 b1)] ?_
 refine NN (af.block ?_)
 refine af.loop (ι:=Nat×aG×HL) (fun ((k,S,L):Nat×aG×HL)=>(k<=ns.length)/\(lT X ns k S)) (fun ((k,S,L):Nat×aG×HL)=>ns.length - k) (fun ((k,S,L):Nat×aG×HL)=>(KH b1 b7 A ns c k)) (fun ((k,S,L):Nat×aG×HL)=>(vZ b1 A ns c b7 m3 t4 S L R)) (0,(gM X),L) (idx:=[2,6,47,48,49]) (pk:=[2,5,4,0,6,7,8,1]) (show (0<=ns.length)/\(lT X ns 0 ((gM X))) from ⟨Nat.zero_le _,KD hcap⟩) (fun _=>by kernel_rfl) rfl (by kernel_rfl) ?_
 rintro⟨k,S,L⟩ ⟨hk,hB⟩
 show af _ _ _ _ (KH b1 b7 A ns c k) (vZ b1 A ns c b7 m3 t4 S L R) _
 refine SR (gK 1 [(50,.bool (decide ((((k:Nat):Int):Int) < (((ns.length:Nat):Int):Int))))] [] ?_)
 refine NN (af.seq (af.aZ (p:=(((k:Nat):Int):Int) < (((ns.length:Nat):Int):Int)) (fun _=>by kernel_rfl) (fun h50=>?_) (fun h50=>?_)))
 ·have hk2:k < ns.length:=by omega
  have hdk:=hd k hk2
  have hds:=Ds (fun i hi=>(hd i hi).1) hk
  have Mz:=hok.ids k hk2
  have hni:=hB.new hok hk2
  have pu:(Lit.int .i64 (nd ns k).id).wf=true:=WalkArith.wf_i64 (by omega)
  have hkk:=(hok.node k hk2).kind
  have dx:S.X.used=(sF ns k:Int):=by rw [hB.cap]
  have hil:=hB.inv.len
  refine af.skip (NX (af.seq (af.block (SR ?_))))
  refine gN 4 (fun b8=>[(8,vP b8)]) (fun b8=>[(0,p_ ⟨[],some k,none,some ⟨(av A),au A,none⟩,none⟩ [((k:Nat):Int)=((k:Nat):Int),k < ns.length,(⟨(av A),au A,none⟩:Addr).spot=none,(A:Option Addr)=some ⟨(av A),au A,none⟩] ⟨rfl,by omega,rfl,ay.hd hG (i:=k) (by omega),trivial⟩),(1,p_ ⟨[.old (.int .i64 ((nd ns k).id)),.old (.int .i64 ((nd ns k).kind)),.old (.int .i64 ((nd ns k).mode)),.old (.int .i64 ((nd ns k).uid)),.old (.int .i64 ((nd ns k).gid)),.old (.int .i64 ((nd ns k).sec)),.old (.int .i64 ((nd ns k).nano)),.old (.slice (Y.dA k) ((nd ns k).data.length) ((Y.dC k))),.old (.string (nd ns k).target),.old (.slice (Y.eA k) ((nd ns k).ah.length) ((Y.eC k)))],none,none,none,none⟩ [(Rd β ⟨(av A),au A+k * 10+9,none⟩ (.slice (Y.eA k) ((nd ns k).ah.length) ((Y.eC k)))),(Rd β ⟨(av A),au A+k * 10+8,none⟩ (.string (nd ns k).target)),(Rd β ⟨(av A),au A+k * 10+7,none⟩ (.slice (Y.dA k) ((nd ns k).data.length) ((Y.dC k)))),(Rd β ⟨(av A),au A+k * 10+6,none⟩ (.int .i64 ((nd ns k).nano))),(Rd β ⟨(av A),au A+k * 10+5,none⟩ (.int .i64 ((nd ns k).sec))),(Rd β ⟨(av A),au A+k * 10+4,none⟩ (.int .i64 ((nd ns k).gid))),(Rd β ⟨(av A),au A+k * 10+3,none⟩ (.int .i64 ((nd ns k).uid))),(Rd β ⟨(av A),au A+k * 10+2,none⟩ (.int .i64 ((nd ns k).mode))),(Rd β ⟨(av A),au A+k * 10+1,none⟩ (.int .i64 ((nd ns k).kind))),(Rd β ⟨(av A),au A+k * 10,none⟩ (.int .i64 ((nd ns k).id)))] ⟨ay.rd hG (i:=k) (by omega) (j:=9) rfl,ay.rd hG (i:=k) (by omega) (j:=8) rfl,ay.rd hG (i:=k) (by omega) (j:=7) rfl,ay.rd hG (i:=k) (by omega) (j:=6) rfl,ay.rd hG (i:=k) (by omega) (j:=5) rfl,ay.rd hG (i:=k) (by omega) (j:=4) rfl,ay.rd hG (i:=k) (by omega) (j:=3) rfl,ay.rd hG (i:=k) (by omega) (j:=2) rfl,ay.rd hG (i:=k) (by omega) (j:=1) rfl,ay.rd hG (i:=k) (by omega) (j:=0) rfl,trivial⟩),(3,A_ 8 b8 10)]) (fun _=>[]) (fun b8=>.blk b8 [vI ((nd ns k).id),vI ((nd ns k).kind),vI ((nd ns k).mode),vI ((nd ns k).uid),vI ((nd ns k).gid),vI ((nd ns k).sec),vI ((nd ns k).nano),.slice (Y.dA k) ((nd ns k).data.length) ((Y.dC k)),.string (nd ns k).target,.slice (Y.eA k) ((nd ns k).ah.length) ((Y.eC k))] 70) (fun b8=>?_)
  refine NS (gN 13 (fun b9=>[(9,vP b9)]) (fun b9=>[(1,a_ 8 b8),(3,a_ 8 b8),(5,a_ 8 b8),(7,a_ 8 b8),(9,A_ 8 b8 2),(12,A_ 9 b9 9)]) (fun _=>[]) (fun b9=>.blk b9 [vI ((nd ns k).id),vI ((nd ns k).mode),vI ((nd ns k).uid),vI ((nd ns k).gid),vI ((nd ns k).sec),vI ((nd ns k).nano),vI 0,vI 0,.bool false] 128) (fun b9=>?_))
  refine NN (af.seq (SR (gK 2 [(65,vI ((nd ns k).kind))] [(1,a_ 8 b8)] ?_)))
  refine NN (af.block (SR ?_))
  refine gK 2 [(77,.bool (decide (((nd ns k).kind:Int)=(1:Int))))] [] ?_
  refine NN (af.aZ (p:=((nd ns k).kind:Int)=(1:Int)) (fun _=>by kernel_rfl) (fun hk1=>?_) (fun hk1=>?_))
  ·refine af.bP (S:=[pF b7 m3 t4 S.X,qP b8 ns k Y,yU b9 ns k]) [0,1,2,3,4,5,6,7,8,9,10,11,12,13] 9 [1,8,9] (by kernel_rfl) (by kernel_rfl) rfl (by kernel_rfl) ?_
   refine gR 0 [9,10,11,12,13] (ME b1 b7 b8 A ns c k++[(82,.map (some m3)),(84,vI ((nd ns k).id)),(85,.agg #[vI ((nd ns k).id),vI ((nd ns k).mode),vI ((nd ns k).uid),vI ((nd ns k).gid),vI ((nd ns k).sec),vI ((nd ns k).nano),vI 0,vI 0,.bool false]),(87,.slice (Y.dA k) ((nd ns k).data.length) ((Y.dC k)))]) [0,1,2,3,4,5,6,7,8] [(3,a_ 0 b7),(5,a_ 1 b8),(6,A_ 2 b9 9),(8,a_ 1 b8)] ?_
   refine mL [2,9,10] [] (tQ (Y.dA k) (Y.dC k) (nd ns k).data (hG.data k (by omega)) (by have:=(hd k (by omega)).1;omega)) ?_ (by rintro _ _ ⟨jA,c11,rfl,rfl⟩;rfl)
   rintro _ _ ⟨jA,c11,rfl,rfl⟩
   refine aL.cut (ι:=Unit) (fr':=fun (_:Unit)=>(Hr b1 b7 b8 A ns c k++[(82,.map (some m3)),(84,vI ((nd ns k).id)),(89,.agg #[vI ((nd ns k).id),vI ((nd ns k).mode),vI ((nd ns k).uid),vI ((nd ns k).gid),vI ((nd ns k).sec),vI ((nd ns k).nano),vI 0,vI 0,.bool false,.slice jA ((nd ns k).data.length) (c11)])])) (hp':=fun (_:Unit)=>([.abs (aH 5 1 jA ((nd ns k).data.length) c11 (bX (nd ns k).data))]++vZ b1 A ns c b7 m3 t4 S L R++[qP b8 ns k Y,yU b9 ns k])) [2,9,10] rfl rfl ?_ rfl (fun _=>by kernel_rfl) ?_
   ·refine gK 1 [(89,.agg #[vI ((nd ns k).id),vI ((nd ns k).mode),vI ((nd ns k).uid),vI ((nd ns k).gid),vI ((nd ns k).sec),vI ((nd ns k).nano),vI 0,vI 0,.bool false,.slice jA ((nd ns k).data.length) (c11)])] [] ?_
    refine NL ?_
    exact MD () [2,6,8,47,48,49,82,84,89] [0,1,2,3,4,5,6,7,8,9,10]
   rintro _
   refine mN [2,9,10] (fun b12=>[(90,vP b12)]) (fun _=>[]) (fun b12=>.blk b12 [vI ((nd ns k).id),vI ((nd ns k).mode),vI ((nd ns k).uid),vI ((nd ns k).gid),vI ((nd ns k).sec),vI ((nd ns k).nano),vI 0,vI 0,.bool false,.slice jA ((nd ns k).data.length) (c11)] 131) (fun b12=>?_)
   refine aL.cut (ι:=Unit) (fr':=fun (_:Unit)=>(Hr b1 b7 b8 A ns c k++[(82,.map (some m3)),(84,vI ((nd ns k).id)),(91,.iface 129 (vP b12))])) (hp':=fun (_:Unit)=>([.abs (aH 5 1 jA ((nd ns k).data.length) c11 (bX (nd ns k).data))]++vZ b1 A ns c b7 m3 t4 S L R++[qP b8 ns k Y,yU b9 ns k,.blk b12 [vI ((nd ns k).id),vI ((nd ns k).mode),vI ((nd ns k).uid),vI ((nd ns k).gid),vI ((nd ns k).sec),vI ((nd ns k).nano),vI 0,vI 0,.bool false,.slice jA ((nd ns k).data.length) (c11)] 131])) [2,9,10] rfl rfl ?_ rfl (fun _=>by kernel_rfl) ?_
   ·refine gK 1 [(91,.iface 129 (vP b12))] [] ?_
    refine NL ?_
    exact MD () [2,6,8,47,48,49,82,84,91] [0,1,2,3,4,5,6,7,8,9,10,11]
   rintro _
   refine aL.last rfl rfl ?_
   obtain⟨L2,hL2⟩:∃ L2:HL,L2=L.put (d8 (nd ns k)) b12 0 jA c11:=⟨_,rfl⟩
   have hfr:=hB.fresh hok (by omega)
   refine aj.mem (fun w hS=>hS.tv hL2 hfr (o:=(ou (nd ns k))) (i:=5) (j:=11) (ix:=[0,1,2,3,4,6,7,8,9,10]) rfl rfl (by kernel_rfl) rfl (by show (nd ns k).kind≠0;rw [hk1];decide) ((gU (L:=L2) (k:=(d8 (nd ns k))) (o:=(ou (nd ns k))) hk1).trans (by rw [show L2.dA (d8 (nd ns k))=jA by rw [hL2];exact if_pos rfl,show L2.dC (d8 (nd ns k))=c11 by rw [hL2];exact if_pos rfl];rfl)) (by show jZ (nd ns k).kind=_;rw [hk1]<;>rfl)) ?_
   refine aj.dh [(7,.abs (ax (bV ((cC S (nd ns k)).O) L2)))] (fun w hS=>hS.uq hL2 hfr (o:=(ou (nd ns k))) (i:=7) rfl (by show ¬ (nd ns k).kind=2;rw [hk1];decide)) ?_
   refine aj.mem (cF:=[pD ((cC S (nd ns k)).O) L2,pO ((cC S (nd ns k)).O) L2,qy b1 A ns c,pF b7 m3 t4 S.X,pI m3 L S.idx,jT t4 S L,pE ((cC S (nd ns k)).O) L2,.abs R,qP b8 ns k Y,yU b9 ns k]) (fun w hS=>hS.RU hL2 (o:=(ou (nd ns k))) (i:=6) (j:=1) (ix:=[0,2,3,4,5,7,8,9,10]) rfl rfl (by kernel_rfl) rfl hk1) ?_
   refine aj.dh [(4,.abs (aJ Tryz.prog 3 m3 (aW (aV L2 S.idx)) S.idx.length)),(5,.abs (bS 197 t4 S.X.cH S.ar (aV L2 S.us)))] (fun w hS=>by rw [gn hL2 hfr.idx,gn hL2 hfr.us];exact hS) ?_
   have Fo:dz L2 (nC (nd ns k))=.iface 129 (vP b12):=by unfold nC;rw [ol hL2,hk1];rfl
   refine aj.j8 4 (d:=none) (t:=120) (K:=3) (E:=124) (b:=m3) (n:=S.idx.length) (f:=(aW (aV L2 S.idx))) (x:=(.tmp 82)) (ix:=(.tmp 84)) (y:=(.tmp 91)) (key:=.int .i64 ((nd ns k).id)) (u:=.iface 129 (vP b12)) (kl:=(.int .i64 (nd ns k).id)) (n':=(S.idx.length+1)) (f':=(aW (aV L2 (ins (nd ns k).id (nC (nd ns k)) S.idx)))) (fun _=>by kernel_rfl) (by kernel_rfl) (fun _=>by kernel_rfl) (fun _=>by kernel_rfl) (fun _=>by kernel_rfl) dQ Tryz.underlying120 (by unfold maxLen;omega) (gS pu) (by rw [eW,hni];rfl) (by rw [← Fo];exact rN hni) ?_
   refine NL (ai.np (ai.aN (NX (SR ?_))))
   refine gC 6 [] [(2,a_ 8 b8),(5,a_ 3 b7)] [(3,[(7,vI ((nd ns k).id))])] ?_
   refine NN (af.bP (S:=[pF b7 m3 t4 { S.X with last:=(nd ns k).id },qP b8 ns k Y]) [0,1,2,3,4,5,6,7,8,9,10] 10 [3,8] (by kernel_rfl) (by kernel_rfl) rfl (by kernel_rfl) ?_)
   refine gR 0 [10] (KH b1 b7 A ns c k++MF S ns k b7) [0,1,2,3,4,5,6,7,8,9] [(3,a_ 0 b7),(5,a_ 1 b8),(7,p_ ⟨[],none,none,none,some (vI (S.X.used+(((nd ns k).data.length:Nat):Int)))⟩ [(Value.int .i64 (IntKind.wrap .i64 (S.X.used+(((nd ns k).data.length:Nat):Int))))=(.int .i64 (S.X.used+(((nd ns k).data.length:Nat):Int)))] ⟨bD (by omega) (by omega) (by omega),trivial⟩)] ?_
   refine aL.last rfl rfl ?_
   refine gC 1 [] [(0,a_ 3 b7)] [(3,[(9,vI (S.X.used+(((nd ns k).data.length:Nat):Int)))])] ?_
   refine NL (ai.np (ai.aN (NX (af.region ?_))))
   refine gK 2 [(49,vI ↑(k+1))] [(0,p_ ⟨[],none,none,none,some (vI ↑(k+1))⟩ [(Value.int .i64 (IntKind.wrap .i64 (((k:Nat):Int)+1)))=(.int .i64 ↑(k+1))] ⟨bD (by omega) (by omega) (by omega),trivial⟩)] ?_
   refine NL (ai.dh [(3,.blk b7 [vI ((cC S (nd ns k)).X.cN),vI ((cC S (nd ns k)).X.cB),vI ((cC S (nd ns k)).X.cH),vI ((cC S (nd ns k)).X.cS),vI ((cC S (nd ns k)).X.cZ),.map (some m3),vP t4,vI ((cC S (nd ns k)).X.last),vI ((cC S (nd ns k)).X.ah),vI ((cC S (nd ns k)).X.used)] 126),(4,.abs (aJ Tryz.prog 3 m3 (aW (aV L2 (cC S (nd ns k)).idx)) ((cC S (nd ns k)).idx.length))),(5,.abs (bS 197 t4 (cC S (nd ns k)).X.cH (cC S (nd ns k)).ar (aV L2 (cC S (nd ns k)).us)))] (fun w hS=>by rw [show (cC S (nd ns k)).idx.length=S.idx.length+1 from iI _ _ _];exact hS) ?_)
   exact ai.turn ((k+1),(cC S (nd ns k)),L2) (idx:=[2,6,47,48,49]) (pk:=[2,3,4,5,1,0,6,7]) (show (((k+1))<=ns.length)/\(lT X ns ((k+1)) ((cC S (nd ns k)))) from ⟨by omega,xO hok (fun i hi=>(hd i hi).1) (by omega) hB⟩) (by show ns.length - ((k+1)) < ns.length - k;omega) (fun _=>by kernel_rfl) rfl (by kernel_rfl)
  refine SR (gK 2 [(92,.bool (decide (((nd ns k).kind:Int)=(3:Int))))] [] ?_)
  refine NN (af.aZ (p:=((nd ns k).kind:Int)=(3:Int)) (fun _=>by kernel_rfl) (fun hk3=>?_) (fun hk3=>?_))
  ·refine af.bP (S:=[pF b7 m3 t4 S.X,qP b8 ns k Y,yU b9 ns k]) [0,1,2,3,4,5,6,7,8,9,10,11,12] 10 [1,8,9] (by kernel_rfl) (by kernel_rfl) rfl (by kernel_rfl) ?_
   refine gR 0 [10,11,12] (ME b1 b7 b8 A ns c k++[(97,.map (some m3)),(99,vI ((nd ns k).id)),(103,.agg #[vI ((nd ns k).id),vI ((nd ns k).mode),vI ((nd ns k).uid),vI ((nd ns k).gid),vI ((nd ns k).sec),vI ((nd ns k).nano),vI 0,vI 0,.bool false,.string (nd ns k).target])]) [0,1,2,3,4,5,6,7,8,9] [(3,a_ 0 b7),(5,a_ 1 b8),(6,A_ 2 b9 9),(8,a_ 1 b8)] ?_
   refine mN [1,8,9] (fun b13=>[(104,vP b13)]) (fun _=>[]) (fun b13=>.blk b13 [vI ((nd ns k).id),vI ((nd ns k).mode),vI ((nd ns k).uid),vI ((nd ns k).gid),vI ((nd ns k).sec),vI ((nd ns k).nano),vI 0,vI 0,.bool false,.string (nd ns k).target] 134) (fun b13=>?_)
   refine aL.cut (ι:=Unit) (fr':=fun (_:Unit)=>(Hr b1 b7 b8 A ns c k++[(97,.map (some m3)),(99,vI ((nd ns k).id)),(105,.iface 132 (vP b13))])) (hp':=fun (_:Unit)=>(vZ b1 A ns c b7 m3 t4 S L R++[qP b8 ns k Y,yU b9 ns k,.blk b13 [vI ((nd ns k).id),vI ((nd ns k).mode),vI ((nd ns k).uid),vI ((nd ns k).gid),vI ((nd ns k).sec),vI ((nd ns k).nano),vI 0,vI 0,.bool false,.string (nd ns k).target] 134])) [1,8,9] rfl rfl ?_ rfl (fun _=>by kernel_rfl) ?_
   ·refine gK 1 [(105,.iface 132 (vP b13))] [] ?_
    refine NL ?_
    exact MD () [2,6,8,47,48,49,97,99,105] [0,1,2,3,4,5,6,7,8,9,10]
   rintro _
   refine aL.last rfl rfl ?_
   obtain⟨L2,hL2⟩:∃ L2:HL,L2=L.put (d8 (nd ns k)) b13 0 none 0:=⟨_,rfl⟩
   have hfr:=hB.fresh hok (by omega)
   refine aj.mem (fun w hS=>hS.tv hL2 hfr (o:=(ou (nd ns k))) (i:=4) (j:=10) (ix:=[0,1,2,3,5,6,7,8,9]) rfl rfl (by kernel_rfl) rfl (by show (nd ns k).kind≠0;rw [hk3];decide) ((wQ (L:=L2) (k:=(d8 (nd ns k))) (o:=(ou (nd ns k))) hk3).trans (by rfl)) (by show jZ (nd ns k).kind=_;rw [hk3]<;>rfl)) ?_
   refine aj.dh [(6,.abs (ax (bV ((cC S (nd ns k)).O) L2)))] (fun w hS=>hS.uq hL2 hfr (o:=(ou (nd ns k))) (i:=6) rfl (by show ¬ (nd ns k).kind=2;rw [hk3];decide)) ?_
   refine aj.dh [(5,.abs (ax (bC ((cC S (nd ns k)).O) L2)))] (fun w hS=>hS.AU hL2 (o:=(ou (nd ns k))) (i:=5) rfl (by show ¬ (nd ns k).kind=1;rw [hk3];decide)) ?_
   refine aj.dh [(3,.abs (aJ Tryz.prog 3 m3 (aW (aV L2 S.idx)) S.idx.length)),(4,.abs (bS 197 t4 S.X.cH S.ar (aV L2 S.us)))] (fun w hS=>by rw [gn hL2 hfr.idx,gn hL2 hfr.us];exact hS) ?_
   have Fo:dz L2 (nC (nd ns k))=.iface 132 (vP b13):=by unfold nC;rw [ol hL2,hk3];rfl
   refine aj.j8 3 (d:=none) (t:=120) (K:=3) (E:=124) (b:=m3) (n:=S.idx.length) (f:=(aW (aV L2 S.idx))) (x:=(.tmp 97)) (ix:=(.tmp 99)) (y:=(.tmp 105)) (key:=.int .i64 ((nd ns k).id)) (u:=.iface 132 (vP b13)) (kl:=(.int .i64 (nd ns k).id)) (n':=(S.idx.length+1)) (f':=(aW (aV L2 (ins (nd ns k).id (nC (nd ns k)) S.idx)))) (fun _=>by kernel_rfl) (by kernel_rfl) (fun _=>by kernel_rfl) (fun _=>by kernel_rfl) (fun _=>by kernel_rfl) dQ Tryz.underlying120 (by unfold maxLen;omega) (gS pu) (by rw [eW,hni];rfl) (by rw [← Fo];exact rN hni) ?_
   refine NL (ai.np (ai.aN (NX (SR ?_))))
   refine gC 6 [] [(2,a_ 8 b8),(5,a_ 2 b7)] [(2,[(7,vI ((nd ns k).id))])] ?_
   refine NN (af.bP (S:=[pF b7 m3 t4 { S.X with last:=(nd ns k).id },qP b8 ns k Y]) [0,1,2,3,4,5,6,7,8,9,10] 10 [2,8] (by kernel_rfl) (by kernel_rfl) rfl (by kernel_rfl) ?_)
   refine gR 0 [10] (KH b1 b7 A ns c k++MF S ns k b7) [0,1,2,3,4,5,6,7,8,9] [(3,a_ 0 b7),(5,a_ 1 b8),(7,p_ ⟨[],none,none,none,some (vI (S.X.used+(((nd ns k).data.length:Nat):Int)))⟩ [(Value.int .i64 (IntKind.wrap .i64 (S.X.used+(((nd ns k).data.length:Nat):Int))))=(.int .i64 (S.X.used+(((nd ns k).data.length:Nat):Int)))] ⟨bD (by omega) (by omega) (by omega),trivial⟩)] ?_
   refine aL.last rfl rfl ?_
   refine gC 1 [] [(0,a_ 2 b7)] [(2,[(9,vI (S.X.used+(((nd ns k).data.length:Nat):Int)))])] ?_
   refine NL (ai.np (ai.aN (NX (af.region ?_))))
   refine gK 2 [(49,vI ↑(k+1))] [(0,p_ ⟨[],none,none,none,some (vI ↑(k+1))⟩ [(Value.int .i64 (IntKind.wrap .i64 (((k:Nat):Int)+1)))=(.int .i64 ↑(k+1))] ⟨bD (by omega) (by omega) (by omega),trivial⟩)] ?_
   refine NL (ai.dh [(2,.blk b7 [vI ((cC S (nd ns k)).X.cN),vI ((cC S (nd ns k)).X.cB),vI ((cC S (nd ns k)).X.cH),vI ((cC S (nd ns k)).X.cS),vI ((cC S (nd ns k)).X.cZ),.map (some m3),vP t4,vI ((cC S (nd ns k)).X.last),vI ((cC S (nd ns k)).X.ah),vI ((cC S (nd ns k)).X.used)] 126),(3,.abs (aJ Tryz.prog 3 m3 (aW (aV L2 (cC S (nd ns k)).idx)) ((cC S (nd ns k)).idx.length))),(4,.abs (bS 197 t4 (cC S (nd ns k)).X.cH (cC S (nd ns k)).ar (aV L2 (cC S (nd ns k)).us)))] (fun w hS=>by rw [show (cC S (nd ns k)).idx.length=S.idx.length+1 from iI _ _ _];exact hS) ?_)
   exact ai.turn ((k+1),(cC S (nd ns k)),L2) (idx:=[2,6,47,48,49]) (pk:=[1,2,3,4,0,5,6,7]) (show (((k+1))<=ns.length)/\(lT X ns ((k+1)) ((cC S (nd ns k)))) from ⟨by omega,xO hok (fun i hi=>(hd i hi).1) (by omega) hB⟩) (by show ns.length - ((k+1)) < ns.length - k;omega) (fun _=>by kernel_rfl) rfl (by kernel_rfl)
  have lZ:(nd ns k).kind=2:=by omega
  refine af.bP (S:=[pF b7 m3 t4 S.X,qP b8 ns k Y,yU b9 ns k]) [0,1,2,3,4,5,6,7,8,9,10,11] 7 [1,8,9] (by kernel_rfl) (by kernel_rfl) rfl (by kernel_rfl) ?_
  refine gR 0 [7,8,9,10,11] (ME b1 b7 b8 A ns c k++[(69,.map (some m3)),(71,vI ((nd ns k).id)),(72,.agg #[vI ((nd ns k).id),vI ((nd ns k).mode),vI ((nd ns k).uid),vI ((nd ns k).gid),vI ((nd ns k).sec),vI ((nd ns k).nano),vI 0,vI 0,.bool false])]) [0,1,2,3,4,5,6] [(3,a_ 0 b7),(5,a_ 1 b8),(6,A_ 2 b9 9)] ?_
  refine aL.cut (ι:=Nat) (fr':=fun (m14:Nat)=>(Hr b1 b7 b8 A ns c k++[(69,.map (some m3)),(71,vI ((nd ns k).id)),(72,.agg #[vI ((nd ns k).id),vI ((nd ns k).mode),vI ((nd ns k).uid),vI ((nd ns k).gid),vI ((nd ns k).sec),vI ((nd ns k).nano),vI 0,vI 0,.bool false]),(73,.map (some m14))])) (hp':=fun (m14:Nat)=>(vZ b1 A ns c b7 m3 t4 S L R++[qP b8 ns k Y,yU b9 ns k,.abs (aJ Tryz.prog 9 m14 (fun _=>none) 0)])) [1,8,9] rfl rfl ?_ rfl (fun _=>by kernel_rfl) ?_
  ·refine aj.lC (d:=(some 73)) (t:=136) (fun _=>by kernel_rfl) Tryz.prog rfl 9 (fun m14=>?_)
   refine NL ?_
   exact MD m14 [2,6,8,47,48,49,69,71,72,73] [0,1,2,3,4,5,6,7,8,9,10]
  rintro m14
  refine aL.cut (ι:=Unit) (fr':=fun (_:Unit)=>(Hr b1 b7 b8 A ns c k++[(69,.map (some m3)),(71,vI ((nd ns k).id)),(74,.agg #[vI ((nd ns k).id),vI ((nd ns k).mode),vI ((nd ns k).uid),vI ((nd ns k).gid),vI ((nd ns k).sec),vI ((nd ns k).nano),vI 0,vI 0,.bool false,.map (some m14),.pointer none])])) (hp':=fun (_:Unit)=>(vZ b1 A ns c b7 m3 t4 S L R++[qP b8 ns k Y,yU b9 ns k,.abs (aJ Tryz.prog 9 m14 (fun _=>none) 0)])) [1,8,9] rfl rfl ?_ rfl (fun _=>by kernel_rfl) ?_
  ·refine gK 1 [(74,.agg #[vI ((nd ns k).id),vI ((nd ns k).mode),vI ((nd ns k).uid),vI ((nd ns k).gid),vI ((nd ns k).sec),vI ((nd ns k).nano),vI 0,vI 0,.bool false,.map (some m14),.pointer none])] [] ?_
   refine NL ?_
   exact MD () [2,6,8,47,48,49,69,71,74] [0,1,2,3,4,5,6,7,8,9,10]
  rintro _
  refine mN [1,8,9] (fun b15=>[(75,vP b15)]) (fun _=>[]) (fun b15=>.blk b15 [vI ((nd ns k).id),vI ((nd ns k).mode),vI ((nd ns k).uid),vI ((nd ns k).gid),vI ((nd ns k).sec),vI ((nd ns k).nano),vI 0,vI 0,.bool false,.map (some m14),.pointer none] 138) (fun b15=>?_)
  refine aL.cut (ι:=Unit) (fr':=fun (_:Unit)=>(Hr b1 b7 b8 A ns c k++[(69,.map (some m3)),(71,vI ((nd ns k).id)),(76,.iface 135 (vP b15))])) (hp':=fun (_:Unit)=>(vZ b1 A ns c b7 m3 t4 S L R++[qP b8 ns k Y,yU b9 ns k,.abs (aJ Tryz.prog 9 m14 (fun _=>none) 0),.blk b15 [vI ((nd ns k).id),vI ((nd ns k).mode),vI ((nd ns k).uid),vI ((nd ns k).gid),vI ((nd ns k).sec),vI ((nd ns k).nano),vI 0,vI 0,.bool false,.map (some m14),.pointer none] 138])) [1,8,9] rfl rfl ?_ rfl (fun _=>by kernel_rfl) ?_
  ·refine gK 1 [(76,.iface 135 (vP b15))] [] ?_
   refine NL ?_
   exact MD () [2,6,8,47,48,49,69,71,76] [0,1,2,3,4,5,6,7,8,9,10,11]
  rintro _
  refine aL.last rfl rfl ?_
  obtain⟨L2,hL2⟩:∃ L2:HL,L2=L.put (d8 (nd ns k)) b15 m14 none 0:=⟨_,rfl⟩
  have hfr:=hB.fresh hok (by omega)
  refine aj.mem (fun w hS=>hS.tv hL2 hfr (o:=(ou (nd ns k))) (i:=4) (j:=11) (ix:=[0,1,2,3,5,6,7,8,9,10]) rfl rfl (by kernel_rfl) rfl (by show (nd ns k).kind≠0;rw [lZ];decide) ((kP (L:=L2) (k:=(d8 (nd ns k))) (o:=(ou (nd ns k))) lZ).trans (by rw [ER hL2];rfl)) (by show jZ (nd ns k).kind=_;rw [lZ]<;>rfl)) ?_
  refine aj.mem (fun w hS=>hS.ND hL2 hfr (o:=(ou (nd ns k))) (i:=6) (j:=10) (ix:=[0,1,2,3,4,5,7,8,9]) rfl rfl (by kernel_rfl) rfl lZ rfl) ?_
  refine aj.dh [(6,.abs (ax (bC ((cC S (nd ns k)).O) L2)))] (fun w hS=>hS.AU hL2 (o:=(ou (nd ns k))) (i:=6) rfl (by show ¬ (nd ns k).kind=1;rw [lZ];decide)) ?_
  refine aj.dh [(4,.abs (aJ Tryz.prog 3 m3 (aW (aV L2 S.idx)) S.idx.length)),(5,.abs (bS 197 t4 S.X.cH S.ar (aV L2 S.us)))] (fun w hS=>by rw [gn hL2 hfr.idx,gn hL2 hfr.us];exact hS) ?_
  have Fo:dz L2 (nC (nd ns k))=.iface 135 (vP b15):=by unfold nC;rw [ol hL2,lZ];rfl
  refine aj.j8 4 (d:=none) (t:=120) (K:=3) (E:=124) (b:=m3) (n:=S.idx.length) (f:=(aW (aV L2 S.idx))) (x:=(.tmp 69)) (ix:=(.tmp 71)) (y:=(.tmp 76)) (key:=.int .i64 ((nd ns k).id)) (u:=.iface 135 (vP b15)) (kl:=(.int .i64 (nd ns k).id)) (n':=(S.idx.length+1)) (f':=(aW (aV L2 (ins (nd ns k).id (nC (nd ns k)) S.idx)))) (fun _=>by kernel_rfl) (by kernel_rfl) (fun _=>by kernel_rfl) (fun _=>by kernel_rfl) (fun _=>by kernel_rfl) dQ Tryz.underlying120 (by unfold maxLen;omega) (gS pu) (by rw [eW,hni];rfl) (by rw [← Fo];exact rN hni) ?_
  refine NL (ai.np (ai.aN (NX (SR ?_))))
  refine gC 6 [] [(2,a_ 8 b8),(5,a_ 3 b7)] [(3,[(7,vI ((nd ns k).id))])] ?_
  refine NN (af.bP (S:=[pF b7 m3 t4 { S.X with last:=(nd ns k).id },qP b8 ns k Y]) [0,1,2,3,4,5,6,7,8,9,10] 10 [3,8] (by kernel_rfl) (by kernel_rfl) rfl (by kernel_rfl) ?_)
  refine gR 0 [10] (KH b1 b7 A ns c k++MF S ns k b7) [0,1,2,3,4,5,6,7,8,9] [(3,a_ 0 b7),(5,a_ 1 b8),(7,p_ ⟨[],none,none,none,some (vI (S.X.used+(((nd ns k).data.length:Nat):Int)))⟩ [(Value.int .i64 (IntKind.wrap .i64 (S.X.used+(((nd ns k).data.length:Nat):Int))))=(.int .i64 (S.X.used+(((nd ns k).data.length:Nat):Int)))] ⟨bD (by omega) (by omega) (by omega),trivial⟩)] ?_
  refine aL.last rfl rfl ?_
  refine gC 1 [] [(0,a_ 3 b7)] [(3,[(9,vI (S.X.used+(((nd ns k).data.length:Nat):Int)))])] ?_
  refine NL (ai.np (ai.aN (NX (af.region ?_))))
  refine gK 2 [(49,vI ↑(k+1))] [(0,p_ ⟨[],none,none,none,some (vI ↑(k+1))⟩ [(Value.int .i64 (IntKind.wrap .i64 (((k:Nat):Int)+1)))=(.int .i64 ↑(k+1))] ⟨bD (by omega) (by omega) (by omega),trivial⟩)] ?_
  refine NL (ai.dh [(3,.blk b7 [vI ((cC S (nd ns k)).X.cN),vI ((cC S (nd ns k)).X.cB),vI ((cC S (nd ns k)).X.cH),vI ((cC S (nd ns k)).X.cS),vI ((cC S (nd ns k)).X.cZ),.map (some m3),vP t4,vI ((cC S (nd ns k)).X.last),vI ((cC S (nd ns k)).X.ah),vI ((cC S (nd ns k)).X.used)] 126),(4,.abs (aJ Tryz.prog 3 m3 (aW (aV L2 (cC S (nd ns k)).idx)) ((cC S (nd ns k)).idx.length))),(5,.abs (bS 197 t4 (cC S (nd ns k)).X.cH (cC S (nd ns k)).ar (aV L2 (cC S (nd ns k)).us)))] (fun w hS=>by rw [show (cC S (nd ns k)).idx.length=S.idx.length+1 from iI _ _ _];exact hS) ?_)
  exact ai.turn ((k+1),(cC S (nd ns k)),L2) (idx:=[2,6,47,48,49]) (pk:=[2,3,4,5,1,6,0,7]) (show (((k+1))<=ns.length)/\(lT X ns ((k+1)) ((cC S (nd ns k)))) from ⟨by omega,xO hok (fun i hi=>(hd i hi).1) (by omega) hB⟩) (by show ns.length - ((k+1)) < ns.length - k;omega) (fun _=>by kernel_rfl) rfl (by kernel_rfl)
 refine af.exit (ai.aX (ai.aX (ai.cP (NX (af.seq (SR ?_))))))
 refine gK 4 [(123,.slice A (ns.length) (c)),(124,vI ↑ns.length),(125,vI 0)] [(1,a_ 0 b1)] ?_
 refine NN (af.block ?_)
 refine af.loop (ι:=Nat×aG) (fun ((i,S1):Nat×aG)=>(i<=ns.length)/\(fe X ns i 0 S1)) (fun ((i,S1):Nat×aG)=>ns.length - i) (fun ((i,S1):Nat×aG)=>[(6,vP b7),(123,.slice A (ns.length) (c)),(124,vI ↑ns.length),(125,vI ↑i)]) (fun ((i,S1):Nat×aG)=>(vZ b1 A ns c b7 m3 t4 S1 L R)) (0,S) (idx:=[6,123,124,125]) (pk:=[0,1,2,3,4,5,6,7]) (show (0<=ns.length)/\(fe X ns 0 0 S) from ⟨Nat.zero_le _,by have h:=hB;rw [show k=ns.length by omega] at h;exact h.ah⟩) (fun _=>by kernel_rfl) rfl (by kernel_rfl) ?_
 rintro⟨i,S1⟩ ⟨hi,hE⟩
 show af _ _ _ _ [(6,vP b7),(123,.slice A (ns.length) (c)),(124,vI ↑ns.length),(125,vI ↑i)] (vZ b1 A ns c b7 m3 t4 S1 L R) _
 refine SR (gK 1 [(126,.bool (decide ((((i:Nat):Int):Int) < (((ns.length:Nat):Int):Int))))] [] ?_)
 refine NN (af.seq (af.aZ (p:=(((i:Nat):Int):Int) < (((ns.length:Nat):Int):Int)) (fun _=>by kernel_rfl) (fun TR=>?_) (fun TR=>?_)))
 ·refine af.skip (NX (af.seq (af.block (SR ?_))))
  refine gN 4 (fun b16=>[(11,vP b16)]) (fun b16=>[(0,p_ ⟨[],some i,none,some ⟨(av A),au A,none⟩,none⟩ [((i:Nat):Int)=((i:Nat):Int),i < ns.length,(⟨(av A),au A,none⟩:Addr).spot=none,(A:Option Addr)=some ⟨(av A),au A,none⟩] ⟨rfl,by omega,rfl,ay.hd hG (i:=i) (by omega),trivial⟩),(1,p_ ⟨[.old (.int .i64 ((nd ns i).id)),.old (.int .i64 ((nd ns i).kind)),.old (.int .i64 ((nd ns i).mode)),.old (.int .i64 ((nd ns i).uid)),.old (.int .i64 ((nd ns i).gid)),.old (.int .i64 ((nd ns i).sec)),.old (.int .i64 ((nd ns i).nano)),.old (.slice (Y.dA i) ((nd ns i).data.length) ((Y.dC i))),.old (.string (nd ns i).target),.old (.slice (Y.eA i) ((nd ns i).ah.length) ((Y.eC i)))],none,none,none,none⟩ [(Rd β ⟨(av A),au A+i * 10+9,none⟩ (.slice (Y.eA i) ((nd ns i).ah.length) ((Y.eC i)))),(Rd β ⟨(av A),au A+i * 10+8,none⟩ (.string (nd ns i).target)),(Rd β ⟨(av A),au A+i * 10+7,none⟩ (.slice (Y.dA i) ((nd ns i).data.length) ((Y.dC i)))),(Rd β ⟨(av A),au A+i * 10+6,none⟩ (.int .i64 ((nd ns i).nano))),(Rd β ⟨(av A),au A+i * 10+5,none⟩ (.int .i64 ((nd ns i).sec))),(Rd β ⟨(av A),au A+i * 10+4,none⟩ (.int .i64 ((nd ns i).gid))),(Rd β ⟨(av A),au A+i * 10+3,none⟩ (.int .i64 ((nd ns i).uid))),(Rd β ⟨(av A),au A+i * 10+2,none⟩ (.int .i64 ((nd ns i).mode))),(Rd β ⟨(av A),au A+i * 10+1,none⟩ (.int .i64 ((nd ns i).kind))),(Rd β ⟨(av A),au A+i * 10,none⟩ (.int .i64 ((nd ns i).id)))] ⟨ay.rd hG (i:=i) (by omega) (j:=9) rfl,ay.rd hG (i:=i) (by omega) (j:=8) rfl,ay.rd hG (i:=i) (by omega) (j:=7) rfl,ay.rd hG (i:=i) (by omega) (j:=6) rfl,ay.rd hG (i:=i) (by omega) (j:=5) rfl,ay.rd hG (i:=i) (by omega) (j:=4) rfl,ay.rd hG (i:=i) (by omega) (j:=3) rfl,ay.rd hG (i:=i) (by omega) (j:=2) rfl,ay.rd hG (i:=i) (by omega) (j:=1) rfl,ay.rd hG (i:=i) (by omega) (j:=0) rfl,trivial⟩),(3,A_ 8 b16 10)]) (fun _=>[]) (fun b16=>.blk b16 [vI ((nd ns i).id),vI ((nd ns i).kind),vI ((nd ns i).mode),vI ((nd ns i).uid),vI ((nd ns i).gid),vI ((nd ns i).sec),vI ((nd ns i).nano),.slice (Y.dA i) ((nd ns i).data.length) ((Y.dC i)),.string (nd ns i).target,.slice (Y.eA i) ((nd ns i).ah.length) ((Y.eC i))] 70) (fun b16=>?_)
  refine NS (gK 4 [(130,.slice (Y.eA i) ((nd ns i).ah.length) ((Y.eC i))),(131,vI ↑((nd ns i).ah.length)),(132,vI 0)] [(1,a_ 8 b16)] ?_)
  refine NN (af.block ?_)
  refine af.loop (ι:=Nat×aG) (fun ((j,S2):Nat×aG)=>(j<=(nd ns i).ah.length)/\(fe X ns i j S2)) (fun ((j,S2):Nat×aG)=>(nd ns i).ah.length - j) (fun ((j,S2):Nat×aG)=>(Ja b7 b16++NV A ns c i Y j)) (fun ((j,S2):Nat×aG)=>([qP b16 ns i Y]++vZ b1 A ns c b7 m3 t4 S2 L R)) (0,S1) (idx:=[6,11,123,124,125,130,131,132]) (pk:=[8,0,1,2,3,4,5,6,7]) (show (0<=(nd ns i).ah.length)/\(fe X ns i 0 S1) from ⟨Nat.zero_le _,hE⟩) (fun _=>by kernel_rfl) rfl (by kernel_rfl) ?_
  rintro⟨j,S2⟩ ⟨hj,qg⟩
  show af _ _ _ _ (Ja b7 b16++NV A ns c i Y j) ([qP b16 ns i Y]++vZ b1 A ns c b7 m3 t4 S2 L R) _
  refine SR (gK 1 [(133,.bool (decide ((((j:Nat):Int):Int) < ((((nd ns i).ah.length:Nat):Int):Int))))] [] ?_)
  refine NN (af.seq (af.aZ (p:=(((j:Nat):Int):Int) < ((((nd ns i).ah.length:Nat):Int):Int)) (fun _=>by kernel_rfl) (fun TS=>?_) (fun TS=>?_)))
  ·have hj2:j < (nd ns i).ah.length:=by omega
   have hi2:i < ns.length:=by omega
   have TU:=qg.get hi2
   obtain⟨hes,hno,hk2⟩:=qg.look hok hi2 hj2
   have Qz:=uJ hok hi2 hj2
   have hgi:aE.get S2.idx (nd ns i).id=some ⟨(d8 (nd ns i)),2⟩:=by rw [TU];unfold nC;rw [hk2]
   have hge:aE.get S2.idx (ent ns i j).id=some (lu ns (ent ns i j)):=by rw [← Qz.2];exact qg.get Qz.1
   have Mz:=hok.ids i hi2
   have hiw:(Lit.int .i64 (nd ns i).id).wf=true:=WalkArith.wf_i64 (by omega)
   have UI:(Lit.int .i64 (ent ns i j).id).wf=true:=WalkArith.wf_i64 (by have:=hwf i hi2 j hj2;omega)
   have hld:=qg.live hok hi2
   have hlt:=qg.live hok Qz.1
   have hkd:(obj S2.O (d8 (nd ns i))).kind=2:=(qg.inv.kind hld).trans hk2
   have hkt:(obj S2.O (lu ns (ent ns i j)).k).kind=(lu ns (ent ns i j)).kind:=qg.inv.kind hlt
   have h3:(lu ns (ent ns i j)).kind=1\/(lu ns (ent ns i j)).kind=2\/(lu ns (ent ns i j)).kind=3:=(qg.inv.ob _ hlt).2.2
   have hlb:0<=(obj S2.O (lu ns (ent ns i j)).k).links/\(obj S2.O (lu ns (ent ns i j)).k).links<=8192:=qg.inv.lb hlt
   have hel:(obj S2.O (d8 (nd ns i))).ah.length<=8192:=qg.inv.fV hld
   have hsz:=hnm i hi2 j hj2
   have hde:=hd i hi2
   have VU:=qg.inv.hX
   refine af.skip (NX (af.seq (af.block (SR ?_))))
   refine gN 4 (fun b17=>[(13,vP b17)]) (fun b17=>[(0,p_ ⟨[],some j,none,some ⟨(av (Y.eA i)),au (Y.eA i),none⟩,none⟩ [((j:Nat):Int)=((j:Nat):Int),j < (nd ns i).ah.length,(⟨(av (Y.eA i)),au (Y.eA i),none⟩:Addr).spot=none,((Y.eA i):Option Addr)=some ⟨(av (Y.eA i)),au (Y.eA i),none⟩] ⟨rfl,by omega,rfl,dN.hd (hG.ah i (by omega)) (i:=j) (by omega),trivial⟩),(1,p_ ⟨[.old (.string (en (nd ns i).ah j).name),.old (.int .i64 ((en (nd ns i).ah j).id))],none,none,none,none⟩ [(Rd β ⟨(av (Y.eA i)),au (Y.eA i)+j * 2+1,none⟩ (.int .i64 ((en (nd ns i).ah j).id))),(Rd β ⟨(av (Y.eA i)),au (Y.eA i)+j * 2,none⟩ (.string (en (nd ns i).ah j).name))] ⟨dN.rd (hG.ah i (by omega)) (i:=j) (by omega) (j:=1) rfl,dN.rd (hG.ah i (by omega)) (i:=j) (by omega) (j:=0) rfl,trivial⟩),(3,A_ 9 b17 2)]) (fun _=>[]) (fun b17=>.blk b17 [.string (en (nd ns i).ah j).name,vI ((en (nd ns i).ah j).id)] 140) (fun b17=>?_)
   refine NN (af.seq (af.bP (S:=[pF b7 m3 t4 S2.X,pI m3 L S2.idx,qP b16 ns i Y,.blk b17 [.string (en (nd ns i).ah j).name,vI ((en (nd ns i).ah j).id)] 140]) [0,1,2,3,4,5,6,7,8,9,10,11,12,13,14,15,16,17] 17 [2,3,0,9] (by kernel_rfl) (by kernel_rfl) rfl (by kernel_rfl) ?_))
   refine gR 11 [6,7,8,9,10,11,12,13,14,15,16,17] (Ja b7 b16++[(13,vP b17)]++NV A ns c i Y j++[(139,.map (some m3)),(141,vI ((nd ns i).id))]) [0,1,2,3,4,5] [(3,a_ 0 b7),(5,a_ 2 b16)] ?_
   refine aL.dW 1 (d:=(some 142)) (t:=120) (K:=3) (E:=124) (b:=m3) (cnt:=S2.idx.length) (f:=(aW (aV L S2.idx))) (x:=(.tmp 139)) (ix:=(.tmp 141)) (key:=.int .i64 ((nd ns i).id)) (z:=.nilIface) (kl:=(.int .i64 (nd ns i).id)) (q:=(some (dz L ⟨(d8 (nd ns i)),2⟩))) (by kernel_rfl) (by kernel_rfl) (fun _=>by kernel_rfl) (fun _=>by kernel_rfl) dQ Tryz.underlying120 (fun _=>by kernel_rfl) (gS hiw) (by rw [eW,hgi];rfl) (by kernel_rfl) ?_
   refine gR 1 [16,17] (Ja b7 b16++NV A ns c i Y j++[(143,vP (L.b (d8 (nd ns i)))),(145,.string (en (nd ns i).ah j).name),(149,.map (some m3)),(151,vI ((en (nd ns i).ah j).id))]) [7,8,9,10,11,12,13,14,15] [(2,a_ 3 b17),(6,a_ 0 b7),(8,a_ 3 b17)] ?_
   refine aL.dW 1 (d:=(some 152)) (t:=120) (K:=3) (E:=124) (b:=m3) (cnt:=S2.idx.length) (f:=(aW (aV L S2.idx))) (x:=(.tmp 149)) (ix:=(.tmp 151)) (key:=.int .i64 ((en (nd ns i).ah j).id)) (z:=.nilIface) (kl:=(.int .i64 (ent ns i j).id)) (q:=(some (dz L (lu ns (ent ns i j))))) (by kernel_rfl) (by kernel_rfl) (fun _=>by kernel_rfl) (fun _=>by kernel_rfl) dQ Tryz.underlying120 (fun _=>by kernel_rfl) (gS UI) (by rw [eW,hge];rfl) (by kernel_rfl) ?_
   refine aL.last rfl rfl ?_
   refine gL [5,7] (GJ S2.O L (d8 (nd ns i)) hkd (ent ns i j).name hsz hno (by omega) (lu ns (ent ns i j)) hkt h3 (by omega)) ?_
   rintro _ _ ⟨rfl,rfl⟩
   refine NL (ai.np (NX (af.region ?_)))
   refine gC 8 [] [(3,a_ 4 b7),(4,p_ ⟨[],none,none,none,some (vI (S2.X.ah+1))⟩ [(Value.int .i64 (IntKind.wrap .i64 (S2.X.ah+1)))=(.int .i64 (S2.X.ah+1))] ⟨bD (by omega) (by omega) (by omega),trivial⟩),(7,a_ 4 b7)] [(4,[(8,vI (S2.X.ah+1))])] ?_
   refine NL (ai.aN (NX (af.region ?_)))
   refine gK 2 [(132,vI ↑(j+1))] [(0,p_ ⟨[],none,none,none,some (vI ↑(j+1))⟩ [(Value.int .i64 (IntKind.wrap .i64 (((j:Nat):Int)+1)))=(.int .i64 ↑(j+1))] ⟨bD (by omega) (by omega) (by omega),trivial⟩)] ?_
   refine NL (ai.dh [(0,.abs (ax (bB ((kC ns S2 (nd ns i) (ent ns i j)).O) L))),(1,.abs (ax (bV ((kC ns S2 (nd ns i) (ent ns i j)).O) L))),(4,.blk b7 [vI ((kC ns S2 (nd ns i) (ent ns i j)).X.cN),vI ((kC ns S2 (nd ns i) (ent ns i j)).X.cB),vI ((kC ns S2 (nd ns i) (ent ns i j)).X.cH),vI ((kC ns S2 (nd ns i) (ent ns i j)).X.cS),vI ((kC ns S2 (nd ns i) (ent ns i j)).X.cZ),.map (some m3),vP t4,vI ((kC ns S2 (nd ns i) (ent ns i j)).X.last),vI ((kC ns S2 (nd ns i) (ent ns i j)).X.ah),vI ((kC ns S2 (nd ns i) (ent ns i j)).X.used)] 126),(5,.abs (aJ Tryz.prog 3 m3 (aW (aV L (kC ns S2 (nd ns i) (ent ns i j)).idx)) ((kC ns S2 (nd ns i) (ent ns i j)).idx.length))),(6,.abs (bS 197 t4 (kC ns S2 (nd ns i) (ent ns i j)).X.cH (kC ns S2 (nd ns i) (ent ns i j)).ar (aV L (kC ns S2 (nd ns i) (ent ns i j)).us))),(7,.abs (ax (bC ((kC ns S2 (nd ns i) (ent ns i j)).O) L)))] (fun w hS=>by rw [show bC (kC ns S2 (nd ns i) (ent ns i j)).O L=bC S2.O L from OO];exact hS) ?_)
   exact ai.turn ((j+1),(kC ns S2 (nd ns i) (ent ns i j))) (idx:=[6,11,123,124,125,130,131,132]) (pk:=[2,3,4,5,6,0,7,1,8]) (show (((j+1))<=(nd ns i).ah.length)/\(fe X ns i ((j+1)) ((kC ns S2 (nd ns i) (ent ns i j)))) from ⟨by omega,qg.step hok (by omega) (by omega)⟩) (by show (nd ns i).ah.length - ((j+1)) < (nd ns i).ah.length - j;omega) (fun _=>by kernel_rfl) rfl (by kernel_rfl)
  refine af.exit (ai.aX (ai.aX (ai.cP (ai.aN (NX (af.region ?_))))))
  refine gK 2 [(125,vI ↑(i+1))] [(0,p_ ⟨[],none,none,none,some (vI ↑(i+1))⟩ [(Value.int .i64 (IntKind.wrap .i64 (((i:Nat):Int)+1)))=(.int .i64 ↑(i+1))] ⟨bD (by omega) (by omega) (by omega),trivial⟩)] ?_
  refine NL ?_
  exact ai.turn ((i+1),S2) (idx:=[6,123,124,125]) (pk:=[1,2,3,4,5,6,7,8]) (show (((i+1))<=ns.length)/\(fe X ns ((i+1)) 0 S2) from ⟨by omega,by have h:=qg;rw [show j=(nd ns i).ah.length by omega] at h;exact h.next⟩) (by show ns.length - ((i+1)) < ns.length - i;omega) (fun _=>by kernel_rfl) rfl (by kernel_rfl)
 refine af.exit (ai.aX (ai.aX (ai.cP (NX (SR ?_)))))
 refine gK 3 [(4,vP b7),(5,vI 0)] [] ?_
 refine NN (af.ret ?_)
 exact RT (.tuple #[vP b7,vI 0]) [1,2,3,4,5,6,7] (.inr (.inr ⟨hcap,hok,S1,b7,m3,t4,L,by have h:=hE;rw [show i=ns.length by omega] at h;exact h,rfl,rfl⟩))
end
section
open Go.RowKit
theorem Jb {w:World} {o:Oper} {ev:Operand->Value} {x y:Operand} {a b c d:Int} (ho:o.op=.binOp .eql 26 x y 26) (hx:ev x=.agg #[.int .i64 a,.int .i64 b]) (hy:ev y=.agg #[.int .i64 c,.int .i64 d]) :
    ng Tryz.prog ev o w (.bool (decide (a=c/\b=d))) w:=by
  obtain⟨dst,op,type,pos,after,guard⟩:=o
  cases ho
  refine .inl ?_
  simp only [execOp,hx,hy]
  simp [go_sem]
  by_cases h1:a=c<;>by_cases h2:b=d<;>simp [h1,h2]
end
section
open Go.RowKit Go.Maps bG aE
attribute [local irreducible] aj aP af ai
theorem Fq {β:Bs} (c:aB) (A1 A2:Option Addr) (p1 p2:Nat) (h1:bg β A1 c.data) (h2:bg β A2 c.data) (hl:c.data.length<=140737488355328) :
    Spec Tryz.prog β 23 #[.agg #[vI (c.op),vI (c.handle),vI (c.other),.string c.name,.string c.text,.slice A1 (c.data.length) (p1),vI (c.mode),vI (c.uid),vI (c.gid),vI (c.sec),vI (c.nano),vI (c.code),vI (c.answer)],.agg #[vI (c.op),vI (c.handle),vI (c.other),.string c.name,.string c.text,.slice A2 (c.data.length) (p2),vI (c.mode),vI (c.uid),vI (c.gid),vI (c.sec),vI (c.nano),vI (c.code),vI (c.answer)]] [] (fun v l=>v=.bool true/\l=[]):=by
 refine Spec.enter Tryz.func23 rfl Tryz.ntmps23 (Nat.le_of_ble_eq_true rfl) (fun R=>?_)
 refine SR (gN 1 (fun b1=>[(2,vP b1)]) (fun _=>[]) (fun _=>[]) (fun b1=>.blk b1 [vI (c.op),vI (c.handle),vI (c.other),.string c.name,.string c.text,.slice A1 (c.data.length) (p1),vI (c.mode),vI (c.uid),vI (c.gid),vI (c.sec),vI (c.nano),vI (c.code),vI (c.answer)] 48) (fun b1=>?_))
 refine gN 2 (fun b2=>[(3,vP b2)]) (fun _=>[]) (fun _=>[]) (fun b2=>.blk b2 [vI (c.op),vI (c.handle),vI (c.other),.string c.name,.string c.text,.slice A2 (c.data.length) (p2),vI (c.mode),vI (c.uid),vI (c.gid),vI (c.sec),vI (c.nano),vI (c.code),vI (c.answer)] 48) (fun b2=>?_)
 refine NS (gK 59 [(59,.bool true),(61,.agg #[vI (c.sec),vI (c.nano)]),(63,.agg #[vI (c.sec),vI (c.nano)])] [(1,a_ 1 b1),(3,a_ 2 b2),(4,p_ ⟨[],none,none,none,some (.bool true)⟩ [(Value.bool (decide ((c.op:Int)=(c.op:Int))))=(.bool true)] ⟨by simp,trivial⟩),(7,a_ 1 b1),(9,a_ 2 b2),(10,p_ ⟨[],none,none,none,some (.bool true)⟩ [(Value.bool (decide ((c.handle:Int)=(c.handle:Int))))=(.bool true)] ⟨by simp,trivial⟩),(14,a_ 1 b1),(16,a_ 2 b2),(17,p_ ⟨[],none,none,none,some (.bool true)⟩ [(Value.bool (decide ((c.other:Int)=(c.other:Int))))=(.bool true)] ⟨by simp,trivial⟩),(21,a_ 1 b1),(23,a_ 2 b2),(24,p_ ⟨[],none,none,none,some (.bool true)⟩ [(Value.bool ((c.name:ByteArray).toList == (c.name:ByteArray).toList))=(.bool true)] ⟨by simp,trivial⟩),(28,a_ 1 b1),(30,a_ 2 b2),(31,p_ ⟨[],none,none,none,some (.bool true)⟩ [(Value.bool ((c.text:ByteArray).toList == (c.text:ByteArray).toList))=(.bool true)] ⟨by simp,trivial⟩),(35,a_ 1 b1),(37,a_ 2 b2),(38,p_ ⟨[],none,none,none,some (.bool true)⟩ [(Value.bool (decide ((c.mode:Int)=(c.mode:Int))))=(.bool true)] ⟨by simp,trivial⟩),(42,a_ 1 b1),(44,a_ 2 b2),(45,p_ ⟨[],none,none,none,some (.bool true)⟩ [(Value.bool (decide ((c.uid:Int)=(c.uid:Int))))=(.bool true)] ⟨by simp,trivial⟩),(49,a_ 1 b1),(51,a_ 2 b2),(52,p_ ⟨[],none,none,none,some (.bool true)⟩ [(Value.bool (decide ((c.gid:Int)=(c.gid:Int))))=(.bool true)] ⟨by simp,trivial⟩),(56,A_ 1 b1 2),(58,A_ 2 b2 2)] ?_)
 refine aj.je (d:=(some 64)) (op:=.binOp .eql 26 (.tmp 61) (.tmp 63) 26) (v:=.bool (decide ((c.sec:Int)=(c.sec:Int)/\(c.nano:Int)=(c.nano:Int)))) (fun _=>by kernel_rfl) (fun o junk w ho hS=>⟨w,Jb ho (by kernel_rfl) (by kernel_rfl),hS⟩) ?_
 refine aj.slot 64 (.bool (decide ((c.sec:Int)=(c.sec:Int)/\(c.nano:Int)=(c.nano:Int)))) (.bool true) (fun _=>by kernel_rfl) (congrArg Value.bool (by simp)) ?_
 refine gK 20 [(80,.bool true),(82,.slice A1 (c.data.length) (p1)),(84,.slice A2 (c.data.length) (p2))] [(3,a_ 1 b1),(5,a_ 2 b2),(6,p_ ⟨[],none,none,none,some (.bool true)⟩ [(Value.bool (decide ((c.code:Int)=(c.code:Int))))=(.bool true)] ⟨by simp,trivial⟩),(10,a_ 1 b1),(12,a_ 2 b2),(13,p_ ⟨[],none,none,none,some (.bool true)⟩ [(Value.bool (decide ((c.answer:Int)=(c.answer:Int))))=(.bool true)] ⟨by simp,trivial⟩),(17,a_ 1 b1),(19,a_ 2 b2)] ?_
 refine gL [] (wG A1 A2 p1 p2 c.data c.data h1 h2 hl) ?_
 rintro _ _ ⟨rfl,rfl⟩
 refine gK 2 [(4,.bool (decide (c.data=c.data)))] [] ?_
 refine NN (af.ret ?_)
 exact RT (.bool (decide (c.data=c.data))) [0] (⟨congrArg Value.bool (decide_eq_true rfl),rfl⟩)
end
section
open Go.RowKit Go.WideShapes Go.ChangeShapes Go.ChangeAt Go.Deep
theorem laidOut:laidOutB Tryz.prog=true:=by kernel_rfl
theorem own:ownKnob Tryz.prog.godebug=none:=by kernel_rfl
section row
variable {H:Type} {enc:TypeId×Value->H} {P:Program}
theorem wg (hl:laidOutB P=true) {W W':World} (hb:Below W.heap.size W W') {sp:Nat->Bool}:∀ {ts:List TypeId} {vs:List Value} {ds:List (DataW H)} {ps:List MemPlace},
    (∀ t∈ts,P.readableRec t=true/\t < P.types.size)->DataW.TrodAll enc P W 0 (fun _=>true) true ts vs ds ps->(∀ x∈ps,x.block < W.heap.size)->(∀ x∈ps,sp x.block=true)->DataW.TrodAll enc P W' 0 sp true ts vs ds ps
  | [],vs,ds,ps,_,h,_,_=>by
    obtain⟨rfl,rfl,rfl⟩:=trodAll_nil h
    exact trodAll_mk0
  | t::ts,vs,ds,ps,hr,h,hlt,hsp=>by
    obtain⟨v,vs',d,ds',p,q,rfl,rfl,rfl,h1,h2⟩:=trodAll_cons h
    have h3:=hr t List.mem_cons_self
    exact trodAll_cons_mk (WideElems.Trod_stays hl h3.1 h3.2 h1 (fun x hx=>hb.same (hlt x (List.mem_append.2 (.inl hx)))) (fun x hx=>hsp x (List.mem_append.2 (.inl hx))))
      (wg hl hb (fun t ht=>hr t (List.mem_cons_of_mem _ ht)) h2 (fun x hx=>hlt x (List.mem_append.2 (.inr hx))) (fun x hx=>hsp x (List.mem_append.2 (.inr hx))))
def TV (P:Program) (f:Func):Bool:=f.params.toList.all fun t=>P.readableRec t && decide (t < P.types.size)
theorem law_post (hl:laidOutB P=true) {f:Func} {s:ChangeSpec} {apart fresh handsOn again:Bool} {W W':World} {args:Array Value} {ds gs:List (DataW H)} {before:List MemPlace} {tb:TypeId} {rb:Bool}
    (hW:DataW.Whole enc P f.params.toList s.vars apart W args.toList ds gs before) (hvars:s.vars=[]) (hrow:TV P f=true) (hres:f.resultTypes=#[tb]) (hb0:P.underlying tb=some .bool)
    (hfn:(s.fn H (ds++gs)).results=[.lit (.bool rb)]) (hargs:(s.fn H (ds++gs)).args=ds) (hv:(s.fn H (ds++gs)).vars=[]) (hb:Below W.heap.size W W') :
    s.post enc P f apart fresh handsOn again W args (.bool rb) W':=by
  have hW':=hW
  obtain⟨p,q,hA,hV,rfl,_,_⟩:=hW
  rw [hvars] at hV
  obtain⟨rfl,rfl⟩:=trodVars_none hV
  have hlt:∀ x∈p,x.block < W.heap.size:=fun x hx=>hW'.lt x (List.mem_append.2 (.inl hx))
  have hr:∀ t∈f.params.toList,P.readableRec t=true/\t < P.types.size:=fun t ht=>by
    have:=List.all_eq_true.1 hrow t ht
    simpa using this
  refine DL (pa:=p) (pv:=[]) hW' (fun b sp hd=>?_) (fun sp hsp=>?_) (fun sp _=>?_) (by simp) hb ?_
  ·rw [hfn,hres]
   exact trodAll_cons_mk (shut_bool hb0 _) trodAll_mk0
  ·rw [hargs]
   exact wg hl hb hr hA hlt (fun x hx=>hsp x (List.mem_append.2 (.inl hx)))
  ·rw [hvars,hv]
   exact rfl
  exact ok_one hres rfl (okWide_bool_mk hb0 _)
end row
end
section
open Go.RowKit Go.WideShapes Go.ChangeShapes Go.ChangeAt Go.Deep
abbrev B0 (W:World):Bs:=⟨(· < W.heap.size),W⟩
theorem Ht {w:World} {a:Addr} {v:Value} (h:w.cell? a=some v):a.block < w.heap.size:=by
  unfold World.cell? at h
  split at h
  ·rename_i hb;exact lt_of_some hb
  cases h
theorem KI {w:World} {a:Addr} {v:Value} (h:w.cell? a=some v):a.spot=none:=by
  unfold World.cell? at h
  split at h
  ·split at h
   ·cases h
   rename_i h0
   cases hs:a.spot with
   | none=>rfl
   | some x=>rw [hs] at h0;exact absurd rfl h0
  cases h
theorem add_plain {a:Addr} (k:Nat) (h:a.spot=none):a.add k=⟨a.block,a.off+k,none⟩:=by
  obtain⟨b,o,s⟩:=a
  cases h
  unfold Addr.add
  split
  ·rename_i h0;subst h0;rfl
  rfl
theorem vD {H:Type} {D:Nat->DataW H} {n i:Nat} (hi:i < n):Rows.uptoBulk (D i)<=Rows.uptoBulkAll ((List.range n).map D):=by
  have hm:D i∈(List.range n).map D:=List.mem_map.2 ⟨i,List.mem_range.2 hi,rfl⟩
  generalize (List.range n).map D=l at hm
  induction l with
  | nil=>cases hm
  | cons x r ih=>
    simp only [Rows.uptoBulkAll]
    rcases List.mem_cons.1 hm with e|hm
    ·subst e;omega
    have:=ih hm;omega
theorem MG {H:Type} (d:DataW H):1<=Rows.uptoBulk d:=by
  cases d with
  | lit l=>cases l<;>simp [Rows.uptoBulk]
  | nil=>simp [Rows.uptoBulk]
  | ptr d=>simp [Rows.uptoBulk]
  | slice elems spare=>simp [Rows.uptoBulk]
  | agg parts=>simp [Rows.uptoBulk]
  | iface t d=>simp [Rows.uptoBulk]
  | map entries=>simp [Rows.uptoBulk]
  | held h=>simp [Rows.uptoBulk]
theorem pQ {H:Type} (l:List (DataW H)):l.length<=Rows.uptoBulkAll l:=by
  induction l with
  | nil=>simp [Rows.uptoBulkAll]
  | cons x r ih=>have:=MG x;simp only [Rows.uptoBulkAll,List.length_cons];omega
theorem bulk_mem {H:Type} {d:DataW H} {l:List (DataW H)} (h:d∈l):Rows.uptoBulk d<=Rows.uptoBulkAll l:=by
  induction l with
  | nil=>cases h
  | cons x r ih=>
    simp only [Rows.uptoBulkAll]
    rcases List.mem_cons.1 h with e|h
    ·subst e;omega
    have:=ih h;omega
section open_
variable {H:Type} {enc:TypeId×Value->H} {P:Program} {W:World} {sp:Nat->Bool}
theorem pR {α:Type} [Inhabited α] {t e:TypeId} {size:Nat} {f:α->List Value} {Q:α->DataW H->Prop} (ht:P.underlying t=some (.slice e)) (hC:P.cellsOf e=size) (h0:0 < size)
    (hel:∀ n cs x,DataW.trod enc P W 0 sp true n e cs=some x->∃ a,cs=f a/\Q a x.1) (hf:∀ a,(f a).length=size)
    {fuel:Nat} {cs:List Value} {x:DataW H×List MemPlace} (h:DataW.trod enc P W 0 sp true fuel t cs=some x) :
    ∃ A c,∃ xs:List α,∃ D:Nat->DataW H,cs=[.slice A xs.length c]/\xs.length<=c/\c<=maxLen/\cM (B0 W) A (cY (fun _ a=>f a) 0 xs)/\(∀ i,i < xs.length->Q (xs.getD i default) (D i)) ∧
      Rows.uptoBulkAll ((List.range xs.length).map D)+1<=Rows.uptoBulk x.1:=by
  rcases open_slice ht h with ⟨hv,hx⟩|⟨a,len,cap,m,n,D,Pl,hcs,hb,hl,hm,hmm,hx,hi⟩
  ·subst hv
   refine⟨none,0,[],fun _=>.nil,rfl,Nat.le_refl _,Nat.zero_le _,fun j v hj=>by simp [cY] at hj,fun i hi=>absurd hi (Nat.not_lt_zero i),?_⟩
   rw [hx]
   simp [Rows.uptoBulk,Rows.uptoBulkAll]
  have VW:len<=m:=by rw [hmm];split<;>omega
  have hch:∀ i,∃ b:α,i < len->(W.cells? 0 (a.add (i * P.cellsOf e)) (P.cellsOf e)=some (f b)/\Q b (D i)):=fun i=>by
    by_cases hil:i < len
    ·obtain⟨cs',h1,h2⟩:=hi i (by omega)
     obtain⟨b,rfl,h3⟩:=hel _ _ _ h2
     exact⟨b,fun _=>⟨h1,h3⟩⟩
    exact⟨default,fun h=>absurd h hil⟩
  have hg:=fun i=>Classical.choose_spec (hch i)
  generalize hG:(fun i=>Classical.choose (hch i))=g at hg
  have hg:∀ i,i < len->W.cells? 0 (a.add (i * P.cellsOf e)) (P.cellsOf e)=some (f (g i))/\Q (g i) (D i):=fun i hi=>by
    have h1:=hg i hi
    have h2:Classical.choose (hch i)=g i:=congrFun hG i
    rw [h2] at h1
    exact h1
  have hlen:((List.range len).map g).length=len:=by simp
  have hget:∀ i,i < len->((List.range len).map g)[i]?=some (g i):=fun i hi=>by simp [hi]
  have RV:∀ i,i < len->((List.range len).map g).getD i default=g i:=fun i hi=>by rw [List.getD_eq_getElem?_getD,hget i hi];rfl
  have hs1:0 < len->a.spot=none:=fun hl0=>by
    obtain⟨h2,-⟩:=hg 0 hl0
    rw [hC] at h2
    obtain⟨_,hcl,hat⟩:=World.cells?_some h2
    have h3:=hat 0 h0
    rw [List.getElem?_eq_getElem (by rw [hcl];exact h0)] at h3
    have e:(a.add (0 * size)).add 0=a:=by rw [Nat.zero_mul];rfl
    rw [e] at h3
    exact KI h3
  refine⟨some a,cap,(List.range len).map g,D,by rw [hlen];exact hcs,by rw [hlen];exact hl,hm,fun j v hj=>?_,fun i hi'=>?_,?_⟩
  ·have hfl:=wz (f:=fun _ a=>f a) (s:=size) (fun _ a=>hf a) ((List.range len).map g) 0
   have hjl:=bw hj
   rw [hfl,hlen] at hjl
   have nW:j / size < len:=(Nat.div_lt_iff_lt_mul h0).2 hjl
   have hj2:j % size < size:=Nat.mod_lt _ h0
   have e:=Nat.div_add_mod j size
   rw [Nat.mul_comm] at e
   have h1:=qc (f:=fun _ a=>f a) (s:=size) (fun _ a=>hf a) _ 0 _ (j % size) _ (hget _ nW) hj2
   rw [e,hj] at h1
   obtain⟨h2,-⟩:=hg _ nW
   rw [hC] at h2
   obtain⟨_,_,hat⟩:=World.cells?_some h2
   have h3:=hat _ hj2
   rw [← h1] at h3
   have hs1:=hs1 (Nat.lt_of_le_of_lt (Nat.zero_le _) nW)
   rw [add_plain _ hs1] at h3
   rw [add_plain (a:=⟨a.block,a.off+j / size * size,none⟩) _ rfl] at h3
   have e2:a.off+j / size * size+j % size=a.off+j:=by omega
   have h4:W.cell? ⟨a.block,a.off+j,none⟩=some v:=by rw [← e2];exact h3
   have ea:(some a:Option Addr)=some ⟨av (some a),au (some a),none⟩:=by
     obtain⟨b,o,s⟩:=a
     cases hs1
     rfl
   exact⟨ea,Ht h4,h4⟩
  ·rw [hlen] at hi'
   rw [RV i hi']
   exact (hg i hi').2
  rw [hx,hlen]
  simp only [Rows.uptoBulk]
  omega
theorem OQ {t:TypeId} {n:Nat} {cs:List Value} {x:DataW H×List MemPlace} (ht:P.underlying t=some (.int .u8)) (h:DataW.trod enc P W 0 sp true n t cs=some x):∃ b:UInt8,cs=[uQ b]/\True:=by
  obtain⟨z,h1,_,h3⟩:=DataW.trod_int ht h
  have h4:0<=z/\z<=255:=by simpa [Lit.wf,IntKind.min,IntKind.max,IntKind.signed,IntKind.bits] using h3
  refine⟨UInt8.ofNat z.toNat,?_,trivial⟩
  have e:(((UInt8.ofNat z.toNat).toNat:Nat):Int)=z:=by
    rw [UInt8.toNat_ofNat']
    omega
  rw [uQ,e]
  exact h1
def qQ (z:Int):Prop:=-9223372036854775808<=z/\z<=9223372036854775807
theorem iJ {t:TypeId} {n:Nat} {c:Value} {x:DataW H×List MemPlace} (ht:P.underlying t=some (.int .i64)) (h:DataW.trod enc P W 0 sp true n t [c]=some x):∃ z,c=.int .i64 z/\qQ z:=by
  obtain⟨z,h1,_,h3⟩:=DataW.trod_int ht h
  cases h1
  exact⟨z,rfl,by unfold qQ;simpa [Lit.wf,IntKind.min,IntKind.max,IntKind.signed,IntKind.bits] using h3⟩
theorem nS {t:TypeId} {n:Nat} {c:Value} {x:DataW H×List MemPlace} (ht:P.underlying t=some .string) (h:DataW.trod enc P W 0 sp true n t [c]=some x):∃ s:ByteArray,c=.string s/\s.size+1<=Rows.uptoBulk x.1:=by
  obtain⟨s,h1,h2,_⟩:=DataW.trod_string ht h
  cases h1
  refine⟨s,rfl,?_⟩
  rw [h2]
  simp only [Rows.uptoBulk,Array.length_toList]
  exact Nat.le_refl _
end open_
section graph
variable {H:Type} {enc:TypeId×Value->H} {W:World} {sp:Nat->Bool}
theorem Bn:∀ (d:List UInt8) (k:Nat),cY (fun _ b=>[uQ b]) k d=bX d
  | [],_=>rfl
  | b::r,k=>by rw [cY,Bn r (k+1)];rfl
theorem Bo {n:Nat} {c:Value} {x:DataW H×List MemPlace} (h:DataW.trod enc Tryz.prog W 0 sp true n 46 [c]=some x) :
    ∃ A cp,∃ d:List UInt8,c=.slice A d.length cp/\bg (B0 W) A d/\d.length+1<=Rows.uptoBulk x.1:=by
  obtain⟨A,cp,xs,D,h1,_,_,h2,_,h3⟩:=pR (α:=UInt8) (f:=fun b=>[uQ b]) (Q:=fun _ _=>True) Tryz.underlying46 (size:=1) (by kernel_rfl) (by decide) (fun n cs x h=>OQ Tryz.underlying5 h) (fun _=>rfl) h
  cases h1
  have:=pQ ((List.range xs.length).map D)
  refine⟨A,cp,xs,rfl,?_,by simp at this;omega⟩
  rw [Bn] at h2
  exact h2
structure Jc (e:jj) (b:Nat):Prop where
  id:qQ e.id
  name:e.name.size+1<=b
theorem aY {n:Nat} {cs:List Value} {xs:List (DataW H×List MemPlace)} {i:Nat} {t:TypeId} (h:DataW.trod enc Tryz.prog W 0 sp true n t cs=xs[i]?) (hi:i < xs.length):DataW.trod enc Tryz.prog W 0 sp true n t cs=some xs[i]/\Rows.uptoBulk (xs[i]).1<=Rows.uptoBulk (.agg (xs.map (·.1))):=by
  refine⟨h.trans (List.getElem?_eq_getElem hi),?_⟩
  have hm:(xs[i]).1∈xs.map (·.1):=List.mem_map.2 ⟨xs[i],List.getElem_mem hi,rfl⟩
  have:=bulk_mem hm
  simp only [Rows.uptoBulk]
  omega
theorem MH {n:Nat} {cs:List Value} {x:DataW H×List MemPlace} (h:DataW.trod enc Tryz.prog W 0 sp true n 140 cs=some x):∃ e:jj,cs=zf e/\Jc e (Rows.uptoBulk x.1):=by
  obtain⟨ys,m,_,hx,hl,oY,hf⟩:=DataW.trod_struct Tryz.underlying140 h
  have hC:Tryz.prog.cellsOf 140=2:=by kernel_rfl
  rw [hC] at hl
  match cs,hl with
  | [c0,c1],_=>
    obtain⟨h0,b0⟩:=aY (hf 0 _ rfl) (by rw [oY];decide)
    obtain⟨h1,_⟩:=aY (hf 1 _ rfl) (by rw [oY];decide)
    obtain⟨s,rfl,hs⟩:=nS Tryz.underlying9 h0
    obtain⟨z,rfl,hz⟩:=iJ Tryz.underlying3 h1
    exact⟨⟨s,z⟩,rfl,⟨hz,by rw [hx];exact Nat.le_trans hs b0⟩⟩
theorem KJ {n:Nat} {c:Value} {x:DataW H×List MemPlace} (h:DataW.trod enc Tryz.prog W 0 sp true n 68 [c]=some x) :
    ∃ A cp,∃ es:List jj,c=.slice A es.length cp/\dN (B0 W) A es/\es.length+1<=Rows.uptoBulk x.1/\∀ i,i < es.length->Jc (en es i) (Rows.uptoBulk x.1):=by
  obtain⟨A,cp,xs,D,h1,_,_,h2,h4,h3⟩:=pR (α:=jj) (f:=zf) (Q:=fun e d=>Jc e (Rows.uptoBulk d)) Tryz.underlying68 (size:=2) (by kernel_rfl) (by decide) (fun n cs x h=>MH h) (fun _=>rfl) h
  cases h1
  have h5:=pQ ((List.range xs.length).map D)
  refine⟨A,cp,xs,rfl,h2,by simp at h5;omega,fun i hi=>⟨(h4 i hi).id,?_⟩⟩
  have h6:=(h4 i hi).name
  have h7:=vD (D:=D) hi
  unfold en
  omega
structure NW (nd:aK) (b:Nat):Prop where
  ids:qQ nd.id/\qQ nd.kind/\qQ nd.mode/\qQ nd.uid/\qQ nd.gid/\qQ nd.sec/\qQ nd.nano
  data:nd.data.length+1<=b
  target:nd.target.size+1<=b
  ah:nd.ah.length+1<=b
  ent:∀ i,i < nd.ah.length->Jc (en nd.ah i) b
structure Bp where
  n:aK
  dA:Option Addr
  dC:Nat
  eA:Option Addr
  eC:Nat
deriving Inhabited
def QA (a:Bp):List Value:=[.int .i64 a.n.id,.int .i64 a.n.kind,.int .i64 a.n.mode,.int .i64 a.n.uid,.int .i64 a.n.gid,.int .i64 a.n.sec,.int .i64 a.n.nano,.slice a.dA a.n.data.length a.dC,.string a.n.target,.slice a.eA a.n.ah.length a.eC]
structure NY (W:World) (a:Bp) (b:Nat):Prop where
  nb:NW a.n b
  data:bg (B0 W) a.dA a.n.data
  ah:dN (B0 W) a.eA a.n.ah
theorem KL {n:Nat} {cs:List Value} {x:DataW H×List MemPlace} (h:DataW.trod enc Tryz.prog W 0 sp true n 70 cs=some x):∃ a:Bp,cs=QA a/\NY W a (Rows.uptoBulk x.1):=by
  obtain⟨ys,m,_,hx,hl,oY,hf⟩:=DataW.trod_struct Tryz.underlying70 h
  have hC:Tryz.prog.cellsOf 70=10:=by kernel_rfl
  rw [hC] at hl
  match cs,hl with
  | [c0,c1,c2,c3,c4,c5,c6,c7,c8,c9],_=>
    obtain⟨h0,_⟩:=aY (hf 0 _ rfl) (by rw [oY];decide)
    obtain⟨h1,_⟩:=aY (hf 1 _ rfl) (by rw [oY];decide)
    obtain⟨h2,_⟩:=aY (hf 2 _ rfl) (by rw [oY];decide)
    obtain⟨h3,_⟩:=aY (hf 3 _ rfl) (by rw [oY];decide)
    obtain⟨h4,_⟩:=aY (hf 4 _ rfl) (by rw [oY];decide)
    obtain⟨h5,_⟩:=aY (hf 5 _ rfl) (by rw [oY];decide)
    obtain⟨h6,b6⟩:=aY (hf 6 _ rfl) (by rw [oY];decide)
    obtain⟨h7,b7⟩:=aY (hf 7 _ rfl) (by rw [oY];decide)
    obtain⟨h8,b8⟩:=aY (hf 8 _ rfl) (by rw [oY];decide)
    obtain⟨z0,rfl,w0⟩:=iJ Tryz.underlying3 h0
    obtain⟨z1,rfl,w1⟩:=iJ Tryz.underlying3 h1
    obtain⟨z2,rfl,w2⟩:=iJ Tryz.underlying3 h2
    obtain⟨z3,rfl,w3⟩:=iJ Tryz.underlying3 h3
    obtain⟨z4,rfl,w4⟩:=iJ Tryz.underlying3 h4
    obtain⟨us,_,_,_,_,qz,hu⟩:=DataW.trod_struct Tryz.underlying26 h5
    obtain⟨g0,_⟩:=aY (hu 0 _ rfl) (by rw [qz];decide)
    obtain⟨g1,_⟩:=aY (hu 1 _ rfl) (by rw [qz];decide)
    obtain⟨z5,rfl,w5⟩:=iJ (c:=c5) Tryz.underlying3 g0
    obtain⟨z6,rfl,w6⟩:=iJ (c:=c6) Tryz.underlying3 g1
    obtain⟨A7,p7,d7,rfl,q7,l7⟩:=Bo (c:=c7) h6
    obtain⟨s8,rfl,l8⟩:=nS (c:=c8) Tryz.underlying9 h7
    obtain⟨A9,p9,e9,rfl,q9,l9,k9⟩:=KJ (c:=c9) h8
    rw [hx]
    exact⟨⟨⟨z0,z1,z2,z3,z4,z5,z6,d7,s8,e9⟩,A7,p7,A9,p9⟩,rfl,⟨⟨w0,w1,w2,w3,w4,w5,w6⟩,Nat.le_trans l7 b6,Nat.le_trans l8 b7,Nat.le_trans l9 b8,fun i hi=>⟨(k9 i hi).id,Nat.le_trans (k9 i hi).name b8⟩⟩,q7,q9⟩
structure fW (ns:List aK) (b:Nat):Prop where
  len:ns.length+1<=b
  node:∀ i,i < ns.length->NW (nd ns i) b
theorem Bq (L:Lay):∀ (xs:List Bp) (k:Nat),(∀ i,i < xs.length->L.dA (k+i)=(xs.getD i default).dA/\L.dC (k+i)=(xs.getD i default).dC/\L.eA (k+i)=(xs.getD i default).eA/\L.eC (k+i)=(xs.getD i default).eC)->cY (fun _ a=>QA a) k xs=cY (pV L) k (xs.map (·.n))
  | [],_,_=>rfl
  | a::r,k,h=>by
    obtain⟨h1,h2,h3,h4⟩:=h 0 (by simp)
    simp only [Nat.add_zero,List.getD_cons_zero] at h1 h2 h3 h4
    rw [cY,List.map_cons,cY,Bq L r (k+1) (fun i hi=>by
      have:=h (i+1) (by simp;omega)
      rw [List.getD_cons_succ] at this
      have e:k+(i+1)=k+1+i:=by omega
      rw [e] at this
      exact this)]
    rw [pV,h1,h2,h3,h4]
    rfl
theorem Jd {n:Nat} {c:Value} {x:DataW H×List MemPlace} (h:DataW.trod enc Tryz.prog W 0 sp true n 22 [c]=some x) :
    ∃ A cp,∃ ns:List aK,∃ L:Lay,c=.slice A ns.length cp/\ay (B0 W) A ns L/\fW ns (Rows.uptoBulk x.1):=by
  obtain⟨A,cp,xs,D,h1,_,_,h2,h4,h3⟩:=pR (α:=Bp) (f:=QA) (Q:=fun a d=>NY W a (Rows.uptoBulk d)) Tryz.underlying22 (size:=10) (by kernel_rfl) (by decide) (fun n cs x h=>KL h) (fun _=>rfl) h
  cases h1
  have h5:=pQ ((List.range xs.length).map D)
  have e:(xs.map (·.n)).length=xs.length:=by simp
  have hnd:∀ i,i < xs.length->nd (xs.map (·.n)) i=(xs.getD i default).n:=fun i hi=>by
    simp [nd,List.getD_eq_getElem?_getD,hi]
  refine⟨A,cp,xs.map (·.n),⟨fun i=>(xs.getD i default).dA,fun i=>(xs.getD i default).eA,fun i=>(xs.getD i default).dC,fun i=>(xs.getD i default).eC⟩,by rw [e],⟨?_,fun i hi=>?_,fun i hi=>?_⟩,by simp at h5;rw [e];omega,fun i hi=>?_⟩
  ·rw [Bq ⟨fun i=>(xs.getD i default).dA,fun i=>(xs.getD i default).eA,fun i=>(xs.getD i default).dC,fun i=>(xs.getD i default).eC⟩ xs 0 (fun i _=>by rw [Nat.zero_add];exact⟨rfl,rfl,rfl,rfl⟩)] at h2
   exact h2
  ·rw [e] at hi
   rw [hnd i hi]
   exact (h4 i hi).data
  ·rw [e] at hi
   rw [hnd i hi]
   exact (h4 i hi).ah
  rw [e] at hi
  rw [hnd i hi]
  have h7:=vD (D:=D) hi
  have h8:=(h4 i hi).nb
  exact⟨h8.ids,by have:=h8.data;omega,by have:=h8.target;omega,by have:=h8.ah;omega,fun j hj=>⟨(h8.ent j hj).id,by have:=(h8.ent j hj).name;omega⟩⟩
end graph
end
section
open Go.RowKit
theorem B0.refl (W:World):(B0 W).le (B0 W):=⟨fun _ h=>h,rfl,rfl,rfl,Nat.le_refl _,fun _ hk=>⟨hk,rfl⟩⟩
theorem Spec.val {P:Program} {β:Bs} {f:FuncId} {args:Array Value} {pre:List HP} {x y:Value} {l0:List HP} (h:Spec P β f args pre (fun v l=>v=x/\l=l0)) (e:x=y):Spec P β f args pre (fun v l=>v=y/\l=l0):=h.mono fun _ _ h=>⟨h.1.trans e,h.2⟩
section gb
variable {ns:List aK} {b:Nat}
variable (h:fW ns 1048576)
include h
end gb
def L0:Lay:=⟨fun _=>none,fun _=>none,fun _=>0,fun _=>0⟩
end
section
open Go.RowKit
theorem fW.wide {ns:List aK} {b b':Nat} (h:fW ns b) (hb:b<=b'):fW ns b':=⟨Nat.le_trans h.len hb,fun i hi=>by
  have:=h.node i hi
  exact⟨this.ids,Nat.le_trans this.data hb,Nat.le_trans this.target hb,Nat.le_trans this.ah hb,fun j hj=>⟨(this.ent j hj).id,Nat.le_trans (this.ent j hj).name hb⟩⟩⟩
section gb
variable {ns:List aK} (h:fW ns 1048576)
include h
theorem vE:ns.length<=1048576:=by have:=h.len;omega
theorem Br:∀ i,i < ns.length->(nd ns i).data.length<=1048576/\(nd ns i).ah.length<=1048576:=fun i hi=>by
  have h1:=(h.node i hi).data
  have h2:=(h.node i hi).ah
  omega
theorem KM:∀ i,i < ns.length->∀ j,j < (nd ns i).ah.length->-9223372036854775808<=(ent ns i j).id/\(ent ns i j).id<=9223372036854775807:=fun i hi j hj=>((h.node i hi).ent j hj).id
theorem KN:∀ i,i < ns.length->∀ j,j < (nd ns i).ah.length->(ent ns i j).name.size<=1048576:=fun i hi j hj=>by
  have h1:=((h.node i hi).ent j hj).name
  unfold ent
  omega
end gb
structure TW (X:FM):Prop where
  cN:qQ X.cN
  cB:qQ X.cB
  cH:qQ X.cH
  cS:qQ X.cS
  cZ:qQ X.cZ
end
section
open Go.RowKit Go.Maps bG aE
structure cI where
  at_:Int
  op:Int
  path:ByteArray
  to:ByteArray
  text:ByteArray
def slash:ByteArray:=⟨#[47]⟩
def jc (s:ByteArray):List ByteArray:=Lib.splitB slash 0 (Lib.countB s slash) s
noncomputable section
def jJ (O:bY):Nat->List ByteArray->Except Int (Nat×ByteArray)
  | _,[]=>.error 170
  | d,[p]=>if (obj O d).gone=true then .error 170 else .ok (d,p)
  | d,p::q::r=>match aT p (obj O d).ah with
    | none=>.error 170
    | some t=>if t.kind=3 then .error 174 else if t.kind=1 then .error 173 else jJ O t.k (q::r)
instance (ps:List ByteArray):Decidable (∀ p∈ps,bI p):=Classical.propDecidable _
def jo (O:bY) (d:Nat) (path:ByteArray):Except Int (Nat×ByteArray):=if ∀ p∈jc path,bI p then jJ O d (jc path) else .error 95
def sG (S:aG) (d:Nat) (name text:ByteArray):Int×aG:=
  if bZ S.X S.O S.idx d name=0 then (0,(dI (eP S d name (aU S.X 1 420)) (aO S.X) text.data.toList).2.2) else (bZ S.X S.O S.idx d name,S)
def kZ (S:aG) (d:Nat) (name text:ByteArray):Int×aG:=
  match aT name (obj S.O d).ah with
  | none=>(170,S)
  | some t=>if t.kind=3 then (174,S) else if t.kind=2 then (172,S) else ((dI S t.k text.data.toList).2.1,(dI S t.k text.data.toList).2.2)
def mr (S:aG) (top:Nat) (a:cI) (d:Nat) (name:ByteArray):Int×aG:=
  if a.op=1 then sG S d name a.text
  else if a.op=2 then gF S d name 493
  else if a.op=3 then eE S d name a.text
  else if a.op=4 then dX S d name
  else if a.op=5 then eG S d name
  else if a.op=6 then match jo S.O top a.to with
    | .error e=>(e,S)
    | .ok (to,toName)=>bF S d name to toName
  else kZ S d name a.text
def cJ (S:aG) (root:Int) (a:cI):Int×aG:=
  if a.op < 1\/a.op > 7 then (230,S)
  else match aE.get S.idx root with
    | none=>(141,S)
    | some t=>if t.kind=2 then
        match jo S.O t.k a.path with
        | .error e=>(e,S)
        | .ok (d,name)=>mr S t.k a d name
      else (173,S)
end
section facts
variable {S:aG} {O:bY} {d d':Nat} {name:ByteArray} {t:Th}
theorem Hu (hI:Inv0 S):∀ (ps:List ByteArray) (d:Nat),Live S.idx ⟨d,2⟩->(∀ p∈ps,bI p)->jJ S.O d ps=.ok (d',name)->Live S.idx ⟨d',2⟩/\(obj S.O d').gone=false/\bI name
  | [],d,_,_,h=>by cases h
  | [p],d,hd,hg,h=>by
    unfold jJ at h
    split at h
    ·cases h
    rename_i hn
    cases h
    exact⟨hd,by simpa using hn,hg _ (List.mem_singleton.2 rfl)⟩
  | p::q::r,d,hd,hg,h=>by
    unfold jJ at h
    cases e:aT p (obj S.O d).ah with
    | none=>rw [e] at h;cases h
    | some t=>
      rw [e] at h
      simp only at h
      split at h
      ·cases h
      rename_i h3
      split at h
      ·cases h
      rename_i h1
      have hl:=(hI.ent hd e).2
      have hk:t=⟨t.k,2⟩:=by
        have:=(hI.ob _ hl).2.2
        obtain⟨k,kd⟩:=t
        simp only at this h1 h3
        have:kd=2:=by omega
        rw [this]
      rw [hk] at hl
      exact Hu hI (q::r) t.k hl (fun p hp=>hg p (List.mem_cons_of_mem _ hp)) h
theorem CQ {path:ByteArray} (hI:Inv0 S) (hd:Live S.idx ⟨d,2⟩) (h:jo S.O d path=.ok (d',name)):Live S.idx ⟨d',2⟩/\(obj S.O d').gone=false/\bI name:=by
  unfold jo at h
  split at h
  ·rename_i hg
   exact Hu hI _ _ hd hg h
  cases h
theorem Fs (hI:Inv S) {o:aR}:Live (ins (S.X.last+1) ⟨aO S.X,o.kind⟩ S.idx) ⟨aO S.X,o.kind⟩:=by
  unfold Live
  have h1:=pz hI.toInv0
  have hn:S.X.last+1∉keys S.idx:=by
    cases e:aE.get S.idx (S.X.last+1) with
    | none=>exact get_none.1 e
    | some t=>have:=hI.idx _ _ e;omega
  rw [rM hn]
  simp only
  rw [h1,if_pos rfl]
theorem Inv.sG {text:ByteArray} (hI:Inv S) (hd:Live S.idx ⟨d,2⟩) (iM:(obj S.O d).gone=false) (iH:bI name):Inv (Proofs.YtidjcblbdmfalaaGreat.sG S d name text).2:=by
  unfold Proofs.YtidjcblbdmfalaaGreat.sG
  split
  ·rename_i h0
   exact (hI.DZ hd iM iH h0 (.inl rfl) ⟨by decide,by decide⟩ (.inl ⟨by decide,rfl⟩)).dI (Fs hI (o:=aU S.X 1 420)) _
  exact hI
theorem Inv.kZ {text:ByteArray} (hI:Inv S) (hd:Live S.idx ⟨d,2⟩):Inv (Proofs.YtidjcblbdmfalaaGreat.kZ S d name text).2:=by
  unfold Proofs.YtidjcblbdmfalaaGreat.kZ
  split
  ·exact hI
  rename_i t e
  split
  ·exact hI
  split
  ·exact hI
  rename_i h3 h2
  have hl:=(hI.ent hd e).2
  have hk:t=⟨t.k,1⟩:=by
    have:=(hI.ob _ hl).2.2
    obtain⟨k,kd⟩:=t
    simp only at this h2 h3
    have:kd=1:=by omega
    rw [this]
  rw [hk] at hl
  exact hI.dI hl _
theorem Inv.mr {top:Nat} {a:cI} (hI:Inv S) (ht:Live S.idx ⟨top,2⟩) (hd:Live S.idx ⟨d,2⟩) (iM:(obj S.O d).gone=false) (iH:bI name):Inv (Proofs.YtidjcblbdmfalaaGreat.mr S top a d name).2:=by
  unfold Proofs.YtidjcblbdmfalaaGreat.mr
  split
  ·exact hI.sG hd iM iH
  split
  ·exact hI.gF hd iM iH ⟨by decide,by decide⟩
  split
  ·exact hI.eE hd iM iH
  split
  ·exact hI.dX hd
  split
  ·exact hI.eG hd
  split
  ·split
   ·exact hI
   rename_i to toName e
   obtain⟨h1,h2,h3⟩:=CQ hI.toInv0 ht e
   exact hI.bF hd h1 h2 h3
  exact hI.kZ hd
theorem OT {i:Int} (hI:Inv0 S) (e:aE.get S.idx i=some t) (hk:t.kind=2):Live S.idx ⟨t.k,2⟩:=by
  have:=hI.live e
  obtain⟨k,kd⟩:=t
  simp only at hk
  subst hk
  exact this
theorem Inv.cJ {root:Int} {a:cI} (hI:Inv S):Inv (Proofs.YtidjcblbdmfalaaGreat.cJ S root a).2:=by
  unfold Proofs.YtidjcblbdmfalaaGreat.cJ
  split
  ·exact hI
  split
  ·exact hI
  rename_i t e
  split
  ·rename_i hk
   split
   ·exact hI
   rename_i d name e2
   have ht:=OT hI.toInv0 e hk
   obtain⟨h1,h2,h3⟩:=CQ hI.toInv0 ht e2
   exact hI.mr ht h1 h2 h3
  exact hI
end facts
section err
variable {S:aG} {c:aB} {d to:Nat} {name toName text:ByteArray} {t:Th}
end err
end
section
open Go.RowKit Go.Maps bG aE
noncomputable section
structure bR where
  at_:Int
  kind:Int
def eH (f:bR):List Value:=[.int .i64 f.at_,.int .i64 f.kind]
instance:Inhabited bR:=⟨⟨0,0⟩⟩
instance:Inhabited cI:=⟨⟨0,0,⟨#[]⟩,⟨#[]⟩,⟨#[]⟩⟩⟩
def jF (fs:List bR) (i:Nat):bR:=fs.getD i default
def act (xs:List cI) (i:Nat):cI:=xs.getD i default
def FK (f:bR):Prop:=1<=f.kind/\f.kind<=3
instance (f:bR):Decidable (FK f):=inferInstanceAs (Decidable (_/\_))
def gX:List bR->Int->Int
  | [],_=>0
  | f::r,n=>if f.at_=n/\FK f then f.kind else gX r n
def bO (xs:List cI) (n:Int):List cI:=xs.filter (fun a=>decide (a.at_=n))
def gY (root:Int) (S:aG) (xs:List cI):aG:=xs.foldl (fun S a=>(cJ S root a).2) S
def cV (c:aB) (e:Int):aB:=if c.op=11\/c.op=12 then ⟨c.op,c.handle,0,c.name,c.text,c.dA,c.dC,c.data,0,0,0,0,0,e,0⟩ else { c with answer:=0,code:=e }
def bp (k:Int) (S:aG) (c:aB):aG×aB:=
  if k=1 then (if c.op=13 then (bQ S c).1 else S,cV c 180)
  else if k=2/\(c.op=4\/c.op=5\/c.op=6\/c.op=7\/c.op=9) then (S,cV c 176)
  else if k=3/\c.op=9/\2<=c.data.length then ((bQ S { c with data:=c.data.take (c.data.length / 2) }).1,{ (bQ S { c with data:=c.data.take (c.data.length / 2) }).2 with dA:=c.dA,dC:=c.dC,data:=c.data })
  else bQ S c
def mQ (root:Int) (c:aB):aB:=if c.op=1 then { c with other:=root } else c
def iT (fs:List bR) (xs:List cI) (root:Int) (n:Nat) (S:aG) (c:aB):aG×aB:=bp (gX fs n) (gY root S (bO xs n)) (mQ root c)
section p
variable {S:aG} {c:aB} {fs gs:List bR} {xs ys:List cI} {root k:Int} {n:Nat} {A:Option Addr} {m:Nat}
theorem rF (f:bR) (x:Int):∀ fs:List bR,gX (fs++[f]) x=if gX fs x=0 then (if f.at_=x/\FK f then f.kind else 0) else gX fs x
  | []=>rfl
  | g::r=>by
    show (if g.at_=x/\FK g then g.kind else gX (r++[f]) x)=if (if g.at_=x/\FK g then g.kind else gX r x)=0 then _ else (if g.at_=x/\FK g then g.kind else gX r x)
    by_cases h:g.at_=x/\FK g
    ·have:¬ g.kind=0:=by have:=h.2.1;omega
     rw [if_pos h,if_pos h,if_neg this]
    rw [if_neg h,if_neg h,rF f x r]
theorem yV (a:cI) (x:Int):bO (xs++[a]) x=if a.at_=x then bO xs x++[a] else bO xs x:=by
  unfold bO
  rw [List.filter_append]
  by_cases h:a.at_=x
  ·rw [if_pos h,List.filter_cons_of_pos (by simpa using h),List.filter_nil]
  rw [if_neg h,List.filter_cons_of_neg (by simpa using h),List.filter_nil,List.append_nil]
theorem Bt (x:Int):(bO xs x).length<=xs.length:=List.length_filter_le ..
theorem Je {x:Int} {a:cI} (h:a∈bO xs x):a∈xs:=(List.mem_filter.1 h).1
theorem Jf (a:cI):gY root S (xs++[a])=(cJ (gY root S xs) root a).2:=by
  unfold gY;rw [List.foldl_append];rfl
theorem rP {i:Nat} (h:i < xs.length):xs[i]?=some (act xs i):=getD_some h
theorem yE {i:Nat} (h:i < fs.length):fs[i]?=some (jF fs i):=getD_some h
theorem Jg {i:Nat} (h:i < xs.length):gY root S (xs.take (i+1))=(cJ (gY root S (xs.take i)) root (act xs i)).2:=by
  rw [List.take_add_one,rP h];exact Jf _
theorem Inv.gY (h:Inv S):∀ xs:List cI,Inv (Proofs.YtidjcblbdmfalaaGreat.gY root S xs):=fun xs=>by
  induction xs generalizing S with
  | nil=>exact h
  | cons a r ih=>exact ih h.cJ
theorem Inv.bp (h:Inv S):Inv (Proofs.YtidjcblbdmfalaaGreat.bp k S c).1:=by
  unfold Proofs.YtidjcblbdmfalaaGreat.bp
  split
  ·show Inv (if c.op=13 then _ else _)
   split
   ·exact h.bQ _
   exact h
  split
  ·exact h
  split
  ·exact h.bQ _
  exact h.bQ _
theorem Inv.iT (h:Inv S):Inv (Proofs.YtidjcblbdmfalaaGreat.iT fs xs root n S c).1:=(h.gY _).bp
def bE (A:Option Addr) (m:Nat) (c:aB):aB:={ c with dA:=A,dC:=m }
theorem QB:cK S (bE A m c)=((cK S c).1,(cK S c).2.1,bE A m (cK S c).2.2):=by
  by_cases hop:1<=c.op/\c.op<=15
  case neg=>rw [uE hop,uE (c:=bE A m c) hop]
  have hop:c.op=1\/c.op=2\/c.op=3\/c.op=4\/c.op=5\/c.op=6\/c.op=7\/c.op=8\/c.op=9\/c.op=10\/c.op=11\/c.op=12\/c.op=13\/c.op=14\/c.op=15:=by omega
  rcases hop with q|q|q|q|q|q|q|q|q|q|q|q|q|q|q
  ·rw [vm q,vm (c:=bE A m c) q];unfold jl bE;simp only;cases aE.get S.idx c.other<;>(try simp only)<;>(repeat' split)<;>rfl
  ·rw [yq q,yq (c:=bE A m c) q];unfold fD fP bE;simp only;split<;>(repeat' split)<;>rfl
  ·rw [yt q,yt (c:=bE A m c) q];unfold eM fP bE;simp only;split<;>(repeat' split)<;>rfl
  ·rw [vn q,vn (c:=bE A m c) q];unfold fQ bE;simp only;split<;>(repeat' split)<;>rfl
  ·rw [yu q,yu (c:=bE A m c) q];unfold dY bE;simp only;split<;>(repeat' split)<;>rfl
  ·rw [yw q,yw (c:=bE A m c) q];unfold fK bE;simp only;split<;>(repeat' split)<;>rfl
  ·rw [yx q,yx (c:=bE A m c) q];unfold cE bE;simp only;split<;>(repeat' split)<;>rfl
  ·rw [yA q,yA (c:=bE A m c) q];unfold gh bE;simp only;split<;>(repeat' split)<;>rfl
  ·rw [yB q,yB (c:=bE A m c) q];unfold fZ bE;simp only;split<;>(repeat' split)<;>rfl
  ·rw [ur q,ur (c:=bE A m c) q];unfold bJ bE;simp only;split<;>(repeat' split)<;>rfl
  ·rw [uw q,uw (c:=bE A m c) q];unfold j6 bE;simp only;split<;>(repeat' split)<;>rfl
  ·rw [ux q,ux (c:=bE A m c) q];unfold gi fP bE;simp only;split<;>(repeat' split)<;>rfl
  ·rw [uy q,uy (c:=bE A m c) q];unfold ji bE;simp only;split<;>(repeat' split)<;>rfl
  ·rw [uz q,uz (c:=bE A m c) q];unfold iu bE;simp only;split<;>(repeat' split)<;>rfl
  rw [uD q,uD (c:=bE A m c) q];unfold fB bE;simp only;split<;>(repeat' split)<;>rfl
theorem MI:(cK S c).2.2.data=c.data:=by
  by_cases hop:1<=c.op/\c.op<=15
  case neg=>rw [uE hop]
  have hop:c.op=1\/c.op=2\/c.op=3\/c.op=4\/c.op=5\/c.op=6\/c.op=7\/c.op=8\/c.op=9\/c.op=10\/c.op=11\/c.op=12\/c.op=13\/c.op=14\/c.op=15:=by omega
  rcases hop with q|q|q|q|q|q|q|q|q|q|q|q|q|q|q
  ·rw [vm q];unfold jl;(repeat' split)<;>rfl
  ·rw [yq q];unfold fD;(repeat' split)<;>rfl
  ·rw [yt q];unfold eM;(repeat' split)<;>rfl
  ·rw [vn q];unfold fQ;(repeat' split)<;>rfl
  ·rw [yu q];unfold dY;(repeat' split)<;>rfl
  ·rw [yw q];unfold fK;(repeat' split)<;>rfl
  ·rw [yx q];unfold cE;(repeat' split)<;>rfl
  ·rw [yA q];unfold gh;(repeat' split)<;>rfl
  ·rw [yB q];unfold fZ;(repeat' split)<;>rfl
  ·rw [ur q];unfold bJ;(repeat' split)<;>rfl
  ·rw [uw q];unfold j6 lN;(repeat' split)<;>rfl
  ·rw [ux q];unfold gi lN;(repeat' split)<;>rfl
  ·rw [uy q];unfold ji;(repeat' split)<;>rfl
  ·rw [uz q];unfold iu;(repeat' split)<;>rfl
  rw [uD q];unfold fB;(repeat' split)<;>rfl
theorem Bu:bQ S (bE A m c)=((bQ S c).1,bE A m (bQ S c).2):=by
  have h:=QB (S:=S) (A:=A) (m:=m) (c:={ c with answer:=0,code:=230 })
  unfold bQ
  rw [show ({ bE A m c with answer:=0,code:=230 }:aB)=bE A m { c with answer:=0,code:=230 } from rfl,h]
  rfl
theorem Fu:(bQ S c).2.data=c.data:=MI (c:={ c with answer:=0,code:=230 })
theorem Fv {e:Int}:cV (bE A m c) e=bE A m (cV c e):=by
  unfold cV
  by_cases h:c.op=11\/c.op=12
  ·rw [if_pos h,if_pos (show (bE A m c).op=11\/(bE A m c).op=12 from h)];rfl
  rw [if_neg h,if_neg (show ¬ ((bE A m c).op=11\/(bE A m c).op=12) from h)];rfl
theorem Bv {e:Int}:(cV c e).data=c.data:=by
  unfold cV;split<;>rfl
theorem Gn:(bp k S c).2.data=c.data:=by
  unfold bp
  split
  ·exact Bv
  split
  ·exact Bv
  split
  ·rfl
  exact Fu
theorem Du:bp k S (bE A m c)=((bp k S c).1,bE A m (bp k S c).2):=by
  unfold bp
  by_cases h1:k=1
  ·rw [if_pos h1,if_pos h1]
   show (if c.op=13 then (bQ S (bE A m c)).1 else S,cV (bE A m c) 180)=_
   rw [Bu,Fv]
  rw [if_neg h1,if_neg h1]
  by_cases h2:k=2/\(c.op=4\/c.op=5\/c.op=6\/c.op=7\/c.op=9)
  ·rw [if_pos h2,if_pos (show k=2/\((bE A m c).op=4\/(bE A m c).op=5\/(bE A m c).op=6\/(bE A m c).op=7\/(bE A m c).op=9) from h2),Fv]
  rw [if_neg h2,if_neg (show ¬ (k=2/\((bE A m c).op=4\/(bE A m c).op=5\/(bE A m c).op=6\/(bE A m c).op=7\/(bE A m c).op=9)) from h2)]
  by_cases h3:k=3/\c.op=9/\2<=c.data.length
  ·rw [if_pos h3,if_pos (show k=3/\(bE A m c).op=9/\2<=(bE A m c).data.length from h3)]
   show ((bQ S (bE A m { c with data:=c.data.take (c.data.length / 2) })).1,{ (bQ S (bE A m { c with data:=c.data.take (c.data.length / 2) })).2 with dA:=A,dC:=m,data:=c.data })=_
   rw [Bu];rfl
  rw [if_neg h3,if_neg (show ¬ (k=3/\(bE A m c).op=9/\2<=(bE A m c).data.length) from h3)]
  exact Bu
theorem MJ:mQ root (bE A m c)=bE A m (mQ root c):=by
  unfold mQ
  by_cases h:c.op=1
  ·rw [if_pos h,if_pos (show (bE A m c).op=1 from h)];rfl
  rw [if_neg h,if_neg (show ¬ (bE A m c).op=1 from h)]
theorem KO:iT fs xs root n S (bE A m c)=((iT fs xs root n S c).1,bE A m (iT fs xs root n S c).2):=by
  unfold iT
  rw [MJ,Du]
theorem Jh:(mQ root c).data=c.data:=by
  unfold mQ;split<;>rfl
theorem Gp:(iT fs xs root n S c).2.data=c.data:=Gn.trans Jh
theorem Gq {cX:Int} (h:cX=if c.op=1 then root else c.other):mQ root c={ c with other:=cX }:=by
  unfold mQ
  by_cases e:c.op=1
  ·rw [if_pos e] at h ⊢;rw [h]
  rw [if_neg e] at h ⊢;rw [h]
end p
end
end
section
open Go.RowKit Go.WideShapes Go.ChangeShapes Go.ChangeAt Go.Deep
def bN {α:Type} (f:α->List Value) (xs:List α):List Value:=cY (fun _ x=>f x) 0 xs
theorem KP {α:Type} {f:α->List Value} {s:Nat} (hf:∀ a,(f a).length=s) {xs:List α} {i j:Nat} {a:α} (h:xs[i]?=some a) (hj:j < s):(bN f xs)[i * s+j]?=(f a)[j]?:=qc (f:=fun _ x=>f x) (s:=s) (fun _ a=>hf a) xs 0 i j _ h hj
def fF (a:cI):List Value:=[.int .i64 a.at_,.int .i64 a.op,.string a.path,.string a.to,.string a.text]
structure xP (a:cI) (b:Nat):Prop where
  aw:(Lit.int .i64 a.at_).wf=true
  path:a.path.size<=b
  to:a.to.size<=b
  text:a.text.size<=b
theorem xP.wide {a:cI} {b b':Nat} (h:xP a b) (g:b<=b'):xP a b':=⟨h.aw,Nat.le_trans h.path g,Nat.le_trans h.to g,Nat.le_trans h.text g⟩
structure rG (β:Bs) (c:aB) (b:Nat):Prop where
  data:bg β c.dA c.data
  len:c.data.length<=b
  name:c.name.size<=b
  text:c.text.size<=b
  hw:(Lit.int .i64 c.handle).wf=true
  ow:(Lit.int .i64 c.other).wf=true
theorem rG.le {β β':Bs} {c:aB} {b:Nat} (h:rG β c b) (g:β.le β'):rG β' c b:=⟨h.data.le g,h.len,h.name,h.text,h.hw,h.ow⟩
theorem rG.wide {β:Bs} {c:aB} {b b':Nat} (h:rG β c b) (g:b<=b'):rG β c b':=⟨h.data,Nat.le_trans h.len g,Nat.le_trans h.name g,Nat.le_trans h.text g,h.hw,h.ow⟩
instance:Inhabited aB:=⟨⟨0,0,0,⟨#[]⟩,⟨#[]⟩,none,0,[],0,0,0,0,0,0,0⟩⟩
def aq (xs:List aB) (i:Nat):aB:=xs.getD i default
structure iO (xs:List cI) (b:Nat):Prop where
  len:xs.length<=b
  q:∀ a∈xs,xP a b
structure gq (xs:List bR) (b:Nat):Prop where
  len:xs.length<=b
  q:∀ a∈xs,(Lit.int .i64 a.at_).wf=true
theorem iO.wide {xs:List cI} {b b':Nat} (h:iO xs b) (g:b<=b'):iO xs b':=⟨Nat.le_trans h.len g,fun a ha=>(h.q a ha).wide g⟩
theorem gq.wide {xs:List bR} {b b':Nat} (h:gq xs b) (g:b<=b'):gq xs b':=⟨Nat.le_trans h.len g,h.q⟩
structure d6 (β:Bs) (A:Option Addr) (xs:List aB):Prop where
  row:cM β A (bN bK xs)
  q:∀ i,i < xs.length->rG β (aq xs i) 1048576
section s
variable {β β':Bs} {A:Option Addr} {i j:Nat} {v:Value}
theorem Hv {α:Type} {f:α->List Value} {s:Nat} {xs:List α} {a:α} (h:cM β A (bN f xs)) (hf:∀ a,(f a).length=s) (hi:xs[i]?=some a) (hv:(f a)[j]?=some v):A=some ⟨av A,au A,none⟩/\Rd β ⟨av A,au A+i * s+j,none⟩ v:=by
  have hj:j < s:=by rw [← hf a];exact bw hv
  have:=h (i * s+j) v ((KP hf hi hj).trans hv)
  rw [← Nat.add_assoc] at this
  exact this
theorem d6.le {xs:List aB} (h:d6 β A xs) (g:β.le β'):d6 β' A xs:=⟨h.row.le g,fun i hi=>(h.q i hi).le g⟩
theorem Hw {xs:List aB} (h:i < xs.length):xs[i]?=some (aq xs i):=getD_some h
theorem d6.hd {xs:List aB} (h:d6 β A xs) (hi:i < xs.length):A=some ⟨av A,au A,none⟩:=(Hv (s:=13) (j:=0) h.row (fun _=>rfl) (Hw hi) rfl).1
theorem d6.rd {xs:List aB} (h:d6 β A xs) (hi:i < xs.length) (hv:(bK (aq xs i))[j]?=some v):Rd β ⟨av A,au A+i * 13+j,none⟩ v:=(Hv h.row (fun _=>rfl) (Hw hi) hv).2
theorem NZ {xs:List cI} (h:cM β A (bN fF xs)) (hi:i < xs.length):A=some ⟨av A,au A,none⟩:=(Hv (s:=5) (j:=0) h (fun _=>rfl) (rP hi) rfl).1
theorem p4 {xs:List cI} (h:cM β A (bN fF xs)) (hi:i < xs.length) (hv:(fF (act xs i))[j]?=some v):Rd β ⟨av A,au A+i * 5+j,none⟩ v:=(Hv h (fun _=>rfl) (rP hi) hv).2
theorem RW {xs:List bR} (h:cM β A (bN eH xs)) (hi:i < xs.length):A=some ⟨av A,au A,none⟩:=(Hv (s:=2) (j:=0) h (fun _=>rfl) (yE hi) rfl).1
theorem N0 {xs:List bR} (h:cM β A (bN eH xs)) (hi:i < xs.length) (hv:(eH (jF xs i))[j]?=some v):Rd β ⟨av A,au A+i * 2+j,none⟩ v:=(Hv h (fun _=>rfl) (yE hi) hv).2
theorem gq.at {xs:List bR} {b:Nat} (h:gq xs b) (hi:i < xs.length):(Lit.int .i64 (jF xs i).at_).wf=true:=h.q _ (List.mem_of_getElem? (yE hi))
theorem iO.at {xs:List cI} {b:Nat} (h:iO xs b) (hi:i < xs.length):xP (act xs i) b:=h.q _ (List.mem_of_getElem? (rP hi))
end s
section a
variable {H:Type} {enc:TypeId×Value->H} {W:World} {sp:Nat->Bool}
theorem iK {t:TypeId} {n:Nat} {c:Value} {x:DataW H×List MemPlace} (ht:Tryz.prog.underlying t=some (.int .i64)) (h:DataW.trod enc Tryz.prog W 0 sp true n t [c]=some x):∃ z,c=.int .i64 z/\(Lit.int .i64 z).wf=true:=by
  obtain⟨z,h1,_,h3⟩:=DataW.trod_int ht h
  cases h1
  exact⟨z,rfl,h3⟩
theorem MK {n:Nat} {cs:List Value} {x:DataW H×List MemPlace} (h:DataW.trod enc Tryz.prog W 0 sp true n 41 cs=some x):∃ a:cI,cs=fF a/\xP a (Rows.uptoBulk x.1):=by
  obtain⟨vs,m,_,hx,hl,hvl,hv⟩:=DataW.trod_struct Tryz.underlying41 h
  have hC:Tryz.prog.cellsOf 41=5:=by kernel_rfl
  rw [hC] at hl
  match cs,hl with
  | [c0,c1,c2,c3,c4],_=>
    obtain⟨a0,_⟩:=aY (hv 0 _ rfl) (by rw [hvl];decide)
    obtain⟨a1,_⟩:=aY (hv 1 _ rfl) (by rw [hvl];decide)
    obtain⟨a2,e2⟩:=aY (hv 2 _ rfl) (by rw [hvl];decide)
    obtain⟨a3,e3⟩:=aY (hv 3 _ rfl) (by rw [hvl];decide)
    obtain⟨a4,e4⟩:=aY (hv 4 _ rfl) (by rw [hvl];decide)
    obtain⟨z0,rfl,w0⟩:=iK (c:=c0) Tryz.underlying3 a0
    obtain⟨z1,rfl,_⟩:=iK (c:=c1) Tryz.underlying3 a1
    obtain⟨s2,rfl,l2⟩:=nS (c:=c2) Tryz.underlying9 a2
    obtain⟨s3,rfl,l3⟩:=nS (c:=c3) Tryz.underlying9 a3
    obtain⟨s4,rfl,l4⟩:=nS (c:=c4) Tryz.underlying9 a4
    have hb:Rows.uptoBulk x.1=Rows.uptoBulk (.agg (vs.map (·.1))):=by rw [hx]
    exact⟨⟨z0,z1,s2,s3,s4⟩,rfl,⟨w0,by show s2.size<=_;omega,by show s3.size<=_;omega,by show s4.size<=_;omega⟩⟩
theorem Ji {n:Nat} {cs:List Value} {x:DataW H×List MemPlace} (h:DataW.trod enc Tryz.prog W 0 sp true n 39 cs=some x):∃ a:bR,cs=eH a/\(Lit.int .i64 a.at_).wf=true:=by
  obtain⟨vs,m,_,hx,hl,hvl,hv⟩:=DataW.trod_struct Tryz.underlying39 h
  have hC:Tryz.prog.cellsOf 39=2:=by kernel_rfl
  rw [hC] at hl
  match cs,hl with
  | [c0,c1],_=>
    obtain⟨a0,_⟩:=aY (hv 0 _ rfl) (by rw [hvl];decide)
    obtain⟨a1,_⟩:=aY (hv 1 _ rfl) (by rw [hvl];decide)
    obtain⟨z0,rfl,w0⟩:=iK (c:=c0) Tryz.underlying3 a0
    obtain⟨z1,rfl,_⟩:=iK (c:=c1) Tryz.underlying3 a1
    exact⟨⟨z0,z1⟩,rfl,w0⟩
theorem KQ {n:Nat} {cs:List Value} {x:DataW H×List MemPlace} (h:DataW.trod enc Tryz.prog W 0 sp true n 48 cs=some x):∃ c:aB,cs=bK c/\rG (B0 W) c (Rows.uptoBulk x.1):=by
  obtain⟨us,_,_,QC,hl,qz,hu⟩:=DataW.trod_struct Tryz.underlying48 h
  have hC:Tryz.prog.cellsOf 48=13:=by kernel_rfl
  rw [hC] at hl
  match cs,hl with
  | [c0,c1,c2,c3,c4,c5,c6,c7,c8,c9,c10,c11,UJ],_=>
    obtain⟨h0,_⟩:=aY (hu 0 _ rfl) (by rw [qz];decide)
    obtain⟨h1,_⟩:=aY (hu 1 _ rfl) (by rw [qz];decide)
    obtain⟨h2,_⟩:=aY (hu 2 _ rfl) (by rw [qz];decide)
    obtain⟨h3,b3⟩:=aY (hu 3 _ rfl) (by rw [qz];decide)
    obtain⟨h4,b4⟩:=aY (hu 4 _ rfl) (by rw [qz];decide)
    obtain⟨h5,b5⟩:=aY (hu 5 _ rfl) (by rw [qz];decide)
    obtain⟨h6,_⟩:=aY (hu 6 _ rfl) (by rw [qz];decide)
    obtain⟨h7,_⟩:=aY (hu 7 _ rfl) (by rw [qz];decide)
    obtain⟨h8,_⟩:=aY (hu 8 _ rfl) (by rw [qz];decide)
    obtain⟨h9,_⟩:=aY (hu 9 _ rfl) (by rw [qz];decide)
    obtain⟨h10,_⟩:=aY (hu 10 _ rfl) (by rw [qz];decide)
    obtain⟨h11,_⟩:=aY (hu 11 _ rfl) (by rw [qz];decide)
    obtain⟨ts,_,_,_,_,htl,ht⟩:=DataW.trod_struct Tryz.underlying26 h9
    obtain⟨t0,_⟩:=aY (ht 0 _ rfl) (by rw [htl];decide)
    obtain⟨t1,_⟩:=aY (ht 1 _ rfl) (by rw [htl];decide)
    obtain⟨z0,rfl,w0⟩:=iK (c:=c0) Tryz.underlying3 h0
    obtain⟨z1,rfl,w1⟩:=iK (c:=c1) Tryz.underlying3 h1
    obtain⟨z2,rfl,w2⟩:=iK (c:=c2) Tryz.underlying3 h2
    obtain⟨s3,rfl,l3⟩:=nS (c:=c3) Tryz.underlying9 h3
    obtain⟨s4,rfl,l4⟩:=nS (c:=c4) Tryz.underlying9 h4
    obtain⟨A5,p5,d5,rfl,q5,l5⟩:=Bo (c:=c5) h5
    obtain⟨z6,rfl,w6⟩:=iK (c:=c6) Tryz.underlying3 h6
    obtain⟨z7,rfl,w7⟩:=iK (c:=c7) Tryz.underlying3 h7
    obtain⟨z8,rfl,w8⟩:=iK (c:=c8) Tryz.underlying3 h8
    obtain⟨z9,rfl,w9⟩:=iK (c:=c9) Tryz.underlying3 t0
    obtain⟨UK,rfl,VX⟩:=iK (c:=c10) Tryz.underlying3 t1
    obtain⟨UL,rfl,VY⟩:=iK (c:=c11) Tryz.underlying43 h10
    obtain⟨z12,rfl,VZ⟩:=iK (c:=UJ) Tryz.underlying3 h11
    have hb:Rows.uptoBulk x.1=Rows.uptoBulk (.agg (us.map (·.1))):=by rw [QC]
    exact⟨⟨z0,z1,z2,s3,s4,A5,p5,d5,z6,z7,z8,z9,UK,UL,z12⟩,rfl,⟨q5,by show d5.length<=_;omega,by show s3.size<=_;omega,by show s4.size<=_;omega,w1,w2⟩⟩
theorem Jj {n:Nat} {c:Value} {x:DataW H×List MemPlace} (h:DataW.trod enc Tryz.prog W 0 sp true n 30 [c]=some x):∃ A cp,∃ xs:List cI,c=.slice A xs.length cp/\cM (B0 W) A (bN fF xs)/\iO xs (Rows.uptoBulk x.1)/\xs.length<=cp:=by
  obtain⟨A,cp,xs,D,h1,Fw,_,h2,h4,h3⟩:=pR (α:=cI) (f:=fF) (Q:=fun a d=>xP a (Rows.uptoBulk d)) Tryz.underlying30 (size:=5) (by kernel_rfl) (by decide) (fun n cs x h=>MK h) (fun _=>rfl) h
  cases h1
  have h5:=pQ ((List.range xs.length).map D)
  refine⟨A,cp,xs,rfl,h2,⟨by simp at h5;omega,fun a ha=>?_⟩,Fw⟩
  obtain⟨i,hi,e⟩:=List.mem_iff_getElem.1 ha
  have h6:=h4 i hi
  rw [show xs.getD i default=a by rw [← e];simp [hi]] at h6
  exact h6.wide (by have:=vD (D:=D) hi;omega)
theorem Fx {n:Nat} {c:Value} {x:DataW H×List MemPlace} (h:DataW.trod enc Tryz.prog W 0 sp true n 29 [c]=some x):∃ A cp,∃ xs:List bR,c=.slice A xs.length cp/\cM (B0 W) A (bN eH xs)/\gq xs (Rows.uptoBulk x.1)/\xs.length<=cp:=by
  obtain⟨A,cp,xs,D,h1,Fw,_,h2,h4,h3⟩:=pR (α:=bR) (f:=eH) (Q:=fun a _=>(Lit.int .i64 a.at_).wf=true) Tryz.underlying29 (size:=2) (by kernel_rfl) (by decide) (fun n cs x h=>Ji h) (fun _=>rfl) h
  cases h1
  have h5:=pQ ((List.range xs.length).map D)
  refine⟨A,cp,xs,rfl,h2,⟨by simp at h5;omega,fun a ha=>?_⟩,Fw⟩
  obtain⟨i,hi,e⟩:=List.mem_iff_getElem.1 ha
  have h6:=h4 i hi
  rw [show xs.getD i default=a by rw [← e];simp [hi]] at h6
  exact h6
theorem open_calls {v:Value} {d:DataW H} {ps:List MemPlace} {r:Go.Reach} {b0:Nat} (hval:Value.okWide Tryz.prog W r b0 35 v) (h:DataW.Trod enc Tryz.prog W 0 sp true 35 v d ps) (hb:Rows.uptoBulk d<=1048576) :
    ∃ A cp,∃ xs:List aB,v=.slice A xs.length cp/\d6 (B0 W) A xs/\xs.length<=1048576/\xs.length<=cp:=by
  obtain⟨a,n,c,rfl⟩:=okWide_slice Tryz.underlying35 hval
  obtain⟨fuel,h⟩:=h
  obtain⟨A,cp,xs,D,h1,Fw,_,h2,h4,h3⟩:=pR (α:=aB) (f:=bK) (Q:=fun a d=>rG (B0 W) a (Rows.uptoBulk d)) Tryz.underlying35 (size:=13) (by kernel_rfl) (by decide) (fun n cs x h=>KQ h) (fun _=>rfl) h
  cases h1
  have h5:=pQ ((List.range xs.length).map D)
  have h3:Rows.uptoBulkAll ((List.range xs.length).map D)+1<=Rows.uptoBulk d:=h3
  refine⟨a,c,xs,rfl,⟨h2,fun i hi=>(h4 i hi).wide ?_⟩,by simp at h5;omega,Fw⟩
  have h7:=vD (D:=D) hi
  omega
def CR (A:Option Addr) (n cp:Nat) (root:Int) (X:FM) (Af:Option Addr) (nf cf:Nat) (Aa:Option Addr) (na ca:Nat):Value:=.agg #[.slice A n cp,.int .i64 root,.int .i64 X.cN,.int .i64 X.cB,.int .i64 X.cH,.int .i64 X.cS,.int .i64 X.cZ,.slice Af nf cf,.slice Aa na ca]
theorem open_wstart {v:Value} {d:DataW H} {ps:List MemPlace} {r:Go.Reach} {b0:Nat} (hval:Value.okWide Tryz.prog W r b0 34 v) (h:DataW.Trod enc Tryz.prog W 0 sp true 34 v d ps) :
    ∃ A cp,∃ ns:List aK,∃ L:Lay,∃ root:Int,∃ X:FM,∃ Af cf,∃ fs:List bR,∃ Aa ca,∃ xs:List cI,v=CR A ns.length cp root X Af fs.length cf Aa xs.length ca/\ay (B0 W) A ns L/\fW ns (Rows.uptoBulk d)/\TW X/\(Lit.int .i64 root).wf=true ∧
      cM (B0 W) Af (bN eH fs)/\gq fs (Rows.uptoBulk d)/\fs.length<=cf/\cM (B0 W) Aa (bN fF xs)/\iO xs (Rows.uptoBulk d)/\xs.length<=ca:=by
  obtain⟨cs,rfl,hcs⟩:=okWide_struct Tryz.underlying34 hval
  obtain⟨fuel,h⟩:=h
  obtain⟨ys,m,_,hx,hl,oY,hf⟩:=DataW.trod_struct Tryz.underlying34 h
  have hC:Tryz.prog.cellsOf 34=9:=by kernel_rfl
  rw [hC] at hcs
  obtain⟨cs⟩:=cs
  match cs,hcs with
  | [c0,c1,c2,c3,c4,c5,c6,c7,c8],_=>
    obtain⟨h0,b0⟩:=aY (hf 0 _ rfl) (by rw [oY];decide)
    obtain⟨hr,_⟩:=aY (hf 1 _ rfl) (by rw [oY];decide)
    obtain⟨h1,_⟩:=aY (hf 2 _ rfl) (by rw [oY];decide)
    obtain⟨h3,b3⟩:=aY (hf 3 _ rfl) (by rw [oY];decide)
    obtain⟨us,_,_,QC,_,qz,hu⟩:=DataW.trod_struct Tryz.underlying24 h0
    obtain⟨g0,e0⟩:=aY (hu 0 _ rfl) (by rw [qz];decide)
    obtain⟨A,cp,ns,L,rfl,hG,hB⟩:=Jd (c:=c0) g0
    obtain⟨vs,_,_,_,_,hvl,hv⟩:=DataW.trod_struct Tryz.underlying28 h1
    obtain⟨k0,_⟩:=aY (hv 0 _ rfl) (by rw [hvl];decide)
    obtain⟨k1,_⟩:=aY (hv 1 _ rfl) (by rw [hvl];decide)
    obtain⟨k2,_⟩:=aY (hv 2 _ rfl) (by rw [hvl];decide)
    obtain⟨k3,_⟩:=aY (hv 3 _ rfl) (by rw [hvl];decide)
    obtain⟨ts,_,_,_,_,htl,ht⟩:=DataW.trod_struct Tryz.underlying26 k3
    obtain⟨t0,_⟩:=aY (ht 0 _ rfl) (by rw [htl];decide)
    obtain⟨t1,_⟩:=aY (ht 1 _ rfl) (by rw [htl];decide)
    obtain⟨zr,rfl,wr⟩:=iK (c:=c1) Tryz.underlying3 hr
    obtain⟨z0,rfl,w0⟩:=iJ (c:=c2) Tryz.underlying3 k0
    obtain⟨z1,rfl,w1⟩:=iJ (c:=c3) Tryz.underlying3 k1
    obtain⟨z2,rfl,w2⟩:=iJ (c:=c4) Tryz.underlying3 k2
    obtain⟨z3,rfl,w3⟩:=iJ (c:=c5) Tryz.underlying3 t0
    obtain⟨z4,rfl,w4⟩:=iJ (c:=c6) Tryz.underlying3 t1
    obtain⟨ws,_,_,hwx,_,hwl,hw⟩:=DataW.trod_struct Tryz.underlying32 h3
    obtain⟨q0,d0⟩:=aY (hw 0 _ rfl) (by rw [hwl];decide)
    obtain⟨q1,d1⟩:=aY (hw 1 _ rfl) (by rw [hwl];decide)
    obtain⟨Af,cf,fs,rfl,hF,SK,UM⟩:=Fx (c:=c7) q0
    obtain⟨Aa,ca,xs,rfl,hA,SL,UN⟩:=Jj (c:=c8) q1
    cases hx
    rw [QC] at b0
    rw [hwx] at b3
    exact⟨A,cp,ns,L,zr,⟨z0,z1,z2,z3,z4,0,0,0⟩,Af,cf,fs,Aa,ca,xs,rfl,hG,hB.wide (Nat.le_trans e0 b0),⟨w0,w1,w2,w3,w4⟩,wr,hF,⟨Nat.le_trans SK.len (Nat.le_trans d0 b3),SK.q⟩,UM,hA,⟨Nat.le_trans SL.len (Nat.le_trans d1 b3),fun a ha=>(SL.q a ha).wide (Nat.le_trans d1 b3)⟩,UN⟩
end a
end
section
open Go.RowKit
def kD (β:Bs) (Φ:Bs->Prop):cu where
  h F w:=∃ β':Bs,β.le β'/\(∀ k,β'.O k->β.O k\/F k)/\(∀ k,F k->β'.O k)/\β'.w0.heap.size<=w.heap.size/\(∀ k,F k->k < β'.w0.heap.size/\w.heap[k]?=β'.w0.heap[k]?)/\Φ β'
  lt:=fun ⟨_,_,_,_,h4,h5,_⟩ k hk=>Nat.lt_of_lt_of_le (h5 k hk).1 h4
  st:=fun ⟨β',h1,h2,h3,h4,h5,h6⟩ _ _ hk hs=>⟨β',h1,h2,h3,Nat.le_trans h4 hk.size,fun k hF=>⟨(h5 k hF).1,(hk.block k (Nat.lt_of_lt_of_le (h5 k hF).1 h4) (hs k hF)).trans (h5 k hF).2⟩,h6⟩
section N5
variable {P:Program} {β:Bs} {N:Nat} {ops:Array Oper} {k:Nat} {fr:Fr} {hps cF:List HP} {Q:Post} {f:FuncId} {args:Array Value} {pre:List HP}
theorem cq.N5 {ι:Type} {vv:ι->Value} {ll:ι->List HP} {Φ:ι->Bs->Prop} (h:cq P β f args pre (fun β' v l=>∃ x,v=vv x/\l=ll x/\Φ x β')):Spec P β f args pre (fun v l=>∃ x,v=vv x/\l=.abs (kD β (Φ x))::ll x):=by
  intro R w hS
  refine (h R w hS).mono ?_
  rintro e w' ⟨β',v,l,hle,he,⟨x,rfl,rfl,wv⟩,ho,φ,h1,h2,h3⟩
  refine⟨vv x,_,he,⟨x,rfl,rfl⟩,ho.le hle,fun i=>match i with
    | 0=>fun k=>β'.O k/\¬ β.O k
    | i+1=>φ i,fun i p hp=>?_,fun i hi k hk hO=>?_,fun i j hi hj hne k hk hk'=>?_⟩
  ·cases i with
   | zero=>
     have hp:some (HP.abs (kD β (Φ x)))=some p:=hp
     cases hp
     exact⟨β',hle,fun k hk=>(Classical.em (β.O k)).elim .inl (fun hn=>.inr ⟨hk,hn⟩),fun k hk=>hk.1,ho.size,fun k hk=>ho.old k hk.1,wv⟩
   | succ i=>exact h1 i p (by simpa using hp)
  ·cases i with
   | zero=>exact hk.2 hO
   | succ i=>exact h2 i (by simp at hi ⊢;omega) k hk (hle.O k hO)
  cases i with
  | zero=>
    cases j with
    | zero=>exact hne rfl
    | succ j=>exact h2 j (by simp at hj ⊢;omega) k hk' hk.1
  | succ i=>
    cases j with
    | zero=>exact h2 i (by simp at hi ⊢;omega) k hk hk'.1
    | succ j=>exact h3 i j (by simp at hi ⊢;omega) (by simp at hj ⊢;omega) (by omega) k hk hk'
theorem Sat.Fy {Φ:Bs->Prop} {l:List HP} {w:World} (h:Sat β (.abs (kD β Φ)::l) w):∃ β':Bs,β.le β'/\Φ β'/\Sat β' l w:=by
  obtain⟨ho,φ,h1,h2,h3⟩:=h
  have hF:(kD β Φ).h (φ 0) w:=h1 0 _ rfl
  obtain⟨β',g1,g2,g3,g4,g5,g6⟩:=hF
  refine⟨β',g1,g6,⟨ho.os.trans g1.os.symm,ho.tape.trans g1.tape.symm,ho.output.trans g1.output.symm,g4,fun k hk=>?_⟩,fun j=>φ (j+1),fun j p hp=>h1 (j+1) p (by simpa using hp),fun j hj k hk hO=>?_,fun a b ha hb hne=>h3 (a+1) (b+1) (by simp;omega) (by simp;omega) (by omega)⟩
  ·rcases g2 k hk with hb|hb
   ·have e1:=g1.old k hb
    have e2:=ho.old k hb
    exact⟨Nat.lt_of_lt_of_le e1.1 g1.size,e2.2.trans e1.2.symm⟩
   exact g5 k hb
  rcases g2 k hO with hb|hb
  ·exact h2 (j+1) (by simp;omega) k hk hb
  exact h3 (j+1) 0 (by simp;omega) (by simp) (by omega) k hk hb
theorem Spec.Jk {Φ:Bs->Prop} {post:Value->List HP->Prop} (h:∀ β':Bs,β.le β'->Φ β'->Spec P β' f args pre post):Spec P β f args (.abs (kD β Φ)::pre) post:=by
  intro R w hS
  obtain⟨β',g1,g2,g3⟩:=Sat.Fy (l:=pre++[.abs R]) hS
  refine (h β' g1 g2 R w g3).mono ?_
  rintro e w' ⟨v,l,h1,h2,h3⟩
  exact⟨v,l,h1,h2,h3.Ab g1⟩
end N5
end
section
open Go.RowKit Go.Maps bG aE
theorem Jl (_:Nat) (f:bR):∀ u∈eH f,u.oneCell'=true:=by
  intro u hu
  simp only [eH,List.mem_cons,List.not_mem_nil,or_false] at hu
  rcases hu with rfl|rfl<;>rfl
theorem ML (_:Nat) (a:cI):∀ u∈fF a,u.oneCell'=true:=by
  intro u hu
  simp only [fF,List.mem_cons,List.not_mem_nil,or_false] at hu
  rcases hu with rfl|rfl|rfl|rfl|rfl<;>rfl
theorem Bw {α:Type} (f:α->List Value) (a:α) (ys:List α):bN f (ys++[a])=bN f ys++f a:=by
  have:∀ (k:Nat) (ys:List α),cY (fun _ x=>f x) k (ys++[a])=cY (fun _ x=>f x) k ys++f a:=fun k ys=>by
    induction ys generalizing k with
    | nil=>exact List.append_nil _
    | cons y r ih=>show f y++cY _ (k+1) (r++[a])=(f y++cY _ (k+1) r)++f a;rw [ih,List.append_assoc]
  exact this 0 ys
theorem Dv {α:Type} {f:α->List Value} {s:Nat} (hf:∀ a,(f a).length=s):∀ xs:List α,(bN f xs).length=xs.length * s:=fun xs=>by
  have:∀ (k:Nat) (xs:List α),(cY (fun _ x=>f x) k xs).length=xs.length * s:=fun k xs=>by
    induction xs generalizing k with
    | nil=>simp [cY]
    | cons y r ih=>show (f y++cY _ (k+1) r).length=_;rw [List.length_append,ih,hf,List.length_cons,Nat.succ_mul,Nat.add_comm]
  exact this 0 xs
structure AZ where
  A:Int->Option Addr
  c:Int->Nat
def AZ.none:AZ:=⟨fun _=>Option.none,fun _=>0⟩
def AZ.put (Z:AZ) (n:Int) (B:Option Addr) (k:Nat):AZ:=⟨fun x=>if x=n then B else Z.A x,fun x=>if x=n then k else Z.c x⟩
def aA (Z:AZ) (xs:List cI) (n:Int):Option Addr:=if bO xs n=[] then .none else Z.A n
def aC (Z:AZ) (xs:List cI) (n:Int):Nat:=if bO xs n=[] then 0 else Z.c n
def zz:Int->Nat
  | .ofNat n=>2 * n
  | .negSucc n=>2 * n+1
def yX (k:Nat):Int:=if k % 2=0 then .ofNat (k / 2) else .negSucc (k / 2)
def fH (Z:AZ) (xs:List cI):Lit->Option Value
  | .int .i64 n=>if bO xs n=[] then .none else some (.slice (aA Z xs n) (bO xs n).length (aC Z xs n))
  | _=>.none
def dV (fs:List bR):Lit->Option Value
  | .int .i64 n=>if gX fs n=0 then .none else some (.int .i64 (gX fs n))
  | _=>.none
abbrev zQ (Z:AZ) (xs:List cI) (n:Int):cu:=aH 41 5 (aA Z xs n) (bO xs n).length (aC Z xs n) (bN fF (bO xs n))
def mw (Z:AZ) (xs:List cI) (k:Nat):cu:=if bO xs (yX k)=[] then cu.none else zQ Z xs (yX k)
def jK (β:Bs) (Z:AZ) (xs:List cI):Prop:=∀ n,cM β (aA Z xs n) (bN fF (bO xs n))
section z
variable {Z:AZ} {xs:List cI} {n x:Int} {k c:Nat} {B:Option Addr} {a:cI} {β β':Bs} {l l':List HP} {w:World} {i j:Nat}
theorem Fz:∀ n,yX (zz n)=n
  | .ofNat n=>by show yX (2 * n)=_;unfold yX;rw [if_pos (by omega)];exact congrArg Int.ofNat (by omega)
  | .negSucc n=>by show yX (2 * n+1)=_;unfold yX;rw [if_neg (by omega)];exact congrArg Int.negSucc (by omega)
theorem QD (k:Nat):zz (yX k)=k:=by
  unfold yX
  split
  ·show 2 * (k / 2)=k;omega
  show 2 * (k / 2)+1=k;omega
theorem jK.le (h:jK β Z xs) (g:β.le β'):jK β' Z xs:=fun n=>(h n).le g
theorem zR:(fH Z xs (.int .i64 n)).getD (.slice .none 0 0)=.slice (aA Z xs n) (bO xs n).length (aC Z xs n):=by
  unfold fH
  by_cases h:bO xs n=[]
  ·simp only
   rw [if_pos h]
   unfold aA aC
   rw [if_pos h,if_pos h,h];rfl
  simp only
  rw [if_neg h];rfl
theorem Dw {fs:List bR}:(dV fs (.int .i64 n)).getD (.int .i64 0)=.int .i64 (gX fs n):=by
  unfold dV
  simp only
  split
  ·rename_i h;rw [h];rfl
  rfl
theorem MN:fH Z []=fun _=>.none:=funext fun l=>by
  unfold fH
  split<;>rfl
theorem KR:dV []=fun _=>.none:=funext fun l=>by
  unfold dV
  split<;>rfl
theorem tG {m:Int} (h:m≠a.at_):bO (xs++[a]) m=bO xs m:=by
  rw [yV,if_neg (fun e=>h e.symm)]
theorem tH:bO (xs++[a]) a.at_=bO xs a.at_++[a]:=by
  rw [yV,if_pos rfl]
theorem N6 {m:Int} (h:m≠a.at_):aA (Z.put a.at_ B c) (xs++[a]) m=aA Z xs m:=by
  unfold aA AZ.put
  rw [tG h]
  simp only
  rw [if_neg h]
theorem N7 {m:Int} (h:m≠a.at_):aC (Z.put a.at_ B c) (xs++[a]) m=aC Z xs m:=by
  unfold aC AZ.put
  rw [tG h]
  simp only
  rw [if_neg h]
theorem N8:aA (Z.put a.at_ B c) (xs++[a]) a.at_=B:=by
  unfold aA AZ.put
  rw [tH,if_neg (by simp)]
  simp
theorem N9:aC (Z.put a.at_ B c) (xs++[a]) a.at_=c:=by
  unfold aC AZ.put
  rw [tH,if_neg (by simp)]
  simp
theorem Hy {f g:Lit->Option Value} {v:Option Value} (hv:g (.int .i64 n)=v) (ho:∀ l,l≠.int .i64 n->g l=f l):upd f (.int .i64 n) v=g:=funext fun l=>by
  unfold upd
  by_cases h:l.sameKey (.int .i64 n)=true
  ·rw [if_pos h]
   have:l=.int .i64 n:=by
     cases l with
     | int q a=>simp [Lit.sameKey] at h;obtain⟨rfl,rfl⟩:=h;rfl
     | _=>simp [Lit.sameKey] at h
   rw [this,hv]
  rw [if_neg h,ho l (fun e=>h (by rw [e];simp [Lit.sameKey]))]
theorem MO:upd (fH Z xs) (.int .i64 a.at_) (some (.slice B ((bO xs a.at_).length+1) c))=fH (Z.put a.at_ B c) (xs++[a]):=by
  refine Hy ?_ (fun l h=>?_)
  ·unfold fH
   simp only
   rw [tH,if_neg (by simp),N8,N9,List.length_append];rfl
  unfold fH
  split
  ·rename_i m
   have hm:m≠a.at_:=fun e=>h (by rw [e])
   rw [tG hm,N6 hm,N7 hm]
  rfl
theorem KS {fs:List bR} {f:bR} (h:FK f) (h0:gX fs f.at_=0):upd (dV fs) (.int .i64 f.at_) (some (.int .i64 f.kind))=dV (fs++[f]):=by
  have hk:¬ f.kind=0:=by have:=h.1;omega
  refine Hy ?_ (fun l hl=>?_)
  ·unfold dV
   simp only
   have e:gX (fs++[f]) f.at_=f.kind:=by rw [rF,if_pos h0,if_pos (show f.at_=f.at_/\FK f from ⟨rfl,h⟩)]
   rw [e,if_neg hk]
  unfold dV
  split
  ·rename_i m
   have hm:¬ (f.at_=m/\FK f):=fun e=>hl (by rw [e.1])
   rw [rF,if_neg hm]
   by_cases h2:gX fs m=0
   ·rw [if_pos h2,h2]
   rw [if_neg h2]
  rfl
theorem vF {fs:List bR} {f:bR} (h:¬ FK f\/gX fs f.at_≠0):dV (fs++[f])=dV fs:=funext fun l=>by
  unfold dV
  split
  ·rename_i m
   have:gX (fs++[f]) m=gX fs m:=by
     rw [rF]
     by_cases h2:gX fs m=0
     ·rw [if_pos h2,if_neg (fun e=>?_),h2]
      rcases h with h|h
      ·exact h e.2
      exact h (by rw [e.1];exact h2)
     rw [if_neg h2]
   rw [this]
  rfl
theorem Sat.QE (h:Sat β l w):Sat β (l++[.abs (ax (mw AZ.none []))]) w:=h.DV _ (fun _=>if_pos rfl)
theorem Sat.OU (h:Sat β l w) (hp:l[i]?=some (.abs (ax (mw Z xs)))) (n:Int):Sat β (l.set i (.abs (ax (jY (mw Z xs) (zz n) cu.none)))++[.abs (zQ Z xs n)]) w:=by
  have h1:=h.Au hp (zz n)
  by_cases e:bO xs n=[]
  ·have e2:zQ Z xs n=aH 41 5 .none 0 0 []:=by
     unfold zQ aA aC
     rw [if_pos e,if_pos e,e];rfl
   rw [e2]
   exact (Sat.left h1).jO (e:=41) (size:=5)
  have e2:mw Z xs (zz n)=zQ Z xs n:=by
    unfold mw
    rw [Fz,if_neg e]
  rw [e2] at h1
  exact h1
theorem Sat.QF {idx:List Nat} (h:Sat β l w) (hp:l[i]?=some (.abs (ax (jY (mw Z xs) (zz a.at_) cu.none)))) (hq:l[j]?=some (.abs (aH 41 5 B ((bO xs a.at_).length+1) c (bN fF (bO xs a.at_)++fF a)))) (hn:bq (i::j::idx)=true) (hl:bT l idx=some l') :
    Sat β (.abs (ax (mw (Z.put a.at_ B c) (xs++[a])))::l') w:=by
  refine h.pX hp hq (fun _ _ h=>h) hn hl (zz a.at_) (fun x hx=>?_) ?_
  ·have hne:yX x≠a.at_:=fun e=>hx (by rw [← e,QD])
   unfold jY
   rw [if_neg hx]
   unfold mw zQ
   rw [tG hne,N6 hne,N7 hne]
  unfold mw zQ
  rw [Fz,tH,if_neg (by simp),N8,N9]
  rw [Bw,List.length_append];rfl
theorem jK.of {F:Fp} (h:(HP.abs (ax (mw Z xs))).h F w) (h1:∀ k,F k->β.O k) (h2:β.w0=w):jK β Z xs:=fun n=>by
  by_cases e:bO xs n=[]
  ·rw [e];exact fun j v hj=>by simp [bN,cY] at hj
  obtain⟨φ,g1,_,g3⟩:=h
  have h3:=g1 (zz n)
  unfold mw at h3
  rw [Fz,if_neg e] at h3
  exact cM.j9 h3 (fun k hk=>h1 k ((g3 k).2 ⟨_,hk⟩)) h2
end z
theorem FA {xs:List cI} {i:Nat} (h:i < xs.length):xs.take (i+1)=xs.take i++[act xs i]:=by
  rw [List.take_add_one,rP h];rfl
theorem vG {fs:List bR} {i:Nat} (h:i < fs.length):fs.take (i+1)=fs.take i++[jF fs i]:=by
  rw [List.take_add_one,yE h];rfl
theorem KT {n:Nat} (h:n<=9223372036854775807):(Lit.int .i64 (n:Int)).wf=true:=by
  simp [Lit.wf,IntKind.min,IntKind.max,IntKind.signed,IntKind.bits]
  omega
theorem MP {d:List UInt8} {m j:Nat} {v:Value} (h:(bX (d.take m))[j]?=some v):(bX d)[j]?=some v:=by
  unfold bX at h ⊢
  rw [List.getElem?_map] at h ⊢
  rw [List.getElem?_take] at h
  split at h
  ·exact h
  cases h
theorem Gr {β:Bs} {c:aB} (h:fL β c):fL β { c with data:=c.data.take (c.data.length / 2) }:=⟨h.hw,h.ow,h.nm,h.tx,fun j v hj=>h.da j v (MP hj),by
  show (c.data.take _).length<=_
  rw [List.length_take];have:=h.dl;omega,by
  show (c.data.take _).length<=c.dC
  rw [List.length_take];have:=h.dc;omega⟩
structure WG where
  w:Nat
  o:Nat
  q:Nat
  am:Nat
  km:Nat
  an:Nat
  kn:Nat
  f:Nat
  m:Nat
  t:Nat
  Z:AZ
structure WV where
  L:HL
  A:Option Addr
  c:Nat
abbrev wB (w o f:Nat) (root:Int) (A:Option Addr) (n c:Nat):HP:=.blk w [.iface 42 (vP w),vP f,.iface 180 (vP o),.int .i64 root,.slice A n c] 93
abbrev oB (o q f:Nat) (root:Int) (am n:Nat):HP:=.blk o [.iface 181 (vP q),vP f,.int .i64 root,.map (some am),.int .i64 n] 185
abbrev qB (q f km n:Nat):HP:=.blk q [.iface 54 (vP f),.map (some km),.int .i64 n] 183
abbrev aM (am an:Nat) (Z:AZ) (xs:List cI):HP:=.abs (aJ Tryz.prog 3 am (fH Z xs) an)
abbrev kM (km kn:Nat) (fs:List bR):HP:=.abs (aJ Tryz.prog 3 km (dV fs) kn)
abbrev tR (A:Option Addr) (c:Nat) (tr:List aB):HP:=.abs (aH 48 13 A tr.length c (bN bK tr))
abbrev wP (G:WG) (fs:List bR) (xs:List cI) (root:Int) (S:aG) (V:WV) (tr:List aB):List HP:=[wB G.w G.o G.f root V.A tr.length V.c,oB G.o G.q G.f root G.am tr.length,qB G.q G.f G.km tr.length,aM G.am G.an G.Z xs,kM G.km G.kn fs,tR V.A V.c tr]++pA G.f G.m G.t V.L S
def wA (G:WG) (fs:List bR) (xs:List cI) (root:Int) (S:aG) (V:WV) (tr:List aB):HP:=.abs (fM (wP G fs xs root S V tr))
def VB (β:Bs) (tr:List aB):Prop:=∀ c∈tr,bg β c.dA c.data/\c.data.length<=1048576
theorem Spec.one {P:Program} {β:Bs} {f:FuncId} {args:Array Value} {pre:List HP} {post:Value->List HP->Prop} (h:Spec P β f args pre post):Spec P β f args [.abs (fM pre)] (fun v l=>∃ l0,post v l0/\l=[.abs (fM l0)]):=by
  intro R w hS
  have h1:Sat β ([.abs R]++[.abs (fM pre)]) w:=Sat.turn hS
  refine (h R w (Sat.turn h1.p8)).mono ?_
  rintro e w' ⟨v,l,h2,h3,h4⟩
  exact⟨v,[.abs (fM l)],h2,⟨l,h3,rfl⟩,Sat.turn (Sat.fM (Sat.turn h4))⟩
theorem cq.one {P:Program} {β:Bs} {f:FuncId} {args:Array Value} {pre:List HP} {post:Bs->Value->List HP->Prop} (h:cq P β f args pre post):cq P β f args [.abs (fM pre)] (fun β' v l=>∃ l0,post β' v l0/\l=[.abs (fM l0)]):=by
  intro R w hS
  have h1:Sat β ([.abs R]++[.abs (fM pre)]) w:=Sat.turn hS
  refine (h R w (Sat.turn h1.p8)).mono ?_
  rintro e w' ⟨β',v,l,hle,h2,h3,h4⟩
  exact⟨β',v,[.abs (fM l)],hle,h2,⟨l,h3,rfl⟩,Sat.turn (Sat.fM (Sat.turn h4))⟩
theorem ai.Fy {β:Bs} {N:Nat} {Q:Post} {e:Exit} {fr:Fr} {hps cF:List HP} {Φ:Bs->Prop} (i:Nat) (idx:List Nat) (hp:hps[i]?=some (.abs (kD β Φ))) (hn:bq (i::idx)=true) (hl:bT hps idx=some cF) (K:∀ β':Bs,β.le β'->Φ β'->ai β' N Q e fr cF):ai β N Q e fr hps:=fun junk w hS=>by
  obtain⟨β',g1,g2,g3⟩:=(hS.pick (idx:=i::idx) (l':=.abs (kD β Φ)::cF) hn (by simp only [bT,hp,hl])).Fy
  exact K β' g1 g2 junk w g3
theorem cq.Jk {P:Program} {β:Bs} {f:FuncId} {args:Array Value} {pre:List HP} {Φ:Bs->Prop} {post:Bs->Value->List HP->Prop} (h:∀ β':Bs,β.le β'->Φ β'->cq P β' f args pre post):cq P β f args (.abs (kD β Φ)::pre) post:=by
  intro A w hS
  obtain⟨β',g1,g2,g3⟩:=Sat.Fy (l:=pre++[.abs A]) hS
  refine (h β' g1 g2 A w g3).mono ?_
  rintro e w' ⟨β'',v,l,hle,h2⟩
  exact⟨β'',v,l,g1.trans hle,h2⟩
theorem cq.QG {P:Program} {β:Bs} {f:FuncId} {args:Array Value} {R:List HP} {post:Bs->Value->List HP->Prop} (h:∀ β':Bs,qA β R β'->cq P β' f args [] post):cq P β f args R post:=by
  intro A w hS
  have h4:Sat β ([.abs A]++R) w:=Sat.turn hS
  obtain⟨β',g1,_,g3⟩:=h4.Ce
  refine (h β' g1 A w g3).mono ?_
  rintro e w' ⟨β'',v,l,hle,h2⟩
  exact⟨β'',v,l,g1.le.trans hle,h2⟩
theorem cq.QH {P:Program} {β:Bs} {f:FuncId} {args:Array Value} {pre:List HP} {post:Value->List HP->Prop} (h:cq P β f args pre (fun _ v l=>post v l)):Spec P β f args pre post:=by
  intro A w hS
  refine (h A w hS).mono ?_
  rintro e w' ⟨β',v,l,hle,h2,h3,h4⟩
  exact⟨v,l,h2,h3,h4.Ab hle⟩
theorem cq.QI {P:Program} {β:Bs} {f:FuncId} {args:Array Value} {pre:List HP} {post post':Bs->Value->List HP->Prop} (h:cq P β f args pre post) (hp:∀ β' v l,post β' v l->(l=[]/\post' β' v [])\/post' β' v [.abs (fM l)]):cq P β f args pre post':=by
  intro R w hS
  refine (h R w hS).mono ?_
  rintro e w' ⟨β',v,l,hle,h2,h3,h4⟩
  rcases hp β' v l h3 with ⟨rfl,h5⟩|h5
  ·exact⟨β',v,[],hle,h2,h5,h4⟩
  exact⟨β',v,[.abs (fM l)],hle,h2,h5,Sat.turn (Sat.fM (Sat.turn h4))⟩
end
section
open Go.RowKit Go.Maps bG aE
noncomputable def cO (X:FM) (ns:List aK) (root:Int):Int:=
  open Classical in
  if jb X then if bM ns then
    match ns.find? (fun n=>decide (n.id=root)) with
    | none=>141
    | some n=>if n.kind=2 then 0 else 173
  else 140 else 179
def sH (ns:List aK) (root:Int) (i:Nat):Prop:=i < ns.length/\(nd ns i).id=root/\∀ q,q < i->(nd ns q).id≠root
section n
variable {X:FM} {ns:List aK} {root:Int} {i:Nat}
theorem MQ (ns:List aK) (root:Int):(∃ i,sH ns root i)\/∀ q,q < ns.length->(nd ns q).id≠root:=by
  have key:∀ n,n<=ns.length->(∃ i,sH ns root i)\/∀ q,q < n->(nd ns q).id≠root:=fun n=>by
    induction n with
    | zero=>exact fun _=>.inr fun q h=>absurd h (Nat.not_lt_zero q)
    | succ n ih=>
      intro h
      rcases ih (by omega) with h1|h1
      ·exact .inl h1
      by_cases e:(nd ns n).id=root
      ·exact .inl ⟨n,by omega,e,h1⟩
      exact .inr fun q hq=>(Nat.lt_succ_iff_lt_or_eq.1 hq).elim (h1 q) (fun e2=>e2 ▸ e)
  exact key _ (Nat.le_refl _)
theorem Bx (h:sH ns root i):ns.find? (fun n=>decide (n.id=root))=some (nd ns i):=by
  obtain⟨h1,h2,h3⟩:=h
  rw [List.find?_eq_some_iff_getElem]
  have e:=getD_some (x:=default) h1
  have e2:ns[i]=nd ns i:=by rw [List.getElem?_eq_getElem h1] at e;exact Option.some.inj e
  refine⟨by simpa using h2,i,h1,e2,fun j hj=>?_⟩
  have e3:ns[j]=nd ns j:=by
    have:=getD_some (x:=default) (show j < ns.length by omega)
    rw [List.getElem?_eq_getElem (by omega)] at this;exact Option.some.inj this
  rw [e3]
  simpa using h3 j hj
theorem KU (h:∀ q,q < ns.length->(nd ns q).id≠root):ns.find? (fun n=>decide (n.id=root))=none:=by
  rw [List.find?_eq_none]
  intro n hn
  obtain⟨q,hq,e⟩:=List.mem_iff_getElem.1 hn
  have e3:ns[q]=nd ns q:=by
    have:=getD_some (x:=default) hq
    rw [List.getElem?_eq_getElem hq] at this;exact Option.some.inj this
  rw [← e,e3]
  simpa using h q hq
theorem Bz (h:¬ jb X):cO X ns root=179:=if_neg h
theorem xQ (h:jb X) (h2:¬ bM ns):cO X ns root=140:=(if_pos h).trans (if_neg h2)
theorem yY (h:jb X) (h2:bM ns) (h3:∀ q,q < ns.length->(nd ns q).id≠root):cO X ns root=141:=(if_pos h).trans ((if_pos h2).trans (by rw [KU h3]))
theorem BA (h:jb X) (h2:bM ns) (h3:sH ns root i) (h4:(nd ns i).kind=2):cO X ns root=0:=(if_pos h).trans ((if_pos h2).trans (by rw [Bx h3];exact if_pos h4))
theorem BB (h:jb X) (h2:bM ns) (h3:sH ns root i) (h4:¬ (nd ns i).kind=2):cO X ns root=173:=(if_pos h).trans ((if_pos h2).trans (by rw [Bx h3];exact if_neg h4))
theorem Dx (h:cO X ns root=0):jb X/\bM ns:=by
  by_cases h1:jb X
  ·by_cases h2:bM ns
   ·exact⟨h1,h2⟩
   rw [xQ h1 h2] at h;exact absurd h (by decide)
  rw [Bz h1] at h;exact absurd h (by decide)
end n
end
section
open Go.RowKit Go.Maps bG aE
attribute [local irreducible] aj aP af ai
noncomputable abbrev sI (b:Nat) (root):=(.blk b [vI (root)] 3:HP)
theorem MR {β:Bs} (b:Nat) (root z:Int) (v1 v2 v3 v4 v5 v6 v7 v8 v9:Value) :
    Spec Tryz.prog β 82 #[.agg #[vI (z),v1,v2,v3,v4,v5,v6,v7,v8,v9],vP b] [sI b root] (fun v l=>v=.bool (decide (z=root))/\l=[sI b root]):=by
 refine Spec.enter Tryz.func82 rfl Tryz.ntmps82 (Nat.le_of_ble_eq_true rfl) (fun R=>?_)
 refine SR (gN 2 (fun b1=>[(2,vP b1)]) (fun _=>[]) (fun _=>[]) (fun b1=>.blk b1 [vI (z),v1,v2,v3,v4,v5,v6,v7,v8,v9] 70) (fun b1=>?_))
 refine NS (gK 5 [(3,.bool (decide ((z:Int)=(root:Int))))] [(1,a_ 2 b1),(2,a_ 0 b)] ?_)
 refine NN (af.ret ?_)
 exact RT (.bool (decide ((z:Int)=(root:Int)))) [0,1] (⟨rfl,rfl⟩)
theorem FB {β:Bs} (A:Option Addr) (c:Nat) (ns:List aK) (Y:Lay) (hG:ay β A ns Y) (hl:ns.length<=1048576) (b:Nat) (root:Int) :
    Spec Tryz.prog β 81 #[.slice A (ns.length) (c),.func (.func 82) #[] #[vP b]] [sI b root] (fun v l=>(∃ i:Nat,sH ns root i/\v=vI (i:Int)/\l=[sI b root])\/((∀ q,q < ns.length->(nd ns q).id≠root)/\v=vI (-1)/\l=[sI b root])):=by
 refine Spec.enter Tryz.func81 rfl Tryz.ntmps81 (Nat.le_of_ble_eq_true rfl) (fun R=>?_)
 refine SR (gK 1 [] [] ?_)
 refine NN (af.seq (SR (gK 3 [(7,vI ↑ns.length),(8,vI 0)] [] ?_)))
 refine NN (af.block ?_)
 refine af.loop (ι:=Nat) (fun (i:Nat)=>(i<=ns.length)/\(∀ q,q < i->(nd ns q).id≠root)) (fun (i:Nat)=>ns.length - i) (fun (i:Nat)=>[(0,.slice A (ns.length) (c)),(1,.func (.func 82) #[] #[vP b]),(7,vI ↑ns.length),(8,vI ↑i)]) (fun (i:Nat)=>[sI b root,.abs R]) 0 (idx:=[0,1,7,8]) (pk:=[0,1]) (show (0<=ns.length)/\(∀ q,q < 0->(nd ns q).id≠root) from ⟨Nat.zero_le _,fun q h=>absurd h (Nat.not_lt_zero q)⟩) (fun _=>by kernel_rfl) rfl (by kernel_rfl) ?_
 rintro i ⟨hi,hlt⟩
 show af _ _ _ _ [(0,.slice A (ns.length) (c)),(1,.func (.func 82) #[] #[vP b]),(7,vI ↑ns.length),(8,vI ↑i)] [sI b root,.abs R] _
 refine SR (gK 1 [(9,.bool (decide ((((i:Nat):Int):Int) < (((ns.length:Nat):Int):Int))))] [] ?_)
 refine NN (af.seq (af.aZ (p:=(((i:Nat):Int):Int) < (((ns.length:Nat):Int):Int)) (fun _=>by kernel_rfl) (fun h9=>?_) (fun h9=>?_)))
 ·refine af.skip (NX (af.seq (af.block (SR ?_))))
  refine gK 2 [(5,vI ↑i)] [] ?_
  refine NS (gK 5 [(11,.func (.func 82) #[] #[vP b]),(15,.agg #[vI ((nd ns i).id),vI ((nd ns i).kind),vI ((nd ns i).mode),vI ((nd ns i).uid),vI ((nd ns i).gid),vI ((nd ns i).sec),vI ((nd ns i).nano),.slice (Y.dA i) ((nd ns i).data.length) ((Y.dC i)),.string (nd ns i).target,.slice (Y.eA i) ((nd ns i).ah.length) ((Y.eC i))])] [(3,p_ ⟨[],some i,none,some ⟨(av A),au A,none⟩,none⟩ [((i:Nat):Int)=((i:Nat):Int),i < ns.length,(⟨(av A),au A,none⟩:Addr).spot=none,(A:Option Addr)=some ⟨(av A),au A,none⟩] ⟨rfl,by omega,rfl,ay.hd hG (i:=i) (by omega),trivial⟩),(4,p_ ⟨[.old (.int .i64 ((nd ns i).id)),.old (.int .i64 ((nd ns i).kind)),.old (.int .i64 ((nd ns i).mode)),.old (.int .i64 ((nd ns i).uid)),.old (.int .i64 ((nd ns i).gid)),.old (.int .i64 ((nd ns i).sec)),.old (.int .i64 ((nd ns i).nano)),.old (.slice (Y.dA i) ((nd ns i).data.length) ((Y.dC i))),.old (.string (nd ns i).target),.old (.slice (Y.eA i) ((nd ns i).ah.length) ((Y.eC i)))],none,none,none,none⟩ [(Rd β ⟨(av A),au A+i * 10+9,none⟩ (.slice (Y.eA i) ((nd ns i).ah.length) ((Y.eC i)))),(Rd β ⟨(av A),au A+i * 10+8,none⟩ (.string (nd ns i).target)),(Rd β ⟨(av A),au A+i * 10+7,none⟩ (.slice (Y.dA i) ((nd ns i).data.length) ((Y.dC i)))),(Rd β ⟨(av A),au A+i * 10+6,none⟩ (.int .i64 ((nd ns i).nano))),(Rd β ⟨(av A),au A+i * 10+5,none⟩ (.int .i64 ((nd ns i).sec))),(Rd β ⟨(av A),au A+i * 10+4,none⟩ (.int .i64 ((nd ns i).gid))),(Rd β ⟨(av A),au A+i * 10+3,none⟩ (.int .i64 ((nd ns i).uid))),(Rd β ⟨(av A),au A+i * 10+2,none⟩ (.int .i64 ((nd ns i).mode))),(Rd β ⟨(av A),au A+i * 10+1,none⟩ (.int .i64 ((nd ns i).kind))),(Rd β ⟨(av A),au A+i * 10,none⟩ (.int .i64 ((nd ns i).id)))] ⟨ay.rd hG (i:=i) (by omega) (j:=9) rfl,ay.rd hG (i:=i) (by omega) (j:=8) rfl,ay.rd hG (i:=i) (by omega) (j:=7) rfl,ay.rd hG (i:=i) (by omega) (j:=6) rfl,ay.rd hG (i:=i) (by omega) (j:=5) rfl,ay.rd hG (i:=i) (by omega) (j:=4) rfl,ay.rd hG (i:=i) (by omega) (j:=3) rfl,ay.rd hG (i:=i) (by omega) (j:=2) rfl,ay.rd hG (i:=i) (by omega) (j:=1) rfl,ay.rd hG (i:=i) (by omega) (j:=0) rfl,trivial⟩)] ?_)
  refine gL [0] (MR b root ((nd ns i).id) (.int .i64 ((nd ns i).kind)) (.int .i64 ((nd ns i).mode)) (.int .i64 ((nd ns i).uid)) (.int .i64 ((nd ns i).gid)) (.int .i64 ((nd ns i).sec)) (.int .i64 ((nd ns i).nano)) (.slice (Y.dA i) ((nd ns i).data.length) ((Y.dC i))) (.string (nd ns i).target) (.slice (Y.eA i) ((nd ns i).ah.length) ((Y.eC i)))) ?_
  rintro _ _ ⟨rfl,rfl⟩
  refine NN (af.aZ (p:=(nd ns i).id=root) (fun _=>by kernel_rfl) (fun ul=>?_) (fun ul=>?_))
  ·refine SR (gK 2 [(4,vI ↑i)] [] ?_)
   refine NN (af.ret (ai.aF (ai.ak (ai.ak (ai.aF (ai.ak ?_))))))
   exact RT (vI ↑i) [0,1] (.inl ⟨i,⟨by omega,ul,hlt⟩,rfl,rfl⟩)
  refine af.skip (ai.aN (NX (af.region ?_)))
  refine gK 2 [(8,vI ↑(i+1))] [(0,p_ ⟨[],none,none,none,some (vI ↑(i+1))⟩ [(Value.int .i64 (IntKind.wrap .i64 (((i:Nat):Int)+1)))=(.int .i64 ↑(i+1))] ⟨bD (by omega) (by omega) (by omega),trivial⟩)] ?_
  refine NL ?_
  exact ai.turn ((i+1)) (idx:=[0,1,7,8]) (pk:=[0,1]) (show (((i+1))<=ns.length)/\(∀ q,q < ((i+1))->(nd ns q).id≠root) from ⟨by omega,fun q hq=>(Nat.lt_succ_iff_lt_or_eq.1 hq).elim (hlt q) (fun e=>e ▸ ul)⟩) (by show ns.length - ((i+1)) < ns.length - i;omega) (fun _=>by kernel_rfl) rfl (by kernel_rfl)
 refine af.exit (ai.aX (ai.aX (ai.cP (NX (SR ?_)))))
 refine gK 1 [(4,vI (-1))] [] ?_
 refine NN (af.ret ?_)
 exact RT (vI (-1)) [0,1] (.inr ⟨fun q hq=>hlt q (by omega),rfl,rfl⟩)
theorem QJ {β:Bs} (b:Nat) :
    Spec Tryz.prog β 83 #[.iface 42 (vP b)] [] (fun v l=>v=.agg #[.iface 42 (vP b)]/\l=[]):=by
 refine Spec.enter Tryz.func83 rfl Tryz.ntmps83 (Nat.le_of_ble_eq_true rfl) (fun R=>?_)
 refine SR (gN 1 (fun b2=>[(2,vP b2)]) (fun _=>[]) (fun _=>[]) (fun b2=>.blk b2 [.nilIface] 90) (fun b2=>?_))
 refine NS (gC 3 [] [(2,a_ 1 b2)] [(1,[(0,.iface 42 (vP b))])] ?_)
 refine NN (af.ret ?_)
 exact ai.ret (v:=.agg #[.iface 42 (vP b)]) (l:=[]) (bA:=[b2=b2]) [.at 1] [0] (fun _=>by kernel_rfl) ⟨rfl,trivial⟩ rfl (by kernel_rfl) (⟨rfl,rfl⟩)
end
section
open Go.RowKit Go.Maps bG aE
theorem MS {b:UInt8} (h0:¬ b=0) (h1:¬ b=47) (h2:¬ b=46):bI ⟨#[b]⟩:=by
  refine⟨Nat.le_refl _,(by show 1<=255;decide),fun e=>h2 ?_,fun e=>?_,fun j hj=>?_⟩
  ·injection e with e
   have e:[b]=[46]:=congrArg Array.toList e
   injection e
  ·injection e with e
   have e:[b]=[46,46]:=congrArg Array.toList e
   injection e with _ e
   cases e
  have:j=0:=by have hj:j < 1:=hj;omega
  subst this
  show ¬ b.toNat=0/\¬ b.toNat=47
  exact⟨fun e=>h0 (UInt8.toNat_inj.1 e),fun e=>h1 (UInt8.toNat_inj.1 e)⟩
theorem Dy:dL 0 0:=⟨by decide,by decide,by decide,by decide,by decide⟩
def FC (room:Int):FM:=⟨9,room,9,0,0,0,0,0⟩
theorem OV {room:Int} (h:0<=room/\room<=1099511627776):jb (FC room):=⟨by show (0:Int)<=9/\(9:Int)<=4096;decide,h,by show (0:Int)<=9/\(9:Int)<=1024;decide,Dy⟩
section ops
variable {S:aG} {c:aB} {t:Th} {d:Nat}
theorem MT {O:bY} {us:Used Th} {h:Int} {name:ByteArray} {need:Int} (h1:aE.get us h=some t) (h2:t.kind=2) (h3:(obj O t.k).gone=false) (h4:bI name) (h5:bits BinOp.and .i64 (obj O t.k).mode need=need):dU O us h name need=.ok t.k:=by
  unfold dU
  rw [h1]
  simp only
  rw [if_pos h2,if_neg (by rw [h3];decide),if_pos h4,if_pos h5]
theorem OW (hop:c.op=1) (h1:aE.get S.idx c.other=some t) (h2:t.kind=2) (h3:(S.us.length:Int) < S.X.cH):bQ S c=({ S with O:=aD S.O t.k (fun o=>{ o with opens:=o.opens+1 }),us:=ins (least S.us) t S.us,ar:=max S.ar ((S.us.length:Int)+1) },{ c with answer:=least S.us,code:=0 }):=by
  unfold bQ
  rw [vm (by exact hop)]
  unfold jl
  simp only
  rw [h1]
  simp only
  rw [if_pos h2,kG h3]
theorem MU (hop:c.op=4) (ha:dU S.O S.us c.handle c.name 192=.ok d) (hm:nB c.mode) (hl:aT c.name (obj S.O d).ah=none) (hr:Room S.X S.idx):bQ S c=(eP S d c.name (aU S.X 2 c.mode),{ c with answer:=0,code:=0 }):=by
  unfold bQ
  rw [vn (by exact hop)]
  unfold fQ
  simp only
  rw [ha]
  simp only
  rw [if_pos hm]
  unfold gF bZ
  rw [if_pos hl,if_pos hr,if_pos rfl]
end ops
structure VD (room:Int) (S:aG):Prop where
  inv:Inv S
  idx:S.idx=[(1,⟨1,2⟩),(2,⟨2,1⟩)]
  us:S.us=[]
  X:S.X=⟨9,room,9,0,0,2,1,0⟩
  o1:∃ l u,obj S.O 1=⟨1,493,0,0,0,0,l,0,false,2,[],⟨#[]⟩,[(⟨#[102]⟩,⟨2,1⟩)],u⟩
  o2:∃ u,obj S.O 2=⟨2,420,0,0,0,0,1,0,false,1,[],⟨#[]⟩,[],u⟩
theorem QK:bI ⟨#[100]⟩:=MS (by decide) (by decide) (by decide)
theorem QL:bits BinOp.and .i64 493 192=192:=by kernel_rfl
section chain
variable {room:Int} {S:aG}
def S1 (S:aG):aG:={ S with O:=aD S.O 1 (fun o=>{ o with opens:=o.opens+1 }),us:=[(1,⟨1,2⟩)],ar:=max S.ar 1 }
theorem TY:obj (S1 S).O 1={ obj S.O 1 with opens:=(obj S.O 1).opens+1 }:=rfl
structure V0 (room:Int) (ds:List UInt8) (S:aG):Prop where
  inv:Inv S
  idx:S.idx=[(1,⟨1,2⟩),(2,⟨2,1⟩)]
  us:S.us=[(1,⟨1,2⟩),(2,⟨2,1⟩)]
  X:S.X=⟨9,room,9,0,0,2,1,ds.length⟩
  o1:∃ l n u,obj S.O 1=⟨1,493,0,0,0,0,l,n,false,2,[],⟨#[]⟩,[(⟨#[102]⟩,⟨2,1⟩)],u⟩
  o2:∃ u,obj S.O 2=⟨2,420,0,0,0,0,1,1,false,1,ds,⟨#[]⟩,[],u⟩
structure V1 (ds:List UInt8) (S:aG):Prop where
  inv:Inv S
  idx:S.idx=[(1,⟨1,2⟩),(2,⟨2,1⟩)]
  us:S.us=[(1,⟨1,2⟩),(2,⟨2,1⟩)]
  used:S.X.used=ds.length
  o2:∃ s z u,obj S.O 2=⟨2,420,0,0,s,z,0,1,true,1,ds,⟨#[]⟩,[],u⟩
end chain
end
section
open Go.RowKit Go.Maps bG aE
attribute [local irreducible] aj aP af ai
theorem BD {β:Bs} (A:Option Addr) (c:Nat) (d:List UInt8) (hA:bg β A d) (hl:d.length<=1048576) :
    Spec Tryz.prog β 43 #[.slice A d.length c] [] (fun v l=>∃ B cap,v=.slice B d.length cap/\l=[.abs (aH 5 1 B d.length cap (bX d))]):=by
 refine Spec.enter Tryz.func43 rfl Tryz.ntmps43 (Nat.le_of_ble_eq_true rfl) (fun R=>?_)
 refine SR (gK 1 [] [] ?_)
 refine NS (gN 2 (fun b1=>[(3,.slice (some ⟨b1,0,none⟩) (0) (0))]) (fun _=>[]) (fun _=>[]) (fun b1=>.blk b1 [] 5) (fun b1=>?_))
 refine NS (aj.mem (fun w hS=>hS.qX (i:=1) (b:=b1) (cs:=[]) (e:=5) 1 0 (by kernel_rfl) rfl (by decide)) ?_)
 refine gK 2 [(5,.slice (some ⟨b1,0,none⟩) (0) (0)),(6,.slice A (d.length) (c))] [] ?_
 refine aj.append 1 (d:=(some 7)) (t:=46) (e:=5) (z:=.int .u8 0) (size:=1) (bytes:=1) (n:=0) (cap:=0) (A:=some ⟨b1,0,none⟩) (xs:=[]) (s:=(.tmp 5)) (x:=(.tmp 6)) (ats:=#[46,46]) (A':=A) (m:=d.length) (c':=c) (news:=(bX d)) (fun _=>by kernel_rfl) rfl (by kernel_rfl) (fun _=>by kernel_rfl) (fun _=>by kernel_rfl) Tryz.underlying46 (by kernel_rfl) rfl (by decide) (by rw [qY,Nat.mul_one]) (nG d) (hA.src) (by unfold maxLen;omega) (by omega) (fun A2 c3=>?_)
 refine aj.dK 1 (p:=.abs (aH 5 1 A2 (0+d.length) c3 ([]++(bX d)))) (p':=.abs (aH 5 1 A2 d.length c3 (bX d))) (by kernel_rfl) (by rw [Nat.zero_add,List.nil_append]) ?_
 refine aj.slot 7 (.slice A2 (0+d.length) (c3)) (.slice A2 (d.length) (c3)) (fun _=>by kernel_rfl) (by rw [Nat.zero_add]) ?_
 refine gK 1 [(3,.slice A2 (d.length) (c3))] [] ?_
 refine NS (gK 2 [(2,.slice A2 (d.length) (c3))] [] ?_)
 refine NN (af.ret ?_)
 exact RT (.slice A2 (d.length) (c3)) [1,0] (⟨A2,c3,rfl,rfl⟩)
end
section
open Go.RowKit Go.Maps bG aE
theorem Spec.BF {P:Program} {β:Bs} {f:FuncId} {args:Array Value} {pre:List HP} {post:Value->List HP->Prop} {Ψ:Bs->Value->List HP->Prop} (h:Spec P β f args pre post) (wv:∀ v l,post v l->∃ l1 l2,l=l1++l2/\∀ β',qA β l2 β'->Ψ β' v l1):cq P β f args pre Ψ:=by
  intro A w hS
  refine (h A w hS).mono ?_
  rintro e w' ⟨v,l,h1,h2,h3⟩
  obtain⟨l1,l2,rfl,hl⟩:=wv v l h2
  have h4:Sat β (([.abs A]++l1)++l2) w':=by rw [List.append_assoc];exact Sat.turn h3
  obtain⟨β',g1,_,g3⟩:=h4.Ce
  exact⟨β',v,l1,g1.le,h1,hl β' g1,Sat.turn g3⟩
section c
variable {β:Bs} {S S2:aG} {L:HL} {f m t:Nat} {c c2:aB}
theorem Jm (hI:Inv S):cq Tryz.prog β 25 #[vP f] [pF f m t S.X,pI m L S.idx,pO S.O L,pD S.O L,pE S.O L] (fun β' v l=>∃ A cp K,v=.agg #[.slice A (aS S).length cp]/\l=[pF f m t S.X,pI m L S.idx,pO S.O L,pD S.O L,pE S.O L]/\ay β' A (aS S) K):=
  (Dq S L f m t hI).BF (by
    rintro v l ⟨A,cp,K,rfl,rfl⟩
    exact⟨_,_,rfl,fun β' h=>⟨A,cp,K,rfl,rfl,h.graph⟩⟩)
theorem DR (A:Option Addr) (cp:Nat) (d:List UInt8) (hA:bg β A d) (hl:d.length<=1048576):cq Tryz.prog β 43 #[.slice A d.length cp] [] (fun β' v l=>∃ B cap,v=.slice B d.length cap/\l=[]/\bg β' B d/\d.length<=cap):=
  (BD A cp d hA hl).BF (by
    rintro v l ⟨B,cap,rfl,rfl⟩
    refine⟨[],_,rfl,fun β' h=>⟨B,cap,rfl,rfl,h.bytes,?_⟩⟩
    obtain⟨F,h1,_⟩:=h.get 0 rfl
    exact (aH.len h1).2)
end c
end
section
open Go.RowKit Go.Maps bG aE
section at_
variable {S:aG} {i j:Nat}
theorem MV (hi:i < S.idx.length):nd (aS S) i=yD S.O (cL S i) (lI S i):=by
  unfold nd aS
  rw [List.getD_eq_getElem?_getD,List.getElem?_map,Bj hi];rfl
end at_
end
section
open Go.RowKit bG aE Go.Maps
section ints
variable {β:Bs} {A:Option Addr} {l:List Int} {j:Nat}
end ints
theorem FD {β:Bs} (t:Nat) (most ar:Int) (L:HL) (us:Used Th) :
    Spec Tryz.prog β 70 #[.pointer (some ⟨t,0,none⟩)] [.abs (bS 197 t most ar (aV L us))] (fun v l=>∃ A c,v=.slice A us.length c/\l=[.abs (bS 197 t most ar (aV L us)),.abs (aH 3 1 A us.length c (ints (keys us)))]):=by
  have h:=EL (β:=β) t most ar (aV L us)
  have e:keys (aV L us)=keys us:=keys_map (dz L) us
  have e2:(keys us).length=us.length:=List.length_map ..
  rw [e,e2] at h
  exact h
theorem MW {S:aG} (h:Inv0 S):∀ i,i < (aS S).length->(nd (aS S) i).data.length<=140737488355328/\(nd (aS S) i).ah.length<=1048576:=fun i hi=>by
  rw [oJ] at hi
  have h1:(obj S.O (lI S i).k).data.length<=bytes S.idx S.O:=lF (g:=fun p:Int×Th=>(obj S.O p.2.k).data.length) (get_at h hi)
  have h2:(obj S.O (lI S i).k).ah.length<=tot S.idx S.O:=lF (g:=fun p:Int×Th=>(obj S.O p.2.k).ah.length) (get_at h hi)
  have h3:=h.used
  have h4:=h.total
  rw [MV hi]
  refine⟨by show (obj S.O (lI S i).k).data.length<=_;omega,?_⟩
  show ((obj S.O (lI S i).k).ah.map _).length<=_
  rw [List.length_map]
  omega
theorem wh {β:Bs} (A:Option Addr) (c:Nat) (ns:List aK) (L:Lay) (hG:ay β A ns L) (hl:ns.length<=1048576) (hd:∀ i,i < ns.length->(nd ns i).data.length<=1048576/\(nd ns i).ah.length<=1048576) :
    Spec Tryz.prog β 22 #[.agg #[.slice A ns.length c]] [] (fun v l=>∃ B cap,v=.agg #[.slice B ns.length cap]/\l=[.abs (kD β (fun β'=>∃ K,ay β' B ns K))]):=
  (cq.N5 (ι:=Option Addr×Nat) (vv:=fun x=>.agg #[.slice x.1 ns.length x.2]) (ll:=fun _=>[]) (Φ:=fun x β'=>∃ K,ay β' x.1 ns K)
    ((wH A c ns L hG hl hd).mono (by rintro β' v l _ ⟨B,cap,K,rfl,rfl,h⟩;exact⟨(B,cap),rfl,rfl,K,h⟩))).mono (by rintro v l ⟨⟨B,cap⟩,rfl,rfl⟩;exact⟨B,cap,rfl,rfl⟩)
end
section
open Go.RowKit Go.Maps bG aE
attribute [local irreducible] aj aP af ai
theorem Dz {β:Bs} (S:aG) (L:HL) (f m t:Nat):Spec Tryz.prog β 26 #[vP f] [pF f m t S.X,pT t S.X.cH S.ar L S.us] (fun v l=>∃ A c,v=.slice A S.us.length c/\l=[pF f m t S.X,pT t S.X.cH S.ar L S.us,.abs (aH 3 1 A S.us.length c (ints (keys S.us)))]):=by
 refine Spec.enter Tryz.func26 rfl Tryz.ntmps26 (Nat.le_of_ble_eq_true rfl) (fun R=>?_)
 refine SR (gK 1 [] [] ?_)
 refine NS (gK 4 [(6,vP t)] [(3,a_ 0 f)] ?_)
 refine gL [1] (FD t S.X.cH S.ar L S.us) ?_
 rintro _ _ ⟨A,c,rfl,rfl⟩
 refine gK 1 [(2,.slice A (S.us.length) (c))] [] ?_
 refine NN (af.ret ?_)
 exact RT (.slice A (S.us.length) (c)) [2,0,1,3] (⟨A,c,rfl,rfl⟩)
theorem FE {β:Bs} (S:aG) (L:HL) (f m t:Nat):Spec Tryz.prog β 28 #[vP f] [pF f m t S.X,pT t S.X.cH S.ar L S.us] (fun v l=>v=vI S.ar/\l=[pF f m t S.X,pT t S.X.cH S.ar L S.us]):=by
 refine Spec.enter Tryz.func28 rfl Tryz.ntmps28 (Nat.le_of_ble_eq_true rfl) (fun R=>?_)
 refine SR (gK 1 [] [] ?_)
 refine NS (gK 4 [(6,vP t)] [(3,a_ 0 f)] ?_)
 refine gL [1] (J2 t S.X.cH S.ar (aV L S.us)) ?_
 rintro _ _ ⟨rfl,rfl⟩
 refine gK 1 [(2,vI (S.ar))] [] ?_
 refine NN (af.ret ?_)
 exact RT (vI (S.ar)) [1,0,2] (⟨rfl,rfl⟩)
end
section
open Go.RowKit bG aE Go.Maps
abbrev qI (X:FM) (ns:List aK):={ S:aG // fe X ns ns.length 0 S }
theorem Jo {β:Bs} (S:aG) (L:HL) (f m t:Nat):cq Tryz.prog β 26 #[vP f] [pF f m t S.X,pT t S.X.cH S.ar L S.us] (fun β' v l=>∃ A c,v=.slice A S.us.length c/\l=[pF f m t S.X,pT t S.X.cH S.ar L S.us]/\cM β' A (ints (keys S.us))):=
  (Dz S L f m t).BF (by
    rintro v l ⟨A,c,rfl,rfl⟩
    refine⟨[_,_],_,rfl,fun β' h=>⟨A,c,rfl,rfl,?_⟩⟩
    obtain⟨F,h1,h2⟩:=h.get 0 rfl
    exact cM.j9 h1 h2 rfl)
theorem zG (us:Used Th):us.length=(keys us).length:=(List.length_map ..).symm
theorem MX {S:aG} (h:Inv0 S):(aS S).length<=1048576:=by
  rw [oJ]
  have:=h.len
  omega
end
section
open Go.RowKit Go.Maps bG aE
section m
variable {β:Bs} {ns:List aK} {Y:Lay} {X:FM} {root:Int}
theorem FH (hcap:jb X) (hok:bM ns) (A:Option Addr) (c:Nat) (hG:ay β A ns Y) (hB:fW ns 1048576) :
    Spec Tryz.prog β 21 #[.agg #[.slice A ns.length c],.agg #[.int .i64 X.cN,.int .i64 X.cB,.int .i64 X.cH,.int .i64 X.cS,.int .i64 X.cZ]] [] (fun v l=>∃ (S:qI X ns) (f m t:Nat) (L:HL),v=.tuple #[.pointer (some ⟨f,0,none⟩),.int .i64 0]/\l=pA f m t L S.1):=
  (Hs A c ns Y hG (vE hB) (Br hB) (KM hB) (KN hB) X).mono (by
    rintro v l (⟨h,_⟩|⟨_,h,_⟩|⟨_,_,h⟩)
    ·exact absurd hcap h
    ·exact absurd hok h
    obtain⟨S,f,m,t,L,h1,h2,h3⟩:=h
    exact⟨⟨S,h1⟩,f,m,t,L,h2,h3⟩)
theorem MY (MZ:¬ (jb X/\bM ns)) (A:Option Addr) (c:Nat) (hG:ay β A ns Y) (hB:fW ns 1048576) :
    Spec Tryz.prog β 21 #[.agg #[.slice A ns.length c],.agg #[.int .i64 X.cN,.int .i64 X.cB,.int .i64 X.cH,.int .i64 X.cS,.int .i64 X.cZ]] [] (fun v l=>v=.tuple #[.pointer none,.int .i64 (cO X ns root)]/\l=[]):=
  (Hs A c ns Y hG (vE hB) (Br hB) (KM hB) (KN hB) X).mono (by
    rintro v l (⟨h,h1,h2⟩|⟨h,h',h1,h2⟩|⟨h1,h2,_⟩)
    ·exact⟨by rw [Bz h];exact h1,h2⟩
    ·exact⟨by rw [xQ h h'];exact h1,h2⟩
    exact absurd ⟨h1,h2⟩ MZ)
theorem BG (MZ:¬ (jb X/\bM ns)):cO X ns root≠0:=fun h=>MZ (Dx h)
theorem KV {i:Nat} (hi:sH ns root i) (A:Option Addr) (c:Nat) (hG:ay β A ns Y) (hB:fW ns 1048576) (b:Nat) :
    Spec Tryz.prog β 81 #[.slice A ns.length c,.func (.func 82) #[] #[.pointer (some ⟨b,0,none⟩)]] [.blk b [.int .i64 root] 3] (fun v l=>v=.int .i64 (i:Int)/\l=[.blk b [.int .i64 root] 3]):=
  (FB A c ns Y hG (vE hB) b root).mono (by
    rintro v l (⟨j,hj,h1,h2⟩|⟨h,_⟩)
    ·have e:i=j:=by
       obtain⟨a1,a2,a3⟩:=hi
       obtain⟨b1,b2,b3⟩:=hj
       rcases Nat.lt_trichotomy i j with h|h|h
       ·exact absurd a2 (b3 i h)
       ·exact h
       exact absurd b2 (a3 j h)
     subst e
     exact⟨h1,h2⟩
    exact absurd hi.2.1 (h i hi.1))
theorem M0 (hi:∀ q,q < ns.length->(nd ns q).id≠root) (A:Option Addr) (c:Nat) (hG:ay β A ns Y) (hB:fW ns 1048576) (b:Nat) :
    Spec Tryz.prog β 81 #[.slice A ns.length c,.func (.func 82) #[] #[.pointer (some ⟨b,0,none⟩)]] [.blk b [.int .i64 root] 3] (fun v l=>v=.int .i64 (-1)/\l=[.blk b [.int .i64 root] 3]):=
  (FB A c ns Y hG (vE hB) b root).mono (by
    rintro v l (⟨j,hj,_⟩|⟨_,h1,h2⟩)
    ·exact absurd hj.2.1 (hi j hj.1)
    exact⟨h1,h2⟩)
end m
end
section
open Go.RowKit Go.Maps bG aE
attribute [local irreducible] aj aP af ai
noncomputable abbrev UO (w)(f:Nat) (o) (root):=(.blk w [.iface 42 (vP w),vP f,.iface 180 (vP o),vI (root),.slice none (0) (0)] 93:HP)
noncomputable abbrev UQ (o)(q)(f:Nat) (root) (am):=(.blk o [.iface 181 (vP q),vP f,vI (root),.map (some am),vI 0] 185:HP)
noncomputable abbrev DA (b4:Nat) (Af) (fs:List bR) (cf) (Aa) (xs:List cI) (ca):=(.blk b4 [.slice Af (fs.length) (cf),.slice Aa (xs.length) (ca)] 32:HP)
noncomputable abbrev Hz (m5:Nat) (Z) (xs:List cI) (i:Nat) (an):=(.abs (aJ Tryz.prog 3 m5 (fH Z (xs.take i)) an):HP)
noncomputable abbrev KW (b6:Nat) (xs) (i:Nat):=(.blk b6 [vI ((act xs i).at_),vI ((act xs i).op),.string (act xs i).path,.string (act xs i).to,.string (act xs i).text] 41:HP)
noncomputable abbrev QM (b2:Nat) (b4:Nat) (f:Nat) (m5:Nat):=([(5,vP b2),(7,vP b4),(10,vP f),(13,.map (some m5))]:Fr)
noncomputable abbrev Oa (Aa)(xs:List cI) (ca):=([(44,.slice Aa (xs.length) (ca)),(45,vI ↑xs.length)]:Fr)
noncomputable abbrev SM (b2:Nat) (f:Nat) (m5:Nat) (m11:Nat) (Af) (fs:List bR) (cf) (j:Nat):=([(5,vP b2),(10,vP f),(13,.map (some m5)),(16,.map (some m11)),(63,.slice Af (fs.length) (cf)),(64,vI ↑fs.length),(65,vI ↑j)]:Fr)
noncomputable abbrev SN (w)(f:Nat) (o) (root) (q) (am) (km) (Z) (xs) (an) (fs) (kn):=([UO w f o root,UQ o q f root am,.blk q [.iface 54 (vP f),.map (some km),vI 0] 183,.abs (aJ Tryz.prog 3 am (fH Z xs) an),.abs (aJ Tryz.prog 3 km (dV fs) kn),.abs (aH 48 13 none 0 0 ([]))]:List HP)
theorem M4 {β:Bs} (A:Option Addr) (c:Nat) (ns:List aK) (Y:Lay) (hG:ay β A ns Y) (hB:fW ns 1048576) (X:FM) (root:Int) (Af:Option Addr) (cf:Nat) (fs:List bR) (hF:cM β Af (bN eH fs)) (lV:gq fs 2097152) (Aa:Option Addr) (ca:Nat) (xs:List cI) (hA:cM β Aa (bN fF xs)) (hab:iO xs 1048576) :
    cq Tryz.prog β 37 #[.agg #[.slice A (ns.length) (c)],vI (root),.agg #[vI (X.cN),vI (X.cB),vI (X.cH),vI (X.cS),vI (X.cZ)],.agg #[.slice Af (fs.length) (cf),.slice Aa (xs.length) (ca)]] [] (fun β' v l=>(cO X ns root≠0/\v=.tuple #[.pointer none,vI (cO X ns root)]/\l=[])\/(cO X ns root=0/\∃ (N:qI X ns) (L:HL) (w o q f m t am an km kn:Nat) (Z:AZ),v=.tuple #[vP w,vI 0]/\l=(SN w f o root q am km Z xs an fs kn++[pF f m t N.1.X,pI m L N.1.idx,pT t N.1.X.cH N.1.ar L N.1.us,pO N.1.O L,pD N.1.O L,pE N.1.O L])/\jK β' Z xs)):=by
 have hfl:=lV.len
 have hxl:=hab.len
 refine cq.enter Tryz.func37 rfl Tryz.ntmps37 (Nat.le_of_ble_eq_true rfl) (fun hle0 R=>?_)
 refine SR (gN 1 (fun b1=>[(4,vP b1)]) (fun _=>[]) (fun _=>[]) (fun b1=>.blk b1 [.slice A (ns.length) (c)] 24) (fun b1=>?_))
 refine gN 1 (fun b2=>[(5,vP b2)]) (fun _=>[]) (fun _=>[]) (fun b2=>.blk b2 [vI (root)] 3) (fun b2=>?_)
 refine gN 1 (fun b3=>[(6,vP b3)]) (fun _=>[]) (fun _=>[]) (fun b3=>.blk b3 [vI (X.cN),vI (X.cB),vI (X.cH),vI (X.cS),vI (X.cZ)] 28) (fun b3=>?_)
 refine gN 3 (fun b4=>[(7,vP b4)]) (fun _=>[]) (fun _=>[]) (fun b4=>.blk b4 [.slice Af (fs.length) (cf),.slice Aa (xs.length) (ca)] 32) (fun b4=>?_)
 refine NN (af.seq ?_)
 by_cases nT:jb X/\bM ns
 ·refine af.region (gK 2 [(21,.agg #[.slice A (ns.length) (c)]),(22,.agg #[vI (X.cN),vI (X.cB),vI (X.cH),vI (X.cS),vI (X.cZ)])] [(0,a_ 1 b1),(1,A_ 3 b3 5)] ?_)
  refine gL [] (FH (β:=β) nT.1 nT.2 A c hG hB) ?_
  rintro _ _ ⟨N,f,m,t,L,rfl,rfl⟩
  refine gK 5 [(10,vP f),(11,vI 0)] [] ?_
  refine NN (af.seq (SR (gK 2 [(27,.bool false)] [] ?_)))
  refine NN (CF (af.skip (NX (af.seq ?_))))
  rcases MQ ns root with ⟨r,hr⟩|hno
  ·have hr1:r < ns.length:=hr.1
   refine af.region (gK 3 [(30,.slice A (ns.length) (c)),(31,.func (.func 82) #[] #[vP b2])] [(1,a_ 7 b1)] ?_)
   refine gL [8] (KV (β:=β) hr A c hG hB b2) ?_
   rintro _ _ ⟨rfl,rfl⟩
   refine gK 1 [(12,vI ↑r)] [] ?_
   refine NN (af.seq (SR (gK 2 [(34,.bool false)] [(1,p_ ⟨[],none,none,none,some (.bool false)⟩ [(Value.bool (decide ((((r:Nat):Int):Int) < (0:Int))))=(.bool false)] ⟨congrArg Value.bool (decide_eq_false (by omega)),trivial⟩)] ?_)))
   refine NN (CF (af.skip (NX (af.seq (SR (gK 7 [(41,.bool (!(decide (((nd ns r).kind:Int)=(2:Int)))))] [(1,a_ 8 b1),(3,p_ ⟨[],some r,none,some ⟨(av A),au A,none⟩,none⟩ [((r:Nat):Int)=((r:Nat):Int),r < ns.length,(⟨(av A),au A,none⟩:Addr).spot=none,(A:Option Addr)=some ⟨(av A),au A,none⟩] ⟨rfl,by omega,rfl,ay.hd hG (i:=r) (by omega),trivial⟩),(5,p_ ⟨[.old (.int .i64 ((nd ns r).kind))],none,none,none,none⟩ [(Rd β ⟨(av A),au A+r * 10+1,none⟩ (.int .i64 ((nd ns r).kind)))] ⟨ay.rd hG (i:=r) (by omega) (j:=1) rfl,trivial⟩)] ?_))))))
   refine NN (af.cT (p:=((nd ns r).kind:Int)=(2:Int)) (fun _=>by kernel_rfl) (fun Bd=>?_) (fun Bd=>?_))
   ·refine SR (gK 2 [(8,.pointer none),(9,vI 173)] [] ?_)
    refine NN (af.ret (ai.ak ?_))
    exact ai.oZ (v:=.tuple #[.pointer none,vI 173]) (l:=[]) (bA:=[]) [] [7] hle0 (fun _=>by kernel_rfl) trivial rfl (by kernel_rfl) (.inl ⟨by rw [BB nT.1 nT.2 hr Bd];decide,by rw [BB nT.1 nT.2 hr Bd],rfl⟩)
   refine af.skip (NX (SR (aj.lC (d:=(some 42)) (t:=178) (fun _=>by kernel_rfl) Tryz.prog rfl 3 (fun m5=>?_))))
   refine gK 1 [(13,.map (some m5))] [] ?_
   refine NN (af.seq (SR (aj.dK 11 (p:=.abs (aJ Tryz.prog 3 m5 (fun _=>none) 0)) (p':=.abs (aJ Tryz.prog 3 m5 (fH AZ.none (xs.take 0)) 0)) (by kernel_rfl) (congrArg (fun f=>HP.abs (aJ Tryz.prog 3 _ f 0)) MN.symm) ?_)))
   refine aj.mem (cF:=[sI b2 root,pF f m t N.1.X,pI m L N.1.idx,pT t N.1.X.cH N.1.ar L N.1.us,pO N.1.O L,pD N.1.O L,pE N.1.O L,.abs R,qy b1 A ns c,qO b3 X,DA b4 Af fs cf Aa xs ca,.abs (aJ Tryz.prog 3 m5 (fH AZ.none (xs.take 0)) 0),.abs (ax (mw AZ.none (xs.take 0)))]) (fun w hS=>hS.QE) ?_
   refine gK 4 (Oa Aa xs ca++[(46,vI 0)]) [(1,a_ 10 b4)] ?_
   refine NN (af.block ?_)
   refine af.loop (ι:=Nat×AZ×Nat) (fun ((i,Z,an):Nat×AZ×Nat)=>(i<=xs.length)/\(an<=i)) (fun ((i,Z,an):Nat×AZ×Nat)=>xs.length - i) (fun ((i,Z,an):Nat×AZ×Nat)=>(QM b2 b4 f m5++Oa Aa xs ca++[(46,vI ↑i)])) (fun ((i,Z,an):Nat×AZ×Nat)=>[sI b2 root,pF f m t N.1.X,pI m L N.1.idx,pT t N.1.X.cH N.1.ar L N.1.us,pO N.1.O L,pD N.1.O L,pE N.1.O L,qy b1 A ns c,qO b3 X,DA b4 Af fs cf Aa xs ca,Hz m5 Z xs i an,.abs (ax (mw Z (xs.take i))),.abs R]) (0,AZ.none,0) (idx:=[5,7,10,13,44,45,46]) (pk:=[0,1,2,3,4,5,6,8,9,10,11,12,7]) (show (0<=xs.length)/\(0<=0) from ⟨Nat.zero_le _,Nat.le_refl _⟩) (fun _=>by kernel_rfl) rfl (by kernel_rfl) ?_
   rintro⟨i,Z,an⟩ ⟨hi,han⟩
   show af _ _ _ _ (QM b2 b4 f m5++Oa Aa xs ca++[(46,vI ↑i)]) [sI b2 root,pF f m t N.1.X,pI m L N.1.idx,pT t N.1.X.cH N.1.ar L N.1.us,pO N.1.O L,pD N.1.O L,pE N.1.O L,qy b1 A ns c,qO b3 X,DA b4 Af fs cf Aa xs ca,Hz m5 Z xs i an,.abs (ax (mw Z (xs.take i))),.abs R] _
   refine SR (gK 1 [(47,.bool (decide ((((i:Nat):Int):Int) < (((xs.length:Nat):Int):Int))))] [] ?_)
   refine NN (af.seq (af.aZ (p:=(((i:Nat):Int):Int) < (((xs.length:Nat):Int):Int)) (fun _=>by kernel_rfl) (fun Ob=>?_) (fun Ob=>?_)))
   ·refine af.skip (NX (af.seq (af.block (SR ?_))))
    refine gN 4 (fun b6=>[(15,vP b6)]) (fun b6=>[(0,p_ ⟨[],some i,none,some ⟨(av Aa),au Aa,none⟩,none⟩ [((i:Nat):Int)=((i:Nat):Int),i < xs.length,(⟨(av Aa),au Aa,none⟩:Addr).spot=none,(Aa:Option Addr)=some ⟨(av Aa),au Aa,none⟩] ⟨rfl,by omega,rfl,NZ hA (i:=i) (by omega),trivial⟩),(1,p_ ⟨[.old (.int .i64 ((act xs i).at_)),.old (.int .i64 ((act xs i).op)),.old (.string (act xs i).path),.old (.string (act xs i).to),.old (.string (act xs i).text)],none,none,none,none⟩ [(Rd β ⟨(av Aa),au Aa+i * 5+4,none⟩ (.string (act xs i).text)),(Rd β ⟨(av Aa),au Aa+i * 5+3,none⟩ (.string (act xs i).to)),(Rd β ⟨(av Aa),au Aa+i * 5+2,none⟩ (.string (act xs i).path)),(Rd β ⟨(av Aa),au Aa+i * 5+1,none⟩ (.int .i64 ((act xs i).op))),(Rd β ⟨(av Aa),au Aa+i * 5,none⟩ (.int .i64 ((act xs i).at_)))] ⟨p4 hA (i:=i) (by omega) (j:=4) rfl,p4 hA (i:=i) (by omega) (j:=3) rfl,p4 hA (i:=i) (by omega) (j:=2) rfl,p4 hA (i:=i) (by omega) (j:=1) rfl,p4 hA (i:=i) (by omega) (j:=0) rfl,trivial⟩),(3,A_ 13 b6 5)]) (fun _=>[]) (fun b6=>.blk b6 [vI ((act xs i).at_),vI ((act xs i).op),.string (act xs i).path,.string (act xs i).to,.string (act xs i).text] 41) (fun b6=>?_)
    refine NN (af.bP (S:=[Hz m5 Z xs i an,KW b6 xs i]) [0,1,2,3,4,5,6,7,8,9,10] 8 [10,13] (by kernel_rfl) (by kernel_rfl) rfl (by kernel_rfl) ?_)
    refine gR 2 [6,7,8,9,10] (QM b2 b4 f m5++[(15,vP b6)]++Oa Aa xs ca++[(46,vI ↑i),(50,.map (some m5)),(52,vI ((act xs i).at_)),(53,.map (some m5)),(55,vI ((act xs i).at_))]) [0,1,2,3,4,5] [(2,a_ 1 b6),(5,a_ 1 b6)] ?_
    refine aL.dW 0 (d:=(some 56)) (t:=178) (K:=3) (E:=30) (b:=m5) (cnt:=an) (f:=(fH Z (xs.take i))) (x:=(.tmp 53)) (ix:=(.tmp 55)) (key:=.int .i64 ((act xs i).at_)) (z:=.slice none (0) (0)) (kl:=(Lit.int IntKind.i64 (act xs i).at_)) (q:=(fH Z (xs.take i) (Lit.int IntKind.i64 (act xs i).at_))) (by kernel_rfl) (by kernel_rfl) (fun _=>by kernel_rfl) (fun _=>by kernel_rfl) dQ Tryz.underlying178 (fun _=>by kernel_rfl) (gS (hab.at (by omega)).aw) (rfl) (by rw [zR];rfl) ?_
    refine gR 0 [8,9,10] [(5,vP b2),(7,vP b4),(10,vP f),(13,.map (some m5)),(44,.slice Aa (xs.length) (ca)),(45,vI ↑xs.length),(46,vI ↑i),(50,.map (some m5)),(52,vI ((act xs i).at_)),(56,((fH Z (xs.take i) (Lit.int IntKind.i64 (act xs i).at_)).getD (.slice none 0 0))),(57,.agg #[vI ((act xs i).at_),vI ((act xs i).op),.string (act xs i).path,.string (act xs i).to,.string (act xs i).text])] [7] [(0,A_ 1 b6 5)] ?_
    refine mN [10,13] (fun b7=>[(58,.slice (some ⟨b7,0,none⟩) (1) (1))]) (fun _=>[]) (fun b7=>.blk b7 [vI ((act xs i).at_),vI ((act xs i).op),.string (act xs i).path,.string (act xs i).to,.string (act xs i).text] 41) (fun b7=>?_)
    refine aL.cut (ι:=(Option Addr)×Nat) (fr':=fun ((A8,c9):(Option Addr)×Nat)=>[(5,vP b2),(7,vP b4),(10,vP f),(13,.map (some m5)),(44,.slice Aa (xs.length) (ca)),(45,vI ↑xs.length),(46,vI ↑i),(50,.map (some m5)),(52,vI ((act xs i).at_)),(59,.slice A8 (((bO (xs.take i) (act xs i).at_).length+1)) (c9))]) (hp':=fun ((A8,c9):(Option Addr)×Nat)=>[sI b2 root,pF f m t N.1.X,pI m L N.1.idx,pT t N.1.X.cH N.1.ar L N.1.us,pO N.1.O L,pD N.1.O L,pE N.1.O L,qy b1 A ns c,qO b3 X,DA b4 Af fs cf Aa xs ca,Hz m5 Z xs i an,.abs (ax (jY (mw Z (xs.take i)) (zz (act xs i).at_) cu.none)),.abs R,KW b6 xs i,KW b7 xs i,.abs (aH 41 5 A8 ((bO (xs.take i) (act xs i).at_).length+1) c9 (bN fF (bO (xs.take i) (act xs i).at_)++fF (act xs i)))]) [10,13] rfl rfl ?_ rfl (fun _=>by kernel_rfl) ?_
    ·refine aj.slot 56 (((fH Z (xs.take i) (Lit.int IntKind.i64 (act xs i).at_)).getD (.slice none 0 0))) (.slice (aA Z (xs.take i) (act xs i).at_) ((bO (xs.take i) (act xs i).at_).length) ((aC Z (xs.take i) (act xs i).at_))) (fun _=>by kernel_rfl) (zR) ?_
     refine aj.mem (cF:=[sI b2 root,pF f m t N.1.X,pI m L N.1.idx,pT t N.1.X.cH N.1.ar L N.1.us,pO N.1.O L,pD N.1.O L,pE N.1.O L,qy b1 A ns c,qO b3 X,DA b4 Af fs cf Aa xs ca,Hz m5 Z xs i an,.abs (ax (jY (mw Z (xs.take i)) (zz (act xs i).at_) cu.none)),.abs R,KW b6 xs i,KW b7 xs i,.abs (aH 41 5 (aA Z (xs.take i) (act xs i).at_) ((bO (xs.take i) (act xs i).at_).length) (aC Z (xs.take i) (act xs i).at_) (bN fF (bO (xs.take i) (act xs i).at_)))]) (fun w hS=>hS.OU (i:=11) rfl (act xs i).at_) ?_
     have V2:(bO (xs.take i) (act xs i).at_).length<=1048576:=Nat.le_trans (Bt _) (by rw [List.length_take];omega)
     refine aj.append 15 (d:=(some 59)) (t:=30) (e:=41) (z:=.agg #[vI 0,vI 0,.string ⟨#[]⟩,.string ⟨#[]⟩,.string ⟨#[]⟩]) (size:=5) (bytes:=64) (n:=(bO (xs.take i) (act xs i).at_).length) (cap:=(aC Z (xs.take i) (act xs i).at_)) (A:=(aA Z (xs.take i) (act xs i).at_)) (xs:=(bN fF (bO (xs.take i) (act xs i).at_))) (s:=(.tmp 56)) (x:=(.tmp 58)) (ats:=#[30,30]) (A':=some ⟨b7,0,none⟩) (m:=1) (c':=1) (news:=[vI ((act xs i).at_),vI ((act xs i).op),.string (act xs i).path,.string (act xs i).to,.string (act xs i).text]) (fun _=>by kernel_rfl) rfl (by kernel_rfl) (fun _=>by kernel_rfl) (fun _=>by kernel_rfl) Tryz.underlying30 (by kernel_rfl) rfl (by decide) (rfl) (by simp [Value.oneCell']) (lD (j:=14) rfl) (by unfold maxLen;omega) (by omega) (fun A8 c9=>?_)
     refine aj.dK 15 (p:=.abs (aH 41 5 A8 (((bO (xs.take i) (act xs i).at_).length)+1) c9 ((bN fF (bO (xs.take i) (act xs i).at_))++[vI ((act xs i).at_),vI ((act xs i).op),.string (act xs i).path,.string (act xs i).to,.string (act xs i).text]))) (p':=.abs (aH 41 5 A8 ((bO (xs.take i) (act xs i).at_).length+1) c9 (bN fF (bO (xs.take i) (act xs i).at_)++fF (act xs i)))) (by kernel_rfl) (rfl) ?_
     refine aj.slot 59 (.slice A8 (((bO (xs.take i) (act xs i).at_).length)+1) (c9)) (.slice A8 (((bO (xs.take i) (act xs i).at_).length+1)) (c9)) (fun _=>by kernel_rfl) (rfl) ?_
     refine NL ?_
     exact MD (A8,c9) [5,7,10,13,44,45,46,50,52,59] [0,1,2,3,4,5,6,7,8,9,10,11,12,13,14,15]
    rintro⟨A8,c9⟩
    refine aL.last rfl rfl ?_
    refine aj.mem (cF:=[.abs (ax (mw (Z.put (act xs i).at_ A8 c9) (xs.take (i+1)))),.blk b2 [vI (root)] 3,.blk f [vI (N.1.X.cN),vI (N.1.X.cB),vI (N.1.X.cH),vI (N.1.X.cS),vI (N.1.X.cZ),.map (some m),vP t,vI (N.1.X.last),vI (N.1.X.ah),vI (N.1.X.used)] 126,.abs (aJ Tryz.prog 3 m (aW (aV L N.1.idx)) N.1.idx.length),.abs (bS 197 t N.1.X.cH N.1.ar (aV L N.1.us)),.abs (ax (bB N.1.O L)),.abs (ax (bC N.1.O L)),.abs (ax (bV N.1.O L)),.blk b1 [.slice A (ns.length) (c)] 24,.blk b3 [vI (X.cN),vI (X.cB),vI (X.cH),vI (X.cS),vI (X.cZ)] 28,.blk b4 [.slice Af (fs.length) (cf),.slice Aa (xs.length) (ca)] 32,.abs (aJ Tryz.prog 3 m5 (fH Z (xs.take i)) an),.abs R,.blk b6 [vI ((act xs i).at_),vI ((act xs i).op),.string (act xs i).path,.string (act xs i).to,.string (act xs i).text] 41,.blk b7 [vI ((act xs i).at_),vI ((act xs i).op),.string (act xs i).path,.string (act xs i).to,.string (act xs i).text] 41]) (fun w hS=>by rw [FA (by omega)];exact hS.QF (i:=11) (j:=15) (idx:=[0,1,2,3,4,5,6,7,8,9,10,12,13,14]) rfl rfl (by kernel_rfl) rfl) ?_
    refine aj.j8 11 (d:=none) (t:=178) (K:=3) (E:=30) (b:=m5) (n:=an) (f:=(fH Z (xs.take i))) (x:=(.tmp 50)) (ix:=(.tmp 52)) (y:=(.tmp 59)) (key:=.int .i64 ((act xs i).at_)) (u:=.slice A8 (((bO (xs.take i) (act xs i).at_).length+1)) (c9)) (kl:=(Lit.int IntKind.i64 (act xs i).at_)) (n':=(if (fH Z (xs.take i) (Lit.int IntKind.i64 (act xs i).at_)).isSome then an else an+1)) (f':=(fH (Z.put (act xs i).at_ A8 c9) (xs.take (i+1)))) (fun _=>by kernel_rfl) (by kernel_rfl) (fun _=>by kernel_rfl) (fun _=>by kernel_rfl) (fun _=>by kernel_rfl) dQ Tryz.underlying178 (by unfold maxLen;omega) (gS (hab.at (by omega)).aw) (rfl) (by rw [FA (by omega)];exact MO) ?_
    refine NL (ai.np (ai.aN (NX (af.region ?_))))
    refine gK 2 [(46,vI ↑(i+1))] [(0,p_ ⟨[],none,none,none,some (vI ↑(i+1))⟩ [(Value.int .i64 (IntKind.wrap .i64 (((i:Nat):Int)+1)))=(.int .i64 ↑(i+1))] ⟨bD (by omega) (by omega) (by omega),trivial⟩)] ?_
    refine NL ?_
    exact ai.turn ((i+1),(Z.put (act xs i).at_ A8 c9),(if (fH Z (xs.take i) (Lit.int IntKind.i64 (act xs i).at_)).isSome then an else an+1)) (idx:=[5,7,10,13,44,45,46]) (pk:=[1,2,3,4,5,6,7,8,9,10,11,0,12]) (show (((i+1))<=xs.length)/\(((if (fH Z (xs.take i) (Lit.int IntKind.i64 (act xs i).at_)).isSome then an else an+1))<=((i+1))) from ⟨by omega,by split<;>omega⟩) (by show xs.length - ((i+1)) < xs.length - i;omega) (fun _=>by kernel_rfl) rfl (by kernel_rfl)
   refine af.exit (ai.aX (ai.aX (ai.cP (NX (SR ?_)))))
   refine aj.qb (Φ:=fun β'=>jK β' Z xs) 11 [0,1,2,3,4,5,6,7,8,9,10,12] (cF:=[sI b2 root,pF f m t N.1.X,pI m L N.1.idx,pT t N.1.X.cH N.1.ar L N.1.us,pO N.1.O L,pD N.1.O L,pE N.1.O L,qy b1 A ns c,qO b3 X,DA b4 Af fs cf Aa xs ca,Hz m5 Z xs i an,.abs R]) rfl rfl (by kernel_rfl) (fun F w h β' h1 h2=>jK.of (by rw [show xs.take i=xs by rw [show i=xs.length by omega,List.take_length]] at h;exact h) h1 h2) (fun Jp nU hZ=>?_)
   replace hG:=hG.le nU
   replace hA:=hA.le nU
   replace hF:=hF.le nU
   replace hle0:=hle0.trans nU
   refine aj.dK 10 (p:=.abs (aJ Tryz.prog 3 m5 (fH Z (xs.take i)) an)) (p':=.abs (aJ Tryz.prog 3 m5 (fH Z xs) an)) (by kernel_rfl) (by rw [show xs.take i=xs by rw [show i=xs.length by omega,List.take_length]]) ?_
   refine aj.lC (d:=(some 61)) (t:=179) (fun _=>by kernel_rfl) Tryz.prog rfl 3 (fun m11=>?_)
   refine gK 1 [(16,.map (some m11))] [] ?_
   refine NN (af.seq (SR (aj.dK 12 (p:=.abs (aJ Tryz.prog 3 m11 (fun _=>none) 0)) (p':=.abs (aJ Tryz.prog 3 m11 (dV (fs.take 0)) 0)) (by kernel_rfl) (congrArg (fun f=>HP.abs (aJ Tryz.prog 3 _ f 0)) KR.symm) ?_)))
   refine gK 4 [(63,.slice Af (fs.length) (cf)),(64,vI ↑fs.length),(65,vI 0)] [(1,a_ 9 b4)] ?_
   refine NN (af.block ?_)
   refine af.loop (ι:=Nat×Nat) (fun ((j,kn):Nat×Nat)=>(j<=fs.length)/\(kn<=j)) (fun ((j,kn):Nat×Nat)=>fs.length - j) (fun ((j,kn):Nat×Nat)=>(SM b2 f m5 m11 Af fs cf j)) (fun ((j,kn):Nat×Nat)=>[sI b2 root,pF f m t N.1.X,pI m L N.1.idx,pT t N.1.X.cH N.1.ar L N.1.us,pO N.1.O L,pD N.1.O L,pE N.1.O L,qy b1 A ns c,qO b3 X,DA b4 Af fs cf Aa xs ca,.abs (aJ Tryz.prog 3 m5 (fH Z xs) an),.abs (aJ Tryz.prog 3 m11 (dV (fs.take j)) kn),.abs R]) (0,0) (idx:=[5,10,13,16,63,64,65]) (pk:=[0,1,2,3,4,5,6,7,8,9,10,12,11]) (show (0<=fs.length)/\(0<=0) from ⟨Nat.zero_le _,Nat.le_refl _⟩) (fun _=>by kernel_rfl) rfl (by kernel_rfl) ?_
   rintro⟨j,kn⟩ ⟨hj,hkn⟩
   show af _ _ _ _ (SM b2 f m5 m11 Af fs cf j) [sI b2 root,pF f m t N.1.X,pI m L N.1.idx,pT t N.1.X.cH N.1.ar L N.1.us,pO N.1.O L,pD N.1.O L,pE N.1.O L,qy b1 A ns c,qO b3 X,DA b4 Af fs cf Aa xs ca,.abs (aJ Tryz.prog 3 m5 (fH Z xs) an),.abs (aJ Tryz.prog 3 m11 (dV (fs.take j)) kn),.abs R] _
   refine SR (gK 1 [(66,.bool (decide ((((j:Nat):Int):Int) < (((fs.length:Nat):Int):Int))))] [] ?_)
   refine NN (af.seq (af.aZ (p:=(((j:Nat):Int):Int) < (((fs.length:Nat):Int):Int)) (fun _=>by kernel_rfl) (fun Ap=>?_) (fun Ap=>?_)))
   ·refine af.skip (NX (af.seq (af.block (SR ?_))))
    refine gN 4 (fun b12=>[(18,vP b12)]) (fun b12=>[(0,p_ ⟨[],some j,none,some ⟨(av Af),au Af,none⟩,none⟩ [((j:Nat):Int)=((j:Nat):Int),j < fs.length,(⟨(av Af),au Af,none⟩:Addr).spot=none,(Af:Option Addr)=some ⟨(av Af),au Af,none⟩] ⟨rfl,by omega,rfl,RW hF (i:=j) (by omega),trivial⟩),(1,p_ ⟨[.old (.int .i64 ((jF fs j).at_)),.old (.int .i64 ((jF fs j).kind))],none,none,none,none⟩ [(Rd Jp ⟨(av Af),au Af+j * 2+1,none⟩ (.int .i64 ((jF fs j).kind))),(Rd Jp ⟨(av Af),au Af+j * 2,none⟩ (.int .i64 ((jF fs j).at_)))] ⟨N0 hF (i:=j) (by omega) (j:=1) rfl,N0 hF (i:=j) (by omega) (j:=0) rfl,trivial⟩),(3,A_ 13 b12 2)]) (fun _=>[]) (fun b12=>.blk b12 [vI ((jF fs j).at_),vI ((jF fs j).kind)] 39) (fun b12=>?_)
    refine NS (gK 4 [(72,.bool (decide (((jF fs j).kind:Int) ≥ (1:Int))))] [(1,a_ 13 b12)] ?_)
    refine aj.gI 72 (((jF fs j).kind:Int) ≥ (1:Int)) (fun _=>by kernel_rfl) (fun UR=>?_) (fun UR=>?_)
    ·refine gK 5 [(77,.bool (decide (((jF fs j).kind:Int)<=(3:Int))))] [(1,a_ 13 b12)] ?_
     refine aj.gI 77 (((jF fs j).kind:Int)<=(3:Int)) (fun _=>by kernel_rfl) (fun UU=>?_) (fun UU=>?_)
     ·refine gK 3 [(78,.map (some m11)),(80,vI ((jF fs j).at_))] [(2,a_ 13 b12)] ?_
      refine aj.dW 11 (d:=(some 81)) (t:=179) (K:=3) (E:=3) (b:=m11) (n:=kn) (f:=(dV (fs.take j))) (x:=(.tmp 78)) (ix:=(.tmp 80)) (key:=.int .i64 ((jF fs j).at_)) (z:=.int .i64 0) (kl:=(Lit.int IntKind.i64 (jF fs j).at_)) (r:=(dV (fs.take j) (Lit.int IntKind.i64 (jF fs j).at_))) (fun _=>by kernel_rfl) (by kernel_rfl) (fun _=>by kernel_rfl) (fun _=>by kernel_rfl) dQ Tryz.underlying179 (fun _=>by kernel_rfl) (gS (lV.at (by omega))) (rfl) ?_
      refine aj.slot 81 (((dV (fs.take j) (Lit.int IntKind.i64 (jF fs j).at_)).getD (.int .i64 0))) (.int .i64 ((gX (fs.take j) (jF fs j).at_))) (fun _=>by kernel_rfl) (Dw) ?_
      refine gK 2 [(83,.bool (decide (((gX (fs.take j) (jF fs j).at_):Int)=(0:Int))))] [] ?_
      refine NN (af.aZ (p:=((gX (fs.take j) (jF fs j).at_):Int)=(0:Int)) (fun _=>by kernel_rfl) (fun UW=>?_) (fun UW=>?_))
      ·refine af.region (gK 5 [(84,.map (some m11)),(86,vI ((jF fs j).at_)),(88,vI ((jF fs j).kind))] [(2,a_ 13 b12),(4,a_ 13 b12)] ?_)
       refine aj.j8 11 (d:=none) (t:=179) (K:=3) (E:=3) (b:=m11) (n:=kn) (f:=(dV (fs.take j))) (x:=(.tmp 84)) (ix:=(.tmp 86)) (y:=(.tmp 88)) (key:=.int .i64 ((jF fs j).at_)) (u:=.int .i64 ((jF fs j).kind)) (kl:=(Lit.int IntKind.i64 (jF fs j).at_)) (n':=(if (dV (fs.take j) (Lit.int IntKind.i64 (jF fs j).at_)).isSome then kn else kn+1)) (f':=(dV (fs.take (j+1)))) (fun _=>by kernel_rfl) (by kernel_rfl) (fun _=>by kernel_rfl) (fun _=>by kernel_rfl) (fun _=>by kernel_rfl) dQ Tryz.underlying179 (by unfold maxLen;omega) (gS (lV.at (by omega))) (rfl) (by rw [vG (by omega)];exact KS ⟨by omega,by omega⟩ (by omega)) ?_
       refine NL (ai.aN (NX (af.region ?_)))
       refine gK 2 [(65,vI ↑(j+1))] [(0,p_ ⟨[],none,none,none,some (vI ↑(j+1))⟩ [(Value.int .i64 (IntKind.wrap .i64 (((j:Nat):Int)+1)))=(.int .i64 ↑(j+1))] ⟨bD (by omega) (by omega) (by omega),trivial⟩)] ?_
       refine NL ?_
       exact ai.turn ((j+1),(if (dV (fs.take j) (Lit.int IntKind.i64 (jF fs j).at_)).isSome then kn else kn+1)) (idx:=[5,10,13,16,63,64,65]) (pk:=[0,1,2,3,4,5,6,7,8,9,10,11,12]) (show (((j+1))<=fs.length)/\(((if (dV (fs.take j) (Lit.int IntKind.i64 (jF fs j).at_)).isSome then kn else kn+1))<=((j+1))) from ⟨by omega,by split<;>omega⟩) (by show fs.length - ((j+1)) < fs.length - j;omega) (fun _=>by kernel_rfl) rfl (by kernel_rfl)
      refine af.skip (ai.aN (NX (af.region ?_)))
      refine aj.dK 11 (p:=.abs (aJ Tryz.prog 3 m11 (dV (fs.take j)) kn)) (p':=.abs (aJ Tryz.prog 3 m11 (dV (fs.take (j+1))) kn)) (by kernel_rfl) (by rw [vG (by omega),vF];unfold FK;omega) ?_
      refine gK 2 [(65,vI ↑(j+1))] [(0,p_ ⟨[],none,none,none,some (vI ↑(j+1))⟩ [(Value.int .i64 (IntKind.wrap .i64 (((j:Nat):Int)+1)))=(.int .i64 ↑(j+1))] ⟨bD (by omega) (by omega) (by omega),trivial⟩)] ?_
      refine NL ?_
      exact ai.turn ((j+1),kn) (idx:=[5,10,13,16,63,64,65]) (pk:=[0,1,2,3,4,5,6,7,8,9,10,11,12]) (show (((j+1))<=fs.length)/\(kn<=((j+1))) from ⟨by omega,by omega⟩) (by show fs.length - ((j+1)) < fs.length - j;omega) (fun _=>by kernel_rfl) rfl (by kernel_rfl)
     refine gK 4 [(81,undef)] [] ?_
     refine gK 2 [(83,.bool false)] [] ?_
     refine NN (CF (af.skip (ai.aN (NX (af.region ?_)))))
     refine aj.dK 11 (p:=.abs (aJ Tryz.prog 3 m11 (dV (fs.take j)) kn)) (p':=.abs (aJ Tryz.prog 3 m11 (dV (fs.take (j+1))) kn)) (by kernel_rfl) (by rw [vG (by omega),vF];unfold FK;omega) ?_
     refine gK 2 [(65,vI ↑(j+1))] [(0,p_ ⟨[],none,none,none,some (vI ↑(j+1))⟩ [(Value.int .i64 (IntKind.wrap .i64 (((j:Nat):Int)+1)))=(.int .i64 ↑(j+1))] ⟨bD (by omega) (by omega) (by omega),trivial⟩)] ?_
     refine NL ?_
     exact ai.turn ((j+1),kn) (idx:=[5,10,13,16,63,64,65]) (pk:=[0,1,2,3,4,5,6,7,8,9,10,11,12]) (show (((j+1))<=fs.length)/\(kn<=((j+1))) from ⟨by omega,by omega⟩) (by show fs.length - ((j+1)) < fs.length - j;omega) (fun _=>by kernel_rfl) rfl (by kernel_rfl)
    refine gK 9 [(77,.bool false),(81,undef)] [] ?_
    refine gK 2 [(83,.bool false)] [] ?_
    refine NN (CF (af.skip (ai.aN (NX (af.region ?_)))))
    refine aj.dK 11 (p:=.abs (aJ Tryz.prog 3 m11 (dV (fs.take j)) kn)) (p':=.abs (aJ Tryz.prog 3 m11 (dV (fs.take (j+1))) kn)) (by kernel_rfl) (by rw [vG (by omega),vF];unfold FK;omega) ?_
    refine gK 2 [(65,vI ↑(j+1))] [(0,p_ ⟨[],none,none,none,some (vI ↑(j+1))⟩ [(Value.int .i64 (IntKind.wrap .i64 (((j:Nat):Int)+1)))=(.int .i64 ↑(j+1))] ⟨bD (by omega) (by omega) (by omega),trivial⟩)] ?_
    refine NL ?_
    exact ai.turn ((j+1),kn) (idx:=[5,10,13,16,63,64,65]) (pk:=[0,1,2,3,4,5,6,7,8,9,10,11,12]) (show (((j+1))<=fs.length)/\(kn<=((j+1))) from ⟨by omega,by omega⟩) (by show fs.length - ((j+1)) < fs.length - j;omega) (fun _=>by kernel_rfl) rfl (by kernel_rfl)
   refine af.exit (ai.aX (ai.aX (ai.cP (NX (SR ?_)))))
   refine aj.dK 11 (p:=.abs (aJ Tryz.prog 3 m11 (dV (fs.take j)) kn)) (p':=.abs (aJ Tryz.prog 3 m11 (dV fs) kn)) (by kernel_rfl) (by rw [show fs.take j=fs by rw [show j=fs.length by omega,List.take_length]]) ?_
   refine gN 5 (fun b13=>[(19,vP b13)]) (fun b13=>[(1,a_ 0 b2)]) (fun _=>[]) (fun b13=>.blk b13 [.nilIface,vP f,.nilIface,vI (root),.slice none (0) (0)] 93) (fun b13=>?_)
   refine NS (gN 11 (fun b14=>[(94,vP b13),(104,.agg #[.iface 181 (vP b14),vP f,vI (root),.map (some m5),vI 0])]) (fun b14=>[(8,a_ 0 b2)]) (fun _=>[]) (fun b14=>.blk b14 [.iface 54 (vP f),.map (some m11),vI 0] 183) (fun b14=>?_))
   refine gN 5 (fun _=>[]) (fun b15=>[(4,a_ 13 b13)]) (fun b15=>[(13,[(2,.iface 180 (vP b15))])]) (fun b15=>.blk b15 [.iface 181 (vP b14),vP f,vI (root),.map (some m5),vI 0] 185) (fun b15=>?_)
   refine NS (gK 3 [(109,vP b13),(111,.iface 42 (vP b13))] [] ?_)
   refine gL [] (QJ b13) ?_
   rintro _ _ ⟨rfl,rfl⟩
   refine gC 3 [] [(2,a_ 13 b13)] [(13,[(0,.iface 42 (vP b13))])] ?_
   refine NS (gK 3 [(8,vP b13),(9,vI 0)] [] ?_)
   refine NN (af.ret (ai.mem (fun w hS=>hS.jO (e:=48) (size:=13)) ?_))
   exact ai.oZ (v:=.tuple #[vP b13,vI 0]) (l:=(SN b13 f b15 root b14 m5 m11 Z xs an fs kn++[pF f m t N.1.X,pI m L N.1.idx,pT t N.1.X.cH N.1.ar L N.1.us,pO N.1.O L,pD N.1.O L,pE N.1.O L])) (bA:=[]) [] [13,15,14,10,11,16,1,2,3,4,5,6,12] hle0 (fun _=>by kernel_rfl) trivial rfl (by kernel_rfl) (.inr ⟨BA nT.1 nT.2 hr Bd,N,L,b13,b15,b14,f,m,t,m5,an,m11,kn,Z,rfl,rfl,hZ⟩)
  refine af.region (gK 3 [(30,.slice A (ns.length) (c)),(31,.func (.func 82) #[] #[vP b2])] [(1,a_ 7 b1)] ?_)
  refine gL [8] (M0 (β:=β) hno A c hG hB b2) ?_
  rintro _ _ ⟨rfl,rfl⟩
  refine gK 1 [(12,vI (-1))] [] ?_
  refine NN (af.seq (SR (gK 2 [(34,.bool true)] [] ?_)))
  refine NN (CT (SR (gK 2 [(8,.pointer none),(9,vI 141)] [] ?_)))
  refine NN (af.ret (ai.ak ?_))
  exact ai.oZ (v:=.tuple #[.pointer none,vI 141]) (l:=[]) (bA:=[]) [] [7] hle0 (fun _=>by kernel_rfl) trivial rfl (by kernel_rfl) (.inl ⟨by rw [yY nT.1 nT.2 hno];decide,by rw [yY nT.1 nT.2 hno],rfl⟩)
 refine af.region (gK 2 [(21,.agg #[.slice A (ns.length) (c)]),(22,.agg #[vI (X.cN),vI (X.cB),vI (X.cH),vI (X.cS),vI (X.cZ)])] [(0,a_ 1 b1),(1,A_ 3 b3 5)] ?_)
 refine gL [] (MY (β:=β) (root:=root) nT A c hG hB) ?_
 rintro _ _ ⟨rfl,rfl⟩
 refine gK 5 [(10,.pointer none),(11,vI ((cO X ns root)))] [] ?_
 refine NN (af.seq (SR (gK 2 [(27,.bool (!(decide (((cO X ns root):Int)=(0:Int)))))] [] ?_)))
 refine NN (af.cT (p:=((cO X ns root):Int)=(0:Int)) (fun _=>by kernel_rfl) (fun SQ=>?_) (fun SQ=>?_))
 ·refine SR (gK 3 [(8,.pointer none),(9,vI ((cO X ns root)))] [] ?_)
  refine NN (af.ret (ai.ak ?_))
  exact ai.oZ (v:=.tuple #[.pointer none,vI ((cO X ns root))]) (l:=[]) (bA:=[]) [] [0] hle0 (fun _=>by kernel_rfl) trivial rfl (by kernel_rfl) (.inl ⟨BG nT,rfl,rfl⟩)
 exact absurd SQ (BG nT)
end
section
open Go.RowKit Go.Maps bG aE
attribute [local irreducible] aj aP af ai
noncomputable abbrev SV (w)(f:Nat) (o) (root) (tA) (tr:List aB) (tC):=(.blk w [.iface 42 (vP w),vP f,.iface 180 (vP o),vI (root),.slice tA (tr.length) (tC)] 93:HP)
noncomputable abbrev UX (o)(q)(f:Nat) (root) (am) (tr:List aB):=(.blk o [.iface 181 (vP q),vP f,vI (root),.map (some am),vI (((tr.length:Nat):Int))] 185:HP)
noncomputable abbrev UY (q)(f:Nat) (km) (tr:List aB):=(.blk q [.iface 54 (vP f),.map (some km),vI (((tr.length:Nat):Int))] 183:HP)
noncomputable abbrev SW (am)(Z)(xs)(an):=(.abs (aJ Tryz.prog 3 am (fH Z xs) an):HP)
noncomputable abbrev SX (km)(fs)(kn):=(.abs (aJ Tryz.prog 3 km (dV fs) kn):HP)
noncomputable abbrev SY (tA)(tr:List aB) (tC):=(.abs (aH 48 13 tA tr.length tC (bN bK tr)):HP)
noncomputable abbrev DB (w)(f:Nat) (o) (root) (tA) (tr) (tC) (q) (am) (km) (Z) (xs) (an) (fs) (kn) (m:Nat) (t) (S:aG) (L:HL):=([SV w f o root tA tr tC,UX o q f root am tr,UY q f km tr,SW am Z xs an,SX km fs kn,SY tA tr tC,pF f m t S.X,pI m L S.idx,jT t S L,pO S.O L,pD S.O L,pE S.O L]:List HP)
theorem Jq {β:Bs} (S:aG) (L:HL) (w o q f m t am an km kn:Nat) (Z:AZ) (fs:List bR) (xs:List cI) (root:Int) (tr:List aB) (tA:Option Addr) (tC:Nat)  :
    Spec Tryz.prog β 49 #[vP w] (DB w f o root tA tr tC q am km Z xs an fs kn m t S L) (fun v l=>v=vI (tr.length:Int)/\l=(DB w f o root tA tr tC q am km Z xs an fs kn m t S L)):=by
 refine Spec.enter Tryz.func49 rfl Tryz.ntmps49 (Nat.le_of_ble_eq_true rfl) (fun R=>?_)
 refine SR (gK 1 [] [] ?_)
 refine NS (gK 6 [(2,vI ↑tr.length)] [(3,a_ 0 w)] ?_)
 refine NN (af.ret ?_)
 exact RT (vI ↑tr.length) [0,1,2,3,4,5,6,7,8,9,10,11,12] (⟨rfl,rfl⟩)
theorem KX {β:Bs} (S:aG) (L:HL) (w o q f m t am an km kn:Nat) (Z:AZ) (fs:List bR) (xs:List cI) (root:Int) (tr:List aB) (tA:Option Addr) (tC:Nat)  :
    Spec Tryz.prog β 19 #[vP w] (DB w f o root tA tr tC q am km Z xs an fs kn m t S L) (fun v l=>v=vI (S.us.length:Int)/\l=(DB w f o root tA tr tC q am km Z xs an fs kn m t S L)):=by
 refine Spec.enter Tryz.func19 rfl Tryz.ntmps19 (Nat.le_of_ble_eq_true rfl) (fun R=>?_)
 refine SR (gK 1 [] [] ?_)
 refine NS (gK 4 [(6,vP f)] [(3,a_ 0 w)] ?_)
 refine gL [6,8] (Dz S L f m t) ?_
 rintro _ _ ⟨Ah,ch,rfl,rfl⟩
 refine gK 2 [(2,vI ↑S.us.length)] [] ?_
 refine NN (af.ret ?_)
 exact RT (vI ↑S.us.length) [3,4,5,6,7,8,0,9,1,10,11,12,13] (⟨rfl,rfl⟩)
theorem KY {β:Bs} (S:aG) (L:HL) (w o q f m t am an km kn:Nat) (Z:AZ) (fs:List bR) (xs:List cI) (root:Int) (tr:List aB) (tA:Option Addr) (tC:Nat)  :
    Spec Tryz.prog β 27 #[vP w] (DB w f o root tA tr tC q am km Z xs an fs kn m t S L) (fun v l=>v=vI S.ar/\l=(DB w f o root tA tr tC q am km Z xs an fs kn m t S L)):=by
 refine Spec.enter Tryz.func27 rfl Tryz.ntmps27 (Nat.le_of_ble_eq_true rfl) (fun R=>?_)
 refine SR (gK 1 [] [] ?_)
 refine NS (gK 4 [(6,vP f)] [(3,a_ 0 w)] ?_)
 refine gL [6,8] (FE S L f m t) ?_
 rintro _ _ ⟨rfl,rfl⟩
 refine gK 1 [(2,vI (S.ar))] [] ?_
 refine NN (af.ret ?_)
 exact RT (vI (S.ar)) [2,3,4,5,6,7,0,8,1,9,10,11,12] (⟨rfl,rfl⟩)
theorem Jr {β:Bs} (S:aG) (L:HL) (w o q f m t am an km kn:Nat) (Z:AZ) (fs:List bR) (xs:List cI) (root:Int) (tr:List aB) (tA:Option Addr) (tC:Nat) (hI:Inv S) :
    Spec Tryz.prog β 18 #[vP w] (DB w f o root tA tr tC q am km Z xs an fs kn m t S L) (fun v l=>∃ A cp K,v=.agg #[.slice A (aS S).length cp]/\l=(DB w f o root tA tr tC q am km Z xs an fs kn m t S L)++[.abs (aH 70 10 A (aS S).length cp (dr K (aS S))),.abs (jk (kW (aS S) K) (aS S).length),.abs (jk (kX (aS S) K) (aS S).length)]):=by
 refine Spec.enter Tryz.func18 rfl Tryz.ntmps18 (Nat.le_of_ble_eq_true rfl) (fun R=>?_)
 refine SR (gN 1 (fun b1=>[(2,vP b1)]) (fun _=>[]) (fun _=>[]) (fun b1=>.blk b1 [.slice none (0) (0)] 24) (fun b1=>?_))
 refine NS (gK 4 [(6,vP f)] [(3,a_ 0 w)] ?_)
 refine gL [6,7,9,10,11] (Dq S L f m t hI) ?_
 rintro _ _ ⟨Ao,cp,K,rfl,rfl⟩
 refine gC 1 [] [(0,a_ 16 b1)] [(16,[(0,.slice Ao ((aS S).length) (cp))])] ?_
 refine NN (af.ret ?_)
 exact ai.ret (v:=.agg #[.slice Ao ((aS S).length) (cp)]) (l:=[SV w f o root tA tr tC,.blk o [.iface 181 (vP q),vP f,vI (root),.map (some am),vI ↑tr.length] 185,.blk q [.iface 54 (vP f),.map (some km),vI ↑tr.length] 183,SW am Z xs an,SX km fs kn,SY tA tr tC,pF f m t S.X,pI m L S.idx,jT t S L,pO S.O L,pD S.O L,pE S.O L,.abs (aH 70 10 Ao ((aS S).length) cp (dr K (aS S))),.abs (jk (kW (aS S) K) (aS S).length),.abs (jk (kX (aS S) K) (aS S).length)]) (bA:=[b1=b1]) [.at 16] [8,9,10,11,12,13,0,1,14,2,3,4,5,6,7,15] (fun _=>by kernel_rfl) ⟨rfl,trivial⟩ rfl (by kernel_rfl) (⟨Ao,cp,K,rfl,rfl⟩)
theorem wi {β:Bs} (Af:Option Addr) (cf:Nat) (fs:List bR) (hF:cM β Af (bN eH fs)) (hfl:fs.length<=2097152) (Aa:Option Addr) (ca:Nat) (xs:List cI) (hA:cM β Aa (bN fF xs)) (hxl:xs.length<=2097152) :
    Spec Tryz.prog β 29 #[.agg #[.slice Af (fs.length) (cf),.slice Aa (xs.length) (ca)]] [] (fun v l=>∃ B b C c,v=.agg #[.slice B fs.length b,.slice C xs.length c]/\l=[.abs (aH 39 2 B fs.length b (bN eH fs)),.abs (aH 41 5 C xs.length c (bN fF xs))]):=by
 refine Spec.enter Tryz.func29 rfl Tryz.ntmps29 (Nat.le_of_ble_eq_true rfl) (fun R=>?_)
 refine SR (gN 1 (fun b2=>[(1,vP b2)]) (fun _=>[]) (fun _=>[]) (fun b2=>.blk b2 [.slice Af (fs.length) (cf),.slice Aa (xs.length) (ca)] 32) (fun b2=>?_))
 refine gN 1 (fun b3=>[(2,vP b3)]) (fun _=>[]) (fun _=>[]) (fun b3=>.blk b3 [.slice none (0) (0),.slice none (0) (0)] 32) (fun b3=>?_)
 refine NS (gN 2 (fun b4=>[(3,.slice (some ⟨b4,0,none⟩) (0) (0))]) (fun _=>[]) (fun _=>[]) (fun b4=>.blk b4 [] 39) (fun b4=>?_))
 refine NS (aj.mem (fun w hS=>hS.qX (i:=3) (b:=b4) (cs:=[]) (e:=39) 2 0 (by kernel_rfl) rfl (by decide)) ?_)
 refine gK 3 [(6,.slice (some ⟨b4,0,none⟩) (0) (0)),(8,.slice Af (fs.length) (cf))] [(2,a_ 1 b2)] ?_
 refine aj.append 3 (d:=(some 9)) (t:=29) (e:=39) (z:=.agg #[vI 0,vI 0]) (size:=2) (bytes:=16) (n:=0) (cap:=0) (A:=some ⟨b4,0,none⟩) (xs:=[]) (s:=(.tmp 6)) (x:=(.tmp 8)) (ats:=#[29,29]) (A':=Af) (m:=fs.length) (c':=cf) (news:=(bN eH fs)) (fun _=>by kernel_rfl) rfl (by kernel_rfl) (fun _=>by kernel_rfl) (fun _=>by kernel_rfl) Tryz.underlying29 (by kernel_rfl) rfl (by decide) (Dv (f:=eH) (s:=2) (fun _=>rfl) _) (sS (Jl) _ _) (hF.src) (by unfold maxLen;omega) (by omega) (fun A5 c6=>?_)
 refine aj.dK 3 (p:=.abs (aH 39 2 A5 (0+fs.length) c6 ([]++(bN eH fs)))) (p':=.abs (aH 39 2 A5 fs.length c6 (bN eH fs))) (by kernel_rfl) (by rw [Nat.zero_add,List.nil_append]) ?_
 refine aj.slot 9 (.slice A5 (0+fs.length) (c6)) (.slice A5 (fs.length) (c6)) (fun _=>by kernel_rfl) (by rw [Nat.zero_add]) ?_
 refine gK 1 [(3,.slice A5 (fs.length) (c6))] [] ?_
 refine NS (gN 2 (fun b7=>[(4,.slice (some ⟨b7,0,none⟩) (0) (0))]) (fun _=>[]) (fun _=>[]) (fun b7=>.blk b7 [] 41) (fun b7=>?_))
 refine NS (aj.mem (fun w hS=>hS.qX (i:=4) (b:=b7) (cs:=[]) (e:=41) 5 0 (by kernel_rfl) rfl (by decide)) ?_)
 refine gK 3 [(11,.slice (some ⟨b7,0,none⟩) (0) (0)),(13,.slice Aa (xs.length) (ca))] [(2,a_ 1 b2)] ?_
 refine aj.append 4 (d:=(some 14)) (t:=30) (e:=41) (z:=.agg #[vI 0,vI 0,.string ⟨#[]⟩,.string ⟨#[]⟩,.string ⟨#[]⟩]) (size:=5) (bytes:=64) (n:=0) (cap:=0) (A:=some ⟨b7,0,none⟩) (xs:=[]) (s:=(.tmp 11)) (x:=(.tmp 13)) (ats:=#[30,30]) (A':=Aa) (m:=xs.length) (c':=ca) (news:=(bN fF xs)) (fun _=>by kernel_rfl) rfl (by kernel_rfl) (fun _=>by kernel_rfl) (fun _=>by kernel_rfl) Tryz.underlying30 (by kernel_rfl) rfl (by decide) (Dv (f:=fF) (s:=5) (fun _=>rfl) _) (sS (ML) _ _) (hA.src) (by unfold maxLen;omega) (by omega) (fun A8 c9=>?_)
 refine aj.dK 4 (p:=.abs (aH 41 5 A8 (0+xs.length) c9 ([]++(bN fF xs)))) (p':=.abs (aH 41 5 A8 xs.length c9 (bN fF xs))) (by kernel_rfl) (by rw [Nat.zero_add,List.nil_append]) ?_
 refine aj.slot 14 (.slice A8 (0+xs.length) (c9)) (.slice A8 (xs.length) (c9)) (fun _=>by kernel_rfl) (by rw [Nat.zero_add]) ?_
 refine gK 1 [(4,.slice A8 (xs.length) (c9))] [] ?_
 refine NS (gC 4 [] [(3,A_ 2 b3 2)] [(2,[(0,.slice A5 (fs.length) (c6)),(1,.slice A8 (xs.length) (c9))])] ?_)
 refine NN (af.ret ?_)
 exact ai.ret (v:=.agg #[.slice A5 (fs.length) (c6),.slice A8 (xs.length) (c9)]) (l:=[.abs (aH 39 2 A5 fs.length c6 (bN eH fs)),.abs (aH 41 5 A8 xs.length c9 (bN fF xs))]) (bA:=[b3=b3,b3=b3]) [.at 2,.at 2] [3,4,0] (fun _=>by kernel_rfl) ⟨rfl,rfl,trivial⟩ rfl (by kernel_rfl) (⟨A5,c6,A8,c9,rfl,rfl⟩)
theorem QN {β:Bs} (A:Option Addr) (c:Nat) (xs:List aB) (hc:xs.length<=c) :
    Spec Tryz.prog β 14 #[.slice A xs.length c] [] (fun v l=>∃ n,n<=xs.length/\n<=300/\v=.slice A n c/\l=[]):=by
 refine Spec.enter Tryz.func14 rfl Tryz.ntmps14 (Nat.le_of_ble_eq_true rfl) (fun R=>?_)
 refine SR (gK 1 [] [] ?_)
 refine NN (af.seq (SR (gK 3 [(5,.bool (decide ((((xs.length:Nat):Int):Int) > (300:Int))))] [] ?_)))
 refine NN (af.aZ (p:=(((xs.length:Nat):Int):Int) > (300:Int)) (fun _=>by kernel_rfl) (fun h5=>?_) (fun h5=>?_))
 ·refine SR (gK 3 [(2,.slice A (300) (c))] [(1,p_ ⟨[],some 300,none,none,none⟩ [300=((300:Nat):Int),300<=c] ⟨rfl,by omega,trivial⟩)] ?_)
  refine NN (af.ret (ai.ak ?_))
  exact RT (.slice A (300) (c)) [0] (⟨300,by omega,by decide,rfl,rfl⟩)
 refine af.skip (NX (SR (gK 2 [(2,.slice A (xs.length) (c))] [] ?_)))
 refine NN (af.ret ?_)
 exact RT (.slice A (xs.length) (c)) [0] (⟨xs.length,Nat.le_refl _,by omega,rfl,rfl⟩)
end
section
open Go.RowKit Go.Maps bG aE
attribute [local irreducible] aj aP af ai
noncomputable abbrev oM (km)(fs)(kn):=(.abs (aJ Tryz.prog 3 km (dV fs) kn):HP)
noncomputable abbrev uK (q)(f:Nat) (km) (n):=(.blk q [.iface 54 (vP f),.map (some km),vI ↑(n+1)] 183:HP)
noncomputable abbrev SZ (S:aG) (c:aB):=([(6,vI ((bQ S { c with data:=c.data.take (c.data.length / 2) }).2.mode)),(7,vI ((bQ S { c with data:=c.data.take (c.data.length / 2) }).2.uid)),(8,vI ((bQ S { c with data:=c.data.take (c.data.length / 2) }).2.gid)),(9,vI ((bQ S { c with data:=c.data.take (c.data.length / 2) }).2.sec)),(10,vI ((bQ S { c with data:=c.data.take (c.data.length / 2) }).2.nano)),(11,vI ((bQ S { c with data:=c.data.take (c.data.length / 2) }).2.code)),(12,vI ((bQ S { c with data:=c.data.take (c.data.length / 2) }).2.answer))]:Fr)
noncomputable abbrev S5 (c):=([(0,vI ((cV c 180).op)),(1,vI ((cV c 180).handle)),(2,vI ((cV c 180).other)),(3,.string (cV c 180).name),(4,.string (cV c 180).text),(5,.slice (cV c 180).dA ((cV c 180).data.length) ((cV c 180).dC)),(6,vI ((cV c 180).mode)),(7,vI ((cV c 180).uid)),(8,vI ((cV c 180).gid)),(9,vI ((cV c 180).sec)),(10,vI ((cV c 180).nano)),(11,vI ((cV c 180).code)),(12,vI ((cV c 180).answer))]:Fr)
noncomputable abbrev S6 (S:aG) (c:aB):=([(0,vI ((bQ S { c with data:=c.data.take (c.data.length / 2) }).2.op)),(1,vI ((bQ S { c with data:=c.data.take (c.data.length / 2) }).2.handle)),(2,vI ((bQ S { c with data:=c.data.take (c.data.length / 2) }).2.other)),(3,.string (bQ S { c with data:=c.data.take (c.data.length / 2) }).2.name),(4,.string (bQ S { c with data:=c.data.take (c.data.length / 2) }).2.text)]:Fr)
noncomputable abbrev yZ (b3:Nat) (b4:Nat):=([(3,vP b3),(4,vP b4)]:Fr)
noncomputable abbrev DC (km)(fs)(kn)(f:Nat) (m:Nat) (t) (S:aG) (L:HL):=([oM km fs kn,pF f m t S.X,pI m L S.idx,jT t S L,pO S.O L,pD S.O L,pE S.O L]:List HP)
noncomputable abbrev QO (c:aB):=([(3,.string c.name),(4,.string c.text),(5,.slice c.dA (c.data.length) (c.dC))]:Fr)
noncomputable abbrev S7 (f:Nat) (m:Nat) (t) (S:aG) (c) (L2:HL):=([pF f m t ((bQ S c).1.X),pI m L2 (bQ S c).1.idx,pT t (bQ S c).1.X.cH ((bQ S c).1.ar) L2 ((bQ S c).1.us),pO ((bQ S c).1.O) L2,pD ((bQ S c).1.O) L2,pE ((bQ S c).1.O) L2]:List HP)
theorem xR {β:Bs} (c:aB) (e:Int) :
    Spec Tryz.prog β 270 #[.agg ⟨bK c⟩,vI (e)] [] (fun v l=>v=.agg ⟨bK (cV c e)⟩/\l=[]):=by
 refine Spec.enter Tryz.func270 rfl Tryz.ntmps270 (Nat.le_of_ble_eq_true rfl) (fun R=>?_)
 refine SR (gN 1 (fun b1=>[(2,vP b1)]) (fun _=>[]) (fun _=>[]) (fun b1=>pC b1 c) (fun b1=>?_))
 refine gN 1 (fun b2=>[(4,vP b2)]) (fun _=>[]) (fun _=>[]) (fun b2=>.blk b2 [vI 0,vI 0,vI 0,.string ⟨#[]⟩,.string ⟨#[]⟩,.slice none (0) (0),vI 0,vI 0,vI 0,vI 0,vI 0,vI 0,vI 0] 48) (fun b2=>?_)
 refine NN (af.seq (SR (gK 4 [(8,.bool (decide ((c.op:Int)=(11:Int))))] [(1,a_ 1 b1)] ?_)))
 refine aj.gI 8 ((c.op:Int)=(11:Int)) (fun _=>by kernel_rfl) (fun h8=>?_) (fun h8=>?_)
 ·refine gK 4 [(12,.bool true)] [] ?_
  refine NN (CT (af.region (gC 12 [] [(1,a_ 1 b1),(3,a_ 1 b1),(5,a_ 1 b1),(7,a_ 1 b1),(9,a_ 1 b1),(11,A_ 1 b1 13)] [(1,(Cz++[(11,vI 0),(12,vI 0)]))] ?_)))
  refine NS (gC 5 [] [(2,a_ 1 b1),(4,a_ 1 b1)] [(1,[(11,vI (e))])] ?_)
  refine NS (gC 2 [] [(0,A_ 1 b1 13),(1,A_ 2 b2 13)] [(2,([(0,vI (c.op)),(1,vI (c.handle))]++QO c++[(11,vI (e))]))] ?_)
  refine NN (af.ret ?_)
  exact ai.ret (v:=.agg ⟨bK { c with other:=0,mode:=0,uid:=0,gid:=0,sec:=0,nano:=0,code:=e,answer:=0 }⟩) (l:=[]) (bA:=[b2=b2,b2=b2,b2=b2,b2=b2,b2=b2,b2=b2,b2=b2,b2=b2,b2=b2,b2=b2,b2=b2,b2=b2,b2=b2]) [.at 2,.at 2,.at 2,.at 2,.at 2,.at 2,.at 2,.at 2,.at 2,.at 2,.at 2,.at 2,.at 2] [0] (fun _=>by kernel_rfl) ⟨rfl,rfl,rfl,rfl,rfl,rfl,rfl,rfl,rfl,rfl,rfl,rfl,rfl,trivial⟩ rfl (by kernel_rfl) (⟨congrArg (fun x=>Value.agg ⟨bK x⟩) (Eq.symm (if_pos (by omega):cV c e=_)),rfl⟩)
 refine gK 4 [(12,.bool (decide ((c.op:Int)=(12:Int))))] [(1,a_ 1 b1)] ?_
 refine NN (af.aZ (p:=(c.op:Int)=(12:Int)) (fun _=>by kernel_rfl) (fun h12=>?_) (fun h12=>?_))
 ·refine af.region (gC 12 [] [(1,a_ 1 b1),(3,a_ 1 b1),(5,a_ 1 b1),(7,a_ 1 b1),(9,a_ 1 b1),(11,A_ 1 b1 13)] [(1,(Cz++[(11,vI 0),(12,vI 0)]))] ?_)
  refine NS (gC 5 [] [(2,a_ 1 b1),(4,a_ 1 b1)] [(1,[(11,vI (e))])] ?_)
  refine NS (gC 2 [] [(0,A_ 1 b1 13),(1,A_ 2 b2 13)] [(2,([(0,vI (c.op)),(1,vI (c.handle))]++QO c++[(11,vI (e))]))] ?_)
  refine NN (af.ret ?_)
  exact ai.ret (v:=.agg ⟨bK { c with other:=0,mode:=0,uid:=0,gid:=0,sec:=0,nano:=0,code:=e,answer:=0 }⟩) (l:=[]) (bA:=[b2=b2,b2=b2,b2=b2,b2=b2,b2=b2,b2=b2,b2=b2,b2=b2,b2=b2,b2=b2,b2=b2,b2=b2,b2=b2]) [.at 2,.at 2,.at 2,.at 2,.at 2,.at 2,.at 2,.at 2,.at 2,.at 2,.at 2,.at 2,.at 2] [0] (fun _=>by kernel_rfl) ⟨rfl,rfl,rfl,rfl,rfl,rfl,rfl,rfl,rfl,rfl,rfl,rfl,rfl,trivial⟩ rfl (by kernel_rfl) (⟨congrArg (fun x=>Value.agg ⟨bK x⟩) (Eq.symm (if_pos (by omega):cV c e=_)),rfl⟩)
 refine af.skip (NX (SR (gC 5 [] [(2,a_ 1 b1),(4,a_ 1 b1)] [(1,[(11,vI (e)),(12,vI 0)])] ?_)))
 refine NS (gC 2 [] [(0,A_ 1 b1 13),(1,A_ 2 b2 13)] [(2,([(0,vI (c.op)),(1,vI (c.handle)),(2,vI (c.other))]++QO c++[(6,vI (c.mode)),(7,vI (c.uid)),(8,vI (c.gid)),(9,vI (c.sec)),(10,vI (c.nano)),(11,vI (e))]))] ?_)
 refine NN (af.ret ?_)
 exact ai.ret (v:=.agg ⟨bK { c with code:=e,answer:=0 }⟩) (l:=[]) (bA:=[b2=b2,b2=b2,b2=b2,b2=b2,b2=b2,b2=b2,b2=b2,b2=b2,b2=b2,b2=b2,b2=b2,b2=b2,b2=b2]) [.at 2,.at 2,.at 2,.at 2,.at 2,.at 2,.at 2,.at 2,.at 2,.at 2,.at 2,.at 2,.at 2] [0] (fun _=>by kernel_rfl) ⟨rfl,rfl,rfl,rfl,rfl,rfl,rfl,rfl,rfl,rfl,rfl,rfl,rfl,trivial⟩ rfl (by kernel_rfl) (⟨congrArg (fun x=>Value.agg ⟨bK x⟩) (Eq.symm (if_neg (by omega):cV c e=_)),rfl⟩)
theorem QS {β:Bs} (S:aG) (L:HL) (q f m t km kn n:Nat) (fs:List bR) (hI:Inv S) (hn:n<=1048576) (k:Int) (hk:gX fs ((n+1:Nat):Int)=k) (c:aB) (hC:fL β c) :
    Spec Tryz.prog β 269 #[vP q,.agg ⟨bK c⟩] ([.blk q [.iface 54 (vP f),.map (some km),vI (((n:Nat):Int))] 183]++DC km fs kn f m t S L) (fun v l=>∃ L2,v=.agg ⟨bK (bp k S c).2⟩/\l=[.blk q [.iface 54 (vP f),.map (some km),vI ((((n+1):Nat):Int))] 183,oM km fs kn,pF f m t ((bp k S c).1.X),pI m L2 (bp k S c).1.idx,pT t (bp k S c).1.X.cH ((bp k S c).1.ar) L2 ((bp k S c).1.us),pO ((bp k S c).1.O) L2,pD ((bp k S c).1.O) L2,pE ((bp k S c).1.O) L2]):=by
 have hdl:=hC.dl
 have hdc:=hC.dc
 refine Spec.enter Tryz.func269 rfl Tryz.ntmps269 (Nat.le_of_ble_eq_true rfl) (fun R=>?_)
 refine SR (gN 1 (fun b3=>[(3,vP b3)]) (fun _=>[]) (fun _=>[]) (fun b3=>pC b3 c) (fun b3=>?_))
 refine gN 1 (fun b4=>[(4,vP b4)]) (fun _=>[]) (fun _=>[]) (fun b4=>.blk b4 [vI 0,vI 0,vI 0,.string ⟨#[]⟩,.string ⟨#[]⟩,.slice none (0) (0),vI 0,vI 0,vI 0,vI 0,vI 0,vI 0,vI 0] 48) (fun b4=>?_)
 refine NS (gC 8 [] [(3,a_ 0 q),(4,p_ ⟨[],none,none,none,some (vI ↑(n+1))⟩ [(Value.int .i64 (IntKind.wrap .i64 (((n:Nat):Int)+1)))=(.int .i64 ↑(n+1))] ⟨bD (by omega) (by omega) (by omega),trivial⟩),(7,a_ 0 q)] [(0,[(2,vI ↑(n+1))])] ?_)
 refine NN (af.join (ι:=Unit) (fun (u:Unit)=>(¬ k=1)/\(¬ (k=2/\(c.op=4\/c.op=5\/c.op=6\/c.op=7\/c.op=9)))/\(¬ (k=3/\c.op=9/\2<=c.data.length))) (fun (u:Unit)=>([(0,vP q)]++yZ b3 b4)) (fun (u:Unit)=>([uK q f km n]++DC km fs kn f m t S L++[.abs R,pC b3 c,oW b4])) ?_ ?_)
 ·rintro u ⟨nW,hj2,hj3⟩
  show af _ _ _ _ ([(0,vP q)]++yZ b3 b4) ([uK q f km n]++DC km fs kn f m t S L++[.abs R,pC b3 c,oW b4]) _
  refine af.seq (af.bP (S:=[uK q f km n,pC b3 c]) [0,1,2,3,4,5,6] 5 [0,9] (by kernel_rfl) (by kernel_rfl) rfl (by kernel_rfl) ?_)
  refine gR 0 [5,6] [(4,vP b4),(78,.iface 54 (vP f)),(79,.agg ⟨bK c⟩)] [0,1,2,3,4] [(3,a_ 0 q),(4,A_ 1 b3 13)] ?_
  refine mL [6,9] [2,3,4,5,6,7] (Bh S L f m t hI c hC) ?_ (by rintro _ _ ⟨L2,rfl,rfl⟩;rfl)
  rintro _ _ ⟨L2,rfl,rfl⟩
  refine aL.last rfl rfl ?_
  refine gC 1 [] [(0,A_ 10 b4 13)] [(10,[(0,vI ((bQ S c).2.op)),(1,vI ((bQ S c).2.handle)),(2,vI ((bQ S c).2.other)),(3,.string (bQ S c).2.name),(4,.string (bQ S c).2.text),(5,.slice (bQ S c).2.dA ((bQ S c).2.data.length) ((bQ S c).2.dC)),(6,vI ((bQ S c).2.mode)),(7,vI ((bQ S c).2.uid)),(8,vI ((bQ S c).2.gid)),(9,vI ((bQ S c).2.sec)),(10,vI ((bQ S c).2.nano)),(11,vI ((bQ S c).2.code)),(12,vI ((bQ S c).2.answer))])] ?_
  refine NL (ai.np (NX (af.ret ?_)))
  exact ai.ret (v:=.agg ⟨bK ((bQ S c).2)⟩) (l:=([uK q f km n,oM km fs kn]++S7 f m t S c L2)) (bA:=[b4=b4,b4=b4,b4=b4,b4=b4,b4=b4,b4=b4,b4=b4,b4=b4,b4=b4,b4=b4,b4=b4,b4=b4,b4=b4]) [.at 10,.at 10,.at 10,.at 10,.at 10,.at 10,.at 10,.at 10,.at 10,.at 10,.at 10,.at 10,.at 10] [6,7,0,1,2,3,4,5,8] (fun _=>by kernel_rfl) ⟨rfl,rfl,rfl,rfl,rfl,rfl,rfl,rfl,rfl,rfl,rfl,rfl,rfl,trivial⟩ rfl (by kernel_rfl) (⟨L2,by rw [show bp k S c=((bQ S c).1,(bQ S c).2) by unfold bp;rw [if_neg nW,if_neg hj2,if_neg hj3]]<;>exact⟨rfl,rfl⟩⟩)
 refine af.seq (af.bH (by kernel_rfl) (by kernel_rfl) ?_)
 refine gQ 8 [(16,.map (some km)),(20,vI ↑(n+1))] [(3,a_ 0 q),(7,a_ 0 q)] ?_
 refine aP.dW 1 (d:=(some 21)) (t:=179) (K:=3) (E:=3) (b:=km) (n:=kn) (f:=(dV fs)) (x:=(.tmp 16)) (ix:=(.tmp 20)) (key:=.int .i64 ↑(n+1)) (z:=.int .i64 0) (kl:=(.int .i64 ((n+1:Nat):Int))) (r:=(dV fs (.int .i64 ((n+1:Nat):Int)))) (fun _=>by kernel_rfl) (by kernel_rfl) (fun _=>by kernel_rfl) (fun _=>by kernel_rfl) dQ Tryz.underlying179 (fun _=>by kernel_rfl) (gS (KT (by omega))) (rfl) ?_
 refine NQ (NX (af.block (SR ?_)))
 refine aj.slot 21 (((dV fs (.int .i64 ((n+1:Nat):Int))).getD (.int .i64 0))) (.int .i64 (k)) (fun _=>by kernel_rfl) (Dw.trans (congrArg (Value.int .i64) hk)) ?_
 refine gK 2 [(22,.bool (decide ((k:Int)=(1:Int))))] [] ?_
 refine NN (af.aZ (p:=(k:Int)=(1:Int)) (fun _=>by kernel_rfl) (fun vV=>?_) (fun vV=>?_))
 ·refine af.seq (SR (gK 3 [(26,.bool (decide ((c.op:Int)=(13:Int))))] [(1,a_ 9 b3)] ?_))
  refine NN (af.aZ (p:=(c.op:Int)=(13:Int)) (fun _=>by kernel_rfl) (fun vR=>?_) (fun vR=>?_))
  ·refine af.bP (S:=[uK q f km n,pC b3 c]) [0,1,2,3,4,5] 5 [0,9] (by kernel_rfl) (by kernel_rfl) rfl (by kernel_rfl) ?_
   refine gR 0 [5] (yZ b3 b4++[(30,.iface 54 (vP f)),(31,.agg ⟨bK c⟩)]) [0,1,2,3,4] [(3,a_ 0 q),(4,A_ 1 b3 13)] ?_
   refine aL.last rfl rfl ?_
   refine gL [2,3,4,5,6,7] (Bh S L f m t hI c hC) ?_
   rintro _ _ ⟨L2,rfl,rfl⟩
   refine NL (ai.np (NX (SR ?_)))
   refine gK 1 [(33,.agg ⟨bK c⟩)] [(0,A_ 9 b3 13)] ?_
   refine gL [] (xR c 180) ?_
   rintro _ _ ⟨rfl,rfl⟩
   refine gC 1 [] [(0,A_ 10 b4 13)] [(10,(S5 c))] ?_
   refine NN (af.ret (ai.aF (ai.ak ?_)))
   exact ai.ret (v:=.agg ⟨bK (cV c 180)⟩) (l:=([uK q f km n,oM km fs kn]++S7 f m t S c L2)) (bA:=[b4=b4,b4=b4,b4=b4,b4=b4,b4=b4,b4=b4,b4=b4,b4=b4,b4=b4,b4=b4,b4=b4,b4=b4,b4=b4]) [.at 10,.at 10,.at 10,.at 10,.at 10,.at 10,.at 10,.at 10,.at 10,.at 10,.at 10,.at 10,.at 10] [6,7,0,1,2,3,4,5,8] (fun _=>by kernel_rfl) ⟨rfl,rfl,rfl,rfl,rfl,rfl,rfl,rfl,rfl,rfl,rfl,rfl,rfl,trivial⟩ rfl (by kernel_rfl) (⟨L2,by rw [show bp k S c=((bQ S c).1,cV c 180) by unfold bp;rw [if_pos vV,if_pos vR]]<;>exact⟨rfl,rfl⟩⟩)
  refine af.skip (NX (SR (gK 1 [(33,.agg ⟨bK c⟩)] [(0,A_ 9 b3 13)] ?_)))
  refine gL [] (xR c 180) ?_
  rintro _ _ ⟨rfl,rfl⟩
  refine gC 1 [] [(0,A_ 10 b4 13)] [(10,(S5 c))] ?_
  refine NN (af.ret (ai.aF (ai.ak ?_)))
  exact ai.ret (v:=.agg ⟨bK (cV c 180)⟩) (l:=([uK q f km n]++DC km fs kn f m t S L)) (bA:=[b4=b4,b4=b4,b4=b4,b4=b4,b4=b4,b4=b4,b4=b4,b4=b4,b4=b4,b4=b4,b4=b4,b4=b4,b4=b4]) [.at 10,.at 10,.at 10,.at 10,.at 10,.at 10,.at 10,.at 10,.at 10,.at 10,.at 10,.at 10,.at 10] [0,1,2,3,4,5,6,7,8] (fun _=>by kernel_rfl) ⟨rfl,rfl,rfl,rfl,rfl,rfl,rfl,rfl,rfl,rfl,rfl,rfl,rfl,trivial⟩ rfl (by kernel_rfl) (⟨L,by rw [show bp k S c=(S,cV c 180) by unfold bp;rw [if_pos vV,if_neg vR]]<;>exact⟨rfl,rfl⟩⟩)
 refine SR (gK 2 [(35,.bool (decide ((k:Int)=(2:Int))))] [] ?_)
 refine NN (af.aZ (p:=(k:Int)=(2:Int)) (fun _=>by kernel_rfl) (fun jE=>?_) (fun jE=>?_))
 ·refine SR (gK 2 [(38,vI (c.op))] [(1,a_ 9 b3)] ?_)
  refine NN (af.block ?_)
  refine af.join (ι:=Bool) (fun (fl:Bool)=>(fl=true↔(c.op=4\/c.op=5\/c.op=6\/c.op=7\/c.op=9))) (fun (fl:Bool)=>([(0,vP q)]++yZ b3 b4++[(39,.bool fl)])) (fun (fl:Bool)=>([uK q f km n]++DC km fs kn f m t S L++[.abs R,pC b3 c,oW b4])) ?_ ?_
  ·rintro fl hfl
   show af _ _ _ _ ([(0,vP q)]++yZ b3 b4++[(39,.bool fl)]) ([uK q f km n]++DC km fs kn f m t S L++[.abs R,pC b3 c,oW b4]) _
   refine af.cond (b:=fl) (fun _=>by kernel_rfl) (fun iY=>?_) (fun iY=>?_)
   ·refine SR (gK 1 [(45,.agg ⟨bK c⟩)] [(0,A_ 9 b3 13)] ?_)
    refine gL [] (xR c 176) ?_
    rintro _ _ ⟨rfl,rfl⟩
    refine gC 1 [] [(0,A_ 10 b4 13)] [(10,[(0,vI ((cV c 176).op)),(1,vI ((cV c 176).handle)),(2,vI ((cV c 176).other)),(3,.string (cV c 176).name),(4,.string (cV c 176).text),(5,.slice (cV c 176).dA ((cV c 176).data.length) ((cV c 176).dC)),(6,vI ((cV c 176).mode)),(7,vI ((cV c 176).uid)),(8,vI ((cV c 176).gid)),(9,vI ((cV c 176).sec)),(10,vI ((cV c 176).nano)),(11,vI ((cV c 176).code)),(12,vI ((cV c 176).answer))])] ?_
    refine NN (af.ret (ai.aF (ai.aF (ai.ak ?_))))
    exact ai.ret (v:=.agg ⟨bK (cV c 176)⟩) (l:=([uK q f km n]++DC km fs kn f m t S L)) (bA:=[b4=b4,b4=b4,b4=b4,b4=b4,b4=b4,b4=b4,b4=b4,b4=b4,b4=b4,b4=b4,b4=b4,b4=b4,b4=b4]) [.at 10,.at 10,.at 10,.at 10,.at 10,.at 10,.at 10,.at 10,.at 10,.at 10,.at 10,.at 10,.at 10] [0,1,2,3,4,5,6,7,8] (fun _=>by kernel_rfl) ⟨rfl,rfl,rfl,rfl,rfl,rfl,rfl,rfl,rfl,rfl,rfl,rfl,rfl,trivial⟩ rfl (by kernel_rfl) (⟨L,by rw [show bp k S c=(S,cV c 176) by unfold bp;rw [if_neg (by omega),if_pos ⟨jE,hfl.1 iY⟩]]<;>exact⟨rfl,rfl⟩⟩)
   refine af.skip (ai.aN (ai.aN ?_))
   exact ai.meet () (idx:=[0,3,4]) (pk:=[0,1,2,3,4,5,6,7,8,9,10]) (show (¬ k=1)/\(¬ (k=2/\(c.op=4\/c.op=5\/c.op=6\/c.op=7\/c.op=9)))/\(¬ (k=3/\c.op=9/\2<=c.data.length)) from ⟨vV,fun h=>absurd (iY.symm.trans (hfl.2 h.2)) (by decide),fun h=>by omega⟩) (fun _=>by kernel_rfl) rfl (by kernel_rfl)
  refine SR (gK 2 [(39,.bool (decide ((c.op:Int)=(4:Int))))] [] ?_)
  refine NN (af.aZ (p:=(c.op:Int)=(4:Int)) (fun _=>by kernel_rfl) (fun iY=>?_) (fun iY=>?_))
  ·refine af.skip (ai.slot 39 (.bool (decide ((c.op:Int)=(4:Int)))) (.bool true) (fun _=>by kernel_rfl) (congrArg Value.bool (decide_eq_true iY)) ?_)
   exact ai.meet true (idx:=[0,3,4,39]) (pk:=[0,1,2,3,4,5,6,7,8,9,10]) (show (true=true↔(c.op=4\/c.op=5\/c.op=6\/c.op=7\/c.op=9)) from ⟨fun _=>by omega,fun _=>rfl⟩) (fun _=>by kernel_rfl) rfl (by kernel_rfl)
  refine SR (gK 2 [(39,.bool (decide ((c.op:Int)=(5:Int))))] [] ?_)
  refine NN (af.aZ (p:=(c.op:Int)=(5:Int)) (fun _=>by kernel_rfl) (fun iY=>?_) (fun iY=>?_))
  ·refine af.skip (ai.slot 39 (.bool (decide ((c.op:Int)=(5:Int)))) (.bool true) (fun _=>by kernel_rfl) (congrArg Value.bool (decide_eq_true iY)) ?_)
   exact ai.meet true (idx:=[0,3,4,39]) (pk:=[0,1,2,3,4,5,6,7,8,9,10]) (show (true=true↔(c.op=4\/c.op=5\/c.op=6\/c.op=7\/c.op=9)) from ⟨fun _=>by omega,fun _=>rfl⟩) (fun _=>by kernel_rfl) rfl (by kernel_rfl)
  refine SR (gK 2 [(39,.bool (decide ((c.op:Int)=(6:Int))))] [] ?_)
  refine NN (af.aZ (p:=(c.op:Int)=(6:Int)) (fun _=>by kernel_rfl) (fun iY=>?_) (fun iY=>?_))
  ·refine af.skip (ai.slot 39 (.bool (decide ((c.op:Int)=(6:Int)))) (.bool true) (fun _=>by kernel_rfl) (congrArg Value.bool (decide_eq_true iY)) ?_)
   exact ai.meet true (idx:=[0,3,4,39]) (pk:=[0,1,2,3,4,5,6,7,8,9,10]) (show (true=true↔(c.op=4\/c.op=5\/c.op=6\/c.op=7\/c.op=9)) from ⟨fun _=>by omega,fun _=>rfl⟩) (fun _=>by kernel_rfl) rfl (by kernel_rfl)
  refine SR (gK 2 [(39,.bool (decide ((c.op:Int)=(7:Int))))] [] ?_)
  refine NN (af.aZ (p:=(c.op:Int)=(7:Int)) (fun _=>by kernel_rfl) (fun iY=>?_) (fun iY=>?_))
  ·refine af.skip (ai.slot 39 (.bool (decide ((c.op:Int)=(7:Int)))) (.bool true) (fun _=>by kernel_rfl) (congrArg Value.bool (decide_eq_true iY)) ?_)
   exact ai.meet true (idx:=[0,3,4,39]) (pk:=[0,1,2,3,4,5,6,7,8,9,10]) (show (true=true↔(c.op=4\/c.op=5\/c.op=6\/c.op=7\/c.op=9)) from ⟨fun _=>by omega,fun _=>rfl⟩) (fun _=>by kernel_rfl) rfl (by kernel_rfl)
  refine af.region (gK 2 [(39,.bool (decide ((c.op:Int)=(9:Int))))] [] ?_)
  refine NL ?_
  exact ai.meet ((decide (c.op=9))) (idx:=[0,3,4,39]) (pk:=[0,1,2,3,4,5,6,7,8,9,10]) (show (((decide (c.op=9)))=true↔(c.op=4\/c.op=5\/c.op=6\/c.op=7\/c.op=9)) from ⟨fun h=>by have:=of_decide_eq_true h;omega,fun h=>decide_eq_true (by omega)⟩) (fun _=>by kernel_rfl) rfl (by kernel_rfl)
 refine SR (gK 2 [(47,.bool (decide ((k:Int)=(3:Int))))] [] ?_)
 refine NN (af.aZ (p:=(k:Int)=(3:Int)) (fun _=>by kernel_rfl) (fun Ob=>?_) (fun Ob=>?_))
 ·refine SR (gK 4 [(52,.bool (decide ((c.op:Int)=(9:Int))))] [(1,a_ 9 b3)] ?_)
  refine aj.gI 52 ((c.op:Int)=(9:Int)) (fun _=>by kernel_rfl) (fun JF=>?_) (fun JF=>?_)
  ·refine gK 5 [(57,.bool (decide ((((c.data.length:Nat):Int):Int) ≥ (2:Int))))] [(1,a_ 9 b3)] ?_
   refine NN (af.aZ (p:=(((c.data.length:Nat):Int):Int) ≥ (2:Int)) (fun _=>by kernel_rfl) (fun uF=>?_) (fun uF=>?_))
   ·refine SR (gK 3 [(5,.slice c.dA (c.data.length) (c.dC))] [(1,a_ 9 b3)] ?_)
    refine NS (gK 5 [(64,.slice c.dA ((c.data.length / 2)) (c.dC))] [(3,p_ ⟨[],none,none,none,some (vI ↑(c.data.length / 2))⟩ [(Value.int .i64 (IntKind.wrap .i64 (Int.tdiv ((c.data.length:Nat):Int) 2)))=(.int .i64 ↑(c.data.length / 2))] ⟨bD (Int.ofNat_tdiv _ _).symm (by omega) (by omega),trivial⟩),(4,p_ ⟨[],some (c.data.length / 2),none,none,none⟩ [((c.data.length / 2:Nat):Int)=(((c.data.length / 2):Nat):Int),(c.data.length / 2)<=c.dC] ⟨rfl,by omega,trivial⟩)] ?_)
    refine aj.slot 64 (.slice c.dA ((c.data.length / 2)) (c.dC)) (.slice c.dA ((c.data.take (c.data.length / 2)).length) (c.dC)) (fun _=>by kernel_rfl) (by rw [List.length_take,Nat.min_eq_left (by omega)]) ?_
    refine gC 2 [] [(1,a_ 9 b3)] [(9,[(5,.slice c.dA ((c.data.take (c.data.length / 2)).length) (c.dC))])] ?_
    refine NN (af.seq (af.bP (S:=[uK q f km n,.blk b3 [vI (c.op),vI (c.handle),vI (c.other),.string c.name,.string c.text,.slice c.dA ((c.data.take (c.data.length / 2)).length) (c.dC),vI (c.mode),vI (c.uid),vI (c.gid),vI (c.sec),vI (c.nano),vI (c.code),vI (c.answer)] 48]) [0,1,2,3,4,5,6] 5 [0,9] (by kernel_rfl) (by kernel_rfl) rfl (by kernel_rfl) ?_))
    refine gR 0 [5,6] (yZ b3 b4++[(5,.slice c.dA (c.data.length) (c.dC)),(69,.iface 54 (vP f)),(70,.agg #[vI (c.op),vI (c.handle),vI (c.other),.string c.name,.string c.text,.slice c.dA ((c.data.take (c.data.length / 2)).length) (c.dC),vI (c.mode),vI (c.uid),vI (c.gid),vI (c.sec),vI (c.nano),vI (c.code),vI (c.answer)])]) [0,1,2,3,4] [(3,a_ 0 q),(4,A_ 1 b3 13)] ?_
    refine mL [6,9] [2,3,4,5,6,7] (Bh S L f m t hI { c with data:=c.data.take (c.data.length / 2) } (Gr hC)) ?_ (by rintro _ _ ⟨L2,rfl,rfl⟩;rfl)
    rintro _ _ ⟨L2,rfl,rfl⟩
    refine aL.last rfl rfl ?_
    refine gC 1 [] [(0,A_ 9 b3 13)] [(9,(S6 S c++[(5,.slice (bQ S { c with data:=c.data.take (c.data.length / 2) }).2.dA ((bQ S { c with data:=c.data.take (c.data.length / 2) }).2.data.length) ((bQ S { c with data:=c.data.take (c.data.length / 2) }).2.dC))]++SZ S c))] ?_
    refine NL (ai.np (NX (SR ?_)))
    refine gC 3 [] [(2,a_ 9 b3)] [(9,[(5,.slice c.dA (c.data.length) (c.dC))])] ?_
    refine NS (gC 2 [] [(0,A_ 9 b3 13),(1,A_ 10 b4 13)] [(10,(S6 S c++[(5,.slice c.dA (c.data.length) (c.dC))]++SZ S c))] ?_)
    refine NN (af.ret (ai.aF (ai.ak ?_)))
    exact ai.ret (v:=.agg #[vI ((bQ S { c with data:=c.data.take (c.data.length / 2) }).2.op),vI ((bQ S { c with data:=c.data.take (c.data.length / 2) }).2.handle),vI ((bQ S { c with data:=c.data.take (c.data.length / 2) }).2.other),.string (bQ S { c with data:=c.data.take (c.data.length / 2) }).2.name,.string (bQ S { c with data:=c.data.take (c.data.length / 2) }).2.text,.slice c.dA (c.data.length) (c.dC),vI ((bQ S { c with data:=c.data.take (c.data.length / 2) }).2.mode),vI ((bQ S { c with data:=c.data.take (c.data.length / 2) }).2.uid),vI ((bQ S { c with data:=c.data.take (c.data.length / 2) }).2.gid),vI ((bQ S { c with data:=c.data.take (c.data.length / 2) }).2.sec),vI ((bQ S { c with data:=c.data.take (c.data.length / 2) }).2.nano),vI ((bQ S { c with data:=c.data.take (c.data.length / 2) }).2.code),vI ((bQ S { c with data:=c.data.take (c.data.length / 2) }).2.answer)]) (l:=[uK q f km n,oM km fs kn,pF f m t ((bQ S { c with data:=c.data.take (c.data.length / 2) }).1.X),pI m L2 (bQ S { c with data:=c.data.take (c.data.length / 2) }).1.idx,pT t (bQ S { c with data:=c.data.take (c.data.length / 2) }).1.X.cH ((bQ S { c with data:=c.data.take (c.data.length / 2) }).1.ar) L2 ((bQ S { c with data:=c.data.take (c.data.length / 2) }).1.us),pO ((bQ S { c with data:=c.data.take (c.data.length / 2) }).1.O) L2,pD ((bQ S { c with data:=c.data.take (c.data.length / 2) }).1.O) L2,pE ((bQ S { c with data:=c.data.take (c.data.length / 2) }).1.O) L2]) (bA:=[b4=b4,b4=b4,b4=b4,b4=b4,b4=b4,b4=b4,b4=b4,b4=b4,b4=b4,b4=b4,b4=b4,b4=b4,b4=b4]) [.at 10,.at 10,.at 10,.at 10,.at 10,.at 10,.at 10,.at 10,.at 10,.at 10,.at 10,.at 10,.at 10] [6,7,0,1,2,3,4,5,8] (fun _=>by kernel_rfl) ⟨rfl,rfl,rfl,rfl,rfl,rfl,rfl,rfl,rfl,rfl,rfl,rfl,rfl,trivial⟩ rfl (by kernel_rfl) (⟨L2,by rw [show bp k S c=((bQ S { c with data:=c.data.take (c.data.length / 2) }).1,{ (bQ S { c with data:=c.data.take (c.data.length / 2) }).2 with dA:=c.dA,dC:=c.dC,data:=c.data }) by unfold bp;rw [if_neg (by omega),if_neg (by omega),if_pos ⟨Ob,by omega,by omega⟩]]<;>exact⟨rfl,rfl⟩⟩)
   refine af.skip (ai.aN ?_)
   exact ai.meet () (idx:=[0,3,4]) (pk:=[0,1,2,3,4,5,6,7,8,9,10]) (show (¬ k=1)/\(¬ (k=2/\(c.op=4\/c.op=5\/c.op=6\/c.op=7\/c.op=9)))/\(¬ (k=3/\c.op=9/\2<=c.data.length)) from ⟨vV,fun h=>jE h.1,fun h=>by omega⟩) (fun _=>by kernel_rfl) rfl (by kernel_rfl)
  refine gK 5 [(57,.bool false)] [] ?_
  refine NN (CF (af.skip (ai.aN ?_)))
  exact ai.meet () (idx:=[0,3,4]) (pk:=[0,1,2,3,4,5,6,7,8,9,10]) (show (¬ k=1)/\(¬ (k=2/\(c.op=4\/c.op=5\/c.op=6\/c.op=7\/c.op=9)))/\(¬ (k=3/\c.op=9/\2<=c.data.length)) from ⟨vV,fun h=>jE h.1,fun h=>by omega⟩) (fun _=>by kernel_rfl) rfl (by kernel_rfl)
 refine af.skip (ai.aN ?_)
 exact ai.meet () (idx:=[0,3,4]) (pk:=[0,1,2,3,4,5,6,7,8,9,10]) (show (¬ k=1)/\(¬ (k=2/\(c.op=4\/c.op=5\/c.op=6\/c.op=7\/c.op=9)))/\(¬ (k=3/\c.op=9/\2<=c.data.length)) from ⟨vV,fun h=>jE h.1,fun h=>by omega⟩) (fun _=>by kernel_rfl) rfl (by kernel_rfl)
end
end Go.Proofs.YtidjcblbdmfalaaGreat
section
namespace Go.Proofs
open Go.Shelf
def Tryz.lays146_ren:Go.Shelf.Ren:=⟨fun|146=>257|221=>258|268=>259|138=>260|143=>261|195=>262|197=>263|218=>264|219=>265|260=>266|217=>219|225=>231|224=>230|267=>267|266=>224|314=>268|n=>n,fun|9=>9|31=>154|3=>3|4=>4|0=>0|105=>332|21=>21|5=>5|46=>234|119=>334|139=>337|138=>336|146=>338|51=>266|n=>n,fun|1=>0|3=>1|4=>2|n=>n⟩
theorem Tryz.lays146:Go.Proofs.Lays.n146 Tryz.prog Tryz.lays146_ren:={
  mixed:=by kernel_rfl
  f138:=Tryz.func260.trans (congrArg some (by kernel_rfl))
  f143:=Tryz.func261.trans (congrArg some (by kernel_rfl))
  f146:=Tryz.func257.trans (congrArg some (by kernel_rfl))
  f195:=Tryz.func262.trans (congrArg some (by kernel_rfl))
  f197:=Tryz.func263.trans (congrArg some (by kernel_rfl))
  f217:=Tryz.func219.trans (congrArg some (by kernel_rfl))
  f218:=Tryz.func264.trans (congrArg some (by kernel_rfl))
  f219:=Tryz.func265.trans (congrArg some (by kernel_rfl))
  f221:=Tryz.func258.trans (congrArg some (by kernel_rfl))
  f224:=Tryz.func230.trans (congrArg some (by kernel_rfl))
  f225:=Tryz.func231.trans (congrArg some (by kernel_rfl))
  f260:=Tryz.func266.trans (congrArg some (by kernel_rfl))
  f266:=Tryz.func224.trans (congrArg some (by kernel_rfl))
  f267:=Tryz.func267.trans (congrArg some (by kernel_rfl))
  f268:=Tryz.func259.trans (congrArg some (by kernel_rfl))
  f314:=Tryz.func268.trans (congrArg some (by kernel_rfl))
  t0:=Tryz.underlying0
  a0:=Tryz.isAgg0
  z0:=Tryz.sizeOf0
  v0:=Tryz.zeroValue0
  t3:=Tryz.underlying3
  a3:=Tryz.isAgg3
  z3:=Tryz.sizeOf3
  v3:=Tryz.zeroValue3
  t4:=Tryz.underlying4
  a4:=Tryz.isAgg4
  z4:=Tryz.sizeOf4
  v4:=Tryz.zeroValue4
  t5:=Tryz.underlying5
  a5:=Tryz.isAgg5
  z5:=Tryz.sizeOf5
  v5:=Tryz.zeroValue5
  t9:=Tryz.underlying9
  a9:=Tryz.isAgg9
  z9:=Tryz.sizeOf9
  v9:=Tryz.zeroValue9
  t21:=Tryz.underlying21
  a21:=Tryz.isAgg21
  z21:=Tryz.sizeOf21
  v21:=Tryz.zeroValue21
  t31:=Tryz.underlying154
  a31:=Tryz.isAgg154
  z31:=Tryz.sizeOf154
  v31:=Tryz.zeroValue154
  t46:=Tryz.underlying234
  a46:=Tryz.isAgg234
  z46:=Tryz.sizeOf234
  v46:=Tryz.zeroValue234
  t51:=Tryz.underlying266
  a51:=Tryz.isAgg266
  z51:=Tryz.sizeOf266
  v51:=Tryz.zeroValue266
  t105:=Tryz.underlying332
  a105:=Tryz.isAgg332
  z105:=Tryz.sizeOf332
  v105:=Tryz.zeroValue332
  t119:=Tryz.underlying334
  a119:=Tryz.isAgg334
  z119:=Tryz.sizeOf334
  t138:=Tryz.underlying336
  a138:=Tryz.isAgg336
  z138:=Tryz.sizeOf336
  v138:=Tryz.zeroValue336
  t139:=Tryz.underlying337
  a139:=Tryz.isAgg337
  z139:=Tryz.sizeOf337
  v139:=Tryz.zeroValue337
  t146:=Tryz.underlying338
  a146:=Tryz.isAgg338
  z146:=Tryz.sizeOf338
  v146:=Tryz.zeroValue338
  g1:=by kernel_rfl
  g3:=by kernel_rfl
  g4:=by kernel_rfl }
open Go.RowKit Go.Lib in
theorem Tryz.strings_Split (s sep:ByteArray) (m:Int) (w:World) (hs:s.size < 4294967281) (hm:w.cell? ⟨0,0,none⟩=some (.int .i64 m)) (h1:1<=sep.size) :
    Calls Tryz.prog 257 #[.string s,.string sep] w fun e w'=>
      e=.returned (.slice (some ⟨w.heap.size,0,none⟩) (Lib.countB s sep+1) (Lib.countB s sep+1))/\w'=w.alloc (.cells ((Lib.splitB sep 0 (Lib.countB s sep) s).map Value.string).toArray 9):=Any.strings_Split Tryz.lays146 (by kernel_rfl) s sep m w hs hm h1
end Go.Proofs
end
namespace Go.Proofs.YtidjcblbdmfalaaGreat
section
open Go.RowKit Go.Maps bG aE
def iU (β:Bs):Prop:=∃ m,Rd β ⟨0,0,none⟩ (.int .i64 m)
theorem iU.le {β β':Bs} (h:iU β) (hle:β.le β'):iU β':=h.imp fun _ h=>h.le hle
theorem BH (s:ByteArray):(jc s).length=Lib.countB s slash+1:=Lib.splitB_all slash (by decide) 0 _ s rfl
theorem xS (s:ByteArray):Lib.countB s slash<=s.size:=Lib.countB_le slash (by decide) _ s (Nat.le_refl _)
theorem y4 (sep:ByteArray):∀ (k:Nat) (s:ByteArray),∀ p∈Lib.splitB sep 0 k s,p.size<=s.size
  | 0,s,p,hp=>by
    rw [Lib.splitB_zero] at hp
    rw [List.mem_singleton.1 hp];exact Nat.le_refl _
  | k+1,s,p,hp=>by
    rcases Lib.indexB_cases s sep with hix|⟨i,hix,_⟩
    ·rw [Lib.splitB_miss sep 0 (k+1) s hix] at hp
     rw [List.mem_singleton.1 hp];exact Nat.le_refl _
    rw [Lib.splitB_hit sep 0 k s i hix] at hp
    rcases List.mem_cons.1 hp with rfl|hp
    ·rw [ByteArray.size_extract];omega
    have:=y4 sep k _ p hp
    rw [ByteArray.size_extract] at this
    omega
theorem Gs {s p:ByteArray} (hp:p∈jc s):p.size<=s.size:=y4 slash _ s p hp
def lK (ps:List ByteArray):List Value:=ps.map Value.string
theorem M5 {β:Bs} (hg:iU β) (s:ByteArray) (hs:s.size<=1048576):Spec Tryz.prog β 257 #[.string s,.string ⟨#[47]⟩] [] (fun v l=>∃ b,v=.slice (some ⟨b,0,none⟩) (jc s).length (jc s).length/\l=[.abs (aH 9 1 (some ⟨b,0,none⟩) (jc s).length (jc s).length (lK (jc s)))]):=
  Spec.D7 fun W hW=>by
    obtain⟨m,hg⟩:=hg
    have hm:W.cell? ⟨0,0,none⟩=some (.int .i64 m):=(World.cell?_of_block (w:=β.w0) (hW.old _ hg.1).2).trans hg.2
    have hl:=BH s
    have hc:=xS s
    refine (Tryz.strings_Split s slash m W (by omega) hm (by decide)).mono ?_
    rintro e w' ⟨rfl,rfl⟩
    refine⟨_,_,rfl,⟨W.heap.size,by rw [hl],rfl⟩,(Keeps.refl _ _).alloc _,fun k=>k=W.heap.size,⟨⟨?_,.inr ⟨W.heap.size,(jc s).length,(lK (jc s)).toArray,rfl,Nat.zero_le _,?_,Nat.le_refl _,?_,?_,?_⟩⟩,fun k=>?_⟩,fun k hk=>Nat.le_of_eq hk.symm⟩
    ·simp [lK]
    ·show (W.heap.push _)[W.heap.size]?=_
     simp [lK,jc]
    ·unfold maxLen;omega
    ·first|(simp [lK];done)|(simp [lK];exact List.take_of_length_le (by simp))
    ·first|(simp [lK];done)|(simp [lK];exact List.take_of_length_le (by simp))
    simp [Value.ownBlock,eq_comm]
theorem KZ {β:Bs} {ps:List ByteArray} (hg:iU β) (s:ByteArray) (hs:s.size<=1048576) (hp:ps=jc s):Spec Tryz.prog β 257 #[.string s,.string ⟨#[47]⟩] [] (fun v l=>∃ b,v=.slice (some ⟨b,0,none⟩) ps.length ps.length/\l=[.abs (aH 9 1 (some ⟨b,0,none⟩) ps.length ps.length (lK ps))]):=by
  subst hp;exact M5 hg s hs
def pc (ps:List ByteArray) (j:Nat):ByteArray:=ps.getD j ⟨#[]⟩
theorem K1 {ps:List ByteArray} {j:Nat} (hj:j < ps.length):pc ps j∈ps:=by
  unfold pc
  rw [List.getD_eq_getElem?_getD,List.getElem?_eq_getElem hj]
  exact List.getElem_mem _
theorem zS {ps:List ByteArray} {j:Nat} (hj:j < ps.length):(lK ps)[j]?=some (.string (pc ps j)):=by
  unfold lK pc
  rw [List.getElem?_map,List.getD_eq_getElem?_getD,List.getElem?_eq_getElem hj]
  rfl
theorem CS {ps:List ByteArray} {j:Nat} (hj:j < ps.length):ps.drop j=pc ps j::ps.drop (j+1):=by
  unfold pc
  rw [List.getD_eq_getElem?_getD,List.getElem?_eq_getElem hj]
  exact List.drop_eq_getElem_cons hj
theorem FI {ps:List ByteArray}:(∀ p∈ps,bI p)↔∀ j,j < ps.length->bI (pc ps j):=by
  refine⟨fun h j hj=>h _ (K1 hj),fun h p hp=>?_⟩
  obtain⟨j,hj,rfl⟩:=List.getElem_of_mem hp
  have:=h j hj
  unfold pc at this
  rw [List.getD_eq_getElem?_getD,List.getElem?_eq_getElem hj] at this
  exact this
theorem DE {n:ByteArray} (h:bI n):n.size<=1048576:=Nat.le_trans h.2.1 (by decide)
theorem FJ {O:bY}:∀ {ps:List ByteArray} {d:Nat} {e:Int},jJ O d ps=.error e->e≠0
  | [],d,e,h=>by cases h;decide
  | [p],d,e,h=>by
    unfold jJ at h
    split at h
    ·cases h;decide
    cases h
  | p::q::r,d,e,h=>by
    unfold jJ at h
    split at h
    ·cases h;decide
    split at h
    ·cases h;decide
    split at h
    ·cases h;decide
    exact FJ h
theorem DF {S:aG} {d:Nat} (hI:Inv S) (hd:Live S.idx ⟨d,2⟩) (path:ByteArray):(∃ e,jo S.O d path=.error e/\e≠0)\/∃ d' name,jo S.O d path=.ok (d',name)/\Live S.idx ⟨d',2⟩/\(obj S.O d').gone=false/\bI name:=by
  cases h:jo S.O d path with
  | error e=>
    refine .inl ⟨e,rfl,?_⟩
    unfold jo at h
    split at h
    ·exact FJ h
    cases h;decide
  | ok x=>
    obtain⟨d',name⟩:=x
    exact .inr ⟨d',name,rfl,CQ hI.toInv0 hd h⟩
section way
variable {O:bY} {d:Nat} {ps:List ByteArray} {j:Nat}
theorem DG (hj:j+1=ps.length):jJ O d (ps.drop j)=if (obj O d).gone=true then .error 170 else .ok (d,pc ps j):=by
  rw [CS (by omega),List.drop_of_length_le (by omega)]
  rfl
theorem tI (hj:j+1 < ps.length):jJ O d (ps.drop j)=match aT (pc ps j) (obj O d).ah with
    | none=>.error 170
    | some t=>if t.kind=3 then .error 174 else if t.kind=1 then .error 173 else jJ O t.k (ps.drop (j+1)):=by
  rw [CS (j:=j) (by omega),CS (j:=j+1) hj]
  rfl
end way
section bytes
variable {P:Program} {β:Bs} {N:Nat} {ops:Array Oper} {k:Nat} {fr:Fr} {hps:List HP} {Q:Post} {d:Option Tmp} {s:ByteArray}
theorem Bs.ok.OX {β:Bs} {w:World} (h:β.ok w) (F:Nat->Prop):β.le ⟨fun k=>β.O k\/F k,w⟩:=⟨fun _ h=>.inl h,h.os,h.tape,h.output,h.size,fun k hk=>h.old k hk⟩
theorem aj.FL {t1 t2 e:TypeId} {x:Operand} (hop:∀ junk,fo N junk ops fr k=some (.convert t1 t2 x,d)) (hx:∀ junk,dm N fr junk x=.string s) (h1:P.underlying t1=some .string) (h2:P.underlying t2=some (.slice e)) (h3:P.underlying e=some (.int .u8))
    (K:∀ b cap,s.data.toList.length<=cap->aj P β N ops (k+1) (dG fr d (.slice (some ⟨b,0,none⟩) s.data.toList.length cap)) (hps++[.abs (kD β (fun β'=>bg β' (some ⟨b,0,none⟩) s.data.toList))]) Q):aj P β N ops k fr hps Q:=by
  refine aj.D8 (ι:={ p:Nat×Nat // s.data.toList.length<=p.2 }) (v:=fun p=>.slice (some ⟨p.1.1,0,none⟩) s.data.toList.length p.1.2) (hp':=fun p=>hps++[.abs (kD β (fun β'=>bg β' (some ⟨p.1.1,0,none⟩) s.data.toList))]) hop (fun o junk w ho hS=>?_) (fun p=>K p.1.1 p.1.2 p.2)
  have hr:=run_bytes_of_string (P:=P) w t1 t2 e s h1 h2 h3
  have hsz:s.data.toList.length=s.size:=Array.length_toList ..
  generalize hw:(w.drew.alloc (.cells (bytesRow s (grownCap w s.size 0 e)) e ((bytesRow s (grownCap w s.size 0 e)).size,(bytesRow s (grownCap w s.size 0 e)).size+1)))=w' at hr
  have hk:Keeps (fun _=>False) w w':=by rw [← hw];exact (Keeps.refl _ _).drew.alloc _
  have hok:=hS.1.keeps hk (fun _ _ h=>h)
  have hheap:w'.heap[w.heap.size]?=some (.cells (bytesRow s (grownCap w s.size 0 e)) e ((bytesRow s (grownCap w s.size 0 e)).size,(bytesRow s (grownCap w s.size 0 e)).size+1)):=by
    rw [← hw]
    show (w.heap.push _)[w.heap.size]?=_
    simp
  have hsize:w.heap.size < w'.heap.size:=by
    have:=(Array.getElem?_eq_some_iff.1 hheap).1
    exact this
  refine⟨⟨(w.heap.size,grownCap w s.size 0 e),by rw [hsz];exact grownCap_ge w s.size 0 e⟩,w',.inl ?_,hS.new (F:=fun k=>k=w.heap.size) ?_ hk (fun k e=>Nat.le_of_eq e.symm)⟩
  ·obtain⟨dst,op,type,pos,after,guard⟩:=o
   cases ho
   have hr2:(convert t1 t2 (.string s)).run P w=.ok (.slice (some ⟨w.heap.size,0,none⟩) s.data.toList.length (grownCap w s.size 0 e)) w':=by rw [hr,hsz]
   simp only [execOp,hx]
   simp [hr2,Result.andThen]
  refine⟨⟨fun k=>β.O k\/k=w.heap.size,w'⟩,hok.OX _,fun _ h=>h,fun _ h=>.inr h,Nat.le_refl _,fun k hk=>⟨by rw [hk];exact hsize,rfl⟩,fun j v hj=>⟨rfl,.inr rfl,?_⟩⟩
  show World.cell? w' ⟨w.heap.size,0+j,none⟩=some v
  have hj2:=bw hj
  unfold World.cell?
  rw [hheap]
  unfold bX at hj hj2
  rw [List.length_map] at hj2
  rw [List.getElem?_map,List.getElem?_eq_getElem hj2] at hj
  simp only [Option.map_some,Option.some.injEq] at hj
  subst hj
  unfold bytesRow
  rw [Nat.zero_add]
  simp only [Option.isSome_none,Bool.false_eq_true,if_false]
  have hj3:j < s.data.size:=by rw [← Array.length_toList];exact hj2
  rw [Array.getElem?_append_left (by simpa using hj3)]
  simp [uQ]
  exact⟨_,Array.getElem?_eq_getElem hj3,rfl⟩
end bytes
theorem BI {β:Bs} (S:aG) (L:HL) (f m t:Nat) (hI:Inv S) (k:Nat) (hk:Live S.idx ⟨k,1⟩) (A:Option Addr) (c:Nat) (bs:List UInt8) (hbl:bs.length<=1099511627776) (hbc:bs.length<=c) :
    Spec Tryz.prog β 133 #[vP f,vP (L.b k),.slice A bs.length c] (.abs (kD β (fun β'=>bg β' A bs))::pA f m t L S) (fun v l=>∃ L2,v=.tuple #[vI (dI S k bs).1,vI (dI S k bs).2.1]/\l=pA f m t L2 (dI S k bs).2.2):=
  Spec.Jk fun _ _ hA=>Dj S L f m t hI k hk A c bs hA hbl hbc
def zT (L:HL):Except Int (Nat×ByteArray)->Value
  | .error e=>.tuple #[.pointer none,.string ⟨#[]⟩,.int .i64 e]
  | .ok (d,p)=>.tuple #[.pointer (some ⟨L.b d,0,none⟩),.string p,.int .i64 0]
end
section
open Go.RowKit Go.Maps bG aE
attribute [local irreducible] aj aP af ai
theorem yG {β:Bs} (S:aG) (L:HL) (f:Nat) (hI:Inv S) (d:Nat) (hd:Live S.idx ⟨d,2⟩) (path:ByteArray) (hsz:path.size<=1048576) (hg:iU β) :
    Spec Tryz.prog β 256 #[vP f,vP (L.b d),.string path] [.abs (ax (bB S.O L)),.abs (ax (bV S.O L))] (fun v l=>v=zT L (jo S.O d path)/\l=[.abs (ax (bB S.O L)),.abs (ax (bV S.O L))]):=by
 have hkd:(obj S.O d).kind=2:=hI.kind hd
 obtain⟨ps,hps⟩:∃ ps,ps=jc path:=⟨_,rfl⟩
 have hpl:1<=ps.length/\ps.length<=1048577:=by rw [hps,BH];have:=xS path;omega
 have K2:∀ q,q < ps.length->(pc ps q).size<=1048576:=fun q hq=>Nat.le_trans (Gs (hps ▸ K1 hq)) hsz
 refine Spec.enter Tryz.func256 rfl Tryz.ntmps256 (Nat.le_of_ble_eq_true rfl) (fun R=>?_)
 refine SR (gK 3 [] [] ?_)
 refine NS (gK 1 [(19,.string path)] [] ?_)
 refine gL [] (KZ hg path hsz hps) ?_
 rintro _ _ ⟨b1,rfl,rfl⟩
 refine gK 1 [(9,.slice (some ⟨b1,0,none⟩) (ps.length) (ps.length))] [] ?_
 refine NN (af.seq (SR (gK 3 [(21,.slice (some ⟨b1,0,none⟩) (ps.length) (ps.length)),(22,vI ↑ps.length),(23,vI 0)] [] ?_)))
 refine NN (af.block ?_)
 refine af.loop (ι:=Nat) (fun (j:Nat)=>(j<=ps.length)/\(∀ q,q < j->bI (pc ps q))) (fun (j:Nat)=>ps.length - j) (fun (j:Nat)=>[(1,vP (L.b d)),(9,.slice (some ⟨b1,0,none⟩) (ps.length) (ps.length)),(21,.slice (some ⟨b1,0,none⟩) (ps.length) (ps.length)),(22,vI ↑ps.length),(23,vI ↑j)]) (fun (j:Nat)=>[pO S.O L,pE S.O L,.abs (aH 9 1 (some ⟨b1,0,none⟩) ps.length ps.length (lK ps)),.abs R]) 0 (idx:=[1,9,21,22,23]) (pk:=[1,2,0,3]) (show (0<=ps.length)/\(∀ q,q < 0->bI (pc ps q)) from ⟨Nat.zero_le _,fun q h=>absurd h (Nat.not_lt_zero q)⟩) (fun _=>by kernel_rfl) rfl (by kernel_rfl) ?_
 rintro j ⟨hj,hgd⟩
 show af _ _ _ _ [(1,vP (L.b d)),(9,.slice (some ⟨b1,0,none⟩) (ps.length) (ps.length)),(21,.slice (some ⟨b1,0,none⟩) (ps.length) (ps.length)),(22,vI ↑ps.length),(23,vI ↑j)] [pO S.O L,pE S.O L,.abs (aH 9 1 (some ⟨b1,0,none⟩) ps.length ps.length (lK ps)),.abs R] _
 refine SR (gK 1 [(24,.bool (decide ((((j:Nat):Int):Int) < (((ps.length:Nat):Int):Int))))] [] ?_)
 refine NN (af.seq (af.aZ (p:=(((j:Nat):Int):Int) < (((ps.length:Nat):Int):Int)) (fun _=>by kernel_rfl) (fun Be=>?_) (fun Be=>?_)))
 ·refine af.skip (NX (af.seq (af.block (SR ?_))))
  refine gK 3 [(11,.string (pc ps j))] [(0,p_ ⟨[],some j,none,none,some (.pointer (some ⟨b1,j,none⟩))⟩ [(Value.pointer (some ⟨b1,0+j * 1,none⟩))=(.pointer (some ⟨b1,j,none⟩)),((j:Nat):Int)=((j:Nat):Int),j < ps.length,(⟨b1,0,none⟩:Addr).spot=none] ⟨by simp,rfl,by omega,rfl,trivial⟩),(1,p_ ⟨[.view 2 (.string (pc ps j))],none,none,none,none⟩ [(∀ F w,(aH 9 1 (some ⟨b1,0,none⟩) ps.length ps.length (lK ps)).h F w->w.cell? ⟨b1,j,none⟩=some (.string (pc ps j)))] ⟨aH.cell (zS (by omega)),trivial⟩)] ?_
  refine NS (gK 1 [(27,.string (pc ps j))] [] ?_)
  refine gL [] (rW (pc ps j) (by have:=K2 j (by omega);omega)) ?_
  rintro _ _ ⟨rfl,rfl⟩
  refine gK 1 [(29,.bool (!(decide (bI (pc ps j)))))] [] ?_
  refine NN (af.cT (p:=bI (pc ps j)) (fun _=>by kernel_rfl) (fun K3=>?_) (fun K3=>?_))
  ·refine SR (gK 3 [(6,.pointer none),(7,.string ⟨#[]⟩),(8,vI 95)] [] ?_)
   refine NN (af.ret (ai.aF (ai.ak (ai.ak (ai.aF (ai.ak ?_))))))
   exact RT (l:=[.abs (ax (bB S.O L)),.abs (ax (bV S.O L))]) (.tuple #[.pointer none,.string ⟨#[]⟩,vI 95]) [0,1,3] (⟨congrArg (zT L) (Eq.symm (show jo S.O d path=.error 95 from if_neg (fun h=>K3 (FI.1 (hps ▸ h) j (by omega))))),rfl⟩)
  refine af.skip (ai.aN (NX (af.region ?_)))
  refine gK 2 [(23,vI ↑(j+1))] [(0,p_ ⟨[],none,none,none,some (vI ↑(j+1))⟩ [(Value.int .i64 (IntKind.wrap .i64 (((j:Nat):Int)+1)))=(.int .i64 ↑(j+1))] ⟨bD (by omega) (by omega) (by omega),trivial⟩)] ?_
  refine NL ?_
  exact ai.turn ((j+1)) (idx:=[1,9,21,22,23]) (pk:=[0,1,2,3]) (show (((j+1))<=ps.length)/\(∀ q,q < ((j+1))->bI (pc ps q)) from ⟨by omega,fun q hq=>(Nat.lt_succ_iff_lt_or_eq.1 hq).elim (hgd q) (fun e=>e ▸ K3)⟩) (by show ps.length - ((j+1)) < ps.length - j;omega) (fun _=>by kernel_rfl) rfl (by kernel_rfl)
 refine af.exit (ai.aX (ai.aX (ai.cP (NX (SR ?_)))))
 have hall:∀ p∈ps,bI p:=FI.2 (fun q hq=>hgd q (by omega))
 refine gK 4 [(12,vI ↑(ps.length - 1))] [(2,p_ ⟨[],none,none,none,some (vI ↑(ps.length - 1))⟩ [(Value.int .i64 (IntKind.wrap .i64 (((ps.length:Nat):Int) - 1)))=(.int .i64 ↑(ps.length - 1))] ⟨bD (by omega) (by omega) (by omega),trivial⟩)] ?_
 refine NN (af.seq (SR (gK 5 [(36,.slice (some ⟨b1,0,none⟩) ((ps.length - 1)) (ps.length)),(37,vI ↑(ps.length - 1)),(38,vI 0)] [(2,p_ ⟨[],some (ps.length - 1),none,none,none⟩ [(((ps.length - 1):Nat):Int)=(((ps.length - 1):Nat):Int),(ps.length - 1)<=ps.length] ⟨rfl,by omega,trivial⟩)] ?_)))
 refine NN (af.block ?_)
 refine af.loop (ι:=Nat×Nat) (fun ((j,e):Nat×Nat)=>(j<=ps.length - 1)/\(Live S.idx ⟨e,2⟩)/\(jJ S.O d ps=jJ S.O e (ps.drop j))) (fun ((j,e):Nat×Nat)=>ps.length - 1 - j) (fun ((j,e):Nat×Nat)=>[(1,vP (L.b e)),(9,.slice (some ⟨b1,0,none⟩) (ps.length) (ps.length)),(12,vI ↑(ps.length - 1)),(36,.slice (some ⟨b1,0,none⟩) ((ps.length - 1)) (ps.length)),(37,vI ↑(ps.length - 1)),(38,vI ↑j)]) (fun ((j,e):Nat×Nat)=>[pO S.O L,pE S.O L,.abs (aH 9 1 (some ⟨b1,0,none⟩) ps.length ps.length (lK ps)),.abs R]) (0,d) (idx:=[1,9,12,36,37,38]) (pk:=[0,1,2,3]) (show (0<=ps.length - 1)/\(Live S.idx ⟨d,2⟩)/\(jJ S.O d ps=jJ S.O d (ps.drop 0)) from ⟨Nat.zero_le _,hd,by rw [List.drop_zero]⟩) (fun _=>by kernel_rfl) rfl (by kernel_rfl) ?_
 rintro⟨j,e⟩ ⟨hj,hle,hw⟩
 show af _ _ _ _ [(1,vP (L.b e)),(9,.slice (some ⟨b1,0,none⟩) (ps.length) (ps.length)),(12,vI ↑(ps.length - 1)),(36,.slice (some ⟨b1,0,none⟩) ((ps.length - 1)) (ps.length)),(37,vI ↑(ps.length - 1)),(38,vI ↑j)] [pO S.O L,pE S.O L,.abs (aH 9 1 (some ⟨b1,0,none⟩) ps.length ps.length (lK ps)),.abs R] _
 have hke:(obj S.O e).kind=2:=hI.kind hle
 refine SR (gK 1 [(39,.bool (decide ((((j:Nat):Int):Int) < ((((ps.length - 1):Nat):Int):Int))))] [] ?_)
 refine NN (af.seq (af.aZ (p:=(((j:Nat):Int):Int) < ((((ps.length - 1):Nat):Int):Int)) (fun _=>by kernel_rfl) (fun iY=>?_) (fun iY=>?_)))
 ·have oH:(pc ps j).size<=1048576:=K2 j (by omega)
  have hee:(obj S.O e).ah.length<=8192:=hI.fV hle
  refine af.skip (NX (af.seq (af.block (SR ?_))))
  refine gK 3 [(14,.string (pc ps j))] [(0,p_ ⟨[],some j,none,none,some (.pointer (some ⟨b1,j,none⟩))⟩ [(Value.pointer (some ⟨b1,0+j * 1,none⟩))=(.pointer (some ⟨b1,j,none⟩)),((j:Nat):Int)=((j:Nat):Int),j < (ps.length - 1),(⟨b1,0,none⟩:Addr).spot=none] ⟨by simp,rfl,by omega,rfl,trivial⟩),(1,p_ ⟨[.view 2 (.string (pc ps j))],none,none,none,none⟩ [(∀ F w,(aH 9 1 (some ⟨b1,0,none⟩) ps.length ps.length (lK ps)).h F w->w.cell? ⟨b1,j,none⟩=some (.string (pc ps j)))] ⟨aH.cell (zS (by omega)),trivial⟩)] ?_
  refine NN (af.seq ?_)
  rcases hI.lP hle (pc ps j) with hlk|⟨tk,hlk,hlv⟩|⟨tk,hlk,hlv⟩|⟨tk,hlk,hlv⟩
  ·refine af.region (gK 5 [(45,.map (some (L.m e))),(46,.string (pc ps j))] [(3,v_ 0 (br L hke))] ?_)
   refine iq 1 hke hlk ?_
   refine NN (af.block (SR ?_))
   refine gK 1 [(48,.bool true)] [] ?_
   refine NN (CT (SR (gK 1 [] [] ?_)))
   refine NS (gK 3 [(6,.pointer none),(7,.string ⟨#[]⟩),(8,vI 170)] [] ?_)
   refine NN (af.ret (ai.aF (ai.aF (ai.ak (ai.ak (ai.aF (ai.ak ?_)))))))
   exact RT (l:=[.abs (ax (bB S.O L)),.abs (ax (bV S.O L))]) (.tuple #[.pointer none,.string ⟨#[]⟩,vI 170]) [0,1,3] (⟨congrArg (zT L) (Eq.symm (show jo S.O d path=.error 170 from (show jo S.O d path=jJ S.O d ps by unfold jo;rw [← hps];exact if_pos hall).trans (hw.trans ((tI (by omega)).trans (by rw [hlk]<;>rfl))))),rfl⟩)
  ·have hkt:(obj S.O tk).kind=1:=hI.kind hlv
   refine af.region (gK 5 [(45,.map (some (L.m e))),(46,.string (pc ps j))] [(3,v_ 0 (br L hke))] ?_)
   refine iq 1 hke hlk ?_
   refine NN (af.block (SR ?_))
   refine gK 1 [(48,.bool false)] [] ?_
   refine NN (CF (SR (gK 3 [(50,.bool false),(51,.pointer none)] [] ?_)))
   refine NN (CF (SR (gK 3 [(53,.bool true),(54,vP (L.b tk))] [] ?_)))
   refine NN (CT (SR (gK 1 [] [] ?_)))
   refine NS (gK 3 [(6,.pointer none),(7,.string ⟨#[]⟩),(8,vI 173)] [] ?_)
   refine NN (af.ret (ai.aF (ai.aF (ai.ak (ai.ak (ai.aF (ai.ak ?_)))))))
   exact RT (l:=[.abs (ax (bB S.O L)),.abs (ax (bV S.O L))]) (.tuple #[.pointer none,.string ⟨#[]⟩,vI 173]) [0,1,3] (⟨congrArg (zT L) (Eq.symm (show jo S.O d path=.error 173 from (show jo S.O d path=jJ S.O d ps by unfold jo;rw [← hps];exact if_pos hall).trans (hw.trans ((tI (by omega)).trans (by rw [hlk]<;>rfl))))),rfl⟩)
  ·have hkt:(obj S.O tk).kind=2:=hI.kind hlv
   refine af.region (gK 5 [(45,.map (some (L.m e))),(46,.string (pc ps j))] [(3,v_ 0 (br L hke))] ?_)
   refine iq 1 hke hlk ?_
   refine NN (af.block (SR ?_))
   refine gK 1 [(48,.bool false)] [] ?_
   refine NN (CF (SR (gK 3 [(50,.bool false),(51,.pointer none)] [] ?_)))
   refine NN (CF (SR (gK 3 [(53,.bool false),(54,.pointer none)] [] ?_)))
   refine NN (CF (SR (gK 3 [(56,.bool true),(57,vP (L.b tk))] [] ?_)))
   refine NN (CT (SR (gK 1 [(18,vP (L.b tk))] [] ?_)))
   refine NN (af.region (gK 2 [(1,vP (L.b tk))] [] ?_))
   refine NL (ai.aN (ai.aN (NX (af.region ?_))))
   refine gK 2 [(38,vI ↑(j+1))] [(0,p_ ⟨[],none,none,none,some (vI ↑(j+1))⟩ [(Value.int .i64 (IntKind.wrap .i64 (((j:Nat):Int)+1)))=(.int .i64 ↑(j+1))] ⟨bD (by omega) (by omega) (by omega),trivial⟩)] ?_
   refine NL ?_
   exact ai.turn ((j+1),tk) (idx:=[1,9,12,36,37,38]) (pk:=[0,1,2,3]) (show (((j+1))<=ps.length - 1)/\(Live S.idx ⟨tk,2⟩)/\(jJ S.O d ps=jJ S.O tk (ps.drop ((j+1)))) from ⟨by omega,hlv,hw.trans ((tI (by omega)).trans (by rw [hlk]<;>rfl))⟩) (by show ps.length - 1 - ((j+1)) < ps.length - 1 - j;omega) (fun _=>by kernel_rfl) rfl (by kernel_rfl)
  have hkt:(obj S.O tk).kind=3:=hI.kind hlv
  refine af.region (gK 5 [(45,.map (some (L.m e))),(46,.string (pc ps j))] [(3,v_ 0 (br L hke))] ?_)
  refine iq 1 hke hlk ?_
  refine NN (af.block (SR ?_))
  refine gK 1 [(48,.bool false)] [] ?_
  refine NN (CF (SR (gK 3 [(50,.bool true),(51,vP (L.b tk))] [] ?_)))
  refine NN (CT (SR (gK 1 [] [] ?_)))
  refine NS (gK 3 [(6,.pointer none),(7,.string ⟨#[]⟩),(8,vI 174)] [] ?_)
  refine NN (af.ret (ai.aF (ai.aF (ai.ak (ai.ak (ai.aF (ai.ak ?_)))))))
  exact RT (l:=[.abs (ax (bB S.O L)),.abs (ax (bV S.O L))]) (.tuple #[.pointer none,.string ⟨#[]⟩,vI 174]) [0,1,3] (⟨congrArg (zT L) (Eq.symm (show jo S.O d path=.error 174 from (show jo S.O d path=jJ S.O d ps by unfold jo;rw [← hps];exact if_pos hall).trans (hw.trans ((tI (by omega)).trans (by rw [hlk]<;>rfl))))),rfl⟩)
 have ej:j=ps.length - 1:=by omega
 refine af.exit (ai.aX (ai.aX (ai.cP (NX (af.seq (SR ?_))))))
 refine gK 5 [(64,.bool (obj S.O e).gone)] [(4,v_ 0 (nw L hke))] ?_
 refine NN (af.cond (b:=(obj S.O e).gone) (fun _=>by kernel_rfl) (fun QT=>?_) (fun QT=>?_))
 ·refine SR (gK 3 [(6,.pointer none),(7,.string ⟨#[]⟩),(8,vI 170)] [] ?_)
  refine NN (af.ret (ai.ak ?_))
  exact RT (l:=[.abs (ax (bB S.O L)),.abs (ax (bV S.O L))]) (.tuple #[.pointer none,.string ⟨#[]⟩,vI 170]) [0,1,3] (⟨congrArg (zT L) (Eq.symm ((show jo S.O d path=jJ S.O d ps by unfold jo;rw [← hps];exact if_pos hall).trans (hw.trans ((DG (by omega)).trans (if_pos QT))))),rfl⟩)
 refine af.skip (NX (af.seq (af.bH (by kernel_rfl) (by kernel_rfl) ?_)))
 refine gQ 8 [(6,vP (L.b e)),(7,.string (pc ps (ps.length - 1))),(8,vI 0)] [(3,p_ ⟨[],some (ps.length - 1),none,none,some (.pointer (some ⟨b1,(ps.length - 1),none⟩))⟩ [(Value.pointer (some ⟨b1,0+(ps.length - 1) * 1,none⟩))=(.pointer (some ⟨b1,(ps.length - 1),none⟩)),(((ps.length - 1):Nat):Int)=(((ps.length - 1):Nat):Int),(ps.length - 1) < ps.length,(⟨b1,0,none⟩:Addr).spot=none] ⟨by simp,rfl,by omega,rfl,trivial⟩),(4,p_ ⟨[.view 2 (.string (pc ps (ps.length - 1)))],none,none,none,none⟩ [(∀ F w,(aH 9 1 (some ⟨b1,0,none⟩) ps.length ps.length (lK ps)).h F w->w.cell? ⟨b1,(ps.length - 1),none⟩=some (.string (pc ps (ps.length - 1))))] ⟨aH.cell (zS (by omega)),trivial⟩)] ?_
 refine NQ (NX (af.ret ?_))
 exact RT (l:=[.abs (ax (bB S.O L)),.abs (ax (bV S.O L))]) (.tuple #[vP (L.b e),.string (pc ps (ps.length - 1)),vI 0]) [0,1,3] (⟨by rw [← ej];exact congrArg (zT L) (Eq.symm (show jo S.O d path=.ok (e,pc ps j) from (show jo S.O d path=jJ S.O d ps by unfold jo;rw [← hps];exact if_pos hall).trans (hw.trans ((DG (by omega)).trans (if_neg (by rw [QT];exact Bool.false_ne_true)))))),rfl⟩)
end
section
open Go.RowKit Go.Maps bG aE
attribute [local irreducible] aj aP af ai
theorem OY {β:Bs} (S:aG) (L:HL) (f m t:Nat) (hI:Inv S) (root:Int) (hrw:(Lit.int .i64 root).wf=true) (a:cI) (K2:a.path.size<=1048576) (NE:a.to.size<=1048576) (hxz:a.text.size<=1048576) (hg:iU β) :
    Spec Tryz.prog β 255 #[vP f,vI (root),.agg #[vI (a.at_),vI (a.op),.string a.path,.string a.to,.string a.text]] [.blk f [vI (S.X.cN),vI (S.X.cB),vI (S.X.cH),vI (S.X.cS),vI (S.X.cZ),.map (some m),vP t,vI (S.X.last),vI (S.X.ah),vI (S.X.used)] 126,.abs (aJ Tryz.prog 3 m (aW (aV L S.idx)) S.idx.length),.abs (bS 197 t S.X.cH S.ar (aV L S.us)),.abs (ax (bB S.O L)),.abs (ax (bC S.O L)),.abs (ax (bV S.O L))] (fun v l=>∃ L2,v=vI (cJ S root a).1/\l=[.blk f [vI ((cJ S root a).2.X.cN),vI ((cJ S root a).2.X.cB),vI ((cJ S root a).2.X.cH),vI ((cJ S root a).2.X.cS),vI ((cJ S root a).2.X.cZ),.map (some m),vP t,vI ((cJ S root a).2.X.last),vI ((cJ S root a).2.X.ah),vI ((cJ S root a).2.X.used)] 126,.abs (aJ Tryz.prog 3 m (aW (aV L2 (cJ S root a).2.idx)) ((cJ S root a).2.idx.length)),.abs (bS 197 t (cJ S root a).2.X.cH ((cJ S root a).2.ar) (aV L2 ((cJ S root a).2.us))),.abs (ax (bB ((cJ S root a).2.O) L2)),.abs (ax (bC ((cJ S root a).2.O) L2)),.abs (ax (bV ((cJ S root a).2.O) L2))]):=by
 have hX:=hI.hX
 refine Spec.enter Tryz.func255 rfl Tryz.ntmps255 (Nat.le_of_ble_eq_true rfl) (fun R=>?_)
 refine SR (gN 2 (fun b1=>[(5,vP b1)]) (fun _=>[]) (fun _=>[]) (fun b1=>.blk b1 [vI (a.at_),vI (a.op),.string a.path,.string a.to,.string a.text] 41) (fun b1=>?_))
 refine NN (af.seq (SR (gK 4 [(25,.bool (decide ((a.op:Int) < (1:Int))))] [(1,a_ 7 b1)] ?_)))
 refine aj.gI 25 ((a.op:Int) < (1:Int)) (fun _=>by kernel_rfl) (fun vO=>?_) (fun vO=>?_)
 ·refine gK 4 [(29,.bool true)] [] ?_
  refine NN (CT (SR (gK 1 [(6,vI 230)] [] ?_)))
  refine NN (af.ret (ai.ak ?_))
  exact RT (vI 230) [0,1,2,3,4,5,6] (⟨L,by rw [show (cJ S root a)=(230,S) by unfold cJ;exact if_pos (by omega)]<;>exact⟨rfl,rfl⟩⟩)
 refine gK 4 [(29,.bool (decide ((a.op:Int) > (7:Int))))] [(1,a_ 7 b1)] ?_
 refine NN (af.aZ (p:=(a.op:Int) > (7:Int)) (fun _=>by kernel_rfl) (fun K3=>?_) (fun K3=>?_))
 ·refine SR (gK 1 [(6,vI 230)] [] ?_)
  refine NN (af.ret (ai.ak ?_))
  exact RT (vI 230) [0,1,2,3,4,5,6] (⟨L,by rw [show (cJ S root a)=(230,S) by unfold cJ;exact if_pos (by omega)]<;>exact⟨rfl,rfl⟩⟩)
 refine af.skip (NX (af.seq ?_))
 rcases hI.PS root with hix|⟨tk,hix,hlv⟩|⟨tk,hix,hlv⟩|⟨tk,hix,hlv⟩
 ·refine af.region (gK 5 [(33,.map (some m)),(34,vI (root))] [(3,a_ 0 f)] ?_)
  refine aj.dW 1 (d:=(some 35)) (t:=120) (K:=3) (E:=124) (b:=m) (n:=S.idx.length) (f:=(aW (aV L S.idx))) (x:=(.tmp 33)) (ix:=(.tmp 34)) (key:=.int .i64 (root)) (z:=.nilIface) (kl:=(.int .i64 root)) (r:=none) (fun _=>by kernel_rfl) (by kernel_rfl) (fun _=>by kernel_rfl) (fun _=>by kernel_rfl) dQ Tryz.underlying120 (fun _=>by kernel_rfl) (gS hrw) (by rw [eW,hix];rfl) ?_
  refine gK 1 [(7,.nilIface)] [] ?_
  refine NN (af.seq (SR (gK 2 [(37,.bool true)] [] ?_)))
  refine NN (CT (SR (gK 1 [(6,vI 141)] [] ?_)))
  refine NN (af.ret (ai.ak ?_))
  exact RT (vI 141) [0,1,2,3,4,5,6] (⟨L,by rw [show (cJ S root a)=(141,S) by unfold cJ;rw [if_neg (by omega),hix]]<;>exact⟨rfl,rfl⟩⟩)
 ·have hkt:(obj S.O tk).kind=1:=hI.kind hlv
  refine af.region (gK 5 [(33,.map (some m)),(34,vI (root))] [(3,a_ 0 f)] ?_)
  refine aj.dW 1 (d:=(some 35)) (t:=120) (K:=3) (E:=124) (b:=m) (n:=S.idx.length) (f:=(aW (aV L S.idx))) (x:=(.tmp 33)) (ix:=(.tmp 34)) (key:=.int .i64 (root)) (z:=.nilIface) (kl:=(.int .i64 root)) (r:=(some (dz L ⟨tk,1⟩))) (fun _=>by kernel_rfl) (by kernel_rfl) (fun _=>by kernel_rfl) (fun _=>by kernel_rfl) dQ Tryz.underlying120 (fun _=>by kernel_rfl) (gS hrw) (by rw [eW,hix];rfl) ?_
  refine gK 1 [(7,.iface 129 (vP (L.b tk)))] [] ?_
  refine NN (af.seq (SR (gK 2 [(37,.bool false)] [] ?_)))
  refine NN (CF (af.skip (NX (SR (gK 7 [(8,.pointer none),(9,.bool false)] [] ?_)))))
  refine NN (af.seq (SR (gK 2 [(44,.bool true)] [] ?_)))
  refine NN (CT (SR (gK 1 [(6,vI 173)] [] ?_)))
  refine NN (af.ret (ai.ak ?_))
  exact RT (vI 173) [0,1,2,3,4,5,6] (⟨L,by rw [show (cJ S root a)=(173,S) by unfold cJ;rw [if_neg (by omega),hix];simp only;exact if_neg (by simp)]<;>exact⟨rfl,rfl⟩⟩)
 ·have hkt:(obj S.O tk).kind=2:=hI.kind hlv
  refine af.region (gK 5 [(33,.map (some m)),(34,vI (root))] [(3,a_ 0 f)] ?_)
  refine aj.dW 1 (d:=(some 35)) (t:=120) (K:=3) (E:=124) (b:=m) (n:=S.idx.length) (f:=(aW (aV L S.idx))) (x:=(.tmp 33)) (ix:=(.tmp 34)) (key:=.int .i64 (root)) (z:=.nilIface) (kl:=(.int .i64 root)) (r:=(some (dz L ⟨tk,2⟩))) (fun _=>by kernel_rfl) (by kernel_rfl) (fun _=>by kernel_rfl) (fun _=>by kernel_rfl) dQ Tryz.underlying120 (fun _=>by kernel_rfl) (gS hrw) (by rw [eW,hix];rfl) ?_
  refine gK 1 [(7,.iface 135 (vP (L.b tk)))] [] ?_
  refine NN (af.seq (SR (gK 2 [(37,.bool false)] [] ?_)))
  refine NN (CF (af.skip (NX (SR (gK 7 [(8,vP (L.b tk)),(9,.bool true)] [] ?_)))))
  refine NN (af.seq (SR (gK 2 [(44,.bool false)] [] ?_)))
  refine NN (CF (af.skip (NX (SR (gK 4 [(46,vP f),(47,vP (L.b tk)),(49,.string a.path)] [(3,a_ 7 b1)] ?_)))))
  rcases DF hI hlv a.path with ⟨e,jx,hne⟩|⟨d,name,jx,hd,iM,iH⟩
  ·refine gL (f:=256) (args:=#[vP f,vP (L.b tk),.string a.path]) (pre:=[.abs (ax (bB S.O L)),.abs (ax (bV S.O L))]) [3,5] ((by have h:=yG (β:=β) S L f hI tk hlv a.path K2 hg;rw [jx] at h;exact h)) ?_
   rintro _ _ ⟨rfl,rfl⟩
   refine gK 7 [(10,.pointer none),(11,.string ⟨#[]⟩),(12,vI (e))] [] ?_
   refine NN (af.seq (SR (gK 2 [(55,.bool (!(decide ((e:Int)=(0:Int)))))] [] ?_)))
   refine NN (af.cT (p:=(e:Int)=(0:Int)) (fun _=>by kernel_rfl) (fun S8=>?_) (fun S8=>?_))
   ·refine SR (gK 2 [(6,vI (e))] [] ?_)
    refine NN (af.ret (ai.ak ?_))
    exact RT (vI (e)) [2,3,4,0,5,1,6] (⟨L,by rw [show (cJ S root a)=(e,S) by unfold cJ;rw [if_neg (by omega),hix];simp only;rw [if_pos trivial,jx]]<;>exact⟨rfl,rfl⟩⟩)
   exact absurd S8 hne
  have hkd:(obj S.O d).kind=2:=hI.kind hd
  have hsz:name.size<=1048576:=DE iH
  refine gL (f:=256) (args:=#[vP f,vP (L.b tk),.string a.path]) (pre:=[.abs (ax (bB S.O L)),.abs (ax (bV S.O L))]) [3,5] ((by have h:=yG (β:=β) S L f hI tk hlv a.path K2 hg;rw [jx] at h;exact h)) ?_
  rintro _ _ ⟨rfl,rfl⟩
  refine gK 7 [(10,vP (L.b d)),(11,.string name),(12,vI 0)] [] ?_
  refine NN (af.seq (SR (gK 2 [(55,.bool false)] [] ?_)))
  refine NN (CF (af.skip (NX (af.seq (SR (gK 2 [(58,vI (a.op))] [(1,a_ 7 b1)] ?_))))))
  refine NN (af.block (SR ?_))
  refine gK 2 [(59,.bool (decide ((a.op:Int)=(1:Int))))] [] ?_
  refine NN (af.aZ (p:=(a.op:Int)=(1:Int)) (fun _=>by kernel_rfl) (fun UZ=>?_) (fun UZ=>?_))
  ·refine af.seq (SR (gK 3 [(61,vP f),(62,vP (L.b d)),(63,.string name)] [] ?_))
   refine gL [2,3,1,0] (tj S L f m t hI d hd name hsz) ?_
   rintro _ _ ⟨rfl,rfl⟩
   refine gK 1 [(12,vI ((bZ S.X S.O S.idx d name)))] [] ?_
   refine NS (gK 2 [(66,.bool (!(decide (((bZ S.X S.O S.idx d name):Int)=(0:Int)))))] [] ?_)
   refine NN (af.cT (p:=((bZ S.X S.O S.idx d name):Int)=(0:Int)) (fun _=>by kernel_rfl) (fun h0=>?_) (fun h0=>?_))
   ·refine SR (gK 2 [(6,vI ((bZ S.X S.O S.idx d name)))] [] ?_)
    refine NN (af.ret (ai.ak (ai.aF (ai.ak ?_))))
    exact RT (vI ((bZ S.X S.O S.idx d name))) [0,1,4,3,5,2,6] (⟨L,by rw [show (cJ S root a)=(bZ S.X S.O S.idx d name,S) by unfold cJ;rw [if_neg (by omega),hix];simp only;rw [if_pos trivial,jx];simp only;unfold mr;rw [if_pos (by omega)];unfold sG;exact if_neg h0]<;>exact⟨rfl,rfl⟩⟩)
   have hno:=om h0
   refine af.skip (NX (SR (gK 1 [(68,vP f)] [] ?_)))
   refine gL [0] (sZ S.X f m t hX 420) ?_
   rintro _ _ ⟨rfl,rfl⟩
   refine gN 2 (fun b2=>[(71,vP b2)]) (fun _=>[]) (fun _=>[]) (fun b2=>.blk b2 [vI (S.X.last+1),vI (420),vI 0,vI 0,vI (S.X.cS),vI (S.X.cZ),vI 0,vI 0,.bool false,.slice none (0) (0)] 131) (fun b2=>?_)
   obtain⟨L2,hL2⟩:∃ L2:HL,L2=L.put (aO S.X) b2 0 none 0:=⟨_,rfl⟩
   have hfr:=hI.toInv0.fresh
   refine aj.mem (cF:=[.abs (ax (bB (aD S.O (aO S.X) (fun _=>(aU S.X 1 420))) L2)),.blk f [vI (S.X.cN),vI (S.X.cB),vI (S.X.cH),vI (S.X.cS),vI (S.X.cZ),.map (some m),vP t,vI (S.X.last+1),vI (S.X.ah),vI (S.X.used)] 126,.abs (aJ Tryz.prog 3 m (aW (aV L S.idx)) S.idx.length),.abs (ax (bV S.O L)),.abs (bS 197 t S.X.cH S.ar (aV L S.us)),.abs (ax (bC S.O L)),.abs R,.blk b1 [vI (a.at_),vI (a.op),.string a.path,.string a.to,.string a.text] 41]) (fun w hS=>hS.tv hL2 hfr (o:=(aU S.X 1 420)) (i:=3) (j:=8) (ix:=[0,1,2,4,5,6,7]) rfl rfl (by kernel_rfl) rfl (by show (1:Int)≠0;decide) ((gU (L:=L2) (k:=(aO S.X)) (o:=(aU S.X 1 420)) rfl).trans (by rw [show L2.dA (aO S.X)=none by rw [hL2];exact if_pos rfl,show L2.dC (aO S.X)=0 by rw [hL2];exact if_pos rfl];rfl)) rfl) ?_
   refine aj.dh [(3,pE (aD S.O (aO S.X) (fun _=>(aU S.X 1 420))) L2)] (fun w hS=>hS.uq hL2 hfr (o:=(aU S.X 1 420)) (i:=3) rfl (by show (1:Int)≠2;decide)) ?_
   refine aj.mem (cF:=[pO (aD S.O (aO S.X) (fun _=>(aU S.X 1 420))) L2,pF f m t { S.X with last:=S.X.last+1 },pI m L S.idx,pE (aD S.O (aO S.X) (fun _=>(aU S.X 1 420))) L2,pT t S.X.cH S.ar L S.us,pD S.O L,.abs R,.blk b1 [vI (a.at_),vI (a.op),.string a.path,.string a.to,.string a.text] 41,.abs (aH 5 1 none 0 0 ([]))]) (fun w hS=>hS.jO (e:=5) (size:=1)) ?_
   refine aj.mem (cF:=[pD (aD S.O (aO S.X) (fun _=>(aU S.X 1 420))) L2,pO (aD S.O (aO S.X) (fun _=>(aU S.X 1 420))) L2,pF f m t { S.X with last:=S.X.last+1 },pI m L S.idx,pE (aD S.O (aO S.X) (fun _=>(aU S.X 1 420))) L2,pT t S.X.cH S.ar L S.us,.abs R,.blk b1 [vI (a.at_),vI (a.op),.string a.path,.string a.to,.string a.text] 41]) (fun w hS=>hS.Iz hL2 (o:=(aU S.X 1 420)) (i:=5) (j:=8) (ix:=[0,1,2,3,4,6,7]) rfl rfl (by kernel_rfl) rfl rfl rfl) ?_
   refine aj.dh [(3,.abs (aJ Tryz.prog 3 m (aW (aV L2 S.idx)) S.idx.length)),(5,.abs (bS 197 t S.X.cH S.ar (aV L2 S.us)))] (fun w hS=>by rw [gn hL2 hfr.idx,gn hL2 hfr.us];exact hS) ?_
   refine gK 1 [(13,vP b2)] [] ?_
   refine NS (gK 5 [(72,vP f),(73,vP (L.b d)),(74,.string name),(76,.iface 129 (vP b2))] [] ?_)
   refine gL (f:=127) (args:=#[vP f,vP (L.b d),.string name,.iface 129 (vP b2)]) (pre:=[.blk f [vI (S.X.cN),vI (S.X.cB),vI (S.X.cH),vI (S.X.cS),vI (S.X.cZ),.map (some m),vP t,vI (S.X.last+1),vI (S.X.ah),vI (S.X.used)] 126,.abs (aJ Tryz.prog 3 m (aW (aV L2 S.idx)) S.idx.length),.abs (ax (bB (aD S.O (aO S.X) (fun _=>(aU S.X 1 420))) L2)),.abs (ax (bV (aD S.O (aO S.X) (fun _=>(aU S.X 1 420))) L2))]) [2,3,1,4] ((by have h:=rB (β:=β) S L2 f m t hI.toInv0 d hd name hsz hno (aU S.X 1 420) rfl (by simp [aU]) rfl (pZ h0);rw [vl hL2 (hI.uo hd),ol hL2] at h;exact h)) ?_
   rintro _ _ ⟨rfl,rfl⟩
   refine NS (aj.dh [(4,.abs (ax (bC ((eP S d name (aU S.X 1 420)).O) L2)))] (fun w hS=>by rw [show bC ((eP S d name (aU S.X 1 420)).O) L2=bC (aD S.O (aO S.X) (fun _=>(aU S.X 1 420))) L2 from gV];exact hS) ?_)
   have FN:Inv (eP S d name (aU S.X 1 420)):=hI.DZ hd iM iH h0 (.inl rfl) ⟨by decide,by decide⟩ (.inl ⟨by decide,rfl⟩)
   have U0:Live (eP S d name (aU S.X 1 420)).idx ⟨(aO S.X),1⟩:=Fs hI (o:=(aU S.X 1 420))
   refine gK 4 [(78,vP f),(79,vP b2),(81,.string a.text)] [(3,a_ 7 b1)] ?_
   refine aj.FL (d:=(some 82)) (t1:=9) (t2:=46) (e:=5) (x:=(.tmp 81)) (s:=a.text) (fun _=>by kernel_rfl) (fun _=>by kernel_rfl) Tryz.underlying9 Tryz.underlying46 Tryz.underlying5 (fun b3 c4 T3=>?_)
   refine gL (f:=133) (args:=#[vP f,vP b2,.slice (some ⟨b3,0,none⟩) (a.text.data.toList.length) (c4)]) (pre:=[.abs (kD β (fun β'=>bg β' (some ⟨b3,0,none⟩) a.text.data.toList)),.blk f [vI ((eP S d name (aU S.X 1 420)).X.cN),vI ((eP S d name (aU S.X 1 420)).X.cB),vI ((eP S d name (aU S.X 1 420)).X.cH),vI ((eP S d name (aU S.X 1 420)).X.cS),vI ((eP S d name (aU S.X 1 420)).X.cZ),.map (some m),vP t,vI ((eP S d name (aU S.X 1 420)).X.last),vI ((eP S d name (aU S.X 1 420)).X.ah),vI ((eP S d name (aU S.X 1 420)).X.used)] 126,.abs (aJ Tryz.prog 3 m (aW (aV L2 (eP S d name (aU S.X 1 420)).idx)) ((eP S d name (aU S.X 1 420)).idx.length)),.abs (bS 197 t S.X.cH S.ar (aV L2 S.us)),.abs (ax (bB ((eP S d name (aU S.X 1 420)).O) L2)),.abs (ax (bC ((eP S d name (aU S.X 1 420)).O) L2)),.abs (ax (bV ((eP S d name (aU S.X 1 420)).O) L2))]) [8,0,1,5,2,4,3] ((by have h:=BI (β:=β) (eP S d name (aU S.X 1 420)) L2 f m t FN (aO S.X) U0 (some ⟨b3,0,none⟩) c4 a.text.data.toList (by rw [Array.length_toList];have:a.text.data.size=a.text.size:=rfl;omega) T3;rw [AQ hL2] at h;exact h)) ?_
   rintro _ _ ⟨L3,rfl,rfl⟩
   refine NS (gK 1 [(6,vI 0)] [] ?_)
   refine NN (af.ret (ai.aF (ai.ak ?_)))
   exact RT (vI 0) [0,1,2,3,4,5,6] (⟨L3,by rw [show (cJ S root a)=(0,(dI (eP S d name (aU S.X 1 420)) (aO S.X) a.text.data.toList).2.2) by unfold cJ;rw [if_neg (by omega),hix];simp only;rw [if_pos trivial,jx];simp only;unfold mr;rw [if_pos (by omega)];unfold sG;exact if_pos h0]<;>exact⟨rfl,rfl⟩⟩)
  refine SR (gK 2 [(84,.bool (decide ((a.op:Int)=(2:Int))))] [] ?_)
  refine NN (af.aZ (p:=(a.op:Int)=(2:Int)) (fun _=>by kernel_rfl) (fun U1=>?_) (fun U1=>?_))
  ·refine SR (gK 3 [(86,vP f),(87,vP (L.b d)),(88,.string name)] [] ?_)
   refine gL [2,3,4,0,5,1] (Dg S L f m t hI d hd name hsz 493) ?_
   rintro _ _ ⟨L2,rfl,rfl⟩
   refine gK 1 [(6,vI ((gF S d name 493).1))] [] ?_
   refine NN (af.ret (ai.aF (ai.ak ?_)))
   exact RT (vI ((gF S d name 493).1)) [0,1,2,3,4,5,6] (⟨L2,by rw [show (cJ S root a)=((gF S d name 493).1,(gF S d name 493).2) by unfold cJ;rw [if_neg (by omega),hix];simp only;rw [if_pos trivial,jx];simp only;unfold mr;rw [if_neg (by omega)];exact if_pos (by omega)]<;>exact⟨rfl,rfl⟩⟩)
  refine SR (gK 2 [(90,.bool (decide ((a.op:Int)=(3:Int))))] [] ?_)
  refine NN (af.aZ (p:=(a.op:Int)=(3:Int)) (fun _=>by kernel_rfl) (fun U2=>?_) (fun U2=>?_))
  ·refine SR (gK 5 [(92,vP f),(93,vP (L.b d)),(94,.string name),(96,.string a.text)] [(4,a_ 7 b1)] ?_)
   refine gL [2,3,4,0,5,1] (yQ S L f m t hI d hd name hsz a.text hxz) ?_
   rintro _ _ ⟨L2,rfl,rfl⟩
   refine gK 1 [(6,vI ((eE S d name a.text).1))] [] ?_
   refine NN (af.ret (ai.aF (ai.ak ?_)))
   exact RT (vI ((eE S d name a.text).1)) [0,1,2,3,4,5,6] (⟨L2,by rw [show (cJ S root a)=((eE S d name a.text).1,(eE S d name a.text).2) by unfold cJ;rw [if_neg (by omega),hix];simp only;rw [if_pos trivial,jx];simp only;unfold mr;rw [if_neg (by omega)];rw [if_neg (by omega)];exact if_pos (by omega)]<;>exact⟨rfl,rfl⟩⟩)
  refine SR (gK 2 [(98,.bool (decide ((a.op:Int)=(4:Int))))] [] ?_)
  refine NN (af.aZ (p:=(a.op:Int)=(4:Int)) (fun _=>by kernel_rfl) (fun U3=>?_) (fun U3=>?_))
  ·refine SR (gK 3 [(100,vP f),(101,vP (L.b d)),(102,.string name)] [] ?_)
   refine gL [2,3,4,0,5,1] (AV S L f m t hI d hd name hsz) ?_
   rintro _ _ ⟨L2,rfl,rfl⟩
   refine gK 1 [(6,vI ((dX S d name).1))] [] ?_
   refine NN (af.ret (ai.aF (ai.ak ?_)))
   exact RT (vI ((dX S d name).1)) [0,1,2,3,4,5,6] (⟨L2,by rw [show (cJ S root a)=((dX S d name).1,(dX S d name).2) by unfold cJ;rw [if_neg (by omega),hix];simp only;rw [if_pos trivial,jx];simp only;unfold mr;rw [if_neg (by omega)];rw [if_neg (by omega)];rw [if_neg (by omega)];exact if_pos (by omega)]<;>exact⟨rfl,rfl⟩⟩)
  refine SR (gK 2 [(104,.bool (decide ((a.op:Int)=(5:Int))))] [] ?_)
  refine NN (af.aZ (p:=(a.op:Int)=(5:Int)) (fun _=>by kernel_rfl) (fun T4=>?_) (fun T4=>?_))
  ·refine SR (gK 3 [(106,vP f),(107,vP (L.b d)),(108,.string name)] [] ?_)
   refine gL [2,3,4,0,5,1] (Dh S L f m t hI d hd name hsz) ?_
   rintro _ _ ⟨L2,rfl,rfl⟩
   refine gK 1 [(6,vI ((eG S d name).1))] [] ?_
   refine NN (af.ret (ai.aF (ai.ak ?_)))
   exact RT (vI ((eG S d name).1)) [0,1,2,3,4,5,6] (⟨L2,by rw [show (cJ S root a)=((eG S d name).1,(eG S d name).2) by unfold cJ;rw [if_neg (by omega),hix];simp only;rw [if_pos trivial,jx];simp only;unfold mr;rw [if_neg (by omega)];rw [if_neg (by omega)];rw [if_neg (by omega)];rw [if_neg (by omega)];exact if_pos (by omega)]<;>exact⟨rfl,rfl⟩⟩)
  refine SR (gK 2 [(110,.bool (decide ((a.op:Int)=(6:Int))))] [] ?_)
  refine NN (af.aZ (p:=(a.op:Int)=(6:Int)) (fun _=>by kernel_rfl) (fun T5=>?_) (fun T5=>?_))
  ·refine SR (gK 4 [(113,vP f),(114,vP (L.b tk)),(116,.string a.to)] [(3,a_ 7 b1)] ?_)
   rcases DF hI hlv a.to with ⟨e2,BJ,E5⟩|⟨to,toName,BJ,hd2,Qg,Md⟩
   ·refine gL (f:=256) (args:=#[vP f,vP (L.b tk),.string a.to]) (pre:=[.abs (ax (bB S.O L)),.abs (ax (bV S.O L))]) [0,1] ((by have h:=yG (β:=β) S L f hI tk hlv a.to NE hg;rw [BJ] at h;exact h)) ?_
    rintro _ _ ⟨rfl,rfl⟩
    refine gK 7 [(14,.pointer none),(15,.string ⟨#[]⟩),(16,vI (e2))] [] ?_
    refine NN (af.seq (SR (gK 2 [(122,.bool (!(decide ((e2:Int)=(0:Int)))))] [] ?_)))
    refine NN (af.cT (p:=(e2:Int)=(0:Int)) (fun _=>by kernel_rfl) (fun QU=>?_) (fun QU=>?_))
    ·refine SR (gK 2 [(6,vI (e2))] [] ?_)
     refine NN (af.ret (ai.ak (ai.aF (ai.ak ?_))))
     exact RT (vI (e2)) [2,3,4,0,5,1,6] (⟨L,by rw [show (cJ S root a)=(e2,S) by unfold cJ;rw [if_neg (by omega),hix];simp only;rw [if_pos trivial,jx];simp only;unfold mr;rw [if_neg (by omega)];rw [if_neg (by omega)];rw [if_neg (by omega)];rw [if_neg (by omega)];rw [if_neg (by omega)];rw [if_pos (by omega)];rw [BJ]]<;>exact⟨rfl,rfl⟩⟩)
    exact absurd QU E5
   have ef:(obj S.O to).kind=2:=hI.kind hd2
   have oH:toName.size<=1048576:=DE Md
   refine gL (f:=256) (args:=#[vP f,vP (L.b tk),.string a.to]) (pre:=[.abs (ax (bB S.O L)),.abs (ax (bV S.O L))]) [0,1] ((by have h:=yG (β:=β) S L f hI tk hlv a.to NE hg;rw [BJ] at h;exact h)) ?_
   rintro _ _ ⟨rfl,rfl⟩
   refine gK 7 [(14,vP (L.b to)),(15,.string toName),(16,vI 0)] [] ?_
   refine NN (af.seq (SR (gK 2 [(122,.bool false)] [] ?_)))
   refine NN (CF (af.skip (NX (SR (gK 5 [(124,vP f),(125,vP (L.b d)),(126,.string name),(127,vP (L.b to)),(128,.string toName)] [] ?_)))))
   refine gL [2,3,4,0,5,1] (Bb S L f m t hI d hd name hsz to hd2 toName oH) ?_
   rintro _ _ ⟨L2,rfl,rfl⟩
   refine gK 1 [(6,vI ((bF S d name to toName).1))] [] ?_
   refine NN (af.ret (ai.aF (ai.ak ?_)))
   exact RT (vI ((bF S d name to toName).1)) [0,1,2,3,4,5,6] (⟨L2,by rw [show (cJ S root a)=((bF S d name to toName).1,(bF S d name to toName).2) by unfold cJ;rw [if_neg (by omega),hix];simp only;rw [if_pos trivial,jx];simp only;unfold mr;rw [if_neg (by omega)];rw [if_neg (by omega)];rw [if_neg (by omega)];rw [if_neg (by omega)];rw [if_neg (by omega)];rw [if_pos (by omega)];rw [BJ]]<;>exact⟨rfl,rfl⟩⟩)
  refine af.skip (ai.aN (NX (af.seq (af.seq ?_))))
  have hel:(obj S.O d).ah.length<=8192:=hI.fV hd
  have Kp:=hsz
  rcases hI.lP hd name with bn|⟨ok,bn,ez⟩|⟨ok,bn,ez⟩|⟨ok,bn,ez⟩
  ·refine af.region (gK 5 [(133,.map (some (L.m d))),(134,.string name)] [(3,v_ 0 (br L hkd))] ?_)
   refine iq 1 hkd bn ?_
   refine NN (af.block (SR ?_))
   refine gK 3 [(137,.bool false),(138,.pointer none)] [] ?_
   refine NN (CF (SR (gK 3 [(140,.bool false),(141,.pointer none)] [] ?_)))
   refine NN (CF (SR (gK 3 [(143,.bool false),(144,.pointer none)] [] ?_)))
   refine NN (CF (af.skip (ai.aN (NX (SR ?_)))))
   refine gK 1 [(6,vI 170)] [] ?_
   refine NN (af.ret ?_)
   exact RT (vI 170) [2,3,4,0,5,1,6] (⟨L,by rw [show (cJ S root a)=(170,S) by unfold cJ;rw [if_neg (by omega),hix];simp only;rw [if_pos trivial,jx];simp only;unfold mr;rw [if_neg (by omega)];rw [if_neg (by omega)];rw [if_neg (by omega)];rw [if_neg (by omega)];rw [if_neg (by omega)];rw [if_neg (by omega)];unfold kZ;rw [bn]]<;>exact⟨rfl,rfl⟩⟩)
  ·have kx:(obj S.O ok).kind=1:=hI.kind ez
   refine af.region (gK 5 [(133,.map (some (L.m d))),(134,.string name)] [(3,v_ 0 (br L hkd))] ?_)
   refine iq 1 hkd bn ?_
   refine NN (af.block (SR ?_))
   refine gK 3 [(137,.bool false),(138,.pointer none)] [] ?_
   refine NN (CF (SR (gK 3 [(140,.bool false),(141,.pointer none)] [] ?_)))
   refine NN (CF (SR (gK 3 [(143,.bool true),(144,vP (L.b ok))] [] ?_)))
   refine NN (CT (SR (gK 1 [(19,vP (L.b ok))] [] ?_)))
   refine NS (gK 4 [(146,vP f),(147,vP (L.b ok)),(149,.string a.text)] [(3,a_ 7 b1)] ?_)
   refine aj.FL (d:=(some 150)) (t1:=9) (t2:=46) (e:=5) (x:=(.tmp 149)) (s:=a.text) (fun _=>by kernel_rfl) (fun _=>by kernel_rfl) Tryz.underlying9 Tryz.underlying46 Tryz.underlying5 (fun b6 c7 T6=>?_)
   refine gL [8,2,3,4,0,5,1] (BI (β:=β) S L f m t hI ok ez (some ⟨b6,0,none⟩) c7 a.text.data.toList (by rw [Array.length_toList];have:a.text.data.size=a.text.size:=rfl;omega) T6) ?_
   rintro _ _ ⟨L3,rfl,rfl⟩
   refine gK 5 [(21,vI ((dI S ok a.text.data.toList).2.1))] [] ?_
   refine NS (gK 2 [(6,vI ((dI S ok a.text.data.toList).2.1))] [] ?_)
   refine NN (af.ret (ai.aF (ai.ak ?_)))
   exact RT (vI ((dI S ok a.text.data.toList).2.1)) [0,1,2,3,4,5,6] (⟨L3,by rw [show (cJ S root a)=((dI S ok a.text.data.toList).2.1,(dI S ok a.text.data.toList).2.2) by unfold cJ;rw [if_neg (by omega),hix];simp only;rw [if_pos trivial,jx];simp only;unfold mr;rw [if_neg (by omega)];rw [if_neg (by omega)];rw [if_neg (by omega)];rw [if_neg (by omega)];rw [if_neg (by omega)];rw [if_neg (by omega)];unfold kZ;rw [bn];exact (if_neg (by simp)).trans (if_neg (by simp))]<;>exact⟨rfl,rfl⟩⟩)
  ·have kx:(obj S.O ok).kind=2:=hI.kind ez
   refine af.region (gK 5 [(133,.map (some (L.m d))),(134,.string name)] [(3,v_ 0 (br L hkd))] ?_)
   refine iq 1 hkd bn ?_
   refine NN (af.block (SR ?_))
   refine gK 3 [(137,.bool false),(138,.pointer none)] [] ?_
   refine NN (CF (SR (gK 3 [(140,.bool true),(141,vP (L.b ok))] [] ?_)))
   refine NN (CT (SR (gK 1 [] [] ?_)))
   refine NS (gK 1 [(6,vI 172)] [] ?_)
   refine NN (af.ret (ai.aF (ai.ak ?_)))
   exact RT (vI 172) [2,3,4,0,5,1,6] (⟨L,by rw [show (cJ S root a)=(172,S) by unfold cJ;rw [if_neg (by omega),hix];simp only;rw [if_pos trivial,jx];simp only;unfold mr;rw [if_neg (by omega)];rw [if_neg (by omega)];rw [if_neg (by omega)];rw [if_neg (by omega)];rw [if_neg (by omega)];rw [if_neg (by omega)];unfold kZ;rw [bn];exact (if_neg (by simp)).trans (if_pos rfl)]<;>exact⟨rfl,rfl⟩⟩)
  have kx:(obj S.O ok).kind=3:=hI.kind ez
  refine af.region (gK 5 [(133,.map (some (L.m d))),(134,.string name)] [(3,v_ 0 (br L hkd))] ?_)
  refine iq 1 hkd bn ?_
  refine NN (af.block (SR ?_))
  refine gK 3 [(137,.bool true),(138,vP (L.b ok))] [] ?_
  refine NN (CT (SR (gK 1 [] [] ?_)))
  refine NS (gK 1 [(6,vI 174)] [] ?_)
  refine NN (af.ret (ai.aF (ai.ak ?_)))
  exact RT (vI 174) [2,3,4,0,5,1,6] (⟨L,by rw [show (cJ S root a)=(174,S) by unfold cJ;rw [if_neg (by omega),hix];simp only;rw [if_pos trivial,jx];simp only;unfold mr;rw [if_neg (by omega)];rw [if_neg (by omega)];rw [if_neg (by omega)];rw [if_neg (by omega)];rw [if_neg (by omega)];rw [if_neg (by omega)];unfold kZ;rw [bn];exact if_pos rfl]<;>exact⟨rfl,rfl⟩⟩)
 have hkt:(obj S.O tk).kind=3:=hI.kind hlv
 refine af.region (gK 5 [(33,.map (some m)),(34,vI (root))] [(3,a_ 0 f)] ?_)
 refine aj.dW 1 (d:=(some 35)) (t:=120) (K:=3) (E:=124) (b:=m) (n:=S.idx.length) (f:=(aW (aV L S.idx))) (x:=(.tmp 33)) (ix:=(.tmp 34)) (key:=.int .i64 (root)) (z:=.nilIface) (kl:=(.int .i64 root)) (r:=(some (dz L ⟨tk,3⟩))) (fun _=>by kernel_rfl) (by kernel_rfl) (fun _=>by kernel_rfl) (fun _=>by kernel_rfl) dQ Tryz.underlying120 (fun _=>by kernel_rfl) (gS hrw) (by rw [eW,hix];rfl) ?_
 refine gK 1 [(7,.iface 132 (vP (L.b tk)))] [] ?_
 refine NN (af.seq (SR (gK 2 [(37,.bool false)] [] ?_)))
 refine NN (CF (af.skip (NX (SR (gK 7 [(8,.pointer none),(9,.bool false)] [] ?_)))))
 refine NN (af.seq (SR (gK 2 [(44,.bool true)] [] ?_)))
 refine NN (CT (SR (gK 1 [(6,vI 173)] [] ?_)))
 refine NN (af.ret (ai.ak ?_))
 exact RT (vI 173) [0,1,2,3,4,5,6] (⟨L,by rw [show (cJ S root a)=(173,S) by unfold cJ;rw [if_neg (by omega),hix];simp only;exact if_neg (by simp)]<;>exact⟨rfl,rfl⟩⟩)
end
section
open Go.RowKit Go.Maps bG aE
attribute [local irreducible] aj aP af ai
noncomputable abbrev K5 (o)(q)(f:Nat) (root) (am) (n):=(.blk o [.iface 181 (vP q),vP f,vI (root),.map (some am),vI ↑(n+1)] 185:HP)
noncomputable abbrev QV (o)(b1:Nat) (b2:Nat) (mz) (ys:List cI) (HB) (i:Nat):=([(0,vP o),(3,vP b1),(4,vP b2),(22,.slice mz (ys.length) (HB)),(23,vI ↑ys.length),(24,vI ↑i)]:Fr)
theorem QW {β:Bs} (S:aG) (L:HL) (o q f m t am an km kn n:Nat) (Z:AZ) (fs:List bR) (xs:List cI) (root:Int) (hrw:(Lit.int .i64 root).wf=true) (hI:Inv S) (hn:n<=1048576) (k:Int) (hk:gX fs ((n+1:Nat):Int)=k) (hZ:jK β Z xs) (hX:iO xs 1048576) (hg:iU β) (c:aB) (hC:fL β c) :
    Spec Tryz.prog β 254 #[vP o,.agg ⟨bK c⟩] ([.blk o [.iface 181 (vP q),vP f,vI (root),.map (some am),vI (((n:Nat):Int))] 185,.blk q [.iface 54 (vP f),.map (some km),vI (((n:Nat):Int))] 183,.abs (aJ Tryz.prog 3 am (fH Z xs) an)]++DC km fs kn f m t S L) (fun v l=>∃ L2,v=.agg ⟨bK (bp k (gY root S (bO xs ((n+1:Nat):Int))) c).2⟩/\l=[.blk o [.iface 181 (vP q),vP f,vI (root),.map (some am),vI ((((n+1):Nat):Int))] 185,.blk q [.iface 54 (vP f),.map (some km),vI ((((n+1):Nat):Int))] 183,.abs (aJ Tryz.prog 3 am (fH Z xs) an),oM km fs kn,pF f m t ((bp k (gY root S (bO xs ((n+1:Nat):Int))) c).1.X),.abs (aJ Tryz.prog 3 m (aW (aV L2 (bp k (gY root S (bO xs ((n+1:Nat):Int))) c).1.idx)) ((bp k (gY root S (bO xs ((n+1:Nat):Int))) c).1.idx.length)),pT t (bp k (gY root S (bO xs ((n+1:Nat):Int))) c).1.X.cH ((bp k (gY root S (bO xs ((n+1:Nat):Int))) c).1.ar) L2 ((bp k (gY root S (bO xs ((n+1:Nat):Int))) c).1.us),pO ((bp k (gY root S (bO xs ((n+1:Nat):Int))) c).1.O) L2,pD ((bp k (gY root S (bO xs ((n+1:Nat):Int))) c).1.O) L2,pE ((bp k (gY root S (bO xs ((n+1:Nat):Int))) c).1.O) L2]):=by
 obtain⟨ys,hys⟩:∃ ys,bO xs ((n+1:Nat):Int)=ys:=⟨_,rfl⟩
 obtain⟨mz,has⟩:∃ a,aA Z xs ((n+1:Nat):Int)=a:=⟨_,rfl⟩
 obtain⟨HB,hac⟩:∃ a,aC Z xs ((n+1:Nat):Int)=a:=⟨_,rfl⟩
 have hrow:=hZ ((n+1:Nat):Int)
 rw [hys,has] at hrow
 have hyb:∀ {i},i < ys.length->xP (act ys i) 1048576:=fun {i} h=>hX.q _ (Je (x:=((n+1:Nat):Int)) (by rw [hys];exact List.mem_of_getElem? (rP h)))
 have oY:ys.length<=1048576:=by rw [← hys];exact Nat.le_trans (Bt _) hX.len
 rw [show bO xs ((n+1:Nat):Int)=ys from hys]
 obtain⟨SA,S9⟩:∃ SA,gY root S ys=SA:=⟨_,rfl⟩
 rw [S9]
 refine Spec.enter Tryz.func254 rfl Tryz.ntmps254 (Nat.le_of_ble_eq_true rfl) (fun R=>?_)
 refine SR (gN 1 (fun b1=>[(3,vP b1)]) (fun _=>[]) (fun _=>[]) (fun b1=>pC b1 c) (fun b1=>?_))
 refine gN 1 (fun b2=>[(4,vP b2)]) (fun _=>[]) (fun _=>[]) (fun b2=>.blk b2 [vI 0,vI 0,vI 0,.string ⟨#[]⟩,.string ⟨#[]⟩,.slice none (0) (0),vI 0,vI 0,vI 0,vI 0,vI 0,vI 0,vI 0] 48) (fun b2=>?_)
 refine NS (gC 8 [] [(3,a_ 0 o),(4,p_ ⟨[],none,none,none,some (vI ↑(n+1))⟩ [(Value.int .i64 (IntKind.wrap .i64 (((n:Nat):Int)+1)))=(.int .i64 ↑(n+1))] ⟨bD (by omega) (by omega) (by omega),trivial⟩),(7,a_ 0 o)] [(0,[(4,vI ↑(n+1))])] ?_)
 refine NN (af.seq (af.seq (af.bH (by kernel_rfl) (by kernel_rfl) ?_)))
 refine gQ 8 [(17,.map (some am)),(21,vI ↑(n+1))] [(3,a_ 0 o),(7,a_ 0 o)] ?_
 refine aP.dW 2 (d:=(some 22)) (t:=178) (K:=3) (E:=30) (b:=am) (n:=an) (f:=(fH Z xs)) (x:=(.tmp 17)) (ix:=(.tmp 21)) (key:=.int .i64 ↑(n+1)) (z:=.slice none (0) (0)) (kl:=(.int .i64 ((n+1:Nat):Int))) (r:=(fH Z xs (.int .i64 ((n+1:Nat):Int)))) (fun _=>by kernel_rfl) (by kernel_rfl) (fun _=>by kernel_rfl) (fun _=>by kernel_rfl) dQ Tryz.underlying178 (fun _=>by kernel_rfl) (gS (KT (by omega))) (rfl) ?_
 refine aP.slot 22 (((fH Z xs (.int .i64 ((n+1:Nat):Int))).getD (.slice none 0 0))) (.slice mz (ys.length) (HB)) (fun _=>by kernel_rfl) (zR.trans (by rw [hys,has,hac])) ?_
 refine gQ 2 [(23,vI ↑ys.length),(24,vI 0)] [] ?_
 refine NQ (NX (af.block ?_))
 refine af.loop (ι:=Nat×aG×HL) (fun ((i,S1,L1):Nat×aG×HL)=>(i<=ys.length)/\(S1=gY root S (ys.take i))/\(Inv S1)) (fun ((i,S1,L1):Nat×aG×HL)=>ys.length - i) (fun ((i,S1,L1):Nat×aG×HL)=>(QV o b1 b2 mz ys HB i)) (fun ((i,S1,L1):Nat×aG×HL)=>[K5 o q f root am n,.blk q [.iface 54 (vP f),.map (some km),vI ↑n] 183,.abs (aJ Tryz.prog 3 am (fH Z xs) an),oM km fs kn,pC b1 c,oW b2,pF f m t S1.X,pI m L1 S1.idx,jT t S1 L1,pO S1.O L1,pD S1.O L1,pE S1.O L1,.abs R]) (0,S,L) (idx:=[0,3,4,22,23,24]) (pk:=[0,1,2,3,11,12,4,5,6,7,8,9,10]) (show (0<=ys.length)/\(S=gY root S (ys.take 0))/\(Inv S) from ⟨Nat.zero_le _,rfl,hI⟩) (fun _=>by kernel_rfl) rfl (by kernel_rfl) ?_
 rintro⟨i,S1,L1⟩ ⟨hi,hs1,cg⟩
 show af _ _ _ _ (QV o b1 b2 mz ys HB i) [K5 o q f root am n,.blk q [.iface 54 (vP f),.map (some km),vI ↑n] 183,.abs (aJ Tryz.prog 3 am (fH Z xs) an),oM km fs kn,pC b1 c,oW b2,pF f m t S1.X,pI m L1 S1.idx,jT t S1 L1,pO S1.O L1,pD S1.O L1,pE S1.O L1,.abs R] _
 refine SR (gK 1 [(25,.bool (decide ((((i:Nat):Int):Int) < (((ys.length:Nat):Int):Int))))] [] ?_)
 refine NN (af.seq (af.aZ (p:=(((i:Nat):Int):Int) < (((ys.length:Nat):Int):Int)) (fun _=>by kernel_rfl) (fun vO=>?_) (fun vO=>?_)))
 ·refine af.skip (NX (af.seq (af.block (SR ?_))))
  refine gN 4 (fun b3=>[(6,vP b3)]) (fun b3=>[(0,p_ ⟨[],some i,none,some ⟨(av mz),au mz,none⟩,none⟩ [((i:Nat):Int)=((i:Nat):Int),i < ys.length,(⟨(av mz),au mz,none⟩:Addr).spot=none,(mz:Option Addr)=some ⟨(av mz),au mz,none⟩] ⟨rfl,by omega,rfl,NZ hrow (i:=i) (by omega),trivial⟩),(1,p_ ⟨[.old (.int .i64 ((act ys i).at_)),.old (.int .i64 ((act ys i).op)),.old (.string (act ys i).path),.old (.string (act ys i).to),.old (.string (act ys i).text)],none,none,none,none⟩ [(Rd β ⟨(av mz),au mz+i * 5+4,none⟩ (.string (act ys i).text)),(Rd β ⟨(av mz),au mz+i * 5+3,none⟩ (.string (act ys i).to)),(Rd β ⟨(av mz),au mz+i * 5+2,none⟩ (.string (act ys i).path)),(Rd β ⟨(av mz),au mz+i * 5+1,none⟩ (.int .i64 ((act ys i).op))),(Rd β ⟨(av mz),au mz+i * 5,none⟩ (.int .i64 ((act ys i).at_)))] ⟨p4 hrow (i:=i) (by omega) (j:=4) rfl,p4 hrow (i:=i) (by omega) (j:=3) rfl,p4 hrow (i:=i) (by omega) (j:=2) rfl,p4 hrow (i:=i) (by omega) (j:=1) rfl,p4 hrow (i:=i) (by omega) (j:=0) rfl,trivial⟩),(3,A_ 13 b3 5)]) (fun _=>[]) (fun b3=>.blk b3 [vI ((act ys i).at_),vI ((act ys i).op),.string (act ys i).path,.string (act ys i).to,.string (act ys i).text] 41) (fun b3=>?_)
  refine NN (af.bP (S:=[K5 o q f root am n,.blk b3 [vI ((act ys i).at_),vI ((act ys i).op),.string (act ys i).path,.string (act ys i).to,.string (act ys i).text] 41]) [0,1,2,3,4,5,6,7,8,9] 9 [0,13] (by kernel_rfl) (by kernel_rfl) rfl (by kernel_rfl) ?_)
  refine gR 0 [9] (QV o b1 b2 mz ys HB i++[(31,vP f),(35,vI (root)),(36,.agg #[vI ((act ys i).at_),vI ((act ys i).op),.string (act ys i).path,.string (act ys i).to,.string (act ys i).text])]) [0,1,2,3,4,5,6,7,8] [(3,a_ 0 o),(7,a_ 0 o),(8,A_ 1 b3 5)] ?_
  refine aL.last rfl rfl ?_
  refine gL [6,7,8,9,10,11] (OY S1 L1 f m t cg root hrw (act ys i) (hyb (by omega)).path (hyb (by omega)).to (hyb (by omega)).text hg) ?_
  rintro _ _ ⟨L2,rfl,rfl⟩
  refine NL (ai.np (ai.aN (NX (af.region ?_))))
  refine gK 2 [(24,vI ↑(i+1))] [(0,p_ ⟨[],none,none,none,some (vI ↑(i+1))⟩ [(Value.int .i64 (IntKind.wrap .i64 (((i:Nat):Int)+1)))=(.int .i64 ↑(i+1))] ⟨bD (by omega) (by omega) (by omega),trivial⟩)] ?_
  refine NL ?_
  exact ai.turn ((i+1),(cJ S1 root (act ys i)).2,L2) (idx:=[0,3,4,22,23,24]) (pk:=[6,7,8,9,10,11,0,1,2,3,4,5,12]) (show (((i+1))<=ys.length)/\(((cJ S1 root (act ys i)).2)=gY root S (ys.take ((i+1))))/\(Inv ((cJ S1 root (act ys i)).2)) from ⟨by omega,by rw [hs1];exact (Jg (by omega)).symm,cg.cJ⟩) (by show ys.length - ((i+1)) < ys.length - i;omega) (fun _=>by kernel_rfl) rfl (by kernel_rfl)
 refine af.exit (ai.aX (ai.aX (ai.cP (NX (af.seq ?_)))))
 refine af.bP (S:=[K5 o q f root am n,pC b1 c]) [0,1,2,3,4,5,6] 5 [0,4] (by kernel_rfl) (by kernel_rfl) rfl (by kernel_rfl) ?_
 refine gR 0 [5,6] [(4,vP b2),(42,.iface 181 (vP q)),(43,.agg ⟨bK c⟩)] [0,1,2,3,4] [(3,a_ 0 o),(4,A_ 1 b1 13)] ?_
 refine mL [8,10] [1,3,6,7,8,9,10,11] (QS S1 L1 q f m t km kn n fs cg hn k hk c hC) ?_ (by rintro _ _ ⟨L2,rfl,rfl⟩;rfl)
 rintro _ _ ⟨L2,rfl,rfl⟩
 refine aL.last rfl rfl ?_
 refine gC 1 [] [(0,A_ 11 b2 13)] [(11,[(0,vI ((bp k S1 c).2.op)),(1,vI ((bp k S1 c).2.handle)),(2,vI ((bp k S1 c).2.other)),(3,.string (bp k S1 c).2.name),(4,.string (bp k S1 c).2.text),(5,.slice (bp k S1 c).2.dA ((bp k S1 c).2.data.length) ((bp k S1 c).2.dC)),(6,vI ((bp k S1 c).2.mode)),(7,vI ((bp k S1 c).2.uid)),(8,vI ((bp k S1 c).2.gid)),(9,vI ((bp k S1 c).2.sec)),(10,vI ((bp k S1 c).2.nano)),(11,vI ((bp k S1 c).2.code)),(12,vI ((bp k S1 c).2.answer))])] ?_
 refine NL (ai.np (NX (af.ret ?_)))
 have hs2:S1=SA:=by rw [hs1,show i=ys.length by omega,List.take_length];exact S9
 subst hs2
 exact ai.ret (v:=.agg ⟨bK ((bp k S1 c).2)⟩) (l:=[K5 o q f root am n,uK q f km n,.abs (aJ Tryz.prog 3 am (fH Z xs) an),oM km fs kn,pF f m t ((bp k S1 c).1.X),pI m L2 (bp k S1 c).1.idx,pT t (bp k S1 c).1.X.cH ((bp k S1 c).1.ar) L2 ((bp k S1 c).1.us),pO ((bp k S1 c).1.O) L2,pD ((bp k S1 c).1.O) L2,pE ((bp k S1 c).1.O) L2]) (bA:=[b2=b2,b2=b2,b2=b2,b2=b2,b2=b2,b2=b2,b2=b2,b2=b2,b2=b2,b2=b2,b2=b2,b2=b2,b2=b2]) [.at 11,.at 11,.at 11,.at 11,.at 11,.at 11,.at 11,.at 11,.at 11,.at 11,.at 11,.at 11,.at 11] [8,0,9,1,2,3,4,5,6,7,12] (fun _=>by kernel_rfl) ⟨rfl,rfl,rfl,rfl,rfl,rfl,rfl,rfl,rfl,rfl,rfl,rfl,rfl,trivial⟩ rfl (by kernel_rfl) (⟨L2,rfl,rfl⟩)
end
section
open Go.RowKit Go.Maps bG aE
theorem DH {β:Bs} (A:Option Addr) (c:Nat) (d:List UInt8) (hA:bg β A d) (hl:d.length<=1048576):cq Tryz.prog β 58 #[.slice A d.length c] [] (fun β' v l=>∃ B cap,v=.slice B d.length cap/\l=[]/\bg β' B d/\d.length<=cap):=
  (tQ A c d hA (by omega)).BF (by
    rintro v l ⟨B,cap,rfl,rfl⟩
    refine⟨[],_,rfl,fun β' h=>⟨B,cap,rfl,rfl,h.bytes,?_⟩⟩
    obtain⟨F,h1,_⟩:=h.get 0 rfl
    exact (aH.len h1).2)
theorem OZ {β:Bs} (S:aG) (L:HL) (o q f m t am an km kn n:Nat) (Z:AZ) (fs:List bR) (xs:List cI) (root:Int) (hrw:(Lit.int .i64 root).wf=true) (hI:Inv S) (hn:n<=1048576) (hZ:jK β Z xs) (hX:iO xs 1048576) (hg:iU β) (c:aB) (B:Option Addr) (p:Nat) {cX:Int} (ho:cX=if c.op=1 then root else c.other) (hC:fL β { bE B p c with other:=cX }) {S2:aG} {c2:aB} (hW:iT fs xs root (n+1) S c=(S2,c2)) :
    Spec Tryz.prog β 254 #[vP o,.agg ⟨bK { bE B p c with other:=cX }⟩] ([oB o q f root am n,qB q f km n,aM am an Z xs,kM km kn fs]++pA f m t L S) (fun v l=>∃ L2,v=.agg ⟨bK (bE B p c2)⟩/\l=[oB o q f root am (n+1),qB q f km (n+1),aM am an Z xs,kM km kn fs]++pA f m t L2 S2):=by
  have e:({ bE B p c with other:=cX }:aB)=bE B p (mQ root c):=by rw [Gq ho];rfl
  rw [e] at hC ⊢
  have h:=QW S L o q f m t am an km kn n Z fs xs root hrw hI hn _ rfl hZ hX hg (bE B p (mQ root c)) hC
  rw [Du] at h
  have hW:bp (gX fs ((n+1:Nat):Int)) (gY root S (bO xs ((n+1:Nat):Int))) (mQ root c)=(S2,c2):=hW
  rw [hW] at h
  exact h
end
section
open Go.RowKit Go.Maps bG aE
attribute [local irreducible] aj aP af ai
noncomputable abbrev BK (w)(f:Nat) (o) (root) (tA) (tr:List aB) (tC):=(.blk w [.iface 42 (vP w),vP f,.iface 180 (vP o),vI (root),.slice tA (tr.length) (tC)] 93:HP)
noncomputable abbrev y5 (am)(Z)(xs)(an):=(.abs (aJ Tryz.prog 3 am (fH Z xs) an):HP)
noncomputable abbrev Oc (tA)(tr:List aB) (tC):=(.abs (aH 48 13 tA tr.length tC (bN bK tr)):HP)
noncomputable abbrev QX (w)(f:Nat) (o) (root) (A') (tr:List aB) (k'):=(.blk w [.iface 42 (vP w),vP f,.iface 180 (vP o),vI (root),.slice A' ((tr.length+1)) (k')] 93:HP)
noncomputable abbrev HE (A')(tr:List aB) (k') (B1) (p1) (c2):=(.abs (aH 48 13 A' (tr.length+1) k' (bN bK (tr++[bE B1 p1 c2]))):HP)
noncomputable abbrev QY (o)(q)(f:Nat) (root) (am) (tr:List aB):=(.blk o [.iface 181 (vP q),vP f,vI (root),.map (some am),vI ↑tr.length] 185:HP)
noncomputable abbrev QZ (q)(f:Nat) (km) (tr:List aB):=(.blk q [.iface 54 (vP f),.map (some km),vI ↑tr.length] 183:HP)
noncomputable abbrev Q0 (b1:Nat) (c:aB) (cX) (B1) (p1):=(.blk b1 [vI (c.op),vI (c.handle),vI (cX),.string c.name,.string c.text,.slice B1 (c.data.length) (p1),vI (c.mode),vI (c.uid),vI (c.gid),vI (c.sec),vI (c.nano),vI (c.code),vI (c.answer)] 48:HP)
noncomputable abbrev BL (b1:Nat) (c2:aB) (B1) (p1):=(.blk b1 [vI (c2.op),vI (c2.handle),vI (c2.other),.string c2.name,.string c2.text,.slice B1 (c2.data.length) (p1),vI (c2.mode),vI (c2.uid),vI (c2.gid),vI (c2.sec),vI (c2.nano),vI (c2.code),vI (c2.answer)] 48:HP)
noncomputable abbrev FO (o)(q)(f:Nat) (root) (am) (tr:List aB):=(.blk o [.iface 181 (vP q),vP f,vI (root),.map (some am),vI ↑(tr.length+1)] 185:HP)
noncomputable abbrev FP (q)(f:Nat) (km) (tr:List aB):=(.blk q [.iface 54 (vP f),.map (some km),vI ↑(tr.length+1)] 183:HP)
noncomputable abbrev tT (f:Nat) (m:Nat) (t) (S:aG) (L:HL):=([pF f m t S.X,pI m L S.idx,jT t S L,pO S.O L,pD S.O L,pE S.O L]:List HP)
noncomputable abbrev M6 (c2:aB) (B1) (p1):=([(0,vI (c2.op)),(1,vI (c2.handle)),(2,vI (c2.other)),(3,.string c2.name),(4,.string c2.text),(5,.slice B1 (c2.data.length) (p1)),(6,vI (c2.mode)),(7,vI (c2.uid)),(8,vI (c2.gid)),(9,vI (c2.sec)),(10,vI (c2.nano)),(11,vI (c2.code)),(12,vI (c2.answer))]:Fr)
theorem O0 {β:Bs} (S:aG) (L:HL) (w o q f m t am an km kn:Nat) (Z:AZ) (fs:List bR) (xs:List cI) (root:Int) (tr:List aB) (tA:Option Addr) (tC:Nat) (hrw:(Lit.int .i64 root).wf=true) (hI:Inv S) (hn:tr.length<=1048575) (hZ:jK β Z xs) (hX:iO xs 1048576) (hg:iU β) (c:aB) (hD:bg β c.dA c.data) (hl:c.data.length<=1048576) (hw:(Lit.int .i64 c.handle).wf=true) (how:(Lit.int .i64 c.other).wf=true) (hnm:c.name.size<=1048576) (Q5:c.text.size<=1048576) {S2:aG} {c2:aB} (hW:iT fs xs root (tr.length+1) S c=(S2,c2)) :
    cq Tryz.prog β 16 #[vP w,.agg ⟨bK c⟩] ([BK w f o root tA tr tC,.blk o [.iface 181 (vP q),vP f,vI (root),.map (some am),vI (((tr.length:Nat):Int))] 185,.blk q [.iface 54 (vP f),.map (some km),vI (((tr.length:Nat):Int))] 183,y5 am Z xs an,oM km fs kn,Oc tA tr tC]++tT f m t S L) (fun β' v l=>∃ B1 p1 B2 p2 A' k' L2,v=.agg ⟨bK (bE B2 p2 c2)⟩/\l=([QX w f o root A' tr k',.blk o [.iface 181 (vP q),vP f,vI (root),.map (some am),vI ((((tr.length+1):Nat):Int))] 185,.blk q [.iface 54 (vP f),.map (some km),vI ((((tr.length+1):Nat):Int))] 183,y5 am Z xs an,oM km fs kn,HE A' tr k' B1 p1 c2]++tT f m t S2 L2)/\bg β' B1 c2.data/\bg β' B2 c2.data/\c2.data.length<=p2):=by
 have hd2:c2.data=c.data:=by have h:=Gp (fs:=fs) (xs:=xs) (root:=root) (n:=tr.length+1) (S:=S) (c:=c);rw [hW] at h;exact h
 refine cq.enter Tryz.func16 rfl Tryz.ntmps16 (Nat.le_of_ble_eq_true rfl) (fun hle0 R=>?_)
 refine SR (gN 1 (fun b1=>[(3,vP b1)]) (fun _=>[]) (fun _=>[]) (fun b1=>pC b1 c) (fun b1=>?_))
 refine gN 1 (fun b2=>[(4,vP b2)]) (fun _=>[]) (fun _=>[]) (fun b2=>.blk b2 [vI 0,vI 0,vI 0,.string ⟨#[]⟩,.string ⟨#[]⟩,.slice none (0) (0),vI 0,vI 0,vI 0,vI 0,vI 0,vI 0,vI 0] 48) (fun b2=>?_)
 refine NS (gK 2 [(6,.slice c.dA (c.data.length) (c.dC))] [(1,a_ 13 b1)] ?_)
 refine aj.iG (d:=(some 7)) (R:=([BK w f o root tA tr tC,QY o q f root am tr,QZ q f km tr,y5 am Z xs an,oM km fs kn,Oc tA tr tC]++tT f m t S L++[.abs R,pC b1 c,oW b2])) (pk:=[0,1,2,3,4,5,6,7,8,9,10,11,12,13,14]) (fun _=>by kernel_rfl) (DH c.dA c.dC c.data hD hl) rfl (by kernel_rfl) ?_
 rintro K7 _ _ kE ⟨B1,p1,rfl,rfl,K8,hp1⟩
 replace hD:=hD.le kE
 replace hZ:=hZ.le kE
 replace hg:=hg.le kE
 replace hle0:=hle0.trans kE
 refine gC 2 [] [(1,a_ 13 b1)] [(13,[(5,.slice B1 (c.data.length) (p1))])] ?_
 refine NN (af.join (ι:=Int) (fun (cX:Int)=>(cX=if c.op=1 then root else c.other)/\((Lit.int .i64 cX).wf=true)) (fun (cX:Int)=>([(0,vP w)]++yZ b1 b2)) (fun (cX:Int)=>([BK w f o root tA tr tC,QY o q f root am tr,QZ q f km tr,y5 am Z xs an,oM km fs kn,Oc tA tr tC]++tT f m t S L++[.abs R,Q0 b1 c cX B1 p1,oW b2])) ?_ ?_)
 ·rintro cX ⟨hoth,how⟩
  show af _ _ _ _ ([(0,vP w)]++yZ b1 b2) ([BK w f o root tA tr tC,QY o q f root am tr,QZ q f km tr,y5 am Z xs an,oM km fs kn,Oc tA tr tC]++tT f m t S L++[.abs R,Q0 b1 c cX B1 p1,oW b2]) _
  refine af.seq (af.bP (S:=[BK w f o root tA tr tC,Q0 b1 c cX B1 p1]) [0,1,2,3,4,5,6] 5 [0,13] (by kernel_rfl) (by kernel_rfl) rfl (by kernel_rfl) ?_)
  refine gR 0 [5,6] ([(0,vP w)]++yZ b1 b2++[(20,.iface 180 (vP o)),(21,.agg #[vI (c.op),vI (c.handle),vI (cX),.string c.name,.string c.text,.slice B1 (c.data.length) (p1),vI (c.mode),vI (c.uid),vI (c.gid),vI (c.sec),vI (c.nano),vI (c.code),vI (c.answer)])]) [0,1,2,3,4] [(3,a_ 0 w),(4,A_ 1 b1 13)] ?_
  refine mL [10,13] [1,2,3,4,6,7,8,9,10,11] (OZ (β:=K7) S L o q f m t am an km kn tr.length Z fs xs root hrw hI (by omega) hZ hX hg c B1 p1 hoth ⟨hw,how,hnm,Q5,K8,Nat.le_trans hl (by decide),hp1⟩ hW) ?_ (by rintro _ _ ⟨L2,rfl,rfl⟩;rfl)
  rintro _ _ ⟨L2,rfl,rfl⟩
  refine aL.last rfl rfl ?_
  refine gC 1 [] [(0,A_ 13 b1 13)] [(13,(M6 c2 B1 p1))] ?_
  refine NL (ai.np (NX (af.seq ?_)))
  refine af.bP (S:=[BK w f o root tA tr tC,BL b1 c2 B1 p1]) [0,1,2,3,4,5,6,7,8,9,10] 6 [10,13] (by kernel_rfl) (by kernel_rfl) rfl (by kernel_rfl) ?_
  refine gR 0 [6,7,8,9,10] (yZ b1 b2++[(23,vP w),(27,.slice tA (tr.length) (tC)),(28,.agg ⟨bK (bE B1 p1 c2)⟩)]) [0,1,2,3,4,5] [(4,a_ 0 w),(5,A_ 1 b1 13)] ?_
  refine mN [10,13] (fun b4=>[(29,.slice (some ⟨b4,0,none⟩) (1) (1))]) (fun _=>[]) (fun b4=>.blk b4 [vI (c2.op),vI (c2.handle),vI (c2.other),.string c2.name,.string c2.text,.slice B1 (c2.data.length) (p1),vI (c2.mode),vI (c2.uid),vI (c2.gid),vI (c2.sec),vI (c2.nano),vI (c2.code),vI (c2.answer)] 48) (fun b4=>?_)
  refine aL.cut (ι:=(Option Addr)×Nat) (fr':=fun ((A5,c6):(Option Addr)×Nat)=>[(3,vP b1),(4,vP b2),(23,vP w),(30,.slice A5 ((tr.length+1)) (c6))]) (hp':=fun ((A5,c6):(Option Addr)×Nat)=>([FO o q f root am tr,FP q f km tr,y5 am Z xs an,oM km fs kn]++tT f m t S2 L2++[BK w f o root tA tr tC,HE A5 tr c6 B1 p1 c2,.abs R,BL b1 c2 B1 p1,oW b2,BL b4 c2 B1 p1])) [10,13] rfl rfl ?_ rfl (fun _=>by kernel_rfl) ?_
  ·refine aj.append 11 (d:=(some 30)) (t:=35) (e:=48) (z:=.agg #[vI 0,vI 0,vI 0,.string ⟨#[]⟩,.string ⟨#[]⟩,.slice none (0) (0),vI 0,vI 0,vI 0,vI 0,vI 0,vI 0,vI 0]) (size:=13) (bytes:=136) (n:=tr.length) (cap:=tC) (A:=tA) (xs:=(bN bK tr)) (s:=(.tmp 27)) (x:=(.tmp 29)) (ats:=#[35,35]) (A':=some ⟨b4,0,none⟩) (m:=1) (c':=1) (news:=[vI (c2.op),vI (c2.handle),vI (c2.other),.string c2.name,.string c2.text,.slice B1 (c2.data.length) (p1),vI (c2.mode),vI (c2.uid),vI (c2.gid),vI (c2.sec),vI (c2.nano),vI (c2.code),vI (c2.answer)]) (fun _=>by kernel_rfl) rfl (by kernel_rfl) (fun _=>by kernel_rfl) (fun _=>by kernel_rfl) Tryz.underlying35 (by kernel_rfl) rfl (by decide) (rfl) (by simp [Value.oneCell']) (lD (j:=15) rfl) (by unfold maxLen;omega) (by omega) (fun A5 c6=>?_)
   refine aj.dK 11 (p:=.abs (aH 48 13 A5 (tr.length+1) c6 ((bN bK tr)++[vI (c2.op),vI (c2.handle),vI (c2.other),.string c2.name,.string c2.text,.slice B1 (c2.data.length) (p1),vI (c2.mode),vI (c2.uid),vI (c2.gid),vI (c2.sec),vI (c2.nano),vI (c2.code),vI (c2.answer)]))) (p':=.abs (aH 48 13 A5 (tr.length+1) c6 (bN bK (tr++[bE B1 p1 c2])))) (by kernel_rfl) (congrArg (fun x=>HP.abs (aH 48 13 _ _ _ x)) (Bw bK (bE B1 p1 c2) tr).symm) ?_
   refine aj.slot 30 (.slice A5 (tr.length+1) (c6)) (.slice A5 ((tr.length+1)) (c6)) (fun _=>by kernel_rfl) (rfl) ?_
   refine NL ?_
   exact MD (A5,c6) [3,4,23,30] [0,1,2,3,4,5,6,7,8,9,10,11,12,13,14,15]
  rintro⟨A5,c6⟩
  refine aL.cut (ι:=Unit) (fr':=fun (_:Unit)=>[(3,vP b1),(4,vP b2),(30,.slice A5 ((tr.length+1)) (c6)),(31,vP w)]) (hp':=fun (_:Unit)=>([FO o q f root am tr,FP q f km tr,y5 am Z xs an,oM km fs kn]++tT f m t S2 L2++[BK w f o root tA tr tC,HE A5 tr c6 B1 p1 c2,.abs R,BL b1 c2 B1 p1,oW b2,BL b4 c2 B1 p1])) [10,13] rfl rfl ?_ rfl (fun _=>by kernel_rfl) ?_
  ·refine gK 1 [(31,vP w)] [] ?_
   refine NL ?_
   exact MD () [3,4,30,31] [0,1,2,3,4,5,6,7,8,9,10,11,12,13,14,15]
  rintro _
  refine aL.cut (ι:=Unit) (fr':=fun (_:Unit)=>[(3,vP b1),(4,vP b2),(30,.slice A5 ((tr.length+1)) (c6)),(32,.pointer (some ⟨w,4,none⟩))]) (hp':=fun (_:Unit)=>([FO o q f root am tr,FP q f km tr,y5 am Z xs an,oM km fs kn]++tT f m t S2 L2++[BK w f o root tA tr tC,HE A5 tr c6 B1 p1 c2,.abs R,BL b1 c2 B1 p1,oW b2,BL b4 c2 B1 p1])) [10,13] rfl rfl ?_ rfl (fun _=>by kernel_rfl) ?_
  ·refine gK 1 [(32,.pointer (some ⟨w,4,none⟩))] [] ?_
   refine NL ?_
   exact MD () [3,4,30,32] [0,1,2,3,4,5,6,7,8,9,10,11,12,13,14,15]
  rintro _
  refine aL.last rfl rfl ?_
  refine gC 1 [] [(0,a_ 10 w)] [(10,[(4,.slice A5 ((tr.length+1)) (c6))])] ?_
  refine NL (ai.np (NX (SR ?_)))
  refine gK 2 [(34,.slice B1 (c2.data.length) (p1))] [(1,a_ 13 b1)] ?_
  refine aj.iG (d:=(some 35)) (R:=([FO o q f root am tr,FP q f km tr,y5 am Z xs an,oM km fs kn]++tT f m t S2 L2++[QX w f o root A5 tr c6,HE A5 tr c6 B1 p1 c2,.abs R,BL b1 c2 B1 p1,oW b2,BL b4 c2 B1 p1])) (pk:=[0,1,2,3,4,5,6,7,8,9,10,11,12,13,14,15]) (fun _=>by kernel_rfl) (DH B1 p1 c2.data (by rw [hd2];exact K8) (by rw [hd2];exact hl)) rfl (by kernel_rfl) ?_
  rintro qR _ _ fA ⟨B2,p2,rfl,rfl,U4,hp2⟩
  replace hD:=hD.le fA
  replace hZ:=hZ.le fA
  replace hg:=hg.le fA
  replace K8:=K8.le fA
  replace hle0:=hle0.trans fA
  refine gC 2 [] [(1,a_ 13 b1)] [(13,[(5,.slice B2 (c2.data.length) (p2))])] ?_
  refine NS (gC 2 [] [(0,A_ 13 b1 13),(1,A_ 14 b2 13)] [(14,(M6 c2 B2 p2))] ?_)
  refine NN (af.ret ?_)
  exact ai.oZ (v:=.agg ⟨bK (bE B2 p2 c2)⟩) (l:=([QX w f o root A5 tr c6,FO o q f root am tr,FP q f km tr,y5 am Z xs an,oM km fs kn,HE A5 tr c6 B1 p1 c2]++tT f m t S2 L2)) (bA:=[b2=b2,b2=b2,b2=b2,b2=b2,b2=b2,b2=b2,b2=b2,b2=b2,b2=b2,b2=b2,b2=b2,b2=b2,b2=b2]) [.at 14,.at 14,.at 14,.at 14,.at 14,.at 14,.at 14,.at 14,.at 14,.at 14,.at 14,.at 14,.at 14] [10,0,1,2,3,11,4,5,6,7,8,9,12] hle0 (fun _=>by kernel_rfl) ⟨rfl,rfl,rfl,rfl,rfl,rfl,rfl,rfl,rfl,rfl,rfl,rfl,rfl,trivial⟩ rfl (by kernel_rfl) (⟨B1,p1,B2,p2,A5,c6,L2,rfl,rfl,by rw [hd2];exact K8,U4,hp2⟩)
 refine SR (gK 3 [(11,.bool (decide ((c.op:Int)=(1:Int))))] [(1,a_ 13 b1)] ?_)
 refine NN (af.aZ (p:=(c.op:Int)=(1:Int)) (fun _=>by kernel_rfl) (fun h11=>?_) (fun h11=>?_))
 ·refine af.region (gC 6 [] [(3,a_ 0 w),(5,a_ 13 b1)] [(13,[(2,vI (root))])] ?_)
  refine NL ?_
  exact ai.meet root (idx:=[0,3,4]) (pk:=[0,1,2,3,4,5,6,7,8,9,10,11,12,13,14]) (show (root=if c.op=1 then root else c.other)/\((Lit.int .i64 root).wf=true) from ⟨(if_pos h11).symm,hrw⟩) (fun _=>by kernel_rfl) rfl (by kernel_rfl)
 refine af.skip ?_
 exact ai.meet c.other (idx:=[0,3,4]) (pk:=[0,1,2,3,4,5,6,7,8,9,10,11,12,13,14]) (show (c.other=if c.op=1 then root else c.other)/\((Lit.int .i64 c.other).wf=true) from ⟨(if_neg h11).symm,how⟩) (fun _=>by kernel_rfl) rfl (by kernel_rfl)
end
section
open Go.RowKit Go.Maps bG aE
section d
variable {β:Bs} {fs:List bR} {xs:List cI} {root:Int} {S S2:aG} {V:WV} {tr:List aB} {c c2:aB} {G:WG}
theorem BM (hrw:(Lit.int .i64 root).wf=true) (hI:Inv S) (hn:tr.length<=1048575) (hZ:jK β G.Z xs) (hX:iO xs 1048576) (hg:iU β) (hD:bg β c.dA c.data) (hl:c.data.length<=1048576) (hw:(Lit.int .i64 c.handle).wf=true) (how:(Lit.int .i64 c.other).wf=true) (hnm:c.name.size<=1048576) (Q5:c.text.size<=1048576) (hW:iT fs xs root (tr.length+1) S c=(S2,c2)) :
    cq Tryz.prog β 16 #[vP G.w,.agg ⟨bK c⟩] [wA G fs xs root S V tr] (fun β' v l=>∃ (V':WV) (B1:Option Addr) (p1:Nat) (B2:Option Addr) (p2:Nat),v=.agg ⟨bK (bE B2 p2 c2)⟩/\l=[wA G fs xs root S2 V' (tr++[bE B1 p1 c2])]/\bg β' B1 c2.data/\bg β' B2 c2.data/\c2.data.length<=p2):=
  (O0 S V.L G.w G.o G.q G.f G.m G.t G.am G.an G.km G.kn G.Z fs xs root tr V.A V.c hrw hI hn hZ hX hg c hD hl hw how hnm Q5 hW).one.mono (by
    rintro β' v l _ ⟨l0,⟨B1,p1,B2,p2,A',k',L2,rfl,rfl,h1,h2,h3⟩,rfl⟩
    refine⟨⟨L2,A',k'⟩,B1,p1,B2,p2,rfl,?_,h1,h2,h3⟩
    unfold wA wP tR
    rw [List.length_append]
    rfl)
theorem K9:Spec Tryz.prog β 49 #[vP G.w] [wA G fs xs root S V tr] (fun v l=>v=.int .i64 (tr.length:Int)/\l=[wA G fs xs root S V tr]):=
  (Jq S V.L G.w G.o G.q G.f G.m G.t G.am G.an G.km G.kn G.Z fs xs root tr V.A V.c).one.mono (by rintro v l ⟨l0,⟨rfl,rfl⟩,rfl⟩;exact⟨rfl,rfl⟩)
theorem M7:Spec Tryz.prog β 19 #[vP G.w] [wA G fs xs root S V tr] (fun v l=>v=.int .i64 (S.us.length:Int)/\l=[wA G fs xs root S V tr]):=
  (KX S V.L G.w G.o G.q G.f G.m G.t G.am G.an G.km G.kn G.Z fs xs root tr V.A V.c).one.mono (by rintro v l ⟨l0,⟨rfl,rfl⟩,rfl⟩;exact⟨rfl,rfl⟩)
theorem M8:Spec Tryz.prog β 27 #[vP G.w] [wA G fs xs root S V tr] (fun v l=>v=.int .i64 S.ar/\l=[wA G fs xs root S V tr]):=
  (KY S V.L G.w G.o G.q G.f G.m G.t G.am G.an G.km G.kn G.Z fs xs root tr V.A V.c).one.mono (by rintro v l ⟨l0,⟨rfl,rfl⟩,rfl⟩;exact⟨rfl,rfl⟩)
theorem La (hI:Inv S):Spec Tryz.prog β 18 #[vP G.w] [wA G fs xs root S V tr] (fun v l=>∃ A cp K,v=.agg #[.slice A (aS S).length cp]/\l=[wA G fs xs root S V tr]++Ms A cp (aS S) K):=by
  intro R w hS
  have h1:Sat β ([.abs R]++[wA G fs xs root S V tr]) w:=Sat.turn hS
  refine (Jr S V.L G.w G.o G.q G.f G.m G.t G.am G.an G.km G.kn G.Z fs xs root tr V.A V.c hI R w (Sat.turn (Sat.p8 h1))).mono ?_
  rintro e w' ⟨v,l,h2,⟨A,cp,K,h3,rfl⟩,h4⟩
  refine⟨v,_,h2,⟨A,cp,K,h3,rfl⟩,?_⟩
  rw [List.append_assoc] at h4
  have h5:=(Sat.turn h4).fM
  rw [List.append_assoc] at h5 ⊢
  exact Sat.turn h5
theorem BN (hI:Inv S):cq Tryz.prog β 18 #[vP G.w] [wA G fs xs root S V tr] (fun β' v l=>∃ A cp K,v=.agg #[.slice A (aS S).length cp]/\l=[wA G fs xs root S V tr]/\ay β' A (aS S) K):=
  (La hI).BF (by
    rintro v l ⟨A,cp,K,rfl,rfl⟩
    exact⟨_,_,rfl,fun β' h=>⟨A,cp,K,rfl,rfl,h.graph⟩⟩)
theorem O3 {ns:List aK} {Y:Lay} {X:FM} (A:Option Addr) (cp:Nat) (hG:ay β A ns Y) (hB:fW ns 1048576) {Af Aa:Option Addr} (cf ca:Nat) (hF:cM β Af (bN eH fs)) (lV:gq fs 2097152) (hA:cM β Aa (bN fF xs)) (hab:iO xs 1048576) :
    cq Tryz.prog β 37 #[.agg #[.slice A ns.length cp],.int .i64 root,.agg #[.int .i64 X.cN,.int .i64 X.cB,.int .i64 X.cH,.int .i64 X.cS,.int .i64 X.cZ],.agg #[.slice Af fs.length cf,.slice Aa xs.length ca]] [] (fun β' v l=>(cO X ns root≠0/\v=.tuple #[.pointer none,.int .i64 (cO X ns root)]/\l=[])\/(cO X ns root=0/\∃ (N:qI X ns) (G:WG) (V:WV),v=.tuple #[vP G.w,.int .i64 0]/\l=[wA G fs xs root N.1 V []]/\jK β' G.Z xs)):=
  ((M4 A cp ns Y hG hB X root Af cf fs hF lV Aa ca xs hA hab).QI (by
    rintro β' v l (⟨h1,h2,rfl⟩|⟨h1,N,L,w,o,q,f,m,t,am,an,km,kn,Z,h2,rfl,h3⟩)
    ·exact .inl ⟨rfl,.inl ⟨h1,h2,rfl⟩⟩
    exact .inr (.inr ⟨h1,N,⟨w,o,q,am,km,an,kn,f,m,t,Z⟩,⟨L,none,0⟩,h2,rfl,h3⟩)))
end d
end
section
open Go.RowKit Go.Maps bG aE
section e
variable {β:Bs} {fs:List bR} {xs:List cI} {root:Int} {ns:List aK} {X:FM}
abbrev newP (β:Bs) (B:Option Addr) (ns:List aK) (Bf:Option Addr) (bf:Nat) (fs:List bR) (Ba:Option Addr) (ba:Nat) (xs:List cI):List HP:=[.abs (kD β (fun β'=>∃ K,ay β' B ns K)),.abs (aH 39 2 Bf fs.length bf (bN eH fs)),.abs (aH 41 5 Ba xs.length ba (bN fF xs))]
abbrev M9 (B:Option Addr) (n cp:Nat) (root:Int) (X:FM) (Bf:Option Addr) (nf bf:Nat) (Ba:Option Addr) (na ba:Nat):Array Value:=#[.agg #[.slice B n cp],.int .i64 root,.agg #[.int .i64 X.cN,.int .i64 X.cB,.int .i64 X.cH,.int .i64 X.cS,.int .i64 X.cZ],.agg #[.slice Bf nf bf,.slice Ba na ba]]
theorem FQ {Bf Ba:Option Addr} (B:Option Addr) (cp:Nat) (hB:fW ns 1048576) (bf ba:Nat) (lV:gq fs 2097152) (hab:iO xs 1048576) :
    cq Tryz.prog β 37 (M9 B ns.length cp root X Bf fs.length bf Ba xs.length ba) (newP β B ns Bf bf fs Ba ba xs) (fun β' v l=>(cO X ns root≠0/\v=.tuple #[.pointer none,.int .i64 (cO X ns root)]/\l=[])\/(cO X ns root=0/\∃ (N:qI X ns) (G:WG) (V:WV),v=.tuple #[vP G.w,.int .i64 0]/\l=[wA G fs xs root N.1 V []]/\jK β' G.Z xs)):=
  cq.Jk fun β1 _ ⟨K,hG⟩=>cq.QG fun Ei hL=>by
    obtain⟨F,h1,h2⟩:=hL.get 0 rfl
    obtain⟨F',h1',h2'⟩:=hL.get 1 rfl
    exact O3 B cp (hG.le hL.le) hB bf ba (cM.j9 h1 h2 rfl) lV (cM.j9 h1' h2' rfl) hab
theorem Na (h0:cO X ns root=0) {Bf Ba:Option Addr} (B:Option Addr) (cp:Nat) (hB:fW ns 1048576) (bf ba:Nat) (lV:gq fs 2097152) (hab:iO xs 1048576) :
    Spec Tryz.prog β 37 (M9 B ns.length cp root X Bf fs.length bf Ba xs.length ba) (newP β B ns Bf bf fs Ba ba xs) (fun v l=>∃ (N:qI X ns) (G:WG) (V:WV),v=.tuple #[vP G.w,.int .i64 0]/\l=[.abs (kD β (fun β'=>jK β' G.Z xs)),wA G fs xs root N.1 V []]):=
  (cq.N5 (ι:=qI X ns×WG×WV) (vv:=fun x=>.tuple #[vP x.2.1.w,.int .i64 0]) (ll:=fun x=>[wA x.2.1 fs xs root x.1.1 x.2.2 []]) (Φ:=fun x β'=>jK β' x.2.1.Z xs)
    ((FQ (X:=X) B cp hB bf ba lV hab).mono (by
      rintro β' v l _ (⟨h,_⟩|⟨_,N,G,V,h1,h2,h3⟩)
      ·exact absurd h0 h
      exact⟨(N,G,V),h1,h2,h3⟩))).mono (by rintro v l ⟨⟨N,G,V⟩,h1,h2⟩;exact⟨N,G,V,h1,h2⟩)
theorem Lb (h0:¬ cO X ns root=0) {Bf Ba:Option Addr} (B:Option Addr) (cp:Nat) (hB:fW ns 1048576) (bf ba:Nat) (lV:gq fs 2097152) (hab:iO xs 1048576) :
    Spec Tryz.prog β 37 (M9 B ns.length cp root X Bf fs.length bf Ba xs.length ba) (newP β B ns Bf bf fs Ba ba xs) (fun v l=>v=.tuple #[.pointer none,.int .i64 (cO X ns root)]/\l=[]):=
  ((FQ (X:=X) B cp hB bf ba lV hab).mono (by
      rintro β' v l _ (⟨_,h1,h2⟩|⟨h,_⟩)
      ·exact⟨h1,h2⟩
      exact absurd h h0)).QH
end e
end
end Go.Proofs.YtidjcblbdmfalaaGreat
