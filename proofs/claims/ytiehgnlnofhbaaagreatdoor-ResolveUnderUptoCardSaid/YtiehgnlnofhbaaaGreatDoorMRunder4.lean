/-
  PROVED HERE: lemmas and contracts of functions (texts of this repo, joined; what the claim does not use is left out): H6, ShelfP, As, Rs, GOk, Nw, Wn, WD, H7, Vg, H8, H9, Vh, HD, H10, H11, H12, Lw, LA, Lc, HW, Og, LC, Oh, Wm.
  CONDITIONS: as the theorems say.
-/
import Derived.Test.YtiehgnlnofhbaaaGreatDoorMRunder3
import Derived.Shelf.Strings.Split
import Derived.Test.YtiehgnlnofhbaaaGreatDoorProg
import Derived.Laws.IdiomStrings
import Derived.Lib.SplitLaws
set_option maxRecDepth 100000
set_option maxHeartbeats 4000000
namespace Go.Proofs.YtiehgnlnofhbaaaGreatDoor
section
open Go.RowKit Go.Maps bC aE
attribute [local irreducible] ak aW af aj
abbrev Wv (S:aI) (L:HL) (k:Nat):=(.abs (aH (kZ (ct S.O L) k bV.none)):HP)
abbrev Us (A1:Option Addr) (S:aI) (k:Nat) (bs:List UInt8) (c2:Nat):=(.abs (aK 5 1 A1 (((obj S.O k).data++bs.take (bA S.X bs.length)).length) c2 (cM ((obj S.O k).data++bs.take (bA S.X bs.length)))):HP)
abbrev Nq (f:Nat) (m:Nat) (t) (S:aI) (L:HL) (k:Nat) (R:bV):=([pF f m t S.X,pI m L S.idx,pT t S.X.cH S.aD L S.us,pO S.O L,Wv S L k,pE S.O L,.abs R]:List HP)
theorem Nr {β:Bs} (S:aI) (L:HL) (f m t:Nat) (hI:Inv S) (k:Nat) (hk:Live S.idx ⟨k,1⟩) (A:Option Addr) (c:Nat) (bs:List UInt8) (hA:bS β A bs) (hbl:bs.length<=1099511627776) (hbc:bs.length<=c) :
    Spec Tryz.prog β 199 #[vP f,vP (L.b k),.slice A (bs.length) (c)] (pA f m t L S) (fun v l=>∃ L2,v=.tuple #[vI (d9 S k bs).1,vI (d9 S k bs).2.1]/\l=(pA f m t L2 ((d9 S k bs).2.2))):=by
 have hX:=hI.hX
 have hkk:(obj S.O k).kind=1:=hI.kind hk
 have ZV:((obj S.O k).data.length:Int)<=S.X.used:=hI.VI hk
 have hcB:=hI.cB
 refine Spec.enter Tryz.func199 rfl Tryz.ntmps199 (Nat.le_of_ble_eq_true rfl) (fun R=>?_)
 refine SR (gK 2 [] [] ?_)
 refine NN (af.seq (SR (gK 3 [(12,.bool (decide ((((bs.length:Nat):Int):Int)=(0:Int))))] [] ?_)))
 refine NN (af.aV (p:=(((bs.length:Nat):Int):Int)=(0:Int)) (fun _=>by kernel_rfl) (fun h12=>?_) (fun h12=>?_))
 ·have he:bs=[]:=List.eq_nil_of_length_eq_zero (by omega)
  refine SR (gK 2 [(6,vI 0),(7,vI 0)] [] ?_)
  refine NN (af.ret (aj.aq ?_))
  exact RT (.tuple #[vI 0,vI 0]) [0,1,2,3,4,5,6] (⟨L,by rw [show d9 S k bs=(0,0,S) from if_pos he]<;>exact⟨rfl,rfl⟩⟩)
 have hlen:0 < bs.length:=by omega
 refine af.skip (NX (af.seq (af.eP (by kernel_rfl) (by kernel_rfl) ?_)))
 refine gQ 11 [(8,vI (S.X.cB - S.X.used))] [(4,a_ 0 f),(8,a_ 0 f),(9,p_ ⟨[],none,none,none,some (vI (S.X.cB - S.X.used))⟩ [(Value.int .i64 (IntKind.wrap .i64 (S.X.cB - S.X.used)))=(.int .i64 (S.X.cB - S.X.used))] ⟨bB (by omega) (by omega) (by omega),trivial⟩)] ?_
 refine NQ (NX (af.seq (SR ?_)))
 refine gK 2 [(24,.bool (decide ((S.X.cB - S.X.used:Int)<=(0:Int))))] [] ?_
 refine NN (af.aV (p:=(S.X.cB - S.X.used:Int)<=(0:Int)) (fun _=>by kernel_rfl) (fun x5=>?_) (fun x5=>?_))
 ·refine SR (gK 2 [(6,vI 0),(7,vI 176)] [] ?_)
  refine NN (af.ret (aj.aq ?_))
  exact RT (.tuple #[vI 0,vI 176]) [0,1,2,3,4,5,6] (⟨L,by rw [show d9 S k bs=(0,176,S) from (if_neg (fun e=>by rw [e] at hlen;exact absurd hlen (by simp))).trans (if_pos x5)]<;>exact⟨rfl,rfl⟩⟩)
 refine af.skip (NX (SR (gK 4 [(28,vI (min ((bs.length:Nat):Int) (S.X.cB - S.X.used)))] [(3,p_ ⟨[],none,none,none,some (vI (min ((bs.length:Nat):Int) (S.X.cB - S.X.used)))⟩ [(Value.int .i64 (if S.X.cB - S.X.used < ((bs.length:Nat):Int) then S.X.cB - S.X.used else ((bs.length:Nat):Int)))=(.int .i64 (min ((bs.length:Nat):Int) (S.X.cB - S.X.used)))] ⟨congrArg (Value.int .i64) (QV _ _),trivial⟩)] ?_)))
 refine ak.slot 28 (.int .i64 (min ((bs.length:Nat):Int) (S.X.cB - S.X.used))) (.int .i64 ↑(bA S.X bs.length)) (fun _=>by kernel_rfl) (congrArg (Value.int .i64) (MW (by omega))) ?_
 refine gK 1 [(9,vI ↑(bA S.X bs.length))] [] ?_
 refine NN (af.seq ?_)
 have hwl:=MX (X:=S.X) (n:=bs.length) (by omega)
 refine af.mem (dw:=(Nq f m t S L k R++[.abs (aK 5 1 (L.dA k) ((obj S.O k).data.length) (L.dC k) (cM (obj S.O k).data))])) (fun w hS=>hS.Mt (i:=4) (k:=k) rfl hkk) ?_
 refine af.cA (S:=(Nq f m t S L k R)) [0,1,2,3,4,5,6,7,8,9,10,11] 8 [0,1,2,3,4,5,6] (by kernel_rfl) (by kernel_rfl) rfl (by kernel_rfl) ?_
 refine gR 0 [8,9,10,11] [(0,vP f),(1,vP (L.b k)),(9,vI ↑(bA S.X bs.length)),(29,vP (L.b k)),(33,.slice (L.dA k) ((obj S.O k).data.length) ((L.dC k))),(36,.slice A ((bA S.X bs.length)) (c))] [0,1,2,3,4,5,6,7] [(4,v_ 3 (Hj L hkk)),(7,p_ ⟨[],some (bA S.X bs.length),none,none,none⟩ [(((bA S.X bs.length):Nat):Int)=(((bA S.X bs.length):Nat):Int),(bA S.X bs.length)<=c] ⟨rfl,by omega,trivial⟩)] ?_
 refine aS.cut (ι:=(Option Addr)×Nat) (fr':=fun ((A1,c2):(Option Addr)×Nat)=>[(0,vP f),(1,vP (L.b k)),(9,vI ↑(bA S.X bs.length)),(29,vP (L.b k)),(37,.slice A1 (((obj S.O k).data++bs.take (bA S.X bs.length)).length) (c2))]) (hp':=fun ((A1,c2):(Option Addr)×Nat)=>(Nq f m t S L k R++[Us A1 S k bs c2])) [0,1,2,3,4,5,6] rfl rfl ?_ rfl (fun _=>by kernel_rfl) ?_
 ·refine ak.append 7 (d:=(some 37)) (t:=86) (e:=5) (z:=.int .u8 0) (size:=1) (bytes:=1) (n:=(obj S.O k).data.length) (cap:=(L.dC k)) (A:=(L.dA k)) (xs:=(cM (obj S.O k).data)) (s:=(.tmp 33)) (x:=(.tmp 36)) (ats:=#[86,86]) (A':=A) (m:=(bA S.X bs.length)) (c':=c) (news:=(cM (bs.take (bA S.X bs.length)))) (fun _=>by kernel_rfl) rfl (by kernel_rfl) (fun _=>by kernel_rfl) (fun _=>by kernel_rfl) Tryz.underlying86 (by kernel_rfl) rfl (by decide) (by rw [wD,List.length_take,Nat.min_eq_left hwl.1,Nat.mul_one]) (r9 (bs.take (bA S.X bs.length))) ((hA.take (bA S.X bs.length)).src) (by unfold maxLen;omega) (by omega) (fun A1 c2=>?_)
  refine ak.dI 7 (p:=.abs (aK 5 1 A1 (((obj S.O k).data.length)+(bA S.X bs.length)) c2 ((cM (obj S.O k).data)++(cM (bs.take (bA S.X bs.length)))))) (p':=.abs (aK 5 1 A1 (((obj S.O k).data++bs.take (bA S.X bs.length)).length) c2 (cM ((obj S.O k).data++bs.take (bA S.X bs.length))))) (by kernel_rfl) (by rw [KO,List.length_append,List.length_take,Nat.min_eq_left hwl.1]) ?_
  refine ak.slot 37 (.slice A1 (((obj S.O k).data.length)+(bA S.X bs.length)) (c2)) (.slice A1 (((obj S.O k).data++bs.take (bA S.X bs.length)).length) (c2)) (fun _=>by kernel_rfl) (by rw [List.length_append,List.length_take,Nat.min_eq_left hwl.1]) ?_
  refine NL ?_
  exact MD (A1,c2) [0,1,9,29,37] [0,1,2,3,4,5,6,7]
 rintro⟨A1,c2⟩
 refine aS.cut (ι:=Unit) (fr':=fun (_:Unit)=>[(0,vP f),(1,vP (L.b k)),(9,vI ↑(bA S.X bs.length)),(37,.slice A1 (((obj S.O k).data++bs.take (bA S.X bs.length)).length) (c2)),(38,vP (L.b k))]) (hp':=fun (_:Unit)=>(Nq f m t S L k R++[Us A1 S k bs c2])) [0,1,2,3,4,5,6] rfl rfl ?_ rfl (fun _=>by kernel_rfl) ?_
 ·refine gK 1 [(38,vP (L.b k))] [] ?_
  refine NL ?_
  exact MD () [0,1,9,37,38] [0,1,2,3,4,5,6,7]
 rintro _
 refine aS.cut (ι:=Unit) (fr':=fun (_:Unit)=>[(0,vP f),(1,vP (L.b k)),(9,vI ↑(bA S.X bs.length)),(37,.slice A1 (((obj S.O k).data++bs.take (bA S.X bs.length)).length) (c2)),(39,.pointer (some ⟨(L.b k),9,none⟩))]) (hp':=fun (_:Unit)=>(Nq f m t S L k R++[Us A1 S k bs c2])) [0,1,2,3,4,5,6] rfl rfl ?_ rfl (fun _=>by kernel_rfl) ?_
 ·refine gK 1 [(39,.pointer (some ⟨(L.b k),9,none⟩))] [] ?_
  refine NL ?_
  exact MD () [0,1,9,37,39] [0,1,2,3,4,5,6,7]
 rintro _
 refine aS.last rfl rfl ?_
 refine ak.mem (fun w hS=>hS.Tr (i:=3) (k:=k) rfl (by rw [hkk];decide) (rI (hkk)) (congrArg si (hkk))) ?_
 refine gC 1 [] [(0,a_ 8 (L.b k))] [(8,[(9,.slice A1 (((obj S.O k).data++bs.take (bA S.X bs.length)).length) (c2))])] ?_
 obtain⟨L2,hL2⟩:∃ L2:HL,L2=L.data k A1 c2:=⟨_,rfl⟩
 refine ak.mem (dw:=[.abs (aH (bR (aO S.O k (fun o=>{ o with data:=o.data++bs.take (bA S.X bs.length) })) L2)),.blk f [vI (S.X.cN),vI (S.X.cB),vI (S.X.cH),vI (S.X.cS),vI (S.X.cZ),.map (some m),vP t,vI (S.X.last),vI (S.X.ah),vI (S.X.used)] 154,.abs (aN Tryz.prog 3 m (bE (bI L S.idx)) S.idx.length),.abs (dV 212 t S.X.cH S.aD (bI L S.us)),.abs (aH (kZ (ct S.O L) k bV.none)),.abs (aH (dg S.O L)),.abs R,.abs (aK 5 1 A1 (((obj S.O k).data++bs.take (bA S.X bs.length)).length) c2 (cM ((obj S.O k).data++bs.take (bA S.X bs.length))))]) (fun w hS=>hS.TP hL2 (f:=(fun o=>{ o with data:=o.data++bs.take (bA S.X bs.length) })) (i:=3) (j:=8) (ix:=[0,1,2,4,5,6,7]) rfl rfl (by kernel_rfl) rfl (by show (obj S.O k).kind≠0;rw [hkk];decide) ((rI (L:=L2) (k:=k) (o:=(fun o=>{ o with data:=o.data++bs.take (bA S.X bs.length) }) (obj S.O k)) hkk).trans (by rw [JQ hL2,JR hL2]<;>rfl)) (by show si (obj S.O k).kind=_;rw [hkk]<;>rfl)) ?_
 refine ak.mem (dw:=[pD (aO S.O k (fun o=>{ o with data:=o.data++bs.take (bA S.X bs.length) })) L2,pO (aO S.O k (fun o=>{ o with data:=o.data++bs.take (bA S.X bs.length) })) L2,pF f m t S.X,pI m L S.idx,pT t S.X.cH S.aD L S.us,pE S.O L,.abs R]) (fun w hS=>hS.TQ hL2 (f:=(fun o=>{ o with data:=o.data++bs.take (bA S.X bs.length) })) (i:=4) (j:=7) (ix:=[0,1,2,3,5,6]) rfl rfl (by kernel_rfl) rfl hkk rfl rfl) ?_
 refine ak.eZ [(3,.abs (aN Tryz.prog 3 m (bE (bI L2 S.idx)) S.idx.length)),(4,.abs (dV 212 t S.X.cH S.aD (bI L2 S.us))),(5,.abs (aH (dg (aO S.O k (fun o=>{ o with data:=o.data++bs.take (bA S.X bs.length) })) L2)))] (fun w hS=>by rw [GU hL2,GU hL2,show dg (aO S.O k (fun o=>{ o with data:=o.data++bs.take (bA S.X bs.length) })) L2=dg S.O L from (zR (O:=S.O) (k:=k) (f:=(fun o=>{ o with data:=o.data++bs.take (bA S.X bs.length) })) rfl rfl).trans (PB hL2)];exact hS) ?_
 have Li:(obj (aO S.O k (fun o=>{ o with data:=o.data++bs.take (bA S.X bs.length) })) k).kind=1:=(ox (f:=(fun o=>{ o with data:=o.data++bs.take (bA S.X bs.length) })) (fun _=>rfl)).trans hkk
 have hbk:L2.b k=L.b k:=MY hL2
 generalize cT:(aO S.O k (fun o=>{ o with data:=o.data++bs.take (bA S.X bs.length) }))=ef at Li ⊢
 refine NL (aj.np (NX (SR ?_)))
 refine gK 1 [(40,vP (L.b k))] [] ?_
 refine ak.slot 40 (vP (L.b k)) (vP (L2.b k)) (fun _=>by kernel_rfl) (by rw [hbk]) ?_
 refine gK 8 [(45,.agg #[vI (S.X.cS),vI (S.X.cZ)]),(48,.pointer (some ⟨(L2.b k),4,none⟩))] [(4,A_ 2 f 2)] ?_
 refine Nh 1 [(5,1),(0,2)] k S.X.cS S.X.cZ Li (fun eT dL=>?_)
 have y7:=ku dL Li
 refine NS (gC 9 [] [(3,a_ 2 f),(5,p_ ⟨[],none,none,none,some (vI (S.X.used+(((bA S.X bs.length):Nat):Int)))⟩ [(Value.int .i64 (IntKind.wrap .i64 (S.X.used+(((bA S.X bs.length):Nat):Int))))=(.int .i64 (S.X.used+(((bA S.X bs.length):Nat):Int)))] ⟨bB (by omega) (by omega) (by omega),trivial⟩),(8,a_ 2 f)] [(2,[(9,vI (S.X.used+(((bA S.X bs.length):Nat):Int)))])] ?_)
 refine NS (gK 3 [(6,vI ↑(bA S.X bs.length)),(7,vI 0)] [] ?_)
 refine NN (af.ret ?_)
 exact RT (l:=[pF f m t { S.X with used:=S.X.used+(((bA S.X bs.length):Nat):Int) },pI m L2 S.idx,pT t S.X.cH S.aD L2 S.us,pO eT L2,pD eT L2,pE eT L2]) (.tuple #[vI ↑(bA S.X bs.length),vI 0]) [2,3,4,1,0,5,6] (⟨L2,by subst dL;subst cT;rw [show d9 S k bs=_ from (if_neg (fun e=>by rw [e] at hlen;exact absurd hlen (by simp))).trans (if_neg x5)];exact⟨rfl,by rw [yC]⟩⟩)
end
end Go.Proofs.YtiehgnlnofhbaaaGreatDoor
section
namespace Go.Proofs
open Go.Shelf
def Tryz.lays146_ren:Go.Shelf.Ren:=⟨fun|146=>231|221=>232|268=>233|138=>234|143=>235|195=>236|197=>219|218=>237|219=>238|260=>221|217=>122|225=>137|224=>136|267=>239|266=>129|314=>240|n=>n,fun|9=>9|31=>35|3=>3|4=>4|0=>0|105=>329|21=>21|5=>5|46=>193|119=>333|139=>336|138=>335|146=>351|51=>235|n=>n,fun|1=>1|3=>5|4=>6|n=>n⟩
theorem Tryz.lays146:Go.Proofs.Lays.n146 Tryz.prog Tryz.lays146_ren:={
  mixed:=by kernel_rfl
  f138:=Tryz.func234.trans (congrArg some (by kernel_rfl))
  f143:=Tryz.func235.trans (congrArg some (by kernel_rfl))
  f146:=Tryz.func231.trans (congrArg some (by kernel_rfl))
  f195:=Tryz.func236.trans (congrArg some (by kernel_rfl))
  f197:=Tryz.func219.trans (congrArg some (by kernel_rfl))
  f217:=Tryz.func122.trans (congrArg some (by kernel_rfl))
  f218:=Tryz.func237.trans (congrArg some (by kernel_rfl))
  f219:=Tryz.func238.trans (congrArg some (by kernel_rfl))
  f221:=Tryz.func232.trans (congrArg some (by kernel_rfl))
  f224:=Tryz.func136.trans (congrArg some (by kernel_rfl))
  f225:=Tryz.func137.trans (congrArg some (by kernel_rfl))
  f260:=Tryz.func221.trans (congrArg some (by kernel_rfl))
  f266:=Tryz.func129.trans (congrArg some (by kernel_rfl))
  f267:=Tryz.func239.trans (congrArg some (by kernel_rfl))
  f268:=Tryz.func233.trans (congrArg some (by kernel_rfl))
  f314:=Tryz.func240.trans (congrArg some (by kernel_rfl))
  t0:=Tryz.underlying0
  a0:=Tryz.isAgg0
  z0:=Tryz.sizeOf0
  v0:=Tryz.zeroValue0
  t3:=Tryz.underlying3
  a3:=Tryz.isAgg3
  z3:=Tryz.sizeOf3
  v3:=Tryz.zeroValue3
  t4:=Tryz.underlying4
  a4:=Tryz.isAgg4
  z4:=Tryz.sizeOf4
  v4:=Tryz.zeroValue4
  t5:=Tryz.underlying5
  a5:=Tryz.isAgg5
  z5:=Tryz.sizeOf5
  v5:=Tryz.zeroValue5
  t9:=Tryz.underlying9
  a9:=Tryz.isAgg9
  z9:=Tryz.sizeOf9
  v9:=Tryz.zeroValue9
  t21:=Tryz.underlying21
  a21:=Tryz.isAgg21
  z21:=Tryz.sizeOf21
  v21:=Tryz.zeroValue21
  t31:=Tryz.underlying35
  a31:=Tryz.isAgg35
  z31:=Tryz.sizeOf35
  v31:=Tryz.zeroValue35
  t46:=Tryz.underlying193
  a46:=Tryz.isAgg193
  z46:=Tryz.sizeOf193
  v46:=Tryz.zeroValue193
  t51:=Tryz.underlying235
  a51:=Tryz.isAgg235
  z51:=Tryz.sizeOf235
  v51:=Tryz.zeroValue235
  t105:=Tryz.underlying329
  a105:=Tryz.isAgg329
  z105:=Tryz.sizeOf329
  v105:=Tryz.zeroValue329
  t119:=Tryz.underlying333
  a119:=Tryz.isAgg333
  z119:=Tryz.sizeOf333
  t138:=Tryz.underlying335
  a138:=Tryz.isAgg335
  z138:=Tryz.sizeOf335
  v138:=Tryz.zeroValue335
  t139:=Tryz.underlying336
  a139:=Tryz.isAgg336
  z139:=Tryz.sizeOf336
  v139:=Tryz.zeroValue336
  t146:=Tryz.underlying351
  a146:=Tryz.isAgg351
  z146:=Tryz.sizeOf351
  v146:=Tryz.zeroValue351
  g1:=by kernel_rfl
  g3:=by kernel_rfl
  g4:=by kernel_rfl }
open Go.RowKit Go.Lib in
theorem Tryz.strings_Split (s sep:ByteArray) (m:Int) (w:World) (hs:s.size < 4294967281) (hm:w.cell? ⟨1,0,none⟩=some (.int .i64 m)) (h1:1<=sep.size) :
    Calls Tryz.prog 231 #[.string s,.string sep] w fun e w'=>
      e=.returned (.slice (some ⟨w.heap.size,0,none⟩) (Lib.countB s sep+1) (Lib.countB s sep+1))/\w'=w.alloc (.cells ((Lib.splitB sep 0 (Lib.countB s sep) s).map Value.string).toArray 9):=Any.strings_Split Tryz.lays146 (by kernel_rfl) s sep m w hs hm h1
end Go.Proofs
end
namespace Go.Proofs.YtiehgnlnofhbaaaGreatDoor
section
open Go.RowKit Go.Maps bC aE
def dQ (β:Bs):Prop:=∃ m,Rd β ⟨1,0,none⟩ (.int .i64 m)
theorem dQ.le {β β':Bs} (h:dQ β) (hle:β.le β'):dQ β':=h.imp fun _ h=>h.le hle
theorem Db (s:ByteArray):(jF s).length=Lib.countB s slash+1:=Lib.splitB_all slash (by decide) 0 _ s rfl
theorem zj (s:ByteArray):Lib.countB s slash<=s.size:=Lib.countB_le slash (by decide) _ s (Nat.le_refl _)
theorem AU (sep:ByteArray):∀ (k:Nat) (s:ByteArray),∀ p∈Lib.splitB sep 0 k s,p.size<=s.size
  | 0,s,p,hp=>by
    rw [Lib.splitB_zero] at hp
    rw [List.mem_singleton.1 hp];exact Nat.le_refl _
  | k+1,s,p,hp=>by
    rcases Lib.indexB_cases s sep with hix|⟨i,hix,_⟩
    ·rw [Lib.splitB_miss sep 0 (k+1) s hix] at hp
     rw [List.mem_singleton.1 hp];exact Nat.le_refl _
    rw [Lib.splitB_hit sep 0 k s i hix] at hp
    rcases List.mem_cons.1 hp with rfl|hp
    ·rw [ByteArray.size_extract];omega
    have:=AU sep k _ p hp
    rw [ByteArray.size_extract] at this
    omega
theorem Jo {s p:ByteArray} (hp:p∈jF s):p.size<=s.size:=AU slash _ s p hp
def gZ (ps:List ByteArray):List Value:=ps.map Value.string
theorem P4 {β:Bs} (hg:dQ β) (s:ByteArray) (hs:s.size<=1048576):Spec Tryz.prog β 231 #[.string s,.string ⟨#[47]⟩] [] (fun v l=>∃ b,v=.slice (some ⟨b,0,none⟩) (jF s).length (jF s).length/\l=[.abs (aK 9 1 (some ⟨b,0,none⟩) (jF s).length (jF s).length (gZ (jF s)))]):=
  Spec.Cb fun W hW=>by
    obtain⟨m,hg⟩:=hg
    have hm:W.cell? ⟨1,0,none⟩=some (.int .i64 m):=(World.cell?_of_block (w:=β.w0) (hW.old _ hg.1).2).trans hg.2
    have hl:=Db s
    have hc:=zj s
    refine (Tryz.strings_Split s slash m W (by omega) hm (by decide)).mono ?_
    rintro e w' ⟨rfl,rfl⟩
    refine⟨_,_,rfl,⟨W.heap.size,by rw [hl],rfl⟩,(Keeps.refl _ _).alloc _,fun k=>k=W.heap.size,⟨⟨?_,.inr ⟨W.heap.size,(jF s).length,(gZ (jF s)).toArray,rfl,Nat.zero_le _,?_,Nat.le_refl _,?_,?_,?_⟩⟩,fun k=>?_⟩,fun k hk=>Nat.le_of_eq hk.symm⟩
    ·simp [gZ]
    ·show (W.heap.push _)[W.heap.size]?=_
     simp [gZ,jF]
    ·unfold maxLen;omega
    ·first|(simp [gZ];done)|(simp [gZ];exact List.take_of_length_le (by simp))
    ·first|(simp [gZ];done)|(simp [gZ];exact List.take_of_length_le (by simp))
    simp [Value.ownBlock,eq_comm]
theorem Ns {β:Bs} {ps:List ByteArray} (hg:dQ β) (s:ByteArray) (hs:s.size<=1048576) (hp:ps=jF s):Spec Tryz.prog β 231 #[.string s,.string ⟨#[47]⟩] [] (fun v l=>∃ b,v=.slice (some ⟨b,0,none⟩) ps.length ps.length/\l=[.abs (aK 9 1 (some ⟨b,0,none⟩) ps.length ps.length (gZ ps))]):=by
  subst hp;exact P4 hg s hs
def pc (ps:List ByteArray) (j:Nat):ByteArray:=ps.getD j ⟨#[]⟩
theorem Nt {ps:List ByteArray} {j:Nat} (hj:j < ps.length):pc ps j∈ps:=by
  unfold pc
  rw [List.getD_eq_getElem?_getD,List.getElem?_eq_getElem hj]
  exact List.getElem_mem _
theorem xq {ps:List ByteArray} {j:Nat} (hj:j < ps.length):(gZ ps)[j]?=some (.string (pc ps j)):=by
  unfold gZ pc
  rw [List.getElem?_map,List.getD_eq_getElem?_getD,List.getElem?_eq_getElem hj]
  rfl
theorem pz {ps:List ByteArray} {j:Nat} (hj:j < ps.length):ps.drop j=pc ps j::ps.drop (j+1):=by
  unfold pc
  rw [List.getD_eq_getElem?_getD,List.getElem?_eq_getElem hj]
  exact List.drop_eq_getElem_cons hj
theorem Hz {ps:List ByteArray}:(∀ p∈ps,bF p)↔∀ j,j < ps.length->bF (pc ps j):=by
  refine⟨fun h j hj=>h _ (Nt hj),fun h p hp=>?_⟩
  obtain⟨j,hj,rfl⟩:=List.getElem_of_mem hp
  have:=h j hj
  unfold pc at this
  rw [List.getD_eq_getElem?_getD,List.getElem?_eq_getElem hj] at this
  exact this
theorem E8 {n:ByteArray} (h:bF n):n.size<=1048576:=Nat.le_trans h.2.1 (by decide)
theorem HE {O:bW}:∀ {ps:List ByteArray} {d:Nat} {e:Int},jJ O d ps=.error e->e≠0
  | [],d,e,h=>by cases h;decide
  | [p],d,e,h=>by
    unfold jJ at h
    split at h
    ·cases h;decide
    cases h
  | p::q::r,d,e,h=>by
    unfold jJ at h
    split at h
    ·cases h;decide
    split at h
    ·cases h;decide
    split at h
    ·cases h;decide
    exact HE h
theorem E9 {S:aI} {d:Nat} (hI:Inv S) (hd:Live S.idx ⟨d,2⟩) (path:ByteArray):(∃ e,jC S.O d path=.error e/\e≠0)\/∃ d' name,jC S.O d path=.ok (d',name)/\Live S.idx ⟨d',2⟩/\(obj S.O d').gone=false/\bF name:=by
  cases h:jC S.O d path with
  | error e=>
    refine .inl ⟨e,rfl,?_⟩
    unfold jC at h
    split at h
    ·exact HE h
    cases h;decide
  | ok x=>
    obtain⟨d',name⟩:=x
    exact .inr ⟨d',name,rfl,z8 hI.toInv0 hd h⟩
section way
variable {O:bW} {d:Nat} {ps:List ByteArray} {j:Nat}
theorem Fa (hj:j+1=ps.length):jJ O d (ps.drop j)=if (obj O d).gone=true then .error 170 else .ok (d,pc ps j):=by
  rw [pz (by omega),List.drop_of_length_le (by omega)]
  rfl
theorem uK (hj:j+1 < ps.length):jJ O d (ps.drop j)=match aT (pc ps j) (obj O d).ah with
    | none=>.error 170
    | some t=>if t.kind=3 then .error 174 else if t.kind=1 then .error 173 else jJ O t.k (ps.drop (j+1)):=by
  rw [pz (j:=j) (by omega),pz (j:=j+1) hj]
  rfl
end way
section bytes
variable {P:Program} {β:Bs} {N:dD} {ops:Array Oper} {k:Nat} {fr:Fr} {hps:List HP} {Q:Post} {d:Option Tmp} {s:ByteArray}
theorem Bs.ok.Sk {β:Bs} {w:World} (h:β.ok w) (F:Nat->Prop):β.le ⟨fun k=>β.O k\/F k,w⟩:=⟨fun _ h=>.inl h,h.os,h.tape,h.output,h.size,fun k hk=>h.old k hk⟩
theorem ak.HF {t1 t2 e:TypeId} {x:Operand} (hop:∀ junk,fK N junk ops fr k=some (.convert t1 t2 x,d)) (hx:∀ junk,dm N fr junk x=.string s) (h1:P.underlying t1=some .string) (h2:P.underlying t2=some (.slice e)) (h3:P.underlying e=some (.int .u8))
    (K:∀ b cap,s.data.toList.length<=cap->ak P β N ops (k+1) (cY fr d (.slice (some ⟨b,0,none⟩) s.data.toList.length cap)) (hps++[.abs (lE β (fun β'=>bS β' (some ⟨b,0,none⟩) s.data.toList))]) Q):ak P β N ops k fr hps Q:=by
  refine ak.Bo (ι:={ p:Nat×Nat // s.data.toList.length<=p.2 }) (v:=fun p=>.slice (some ⟨p.1.1,0,none⟩) s.data.toList.length p.1.2) (hp':=fun p=>hps++[.abs (lE β (fun β'=>bS β' (some ⟨p.1.1,0,none⟩) s.data.toList))]) hop (fun o junk w ho hS=>?_) (fun p=>K p.1.1 p.1.2 p.2)
  have hr:=run_bytes_of_string (P:=P) w t1 t2 e s h1 h2 h3
  have hsz:s.data.toList.length=s.size:=Array.length_toList ..
  generalize hw:(w.drew.alloc (.cells (bytesRow s (grownCap w s.size 0 e)) e ((bytesRow s (grownCap w s.size 0 e)).size,(bytesRow s (grownCap w s.size 0 e)).size+1)))=w' at hr
  have hk:Keeps (fun _=>False) w w':=by rw [← hw];exact (Keeps.refl _ _).drew.alloc _
  have hok:=hS.1.keeps hk (fun _ _ h=>h)
  have hheap:w'.heap[w.heap.size]?=some (.cells (bytesRow s (grownCap w s.size 0 e)) e ((bytesRow s (grownCap w s.size 0 e)).size,(bytesRow s (grownCap w s.size 0 e)).size+1)):=by
    rw [← hw]
    show (w.heap.push _)[w.heap.size]?=_
    simp
  have hsize:w.heap.size < w'.heap.size:=by
    have:=(Array.getElem?_eq_some_iff.1 hheap).1
    exact this
  refine⟨⟨(w.heap.size,grownCap w s.size 0 e),by rw [hsz];exact grownCap_ge w s.size 0 e⟩,w',.inl ?_,hS.new (F:=fun k=>k=w.heap.size) ?_ hk (fun k e=>Nat.le_of_eq e.symm)⟩
  ·obtain⟨dst,op,type,pos,after,guard⟩:=o
   cases ho
   have hr2:(convert t1 t2 (.string s)).run P w=.ok (.slice (some ⟨w.heap.size,0,none⟩) s.data.toList.length (grownCap w s.size 0 e)) w':=by rw [hr,hsz]
   simp only [execOp,hx]
   simp [hr2,Result.andThen]
  refine⟨⟨fun k=>β.O k\/k=w.heap.size,w'⟩,hok.Sk _,fun _ h=>h,fun _ h=>.inr h,Nat.le_refl _,fun k hk=>⟨by rw [hk];exact hsize,rfl⟩,fun j v hj=>⟨rfl,.inr rfl,?_⟩⟩
  show World.cell? w' ⟨w.heap.size,0+j,none⟩=some v
  have hj2:=bq hj
  unfold World.cell?
  rw [hheap]
  unfold cM at hj hj2
  rw [List.length_map] at hj2
  rw [List.getElem?_map,List.getElem?_eq_getElem hj2] at hj
  simp only [Option.map_some,Option.some.injEq] at hj
  subst hj
  unfold bytesRow
  rw [Nat.zero_add]
  simp only [Option.isSome_none,Bool.false_eq_true,if_false]
  have hj3:j < s.data.size:=by rw [← Array.length_toList];exact hj2
  rw [Array.getElem?_append_left (by simpa using hj3)]
  simp [wz]
  exact⟨_,Array.getElem?_eq_getElem hj3,rfl⟩
end bytes
theorem Dc {β:Bs} (S:aI) (L:HL) (f m t:Nat) (hI:Inv S) (k:Nat) (hk:Live S.idx ⟨k,1⟩) (A:Option Addr) (c:Nat) (bs:List UInt8) (hbl:bs.length<=1099511627776) (hbc:bs.length<=c) :
    Spec Tryz.prog β 199 #[vP f,vP (L.b k),.slice A bs.length c] (.abs (lE β (fun β'=>bS β' A bs))::pA f m t L S) (fun v l=>∃ L2,v=.tuple #[vI (d9 S k bs).1,vI (d9 S k bs).2.1]/\l=pA f m t L2 (d9 S k bs).2.2):=
  Spec.K6 fun _ _ hA=>Nr S L f m t hI k hk A c bs hA hbl hbc
def BR (L:HL):Except Int (Nat×ByteArray)->Value
  | .error e=>.tuple #[.pointer none,.string ⟨#[]⟩,.int .i64 e]
  | .ok (d,p)=>.tuple #[.pointer (some ⟨L.b d,0,none⟩),.string p,.int .i64 0]
end
section
open Go.RowKit Go.Maps bC aE
noncomputable section
abbrev fk (h:Int) (name:ByteArray):aB:=⟨2,h,0,name,⟨#[]⟩,none,0,[],0,0,0,0,0,0,0⟩
abbrev rT (h:Int) (name:ByteArray) (mode:Int):aB:=⟨4,h,0,name,⟨#[]⟩,none,0,[],mode,0,0,0,0,0,0⟩
abbrev eu (h:Int):aB:=⟨13,h,0,⟨#[]⟩,⟨#[]⟩,none,0,[],0,0,0,0,0,0,0⟩
structure Lm where
  S:aI
  n:Nat
  next:Int
  made:Bool
  code:Int
section
variable (fs:List bh) (xs:List bM) (root:Int)
def ck (S:aI) (n:Nat) (cur:Int) (part:ByteArray) (mode:Int):Lm:=
  let a:=aR fs xs root (n+1) S (fk cur part)
  if a.2.code=0 then ⟨a.1,n+1,a.2.answer,false,0⟩
  else if ¬ a.2.code=170\/mode < 0 then ⟨a.1,n+1,0,false,a.2.code⟩
  else
    let b:=aR fs xs root (n+2) a.1 (rT cur part mode)
    if ¬ b.2.code=0/\¬ b.2.code=171 then ⟨b.1,n+2,0,false,b.2.code⟩
    else
      let d:=aR fs xs root (n+3) b.1 (fk cur part)
      if d.2.code=0 then ⟨d.1,n+3,d.2.answer,decide (b.2.code=0),0⟩ else ⟨d.1,n+3,0,decide (b.2.code=0),d.2.code⟩
structure HM where
  S:aI
  n:Nat
  cur:Int
  own:Bool
  made:Int
  code:Int
  at_:Int
def mR (S:aI) (n:Nat) (cur:Int) (own:Bool) (made code at_:Int):HM:=
  if own=true then ⟨(aR fs xs root (n+1) S (eu cur)).1,n+1,0,false,made,code,at_⟩ else ⟨S,n,0,false,made,code,at_⟩
def fI (mode:Int):List ByteArray->Int->aI->Nat->Int->Bool->Int->HM
  | [],_,S,n,cur,own,made=>⟨S,n,cur,own,made,0,0⟩
  | p::r,i,S,n,cur,own,made=>
    let a:=ck fs xs root S n cur p mode
    let m2:=if a.made=true then made+1 else made
    if a.code=0 then if own=true then
      let b:=aR fs xs root (a.n+1) a.S (eu cur)
      if b.2.code=0 then fI mode r (i+1) b.1 (a.n+1) a.next true m2
      else mR fs xs root b.1 (a.n+1) a.next true m2 b.2.code i
    else fI mode r (i+1) a.S a.n a.next true m2
    else mR fs xs root a.S a.n cur own m2 a.code i
end
section
variable {fs:List bh} {xs:List bM} {root:Int} {S S2:aI} {c2:aB} {n:Nat} {cur mode made i:Int} {own:Bool} {p:ByteArray} {r:List ByteArray} {h:Int} {name:ByteArray}
theorem zk:fI fs xs root mode [] i S n cur own made=⟨S,n,cur,own,made,0,0⟩:=rfl
theorem rU (h:¬ (ck fs xs root S n cur p mode).code=0):fI fs xs root mode (p::r) i S n cur own made=mR fs xs root (ck fs xs root S n cur p mode).S (ck fs xs root S n cur p mode).n cur own (if (ck fs xs root S n cur p mode).made=true then made+1 else made) (ck fs xs root S n cur p mode).code i:=if_neg h
theorem uL (h:(ck fs xs root S n cur p mode).code=0) (ho:own=true) (h2:(aR fs xs root ((ck fs xs root S n cur p mode).n+1) (ck fs xs root S n cur p mode).S (eu cur)).2.code=0):fI fs xs root mode (p::r) i S n cur own made=fI fs xs root mode r (i+1) (aR fs xs root ((ck fs xs root S n cur p mode).n+1) (ck fs xs root S n cur p mode).S (eu cur)).1 ((ck fs xs root S n cur p mode).n+1) (ck fs xs root S n cur p mode).next true (if (ck fs xs root S n cur p mode).made=true then made+1 else made):=
  (if_pos h).trans ((if_pos ho).trans (if_pos h2))
theorem xu (h:(ck fs xs root S n cur p mode).code=0) (ho:own=true) (h2:¬ (aR fs xs root ((ck fs xs root S n cur p mode).n+1) (ck fs xs root S n cur p mode).S (eu cur)).2.code=0):fI fs xs root mode (p::r) i S n cur own made=mR fs xs root (aR fs xs root ((ck fs xs root S n cur p mode).n+1) (ck fs xs root S n cur p mode).S (eu cur)).1 ((ck fs xs root S n cur p mode).n+1) (ck fs xs root S n cur p mode).next true (if (ck fs xs root S n cur p mode).made=true then made+1 else made) (aR fs xs root ((ck fs xs root S n cur p mode).n+1) (ck fs xs root S n cur p mode).S (eu cur)).2.code i:=
  (if_pos h).trans ((if_pos ho).trans (if_neg h2))
theorem xw (h:(ck fs xs root S n cur p mode).code=0) (ho:¬ own=true):fI fs xs root mode (p::r) i S n cur own made=fI fs xs root mode r (i+1) (ck fs xs root S n cur p mode).S (ck fs xs root S n cur p mode).n (ck fs xs root S n cur p mode).next true (if (ck fs xs root S n cur p mode).made=true then made+1 else made):=
  (if_pos h).trans (if_neg ho)
theorem zl {k:Nat} {bs:List UInt8}:(d9 S k bs).2.2.us=S.us/\(d9 S k bs).2.2.aD=S.aD:=by
  unfold d9;(repeat' split)<;>exact⟨rfl,rfl⟩
theorem Sl {a:bM}:(cG S root a).2.us=S.us/\(cG S root a).2.aD=S.aD:=by
  unfold cG
  split
  ·exact⟨rfl,rfl⟩
  split
  ·exact⟨rfl,rfl⟩
  split
  ·split
   ·exact⟨rfl,rfl⟩
   unfold mo
   split
   ·unfold p8;split
    ·exact zl
    exact⟨rfl,rfl⟩
   split
   ·unfold fX;split<;>exact⟨rfl,rfl⟩
   split
   ·unfold fT;(repeat' split)<;>exact⟨rfl,rfl⟩
   split
   ·unfold fA;(repeat' split)<;>exact⟨rfl,rfl⟩
   split
   ·unfold fO;(repeat' split)<;>exact⟨rfl,rfl⟩
   split
   ·split
    ·exact⟨rfl,rfl⟩
    unfold bL;(repeat' split)<;>exact⟨rfl,rfl⟩
   unfold j5;split
   ·exact⟨rfl,rfl⟩
   split
   ·exact⟨rfl,rfl⟩
   split
   ·exact⟨rfl,rfl⟩
   exact zl
  exact⟨rfl,rfl⟩
theorem oO:∀ {xs:List bM} {S:aI},(eE root S xs).us=S.us/\(eE root S xs).aD=S.aD
  | [],_=>⟨rfl,rfl⟩
  | a::r,S=>by
    have h1:=Sl (S:=S) (root:=root) (a:=a)
    have h2:=oO (xs:=r) (S:=(cG S root a).2)
    exact⟨h2.1.trans h1.1,h2.2.trans h1.2⟩
theorem og {c:aB} (h1:c.op≠1) (h9:c.op≠9):aR fs xs root n S c=bK (eE root S (bn xs n)) c\/∃ e,(e=180\/e=176)/\aR fs xs root n S c=(if c.op=13 then (bK (eE root S (bn xs n)) c).1 else eE root S (bn xs n),cP c e):=by
  have hr:mq root c=c:=if_neg h1
  unfold aR
  rw [hr]
  unfold bD
  split
  ·exact .inr ⟨180,.inl rfl,rfl⟩
  split
  ·rename_i q;exact .inr ⟨176,.inr rfl,by rw [if_neg (by omega)]⟩
  split
  ·rename_i q;exact absurd q.2.1 h9
  exact .inl rfl
theorem Nu {O:bW} {us:Used Th} {need e:Int} (h':dJ O us h name need=.error e):e≠0:=by
  unfold dJ at h'
  (repeat' split at h')<;>(first|cases h'|skip)<;>decide
theorem Nv {O:bW} {us:Used Th} {c:aB} {e:Int} (h':fB O us c=.error e):e≠0:=by
  unfold fB at h'
  split at h'
  ·rename_i h2;cases h';exact Nu h2
  split at h'
  ·cases h';decide
  cases h'
theorem HT {S2:aI} {c2:aB} (e:bK S (fk h name)=(S2,c2)) :
    (c2.code=0/\∃ t,c2.answer=least S.us/\S2.us=ins (least S.us) t S.us/\S2.aD=max S.aD ((S.us.length:Int)+1))\/(c2.code≠0/\c2.answer=0/\S2=S):=by
  unfold bK at e
  rw [rf (c:={ fk h name with answer:=0,code:=230 }) rfl] at e
  unfold eV at e
  split at e
  ·rename_i h1;cases e;exact .inr ⟨Nv h1,rfl,rfl⟩
  split at e
  ·cases e;exact .inr ⟨by show (174:Int)≠0;decide,rfl,rfl⟩
  split at e
  ·cases e;exact .inr ⟨by show (173:Int)≠0;decide,rfl,rfl⟩
  rename_i t h1 h3 h2
  by_cases hl:(S.us.length:Int) < S.X.cH
  ·rw [jf hl] at e
   cases e
   exact .inl ⟨rfl,t,rfl,rfl,rfl⟩
  rw [jT hl] at e
  cases e
  exact .inr ⟨by show (130:Int)≠0;decide,rfl,rfl⟩
theorem vu {S2:aI} {c2:aB} (e:aR fs xs root n S (fk h name)=(S2,c2)) :
    (c2.code=0/\∃ t,c2.answer=least S.us/\S2.us=ins (least S.us) t S.us/\S2.aD=max S.aD ((S.us.length:Int)+1))\/(c2.code≠0/\c2.answer=0/\S2.us=S.us/\S2.aD=S.aD):=by
  have hu:=oO (root:=root) (S:=S) (xs:=bn xs n)
  rcases og (fs:=fs) (xs:=xs) (root:=root) (n:=n) (S:=S) (c:=fk h name) (by show (2:Int)≠1;decide) (by show (2:Int)≠9;decide) with h1|⟨k,hk,h1⟩
  ·rw [h1] at e
   rcases HT e with h|⟨h2,h3,h4⟩
   ·rw [hu.1,hu.2] at h;exact .inl h
   exact .inr ⟨h2,h3,by rw [h4];exact hu.1,by rw [h4];exact hu.2⟩
  rw [h1] at e
  cases e
  exact .inr ⟨by show k≠0;omega,rfl,hu.1,hu.2⟩
theorem HV {V:Type}:∀ (us:List (Int×V)) (h:Int),iq h (keys us)<=h+us.length
  | [],h=>by show h<=_;simp
  | p::r,h=>by
    show (if p.1=h then iq (h+1) (keys r) else h)<=_
    have:=HV r (h+1)
    rw [List.length_cons]
    split<;>omega
theorem HX (hI:Inv S) {S2:aI} {c2:aB} (e:aR fs xs root n S (fk h name)=(S2,c2)):(Lit.int .i64 c2.answer).wf=true:=by
  rcases vu e with ⟨_,t,h1,_⟩|⟨_,h1,_⟩
  ·rw [h1]
   have a1:=HV S.us 1
   have a2:=(least_le hI.usr (fun x hx=>(hI.sE x hx).1)).1
   have a3:=hI.CI
   have a4:=hI.cH
   unfold aE.least at a2 ⊢
   exact WalkArith.wf_i64 (by omega)
  rw [h1];rfl
attribute [local irreducible] aR
section ways
variable {S1 S2 S3:aI} {c1 c2 c3:aB}
theorem xA (e1:aR fs xs root (n+1) S (fk cur p)=(S1,c1)) (h1:c1.code=0):ck fs xs root S n cur p mode=⟨S1,n+1,c1.answer,false,0⟩:=by
  unfold ck;simp only [e1,if_pos h1]
theorem rV (e1:aR fs xs root (n+1) S (fk cur p)=(S1,c1)) (h1:¬ c1.code=0) (h2:¬ c1.code=170\/mode < 0):ck fs xs root S n cur p mode=⟨S1,n+1,0,false,c1.code⟩:=by
  unfold ck;simp only [e1,if_neg h1,if_pos h2]
theorem zm (e1:aR fs xs root (n+1) S (fk cur p)=(S1,c1)) (h1:¬ c1.code=0) (h2:¬ (¬ c1.code=170\/mode < 0)) (e2:aR fs xs root (n+2) S1 (rT cur p mode)=(S2,c2)) (h3:¬ c2.code=0/\¬ c2.code=171):ck fs xs root S n cur p mode=⟨S2,n+2,0,false,c2.code⟩:=by
  unfold ck;simp only [e1,e2,if_neg h1,if_neg h2,if_pos h3]
theorem tY (e1:aR fs xs root (n+1) S (fk cur p)=(S1,c1)) (h1:¬ c1.code=0) (h2:¬ (¬ c1.code=170\/mode < 0)) (e2:aR fs xs root (n+2) S1 (rT cur p mode)=(S2,c2)) (h3:¬ (¬ c2.code=0/\¬ c2.code=171)) (e3:aR fs xs root (n+3) S2 (fk cur p)=(S3,c3)) (h4:c3.code=0):ck fs xs root S n cur p mode=⟨S3,n+3,c3.answer,decide (c2.code=0),0⟩:=by
  unfold ck;simp only [e1,e2,e3,if_neg h1,if_neg h2,if_neg h3,if_pos h4]
theorem uM (e1:aR fs xs root (n+1) S (fk cur p)=(S1,c1)) (h1:¬ c1.code=0) (h2:¬ (¬ c1.code=170\/mode < 0)) (e2:aR fs xs root (n+2) S1 (rT cur p mode)=(S2,c2)) (h3:¬ (¬ c2.code=0/\¬ c2.code=171)) (e3:aR fs xs root (n+3) S2 (fk cur p)=(S3,c3)) (h4:¬ c3.code=0):ck fs xs root S n cur p mode=⟨S3,n+3,0,decide (c2.code=0),c3.code⟩:=by
  unfold ck;simp only [e1,e2,e3,if_neg h1,if_neg h2,if_neg h3,if_neg h4]
end ways
theorem HY:(ck fs xs root S n cur p mode).n<=n+3:=by
  unfold ck
  simp only
  repeat' split
  all_goals (simp only;omega)
theorem xB (hI:Inv S):Inv (ck fs xs root S n cur p mode).S:=by
  unfold ck
  simp only
  repeat' split
  all_goals first|exact hI.aR|exact hI.aR.aR|exact hI.aR.aR.aR
theorem Sm:(Lit.int .i64 0).wf=true:=by decide
theorem J1 (hI:Inv S):(Lit.int .i64 (ck fs xs root S n cur p mode).next).wf=true:=by
  unfold ck
  simp only
  repeat' split
  all_goals first|exact HX hI rfl|exact HX hI.aR.aR rfl|exact Sm
theorem BS (e1:aR fs xs root (n+1) S (eu cur)=(S2,c2)) {code at_:Int}:mR fs xs root S n cur true made code at_=⟨S2,n+1,0,false,made,code,at_⟩:=by
  unfold mR;rw [if_pos rfl,e1]
theorem HZ {code at_:Int}:mR fs xs root S n cur false made code at_=⟨S,n,0,false,made,code,at_⟩:=rfl
theorem P5 {d:List ByteArray}:∀ u∈gZ d,u.oneCell'=true:=by
  intro u hu
  obtain⟨b,_,rfl⟩:=List.mem_map.1 hu
  rfl
theorem Nw {d:List ByteArray}:(gZ d).length=d.length:=by simp [gZ]
def eU (β:Bs) (A:Option Addr) (ps:List ByteArray):Prop:=cF β A (gZ ps)
variable {β β':Bs} {A:Option Addr} {ps:List ByteArray} {j:Nat}
theorem eU.le (h:eU β A ps) (hle:β.le β'):eU β' A ps:=cF.le h hle
theorem eU.get (h:eU β A ps) (hj:j < ps.length):A=some ⟨ax A,av A,none⟩/\Rd β ⟨ax A,av A+j * 1,none⟩ (.string (pc ps j)):=by
  have:=h j _ (xq hj)
  rw [Nat.mul_one]
  exact this
theorem eU.hd (h:eU β A ps) (hj:j < ps.length):A=some ⟨ax A,av A,none⟩:=(h.get hj).1
theorem eU.rd (h:eU β A ps) (hj:j < ps.length):Rd β ⟨ax A,av A+j * 1,none⟩ (.string (pc ps j)):=(h.get hj).2
end
end
end
section
open Go.RowKit Go.Maps
structure Ej (ns:List aG) (i j:Nat):Prop where
  Rp:i < ns.length
  sF:j < (nd ns i).ah.length
  dir:(nd ns (tgt ns (ent ns i j).id)).kind=2
section
variable {ns:List aG}
theorem oP {i m:Nat} {p:Nat×Nat}:p∈dK ns i m↔∃ j,j < m/\(nd ns (tgt ns (ent ns i j).id)).kind=2/\p=(tgt ns (ent ns i j).id,i):=by
  induction m with
  | zero=>simp [dK]
  | succ m ih=>
    by_cases h:(nd ns (tgt ns (ent ns i m).id)).kind=2
    ·rw [ou h,List.mem_cons,ih]
     refine⟨fun hp=>?_,fun ⟨j,hj,h1,h2⟩=>?_⟩
     ·rcases hp with rfl|⟨j,hj,h1,h2⟩
      ·exact⟨m,Nat.lt_succ_self m,h,rfl⟩
      exact⟨j,Nat.lt_succ_of_lt hj,h1,h2⟩
     rcases Nat.lt_succ_iff_lt_or_eq.1 hj with e|e
     ·exact .inr ⟨j,e,h1,h2⟩
     subst e;exact .inl h2
    rw [rF h,ih]
    refine⟨fun ⟨j,hj,h1⟩=>⟨j,Nat.lt_succ_of_lt hj,h1⟩,fun ⟨j,hj,h1,h2⟩=>?_⟩
    rcases Nat.lt_succ_iff_lt_or_eq.1 hj with e|e
    ·exact⟨j,e,h1,h2⟩
    subst e;exact absurd h1 h
theorem oQ {m:Nat} {p:Nat×Nat}:p∈fw ns m↔∃ i j,i < m/\j < (nd ns i).ah.length/\(nd ns (tgt ns (ent ns i j).id)).kind=2/\p=(tgt ns (ent ns i j).id,i):=by
  induction m with
  | zero=>simp [fw]
  | succ m ih=>
    rw [fw,List.mem_append,oP,ih]
    refine⟨fun h=>?_,fun ⟨i,j,hi,hj,h1,h2⟩=>?_⟩
    ·rcases h with ⟨j,hj,h1,h2⟩|⟨i,j,hi,h⟩
     ·exact⟨m,j,Nat.lt_succ_self m,hj,h1,h2⟩
     exact⟨i,j,Nat.lt_succ_of_lt hi,h⟩
    rcases Nat.lt_succ_iff_lt_or_eq.1 hi with e|e
    ·exact .inr ⟨i,j,e,hj,h1,h2⟩
    subst e;exact .inl ⟨j,hj,h1,h2⟩
theorem Ej.mem {i j:Nat} (h:Ej ns i j):(tgt ns (ent ns i j).id,i)∈fw ns ns.length:=oQ.2 ⟨i,j,h.Rp,h.sF,h.dir,rfl⟩
def FZ (ns:List aG) (m:Nat):Prop:=∀ i j i' j',Ej ns i j->Ej ns i' j'->i < m->i' < m->tgt ns (ent ns i j).id=tgt ns (ent ns i' j').id->i=i'/\j=j'
theorem Ln {i m:Nat} (h:∀ j j',j < m->j' < m->(nd ns (tgt ns (ent ns i j).id)).kind=2->(nd ns (tgt ns (ent ns i j').id)).kind=2->tgt ns (ent ns i j).id=tgt ns (ent ns i j').id->j=j'):((dK ns i m).map Prod.fst).Nodup:=by
  induction m with
  | zero=>simp [dK]
  | succ m ih=>
    have ih:=ih (fun j j' h1 h2=>h j j' (by omega) (by omega))
    by_cases hk:(nd ns (tgt ns (ent ns i m).id)).kind=2
    ·rw [ou hk,List.map_cons,List.nodup_cons]
     refine⟨fun hm=>?_,ih⟩
     obtain⟨p,hp,e⟩:=List.mem_map.1 hm
     obtain⟨j,hj,h1,rfl⟩:=oP.1 hp
     have:=h j m (by omega) (by omega) h1 hk e
     omega
    rw [rF hk];exact ih
theorem Nx {i m:Nat} (h:((dK ns i m).map Prod.fst).Nodup):∀ j j',j < m->j' < m->(nd ns (tgt ns (ent ns i j).id)).kind=2->(nd ns (tgt ns (ent ns i j').id)).kind=2->tgt ns (ent ns i j).id=tgt ns (ent ns i j').id->j=j':=by
  induction m with
  | zero=>intro j j' hj;omega
  | succ m ih=>
    intro j j' hj hj' hk hk' e
    by_cases hm:(nd ns (tgt ns (ent ns i m).id)).kind=2
    ·rw [ou hm,List.map_cons,List.nodup_cons] at h
     rcases Nat.lt_succ_iff_lt_or_eq.1 hj with e1|e1
     ·rcases Nat.lt_succ_iff_lt_or_eq.1 hj' with e2|e2
      ·exact ih h.2 j j' e1 e2 hk hk' e
      subst e2;exact absurd (List.mem_map.2 ⟨_,oP.2 ⟨j,e1,hk,rfl⟩,e⟩) h.1
     rcases Nat.lt_succ_iff_lt_or_eq.1 hj' with e2|e2
     ·subst e1;exact absurd (List.mem_map.2 ⟨_,oP.2 ⟨j',e2,hk',rfl⟩,e.symm⟩) h.1
     omega
    rw [rF hm] at h
    rcases Nat.lt_succ_iff_lt_or_eq.1 hj with e1|e1
    ·rcases Nat.lt_succ_iff_lt_or_eq.1 hj' with e2|e2
     ·exact ih h j j' e1 e2 hk hk' e
     subst e2;exact absurd hk' hm
    subst e1;exact absurd hk hm
theorem Lp {m:Nat} (hm:m<=ns.length) (h:FZ ns m):((fw ns m).map Prod.fst).Nodup:=by
  induction m with
  | zero=>simp [fw]
  | succ m ih=>
    have ih:=ih (by omega) (fun i j i' j' h1 h2 h3 h4=>h i j i' j' h1 h2 (by omega) (by omega))
    rw [fw,List.map_append]
    refine List.nodup_append.2 ⟨Ln fun j j' hj hj' hk hk' e=>(h m j m j' ⟨by omega,hj,hk⟩ ⟨by omega,hj',hk'⟩ (by omega) (by omega) e).2,ih,fun a ha b hb e=>?_⟩
    obtain⟨p,hp,rfl⟩:=List.mem_map.1 ha
    obtain⟨q,hq,rfl⟩:=List.mem_map.1 hb
    obtain⟨j,hj,hk,rfl⟩:=oP.1 hp
    obtain⟨i',j',hi',hj',hk',rfl⟩:=oQ.1 hq
    have:=(h m j i' j' ⟨by omega,hj,hk⟩ ⟨by omega,hj',hk'⟩ (by omega) (by omega) e).1
    omega
theorem Ny {m:Nat} (h:((fw ns m).map Prod.fst).Nodup):FZ ns m:=by
  induction m with
  | zero=>intro i j i' j' _ _ hi;omega
  | succ m ih=>
    rw [fw,List.map_append] at h
    obtain⟨h1,h2,h3⟩:=List.nodup_append.1 h
    intro i j i' j' g g' hi hi' e
    rcases Nat.lt_succ_iff_lt_or_eq.1 hi with e1|e1
    ·rcases Nat.lt_succ_iff_lt_or_eq.1 hi' with e2|e2
     ·exact ih h2 i j i' j' g g' e1 e2 e
     subst e2
     exact absurd e.symm (h3 _ (List.mem_map.2 ⟨_,oP.2 ⟨j',g'.sF,g'.dir,rfl⟩,rfl⟩) _ (List.mem_map.2 ⟨_,oQ.2 ⟨i,j,e1,g.sF,g.dir,rfl⟩,rfl⟩))
    rcases Nat.lt_succ_iff_lt_or_eq.1 hi' with e2|e2
    ·subst e1
     exact absurd e (h3 _ (List.mem_map.2 ⟨_,oP.2 ⟨j,g.sF,g.dir,rfl⟩,rfl⟩) _ (List.mem_map.2 ⟨_,oQ.2 ⟨i',j',e2,g'.sF,g'.dir,rfl⟩,rfl⟩))
    subst e1;subst e2
    exact⟨rfl,Nx h1 j j' g.sF g'.sF g.dir g'.dir e⟩
def Ek (ns:List aG) (d:Nat->Nat):Prop:=∀ i j,Ej ns i j->d i < d (tgt ns (ent ns i j).id)
theorem bp.Sn (h1:ns.length<=4096) (h2:∀ i,i < ns.length->nX (nd ns i)) (h3:∀ i,i < ns.length->1<=(nd ns i).id/\(nd ns i).id<=1099511627776) (h4:cq ns) (h5:dS ns ns.length<=8192)
    (h6:∀ i,i < ns.length->∀ j,j < (nd ns i).ah.length->mP ns i j) (h7:FZ ns ns.length) {d:Nat->Nat} (h8:Ek ns d):bp ns:=by
  refine⟨h1,h2,h3,h4,h5,h6,Lp (Nat.le_refl _) h7,?_⟩
  have hp:=wL (ns:=ns) (Nat.le_refl _) h6
  refine Mn (fun p hp'=>(hp p hp').1) ?_
  have key:∀ n i,d i<=n->i < ns.length->Ends ((fw ns ns.length).map (iQ ns)) (nd ns i).id:=by
    intro n
    induction n with
    | zero=>
      intro i hd hi
      cases hu:up ((fw ns ns.length).map (iQ ns)) (nd ns i).id with
      | none=>exact⟨0,hu⟩
      | some y=>
        obtain⟨_,p,g1,g2,_⟩:=zM h4 hi (fun p hp'=>(hp p hp').1) hu
        obtain⟨a,j,ha,hj,hk,rfl⟩:=oQ.1 g1
        have:=h8 a j ⟨ha,hj,hk⟩
        have g2:tgt ns (ent ns a j).id=i:=g2
        rw [g2] at this
        omega
    | succ n ih=>
      intro i hd hi
      cases hu:up ((fw ns ns.length).map (iQ ns)) (nd ns i).id with
      | none=>exact⟨0,hu⟩
      | some y=>
        obtain⟨_,p,g1,g2,g3⟩:=zM h4 hi (fun p hp'=>(hp p hp').1) hu
        obtain⟨a,j,ha,hj,hk,rfl⟩:=oQ.1 g1
        have:=h8 a j ⟨ha,hj,hk⟩
        have g2:tgt ns (ent ns a j).id=i:=g2
        rw [g2] at this
        obtain⟨m,hm⟩:=ih a (by omega) ha
        exact⟨m+1,y,hu,by rw [g3];exact hm⟩
  exact fun i hi=>key (d i) i (Nat.le_refl _) hi
theorem bp.uniq (h:bp ns):FZ ns ns.length:=Ny h.nodup
theorem bp.deep (h:bp ns):∃ d,Ek ns d:=by
  refine⟨fun k=>Classical.choose (h.ends (nd ns k).id),fun i j g=>?_⟩
  have hp:=wL (ns:=ns) (Nat.le_refl _) h.ah
  have hat:=(h.ah i g.Rp j g.sF).at_
  have htl:=jB hat
  have e1:=Classical.choose_spec (h.ends (nd ns i).id)
  have e2:=Classical.choose_spec (h.ends (nd ns (tgt ns (ent ns i j).id)).id)
  show Classical.choose (h.ends (nd ns i).id) < Classical.choose (h.ends (nd ns (tgt ns (ent ns i j).id)).id)
  generalize Classical.choose (h.ends (nd ns i).id)=x at e1 ⊢
  generalize Classical.choose (h.ends (nd ns (tgt ns (ent ns i j).id)).id)=y at e2 ⊢
  cases hu:up ((fw ns ns.length).map (iQ ns)) (nd ns (tgt ns (ent ns i j).id)).id with
  | none=>
    have:=JF hu
    exact absurd (List.mem_map.2 ⟨_,g.mem,rfl⟩) this
  | some z=>
    obtain⟨_,p,g1,g2,g3⟩:=zM h.rise htl.1 (fun p hp'=>(hp p hp').1) hu
    obtain⟨a,b,ha,hb,hk,rfl⟩:=oQ.1 g1
    have g2:tgt ns (ent ns a b).id=tgt ns (ent ns i j).id:=g2
    obtain⟨rfl,rfl⟩:=h.uniq a b i j ⟨ha,hb,hk⟩ g ha g.Rp g2
    have g3:z=(nd ns a).id:=g3
    cases y with
    | zero=>
      have e2:up _ _=none:=e2
      rw [hu] at e2;cases e2
    | succ y=>
      obtain⟨z',h1,h2⟩:=e2
      rw [hu] at h1
      cases h1
      rw [g3] at h2
      have:=e1.uniq h2
      show x < y+1
      omega
end
end
section
open Go.RowKit Go.Maps bC aE
structure jQ (X:FM):Prop where
  cN:0<=X.cN/\X.cN<=4096
  cB:0<=X.cB/\X.cB<=1099511627776
  cH:0<=X.cH/\X.cH<=1024
  now:fL X.cS X.cZ
def fW (n:aG):Nat:=n.id.toNat
def qg (n:aG):Th:=⟨fW n,n.kind⟩
def qt (n:aG):aY:=⟨n.id,n.mode,n.uid,n.gid,n.sec,n.nano,0,0,false,n.kind,n.data,n.target,[],none⟩
def F5:aY:=⟨0,0,0,0,0,0,0,0,false,0,[],⟨#[]⟩,[],none⟩
def iI (X:FM):aI:=⟨{ X with last:=0,ah:=0,used:=0 },fun _=>F5,[],[],0⟩
def cJ (S:aI) (n:aG):aI:={ S with X:={ S.X with last:=n.id,used:=S.X.used+n.data.length },O:=aO S.O (fW n) (fun _=>qt n),idx:=ins n.id (qg n) S.idx }
def mJ (ns:List aG) (e:jq):Th:=qg (nd ns (tgt ns e.id))
def lK (ns:List aG) (S:aI) (n:aG) (e:jq):aI:={ S with X:={ S.X with ah:=S.X.ah+1 },O:=oz S.O (fW n) e.name (mJ ns e) }
def tZ (ns:List aG):Nat->Nat
  | 0=>0
  | k+1=>tZ ns k+(nd ns k).data.length
def H6 (ns:List aG):Used Th:=ns.map (fun n=>(n.id,qg n))
structure mT (X:FM) (ns:List aG) (k:Nat) (S:aI):Prop where
  inv:Inv0 S
  idx:S.idx=H6 (ns.take k)
  us:S.us=[]
  aD:S.aD=0
  cap:S.X={ X with last:=mI ns k,ah:=0,used:=(tZ ns k:Int) }
  ob:∀ a,a < k->obj S.O (fW (nd ns a))=qt (nd ns a)
  free:∀ x,(∀ a,a < k->x≠fW (nd ns a))->obj S.O x=F5
section base
variable {X:FM} {ns:List aG} {i j k a b:Nat} {S:aI}
theorem zn (h:bp ns) (hk:k < ns.length):(fW (nd ns k):Int)=(nd ns k).id:=by
  have:=h.ids k hk
  unfold fW;omega
theorem tD (h:bp ns) (ha:a < ns.length) (hb:b < ns.length) (e:fW (nd ns a)=fW (nd ns b)):a=b:=
  h.rise.inj ha hb (by rw [← zn h ha,← zn h hb,e])
theorem Dd (hk:k < ns.length):ns[k]?=some (nd ns k):=getD_some hk
theorem Sp (hk:k < ns.length):ns.take (k+1)=ns.take k++[nd ns k]:=by
  rw [List.take_add_one,Dd hk];rfl
theorem Nz (hX:jQ X):mT X ns 0 (iI X):=by
  refine⟨?_,rfl,rfl,rfl,rfl,fun a h=>absurd h (Nat.not_lt_zero a),fun _ _=>rfl⟩
  have hn:∀ t,¬ Live ([]:Used Th) t:=fun t h=>by cases h
  exact⟨hX.cN,hX.cB,hX.cH,hX.now,by show (0:Int)<=0/\(0:Int)<=_;omega,.nil,Nat.zero_le _,fun _ _ e=>(by cases e),fun t h=>absurd h (hn t),fun t h=>absurd h (hn t),fun t h=>absurd h (hn t),fun t h=>absurd h (hn t),
    fun _ _=>⟨rfl,rfl⟩,fun _ _=>rfl,⟨rfl,by show (0:Int)<=8192;omega⟩,fun t h=>absurd h (hn t),fun t h=>absurd h (hn t),fun t h=>absurd h (hn t),.nil,fun x hx=>(by cases hx),(by show ((0:Nat):Int)<=X.cH;have:=hX.cH;omega),⟨Int.le_refl _,hX.cH.1⟩,fun _ _ e=>(by cases e),fun t h=>absurd h (hn t),fun t h=>absurd h (hn t),⟨fun _=>0,fun k d e=>(by cases e)⟩,⟨rfl,by show (0:Int)<=_;omega⟩⟩
theorem J2 (h:bp ns) (hk:k < ns.length):∀ x∈keys (H6 (ns.take k)),x < (nd ns k).id:=by
  intro x hx
  obtain⟨p,hp,rfl⟩:=List.mem_map.1 hx
  obtain⟨n,hn,rfl⟩:=List.mem_map.1 hp
  obtain⟨a,ha,e⟩:=List.mem_iff_getElem.1 hn
  rw [List.length_take] at ha
  rw [List.getElem_take] at e
  have e2:nd ns a=n:=by
    have:=Dd (ns:=ns) (k:=a) (by omega)
    rw [List.getElem?_eq_getElem (by omega),e] at this
    exact (Option.some.inj this).symm
  rw [← e2]
  exact h.rise a k (by omega) hk
theorem Fb (hd:∀ i,i < ns.length->(nd ns i).data.length<=1048576) (hk:k<=ns.length):tZ ns k<=1048576 * k:=by
  induction k with
  | zero=>exact Nat.le_refl _
  | succ k ih=>
    have h1:=ih (by omega)
    have h2:=hd k hk
    show tZ ns k+(nd ns k).data.length<=_
    omega
theorem zo (h:bp ns) (hd:∀ i,i < ns.length->(nd ns i).data.length<=1048576) (hk:k < ns.length) (hB:mT X ns k S):mT X ns (k+1) (cJ S (nd ns k)):=by
  have hs:=Fb hd (Nat.le_of_lt hk)
  have hn:=h.node k hk
  have hid:=zn h hk
  have P6:=h.ids k hk
  have hu:S.X.used=(tZ ns k:Int):=by rw [hB.cap]
  have hl:S.X.last=mI ns k:=by rw [hB.cap]
  have hlen:=h.len
  have hdk:=hd k hk
  have Zm:S.idx.length=k:=by
    rw [hB.idx];unfold H6;rw [List.length_map,List.length_take];omega
  have h1:=hB.inv.newAt (k0:=fW (nd ns k)) (o:=qt (nd ns k)) (kT:=S.X.used+(nd ns k).data.length) (us':=S.us) (gY:=S.aD) (by rw [hid,hl];exact h.last hk) (by rw [hid];exact P6.2) ⟨rfl,by rw [hu];omega⟩ hid.symm
    (by have:=hn.kind;show (nd ns k).kind=1\/(nd ns k).kind=2\/(nd ns k).kind=3;omega) rfl rfl rfl rfl
    ⟨hn.mode,hn.uid,hn.gid,hn.time,fun e=>List.eq_nil_of_length_eq_zero (hn.data e),fun _=>rfl,hn.target⟩ (by omega)
    hB.inv.usr hB.inv.sE hB.inv.CI hB.inv.aD (fun h t e=>⟨.inl (hB.inv.us h t e).1,(hB.inv.us h t e).2⟩) (fun _ _=>rfl) (by rw [hB.us];rfl)
  rw [hid] at h1
  refine⟨h1,?_,hB.us,hB.aD,?_,fun a ha=>?_,fun x hx=>(show obj (aO S.O (fW (nd ns k)) fun _=>qt (nd ns k)) x=F5 from (bT (hx k (Nat.lt_succ_self k))).trans (hB.free x fun a ha=>hx a (Nat.lt_succ_of_lt ha)))⟩
  ·show ins (nd ns k).id (qg (nd ns k)) S.idx=_
   rw [hB.idx,Pf (J2 h hk),Sp hk]
   unfold H6;rw [List.map_append];rfl
  ·show ({ S.X with last:=(nd ns k).id,used:=S.X.used+((nd ns k).data.length:Int) }:FM)=_
   rw [hu,hB.cap]
   show (⟨_,_,_,_,_,_,_,_⟩:FM)=⟨_,_,_,_,_,_,_,_⟩
   congr 1
  show obj (aO S.O (fW (nd ns k)) (fun _=>qt (nd ns k))) (fW (nd ns a))=_
  rcases Nat.lt_succ_iff_lt_or_eq.1 ha with e|e
  ·rw [bT (fun e2=>by have:=tD h (by omega) hk e2;omega)]
   exact hB.ob a e
  subst e;exact cD
theorem mT.fresh (h:bp ns) (hk:k < ns.length) (hB:mT X ns k S):uE S.O S.idx S.us (fW (nd ns k)):=hB.inv.D8 (by rw [zn h hk,hB.cap];exact h.last hk)
theorem mT.new (h:bp ns) (hk:k < ns.length) (hB:mT X ns k S):aE.get S.idx (nd ns k).id=none:=get_none.2 (fun hm=>by
  rw [hB.idx] at hm
  exact absurd (J2 h hk _ hm) (by omega))
theorem BU (X:FM) (L:HL):(∀ k,bR (iI X).O L k=bV.none)/\(∀ k,ct (iI X).O L k=bV.none)/\∀ k,dg (iI X).O L k=bV.none:=⟨fun _=>if_pos rfl,fun _=>if_neg (by show ¬ (0:Int)=1;omega),fun _=>if_neg (by show ¬ (0:Int)=2;omega)⟩
theorem Sat.VX {β:Bs} {l l':List HP} {w:World} {i j b m c:Nat} {ix:List Nat} {O:bW} {L L':HL} {A:Option Addr} {o:aY} (h:Sat β l w) (hL:L'=L.put k b m A c) (hp:l[i]?=some (.abs (aH (ct O L)))) (hq:l[j]?=some (.abs (aK 5 1 A o.data.length c (cM o.data)))) (hd:nodupB (i::j::ix)=true) (hl:bO l ix=some l') (h1:o.kind=1):Sat β (.abs (aH (ct (aO O k (fun _=>o)) L'))::l') w:=by
  refine h.sP hp hq (fun _ _ h=>h) hd hl k (fun x hx=>by rw [Cz hx,D9 hL hx]) ?_
  rw [tM (by rw [cD];exact h1),cD]
  subst hL
  simp only [HL.put,if_true]
end base
theorem Sq {O:bW} {L:HL} {d:Nat} {name:ByteArray} {t:Th}:ct (oz O d name t) L=ct O L:=
  tS (fun _=>BD (g:=aY.data) (fun _ _=>rfl) (fun _ _=>rfl) (fun _ _=>rfl)) (fun _=>yG)
def qh (ns:List aG) (i j a:Nat):Nat:=if a < i then (nd ns a).ah.length else if a=i then j else 0
def t6 (ns:List aG) (a m:Nat):fS Th:=((nd ns a).ah.take m).map (fun e=>(e.name,mJ ns e))
structure gD (X:FM) (ns:List aG) (i j:Nat) (S:aI):Prop where
  inv:Inv0 S
  idx:S.idx=H6 ns
  us:S.us=[]
  aD:S.aD=0
  cap:S.X={ X with last:=mI ns ns.length,ah:=((dS ns i+j:Nat):Int),used:=(tZ ns ns.length:Int) }
  ob:∀ a,a < ns.length->∃ l u,obj S.O (fW (nd ns a))={ qt (nd ns a) with links:=l,ah:=t6 ns a (qh ns i j a),up:=u }
  free:∀ x,(∀ a,a < ns.length->x≠fW (nd ns a))->obj S.O x=F5
section ah
variable {X:FM} {ns:List aG} {i j k a b m:Nat} {S:aI} {t:Th}
theorem mT.ah (h:mT X ns ns.length S):gD X ns 0 0 S:=by
  refine⟨h.inv,by rw [h.idx,List.take_of_length_le (Nat.le_refl _)],h.us,h.aD,h.cap,fun a ha=>⟨0,none,?_⟩,h.free⟩
  rw [h.ob a ha]
  have:qh ns 0 0 a=0:=by
    unfold qh;rw [if_neg (Nat.not_lt_zero a)];split<;>rfl
  rw [this];rfl
theorem gD.get (h:gD X ns i j S) (ha:a < ns.length):aE.get S.idx (nd ns a).id=some (qg (nd ns a)):=by
  refine o9 h.inv.rise ?_
  rw [h.idx]
  exact List.mem_map.2 ⟨nd ns a,List.mem_of_getElem? (Dd ha),rfl⟩
theorem gD.live (hG:bp ns) (h:gD X ns i j S) (ha:a < ns.length):Live S.idx (qg (nd ns a)):=by
  have:=h.get ha
  rw [← zn hG ha] at this
  exact this
theorem gD.of (h:gD X ns i j S) {x:Int} (e:aE.get S.idx x=some t):∃ a,a < ns.length/\t=qg (nd ns a):=by
  have hm:=get_mem e
  rw [h.idx] at hm
  obtain⟨n,hn,e2⟩:=List.mem_map.1 hm
  obtain⟨a,ha,e3⟩:=List.mem_iff_getElem.1 hn
  have e4:nd ns a=n:=by
    have:=Dd ha
    rw [List.getElem?_eq_getElem ha,e3] at this
    exact (Option.some.inj this).symm
  cases e2
  exact⟨a,ha,by rw [e4]⟩
theorem NA {es:List jq} {q:Nat} (hq:q < es.length):es[q]?=some (en es q):=getD_some hq
theorem xC {e:ByteArray×Th} (h:e∈t6 ns a m):∃ q,q < m/\q < (nd ns a).ah.length/\e.1=(ent ns a q).name/\e.2=mJ ns (ent ns a q):=by
  obtain⟨x,hx,rfl⟩:=List.mem_map.1 h
  obtain⟨q,hq,e⟩:=List.mem_iff_getElem.1 hx
  rw [List.length_take] at hq
  rw [List.getElem_take] at e
  have e2:ent ns a q=x:=by
    have:=NA (es:=(nd ns a).ah) (q:=q) (by omega)
    rw [List.getElem?_eq_getElem (by omega),e] at this
    exact (Option.some.inj this).symm
  exact⟨q,by omega,by omega,by rw [e2],by rw [e2]⟩
theorem NC (hj:j < (nd ns i).ah.length):t6 ns i (j+1)=t6 ns i j++[((ent ns i j).name,mJ ns (ent ns i j))]:=by
  unfold t6
  rw [List.take_add_one,NA hj,List.map_append];rfl
theorem El (hG:bp ns) (hi:i < ns.length) {q:Nat}:∀ {j},q < j->j < (nd ns i).ah.length->oq (ent ns i q).name (ent ns i j).name < 0
  | 0,h,_=>absurd h (Nat.not_lt_zero q)
  | j+1,h,hj=>by
    have h1:=tT.1 (hG.ah i hi (j+1) hj).ord
    have h1:oq (ent ns i j).name (ent ns i (j+1)).name < 0:=h1
    rcases Nat.lt_succ_iff_lt_or_eq.1 h with e|e
    ·exact Cn (El hG hi e (by omega)) (Int.le_of_lt h1)
    rw [e];exact h1
theorem P7 (hG:bp ns) (hi:i < ns.length) (hj:j < (nd ns i).ah.length):aT (ent ns i j).name (t6 ns i j)=none:=by
  refine wM.2 (fun e he e1=>?_)
  obtain⟨q,h1,h2,h3,_⟩:=xC he
  have:=El hG hi h1 hj
  rw [← h3,e1] at this
  have h4:=EL (ent ns i j).name
  omega
theorem Fc {n:ByteArray}:∀ {es:fS Th},(∀ e∈es,oq e.1 n < 0)->ic n t es=es++[(n,t)]
  | [],_=>rfl
  | e::r,h=>by
    have h1:=h e (List.mem_cons_self ..)
    unfold ic
    rw [if_neg (fun hc=>by have:=tT.1 hc;have:=yt e.1 n;omega),Fc (fun x hx=>h x (List.mem_cons_of_mem _ hx))];rfl
theorem P8 (hG:bp ns) (hi:i < ns.length) (hj:j < (nd ns i).ah.length):ic (ent ns i j).name (mJ ns (ent ns i j)) (t6 ns i j)=t6 ns i (j+1):=by
  rw [NC hj]
  refine Fc (fun e he=>?_)
  obtain⟨q,h1,_,h3,_⟩:=xC he
  rw [h3]
  exact El hG hi h1 hj
theorem vS (hG:bp ns) (hi:i < ns.length) (hj:j < (nd ns i).ah.length):tgt ns (ent ns i j).id < ns.length/\(nd ns (tgt ns (ent ns i j).id)).id=(ent ns i j).id:=by
  have:=jB (hG.ah i hi j hj).at_
  exact⟨this.1,this.2.1⟩
theorem Em {O:bW} {d x:Nat} {name:ByteArray} (h:t.k≠d):obj (oz O d name t) x=if x=d then { obj O d with ah:=ic name t (obj O d).ah } else if x=t.k then { obj O x with links:=(obj O x).links+1,up:=if t.kind=2 then some d else (obj O x).up } else obj O x:=by
  have key:∀ O2:bW,O2=aO (aO O d (fun o=>{ o with ah:=ic name t o.ah })) t.k (fun o=>{ o with links:=o.links+1 })->obj (if t.kind=2 then aO O2 t.k (fun o=>{ o with up:=some d }) else O2) x=if x=d then { obj O d with ah:=ic name t (obj O d).ah } else if x=t.k then { obj O x with links:=(obj O x).links+1,up:=if t.kind=2 then some d else (obj O x).up } else obj O x:=by
    intro O2 e
    by_cases hk:t.kind=2
    ·rw [if_pos hk,if_pos hk,jI,e,jI,jI]
     by_cases e1:x=d
     ·subst e1;rw [if_neg (fun e=>h e.symm),if_neg (fun e=>h e.symm),if_pos rfl,if_pos rfl]
     by_cases e2:x=t.k
     ·rw [if_pos e2,if_pos e2,if_neg e1,if_neg e1,if_pos e2]
     rw [if_neg e2,if_neg e2,if_neg e1,if_neg e1,if_neg e2]
    rw [if_neg hk,if_neg hk,e,jI,jI]
    by_cases e1:x=d
    ·subst e1;rw [if_neg (fun e=>h e.symm),if_pos rfl,if_pos rfl]
    by_cases e2:x=t.k
    ·rw [if_pos e2,if_neg e1,if_neg e1,if_pos e2]
    rw [if_neg e2,if_neg e1,if_neg e1,if_neg e2]
  exact key _ rfl
theorem gD.XI (hG:bp ns) (h:gD X ns i j S) {d:Nat} (hd:Live S.idx ⟨d,2⟩) {n:ByteArray} (ha:a < ns.length) (hk:(nd ns a).kind=2) (hl:aT n (obj S.O d).ah=some (qg (nd ns a))):∃ b q,b < ns.length/\d=fW (nd ns b)/\Ej ns b q/\tgt ns (ent ns b q).id=a:=by
  obtain⟨b,hb,e⟩:=h.of hd
  have e:(⟨d,2⟩:Th)=⟨fW (nd ns b),(nd ns b).kind⟩:=e
  have e1:d=fW (nd ns b):=congrArg Th.k e
  subst e1
  obtain⟨l,u,ho⟩:=h.ob b hb
  have hm:=lS hl
  rw [ho] at hm
  obtain⟨q,h1,h2,_,h4⟩:=xC hm
  have ht:=vS hG hb h2
  have h5:fW (nd ns a)=fW (nd ns (tgt ns (ent ns b q).id)):=congrArg Th.k h4
  have h6:=tD hG ha ht.1 h5
  exact⟨b,q,hb,rfl,⟨hb,h2,by rw [← h6];exact hk⟩,h6.symm⟩
theorem gD.below (hG:bp ns) (h:gD X ns i j S) {dp:Nat->Nat} (hdp:Ek ns dp) {s k:Nat} (hb:fV S.O s k):∀ {a b},a < ns.length->k=fW (nd ns a)->b < ns.length->s=fW (nd ns b)->dp b<=dp a:=by
  induction hb with
  | here=>
    intro a b ha e1 hb e2
    have:=tD hG ha hb (by rw [← e1,← e2])
    rw [this];exact Nat.le_refl _
  | up hup _ ih=>
    intro a b ha e1 hb e2
    subst e1
    have hlv:=h.live hG ha
    obtain⟨h1,h2,n,h3⟩:=(h.inv.up _ hlv _).1 hup
    obtain⟨c,q,hc,e3,hD,e4⟩:=h.XI hG h2 ha h1 h3
    have h5:=hdp c q hD
    rw [e4] at h5
    have:=ih hc e3 hb e2
    omega
theorem gD.links (hG:bp ns) (h:gD X ns i j S) (hi:i < ns.length) (hj:j < (nd ns i).ah.length) (hk:(mJ ns (ent ns i j)).kind=2):(obj S.O (mJ ns (ent ns i j)).k).links=0:=by
  have ht:=vS hG hi hj
  have hlv:Live S.idx (mJ ns (ent ns i j)):=h.live hG ht.1
  rw [h.inv.links _ hlv]
  cases hz:iT S.idx S.O (mJ ns (ent ns i j)).k with
  | zero=>rfl
  | succ z=>
    exfalso
    obtain⟨x,u,hu,e,he,e1⟩:=CJ h.inv.rise (show 0 < iT S.idx S.O (mJ ns (ent ns i j)).k by omega)
    obtain⟨b,hb,rfl⟩:=h.of hu
    obtain⟨l,u,ho⟩:=h.ob b hb
    have he:e∈(obj S.O (fW (nd ns b))).ah:=he
    rw [ho] at he
    obtain⟨q,h1,h2,_,h4⟩:=xC he
    have ht2:=vS hG hb h2
    have h5:fW (nd ns (tgt ns (ent ns b q).id))=fW (nd ns (tgt ns (ent ns i j).id)):=by
      rw [h4] at e1;exact e1
    have h6:=tD hG ht2.1 ht.1 h5
    obtain⟨rfl,rfl⟩:=hG.uniq b q i j ⟨hb,h2,by rw [h6];exact hk⟩ ⟨hi,hj,hk⟩ hb hi h6
    unfold qh at h1
    rw [if_neg (Nat.lt_irrefl _),if_pos rfl] at h1
    omega
theorem gD.look (hG:bp ns) (h:gD X ns i j S) (hi:i < ns.length) (hj:j < (nd ns i).ah.length):(obj S.O (fW (nd ns i))).ah=t6 ns i j/\aT (ent ns i j).name (obj S.O (fW (nd ns i))).ah=none/\(nd ns i).kind=2:=by
  obtain⟨l,u,ho⟩:=h.ob i hi
  have e1:(obj S.O (fW (nd ns i))).ah=t6 ns i j:=by
    rw [ho]
    show t6 ns i (qh ns i j i)=_
    unfold qh;rw [if_neg (Nat.lt_irrefl _),if_pos rfl]
  refine⟨e1,by rw [e1];exact P7 hG hi hj,?_⟩
  cases Decidable.em ((nd ns i).kind=2) with
  | inl h=>exact h
  | inr h=>have:=(hG.node i hi).ah h;omega
theorem gD.gone (h:gD X ns i j S) (ha:a < ns.length):(obj S.O (fW (nd ns a))).gone=false:=by
  obtain⟨l,u,ho⟩:=h.ob a ha
  rw [ho];rfl
theorem gD.ne (hG:bp ns) (hi:i < ns.length) (hj:j < (nd ns i).ah.length) (hk:(nd ns i).kind=2):(mJ ns (ent ns i j)).k≠fW (nd ns i):=fun e=>by
  have ht:=vS hG hi hj
  have h1:=tD hG ht.1 hi e
  obtain⟨dp,hdp⟩:=hG.deep
  have:=hdp i j ⟨hi,hj,by rw [h1];exact hk⟩
  rw [h1] at this
  exact Nat.lt_irrefl _ this
theorem gD.step (hG:bp ns) (h:gD X ns i j S) (hi:i < ns.length) (hj:j < (nd ns i).ah.length):gD X ns i (j+1) (lK ns S (nd ns i) (ent ns i j)):=by
  obtain⟨l1,l2,l3⟩:=h.look hG hi hj
  have ht:=vS hG hi hj
  have hne:=gD.ne hG hi hj l3
  have hld:Live S.idx ⟨fW (nd ns i),2⟩:=by
    have:=h.live hG hi
    unfold qg at this
    rw [l3] at this
    exact this
  have hlt:Live S.idx (mJ ns (ent ns i j)):=h.live hG ht.1
  have hX:S.X.ah=((dS ns i+j:Nat):Int):=by rw [h.cap]
  have hsum:dS ns i+j < 8192:=by
    have h1:dS ns (i+1)<=dS ns ns.length:=q6 hi
    have h2:dS ns (i+1)=dS ns i+(nd ns i).ah.length:=rfl
    have h3:=hG.sum
    omega
  have h1:=h.inv.put (O':=oz S.O (fW (nd ns i)) (ent ns i j).name (mJ ns (ent ns i j))) (ta:=(obj S.O (fW (nd ns i))).sec) (tb:=(obj S.O (fW (nd ns i))).nano) hld (h.gone hi) l2 (hG.ah i hi j hj).good hlt (h.gone ht.1) (fun hk=>⟨h.links hG hi hj hk,fun hb=>by
      obtain⟨dp,hdp⟩:=hG.deep
      have h2:=h.below hG hdp hb hi rfl ht.1 rfl
      have h3:=hdp i j ⟨hi,hj,hk⟩
      omega⟩) hne (by rw [hX];omega) (h.inv.mt _ hld).time (fun x=>Em hne)
  refine⟨h1,h.idx,h.us,h.aD,?_,fun a ha=>?_,fun x hx=>(Em hne).trans (by rw [if_neg (hx i hi),if_neg (show ¬ x=(mJ ns (ent ns i j)).k from hx _ ht.1)];exact h.free x hx)⟩
  ·show ({ S.X with ah:=S.X.ah+1 }:FM)=_
   rw [hX,h.cap]
   show (⟨_,_,_,_,_,_,_,_⟩:FM)=⟨_,_,_,_,_,_,_,_⟩
   congr 1
  obtain⟨l,u,ho⟩:=h.ob a ha
  show ∃ l u,obj (oz S.O (fW (nd ns i)) (ent ns i j).name (mJ ns (ent ns i j))) (fW (nd ns a))=_
  rw [Em hne]
  by_cases e:a=i
  ·subst e
   refine⟨l,u,?_⟩
   rw [if_pos rfl,l1,P8 hG hi hj,ho]
   have hc:qh ns a (j+1) a=j+1:=by unfold qh;rw [if_neg (Nat.lt_irrefl _),if_pos rfl]
   rw [hc]
  have hc:qh ns i (j+1) a=qh ns i j a:=by
    unfold qh;rw [if_neg e,if_neg e]
  rw [if_neg (fun e2=>e (tD hG ha hi e2)),hc]
  split
  ·rw [ho];exact⟨_,_,rfl⟩
  exact⟨l,u,ho⟩
theorem gD.next (h:gD X ns i (nd ns i).ah.length S):gD X ns (i+1) 0 S:=by
  refine⟨h.inv,h.idx,h.us,h.aD,h.cap,fun a ha=>?_,h.free⟩
  obtain⟨l,u,ho⟩:=h.ob a ha
  refine⟨l,u,?_⟩
  rw [ho]
  have:qh ns (i+1) 0 a=qh ns i (nd ns i).ah.length a:=by
    unfold qh
    by_cases e:a=i
    ·subst e;rw [if_pos (by omega),if_neg (by omega),if_pos rfl]
    by_cases e2:a < i
    ·rw [if_pos (by omega),if_pos e2]
    rw [if_neg (by omega),if_neg e2,if_neg e];split<;>rfl
  rw [this]
theorem gD.full (h:gD X ns i j S):Inv S:=by
  refine⟨h.inv,fun t ht hg=>?_⟩
  obtain⟨a,ha,rfl⟩:=h.of ht
  have:(obj S.O (fW (nd ns a))).gone=true:=hg
  rw [h.gone ha] at this
  cases this
end ah
end
section
open Go.RowKit Go.Maps bC aE
noncomputable def dh (X:FM) (ns:List aG) (root:Int):Int:=
  open Classical in
  if jQ X then if bp ns then
    match ns.find? (fun n=>decide (n.id=root)) with
    | none=>141
    | some n=>if n.kind=2 then 0 else 173
  else 140 else 179
def t7 (ns:List aG) (root:Int) (i:Nat):Prop:=i < ns.length/\(nd ns i).id=root/\∀ q,q < i->(nd ns q).id≠root
section n
variable {X:FM} {ns:List aG} {root:Int} {i:Nat}
theorem P9 (ns:List aG) (root:Int):(∃ i,t7 ns root i)\/∀ q,q < ns.length->(nd ns q).id≠root:=by
  have key:∀ n,n<=ns.length->(∃ i,t7 ns root i)\/∀ q,q < n->(nd ns q).id≠root:=fun n=>by
    induction n with
    | zero=>exact fun _=>.inr fun q h=>absurd h (Nat.not_lt_zero q)
    | succ n ih=>
      intro h
      rcases ih (by omega) with h1|h1
      ·exact .inl h1
      by_cases e:(nd ns n).id=root
      ·exact .inl ⟨n,by omega,e,h1⟩
      exact .inr fun q hq=>(Nat.lt_succ_iff_lt_or_eq.1 hq).elim (h1 q) (fun e2=>e2 ▸ e)
  exact key _ (Nat.le_refl _)
theorem Df (h:t7 ns root i):ns.find? (fun n=>decide (n.id=root))=some (nd ns i):=by
  obtain⟨h1,h2,h3⟩:=h
  rw [List.find?_eq_some_iff_getElem]
  have e:=getD_some (x:=default) h1
  have e2:ns[i]=nd ns i:=by rw [List.getElem?_eq_getElem h1] at e;exact Option.some.inj e
  refine⟨by simpa using h2,i,h1,e2,fun j hj=>?_⟩
  have e3:ns[j]=nd ns j:=by
    have:=getD_some (x:=default) (show j < ns.length by omega)
    rw [List.getElem?_eq_getElem (by omega)] at this;exact Option.some.inj this
  rw [e3]
  simpa using h3 j hj
theorem ND (h:∀ q,q < ns.length->(nd ns q).id≠root):ns.find? (fun n=>decide (n.id=root))=none:=by
  rw [List.find?_eq_none]
  intro n hn
  obtain⟨q,hq,e⟩:=List.mem_iff_getElem.1 hn
  have e3:ns[q]=nd ns q:=by
    have:=getD_some (x:=default) hq
    rw [List.getElem?_eq_getElem hq] at this;exact Option.some.inj this
  rw [← e,e3]
  simpa using h q hq
theorem Dg (h:¬ jQ X):dh X ns root=179:=if_neg h
theorem zq (h:jQ X) (h2:¬ bp ns):dh X ns root=140:=(if_pos h).trans (if_neg h2)
theorem AV (h:jQ X) (h2:bp ns) (h3:∀ q,q < ns.length->(nd ns q).id≠root):dh X ns root=141:=(if_pos h).trans ((if_pos h2).trans (by rw [ND h3]))
theorem Dh (h:jQ X) (h2:bp ns) (h3:t7 ns root i) (h4:(nd ns i).kind=2):dh X ns root=0:=(if_pos h).trans ((if_pos h2).trans (by rw [Df h3];exact if_pos h4))
theorem Di (h:jQ X) (h2:bp ns) (h3:t7 ns root i) (h4:¬ (nd ns i).kind=2):dh X ns root=173:=(if_pos h).trans ((if_pos h2).trans (by rw [Df h3];exact if_neg h4))
theorem Fe (h:dh X ns root=0):jQ X/\bp ns:=by
  by_cases h1:jQ X
  ·by_cases h2:bp ns
   ·exact⟨h1,h2⟩
   rw [zq h1 h2] at h;exact absurd h (by decide)
  rw [Dg h1] at h;exact absurd h (by decide)
end n
end
section
open Go.RowKit Go.Maps bC aE
attribute [local irreducible] ak aW af aj
noncomputable abbrev ud (b:Nat) (root):=(.blk b [vI (root)] 3:HP)
theorem Qa {β:Bs} (b:Nat) (root z:Int) (v1 v2 v3 v4 v5 v6 v7 v8 v9:Value) :
    Spec Tryz.prog β 50 #[.agg #[vI (z),v1,v2,v3,v4,v5,v6,v7,v8,v9],vP b] [ud b root] (fun v l=>v=.bool (decide (z=root))/\l=[ud b root]):=by
 refine Spec.enter Tryz.func50 rfl Tryz.ntmps50 (Nat.le_of_ble_eq_true rfl) (fun R=>?_)
 refine SR (gN 2 (fun b1=>[(2,vP b1)]) (fun _=>[]) (fun _=>[]) (fun b1=>.blk b1 [vI (z),v1,v2,v3,v4,v5,v6,v7,v8,v9] 108) (fun b1=>?_))
 refine NS (gK 5 [(3,.bool (decide ((z:Int)=(root:Int))))] [(1,a_ 2 b1),(2,a_ 0 b)] ?_)
 refine NN (af.ret ?_)
 exact RT (.bool (decide ((z:Int)=(root:Int)))) [0,1] (⟨rfl,rfl⟩)
theorem H7 {β:Bs} (A:Option Addr) (c:Nat) (ns:List aG) (Y:Lay) (hG:aF β A ns Y) (hl:ns.length<=1048576) (b:Nat) (root:Int) :
    Spec Tryz.prog β 49 #[.slice A (ns.length) (c),.func (.func 50) #[] #[vP b]] [ud b root] (fun v l=>(∃ i:Nat,t7 ns root i/\v=vI (i:Int)/\l=[ud b root])\/((∀ q,q < ns.length->(nd ns q).id≠root)/\v=vI (-1)/\l=[ud b root])):=by
 refine Spec.enter Tryz.func49 rfl Tryz.ntmps49 (Nat.le_of_ble_eq_true rfl) (fun R=>?_)
 refine SR (gK 1 [] [] ?_)
 refine NN (af.seq (SR (gK 3 [(7,vI ↑ns.length),(8,vI 0)] [] ?_)))
 refine NN (af.block ?_)
 refine af.loop (ι:=Nat) (fun (i:Nat)=>(i<=ns.length)/\(∀ q,q < i->(nd ns q).id≠root)) (fun (i:Nat)=>ns.length - i) (fun (i:Nat)=>[(0,.slice A (ns.length) (c)),(1,.func (.func 50) #[] #[vP b]),(7,vI ↑ns.length),(8,vI ↑i)]) (fun (i:Nat)=>[ud b root,.abs R]) 0 (idx:=[0,1,7,8]) (pk:=[0,1]) (show (0<=ns.length)/\(∀ q,q < 0->(nd ns q).id≠root) from ⟨Nat.zero_le _,fun q h=>absurd h (Nat.not_lt_zero q)⟩) (fun _=>by kernel_rfl) rfl (by kernel_rfl) ?_
 rintro i ⟨hi,hlt⟩
 show af _ _ _ _ [(0,.slice A (ns.length) (c)),(1,.func (.func 50) #[] #[vP b]),(7,vI ↑ns.length),(8,vI ↑i)] [ud b root,.abs R] _
 refine SR (gK 1 [(9,.bool (decide ((((i:Nat):Int):Int) < (((ns.length:Nat):Int):Int))))] [] ?_)
 refine NN (af.seq (af.aV (p:=(((i:Nat):Int):Int) < (((ns.length:Nat):Int):Int)) (fun _=>by kernel_rfl) (fun h9=>?_) (fun h9=>?_)))
 ·refine af.skip (NX (af.seq (af.block (SR ?_))))
  refine gK 2 [(5,vI ↑i)] [] ?_
  refine NS (gK 5 [(11,.func (.func 50) #[] #[vP b]),(15,.agg #[vI ((nd ns i).id),vI ((nd ns i).kind),vI ((nd ns i).mode),vI ((nd ns i).uid),vI ((nd ns i).gid),vI ((nd ns i).sec),vI ((nd ns i).nano),.slice (Y.dA i) ((nd ns i).data.length) ((Y.dC i)),.string (nd ns i).target,.slice (Y.eA i) ((nd ns i).ah.length) ((Y.eC i))])] [(3,p_ ⟨[],some i,none,some ⟨(ax A),av A,none⟩,none⟩ [((i:Nat):Int)=((i:Nat):Int),i < ns.length,(⟨(ax A),av A,none⟩:Addr).spot=none,(A:Option Addr)=some ⟨(ax A),av A,none⟩] ⟨rfl,by omega,rfl,aF.hd hG (i:=i) (by omega),trivial⟩),(4,p_ ⟨[.old (.int .i64 ((nd ns i).id)),.old (.int .i64 ((nd ns i).kind)),.old (.int .i64 ((nd ns i).mode)),.old (.int .i64 ((nd ns i).uid)),.old (.int .i64 ((nd ns i).gid)),.old (.int .i64 ((nd ns i).sec)),.old (.int .i64 ((nd ns i).nano)),.old (.slice (Y.dA i) ((nd ns i).data.length) ((Y.dC i))),.old (.string (nd ns i).target),.old (.slice (Y.eA i) ((nd ns i).ah.length) ((Y.eC i)))],none,none,none,none⟩ [(Rd β ⟨(ax A),av A+i * 10+9,none⟩ (.slice (Y.eA i) ((nd ns i).ah.length) ((Y.eC i)))),(Rd β ⟨(ax A),av A+i * 10+8,none⟩ (.string (nd ns i).target)),(Rd β ⟨(ax A),av A+i * 10+7,none⟩ (.slice (Y.dA i) ((nd ns i).data.length) ((Y.dC i)))),(Rd β ⟨(ax A),av A+i * 10+6,none⟩ (.int .i64 ((nd ns i).nano))),(Rd β ⟨(ax A),av A+i * 10+5,none⟩ (.int .i64 ((nd ns i).sec))),(Rd β ⟨(ax A),av A+i * 10+4,none⟩ (.int .i64 ((nd ns i).gid))),(Rd β ⟨(ax A),av A+i * 10+3,none⟩ (.int .i64 ((nd ns i).uid))),(Rd β ⟨(ax A),av A+i * 10+2,none⟩ (.int .i64 ((nd ns i).mode))),(Rd β ⟨(ax A),av A+i * 10+1,none⟩ (.int .i64 ((nd ns i).kind))),(Rd β ⟨(ax A),av A+i * 10,none⟩ (.int .i64 ((nd ns i).id)))] ⟨aF.rd hG (i:=i) (by omega) (j:=9) rfl,aF.rd hG (i:=i) (by omega) (j:=8) rfl,aF.rd hG (i:=i) (by omega) (j:=7) rfl,aF.rd hG (i:=i) (by omega) (j:=6) rfl,aF.rd hG (i:=i) (by omega) (j:=5) rfl,aF.rd hG (i:=i) (by omega) (j:=4) rfl,aF.rd hG (i:=i) (by omega) (j:=3) rfl,aF.rd hG (i:=i) (by omega) (j:=2) rfl,aF.rd hG (i:=i) (by omega) (j:=1) rfl,aF.rd hG (i:=i) (by omega) (j:=0) rfl,trivial⟩)] ?_)
  refine gL [0] (Qa b root ((nd ns i).id) (.int .i64 ((nd ns i).kind)) (.int .i64 ((nd ns i).mode)) (.int .i64 ((nd ns i).uid)) (.int .i64 ((nd ns i).gid)) (.int .i64 ((nd ns i).sec)) (.int .i64 ((nd ns i).nano)) (.slice (Y.dA i) ((nd ns i).data.length) ((Y.dC i))) (.string (nd ns i).target) (.slice (Y.eA i) ((nd ns i).ah.length) ((Y.eC i)))) ?_
  rintro _ _ ⟨rfl,rfl⟩
  refine NN (af.aV (p:=(nd ns i).id=root) (fun _=>by kernel_rfl) (fun vK=>?_) (fun vK=>?_))
  ·refine SR (gK 2 [(4,vI ↑i)] [] ?_)
   refine NN (af.ret (aj.aL (aj.aq (aj.aq (aj.aL (aj.aq ?_))))))
   exact RT (vI ↑i) [0,1] (.inl ⟨i,⟨by omega,vK,hlt⟩,rfl,rfl⟩)
  refine af.skip (aj.aP (NX (af.region ?_)))
  refine gK 2 [(8,vI ↑(i+1))] [(0,p_ ⟨[],none,none,none,some (vI ↑(i+1))⟩ [(Value.int .i64 (IntKind.wrap .i64 (((i:Nat):Int)+1)))=(.int .i64 ↑(i+1))] ⟨bB (by omega) (by omega) (by omega),trivial⟩)] ?_
  refine NL ?_
  exact aj.turn ((i+1)) (idx:=[0,1,7,8]) (pk:=[0,1]) (show (((i+1))<=ns.length)/\(∀ q,q < ((i+1))->(nd ns q).id≠root) from ⟨by omega,fun q hq=>(Nat.lt_succ_iff_lt_or_eq.1 hq).elim (hlt q) (fun e=>e ▸ vK)⟩) (by show ns.length - ((i+1)) < ns.length - i;omega) (fun _=>by kernel_rfl) rfl (by kernel_rfl)
 refine af.exit (aj.aU (aj.aU (aj.cK (NX (SR ?_)))))
 refine gK 1 [(4,vI (-1))] [] ?_
 refine NN (af.ret ?_)
 exact RT (vI (-1)) [0,1] (.inr ⟨fun q hq=>hlt q (by omega),rfl,rfl⟩)
theorem Ut {β:Bs} (b:Nat) :
    Spec Tryz.prog β 51 #[.iface 39 (vP b)] [] (fun v l=>v=.agg #[.iface 39 (vP b)]/\l=[]):=by
 refine Spec.enter Tryz.func51 rfl Tryz.ntmps51 (Nat.le_of_ble_eq_true rfl) (fun R=>?_)
 refine SR (gN 1 (fun b2=>[(2,vP b2)]) (fun _=>[]) (fun _=>[]) (fun b2=>.blk b2 [.nilIface] 48) (fun b2=>?_))
 refine NS (gC 3 [] [(2,a_ 1 b2)] [(1,[(0,.iface 39 (vP b))])] ?_)
 refine NN (af.ret ?_)
 exact aj.ret (v:=.agg #[.iface 39 (vP b)]) (l:=[]) (aZ:=[b2=b2]) [.at 1] [0] (fun _=>by kernel_rfl) ⟨rfl,trivial⟩ rfl (by kernel_rfl) (⟨rfl,rfl⟩)
end
section
open Go.RowKit Go.Maps bC aE
attribute [local irreducible] ak aW af aj
abbrev x6 (t)(S:aI) (L:HL):=(pT t S.X.cH S.aD L S.us:HP)
abbrev Rq (m:Nat) (L:HL) (S:aI) (cb:Nat) (c) (R:bV):=([pI m L S.idx,pD S.O L,pE S.O L,pC cb c,.abs R]:List HP)
abbrev YA (f:Nat) (c:aB):=([(8,vP f),(12,vI (c.handle)),(16,.string c.name)]:Fr)
abbrev YB (L:HL) (d:Nat):=([(5,vP (L.b d)),(6,vI 0)]:Fr)
abbrev Rs (f:Nat) (m:Nat) (t) (S:aI) (L:HL):=([pF f m t S.X,x6 t S L,pO S.O L]:List HP)
abbrev YC (e):=([(5,.pointer none),(6,vI (e))]:Fr)
theorem uN {β:Bs} (S:aI) (L:HL) (f m t:Nat) (hI:Inv S) (cb:Nat) (c:aB) (hC:lq β c) :
    Spec Tryz.prog β 188 #[vP f,vP cb] ((pA f m t L S)++[pC cb c]) (fun v l=>v=Xt L (fB S.O S.us c)/\l=((pA f m t L S)++[pC cb c])):=by
 refine Spec.enter Tryz.func188 rfl Tryz.ntmps188 (Nat.le_of_ble_eq_true rfl) (fun R=>?_)
 refine SR (gK 2 [] [] ?_)
 refine NN (af.seq (af.eP (by kernel_rfl) (by kernel_rfl) ?_))
 refine gQ 9 [(10,vP f),(14,vI (c.handle)),(18,.string c.name)] [(4,a_ 6 cb),(8,a_ 6 cb)] ?_
 rcases yR hI.toInv0 c.handle c.name 64 with ⟨e,hab,hne⟩|⟨d,hab,hd,kq,hgn,iJ⟩
 ·refine aW.call (f:=189) (args:=#[vP f,vI (c.handle),.string c.name,vI 64]) (d:=(some 19)) (pre:=(Rs f m t S L)) (R:=(Rq m L S cb c R)) (pk:=[0,2,3,1,4,5,6,7]) (yg:=[0,3,1,2,4,5,6,7]) (v0:=.tuple #[.pointer none,vI (e)]) (fun _=>by kernel_rfl) ((by have h:=uJ S L f m t hI c.handle hC.hw c.name hC.nm 64 (β:=β);rw [hab] at h;exact h)) rfl (by kernel_rfl) rfl (by kernel_rfl) (fun _ _ h=>h) ?_
  refine gQ 5 [(6,.pointer none),(7,vI (e))] [] ?_
  refine NQ (NX (af.seq (SR ?_)))
  refine gK 2 [(23,.bool (!(decide ((e:Int)=(0:Int)))))] [] ?_
  refine NN (af.gT (p:=(e:Int)=(0:Int)) (fun _=>by kernel_rfl) (fun h23=>?_) (fun h23=>?_))
  ·refine SR (gK 3 [(4,.nilIface),(5,vI (e))] [] ?_)
   refine NN (af.ret (aj.aq ?_))
   exact RT (.tuple #[.nilIface,vI (e)]) [0,1,2,3,4,5,6,7] (⟨by rw [show fB S.O S.us c=.error e by unfold fB;rw [hab]];rfl,rfl⟩)
  exact absurd h23 hne
 have hkd:(obj S.O d).kind=2:=hI.kind hd
 refine aW.call (f:=189) (args:=#[vP f,vI (c.handle),.string c.name,vI 64]) (d:=(some 19)) (pre:=(Rs f m t S L)) (R:=(Rq m L S cb c R)) (pk:=[0,2,3,1,4,5,6,7]) (yg:=[0,3,1,2,4,5,6,7]) (v0:=.tuple #[vP (L.b d),vI 0]) (fun _=>by kernel_rfl) ((by have h:=uJ S L f m t hI c.handle hC.hw c.name hC.nm 64 (β:=β);rw [hab] at h;exact h)) rfl (by kernel_rfl) rfl (by kernel_rfl) (fun _ _ h=>h) ?_
 refine gQ 5 [(6,vP (L.b d)),(7,vI 0)] [] ?_
 refine NQ (NX (af.seq (SR ?_)))
 refine gK 2 [(23,.bool false)] [] ?_
 refine NN (CF (af.skip (NX (af.seq ?_))))
 have hel:(obj S.O d).ah.length<=8192:=hI.iL hd
 have Zn:=hC.nm
 rcases hI.pZ hd c.name with hlk|⟨tk,hlk,hlv⟩|⟨tk,hlk,hlv⟩|⟨tk,hlk,hlv⟩
 ·refine af.eP (by kernel_rfl) (by kernel_rfl) ?_
  refine gQ 8 [(28,.map (some (L.m d))),(32,.string c.name)] [(3,v_ 3 (bP L hkd)),(7,a_ 6 cb)] ?_
  refine Rb 5 hkd hlk ?_
  refine gQ 1 [(8,.nilIface)] [] ?_
  refine NQ (NX (af.seq (SR ?_)))
  refine gK 2 [(35,.bool true)] [] ?_
  refine NN (CT (SR (gK 2 [(4,.nilIface),(5,vI 170)] [] ?_)))
  refine NN (af.ret (aj.aq ?_))
  exact RT (.tuple #[.nilIface,vI 170]) [0,1,2,3,4,5,6,7] (⟨by rw [show fB S.O S.us c=.error 170 by unfold fB;rw [hab];simp only;rw [hlk]];rfl,rfl⟩)
 ·have hkt:(obj S.O tk).kind=1:=hI.kind hlv
  refine af.eP (by kernel_rfl) (by kernel_rfl) ?_
  refine gQ 8 [(28,.map (some (L.m d))),(32,.string c.name)] [(3,v_ 3 (bP L hkd)),(7,a_ 6 cb)] ?_
  refine Rb 5 hkd hlk ?_
  refine gQ 1 [(8,.iface 162 (vP (L.b tk)))] [] ?_
  refine NQ (NX (af.seq (SR ?_)))
  refine gK 2 [(35,.bool false)] [] ?_
  refine NN (CF (af.skip (NX (SR (gK 3 [(4,.iface 162 (vP (L.b tk))),(5,vI 0)] [] ?_)))))
  refine NN (af.ret ?_)
  exact RT (.tuple #[.iface 162 (vP (L.b tk)),vI 0]) [0,1,2,3,4,5,6,7] (⟨by rw [show fB S.O S.us c=.ok ⟨tk,1⟩ by unfold fB;rw [hab];simp only;rw [hlk]];rfl,rfl⟩)
 ·have hkt:(obj S.O tk).kind=2:=hI.kind hlv
  refine af.eP (by kernel_rfl) (by kernel_rfl) ?_
  refine gQ 8 [(28,.map (some (L.m d))),(32,.string c.name)] [(3,v_ 3 (bP L hkd)),(7,a_ 6 cb)] ?_
  refine Rb 5 hkd hlk ?_
  refine gQ 1 [(8,.iface 169 (vP (L.b tk)))] [] ?_
  refine NQ (NX (af.seq (SR ?_)))
  refine gK 2 [(35,.bool false)] [] ?_
  refine NN (CF (af.skip (NX (SR (gK 3 [(4,.iface 169 (vP (L.b tk))),(5,vI 0)] [] ?_)))))
  refine NN (af.ret ?_)
  exact RT (.tuple #[.iface 169 (vP (L.b tk)),vI 0]) [0,1,2,3,4,5,6,7] (⟨by rw [show fB S.O S.us c=.ok ⟨tk,2⟩ by unfold fB;rw [hab];simp only;rw [hlk]];rfl,rfl⟩)
 have hkt:(obj S.O tk).kind=3:=hI.kind hlv
 refine af.eP (by kernel_rfl) (by kernel_rfl) ?_
 refine gQ 8 [(28,.map (some (L.m d))),(32,.string c.name)] [(3,v_ 3 (bP L hkd)),(7,a_ 6 cb)] ?_
 refine Rb 5 hkd hlk ?_
 refine gQ 1 [(8,.iface 166 (vP (L.b tk)))] [] ?_
 refine NQ (NX (af.seq (SR ?_)))
 refine gK 2 [(35,.bool false)] [] ?_
 refine NN (CF (af.skip (NX (SR (gK 3 [(4,.iface 166 (vP (L.b tk))),(5,vI 0)] [] ?_)))))
 refine NN (af.ret ?_)
 exact RT (.tuple #[.iface 166 (vP (L.b tk)),vI 0]) [0,1,2,3,4,5,6,7] (⟨by rw [show fB S.O S.us c=.ok ⟨tk,3⟩ by unfold fB;rw [hab];simp only;rw [hlk]];rfl,rfl⟩)
theorem Lr {β:Bs} (S:aI) (L:HL) (f m t:Nat) (hI:Inv S) (cb:Nat) (c:aB) (hC:lq β c) :
    Spec Tryz.prog β 172 #[vP f,vP cb] ((pA f m t L S)++[pC cb c]) (fun v l=>∃ L2,v=vI (jk S c).1/\l=((pA f m t L2 ((jk S c).2.1))++[.blk cb (dr ((jk S c).2.2)) 88])):=by
 have hX:=hI.hX
 refine Spec.enter Tryz.func172 rfl Tryz.ntmps172 (Nat.le_of_ble_eq_true rfl) (fun R=>?_)
 refine SR (gK 1 [] [] ?_)
 refine NN (af.seq ?_)
 rcases hI.TG c.other with hix|⟨tk,hix,hlv⟩|⟨tk,hix,hlv⟩|⟨tk,hix,hlv⟩
 ·refine af.eP (by kernel_rfl) (by kernel_rfl) ?_
  refine gQ 8 [(10,.map (some m)),(14,vI (c.other))] [(3,a_ 0 f),(7,a_ 6 cb)] ?_
  refine aW.dR 1 (d:=(some 15)) (t:=151) (K:=3) (E:=156) (b:=m) (n:=S.idx.length) (f:=(bE (bI L S.idx))) (x:=(.tmp 10)) (ix:=(.tmp 14)) (key:=.int .i64 (c.other)) (z:=.nilIface) (kl:=(.int .i64 c.other)) (r:=none) (fun _=>by kernel_rfl) (by kernel_rfl) (fun _=>by kernel_rfl) (fun _=>by kernel_rfl) dG Tryz.underlying151 (fun _=>by kernel_rfl) (iK hC.ow) (by rw [fQ,hix];rfl) ?_
  refine gQ 1 [(5,.nilIface)] [] ?_
  refine NQ (NX (af.seq (SR ?_)))
  refine gK 2 [(17,.bool true)] [] ?_
  refine NN (CT (SR (gK 1 [(4,vI 141)] [] ?_)))
  refine NN (af.ret (aj.aq ?_))
  exact RT (vI 141) [0,1,2,3,4,5,6,7] (⟨L,by rw [show (jk S c)=(141,S,c) by unfold jk;rw [hix]]<;>exact⟨rfl,rfl⟩⟩)
 ·have hkt:(obj S.O tk).kind=1:=hI.kind hlv
  refine af.eP (by kernel_rfl) (by kernel_rfl) ?_
  refine gQ 8 [(10,.map (some m)),(14,vI (c.other))] [(3,a_ 0 f),(7,a_ 6 cb)] ?_
  refine aW.dR 1 (d:=(some 15)) (t:=151) (K:=3) (E:=156) (b:=m) (n:=S.idx.length) (f:=(bE (bI L S.idx))) (x:=(.tmp 10)) (ix:=(.tmp 14)) (key:=.int .i64 (c.other)) (z:=.nilIface) (kl:=(.int .i64 c.other)) (r:=(some (ez L ⟨tk,1⟩))) (fun _=>by kernel_rfl) (by kernel_rfl) (fun _=>by kernel_rfl) (fun _=>by kernel_rfl) dG Tryz.underlying151 (fun _=>by kernel_rfl) (iK hC.ow) (by rw [fQ,hix];rfl) ?_
  refine gQ 1 [(5,.iface 162 (vP (L.b tk)))] [] ?_
  refine NQ (NX (af.seq (SR ?_)))
  refine gK 2 [(17,.bool false)] [] ?_
  refine NN (CF (af.skip (NX (af.seq (SR (gK 1 [(18,.iface 162 (vP (L.b tk)))] [] ?_))))))
  refine gL [] (qK (vP (L.b tk))) ?_
  rintro _ _ ⟨rfl,rfl⟩
  refine gK 1 [(20,.bool true)] [] ?_
  refine NN (CT (SR (gK 1 [(4,vI 173)] [] ?_)))
  refine NN (af.ret (aj.aq ?_))
  exact RT (vI 173) [0,1,2,3,4,5,6,7] (⟨L,by rw [show (jk S c)=(173,S,c) by unfold jk;rw [hix];exact if_neg (by simp)]<;>exact⟨rfl,rfl⟩⟩)
 ·have hkt:(obj S.O tk).kind=2:=hI.kind hlv
  refine af.eP (by kernel_rfl) (by kernel_rfl) ?_
  refine gQ 8 [(10,.map (some m)),(14,vI (c.other))] [(3,a_ 0 f),(7,a_ 6 cb)] ?_
  refine aW.dR 1 (d:=(some 15)) (t:=151) (K:=3) (E:=156) (b:=m) (n:=S.idx.length) (f:=(bE (bI L S.idx))) (x:=(.tmp 10)) (ix:=(.tmp 14)) (key:=.int .i64 (c.other)) (z:=.nilIface) (kl:=(.int .i64 c.other)) (r:=(some (ez L ⟨tk,2⟩))) (fun _=>by kernel_rfl) (by kernel_rfl) (fun _=>by kernel_rfl) (fun _=>by kernel_rfl) dG Tryz.underlying151 (fun _=>by kernel_rfl) (iK hC.ow) (by rw [fQ,hix];rfl) ?_
  refine gQ 1 [(5,.iface 169 (vP (L.b tk)))] [] ?_
  refine NQ (NX (af.seq (SR ?_)))
  refine gK 2 [(17,.bool false)] [] ?_
  refine NN (CF (af.skip (NX (af.seq (SR (gK 1 [(18,.iface 169 (vP (L.b tk)))] [] ?_))))))
  refine gL [] (qL (vP (L.b tk))) ?_
  rintro _ _ ⟨rfl,rfl⟩
  refine gK 1 [(20,.bool false)] [] ?_
  refine NN (CF (af.skip (NX (SR (gK 1 [] [] ?_)))))
  refine NS (gK 3 [(22,vP cb),(23,vP f),(24,.iface 169 (vP (L.b tk)))] [] ?_)
  refine gL [0,2,3] (Hu S L f m t ⟨tk,2⟩ hkt (by simp) (by have:=hI.GK hlv;simp only at this ⊢;omega)) ?_
  rintro _ _ ⟨rfl,rfl⟩
  refine gC 7 [(6,vI ((cW S ⟨tk,2⟩).2.1))] [(5,a_ 6 cb)] [(6,[(12,vI ((cW S ⟨tk,2⟩).1))])] ?_
  refine NS (ak.eZ [(4,.abs (aH (ct ((cW S ⟨tk,2⟩).2.2.O) L))),(5,.abs (aH (dg ((cW S ⟨tk,2⟩).2.2.O) L)))] (fun w hS=>by rw [GW,GX];exact hS) ?_)
  refine gK 2 [(4,vI ((cW S ⟨tk,2⟩).2.1))] [] ?_
  refine NN (af.ret ?_)
  exact RT (vI ((cW S ⟨tk,2⟩).2.1)) [0,3,1,2,4,5,6,7] (⟨L,by rw [show (jk S c)=((cW S ⟨tk,2⟩).2.1,(cW S ⟨tk,2⟩).2.2,{ c with answer:=(cW S ⟨tk,2⟩).1 }) by unfold jk;rw [hix];exact if_pos rfl]<;>exact⟨rfl,rfl⟩⟩)
 have hkt:(obj S.O tk).kind=3:=hI.kind hlv
 refine af.eP (by kernel_rfl) (by kernel_rfl) ?_
 refine gQ 8 [(10,.map (some m)),(14,vI (c.other))] [(3,a_ 0 f),(7,a_ 6 cb)] ?_
 refine aW.dR 1 (d:=(some 15)) (t:=151) (K:=3) (E:=156) (b:=m) (n:=S.idx.length) (f:=(bE (bI L S.idx))) (x:=(.tmp 10)) (ix:=(.tmp 14)) (key:=.int .i64 (c.other)) (z:=.nilIface) (kl:=(.int .i64 c.other)) (r:=(some (ez L ⟨tk,3⟩))) (fun _=>by kernel_rfl) (by kernel_rfl) (fun _=>by kernel_rfl) (fun _=>by kernel_rfl) dG Tryz.underlying151 (fun _=>by kernel_rfl) (iK hC.ow) (by rw [fQ,hix];rfl) ?_
 refine gQ 1 [(5,.iface 166 (vP (L.b tk)))] [] ?_
 refine NQ (NX (af.seq (SR ?_)))
 refine gK 2 [(17,.bool false)] [] ?_
 refine NN (CF (af.skip (NX (af.seq (SR (gK 1 [(18,.iface 166 (vP (L.b tk)))] [] ?_))))))
 refine gL [] (qM (vP (L.b tk))) ?_
 rintro _ _ ⟨rfl,rfl⟩
 refine gK 1 [(20,.bool true)] [] ?_
 refine NN (CT (SR (gK 1 [(4,vI 173)] [] ?_)))
 refine NN (af.ret (aj.aq ?_))
 exact RT (vI 173) [0,1,2,3,4,5,6,7] (⟨L,by rw [show (jk S c)=(173,S,c) by unfold jk;rw [hix];exact if_neg (by simp)]<;>exact⟨rfl,rfl⟩⟩)
theorem FD {β:Bs} (S:aI) (L:HL) (f m t:Nat) (hI:Inv S) (cb:Nat) (c:aB) (hC:lq β c) :
    Spec Tryz.prog β 173 #[vP f,vP cb] ((pA f m t L S)++[pC cb c]) (fun v l=>∃ L2,v=vI (eV S c).1/\l=((pA f m t L2 ((eV S c).2.1))++[.blk cb (dr ((eV S c).2.2)) 88])):=by
 have hX:=hI.hX
 refine Spec.enter Tryz.func173 rfl Tryz.ntmps173 (Nat.le_of_ble_eq_true rfl) (fun R=>?_)
 refine SR (gK 1 [] [] ?_)
 refine NS (gK 2 [(8,vP f),(9,vP cb)] [] ?_)
 rcases MZ hI.toInv0 c with ⟨e,hnm,hne⟩|⟨tk,hnm,hlv⟩|⟨tk,hnm,hlv⟩|⟨tk,hnm,hlv⟩
 ·refine gL (f:=188) (args:=#[vP f,vP cb]) (pre:=((pA f m t L S)++[pC cb c])) [0,1,2,3,4,5,6] ((by have h:=uN S L f m t hI cb c hC (β:=β);rw [hnm] at h;exact h)) ?_
  rintro _ _ ⟨rfl,rfl⟩
  refine gK 5 [(5,.nilIface),(6,vI (e))] [] ?_
  refine NN (af.seq (SR (gK 2 [(14,.bool (!(decide ((e:Int)=(0:Int)))))] [] ?_)))
  refine NN (af.gT (p:=(e:Int)=(0:Int)) (fun _=>by kernel_rfl) (fun ko=>?_) (fun ko=>?_))
  ·refine SR (gK 2 [(4,vI (e))] [] ?_)
   refine NN (af.ret (aj.aq ?_))
   exact RT (vI (e)) [0,1,2,3,4,5,6,7] (⟨L,by rw [show (eV S c)=(e,S,c) by unfold eV;rw [hnm]]<;>exact⟨rfl,rfl⟩⟩)
  exact absurd ko hne
 ·have hkt:(obj S.O tk).kind=1:=hI.kind hlv
  refine gL (f:=188) (args:=#[vP f,vP cb]) (pre:=((pA f m t L S)++[pC cb c])) [0,1,2,3,4,5,6] ((by have h:=uN S L f m t hI cb c hC (β:=β);rw [hnm] at h;exact h)) ?_
  rintro _ _ ⟨rfl,rfl⟩
  refine gK 5 [(5,.iface 162 (vP (L.b tk))),(6,vI 0)] [] ?_
  refine NN (af.seq (SR (gK 2 [(14,.bool false)] [] ?_)))
  refine NN (CF (af.skip (NX (af.seq (SR (gK 1 [(16,.iface 162 (vP (L.b tk)))] [] ?_))))))
  refine NN (af.block (SR ?_))
  refine gK 3 [(18,.bool false)] [] ?_
  refine NN (CF (SR (gK 3 [(21,.bool true)] [] ?_)))
  refine NN (CT (SR (gK 1 [(4,vI 173)] [] ?_)))
  refine NN (af.ret (aj.aL (aj.aq ?_)))
  exact RT (vI 173) [0,1,2,3,4,5,6,7] (⟨L,by rw [show (eV S c)=(173,S,c) by unfold eV;rw [hnm];exact (if_neg (by simp)).trans (if_pos rfl)]<;>exact⟨rfl,rfl⟩⟩)
 ·have hkt:(obj S.O tk).kind=2:=hI.kind hlv
  refine gL (f:=188) (args:=#[vP f,vP cb]) (pre:=((pA f m t L S)++[pC cb c])) [0,1,2,3,4,5,6] ((by have h:=uN S L f m t hI cb c hC (β:=β);rw [hnm] at h;exact h)) ?_
  rintro _ _ ⟨rfl,rfl⟩
  refine gK 5 [(5,.iface 169 (vP (L.b tk))),(6,vI 0)] [] ?_
  refine NN (af.seq (SR (gK 2 [(14,.bool false)] [] ?_)))
  refine NN (CF (af.skip (NX (af.seq (SR (gK 1 [(16,.iface 169 (vP (L.b tk)))] [] ?_))))))
  refine NN (af.block (SR ?_))
  refine gK 3 [(18,.bool false)] [] ?_
  refine NN (CF (SR (gK 3 [(21,.bool false)] [] ?_)))
  refine NN (CF (af.skip (aj.aP (NX (SR ?_)))))
  refine gK 3 [(24,vP cb),(25,vP f),(26,.iface 169 (vP (L.b tk)))] [] ?_
  refine gL [0,2,3] (Hu S L f m t ⟨tk,2⟩ hkt (by simp) (by have:=hI.GK hlv;simp only at this ⊢;omega)) ?_
  rintro _ _ ⟨rfl,rfl⟩
  refine gC 7 [(6,vI ((cW S ⟨tk,2⟩).2.1))] [(5,a_ 6 cb)] [(6,[(12,vI ((cW S ⟨tk,2⟩).1))])] ?_
  refine NS (ak.eZ [(4,.abs (aH (ct ((cW S ⟨tk,2⟩).2.2.O) L))),(5,.abs (aH (dg ((cW S ⟨tk,2⟩).2.2.O) L)))] (fun w hS=>by rw [GW,GX];exact hS) ?_)
  refine gK 2 [(4,vI ((cW S ⟨tk,2⟩).2.1))] [] ?_
  refine NN (af.ret ?_)
  exact RT (vI ((cW S ⟨tk,2⟩).2.1)) [0,3,1,2,4,5,6,7] (⟨L,by rw [show (eV S c)=((cW S ⟨tk,2⟩).2.1,(cW S ⟨tk,2⟩).2.2,{ c with answer:=(cW S ⟨tk,2⟩).1 }) by unfold eV;rw [hnm];exact (if_neg (by simp)).trans (if_neg (by simp))]<;>exact⟨rfl,rfl⟩⟩)
 have hkt:(obj S.O tk).kind=3:=hI.kind hlv
 refine gL (f:=188) (args:=#[vP f,vP cb]) (pre:=((pA f m t L S)++[pC cb c])) [0,1,2,3,4,5,6] ((by have h:=uN S L f m t hI cb c hC (β:=β);rw [hnm] at h;exact h)) ?_
 rintro _ _ ⟨rfl,rfl⟩
 refine gK 5 [(5,.iface 166 (vP (L.b tk))),(6,vI 0)] [] ?_
 refine NN (af.seq (SR (gK 2 [(14,.bool false)] [] ?_)))
 refine NN (CF (af.skip (NX (af.seq (SR (gK 1 [(16,.iface 166 (vP (L.b tk)))] [] ?_))))))
 refine NN (af.block (SR ?_))
 refine gK 3 [(18,.bool true)] [] ?_
 refine NN (CT (SR (gK 1 [(4,vI 174)] [] ?_)))
 refine NN (af.ret (aj.aL (aj.aq ?_)))
 exact RT (vI 174) [0,1,2,3,4,5,6,7] (⟨L,by rw [show (eV S c)=(174,S,c) by unfold eV;rw [hnm];exact if_pos rfl]<;>exact⟨rfl,rfl⟩⟩)
theorem Jp {β:Bs} (S:aI) (L:HL) (f m t:Nat) (hI:Inv S) (cb:Nat) (c:aB) (hC:lq β c) :
    Spec Tryz.prog β 175 #[vP f,vP cb] ((pA f m t L S)++[pC cb c]) (fun v l=>∃ L2,v=vI (fU S c).1/\l=((pA f m t L2 ((fU S c).2.1))++[.blk cb (dr ((fU S c).2.2)) 88])):=by
 have hX:=hI.hX
 refine Spec.enter Tryz.func175 rfl Tryz.ntmps175 (Nat.le_of_ble_eq_true rfl) (fun R=>?_)
 refine SR (gK 1 [] [] ?_)
 refine NN (af.seq (af.eP (by kernel_rfl) (by kernel_rfl) ?_))
 refine gQ 9 (YA f c) [(4,a_ 6 cb),(8,a_ 6 cb)] ?_
 rcases yR hI.toInv0 c.handle c.name 192 with ⟨e,hab,hne⟩|⟨d,hab,hd,kq,hgn,iJ⟩
 ·refine aW.call (f:=189) (args:=#[vP f,vI (c.handle),.string c.name,vI 192]) (d:=(some 17)) (pre:=(Rs f m t S L)) (R:=(Rq m L S cb c R)) (pk:=[0,2,3,1,4,5,6,7]) (yg:=[0,3,1,2,4,5,6,7]) (v0:=.tuple #[.pointer none,vI (e)]) (fun _=>by kernel_rfl) ((by have h:=uJ S L f m t hI c.handle hC.hw c.name hC.nm 192 (β:=β);rw [hab] at h;exact h)) rfl (by kernel_rfl) rfl (by kernel_rfl) (fun _ _ h=>h) ?_
  refine gQ 5 (YC e) [] ?_
  refine NQ (NX (af.seq (SR ?_)))
  refine gK 2 [(21,.bool (!(decide ((e:Int)=(0:Int)))))] [] ?_
  refine NN (af.gT (p:=(e:Int)=(0:Int)) (fun _=>by kernel_rfl) (fun Rj=>?_) (fun Rj=>?_))
  ·refine SR (gK 2 [(4,vI (e))] [] ?_)
   refine NN (af.ret (aj.aq ?_))
   exact RT (vI (e)) [0,1,2,3,4,5,6,7] (⟨L,by rw [show (fU S c)=(e,S,c) by unfold fU;rw [hab]]<;>exact⟨rfl,rfl⟩⟩)
  exact absurd Rj hne
 have hkd:(obj S.O d).kind=2:=hI.kind hd
 refine aW.call (f:=189) (args:=#[vP f,vI (c.handle),.string c.name,vI 192]) (d:=(some 17)) (pre:=(Rs f m t S L)) (R:=(Rq m L S cb c R)) (pk:=[0,2,3,1,4,5,6,7]) (yg:=[0,3,1,2,4,5,6,7]) (v0:=.tuple #[vP (L.b d),vI 0]) (fun _=>by kernel_rfl) ((by have h:=uJ S L f m t hI c.handle hC.hw c.name hC.nm 192 (β:=β);rw [hab] at h;exact h)) rfl (by kernel_rfl) rfl (by kernel_rfl) (fun _ _ h=>h) ?_
 refine gQ 5 (YB L d) [] ?_
 refine NQ (NX (af.seq (SR ?_)))
 refine gK 2 [(21,.bool false)] [] ?_
 refine NN (CF (af.skip (NX (af.seq (SR (gK 4 [(26,vI (c.mode))] [(3,a_ 6 cb)] ?_))))))
 refine gL [] (sY (c.mode) 4095) ?_
 rintro _ _ ⟨rfl,rfl⟩
 refine gK 1 [(28,.bool (!(decide (0<=c.mode/\c.mode<=4095))))] [] ?_
 refine NN (af.gT (p:=0<=c.mode/\c.mode<=4095) (fun _=>by kernel_rfl) (fun Ff=>?_) (fun Ff=>?_))
 ·refine SR (gK 1 [(4,vI 120)] [] ?_)
  refine NN (af.ret (aj.aq ?_))
  exact RT (vI 120) [0,1,2,3,4,5,6,7] (⟨L,by rw [show (fU S c)=(120,S,c) by unfold fU;rw [hab];exact if_neg Ff]<;>exact⟨rfl,rfl⟩⟩)
 refine af.skip (NX (af.seq (af.cA (S:=[pC cb c]) [0,1,2,3,4,5,6,7,8,9,10,11] 10 [6] (by kernel_rfl) (by kernel_rfl) rfl (by kernel_rfl) ?_)))
 refine gR 0 [10,11] [(29,vP f),(30,vP (L.b d)),(34,.string c.name),(38,vI (c.mode))] [0,1,2,3,4,5,6,7,8,9] [(5,a_ 0 cb),(9,a_ 0 cb)] ?_
 refine mL [6] [0,1,2,3,4,5] (E7 S L f m t hI d hd c.name hC.nm c.mode) ?_ (by rintro _ _ ⟨L2,rfl,rfl⟩;rfl)
 rintro _ _ ⟨L2,rfl,rfl⟩
 refine aS.last rfl rfl ?_
 refine gK 1 [(4,vI ((fX S d c.name c.mode).1))] [] ?_
 refine NL (aj.np (NX (af.ret ?_)))
 exact RT (vI ((fX S d c.name c.mode).1)) [0,1,2,3,4,5,6,7] (⟨L2,by rw [show (fU S c)=((fX S d c.name c.mode).1,(fX S d c.name c.mode).2,c) by unfold fU;rw [hab];exact if_pos Ff]<;>exact⟨rfl,rfl⟩⟩)
end
section
open Go.RowKit
section order
variable {P:Program} {ops:Array Oper} {Q Q':Post} {n:Nat} {S:World->Prop}
def fY (P:Program) (ops:Array Oper) (Q:Post) (S:World->Prop):List (Bool×Nat)->Act->World->Prop
  | [],a,w=>Q .normal a w
  | (false,i)::l,a,w=>wpOp P ops Q i (fun a' w'=>(l=[]\/S w')/\fY P ops Q S l a' w') a w
  | (true,i)::l,a,w=>∃ o v,ops[i]?=some o/\YieldsIf P ops S o v a/\fY P ops Q S l (a.put o.dst v) w
def uO (ops:Array Oper) (n:Nat):List (Bool×Nat)->Array Bool->Bool
  | [],listed=>(Region.ready .any ops listed).isEmpty
  | (false,i)::l,listed=>(Region.ready .any ops listed == [i]) && (!l.isEmpty || i == n) && uO ops n l (listed.setIfInBounds i true)
  | (true,i)::l,listed=>decide (i < n) && Region.free .any ops listed i && (Region.ready .any ops listed).contains i && uO ops n l (listed.setIfInBounds i true)
theorem qR (hsel:Region.noSelect ops=true) (kI:Region.sinkB .any ops n=true):∀ (l:List (Bool×Nat)) (listed:Array Bool) (a:Act) (w:World),uO ops n l listed=true->Closed ops listed->(l=[]\/S w)->fY P ops (NP Q) S l a w->iP P ops (NP Q) n S l.length listed a w
  | [],listed,a,w,hb,_,_,h=>⟨List.isEmpty_iff.1 hb,h⟩
  | (false,i)::l,listed,a,w,hb,hc,_,h=>by
    unfold uO at hb
    simp only [Bool.and_eq_true,beq_iff_eq] at hb
    obtain⟨⟨h1,h2⟩,h3⟩:=hb
    refine⟨fun h0=>(by rw [h1] at h0;cases h0),fun j hj=>?_⟩
    have hr:=hj
    rw [h1] at hj
    have hj:j=i:=by simpa using hj
    subst hj
    refine wpOp_mono (fun a' w' h4=>⟨?_,qR hsel kI l _ a' w' h3 (hc.set hr) h4.1 h4.2⟩) h
    rcases h4.1 with h5|h5
    ·subst h5;exact .inl (by simpa using h2)
    exact .inr h5
  | (true,i)::l,listed,a,w,hb,hc,hS,h=>by
    unfold uO at hb
    simp only [Bool.and_eq_true,decide_eq_true_iff] at hb
    obtain⟨⟨⟨h1,h2⟩,h3⟩,h4⟩:=hb
    obtain⟨o,v,ho,hy,hk⟩:=h
    have hS:S w:=hS.resolve_left (by simp)
    have hr:i∈Region.ready .any ops listed:=by simpa using h3
    exact pV ho hsel kI h1 l.length listed a w hc (Region.free_spec ho h2) hr hy hS (qR hsel kI l _ _ w h4 (hc.set hr) (.inr hS) hk)
def Aj (ops:Array Oper) (l:List (Bool×Nat)):Bool:=
  Region.noSelect ops && Region.sinkB .any ops (ops.size - 1) && (l.length == ops.size) && uO ops (ops.size - 1) l (Array.replicate ops.size false)
def oo (ops:Array Oper) (i:Nat):Array Oper:=⟨ops.toList.take (i+1)⟩
def gB (ops:Array Oper) (i:Nat):Bool:=match ops[i]? with
  | some o=>match o.guard with
    | none=>true
    | some (j,_)=>decide (j<=i)
  | none=>false
theorem NE {i j:Nat} (h:j<=i):(oo ops i)[j]?=ops[j]?:=by
  unfold oo
  obtain⟨l⟩:=ops
  simp only [List.getElem?_toArray,List.getElem?_take]
  rw [if_pos (by omega)]
theorem nB {i:Nat} {a:Act} {w:World} {K:Act->World->Prop} (hg:gB ops i=true) (h:wpList P (oo ops i) (NP fun _ a w=>K a w) ((oo ops i).toList.drop i) a w):wpOp P ops (NP Q) i K a w:=by
  unfold gB at hg
  split at hg
  ·rename_i o ho
   have hd:(oo ops i).toList.drop i=[o]:=by
     have hl:ops.toList[i]?=some o:=by simpa using ho
     have hi:i < ops.toList.length:=bq hl
     show (ops.toList.take (i+1)).drop i=[o]
     rw [List.drop_take]
     rw [show i+1 - i=1 by omega,List.drop_eq_getElem_cons hi]
     rw [List.getElem?_eq_getElem hi] at hl
     cases hl
     rfl
   have hw:Region.wanted o (yielded (oo ops i) a.tmps)=Region.wanted o (yielded ops a.tmps):=by
     unfold Region.wanted
     split at hg
     ·rename_i hn;rw [hn]
     rename_i j b hn
     rw [hn]
     have hj:j<=i:=by simpa using hg
     have:yielded (oo ops i) a.tmps j=yielded ops a.tmps j:=by
       unfold yielded
       rw [NE hj]
     simp only [this]
   rw [hd] at h
   unfold wpOp
   simp only [ho]
   unfold wpList at h
   rw [hw] at h
   split at h
   ·rename_i hw
    rw [if_pos hw]
    rcases h with h|⟨_,h⟩
    ·exact .inl (FJ (Oper.wp_mono (fun a w h=>h) h))
    exact (pU h).elim
   rename_i hw
   rw [if_neg hw]
   exact h
  cases hg
end order
theorem mD {P:Program} {ops:Array Oper} {Q Q':Post} (hq:∀ a w,Q .normal a w->Q' .normal a w):∀ (l:List Oper) {a:Act} {w:World},wpList P ops (NP Q) l a w->wpList P ops (NP Q') l a w
  | [],_,_,h=>hq _ _ h
  | o::r,a,w,h=>by
    unfold wpList at *
    split
    ·rename_i hw
     rw [if_pos hw] at h
     rcases h with h|⟨_,h⟩
     ·exact .inl (FJ (Oper.wp_mono (fun a w h=>mD hq r h) h))
     exact (pU h).elim
    rename_i hw
    rw [if_neg hw] at h
    exact mD hq r h
section mix
variable {P:Program} {β:Bs} {N:dD} {ops:Array Oper} {S:List HP} {l l':List (Bool×Nat)} {fr fr':Fr} {hps:List HP} {Q:Post} {aZ:List Prop} {i:Nat} {pk:List Nat}
def fo (P:Program) (β:Bs) (N:dD) (ops:Array Oper) (S:List HP) (l:List (Bool×Nat)) (fr:Fr) (hps:List HP) (Q:Post):Prop:=
  ∀ junk w,Sat β hps w->fY P ops (NP Q) (Sat β S) l (bN N fr junk) w
theorem af.qi {id:Nat} (l:List (Bool×Nat)) (pk:List Nat) (hm:P.follows .mixedOrders=true) (hB:Aj ops l=true) (hn:nodupB pk=true) (hp:bO hps pk=some S) (h:fo P β N ops S l fr hps Q):af P β N (.region id ops true) fr hps Q:=by
  intro junk w hS
  unfold Aj at hB
  simp only [Bool.and_eq_true,beq_iff_eq] at hB
  obtain⟨⟨⟨h1,h2⟩,h3⟩,h4⟩:=hB
  have cU:=hS.drewN 1
  have h5:=qR (Q:=Q) h1 h2 l _ _ _ h4 (fun j oj _ hl=>by simp [Array.getD_eq_getD_getElem?,Array.getElem?_replicate] at hl;split at hl<;>simp at hl) (.inr (cU.pick hn hp)) (h junk (w.drewN 1) cU)
  rw [h3] at h5
  refine Code.wp_mono (fun e a w q=>?_) (wp_region_any hm (lW _ _ _ _ h5))
  cases e with
  | normal=>exact q
  | exit id=>exact q.elim
  | goto l=>exact q.elim
  | ret=>exact q.elim
  | panic ch=>exact q.elim
  | outgrown=>exact q.elim
def kL (P:Program) (β:Bs) (N:dD) (junk:Nat->Value) (ops:Array Oper):List OH->List Nat->Fr->SS->Option (Fr×SS)
  | [],[],fr,S=>some (fr,S)
  | h::hs,i::is,fr,S=>
    match ops[i]? with
    | some o=>
      match Region.wanted o (yF ops N fr junk) with
      | true=>
        match tF P β 0 true (dm N fr junk) o h S with
        | some (v,S')=>
          match yu v with
          | true=>kL P β N junk ops hs is (cY fr o.dst v) S'
          | false=>none
        | none=>none
      | false=>kL P β N junk ops hs is (cY fr o.dst undef) S
    | none=>none
  | _,_,_,_=>none
def mE (P:Program) (β:Bs) (N:dD) (junk:Nat->Value) (ops:Array Oper) (hs:List OH) (is:List Nat) (fr:Fr) (S:List HP) (idx:List Nat):Option (Fr×List Prop):=
  match kL P β N junk ops hs is fr ⟨[],S,[],true⟩ with
  | some (fr',S')=>some (ij fr' junk idx,S'.aZ)
  | none=>none
theorem ql {junk:Nat->Value}:∀ {hs:List OH} {is:List Nat} {fr fr':Fr} {S S':SS},kL P β N junk ops hs is fr S=some (fr',S')->∀ p,p∈S.aZ->p∈S'.aZ
  | [],[],fr,fr',S,S',h,p,hp=>by cases h;exact hp
  | h::hs,i::is,fr,fr',S,S',hr,p,hp=>by
    unfold kL at hr
    repeat' split at hr
    all_goals first|(cases hr;done)|skip
    ·rename_i h0 _ _
     exact ql hr p (Bk h0 p hp)
    exact ql hr p hp
  | [],_::_,_,_,_,_,h,_,_=>by cases h
  | _::_,[],_,_,_,_,h,_,_=>by cases h
theorem uf {junk:Nat->Value} {w:World}:∀ {hs:List OH} {is:List Nat} {fr fr':Fr} {T T':SS},kL P β N junk ops hs is fr T=some (fr',T')->(∀ p,p∈T'.aZ->p)->T.used=true->T.hps=S →
    fY P ops (NP Q) (Sat β S) l (bN N fr' junk) w->fY P ops (NP Q) (Sat β S) (is.map (fun i=>(true,i))++l) (bN N fr junk) w
  | [],[],fr,fr',T,T',h,ho,hu,hT,hK=>by cases h;exact hK
  | h::hs,i::is,fr,fr',T,T',hr,ho,hu,hT,hK=>by
    unfold kL at hr
    repeat' split at hr
    all_goals first|(cases hr;done)|skip
    ·rename_i o hget _ hwant _ v T1 h0 _ hv
     obtain⟨e1,e2⟩:=qv h0
     rw [List.map_cons,List.cons_append]
     unfold fY
     refine⟨o,v,hget,.inl ⟨by rw [dO];exact hwant,fun w' cU=>?_⟩,?_⟩
     ·rw [dX]
      obtain⟨w2,h1,_,_,h4⟩:=jM h0 (fun p hp=>ho p (ql hr p hp)) (by rw [hT];exact cU) (fun e=>by rw [hu] at e;cases e)
      obtain⟨ew,_⟩:=h4 rfl
      rw [ew] at h1
      rcases h1 with h1|⟨h1,_⟩
      ·exact h1
      exact absurd h1 (mY hv)
     rw [dM]
     exact uf hr ho (e2.trans hu) (e1.trans hT) hK
    rename_i o hget _ hwant
    rw [List.map_cons,List.cons_append]
    unfold fY
    refine⟨o,undef,hget,.inr ⟨by rw [dO];exact hwant,rfl⟩,?_⟩
    rw [dM]
    exact uf hr ho hu hT hK
  | [],_::_,_,_,_,_,h,_,_,_,_=>by cases h
  | _::_,[],_,_,_,_,h,_,_,_,_=>by cases h
theorem fo.reads (is:List Nat) (hs:List OH) (idx:List Nat) (h:∀ junk,mE P β N junk ops hs is fr S idx=some (fr',aZ)) (ho:kA aZ) (hl:l'=is.map (fun i=>(true,i))++l) (K:fo P β N ops S l fr' hps Q):fo P β N ops S l' fr hps Q:=by
  intro junk w hS
  subst hl
  have h0:=h junk
  unfold mE at h0
  split at h0
  ·rename_i fr1 S1 h1
   cases h0
   have hK:=K (lk fr1 junk) w hS
   rw [← jo] at hK
   exact uf h1 (fun p hp=>ho.mem hp) rfl rfl hK
  cases h0
theorem gG (l2:List (Bool×Nat)) (lQ:Fr) (is:List Nat) (os:List (Nat×OP)) (K:fo P β N ops S l2 lQ hps Q)
    (h:∀ junk,mE P β N junk ops (jy (gV is.length os 0)) is fr S (br lQ)=some (lQ,owed (gV is.length os 0)):=by intro _;kernel_rfl) (hl:l'=is.map (fun i=>(true,i))++l2:=by rfl):fo P β N ops S l' fr hps Q:=
  fo.reads is (jy (gV is.length os 0)) (br lQ) h (mZ _) hl K
theorem fo.cut {ι:Type} {fr':ι->Fr} {hp':ι->List HP} (pk:List Nat) (hg:gB ops i=true) (h:ak P β N (oo ops i) i fr hps (NP (nU β N fr' hp'))) (hn:nodupB pk=true) (hp:∀ j,bO (hp' j) pk=some S)
    (K:∀ j,fo P β N ops S l (fr' j) (hp' j) Q):fo P β N ops S ((false,i)::l) fr hps Q:=by
  intro junk w hS
  unfold fY
  refine nB hg (mD (Q':=_) (fun a w ⟨j,gE,ha,cU⟩=>?_) _ (h junk w hS))
  subst ha
  exact⟨.inr (cU.pick hn (hp j)),K j gE w cU⟩
theorem fo.last (hg:gB ops i=true) (h:ak P β N (oo ops i) i fr hps (NP Q)):fo P β N ops S [(false,i)] fr hps Q:=by
  intro junk w hS
  unfold fY
  exact nB hg (mD (Q':=_) (fun a w hq=>⟨.inl rfl,by unfold fY;exact hq⟩) _ (h junk w hS))
end mix
end
section
open Go.RowKit Go.Maps bC aE
attribute [local irreducible] ak aW af aj
abbrev J3 (cb:Nat) (c:aB):=(pC cb { c with other:=0,mode:=0,uid:=0,gid:=0,sec:=0,nano:=0 }:HP)
abbrev J4 (cb:Nat) (c:aB) (S:aI) (tk:Nat):=(pC cb { c with other:=0,mode:=0,uid:=0,gid:=0,sec:=0,nano:=0,answer:=(obj S.O tk).id }:HP)
abbrev Ww (cb:Nat) (c:aB) (S:aI) (tk:Nat):=(pC cb { c with other:=1,mode:=(obj S.O tk).mode,uid:=(obj S.O tk).uid,gid:=0,sec:=0,nano:=0,answer:=(obj S.O tk).id }:HP)
abbrev Wx (cb:Nat) (c:aB) (S:aI) (tk:Nat):=(pC cb { c with other:=1,mode:=(obj S.O tk).mode,uid:=(obj S.O tk).uid,gid:=(obj S.O tk).gid,sec:=0,nano:=0,answer:=(obj S.O tk).id }:HP)
abbrev Wy (cb:Nat) (c:aB) (S:aI) (tk:Nat):=(pC cb { c with other:=2,mode:=(obj S.O tk).mode,uid:=(obj S.O tk).uid,gid:=0,sec:=0,nano:=0,answer:=(obj S.O tk).id }:HP)
abbrev Wz (cb:Nat) (c:aB) (S:aI) (tk:Nat):=(pC cb { c with other:=2,mode:=(obj S.O tk).mode,uid:=(obj S.O tk).uid,gid:=(obj S.O tk).gid,sec:=0,nano:=0,answer:=(obj S.O tk).id }:HP)
abbrev WA (cb:Nat) (c:aB) (S:aI) (tk:Nat):=(pC cb { c with other:=3,mode:=(obj S.O tk).mode,uid:=(obj S.O tk).uid,gid:=0,sec:=0,nano:=0,answer:=(obj S.O tk).id }:HP)
abbrev WB (cb:Nat) (c:aB) (S:aI) (tk:Nat):=(pC cb { c with other:=3,mode:=(obj S.O tk).mode,uid:=(obj S.O tk).uid,gid:=(obj S.O tk).gid,sec:=0,nano:=0,answer:=(obj S.O tk).id }:HP)
abbrev mU (S:aI) (tk:Nat):=([(44,vI ((obj S.O tk).uid)),(48,vI ((obj S.O tk).gid)),(52,.agg #[vI ((obj S.O tk).sec),vI ((obj S.O tk).nano)])]:Fr)
abbrev Qb (cb:Nat) (S:aI) (tk:Nat):=([(25,vP cb),(26,vP cb),(27,vP cb),(28,vP cb),(29,vP cb),(30,vP cb),(34,vI ((obj S.O tk).id))]:Fr)
abbrev En (cb:Nat) (S:aI) (tk:Nat):=([(30,vP cb),(48,vI ((obj S.O tk).gid)),(52,.agg #[vI ((obj S.O tk).sec),vI ((obj S.O tk).nano)])]:Fr)
abbrev sx (cb:Nat):=([(27,vP cb),(28,vP cb),(29,vP cb),(30,vP cb)]:Fr)
abbrev Qc (S:aI) (tk:Nat):=([(40,vI ((obj S.O tk).mode)),(44,vI ((obj S.O tk).uid)),(48,vI ((obj S.O tk).gid)),(52,.agg #[vI ((obj S.O tk).sec),vI ((obj S.O tk).nano)])]:Fr)
abbrev Eo (f:Nat) (m:Nat) (t) (S:aI) (L:HL) (cb:Nat) (c) (R:bV):=([pF f m t S.X,pI m L S.idx,pO S.O L,pD S.O L,pE S.O L,pC cb c,.abs R]:List HP)
abbrev Ep:=([(2,vI 0),(6,vI 0),(7,vI 0),(8,vI 0),(9,vI 0),(10,vI 0)]:Fr)
abbrev Er (t)(c:aB):=([(11,vP t),(15,vI (c.handle))]:Fr)
abbrev Es (cb:Nat) (S:aI) (tk:Nat):=([(28,vP cb),(29,vP cb),(30,vP cb),(40,vI ((obj S.O tk).mode))]:Fr)
abbrev Qd (S:aI) (tk:Nat) (cb:Nat):=([(52,.agg #[vI ((obj S.O tk).sec),vI ((obj S.O tk).nano)]),(64,.pointer (some ⟨cb,9,none⟩))]:Fr)
abbrev XJ (L:HL) (tk:Nat):=([(5,.iface 162 (vP (L.b tk))),(6,vI 0)]:Fr)
abbrev XK (L:HL) (tk:Nat):=([(5,.iface 169 (vP (L.b tk))),(6,vI 0)]:Fr)
abbrev Qe (S:aI) (tk:Nat):=([(9,vI ((obj S.O tk).sec)),(10,vI ((obj S.O tk).nano))]:Fr)
theorem BV {β:Bs} (S:aI) (L:HL) (hI:Inv S) (cb:Nat) (c:aB) (ot:Option Th) (ht:ot=none\/(∃ k,ot=some ⟨k,1⟩/\Live S.idx ⟨k,1⟩)\/(∃ k,ot=some ⟨k,2⟩/\Live S.idx ⟨k,2⟩)\/∃ k,ot=some ⟨k,3⟩/\Live S.idx ⟨k,3⟩) :
    Spec Tryz.prog β 200 #[vP cb,(match ot with|none=>.nilIface|some th=>ez L th)] [pO S.O L,pC cb c] (fun v l=>v=.tuple #[]/\l=[pO S.O L,.blk cb (dr (q8 S.O c ot)) 88]):=by
 refine Spec.enter Tryz.func200 rfl Tryz.ntmps200 (Nat.le_of_ble_eq_true rfl) (fun R=>?_)
 refine af.seq ?_
 rcases ht with rfl|⟨tk,rfl,hlv⟩|⟨tk,rfl,hlv⟩|⟨tk,rfl,hlv⟩
 ·refine af.region (gC 21 [] [(8,a_ 1 cb),(11,a_ 1 cb),(14,a_ 1 cb),(17,a_ 1 cb),(20,A_ 1 cb 2)] [(1,(Ep))] ?_)
  refine NN (af.seq (SR (gK 2 [(22,.bool true)] [] ?_)))
  refine NN (CT (af.ret (aj.aq ?_)))
  exact RT (.tuple #[]) [0,1,2] (⟨rfl,rfl⟩)
 ·have hkt:(obj S.O tk).kind=1:=hI.kind hlv
  refine af.region (gC 21 [] [(8,a_ 1 cb),(11,a_ 1 cb),(14,a_ 1 cb),(17,a_ 1 cb),(20,A_ 1 cb 2)] [(1,(Ep))] ?_)
  refine NN (af.seq (SR (gK 2 [(22,.bool false)] [] ?_)))
  refine NN (CF (af.skip (NX (SR (gK 1 [(23,.iface 162 (vP (L.b tk)))] [] ?_)))))
  refine gL [] (dN (L.b tk)) ?_
  rintro _ _ ⟨rfl,rfl⟩
  refine gK 1 [(4,vP (L.b tk))] [] ?_
  refine NN (af.cA (S:=[pO S.O L]) [0,1,2,3,4,5,6,7,8,9,10,12,13,14,15,16,17,18,19,20,21,22,23,24,25,26,27,11,28,29,30,31,32,33,34,35,36,37,38,39,40,41,42,43,44,45] 27 [0] (by kernel_rfl) (by kernel_rfl) rfl (by kernel_rfl) ?_)
  refine gR 0 [11,28,29,30,31,32,33,34,35,36,37,38,39,40,41,42,43,44,45] (Qb cb S tk++[(35,.iface 162 (vP (L.b tk)))]++Qc S tk) [0,1,2,3,4,5,6,7,8,9,10,12,13,14,15,16,17,18,19,20,21,22,23,24,25,26,27] [(9,v_ 0 (su L hkt)),(14,v_ 0 (tW L hkt)),(18,v_ 0 (Ad L hkt)),(22,v_ 0 (Ah L hkt)),(26,p_ ⟨[.view 0 (.int .i64 ((obj S.O tk).sec)),.view 0 (.int .i64 ((obj S.O tk).nano))],none,none,none,none⟩ [(∀ F w,(aH (bR S.O L)).h F w->w.cell? ⟨(L.b tk),5,none⟩=some (vI ((obj S.O tk).nano))),(∀ F w,(aH (bR S.O L)).h F w->w.cell? ⟨(L.b tk),4,none⟩=some (vI ((obj S.O tk).sec)))] ⟨eM (by rw [hkt];decide) (rfl),eM (by rw [hkt];decide) (rfl),trivial⟩)] ?_
  refine mL [0] [] (qK (vP (L.b tk))) ?_ (by rintro _ _ ⟨rfl,rfl⟩;rfl)
  rintro _ _ ⟨rfl,rfl⟩
  refine aS.cut (ι:=Unit) (fr':=fun (_:Unit)=>([(26,vP cb)]++sx cb++[(34,vI ((obj S.O tk).id)),(36,vI 1),(40,vI ((obj S.O tk).mode))]++mU S tk++[(53,vP cb)])) (hp':=fun (_:Unit)=>[pO S.O L,J3 cb c,.abs R]) [0] rfl rfl ?_ rfl (fun _=>by kernel_rfl) ?_
  ·refine gK 1 [(53,vP cb)] [] ?_
   refine NL ?_
   exact MD () [26,27,28,29,30,34,36,40,44,48,52,53] [0,1,2]
  rintro _
  refine aS.cut (ι:=Unit) (fr':=fun (_:Unit)=>([(26,vP cb)]++sx cb++[(34,vI ((obj S.O tk).id)),(36,vI 1),(40,vI ((obj S.O tk).mode))]++mU S tk++[(54,.pointer (some ⟨cb,12,none⟩))])) (hp':=fun (_:Unit)=>[pO S.O L,J3 cb c,.abs R]) [0] rfl rfl ?_ rfl (fun _=>by kernel_rfl) ?_
  ·refine gK 1 [(54,.pointer (some ⟨cb,12,none⟩))] [] ?_
   refine NL ?_
   exact MD () [26,27,28,29,30,34,36,40,44,48,52,54] [0,1,2]
  rintro _
  refine mC [0] [] [(0,a_ 1 cb)] [(1,[(12,vI ((obj S.O tk).id))])] ?_
  refine aS.cut (ι:=Unit) (fr':=fun (_:Unit)=>(sx cb++[(36,vI 1),(40,vI ((obj S.O tk).mode))]++mU S tk++[(55,vP cb)])) (hp':=fun (_:Unit)=>[pO S.O L,J4 cb c S tk,.abs R]) [0] rfl rfl ?_ rfl (fun _=>by kernel_rfl) ?_
  ·refine gK 1 [(55,vP cb)] [] ?_
   refine NL ?_
   exact MD () [27,28,29,30,36,40,44,48,52,55] [0,1,2]
  rintro _
  refine aS.cut (ι:=Unit) (fr':=fun (_:Unit)=>(sx cb++[(36,vI 1),(40,vI ((obj S.O tk).mode))]++mU S tk++[(56,.pointer (some ⟨cb,2,none⟩))])) (hp':=fun (_:Unit)=>[pO S.O L,J4 cb c S tk,.abs R]) [0] rfl rfl ?_ rfl (fun _=>by kernel_rfl) ?_
  ·refine gK 1 [(56,.pointer (some ⟨cb,2,none⟩))] [] ?_
   refine NL ?_
   exact MD () [27,28,29,30,36,40,44,48,52,56] [0,1,2]
  rintro _
  refine mC [0] [] [(0,a_ 1 cb)] [(1,[(2,vI 1)])] ?_
  refine aS.cut (ι:=Unit) (fr':=fun (_:Unit)=>(Es cb S tk++mU S tk++[(57,vP cb)])) (hp':=fun (_:Unit)=>[pO S.O L,pC cb { c with other:=1,mode:=0,uid:=0,gid:=0,sec:=0,nano:=0,answer:=(obj S.O tk).id },.abs R]) [0] rfl rfl ?_ rfl (fun _=>by kernel_rfl) ?_
  ·refine gK 1 [(57,vP cb)] [] ?_
   refine NL ?_
   exact MD () [28,29,30,40,44,48,52,57] [0,1,2]
  rintro _
  refine aS.cut (ι:=Unit) (fr':=fun (_:Unit)=>(Es cb S tk++mU S tk++[(58,.pointer (some ⟨cb,6,none⟩))])) (hp':=fun (_:Unit)=>[pO S.O L,pC cb { c with other:=1,mode:=0,uid:=0,gid:=0,sec:=0,nano:=0,answer:=(obj S.O tk).id },.abs R]) [0] rfl rfl ?_ rfl (fun _=>by kernel_rfl) ?_
  ·refine gK 1 [(58,.pointer (some ⟨cb,6,none⟩))] [] ?_
   refine NL ?_
   exact MD () [28,29,30,40,44,48,52,58] [0,1,2]
  rintro _
  refine mC [0] [] [(0,a_ 1 cb)] [(1,[(6,vI ((obj S.O tk).mode))])] ?_
  refine aS.cut (ι:=Unit) (fr':=fun (_:Unit)=>([(29,vP cb),(30,vP cb)]++mU S tk++[(59,vP cb)])) (hp':=fun (_:Unit)=>[pO S.O L,pC cb { c with other:=1,mode:=(obj S.O tk).mode,uid:=0,gid:=0,sec:=0,nano:=0,answer:=(obj S.O tk).id },.abs R]) [0] rfl rfl ?_ rfl (fun _=>by kernel_rfl) ?_
  ·refine gK 1 [(59,vP cb)] [] ?_
   refine NL ?_
   exact MD () [29,30,44,48,52,59] [0,1,2]
  rintro _
  refine aS.cut (ι:=Unit) (fr':=fun (_:Unit)=>([(29,vP cb),(30,vP cb)]++mU S tk++[(60,.pointer (some ⟨cb,7,none⟩))])) (hp':=fun (_:Unit)=>[pO S.O L,pC cb { c with other:=1,mode:=(obj S.O tk).mode,uid:=0,gid:=0,sec:=0,nano:=0,answer:=(obj S.O tk).id },.abs R]) [0] rfl rfl ?_ rfl (fun _=>by kernel_rfl) ?_
  ·refine gK 1 [(60,.pointer (some ⟨cb,7,none⟩))] [] ?_
   refine NL ?_
   exact MD () [29,30,44,48,52,60] [0,1,2]
  rintro _
  refine mC [0] [] [(0,a_ 1 cb)] [(1,[(7,vI ((obj S.O tk).uid))])] ?_
  refine aS.cut (ι:=Unit) (fr':=fun (_:Unit)=>(En cb S tk++[(61,vP cb)])) (hp':=fun (_:Unit)=>[pO S.O L,Ww cb c S tk,.abs R]) [0] rfl rfl ?_ rfl (fun _=>by kernel_rfl) ?_
  ·refine gK 1 [(61,vP cb)] [] ?_
   refine NL ?_
   exact MD () [30,48,52,61] [0,1,2]
  rintro _
  refine aS.cut (ι:=Unit) (fr':=fun (_:Unit)=>(En cb S tk++[(62,.pointer (some ⟨cb,8,none⟩))])) (hp':=fun (_:Unit)=>[pO S.O L,Ww cb c S tk,.abs R]) [0] rfl rfl ?_ rfl (fun _=>by kernel_rfl) ?_
  ·refine gK 1 [(62,.pointer (some ⟨cb,8,none⟩))] [] ?_
   refine NL ?_
   exact MD () [30,48,52,62] [0,1,2]
  rintro _
  refine mC [0] [] [(0,a_ 1 cb)] [(1,[(8,vI ((obj S.O tk).gid))])] ?_
  refine aS.cut (ι:=Unit) (fr':=fun (_:Unit)=>[(52,.agg #[vI ((obj S.O tk).sec),vI ((obj S.O tk).nano)]),(63,vP cb)]) (hp':=fun (_:Unit)=>[pO S.O L,Wx cb c S tk,.abs R]) [0] rfl rfl ?_ rfl (fun _=>by kernel_rfl) ?_
  ·refine gK 1 [(63,vP cb)] [] ?_
   refine NL ?_
   exact MD () [52,63] [0,1,2]
  rintro _
  refine aS.cut (ι:=Unit) (fr':=fun (_:Unit)=>(Qd S tk cb)) (hp':=fun (_:Unit)=>[pO S.O L,Wx cb c S tk,.abs R]) [0] rfl rfl ?_ rfl (fun _=>by kernel_rfl) ?_
  ·refine gK 1 [(64,.pointer (some ⟨cb,9,none⟩))] [] ?_
   refine NL ?_
   exact MD () [52,64] [0,1,2]
  rintro _
  refine aS.last rfl rfl ?_
  refine gC 1 [] [(0,A_ 1 cb 2)] [(1,(Qe S tk))] ?_
  refine NL (aj.np ?_)
  exact RF (.tuple #[]) [0,1,2] (⟨rfl,rfl⟩)
 ·have hkt:(obj S.O tk).kind=2:=hI.kind hlv
  refine af.region (gC 21 [] [(8,a_ 1 cb),(11,a_ 1 cb),(14,a_ 1 cb),(17,a_ 1 cb),(20,A_ 1 cb 2)] [(1,(Ep))] ?_)
  refine NN (af.seq (SR (gK 2 [(22,.bool false)] [] ?_)))
  refine NN (CF (af.skip (NX (SR (gK 1 [(23,.iface 169 (vP (L.b tk)))] [] ?_)))))
  refine gL [] (dN (L.b tk)) ?_
  rintro _ _ ⟨rfl,rfl⟩
  refine gK 1 [(4,vP (L.b tk))] [] ?_
  refine NN (af.cA (S:=[pO S.O L]) [0,1,2,3,4,5,6,7,8,9,10,12,13,14,15,16,17,18,19,20,21,22,23,24,25,26,27,11,28,29,30,31,32,33,34,35,36,37,38,39,40,41,42,43,44,45] 27 [0] (by kernel_rfl) (by kernel_rfl) rfl (by kernel_rfl) ?_)
  refine gR 0 [11,28,29,30,31,32,33,34,35,36,37,38,39,40,41,42,43,44,45] (Qb cb S tk++[(35,.iface 169 (vP (L.b tk)))]++Qc S tk) [0,1,2,3,4,5,6,7,8,9,10,12,13,14,15,16,17,18,19,20,21,22,23,24,25,26,27] [(9,v_ 0 (su L hkt)),(14,v_ 0 (tW L hkt)),(18,v_ 0 (Ad L hkt)),(22,v_ 0 (Ah L hkt)),(26,p_ ⟨[.view 0 (.int .i64 ((obj S.O tk).sec)),.view 0 (.int .i64 ((obj S.O tk).nano))],none,none,none,none⟩ [(∀ F w,(aH (bR S.O L)).h F w->w.cell? ⟨(L.b tk),5,none⟩=some (vI ((obj S.O tk).nano))),(∀ F w,(aH (bR S.O L)).h F w->w.cell? ⟨(L.b tk),4,none⟩=some (vI ((obj S.O tk).sec)))] ⟨eM (by rw [hkt];decide) (rfl),eM (by rw [hkt];decide) (rfl),trivial⟩)] ?_
  refine mL [0] [] (qL (vP (L.b tk))) ?_ (by rintro _ _ ⟨rfl,rfl⟩;rfl)
  rintro _ _ ⟨rfl,rfl⟩
  refine aS.cut (ι:=Unit) (fr':=fun (_:Unit)=>([(26,vP cb)]++sx cb++[(34,vI ((obj S.O tk).id)),(36,vI 2),(40,vI ((obj S.O tk).mode))]++mU S tk++[(53,vP cb)])) (hp':=fun (_:Unit)=>[pO S.O L,J3 cb c,.abs R]) [0] rfl rfl ?_ rfl (fun _=>by kernel_rfl) ?_
  ·refine gK 1 [(53,vP cb)] [] ?_
   refine NL ?_
   exact MD () [26,27,28,29,30,34,36,40,44,48,52,53] [0,1,2]
  rintro _
  refine aS.cut (ι:=Unit) (fr':=fun (_:Unit)=>([(26,vP cb)]++sx cb++[(34,vI ((obj S.O tk).id)),(36,vI 2),(40,vI ((obj S.O tk).mode))]++mU S tk++[(54,.pointer (some ⟨cb,12,none⟩))])) (hp':=fun (_:Unit)=>[pO S.O L,J3 cb c,.abs R]) [0] rfl rfl ?_ rfl (fun _=>by kernel_rfl) ?_
  ·refine gK 1 [(54,.pointer (some ⟨cb,12,none⟩))] [] ?_
   refine NL ?_
   exact MD () [26,27,28,29,30,34,36,40,44,48,52,54] [0,1,2]
  rintro _
  refine mC [0] [] [(0,a_ 1 cb)] [(1,[(12,vI ((obj S.O tk).id))])] ?_
  refine aS.cut (ι:=Unit) (fr':=fun (_:Unit)=>(sx cb++[(36,vI 2),(40,vI ((obj S.O tk).mode))]++mU S tk++[(55,vP cb)])) (hp':=fun (_:Unit)=>[pO S.O L,J4 cb c S tk,.abs R]) [0] rfl rfl ?_ rfl (fun _=>by kernel_rfl) ?_
  ·refine gK 1 [(55,vP cb)] [] ?_
   refine NL ?_
   exact MD () [27,28,29,30,36,40,44,48,52,55] [0,1,2]
  rintro _
  refine aS.cut (ι:=Unit) (fr':=fun (_:Unit)=>(sx cb++[(36,vI 2),(40,vI ((obj S.O tk).mode))]++mU S tk++[(56,.pointer (some ⟨cb,2,none⟩))])) (hp':=fun (_:Unit)=>[pO S.O L,J4 cb c S tk,.abs R]) [0] rfl rfl ?_ rfl (fun _=>by kernel_rfl) ?_
  ·refine gK 1 [(56,.pointer (some ⟨cb,2,none⟩))] [] ?_
   refine NL ?_
   exact MD () [27,28,29,30,36,40,44,48,52,56] [0,1,2]
  rintro _
  refine mC [0] [] [(0,a_ 1 cb)] [(1,[(2,vI 2)])] ?_
  refine aS.cut (ι:=Unit) (fr':=fun (_:Unit)=>(Es cb S tk++mU S tk++[(57,vP cb)])) (hp':=fun (_:Unit)=>[pO S.O L,pC cb { c with other:=2,mode:=0,uid:=0,gid:=0,sec:=0,nano:=0,answer:=(obj S.O tk).id },.abs R]) [0] rfl rfl ?_ rfl (fun _=>by kernel_rfl) ?_
  ·refine gK 1 [(57,vP cb)] [] ?_
   refine NL ?_
   exact MD () [28,29,30,40,44,48,52,57] [0,1,2]
  rintro _
  refine aS.cut (ι:=Unit) (fr':=fun (_:Unit)=>(Es cb S tk++mU S tk++[(58,.pointer (some ⟨cb,6,none⟩))])) (hp':=fun (_:Unit)=>[pO S.O L,pC cb { c with other:=2,mode:=0,uid:=0,gid:=0,sec:=0,nano:=0,answer:=(obj S.O tk).id },.abs R]) [0] rfl rfl ?_ rfl (fun _=>by kernel_rfl) ?_
  ·refine gK 1 [(58,.pointer (some ⟨cb,6,none⟩))] [] ?_
   refine NL ?_
   exact MD () [28,29,30,40,44,48,52,58] [0,1,2]
  rintro _
  refine mC [0] [] [(0,a_ 1 cb)] [(1,[(6,vI ((obj S.O tk).mode))])] ?_
  refine aS.cut (ι:=Unit) (fr':=fun (_:Unit)=>([(29,vP cb),(30,vP cb)]++mU S tk++[(59,vP cb)])) (hp':=fun (_:Unit)=>[pO S.O L,pC cb { c with other:=2,mode:=(obj S.O tk).mode,uid:=0,gid:=0,sec:=0,nano:=0,answer:=(obj S.O tk).id },.abs R]) [0] rfl rfl ?_ rfl (fun _=>by kernel_rfl) ?_
  ·refine gK 1 [(59,vP cb)] [] ?_
   refine NL ?_
   exact MD () [29,30,44,48,52,59] [0,1,2]
  rintro _
  refine aS.cut (ι:=Unit) (fr':=fun (_:Unit)=>([(29,vP cb),(30,vP cb)]++mU S tk++[(60,.pointer (some ⟨cb,7,none⟩))])) (hp':=fun (_:Unit)=>[pO S.O L,pC cb { c with other:=2,mode:=(obj S.O tk).mode,uid:=0,gid:=0,sec:=0,nano:=0,answer:=(obj S.O tk).id },.abs R]) [0] rfl rfl ?_ rfl (fun _=>by kernel_rfl) ?_
  ·refine gK 1 [(60,.pointer (some ⟨cb,7,none⟩))] [] ?_
   refine NL ?_
   exact MD () [29,30,44,48,52,60] [0,1,2]
  rintro _
  refine mC [0] [] [(0,a_ 1 cb)] [(1,[(7,vI ((obj S.O tk).uid))])] ?_
  refine aS.cut (ι:=Unit) (fr':=fun (_:Unit)=>(En cb S tk++[(61,vP cb)])) (hp':=fun (_:Unit)=>[pO S.O L,Wy cb c S tk,.abs R]) [0] rfl rfl ?_ rfl (fun _=>by kernel_rfl) ?_
  ·refine gK 1 [(61,vP cb)] [] ?_
   refine NL ?_
   exact MD () [30,48,52,61] [0,1,2]
  rintro _
  refine aS.cut (ι:=Unit) (fr':=fun (_:Unit)=>(En cb S tk++[(62,.pointer (some ⟨cb,8,none⟩))])) (hp':=fun (_:Unit)=>[pO S.O L,Wy cb c S tk,.abs R]) [0] rfl rfl ?_ rfl (fun _=>by kernel_rfl) ?_
  ·refine gK 1 [(62,.pointer (some ⟨cb,8,none⟩))] [] ?_
   refine NL ?_
   exact MD () [30,48,52,62] [0,1,2]
  rintro _
  refine mC [0] [] [(0,a_ 1 cb)] [(1,[(8,vI ((obj S.O tk).gid))])] ?_
  refine aS.cut (ι:=Unit) (fr':=fun (_:Unit)=>[(52,.agg #[vI ((obj S.O tk).sec),vI ((obj S.O tk).nano)]),(63,vP cb)]) (hp':=fun (_:Unit)=>[pO S.O L,Wz cb c S tk,.abs R]) [0] rfl rfl ?_ rfl (fun _=>by kernel_rfl) ?_
  ·refine gK 1 [(63,vP cb)] [] ?_
   refine NL ?_
   exact MD () [52,63] [0,1,2]
  rintro _
  refine aS.cut (ι:=Unit) (fr':=fun (_:Unit)=>(Qd S tk cb)) (hp':=fun (_:Unit)=>[pO S.O L,Wz cb c S tk,.abs R]) [0] rfl rfl ?_ rfl (fun _=>by kernel_rfl) ?_
  ·refine gK 1 [(64,.pointer (some ⟨cb,9,none⟩))] [] ?_
   refine NL ?_
   exact MD () [52,64] [0,1,2]
  rintro _
  refine aS.last rfl rfl ?_
  refine gC 1 [] [(0,A_ 1 cb 2)] [(1,(Qe S tk))] ?_
  refine NL (aj.np ?_)
  exact RF (.tuple #[]) [0,1,2] (⟨rfl,rfl⟩)
 have hkt:(obj S.O tk).kind=3:=hI.kind hlv
 refine af.region (gC 21 [] [(8,a_ 1 cb),(11,a_ 1 cb),(14,a_ 1 cb),(17,a_ 1 cb),(20,A_ 1 cb 2)] [(1,(Ep))] ?_)
 refine NN (af.seq (SR (gK 2 [(22,.bool false)] [] ?_)))
 refine NN (CF (af.skip (NX (SR (gK 1 [(23,.iface 166 (vP (L.b tk)))] [] ?_)))))
 refine gL [] (dN (L.b tk)) ?_
 rintro _ _ ⟨rfl,rfl⟩
 refine gK 1 [(4,vP (L.b tk))] [] ?_
 refine NN (af.cA (S:=[pO S.O L]) [0,1,2,3,4,5,6,7,8,9,10,12,13,14,15,16,17,18,19,20,21,22,23,24,25,26,27,11,28,29,30,31,32,33,34,35,36,37,38,39,40,41,42,43,44,45] 27 [0] (by kernel_rfl) (by kernel_rfl) rfl (by kernel_rfl) ?_)
 refine gR 0 [11,28,29,30,31,32,33,34,35,36,37,38,39,40,41,42,43,44,45] (Qb cb S tk++[(35,.iface 166 (vP (L.b tk)))]++Qc S tk) [0,1,2,3,4,5,6,7,8,9,10,12,13,14,15,16,17,18,19,20,21,22,23,24,25,26,27] [(9,v_ 0 (su L hkt)),(14,v_ 0 (tW L hkt)),(18,v_ 0 (Ad L hkt)),(22,v_ 0 (Ah L hkt)),(26,p_ ⟨[.view 0 (.int .i64 ((obj S.O tk).sec)),.view 0 (.int .i64 ((obj S.O tk).nano))],none,none,none,none⟩ [(∀ F w,(aH (bR S.O L)).h F w->w.cell? ⟨(L.b tk),5,none⟩=some (vI ((obj S.O tk).nano))),(∀ F w,(aH (bR S.O L)).h F w->w.cell? ⟨(L.b tk),4,none⟩=some (vI ((obj S.O tk).sec)))] ⟨eM (by rw [hkt];decide) (rfl),eM (by rw [hkt];decide) (rfl),trivial⟩)] ?_
 refine mL [0] [] (qM (vP (L.b tk))) ?_ (by rintro _ _ ⟨rfl,rfl⟩;rfl)
 rintro _ _ ⟨rfl,rfl⟩
 refine aS.cut (ι:=Unit) (fr':=fun (_:Unit)=>([(26,vP cb)]++sx cb++[(34,vI ((obj S.O tk).id)),(36,vI 3),(40,vI ((obj S.O tk).mode))]++mU S tk++[(53,vP cb)])) (hp':=fun (_:Unit)=>[pO S.O L,J3 cb c,.abs R]) [0] rfl rfl ?_ rfl (fun _=>by kernel_rfl) ?_
 ·refine gK 1 [(53,vP cb)] [] ?_
  refine NL ?_
  exact MD () [26,27,28,29,30,34,36,40,44,48,52,53] [0,1,2]
 rintro _
 refine aS.cut (ι:=Unit) (fr':=fun (_:Unit)=>([(26,vP cb)]++sx cb++[(34,vI ((obj S.O tk).id)),(36,vI 3),(40,vI ((obj S.O tk).mode))]++mU S tk++[(54,.pointer (some ⟨cb,12,none⟩))])) (hp':=fun (_:Unit)=>[pO S.O L,J3 cb c,.abs R]) [0] rfl rfl ?_ rfl (fun _=>by kernel_rfl) ?_
 ·refine gK 1 [(54,.pointer (some ⟨cb,12,none⟩))] [] ?_
  refine NL ?_
  exact MD () [26,27,28,29,30,34,36,40,44,48,52,54] [0,1,2]
 rintro _
 refine mC [0] [] [(0,a_ 1 cb)] [(1,[(12,vI ((obj S.O tk).id))])] ?_
 refine aS.cut (ι:=Unit) (fr':=fun (_:Unit)=>(sx cb++[(36,vI 3),(40,vI ((obj S.O tk).mode))]++mU S tk++[(55,vP cb)])) (hp':=fun (_:Unit)=>[pO S.O L,J4 cb c S tk,.abs R]) [0] rfl rfl ?_ rfl (fun _=>by kernel_rfl) ?_
 ·refine gK 1 [(55,vP cb)] [] ?_
  refine NL ?_
  exact MD () [27,28,29,30,36,40,44,48,52,55] [0,1,2]
 rintro _
 refine aS.cut (ι:=Unit) (fr':=fun (_:Unit)=>(sx cb++[(36,vI 3),(40,vI ((obj S.O tk).mode))]++mU S tk++[(56,.pointer (some ⟨cb,2,none⟩))])) (hp':=fun (_:Unit)=>[pO S.O L,J4 cb c S tk,.abs R]) [0] rfl rfl ?_ rfl (fun _=>by kernel_rfl) ?_
 ·refine gK 1 [(56,.pointer (some ⟨cb,2,none⟩))] [] ?_
  refine NL ?_
  exact MD () [27,28,29,30,36,40,44,48,52,56] [0,1,2]
 rintro _
 refine mC [0] [] [(0,a_ 1 cb)] [(1,[(2,vI 3)])] ?_
 refine aS.cut (ι:=Unit) (fr':=fun (_:Unit)=>(Es cb S tk++mU S tk++[(57,vP cb)])) (hp':=fun (_:Unit)=>[pO S.O L,pC cb { c with other:=3,mode:=0,uid:=0,gid:=0,sec:=0,nano:=0,answer:=(obj S.O tk).id },.abs R]) [0] rfl rfl ?_ rfl (fun _=>by kernel_rfl) ?_
 ·refine gK 1 [(57,vP cb)] [] ?_
  refine NL ?_
  exact MD () [28,29,30,40,44,48,52,57] [0,1,2]
 rintro _
 refine aS.cut (ι:=Unit) (fr':=fun (_:Unit)=>(Es cb S tk++mU S tk++[(58,.pointer (some ⟨cb,6,none⟩))])) (hp':=fun (_:Unit)=>[pO S.O L,pC cb { c with other:=3,mode:=0,uid:=0,gid:=0,sec:=0,nano:=0,answer:=(obj S.O tk).id },.abs R]) [0] rfl rfl ?_ rfl (fun _=>by kernel_rfl) ?_
 ·refine gK 1 [(58,.pointer (some ⟨cb,6,none⟩))] [] ?_
  refine NL ?_
  exact MD () [28,29,30,40,44,48,52,58] [0,1,2]
 rintro _
 refine mC [0] [] [(0,a_ 1 cb)] [(1,[(6,vI ((obj S.O tk).mode))])] ?_
 refine aS.cut (ι:=Unit) (fr':=fun (_:Unit)=>([(29,vP cb),(30,vP cb)]++mU S tk++[(59,vP cb)])) (hp':=fun (_:Unit)=>[pO S.O L,pC cb { c with other:=3,mode:=(obj S.O tk).mode,uid:=0,gid:=0,sec:=0,nano:=0,answer:=(obj S.O tk).id },.abs R]) [0] rfl rfl ?_ rfl (fun _=>by kernel_rfl) ?_
 ·refine gK 1 [(59,vP cb)] [] ?_
  refine NL ?_
  exact MD () [29,30,44,48,52,59] [0,1,2]
 rintro _
 refine aS.cut (ι:=Unit) (fr':=fun (_:Unit)=>([(29,vP cb),(30,vP cb)]++mU S tk++[(60,.pointer (some ⟨cb,7,none⟩))])) (hp':=fun (_:Unit)=>[pO S.O L,pC cb { c with other:=3,mode:=(obj S.O tk).mode,uid:=0,gid:=0,sec:=0,nano:=0,answer:=(obj S.O tk).id },.abs R]) [0] rfl rfl ?_ rfl (fun _=>by kernel_rfl) ?_
 ·refine gK 1 [(60,.pointer (some ⟨cb,7,none⟩))] [] ?_
  refine NL ?_
  exact MD () [29,30,44,48,52,60] [0,1,2]
 rintro _
 refine mC [0] [] [(0,a_ 1 cb)] [(1,[(7,vI ((obj S.O tk).uid))])] ?_
 refine aS.cut (ι:=Unit) (fr':=fun (_:Unit)=>(En cb S tk++[(61,vP cb)])) (hp':=fun (_:Unit)=>[pO S.O L,WA cb c S tk,.abs R]) [0] rfl rfl ?_ rfl (fun _=>by kernel_rfl) ?_
 ·refine gK 1 [(61,vP cb)] [] ?_
  refine NL ?_
  exact MD () [30,48,52,61] [0,1,2]
 rintro _
 refine aS.cut (ι:=Unit) (fr':=fun (_:Unit)=>(En cb S tk++[(62,.pointer (some ⟨cb,8,none⟩))])) (hp':=fun (_:Unit)=>[pO S.O L,WA cb c S tk,.abs R]) [0] rfl rfl ?_ rfl (fun _=>by kernel_rfl) ?_
 ·refine gK 1 [(62,.pointer (some ⟨cb,8,none⟩))] [] ?_
  refine NL ?_
  exact MD () [30,48,52,62] [0,1,2]
 rintro _
 refine mC [0] [] [(0,a_ 1 cb)] [(1,[(8,vI ((obj S.O tk).gid))])] ?_
 refine aS.cut (ι:=Unit) (fr':=fun (_:Unit)=>[(52,.agg #[vI ((obj S.O tk).sec),vI ((obj S.O tk).nano)]),(63,vP cb)]) (hp':=fun (_:Unit)=>[pO S.O L,WB cb c S tk,.abs R]) [0] rfl rfl ?_ rfl (fun _=>by kernel_rfl) ?_
 ·refine gK 1 [(63,vP cb)] [] ?_
  refine NL ?_
  exact MD () [52,63] [0,1,2]
 rintro _
 refine aS.cut (ι:=Unit) (fr':=fun (_:Unit)=>(Qd S tk cb)) (hp':=fun (_:Unit)=>[pO S.O L,WB cb c S tk,.abs R]) [0] rfl rfl ?_ rfl (fun _=>by kernel_rfl) ?_
 ·refine gK 1 [(64,.pointer (some ⟨cb,9,none⟩))] [] ?_
  refine NL ?_
  exact MD () [52,64] [0,1,2]
 rintro _
 refine aS.last rfl rfl ?_
 refine gC 1 [] [(0,A_ 1 cb 2)] [(1,(Qe S tk))] ?_
 refine NL (aj.np ?_)
 exact RF (.tuple #[]) [0,1,2] (⟨rfl,rfl⟩)
theorem Ls {β:Bs} (S:aI) (L:HL) (f m t:Nat) (hI:Inv S) (cb:Nat) (c:aB) (hC:lq β c) :
    Spec Tryz.prog β 182 #[vP f,vP cb] ((pA f m t L S)++[pC cb c]) (fun v l=>∃ L2,v=vI (jP S c).1/\l=((pA f m t L2 ((jP S c).2.1))++[.blk cb (dr ((jP S c).2.2)) 88])):=by
 have hX:=hI.hX
 refine Spec.enter Tryz.func182 rfl Tryz.ntmps182 (Nat.le_of_ble_eq_true rfl) (fun R=>?_)
 refine af.seq ?_
 rcases hI.hand c.handle with iJ|⟨tk,iJ,hlv⟩|⟨tk,iJ,hlv⟩
 ·refine af.region (gK 1 [] [] ?_)
  refine NN (af.seq (af.eP (by kernel_rfl) (by kernel_rfl) ?_))
  refine gQ 8 (Er t c) [(3,a_ 0 f),(7,a_ 6 cb)] ?_
  refine aW.call (f:=198) (args:=#[vP t,vI (c.handle)]) (d:=(some 16)) (pre:=[x6 t S L]) (R:=(Eo f m t S L cb c R)) (pk:=[2,0,1,3,4,5,6,7]) (yg:=[1,2,0,3,4,5,6,7]) (v0:=.tuple #[.nilIface,vI 131]) (fun _=>by kernel_rfl) (yK t S.X.cH S.aD (bI L S.us) c.handle hC.hw (wU iJ)) rfl (by kernel_rfl) rfl (by kernel_rfl) (fun _ _ h=>h) ?_
  refine gQ 5 [(5,.nilIface),(6,vI 131)] [] ?_
  refine NQ (NX (SR ?_))
  refine gK 2 [(19,vP cb),(20,.nilIface)] [] ?_
  refine gL [3,6] (BV S L hI cb c none (.inl rfl)) ?_
  rintro _ _ ⟨rfl,rfl⟩
  refine NS (gK 2 [(4,vI 131)] [] ?_)
  refine NN (af.ret ?_)
  exact RT (vI 131) [2,3,4,0,5,6,1,7] (⟨L,by rw [show (jP S c)=(131,S,q8 S.O c none) by unfold jP;rw [iJ]]<;>exact⟨rfl,rfl⟩⟩)
 ·have hkt:(obj S.O tk).kind=1:=hI.kind hlv
  refine af.region (gK 1 [] [] ?_)
  refine NN (af.seq (af.eP (by kernel_rfl) (by kernel_rfl) ?_))
  refine gQ 8 (Er t c) [(3,a_ 0 f),(7,a_ 6 cb)] ?_
  refine aW.call (f:=198) (args:=#[vP t,vI (c.handle)]) (d:=(some 16)) (pre:=[x6 t S L]) (R:=(Eo f m t S L cb c R)) (pk:=[2,0,1,3,4,5,6,7]) (yg:=[1,2,0,3,4,5,6,7]) (v0:=.tuple #[.iface 162 (vP (L.b tk)),vI 0]) (fun _=>by kernel_rfl) (tO t S.X.cH S.aD (bI L S.us) c.handle hC.hw (ez L ⟨tk,1⟩) (qH iJ)) rfl (by kernel_rfl) rfl (by kernel_rfl) (fun _ _ h=>h) ?_
  refine gQ 5 (XJ L tk) [] ?_
  refine NQ (NX (SR ?_))
  refine gK 2 [(19,vP cb),(20,.iface 162 (vP (L.b tk)))] [] ?_
  refine gL [3,6] (BV S L hI cb c (some ⟨tk,1⟩) (.inr (.inl ⟨tk,rfl,hlv⟩))) ?_
  rintro _ _ ⟨rfl,rfl⟩
  refine NS (gK 2 [(4,vI 0)] [] ?_)
  refine NN (af.ret ?_)
  exact RT (vI 0) [2,3,4,0,5,6,1,7] (⟨L,by rw [show (jP S c)=(0,S,q8 S.O c (some ⟨tk,1⟩)) by unfold jP;rw [iJ]]<;>exact⟨rfl,rfl⟩⟩)
 have hkt:(obj S.O tk).kind=2:=hI.kind hlv
 refine af.region (gK 1 [] [] ?_)
 refine NN (af.seq (af.eP (by kernel_rfl) (by kernel_rfl) ?_))
 refine gQ 8 (Er t c) [(3,a_ 0 f),(7,a_ 6 cb)] ?_
 refine aW.call (f:=198) (args:=#[vP t,vI (c.handle)]) (d:=(some 16)) (pre:=[x6 t S L]) (R:=(Eo f m t S L cb c R)) (pk:=[2,0,1,3,4,5,6,7]) (yg:=[1,2,0,3,4,5,6,7]) (v0:=.tuple #[.iface 169 (vP (L.b tk)),vI 0]) (fun _=>by kernel_rfl) (tO t S.X.cH S.aD (bI L S.us) c.handle hC.hw (ez L ⟨tk,2⟩) (qH iJ)) rfl (by kernel_rfl) rfl (by kernel_rfl) (fun _ _ h=>h) ?_
 refine gQ 5 (XK L tk) [] ?_
 refine NQ (NX (SR ?_))
 refine gK 2 [(19,vP cb),(20,.iface 169 (vP (L.b tk)))] [] ?_
 refine gL [3,6] (BV S L hI cb c (some ⟨tk,2⟩) (.inr (.inr (.inl ⟨tk,rfl,hlv⟩)))) ?_
 rintro _ _ ⟨rfl,rfl⟩
 refine NS (gK 2 [(4,vI 0)] [] ?_)
 refine NN (af.ret ?_)
 exact RT (vI 0) [2,3,4,0,5,6,1,7] (⟨L,by rw [show (jP S c)=(0,S,q8 S.O c (some ⟨tk,2⟩)) by unfold jP;rw [iJ]]<;>exact⟨rfl,rfl⟩⟩)
theorem Jq {β:Bs} (S:aI) (L:HL) (f m t:Nat) (hI:Inv S) (cb:Nat) (c:aB) (hC:lq β c) :
    Spec Tryz.prog β 184 #[vP f,vP cb] ((pA f m t L S)++[pC cb c]) (fun v l=>∃ L2,v=vI (ja S c).1/\l=((pA f m t L2 ((ja S c).2.1))++[.blk cb (dr ((ja S c).2.2)) 88])):=by
 have hX:=hI.hX
 refine Spec.enter Tryz.func184 rfl Tryz.ntmps184 (Nat.le_of_ble_eq_true rfl) (fun R=>?_)
 refine af.seq ?_
 rcases hI.hand c.handle with iJ|⟨tk,iJ,hlv⟩|⟨tk,iJ,hlv⟩
 ·refine af.region (gK 1 [] [] ?_)
  refine NN (af.seq (af.qi (S:=[pF f m t S.X,pC cb c]) [(true,0),(true,1),(true,2),(true,3),(true,4),(true,5),(true,6),(true,7),(false,8),(true,9),(true,10),(true,11),(true,12),(false,13)] [0,6] (by kernel_rfl) (by kernel_rfl) rfl (by kernel_rfl) ?_))
  refine gG [(false,8),(true,9),(true,10),(true,11),(true,12),(false,13)] ([(0,vP f)]++Er t c) [0,1,2,3,4,5,6,7] [(3,a_ 0 f),(7,a_ 1 cb)] ?_
  refine fo.cut (ι:=Unit) (fr':=fun (_:Unit)=>[(0,vP f),(16,.tuple #[.nilIface,vI 131])]) (hp':=fun (_:Unit)=>([x6 t S L]++Eo f m t S L cb c R)) [1,6] (by kernel_rfl) ?_ rfl (fun _=>by kernel_rfl) ?_
  ·refine gL [2] (I8 t S.X.cH S.aD (bI L S.us) c.handle hC.hw (wU iJ)) ?_
   rintro _ _ ⟨rfl,rfl⟩
   refine NL ?_
   exact MD () [0,16] [0,1,2,3,4,5,6,7]
  rintro _
  refine gG [(false,13)] [(0,vP f),(5,.nilIface),(18,vI 131)] [9,10,11,12] [] ?_
  refine fo.last (by kernel_rfl) ?_
  refine gK 1 [(6,vI 131)] [] ?_
  refine NL (aj.np (NX (af.seq (SR ?_))))
  refine gK 2 [(20,.bool true)] [] ?_
  refine NN (CT (SR (gK 2 [(4,vI 131)] [] ?_)))
  refine NN (af.ret (aj.aq ?_))
  exact RT (vI 131) [1,2,0,3,4,5,6,7] (⟨L,by rw [show (ja S c)=(131,S,c) by unfold ja;rw [iJ]]<;>exact⟨rfl,rfl⟩⟩)
 ·have hkt:(obj S.O tk).kind=1:=hI.kind hlv
  have hid:=hI.ob _ hlv
  have qN:=hI.JL hlv
  have hdl:=hI.GL hlv
  have hop:0 < (obj S.O tk).opens/\(obj S.O tk).opens<=1024:=⟨by have h1:=hI.opens _ hlv;have h2:=JS iJ;simp only at h1 h2;omega,(hI.GK hlv).2⟩
  refine af.region (gK 1 [] [] ?_)
  refine NN (af.seq (af.qi (S:=[pF f m t S.X,pC cb c]) [(true,0),(true,1),(true,2),(true,3),(true,4),(true,5),(true,6),(true,7),(false,8),(true,9),(true,10),(true,11),(true,12),(false,13)] [0,6] (by kernel_rfl) (by kernel_rfl) rfl (by kernel_rfl) ?_))
  refine gG [(false,8),(true,9),(true,10),(true,11),(true,12),(false,13)] ([(0,vP f)]++Er t c) [0,1,2,3,4,5,6,7] [(3,a_ 0 f),(7,a_ 1 cb)] ?_
  refine fo.cut (ι:=Unit) (fr':=fun (_:Unit)=>[(0,vP f),(16,.tuple #[.iface 162 (vP (L.b tk)),vI 0])]) (hp':=fun (_:Unit)=>([pT t S.X.cH S.aD L (del c.handle S.us)]++Eo f m t S L cb c R)) [1,6] (by kernel_rfl) ?_ rfl (fun _=>by kernel_rfl) ?_
  ·refine gL (f:=201) (args:=#[vP t,vI (c.handle)]) (pre:=[x6 t S L]) [2] ((by have h:=EU (β:=β) t S.X.cH S.aD (bI L S.us) c.handle hC.hw (ez L ⟨tk,1⟩) (qH iJ);rw [← GV] at h;exact h)) ?_
   rintro _ _ ⟨rfl,rfl⟩
   refine NL ?_
   exact MD () [0,16] [0,1,2,3,4,5,6,7]
  rintro _
  refine gG [(false,13)] [(0,vP f),(5,.iface 162 (vP (L.b tk))),(18,vI 0)] [9,10,11,12] [] ?_
  refine fo.last (by kernel_rfl) ?_
  refine gK 1 [(6,vI 0)] [] ?_
  refine NL (aj.np (NX (af.seq (SR ?_))))
  refine gK 2 [(20,.bool false)] [] ?_
  refine NN (CF (af.skip (NX (SR (gK 1 [(22,.iface 162 (vP (L.b tk)))] [] ?_)))))
  refine gL [] (dN (L.b tk)) ?_
  rintro _ _ ⟨rfl,rfl⟩
  refine gK 6 [(27,vI ((obj S.O tk).opens - 1)),(29,.pointer (some ⟨(L.b tk),7,none⟩))] [(2,v_ 3 (lF L hkt)),(3,p_ ⟨[],none,none,none,some (vI ((obj S.O tk).opens - 1))⟩ [(Value.int .i64 (IntKind.wrap .i64 ((obj S.O tk).opens - 1)))=(.int .i64 ((obj S.O tk).opens - 1))] ⟨bB (by omega) (by omega) (by omega),trivial⟩)] ?_
  refine uI 3 [(5,1),(4,2)] tk 7 (fun o=>{ o with opens:=o.opens - 1 }) hkt (fun ef cT=>?_)
  have lG:=ku cT hkt
  have hf2:(obj ef tk).id=(obj S.O tk).id:=fu aY.id cT rfl
  have hf3:(obj ef tk).data=(obj S.O tk).data:=fu aY.data cT rfl
  refine NS ?_
  have Qf:(obj ef tk).opens=(obj S.O tk).opens - 1:=by rw [cT];exact congrArg aY.opens cD
  refine gK 2 [(30,vP f),(31,.iface 162 (vP (L.b tk)))] [] ?_
  refine gL [3,1,2] (rS S.X f m t hX ef L S.idx hI.rise ⟨tk,1⟩ lG (by simp) (by rw [Qf];omega) (fun _=>by rw [hf2,hid.1];exact hlv) (by rw [hf2];exact qN) (by rw [hf3];exact hdl)) ?_
  rintro _ _ ⟨rfl,rfl⟩
  refine NS (gK 1 [(4,vI 0)] [] ?_)
  refine NN (af.ret ?_)
  exact RT (l:=[pF f m t { S.X with used:=jO ef S.X.used ⟨tk,1⟩ },pI m L (jj ef S.idx ⟨tk,1⟩),pT t S.X.cH S.aD L (del c.handle S.us),pO ef L,pD ef L,pE ef L,pC cb c]) (.int .i64 0) [1,2,3,0,4,5,6,7] (⟨L,by subst cT;rw [show ja S c=(0,_,c) by unfold ja;rw [iJ]];exact⟨rfl,rfl⟩⟩)
 have hkt:(obj S.O tk).kind=2:=hI.kind hlv
 have hid:=hI.ob _ hlv
 have qN:=hI.JL hlv
 have hdl:=hI.GL hlv
 have hop:0 < (obj S.O tk).opens/\(obj S.O tk).opens<=1024:=⟨by have h1:=hI.opens _ hlv;have h2:=JS iJ;simp only at h1 h2;omega,(hI.GK hlv).2⟩
 refine af.region (gK 1 [] [] ?_)
 refine NN (af.seq (af.qi (S:=[pF f m t S.X,pC cb c]) [(true,0),(true,1),(true,2),(true,3),(true,4),(true,5),(true,6),(true,7),(false,8),(true,9),(true,10),(true,11),(true,12),(false,13)] [0,6] (by kernel_rfl) (by kernel_rfl) rfl (by kernel_rfl) ?_))
 refine gG [(false,8),(true,9),(true,10),(true,11),(true,12),(false,13)] ([(0,vP f)]++Er t c) [0,1,2,3,4,5,6,7] [(3,a_ 0 f),(7,a_ 1 cb)] ?_
 refine fo.cut (ι:=Unit) (fr':=fun (_:Unit)=>[(0,vP f),(16,.tuple #[.iface 169 (vP (L.b tk)),vI 0])]) (hp':=fun (_:Unit)=>([pT t S.X.cH S.aD L (del c.handle S.us)]++Eo f m t S L cb c R)) [1,6] (by kernel_rfl) ?_ rfl (fun _=>by kernel_rfl) ?_
 ·refine gL (f:=201) (args:=#[vP t,vI (c.handle)]) (pre:=[x6 t S L]) [2] ((by have h:=EU (β:=β) t S.X.cH S.aD (bI L S.us) c.handle hC.hw (ez L ⟨tk,2⟩) (qH iJ);rw [← GV] at h;exact h)) ?_
  rintro _ _ ⟨rfl,rfl⟩
  refine NL ?_
  exact MD () [0,16] [0,1,2,3,4,5,6,7]
 rintro _
 refine gG [(false,13)] [(0,vP f),(5,.iface 169 (vP (L.b tk))),(18,vI 0)] [9,10,11,12] [] ?_
 refine fo.last (by kernel_rfl) ?_
 refine gK 1 [(6,vI 0)] [] ?_
 refine NL (aj.np (NX (af.seq (SR ?_))))
 refine gK 2 [(20,.bool false)] [] ?_
 refine NN (CF (af.skip (NX (SR (gK 1 [(22,.iface 169 (vP (L.b tk)))] [] ?_)))))
 refine gL [] (dN (L.b tk)) ?_
 rintro _ _ ⟨rfl,rfl⟩
 refine gK 6 [(27,vI ((obj S.O tk).opens - 1)),(29,.pointer (some ⟨(L.b tk),7,none⟩))] [(2,v_ 3 (lF L hkt)),(3,p_ ⟨[],none,none,none,some (vI ((obj S.O tk).opens - 1))⟩ [(Value.int .i64 (IntKind.wrap .i64 ((obj S.O tk).opens - 1)))=(.int .i64 ((obj S.O tk).opens - 1))] ⟨bB (by omega) (by omega) (by omega),trivial⟩)] ?_
 refine uI 3 [(5,1),(4,2)] tk 7 (fun o=>{ o with opens:=o.opens - 1 }) hkt (fun ef cT=>?_)
 have y7:=ku cT hkt
 have Nn:(obj ef tk).id=(obj S.O tk).id:=fu aY.id cT rfl
 have Un:(obj ef tk).data=(obj S.O tk).data:=fu aY.data cT rfl
 refine NS ?_
 have Qf:(obj ef tk).opens=(obj S.O tk).opens - 1:=by rw [cT];exact congrArg aY.opens cD
 refine gK 2 [(30,vP f),(31,.iface 169 (vP (L.b tk)))] [] ?_
 refine gL [3,1,2] (rS S.X f m t hX ef L S.idx hI.rise ⟨tk,2⟩ y7 (by simp) (by rw [Qf];omega) (fun _=>by rw [Nn,hid.1];exact hlv) (by rw [Nn];exact qN) (by rw [Un];exact hdl)) ?_
 rintro _ _ ⟨rfl,rfl⟩
 refine NS (gK 1 [(4,vI 0)] [] ?_)
 refine NN (af.ret ?_)
 exact RT (l:=[pF f m t { S.X with used:=jO ef S.X.used ⟨tk,2⟩ },pI m L (jj ef S.idx ⟨tk,2⟩),pT t S.X.cH S.aD L (del c.handle S.us),pO ef L,pD ef L,pE ef L,pC cb c]) (.int .i64 0) [1,2,3,0,4,5,6,7] (⟨L,by subst cT;rw [show ja S c=(0,_,c) by unfold ja;rw [iJ]];exact⟨rfl,rfl⟩⟩)
end
section
open Go.RowKit
def vT (b:Nat) (v:Value):bV where
  h F w:=∃ cs T,cs[0]?=some v/\(HP.blk b cs T).h F w
  lt:=fun ⟨_,_,_,h⟩=>HP.lt h
  st:=fun ⟨cs,T,hv,h⟩ _ _ hk hd=>⟨cs,T,hv,HP.st h hk hd⟩
theorem vT.cell {b:Nat} {v:Value}:∀ F w,(vT b v).h F w->w.cell? ⟨b,0,none⟩=some v:=by
  rintro F w ⟨cs,T,hv,h⟩
  exact (gj h.1 rfl rfl hv).1
theorem Sat.first {β:Bs} {l:List HP} {w:World} {i b:Nat} {cs:List Value} {T:TypeId} {v:Value} (h:Sat β l w) (hp:l[i]?=some (.blk b cs T)) (hv:cs[0]?=some v):Sat β [.abs (vT b v)] w:=by
  obtain⟨ho,φ,h1,h2,h3⟩:=h
  have hi:=bq hp
  refine⟨ho,fun _=>φ i,fun j q hq=>?_,fun j hj=>h2 i hi,fun j k hj hk hne=>?_⟩
  ·have hj:=bq hq
   simp at hj
   subst hj
   simp at hq
   subst hq
   exact⟨cs,T,hv,h1 i _ hp⟩
  simp at hj hk
  omega
section mix
variable {P:Program} {β:Bs} {N:dD} {ops:Array Oper} {S:List HP} {l:List Nat} {fr:Fr} {hps:List HP} {Q:Post} {i:Nat}
theorem af.Lu {id:Nat} (perm:List Nat) (nr:Nat) (hm:P.follows .mixedOrders=true) (hB:Co ops perm nr=true) (hp:∀ w,Sat β hps w->Sat β S w) (h:aS P β N ops S nr perm fr hps Q):af P β N (.region id ops true) fr hps Q:=by
  intro junk w hS
  unfold Co at hB
  simp only [Bool.and_eq_true,beq_iff_eq] at hB
  obtain⟨⟨⟨h1,h2⟩,h3⟩,h4⟩:=hB
  have cU:=hS.drewN 1
  have h5:=DN (Q:=Q) h1 h2 nr perm _ _ _ h4 (fun j oj _ hl=>by simp [Array.getD_eq_getD_getElem?,Array.getElem?_replicate] at hl;split at hl<;>simp at hl) (hp _ cU) (h junk (w.drewN 1) cU)
  rw [h3] at h5
  refine Code.wp_mono (fun e a w q=>?_) (wp_region_any hm (lW _ _ _ _ h5))
  cases e with
  | normal=>exact q
  | exit id=>exact q.elim
  | goto l=>exact q.elim
  | ret=>exact q.elim
  | panic ch=>exact q.elim
  | outgrown=>exact q.elim
theorem aS.Lv {ι:Type} {fr':ι->Fr} {hp':ι->List HP} {o:Oper} (hop:ops[i]?=some o) (hg:o.guard=none) (h:ak P β N #[o] 0 fr hps (NP (nU β N fr' hp'))) (hp:∀ j w,Sat β (hp' j) w->Sat β S w)
    (K:∀ j,aS P β N ops S 0 l (fr' j) (hp' j) Q):aS P β N ops S 0 (i::l) fr hps Q:=by
  intro junk w hS
  unfold nI
  refine iC hop hg ?_
  have h1:=h junk w hS
  have h2:wpList P #[o] (NP (nU β N fr' hp')) [o] (bN N fr junk) w:=h1
  refine jS (fun a w ⟨j,gE,ha,cU⟩=>?_) h2
  subst ha
  exact⟨.inr (hp j _ cU),K j gE w cU⟩
end mix
end
section
open Go.RowKit Go.Maps bC aE
def NG:List Nat:=[172,173,174,175,176,177,178,179,180,181,182,183,184,185,186]
def WC:Value:=.agg ⟨.nilFunc::NG.map (fun f=>.func (.func f) #[] #[])⟩
theorem Lw {n:Int} (h:1<=n/\n<=15):n=1\/n=2\/n=3\/n=4\/n=5\/n=6\/n=7\/n=8\/n=9\/n=10\/n=11\/n=12\/n=13\/n=14\/n=15:=by omega
theorem Uu {w:World} {o:Oper} {ev:Operand->Value} {x y:Operand} {n:Int} (ho:o.op=.index 292 x y) (hx:ev x=WC) (hy:ev y=.int .i64 n) (hn:1<=n/\n<=15):pK Tryz.prog ev o w (.func (.func (NG.getD (n.toNat - 1) 0)) #[] #[]) w:=by
  obtain⟨dst,op,type,pos,after,guard⟩:=o
  cases ho
  refine .inl ?_
  simp only [execOp,hx,hy]
  rcases Lw hn with h|h|h|h|h|h|h|h|h|h|h|h|h|h|h<;>subst h<;>kernel_rfl
theorem ak.hn {β:Bs} {N:dD} {k:Nat} {ops:Array Oper} {fr:Fr} {hps:List HP} {Q:Post} {d:Option Tmp} {x y:Operand} {n:Int} (hn:1<=n/\n<=15) (K:ak Tryz.prog β N ops (k+1) (cY fr d (.func (.func (NG.getD (n.toNat - 1) 0)) #[] #[])) hps Q)
    (hop:∀ junk,fK N junk ops fr k=some (.index 292 x y,d):=by intro _;kernel_rfl) (hx:∀ junk,dm N fr junk x=WC:=by intro _;kernel_rfl) (hy:∀ junk,dm N fr junk y=.int .i64 n:=by intro _;kernel_rfl):ak Tryz.prog β N ops k fr hps Q:=
  ak.jZ hop (fun _ junk w ho hS=>⟨w,Uu ho (hx junk) (hy junk) hn,hS⟩) K
theorem VY {β:Bs} {S:aI} {L:HL} {f m t b:Nat} {c:aB} (n:Int) (hI:Inv S) (hC:lq β c) (h:1<=n/\n<=15) (he:c.op=n):Spec Tryz.prog β (NG.getD (n.toNat - 1) 0) #[vP f,vP b] (pA f m t L S++[pC b c]) (fun v l=>∃ L2,v=vI (cV S c).1/\l=pA f m t L2 (cV S c).2.1++[pC b (cV S c).2.2]):=by
  subst he
  rcases Lw h with h|h|h|h|h|h|h|h|h|h|h|h|h|h|h<;>rw [h]
  ·rw [sS h];exact Lr S L f m t hI b c hC
  ·rw [rf h];exact FD S L f m t hI b c hC
  ·exact absurd hC.op (by rw [h];unfold lT;decide)
  ·rw [sU h];exact Jp S L f m t hI b c hC
  ·exact absurd hC.op (by rw [h];unfold lT;decide)
  ·exact absurd hC.op (by rw [h];unfold lT;decide)
  ·exact absurd hC.op (by rw [h];unfold lT;decide)
  ·exact absurd hC.op (by rw [h];unfold lT;decide)
  ·exact absurd hC.op (by rw [h];unfold lT;decide)
  ·exact absurd hC.op (by rw [h];unfold lT;decide)
  ·rw [p4 h];exact Ls S L f m t hI b c hC
  ·exact absurd hC.op (by rw [h];unfold lT;decide)
  ·rw [p6 h];exact Jq S L f m t hI b c hC
  ·exact absurd hC.op (by rw [h];unfold lT;decide)
  exact absurd hC.op (by rw [h];unfold lT;decide)
theorem NH {S:aI} {c:aB} (h:1<=c.op/\c.op<=15):(cV S c).2.2.op=c.op:=by
  rcases Lw h with h|h|h|h|h|h|h|h|h|h|h|h|h|h|h
  ·rw [sS h];exact R9
  ·rw [rf h];exact KP
  ·rw [CR h];exact Jb
  ·rw [sU h];exact KQ
  ·rw [CS h];exact Jc
  ·rw [CU h];exact GY
  ·rw [CV h];exact M0
  ·rw [CW h];exact Jd
  ·rw [CX h];exact KS
  ·rw [yS h];exact KT
  ·rw [p4 h];exact Sd
  ·rw [yT h];exact M4
  ·rw [p6 h];exact PF
  ·rw [yU h];exact KR
  rw [yV h];exact Je
end
section
open Go.RowKit Go.Maps bC aE
attribute [local irreducible] ak aW af aj
abbrev rW (b3:Nat):=(.blk b3 [vI 0,vI 0,vI 0,.string ⟨#[]⟩,.string ⟨#[]⟩,.slice none (0) (0),vI 0,vI 0,vI 0,vI 0,vI 0,vI 0,vI 0] 88:HP)
abbrev WD (c:aB):=([(0,vI (c.op)),(1,vI (c.handle)),(2,vI (c.other)),(3,.string c.name),(4,.string c.text),(5,.slice c.dA (c.data.length) (c.dC)),(6,vI (c.mode)),(7,vI (c.uid)),(8,vI (c.gid)),(9,vI (c.sec)),(10,vI (c.nano)),(11,vI 230)]:Fr)
theorem Jr {β:Bs}:Spec Tryz.prog β 171 #[] [] (fun v l=>v=.agg #[.nilFunc,.func (.func 172) #[] #[],.func (.func 173) #[] #[],.func (.func 174) #[] #[],.func (.func 175) #[] #[],.func (.func 176) #[] #[],.func (.func 177) #[] #[],.func (.func 178) #[] #[],.func (.func 179) #[] #[],.func (.func 180) #[] #[],.func (.func 181) #[] #[],.func (.func 182) #[] #[],.func (.func 183) #[] #[],.func (.func 184) #[] #[],.func (.func 185) #[] #[],.func (.func 186) #[] #[]]/\l=[]):=by
 refine Spec.enter Tryz.func171 rfl Tryz.ntmps171 (Nat.le_of_ble_eq_true rfl) (fun R=>?_)
 refine SR (gN 1 (fun b1=>[(0,vP b1)]) (fun _=>[]) (fun _=>[]) (fun b1=>.blk b1 [.nilFunc,.nilFunc,.nilFunc,.nilFunc,.nilFunc,.nilFunc,.nilFunc,.nilFunc,.nilFunc,.nilFunc,.nilFunc,.nilFunc,.nilFunc,.nilFunc,.nilFunc,.nilFunc] 292) (fun b1=>?_))
 refine NS (gC 2 [] [(1,A_ 1 b1 16)] [(1,[(1,.func (.func 172) #[] #[]),(2,.func (.func 173) #[] #[]),(3,.func (.func 174) #[] #[]),(4,.func (.func 175) #[] #[]),(5,.func (.func 176) #[] #[]),(6,.func (.func 177) #[] #[]),(7,.func (.func 178) #[] #[]),(8,.func (.func 179) #[] #[]),(9,.func (.func 180) #[] #[]),(10,.func (.func 181) #[] #[]),(11,.func (.func 182) #[] #[]),(12,.func (.func 183) #[] #[]),(13,.func (.func 184) #[] #[]),(14,.func (.func 185) #[] #[]),(15,.func (.func 186) #[] #[])])] ?_)
 refine NN (af.ret ?_)
 exact aj.ret (v:=.agg #[.nilFunc,.func (.func 172) #[] #[],.func (.func 173) #[] #[],.func (.func 174) #[] #[],.func (.func 175) #[] #[],.func (.func 176) #[] #[],.func (.func 177) #[] #[],.func (.func 178) #[] #[],.func (.func 179) #[] #[],.func (.func 180) #[] #[],.func (.func 181) #[] #[],.func (.func 182) #[] #[],.func (.func 183) #[] #[],.func (.func 184) #[] #[],.func (.func 185) #[] #[],.func (.func 186) #[] #[]]) (l:=[]) (aZ:=[b1=b1,b1=b1,b1=b1,b1=b1,b1=b1,b1=b1,b1=b1,b1=b1,b1=b1,b1=b1,b1=b1,b1=b1,b1=b1,b1=b1,b1=b1,b1=b1]) [.at 1,.at 1,.at 1,.at 1,.at 1,.at 1,.at 1,.at 1,.at 1,.at 1,.at 1,.at 1,.at 1,.at 1,.at 1,.at 1] [0] (fun _=>by kernel_rfl) ⟨rfl,rfl,rfl,rfl,rfl,rfl,rfl,rfl,rfl,rfl,rfl,rfl,rfl,rfl,rfl,rfl,trivial⟩ rfl (by kernel_rfl) (⟨rfl,rfl⟩)
theorem H8 {β:Bs} (S:aI) (L:HL) (f m t:Nat) (hI:Inv S) (c:aB) (hC:lq β c) :
    Spec Tryz.prog β 170 #[vP f,.agg #[vI (c.op),vI (c.handle),vI (c.other),.string c.name,.string c.text,.slice c.dA (c.data.length) (c.dC),vI (c.mode),vI (c.uid),vI (c.gid),vI (c.sec),vI (c.nano),vI (c.code),vI (c.answer)]] (pA f m t L S) (fun v l=>∃ L2,v=.agg ⟨dr (bK S c).2⟩/\l=(pA f m t L2 ((bK S c).1))):=by
 have hX:=hI.hX
 refine Spec.enter Tryz.func170 rfl Tryz.ntmps170 (Nat.le_of_ble_eq_true rfl) (fun R=>?_)
 refine SR (gN 1 (fun b2=>[(3,vP b2)]) (fun _=>[]) (fun _=>[]) (fun b2=>pC b2 c) (fun b2=>?_))
 refine gN 1 (fun b3=>[(4,vP b3)]) (fun _=>[]) (fun _=>[]) (fun b3=>.blk b3 [vI 0,vI 0,vI 0,.string ⟨#[]⟩,.string ⟨#[]⟩,.slice none (0) (0),vI 0,vI 0,vI 0,vI 0,vI 0,vI 0,vI 0] 88) (fun b3=>?_)
 refine NS (gC 2 [] [(1,a_ 7 b2)] [(7,[(12,vI 0)])] ?_)
 refine NS (gC 2 [] [(1,a_ 7 b2)] [(7,[(11,vI 230)])] ?_)
 refine NN (af.seq (SR (gK 4 [(10,.bool (decide ((c.op:Int) ≥ (1:Int))))] [(1,a_ 7 b2)] ?_)))
 refine ak.iG 10 ((c.op:Int) ≥ (1:Int)) (fun _=>by kernel_rfl) (fun h10=>?_) (fun h10=>?_)
 ·refine gK 4 [(14,.bool (decide ((c.op:Int)<=(15:Int))))] [(1,a_ 7 b2)] ?_
  refine NN (af.aV (p:=(c.op:Int)<=(15:Int)) (fun _=>by kernel_rfl) (fun ko=>?_) (fun ko=>?_))
  ·have hop:1<=c.op/\c.op<=15:=⟨h10,ko⟩
   refine af.Lu (S:=[.abs (vT b2 (.int .i64 c.op))]) [1,2,4,0,3,5,6,7] 3 (by kernel_rfl) (by kernel_rfl) (fun w hS=>hS.first (i:=7) (b:=b2) rfl rfl) ?_
   refine gR 0 [0,3,5,6,7] [(3,vP b2),(4,vP b3),(17,vI (c.op)),(19,vP f)] [1,2,4] [(1,p_ ⟨[.view 0 (.int .i64 (c.op))],none,none,none,none⟩ [(∀ F w,(vT b2 (.int .i64 c.op)).h F w->w.cell? ⟨b2,0,none⟩=some (vI (c.op)))] ⟨vT.cell,trivial⟩)] ?_
   refine aS.Lv (ι:=Unit) (fr':=fun (_:Unit)=>[(3,vP b2),(4,vP b3),(15,.agg #[.nilFunc,.func (.func 172) #[] #[],.func (.func 173) #[] #[],.func (.func 174) #[] #[],.func (.func 175) #[] #[],.func (.func 176) #[] #[],.func (.func 177) #[] #[],.func (.func 178) #[] #[],.func (.func 179) #[] #[],.func (.func 180) #[] #[],.func (.func 181) #[] #[],.func (.func 182) #[] #[],.func (.func 183) #[] #[],.func (.func 184) #[] #[],.func (.func 185) #[] #[],.func (.func 186) #[] #[]]),(17,vI (c.op)),(19,vP f)]) (hp':=fun (_:Unit)=>((pA f m t L S)++[.abs R,pC b2 (c0 c),rW b3])) rfl rfl ?_ (by rintro _ w hS;exact hS.first (i:=7) (b:=b2) rfl rfl) ?_
   ·refine gL [] (Jr) ?_
    rintro _ _ ⟨rfl,rfl⟩
    refine NL ?_
    exact MD () [3,4,15,17,19] [0,1,2,3,4,5,6,7,8]
   rintro _
   refine aS.Lv (ι:=Unit) (fr':=fun (_:Unit)=>[(3,vP b2),(4,vP b3),(18,.func (.func (NG.getD (c.op.toNat - 1) 0)) #[] #[]),(19,vP f)]) (hp':=fun (_:Unit)=>((pA f m t L S)++[.abs R,pC b2 (c0 c),rW b3])) rfl rfl ?_ (by rintro _ w hS;exact hS.first (i:=7) (b:=b2) rfl rfl) ?_
   ·refine ak.hn (x:=(.tmp 15)) (y:=(.tmp 17)) (d:=(some 18)) hop ?_
    refine NL ?_
    exact MD () [3,4,18,19] [0,1,2,3,4,5,6,7,8]
   rintro _
   refine aS.Lv (ι:=HL) (fr':=fun (L2:HL)=>[(3,vP b2),(4,vP b3),(20,vI ((cV S (c0 c)).1))]) (hp':=fun (L2:HL)=>((pA f m t L2 ((cV S (c0 c)).2.1))++[pC b2 ((cV S (c0 c)).2.2),.abs R,rW b3])) rfl rfl ?_ (by rintro L2 w hS;exact hS.first (i:=6) (b:=b2) rfl (congrArg (fun z=>some (Value.int .i64 z)) (NH (c:=(c0 c)) hop))) ?_
   ·refine gL [0,1,2,3,4,5,7] (VY (S:=S) (L:=L) (f:=f) (m:=m) (t:=t) (b:=b2) (c:=(c0 c)) c.op hI ⟨hC.hw,hC.ow,hC.nm,hC.tx,hC.da,hC.dl,hC.dc,hC.op⟩ hop rfl) ?_ (by intro _;rcases Lw hop with h|h|h|h|h|h|h|h|h|h|h|h|h|h|h<;>rw [h]<;>kernel_rfl)
    rintro _ _ ⟨L2,rfl,rfl⟩
    refine NL ?_
    exact MD L2 [3,4,20] [0,1,2,3,4,5,6,7,8]
   rintro L2
   refine aS.Lv (ι:=Unit) (fr':=fun (_:Unit)=>[(3,vP b2),(4,vP b3),(20,vI ((cV S (c0 c)).1)),(21,.pointer (some ⟨b2,11,none⟩))]) (hp':=fun (_:Unit)=>((pA f m t L2 ((cV S (c0 c)).2.1))++[pC b2 ((cV S (c0 c)).2.2),.abs R,rW b3])) rfl rfl ?_ (by rintro _ w hS;exact hS.first (i:=6) (b:=b2) rfl (congrArg (fun z=>some (Value.int .i64 z)) (NH (c:=(c0 c)) hop))) ?_
   ·refine gK 1 [(21,.pointer (some ⟨b2,11,none⟩))] [] ?_
    refine NL ?_
    exact MD () [3,4,20,21] [0,1,2,3,4,5,6,7,8]
   rintro _
   refine aS.last rfl rfl ?_
   refine gC 1 [] [(0,a_ 6 b2)] [(6,[(11,vI ((cV S (c0 c)).1))])] ?_
   refine NL (aj.np (NX (SR ?_)))
   refine gC 2 [] [(0,A_ 6 b2 13),(1,A_ 8 b3 13)] [(8,[(0,vI ((cV S (c0 c)).2.2.op)),(1,vI ((cV S (c0 c)).2.2.handle)),(2,vI ((cV S (c0 c)).2.2.other)),(3,.string (cV S (c0 c)).2.2.name),(4,.string (cV S (c0 c)).2.2.text),(5,.slice (cV S (c0 c)).2.2.dA ((cV S (c0 c)).2.2.data.length) ((cV S (c0 c)).2.2.dC)),(6,vI ((cV S (c0 c)).2.2.mode)),(7,vI ((cV S (c0 c)).2.2.uid)),(8,vI ((cV S (c0 c)).2.2.gid)),(9,vI ((cV S (c0 c)).2.2.sec)),(10,vI ((cV S (c0 c)).2.2.nano)),(11,vI ((cV S (c0 c)).1)),(12,vI ((cV S (c0 c)).2.2.answer))])] ?_
   refine NN (af.ret ?_)
   exact aj.ret (v:=.agg #[vI ((cV S (c0 c)).2.2.op),vI ((cV S (c0 c)).2.2.handle),vI ((cV S (c0 c)).2.2.other),.string (cV S (c0 c)).2.2.name,.string (cV S (c0 c)).2.2.text,.slice (cV S (c0 c)).2.2.dA ((cV S (c0 c)).2.2.data.length) ((cV S (c0 c)).2.2.dC),vI ((cV S (c0 c)).2.2.mode),vI ((cV S (c0 c)).2.2.uid),vI ((cV S (c0 c)).2.2.gid),vI ((cV S (c0 c)).2.2.sec),vI ((cV S (c0 c)).2.2.nano),vI ((cV S (c0 c)).1),vI ((cV S (c0 c)).2.2.answer)]) (l:=(pA f m t L2 ((cV S (c0 c)).2.1))) (aZ:=[b3=b3,b3=b3,b3=b3,b3=b3,b3=b3,b3=b3,b3=b3,b3=b3,b3=b3,b3=b3,b3=b3,b3=b3,b3=b3]) [.at 8,.at 8,.at 8,.at 8,.at 8,.at 8,.at 8,.at 8,.at 8,.at 8,.at 8,.at 8,.at 8] [0,1,2,3,4,5,7] (fun _=>by kernel_rfl) ⟨rfl,rfl,rfl,rfl,rfl,rfl,rfl,rfl,rfl,rfl,rfl,rfl,rfl,trivial⟩ rfl (by kernel_rfl) (⟨L2,rfl,rfl⟩)
  refine af.skip (NX (SR (gC 2 [] [(0,A_ 7 b2 13),(1,A_ 8 b3 13)] [(8,(WD c))] ?_)))
  refine NN (af.ret ?_)
  exact aj.ret (v:=.agg #[vI (c.op),vI (c.handle),vI (c.other),.string c.name,.string c.text,.slice c.dA (c.data.length) (c.dC),vI (c.mode),vI (c.uid),vI (c.gid),vI (c.sec),vI (c.nano),vI 230,vI 0]) (l:=(pA f m t L S)) (aZ:=[b3=b3,b3=b3,b3=b3,b3=b3,b3=b3,b3=b3,b3=b3,b3=b3,b3=b3,b3=b3,b3=b3,b3=b3,b3=b3]) [.at 8,.at 8,.at 8,.at 8,.at 8,.at 8,.at 8,.at 8,.at 8,.at 8,.at 8,.at 8,.at 8] [0,1,2,3,4,5,6] (fun _=>by kernel_rfl) ⟨rfl,rfl,rfl,rfl,rfl,rfl,rfl,rfl,rfl,rfl,rfl,rfl,rfl,trivial⟩ rfl (by kernel_rfl) (⟨L,by unfold bK;rw [vL (S:=S) (c:=(c0 c)) (by show ¬ (1<=c.op/\c.op<=15);omega)];exact⟨rfl,rfl⟩⟩)
 refine gK 4 [(14,.bool false)] [] ?_
 refine NN (CF (af.skip (NX (SR (gC 2 [] [(0,A_ 7 b2 13),(1,A_ 8 b3 13)] [(8,(WD c))] ?_)))))
 refine NN (af.ret ?_)
 exact aj.ret (v:=.agg #[vI (c.op),vI (c.handle),vI (c.other),.string c.name,.string c.text,.slice c.dA (c.data.length) (c.dC),vI (c.mode),vI (c.uid),vI (c.gid),vI (c.sec),vI (c.nano),vI 230,vI 0]) (l:=(pA f m t L S)) (aZ:=[b3=b3,b3=b3,b3=b3,b3=b3,b3=b3,b3=b3,b3=b3,b3=b3,b3=b3,b3=b3,b3=b3,b3=b3,b3=b3]) [.at 8,.at 8,.at 8,.at 8,.at 8,.at 8,.at 8,.at 8,.at 8,.at 8,.at 8,.at 8,.at 8] [0,1,2,3,4,5,6] (fun _=>by kernel_rfl) ⟨rfl,rfl,rfl,rfl,rfl,rfl,rfl,rfl,rfl,rfl,rfl,rfl,rfl,trivial⟩ rfl (by kernel_rfl) (⟨L,by unfold bK;rw [vL (S:=S) (c:=(c0 c)) (by show ¬ (1<=c.op/\c.op<=15);omega)];exact⟨rfl,rfl⟩⟩)
end
section
open Go.RowKit Go.Maps bC aE
attribute [local irreducible] ak aW af aj
abbrev J5 (B)(d:List UInt8) (cap):=(.abs (aK 5 1 B d.length cap (cM d)):HP)
abbrev WE (b5:Nat) (An:Option Addr) (i:Nat) (cn:Nat):=(.blk b5 [.slice An (i) (cn)] 24:HP)
abbrev WH (An:Option Addr) (i:Nat) (cn:Nat) (K) (S:aI):=(.abs (aK 108 10 An i cn (dU K ((ay S).take i))):HP)
abbrev WI (S:aI) (i:Nat) (K):=(.abs (jN (mw ((ay S).take i) K) i):HP)
abbrev WJ (S:aI) (i:Nat) (K):=(.abs (jN (mz ((ay S).take i) K) i):HP)
abbrev WK (A7:Option Addr) (S:aI) (c8:Nat):=(.abs (aK 3 1 A7 ((keys S.idx).length) c8 (ints (keys S.idx))):HP)
abbrev WL (b4:Nat):=(.blk b4 [.slice none (0) (0)] 24:HP)
abbrev Uv (b9:Nat):=(.blk b9 [vI 0,vI 0,vI 0,vI 0,vI 0,vI 0,vI 0,.slice none (0) (0),.string ⟨#[]⟩,.slice none (0) (0)] 108:HP)
abbrev WM (b9:Nat) (S:aI) (i:Nat) (tk:Nat):=(.blk b9 [vI ((bZ S i)),vI 1,vI ((obj S.O tk).mode),vI ((obj S.O tk).uid),vI ((obj S.O tk).gid),vI ((obj S.O tk).sec),vI ((obj S.O tk).nano),.slice none (0) (0),.string ⟨#[]⟩,.slice none (0) (0)] 108:HP)
abbrev Uw (S:aI) (L:HL) (tk:Nat):=(.abs (aH (kZ (dg S.O L) tk bV.none)):HP)
abbrev H9 (L:HL) (tk:Nat) (S:aI):=(.abs (aN Tryz.prog 9 (L.m tk) (jh L (obj S.O tk).ah) ((obj S.O tk).ah.length)):HP)
abbrev jR (b15:Nat) (S:aI) (i:Nat) (tk:Nat) (Ae:Option Addr) (j:Nat) (ce:Nat):=(.blk b15 [vI ((bZ S i)),vI 2,vI ((obj S.O tk).mode),vI ((obj S.O tk).uid),vI ((obj S.O tk).gid),vI ((obj S.O tk).sec),vI ((obj S.O tk).nano),.slice none (0) (0),.string ⟨#[]⟩,.slice Ae (j) (ce)] 108:HP)
abbrev oR (Ae:Option Addr) (j:Nat) (ce:Nat) (S:aI) (tk:Nat):=(.abs (aK 110 2 Ae j ce (iH (((obj S.O tk).ah.take j).map (lu S.O)))):HP)
abbrev Ux (b16:Nat) (L:HL) (tk:Nat):=(.blk b16 [.map (some (L.m tk))] 174:HP)
abbrev Uy (eH:Option Addr) (S:aI) (tk:Nat) (c18:Nat):=(.abs (aK 9 1 eH ((obj S.O tk).ah.length) c18 (rN (obj S.O tk).ah)):HP)
abbrev Et (nV:Option Addr) (j:Nat) (nW:Nat) (S:aI) (tk:Nat):=(.abs (aK 110 2 nV (j+1) nW (iH (((obj S.O tk).ah.take (j+1)).map (lu S.O)))):HP)
abbrev Eu (b19:Nat) (S:aI) (tk:Nat) (j:Nat) (ek:Nat):=(.blk b19 [.string (fD (obj S.O tk).ah j),vI ((obj S.O ek).id)] 110:HP)
abbrev mO (f:Nat) (b4:Nat) (b5:Nat) (b15:Nat) (L:HL) (tk:Nat) (A7:Option Addr) (S:aI) (c8:Nat) (i:Nat) (eH:Option Addr) (c18:Nat) (j:Nat):=([(0,vP f),(2,vP b4),(3,vP b5),(8,vP b15),(11,vP (L.b tk)),(19,.slice A7 ((keys S.idx).length) (c8)),(20,vI ↑((keys S.idx).length)),(21,vI ↑i),(79,.slice eH ((obj S.O tk).ah.length) (c18)),(80,vI ↑((obj S.O tk).ah.length)),(81,vI ↑j)]:Fr)
abbrev lM (L:HL) (tk:Nat) (S:aI) (b16:Nat) (eH:Option Addr) (c18:Nat) (b5:Nat) (An:Option Addr) (i:Nat) (cn:Nat) (K) (A7:Option Addr) (c8:Nat) (b4:Nat) (f:Nat) (m:Nat) (t) (R:bV):=([H9 L tk S,Ux b16 L tk,Uy eH S tk c18,WE b5 An i cn,WH An i cn K S,WI S i K,WJ S i K,WK A7 S c8,WL b4,pF f m t S.X,pI m L S.idx,pO S.O L,pD S.O L,Uw S L tk,.abs R]:List HP)
abbrev Ia (f:Nat) (b4:Nat) (b5:Nat) (b15:Nat) (L:HL) (tk:Nat) (A7:Option Addr) (S:aI) (c8:Nat) (i:Nat) (eH:Option Addr) (c18:Nat) (j:Nat):=([(0,vP f),(2,vP b4),(3,vP b5),(8,vP b15),(11,vP (L.b tk)),(19,.slice A7 ((keys S.idx).length) (c8)),(20,vI ↑((keys S.idx).length)),(21,vI ↑i),(79,.slice eH ((obj S.O tk).ah.length) (c18)),(80,vI ↑((obj S.O tk).ah.length)),(81,vI ↑j)]:Fr)
abbrev Ev (S:aI) (tk:Nat):=([(39,vI ((obj S.O tk).mode)),(43,vI ((obj S.O tk).uid)),(47,vI ((obj S.O tk).gid)),(51,.agg #[vI ((obj S.O tk).sec),vI ((obj S.O tk).nano)])]:Fr)
abbrev zu (f:Nat) (b4:Nat) (b5:Nat):=([(0,vP f),(2,vP b4),(3,vP b5)]:Fr)
abbrev zw (A7:Option Addr) (S:aI) (c8:Nat) (i:Nat):=([(19,.slice A7 ((keys S.idx).length) (c8)),(20,vI ↑((keys S.idx).length)),(21,vI ↑i)]:Fr)
abbrev xD (b5:Nat) (An:Option Addr) (i:Nat) (cn:Nat) (K) (S:aI) (A7:Option Addr) (c8:Nat) (b4:Nat) (f:Nat) (m:Nat) (t) (L:HL):=([WE b5 An i cn,WH An i cn K S,WI S i K,WJ S i K,WK A7 S c8,WL b4,pF f m t S.X,pI m L S.idx,pO S.O L]:List HP)
abbrev sy (Ae:Option Addr) (j:Nat) (ce:Nat) (S:aI) (tk:Nat):=([(86,.slice Ae (j) (ce)),(87,.string (fD (obj S.O tk).ah j))]:Fr)
abbrev Qg (S:aI) (tk:Nat):=([(2,vI ((obj S.O tk).mode)),(3,vI ((obj S.O tk).uid)),(4,vI ((obj S.O tk).gid)),(5,vI ((obj S.O tk).sec)),(6,vI ((obj S.O tk).nano))]:Fr)
theorem Ew {β:Bs} (c:Nat):Spec Tryz.prog β 58 #[.slice none 0 c] [] (fun v l=>∃ B cap,v=.slice B 0 cap/\l=[.abs (aK 5 1 B 0 cap [])]):=by
 refine Spec.enter Tryz.func58 rfl Tryz.ntmps58 (Nat.le_of_ble_eq_true rfl) (fun R=>?_)
 refine SR (gK 1 [] [] ?_)
 refine NN (af.seq (SR (gK 2 [(4,.bool true)] [] ?_)))
 refine NN (CT (SR (gK 1 [(2,.slice none (0) (0))] [] ?_)))
 refine NN (af.ret (aj.aq (aj.mem (fun w hS=>(hS.mF (e:=5) (size:=1)).pick (idx:=[1,0]) (l':=[.abs (aK 5 1 none 0 0 ([])),.abs R]) rfl (by kernel_rfl)) ?_)))
 exact RT (.slice none (0) (0)) [0,1] (⟨none,0,rfl,rfl⟩)
theorem Dj {β:Bs} (a:Addr) (c:Nat) (d:List UInt8) (hA:bS β (some a) d) (hl:d.length<=140737488355328):Spec Tryz.prog β 58 #[.slice (some a) d.length c] [] (fun v l=>∃ B cap,v=.slice B d.length cap/\l=[J5 B d cap]):=by
 refine Spec.enter Tryz.func58 rfl Tryz.ntmps58 (Nat.le_of_ble_eq_true rfl) (fun R=>?_)
 refine SR (gK 1 [] [] ?_)
 refine NN (af.seq (SR (gK 2 [(4,.bool false)] [] ?_)))
 refine NN (CF (af.skip (NX (SR (gN 1 (fun b1=>[(5,.slice (some ⟨b1,0,none⟩) (0) (0))]) (fun _=>[]) (fun _=>[]) (fun b1=>.blk b1 [] 5) (fun b1=>?_))))))
 refine ak.mem (fun w hS=>hS.pQ (i:=1) (b:=b1) (cs:=[]) (e:=5) 1 0 (by kernel_rfl) rfl (by decide)) ?_
 refine gK 1 [(6,.slice (some a) (d.length) (c))] [] ?_
 refine ak.append 1 (d:=(some 7)) (t:=86) (e:=5) (z:=.int .u8 0) (size:=1) (bytes:=1) (n:=0) (cap:=0) (A:=some ⟨b1,0,none⟩) (xs:=[]) (s:=(.tmp 5)) (x:=(.tmp 6)) (ats:=#[86,86]) (A':=(some a)) (m:=d.length) (c':=c) (news:=(cM d)) (fun _=>by kernel_rfl) rfl (by kernel_rfl) (fun _=>by kernel_rfl) (fun _=>by kernel_rfl) Tryz.underlying86 (by kernel_rfl) rfl (by decide) (by rw [wD,Nat.mul_one]) (r9 d) (hA.src) (by unfold maxLen;omega) (by omega) (fun A2 c3=>?_)
 refine ak.dI 1 (p:=.abs (aK 5 1 A2 (0+d.length) c3 ([]++(cM d)))) (p':=.abs (aK 5 1 A2 d.length c3 (cM d))) (by kernel_rfl) (by rw [Nat.zero_add,List.nil_append]) ?_
 refine ak.slot 7 (.slice A2 (0+d.length) (c3)) (.slice A2 (d.length) (c3)) (fun _=>by kernel_rfl) (by rw [Nat.zero_add]) ?_
 refine gK 1 [(2,.slice A2 (d.length) (c3))] [] ?_
 refine NN (af.ret ?_)
 exact RT (.slice A2 (d.length) (c3)) [1,0] (⟨A2,c3,rfl,rfl⟩)
theorem vw {β:Bs} (A:Option Addr) (c:Nat) (d:List UInt8) (hA:bS β A d) (hl:d.length<=140737488355328):Spec Tryz.prog β 58 #[.slice A d.length c] [] (fun v l=>∃ B cap,v=.slice B d.length cap/\l=[J5 B d cap]):=by
  cases A with
  | some a=>exact Dj a c d hA hl
  | none=>
    cases d with
    | nil=>exact Ew c
    | cons b r=>have h:=bS.hd hA (j:=0) (by simp);cases h
theorem Ib {β:Bs} (A:Option Addr) (c:Nat) (d:List UInt8) (hl:d.length<=140737488355328):Spec Tryz.prog β 58 #[.slice A d.length c] [J5 A d c] (fun v l=>∃ B cap,v=.slice B d.length cap/\l=[J5 B d cap,J5 A d c]):=
  (Spec.BA (pre:=[]) (R:=[J5 A d c]) (fun _ h=>vw A c d h.bytes hl)).mono (by rintro v l ⟨l0,⟨B,cap,rfl,rfl⟩,rfl⟩;exact⟨B,cap,rfl,rfl⟩)
theorem Ic {β:Bs} (L:HL) (b bk:Nat) (idx:Used Th) (hr:aE.cq (keys idx)) (hn:idx.length<=4096) :
    Spec Tryz.prog β 37 #[CD bk] [pI b L idx,.blk bk [.map (some b)] 151] (fun v l=>∃ A cap,v=.slice A (keys idx).length cap/\l=[pI b L idx,.blk bk [.map (some b)] 151,.abs (aK 3 1 A (keys idx).length cap (ints (keys idx)))]):=
  (KH b bk idx.length (bE (bI L idx)) (by omega)).mono (by
    rintro v l ⟨A,cap,ss,rfl,hk,_,rfl⟩
    have e:=R5 (us:=bI L idx) (by rw [BG];exact hr) hk
    rw [BG] at e
    subst e
    exact⟨A,cap,rfl,rfl⟩)
theorem NI {β:Bs} (S:aI) (L:HL) (f m t:Nat) (hI:Inv S) :
    Spec Tryz.prog β 35 #[vP f] [pF f m t S.X,pI m L S.idx,pO S.O L,pD S.O L,pE S.O L] (fun v l=>∃ A c K,v=.agg #[.slice A (ay S).length c]/\l=[pF f m t S.X,pI m L S.idx,pO S.O L,pD S.O L,pE S.O L]++PO A c (ay S) K):=by
 have hX:=hI.hX
 have hkl:(keys S.idx).length=S.idx.length:=BL _
 have hil:=hI.len
 refine Spec.enter Tryz.func35 rfl Tryz.ntmps35 (Nat.le_of_ble_eq_true rfl) (fun R=>?_)
 refine SR (gN 1 (fun b4=>[(2,vP b4)]) (fun _=>[]) (fun _=>[]) (fun b4=>.blk b4 [.slice none (0) (0)] 24) (fun b4=>?_))
 refine NS (gN 1 (fun b5=>[(3,vP b5)]) (fun _=>[]) (fun _=>[]) (fun b5=>.blk b5 [.slice none (0) (0)] 24) (fun b5=>?_))
 refine NN (af.seq (SR (gK 4 [(17,.map (some m))] [(3,a_ 0 f)] ?_)))
 refine gL [] (Pj (some m)) ?_
 rintro _ _ ⟨b6,rfl,rfl⟩
 refine gL [2,0] (Ic L m b6 S.idx hI.rise hI.len) ?_
 rintro _ _ ⟨A7,c8,rfl,rfl⟩
 refine gK 1 [(20,vI ↑((keys S.idx).length))] [] ?_
 refine ak.mem (fun w hS=>hS.mF (e:=108) (size:=10)) ?_
 refine ak.mem (fun w hS=>hS.Mr (mw [] PN)) ?_
 refine ak.mem (fun w hS=>hS.Mr (mz [] PN)) ?_
 refine gK 1 [(21,vI 0)] [] ?_
 refine NN (af.block ?_)
 refine af.loop (ι:=Nat×(Option Addr)×Nat×Lay) (fun ((i,An,cn,K):Nat×(Option Addr)×Nat×Lay)=>(i<=S.idx.length)) (fun ((i,An,cn,K):Nat×(Option Addr)×Nat×Lay)=>S.idx.length - i) (fun ((i,An,cn,K):Nat×(Option Addr)×Nat×Lay)=>(zu f b4 b5++zw A7 S c8 i)) (fun ((i,An,cn,K):Nat×(Option Addr)×Nat×Lay)=>(xD b5 An i cn K S A7 c8 b4 f m t L++[pD S.O L,pE S.O L,.abs R])) (0,none,0,PN) (idx:=[0,2,3,19,20,21]) (pk:=[9,10,11,12,2,8,3,0,4,5,6,7]) (show (0<=S.idx.length) from (Nat.zero_le _)) (fun _=>by kernel_rfl) rfl (by kernel_rfl) ?_
 rintro⟨i,An,cn,K⟩ hi
 show af _ _ _ _ (zu f b4 b5++zw A7 S c8 i) (xD b5 An i cn K S A7 c8 b4 f m t L++[pD S.O L,pE S.O L,.abs R]) _
 refine SR (gK 1 [(22,.bool (decide ((((i:Nat):Int):Int) < ((((keys S.idx).length:Nat):Int):Int))))] [] ?_)
 refine NN (af.seq (af.aV (p:=(((i:Nat):Int):Int) < ((((keys S.idx).length:Nat):Int):Int)) (fun _=>by kernel_rfl) (fun Dk=>?_) (fun Dk=>?_)))
 ·have hi2:i < S.idx.length:=by omega
  refine af.skip (NX (af.seq (af.block (SR ?_))))
  refine ak.tell (p:=(A7=some ⟨ax A7,av A7,none⟩)) (fun w hS=>let ⟨F,h⟩:=hS.get (i:=4) rfl;(aK.Kr h (by omega)).1) (fun hAk=>?_)
  refine gK 3 [(5,vI ((bZ S i)))] [(0,p_ ⟨[],some i,none,some ⟨(ax A7),av A7,none⟩,none⟩ [((i:Nat):Int)=((i:Nat):Int),i < (keys S.idx).length,(⟨(ax A7),av A7,none⟩:Addr).spot=none,(A7:Option Addr)=some ⟨(ax A7),av A7,none⟩] ⟨rfl,by omega,rfl,hAk,trivial⟩),(1,p_ ⟨[.view 4 (.int .i64 ((bZ S i)))],none,none,none,none⟩ [(∀ F w,(aK 3 1 A7 ((keys S.idx).length) c8 (ints (keys S.idx))).h F w->w.cell? ⟨(ax A7),av A7+i * 1,none⟩=some (vI ((bZ S i))))] ⟨aK.cellAt (i:=i) (j:=0) (by omega) (PS hi2),trivial⟩)] ?_
  refine NN (af.seq ?_)
  have ZB:=(lC hI.toInv0 hi2).1
  have hget:=get_at hI.toInv0 hi2
  rcases VL hI.toInv0 hi2 with ⟨tk,lU,hlv⟩|⟨tk,lU,hlv⟩|⟨tk,lU,hlv⟩
  ·have hkt:(obj S.O tk).kind=1:=hI.kind hlv
   have hel:(obj S.O tk).ah.length<=8192:=hI.iL hlv
   have hdl:(obj S.O tk).data.length<=140737488355328:=hI.KJ hlv
   refine af.region (gK 5 [(28,.map (some m)),(29,vI ((bZ S i)))] [(3,a_ 6 f)] ?_)
   refine ak.dR 7 (d:=(some 30)) (t:=151) (K:=3) (E:=156) (b:=m) (n:=S.idx.length) (f:=(bE (bI L S.idx))) (x:=(.tmp 28)) (ix:=(.tmp 29)) (key:=.int .i64 ((bZ S i))) (z:=.nilIface) (kl:=(.int .i64 (bZ S i))) (r:=(some (ez L ⟨tk,1⟩))) (fun _=>by kernel_rfl) (by kernel_rfl) (fun _=>by kernel_rfl) (fun _=>by kernel_rfl) dG Tryz.underlying151 (fun _=>by kernel_rfl) (iK (Ee hI.toInv0 hi2)) (by rw [fQ,hget,lU];rfl) ?_
   refine gK 1 [(6,.iface 162 (vP (L.b tk)))] [] ?_
   refine NS (gK 1 [(31,.iface 162 (vP (L.b tk)))] [] ?_)
   refine gL [] (dN (L.b tk)) ?_
   rintro _ _ ⟨rfl,rfl⟩
   refine gK 1 [(7,vP (L.b tk))] [] ?_
   refine NN (af.seq (af.sW (S:=[pO S.O L]) [0,1,3,4,5,6,7,8,9,10,11,12,13,14,15,16,17,18] [.beside [2,19] 20,.one 21] [8] (by kernel_rfl) (by kernel_rfl) rfl (by kernel_rfl) ?_))
   refine gP (zu f b4 b5++[(6,.iface 162 (vP (L.b tk)))]++zw A7 S c8 i++[(33,vI ((bZ S i))),(34,.iface 162 (vP (L.b tk)))]++Ev S tk) [0,1,3,4,5,6,7,8,9,10,11,12,13,14,15,16,17,18] [(5,v_ 0 (tW L hkt)),(9,v_ 0 (Ad L hkt)),(13,v_ 0 (Ah L hkt)),(17,p_ ⟨[.view 0 (.int .i64 ((obj S.O tk).sec)),.view 0 (.int .i64 ((obj S.O tk).nano))],none,none,none,none⟩ [(∀ F w,(aH (bR S.O L)).h F w->w.cell? ⟨(L.b tk),5,none⟩=some (vI ((obj S.O tk).nano))),(∀ F w,(aH (bR S.O L)).h F w->w.cell? ⟨(L.b tk),4,none⟩=some (vI ((obj S.O tk).sec)))] ⟨eM (by rw [hkt];decide) (rfl),eM (by rw [hkt];decide) (rfl),trivial⟩)] ?_
   refine ji.beside (j:=20) (dj:=8) (R:=fun f_ l_=>f_=([(52,.agg #[vI ((bZ S i)),vI 1,vI ((obj S.O tk).mode),vI ((obj S.O tk).uid),vI ((obj S.O tk).gid),vI ((obj S.O tk).sec),vI ((obj S.O tk).nano),.slice none (0) (0),.string ⟨#[]⟩,.slice none (0) (0)]),(35,vI 1)]++zu f b4 b5++[(6,.iface 162 (vP (L.b tk)))]++zw A7 S c8 i++[(33,vI ((bZ S i))),(34,.iface 162 (vP (L.b tk)))]++Ev S tk)/\l_=[]) [0,1,2,3,4,5,6,7,8,9,10,11] [8] [(2,35),(19,52)] rfl (pc:=[]) (pj:=[]) (Z:=(xD b5 An i cn K S A7 c8 b4 f m t L++[pD S.O L,pE S.O L,.abs R])) (by kernel_rfl) rfl (by kernel_rfl) rfl rfl (gy.of (ι:=Nat) (v:=fun (b9:Nat)=>vP b9) (l:=fun (b9:Nat)=>[Uv b9]) [35,52] rfl rfl rfl rfl ?_) ?_ ?_
   ·intro u Aq
    show ak _ _ _ _ _ [(35,(u 35)),(52,(u 52)),(0,vP f),(2,vP b4),(3,vP b5),(6,.iface 162 (vP (L.b tk))),(19,.slice A7 ((keys S.idx).length) (c8)),(20,vI ↑((keys S.idx).length)),(21,vI ↑i),(33,vI ((bZ S i))),(34,.iface 162 (vP (L.b tk))),(39,vI ((obj S.O tk).mode)),(43,vI ((obj S.O tk).uid)),(47,vI ((obj S.O tk).gid)),(51,.agg #[vI ((obj S.O tk).sec),vI ((obj S.O tk).nano)])] [.abs Aq] _
    refine gN 1 (fun b9=>[(8,vP b9)]) (fun _=>[]) (fun _=>[]) (fun b9=>.blk b9 [vI 0,vI 0,vI 0,vI 0,vI 0,vI 0,vI 0,.slice none (0) (0),.string ⟨#[]⟩,.slice none (0) (0)] 108) (fun b9=>?_)
    refine NL ?_
    exact MD b9 [8,35,52,0,2,3,6,19,20,21,33,34,39,43,47,51] [1,0]
   ·refine lD.step (gy.of (ι:=Unit) (v:=fun (_:Unit)=>.int .i64 1) (l:=fun (_:Unit)=>[]) [8] rfl rfl rfl rfl ?_) rfl ?_
    ·intro u Aq
     show ak _ _ _ _ _ [(8,(u 8)),(0,vP f),(2,vP b4),(3,vP b5),(6,.iface 162 (vP (L.b tk))),(19,.slice A7 ((keys S.idx).length) (c8)),(20,vI ↑((keys S.idx).length)),(21,vI ↑i),(33,vI ((bZ S i))),(34,.iface 162 (vP (L.b tk))),(39,vI ((obj S.O tk).mode)),(43,vI ((obj S.O tk).uid)),(47,vI ((obj S.O tk).gid)),(51,.agg #[vI ((obj S.O tk).sec),vI ((obj S.O tk).nano)])] [.abs Aq] _
     refine gL [] (qK (vP (L.b tk))) ?_
     rintro _ _ ⟨rfl,rfl⟩
     refine NL ?_
     exact MD () [35,8,0,2,3,6,19,20,21,33,34,39,43,47,51] [0]
    rintro _ _ ⟨_,rfl,rfl⟩
    refine lD.step (gy.of (ι:=Unit) (v:=fun (_:Unit)=>.agg #[vI ((bZ S i)),vI 1,vI ((obj S.O tk).mode),vI ((obj S.O tk).uid),vI ((obj S.O tk).gid),vI ((obj S.O tk).sec),vI ((obj S.O tk).nano),.slice none (0) (0),.string ⟨#[]⟩,.slice none (0) (0)]) (l:=fun (_:Unit)=>[]) [8] rfl rfl rfl rfl ?_) rfl ?_
    ·intro u Aq
     show ak _ _ _ _ _ [(8,(u 8)),(35,vI 1),(0,vP f),(2,vP b4),(3,vP b5),(6,.iface 162 (vP (L.b tk))),(19,.slice A7 ((keys S.idx).length) (c8)),(20,vI ↑((keys S.idx).length)),(21,vI ↑i),(33,vI ((bZ S i))),(34,.iface 162 (vP (L.b tk))),(39,vI ((obj S.O tk).mode)),(43,vI ((obj S.O tk).uid)),(47,vI ((obj S.O tk).gid)),(51,.agg #[vI ((obj S.O tk).sec),vI ((obj S.O tk).nano)])] [.abs Aq] _
     refine gK 1 [(52,.agg #[vI ((bZ S i)),vI 1,vI ((obj S.O tk).mode),vI ((obj S.O tk).uid),vI ((obj S.O tk).gid),vI ((obj S.O tk).sec),vI ((obj S.O tk).nano),.slice none (0) (0),.string ⟨#[]⟩,.slice none (0) (0)])] [] ?_
     refine NL ?_
     exact MD () [52,8,35,0,2,3,6,19,20,21,33,34,39,43,47,51] [0]
    rintro _ _ ⟨_,rfl,rfl⟩
    exact⟨rfl,rfl⟩
   rintro _ _ ⟨rfl,rfl⟩ _ _ ⟨b9,rfl,rfl⟩
   refine ji.last rfl rfl ?_
   refine gC 1 [] [(0,A_ 0 b9 10)] [(0,([(0,vI ((bZ S i))),(1,vI 1)]++Qg S tk))] ?_
   refine NL (aj.np (NX (af.seq (SR ?_))))
   refine gK 1 [(53,.iface 162 (vP (L.b tk)))] [] ?_
   refine NN (af.block (SR ?_))
   refine gK 3 [(55,.bool true),(56,vP (L.b tk))] [] ?_
   refine NN (CT (SR (gK 1 [(9,vP (L.b tk))] [] ?_)))
   refine NN (af.region (gK 4 [(60,.slice (L.dA tk) ((obj S.O tk).data.length) ((L.dC tk)))] [(3,v_ 9 (Hj L hkt))] ?_))
   refine ak.mem (dw:=([WM b9 S i tk]++xD b5 An i cn K S A7 c8 b4 f m t L++[Wv S L tk,pE S.O L,.abs R,.abs (aK 5 1 (L.dA tk) ((obj S.O tk).data.length) (L.dC tk) (cM (obj S.O tk).data))])) (fun w hS=>hS.Mt (i:=10) (k:=tk) rfl hkt) ?_
   refine gL [13] (Ib (L.dA tk) (L.dC tk) (obj S.O tk).data hdl) ?_
   rintro _ _ ⟨qm,c11,rfl,rfl⟩
   refine ak.mem (dw:=([pD S.O L,.abs (aK 5 1 qm ((obj S.O tk).data.length) c11 (cM (obj S.O tk).data)),WM b9 S i tk]++xD b5 An i cn K S A7 c8 b4 f m t L++[pE S.O L,.abs R])) (fun w hS=>hS.TY (i:=12) (j:=1) (ix:=[0,2,3,4,5,6,7,8,9,10,11,13,14]) rfl rfl (by kernel_rfl) rfl hkt) ?_
   refine gC 2 [] [(1,a_ 2 b9)] [(2,[(7,.slice qm ((obj S.O tk).data.length) (c11))])] ?_
   refine NL (aj.aP (NX (af.region ?_)))
   refine gN 4 (fun b12=>[(104,.slice An (i) (cn)),(106,.slice (some ⟨b12,0,none⟩) (1) (1))]) (fun b12=>[(1,a_ 3 b5),(2,A_ 2 b9 10)]) (fun _=>[]) (fun b12=>.blk b12 [vI ((bZ S i)),vI 1,vI ((obj S.O tk).mode),vI ((obj S.O tk).uid),vI ((obj S.O tk).gid),vI ((obj S.O tk).sec),vI ((obj S.O tk).nano),.slice qm ((obj S.O tk).data.length) (c11),.string ⟨#[]⟩,.slice none (0) (0)] 108) (fun b12=>?_)
   refine ak.append 4 (d:=(some 107)) (t:=22) (e:=108) (z:=.agg #[vI 0,vI 0,vI 0,vI 0,vI 0,vI 0,vI 0,.slice none (0) (0),.string ⟨#[]⟩,.slice none (0) (0)]) (size:=10) (bytes:=120) (n:=i) (cap:=cn) (A:=An) (xs:=(dU K ((ay S).take i))) (s:=(.tmp 104)) (x:=(.tmp 106)) (ats:=#[22,22]) (A':=some ⟨b12,0,none⟩) (m:=1) (c':=1) (news:=[vI ((bZ S i)),vI 1,vI ((obj S.O tk).mode),vI ((obj S.O tk).uid),vI ((obj S.O tk).gid),vI ((obj S.O tk).sec),vI ((obj S.O tk).nano),.slice qm ((obj S.O tk).data.length) (c11),.string ⟨#[]⟩,.slice none (0) (0)]) (fun _=>by kernel_rfl) rfl (by kernel_rfl) (fun _=>by kernel_rfl) (fun _=>by kernel_rfl) Tryz.underlying22 (by kernel_rfl) rfl (by decide) (rfl) (by simp [Value.oneCell']) (kW (j:=14) rfl) (by unfold maxLen;omega) (by omega) (fun J6 c14=>?_)
   refine ak.dI 4 (p:=.abs (aK 108 10 J6 (i+1) c14 ((dU K ((ay S).take i))++[vI ((bZ S i)),vI 1,vI ((obj S.O tk).mode),vI ((obj S.O tk).uid),vI ((obj S.O tk).gid),vI ((obj S.O tk).sec),vI ((obj S.O tk).nano),.slice qm ((obj S.O tk).data.length) (c11),.string ⟨#[]⟩,.slice none (0) (0)]))) (p':=.abs (aK 108 10 J6 (i+1) c14 (dU (K.put i qm c11 none 0) ((ay S).take (i+1))))) (by kernel_rfl) (congrArg (fun x=>HP.abs (aK 108 10 _ _ _ x)) (wY (dY (by omega)) (rO hI.toInv0 hi2 lU hlv) rfl rfl)) ?_
   refine ak.slot 107 (.slice J6 (i+1) (c14)) (.slice J6 ((i+1)) (c14)) (fun _=>by kernel_rfl) (rfl) ?_
   refine gC 2 [] [(1,a_ 3 b5)] [(3,[(0,.slice J6 ((i+1)) (c14))])] ?_
   refine NL (aj.aP (NX (af.region ?_)))
   refine gK 2 [(21,vI ↑(i+1))] [(0,p_ ⟨[],none,none,none,some (vI ↑(i+1))⟩ [(Value.int .i64 (IntKind.wrap .i64 (((i:Nat):Int)+1)))=(.int .i64 ↑(i+1))] ⟨bB (by omega) (by omega) (by omega),trivial⟩)] ?_
   refine NL (aj.mem (fun w hS=>hS.mF (e:=110) (size:=2)) ?_)
   refine aj.mem (fun w hS=>hS.tf (R':=(mz ((ay S).take (i+1)) (K.put i qm c11 none 0))) (i:=6) (j:=1) (idx:=[0,2,3,4,5,7,8,9,10,11,12,13,14,15]) rfl rfl (by kernel_rfl) rfl (BM (dY (by omega)) (rO hI.toInv0 hi2 lU hlv)) (yY (dY (by omega)) (rO hI.toInv0 hi2 lU hlv) rfl)) ?_
   refine aj.mem (fun w hS=>hS.tf (R':=(mw ((ay S).take (i+1)) (K.put i qm c11 none 0))) (i:=5) (j:=14) (idx:=[0,1,2,3,4,6,7,8,9,10,11,12,13]) rfl rfl (by kernel_rfl) rfl (BN (dY (by omega)) (rO hI.toInv0 hi2 lU hlv)) ((yZ (dY (by omega)) (rO hI.toInv0 hi2 lU hlv) rfl))) ?_
   exact aj.turn ((i+1),J6,c14,(K.put i qm c11 none 0)) (idx:=[0,2,3,19,20,21]) (pk:=[4,5,0,1,6,7,8,9,10,2,11,12]) (show (((i+1))<=S.idx.length) from (by omega)) (by show S.idx.length - ((i+1)) < S.idx.length - i;omega) (fun _=>by kernel_rfl) rfl (by kernel_rfl)
  ·have hkt:(obj S.O tk).kind=2:=hI.kind hlv
   have hel:(obj S.O tk).ah.length<=8192:=hI.iL hlv
   have hdl:(obj S.O tk).data.length<=140737488355328:=hI.KJ hlv
   refine af.region (gK 5 [(28,.map (some m)),(29,vI ((bZ S i)))] [(3,a_ 6 f)] ?_)
   refine ak.dR 7 (d:=(some 30)) (t:=151) (K:=3) (E:=156) (b:=m) (n:=S.idx.length) (f:=(bE (bI L S.idx))) (x:=(.tmp 28)) (ix:=(.tmp 29)) (key:=.int .i64 ((bZ S i))) (z:=.nilIface) (kl:=(.int .i64 (bZ S i))) (r:=(some (ez L ⟨tk,2⟩))) (fun _=>by kernel_rfl) (by kernel_rfl) (fun _=>by kernel_rfl) (fun _=>by kernel_rfl) dG Tryz.underlying151 (fun _=>by kernel_rfl) (iK (Ee hI.toInv0 hi2)) (by rw [fQ,hget,lU];rfl) ?_
   refine gK 1 [(6,.iface 169 (vP (L.b tk)))] [] ?_
   refine NS (gK 1 [(31,.iface 169 (vP (L.b tk)))] [] ?_)
   refine gL [] (dN (L.b tk)) ?_
   rintro _ _ ⟨rfl,rfl⟩
   refine gK 1 [(7,vP (L.b tk))] [] ?_
   refine NN (af.seq (af.sW (S:=[pO S.O L]) [0,1,3,4,5,6,7,8,9,10,11,12,13,14,15,16,17,18] [.beside [2,19] 20,.one 21] [8] (by kernel_rfl) (by kernel_rfl) rfl (by kernel_rfl) ?_))
   refine gP (zu f b4 b5++[(6,.iface 169 (vP (L.b tk)))]++zw A7 S c8 i++[(33,vI ((bZ S i))),(34,.iface 169 (vP (L.b tk)))]++Ev S tk) [0,1,3,4,5,6,7,8,9,10,11,12,13,14,15,16,17,18] [(5,v_ 0 (tW L hkt)),(9,v_ 0 (Ad L hkt)),(13,v_ 0 (Ah L hkt)),(17,p_ ⟨[.view 0 (.int .i64 ((obj S.O tk).sec)),.view 0 (.int .i64 ((obj S.O tk).nano))],none,none,none,none⟩ [(∀ F w,(aH (bR S.O L)).h F w->w.cell? ⟨(L.b tk),5,none⟩=some (vI ((obj S.O tk).nano))),(∀ F w,(aH (bR S.O L)).h F w->w.cell? ⟨(L.b tk),4,none⟩=some (vI ((obj S.O tk).sec)))] ⟨eM (by rw [hkt];decide) (rfl),eM (by rw [hkt];decide) (rfl),trivial⟩)] ?_
   refine ji.beside (j:=20) (dj:=8) (R:=fun f_ l_=>f_=([(52,.agg #[vI ((bZ S i)),vI 2,vI ((obj S.O tk).mode),vI ((obj S.O tk).uid),vI ((obj S.O tk).gid),vI ((obj S.O tk).sec),vI ((obj S.O tk).nano),.slice none (0) (0),.string ⟨#[]⟩,.slice none (0) (0)]),(35,vI 2)]++zu f b4 b5++[(6,.iface 169 (vP (L.b tk)))]++zw A7 S c8 i++[(33,vI ((bZ S i))),(34,.iface 169 (vP (L.b tk)))]++Ev S tk)/\l_=[]) [0,1,2,3,4,5,6,7,8,9,10,11] [8] [(2,35),(19,52)] rfl (pc:=[]) (pj:=[]) (Z:=(xD b5 An i cn K S A7 c8 b4 f m t L++[pD S.O L,pE S.O L,.abs R])) (by kernel_rfl) rfl (by kernel_rfl) rfl rfl (gy.of (ι:=Nat) (v:=fun (b15:Nat)=>vP b15) (l:=fun (b15:Nat)=>[Uv b15]) [35,52] rfl rfl rfl rfl ?_) ?_ ?_
   ·intro u Aq
    show ak _ _ _ _ _ [(35,(u 35)),(52,(u 52)),(0,vP f),(2,vP b4),(3,vP b5),(6,.iface 169 (vP (L.b tk))),(19,.slice A7 ((keys S.idx).length) (c8)),(20,vI ↑((keys S.idx).length)),(21,vI ↑i),(33,vI ((bZ S i))),(34,.iface 169 (vP (L.b tk))),(39,vI ((obj S.O tk).mode)),(43,vI ((obj S.O tk).uid)),(47,vI ((obj S.O tk).gid)),(51,.agg #[vI ((obj S.O tk).sec),vI ((obj S.O tk).nano)])] [.abs Aq] _
    refine gN 1 (fun b15=>[(8,vP b15)]) (fun _=>[]) (fun _=>[]) (fun b15=>.blk b15 [vI 0,vI 0,vI 0,vI 0,vI 0,vI 0,vI 0,.slice none (0) (0),.string ⟨#[]⟩,.slice none (0) (0)] 108) (fun b15=>?_)
    refine NL ?_
    exact MD b15 [8,35,52,0,2,3,6,19,20,21,33,34,39,43,47,51] [1,0]
   ·refine lD.step (gy.of (ι:=Unit) (v:=fun (_:Unit)=>.int .i64 2) (l:=fun (_:Unit)=>[]) [8] rfl rfl rfl rfl ?_) rfl ?_
    ·intro u Aq
     show ak _ _ _ _ _ [(8,(u 8)),(0,vP f),(2,vP b4),(3,vP b5),(6,.iface 169 (vP (L.b tk))),(19,.slice A7 ((keys S.idx).length) (c8)),(20,vI ↑((keys S.idx).length)),(21,vI ↑i),(33,vI ((bZ S i))),(34,.iface 169 (vP (L.b tk))),(39,vI ((obj S.O tk).mode)),(43,vI ((obj S.O tk).uid)),(47,vI ((obj S.O tk).gid)),(51,.agg #[vI ((obj S.O tk).sec),vI ((obj S.O tk).nano)])] [.abs Aq] _
     refine gL [] (qL (vP (L.b tk))) ?_
     rintro _ _ ⟨rfl,rfl⟩
     refine NL ?_
     exact MD () [35,8,0,2,3,6,19,20,21,33,34,39,43,47,51] [0]
    rintro _ _ ⟨_,rfl,rfl⟩
    refine lD.step (gy.of (ι:=Unit) (v:=fun (_:Unit)=>.agg #[vI ((bZ S i)),vI 2,vI ((obj S.O tk).mode),vI ((obj S.O tk).uid),vI ((obj S.O tk).gid),vI ((obj S.O tk).sec),vI ((obj S.O tk).nano),.slice none (0) (0),.string ⟨#[]⟩,.slice none (0) (0)]) (l:=fun (_:Unit)=>[]) [8] rfl rfl rfl rfl ?_) rfl ?_
    ·intro u Aq
     show ak _ _ _ _ _ [(8,(u 8)),(35,vI 2),(0,vP f),(2,vP b4),(3,vP b5),(6,.iface 169 (vP (L.b tk))),(19,.slice A7 ((keys S.idx).length) (c8)),(20,vI ↑((keys S.idx).length)),(21,vI ↑i),(33,vI ((bZ S i))),(34,.iface 169 (vP (L.b tk))),(39,vI ((obj S.O tk).mode)),(43,vI ((obj S.O tk).uid)),(47,vI ((obj S.O tk).gid)),(51,.agg #[vI ((obj S.O tk).sec),vI ((obj S.O tk).nano)])] [.abs Aq] _
     refine gK 1 [(52,.agg #[vI ((bZ S i)),vI 2,vI ((obj S.O tk).mode),vI ((obj S.O tk).uid),vI ((obj S.O tk).gid),vI ((obj S.O tk).sec),vI ((obj S.O tk).nano),.slice none (0) (0),.string ⟨#[]⟩,.slice none (0) (0)])] [] ?_
     refine NL ?_
     exact MD () [52,8,35,0,2,3,6,19,20,21,33,34,39,43,47,51] [0]
    rintro _ _ ⟨_,rfl,rfl⟩
    exact⟨rfl,rfl⟩
   rintro _ _ ⟨rfl,rfl⟩ _ _ ⟨b15,rfl,rfl⟩
   refine ji.last rfl rfl ?_
   refine gC 1 [] [(0,A_ 0 b15 10)] [(0,([(0,vI ((bZ S i))),(1,vI 2)]++Qg S tk))] ?_
   refine NL (aj.np (NX (af.seq (SR ?_))))
   refine gK 1 [(53,.iface 169 (vP (L.b tk)))] [] ?_
   refine NN (af.block (SR ?_))
   refine gK 3 [(55,.bool false),(56,.pointer none)] [] ?_
   refine NN (CF (SR (gK 3 [(64,.bool false),(65,.pointer none)] [] ?_)))
   refine NN (CF (SR (gK 3 [(72,.bool true),(73,vP (L.b tk))] [] ?_)))
   refine NN (CT (SR (gK 1 [(11,vP (L.b tk))] [] ?_)))
   refine NS (gK 4 [(77,.map (some (L.m tk)))] [(3,v_ 9 (bP L hkt))] ?_)
   refine ak.mem (dw:=([.blk b15 [vI ((bZ S i)),vI 2,vI ((obj S.O tk).mode),vI ((obj S.O tk).uid),vI ((obj S.O tk).gid),vI ((obj S.O tk).sec),vI ((obj S.O tk).nano),.slice none (0) (0),.string ⟨#[]⟩,.slice none (0) (0)] 108]++xD b5 An i cn K S A7 c8 b4 f m t L++[pD S.O L,Uw S L tk,.abs R,H9 L tk S])) (fun w hS=>hS.Ts (i:=11) (k:=tk) rfl (hkt)) ?_
   refine gL [] (PK (some (L.m tk))) ?_
   rintro _ _ ⟨b16,rfl,rfl⟩
   refine gL [14,0] (K2 L (L.m tk) b16 (obj S.O tk).ah.length (obj S.O tk).ah (hI.sorted _ hlv) hel) ?_
   rintro _ _ ⟨eH,c18,rfl,rfl⟩
   refine gK 1 [(80,vI ↑((obj S.O tk).ah.length))] [] ?_
   refine ak.mem (fun w hS=>hS.mF (e:=110) (size:=2)) ?_
   refine gK 1 [(81,vI 0)] [] ?_
   refine NN (af.block ?_)
   refine af.loop (ι:=Nat×(Option Addr)×Nat) (fun ((j,Ae,ce):Nat×(Option Addr)×Nat)=>(j<=(obj S.O tk).ah.length)) (fun ((j,Ae,ce):Nat×(Option Addr)×Nat)=>(obj S.O tk).ah.length - j) (fun ((j,Ae,ce):Nat×(Option Addr)×Nat)=>(Ia f b4 b5 b15 L tk A7 S c8 i eH c18 j)) (fun ((j,Ae,ce):Nat×(Option Addr)×Nat)=>([jR b15 S i tk Ae j ce,oR Ae j ce S tk]++lM L tk S b16 eH c18 b5 An i cn K A7 c8 b4 f m t R)) (0,none,0) (idx:=[0,2,3,8,11,19,20,21,79,80,81]) (pk:=[3,16,0,1,2,4,5,6,7,8,9,10,11,12,13,14,15]) (show (0<=(obj S.O tk).ah.length) from (Nat.zero_le _)) (fun _=>by kernel_rfl) rfl (by kernel_rfl) ?_
   rintro⟨j,Ae,ce⟩ hj
   show af _ _ _ _ (Ia f b4 b5 b15 L tk A7 S c8 i eH c18 j) ([jR b15 S i tk Ae j ce,oR Ae j ce S tk]++lM L tk S b16 eH c18 b5 An i cn K A7 c8 b4 f m t R) _
   refine SR (gK 1 [(82,.bool (decide ((((j:Nat):Int):Int) < ((((obj S.O tk).ah.length:Nat):Int):Int))))] [] ?_)
   refine NN (af.seq (af.aV (p:=(((j:Nat):Int):Int) < ((((obj S.O tk).ah.length:Nat):Int):Int)) (fun _=>by kernel_rfl) (fun YD=>?_) (fun YD=>?_)))
   ·have hj2:j < (obj S.O tk).ah.length:=by omega
    refine af.skip (NX (af.seq (af.block (SR ?_))))
    refine ak.tell (p:=(eH=some ⟨ax eH,av eH,none⟩)) (fun w hS=>let ⟨F,h⟩:=hS.get (i:=4) rfl;(aK.Kr h (by omega)).1) (fun YE=>?_)
    refine gK 3 [(13,.string (fD (obj S.O tk).ah j))] [(0,p_ ⟨[],some j,none,some ⟨(ax eH),av eH,none⟩,none⟩ [((j:Nat):Int)=((j:Nat):Int),j < (obj S.O tk).ah.length,(⟨(ax eH),av eH,none⟩:Addr).spot=none,(eH:Option Addr)=some ⟨(ax eH),av eH,none⟩] ⟨rfl,by omega,rfl,YE,trivial⟩),(1,p_ ⟨[.view 4 (.string (fD (obj S.O tk).ah j))],none,none,none,none⟩ [(∀ F w,(aK 9 1 eH ((obj S.O tk).ah.length) c18 (rN (obj S.O tk).ah)).h F w->w.cell? ⟨(ax eH),av eH+j * 1,none⟩=some (.string (fD (obj S.O tk).ah j)))] ⟨aK.cellAt (i:=j) (j:=0) (by omega) (K5 hj2),trivial⟩)] ?_
    refine NN ?_
    obtain⟨hgd,h4⟩:=Xw hI.toInv0 hlv hj2
    have hgs:(fD (obj S.O tk).ah j).size<=255:=hgd.2.1
    rcases h4 with ⟨ek,hle,Ie,NJ⟩|⟨ek,hle,Ie,NJ⟩|⟨ek,hle,Ie,NJ⟩
    ·have hke:(obj S.O ek).kind=1:=hI.kind Ie
     refine af.cA (S:=[H9 L tk S,pO S.O L,jR b15 S i tk Ae j ce]) [0,1,2,3,4,5,6,7,8,9,10,11,12,13,14,15,16,17] 9 [2,13,0] (by kernel_rfl) (by kernel_rfl) rfl (by kernel_rfl) ?_
     refine gR 1 [8,9,10,11,12,13,14,15,16,17] (Ia f b4 b5 b15 L tk A7 S c8 i eH c18 j++sy Ae j ce S tk++[(91,.map (some (L.m tk))),(92,.string (fD (obj S.O tk).ah j))]) [0,1,2,3,4,5,6,7] [(1,a_ 2 b15),(6,v_ 1 (bP L hkt))] ?_
     refine aS.dR 0 (d:=(some 93)) (t:=174) (K:=9) (E:=156) (b:=(L.m tk)) (cnt:=(obj S.O tk).ah.length) (f:=(jh L (obj S.O tk).ah)) (x:=(.tmp 91)) (ix:=(.tmp 92)) (key:=.string (fD (obj S.O tk).ah j)) (z:=.nilIface) (kl:=(.string (fD (obj S.O tk).ah j).data.toList)) (q:=(some (ez L ⟨ek,1⟩))) (by kernel_rfl) (by kernel_rfl) (fun _=>by kernel_rfl) (fun _=>by kernel_rfl) BB Tryz.underlying174 (fun _=>by kernel_rfl) (DX (by omega)) (by rw [tj,hle];rfl) (by kernel_rfl) ?_
     refine mL [2,13,0] [] (dN (L.b ek)) ?_ (by rintro _ _ ⟨rfl,rfl⟩;rfl)
     rintro _ _ ⟨rfl,rfl⟩
     refine aS.cut (ι:=Unit) (fr':=fun (_:Unit)=>(mO f b4 b5 b15 L tk A7 S c8 i eH c18 j++sy Ae j ce S tk++[(95,vP (L.b ek))])) (hp':=fun (_:Unit)=>([jR b15 S i tk Ae j ce,oR Ae j ce S tk]++lM L tk S b16 eH c18 b5 An i cn K A7 c8 b4 f m t R)) [2,13,0] rfl rfl ?_ rfl (fun _=>by kernel_rfl) ?_
     ·refine gK 1 [(95,vP (L.b ek))] [] ?_
      refine NL ?_
      exact MD () [0,2,3,8,11,19,20,21,79,80,81,86,87,95] [0,1,2,3,4,5,6,7,8,9,10,11,12,13,14,15,16]
     rintro _
     refine aS.cut (ι:=Unit) (fr':=fun (_:Unit)=>(mO f b4 b5 b15 L tk A7 S c8 i eH c18 j++sy Ae j ce S tk++[(96,vP (L.b ek))])) (hp':=fun (_:Unit)=>([jR b15 S i tk Ae j ce,oR Ae j ce S tk]++lM L tk S b16 eH c18 b5 An i cn K A7 c8 b4 f m t R)) [2,13,0] rfl rfl ?_ rfl (fun _=>by kernel_rfl) ?_
     ·refine gK 1 [(96,vP (L.b ek))] [] ?_
      refine NL ?_
      exact MD () [0,2,3,8,11,19,20,21,79,80,81,86,87,96] [0,1,2,3,4,5,6,7,8,9,10,11,12,13,14,15,16]
     rintro _
     refine aS.cut (ι:=Unit) (fr':=fun (_:Unit)=>(mO f b4 b5 b15 L tk A7 S c8 i eH c18 j++sy Ae j ce S tk++[(97,vI ((obj S.O ek).id))])) (hp':=fun (_:Unit)=>([jR b15 S i tk Ae j ce,oR Ae j ce S tk]++lM L tk S b16 eH c18 b5 An i cn K A7 c8 b4 f m t R)) [2,13,0] rfl rfl ?_ rfl (fun _=>by kernel_rfl) ?_
     ·refine gK 1 [(97,vI ((obj S.O ek).id))] [(0,v_ 13 (su L hke))] ?_
      refine NL ?_
      exact MD () [0,2,3,8,11,19,20,21,79,80,81,86,87,97] [0,1,2,3,4,5,6,7,8,9,10,11,12,13,14,15,16]
     rintro _
     refine aS.cut (ι:=Unit) (fr':=fun (_:Unit)=>(mO f b4 b5 b15 L tk A7 S c8 i eH c18 j++[(86,.slice Ae (j) (ce)),(98,.agg #[.string (fD (obj S.O tk).ah j),vI ((obj S.O ek).id)])])) (hp':=fun (_:Unit)=>([jR b15 S i tk Ae j ce,oR Ae j ce S tk]++lM L tk S b16 eH c18 b5 An i cn K A7 c8 b4 f m t R)) [2,13,0] rfl rfl ?_ rfl (fun _=>by kernel_rfl) ?_
     ·refine gK 1 [(98,.agg #[.string (fD (obj S.O tk).ah j),vI ((obj S.O ek).id)])] [] ?_
      refine NL ?_
      exact MD () [0,2,3,8,11,19,20,21,79,80,81,86,98] [0,1,2,3,4,5,6,7,8,9,10,11,12,13,14,15,16]
     rintro _
     refine mN [2,13,0] (fun b19=>[(99,.slice (some ⟨b19,0,none⟩) (1) (1))]) (fun _=>[]) (fun b19=>.blk b19 [.string (fD (obj S.O tk).ah j),vI ((obj S.O ek).id)] 110) (fun b19=>?_)
     refine aS.cut (ι:=(Option Addr)×Nat) (fr':=fun ((nV,nW):(Option Addr)×Nat)=>(mO f b4 b5 b15 L tk A7 S c8 i eH c18 j++[(100,.slice nV ((j+1)) (nW))])) (hp':=fun ((nV,nW):(Option Addr)×Nat)=>([jR b15 S i tk Ae j ce,Et nV j nW S tk]++lM L tk S b16 eH c18 b5 An i cn K A7 c8 b4 f m t R++[Eu b19 S tk j ek])) [2,13,0] rfl rfl ?_ rfl (fun _=>by kernel_rfl) ?_
     ·refine ak.append 1 (d:=(some 100)) (t:=106) (e:=110) (z:=.agg #[.string ⟨#[]⟩,vI 0]) (size:=2) (bytes:=24) (n:=j) (cap:=ce) (A:=Ae) (xs:=(iH (((obj S.O tk).ah.take j).map (lu S.O)))) (s:=(.tmp 86)) (x:=(.tmp 99)) (ats:=#[106,106]) (A':=some ⟨b19,0,none⟩) (m:=1) (c':=1) (news:=[.string (fD (obj S.O tk).ah j),vI ((obj S.O ek).id)]) (fun _=>by kernel_rfl) rfl (by kernel_rfl) (fun _=>by kernel_rfl) (fun _=>by kernel_rfl) Tryz.underlying106 (by kernel_rfl) rfl (by decide) (rfl) (by simp [Value.oneCell']) (kW (j:=17) rfl) (by unfold maxLen;omega) (by omega) (fun nV nW=>?_)
      refine ak.dI 1 (p:=.abs (aK 110 2 nV (j+1) nW ((iH (((obj S.O tk).ah.take j).map (lu S.O)))++[.string (fD (obj S.O tk).ah j),vI ((obj S.O ek).id)]))) (p':=.abs (aK 110 2 nV (j+1) nW (iH (((obj S.O tk).ah.take (j+1)).map (lu S.O))))) (by kernel_rfl) (congrArg (fun x=>HP.abs (aK 110 2 _ _ _ x)) (y4 hj2 NJ)) ?_
      refine ak.slot 100 (.slice nV (j+1) (nW)) (.slice nV ((j+1)) (nW)) (fun _=>by kernel_rfl) (rfl) ?_
      refine NL ?_
      exact MD (nV,nW) [0,2,3,8,11,19,20,21,79,80,81,100] [0,1,2,3,4,5,6,7,8,9,10,11,12,13,14,15,16,17]
     rintro⟨nV,nW⟩
     refine aS.cut (ι:=Unit) (fr':=fun (_:Unit)=>(mO f b4 b5 b15 L tk A7 S c8 i eH c18 j++[(100,.slice nV ((j+1)) (nW)),(101,.pointer (some ⟨b15,9,none⟩))])) (hp':=fun (_:Unit)=>([jR b15 S i tk Ae j ce,Et nV j nW S tk]++lM L tk S b16 eH c18 b5 An i cn K A7 c8 b4 f m t R++[Eu b19 S tk j ek])) [2,13,0] rfl rfl ?_ rfl (fun _=>by kernel_rfl) ?_
     ·refine gK 1 [(101,.pointer (some ⟨b15,9,none⟩))] [] ?_
      refine NL ?_
      exact MD () [0,2,3,8,11,19,20,21,79,80,81,100,101] [0,1,2,3,4,5,6,7,8,9,10,11,12,13,14,15,16,17]
     rintro _
     refine aS.last rfl rfl ?_
     refine gC 1 [] [(0,a_ 0 b15)] [(0,[(9,.slice nV ((j+1)) (nW))])] ?_
     refine NL (aj.np (aj.aP (NX (af.region ?_))))
     refine gK 2 [(81,vI ↑(j+1))] [(0,p_ ⟨[],none,none,none,some (vI ↑(j+1))⟩ [(Value.int .i64 (IntKind.wrap .i64 (((j:Nat):Int)+1)))=(.int .i64 ↑(j+1))] ⟨bB (by omega) (by omega) (by omega),trivial⟩)] ?_
     refine NL ?_
     exact aj.turn ((j+1),nV,nW) (idx:=[0,2,3,8,11,19,20,21,79,80,81]) (pk:=[0,1,2,3,4,5,6,7,8,9,10,11,12,13,14,15,16]) (show (((j+1))<=(obj S.O tk).ah.length) from (by omega)) (by show (obj S.O tk).ah.length - ((j+1)) < (obj S.O tk).ah.length - j;omega) (fun _=>by kernel_rfl) rfl (by kernel_rfl)
    ·have hke:(obj S.O ek).kind=2:=hI.kind Ie
     refine af.cA (S:=[H9 L tk S,pO S.O L,jR b15 S i tk Ae j ce]) [0,1,2,3,4,5,6,7,8,9,10,11,12,13,14,15,16,17] 9 [2,13,0] (by kernel_rfl) (by kernel_rfl) rfl (by kernel_rfl) ?_
     refine gR 1 [8,9,10,11,12,13,14,15,16,17] (Ia f b4 b5 b15 L tk A7 S c8 i eH c18 j++sy Ae j ce S tk++[(91,.map (some (L.m tk))),(92,.string (fD (obj S.O tk).ah j))]) [0,1,2,3,4,5,6,7] [(1,a_ 2 b15),(6,v_ 1 (bP L hkt))] ?_
     refine aS.dR 0 (d:=(some 93)) (t:=174) (K:=9) (E:=156) (b:=(L.m tk)) (cnt:=(obj S.O tk).ah.length) (f:=(jh L (obj S.O tk).ah)) (x:=(.tmp 91)) (ix:=(.tmp 92)) (key:=.string (fD (obj S.O tk).ah j)) (z:=.nilIface) (kl:=(.string (fD (obj S.O tk).ah j).data.toList)) (q:=(some (ez L ⟨ek,2⟩))) (by kernel_rfl) (by kernel_rfl) (fun _=>by kernel_rfl) (fun _=>by kernel_rfl) BB Tryz.underlying174 (fun _=>by kernel_rfl) (DX (by omega)) (by rw [tj,hle];rfl) (by kernel_rfl) ?_
     refine mL [2,13,0] [] (dN (L.b ek)) ?_ (by rintro _ _ ⟨rfl,rfl⟩;rfl)
     rintro _ _ ⟨rfl,rfl⟩
     refine aS.cut (ι:=Unit) (fr':=fun (_:Unit)=>(mO f b4 b5 b15 L tk A7 S c8 i eH c18 j++sy Ae j ce S tk++[(95,vP (L.b ek))])) (hp':=fun (_:Unit)=>([jR b15 S i tk Ae j ce,oR Ae j ce S tk]++lM L tk S b16 eH c18 b5 An i cn K A7 c8 b4 f m t R)) [2,13,0] rfl rfl ?_ rfl (fun _=>by kernel_rfl) ?_
     ·refine gK 1 [(95,vP (L.b ek))] [] ?_
      refine NL ?_
      exact MD () [0,2,3,8,11,19,20,21,79,80,81,86,87,95] [0,1,2,3,4,5,6,7,8,9,10,11,12,13,14,15,16]
     rintro _
     refine aS.cut (ι:=Unit) (fr':=fun (_:Unit)=>(mO f b4 b5 b15 L tk A7 S c8 i eH c18 j++sy Ae j ce S tk++[(96,vP (L.b ek))])) (hp':=fun (_:Unit)=>([jR b15 S i tk Ae j ce,oR Ae j ce S tk]++lM L tk S b16 eH c18 b5 An i cn K A7 c8 b4 f m t R)) [2,13,0] rfl rfl ?_ rfl (fun _=>by kernel_rfl) ?_
     ·refine gK 1 [(96,vP (L.b ek))] [] ?_
      refine NL ?_
      exact MD () [0,2,3,8,11,19,20,21,79,80,81,86,87,96] [0,1,2,3,4,5,6,7,8,9,10,11,12,13,14,15,16]
     rintro _
     refine aS.cut (ι:=Unit) (fr':=fun (_:Unit)=>(mO f b4 b5 b15 L tk A7 S c8 i eH c18 j++sy Ae j ce S tk++[(97,vI ((obj S.O ek).id))])) (hp':=fun (_:Unit)=>([jR b15 S i tk Ae j ce,oR Ae j ce S tk]++lM L tk S b16 eH c18 b5 An i cn K A7 c8 b4 f m t R)) [2,13,0] rfl rfl ?_ rfl (fun _=>by kernel_rfl) ?_
     ·refine gK 1 [(97,vI ((obj S.O ek).id))] [(0,v_ 13 (su L hke))] ?_
      refine NL ?_
      exact MD () [0,2,3,8,11,19,20,21,79,80,81,86,87,97] [0,1,2,3,4,5,6,7,8,9,10,11,12,13,14,15,16]
     rintro _
     refine aS.cut (ι:=Unit) (fr':=fun (_:Unit)=>(mO f b4 b5 b15 L tk A7 S c8 i eH c18 j++[(86,.slice Ae (j) (ce)),(98,.agg #[.string (fD (obj S.O tk).ah j),vI ((obj S.O ek).id)])])) (hp':=fun (_:Unit)=>([jR b15 S i tk Ae j ce,oR Ae j ce S tk]++lM L tk S b16 eH c18 b5 An i cn K A7 c8 b4 f m t R)) [2,13,0] rfl rfl ?_ rfl (fun _=>by kernel_rfl) ?_
     ·refine gK 1 [(98,.agg #[.string (fD (obj S.O tk).ah j),vI ((obj S.O ek).id)])] [] ?_
      refine NL ?_
      exact MD () [0,2,3,8,11,19,20,21,79,80,81,86,98] [0,1,2,3,4,5,6,7,8,9,10,11,12,13,14,15,16]
     rintro _
     refine mN [2,13,0] (fun Ig=>[(99,.slice (some ⟨Ig,0,none⟩) (1) (1))]) (fun _=>[]) (fun Ig=>.blk Ig [.string (fD (obj S.O tk).ah j),vI ((obj S.O ek).id)] 110) (fun Ig=>?_)
     refine aS.cut (ι:=(Option Addr)×Nat) (fr':=fun ((uP,uQ):(Option Addr)×Nat)=>(mO f b4 b5 b15 L tk A7 S c8 i eH c18 j++[(100,.slice uP ((j+1)) (uQ))])) (hp':=fun ((uP,uQ):(Option Addr)×Nat)=>([jR b15 S i tk Ae j ce,Et uP j uQ S tk]++lM L tk S b16 eH c18 b5 An i cn K A7 c8 b4 f m t R++[Eu Ig S tk j ek])) [2,13,0] rfl rfl ?_ rfl (fun _=>by kernel_rfl) ?_
     ·refine ak.append 1 (d:=(some 100)) (t:=106) (e:=110) (z:=.agg #[.string ⟨#[]⟩,vI 0]) (size:=2) (bytes:=24) (n:=j) (cap:=ce) (A:=Ae) (xs:=(iH (((obj S.O tk).ah.take j).map (lu S.O)))) (s:=(.tmp 86)) (x:=(.tmp 99)) (ats:=#[106,106]) (A':=some ⟨Ig,0,none⟩) (m:=1) (c':=1) (news:=[.string (fD (obj S.O tk).ah j),vI ((obj S.O ek).id)]) (fun _=>by kernel_rfl) rfl (by kernel_rfl) (fun _=>by kernel_rfl) (fun _=>by kernel_rfl) Tryz.underlying106 (by kernel_rfl) rfl (by decide) (rfl) (by simp [Value.oneCell']) (kW (j:=17) rfl) (by unfold maxLen;omega) (by omega) (fun uP uQ=>?_)
      refine ak.dI 1 (p:=.abs (aK 110 2 uP (j+1) uQ ((iH (((obj S.O tk).ah.take j).map (lu S.O)))++[.string (fD (obj S.O tk).ah j),vI ((obj S.O ek).id)]))) (p':=.abs (aK 110 2 uP (j+1) uQ (iH (((obj S.O tk).ah.take (j+1)).map (lu S.O))))) (by kernel_rfl) (congrArg (fun x=>HP.abs (aK 110 2 _ _ _ x)) (y4 hj2 NJ)) ?_
      refine ak.slot 100 (.slice uP (j+1) (uQ)) (.slice uP ((j+1)) (uQ)) (fun _=>by kernel_rfl) (rfl) ?_
      refine NL ?_
      exact MD (uP,uQ) [0,2,3,8,11,19,20,21,79,80,81,100] [0,1,2,3,4,5,6,7,8,9,10,11,12,13,14,15,16,17]
     rintro⟨uP,uQ⟩
     refine aS.cut (ι:=Unit) (fr':=fun (_:Unit)=>(mO f b4 b5 b15 L tk A7 S c8 i eH c18 j++[(100,.slice uP ((j+1)) (uQ)),(101,.pointer (some ⟨b15,9,none⟩))])) (hp':=fun (_:Unit)=>([jR b15 S i tk Ae j ce,Et uP j uQ S tk]++lM L tk S b16 eH c18 b5 An i cn K A7 c8 b4 f m t R++[Eu Ig S tk j ek])) [2,13,0] rfl rfl ?_ rfl (fun _=>by kernel_rfl) ?_
     ·refine gK 1 [(101,.pointer (some ⟨b15,9,none⟩))] [] ?_
      refine NL ?_
      exact MD () [0,2,3,8,11,19,20,21,79,80,81,100,101] [0,1,2,3,4,5,6,7,8,9,10,11,12,13,14,15,16,17]
     rintro _
     refine aS.last rfl rfl ?_
     refine gC 1 [] [(0,a_ 0 b15)] [(0,[(9,.slice uP ((j+1)) (uQ))])] ?_
     refine NL (aj.np (aj.aP (NX (af.region ?_))))
     refine gK 2 [(81,vI ↑(j+1))] [(0,p_ ⟨[],none,none,none,some (vI ↑(j+1))⟩ [(Value.int .i64 (IntKind.wrap .i64 (((j:Nat):Int)+1)))=(.int .i64 ↑(j+1))] ⟨bB (by omega) (by omega) (by omega),trivial⟩)] ?_
     refine NL ?_
     exact aj.turn ((j+1),uP,uQ) (idx:=[0,2,3,8,11,19,20,21,79,80,81]) (pk:=[0,1,2,3,4,5,6,7,8,9,10,11,12,13,14,15,16]) (show (((j+1))<=(obj S.O tk).ah.length) from (by omega)) (by show (obj S.O tk).ah.length - ((j+1)) < (obj S.O tk).ah.length - j;omega) (fun _=>by kernel_rfl) rfl (by kernel_rfl)
    have hke:(obj S.O ek).kind=3:=hI.kind Ie
    refine af.cA (S:=[H9 L tk S,pO S.O L,jR b15 S i tk Ae j ce]) [0,1,2,3,4,5,6,7,8,9,10,11,12,13,14,15,16,17] 9 [2,13,0] (by kernel_rfl) (by kernel_rfl) rfl (by kernel_rfl) ?_
    refine gR 1 [8,9,10,11,12,13,14,15,16,17] (Ia f b4 b5 b15 L tk A7 S c8 i eH c18 j++sy Ae j ce S tk++[(91,.map (some (L.m tk))),(92,.string (fD (obj S.O tk).ah j))]) [0,1,2,3,4,5,6,7] [(1,a_ 2 b15),(6,v_ 1 (bP L hkt))] ?_
    refine aS.dR 0 (d:=(some 93)) (t:=174) (K:=9) (E:=156) (b:=(L.m tk)) (cnt:=(obj S.O tk).ah.length) (f:=(jh L (obj S.O tk).ah)) (x:=(.tmp 91)) (ix:=(.tmp 92)) (key:=.string (fD (obj S.O tk).ah j)) (z:=.nilIface) (kl:=(.string (fD (obj S.O tk).ah j).data.toList)) (q:=(some (ez L ⟨ek,3⟩))) (by kernel_rfl) (by kernel_rfl) (fun _=>by kernel_rfl) (fun _=>by kernel_rfl) BB Tryz.underlying174 (fun _=>by kernel_rfl) (DX (by omega)) (by rw [tj,hle];rfl) (by kernel_rfl) ?_
    refine mL [2,13,0] [] (dN (L.b ek)) ?_ (by rintro _ _ ⟨rfl,rfl⟩;rfl)
    rintro _ _ ⟨rfl,rfl⟩
    refine aS.cut (ι:=Unit) (fr':=fun (_:Unit)=>(mO f b4 b5 b15 L tk A7 S c8 i eH c18 j++sy Ae j ce S tk++[(95,vP (L.b ek))])) (hp':=fun (_:Unit)=>([jR b15 S i tk Ae j ce,oR Ae j ce S tk]++lM L tk S b16 eH c18 b5 An i cn K A7 c8 b4 f m t R)) [2,13,0] rfl rfl ?_ rfl (fun _=>by kernel_rfl) ?_
    ·refine gK 1 [(95,vP (L.b ek))] [] ?_
     refine NL ?_
     exact MD () [0,2,3,8,11,19,20,21,79,80,81,86,87,95] [0,1,2,3,4,5,6,7,8,9,10,11,12,13,14,15,16]
    rintro _
    refine aS.cut (ι:=Unit) (fr':=fun (_:Unit)=>(mO f b4 b5 b15 L tk A7 S c8 i eH c18 j++sy Ae j ce S tk++[(96,vP (L.b ek))])) (hp':=fun (_:Unit)=>([jR b15 S i tk Ae j ce,oR Ae j ce S tk]++lM L tk S b16 eH c18 b5 An i cn K A7 c8 b4 f m t R)) [2,13,0] rfl rfl ?_ rfl (fun _=>by kernel_rfl) ?_
    ·refine gK 1 [(96,vP (L.b ek))] [] ?_
     refine NL ?_
     exact MD () [0,2,3,8,11,19,20,21,79,80,81,86,87,96] [0,1,2,3,4,5,6,7,8,9,10,11,12,13,14,15,16]
    rintro _
    refine aS.cut (ι:=Unit) (fr':=fun (_:Unit)=>(mO f b4 b5 b15 L tk A7 S c8 i eH c18 j++sy Ae j ce S tk++[(97,vI ((obj S.O ek).id))])) (hp':=fun (_:Unit)=>([jR b15 S i tk Ae j ce,oR Ae j ce S tk]++lM L tk S b16 eH c18 b5 An i cn K A7 c8 b4 f m t R)) [2,13,0] rfl rfl ?_ rfl (fun _=>by kernel_rfl) ?_
    ·refine gK 1 [(97,vI ((obj S.O ek).id))] [(0,v_ 13 (su L hke))] ?_
     refine NL ?_
     exact MD () [0,2,3,8,11,19,20,21,79,80,81,86,87,97] [0,1,2,3,4,5,6,7,8,9,10,11,12,13,14,15,16]
    rintro _
    refine aS.cut (ι:=Unit) (fr':=fun (_:Unit)=>(mO f b4 b5 b15 L tk A7 S c8 i eH c18 j++[(86,.slice Ae (j) (ce)),(98,.agg #[.string (fD (obj S.O tk).ah j),vI ((obj S.O ek).id)])])) (hp':=fun (_:Unit)=>([jR b15 S i tk Ae j ce,oR Ae j ce S tk]++lM L tk S b16 eH c18 b5 An i cn K A7 c8 b4 f m t R)) [2,13,0] rfl rfl ?_ rfl (fun _=>by kernel_rfl) ?_
    ·refine gK 1 [(98,.agg #[.string (fD (obj S.O tk).ah j),vI ((obj S.O ek).id)])] [] ?_
     refine NL ?_
     exact MD () [0,2,3,8,11,19,20,21,79,80,81,86,98] [0,1,2,3,4,5,6,7,8,9,10,11,12,13,14,15,16]
    rintro _
    refine mN [2,13,0] (fun Ih=>[(99,.slice (some ⟨Ih,0,none⟩) (1) (1))]) (fun _=>[]) (fun Ih=>.blk Ih [.string (fD (obj S.O tk).ah j),vI ((obj S.O ek).id)] 110) (fun Ih=>?_)
    refine aS.cut (ι:=(Option Addr)×Nat) (fr':=fun ((uR,uS):(Option Addr)×Nat)=>(mO f b4 b5 b15 L tk A7 S c8 i eH c18 j++[(100,.slice uR ((j+1)) (uS))])) (hp':=fun ((uR,uS):(Option Addr)×Nat)=>([jR b15 S i tk Ae j ce,Et uR j uS S tk]++lM L tk S b16 eH c18 b5 An i cn K A7 c8 b4 f m t R++[Eu Ih S tk j ek])) [2,13,0] rfl rfl ?_ rfl (fun _=>by kernel_rfl) ?_
    ·refine ak.append 1 (d:=(some 100)) (t:=106) (e:=110) (z:=.agg #[.string ⟨#[]⟩,vI 0]) (size:=2) (bytes:=24) (n:=j) (cap:=ce) (A:=Ae) (xs:=(iH (((obj S.O tk).ah.take j).map (lu S.O)))) (s:=(.tmp 86)) (x:=(.tmp 99)) (ats:=#[106,106]) (A':=some ⟨Ih,0,none⟩) (m:=1) (c':=1) (news:=[.string (fD (obj S.O tk).ah j),vI ((obj S.O ek).id)]) (fun _=>by kernel_rfl) rfl (by kernel_rfl) (fun _=>by kernel_rfl) (fun _=>by kernel_rfl) Tryz.underlying106 (by kernel_rfl) rfl (by decide) (rfl) (by simp [Value.oneCell']) (kW (j:=17) rfl) (by unfold maxLen;omega) (by omega) (fun uR uS=>?_)
     refine ak.dI 1 (p:=.abs (aK 110 2 uR (j+1) uS ((iH (((obj S.O tk).ah.take j).map (lu S.O)))++[.string (fD (obj S.O tk).ah j),vI ((obj S.O ek).id)]))) (p':=.abs (aK 110 2 uR (j+1) uS (iH (((obj S.O tk).ah.take (j+1)).map (lu S.O))))) (by kernel_rfl) (congrArg (fun x=>HP.abs (aK 110 2 _ _ _ x)) (y4 hj2 NJ)) ?_
     refine ak.slot 100 (.slice uR (j+1) (uS)) (.slice uR ((j+1)) (uS)) (fun _=>by kernel_rfl) (rfl) ?_
     refine NL ?_
     exact MD (uR,uS) [0,2,3,8,11,19,20,21,79,80,81,100] [0,1,2,3,4,5,6,7,8,9,10,11,12,13,14,15,16,17]
    rintro⟨uR,uS⟩
    refine aS.cut (ι:=Unit) (fr':=fun (_:Unit)=>(mO f b4 b5 b15 L tk A7 S c8 i eH c18 j++[(100,.slice uR ((j+1)) (uS)),(101,.pointer (some ⟨b15,9,none⟩))])) (hp':=fun (_:Unit)=>([jR b15 S i tk Ae j ce,Et uR j uS S tk]++lM L tk S b16 eH c18 b5 An i cn K A7 c8 b4 f m t R++[Eu Ih S tk j ek])) [2,13,0] rfl rfl ?_ rfl (fun _=>by kernel_rfl) ?_
    ·refine gK 1 [(101,.pointer (some ⟨b15,9,none⟩))] [] ?_
     refine NL ?_
     exact MD () [0,2,3,8,11,19,20,21,79,80,81,100,101] [0,1,2,3,4,5,6,7,8,9,10,11,12,13,14,15,16,17]
    rintro _
    refine aS.last rfl rfl ?_
    refine gC 1 [] [(0,a_ 0 b15)] [(0,[(9,.slice uR ((j+1)) (uS))])] ?_
    refine NL (aj.np (aj.aP (NX (af.region ?_))))
    refine gK 2 [(81,vI ↑(j+1))] [(0,p_ ⟨[],none,none,none,some (vI ↑(j+1))⟩ [(Value.int .i64 (IntKind.wrap .i64 (((j:Nat):Int)+1)))=(.int .i64 ↑(j+1))] ⟨bB (by omega) (by omega) (by omega),trivial⟩)] ?_
    refine NL ?_
    exact aj.turn ((j+1),uR,uS) (idx:=[0,2,3,8,11,19,20,21,79,80,81]) (pk:=[0,1,2,3,4,5,6,7,8,9,10,11,12,13,14,15,16]) (show (((j+1))<=(obj S.O tk).ah.length) from (by omega)) (by show (obj S.O tk).ah.length - ((j+1)) < (obj S.O tk).ah.length - j;omega) (fun _=>by kernel_rfl) rfl (by kernel_rfl)
   refine af.exit (aj.aU (aj.aU (aj.cK (aj.aP (NX (af.region ?_))))))
   have hjl:j=(obj S.O tk).ah.length:=by omega
   refine ak.mem (dw:=([pE S.O L,jR b15 S i tk Ae j ce,oR Ae j ce S tk,Ux b16 L tk,Uy eH S tk c18]++xD b5 An i cn K S A7 c8 b4 f m t L++[pD S.O L,.abs R])) (fun w hS=>hS.Tt (i:=15) (j:=2) (idx:=[0,1,3,4,5,6,7,8,9,10,11,12,13,14,16]) (k:=tk) rfl rfl (by kernel_rfl) rfl (hkt)) ?_
   refine gN 4 (fun J7=>[(104,.slice An (i) (cn)),(106,.slice (some ⟨J7,0,none⟩) (1) (1))]) (fun J7=>[(1,a_ 5 b5),(2,A_ 1 b15 10)]) (fun _=>[]) (fun J7=>.blk J7 [vI ((bZ S i)),vI 2,vI ((obj S.O tk).mode),vI ((obj S.O tk).uid),vI ((obj S.O tk).gid),vI ((obj S.O tk).sec),vI ((obj S.O tk).nano),.slice none (0) (0),.string ⟨#[]⟩,.slice Ae (j) (ce)] 108) (fun J7=>?_)
   refine ak.append 6 (d:=(some 107)) (t:=22) (e:=108) (z:=.agg #[vI 0,vI 0,vI 0,vI 0,vI 0,vI 0,vI 0,.slice none (0) (0),.string ⟨#[]⟩,.slice none (0) (0)]) (size:=10) (bytes:=120) (n:=i) (cap:=cn) (A:=An) (xs:=(dU K ((ay S).take i))) (s:=(.tmp 104)) (x:=(.tmp 106)) (ats:=#[22,22]) (A':=some ⟨J7,0,none⟩) (m:=1) (c':=1) (news:=[vI ((bZ S i)),vI 2,vI ((obj S.O tk).mode),vI ((obj S.O tk).uid),vI ((obj S.O tk).gid),vI ((obj S.O tk).sec),vI ((obj S.O tk).nano),.slice none (0) (0),.string ⟨#[]⟩,.slice Ae (j) (ce)]) (fun _=>by kernel_rfl) rfl (by kernel_rfl) (fun _=>by kernel_rfl) (fun _=>by kernel_rfl) Tryz.underlying22 (by kernel_rfl) rfl (by decide) (rfl) (by simp [Value.oneCell']) (kW (j:=16) rfl) (by unfold maxLen;omega) (by omega) (fun J8 J9=>?_)
   refine ak.dI 6 (p:=.abs (aK 108 10 J8 (i+1) J9 ((dU K ((ay S).take i))++[vI ((bZ S i)),vI 2,vI ((obj S.O tk).mode),vI ((obj S.O tk).uid),vI ((obj S.O tk).gid),vI ((obj S.O tk).sec),vI ((obj S.O tk).nano),.slice none (0) (0),.string ⟨#[]⟩,.slice Ae (j) (ce)]))) (p':=.abs (aK 108 10 J8 (i+1) J9 (dU (K.put i none 0 Ae ce) ((ay S).take (i+1))))) (by kernel_rfl) (congrArg (fun x=>HP.abs (aK 108 10 _ _ _ x)) (wY (dY (by omega)) (tU hI.toInv0 hi2 lU hlv) rfl (by show ((obj S.O tk).ah.map (lu S.O)).length=j;rw [List.length_map,hjl]))) ?_
   refine ak.slot 107 (.slice J8 (i+1) (J9)) (.slice J8 ((i+1)) (J9)) (fun _=>by kernel_rfl) (rfl) ?_
   refine gC 2 [] [(1,a_ 5 b5)] [(5,[(0,.slice J8 ((i+1)) (J9))])] ?_
   refine NL (aj.aP (NX (af.region ?_)))
   refine gK 2 [(21,vI ↑(i+1))] [(0,p_ ⟨[],none,none,none,some (vI ↑(i+1))⟩ [(Value.int .i64 (IntKind.wrap .i64 (((i:Nat):Int)+1)))=(.int .i64 ↑(i+1))] ⟨bB (by omega) (by omega) (by omega),trivial⟩)] ?_
   refine NL (aj.mem (fun w hS=>hS.mF (e:=5) (size:=1)) ?_)
   refine aj.mem (fun w hS=>hS.tf (R':=(mz ((ay S).take (i+1)) (K.put i none 0 Ae ce))) (i:=8) (j:=17) (idx:=[0,1,2,3,4,5,6,7,9,10,11,12,13,14,15,16]) rfl rfl (by kernel_rfl) rfl (BM (dY (by omega)) (tU hI.toInv0 hi2 lU hlv)) (yY (dY (by omega)) (tU hI.toInv0 hi2 lU hlv) rfl)) ?_
   refine aj.mem (fun w hS=>hS.tf (R':=(mw ((ay S).take (i+1)) (K.put i none 0 Ae ce))) (i:=8) (j:=3) (idx:=[0,1,2,4,5,6,7,9,10,11,12,13,14,15,16]) rfl rfl (by kernel_rfl) rfl (BN (dY (by omega)) (tU hI.toInv0 hi2 lU hlv)) ((yZ (dY (by omega)) (tU hI.toInv0 hi2 lU hlv) (by show ((obj S.O tk).ah.map (lu S.O)).length=j;rw [List.length_map,hjl])).trans (by rw [hjl,List.take_length]))) ?_
   exact aj.turn ((i+1),J8,J9,(K.put i none 0 Ae ce)) (idx:=[0,2,3,19,20,21]) (pk:=[6,7,0,1,8,9,10,11,12,13,2,14]) (show (((i+1))<=S.idx.length) from (by omega)) (by show S.idx.length - ((i+1)) < S.idx.length - i;omega) (fun _=>by kernel_rfl) rfl (by kernel_rfl)
  have hkt:(obj S.O tk).kind=3:=hI.kind hlv
  have hel:(obj S.O tk).ah.length<=8192:=hI.iL hlv
  have hdl:(obj S.O tk).data.length<=140737488355328:=hI.KJ hlv
  refine af.region (gK 5 [(28,.map (some m)),(29,vI ((bZ S i)))] [(3,a_ 6 f)] ?_)
  refine ak.dR 7 (d:=(some 30)) (t:=151) (K:=3) (E:=156) (b:=m) (n:=S.idx.length) (f:=(bE (bI L S.idx))) (x:=(.tmp 28)) (ix:=(.tmp 29)) (key:=.int .i64 ((bZ S i))) (z:=.nilIface) (kl:=(.int .i64 (bZ S i))) (r:=(some (ez L ⟨tk,3⟩))) (fun _=>by kernel_rfl) (by kernel_rfl) (fun _=>by kernel_rfl) (fun _=>by kernel_rfl) dG Tryz.underlying151 (fun _=>by kernel_rfl) (iK (Ee hI.toInv0 hi2)) (by rw [fQ,hget,lU];rfl) ?_
  refine gK 1 [(6,.iface 166 (vP (L.b tk)))] [] ?_
  refine NS (gK 1 [(31,.iface 166 (vP (L.b tk)))] [] ?_)
  refine gL [] (dN (L.b tk)) ?_
  rintro _ _ ⟨rfl,rfl⟩
  refine gK 1 [(7,vP (L.b tk))] [] ?_
  refine NN (af.seq (af.sW (S:=[pO S.O L]) [0,1,3,4,5,6,7,8,9,10,11,12,13,14,15,16,17,18] [.beside [2,19] 20,.one 21] [8] (by kernel_rfl) (by kernel_rfl) rfl (by kernel_rfl) ?_))
  refine gP (zu f b4 b5++[(6,.iface 166 (vP (L.b tk)))]++zw A7 S c8 i++[(33,vI ((bZ S i))),(34,.iface 166 (vP (L.b tk)))]++Ev S tk) [0,1,3,4,5,6,7,8,9,10,11,12,13,14,15,16,17,18] [(5,v_ 0 (tW L hkt)),(9,v_ 0 (Ad L hkt)),(13,v_ 0 (Ah L hkt)),(17,p_ ⟨[.view 0 (.int .i64 ((obj S.O tk).sec)),.view 0 (.int .i64 ((obj S.O tk).nano))],none,none,none,none⟩ [(∀ F w,(aH (bR S.O L)).h F w->w.cell? ⟨(L.b tk),5,none⟩=some (vI ((obj S.O tk).nano))),(∀ F w,(aH (bR S.O L)).h F w->w.cell? ⟨(L.b tk),4,none⟩=some (vI ((obj S.O tk).sec)))] ⟨eM (by rw [hkt];decide) (rfl),eM (by rw [hkt];decide) (rfl),trivial⟩)] ?_
  refine ji.beside (j:=20) (dj:=8) (R:=fun f_ l_=>f_=([(52,.agg #[vI ((bZ S i)),vI 3,vI ((obj S.O tk).mode),vI ((obj S.O tk).uid),vI ((obj S.O tk).gid),vI ((obj S.O tk).sec),vI ((obj S.O tk).nano),.slice none (0) (0),.string ⟨#[]⟩,.slice none (0) (0)]),(35,vI 3)]++zu f b4 b5++[(6,.iface 166 (vP (L.b tk)))]++zw A7 S c8 i++[(33,vI ((bZ S i))),(34,.iface 166 (vP (L.b tk)))]++Ev S tk)/\l_=[]) [0,1,2,3,4,5,6,7,8,9,10,11] [8] [(2,35),(19,52)] rfl (pc:=[]) (pj:=[]) (Z:=(xD b5 An i cn K S A7 c8 b4 f m t L++[pD S.O L,pE S.O L,.abs R])) (by kernel_rfl) rfl (by kernel_rfl) rfl rfl (gy.of (ι:=Nat) (v:=fun (vU:Nat)=>vP vU) (l:=fun (vU:Nat)=>[Uv vU]) [35,52] rfl rfl rfl rfl ?_) ?_ ?_
  ·intro u Aq
   show ak _ _ _ _ _ [(35,(u 35)),(52,(u 52)),(0,vP f),(2,vP b4),(3,vP b5),(6,.iface 166 (vP (L.b tk))),(19,.slice A7 ((keys S.idx).length) (c8)),(20,vI ↑((keys S.idx).length)),(21,vI ↑i),(33,vI ((bZ S i))),(34,.iface 166 (vP (L.b tk))),(39,vI ((obj S.O tk).mode)),(43,vI ((obj S.O tk).uid)),(47,vI ((obj S.O tk).gid)),(51,.agg #[vI ((obj S.O tk).sec),vI ((obj S.O tk).nano)])] [.abs Aq] _
   refine gN 1 (fun vU=>[(8,vP vU)]) (fun _=>[]) (fun _=>[]) (fun vU=>.blk vU [vI 0,vI 0,vI 0,vI 0,vI 0,vI 0,vI 0,.slice none (0) (0),.string ⟨#[]⟩,.slice none (0) (0)] 108) (fun vU=>?_)
   refine NL ?_
   exact MD vU [8,35,52,0,2,3,6,19,20,21,33,34,39,43,47,51] [1,0]
  ·refine lD.step (gy.of (ι:=Unit) (v:=fun (_:Unit)=>.int .i64 3) (l:=fun (_:Unit)=>[]) [8] rfl rfl rfl rfl ?_) rfl ?_
   ·intro u Aq
    show ak _ _ _ _ _ [(8,(u 8)),(0,vP f),(2,vP b4),(3,vP b5),(6,.iface 166 (vP (L.b tk))),(19,.slice A7 ((keys S.idx).length) (c8)),(20,vI ↑((keys S.idx).length)),(21,vI ↑i),(33,vI ((bZ S i))),(34,.iface 166 (vP (L.b tk))),(39,vI ((obj S.O tk).mode)),(43,vI ((obj S.O tk).uid)),(47,vI ((obj S.O tk).gid)),(51,.agg #[vI ((obj S.O tk).sec),vI ((obj S.O tk).nano)])] [.abs Aq] _
    refine gL [] (qM (vP (L.b tk))) ?_
    rintro _ _ ⟨rfl,rfl⟩
    refine NL ?_
    exact MD () [35,8,0,2,3,6,19,20,21,33,34,39,43,47,51] [0]
   rintro _ _ ⟨_,rfl,rfl⟩
   refine lD.step (gy.of (ι:=Unit) (v:=fun (_:Unit)=>.agg #[vI ((bZ S i)),vI 3,vI ((obj S.O tk).mode),vI ((obj S.O tk).uid),vI ((obj S.O tk).gid),vI ((obj S.O tk).sec),vI ((obj S.O tk).nano),.slice none (0) (0),.string ⟨#[]⟩,.slice none (0) (0)]) (l:=fun (_:Unit)=>[]) [8] rfl rfl rfl rfl ?_) rfl ?_
   ·intro u Aq
    show ak _ _ _ _ _ [(8,(u 8)),(35,vI 3),(0,vP f),(2,vP b4),(3,vP b5),(6,.iface 166 (vP (L.b tk))),(19,.slice A7 ((keys S.idx).length) (c8)),(20,vI ↑((keys S.idx).length)),(21,vI ↑i),(33,vI ((bZ S i))),(34,.iface 166 (vP (L.b tk))),(39,vI ((obj S.O tk).mode)),(43,vI ((obj S.O tk).uid)),(47,vI ((obj S.O tk).gid)),(51,.agg #[vI ((obj S.O tk).sec),vI ((obj S.O tk).nano)])] [.abs Aq] _
    refine gK 1 [(52,.agg #[vI ((bZ S i)),vI 3,vI ((obj S.O tk).mode),vI ((obj S.O tk).uid),vI ((obj S.O tk).gid),vI ((obj S.O tk).sec),vI ((obj S.O tk).nano),.slice none (0) (0),.string ⟨#[]⟩,.slice none (0) (0)])] [] ?_
    refine NL ?_
    exact MD () [52,8,35,0,2,3,6,19,20,21,33,34,39,43,47,51] [0]
   rintro _ _ ⟨_,rfl,rfl⟩
   exact⟨rfl,rfl⟩
  rintro _ _ ⟨rfl,rfl⟩ _ _ ⟨vU,rfl,rfl⟩
  refine ji.last rfl rfl ?_
  refine gC 1 [] [(0,A_ 0 vU 10)] [(0,([(0,vI ((bZ S i))),(1,vI 3)]++Qg S tk))] ?_
  refine NL (aj.np (NX (af.seq (SR ?_))))
  refine gK 1 [(53,.iface 166 (vP (L.b tk)))] [] ?_
  refine NN (af.block (SR ?_))
  refine gK 3 [(55,.bool false),(56,.pointer none)] [] ?_
  refine NN (CF (SR (gK 3 [(64,.bool true),(65,vP (L.b tk))] [] ?_)))
  refine NN (CT (SR (gK 1 [(10,vP (L.b tk))] [] ?_)))
  refine NN (af.region (gC 6 [] [(3,v_ 9 (VO L hkt)),(5,a_ 0 vU)] [(0,[(8,.string (obj S.O tk).target)])] ?_))
  refine NL (aj.aP (NX (af.region ?_)))
  refine gN 4 (fun b32=>[(104,.slice An (i) (cn)),(106,.slice (some ⟨b32,0,none⟩) (1) (1))]) (fun b32=>[(1,a_ 1 b5),(2,A_ 0 vU 10)]) (fun _=>[]) (fun b32=>.blk b32 [vI ((bZ S i)),vI 3,vI ((obj S.O tk).mode),vI ((obj S.O tk).uid),vI ((obj S.O tk).gid),vI ((obj S.O tk).sec),vI ((obj S.O tk).nano),.slice none (0) (0),.string (obj S.O tk).target,.slice none (0) (0)] 108) (fun b32=>?_)
  refine ak.append 2 (d:=(some 107)) (t:=22) (e:=108) (z:=.agg #[vI 0,vI 0,vI 0,vI 0,vI 0,vI 0,vI 0,.slice none (0) (0),.string ⟨#[]⟩,.slice none (0) (0)]) (size:=10) (bytes:=120) (n:=i) (cap:=cn) (A:=An) (xs:=(dU K ((ay S).take i))) (s:=(.tmp 104)) (x:=(.tmp 106)) (ats:=#[22,22]) (A':=some ⟨b32,0,none⟩) (m:=1) (c':=1) (news:=[vI ((bZ S i)),vI 3,vI ((obj S.O tk).mode),vI ((obj S.O tk).uid),vI ((obj S.O tk).gid),vI ((obj S.O tk).sec),vI ((obj S.O tk).nano),.slice none (0) (0),.string (obj S.O tk).target,.slice none (0) (0)]) (fun _=>by kernel_rfl) rfl (by kernel_rfl) (fun _=>by kernel_rfl) (fun _=>by kernel_rfl) Tryz.underlying22 (by kernel_rfl) rfl (by decide) (rfl) (by simp [Value.oneCell']) (kW (j:=13) rfl) (by unfold maxLen;omega) (by omega) (fun Ka Kb=>?_)
  refine ak.dI 2 (p:=.abs (aK 108 10 Ka (i+1) Kb ((dU K ((ay S).take i))++[vI ((bZ S i)),vI 3,vI ((obj S.O tk).mode),vI ((obj S.O tk).uid),vI ((obj S.O tk).gid),vI ((obj S.O tk).sec),vI ((obj S.O tk).nano),.slice none (0) (0),.string (obj S.O tk).target,.slice none (0) (0)]))) (p':=.abs (aK 108 10 Ka (i+1) Kb (dU (K.put i none 0 none 0) ((ay S).take (i+1))))) (by kernel_rfl) (congrArg (fun x=>HP.abs (aK 108 10 _ _ _ x)) (wY (dY (by omega)) (rP hI.toInv0 hi2 lU hlv) rfl rfl)) ?_
  refine ak.slot 107 (.slice Ka (i+1) (Kb)) (.slice Ka ((i+1)) (Kb)) (fun _=>by kernel_rfl) (rfl) ?_
  refine gC 2 [] [(1,a_ 1 b5)] [(1,[(0,.slice Ka ((i+1)) (Kb))])] ?_
  refine NL (aj.aP (NX (af.region ?_)))
  refine gK 2 [(21,vI ↑(i+1))] [(0,p_ ⟨[],none,none,none,some (vI ↑(i+1))⟩ [(Value.int .i64 (IntKind.wrap .i64 (((i:Nat):Int)+1)))=(.int .i64 ↑(i+1))] ⟨bB (by omega) (by omega) (by omega),trivial⟩)] ?_
  refine NL (aj.mem (fun w hS=>hS.mF (e:=5) (size:=1)) ?_)
  refine aj.mem (fun w hS=>hS.mF (e:=110) (size:=2)) ?_
  refine aj.mem (fun w hS=>hS.tf (R':=(mz ((ay S).take (i+1)) (K.put i none 0 none 0))) (i:=4) (j:=14) (idx:=[0,1,2,3,5,6,7,8,9,10,11,12,13,15]) rfl rfl (by kernel_rfl) rfl (BM (dY (by omega)) (rP hI.toInv0 hi2 lU hlv)) (yY (dY (by omega)) (rP hI.toInv0 hi2 lU hlv) rfl)) ?_
  refine aj.mem (fun w hS=>hS.tf (R':=(mw ((ay S).take (i+1)) (K.put i none 0 none 0))) (i:=4) (j:=14) (idx:=[0,1,2,3,5,6,7,8,9,10,11,12,13]) rfl rfl (by kernel_rfl) rfl (BN (dY (by omega)) (rP hI.toInv0 hi2 lU hlv)) ((yZ (dY (by omega)) (rP hI.toInv0 hi2 lU hlv) rfl))) ?_
  exact aj.turn ((i+1),Ka,Kb,(K.put i none 0 none 0)) (idx:=[0,2,3,19,20,21]) (pk:=[3,4,0,1,5,6,7,8,9,10,11,12]) (show (((i+1))<=S.idx.length) from (by omega)) (by show S.idx.length - ((i+1)) < S.idx.length - i;omega) (fun _=>by kernel_rfl) rfl (by kernel_rfl)
 refine af.exit (aj.aU (aj.aU (aj.cK (NX (SR ?_)))))
 have hie:(ay S).length=i:=by rw [dP];omega
 have hgt:((ay S).take i)=(ay S):=by rw [← hie,List.take_length]
 refine ak.dI 1 (p:=.abs (aK 108 10 An i cn (dU K ((ay S).take i)))) (p':=.abs (aK 108 10 An ((ay S).length) cn (dU K (ay S)))) (by kernel_rfl) (by rw [hgt,hie]) ?_
 refine ak.dI 2 (p:=.abs (jN (mw ((ay S).take i) K) i)) (p':=.abs (jN (mw (ay S) K) ((ay S).length))) (by kernel_rfl) (by rw [hgt,hie]) ?_
 refine ak.dI 3 (p:=.abs (jN (mz ((ay S).take i) K) i)) (p':=.abs (jN (mz (ay S) K) ((ay S).length))) (by kernel_rfl) (by rw [hgt,hie]) ?_
 refine gC 2 [] [(0,a_ 0 b5),(1,a_ 5 b4)] [(5,[(0,.slice An (i) (cn))])] ?_
 refine NN (af.ret ?_)
 exact aj.ret (v:=.agg #[.slice An (i) (cn)]) (l:=[pF f m t S.X,pI m L S.idx,pO S.O L,pD S.O L,pE S.O L,.abs (aK 108 10 An ((ay S).length) cn (dU K (ay S))),.abs (jN (mw (ay S) K) ((ay S).length)),.abs (jN (mz (ay S) K) ((ay S).length))]) (aZ:=[b4=b4]) [.at 5] [6,7,8,9,10,1,2,3,11] (fun _=>by kernel_rfl) ⟨rfl,trivial⟩ rfl (by kernel_rfl) (⟨An,cn,K,by rw [hie],rfl⟩)
end
section
open Go.RowKit Go.Maps bC aE
attribute [local irreducible] ak aW af aj
abbrev sG (b2:Nat) (X:FM):=(.blk b2 [vI (X.cN),vI (X.cB),vI (X.cH),vI (X.cS),vI (X.cZ)] 28:HP)
abbrev rX (b1:Nat) (A:Option Addr) (ns:List aG) (c):=(.blk b1 [.slice A (ns.length) (c)] 24:HP)
abbrev sH (b8:Nat) (ns) (k:Nat) (Y:Lay):=(.blk b8 [vI ((nd ns k).id),vI ((nd ns k).kind),vI ((nd ns k).mode),vI ((nd ns k).uid),vI ((nd ns k).gid),vI ((nd ns k).sec),vI ((nd ns k).nano),.slice (Y.dA k) ((nd ns k).data.length) ((Y.dC k)),.string (nd ns k).target,.slice (Y.eA k) ((nd ns k).ah.length) ((Y.eC k))] 108:HP)
abbrev AX (b9:Nat) (ns) (k:Nat):=(.blk b9 [vI ((nd ns k).id),vI ((nd ns k).mode),vI ((nd ns k).uid),vI ((nd ns k).gid),vI ((nd ns k).sec),vI ((nd ns k).nano),vI 0,vI 0,.bool false] 161:HP)
abbrev x7 (b1:Nat) (A:Option Addr) (ns) (c) (b7:Nat) (m3:Nat) (t4:Nat) (S:aI) (L:HL) (R:bV):=([rX b1 A ns c,pF b7 m3 t4 S.X,pI m3 L S.idx,x6 t4 S L,pO S.O L,pD S.O L,pE S.O L,.abs R]:List HP)
abbrev Rt (A:Option Addr) (ns:List aG) (c) (i:Nat) (Y:Lay) (j:Nat):=([(123,.slice A (ns.length) (c)),(124,vI ↑ns.length),(125,vI ↑i),(130,.slice (Y.eA i) ((nd ns i).ah.length) ((Y.eC i))),(131,vI ↑((nd ns i).ah.length)),(132,vI ↑j)]:Fr)
abbrev NK (b1:Nat) (X:FM):=([(2,vP b1),(39,.agg #[vI (X.cN),vI (X.cB),vI (X.cH),vI (X.cS),vI (X.cZ)])]:Fr)
abbrev NM (b1:Nat) (b7:Nat) (A:Option Addr) (ns:List aG) (c) (k:Nat):=([(2,vP b1),(6,vP b7),(47,.slice A (ns.length) (c)),(48,vI ↑ns.length),(49,vI ↑k)]:Fr)
abbrev Kc (b1:Nat) (b7:Nat) (b8:Nat) (A:Option Addr) (ns:List aG) (c) (k:Nat):=([(2,vP b1),(6,vP b7),(8,vP b8),(47,.slice A (ns.length) (c)),(48,vI ↑ns.length),(49,vI ↑k)]:Fr)
abbrev Qh (b1:Nat) (b7:Nat) (b8:Nat) (A:Option Addr) (ns:List aG) (c) (k:Nat):=([(2,vP b1),(6,vP b7),(8,vP b8),(47,.slice A (ns.length) (c)),(48,vI ↑ns.length),(49,vI ↑k)]:Fr)
abbrev Lx (b7:Nat) (b16:Nat):=([(6,vP b7),(11,vP b16)]:Fr)
abbrev Qi (S:aI) (ns) (k:Nat) (b7:Nat):=([(118,vI (S.X.used+(((nd ns k).data.length:Nat):Int))),(120,.pointer (some ⟨b7,9,none⟩))]:Fr)
theorem Ke {β:Bs} (A:Option Addr) (c:Nat) (ns:List aG) (Y:Lay) (hG:aF β A ns Y) (hl:ns.length<=1048576) (hd:∀ i,i < ns.length->(nd ns i).data.length<=1048576/\(nd ns i).ah.length<=1048576) (hwf:∀ i,i < ns.length->∀ j,j < (nd ns i).ah.length->-9223372036854775808<=(ent ns i j).id/\(ent ns i j).id<=9223372036854775807) (hnm:∀ i,i < ns.length->∀ j,j < (nd ns i).ah.length->(ent ns i j).name.size<=1048576) (X:FM) :
    Spec Tryz.prog β 48 #[.agg #[.slice A (ns.length) (c)],.agg #[vI (X.cN),vI (X.cB),vI (X.cH),vI (X.cS),vI (X.cZ)]] [] (fun v l=>(¬ jQ X/\v=.tuple #[.pointer none,vI 179]/\l=[])\/(jQ X/\¬ bp ns/\v=.tuple #[.pointer none,vI 140]/\l=[])\/(jQ X/\bp ns/\∃ S f m t L,gD X ns ns.length 0 S/\v=.tuple #[vP f,vI 0]/\l=pA f m t L S)):=by
 refine Spec.enter Tryz.func48 rfl Tryz.ntmps48 (Nat.le_of_ble_eq_true rfl) (fun R=>?_)
 refine SR (gN 1 (fun b1=>[(2,vP b1)]) (fun _=>[]) (fun _=>[]) (fun b1=>.blk b1 [.slice A (ns.length) (c)] 24) (fun b1=>?_))
 refine gN 3 (fun b2=>[(3,vP b2)]) (fun _=>[]) (fun _=>[]) (fun b2=>.blk b2 [vI (X.cN),vI (X.cB),vI (X.cH),vI (X.cS),vI (X.cZ)] 28) (fun b2=>?_)
 refine NN (af.seq (SR (gK 2 [(15,vI (X.cN))] [(1,a_ 2 b2)] ?_)))
 refine gL [] (sY X.cN 4096) ?_
 rintro _ _ ⟨rfl,rfl⟩
 refine gK 2 [(18,.bool (!(decide ((0<=X.cN/\X.cN<=4096)))))] [] ?_
 refine ak.nH 18 ((0<=X.cN/\X.cN<=4096)) (fun _=>by kernel_rfl) (fun rE=>?_) (fun rE=>?_)
 ·refine gK 17 [(35,.bool true)] [] ?_
  refine NN (CT (SR (gK 2 [(4,.pointer none),(5,vI 179)] [] ?_)))
  refine NN (af.ret (aj.aq ?_))
  exact RT (.tuple #[.pointer none,vI 179]) [0] (.inl ⟨fun h=>rE h.cN,rfl,rfl⟩)
 refine gK 2 [(20,vI (X.cB))] [(1,a_ 2 b2)] ?_
 refine gL [] (sY X.cB 1099511627776) ?_
 rintro _ _ ⟨rfl,rfl⟩
 refine gK 3 [(24,.bool (!(decide ((0<=X.cB/\X.cB<=1099511627776)))))] [] ?_
 refine ak.nH 24 ((0<=X.cB/\X.cB<=1099511627776)) (fun _=>by kernel_rfl) (fun x5=>?_) (fun x5=>?_)
 ·refine gK 11 [(35,.bool true)] [] ?_
  refine NN (CT (SR (gK 2 [(4,.pointer none),(5,vI 179)] [] ?_)))
  refine NN (af.ret (aj.aq ?_))
  exact RT (.tuple #[.pointer none,vI 179]) [0] (.inl ⟨fun h=>x5 h.cB,rfl,rfl⟩)
 refine gK 2 [(26,vI (X.cH))] [(1,a_ 2 b2)] ?_
 refine gL [] (sY X.cH 1024) ?_
 rintro _ _ ⟨rfl,rfl⟩
 refine gK 3 [(30,.bool (!(decide ((0<=X.cH/\X.cH<=1024)))))] [] ?_
 refine ak.nH 30 ((0<=X.cH/\X.cH<=1024)) (fun _=>by kernel_rfl) (fun Hv=>?_) (fun Hv=>?_)
 ·refine gK 5 [(35,.bool true)] [] ?_
  refine NN (CT (SR (gK 2 [(4,.pointer none),(5,vI 179)] [] ?_)))
  refine NN (af.ret (aj.aq ?_))
  exact RT (.tuple #[.pointer none,vI 179]) [0] (.inl ⟨fun h=>Hv h.cH,rfl,rfl⟩)
 refine gK 2 [(32,.agg #[vI (X.cS),vI (X.cZ)])] [(1,A_ 2 b2 2)] ?_
 refine gL [] (mH X.cS X.cZ) ?_
 rintro _ _ ⟨rfl,rfl⟩
 refine gK 2 [(35,.bool (!(decide (fL X.cS X.cZ))))] [] ?_
 refine NN (af.gT (p:=fL X.cS X.cZ) (fun _=>by kernel_rfl) (fun zx=>?_) (fun zx=>?_))
 ·refine SR (gK 2 [(4,.pointer none),(5,vI 179)] [] ?_)
  refine NN (af.ret (aj.aq ?_))
  exact RT (.tuple #[.pointer none,vI 179]) [0] (.inl ⟨fun h=>zx h.now,rfl,rfl⟩)
 have hcap:jQ X:=⟨rE,x5,Hv,zx⟩
 refine af.skip (NX (af.seq (SR (gK 1 [(36,.agg #[.slice A (ns.length) (c)])] [(0,a_ 1 b1)] ?_))))
 refine gL [] (OZ A c ns Y hG hl (fun i hi=>⟨Nat.le_trans (hd i hi).1 (by decide),(hd i hi).2⟩) hwf hnm) ?_
 rintro _ _ ⟨rfl,rfl⟩
 refine gK 1 [(38,.bool (!(decide (((if bp ns then 0 else 140):Int)=(0:Int)))))] [] ?_
 refine NN (af.gT (p:=((if bp ns then 0 else 140):Int)=(0:Int)) (fun _=>by kernel_rfl) (fun JE=>?_) (fun JE=>?_))
 ·have YF:¬ bp ns:=fun h=>JE (if_pos h)
  refine SR (gK 2 [(4,.pointer none),(5,vI 140)] [] ?_)
  refine NN (af.ret (aj.aq ?_))
  exact RT (.tuple #[.pointer none,vI 140]) [0] (.inr (.inl ⟨hcap,YF,rfl,rfl⟩))
 have hok:bp ns:=Classical.byContradiction (fun h=>by rw [if_neg h] at JE;exact absurd JE (by decide))
 refine af.skip (NX (af.seq (af.sW (S:=[sG b2 X]) [0,2,3] [.two 1 4,.one 5,.one 6,.one 7] [2] (by kernel_rfl) (by kernel_rfl) rfl (by kernel_rfl) ?_)))
 refine gP (NK b1 X++[(42,vI (X.cH))]) [0,2,3] [(0,A_ 0 b2 5),(2,a_ 0 b2)] ?_
 refine ji.pair (ι:=Nat×Nat) (T9:=Nat) (Ua:=Nat) (M7:=fun (m3:Nat)=>(NK b1 X++[(40,.map (some m3)),(42,vI (X.cH))])) (hpi:=fun (m3:Nat)=>[.abs R,rX b1 A ns c,sG b2 X,.abs (aN Tryz.prog 3 m3 (fun _=>none) 0)]) (M8:=fun (t5:Nat)=>(NK b1 X++[(43,vP t5)])) (M9:=fun (t5:Nat)=>[.abs (dV 212 t5 (min (max X.cH 0) 1024) 0 []),.abs R,rX b1 A ns c,sG b2 X]) (fr':=fun ((m3,t4):Nat×Nat)=>[(2,vP b1),(39,.agg #[vI (X.cN),vI (X.cB),vI (X.cH),vI (X.cS),vI (X.cZ)]),(40,.map (some m3)),(43,vP t4)]) (hp':=fun ((m3,t4):Nat×Nat)=>[.abs (dV 212 t4 (min (max X.cH 0) 1024) 0 []),.abs R,rX b1 A ns c,sG b2 X,.abs (aN Tryz.prog 3 m3 (fun _=>none) 0)]) [2] [3] [3] rfl rfl rfl rfl ?_ ?_ ?_ ?_ rfl (fun _=>by kernel_rfl) rfl (fun _=>by kernel_rfl) rfl (fun _=>by kernel_rfl) ?_
 ·refine ak.kV (d:=(some 40)) (t:=151) (fun _=>by kernel_rfl) Tryz.prog rfl 3 (fun m3=>?_)
  refine NL ?_
  exact MD m3 [2,39,40,42] [0,1,2,3]
 ·rintro m3
  show ak _ _ _ _ _ (NK b1 X++[(40,.map (some m3)),(42,vI (X.cH))]) [.abs R,rX b1 A ns c,sG b2 X,.abs (aN Tryz.prog 3 m3 (fun _=>none) 0)] _
  refine gL [] (GI X.cH) ?_
  rintro _ _ ⟨t4,rfl,rfl⟩
  refine NL ?_
  exact MD (m3,t4) [2,39,40,43] [0,1,2,3,4]
 ·refine gL [] (GI X.cH) ?_
  rintro _ _ ⟨t5,rfl,rfl⟩
  refine NL ?_
  exact MD t5 [2,39,43] [0,1,2,3]
 ·rintro t5
  show ak _ _ _ _ _ (NK b1 X++[(43,vP t5)]) [.abs (dV 212 t5 (min (max X.cH 0) 1024) 0 []),.abs R,rX b1 A ns c,sG b2 X] _
  refine ak.kV (d:=(some 40)) (t:=151) (fun _=>by kernel_rfl) Tryz.prog rfl 3 (fun m6=>?_)
  refine NL ?_
  exact MD (m6,t5) [2,39,40,43] [0,1,2,3,4]
 rintro⟨m3,t4⟩
 refine ji.cut (ι:=Unit) (fr':=fun (_:Unit)=>[(2,vP b1),(44,.agg #[vI (X.cN),vI (X.cB),vI (X.cH),vI (X.cS),vI (X.cZ),.map (some m3),vP t4,vI 0,vI 0,vI 0])]) (hp':=fun (_:Unit)=>[.abs (dV 212 t4 (min (max X.cH 0) 1024) 0 []),.abs R,rX b1 A ns c,sG b2 X,.abs (aN Tryz.prog 3 m3 (fun _=>none) 0)]) [3] rfl rfl ?_ rfl (fun _=>by kernel_rfl) ?_
 ·refine gK 1 [(44,.agg #[vI (X.cN),vI (X.cB),vI (X.cH),vI (X.cS),vI (X.cZ),.map (some m3),vP t4,vI 0,vI 0,vI 0])] [] ?_
  refine NL ?_
  exact MD () [2,44] [0,1,2,3,4]
 rintro _
 refine ji.cut (ι:=Nat) (fr':=fun (b7:Nat)=>[(2,vP b1),(45,vP b7)]) (hp':=fun (b7:Nat)=>[.abs (dV 212 t4 (min (max X.cH 0) 1024) 0 []),.abs R,rX b1 A ns c,sG b2 X,.abs (aN Tryz.prog 3 m3 (fun _=>none) 0),pF b7 m3 t4 { X with last:=0,ah:=0,used:=0 }]) [3] rfl rfl ?_ rfl (fun _=>by kernel_rfl) ?_
 ·refine gN 1 (fun b7=>[(45,vP b7)]) (fun _=>[]) (fun _=>[]) (fun b7=>pF b7 m3 t4 { X with last:=0,ah:=0,used:=0 }) (fun b7=>?_)
  refine NL ?_
  exact MD b7 [2,45] [0,1,2,3,4,5]
 rintro b7
 refine ji.last rfl rfl ?_
 refine gK 1 [(6,vP b7)] [] ?_
 refine NL (aj.np (NX (af.seq (SR ?_))))
 obtain⟨L,ZW⟩:∃ L:HL,L=⟨fun _=>0,fun _=>0,fun _=>none,fun _=>0⟩:=⟨_,rfl⟩
 refine ak.mem (fun w hS=>hS.FP (bR (iI X).O L) (BU X L).1) ?_
 refine ak.mem (fun w hS=>hS.FP (ct (iI X).O L) (BU X L).2.1) ?_
 refine ak.mem (fun w hS=>hS.FP (dg (iI X).O L) (BU X L).2.2) ?_
 have hc:min (max X.cH 0) 1024=X.cH:=by have:=hcap.cH;omega
 refine ak.mem (dw:=[.abs (dV 212 t4 (iI X).X.cH (iI X).aD (bI L (iI X).us)),.abs R,.blk b1 [.slice A (ns.length) (c)] 24,.blk b2 [vI (X.cN),vI (X.cB),vI (X.cH),vI (X.cS),vI (X.cZ)] 28,.abs (aN Tryz.prog 3 m3 (bE (bI L (iI X).idx)) ((iI X).idx.length)),.blk b7 [vI ((iI X).X.cN),vI ((iI X).X.cB),vI ((iI X).X.cH),vI ((iI X).X.cS),vI ((iI X).X.cZ),.map (some m3),vP t4,vI ((iI X).X.last),vI ((iI X).X.ah),vI ((iI X).X.used)] 154,.abs (aH (bR ((iI X).O) L)),.abs (aH (ct ((iI X).O) L)),.abs (aH (dg ((iI X).O) L))]) (fun w hS=>by rw [hc,← GH] at hS;exact hS) ?_
 refine gK 4 [(47,.slice A (ns.length) (c)),(48,vI ↑ns.length),(49,vI 0)] [(1,a_ 2 b1)] ?_
 refine NN (af.block ?_)
 refine af.loop (ι:=Nat×aI×HL) (fun ((k,S,L):Nat×aI×HL)=>(k<=ns.length)/\(mT X ns k S)) (fun ((k,S,L):Nat×aI×HL)=>ns.length - k) (fun ((k,S,L):Nat×aI×HL)=>(NM b1 b7 A ns c k)) (fun ((k,S,L):Nat×aI×HL)=>(x7 b1 A ns c b7 m3 t4 S L R)) (0,(iI X),L) (idx:=[2,6,47,48,49]) (pk:=[2,5,4,0,6,7,8,1]) (show (0<=ns.length)/\(mT X ns 0 ((iI X))) from ⟨Nat.zero_le _,Nz hcap⟩) (fun _=>by kernel_rfl) rfl (by kernel_rfl) ?_
 rintro⟨k,S,L⟩ ⟨hk,hB⟩
 show af _ _ _ _ (NM b1 b7 A ns c k) (x7 b1 A ns c b7 m3 t4 S L R) _
 refine SR (gK 1 [(50,.bool (decide ((((k:Nat):Int):Int) < (((ns.length:Nat):Int):Int))))] [] ?_)
 refine NN (af.seq (af.aV (p:=(((k:Nat):Int):Int) < (((ns.length:Nat):Int):Int)) (fun _=>by kernel_rfl) (fun h50=>?_) (fun h50=>?_)))
 ·have hk2:k < ns.length:=by omega
  have hdk:=hd k hk2
  have hds:=Fb (fun i hi=>(hd i hi).1) hk
  have P6:=hok.ids k hk2
  have hni:=hB.new hok hk2
  have qN:(Lit.int .i64 (nd ns k).id).wf=true:=WalkArith.wf_i64 (by omega)
  have hkk:=(hok.node k hk2).kind
  have iJ:S.X.used=(tZ ns k:Int):=by rw [hB.cap]
  have hil:=hB.inv.len
  refine af.skip (NX (af.seq (af.block (SR ?_))))
  refine gN 4 (fun b8=>[(8,vP b8)]) (fun b8=>[(0,p_ ⟨[],some k,none,some ⟨(ax A),av A,none⟩,none⟩ [((k:Nat):Int)=((k:Nat):Int),k < ns.length,(⟨(ax A),av A,none⟩:Addr).spot=none,(A:Option Addr)=some ⟨(ax A),av A,none⟩] ⟨rfl,by omega,rfl,aF.hd hG (i:=k) (by omega),trivial⟩),(1,p_ ⟨[.old (.int .i64 ((nd ns k).id)),.old (.int .i64 ((nd ns k).kind)),.old (.int .i64 ((nd ns k).mode)),.old (.int .i64 ((nd ns k).uid)),.old (.int .i64 ((nd ns k).gid)),.old (.int .i64 ((nd ns k).sec)),.old (.int .i64 ((nd ns k).nano)),.old (.slice (Y.dA k) ((nd ns k).data.length) ((Y.dC k))),.old (.string (nd ns k).target),.old (.slice (Y.eA k) ((nd ns k).ah.length) ((Y.eC k)))],none,none,none,none⟩ [(Rd β ⟨(ax A),av A+k * 10+9,none⟩ (.slice (Y.eA k) ((nd ns k).ah.length) ((Y.eC k)))),(Rd β ⟨(ax A),av A+k * 10+8,none⟩ (.string (nd ns k).target)),(Rd β ⟨(ax A),av A+k * 10+7,none⟩ (.slice (Y.dA k) ((nd ns k).data.length) ((Y.dC k)))),(Rd β ⟨(ax A),av A+k * 10+6,none⟩ (.int .i64 ((nd ns k).nano))),(Rd β ⟨(ax A),av A+k * 10+5,none⟩ (.int .i64 ((nd ns k).sec))),(Rd β ⟨(ax A),av A+k * 10+4,none⟩ (.int .i64 ((nd ns k).gid))),(Rd β ⟨(ax A),av A+k * 10+3,none⟩ (.int .i64 ((nd ns k).uid))),(Rd β ⟨(ax A),av A+k * 10+2,none⟩ (.int .i64 ((nd ns k).mode))),(Rd β ⟨(ax A),av A+k * 10+1,none⟩ (.int .i64 ((nd ns k).kind))),(Rd β ⟨(ax A),av A+k * 10,none⟩ (.int .i64 ((nd ns k).id)))] ⟨aF.rd hG (i:=k) (by omega) (j:=9) rfl,aF.rd hG (i:=k) (by omega) (j:=8) rfl,aF.rd hG (i:=k) (by omega) (j:=7) rfl,aF.rd hG (i:=k) (by omega) (j:=6) rfl,aF.rd hG (i:=k) (by omega) (j:=5) rfl,aF.rd hG (i:=k) (by omega) (j:=4) rfl,aF.rd hG (i:=k) (by omega) (j:=3) rfl,aF.rd hG (i:=k) (by omega) (j:=2) rfl,aF.rd hG (i:=k) (by omega) (j:=1) rfl,aF.rd hG (i:=k) (by omega) (j:=0) rfl,trivial⟩),(3,A_ 8 b8 10)]) (fun _=>[]) (fun b8=>.blk b8 [vI ((nd ns k).id),vI ((nd ns k).kind),vI ((nd ns k).mode),vI ((nd ns k).uid),vI ((nd ns k).gid),vI ((nd ns k).sec),vI ((nd ns k).nano),.slice (Y.dA k) ((nd ns k).data.length) ((Y.dC k)),.string (nd ns k).target,.slice (Y.eA k) ((nd ns k).ah.length) ((Y.eC k))] 108) (fun b8=>?_)
  refine NS (gN 13 (fun b9=>[(9,vP b9)]) (fun b9=>[(1,a_ 8 b8),(3,a_ 8 b8),(5,a_ 8 b8),(7,a_ 8 b8),(9,A_ 8 b8 2),(12,A_ 9 b9 9)]) (fun _=>[]) (fun b9=>.blk b9 [vI ((nd ns k).id),vI ((nd ns k).mode),vI ((nd ns k).uid),vI ((nd ns k).gid),vI ((nd ns k).sec),vI ((nd ns k).nano),vI 0,vI 0,.bool false] 161) (fun b9=>?_))
  refine NN (af.seq (SR (gK 2 [(65,vI ((nd ns k).kind))] [(1,a_ 8 b8)] ?_)))
  refine NN (af.block (SR ?_))
  refine gK 2 [(77,.bool (decide (((nd ns k).kind:Int)=(1:Int))))] [] ?_
  refine NN (af.aV (p:=((nd ns k).kind:Int)=(1:Int)) (fun _=>by kernel_rfl) (fun hk1=>?_) (fun hk1=>?_))
  ·refine af.cA (S:=[pF b7 m3 t4 S.X,sH b8 ns k Y,AX b9 ns k]) [0,1,2,3,4,5,6,7,8,9,10,11,12,13] 9 [1,8,9] (by kernel_rfl) (by kernel_rfl) rfl (by kernel_rfl) ?_
   refine gR 0 [9,10,11,12,13] (Qh b1 b7 b8 A ns c k++[(82,.map (some m3)),(84,vI ((nd ns k).id)),(85,.agg #[vI ((nd ns k).id),vI ((nd ns k).mode),vI ((nd ns k).uid),vI ((nd ns k).gid),vI ((nd ns k).sec),vI ((nd ns k).nano),vI 0,vI 0,.bool false]),(87,.slice (Y.dA k) ((nd ns k).data.length) ((Y.dC k)))]) [0,1,2,3,4,5,6,7,8] [(3,a_ 0 b7),(5,a_ 1 b8),(6,A_ 2 b9 9),(8,a_ 1 b8)] ?_
   refine mL [2,9,10] [] (vw (Y.dA k) (Y.dC k) (nd ns k).data (hG.data k (by omega)) (by have:=(hd k (by omega)).1;omega)) ?_ (by rintro _ _ ⟨qm,c11,rfl,rfl⟩;rfl)
   rintro _ _ ⟨qm,c11,rfl,rfl⟩
   refine aS.cut (ι:=Unit) (fr':=fun (_:Unit)=>(Kc b1 b7 b8 A ns c k++[(82,.map (some m3)),(84,vI ((nd ns k).id)),(89,.agg #[vI ((nd ns k).id),vI ((nd ns k).mode),vI ((nd ns k).uid),vI ((nd ns k).gid),vI ((nd ns k).sec),vI ((nd ns k).nano),vI 0,vI 0,.bool false,.slice qm ((nd ns k).data.length) (c11)])])) (hp':=fun (_:Unit)=>([.abs (aK 5 1 qm ((nd ns k).data.length) c11 (cM (nd ns k).data))]++x7 b1 A ns c b7 m3 t4 S L R++[sH b8 ns k Y,AX b9 ns k])) [2,9,10] rfl rfl ?_ rfl (fun _=>by kernel_rfl) ?_
   ·refine gK 1 [(89,.agg #[vI ((nd ns k).id),vI ((nd ns k).mode),vI ((nd ns k).uid),vI ((nd ns k).gid),vI ((nd ns k).sec),vI ((nd ns k).nano),vI 0,vI 0,.bool false,.slice qm ((nd ns k).data.length) (c11)])] [] ?_
    refine NL ?_
    exact MD () [2,6,8,47,48,49,82,84,89] [0,1,2,3,4,5,6,7,8,9,10]
   rintro _
   refine mN [2,9,10] (fun b12=>[(90,vP b12)]) (fun _=>[]) (fun b12=>.blk b12 [vI ((nd ns k).id),vI ((nd ns k).mode),vI ((nd ns k).uid),vI ((nd ns k).gid),vI ((nd ns k).sec),vI ((nd ns k).nano),vI 0,vI 0,.bool false,.slice qm ((nd ns k).data.length) (c11)] 165) (fun b12=>?_)
   refine aS.cut (ι:=Unit) (fr':=fun (_:Unit)=>(Kc b1 b7 b8 A ns c k++[(82,.map (some m3)),(84,vI ((nd ns k).id)),(91,.iface 162 (vP b12))])) (hp':=fun (_:Unit)=>([.abs (aK 5 1 qm ((nd ns k).data.length) c11 (cM (nd ns k).data))]++x7 b1 A ns c b7 m3 t4 S L R++[sH b8 ns k Y,AX b9 ns k,.blk b12 [vI ((nd ns k).id),vI ((nd ns k).mode),vI ((nd ns k).uid),vI ((nd ns k).gid),vI ((nd ns k).sec),vI ((nd ns k).nano),vI 0,vI 0,.bool false,.slice qm ((nd ns k).data.length) (c11)] 165])) [2,9,10] rfl rfl ?_ rfl (fun _=>by kernel_rfl) ?_
   ·refine gK 1 [(91,.iface 162 (vP b12))] [] ?_
    refine NL ?_
    exact MD () [2,6,8,47,48,49,82,84,91] [0,1,2,3,4,5,6,7,8,9,10,11]
   rintro _
   refine aS.last rfl rfl ?_
   obtain⟨L2,hL2⟩:∃ L2:HL,L2=L.put (fW (nd ns k)) b12 0 qm c11:=⟨_,rfl⟩
   have hfr:=hB.fresh hok (by omega)
   refine ak.mem (fun w hS=>hS.zZ hL2 hfr (o:=(qt (nd ns k))) (i:=5) (j:=11) (ix:=[0,1,2,3,4,6,7,8,9,10]) rfl rfl (by kernel_rfl) rfl (by show (nd ns k).kind≠0;rw [hk1];decide) ((rI (L:=L2) (k:=(fW (nd ns k))) (o:=(qt (nd ns k))) hk1).trans (by rw [show L2.dA (fW (nd ns k))=qm by rw [hL2];exact if_pos rfl,show L2.dC (fW (nd ns k))=c11 by rw [hL2];exact if_pos rfl];rfl)) (by show si (nd ns k).kind=_;rw [hk1]<;>rfl)) ?_
   refine ak.eZ [(7,.abs (aH (dg ((cJ S (nd ns k)).O) L2)))] (fun w hS=>hS.CM hL2 hfr (o:=(qt (nd ns k))) (i:=7) rfl (by show ¬ (nd ns k).kind=2;rw [hk1];decide)) ?_
   refine ak.mem (dw:=[pD ((cJ S (nd ns k)).O) L2,pO ((cJ S (nd ns k)).O) L2,rX b1 A ns c,pF b7 m3 t4 S.X,pI m3 L S.idx,x6 t4 S L,pE ((cJ S (nd ns k)).O) L2,.abs R,sH b8 ns k Y,AX b9 ns k]) (fun w hS=>hS.VX hL2 (o:=(qt (nd ns k))) (i:=6) (j:=1) (ix:=[0,2,3,4,5,7,8,9,10]) rfl rfl (by kernel_rfl) rfl hk1) ?_
   refine ak.eZ [(4,.abs (aN Tryz.prog 3 m3 (bE (bI L2 S.idx)) S.idx.length)),(5,.abs (dV 212 t4 S.X.cH S.aD (bI L2 S.us)))] (fun w hS=>by rw [kD hL2 hfr.idx,kD hL2 hfr.us];exact hS) ?_
   have Ii:ez L2 (qg (nd ns k))=.iface 162 (vP b12):=by unfold qg;rw [tu hL2,hk1];rfl
   refine ak.kH 4 (d:=none) (t:=151) (K:=3) (E:=156) (b:=m3) (n:=S.idx.length) (f:=(bE (bI L2 S.idx))) (x:=(.tmp 82)) (ix:=(.tmp 84)) (y:=(.tmp 91)) (key:=.int .i64 ((nd ns k).id)) (u:=.iface 162 (vP b12)) (kl:=(.int .i64 (nd ns k).id)) (n':=(S.idx.length+1)) (f':=(bE (bI L2 (ins (nd ns k).id (qg (nd ns k)) S.idx)))) (fun _=>by kernel_rfl) (by kernel_rfl) (fun _=>by kernel_rfl) (fun _=>by kernel_rfl) (fun _=>by kernel_rfl) dG Tryz.underlying151 (by unfold maxLen;omega) (iK qN) (by rw [fQ,hni];rfl) (by rw [← Ii];exact tq hni) ?_
   refine NL (aj.np (aj.aP (NX (SR ?_))))
   refine gC 6 [] [(2,a_ 8 b8),(5,a_ 3 b7)] [(3,[(7,vI ((nd ns k).id))])] ?_
   refine NN (af.cA (S:=[pF b7 m3 t4 { S.X with last:=(nd ns k).id },sH b8 ns k Y]) [0,1,2,3,4,5,6,7,8,9,10] 10 [3,8] (by kernel_rfl) (by kernel_rfl) rfl (by kernel_rfl) ?_)
   refine gR 0 [10] (NM b1 b7 A ns c k++Qi S ns k b7) [0,1,2,3,4,5,6,7,8,9] [(3,a_ 0 b7),(5,a_ 1 b8),(7,p_ ⟨[],none,none,none,some (vI (S.X.used+(((nd ns k).data.length:Nat):Int)))⟩ [(Value.int .i64 (IntKind.wrap .i64 (S.X.used+(((nd ns k).data.length:Nat):Int))))=(.int .i64 (S.X.used+(((nd ns k).data.length:Nat):Int)))] ⟨bB (by omega) (by omega) (by omega),trivial⟩)] ?_
   refine aS.last rfl rfl ?_
   refine gC 1 [] [(0,a_ 3 b7)] [(3,[(9,vI (S.X.used+(((nd ns k).data.length:Nat):Int)))])] ?_
   refine NL (aj.np (aj.aP (NX (af.region ?_))))
   refine gK 2 [(49,vI ↑(k+1))] [(0,p_ ⟨[],none,none,none,some (vI ↑(k+1))⟩ [(Value.int .i64 (IntKind.wrap .i64 (((k:Nat):Int)+1)))=(.int .i64 ↑(k+1))] ⟨bB (by omega) (by omega) (by omega),trivial⟩)] ?_
   refine NL (aj.eZ [(3,.blk b7 [vI ((cJ S (nd ns k)).X.cN),vI ((cJ S (nd ns k)).X.cB),vI ((cJ S (nd ns k)).X.cH),vI ((cJ S (nd ns k)).X.cS),vI ((cJ S (nd ns k)).X.cZ),.map (some m3),vP t4,vI ((cJ S (nd ns k)).X.last),vI ((cJ S (nd ns k)).X.ah),vI ((cJ S (nd ns k)).X.used)] 154),(4,.abs (aN Tryz.prog 3 m3 (bE (bI L2 (cJ S (nd ns k)).idx)) ((cJ S (nd ns k)).idx.length))),(5,.abs (dV 212 t4 (cJ S (nd ns k)).X.cH (cJ S (nd ns k)).aD (bI L2 (cJ S (nd ns k)).us)))] (fun w hS=>by rw [show (cJ S (nd ns k)).idx.length=S.idx.length+1 from iw _ _ _];exact hS) ?_)
   exact aj.turn ((k+1),(cJ S (nd ns k)),L2) (idx:=[2,6,47,48,49]) (pk:=[2,3,4,5,1,0,6,7]) (show (((k+1))<=ns.length)/\(mT X ns ((k+1)) ((cJ S (nd ns k)))) from ⟨by omega,zo hok (fun i hi=>(hd i hi).1) (by omega) hB⟩) (by show ns.length - ((k+1)) < ns.length - k;omega) (fun _=>by kernel_rfl) rfl (by kernel_rfl)
  refine SR (gK 2 [(92,.bool (decide (((nd ns k).kind:Int)=(3:Int))))] [] ?_)
  refine NN (af.aV (p:=((nd ns k).kind:Int)=(3:Int)) (fun _=>by kernel_rfl) (fun hk3=>?_) (fun hk3=>?_))
  ·refine af.cA (S:=[pF b7 m3 t4 S.X,sH b8 ns k Y,AX b9 ns k]) [0,1,2,3,4,5,6,7,8,9,10,11,12] 10 [1,8,9] (by kernel_rfl) (by kernel_rfl) rfl (by kernel_rfl) ?_
   refine gR 0 [10,11,12] (Qh b1 b7 b8 A ns c k++[(97,.map (some m3)),(99,vI ((nd ns k).id)),(103,.agg #[vI ((nd ns k).id),vI ((nd ns k).mode),vI ((nd ns k).uid),vI ((nd ns k).gid),vI ((nd ns k).sec),vI ((nd ns k).nano),vI 0,vI 0,.bool false,.string (nd ns k).target])]) [0,1,2,3,4,5,6,7,8,9] [(3,a_ 0 b7),(5,a_ 1 b8),(6,A_ 2 b9 9),(8,a_ 1 b8)] ?_
   refine mN [1,8,9] (fun b13=>[(104,vP b13)]) (fun _=>[]) (fun b13=>.blk b13 [vI ((nd ns k).id),vI ((nd ns k).mode),vI ((nd ns k).uid),vI ((nd ns k).gid),vI ((nd ns k).sec),vI ((nd ns k).nano),vI 0,vI 0,.bool false,.string (nd ns k).target] 168) (fun b13=>?_)
   refine aS.cut (ι:=Unit) (fr':=fun (_:Unit)=>(Kc b1 b7 b8 A ns c k++[(97,.map (some m3)),(99,vI ((nd ns k).id)),(105,.iface 166 (vP b13))])) (hp':=fun (_:Unit)=>(x7 b1 A ns c b7 m3 t4 S L R++[sH b8 ns k Y,AX b9 ns k,.blk b13 [vI ((nd ns k).id),vI ((nd ns k).mode),vI ((nd ns k).uid),vI ((nd ns k).gid),vI ((nd ns k).sec),vI ((nd ns k).nano),vI 0,vI 0,.bool false,.string (nd ns k).target] 168])) [1,8,9] rfl rfl ?_ rfl (fun _=>by kernel_rfl) ?_
   ·refine gK 1 [(105,.iface 166 (vP b13))] [] ?_
    refine NL ?_
    exact MD () [2,6,8,47,48,49,97,99,105] [0,1,2,3,4,5,6,7,8,9,10]
   rintro _
   refine aS.last rfl rfl ?_
   obtain⟨L2,hL2⟩:∃ L2:HL,L2=L.put (fW (nd ns k)) b13 0 none 0:=⟨_,rfl⟩
   have hfr:=hB.fresh hok (by omega)
   refine ak.mem (fun w hS=>hS.zZ hL2 hfr (o:=(qt (nd ns k))) (i:=4) (j:=10) (ix:=[0,1,2,3,5,6,7,8,9]) rfl rfl (by kernel_rfl) rfl (by show (nd ns k).kind≠0;rw [hk3];decide) ((yE (L:=L2) (k:=(fW (nd ns k))) (o:=(qt (nd ns k))) hk3).trans (by rfl)) (by show si (nd ns k).kind=_;rw [hk3]<;>rfl)) ?_
   refine ak.eZ [(6,.abs (aH (dg ((cJ S (nd ns k)).O) L2)))] (fun w hS=>hS.CM hL2 hfr (o:=(qt (nd ns k))) (i:=6) rfl (by show ¬ (nd ns k).kind=2;rw [hk3];decide)) ?_
   refine ak.eZ [(5,.abs (aH (ct ((cJ S (nd ns k)).O) L2)))] (fun w hS=>hS.CN hL2 (o:=(qt (nd ns k))) (i:=5) rfl (by show ¬ (nd ns k).kind=1;rw [hk3];decide)) ?_
   refine ak.eZ [(3,.abs (aN Tryz.prog 3 m3 (bE (bI L2 S.idx)) S.idx.length)),(4,.abs (dV 212 t4 S.X.cH S.aD (bI L2 S.us)))] (fun w hS=>by rw [kD hL2 hfr.idx,kD hL2 hfr.us];exact hS) ?_
   have Ii:ez L2 (qg (nd ns k))=.iface 166 (vP b13):=by unfold qg;rw [tu hL2,hk3];rfl
   refine ak.kH 3 (d:=none) (t:=151) (K:=3) (E:=156) (b:=m3) (n:=S.idx.length) (f:=(bE (bI L2 S.idx))) (x:=(.tmp 97)) (ix:=(.tmp 99)) (y:=(.tmp 105)) (key:=.int .i64 ((nd ns k).id)) (u:=.iface 166 (vP b13)) (kl:=(.int .i64 (nd ns k).id)) (n':=(S.idx.length+1)) (f':=(bE (bI L2 (ins (nd ns k).id (qg (nd ns k)) S.idx)))) (fun _=>by kernel_rfl) (by kernel_rfl) (fun _=>by kernel_rfl) (fun _=>by kernel_rfl) (fun _=>by kernel_rfl) dG Tryz.underlying151 (by unfold maxLen;omega) (iK qN) (by rw [fQ,hni];rfl) (by rw [← Ii];exact tq hni) ?_
   refine NL (aj.np (aj.aP (NX (SR ?_))))
   refine gC 6 [] [(2,a_ 8 b8),(5,a_ 2 b7)] [(2,[(7,vI ((nd ns k).id))])] ?_
   refine NN (af.cA (S:=[pF b7 m3 t4 { S.X with last:=(nd ns k).id },sH b8 ns k Y]) [0,1,2,3,4,5,6,7,8,9,10] 10 [2,8] (by kernel_rfl) (by kernel_rfl) rfl (by kernel_rfl) ?_)
   refine gR 0 [10] (NM b1 b7 A ns c k++Qi S ns k b7) [0,1,2,3,4,5,6,7,8,9] [(3,a_ 0 b7),(5,a_ 1 b8),(7,p_ ⟨[],none,none,none,some (vI (S.X.used+(((nd ns k).data.length:Nat):Int)))⟩ [(Value.int .i64 (IntKind.wrap .i64 (S.X.used+(((nd ns k).data.length:Nat):Int))))=(.int .i64 (S.X.used+(((nd ns k).data.length:Nat):Int)))] ⟨bB (by omega) (by omega) (by omega),trivial⟩)] ?_
   refine aS.last rfl rfl ?_
   refine gC 1 [] [(0,a_ 2 b7)] [(2,[(9,vI (S.X.used+(((nd ns k).data.length:Nat):Int)))])] ?_
   refine NL (aj.np (aj.aP (NX (af.region ?_))))
   refine gK 2 [(49,vI ↑(k+1))] [(0,p_ ⟨[],none,none,none,some (vI ↑(k+1))⟩ [(Value.int .i64 (IntKind.wrap .i64 (((k:Nat):Int)+1)))=(.int .i64 ↑(k+1))] ⟨bB (by omega) (by omega) (by omega),trivial⟩)] ?_
   refine NL (aj.eZ [(2,.blk b7 [vI ((cJ S (nd ns k)).X.cN),vI ((cJ S (nd ns k)).X.cB),vI ((cJ S (nd ns k)).X.cH),vI ((cJ S (nd ns k)).X.cS),vI ((cJ S (nd ns k)).X.cZ),.map (some m3),vP t4,vI ((cJ S (nd ns k)).X.last),vI ((cJ S (nd ns k)).X.ah),vI ((cJ S (nd ns k)).X.used)] 154),(3,.abs (aN Tryz.prog 3 m3 (bE (bI L2 (cJ S (nd ns k)).idx)) ((cJ S (nd ns k)).idx.length))),(4,.abs (dV 212 t4 (cJ S (nd ns k)).X.cH (cJ S (nd ns k)).aD (bI L2 (cJ S (nd ns k)).us)))] (fun w hS=>by rw [show (cJ S (nd ns k)).idx.length=S.idx.length+1 from iw _ _ _];exact hS) ?_)
   exact aj.turn ((k+1),(cJ S (nd ns k)),L2) (idx:=[2,6,47,48,49]) (pk:=[1,2,3,4,0,5,6,7]) (show (((k+1))<=ns.length)/\(mT X ns ((k+1)) ((cJ S (nd ns k)))) from ⟨by omega,zo hok (fun i hi=>(hd i hi).1) (by omega) hB⟩) (by show ns.length - ((k+1)) < ns.length - k;omega) (fun _=>by kernel_rfl) rfl (by kernel_rfl)
  have oK:(nd ns k).kind=2:=by omega
  refine af.cA (S:=[pF b7 m3 t4 S.X,sH b8 ns k Y,AX b9 ns k]) [0,1,2,3,4,5,6,7,8,9,10,11] 7 [1,8,9] (by kernel_rfl) (by kernel_rfl) rfl (by kernel_rfl) ?_
  refine gR 0 [7,8,9,10,11] (Qh b1 b7 b8 A ns c k++[(69,.map (some m3)),(71,vI ((nd ns k).id)),(72,.agg #[vI ((nd ns k).id),vI ((nd ns k).mode),vI ((nd ns k).uid),vI ((nd ns k).gid),vI ((nd ns k).sec),vI ((nd ns k).nano),vI 0,vI 0,.bool false])]) [0,1,2,3,4,5,6] [(3,a_ 0 b7),(5,a_ 1 b8),(6,A_ 2 b9 9)] ?_
  refine aS.cut (ι:=Nat) (fr':=fun (m14:Nat)=>(Kc b1 b7 b8 A ns c k++[(69,.map (some m3)),(71,vI ((nd ns k).id)),(72,.agg #[vI ((nd ns k).id),vI ((nd ns k).mode),vI ((nd ns k).uid),vI ((nd ns k).gid),vI ((nd ns k).sec),vI ((nd ns k).nano),vI 0,vI 0,.bool false]),(73,.map (some m14))])) (hp':=fun (m14:Nat)=>(x7 b1 A ns c b7 m3 t4 S L R++[sH b8 ns k Y,AX b9 ns k,.abs (aN Tryz.prog 9 m14 (fun _=>none) 0)])) [1,8,9] rfl rfl ?_ rfl (fun _=>by kernel_rfl) ?_
  ·refine ak.kV (d:=(some 73)) (t:=174) (fun _=>by kernel_rfl) Tryz.prog rfl 9 (fun m14=>?_)
   refine NL ?_
   exact MD m14 [2,6,8,47,48,49,69,71,72,73] [0,1,2,3,4,5,6,7,8,9,10]
  rintro m14
  refine aS.cut (ι:=Unit) (fr':=fun (_:Unit)=>(Kc b1 b7 b8 A ns c k++[(69,.map (some m3)),(71,vI ((nd ns k).id)),(74,.agg #[vI ((nd ns k).id),vI ((nd ns k).mode),vI ((nd ns k).uid),vI ((nd ns k).gid),vI ((nd ns k).sec),vI ((nd ns k).nano),vI 0,vI 0,.bool false,.map (some m14),.pointer none])])) (hp':=fun (_:Unit)=>(x7 b1 A ns c b7 m3 t4 S L R++[sH b8 ns k Y,AX b9 ns k,.abs (aN Tryz.prog 9 m14 (fun _=>none) 0)])) [1,8,9] rfl rfl ?_ rfl (fun _=>by kernel_rfl) ?_
  ·refine gK 1 [(74,.agg #[vI ((nd ns k).id),vI ((nd ns k).mode),vI ((nd ns k).uid),vI ((nd ns k).gid),vI ((nd ns k).sec),vI ((nd ns k).nano),vI 0,vI 0,.bool false,.map (some m14),.pointer none])] [] ?_
   refine NL ?_
   exact MD () [2,6,8,47,48,49,69,71,74] [0,1,2,3,4,5,6,7,8,9,10]
  rintro _
  refine mN [1,8,9] (fun b15=>[(75,vP b15)]) (fun _=>[]) (fun b15=>.blk b15 [vI ((nd ns k).id),vI ((nd ns k).mode),vI ((nd ns k).uid),vI ((nd ns k).gid),vI ((nd ns k).sec),vI ((nd ns k).nano),vI 0,vI 0,.bool false,.map (some m14),.pointer none] 176) (fun b15=>?_)
  refine aS.cut (ι:=Unit) (fr':=fun (_:Unit)=>(Kc b1 b7 b8 A ns c k++[(69,.map (some m3)),(71,vI ((nd ns k).id)),(76,.iface 169 (vP b15))])) (hp':=fun (_:Unit)=>(x7 b1 A ns c b7 m3 t4 S L R++[sH b8 ns k Y,AX b9 ns k,.abs (aN Tryz.prog 9 m14 (fun _=>none) 0),.blk b15 [vI ((nd ns k).id),vI ((nd ns k).mode),vI ((nd ns k).uid),vI ((nd ns k).gid),vI ((nd ns k).sec),vI ((nd ns k).nano),vI 0,vI 0,.bool false,.map (some m14),.pointer none] 176])) [1,8,9] rfl rfl ?_ rfl (fun _=>by kernel_rfl) ?_
  ·refine gK 1 [(76,.iface 169 (vP b15))] [] ?_
   refine NL ?_
   exact MD () [2,6,8,47,48,49,69,71,76] [0,1,2,3,4,5,6,7,8,9,10,11]
  rintro _
  refine aS.last rfl rfl ?_
  obtain⟨L2,hL2⟩:∃ L2:HL,L2=L.put (fW (nd ns k)) b15 m14 none 0:=⟨_,rfl⟩
  have hfr:=hB.fresh hok (by omega)
  refine ak.mem (fun w hS=>hS.zZ hL2 hfr (o:=(qt (nd ns k))) (i:=4) (j:=11) (ix:=[0,1,2,3,5,6,7,8,9,10]) rfl rfl (by kernel_rfl) rfl (by show (nd ns k).kind≠0;rw [oK];decide) ((oy (L:=L2) (k:=(fW (nd ns k))) (o:=(qt (nd ns k))) oK).trans (by rw [GQ hL2];rfl)) (by show si (nd ns k).kind=_;rw [oK]<;>rfl)) ?_
  refine ak.mem (fun w hS=>hS.QW hL2 hfr (o:=(qt (nd ns k))) (i:=6) (j:=10) (ix:=[0,1,2,3,4,5,7,8,9]) rfl rfl (by kernel_rfl) rfl oK rfl) ?_
  refine ak.eZ [(6,.abs (aH (ct ((cJ S (nd ns k)).O) L2)))] (fun w hS=>hS.CN hL2 (o:=(qt (nd ns k))) (i:=6) rfl (by show ¬ (nd ns k).kind=1;rw [oK];decide)) ?_
  refine ak.eZ [(4,.abs (aN Tryz.prog 3 m3 (bE (bI L2 S.idx)) S.idx.length)),(5,.abs (dV 212 t4 S.X.cH S.aD (bI L2 S.us)))] (fun w hS=>by rw [kD hL2 hfr.idx,kD hL2 hfr.us];exact hS) ?_
  have Ii:ez L2 (qg (nd ns k))=.iface 169 (vP b15):=by unfold qg;rw [tu hL2,oK];rfl
  refine ak.kH 4 (d:=none) (t:=151) (K:=3) (E:=156) (b:=m3) (n:=S.idx.length) (f:=(bE (bI L2 S.idx))) (x:=(.tmp 69)) (ix:=(.tmp 71)) (y:=(.tmp 76)) (key:=.int .i64 ((nd ns k).id)) (u:=.iface 169 (vP b15)) (kl:=(.int .i64 (nd ns k).id)) (n':=(S.idx.length+1)) (f':=(bE (bI L2 (ins (nd ns k).id (qg (nd ns k)) S.idx)))) (fun _=>by kernel_rfl) (by kernel_rfl) (fun _=>by kernel_rfl) (fun _=>by kernel_rfl) (fun _=>by kernel_rfl) dG Tryz.underlying151 (by unfold maxLen;omega) (iK qN) (by rw [fQ,hni];rfl) (by rw [← Ii];exact tq hni) ?_
  refine NL (aj.np (aj.aP (NX (SR ?_))))
  refine gC 6 [] [(2,a_ 8 b8),(5,a_ 3 b7)] [(3,[(7,vI ((nd ns k).id))])] ?_
  refine NN (af.cA (S:=[pF b7 m3 t4 { S.X with last:=(nd ns k).id },sH b8 ns k Y]) [0,1,2,3,4,5,6,7,8,9,10] 10 [3,8] (by kernel_rfl) (by kernel_rfl) rfl (by kernel_rfl) ?_)
  refine gR 0 [10] (NM b1 b7 A ns c k++Qi S ns k b7) [0,1,2,3,4,5,6,7,8,9] [(3,a_ 0 b7),(5,a_ 1 b8),(7,p_ ⟨[],none,none,none,some (vI (S.X.used+(((nd ns k).data.length:Nat):Int)))⟩ [(Value.int .i64 (IntKind.wrap .i64 (S.X.used+(((nd ns k).data.length:Nat):Int))))=(.int .i64 (S.X.used+(((nd ns k).data.length:Nat):Int)))] ⟨bB (by omega) (by omega) (by omega),trivial⟩)] ?_
  refine aS.last rfl rfl ?_
  refine gC 1 [] [(0,a_ 3 b7)] [(3,[(9,vI (S.X.used+(((nd ns k).data.length:Nat):Int)))])] ?_
  refine NL (aj.np (aj.aP (NX (af.region ?_))))
  refine gK 2 [(49,vI ↑(k+1))] [(0,p_ ⟨[],none,none,none,some (vI ↑(k+1))⟩ [(Value.int .i64 (IntKind.wrap .i64 (((k:Nat):Int)+1)))=(.int .i64 ↑(k+1))] ⟨bB (by omega) (by omega) (by omega),trivial⟩)] ?_
  refine NL (aj.eZ [(3,.blk b7 [vI ((cJ S (nd ns k)).X.cN),vI ((cJ S (nd ns k)).X.cB),vI ((cJ S (nd ns k)).X.cH),vI ((cJ S (nd ns k)).X.cS),vI ((cJ S (nd ns k)).X.cZ),.map (some m3),vP t4,vI ((cJ S (nd ns k)).X.last),vI ((cJ S (nd ns k)).X.ah),vI ((cJ S (nd ns k)).X.used)] 154),(4,.abs (aN Tryz.prog 3 m3 (bE (bI L2 (cJ S (nd ns k)).idx)) ((cJ S (nd ns k)).idx.length))),(5,.abs (dV 212 t4 (cJ S (nd ns k)).X.cH (cJ S (nd ns k)).aD (bI L2 (cJ S (nd ns k)).us)))] (fun w hS=>by rw [show (cJ S (nd ns k)).idx.length=S.idx.length+1 from iw _ _ _];exact hS) ?_)
  exact aj.turn ((k+1),(cJ S (nd ns k)),L2) (idx:=[2,6,47,48,49]) (pk:=[2,3,4,5,1,6,0,7]) (show (((k+1))<=ns.length)/\(mT X ns ((k+1)) ((cJ S (nd ns k)))) from ⟨by omega,zo hok (fun i hi=>(hd i hi).1) (by omega) hB⟩) (by show ns.length - ((k+1)) < ns.length - k;omega) (fun _=>by kernel_rfl) rfl (by kernel_rfl)
 refine af.exit (aj.aU (aj.aU (aj.cK (NX (af.seq (SR ?_))))))
 refine gK 4 [(123,.slice A (ns.length) (c)),(124,vI ↑ns.length),(125,vI 0)] [(1,a_ 0 b1)] ?_
 refine NN (af.block ?_)
 refine af.loop (ι:=Nat×aI) (fun ((i,S1):Nat×aI)=>(i<=ns.length)/\(gD X ns i 0 S1)) (fun ((i,S1):Nat×aI)=>ns.length - i) (fun ((i,S1):Nat×aI)=>[(6,vP b7),(123,.slice A (ns.length) (c)),(124,vI ↑ns.length),(125,vI ↑i)]) (fun ((i,S1):Nat×aI)=>(x7 b1 A ns c b7 m3 t4 S1 L R)) (0,S) (idx:=[6,123,124,125]) (pk:=[0,1,2,3,4,5,6,7]) (show (0<=ns.length)/\(gD X ns 0 0 S) from ⟨Nat.zero_le _,by have h:=hB;rw [show k=ns.length by omega] at h;exact h.ah⟩) (fun _=>by kernel_rfl) rfl (by kernel_rfl) ?_
 rintro⟨i,S1⟩ ⟨hi,hE⟩
 show af _ _ _ _ [(6,vP b7),(123,.slice A (ns.length) (c)),(124,vI ↑ns.length),(125,vI ↑i)] (x7 b1 A ns c b7 m3 t4 S1 L R) _
 refine SR (gK 1 [(126,.bool (decide ((((i:Nat):Int):Int) < (((ns.length:Nat):Int):Int))))] [] ?_)
 refine NN (af.seq (af.aV (p:=(((i:Nat):Int):Int) < (((ns.length:Nat):Int):Int)) (fun _=>by kernel_rfl) (fun XL=>?_) (fun XL=>?_)))
 ·refine af.skip (NX (af.seq (af.block (SR ?_))))
  refine gN 4 (fun b16=>[(11,vP b16)]) (fun b16=>[(0,p_ ⟨[],some i,none,some ⟨(ax A),av A,none⟩,none⟩ [((i:Nat):Int)=((i:Nat):Int),i < ns.length,(⟨(ax A),av A,none⟩:Addr).spot=none,(A:Option Addr)=some ⟨(ax A),av A,none⟩] ⟨rfl,by omega,rfl,aF.hd hG (i:=i) (by omega),trivial⟩),(1,p_ ⟨[.old (.int .i64 ((nd ns i).id)),.old (.int .i64 ((nd ns i).kind)),.old (.int .i64 ((nd ns i).mode)),.old (.int .i64 ((nd ns i).uid)),.old (.int .i64 ((nd ns i).gid)),.old (.int .i64 ((nd ns i).sec)),.old (.int .i64 ((nd ns i).nano)),.old (.slice (Y.dA i) ((nd ns i).data.length) ((Y.dC i))),.old (.string (nd ns i).target),.old (.slice (Y.eA i) ((nd ns i).ah.length) ((Y.eC i)))],none,none,none,none⟩ [(Rd β ⟨(ax A),av A+i * 10+9,none⟩ (.slice (Y.eA i) ((nd ns i).ah.length) ((Y.eC i)))),(Rd β ⟨(ax A),av A+i * 10+8,none⟩ (.string (nd ns i).target)),(Rd β ⟨(ax A),av A+i * 10+7,none⟩ (.slice (Y.dA i) ((nd ns i).data.length) ((Y.dC i)))),(Rd β ⟨(ax A),av A+i * 10+6,none⟩ (.int .i64 ((nd ns i).nano))),(Rd β ⟨(ax A),av A+i * 10+5,none⟩ (.int .i64 ((nd ns i).sec))),(Rd β ⟨(ax A),av A+i * 10+4,none⟩ (.int .i64 ((nd ns i).gid))),(Rd β ⟨(ax A),av A+i * 10+3,none⟩ (.int .i64 ((nd ns i).uid))),(Rd β ⟨(ax A),av A+i * 10+2,none⟩ (.int .i64 ((nd ns i).mode))),(Rd β ⟨(ax A),av A+i * 10+1,none⟩ (.int .i64 ((nd ns i).kind))),(Rd β ⟨(ax A),av A+i * 10,none⟩ (.int .i64 ((nd ns i).id)))] ⟨aF.rd hG (i:=i) (by omega) (j:=9) rfl,aF.rd hG (i:=i) (by omega) (j:=8) rfl,aF.rd hG (i:=i) (by omega) (j:=7) rfl,aF.rd hG (i:=i) (by omega) (j:=6) rfl,aF.rd hG (i:=i) (by omega) (j:=5) rfl,aF.rd hG (i:=i) (by omega) (j:=4) rfl,aF.rd hG (i:=i) (by omega) (j:=3) rfl,aF.rd hG (i:=i) (by omega) (j:=2) rfl,aF.rd hG (i:=i) (by omega) (j:=1) rfl,aF.rd hG (i:=i) (by omega) (j:=0) rfl,trivial⟩),(3,A_ 8 b16 10)]) (fun _=>[]) (fun b16=>.blk b16 [vI ((nd ns i).id),vI ((nd ns i).kind),vI ((nd ns i).mode),vI ((nd ns i).uid),vI ((nd ns i).gid),vI ((nd ns i).sec),vI ((nd ns i).nano),.slice (Y.dA i) ((nd ns i).data.length) ((Y.dC i)),.string (nd ns i).target,.slice (Y.eA i) ((nd ns i).ah.length) ((Y.eC i))] 108) (fun b16=>?_)
  refine NS (gK 4 [(130,.slice (Y.eA i) ((nd ns i).ah.length) ((Y.eC i))),(131,vI ↑((nd ns i).ah.length)),(132,vI 0)] [(1,a_ 8 b16)] ?_)
  refine NN (af.block ?_)
  refine af.loop (ι:=Nat×aI) (fun ((j,S2):Nat×aI)=>(j<=(nd ns i).ah.length)/\(gD X ns i j S2)) (fun ((j,S2):Nat×aI)=>(nd ns i).ah.length - j) (fun ((j,S2):Nat×aI)=>(Lx b7 b16++Rt A ns c i Y j)) (fun ((j,S2):Nat×aI)=>([sH b16 ns i Y]++x7 b1 A ns c b7 m3 t4 S2 L R)) (0,S1) (idx:=[6,11,123,124,125,130,131,132]) (pk:=[8,0,1,2,3,4,5,6,7]) (show (0<=(nd ns i).ah.length)/\(gD X ns i 0 S1) from ⟨Nat.zero_le _,hE⟩) (fun _=>by kernel_rfl) rfl (by kernel_rfl) ?_
  rintro⟨j,S2⟩ ⟨hj,vV⟩
  show af _ _ _ _ (Lx b7 b16++Rt A ns c i Y j) ([sH b16 ns i Y]++x7 b1 A ns c b7 m3 t4 S2 L R) _
  refine SR (gK 1 [(133,.bool (decide ((((j:Nat):Int):Int) < ((((nd ns i).ah.length:Nat):Int):Int))))] [] ?_)
  refine NN (af.seq (af.aV (p:=(((j:Nat):Int):Int) < ((((nd ns i).ah.length:Nat):Int):Int)) (fun _=>by kernel_rfl) (fun XM=>?_) (fun XM=>?_)))
  ·have hj2:j < (nd ns i).ah.length:=by omega
   have hi2:i < ns.length:=by omega
   have XO:=vV.get hi2
   obtain⟨hes,hno,hk2⟩:=vV.look hok hi2 hj2
   have Uz:=vS hok hi2 hj2
   have Q0:aE.get S2.idx (nd ns i).id=some ⟨(fW (nd ns i)),2⟩:=by rw [XO];unfold qg;rw [hk2]
   have hge:aE.get S2.idx (ent ns i j).id=some (mJ ns (ent ns i j)):=by rw [← Uz.2];exact vV.get Uz.1
   have P6:=hok.ids i hi2
   have hiw:(Lit.int .i64 (nd ns i).id).wf=true:=WalkArith.wf_i64 (by omega)
   have YG:(Lit.int .i64 (ent ns i j).id).wf=true:=WalkArith.wf_i64 (by have:=hwf i hi2 j hj2;omega)
   have hld:=vV.live hok hi2
   have hlt:=vV.live hok Uz.1
   have hkd:(obj S2.O (fW (nd ns i))).kind=2:=(vV.inv.kind hld).trans hk2
   have hkt:(obj S2.O (mJ ns (ent ns i j)).k).kind=(mJ ns (ent ns i j)).kind:=vV.inv.kind hlt
   have h3:(mJ ns (ent ns i j)).kind=1\/(mJ ns (ent ns i j)).kind=2\/(mJ ns (ent ns i j)).kind=3:=(vV.inv.ob _ hlt).2.2
   have hlb:0<=(obj S2.O (mJ ns (ent ns i j)).k).links/\(obj S2.O (mJ ns (ent ns i j)).k).links<=8192:=vV.inv.lb hlt
   have hel:(obj S2.O (fW (nd ns i))).ah.length<=8192:=vV.inv.iL hld
   have hsz:=hnm i hi2 j hj2
   have hde:=hd i hi2
   have ZX:=vV.inv.hX
   refine af.skip (NX (af.seq (af.block (SR ?_))))
   refine gN 4 (fun b17=>[(13,vP b17)]) (fun b17=>[(0,p_ ⟨[],some j,none,some ⟨(ax (Y.eA i)),av (Y.eA i),none⟩,none⟩ [((j:Nat):Int)=((j:Nat):Int),j < (nd ns i).ah.length,(⟨(ax (Y.eA i)),av (Y.eA i),none⟩:Addr).spot=none,((Y.eA i):Option Addr)=some ⟨(ax (Y.eA i)),av (Y.eA i),none⟩] ⟨rfl,by omega,rfl,eG.hd (hG.ah i (by omega)) (i:=j) (by omega),trivial⟩),(1,p_ ⟨[.old (.string (en (nd ns i).ah j).name),.old (.int .i64 ((en (nd ns i).ah j).id))],none,none,none,none⟩ [(Rd β ⟨(ax (Y.eA i)),av (Y.eA i)+j * 2+1,none⟩ (.int .i64 ((en (nd ns i).ah j).id))),(Rd β ⟨(ax (Y.eA i)),av (Y.eA i)+j * 2,none⟩ (.string (en (nd ns i).ah j).name))] ⟨eG.rd (hG.ah i (by omega)) (i:=j) (by omega) (j:=1) rfl,eG.rd (hG.ah i (by omega)) (i:=j) (by omega) (j:=0) rfl,trivial⟩),(3,A_ 9 b17 2)]) (fun _=>[]) (fun b17=>.blk b17 [.string (en (nd ns i).ah j).name,vI ((en (nd ns i).ah j).id)] 110) (fun b17=>?_)
   refine NN (af.seq (af.cA (S:=[pF b7 m3 t4 S2.X,pI m3 L S2.idx,sH b16 ns i Y,.blk b17 [.string (en (nd ns i).ah j).name,vI ((en (nd ns i).ah j).id)] 110]) [0,1,2,3,4,5,6,7,8,9,10,11,12,13,14,15,16,17] 17 [2,3,0,9] (by kernel_rfl) (by kernel_rfl) rfl (by kernel_rfl) ?_))
   refine gR 11 [6,7,8,9,10,11,12,13,14,15,16,17] (Lx b7 b16++[(13,vP b17)]++Rt A ns c i Y j++[(139,.map (some m3)),(141,vI ((nd ns i).id))]) [0,1,2,3,4,5] [(3,a_ 0 b7),(5,a_ 2 b16)] ?_
   refine aS.dR 1 (d:=(some 142)) (t:=151) (K:=3) (E:=156) (b:=m3) (cnt:=S2.idx.length) (f:=(bE (bI L S2.idx))) (x:=(.tmp 139)) (ix:=(.tmp 141)) (key:=.int .i64 ((nd ns i).id)) (z:=.nilIface) (kl:=(.int .i64 (nd ns i).id)) (q:=(some (ez L ⟨(fW (nd ns i)),2⟩))) (by kernel_rfl) (by kernel_rfl) (fun _=>by kernel_rfl) (fun _=>by kernel_rfl) dG Tryz.underlying151 (fun _=>by kernel_rfl) (iK hiw) (by rw [fQ,Q0];rfl) (by kernel_rfl) ?_
   refine gR 1 [16,17] (Lx b7 b16++Rt A ns c i Y j++[(143,vP (L.b (fW (nd ns i)))),(145,.string (en (nd ns i).ah j).name),(149,.map (some m3)),(151,vI ((en (nd ns i).ah j).id))]) [7,8,9,10,11,12,13,14,15] [(2,a_ 3 b17),(6,a_ 0 b7),(8,a_ 3 b17)] ?_
   refine aS.dR 1 (d:=(some 152)) (t:=151) (K:=3) (E:=156) (b:=m3) (cnt:=S2.idx.length) (f:=(bE (bI L S2.idx))) (x:=(.tmp 149)) (ix:=(.tmp 151)) (key:=.int .i64 ((en (nd ns i).ah j).id)) (z:=.nilIface) (kl:=(.int .i64 (ent ns i j).id)) (q:=(some (ez L (mJ ns (ent ns i j))))) (by kernel_rfl) (by kernel_rfl) (fun _=>by kernel_rfl) (fun _=>by kernel_rfl) dG Tryz.underlying151 (fun _=>by kernel_rfl) (iK YG) (by rw [fQ,hge];rfl) (by kernel_rfl) ?_
   refine aS.last rfl rfl ?_
   refine gL [5,7] (J0 S2.O L (fW (nd ns i)) hkd (ent ns i j).name hsz hno (by omega) (mJ ns (ent ns i j)) hkt h3 (by omega)) ?_
   rintro _ _ ⟨rfl,rfl⟩
   refine NL (aj.np (NX (af.region ?_)))
   refine gC 8 [] [(3,a_ 4 b7),(4,p_ ⟨[],none,none,none,some (vI (S2.X.ah+1))⟩ [(Value.int .i64 (IntKind.wrap .i64 (S2.X.ah+1)))=(.int .i64 (S2.X.ah+1))] ⟨bB (by omega) (by omega) (by omega),trivial⟩),(7,a_ 4 b7)] [(4,[(8,vI (S2.X.ah+1))])] ?_
   refine NL (aj.aP (NX (af.region ?_)))
   refine gK 2 [(132,vI ↑(j+1))] [(0,p_ ⟨[],none,none,none,some (vI ↑(j+1))⟩ [(Value.int .i64 (IntKind.wrap .i64 (((j:Nat):Int)+1)))=(.int .i64 ↑(j+1))] ⟨bB (by omega) (by omega) (by omega),trivial⟩)] ?_
   refine NL (aj.eZ [(0,.abs (aH (bR ((lK ns S2 (nd ns i) (ent ns i j)).O) L))),(1,.abs (aH (dg ((lK ns S2 (nd ns i) (ent ns i j)).O) L))),(4,.blk b7 [vI ((lK ns S2 (nd ns i) (ent ns i j)).X.cN),vI ((lK ns S2 (nd ns i) (ent ns i j)).X.cB),vI ((lK ns S2 (nd ns i) (ent ns i j)).X.cH),vI ((lK ns S2 (nd ns i) (ent ns i j)).X.cS),vI ((lK ns S2 (nd ns i) (ent ns i j)).X.cZ),.map (some m3),vP t4,vI ((lK ns S2 (nd ns i) (ent ns i j)).X.last),vI ((lK ns S2 (nd ns i) (ent ns i j)).X.ah),vI ((lK ns S2 (nd ns i) (ent ns i j)).X.used)] 154),(5,.abs (aN Tryz.prog 3 m3 (bE (bI L (lK ns S2 (nd ns i) (ent ns i j)).idx)) ((lK ns S2 (nd ns i) (ent ns i j)).idx.length))),(6,.abs (dV 212 t4 (lK ns S2 (nd ns i) (ent ns i j)).X.cH (lK ns S2 (nd ns i) (ent ns i j)).aD (bI L (lK ns S2 (nd ns i) (ent ns i j)).us))),(7,.abs (aH (ct ((lK ns S2 (nd ns i) (ent ns i j)).O) L)))] (fun w hS=>by rw [show ct (lK ns S2 (nd ns i) (ent ns i j)).O L=ct S2.O L from Sq];exact hS) ?_)
   exact aj.turn ((j+1),(lK ns S2 (nd ns i) (ent ns i j))) (idx:=[6,11,123,124,125,130,131,132]) (pk:=[2,3,4,5,6,0,7,1,8]) (show (((j+1))<=(nd ns i).ah.length)/\(gD X ns i ((j+1)) ((lK ns S2 (nd ns i) (ent ns i j)))) from ⟨by omega,vV.step hok (by omega) (by omega)⟩) (by show (nd ns i).ah.length - ((j+1)) < (nd ns i).ah.length - j;omega) (fun _=>by kernel_rfl) rfl (by kernel_rfl)
  refine af.exit (aj.aU (aj.aU (aj.cK (aj.aP (NX (af.region ?_))))))
  refine gK 2 [(125,vI ↑(i+1))] [(0,p_ ⟨[],none,none,none,some (vI ↑(i+1))⟩ [(Value.int .i64 (IntKind.wrap .i64 (((i:Nat):Int)+1)))=(.int .i64 ↑(i+1))] ⟨bB (by omega) (by omega) (by omega),trivial⟩)] ?_
  refine NL ?_
  exact aj.turn ((i+1),S2) (idx:=[6,123,124,125]) (pk:=[1,2,3,4,5,6,7,8]) (show (((i+1))<=ns.length)/\(gD X ns ((i+1)) 0 S2) from ⟨by omega,by have h:=vV;rw [show j=(nd ns i).ah.length by omega] at h;exact h.next⟩) (by show ns.length - ((i+1)) < ns.length - i;omega) (fun _=>by kernel_rfl) rfl (by kernel_rfl)
 refine af.exit (aj.aU (aj.aU (aj.cK (NX (SR ?_)))))
 refine gK 3 [(4,vP b7),(5,vI 0)] [] ?_
 refine NN (af.ret ?_)
 exact RT (.tuple #[vP b7,vI 0]) [1,2,3,4,5,6,7] (.inr (.inr ⟨hcap,hok,S1,b7,m3,t4,L,by have h:=hE;rw [show i=ns.length by omega] at h;exact h,rfl,rfl⟩))
end
section
open Go.RowKit Go.Maps bC aE
theorem ug {b:UInt8} (h0:¬ b=0) (h1:¬ b=47) (h2:¬ b=46):bF ⟨#[b]⟩:=by
  refine⟨Nat.le_refl _,(by show 1<=255;decide),fun e=>h2 ?_,fun e=>?_,fun j hj=>?_⟩
  ·injection e with e
   have e:[b]=[46]:=congrArg Array.toList e
   injection e
  ·injection e with e
   have e:[b]=[46,46]:=congrArg Array.toList e
   injection e with _ e
   cases e
  have:j=0:=by have hj:j < 1:=hj;omega
  subst this
  show ¬ b.toNat=0/\¬ b.toNat=47
  exact⟨fun e=>h0 (UInt8.toNat_inj.1 e),fun e=>h1 (UInt8.toNat_inj.1 e)⟩
theorem uT:fL 0 0:=⟨by decide,by decide,by decide,by decide,by decide⟩
def Ij (room:Int):FM:=⟨9,room,9,0,0,0,0,0⟩
theorem St {room:Int} (h:0<=room/\room<=1099511627776):jQ (Ij room):=⟨by show (0:Int)<=9/\(9:Int)<=4096;decide,h,by show (0:Int)<=9/\(9:Int)<=1024;decide,uT⟩
section ops
variable {S:aI} {c:aB} {t:Th} {d:Nat}
theorem xE {O:bW} {us:Used Th} {h:Int} {name:ByteArray} {need:Int} (h1:aE.get us h=some t) (h2:t.kind=2) (h3:(obj O t.k).gone=false) (h4:bF name) (h5:bits BinOp.and .i64 (obj O t.k).mode need=need):dJ O us h name need=.ok t.k:=by
  unfold dJ
  rw [h1]
  simp only
  rw [if_pos h2,if_neg (by rw [h3];decide),if_pos h4,if_pos h5]
theorem Sv (hop:c.op=1) (h1:aE.get S.idx c.other=some t) (h2:t.kind=2) (h3:(S.us.length:Int) < S.X.cH):bK S c=({ S with O:=aO S.O t.k (fun o=>{ o with opens:=o.opens+1 }),us:=ins (least S.us) t S.us,aD:=max S.aD ((S.us.length:Int)+1) },{ c with answer:=least S.us,code:=0 }):=by
  unfold bK
  rw [sS (by exact hop)]
  unfold jk
  simp only
  rw [h1]
  simp only
  rw [if_pos h2,jf h3]
theorem Dl (hop:c.op=2) (ha:dJ S.O S.us c.handle c.name 64=.ok d) (hl:aT c.name (obj S.O d).ah=some t) (h2:t.kind=2) (h3:(S.us.length:Int) < S.X.cH):bK S c=({ S with O:=aO S.O t.k (fun o=>{ o with opens:=o.opens+1 }),us:=ins (least S.us) t S.us,aD:=max S.aD ((S.us.length:Int)+1) },{ c with answer:=least S.us,code:=0 }):=by
  unfold bK
  rw [rf (by exact hop)]
  unfold eV fB
  simp only
  rw [ha]
  simp only
  rw [hl]
  simp only
  rw [if_neg (by omega),if_neg (by omega),jf h3]
theorem Qj (hop:c.op=4) (ha:dJ S.O S.us c.handle c.name 192=.ok d) (hm:oe c.mode) (hl:aT c.name (obj S.O d).ah=none) (hr:Room S.X S.idx):bK S c=(fe S d c.name (bg S.X 2 c.mode),{ c with answer:=0,code:=0 }):=by
  unfold bK
  rw [sU (by exact hop)]
  unfold fU
  simp only
  rw [ha]
  simp only
  rw [if_pos hm]
  unfold fX cR
  rw [if_pos hl,if_pos hr,if_pos rfl]
theorem Qk (hop:c.op=13) (h1:aE.get S.us c.handle=some t):bK S c=({ S with
      X:={ S.X with used:=jO (iR S.O t.k) S.X.used t }
      O:=iR S.O t.k
      idx:=jj (iR S.O t.k) S.idx t
      us:=del c.handle S.us },{ c with answer:=0,code:=0 }):=by
  unfold bK
  rw [p6 (by exact hop)]
  unfold ja
  simp only
  rw [h1]
end ops
structure ZC (room:Int) (S:aI):Prop where
  inv:Inv S
  idx:S.idx=[(1,⟨1,2⟩),(2,⟨2,1⟩)]
  us:S.us=[]
  X:S.X=⟨9,room,9,0,0,2,1,0⟩
  o1:∃ l u,obj S.O 1=⟨1,493,0,0,0,0,l,0,false,2,[],⟨#[]⟩,[(⟨#[102]⟩,⟨2,1⟩)],u⟩
  o2:∃ u,obj S.O 2=⟨2,420,0,0,0,0,1,0,false,1,[],⟨#[]⟩,[],u⟩
theorem UA:bits BinOp.and .i64 493 192=192:=by kernel_rfl
theorem Dm:bits BinOp.and .i64 493 64=64:=by kernel_rfl
section chain
variable {room:Int} {S:aI}
def S1 (S:aI):aI:={ S with O:=aO S.O 1 (fun o=>{ o with opens:=o.opens+1 }),us:=[(1,⟨1,2⟩)],aD:=max S.aD 1 }
theorem XP:obj (S1 S).O 1={ obj S.O 1 with opens:=(obj S.O 1).opens+1 }:=rfl
theorem XQ:obj (S1 S).O 2=obj S.O 2:=rfl
structure ZY (room:Int) (ds:List UInt8) (S:aI):Prop where
  inv:Inv S
  idx:S.idx=[(1,⟨1,2⟩),(2,⟨2,1⟩)]
  us:S.us=[(1,⟨1,2⟩),(2,⟨2,1⟩)]
  X:S.X=⟨9,room,9,0,0,2,1,ds.length⟩
  o1:∃ l n u,obj S.O 1=⟨1,493,0,0,0,0,l,n,false,2,[],⟨#[]⟩,[(⟨#[102]⟩,⟨2,1⟩)],u⟩
  o2:∃ u,obj S.O 2=⟨2,420,0,0,0,0,1,1,false,1,ds,⟨#[]⟩,[],u⟩
structure Z0 (ds:List UInt8) (S:aI):Prop where
  inv:Inv S
  idx:S.idx=[(1,⟨1,2⟩),(2,⟨2,1⟩)]
  us:S.us=[(1,⟨1,2⟩),(2,⟨2,1⟩)]
  used:S.X.used=ds.length
  o2:∃ s z u,obj S.O 2=⟨2,420,0,0,s,z,0,1,true,1,ds,⟨#[]⟩,[],u⟩
end chain
end
section
open Go.RowKit Go.Maps bC aE
theorem Spec.Ru {P:Program} {β:Bs} {f:FuncId} {args:Array Value} {pre:List HP} {post:Value->List HP->Prop} {Ψ:Bs->Value->List HP->Prop} (h:Spec P β f args pre post) (yj:∀ v l,post v l->∃ l1 l2,l=l1++l2/\∀ β',qC β l2 β'->Ψ β' v l1):bw P β f args pre Ψ:=by
  intro A w hS
  refine (h A w hS).mono ?_
  rintro e w' ⟨v,l,h1,h2,h3⟩
  obtain⟨l1,l2,rfl,hl⟩:=yj v l h2
  have h4:Sat β (([.abs A]++l1)++l2) w':=by rw [List.append_assoc];exact Sat.turn h3
  obtain⟨β',g1,_,g3⟩:=h4.BA
  exact⟨β',v,l1,g1.le,h1,hl β' g1,Sat.turn g3⟩
section c
variable {β:Bs} {S S2:aI} {L:HL} {f m t:Nat} {c c2:aB}
end c
end
section
open Go.RowKit Go.Maps bC aE
theorem Sw {α:Type} {l:List α} {p:α->Bool} {i j:Nat} {a b:α} (hij:i < j) (ha:l[i]?=some a) (hb:l[j]?=some b) (pa:p a=true) (pb:p b=true):2<=l.countP p:=by
  have e:=List.take_append_drop j l
  rw [← e,List.countP_append]
  have h1:0 < (l.take j).countP p:=List.countP_pos_iff.2 ⟨a,List.mem_of_getElem? (by rw [List.getElem?_take,if_pos hij];exact ha),pa⟩
  have h2:0 < (l.drop j).countP p:=List.countP_pos_iff.2 ⟨b,List.mem_of_getElem? (i:=0) (by rw [List.getElem?_drop,Nat.add_zero];exact hb),pb⟩
  omega
theorem Ik {V:Type} {g:Int×V->Nat}:∀ {a b:Used V},dx g (a++b)=dx g a+dx g b
  | [],b=>(Nat.zero_add _).symm
  | p::r,b=>by
    show g p+dx g (r++b)=g p+dx g r+dx g b
    rw [Ik];omega
section at_
variable {S:aI} {i j:Nat}
theorem iM (hi:i < S.idx.length):nd (ay S) i=Ac S.O (bZ S i) (cI S i):=by
  unfold nd ay
  rw [List.getD_eq_getElem?_getD,List.getElem?_map,vM hi];rfl
theorem Ey (h:Inv0 S) (hij:i < j) (hj:j < S.idx.length):bZ S i < bZ S j:=by
  have h1:=G4 (S:=S) (show i < S.idx.length by omega)
  have h2:=G4 hj
  obtain⟨g1,e1⟩:=List.getElem?_eq_some_iff.1 h1
  obtain⟨g2,e2⟩:=List.getElem?_eq_some_iff.1 h2
  have:=List.pairwise_iff_getElem.1 h.rise i j g1 g2 hij
  rw [e1,e2] at this
  exact this
theorem xG (h:Inv0 S):cq (ay S):=fun i j hij hj=>by
  rw [dP] at hj
  rw [iM (by omega),iM hj]
  exact Ey h hij hj
theorem NR {t:Th} (hl:Live S.idx t):∃ i,i < S.idx.length/\cI S i=t/\bZ S i=(t.k:Int):=by
  obtain⟨i,hi,e⟩:=List.getElem_of_mem (get_mem hl)
  have h1:=vM hi
  rw [List.getElem?_eq_getElem hi,e] at h1
  injection h1 with h1
  injection h1 with h1 h2
  exact⟨i,hi,h2.symm,h1.symm⟩
theorem UB (h:Inv0 S) (hi:i < S.idx.length) (hj:j < S.idx.length) (e:bZ S i=bZ S j):i=j:=by
  rcases Nat.lt_trichotomy i j with h1|h1|h1
  ·have:=Ey h h1 hj;omega
  ·exact h1
  have:=Ey h h1 hi;omega
theorem qo (hi:i < S.idx.length) (hj:j < (nd (ay S) i).ah.length):j < (obj S.O (cI S i).k).ah.length/\ent (ay S) i j=⟨fD (obj S.O (cI S i).k).ah j,(obj S.O (mA (obj S.O (cI S i).k).ah j).k).id⟩:=by
  rw [iM hi] at hj
  have hj:j < ((obj S.O (cI S i).k).ah.map (lu S.O)).length:=hj
  rw [List.length_map] at hj
  refine⟨hj,?_⟩
  unfold ent en
  rw [iM hi]
  show ((obj S.O (cI S i).k).ah.map (lu S.O)).getD j default=_
  rw [List.getD_eq_getElem?_getD,List.getElem?_map,qb hj];rfl
theorem qU (h:Inv0 S) (hi:i < S.idx.length) (hj:j < (obj S.O (cI S i).k).ah.length):Live S.idx (mA (obj S.O (cI S i).k).ah j)/\bF (fD (obj S.O (cI S i).k).ah j)/\aT (fD (obj S.O (cI S i).k).ah j) (obj S.O (cI S i).k).ah=some (mA (obj S.O (cI S i).k).ah j)/\(cI S i).kind=2:=by
  have hl:=(lC h hi).1
  have hm:=List.mem_of_getElem? (qb hj)
  have h1:=h.ah _ hl _ hm
  refine⟨h1.2,h1.1,tQ (h.twice hl) hm,Classical.byContradiction fun hk=>?_⟩
  rw [(h.mt _ hl).ah (by rw [h.kind hl];exact hk)] at hj
  exact absurd hj (Nat.not_lt_zero j)
theorem rY (h:Inv0 S) (hi:i < S.idx.length) (hj:j < (nd (ay S) i).ah.length):∃ a,a < S.idx.length/\cI S a=mA (obj S.O (cI S i).k).ah j/\tgt (ay S) (ent (ay S) i j).id=a/\jm (ay S) (ent (ay S) i j).id=(a:Int):=by
  obtain⟨hj2,e⟩:=qo hi hj
  have hl:=(qU h hi hj2).1
  obtain⟨a,ha,h1,h2⟩:=NR hl
  have h3:jm (ay S) (ent (ay S) i j).id=(a:Int):=Gl (xG h) (by rw [dP];exact ha) (by
    rw [iM ha,e]
    show bZ S a=(obj S.O _).id
    rw [h2,(h.ob _ hl).1])
  exact⟨a,ha,h1,by unfold tgt;rw [h3];rfl,h3⟩
theorem Dn (hi:i < S.idx.length):(nd (ay S) i).kind=(cI S i).kind:=by rw [iM hi];rfl
theorem Sy (h:Inv0 S) (hi:i < S.idx.length):nX (nd (ay S) i):=by
  have hl:=(lC h hi).1
  have hk:=h.kind hl
  have h3:=(h.ob _ hl).2.2
  have hm:=h.mt _ hl
  rw [iM hi]
  refine⟨?_,hm.mode,hm.uid,hm.gid,hm.time,fun hn=>?_,fun hn=>?_,?_⟩
  ·show 1<=(cI S i).kind/\(cI S i).kind<=3
   omega
  ·show (obj S.O (cI S i).k).data.length=0
   rw [hm.data (by rw [hk];exact hn)];rfl
  ·show ((obj S.O (cI S i).k).ah.map _).length=0
   rw [hm.ah (by rw [hk];exact hn)];rfl
  show fq (cI S i).kind (obj S.O (cI S i).k).target
  rw [← hk];exact hm.target
theorem Fg (f:aY->Nat) (s:List aG->Nat->Nat) (h0:∀ ns,s ns 0=0) (hs:∀ k,k < S.idx.length->s (ay S) (k+1)=s (ay S) k+f (obj S.O (cI S k).k)):∀ k,k<=S.idx.length->s (ay S) k=dx (fun p=>f (obj S.O p.2.k)) (S.idx.take k)
  | 0,_=>by rw [h0];rfl
  | k+1,hk=>by
    rw [hs k hk,Fg f s h0 hs k (by omega),List.take_add_one,vM hk,Ik]
    rfl
theorem Il:dS (ay S) S.idx.length=tot S.idx S.O:=by
  have h:=Fg (S:=S) (fun o=>o.ah.length) dS (fun _=>rfl) (fun k hk=>by
    show dS (ay S) k+_=_
    rw [iM hk]
    show _+((obj S.O (cI S k).k).ah.map _).length=_
    rw [List.length_map]) S.idx.length (Nat.le_refl _)
  rw [List.take_length] at h
  exact h
theorem Sz (h:Inv0 S) {t:Th} (hl:Live S.idx t) (hk:t.kind=2) (hi:i < S.idx.length) {a b:Nat} (ha:a < (obj S.O (cI S i).k).ah.length) (hb:b < (obj S.O (cI S i).k).ah.length) (ea:mA (obj S.O (cI S i).k).ah a=t) (eb:mA (obj S.O (cI S i).k).ah b=t):a=b:=by
  have h1:=h.once t hl hk
  rw [h.links t hl] at h1
  have h2:(fun p:Int×Th=>(obj S.O p.2.k).ah.countP (fun e=>decide (e.2.k=t.k))) (bZ S i,cI S i)<=iT S.idx S.O t.k:=kC (g:=fun p:Int×Th=>(obj S.O p.2.k).ah.countP (fun e=>decide (e.2.k=t.k))) (get_at h hi)
  have h2:(obj S.O (cI S i).k).ah.countP (fun e=>decide (e.2.k=t.k))<=iT S.idx S.O t.k:=h2
  have key:∀ a b,a < b->b < (obj S.O (cI S i).k).ah.length->mA (obj S.O (cI S i).k).ah a=t->mA (obj S.O (cI S i).k).ah b=t->False:=fun a b hab hb ea eb=>by
    have:=Sw (p:=fun e:ByteArray×Th=>decide (e.2.k=t.k)) hab (qb (by omega)) (qb hb) (by simp [ea]) (by simp [eb])
    omega
  rcases Nat.lt_trichotomy a b with e|e|e
  ·exact (key a b e hb ea eb).elim
  ·exact e
  exact (key b a e ha eb ea).elim
theorem Inv0.Kf (h:Inv0 S):bp (ay S):=by
  obtain⟨dp,hdp⟩:=h.deep
  have hup:∀ {i j a:Nat},i < S.idx.length->j < (nd (ay S) i).ah.length->cI S a=mA (obj S.O (cI S i).k).ah j->(cI S a).kind=2->(obj S.O (cI S a).k).up=some (cI S i).k  :=fun {i j a} hi hj e hk=>by
    have hj2:=(qo hi hj).1
    obtain⟨h1,_,h3,h4⟩:=qU h hi hj2
    rw [← e] at h1 h3
    have hl:=(lC h hi).1
    have e2:cI S i=⟨(cI S i).k,2⟩:=by rw [← h4]
    rw [e2] at hl
    exact (h.up _ h1 _).2 ⟨hk,hl,_,h3⟩
  refine bp.Sn (by rw [dP];exact h.len) (fun i hi=>Sy h (by rw [dP] at hi;exact hi)) (fun i hi=>?_) (xG h) ?_ (fun i hi j hj=>?_) (fun i j i' j' g g' hi hi' e=>?_) (d:=fun i=>dp (cI S i).k) (fun i j g=>?_)
  ·rw [dP] at hi
   rw [iM hi]
   have h1:=h.idx _ _ (get_at h hi)
   have h2:=h.last
   show 1<=bZ S i/\bZ S i<=_
   omega
  ·rw [dP,Il]
   have:=h.total
   omega
  ·rw [dP] at hi
   obtain⟨hj2,e⟩:=qo hi hj
   obtain⟨a,ha,h1,h2,h3⟩:=rY h hi hj
   obtain⟨g1,g2,_⟩:=qU h hi hj2
   refine O0 (by omega) (by rw [e];exact g2) (fun h0=>?_)
   have e2:=(qo hi (show j - 1 < _ by omega)).2
   rw [e,e2]
   obtain⟨x1,y1⟩:=List.getElem?_eq_some_iff.1 (qb (show j - 1 < (obj S.O (cI S i).k).ah.length by omega))
   obtain⟨x2,y2⟩:=List.getElem?_eq_some_iff.1 (qb hj2)
   have:=List.pairwise_iff_getElem.1 (h.sorted _ (lC h hi).1) (j - 1) j x1 x2 (by omega)
   rw [y1,y2] at this
   exact this
  ·rw [dP] at hi hi'
   obtain⟨a,ha,h1,h2,_⟩:=rY h hi g.sF
   obtain⟨b,hb,h1',h2',_⟩:=rY h hi' g'.sF
   have e3:a=b:=by rw [← h2,← h2'];exact e
   subst e3
   have hk:(cI S a).kind=2:=by rw [← Dn ha,← h2];exact g.dir
   have u1:=hup hi g.sF h1 hk
   have u2:=hup hi' g'.sF h1' hk
   rw [u1] at u2
   have e4:bZ S i=bZ S i':=by rw [(lC h hi).2,(lC h hi').2];exact congrArg (fun z:Option Nat=>((z.getD 0:Nat):Int)) u2
   have e5:=UB h hi hi' e4
   subst e5
   exact⟨rfl,Sz h (lC h ha).1 hk hi (qo hi g.sF).1 (qo hi g'.sF).1 h1.symm h1'.symm⟩
  have hi:=g.Rp
  rw [dP] at hi
  obtain⟨a,ha,h1,h2,_⟩:=rY h hi g.sF
  have hk:(cI S a).kind=2:=by rw [← Dn ha,← h2];exact g.dir
  rw [h2]
  exact hdp _ _ (hup hi g.sF h1 hk)
end at_
end
section
open Go.RowKit bC aE Go.Maps
section ints
variable {β:Bs} {A:Option Addr} {l:List Int} {j:Nat}
theorem uU.get (h:cF β A (ints l)) (hj:j < l.length):A=some ⟨ax A,av A,none⟩/\Rd β ⟨ax A,av A+j * 1,none⟩ (.int .i64 (l.getD j 0)):=by
  rw [Nat.mul_one]
  refine h j _ ?_
  unfold ints
  rw [List.getElem?_map,List.getElem?_eq_getElem hj,List.getD_eq_getElem?_getD,List.getElem?_eq_getElem hj];rfl
theorem uU.hd (h:cF β A (ints l)) (hj:j < l.length):A=some ⟨ax A,av A,none⟩:=(uU.get h hj).1
theorem uU.rd (h:cF β A (ints l)) (hj:j < l.length):Rd β ⟨ax A,av A+j * 1,none⟩ (.int .i64 (l.getD j 0)):=(uU.get h hj).2
end ints
theorem Ql {S:aI} (h:Inv0 S):∀ i,i < (ay S).length->(nd (ay S) i).data.length<=140737488355328/\(nd (ay S) i).ah.length<=1048576:=fun i hi=>by
  rw [dP] at hi
  have h1:(obj S.O (cI S i).k).data.length<=bytes S.idx S.O:=kC (g:=fun p:Int×Th=>(obj S.O p.2.k).data.length) (get_at h hi)
  have h2:(obj S.O (cI S i).k).ah.length<=tot S.idx S.O:=kC (g:=fun p:Int×Th=>(obj S.O p.2.k).ah.length) (get_at h hi)
  have h3:=h.used
  have h4:=h.total
  rw [iM hi]
  refine⟨by show (obj S.O (cI S i).k).data.length<=_;omega,?_⟩
  show ((obj S.O (cI S i).k).ah.map _).length<=_
  rw [List.length_map]
  omega
theorem x9 {β:Bs} (A:Option Addr) (c:Nat) (ns:List aG) (L:Lay) (hG:aF β A ns L) (hl:ns.length<=1048576) (hd:∀ i,i < ns.length->(nd ns i).data.length<=1048576/\(nd ns i).ah.length<=1048576) :
    Spec Tryz.prog β 23 #[.agg #[.slice A ns.length c]] [] (fun v l=>∃ B cap,v=.agg #[.slice B ns.length cap]/\l=[.abs (lE β (fun β'=>∃ K,aF β' B ns K))]):=
  (bw.Q5 (ι:=Option Addr×Nat) (vv:=fun x=>.agg #[.slice x.1 ns.length x.2]) (ll:=fun _=>[]) (Φ:=fun x β'=>∃ K,aF β' x.1 ns K)
    ((Gi A c ns L hG hl hd).mono (by rintro β' v l _ ⟨B,cap,K,rfl,rfl,h⟩;exact⟨(B,cap),rfl,rfl,K,h⟩))).mono (by rintro v l ⟨⟨B,cap⟩,rfl,rfl⟩;exact⟨B,cap,rfl,rfl⟩)
end
section
open Go.RowKit bC aE Go.Maps
abbrev uh (X:FM) (ns:List aG):={ S:aI // gD X ns ns.length 0 S }
theorem BL (us:Used Th):us.length=(keys us).length:=(List.length_map ..).symm
theorem NT {S:aI} (h:Inv0 S):∀ i,i < (ay S).length->∀ j,j < (nd (ay S) i).ah.length->-9223372036854775808<=(ent (ay S) i j).id/\(ent (ay S) i j).id<=9223372036854775807:=fun i hi j hj=>by
  rw [dP] at hi
  obtain⟨hj2,e⟩:=qo hi hj
  have hl:=(qU h hi hj2).1
  have h1:=(h.ob _ hl).1
  have h2:=h.idx _ _ hl
  have h3:=h.last
  rw [e]
  show -9223372036854775808<=(obj S.O _).id/\(obj S.O _).id<=_
  omega
theorem NU {S:aI} (h:Inv0 S):∀ i,i < (ay S).length->∀ j,j < (nd (ay S) i).ah.length->(ent (ay S) i j).name.size<=1048576:=fun i hi j hj=>by
  rw [dP] at hi
  obtain⟨hj2,e⟩:=qo hi hj
  rw [e]
  exact Nat.le_trans (qU h hi hj2).2.1.2.1 (by decide)
theorem Im {S:aI} (h:Inv0 S):(ay S).length<=1048576:=by
  rw [dP]
  have:=h.len
  omega
end
section
open Go.RowKit Go.Maps bC aE
section m
variable {β:Bs} {ns:List aG} {Y:Lay} {X:FM} {root:Int}
theorem Qm (hcap:jQ X) (hok:bp ns) (A:Option Addr) (c:Nat) (hG:aF β A ns Y) (hB:iA ns 1048576) :
    Spec Tryz.prog β 48 #[.agg #[.slice A ns.length c],.agg #[.int .i64 X.cN,.int .i64 X.cB,.int .i64 X.cH,.int .i64 X.cS,.int .i64 X.cZ]] [] (fun v l=>∃ (S:uh X ns) (f m t:Nat) (L:HL),v=.tuple #[.pointer (some ⟨f,0,none⟩),.int .i64 0]/\l=pA f m t L S.1):=
  (Ke A c ns Y hG (zT hB) (FQ hB) (Mu hB) (Mv hB) X).mono (by
    rintro v l (⟨h,_⟩|⟨_,h,_⟩|⟨_,_,h⟩)
    ·exact absurd hcap h
    ·exact absurd hok h
    obtain⟨S,f,m,t,L,h1,h2,h3⟩:=h
    exact⟨⟨S,h1⟩,f,m,t,L,h2,h3⟩)
theorem Qn (Qo:¬ (jQ X/\bp ns)) (A:Option Addr) (c:Nat) (hG:aF β A ns Y) (hB:iA ns 1048576) :
    Spec Tryz.prog β 48 #[.agg #[.slice A ns.length c],.agg #[.int .i64 X.cN,.int .i64 X.cB,.int .i64 X.cH,.int .i64 X.cS,.int .i64 X.cZ]] [] (fun v l=>v=.tuple #[.pointer none,.int .i64 (dh X ns root)]/\l=[]):=
  (Ke A c ns Y hG (zT hB) (FQ hB) (Mu hB) (Mv hB) X).mono (by
    rintro v l (⟨h,h1,h2⟩|⟨h,h',h1,h2⟩|⟨h1,h2,_⟩)
    ·exact⟨by rw [Dg h];exact h1,h2⟩
    ·exact⟨by rw [zq h h'];exact h1,h2⟩
    exact absurd ⟨h1,h2⟩ Qo)
theorem Dp (Qo:¬ (jQ X/\bp ns)):dh X ns root≠0:=fun h=>Qo (Fe h)
theorem NV {i:Nat} (hi:t7 ns root i) (A:Option Addr) (c:Nat) (hG:aF β A ns Y) (hB:iA ns 1048576) (b:Nat) :
    Spec Tryz.prog β 49 #[.slice A ns.length c,.func (.func 50) #[] #[.pointer (some ⟨b,0,none⟩)]] [.blk b [.int .i64 root] 3] (fun v l=>v=.int .i64 (i:Int)/\l=[.blk b [.int .i64 root] 3]):=
  (H7 A c ns Y hG (zT hB) b root).mono (by
    rintro v l (⟨j,hj,h1,h2⟩|⟨h,_⟩)
    ·have e:i=j:=by
       obtain⟨a1,a2,a3⟩:=hi
       obtain⟨b1,b2,b3⟩:=hj
       rcases Nat.lt_trichotomy i j with h|h|h
       ·exact absurd a2 (b3 i h)
       ·exact h
       exact absurd b2 (a3 j h)
     subst e
     exact⟨h1,h2⟩
    exact absurd hi.2.1 (h i hi.1))
theorem Qp (hi:∀ q,q < ns.length->(nd ns q).id≠root) (A:Option Addr) (c:Nat) (hG:aF β A ns Y) (hB:iA ns 1048576) (b:Nat) :
    Spec Tryz.prog β 49 #[.slice A ns.length c,.func (.func 50) #[] #[.pointer (some ⟨b,0,none⟩)]] [.blk b [.int .i64 root] 3] (fun v l=>v=.int .i64 (-1)/\l=[.blk b [.int .i64 root] 3]):=
  (H7 A c ns Y hG (zT hB) b root).mono (by
    rintro v l (⟨j,hj,_⟩|⟨_,h1,h2⟩)
    ·exact absurd hj.2.1 (hi j hj.1)
    exact⟨h1,h2⟩)
end m
end
end Go.Proofs.YtiehgnlnofhbaaaGreatDoor
