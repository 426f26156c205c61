/-
  PROVED HERE: lemmas and contracts of functions (texts of this repo, joined; what the claim does not use is left out): YL, Uj, Vq0, ShelfU, GKu, GFb, GBegin, GUd, GUnder, Uk, Rx, YU, Zg, Ro, YZ.
  CONDITIONS: as the theorems say.
-/
import Derived.Test.YtiehgnlnofhbaaaGreatDoorMRunder5
import Derived.ArgAppend
import Derived.Shelf.SlGeneric
import Derived.Shelf.SlIterI.Nil
import Derived.Shelf.SortM.Plain
import Derived.Shelf.SortM.SortNone
import Derived.Ground.GgzProg
import Derived.Ground.SlgmProg
import Derived.Test.YtiehgnlnofhbaaaGreatDoorProg
import Derived.ChangeMaps5
import Derived.LaidLaws
import Derived.LaidHandle
import Derived.Lib.LaidTab
import Derived.Test.YtiehgnlnofhbaaaGreatDoorRows
import Derived.Shelf.Vars
import Derived.Deep.DeepLaidRun
import Derived.Stop.Joined
set_option maxRecDepth 100000
set_option maxHeartbeats 4000000
namespace Go.Proofs.YtiehgnlnofhbaaaGreatDoor
section
open Go.RowKit Go.Maps bC aE
attribute [local irreducible] ak aW af aj
theorem IJ {β:Bs} (A:Option Addr) (c:Nat) (ns:List aG) (L:Lay) (hG:aF β A ns L) (hB:Cu ns) (id:Int) (hz:kX id) :
    Spec Tryz.prog β 19 #[.agg #[.slice A ns.length c],vI id] [] (fun v l=>v=.tuple #[vI (kO ns id).1,vI (kO ns id).2]/\l=[]):=by
 refine Spec.enter Tryz.func19 rfl Tryz.ntmps19 (Nat.le_of_ble_eq_true rfl) (fun R=>?_)
 refine SR (gN 3 (fun b1=>[(2,vP b1)]) (fun _=>[]) (fun _=>[]) (fun b1=>.blk b1 [.slice A (ns.length) (c)] 24) (fun b1=>?_))
 refine NS (gK 1 [(14,.agg #[.slice A (ns.length) (c)])] [(0,a_ 1 b1)] ?_)
 refine gL [] (DW A c ns L hG hB.hl hB.hd hB.hwf hB.hnm) ?_
 rintro _ _ (⟨mb,rfl,hok,rfl⟩|⟨m,rfl,hok,rfl⟩)
 ·refine gK 5 [(6,.map (some mb)),(7,.bool true)] [] ?_
  refine NN (af.seq (SR (gK 2 [(19,.bool false)] [] ?_)))
  refine NN (CF (af.skip (NX (af.seq (SR (gK 2 [(20,.map (some mb)),(21,vI (id))] [] ?_))))))
  by_cases hat:0<=jm ns id
  ·have htl:=jB hat
   refine ak.dR 0 (d:=(some 22)) (t:=98) (K:=3) (E:=99) (b:=mb) (n:=ns.length) (f:=(mf (bf A ns ns.length))) (x:=(.tmp 20)) (ix:=(.tmp 21)) (key:=.int .i64 (id)) (z:=.pointer none) (kl:=(.int .i64 id)) (r:=(some (.pointer (some ⟨(ax A),av A+(tgt ns id) * 10,none⟩)))) (fun _=>by kernel_rfl) (by kernel_rfl) (fun _=>by kernel_rfl) (fun _=>by kernel_rfl) dG Tryz.underlying98 (fun _=>by kernel_rfl) (kQ hz.1 hz.2) (FN hat htl.1) ?_
   refine gK 1 [(23,.bool false)] [] ?_
   refine NN (CF (af.skip (NX (SR (gK 1 [(8,vI 0)] [] ?_)))))
   refine NN (af.seq (SR (gK 4 [(25,.slice A (ns.length) (c)),(26,vI ↑ns.length),(27,vI 0)] [(1,a_ 2 b1)] ?_)))
   refine NN (af.block ?_)
   refine af.loop (ι:=Nat) (fun (i:Nat)=>(i<=ns.length)) (fun (i:Nat)=>ns.length - i) (fun (i:Nat)=>[(1,vI (id)),(8,vI ↑(fZ ns id i)),(25,.slice A (ns.length) (c)),(26,vI ↑ns.length),(27,vI ↑i)]) (fun (i:Nat)=>[.abs R]) 0 (idx:=[1,8,25,26,27]) (pk:=[1]) (show (0<=ns.length) from Nat.zero_le _) (fun _=>by kernel_rfl) rfl (by kernel_rfl) ?_
   rintro i hi
   show af _ _ _ _ [(1,vI (id)),(8,vI ↑(fZ ns id i)),(25,.slice A (ns.length) (c)),(26,vI ↑ns.length),(27,vI ↑i)] [.abs R] _
   have hcb:=Oo hok.sum id hi
   have hll:=hB.hl
   refine SR (gK 1 [(28,.bool (decide ((((i:Nat):Int):Int) < (((ns.length:Nat):Int):Int))))] [] ?_)
   refine NN (af.seq (af.aV (p:=(((i:Nat):Int):Int) < (((ns.length:Nat):Int):Int)) (fun _=>by kernel_rfl) (fun Ff=>?_) (fun Ff=>?_)))
   ·refine af.skip (NX (af.seq (af.block (SR ?_))))
    refine gN 4 (fun b2=>[(10,vP b2)]) (fun b2=>[(0,p_ ⟨[],some i,none,some ⟨(ax A),av A,none⟩,none⟩ [((i:Nat):Int)=((i:Nat):Int),i < ns.length,(⟨(ax A),av A,none⟩:Addr).spot=none,(A:Option Addr)=some ⟨(ax A),av A,none⟩] ⟨rfl,by omega,rfl,aF.hd hG (i:=i) (by omega),trivial⟩),(1,p_ ⟨[.old (.int .i64 ((nd ns i).id)),.old (.int .i64 ((nd ns i).kind)),.old (.int .i64 ((nd ns i).mode)),.old (.int .i64 ((nd ns i).uid)),.old (.int .i64 ((nd ns i).gid)),.old (.int .i64 ((nd ns i).sec)),.old (.int .i64 ((nd ns i).nano)),.old (.slice (L.dA i) ((nd ns i).data.length) ((L.dC i))),.old (.string (nd ns i).target),.old (.slice (L.eA i) ((nd ns i).ah.length) ((L.eC i)))],none,none,none,none⟩ [(Rd β ⟨(ax A),av A+i * 10+9,none⟩ (.slice (L.eA i) ((nd ns i).ah.length) ((L.eC i)))),(Rd β ⟨(ax A),av A+i * 10+8,none⟩ (.string (nd ns i).target)),(Rd β ⟨(ax A),av A+i * 10+7,none⟩ (.slice (L.dA i) ((nd ns i).data.length) ((L.dC i)))),(Rd β ⟨(ax A),av A+i * 10+6,none⟩ (.int .i64 ((nd ns i).nano))),(Rd β ⟨(ax A),av A+i * 10+5,none⟩ (.int .i64 ((nd ns i).sec))),(Rd β ⟨(ax A),av A+i * 10+4,none⟩ (.int .i64 ((nd ns i).gid))),(Rd β ⟨(ax A),av A+i * 10+3,none⟩ (.int .i64 ((nd ns i).uid))),(Rd β ⟨(ax A),av A+i * 10+2,none⟩ (.int .i64 ((nd ns i).mode))),(Rd β ⟨(ax A),av A+i * 10+1,none⟩ (.int .i64 ((nd ns i).kind))),(Rd β ⟨(ax A),av A+i * 10,none⟩ (.int .i64 ((nd ns i).id)))] ⟨aF.rd hG (i:=i) (by omega) (j:=9) rfl,aF.rd hG (i:=i) (by omega) (j:=8) rfl,aF.rd hG (i:=i) (by omega) (j:=7) rfl,aF.rd hG (i:=i) (by omega) (j:=6) rfl,aF.rd hG (i:=i) (by omega) (j:=5) rfl,aF.rd hG (i:=i) (by omega) (j:=4) rfl,aF.rd hG (i:=i) (by omega) (j:=3) rfl,aF.rd hG (i:=i) (by omega) (j:=2) rfl,aF.rd hG (i:=i) (by omega) (j:=1) rfl,aF.rd hG (i:=i) (by omega) (j:=0) rfl,trivial⟩),(3,A_ 1 b2 10)]) (fun _=>[]) (fun b2=>.blk b2 [vI ((nd ns i).id),vI ((nd ns i).kind),vI ((nd ns i).mode),vI ((nd ns i).uid),vI ((nd ns i).gid),vI ((nd ns i).sec),vI ((nd ns i).nano),.slice (L.dA i) ((nd ns i).data.length) ((L.dC i)),.string (nd ns i).target,.slice (L.eA i) ((nd ns i).ah.length) ((L.eC i))] 108) (fun b2=>?_)
    refine NS (gK 4 [(32,.slice (L.eA i) ((nd ns i).ah.length) ((L.eC i))),(33,vI ↑((nd ns i).ah.length)),(34,vI 0)] [(1,a_ 1 b2)] ?_)
    refine NN (af.block ?_)
    refine af.loop (ι:=Nat) (fun (j:Nat)=>(j<=(nd ns i).ah.length)) (fun (j:Nat)=>(nd ns i).ah.length - j) (fun (j:Nat)=>[(1,vI (id)),(8,vI ↑(fZ ns id i+ia (nd ns i).ah id j)),(25,.slice A (ns.length) (c)),(26,vI ↑ns.length),(27,vI ↑i),(32,.slice (L.eA i) ((nd ns i).ah.length) ((L.eC i))),(33,vI ↑((nd ns i).ah.length)),(34,vI ↑j)]) (fun (j:Nat)=>[.abs R]) 0 (idx:=[1,8,25,26,27,32,33,34]) (pk:=[0]) (show (0<=(nd ns i).ah.length) from Nat.zero_le _) (fun _=>by kernel_rfl) rfl (by kernel_rfl) ?_
    rintro j hj
    show af _ _ _ _ [(1,vI (id)),(8,vI ↑(fZ ns id i+ia (nd ns i).ah id j)),(25,.slice A (ns.length) (c)),(26,vI ↑ns.length),(27,vI ↑i),(32,.slice (L.eA i) ((nd ns i).ah.length) ((L.eC i))),(33,vI ↑((nd ns i).ah.length)),(34,vI ↑j)] [.abs R] _
    have hrb:=Fs (nd ns i).ah id j
    have hd3:=hB.hd i (by omega)
    refine SR (gK 1 [(35,.bool (decide ((((j:Nat):Int):Int) < ((((nd ns i).ah.length:Nat):Int):Int))))] [] ?_)
    refine NN (af.seq (af.aV (p:=(((j:Nat):Int):Int) < ((((nd ns i).ah.length:Nat):Int):Int)) (fun _=>by kernel_rfl) (fun zx=>?_) (fun zx=>?_)))
    ·refine af.skip (NX (af.seq (af.block (SR ?_))))
     refine gN 4 (fun b3=>[(12,vP b3)]) (fun b3=>[(0,p_ ⟨[],some j,none,some ⟨(ax (L.eA i)),av (L.eA i),none⟩,none⟩ [((j:Nat):Int)=((j:Nat):Int),j < (nd ns i).ah.length,(⟨(ax (L.eA i)),av (L.eA i),none⟩:Addr).spot=none,((L.eA i):Option Addr)=some ⟨(ax (L.eA i)),av (L.eA i),none⟩] ⟨rfl,by omega,rfl,eG.hd (hG.ah i (by omega)) (i:=j) (by omega),trivial⟩),(1,p_ ⟨[.old (.string (en (nd ns i).ah j).name),.old (.int .i64 ((en (nd ns i).ah j).id))],none,none,none,none⟩ [(Rd β ⟨(ax (L.eA i)),av (L.eA i)+j * 2+1,none⟩ (.int .i64 ((en (nd ns i).ah j).id))),(Rd β ⟨(ax (L.eA i)),av (L.eA i)+j * 2,none⟩ (.string (en (nd ns i).ah j).name))] ⟨eG.rd (hG.ah i (by omega)) (i:=j) (by omega) (j:=1) rfl,eG.rd (hG.ah i (by omega)) (i:=j) (by omega) (j:=0) rfl,trivial⟩),(3,A_ 1 b3 2)]) (fun _=>[]) (fun b3=>.blk b3 [.string (en (nd ns i).ah j).name,vI ((en (nd ns i).ah j).id)] 110) (fun b3=>?_)
     refine NS (gK 4 [(41,.bool (decide (((en (nd ns i).ah j).id:Int)=(id:Int))))] [(1,a_ 1 b3)] ?_)
     refine NN (af.aV (p:=((en (nd ns i).ah j).id:Int)=(id:Int)) (fun _=>by kernel_rfl) (fun vR=>?_) (fun vR=>?_))
     ·refine af.region (gK 3 [(8,vI ↑((fZ ns id i+ia (nd ns i).ah id j)+1))] [(1,p_ ⟨[],none,none,none,some (vI ↑((fZ ns id i+ia (nd ns i).ah id j)+1))⟩ [(Value.int .i64 (IntKind.wrap .i64 (((fZ ns id i+ia (nd ns i).ah id j:Nat):Int)+1)))=(.int .i64 ↑((fZ ns id i+ia (nd ns i).ah id j)+1))] ⟨bB (by omega) (by omega) (by omega),trivial⟩)] ?_)
      refine NL (aj.aP (NX (af.region ?_)))
      refine ak.slot 8 (.int .i64 ↑((fZ ns id i+ia (nd ns i).ah id j)+1)) (.int .i64 ↑(fZ ns id i+ia (nd ns i).ah id (j+1))) (fun _=>by kernel_rfl) (by rw [← LO vR,Nat.add_assoc]) ?_
      refine gK 2 [(34,vI ↑(j+1))] [(0,p_ ⟨[],none,none,none,some (vI ↑(j+1))⟩ [(Value.int .i64 (IntKind.wrap .i64 (((j:Nat):Int)+1)))=(.int .i64 ↑(j+1))] ⟨bB (by omega) (by omega) (by omega),trivial⟩)] ?_
      refine NL ?_
      exact aj.turn ((j+1)) (idx:=[1,8,25,26,27,32,33,34]) (pk:=[0]) (show (((j+1))<=(nd ns i).ah.length) from (by omega)) (by show (nd ns i).ah.length - ((j+1)) < (nd ns i).ah.length - j;omega) (fun _=>by kernel_rfl) rfl (by kernel_rfl)
     refine af.skip (aj.aP (NX (af.region ?_)))
     refine ak.slot 8 (.int .i64 ↑(fZ ns id i+ia (nd ns i).ah id j)) (.int .i64 ↑(fZ ns id i+ia (nd ns i).ah id (j+1))) (fun _=>by kernel_rfl) (by rw [← Bc vR]) ?_
     refine gK 2 [(34,vI ↑(j+1))] [(0,p_ ⟨[],none,none,none,some (vI ↑(j+1))⟩ [(Value.int .i64 (IntKind.wrap .i64 (((j:Nat):Int)+1)))=(.int .i64 ↑(j+1))] ⟨bB (by omega) (by omega) (by omega),trivial⟩)] ?_
     refine NL ?_
     exact aj.turn ((j+1)) (idx:=[1,8,25,26,27,32,33,34]) (pk:=[0]) (show (((j+1))<=(nd ns i).ah.length) from (by omega)) (by show (nd ns i).ah.length - ((j+1)) < (nd ns i).ah.length - j;omega) (fun _=>by kernel_rfl) rfl (by kernel_rfl)
    refine af.exit (aj.aU (aj.aU (aj.cK (aj.aP (NX (af.region ?_))))))
    refine ak.slot 8 (.int .i64 ↑(fZ ns id i+ia (nd ns i).ah id j)) (.int .i64 ↑(fZ ns id (i+1))) (fun _=>by kernel_rfl) (by rw [fZ,show j=(nd ns i).ah.length by omega]) ?_
    refine gK 2 [(27,vI ↑(i+1))] [(0,p_ ⟨[],none,none,none,some (vI ↑(i+1))⟩ [(Value.int .i64 (IntKind.wrap .i64 (((i:Nat):Int)+1)))=(.int .i64 ↑(i+1))] ⟨bB (by omega) (by omega) (by omega),trivial⟩)] ?_
    refine NL ?_
    exact aj.turn ((i+1)) (idx:=[1,8,25,26,27]) (pk:=[0]) (show (((i+1))<=ns.length) from (by omega)) (by show ns.length - ((i+1)) < ns.length - i;omega) (fun _=>by kernel_rfl) rfl (by kernel_rfl)
   refine af.exit (aj.aU (aj.aU (aj.cK (NX (SR ?_)))))
   refine gK 3 [(4,vI ↑(fZ ns id i)),(5,vI 0)] [] ?_
   refine NN (af.ret ?_)
   exact RT (.tuple #[vI ↑(fZ ns id i),vI 0]) [0] (⟨by rw [Fu hok hat,show ns.length=i by omega],rfl⟩)
  refine ak.dR 0 (d:=(some 22)) (t:=98) (K:=3) (E:=99) (b:=mb) (n:=ns.length) (f:=(mf (bf A ns ns.length))) (x:=(.tmp 20)) (ix:=(.tmp 21)) (key:=.int .i64 (id)) (z:=.pointer none) (kl:=(.int .i64 id)) (r:=none) (fun _=>by kernel_rfl) (by kernel_rfl) (fun _=>by kernel_rfl) (fun _=>by kernel_rfl) dG Tryz.underlying98 (fun _=>by kernel_rfl) (kQ hz.1 hz.2) (DV hat) ?_
  refine gK 1 [(23,.bool true)] [] ?_
  refine NN (CT (SR (gK 2 [(4,vI 0),(5,vI 141)] [] ?_)))
  refine NN (af.ret (aj.aq ?_))
  exact RT (.tuple #[vI 0,vI 141]) [1] (⟨by rw [Jw hok hat],rfl⟩)
 refine gK 5 [(6,m),(7,.bool false)] [] ?_
 refine NN (af.seq (SR (gK 2 [(19,.bool true)] [] ?_)))
 refine NN (CT (SR (gK 2 [(4,vI 0),(5,vI 140)] [] ?_)))
 refine NN (af.ret (aj.aq ?_))
 exact RT (.tuple #[vI 0,vI 140]) [0] (⟨by rw [LQ hok],rfl⟩)
end
section
open Go.RowKit Go.Maps bC aE
section b
variable {O O':bW} {X:FM} {r k d to:Nat} {name toName:ByteArray} {t:Th} {S S':aI}
theorem QC (h:∀ x j,(obj O x).up=some j->(obj O' x).up=some j) (hb:fV O r k):fV O' r k:=wV h hb
theorem oV (h:∀ x,(obj O' x).up=(obj O x).up) (hb:fV O r k):fV O' r k:=wV (fun x e q=>by rw [h];exact q) hb
theorem uY:(obj (cO X O d name t) k).up=if k=t.k/\t.kind=2 then some d else (obj O k).up:=by
  unfold cO pY
  refine Eq.trans (cE (g:=aY.up) (fun _=>rfl)) ?_
  unfold oz
  simp only
  by_cases h2:t.kind=2
  ·rw [if_pos h2,jI]
   by_cases hk:k=t.k
   ·rw [if_pos hk,if_pos ⟨hk,h2⟩]
   rw [if_neg hk,if_neg (fun h=>hk h.1)]
   exact Eq.trans (cE (g:=aY.up) (fun _=>rfl)) (cE (g:=aY.up) (fun _=>rfl))
  rw [if_neg h2,if_neg (fun h=>h2 h.2)]
  exact Eq.trans (cE (g:=aY.up) (fun _=>rfl)) (cE (g:=aY.up) (fun _=>rfl))
theorem zE:(obj (aQ X O d name t) k).up=(obj O k).up:=dF (g:=aY.up) (fun _ _=>rfl) (fun _ _=>rfl) (fun _ _ _=>rfl)
theorem oh:(obj (aQ X O d name t) k).gone=(obj O k).gone:=dF (g:=aY.gone) (fun _ _=>rfl) (fun _ _=>rfl) (fun _ _ _=>rfl)
theorem rz:(obj (cO X O d name t) k).gone=(obj O k).gone:=mh (g:=aY.gone) (fun _ _=>rfl) (fun _ _=>rfl) (fun _ _ _=>rfl) (fun _ _=>rfl)
def gh (r:Nat) (S S':aI):Prop:=S'.us=S.us/\∀ k,Live S.idx ⟨k,2⟩->(fV S.O r k->fV S'.O r k\/(obj S'.O k).gone=true)/\((obj S.O k).gone=true->(obj S'.O k).gone=true)
theorem gh.refl:gh r S S:=⟨rfl,fun _ _=>⟨.inl,id⟩⟩
theorem gh.same (hu:S'.us=S.us) (h1:∀ x,(obj S'.O x).up=(obj S.O x).up) (h2:∀ x,(obj S.O x).gone=true->(obj S'.O x).gone=true):gh r S S':=⟨hu,fun k _=>⟨fun hb=>.inl (oV h1 hb),h2 k⟩⟩
theorem gh.add (hI:Inv S) {o:aY}:gh r S (fe S d name o):=by
  have hnew:∀ x j,(obj S.O x).up=some j->x≠bG S.X:=fun x j e q=>by
    have h1:=pq hI.toInv0
    have h2:=(hI.dead x (fun t ht e2=>by have:=(hI.idx _ _ ht).2.2;omega)).2
    rw [h2] at e;cases e
  refine⟨rfl,fun k hk=>⟨fun hb=>.inl (QC (fun x j e=>?_) hb),fun hg=>?_⟩⟩
  ·show (obj (cO S.X (aO S.O (bG S.X) (fun _=>o)) d name ⟨bG S.X,o.kind⟩) x).up=_
   rw [uY,if_neg (fun h=>hnew x j e h.1),bT (hnew x j e)];exact e
  show (obj (cO S.X (aO S.O (bG S.X) (fun _=>o)) d name ⟨bG S.X,o.kind⟩) k).gone=true
  rw [rz,bT (fun q=>by
    have h1:=pq hI.toInv0
    have:=(hI.idx _ _ hk).2.2
    simp only at this
    omega)]
  exact hg
theorem gh.write {bs:List UInt8} {j:Nat}:gh r S (d9 S j bs).2.2:=by
  unfold d9
  split
  ·exact .refl
  split
  ·exact .refl
  exact .same rfl (fun x=>cE (g:=aY.up) (fun _=>rfl)) (fun x h=>by rw [← h];exact cE (g:=aY.gone) (fun _=>rfl))
theorem vB (h:(obj S.O k).gone=true):(obj (aJ S d name t).O k).gone=true:=by
  by_cases e:(obj (aQ S.X S.O d name t) t.k).links=0
  ·rw [o8 e]
   show (obj (mQ (aQ S.X S.O d name t) t.k) k).gone=true
   unfold mQ
   rw [jI]
   split
   ·rfl
   rw [oh];exact h
  rw [rJ e]
  show (obj (aQ S.X S.O d name t) k).gone=true
  rw [oh];exact h
theorem gh.drop:gh r S (aJ S d name t):=.same rfl (fun _=>wW) (fun _ h=>vB h)
theorem gh.V9 (h2:t.kind≠2):gh r S (j7 S d name to toName t):=.same rfl (fun x=>by
  show (obj (cO S.X (aQ S.X S.O d name t) to toName t) x).up=_
  rw [uY,if_neg (fun h=>h2 h.2),zE]) (fun x h=>by
  show (obj (cO S.X (aQ S.X S.O d name t) to toName t) x).gone=true
  rw [rz,oh];exact h)
theorem Kp {u:Nat} (h:∀ x,x≠u->(obj O' x).up=(obj O x).up) {x:Nat} (hb:fV O r x):¬ fV O u x->fV O' r x:=by
  induction hb with
  | here=>exact fun _=>.here
  | @up x j e _ ih=>
    intro hn
    refine .up (j:=j) ?_ (ih (fun q=>hn (.up e q)))
    rw [h x (fun q=>hn (q ▸ .here))];exact e
theorem gh.Wa (hto:fV S.O r to) (hn:¬ fV S.O t.k to) (hk2:t.kind=2):gh r S (j7 S d name to toName t):=by
  have hu:∀ x,(obj (j7 S d name to toName t).O x).up=if x=t.k then some to else (obj S.O x).up:=fun x=>by
    show (obj (cO S.X (aQ S.X S.O d name t) to toName t) x).up=_
    rw [uY,zE]
    by_cases h:x=t.k
    ·rw [if_pos ⟨h,hk2⟩,if_pos h]
    rw [if_neg (fun q=>h q.1),if_neg h]
  have X4:fV (j7 S d name to toName t).O r to:=Kp (u:=t.k) (fun x h=>by rw [hu,if_neg h]) hto hn
  refine⟨rfl,fun k hk0=>⟨fun hb=>.inl ?_,fun h=>?_⟩⟩
  ·clear hk0
   induction hb with
   | here=>exact .here
   | @up x j e _ ih=>
     by_cases h:x=t.k
     ·exact .up (j:=to) (by rw [hu,if_pos h]) X4
     exact .up (j:=j) (by rw [hu,if_neg h];exact e) ih
  show (obj (cO S.X (aQ S.X S.O d name t) to toName t) k).gone=true
  rw [rz,oh];exact h
theorem gh.rmdir (hI:Inv S) (hd:Live S.idx ⟨d,2⟩) (e:aT name (obj S.O d).ah=some t) (h2:t.kind=2) (he:(obj S.O t.k).ah=[]):gh r S { aJ S d name t with O:=orphan (aJ S d name t).O t.k }:=by
  have hlt:=(hI.ent hd e).2
  have hne:=hI.ne hd e
  have hl0:(obj (aQ S.X S.O d name t) t.k).links=0:=by
    have h1:=hI.once t hlt h2
    have h3:=hI.links t hlt
    have h4:=mM hd e
    rw [jg hne,if_neg hne,if_pos rfl]
    show (obj S.O t.k).links - 1=0
    omega
  have hg:(obj (orphan (aJ S d name t).O t.k) t.k).gone=true:=by
    unfold orphan
    refine Eq.trans (cE (g:=aY.gone) (fun _=>rfl)) ?_
    rw [o8 hl0]
    show (obj (mQ (aQ S.X S.O d name t) t.k) t.k).gone=true
    unfold mQ
    rw [cD]
  have hu:∀ x,x≠t.k->(obj (orphan (aJ S d name t).O t.k) x).up=(obj S.O x).up:=fun x h=>by
    unfold orphan
    rw [bT h];exact wW
  refine⟨rfl,fun k hk=>⟨fun hb=>?_,fun h=>?_⟩⟩
  ·by_cases hkt:k=t.k
   ·rw [hkt];exact .inr hg
   refine .inl ?_
   have hno:¬ fV S.O t.k k:=fun hb2=>by
     clear hb
     induction hb2 with
     | here=>exact hkt rfl
     | @up x j ex hb2 ih=>
       by_cases hj:j=t.k
       ·by_cases hlx:∃ u,Live S.idx u/\u.k=x
        ·obtain⟨u,hu1,Bd⟩:=hlx
         subst Bd
         obtain⟨_,_,n,h4⟩:=(hI.up u hu1 j).1 ex
         rw [hj,he] at h4;cases h4
        have:=(hI.dead x (fun u hu1 Bd=>hlx ⟨u,hu1,Bd⟩)).2
        rw [this] at ex;cases ex
       refine ih ?_ hj
       by_cases hlx:∃ u,Live S.idx u/\u.k=x
       ·obtain⟨u,hu1,Bd⟩:=hlx
        subst Bd
        exact ((hI.up u hu1 j).1 ex).2.1
       have:=(hI.dead x (fun u hu1 Bd=>hlx ⟨u,hu1,Bd⟩)).2
       rw [this] at ex;cases ex
   exact Kp (u:=t.k) hu hb hno
  by_cases hkt:k=t.k
  ·rw [hkt];exact hg
  show (obj (orphan (aJ S d name t).O t.k) k).gone=true
  unfold orphan
  rw [bT hkt];exact vB h
theorem IK (hI:Inv0 S) {d':Nat}:∀ (ps:List ByteArray) (d:Nat),Live S.idx ⟨d,2⟩->fV S.O r d->jJ S.O d ps=.ok (d',name)->fV S.O r d'
  | [],d,_,_,h=>by cases h
  | [p],d,hd,hb,h=>by
    unfold jJ at h
    split at h
    ·cases h
    cases h;exact hb
  | p::q::l,d,hd,hb,h=>by
    unfold jJ at h
    cases e:aT p (obj S.O d).ah with
    | none=>rw [e] at h;cases h
    | some t=>
      rw [e] at h
      simp only at h
      split at h
      ·cases h
      rename_i h3
      split at h
      ·cases h
      rename_i h1
      have hl:=(hI.ent hd e).2
      have hk:t=⟨t.k,2⟩:=by
        have:=(hI.ob _ hl).2.2
        obtain⟨k,kd⟩:=t
        simp only at this h1 h3
        have:kd=2:=by omega
        rw [this]
      rw [hk] at hl
      refine IK hI (q::l) t.k hl (.up (j:=d) ((hI.up _ hl d).2 ⟨rfl,hd,p,?_⟩) hb) h
      rw [e,hk]
theorem QD {path:ByteArray} {d':Nat} (hI:Inv0 S) (hd:Live S.idx ⟨r,2⟩) (h:jC S.O r path=.ok (d',name)):fV S.O r d':=by
  unfold jC at h
  split at h
  ·exact IK hI _ _ hd .here h
  cases h
theorem gh.rename (hto:fV S.O r to):gh r S (bL S d name to toName).2:=by
  unfold bL
  split
  ·exact .refl
  rename_i t e
  split
  ·exact .refl
  rename_i hn
  have Y3:∀ S1:aI,(∀ x,(obj S1.O x).up=(obj S.O x).up)->gh r S1 (j7 S1 d name to toName t):=fun S1 h=>by
    by_cases h2:t.kind=2
    ·refine .Wa (oV h hto) (fun q=>hn ⟨h2,oV (fun x=>(h x).symm) q⟩) h2
    exact .V9 h2
  split
  ·exact Y3 S (fun _=>rfl)
  rename_i o e2
  split
  ·exact .refl
  split
  ·exact .refl
  split
  ·exact .refl
  rename_i h2
  have h3:gh r S (aJ S to toName o):=.drop
  refine⟨rfl,fun k hk=>?_⟩
  have hu:∀ x,(obj (j7 (aJ S to toName o) d name to toName t).O x).up=(obj S.O x).up:=fun x=>by
    show (obj (cO _ (aQ _ (aJ S to toName o).O d name t) to toName t) x).up=_
    rw [uY,if_neg (fun h=>h2 h.2),zE];exact wW
  refine⟨fun hb=>.inl (oV hu hb),fun hg=>?_⟩
  show (obj (cO _ (aQ _ (aJ S to toName o).O d name t) to toName t) k).gone=true
  rw [rz,oh];exact vB hg
theorem gh.act {a:bM} (hI:Inv S):gh r S (cG S (r:Int) a).2:=by
  unfold cG
  split
  ·exact .refl
  split
  ·exact .refl
  rename_i t0 e0
  split
  ·rename_i hk0
   split
   ·exact .refl
   rename_i d name e2
   have ht:=JU hI.toInv0 e0 hk0
   have htr:t0.k=r:=by have:=hI.key e0;omega
   obtain⟨h1,h2,h3⟩:=z8 hI.toInv0 ht e2
   unfold mo
   split
   ·unfold p8
    split
    ·rename_i h0
     have ha:gh r S (fe S d name (bg S.X 1 420)):=.add hI
     refine⟨(zl (S:=fe S d name (bg S.X 1 420))).1.trans ha.1,fun k hk=>?_⟩
     have hw:gh r (fe S d name (bg S.X 1 420)) (d9 (fe S d name (bg S.X 1 420)) (bG S.X) a.text.data.toList).2.2:=.write
     have hl:Live (fe S d name (bg S.X 1 420)).idx ⟨k,2⟩:=by
       show aE.get (ins (S.X.last+1) _ S.idx) (k:Int)=some ⟨k,2⟩
       rw [lf (fun hq=>by
         cases e:aE.get S.idx (S.X.last+1) with
         | none=>exact get_none.1 e hq
         | some t=>have:=hI.idx _ _ e;omega),if_neg (by have h9:(k:Int)<=S.X.last:=(hI.idx _ _ hk).2.2;omega)]
       exact hk
     obtain⟨a1,a2⟩:=ha.2 k hk
     obtain⟨b1,b2⟩:=hw.2 k hl
     exact⟨fun hb=>(a1 hb).elim b1 (fun q=>.inr (b2 q)),fun q=>b2 (a2 q)⟩
    exact .refl
   split
   ·unfold fX;split
    ·rename_i h0;exact .add hI
    exact .refl
   split
   ·unfold fT;(repeat' split)<;>first|exact .refl|(rename_i h0;exact .add hI)
   split
   ·unfold fA;(repeat' split)<;>first|exact .refl|exact .drop
   split
   ·unfold fO
    split
    ·exact .refl
    rename_i t e
    split
    ·rename_i hk
     split
     ·rename_i he;exact .rmdir hI h1 e hk he
     exact .refl
    exact .refl
   split
   ·split
    ·exact .refl
    rename_i to toName e3
    have e3:=e3
    rw [htr] at e3 ht
    exact .rename (QD hI.toInv0 ht e3)
   unfold j5
   (repeat' split)<;>first|exact .refl|exact .write
  exact .refl
def HB (r:Nat) (S:aI):Prop:=∀ h t,aE.get S.us h=some t->t.kind=2/\(fV S.O r t.k\/(obj S.O t.k).gone=true)
theorem HB.keeps (h:HB r S) (hI:Inv S) (hk:gh r S S'):HB r S':=fun i t e=>by
  rw [hk.1] at e
  obtain⟨h1,h2⟩:=h i t e
  have hl:=(hI.us i t e).1
  have hl:Live S.idx ⟨t.k,2⟩:=by
    obtain⟨k,kd⟩:=t
    simp only at h1
    subst h1
    exact hl
  obtain⟨a,b⟩:=hk.2 t.k hl
  exact⟨h1,h2.elim a (fun q=>.inr (b q))⟩
theorem HB.acts:∀ {xs:List bM} {S:aI},HB r S->Inv S->HB r (eE (r:Int) S xs)
  | [],_,h,_=>h
  | a::l,S,h,hI=>HB.acts (xs:=l) (S:=(cG S (r:Int) a).2) (h.keeps hI (.act hI)) hI.cG
theorem Oq (h:HB r S) {i need:Int} (e:dJ S.O S.us i name need=.ok d):fV S.O r d:=by
  unfold dJ at e
  split at e
  ·cases e
  rename_i t ht
  split at e
  ·split at e
   ·cases e
   rename_i hg
   (repeat' split at e)<;>first|(cases e;exact (h _ _ ht).2.elim id (fun q=>absurd q hg))|cases e
  cases e
theorem LR (hI:Inv0 S) {i need:Int} (e:dJ S.O S.us i name need=.ok d):Live S.idx ⟨d,2⟩:=by
  rcases yR hI i name need with ⟨e2,h,_⟩|⟨d2,h,h2⟩
  ·rw [h] at e;cases e
  rw [h] at e;cases e;exact h2.1
theorem HB.open_ (h:HB r S) (hI:Inv S) (h2:t.kind=2) (hb:fV S.O r t.k):HB r (cW S t).2.2:=by
  by_cases e:(S.us.length:Int) < S.X.cH
  ·rw [jf e]
   intro i u hu
   have hu:aE.get (ins (aE.least S.us) t S.us) i=some u:=hu
   have hq:∀ x,(obj (aO S.O t.k (fun o=>{ o with opens:=o.opens+1 })) x).up=(obj S.O x).up:=fun x=>cE (g:=aY.up) (fun _=>rfl)
   have hg:∀ x,(obj (aO S.O t.k (fun o=>{ o with opens:=o.opens+1 })) x).gone=(obj S.O x).gone:=fun x=>cE (g:=aY.gone) (fun _=>rfl)
   have hn:=(least_le hI.usr (fun x hx=>(hI.sE x hx).1)).2.1
   rw [lf hn] at hu
   split at hu
   ·cases hu;exact⟨h2,.inl (oV hq hb)⟩
   obtain⟨a,b⟩:=h i u hu
   exact⟨a,b.elim (fun b=>.inl (oV hq b)) (fun b=>.inr ((hg _).trans b))⟩
  rw [jT e];exact h
theorem HB.Y4 (h:HB r S) (hI:Inv S) {i:Int}:HB r (bK S (fk i name)).1:=by
  unfold bK
  rw [rf (c:={ fk i name with answer:=0,code:=230 }) rfl]
  unfold eV
  split
  ·exact h
  rename_i t e
  unfold fB at e
  split at e
  ·cases e
  rename_i d ed
  split at e
  ·cases e
  rename_i t2 el
  cases e
  split
  ·exact h
  rename_i h3
  split
  ·exact h
  rename_i h1
  have hd:=LR hI.toInv0 ed
  have hl:=(hI.ent hd el).2
  have h2:t.kind=2:=by have:=(hI.ob _ hl).2.2;omega
  exact h.open_ hI h2 (.up (j:=d) ((hI.up _ hl d).2 ⟨h2,hd,_,el⟩) (Oq h ed))
theorem HB.Y5 (h:HB r S) (hI:Inv S) {i mode:Int}:HB r (bK S (rT i name mode)).1:=by
  unfold bK
  rw [sU (c:={ rT i name mode with answer:=0,code:=230 }) rfl]
  unfold fU
  split
  ·exact h
  split
  ·unfold fX;split
   ·rename_i h0;exact h.keeps hI (.add hI)
   exact h
  exact h
theorem HB.X5 (h:HB r S) {i:Int}:HB r (bK S (eu i)).1:=by
  unfold bK
  rw [p6 (c:={ eu i with answer:=0,code:=230 }) rfl]
  unfold ja
  split
  ·exact h
  rename_i t0 e0
  intro j u hu
  have hu:aE.get (del i S.us) j=some u:=hu
  rw [o7] at hu
  split at hu
  ·cases hu
  obtain⟨a,b⟩:=h j u hu
  have hq:∀ x,(obj (iR S.O t0.k) x).up=(obj S.O x).up:=fun x=>cE (g:=aY.up) (fun _=>rfl)
  have hg:∀ x,(obj (iR S.O t0.k) x).gone=(obj S.O x).gone:=fun x=>cE (g:=aY.gone) (fun _=>rfl)
  exact⟨a,b.elim (fun b=>.inl (oV hq b)) (fun b=>.inr ((hg _).trans b))⟩
theorem HB.world {fs:List bh} {xs:List bM} {n:Nat} {c:aB} (h1:c.op≠1) (h9:c.op≠9) (hd:∀ S:aI,HB r S->Inv S->HB r (bK S c).1) (h:HB r S) (hI:Inv S):HB r (aR fs xs (r:Int) n S c).1:=by
  have ha:=HB.acts (xs:=bn xs n) h hI
  have qu:=hI.eE (root:=(r:Int)) (bn xs n)
  rcases og (fs:=fs) (xs:=xs) (root:=(r:Int)) (n:=n) (S:=S) h1 h9 with e|⟨k,_,e⟩
  ·rw [e];exact hd _ ha qu
  rw [e]
  show HB r (if c.op=13 then _ else _)
  split
  ·exact hd _ ha qu
  exact ha
end b
end
section
open Go.RowKit
def gM (e:TypeId) (size:Nat) (A:Option Addr) (n cap:Nat) (xs:List Value):bV where
  h F w:=xs.length=n * size/\∃ g off cur,A=some ⟨g,off,none⟩/\w.heap[g]?=some (.cells cur e (0,0))/\n<=cap/\cap<=maxLen/\off+cap * size<=cur.size/\(∀ (j:Nat) u,xs[j]?=some u->cur[off+j]?=some u)/\∀ k,F k↔k=g
  lt:=by
    rintro F w ⟨_,g,off,cur,_,h1,_,_,_,_,h2⟩ k hk
    rw [(h2 k).1 hk]
    exact lt_of_some h1
  st:=by
    rintro F w ⟨h0,g,off,cur,h3,h1,h4,h5,h6,h7,h2⟩ S w' hk hn
    exact⟨h0,g,off,cur,h3,(hk.block g (lt_of_some h1) (hn g ((h2 g).2 rfl))).trans h1,h4,h5,h6,h7,h2⟩
section tails
variable {e:TypeId} {size n m cap:Nat} {A:Option Addr} {xs news:List Value} {w:World}
theorem Jx {b:Nat} {cs:List Value} (hl:cs.length=n * size) (hm:n<=maxLen):∀ F,(HP.blk b cs e).h F w->∃ F',(HP.abs (gM e size (some ⟨b,0,none⟩) n n cs)).h F' w/\Step F w F' w:=by
  rintro F ⟨h1,h2⟩
  refine⟨F,⟨hl,b,0,⟨cs⟩,rfl,h1,Nat.le_refl _,hm,by simp [hl],fun j u hj=>by simpa using hj,h2⟩,Step.refl F w⟩
theorem Sat.Vd {β:Bs} {hps:List HP} {b i:Nat} {cs:List Value} (size n:Nat) (hp:hps[i]?=some (.blk b cs e)) (hl:cs.length=n * size) (hm:n<=maxLen) (h:Sat β hps w):Sat β (hps.set i (.abs (gM e size (some ⟨b,0,none⟩) n n cs))) w:=
  h.set hp (Jx hl hm)
theorem gM.len {F:Fp} (h:(HP.abs (gM e size A n cap xs)).h F w):xs.length=n * size/\n<=cap/\A=some ⟨ax A,av A,none⟩:=by
  obtain⟨h0,g,off,cur,rfl,_,h4,_⟩:=h
  exact⟨h0,h4,rfl⟩
theorem gM.cellAt {i j:Nat} {u:Value} (hj:xs[i * size+j]?=some u):∀ F w,(gM e size A n cap xs).h F w->w.cell? ⟨ax A,av A+i * size+j,none⟩=some u:=by
  rintro F w ⟨_,g,off,cur,rfl,h1,_,_,_,h6,_⟩
  have:=h6 _ _ hj
  show w.cell? ⟨g,off+i * size+j,none⟩=_
  unfold World.cell?
  rw [h1]
  rw [Nat.add_assoc]
  simpa using this
theorem ye {b:Nat} {fz:Nat×Nat}:∀ (vs:List Value) (o:Nat) (w:World) (cur:Array Value),w.heap[b]?=some (.cells cur e fz)->o+vs.length<=cur.size →
    ∃ cur',(w.setCells b o vs).heap[b]?=some (.cells cur' e fz)/\cur'.size=cur.size/\(∀ i,i < o->cur'[i]?=cur[i]?)/\(∀ (j:Nat) u,vs[j]?=some u->cur'[o+j]?=some u)/\Keeps (·=b) w (w.setCells b o vs)
  | [],o,w,cur,h,_=>⟨cur,h,rfl,fun _ _=>rfl,fun j u hj=>by simp at hj,Keeps.refl _ _⟩
  | v::r,o,w,cur,h,hl=>by
    have h1:(w.setCell ⟨b,o,none⟩ v).heap[b]?=some (.cells (cur.setIfInBounds o v) e fz):=by
      simp [World.setCell,Array.getElem?_modify,h]
    simp only [List.length_cons] at hl
    obtain⟨cur',h2,h3,h4,h5,h6⟩:=ye r (o+1) _ _ h1 (by simp;omega)
    refine⟨cur',h2,by rw [h3];simp,fun i hi=>?_,fun j u hj=>?_,?_⟩
    ·rw [h4 i (by omega),Array.getElem?_setIfInBounds_ne (by omega)]
    ·cases j with
     | zero=>
       simp at hj
       subst hj
       rw [Nat.add_zero,h4 o (by omega),Array.getElem?_setIfInBounds_self_of_lt (by omega)]
     | succ j=>
       have:=h5 j u (by simpa using hj)
       rw [show o+(j+1)=o+1+j by omega]
       exact this
    have h7:Keeps (·=b) w (w.setCell ⟨b,o,none⟩ v):=(Keeps.refl (·=b) w).setCell (.inr (rfl:(fun k=>k=b) (⟨b,o,none⟩:Addr).block)) v
    exact h7.trans h6
end tails
theorem QE {β:Bs} {hps:List HP} {b j:Nat} {news:List Value} {T:TypeId} (hp:hps[j]?=some (.blk b news T)):∀ w,Sat β hps w->∀ (i:Nat) u,news[i]?=some u->w.cell? ((⟨b,0,none⟩:Addr).add i)=some u:=by
  intro w hS i u hi
  rcases kW hp w hS with ⟨h,_⟩|⟨ad,e,h⟩
  ·cases h
  cases e;exact h i u hi
section rules
variable {P:Program} {β:Bs} {N:dD} {ops:Array Oper} {k:Nat} {fr:Fr} {hps:List HP} {Q:Post} {d:Option Tmp}
theorem ak.Ot (i:Nat) {t e:TypeId} {size m n cap:Nat} {A:Option Addr} {xs:List Value} {x lo:Operand} (hop:∀ junk,fK N junk ops fr k=some (.slice t x (some lo) none none,d)) (hp:hps[i]?=some (.abs (gM e size A n cap xs)))
    (hx:∀ junk,dm N fr junk x=.slice A n cap) (hlo:∀ junk,dm N fr junk lo=.int .i64 ((m:Nat):Int)) (ht:P.underlying t=some (.slice e)) (kP:(P.info? e).map (·.size)=some size) (hm:m<=n)
    (K':∀ A',ak P β N ops (k+1) (cY fr d (.slice A' (n - m) (cap - m))) (hps.set i (.abs (gM e size A' (n - m) (cap - m) (xs.drop (m * size))))) Q):ak P β N ops k fr hps Q:=by
  obtain⟨inf,hi,hsize⟩:∃ inf,P.info? e=some inf/\inf.size=size:=by
    cases h:P.info? e with
    | none=>rw [h] at kP;cases kP
    | some inf=>rw [h] at kP;simp at kP;exact⟨inf,rfl,kP⟩
  refine ak.Bo (ι:=Option Addr) (v:=fun A'=>.slice A' (n - m) (cap - m)) (hp':=fun A'=>hps.set i (.abs (gM e size A' (n - m) (cap - m) (xs.drop (m * size))))) hop (fun o junk w ho hS=>?_) K'
  obtain⟨F,hF⟩:=hS.get hp
  obtain⟨h0,g,off,cur,hA,h1,h4,h5,h6,h7,h8⟩:=hF
  subst hA
  have e1:(underlying t).run P w=.ok (.slice e) w:=run_underlying ht w
  have e2:(sizeOf e).run P w=.ok size w:=hsize ▸ nG hi w
  have hmn:m * size<=n * size:=Nat.mul_le_mul_right _ hm
  have Z6:m * size<=cap * size:=Nat.mul_le_mul_right _ (Nat.le_trans hm h4)
  have hsub:∀ a,(a - m) * size=a * size - m * size:=fun a=>Nat.sub_mul a m size
  by_cases hc:cap=m
  ·refine⟨some ⟨g,off,none⟩,w,.inl ?_,hS.set hp (fun F' hF'=>⟨F',?_,Step.refl _ _⟩)⟩
   ·obtain⟨dst,op,type,pos,after,guard⟩:=o
    cases ho
    have hle:m<=n:=hm
    simp [execOp,Instr.sliceAt,Instr.slice,Instr.sliceBounds,Instr.sliceBound,asIntOf,hx,hlo,go_sem,e1,e2,hc,hle]
   obtain⟨_,g',off',cur',hA',h1',h4',Xa,h6',Ve,h8'⟩:=hF'
   cases hA'
   refine⟨by rw [List.length_drop,h0,hsub],g,off,cur',rfl,h1',by omega,by omega,by rw [hsub];omega,fun j u hj=>?_,h8'⟩
   have:(xs.drop (m * size)).length=0:=by rw [List.length_drop,h0];have:n=m:=by omega
                                          rw [this];omega
   have hnil:=List.eq_nil_of_length_eq_zero this
   rw [hnil] at hj
   simp at hj
  have ea:(⟨g,off,none⟩:Addr).add (m * size)=⟨g,off+m * size,none⟩:=by
    unfold Addr.add
    split
    ·rename_i Vf;rw [Vf];rfl
    rfl
  refine⟨some ⟨g,off+m * size,none⟩,w,.inl ?_,hS.set hp (fun F' hF'=>⟨F',?_,Step.refl _ _⟩)⟩
  ·obtain⟨dst,op,type,pos,after,guard⟩:=o
   cases ho
   have hle:m<=n:=hm
   simp [execOp,Instr.sliceAt,Instr.slice,Instr.sliceBounds,Instr.sliceBound,asIntOf,hx,hlo,go_sem,e1,e2,hc,hle]
  obtain⟨_,g',off',cur',hA',h1',h4',Xa,h6',Ve,h8'⟩:=hF'
  cases hA'
  refine⟨by rw [List.length_drop,h0,hsub],g,off+m * size,cur',rfl,h1',by omega,by omega,by rw [hsub];omega,fun j u hj=>?_,h8'⟩
  rw [List.getElem?_drop] at hj
  have:=Ve _ _ hj
  rw [show off+m * size+j=off+(m * size+j) by omega]
  exact this
theorem ak.LU (i:Nat) {t e:TypeId} {z:Value} {size bytes n cap m c':Nat} {A:Option Addr} {ad:Addr} {xs news:List Value} {s x:Operand} {ats:Array TypeId}
    (hop:∀ junk,fK N junk ops fr k=some (.call ⟨.builtin .append,#[s,x],ats⟩,d)) (qw:ats=#[t,t]) (hp:hps[i]?=some (.abs (gM e size A n cap xs))) (hs:∀ junk,dm N fr junk s=.slice A n cap) (hx:∀ junk,dm N fr junk x=.slice (some ad) m c')
    (ht:P.underlying t=some (.slice e)) (kP:(P.info? e).map (fun i=>(i.zero,i.size,i.bytes))=some (some z,size,bytes)) (hzs:z.cells.size=size) (hsz:0 < size)
    (hl:news.length=m * size) (h1:∀ u∈news,u.oneCell'=true) (hsrc:∀ w,Sat β hps w->∀ (j:Nat) u,news[j]?=some u->w.cell? (ad.add j)=some u)
    (h63:n+m<=maxLen) (hbytes:(n+m) * bytes<=140737488355328)
    (K':∀ B cap',ak P β N ops (k+1) (cY fr d (.slice B (n+m) cap')) (hps.set i (.abs (gM e size B (n+m) cap' (xs++news)))) Q):ak P β N ops k fr hps Q:=by
  subst qw
  obtain⟨inf,hi,hz,hsize,hby⟩:∃ inf,P.info? e=some inf/\inf.zero=some z/\inf.size=size/\inf.bytes=bytes:=by
    cases h:P.info? e with
    | none=>rw [h] at kP;cases kP
    | some inf=>rw [h] at kP;simp at kP;exact⟨inf,rfl,kP.1,kP.2.1,kP.2.2⟩
  refine ak.Bo (ι:=Option Addr×Nat) (v:=fun p=>.slice p.1 (n+m) p.2) (hp':=fun p=>hps.set i (.abs (gM e size p.1 (n+m) p.2 (xs++news)))) hop (fun o junk w ho hS=>?_) (fun p=>K' p.1 p.2)
  obtain⟨F,hF⟩:=hS.get hp
  have hnews:=hsrc w hS
  obtain⟨h0,g,off,cur,hA,hg,h4,h5,h6,h7,h8⟩:=hF
  subst hA
  have hrun:∀ v' w',(Builtin.append_ #[t,t] o.type #[.slice (some ⟨g,off,none⟩) n cap,.slice (some ad) m c']).run P w=.ok v' w'->pK P (dm N fr junk) o w v' w':=fun v' w' h=>by
    obtain⟨dst,op,type,pos,after,guard⟩:=o
    cases ho
    refine .inl ?_
    have h':(Builtin.append_ #[t,t] type #[.slice (some ⟨g,off,none⟩) n cap,.slice (some ad) m c']).run P w=.ok v' w':=h
    simp only [execOp,resolve,invoke,builtin,hs junk,hx junk,List.map_toArray,List.map_cons,List.map_nil,Sem.run_bind,Sem.run_pure,Result.andThen_ok,h']
  have hlen:(xs++news).length=(n+m) * size:=by rw [List.length_append,h0,hl,Nat.add_mul]
  by_cases hroom:n+m<=cap
  ·have hcm:(n+m) * size<=cap * size:=Nat.mul_le_mul_right _ hroom
   rw [Nat.add_mul,← hl] at hcm
   have hcell:∀ j,j < news.length->(w.cell? ⟨g,off+n * inf.size+j,none⟩).isSome=true:=fun j hj=>by
     rw [hsize]
     unfold World.cell?
     rw [hg]
     have:off+n * size+j < cur.size:=by omega
     simp [this]
   have hfro:∀ j,j < news.length->w.frozen? ⟨g,off+n * inf.size+j,none⟩=false:=fun j _=>by
     unfold World.frozen?
     rw [hg]
     simp
   have hr:=run_append_room_cells (P:=P) w t o.type e inf ht hi g off n cap ad m c' news (by rw [hsize];exact hl) hnews h1 hroom hcell hfro
   rw [hsize] at hr
   obtain⟨cur',g1,g2,g3,g4,g5⟩:=ye (e:=e) (b:=g) news (off+n * size) w cur hg (by omega)
   refine⟨(some ⟨g,off,none⟩,cap),_,hrun _ _ hr,hS.set hp (fun F' hF'=>⟨F',?_,?_⟩)⟩
   ·obtain⟨_,g',off',X6,hA',h1',h4',Xa,h6',Ve,h8'⟩:=hF'
    cases hA'
    rw [hg] at h1'
    cases h1'
    refine⟨hlen,g,off,cur',rfl,g1,hroom,h5,by rw [g2];exact h6,fun j u hj=>?_,h8'⟩
    by_cases hj2:j < xs.length
    ·rw [List.getElem?_append_left hj2] at hj
     rw [g3 _ (by omega)]
     exact h7 j u hj
    rw [List.getElem?_append_right (by omega)] at hj
    have:=g4 _ _ hj
    rw [h0] at this
    rw [show off+j=off+n * size+(j - n * size) by omega]
    exact this
   obtain⟨_,g',off',X6,hA',_,_,_,_,_,h8'⟩:=hF'
   cases hA'
   exact⟨g5.mono (fun k _ e=>(h8' k).2 e),fun _ h=>.inl h⟩
  have holds:∀ (j:Nat) u,xs[j]?=some u->w.cell? ((⟨g,off,none⟩:Addr).add j)=some u:=fun j u hj=>by
    have ea:(⟨g,off,none⟩:Addr).add j=⟨g,off+j,none⟩:=by
      unfold Addr.add
      split
      ·rename_i Vf;rw [Vf];rfl
      rfl
    rw [ea]
    unfold World.cell?
    rw [hg]
    simpa using h7 j u hj
  obtain⟨v',w',hr,hown,hgr⟩:=run_append_arg_grows (P:=P) w t o.type e inf z size bytes ht hi hz hsize hby hzs hsz ⟨g,off,none⟩ n cap xs h0 holds ad m c' news hl hnews (by omega) h63 hbytes
  rcases hown.2 with ⟨_,e0⟩|⟨g',cp,cur',rfl,hlo,hg',hle,Y6,X7,TR⟩
  ·exact absurd e0 (by omega)
  refine⟨(some ⟨g',0,none⟩,cp),w',hrun _ _ hr,hS.set hp (fun F' hF'=>⟨fun k=>k=g',⟨hlen,g',0,cur',rfl,hg',hle,Y6,Nat.le_of_eq (by rw [X7,Nat.zero_add]),fun j u hj=>?_,fun _=>Iff.rfl⟩,?_,fun k hk=>.inr (by rw [hk];exact hlo)⟩)⟩
  ·have hj2:=bq hj
   rw [← TR,List.getElem?_take] at hj
   split at hj
   ·rw [Nat.zero_add];simpa using hj
   cases hj
  exact (Keeps.refl F' w).grown hgr (fun _ h=>by cases h)
end rules
end
end Go.Proofs.YtiehgnlnofhbaaaGreatDoor
section
namespace Go.Proofs
open Go.Shelf
def Tryz.keysU_ren:Go.Shelf.Ren:=⟨fun|7=>38|10=>63|n=>n,fun|23=>102|26=>3|3=>104|28=>113|0=>0|27=>112|33=>178|4=>4|n=>n,fun|n=>n⟩
theorem Tryz.keysU:Go.Proofs.SlLaysZI.n7 Tryz.prog Tryz.keysU_ren:={
  mixed:=by kernel_rfl
  f7:=⟨Tryz.f38.name,by decide,Tryz.func38.trans (congrArg some (by kernel_rfl))⟩
  f10:=⟨Tryz.f63.name,by decide,Tryz.func63.trans (congrArg some (by kernel_rfl))⟩
  t0:=Tryz.underlying0
  a0:=Tryz.isAgg0
  z0:=Tryz.sizeOf0
  v0:=Tryz.zeroValue0
  t4:=Tryz.underlying4
  a4:=Tryz.isAgg4
  z4:=Tryz.sizeOf4
  v4:=Tryz.zeroValue4
  t23:=Tryz.underlying102
  a23:=Tryz.isAgg102
  z23:=Tryz.sizeOf102
  v23:=Tryz.zeroValue102
  t26:=Tryz.underlying3
  a26:=Tryz.isAgg3
  z26:=Tryz.sizeOf3
  v26:=Tryz.zeroValue3
  t27:=Tryz.underlying112
  a27:=Tryz.isAgg112
  z27:=Tryz.sizeOf112
  v27:=Tryz.zeroValue112
  t28:=Tryz.underlying113
  a28:=Tryz.isAgg113
  z28:=Tryz.sizeOf113
  v28:=Tryz.zeroValue113
  t33:=Tryz.underlying178
  a33:=Tryz.isAgg178
  z33:=Tryz.sizeOf178
  v33:=Tryz.zeroValue178 }
end Go.Proofs
end
namespace Go.Proofs.YtiehgnlnofhbaaaGreatDoor
section
open Go.RowKit Go.Maps Go.Sort Go.Shelf
def EC (bk:Nat):Value:=.func (.func 63) #[] #[.pointer (some ⟨bk,0,none⟩)]
theorem QF {β:Bs} (mb:Option Nat):Spec Tryz.prog β 38 #[.map mb] [] (fun v l=>∃ bk,v=EC bk/\l=[.blk bk [.map mb] 102]):=
  Spec.Cb fun W _=>by
    have h:CallsIn Fence.wide 5 Tryz.prog 38 #[.map mb] W fun e w'=>e=.returned (EC W.heap.size)/\w'=W.alloc (.cells #[.map mb] 102):=AnyZI.keys_in Tryz.keysU Fence.wide 5 trivial rfl mb W
    refine ((callsIn_wide (n:=5)).1 h).mono ?_
    rintro e w' ⟨rfl,rfl⟩
    refine⟨_,_,rfl,⟨W.heap.size,rfl,rfl⟩,(Keeps.refl _ _).alloc _,fun k=>k=W.heap.size,⟨?_,fun k=>Iff.rfl⟩,fun k hk=>Nat.le_of_eq hk.symm⟩
    show (W.heap.push _)[W.heap.size]?=_
    simp
theorem LV {β:Bs} (b bk n:Nat) (f:Lit->Option Value) (hn:n<=16777216) :
    Spec Tryz.prog β 37 #[EC bk] [.abs (aN Tryz.prog 3 b f n),.blk bk [.map (some b)] 102] (fun v l=>∃ A cap ss,v=.slice A ss.length cap/\KeysOf f ss/\ss.length=n ∧
      l=[.abs (aN Tryz.prog 3 b f n),.blk bk [.map (some b)] 102,.abs (aK 3 1 A ss.length cap (jD ss))]):=by
  intro R w hS
  obtain⟨F1,h1⟩:=hS.get (i:=0) (p:=.abs (aN Tryz.prog 3 b f n)) rfl
  obtain⟨F2,h2⟩:=hS.get (i:=1) (p:=.blk bk [.map (some b)] 102) rfl
  obtain⟨D,hown,hsz,hhas,_⟩:=h1.1
  have hcell:w.cell? ⟨bk,0,none⟩=some (.map (some b)):=(gj h2.1 rfl rfl rfl).1
  have hseq:SeqGives Fence.wide 2 Tryz.prog 63 #[.pointer (some ⟨bk,0,none⟩)] encZ (fun ss=>ss.Perm (intKeys D)) (Maps.size D) w:=
    AnyZI.keys_gives (ρ:=Tryz.keysU_ren) { Tryz.keysU with } Fence.wide _ trivial rfl (by omega) bk b n D w (lt_of_some h2.1) hcell hown
  have cS:=AnyZI.sorted_in Tryz.sortedI Fence.wide 5 trivial trivial trivial trivial rfl (by omega) (MJ _) (enters_of Tryz.func62 (by kernel_rfl) rfl) 63 #[.pointer (some ⟨bk,0,none⟩)] trivial (enters_of Tryz.func63 (by kernel_rfl) rfl) _ _ (by rw [hsz];unfold maxLen;omega) (by rw [hsz];omega) _ hseq
  change CallsIn _ _ Tryz.prog 37 _ _ _ at cS
  refine ((callsIn_wide (n:=5)).1 cS).mono ?_
  rintro e w' ⟨v,ss,rfl,hp,hrow,hnil,hb⟩
  have hlen:(ss.mergeSort (fun x y=>decide (x<=y))).length=ss.length:=List.length_mergeSort ss
  have hkeys:=CG Tryz.underlying3 dG hown hhas hp
  have tH:∃ A cap,v=.slice A ss.length cap:=by
    rcases hrow.2 with ⟨e1,e2⟩|⟨g,cp,cur,e1,_⟩
    ·exact⟨none,0,by rw [e1,e2]⟩
    exact⟨_,cp,e1⟩
  obtain⟨A,cap,rfl⟩:=tH
  have hn1:ss.length=n:=by
    rw [hp.length_eq,← hsz]
    obtain⟨es,hD,_⟩:=hown.entries dG
    rw [hD]
    exact List.length_map ..
  have hq:Sat β ([.abs (aN Tryz.prog 3 b f n),.blk bk [.map (some b)] 102,.abs R]++[.abs (aK 3 1 A ss.length cap (jD (ss.mergeSort (fun x y=>decide (x<=y)))))]) w':=by
    refine Sat.new (F:=fun k=>(Value.slice A ss.length cap).ownBlock=some k) hS ⟨?_,fun k=>Iff.rfl⟩ ⟨hb.os,hb.tape,hb.output,hb.size,fun k hk _=>hb.block k hk⟩ (fun k hk=>(hrow.lt k hk).1)
    refine⟨hrow.1,?_⟩
    rcases hrow.2 with h|⟨g,cp,cur,e1,_,h3,h4⟩
    ·exact .inl h
    exact .inr ⟨g,cp,cur,e1,Nat.zero_le _,h3,h4⟩
  refine⟨_,[.abs (aN Tryz.prog 3 b f n),.blk bk [.map (some b)] 102,.abs (aK 3 1 A ss.length cap (jD (ss.mergeSort (fun x y=>decide (x<=y)))))],rfl,⟨A,cap,ss.mergeSort (fun x y=>decide (x<=y)),by rw [hlen],hkeys,by rw [hlen];exact hn1,by rw [hlen]⟩,?_⟩
  exact hq.pick (idx:=[0,1,3,2]) rfl rfl
end
section
open Go.RowKit Go.Maps
noncomputable def gF (ns:List aG) (root:Int):Int:=
  if ¬ bp ns then 140 else if ¬ 0<=jm ns root then 141 else if ¬ (nd ns (tgt ns root)).kind=2 then 173 else 0
theorem DA {ns:List aG} {root:Int} (h:¬ bp ns):gF ns root=140:=if_pos h
theorem Be {ns:List aG} {root:Int} (h:bp ns) (h1:¬ 0<=jm ns root):gF ns root=141:=by
  unfold gF;rw [if_neg (fun e=>e h),if_pos h1]
theorem Bg {ns:List aG} {root:Int} (h:bp ns) (h1:0<=jm ns root) (h2:¬ (nd ns (tgt ns root)).kind=2):gF ns root=173:=by
  unfold gF;rw [if_neg (fun e=>e h),if_neg (fun e=>e h1),if_pos h2]
theorem Fv {ns:List aG} {root:Int} (h:bp ns) (h1:0<=jm ns root) (h2:(nd ns (tgt ns root)).kind=2):gF ns root=0:=by
  unfold gF;rw [if_neg (fun e=>e h),if_neg (fun e=>e h1),if_neg (fun e=>e h2)]
theorem Jy {ns:List aG} {root:Int} (h:gF ns root=0):bp ns/\0<=jm ns root/\(nd ns (tgt ns root)).kind=2:=by
  unfold gF at h
  split at h
  ·cases h
  rename_i h1
  split at h
  ·cases h
  rename_i h2
  split at h
  ·cases h
  rename_i h3
  exact⟨Classical.not_not.1 h1,Classical.not_not.1 h2,Classical.not_not.1 h3⟩
end
section
open Go.RowKit
attribute [local irreducible] ak aW af aj
theorem QG {β:Bs} (A:Option Addr) (c:Nat) (ns:List aG) (L:Lay) (hG:aF β A ns L) (hB:Cu ns) (root:Int) (hz:kX root) :
    Spec Tryz.prog β 36 #[.agg #[.slice A ns.length c],vI root] [] (fun v l=>(∃ mb,v=.tuple #[.map (some mb),.pointer (some ⟨(ax A),av A+(tgt ns root) * 10,none⟩),vI 0]/\gF ns root=0/\l=[.abs (aN Tryz.prog 3 mb (mf (bf A ns ns.length)) ns.length)])\/(∃ x y,v=.tuple #[x,y,vI (gF ns root)]/\¬ gF ns root=0/\l=[])):=by
 refine Spec.enter Tryz.func36 rfl Tryz.ntmps36 (Nat.le_of_ble_eq_true rfl) (fun R=>?_)
 refine SR (gN 4 (fun b1=>[(2,vP b1)]) (fun _=>[]) (fun _=>[]) (fun b1=>.blk b1 [.slice A (ns.length) (c)] 24) (fun b1=>?_))
 refine NS (gK 1 [(11,.agg #[.slice A (ns.length) (c)])] [(0,a_ 1 b1)] ?_)
 refine gL [] (DW A c ns L hG hB.hl hB.hd hB.hwf hB.hnm) ?_
 rintro _ _ (⟨mb,rfl,hok,rfl⟩|⟨m,rfl,hok,rfl⟩)
 ·refine gK 5 [(7,.map (some mb)),(8,.bool true)] [] ?_
  refine NN (af.seq (SR (gK 2 [(16,.bool false)] [] ?_)))
  refine NN (CF (af.skip (NX (SR (gK 2 [(17,.map (some mb)),(18,vI (root))] [] ?_)))))
  by_cases hat:0<=jm ns root
  ·have htl:=jB hat
   refine ak.dR 0 (d:=(some 19)) (t:=98) (K:=3) (E:=99) (b:=mb) (n:=ns.length) (f:=(mf (bf A ns ns.length))) (x:=(.tmp 17)) (ix:=(.tmp 18)) (key:=.int .i64 (root)) (z:=.pointer none) (kl:=(.int .i64 root)) (r:=(some (.pointer (some ⟨(ax A),av A+(tgt ns root) * 10,none⟩)))) (fun _=>by kernel_rfl) (by kernel_rfl) (fun _=>by kernel_rfl) (fun _=>by kernel_rfl) dG Tryz.underlying98 (fun _=>by kernel_rfl) (kQ hz.1 hz.2) (FN hat htl.1) ?_
   refine gK 1 [(9,.pointer (some ⟨(ax A),av A+(tgt ns root) * 10,none⟩))] [] ?_
   refine NN (af.seq (SR (gK 2 [(21,.bool false)] [] ?_)))
   refine NN (CF (af.skip (NX (af.seq (SR (gK 5 [(26,.bool (!(decide (((nd ns (tgt ns root)).kind:Int)=(2:Int)))))] [(3,p_ ⟨[.old (.int .i64 ((nd ns (tgt ns root)).kind))],none,none,none,none⟩ [(Rd β ⟨(ax A),av A+(tgt ns root) * 10+1,none⟩ (.int .i64 ((nd ns (tgt ns root)).kind)))] ⟨aF.rd hG (i:=(tgt ns root)) (by omega) (j:=1) rfl,trivial⟩)] ?_))))))
   refine NN (af.gT (p:=((nd ns (tgt ns root)).kind:Int)=(2:Int)) (fun _=>by kernel_rfl) (fun pX=>?_) (fun pX=>?_))
   ·refine SR (gK 3 [(4,.map none),(5,.pointer none),(6,vI 173)] [] ?_)
    refine NN (af.ret (aj.aq ?_))
    exact RT (.tuple #[.map none,.pointer none,vI 173]) [1] (.inr ⟨_,_,by rw [Bg hok hat pX],by rw [Bg hok hat pX];decide,rfl⟩)
   refine af.skip (NX (SR (gK 5 [(4,.map (some mb)),(5,.pointer (some ⟨(ax A),av A+(tgt ns root) * 10,none⟩)),(6,vI 0)] [] ?_)))
   refine NN (af.ret ?_)
   exact RT (.tuple #[.map (some mb),.pointer (some ⟨(ax A),av A+(tgt ns root) * 10,none⟩),vI 0]) [0,1] (.inl ⟨mb,rfl,Fv hok hat pX,rfl⟩)
  refine ak.dR 0 (d:=(some 19)) (t:=98) (K:=3) (E:=99) (b:=mb) (n:=ns.length) (f:=(mf (bf A ns ns.length))) (x:=(.tmp 17)) (ix:=(.tmp 18)) (key:=.int .i64 (root)) (z:=.pointer none) (kl:=(.int .i64 root)) (r:=none) (fun _=>by kernel_rfl) (by kernel_rfl) (fun _=>by kernel_rfl) (fun _=>by kernel_rfl) dG Tryz.underlying98 (fun _=>by kernel_rfl) (kQ hz.1 hz.2) (DV hat) ?_
  refine gK 1 [(9,.pointer none)] [] ?_
  refine NN (af.seq (SR (gK 2 [(21,.bool true)] [] ?_)))
  refine NN (CT (SR (gK 3 [(4,.map none),(5,.pointer none),(6,vI 141)] [] ?_)))
  refine NN (af.ret (aj.aq ?_))
  exact RT (.tuple #[.map none,.pointer none,vI 141]) [1] (.inr ⟨_,_,by rw [Be hok hat],by rw [Be hok hat];decide,rfl⟩)
 refine gK 5 [(7,m),(8,.bool false)] [] ?_
 refine NN (af.seq (SR (gK 2 [(16,.bool true)] [] ?_)))
 refine NN (CT (SR (gK 3 [(4,.map none),(5,.pointer none),(6,vI 140)] [] ?_)))
 refine NN (af.ret (aj.aq ?_))
 exact RT (.tuple #[.map none,.pointer none,vI 140]) [0] (.inr ⟨_,_,by rw [DA hok],by rw [DA hok];decide,rfl⟩)
end
section
open Go.RowKit Go.Maps
inductive Reach (ns:List aG) (k:Nat):Nat->Prop
  | refl:Reach ns k k
  | step {i:Nat} (j:Nat):Reach ns k i->j < (nd ns i).ah.length->Reach ns k (tgt ns (ent ns i j).id)
theorem Reach.lt {ns:List aG} {k i:Nat} (hok:bp ns) (hk:k < ns.length) (h:Reach ns k i):i < ns.length:=by
  induction h with
  | refl=>exact hk
  | step t _ ht ih=>exact (jB (hok.ah _ ih t ht).at_).1
noncomputable def ol (ns:List aG) (k:Nat):List Int:=by
  classical exact ((List.range ns.length).filter fun i=>decide (Reach ns k i)).map fun i=>(nd ns i).id
theorem DB {ns:List aG} {k:Nat} {z:Int}:z∈ol ns k↔∃ i,i < ns.length/\Reach ns k i/\(nd ns i).id=z:=by
  classical
  unfold ol
  simp only [List.mem_map,List.mem_filter,List.mem_range,decide_eq_true_eq]
  exact⟨fun ⟨i,⟨h1,h2⟩,h3⟩=>⟨i,h1,h2,h3⟩,fun ⟨i,h1,h2,h3⟩=>⟨i,⟨h1,h2⟩,h3⟩⟩
theorem IL (n:Nat):(List.range n).Pairwise (· < ·):=List.pairwise_lt_range
theorem FH {ns:List aG} {k:Nat} (hr:cq ns):(ol ns k).Pairwise (· < ·):=by
  classical
  unfold ol
  rw [List.pairwise_map]
  refine ((IL ns.length).filter _).imp_of_mem (fun {a b} _ hb h=>?_)
  exact hr a b h (List.mem_range.1 (List.mem_filter.1 hb).1)
theorem DC:∀ {l m:List Int},l.Pairwise (· < ·)->m.Pairwise (· < ·)->(∀ z,z∈l↔z∈m)->l=m
  | [],[],_,_,_=>rfl
  | [],b::m,_,_,h=>by have:=(h b).2 (List.mem_cons_self ..);cases this
  | a::l,[],_,_,h=>by have:=(h a).1 (List.mem_cons_self ..);cases this
  | a::l,b::m,hl,hm,h=>by
    have hl':=List.pairwise_cons.1 hl
    have hm':=List.pairwise_cons.1 hm
    have e:a=b:=by
      rcases List.mem_cons.1 ((h a).1 (List.mem_cons_self ..)) with e|e
      ·exact e
      rcases List.mem_cons.1 ((h b).2 (List.mem_cons_self ..)) with e2|e2
      ·exact e2.symm
      have:=hm'.1 a e;have:=hl'.1 b e2;omega
    subst e
    congr 1
    refine DC hl'.2 hm'.2 (fun z=>⟨fun hz=>?_,fun hz=>?_⟩)
    ·rcases List.mem_cons.1 ((h z).1 (List.mem_cons_of_mem _ hz)) with e|e
     ·have:=hl'.1 z hz;omega
     exact e
    rcases List.mem_cons.1 ((h z).2 (List.mem_cons_of_mem _ hz)) with e|e
    ·have:=hm'.1 z hz;omega
    exact e
structure oW (ns:List aG) (k:Nat) (seen work:List Nat):Prop where
  start:k∈seen\/k∈work
  reach:∀ i,i∈seen\/i∈work->Reach ns k i
  LW:∀ i,i∈seen->∀ j,j < (nd ns i).ah.length->tgt ns (ent ns i j).id∈seen\/tgt ns (ent ns i j).id∈work
theorem oW.done {ns:List aG} {k:Nat} {seen:List Nat} (h:oW ns k seen []) (i:Nat):i∈seen↔Reach ns k i:=by
  refine⟨fun hi=>h.reach i (.inl hi),fun hi=>?_⟩
  induction hi with
  | refl=>exact h.start.resolve_right (fun h=>by cases h)
  | step j _ hj ih=>exact (h.LW _ ih j hj).resolve_right (fun h=>by cases h)
def tgts (ns:List aG) (x j:Nat):List Nat:=(List.range j).map fun t=>tgt ns (ent ns x t).id
theorem Fw (ns:List aG) (x j:Nat):tgts ns x (j+1)=tgts ns x j++[tgt ns (ent ns x j).id]:=by simp [tgts,List.range_succ]
theorem uw (ns:List aG) (x j:Nat):(tgts ns x j).length=j:=by simp [tgts]
theorem oW.old {ns:List aG} {k x:Nat} {seen work:List Nat} (h:oW ns k seen (x::work)) (hx:x∈seen):oW ns k seen work:=by
  have aux:∀ i,i∈seen\/i∈x::work->i∈seen\/i∈work:=fun i hi=>by
    rcases hi with hi|hi
    ·exact .inl hi
    rcases List.mem_cons.1 hi with e|hi
    ·subst e;exact .inl hx
    exact .inr hi
  exact⟨aux k h.start,fun i hi=>h.reach i (hi.imp id (List.mem_cons_of_mem _)),fun i hi j hj=>aux _ (h.LW i hi j hj)⟩
theorem oW.new {ns:List aG} {k x:Nat} {seen work:List Nat} (h:oW ns k seen (x::work)):oW ns k (x::seen) (work++tgts ns x (nd ns x).ah.length):=by
  have aux:∀ i,i∈seen\/i∈x::work->i∈x::seen\/i∈work++tgts ns x (nd ns x).ah.length:=fun i hi=>by
    rcases hi with hi|hi
    ·exact .inl (List.mem_cons_of_mem _ hi)
    rcases List.mem_cons.1 hi with e|hi
    ·subst e;exact .inl (List.mem_cons_self ..)
    exact .inr (List.mem_append.2 (.inl hi))
  refine⟨aux k h.start,fun i hi=>?_,fun i hi j hj=>?_⟩
  ·rcases hi with hi|hi
   ·rcases List.mem_cons.1 hi with e|hi
    ·subst e;exact h.reach i (.inr (List.mem_cons_self ..))
    exact h.reach i (.inl hi)
   rcases List.mem_append.1 hi with hi|hi
   ·exact h.reach i (.inr (List.mem_cons_of_mem _ hi))
   obtain⟨t,ht,rfl⟩:=List.mem_map.1 hi
   exact .step t (h.reach x (.inr (List.mem_cons_self ..))) (List.mem_range.1 ht)
  rcases List.mem_cons.1 hi with e|hi
  ·subst e
   exact .inr (List.mem_append.2 (.inr (List.mem_map.2 ⟨j,List.mem_range.2 hj,rfl⟩)))
  exact aux _ (h.LW i hi j hj)
def jH (ns:List aG) (seen:List Nat):Nat->Nat
  | 0=>0
  | n+1=>jH ns seen n+(if n∈seen then 0 else (nd ns n).ah.length)
theorem Fx {ns:List aG} {seen:List Nat} {x:Nat}:∀ n,n<=x->jH ns (x::seen) n=jH ns seen n
  | 0,_=>rfl
  | n+1,h=>by
    have:¬ n=x:=by omega
    rw [jH,jH,Fx n (by omega)]
    simp [this]
theorem uZ {ns:List aG} {seen:List Nat} {x:Nat} (hx:x∉seen):∀ n,x < n->jH ns (x::seen) n+(nd ns x).ah.length=jH ns seen n
  | 0,h=>absurd h (Nat.not_lt_zero _)
  | n+1,h=>by
    rw [jH,jH]
    by_cases e:n=x
    ·subst e
     rw [Fx n (Nat.le_refl _)]
     simp [hx]
    have:=uZ (ns:=ns) hx n (by omega)
    have h1:(n∈x::seen)=(n∈seen):=by simp [e]
    simp only [h1]
    omega
theorem Fy (ns:List aG) (seen:List Nat):∀ n,jH ns seen n<=dS ns n
  | 0=>Nat.le_refl _
  | n+1=>by
    have:=Fy ns seen n
    rw [jH,dS]
    split<;>omega
def sf (ns:List aG) (seen:List Nat) (z:Int):Option Value:=if 0<=jm ns z/\tgt ns z∈seen then some (.agg #[]) else none
theorem rZ {ns:List aG} {k:Nat} (hr:cq ns) (hk:k < ns.length):jm ns (nd ns k).id=(k:Int)/\tgt ns (nd ns k).id=k:=by
  have h:=Gl hr hk (rfl:(nd ns k).id=(nd ns k).id)
  refine⟨h,?_⟩
  unfold tgt
  rw [h]
  rfl
theorem SH {ns:List aG}:mf (sf ns [])=fun _=>none:=by
  rw [← zK]
  congr 1
  funext z
  exact if_neg (fun e=>by cases e.2)
theorem Wb {ns:List aG} {seen:List Nat} {x:Nat} (hr:cq ns) (hx:x < ns.length) (h:x∈seen):mf (sf ns seen) (.int .i64 (nd ns x).id)=some (.agg #[]):=by
  obtain⟨h1,h2⟩:=rZ hr hx
  exact if_pos ⟨by omega,by rw [h2];exact h⟩
theorem Ou {ns:List aG} {seen:List Nat} {x:Nat} (hr:cq ns) (hx:x < ns.length) (h:x∉seen):mf (sf ns seen) (.int .i64 (nd ns x).id)=none:=by
  obtain⟨h1,h2⟩:=rZ hr hx
  exact if_neg (fun e=>h (by rw [← h2];exact e.2))
theorem Vg {ns:List aG} {seen:List Nat} {x:Nat} (hr:cq ns) (hx:x < ns.length):kf (mf (sf ns seen)) (.int .i64 (nd ns x).id) (some (.agg #[]))=mf (sf ns (x::seen)):=by
  obtain⟨h1,h2⟩:=rZ hr hx
  rw [Cq]
  congr 1
  funext z
  unfold sf
  by_cases e:z=(nd ns x).id
  ·subst e
   rw [if_pos rfl,if_pos ⟨by omega,by rw [h2];exact List.mem_cons_self ..⟩]
  rw [if_neg e]
  by_cases e2:0<=jm ns z
  ·have e3:¬ tgt ns z=x:=fun e3=>e (by rw [← (jB e2).2.1,e3])
   simp [e2,e3]
  rw [if_neg (fun h=>e2 h.1),if_neg (fun h=>e2 h.1)]
theorem Vh {ns:List aG} {seen:List Nat} {x:Nat} (hr:cq ns) (hx:x < ns.length) (h:x∉seen):(if ((mf (sf ns seen)) (.int .i64 (nd ns x).id)).isSome then seen.length else seen.length+1)=(x::seen).length:=by
  rw [Ou hr hx h]
  rfl
theorem LX {ns:List aG} {k:Nat} {seen:List Nat} {ss:List Int} (hok:bp ns) (h:oW ns k seen []) (hs:KeysOf (mf (sf ns seen)) ss):ss=ol ns k:=by
  refine DC hs.sorted (FH hok.rise) (fun z=>?_)
  rw [hs.mem,DB]
  show (sf ns seen z).isSome=true↔_
  unfold sf
  refine⟨fun hz=>?_,fun ⟨i,h1,h2,h3⟩=>?_⟩
  ·split at hz
   ·rename_i h1
    obtain⟨h2,h3,_⟩:=jB h1.1
    exact⟨tgt ns z,h2,(h.done _).1 h1.2,h3⟩
   cases hz
  obtain⟨e1,e2⟩:=rZ hok.rise h1
  rw [h3] at e1 e2
  rw [if_pos ⟨by omega,by rw [e2];exact (h.done i).2 h2⟩]
  rfl
def j9 (A:Option Addr) (l:List Nat):List Value:=l.map fun k=>.pointer (some ⟨ax A,av A+k * 10,none⟩)
theorem Ov (A:Option Addr) (l:List Nat) (k:Nat):j9 A (l++[k])=j9 A l++[.pointer (some ⟨ax A,av A+k * 10,none⟩)]:=by simp [j9]
theorem IQ {α:Type} (l:List α) (x:α):(l++[x]).length=l.length+1:=by simp
structure ZH (ns:List aG) (k:Nat) (mk work:List Nat) (now:Option (Nat×Nat)):Prop where
  start:k∈mk
  reach:∀ i,i∈mk->Reach ns k i
  lies:∀ i,i∈work->i∈mk
  nodup:mk.Nodup
  LW:∀ i,i∈mk->i∈work\/(∃ j,now=some (i,j)/\∀ t,t < j->tgt ns (ent ns i t).id∈mk)\/∀ t,t < (nd ns i).ah.length->tgt ns (ent ns i t).id∈mk
noncomputable def bH (ns:List aG) (root:Int):List Int×Int:=if gF ns root=0 then (ol ns (tgt ns root),0) else ([],gF ns root)
theorem r8 {ns:List aG} {root:Int} (h:gF ns root=0):bH ns root=(ol ns (tgt ns root),0):=if_pos h
theorem xO {ns:List aG} {root:Int} (h:¬ gF ns root=0):bH ns root=([],gF ns root):=if_neg h
end
section
open Go.RowKit
attribute [local irreducible] ak aW af aj
theorem IU {β:Bs} (A:Option Addr) (c:Nat) (ns:List aG) (L:Lay) (hG:aF β A ns L) (hB:Cu ns) (root:Int) (hz:kX root) :
    bw Tryz.prog β 18 #[.agg #[.slice A ns.length c],vI root] [] (fun β' v l=>∃ B cap,v=.tuple #[.slice B (bH ns root).1.length cap,vI (bH ns root).2]/\l=[]/\cF β' B (jD (bH ns root).1)):=by
 refine bw.enter Tryz.func18 rfl Tryz.ntmps18 (Nat.le_of_ble_eq_true rfl) (fun hle0 R=>?_)
 refine SR (gN 3 (fun b1=>[(2,vP b1)]) (fun _=>[]) (fun _=>[]) (fun b1=>.blk b1 [.slice A (ns.length) (c)] 24) (fun b1=>?_))
 refine NS (gK 2 [(17,.agg #[.slice A (ns.length) (c)]),(18,vI (root))] [(0,a_ 1 b1)] ?_)
 refine gL [] (QG A c ns L hG hB root hz) ?_
 rintro _ _ (⟨mb,rfl,hbg,rfl⟩|⟨x,y,rfl,hbg,rfl⟩)
 ·obtain⟨hok,hat,hkd⟩:=Jy hbg
  have htl:=jB hat
  refine gK 7 [(6,.map (some mb)),(7,.pointer (some ⟨(ax A),av A+(tgt ns root) * 10,none⟩)),(8,vI 0)] [] ?_
  refine NN (af.seq (SR (gK 2 [(24,.bool false)] [] ?_)))
  refine NN (CF (af.skip (NX (SR (ak.kV (d:=(some 26)) (t:=102) (fun _=>by kernel_rfl) Tryz.prog rfl 3 (fun m2=>?_))))))
  refine gK 1 [(9,.map (some m2))] [] ?_
  refine NS (gN 2 (fun b3=>[(28,.slice (some ⟨b3,0,none⟩) (1) (1))]) (fun _=>[]) (fun _=>[]) (fun b3=>.blk b3 [.pointer (some ⟨(ax A),av A+(tgt ns root) * 10,none⟩)] 99) (fun b3=>?_))
  refine ak.dI 3 (p:=.abs (aN Tryz.prog 3 m2 (fun _=>none) 0)) (p':=.abs (aN Tryz.prog 3 m2 (mf (sf ns ([]:List Nat))) (([]:List Nat).length))) (by kernel_rfl) (by rw [SH];rfl) ?_
  refine ak.mem (fun w hS=>hS.Vd (i:=4) (b:=b3) (cs:=[.pointer (some ⟨(ax A),av A+(tgt ns root) * 10,none⟩)]) (e:=99) 1 1 (by kernel_rfl) rfl (by decide)) ?_
  refine ak.dI 4 (p:=.abs (gM 99 1 (some ⟨b3,0,none⟩) 1 1 ([.pointer (some ⟨(ax A),av A+(tgt ns root) * 10,none⟩)]))) (p':=.abs (gM 99 1 (some ⟨b3,0,none⟩) 1 1 (j9 A ([tgt ns root])))) (by kernel_rfl) (rfl) ?_
  refine gK 1 [(10,.slice (some ⟨b3,0,none⟩) (1) (1))] [] ?_
  refine NN (af.seq (af.block ?_))
  refine af.loop (ι:=(List Nat)×(List Nat)×(Option Addr)×Nat) (fun ((seen,work,Aw,cw):(List Nat)×(List Nat)×(Option Addr)×Nat)=>(oW ns (tgt ns root) seen work)/\(seen.Nodup)/\(work.length+jH ns seen ns.length<=8193)) (fun ((seen,work,Aw,cw):(List Nat)×(List Nat)×(Option Addr)×Nat)=>work.length+jH ns seen ns.length) (fun ((seen,work,Aw,cw):(List Nat)×(List Nat)×(Option Addr)×Nat)=>[(6,.map (some mb)),(9,.map (some m2)),(10,.slice Aw (work.length) (cw))]) (fun ((seen,work,Aw,cw):(List Nat)×(List Nat)×(Option Addr)×Nat)=>[.abs (aN Tryz.prog 3 mb (mf (bf A ns ns.length)) ns.length),.abs (aN Tryz.prog 3 m2 (mf (sf ns seen)) seen.length),.abs (gM 99 1 Aw work.length cw (j9 A work)),.abs R]) (([]:List Nat),[tgt ns root],some ⟨b3,0,none⟩,1) (idx:=[6,9,10]) (pk:=[0,3,4,1]) (show (oW ns (tgt ns root) (([]:List Nat)) ([tgt ns root]))/\((([]:List Nat)).Nodup)/\(([tgt ns root]).length+jH ns (([]:List Nat)) ns.length<=8193) from ⟨⟨.inr (List.mem_cons_self ..),fun i hi=>by rcases hi with hi|hi;cases hi;rw [List.mem_singleton.1 hi];exact .refl,fun i hi=>by cases hi⟩,List.nodup_nil,by have:=Fy ns [] ns.length;have:=hok.sum;show 1+_<=_;omega⟩) (fun _=>by kernel_rfl) rfl (by kernel_rfl) ?_
  rintro⟨seen,work,Aw,cw⟩ ⟨hinv,hnd,Z7⟩
  show af _ _ _ _ [(6,.map (some mb)),(9,.map (some m2)),(10,.slice Aw (work.length) (cw))] [.abs (aN Tryz.prog 3 mb (mf (bf A ns ns.length)) ns.length),.abs (aN Tryz.prog 3 m2 (mf (sf ns seen)) seen.length),.abs (gM 99 1 Aw work.length cw (j9 A work)),.abs R] _
  refine af.seq (SR (gK 3 [(31,.bool (decide ((((work.length:Nat):Int):Int) > (0:Int))))] [] ?_))
  refine NN (af.aV (p:=(((work.length:Nat):Int):Int) > (0:Int)) (fun _=>by kernel_rfl) (fun Rz=>?_) (fun Rz=>?_))
  ·obtain⟨x,rest,hw⟩:∃ x g2,work=x::g2:=List.exists_cons_of_length_pos (by omega)
   have hx:x < ns.length:=(hinv.reach x (.inr (by rw [hw];exact List.mem_cons_self ..))).lt hok htl.1
   have hwl:work.length=rest.length+1:=by rw [hw];rfl
   have X8:=Bx ns.length seen hnd (fun i hi=>(hinv.reach i (.inl hi)).lt hok htl.1)
   have hll:=hB.hl
   have hd3:=hB.hd x hx
   refine af.skip (NX (af.block (SR ?_)))
   refine gK 1 [(32,.slice Aw (work.length) (cw))] [] ?_
   refine ak.tell (p:=(Aw=some ⟨ax Aw,av Aw,none⟩)) (fun w hS=>let ⟨F,h⟩:=hS.get (i:=2) rfl;(gM.len h).2.2) (fun Y7=>?_)
   refine gK 3 [(11,.pointer (some ⟨(ax A),av A+x * 10,none⟩))] [(0,p_ ⟨[],some 0,none,some ⟨(ax Aw),av Aw,none⟩,none⟩ [0=((0:Nat):Int),0 < work.length,(⟨(ax Aw),av Aw,none⟩:Addr).spot=none,(Aw:Option Addr)=some ⟨(ax Aw),av Aw,none⟩] ⟨rfl,by omega,rfl,Y7,trivial⟩),(1,p_ ⟨[.view 2 (.pointer (some ⟨(ax A),av A+x * 10,none⟩))],none,none,none,none⟩ [(∀ F w,(gM 99 1 Aw work.length cw (j9 A work)).h F w->w.cell? ⟨(ax Aw),av Aw+0 * 1,none⟩=some (.pointer (some ⟨(ax A),av A+x * 10,none⟩)))] ⟨gM.cellAt (i:=0) (j:=0) (by rw [hw];rfl),trivial⟩)] ?_
   refine NS (gK 1 [(35,.slice Aw (work.length) (cw))] [] ?_)
   refine ak.Ot 2 (d:=(some 36)) (t:=103) (e:=99) (size:=1) (m:=1) (n:=work.length) (cap:=cw) (A:=Aw) (xs:=(j9 A work)) (x:=(.tmp 35)) (lo:=(.const (.int .i64 1))) (fun _=>by kernel_rfl) (by kernel_rfl) (fun _=>by kernel_rfl) (fun _=>by kernel_rfl) Tryz.underlying103 (by kernel_rfl) (by omega) (fun A4=>?_)
   refine ak.dI 2 (p:=.abs (gM 99 1 A4 (work.length - 1) (cw - 1) ((j9 A work).drop (1 * 1)))) (p':=.abs (gM 99 1 A4 rest.length (cw - 1) (j9 A rest))) (by kernel_rfl) (by rw [hw];rfl) ?_
   refine ak.slot 36 (.slice A4 ((work.length - 1)) ((cw - 1))) (.slice A4 (rest.length) ((cw - 1))) (fun _=>by kernel_rfl) (by rw [hw];rfl) ?_
   refine gK 1 [(10,.slice A4 (rest.length) ((cw - 1)))] [] ?_
   refine NN (af.seq (SR (gK 5 [(38,.map (some m2)),(42,vI ((nd ns x).id))] [(4,p_ ⟨[.old (.int .i64 ((nd ns x).id))],none,none,none,none⟩ [(Rd β ⟨(ax A),av A+x * 10,none⟩ (.int .i64 ((nd ns x).id)))] ⟨aF.rd hG (i:=x) (by omega) (j:=0) rfl,trivial⟩)] ?_)))
   by_cases Fz:x∈seen
   ·refine ak.oZ 1 (d:=(some 43)) (t:=102) (K:=3) (E:=104) (b:=m2) (n:=seen.length) (f:=(mf (sf ns seen))) (x:=(.tmp 38)) (ix:=(.tmp 42)) (key:=.int .i64 ((nd ns x).id)) (z:=.agg #[]) (kl:=(.int .i64 (nd ns x).id)) (r:=(some (.agg #[]))) (fun _=>by kernel_rfl) (by kernel_rfl) (fun _=>by kernel_rfl) (fun _=>by kernel_rfl) dG Tryz.underlying102 (fun _=>by kernel_rfl) (kQ (hB.ids x hx).1 (hB.ids x hx).2) (Wb hok.rise hx Fz) ?_
    refine gN 6 (fun b5=>[(13,.bool true)]) (fun _=>[]) (fun _=>[]) (fun b5=>.blk b5 [] 104) (fun b5=>?_)
    refine NS (gK 1 [(46,.bool true)] [] ?_)
    refine NN (CT (af.exit (aj.aU (aj.cK ?_))))
    exact aj.turn (seen,rest,A4,(cw - 1)) (idx:=[6,9,10]) (pk:=[0,1,2,3]) (show (oW ns (tgt ns root) seen rest)/\(seen.Nodup)/\(rest.length+jH ns seen ns.length<=8193) from ⟨(hw ▸ hinv:oW ns _ seen (x::rest)).old Fz,hnd,by omega⟩) (by show rest.length+jH ns seen ns.length < work.length+jH ns seen ns.length;first|omega|(have Xb:=uZ (ns:=ns) Fz ns.length hx;rw [List.length_append,uw];omega)) (fun _=>by kernel_rfl) rfl (by kernel_rfl)
   refine ak.oZ 1 (d:=(some 43)) (t:=102) (K:=3) (E:=104) (b:=m2) (n:=seen.length) (f:=(mf (sf ns seen))) (x:=(.tmp 38)) (ix:=(.tmp 42)) (key:=.int .i64 ((nd ns x).id)) (z:=.agg #[]) (kl:=(.int .i64 (nd ns x).id)) (r:=none) (fun _=>by kernel_rfl) (by kernel_rfl) (fun _=>by kernel_rfl) (fun _=>by kernel_rfl) dG Tryz.underlying102 (fun _=>by kernel_rfl) (kQ (hB.ids x hx).1 (hB.ids x hx).2) (Ou hok.rise hx Fz) ?_
   refine gN 6 (fun b6=>[(13,.bool false)]) (fun _=>[]) (fun _=>[]) (fun b6=>.blk b6 [] 104) (fun b6=>?_)
   refine NS (gK 1 [(46,.bool false)] [] ?_)
   refine NN (CF (af.skip (NX (SR (gK 6 [(47,.map (some m2)),(51,vI ((nd ns x).id)),(52,.agg #[])] [(4,p_ ⟨[.old (.int .i64 ((nd ns x).id))],none,none,none,none⟩ [(Rd β ⟨(ax A),av A+x * 10,none⟩ (.int .i64 ((nd ns x).id)))] ⟨aF.rd hG (i:=x) (by omega) (j:=0) rfl,trivial⟩)] ?_)))))
   refine ak.kH 1 (d:=none) (t:=102) (K:=3) (E:=104) (b:=m2) (n:=seen.length) (f:=(mf (sf ns seen))) (x:=(.tmp 47)) (ix:=(.tmp 51)) (y:=(.tmp 52)) (key:=.int .i64 ((nd ns x).id)) (u:=.agg #[]) (kl:=(.int .i64 (nd ns x).id)) (n':=(x::seen).length) (f':=(mf (sf ns (x::seen)))) (fun _=>by kernel_rfl) (by kernel_rfl) (fun _=>by kernel_rfl) (fun _=>by kernel_rfl) (fun _=>by kernel_rfl) dG Tryz.underlying102 (by unfold maxLen;omega) (kQ (hB.ids x hx).1 (hB.ids x hx).2) (Vh hok.rise hx Fz) (Vg hok.rise hx) ?_
   refine NS (ak.dI 2 (p:=.abs (gM 99 1 A4 rest.length (cw - 1) (j9 A rest))) (p':=.abs (gM 99 1 A4 ((rest++tgts ns x 0).length) (cw - 1) (j9 A (rest++tgts ns x 0)))) (by kernel_rfl) (by rw [show tgts ns x 0=[] from rfl,List.append_nil]) ?_)
   refine ak.slot 10 (.slice A4 (rest.length) ((cw - 1))) (.slice A4 ((rest++tgts ns x 0).length) ((cw - 1))) (fun _=>by kernel_rfl) (by rw [show tgts ns x 0=[] from rfl,List.append_nil]) ?_
   refine gK 6 [(56,.slice (L.eA x) ((nd ns x).ah.length) ((L.eC x))),(57,vI ↑((nd ns x).ah.length)),(58,vI 0)] [(3,p_ ⟨[.old (.slice (L.eA x) ((nd ns x).ah.length) ((L.eC x)))],none,none,none,none⟩ [(Rd β ⟨(ax A),av A+x * 10+9,none⟩ (.slice (L.eA x) ((nd ns x).ah.length) ((L.eC x))))] ⟨aF.rd hG (i:=x) (by omega) (j:=9) rfl,trivial⟩)] ?_
   refine NN (af.block ?_)
   refine af.loop (ι:=Nat×(Option Addr)×Nat) (fun ((j,Ax,cx):Nat×(Option Addr)×Nat)=>(j<=(nd ns x).ah.length)) (fun ((j,Ax,cx):Nat×(Option Addr)×Nat)=>(nd ns x).ah.length - j) (fun ((j,Ax,cx):Nat×(Option Addr)×Nat)=>[(6,.map (some mb)),(9,.map (some m2)),(10,.slice Ax ((rest++tgts ns x j).length) (cx)),(56,.slice (L.eA x) ((nd ns x).ah.length) ((L.eC x))),(57,vI ↑((nd ns x).ah.length)),(58,vI ↑j)]) (fun ((j,Ax,cx):Nat×(Option Addr)×Nat)=>[.abs (aN Tryz.prog 3 mb (mf (bf A ns ns.length)) ns.length),.abs (aN Tryz.prog 3 m2 (mf (sf ns (x::seen))) ((x::seen).length)),.abs (gM 99 1 Ax ((rest++tgts ns x j).length) cx (j9 A (rest++tgts ns x j))),.abs R]) (0,A4,(cw - 1)) (idx:=[6,9,10,56,57,58]) (pk:=[0,1,2,3]) (show (0<=(nd ns x).ah.length) from (by omega)) (fun _=>by kernel_rfl) rfl (by kernel_rfl) ?_
   rintro⟨j,Ax,cx⟩ hj
   show af _ _ _ _ [(6,.map (some mb)),(9,.map (some m2)),(10,.slice Ax ((rest++tgts ns x j).length) (cx)),(56,.slice (L.eA x) ((nd ns x).ah.length) ((L.eC x))),(57,vI ↑((nd ns x).ah.length)),(58,vI ↑j)] [.abs (aN Tryz.prog 3 mb (mf (bf A ns ns.length)) ns.length),.abs (aN Tryz.prog 3 m2 (mf (sf ns (x::seen))) ((x::seen).length)),.abs (gM 99 1 Ax ((rest++tgts ns x j).length) cx (j9 A (rest++tgts ns x j))),.abs R] _
   refine SR (gK 1 [(59,.bool (decide ((((j:Nat):Int):Int) < ((((nd ns x).ah.length:Nat):Int):Int))))] [] ?_)
   refine NN (af.seq (af.aV (p:=(((j:Nat):Int):Int) < ((((nd ns x).ah.length:Nat):Int):Int)) (fun _=>by kernel_rfl) (fun UG=>?_) (fun UG=>?_)))
   ·refine af.skip (NX (af.seq (af.block (SR ?_))))
    refine gN 4 (fun b7=>[(15,vP b7)]) (fun b7=>[(0,p_ ⟨[],some j,none,some ⟨(ax (L.eA x)),av (L.eA x),none⟩,none⟩ [((j:Nat):Int)=((j:Nat):Int),j < (nd ns x).ah.length,(⟨(ax (L.eA x)),av (L.eA x),none⟩:Addr).spot=none,((L.eA x):Option Addr)=some ⟨(ax (L.eA x)),av (L.eA x),none⟩] ⟨rfl,by omega,rfl,eG.hd (hG.ah x (by omega)) (i:=j) (by omega),trivial⟩),(1,p_ ⟨[.old (.string (en (nd ns x).ah j).name),.old (.int .i64 ((en (nd ns x).ah j).id))],none,none,none,none⟩ [(Rd β ⟨(ax (L.eA x)),av (L.eA x)+j * 2+1,none⟩ (.int .i64 ((en (nd ns x).ah j).id))),(Rd β ⟨(ax (L.eA x)),av (L.eA x)+j * 2,none⟩ (.string (en (nd ns x).ah j).name))] ⟨eG.rd (hG.ah x (by omega)) (i:=j) (by omega) (j:=1) rfl,eG.rd (hG.ah x (by omega)) (i:=j) (by omega) (j:=0) rfl,trivial⟩),(3,A_ 4 b7 2)]) (fun _=>[]) (fun b7=>.blk b7 [.string (en (nd ns x).ah j).name,vI ((en (nd ns x).ah j).id)] 110) (fun b7=>?_)
    refine NN (af.region (gK 4 [(62,.slice Ax ((rest++tgts ns x j).length) (cx)),(63,.map (some mb)),(65,vI ((en (nd ns x).ah j).id))] [(3,a_ 4 b7)] ?_))
    have Vi:=(hok.ah x hx j (by omega)).at_
    have X9:=jB Vi
    refine ak.dR 0 (d:=(some 66)) (t:=98) (K:=3) (E:=99) (b:=mb) (n:=ns.length) (f:=(mf (bf A ns ns.length))) (x:=(.tmp 63)) (ix:=(.tmp 65)) (key:=.int .i64 ((en (nd ns x).ah j).id)) (z:=.pointer none) (kl:=(.int .i64 (en (nd ns x).ah j).id)) (r:=(some (.pointer (some ⟨(ax A),av A+(tgt ns (en (nd ns x).ah j).id) * 10,none⟩)))) (fun _=>by kernel_rfl) (by kernel_rfl) (fun _=>by kernel_rfl) (fun _=>by kernel_rfl) dG Tryz.underlying98 (fun _=>by kernel_rfl) (kQ (hB.hwf x hx j (by omega)).1 (hB.hwf x hx j (by omega)).2) (FN Vi X9.1) ?_
    refine gN 1 (fun b8=>[(67,.slice (some ⟨b8,0,none⟩) (1) (1))]) (fun _=>[]) (fun _=>[]) (fun b8=>.blk b8 [.pointer (some ⟨(ax A),av A+(tgt ns (en (nd ns x).ah j).id) * 10,none⟩)] 99) (fun b8=>?_)
    refine ak.LU 2 (d:=(some 68)) (t:=103) (e:=99) (z:=.pointer none) (size:=1) (bytes:=8) (n:=(rest++tgts ns x j).length) (cap:=cx) (A:=Ax) (ad:=⟨b8,0,none⟩) (xs:=(j9 A (rest++tgts ns x j))) (s:=(.tmp 62)) (x:=(.tmp 67)) (ats:=#[103,103]) (m:=1) (c':=1) (news:=[.pointer (some ⟨(ax A),av A+(tgt ns (en (nd ns x).ah j).id) * 10,none⟩)]) (fun _=>by kernel_rfl) rfl (by kernel_rfl) (fun _=>by kernel_rfl) (fun _=>by kernel_rfl) Tryz.underlying103 (by kernel_rfl) rfl (by decide) (rfl) (by simp [Value.oneCell']) (QE (j:=5) rfl) (by unfold maxLen;rw [List.length_append,uw];omega) (by rw [List.length_append,uw];omega) (fun A9 c10=>?_)
    refine ak.dI 2 (p:=.abs (gM 99 1 A9 (((rest++tgts ns x j).length)+1) c10 ((j9 A (rest++tgts ns x j))++[.pointer (some ⟨(ax A),av A+(tgt ns (en (nd ns x).ah j).id) * 10,none⟩)]))) (p':=.abs (gM 99 1 A9 ((rest++tgts ns x (j+1)).length) c10 (j9 A (rest++tgts ns x (j+1))))) (by kernel_rfl) (by rw [Fw,← List.append_assoc,Ov,IQ];rfl) ?_
    refine ak.slot 68 (.slice A9 (((rest++tgts ns x j).length)+1) (c10)) (.slice A9 ((rest++tgts ns x (j+1)).length) (c10)) (fun _=>by kernel_rfl) (by rw [Fw,← List.append_assoc,IQ]) ?_
    refine gK 1 [(10,.slice A9 ((rest++tgts ns x (j+1)).length) (c10))] [] ?_
    refine NL (aj.aP (NX (af.region ?_)))
    refine gK 2 [(58,vI ↑(j+1))] [(0,p_ ⟨[],none,none,none,some (vI ↑(j+1))⟩ [(Value.int .i64 (IntKind.wrap .i64 (((j:Nat):Int)+1)))=(.int .i64 ↑(j+1))] ⟨bB (by omega) (by omega) (by omega),trivial⟩)] ?_
    refine NL ?_
    exact aj.turn ((j+1),A9,c10) (idx:=[6,9,10,56,57,58]) (pk:=[0,1,2,3]) (show (((j+1))<=(nd ns x).ah.length) from (by omega)) (by show (nd ns x).ah.length - ((j+1)) < (nd ns x).ah.length - j;omega) (fun _=>by kernel_rfl) rfl (by kernel_rfl)
   refine af.exit (aj.aU (aj.aU (aj.cK (aj.aP ?_))))
   exact aj.turn ((x::seen),(rest++tgts ns x j),Ax,cx) (idx:=[6,9,10]) (pk:=[0,1,2,3]) (show (oW ns (tgt ns root) ((x::seen)) ((rest++tgts ns x j)))/\(((x::seen)).Nodup)/\(((rest++tgts ns x j)).length+jH ns ((x::seen)) ns.length<=8193) from ⟨by rw [show j=(nd ns x).ah.length by omega];exact (hw ▸ hinv:oW ns _ seen (x::rest)).new,List.nodup_cons.2 ⟨Fz,hnd⟩,by have Xb:=uZ (ns:=ns) Fz ns.length hx;rw [List.length_append,uw];omega⟩) (by show ((rest++tgts ns x j)).length+jH ns ((x::seen)) ns.length < work.length+jH ns seen ns.length;first|omega|(have Xb:=uZ (ns:=ns) Fz ns.length hx;rw [List.length_append,uw];omega)) (fun _=>by kernel_rfl) rfl (by kernel_rfl)
  have X8:=Bx ns.length seen hnd (fun i hi=>(hinv.reach i (.inl hi)).lt hok htl.1)
  have hll:=hB.hl
  refine af.exit (aj.aU (aj.aU (aj.cK (NX (SR ?_)))))
  have hwn:work=[]:=List.eq_nil_of_length_eq_zero (by omega)
  refine gK 1 [(70,.map (some m2))] [] ?_
  refine gL [] (QF (some m2)) ?_
  rintro _ _ ⟨bk,rfl,rfl⟩
  refine gL [2,0] (LV m2 bk seen.length (mf (sf ns seen)) (by omega)) ?_
  rintro _ _ ⟨A5,c5,ss,rfl,hkeys,hsl,rfl⟩
  have hss:ss=ol ns (tgt ns root):=LX hok (hwn ▸ hinv) hkeys
  refine ak.mX (Φ:=fun β'=>cF β' A5 (jD ss)) 2 [0,1,3,4,5] (dw:=[.abs (aN Tryz.prog 3 m2 (mf (sf ns seen)) seen.length),.blk bk [.map (some m2)] 102,.abs (aN Tryz.prog 3 mb (mf (bf A ns ns.length)) ns.length),.abs (gM 99 1 Aw work.length cw (j9 A work)),.abs R]) rfl rfl (by kernel_rfl) (fun F w h β' h1 h2=>cF.jx h h1 h2) (fun U8 nD hR=>?_)
  replace hG:=hG.le nD
  replace hle0:=hle0.trans nD
  refine gK 2 [(4,.slice A5 (ss.length) (c5)),(5,vI 0)] [] ?_
  refine NN (af.ret ?_)
  exact aj.gU (v:=.tuple #[.slice A5 (ss.length) (c5),vI 0]) (l:=[]) (aZ:=[]) [] [4] hle0 (fun _=>by kernel_rfl) trivial rfl (by kernel_rfl) (⟨A5,c5,by rw [r8 hbg,← hss],rfl,by rw [r8 hbg,← hss];exact hR⟩)
 refine gK 7 [(6,x),(7,y),(8,vI ((gF ns root)))] [] ?_
 refine NN (af.seq (SR (gK 2 [(24,.bool (!(decide (((gF ns root):Int)=(0:Int)))))] [] ?_)))
 refine NN (af.gT (p:=((gF ns root):Int)=(0:Int)) (fun _=>by kernel_rfl) (fun x5=>?_) (fun x5=>?_))
 ·refine SR (gK 3 [(4,.slice none (0) (0)),(5,vI ((gF ns root)))] [] ?_)
  refine NN (af.ret (aj.aq ?_))
  exact aj.gU (v:=.tuple #[.slice none (0) (0),vI ((gF ns root))]) (l:=[]) (aZ:=[]) [] [0] hle0 (fun _=>by kernel_rfl) trivial rfl (by kernel_rfl) (⟨none,0,by rw [xO hbg];rfl,rfl,by rw [xO hbg];exact cF.nil⟩)
 exact absurd x5 hbg
end
section
open Go.RowKit Go.Maps bC aE
section k
variable {S:aI} {r k:Nat} {t:Th}
theorem IV (hI:Inv0 S) (hl:Live S.idx t):∃ i,i < (ay S).length/\cI S i=t/\(nd (ay S) i).id=(t.k:Int)/\(nd (ay S) i).kind=t.kind/\jm (ay S) (t.k:Int)=(i:Int)/\tgt (ay S) (t.k:Int)=i:=by
  obtain⟨i,hi,h1,h2⟩:=NR hl
  have hid:(nd (ay S) i).id=(t.k:Int):=by rw [iM hi];exact h2
  have ha:=rZ (xG hI) (k:=i) (by rw [dP];exact hi)
  rw [hid] at ha
  exact⟨i,by rw [dP];exact hi,h1,hid,by rw [iM hi];show (cI S i).kind=_;rw [h1],ha.1,ha.2⟩
theorem Ar (hI:Inv0 S):Cu (ay S):=⟨Im hI,Ql hI,NT hI,NU hI,fun i hi=>by
  rw [dP] at hi
  rw [iM hi]
  have h:=hI.idx _ _ (get_at hI hi)
  have h2:=hI.last
  show kX (bZ S i)
  unfold kX;omega⟩
theorem IW (hI:Inv0 S) (hr:Live S.idx ⟨r,2⟩):gF (ay S) (r:Int)=0:=by
  obtain⟨i,_,_,_,h4,h5,h6⟩:=IV hI hr
  exact Fv hI.Kf (by rw [show ((r:Nat):Int)=(((⟨r,2⟩:Th).k:Nat):Int) from rfl,h5];omega) (by rw [show ((r:Nat):Int)=(((⟨r,2⟩:Th).k:Nat):Int) from rfl,h6];exact h4)
theorem Ow (hI:Inv0 S) (hr:Live S.idx ⟨r,2⟩) (hb:fV S.O r k):Live S.idx ⟨k,2⟩->∃ i,i < (ay S).length/\Reach (ay S) (tgt (ay S) (r:Int)) i/\cI S i=⟨k,2⟩/\(nd (ay S) i).id=(k:Int):=by
  induction hb with
  | here=>
    intro _
    obtain⟨i,h1,h2,h3,_,_,h6⟩:=IV hI hr
    refine⟨i,h1,?_,h2,h3⟩
    rw [show tgt (ay S) ((r:Nat):Int)=i from h6]
    exact .refl
  | @up x j e _ ih=>
    intro hx
    obtain⟨_,hj,n,hl⟩:=(hI.up _ hx j).1 e
    obtain⟨a,ha,Y8,xS,hia⟩:=ih hj
    have ha2:a < S.idx.length:=by rw [← dP];exact ha
    have hm:=lS hl
    obtain⟨q,hq,e1⟩:=List.getElem_of_mem hm
    have hes:=qb hq
    rw [List.getElem?_eq_getElem hq,e1] at hes
    injection hes with hes
    have e2:mA (obj S.O j).ah q=⟨x,2⟩:=(congrArg Prod.snd hes).symm
    have Xc:q < (nd (ay S) a).ah.length:=by
      rw [iM ha2]
      show q < ((obj S.O (cI S a).k).ah.map _).length
      rw [List.length_map,xS];exact hq
    obtain⟨b,hb,h1,h2,_⟩:=rY hI ha2 Xc
    rw [xS,e2] at h1
    refine⟨b,by rw [dP];exact hb,?_,h1,?_⟩
    ·rw [← h2];exact .step q Y8 Xc
    rw [iM hb]
    show bZ S b=_
    rw [(lC hI hb).2,h1]
theorem Ox (hI:Inv0 S) (hr:Live S.idx ⟨r,2⟩) (hb:fV S.O r k) (hk:Live S.idx ⟨k,2⟩):(k:Int)∈(bH (ay S) (r:Int)).1:=by
  obtain⟨i,h1,h2,_,h4⟩:=Ow hI hr hb hk
  rw [r8 (IW hI hr)]
  exact DB.2 ⟨i,h1,h2,h4⟩
theorem LY (hI:Inv0 S) (hl:Live S.idx t) (h0:(obj S.O t.k).links=0):kO (ay S) (t.k:Int)=(0,0):=by
  obtain⟨i,h1,h2,h3,_,h5,h6⟩:=IV hI hl
  rw [Fu hI.Kf (by rw [h5];omega)]
  have hz:iT S.idx S.O t.k=0:=by have:=hI.links t hl;omega
  have hrow:∀ a,a < S.idx.length->∀ j,j<=(nd (ay S) a).ah.length->ia (nd (ay S) a).ah (t.k:Int) j=0:=by
    intro a ha j
    induction j with
    | zero=>exact fun _=>rfl
    | succ j ih=>
      intro hj
      rw [← Bc,ih (by omega)]
      have he:=qo ha (j:=j) (by omega)
      intro hq
      have hq:(ent (ay S) a j).id=(t.k:Int):=hq
      rw [he.2] at hq
      have hlv:=qU hI ha he.1
      have hd:=(lC hI ha).1
      have hko:=(hI.ob _ hlv.1).1
      have hq:(obj S.O (mA (obj S.O (cI S a).k).ah j).k).id=(t.k:Int):=hq
      rw [hko] at hq
      have e2:cI S a=⟨(cI S a).k,2⟩:=by rw [← hlv.2.2.2]
      have hd2:aE.get S.idx ((cI S a).k:Int)=some ⟨(cI S a).k,2⟩:=hd.trans (congrArg some e2)
      exact Pp hz hd2 _ (List.mem_of_getElem? (qb he.1)) (by show (mA _ j).k=_;omega)
  have hall:∀ n,n<=(ay S).length->fZ (ay S) (t.k:Int) n=0:=by
    intro n
    induction n with
    | zero=>exact fun _=>rfl
    | succ n ih=>
      intro hn
      rw [fZ,ih (by omega),hrow n (by rw [← dP];omega) _ (Nat.le_refl _)]
  rw [hall _ (Nat.le_refl _)];rfl
theorem DE (hI:Inv0 S) (root:Int):(bH (ay S) root).1.length<=1048576:=by
  classical
  refine Nat.le_trans ?_ (Im hI)
  by_cases h:gF (ay S) root=0
  ·rw [r8 h]
   show (ol (ay S) (tgt (ay S) root)).length<=_
   unfold ol
   rw [List.length_map]
   exact Nat.le_trans (List.length_filter_le _ _) (by simp)
  rw [xO h];exact Nat.zero_le _
end k
end
section
open Go.RowKit Go.Maps bC aE
abbrev kU (h:Int):aB:=⟨11,h,0,⟨#[]⟩,⟨#[]⟩,none,0,[],0,0,0,0,0,0,0⟩
structure HJ (r:Nat) (h:Int) (S:aI) (cur:Int) (own:Bool):Prop where
  hb:HB r S
  rt:aE.get S.us h=some ⟨r,2⟩
  ne:own=true->cur≠h
section x
variable {fs:List bh} {xs:List bM} {root h:Int} {r n:Nat} {S S2 S4:aI} {c2 c4:aB} {cur mode:Int} {own:Bool} {t:Th} {p:ByteArray}
theorem SI (hI:Inv S) (hu:S.us=[]) (hp:S.aD=0) (e:aR fs xs root n S (kN root)=(S2,c2)) (h0:c2.code=0):∃ r:Nat,root=(r:Int)/\HJ r c2.answer S2 c2.answer false:=by
  obtain⟨t,h1,h2,_,h4,h5,_⟩:=LK hI hu hp e h0
  have ht:t=⟨t.k,2⟩:=by rw [← h5]
  refine⟨t.k,h4.symm,fun i u Bd=>?_,?_,fun q=>absurd q Bool.false_ne_true⟩
  ·rw [h2] at Bd
   have h6:=get_mem Bd
   rw [List.mem_singleton] at h6
   injection h6 with h6 h7
   rw [h7]
   exact⟨h5,.inl .here⟩
  rw [h2,h1,ht];rfl
theorem HJ.open_ (hj:HJ r h S cur own) (hI:Inv S) (e:aR fs xs (r:Int) n S (fk cur p)=(S2,c2)):HB r S2/\aE.get S2.us h=some ⟨r,2⟩/\(c2.code=0->c2.answer≠h):=by
  have h1:HB r S2:=by
    have:=HB.world (fs:=fs) (xs:=xs) (n:=n) (c:=fk cur p) (by show (2:Int)≠1;decide) (by show (2:Int)≠9;decide) (fun S hS hI=>hS.Y4 hI) hj.hb hI
    rw [e] at this;exact this
  have hn:=(least_le hI.usr (fun x hx=>(hI.sE x hx).1)).2.1
  rcases vu e with ⟨_,u,h3,h4,_⟩|⟨h2,_,h4,_⟩
  ·have hne:c2.answer≠h:=fun q=>hn (by rw [← h3,q];exact qV hj.rt)
   refine⟨h1,?_,fun _=>hne⟩
   rw [h4,lf hn,if_neg (fun q=>hne (by rw [h3,q]))]
   exact hj.rt
  exact⟨h1,by rw [h4];exact hj.rt,fun q=>absurd q h2⟩
theorem HJ.Wd (hb:HB r S) (RM:aE.get S.us h=some ⟨r,2⟩) (hI:Inv S) (e:aR fs xs (r:Int) n S (rT cur p mode)=(S2,c2)):HB r S2/\aE.get S2.us h=some ⟨r,2⟩:=by
  have h1:HB r S2:=by
    have:=HB.world (fs:=fs) (xs:=xs) (n:=n) (c:=rT cur p mode) (by show (4:Int)≠1;decide) (by show (4:Int)≠9;decide) (fun S hS hI=>hS.Y5 hI) hb hI
    rw [e] at this;exact this
  exact⟨h1,by rw [(Og e).1];exact RM⟩
theorem HJ.step (hj:HJ r h S cur own) (hI:Inv S):HB r (ck fs xs (r:Int) S n cur p mode).S/\aE.get (ck fs xs (r:Int) S n cur p mode).S.us h=some ⟨r,2⟩/\((ck fs xs (r:Int) S n cur p mode).code=0->(ck fs xs (r:Int) S n cur p mode).next≠h):=by
  obtain⟨S1,c1,e1⟩:∃ Sx cx,aR fs xs (r:Int) (n+1) S (fk cur p)=(Sx,cx):=⟨_,_,rfl⟩
  obtain⟨a1,a2,a3⟩:=hj.open_ hI e1
  have i1:Inv S1:=by have h:=Inv.aR (fs:=fs) (xs:=xs) (root:=(r:Int)) (n:=n+1) (c:=fk cur p) hI;rw [e1] at h;exact h
  by_cases h1:c1.code=0
  ·rw [xA e1 h1];exact⟨a1,a2,fun _=>a3 h1⟩
  by_cases h2:¬ c1.code=170\/mode < 0
  ·rw [rV e1 h1 h2];exact⟨a1,a2,fun q=>absurd q h1⟩
  obtain⟨S2,c2,e2⟩:∃ Sx cx,aR fs xs (r:Int) (n+2) S1 (rT cur p mode)=(Sx,cx):=⟨_,_,rfl⟩
  obtain⟨b1,b2⟩:=HJ.Wd a1 a2 i1 e2
  have i2:Inv S2:=by have h:=Inv.aR (fs:=fs) (xs:=xs) (root:=(r:Int)) (n:=n+2) (c:=rT cur p mode) i1;rw [e2] at h;exact h
  by_cases h3:¬ c2.code=0/\¬ c2.code=171
  ·rw [zm e1 h1 h2 e2 h3];exact⟨b1,b2,fun q=>absurd q h3.1⟩
  obtain⟨S3,c3,e3⟩:∃ Sx cx,aR fs xs (r:Int) (n+3) S2 (fk cur p)=(Sx,cx):=⟨_,_,rfl⟩
  obtain⟨d1,d2,d3⟩:=HJ.open_ (own:=false) ⟨b1,b2,fun q=>absurd q Bool.false_ne_true⟩ i2 e3
  by_cases h4:c3.code=0
  ·rw [tY e1 h1 h2 e2 h3 e3 h4];exact⟨d1,d2,fun _=>d3 h4⟩
  rw [uM e1 h1 h2 e2 h3 e3 h4];exact⟨d1,d2,fun q=>absurd q h4⟩
theorem Ca:∀ (l:List ByteArray) (i:Int) (S:aI) (n:Nat) (cur:Int) (own:Bool) (made:Int),Held S cur own->HJ r h S cur own->(fI fs xs (r:Int) mode l i S n cur own made).code=0->HJ r h (fI fs xs (r:Int) mode l i S n cur own made).S (fI fs xs (r:Int) mode l i S n cur own made).cur (fI fs xs (r:Int) mode l i S n cur own made).own
  | [],i,S,n,cur,own,made,_,hj,_=>by rw [zk];exact hj
  | p::l,i,S,n,cur,own,made,hh,hj,hc=>by
    have hs:LH (mode:=mode) S cur own (ck fs xs (r:Int) S n cur p mode):=hh.step
    obtain⟨k1,k2,k3⟩:=hj.step (fs:=fs) (xs:=xs) (n:=n) (p:=p) (mode:=mode) hh.inv
    have qu:Inv (ck fs xs (r:Int) S n cur p mode).S:=xB hh.inv
    by_cases h1:(ck fs xs (r:Int) S n cur p mode).code=0
    ·obtain⟨o1,o2,o3,o4⟩:=hs.ok h1
     by_cases ho:own=true
     ·obtain⟨S2,c2,e2⟩:∃ Sx cx,aR fs xs (r:Int) ((ck fs xs (r:Int) S n cur p mode).n+1) (ck fs xs (r:Int) S n cur p mode).S (eu cur)=(Sx,cx):=⟨_,_,rfl⟩
      have h2:Held S2 (ck fs xs (r:Int) S n cur p mode).next true:=Held.close qu (by rw [o1,if_pos ho]) (o2 ho) o3 (o4 ho) hs.pk e2
      by_cases hc2:c2.code=0
      ·rw [uL h1 ho (by rw [e2];exact hc2),e2] at hc ⊢
       have hb2:HB r S2:=by
         have:=HB.world (fs:=fs) (xs:=xs) (n:=(ck fs xs (r:Int) S n cur p mode).n+1) (c:=eu cur) (by show (13:Int)≠1;decide) (by show (13:Int)≠9;decide) (fun S hS _=>hS.X5) k1 qu
         rw [e2] at this;exact this
       obtain⟨t,ht⟩:=o2 ho
       refine Ca l _ _ _ _ _ _ h2 ⟨hb2,?_,fun _=>k3 h1⟩ hc
       rw [(zC e2 ht).1,o7,if_neg (fun q=>hj.ne ho q.symm)]
       exact k2
      rw [xu h1 ho (by rw [e2];exact hc2),e2] at hc
      exact absurd ((h2.fail (fs:=fs) (xs:=xs) (root:=(r:Int)) (n:=_) hc2).2.2.2.2.1.symm.trans hc) hc2
     rw [xw h1 ho] at hc ⊢
     exact Ca l _ _ _ _ _ _ ⟨qu,by rw [o1,if_neg ho];rfl,fun _=>o3,hs.pk⟩ ⟨k1,k2,fun _=>k3 h1⟩ hc
    rw [rU h1] at hc
    exact absurd (((hs.bad h1).fail (fs:=fs) (xs:=xs) (root:=(r:Int)) (n:=_) h1).2.2.2.2.1.symm.trans hc) h1
theorem SJ {l:List ByteArray} {R:HM} (hrr:root=(r:Int)) (hh:Held S h false) (hj:HJ r h S h false) (hr:fI fs xs root mode l 0 S n h false 0=R) (hc:R.code=0):HJ r h R.S R.cur R.own:=by
  subst hrr hr
  exact Ca l 0 S n h false 0 hh hj hc
theorem DF (hg:aE.get S.us cur=some t) (e:aR fs xs root n S (kU cur)=(S2,c2)):c2.code=180\/(c2.code=0/\c2.answer=(obj S2.O t.k).id/\S2.us=S.us/\aE.get S2.us cur=some t/\c2.other=t.kind):=by
  have hu:=oO (root:=root) (S:=S) (xs:=bn xs n)
  rcases og (fs:=fs) (xs:=xs) (root:=root) (n:=n) (S:=S) (c:=kU cur) (by show (11:Int)≠1;decide) (by show (11:Int)≠9;decide) with h1|⟨k,hk,h1⟩
  ·rw [h1] at e
   refine .inr ?_
   unfold bK at e
   rw [p4 (c:={ kU cur with answer:=0,code:=230 }) rfl] at e
   unfold jP at e
   rw [show aE.get (eE root S (bn xs n)).us ({ kU cur with answer:=0,code:=230 }:aB).handle=some t by rw [hu.1];exact hg] at e
   cases e
   exact⟨rfl,rfl,hu.1,by rw [hu.1];exact hg,rfl⟩
  unfold aR at e
  have hr:mq root (kU cur)=kU cur:=rfl
  rw [hr] at e
  unfold bD at e
  split at e
  ·cases e;exact .inl sX.1
  split at e
  ·rename_i q
   have q2:=q.2
   exact absurd q2 (by show ¬ ((11:Int)=4\/(11:Int)=5\/(11:Int)=6\/(11:Int)=7\/(11:Int)=9);decide)
  split at e
  ·rename_i q;exact absurd q.2.1 (by show (11:Int)≠9;decide)
  refine .inr ?_
  unfold bK at e
  rw [p4 (c:={ kU cur with answer:=0,code:=230 }) rfl] at e
  unfold jP at e
  rw [show aE.get (eE root S (bn xs n)).us ({ kU cur with answer:=0,code:=230 }:aB).handle=some t by rw [hu.1];exact hg] at e
  cases e
  exact⟨rfl,rfl,hu.1,by rw [hu.1];exact hg,rfl⟩
theorem Oy (hI:Inv S) (hg:aE.get S.us cur=some t) {z:Int} (hz:z=(obj S.O t.k).id):(Lit.int .i64 z).wf=true:=by
  rw [hz];exact hI.toInv0.JL (hI.us _ _ hg).1
def Oz (S:aI) (root z:Int):Prop:=(z∈(bH (ay S) root).1\/kO (ay S) z=(0,0))/\(bH (ay S) root).2=0
theorem FA (hrr:root=(r:Int)) (hj:HJ r h S cur own) (hI:Inv S) (om:Inv S4) (e:aR fs xs root n S (kU cur)=(S4,c4)) (hu:S4.us=S.us) (hg:aE.get S4.us cur=some t) (ha:c4.answer=(obj S4.O t.k).id):Oz S4 root c4.answer:=by
  subst hrr
  have hb:HB r S4:=by
    have:=HB.world (fs:=fs) (xs:=xs) (n:=n) (c:=kU cur) (by show (11:Int)≠1;decide) (by show (11:Int)≠9;decide) (fun S hS hI=>by
      have:(bK S (kU cur)).1=S:=by
        unfold bK
        rw [p4 (c:={ kU cur with answer:=0,code:=230 }) rfl]
        unfold jP
        split<;>rfl
      rw [this];exact hS) hj.hb hI
    rw [e] at this;exact this
  have RM:Live S4.idx ⟨r,2⟩:=(om.us h ⟨r,2⟩ (by rw [hu];exact hj.rt)).1
  obtain⟨h2,h3⟩:=hb _ _ hg
  have hl:=(om.us _ _ hg).1
  have hid:(obj S4.O t.k).id=(t.k:Int):=(om.ob t hl).1
  have ht:t=⟨t.k,2⟩:=by rw [← h2]
  refine⟨?_,by rw [r8 (IW om.toInv0 RM)]⟩
  rw [ha,hid]
  rcases h3 with h3|h3
  ·exact .inl (Ox om.toInv0 RM h3 (by rw [ht] at hl;exact hl))
  exact .inr (LY om.toInv0 hl (om.gone t hl h3).1)
theorem Bh {z:Int} (h:Oz S root z) (hn:z∉(bH (ay S) root).1):(bH (ay S) root).2=0/\(kO (ay S) z).1=0:=⟨h.2,by rw [h.1.resolve_left hn]⟩
end x
end
section
open Go.RowKit Go.Maps bC aE
attribute [local irreducible] ak aW af aj
theorem law_resolveUnder (W:World) (A:Option Addr) (c:Nat) (ns:List aG) (Y:Lay) (hG:aF (B0 W) A ns Y) (hB:iA ns 1048576) (X:FM) (root:Int) (Af:Option Addr) (cf:Nat) (fs:List bh) (hF:cF (B0 W) Af (bQ fP fs)) (mG:je fs 1048576) (Aa:Option Addr) (ca:Nat) (xs:List bM) (hA:cF (B0 W) Aa (bQ gu xs)) (hab:dZ xs 1048576) (hrw:(Lit.int .i64 root).wf=true) (Ap:Option Addr) (cp:Nat) (ps:List ByteArray) (hP:eU (B0 W) Ap ps) (hpl:ps.length<=1048576) (hps:∀ i,i < ps.length->(pc ps i).size<=1048576) (hg:dQ (B0 W)) (hE:jl (B0 W)) (mode:Int) (far:Bool) :
    Spec Tryz.prog (B0 W) 4 #[.agg #[.slice A (ns.length) (c),vI (root),vI (X.cN),vI (X.cB),vI (X.cH),vI (X.cS),vI (X.cZ),.slice Af (fs.length) (cf),.slice Aa (xs.length) (ca)],.agg #[.slice Ap (ps.length) (cp),vI (mode),.bool far]] [] (fun v _=>v=.bool true):=by
 have hle0:=B0.refl W
 have hfl:=mG.len
 have hxn:=hab.len
 refine Spec.enter Tryz.func4 rfl Tryz.ntmps4 (Nat.le_of_ble_eq_true rfl) (fun R=>?_)
 refine SR (gN 1 (fun b1=>[(2,vP b1)]) (fun _=>[]) (fun _=>[]) (fun b1=>.blk b1 [.slice A (ns.length) (c),vI (root),vI (X.cN),vI (X.cB),vI (X.cH),vI (X.cS),vI (X.cZ),.slice Af (fs.length) (cf),.slice Aa (xs.length) (ca)] 34) (fun b1=>?_))
 refine gN 2 (fun b2=>[(3,vP b2)]) (fun _=>[]) (fun _=>[]) (fun b2=>.blk b2 [.slice Ap (ps.length) (cp),vI (mode),.bool far] 37) (fun b2=>?_)
 refine NN (af.seq (SR (ak.fH (d:=(some 18)) (R:=[.abs R,.blk b1 [.slice A (ns.length) (c),vI (root),vI (X.cN),vI (X.cB),vI (X.cH),vI (X.cS),vI (X.cZ),.slice Af (fs.length) (cf),.slice Aa (xs.length) (ca)] 34,.blk b2 [.slice Ap (ps.length) (cp),vI (mode),.bool far] 37]) (pk:=[0,1,2]) (fun _=>by kernel_rfl) (LM hg hE) rfl (by kernel_rfl) ?_)))
 rintro Fk _ _ iz ⟨rfl,rfl⟩
 replace hG:=hG.le iz
 replace hF:=hF.le iz
 replace hA:=hA.le iz
 replace hP:=hP.le iz
 replace hg:=hg.le iz
 replace hE:=hE.le iz
 replace hle0:=hle0.trans iz
 refine gK 1 [(19,.bool false)] [] ?_
 refine NN (CF (af.skip (NX (af.seq ?_))))
 by_cases h0:dh X ns root=0
 ·have hok:=Fe h0
  refine af.region (gK 1 [(21,.agg #[.slice A (ns.length) (c),vI (root),vI (X.cN),vI (X.cB),vI (X.cH),vI (X.cS),vI (X.cZ),.slice Af (fs.length) (cf),.slice Aa (xs.length) (ca)])] [(0,A_ 1 b1 9)] ?_)
  refine ak.fH (d:=(some 22)) (R:=[.abs R,.blk b1 [.slice A (ns.length) (c),vI (root),vI (X.cN),vI (X.cB),vI (X.cH),vI (X.cS),vI (X.cZ),.slice Af (fs.length) (cf),.slice Aa (xs.length) (ca)] 34,.blk b2 [.slice Ap (ps.length) (cp),vI (mode),.bool far] 37]) (pk:=[0,1,2]) (fun _=>by kernel_rfl) (Dx (β:=Fk) (X:=X) h0 A c Y hG hB Af cf fs hF (mG.wide (by decide)) Aa ca xs hA hab) rfl (by kernel_rfl) ?_
  rintro RA _ _ lN ⟨N,G,V,rfl,rfl,jG⟩
  replace hG:=hG.le lN
  replace hF:=hF.le lN
  replace hA:=hA.le lN
  replace hP:=hP.le lN
  replace hg:=hg.le lN
  replace hE:=hE.le lN
  replace hle0:=hle0.trans lN
  refine gK 5 [(5,vP G.w),(6,vI 0)] [] ?_
  refine NN (af.seq (SR (gK 6 [(30,.bool false)] [(1,p_ ⟨[],none,none,none,some (.bool false)⟩ [((.bool false:Value))=(.bool false)] ⟨rfl,trivial⟩)] ?_)))
  refine NN (CF (af.skip (NX (af.seq ?_))))
  obtain⟨S2,c2,eR⟩:∃ Sx cx,aR fs xs root 1 N.1 (kN root)=(Sx,cx):=⟨_,_,rfl⟩
  refine af.Jv (S:=[.blk b1 [.slice A (ns.length) (c),vI (root),vI (X.cN),vI (X.cB),vI (X.cH),vI (X.cS),vI (X.cZ),.slice Af (fs.length) (cf),.slice Aa (xs.length) (ca)] 34,.blk b2 [.slice Ap (ps.length) (cp),vI (mode),.bool far] 37,.abs (j6 G)]) [(true,0),(true,1),(true,2),(true,3),(true,4),(true,5),(false,6),(true,7),(true,8),(true,9),(true,10),(false,11)] (by kernel_rfl) (by kernel_rfl) (fun _ h=>(h.wk (i:=0) rfl).pick (idx:=[2,3,0]) rfl rfl) ?_
  refine gG [(false,6),(true,7),(true,8),(true,9),(true,10),(false,11)] [(2,vP b1),(3,vP b2),(5,vP G.w),(41,.agg #[.iface 39 (vP G.w)]),(43,vI (root))] [0,1,2,3,4,5] [(3,p_ ⟨[.view 2 (.iface 39 (vP G.w))],none,none,none,none⟩ [(∀ F w,(j6 G).h F w->w.cell? ⟨G.w,0,none⟩=some (.iface 39 (vP G.w)))] ⟨kE,trivial⟩),(5,a_ 0 b1)] ?_
  refine fo.Y1 ?_
  have Vj:Grown RA RA:=.inl rfl
  refine uo.V8 (ι:=Bs×WV×({ l:List aB // l.length=1 })) (B:=fun ((mV,V2,q2):Bs×WV×({ l:List aB // l.length=1 }))=>mV) (Φ:=fun ((mV,V2,q2):Bs×WV×({ l:List aB // l.length=1 }))=>True) (fr':=fun ((mV,V2,q2):Bs×WV×({ l:List aB // l.length=1 }))=>[(2,vP b1),(3,vP b2),(5,vP G.w),(44,.tuple #[vI (c2.answer),vI (c2.code)])]) (hp':=fun ((mV,V2,q2):Bs×WV×({ l:List aB // l.length=1 }))=>[wA G fs xs root S2 V2 q2.1,.abs R,.blk b1 [.slice A (ns.length) (c),vI (root),vI (X.cN),vI (X.cB),vI (X.cH),vI (X.cS),vI (X.cZ),.slice Af (fs.length) (cf),.slice Aa (xs.length) (ca)] 34,.blk b2 [.slice Ap (ps.length) (cp),vI (mode),.bool far] 37]) Vj (by kernel_rfl) ?_ (fun _ _ h=>(h.wk (i:=0) rfl).pick (idx:=[2,3,0]) rfl rfl) ?_
  ·refine ak.fH (d:=(some 44)) (R:=[.abs R,.blk b1 [.slice A (ns.length) (c),vI (root),vI (X.cN),vI (X.cB),vI (X.cH),vI (X.cS),vI (X.cZ),.slice Af (fs.length) (cf),.slice Aa (xs.length) (ca)] 34,.blk b2 [.slice Ap (ps.length) (cp),vI (mode),.bool far] 37]) (pk:=[0,1,2,3]) (fun _=>by kernel_rfl) (Qx (β:=RA) (G:=G) (fs:=fs) (xs:=xs) (S:=N.1) (V:=V) (S1:=S2) (c1:=c2) hrw N.2.full jG hab hg root hrw eR) rfl (by kernel_rfl) ?_
   rintro mV _ _ eY ⟨V2,q2,rfl,rfl⟩
   replace hG:=hG.le eY
   replace hF:=hF.le eY
   replace hA:=hA.le eY
   replace hP:=hP.le eY
   replace hg:=hg.le eY
   replace hE:=hE.le eY
   replace jG:=jG.le eY
   replace hle0:=hle0.trans eY
   refine NL ?_
   exact aj.Xn (mV,V2,q2) rfl eY (trivial) (idx:=[2,3,5,44]) (pk:=[0,1,2,3]) (fun _=>by kernel_rfl) rfl (by kernel_rfl)
  rintro⟨mV,V2,q2⟩ eY _
  show uo _ mV _ _ _ _ _ [(2,vP b1),(3,vP b2),(5,vP G.w),(44,.tuple #[vI (c2.answer),vI (c2.code)])] [wA G fs xs root S2 V2 q2.1,.abs R,.blk b1 [.slice A (ns.length) (c),vI (root),vI (X.cN),vI (X.cB),vI (X.cH),vI (X.cS),vI (X.cZ),.slice Af (fs.length) (cf),.slice Aa (xs.length) (ca)] 34,.blk b2 [.slice Ap (ps.length) (cp),vI (mode),.bool far] 37] _
  replace hG:=hG.le eY
  replace hF:=hF.le eY
  replace hA:=hA.le eY
  replace hP:=hP.le eY
  replace hg:=hg.le eY
  replace hE:=hE.le eY
  replace jG:=jG.le eY
  replace hle0:=hle0.trans eY
  replace Vj:=Vj.trans eY
  refine gH [(false,11)] [(2,vP b1),(3,vP b2),(5,vP G.w),(7,vI (c2.answer)),(46,vI (c2.code))] [7,8,9,10] [] ?_
  refine uo.last (by kernel_rfl) ?_
  refine gK 1 [(6,vI (c2.code))] [] ?_
  refine NL (aj.np (NX (af.seq (SR ?_))))
  refine gK 2 [(48,.bool (!(decide ((c2.code:Int)=(0:Int)))))] [] ?_
  refine NN (af.gT (p:=(c2.code:Int)=(0:Int)) (fun _=>by kernel_rfl) (fun E6=>?_) (fun E6=>?_))
  ·refine SR (gK 1 [(4,.bool true)] [] ?_)
   refine NN (af.ret (aj.aq ?_))
   exact aj.wv (v:=.bool true) (l:=[]) (aZ:=[]) [] [1] hle0 (fun _=>by kernel_rfl) trivial rfl (by kernel_rfl) (rfl)
  obtain⟨sI,ha2⟩:=Oj (h:=c2.answer) N.2.full N.2.us N.2.aD eR E6
  obtain⟨r,hrr,hj2⟩:=SI N.2.full N.2.us N.2.aD eR E6
  have uj:=sI.inv
  have Dw:(Lit.int .i64 c2.answer).wf=true:=by rw [ha2];decide
  refine af.skip (NX (af.seq ?_))
  obtain⟨⟨Sr,nr,cr,ow,mr,kr,ar⟩,hr⟩:∃ r,fI fs xs root mode ps 0 S2 1 c2.answer false 0=r:=⟨_,rfl⟩
  have hw:=uW (mode:=mode) (fs:=fs) (xs:=xs) (root:=root) (h0:=c2.answer) (n0:=1) (len:=ps.length) ps 0 S2 1 c2.answer false 0 sI (by decide) (by omega) (fun _=>rfl) (fun h=>absurd h Bool.false_ne_true) (fun _=>⟨rfl,rfl,rfl⟩)
  rw [hr] at hw
  have hpk:Sr.aD<=3:=hw.pk
  have hmr:0<=mr/\mr<=ps.length:=hw.made
  have Z8:nr<=4 * ps.length+1+1:=hw.n
  have hm0:mode < 0->mr=0:=hw.m0
  have Kq:Inv Sr:=hw.inv
  have Xd:=SJ hrr sI hj2 hr
  rcases Classical.em (kr=0) with hc|hc;rcases Bool.eq_false_or_eq_true ow with hq|hq
  ·subst hc
   subst hq
   obtain⟨OA,hlo,_⟩:=hw.ok rfl
   have hl0:0 < ps.length:=of_decide_eq_true hlo.symm
   have F9:Sr.us.length=2:=OA.len
   have hwc:=SG OA
   obtain⟨tc,Vk⟩:=OA.cur rfl
   have RN:=Xd rfl
   refine af.wj (S:=[.blk b2 [.slice Ap (ps.length) (cp),vI (mode),.bool far] 37,.abs (j6 G)]) 14 [(true,0),(true,1),(true,2),(true,3),(true,4),(true,5),(true,6),(true,8),(true,9),(false,7),(false,10),(true,11),(true,12),(true,13)] [(false,15),(false,16)] (by kernel_rfl) (by kernel_rfl) (fun _ h=>(h.wk (i:=0) rfl).pick (idx:=[3,0]) rfl rfl) ?_
   refine gJ [(false,7),(false,10),(true,11),(true,12),(true,13)] [(2,vP b1),(5,vP G.w),(53,.agg #[.iface 39 (vP G.w)]),(54,vI (c2.answer)),(56,.slice Ap (ps.length) (cp)),(59,vI (mode))] [0,1,2,3,4,5,6,8,9] [(3,p_ ⟨[.view 1 (.iface 39 (vP G.w))],none,none,none,none⟩ [(∀ F w,(j6 G).h F w->w.cell? ⟨G.w,0,none⟩=some (.iface 39 (vP G.w)))] ⟨kE,trivial⟩),(6,a_ 0 b2),(8,a_ 0 b2)] ?_
   refine vA.beside (j:=14) (dj:=8) (R:=fun f_ l_=>∃ B5:Option Addr,∃ p5:Nat,∃ V3:WV,∃ q3:{ l:List aB // l.length=nr },f_=[(62,.nilIface),(61,.agg #[vI (cr),.bool true,vI (mr)]),(49,.tuple #[.agg #[vI (cr),.bool true,vI (mr)],.nilIface]),(60,.tuple #[.agg #[vI (cr),.bool true,vI (mr)],.nilIface]),(57,.slice B5 (ps.length) (p5)),(2,vP b1),(5,vP G.w),(53,.agg #[.iface 39 (vP G.w)]),(54,vI (c2.answer)),(56,.slice Ap (ps.length) (cp)),(59,vI (mode))]/\l_=[wA G fs xs root Sr V3 q3.1]) (pc:=[wA G fs xs root S2 V2 q2.1]) (pj:=[]) (Z:=[.abs R,.blk b1 [.slice A (ns.length) (c),vI (root),vI (X.cN),vI (X.cB),vI (X.cH),vI (X.cS),vI (X.cZ),.slice Af (fs.length) (cf),.slice Aa (xs.length) (ca)] 34,.blk b2 [.slice Ap (ps.length) (cp),vI (mode),.bool far] 37]) [0,1,2,3] (BZ G) [(false,7,57),(false,10,60),(true,11,49),(true,12,61),(true,13,62)] (by kernel_rfl) rfl rfl (zD (S1:=[.blk b2 [.slice Ap (ps.length) (cp),vI (mode),.bool far] 37]) (pS:=[2]) rfl rfl) (qX 0 rfl) rfl rfl (gy.of (ι:=Nat) (v:=fun (b6:Nat)=>vP b6) (l:=fun (b6:Nat)=>[.blk b6 [vI 0,.bool false,vI 0] 55]) [57,60,49,61,62] rfl rfl rfl rfl ?_) ?_ ?_
   ·intro u Aq
    show ak _ _ _ _ _ [(57,(u 57)),(60,(u 60)),(49,(u 49)),(61,(u 61)),(62,(u 62)),(2,vP b1),(5,vP G.w),(53,.agg #[.iface 39 (vP G.w)]),(54,vI (c2.answer)),(56,.slice Ap (ps.length) (cp)),(59,vI (mode))] [.abs Aq] _
    refine gN 1 (fun b6=>[(8,vP b6)]) (fun _=>[]) (fun _=>[]) (fun b6=>.blk b6 [vI 0,.bool false,vI 0] 55) (fun b6=>?_)
    refine NL ?_
    exact MD b6 [8,57,60,49,61,62,2,5,53,54,56,59] [1,0]
   ·refine dW.step (gy.of (ι:=(Option Addr)×Nat) (v:=fun ((B5,p5):(Option Addr)×Nat)=>.slice B5 (ps.length) (p5)) (l:=fun ((B5,p5):(Option Addr)×Nat)=>[.abs (aK 9 1 B5 ps.length p5 (gZ ps)),wA G fs xs root S2 V2 q2.1]) [8] rfl rfl rfl rfl ?_) rfl ?_
    ·intro u Aq
     show ak _ _ _ _ _ [(8,(u 8)),(2,vP b1),(5,vP G.w),(53,.agg #[.iface 39 (vP G.w)]),(54,vI (c2.answer)),(56,.slice Ap (ps.length) (cp)),(59,vI (mode))] [wA G fs xs root S2 V2 q2.1,.abs Aq] _
     refine gL [] (sA (β:=mV) Ap cp ps hP hpl) ?_
     rintro _ _ ⟨B5,p5,rfl,rfl⟩
     refine NL ?_
     exact MD (B5,p5) [57,8,2,5,53,54,56,59] [0,1,2]
    rintro _ _ ⟨⟨B5,p5⟩,rfl,rfl⟩
    refine⟨qX 1 rfl,?_⟩
    refine dW.step (gy.of (ι:=WV×({ l:List aB // l.length=nr })) (v:=fun ((V3,q3):WV×({ l:List aB // l.length=nr }))=>.tuple #[.agg #[vI (cr),.bool true,vI (mr)],.nilIface]) (l:=fun ((V3,q3):WV×({ l:List aB // l.length=nr }))=>[wA G fs xs root Sr V3 q3.1]) [8] rfl rfl rfl rfl ?_) rfl ?_
    ·intro u Aq
     show ak _ _ _ _ _ [(8,(u 8)),(57,.slice B5 (ps.length) (p5)),(2,vP b1),(5,vP G.w),(53,.agg #[.iface 39 (vP G.w)]),(54,vI (c2.answer)),(56,.slice Ap (ps.length) (cp)),(59,vI (mode))] [.abs (aK 9 1 B5 ps.length p5 (gZ ps)),wA G fs xs root S2 V2 q2.1,.abs Aq] _
     refine gL [1,0] (Dz (β:=mV) (A:=B5) (kz:=p5) (G:=G) (V:=V2) (r:=⟨Sr,nr,cr,true,mr,0,ar⟩) rfl hrw uj q2.2 (by decide) jG hab hg hE Dw hpl hps hr) ?_
     rintro _ _ ⟨V3,q3,rfl,rfl⟩
     refine NL ?_
     exact MD (V3,q3) [60,8,57,2,5,53,54,56,59] [0,1]
    rintro _ _ ⟨⟨V3,q3⟩,rfl,rfl⟩
    refine⟨qX 0 rfl,?_⟩
    refine dW.read (v:=.tuple #[.agg #[vI (cr),.bool true,vI (mr)],.nilIface]) (fun _=>by kernel_rfl) rfl rfl ?_
    refine dW.read (v:=.agg #[vI (cr),.bool true,vI (mr)]) (fun _=>by kernel_rfl) rfl rfl ?_
    refine dW.read (v:=.nilIface) (fun _=>by kernel_rfl) rfl rfl ?_
    exact⟨B5,p5,V3,q3,rfl,rfl⟩
   rintro _ _ ⟨B5,p5,V3,q3,rfl,rfl⟩ _ _ ⟨b6,rfl,rfl⟩
   refine fo.II (ι:=Unit) (fr':=fun (_:Unit)=>[(2,vP b1),(5,vP G.w),(8,vP b6),(62,.nilIface)]) (hp':=fun (_:Unit)=>[wA G fs xs root Sr V3 q3.1,.blk b6 [vI (cr),.bool true,vI (mr)] 55,.abs R,.blk b1 [.slice A (ns.length) (c),vI (root),vI (X.cN),vI (X.cB),vI (X.cH),vI (X.cS),vI (X.cZ),.slice Af (fs.length) (cf),.slice Aa (xs.length) (ca)] 34,.blk b2 [.slice Ap (ps.length) (cp),vI (mode),.bool far] 37]) (by kernel_rfl) ?_ (fun _ _ h=>(h.wk (i:=0) rfl).pick (idx:=[4,0]) rfl rfl) ?_
   ·refine gC 1 [] [(0,A_ 1 b6 3)] [(1,[(0,vI (cr)),(1,.bool true),(2,vI (mr))])] ?_
    refine NL ?_
    exact MD () [2,5,8,62] [0,1,2,3,4]
   rintro _
   refine fo.last (by kernel_rfl) ?_
   refine gK 1 [(9,.nilIface)] [] ?_
   refine NL (aj.np (NX (af.seq (SR ?_))))
   refine gK 2 [(64,.bool false)] [] ?_
   refine NN (CF (af.skip (NX (SR (gK 1 [(65,vP G.w)] [] ?_)))))
   refine gL [0] (uV (β:=mV) (G:=G) (fs:=fs) (xs:=xs) (root:=root) (S:=Sr) (V:=V3) (tr:=q3.1)) ?_
   rintro _ _ ⟨rfl,rfl⟩
   refine gK 1 [(10,vI ↑q3.1.length)] [] ?_
   refine NN (af.seq ?_)
   obtain⟨S4,c4,eS⟩:∃ Sx cx,aR fs xs root (nr+1) Sr (kU cr)=(Sx,cx):=⟨_,_,rfl⟩
   have hsc:=DF Vk eS
   refine af.wj (S:=[.blk b6 [vI (cr),.bool true,vI (mr)] 55,.abs (j6 G)]) 10 [(true,0),(true,1),(true,2),(true,3),(true,4),(true,5),(false,6),(true,7),(true,8),(true,9)] [(false,11),(false,12)] (by kernel_rfl) (by kernel_rfl) (fun _ h=>(h.wk (i:=0) rfl).pick (idx:=[1,0]) rfl rfl) ?_
   refine gJ [(false,6),(true,7),(true,8),(true,9)] [(2,vP b1),(5,vP G.w),(10,vI ↑q3.1.length),(71,.agg #[.iface 39 (vP G.w)]),(73,vI (cr))] [0,1,2,3,4,5] [(3,p_ ⟨[.view 1 (.iface 39 (vP G.w))],none,none,none,none⟩ [(∀ F w,(j6 G).h F w->w.cell? ⟨G.w,0,none⟩=some (.iface 39 (vP G.w)))] ⟨kE,trivial⟩),(5,a_ 0 b6)] ?_
   refine vA.beside (j:=10) (dj:=11) (R:=fun f_ l_=>∃ V4:WV,∃ q4:{ l:List aB // l.length=nr+1 },f_=[(76,vI (c4.code)),(75,.agg #[vI (c4.answer),vI (c4.other),vI (c4.mode),vI (c4.uid),vI (c4.gid),vI (c4.sec),vI (c4.nano)]),(67,.tuple #[.agg #[vI (c4.answer),vI (c4.other),vI (c4.mode),vI (c4.uid),vI (c4.gid),vI (c4.sec),vI (c4.nano)],vI (c4.code)]),(74,.tuple #[.agg #[vI (c4.answer),vI (c4.other),vI (c4.mode),vI (c4.uid),vI (c4.gid),vI (c4.sec),vI (c4.nano)],vI (c4.code)]),(2,vP b1),(5,vP G.w),(10,vI ↑q3.1.length),(71,.agg #[.iface 39 (vP G.w)]),(73,vI (cr))]/\l_=[wA G fs xs root S4 V4 q4.1]) (pc:=[wA G fs xs root Sr V3 q3.1]) (pj:=[]) (Z:=[.blk b6 [vI (cr),.bool true,vI (mr)] 55,.abs R,.blk b1 [.slice A (ns.length) (c),vI (root),vI (X.cN),vI (X.cB),vI (X.cH),vI (X.cS),vI (X.cZ),.slice Af (fs.length) (cf),.slice Aa (xs.length) (ca)] 34,.blk b2 [.slice Ap (ps.length) (cp),vI (mode),.bool far] 37]) [0,1,2,3,4] (BZ G) [(false,6,74),(true,7,67),(true,8,75),(true,9,76)] (by kernel_rfl) rfl rfl (zD (S1:=[.blk b6 [vI (cr),.bool true,vI (mr)] 55]) (pS:=[0]) rfl rfl) (qX 0 rfl) rfl rfl (gy.of (ι:=Nat) (v:=fun (b7:Nat)=>vP b7) (l:=fun (b7:Nat)=>[.blk b7 [vI 0,vI 0,vI 0,vI 0,vI 0,vI 0,vI 0] 65]) [74,67,75,76] rfl rfl rfl rfl ?_) ?_ ?_
   ·intro u Aq
    show ak _ _ _ _ _ [(74,(u 74)),(67,(u 67)),(75,(u 75)),(76,(u 76)),(2,vP b1),(5,vP G.w),(10,vI ↑q3.1.length),(71,.agg #[.iface 39 (vP G.w)]),(73,vI (cr))] [.abs Aq] _
    refine gN 1 (fun b7=>[(11,vP b7)]) (fun _=>[]) (fun _=>[]) (fun b7=>.blk b7 [vI 0,vI 0,vI 0,vI 0,vI 0,vI 0,vI 0] 65) (fun b7=>?_)
    refine NL ?_
    exact MD b7 [11,74,67,75,76,2,5,10,71,73] [1,0]
   ·refine dW.step (gy.of (ι:=WV×({ l:List aB // l.length=nr+1 })) (v:=fun ((V4,q4):WV×({ l:List aB // l.length=nr+1 }))=>.tuple #[.agg #[vI (c4.answer),vI (c4.other),vI (c4.mode),vI (c4.uid),vI (c4.gid),vI (c4.sec),vI (c4.nano)],vI (c4.code)]) (l:=fun ((V4,q4):WV×({ l:List aB // l.length=nr+1 }))=>[wA G fs xs root S4 V4 q4.1]) [11] rfl rfl rfl rfl ?_) rfl ?_
    ·intro u Aq
     show ak _ _ _ _ _ [(11,(u 11)),(2,vP b1),(5,vP G.w),(10,vI ↑q3.1.length),(71,.agg #[.iface 39 (vP G.w)]),(73,vI (cr))] [wA G fs xs root Sr V3 q3.1,.abs Aq] _
     refine gL [0] (Fm (β:=mV) (G:=G) (V:=V3) (tr:=q3.1) (S2:=S4) (c2:=c4) hrw Kq (by have:=q3.2;omega) jG hab hg cr hwc q3.2 eS) ?_
     rintro _ _ ⟨V4,q4,rfl,rfl⟩
     refine NL ?_
     exact MD (V4,q4) [74,11,2,5,10,71,73] [0,1]
    rintro _ _ ⟨⟨V4,q4⟩,rfl,rfl⟩
    refine⟨qX 0 rfl,?_⟩
    refine dW.read (v:=.tuple #[.agg #[vI (c4.answer),vI (c4.other),vI (c4.mode),vI (c4.uid),vI (c4.gid),vI (c4.sec),vI (c4.nano)],vI (c4.code)]) (fun _=>by kernel_rfl) rfl rfl ?_
    refine dW.read (v:=.agg #[vI (c4.answer),vI (c4.other),vI (c4.mode),vI (c4.uid),vI (c4.gid),vI (c4.sec),vI (c4.nano)]) (fun _=>by kernel_rfl) rfl rfl ?_
    refine dW.read (v:=.int .i64 (c4.code)) (fun _=>by kernel_rfl) rfl rfl ?_
    exact⟨V4,q4,rfl,rfl⟩
   rintro _ _ ⟨V4,q4,rfl,rfl⟩ _ _ ⟨b7,rfl,rfl⟩
   refine fo.II (ι:=Unit) (fr':=fun (_:Unit)=>[(2,vP b1),(5,vP G.w),(10,vI ↑q3.1.length),(11,vP b7),(76,vI (c4.code))]) (hp':=fun (_:Unit)=>[wA G fs xs root S4 V4 q4.1,.blk b7 [vI (c4.answer),vI (c4.other),vI (c4.mode),vI (c4.uid),vI (c4.gid),vI (c4.sec),vI (c4.nano)] 65,.blk b6 [vI (cr),.bool true,vI (mr)] 55,.abs R,.blk b1 [.slice A (ns.length) (c),vI (root),vI (X.cN),vI (X.cB),vI (X.cH),vI (X.cS),vI (X.cZ),.slice Af (fs.length) (cf),.slice Aa (xs.length) (ca)] 34,.blk b2 [.slice Ap (ps.length) (cp),vI (mode),.bool far] 37]) (by kernel_rfl) ?_ (fun _ _ h=>(h.wk (i:=0) rfl).pick (idx:=[2,0]) rfl rfl) ?_
   ·refine gC 1 [] [(0,A_ 1 b7 7)] [(1,[(0,vI (c4.answer)),(1,vI (c4.other)),(2,vI (c4.mode)),(3,vI (c4.uid)),(4,vI (c4.gid)),(5,vI (c4.sec)),(6,vI (c4.nano))])] ?_
    refine NL ?_
    exact MD () [2,5,10,11,76] [0,1,2,3,4,5]
   rintro _
   refine fo.last (by kernel_rfl) ?_
   refine gK 1 [(6,vI (c4.code))] [] ?_
   refine NL (aj.np (NX (af.seq (SR ?_))))
   refine gK 2 [(78,.bool (decide ((c4.code:Int)=(180:Int))))] [] ?_
   refine NN (af.aV (p:=(c4.code:Int)=(180:Int)) (fun _=>by kernel_rfl) (fun OB=>?_) (fun OB=>?_))
   ·refine SR (gK 1 [(4,.bool true)] [] ?_)
    refine NN (af.ret (aj.aq ?_))
    exact aj.wv (v:=.bool true) (l:=[]) (aZ:=[]) [] [3] hle0 (fun _=>by kernel_rfl) trivial rfl (by kernel_rfl) (rfl)
   obtain⟨hs0,hsa,hsu,OC,_⟩:=hsc.resolve_left OB
   have om:Inv S4:=by have h:=Inv.aR (fs:=fs) (xs:=xs) (root:=root) (n:=nr+1) (c:=kU cr) Kq;rw [eS] at h;exact h
   have hbx:=FA hrr RN Kq om eS hsu OC hsa
   have QH:(Lit.int .i64 c4.answer).wf=true:=Oy om OC hsa
   refine af.skip (NX (af.seq (SR (gK 4 [(81,.bool false),(82,vP G.w)] [(1,p_ ⟨[],none,none,none,some (.bool false)⟩ [((.bool (!(decide ((c4.code:Int)=(0:Int)))):Value))=(.bool false)] ⟨congrArg (fun b=>Value.bool !b) (decide_eq_true (hs0)),trivial⟩)] ?_))))
   refine gL [0] (uV (β:=mV) (G:=G) (fs:=fs) (xs:=xs) (root:=root) (S:=S4) (V:=V4) (tr:=q4.1)) ?_
   rintro _ _ ⟨rfl,rfl⟩
   refine gK 4 [(87,.bool false)] [(1,p_ ⟨[],none,none,none,some (vI ↑(q3.1.length+1))⟩ [(Value.int .i64 (IntKind.wrap .i64 (((q3.1.length:Nat):Int)+1)))=(.int .i64 ↑(q3.1.length+1))] ⟨bB (by omega) (by omega) (by omega),trivial⟩),(2,p_ ⟨[],none,none,none,some (.bool false)⟩ [((.bool (!(decide ((((q4.1.length:Nat):Int):Int)=(((q3.1.length+1:Nat):Int):Int)))):Value))=(.bool false)] ⟨congrArg (fun b=>Value.bool !b) (decide_eq_true (by have h1:=q3.2;have h2:=q4.2;omega)),trivial⟩)] ?_
   refine NN (CF (af.skip (NX (SR (gK 1 [(88,vP G.w)] [] ?_)))))
   refine ak.fH (d:=(some 89)) (R:=[.blk b7 [vI (c4.answer),vI (c4.other),vI (c4.mode),vI (c4.uid),vI (c4.gid),vI (c4.sec),vI (c4.nano)] 65,.blk b6 [vI (cr),.bool true,vI (mr)] 55,.abs R,.blk b1 [.slice A (ns.length) (c),vI (root),vI (X.cN),vI (X.cB),vI (X.cH),vI (X.cS),vI (X.cZ),.slice Af (fs.length) (cf),.slice Aa (xs.length) (ca)] 34,.blk b2 [.slice Ap (ps.length) (cp),vI (mode),.bool far] 37]) (pk:=[0,1,2,3,4,5]) (fun _=>by kernel_rfl) (xH (β:=mV) (G:=G) (fs:=fs) (xs:=xs) (root:=root) (S:=S4) (V:=V4) (tr:=q4.1) om) rfl (by kernel_rfl) ?_
   rintro zB _ _ gq ⟨Ag,cg,Kg,rfl,rfl,hH⟩
   replace hG:=hG.le gq
   replace hF:=hF.le gq
   replace hA:=hA.le gq
   replace hP:=hP.le gq
   replace hg:=hg.le gq
   replace hE:=hE.le gq
   replace jG:=jG.le gq
   replace hle0:=hle0.trans gq
   refine gN 2 (fun b9=>[(12,vP b9)]) (fun b9=>[(1,a_ 6 b9)]) (fun _=>[]) (fun b9=>.blk b9 [.slice Ag ((ay S4).length) (cg)] 24) (fun b9=>?_)
   refine NS (gK 3 [(91,.agg #[.slice Ag ((ay S4).length) (cg)]),(93,vI (root))] [(0,a_ 6 b9),(2,a_ 4 b1)] ?_)
   refine ak.fH (d:=(some 94)) (R:=[wA G fs xs root S4 V4 q4.1,.blk b7 [vI (c4.answer),vI (c4.other),vI (c4.mode),vI (c4.uid),vI (c4.gid),vI (c4.sec),vI (c4.nano)] 65,.blk b6 [vI (cr),.bool true,vI (mr)] 55,.abs R,.blk b1 [.slice A (ns.length) (c),vI (root),vI (X.cN),vI (X.cB),vI (X.cH),vI (X.cS),vI (X.cZ),.slice Af (fs.length) (cf),.slice Aa (xs.length) (ca)] 34,.blk b2 [.slice Ap (ps.length) (cp),vI (mode),.bool far] 37,.blk b9 [.slice Ag ((ay S4).length) (cg)] 24]) (pk:=[0,1,2,3,4,5,6]) (fun _=>by kernel_rfl) (IU Ag cg (ay S4) Kg hH (Ar om.toInv0) root (Ci hrw)) rfl (by kernel_rfl) ?_
   rintro Ez _ _ eX ⟨Bu,cu,rfl,rfl,hU⟩
   replace hG:=hG.le eX
   replace hF:=hF.le eX
   replace hA:=hA.le eX
   replace hP:=hP.le eX
   replace hg:=hg.le eX
   replace hE:=hE.le eX
   replace jG:=jG.le eX
   replace hH:=hH.le eX
   replace hle0:=hle0.trans eX
   refine gK 5 [(13,.slice Bu ((bH (ay S4) root).1.length) (cu)),(14,vI ((bH (ay S4) root).2))] [] ?_
   refine NN (af.seq (SR (gK 1 [(15,vI 0)] [] ?_)))
   refine NN (af.block ?_)
   refine af.loop (ι:=Nat) (fun (i:Nat)=>(i<=(bH (ay S4) root).1.length)/\(∀ j,j < i->(bH (ay S4) root).1.getD j 0≠c4.answer)) (fun (i:Nat)=>(bH (ay S4) root).1.length - i) (fun (i:Nat)=>[(11,vP b7),(12,vP b9),(13,.slice Bu ((bH (ay S4) root).1.length) (cu)),(14,vI ((bH (ay S4) root).2)),(15,vI ↑i)]) (fun (i:Nat)=>[wA G fs xs root S4 V4 q4.1,.blk b7 [vI (c4.answer),vI (c4.other),vI (c4.mode),vI (c4.uid),vI (c4.gid),vI (c4.sec),vI (c4.nano)] 65,.blk b6 [vI (cr),.bool true,vI (mr)] 55,.abs R,.blk b1 [.slice A (ns.length) (c),vI (root),vI (X.cN),vI (X.cB),vI (X.cH),vI (X.cS),vI (X.cZ),.slice Af (fs.length) (cf),.slice Aa (xs.length) (ca)] 34,.blk b2 [.slice Ap (ps.length) (cp),vI (mode),.bool far] 37,.blk b9 [.slice Ag ((ay S4).length) (cg)] 24]) 0 (idx:=[11,12,13,14,15]) (pk:=[0,1,2,3,4,5,6]) (show (0<=(bH (ay S4) root).1.length)/\(∀ j,j < 0->(bH (ay S4) root).1.getD j 0≠c4.answer) from ⟨Nat.zero_le _,fun j hj=>absurd hj (Nat.not_lt_zero j)⟩) (fun _=>by kernel_rfl) rfl (by kernel_rfl) ?_
   rintro i ⟨hi,hno⟩
   show af _ _ _ _ [(11,vP b7),(12,vP b9),(13,.slice Bu ((bH (ay S4) root).1.length) (cu)),(14,vI ((bH (ay S4) root).2)),(15,vI ↑i)] [wA G fs xs root S4 V4 q4.1,.blk b7 [vI (c4.answer),vI (c4.other),vI (c4.mode),vI (c4.uid),vI (c4.gid),vI (c4.sec),vI (c4.nano)] 65,.blk b6 [vI (cr),.bool true,vI (mr)] 55,.abs R,.blk b1 [.slice A (ns.length) (c),vI (root),vI (X.cN),vI (X.cB),vI (X.cH),vI (X.cS),vI (X.cZ),.slice Af (fs.length) (cf),.slice Aa (xs.length) (ca)] 34,.blk b2 [.slice Ap (ps.length) (cp),vI (mode),.bool far] 37,.blk b9 [.slice Ag ((ay S4).length) (cg)] 24] _
   have Ya:(bH (ay S4) root).1.length<=1048576:=DE om.toInv0 root
   refine af.seq (SR (gK 4 [(100,.bool (decide ((((i:Nat):Int):Int) < ((((bH (ay S4) root).1.length:Nat):Int):Int))))] [] ?_))
   refine NN (af.aV (p:=(((i:Nat):Int):Int) < ((((bH (ay S4) root).1.length:Nat):Int):Int)) (fun _=>by kernel_rfl) (fun QI=>?_) (fun QI=>?_))
   ·refine af.skip (NX (af.seq (af.block (af.seq ?_))))
    refine af.eP (by kernel_rfl) (by kernel_rfl) ?_
    refine gQ 7 [(109,.bool (decide ((((bH (ay S4) root).1.getD i 0):Int)=(c4.answer:Int))))] [(2,p_ ⟨[],some i,none,some ⟨(ax Bu),av Bu,none⟩,none⟩ [((i:Nat):Int)=((i:Nat):Int),i < (bH (ay S4) root).1.length,(⟨(ax Bu),av Bu,none⟩:Addr).spot=none,(Bu:Option Addr)=some ⟨(ax Bu),av Bu,none⟩] ⟨rfl,by omega,rfl,uU.hd (l:=(bH (ay S4) root).1) hU (j:=i) (by omega),trivial⟩),(3,p_ ⟨[.old (.int .i64 (((bH (ay S4) root).1.getD i 0)))],none,none,none,none⟩ [(Rd Ez ⟨(ax Bu),av Bu+i * 1,none⟩ (.int .i64 (((bH (ay S4) root).1.getD i 0))))] ⟨uU.rd (l:=(bH (ay S4) root).1) hU (j:=i) (by omega),trivial⟩),(5,a_ 1 b7)] ?_
    refine NQ (NX ?_)
    refine af.aV (p:=(((bH (ay S4) root).1.getD i 0):Int)=(c4.answer:Int)) (fun _=>by kernel_rfl) (fun IX=>?_) (fun IX=>?_)
    ·refine SR (gK 1 [(4,.bool true)] [] ?_)
     refine NN (af.ret (aj.aL (aj.aq (aj.aq (aj.aL (aj.aq ?_))))))
     exact aj.wv (v:=.bool true) (l:=[]) (aZ:=[]) [] [3] hle0 (fun _=>by kernel_rfl) trivial rfl (by kernel_rfl) (rfl)
    refine af.skip (aj.aP (NX (af.region ?_)))
    refine gK 3 [(15,vI ↑(i+1))] [(1,p_ ⟨[],none,none,none,some (vI ↑(i+1))⟩ [(Value.int .i64 (IntKind.wrap .i64 (((i:Nat):Int)+1)))=(.int .i64 ↑(i+1))] ⟨bB (by omega) (by omega) (by omega),trivial⟩)] ?_
    refine NL ?_
    exact aj.turn ((i+1)) (idx:=[11,12,13,14,15]) (pk:=[0,1,2,3,4,5,6]) (show (((i+1))<=(bH (ay S4) root).1.length)/\(∀ j,j < ((i+1))->(bH (ay S4) root).1.getD j 0≠c4.answer) from ⟨by omega,fun j hj=>by rcases Nat.lt_succ_iff_lt_or_eq.1 hj with h|h;exact hno j h;rw [h];exact IX⟩) (by show (bH (ay S4) root).1.length - ((i+1)) < (bH (ay S4) root).1.length - i;omega) (fun _=>by kernel_rfl) rfl (by kernel_rfl)
   refine af.exit (aj.aU (aj.aU (aj.cK (NX (SR ?_)))))
   refine gK 3 [(111,.agg #[.slice Ag ((ay S4).length) (cg)]),(113,vI (c4.answer))] [(0,a_ 6 b9),(2,a_ 1 b7)] ?_
   refine gL [] (IJ Ag cg (ay S4) Kg hH (Ar om.toInv0) c4.answer (Ci QH)) ?_
   rintro _ _ ⟨rfl,rfl⟩
   refine gK 5 [(16,vI ((kO (ay S4) c4.answer).1))] [] ?_
   refine NS ?_
   have hlz:=Bh hbx (fun hm=>by obtain⟨j,hj,e⟩:=List.getElem_of_mem hm;exact hno j (by omega) (by rw [List.getD_eq_getElem?_getD,List.getElem?_eq_getElem hj,e];rfl))
   refine gK 7 [(4,.bool true)] [(1,p_ ⟨[],none,none,none,some (.bool true)⟩ [((.bool (decide (((bH (ay S4) root).2:Int)=(0:Int))):Value))=(.bool true)] ⟨congrArg Value.bool (decide_eq_true (hlz.1)),trivial⟩),(4,p_ ⟨[],none,none,none,some (.bool true)⟩ [((.bool (decide (((kO (ay S4) c4.answer).1:Int)=(0:Int))):Value))=(.bool true)] ⟨congrArg Value.bool (decide_eq_true (hlz.2)),trivial⟩)] ?_
   refine NN (af.ret ?_)
   exact aj.wv (v:=.bool true) (l:=[]) (aZ:=[]) [] [3] hle0 (fun _=>by kernel_rfl) trivial rfl (by kernel_rfl) (rfl)
  ·subst hc
   subst hq
   obtain⟨OA,hlo,Y9⟩:=hw.ok rfl
   have hl0:¬ 0 < ps.length:=of_decide_eq_false hlo.symm
   have F9:Sr.us.length=1:=OA.len
   have Xe:cr=c2.answer:=Y9 rfl
   have RN:=Xd rfl
   have hwc:(Lit.int .i64 cr).wf=true:=by rw [Xe];exact Dw
   obtain⟨tc,Vk⟩:∃ t,aE.get Sr.us cr=some t:=⟨_,by rw [Xe];exact RN.rt⟩
   refine af.wj (S:=[.blk b2 [.slice Ap (ps.length) (cp),vI (mode),.bool far] 37,.abs (j6 G)]) 14 [(true,0),(true,1),(true,2),(true,3),(true,4),(true,5),(true,6),(true,8),(true,9),(false,7),(false,10),(true,11),(true,12),(true,13)] [(false,15),(false,16)] (by kernel_rfl) (by kernel_rfl) (fun _ h=>(h.wk (i:=0) rfl).pick (idx:=[3,0]) rfl rfl) ?_
   refine gJ [(false,7),(false,10),(true,11),(true,12),(true,13)] [(2,vP b1),(5,vP G.w),(53,.agg #[.iface 39 (vP G.w)]),(54,vI (c2.answer)),(56,.slice Ap (ps.length) (cp)),(59,vI (mode))] [0,1,2,3,4,5,6,8,9] [(3,p_ ⟨[.view 1 (.iface 39 (vP G.w))],none,none,none,none⟩ [(∀ F w,(j6 G).h F w->w.cell? ⟨G.w,0,none⟩=some (.iface 39 (vP G.w)))] ⟨kE,trivial⟩),(6,a_ 0 b2),(8,a_ 0 b2)] ?_
   refine vA.beside (j:=14) (dj:=8) (R:=fun f_ l_=>∃ B5:Option Addr,∃ p5:Nat,∃ V3:WV,∃ q3:{ l:List aB // l.length=nr },f_=[(62,.nilIface),(61,.agg #[vI (cr),.bool false,vI (mr)]),(49,.tuple #[.agg #[vI (cr),.bool false,vI (mr)],.nilIface]),(60,.tuple #[.agg #[vI (cr),.bool false,vI (mr)],.nilIface]),(57,.slice B5 (ps.length) (p5)),(2,vP b1),(5,vP G.w),(53,.agg #[.iface 39 (vP G.w)]),(54,vI (c2.answer)),(56,.slice Ap (ps.length) (cp)),(59,vI (mode))]/\l_=[wA G fs xs root Sr V3 q3.1]) (pc:=[wA G fs xs root S2 V2 q2.1]) (pj:=[]) (Z:=[.abs R,.blk b1 [.slice A (ns.length) (c),vI (root),vI (X.cN),vI (X.cB),vI (X.cH),vI (X.cS),vI (X.cZ),.slice Af (fs.length) (cf),.slice Aa (xs.length) (ca)] 34,.blk b2 [.slice Ap (ps.length) (cp),vI (mode),.bool far] 37]) [0,1,2,3] (BZ G) [(false,7,57),(false,10,60),(true,11,49),(true,12,61),(true,13,62)] (by kernel_rfl) rfl rfl (zD (S1:=[.blk b2 [.slice Ap (ps.length) (cp),vI (mode),.bool far] 37]) (pS:=[2]) rfl rfl) (qX 0 rfl) rfl rfl (gy.of (ι:=Nat) (v:=fun (b11:Nat)=>vP b11) (l:=fun (b11:Nat)=>[.blk b11 [vI 0,.bool false,vI 0] 55]) [57,60,49,61,62] rfl rfl rfl rfl ?_) ?_ ?_
   ·intro u Aq
    show ak _ _ _ _ _ [(57,(u 57)),(60,(u 60)),(49,(u 49)),(61,(u 61)),(62,(u 62)),(2,vP b1),(5,vP G.w),(53,.agg #[.iface 39 (vP G.w)]),(54,vI (c2.answer)),(56,.slice Ap (ps.length) (cp)),(59,vI (mode))] [.abs Aq] _
    refine gN 1 (fun b11=>[(8,vP b11)]) (fun _=>[]) (fun _=>[]) (fun b11=>.blk b11 [vI 0,.bool false,vI 0] 55) (fun b11=>?_)
    refine NL ?_
    exact MD b11 [8,57,60,49,61,62,2,5,53,54,56,59] [1,0]
   ·refine dW.step (gy.of (ι:=(Option Addr)×Nat) (v:=fun ((B5,p5):(Option Addr)×Nat)=>.slice B5 (ps.length) (p5)) (l:=fun ((B5,p5):(Option Addr)×Nat)=>[.abs (aK 9 1 B5 ps.length p5 (gZ ps)),wA G fs xs root S2 V2 q2.1]) [8] rfl rfl rfl rfl ?_) rfl ?_
    ·intro u Aq
     show ak _ _ _ _ _ [(8,(u 8)),(2,vP b1),(5,vP G.w),(53,.agg #[.iface 39 (vP G.w)]),(54,vI (c2.answer)),(56,.slice Ap (ps.length) (cp)),(59,vI (mode))] [wA G fs xs root S2 V2 q2.1,.abs Aq] _
     refine gL [] (sA (β:=mV) Ap cp ps hP hpl) ?_
     rintro _ _ ⟨B5,p5,rfl,rfl⟩
     refine NL ?_
     exact MD (B5,p5) [57,8,2,5,53,54,56,59] [0,1,2]
    rintro _ _ ⟨⟨B5,p5⟩,rfl,rfl⟩
    refine⟨qX 1 rfl,?_⟩
    refine dW.step (gy.of (ι:=WV×({ l:List aB // l.length=nr })) (v:=fun ((V3,q3):WV×({ l:List aB // l.length=nr }))=>.tuple #[.agg #[vI (cr),.bool false,vI (mr)],.nilIface]) (l:=fun ((V3,q3):WV×({ l:List aB // l.length=nr }))=>[wA G fs xs root Sr V3 q3.1]) [8] rfl rfl rfl rfl ?_) rfl ?_
    ·intro u Aq
     show ak _ _ _ _ _ [(8,(u 8)),(57,.slice B5 (ps.length) (p5)),(2,vP b1),(5,vP G.w),(53,.agg #[.iface 39 (vP G.w)]),(54,vI (c2.answer)),(56,.slice Ap (ps.length) (cp)),(59,vI (mode))] [.abs (aK 9 1 B5 ps.length p5 (gZ ps)),wA G fs xs root S2 V2 q2.1,.abs Aq] _
     refine gL [1,0] (Dz (β:=mV) (A:=B5) (kz:=p5) (G:=G) (V:=V2) (r:=⟨Sr,nr,cr,false,mr,0,ar⟩) rfl hrw uj q2.2 (by decide) jG hab hg hE Dw hpl hps hr) ?_
     rintro _ _ ⟨V3,q3,rfl,rfl⟩
     refine NL ?_
     exact MD (V3,q3) [60,8,57,2,5,53,54,56,59] [0,1]
    rintro _ _ ⟨⟨V3,q3⟩,rfl,rfl⟩
    refine⟨qX 0 rfl,?_⟩
    refine dW.read (v:=.tuple #[.agg #[vI (cr),.bool false,vI (mr)],.nilIface]) (fun _=>by kernel_rfl) rfl rfl ?_
    refine dW.read (v:=.agg #[vI (cr),.bool false,vI (mr)]) (fun _=>by kernel_rfl) rfl rfl ?_
    refine dW.read (v:=.nilIface) (fun _=>by kernel_rfl) rfl rfl ?_
    exact⟨B5,p5,V3,q3,rfl,rfl⟩
   rintro _ _ ⟨B5,p5,V3,q3,rfl,rfl⟩ _ _ ⟨b11,rfl,rfl⟩
   refine fo.II (ι:=Unit) (fr':=fun (_:Unit)=>[(2,vP b1),(5,vP G.w),(8,vP b11),(62,.nilIface)]) (hp':=fun (_:Unit)=>[wA G fs xs root Sr V3 q3.1,.blk b11 [vI (cr),.bool false,vI (mr)] 55,.abs R,.blk b1 [.slice A (ns.length) (c),vI (root),vI (X.cN),vI (X.cB),vI (X.cH),vI (X.cS),vI (X.cZ),.slice Af (fs.length) (cf),.slice Aa (xs.length) (ca)] 34,.blk b2 [.slice Ap (ps.length) (cp),vI (mode),.bool far] 37]) (by kernel_rfl) ?_ (fun _ _ h=>(h.wk (i:=0) rfl).pick (idx:=[4,0]) rfl rfl) ?_
   ·refine gC 1 [] [(0,A_ 1 b11 3)] [(1,[(0,vI (cr)),(2,vI (mr))])] ?_
    refine NL ?_
    exact MD () [2,5,8,62] [0,1,2,3,4]
   rintro _
   refine fo.last (by kernel_rfl) ?_
   refine gK 1 [(9,.nilIface)] [] ?_
   refine NL (aj.np (NX (af.seq (SR ?_))))
   refine gK 2 [(64,.bool false)] [] ?_
   refine NN (CF (af.skip (NX (SR (gK 1 [(65,vP G.w)] [] ?_)))))
   refine gL [0] (uV (β:=mV) (G:=G) (fs:=fs) (xs:=xs) (root:=root) (S:=Sr) (V:=V3) (tr:=q3.1)) ?_
   rintro _ _ ⟨rfl,rfl⟩
   refine gK 1 [(10,vI ↑q3.1.length)] [] ?_
   refine NN (af.seq ?_)
   obtain⟨S4,c4,eS⟩:∃ Sx cx,aR fs xs root (nr+1) Sr (kU cr)=(Sx,cx):=⟨_,_,rfl⟩
   have hsc:=DF Vk eS
   refine af.wj (S:=[.blk b11 [vI (cr),.bool false,vI (mr)] 55,.abs (j6 G)]) 10 [(true,0),(true,1),(true,2),(true,3),(true,4),(true,5),(false,6),(true,7),(true,8),(true,9)] [(false,11),(false,12)] (by kernel_rfl) (by kernel_rfl) (fun _ h=>(h.wk (i:=0) rfl).pick (idx:=[1,0]) rfl rfl) ?_
   refine gJ [(false,6),(true,7),(true,8),(true,9)] [(2,vP b1),(5,vP G.w),(10,vI ↑q3.1.length),(71,.agg #[.iface 39 (vP G.w)]),(73,vI (cr))] [0,1,2,3,4,5] [(3,p_ ⟨[.view 1 (.iface 39 (vP G.w))],none,none,none,none⟩ [(∀ F w,(j6 G).h F w->w.cell? ⟨G.w,0,none⟩=some (.iface 39 (vP G.w)))] ⟨kE,trivial⟩),(5,a_ 0 b11)] ?_
   refine vA.beside (j:=10) (dj:=11) (R:=fun f_ l_=>∃ V4:WV,∃ q4:{ l:List aB // l.length=nr+1 },f_=[(76,vI (c4.code)),(75,.agg #[vI (c4.answer),vI (c4.other),vI (c4.mode),vI (c4.uid),vI (c4.gid),vI (c4.sec),vI (c4.nano)]),(67,.tuple #[.agg #[vI (c4.answer),vI (c4.other),vI (c4.mode),vI (c4.uid),vI (c4.gid),vI (c4.sec),vI (c4.nano)],vI (c4.code)]),(74,.tuple #[.agg #[vI (c4.answer),vI (c4.other),vI (c4.mode),vI (c4.uid),vI (c4.gid),vI (c4.sec),vI (c4.nano)],vI (c4.code)]),(2,vP b1),(5,vP G.w),(10,vI ↑q3.1.length),(71,.agg #[.iface 39 (vP G.w)]),(73,vI (cr))]/\l_=[wA G fs xs root S4 V4 q4.1]) (pc:=[wA G fs xs root Sr V3 q3.1]) (pj:=[]) (Z:=[.blk b11 [vI (cr),.bool false,vI (mr)] 55,.abs R,.blk b1 [.slice A (ns.length) (c),vI (root),vI (X.cN),vI (X.cB),vI (X.cH),vI (X.cS),vI (X.cZ),.slice Af (fs.length) (cf),.slice Aa (xs.length) (ca)] 34,.blk b2 [.slice Ap (ps.length) (cp),vI (mode),.bool far] 37]) [0,1,2,3,4] (BZ G) [(false,6,74),(true,7,67),(true,8,75),(true,9,76)] (by kernel_rfl) rfl rfl (zD (S1:=[.blk b11 [vI (cr),.bool false,vI (mr)] 55]) (pS:=[0]) rfl rfl) (qX 0 rfl) rfl rfl (gy.of (ι:=Nat) (v:=fun (b12:Nat)=>vP b12) (l:=fun (b12:Nat)=>[.blk b12 [vI 0,vI 0,vI 0,vI 0,vI 0,vI 0,vI 0] 65]) [74,67,75,76] rfl rfl rfl rfl ?_) ?_ ?_
   ·intro u Aq
    show ak _ _ _ _ _ [(74,(u 74)),(67,(u 67)),(75,(u 75)),(76,(u 76)),(2,vP b1),(5,vP G.w),(10,vI ↑q3.1.length),(71,.agg #[.iface 39 (vP G.w)]),(73,vI (cr))] [.abs Aq] _
    refine gN 1 (fun b12=>[(11,vP b12)]) (fun _=>[]) (fun _=>[]) (fun b12=>.blk b12 [vI 0,vI 0,vI 0,vI 0,vI 0,vI 0,vI 0] 65) (fun b12=>?_)
    refine NL ?_
    exact MD b12 [11,74,67,75,76,2,5,10,71,73] [1,0]
   ·refine dW.step (gy.of (ι:=WV×({ l:List aB // l.length=nr+1 })) (v:=fun ((V4,q4):WV×({ l:List aB // l.length=nr+1 }))=>.tuple #[.agg #[vI (c4.answer),vI (c4.other),vI (c4.mode),vI (c4.uid),vI (c4.gid),vI (c4.sec),vI (c4.nano)],vI (c4.code)]) (l:=fun ((V4,q4):WV×({ l:List aB // l.length=nr+1 }))=>[wA G fs xs root S4 V4 q4.1]) [11] rfl rfl rfl rfl ?_) rfl ?_
    ·intro u Aq
     show ak _ _ _ _ _ [(11,(u 11)),(2,vP b1),(5,vP G.w),(10,vI ↑q3.1.length),(71,.agg #[.iface 39 (vP G.w)]),(73,vI (cr))] [wA G fs xs root Sr V3 q3.1,.abs Aq] _
     refine gL [0] (Fm (β:=mV) (G:=G) (V:=V3) (tr:=q3.1) (S2:=S4) (c2:=c4) hrw Kq (by have:=q3.2;omega) jG hab hg cr hwc q3.2 eS) ?_
     rintro _ _ ⟨V4,q4,rfl,rfl⟩
     refine NL ?_
     exact MD (V4,q4) [74,11,2,5,10,71,73] [0,1]
    rintro _ _ ⟨⟨V4,q4⟩,rfl,rfl⟩
    refine⟨qX 0 rfl,?_⟩
    refine dW.read (v:=.tuple #[.agg #[vI (c4.answer),vI (c4.other),vI (c4.mode),vI (c4.uid),vI (c4.gid),vI (c4.sec),vI (c4.nano)],vI (c4.code)]) (fun _=>by kernel_rfl) rfl rfl ?_
    refine dW.read (v:=.agg #[vI (c4.answer),vI (c4.other),vI (c4.mode),vI (c4.uid),vI (c4.gid),vI (c4.sec),vI (c4.nano)]) (fun _=>by kernel_rfl) rfl rfl ?_
    refine dW.read (v:=.int .i64 (c4.code)) (fun _=>by kernel_rfl) rfl rfl ?_
    exact⟨V4,q4,rfl,rfl⟩
   rintro _ _ ⟨V4,q4,rfl,rfl⟩ _ _ ⟨b12,rfl,rfl⟩
   refine fo.II (ι:=Unit) (fr':=fun (_:Unit)=>[(2,vP b1),(5,vP G.w),(10,vI ↑q3.1.length),(11,vP b12),(76,vI (c4.code))]) (hp':=fun (_:Unit)=>[wA G fs xs root S4 V4 q4.1,.blk b12 [vI (c4.answer),vI (c4.other),vI (c4.mode),vI (c4.uid),vI (c4.gid),vI (c4.sec),vI (c4.nano)] 65,.blk b11 [vI (cr),.bool false,vI (mr)] 55,.abs R,.blk b1 [.slice A (ns.length) (c),vI (root),vI (X.cN),vI (X.cB),vI (X.cH),vI (X.cS),vI (X.cZ),.slice Af (fs.length) (cf),.slice Aa (xs.length) (ca)] 34,.blk b2 [.slice Ap (ps.length) (cp),vI (mode),.bool far] 37]) (by kernel_rfl) ?_ (fun _ _ h=>(h.wk (i:=0) rfl).pick (idx:=[2,0]) rfl rfl) ?_
   ·refine gC 1 [] [(0,A_ 1 b12 7)] [(1,[(0,vI (c4.answer)),(1,vI (c4.other)),(2,vI (c4.mode)),(3,vI (c4.uid)),(4,vI (c4.gid)),(5,vI (c4.sec)),(6,vI (c4.nano))])] ?_
    refine NL ?_
    exact MD () [2,5,10,11,76] [0,1,2,3,4,5]
   rintro _
   refine fo.last (by kernel_rfl) ?_
   refine gK 1 [(6,vI (c4.code))] [] ?_
   refine NL (aj.np (NX (af.seq (SR ?_))))
   refine gK 2 [(78,.bool (decide ((c4.code:Int)=(180:Int))))] [] ?_
   refine NN (af.aV (p:=(c4.code:Int)=(180:Int)) (fun _=>by kernel_rfl) (fun OB=>?_) (fun OB=>?_))
   ·refine SR (gK 1 [(4,.bool true)] [] ?_)
    refine NN (af.ret (aj.aq ?_))
    exact aj.wv (v:=.bool true) (l:=[]) (aZ:=[]) [] [3] hle0 (fun _=>by kernel_rfl) trivial rfl (by kernel_rfl) (rfl)
   obtain⟨hs0,hsa,hsu,OC,_⟩:=hsc.resolve_left OB
   have om:Inv S4:=by have h:=Inv.aR (fs:=fs) (xs:=xs) (root:=root) (n:=nr+1) (c:=kU cr) Kq;rw [eS] at h;exact h
   have hbx:=FA hrr RN Kq om eS hsu OC hsa
   have QH:(Lit.int .i64 c4.answer).wf=true:=Oy om OC hsa
   refine af.skip (NX (af.seq (SR (gK 4 [(81,.bool false),(82,vP G.w)] [(1,p_ ⟨[],none,none,none,some (.bool false)⟩ [((.bool (!(decide ((c4.code:Int)=(0:Int)))):Value))=(.bool false)] ⟨congrArg (fun b=>Value.bool !b) (decide_eq_true (hs0)),trivial⟩)] ?_))))
   refine gL [0] (uV (β:=mV) (G:=G) (fs:=fs) (xs:=xs) (root:=root) (S:=S4) (V:=V4) (tr:=q4.1)) ?_
   rintro _ _ ⟨rfl,rfl⟩
   refine gK 4 [(87,.bool false)] [(1,p_ ⟨[],none,none,none,some (vI ↑(q3.1.length+1))⟩ [(Value.int .i64 (IntKind.wrap .i64 (((q3.1.length:Nat):Int)+1)))=(.int .i64 ↑(q3.1.length+1))] ⟨bB (by omega) (by omega) (by omega),trivial⟩),(2,p_ ⟨[],none,none,none,some (.bool false)⟩ [((.bool (!(decide ((((q4.1.length:Nat):Int):Int)=(((q3.1.length+1:Nat):Int):Int)))):Value))=(.bool false)] ⟨congrArg (fun b=>Value.bool !b) (decide_eq_true (by have h1:=q3.2;have h2:=q4.2;omega)),trivial⟩)] ?_
   refine NN (CF (af.skip (NX (SR (gK 1 [(88,vP G.w)] [] ?_)))))
   refine ak.fH (d:=(some 89)) (R:=[.blk b12 [vI (c4.answer),vI (c4.other),vI (c4.mode),vI (c4.uid),vI (c4.gid),vI (c4.sec),vI (c4.nano)] 65,.blk b11 [vI (cr),.bool false,vI (mr)] 55,.abs R,.blk b1 [.slice A (ns.length) (c),vI (root),vI (X.cN),vI (X.cB),vI (X.cH),vI (X.cS),vI (X.cZ),.slice Af (fs.length) (cf),.slice Aa (xs.length) (ca)] 34,.blk b2 [.slice Ap (ps.length) (cp),vI (mode),.bool far] 37]) (pk:=[0,1,2,3,4,5]) (fun _=>by kernel_rfl) (xH (β:=mV) (G:=G) (fs:=fs) (xs:=xs) (root:=root) (S:=S4) (V:=V4) (tr:=q4.1) om) rfl (by kernel_rfl) ?_
   rintro ZI _ _ nF ⟨Ag,cg,Kg,rfl,rfl,hH⟩
   replace hG:=hG.le nF
   replace hF:=hF.le nF
   replace hA:=hA.le nF
   replace hP:=hP.le nF
   replace hg:=hg.le nF
   replace hE:=hE.le nF
   replace jG:=jG.le nF
   replace hle0:=hle0.trans nF
   refine gN 2 (fun b14=>[(12,vP b14)]) (fun b14=>[(1,a_ 6 b14)]) (fun _=>[]) (fun b14=>.blk b14 [.slice Ag ((ay S4).length) (cg)] 24) (fun b14=>?_)
   refine NS (gK 3 [(91,.agg #[.slice Ag ((ay S4).length) (cg)]),(93,vI (root))] [(0,a_ 6 b14),(2,a_ 4 b1)] ?_)
   refine ak.fH (d:=(some 94)) (R:=[wA G fs xs root S4 V4 q4.1,.blk b12 [vI (c4.answer),vI (c4.other),vI (c4.mode),vI (c4.uid),vI (c4.gid),vI (c4.sec),vI (c4.nano)] 65,.blk b11 [vI (cr),.bool false,vI (mr)] 55,.abs R,.blk b1 [.slice A (ns.length) (c),vI (root),vI (X.cN),vI (X.cB),vI (X.cH),vI (X.cS),vI (X.cZ),.slice Af (fs.length) (cf),.slice Aa (xs.length) (ca)] 34,.blk b2 [.slice Ap (ps.length) (cp),vI (mode),.bool far] 37,.blk b14 [.slice Ag ((ay S4).length) (cg)] 24]) (pk:=[0,1,2,3,4,5,6]) (fun _=>by kernel_rfl) (IU Ag cg (ay S4) Kg hH (Ar om.toInv0) root (Ci hrw)) rfl (by kernel_rfl) ?_
   rintro UZ _ _ iN ⟨Bu,cu,rfl,rfl,hU⟩
   replace hG:=hG.le iN
   replace hF:=hF.le iN
   replace hA:=hA.le iN
   replace hP:=hP.le iN
   replace hg:=hg.le iN
   replace hE:=hE.le iN
   replace jG:=jG.le iN
   replace hH:=hH.le iN
   replace hle0:=hle0.trans iN
   refine gK 5 [(13,.slice Bu ((bH (ay S4) root).1.length) (cu)),(14,vI ((bH (ay S4) root).2))] [] ?_
   refine NN (af.seq (SR (gK 1 [(15,vI 0)] [] ?_)))
   refine NN (af.block ?_)
   refine af.loop (ι:=Nat) (fun (i:Nat)=>(i<=(bH (ay S4) root).1.length)/\(∀ j,j < i->(bH (ay S4) root).1.getD j 0≠c4.answer)) (fun (i:Nat)=>(bH (ay S4) root).1.length - i) (fun (i:Nat)=>[(11,vP b12),(12,vP b14),(13,.slice Bu ((bH (ay S4) root).1.length) (cu)),(14,vI ((bH (ay S4) root).2)),(15,vI ↑i)]) (fun (i:Nat)=>[wA G fs xs root S4 V4 q4.1,.blk b12 [vI (c4.answer),vI (c4.other),vI (c4.mode),vI (c4.uid),vI (c4.gid),vI (c4.sec),vI (c4.nano)] 65,.blk b11 [vI (cr),.bool false,vI (mr)] 55,.abs R,.blk b1 [.slice A (ns.length) (c),vI (root),vI (X.cN),vI (X.cB),vI (X.cH),vI (X.cS),vI (X.cZ),.slice Af (fs.length) (cf),.slice Aa (xs.length) (ca)] 34,.blk b2 [.slice Ap (ps.length) (cp),vI (mode),.bool far] 37,.blk b14 [.slice Ag ((ay S4).length) (cg)] 24]) 0 (idx:=[11,12,13,14,15]) (pk:=[0,1,2,3,4,5,6]) (show (0<=(bH (ay S4) root).1.length)/\(∀ j,j < 0->(bH (ay S4) root).1.getD j 0≠c4.answer) from ⟨Nat.zero_le _,fun j hj=>absurd hj (Nat.not_lt_zero j)⟩) (fun _=>by kernel_rfl) rfl (by kernel_rfl) ?_
   rintro i ⟨hi,hno⟩
   show af _ _ _ _ [(11,vP b12),(12,vP b14),(13,.slice Bu ((bH (ay S4) root).1.length) (cu)),(14,vI ((bH (ay S4) root).2)),(15,vI ↑i)] [wA G fs xs root S4 V4 q4.1,.blk b12 [vI (c4.answer),vI (c4.other),vI (c4.mode),vI (c4.uid),vI (c4.gid),vI (c4.sec),vI (c4.nano)] 65,.blk b11 [vI (cr),.bool false,vI (mr)] 55,.abs R,.blk b1 [.slice A (ns.length) (c),vI (root),vI (X.cN),vI (X.cB),vI (X.cH),vI (X.cS),vI (X.cZ),.slice Af (fs.length) (cf),.slice Aa (xs.length) (ca)] 34,.blk b2 [.slice Ap (ps.length) (cp),vI (mode),.bool far] 37,.blk b14 [.slice Ag ((ay S4).length) (cg)] 24] _
   have Ya:(bH (ay S4) root).1.length<=1048576:=DE om.toInv0 root
   refine af.seq (SR (gK 4 [(100,.bool (decide ((((i:Nat):Int):Int) < ((((bH (ay S4) root).1.length:Nat):Int):Int))))] [] ?_))
   refine NN (af.aV (p:=(((i:Nat):Int):Int) < ((((bH (ay S4) root).1.length:Nat):Int):Int)) (fun _=>by kernel_rfl) (fun QI=>?_) (fun QI=>?_))
   ·refine af.skip (NX (af.seq (af.block (af.seq ?_))))
    refine af.eP (by kernel_rfl) (by kernel_rfl) ?_
    refine gQ 7 [(109,.bool (decide ((((bH (ay S4) root).1.getD i 0):Int)=(c4.answer:Int))))] [(2,p_ ⟨[],some i,none,some ⟨(ax Bu),av Bu,none⟩,none⟩ [((i:Nat):Int)=((i:Nat):Int),i < (bH (ay S4) root).1.length,(⟨(ax Bu),av Bu,none⟩:Addr).spot=none,(Bu:Option Addr)=some ⟨(ax Bu),av Bu,none⟩] ⟨rfl,by omega,rfl,uU.hd (l:=(bH (ay S4) root).1) hU (j:=i) (by omega),trivial⟩),(3,p_ ⟨[.old (.int .i64 (((bH (ay S4) root).1.getD i 0)))],none,none,none,none⟩ [(Rd UZ ⟨(ax Bu),av Bu+i * 1,none⟩ (.int .i64 (((bH (ay S4) root).1.getD i 0))))] ⟨uU.rd (l:=(bH (ay S4) root).1) hU (j:=i) (by omega),trivial⟩),(5,a_ 1 b12)] ?_
    refine NQ (NX ?_)
    refine af.aV (p:=(((bH (ay S4) root).1.getD i 0):Int)=(c4.answer:Int)) (fun _=>by kernel_rfl) (fun IX=>?_) (fun IX=>?_)
    ·refine SR (gK 1 [(4,.bool true)] [] ?_)
     refine NN (af.ret (aj.aL (aj.aq (aj.aq (aj.aL (aj.aq ?_))))))
     exact aj.wv (v:=.bool true) (l:=[]) (aZ:=[]) [] [3] hle0 (fun _=>by kernel_rfl) trivial rfl (by kernel_rfl) (rfl)
    refine af.skip (aj.aP (NX (af.region ?_)))
    refine gK 3 [(15,vI ↑(i+1))] [(1,p_ ⟨[],none,none,none,some (vI ↑(i+1))⟩ [(Value.int .i64 (IntKind.wrap .i64 (((i:Nat):Int)+1)))=(.int .i64 ↑(i+1))] ⟨bB (by omega) (by omega) (by omega),trivial⟩)] ?_
    refine NL ?_
    exact aj.turn ((i+1)) (idx:=[11,12,13,14,15]) (pk:=[0,1,2,3,4,5,6]) (show (((i+1))<=(bH (ay S4) root).1.length)/\(∀ j,j < ((i+1))->(bH (ay S4) root).1.getD j 0≠c4.answer) from ⟨by omega,fun j hj=>by rcases Nat.lt_succ_iff_lt_or_eq.1 hj with h|h;exact hno j h;rw [h];exact IX⟩) (by show (bH (ay S4) root).1.length - ((i+1)) < (bH (ay S4) root).1.length - i;omega) (fun _=>by kernel_rfl) rfl (by kernel_rfl)
   refine af.exit (aj.aU (aj.aU (aj.cK (NX (SR ?_)))))
   refine gK 3 [(111,.agg #[.slice Ag ((ay S4).length) (cg)]),(113,vI (c4.answer))] [(0,a_ 6 b14),(2,a_ 1 b12)] ?_
   refine gL [] (IJ Ag cg (ay S4) Kg hH (Ar om.toInv0) c4.answer (Ci QH)) ?_
   rintro _ _ ⟨rfl,rfl⟩
   refine gK 5 [(16,vI ((kO (ay S4) c4.answer).1))] [] ?_
   refine NS ?_
   have hlz:=Bh hbx (fun hm=>by obtain⟨j,hj,e⟩:=List.getElem_of_mem hm;exact hno j (by omega) (by rw [List.getD_eq_getElem?_getD,List.getElem?_eq_getElem hj,e];rfl))
   refine gK 7 [(4,.bool true)] [(1,p_ ⟨[],none,none,none,some (.bool true)⟩ [((.bool (decide (((bH (ay S4) root).2:Int)=(0:Int))):Value))=(.bool true)] ⟨congrArg Value.bool (decide_eq_true (hlz.1)),trivial⟩),(4,p_ ⟨[],none,none,none,some (.bool true)⟩ [((.bool (decide (((kO (ay S4) c4.answer).1:Int)=(0:Int))):Value))=(.bool true)] ⟨congrArg Value.bool (decide_eq_true (hlz.2)),trivial⟩)] ?_
   refine NN (af.ret ?_)
   exact aj.wv (v:=.bool true) (l:=[]) (aZ:=[]) [] [3] hle0 (fun _=>by kernel_rfl) trivial rfl (by kernel_rfl) (rfl)
  have F9:Sr.us.length=1:=hw.bad hc
  refine af.wj (S:=[.blk b2 [.slice Ap (ps.length) (cp),vI (mode),.bool far] 37,.abs (j6 G)]) 14 [(true,0),(true,1),(true,2),(true,3),(true,4),(true,5),(true,6),(true,8),(true,9),(false,7),(false,10),(true,11),(true,12),(true,13)] [(false,15),(false,16)] (by kernel_rfl) (by kernel_rfl) (fun _ h=>(h.wk (i:=0) rfl).pick (idx:=[3,0]) rfl rfl) ?_
  refine gJ [(false,7),(false,10),(true,11),(true,12),(true,13)] [(2,vP b1),(5,vP G.w),(53,.agg #[.iface 39 (vP G.w)]),(54,vI (c2.answer)),(56,.slice Ap (ps.length) (cp)),(59,vI (mode))] [0,1,2,3,4,5,6,8,9] [(3,p_ ⟨[.view 1 (.iface 39 (vP G.w))],none,none,none,none⟩ [(∀ F w,(j6 G).h F w->w.cell? ⟨G.w,0,none⟩=some (.iface 39 (vP G.w)))] ⟨kE,trivial⟩),(6,a_ 0 b2),(8,a_ 0 b2)] ?_
  refine vA.beside (j:=14) (dj:=8) (R:=fun f_ l_=>∃ B5:Option Addr,∃ p5:Nat,∃ V3:WV,∃ q3:{ l:List aB // l.length=nr },∃ e:Nat,∃ nm:ByteArray,f_=[(62,.iface 92 (vP e)),(61,.agg #[vI (0),.bool false,vI (mr)]),(49,.tuple #[.agg #[vI (0),.bool false,vI (mr)],.iface 92 (vP e)]),(60,.tuple #[.agg #[vI (0),.bool false,vI (mr)],.iface 92 (vP e)]),(57,.slice B5 (ps.length) (p5)),(2,vP b1),(5,vP G.w),(53,.agg #[.iface 39 (vP G.w)]),(54,vI (c2.answer)),(56,.slice Ap (ps.length) (cp)),(59,vI (mode))]/\l_=[wA G fs xs root Sr V3 q3.1,.blk e [vI (ar),.string nm,vI (kr)] 94]) (pc:=[wA G fs xs root S2 V2 q2.1]) (pj:=[]) (Z:=[.abs R,.blk b1 [.slice A (ns.length) (c),vI (root),vI (X.cN),vI (X.cB),vI (X.cH),vI (X.cS),vI (X.cZ),.slice Af (fs.length) (cf),.slice Aa (xs.length) (ca)] 34,.blk b2 [.slice Ap (ps.length) (cp),vI (mode),.bool far] 37]) [0,1,2,3] (BZ G) [(false,7,57),(false,10,60),(true,11,49),(true,12,61),(true,13,62)] (by kernel_rfl) rfl rfl (zD (S1:=[.blk b2 [.slice Ap (ps.length) (cp),vI (mode),.bool far] 37]) (pS:=[2]) rfl rfl) (qX 0 rfl) rfl rfl (gy.of (ι:=Nat) (v:=fun (b16:Nat)=>vP b16) (l:=fun (b16:Nat)=>[.blk b16 [vI 0,.bool false,vI 0] 55]) [57,60,49,61,62] rfl rfl rfl rfl ?_) ?_ ?_
  ·intro u Aq
   show ak _ _ _ _ _ [(57,(u 57)),(60,(u 60)),(49,(u 49)),(61,(u 61)),(62,(u 62)),(2,vP b1),(5,vP G.w),(53,.agg #[.iface 39 (vP G.w)]),(54,vI (c2.answer)),(56,.slice Ap (ps.length) (cp)),(59,vI (mode))] [.abs Aq] _
   refine gN 1 (fun b16=>[(8,vP b16)]) (fun _=>[]) (fun _=>[]) (fun b16=>.blk b16 [vI 0,.bool false,vI 0] 55) (fun b16=>?_)
   refine NL ?_
   exact MD b16 [8,57,60,49,61,62,2,5,53,54,56,59] [1,0]
  ·refine dW.step (gy.of (ι:=(Option Addr)×Nat) (v:=fun ((B5,p5):(Option Addr)×Nat)=>.slice B5 (ps.length) (p5)) (l:=fun ((B5,p5):(Option Addr)×Nat)=>[.abs (aK 9 1 B5 ps.length p5 (gZ ps)),wA G fs xs root S2 V2 q2.1]) [8] rfl rfl rfl rfl ?_) rfl ?_
   ·intro u Aq
    show ak _ _ _ _ _ [(8,(u 8)),(2,vP b1),(5,vP G.w),(53,.agg #[.iface 39 (vP G.w)]),(54,vI (c2.answer)),(56,.slice Ap (ps.length) (cp)),(59,vI (mode))] [wA G fs xs root S2 V2 q2.1,.abs Aq] _
    refine gL [] (sA (β:=mV) Ap cp ps hP hpl) ?_
    rintro _ _ ⟨B5,p5,rfl,rfl⟩
    refine NL ?_
    exact MD (B5,p5) [57,8,2,5,53,54,56,59] [0,1,2]
   rintro _ _ ⟨⟨B5,p5⟩,rfl,rfl⟩
   refine⟨qX 1 rfl,?_⟩
   refine dW.step (gy.of (ι:=WV×({ l:List aB // l.length=nr })×Nat×ByteArray) (v:=fun ((V3,q3,e,nm):WV×({ l:List aB // l.length=nr })×Nat×ByteArray)=>.tuple #[.agg #[vI (0),.bool false,vI (mr)],.iface 92 (vP e)]) (l:=fun ((V3,q3,e,nm):WV×({ l:List aB // l.length=nr })×Nat×ByteArray)=>[wA G fs xs root Sr V3 q3.1,.blk e [vI (ar),.string nm,vI (kr)] 94]) [8] rfl rfl rfl rfl ?_) rfl ?_
   ·intro u Aq
    show ak _ _ _ _ _ [(8,(u 8)),(57,.slice B5 (ps.length) (p5)),(2,vP b1),(5,vP G.w),(53,.agg #[.iface 39 (vP G.w)]),(54,vI (c2.answer)),(56,.slice Ap (ps.length) (cp)),(59,vI (mode))] [.abs (aK 9 1 B5 ps.length p5 (gZ ps)),wA G fs xs root S2 V2 q2.1,.abs Aq] _
    refine gL [1,0] (Ju (β:=mV) (A:=B5) (kz:=p5) (G:=G) (V:=V2) (r:=⟨Sr,nr,cr,ow,mr,kr,ar⟩) hc hrw uj q2.2 (by decide) jG hab hg hE Dw hpl hps hr) ?_
    rintro _ _ ⟨V3,q3,e,nm,rfl,rfl⟩
    refine NL ?_
    exact MD (V3,q3,e,nm) [60,8,57,2,5,53,54,56,59] [0,1,2]
   rintro _ _ ⟨⟨V3,q3,e,nm⟩,rfl,rfl⟩
   refine⟨qX 0 rfl,?_⟩
   refine dW.read (v:=.tuple #[.agg #[vI (0),.bool false,vI (mr)],.iface 92 (vP e)]) (fun _=>by kernel_rfl) rfl rfl ?_
   refine dW.read (v:=.agg #[vI (0),.bool false,vI (mr)]) (fun _=>by kernel_rfl) rfl rfl ?_
   refine dW.read (v:=.iface 92 (vP e)) (fun _=>by kernel_rfl) rfl rfl ?_
   exact⟨B5,p5,V3,q3,e,nm,rfl,rfl⟩
  rintro _ _ ⟨B5,p5,V3,q3,e,nm,rfl,rfl⟩ _ _ ⟨b16,rfl,rfl⟩
  refine fo.II (ι:=Unit) (fr':=fun (_:Unit)=>[(2,vP b1),(5,vP G.w),(8,vP b16),(62,.iface 92 (vP e))]) (hp':=fun (_:Unit)=>[wA G fs xs root Sr V3 q3.1,.blk e [vI (ar),.string nm,vI (kr)] 94,.blk b16 [vI (0),.bool false,vI (mr)] 55,.abs R,.blk b1 [.slice A (ns.length) (c),vI (root),vI (X.cN),vI (X.cB),vI (X.cH),vI (X.cS),vI (X.cZ),.slice Af (fs.length) (cf),.slice Aa (xs.length) (ca)] 34,.blk b2 [.slice Ap (ps.length) (cp),vI (mode),.bool far] 37]) (by kernel_rfl) ?_ (fun _ _ h=>(h.wk (i:=0) rfl).pick (idx:=[5,0]) rfl rfl) ?_
  ·refine gC 1 [] [(0,A_ 2 b16 3)] [(2,[(0,vI (0)),(2,vI (mr))])] ?_
   refine NL ?_
   exact MD () [2,5,8,62] [0,1,2,3,4,5]
  rintro _
  refine fo.last (by kernel_rfl) ?_
  refine gK 1 [(9,.iface 92 (vP e))] [] ?_
  refine NL (aj.np (NX (af.seq (SR ?_))))
  refine gK 2 [(64,.bool true)] [] ?_
  refine NN (CT (SR (gK 1 [(4,.bool true)] [] ?_)))
  refine NN (af.ret (aj.aq ?_))
  exact aj.wv (v:=.bool true) (l:=[]) (aZ:=[]) [] [3] hle0 (fun _=>by kernel_rfl) trivial rfl (by kernel_rfl) (rfl)
 refine af.region (gK 1 [(21,.agg #[.slice A (ns.length) (c),vI (root),vI (X.cN),vI (X.cB),vI (X.cH),vI (X.cS),vI (X.cZ),.slice Af (fs.length) (cf),.slice Aa (xs.length) (ca)])] [(0,A_ 1 b1 9)] ?_)
 refine ak.fH (d:=(some 22)) (R:=[.abs R,.blk b1 [.slice A (ns.length) (c),vI (root),vI (X.cN),vI (X.cB),vI (X.cH),vI (X.cS),vI (X.cZ),.slice Af (fs.length) (cf),.slice Aa (xs.length) (ca)] 34,.blk b2 [.slice Ap (ps.length) (cp),vI (mode),.bool far] 37]) (pk:=[0,1,2]) (fun _=>by kernel_rfl) (LI (β:=Fk) (X:=X) h0 A c Y hG hB Af cf fs hF (mG.wide (by decide)) Aa ca xs hA hab) rfl (by kernel_rfl) ?_
 rintro X3 _ _ iO ⟨rfl,rfl⟩
 replace hG:=hG.le iO
 replace hF:=hF.le iO
 replace hA:=hA.le iO
 replace hP:=hP.le iO
 replace hg:=hg.le iO
 replace hE:=hE.le iO
 replace hle0:=hle0.trans iO
 refine gK 5 [(5,.pointer none),(6,vI ((dh X ns root)))] [] ?_
 refine NN (af.seq (SR (gK 6 [(30,.bool true)] [(1,p_ ⟨[],none,none,none,some (.bool true)⟩ [((.bool (!(decide (((dh X ns root):Int)=(0:Int)))):Value))=(.bool true)] ⟨congrArg (fun b=>Value.bool !b) (decide_eq_false h0),trivial⟩)] ?_)))
 refine NN (CT (SR (gK 7 [(4,.bool true)] [(4,p_ ⟨[],none,none,none,some (.bool true)⟩ [((.bool (!(decide (((dh X ns root):Int)=(0:Int)))):Value))=(.bool true)] ⟨congrArg (fun b=>Value.bool !b) (decide_eq_false h0),trivial⟩)] ?_)))
 refine NN (af.ret (aj.aq ?_))
 exact aj.wv (v:=.bool true) (l:=[]) (aZ:=[]) [] [0] hle0 (fun _=>by kernel_rfl) trivial rfl (by kernel_rfl) (rfl)
end
section
open Go.RowKit
theorem glob_ok {W:World} (h:W.ShapedOpen Tryz.prog):dQ (B0 W):=by
  obtain⟨m,hm⟩:=cell_of_shapedOpen_int (g:=1) (t:=3) (zero:=#[.int .i64 0]) (k:=.i64) h (Nat.le_of_ble_eq_true (by kernel_rfl)) (by kernel_rfl) rfl (by kernel_rfl) (by kernel_rfl) Tryz.underlying3
  exact⟨m,DK hm,hm⟩
end
section
open Go.ChangeShapes Go.WideShapes Go.ChangeAt Go.RowKit
structure zF (l:List ByteArray) (b:Nat):Prop where
  len:l.length+1<=b
  size:∀ i,i < l.length->(pc l i).size+1<=b
theorem zF.mono {l:List ByteArray} {b c:Nat} (h:zF l b) (hb:b<=c):zF l c:=⟨Nat.le_trans h.len hb,fun i hi=>Nat.le_trans (h.size i hi) hb⟩
theorem DG:∀ (d:List ByteArray) (k:Nat),dH (fun _ s=>[Value.string s]) k d=gZ d
  | [],_=>rfl
  | b::r,k=>by rw [dH,DG r (k+1)];rfl
section
variable {H:Type} {enc:TypeId×Value->H} {W:World} {sp:Nat->Bool}
theorem LZ {P:Program} {t:TypeId} {n:Nat} {cs:List Value} {x:DataW H×List MemPlace} (ht:P.underlying t=some .string) (h:DataW.trod enc P W 0 sp true n t cs=some x):∃ s:ByteArray,cs=[Value.string s]/\s.size+1<=Rows.uptoBulk x.1:=by
  obtain⟨s,h1,h2,_⟩:=DataW.trod_string ht h
  refine⟨s,h1,?_⟩
  rw [h2]
  simp only [Rows.uptoBulk,Array.length_toList]
  exact Nat.le_refl _
theorem Jz {n:Nat} {c:Value} {x:DataW H×List MemPlace} (h:DataW.trod enc Tryz.prog W 0 sp true n 35 [c]=some x) :
    ∃ A cp,∃ ss:List ByteArray,c=.slice A ss.length cp/\eU (B0 W) A ss/\zF ss (Rows.uptoBulk x.1):=by
  obtain⟨A,cp,xs,D,h1,_,_,h2,h4,h3⟩:=qy (α:=ByteArray) (f:=fun s=>[Value.string s]) (Q:=fun s d=>s.size+1<=Rows.uptoBulk d) Tryz.underlying35 (size:=1) (by kernel_rfl) (by decide) (fun n cs x h=>LZ Tryz.underlying9 h) (fun _=>rfl) h
  cases h1
  rw [DG] at h2
  have h5:=qx ((List.range xs.length).map D)
  have h3:Rows.uptoBulkAll ((List.range xs.length).map D)+1<=Rows.uptoBulk x.1:=h3
  refine⟨_,_,xs,rfl,h2,by simp at h5;omega,fun i hi=>?_⟩
  have h6:=h4 i hi
  have h7:=wE (D:=D) hi
  have e:pc xs i=xs.getD i default:=rfl
  rw [e]
  omega
theorem open_way {v:Value} {d:DataW H} {ps:List MemPlace} {r:Go.Reach} {b0:Nat} (hval:Value.okWide Tryz.prog W r b0 37 v) (h:DataW.Trod enc Tryz.prog W 0 sp true 37 v d ps) :
    ∃ A cp,∃ ss:List ByteArray,∃ mode:Int,∃ far:Bool,v=.agg #[.slice A ss.length cp,.int .i64 mode,.bool far]/\eU (B0 W) A ss/\zF ss (Rows.uptoBulk d):=by
  obtain⟨cs,rfl,hcs⟩:=okWide_struct Tryz.underlying37 hval
  obtain⟨fuel,h⟩:=h
  obtain⟨ys,m,_,hx,hl,nQ,hf⟩:=DataW.trod_struct Tryz.underlying37 h
  have hC:Tryz.prog.cellsOf 37=3:=by kernel_rfl
  rw [hC] at hcs
  obtain⟨cs⟩:=cs
  match cs,hcs with
  | [c0,c1,c2],_=>
    obtain⟨h0,b0⟩:=bJ (hf 0 _ rfl) (by rw [nQ];decide)
    obtain⟨h1,_⟩:=bJ (hf 1 _ rfl) (by rw [nQ];decide)
    obtain⟨h2,_⟩:=bJ (hf 2 _ rfl) (by rw [nQ];decide)
    obtain⟨A,cp,ss,rfl,hP,hB⟩:=Jz (c:=c0) h0
    obtain⟨z,rfl,_⟩:=tB (c:=c1) Tryz.underlying3 h1
    obtain⟨b,e,_⟩:=DataW.trod_bool Tryz.underlying4 h2
    cases e
    cases hx
    exact⟨A,cp,ss,z,b,rfl,hP,hB.mono b0⟩
end
end
section
open Go.RowKit
theorem et:Tryz.prog.globalNamed "errors.errorType" = some 0:=by kernel_rfl
theorem Za:(Tryz.prog.cutTypes.find? (·.1 == "internal/reflectlite.rtype")).map (·.2)=some 195:=by kernel_rfl
theorem Vl:((List.range 365).filter fun t=>Tryz.prog.rowNamed t [101,114,114,111,114])=[57]:=by kernel_rfl
theorem Wf:Tryz.prog.types.size=365:=by kernel_rfl
theorem err_laid {W:World} (h:laidMetH Tryz.prog Rows.resolveHoldsUptoRow.laid W):jl (B0 W):=by
  have h':laidMet Tryz.prog [] W/\handlesMet Tryz.prog Rows.resolveHoldsUptoRow.laid W:=h
  obtain⟨name,u,ty,e1,e2,e3,e4,e5⟩:=h'.2 _ (List.mem_singleton.2 rfl)
  have en:name=[101,114,114,111,114]:=(Option.some.inj e1).symm
  subst en
  obtain rfl:=Option.some.inj (Za.symm.trans e2)
  have hm:ty∈(List.range 365).filter fun t=>Tryz.prog.rowNamed t [101,114,114,111,114]:=List.mem_filter.2 ⟨List.mem_range.2 (by rw [← Wf];exact e3),e4⟩
  rw [Vl] at hm
  obtain rfl:=List.mem_singleton.1 hm
  have hh:typeHandle Tryz.prog 57=.pointer (some ⟨12,57,none⟩):=by kernel_rfl
  rw [hh] at e5
  have hc:W.cell? ⟨0,0,none⟩=some (.iface 195 (.agg #[.pointer (some ⟨12,57,none⟩)])):=by simpa using World.var?_cell et e5 0
  exact⟨DK hc,hc⟩
noncomputable def laidWorld (os:Os):World:=
  { World.holding Tryz.prog os ⟨#[],#[],[]⟩ with heap:=(World.holding Tryz.prog os ⟨#[],#[],[]⟩).heap.modify 0 fun
      | .cells _ t frozen=>.cells #[.iface 195 (.agg #[.pointer (some ⟨12,57,none⟩)])] t frozen
      | o=>o }
theorem laidWorld_met (os:Os) (args:Array Value):laidMetH Tryz.prog Rows.resolveHoldsUptoRow.laid ((laidWorld os).forCall (fun _ _=>0) ⟨#[],args,[]⟩).memory:=
  laidMetH_of_parts (laidMet_nil _ _) (by kernel_rfl)
end
end Go.Proofs.YtiehgnlnofhbaaaGreatDoor
