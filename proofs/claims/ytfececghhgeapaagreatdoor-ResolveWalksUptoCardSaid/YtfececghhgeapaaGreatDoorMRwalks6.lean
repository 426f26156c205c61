/-
  PROVED HERE: lemmas and contracts of functions (texts of this repo, joined; what the claim does not use is left out): Py, WK, EA, Df, RA, RB, Rh, We, WG, Wl, Wf, Rw, Rl, Ra, YA, Wy, Wv, Rq, Qt, VW, Ro, Qu, Zg, YZ.
  CONDITIONS: as the theorems say.
-/
import Derived.Test.YtfececghhgeapaaGreatDoorMRwalks5
import Derived.Stop.Asserts
import Derived.Defers
import Derived.LaidLaws
import Derived.LaidHandle
import Derived.Lib.LaidTab
import Derived.ChangeMaps5
import Derived.Test.YtfececghhgeapaaGreatDoorRows
import Derived.Shelf.Vars
import Derived.Deep.DeepLaidRun
import Derived.Stop.Joined
set_option maxRecDepth 100000
set_option maxHeartbeats 4000000
namespace Go.Proofs.YtfececghhgeapaaGreatDoor
section
open Go.RowKit Go.Maps bw aI
section p
variable {fs:List cF} {xs:List cM} {af:Int} {S S1 S2:bg} {n:Nat} {c c2:aN} {tr G6 CU os:List aN} {A:Option Addr} {m i:Nat}
theorem Qr {x y e:Int} (h:¬(c.op=11\/c.op=12)):iz {c with answer:=x,code:=y} e=iz c e:=(nw (c:=c.op=11\/c.op=12) h).trans (nw h).symm
theorem Yt {x y:Int} (h:c.op=1\/c.op=2\/c.op=4\/c.op=13):br fs xs af n S {c with answer:=x,code:=y}=br fs xs af n S c:=by
 have hr:bY af {c with answer:=x,code:=y}={bY af c with answer:=x,code:=y}:=by
  unfold bY
  show (if c.op=1 then _ else _)=_
  split<;>rfl
 have ho:(bY af c).op=c.op:=by unfold bY;split<;>rfl
 have hd:∀S,fC S {bY af c with answer:=x,code:=y}=fC S (bY af c):=λ_=>rfl
 unfold br
 rw [hr]
 unfold dZ
 rw [hd,Qr d5,Qr d5]
 split
 ·rfl
 split
 ·rfl
 rw [nw (λq=>by have:=q.2.1;show False;have h2:(bY af c).op=9:=this;omega),nw d5]
theorem adq:bY af (bY af c)=bY af c:=by
 by_cases h:c.op=1
 ·rw [show bY af c={c with other:=af} from t8 h];exact t8 h
 rw [show bY af c=c from nw h];exact nw h
theorem G7:br fs xs af n S (bY af c)=br fs xs af n S c:=by unfold br;rw [adq]
theorem abh (h:c.op=1\/c.op=2\/c.op=4\/c.op=13):∃a,(iE S c).2.2={c with answer:=a}:=by
 rcases h with h|h|h|h
 ·rw [vD h];unfold kI;(repeat' split)<;>exact⟨_,rfl⟩
 ·rw [tW h];unfold fZ;(repeat' split)<;>(try unfold fB)<;>(try split)<;>exact⟨_,rfl⟩
 ·rw [vE h];unfold iH;(repeat' split)<;>exact⟨_,rfl⟩
 rw [sG h];unfold jq;split<;>exact⟨_,rfl⟩
theorem abj (h:c.op=1\/c.op=2\/c.op=4\/c.op=13):∃a e,(fC S c).2={c with answer:=a,code:=e}:=by
 obtain⟨a,ha⟩:=abh (S:=S) (c:={c with answer:=0,code:=230}) h
 refine⟨a,(iE S {c with answer:=0,code:=230}).1,?_⟩
 show { (iE S {c with answer:=0,code:=230}).2.2 with code:=(iE S {c with answer:=0,code:=230}).1}=_
 rw [ha]
theorem G8 (h:c.op=1\/c.op=2\/c.op=4\/c.op=13):∃a e,(br fs xs af n S c).2={bY af c with answer:=a,code:=e}:=by
 have ho:(bY af c).op=c.op:=by unfold bY;split<;>rfl
 have hf:∀e,iz (bY af c) e={bY af c with answer:=0,code:=e}:=λe=>by unfold iz;rw [nw d5]
 unfold br
 unfold dZ
 split
 ·exact⟨0,_,hf _⟩
 split
 ·exact⟨0,_,hf _⟩
 rw [nw d5]
 exact abj d5
theorem again (h:c.op=1\/c.op=2\/c.op=4\/c.op=13) (hW:br fs xs af n S c=(S2,c2)):br fs xs af n S c2=(S2,c2):=by
 obtain⟨a,e,hs⟩:=G8 (fs:=fs) (xs:=xs) (af:=af) (n:=n) (S:=S) h
 rw [hW] at hs
 have hs:c2={bY af c with answer:=a,code:=e}:=hs
 have ho:(bY af c).op=c.op:=by unfold bY;split<;>rfl
 conv=>lhs;rw [hs]
 rw [Yt d5,G7]
 exact hW
def DQ (fs:List cF) (xs:List cM) (af:Int):Nat->bg->List aN->bg->Prop
 |_,S,[],S'=>S'=S
 |n,S,c::r,S'=>∃S1,br fs xs af (n+1) S c=(S1,c)/\(mV c.op/\c.data=[])/\c.name.size<=1048576/\c.text.size<=1048576/\DQ fs xs af (n+1) S1 r S'
def oA (fs:List cF) (xs:List cM) (af:Int) (tr:List aN) (S:bg) (CU:List aN) (S2:bg):Prop:=∃e,CU=tr++e/\DQ fs xs af tr.length S e S2
theorem DQ.app:∀{e r:List aN} {n:Nat} {S S1 S2:bg},DQ fs xs af n S e S1->DQ fs xs af (n+e.length) S1 r S2->DQ fs xs af n S (e++r) S2
 |[],_,_,_,_,_,h,g=>by cases h;exact g
 |c::e,r,n,S,S1,S2,⟨Sx,h1,h2,h3,h4,h5⟩,g=>⟨Sx,h1,h2,h3,h4,DQ.app h5 (by rw [ahX] at g;rw [show n+1+e.length=n+(e.length+1) by omega];exact g)⟩
theorem oA.refl:oA fs xs af tr S tr S:=⟨[],(List.append_nil _).symm,rfl⟩
theorem oA.trans (h:oA fs xs af tr S G6 S1) (g:oA fs xs af G6 S1 CU S2):oA fs xs af tr S CU S2:=by
 obtain⟨e,rfl,h⟩:=h
 obtain⟨r,rfl,g⟩:=g
 rw [T3] at g
 exact⟨e++r,ah1 _ _ _,h.app g⟩
theorem oA.one (h:c.op=1\/c.op=2\/c.op=4\/c.op=13) (hW:br fs xs af (tr.length+1) S c=(S2,c2)) (Jk:c.data=[]) (hn:c.name.size<=1048576) (ht:c.text.size<=1048576):oA fs xs af tr S (tr++[fU A m c2]) S2:=by
 obtain⟨a,e,hs⟩:=G8 (fs:=fs) (xs:=xs) (af:=af) (n:=tr.length+1) (S:=S) h
 rw [hW] at hs
 have hs:c2={bY af c with answer:=a,code:=e}:=hs
 have hd:c2.data=[]:=by rw [hs];exact vG.trans Jk
 have ho:mV c2.op:=by rw [hs,show ({bY af c with answer:=a,code:=e}:aN).op=c.op from by unfold bY;split<;>rfl];exact h
 have h1:c2.name=c.name:=by rw [hs];unfold bY;split<;>rfl
 have h2:c2.text=c.text:=by rw [hs];unfold bY;split<;>rfl
 exact⟨_,rfl,S2,Wy.trans (by rw [again h hW]),⟨ho,hd⟩,by show c2.name.size<=_;rw [h1];exact hn,by show c2.text.size<=_;rw [h2];exact ht,rfl⟩
end p
end
section
open Go.RowKit Go.Maps bw aI
attribute [local irreducible] aE bH ax aF
theorem J5 {β:Bs} {G:WG} {fs:List cF} {xs:List cM} {af:Int} {S S2:bg} {V:WV} {tr:List aN} (hrw:(Lit.int .i64 af).wf=true) (hI:bC S) (hn:tr.length<=8388607) (hZ:kW β G.Z xs) (hX:gy xs 1048576) (hg:iX β) (c:aN) (Jk:c.data=[]) (hD:ck β c.dA c.data) (hl:c.data.length<=1048576) (hw:(Lit.int .i64 c.bD).wf=true) (how:(Lit.int .i64 c.other).wf=true) (hnm:c.name.size<=1048576) (tS:c.text.size<=1048576) (cA:mV c.op) {c2:aN} (hW:br fs xs af (tr.length+1) S c=(S2,c2)) :
 bN Tryz.prog β 31 #[.agg #[.iface 37 (vP G.w)],.agg ⟨bA c⟩] [wA G fs xs af S V tr] (λ_ v l=>∃(V':WV) (jA:List aN),v=.tuple #[vI c2.answer,vI c2.code]/\l=[wA G fs xs af S2 V' jA]/\jA.length=tr.length+1/\oA fs xs af tr S jA S2):=by
 refine mK Tryz.func31 Tryz.ntmps31 (λaH R=>SR (jB 1 [2] (λb1=>.aD b1 [.iface 37 (vP G.w)] 55) (λb1=>jB 3 [3] (λb2=>.aD b2 (bA c) 63) (λb2=>NS (jK 3 [7,8] [(1,a_ 2 b1),(2,A_ 3 b2 13)] (iK [0] (Yo (β:=β) (G:=G) (fs:=fs) (xs:=xs) (S:=S) (V:=V) (tr:=tr) (c:=c) (c2:=c2) (S2:=S2) hrw hI hn hZ hX hg hD hl hw how hnm tS cA hW) ?_))))))
 rintro vT _ _ fW ⟨V',B1,p1,B2,p2,rfl,rfl,_,_,_⟩
 replace aH:=aH.trans fW
 exact jC 1 [] [(0,A_ 3 b2 13)] [(3,(zC (bA (iJ c2 B2 p2))))] (NN (ax.seq (rQ (jQ 6 [4,5] [(1,a_ 3 b2),(3,a_ 3 b2)] (NQ (NX (ax.ret (rB (l:=[wA G fs xs af S2 V' (tr++[fU B1 p1 c2])]) (.tuple #[vI (c2.answer),vI (c2.code)]) [] [0,1] aH (⟨V',_,rfl,rfl,by rw [T3];rfl,oA.one cA hW Jk hnm tS⟩)))))))))
theorem Qs {β:Bs} {G:WG} {fs:List cF} {xs:List cM} {af:Int} {S S2:bg} {V:WV} {tr:List aN} (hrw:(Lit.int .i64 af).wf=true) (hI:bC S) (hn:tr.length<=8388607) (hZ:kW β G.Z xs) (hX:gy xs 1048576) (hg:iX β) (c:aN) (Jk:c.data=[]) (hD:ck β c.dA c.data) (hl:c.data.length<=1048576) (hw:(Lit.int .i64 c.bD).wf=true) (how:(Lit.int .i64 c.other).wf=true) (hnm:c.name.size<=1048576) (tS:c.text.size<=1048576) (cA:mV c.op) {c2:aN} (hW:br fs xs af (tr.length+1) S c=(S2,c2)) :
 bN Tryz.prog β 62 #[.agg #[.iface 37 (vP G.w)],.agg ⟨bA c⟩] [wA G fs xs af S V tr] (λ_ v l=>∃(V':WV) (jA:List aN),v=vI c2.code/\l=[wA G fs xs af S2 V' jA]/\jA.length=tr.length+1/\oA fs xs af tr S jA S2):=by
 refine mK Tryz.func62 Tryz.ntmps62 (λaH R=>SR (jB 1 [2] (λb4=>.aD b4 [.iface 37 (vP G.w)] 55) (λb4=>jB 2 [3] (λb5=>.aD b5 (bA c) 63) (λb5=>NS (jK 3 [6,7] [(1,a_ 2 b4),(2,A_ 3 b5 13)] (iK [0] (Yo (β:=β) (G:=G) (fs:=fs) (xs:=xs) (S:=S) (V:=V) (tr:=tr) (c:=c) (c2:=c2) (S2:=S2) hrw hI hn hZ hX hg hD hl hw how hnm tS cA hW) ?_))))))
 rintro CN _ _ iw ⟨V',B1,p1,B2,p2,rfl,rfl,_,_,_⟩
 replace aH:=aH.trans iw
 exact jK 2 [4] [] (eO (l:=[wA G fs xs af S2 V' (tr++[fU B1 p1 c2])]) (v:=(vI (c2.code))) [] aH ⟨V',_,rfl,rfl,by rw [T3];rfl,oA.one cA hW Jk hnm tS⟩)
theorem Qt {β:Bs} {G:WG} {fs:List cF} {xs:List cM} {af:Int} {S S2:bg} {V:WV} {tr:List aN} (hrw:(Lit.int .i64 af).wf=true) (hI:bC S) (hn:tr.length<=8388607) (hZ:kW β G.Z xs) (hX:gy xs 1048576) (hg:iX β) (id:Int) (how:(Lit.int .i64 id).wf=true) {c2:aN} (hW:br fs xs af (tr.length+1) S (⟨1,0,id,⟨#[]⟩,⟨#[]⟩,none,0,[],0,0,0,0,0,0,0⟩:aN)=(S2,c2)) :
 bN Tryz.prog β 8 #[.agg #[.iface 37 (vP G.w)],vI (id)] [wA G fs xs af S V tr] (λ_ v l=>∃(V':WV) (jA:List aN),v=.tuple #[vI c2.answer,vI c2.code]/\l=[wA G fs xs af S2 V' jA]/\jA.length=tr.length+1/\oA fs xs af tr S jA S2):=by
 refine mK Tryz.func8 Tryz.ntmps8 (λaH R=>SR (jB 3 [2] (λb7=>.aD b7 [.iface 37 (vP G.w)] 55) (λb7=>NS (jK 3 [6,8] [(0,a_ 2 b7)] (iK [0] (J5 (β:=β) (G:=G) (fs:=fs) (xs:=xs) (S:=S) (V:=V) (tr:=tr) (S2:=S2) (c2:=c2) hrw hI hn hZ hX hg (⟨1,0,id,⟨#[]⟩,⟨#[]⟩,none,0,[],0,0,0,0,0,0,0⟩:aN) rfl (λj v h=>by cases h) (L4 _) (by show (Lit.int .i64 0).wf=true;decide) how (L4 _) (L4 _) (by show mV 1;first|exact rfl|(unfold mV;decide)) hW) ?_)))))
 rintro D5 _ _ jD ⟨V',jA,rfl,rfl,ht,hy⟩
 replace aH:=aH.trans jD
 exact jK 4 [4,5] [] (eO (v:=(.tuple #[vI (c2.answer),vI (c2.code)])) [] aH ⟨V',jA,rfl,rfl,ht,hy⟩)
theorem Cl {β:Bs} {G:WG} {fs:List cF} {xs:List cM} {af:Int} {S S2:bg} {V:WV} {tr:List aN} (hrw:(Lit.int .i64 af).wf=true) (hI:bC S) (hn:tr.length<=8388607) (hZ:kW β G.Z xs) (hX:gy xs 1048576) (hg:iX β) (h:Int) (hw:(Lit.int .i64 h).wf=true) (name:ByteArray) (hnm:name.size<=1048576) {c2:aN} (hW:br fs xs af (tr.length+1) S (⟨2,h,0,name,⟨#[]⟩,none,0,[],0,0,0,0,0,0,0⟩:aN)=(S2,c2)) :
 bN Tryz.prog β 63 #[.agg #[.iface 37 (vP G.w)],vI (h),.string name] [wA G fs xs af S V tr] (λ_ v l=>∃(V':WV) (jA:List aN),v=.tuple #[vI c2.answer,vI c2.code]/\l=[wA G fs xs af S2 V' jA]/\jA.length=tr.length+1/\oA fs xs af tr S jA S2):=by
 refine mK Tryz.func63 Tryz.ntmps63 (λaH R=>SR (jB 3 [3] (λb9=>.aD b9 [.iface 37 (vP G.w)] 55) (λb9=>NS (jK 4 [8,11] [(0,a_ 2 b9)] (iK [0] (J5 (β:=β) (G:=G) (fs:=fs) (xs:=xs) (S:=S) (V:=V) (tr:=tr) (S2:=S2) (c2:=c2) hrw hI hn hZ hX hg (⟨2,h,0,name,⟨#[]⟩,none,0,[],0,0,0,0,0,0,0⟩:aN) rfl (λj v h=>by cases h) (L4 _) hw (by show (Lit.int .i64 0).wf=true;decide) hnm (L4 _) (by show mV 2;first|exact rfl|(unfold mV;decide)) hW) ?_)))))
 rintro Vf _ _ mz ⟨V',jA,rfl,rfl,ht,hy⟩
 replace aH:=aH.trans mz
 exact jK 4 [6,7] [] (eO (v:=(.tuple #[vI (c2.answer),vI (c2.code)])) [] aH ⟨V',jA,rfl,rfl,ht,hy⟩)
theorem Yu {β:Bs} {G:WG} {fs:List cF} {xs:List cM} {af:Int} {S S2:bg} {V:WV} {tr:List aN} (hrw:(Lit.int .i64 af).wf=true) (hI:bC S) (hn:tr.length<=8388607) (hZ:kW β G.Z xs) (hX:gy xs 1048576) (hg:iX β) (h:Int) (hw:(Lit.int .i64 h).wf=true) (name:ByteArray) (hnm:name.size<=1048576) (mode:Int) {c2:aN} (hW:br fs xs af (tr.length+1) S (⟨4,h,0,name,⟨#[]⟩,none,0,[],mode,0,0,0,0,0,0⟩:aN)=(S2,c2)) :
 bN Tryz.prog β 65 #[.agg #[.iface 37 (vP G.w)],vI (h),.string name,vI (mode)] [wA G fs xs af S V tr] (λ_ v l=>∃(V':WV) (jA:List aN),v=vI c2.code/\l=[wA G fs xs af S2 V' jA]/\jA.length=tr.length+1/\oA fs xs af tr S jA S2):=by
 refine mK Tryz.func65 Tryz.ntmps65 (λaH R=>SR (jB 2 [4] (λb11=>.aD b11 [.iface 37 (vP G.w)] 55) (λb11=>NS (jK 5 [9,13] [(0,a_ 2 b11)] (iK [0] (Qs (β:=β) (G:=G) (fs:=fs) (xs:=xs) (S:=S) (V:=V) (tr:=tr) (S2:=S2) (c2:=c2) hrw hI hn hZ hX hg (⟨4,h,0,name,⟨#[]⟩,none,0,[],mode,0,0,0,0,0,0⟩:aN) rfl (λj v h=>by cases h) (L4 _) hw (by show (Lit.int .i64 0).wf=true;decide) hnm (L4 _) (by show mV 4;first|exact rfl|(unfold mV;decide)) hW) ?_)))))
 rintro Il _ _ kS ⟨V',jA,rfl,rfl,ht,hy⟩
 replace aH:=aH.trans kS
 exact jK 1 [8] [] (eO (v:=(vI (c2.code))) [] aH ⟨V',jA,rfl,rfl,ht,hy⟩)
theorem MN {β:Bs} {G:WG} {fs:List cF} {xs:List cM} {af:Int} {S S2:bg} {V:WV} {tr:List aN} (hrw:(Lit.int .i64 af).wf=true) (hI:bC S) (hn:tr.length<=8388607) (hZ:kW β G.Z xs) (hX:gy xs 1048576) (hg:iX β) (h:Int) (hw:(Lit.int .i64 h).wf=true) {c2:aN} (hW:br fs xs af (tr.length+1) S (⟨13,h,0,⟨#[]⟩,⟨#[]⟩,none,0,[],0,0,0,0,0,0,0⟩:aN)=(S2,c2)) :
 bN Tryz.prog β 38 #[.agg #[.iface 37 (vP G.w)],vI (h)] [wA G fs xs af S V tr] (λ_ v l=>∃(V':WV) (jA:List aN),v=vI c2.code/\l=[wA G fs xs af S2 V' jA]/\jA.length=tr.length+1/\oA fs xs af tr S jA S2):=by
 refine mK Tryz.func38 Tryz.ntmps38 (λaH R=>SR (jB 2 [2] (λb13=>.aD b13 [.iface 37 (vP G.w)] 55) (λb13=>NS (jK 3 [5,7] [(0,a_ 2 b13)] (iK [0] (Qs (β:=β) (G:=G) (fs:=fs) (xs:=xs) (S:=S) (V:=V) (tr:=tr) (S2:=S2) (c2:=c2) hrw hI hn hZ hX hg (⟨13,h,0,⟨#[]⟩,⟨#[]⟩,none,0,[],0,0,0,0,0,0,0⟩:aN) rfl (λj v h=>by cases h) (L4 _) hw (by show (Lit.int .i64 0).wf=true;decide) (L4 _) (L4 _) (by show mV 13;first|exact rfl|(unfold mV;decide)) hW) ?_)))))
 rintro E6 _ _ j3 ⟨V',jA,rfl,rfl,ht,hy⟩
 replace aH:=aH.trans j3
 exact jK 1 [4] [] (eO (v:=(vI (c2.code))) [] aH ⟨V',jA,rfl,rfl,ht,hy⟩)
end
section
open Go.RowKit Go.Maps
attribute [local irreducible] aE bH ax aF
section rules
variable {P:Program} {β:Bs} {N:fN} {ops:Array Oper} {k:Nat} {fr:Fr} {aB:List HP} {Q:Post} {d:Option Tmp} {v:Value} {t xT asserted:TypeId} {x:Operand} {want:Array (String×TypeId)}
theorem aE.lacks (cA:∀av,iQ N av ops fr k=some (.typeAssert x xT asserted true,d)) (hx:∀av,fe N fr av x=.iface t v) (hu:P.underlying asserted=some (.interface want)) (h:(P.info? t).map (λi=>(lacking want i.methods).isEmpty)=some false) (hz:(P.info? asserted).map (·.zero)=some (some .nilIface))
 (K:aE P β N ops (k+1) (eU fr d (.tuple #[.nilIface,.bool false])) aB Q):aE P β N ops k fr aB Q:=
 aE.nQ cA (λo av w ho hS=>⟨w,.inl (by
  obtain⟨dst,op,type,pos,after,guard⟩:=o
  cases ho
  simp only [execOp,hx]
  simp [run_typeAssert_lacksB hu h hz,Result.andThen]),hS⟩) K
end rules
def oC (β:Bs):Prop:=Rd β ⟨0,0,none⟩ (.iface 219 (.agg #[.pointer (some ⟨4,74,none⟩)]))
theorem oC.le {β β':Bs} (h:oC β) (dV:β.le β'):oC β':=Rd.le h dV
theorem Vj {β:Bs} (a:Nat) (e t:Nat) (x:Value) :
 aW Tryz.prog β 69 #[.iface 112 (vP e),.iface 119 (vP t),.agg #[.pointer (some ⟨4,119,none⟩),vP a,.int .u64 150],.iface 219 (.agg #[.pointer (some ⟨4,112,none⟩)])] [.aD a [vP t] 119,.aD t [x] 112] (λv l=>v=.bool true/\l=[.aD t [vP e] 112]):=by
 refine SE Tryz.func69 Tryz.ntmps69 (λR=>SR (jB 2 [6] (λb1=>.aD b1 [.pointer (some ⟨4,119,none⟩),vP a,.int .u64 150] 161) (λb1=>NN (ax.block (lJ (ι:=Unit) (λ(u:Unit)=>True) (λ(u:Unit)=>0) (λ(u:Unit)=>[(0,.iface 112 (vP e)),(1,.iface 119 (vP t)),(3,.iface 219 (.agg #[.pointer (some ⟨4,112,none⟩)])),(6,vP b1)]) (λ(u:Unit)=>[.aD a [vP t] 119,.aD t [x] 112,.abs R,.aD b1 [.pointer (some ⟨4,119,none⟩),vP a,.int .u64 150] 161]) () [0,1,2,3] (trivial) ?_)))))
 rintro u _
 exact ax.block (SQ (jK 4 [19] [] (NT (SR (jN 5 [] (λb2=>[(0,A_ 3 b1 3),(1,a_ 0 a),(4,p_ ⟨[.at 4,.at 1],none,none,none,none⟩ [t=t,b2=b2] ⟨rfl,rfl,trivial⟩)]) (λb2=>[(1,[(0,vP e)])]) (λb2=>.aD b2 [vP e] 112) (λb2=>NS (jK 1 [8] [] (eN (v:=(.bool true)) ⟨rfl,rfl⟩ [1,2]))))))))
theorem Yv {β:Bs} (hE:oC β) (e t:Nat) (x:Value) :
 aW Tryz.prog β 42 #[.iface 112 (vP e),.iface 119 (vP t)] [.aD t [x] 112] (λv l=>v=.bool true/\l=[.aD t [vP e] 112]):=by
 exact SE Tryz.func42 Tryz.ntmps42 (λR=>SR (jK 1 [] [] (NZ (jK 2 [9] [] (NF (KX (SQ (jK 2 [11] [] (NF (KX (SR (jB 2 [14] (λb3=>.aD b3 [vP t] 119) (λb3=>jN 2 [5] (λb4=>[(1,A_ 3 b4 3)]) (λ_=>[]) (λb4=>.aD b4 [.pointer (some ⟨4,119,none⟩),vP b3,.int .u64 150] 161) (λb4=>NS (jK 3 [6] [(0,A_ 3 b4 3)] (NZ (jK 7 [23] [(4,A_ 3 b4 3),(5,a_ 2 b3)] (NF (KX (SR (jK 3 [7] [] (NZ (jK 9 [35] [(5,r_ hE)] (NF (KX (SR (jK 4 [37,38,39,40] [(2,A_ 3 b4 3)] (gE [2,0] (Vj b3 e t x) (jK 1 [4] [] (eN (v:=(.bool true)) ⟨rfl,rfl⟩))))))))))))))))))))))))))))))
theorem Rp {β:Bs} (a:Nat) (n:Int) (t:Nat) (x:Value) :
 aW Tryz.prog β 69 #[.iface 38 (.int .i64 (n)),.iface 120 (vP t),.agg #[.pointer (some ⟨4,120,none⟩),vP a,.int .u64 150],.iface 219 (.agg #[.pointer (some ⟨4,38,none⟩)])] [.aD a [vP t] 120,.aD t [x] 38] (λv l=>v=.bool true/\l=[.aD t [vI (n)] 38]):=by
 refine SE Tryz.func69 Tryz.ntmps69 (λR=>SR (jB 2 [6] (λb5=>.aD b5 [.pointer (some ⟨4,120,none⟩),vP a,.int .u64 150] 161) (λb5=>NN (ax.block (lJ (ι:=Unit) (λ(u:Unit)=>True) (λ(u:Unit)=>0) (λ(u:Unit)=>[(0,.iface 38 (.int .i64 (n))),(1,.iface 120 (vP t)),(3,.iface 219 (.agg #[.pointer (some ⟨4,38,none⟩)])),(6,vP b5)]) (λ(u:Unit)=>[.aD a [vP t] 120,.aD t [x] 38,.abs R,.aD b5 [.pointer (some ⟨4,120,none⟩),vP a,.int .u64 150] 161]) () [0,1,2,3] (trivial) ?_)))))
 rintro u _
 exact ax.block (SQ (jK 4 [19] [] (NT (SR (jN 5 [] (λb6=>[(0,A_ 3 b5 3),(1,a_ 0 a),(4,p_ ⟨[.at 4,.at 1],none,none,none,none⟩ [t=t,b6=b6] ⟨rfl,rfl,trivial⟩)]) (λb6=>[(1,[(0,vI (n))])]) (λb6=>.aD b6 [vI (n)] 38) (λb6=>NS (jK 1 [8] [] (eN (v:=(.bool true)) ⟨rfl,rfl⟩ [1,2]))))))))
theorem Vk {β:Bs} (hE:oC β) (n:Int) (t:Nat) (x:Value) :
 aW Tryz.prog β 42 #[.iface 38 (.int .i64 (n)),.iface 120 (vP t)] [.aD t [x] 38] (λv l=>v=.bool true/\l=[.aD t [vI (n)] 38]):=by
 exact SE Tryz.func42 Tryz.ntmps42 (λR=>SR (jK 1 [] [] (NZ (jK 2 [9] [] (NF (KX (SQ (jK 2 [11] [] (NF (KX (SR (jB 2 [14] (λb7=>.aD b7 [vP t] 120) (λb7=>jN 2 [5] (λb8=>[(1,A_ 3 b8 3)]) (λ_=>[]) (λb8=>.aD b8 [.pointer (some ⟨4,120,none⟩),vP b7,.int .u64 150] 161) (λb8=>NS (jK 3 [6] [(0,A_ 3 b8 3)] (NZ (jK 7 [23] [(4,A_ 3 b8 3),(5,a_ 2 b7)] (NF (KX (SR (jK 3 [7] [] (NZ (jK 9 [35] [(5,r_ hE)] (NF (KX (SR (jK 4 [37,38,39,40] [(2,A_ 3 b8 3)] (gE [2,0] (Rp b7 n t x) (jK 1 [4] [] (eN (v:=(.bool true)) ⟨rfl,rfl⟩))))))))))))))))))))))))))))))
theorem Vl {β:Bs} (a:Nat) (n:Int) (t:Nat) (x:Value) :
 aW Tryz.prog β 69 #[.iface 38 (.int .i64 (n)),.iface 119 (vP t),.agg #[.pointer (some ⟨4,119,none⟩),vP a,.int .u64 150],.iface 219 (.agg #[.pointer (some ⟨4,112,none⟩)])] [.aD a [vP t] 119,.aD t [x] 112] (λv l=>v=.bool false/\l=[.aD t [x] 112]):=by
 refine SE Tryz.func69 Tryz.ntmps69 (λR=>SR (jB 2 [6] (λb9=>.aD b9 [.pointer (some ⟨4,119,none⟩),vP a,.int .u64 150] 161) (λb9=>NN (ax.block (lJ (ι:=Unit) (λ(u:Unit)=>True) (λ(u:Unit)=>0) (λ(u:Unit)=>[(0,.iface 38 (.int .i64 (n))),(1,.iface 119 (vP t)),(3,.iface 219 (.agg #[.pointer (some ⟨4,112,none⟩)])),(6,vP b9)]) (λ(u:Unit)=>[.aD a [vP t] 119,.aD t [x] 112,.abs R,.aD b9 [.pointer (some ⟨4,119,none⟩),vP a,.int .u64 150] 161]) () [0,1,2,3] (trivial) ?_)))))
 rintro u _
 exact ax.block (SQ (jK 4 [19] [] (NF (KX (SQ (jK 1 [26] [] (aE.lacks (x:=(.tmp 26)) (t:=38) (v:=vI (n)) (xT:=74) (d:=(some 27)) (λ_=>d6) (λ_=>d6) Tryz.underlying223 d6 d6 (jK 5 [9,10] [] (NS (jK 6 [35] [] (NF (KX (SR (jK 1 [36] [] (NN (ax.block (SR (aE.lacks (x:=(.tmp 36)) (t:=38) (v:=vI (n)) (xT:=74) (d:=(some 37)) (λ_=>d6) (λ_=>d6) Tryz.underlying226 d6 d6 (jK 2 [38,39] [] (NF (SR (aE.lacks (x:=(.tmp 36)) (t:=38) (v:=vI (n)) (xT:=74) (d:=(some 44)) (λ_=>d6) (λ_=>d6) Tryz.underlying228 d6 d6 (jK 2 [45,46] [] (NF (SR (jK 1 [] [] (NS (jK 1 [8] [] (eN (v:=(.bool false)) ⟨rfl,rfl⟩ [1,2])))))))))))))))))))))))))))))
theorem Yw {β:Bs} (hE:oC β) (n:Int) (t:Nat) (x:Value) :
 aW Tryz.prog β 42 #[.iface 38 (.int .i64 (n)),.iface 119 (vP t)] [.aD t [x] 112] (λv l=>v=.bool false/\l=[.aD t [x] 112]):=by
 exact SE Tryz.func42 Tryz.ntmps42 (λR=>SR (jK 1 [] [] (NZ (jK 2 [9] [] (NF (KX (SQ (jK 2 [11] [] (NF (KX (SR (jB 2 [14] (λb10=>.aD b10 [vP t] 119) (λb10=>jN 2 [5] (λb11=>[(1,A_ 3 b11 3)]) (λ_=>[]) (λb11=>.aD b11 [.pointer (some ⟨4,119,none⟩),vP b10,.int .u64 150] 161) (λb11=>NS (jK 3 [6] [(0,A_ 3 b11 3)] (NZ (jK 7 [23] [(4,A_ 3 b11 3),(5,a_ 2 b10)] (NF (KX (SR (jK 3 [7] [] (NZ (jK 9 [35] [(5,r_ hE)] (NF (KX (SR (jK 4 [37,38,39,40] [(2,A_ 3 b11 3)] (gE [2,0] (Vl b10 n t x) (jK 1 [4] [] (eN (v:=(.bool false)) ⟨rfl,rfl⟩))))))))))))))))))))))))))))))
theorem Qu {β:Bs}  :
 aW Tryz.prog β 14 #[.nilIface] [] (λv l=>v=.tuple #[vI 0,vI 0]/\l=[]):=by
 exact SE Tryz.func14 Tryz.ntmps14 (λR=>SR (jK 2 [] [] (NZ (jK 2 [7] [] (NT (zR (v:=(.tuple #[vI 0,vI 0])) ⟨rfl,rfl⟩))))))
theorem Lg {β:Bs} (hE:oC β) (n:Int) :
 aW Tryz.prog β 14 #[.iface 38 (.int .i64 (n))] [] (λv l=>v=.tuple #[vI n,vI 0]/\l=[]):=by
 exact SE Tryz.func14 Tryz.ntmps14 (λR=>SR (jK 2 [] [] (NZ (jK 2 [7] [] (NF (KX (SR (jB 1 [4] (λb12=>.aD b12 [.pointer none] 112) (λb12=>NZ (jK 2 [8,9] [] (gE [1] (Yw hE n b12 (.pointer none)) (NF (KX (SR (jB 1 [5] (λb13=>.aD b13 [vI 0] 38) (λb13=>NZ (jK 2 [19,20] [] (gE [2] (Vk hE n b13 (.int .i64 0)) (NT (SR (jK 3 [2,3] [(0,a_ 0 b13)] (eN (v:=(.tuple #[vI (n),vI 0])) ⟨rfl,rfl⟩ [2]))))))))))))))))))))))
theorem D8 {β:Bs} (hE:oC β) (e:Nat) (at_:Int) (nm:ByteArray) (n:Int) :
 aW Tryz.prog β 14 #[.iface 112 (vP e)] [.aD e [vI (at_),.string nm,vI (n)] 114] (λv l=>v=.tuple #[vI n,vI at_]/\l=[.aD e [vI (at_),.string nm,vI (n)] 114]):=by
 exact SE Tryz.func14 Tryz.ntmps14 (λR=>SR (jK 2 [] [] (NZ (jK 2 [7] [] (NF (KX (SR (jB 1 [4] (λb14=>.aD b14 [.pointer none] 112) (λb14=>NZ (jK 2 [8,9] [] (gE [2] (Yv hE e b14 (.pointer none)) (NT (ax.seq (rQ (jQ 10 [2,3] [(0,a_ 0 b14),(3,a_ 1 e),(4,a_ 0 b14),(7,a_ 1 e)] (NQ (NX (ax.ret (aF.bq (RT (.tuple #[vI (n),vI (at_)]) [1,2] (⟨rfl,rfl⟩)))))))))))))))))))))
theorem ae8 {β:Bs} (n k:Int) :
 aW Tryz.prog β 100 #[.iface 38 (.int .i64 (n)),.iface 38 (.int .i64 (k)),.bool true] [] (λv l=>v=.bool (decide (n=k))/\l=[]):=by
 refine SE Tryz.func100 Tryz.ntmps100 (λR=>SR (jK 1 [] [] (NN (ax.block (lJ (ι:=Unit) (λ(u:Unit)=>True) (λ(u:Unit)=>0) (λ(u:Unit)=>[(0,.iface 38 (.int .i64 (n))),(1,.iface 38 (.int .i64 (k))),(2,.bool true)]) (λ(u:Unit)=>[.abs R]) () [0] (trivial) ?_)))))
 rintro u _
 exact ax.block (SQ (jK 6 [19] [] (NN (cP ((n:Int)=(k:Int)) (λGt=>zR (v:=(.bool true)) ⟨zc Value.bool (by simp_all),rfl⟩) (λGt=>KX (SQ (jK 1 [21] [] (aE.lacks (x:=(.tmp 21)) (t:=38) (v:=vI (n)) (xT:=74) (d:=(some 22)) (λ_=>d6) (λ_=>d6) Tryz.underlying247 d6 d6 (jK 5 [7,8] [] (NS (jK 6 [30] [] (NF (KX (SR (jK 1 [31] [] (NN (ax.block (SR (aE.lacks (x:=(.tmp 31)) (t:=38) (v:=vI (n)) (xT:=74) (d:=(some 32)) (λ_=>d6) (λ_=>d6) Tryz.underlying226 d6 d6 (jK 2 [33,34] [] (NF (SR (aE.lacks (x:=(.tmp 31)) (t:=38) (v:=vI (n)) (xT:=74) (d:=(some 39)) (λ_=>d6) (λ_=>d6) Tryz.underlying228 d6 d6 (jK 2 [40,41] [] (NF (SR (jK 1 [] [] (NS (jK 1 [6] [] (eN (v:=(.bool false)) ⟨zc Value.bool (by simp_all),rfl⟩))))))))))))))))))))))))))))))
theorem af6 {β:Bs} (n k:Int) :
 aW Tryz.prog β 64 #[.iface 38 (.int .i64 (n)),.iface 38 (.int .i64 (k))] [] (λv l=>v=.bool (decide (n=k))/\l=[]):=by
 exact SE Tryz.func64 Tryz.ntmps64 (λR=>SR (jK 1 [] [] (NZ (jK 6 [11] [] (NF (KX (SR (jK 4 [5] [] (NS (jK 3 [18,19,20] [] (gE [] (ae8 n k) (jK 1 [4] [] (eN (v:=(.bool (decide (n=k)))) ⟨rfl,rfl⟩)))))))))))))
end
section
open Go.RowKit
def Lh (P:Program) (β:Bs) (N:fN) (av:Nat->Value) (ops:Array Oper) (fr:Fr) (k:Nat):Option (Deferred×Option Tmp):=
 match ops.toList[k]? with
 |some o=>
   match Region.wanted o (yF ops N fr av) with
   |true=>
     match eZ P β 0 true (execOp (fe N fr av) o) ⟨[],[],[],true⟩ with
     |some (.defer d,_)=>some (d,o.dst)
     |_=>none
   |false=>none
 |none=>none
def vU (P:Program) (β:Bs) (f:FuncId) (args:Array Value) (pre:List HP) (post:Bs->Value->List HP->Prop):Prop:=
 ∀(R:eG) (w:World),aQ β (pre++[.abs R]) w->CallsD P f args .returning w λe u w'=>u=.returning/\tT β R post e w'
section df
variable {P:Program} {β:Bs} {N:fN} {ops:Array Oper} {k n0:Nat} {fr:Fr} {aB R pre rest:List HP} {Q:Post} {f:FuncId} {args:Array Value} {d:Deferred} {x:Option Tmp} {fn:Func} {c:Code} {post:Bs->Value->List HP->Prop} {w:World}
theorem Qv {av:Nat->Value} (h:Lh P β N av ops fr k=some (d,x)):∃o,ops.toList[k]?=some o/\Region.wanted o (yF ops N fr av)=true/\o.dst=x ∧
 ∀w,aQ β [] w->(execOp (fe N fr av) o).run P w=.ok (.defer d) w:=by
 unfold Lh at h
 repeat' split at h
 all_goals first|(cases h;done)|skip
 rename_i o h1 _ h2 _ d' S' h3
 cases h
 refine⟨o,h1,h2,rfl,λw hS=>?_⟩
 have hob:=Lm _ _ _ _ h3 rfl
 obtain⟨w',h4,_,_,h5⟩:=vf _ _ _ _ w h3 (λp hp=>by rw [hob] at hp;cases hp) hS (λe=>by cases e)
 rw [h4,(h5 rfl).1]
theorem aE.defer (d:Deferred) (hc:∀av,Lh P β N av ops fr k=some (d,x)) (K:aE P β ⟨N.n,d::N.ds⟩ ops (k+1) (eU fr x undef) aB Q):aE P β N ops k fr aB Q:=by
 intro av w hS
 obtain⟨o,h1,h2,rfl,h3⟩:=Qv (hc av)
 rw [drop_cons h1]
 unfold wpList
 rw [iC,t8 h2]
 refine .inl ?_
 unfold Oper.wp
 rw [jd,h3 w hS.nil,Oper.upon_defer]
 have e:({fw N fr av with defers:=d::(fw N fr av).defers}:Act)=fw ⟨N.n,d::N.ds⟩ fr av:=rfl
 rw [e,ij]
 exact K av w hS
theorem vU.enter (hf:P.funcs[f]?=some fn) (hb:fn.body=some c) (hN:fn.ntmps=n0) (hl:args.toList.length<=n0) (h:β.le β->∀R:eG,ax P β ⟨n0,[]⟩ c (zj 0 args.toList) (pre++[.abs R]) (bodyPost P fn (tT β R post))):vU P β f args pre post:=by
 intro R w hS
 refine (callsD_of_wp (R:=tT β R post) hf hb ?_)
 rw [hN,AQ hl]
 exact h hS.1.Fz R _ w hS
theorem bN.ae9 (hf:P.funcs[f]?=some fn) (hb:fn.body=some c) (hN:fn.ntmps=n0) (hl:args.toList.length<=n0) (h:β.le β->∀R:eG,ax P β ⟨n0,[]⟩ c (zj 0 args.toList) (pre++[.abs R]) (bodyPostD P fn (tT β R post))):bN P β f args pre post:=by
 intro R w hS
 refine calls_of_wp_defers hf hb ?_
 rw [hN,AQ hl]
 exact h hS.1.Fz R _ w hS
theorem vU.use (h:vU P β f args pre post) (hS:aQ β (pre++rest) w):CallsD P f args .returning w λe u w'=>u=.returning/\∃β' v l,β.le β'/\e=.returned v/\post β' v l/\aQ β' (l++rest) w':=
 (h _ w hS.gq).mono λ_ _ _ ⟨h0,β',v,l,h1,h2,h3,h4⟩=>⟨h0,β',v,l,h1,h2,h3,h4.rP⟩
theorem Vm {R:Ending->World->Prop} {av:Nat->Value} (h:bodyPost P fn R .ret (fw ⟨n0,[]⟩ fr av) w):Leaves P fn (fw ⟨n0,[]⟩ fr av).tmps R [] .returning w:=h.2
theorem aF.door {MO:Bs} {fv:Fn} {cap dargs:Array Value} {A:eG} {pst:Bs->Value->List HP->Prop} (pk:List Nat) (hi:∀w,(invoke (.fn fv cap) dargs).run P w=.ok (.enter f args) w) (hs:vU P β f args pre post) (hn:bS pk=true) (hp:cR aB pk=some (pre++rest))
 (K:∀β' v l,β.le β'->post β' v l->aF β' ⟨n0,[]⟩ (bodyPost P fn (tT MO A pst)) .ret fr (l++rest)):aF β ⟨n0,[⟨.fn fv cap,dargs⟩]⟩ (bodyPostD P fn (tT MO A pst)) .ret fr aB:=by
 intro av w hS
 refine leaves_cons (by intro e;cases e) (hi w) ?_
 refine (hs.use (hS.pick hn hp)).mono ?_
 rintro e u w' ⟨rfl,β',v,l,dV,rfl,kA,iA⟩
 exact Vm (K β' v l dV kA av w' iA)
end df
end
section
open Go.RowKit Go.Maps bw aI
attribute [local irreducible] aE bH ax aF
theorem adr {β:Bs} {G:WG} {fs:List cF} {xs:List cM} {af:Int} {S:bg} {V:WV} {tr:List aN} (hrw:(Lit.int .i64 af).wf=true) (hI:bC S) (hn:tr.length<=8388604) (hZ:kW β G.Z xs) (hX:gy xs 1048576) (hg:iX β) (cur:Int) (hw:(Lit.int .i64 cur).wf=true) (part:ByteArray) (hnm:part.size<=1048576) (mode:Int) {r:JC} (hr:dI fs xs af S tr.length cur part mode=r) :
 bN Tryz.prog β 39 #[.agg #[.iface 37 (vP G.w)],vI (cur),.string part,vI (mode)] [wA G fs xs af S V tr] (λ_ v l=>∃(V':WV) (jA:List aN),jA.length=r.n/\oA fs xs af tr S jA r.S/\((r.code=0/\v=.tuple #[vI r.next,.bool r.made,.nilIface])\/(r.code≠0/\v=.tuple #[vI 0,.bool r.made,.iface 38 (.int .i64 r.code)]))/\l=[wA G fs xs af r.S V' jA]):=by
 refine mK Tryz.func39 Tryz.ntmps39 (λaH R=>SR (jB 4 [4] (λb1=>.aD b1 [.iface 37 (vP G.w)] 55) (λb1=>NS (jK 3 [13,14,15] [(0,a_ 2 b1)] ?_))))
 obtain⟨S1,c1,e1⟩:∃Sx cx,br fs xs af (tr.length+1) S (jL cur part)=(Sx,cx):=⟨_,_,rfl⟩
 refine iK [0] (Cl (β:=β) (G:=G) (V:=V) (tr:=tr) (S2:=S1) (c2:=c1) hrw hI d5 hZ hX hg cur hw part hnm e1) ?_
 rintro oL _ _ fo ⟨V1,G6,rfl,rfl,ht1,hy1⟩
 replace hZ:=hZ.le fo
 replace hg:=hg.le fo
 replace aH:=aH.trans fo
 have dw:bC S1:=by have h:=bC.br (fs:=fs) (xs:=xs) (af:=af) (n:=tr.length+1) (c:=jL cur part) hI;rw [e1] at h;exact h
 refine jK 5 [8,11] [] (NZ (jK 2 [20] [] (NN (cP ((c1.code:Int)=(0:Int)) (λlX=>?_) (λlX=>?_)))))
 ·refine SR (jK 4 [8,9,10] [] (NN (ax.ret (aF.bq ?_))))
  rw [DB e1 lX] at hr
  subst hr
  exact rB (.tuple #[vI (c1.answer),.bool false,.nilIface]) [] [0,1] aH (⟨V1,G6,ht1,hy1,.inl ⟨rfl,rfl⟩,rfl⟩)
 refine KX (SR (jK 3 [10] [] (NZ (jK 2 [24,25] [] (gE [] (af6 c1.code 170) (jK 2 [28] [] (sN 28 (c1.code=170) (λtD=>?_) (λtD=>?_))))))))
 ·refine jK 3 [31] [] (NT (SR (jK 4 [8,9,10] [] (NN (ax.ret (aF.bq ?_))))))
  rw [x7 e1 lX (.inl tD)] at hr
  subst hr
  exact rB (.tuple #[vI 0,.bool false,.iface 38 (.int .i64 (c1.code))]) [] [0,1] aH (⟨V1,G6,ht1,hy1,.inr ⟨lX,rfl⟩,rfl⟩)
 refine jK 3 [31] [] (NN (cP ((mode:Int)<(0:Int)) (λLB=>?_) (λLB=>?_)))
 ·refine SR (jK 4 [8,9,10] [] (NN (ax.ret (aF.bq ?_))))
  rw [x7 e1 lX (.inr LB)] at hr
  subst hr
  exact rB (.tuple #[vI 0,.bool false,.iface 38 (.int .i64 (c1.code))]) [] [0,1] aH (⟨V1,G6,ht1,hy1,.inr ⟨lX,rfl⟩,rfl⟩)
 refine KX (SR (jK 4 [33,34,35,36] [(0,a_ 2 b1)] ?_))
 obtain⟨S2,c2,e2⟩:∃Sx cx,br fs xs af (tr.length+2) S1 (Bz cur part mode)=(Sx,cx):=⟨_,_,rfl⟩
 refine iK [0] (Yu (β:=oL) (G:=G) (V:=V1) (tr:=G6) (S2:=S2) (c2:=c2) hrw dw d5 hZ hX hg cur hw part hnm mode (by rw [ht1];exact e2)) ?_
 rintro vT _ _ fW ⟨V2,CU,rfl,rfl,ht2,hy2⟩
 replace hZ:=hZ.le fW
 replace hg:=hg.le fW
 replace aH:=aH.trans fW
 rw [ht1] at ht2
 have yG:bC S2:=by have h:=bC.br (fs:=fs) (xs:=xs) (af:=af) (n:=tr.length+2) (c:=Bz cur part mode) dw;rw [e2] at h;exact h
 refine jK 1 [11] [] (NS (jK 3 [9] [] (NZ (jK 3 [42] [] (sN 42 ((c2.code:Int)=(0:Int)) (λtE=>?_) (λtE=>?_))))))
 ·refine jK 3 [45] [] (NN (cN ((c2.code:Int)=(171:Int)) (λvz=>?_) (λvz=>?_)))
  ·refine SR (jK 5 [8,9,10] [] (NN (ax.ret (aF.bq ?_))))
   rw [ET e1 lX d5 e2 d5] at hr
   subst hr
   exact rB (.tuple #[vI 0,.bool false,.iface 38 (.int .i64 (c2.code))]) [] [0,1] aH (⟨V2,CU,ht2,(hy1.trans hy2),.inr ⟨d5,rfl⟩,rfl⟩)
  refine KX (SQ (jK 3 [49,50,51] [(0,a_ 2 b1)] ?_))
  obtain⟨S3,c3,e3⟩:∃Sx cx,br fs xs af (tr.length+3) S2 (jL cur part)=(Sx,cx):=⟨_,_,rfl⟩
  refine iK [0] (Cl (β:=vT) (G:=G) (V:=V2) (tr:=CU) (S2:=S3) (c2:=c3) hrw yG d5 hZ hX hg cur hw part hnm (by rw [ht2];exact e3)) ?_
  rintro yI _ _ jj ⟨V3,Fv,rfl,rfl,Qw,hy3⟩
  replace hZ:=hZ.le jj
  replace hg:=hg.le jj
  replace aH:=aH.trans jj
  rw [ht2] at Qw
  have Xv:bC S3:=by have h:=bC.br (fs:=fs) (xs:=xs) (af:=af) (n:=tr.length+3) (c:=jL cur part) yG;rw [e3] at h;exact h
  refine jK 5 [8,11] [] (NS (jK 2 [56] [] (NN (cN ((c3.code:Int)=(0:Int)) (λAF=>?_) (λAF=>?_)))))
  ·refine SR (jK 6 [8,9,10] [] (NN (ax.ret (aF.bq ?_))))
   rw [BA e1 lX d5 e2 d5 e3 AF] at hr
   subst hr
   exact rB (.tuple #[vI 0,.bool (decide ((c2.code:Int)=(0:Int))),.iface 38 (.int .i64 (c3.code))]) [] [0,1] aH (⟨V3,Fv,Qw,((hy1.trans hy2).trans hy3),.inr ⟨AF,rfl⟩,rfl⟩)
  refine KX (SR (jK 5 [8,9,10] [] (NN (ax.ret ?_))))
  rw [Ab e1 lX d5 e2 d5 e3 AF] at hr
  subst hr
  exact rB (.tuple #[vI (c3.answer),.bool (decide ((c2.code:Int)=(0:Int))),.nilIface]) [] [0,1] aH (⟨V3,Fv,Qw,((hy1.trans hy2).trans hy3),.inl ⟨rfl,rfl⟩,rfl⟩)
 refine jK 3 [45] [] (NF (KX (SQ (jK 3 [49,50,51] [(0,a_ 2 b1)] ?_))))
 obtain⟨S3,c3,e3⟩:∃Sx cx,br fs xs af (tr.length+3) S2 (jL cur part)=(Sx,cx):=⟨_,_,rfl⟩
 refine iK [0] (Cl (β:=vT) (G:=G) (V:=V2) (tr:=CU) (S2:=S3) (c2:=c3) hrw yG d5 hZ hX hg cur hw part hnm (by rw [ht2];exact e3)) ?_
 rintro E7 _ _ iP ⟨V3,Fv,rfl,rfl,Qw,hy3⟩
 replace hZ:=hZ.le iP
 replace hg:=hg.le iP
 replace aH:=aH.trans iP
 rw [ht2] at Qw
 have Xv:bC S3:=by have h:=bC.br (fs:=fs) (xs:=xs) (af:=af) (n:=tr.length+3) (c:=jL cur part) yG;rw [e3] at h;exact h
 refine jK 5 [8,11] [] (NS (jK 2 [56] [] (NN (cN ((c3.code:Int)=(0:Int)) (λAF=>?_) (λAF=>?_)))))
 ·refine SR (jK 6 [8,9,10] [] (NN (ax.ret (aF.bq ?_))))
  rw [BA e1 lX d5 e2 d5 e3 AF] at hr
  subst hr
  exact rB (.tuple #[vI 0,.bool (decide ((c2.code:Int)=(0:Int))),.iface 38 (.int .i64 (c3.code))]) [] [0,1] aH (⟨V3,Fv,Qw,((hy1.trans hy2).trans hy3),.inr ⟨AF,rfl⟩,rfl⟩)
 refine KX (SR (jK 5 [8,9,10] [] (NN (ax.ret ?_))))
 rw [Ab e1 lX d5 e2 d5 e3 AF] at hr
 subst hr
 exact rB (.tuple #[vI (c3.answer),.bool (decide ((c2.code:Int)=(0:Int))),.nilIface]) [] [0,1] aH (⟨V3,Fv,Qw,((hy1.trans hy2).trans hy3),.inl ⟨rfl,rfl⟩,rfl⟩)
theorem afa {β:Bs} (be bm bf bo bc bu:Nat) :
 vU Tryz.prog β 37 #[vP be,vP bm,vP bf,vP bo,vP bc,vP bu] [.aD be [.nilIface] 74] (λ_ v l=>v=.tuple #[]/\l=[.aD be [.nilIface] 74]):=by
 exact vU.enter Tryz.func37 rfl Tryz.ntmps37 (ahT rfl) (λaH R=>SR (jK 2 [7] [(0,a_ 0 be)] (NF (ax.skip (aF.YM (v:=.tuple #[]) (l:=[.aD be [.nilIface] 74]) (eV:=[]) [] [0,1] aH (λ_=>d6) trivial rfl d6 (⟨rfl,rfl⟩))))))
theorem afb {β:Bs} (be bm bf bo bc bu:Nat) (e:Nat) (made:Int) (x1 x2 x3:Value) :
 vU Tryz.prog β 37 #[vP be,vP bm,vP bf,vP bo,vP bc,vP bu] [.aD be [.iface 112 (vP e)] 74,.aD bm [vI (made)] 3,.aD bf [x1,x2,x3] 72,.aD bo [.bool false] 4] (λ_ v l=>v=.tuple #[]/\l=[.aD be [.iface 112 (vP e)] 74,.aD bf [vI 0,.bool false,vI (made)] 72]):=by
 exact vU.enter Tryz.func37 rfl Tryz.ntmps37 (ahT rfl) (λaH R=>SR (jK 2 [7] [(0,a_ 0 be)] (NT (SR (jC 3 [] [(0,a_ 1 bm),(2,A_ 2 bf 3)] [(2,[(0,vI 0),(1,.bool false),(2,vI (made))])] (NS (jK 1 [10] [(0,a_ 3 bo)] (NF (ax.skip (aF.YM (v:=.tuple #[]) (l:=[.aD be [.iface 112 (vP e)] 74,.aD bf [vI 0,.bool false,vI (made)] 72]) (eV:=[]) [] [0,2,4] aH (λ_=>d6) trivial rfl d6 (⟨rfl,rfl⟩)))))))))))
theorem Yx {β:Bs} {G:WG} {fs:List cF} {xs:List cM} {af:Int} {S:bg} {V:WV} {tr:List aN} (hrw:(Lit.int .i64 af).wf=true) (hI:bC S) (hn:tr.length<=8388607) (hZ:kW β G.Z xs) (hX:gy xs 1048576) (hg:iX β) (be bm bf bo bc bu:Nat) (e:Nat) (made:Int) (x1 x2 x3:Value) (cur:Int) (hw:(Lit.int .i64 cur).wf=true) {S2:bg} {c2:aN} (eW:br fs xs af (tr.length+1) S (gS cur)=(S2,c2)) :
 vU Tryz.prog β 37 #[vP be,vP bm,vP bf,vP bo,vP bc,vP bu] [.aD be [.iface 112 (vP e)] 74,.aD bm [vI (made)] 3,.aD bf [x1,x2,x3] 72,.aD bo [.bool true] 4,.aD bc [.iface 37 (vP G.w)] 55,.aD bu [vI (cur)] 3,wA G fs xs af S V tr] (λ_ v l=>∃(V':WV) (jA:List aN),jA.length=tr.length+1/\oA fs xs af tr S jA S2/\v=.tuple #[]/\l=[.aD be [.iface 112 (vP e)] 74,.aD bf [vI 0,.bool false,vI (made)] 72]++[wA G fs xs af S2 V' jA]):=by
 refine vU.enter Tryz.func37 rfl Tryz.ntmps37 (ahT rfl) (λaH R=>SR (jK 2 [7] [(0,a_ 0 be)] (NT (SR (jC 3 [] [(0,a_ 1 bm),(2,A_ 2 bf 3)] [(2,[(0,vI 0),(1,.bool false),(2,vI (made))])] (NS (jK 1 [10] [(0,a_ 3 bo)] (NT (ax.region (jK 2 [11,12] [(0,a_ 4 bc),(1,a_ 5 bu)] (iK [6] (MN (β:=β) (G:=G) (V:=V) (tr:=tr) (S2:=S2) (c2:=c2) hrw hI d5 hZ hX hg cur hw eW) ?_)))))))))))
 rintro CN _ _ iw ⟨V1,G6,rfl,rfl,ht1,hy1⟩
 replace hZ:=hZ.le iw
 replace hg:=hg.le iw
 replace aH:=aH.trans iw
 exact NL (aF.YM (v:=.tuple #[]) (l:=[.aD be [.iface 112 (vP e)] 74,.aD bf [vI 0,.bool false,vI (made)] 72,wA G fs xs af S2 V1 G6]) (eV:=[]) [] [1,3,0,7] aH (λ_=>d6) trivial rfl d6 (⟨V1,G6,ht1,hy1,rfl,rfl⟩))
theorem Gl {β:Bs} {G:WG} {fs:List cF} {xs:List cM} {af:Int} {S0:bg} {V0:WV} {yL:List aN} (hrw:(Lit.int .i64 af).wf=true) (hI:bC S0) (hZ:kW β G.Z xs) (hX:gy xs 1048576) (hg:iX β) (hE:oC β) (h:Int) (hw:(Lit.int .i64 h).wf=true) (A:Option Addr) (pJ:Nat) (ps:List ByteArray) (hP:fF β A ps) (_ahK:ps.length<=1048576) (aB:∀i,i<ps.length->(pc ps i).size<=1048576) (hn0:yL.length+4*ps.length+4<=8388607) (mode:Int) {r:L9} (hr:jt fs xs af mode ps 0 S0 yL.length h false 0=r) :
 bN Tryz.prog β 12 #[.agg #[.iface 37 (vP G.w)],vI (h),.slice A (ps.length) (pJ),vI (mode)] [wA G fs xs af S0 V0 yL] (λ_ v l=>∃(V':WV) (jA:List aN),jA.length=r.n/\oA fs xs af yL S0 jA r.S/\((r.code=0/\v=.tuple #[.agg #[vI r.cur,.bool r.own,vI r.made],.nilIface]/\l=[wA G fs xs af r.S V' jA])\/(r.code≠0/\∃(e:Nat) (nm:ByteArray),v=.tuple #[.agg #[vI 0,.bool false,vI r.made],.iface 112 (vP e)]/\l=[wA G fs xs af r.S V' jA,.aD e [vI r.at_,.string nm,vI r.code] 114]))):=by
 refine bN.ae9 Tryz.func12 rfl Tryz.ntmps12 (ahT rfl) (λaH R=>SR (jB 1 [4] (λb1=>.aD b1 [.iface 37 (vP G.w)] 55) (λb1=>jB 1 [8] (λb2=>.aD b2 [vI 0,.bool false,vI 0] 72) (λb2=>jB 1 [9] (λb3=>.aD b3 [.nilIface] 74) (λb3=>NS (jB 2 [10,21] (λb4=>.aD b4 [vI 0] 3) (λb4=>jB 1 [11] (λb5=>.aD b5 [.bool false] 4) (λb5=>jN 4 [12] (λb6=>[(1,a_ 5 b4),(2,a_ 6 b5),(3,a_ 7 b6)]) (λb6=>[(5,[(0,vI (h))])]) (λb6=>.aD b6 [vI 0] 3) (λb6=>NS (jK 1 [22] [] (aE.defer (x:=none) ⟨.fn (.func 37) #[vP b3,vP b6,vP b2,vP b5,vP b1,vP b4],#[]⟩ (λ_=>d6) (NZ (jK 3 [23,24,25] [] (NN (ax.block (lB (ι:=Nat×Bs×bg×WV×(List aN)×Int×Bool×Int) (λ(i,b,S,V,tr,cur,own,made)=>b) (λ(i,b,S,V,tr,cur,own,made)=>(i<=ps.length)/\(β.le b)/\(fF b A ps)/\(iX b)/\(oC b)/\(kW b G.Z xs)/\(bC S)/\((Lit.int .i64 cur).wf=true)/\(tr.length<=yL.length+4*i)/\(0<=made/\made<=i)/\(jt fs xs af mode (ps.drop i) (i:Int) S tr.length cur own made=r)/\(oA fs xs af yL S0 tr S)) (λ(i,b,S,V,tr,cur,own,made)=>ps.length-i) (λ(i,b,S,V,tr,cur,own,made)=>[(3,vI (mode)),(4,vP b1),(8,vP b2),(9,vP b3),(10,vP b4),(11,vP b5),(12,vP b6),(23,.slice A (ps.length) (pJ)),(24,vI ↑ps.length),(25,vI ↑i)]) (λ(i,b,S,V,tr,cur,own,made)=>[.aD b1 [.iface 37 (vP G.w)] 55,.aD b2 [vI 0,.bool false,vI 0] 72,.aD b3 [.nilIface] 74,.aD b4 [vI (cur)] 3,.aD b5 [.bool own] 4,.aD b6 [vI (made)] 3,wA G fs xs af S V tr,.abs R]) (0,β,S0,V0,yL,h,false,0) [2,3,4,5,6,7,0,1] (⟨L4 _,aH,hP,hg,hE,hZ,hI,hw,d5,d5,hr,oA.refl⟩) ?_))))))))))))))))
 rintro⟨i,b,S,V,tr,cur,own,made⟩ ⟨hi,aH,hP,hg,hE,hZ,hI,hw,hn,hm,hr,hy⟩
 refine SR (jK 1 [26] [] (NN (ax.seq (cP ((((i:Nat):Int):Int)<(((ps.length:Nat):Int):Int)) (λvY=>?_) (λvY=>?_)))))
 ·refine KX (ax.seq (ax.block (SR (jK 5 [13,14] [(1,x_ i ps.length (fF.hd hP (j:=i) d5)),(2,p_ ⟨[.old (.string (pc ps i))],none,none,none,none⟩ [(Rd b ⟨(cC A),cq A+i*1,none⟩ (.string (pc ps i)))] ⟨fF.rd hP d5,trivial⟩)] (NS (jK 4 [31,32,33,34] [(0,a_ 0 b1),(1,a_ 3 b4)] ?_))))))
  obtain⟨a,ha⟩:∃a,dI fs xs af S tr.length cur (pc ps i) mode=a:=⟨_,rfl⟩
  refine iK [6] (adr (β:=b) (G:=G) (V:=V) (tr:=tr) hrw hI d5 hZ hX hg cur hw (pc ps i) (aB i d5) mode ha) ?_
  rintro Ay _ _ d9 ⟨Va,J6,I9,hya,(⟨hc,rfl⟩|⟨hc,rfl⟩),rfl⟩
  ·replace hP:=hP.le d9
   replace hg:=hg.le d9
   replace hE:=hE.le d9
   replace hZ:=hZ.le d9
   replace aH:=aH.trans d9
   have GZ:bC a.S:=by rw [←ha];exact DC hI
   have hna:a.n<=tr.length+3:=by rw [←ha];exact EU
   have Qx:(Lit.int .i64 a.next).wf=true:=by rw [←ha];exact KQ hI
   refine jK 7 [15,16,17] [] (NN (ax.join (ι:=Int) (λ(m2:Int)=>((if a.made=true then made+1 else made)=m2)) (λ(m2:Int)=>[(3,vI (mode)),(4,vP b1),(8,vP b2),(9,vP b3),(10,vP b4),(11,vP b5),(12,vP b6),(13,vI ↑i),(14,.string (pc ps i)),(15,vI (a.next)),(17,.nilIface),(23,.slice A (ps.length) (pJ)),(24,vI ↑ps.length),(25,vI ↑i)]) (λ(m2:Int)=>[wA G fs xs af a.S Va J6,.aD b1 [.iface 37 (vP G.w)] 55,.aD b2 [vI 0,.bool false,vI 0] 72,.aD b3 [.nilIface] 74,.aD b4 [vI (cur)] 3,.aD b5 [.bool own] 4,.aD b6 [vI (m2)] 3,.abs R]) ?_ (SR (jK 1 [39] [] (NN (ax.cond (b:=a.made) (λ_=>d6) (λlW=>ax.region (jC 3 [] [(0,a_ 6 b6),(1,wJ (made+1) (made+1)),(2,a_ 6 b6)] [(6,[(0,vI (made+1))])] (NL (mJ ((made+1)) [0,1,2,3,4,5,6,7] (t8 lW))))) (λlW=>ax.skip (mJ made [0,1,2,3,4,5,6,7] (nw (by rw [lW];decide))))))))))
   rintro m2 hm2
   have Tg:0<=m2/\m2<=i+1:=by rw [←hm2];split<;>omega
   refine SQ (jK 2 [43] [] (NF (KX (SQ (jK 1 [56] [(0,a_ 5 b5)] (NN (ax.cond (b:=own) (λ_=>d6) (λAF=>?_) (λAF=>?_))))))))
   ·subst AF
    refine SR (jK 2 [57,58] [(0,a_ 1 b1),(1,a_ 4 b4)] ?_)
    obtain⟨Sb,cb,eb⟩:∃Sx cx,br fs xs af (a.n+1) a.S (gS cur)=(Sx,cx):=⟨_,_,rfl⟩
    refine iK [0] (MN (β:=Ay) (G:=G) (V:=Va) (tr:=J6) (S2:=Sb) (c2:=cb) hrw GZ d5 hZ hX hg cur hw (by rw [I9];exact eb)) ?_
    rintro D5 _ _ jD ⟨Vb,trb,rfl,rfl,htb,hyb⟩
    replace hP:=hP.le jD
    replace hg:=hg.le jD
    replace hE:=hE.le jD
    replace hZ:=hZ.le jD
    replace aH:=aH.trans jD
    have hIb:bC Sb:=by have h:=bC.br (fs:=fs) (xs:=xs) (af:=af) (n:=a.n+1) (c:=gS cur) GZ;rw [eb] at h;exact h
    refine jK 1 [20] [] (NS (jK 2 [61] [] (NN (cN ((cb.code:Int)=(0:Int)) (λLG=>?_) (λLG=>?_)))))
    ·refine SR (jC 2 [] [(1,a_ 4 b4)] [(4,[(0,vI (a.next))])] (NS (jN 9 [] (λb9=>[(7,A_ 2 b2 3),(8,a_ 3 b3)]) (λb9=>[(3,[(0,.iface 112 (vP b9))])]) (λb9=>.aD b9 [vI ↑i,.string (pc ps i),vI (cb.code)] 114) (λb9=>NN (ax.ret (aF.bq (aF.fI (aF.bq (aF.bq (aF.fI (aF.bq ?_)))))))))))
     obtain⟨Sc,cc,ec⟩:∃Sx cx,br fs xs af (a.n+1+1) Sb (gS a.next)=(Sx,cx):=⟨_,_,rfl⟩
     refine aF.door (rest:=[.abs R,.aD b9 [vI ↑i,.string (pc ps i),vI (cb.code)] 114]) [3,6,2,5,1,4,0,7,8] (λ_=>d6) (Yx (β:=D5) (G:=G) (V:=Vb) (tr:=trb) hrw hIb d5 hZ hX hg b3 b6 b2 b5 b1 b4 b9 (m2) (.int .i64 0) (.bool false) (.int .i64 0) a.next Qx (S2:=Sc) (c2:=cc) (by rw [htb.trans (by rw [I9])];exact ec)) d6 rfl ?_
     rintro Vf _ _ mz ⟨Vc,Yy,htc,hyc,rfl,rfl⟩
     replace hP:=hP.le mz
     replace hg:=hg.le mz
     replace hE:=hE.le mz
     replace hZ:=hZ.le mz
     replace aH:=aH.trans mz
     have hr2:r=⟨Sc,a.n+1+1,0,false,m2,cb.code,(i:Int)⟩:=by rw [←hr,mZ d5,vM (by rw [ha];exact hc) rfl (by rw [ha,eb];exact LG),ha,eb,hm2];exact Ac ec
     subst hr2
     exact rB (l:=[wA G fs xs af Sc Vc Yy,.aD b9 [vI ↑i,.string (pc ps i),vI (cb.code)] 114]) (.tuple #[.agg #[vI 0,.bool false,vI (m2)],.iface 112 (vP b9)]) [A_ 1 b2 3,a_ 0 b3] [2,4,3] aH (⟨Vc,Yy,(by rw [htc,htb,I9]),(((hy.trans hya).trans hyb).trans hyc),.inr ⟨LG,b9,_,rfl,rfl⟩⟩)
    refine KX (ax.region (jC 3 [] [(1,a_ 4 b4),(2,a_ 5 b5)] [(4,[(0,vI (a.next))])] (LX (ax.region (jK 2 [25] [(0,wJ ((i:Int)+1) (↑(i+1)))] (NL ?_))))))
    have hl2:trb.length=a.n+1:=(by rw [htb,I9])
    exact tB ((i+1),D5,Sb,Vb,trb,a.next,true,m2) [1,2,3,4,5,6,0,7] (⟨d5,aH,hP,hg,hE,hZ,hIb,Qx,d5,d5,by rw [←hr,mZ (ps:=ps) (j:=i) d5,uW (by rw [ha];exact hc) rfl (by rw [ha,eb];exact LG),ha,eb,hm2,hl2];rfl,(hy.trans hya).trans hyb⟩)
   subst AF
   refine KX (ax.region (jC 3 [] [(1,a_ 4 b4),(2,a_ 5 b5)] [(4,[(0,vI (a.next))]),(5,[(0,.bool true)])] (LX (ax.region (jK 2 [25] [(0,wJ ((i:Int)+1) (↑(i+1)))] (NL ?_))))))
   have hl2:J6.length=a.n:=I9
   exact tB ((i+1),Ay,a.S,Va,J6,a.next,true,m2) [1,2,3,4,5,6,0,7] (⟨d5,aH,hP,hg,hE,hZ,GZ,Qx,d5,d5,by rw [←hr,mZ (ps:=ps) (j:=i) d5,wW (by rw [ha];exact hc) d8,ha,hm2,hl2];rfl,hy.trans hya⟩)
  replace hP:=hP.le d9
  replace hg:=hg.le d9
  replace hE:=hE.le d9
  replace hZ:=hZ.le d9
  replace aH:=aH.trans d9
  have GZ:bC a.S:=by rw [←ha];exact DC hI
  have hna:a.n<=tr.length+3:=by rw [←ha];exact EU
  have Qx:(Lit.int .i64 a.next).wf=true:=by rw [←ha];exact KQ hI
  refine jK 7 [15,16,17] [] (NN (ax.join (ι:=Int) (λ(m2:Int)=>((if a.made=true then made+1 else made)=m2)) (λ(m2:Int)=>[(3,vI (mode)),(4,vP b1),(8,vP b2),(9,vP b3),(10,vP b4),(11,vP b5),(12,vP b6),(13,vI ↑i),(14,.string (pc ps i)),(15,vI 0),(17,.iface 38 (.int .i64 (a.code))),(23,.slice A (ps.length) (pJ)),(24,vI ↑ps.length),(25,vI ↑i)]) (λ(m2:Int)=>[wA G fs xs af a.S Va J6,.aD b1 [.iface 37 (vP G.w)] 55,.aD b2 [vI 0,.bool false,vI 0] 72,.aD b3 [.nilIface] 74,.aD b4 [vI (cur)] 3,.aD b5 [.bool own] 4,.aD b6 [vI (m2)] 3,.abs R]) ?_ (SR (jK 1 [39] [] (NN (ax.cond (b:=a.made) (λ_=>d6) (λlW=>ax.region (jC 3 [] [(0,a_ 6 b6),(1,wJ (made+1) (made+1)),(2,a_ 6 b6)] [(6,[(0,vI (made+1))])] (NL (mJ ((made+1)) [0,1,2,3,4,5,6,7] (t8 lW))))) (λlW=>ax.skip (mJ made [0,1,2,3,4,5,6,7] (nw (by rw [lW];decide))))))))))
  rintro m2 hm2
  have Tg:0<=m2/\m2<=i+1:=by rw [←hm2];split<;>omega
  refine SQ (jK 2 [43] [] (NT (SR (jK 1 [45] [] (gE [] (Lg hE (a.code)) (jK 5 [18] [] (NS ?_)))))))
  rcases Bool.eq_false_or_eq_true own with rfl|rfl
  ·refine jN 9 [] (λb11=>[(7,A_ 2 b2 3),(8,a_ 3 b3)]) (λb11=>[(3,[(0,.iface 112 (vP b11))])]) (λb11=>.aD b11 [vI ↑i,.string (pc ps i),vI (a.code)] 114) (λb11=>NN (ax.ret (aF.bq (aF.fI (aF.bq (aF.bq (aF.fI (aF.bq ?_))))))))
   obtain⟨Sc,cc,ec⟩:∃Sx cx,br fs xs af (a.n+1) a.S (gS cur)=(Sx,cx):=⟨_,_,rfl⟩
   refine aF.door (rest:=[.abs R,.aD b11 [vI ↑i,.string (pc ps i),vI (a.code)] 114]) [3,6,2,5,1,4,0,7,8] (λ_=>d6) (Yx (β:=Ay) (G:=G) (V:=Va) (tr:=J6) hrw GZ d5 hZ hX hg b3 b6 b2 b5 b1 b4 b11 (m2) (.int .i64 0) (.bool false) (.int .i64 0) cur hw (S2:=Sc) (c2:=cc) (by rw [I9];exact ec)) d6 rfl ?_
   rintro Il _ _ kS ⟨Vc,Yy,htc,hyc,rfl,rfl⟩
   replace hP:=hP.le kS
   replace hg:=hg.le kS
   replace hE:=hE.le kS
   replace hZ:=hZ.le kS
   replace aH:=aH.trans kS
   have hr2:r=⟨Sc,a.n+1,0,false,m2,a.code,(i:Int)⟩:=by rw [←hr,mZ d5,rC (by rw [ha];exact hc),ha,hm2];exact Ac ec
   subst hr2
   exact rB (l:=[wA G fs xs af Sc Vc Yy,.aD b11 [vI ↑i,.string (pc ps i),vI (a.code)] 114]) (.tuple #[.agg #[vI 0,.bool false,vI (m2)],.iface 112 (vP b11)]) [A_ 1 b2 3,a_ 0 b3] [2,4,3] aH (⟨Vc,Yy,(by rw [htc,I9]),((hy.trans hya).trans hyc),.inr ⟨hc,b11,_,rfl,rfl⟩⟩)
  refine jN 9 [] (λb13=>[(7,A_ 2 b2 3),(8,a_ 3 b3)]) (λb13=>[(3,[(0,.iface 112 (vP b13))])]) (λb13=>.aD b13 [vI ↑i,.string (pc ps i),vI (a.code)] 114) (λb13=>NN (ax.ret (aF.bq (aF.fI (aF.bq (aF.bq (aF.fI (aF.bq (aF.door (rest:=[wA G fs xs af a.S Va J6,.aD b1 [.iface 37 (vP G.w)] 55,.aD b4 [vI (cur)] 3,.abs R,.aD b13 [vI ↑i,.string (pc ps i),vI (a.code)] 114]) [3,6,2,5,0,1,4,7,8] (λ_=>d6) (afb b3 b6 b2 b5 b1 b4 b13 (m2) (.int .i64 0) (.bool false) (.int .i64 0)) d6 rfl ?_)))))))))
  rintro E6 _ _ j3 ⟨rfl,rfl⟩
  replace hP:=hP.le j3
  replace hg:=hg.le j3
  replace hE:=hE.le j3
  replace hZ:=hZ.le j3
  replace aH:=aH.trans j3
  have hr2:r=⟨a.S,a.n,0,false,m2,a.code,(i:Int)⟩:=by rw [←hr,mZ d5,rC (by rw [ha];exact hc),ha,hm2];exact Ie
  subst hr2
  exact rB (l:=[wA G fs xs af a.S Va J6,.aD b13 [vI ↑i,.string (pc ps i),vI (a.code)] 114]) (.tuple #[.agg #[vI 0,.bool false,vI (m2)],.iface 112 (vP b13)]) [A_ 1 b2 3,a_ 0 b3] [2,6,5] aH (⟨Va,J6,I9,(hy.trans hya),.inr ⟨hc,b13,_,rfl,rfl⟩⟩)
 refine XX (SR (jC 6 [] [(0,a_ 3 b4),(1,a_ 4 b5),(2,a_ 5 b6),(4,A_ 1 b2 3),(5,a_ 2 b3)] [(1,[(0,vI (cur)),(1,.bool own),(2,vI (made))])] (NN (ax.ret (aF.door (rest:=[.aD b1 [.iface 37 (vP G.w)] 55,.aD b2 [vI (cur),.bool own,vI (made)] 72,.aD b4 [vI (cur)] 3,.aD b5 [.bool own] 4,.aD b6 [vI (made)] 3,wA G fs xs af S V tr,.abs R]) [2,0,1,3,4,5,6,7] (λ_=>d6) (afa b3 b6 b2 b5 b1 b4) d6 rfl ?_)))))
 rintro Ch _ _ iV ⟨rfl,rfl⟩
 replace hP:=hP.le iV
 replace hg:=hg.le iV
 replace hE:=hE.le iV
 replace hZ:=hZ.le iV
 replace aH:=aH.trans iV
 have hi2:i=ps.length:=d5
 have hr2:r=⟨S,tr.length,cur,own,made,0,0⟩:=by rw [←hr,hi2,List.drop_length,ES]
 subst hr2
 exact rB (.tuple #[.agg #[vI (cur),.bool own,vI (made)],.nilIface]) [A_ 2 b2 3,a_ 0 b3] [6,7] aH (⟨V,tr,rfl,hy,.inl ⟨rfl,rfl,rfl⟩⟩)
theorem Qy {β:Bs} (A:Option Addr) (c:Nat) (d:List ByteArray) (hA:fF β A d) (hl:d.length<=1048576) :
 bN Tryz.prog β 11 #[.slice A d.length c] [] (λβ' v l=>∃B cap,v=.slice B d.length cap/\l=[]/\fF β' B d):=by
 refine mK Tryz.func11 Tryz.ntmps11 (λaH R=>SR (jK 1 [] [] (NS (jB 2 [3] (λBL=>.aD BL [] 9) (λBL=>NS (aE.mem (λw hS=>hS.oo (i:=1) (b:=BL) (cs:=[]) (e:=9) 1 0 d6 rfl d8) (jK 2 [5,6] [] (mM 1 67 A d.length c (kQ d) rfl (hA.src) (λQz Ti=>aE.cT 1 (p:=.abs (aK 9 1 Qz (0+d.length) Ti ([]++(kQ d)))) (p':=.abs (aK 9 1 Qz d.length Ti (kQ d))) d6 (by rw [ahS,List.nil_append]) (sl 7 (.slice Qz (0+d.length) (Ti)) (.slice Qz (d.length) (Ti)) (by rw [ahS]) (jK 1 [3] [] (NS (aE.mA (Φ:=λβ'=>fF β' Qz d) 1 [0] (fY:=[.abs R]) rfl rfl d6 (λF w h β' h1 h2=>cE.iD h h1 h2) (λaaw uz hB=>?_)))))) (hl:=by rw [WT,Nat.mul_one]) (h1:=ZY)))))))))
 replace hA:=hA.le uz
 replace aH:=aH.trans uz
 exact jK 2 [2] [] (eO (v:=(.slice Qz (d.length) (Ti))) [] aH ⟨Qz,Ti,rfl,rfl,hB⟩)
end
section
open Go.RowKit Go.Maps bw aI
abbrev qC (id:Int):aN:=⟨1,0,id,⟨#[]⟩,⟨#[]⟩,none,0,[],0,0,0,0,0,0,0⟩
section h
variable {fs:List cF} {xs:List cM} {af:Int} {S S1 S2:bg} {c1 c2:aN} {n:Nat} {cur mode made i h:Int} {own:Bool} {p:ByteArray} {t:Th}
theorem DR {us:bB Th} {k:Int} {t:Th} (e:aI.get us k=some t):k∈aY us:=ahN.2 ⟨_,get_mem e,rfl⟩
theorem afc {name:ByteArray} (e:br fs xs af n S (Bz h name mode)=(S2,c2)):S2.us=S.us/\S2.aL=S.aL:=by
 have hu:=z8 (af:=af) (S:=S) (xs:=dh xs n)
 rcases Cg (fs:=fs) (xs:=xs) (af:=af) (n:=n) (S:=S) (c:=Bz h name mode) (by show (4:Int)≠1;decide) (by show (4:Int)≠9;decide) with h1|⟨k,hk,h1⟩
 ·rw [h1] at e
  unfold fC at e
  rw [vE (c:={Bz h name mode with answer:=0,code:=230}) rfl] at e
  unfold iH at e
  split at e
  ·cases e;exact hu
  split at e
  ·unfold lP at e
   split at e<;>(cases e;exact hu)
  cases e;exact hu
 rw [h1] at e
 cases e
 exact hu
theorem MP (e:br fs xs af n S (gS h)=(S2,c2)) (hg:aI.get S.us h=some t):S2.us=del h S.us/\S2.aL=S.aL:=by
 have hu:=z8 (af:=af) (S:=S) (xs:=dh xs n)
 have hd:(fC (jb af S (dh xs n)) (gS h)).1.us=del h S.us/\(fC (jb af S (dh xs n)) (gS h)).1.aL=S.aL:=by
  unfold fC
  rw [sG (c:={gS h with answer:=0,code:=230}) rfl]
  unfold jq
  rw [show aI.get (jb af S (dh xs n)).us ({gS h with answer:=0,code:=230}:aN).bD=some t by rw [hu.1];exact hg]
  exact⟨by rw [←hu.1],hu.2⟩
 rcases Cg (fs:=fs) (xs:=xs) (af:=af) (n:=n) (S:=S) (c:=gS h) (by show (13:Int)≠1;decide) (by show (13:Int)≠9;decide) with h1|⟨k,hk,h1⟩
 ·rw [h1] at e
  rw [e] at hd
  exact hd
 rw [h1,t8 (show (gS h).op=13 from rfl)] at e
 cases e
 exact hd
structure Held (S:bg) (cur:Int) (own:Bool):Prop where
 inv:bC S
 len:S.us.length=if own=true then 2 else 1
 cur:own=true->∃t,aI.get S.us cur=some t
 pk:S.aL<=3
theorem Held.Vn (h:Held S cur own) (e:br fs xs af n S c1=(S2,c2)):bC S2:=by
 have:=h.inv.br (fs:=fs) (xs:=xs) (af:=af) (n:=n) (c:=c1);rw [e] at this;exact this
structure aci (S:bg) (cur:Int) (own:Bool) (a:JC):Prop where
 ok:a.code=0->a.S.us.length=(if own=true then 3 else 2)/\(own=true->∃t,aI.get a.S.us cur=some t)/\(∃t,aI.get a.S.us a.next=some t)/\(own=true->a.next≠cur)
 bad:a.code≠0->Held a.S cur own
 pk:a.S.aL<=3
 made:a.made=true->mode<0->False
theorem MQ (hl:S.us.length=if own=true then 2 else 1) (hI:bC S) (hc:own=true->∃t,aI.get S.us cur=some t) (hpk:S.aL<=3) {name:ByteArray} (e:br fs xs af n S (jL h name)=(S2,c2)) :
 (c2.code=0->S2.us.length=(if own=true then 3 else 2)/\(own=true->∃t,aI.get S2.us cur=some t)/\(∃t,aI.get S2.us c2.answer=some t)/\(own=true->c2.answer≠cur))/\(c2.code≠0->S2.us=S.us)/\S2.aL<=3:=by
 rcases GJ e with ⟨h1,t,h2,h3,h4⟩|⟨h1,h2,h3,h4⟩
 ·obtain⟨g1,g2,_⟩:=least_le hI.usr (λx hx=>(hI.wj x hx).1)
  refine⟨λ_=>⟨?_,λho=>?_,⟨t,?_⟩,λho hq=>?_⟩,λhn=>KB h1 hn,?_⟩
  ·rw [h3,kK,hl];split<;>rfl
  ·obtain⟨u,hu⟩:=hc ho
   refine⟨u,?_⟩
   rw [h3,sU g2,nw (λhq:cur=aI.aS S.us=>g2 (hq ▸ DR hu))]
   exact hu
  ·rw [h3,h2,sU g2,t8 rfl]
  ·obtain⟨u,hu⟩:=hc ho
   rw [h2] at hq
   exact g2 (hq ▸ DR hu)
  rw [h4,hl]
  split<;>omega
 exact⟨λhn=>KB hn h1,λ_=>h3,by rw [h4];exact hpk⟩
theorem Held.step (hh:Held S cur own):aci (mode:=mode) S cur own (dI fs xs af S n cur p mode):=by
 obtain⟨S1,c1,e1⟩:∃Sx cx,br fs xs af (n+1) S (jL cur p)=(Sx,cx):=⟨_,_,rfl⟩
 obtain⟨a1,a2,a3⟩:=MQ hh.len hh.inv hh.cur hh.pk e1
 have i1:=hh.Vn e1
 by_cases h1:c1.code=0
 ·rw [DB e1 h1]
  exact⟨λ_=>a1 h1,λh=>KB rfl h,a3,λh=>KB h Bool.false_ne_true⟩
 have u1:=a2 h1
 have Tj:Held S1 cur own:=⟨i1,by rw [u1];exact hh.len,by rw [u1];exact hh.cur,a3⟩
 by_cases h2:¬c1.code=170\/mode<0
 ·rw [x7 e1 h1 h2]
  exact⟨λh=>KB h h1,λ_=>Tj,a3,λh=>KB h Bool.false_ne_true⟩
 obtain⟨S2,c2,e2⟩:∃Sx cx,br fs xs af (n+2) S1 (Bz cur p mode)=(Sx,cx):=⟨_,_,rfl⟩
 obtain⟨b1,b2⟩:=afc e2
 have D9:Held S2 cur own:=⟨Tj.Vn e2,by rw [b1];exact Tj.len,by rw [b1];exact Tj.cur,by rw [b2];exact a3⟩
 by_cases h3:¬c2.code=0/\¬c2.code=171
 ·rw [ET e1 h1 h2 e2 h3]
  exact⟨λh=>KB h h3.1,λ_=>D9,D9.pk,λh=>KB h Bool.false_ne_true⟩
 obtain⟨S3,c3,e3⟩:∃Sx cx,br fs xs af (n+3) S2 (jL cur p)=(Sx,cx):=⟨_,_,rfl⟩
 obtain⟨d1,d2,d3⟩:=MQ D9.len D9.inv D9.cur D9.pk e3
 have hm:mode<0->False:=λh=>h2 (.inr h)
 by_cases h4:c3.code=0
 ·rw [Ab e1 h1 h2 e2 h3 e3 h4]
  exact⟨λ_=>d1 h4,λh=>KB rfl h,d3,λ_=>hm⟩
 rw [BA e1 h1 h2 e2 h3 e3 h4]
 have u3:=d2 h4
 exact⟨λh=>KB h h4,λ_=>⟨D9.Vn e3,by rw [u3];exact D9.len,by rw [u3];exact D9.cur,d3⟩,d3,λ_=>hm⟩
theorem Held.close (hI:bC S) (hl:S.us.length=3) (hg:∃t,aI.get S.us cur=some t) {next:Int} (hn:∃t,aI.get S.us next=some t) (cG:next≠cur) (hpk:S.aL<=3) (e:br fs xs af n S (gS cur)=(S2,c2)):Held S2 next true:=by
 obtain⟨t,hg⟩:=hg
 obtain⟨u,hn⟩:=hn
 obtain⟨h1,h2⟩:=MP e hg
 refine⟨by have:=hI.br (fs:=fs) (xs:=xs) (af:=af) (n:=n) (c:=gS cur);rw [e] at this;exact this,?_,λ_=>⟨u,?_⟩,by rw [h2];exact hpk⟩
 ·have:=sV hI.usr (DR hg)
  rw [h1]
  show _=2
  omega
 rw [h1,wG,nw cG];exact hn
structure acj (mode:Int) (len:Nat) (n0:Nat) (h:Int) (r:L9):Prop where
 inv:bC r.S
 pk:r.S.aL<=3
 made:0<=r.made/\r.made<=len
 m0:mode<0->r.made=0
 n:r.n<=4*len+1+n0
 bad:r.code≠0->r.S.us.length=1
 ok:r.code=0->Held r.S r.cur r.own/\(r.own=decide (0<len))/\(r.own=false->r.cur=h)
theorem Held.fail (hh:Held S cur own) {code at_:Int} (_hc:code≠0):(mF fs xs af S n cur own made code at_).S.us.length=1/\bC (mF fs xs af S n cur own made code at_).S/\(mF fs xs af S n cur own made code at_).S.aL<=3/\(mF fs xs af S n cur own made code at_).made=made/\(mF fs xs af S n cur own made code at_).code=code/\(mF fs xs af S n cur own made code at_).n<=n+1:=by
 obtain⟨S2,c2,e2⟩:∃Sx cx,br fs xs af (n+1) S (gS cur)=(Sx,cx):=⟨_,_,rfl⟩
 cases own with
 |false=>rw [Ie];exact⟨hh.len,hh.inv,hh.pk,rfl,rfl,Nat.le_succ n⟩
 |true=>
   rw [Ac e2]
   obtain⟨t,hg⟩:=hh.cur rfl
   obtain⟨h1,h2⟩:=MP e2 hg
   refine⟨?_,hh.Vn e2,by show S2.aL<=3;rw [h2];exact hh.pk,rfl,rfl,N6 _⟩
   have h3:=sV hh.inv.usr (DR hg)
   have h4:S.us.length=2:=hh.len
   show S2.us.length=1
   rw [h1]
   omega
theorem Fw {h0:Int} {n0 len:Nat}:∀(r:List ByteArray) (i:Int) (S:bg) (n:Nat) (cur:Int) (own:Bool) (made:Int),Held S cur own->0<=made->made+r.length<=len->(mode<0->made=0)->(own=true->n+4*r.length<=4*len+n0/\r.length<len)->(own=false->n=n0/\r.length=len/\cur=h0)->acj mode len n0 h0 (jt fs xs af mode r i S n cur own made)
 |[],i,S,n,cur,own,made,hh,hm,hml,hm0,hn,hf=>by
   rw [ES]
   simp only [List.length_nil] at hml hn hf
   refine⟨hh.inv,hh.pk,⟨hm,by show made<=_;omega⟩,hm0,?_,λh=>KB rfl h,λ_=>⟨hh,?_,λho=>(hf ho).2.2⟩⟩
   ·show n<=_
    cases own with
    |true=>have:=(hn rfl).1;omega
    |false=>have:=(hf rfl).1;omega
   show own=_
   cases own with
   |true=>have:=(hn rfl).2;exact (ahO d5).symm
   |false=>have:=(hf rfl).2.1;exact (Lk d5).symm
 |p::r,i,S,n,cur,own,made,hh,hm,hml,hm0,hn,hf=>by
   obtain⟨a,ha⟩:∃a,dI fs xs af S n cur p mode=a:=⟨_,rfl⟩
   have hs:aci (mode:=mode) S cur own a:=by rw [←ha];exact hh.step
   have hna:a.n<=n+3:=by rw [←ha];exact EU
   have GZ:bC a.S:=by rw [←ha];exact DC hh.inv
   obtain⟨m2,hm2⟩:∃m2,(if a.made=true then made+1 else made)=m2:=⟨_,rfl⟩
   have Tg:0<=m2/\m2<=made+1:=by rw [←hm2];split<;>omega
   have Ys:mode<0->m2=0:=λhq=>by
    rw [←hm2,nw (λh=>hs.made h hq)];exact hm0 hq
   rw [ahX] at hml hn hf
   have hnn:n+4*(r.length+1)<=4*len+n0:=by
    cases own with
    |true=>exact (hn rfl).1
    |false=>have:=hf rfl;omega
   by_cases hc:a.code=0
   ·obtain⟨o1,o2,o3,o4⟩:=hs.ok hc
    by_cases ho:own=true
    ·subst ho
     obtain⟨S2,c2,e2⟩:∃Sx cx,br fs xs af (a.n+1) a.S (gS cur)=(Sx,cx):=⟨_,_,rfl⟩
     have h2:Held S2 a.next true:=Held.close GZ o1 (o2 rfl) o3 (o4 rfl) hs.pk e2
     by_cases hc2:c2.code=0
     ·rw [uW (by rw [ha];exact hc) rfl (by rw [ha,e2];exact hc2),ha,e2,hm2]
      exact Fw r _ _ _ _ _ _ h2 Tg.1 d5 Ys (λ_=>⟨d5,d5⟩) (λh=>KB h (by decide))
     rw [vM (by rw [ha];exact hc) rfl (by rw [ha,e2];exact hc2),ha,e2,hm2]
     show acj mode len n0 h0 (mF fs xs af S2 (a.n+1) a.next true m2 c2.code i)
     obtain⟨f1,f2,f3,f4,f5,f6⟩:=h2.fail (fs:=fs) (xs:=xs) (af:=af) (n:=a.n+1) (made:=m2) (at_:=i) hc2
     exact⟨f2,f3,by rw [f4];omega,by rw [f4];exact Ys,d5,λ_=>f1,λh=>KB (f5.symm.trans h) hc2⟩
    have ho:own=false:=by simpa using ho
    subst ho
    rw [wW (by rw [ha];exact hc) d8,ha,hm2]
    have:=hf rfl
    exact Fw r _ _ _ _ _ _ ⟨GZ,o1,λ_=>o3,hs.pk⟩ Tg.1 d5 Ys (λ_=>⟨d5,d5⟩) (λh=>KB h (by decide))
   rw [rC (by rw [ha];exact hc),ha,hm2]
   obtain⟨f1,f2,f3,f4,f5,f6⟩:=(hs.bad hc).fail (fs:=fs) (xs:=xs) (af:=af) (n:=a.n) (made:=m2) (at_:=i) hc
   exact⟨f2,f3,by rw [f4];omega,by rw [f4];exact Ys,d5,λ_=>f1,λh=>KB (f5.symm.trans h) hc⟩
end h
section e
variable {β:Bs} {fs:List cF} {xs:List cM} {af:Int} {ns:List aP} {X:FM}
abbrev newP (β:Bs) (B:Option Addr) (ns:List aP) (Bf:Option Addr) (bf:Nat) (fs:List cF) (Ba:Option Addr) (ba:Nat) (xs:List cM):List HP:=[.abs (jl β (λβ'=>∃K,aO β' B ns K)),.abs (aK 136 2 Bf fs.length bf (dL jr fs)),.abs (aK 133 5 Ba xs.length ba (dL kg xs))]
abbrev abk (B:Option Addr) (n cp:Nat) (af:Int) (X:FM) (Bf:Option Addr) (nf bf:Nat) (Ba:Option Addr) (na ba:Nat):Array Value:=#[.agg #[.slice B n cp],.int .i64 af,.agg #[.int .i64 X.cN,.int .i64 X.cB,.int .i64 X.cH,.int .i64 X.cS,.int .i64 X.cZ],.agg #[.slice Bf nf bf,.slice Ba na ba]]
theorem QA {Bf Ba:Option Addr} (B:Option Addr) (cp:Nat) (hB:kq ns 1048576) (bf ba:Nat) (oM:lI fs 2097152) (gA:gy xs 1048576) :
 bN Tryz.prog β 26 (abk B ns.length cp af X Bf fs.length bf Ba xs.length ba) (newP β B ns Bf bf fs Ba ba xs) (λβ' v l=>(fL X ns af≠0/\v=.tuple #[.pointer none,.int .i64 (fL X ns af)]/\l=[])\/(fL X ns af=0/\∃(N:DN X ns) (G:WG) (V:WV),v=.tuple #[vP G.w,.int .i64 0]/\l=[wA G fs xs af N.1 V []]/\kW β' G.Z xs)):=
 bN.Uj λβ1 _ ⟨K,hG⟩=>bN.aeb λoL hL=>by
  obtain⟨F,h1,h2⟩:=hL.get 0 rfl
  obtain⟨F',h1',h2'⟩:=hL.get 1 rfl
  exact (adp B cp (hG.le hL.le) hB bf ba (cE.iD h1 h2 rfl) oM (cE.iD h1' h2' rfl) gA).mono (by
   rintro β' v l _ (h|⟨h,N,G,V,q1,q2,q3⟩)
   ·exact .inl h
   exact .inr ⟨h,N,G,V,q1,q2,q3.at_⟩)
theorem abl (h0:fL X ns af=0) {Bf Ba:Option Addr} (B:Option Addr) (cp:Nat) (hB:kq ns 1048576) (bf ba:Nat) (oM:lI fs 2097152) (gA:gy xs 1048576) :
 aW Tryz.prog β 26 (abk B ns.length cp af X Bf fs.length bf Ba xs.length ba) (newP β B ns Bf bf fs Ba ba xs) (λv l=>∃(N:DN X ns) (G:WG) (V:WV),v=.tuple #[vP G.w,.int .i64 0]/\l=[.abs (jl β (λβ'=>kW β' G.Z xs)),wA G fs xs af N.1 V []]):=
 (bN.GD (ι:=DN X ns×WG×WV) (vv:=λx=>.tuple #[vP x.2.1.w,.int .i64 0]) (ll:=λx=>[wA x.2.1 fs xs af x.1.1 x.2.2 []]) (Φ:=λx β'=>kW β' x.2.1.Z xs)
  ((QA (X:=X) B cp hB bf ba oM gA).mono (by
    rintro β' v l _ (⟨h,_⟩|⟨_,N,G,V,h1,h2,h3⟩)
    ·exact KB h0 h
    exact⟨(N,G,V),h1,h2,h3⟩))).mono (by rintro v l ⟨⟨N,G,V⟩,h1,h2⟩;exact⟨N,G,V,h1,h2⟩)
theorem Yz (h0:¬fL X ns af=0) {Bf Ba:Option Addr} (B:Option Addr) (cp:Nat) (hB:kq ns 1048576) (bf ba:Nat) (oM:lI fs 2097152) (gA:gy xs 1048576) :
 aW Tryz.prog β 26 (abk B ns.length cp af X Bf fs.length bf Ba xs.length ba) (newP β B ns Bf bf fs Ba ba xs) (λv l=>v=.tuple #[.pointer none,.int .i64 (fL X ns af)]/\l=[]):=
 ((QA (X:=X) B cp hB bf ba oM gA).mono (by
  rintro β' v l _ (⟨_,h1,h2⟩|⟨h,_⟩)
  ·exact⟨h1,h2⟩
  exact KB h h0)).OX
end e
end
section
open Go.RowKit Go.Maps bw aI
attribute [local irreducible] aE bH ax aF eu
theorem MR {β:Bs} (A:Option Addr) (c:Nat) (ns:List aP) (Y:fk) (hG:aO β A ns Y) (hB:kq ns 1048576) (X:FM) (af:Int) (Af:Option Addr) (cf:Nat) (fs:List cF) (hF:cE β Af (dL jr fs)) (oM:lI fs 2097152) (Aa:Option Addr) (ca:Nat) (xs:List cM) (hA:cE β Aa (dL kg xs)) (gA:gy xs 1048576) :
 bN Tryz.prog β 6 #[.agg #[.slice A (ns.length) (c),vI (af),vI (X.cN),vI (X.cB),vI (X.cH),vI (X.cS),vI (X.cZ),.slice Af (fs.length) (cf),.slice Aa (xs.length) (ca)]] [] (λβ' v l=>(fL X ns af≠0/\v=.tuple #[.pointer none,vI (fL X ns af)]/\l=[])\/(fL X ns af=0/\∃(N:DN X ns) (G:WG) (V:WV),v=.tuple #[vP G.w,vI 0]/\l=[wA G fs xs af N.1 V []]/\kW β' G.Z xs)):=by
 refine mK Tryz.func6 Tryz.ntmps6 (λaH R=>SR (jB 3 [1] (λb1=>.aD b1 [.slice A (ns.length) (c),vI (af),vI (X.cN),vI (X.cB),vI (X.cH),vI (X.cS),vI (X.cZ),.slice Af (fs.length) (cf),.slice Aa (xs.length) (ca)] 34) (λb1=>NN (ax.seq ?_))))
 by_cases h0:fL X ns af=0
 ·refine jM [0,1,3,4,5,6,7,8,502,509,510,11,12,13,514] [1] (jG 8 [5,8,10,12] [(1,a_ 0 b1),(3,a_ 0 b1),(5,A_ 0 b1 5),(7,A_ 0 b1 2)] (kL [2] [] (yt (β:=β) A c ns Y hG (vA hB) (FO hB)) ?_ (by rintro _ _ ⟨B,cp,rfl,rfl⟩;kernel_rfl)))
  rintro _ _ ⟨B,cp,rfl,rfl⟩
  refine kL [4] [] (yu (β:=β) Af cf fs hF oM.len Aa ca xs hA (Pd gA.len d8)) ?_ (by rintro _ _ ⟨Bf,bf,Ba,ba,rfl,rfl⟩;kernel_rfl)
  rintro _ _ ⟨Bf,bf,Ba,ba,rfl,rfl⟩
  refine kL [3] [2,0,1] (abl (β:=β) (X:=X) (Bf:=Bf) (Ba:=Ba) h0 B cp hB bf ba oM gA) ?_ (by rintro _ _ ⟨N,G,V,rfl,rfl⟩;kernel_rfl)
  rintro _ _ ⟨N,G,V,rfl,rfl⟩
  refine jG 3 [2,16] [] (eu.last d6 (jK 1 [3] [] (NL (aF.np (NX (ax.ret (aF.sI 0 [1,2,3] (fY:=[wA G fs xs af N.1 V ([]),.abs R,.aD b1 [.slice A (ns.length) (c),vI (af),vI (X.cN),vI (X.cB),vI (X.cH),vI (X.cS),vI (X.cZ),.slice Af (fs.length) (cf),.slice Aa (xs.length) (ca)] 34]) rfl d6 rfl (λoL fo hz=>?_))))))))
  replace aH:=aH.trans fo
  exact rB (.tuple #[vP G.w,vI 0]) [] [0,1] aH (.inr ⟨h0,N,G,V,rfl,rfl,hz⟩)
 refine jM [0,1,3,4,5,6,7,8,502,509,510,11,12,13,514] [1] (jG 8 [5,8,10,12] [(1,a_ 0 b1),(3,a_ 0 b1),(5,A_ 0 b1 5),(7,A_ 0 b1 2)] (kL [2] [] (yt (β:=β) A c ns Y hG (vA hB) (FO hB)) ?_ (by rintro _ _ ⟨B,cp,rfl,rfl⟩;kernel_rfl)))
 rintro _ _ ⟨B,cp,rfl,rfl⟩
 refine kL [4] [] (yu (β:=β) Af cf fs hF oM.len Aa ca xs hA (Pd gA.len d8)) ?_ (by rintro _ _ ⟨Bf,bf,Ba,ba,rfl,rfl⟩;kernel_rfl)
 rintro _ _ ⟨Bf,bf,Ba,ba,rfl,rfl⟩
 refine kL [1] [2,0,1] (Yz (β:=β) (X:=X) (Bf:=Bf) (Ba:=Ba) h0 B cp hB bf ba oM gA) ?_ (by rintro _ _ ⟨rfl,rfl⟩;kernel_rfl)
 rintro _ _ ⟨rfl,rfl⟩
 exact jG 3 [2,16] [] (eu.last d6 (jK 1 [3] [] (NL (aF.np (NX (ax.ret (rB (.tuple #[.pointer none,vI ((fL X ns af))]) [] [0] aH (.inl ⟨h0,rfl,rfl⟩))))))))
end
section
open Go.RowKit Go.Maps bw aI
theorem afd:kU (Qj 99):=adi d8
structure ahL (S:bg):Prop where
 inv:bC S
 ay:S.ay=[(1,⟨1,2⟩)]
 us:S.us=[]
 X:S.X=⟨9,99,9,0,0,1,0,0⟩
 o1:∃l u,ah S.O 1=⟨1,493,0,0,0,0,l,0,false,2,[],⟨#[]⟩,[],u⟩
section v
variable {S:bg}
end v
section f
variable {β:Bs} {fs:List cF} {xs:List cM} {af:Int} {ns:List aP} {X:FM}
theorem J7 {ns:List aP} (h0:fL X ns af=0) (A:Option Addr) (c:Nat) (Y:fk) (hG:aO β A ns Y) (hB:kq ns 1048576) (Af:Option Addr) (cf:Nat) (fs:List cF) (hF:cE β Af (dL jr fs)) (oM:lI fs 2097152) (Aa:Option Addr) (ca:Nat) (xs:List cM) (hA:cE β Aa (dL kg xs)) (gA:gy xs 1048576) :
 bN Tryz.prog β 6 #[KF A ns.length c af X Af fs.length cf Aa xs.length ca] [] (λβ' v l=>∃(N:DN X ns) (G:WG) (V:WV),v=.tuple #[vP G.w,.int .i64 0]/\l=[wA G fs xs af N.1 V []]/\kW β' G.Z xs):=
 (MR A c ns Y hG hB X af Af cf fs hF oM Aa ca xs hA gA).mono (by
  rintro β' v l _ (⟨h,_⟩|⟨_,h⟩)
  ·exact KB h0 h
  exact h)
theorem Vo {ns:List aP} (h0:¬fL X ns af=0) (A:Option Addr) (c:Nat) (Y:fk) (hG:aO β A ns Y) (hB:kq ns 1048576) (Af:Option Addr) (cf:Nat) (fs:List cF) (hF:cE β Af (dL jr fs)) (oM:lI fs 2097152) (Aa:Option Addr) (ca:Nat) (xs:List cM) (hA:cE β Aa (dL kg xs)) (gA:gy xs 1048576) :
 bN Tryz.prog β 6 #[KF A ns.length c af X Af fs.length cf Aa xs.length ca] [] (λ_ v l=>v=.tuple #[.pointer none,.int .i64 (fL X ns af)]/\l=[]):=
 (MR A c ns Y hG hB X af Af cf fs hF oM Aa ca xs hA gA).mono (by
  rintro β' v l _ (⟨_,h1,h2⟩|⟨h,_⟩)
  ·exact⟨h1,h2⟩
  exact KB h h0)
theorem Nh:gy [] 1048576:=⟨d8,λa ha=>by cases ha⟩
end f
section w
variable {β:Bs} {G:WG} {fs:List cF} {xs:List cM} {af:Int} {S S1:bg} {V:WV} {tr:List aN} {c1:aN} {n:Nat} {id h:Int}
theorem BR:∀F w,(gq (wP G fs xs af S V tr)).h F w->w.cell? ⟨G.w,0,none⟩=some (.iface 37 (vP G.w)):=by
 rintro F w ⟨φ,h1,_,_⟩
 exact (lq (h1 0 _ rfl).1 rfl rfl rfl).1
theorem abm (hrw:(Lit.int .i64 af).wf=true) (hI:bC S) (hZ:kW β G.Z xs) (hX:gy xs 1048576) (hg:iX β) (id:Int) (how:(Lit.int .i64 id).wf=true) (hW:br fs xs af 1 S (qC id)=(S1,c1)) :
 bN Tryz.prog β 8 #[.agg #[.iface 37 (vP G.w)],.int .i64 id] [wA G fs xs af S V []] (λ_ v l=>∃(V':WV) (q:{l:List aN // l.length=1/\oA fs xs af [] S l S1}),v=.tuple #[.int .i64 c1.answer,.int .i64 c1.code]/\l=[wA G fs xs af S1 V' q.1]):=
 (Qt (β:=β) (G:=G) (V:=V) (tr:=[]) (S2:=S1) (c2:=c1) hrw hI d8 hZ hX hg id how hW).mono (by
  rintro _ v l _ ⟨V',jA,h1,h2,h3,h4⟩
  exact⟨V',⟨jA,h3,h4⟩,h1,h2⟩)
abbrev DS (G:WG) (h:Int) (A:Option Addr) (n pc:Nat) (mode:Int):Array Value:=#[.agg #[.iface 37 (vP G.w)],.int .i64 h,.slice A n pc,.int .i64 mode]
variable {r:L9} {A:Option Addr} {pJ:Nat} {ps:List ByteArray} {mode:Int}
theorem YA (hc:r.code=0) (hrw:(Lit.int .i64 af).wf=true) (hI:bC S) (hn:tr.length=n) (hn2:n+4*ps.length+4<=8388607) (hZ:kW β G.Z xs) (hX:gy xs 1048576) (hg:iX β) (hE:oC β) (hw:(Lit.int .i64 h).wf=true) (hP:fF β A ps) (hpl:ps.length<=1048576) (aB:∀i,i<ps.length->(pc ps i).size<=1048576) (hr:jt fs xs af mode ps 0 S n h false 0=r) :
 bN Tryz.prog β 12 (DS G h A ps.length pJ mode) [wA G fs xs af S V tr] (λ_ v l=>∃(V':WV) (q:{l:List aN // l.length=r.n/\oA fs xs af tr S l r.S}),v=.tuple #[.agg #[.int .i64 r.cur,.bool r.own,.int .i64 r.made],.nilIface]/\l=[wA G fs xs af r.S V' q.1]):=
 (Gl (V0:=V) (r:=r) hrw hI hZ hX hg hE h hw A pJ ps hP hpl aB d5 mode (by rw [hn];exact hr)).mono (by
  rintro _ v l _ ⟨V',jA,h1,h4,(⟨_,h2,h3⟩|⟨h2,_⟩)⟩
  ·exact⟨V',⟨jA,h1,h4⟩,h2,h3⟩
  exact KB hc h2)
theorem Vp (hc:¬r.code=0) (hrw:(Lit.int .i64 af).wf=true) (hI:bC S) (hn:tr.length=n) (hn2:n+4*ps.length+4<=8388607) (hZ:kW β G.Z xs) (hX:gy xs 1048576) (hg:iX β) (hE:oC β) (hw:(Lit.int .i64 h).wf=true) (hP:fF β A ps) (hpl:ps.length<=1048576) (aB:∀i,i<ps.length->(pc ps i).size<=1048576) (hr:jt fs xs af mode ps 0 S n h false 0=r) :
 bN Tryz.prog β 12 (DS G h A ps.length pJ mode) [wA G fs xs af S V tr] (λ_ v l=>∃(V':WV) (q:{l:List aN // l.length=r.n/\oA fs xs af tr S l r.S}) (e:Nat) (nm:ByteArray),v=.tuple #[.agg #[.int .i64 0,.bool false,.int .i64 r.made],.iface 112 (vP e)]/\l=[wA G fs xs af r.S V' q.1,.aD e [.int .i64 r.at_,.string nm,.int .i64 r.code] 114]):=
 (Gl (V0:=V) (r:=r) hrw hI hZ hX hg hE h hw A pJ ps hP hpl aB d5 mode (by rw [hn];exact hr)).mono (by
  rintro _ v l _ ⟨V',jA,h1,h4,(⟨h2,_⟩|⟨_,e,nm,h2,h3⟩)⟩
  ·exact KB h2 hc
  exact⟨V',⟨jA,h1,h4⟩,e,nm,h2,h3⟩)
end w
def abn:aP:=⟨1,2,493,0,0,0,0,[],⟨#[]⟩,[⟨⟨#[97]⟩,2⟩,⟨⟨#[115]⟩,3⟩]⟩
def ag3:aP:=⟨2,2,493,0,0,0,0,[],⟨#[]⟩,[]⟩
def ag4:aP:=⟨3,3,0,0,0,0,0,[],⟨#[97]⟩,[]⟩
def CV:List aP:=[abn,ag3,ag4]
theorem QB {i:Nat} (h:i<CV.length):i=0\/i=1\/i=2:=by
 have h:i<3:=h
 omega
theorem af7:cD CV:=by
 refine⟨d8,λi hi=>?_,λi hi=>?_,λi j hij hj=>?_,d8,λi hi j hj=>?_,d8,λz=>?_⟩
 ·rcases QB hi with rfl|rfl|rfl
  ·exact⟨d8,d8,d8,d8,BQ,λ_=>rfl,λh=>KB rfl h,.inl ⟨d8,rfl⟩⟩
  ·exact⟨d8,d8,d8,d8,BQ,λ_=>rfl,λh=>KB rfl h,.inl ⟨d8,rfl⟩⟩
  exact⟨d8,d8,d8,d8,BQ,λ_=>rfl,λ_=>rfl,.inr ⟨rfl,d8,d8,λj hj=>by
   have:j=0:=by have hj:j<1:=hj;omega
   subst this;decide⟩⟩
 ·rcases QB hi with rfl|rfl|rfl<;>exact⟨d8,d8⟩
 ·rcases QB hj with rfl|rfl|rfl
  ·omega
  ·have:i=0:=d5
   subst this;decide
  have:i=0\/i=1:=d5
  rcases this with rfl|rfl<;>decide
 ·rcases QB hi with rfl|rfl|rfl
  ·have hj:j<2:=hj
   have:j=0\/j=1:=d5
   rcases this with rfl|rfl
   ·exact⟨d8,AB d8 d8 d8,by show ¬iR ⟨#[97]⟩ ⟨#[]⟩;unfold iR;decide +kernel⟩
   exact⟨d8,AB d8 d8 d8,by show ¬iR ⟨#[115]⟩ ⟨#[97]⟩;unfold iR;decide +kernel⟩
  ·exact KB hj (N5 j)
  exact KB hj (N5 j)
 have e:(ju CV CV.length).map (lu CV)=[(2,1)]:=d8
 rw [e]
 by_cases h:z=2
 ·subst h;exact⟨1,1,rfl,rfl⟩
 exact⟨0,by show up [(2,1)] z=none;simp [up,h]⟩
theorem af8 {β:Bs} {B:Option Addr} {e:Nat} (hR:cE β B (bP ⟨λ_=>none,λi=>if i=0 then some ⟨e,0,none⟩ else none,λ_=>0,λi=>if i=0 then 2 else 0⟩ CV)) (h1:cU β (some ⟨e,0,none⟩) abn.aq):aO β B CV ⟨λ_=>none,λi=>if i=0 then some ⟨e,0,none⟩ else none,λ_=>0,λi=>if i=0 then 2 else 0⟩:=by
 have hn:∀{A:Option Addr},cE β A []:=λj v hj=>by simp at hj
 refine⟨hR,λi hi=>?_,λi hi=>?_⟩
 ·rcases QB hi with rfl|rfl|rfl<;>exact hn
 rcases QB hi with rfl|rfl|rfl
 ·exact h1
 ·exact hn
 exact hn
theorem ag5:kq CV 1048576:=⟨d8,λi hi=>by
 rcases QB hi with rfl|rfl|rfl
 ·refine⟨by unfold uK;decide,d8,d8,d8,λj hj=>?_⟩
  have hj:j<2:=hj
  have:j=0\/j=1:=d5
  rcases this with rfl|rfl<;>exact⟨by unfold uK;decide,d8⟩
 ·exact⟨by unfold uK;decide,d8,d8,d8,λj hj=>KB hj (N5 j)⟩
 exact⟨by unfold uK;decide,d8,d8,d8,λj hj=>KB hj (N5 j)⟩⟩
structure RlV (S:bg):Prop where
 inv:bC S
 ay:S.ay=[(1,⟨1,2⟩),(2,⟨2,2⟩),(3,⟨3,3⟩)]
 us:S.us=[]
 X:S.X=⟨9,99,9,0,0,3,2,0⟩
 o1:∃l u,ah S.O 1=⟨1,493,0,0,0,0,l,0,false,2,[],⟨#[]⟩,[(⟨#[97]⟩,⟨2,2⟩),(⟨#[115]⟩,⟨3,3⟩)],u⟩
 o2:∃l u,ah S.O 2=⟨2,493,0,0,0,0,l,0,false,2,[],⟨#[]⟩,[],u⟩
section v
variable {S:bg}
theorem afe (h:kR (Qj 99) CV CV.length 0 S):RlV S:=by
 obtain⟨l1,u1,h1⟩:=h.ob 0 d8
 obtain⟨l2,u2,h2⟩:=h.ob 1 d8
 exact⟨h.full,h.ay,h.us,h.cap,⟨l1,u1,h1⟩,⟨l2,u2,h2⟩⟩
theorem aff:bU ⟨#[97]⟩:=AB d8 d8 d8
theorem YB:bU ⟨#[98]⟩:=AB d8 d8 d8
theorem afg:bU ⟨#[115]⟩:=AB d8 d8 d8
theorem CW {af:Int} {n:Nat} {c:aN} (h:c.op≠1):br [] [] af n S c=fC S c:=by
 unfold br bY
 rw [nw h]
 rfl
theorem QC {h:Int} {name:ByteArray} {d:Nat} (ha:gH S.O S.us h name 64=.ok d) {e:Int} (hl:(match bF name (ah S.O d).aq with|none=>170|some t=>if t.kind=3 then 174 else 0)=e) (he:e≠0):fC S (jL h name)=(S,{jL h name with code:=e}):=by
 unfold fC
 rw [tW (c:={jL h name with answer:=0,code:=230}) rfl]
 unfold fZ jO
 simp only
 rw [ha]
 simp only
 cases hq:bF name (ah S.O d).aq with
 |none=>rw [hq] at hl;subst hl;rfl
 |some t=>
   rw [hq] at hl
   simp only at hl ⊢
   by_cases h3:t.kind=3
   ·rw [t8 h3] at hl
    subst hl
    rw [t8 h3]
   rw [nw h3] at hl
   exact KB hl.symm he
theorem Tk (h:RlV S):br [] [] 1 1 S (qC 1)=(S1 S,{qC 1 with answer:=1,code:=0}):=by
 have:=adj (S:=S) (c:=qC 1) (t:=⟨1,2⟩) rfl (by rw [h.ay];rfl) rfl (by rw [h.us,h.X];show (0:Int)<9;decide)
 rw [h.us] at this
 exact this
theorem abo (h:RlV S):∃S2,jt [] [] 1 448 [⟨#[97]⟩,⟨#[98]⟩] 0 (S1 S) 1 1 false 0=⟨S2,6,3,true,1,0,0⟩/\S2.ay.length=4/\jt [] [] 1 448 [⟨#[115]⟩,⟨#[120]⟩] 0 S2 6 1 false 0=⟨S2,7,0,false,0,174,0⟩:=by
 obtain⟨l1,u1,h1⟩:=h.o1
 obtain⟨l2,u2,h2⟩:=h.o2
 obtain⟨A,hA⟩:∃A,A=S1 S:=⟨_,rfl⟩
 have a1:ah A.O 1=⟨1,493,0,0,0,0,l1,1,false,2,[],⟨#[]⟩,[(⟨#[97]⟩,⟨2,2⟩),(⟨#[115]⟩,⟨3,3⟩)],u1⟩:=by rw [hA,agU,h1];rfl
 have a2:ah A.O 2=⟨2,493,0,0,0,0,l2,0,false,2,[],⟨#[]⟩,[],u2⟩:=by rw [hA];exact agV.trans h2
 have aX:A.X=⟨9,99,9,0,0,3,2,0⟩:=by rw [hA];exact h.X
 have ai:A.ay=[(1,⟨1,2⟩),(2,⟨2,2⟩),(3,⟨3,3⟩)]:=by rw [hA];exact h.ay
 have au:A.us=[(1,⟨1,2⟩)]:=by rw [hA];rfl
 rw [←hA]
 clear hA
 have e1:=J1 (S:=A) (c:=jL 1 ⟨#[97]⟩) rfl (DJ (t:=⟨1,2⟩) (by rw [au];rfl) rfl (by rw [a1]) aff (by rw [a1];exact J2)) (t:=⟨2,2⟩) (by rw [a1];rfl) rfl (by rw [au,aX];show (1:Int)<9;decide)
 rw [←CW (af:=1) (n:=2) d8,show aS A.us=2 by rw [au];rfl] at e1
 obtain⟨B,hB⟩:∃B:bg,B={A with O:=bE A.O 2 (λo=>{o with aR:=o.aR+1}),us:=ins 2 ⟨2,2⟩ A.us,aL:=max A.aL ((A.us.length:Int)+1)}:=⟨_,rfl⟩
 rw [←hB] at e1
 have b1:ah B.O 1=ah A.O 1:=by rw [hB];rfl
 have b2:ah B.O 2=⟨2,493,0,0,0,0,l2,1,false,2,[],⟨#[]⟩,[],u2⟩:=by rw [hB];show {ah A.O 2 with aR:=(ah A.O 2).aR+1}=_;rw [a2];rfl
 have bX:B.X=A.X:=by rw [hB]
 have bi:B.ay=A.ay:=by rw [hB]
 have bu:B.us=[(1,⟨1,2⟩),(2,⟨2,2⟩)]:=by rw [hB];show ins 2 ⟨2,2⟩ A.us=_;rw [au];rfl
 rw [a1] at b1;rw [aX] at bX;rw [ai] at bi
 clear hB a1 a2 aX ai au
 have gA:∀fD:Int,bits BinOp.and .i64 493 fD=fD->gH B.O B.us 2 ⟨#[98]⟩ fD=.ok 2:=λfD hn=>DJ (t:=⟨2,2⟩) (by rw [bu];rfl) rfl (by rw [b2]) YB (by rw [b2];exact hn)
 have e2:=QC (S:=B) (gA 64 J2) (e:=170) (by rw [b2];rfl) d8
 rw [←CW (af:=1) (n:=3) d8] at e2
 have e3:=aaU (S:=B) (c:=Bz 2 ⟨#[98]⟩ 448) rfl (gA 192 ae1) ⟨d8,d8⟩ (by rw [b2];rfl) ⟨by rw [bX,bi];show (3:Int)<9;decide,by rw [bX];show (3:Int)<1099511627776;decide,by rw [bX];show (2:Int)<8192;decide⟩
 rw [←CW (af:=1) (n:=4) d8] at e3
 obtain⟨C,hC⟩:∃C,C=gU B 2 ⟨#[98]⟩ (dN B.X 2 448):=⟨_,rfl⟩
 rw [←hC] at e3
 have hn:dm B.X=4:=by rw [bX];rfl
 have c1:ah C.O 1=ah B.O 1:=by
  rw [hC]
  show ah (dW B.X (bE B.O (dm B.X) (λ_=>dN B.X 2 448)) 2 ⟨#[98]⟩ ⟨dm B.X,2⟩) 1=_
  rw [hn];rfl
 have c2:ah C.O 2=⟨2,493,0,0,0,0,l2,1,false,2,[],⟨#[]⟩,[(⟨#[98]⟩,⟨4,2⟩)],u2⟩:=by
  rw [hC]
  show ah (dW B.X (bE B.O (dm B.X) (λ_=>dN B.X 2 448)) 2 ⟨#[98]⟩ ⟨dm B.X,2⟩) 2=_
  rw [hn]
  show {ah B.O 2 with aq:=kO ⟨#[98]⟩ ⟨4,2⟩ (ah B.O 2).aq,bJ:=B.X.cS,bh:=B.X.cZ}=_
  rw [b2,bX];rfl
 have cX:C.X.cH=9:=by rw [hC];show B.X.cH=9;rw [bX]
 have ci:C.ay.length=4:=by rw [hC];show (ins (B.X.last+1) ⟨dm B.X,2⟩ B.ay).length=4;rw [kK,bi];rfl
 have cu:C.us=B.us:=by rw [hC];rfl
 rw [b1] at c1;rw [bu] at cu
 clear hC b1 b2 bX bi bu gA
 have e4:=J1 (S:=C) (c:=jL 2 ⟨#[98]⟩) rfl (DJ (t:=⟨2,2⟩) (by rw [cu];rfl) rfl (by rw [c2]) YB (by rw [c2];exact J2)) (t:=⟨4,2⟩) (by rw [c2];rfl) rfl (by rw [cu,cX];show (2:Int)<9;decide)
 rw [←CW (af:=1) (n:=5) d8,show aS C.us=3 by rw [cu];rfl] at e4
 obtain⟨D,hD⟩:∃D:bg,D={C with O:=bE C.O 4 (λo=>{o with aR:=o.aR+1}),us:=ins 3 ⟨4,2⟩ C.us,aL:=max C.aL ((C.us.length:Int)+1)}:=⟨_,rfl⟩
 rw [←hD] at e4
 have d1:ah D.O 1=ah C.O 1:=by rw [hD];rfl
 have d2:ah D.O 2=ah C.O 2:=by rw [hD];rfl
 have di:D.ay.length=4:=by rw [hD];exact ci
 have du:D.us=[(1,⟨1,2⟩),(2,⟨2,2⟩),(3,⟨4,2⟩)]:=by rw [hD];show ins 3 ⟨4,2⟩ C.us=_;rw [cu];rfl
 rw [c1] at d1;rw [c2] at d2
 clear hD c1 c2 cX ci cu
 have e5:=aaV (S:=D) (c:=gS 2) (t:=⟨2,2⟩) rfl (by rw [du];rfl)
 rw [←CW (af:=1) (n:=6) d8] at e5
 obtain⟨F,hF⟩:∃F:bg,F={D with X:={D.X with used:=oU (mD D.O 2) D.X.used ⟨2,2⟩},O:=mD D.O 2,ay:=j7 (mD D.O 2) D.ay ⟨2,2⟩,us:=del 2 D.us}:=⟨_,rfl⟩
 have e5:br [] [] 1 6 D (gS 2)=(F,{gS 2 with answer:=0,code:=0}):=by rw [hF];exact e5
 have f1:ah F.O 1=ah D.O 1:=by rw [hF];rfl
 have fi:F.ay.length=4:=by
  rw [hF]
  show (j7 (mD D.O 2) D.ay ⟨2,2⟩).length=4
  rw [show j7 (mD D.O 2) D.ay ⟨2,2⟩=D.ay from nw (by
   show ¬((ah (mD D.O 2) 2).aJ=true/\_)
   rw [show ah (mD D.O 2) 2={ah D.O 2 with aR:=(ah D.O 2).aR-1} from rfl,d2]
   exact λh=>by cases h.1)]
  exact di
 have fu:F.us=[(1,⟨1,2⟩),(3,⟨4,2⟩)]:=by rw [hF];show del 2 D.us=_;rw [du];rfl
 rw [d1] at f1
 clear hF d1 d2 di du
 have e6:=QC (S:=F) (DJ (h:=1) (name:=⟨#[115]⟩) (fD:=64) (t:=⟨1,2⟩) (by rw [fu];rfl) rfl (by rw [f1]) afg (by rw [f1];exact J2)) (e:=174) (by rw [f1];rfl) d8
 rw [←CW (af:=1) (n:=7) d8] at e6
 refine⟨F,?_,fi,?_⟩
 ·have s1:=DB (mode:=448) e1 rfl
  have s2:=Ab (mode:=448) e2 (by show (170:Int)≠0;decide) (λh=>h.elim (λh=>h rfl) (λh=>KB h (by decide))) e3 (λh=>h.1 rfl) e4 rfl
  rw [wW (by rw [s1]) d8,s1]
  show jt [] [] 1 448 [⟨#[98]⟩] 1 B 2 2 true 0=_
  rw [uW (by rw [s2]) rfl (by rw [s2];show (br [] [] 1 6 D (gS 2)).2.code=0;rw [e5]),s2]
  show jt [] [] 1 448 [] 2 (br [] [] 1 6 D (gS 2)).1 6 3 true 1=_
  rw [e5]
  rfl
 have s3:=x7 (mode:=448) e6 (by show (174:Int)≠0;decide) (.inl (by show ¬(174:Int)=170;decide))
 rw [rC (by rw [s3];show (174:Int)≠0;decide),s3]
 rfl
end v
section a
variable {β:Bs} {G:WG} {fs:List cF} {xs:List cM} {af:Int} {S0:bg} {V0:WV} {yL:List aN} {A:Option Addr} {pJ:Nat} {ps:List ByteArray} {mode h:Int} {S:bg} {n:Nat} {cur made code at_:Int} {own:Bool}
abbrev YC (cur:Int) (own:Bool) (made:Int):Value:=.agg #[.int .i64 cur,.bool own,.int .i64 made]
theorem abp (hrw:(Lit.int .i64 af).wf=true) (hI:bC S0) (hn:yL.length+4*ps.length+4<=8388607) (hZ:kW β G.Z xs) (hX:gy xs 1048576) (hg:iX β) (hE:oC β) (hw:(Lit.int .i64 h).wf=true) (hP:fF β A ps) (hpl:ps.length<=1048576) (aB:∀i,i<ps.length->(pc ps i).size<=1048576) (hr:jt fs xs af mode ps 0 S0 yL.length h false 0=⟨S,n,cur,own,made,0,at_⟩) :
 bN Tryz.prog β 12 #[.agg #[.iface 37 (vP G.w)],.int .i64 h,.slice A ps.length pJ,.int .i64 mode] [wA G fs xs af S0 V0 yL] (λ_ v l=>∃(V':WV) (jA:List aN),jA.length=n/\v=.tuple #[YC cur own made,.nilIface]/\l=[wA G fs xs af S V' jA]):=
 (Gl hrw hI hZ hX hg hE h hw A pJ ps hP hpl aB hn mode hr).mono (by
  rintro β' v l _ ⟨V',jA,h1,_,⟨_,h2,h3⟩|⟨h2,_⟩⟩
  ·exact⟨V',jA,h1,h2,h3⟩
  exact KB rfl h2)
theorem abq (hrw:(Lit.int .i64 af).wf=true) (hI:bC S0) (hn:yL.length+4*ps.length+4<=8388607) (hZ:kW β G.Z xs) (hX:gy xs 1048576) (hg:iX β) (hE:oC β) (hw:(Lit.int .i64 h).wf=true) (hP:fF β A ps) (hpl:ps.length<=1048576) (aB:∀i,i<ps.length->(pc ps i).size<=1048576) (hr:jt fs xs af mode ps 0 S0 yL.length h false 0=⟨S,n,cur,own,made,code,at_⟩) (hc:¬code=0) :
 bN Tryz.prog β 12 #[.agg #[.iface 37 (vP G.w)],.int .i64 h,.slice A ps.length pJ,.int .i64 mode] [wA G fs xs af S0 V0 yL] (λ_ v l=>∃(V':WV) (jA:List aN) (e:Nat) (nm:ByteArray),jA.length=n/\v=.tuple #[YC 0 false made,.iface 112 (vP e)]/\l=[wA G fs xs af S V' jA,.aD e [.int .i64 at_,.string nm,.int .i64 code] 114]):=
 (Gl hrw hI hZ hX hg hE h hw A pJ ps hP hpl aB hn mode hr).mono (by
  rintro β' v l _ ⟨V',jA,h1,_,⟨h2,_⟩|⟨_,e,nm,h2,h3⟩⟩
  ·exact KB h2 hc
  exact⟨V',jA,e,nm,h1,h2,h3⟩)
theorem afh:fL (Qj 99) CV 1=0:=DM afd af7 (i:=0) ⟨d8,rfl,λq h=>KB h (N5 q)⟩ rfl
theorem QD {ps:List ByteArray} {i:Nat} (h1:i<ps.length) (h2:ps=[⟨#[97]⟩,⟨#[98]⟩]\/ps=[⟨#[115]⟩,⟨#[120]⟩]):(pc ps i).size<=1048576:=by
 have h3:i<2:=by rcases h2 with rfl|rfl<;>exact h1
 have:i=0\/i=1:=d5
 rcases h2 with rfl|rfl<;>rcases this with rfl|rfl<;>decide
theorem afi {β:Bs}:cE β none (dL jr []):=λj v hj=>by simp [dL,fV] at hj
theorem afj {β:Bs}:cE β none (dL kg []):=λj v hj=>by simp [dL,fV] at hj
theorem af9 {X:FM} {ns:List aP} (h:kR X ns ns.length 0 S):(S1 S).aL<=3:=by
 show max S.aL 1<=3
 rw [h.aL];decide
end a
end
section
open Go.RowKit Go.Maps bw aI
attribute [local irreducible] aE bH ax aF
theorem Rq {β:Bs}:bN Tryz.prog β 25 #[] [] (λβ' v l=>∃B Y,v=.agg #[.slice B 3 3,vI 1,vI 9,vI 99,vI 9,vI 0,vI 0,.slice none 0 0,.slice none 0 0]/\l=[]/\aO β' B CV Y):=by
 refine mK Tryz.func25 Tryz.ntmps25 (λaH R=>SR (jB 1 [0] (λb1=>.aD b1 [.slice none (0) (0),vI 0,vI 0,vI 0,vI 0,vI 0,vI 0,.slice none (0) (0),.slice none (0) (0)] 34) (λb1=>NS (jB 6 [5,6,7] (λb2=>.aD b2 [.string ⟨#[97]⟩,vI 2,.string ⟨#[115]⟩,vI 3] 126) (λb2=>jB 2 [9] (λb3=>.aD b3 [vI 1,vI 2,vI 493,vI 0,vI 0,vI 0,vI 0,.slice none (0) (0),.string ⟨#[]⟩,.slice (some ⟨b2,0,none⟩) (2) (2),vI 2,vI 2,vI 493,vI 0,vI 0,vI 0,vI 0,.slice none (0) (0),.string ⟨#[]⟩,.slice none (0) (0),vI 3,vI 3,vI 0,vI 0,vI 0,vI 0,vI 0,.slice none (0) (0),.string ⟨#[97]⟩,.slice none (0) (0)] 102) (λb3=>jN 2 [1] (λb4=>[(1,a_ 4 b4)]) (λ_=>[]) (λb4=>.aD b4 [.slice (some ⟨b3,0,none⟩) (3) (3)] 24) (λb4=>NS (aE.mem (λw hS=>hS.oo (i:=2) (b:=b2) (cs:=[.string ⟨#[97]⟩,vI 2,.string ⟨#[115]⟩,vI 3]) (e:=126) 2 2 d6 rfl d8) (aE.mA (Φ:=λβ'=>cU β' (some ⟨b2,0,none⟩) abn.aq) 2 [0,1,3,4] (fY:=[.abs R,.aD b1 [.slice none (0) (0),vI 0,vI 0,vI 0,vI 0,vI 0,vI 0,.slice none (0) (0),.slice none (0) (0)] 34,.aD b3 [vI 1,vI 2,vI 493,vI 0,vI 0,vI 0,vI 0,.slice none (0) (0),.string ⟨#[]⟩,.slice (some ⟨b2,0,none⟩) (2) (2),vI 2,vI 2,vI 493,vI 0,vI 0,vI 0,vI 0,.slice none (0) (0),.string ⟨#[]⟩,.slice none (0) (0),vI 3,vI 3,vI 0,vI 0,vI 0,vI 0,vI 0,.slice none (0) (0),.string ⟨#[97]⟩,.slice none (0) (0)] 102,.aD b4 [.slice (some ⟨b3,0,none⟩) (3) (3)] 24]) rfl rfl d6 (λF w h β' h1 h2=>cE.iD h h1 h2) (λE7 iP hE=>?_))))))))))
 replace aH:=aH.trans iP
 refine aE.mem (λw hS=>hS.oo (i:=2) (b:=b3) (cs:=[vI 1,vI 2,vI 493,vI 0,vI 0,vI 0,vI 0,.slice none (0) (0),.string ⟨#[]⟩,.slice (some ⟨b2,0,none⟩) (2) (2),vI 2,vI 2,vI 493,vI 0,vI 0,vI 0,vI 0,.slice none (0) (0),.string ⟨#[]⟩,.slice none (0) (0),vI 3,vI 3,vI 0,vI 0,vI 0,vI 0,vI 0,.slice none (0) (0),.string ⟨#[97]⟩,.slice none (0) (0)]) (e:=102) 10 3 d6 rfl d8) (aE.mA (Φ:=λβ'=>cE β' (some ⟨b3,0,none⟩) (bP ⟨λ_=>none,λi=>if i=0 then some ⟨b2,0,none⟩ else none,λ_=>0,λi=>if i=0 then 2 else 0⟩ CV)) 2 [0,1,3] (fY:=[.abs R,.aD b1 [.slice none (0) (0),vI 0,vI 0,vI 0,vI 0,vI 0,vI 0,.slice none (0) (0),.slice none (0) (0)] 34,.aD b4 [.slice (some ⟨b3,0,none⟩) (3) (3)] 24]) rfl rfl d6 (λF w h β' h1 h2=>cE.iD h h1 h2) (λCN iw hR=>?_))
 replace hE:=hE.le iw
 replace aH:=aH.trans iw
 exact jC 4 [] [(0,a_ 2 b4),(3,A_ 1 b1 9)] [(1,[(0,.slice (some ⟨b3,0,none⟩) (3) (3)),(1,vI 1),(2,vI 9),(3,vI 99),(4,vI 9)])] (eO (l:=[]) (v:=(.agg #[.slice (some ⟨b3,0,none⟩) (3) (3),vI 1,vI 9,vI 99,vI 9,vI 0,vI 0,.slice none (0) (0),.slice none (0) (0)])) [A_ 1 b1 9] aH ⟨_,_,rfl,rfl,af8 hR hE⟩)
theorem Vq {β:Bs} (hg:iX β) (hE:oC β):bN Tryz.prog β 5 #[] [] (λ_ v l=>v=.bool true/\l=[]):=by
 refine mK Tryz.func5 Tryz.ntmps5 (λaH R=>SR (jK 1 [] [] (NS (iK [] (Rq) ?_))))
 rintro Ay _ _ d9 ⟨B,Y,rfl,rfl,hG⟩
 replace hg:=hg.le d9
 replace hE:=hE.le d9
 replace aH:=aH.trans d9
 refine iK [] (J7 (β:=Ay) (X:=Qj 99) afh B 3 _ hG ag5 none 0 [] afi ⟨d8,λa ha=>by cases ha⟩ none 0 [] afj Nh) ?_
 rintro D5 _ _ jD ⟨N,G,V,rfl,rfl,om⟩
 replace hg:=hg.le jD
 replace hE:=hE.le jD
 replace hG:=hG.le jD
 replace aH:=aH.trans jD
 refine jK 5 [1,2] [] (NN (ax.seq (SR (jK 6 [19] [] (NN (CF (ax.skip (NX (SR (jK 4 [24] [(3,p_ ⟨[.view 0 (.iface 37 (vP G.w))],none,none,none,none⟩ [(∀F w,(gq (wP G ([]) ([]) 1 N.1 V ([]))).h F w->w.cell? ⟨G.w,0,none⟩=some (.iface 37 (vP G.w)))] ⟨BR,trivial⟩)] ?_))))))))))
 have hv:=afe N.2
 obtain⟨S2,w1,wi,w2⟩:=abo hv
 have dw:bC (S1 N.1):=by have h:=bC.br (fs:=[]) (xs:=[]) (af:=1) (n:=1) (c:=qC 1) hv.inv;rw [Tk hv] at h;exact h
 have Tj:Held (S1 N.1) 1 false:=⟨dw,rfl,λh=>KB h Bool.false_ne_true,af9 N.2⟩
 have D9:=Fw (mode:=448) (fs:=[]) (xs:=[]) (af:=1) (h0:=1) (n0:=1) (len:=2) [⟨#[97]⟩,⟨#[98]⟩] 0 (S1 N.1) 1 1 false 0 Tj d8 d8 (λ_=>rfl) (λh=>KB h Bool.false_ne_true) (λ_=>⟨rfl,rfl,rfl⟩)
 rw [w1] at D9
 have yG:bC S2:=D9.inv
 refine iK [0] (Qt (β:=D5) (G:=G) (fs:=[]) (xs:=[]) (af:=1) (S:=N.1) (V:=V) (tr:=[]) (S2:=(S1 N.1)) (c2:={qC 1 with answer:=1,code:=0}) d8 hv.inv d8 om Nh hg 1 d8 (Tk hv)) ?_
 rintro β9 _ _ ny ⟨V2,CU,rfl,rfl,ack,_⟩
 replace hg:=hg.le ny
 replace hE:=hE.le ny
 replace hG:=hG.le ny
 replace om:=om.le ny
 replace aH:=aH.trans ny
 refine jK 5 [3] [] (NS (jN 6 [32,33,34] (λb10=>[(3,p_ ⟨[.view 0 (.iface 37 (vP G.w))],none,none,none,none⟩ [(∀F w,(gq (wP G ([]) ([]) 1 (S1 N.1) V2 CU)).h F w->w.cell? ⟨G.w,0,none⟩=some (.iface 37 (vP G.w)))] ⟨BR,trivial⟩)]) (λ_=>[]) (λb10=>.aD b10 [.string ⟨#[97]⟩,.string ⟨#[98]⟩] 9) (λb10=>aE.mem (λw hS=>hS.oo (i:=2) (b:=b10) (cs:=[.string ⟨#[97]⟩,.string ⟨#[98]⟩]) (e:=9) 1 2 d6 rfl d8) (aE.mA (Φ:=λβ'=>fF β' (some ⟨b10,0,none⟩) [(⟨#[97]⟩:ByteArray),⟨#[98]⟩]) 2 [0,1] (fY:=[wA G ([]) ([]) 1 (S1 N.1) V2 CU,.abs R]) rfl rfl d6 (λF w h β' h1 h2=>cE.iD h h1 h2) (λuy j4 vV=>?_)))))
 replace hg:=hg.le j4
 replace hE:=hE.le j4
 replace hG:=hG.le j4
 replace om:=om.le j4
 replace aH:=aH.trans j4
 have w1x:jt [] [] 1 448 [(⟨#[97]⟩:ByteArray),⟨#[98]⟩] 0 (S1 N.1) CU.length 1 false 0=⟨S2,6,3,true,1,0,0⟩:=by rw [ack];exact w1
 refine iK [0] (abp (β:=uy) (pJ:=2) (G:=G) (af:=1) (h:=1) (fs:=[]) (xs:=[]) (V0:=V2) (yL:=CU) d8 dw (by rw [ack];decide) om Nh hg hE d8 vV d8 (λi hi=>QD hi (.inl rfl)) w1x) ?_
 rintro Il _ _ kS ⟨V3,Fv,acn,rfl,rfl⟩
 replace hg:=hg.le kS
 replace hE:=hE.le kS
 replace hG:=hG.le kS
 replace om:=om.le kS
 replace vV:=vV.le kS
 replace aH:=aH.trans kS
 refine jN 6 [5,6] (λb13=>[(4,A_ 2 b13 3)]) (λ_=>[]) (λb13=>.aD b13 [vI (3),.bool true,vI (1)] 72) (λb13=>NN (ax.seq (SR (jK 14 [50,51] [(4,a_ 2 b13),(5,p_ ⟨[],none,none,none,some (.bool false)⟩ [(Value.bool (!decide ((1:Int)=(1:Int))))=(.bool false)] ⟨nh,trivial⟩),(9,a_ 2 b13)] (iK [0] (Vi (β:=Il) (G:=G) (fs:=[]) (xs:=[]) (af:=1) (S:=S2) (V:=V3) (tr:=Fv) yG) ?_)))))
 rintro E6 _ _ j3 ⟨A4,c4,K4,rfl,rfl,_⟩
 replace hg:=hg.le j3
 replace hE:=hE.le j3
 replace hG:=hG.le j3
 replace om:=om.le j3
 replace vV:=vV.le j3
 replace aH:=aH.trans j3
 refine jK 4 [56] [(1,p_ ⟨[],none,none,none,some (vI (((4:Nat):Int)))⟩ [((.int .i64 ↑((aV S2).length):Value))=(.int .i64 (((4:Nat):Int)))] ⟨by rw [iF,wi],trivial⟩),(2,p_ ⟨[],none,none,none,some (.bool false)⟩ [((.bool (!(decide ((((4:Nat):Int):Int)=(4:Int)))):Value))=(.bool false)] ⟨rfl,trivial⟩)] (NN (CF (KX (SR (jN 6 [61,62,63] (λb15=>[(3,p_ ⟨[.view 0 (.iface 37 (vP G.w))],none,none,none,none⟩ [(∀F w,(gq (wP G ([]) ([]) 1 S2 V3 Fv)).h F w->w.cell? ⟨G.w,0,none⟩=some (.iface 37 (vP G.w)))] ⟨BR,trivial⟩)]) (λ_=>[]) (λb15=>.aD b15 [.string ⟨#[115]⟩,.string ⟨#[120]⟩] 9) (λb15=>aE.mem (λw hS=>hS.oo (i:=3) (b:=b15) (cs:=[.string ⟨#[115]⟩,.string ⟨#[120]⟩]) (e:=9) 1 2 d6 rfl d8) (aE.mA (Φ:=λβ'=>fF β' (some ⟨b15,0,none⟩) [(⟨#[115]⟩:ByteArray),⟨#[120]⟩]) 3 [0,1,2] (fY:=[wA G ([]) ([]) 1 S2 V3 Fv,.abs R,.aD b13 [vI (3),.bool true,vI (1)] 72]) rfl rfl d6 (λF w h β' h1 h2=>cE.iD h h1 h2) (λK5 nT QE=>?_))))))))
 replace hg:=hg.le nT
 replace hE:=hE.le nT
 replace hG:=hG.le nT
 replace om:=om.le nT
 replace vV:=vV.le nT
 replace aH:=aH.trans nT
 have w2x:jt [] [] 1 448 [(⟨#[115]⟩:ByteArray),⟨#[120]⟩] 0 S2 Fv.length 1 false 0=⟨S2,7,0,false,0,174,0⟩:=by rw [acn];exact w2
 refine iK [0] (abq (β:=K5) (pJ:=2) (G:=G) (af:=1) (h:=1) (fs:=[]) (xs:=[]) (V0:=V3) (yL:=Fv) d8 yG (by rw [acn];decide) om Nh hg hE d8 QE d8 (λi hi=>QD hi (.inr rfl)) w2x d8) ?_
 rintro UW _ _ mY ⟨V4,tr4,e,nm,ahr,rfl,rfl⟩
 replace hg:=hg.le mY
 replace hE:=hE.le mY
 replace hG:=hG.le mY
 replace om:=om.le mY
 replace vV:=vV.le mY
 replace QE:=QE.le mY
 replace aH:=aH.trans mY
 exact jK 4 [6] [] (NS (jK 1 [68] [] (gE [1] (D8 hE e 0 nm 174) (jK 5 [7,8] [] (NS (jK 11 [0] [] (eO (v:=(.bool true)) [] aH ⟨rfl,rfl⟩ [2])))))))
end
section
open Go.RowKit
section y
variable {P:Program} {β MO:Bs} {N:fN} {ops:Array Oper} {S:List HP} {l l':List (Bool×Nat)} {fr bQ:Fr} {aB:List HP} {Q:Post} {i:Nat} {eV:List Prop}
def AO (P:Program) (ops:Array Oper) (Q:Post) (R S:World->Prop):List (Bool×Nat)->Act->World->Prop
 |[],a,w=>Q .normal a w
 |(false,i)::l,a,w=>wpOp P ops Q i (λa' w'=>(l=[]\/S w')/\AO P ops Q R S l a' w') a w
 |(true,i)::l,a,w=>∃o v,ops[i]?=some o/\YieldsIf P ops R o v a/\AO P ops Q R S l (a.put o.dst v) w
theorem Ix {R S:World->Prop} (hs:∀w,S w->R w):∀(l:List (Bool×Nat)) (a:Act) (w:World),AO P ops Q R S l a w->kG P ops Q S l a w
 |[],_,_,h=>h
 |(false,i)::l,a,w,h=>by
   unfold AO at h;unfold kG
   exact wpOp_mono (λa' w' h'=>⟨h'.1,Ix hs l a' w' h'.2⟩) h
 |(true,i)::l,a,w,h=>by
   unfold AO at h;unfold kG
   obtain⟨o,v,h1,h2,h3⟩:=h
   exact⟨o,v,h1,h2.imp (λq=>⟨q.1,λw hw=>q.2 w (hs w hw)⟩) id,Ix hs l _ w h3⟩
def Bs.bare (β:Bs):Bs:=⟨λ_=>False,β.w0⟩
theorem aQ.bare {w:World} (h:aQ β S w):aQ β.bare [] w:=by
 obtain⟨ho,_⟩:=h
 exact⟨⟨ho.os,ho.tape,ho.output,ho.size,λk hk=>hk.elim⟩,λ_ _=>False,λi p h=>KB h (by simp),λi hi=>KB hi (N5 i),λi j hi=>KB hi (N5 i)⟩
def Grown (a b:Bs):Prop:=a=b\/a.le b
def Li (P:Program) (β MO:Bs) (N:fN) (ops:Array Oper) (S:List HP) (l:List (Bool×Nat)) (fr:Fr) (aB:List HP) (Q:Post):Prop:=
 ∀av w,aQ β aB w->AO P ops (NP Q) (aQ MO.bare []) (aQ MO S) l (fw N fr av) w
theorem eu.toH (K:Li P β β N ops S l fr aB Q):eu P β N ops S l fr aB Q:=λav w hS=>Ix (λ_ h=>h.bare) _ _ _ (K av w hS)
theorem Li.last (hg:gB ops i=true) (h:aE P β N (lD ops i) i fr aB (NP Q)):Li P β MO N ops S [(false,i)] fr aB Q:=by
 grind [AO,vr,sQ,gB,aE,lD,NP,Li]
end y
end
section
open Go.RowKit Go.Maps bw aI
def vW (G:WG):eG where
 h F w:=∃fs xs af S V tr,(gq (wP G fs xs af S V tr)).h F w
 lt:=λ⟨_,_,_,_,_,_,h⟩=>eG.lt _ h
 st:=λ⟨fs,xs,af,S,V,tr,h⟩ _ _ hk hd=>⟨fs,xs,af,S,V,tr,eG.st _ h hk hd⟩
theorem yw {G:WG}:∀F w,(vW G).h F w->w.cell? ⟨G.w,0,none⟩=some (.iface 37 (vP G.w)):=by
 rintro F w ⟨fs,xs,af,S,V,tr,h⟩
 exact BR F w h
theorem aQ.Tl {β:Bs} {l:List HP} {w:World} {i:Nat} {G:WG} {fs:List cF} {xs:List cM} {af:Int} {S:bg} {V:WV} {tr:List aN} (h:aQ β l w) (hp:l[i]?=some (wA G fs xs af S V tr)):aQ β (l.set i (.abs (vW G))) w:=by
 refine h.set hp (λF hF=>⟨F,⟨fs,xs,af,S,V,tr,hF⟩,?_⟩)
 exact Step.refl _ _
theorem aQ.emb {β:Bs} {l l':List HP} {w:World} (f:Nat->Nat) (h:aQ β l w) (hf:∀k p,l'[k]?=some p->l[f k]?=some p) (hi:∀a b,a<l'.length->b<l'.length->f a=f b->a=b):aQ β l' w:=by
 obtain⟨ho,φ,h1,h2,h3⟩:=h
 have key:∀k,k<l'.length->f k<l.length:=λk hk=>by
  obtain⟨p,hp⟩:=lg hk
  exact dG (hf k p hp)
 exact⟨ho,λk=>φ (f k),λk p hp=>h1 _ p (hf k p hp),λk hk=>h2 _ (key k hk),λa b ha hb cG=>h3 _ _ (key a ha) (key b hb) (λe=>cG (hi a b ha hb e))⟩
def Vr (G:WG) (l:List HP):Prop:=∃(i:Nat) (fs:List cF) (xs:List cM) (af:Int) (S:bg) (V:WV) (tr:List aN),l[i]?=some (wA G fs xs af S V tr)
theorem Vs {G:WG} {l:List HP} (i:Nat) {fs:List cF} {xs:List cM} {af:Int} {S:bg} {V:WV} {tr:List aN} (h:l[i]?=some (wA G fs xs af S V tr)):Vr G l:=⟨i,fs,xs,af,S,V,tr,h⟩
theorem YD {β:Bs} {G:WG} {Z S1:List HP} {pS:List Nat} (hn:bS pS=true) (hp:cR Z pS=some S1) (h X:List HP) (w:World) (hw:Vr G h) (hS:aQ β (h++(X++Z)) w):aQ β (S1++[.abs (vW G)]) w:=by
 obtain⟨i,fs,xs,af,S,V,tr,hi⟩:=hw
 have hil:=dG hi
 have h1:=hS.Tl (i:=i) (G:=G) (fs:=fs) (xs:=xs) (af:=af) (S:=S) (V:=V) (tr:=tr) (by rw [ais hil];exact hi)
 rw [List.set_append_left _ _ hil] at h1
 obtain⟨hl,hx⟩:=CY hp
 have hnd:=aiv.1 (BS hn)
 have hz:∀k,k<S1.length->∃p m,S1[k]?=some p/\pS[k]?=some m/\Z[m]?=some p:=λk hk=>by
  obtain⟨p,hp⟩:=lg hk
  obtain⟨m,h2,h3⟩:=hx k p hp
  exact⟨p,m,hp,h2,h3⟩
 refine aQ.emb (λk=>if k<S1.length then h.length+X.length+pS.getD k 0 else i) h1 (λk p hk=>?_) (λa b ha hb e=>?_)
 ·by_cases hk1:k<S1.length
  ·obtain⟨p2,m,h2,h3,h4⟩:=hz k hk1
   rw [ais hk1,h2] at hk
   injection hk with hk
   subst hk
   simp only [t8 hk1]
   rw [ah3,h3,aip (by rw [T7];omega),T7,aip d5]
   show Z[h.length+X.length+m-h.length-X.length]?=_
   rw [show h.length+X.length+m-h.length-X.length=m by omega]
   exact h4
  rw [aip d5] at hk
  have:k-S1.length=0:=by
   have:=dG hk
   simp at this
   omega
  rw [this] at hk
  injection hk with hk
  subst hk
  simp only [nw hk1]
  rw [ais (by rw [T7];exact hil),aiE hil]
 simp only [T3,air] at ha hb
 have fT:∀k,k<S1.length->h.length+X.length+pS.getD k 0≠i:=λk hk q=>d5
 by_cases h1:a<S1.length<;>by_cases h2:b<S1.length
 ·simp only [t8 h1,t8 h2] at e
  have ga:pS.getD a 0=pS[a]'d5:=by rw [ah3,T6 d5];rfl
  have gb:pS.getD b 0=pS[b]'d5:=by rw [ah3,T6 d5];rfl
  rcases ail a b with q|q|q
  ·exact KB (by rw [←ga,←gb];omega) (hnd a b d5 d5 q)
  ·exact q
  exact KB (by rw [←ga,←gb];omega) (hnd b a d5 d5 q)
 ·simp only [t8 h1,nw h2] at e;exact KB e (fT a h1)
 ·simp only [nw h1,t8 h2] at e;exact KB e.symm (fT b h2)
 omega
section w
variable {β:Bs} {G:WG} {fs:List cF} {xs:List cM} {af:Int} {S:bg} {V:WV} {tr:List aN} {n:Nat} {h:Int} {r:L9} {A:Option Addr} {pJ:Nat} {ps:List ByteArray} {mode:Int}
theorem Vt (hc:r.code=0) (hrw:(Lit.int .i64 af).wf=true) (hI:bC S) (hn:tr.length=n) (hn2:n+4*ps.length+4<=8388607) (hZ:kW β G.Z xs) (hX:gy xs 1048576) (hg:iX β) (hE:oC β) (hw:(Lit.int .i64 h).wf=true) (hP:fF β A ps) (hpl:ps.length<=1048576) (aB:∀i,i<ps.length->(pc ps i).size<=1048576) (hr:jt fs xs af mode ps 0 S n h false 0=r) :
 aW Tryz.prog β 12 (DS G h A ps.length pJ mode) [wA G fs xs af S V tr] (λv l=>∃(V':WV) (q:{l:List aN // l.length=r.n/\oA fs xs af tr S l r.S}),v=.tuple #[.agg #[.int .i64 r.cur,.bool r.own,.int .i64 r.made],.nilIface]/\l=[wA G fs xs af r.S V' q.1]):=
 (YA hc hrw hI hn hn2 hZ hX hg hE hw hP hpl aB hr).OX
theorem Rs (hc:¬r.code=0) (hrw:(Lit.int .i64 af).wf=true) (hI:bC S) (hn:tr.length=n) (hn2:n+4*ps.length+4<=8388607) (hZ:kW β G.Z xs) (hX:gy xs 1048576) (hg:iX β) (hE:oC β) (hw:(Lit.int .i64 h).wf=true) (hP:fF β A ps) (hpl:ps.length<=1048576) (aB:∀i,i<ps.length->(pc ps i).size<=1048576) (hr:jt fs xs af mode ps 0 S n h false 0=r) :
 aW Tryz.prog β 12 (DS G h A ps.length pJ mode) [wA G fs xs af S V tr] (λv l=>∃(V':WV) (q:{l:List aN // l.length=r.n/\oA fs xs af tr S l r.S}) (e:Nat) (nm:ByteArray),v=.tuple #[.agg #[.int .i64 0,.bool false,.int .i64 r.made],.iface 112 (vP e)]/\l=[wA G fs xs af r.S V' q.1,.aD e [.int .i64 r.at_,.string nm,.int .i64 r.code] 114]):=
 (Vp hc hrw hI hn hn2 hZ hX hg hE hw hP hpl aB hr).OX
end w
section rules
variable {P:Program} {β MO:Bs} {N:fN} {ops:Array Oper} {S:List HP} {l:List (Bool×Nat)} {fr:Fr} {aB:List HP} {Q:Post} {i:Nat}
theorem ax.Rt {id:Nat} (l:List (Bool×Nat)) (hm:P.follows .mixedOrders=true) (hB:Cs ops l=true) (hp:∀w,aQ β aB w->aQ β S w) (h:eu P β N ops S l fr aB Q):ax P β N (.region id ops true) fr aB Q:=by
 intro av w hS
 unfold Cs at hB
 simp only [ahU,aiw] at hB
 obtain⟨⟨⟨h1,h2⟩,h3⟩,h4⟩:=hB
 have iA:=hS.drewN 1
 have h5:=zu (Q:=Q) h1 h2 l _ _ _ h4 (λj oj _ hl=>by simp [Array.getD_eq_getD_getElem?,Array.getElem?_replicate] at hl;split at hl<;>simp at hl) (.inr (hp _ iA)) (h av (w.drewN 1) iA)
 rw [h3] at h5
 refine ait (λe a w q=>?_) (wp_region_any hm (sM _ _ _ _ h5))
 cases e with
 |normal=>exact q
 |exit id=>exact q.elim
 |goto l=>exact q.elim
 |ret=>exact q.elim
 |panic ch=>exact q.elim
 |outgrown=>exact q.elim
theorem eu.afk {ι:Type} {bQ:ι->Fr} {dz:ι->List HP} (hg:gB ops i=true) (h:aE P β N (lD ops i) i fr aB (NP (Ef β N bQ dz))) (hp:∀j w,aQ β (dz j) w->aQ β S w)
 (K:∀j,eu P β N ops S l (bQ j) (dz j) Q):eu P β N ops S ((false,i)::l) fr aB Q:=by
 intro av w hS
 unfold kG
 refine vr hg (sQ (Q':=_) (λa w ⟨j,oR,ha,iA⟩=>?_) _ (h av w hS))
 subst ha
 exact⟨.inr (hp j _ iA),K j oR w iA⟩
end rules
section q
variable {fs:List cF} {xs:List cM} {af:Int} {S S2:bg} {c2:aN} {n:Nat} {mode:Int}
theorem YE:br fs xs af n S (qC 0)=br fs xs af n S (qC af):=by
 rw [←G7 (c:=qC 0),show bY af (qC 0)=qC af from t8 rfl]
theorem abr (hu:S.us=[]) (e:br fs xs af n S (qC af)=(S2,c2)):(Lit.int .i64 c2.answer).wf=true:=by
 have qU:=(z8 (af:=af) (S:=S) (xs:=dh xs n)).1
 unfold br at e
 rw [show bY af (qC af)=qC af from rfl] at e
 unfold dZ at e
 split at e
 ·cases e;rfl
 split at e
 ·cases e;rfl
 split at e
 ·rename_i q;exact KB q.2.1 (by show (1:Int)≠9;decide)
 obtain⟨A,hA⟩:∃A,A=jb af S (dh xs n):=⟨_,rfl⟩
 rw [←hA] at e qU
 unfold fC at e
 rw [vD (c:={qC af with answer:=0,code:=230}) rfl] at e
 unfold kI at e
 split at e
 ·cases e;rfl
 split at e
 ·by_cases hl:(A.us.length:Int)<A.X.cH
  ·rw [mB hl] at e
   cases e
   show (Lit.int .i64 (aS A.us)).wf=true
   rw [qU,hu]
   rfl
  rw [og hl] at e;cases e;rfl
 cases e;rfl
theorem DT:∀(ps:List ByteArray) (i:Int) (S:bg) (n:Nat) (cur:Int) (own:Bool) (made:Int),((jt fs xs af mode ps i S n cur own made).code=0->(jt fs xs af mode ps i S n cur own made).at_=0)/\(¬(jt fs xs af mode ps i S n cur own made).code=0->(jt fs xs af mode ps i S n cur own made).cur=0/\(jt fs xs af mode ps i S n cur own made).own=false)
 |[],_,_,_,_,_,_=>⟨λ_=>rfl,λh=>KB rfl h⟩
 |p::r,i,S,n,cur,own,made=>by
   have hf:∀(S':bg) (m:Nat) (c:Int) (o:Bool) (d e j:Int),¬e=0->((mF fs xs af S' m c o d e j).code=0->(mF fs xs af S' m c o d e j).at_=0)/\(¬(mF fs xs af S' m c o d e j).code=0->(mF fs xs af S' m c o d e j).cur=0/\(mF fs xs af S' m c o d e j).own=false):=by
    intro S' m c o d e j h
    unfold mF
    split
    ·exact⟨λq=>KB q h,λ_=>⟨rfl,rfl⟩⟩
    exact⟨λq=>KB q h,λ_=>⟨rfl,rfl⟩⟩
   by_cases h1:(dI fs xs af S n cur p mode).code=0
   ·by_cases h2:own=true
    ·by_cases h3:(br fs xs af ((dI fs xs af S n cur p mode).n+1) (dI fs xs af S n cur p mode).S (gS cur)).2.code=0
     ·rw [uW h1 h2 h3]
      exact DT r _ _ _ _ _ _
     rw [vM h1 h2 h3]
     exact hf _ _ _ _ _ _ _ h3
    rw [wW h1 h2]
    exact DT r _ _ _ _ _ _
   rw [rC h1]
   exact hf _ _ _ _ _ _ _ h1
end q
end
section
open Go.RowKit Go.Maps
structure vX where
 A:Option Addr
 cp:Nat
 ps:List ByteArray
 mode:Int
 far:Bool
instance:Inhabited vX:=⟨⟨none,0,[],0,false⟩⟩
def way (ws:List vX) (i:Nat):vX:=ws.getD i default
def Vu (w:vX):List Value:=[.slice w.A w.ps.length w.cp,.int .i64 w.mode,.bool w.far]
def Lj (f:Nat->Nat):Nat->Nat
 |0=>0
 |n+1=>Lj f n+f n
theorem ads {f:Nat->Nat} {i n:Nat} (h:i<=n):Lj f i<=Lj f n:=by
 induction n with
 |zero=>have:i=0:=d5
        subst this;exact N6 _
 |succ n ih=>
   rcases Nat.lt_or_ge n i with q|q
   ·have:i=n+1:=d5
    subst this;exact N6 _
   exact Pd (ih q) (Nat.le_add_right _ _)
def AP (ws:List vX) (n:Nat):Nat:=Lj (λi=>(way ws i).ps.length) n
theorem Cm {ws:List vX} {i:Nat}:AP ws (i+1)=AP ws i+(way ws i).ps.length:=rfl
theorem YF {ws:List vX} {i n:Nat} (h:i<=n):AP ws i<=AP ws n:=ads h
structure ag6 (β:Bs) (w:vX):Prop where
 row:fF β w.A w.ps
 size:∀i,i<w.ps.length->(pc w.ps i).size<=1048576
structure iZ (β:Bs) (A:Option Addr) (ws:List vX):Prop where
 row:cE β A (dL Vu ws)
 q:∀i,i<ws.length->ag6 β (way ws i)
 sum:AP ws ws.length<=1048576
section s
variable {β β':Bs} {A:Option Addr} {i j n:Nat} {v:Value} {ws:List vX}
theorem iZ.le (h:iZ β A ws) (g:β.le β'):iZ β' A ws:=⟨h.row.le g,λi hi=>⟨(h.q i hi).row.le g,(h.q i hi).size⟩,h.sum⟩
theorem Tm (h:i<ws.length):ws[i]?=some (way ws i):=getD_some h
theorem iZ.hd (h:iZ β A ws) (hi:i<ws.length):A=some ⟨cC A,cq A,none⟩:=(R7 (s:=3) (j:=0) h.row (λ_=>rfl) (Tm hi) rfl).1
theorem iZ.rd (h:iZ β A ws) (hi:i<ws.length) (hv:(Vu (way ws i))[j]?=some v):Rd β ⟨cC A,cq A+i*3+j,none⟩ v:=(R7 h.row (λ_=>rfl) (Tm hi) hv).2
theorem iZ.tot (h:iZ β A ws) (hi:i<n) (hn:n<=ws.length):AP ws i+(way ws i).ps.length<=1048576:=Pd (Cm (ws:=ws) (i:=i) ▸ YF d5) h.sum
end s
end
section
open Go.RowKit Go.Maps bw aI
attribute [local irreducible] aE bH ax aF eu Li lK
theorem law_resolveWalks (W:World) (A:Option Addr) (c:Nat) (ns:List aP) (Y:fk) (hG:aO (B0 W) A ns Y) (hB:kq ns 1048576) (X:FM) (af:Int) (Af:Option Addr) (cf:Nat) (fs:List cF) (hF:cE (B0 W) Af (dL jr fs)) (oM:lI fs 1048576) (Aa:Option Addr) (ca:Nat) (xs:List cM) (hA:cE (B0 W) Aa (dL kg xs)) (gA:gy xs 1048576) (hrw:(Lit.int .i64 af).wf=true) (A1:Option Addr) (c1:Nat) (ws:List vX) (hS:iZ (B0 W) A1 ws) (hxc:ws.length<=c1) (hg:iX (B0 W)) (hE:oC (B0 W)) :
 aW Tryz.prog (B0 W) 3 #[.agg #[.slice A (ns.length) (c),vI (af),vI (X.cN),vI (X.cB),vI (X.cH),vI (X.cS),vI (X.cZ),.slice Af (fs.length) (cf),.slice Aa (xs.length) (ca)],.slice A1 (ws.length) (c1)] [] (λv _=>v=.bool true):=by
 have aH:=B0.refl W
 have hfl:=oM.len
 have hxn:=gA.len
 refine SE Tryz.func3 Tryz.ntmps3 (λR=>SR (jB 2 [2] (λb1=>.aD b1 [.slice A (ns.length) (c),vI (af),vI (X.cN),vI (X.cB),vI (X.cH),vI (X.cS),vI (X.cZ),.slice Af (fs.length) (cf),.slice Aa (xs.length) (ca)] 34) (λb1=>NZ (iK [] (Vq hg hE) ?_))))
 rintro oL _ _ fo ⟨rfl,rfl⟩
 replace hG:=hG.le fo
 replace hF:=hF.le fo
 replace hA:=hA.le fo
 replace hS:=hS.le fo
 replace hg:=hg.le fo
 replace hE:=hE.le fo
 replace aH:=aH.trans fo
 refine jK 1 [21] [] (NF (KX (ax.seq ?_)))
 by_cases h0:fL X ns af=0
 ·have hok:=Fm h0
  refine ax.region (jK 1 [23] [(0,A_ 1 b1 9)] (iK [] (J7 (β:=oL) (X:=X) h0 A c Y hG hB Af cf fs hF (oM.wide d8) Aa ca xs hA gA) ?_))
  rintro vT _ _ fW ⟨N,G,V,rfl,rfl,om⟩
  replace hG:=hG.le fW
  replace hF:=hF.le fW
  replace hA:=hA.le fW
  replace hS:=hS.le fW
  replace hg:=hg.le fW
  replace hE:=hE.le fW
  replace aH:=aH.trans fW
  refine jK 5 [5,6] [] (NS (jK 8 [29,31,33,35] [(1,a_ 2 b1),(3,a_ 2 b1),(5,A_ 2 b1 5),(7,A_ 2 b1 2)] (iK [] (Yq (β:=vT) h0 N A c hG hB cf hF (oM.wide d8) ca hA gA) ?_)))
  rintro yI _ _ jj ⟨Yd,U,rfl,rfl,hR,hU⟩
  replace hG:=hG.le jj
  replace hF:=hF.le jj
  replace hA:=hA.le jj
  replace hS:=hS.le jj
  replace hg:=hg.le jj
  replace hE:=hE.le jj
  replace om:=om.le jj
  replace aH:=aH.trans jj
  refine jN 6 [7,8] (λb5=>[(4,A_ 3 b5 16)]) (λ_=>[]) (λb5=>.aD b5 (uV (toR N.1 []) Yd af U fs.length xs.length 0) 47) (λb5=>NZ (jK 7 [45] [] (NF (KX (ax.seq ?_)))))
  obtain⟨S2,c2,eR⟩:∃Sx cx,br fs xs af 1 N.1 (qC af)=(Sx,cx):=⟨_,_,rfl⟩
  have Qx:=abr N.2.us eR
  refine ax.Rt (S:=[.aD b1 [.slice A (ns.length) (c),vI (af),vI (X.cN),vI (X.cB),vI (X.cH),vI (X.cS),vI (X.cZ),.slice Af (fs.length) (cf),.slice Aa (xs.length) (ca)] 34,.abs (vW G)]) [(true,0),(true,1),(true,2),(true,3),(true,4),(true,5),(false,6)] d6 d6 (λ_ h=>(h.Tl (i:=0) rfl).pick (ay:=[2,0]) rfl rfl) (jG 6 [1,5,7,60,62] [(3,p_ ⟨[.view 1 (.iface 37 (vP G.w))],none,none,none,none⟩ [(∀F w,(vW G).h F w->w.cell? ⟨G.w,0,none⟩=some (.iface 37 (vP G.w)))] ⟨yw,trivial⟩),(5,a_ 0 b1)] (eu.toH ?_))
  have hrz:Grown yI yI:=.inl rfl
  refine Li.last d6 (iK [0] (abm (β:=yI) (G:=G) (fs:=fs) (xs:=xs) (S:=N.1) (V:=V) (S1:=S2) (c1:=c2) hrw N.2.full om gA hg af hrw eR) ?_)
  rintro CN _ _ iw ⟨V2,q2,rfl,rfl⟩
  replace hG:=hG.le iw
  replace hF:=hF.le iw
  replace hA:=hA.le iw
  replace hS:=hS.le iw
  replace hg:=hg.le iw
  replace hE:=hE.le iw
  replace om:=om.le iw
  replace hR:=hR.le iw
  replace hU:=hU.le iw
  replace aH:=aH.trans iw
  refine NL (aF.np (NX (SR (jK 2 [65,66] [(0,A_ 3 b5 16)] (iK [] (AJ (β:=CN) (S:=N.1) (g:=[]) (.start N hok.2) Yd hR af U fs xs 0 d5 hU.f d5 hU.x gA (YE.trans eR) (.inl rfl) (L4 _) (λj v h=>by cases h) (L4 _) (N6 _)) ?_)))))
  rintro Ay _ _ d9 ⟨g2,Y2,B2,p2,rfl,rfl,hp2,CQ,_⟩
  replace hG:=hG.le d9
  replace hF:=hF.le d9
  replace hA:=hA.le d9
  replace hS:=hS.le d9
  replace hg:=hg.le d9
  replace hE:=hE.le d9
  replace om:=om.le d9
  replace hR:=hR.le d9
  replace hU:=hU.le d9
  replace aH:=aH.trans d9
  refine jN 6 [9] (λb8=>[(4,A_ 3 b5 16),(5,A_ 4 b8 13)]) (λb8=>[(3,[(0,.slice Y2.A ((toR S2 g2).ns.length) (Y2.c)),(1,.slice Y2.G ((toR S2 g2).aJ.length) (Y2.cg)),(2,vI ((toR S2 g2).cH)),(3,vI ((toR S2 g2).aL)),(4,.slice Y2.H ((toR S2 g2).us.length) (Y2.ch)),(5,.slice Y2.V ((toR S2 g2).us.length) (Y2.cv)),(6,vI ((toR S2 g2).cN)),(7,vI ((toR S2 g2).cB)),(8,vI ((toR S2 g2).cH)),(9,vI ((toR S2 g2).cS)),(10,vI ((toR S2 g2).cZ)),(11,vI ((toR S2 g2).last)),(15,vI (((1:Nat):Int)))])]) (λb8=>.aD b8 (bA (iJ c2 B2 p2)) 63) (λb8=>NS (jK 3 [10] [(1,a_ 4 b8)] (NS (jK 1 [72] [] (gL [] (ae5 A1 c1 ws hxc) ?_)))))
  rintro _ _ ⟨n,hn,hn3,rfl,rfl⟩
  refine jK 1 [1] [] (NZ (jK 1 [11] [] (NN (ax.block (lB (ι:=Nat×Bs×bg×(List Int)×RL×Nat×WV×(List aN)×Int) (λ(i,b,S,g,Yd,k,V,tr,far)=>b) (λ(i,b,S,g,Yd,k,V,tr,far)=>(i<=n)/\((B0 W).le b)/\(iZ b A1 ws)/\(iX b)/\(oC b)/\(Pair S g)/\(dP b (toR S g) Yd)/\(kW b G.Z xs)/\(CS b U fs xs)/\(tr.length=k)/\(k<=1+4*AP ws i+i)/\((Lit.int .i64 far).wf=true)) (λ(i,b,S,g,Yd,k,V,tr,far)=>n-i) (λ(i,b,S,g,Yd,k,V,tr,far)=>[(1,.slice A1 (n) (c1)),(5,vP G.w),(7,vP b5),(9,vP b8),(10,vI (far)),(11,vI ↑i)]) (λ(i,b,S,g,Yd,k,V,tr,far)=>[.aD b1 [.slice A (ns.length) (c),vI (af),vI (X.cN),vI (X.cB),vI (X.cH),vI (X.cS),vI (X.cZ),.slice Af (fs.length) (cf),.slice Aa (xs.length) (ca)] 34,.aD b5 (uV (toR S g) Yd af U fs.length xs.length (↑k)) 47,.aD b8 (bA (iJ c2 B2 p2)) 63,wA G fs xs af S V tr,.abs R]) (0,Ay,S2,g2,Y2,1,V2,q2.1,c2.answer) [2,3,4,0,1] (⟨L4 _,aH,hS,hg,hE,hp2,CQ,om,hU,q2.2.1,d5,Qx⟩) ?_)))))
  rintro⟨i,b,S,g,Yd,k,V,tr,far⟩ ⟨hi,aH,hS,hg,hE,hp,hR,om,hU,htr,hk,hfw⟩
  refine SQ (jK 4 [77] [] (NN (cP ((((i:Nat):Int):Int)<(((n:Nat):Int):Int)) (λh77=>?_) (λh77=>?_))))
  ·refine KX (ax.seq (ax.block (SR (jK 3 [12] [(1,a_ 2 b8)] (NN (ax.join (ι:=Int) (λ(h:Int)=>((Lit.int .i64 h).wf=true)) (λ(h:Int)=>[(1,.slice A1 (n) (c1)),(5,vP G.w),(7,vP b5),(9,vP b8),(10,vI (far)),(11,vI ↑i),(12,vI (h))]) (λ(h:Int)=>[.aD b1 [.slice A (ns.length) (c),vI (af),vI (X.cN),vI (X.cB),vI (X.cH),vI (X.cS),vI (X.cZ),.slice Af (fs.length) (cf),.slice Aa (xs.length) (ca)] 34,.aD b5 (uV (toR S g) Yd af U fs.length xs.length (↑k)) 47,.aD b8 (bA (iJ c2 B2 p2)) 63,wA G fs xs af S V tr,.abs R]) ?_ (SR (jK 5 [86] [(2,x_ i n (iZ.hd hS (i:=i) d5)),(4,r_ (iZ.rd hS (i:=i) d5 (j:=2) rfl))] (NN (ax.cond (b:=(way ws i).far) (λ_=>d6) (λh86=>ax.region (jK 2 [12] [] (NL (mJ far [0,1,2,3,4] (hfw))))) (λh86=>ax.skip (mJ c2.answer [0,1,2,3,4] (Qx)))))))))))))
   rintro h hhw
   have htot:=hS.tot (i:=i) (n:=n) d5 d5
   refine SR (jK 5 [92] [(2,x_ i n (iZ.hd hS (i:=i) d5)),(4,r_ (iZ.rd hS (i:=i) d5 (j:=0) rfl))] (iK [] (Qy (β:=b) (way ws i).A (way ws i).cp (way ws i).ps (hS.q i d5).row d5) ?_))
   rintro uy _ _ j4 ⟨A9,c10,rfl,rfl,MS⟩
   replace hS:=hS.le j4
   replace hg:=hg.le j4
   replace hE:=hE.le j4
   replace om:=om.le j4
   replace hR:=hR.le j4
   replace hU:=hU.le j4
   replace aH:=aH.trans j4
   refine jK 1 [13] [] (NN (ax.seq ?_))
   obtain⟨⟨Sr,nr,cr,ow,mr,kr,ar⟩,hr⟩:∃r,jt fs xs af (way ws i).mode (way ws i).ps 0 S k h false 0=r:=⟨_,rfl⟩
   have hww:=KR (fs:=fs) (xs:=xs) (af:=af) (mode:=(way ws i).mode) (way ws i).ps 0 S k h false 0 hp.inv hhw
   have hsh:=DT (fs:=fs) (xs:=xs) (af:=af) (mode:=(way ws i).mode) (way ws i).ps 0 S k h false 0
   rw [hr] at hww hsh
   have hcw:(Lit.int .i64 cr).wf=true:=hww.1
   have hnr:nr<=k+4*(way ws i).ps.length+1:=hww.2.2
   rcases Classical.em (kr=0) with hc|hc
   ·subst hc
    obtain rfl:ar=0:=hsh.1 rfl
    refine ax.H8 (S:=[.abs (vW G)]) (uR [0,1,2,3,4,5,6,7,8,9,10] (oJ 15 [(false,16),(false,17)] [(false,11),(true,12),(true,13),(true,14)])) (λ_ h=>(h.Tl (i:=3) rfl).pick (ay:=[3]) rfl rfl) (gT (oJ 15 [(false,16),(false,17)] [(false,11),(true,12),(true,13),(true,14)]) [(1,.slice A1 (n) (c1)),(5,vP G.w),(7,vP b5),(9,vP b8),(10,vI (far)),(11,vI ↑i),(12,vI (h)),(13,.slice A9 ((way ws i).ps.length) (c10)),(98,.agg #[.iface 37 (vP G.w)]),(99,vI (h)),(100,.slice A9 ((way ws i).ps.length) (c10)),(105,vI ((way ws i).mode))] [0,1,2,3,4,5,6,7,8,9,10] [(3,p_ ⟨[.view 0 (.iface 37 (vP G.w))],none,none,none,none⟩ [(∀F w,(vW G).h F w->w.cell? ⟨G.w,0,none⟩=some (.iface 37 (vP G.w)))] ⟨yw,trivial⟩),(8,x_ i n (iZ.hd hS (i:=i) d5)),(10,r_ (iZ.rd hS (i:=i) d5 (j:=1) rfl))] (lK.beside (j:=15) (dj:=14) (R:=λf_ l_=>∃V3:WV,∃q3:{l:List aN // l.length=nr/\oA fs xs af tr S l Sr},f_=[(108,.nilIface),(107,.agg #[vI (cr),.bool ow,vI (mr)]),(94,.tuple #[.agg #[vI (cr),.bool ow,vI (mr)],.nilIface]),(106,.tuple #[.agg #[vI (cr),.bool ow,vI (mr)],.nilIface]),(1,.slice A1 (n) (c1)),(5,vP G.w),(7,vP b5),(9,vP b8),(10,vI (far)),(11,vI ↑i),(12,vI (h)),(13,.slice A9 ((way ws i).ps.length) (c10)),(98,.agg #[.iface 37 (vP G.w)]),(99,vI (h)),(100,.slice A9 ((way ws i).ps.length) (c10)),(105,vI ((way ws i).mode))]/\l_=[wA G fs xs af Sr V3 q3.1]) (pc:=[wA G fs xs af S V tr]) (Z:=[.aD b1 [.slice A (ns.length) (c),vI (af),vI (X.cN),vI (X.cB),vI (X.cH),vI (X.cS),vI (X.cZ),.slice Af (fs.length) (cf),.slice Aa (xs.length) (ca)] 34,.aD b5 (uV (toR S g) Yd af U fs.length xs.length (↑k)) 47,.aD b8 (bA (iJ c2 B2 p2)) 63,.abs R]) (Vr G) [3,0,1,2,4] [(false,11,106),(true,12,94),(true,13,107),(true,14,108)] (YD (S1:=[]) (pS:=[]) rfl rfl) (Vs 0 rfl) (gJ.of (ι:=Nat) (v:=λ(b12:Nat)=>vP b12) (l:=λ(b12:Nat)=>[.aD b12 [vI 0,.bool false,vI 0] 72]) [106,94,107,108] rfl rfl rfl rfl ?_) ?_ ?_))
    ·intro u Aq
     exact jB 1 [14] (λb12=>.aD b12 [vI 0,.bool false,vI 0] 72) (λb12=>NL (MD b12 [14,106,94,107,108,1,5,7,9,10,11,12,13,98,99,100,105] [1,0]))
    ·refine pH.step (gJ.of (ι:=WV×({l:List aN // l.length=nr/\oA fs xs af tr S l Sr})) (v:=λ((V3,q3):WV×({l:List aN // l.length=nr/\oA fs xs af tr S l Sr}))=>.tuple #[.agg #[vI (cr),.bool ow,vI (mr)],.nilIface]) (l:=λ((V3,q3):WV×({l:List aN // l.length=nr/\oA fs xs af tr S l Sr}))=>[wA G fs xs af Sr V3 q3.1]) [14] rfl rfl rfl rfl ?_) ?_
     ·intro u Aq
      refine gL [0] (Vt (β:=uy) (A:=A9) (pJ:=c10) (G:=G) (V:=V) (r:=⟨Sr,nr,cr,ow,mr,0,0⟩) rfl hrw hp.inv htr d5 om gA hg hE hhw MS d5 (hS.q i d5).size hr) ?_
      rintro _ _ ⟨V3,q3,rfl,rfl⟩
      exact NL (MD (V3,q3) [106,14,1,5,7,9,10,11,12,13,98,99,100,105] [0,1])
     rintro _ _ ⟨⟨V3,q3⟩,rfl,rfl⟩
     exact⟨Vs 0 rfl,(dO.read (.tuple #[.agg #[vI (cr),.bool ow,vI (mr)],.nilIface]) (dO.read (.agg #[vI (cr),.bool ow,vI (mr)]) (dO.read .nilIface ⟨V3,q3,rfl,rfl⟩)))⟩
    rintro _ _ ⟨V3,q3,rfl,rfl⟩ _ _ ⟨b12,rfl,rfl⟩
    refine eu.afk (ι:=Unit) (bQ:=λ(_:Unit)=>[(1,.slice A1 (n) (c1)),(5,vP G.w),(7,vP b5),(9,vP b8),(10,vI (far)),(11,vI ↑i),(12,vI (h)),(13,.slice A9 ((way ws i).ps.length) (c10)),(14,vP b12),(108,.nilIface)]) (dz:=λ(_:Unit)=>[wA G fs xs af Sr V3 q3.1,.aD b12 [vI (cr),.bool ow,vI (mr)] 72,.aD b1 [.slice A (ns.length) (c),vI (af),vI (X.cN),vI (X.cB),vI (X.cH),vI (X.cS),vI (X.cZ),.slice Af (fs.length) (cf),.slice Aa (xs.length) (ca)] 34,.aD b5 (uV (toR S g) Yd af U fs.length xs.length (↑k)) 47,.aD b8 (bA (iJ c2 B2 p2)) 63,.abs R]) d6 ?_ (λ_ _ h=>(h.Tl (i:=0) rfl).pick (ay:=[0]) rfl rfl) ?_
    ·exact jC 1 [] [(0,A_ 1 b12 3)] [(1,[(0,vI (cr)),(1,.bool ow),(2,vI (mr))])] (NL (MD () [1,5,7,9,10,11,12,13,14,108] [0,1,2,3,4,5]))
    rintro _
    refine eu.last d6 (jK 1 [15] [] (NL (aF.np (NX (ax.seq (ax.o7 (S:=[.aD b5 (uV (toR S g) Yd af U fs.length xs.length (↑k)) 47]) (uR [0,1,2,3,4,5,6,7,8,9,10,11] (oK 16 17 [(false,18),(false,19)] [(false,12),(true,13),(true,14),(true,15)])) [3] (gT (oK 16 17 [(false,18),(false,19)] [(false,12),(true,13),(true,14),(true,15)]) [(1,.slice A1 (n) (c1)),(5,vP G.w),(7,vP b5),(9,vP b8),(10,vI (far)),(11,vI ↑i),(13,.slice A9 ((way ws i).ps.length) (c10)),(14,vP b12),(15,.nilIface),(110,.agg ⟨uV (toR S g) Yd af U fs.length xs.length (↑k)⟩),(111,vI (h)),(116,.slice (way ws i).A ((way ws i).ps.length) ((way ws i).cp)),(121,vI ((way ws i).mode))] [0,1,2,3,4,5,6,7,8,9,10,11] [(0,A_ 0 b5 16),(4,x_ i n (iZ.hd hS (i:=i) d5)),(6,r_ (iZ.rd hS (i:=i) d5 (j:=0) rfl)),(9,x_ i n (iZ.hd hS (i:=i) d5)),(11,r_ (iZ.rd hS (i:=i) d5 (j:=1) rfl))] (lK.both (j:=16) (dj:=16) (k:=17) (dk:=17) (R:=λf_ l_=>∃g3:List Int,∃Y3:RL,f_=[(124,.agg #[vI (cr),.bool ow,vI (mr),vI (0),vI (0)]),(123,.agg ⟨uV (toR Sr g3) Y3 af U fs.length xs.length (↑nr)⟩),(109,.tuple #[.agg ⟨uV (toR Sr g3) Y3 af U fs.length xs.length (↑nr)⟩,.agg #[vI (cr),.bool ow,vI (mr),vI (0),vI (0)]]),(122,.tuple #[.agg ⟨uV (toR Sr g3) Y3 af U fs.length xs.length (↑nr)⟩,.agg #[vI (cr),.bool ow,vI (mr),vI (0),vI (0)]]),(1,.slice A1 (n) (c1)),(5,vP G.w),(7,vP b5),(9,vP b8),(10,vI (far)),(11,vI ↑i),(13,.slice A9 ((way ws i).ps.length) (c10)),(14,vP b12),(15,.nilIface),(110,.agg ⟨uV (toR S g) Yd af U fs.length xs.length (↑k)⟩),(111,vI (h)),(116,.slice (way ws i).A ((way ws i).ps.length) ((way ws i).cp)),(121,vI ((way ws i).mode))]/\l_=[.abs (jl uy (λβ'=>Pair Sr g3/\dP β' (toR Sr g3) Y3))]) [3] [(false,12,122),(true,13,109),(true,14,123),(true,15,124)] (gJ.of (ι:=Nat) (v:=λ(b13:Nat)=>vP b13) (l:=λ(b13:Nat)=>[.aD b13 (uZ) 47]) [122,109,123,124,17] rfl rfl rfl rfl ?_) (gJ.of (ι:=Nat) (v:=λ(b14:Nat)=>vP b14) (l:=λ(b14:Nat)=>[.aD b14 [vI 0,.bool false,vI 0,vI 0,vI 0] 78]) [122,109,123,124,16] rfl rfl rfl rfl ?_) ?_ ?_))))))))
    ·intro u Aq
     exact jB 1 [16] (λb13=>.aD b13 (uZ) 47) (λb13=>NL (MD b13 [16,122,109,123,124,17,1,5,7,9,10,11,13,14,15,110,111,116,121] [1,0]))
    ·intro u Aq
     exact jB 1 [17] (λb14=>.aD b14 [vI 0,.bool false,vI 0,vI 0,vI 0] 78) (λb14=>NL (MD b14 [17,122,109,123,124,16,1,5,7,9,10,11,13,14,15,110,111,116,121] [1,0]))
    ·refine dO.step (gJ.of (ι:=(List Int)×RL) (v:=λ((g3,Y3):(List Int)×RL)=>.tuple #[.agg ⟨uV (toR Sr g3) Y3 af U fs.length xs.length (↑nr)⟩,.agg #[vI (cr),.bool ow,vI (mr),vI (0),vI (0)]]) (l:=λ((g3,Y3):(List Int)×RL)=>[.abs (jl uy (λβ'=>Pair Sr g3/\dP β' (toR Sr g3) Y3))]) [16,17] rfl rfl rfl rfl ?_) ?_
     ·intro u Aq
      refine gL [] (ML (β:=uy) (r:=⟨Sr,nr,cr,ow,mr,0,0⟩) hp Yd hR af U fs xs k (np:=(way ws i).ps.length) d5 hU d5 gA h (way ws i).A (way ws i).cp (way ws i).ps (hS.q i d5).row rfl (hS.q i d5).size (way ws i).mode hr) ?_
      rintro _ _ ⟨g3,Y3,rfl,rfl⟩
      exact NL (MD (g3,Y3) [122,16,17,1,5,7,9,10,11,13,14,15,110,111,116,121] [0,1])
     rintro _ _ ⟨⟨g3,Y3⟩,rfl,rfl⟩
     exact dO.read (.tuple #[.agg ⟨uV (toR Sr g3) Y3 af U fs.length xs.length (↑nr)⟩,.agg #[vI (cr),.bool ow,vI (mr),vI (0),vI (0)]]) (dO.read (.agg ⟨uV (toR Sr g3) Y3 af U fs.length xs.length (↑nr)⟩) (dO.read (.agg #[vI (cr),.bool ow,vI (mr),vI (0),vI (0)]) ⟨g3,Y3,rfl,rfl⟩))
    rintro _ _ ⟨g3,Y3,rfl,rfl⟩ _ _ ⟨b13,rfl,rfl⟩ _ _ ⟨b14,rfl,rfl⟩
    refine kC [6] [] [(0,A_ 1 b13 16)] [(1,(zC (uV (toR Sr g3) Y3 af U fs.length xs.length (↑nr))))] (eu.last d6 (jC 1 [] [(0,A_ 2 b14 5)] [(2,[(0,vI (cr)),(1,.bool ow),(2,vI (mr)),(3,vI (0)),(4,vI (0))])] (NL (aF.np (NX (SR (aE.sI 0 [1,2,3,4,5,6,7,8] (fY:=[.aD b13 (uV (toR Sr g3) Y3 af U fs.length xs.length (↑nr)) 47,.aD b14 [vI (cr),.bool ow,vI (mr),vI (0),vI (0)] 78,wA G fs xs af Sr V3 q3.1,.aD b12 [vI (cr),.bool ow,vI (mr)] 72,.aD b1 [.slice A (ns.length) (c),vI (af),vI (X.cN),vI (X.cB),vI (X.cH),vI (X.cS),vI (X.cZ),.slice Af (fs.length) (cf),.slice Aa (xs.length) (ca)] 34,.aD b5 (uV (toR S g) Yd af U fs.length xs.length (↑k)) 47,.aD b8 (bA (iJ c2 B2 p2)) 63,.abs R]) rfl rfl d6 (λCh iV ⟨Fl,ol⟩=>?_))))))))
    replace hS:=hS.le iV
    replace hg:=hg.le iV
    replace hE:=hE.le iV
    replace om:=om.le iV
    replace hR:=hR.le iV
    replace hU:=hU.le iV
    replace MS:=MS.le iV
    replace aH:=aH.trans iV
    refine jC 2 [] [(0,A_ 0 b13 16),(1,A_ 5 b5 16)] [(5,[(0,.slice Y3.A ((toR Sr g3).ns.length) (Y3.c)),(1,.slice Y3.G ((toR Sr g3).aJ.length) (Y3.cg)),(2,vI ((toR Sr g3).cH)),(3,vI ((toR Sr g3).aL)),(4,.slice Y3.H ((toR Sr g3).us.length) (Y3.ch)),(5,.slice Y3.V ((toR Sr g3).us.length) (Y3.cv)),(6,vI ((toR Sr g3).cN)),(7,vI ((toR Sr g3).cB)),(8,vI ((toR Sr g3).cH)),(9,vI ((toR Sr g3).cS)),(10,vI ((toR Sr g3).cZ)),(11,vI ((toR Sr g3).last)),(15,vI ↑nr)])] (NS (jK 1 [127] [] (gE [] (Qu) (jK 5 [18,19] [] (NN (ax.seq (ax.seq (jM [0,1,2,3,4,5,6,7,8,9,10,11,12,13,14,15,16,17,18,19,20,21,22,23,24,25,26,27,28,29,30,31,32,33,34,35,36,37,38,39,40,41,42,43,44,45,546,47,548] [3,1] (jG 46 [1,5,7,9,10,11,17,170,171,176] [(1,a_ 0 b12),(3,a_ 1 b14),(4,VF ((cr:Int)=(cr:Int)) rfl),(7,a_ 0 b12),(9,a_ 1 b14),(10,p_ ⟨[],none,none,none,some (.bool false)⟩ [((.bool (!(ow == ow)):Value))=(.bool false)] ⟨zc Value.bool nh,trivial⟩),(14,a_ 0 b12),(16,a_ 1 b14),(17,VF ((mr:Int)=(mr:Int)) rfl),(23,a_ 1 b14),(24,w_ (.bool true) rfl),(30,a_ 1 b14),(31,w_ (.bool false) rfl),(36,a_ 1 b14),(37,w_ (.bool false) rfl),(43,x_ i n (iZ.hd hS (i:=i) d5)),(45,r_ (iZ.rd hS (i:=i) d5 (j:=0) rfl))] (kL [3,1] [] (EV A9 (way ws i).A c10 (way ws i).cp (way ws i).ps MS (hS.q i d5).row d5) ?_ (by rintro _ _ ⟨rfl,rfl⟩;kernel_rfl)))))))))))
    rintro _ _ ⟨rfl,rfl⟩
    refine jG 1 [1,5,7,9,10,11,17,170,178] [] (eu.last d6 (jK 1 [179] [] (NL (aF.np (NX (CF (KX (ax.join (ι:=Int) (λ(wZ:Int)=>((Lit.int .i64 wZ).wf=true)) (λ(wZ:Int)=>[(1,.slice A1 (n) (c1)),(5,vP G.w),(7,vP b5),(9,vP b8),(10,vI (wZ)),(11,vI ↑i)]) (λ(wZ:Int)=>[.aD b13 (uV (toR Sr g3) Y3 af U fs.length xs.length (↑nr)) 47,.aD b14 [vI (cr),.bool ow,vI (mr),vI (0),vI (0)] 78,wA G fs xs af Sr V3 q3.1,.aD b12 [vI (cr),.bool ow,vI (mr)] 72,.aD b1 [.slice A (ns.length) (c),vI (af),vI (X.cN),vI (X.cB),vI (X.cH),vI (X.cS),vI (X.cZ),.slice Af (fs.length) (cf),.slice Aa (xs.length) (ca)] 34,.aD b5 (uV (toR Sr g3) Y3 af U fs.length xs.length (↑nr)) 47,.aD b8 (bA (iJ c2 B2 p2)) 63,.abs R]) ?_ (SR (jK 2 [181] [(1,a_ 1 b14)] (NN (ax.cond (b:=ow) (λ_=>d6) (λTy=>ax.region (jK 3 [10] [(1,a_ 1 b14)] (NL (mJ cr [0,1,2,3,4,5,6,7] (hcw))))) (λTy=>ax.skip (mJ far [0,1,2,3,4,5,6,7] (hfw)))))))))))))))
    rintro wZ hfw2
    refine ax.seq (jM [0,2,3,501,4,5,6,8,9,10,11,12,507,13,14,15,16,18,19,20,517,521,22,523] [5] (jG 3 [1,5,7,9,10,11,184,187] [(2,a_ 0 b5)] (kL [5] [2] ((MK (G:=G) (fs:=fs) (xs:=xs) (af:=af) (S:=Sr) (V:=V3) (tr:=q3.1)).val (zc (Value.int .i64) (show ((q3.1.length:Nat):Int)=((nr:Nat):Int) from zc Nat.cast q3.2.1))) ?_ (by rintro _ _ ⟨rfl,rfl⟩;kernel_rfl))))
    rintro _ _ ⟨rfl,rfl⟩
    refine jG 8 [1,5,7,9,10,11,189,190,196] [(0,p_ ⟨[],none,none,none,some (.bool false)⟩ [(Value.bool (!decide ((((nr:Nat):Int):Int)=(((nr:Nat):Int):Int))))=(.bool false)] ⟨nh,trivial⟩),(6,a_ 0 b5)] (kL [5] [0] ((Qq (G:=G) (fs:=fs) (xs:=xs) (af:=af) (S:=Sr) (V:=V3) (tr:=q3.1)).val (zc (Value.int .i64) (show (Sr.us.length:Int)=((toR Sr g3).us.length:Int) from zc Nat.cast CO.symm))) ?_ (by rintro _ _ ⟨rfl,rfl⟩;kernel_rfl))
    rintro _ _ ⟨rfl,rfl⟩
    refine jG 7 [1,5,7,9,10,11,199,200,204] [(0,p_ ⟨[],none,none,none,some (.bool false)⟩ [(Value.bool (!decide (((((toR Sr g3).us.length:Nat):Int):Int)=((((toR Sr g3).us.length:Nat):Int):Int))))=(.bool false)] ⟨nh,trivial⟩),(6,a_ 0 b5)] (kL [8] [0] (Fs (G:=G) (fs:=fs) (xs:=xs) (af:=af) (S:=Sr) (V:=V3) (tr:=q3.1) Fl.inv) ?_ (by rintro _ _ ⟨Ao,co,Ko,rfl,rfl⟩;kernel_rfl))
    rintro _ _ ⟨Ao,co,Ko,rfl,rfl⟩
    refine kL [8] [1,2,3] (D6 Ao Y3.A co Y3.c (aV Sr) (aV Sr) Ko Y3.L ol.n (Qp Fl.inv.toInv0) (Ql Fl.inv.toInv0) (ahO rfl)) ?_ (by rintro _ _ ⟨rfl,rfl⟩;kernel_rfl)
    rintro _ _ ⟨rfl,rfl⟩
    exact jG 1 [1,5,7,9,10,11,199,206] [] (eu.last d6 (jK 1 [207] [] (NL (aF.np (NX (CF (KX (ax.region (jK 3 [11] [(1,wJ ((i:Int)+1) (↑(i+1)))] (NL (tB ((i+1),Ch,Sr,g3,Y3,nr,V3,q3.1,wZ) [7,8,9,3,10] (⟨d5,aH,hS,hg,hE,Fl,ol,om,hU,q3.2.1,by rw [Cm];omega,hfw2⟩))))))))))))
   obtain⟨q1,q2⟩:=hsh.2 hc
   obtain rfl:cr=0:=q1
   obtain rfl:ow=false:=q2
   refine ax.H8 (S:=[.abs (vW G)]) (uR [0,1,2,3,4,5,6,7,8,9,10] (oJ 15 [(false,16),(false,17)] [(false,11),(true,12),(true,13),(true,14)])) (λ_ h=>(h.Tl (i:=3) rfl).pick (ay:=[3]) rfl rfl) (gT (oJ 15 [(false,16),(false,17)] [(false,11),(true,12),(true,13),(true,14)]) [(1,.slice A1 (n) (c1)),(5,vP G.w),(7,vP b5),(9,vP b8),(10,vI (far)),(11,vI ↑i),(12,vI (h)),(13,.slice A9 ((way ws i).ps.length) (c10)),(98,.agg #[.iface 37 (vP G.w)]),(99,vI (h)),(100,.slice A9 ((way ws i).ps.length) (c10)),(105,vI ((way ws i).mode))] [0,1,2,3,4,5,6,7,8,9,10] [(3,p_ ⟨[.view 0 (.iface 37 (vP G.w))],none,none,none,none⟩ [(∀F w,(vW G).h F w->w.cell? ⟨G.w,0,none⟩=some (.iface 37 (vP G.w)))] ⟨yw,trivial⟩),(8,x_ i n (iZ.hd hS (i:=i) d5)),(10,r_ (iZ.rd hS (i:=i) d5 (j:=1) rfl))] (lK.beside (j:=15) (dj:=14) (R:=λf_ l_=>∃V3:WV,∃q3:{l:List aN // l.length=nr/\oA fs xs af tr S l Sr},∃e:Nat,∃nm:ByteArray,f_=[(108,.iface 112 (vP e)),(107,.agg #[vI 0,.bool false,vI (mr)]),(94,.tuple #[.agg #[vI 0,.bool false,vI (mr)],.iface 112 (vP e)]),(106,.tuple #[.agg #[vI 0,.bool false,vI (mr)],.iface 112 (vP e)]),(1,.slice A1 (n) (c1)),(5,vP G.w),(7,vP b5),(9,vP b8),(10,vI (far)),(11,vI ↑i),(12,vI (h)),(13,.slice A9 ((way ws i).ps.length) (c10)),(98,.agg #[.iface 37 (vP G.w)]),(99,vI (h)),(100,.slice A9 ((way ws i).ps.length) (c10)),(105,vI ((way ws i).mode))]/\l_=[wA G fs xs af Sr V3 q3.1,.aD e [vI (ar),.string nm,vI (kr)] 114]) (pc:=[wA G fs xs af S V tr]) (Z:=[.aD b1 [.slice A (ns.length) (c),vI (af),vI (X.cN),vI (X.cB),vI (X.cH),vI (X.cS),vI (X.cZ),.slice Af (fs.length) (cf),.slice Aa (xs.length) (ca)] 34,.aD b5 (uV (toR S g) Yd af U fs.length xs.length (↑k)) 47,.aD b8 (bA (iJ c2 B2 p2)) 63,.abs R]) (Vr G) [3,0,1,2,4] [(false,11,106),(true,12,94),(true,13,107),(true,14,108)] (YD (S1:=[]) (pS:=[]) rfl rfl) (Vs 0 rfl) (gJ.of (ι:=Nat) (v:=λ(b16:Nat)=>vP b16) (l:=λ(b16:Nat)=>[.aD b16 [vI 0,.bool false,vI 0] 72]) [106,94,107,108] rfl rfl rfl rfl ?_) ?_ ?_))
   ·intro u Aq
    exact jB 1 [14] (λb16=>.aD b16 [vI 0,.bool false,vI 0] 72) (λb16=>NL (MD b16 [14,106,94,107,108,1,5,7,9,10,11,12,13,98,99,100,105] [1,0]))
   ·refine pH.step (gJ.of (ι:=WV×({l:List aN // l.length=nr/\oA fs xs af tr S l Sr})×Nat×ByteArray) (v:=λ((V3,q3,e,nm):WV×({l:List aN // l.length=nr/\oA fs xs af tr S l Sr})×Nat×ByteArray)=>.tuple #[.agg #[vI 0,.bool false,vI (mr)],.iface 112 (vP e)]) (l:=λ((V3,q3,e,nm):WV×({l:List aN // l.length=nr/\oA fs xs af tr S l Sr})×Nat×ByteArray)=>[wA G fs xs af Sr V3 q3.1,.aD e [vI (ar),.string nm,vI (kr)] 114]) [14] rfl rfl rfl rfl ?_) ?_
    ·intro u Aq
     refine gL [0] (Rs (β:=uy) (A:=A9) (pJ:=c10) (G:=G) (V:=V) (r:=⟨Sr,nr,0,false,mr,kr,ar⟩) hc hrw hp.inv htr d5 om gA hg hE hhw MS d5 (hS.q i d5).size hr) ?_
     rintro _ _ ⟨V3,q3,e,nm,rfl,rfl⟩
     exact NL (MD (V3,q3,e,nm) [106,14,1,5,7,9,10,11,12,13,98,99,100,105] [0,1,2])
    rintro _ _ ⟨⟨V3,q3,e,nm⟩,rfl,rfl⟩
    exact⟨Vs 0 rfl,(dO.read (.tuple #[.agg #[vI 0,.bool false,vI (mr)],.iface 112 (vP e)]) (dO.read (.agg #[vI 0,.bool false,vI (mr)]) (dO.read (.iface 112 (vP e)) ⟨V3,q3,e,nm,rfl,rfl⟩)))⟩
   rintro _ _ ⟨V3,q3,e,nm,rfl,rfl⟩ _ _ ⟨b16,rfl,rfl⟩
   refine eu.afk (ι:=Unit) (bQ:=λ(_:Unit)=>[(1,.slice A1 (n) (c1)),(5,vP G.w),(7,vP b5),(9,vP b8),(10,vI (far)),(11,vI ↑i),(12,vI (h)),(13,.slice A9 ((way ws i).ps.length) (c10)),(14,vP b16),(108,.iface 112 (vP e))]) (dz:=λ(_:Unit)=>[wA G fs xs af Sr V3 q3.1,.aD e [vI (ar),.string nm,vI (kr)] 114,.aD b16 [vI 0,.bool false,vI (mr)] 72,.aD b1 [.slice A (ns.length) (c),vI (af),vI (X.cN),vI (X.cB),vI (X.cH),vI (X.cS),vI (X.cZ),.slice Af (fs.length) (cf),.slice Aa (xs.length) (ca)] 34,.aD b5 (uV (toR S g) Yd af U fs.length xs.length (↑k)) 47,.aD b8 (bA (iJ c2 B2 p2)) 63,.abs R]) d6 ?_ (λ_ _ h=>(h.Tl (i:=0) rfl).pick (ay:=[0]) rfl rfl) ?_
   ·exact jC 1 [] [(0,A_ 2 b16 3)] [(2,[(2,vI (mr))])] (NL (MD () [1,5,7,9,10,11,12,13,14,108] [0,1,2,3,4,5,6]))
   rintro _
   refine eu.last d6 (jK 1 [15] [] (NL (aF.np (NX (ax.seq (ax.o7 (S:=[.aD b5 (uV (toR S g) Yd af U fs.length xs.length (↑k)) 47]) (uR [0,1,2,3,4,5,6,7,8,9,10,11] (oK 16 17 [(false,18),(false,19)] [(false,12),(true,13),(true,14),(true,15)])) [4] (gT (oK 16 17 [(false,18),(false,19)] [(false,12),(true,13),(true,14),(true,15)]) [(1,.slice A1 (n) (c1)),(5,vP G.w),(7,vP b5),(9,vP b8),(10,vI (far)),(11,vI ↑i),(13,.slice A9 ((way ws i).ps.length) (c10)),(14,vP b16),(15,.iface 112 (vP e)),(110,.agg ⟨uV (toR S g) Yd af U fs.length xs.length (↑k)⟩),(111,vI (h)),(116,.slice (way ws i).A ((way ws i).ps.length) ((way ws i).cp)),(121,vI ((way ws i).mode))] [0,1,2,3,4,5,6,7,8,9,10,11] [(0,A_ 0 b5 16),(4,x_ i n (iZ.hd hS (i:=i) d5)),(6,r_ (iZ.rd hS (i:=i) d5 (j:=0) rfl)),(9,x_ i n (iZ.hd hS (i:=i) d5)),(11,r_ (iZ.rd hS (i:=i) d5 (j:=1) rfl))] (lK.both (j:=16) (dj:=16) (k:=17) (dk:=17) (R:=λf_ l_=>∃g3:List Int,∃Y3:RL,f_=[(124,.agg #[vI (0),.bool false,vI (mr),vI (kr),vI (ar)]),(123,.agg ⟨uV (toR Sr g3) Y3 af U fs.length xs.length (↑nr)⟩),(109,.tuple #[.agg ⟨uV (toR Sr g3) Y3 af U fs.length xs.length (↑nr)⟩,.agg #[vI (0),.bool false,vI (mr),vI (kr),vI (ar)]]),(122,.tuple #[.agg ⟨uV (toR Sr g3) Y3 af U fs.length xs.length (↑nr)⟩,.agg #[vI (0),.bool false,vI (mr),vI (kr),vI (ar)]]),(1,.slice A1 (n) (c1)),(5,vP G.w),(7,vP b5),(9,vP b8),(10,vI (far)),(11,vI ↑i),(13,.slice A9 ((way ws i).ps.length) (c10)),(14,vP b16),(15,.iface 112 (vP e)),(110,.agg ⟨uV (toR S g) Yd af U fs.length xs.length (↑k)⟩),(111,vI (h)),(116,.slice (way ws i).A ((way ws i).ps.length) ((way ws i).cp)),(121,vI ((way ws i).mode))]/\l_=[.abs (jl uy (λβ'=>Pair Sr g3/\dP β' (toR Sr g3) Y3))]) [4] [(false,12,122),(true,13,109),(true,14,123),(true,15,124)] (gJ.of (ι:=Nat) (v:=λ(b17:Nat)=>vP b17) (l:=λ(b17:Nat)=>[.aD b17 (uZ) 47]) [122,109,123,124,17] rfl rfl rfl rfl ?_) (gJ.of (ι:=Nat) (v:=λ(b18:Nat)=>vP b18) (l:=λ(b18:Nat)=>[.aD b18 [vI 0,.bool false,vI 0,vI 0,vI 0] 78]) [122,109,123,124,16] rfl rfl rfl rfl ?_) ?_ ?_))))))))
   ·intro u Aq
    exact jB 1 [16] (λb17=>.aD b17 (uZ) 47) (λb17=>NL (MD b17 [16,122,109,123,124,17,1,5,7,9,10,11,13,14,15,110,111,116,121] [1,0]))
   ·intro u Aq
    exact jB 1 [17] (λb18=>.aD b18 [vI 0,.bool false,vI 0,vI 0,vI 0] 78) (λb18=>NL (MD b18 [17,122,109,123,124,16,1,5,7,9,10,11,13,14,15,110,111,116,121] [1,0]))
   ·refine dO.step (gJ.of (ι:=(List Int)×RL) (v:=λ((g3,Y3):(List Int)×RL)=>.tuple #[.agg ⟨uV (toR Sr g3) Y3 af U fs.length xs.length (↑nr)⟩,.agg #[vI (0),.bool false,vI (mr),vI (kr),vI (ar)]]) (l:=λ((g3,Y3):(List Int)×RL)=>[.abs (jl uy (λβ'=>Pair Sr g3/\dP β' (toR Sr g3) Y3))]) [16,17] rfl rfl rfl rfl ?_) ?_
    ·intro u Aq
     refine gL [] (ML (β:=uy) (r:=⟨Sr,nr,0,false,mr,kr,ar⟩) hp Yd hR af U fs xs k (np:=(way ws i).ps.length) d5 hU d5 gA h (way ws i).A (way ws i).cp (way ws i).ps (hS.q i d5).row rfl (hS.q i d5).size (way ws i).mode hr) ?_
     rintro _ _ ⟨g3,Y3,rfl,rfl⟩
     exact NL (MD (g3,Y3) [122,16,17,1,5,7,9,10,11,13,14,15,110,111,116,121] [0,1])
    rintro _ _ ⟨⟨g3,Y3⟩,rfl,rfl⟩
    exact dO.read (.tuple #[.agg ⟨uV (toR Sr g3) Y3 af U fs.length xs.length (↑nr)⟩,.agg #[vI (0),.bool false,vI (mr),vI (kr),vI (ar)]]) (dO.read (.agg ⟨uV (toR Sr g3) Y3 af U fs.length xs.length (↑nr)⟩) (dO.read (.agg #[vI (0),.bool false,vI (mr),vI (kr),vI (ar)]) ⟨g3,Y3,rfl,rfl⟩))
   rintro _ _ ⟨g3,Y3,rfl,rfl⟩ _ _ ⟨b17,rfl,rfl⟩ _ _ ⟨b18,rfl,rfl⟩
   refine kC [7] [] [(0,A_ 1 b17 16)] [(1,(zC (uV (toR Sr g3) Y3 af U fs.length xs.length (↑nr))))] (eu.last d6 (jC 1 [] [(0,A_ 2 b18 5)] [(2,[(0,vI (0)),(2,vI (mr)),(3,vI (kr)),(4,vI (ar))])] (NL (aF.np (NX (SR (aE.sI 0 [1,2,3,4,5,6,7,8,9] (fY:=[.aD b17 (uV (toR Sr g3) Y3 af U fs.length xs.length (↑nr)) 47,.aD b18 [vI (0),.bool false,vI (mr),vI (kr),vI (ar)] 78,wA G fs xs af Sr V3 q3.1,.aD e [vI (ar),.string nm,vI (kr)] 114,.aD b16 [vI 0,.bool false,vI (mr)] 72,.aD b1 [.slice A (ns.length) (c),vI (af),vI (X.cN),vI (X.cB),vI (X.cH),vI (X.cS),vI (X.cZ),.slice Af (fs.length) (cf),.slice Aa (xs.length) (ca)] 34,.aD b5 (uV (toR S g) Yd af U fs.length xs.length (↑k)) 47,.aD b8 (bA (iJ c2 B2 p2)) 63,.abs R]) rfl rfl d6 (λaa5 lf ⟨Fl,ol⟩=>?_))))))))
   replace hS:=hS.le lf
   replace hg:=hg.le lf
   replace hE:=hE.le lf
   replace om:=om.le lf
   replace hR:=hR.le lf
   replace hU:=hU.le lf
   replace MS:=MS.le lf
   replace aH:=aH.trans lf
   refine jC 2 [] [(0,A_ 0 b17 16),(1,A_ 6 b5 16)] [(6,[(0,.slice Y3.A ((toR Sr g3).ns.length) (Y3.c)),(1,.slice Y3.G ((toR Sr g3).aJ.length) (Y3.cg)),(2,vI ((toR Sr g3).cH)),(3,vI ((toR Sr g3).aL)),(4,.slice Y3.H ((toR Sr g3).us.length) (Y3.ch)),(5,.slice Y3.V ((toR Sr g3).us.length) (Y3.cv)),(6,vI ((toR Sr g3).cN)),(7,vI ((toR Sr g3).cB)),(8,vI ((toR Sr g3).cH)),(9,vI ((toR Sr g3).cS)),(10,vI ((toR Sr g3).cZ)),(11,vI ((toR Sr g3).last)),(15,vI ↑nr)])] (NS (jK 1 [127] [] (gE [3] (D8 hE e ar nm kr) (jK 5 [18,19] [] (NN (ax.seq (ax.seq (jM [0,1,2,3,4,5,6,7,8,9,10,11,12,13,14,15,16,17,18,19,20,21,22,23,24,25,26,27,28,29,30,31,32,33,34,35,36,37,38,39,40,41,42,43,44,45,546,47,548] [4,2] (jG 46 [1,5,7,9,10,11,17,170,171,176] [(1,a_ 0 b16),(3,a_ 1 b18),(4,w_ (.bool false) rfl),(7,a_ 0 b16),(9,a_ 1 b18),(10,w_ (.bool false) rfl),(14,a_ 0 b16),(16,a_ 1 b18),(17,VF ((mr:Int)=(mr:Int)) rfl),(23,a_ 1 b18),(24,wF ((kr:Int)=(0:Int)) hc),(30,a_ 1 b18),(31,VF ((kr:Int)=(kr:Int)) rfl),(36,a_ 1 b18),(37,VF ((ar:Int)=(ar:Int)) rfl),(43,x_ i n (iZ.hd hS (i:=i) d5)),(45,r_ (iZ.rd hS (i:=i) d5 (j:=0) rfl))] (kL [4,2] [] (EV A9 (way ws i).A c10 (way ws i).cp (way ws i).ps MS (hS.q i d5).row d5) ?_ (by rintro _ _ ⟨rfl,rfl⟩;kernel_rfl)))))))))))
   rintro _ _ ⟨rfl,rfl⟩
   refine jG 1 [1,5,7,9,10,11,17,170,178] [] (eu.last d6 (jK 1 [179] [] (NL (aF.np (NX (CF (KX (ax.join (ι:=Int) (λ(wZ:Int)=>((Lit.int .i64 wZ).wf=true)) (λ(wZ:Int)=>[(1,.slice A1 (n) (c1)),(5,vP G.w),(7,vP b5),(9,vP b8),(10,vI (wZ)),(11,vI ↑i)]) (λ(wZ:Int)=>[.aD e [vI (ar),.string nm,vI (kr)] 114,.aD b17 (uV (toR Sr g3) Y3 af U fs.length xs.length (↑nr)) 47,.aD b18 [vI (0),.bool false,vI (mr),vI (kr),vI (ar)] 78,wA G fs xs af Sr V3 q3.1,.aD b16 [vI 0,.bool false,vI (mr)] 72,.aD b1 [.slice A (ns.length) (c),vI (af),vI (X.cN),vI (X.cB),vI (X.cH),vI (X.cS),vI (X.cZ),.slice Af (fs.length) (cf),.slice Aa (xs.length) (ca)] 34,.aD b5 (uV (toR Sr g3) Y3 af U fs.length xs.length (↑nr)) 47,.aD b8 (bA (iJ c2 B2 p2)) 63,.abs R]) ?_ (SR (jK 2 [181] [(1,a_ 2 b18)] (NF (ax.skip (mJ far [0,1,2,3,4,5,6,7,8] (hfw))))))))))))))
   rintro wZ hfw2
   refine ax.seq (jM [0,2,3,501,4,5,6,8,9,10,11,12,507,13,14,15,16,18,19,20,517,521,22,523] [6] (jG 3 [1,5,7,9,10,11,184,187] [(2,a_ 0 b5)] (kL [6] [3] ((MK (G:=G) (fs:=fs) (xs:=xs) (af:=af) (S:=Sr) (V:=V3) (tr:=q3.1)).val (zc (Value.int .i64) (show ((q3.1.length:Nat):Int)=((nr:Nat):Int) from zc Nat.cast q3.2.1))) ?_ (by rintro _ _ ⟨rfl,rfl⟩;kernel_rfl))))
   rintro _ _ ⟨rfl,rfl⟩
   refine jG 8 [1,5,7,9,10,11,189,190,196] [(0,p_ ⟨[],none,none,none,some (.bool false)⟩ [(Value.bool (!decide ((((nr:Nat):Int):Int)=(((nr:Nat):Int):Int))))=(.bool false)] ⟨nh,trivial⟩),(6,a_ 0 b5)] (kL [6] [0] ((Qq (G:=G) (fs:=fs) (xs:=xs) (af:=af) (S:=Sr) (V:=V3) (tr:=q3.1)).val (zc (Value.int .i64) (show (Sr.us.length:Int)=((toR Sr g3).us.length:Int) from zc Nat.cast CO.symm))) ?_ (by rintro _ _ ⟨rfl,rfl⟩;kernel_rfl))
   rintro _ _ ⟨rfl,rfl⟩
   refine jG 7 [1,5,7,9,10,11,199,200,204] [(0,p_ ⟨[],none,none,none,some (.bool false)⟩ [(Value.bool (!decide (((((toR Sr g3).us.length:Nat):Int):Int)=((((toR Sr g3).us.length:Nat):Int):Int))))=(.bool false)] ⟨nh,trivial⟩),(6,a_ 0 b5)] (kL [9] [0] (Fs (G:=G) (fs:=fs) (xs:=xs) (af:=af) (S:=Sr) (V:=V3) (tr:=q3.1) Fl.inv) ?_ (by rintro _ _ ⟨Ao,co,Ko,rfl,rfl⟩;kernel_rfl))
   rintro _ _ ⟨Ao,co,Ko,rfl,rfl⟩
   refine kL [9] [1,2,3] (D6 Ao Y3.A co Y3.c (aV Sr) (aV Sr) Ko Y3.L ol.n (Qp Fl.inv.toInv0) (Ql Fl.inv.toInv0) (ahO rfl)) ?_ (by rintro _ _ ⟨rfl,rfl⟩;kernel_rfl)
   rintro _ _ ⟨rfl,rfl⟩
   exact jG 1 [1,5,7,9,10,11,199,206] [] (eu.last d6 (jK 1 [207] [] (NL (aF.np (NX (CF (KX (ax.region (jK 3 [11] [(1,wJ ((i:Int)+1) (↑(i+1)))] (NL (tB ((i+1),aa5,Sr,g3,Y3,nr,V3,q3.1,wZ) [8,9,10,3,11] (⟨d5,aH,hS,hg,hE,Fl,ol,om,hU,q3.2.1,by rw [Cm];omega,hfw2⟩))))))))))))
  refine XX (ax.seq (jM [0,2,3,4,5,501,6,507] [1] (jG 5 [208,213] [(4,a_ 0 b5)] (kL [2] [3] ((abe (G:=G) (fs:=fs) (xs:=xs) (af:=af) (S:=S) (V:=V) (tr:=tr)).val (zc (Value.int .i64) (show S.aL=(toR S g).aL from rfl))) ?_ (by rintro _ _ ⟨rfl,rfl⟩;kernel_rfl)))))
  rintro _ _ ⟨rfl,rfl⟩
  exact jG 1 [214] [(0,p_ ⟨[],none,none,none,some (.bool true)⟩ [(Value.bool (decide (((toR S g).aL:Int)=((toR S g).aL:Int))))=(.bool true)] ⟨nh,trivial⟩)] (eu.last d6 (jK 1 [4] [] (NL (aF.np (NX (ax.ret (aF.adu (v:=.bool true) (l:=[]) (eV:=[]) [] [4] aH (λ_=>d6) trivial rfl d6 (rfl))))))))
 refine ax.region (jK 1 [23] [(0,A_ 1 b1 9)] (iK [] (Vo (β:=oL) (X:=X) h0 A c Y hG hB Af cf fs hF (oM.wide d8) Aa ca xs hA gA) ?_))
 rintro ag7 _ _ uD ⟨rfl,rfl⟩
 replace hG:=hG.le uD
 replace hF:=hF.le uD
 replace hA:=hA.le uD
 replace hS:=hS.le uD
 replace hg:=hg.le uD
 replace hE:=hE.le uD
 replace aH:=aH.trans uD
 refine jK 5 [5,6] [] (NS (jK 8 [29,31,33,35] [(1,a_ 1 b1),(3,a_ 1 b1),(5,A_ 1 b1 5),(7,A_ 1 b1 2)] (iK [] (Yp (β:=ag7) (X:=X) h0 A c hG hB cf hF (oM.wide d8) ca hA gA) ?_)))
 rintro ahM _ _ uE ⟨rfl,rfl⟩
 replace hG:=hG.le uE
 replace hF:=hF.le uE
 replace hA:=hA.le uE
 replace hS:=hS.le uE
 replace hg:=hg.le uE
 replace hE:=hE.le uE
 replace aH:=aH.trans uE
 exact jN 6 [7,8] (λnO=>[(4,A_ 2 nO 16)]) (λ_=>[]) (λnO=>.aD nO (uZ) 47) (λnO=>NZ (jK 7 [45] [(2,p_ ⟨[],none,none,none,some (.bool false)⟩ [(Value.bool (!decide (((fL X ns af):Int)=((fL X ns af):Int))))=(.bool false)] ⟨nh,trivial⟩)] (NT (SR (jK 12 [4] [(5,p_ ⟨[],none,none,none,some (.bool true)⟩ [(Value.bool (decide (((fL X ns af):Int)=((fL X ns af):Int))))=(.bool true)] ⟨nh,trivial⟩),(9,wNF (((fL X ns af):Int)=(0:Int)) h0)] (NN (ax.ret (aF.bq (aF.adu (v:=.bool true) (l:=[]) (eV:=[]) [] [0] aH (λ_=>d6) trivial rfl d6 (rfl))))))))))
end
section
open Go.ChangeShapes Go.WideShapes Go.ChangeAt Go.RowKit
structure CX (l:List ByteArray) (b:Nat):Prop where
 len:l.length+1<=b
 size:∀i,i<l.length->(pc l i).size+1<=b
theorem CX.mono {l:List ByteArray} {b c:Nat} (h:CX l b) (hb:b<=c):CX l c:=⟨Pd h.len hb,λi hi=>Pd (h.size i hi) hb⟩
theorem J8:∀(d:List ByteArray) (k:Nat),fV (λ_ s=>[Value.string s]) k d=kQ d
 |[],_=>rfl
 |b::r,k=>by rw [fV,J8 r (k+1)];rfl
section
variable {H:Type} {enc:TypeId×Value->H} {W:World} {sp:Nat->Bool}
theorem Vv {P:Program} {t:TypeId} {n:Nat} {cs:List Value} {x:DataW H×List MemPlace} (ht:P.underlying t=some .string) (h:DataW.trod enc P W 0 sp true n t cs=some x):∃s:ByteArray,cs=[Value.string s]/\s.size+1<=Rows.uptoBulk x.1:=by
 obtain⟨s,h1,h2,_⟩:=DataW.trod_string ht h
 refine⟨s,h1,?_⟩
 rw [h2]
 simp only [Rows.uptoBulk,Array.length_toList]
 exact N6 _
theorem Ru {n:Nat} {c:Value} {x:DataW H×List MemPlace} (h:DataW.trod enc Tryz.prog W 0 sp true n 67 [c]=some x) :
 ∃A cp,∃ss:List ByteArray,c=.slice A ss.length cp/\fF (B0 W) A ss/\CX ss (Rows.uptoBulk x.1):=by
 obtain⟨A,cp,xs,D,h1,_,_,h2,h4,h3⟩:=t7 (α:=ByteArray) (f:=λs=>[Value.string s]) (Q:=λs d=>s.size+1<=Rows.uptoBulk d) Tryz.underlying67 (size:=1) d6 d8 (λn cs x h=>Vv Tryz.underlying9 h) (λ_=>rfl) h
 cases h1
 rw [J8] at h2
 have h5:=wz ((List.range xs.length).map D)
 have h3:Rows.uptoBulkAll ((List.range xs.length).map D)+1<=Rows.uptoBulk x.1:=h3
 refine⟨_,_,xs,rfl,h2,by simp at h5;omega,λi hi=>?_⟩
 have h6:=h4 i hi
 have h7:=zA (D:=D) hi
 have e:pc xs i=xs.getD i default:=rfl
 rw [e]
 omega
end
section
variable {H:Type} {enc:TypeId×Value->H} {W:World} {sp:Nat->Bool}
theorem YG (l:List (DataW H)) (d:DataW H):Rows.uptoBulkAll (l++[d])=Rows.uptoBulkAll l+Rows.uptoBulk d:=by
 induction l with
 |nil=>simp [Rows.uptoBulkAll]
 |cons x r ih=>simp only [aib,Rows.uptoBulkAll,ih];omega
theorem QF {D:Nat->DataW H} {f:Nat->Nat}:∀n,(∀i,i<n->f i<=Rows.uptoBulk (D i))->Lj f n<=Rows.uptoBulkAll ((List.range n).map D)
 |0,_=>L4 _
 |n+1,h=>by
   rw [List.range_succ,aik,List.map_singleton,YG]
   exact Nat.add_le_add (QF n λi hi=>h i d5) (h n d5)
theorem YH {n:Nat} {cs:List Value} {x:DataW H×List MemPlace} (h:DataW.trod enc Tryz.prog W 0 sp true n 69 cs=some x) :
 ∃w:vX,cs=Vu w/\fF (B0 W) w.A w.ps/\CX w.ps (Rows.uptoBulk x.1):=by
 obtain⟨ys,m,_,hx,hl,tf,hf⟩:=DataW.trod_struct Tryz.underlying69 h
 have hC:Tryz.prog.cellsOf 69=3:=d6
 rw [hC] at hl
 match cs,hl with
 |[c0,c1,c2],_=>
   obtain⟨h0,b0⟩:=dQ (hf 0 _ rfl) (by rw [tf];decide)
   obtain⟨h1,_⟩:=dQ (hf 1 _ rfl) (by rw [tf];decide)
   obtain⟨h2,_⟩:=dQ (hf 2 _ rfl) (by rw [tf];decide)
   obtain⟨A,cp,ss,rfl,hP,hB⟩:=Ru (c:=c0) h0
   obtain⟨z,rfl,_⟩:=y8 (c:=c1) Tryz.underlying3 h1
   obtain⟨b,e,_⟩:=DataW.trod_bool Tryz.underlying4 h2
   cases e
   have hb:Rows.uptoBulk x.1=Rows.uptoBulk (.agg (ys.map (·.1))):=by rw [hx]
   exact⟨⟨A,cp,ss,z,b⟩,rfl,hP,hB.mono d5⟩
theorem open_ways {v:Value} {d:DataW H} {ps:List MemPlace} {r:Go.Reach} {b0:Nat} (hval:Value.okWide Tryz.prog W r b0 35 v) (h:DataW.Trod enc Tryz.prog W 0 sp true 35 v d ps) (hb:Rows.uptoBulk d<=1048576) :
 ∃A cp,∃ws:List vX,v=.slice A ws.length cp/\iZ (B0 W) A ws/\ws.length<=cp:=by
 obtain⟨a,n,c,rfl⟩:=okWide_slice Tryz.underlying35 hval
 obtain⟨fuel,h⟩:=h
 obtain⟨A,cp,xs,D,h1,WA,_,h2,h4,h3⟩:=t7 (α:=vX) (f:=Vu) (Q:=λw d=>fF (B0 W) w.A w.ps/\CX w.ps (Rows.uptoBulk d)) Tryz.underlying35 (size:=3) d6 d8 (λn cs x h=>YH h) (λ_=>rfl) h
 cases h1
 have h3:Rows.uptoBulkAll ((List.range xs.length).map D)+1<=Rows.uptoBulk d:=h3
 refine⟨a,c,xs,rfl,⟨h2,λi hi=>⟨(h4 i hi).1,λj hj=>?_⟩,?_⟩,WA⟩
 ·have h6:(pc (xs.getD i default).ps j).size+1<=_:=(h4 i hi).2.size j hj
  have h7:=zA (D:=D) hi
  show (pc (xs.getD i default).ps j).size<=_
  omega
 have:=QF (D:=D) (f:=λi=>(way xs i).ps.length) xs.length λi hi=>by
  have h6:(xs.getD i default).ps.length+1<=_:=(h4 i hi).2.len
  show (xs.getD i default).ps.length<=_
  omega
 show Lj _ _<=_
 omega
end
end
section
open Go.RowKit
theorem glob_ok {W:World} (h:W.ShapedOpen Tryz.prog):iX (B0 W):=by
 obtain⟨m,hm⟩:=cell_of_shapedOpen_int (g:=1) (t:=3) (zero:=#[.int .i64 0]) (k:=.i64) h (ahT d6) d6 rfl d6 d6 Tryz.underlying3
 exact⟨m,Kf hm,hm⟩
theorem et:Tryz.prog.globalNamed "errors.errorType" = some 0:=d6
theorem rtF:(Tryz.prog.cutTypes.find? (·.1 == "internal/reflectlite.rtype")).map (·.2)=some 219:=d6
theorem afl:((List.range 381).filter λt=>Tryz.prog.rowNamed t [101,114,114,111,114])=[74]:=d6
theorem aga:Tryz.prog.types.size=381:=d6
theorem err_laid {W:World} (h:laidMetH Tryz.prog Rows.resolveWalksUptoRow.laid W):oC (B0 W):=by
 have h':laidMet Tryz.prog [] W/\handlesMet Tryz.prog Rows.resolveWalksUptoRow.laid W:=h
 obtain⟨name,u,ty,e1,e2,e3,e4,e5⟩:=h'.2 _ (ah5.2 rfl)
 have en:name=[101,114,114,111,114]:=(aiy e1).symm
 subst en
 obtain rfl:=aiy (rtF.symm.trans e2)
 have hm:ty∈(List.range 381).filter λt=>Tryz.prog.rowNamed t [101,114,114,111,114]:=List.mem_filter.2 ⟨List.mem_range.2 (by rw [←aga];exact e3),e4⟩
 rw [afl] at hm
 obtain rfl:=ah5.1 hm
 have hh:typeHandle Tryz.prog 74=.pointer (some ⟨4,74,none⟩):=d6
 rw [hh] at e5
 have hc:W.cell? ⟨0,0,none⟩=some (.iface 219 (.agg #[.pointer (some ⟨4,74,none⟩)])):=by simpa using World.var?_cell et e5 0
 exact⟨Kf hc,hc⟩
noncomputable def laidWorld (os:Os):World:=
 {World.holding Tryz.prog os ⟨#[],#[],[]⟩ with heap:=(World.holding Tryz.prog os ⟨#[],#[],[]⟩).heap.modify 0 fun
  |.cells _ t frozen=>.cells #[.iface 219 (.agg #[.pointer (some ⟨4,74,none⟩)])] t frozen
  |o=>o}
theorem laidWorld_met (os:Os) (args:Array Value):laidMetH Tryz.prog Rows.resolveWalksUptoRow.laid ((laidWorld os).forCall (λ_ _=>0) ⟨#[],args,[]⟩).memory:=
 laidMetH_of_parts (laidMet_nil _ _) d6
end
end Go.Proofs.YtfececghhgeapaaGreatDoor
