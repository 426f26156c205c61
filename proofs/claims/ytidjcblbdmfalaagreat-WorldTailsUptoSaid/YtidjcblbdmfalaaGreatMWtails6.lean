/-
  PROVED HERE: lemmas and contracts of functions (texts of this repo, joined; what the claim does not use is left out): XT, Zg, Lv.
  CONDITIONS: as the theorems say.
-/
import Derived.Test.YtidjcblbdmfalaaGreatMWtails5
import Derived.ChangeMaps5
import Derived.Leaving
import Derived.JoinedCond
set_option maxRecDepth 100000
set_option maxHeartbeats 4000000
namespace Go.Proofs.YtidjcblbdmfalaaGreat
section
open Go.RowKit Go.Maps bH aE
attribute [local irreducible] aj aS af ai
theorem law_worldTails (W:World) (A:Option Addr) (c:Nat) (ns:List aP) (Y:Lay) (hG:ay (B0 W) A ns Y) (hB:gn ns 1048576) (X:FM) (root:Int) (Af:Option Addr) (cf:Nat) (fs:List bJ) (hF:bX (B0 W) Af (aH bV fs)) (jZ:eZ fs 1048576) (Aa:Option Addr) (ca:Nat) (xs:List cC) (hA:bX (B0 W) Aa (aH cD xs)) (hab:gj xs 1048576) (hrw:(Lit.int .i64 root).wf=true) (A1:Option Addr) (c1:Nat) (cs:List aB) (hS:cI (B0 W) A1 cs) (_WQ:cs.length<=1048576) (hxc:cs.length<=c1) (hg:jf (B0 W)) (Mf:Option Addr) (mf:Nat) (gs:List bJ) (hF2:bX (B0 W) Mf (aH bV gs)) (hgb:eZ gs 1048576) (Ma:Option Addr) (ma:Nat) (ys:List cC) (iK:bX (B0 W) Ma (aH cD ys)) (hyb:gj ys 1048576) (hxy:xs.length+ys.length<=1048576) :
    Spec Tryz.prog (B0 W) 5 #[.agg #[.slice A (ns.length) (c),vI (root),vI (X.cN),vI (X.cB),vI (X.cH),vI (X.cS),vI (X.cZ),.slice Af (fs.length) (cf),.slice Aa (xs.length) (ca)],.slice A1 (cs.length) (c1),.agg #[.slice Mf (gs.length) (mf),.slice Ma (ys.length) (ma)]] [] (fun v _=>v=.bool true):=by
 have hle0:=B0.refl W
 have hfl:=jZ.len
 have hxn:=hab.len
 have hgl:=hgb.len
 have Xp:=hyb.len
 refine Spec.enter Tryz.func5 rfl Tryz.ntmps5 (Nat.le_of_ble_eq_true rfl) (fun R=>?_)
 refine SR (gN 1 (fun b1=>[(3,vP b1)]) (fun _=>[]) (fun _=>[]) (fun b1=>.blk b1 [.slice A (ns.length) (c),vI (root),vI (X.cN),vI (X.cB),vI (X.cH),vI (X.cS),vI (X.cZ),.slice Af (fs.length) (cf),.slice Aa (xs.length) (ca)] 34) (fun b1=>?_))
 refine gN 2 (fun b2=>[(5,vP b2)]) (fun _=>[]) (fun _=>[]) (fun b2=>.blk b2 [.slice Mf (gs.length) (mf),.slice Ma (ys.length) (ma)] 32) (fun b2=>?_)
 refine NN (af.seq (SR (aj.gA (d:=(some 15)) (R:=[.abs R,.blk b1 [.slice A (ns.length) (c),vI (root),vI (X.cN),vI (X.cB),vI (X.cH),vI (X.cS),vI (X.cZ),.slice Af (fs.length) (cf),.slice Aa (xs.length) (ca)] 34,.blk b2 [.slice Mf (gs.length) (mf),.slice Ma (ys.length) (ma)] 32]) (pk:=[0,1,2]) (fun _=>by kernel_rfl) (Oa hg) rfl (by kernel_rfl) ?_)))
 rintro CC _ _ iR ⟨rfl,rfl⟩
 replace hG:=hG.le iR
 replace hF:=hF.le iR
 replace hA:=hA.le iR
 replace hF2:=hF2.le iR
 replace iK:=iK.le iR
 replace hS:=hS.le iR
 replace hg:=hg.le iR
 replace hle0:=hle0.trans iR
 refine gK 1 [(16,.bool false)] [] ?_
 refine NN (CF (af.skip (NX (SR (gK 1 [(17,.slice A1 (cs.length) (c1))] [] ?_)))))
 refine gL [] (RO A1 c1 cs hxc) ?_
 rintro _ _ ⟨n,hn,Xq,rfl,rfl⟩
 refine gK 1 [(1,.slice A1 (n) (c1))] [] ?_
 refine NS (gK 2 [(20,.agg #[.slice Af (fs.length) (cf),.slice Aa (xs.length) (ca)])] [(1,A_ 1 b1 2)] ?_)
 refine gL [] (rE Af cf fs hF (by omega) Aa ca xs hA (by omega)) ?_
 rintro _ _ ⟨Bf,bf,Ba,ba,rfl,rfl⟩
 refine gN 2 (fun b4=>[(7,vP b4)]) (fun b4=>[(1,A_ 5 b4 2)]) (fun _=>[]) (fun b4=>.blk b4 [.slice Bf (fs.length) (bf),.slice Ba (xs.length) (ba)] 32) (fun b4=>?_)
 refine NN (af.seq (SR (aj.bI 0 (p:=.abs (av 39 2 Bf fs.length bf (aH bV fs))) (p':=.abs (av 39 2 Bf ((aL fs (gs.take 0) n).length) bf (aH bV (aL fs (gs.take 0) n)))) (by kernel_rfl) (by rw [En]) ?_)))
 refine aj.bI 5 (p:=.blk b4 [.slice Bf (fs.length) (bf),.slice Ba (xs.length) (ba)] 32) (p':=.blk b4 [.slice Bf ((aL fs (gs.take 0) n).length) (bf),.slice Ba (xs.length) (ba)] 32) (by kernel_rfl) (congrArg (fun n=>HP.blk _ [.slice _ n _,_] _) (show fs.length=(aL fs (gs.take 0) n).length by rw [En])) ?_
 refine gK 1 [(8,vI 0)] [] ?_
 refine NN (af.block ?_)
 refine af.loop (ι:=Nat×(Option Addr)×Nat) (fun ((j,Ar,cr):Nat×(Option Addr)×Nat)=>(j<=gs.length)) (fun ((j,Ar,cr):Nat×(Option Addr)×Nat)=>gs.length - j) (fun ((j,Ar,cr):Nat×(Option Addr)×Nat)=>[(1,.slice A1 (n) (c1)),(3,vP b1),(5,vP b2),(7,vP b4),(8,vI ↑j)]) (fun ((j,Ar,cr):Nat×(Option Addr)×Nat)=>[.abs (av 41 5 Ba xs.length ba (aH cD xs)),.blk b1 [.slice A (ns.length) (c),vI (root),vI (X.cN),vI (X.cB),vI (X.cH),vI (X.cS),vI (X.cZ),.slice Af (fs.length) (cf),.slice Aa (xs.length) (ca)] 34,.blk b2 [.slice Mf (gs.length) (mf),.slice Ma (ys.length) (ma)] 32,.blk b4 [.slice Ar ((aL fs (gs.take j) n).length) (cr),.slice Ba (xs.length) (ba)] 32,.abs (av 39 2 Ar ((aL fs (gs.take j) n).length) cr (aH bV (aL fs (gs.take j) n))),.abs R]) (0,Bf,bf) (idx:=[1,3,5,7,8]) (pk:=[1,3,4,5,0,2]) (show (0<=gs.length) from Nat.zero_le _) (fun _=>by kernel_rfl) rfl (by kernel_rfl) ?_
 rintro⟨j,Ar,cr⟩ hj
 show af _ _ _ _ [(1,.slice A1 (n) (c1)),(3,vP b1),(5,vP b2),(7,vP b4),(8,vI ↑j)] [.abs (av 41 5 Ba xs.length ba (aH cD xs)),.blk b1 [.slice A (ns.length) (c),vI (root),vI (X.cN),vI (X.cB),vI (X.cH),vI (X.cS),vI (X.cZ),.slice Af (fs.length) (cf),.slice Aa (xs.length) (ca)] 34,.blk b2 [.slice Mf (gs.length) (mf),.slice Ma (ys.length) (ma)] 32,.blk b4 [.slice Ar ((aL fs (gs.take j) n).length) (cr),.slice Ba (xs.length) (ba)] 32,.abs (av 39 2 Ar ((aL fs (gs.take j) n).length) cr (aH bV (aL fs (gs.take j) n))),.abs R] _
 refine af.seq (SR (gK 5 [(26,.bool (decide ((((j:Nat):Int):Int) < (((gs.length:Nat):Int):Int))))] [(2,a_ 2 b2)] ?_))
 refine NN (af.bg (p:=(((j:Nat):Int):Int) < (((gs.length:Nat):Int):Int)) (fun _=>by kernel_rfl) (fun tI=>?_) (fun tI=>?_))
 ·refine af.skip (NX (af.seq (af.block (SR ?_))))
  refine gK 8 [(36,.bool (decide (((dK gs j).at_:Int) < (1:Int))))] [(1,a_ 2 b2),(3,p_ ⟨[],some j,none,some ⟨(aq Mf),ak Mf,none⟩,none⟩ [((j:Nat):Int)=((j:Nat):Int),j < gs.length,(⟨(aq Mf),ak Mf,none⟩:Addr).spot=none,(Mf:Option Addr)=some ⟨(aq Mf),ak Mf,none⟩] ⟨rfl,by omega,rfl,Cb hF2 (i:=j) (by omega),trivial⟩),(5,p_ ⟨[.old (.int .i64 ((dK gs j).at_))],none,none,none,none⟩ [(Rd CC ⟨(aq Mf),ak Mf+j * 2,none⟩ (.int .i64 ((dK gs j).at_)))] ⟨tQ hF2 (i:=j) (by omega) (j:=0) rfl,trivial⟩)] ?_
  refine aj.fY 36 (((dK gs j).at_:Int) < (1:Int)) (fun _=>by kernel_rfl) (fun II=>?_) (fun II=>?_)
  ·refine gK 10 [(46,.bool true)] [] ?_
   refine NN (CT (af.iY (S:=[.blk b4 [.slice Ar ((aL fs (gs.take j) n).length) (cr),.slice Ba (xs.length) (ba)] 32,.blk b2 [.slice Mf (gs.length) (mf),.slice Ma (ys.length) (ma)] 32]) [(true,0),(true,1),(true,2),(true,3),(true,4),(true,5),(true,6),(false,7),(false,8),(true,9),(false,10)] [3,2] (by kernel_rfl) (by kernel_rfl) rfl (by kernel_rfl) ?_))
   refine gG [(false,7),(false,8),(true,9),(false,10)] [(1,.slice A1 (n) (c1)),(3,vP b1),(5,vP b2),(7,vP b4),(8,vI ↑j),(48,.slice Ar ((aL fs (gs.take j) n).length) (cr)),(53,.agg #[vI ((dK gs j).at_),vI ((dK gs j).kind)])] [0,1,2,3,4,5,6] [(1,a_ 0 b4),(3,a_ 1 b2),(5,p_ ⟨[],some j,none,some ⟨(aq Mf),ak Mf,none⟩,none⟩ [((j:Nat):Int)=((j:Nat):Int),j < gs.length,(⟨(aq Mf),ak Mf,none⟩:Addr).spot=none,(Mf:Option Addr)=some ⟨(aq Mf),ak Mf,none⟩] ⟨rfl,by omega,rfl,Cb hF2 (i:=j) (by omega),trivial⟩),(6,p_ ⟨[.old (.int .i64 ((dK gs j).at_)),.old (.int .i64 ((dK gs j).kind))],none,none,none,none⟩ [(Rd CC ⟨(aq Mf),ak Mf+j * 2+1,none⟩ (.int .i64 ((dK gs j).kind))),(Rd CC ⟨(aq Mf),ak Mf+j * 2,none⟩ (.int .i64 ((dK gs j).at_)))] ⟨tQ hF2 (i:=j) (by omega) (j:=1) rfl,tQ hF2 (i:=j) (by omega) (j:=0) rfl,trivial⟩)] ?_
   refine fk.cut (ι:=Nat) (fr':=fun (b5:Nat)=>[(1,.slice A1 (n) (c1)),(3,vP b1),(5,vP b2),(7,vP b4),(8,vI ↑j),(48,.slice Ar ((aL fs (gs.take j) n).length) (cr)),(54,.slice (some ⟨b5,0,none⟩) (1) (1))]) (hp':=fun (b5:Nat)=>[.abs (av 41 5 Ba xs.length ba (aH cD xs)),.blk b1 [.slice A (ns.length) (c),vI (root),vI (X.cN),vI (X.cB),vI (X.cH),vI (X.cS),vI (X.cZ),.slice Af (fs.length) (cf),.slice Aa (xs.length) (ca)] 34,.blk b2 [.slice Mf (gs.length) (mf),.slice Ma (ys.length) (ma)] 32,.blk b4 [.slice Ar ((aL fs (gs.take j) n).length) (cr),.slice Ba (xs.length) (ba)] 32,.abs (av 39 2 Ar ((aL fs (gs.take j) n).length) cr (aH bV (aL fs (gs.take j) n))),.abs R,.blk b5 [vI ((dK gs j).at_),vI ((dK gs j).kind)] 39]) [3,2] (by kernel_rfl) ?_ rfl (fun _=>by kernel_rfl) ?_
   ·refine gN 1 (fun b5=>[(54,.slice (some ⟨b5,0,none⟩) (1) (1))]) (fun _=>[]) (fun _=>[]) (fun b5=>.blk b5 [vI ((dK gs j).at_),vI ((dK gs j).kind)] 39) (fun b5=>?_)
    refine NL ?_
    exact MD b5 [1,3,5,7,8,48,54] [0,1,2,3,4,5,6]
   rintro b5
   refine fk.cut (ι:=(Option Addr)×Nat) (fr':=fun ((A6,c7):(Option Addr)×Nat)=>[(1,.slice A1 (n) (c1)),(3,vP b1),(5,vP b2),(7,vP b4),(8,vI ↑j),(55,.slice A6 (((aL fs (gs.take j) n).length+1)) (c7))]) (hp':=fun ((A6,c7):(Option Addr)×Nat)=>[.abs (av 41 5 Ba xs.length ba (aH cD xs)),.blk b1 [.slice A (ns.length) (c),vI (root),vI (X.cN),vI (X.cB),vI (X.cH),vI (X.cS),vI (X.cZ),.slice Af (fs.length) (cf),.slice Aa (xs.length) (ca)] 34,.blk b2 [.slice Mf (gs.length) (mf),.slice Ma (ys.length) (ma)] 32,.blk b4 [.slice Ar ((aL fs (gs.take j) n).length) (cr),.slice Ba (xs.length) (ba)] 32,.abs (av 39 2 A6 ((aL fs (gs.take j) n).length+1) c7 (aH bV (aL fs (gs.take (j+1)) n))),.abs R,.blk b5 [vI ((dK gs j).at_),vI ((dK gs j).kind)] 39]) [3,2] (by kernel_rfl) ?_ rfl (fun _=>by kernel_rfl) ?_
   ·refine aj.append 4 (d:=(some 55)) (t:=29) (e:=39) (z:=.agg #[vI 0,vI 0]) (size:=2) (bytes:=16) (n:=(aL fs (gs.take j) n).length) (cap:=cr) (A:=Ar) (xs:=(aH bV (aL fs (gs.take j) n))) (s:=(.tmp 48)) (x:=(.tmp 54)) (ats:=#[29,29]) (A':=some ⟨b5,0,none⟩) (m:=1) (c':=1) (news:=[vI ((dK gs j).at_),vI ((dK gs j).kind)]) (fun _=>by kernel_rfl) rfl (by kernel_rfl) (fun _=>by kernel_rfl) (fun _=>by kernel_rfl) Tryz.underlying29 (by kernel_rfl) rfl (by decide) (rfl) (by simp [Value.oneCell']) (jh (j:=6) rfl) (by unfold maxLen;have:=qX (fs:=fs) (gs:=gs) (n:=n) (j:=j);omega) (by have:=qX (fs:=fs) (gs:=gs) (n:=n) (j:=j);omega) (fun A6 c7=>?_)
    refine aj.bI 4 (p:=.abs (av 39 2 A6 (((aL fs (gs.take j) n).length)+1) c7 ((aH bV (aL fs (gs.take j) n))++[vI ((dK gs j).at_),vI ((dK gs j).kind)]))) (p':=.abs (av 39 2 A6 ((aL fs (gs.take j) n).length+1) c7 (aH bV (aL fs (gs.take (j+1)) n)))) (by kernel_rfl) (by rw [nA (by omega) (.inl II),lG];rfl) ?_
    refine aj.slot 55 (.slice A6 (((aL fs (gs.take j) n).length)+1) (c7)) (.slice A6 (((aL fs (gs.take j) n).length+1)) (c7)) (fun _=>by kernel_rfl) (rfl) ?_
    refine NL ?_
    exact MD (A6,c7) [1,3,5,7,8,55] [0,1,2,3,4,5,6]
   rintro⟨A6,c7⟩
   refine gG [(false,10)] [(1,.slice A1 (n) (c1)),(3,vP b1),(5,vP b2),(7,vP b4),(8,vI ↑j),(55,.slice A6 (((aL fs (gs.take j) n).length+1)) (c7)),(56,vP b4)] [9] [] ?_
   refine fk.last (by kernel_rfl) ?_
   refine gC 1 [] [(0,a_ 3 b4)] [(3,[(0,.slice A6 (((aL fs (gs.take j) n).length+1)) (c7))])] ?_
   refine NL (ai.np (ai.aJ (NX (af.region ?_))))
   refine aj.bI 4 (p:=.abs (av 39 2 A6 ((aL fs (gs.take j) n).length+1) c7 (aH bV (aL fs (gs.take (j+1)) n)))) (p':=.abs (av 39 2 A6 ((aL fs (gs.take (j+1)) n).length) c7 (aH bV (aL fs (gs.take (j+1)) n)))) (by kernel_rfl) (congrArg (fun n=>HP.abs (av 39 2 _ n _ _)) (by rw [nA (by omega) (.inl II),List.length_append];rfl)) ?_
   refine aj.bI 3 (p:=.blk b4 [.slice A6 (((aL fs (gs.take j) n).length+1)) (c7),.slice Ba (xs.length) (ba)] 32) (p':=.blk b4 [.slice A6 ((aL fs (gs.take (j+1)) n).length) (c7),.slice Ba (xs.length) (ba)] 32) (by kernel_rfl) (congrArg (fun n=>HP.blk _ [.slice _ n _,_] _) (show ((aL fs (gs.take j) n).length+1)=(aL fs (gs.take (j+1)) n).length by rw [nA (by omega) (.inl II),List.length_append];rfl)) ?_
   refine gK 3 [(8,vI ↑(j+1))] [(1,p_ ⟨[],none,none,none,some (vI ↑(j+1))⟩ [(Value.int .i64 (IntKind.wrap .i64 (((j:Nat):Int)+1)))=(.int .i64 ↑(j+1))] ⟨bA (by omega) (by omega) (by omega),trivial⟩)] ?_
   refine NL ?_
   exact ai.turn ((j+1),A6,c7) (idx:=[1,3,5,7,8]) (pk:=[0,1,2,3,4,5]) (show (((j+1))<=gs.length) from by omega) (by show gs.length - ((j+1)) < gs.length - j;omega) (fun _=>by kernel_rfl) rfl (by kernel_rfl)
  refine gK 10 [(46,.bool (decide (((dK gs j).at_:Int) > (((n:Nat):Int):Int))))] [(1,a_ 2 b2),(3,p_ ⟨[],some j,none,some ⟨(aq Mf),ak Mf,none⟩,none⟩ [((j:Nat):Int)=((j:Nat):Int),j < gs.length,(⟨(aq Mf),ak Mf,none⟩:Addr).spot=none,(Mf:Option Addr)=some ⟨(aq Mf),ak Mf,none⟩] ⟨rfl,by omega,rfl,Cb hF2 (i:=j) (by omega),trivial⟩),(5,p_ ⟨[.old (.int .i64 ((dK gs j).at_))],none,none,none,none⟩ [(Rd CC ⟨(aq Mf),ak Mf+j * 2,none⟩ (.int .i64 ((dK gs j).at_)))] ⟨tQ hF2 (i:=j) (by omega) (j:=0) rfl,trivial⟩)] ?_
  refine NN (af.bg (p:=((dK gs j).at_:Int) > (((n:Nat):Int):Int)) (fun _=>by kernel_rfl) (fun h46=>?_) (fun h46=>?_))
  ·refine af.iY (S:=[.blk b4 [.slice Ar ((aL fs (gs.take j) n).length) (cr),.slice Ba (xs.length) (ba)] 32,.blk b2 [.slice Mf (gs.length) (mf),.slice Ma (ys.length) (ma)] 32]) [(true,0),(true,1),(true,2),(true,3),(true,4),(true,5),(true,6),(false,7),(false,8),(true,9),(false,10)] [3,2] (by kernel_rfl) (by kernel_rfl) rfl (by kernel_rfl) ?_
   refine gG [(false,7),(false,8),(true,9),(false,10)] [(1,.slice A1 (n) (c1)),(3,vP b1),(5,vP b2),(7,vP b4),(8,vI ↑j),(48,.slice Ar ((aL fs (gs.take j) n).length) (cr)),(53,.agg #[vI ((dK gs j).at_),vI ((dK gs j).kind)])] [0,1,2,3,4,5,6] [(1,a_ 0 b4),(3,a_ 1 b2),(5,p_ ⟨[],some j,none,some ⟨(aq Mf),ak Mf,none⟩,none⟩ [((j:Nat):Int)=((j:Nat):Int),j < gs.length,(⟨(aq Mf),ak Mf,none⟩:Addr).spot=none,(Mf:Option Addr)=some ⟨(aq Mf),ak Mf,none⟩] ⟨rfl,by omega,rfl,Cb hF2 (i:=j) (by omega),trivial⟩),(6,p_ ⟨[.old (.int .i64 ((dK gs j).at_)),.old (.int .i64 ((dK gs j).kind))],none,none,none,none⟩ [(Rd CC ⟨(aq Mf),ak Mf+j * 2+1,none⟩ (.int .i64 ((dK gs j).kind))),(Rd CC ⟨(aq Mf),ak Mf+j * 2,none⟩ (.int .i64 ((dK gs j).at_)))] ⟨tQ hF2 (i:=j) (by omega) (j:=1) rfl,tQ hF2 (i:=j) (by omega) (j:=0) rfl,trivial⟩)] ?_
   refine fk.cut (ι:=Nat) (fr':=fun (b8:Nat)=>[(1,.slice A1 (n) (c1)),(3,vP b1),(5,vP b2),(7,vP b4),(8,vI ↑j),(48,.slice Ar ((aL fs (gs.take j) n).length) (cr)),(54,.slice (some ⟨b8,0,none⟩) (1) (1))]) (hp':=fun (b8:Nat)=>[.abs (av 41 5 Ba xs.length ba (aH cD xs)),.blk b1 [.slice A (ns.length) (c),vI (root),vI (X.cN),vI (X.cB),vI (X.cH),vI (X.cS),vI (X.cZ),.slice Af (fs.length) (cf),.slice Aa (xs.length) (ca)] 34,.blk b2 [.slice Mf (gs.length) (mf),.slice Ma (ys.length) (ma)] 32,.blk b4 [.slice Ar ((aL fs (gs.take j) n).length) (cr),.slice Ba (xs.length) (ba)] 32,.abs (av 39 2 Ar ((aL fs (gs.take j) n).length) cr (aH bV (aL fs (gs.take j) n))),.abs R,.blk b8 [vI ((dK gs j).at_),vI ((dK gs j).kind)] 39]) [3,2] (by kernel_rfl) ?_ rfl (fun _=>by kernel_rfl) ?_
   ·refine gN 1 (fun b8=>[(54,.slice (some ⟨b8,0,none⟩) (1) (1))]) (fun _=>[]) (fun _=>[]) (fun b8=>.blk b8 [vI ((dK gs j).at_),vI ((dK gs j).kind)] 39) (fun b8=>?_)
    refine NL ?_
    exact MD b8 [1,3,5,7,8,48,54] [0,1,2,3,4,5,6]
   rintro b8
   refine fk.cut (ι:=(Option Addr)×Nat) (fr':=fun ((A9,c10):(Option Addr)×Nat)=>[(1,.slice A1 (n) (c1)),(3,vP b1),(5,vP b2),(7,vP b4),(8,vI ↑j),(55,.slice A9 (((aL fs (gs.take j) n).length+1)) (c10))]) (hp':=fun ((A9,c10):(Option Addr)×Nat)=>[.abs (av 41 5 Ba xs.length ba (aH cD xs)),.blk b1 [.slice A (ns.length) (c),vI (root),vI (X.cN),vI (X.cB),vI (X.cH),vI (X.cS),vI (X.cZ),.slice Af (fs.length) (cf),.slice Aa (xs.length) (ca)] 34,.blk b2 [.slice Mf (gs.length) (mf),.slice Ma (ys.length) (ma)] 32,.blk b4 [.slice Ar ((aL fs (gs.take j) n).length) (cr),.slice Ba (xs.length) (ba)] 32,.abs (av 39 2 A9 ((aL fs (gs.take j) n).length+1) c10 (aH bV (aL fs (gs.take (j+1)) n))),.abs R,.blk b8 [vI ((dK gs j).at_),vI ((dK gs j).kind)] 39]) [3,2] (by kernel_rfl) ?_ rfl (fun _=>by kernel_rfl) ?_
   ·refine aj.append 4 (d:=(some 55)) (t:=29) (e:=39) (z:=.agg #[vI 0,vI 0]) (size:=2) (bytes:=16) (n:=(aL fs (gs.take j) n).length) (cap:=cr) (A:=Ar) (xs:=(aH bV (aL fs (gs.take j) n))) (s:=(.tmp 48)) (x:=(.tmp 54)) (ats:=#[29,29]) (A':=some ⟨b8,0,none⟩) (m:=1) (c':=1) (news:=[vI ((dK gs j).at_),vI ((dK gs j).kind)]) (fun _=>by kernel_rfl) rfl (by kernel_rfl) (fun _=>by kernel_rfl) (fun _=>by kernel_rfl) Tryz.underlying29 (by kernel_rfl) rfl (by decide) (rfl) (by simp [Value.oneCell']) (jh (j:=6) rfl) (by unfold maxLen;have:=qX (fs:=fs) (gs:=gs) (n:=n) (j:=j);omega) (by have:=qX (fs:=fs) (gs:=gs) (n:=n) (j:=j);omega) (fun A9 c10=>?_)
    refine aj.bI 4 (p:=.abs (av 39 2 A9 (((aL fs (gs.take j) n).length)+1) c10 ((aH bV (aL fs (gs.take j) n))++[vI ((dK gs j).at_),vI ((dK gs j).kind)]))) (p':=.abs (av 39 2 A9 ((aL fs (gs.take j) n).length+1) c10 (aH bV (aL fs (gs.take (j+1)) n)))) (by kernel_rfl) (by rw [nA (by omega) (.inr h46),lG];rfl) ?_
    refine aj.slot 55 (.slice A9 (((aL fs (gs.take j) n).length)+1) (c10)) (.slice A9 (((aL fs (gs.take j) n).length+1)) (c10)) (fun _=>by kernel_rfl) (rfl) ?_
    refine NL ?_
    exact MD (A9,c10) [1,3,5,7,8,55] [0,1,2,3,4,5,6]
   rintro⟨A9,c10⟩
   refine gG [(false,10)] [(1,.slice A1 (n) (c1)),(3,vP b1),(5,vP b2),(7,vP b4),(8,vI ↑j),(55,.slice A9 (((aL fs (gs.take j) n).length+1)) (c10)),(56,vP b4)] [9] [] ?_
   refine fk.last (by kernel_rfl) ?_
   refine gC 1 [] [(0,a_ 3 b4)] [(3,[(0,.slice A9 (((aL fs (gs.take j) n).length+1)) (c10))])] ?_
   refine NL (ai.np (ai.aJ (NX (af.region ?_))))
   refine aj.bI 4 (p:=.abs (av 39 2 A9 ((aL fs (gs.take j) n).length+1) c10 (aH bV (aL fs (gs.take (j+1)) n)))) (p':=.abs (av 39 2 A9 ((aL fs (gs.take (j+1)) n).length) c10 (aH bV (aL fs (gs.take (j+1)) n)))) (by kernel_rfl) (congrArg (fun n=>HP.abs (av 39 2 _ n _ _)) (by rw [nA (by omega) (.inr h46),List.length_append];rfl)) ?_
   refine aj.bI 3 (p:=.blk b4 [.slice A9 (((aL fs (gs.take j) n).length+1)) (c10),.slice Ba (xs.length) (ba)] 32) (p':=.blk b4 [.slice A9 ((aL fs (gs.take (j+1)) n).length) (c10),.slice Ba (xs.length) (ba)] 32) (by kernel_rfl) (congrArg (fun n=>HP.blk _ [.slice _ n _,_] _) (show ((aL fs (gs.take j) n).length+1)=(aL fs (gs.take (j+1)) n).length by rw [nA (by omega) (.inr h46),List.length_append];rfl)) ?_
   refine gK 3 [(8,vI ↑(j+1))] [(1,p_ ⟨[],none,none,none,some (vI ↑(j+1))⟩ [(Value.int .i64 (IntKind.wrap .i64 (((j:Nat):Int)+1)))=(.int .i64 ↑(j+1))] ⟨bA (by omega) (by omega) (by omega),trivial⟩)] ?_
   refine NL ?_
   exact ai.turn ((j+1),A9,c10) (idx:=[1,3,5,7,8]) (pk:=[0,1,2,3,4,5]) (show (((j+1))<=gs.length) from by omega) (by show gs.length - ((j+1)) < gs.length - j;omega) (fun _=>by kernel_rfl) rfl (by kernel_rfl)
  refine af.skip (ai.aJ (NX (af.region ?_)))
  refine aj.bI 4 (p:=.abs (av 39 2 Ar ((aL fs (gs.take j) n).length) cr (aH bV (aL fs (gs.take j) n)))) (p':=.abs (av 39 2 Ar ((aL fs (gs.take (j+1)) n).length) cr (aH bV (aL fs (gs.take (j+1)) n)))) (by kernel_rfl) (by rw [CG (by omega) (fun e=>e.elim II h46)]) ?_
  refine aj.bI 3 (p:=.blk b4 [.slice Ar ((aL fs (gs.take j) n).length) (cr),.slice Ba (xs.length) (ba)] 32) (p':=.blk b4 [.slice Ar ((aL fs (gs.take (j+1)) n).length) (cr),.slice Ba (xs.length) (ba)] 32) (by kernel_rfl) (congrArg (fun n=>HP.blk _ [.slice _ n _,_] _) (show (aL fs (gs.take j) n).length=(aL fs (gs.take (j+1)) n).length by rw [CG (by omega) (fun e=>e.elim II h46)])) ?_
  refine gK 3 [(8,vI ↑(j+1))] [(1,p_ ⟨[],none,none,none,some (vI ↑(j+1))⟩ [(Value.int .i64 (IntKind.wrap .i64 (((j:Nat):Int)+1)))=(.int .i64 ↑(j+1))] ⟨bA (by omega) (by omega) (by omega),trivial⟩)] ?_
  refine NL ?_
  exact ai.turn ((j+1),Ar,cr) (idx:=[1,3,5,7,8]) (pk:=[0,1,2,3,4,5]) (show (((j+1))<=gs.length) from by omega) (by show gs.length - ((j+1)) < gs.length - j;omega) (fun _=>by kernel_rfl) rfl (by kernel_rfl)
 refine af.exit (ai.aU (ai.aU (ai.cM (NX (af.seq (SR ?_))))))
 have Um:(aL fs (gs.take j) n)=(aL fs gs n):=by rw [show j=gs.length by omega,List.take_length]
 refine aj.bI 4 (p:=.abs (av 39 2 Ar ((aL fs (gs.take j) n).length) cr (aH bV (aL fs (gs.take j) n)))) (p':=.abs (av 39 2 Ar ((aL fs gs n).length) cr (aH bV (aL fs gs n)))) (by kernel_rfl) (by rw [Um]) ?_
 refine aj.bI 3 (p:=.blk b4 [.slice Ar ((aL fs (gs.take j) n).length) (cr),.slice Ba (xs.length) (ba)] 32) (p':=.blk b4 [.slice Ar ((aL fs gs n).length) (cr),.slice Ba (xs.length) (ba)] 32) (by kernel_rfl) (congrArg (fun n=>HP.blk _ [.slice _ n _,_] _) (show (aL fs (gs.take j) n).length=(aL fs gs n).length by rw [Um])) ?_
 refine aj.lM (Φ:=fun β'=>bX β' Ar (aH bV (aL fs gs n))) 4 [0,1,2,3,5] (cR:=[.abs (av 41 5 Ba xs.length ba (aH cD xs)),.blk b1 [.slice A (ns.length) (c),vI (root),vI (X.cN),vI (X.cB),vI (X.cH),vI (X.cS),vI (X.cZ),.slice Af (fs.length) (cf),.slice Aa (xs.length) (ca)] 34,.blk b2 [.slice Mf (gs.length) (mf),.slice Ma (ys.length) (ma)] 32,.blk b4 [.slice Ar ((aL fs gs n).length) (cr),.slice Ba (xs.length) (ba)] 32,.abs R]) rfl rfl (by kernel_rfl) (fun F w h β' h1 h2=>bX.jb h h1 h2) (fun pG iT ug=>?_)
 replace hG:=hG.le iT
 replace hF:=hF.le iT
 replace hA:=hA.le iT
 replace hF2:=hF2.le iT
 replace iK:=iK.le iT
 replace hS:=hS.le iT
 replace hg:=hg.le iT
 replace hle0:=hle0.trans iT
 refine aj.bI 0 (p:=.abs (av 41 5 Ba xs.length ba (aH cD xs))) (p':=.abs (av 41 5 Ba ((aO xs (ys.take 0) n).length) ba (aH cD (aO xs (ys.take 0) n)))) (by kernel_rfl) (by rw [Eo]) ?_
 refine aj.bI 3 (p:=.blk b4 [.slice Ar ((aL fs gs n).length) (cr),.slice Ba (xs.length) (ba)] 32) (p':=.blk b4 [.slice Ar ((aL fs gs n).length) (cr),.slice Ba ((aO xs (ys.take 0) n).length) (ba)] 32) (by kernel_rfl) (congrArg (fun n=>HP.blk _ [_,.slice _ n _] _) (show xs.length=(aO xs (ys.take 0) n).length by rw [Eo])) ?_
 refine gK 1 [(9,vI 0)] [] ?_
 refine NN (af.block ?_)
 refine af.loop (ι:=Nat×(Option Addr)×Nat) (fun ((j,As,cz):Nat×(Option Addr)×Nat)=>(j<=ys.length)) (fun ((j,As,cz):Nat×(Option Addr)×Nat)=>ys.length - j) (fun ((j,As,cz):Nat×(Option Addr)×Nat)=>[(1,.slice A1 (n) (c1)),(3,vP b1),(5,vP b2),(7,vP b4),(9,vI ↑j)]) (fun ((j,As,cz):Nat×(Option Addr)×Nat)=>[.blk b1 [.slice A (ns.length) (c),vI (root),vI (X.cN),vI (X.cB),vI (X.cH),vI (X.cS),vI (X.cZ),.slice Af (fs.length) (cf),.slice Aa (xs.length) (ca)] 34,.blk b2 [.slice Mf (gs.length) (mf),.slice Ma (ys.length) (ma)] 32,.blk b4 [.slice Ar ((aL fs gs n).length) (cr),.slice As ((aO xs (ys.take j) n).length) (cz)] 32,.abs (av 41 5 As ((aO xs (ys.take j) n).length) cz (aH cD (aO xs (ys.take j) n))),.abs R]) (0,Ba,ba) (idx:=[1,3,5,7,9]) (pk:=[1,2,3,0,4]) (show (0<=ys.length) from Nat.zero_le _) (fun _=>by kernel_rfl) rfl (by kernel_rfl) ?_
 rintro⟨j,As,cz⟩ hj
 show af _ _ _ _ [(1,.slice A1 (n) (c1)),(3,vP b1),(5,vP b2),(7,vP b4),(9,vI ↑j)] [.blk b1 [.slice A (ns.length) (c),vI (root),vI (X.cN),vI (X.cB),vI (X.cH),vI (X.cS),vI (X.cZ),.slice Af (fs.length) (cf),.slice Aa (xs.length) (ca)] 34,.blk b2 [.slice Mf (gs.length) (mf),.slice Ma (ys.length) (ma)] 32,.blk b4 [.slice Ar ((aL fs gs n).length) (cr),.slice As ((aO xs (ys.take j) n).length) (cz)] 32,.abs (av 41 5 As ((aO xs (ys.take j) n).length) cz (aH cD (aO xs (ys.take j) n))),.abs R] _
 refine af.seq (SR (gK 5 [(61,.bool (decide ((((j:Nat):Int):Int) < (((ys.length:Nat):Int):Int))))] [(2,a_ 1 b2)] ?_))
 refine NN (af.bg (p:=(((j:Nat):Int):Int) < (((ys.length:Nat):Int):Int)) (fun _=>by kernel_rfl) (fun Wb=>?_) (fun Wb=>?_))
 ·refine af.skip (NX (af.seq (af.block (SR ?_))))
  refine gK 8 [(71,.bool (decide (((act ys j).at_:Int) < (1:Int))))] [(1,a_ 1 b2),(3,p_ ⟨[],some j,none,some ⟨(aq Ma),ak Ma,none⟩,none⟩ [((j:Nat):Int)=((j:Nat):Int),j < ys.length,(⟨(aq Ma),ak Ma,none⟩:Addr).spot=none,(Ma:Option Addr)=some ⟨(aq Ma),ak Ma,none⟩] ⟨rfl,by omega,rfl,zk iK (i:=j) (by omega),trivial⟩),(5,p_ ⟨[.old (.int .i64 ((act ys j).at_))],none,none,none,none⟩ [(Rd pG ⟨(aq Ma),ak Ma+j * 5,none⟩ (.int .i64 ((act ys j).at_)))] ⟨iJ iK (i:=j) (by omega) (j:=0) rfl,trivial⟩)] ?_
  refine aj.fY 71 (((act ys j).at_:Int) < (1:Int)) (fun _=>by kernel_rfl) (fun IJ=>?_) (fun IJ=>?_)
  ·refine gK 10 [(81,.bool true)] [] ?_
   refine NN (CT (af.iY (S:=[.blk b4 [.slice Ar ((aL fs gs n).length) (cr),.slice As ((aO xs (ys.take j) n).length) (cz)] 32,.blk b2 [.slice Mf (gs.length) (mf),.slice Ma (ys.length) (ma)] 32]) [(true,0),(true,1),(true,2),(true,3),(true,4),(true,5),(true,6),(false,7),(false,8),(true,9),(false,10)] [2,1] (by kernel_rfl) (by kernel_rfl) rfl (by kernel_rfl) ?_))
   refine gG [(false,7),(false,8),(true,9),(false,10)] [(1,.slice A1 (n) (c1)),(3,vP b1),(5,vP b2),(7,vP b4),(9,vI ↑j),(83,.slice As ((aO xs (ys.take j) n).length) (cz)),(88,.agg #[vI ((act ys j).at_),vI ((act ys j).op),.string (act ys j).path,.string (act ys j).to,.string (act ys j).text])] [0,1,2,3,4,5,6] [(1,a_ 0 b4),(3,a_ 1 b2),(5,p_ ⟨[],some j,none,some ⟨(aq Ma),ak Ma,none⟩,none⟩ [((j:Nat):Int)=((j:Nat):Int),j < ys.length,(⟨(aq Ma),ak Ma,none⟩:Addr).spot=none,(Ma:Option Addr)=some ⟨(aq Ma),ak Ma,none⟩] ⟨rfl,by omega,rfl,zk iK (i:=j) (by omega),trivial⟩),(6,p_ ⟨[.old (.int .i64 ((act ys j).at_)),.old (.int .i64 ((act ys j).op)),.old (.string (act ys j).path),.old (.string (act ys j).to),.old (.string (act ys j).text)],none,none,none,none⟩ [(Rd pG ⟨(aq Ma),ak Ma+j * 5+4,none⟩ (.string (act ys j).text)),(Rd pG ⟨(aq Ma),ak Ma+j * 5+3,none⟩ (.string (act ys j).to)),(Rd pG ⟨(aq Ma),ak Ma+j * 5+2,none⟩ (.string (act ys j).path)),(Rd pG ⟨(aq Ma),ak Ma+j * 5+1,none⟩ (.int .i64 ((act ys j).op))),(Rd pG ⟨(aq Ma),ak Ma+j * 5,none⟩ (.int .i64 ((act ys j).at_)))] ⟨iJ iK (i:=j) (by omega) (j:=4) rfl,iJ iK (i:=j) (by omega) (j:=3) rfl,iJ iK (i:=j) (by omega) (j:=2) rfl,iJ iK (i:=j) (by omega) (j:=1) rfl,iJ iK (i:=j) (by omega) (j:=0) rfl,trivial⟩)] ?_
   refine fk.cut (ι:=Nat) (fr':=fun (b12:Nat)=>[(1,.slice A1 (n) (c1)),(3,vP b1),(5,vP b2),(7,vP b4),(9,vI ↑j),(83,.slice As ((aO xs (ys.take j) n).length) (cz)),(89,.slice (some ⟨b12,0,none⟩) (1) (1))]) (hp':=fun (b12:Nat)=>[.blk b1 [.slice A (ns.length) (c),vI (root),vI (X.cN),vI (X.cB),vI (X.cH),vI (X.cS),vI (X.cZ),.slice Af (fs.length) (cf),.slice Aa (xs.length) (ca)] 34,.blk b2 [.slice Mf (gs.length) (mf),.slice Ma (ys.length) (ma)] 32,.blk b4 [.slice Ar ((aL fs gs n).length) (cr),.slice As ((aO xs (ys.take j) n).length) (cz)] 32,.abs (av 41 5 As ((aO xs (ys.take j) n).length) cz (aH cD (aO xs (ys.take j) n))),.abs R,.blk b12 [vI ((act ys j).at_),vI ((act ys j).op),.string (act ys j).path,.string (act ys j).to,.string (act ys j).text] 41]) [2,1] (by kernel_rfl) ?_ rfl (fun _=>by kernel_rfl) ?_
   ·refine gN 1 (fun b12=>[(89,.slice (some ⟨b12,0,none⟩) (1) (1))]) (fun _=>[]) (fun _=>[]) (fun b12=>.blk b12 [vI ((act ys j).at_),vI ((act ys j).op),.string (act ys j).path,.string (act ys j).to,.string (act ys j).text] 41) (fun b12=>?_)
    refine NL ?_
    exact MD b12 [1,3,5,7,9,83,89] [0,1,2,3,4,5]
   rintro b12
   refine fk.cut (ι:=(Option Addr)×Nat) (fr':=fun ((mz,mA):(Option Addr)×Nat)=>[(1,.slice A1 (n) (c1)),(3,vP b1),(5,vP b2),(7,vP b4),(9,vI ↑j),(90,.slice mz (((aO xs (ys.take j) n).length+1)) (mA))]) (hp':=fun ((mz,mA):(Option Addr)×Nat)=>[.blk b1 [.slice A (ns.length) (c),vI (root),vI (X.cN),vI (X.cB),vI (X.cH),vI (X.cS),vI (X.cZ),.slice Af (fs.length) (cf),.slice Aa (xs.length) (ca)] 34,.blk b2 [.slice Mf (gs.length) (mf),.slice Ma (ys.length) (ma)] 32,.blk b4 [.slice Ar ((aL fs gs n).length) (cr),.slice As ((aO xs (ys.take j) n).length) (cz)] 32,.abs (av 41 5 mz ((aO xs (ys.take j) n).length+1) mA (aH cD (aO xs (ys.take (j+1)) n))),.abs R,.blk b12 [vI ((act ys j).at_),vI ((act ys j).op),.string (act ys j).path,.string (act ys j).to,.string (act ys j).text] 41]) [2,1] (by kernel_rfl) ?_ rfl (fun _=>by kernel_rfl) ?_
   ·refine aj.append 3 (d:=(some 90)) (t:=30) (e:=41) (z:=.agg #[vI 0,vI 0,.string ⟨#[]⟩,.string ⟨#[]⟩,.string ⟨#[]⟩]) (size:=5) (bytes:=64) (n:=(aO xs (ys.take j) n).length) (cap:=cz) (A:=As) (xs:=(aH cD (aO xs (ys.take j) n))) (s:=(.tmp 83)) (x:=(.tmp 89)) (ats:=#[30,30]) (A':=some ⟨b12,0,none⟩) (m:=1) (c':=1) (news:=[vI ((act ys j).at_),vI ((act ys j).op),.string (act ys j).path,.string (act ys j).to,.string (act ys j).text]) (fun _=>by kernel_rfl) rfl (by kernel_rfl) (fun _=>by kernel_rfl) (fun _=>by kernel_rfl) Tryz.underlying30 (by kernel_rfl) rfl (by decide) (rfl) (by simp [Value.oneCell']) (jh (j:=5) rfl) (by unfold maxLen;have:=qY (xs:=xs) (ys:=ys) (n:=n) (j:=j);omega) (by have:=qY (xs:=xs) (ys:=ys) (n:=n) (j:=j);omega) (fun mz mA=>?_)
    refine aj.bI 3 (p:=.abs (av 41 5 mz (((aO xs (ys.take j) n).length)+1) mA ((aH cD (aO xs (ys.take j) n))++[vI ((act ys j).at_),vI ((act ys j).op),.string (act ys j).path,.string (act ys j).to,.string (act ys j).text]))) (p':=.abs (av 41 5 mz ((aO xs (ys.take j) n).length+1) mA (aH cD (aO xs (ys.take (j+1)) n)))) (by kernel_rfl) (by rw [nB (by omega) (.inl IJ),lG];rfl) ?_
    refine aj.slot 90 (.slice mz (((aO xs (ys.take j) n).length)+1) (mA)) (.slice mz (((aO xs (ys.take j) n).length+1)) (mA)) (fun _=>by kernel_rfl) (rfl) ?_
    refine NL ?_
    exact MD (mz,mA) [1,3,5,7,9,90] [0,1,2,3,4,5]
   rintro⟨mz,mA⟩
   refine gG [(false,10)] [(1,.slice A1 (n) (c1)),(3,vP b1),(5,vP b2),(7,vP b4),(9,vI ↑j),(90,.slice mz (((aO xs (ys.take j) n).length+1)) (mA)),(91,.pointer (some ⟨b4,1,none⟩))] [9] [] ?_
   refine fk.last (by kernel_rfl) ?_
   refine gC 1 [] [(0,a_ 2 b4)] [(2,[(1,.slice mz (((aO xs (ys.take j) n).length+1)) (mA))])] ?_
   refine NL (ai.np (ai.aJ (NX (af.region ?_))))
   refine aj.bI 3 (p:=.abs (av 41 5 mz ((aO xs (ys.take j) n).length+1) mA (aH cD (aO xs (ys.take (j+1)) n)))) (p':=.abs (av 41 5 mz ((aO xs (ys.take (j+1)) n).length) mA (aH cD (aO xs (ys.take (j+1)) n)))) (by kernel_rfl) (congrArg (fun n=>HP.abs (av 41 5 _ n _ _)) (by rw [nB (by omega) (.inl IJ),List.length_append];rfl)) ?_
   refine aj.bI 2 (p:=.blk b4 [.slice Ar ((aL fs gs n).length) (cr),.slice mz (((aO xs (ys.take j) n).length+1)) (mA)] 32) (p':=.blk b4 [.slice Ar ((aL fs gs n).length) (cr),.slice mz ((aO xs (ys.take (j+1)) n).length) (mA)] 32) (by kernel_rfl) (congrArg (fun n=>HP.blk _ [_,.slice _ n _] _) (show ((aO xs (ys.take j) n).length+1)=(aO xs (ys.take (j+1)) n).length by rw [nB (by omega) (.inl IJ),List.length_append];rfl)) ?_
   refine gK 3 [(9,vI ↑(j+1))] [(1,p_ ⟨[],none,none,none,some (vI ↑(j+1))⟩ [(Value.int .i64 (IntKind.wrap .i64 (((j:Nat):Int)+1)))=(.int .i64 ↑(j+1))] ⟨bA (by omega) (by omega) (by omega),trivial⟩)] ?_
   refine NL ?_
   exact ai.turn ((j+1),mz,mA) (idx:=[1,3,5,7,9]) (pk:=[0,1,2,3,4]) (show (((j+1))<=ys.length) from by omega) (by show ys.length - ((j+1)) < ys.length - j;omega) (fun _=>by kernel_rfl) rfl (by kernel_rfl)
  refine gK 10 [(81,.bool (decide (((act ys j).at_:Int) > (((n:Nat):Int):Int))))] [(1,a_ 1 b2),(3,p_ ⟨[],some j,none,some ⟨(aq Ma),ak Ma,none⟩,none⟩ [((j:Nat):Int)=((j:Nat):Int),j < ys.length,(⟨(aq Ma),ak Ma,none⟩:Addr).spot=none,(Ma:Option Addr)=some ⟨(aq Ma),ak Ma,none⟩] ⟨rfl,by omega,rfl,zk iK (i:=j) (by omega),trivial⟩),(5,p_ ⟨[.old (.int .i64 ((act ys j).at_))],none,none,none,none⟩ [(Rd pG ⟨(aq Ma),ak Ma+j * 5,none⟩ (.int .i64 ((act ys j).at_)))] ⟨iJ iK (i:=j) (by omega) (j:=0) rfl,trivial⟩)] ?_
  refine NN (af.bg (p:=((act ys j).at_:Int) > (((n:Nat):Int):Int)) (fun _=>by kernel_rfl) (fun IK=>?_) (fun IK=>?_))
  ·refine af.iY (S:=[.blk b4 [.slice Ar ((aL fs gs n).length) (cr),.slice As ((aO xs (ys.take j) n).length) (cz)] 32,.blk b2 [.slice Mf (gs.length) (mf),.slice Ma (ys.length) (ma)] 32]) [(true,0),(true,1),(true,2),(true,3),(true,4),(true,5),(true,6),(false,7),(false,8),(true,9),(false,10)] [2,1] (by kernel_rfl) (by kernel_rfl) rfl (by kernel_rfl) ?_
   refine gG [(false,7),(false,8),(true,9),(false,10)] [(1,.slice A1 (n) (c1)),(3,vP b1),(5,vP b2),(7,vP b4),(9,vI ↑j),(83,.slice As ((aO xs (ys.take j) n).length) (cz)),(88,.agg #[vI ((act ys j).at_),vI ((act ys j).op),.string (act ys j).path,.string (act ys j).to,.string (act ys j).text])] [0,1,2,3,4,5,6] [(1,a_ 0 b4),(3,a_ 1 b2),(5,p_ ⟨[],some j,none,some ⟨(aq Ma),ak Ma,none⟩,none⟩ [((j:Nat):Int)=((j:Nat):Int),j < ys.length,(⟨(aq Ma),ak Ma,none⟩:Addr).spot=none,(Ma:Option Addr)=some ⟨(aq Ma),ak Ma,none⟩] ⟨rfl,by omega,rfl,zk iK (i:=j) (by omega),trivial⟩),(6,p_ ⟨[.old (.int .i64 ((act ys j).at_)),.old (.int .i64 ((act ys j).op)),.old (.string (act ys j).path),.old (.string (act ys j).to),.old (.string (act ys j).text)],none,none,none,none⟩ [(Rd pG ⟨(aq Ma),ak Ma+j * 5+4,none⟩ (.string (act ys j).text)),(Rd pG ⟨(aq Ma),ak Ma+j * 5+3,none⟩ (.string (act ys j).to)),(Rd pG ⟨(aq Ma),ak Ma+j * 5+2,none⟩ (.string (act ys j).path)),(Rd pG ⟨(aq Ma),ak Ma+j * 5+1,none⟩ (.int .i64 ((act ys j).op))),(Rd pG ⟨(aq Ma),ak Ma+j * 5,none⟩ (.int .i64 ((act ys j).at_)))] ⟨iJ iK (i:=j) (by omega) (j:=4) rfl,iJ iK (i:=j) (by omega) (j:=3) rfl,iJ iK (i:=j) (by omega) (j:=2) rfl,iJ iK (i:=j) (by omega) (j:=1) rfl,iJ iK (i:=j) (by omega) (j:=0) rfl,trivial⟩)] ?_
   refine fk.cut (ι:=Nat) (fr':=fun (b15:Nat)=>[(1,.slice A1 (n) (c1)),(3,vP b1),(5,vP b2),(7,vP b4),(9,vI ↑j),(83,.slice As ((aO xs (ys.take j) n).length) (cz)),(89,.slice (some ⟨b15,0,none⟩) (1) (1))]) (hp':=fun (b15:Nat)=>[.blk b1 [.slice A (ns.length) (c),vI (root),vI (X.cN),vI (X.cB),vI (X.cH),vI (X.cS),vI (X.cZ),.slice Af (fs.length) (cf),.slice Aa (xs.length) (ca)] 34,.blk b2 [.slice Mf (gs.length) (mf),.slice Ma (ys.length) (ma)] 32,.blk b4 [.slice Ar ((aL fs gs n).length) (cr),.slice As ((aO xs (ys.take j) n).length) (cz)] 32,.abs (av 41 5 As ((aO xs (ys.take j) n).length) cz (aH cD (aO xs (ys.take j) n))),.abs R,.blk b15 [vI ((act ys j).at_),vI ((act ys j).op),.string (act ys j).path,.string (act ys j).to,.string (act ys j).text] 41]) [2,1] (by kernel_rfl) ?_ rfl (fun _=>by kernel_rfl) ?_
   ·refine gN 1 (fun b15=>[(89,.slice (some ⟨b15,0,none⟩) (1) (1))]) (fun _=>[]) (fun _=>[]) (fun b15=>.blk b15 [vI ((act ys j).at_),vI ((act ys j).op),.string (act ys j).path,.string (act ys j).to,.string (act ys j).text] 41) (fun b15=>?_)
    refine NL ?_
    exact MD b15 [1,3,5,7,9,83,89] [0,1,2,3,4,5]
   rintro b15
   refine fk.cut (ι:=(Option Addr)×Nat) (fr':=fun ((qZ,q4):(Option Addr)×Nat)=>[(1,.slice A1 (n) (c1)),(3,vP b1),(5,vP b2),(7,vP b4),(9,vI ↑j),(90,.slice qZ (((aO xs (ys.take j) n).length+1)) (q4))]) (hp':=fun ((qZ,q4):(Option Addr)×Nat)=>[.blk b1 [.slice A (ns.length) (c),vI (root),vI (X.cN),vI (X.cB),vI (X.cH),vI (X.cS),vI (X.cZ),.slice Af (fs.length) (cf),.slice Aa (xs.length) (ca)] 34,.blk b2 [.slice Mf (gs.length) (mf),.slice Ma (ys.length) (ma)] 32,.blk b4 [.slice Ar ((aL fs gs n).length) (cr),.slice As ((aO xs (ys.take j) n).length) (cz)] 32,.abs (av 41 5 qZ ((aO xs (ys.take j) n).length+1) q4 (aH cD (aO xs (ys.take (j+1)) n))),.abs R,.blk b15 [vI ((act ys j).at_),vI ((act ys j).op),.string (act ys j).path,.string (act ys j).to,.string (act ys j).text] 41]) [2,1] (by kernel_rfl) ?_ rfl (fun _=>by kernel_rfl) ?_
   ·refine aj.append 3 (d:=(some 90)) (t:=30) (e:=41) (z:=.agg #[vI 0,vI 0,.string ⟨#[]⟩,.string ⟨#[]⟩,.string ⟨#[]⟩]) (size:=5) (bytes:=64) (n:=(aO xs (ys.take j) n).length) (cap:=cz) (A:=As) (xs:=(aH cD (aO xs (ys.take j) n))) (s:=(.tmp 83)) (x:=(.tmp 89)) (ats:=#[30,30]) (A':=some ⟨b15,0,none⟩) (m:=1) (c':=1) (news:=[vI ((act ys j).at_),vI ((act ys j).op),.string (act ys j).path,.string (act ys j).to,.string (act ys j).text]) (fun _=>by kernel_rfl) rfl (by kernel_rfl) (fun _=>by kernel_rfl) (fun _=>by kernel_rfl) Tryz.underlying30 (by kernel_rfl) rfl (by decide) (rfl) (by simp [Value.oneCell']) (jh (j:=5) rfl) (by unfold maxLen;have:=qY (xs:=xs) (ys:=ys) (n:=n) (j:=j);omega) (by have:=qY (xs:=xs) (ys:=ys) (n:=n) (j:=j);omega) (fun qZ q4=>?_)
    refine aj.bI 3 (p:=.abs (av 41 5 qZ (((aO xs (ys.take j) n).length)+1) q4 ((aH cD (aO xs (ys.take j) n))++[vI ((act ys j).at_),vI ((act ys j).op),.string (act ys j).path,.string (act ys j).to,.string (act ys j).text]))) (p':=.abs (av 41 5 qZ ((aO xs (ys.take j) n).length+1) q4 (aH cD (aO xs (ys.take (j+1)) n)))) (by kernel_rfl) (by rw [nB (by omega) (.inr IK),lG];rfl) ?_
    refine aj.slot 90 (.slice qZ (((aO xs (ys.take j) n).length)+1) (q4)) (.slice qZ (((aO xs (ys.take j) n).length+1)) (q4)) (fun _=>by kernel_rfl) (rfl) ?_
    refine NL ?_
    exact MD (qZ,q4) [1,3,5,7,9,90] [0,1,2,3,4,5]
   rintro⟨qZ,q4⟩
   refine gG [(false,10)] [(1,.slice A1 (n) (c1)),(3,vP b1),(5,vP b2),(7,vP b4),(9,vI ↑j),(90,.slice qZ (((aO xs (ys.take j) n).length+1)) (q4)),(91,.pointer (some ⟨b4,1,none⟩))] [9] [] ?_
   refine fk.last (by kernel_rfl) ?_
   refine gC 1 [] [(0,a_ 2 b4)] [(2,[(1,.slice qZ (((aO xs (ys.take j) n).length+1)) (q4))])] ?_
   refine NL (ai.np (ai.aJ (NX (af.region ?_))))
   refine aj.bI 3 (p:=.abs (av 41 5 qZ ((aO xs (ys.take j) n).length+1) q4 (aH cD (aO xs (ys.take (j+1)) n)))) (p':=.abs (av 41 5 qZ ((aO xs (ys.take (j+1)) n).length) q4 (aH cD (aO xs (ys.take (j+1)) n)))) (by kernel_rfl) (congrArg (fun n=>HP.abs (av 41 5 _ n _ _)) (by rw [nB (by omega) (.inr IK),List.length_append];rfl)) ?_
   refine aj.bI 2 (p:=.blk b4 [.slice Ar ((aL fs gs n).length) (cr),.slice qZ (((aO xs (ys.take j) n).length+1)) (q4)] 32) (p':=.blk b4 [.slice Ar ((aL fs gs n).length) (cr),.slice qZ ((aO xs (ys.take (j+1)) n).length) (q4)] 32) (by kernel_rfl) (congrArg (fun n=>HP.blk _ [_,.slice _ n _] _) (show ((aO xs (ys.take j) n).length+1)=(aO xs (ys.take (j+1)) n).length by rw [nB (by omega) (.inr IK),List.length_append];rfl)) ?_
   refine gK 3 [(9,vI ↑(j+1))] [(1,p_ ⟨[],none,none,none,some (vI ↑(j+1))⟩ [(Value.int .i64 (IntKind.wrap .i64 (((j:Nat):Int)+1)))=(.int .i64 ↑(j+1))] ⟨bA (by omega) (by omega) (by omega),trivial⟩)] ?_
   refine NL ?_
   exact ai.turn ((j+1),qZ,q4) (idx:=[1,3,5,7,9]) (pk:=[0,1,2,3,4]) (show (((j+1))<=ys.length) from by omega) (by show ys.length - ((j+1)) < ys.length - j;omega) (fun _=>by kernel_rfl) rfl (by kernel_rfl)
  refine af.skip (ai.aJ (NX (af.region ?_)))
  refine aj.bI 3 (p:=.abs (av 41 5 As ((aO xs (ys.take j) n).length) cz (aH cD (aO xs (ys.take j) n)))) (p':=.abs (av 41 5 As ((aO xs (ys.take (j+1)) n).length) cz (aH cD (aO xs (ys.take (j+1)) n)))) (by kernel_rfl) (by rw [CH (by omega) (fun e=>e.elim IJ IK)]) ?_
  refine aj.bI 2 (p:=.blk b4 [.slice Ar ((aL fs gs n).length) (cr),.slice As ((aO xs (ys.take j) n).length) (cz)] 32) (p':=.blk b4 [.slice Ar ((aL fs gs n).length) (cr),.slice As ((aO xs (ys.take (j+1)) n).length) (cz)] 32) (by kernel_rfl) (congrArg (fun n=>HP.blk _ [_,.slice _ n _] _) (show (aO xs (ys.take j) n).length=(aO xs (ys.take (j+1)) n).length by rw [CH (by omega) (fun e=>e.elim IJ IK)])) ?_
  refine gK 3 [(9,vI ↑(j+1))] [(1,p_ ⟨[],none,none,none,some (vI ↑(j+1))⟩ [(Value.int .i64 (IntKind.wrap .i64 (((j:Nat):Int)+1)))=(.int .i64 ↑(j+1))] ⟨bA (by omega) (by omega) (by omega),trivial⟩)] ?_
  refine NL ?_
  exact ai.turn ((j+1),As,cz) (idx:=[1,3,5,7,9]) (pk:=[0,1,2,3,4]) (show (((j+1))<=ys.length) from by omega) (by show ys.length - ((j+1)) < ys.length - j;omega) (fun _=>by kernel_rfl) rfl (by kernel_rfl)
 refine af.exit (ai.aU (ai.aU (ai.cM (NX (af.seq ?_)))))
 by_cases h0:cL X ns root=0
 ·have hok:=Ec h0
  refine af.region ?_
  have L5:(aO xs (ys.take j) n)=(aO xs ys n):=by rw [show j=ys.length by omega,List.take_length]
  refine aj.bI 3 (p:=.abs (av 41 5 As ((aO xs (ys.take j) n).length) cz (aH cD (aO xs (ys.take j) n)))) (p':=.abs (av 41 5 As ((aO xs ys n).length) cz (aH cD (aO xs ys n)))) (by kernel_rfl) (by rw [L5]) ?_
  refine aj.bI 2 (p:=.blk b4 [.slice Ar ((aL fs gs n).length) (cr),.slice As ((aO xs (ys.take j) n).length) (cz)] 32) (p':=.blk b4 [.slice Ar ((aL fs gs n).length) (cr),.slice As ((aO xs ys n).length) (cz)] 32) (by kernel_rfl) (congrArg (fun n=>HP.blk _ [_,.slice _ n _] _) (show (aO xs (ys.take j) n).length=(aO xs ys n).length by rw [L5])) ?_
  refine aj.lM (Φ:=fun β'=>bX β' As (aH cD (aO xs ys n))) 3 [0,1,2,4] (cR:=[.blk b1 [.slice A (ns.length) (c),vI (root),vI (X.cN),vI (X.cB),vI (X.cH),vI (X.cS),vI (X.cZ),.slice Af (fs.length) (cf),.slice Aa (xs.length) (ca)] 34,.blk b2 [.slice Mf (gs.length) (mf),.slice Ma (ys.length) (ma)] 32,.blk b4 [.slice Ar ((aL fs gs n).length) (cr),.slice As ((aO xs ys n).length) (cz)] 32,.abs R]) rfl rfl (by kernel_rfl) (fun F w h β' h1 h2=>bX.jb h h1 h2) (fun CP iO yK=>?_)
  replace hG:=hG.le iO
  replace hF:=hF.le iO
  replace hA:=hA.le iO
  replace hF2:=hF2.le iO
  replace iK:=iK.le iO
  replace hS:=hS.le iO
  replace hg:=hg.le iO
  replace ug:=ug.le iO
  replace hle0:=hle0.trans iO
  refine gK 1 [(93,.agg #[.slice A (ns.length) (c),vI (root),vI (X.cN),vI (X.cB),vI (X.cH),vI (X.cS),vI (X.cZ),.slice Af (fs.length) (cf),.slice Aa (xs.length) (ca)])] [(0,A_ 0 b1 9)] ?_
  refine aj.gA (d:=(some 94)) (R:=[.blk b1 [.slice A (ns.length) (c),vI (root),vI (X.cN),vI (X.cB),vI (X.cH),vI (X.cS),vI (X.cZ),.slice Af (fs.length) (cf),.slice Aa (xs.length) (ca)] 34,.blk b2 [.slice Mf (gs.length) (mf),.slice Ma (ys.length) (ma)] 32,.blk b4 [.slice Ar ((aL fs gs n).length) (cr),.slice As ((aO xs ys n).length) (cz)] 32,.abs R]) (pk:=[0,1,2,3]) (fun _=>by kernel_rfl) (wF (β:=CP) (X:=X) h0 A c Y hG hB Af cf fs hF (jZ.wide (by decide)) Aa ca xs hA hab) rfl (by kernel_rfl) ?_
  rintro U8 _ _ kz ⟨N,G,V,rfl,rfl,jD⟩
  replace hG:=hG.le kz
  replace hF:=hF.le kz
  replace hA:=hA.le kz
  replace hF2:=hF2.le kz
  replace iK:=iK.le kz
  replace hS:=hS.le kz
  replace hg:=hg.le kz
  replace ug:=ug.le kz
  replace yK:=yK.le kz
  replace hle0:=hle0.trans kz
  refine gK 5 [(10,vP G.w),(11,vI 0)] [] ?_
  refine NS (gC 3 [] [(0,A_ 3 b4 2),(2,A_ 1 b1 2)] [(1,[(7,.slice Ar ((aL fs gs n).length) (cr)),(8,.slice As ((aO xs ys n).length) (cz))])] ?_)
  refine NS (gK 1 [(100,.agg #[.slice A (ns.length) (c),vI (root),vI (X.cN),vI (X.cB),vI (X.cH),vI (X.cS),vI (X.cZ),.slice Ar ((aL fs gs n).length) (cr),.slice As ((aO xs ys n).length) (cz)])] [(0,A_ 1 b1 9)] ?_)
  refine aj.gA (d:=(some 101)) (R:=[wA G fs xs root N.1 V ([]),.blk b1 [.slice A (ns.length) (c),vI (root),vI (X.cN),vI (X.cB),vI (X.cH),vI (X.cS),vI (X.cZ),.slice Ar ((aL fs gs n).length) (cr),.slice As ((aO xs ys n).length) (cz)] 34,.blk b2 [.slice Mf (gs.length) (mf),.slice Ma (ys.length) (ma)] 32,.blk b4 [.slice Ar ((aL fs gs n).length) (cr),.slice As ((aO xs ys n).length) (cz)] 32,.abs R]) (pk:=[0,1,2,3,4]) (fun _=>by kernel_rfl) (L4 (β:=U8) (X:=X) N h0 A c Y hG hB Ar cr (aL fs gs n) ug (IG jZ hgb) As cz (aO xs ys n) yK (DC hab hyb hxy)) rfl (by kernel_rfl) ?_
  rintro wH _ _ jK ⟨G2,V2,rfl,rfl,jR⟩
  replace hG:=hG.le jK
  replace hF:=hF.le jK
  replace hA:=hA.le jK
  replace hF2:=hF2.le jK
  replace iK:=iK.le jK
  replace hS:=hS.le jK
  replace hg:=hg.le jK
  replace ug:=ug.le jK
  replace yK:=yK.le jK
  replace jD:=jD.le jK
  replace hle0:=hle0.trans jK
  refine gK 5 [(12,vP G2.w),(13,vI 0)] [] ?_
  refine NN (af.seq (SR (gK 11 [(114,.bool false)] [(2,p_ ⟨[],none,none,none,some (.bool false)⟩ [((.bool false:Value))=(.bool false)] ⟨rfl,trivial⟩)] ?_)))
  refine NN (CF (af.skip (NX (af.seq (SR (gK 1 [(14,vI 0)] [] ?_))))))
  refine NN (af.block ?_)
  refine af.IQ (ι:=Nat×Bs×aI×WV×(List aB)×WV×(List aB)) (fun ((i,b,S,V,tr,V2,jL):Nat×Bs×aI×WV×(List aB)×WV×(List aB))=>b) (fun ((i,b,S,V,tr,V2,jL):Nat×Bs×aI×WV×(List aB)×WV×(List aB))=>(i<=n)/\((B0 W).le b)/\(ay b A ns Y)/\(cI b A1 cs)/\(jf b)/\(Inv S)/\(je b G.Z xs)/\(je b G2.Z (aO xs ys n))/\(tr.length=i)/\(kx b tr)/\(kx b jL)/\(jL.map bare=tr.map bare)) (fun ((i,b,S,V,tr,V2,jL):Nat×Bs×aI×WV×(List aB)×WV×(List aB))=>n - i) (fun ((i,b,S,V,tr,V2,jL):Nat×Bs×aI×WV×(List aB)×WV×(List aB))=>[(1,.slice A1 (n) (c1)),(10,vP G.w),(12,vP G2.w),(14,vI ↑i)]) (fun ((i,b,S,V,tr,V2,jL):Nat×Bs×aI×WV×(List aB)×WV×(List aB))=>[wA G fs xs root S V tr,wA G2 (aL fs gs n) (aO xs ys n) root S V2 jL,.abs R]) (0,wH,N.1,V,[],V2,[]) rfl (idx:=[1,10,12,14]) (pk:=[1,0,5]) (show (0<=n)/\((B0 W).le wH)/\(ay wH A ns Y)/\(cI wH A1 cs)/\(jf wH)/\(Inv N.1)/\(je wH G.Z xs)/\(je wH G2.Z (aO xs ys n))/\(([]).length=0)/\(kx wH ([]))/\(kx wH ([]))/\(([]).map bare=([]).map bare) from ⟨Nat.zero_le _,hle0,hG,hS,hg,N.2.full,jD,jR,rfl,fun c hc=>(by cases hc),fun c hc=>(by cases hc),rfl⟩) (fun _=>by kernel_rfl) rfl (by kernel_rfl) ?_
  rintro⟨i,b,S,V,tr,V2,jL⟩ ⟨hi,hle0,hG,hS,hg,hI,jD,jR,htr,hT,kD,hmm⟩
  show af _ b _ _ [(1,.slice A1 (n) (c1)),(10,vP G.w),(12,vP G2.w),(14,vI ↑i)] [wA G fs xs root S V tr,wA G2 (aL fs gs n) (aO xs ys n) root S V2 jL,.abs R] _
  refine af.seq (SR ?_)
  obtain⟨⟨S2,c2⟩,Pb⟩:∃ q,ia fs xs root (tr.length+1) S (au cs i)=q:=⟨_,rfl⟩
  have hd2:c2.data=(au cs i).data:=by have h:=zK (fs:=fs) (xs:=xs) (root:=root) (n:=tr.length+1) (S:=S) (c:=(au cs i));rw [Pb] at h;exact h
  refine gK 4 [(133,.bool (decide ((((i:Nat):Int):Int) < (((n:Nat):Int):Int))))] [] ?_
  refine NN (af.bg (p:=(((i:Nat):Int):Int) < (((n:Nat):Int):Int)) (fun _=>by kernel_rfl) (fun NI=>?_) (fun NI=>?_))
  ·refine af.skip (NX (af.seq (af.block (af.seq ?_))))
   refine af.iY (S:=[]) [(true,0),(true,1),(true,2),(true,3),(true,4),(true,7),(true,8),(true,9),(true,10),(true,11),(false,5),(false,6),(false,12),(false,13),(false,14),(false,15)] [] (by kernel_rfl) (by kernel_rfl) rfl (by kernel_rfl) ?_
   refine gG [(false,5),(false,6),(false,12),(false,13),(false,14),(false,15)] [(1,.slice A1 (n) (c1)),(10,vP G.w),(12,vP G2.w),(14,vI ↑i),(136,vP G.w),(140,.agg #[vI ((au cs i).op),vI ((au cs i).handle),vI ((au cs i).other),.string (au cs i).name,.string (au cs i).text,.slice (au cs i).dA ((au cs i).data.length) ((au cs i).dC),vI ((au cs i).mode),vI ((au cs i).uid),vI ((au cs i).gid),vI ((au cs i).sec),vI ((au cs i).nano),vI ((au cs i).code),vI ((au cs i).answer)]),(143,vP G2.w),(147,.agg #[vI ((au cs i).op),vI ((au cs i).handle),vI ((au cs i).other),.string (au cs i).name,.string (au cs i).text,.slice (au cs i).dA ((au cs i).data.length) ((au cs i).dC),vI ((au cs i).mode),vI ((au cs i).uid),vI ((au cs i).gid),vI ((au cs i).sec),vI ((au cs i).nano),vI ((au cs i).code),vI ((au cs i).answer)])] [0,1,2,3,4,7,8,9,10,11] [(3,p_ ⟨[],some i,none,some ⟨(aq A1),ak A1,none⟩,none⟩ [((i:Nat):Int)=((i:Nat):Int),i < n,(⟨(aq A1),ak A1,none⟩:Addr).spot=none,(A1:Option Addr)=some ⟨(aq A1),ak A1,none⟩] ⟨rfl,by omega,rfl,cI.hd hS (i:=i) (by omega),trivial⟩),(4,p_ ⟨[.old (.int .i64 ((au cs i).op)),.old (.int .i64 ((au cs i).handle)),.old (.int .i64 ((au cs i).other)),.old (.string (au cs i).name),.old (.string (au cs i).text),.old (.slice (au cs i).dA ((au cs i).data.length) ((au cs i).dC)),.old (.int .i64 ((au cs i).mode)),.old (.int .i64 ((au cs i).uid)),.old (.int .i64 ((au cs i).gid)),.old (.int .i64 ((au cs i).sec)),.old (.int .i64 ((au cs i).nano)),.old (.int .i64 ((au cs i).code)),.old (.int .i64 ((au cs i).answer))],none,none,none,none⟩ [(Rd b ⟨(aq A1),ak A1+i * 13+12,none⟩ (.int .i64 ((au cs i).answer))),(Rd b ⟨(aq A1),ak A1+i * 13+11,none⟩ (.int .i64 ((au cs i).code))),(Rd b ⟨(aq A1),ak A1+i * 13+10,none⟩ (.int .i64 ((au cs i).nano))),(Rd b ⟨(aq A1),ak A1+i * 13+9,none⟩ (.int .i64 ((au cs i).sec))),(Rd b ⟨(aq A1),ak A1+i * 13+8,none⟩ (.int .i64 ((au cs i).gid))),(Rd b ⟨(aq A1),ak A1+i * 13+7,none⟩ (.int .i64 ((au cs i).uid))),(Rd b ⟨(aq A1),ak A1+i * 13+6,none⟩ (.int .i64 ((au cs i).mode))),(Rd b ⟨(aq A1),ak A1+i * 13+5,none⟩ (.slice (au cs i).dA ((au cs i).data.length) ((au cs i).dC))),(Rd b ⟨(aq A1),ak A1+i * 13+4,none⟩ (.string (au cs i).text)),(Rd b ⟨(aq A1),ak A1+i * 13+3,none⟩ (.string (au cs i).name)),(Rd b ⟨(aq A1),ak A1+i * 13+2,none⟩ (.int .i64 ((au cs i).other))),(Rd b ⟨(aq A1),ak A1+i * 13+1,none⟩ (.int .i64 ((au cs i).handle))),(Rd b ⟨(aq A1),ak A1+i * 13,none⟩ (.int .i64 ((au cs i).op)))] ⟨cI.rd hS (i:=i) (by omega) (j:=12) rfl,cI.rd hS (i:=i) (by omega) (j:=11) rfl,cI.rd hS (i:=i) (by omega) (j:=10) rfl,cI.rd hS (i:=i) (by omega) (j:=9) rfl,cI.rd hS (i:=i) (by omega) (j:=8) rfl,cI.rd hS (i:=i) (by omega) (j:=7) rfl,cI.rd hS (i:=i) (by omega) (j:=6) rfl,cI.rd hS (i:=i) (by omega) (j:=5) rfl,cI.rd hS (i:=i) (by omega) (j:=4) rfl,cI.rd hS (i:=i) (by omega) (j:=3) rfl,cI.rd hS (i:=i) (by omega) (j:=2) rfl,cI.rd hS (i:=i) (by omega) (j:=1) rfl,cI.rd hS (i:=i) (by omega) (j:=0) rfl,trivial⟩),(8,p_ ⟨[],some i,none,some ⟨(aq A1),ak A1,none⟩,none⟩ [((i:Nat):Int)=((i:Nat):Int),i < n,(⟨(aq A1),ak A1,none⟩:Addr).spot=none,(A1:Option Addr)=some ⟨(aq A1),ak A1,none⟩] ⟨rfl,by omega,rfl,cI.hd hS (i:=i) (by omega),trivial⟩),(9,p_ ⟨[.old (.int .i64 ((au cs i).op)),.old (.int .i64 ((au cs i).handle)),.old (.int .i64 ((au cs i).other)),.old (.string (au cs i).name),.old (.string (au cs i).text),.old (.slice (au cs i).dA ((au cs i).data.length) ((au cs i).dC)),.old (.int .i64 ((au cs i).mode)),.old (.int .i64 ((au cs i).uid)),.old (.int .i64 ((au cs i).gid)),.old (.int .i64 ((au cs i).sec)),.old (.int .i64 ((au cs i).nano)),.old (.int .i64 ((au cs i).code)),.old (.int .i64 ((au cs i).answer))],none,none,none,none⟩ [(Rd b ⟨(aq A1),ak A1+i * 13+12,none⟩ (.int .i64 ((au cs i).answer))),(Rd b ⟨(aq A1),ak A1+i * 13+11,none⟩ (.int .i64 ((au cs i).code))),(Rd b ⟨(aq A1),ak A1+i * 13+10,none⟩ (.int .i64 ((au cs i).nano))),(Rd b ⟨(aq A1),ak A1+i * 13+9,none⟩ (.int .i64 ((au cs i).sec))),(Rd b ⟨(aq A1),ak A1+i * 13+8,none⟩ (.int .i64 ((au cs i).gid))),(Rd b ⟨(aq A1),ak A1+i * 13+7,none⟩ (.int .i64 ((au cs i).uid))),(Rd b ⟨(aq A1),ak A1+i * 13+6,none⟩ (.int .i64 ((au cs i).mode))),(Rd b ⟨(aq A1),ak A1+i * 13+5,none⟩ (.slice (au cs i).dA ((au cs i).data.length) ((au cs i).dC))),(Rd b ⟨(aq A1),ak A1+i * 13+4,none⟩ (.string (au cs i).text)),(Rd b ⟨(aq A1),ak A1+i * 13+3,none⟩ (.string (au cs i).name)),(Rd b ⟨(aq A1),ak A1+i * 13+2,none⟩ (.int .i64 ((au cs i).other))),(Rd b ⟨(aq A1),ak A1+i * 13+1,none⟩ (.int .i64 ((au cs i).handle))),(Rd b ⟨(aq A1),ak A1+i * 13,none⟩ (.int .i64 ((au cs i).op)))] ⟨cI.rd hS (i:=i) (by omega) (j:=12) rfl,cI.rd hS (i:=i) (by omega) (j:=11) rfl,cI.rd hS (i:=i) (by omega) (j:=10) rfl,cI.rd hS (i:=i) (by omega) (j:=9) rfl,cI.rd hS (i:=i) (by omega) (j:=8) rfl,cI.rd hS (i:=i) (by omega) (j:=7) rfl,cI.rd hS (i:=i) (by omega) (j:=6) rfl,cI.rd hS (i:=i) (by omega) (j:=5) rfl,cI.rd hS (i:=i) (by omega) (j:=4) rfl,cI.rd hS (i:=i) (by omega) (j:=3) rfl,cI.rd hS (i:=i) (by omega) (j:=2) rfl,cI.rd hS (i:=i) (by omega) (j:=1) rfl,cI.rd hS (i:=i) (by omega) (j:=0) rfl,trivial⟩)] ?_
   refine fk.Wa ?_
   have vD:Grown b b:=.inl rfl
   refine lI.J5 (ι:=(Option Addr)×Nat×Bs) (B:=fun ((yL,yM,uE):(Option Addr)×Nat×Bs)=>uE) (Φ:=fun ((yL,yM,uE):(Option Addr)×Nat×Bs)=>(vC uE yL yM (au cs i).data)) (fr':=fun ((yL,yM,uE):(Option Addr)×Nat×Bs)=>[(1,.slice A1 (n) (c1)),(10,vP G.w),(12,vP G2.w),(14,vI ↑i),(136,vP G.w),(141,.agg #[vI ((au cs i).op),vI ((au cs i).handle),vI ((au cs i).other),.string (au cs i).name,.string (au cs i).text,.slice yL ((au cs i).data.length) (yM),vI ((au cs i).mode),vI ((au cs i).uid),vI ((au cs i).gid),vI ((au cs i).sec),vI ((au cs i).nano),vI ((au cs i).code),vI ((au cs i).answer)]),(143,vP G2.w),(147,.agg #[vI ((au cs i).op),vI ((au cs i).handle),vI ((au cs i).other),.string (au cs i).name,.string (au cs i).text,.slice (au cs i).dA ((au cs i).data.length) ((au cs i).dC),vI ((au cs i).mode),vI ((au cs i).uid),vI ((au cs i).gid),vI ((au cs i).sec),vI ((au cs i).nano),vI ((au cs i).code),vI ((au cs i).answer)])]) (hp':=fun ((yL,yM,uE):(Option Addr)×Nat×Bs)=>[wA G fs xs root S V tr,wA G2 (aL fs gs n) (aO xs ys n) root S V2 jL,.abs R]) [] vD (by kernel_rfl) ?_ rfl (fun _=>by kernel_rfl) ?_
   ·refine aj.gA (d:=(some 141)) (R:=[wA G fs xs root S V tr,wA G2 (aL fs gs n) (aO xs ys n) root S V2 jL,.abs R]) (pk:=[0,1,2]) (fun _=>by kernel_rfl) (yJ (au cs i) (hS.q i (by omega)).data (hS.q i (by omega)).len) rfl (by kernel_rfl) ?_
    rintro uE _ _ fI ⟨yL,yM,rfl,rfl,oA⟩
    replace hG:=hG.le fI
    replace hS:=hS.le fI
    replace hg:=hg.le fI
    replace jD:=jD.le fI
    replace jR:=jR.le fI
    replace hT:=hT.le fI
    replace kD:=kD.le fI
    replace hle0:=hle0.trans fI
    refine NL ?_
    exact ai.I3 (yL,yM,uE) rfl fI (oA) (idx:=[1,10,12,14,136,141,143,147]) (pk:=[0,1,2]) (fun _=>by kernel_rfl) rfl (by kernel_rfl)
   rintro⟨yL,yM,uE⟩ fI oA
   show lI _ uE _ _ _ _ _ [(1,.slice A1 (n) (c1)),(10,vP G.w),(12,vP G2.w),(14,vI ↑i),(136,vP G.w),(141,.agg #[vI ((au cs i).op),vI ((au cs i).handle),vI ((au cs i).other),.string (au cs i).name,.string (au cs i).text,.slice yL ((au cs i).data.length) (yM),vI ((au cs i).mode),vI ((au cs i).uid),vI ((au cs i).gid),vI ((au cs i).sec),vI ((au cs i).nano),vI ((au cs i).code),vI ((au cs i).answer)]),(143,vP G2.w),(147,.agg #[vI ((au cs i).op),vI ((au cs i).handle),vI ((au cs i).other),.string (au cs i).name,.string (au cs i).text,.slice (au cs i).dA ((au cs i).data.length) ((au cs i).dC),vI ((au cs i).mode),vI ((au cs i).uid),vI ((au cs i).gid),vI ((au cs i).sec),vI ((au cs i).nano),vI ((au cs i).code),vI ((au cs i).answer)])] [wA G fs xs root S V tr,wA G2 (aL fs gs n) (aO xs ys n) root S V2 jL,.abs R] _
   replace hG:=hG.le fI
   replace hS:=hS.le fI
   replace hg:=hg.le fI
   replace jD:=jD.le fI
   replace jR:=jR.le fI
   replace hT:=hT.le fI
   replace kD:=kD.le fI
   replace hle0:=hle0.trans fI
   replace vD:=vD.trans fI
   refine lI.J5 (ι:=Bs×(Option Addr)×Nat×(Option Addr)×Nat×WV) (B:=fun ((rF,nT,oR,uh,vE,rM):Bs×(Option Addr)×Nat×(Option Addr)×Nat×WV)=>rF) (Φ:=fun ((rF,nT,oR,uh,vE,rM):Bs×(Option Addr)×Nat×(Option Addr)×Nat×WV)=>(bh rF nT c2.data)/\(bh rF uh c2.data)) (fr':=fun ((rF,nT,oR,uh,vE,rM):Bs×(Option Addr)×Nat×(Option Addr)×Nat×WV)=>[(1,.slice A1 (n) (c1)),(10,vP G.w),(12,vP G2.w),(14,vI ↑i),(142,.agg #[vI (c2.op),vI (c2.handle),vI (c2.other),.string c2.name,.string c2.text,.slice uh (c2.data.length) (vE),vI (c2.mode),vI (c2.uid),vI (c2.gid),vI (c2.sec),vI (c2.nano),vI (c2.code),vI (c2.answer)]),(143,vP G2.w),(147,.agg #[vI ((au cs i).op),vI ((au cs i).handle),vI ((au cs i).other),.string (au cs i).name,.string (au cs i).text,.slice (au cs i).dA ((au cs i).data.length) ((au cs i).dC),vI ((au cs i).mode),vI ((au cs i).uid),vI ((au cs i).gid),vI ((au cs i).sec),vI ((au cs i).nano),vI ((au cs i).code),vI ((au cs i).answer)])]) (hp':=fun ((rF,nT,oR,uh,vE,rM):Bs×(Option Addr)×Nat×(Option Addr)×Nat×WV)=>[wA G fs xs root S2 rM (tr++[bB nT oR c2]),wA G2 (aL fs gs n) (aO xs ys n) root S V2 jL,.abs R]) [] vD (by kernel_rfl) ?_ rfl (fun _=>by kernel_rfl) ?_
   ·refine aj.gA (d:=(some 142)) (R:=[wA G2 (aL fs gs n) (aO xs ys n) root S V2 jL,.abs R]) (pk:=[0,1,2]) (fun _=>by kernel_rfl) (yD (β:=uE) (G:=G) (fs:=fs) (xs:=xs) (S:=S) (V:=V) (tr:=tr) (c:=bB yL yM (au cs i)) (c2:=bB yL yM c2) (S2:=S2) hrw hI (by have:=kU hmm;omega) jD hab hg oA.b (hS.q i (by omega)).len (hS.q i (by omega)).hw (hS.q i (by omega)).ow (hS.q i (by omega)).name (hS.q i (by omega)).text (D1.trans (by rw [Pb]))) rfl (by kernel_rfl) ?_
    rintro rF _ _ dI ⟨rM,nT,oR,uh,vE,rfl,rfl,tD,tE,_⟩
    replace hG:=hG.le dI
    replace hS:=hS.le dI
    replace hg:=hg.le dI
    replace jD:=jD.le dI
    replace jR:=jR.le dI
    replace hT:=hT.le dI
    replace kD:=kD.le dI
    replace oA:=oA.le dI
    replace hle0:=hle0.trans dI
    refine NL ?_
    exact ai.I3 (rF,nT,oR,uh,vE,rM) rfl dI (⟨tD,tE⟩) (idx:=[1,10,12,14,142,143,147]) (pk:=[0,1,2]) (fun _=>by kernel_rfl) rfl (by kernel_rfl)
   rintro⟨rF,nT,oR,uh,vE,rM⟩ dI ⟨tD,tE⟩
   show lI _ rF _ _ _ _ _ [(1,.slice A1 (n) (c1)),(10,vP G.w),(12,vP G2.w),(14,vI ↑i),(142,.agg #[vI (c2.op),vI (c2.handle),vI (c2.other),.string c2.name,.string c2.text,.slice uh (c2.data.length) (vE),vI (c2.mode),vI (c2.uid),vI (c2.gid),vI (c2.sec),vI (c2.nano),vI (c2.code),vI (c2.answer)]),(143,vP G2.w),(147,.agg #[vI ((au cs i).op),vI ((au cs i).handle),vI ((au cs i).other),.string (au cs i).name,.string (au cs i).text,.slice (au cs i).dA ((au cs i).data.length) ((au cs i).dC),vI ((au cs i).mode),vI ((au cs i).uid),vI ((au cs i).gid),vI ((au cs i).sec),vI ((au cs i).nano),vI ((au cs i).code),vI ((au cs i).answer)])] [wA G fs xs root S2 rM (tr++[bB nT oR c2]),wA G2 (aL fs gs n) (aO xs ys n) root S V2 jL,.abs R] _
   replace hG:=hG.le dI
   replace hS:=hS.le dI
   replace hg:=hg.le dI
   replace jD:=jD.le dI
   replace jR:=jR.le dI
   replace hT:=hT.le dI
   replace kD:=kD.le dI
   replace oA:=oA.le dI
   replace hle0:=hle0.trans dI
   replace vD:=vD.trans dI
   refine lI.J5 (ι:=(Option Addr)×Nat×Bs) (B:=fun ((yN,yO,uF):(Option Addr)×Nat×Bs)=>uF) (Φ:=fun ((yN,yO,uF):(Option Addr)×Nat×Bs)=>(vC uF yN yO (au cs i).data)) (fr':=fun ((yN,yO,uF):(Option Addr)×Nat×Bs)=>[(1,.slice A1 (n) (c1)),(10,vP G.w),(12,vP G2.w),(14,vI ↑i),(142,.agg #[vI (c2.op),vI (c2.handle),vI (c2.other),.string c2.name,.string c2.text,.slice uh (c2.data.length) (vE),vI (c2.mode),vI (c2.uid),vI (c2.gid),vI (c2.sec),vI (c2.nano),vI (c2.code),vI (c2.answer)]),(143,vP G2.w),(148,.agg #[vI ((au cs i).op),vI ((au cs i).handle),vI ((au cs i).other),.string (au cs i).name,.string (au cs i).text,.slice yN ((au cs i).data.length) (yO),vI ((au cs i).mode),vI ((au cs i).uid),vI ((au cs i).gid),vI ((au cs i).sec),vI ((au cs i).nano),vI ((au cs i).code),vI ((au cs i).answer)])]) (hp':=fun ((yN,yO,uF):(Option Addr)×Nat×Bs)=>[wA G fs xs root S2 rM (tr++[bB nT oR c2]),wA G2 (aL fs gs n) (aO xs ys n) root S V2 jL,.abs R]) [] vD (by kernel_rfl) ?_ rfl (fun _=>by kernel_rfl) ?_
   ·refine aj.gA (d:=(some 148)) (R:=[wA G fs xs root S2 rM (tr++[bB nT oR c2]),wA G2 (aL fs gs n) (aO xs ys n) root S V2 jL,.abs R]) (pk:=[0,1,2]) (fun _=>by kernel_rfl) (yJ (au cs i) (hS.q i (by omega)).data (hS.q i (by omega)).len) rfl (by kernel_rfl) ?_
    rintro uF _ _ dV ⟨yN,yO,rfl,rfl,Bh⟩
    replace hG:=hG.le dV
    replace hS:=hS.le dV
    replace hg:=hg.le dV
    replace jD:=jD.le dV
    replace jR:=jR.le dV
    replace hT:=hT.le dV
    replace kD:=kD.le dV
    replace oA:=oA.le dV
    replace tD:=tD.le dV
    replace tE:=tE.le dV
    replace hle0:=hle0.trans dV
    refine NL ?_
    exact ai.I3 (yN,yO,uF) rfl dV (Bh) (idx:=[1,10,12,14,142,143,148]) (pk:=[0,1,2]) (fun _=>by kernel_rfl) rfl (by kernel_rfl)
   rintro⟨yN,yO,uF⟩ dV Bh
   show lI _ uF _ _ _ _ _ [(1,.slice A1 (n) (c1)),(10,vP G.w),(12,vP G2.w),(14,vI ↑i),(142,.agg #[vI (c2.op),vI (c2.handle),vI (c2.other),.string c2.name,.string c2.text,.slice uh (c2.data.length) (vE),vI (c2.mode),vI (c2.uid),vI (c2.gid),vI (c2.sec),vI (c2.nano),vI (c2.code),vI (c2.answer)]),(143,vP G2.w),(148,.agg #[vI ((au cs i).op),vI ((au cs i).handle),vI ((au cs i).other),.string (au cs i).name,.string (au cs i).text,.slice yN ((au cs i).data.length) (yO),vI ((au cs i).mode),vI ((au cs i).uid),vI ((au cs i).gid),vI ((au cs i).sec),vI ((au cs i).nano),vI ((au cs i).code),vI ((au cs i).answer)])] [wA G fs xs root S2 rM (tr++[bB nT oR c2]),wA G2 (aL fs gs n) (aO xs ys n) root S V2 jL,.abs R] _
   replace hG:=hG.le dV
   replace hS:=hS.le dV
   replace hg:=hg.le dV
   replace jD:=jD.le dV
   replace jR:=jR.le dV
   replace hT:=hT.le dV
   replace kD:=kD.le dV
   replace oA:=oA.le dV
   replace tD:=tD.le dV
   replace tE:=tE.le dV
   replace hle0:=hle0.trans dV
   replace vD:=vD.trans dV
   refine lI.J5 (ι:=Bs×(Option Addr)×Nat×(Option Addr)×Nat×WV) (B:=fun ((kV,uj,vF,zS,CI,zT):Bs×(Option Addr)×Nat×(Option Addr)×Nat×WV)=>kV) (Φ:=fun ((kV,uj,vF,zS,CI,zT):Bs×(Option Addr)×Nat×(Option Addr)×Nat×WV)=>(bh kV uj c2.data)/\(bh kV zS c2.data)) (fr':=fun ((kV,uj,vF,zS,CI,zT):Bs×(Option Addr)×Nat×(Option Addr)×Nat×WV)=>[(1,.slice A1 (n) (c1)),(10,vP G.w),(12,vP G2.w),(14,vI ↑i),(142,.agg #[vI (c2.op),vI (c2.handle),vI (c2.other),.string c2.name,.string c2.text,.slice uh (c2.data.length) (vE),vI (c2.mode),vI (c2.uid),vI (c2.gid),vI (c2.sec),vI (c2.nano),vI (c2.code),vI (c2.answer)]),(149,.agg #[vI (c2.op),vI (c2.handle),vI (c2.other),.string c2.name,.string c2.text,.slice zS (c2.data.length) (CI),vI (c2.mode),vI (c2.uid),vI (c2.gid),vI (c2.sec),vI (c2.nano),vI (c2.code),vI (c2.answer)])]) (hp':=fun ((kV,uj,vF,zS,CI,zT):Bs×(Option Addr)×Nat×(Option Addr)×Nat×WV)=>[wA G2 (aL fs gs n) (aO xs ys n) root S2 zT (jL++[bB uj vF c2]),wA G fs xs root S2 rM (tr++[bB nT oR c2]),.abs R]) [] vD (by kernel_rfl) ?_ rfl (fun _=>by kernel_rfl) ?_
   ·refine aj.gA (d:=(some 149)) (R:=[wA G fs xs root S2 rM (tr++[bB nT oR c2]),.abs R]) (pk:=[1,0,2]) (fun _=>by kernel_rfl) (yD (β:=uF) (G:=G2) (fs:=(aL fs gs n)) (xs:=(aO xs ys n)) (S:=S) (V:=V2) (tr:=jL) (c:=bB yN yO (au cs i)) (c2:=bB yN yO c2) (S2:=S2) hrw hI (by have:=kU hmm;omega) jR (DC hab hyb hxy) hg Bh.b (hS.q i (by omega)).len (hS.q i (by omega)).hw (hS.q i (by omega)).ow (hS.q i (by omega)).name (hS.q i (by omega)).text (D1.trans (by rw [J4 (by omega) (by have:=kU hmm;omega),kU hmm,Pb]))) rfl (by kernel_rfl) ?_
    rintro kV _ _ cT ⟨zT,uj,vF,zS,CI,rfl,rfl,Ob,Oc,_⟩
    replace hG:=hG.le cT
    replace hS:=hS.le cT
    replace hg:=hg.le cT
    replace jD:=jD.le cT
    replace jR:=jR.le cT
    replace hT:=hT.le cT
    replace kD:=kD.le cT
    replace oA:=oA.le cT
    replace tD:=tD.le cT
    replace tE:=tE.le cT
    replace Bh:=Bh.le cT
    replace hle0:=hle0.trans cT
    refine NL ?_
    exact ai.I3 (kV,uj,vF,zS,CI,zT) rfl cT (⟨Ob,Oc⟩) (idx:=[1,10,12,14,142,149]) (pk:=[0,1,2]) (fun _=>by kernel_rfl) rfl (by kernel_rfl)
   rintro⟨kV,uj,vF,zS,CI,zT⟩ cT ⟨Ob,Oc⟩
   show lI _ kV _ _ _ _ _ [(1,.slice A1 (n) (c1)),(10,vP G.w),(12,vP G2.w),(14,vI ↑i),(142,.agg #[vI (c2.op),vI (c2.handle),vI (c2.other),.string c2.name,.string c2.text,.slice uh (c2.data.length) (vE),vI (c2.mode),vI (c2.uid),vI (c2.gid),vI (c2.sec),vI (c2.nano),vI (c2.code),vI (c2.answer)]),(149,.agg #[vI (c2.op),vI (c2.handle),vI (c2.other),.string c2.name,.string c2.text,.slice zS (c2.data.length) (CI),vI (c2.mode),vI (c2.uid),vI (c2.gid),vI (c2.sec),vI (c2.nano),vI (c2.code),vI (c2.answer)])] [wA G2 (aL fs gs n) (aO xs ys n) root S2 zT (jL++[bB uj vF c2]),wA G fs xs root S2 rM (tr++[bB nT oR c2]),.abs R] _
   replace hG:=hG.le cT
   replace hS:=hS.le cT
   replace hg:=hg.le cT
   replace jD:=jD.le cT
   replace jR:=jR.le cT
   replace hT:=hT.le cT
   replace kD:=kD.le cT
   replace oA:=oA.le cT
   replace tD:=tD.le cT
   replace tE:=tE.le cT
   replace Bh:=Bh.le cT
   replace hle0:=hle0.trans cT
   replace vD:=vD.trans cT
   refine lI.cut (ι:=Unit) (fr':=fun (_:Unit)=>[(1,.slice A1 (n) (c1)),(10,vP G.w),(12,vP G2.w),(14,vI ↑i),(150,.bool true)]) (hp':=fun (_:Unit)=>[wA G2 (aL fs gs n) (aO xs ys n) root S2 zT (jL++[bB uj vF c2]),wA G fs xs root S2 rM (tr++[bB nT oR c2]),.abs R]) [] vD (by kernel_rfl) ?_ rfl (fun _=>by kernel_rfl) ?_
   ·refine gL [] (yG c2 uh zS vE CI tE Oc (by rw [hd2];exact Nat.le_trans (hS.q i (by omega)).len (by decide))) ?_
    rintro _ _ ⟨rfl,rfl⟩
    refine NL ?_
    exact MD () [1,10,12,14,150] [0,1,2]
   rintro _
   refine lI.last (by kernel_rfl) ?_
   refine gK 1 [(151,.bool false)] [] ?_
   refine NL (ai.np (NX ?_))
   refine CF (af.skip (ai.aJ (NX (af.region ?_))))
   refine gK 3 [(14,vI ↑(i+1))] [(1,p_ ⟨[],none,none,none,some (vI ↑(i+1))⟩ [(Value.int .i64 (IntKind.wrap .i64 (((i:Nat):Int)+1)))=(.int .i64 ↑(i+1))] ⟨bA (by omega) (by omega) (by omega),trivial⟩)] ?_
   refine NL ?_
   exact ai.IU ((i+1),kV,S2,rM,(tr++[bB nT oR c2]),zT,(jL++[bB uj vF c2])) (hb:=rfl) (idx:=[1,10,12,14]) (pk:=[1,0,2]) (show (((i+1))<=n)/\((B0 W).le kV)/\(ay kV A ns Y)/\(cI kV A1 cs)/\(jf kV)/\(Inv S2)/\(je kV G.Z xs)/\(je kV G2.Z (aO xs ys n))/\(((tr++[bB nT oR c2])).length=((i+1)))/\(kx kV ((tr++[bB nT oR c2])))/\(kx kV ((jL++[bB uj vF c2])))/\(((jL++[bB uj vF c2])).map bare=((tr++[bB nT oR c2])).map bare) from ⟨by omega,hle0,hG,hS,hg,(by have h:=Inv.ia (fs:=fs) (xs:=xs) (root:=root) (n:=tr.length+1) (c:=(au cs i)) hI;rw [Pb] at h;exact h),jD,jR,by rw [List.length_append,htr];rfl,hT.snoc (c:=bB nT oR c2) tD (by show c2.data.length<=_;rw [hd2];exact (hS.q i (by omega)).len),kD.snoc (c:=bB uj vF c2) Ob (by show c2.data.length<=_;rw [hd2];exact (hS.q i (by omega)).len),by rw [List.map_append,List.map_append,hmm];rfl⟩) (by show n - ((i+1)) < n - i;omega) (fun _=>by kernel_rfl) rfl (by kernel_rfl)
  refine af.exit (ai.aU (ai.aU (ai.cM (NX (SR ?_)))))
  refine gK 1 [(152,vP G.w)] [] ?_
  refine aj.gA (d:=(some 153)) (R:=[wA G2 (aL fs gs n) (aO xs ys n) root S V2 jL,.abs R]) (pk:=[0,1,2]) (fun _=>by kernel_rfl) (wE (β:=b) (G:=G) (fs:=fs) (xs:=xs) (root:=root) (S:=S) (V:=V) (tr:=tr) hI) rfl (by kernel_rfl) ?_
  rintro U9 _ _ mR ⟨Wd,Wf,Wg,rfl,rfl,hH1⟩
  replace hG:=hG.le mR
  replace hS:=hS.le mR
  replace hg:=hg.le mR
  replace jD:=jD.le mR
  replace jR:=jR.le mR
  replace hT:=hT.le mR
  replace kD:=kD.le mR
  replace hle0:=hle0.trans mR
  refine gK 1 [(154,vP G2.w)] [] ?_
  refine aj.gA (d:=(some 155)) (R:=[wA G fs xs root S V tr,.abs R]) (pk:=[1,0,2]) (fun _=>by kernel_rfl) (wE (β:=U9) (G:=G2) (fs:=(aL fs gs n)) (xs:=(aO xs ys n)) (root:=root) (S:=S) (V:=V2) (tr:=jL) hI) rfl (by kernel_rfl) ?_
  rintro Va _ _ lJ ⟨Wh,Wi,Wj,rfl,rfl,hH2⟩
  replace hG:=hG.le lJ
  replace hS:=hS.le lJ
  replace hg:=hg.le lJ
  replace jD:=jD.le lJ
  replace jR:=jR.le lJ
  replace hT:=hT.le lJ
  replace kD:=kD.le lJ
  replace hH1:=hH1.le lJ
  replace hle0:=hle0.trans lJ
  refine gL [] ((E6 Wd Wh Wf Wi (bn S) (bn S) Wg Wj hH1 hH2 (NU hI.toInv0) (NT hI.toInv0)).val (congrArg Value.bool (decide_eq_true rfl))) ?_
  rintro _ _ ⟨rfl,rfl⟩
  refine gK 2 [(157,.bool true),(158,vP G.w)] [] ?_
  refine aj.gA (d:=(some 159)) (R:=[wA G2 (aL fs gs n) (aO xs ys n) root S V2 jL,.abs R]) (pk:=[1,0,2]) (fun _=>by kernel_rfl) (yI (β:=Va) (G:=G) (fs:=fs) (xs:=xs) (root:=root) (S:=S) (V:=V) (tr:=tr) (by have:=kU hmm;omega) hT) rfl (by kernel_rfl) ?_
  rintro Vb _ _ kA ⟨Wk,Wl,Vc,rfl,rfl,L6,hM1⟩
  replace hG:=hG.le kA
  replace hS:=hS.le kA
  replace hg:=hg.le kA
  replace jD:=jD.le kA
  replace jR:=jR.le kA
  replace hT:=hT.le kA
  replace kD:=kD.le kA
  replace hH1:=hH1.le kA
  replace hH2:=hH2.le kA
  replace hle0:=hle0.trans kA
  refine gK 1 [(160,vP G2.w)] [] ?_
  refine aj.gA (d:=(some 161)) (R:=[wA G fs xs root S V tr,.abs R]) (pk:=[1,0,2]) (fun _=>by kernel_rfl) (yI (β:=Vb) (G:=G2) (fs:=(aL fs gs n)) (xs:=(aO xs ys n)) (root:=root) (S:=S) (V:=V2) (tr:=jL) (by have:=kU hmm;omega) kD) rfl (by kernel_rfl) ?_
  rintro Vd _ _ jM ⟨Si,Sj,Ve,rfl,rfl,Sk,hM2⟩
  replace hG:=hG.le jM
  replace hS:=hS.le jM
  replace hg:=hg.le jM
  replace jD:=jD.le jM
  replace jR:=jR.le jM
  replace hT:=hT.le jM
  replace kD:=kD.le jM
  replace hH1:=hH1.le jM
  replace hH2:=hH2.le jM
  replace L6:=L6.le jM
  replace hle0:=hle0.trans jM
  refine aj.slot 161 (.slice Si (jL.length) (Sj)) (.slice Si (tr.length) (Sj)) (fun _=>by kernel_rfl) (congrArg (fun n=>Value.slice _ n _) (kU hmm)) ?_
  have hl2:=kU hmm
  refine gL [] (Ez Wk Si Wl Sj tr.length Vc Ve tr L6 Sk hM1 (hM2.trans hmm) rfl (by omega)) ?_
  rintro _ _ ⟨rfl,rfl⟩
  refine gK 3 [(164,.bool true),(165,vP G.w)] [] ?_
  refine aj.gA (d:=(some 166)) (R:=[wA G2 (aL fs gs n) (aO xs ys n) root S V2 jL,.abs R]) (pk:=[1,0,2]) (fun _=>by kernel_rfl) (yI (β:=Vd) (G:=G) (fs:=fs) (xs:=xs) (root:=root) (S:=S) (V:=V) (tr:=tr) (by have:=kU hmm;omega) hT) rfl (by kernel_rfl) ?_
  rintro WR _ _ jm ⟨Xr,Xs,WS,rfl,rfl,Xt,Xu⟩
  replace hG:=hG.le jm
  replace hS:=hS.le jm
  replace hg:=hg.le jm
  replace jD:=jD.le jm
  replace jR:=jR.le jm
  replace hT:=hT.le jm
  replace kD:=kD.le jm
  replace hH1:=hH1.le jm
  replace hH2:=hH2.le jm
  replace L6:=L6.le jm
  replace Sk:=Sk.le jm
  replace hle0:=hle0.trans jm
  refine gK 6 [(6,.bool true)] [(3,p_ ⟨[],none,none,none,some (.bool true)⟩ [((.bool (decide ((((tr.length:Nat):Int):Int)=(((n:Nat):Int):Int))):Value))=(.bool true)] ⟨congrArg Value.bool (decide_eq_true (by omega)),trivial⟩)] ?_
  refine NN (af.ret ?_)
  exact ai.P6 (v:=.bool true) (l:=[]) (bG:=[]) [] [2] hle0 (fun _=>by kernel_rfl) trivial rfl (by kernel_rfl) (rfl)
 refine af.region ?_
 have L5:(aO xs (ys.take j) n)=(aO xs ys n):=by rw [show j=ys.length by omega,List.take_length]
 refine aj.bI 3 (p:=.abs (av 41 5 As ((aO xs (ys.take j) n).length) cz (aH cD (aO xs (ys.take j) n)))) (p':=.abs (av 41 5 As ((aO xs ys n).length) cz (aH cD (aO xs ys n)))) (by kernel_rfl) (by rw [L5]) ?_
 refine aj.bI 2 (p:=.blk b4 [.slice Ar ((aL fs gs n).length) (cr),.slice As ((aO xs (ys.take j) n).length) (cz)] 32) (p':=.blk b4 [.slice Ar ((aL fs gs n).length) (cr),.slice As ((aO xs ys n).length) (cz)] 32) (by kernel_rfl) (congrArg (fun n=>HP.blk _ [_,.slice _ n _] _) (show (aO xs (ys.take j) n).length=(aO xs ys n).length by rw [L5])) ?_
 refine aj.lM (Φ:=fun β'=>bX β' As (aH cD (aO xs ys n))) 3 [0,1,2,4] (cR:=[.blk b1 [.slice A (ns.length) (c),vI (root),vI (X.cN),vI (X.cB),vI (X.cH),vI (X.cS),vI (X.cZ),.slice Af (fs.length) (cf),.slice Aa (xs.length) (ca)] 34,.blk b2 [.slice Mf (gs.length) (mf),.slice Ma (ys.length) (ma)] 32,.blk b4 [.slice Ar ((aL fs gs n).length) (cr),.slice As ((aO xs ys n).length) (cz)] 32,.abs R]) rfl rfl (by kernel_rfl) (fun F w h β' h1 h2=>bX.jb h h1 h2) (fun Vf lK yK=>?_)
 replace hG:=hG.le lK
 replace hF:=hF.le lK
 replace hA:=hA.le lK
 replace hF2:=hF2.le lK
 replace iK:=iK.le lK
 replace hS:=hS.le lK
 replace hg:=hg.le lK
 replace ug:=ug.le lK
 replace hle0:=hle0.trans lK
 refine gK 1 [(93,.agg #[.slice A (ns.length) (c),vI (root),vI (X.cN),vI (X.cB),vI (X.cH),vI (X.cS),vI (X.cZ),.slice Af (fs.length) (cf),.slice Aa (xs.length) (ca)])] [(0,A_ 0 b1 9)] ?_
 refine aj.gA (d:=(some 94)) (R:=[.blk b1 [.slice A (ns.length) (c),vI (root),vI (X.cN),vI (X.cB),vI (X.cH),vI (X.cS),vI (X.cZ),.slice Af (fs.length) (cf),.slice Aa (xs.length) (ca)] 34,.blk b2 [.slice Mf (gs.length) (mf),.slice Ma (ys.length) (ma)] 32,.blk b4 [.slice Ar ((aL fs gs n).length) (cr),.slice As ((aO xs ys n).length) (cz)] 32,.abs R]) (pk:=[0,1,2,3]) (fun _=>by kernel_rfl) (CD (β:=Vf) (X:=X) h0 A c Y hG hB Af cf fs hF (jZ.wide (by decide)) Aa ca xs hA hab) rfl (by kernel_rfl) ?_
 rintro Vg _ _ kB ⟨rfl,rfl⟩
 replace hG:=hG.le kB
 replace hF:=hF.le kB
 replace hA:=hA.le kB
 replace hF2:=hF2.le kB
 replace iK:=iK.le kB
 replace hS:=hS.le kB
 replace hg:=hg.le kB
 replace ug:=ug.le kB
 replace yK:=yK.le kB
 replace hle0:=hle0.trans kB
 refine gK 5 [(10,.pointer none),(11,vI ((cL X ns root)))] [] ?_
 refine NS (gC 3 [] [(0,A_ 2 b4 2),(2,A_ 0 b1 2)] [(0,[(7,.slice Ar ((aL fs gs n).length) (cr)),(8,.slice As ((aO xs ys n).length) (cz))])] ?_)
 refine NS (gK 1 [(100,.agg #[.slice A (ns.length) (c),vI (root),vI (X.cN),vI (X.cB),vI (X.cH),vI (X.cS),vI (X.cZ),.slice Ar ((aL fs gs n).length) (cr),.slice As ((aO xs ys n).length) (cz)])] [(0,A_ 0 b1 9)] ?_)
 refine aj.gA (d:=(some 101)) (R:=[.blk b1 [.slice A (ns.length) (c),vI (root),vI (X.cN),vI (X.cB),vI (X.cH),vI (X.cS),vI (X.cZ),.slice Ar ((aL fs gs n).length) (cr),.slice As ((aO xs ys n).length) (cz)] 34,.blk b2 [.slice Mf (gs.length) (mf),.slice Ma (ys.length) (ma)] 32,.blk b4 [.slice Ar ((aL fs gs n).length) (cr),.slice As ((aO xs ys n).length) (cz)] 32,.abs R]) (pk:=[0,1,2,3]) (fun _=>by kernel_rfl) (CD (β:=Vg) (X:=X) h0 A c Y hG hB Ar cr (aL fs gs n) ug (IG jZ hgb) As cz (aO xs ys n) yK (DC hab hyb hxy)) rfl (by kernel_rfl) ?_
 rintro WT _ _ kC ⟨rfl,rfl⟩
 replace hG:=hG.le kC
 replace hF:=hF.le kC
 replace hA:=hA.le kC
 replace hF2:=hF2.le kC
 replace iK:=iK.le kC
 replace hS:=hS.le kC
 replace hg:=hg.le kC
 replace ug:=ug.le kC
 replace yK:=yK.le kC
 replace hle0:=hle0.trans kC
 refine gK 5 [(12,.pointer none),(13,vI ((cL X ns root)))] [] ?_
 refine NN (af.seq (SR (gK 11 [(114,.bool true)] [(2,p_ ⟨[],none,none,none,some (.bool false)⟩ [(Value.bool (!decide (((cL X ns root):Int)=((cL X ns root):Int))))=(.bool false)] ⟨congrArg (fun b=>Value.bool !b) (decide_eq_true rfl),trivial⟩)] ?_)))
 refine NN (CT (SR (gK 16 [(6,.bool true)] [(9,p_ ⟨[],none,none,none,some (.bool true)⟩ [(Value.bool (decide (((cL X ns root):Int)=((cL X ns root):Int))))=(.bool true)] ⟨by simp,trivial⟩),(13,p_ ⟨[],none,none,none,some (.bool true)⟩ [((.bool (!(decide (((cL X ns root):Int)=(0:Int)))):Value))=(.bool true)] ⟨congrArg (fun b=>Value.bool !b) (decide_eq_false h0),trivial⟩)] ?_)))
 refine NN (af.ret (ai.ar ?_))
 exact ai.P6 (v:=.bool true) (l:=[]) (bG:=[]) [] [3] hle0 (fun _=>by kernel_rfl) trivial rfl (by kernel_rfl) (rfl)
end
section
open Go.RowKit
theorem glob_ok {W:World} (h:W.ShapedOpen Tryz.prog):jf (B0 W):=by
  obtain⟨m,hm⟩:=cell_of_shapedOpen_int (g:=0) (t:=3) (zero:=#[.int .i64 0]) (k:=.i64) h (Nat.le_of_ble_eq_true (by kernel_rfl)) (by kernel_rfl) rfl (by kernel_rfl) (by kernel_rfl) Tryz.underlying3
  exact⟨m,Hj hm,hm⟩
end
section
theorem Bj {a:Assume} {stops:Option Stop.Interp} {C:Checked} {os:Os} {f:FuncId} {r:Go.Reach} {okInput:Program->World->Go.Reach->Nat->FuncId->Input->Prop} {Pre:World->Array Value->Prop} {Post:World->Array Value->Value->World->Prop} {always:Machine->Prop}
    (h:ReturnsInOpen a stops C os f r okInput Pre Post (aloneAtReturn C.prog) always):ReturnsInOpen a stops C os f r okInput Pre Post (leavingAtReturn C.prog) always:=by
  obtain⟨g0,g1,g2,g3,Vh⟩:=h
  refine⟨g0,g1,g2,g3,fun w tape i hf=>?_⟩
  obtain⟨n,v,w',hn,hc,hr,hp,⟨j,last,hj,hs,hq,hh,he⟩,ha⟩:=Vh w tape i hf
  exact⟨n,v,w',hn,hc,hr,hp,⟨j,last,hj,hs,hh,onlyLeaving_of_quiet hq,he⟩,ha⟩
theorem holds_leaving {p:Pinned} {s:OpenSpec} {c:OpenClaim} (hw:c.wf s=true) (hst:c.start=.entering) (hs:c.stops=[]) (hl:c.leaving=true) (h:({ c with leaving:=false }:OpenClaim).holds p s):c.holds p s:=by
  obtain⟨k1,k2,k3,k4,k5,k6,k7,k8,f,fn,k9,k10,k11,k12,k13,k14,k15,k16,k17,k18,k19,k20,k21,k22,k23,k24,k25,k26,k27,k28,Wm,L,Wn,hf⟩:=h
  refine⟨hw,k2,k3,k4,k5,k6,k7,k8,f,fn,k9,k10,k11,k12,k13,k14,k15,k16,k17,k18,k19,k20,k21,k22,k23,k24,k25,k26,k27,k28,Wm,L,Wn,fun os h1 h2 H enc inj=>?_⟩
  have h3:=hf os h1 h2 H enc inj
  unfold OpenClaim.form at h3 ⊢
  simp only [hst,hs] at h3 ⊢
  intro F
  have h4:=Bj (h3 F)
  unfold OpenClaim.atReturn
  rw [hl]
  exact h4
end
end Go.Proofs.YtidjcblbdmfalaaGreat
