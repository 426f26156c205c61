/-
  PROVED HERE: lemmas and contracts of functions (texts of this repo, joined; what the claim does not use is left out): GCheck, GE, GEnter, GR, GRead, GP, GRef, GW, Hm, Fam, Ld, Fw, Ms, Hn, Ho, Sb, ShelfK, Free, HeapMath, Up, Down, PushPop, TabMath, Tab, Tq, TKt, TabT, Hp, Hs, Hi, Hj, Hk, Hl, Hq, Hr, Ht, Hu, TabMath2, Hv, Hw, Hx, Op.
  CONDITIONS: as the theorems say.
-/
import Derived.Test.YtbnfiigafobejaaGreatMWdoes1
import Derived.Maps.OwnOps
import Derived.Shelf.SlGeneric
import Derived.Shelf.SlIterI.Nil
import Derived.Shelf.SortM.Plain
import Derived.Shelf.SortM.SortNone
import Derived.Ground.GgzProg
import Derived.Ground.SlgmProg
import Derived.Test.YtbnfiigafobejaaGreatProg
import Derived.RegionTactic
import Derived.Deep.QuietTactic
import Derived.BigQuiet
import Derived.BigRegion
import Derived.StillTailTactics
import Derived.WalkSpells
import Derived.Outline
import Derived.Deep.AppendLies
import Derived.Deep.RegionLaw
import Derived.LoopTactic
import Derived.LaidEqlPtr
set_option maxRecDepth 100000
set_option maxHeartbeats 4000000
namespace Go.Proofs.YtbnfiigafobejaaGreat
section
open Go.RowKit
attribute [local irreducible] av bN aq aB
theorem Be {β:Bs} (a b c:Int) :
 aW Tryz.prog β 119 #[vI (a),vI (b),vI (c)] [] (λv l=>v=.bool (decide (Within a b c))/\l=[]):=by
 exact SE Tryz.func119 Tryz.ntmps119 (λR=>SR (jK 1 [] [] (NS (jK 4 [10] [] (sP 10 ((a:Int)>=(b:Int)) (λh10=>jK 5 [6] [] (eN (v:=(.bool (decide ((a:Int)<=(c:Int))))) ⟨agX Value.bool (ahb.2 (by unfold Within;omega)),rfl⟩)) (λh10=>jK 5 [6] [] (eN ⟨agX Value.bool (agZ (by unfold Within;omega)).symm,rfl⟩)))))))
theorem nj {β:Bs} (s n:Int) :
 aW Tryz.prog β 62 #[.agg #[vI (s),vI (n)]] [] (λv l=>v=.bool (decide (fZ s n))/\l=[]):=by
 exact SE Tryz.func62 Tryz.ntmps62 (λR=>SR (jB 2 [1] (λb1=>.aD b1 [vI (s),vI (n)] 26) (λb1=>NZ (jK 4 [6] [(1,a_ 1 b1)] (sP 6 ((n:Int)<(0:Int)) (λh6=>jK 4 [10] [] (NT (zR ⟨agX Value.bool (agZ (by unfold fZ;omega)).symm,rfl⟩))) (λh6=>jK 4 [10] [(1,a_ 1 b1)] (NN (cP ((n:Int)>=(1000000000:Int)) (λh10=>zR ⟨agX Value.bool (agZ (by unfold fZ;omega)).symm,rfl⟩) (λh10=>KX (SQ (jK 3 [13] [(1,a_ 1 b1)] (NN (cP ((s:Int)=((-1099511627777):Int)) (λsi=>SR (jK 4 [2] [(1,a_ 1 b1)] (eN (v:=(.bool (decide ((n:Int)>(0:Int))))) ⟨agX Value.bool (ahb.2 (by unfold fZ;omega)),rfl⟩))) (λsi=>KX (SR (jK 4 [20] [(1,a_ 1 b1)] (sP 20 ((s:Int)>((-1099511627777):Int)) (λo5=>jK 5 [2] [(1,a_ 1 b1)] (eN (v:=(.bool (decide ((s:Int)<=(1099511627776:Int))))) ⟨agX Value.bool (ahb.2 (by unfold fZ;omega)),rfl⟩)) (λo5=>jK 5 [2] [] (eN ⟨agX Value.bool (agZ (by unfold fZ;omega)).symm,rfl⟩)))))))))))))))))))
theorem Cj {β:Bs} (s n:Int) :
 aW Tryz.prog β 51 #[.agg #[vI (s),vI (n)]] [] (λv l=>v=.bool (decide (fZ s n))/\l=[]):=by
 exact SE Tryz.func51 Tryz.ntmps51 (λR=>SR (jB 2 [1] (λb2=>.aD b2 [vI (s),vI (n)] 26) (λb2=>NZ (jK 4 [6] [(1,a_ 1 b2)] (sP 6 ((n:Int)<(0:Int)) (λh6=>jK 14 [20] [] (NT (zR ⟨agX Value.bool (agZ (by unfold fZ;omega)).symm,rfl⟩))) (λh6=>jK 5 [11] [(1,a_ 1 b2)] (sP 11 ((n:Int)>=(1000000000:Int)) (λh11=>jK 9 [20] [] (NT (zR ⟨agX Value.bool (agZ (by unfold fZ;omega)).symm,rfl⟩))) (λh11=>jK 5 [16] [(1,a_ 1 b2)] (sP 16 ((s:Int)>(1099511627776:Int)) (λo6=>jK 4 [20] [] (NT (zR ⟨agX Value.bool (agZ (by unfold fZ;omega)).symm,rfl⟩))) (λo6=>jK 4 [20] [(1,a_ 1 b2)] (NN (cP ((s:Int)<((-1099511627777):Int)) (λo5=>zR ⟨agX Value.bool (agZ (by unfold fZ;omega)).symm,rfl⟩) (λo5=>KX (SR (jK 4 [24] [(1,a_ 1 b2)] (sN 24 ((s:Int)=((-1099511627777):Int)) (λrA=>jK 5 [2] [] (eN ⟨agX Value.bool (ahh (by unfold fZ;omega)).symm,rfl⟩)) (λrA=>jK 5 [2] [(1,a_ 1 b2)] (eN (v:=(.bool (!(decide ((n:Int)=(0:Int)))))) ⟨agX Value.bool (Ek (by unfold fZ;omega)),rfl⟩))))))))))))))))))
theorem C9 {β:Bs} (s:ByteArray) (hl:s.size<=1048576) :
 aW Tryz.prog β 71 #[.string s] [] (λv l=>v=.bool (decide (cq s))/\l=[]):=by
 refine SE Tryz.func71 Tryz.ntmps71 (λR=>SR (jK 1 [] [] (NZ (jK 1 [3] [] (NN (aq.block (lJ (λ(i:Nat)=>(i<=s.size)/\(∀j,j<i->¬dL s j=0/\¬dL s j=47)) (λ(i:Nat)=>s.size-i) (λ(i:Nat)=>[(0,.string s),(3,vI ↑i)]) (λ(i:Nat)=>[.abs R]) 0 [0] (⟨ag0 _,λj hj=>agY hj (ag2 j)⟩) ?_)))))))
 rintro i ⟨hi,jP⟩
 exact SQ (jK 4 [7] [] (NN (cP ((((i:Nat):Int):Int)<((((s:ByteArray).size:Nat):Int):Int)) (λh7=>KX (aq.seq (aq.block (SR (jK 5 [14] [(2,xP i (i<(s:ByteArray).size))] (sP 14 ((((((s:ByteArray).data.getD (i) 0).toNat:Nat):Int):Int)=(0:Int)) (λmw=>jK 5 [19] [] (NT (zR ⟨agX Value.bool (agZ (by intro g;have:=g.2.2.2.2 i zc;unfold dL at this;omega)).symm,rfl⟩))) (λmw=>jK 5 [19] [(2,xP i (i<(s:ByteArray).size))] (NN (cP ((((((s:ByteArray).data.getD (i) 0).toNat:Nat):Int):Int)=(47:Int)) (λGj=>zR ⟨agX Value.bool (agZ (by intro g;have:=g.2.2.2.2 i zc;unfold dL at this;omega)).symm,rfl⟩) (λGj=>KX (aq.region (jK 3 [3] [(1,wJ ((i:Int)+1) (↑(i+1)))] (NL (tJ ((i+1)) [0] (⟨zc,λj hj=>by grind [dL]⟩))))))))))))))) (λh7=>XX (SR (jK 4 [23] [] (sP 23 (((((s:ByteArray).size:Nat):Int):Int)>=(1:Int)) (λh23=>jK 5 [28] [] (sP 28 (((((s:ByteArray).size:Nat):Int):Int)<=(255:Int)) (λvL=>jK 4 [32] [(1,w_ (.bool (!(decide ((s:ByteArray)=⟨#[46]⟩)))) (Ir _ _))] (sN 32 ((s:ByteArray)=⟨#[46]⟩) (λr8=>jK 4 [2] [(1,w_ (.bool (!(decide ((s:ByteArray)=⟨#[46,46]⟩)))) (Ir _ _))] (eN (v:=(.bool (!(decide ((s:ByteArray)=⟨#[46,46]⟩))))) ⟨agX Value.bool (Ek (by have hA:∀j,j<s.size->¬dL s j=0/\¬dL s j=47:=λj hj=>jP j zc;unfold cq;grind)),rfl⟩)) (λr8=>jK 4 [2] [] (eN ⟨agX Value.bool (agZ (by have hA:∀j,j<s.size->¬dL s j=0/\¬dL s j=47:=λj hj=>jP j zc;unfold cq;grind)).symm,rfl⟩)))) (λvL=>jK 8 [2] [] (eN ⟨agX Value.bool (agZ (by have hA:∀j,j<s.size->¬dL s j=0/\¬dL s j=47:=λj hj=>jP j zc;unfold cq;grind)).symm,rfl⟩)))) (λh23=>jK 13 [2] [] (eN ⟨agX Value.bool (agZ (by have hA:∀j,j<s.size->¬dL s j=0/\¬dL s j=47:=λj hj=>jP j zc;unfold cq;grind)).symm,rfl⟩)))))))))
theorem NC {β:Bs} (n:aO) (dA eA:Option Addr) (dC eC:Nat) (ht:n.target.size<=1048576) :
 aW Tryz.prog β 70 #[.agg #[vI (n.id),vI (n.kind),vI (n.mode),vI (n.bg),vI (n.bh),vI (n.aU),vI (n.aI),.slice dA (n.data.length) (dC),.string n.target,.slice eA (n.ah.length) (eC)]] [] (λv l=>v=.bool (decide (r9 n))/\l=[]):=by
 refine SE Tryz.func70 Tryz.ntmps70 (λR=>SR (jB 2 [1] (λb3=>.aD b3 [vI (n.id),vI (n.kind),vI (n.mode),vI (n.bg),vI (n.bh),vI (n.aU),vI (n.aI),.slice dA (n.data.length) (dC),.string n.target,.slice eA (n.ah.length) (eC)] 95) (λb3=>NZ (jK 4 [7] [(1,a_ 1 b3)] (sP 7 ((n.kind:Int)<(1:Int)) (λh7=>jK 40 [47] [] (NT (zR ⟨agX Value.bool (agZ (by rw [dx];grind [dG])).symm,rfl⟩))) (λh7=>jK 5 [12] [(1,a_ 1 b3)] (sP 12 ((n.kind:Int)>(3:Int)) (λh12=>jK 35 [47] [] (NT (zR ⟨agX Value.bool (agZ (by rw [dx];grind [dG])).symm,rfl⟩))) (λh12=>jK 5 [17] [(1,a_ 1 b3)] (sP 17 ((n.mode:Int)<(0:Int)) (λEj=>jK 30 [47] [] (NT (zR ⟨agX Value.bool (agZ (by rw [dx];grind [dG])).symm,rfl⟩))) (λEj=>jK 5 [22] [(1,a_ 1 b3)] (sP 22 ((n.mode:Int)>(4095:Int)) (λsj=>jK 25 [47] [] (NT (zR ⟨agX Value.bool (agZ (by rw [dx];grind [dG])).symm,rfl⟩))) (λsj=>jK 5 [27] [(1,a_ 1 b3)] (sP 27 ((n.bg:Int)<(0:Int)) (λxE=>jK 20 [47] [] (NT (zR ⟨agX Value.bool (agZ (by rw [dx];grind [dG])).symm,rfl⟩))) (λxE=>jK 5 [32] [(1,a_ 1 b3)] (sP 32 ((n.bg:Int)>(2147483647:Int)) (λr8=>jK 15 [47] [] (NT (zR ⟨agX Value.bool (agZ (by rw [dx];grind [dG])).symm,rfl⟩))) (λr8=>jK 5 [37] [(1,a_ 1 b3)] (sP 37 ((n.bh:Int)<(0:Int)) (λyK=>jK 10 [47] [] (NT (zR ⟨agX Value.bool (agZ (by rw [dx];grind [dG])).symm,rfl⟩))) (λyK=>jK 5 [42] [(1,a_ 1 b3)] (sP 42 ((n.bh:Int)>(2147483647:Int)) (λkQ=>jK 5 [47] [] (NT (zR ⟨agX Value.bool (agZ (by rw [dx];grind [dG])).symm,rfl⟩))) (λkQ=>jK 2 [44] [(1,A_ 1 b3 2)] (gE [] (Cj n.aU n.aI) (jK 2 [47] [] (NN (cN (fZ n.aU n.aI) (λRn=>zR ⟨agX Value.bool (agZ (by rw [dx];grind [dG])).symm,rfl⟩) (λRn=>KX (SQ (jK 4 [51] [(1,a_ 1 b3)] (sN 51 ((n.kind:Int)=(1:Int)) (λxG=>?_) (λxG=>?_)))))))))))))))))))))))))))))
 ·refine jK 6 [57] [(1,a_ 1 b3)] (sP 57 ((((n.data.length:Nat):Int):Int)>(0:Int)) (λxH=>jK 10 [67] [] (NT (zR ⟨agX Value.bool (agZ (by rw [dx];grind [dG])).symm,rfl⟩))) (λxH=>jK 4 [61] [(1,a_ 1 b3)] (sN 61 ((n.kind:Int)=(2:Int)) (λh61=>?_) (λh61=>?_))))
  ·refine jK 6 [67] [(1,a_ 1 b3)] (NN (cP ((((n.ah.length:Nat):Int):Int)>(0:Int)) (λIV=>zR ⟨agX Value.bool (agZ (by rw [dx];grind [dG])).symm,rfl⟩) (λIV=>KX (SQ (jK 3 [70] [(1,a_ 1 b3)] (NN (cN ((n.kind:Int)=(3:Int)) (λND=>SR (jK 4 [2] [(1,a_ 1 b3),(2,w_ (.bool (decide ((n.target:ByteArray)=⟨#[]⟩))) (qN _ _))] (eN (v:=(.bool (decide ((n.target:ByteArray)=⟨#[]⟩)))) ⟨agX Value.bool (ahb.2 (by rw [dx];grind [dG])),rfl⟩))) (λND=>KX (SQ (jK 1 [3] [] (NN (aq.block (lJ (λ(i:Nat)=>(i<=n.target.size)/\(∀j,j<i->¬dL n.target j=0)) (λ(i:Nat)=>n.target.size-i) (λ(i:Nat)=>[(1,vP b3),(3,vI ↑i)]) (λ(i:Nat)=>[.abs R,.aD b3 [vI (n.id),vI (n.kind),vI (n.mode),vI (n.bg),vI (n.bh),vI (n.aU),vI (n.aI),.slice dA (n.data.length) (dC),.string n.target,.slice eA (n.ah.length) (eC)] 95]) 0 [0,1] (⟨ag0 _,λj hj=>agY hj (ag2 j)⟩) ?_)))))))))))))
   rintro i ⟨hi,jP⟩
   exact SQ (jK 5 [78] [(2,a_ 1 b3)] (NN (cP ((((i:Nat):Int):Int)<((((n.target:ByteArray).size:Nat):Int):Int)) (λNE=>KX (aq.seq (aq.block (SR (jK 5 [85] [(1,a_ 1 b3),(3,xP i (i<(n.target:ByteArray).size))] (NN (cP ((((((n.target:ByteArray).data.getD (i) 0).toNat:Nat):Int):Int)=(0:Int)) (λNG=>zR ⟨agX Value.bool (agZ (by intro g;have:=(dG.sym g.target zc).2.2 i zc;unfold dL at this;omega)).symm,rfl⟩) (λNG=>KX (aq.region (jK 3 [3] [(1,wJ ((i:Int)+1) (↑(i+1)))] (NL (tJ ((i+1)) [0,1] (⟨zc,λj hj=>by grind [dL]⟩))))))))))))) (λNE=>XX (SR (jK 5 [90] [(1,a_ 1 b3)] (sP 90 (((((n.target:ByteArray).size:Nat):Int):Int)>=(1:Int)) (λvM=>jK 6 [2] [(1,a_ 1 b3)] (eN (v:=(.bool (decide (((((n.target:ByteArray).size:Nat):Int):Int)<=(4096:Int))))) ⟨agX Value.bool (ahb.2 (by grind [qJ,dx,dG])),rfl⟩)) (λvM=>jK 6 [2] [] (eN ⟨agX Value.bool (agZ (by have hA:qJ n.target:=λj hj=>jP j zc;rw [dx];grind [dG])).symm,rfl⟩)))))))))
  refine jK 6 [67] [] (NF (KX (SQ (jK 3 [70] [(1,a_ 1 b3)] (NN (cN ((n.kind:Int)=(3:Int)) (λND=>SR (jK 4 [2] [(1,a_ 1 b3),(2,w_ (.bool (decide ((n.target:ByteArray)=⟨#[]⟩))) (qN _ _))] (eN (v:=(.bool (decide ((n.target:ByteArray)=⟨#[]⟩)))) ⟨agX Value.bool (ahb.2 (by rw [dx];grind [dG])),rfl⟩))) (λND=>KX (SQ (jK 1 [3] [] (NN (aq.block (lJ (λ(i:Nat)=>(i<=n.target.size)/\(∀j,j<i->¬dL n.target j=0)) (λ(i:Nat)=>n.target.size-i) (λ(i:Nat)=>[(1,vP b3),(3,vI ↑i)]) (λ(i:Nat)=>[.abs R,.aD b3 [vI (n.id),vI (n.kind),vI (n.mode),vI (n.bg),vI (n.bh),vI (n.aU),vI (n.aI),.slice dA (n.data.length) (dC),.string n.target,.slice eA (n.ah.length) (eC)] 95]) 0 [0,1] (⟨ag0 _,λj hj=>agY hj (ag2 j)⟩) ?_))))))))))))
  rintro i ⟨hi,jP⟩
  exact SQ (jK 5 [78] [(2,a_ 1 b3)] (NN (cP ((((i:Nat):Int):Int)<((((n.target:ByteArray).size:Nat):Int):Int)) (λNE=>KX (aq.seq (aq.block (SR (jK 5 [85] [(1,a_ 1 b3),(3,xP i (i<(n.target:ByteArray).size))] (NN (cP ((((((n.target:ByteArray).data.getD (i) 0).toNat:Nat):Int):Int)=(0:Int)) (λNG=>zR ⟨agX Value.bool (agZ (by intro g;have:=(dG.sym g.target zc).2.2 i zc;unfold dL at this;omega)).symm,rfl⟩) (λNG=>KX (aq.region (jK 3 [3] [(1,wJ ((i:Int)+1) (↑(i+1)))] (NL (tJ ((i+1)) [0,1] (⟨zc,λj hj=>by grind [dL]⟩))))))))))))) (λNE=>XX (SR (jK 5 [90] [(1,a_ 1 b3)] (sP 90 (((((n.target:ByteArray).size:Nat):Int):Int)>=(1:Int)) (λvM=>jK 6 [2] [(1,a_ 1 b3)] (eN (v:=(.bool (decide (((((n.target:ByteArray).size:Nat):Int):Int)<=(4096:Int))))) ⟨agX Value.bool (ahb.2 (by grind [qJ,dx,dG])),rfl⟩)) (λvM=>jK 6 [2] [] (eN ⟨agX Value.bool (agZ (by have hA:qJ n.target:=λj hj=>jP j zc;rw [dx];grind [dG])).symm,rfl⟩)))))))))
 refine jK 10 [57,61] [(7,a_ 1 b3)] (sN 61 ((n.kind:Int)=(2:Int)) (λh61=>?_) (λh61=>?_))
 ·refine jK 6 [67] [(1,a_ 1 b3)] (NN (cP ((((n.ah.length:Nat):Int):Int)>(0:Int)) (λIV=>zR ⟨agX Value.bool (agZ (by rw [dx];grind [dG])).symm,rfl⟩) (λIV=>KX (SQ (jK 3 [70] [(1,a_ 1 b3)] (NN (cN ((n.kind:Int)=(3:Int)) (λND=>SR (jK 4 [2] [(1,a_ 1 b3),(2,w_ (.bool (decide ((n.target:ByteArray)=⟨#[]⟩))) (qN _ _))] (eN (v:=(.bool (decide ((n.target:ByteArray)=⟨#[]⟩)))) ⟨agX Value.bool (ahb.2 (by rw [dx];grind [dG])),rfl⟩))) (λND=>KX (SQ (jK 1 [3] [] (NN (aq.block (lJ (λ(i:Nat)=>(i<=n.target.size)/\(∀j,j<i->¬dL n.target j=0)) (λ(i:Nat)=>n.target.size-i) (λ(i:Nat)=>[(1,vP b3),(3,vI ↑i)]) (λ(i:Nat)=>[.abs R,.aD b3 [vI (n.id),vI (n.kind),vI (n.mode),vI (n.bg),vI (n.bh),vI (n.aU),vI (n.aI),.slice dA (n.data.length) (dC),.string n.target,.slice eA (n.ah.length) (eC)] 95]) 0 [0,1] (⟨ag0 _,λj hj=>agY hj (ag2 j)⟩) ?_)))))))))))))
  rintro i ⟨hi,jP⟩
  exact SQ (jK 5 [78] [(2,a_ 1 b3)] (NN (cP ((((i:Nat):Int):Int)<((((n.target:ByteArray).size:Nat):Int):Int)) (λNE=>KX (aq.seq (aq.block (SR (jK 5 [85] [(1,a_ 1 b3),(3,xP i (i<(n.target:ByteArray).size))] (NN (cP ((((((n.target:ByteArray).data.getD (i) 0).toNat:Nat):Int):Int)=(0:Int)) (λNG=>zR ⟨agX Value.bool (agZ (by intro g;have:=(dG.sym g.target zc).2.2 i zc;unfold dL at this;omega)).symm,rfl⟩) (λNG=>KX (aq.region (jK 3 [3] [(1,wJ ((i:Int)+1) (↑(i+1)))] (NL (tJ ((i+1)) [0,1] (⟨zc,λj hj=>by grind [dL]⟩))))))))))))) (λNE=>XX (SR (jK 5 [90] [(1,a_ 1 b3)] (sP 90 (((((n.target:ByteArray).size:Nat):Int):Int)>=(1:Int)) (λvM=>jK 6 [2] [(1,a_ 1 b3)] (eN (v:=(.bool (decide (((((n.target:ByteArray).size:Nat):Int):Int)<=(4096:Int))))) ⟨agX Value.bool (ahb.2 (by grind [qJ,dx,dG])),rfl⟩)) (λvM=>jK 6 [2] [] (eN ⟨agX Value.bool (agZ (by have hA:qJ n.target:=λj hj=>jP j zc;rw [dx];grind [dG])).symm,rfl⟩)))))))))
 refine jK 6 [67] [] (NF (KX (SQ (jK 3 [70] [(1,a_ 1 b3)] (NN (cN ((n.kind:Int)=(3:Int)) (λND=>SR (jK 4 [2] [(1,a_ 1 b3),(2,w_ (.bool (decide ((n.target:ByteArray)=⟨#[]⟩))) (qN _ _))] (eN (v:=(.bool (decide ((n.target:ByteArray)=⟨#[]⟩)))) ⟨agX Value.bool (ahb.2 (by rw [dx];grind [dG])),rfl⟩))) (λND=>KX (SQ (jK 1 [3] [] (NN (aq.block (lJ (λ(i:Nat)=>(i<=n.target.size)/\(∀j,j<i->¬dL n.target j=0)) (λ(i:Nat)=>n.target.size-i) (λ(i:Nat)=>[(1,vP b3),(3,vI ↑i)]) (λ(i:Nat)=>[.abs R,.aD b3 [vI (n.id),vI (n.kind),vI (n.mode),vI (n.bg),vI (n.bh),vI (n.aU),vI (n.aI),.slice dA (n.data.length) (dC),.string n.target,.slice eA (n.ah.length) (eC)] 95]) 0 [0,1] (⟨ag0 _,λj hj=>agY hj (ag2 j)⟩) ?_))))))))))))
 rintro i ⟨hi,jP⟩
 exact SQ (jK 5 [78] [(2,a_ 1 b3)] (NN (cP ((((i:Nat):Int):Int)<((((n.target:ByteArray).size:Nat):Int):Int)) (λNE=>KX (aq.seq (aq.block (SR (jK 5 [85] [(1,a_ 1 b3),(3,xP i (i<(n.target:ByteArray).size))] (NN (cP ((((((n.target:ByteArray).data.getD (i) 0).toNat:Nat):Int):Int)=(0:Int)) (λNG=>zR ⟨agX Value.bool (agZ (by intro g;have:=(dG.sym g.target zc).2.2 i zc;unfold dL at this;omega)).symm,rfl⟩) (λNG=>KX (aq.region (jK 3 [3] [(1,wJ ((i:Int)+1) (↑(i+1)))] (NL (tJ ((i+1)) [0,1] (⟨zc,λj hj=>by grind [dL]⟩))))))))))))) (λNE=>XX (SR (jK 5 [90] [(1,a_ 1 b3)] (sP 90 (((((n.target:ByteArray).size:Nat):Int):Int)>=(1:Int)) (λvM=>jK 6 [2] [(1,a_ 1 b3)] (eN (v:=(.bool (decide (((((n.target:ByteArray).size:Nat):Int):Int)<=(4096:Int))))) ⟨agX Value.bool (ahb.2 (by grind [qJ,dx,dG])),rfl⟩)) (λvM=>jK 6 [2] [] (eN ⟨agX Value.bool (agZ (by have hA:qJ n.target:=λj hj=>jP j zc;rw [dx];grind [dG])).symm,rfl⟩)))))))))
theorem yY {β:Bs} (A:Option Addr) (c:Nat) (ns:List aO) (L:eV) (hG:aP β A ns L) (hr:dH ns) (hl:ns.length<=1048576) (id:Int) :
 aW Tryz.prog β 32 #[.agg #[.slice A ns.length c],vI id] [] (λv l=>v=vI (gI ns id)/\l=[]):=by
 refine SE Tryz.func32 Tryz.ntmps32 (λR=>SR (jB 2 [2] (λb4=>.aD b4 [.slice A (ns.length) (c)] 24) (λb4=>NS (jK 1 [5] [] (NS (jK 4 [6] [(1,a_ 1 b4)] (NN (aq.seq (aq.block (lJ (λ(lo,hi)=>(lo<=hi)/\(hi<=ns.length)/\(∀j,j<lo->(nd ns j).id<id)/\(∀j,hi<=j->j<ns.length->id<=(nd ns j).id)) (λ(lo,hi)=>hi-lo) (λ(lo,hi)=>[(1,vI (id)),(2,vP b4),(5,vI ↑lo),(6,vI ↑hi)]) (λ(lo,hi)=>[.abs R,.aD b4 [.slice A (ns.length) (c)] 24]) (0,ns.length) [0,1] (⟨ag0 _,ag5 _,λj hj=>agY hj (ag2 j),λj h1 h2=>agY h2 (Nat.not_lt.2 h1)⟩) ?_))))))))))
 rintro⟨lo,hi⟩ ⟨hlh,hhi,ha,hb⟩
 exact SQ (jK 3 [13] [] (NN (cP ((((lo:Nat):Int):Int)<(((hi:Nat):Int):Int)) (λsi=>KX (aq.block (SR (jK 7 [7] [(3,wJ ((hi:Int)-(lo:Int)) (↑(hi-lo))),(4,w_ (.int .i64 ↑((hi-lo) / 2)) (vg (Int.ofNat_tdiv _ _).symm zc zc)),(5,wJ ((lo:Int)+(((hi-lo) / 2:Nat):Int)) (↑(lo+((hi-lo) / 2))))] (NS (jK 8 [27] [(1,a_ 1 b4),(3,p_ ⟨[],some (lo+((hi-lo) / 2)),none,some ⟨(bw A),br A,none⟩,none⟩ [((lo+((hi-lo) / 2):Nat):Int)=((lo+((hi-lo) / 2):Nat):Int),lo+((hi-lo) / 2)<ns.length,(⟨(bw A),br A,none⟩:Addr).spot=none,(A:Option Addr)=some ⟨(bw A),br A,none⟩] ⟨rfl,zc,rfl,aP.hd hG (i:=lo+((hi-lo) / 2)) zc,trivial⟩),(5,r_ (aP.rd hG (i:=lo+((hi-lo) / 2)) zc (j:=0) rfl))] (NN (cP (((nd ns (lo+((hi-lo) / 2))).id:Int)<(id:Int)) (λxE=>aq.region (jK 3 [5] [(1,wJ (((lo+((hi-lo) / 2):Nat):Int)+1) (↑((lo+((hi-lo) / 2))+1)))] (NL (aB.jX (tJ (((lo+(hi-lo) / 2)+1),hi) [0,1] (⟨zc,zc,λj hj=>by have:=hr.le (show j<=(lo+(hi-lo) / 2) by omega) zc;omega,hb⟩)))))) (λxE=>aq.region (jK 2 [6] [] (NL (aB.jX (tJ (lo,(lo+(hi-lo) / 2)) [0,1] (⟨zc,zc,ha,λj hj hj2=>by have:=hr.le hj hj2;omega⟩)))))))))))))) (λsi=>XX (SQ (jK 6 [36] [(2,a_ 1 b4)] (sP 36 ((((lo:Nat):Int):Int)<(((ns.length:Nat):Int):Int)) (λDU=>jK 9 [45] [(1,a_ 1 b4),(3,x_ lo ns.length (aP.hd hG (i:=lo) zc)),(5,r_ (aP.rd hG (i:=lo) zc (j:=0) rfl))] (NN (cP (((nd ns lo).id:Int)=(id:Int)) (λNH=>zR ⟨agX (Value.int .i64) (GZ hr zc NH).symm,rfl⟩) (λNH=>KX (zR ⟨agX (Value.int .i64) (C6 (λj hj e=>by rcases ahK j lo with h|h|h;have:=ha j h;omega;subst h;omega;have:=hr lo j h hj;have:=hb lo zc zc;omega)).symm,rfl⟩))))) (λDU=>jK 9 [45] [] (NF (KX (zR ⟨agX (Value.int .i64) (C6 (λj hj e=>by rcases ahK j lo with h|h|h;have:=ha j h;omega;subst h;omega;have:=hr lo j h hj;have:=hb lo zc zc;omega)).symm,rfl⟩)))))))))))
theorem FA {β:Bs} (A:Option Addr) (ns:List aO) (L:eV) (hG:aP β A ns L) (i:Nat) (hi:i<ns.length) :
 aW Tryz.prog β 120 #[.pointer (some ⟨(bw A),br A+i*10,none⟩)] [] (λv l=>v=.bool (decide (dG (nd ns i).kind (nd ns i).target))/\l=[]):=by
 exact SE Tryz.func120 Tryz.ntmps120 (λR=>SR (jK 1 [] [] (NZ (jK 5 [7] [(3,r_ (aP.rd hG (i:=i) zc (j:=1) rfl))] (NN (cN (((nd ns i).kind:Int)=(3:Int)) (λh7=>SR (jK 6 [2] [(3,r_ (aP.rd hG (i:=i) zc (j:=8) rfl)),(4,w_ (.bool (decide (((nd ns i).target:ByteArray)=⟨#[]⟩))) (qN _ _))] (eN (v:=(.bool (decide (((nd ns i).target:ByteArray)=⟨#[]⟩)))) ⟨agX Value.bool (ahb.2 (by grind [tv,nd,dG])),rfl⟩))) (λh7=>KX (SR (jK 6 [18] [(3,r_ (aP.rd hG (i:=i) zc (j:=8) rfl)),(4,w_ (.bool (!(decide (((nd ns i).target:ByteArray)=⟨#[]⟩)))) (Ir _ _))] (sN 18 (((nd ns i).target:ByteArray)=⟨#[]⟩) (λpU=>jK 8 [26] [(3,r_ (aP.rd hG (i:=i) zc (j:=8) rfl))] (sP 26 ((((((nd ns i).target:ByteArray).size:Nat):Int):Int)<=(4096:Int)) (λyI=>jK 4 [30] [(3,r_ (aP.rd hG (i:=i) zc (j:=8) rfl))] (gE [] (aW.quiet (λw=>Tryz.strings_IndexByte (nd ns i).target 0 w)) (jK 3 [2] [] (eN (v:=(.bool (decide ((Lib.indexByte (nd ns i).target.data.toList (0:Int).toNat.toUInt8:Int)<(0:Int))))) ⟨agX Value.bool (ahb.2 (by grind [tv,nd,Nv,dG])),rfl⟩)))) (λyI=>jK 8 [2] [] (eN ⟨agX Value.bool (agZ (by grind [tv,nd,dG])).symm,rfl⟩)))) (λpU=>jK 16 [2] [] (eN ⟨agX Value.bool (agZ (by grind [tv,nd,dG])).symm,rfl⟩))))))))))))
theorem X8 {β:Bs} (A:Option Addr) (ns:List aO) (L:eV) (hG:aP β A ns L) (i:Nat) (hi:i<ns.length) :
 aW Tryz.prog β 107 #[.pointer (some ⟨(bw A),br A+i*10,none⟩)] [] (λv l=>v=.bool (decide (r9 (nd ns i)))/\l=[]):=by
 refine SE Tryz.func107 Tryz.ntmps107 (λR=>SR (jK 1 [] [] (NZ (jK 4 [6] [(3,r_ (aP.rd hG (i:=i) zc (j:=1) rfl))] (gE [] (Be ((nd ns i).kind) 1 3) (jK 2 [9] [] (sN 9 (Within ((nd ns i).kind) 1 3) (λh9=>jK 23 [32] [] (NT (zR ⟨agX Value.bool (agZ (by grind [dx,Within])).symm,rfl⟩))) (λh9=>jK 4 [13] [(3,r_ (aP.rd hG (i:=i) zc (j:=2) rfl))] (gE [] (Be ((nd ns i).mode) 0 4095) (jK 3 [17] [] (sN 17 (Within ((nd ns i).mode) 0 4095) (λEj=>jK 15 [32] [] (NT (zR ⟨agX Value.bool (agZ (by grind [dx,Within])).symm,rfl⟩))) (λEj=>jK 4 [21] [(3,r_ (aP.rd hG (i:=i) zc (j:=3) rfl))] (gE [] (Be ((nd ns i).bg) 0 2147483647) (jK 3 [25] [] (sN 25 (Within ((nd ns i).bg) 0 2147483647) (λpR=>jK 7 [32] [] (NT (zR ⟨agX Value.bool (agZ (by grind [dx,Within])).symm,rfl⟩))) (λpR=>?_))))))))))))))))
 exact jK 4 [29] [(3,r_ (aP.rd hG (i:=i) zc (j:=4) rfl))] (gE [] (Be ((nd ns i).bh) 0 2147483647) (jK 2 [32] [] (NN (cN (Within ((nd ns i).bh) 0 2147483647) (λr8=>zR ⟨agX Value.bool (agZ (by grind [dx,Within])).symm,rfl⟩) (λr8=>KX (SQ (jK 6 [38] [(3,r_ (aP.rd hG (i:=i) zc (j:=1) rfl))] (sN 38 (((nd ns i).kind:Int)=(1:Int)) (λEm=>jK 8 [46] [(3,r_ (aP.rd hG (i:=i) zc (j:=7) rfl))] (sP 46 (((((nd ns i).data.length:Nat):Int):Int)>(0:Int)) (λh46=>jK 14 [60] [] (NT (zR ⟨agX Value.bool (agZ (by grind [dx,Within])).symm,rfl⟩))) (λh46=>jK 6 [52] [(3,r_ (aP.rd hG (i:=i) zc (j:=1) rfl))] (sN 52 (((nd ns i).kind:Int)=(2:Int)) (λyL=>jK 8 [60] [(3,r_ (aP.rd hG (i:=i) zc (j:=9) rfl))] (NN (cP (((((nd ns i).ah.length:Nat):Int):Int)>(0:Int)) (λNI=>zR ⟨agX Value.bool (agZ (by grind [dx,Within])).symm,rfl⟩) (λNI=>KX (SR (jK 4 [64] [(3,r2 (aP.rd hG (i:=i) zc (j:=5) rfl) (aP.rd hG (i:=i) zc (j:=6) rfl))] (gE [] (nj (nd ns i).aU (nd ns i).aI) (jK 1 [66] [] (sP 66 (fZ (nd ns i).aU (nd ns i).aI) (λl6=>jK 1 [67] [] (gE [] (FA A ns L hG i hi) (jK 2 [2] [] (eN (v:=(.bool (decide (dG (nd ns i).kind (nd ns i).target)))) ⟨agX Value.bool (ahb.2 (by grind [dx,Within])),rfl⟩)))) (λl6=>jK 4 [2] [] (eN ⟨agX Value.bool (agZ (by grind [dx,Within])).symm,rfl⟩))))))))))) (λyL=>jK 8 [60] [] (NF (KX (SR (jK 4 [64] [(3,r2 (aP.rd hG (i:=i) zc (j:=5) rfl) (aP.rd hG (i:=i) zc (j:=6) rfl))] (gE [] (nj (nd ns i).aU (nd ns i).aI) (jK 1 [66] [] (sP 66 (fZ (nd ns i).aU (nd ns i).aI) (λl6=>jK 1 [67] [] (gE [] (FA A ns L hG i hi) (jK 2 [2] [] (eN (v:=(.bool (decide (dG (nd ns i).kind (nd ns i).target)))) ⟨agX Value.bool (ahb.2 (by grind [dx,Within])),rfl⟩)))) (λl6=>jK 4 [2] [] (eN ⟨agX Value.bool (agZ (by grind [dx,Within])).symm,rfl⟩)))))))))))))) (λEm=>jK 14 [46,52] [(11,r_ (aP.rd hG (i:=i) zc (j:=1) rfl))] (sN 52 (((nd ns i).kind:Int)=(2:Int)) (λyL=>jK 8 [60] [(3,r_ (aP.rd hG (i:=i) zc (j:=9) rfl))] (NN (cP (((((nd ns i).ah.length:Nat):Int):Int)>(0:Int)) (λNI=>zR ⟨agX Value.bool (agZ (by grind [dx,Within])).symm,rfl⟩) (λNI=>KX (SR (jK 4 [64] [(3,r2 (aP.rd hG (i:=i) zc (j:=5) rfl) (aP.rd hG (i:=i) zc (j:=6) rfl))] (gE [] (nj (nd ns i).aU (nd ns i).aI) (jK 1 [66] [] (sP 66 (fZ (nd ns i).aU (nd ns i).aI) (λl6=>jK 1 [67] [] (gE [] (FA A ns L hG i hi) (jK 2 [2] [] (eN (v:=(.bool (decide (dG (nd ns i).kind (nd ns i).target)))) ⟨agX Value.bool (ahb.2 (by grind [dx,Within])),rfl⟩)))) (λl6=>jK 4 [2] [] (eN ⟨agX Value.bool (agZ (by grind [dx,Within])).symm,rfl⟩))))))))))) (λyL=>jK 8 [60] [] (NF (KX (SR (jK 4 [64] [(3,r2 (aP.rd hG (i:=i) zc (j:=5) rfl) (aP.rd hG (i:=i) zc (j:=6) rfl))] (gE [] (nj (nd ns i).aU (nd ns i).aI) (jK 1 [66] [] (sP 66 (fZ (nd ns i).aU (nd ns i).aI) (λl6=>jK 1 [67] [] (gE [] (FA A ns L hG i hi) (jK 2 [2] [] (eN (v:=(.bool (decide (dG (nd ns i).kind (nd ns i).target)))) ⟨agX Value.bool (ahb.2 (by grind [dx,Within])),rfl⟩)))) (λl6=>jK 4 [2] [] (eN ⟨agX Value.bool (agZ (by grind [dx,Within])).symm,rfl⟩))))))))))))))))))))
end
section
open Go.RowKit Go.Maps
def jy (x y:ByteArray):Prop:=(Op.bytesLess x.toList y.toList || (x.toList == y.toList))=true
instance (x y:ByteArray):Decidable (jy x y):=inferInstanceAs (Decidable (_=true))
theorem NJ (x y:ByteArray):Value.bool (Op.bytesLess x.toList y.toList || (x.toList == y.toList))=Value.bool (decide (jy x y)):=by
 grind [jy]
theorem Qs {x:ByteArray}:jy x ⟨#[]⟩↔x=⟨#[]⟩:=by
 unfold jy
 rw [D7]
 have h1:(⟨#[]⟩:ByteArray).toList=[]:=by rw [Lib.toList_data]
 have h2:Op.bytesLess x.toList (⟨#[]⟩:ByteArray).toList=false:=by
  rw [h1]
  cases x.toList<;>rfl
 rw [h2]
 simp
def bY (ns:List aO) (z:Int):Nat:=(gI ns z).toNat
theorem mU {ns:List aO} {z:Int} (h:0<=gI ns z):bY ns z<ns.length/\(nd ns (bY ns z)).id=z/\gI ns z=(bY ns z:Int):=by
 unfold bY
 unfold gI at h ⊢
 cases hf:ns.findIdx? (λn=>n.id == z) with
 |none=>rw [hf] at h;simp at h
 |some k=>
   rw [ahE] at hf
   grind [nd]
theorem Cz {ns:List aO} {z:Int} (h:¬0<=gI ns z):gI ns z = -1:=by
 grind [gI]
def bS (ns:List aO) (i j:Nat):fD:=en (nd ns i).ah j
def zV (ns:List aO) (i:Nat):Nat->ByteArray
 |0=>⟨#[]⟩
 |j+1=>(bS ns i j).name
structure wU (ns:List aO) (i j:Nat):Prop where
 at_:0<=gI ns (bS ns i j).id
 good:cq (bS ns i j).name
 ord:¬jy (bS ns i j).name (zV ns i j)
def Ro (ns:List aO) (i j:Nat):List (Nat×Nat):=if (nd ns (bY ns (bS ns i j).id)).kind=2 then [(bY ns (bS ns i j).id,i)] else []
def ig (ns:List aO) (i:Nat):Nat->List (Nat×Nat)
 |0=>[]
 |j+1=>Ro ns i j++ig ns i j
def jj (ns:List aO):Nat->List (Nat×Nat)
 |0=>[]
 |i+1=>ig ns i (nd ns i).ah.length++jj ns i
def lf (ns:List aO) (p:Nat×Nat):Int×Int:=((nd ns p.1).id,(nd ns p.2).id)
theorem Vc {ns:List aO} {i j m:Nat} (h:j<=m):∃l,ig ns i m=l++ig ns i j:=by
 induction m with
 |zero=>exact⟨[],by rw [Nat.le_zero.1 h];rfl⟩
 |succ m ih=>
   rcases Nat.lt_or_ge m j with h1|h1
   ·have:j=m+1:=zc
    subst this
    exact⟨[],rfl⟩
   grind [Ro,ig]
theorem Vd {ns:List aO} {i m:Nat} (h:i<=m):∃l,jj ns m=l++jj ns i:=by
 induction m with
 |zero=>exact⟨[],by rw [Nat.le_zero.1 h];rfl⟩
 |succ m ih=>
   rcases Nat.lt_or_ge m i with h1|h1
   ·have:i=m+1:=zc
    subst this
    exact⟨[],rfl⟩
   grind [ig,nd,jj]
theorem En {l:List (Nat×Nat)} {k:List (Nat×Nat)} (h:((l++k).map Prod.fst).Nodup):(k.map Prod.fst).Nodup:=by
 grind
theorem dH.inj {ns:List aO} (hr:dH ns) {a b:Nat} (ha:a<ns.length) (hb:b<ns.length) (h:(nd ns a).id=(nd ns b).id):a=b:=by
 rcases ahK a b with h1|h1|h1
 all_goals grind [dH,nd]
theorem Rp {ns:List aO} {ps:List (Nat×Nat)} {k:Nat} (h:up (ps.map (lf ns)) (nd ns k).id=none):k∉ps.map Prod.fst:=by
 unfold up at h
 induction ps with
 |nil=>simp
 |cons p ps ih=>
   grind [lf,nd]
theorem Rq {ns:List aO} {ps:List (Nat×Nat)} {k:Nat} {y:Int} (hr:dH ns) (hk:k<ns.length) (hp:∀p,p∈ps->p.1<ns.length) (h:up (ps.map (lf ns)) (nd ns k).id=some y):k∈ps.map Prod.fst/\∃p,p∈ps/\p.1=k/\y=(nd ns p.2).id:=by
 unfold up at h
 induction ps with
 |nil=>cases h
 |cons p ps ih=>
   obtain⟨a,b⟩:=p
   rw [ahs,lf,List.lookup_cons] at h
   by_cases e:((nd ns k).id == (nd ns a).id)=true
   ·rw [e] at h
    cases h
    have:k=a:=hr.inj hk (hp (a,b) (ag7 ..)) (by simpa using e)
    subst this
    exact⟨agU,(k,b),ag7 ..,rfl,rfl⟩
   grind
def bf (A:Option Addr) (ns:List aO) (k:Nat) (z:Int):Option Value:=if 0<=gI ns z/\gI ns z<k then some (.pointer (some ⟨bw A,br A+bY ns z*10,none⟩)) else none
structure Da (ns:List aO) (i:Nat) (ps:List (Nat×Nat)):Prop where
 ah:∀j,j<(nd ns i).ah.length->wU ns i j
 nodup:((ig ns i (nd ns i).ah.length++ps).map Prod.fst).Nodup
theorem aeK {A:Option Addr} {ns:List aO} {k:Nat} {z:Int} (h:0<=gI ns z) (hk:bY ns z<k):mf (bf A ns k) (.int .i64 z)=some (.pointer (some ⟨bw A,br A+bY ns z*10,none⟩)):=
 agW ⟨h,by rw [(mU h).2.2];omega⟩
theorem abI {A:Option Addr} {ns:List aO} {k:Nat} {z:Int} (h:¬0<=gI ns z):mf (bf A ns k) (.int .i64 z)=none:=agV (λe=>h e.1)
theorem NK (ns:List aO) (i j:Nat):(ig ns i j).length<=j:=by
 induction j with
 |zero=>exact ag5 _
 |succ j ih=>
   grind [ig,Ro]
theorem rC {ns:List aO} {i j:Nat} (h:¬(nd ns (bY ns (bS ns i j).id)).kind=2):ig ns i (j+1)=ig ns i j:=by
 rw [ig,Ro,agV h];rfl
theorem qx {ns:List aO} {i j:Nat} (h:(nd ns (bY ns (bS ns i j).id)).kind=2):ig ns i (j+1)=(bY ns (bS ns i j).id,i)::ig ns i j:=by
 rw [ig,Ro,agW h];rfl
theorem Ck {ns:List aO} {i j:Nat} {ps:List (Nat×Nat)} (h:Da ns i ps) (hj:j<(nd ns i).ah.length) (hk:(nd ns (bY ns (bS ns i j).id)).kind=2):bY ns (bS ns i j).id∉(ig ns i j++ps).map Prod.fst:=by
 obtain⟨l,hl⟩:=Vc (ns:=ns) (i:=i) (show j+1<=(nd ns i).ah.length from hj)
 have h1:=h.nodup
 grind [En,qx]
theorem X9 {ns:List aO} {i j:Nat} {ps:List (Nat×Nat)} (hat:0<=gI ns (bS ns i j).id) (hk:(nd ns (bY ns (bS ns i j).id)).kind=2) :
 qd (mf (pf ((ig ns i j++ps).map (lf ns)))) (.int .i64 (bS ns i j).id) (some (.int .i64 (nd ns i).id))=mf (pf ((ig ns i (j+1)++ps).map (lf ns))):=by
 rw [Nw,qx hk,ahB,ahs,lf,(mU hat).2.1,abG]
theorem Ya {ns:List aO} {i j:Nat} {ps:List (Nat×Nat)} {f:Lit->Option Value} {kl:Lit} (hf:f kl=none) (hk:(nd ns (bY ns (bS ns i j).id)).kind=2) :
 (if (f kl).isSome then (ig ns i j++ps).length else (ig ns i j++ps).length+1)=(ig ns i (j+1)++ps).length:=by
 rw [hf,qx hk]
 rfl
theorem S9 {ns:List aO} {i j:Nat} {ps:List (Nat×Nat)} (hat:0<=gI ns (bS ns i j).id) (hk:(nd ns (bY ns (bS ns i j).id)).kind=2) (hup:up ((ig ns i j++ps).map (lf ns)) (bS ns i j).id=none) (h:((ig ns i j++ps).map Prod.fst).Nodup) :
 ((ig ns i (j+1)++ps).map Prod.fst).Nodup:=by
 grind [qx,Rp,mU,gI,bS,nd,bY,up,ig,lf]
theorem NM {ns:List aO} {i j:Nat} (h:∀t,t<j->wU ns i t):∀p,p∈ig ns i j->p.1<ns.length/\p.2=i:=by
 induction j with
 |zero=>intro p hp;cases hp
 |succ j ih=>
   intro p hp
   rw [ig] at hp
   rcases ahj.1 hp with hp|hp
   ·unfold Ro at hp
    split at hp
    ·rw [ahu.1 hp]
     exact⟨(mU (h j (ahn j)).at_).1,rfl⟩
    cases hp
   exact ih (λt ht=>h t zc) p hp
theorem Qt {ns:List aO} {i j:Nat} {ps:List (Nat×Nat)} {y:Int} (hr:dH ns) (ax:∀p,p∈ps->p.1<ns.length) (hok:∀t,t<j->wU ns i t) (hat:0<=gI ns (bS ns i j).id) (hk:(nd ns (bY ns (bS ns i j).id)).kind=2)
 (hup:up ((ig ns i j++ps).map (lf ns)) (bS ns i j).id=some y) (hj:j<(nd ns i).ah.length):¬Da ns i ps:=λh=>by
 refine Ck h hj hk ?_
 rw [←(mU hat).2.1] at hup
 refine (Rq hr (mU hat).1 (λp hp=>?_) hup).1
 rcases ahj.1 hp with hp|hp
 ·exact (NM hok p hp).1
 exact ax p hp
end
section
open Go.RowKit
attribute [local irreducible] av bN aq aB kS
theorem Yb {β:Bs} (A:Option Addr) (ns:List aO) (L:eV) (hG:aP β A ns L) (hr:dH ns) (i:Nat) (hi:i<ns.length) (hel:(nd ns i).ah.length<=1048576) (hwf:∀j,j<(nd ns i).ah.length->-9223372036854775808<=(bS ns i j).id/\(bS ns i j).id<=9223372036854775807) (hnm:∀j,j<(nd ns i).ah.length->(bS ns i j).name.size<=1048576)
 (mb mp:Nat) (ps:List (Nat×Nat)) (hpl:ps.length<=16777216) (ax:∀p,p∈ps->p.1<ns.length) (hnp:(ps.map Prod.fst).Nodup) :
 aW Tryz.prog β 108 #[.pointer (some ⟨(bw A),br A+i*10,none⟩),.map (some mb),.map (some mp)] [.abs (bM Tryz.prog 3 mb (mf (bf A ns ns.length)) ns.length),.abs (bM Tryz.prog 3 mp (mf (pf ((ps).map (lf ns)))) ((ps).length))] (λv l=>(v=.bool true/\Da ns i ps/\l=[.abs (bM Tryz.prog 3 mb (mf (bf A ns ns.length)) ns.length),.abs (bM Tryz.prog 3 mp (mf (pf ((ig ns i (nd ns i).ah.length++ps).map (lf ns)))) ((ig ns i (nd ns i).ah.length++ps).length))])\/(v=.bool false/\¬Da ns i ps/\l=[])):=by
 refine SE Tryz.func108 Tryz.ntmps108 (λR=>SR (jK 1 [] [] (NS (jK 1 [7] [] (NZ (jK 6 [16,17,18] [(3,r_ (aP.rd hG (i:=i) zc (j:=9) rfl))] (NN (aq.block (lJ (λ(j:Nat)=>(j<=(nd ns i).ah.length)/\(∀t,t<j->wU ns i t)/\(((ig ns i j++ps).map Prod.fst).Nodup)) (λ(j:Nat)=>(nd ns i).ah.length-j) (λ(j:Nat)=>[(0,.pointer (some ⟨(bw A),br A+i*10,none⟩)),(1,.map (some mb)),(2,.map (some mp)),(7,.string (zV ns i j)),(16,.slice (L.eA i) ((nd ns i).ah.length) ((L.eC i))),(17,vI ↑((nd ns i).ah.length)),(18,vI ↑j)]) (λ(j:Nat)=>[.abs (bM Tryz.prog 3 mb (mf (bf A ns ns.length)) ns.length),.abs (bM Tryz.prog 3 mp (mf (pf ((ig ns i j++ps).map (lf ns)))) ((ig ns i j++ps).length)),.abs R]) 0 [0,1,2] (⟨ag0 _,λt ht=>agY ht (ag2 t),hnp⟩) ?_)))))))))
 rintro j ⟨hj,hok,hnd⟩
 refine SR (jK 1 [19] [] (NN (aq.seq (cP ((((j:Nat):Int):Int)<((((nd ns i).ah.length:Nat):Int):Int)) (λGj=>KX (aq.seq (aq.block (SR (jN 4 [9] (λb1=>[(0,x_ j ((nd ns i).ah.length) (cU.hd (hG.ah i zc) (i:=j) zc)),(1,r2 (cU.rd (hG.ah i zc) (i:=j) zc (j:=0) rfl) (cU.rd (hG.ah i zc) (i:=j) zc (j:=1) rfl)),(3,A_ 3 b1 2)]) (λ_=>[]) (λb1=>.aD b1 [.string (en (nd ns i).ah j).name,vI ((en (nd ns i).ah j).id)] 149) (λb1=>NS (jK 3 [22,24] [(2,a_ 3 b1)] ?_))))))) (λGj=>XX (zR (l:=[.abs (bM Tryz.prog 3 mb (mf (bf A ns ns.length)) ns.length),.abs (bM Tryz.prog 3 mp (mf (pf ((ig ns i j++ps).map (lf ns)))) ((ig ns i j++ps).length))]) (.inl ⟨rfl,⟨λt ht=>hok t zc,Pe⟩,Pe⟩)))))))
 by_cases hat:0<=gI ns (en (nd ns i).ah j).id
 ·have htl:=mU hat
  refine av.je 0 (d:=(some 25)) (t:=177) (K:=3) (E:=192) (b:=mb) (n:=ns.length) (f:=(mf (bf A ns ns.length))) (x:=(.tmp 22)) (ix:=(.tmp 24)) (key:=vI ((en (nd ns i).ah j).id)) (z:=.pointer none) (kl:=(.int .i64 (en (nd ns i).ah j).id)) (r:=(some (.pointer (some ⟨(bw A),br A+(bY ns (en (nd ns i).ah j).id)*10,none⟩)))) (λ_=>KB) KB (λ_=>KB) (λ_=>KB) iU Tryz.underlying177 (λ_=>KB) (vX (hwf j zc).1 (hwf j zc).2) (aeK hat htl.1) (jK 1 [10] [] (NZ (jK 5 [28,30] [(4,a_ 3 b1)] (gE [] (zU (en (nd ns i).ah j).name (hnm j zc)) (jK 3 [34] [] (sN 34 (cq (en (nd ns i).ah j).name) (λxI=>jK 5 [39] [] (NT (zR (.inr ⟨rfl,λh=>xI (h.ah j zc).good,rfl⟩) [2]))) (λxI=>jK 5 [39] [(1,a_ 3 b1),(3,w_ (.bool (decide (jy ((en (nd ns i).ah j).name) (zV ns i j)))) (NJ _ _))] (NN (cP (jy ((en (nd ns i).ah j).name) (zV ns i j)) (λnh=>zR (.inr ⟨rfl,λh=>(h.ah j zc).ord nh,rfl⟩) [2]) (λnh=>KX (SR (jK 3 [7] [(1,a_ 3 b1)] (NZ (jK 5 [46] [(3,r_ (aP.rd hG (i:=(bY ns (en (nd ns i).ah j).id)) zc (j:=1) rfl))] (NN (cN (((nd ns (bY ns (en (nd ns i).ah j).id)).kind:Int)=(2:Int)) (λh46=>XX (aq.region (av.cL 1 (p':=.abs (bM Tryz.prog 3 mp (mf (pf ((ig ns i (j+1)++ps).map (lf ns)))) ((ig ns i (j+1)++ps).length))) rfl (by rw [rC h46]) (jK 2 [18] [(0,wJ ((j:Int)+1) (↑(j+1)))] (NL (tJ ((j+1)) [0,1,2] (⟨zc,λt ht=>(by rcases ag3.1 ht with h|h;exact hok t h;subst h;exact⟨hat,xI,nh⟩),(by rw [rC h46];exact hnd)⟩))))))) (λh46=>KX (SQ (jK 3 [48,50] [(2,a_ 3 b1)] ?_)))))))))))))))))))
  rcases hup:up ((ig ns i j++ps).map (lf ns)) (en (nd ns i).ah j).id with _|y
  ·exact av.AX 1 (d:=(some 51)) (t:=107) (K:=3) (E:=3) (b:=mp) (n:=(ig ns i j++ps).length) (f:=(mf (pf ((ig ns i j++ps).map (lf ns))))) (x:=(.tmp 48)) (ix:=(.tmp 50)) (key:=vI ((en (nd ns i).ah j).id)) (z:=.int .i64 0) (kl:=(.int .i64 (en (nd ns i).ah j).id)) (r:=none) (λ_=>KB) KB (λ_=>KB) (λ_=>KB) iU Tryz.underlying107 (λ_=>KB) (vX (hwf j zc).1 (hwf j zc).2) (C8 hup) (jK 5 [12] [] (NS (jK 1 [54] [] (NF (KX (aq.wR 7 KB KB (kS.seg (k':=7) (bU:=[(0,.pointer (some ⟨(bw A),br A+i*10,none⟩)),(1,.map (some mb)),(2,.map (some mp)),(7,.string (en (nd ns i).ah j).name),(16,.slice (L.eA i) ((nd ns i).ah.length) ((L.eC i))),(17,vI ↑((nd ns i).ah.length)),(18,vI ↑j),(55,.map (some mp)),(57,vI ((en (nd ns i).ah j).id)),(61,vI ((nd ns i).id))]) (eZ:=[(Rd β ⟨(bw A),br A+i*10,none⟩ (vI ((nd ns i).id))),b1=b1]) [o_,o_,⟨[.at 3],none,none,none,none⟩,o_,o_,o_,⟨[.old (.int .i64 ((nd ns i).id))],none,none,none,none⟩] [0,1,2,7,16,17,18,55,57,61] (λ_ _=>KB) ⟨aP.rd hG (i:=i) zc (j:=0) rfl,rfl,trivial⟩ Pd (kS.done rfl (av.qO 1 (d:=none) (t:=107) (K:=3) (E:=3) (b:=mp) (n:=(ig ns i j++ps).length) (f:=(mf (pf ((ig ns i j++ps).map (lf ns))))) (x:=(.tmp 55)) (ix:=(.tmp 57)) (y:=(.tmp 61)) (key:=vI ((en (nd ns i).ah j).id)) (u:=.int .i64 ((nd ns i).id)) (kl:=(.int .i64 (en (nd ns i).ah j).id)) (n':=(ig ns i (j+1)++ps).length) (f':=(mf (pf ((ig ns i (j+1)++ps).map (lf ns))))) (λ_=>KB) KB (λ_=>KB) (λ_=>KB) (λ_=>KB) iU Tryz.underlying107 (by have:=NK ns i j;rw [ag4];unfold maxLen;omega) (vX (hwf j zc).1 (hwf j zc).2) (Ya (C8 hup) h46) (X9 hat h46) (LX (aq.region (jK 2 [18] [(0,wJ ((j:Int)+1) (↑(j+1)))] (NL (tJ ((j+1)) [0,1,2] (⟨zc,λt ht=>(by rcases ag3.1 ht with h|h;exact hok t h;subst h;exact⟨hat,xI,nh⟩),(S9 hat h46 hup hnd)⟩)))))))))))))))
  exact av.AX 1 (d:=(some 51)) (t:=107) (K:=3) (E:=3) (b:=mp) (n:=(ig ns i j++ps).length) (f:=(mf (pf ((ig ns i j++ps).map (lf ns))))) (x:=(.tmp 48)) (ix:=(.tmp 50)) (key:=vI ((en (nd ns i).ah j).id)) (z:=.int .i64 0) (kl:=(.int .i64 (en (nd ns i).ah j).id)) (r:=(some (vI y))) (λ_=>KB) KB (λ_=>KB) (λ_=>KB) iU Tryz.underlying107 (λ_=>KB) (vX (hwf j zc).1 (hwf j zc).2) (aaH hup) (jK 5 [12] [] (NS (jK 1 [54] [] (NT (zR (.inr ⟨rfl,Qt hr ax hok hat h46 hup zc,rfl⟩) [2])))))
 exact av.je 0 (d:=(some 25)) (t:=177) (K:=3) (E:=192) (b:=mb) (n:=ns.length) (f:=(mf (bf A ns ns.length))) (x:=(.tmp 22)) (ix:=(.tmp 24)) (key:=vI ((en (nd ns i).ah j).id)) (z:=.pointer none) (kl:=(.int .i64 (en (nd ns i).ah j).id)) (r:=none) (λ_=>KB) KB (λ_=>KB) (λ_=>KB) iU Tryz.underlying177 (λ_=>KB) (vX (hwf j zc).1 (hwf j zc).2) (abI hat) (jK 1 [10] [] (NZ (jK 14 [39] [] (NT (zR (.inr ⟨rfl,λh=>hat (h.ah j zc).at_,rfl⟩) [2])))))
end
section
open Go.RowKit Go.Maps
def dJ (ns:List aO):Nat->Nat
 |0=>0
 |k+1=>dJ ns k+(nd ns k).ah.length
def qQ (ns:List aO):Nat->Int
 |0=>0
 |k+1=>(nd ns k).id
structure cA (ns:List aO):Prop where
 len:ns.length<=4096
 node:∀i,i<ns.length->r9 (nd ns i)
 ids:∀i,i<ns.length->1<=(nd ns i).id/\(nd ns i).id<=1099511627776
 fI:dH ns
 sum:dJ ns ns.length<=8192
 ah:∀i,i<ns.length->∀j,j<(nd ns i).ah.length->wU ns i j
 nodup:((jj ns ns.length).map Prod.fst).Nodup
 ends:Cy ((jj ns ns.length).map (lf ns))
noncomputable instance (ns:List aO):Decidable (cA ns):=Classical.propDecidable _
theorem cA.last {ns:List aO} (h:cA ns) {k:Nat} (hk:k<ns.length):qQ ns k<(nd ns k).id:=by
 cases k with
 |zero=>have:=(h.ids 0 hk).1;show (0:Int)<_;omega
 |succ k=>exact h.fI k (k+1) (ahn k) hk
structure vZ (ns:List aO) (k:Nat):Prop where
 node:∀i,i<k->r9 (nd ns i)
 ids:∀i,i<k->1<=(nd ns i).id/\(nd ns i).id<=1099511627776
 fI:∀i j,i<j->j<k->(nd ns i).id<(nd ns j).id
theorem vZ.zero (ns:List aO):vZ ns 0:=⟨λi h=>agY h (ag2 i),λi h=>agY h (ag2 i),λ_ j _ h=>agY h (ag2 j)⟩
theorem vZ.last {ns:List aO} {k:Nat} (h:vZ ns k):0<=qQ ns k/\qQ ns k<=1099511627776:=by
 cases k with
 |zero=>exact⟨Int.le_refl _,by show (0:Int)<=1099511627776;decide⟩
 |succ k=>have:=h.ids k (ahn k);exact⟨by show 0<=(nd ns k).id;omega,this.2⟩
theorem vZ.step {ns:List aO} {k:Nat} (h:vZ ns k) (h1:qQ ns k<(nd ns k).id) (h2:(nd ns k).id<=1099511627776) (h3:r9 (nd ns k)):vZ ns (k+1):=by
 have hl:=h.last
 refine⟨λi hi=>?_,λi hi=>?_,λi j hij hj=>?_⟩
 ·rcases ag3.1 hi with e|e
  ·exact h.node i e
  rw [e];exact h3
 ·rcases ag3.1 hi with e|e
  ·exact h.ids i e
  rw [e];omega
 rcases ag3.1 hj with e|e
 ·exact h.fI i j hij e
 subst e
 cases j with
 |zero=>omega
 |succ m=>
   have h4:(nd ns m).id<(nd ns (m+1)).id:=h1
   rcases ag3.1 hij with e|e
   ·have:=h.fI i m e (ahn m);omega
   rw [e];exact h4
theorem NR {ns:List aO} {k:Nat} (h:∀i,i<k->(nd ns i).id<(nd ns k).id) (hk:k<ns.length):gI ns (nd ns k).id=(k:Int):=by
 unfold gI
 have hg:∀j (hj:j<ns.length),nd ns j=ns[j]:=λj hj=>by
  grind [nd]
 have:ns.findIdx? (λn=>n.id == (nd ns k).id)=some k:=by
  rw [ahE]
  grind
 rw [this]
theorem acW {A:Option Addr} {ns:List aO} {k:Nat} (h:∀i,i<k->(nd ns i).id<(nd ns k).id) (hk:k<ns.length) :
 qd (mf (bf A ns k)) (.int .i64 (nd ns k).id) (some (.pointer (some ⟨bw A,br A+k*10,none⟩)))=mf (bf A ns (k+1)):=by
 have ha:=NR h hk
 rw [Nw]
 congr 1
 funext z
 unfold bf
 by_cases e:z=(nd ns k).id
 ·grind [bY]
 rw [agV e]
 by_cases e1:0<=gI ns z/\gI ns z<(k:Int)
 ·rw [agW e1,agW ⟨e1.1,zc⟩]
 rw [agV e1,agV (λe2=>?_)]
 have e3:gI ns z=(k:Int):=zc
 have e4:=(mU e2.1).2
 grind
theorem Yc {A:Option Addr} {ns:List aO} {k:Nat} (h:∀i,i<k->(nd ns i).id<(nd ns k).id) (hk:k<ns.length):(if ((mf (bf A ns k)) (.int .i64 (nd ns k).id)).isSome then k else k+1)=k+1:=by
 grind [NR,mf,bf,nd]
theorem vZ.below {ns:List aO} {k:Nat} (h:vZ ns k) (h1:qQ ns k<(nd ns k).id):∀i,i<k->(nd ns i).id<(nd ns k).id:=by
 intro i hi
 cases k with
 |zero=>omega
 |succ m=>
   have h1:(nd ns m).id<(nd ns (m+1)).id:=h1
   rcases ag3.1 hi with e|e
   ·have:=h.fI i m e (ahn m);omega
   rw [e];exact h1
theorem abJ {A:Option Addr} {ns:List aO}:mf (bf A ns 0)=λ_=>none:=by
 rw [←Kg]
 congr 1
 funext z
 exact agV (λe=>zc)
theorem abK {ns:List aO}:mf (pf ((jj ns 0).map (lf ns)))=λ_=>none:=by
 rw [←Kg]
 congr 1
theorem zW {ns:List aO} {i:Nat} (hi:i<=ns.length) (h:∀a,a<i->∀j,j<(nd ns a).ah.length->wU ns a j):∀p,p∈jj ns i->p.1<ns.length/\p.2<ns.length:=by
 induction i with
 |zero=>intro p hp;cases hp
 |succ i ih=>
   intro p hp
   grind [jj,NM]
theorem NU (ns:List aO) (i:Nat):(jj ns i).length<=dJ ns i:=by
 induction i with
 |zero=>exact ag5 _
 |succ i ih=>
   grind [jj,dJ,NK,nd]
theorem qy {ns:List aO} {i m:Nat} (h:i<=m):dJ ns i<=dJ ns m:=by
 induction m with
 |zero=>rw [Nat.le_zero.1 h];exact ag5 _
 |succ m ih=>
   grind [dJ]
theorem Ve {ns:List aO} {ps:List (Nat×Nat)} (hp:∀p,p∈ps->p.1<ns.length/\p.2<ns.length) (hid:∀i,i<ns.length->1<=(nd ns i).id/\(nd ns i).id<=1099511627776) :
 ∀z y,up (ps.map (lf ns)) z=some y->(-9223372036854775808<=z/\z<=9223372036854775807)/\(-9223372036854775808<=y/\y<=9223372036854775807):=by
 intro z y h
 unfold up at h
 induction ps with
 |nil=>cases h
 |cons p ps ih=>
   grind [lf,nd]
theorem acX {p:Prop} [Decidable p] {v:Value} {l:List HP} (h:v=.bool (decide p)/\l=[]):(v=.bool true/\p/\l=[])\/(v=.bool false/\¬p/\l=[]):=by
 by_cases hp:p
 all_goals grind
theorem Da.next {ns:List aO} {i:Nat} (h:Da ns i (jj ns i)):((jj ns (i+1)).map Prod.fst).Nodup:=h.nodup
theorem cA.row {ns:List aO} (h:cA ns) {i:Nat} (hi:i<ns.length):Da ns i (jj ns i):=by
 refine⟨h.ah i hi,?_⟩
 obtain⟨l,hl⟩:=Vd (ns:=ns) (show i+1<=ns.length from hi)
 have:=h.nodup
 rw [hl] at this
 exact En this
end
section
open Go.RowKit
attribute [local irreducible] av bN aq aB
theorem abL {β:Bs} (A:Option Addr) (c:Nat) (ns:List aO) (L:eV) (hG:aP β A ns L) (hl:ns.length<=1048576) (hd:∀i,i<ns.length->(nd ns i).data.length<=140737488355328/\(nd ns i).ah.length<=1048576) (hwf:∀i,i<ns.length->∀j,j<(nd ns i).ah.length->-9223372036854775808<=(bS ns i j).id/\(bS ns i j).id<=9223372036854775807) (hnm:∀i,i<ns.length->∀j,j<(nd ns i).ah.length->(bS ns i j).name.size<=1048576) :
 aW Tryz.prog β 90 #[.agg #[.slice A ns.length c]] [] (λv l=>(∃mb,v=.tuple #[.map (some mb),.bool true]/\cA ns/\l=[.abs (bM Tryz.prog 3 mb (mf (bf A ns ns.length)) ns.length)])\/(∃m,v=.tuple #[m,.bool false]/\¬cA ns/\l=[])):=by
 refine SE Tryz.func90 Tryz.ntmps90 (λR=>SR (jB 3 [1] (λb1=>.aD b1 [.slice A (ns.length) (c)] 24) (λb1=>NZ (jK 4 [14] [(1,a_ 1 b1)] (NN (cP ((((ns.length:Nat):Int):Int)>(4096:Int)) (λmw=>zR (v:=(.tuple #[.map none,.bool false])) (.inr ⟨_,rfl,λh=>by have:=h.len;omega,rfl⟩)) (λmw=>KX (SR (av.tj (d:=(some 15)) (t:=177) (λ_=>KB) Tryz.prog rfl 3 (λm2=>jK 1 [4] [] (NS (av.cL 2 (p:=.abs (bM Tryz.prog 3 m2 (λ_=>none) 0)) (p':=.abs (bM Tryz.prog 3 m2 (mf (bf A ns 0)) 0)) KB (by rw [abJ]) (jK 2 [5,6] [] (NZ (jK 4 [18,19] [(1,a_ 1 b1)] (NN (aq.block (lJ (ι:=Nat) (λ(k:Nat)=>(k<=ns.length)/\(vZ ns k)/\(dJ ns k<=k*1048576)) (λ(k:Nat)=>ns.length-k) (λ(k:Nat)=>[(1,vP b1),(4,.map (some m2)),(5,vI (qQ ns k)),(6,vI ↑(dJ ns k)),(18,vI ↑ns.length),(19,vI ↑k)]) (λ(k:Nat)=>[.aD b1 [.slice A (ns.length) (c)] 24,.abs (bM Tryz.prog 3 m2 (mf (bf A ns k)) k),.abs R]) 0 [1,2,0] (⟨ag0 _,vZ.zero ns,ag0 _⟩) ?_))))))))))))))))))
 rintro k ⟨hk,hu,hs⟩
 have hk4:=(hd k)
 refine SR (jK 1 [20] [] (NN (aq.seq (cP ((((k:Nat):Int):Int)<(((ns.length:Nat):Int):Int)) (λo5=>KX (aq.seq (aq.block (SR (jK 2 [7] [] (NS (jK 5 [8] [(1,a_ 0 b1),(3,x_ k ns.length (aP.hd hG (i:=k) zc))] (NZ (jK 7 [32] [(3,r_ (aP.rd hG (i:=k) zc (j:=0) rfl))] (sP 32 (((nd ns k).id:Int)<=(qQ ns k:Int)) (λr8=>jK 11 [43] [] (NT (zR (v:=(.tuple #[.map none,.bool false])) (.inr ⟨_,rfl,λh=>by have:=h.last (show k<ns.length by omega);omega,rfl⟩) [2]))) (λr8=>jK 7 [39] [(3,r_ (aP.rd hG (i:=k) zc (j:=0) rfl))] (sP 39 (((nd ns k).id:Int)>(1099511627776:Int)) (λnh=>jK 4 [43] [] (NT (zR (v:=(.tuple #[.map none,.bool false])) (.inr ⟨_,rfl,λh=>by have:=(h.ids k zc).2;omega,rfl⟩) [2]))) (λnh=>jK 1 [40] [] (gE [] (X8 A ns L hG k zc) (jK 2 [43] [] (NN (cN (r9 (nd ns k)) (λIW=>zR (v:=(.tuple #[.map none,.bool false])) (.inr ⟨_,rfl,λh=>IW (h.node k zc),rfl⟩) [2]) (λIW=>KX (SR (jK 5 [5] [(3,r_ (aP.rd hG (i:=k) zc (j:=0) rfl))] (NS (jK 6 [48,52,53] [(4,r_ (aP.rd hG (i:=k) zc (j:=0) rfl))] (av.qO 1 (d:=none) (t:=177) (K:=3) (E:=192) (b:=m2) (n:=k) (f:=(mf (bf A ns k))) (x:=(.tmp 48)) (ix:=(.tmp 52)) (y:=(.tmp 53)) (key:=vI ((nd ns k).id)) (u:=.pointer (some ⟨(bw A),br A+k*10,none⟩)) (kl:=(.int .i64 (nd ns k).id)) (n':=k+1) (f':=(mf (bf A ns (k+1)))) (λ_=>KB) KB (λ_=>KB) (λ_=>KB) (λ_=>KB) iU Tryz.underlying177 (by unfold maxLen;omega) (vX (by have:=hu.last;omega) zc) (Yc (hu.below zc) zc) (acW (hu.below zc) zc) (NN (aq.region (jK 8 [6] [(4,r_ (aP.rd hG (i:=k) zc (j:=9) rfl)),(6,wJ (((dJ ns k:Nat):Int)+(((nd ns k).ah.length:Nat):Int)) (↑((dJ ns k)+((nd ns k).ah.length))))] (LX (aq.region (jK 2 [19] [(0,wJ ((k:Int)+1) (↑(k+1)))] (NL (tJ ((k+1)) [0,1,2] (⟨zc,hu.step zc zc IW,by grind [dJ]⟩)))))))))))))))))))))))))))))))) (λo5=>XX (SQ (jK 2 [63] [] (NN (cP ((((dJ ns k:Nat):Int):Int)>(8192:Int)) (λh63=>zR (v:=(.tuple #[.map none,.bool false])) (.inr ⟨_,rfl,λh=>by have h1:=h.sum;grind,rfl⟩) [2]) (λh63=>KX (SR (av.tj (d:=(some 64)) (t:=107) (λ_=>KB) Tryz.prog rfl 3 (λm3=>jK 1 [9] [] (NZ (av.cL 3 (p:=.abs (bM Tryz.prog 3 m3 (λ_=>none) 0)) (p':=.abs (bM Tryz.prog 3 m3 (mf (pf ((jj ns 0).map (lf ns)))) ((jj ns 0).length))) KB (by rw [abK];rfl) (av.cL 1 (p:=.abs (bM Tryz.prog 3 m2 (mf (bf A ns k)) k)) (p':=.abs (bM Tryz.prog 3 m2 (mf (bf A ns ns.length)) ns.length)) KB (by rw [show k=ns.length by omega]) (jK 4 [67,68] [(1,a_ 0 b1)] (NN (aq.block ?_)))))))))))))))))))
 have Db:dH ns:=λa b d8 hb=>hu.fI a b d8 zc
 have hsum:dJ ns ns.length<=8192:=by rw [show ns.length=k by omega];omega
 refine lJ (ι:=Nat) (λ(i:Nat)=>(i<=ns.length)/\(∀a,a<i->∀j,j<(nd ns a).ah.length->wU ns a j)/\(((jj ns i).map Prod.fst).Nodup)) (λ(i:Nat)=>ns.length-i) (λ(i:Nat)=>[(1,vP b1),(4,.map (some m2)),(9,.map (some m3)),(67,vI ↑ns.length),(68,vI ↑i)]) (λ(i:Nat)=>[.aD b1 [.slice A (ns.length) (c)] 24,.abs (bM Tryz.prog 3 m2 (mf (bf A ns ns.length)) ns.length),.abs (bM Tryz.prog 3 m3 (mf (pf ((jj ns i).map (lf ns)))) ((jj ns i).length)),.abs R]) 0 [0,1,3,2] (⟨ag0 _,λa ha=>agY ha (ag2 a),List.nodup_nil⟩) ?_
 rintro i ⟨hi,Bg,hnd⟩
 refine SR (jK 1 [69] [] (NN (aq.seq (cP ((((i:Nat):Int):Int)<(((ns.length:Nat):Int):Int)) (λh69=>?_) (λh69=>?_)))))
 ·refine KX (aq.seq (aq.block (SR (jK 2 [10] [] (NS (jK 6 [74,75,76] [(1,a_ 0 b1),(3,x_ i ns.length (aP.hd hG (i:=i) zc))] (gL [1,2] (Yb A ns L hG Db i zc (hd i zc).2 (hwf i zc) (hnm i zc) m2 m3 (jj ns i) (by have:=NU ns i;have:=qy (ns:=ns) (show i<=ns.length by omega);omega) (λp hp=>(zW zc Bg p hp).1) hnd) ?_)))))))
  rintro _ _ (⟨rfl,hro,rfl⟩|⟨rfl,hro,rfl⟩)
  ·exact jK 1 [78] [] (NF (KX (aq.region (jK 2 [68] [(0,wJ ((i:Int)+1) (↑(i+1)))] (NL (tJ ((i+1)) [2,0,1,3] (⟨zc,λa ha=>(by rcases ag3.1 ha with h|h;exact Bg a h;subst h;exact hro.ah),hro.next⟩)))))))
  exact jK 1 [78] [] (NT (zR (v:=(.tuple #[.map none,.bool false])) (.inr ⟨_,rfl,λh=>hro (h.row zc),rfl⟩) [1]))
 refine XX (SR (jK 2 [80,81] [] (av.cL 2 (p:=.abs (bM Tryz.prog 3 m3 (mf (pf ((jj ns i).map (lf ns)))) ((jj ns i).length))) (p':=.abs (bM Tryz.prog 3 m3 (mf (pf ((jj ns i).map (lf ns)))) (((jj ns i).map (lf ns)).length))) KB (by rw [ahf]) (gL [2] ((Vb m3 ((jj ns i).map (lf ns)) (by grind [NU,qy]) (Ve (zW zc Bg) (λa ha=>hu.ids a zc))).mono (λv l h=>acX h)) ?_))))
 rintro _ _ (⟨rfl,hae,rfl⟩|⟨rfl,hae,rfl⟩)
 ·exact jK 2 [2,3] [] (eN (v:=(.tuple #[.map (some m2),.bool true])) (.inl ⟨m2,rfl,⟨zc,λa ha=>hu.node a zc,λa ha=>hu.ids a zc,Db,zc,λa ha=>Bg a zc,Pe,Pe⟩,rfl⟩) [1,2])
 exact jK 2 [2,3] [] (eN (v:=(.tuple #[.map (some m2),.bool false])) (.inr ⟨_,rfl,λh=>hae (by have:=h.ends;grind),rfl⟩) [2])
theorem Ye {β:Bs} (A:Option Addr) (c:Nat) (ns:List aO) (L:eV) (hG:aP β A ns L) (hl:ns.length<=1048576) (hd:∀i,i<ns.length->(nd ns i).data.length<=140737488355328/\(nd ns i).ah.length<=1048576) (hwf:∀i,i<ns.length->∀j,j<(nd ns i).ah.length->-9223372036854775808<=(bS ns i j).id/\(bS ns i j).id<=9223372036854775807) (hnm:∀i,i<ns.length->∀j,j<(nd ns i).ah.length->(bS ns i j).name.size<=1048576) :
 aW Tryz.prog β 63 #[.agg #[.slice A ns.length c]] [] (λv l=>v=vI (if cA ns then 0 else 140)/\l=[]):=by
 refine SE Tryz.func63 Tryz.ntmps63 (λR=>SR (jB 2 [1] (λb4=>.aD b4 [.slice A (ns.length) (c)] 24) (λb4=>NZ (jK 1 [6] [(0,a_ 1 b4)] (gL [] (abL A c ns L hG hl hd hwf hnm) ?_)))))
 rintro _ _ (⟨mb,rfl,hok,rfl⟩|⟨m,rfl,hok,rfl⟩)
 ·exact jK 5 [4] [] (NS (jK 2 [11] [] (NF (KX (zR ⟨agX (Value.int .i64) (agW hok).symm,rfl⟩ [1])))))
 exact jK 5 [4] [] (NS (jK 2 [11] [] (NT (zR ⟨agX (Value.int .i64) (agV hok).symm,rfl⟩))))
end
section
open Go.RowKit Go.Maps
def Dc (ed:List (Nat×Nat)) (k:Nat):Int:=match ed.lookup k with|some a=>(a:Int)|none=>-1
structure NV (n:Nat) (pl:List Int) (ed:List (Nat×Nat)):Prop where
 len:pl.length=n
 at_:∀k,k<n->pl.getD k 0=Dc ed k
theorem Bh {w:List Int} {j:Nat} (hj:j<w.length):(jY w)[j]?=some (.int .i64 (w.getD j 0)):=by
 grind [jY,getD_some]
theorem Eo (pl:List Int) (k:Nat) (x:Int):(jY pl).set k (.int .i64 x)=jY (pl.set k x):=by
 unfold jY
 rw [List.map_set]
theorem NW {pl:List Int} {k j:Nat} {x:Int} (hk:k<pl.length):(pl.set k x).getD j 0=if j=k then x else pl.getD j 0:=by
 grind
theorem NV.put {n:Nat} {pl:List Int} {ed:List (Nat×Nat)} (h:NV n pl ed) {k a:Nat} (hk:k<n):NV n (pl.set k (a:Int)) ((k,a)::ed):=by
 refine⟨by rw [ag8];exact h.len,λj hj=>?_⟩
 rw [NW (by rw [h.len];exact hk)]
 unfold Dc
 rw [List.lookup_cons]
 by_cases e:j=k
 ·subst e;simp
 have:(j == k)=false:=by simp [e]
 rw [agV e,this,h.at_ j hj]
 rfl
theorem Bj {ed:List (Nat×Nat)} {k:Nat}:Dc ed k<0↔k∉ed.map Prod.fst:=by
 grind [Dc]
theorem abM {ns:List aO} {ed:List (Nat×Nat)} {k:Nat} (hr:dH ns) (hk:k<ns.length) (hp:∀p,p∈ed->p.1<ns.length) :
 (Dc ed k<0/\up (ed.map (lf ns)) (nd ns k).id=none)\/∃a:Nat,Dc ed k=(a:Int)/\(k,a)∈ed/\up (ed.map (lf ns)) (nd ns k).id=some (nd ns a).id:=by
 unfold Dc up
 induction ed with
 |nil=>exact .inl ⟨agU,rfl⟩
 |cons p ed ih=>
   obtain⟨a,b⟩:=p
   rw [ahs,lf,List.lookup_cons,List.lookup_cons]
   by_cases e:k=a
   ·grind
   have h1:(k == a)=false:=by simp [e]
   have h2:((nd ns k).id == (nd ns a).id)=false:=by
    simp
    exact λh=>e (hr.inj hk (hp (a,b) (ag7 ..)) h)
   grind
theorem Way.back {ps:List (Int×Int)} {z0:Int} {w:List Int} (h:Way ps z0 w z0) (hl:0<w.length):¬Ends ps z0:=λ⟨k,hk⟩=>by
 obtain⟨j,hj,h2⟩:=h.long hk
 have:=ol.uniq hk h2
 omega
theorem NY:∀(n:Nat) (l:List Nat),l.Nodup->(∀x,x∈l->x<n)->l.length<=n
 |0,[],_,_=>ag5 _
 |0,a::l,_,h=>agY (h a (ag7 ..)) (ag2 a)
 |n+1,l,hn,h=>by
   have h1:=NY n (l.erase n) (hn.erase n) (λx hx=>by
    have h2:=(List.Nodup.mem_erase_iff hn).1 hx
    have:=h x h2.2
    omega)
   by_cases hm:n∈l
   ·have:=List.length_erase_of_mem hm
    omega
   rw [List.erase_of_not_mem hm] at h1
   omega
theorem Vf {ns:List aO} {ed:List (Nat×Nat)} (hp:∀p,p∈ed->p.1<ns.length) (h:∀i,i<ns.length->Ends (ed.map (lf ns)) (nd ns i).id):Cy (ed.map (lf ns)):=by
 intro z
 cases hu:up (ed.map (lf ns)) z with
 |none=>exact⟨0,hu⟩
 |some y=>
   have:∃p,p∈ed/\z=(nd ns p.1).id:=by
    unfold up at hu
    clear h
    induction ed with
    |nil=>cases hu
    |cons p ed ih=>
      grind [lf,nd]
   obtain⟨p,h1,rfl⟩:=this
   exact h p.1 (hp p h1)
theorem N0 {ns:List aO} {ed:List (Nat×Nat)} {pl:List Int} {z:Int} {b m:Nat} {w:List Int} (hr:dH ns) (hp:∀p,p∈ed->p.1<ns.length/\p.2<ns.length) (hpar:NV ns.length pl ed) (hb:b<ns.length) (hw:Way (ed.map (lf ns)) z w (nd ns b).id) (hm:w.length=m) :
 (pl.getD b 0<0/\Ends (ed.map (lf ns)) z)\/∃q:Nat,pl.getD b 0=(q:Int)/\q<ns.length/\Way (ed.map (lf ns)) z (w++[(nd ns b).id]) (nd ns q).id/\(w++[(nd ns b).id]).length=m+1:=by
 rw [hpar.at_ b hb]
 rcases abM hr hb (λp h=>(hp p h).1) with ⟨h1,h2⟩|⟨a,h1,h2,h3⟩
 ·exact .inl ⟨h1,(hw.ends ⟨0,h2⟩).1⟩
 exact .inr ⟨a,h1,(hp _ h2).2,hw.snoc h3,by simp;omega⟩
theorem Dd {ns:List aO} {i j:Nat} (h1:0<=gI ns (bS ns i j).id) (h2:cq (bS ns i j).name) (h3:0<j->¬jy (bS ns i j).name (bS ns i (j-1)).name):wU ns i j:=by
 refine⟨h1,h2,?_⟩
 cases j with
 |zero=>
   intro h
   have:=Qs.1 h
   have h4:=h2.1
   rw [this] at h4
   exact agY h4 (by decide)
 |succ j=>exact h3 (Nat.succ_pos j)
theorem Ta {ns:List aO} {k:Nat} (h:0<k):qQ ns k=(nd ns (k-1)).id:=by
 cases k with
 |zero=>omega
 |succ k=>rfl
theorem N5 {ns:List aO} {i j:Nat} (h:0<j):zV ns i j=(bS ns i (j-1)).name:=by
 cases j with
 |zero=>omega
 |succ j=>rfl
theorem cA.few {ns:List aO} (h:cA ns):((jj ns ns.length).map (lf ns)).length<=ns.length:=by
 rw [ahf]
 have h1:=zW (ns:=ns) (ag5 _) h.ah
 have h2:=NY ns.length ((jj ns ns.length).map Prod.fst) h.nodup (λx hx=>by
  obtain⟨p,hp,rfl⟩:=ahe.1 hx
  exact (h1 p hp).1)
 rwa [ahf] at h2
end
section
open Go.RowKit
attribute [local irreducible] av bN aq aB
theorem Qu {β:Bs} (A:Option Addr) (c:Nat) (ns:List aO) (L:eV) (hG:aP β A ns L) (hl:ns.length<=1048576) (hd:∀i,i<ns.length->(nd ns i).data.length<=1048576/\(nd ns i).ah.length<=1048576) (_:∀i,i<ns.length->∀j,j<(nd ns i).ah.length->-9223372036854775808<=(bS ns i j).id/\(bS ns i j).id<=9223372036854775807) (hnm:∀i,i<ns.length->∀j,j<(nd ns i).ah.length->(bS ns i j).name.size<=1048576) (ht:∀i,i<ns.length->(nd ns i).target.size<=1048576) :
 aW Tryz.prog β 52 #[.agg #[.slice A ns.length c]] [] (λv l=>v=vI (if cA ns then 0 else 140)/\l=[]):=by
 refine SE Tryz.func52 Tryz.ntmps52 (λR=>SR (jB 2 [1] (λb1=>.aD b1 [.slice A (ns.length) (c)] 24) (λb1=>NZ (jK 4 [18] [(1,a_ 1 b1)] (NN (cP ((((ns.length:Nat):Int):Int)>(4096:Int)) (λpU=>zR ⟨agX (Value.int .i64) (agV (c:=cA ns) (λh=>by have:=h.len;omega)).symm,rfl⟩) (λpU=>KX (SR (jK 1 [3] [] (NZ (jK 1 [4] [] (NN (aq.block (lJ (λ(k:Nat)=>(k<=ns.length)/\(vZ ns k)/\(dJ ns k<=k*1048576)) (λ(k:Nat)=>ns.length-k) (λ(k:Nat)=>[(1,vP b1),(3,vI ↑(dJ ns k)),(4,vI ↑k)]) (λ(k:Nat)=>[.aD b1 [.slice A (ns.length) (c)] 24,.abs R]) 0 [1,0] (⟨ag0 _,vZ.zero ns,ag0 _⟩) ?_))))))))))))))
 rintro k ⟨hk,hu,hs⟩
 have hk4:=(hd k)
 refine SQ (jK 5 [23] [(2,a_ 0 b1)] (NN (cP ((((k:Nat):Int):Int)<(((ns.length:Nat):Int):Int)) (λh23=>KX (aq.seq (aq.block (SR (jN 7 [5] (λb2=>[(1,a_ 0 b1),(3,x_ k ns.length (aP.hd hG (i:=k) zc)),(4,DR (iq L k (nd ns k)) (λ_ _ h=>aP.rd hG zc h)),(6,A_ 2 b2 10)]) (λ_=>[]) (λb2=>.aD b2 (iq L k (nd ns k)) 95) (λb2=>NN (aq.seq (aq.seq (rQ (jQ 4 [34] [(1,a_ 2 b2)] (bN.wQ 34 (((nd ns k).id:Int)<(1:Int)) (λ_=>KB) (λxI=>jQ 25 [59] [] (NQ (NX (CT (zR ⟨agX (Value.int .i64) (agV (c:=cA ns) (λh=>by have:=(h.ids k zc).1;omega)).symm,rfl⟩ [1]))))) (λxI=>jQ 5 [39] [(1,a_ 2 b2)] (bN.wQ 39 (((nd ns k).id:Int)>(1099511627776:Int)) (λ_=>KB) (λnh=>jQ 20 [59] [] (NQ (NX (CT (zR ⟨agX (Value.int .i64) (agV (c:=cA ns) (λh=>by have:=(h.ids k zc).2;omega)).symm,rfl⟩ [1]))))) (λnh=>jQ 3 [42] [] (bN.wQ 42 ((((k:Nat):Int):Int)>(0:Int)) (λ_=>KB) (λkQ=>jQ 13 [55] [(1,a_ 2 b2),(3,a_ 0 b1),(5,wJ ((k:Int)-1) (↑(k-1))),(6,x_ (k-1) ns.length (aP.hd hG (i:=(k-1)) zc)),(8,r_ (aP.rd hG (i:=(k-1)) zc (j:=0) rfl))] (bN.wQ 55 (((nd ns k).id:Int)<=((nd ns (k-1)).id:Int)) (λ_=>KB) (λh55=>jQ 4 [59] [] (NQ (NX (CT (zR ⟨agX (Value.int .i64) (agV (c:=cA ns) (λh=>by have:=h.fI (k-1) k zc zc;omega)).symm,rfl⟩ [1]))))) (λh55=>jQ 1 [56] [(0,A_ 2 b2 10)] (mD [] [0,1,2] (.bool (decide (r9 (nd ns k)))) (NC (nd ns k) (L.dA k) (L.eA k) (L.dC k) (L.eC k) (ht k zc)) (jQ 2 [59] [] (NQ (NX (cN (r9 (nd ns k)) (λvN=>zR ⟨agX (Value.int .i64) (agV (c:=cA ns) (λh=>by exact vN (h.node k zc))).symm,rfl⟩ [1]) (λvN=>KX (aq.region (jK 6 [3] [(2,a_ 2 b2),(4,wJ (((dJ ns k:Nat):Int)+(((nd ns k).ah.length:Nat):Int)) (↑((dJ ns k)+((nd ns k).ah.length))))] (LX (aq.region (jK 3 [4] [(1,wJ ((k:Int)+1) (↑(k+1)))] (NL (tJ ((k+1)) [0,1] (⟨zc,hu.step (by rw [Ta zc];omega) zc vN,by show dJ ns k+_<=_;omega⟩))))))))))))))))) (λkQ=>jQ 14 [55,56] [(13,A_ 2 b2 10)] (mD [] [0,1,2] (.bool (decide (r9 (nd ns k)))) (NC (nd ns k) (L.dA k) (L.eA k) (L.dC k) (L.eC k) (ht k zc)) (jQ 2 [59] [] (NQ (NX (cN (r9 (nd ns k)) (λvN=>zR ⟨agX (Value.int .i64) (agV (c:=cA ns) (λh=>by exact vN (h.node k zc))).symm,rfl⟩ [1]) (λvN=>KX (aq.region (jK 6 [3] [(2,a_ 2 b2),(4,wJ (((dJ ns k:Nat):Int)+(((nd ns k).ah.length:Nat):Int)) (↑((dJ ns k)+((nd ns k).ah.length))))] (LX (aq.region (jK 3 [4] [(1,wJ ((k:Int)+1) (↑(k+1)))] (NL (tJ ((k+1)) [0,1] (⟨zc,hu.step (by rw [show k=0 by omega];rw [show k=0 by omega] at xI;show (0:Int)<_;omega) zc vN,by show dJ ns k+_<=_;omega⟩)))))))))))))))))))))))))))))) (λh23=>XX (SQ (jK 2 [66] [] (NN (cP ((((dJ ns k:Nat):Int):Int)>(8192:Int)) (λl6=>zR ⟨agX (Value.int .i64) (agV (c:=cA ns) (λh=>by have h1:=h.sum;grind)).symm,rfl⟩ [1]) (λl6=>KX (SR (jK 3 [69] [(1,a_ 0 b1)] (av.XS (d:=(some 70)) (t:=41) (e:=3) (z:=.int .i64 0) (bytes:=8) (n:=ns.length) (l:=(.tmp 69)) (c:=(.tmp 69)) (λ_=>KB) (λ_=>KB) (λ_=>KB) Tryz.underlying41 KB rfl zc zc (λb3=>jK 1 [6] [] (NZ (av.cL 2 (p':=.abs (aH 3 1 (some ⟨b3,0,none⟩) ns.length ns.length (jY (List.replicate ns.length 0)))) rfl (by rw [jY,List.map_replicate]) (jK 1 [7] [] (NN (aq.block (lJ (λ(t,pl)=>(t<=ns.length)/\(pl.length=ns.length)/\(∀a,a<t->pl.getD a 0 = -1)) (λ(t,pl)=>ns.length-t) (λ(t,pl)=>[(1,vP b1),(6,.slice (some ⟨b3,0,none⟩) (ns.length) (ns.length)),(7,vI ↑t)]) (λ(t,pl)=>[.aD b1 [.slice A (ns.length) (c)] 24,.abs (aH 3 1 (some ⟨b3,0,none⟩) ns.length ns.length (jY pl)),.abs R]) (0,(List.replicate ns.length 0)) [0,2,1] (⟨ag0 _,agU,λa ha=>agY ha (ag2 a)⟩) ?_)))))))))))))))))))
 rintro⟨t,pl⟩ ⟨ht2,hpl,hpa⟩
 refine SQ (jK 4 [74] [] (NN (cP ((((t:Nat):Int):Int)<(((ns.length:Nat):Int):Int)) (λGi=>KX (aq.seq (aq.block (aq.region (jK 3 [79] [(2,p_ ⟨[],some t,none,none,some (.pointer (some ⟨b3,t,none⟩))⟩ [(Value.pointer (some ⟨b3,0+t*1,none⟩))=(.pointer (some ⟨b3,t,none⟩)),((t:Nat):Int)=((t:Nat):Int),t<ns.length,(⟨b3,0,none⟩:Addr).spot=none] ⟨agU,rfl,zc,rfl,trivial⟩)] (av.D9 1 (t) (d:=none) (T:=3) (e:=3) (size:=1) (n:=ns.length) (cap:=ns.length) (g:=b3) (xs:=(jY pl)) (u:=.int .i64 (-1)) (a:=(.tmp 79)) (y:=(.const (.int .i64 (-1)))) (λ_=>KB) KB (λ_=>KB) (λ_=>KB) KB rfl (by rw [jY,ahf];omega) (av.cL 1 rfl (by rw [Eo]) (LX (aq.region (jK 3 [7] [(1,wJ ((t:Int)+1) (↑(t+1)))] (NL (tJ ((t+1),(pl.set t (-1))) [0,1,2] (⟨zc,by rw [ag8];exact hpl,λa ha=>(by grind [NW])⟩))))))))))))) (λGi=>XX (SQ (jK 1 [8] [] (NN (aq.block ?_))))))))
 have Db:dH ns:=λa b d8 hb=>hu.fI a b d8 zc
 have hsum:dJ ns ns.length<=8192:=by rw [show ns.length=k by omega];omega
 refine lJ (λ(i,vO)=>(i<=ns.length)/\(∀a,a<i->∀j,j<(nd ns a).ah.length->wU ns a j)/\(((jj ns i).map Prod.fst).Nodup)/\(NV ns.length vO (jj ns i))) (λ(i,vO)=>ns.length-i) (λ(i,vO)=>[(1,vP b1),(6,.slice (some ⟨b3,0,none⟩) (ns.length) (ns.length)),(8,vI ↑i)]) (λ(i,vO)=>[.aD b1 [.slice A (ns.length) (c)] 24,.abs (aH 3 1 (some ⟨b3,0,none⟩) ns.length ns.length (jY vO)),.abs R]) (0,pl) [0,1,2] (⟨ag0 _,λa ha=>agY ha (ag2 a),List.nodup_nil,⟨hpl,λa ha=>hpa a zc⟩⟩) ?_
 rintro⟨i,vO⟩ ⟨hi,Bg,hnd,hpar⟩
 refine SQ (jK 5 [84] [(2,a_ 0 b1)] (NN (cP ((((i:Nat):Int):Int)<(((ns.length:Nat):Int):Int)) (λh84=>?_) (λh84=>?_))))
 ·refine KX (aq.seq (aq.block (SR (jK 1 [9] [] (NN (aq.block (lJ (λ(j,tS)=>(j<=(nd ns i).ah.length)/\(∀t,t<j->wU ns i t)/\(((ig ns i j++jj ns i).map Prod.fst).Nodup)/\(NV ns.length tS (ig ns i j++jj ns i))) (λ(j,tS)=>(nd ns i).ah.length-j) (λ(j,tS)=>[(1,vP b1),(6,.slice (some ⟨b3,0,none⟩) (ns.length) (ns.length)),(8,vI ↑i),(9,vI ↑j)]) (λ(j,tS)=>[.aD b1 [.slice A (ns.length) (c)] 24,.abs (aH 3 1 (some ⟨b3,0,none⟩) ns.length ns.length (jY tS)),.abs R]) (0,vO) [0,1,2] (⟨ag0 _,λt ht=>agY ht (ag2 t),hnd,hpar⟩) ?_)))))))
  rintro⟨j,tS⟩ ⟨hj,hok,N6,wV⟩
  have hd3:=(hd i zc).2
  have Vg:=wV.len
  refine SQ (jK 9 [95] [(2,a_ 0 b1),(4,x_ i ns.length (aP.hd hG (i:=i) zc)),(6,r_ (aP.rd hG (i:=i) zc (j:=9) rfl))] (NN (cP ((((j:Nat):Int):Int)<((((nd ns i).ah.length:Nat):Int):Int)) (λh95=>KX (aq.seq (aq.block (SR (jN 11 [10] (λb4=>[(1,a_ 0 b1),(3,x_ i ns.length (aP.hd hG (i:=i) zc)),(5,r_ (aP.rd hG (i:=i) zc (j:=9) rfl)),(7,x_ j ((nd ns i).ah.length) (cU.hd (hG.ah i zc) (i:=j) zc)),(8,r2 (cU.rd (hG.ah i zc) (i:=j) zc (j:=0) rfl) (cU.rd (hG.ah i zc) (i:=j) zc (j:=1) rfl)),(10,A_ 3 b4 2)]) (λ_=>[]) (λb4=>.aD b4 [.string (en (nd ns i).ah j).name,vI ((en (nd ns i).ah j).id)] 149) (λb4=>NS (jK 3 [107,109] [(0,a_ 0 b1),(2,a_ 3 b4)] (gE [] (yY A c ns L hG Db hl (en (nd ns i).ah j).id) (jK 1 [11] [] (NN (aq.seq (aq.seq (rQ (jQ 3 [113] [] (bN.wQ 113 ((gI ns (en (nd ns i).ah j).id:Int)<(0:Int)) (λ_=>KB) (λKi=>jQ 25 [138] [] (NQ (NX (CT (zR ⟨agX (Value.int .i64) (agV (c:=cA ns) (λh=>by have h1:=(h.ah i zc j zc).at_;change 0<=gI ns (en (nd ns i).ah j).id at h1;omega)).symm,rfl⟩ [2]))))) (λKi=>?_)))))))))))))))) (λh95=>XX (aq.region (jK 3 [8] [(1,wJ ((i:Int)+1) (↑(i+1)))] (NL (tJ ((i+1),tS) [0,1,2] (⟨zc,λa ha=>Pe,(by have:=N6;rwa [show j=(nd ns i).ah.length by omega] at this),(by have:=wV;rwa [show j=(nd ns i).ah.length by omega] at this)⟩)))))))))
  have htl:=mU (Int.not_lt.1 Ki)
  refine jQ 2 [115] [(1,a_ 3 b4)] (mD [] [0,1,2,3] (.bool (decide (cq (en (nd ns i).ah j).name))) (C9 (en (nd ns i).ah j).name (hnm i zc j zc)) (jQ 3 [119] [] (bN.SN 119 (cq (en (nd ns i).ah j).name) (λ_=>KB) (λKj=>jQ 19 [138] [] (NQ (NX (CT (zR ⟨agX (Value.int .i64) (agV (c:=cA ns) (λh=>by exact Kj (h.ah i zc j zc).good)).symm,rfl⟩ [2]))))) (λKj=>?_))))
  refine jQ 3 [122] [] (bN.wQ 122 ((((j:Nat):Int):Int)>(0:Int)) (λ_=>KB) (λTb=>jQ 16 [138] [(1,a_ 3 b4),(3,a_ 0 b1),(5,x_ i ns.length (aP.hd hG (i:=i) zc)),(7,r_ (aP.rd hG (i:=i) zc (j:=9) rfl)),(9,wJ ((j:Int)-1) (↑(j-1))),(10,x_ (j-1) ((nd ns i).ah.length) (cU.hd (hG.ah i zc) (i:=(j-1)) zc)),(12,r_ (cU.rd (hG.ah i zc) (i:=(j-1)) zc (j:=0) rfl)),(13,w_ (.bool (decide (jy ((en (nd ns i).ah j).name) ((en (nd ns i).ah (j-1)).name)))) (NJ _ _))] (NQ (NX (cP (jy ((en (nd ns i).ah j).name) ((en (nd ns i).ah (j-1)).name)) (λTc=>zR ⟨agX (Value.int .i64) (agV (c:=cA ns) (λh=>by have h1:=(h.ah i zc j zc).ord;rw [N5 zc] at h1;exact h1 Tc)).symm,rfl⟩ [2]) (λTc=>KX (SR (jK 7 [145] [(1,a_ 0 b1),(3,p_ ⟨[],some (bY ns (en (nd ns i).ah j).id),none,some ⟨(bw A),br A,none⟩,none⟩ [gI ns (en (nd ns i).ah j).id=(((bY ns (en (nd ns i).ah j).id):Nat):Int),(bY ns (en (nd ns i).ah j).id)<ns.length,(⟨(bw A),br A,none⟩:Addr).spot=none,(A:Option Addr)=some ⟨(bw A),br A,none⟩] ⟨htl.2.2,zc,rfl,aP.hd hG (i:=(bY ns (en (nd ns i).ah j).id)) zc,trivial⟩),(5,r_ (aP.rd hG (i:=(bY ns (en (nd ns i).ah j).id)) zc (j:=1) rfl))] (NN (cP (((nd ns (bY ns (en (nd ns i).ah j).id)).kind:Int)=(2:Int)) (λo7=>SQ (jK 5 [150] [(2,p_ ⟨[],some (bY ns (en (nd ns i).ah j).id),none,none,some (.pointer (some ⟨b3,(bY ns (en (nd ns i).ah j).id),none⟩))⟩ [(Value.pointer (some ⟨b3,0+(bY ns (en (nd ns i).ah j).id)*1,none⟩))=(.pointer (some ⟨b3,(bY ns (en (nd ns i).ah j).id),none⟩)),gI ns (en (nd ns i).ah j).id=(((bY ns (en (nd ns i).ah j).id):Nat):Int),(bY ns (en (nd ns i).ah j).id)<ns.length,(⟨b3,0,none⟩:Addr).spot=none] ⟨agU,htl.2.2,zc,rfl,trivial⟩),(3,p_ ⟨[.view 1 (.int .i64 ((tS.getD (bY ns (en (nd ns i).ah j).id) 0)))],none,none,none,none⟩ [(∀F w,(aH 3 1 (some ⟨b3,0,none⟩) ns.length ns.length (jY tS)).h F w->w.cell? ⟨b3,(bY ns (en (nd ns i).ah j).id),none⟩=some (vI ((tS.getD (bY ns (en (nd ns i).ah j).id) 0))))] ⟨aH.cell (Bh zc),trivial⟩)] (NN (cP (((tS.getD (bY ns (en (nd ns i).ah j).id) 0):Int)>=(0:Int)) (λYf=>zR ⟨agX (Value.int .i64) (agV (c:=cA ns) (λh=>by have h1:Dc (ig ns i j++jj ns i) (bY ns (en (nd ns i).ah j).id)<0:=Bj.2 (Ck (h.row zc) zc o7);rw [←wV.at_ (bY ns (en (nd ns i).ah j).id) zc] at h1;omega)).symm,rfl⟩ [2]) (λYf=>KX (aq.region (jK 4 [153,154] [(3,p_ ⟨[],some (bY ns (en (nd ns i).ah j).id),none,none,some (.pointer (some ⟨b3,(bY ns (en (nd ns i).ah j).id),none⟩))⟩ [(Value.pointer (some ⟨b3,0+(bY ns (en (nd ns i).ah j).id)*1,none⟩))=(.pointer (some ⟨b3,(bY ns (en (nd ns i).ah j).id),none⟩)),gI ns (en (nd ns i).ah j).id=(((bY ns (en (nd ns i).ah j).id):Nat):Int),(bY ns (en (nd ns i).ah j).id)<ns.length,(⟨b3,0,none⟩:Addr).spot=none] ⟨agU,htl.2.2,zc,rfl,trivial⟩)] (av.D9 1 ((bY ns (en (nd ns i).ah j).id)) (d:=none) (T:=3) (e:=3) (size:=1) (n:=ns.length) (cap:=ns.length) (g:=b3) (xs:=(jY tS)) (u:=.int .i64 ↑i) (a:=(.tmp 154)) (y:=(.tmp 153)) (λ_=>KB) KB (λ_=>KB) (λ_=>KB) KB rfl (by rw [jY,ahf];omega) (av.cL 1 rfl (by rw [Eo]) (LX (aq.region (jK 3 [9] [(1,wJ ((j:Int)+1) (↑(j+1)))] (NL (tJ ((j+1),(tS.set (bY ns (en (nd ns i).ah j).id) ((i:Nat):Int))) [0,1,2] (⟨zc,λt ht=>(by rcases ag3.1 ht with h|h;exact hok t h;subst h;exact Dd (Int.not_lt.1 Ki) Kj (λ_=>Tc)),(by rw [qx o7,ahB,ahs];exact ahV.2 ⟨show bY ns (en (nd ns i).ah j).id∉_ from Bj.1 (by rw [←wV.at_ (bY ns (en (nd ns i).ah j).id) zc];omega),N6⟩),(by rw [qx o7];exact wV.put zc)⟩))))))))))))))) (λo7=>KX (aq.region (jK 3 [9] [(1,wJ ((j:Int)+1) (↑(j+1)))] (NL (tJ ((j+1),tS) [0,1,2] (⟨zc,λt ht=>(by rcases ag3.1 ht with h|h;exact hok t h;subst h;exact Dd (Int.not_lt.1 Ki) Kj (λ_=>Tc)),(by rw [rC o7];exact N6),(by rw [rC o7];exact wV)⟩))))))))))))))) (λTb=>?_))
  exact jQ 16 [138] [] (NQ (NX (CF (KX (SR (jK 7 [145] [(1,a_ 0 b1),(3,p_ ⟨[],some (bY ns (en (nd ns i).ah j).id),none,some ⟨(bw A),br A,none⟩,none⟩ [gI ns (en (nd ns i).ah j).id=(((bY ns (en (nd ns i).ah j).id):Nat):Int),(bY ns (en (nd ns i).ah j).id)<ns.length,(⟨(bw A),br A,none⟩:Addr).spot=none,(A:Option Addr)=some ⟨(bw A),br A,none⟩] ⟨htl.2.2,zc,rfl,aP.hd hG (i:=(bY ns (en (nd ns i).ah j).id)) zc,trivial⟩),(5,r_ (aP.rd hG (i:=(bY ns (en (nd ns i).ah j).id)) zc (j:=1) rfl))] (NN (cP (((nd ns (bY ns (en (nd ns i).ah j).id)).kind:Int)=(2:Int)) (λo7=>SQ (jK 5 [150] [(2,p_ ⟨[],some (bY ns (en (nd ns i).ah j).id),none,none,some (.pointer (some ⟨b3,(bY ns (en (nd ns i).ah j).id),none⟩))⟩ [(Value.pointer (some ⟨b3,0+(bY ns (en (nd ns i).ah j).id)*1,none⟩))=(.pointer (some ⟨b3,(bY ns (en (nd ns i).ah j).id),none⟩)),gI ns (en (nd ns i).ah j).id=(((bY ns (en (nd ns i).ah j).id):Nat):Int),(bY ns (en (nd ns i).ah j).id)<ns.length,(⟨b3,0,none⟩:Addr).spot=none] ⟨agU,htl.2.2,zc,rfl,trivial⟩),(3,p_ ⟨[.view 1 (.int .i64 ((tS.getD (bY ns (en (nd ns i).ah j).id) 0)))],none,none,none,none⟩ [(∀F w,(aH 3 1 (some ⟨b3,0,none⟩) ns.length ns.length (jY tS)).h F w->w.cell? ⟨b3,(bY ns (en (nd ns i).ah j).id),none⟩=some (vI ((tS.getD (bY ns (en (nd ns i).ah j).id) 0))))] ⟨aH.cell (Bh zc),trivial⟩)] (NN (cP (((tS.getD (bY ns (en (nd ns i).ah j).id) 0):Int)>=(0:Int)) (λYf=>zR ⟨agX (Value.int .i64) (agV (c:=cA ns) (λh=>by have h1:Dc (ig ns i j++jj ns i) (bY ns (en (nd ns i).ah j).id)<0:=Bj.2 (Ck (h.row zc) zc o7);rw [←wV.at_ (bY ns (en (nd ns i).ah j).id) zc] at h1;omega)).symm,rfl⟩ [2]) (λYf=>KX (aq.region (jK 4 [153,154] [(3,p_ ⟨[],some (bY ns (en (nd ns i).ah j).id),none,none,some (.pointer (some ⟨b3,(bY ns (en (nd ns i).ah j).id),none⟩))⟩ [(Value.pointer (some ⟨b3,0+(bY ns (en (nd ns i).ah j).id)*1,none⟩))=(.pointer (some ⟨b3,(bY ns (en (nd ns i).ah j).id),none⟩)),gI ns (en (nd ns i).ah j).id=(((bY ns (en (nd ns i).ah j).id):Nat):Int),(bY ns (en (nd ns i).ah j).id)<ns.length,(⟨b3,0,none⟩:Addr).spot=none] ⟨agU,htl.2.2,zc,rfl,trivial⟩)] (av.D9 1 ((bY ns (en (nd ns i).ah j).id)) (d:=none) (T:=3) (e:=3) (size:=1) (n:=ns.length) (cap:=ns.length) (g:=b3) (xs:=(jY tS)) (u:=.int .i64 ↑i) (a:=(.tmp 154)) (y:=(.tmp 153)) (λ_=>KB) KB (λ_=>KB) (λ_=>KB) KB rfl (by rw [jY,ahf];omega) (av.cL 1 rfl (by rw [Eo]) (LX (aq.region (jK 3 [9] [(1,wJ ((j:Int)+1) (↑(j+1)))] (NL (tJ ((j+1),(tS.set (bY ns (en (nd ns i).ah j).id) ((i:Nat):Int))) [0,1,2] (⟨zc,λt ht=>(by rcases ag3.1 ht with h|h;exact hok t h;subst h;exact Dd (Int.not_lt.1 Ki) Kj (λh=>agY h (by omega))),(by rw [qx o7,ahB,ahs];exact ahV.2 ⟨show bY ns (en (nd ns i).ah j).id∉_ from Bj.1 (by rw [←wV.at_ (bY ns (en (nd ns i).ah j).id) zc];omega),N6⟩),(by rw [qx o7];exact wV.put zc)⟩))))))))))))))) (λo7=>KX (aq.region (jK 3 [9] [(1,wJ ((j:Int)+1) (↑(j+1)))] (NL (tJ ((j+1),tS) [0,1,2] (⟨zc,λt ht=>(by rcases ag3.1 ht with h|h;exact hok t h;subst h;exact Dd (Int.not_lt.1 Ki) Kj (λh=>agY h (by omega))),(by rw [rC o7];exact N6),(by rw [rC o7];exact wV)⟩))))))))))))))
 refine XX (SQ (jK 1 [12] [] (NN (aq.block ?_))))
 have aaI:NV ns.length vO (jj ns ns.length):=Pe
 have hed:=zW (ns:=ns) (ag5 _) (λa ha=>Bg a zc)
 refine lJ (λ(a:Nat)=>(a<=ns.length)/\(∀b,b<a->Ends ((jj ns ns.length).map (lf ns)) (nd ns b).id)) (λ(a:Nat)=>ns.length-a) (λ(a:Nat)=>[(6,.slice (some ⟨b3,0,none⟩) (ns.length) (ns.length)),(12,vI ↑a)]) (λ(a:Nat)=>[.abs (aH 3 1 (some ⟨b3,0,none⟩) ns.length ns.length (jY vO)),.abs R]) 0 [1,2] (⟨ag0 _,λb hb=>agY hb (ag2 b)⟩) ?_
 rintro a ⟨ha,hend⟩
 have Vg:=hpar.len
 refine SQ (jK 4 [158] [] (NN (cP ((((a:Nat):Int):Int)<(((ns.length:Nat):Int):Int)) (λafq=>KX (aq.seq (aq.block (SR (jK 5 [13] [(2,p_ ⟨[],some a,none,none,some (.pointer (some ⟨b3,a,none⟩))⟩ [(Value.pointer (some ⟨b3,0+a*1,none⟩))=(.pointer (some ⟨b3,a,none⟩)),((a:Nat):Int)=((a:Nat):Int),a<ns.length,(⟨b3,0,none⟩:Addr).spot=none] ⟨agU,rfl,zc,rfl,trivial⟩),(3,p_ ⟨[.view 0 (.int .i64 ((vO.getD a 0)))],none,none,none,none⟩ [(∀F w,(aH 3 1 (some ⟨b3,0,none⟩) ns.length ns.length (jY vO)).h F w->w.cell? ⟨b3,a,none⟩=some (vI ((vO.getD a 0))))] ⟨aH.cell (Bh zc),trivial⟩)] (NS (jK 1 [14] [] (NN (aq.block (lJ (λ(at_,step,w)=>((at_<0/\Ends ((jj ns ns.length).map (lf ns)) (nd ns a).id)\/∃q:Nat,at_=(q:Int)/\q<ns.length/\Way ((jj ns ns.length).map (lf ns)) (nd ns a).id w (nd ns q).id/\w.length=step+1)) (λ(at_,step,w)=>ns.length+2-step) (λ(at_,step,w)=>[(6,.slice (some ⟨b3,0,none⟩) (ns.length) (ns.length)),(12,vI ↑a),(13,vI (at_)),(14,vI ↑step)]) (λ(at_,step,w)=>[.abs (aH 3 1 (some ⟨b3,0,none⟩) ns.length ns.length (jY vO)),.abs R]) ((vO.getD a 0),0,[(nd ns a).id]) [0,1] (N0 Db hed aaI zc .nil rfl) ?_)))))))))) (λafq=>XX (zR ⟨agX (Value.int .i64) (agW (c:=cA ns) ⟨zc,λa ha=>hu.node a zc,λa ha=>hu.ids a zc,Db,zc,λa ha=>Bg a zc,Pe,Vf (λp hp=>(hed p hp).1) (λb hb=>hend b zc)⟩).symm,rfl⟩ [1])))))
 rintro⟨at_,step,w⟩ hst
 refine SQ (jK 2 [166] [] (NN (cP ((at_:Int)>=(0:Int)) (λafr=>?_) (λafr=>XX (aq.region (jK 3 [12] [(1,wJ ((a:Int)+1) (↑(a+1)))] (NL (tJ ((a+1)) [0,1] (⟨zc,λb hb=>Pe⟩)))))))))
 obtain⟨b,hb0,hb1,hb2,hb3⟩:=hst.resolve_left (λh=>zc)
 exact KX (aq.seq (aq.block (SQ (jK 4 [172] [] (sP 172 ((at_:Int)=(((a:Nat):Int):Int)) (λafs=>jK 5 [177] [] (NT (zR ⟨agX (Value.int .i64) (agV (c:=cA ns) (λh=>by rw [show b=a by omega] at hb2;exact hb2.back zc (h.ends _))).symm,rfl⟩ [1]))) (λafs=>jK 5 [177] [] (NN (cP ((((step:Nat):Int):Int)>(((ns.length:Nat):Int):Int)) (λaft=>zR ⟨agX (Value.int .i64) (agV (c:=cA ns) (λh=>by exact hb2.never (by have:=h.few;omega) (h.ends _))).symm,rfl⟩ [1]) (λaft=>KX (aq.region (jK 5 [13] [(2,p_ ⟨[],some b,none,none,some (.pointer (some ⟨b3,b,none⟩))⟩ [(Value.pointer (some ⟨b3,0+b*1,none⟩))=(.pointer (some ⟨b3,b,none⟩)),at_=((b:Nat):Int),b<ns.length,(⟨b3,0,none⟩:Addr).spot=none] ⟨agU,hb0,zc,rfl,trivial⟩),(3,p_ ⟨[.view 0 (.int .i64 ((vO.getD b 0)))],none,none,none,none⟩ [(∀F w,(aH 3 1 (some ⟨b3,0,none⟩) ns.length ns.length (jY vO)).h F w->w.cell? ⟨b3,b,none⟩=some (vI ((vO.getD b 0))))] ⟨aH.cell (Bh zc),trivial⟩)] (LX (aq.region (jK 3 [14] [(1,wJ ((step:Int)+1) (↑(step+1)))] (NL (tJ ((vO.getD b 0),(step+1),(w++[(nd ns b).id])) [0,1] (N0 Db hed aaI hb1 hb2 hb3)))))))))))))))))
end
section
open Go.RowKit
theorem B0.refl (W:World):(B0 W).le (B0 W):=⟨λ_ h=>h,rfl,rfl,rfl,ag5 _,λ_ hk=>⟨hk,rfl⟩⟩
theorem aW.val {P:Program} {β:Bs} {f:FuncId} {args:Array Value} {pre:List HP} {x y:Value} {l0:List HP} (h:aW P β f args pre (λv l=>v=x/\l=l0)) (e:x=y):aW P β f args pre (λv l=>v=y/\l=l0):=h.mono λ_ _ h=>⟨h.1.trans e,h.2⟩
section gb
variable {ns:List aO} {b:Nat}
variable (h:jZ ns 1048576)
include h
end gb
structure agk (ns:List aO):Prop where
 hl:ns.length<=1048576
 hd:∀i,i<ns.length->(nd ns i).data.length<=140737488355328/\(nd ns i).ah.length<=1048576
 hwf:∀i,i<ns.length->∀j,j<(nd ns i).ah.length->-9223372036854775808<=(bS ns i j).id/\(bS ns i j).id<=9223372036854775807
 hnm:∀i,i<ns.length->∀j,j<(nd ns i).ah.length->(bS ns i j).name.size<=1048576
 ids:∀i,i<ns.length->xB (nd ns i).id
def L0:eV:=⟨λ_=>none,λ_=>none,λ_=>0,λ_=>0⟩
theorem cC.nil {β:Bs} {A:Option Addr}:cC β A []:=λj v hj=>by simp at hj
structure Th where
 k:Nat
 kind:Int
deriving Inhabited,DecidableEq
abbrev iW (α:Type):=List (ByteArray×α)
structure bJ where
 id:Int
 mode:Int
 bg:Int
 bh:Int
 aU:Int
 aI:Int
 aV:Int
 aK:Int
 aG:Bool
 kind:Int
 data:List UInt8
 target:ByteArray
 ah:iW Th
 up:Option Nat
deriving Inhabited
abbrev d9:=Nat->bJ
def af (O:d9) (k:Nat):bJ:=O k
def aZ (O:d9) (k:Nat) (f:bJ->bJ):d9:=λi=>if i=k then f (O i) else O i
section qd
variable {O:d9} {k j:Nat} {f g:bJ->bJ}
theorem fA:af (aZ O k f) k=f (af O k):=agW rfl
theorem iX (h:j≠k):af (aZ O k f) j=af O j:=agV h
theorem j8:af (aZ O k f) j=if j=k then f (af O j) else af O j:=rfl
theorem abN (h:f (af O k)=af O k):aZ O k f=O:=by
 grind [af,aZ]
theorem Bk:aZ (aZ O k f) k g=aZ O k (λo=>g (f o)):=by
 grind [aZ]
end qd
section ah
variable {α:Type} {n p:ByteArray} {t:α} {es:iW α}
def bL (n:ByteArray) (es:iW α):Option α:=(es.find? (λe=>decide (e.1=n))).map (·.2)
def kO (n:ByteArray) (t:α):iW α->iW α
 |[]=>[(n,t)]
 |e::r=>if ¬jy e.1 n then (n,t)::e::r else e::kO n t r
def kD (n:ByteArray) (es:iW α):iW α:=es.filter (λe=>decide (e.1≠n))
theorem qi {e:ByteArray×α}:bL n (e::es)=if e.1=n then some e.2 else bL n es:=by
 grind [bL]
theorem Df:bL n es=none↔∀e∈es,e.1≠n:=by
 unfold bL
 rw [Option.map_eq_none_iff,List.find?_eq_none]
 simp
theorem rE {es:iW α} (h:bL n es=some t):(n,t)∈es:=by
 unfold bL at h
 obtain⟨e,h1,h2⟩:=Option.map_eq_some_iff.1 h
 grind
theorem N7:∀{es:iW α},(kO n t es).length=es.length+1
 |[]=>rfl
 |e::r=>by
   unfold kO
   split
   ·rfl
   rw [ahw,N7];rfl
theorem Ep (hn:bL n es=none):bL p (kO n t es)=if p=n then some t else bL p es:=by
 induction es with
 |nil=>
   grind [kO,qi]
 |cons e r ih=>
   grind [qi,kO]
theorem xJ:bL p (kD n es)=if p=n then none else bL p es:=by
 grind [kD,bL,qi]
def p4 (es:iW α):Prop:=es.Pairwise (λa b=>a.1≠b.1)
theorem Yg {es:iW α} (hd:p4 es) (h:bL n es=some t):(kD n es).length+1=es.length:=by
 induction es with
 |nil=>cases h
 |cons e r ih=>
   obtain⟨h1,h2⟩:=ahc.1 hd
   rw [qi] at h
   unfold kD at ih ⊢
   rw [List.filter_cons]
   by_cases he:e.1=n
   ·rw [agV (by simp [he])]
    have:r.filter (λe=>decide (e.1≠n))=r:=List.filter_eq_self.2 (λx hx=>Pe)
    rw [this];rfl
   grind [p4,bL,kD]
theorem G7 {e:ByteArray×α}:∀{es:iW α},e∈kO n t es↔e=(n,t)\/e∈es
 |[]=>by simp [kO]
 |x::r=>by
   unfold kO
   split
   ·simp
   rw [aha,G7,aha]
   constructor
   ·rintro (h|h|h)
    ·exact .inr (.inl h)
    ·exact .inl h
    exact .inr (.inr h)
   rintro (h|h|h)
   ·exact .inr (.inl h)
   ·exact .inl h
   exact .inr (.inr h)
end ah
section sat
variable {β:Bs} {l:List HP} {w:World} {p p1 p2:HP} {i:Nat}
theorem aR.aaJ (h:aR β l w) (hp:l[i]?=some p) (hs:∀F,p.h F w->∃F1 F2,p1.h F1 w/\p2.h F2 w/\Apart F1 F2/\∀k,F k↔F1 k\/F2 k):aR β (l.set i p1++[p2]) w:=by
 obtain⟨ho,φ,h1,h2,h3⟩:=h
 obtain⟨F1,F2,g1,g2,g3,g4⟩:=hs _ (h1 i p hp)
 have hi:=dP hp
 have jv:(l.set i p1++[p2]).length=l.length+1:=agU
 refine⟨ho,λj=>if j=l.length then F2 else if j=i then F1 else φ j,λj q hq=>?_,λj hj k hk hO=>?_,λa b ha hb bX k hk jq=>?_⟩
 all_goals grind [dP,aR,Apart]
theorem aR.aaK {j:Nat} {ar:List Nat} {l':List HP} (h:aR β l w) (hp:l[i]?=some p1) (hq:l[j]?=some p2) (hn:cD (i::j::ar)=true) (hl:cW l ar=some l') (hs:∀F1 F2,p1.h F1 w->p2.h F2 w->Apart F1 F2->∃F,p.h F w/\∀k,F k->F1 k\/F2 k):aR β (p::l') w:=by
 have h':=h.pick (ar:=i::j::ar) (l':=p1::p2::l') hn (by simp only [cW,hp,hq,hl])
 obtain⟨ho,φ,h1,h2,h3⟩:=h'
 obtain⟨F,hF,hk⟩:=hs _ _ (h1 0 p1 rfl) (h1 1 p2 rfl) (h3 0 1 agU agU Pd)
 have jv:(p1::p2::l').length=l'.length+2:=rfl
 rw [jv] at h2 h3
 refine⟨ho,λj=>if j=0 then F else φ (j+1),λj q hq=>?_,λj hj k hkk hO=>?_,λa b ha hb bX k hk1 hk2=>?_⟩
 ·grind
 ·grind
 simp only [ahw] at ha hb
 have key:∀j,j<l'.length->F k->φ (j+2) k->False:=λj hj e1 e2=>by
  rcases hk k e1 with e|e
  ·exact h3 0 (j+2) zc zc zc k e e2
  exact h3 1 (j+2) zc zc zc k e e2
 cases a with
 |zero=>
   cases b with
   |zero=>exact bX rfl
   |succ b=>exact key b zc (by simpa using hk1) (by simpa using hk2)
 |succ a=>
   cases b with
   |zero=>exact key a zc (by simpa using hk2) (by simpa using hk1)
   |succ b=>exact h3 (a+2) (b+2) zc zc zc k (by simpa using hk1) (by simpa using hk2)
end sat
def kE (R:Nat->eH) (n:Nat):eH where
 h F w:=∃φ:Nat->Fp,(∀i,i<n->(R i).h (φ i) w)/\(∀i j,i<n->j<n->i≠j->Apart (φ i) (φ j))/\∀k,F k↔∃i,i<n/\φ i k
 lt:=λ⟨_,h1,_,h3⟩ k hk=>let ⟨i,hi,hk⟩:=(h3 k).1 hk;(R i).lt (h1 i hi) k hk
 st:=λ⟨φ,h1,h2,h3⟩ _ _ hk hn=>⟨φ,λi hi=>(R i).st (h1 i hi) hk (λk hk=>hn k ((h3 k).2 ⟨i,hi,hk⟩)),h2,h3⟩
def eH.none:eH where
 h F _:=∀k,¬F k
 lt:=λh k hk=>agY hk (h k)
 st:=λh _ _ _ _=>h
def nR (R:Nat->eH) (k:Nat) (a:eH):Nat->eH:=λi=>if i=k then a else R i
section Vh
variable {β:Bs} {l l':List HP} {w:World} {i n k:Nat} {R R':Nat->eH} {a:eH}
theorem kE.nil (R:Nat->eH) (w:World):(HP.abs (kE R 0)).h (λ_=>False) w:=⟨λ_ _=>False,λi hi=>agY hi (ag2 i),λi _ hi=>agY hi (ag2 i),λ_=>⟨λh=>h.elim,λ⟨i,hi,_⟩=>agY hi (ag2 i)⟩⟩
theorem aR.IX (h:aR β l w) (R:Nat->eH):aR β (l++[.abs (kE R 0)]) w:=aR.new h (kE.nil R w) (cJ.refl _ _) (λ_ h=>h.elim)
theorem aR.Rs (h:aR β l w) (hp:l[i]?=some (.abs (kE R n))) (hk:k<n):aR β (l.set i (.abs (kE (nR R k eH.none) n))++[.abs (R k)]) w:=by
 refine h.aaJ hp ?_
 rintro F ⟨φ,h1,h2,h3⟩
 refine⟨λx=>∃i,i<n/\i≠k/\φ i x,φ k,⟨λi=>if i=k then λ_=>False else φ i,λi hi=>?_,λi j hi hj bX x hx hy=>?_,λx=>⟨λ⟨i,hi,bX,hx⟩=>⟨i,hi,by simpa [bX] using hx⟩,λ⟨i,hi,hx⟩=>?_⟩⟩,h1 k hk,λx ⟨i,hi,bX,hx⟩ hy=>h2 i k hi hk bX x hx hy,λx=>⟨λhx=>?_,λhx=>?_⟩⟩
 ·unfold nR
  by_cases e:i=k
  ·simp only [e,if_true];exact λ_ h=>h
  simp only [e,if_false];exact h1 i hi
 ·by_cases e1:i=k
  ·simp [e1] at hx
  by_cases e2:j=k
  ·simp [e2] at hy
  exact h2 i j hi hj bX x (by simpa [e1] using hx) (by simpa [e2] using hy)
 ·by_cases e1:i=k
  ·simp [e1] at hx
  exact⟨i,hi,e1,by simpa [e1] using hx⟩
 all_goals grind
theorem aR.uP {j:Nat} {ar:List Nat} (h:aR β l w) (hp:l[i]?=some (.abs (kE R n))) (hq:l[j]?=some (.abs a)) (hn:cD (i::j::ar)=true) (hl:cW l ar=some l') (hR:∀x,x<n->R' x=R x) (ha:R' n=a):aR β (.abs (kE R' (n+1))::l') w:=by
 refine h.aaK hp hq hn hl ?_
 rintro F1 F2 ⟨φ,h1,h2,h3⟩ hF hap
 refine⟨λx=>F1 x\/F2 x,⟨λi=>if i=n then F2 else φ i,λi hi=>?_,λi j hi hj bX x hx hy=>?_,λx=>⟨λhx=>?_,λ⟨i,hi,hx⟩=>?_⟩⟩,λx hx=>hx⟩
 ·by_cases e:i=n
  ·subst e;simp only [if_true];rw [ha];exact hF
  grind
 ·by_cases e1:i=n
  ·by_cases e2:j=n
   ·exact bX (e1.trans e2.symm)
   simp only [e1,if_true] at hx
   simp only [e2,if_false] at hy
   exact hap x ((h3 x).2 ⟨j,zc,hy⟩) hx
  simp only [e1,if_false] at hx
  by_cases e2:j=n
  ·simp only [e2,if_true] at hy
   exact hap x ((h3 x).2 ⟨i,zc,hx⟩) hy
  simp only [e2,if_false] at hy
  exact h2 i j zc zc bX x hx hy
 ·rcases hx with hx|hx
  ·grind
  exact⟨n,ahn n,by simpa using hx⟩
 grind
theorem kE.base {F:Fp} {β':Bs} (h:(HP.abs (kE R n)).h F w) (h1:∀k,F k->β'.O k) (_:β'.w0=w) {Φ:Nat->Bs->Prop} (Rf:∀i,i<n->∀F,(R i).h F w->(∀k,F k->β'.O k)->Φ i β'):∀i,i<n->Φ i β':=by
 obtain⟨φ,g1,_,g3⟩:=h
 grind
end Vh
section CZ
variable {P:Program} {β:Bs} {N:fY} {ops:Array Oper} {S:List HP} {l:List Nat} {fr:Fr} {ax:List HP} {Q:Post} {i:Nat}
end CZ
structure pW (β:Bs) (R:List HP) (β':Bs):Prop where
 le:β.le β'
 fp:∃φ:Nat->Fp,(∀(i:Nat) (p:HP),R[i]?=some p->p.h (φ i) β'.w0/\∀k,φ i k->β'.O k)/\(∀i,i<R.length->∀k,φ i k->¬β.O k)/\(∀i j,i<R.length->j<R.length->i≠j->Apart (φ i) (φ j))/\∀k,β'.O k->β.O k\/∃i,i<R.length/\φ i k
section Yh
variable {β β' nV:Bs} {l R:List HP} {w:World} {p:HP} {i:Nat}
theorem pW.get (h:pW β R β') (i:Nat) (hp:R[i]?=some p):∃F,p.h F β'.w0/\∀k,F k->β'.O k:=by
 obtain⟨φ,h1,_⟩:=h.fp
 exact⟨φ i,h1 i p hp⟩
theorem aR.turn {a b:List HP} (h:aR β (a++b) w):aR β (b++a) w:=by
 obtain⟨ho,φ,h1,h2,h3⟩:=h
 have hl:(a++b).length=a.length+b.length:=ag4
 have hl':(b++a).length=b.length+a.length:=ag4
 refine⟨ho,λi=>if i<b.length then φ (a.length+i) else φ (i-b.length),λi p hp=>?_,λi hi k hk hO=>?_,λi j hi hj bX k hk jq=>?_⟩
 ·grind
 ·grind
 by_cases e1:i<b.length
 ·simp only [e1,if_true] at hk
  by_cases e2:j<b.length
  ·simp only [e2,if_true] at jq
   exact h3 _ _ zc zc zc k hk jq
  simp only [e2,if_false] at jq
  exact h3 _ _ zc zc zc k hk jq
 simp only [e1,if_false] at hk
 by_cases e2:j<b.length
 ·simp only [e2,if_true] at jq
  exact h3 _ _ zc zc zc k hk jq
 simp only [e2,if_false] at jq
 exact h3 _ _ zc zc zc k hk jq
theorem aR.wg (h:aR β (l++R) w):∃β',pW β R β'/\β'.w0=w/\aR β' l w:=by
 obtain⟨ho,φ,h1,h2,h3⟩:=h
 have hl:(l++R).length=l.length+R.length:=ag4
 have hR:∀(i:Nat) (p:HP),R[i]?=some p->p.h (φ (l.length+i)) w:=Pe
 refine⟨⟨λk=>β.O k\/∃i,i<R.length/\φ (l.length+i) k,w⟩,⟨⟨λk hk=>.inl hk,ho.os,ho.tape,ho.output,ho.size,λk hk=>ho.old k hk⟩,λi=>φ (l.length+i),λi p hp=>⟨hR i p hp,λk hk=>.inr ⟨i,dP hp,hk⟩⟩,λi hi=>h2 _ zc,λi j hi hj bX=>h3 _ _ zc zc zc,λk hk=>hk⟩,rfl,⟨rfl,rfl,rfl,ag5 _,λk hk=>⟨?_,rfl⟩⟩,φ,λi p hp=>h1 i p (by rw [ahX (dP hp)];exact hp),λi hi k hk hO=>?_,λi j hi hj bX=>h3 i j zc zc bX⟩
 ·rcases hk with hk|⟨i,hi,hk⟩
  ·exact ahg (ho.old k hk).1 ho.size
  obtain⟨p,hp⟩:=mP hi
  exact HP.lt (hR i p hp) k hk
 rcases hO with hO|⟨j,hj,hO⟩
 ·exact h2 i zc k hk hO
 exact h3 i (l.length+j) zc zc zc k hk hO
theorem pW.back (h:pW β R β') (hS:aR β' l w):aR β (l++R) w:=by
 obtain⟨dU,φ,g1,g2,g3,g4⟩:=h
 obtain⟨ho,ψ,h1,h2,h3⟩:=hS
 have hl:(l++R).length=l.length+R.length:=ag4
 have hin:∀i,i<R.length->∀k,φ i k->β'.O k:=λi hi k hk=>by
  obtain⟨p,hp⟩:=mP hi
  exact (g1 i p hp).2 k hk
 have hk:∀i,i<R.length->cJ (λk=>¬φ i k) β'.w0 w:=λi hi=>⟨ho.os,ho.tape,ho.output,ho.size,λk _ hn=>(ho.old k (hin i hi k (Classical.not_not.1 hn))).2⟩
 refine⟨ho.le dU,λi=>if i<l.length then ψ i else φ (i-l.length),λi p hp=>?_,λi hi k hk hO=>?_,λi j hi hj bX k hk jq=>?_⟩
 ·grind [HP.st,dP]
 ·by_cases e:i<l.length
  ·simp only [e,if_true] at hk
   exact h2 i e k hk (dU.O k hO)
  grind
 by_cases e1:i<l.length
 ·simp only [e1,if_true] at hk
  by_cases e2:j<l.length
  ·simp only [e2,if_true] at jq
   exact h3 i j e1 e2 bX k hk jq
  grind
 simp only [e1,if_false] at hk
 by_cases e2:j<l.length
 ·grind
 simp only [e2,if_false] at jq
 exact g3 _ _ zc zc zc k hk jq
end Yh
section rules
variable {P:Program} {β β' nV:Bs} {N:fY} {ops:Array Oper} {k:Nat} {fr:Fr} {ax l R:List HP} {Q:Post} {c:Code} {e:Exit} {pk:List Nat} {f:FuncId} {args:Array Value} {pre:List HP}
end rules
def aY (R:Nat->eH):eH where
 h F w:=∃φ:Nat->Fp,(∀i,(R i).h (φ i) w)/\(∀i j,i≠j->Apart (φ i) (φ j))/\∀k,F k↔∃i,φ i k
 lt:=λ⟨_,h1,_,h3⟩ k hk=>let ⟨i,hk⟩:=(h3 k).1 hk;(R i).lt (h1 i) k hk
 st:=λ⟨φ,h1,h2,h3⟩ _ _ hk hn=>⟨φ,λi=>(R i).st (h1 i) hk (λk hk=>hn k ((h3 k).2 ⟨i,hk⟩)),h2,h3⟩
section Vh
variable {β:Bs} {l l':List HP} {w:World} {i n k:Nat} {R R':Nat->eH} {a:eH}
theorem aY.at (k:Nat) {F:Fp} {w:World} (h:(aY R).h F w):∃G,(R k).h G w:=by
 obtain⟨φ,h1,_⟩:=h
 exact⟨φ k,h1 k⟩
theorem aR.MZ (h:aR β l w) (R:Nat->eH) (hR:∀k,R k=eH.none):aR β (l++[.abs (aY R)]) w:=aR.new h (p:=.abs (aY R)) (F:=λ_=>False) ⟨λ_ _=>False,λi=>by rw [hR];exact λ_ h=>h,λ_ _ _ _ h=>h.elim,λ_=>⟨λh=>h.elim,λ⟨_,h⟩=>h⟩⟩ (cJ.refl _ _) (λ_ h=>h.elim)
theorem aR.IY (h:aR β l w) (hp:l[i]?=some (.abs (aY R))) (k:Nat):aR β (l.set i (.abs (aY (nR R k eH.none)))++[.abs (R k)]) w:=by
 refine h.aaJ hp ?_
 rintro F ⟨φ,h1,h2,h3⟩
 refine⟨λx=>∃i,i≠k/\φ i x,φ k,⟨λi=>if i=k then λ_=>False else φ i,λi=>?_,λi j bX x hx hy=>?_,λx=>⟨λ⟨i,bX,hx⟩=>⟨i,by simpa [bX] using hx⟩,λ⟨i,hx⟩=>?_⟩⟩,h1 k,λx ⟨i,bX,hx⟩ hy=>h2 i k bX x hx hy,λx=>⟨λhx=>?_,λhx=>?_⟩⟩
 ·unfold nR
  by_cases e:i=k
  ·simp only [e,if_true];exact λ_ h=>h
  simp only [e,if_false];exact h1 i
 ·by_cases e1:i=k
  ·simp [e1] at hx
  by_cases e2:j=k
  ·simp [e2] at hy
  exact h2 i j bX x (by simpa [e1] using hx) (by simpa [e2] using hy)
 ·by_cases e1:i=k
  ·simp [e1] at hx
  exact⟨i,e1,by simpa [e1] using hx⟩
 all_goals grind
theorem aR.wW {j:Nat} {ar:List Nat} {q:HP} (h:aR β l w) (hp:l[i]?=some (.abs (aY R))) (hq:l[j]?=some q) (hqa:∀F w,q.h F w->a.h F w) (hn:cD (i::j::ar)=true) (hl:cW l ar=some l') (k:Nat) (hR:∀x,x≠k->R' x=R x) (ha:R' k=a):aR β (.abs (aY R')::l') w:=by
 refine h.aaK hp hq hn hl ?_
 rintro F1 F2 ⟨φ,h1,h2,h3⟩ hF hap
 refine⟨λx=>(∃i,i≠k/\φ i x)\/F2 x,⟨λi=>if i=k then F2 else φ i,λi=>?_,λi j bX x hx hy=>?_,λx=>⟨λhx=>?_,λ⟨i,hx⟩=>?_⟩⟩,λx hx=>hx.imp (λ⟨i,_,hx⟩=>(h3 x).2 ⟨i,hx⟩) id⟩
 ·grind
 ·by_cases e1:i=k
  ·by_cases e2:j=k
   ·exact bX (e1.trans e2.symm)
   simp only [e1,if_true] at hx
   simp only [e2,if_false] at hy
   exact hap x ((h3 x).2 ⟨j,hy⟩) hx
  simp only [e1,if_false] at hx
  by_cases e2:j=k
  ·simp only [e2,if_true] at hy
   exact hap x ((h3 x).2 ⟨i,hx⟩) hy
  simp only [e2,if_false] at hy
  exact h2 i j bX x hx hy
 ·rcases hx with ⟨i,bX,hx⟩|hx
  ·exact⟨i,by simpa [bX] using hx⟩
  exact⟨k,by simpa using hx⟩
 grind
end Vh
end
section
open Go.RowKit Go.Maps
theorem G8:Keyed Tryz.prog 9:=string_keyed Tryz.underlying9
theorem Kk {p:ByteArray} (h:p.size<=9223372036854775807):keyOf Tryz.prog 9 (.string p)=some (.string p.data.toList):=WideMaps.keyOf_string_mk Tryz.underlying9 (by unfold maxLen;omega)
def mS (g:ByteArray->Option Value):Lit->Option Value
 |.string l=>g ⟨l.toArray⟩
 |_=>none
theorem aeL (g:ByteArray->Option Value) (p:ByteArray):mS g (.string p.data.toList)=g p:=by
 show g ⟨p.data.toList.toArray⟩=g p
 rw [Array.toArray_toList]
theorem Vi (g:ByteArray->Option Value) (p:ByteArray) (v:Option Value):qd (mS g) (.string p.data.toList) v=mS (λq=>if q=p then v else g q):=by
 funext x
 unfold qd mS
 cases x with
 |string l=>
   by_cases e:l=p.data.toList
   ·subst e
    have e2:(⟨p.data.toList.toArray⟩:ByteArray)=p:=by rw [Array.toArray_toList]
    simp [Lit.sameKey]
   have e2:¬(⟨l.toArray⟩:ByteArray)=p:=λh=>e (by rw [←h])
   simp [Lit.sameKey,e,e2]
 |_=>rfl
theorem abO:mS (λ_=>none)=λ_=>none:=by
 funext x
 unfold mS
 split<;>rfl
def G9 (b:Nat) (cs:List Value) (T:TypeId):eH where
 h F w:=(HP.aD b cs T).h F w
 lt:=λh=>HP.lt h
 st:=λh _ _ hk hd=>HP.st h hk hd
structure HL where
 b:Nat->Nat
 m:Nat->Nat
 dA:Nat->Option Addr
 dC:Nat->Nat
def HL.data (L:HL) (k:Nat) (A:Option Addr) (c:Nat):HL:=⟨L.b,L.m,λi=>if i=k then A else L.dA i,λi=>if i=k then c else L.dC i⟩
def HL.put (L:HL) (k b m:Nat) (A:Option Addr) (c:Nat):HL:=⟨λi=>if i=k then b else L.b i,λi=>if i=k then m else L.m i,λi=>if i=k then A else L.dA i,λi=>if i=k then c else L.dC i⟩
def thT (kind:Int):TypeId:=if kind=1 then 138 else if kind=3 then 141 else 144
def sE (kind:Int):TypeId:=if kind=1 then 140 else if kind=3 then 143 else 147
def iw (L:HL) (t:Th):Value:=.iface (thT t.kind) (.pointer (some ⟨L.b t.k,0,none⟩))
def IZ (L:HL):Option Nat->Value
 |none=>.pointer none
 |some d=>.pointer (some ⟨L.b d,0,none⟩)
def FB (o:bJ):List Value:=[.int .i64 o.id,.int .i64 o.mode,.int .i64 o.bg,.int .i64 o.bh,.int .i64 o.aU,.int .i64 o.aI,.int .i64 o.aV,.int .i64 o.aK,.bool o.aG]
def FC (L:HL) (k:Nat) (o:bJ):List Value:=if o.kind=1 then [.slice (L.dA k) o.data.length (L.dC k)] else if o.kind=3 then [.string o.target] else [.map (some (L.m k)),IZ L o.up]
def lM (L:HL) (k:Nat) (o:bJ):List Value:=FB o++FC L k o
def nE (L:HL) (es:iW Th):Lit->Option Value:=mS (λp=>(bL p es).map (iw L))
def eM (O:d9) (L:HL) (k:Nat):eH:=if (af O k).kind=0 then eH.none else G9 (L.b k) (lM L k (af O k)) (sE (af O k).kind)
def dS (O:d9) (L:HL) (k:Nat):eH:=if (af O k).kind=1 then aH 5 1 (L.dA k) (af O k).data.length (L.dC k) (dR (af O k).data) else eH.none
def gq (O:d9) (L:HL) (k:Nat):eH:=if (af O k).kind=2 then bM Tryz.prog 9 (L.m k) (nE L (af O k).ah) (af O k).ah.length else eH.none
section sat
variable {β:Bs} {l:List HP} {w:World} {i b:Nat} {cs:List Value} {T:TypeId} {p p':HP}
theorem aR.same (h:aR β l w) (hp:l[i]?=some p) (e:∀F w,p.h F w->p'.h F w):aR β (l.set i p') w:=by
 obtain⟨ho,φ,h1,h2,h3⟩:=h
 have hl:(l.set i p').length=l.length:=ag8 ..
 refine⟨ho,φ,λj q hq=>?_,λj hj=>h2 j zc,λj k hj hk=>h3 j k zc zc⟩
 grind
end sat
section cells
variable {O:d9} {L:HL} {k j:Nat} {v:Value}
theorem rI (h:(af O k).kind≠0):eM O L k=G9 (L.b k) (lM L k (af O k)) (sE (af O k).kind):=agV h
theorem iY (hk:(af O k).kind≠0) (hv:(lM L k (af O k))[j]?=some v):∀F w,(aY (eM O L)).h F w->w.cell? ⟨L.b k,j,none⟩=some v:=by
 intro F w h
 obtain⟨G,g⟩:=aY.at k h
 rw [rI hk] at g
 obtain⟨g,_⟩:=g
 exact (lY g rfl rfl hv).1
theorem zX (h:(af O k).kind=1):dS O L k=aH 5 1 (L.dA k) (af O k).data.length (L.dC k) (dR (af O k).data):=agW h
theorem uQ (h:(af O k).kind=2):gq O L k=bM Tryz.prog 9 (L.m k) (nE L (af O k).ah) (af O k).ah.length:=agW h
theorem zl (es:iW Th) (p:ByteArray):nE L es (.string p.data.toList)=(bL p es).map (iw L):=aeL _ _
theorem Yi {es:iW Th} {p:ByteArray} {t:Th} (hn:bL p es=none):qd (nE L es) (.string p.data.toList) (some (iw L t))=nE L (kO p t es):=by
 grind [nE,Vi,Ep]
theorem Yj {es:iW Th} {p:ByteArray}:qd (nE L es) (.string p.data.toList) none=nE L (kD p es):=by
 grind [nE,Vi,xJ]
theorem Yk:nE L []=λ_=>none:=abO
end cells
section Vh
variable {O:d9} {L:HL} {k:Nat} {f:bJ->bJ}
theorem CA:eM (aZ O k f) L k=if (f (af O k)).kind=0 then eH.none else G9 (L.b k) (lM L k (f (af O k))) (sE (f (af O k)).kind):=by
 unfold eM;rw [fA]
theorem CB {x:Nat} (h:x≠k):eM (aZ O k f) L x=eM O L x:=by unfold eM;rw [iX h]
theorem tD (h:(f (af O k)).data=(af O k).data) (h2:(f (af O k)).kind=(af O k).kind):dS (aZ O k f) L=dS O L:=by
 grind [dS,fA,iX]
theorem tE (h:(f (af O k)).ah=(af O k).ah) (h2:(f (af O k)).kind=(af O k).kind):gq (aZ O k f) L=gq O L:=by
 grind [gq,fA,iX]
theorem Er {x:Nat} (h:x≠k):gq (aZ O k f) L x=gq O L x:=by unfold gq;rw [iX h]
theorem Es {x:Nat} (h:x≠k):dS (aZ O k f) L x=dS O L x:=by unfold dS;rw [iX h]
end Vh
section kinds
variable {O:d9} {L:HL} {k j:Nat} {f:bJ->bJ} {o:bJ}
theorem o8 (hf:∀o,(f o).kind=o.kind):(af (aZ O j f) k).kind=(af O k).kind:=by
 rw [j8];split
 ·exact hf _
 rfl
theorem eG {α:Type} {g:bJ->α} (hf:∀o,g (f o)=g o):g (af (aZ O j f) k)=g (af O k):=by
 rw [j8];split
 ·exact hf _
 rfl
theorem mE (h:o.kind=1):lM L k o=[.int .i64 o.id,.int .i64 o.mode,.int .i64 o.bg,.int .i64 o.bh,.int .i64 o.aU,.int .i64 o.aI,.int .i64 o.aV,.int .i64 o.aK,.bool o.aG,.slice (L.dA k) o.data.length (L.dC k)]:=by
 unfold lM FC;rw [agW h];rfl
theorem Et (h:o.kind=3):lM L k o=[.int .i64 o.id,.int .i64 o.mode,.int .i64 o.bg,.int .i64 o.bh,.int .i64 o.aU,.int .i64 o.aI,.int .i64 o.aV,.int .i64 o.aK,.bool o.aG,.string o.target]:=by
 unfold lM FC;rw [agV (by rw [h];decide),agW h];rfl
theorem rJ (h:o.kind=2):lM L k o=[.int .i64 o.id,.int .i64 o.mode,.int .i64 o.bg,.int .i64 o.bh,.int .i64 o.aU,.int .i64 o.aI,.int .i64 o.aV,.int .i64 o.aK,.bool o.aG,.map (some (L.m k)),IZ L o.up]:=by
 unfold lM FC;rw [agV (by rw [h];decide),agV (by rw [h];decide)];rfl
theorem N8 {es:bJ->iW Th}:eM (aZ O k (λo=>{o with ah:=es o})) L=eM O L:=by
 funext x
 unfold eM
 by_cases e:x=k
 ·subst e;rw [fA];rfl
 rw [iX e]
def uw (O:d9) (d:Nat) (name:ByteArray) (t:Th):d9:=
 let O1:=aZ O d (λo=>{o with ah:=kO name t o.ah})
 let O2:=aZ O1 t.k (λo=>{o with aV:=o.aV+1})
 if t.kind=2 then aZ O2 t.k (λo=>{o with up:=some d}) else O2
theorem He {α:Type} {g:bJ->α} {d:Nat} {name:ByteArray} {t:Th} (h1:∀o es,g {o with ah:=es}=g o) (h2:∀o l,g {o with aV:=l}=g o) (h3:∀o u,g {o with up:=u}=g o):g (af (uw O d name t) k)=g (af O k):=by
 unfold uw
 simp only
 split
 ·rw [eG (λo=>h3 o _),eG (λo=>h2 o _),eG (λo=>h1 o _)]
 rw [eG (λo=>h2 o _),eG (λo=>h1 o _)]
theorem Eu {d:Nat} {name:ByteArray} {t:Th}:(af (uw O d name t) k).kind=(af O k).kind:=He (g:=bJ.kind) (λ_ _=>rfl) (λ_ _=>rfl) (λ_ _=>rfl)
structure FM where
 cN:Int
 cB:Int
 cH:Int
 cS:Int
 cZ:Int
 last:Int
 ah:Int
 used:Int
def xK (X:FM) (O:d9) (d:Nat):d9:=aZ O d (λo=>{o with aU:=X.cS,aI:=X.cZ})
def dg (X:FM) (O:d9) (d:Nat) (name:ByteArray) (t:Th):d9:=xK X (uw O d name t) d
def bq (X:FM) (O:d9) (d:Nat) (name:ByteArray) (t:Th):d9:=aZ (xK X (aZ O d (λo=>{o with ah:=kD name o.ah})) d) t.k (λo=>{o with aV:=o.aV-1})
theorem fL {X:FM} {d:Nat} {name:ByteArray} {t:Th}:(af (bq X O d name t) k).kind=(af O k).kind:=by
 unfold bq xK
 exact (o8 (f:=λo=>{o with aV:=o.aV-1}) (λ_=>rfl)).trans ((o8 (f:=λo=>{o with aU:=X.cS,aI:=X.cZ}) (λ_=>rfl)).trans (o8 (f:=λo=>{o with ah:=kD name o.ah}) (λ_=>rfl)))
theorem Qv {X:FM} {d:Nat} {name:ByteArray} {t:Th}:(af (dg X O d name t) k).kind=(af O k).kind:=by
 grind [dg,xK,o8,Eu]
end kinds
section sat
variable {β:Bs} {l l':List HP} {w:World} {i j k:Nat} {O:d9} {L:HL} {f:bJ->bJ} {cs:List Value} {T:TypeId} {ar:List Nat}
theorem aR.Ev (h:aR β l w) (hp:l[i]?=some (.abs (aY (eM O L)))) (h0:(af O k).kind≠0) (hc:lM L k (af O k)=cs) (hT:sE (af O k).kind=T):aR β (l.set i (.abs (aY (nR (eM O L) k eH.none)))++[.aD (L.b k) cs T]) w:=by
 have h1:=h.IY hp k
 have jv:(l.set i (HP.abs (aY (nR (eM O L) k eH.none)))).length=l.length:=ag8 ..
 have h2:=aR.same (i:=l.length) (p:=.abs (eM O L k)) (p':=.aD (L.b k) cs T) h1 (by rw [ahQ zc,jv,Nat.sub_self];rfl) (λF w h=>by
  have h3:(eM O L k).h F w:=h
  rw [rI h0] at h3
  have h3:(G9 (L.b k) (lM L k (af O k)) (sE (af O k).kind)).h F w:=h3
  rw [hc,hT] at h3
  exact h3)
 have e:∀(a:List HP) (x y:HP),(a++[x]).set a.length y=a++[y]:=λa x y=>agU
 grind
theorem aR.FD {R:Nat->eH} (h:aR β l w) (hp:l[i]?=some (.abs (aY R))) (hR:∀x,x≠k->R x=eM O L x) (hq:l[j]?=some (.aD (L.b k) cs T)) (hd:cD (i::j::ar)=true) (hl:cW l ar=some l') (h0:(f (af O k)).kind≠0) (hc:lM L k (f (af O k))=cs) (hT:sE (f (af O k)).kind=T):aR β (.abs (aY (eM (aZ O k f) L))::l') w:=by
 refine h.wW (a:=G9 (L.b k) cs T) hp hq (λ_ _ h=>h) hd hl k (λx hx=>?_) (by rw [CA,agV h0,hc,hT])
 rw [CB hx,hR x hx]
theorem uR {R:Nat->eH} {a:eH} {x:Nat} (h:x≠k):nR R k a x=R x:=agV h
theorem aR.acY (h:aR β l w) (hp:l[i]?=some (.abs (aY (gq O L)))) (hd:(af O k).kind=2):aR β (l.set i (.abs (aY (nR (gq O L) k eH.none)))++[.abs (bM Tryz.prog 9 (L.m k) (nE L (af O k).ah) (af O k).ah.length)]) w:=by
 have h1:=h.IY hp k
 rw [uQ hd] at h1
 exact h1
theorem aR.acZ (h:aR β l w) (hp:l[i]?=some (.abs (aY (nR (gq O L) k eH.none)))) (hq:l[j]?=some (.abs (bM Tryz.prog 9 (L.m k) (nE L (af O k).ah) (af O k).ah.length))) (hd:cD (i::j::ar)=true) (hl:cW l ar=some l') (h2:(af O k).kind=2):aR β (.abs (aY (gq O L))::l') w:=
 h.wW hp hq (λ_ _ h=>h) hd hl k (λ_ hx=>(uR hx).symm) (uQ h2)
theorem aR.Vj (h:aR β l w) (hp:l[i]?=some (.abs (aY (dS O L)))) (hd:(af O k).kind=1):aR β (l.set i (.abs (aY (nR (dS O L) k eH.none)))++[.abs (aH 5 1 (L.dA k) (af O k).data.length (L.dC k) (dR (af O k).data))]) w:=by
 have h1:=h.IY hp k
 rw [zX hd] at h1
 exact h1
end sat
end
section
open Go.RowKit
theorem jZ.wide {ns:List aO} {b b':Nat} (h:jZ ns b) (hb:b<=b'):jZ ns b':=⟨ag1 h.len hb,λi hi=>by
 have:=h.node i hi
 exact⟨this.ids,ag1 this.data hb,ag1 this.target hb,ag1 this.ah hb,λj hj=>⟨(this.bS j hj).id,ag1 (this.bS j hj).name hb⟩⟩⟩
section gb
variable {ns:List aO} (h:jZ ns 1048576)
include h
theorem vw:ns.length<=1048576:=by have:=h.len;omega
theorem FE:∀i,i<ns.length->(nd ns i).data.length<=1048576/\(nd ns i).ah.length<=1048576:=λi hi=>by
 have h1:=(h.node i hi).data
 have h2:=(h.node i hi).ah
 omega
theorem I0:∀i,i<ns.length->∀j,j<(nd ns i).ah.length->-9223372036854775808<=(bS ns i j).id/\(bS ns i j).id<=9223372036854775807:=λi hi j hj=>((h.node i hi).bS j hj).id
theorem I3:∀i,i<ns.length->∀j,j<(nd ns i).ah.length->(bS ns i j).name.size<=1048576:=λi hi j hj=>by
 have h1:=((h.node i hi).bS j hj).name
 unfold bS
 omega
theorem aaL:∀i,i<ns.length->(nd ns i).target.size<=1048576:=λi hi=>by
 have h1:=(h.node i hi).target
 omega
end gb
structure afu (X:FM):Prop where
 cN:xB X.cN
 cB:xB X.cB
 cH:xB X.cH
 cS:xB X.cS
 cZ:xB X.cZ
end
end Go.Proofs.YtbnfiigafobejaaGreat
section
namespace Go.Proofs
open Go.Shelf
def Tryz.keysI_ren:Go.Shelf.Ren:=⟨fun|7=>67|10=>93|n=>n,fun|23=>129|26=>3|3=>133|28=>153|0=>0|27=>152|33=>185|4=>4|n=>n,fun|n=>n⟩
theorem Tryz.keysI:Go.Proofs.SlLaysZI.n7 Tryz.prog Tryz.keysI_ren:={
 mixed:=by kernel_rfl
 f7:=⟨Tryz.f67.name,by decide,Tryz.func67.trans (congrArg some (by kernel_rfl))⟩
 f10:=⟨Tryz.f93.name,by decide,Tryz.func93.trans (congrArg some (by kernel_rfl))⟩
 t0:=Tryz.underlying0
 a0:=Tryz.isAgg0
 z0:=Tryz.sizeOf0
 v0:=Tryz.zeroValue0
 t4:=Tryz.underlying4
 a4:=Tryz.isAgg4
 z4:=Tryz.sizeOf4
 v4:=Tryz.zeroValue4
 t23:=Tryz.underlying129
 a23:=Tryz.isAgg129
 z23:=Tryz.sizeOf129
 v23:=Tryz.zeroValue129
 t26:=Tryz.underlying3
 a26:=Tryz.isAgg3
 z26:=Tryz.sizeOf3
 v26:=Tryz.zeroValue3
 t27:=Tryz.underlying152
 a27:=Tryz.isAgg152
 z27:=Tryz.sizeOf152
 v27:=Tryz.zeroValue152
 t28:=Tryz.underlying153
 a28:=Tryz.isAgg153
 z28:=Tryz.sizeOf153
 v28:=Tryz.zeroValue153
 t33:=Tryz.underlying185
 a33:=Tryz.isAgg185
 z33:=Tryz.sizeOf185
 v33:=Tryz.zeroValue185}
def Tryz.sortedI_ren:Go.Shelf.Ren:=⟨fun|6=>66|8=>91|9=>92|11=>110|13=>112|12=>111|23=>131|24=>132|14=>122|15=>123|16=>124|17=>125|18=>126|19=>127|20=>128|21=>129|22=>130|25=>144|26=>145|27=>146|28=>147|29=>148|30=>149|31=>156|n=>n,fun|26=>3|28=>153|24=>41|0=>0|3=>3|37=>199|48=>214|50=>216|4=>4|40=>208|39=>207|45=>205|5=>5|9=>9|51=>224|55=>228|57=>233|58=>234|33=>185|n=>n,fun|n=>n⟩
theorem Tryz.sortedI:Go.Proofs.SlLaysZI.n6 Tryz.prog Tryz.sortedI_ren:={
 mixed:=by kernel_rfl
 f6:=⟨Tryz.f66.name,by decide,Tryz.func66.trans (congrArg some (by kernel_rfl))⟩
 f8:=⟨Tryz.f91.name,by decide,Tryz.func91.trans (congrArg some (by kernel_rfl))⟩
 f11:=⟨Tryz.f110.name,by decide,Tryz.func110.trans (congrArg some (by kernel_rfl))⟩
 t0:=Tryz.underlying0
 a0:=Tryz.isAgg0
 z0:=Tryz.sizeOf0
 v0:=Tryz.zeroValue0
 t24:=Tryz.underlying41
 a24:=Tryz.isAgg41
 z24:=Tryz.sizeOf41
 v24:=Tryz.zeroValue41
 t26:=Tryz.underlying3
 a26:=Tryz.isAgg3
 z26:=Tryz.sizeOf3
 v26:=Tryz.zeroValue3
 t28:=Tryz.underlying153
 a28:=Tryz.isAgg153
 z28:=Tryz.sizeOf153
 v28:=Tryz.zeroValue153
 i26:=by kernel_rfl}
def Tryz.sortI_ren:Go.Shelf.Ren:=⟨fun|5=>92|8=>112|7=>111|19=>131|20=>132|10=>122|11=>123|12=>124|13=>125|14=>126|15=>127|16=>128|17=>129|18=>130|30=>144|31=>145|32=>146|33=>147|34=>148|35=>149|40=>156|n=>n,fun|23=>41|25=>3|3=>3|32=>199|22=>41|0=>0|44=>214|46=>216|4=>4|36=>208|35=>207|41=>205|5=>5|9=>9|53=>224|57=>228|63=>233|64=>234|n=>n,fun|n=>n⟩
theorem Tryz.sortI:Go.Proofs.SlLaysM.n5 Tryz.prog Tryz.sortI_ren:={
 mixed:=by kernel_rfl
 f5:=⟨Tryz.f92.name,by decide,Tryz.func92.trans (congrArg some (by kernel_rfl))⟩
 f7:=⟨Tryz.f111.name,by decide,Tryz.func111.trans (congrArg some (by kernel_rfl))⟩
 f8:=Tryz.func112.trans (congrArg some (by kernel_rfl))
 f10:=⟨Tryz.f122.name,by decide,Tryz.func122.trans (congrArg some (by kernel_rfl))⟩
 f11:=⟨Tryz.f123.name,by decide,Tryz.func123.trans (congrArg some (by kernel_rfl))⟩
 f12:=⟨Tryz.f124.name,by decide,Tryz.func124.trans (congrArg some (by kernel_rfl))⟩
 f13:=⟨Tryz.f125.name,by decide,Tryz.func125.trans (congrArg some (by kernel_rfl))⟩
 f14:=⟨Tryz.f126.name,by decide,Tryz.func126.trans (congrArg some (by kernel_rfl))⟩
 f15:=⟨Tryz.f127.name,by decide,Tryz.func127.trans (congrArg some (by kernel_rfl))⟩
 f16:=⟨Tryz.f128.name,by decide,Tryz.func128.trans (congrArg some (by kernel_rfl))⟩
 f17:=⟨Tryz.f129.name,by decide,Tryz.func129.trans (congrArg some (by kernel_rfl))⟩
 f18:=⟨Tryz.f130.name,by decide,Tryz.func130.trans (congrArg some (by kernel_rfl))⟩
 f19:=Tryz.func131.trans (congrArg some (by kernel_rfl))
 f20:=Tryz.func132.trans (congrArg some (by kernel_rfl))
 f30:=⟨Tryz.f144.name,by decide,Tryz.func144.trans (congrArg some (by kernel_rfl))⟩
 f31:=Tryz.func145.trans (congrArg some (by kernel_rfl))
 f32:=Tryz.func146.trans (congrArg some (by kernel_rfl))
 f33:=⟨Tryz.f147.name,by decide,Tryz.func147.trans (congrArg some (by kernel_rfl))⟩
 f34:=⟨Tryz.f148.name,by decide,Tryz.func148.trans (congrArg some (by kernel_rfl))⟩
 f35:=⟨Tryz.f149.name,by decide,Tryz.func149.trans (congrArg some (by kernel_rfl))⟩
 f40:=⟨Tryz.f156.name,by decide,Tryz.func156.trans (congrArg some (by kernel_rfl))⟩
 t0:=Tryz.underlying0
 a0:=Tryz.isAgg0
 z0:=Tryz.sizeOf0
 v0:=Tryz.zeroValue0
 t3:=Tryz.underlying3
 a3:=Tryz.isAgg3
 z3:=Tryz.sizeOf3
 v3:=Tryz.zeroValue3
 t4:=Tryz.underlying4
 a4:=Tryz.isAgg4
 z4:=Tryz.sizeOf4
 v4:=Tryz.zeroValue4
 t5:=Tryz.underlying5
 a5:=Tryz.isAgg5
 z5:=Tryz.sizeOf5
 v5:=Tryz.zeroValue5
 t9:=Tryz.underlying9
 a9:=Tryz.isAgg9
 z9:=Tryz.sizeOf9
 v9:=Tryz.zeroValue9
 t22:=Tryz.underlying41
 a22:=Tryz.isAgg41
 z22:=Tryz.sizeOf41
 v22:=Tryz.zeroValue41
 t23:=Tryz.underlying41
 a23:=Tryz.isAgg41
 z23:=Tryz.sizeOf41
 v23:=Tryz.zeroValue41
 t25:=Tryz.underlying3
 a25:=Tryz.isAgg3
 z25:=Tryz.sizeOf3
 v25:=Tryz.zeroValue3
 t32:=Tryz.underlying199
 a32:=Tryz.isAgg199
 z32:=Tryz.sizeOf199
 v32:=Tryz.zeroValue199
 t35:=Tryz.underlying207
 a35:=Tryz.isAgg207
 z35:=Tryz.sizeOf207
 v35:=Tryz.zeroValue207
 t36:=Tryz.underlying208
 a36:=Tryz.isAgg208
 z36:=Tryz.sizeOf208
 v36:=Tryz.zeroValue208
 t41:=Tryz.underlying205
 a41:=Tryz.isAgg205
 z41:=Tryz.sizeOf205
 v41:=Tryz.zeroValue205
 t44:=Tryz.underlying214
 a44:=Tryz.isAgg214
 z44:=Tryz.sizeOf214
 v44:=Tryz.zeroValue214
 t46:=Tryz.underlying216
 a46:=Tryz.isAgg216
 z46:=Tryz.sizeOf216
 v46:=Tryz.zeroValue216
 t53:=Tryz.underlying224
 a53:=Tryz.isAgg224
 z53:=Tryz.sizeOf224
 v53:=Tryz.zeroValue224
 t57:=Tryz.underlying228
 a57:=Tryz.isAgg228
 z57:=Tryz.sizeOf228
 v57:=Tryz.zeroValue228
 t63:=Tryz.underlying233
 a63:=Tryz.isAgg233
 z63:=Tryz.sizeOf233
 v63:=Tryz.zeroValue233
 t64:=Tryz.underlying234
 a64:=Tryz.isAgg234
 z64:=Tryz.sizeOf234
 v64:=Tryz.zeroValue234}
end Go.Proofs
end
namespace Go.Proofs.YtbnfiigafobejaaGreat
section
open Go.RowKit
theorem aeM (a:Addr) (v:Value) (w:World) (h:w.cell? a=some v):(Go.method 410 284 (.pointer (some a)) "Len").run Tryz.prog w=.ok (248,v) w:=by
 have e:(Go.method 410 284 (.pointer (some a)) "Len").run Tryz.prog w=((loadVar 180 a) >>= λv=>pure (248,v):Sem (FuncId×Value)).run Tryz.prog w:=KB
 rw [e]
 simp [loadVar,isAgg,underlying,Tryz.underlying180,h,Result.andThen]
theorem ac0 (a:Addr) (v:Value) (w:World) (h:w.cell? a=some v):(Go.method 410 284 (.pointer (some a)) "Less").run Tryz.prog w=.ok (249,v) w:=by
 have e:(Go.method 410 284 (.pointer (some a)) "Less").run Tryz.prog w=((loadVar 180 a) >>= λv=>pure (249,v):Sem (FuncId×Value)).run Tryz.prog w:=KB
 rw [e]
 simp [loadVar,isAgg,underlying,Tryz.underlying180,h,Result.andThen]
theorem ac1 (a:Addr) (v:Value) (w:World) (h:w.cell? a=some v):(Go.method 410 284 (.pointer (some a)) "Swap").run Tryz.prog w=.ok (250,v) w:=by
 have e:(Go.method 410 284 (.pointer (some a)) "Swap").run Tryz.prog w=((loadVar 180 a) >>= λv=>pure (250,v):Sem (FuncId×Value)).run Tryz.prog w:=KB
 rw [e]
 simp [loadVar,isAgg,underlying,Tryz.underlying180,h,Result.andThen]
theorem ac2 (a:Addr) (w:World):(Go.method 410 284 (.pointer (some a)) "Push").run Tryz.prog w=.ok (253,.pointer (some a)) w:=KB
theorem aeN (a:Addr) (w:World):(Go.method 410 284 (.pointer (some a)) "Pop").run Tryz.prog w=.ok (252,.pointer (some a)) w:=KB
theorem aaM (a:Addr) (w:World):(Go.nilAhead 410 284 (.pointer (some a)) "Len").run Tryz.prog w=.ok (some false) w:=KB
theorem Vk (a:Addr) (w:World):(Go.nilAhead 410 284 (.pointer (some a)) "Less").run Tryz.prog w=.ok (some false) w:=KB
theorem N9 (a:Addr) (w:World):(Go.nilAhead 410 284 (.pointer (some a)) "Swap").run Tryz.prog w=.ok (some false) w:=KB
theorem ac3 (a:Addr) (w:World):(Go.nilAhead 410 284 (.pointer (some a)) "Push").run Tryz.prog w=.ok (some false) w:=KB
theorem aeO (a:Addr) (w:World):(Go.nilAhead 410 284 (.pointer (some a)) "Pop").run Tryz.prog w=.ok (some false) w:=KB
theorem Oa (A:Option Addr) (n c:Nat) (w:World) :
 Calls Tryz.prog 248 #[.slice A n c] w λe w'=>e=.returned (.int .i64 n)/\w'=w:=by
 go_enter Tryz.func248,Tryz.ntmps248
 go_wp2
 go_ret
 exact⟨rfl,rfl⟩
theorem Vl (g n c i j:Nat) (x y:Int) (w:World) (hi:i<n) (hj:j<n) (ci:w.cell? ⟨g,i,none⟩=some (.int .i64 x)) (cj:w.cell? ⟨g,j,none⟩=some (.int .i64 y)) :
 Calls Tryz.prog 249 #[.slice (some ⟨g,0,none⟩) n c,.int .i64 i,.int .i64 j] w λe w'=>e=.returned (.bool (decide (x<y)))/\∃m,w'=w.drewN m:=by
 have hi':(i:Int)<(n:Int):=zc
 have hj':(j:Int)<(n:Int):=zc
 go_enter Tryz.func249,Tryz.ntmps249
 go_wp2_with fail
 go_quiet (fail)
 go_wp2_with fail
 go_ret
 exact⟨rfl,_,rfl⟩
theorem Vm (g n c i j:Nat) (x y:Int) (w:World) (hi:i<n) (hj:j<n) (hij:i≠j) (ci:w.cell? ⟨g,i,none⟩=some (.int .i64 x)) (cj:w.cell? ⟨g,j,none⟩=some (.int .i64 y))
 (fi:w.frozen? ⟨g,i,none⟩=false) (fj:w.frozen? ⟨g,j,none⟩=false) :
 Calls Tryz.prog 250 #[.slice (some ⟨g,0,none⟩) n c,.int .i64 i,.int .i64 j] w λe w'=>e=.returned (.tuple #[])/\∃m,w'=((w.setCell ⟨g,i,none⟩ (.int .i64 y)).setCell ⟨g,j,none⟩ (.int .i64 x)).drewN m:=by
 have hi':(i:Int)<(n:Int):=zc
 have hj':(j:Int)<(n:Int):=zc
 go_enter Tryz.func250,Tryz.ntmps250
 go_wp2_with fail
 go_region
 go_end0
 exact⟨rfl,1,rfl⟩
theorem Yl:(Tryz.prog.info? 3).map (λi=>(i.zero,i.size,i.bytes))=some (some (.int .i64 0),1,8):=KB
theorem Ym (t o g n c:Nat) (x:Int) (w:World) (hc:n+1<=c) (ht:w.cell? ⟨t,o,none⟩=some (.slice (some ⟨g,0,none⟩) (n+1) c)) (hf:w.frozen? ⟨t,o,none⟩=false)
 (hx:w.cell? ⟨g,n,none⟩=some (.int .i64 x)) (hm:n+1<=1048576) :
 Calls Tryz.prog 252 #[.pointer (some ⟨t,o,none⟩)] w λe w'=>e=.returned (.iface 3 (.int .i64 x))/\w'=w.setCell ⟨t,o,none⟩ (.slice (some ⟨g,0,none⟩) n c):=by
 go_enter Tryz.func252,Tryz.ntmps252
 go_wp2_with fail
 go_ret
 exact⟨rfl,rfl⟩
theorem Td (x:Int) (w:World):(Instr.typeAssert (.iface 3 (.int .i64 x)) 20 3 false).run Tryz.prog w=.ok (.int .i64 x) w:=KB
theorem Qw (x:Int):∀u∈[Value.int .i64 x],u.oneCell'=true:=by intro u hu;simp at hu;subst hu;rfl
theorem Vn {t o:Nat} {v:Value} {w w1:World} {ob:Obj} (ht:w.cell? ⟨t,o,none⟩=some v) (fU:t<w.heap.size) {row:Option Nat} (bX:row≠some t) (hg:(w.alloc ob).drew.grownBy w1 row):w1.cell? ⟨t,o,none⟩=some v:=by
 rw [hg.cell_far ⟨t,o,none⟩ (by show t<(w.alloc ob).heap.size;simp;omega) (λe=>bX e.symm)]
 exact (World.cell?_alloc_lt w ob ⟨t,o,none⟩ fU).trans ht
theorem Vo {t o:Nat} {w w1:World} {ob:Obj} (hf:w.frozen? ⟨t,o,none⟩=false) (fU:t<w.heap.size) {row:Option Nat} (bX:row≠some t) (hg:(w.alloc ob).drew.grownBy w1 row):w1.frozen? ⟨t,o,none⟩=false:=by
 rw [hg.frozen_far ⟨t,o,none⟩ (by show t<(w.alloc ob).heap.size;simp;omega) (λe=>bX e.symm)]
 exact (World.frozen?_alloc_old w ob ⟨t,o,none⟩ (Nat.ne_of_lt fU)).trans hf
theorem Vp (t o base n:Nat) (v:Value) (xs:List Value) (x:Int) (w:World) (ht:w.cell? ⟨t,o,none⟩=some v) (hf:w.frozen? ⟨t,o,none⟩=false)
 (kB:w.ownsRow base 3 1 v n xs) (bX:v.ownBlock≠some t) (hm:n+1<=1048576) (hbase:base<=w.heap.size) :
 Calls Tryz.prog 253 #[.pointer (some ⟨t,o,none⟩),.iface 3 (.int .i64 x)] w λe w'=>e=.returned (.tuple #[]) ∧
  ∃g cap w1,w1.ownsRow base 3 1 (.slice (some ⟨g,0,none⟩) (n+1) cap) (n+1) (xs++[.int .i64 x])/\w.grownBy w1 v.ownBlock/\(v.ownBlock=some g\/w.heap.size<=g) ∧
    w'=w1.setCell ⟨t,o,none⟩ (.slice (some ⟨g,0,none⟩) (n+1) cap):=by
 obtain⟨i0,hi0,hz0,hz1,hz2⟩:=info_parts Yl
 have fU:t<w.heap.size:=by
  rcases Nat.lt_or_ge t w.heap.size with h|h
  ·exact h
  simp [World.cell?,Array.getElem?_eq_none h] at ht
 have hta:=Td
 go_enter Tryz.func253,Tryz.ntmps253
 go_wp2_with fail
 go_region_law (refine step_append_lies _ rfl (.tmp 7) (.tmp 10) 180 rfl base 3 i0 (.int .i64 0) 1 8 Tryz.underlying180 hi0 hz0 hz1 hz2 rfl Pd v n xs (by simp [Act.eval]) (kB.alloc _) ⟨w.heap.size,0,none⟩ 1 1 [.int .i64 x] (by simp [Act.eval]) rfl (cell_one_new _ _ _) (Qw x) Pd (by unfold maxLen;omega) zc (by simp;omega) (w.heap.size+1) agU ?_;intro g cap w1 hown1 hg1 Te agD;have c1:w1.cell? ⟨t,o,none⟩=some v:=Vn ht fU bX hg1;have f1:w1.frozen? ⟨t,o,none⟩=false:=Vo hf fU bX hg1)
 all_goals
  go_end0
  refine⟨rfl,g,cap,w1,hown1,(World.grownBy_alloc w (.cells #[.int .i64 x] 3) _).trans ⟨hg1.os,hg1.tape,hg1.output,hg1.size,hg1.block⟩,?_,rfl⟩
  rcases Te with h|h
  ·exact .inl h
  exact .inr zc
end
end Go.Proofs.YtbnfiigafobejaaGreat
section
namespace Go.Proofs.YtbnfiigafobejaaGreat.bK
def at_ (l:List Int) (i:Nat):Int:=l.getD i 0
def swp (l:List Int) (i j:Nat):List Int:=(l.set i (at_ l j)).set j (at_ l i)
def Hp (n:Nat) (l:List Int):Prop:=∀i,0<i->i<n->at_ l ((i-1) / 2)<=at_ l i
def Ew (l:List Int):Prop:=∀a b,a<l.length->b<l.length->at_ l a=at_ l b->a=b
def Kl (l:List Int) (j:Nat):Prop:=
 (∀i,0<i->i<l.length->i≠j->at_ l ((i-1) / 2)<=at_ l i)/\(∀i,0<i->i<l.length->(i-1) / 2=j->0<j->at_ l ((j-1) / 2)<=at_ l i)
def CC (n:Nat) (l:List Int) (i:Nat):Prop:=
 (∀k,0<k->k<n->(k-1) / 2≠i->at_ l ((k-1) / 2)<=at_ l k)/\(∀k,0<k->k<n->(k-1) / 2=i->0<i->at_ l ((i-1) / 2)<=at_ l k)
structure Same (l l':List Int):Prop where
 len:l'.length=l.length
 mem:∀x,x∈l'↔x∈l
 inj:Ew l->Ew l'
theorem zY {l:List Int} {x:Int}:x∈l↔∃k,k<l.length/\at_ l k=x:=by
 rw [ahA]
 constructor
 ·rintro⟨i,h,e⟩
  exact⟨i,h,by simp [at_,List.getD_eq_getElem?_getD,h,e]⟩
 rintro⟨i,h,e⟩
 exact⟨i,h,by simpa [at_,List.getD_eq_getElem?_getD,h] using e⟩
theorem qR (l:List Int) (i j:Nat):(swp l i j).length=l.length:=by simp [swp]
def sw (i j k:Nat):Nat:=if k=j then i else if k=i then j else k
theorem oM {l:List Int} {i j:Nat} (hi:i<l.length) (hj:j<l.length) (k:Nat):at_ (swp l i j) k=at_ l (sw i j k):=by
 unfold swp at_ sw
 grind
theorem Tf (i j k:Nat):sw i j (sw i j k)=k:=by unfold sw;(repeat' split)<;>omega
theorem M0 {i j k n:Nat} (hi:i<n) (hj:j<n) (hk:k<n):sw i j k<n:=by unfold sw;(repeat' split)<;>omega
theorem Same.refl (l:List Int):Same l l:=⟨rfl,λ_=>Iff.rfl,λh=>h⟩
theorem Same.trans {l l' l'':List Int} (h:Same l l') (k:Same l' l''):Same l l'':=⟨k.len.trans h.len,λx=>(k.mem x).trans (h.mem x),λi=>k.inj (h.inj i)⟩
theorem Same.swp {l:List Int} {i j:Nat} (hi:i<l.length) (hj:j<l.length):Same l (swp l i j):=by
 refine⟨qR l i j,λx=>?_,λinj a b ha hb e=>?_⟩
 ·rw [zY,zY,qR]
  constructor
  ·rintro⟨k,hk,e⟩
   exact⟨sw i j k,M0 hi hj hk,by rw [←oM hi hj];exact e⟩
  rintro⟨k,hk,e⟩
  exact⟨sw i j k,M0 hi hj hk,by rw [oM hi hj,Tf];exact e⟩
 rw [qR] at ha hb
 rw [oM hi hj,oM hi hj] at e
 have:=inj _ _ (M0 hi hj ha) (M0 hi hj hb) e
 rw [←Tf i j a,this,Tf]
theorem Vq {l:List Int} {j:Nat} (h:Kl l j) (he:j=0\/at_ l ((j-1) / 2)<=at_ l j):Hp l.length l:=by
 intro i h0 hi
 by_cases e:i=j
 ·subst e
  rcases he with he|he
  ·omega
  exact he
 exact h.1 i h0 hi e
theorem abP {l:List Int} {j:Nat} (h:Kl l j) (h0:0<j) (hj:j<l.length) (fU:at_ l j<at_ l ((j-1) / 2)):Kl (swp l ((j-1) / 2) j) ((j-1) / 2):=by
 have hp:(j-1) / 2<l.length:=zc
 have bX:(j-1) / 2≠j:=zc
 refine⟨λi i0 il ine=>?_,λi i0 il ip p0=>?_⟩
 ·rw [qR] at il
  rw [oM hp hj,oM hp hj]
  by_cases e1:i=j
  ·subst e1
   rw [show sw ((i-1) / 2) i ((i-1) / 2)=i by unfold sw;rw [agV bX,agW rfl],show sw ((i-1) / 2) i i=(i-1) / 2 by unfold sw;rw [agW rfl]]
   omega
  rw [show sw ((j-1) / 2) j i=i by unfold sw;rw [agV e1,agV ine]]
  by_cases e2:(i-1) / 2=j
  ·rw [show sw ((j-1) / 2) j ((i-1) / 2)=(j-1) / 2 by unfold sw;rw [agW e2]]
   exact h.2 i i0 il e2 h0
  by_cases e3:(i-1) / 2=(j-1) / 2
  ·rw [show sw ((j-1) / 2) j ((i-1) / 2)=j by unfold sw;rw [agV e2,agW e3]]
   have:=h.1 i i0 il e1
   rw [e3] at this
   omega
  rw [show sw ((j-1) / 2) j ((i-1) / 2)=(i-1) / 2 by unfold sw;rw [agV e2,agV e3]]
  exact h.1 i i0 il e1
 rw [qR] at il
 rw [oM hp hj,oM hp hj]
 have a1:=h.1 ((j-1) / 2) p0 hp bX
 rw [show sw ((j-1) / 2) j (((j-1) / 2-1) / 2)=((j-1) / 2-1) / 2 by unfold sw;rw [agV zc,agV zc]]
 by_cases e1:i=j
 ·subst e1
  rw [show sw ((i-1) / 2) i i=(i-1) / 2 by unfold sw;rw [agW rfl]]
  exact a1
 have a2:=h.1 i i0 il e1
 rw [show sw ((j-1) / 2) j i=i by unfold sw;rw [agV e1,agV zc]]
 rw [ip] at a2
 omega
theorem Dg {n:Nat} {l:List Int} {i:Nat} (h:CC n l i) (h1:2*i+1<n->at_ l i<=at_ l (2*i+1)) (h2:2*i+2<n->at_ l i<=at_ l (2*i+2)):Hp n l:=by
 intro k k0 kn
 by_cases e:(k-1) / 2=i
 ·grind
 exact h.1 k k0 kn e
theorem Ey {n:Nat} {l:List Int} {i j:Nat} (h:CC n l i) (hj:j=2*i+1\/j=2*i+2) (hjn:j<n) (hn:n<=l.length)
 (h1:at_ l j<=at_ l (2*i+1)) (h2:2*i+2<n->at_ l j<=at_ l (2*i+2)) (fU:at_ l j<at_ l i):CC n (swp l i j) j:=by
 have hi:i<l.length:=zc
 have hjl:j<l.length:=zc
 refine⟨λk k0 kn kne=>?_,λk k0 kn ke j0=>?_⟩
 ·rw [oM hi hjl,oM hi hjl]
  by_cases e1:(k-1) / 2=i
  ·rw [e1,show sw i j i=j by unfold sw;rw [agV zc,agW rfl]]
   by_cases e2:k=j
   ·rw [e2,show sw i j j=i by unfold sw;rw [agW rfl]];omega
   rw [show sw i j k=k by unfold sw;rw [agV e2,agV zc]]
   grind
  rw [show sw i j ((k-1) / 2)=(k-1) / 2 by unfold sw;rw [agV kne,agV e1]]
  by_cases e2:k=i
  ·rw [e2,show sw i j i=j by unfold sw;rw [agV zc,agW rfl],←e2]
   have hjk:(j-1) / 2=i:=zc
   rw [e2]
   exact h.2 j zc hjn hjk zc
  rw [show sw i j k=k by unfold sw;rw [agV zc,agV e2]]
  exact h.1 k k0 kn e1
 rw [oM hi hjl,oM hi hjl]
 rw [show (j-1) / 2=i by omega,show sw i j i=j by unfold sw;rw [agV zc,agW rfl],show sw i j k=k by unfold sw;rw [agV zc,agV zc]]
 have:=h.1 k k0 kn zc
 rw [ke] at this
 exact this
theorem aS {n:Nat} {l:List Int} (h:Hp n l):∀k,k<n->at_ l 0<=at_ l k:=by
 intro k
 induction k using Nat.strongRecOn with
 |_ k ih=>
   intro hk
   rcases Nat.eq_zero_or_pos k with e|e
   ·rw [e];omega
   have a1:=ih ((k-1) / 2) zc zc
   have a2:=h k e hk
   omega
theorem Tg {n:Nat} {l:List Int} (h:Hp (n+1) l) (hl:l.length=n+1):CC n (swp l 0 n) 0:=by
 refine⟨λk k0 kn kne=>?_,λk _ _ _ h0=>zc⟩
 rw [oM zc zc,oM zc zc]
 rw [show sw 0 n ((k-1) / 2)=(k-1) / 2 by unfold sw;rw [agV zc,agV kne],show sw 0 n k=k by unfold sw;rw [agV zc,agV zc]]
 exact h k k0 zc
theorem Yn {l:List Int} (h:Hp l.length l) (x:Int):Kl (l++[x]) l.length:=by
 have e:∀k,k<l.length->at_ (l++[x]) k=at_ l k:=λk hk=>by
  unfold at_
  grind
 refine⟨λi i0 il ine=>?_,λi i0 il ip=>?_⟩
 ·rw [ag4,ahM] at il
  rw [e _ zc,e _ zc]
  exact h i i0 zc
 grind
theorem abQ {l:List Int} {n:Nat} (hl:l.length=n+1) (hi:Ew l) (x:Int):x∈l.take n↔x∈l/\x≠at_ l n:=by
 constructor
 ·intro h
  refine⟨List.mem_of_mem_take h,?_⟩
  rintro rfl
  obtain⟨k,hk,e⟩:=ahA.1 h
  simp at hk e
  have:=hi k n zc zc (by simp [at_,List.getD_eq_getElem?_getD,show k<l.length by omega,e])
  omega
 rintro⟨h,bX⟩
 obtain⟨k,hk,e⟩:=zY.1 h
 have:k≠n:=by rintro rfl;exact bX e.symm
 refine ahA.2 ⟨k,by simp;omega,?_⟩
 simp only [at_,ahy,hk,ag9,Option.getD_some] at e
 simpa using e
theorem FH {l:List Int} {n k:Nat} (hk:k<n):at_ (l.take n) k=at_ l k:=by simp [at_,List.getD_eq_getElem?_getD,hk]
theorem abR {l:List Int} {n:Nat} (h:Hp n l):Hp n (l.take n):=λi i0 hi=>by rw [FH hi,FH zc];exact h i i0 hi
theorem Yo {l:List Int} {n:Nat} (h:Ew l):Ew (l.take n):=λa b ha hb e=>by
 simp at ha hb
 rw [FH zc,FH zc] at e
 exact h a b zc zc e
end Go.Proofs.YtbnfiigafobejaaGreat.bK
end
namespace Go.Proofs.YtbnfiigafobejaaGreat
section
open Go.RowKit bK
def bH (l:List Int):List Value:=l.map (Value.int .i64)
theorem tT (g n c a b:Nat) (i j:Int) (hi:i=(a:Int)) (hj:j=(b:Int)) (x y:Int) (w:World) (ha:a<n) (hb:b<n) (ci:w.cell? ⟨g,a,none⟩=some (.int .i64 x)) (cj:w.cell? ⟨g,b,none⟩=some (.int .i64 y)) :
 Calls Tryz.prog 249 #[.slice (some ⟨g,0,none⟩) n c,.int .i64 i,.int .i64 j] w λe w'=>e=.returned (.bool (decide (x<y)))/\∃m,w'=w.drewN m:=by
 grind [Vl]
structure HW (t o g c base:Nat) (l:List Int) (w:World):Prop where
 cell:w.cell? ⟨t,o,none⟩=some (.slice (some ⟨g,0,none⟩) l.length c)
 own:w.ownsRow base 3 1 (.slice (some ⟨g,0,none⟩) l.length c) l.length (bH l)
 ne:t≠g
 lt:t<w.heap.size
theorem Yp {l:List Int} {k:Nat} (hk:k<l.length):(bH l)[k]?=some (.int .i64 (at_ l k)):=by
 simp [bH,at_,List.getD_eq_getElem?_getD,hk]
section hw
variable {t o g c base:Nat} {l:List Int} {w:World}
theorem HW.at (h:HW t o g c base l w) {k:Nat} (hk:k<l.length):w.cell? ⟨g,k,none⟩=some (.int .i64 (at_ l k)):=by
 rw [h.own.cellAt k zc]
 exact Yp hk
theorem HW.drewN (h:HW t o g c base l w) (m:Nat):HW t o g c base l (w.drewN m):=⟨h.cell,h.own,h.ne,h.lt⟩
theorem HW.swap (h:HW t o g c base l w) (i j:Nat) :
 HW t o g c base (swp l i j) ((w.setCell ⟨g,i,none⟩ (.int .i64 (at_ l j))).setCell ⟨g,j,none⟩ (.int .i64 (at_ l i))):=by
 have e1:bH (swp l i j)=((bH l).set i (.int .i64 (at_ l j))).set j (.int .i64 (at_ l i)):=by
  simp [bH,swp,List.map_set]
 refine⟨?_,?_,h.ne,by simpa [World.setCell] using h.lt⟩
 ·rw [qR,World.cell?_setCell_other _ _ _ _ (λe=>h.ne (by injection e with e;exact e.symm)),World.cell?_setCell_other _ _ _ _ (λe=>h.ne (by injection e with e;exact e.symm))]
  exact h.cell
 rw [qR,e1]
 exact ((h.own.stored i _).1.stored j _).1
end hw
theorem tU (t o g c base:Nat) (l:List Int) (a b:Nat) (i j:Int) (hi:i=(a:Int)) (hj:j=(b:Int)) (w:World) (h:HW t o g c base l w) (ha:a<l.length) (hb:b<l.length) (bX:a≠b) :
 Calls Tryz.prog 250 #[.slice (some ⟨g,0,none⟩) l.length c,.int .i64 i,.int .i64 j] w λe w'=>e=.returned (.tuple #[])/\HW t o g c base (swp l a b) w'/\cJ (·=g) w w':=by
 subst hi hj
 refine (Vm g l.length c a b (at_ l a) (at_ l b) w ha hb bX (h.at ha) (h.at hb) (h.own.frozenAt a) (h.own.frozenAt b)).mono λe w' ⟨he,m,hw⟩=>⟨he,?_,?_⟩
 ·rw [hw];exact (h.swap a b).drewN m
 rw [hw];exact (((cJ.refl (·=g) w).setCell (p:=⟨g,a,none⟩) (.inr rfl) _).setCell (p:=⟨g,b,none⟩) (.inr rfl) _).drewN m
structure Looks (a:Addr) (V:Value):Prop where
 less:∀w:World,w.cell? a=some V->(Go.method 410 284 (.pointer (some a)) "Less").run Tryz.prog w=.ok (249,V) w
 swap:∀w:World,w.cell? a=some V->(Go.method 410 284 (.pointer (some a)) "Swap").run Tryz.prog w=.ok (250,V) w
 len:∀w:World,w.cell? a=some V->(Go.method 410 284 (.pointer (some a)) "Len").run Tryz.prog w=.ok (248,V) w
theorem looks (a:Addr) (V:Value):Looks a V:=⟨ac0 a V,ac1 a V,aeM a V⟩
theorem abS (t o g c base:Nat) (l:List Int) (j:Nat) (w:World) (h:HW t o g c base l w) (hj:j<l.length) (hu:Kl l j) (hm:l.length<=1048576) :
 Calls Tryz.prog 224 #[.iface 284 (.pointer (some ⟨t,o,none⟩)),.int .i64 j] w λe w'=>e=.returned (.tuple #[]) ∧
  ∃l',Same l l'/\Hp l'.length l'/\HW t o g c base l' w'/\cJ (·=g) w w':=by
 have L:=looks ⟨t,o,none⟩ (.slice (some ⟨g,0,none⟩) l.length c)
 have nl:=Vk ⟨t,o,none⟩
 have ns:=N9 ⟨t,o,none⟩
 go_enter Tryz.func224,Tryz.ntmps224
 go_wp2_with fail
 go_loopw [1] (λv wr=>∃(j:Nat) (l':List Int),v=.int .i64 j/\j<l'.length/\Same l l'/\Kl l' j/\HW t o g c base l' wr/\cJ (·=g) w wr) (λv _=>(intOf v).toNat)
 case atStart=>exact⟨j,l,rfl,hj,Same.refl l,hu,h,cJ.refl _ _⟩
 case round=>
  obtain⟨j,l',rfl,hj',hs,hu',hw,hk⟩:=hrel
  have hc:=hw.cell
  rw [hs.len] at hc
  have LL:=L.less wr hc
  by_cases h0:j=0
  ·subst h0
   have HU:=Lib.hid hu'
   clear hu'
   go_wp2_with fail
   go_end0
   exact⟨rfl,l',hs,Vq HU.out (.inl rfl),hw,hk⟩
  have uJ:1<=j:=zc
  have hj2:j<=1048576:=by have:=hs.len;omega
  have hi1:(j-1) / 2<l'.length:=zc
  have hjn:((((j:Int)-1) / 2) == (j:Int))=false:=by rw [beq_eq_false_iff_ne];omega
  have HU:=Lib.hid hu'
  clear hu'
  go_wp2_with fail
  refine (tT g l.length c j ((j-1) / 2) _ _ rfl zc (at_ l' j) (at_ l' ((j-1) / 2)) _ (by rw [←hs.len];exact hj') (by rw [←hs.len];exact hi1) (hw.at hj') (hw.at hi1)).mono ?_
  rintro e w1 ⟨rfl,m,rfl⟩
  have hw1:=hw.drewN m
  by_cases fU:at_ l' j<at_ l' ((j-1) / 2)
  ·have LS:=L.swap (wr.drewN m) hc
   go_wp2_with fail
   have HL:=Lib.hid hs.len
   have sw:=tU t o g c base l' ((j-1) / 2) j
   rw [hs.len] at sw
   refine (sw _ _ zc rfl _ hw1 (by have:=HL.out;omega) (by have:=HL.out;omega) zc).mono ?_
   rintro e w2 ⟨rfl,hw2,hk2⟩
   clear sw
   go_wp2_with fail
   go_roundw
   case rel=>exact⟨(j-1) / 2,_,by go_num,by rw [qR];exact hi1,hs.trans (Same.swp hi1 hj'),abP HU.out uJ hj' fU,hw2,(hk.drewN m).trans hk2⟩
   case measure=>simp [intOf];omega
  have hnl:decide (at_ l' j<at_ l' ((j-1) / 2))=false:=by simpa using fU
  go_wp2_with fail
  go_end0
  exact⟨rfl,l',hs,Vq HU.out (.inr zc),hw1,hk.drewN m⟩
theorem Ob {l:List Int} {i j n k:Nat} (hi:i<l.length) (hj:j<l.length) (hin:i<n) (hjn:j<n) (hk:n<=k):at_ (swp l i j) k=at_ l k:=by
 grind [oM,sw]
theorem Vr (t o g c base n:Nat) (l:List Int) (w:World) (h:HW t o g c base l w) (hn:n<=l.length) (hd:CC n l 0) (hm:l.length<=1048576) :
 Calls Tryz.prog 225 #[.iface 284 (.pointer (some ⟨t,o,none⟩)),.int .i64 0,.int .i64 n] w λe w'=>(∃b,e=.returned (.bool b)) ∧
  ∃l',Same l l'/\Hp n l'/\(∀k,n<=k->at_ l' k=at_ l k)/\HW t o g c base l' w'/\cJ (·=g) w w':=by
 have L:=looks ⟨t,o,none⟩ (.slice (some ⟨g,0,none⟩) l.length c)
 have nl:=Vk ⟨t,o,none⟩
 have ns:=N9 ⟨t,o,none⟩
 go_enter Tryz.func225,Tryz.ntmps225
 go_wp2_with fail
 go_loopw [7] (λv wr=>∃(i:Nat) (l':List Int),v=.int .i64 i/\i<=n/\Same l l'/\CC n l' i/\Hid (∀k,n<=k->at_ l' k=at_ l k)/\HW t o g c base l' wr/\cJ (·=g) w wr) (λv _=>n-(intOf v).toNat)
 case atStart=>exact⟨0,l,rfl,ag0 _,Same.refl l,hd,Lib.hid (λ_ _=>rfl),h,cJ.refl _ _⟩
 case round=>
  obtain⟨i,l',rfl,hin,hs,hd',Dh,hw,hk⟩:=hrel
  have hc:=hw.cell
  rw [hs.len] at hc
  have HL:=Lib.hid hs.len
  have hn1:n<=1048576:=zc
  have hnl:n<=l'.length:=by rw [HL.out];exact hn
  have HD:=Lib.hid hd'
  clear hd'
  by_cases h1:2*i+1<n
  ·have h1a:(2*(i:Int)+1)<(n:Int):=zc
   by_cases h2:2*i+2<n
   ·have h2a:(2*(i:Int)+1+1)<(n:Int):=zc
    have LL:=L.less wr hc
    go_wp2_with fail
    refine (tT g l.length c (2*i+2) (2*i+1) _ _ zc zc (at_ l' (2*i+2)) (at_ l' (2*i+1)) _ zc zc (hw.at zc) (hw.at zc)).mono ?_
    rintro e w1 ⟨rfl,m,rfl⟩
    have hw1:=hw.drewN m
    have hk1:=hk.drewN m
    have LL:=L.less (wr.drewN m) hc
    clear hw hk
    by_cases h3:at_ l' (2*i+2)<at_ l' (2*i+1)
    ·go_wp2_with fail
     refine (tT g l.length c (2*i+2) i _ _ zc zc (at_ l' (2*i+2)) (at_ l' i) _ zc zc (hw1.at zc) (hw1.at zc)).mono ?_
     rintro e w2 ⟨rfl,m2,rfl⟩
     have hw2:=hw1.drewN m2
     have hk2:=hk1.drewN m2
     rw [World.drewN_drewN] at hw2 hk2
     by_cases h4:at_ l' (2*i+2)<at_ l' i
     ·have LS:=L.swap _ (hw2.cell.trans (by rw [HL.out]))
      go_wp2_with fail
      have sw:=tU t o g c base l' i (2*i+2)
      rw [hs.len] at sw
      refine (sw _ _ rfl zc _ hw2 zc zc zc).mono ?_
      rintro e w3 ⟨rfl,hw3,hk3⟩
      clear sw
      go_wp2_with fail
      go_roundw
      case rel=>exact⟨2*i+2,_,by go_num,zc,hs.trans (Same.swp zc zc),Ey HD.out zc zc hnl zc (λ_=>zc) h4,Lib.hid (λk hk=>(Ob zc zc zc zc hk).trans (Dh.out k hk)),hw3,hk2.trans hk3⟩
      case measure=>simp [intOf];omega
     have h4a:decide (at_ l' (2*i+2)<at_ l' i)=false:=by simpa using h4
     go_wp2_with fail
     go_ret
     exact⟨⟨_,rfl⟩,l',hs,Dg HD.out (λ_=>zc) (λ_=>zc),Dh.out,hw2,hk2⟩
    have h3a:decide (at_ l' (2*i+2)<at_ l' (2*i+1))=false:=by simpa using h3
    go_wp2_with fail
    refine (tT g l.length c (2*i+1) i _ _ zc zc (at_ l' (2*i+1)) (at_ l' i) _ zc zc (hw1.at zc) (hw1.at zc)).mono ?_
    rintro e w2 ⟨rfl,m2,rfl⟩
    have hw2:=hw1.drewN m2
    have hk2:=hk1.drewN m2
    rw [World.drewN_drewN] at hw2 hk2
    by_cases h4:at_ l' (2*i+1)<at_ l' i
    ·have LS:=L.swap _ (hw2.cell.trans (by rw [HL.out]))
     go_wp2_with fail
     have sw:=tU t o g c base l' i (2*i+1)
     rw [hs.len] at sw
     refine (sw _ _ rfl zc _ hw2 zc zc zc).mono ?_
     rintro e w3 ⟨rfl,hw3,hk3⟩
     clear sw
     go_wp2_with fail
     go_roundw
     case rel=>exact⟨2*i+1,_,by go_num,zc,hs.trans (Same.swp zc zc),Ey HD.out zc zc hnl zc (λ_=>zc) h4,Lib.hid (λk hk=>(Ob zc zc zc zc hk).trans (Dh.out k hk)),hw3,hk2.trans hk3⟩
     case measure=>simp [intOf];omega
    have h4a:decide (at_ l' (2*i+1)<at_ l' i)=false:=by simpa using h4
    go_wp2_with fail
    go_ret
    exact⟨⟨_,rfl⟩,l',hs,Dg HD.out (λ_=>zc) (λ_=>zc),Dh.out,hw2,hk2⟩
   have h2a:decide ((2*(i:Int)+1+1)<(n:Int))=false:=by simp;omega
   have hw1:=hw
   have hk1:=hk
   have LL:=L.less wr hc
   clear hw hk
   go_wp2_with fail
   refine (tT g l.length c (2*i+1) i _ _ zc zc (at_ l' (2*i+1)) (at_ l' i) _ zc zc (hw1.at zc) (hw1.at zc)).mono ?_
   rintro e w2 ⟨rfl,m2,rfl⟩
   have hw2:=hw1.drewN m2
   have hk2:=hk1.drewN m2
   by_cases h4:at_ l' (2*i+1)<at_ l' i
   ·have LS:=L.swap _ (hw2.cell.trans (by rw [HL.out]))
    go_wp2_with fail
    have sw:=tU t o g c base l' i (2*i+1)
    rw [hs.len] at sw
    refine (sw _ _ rfl zc _ hw2 zc zc zc).mono ?_
    rintro e w3 ⟨rfl,hw3,hk3⟩
    clear sw
    go_wp2_with fail
    go_roundw
    case rel=>exact⟨2*i+1,_,by go_num,zc,hs.trans (Same.swp zc zc),Ey HD.out zc zc hnl zc (λ_=>zc) h4,Lib.hid (λk hk=>(Ob zc zc zc zc hk).trans (Dh.out k hk)),hw3,hk2.trans hk3⟩
    case measure=>simp [intOf];omega
   have h4a:decide (at_ l' (2*i+1)<at_ l' i)=false:=by simpa using h4
   go_wp2_with fail
   go_ret
   exact⟨⟨_,rfl⟩,l',hs,Dg HD.out (λ_=>zc) (λ_=>zc),Dh.out,hw2,hk2⟩
  have h1a:((n:Int)<=2*(i:Int)+1):=zc
  go_wp2_with fail
  go_ret
  exact⟨⟨_,rfl⟩,l',hs,Dg HD.out (λh=>agY h h1) (λh=>agY h (by omega)),Dh.out,hw,hk⟩
theorem Km (g n c i:Nat) (x:Int) (w:World) (hi:i<n) (ci:w.cell? ⟨g,i,none⟩=some (.int .i64 x)) (fi:w.frozen? ⟨g,i,none⟩=false) :
 Calls Tryz.prog 250 #[.slice (some ⟨g,0,none⟩) n c,.int .i64 i,.int .i64 i] w λe w'=>e=.returned (.tuple #[])/\∃m,w'=((w.setCell ⟨g,i,none⟩ (.int .i64 x)).setCell ⟨g,i,none⟩ (.int .i64 x)).drewN m:=by
 have hi':(i:Int)<(n:Int):=zc
 go_enter Tryz.func250,Tryz.ntmps250
 go_wp2_with fail
 go_region
 go_end0
 exact⟨rfl,1,rfl⟩
theorem Kn (t o g c base n:Nat) (l:List Int) (hl:l.length=n+1) (j:Int) (hj:j=(n:Int)) (w:World) (h:HW t o g c base l w) :
 Calls Tryz.prog 250 #[.slice (some ⟨g,0,none⟩) (n+1) c,.int .i64 0,.int .i64 j] w λe w'=>e=.returned (.tuple #[])/\HW t o g c base (swp l 0 n) w'/\cJ (·=g) w w':=by
 subst hj
 by_cases h0:n=0
 ·subst h0
  have:=Km g 1 c 0 (at_ l 0) w zc (h.at zc) (h.own.frozenAt 0)
  refine this.mono λe w' ⟨he,m,hw⟩=>⟨he,?_,?_⟩
  ·rw [hw];exact (h.swap 0 0).drewN m
  rw [hw];exact (((cJ.refl (·=g) w).setCell (p:=⟨g,0,none⟩) (.inr rfl) _).setCell (p:=⟨g,0,none⟩) (.inr rfl) _).drewN m
 grind [tU]
theorem HW.pop {t o g c base n:Nat} {l:List Int} {w:World} (h:HW t o g c base l w) (hl:l.length=n+1):w.ownsRow base 3 1 (.slice (some ⟨g,0,none⟩) n c) n (bH (l.take n)):=by
 have e:bH l=bH (l.take n)++bH (l.drop n):=by simp only [bH,←ahv,List.take_append_drop]
 have h1:=h.own
 rw [e,hl] at h1
 exact ownsRow_pop (by simp [bH];omega) h1
theorem HW.cap {t o g c base:Nat} {l:List Int} {w:World} (h:HW t o g c base l w):l.length<=c:=by
 rcases h.own.2 with ⟨e,_⟩|⟨g',cap,cur,e,_,_,r,_⟩
 all_goals grind
theorem Yq (t o g c base n:Nat) (l:List Int) (w:World) (h:HW t o g c base l w) (hl:l.length=n+1) (hp:Hp (n+1) l) (hi:Ew l) (hm:n+1<=1048576) (hf:w.frozen? ⟨t,o,none⟩=false) :
 Calls Tryz.prog 223 #[.iface 284 (.pointer (some ⟨t,o,none⟩))] w λe w'=>e=.returned (.iface 3 (.int .i64 (at_ l 0))) ∧
  ∃l' w1,l'.length=n/\Hp n l'/\Ew l'/\(∀x,x∈l'↔x∈l/\x≠at_ l 0)/\w1.ownsRow base 3 1 (.slice (some ⟨g,0,none⟩) n c) n (bH l')/\cJ (·=g) w w1 ∧
    w'=w1.setCell ⟨t,o,none⟩ (.slice (some ⟨g,0,none⟩) n c):=by
 have L:=looks ⟨t,o,none⟩ (.slice (some ⟨g,0,none⟩) l.length c)
 have nn:=aaM ⟨t,o,none⟩
 have ns:=N9 ⟨t,o,none⟩
 have np:=aeO ⟨t,o,none⟩
 have mp:=aeN ⟨t,o,none⟩
 have LN:=L.len w h.cell
 have LS:=L.swap w h.cell
 have HL:=Lib.hid hl
 rw [hl] at LN LS
 clear hl
 go_enter Tryz.func223,Tryz.ntmps223
 go_wp2_with fail
 refine (Oa _ _ _ _).mono ?_
 rintro e w0 ⟨rfl,rfl⟩
 go_wp2_with fail
 refine (Kn t o g c base n l HL.out _ zc _ h).mono ?_
 rintro e w1 ⟨rfl,hw1,hk1⟩
 go_wp2_with fail
 have hd:=Vr t o g c base n (swp l 0 n) w1 hw1 (by rw [qR,HL.out];omega) (Tg hp HL.out) (by rw [qR,HL.out];exact hm)
 refine (hd.mono ?_)
 rintro e w2 ⟨⟨bb,rfl⟩,l',hs,dI,Dh,hw2,hk2⟩
 clear hd
 have jv:l'.length=n+1:=by rw [hs.len,qR,HL.out]
 have hcell:=hw2.cell
 rw [jv] at hcell
 have hcap:=hw2.cap
 have htlt:=h.lt
 have hf2:w2.frozen? ⟨t,o,none⟩=false:=by
  rw [(hk1.trans hk2).frozen (p:=⟨t,o,none⟩) htlt h.ne]
  exact hf
 have hlast:at_ l' n=at_ l 0:=by
  rw [Dh n (ag5 _),oM (by rw [HL.out];omega) (by rw [HL.out];omega)]
  simp [sw]
 have hx:=hw2.at (k:=n) zc
 rw [hlast] at hx
 have Ti:=Lib.hid jv
 have aeP:=Lib.hid hlast
 clear jv hlast
 go_wp2_with fail
 refine (Ym t o g n c (at_ l 0) w2 (by have:=Ti.out;omega) hcell hf2 hx hm).mono ?_
 rintro e w3 ⟨rfl,rfl⟩
 go_wp2_with fail
 go_ret
 have sm:=(Same.swp (l:=l) (i:=0) (j:=n) (by rw [HL.out];omega) (by rw [HL.out];omega)).trans hs
 refine⟨rfl,l'.take n,w2,by simp [Ti.out],abR dI,Yo (sm.inj hi),λx=>?_,hw2.pop Ti.out,hk1.trans hk2,rfl⟩
 rw [abQ Ti.out (sm.inj hi),sm.mem,aeP.out]
theorem Gl (l:List Int) (x:Int):bH l++[.int .i64 x]=bH (l++[x]):=by simp [bH]
theorem Vs (t o base:Nat) (v:Value) (l:List Int) (x:Int) (w:World) (ht:w.cell? ⟨t,o,none⟩=some v) (hf:w.frozen? ⟨t,o,none⟩=false) (kB:w.ownsRow base 3 1 v l.length (bH l))
 (bX:v.ownBlock≠some t) (hm:l.length+1<=1048576) (hbase:base<=w.heap.size) (hp:Hp l.length l) (htl:t<w.heap.size) :
 Calls Tryz.prog 221 #[.iface 284 (.pointer (some ⟨t,o,none⟩)),.iface 3 (.int .i64 x)] w λe w'=>e=.returned (.tuple #[]) ∧
  ∃g c l',Same (l++[x]) l'/\Hp l'.length l'/\HW t o g c base l' w'/\(v.ownBlock=some g\/w.heap.size<=g) ∧
    ∃w1,cJ (λk=>v.ownBlock=some k) w w1/\cJ (·=g) (w1.setCell ⟨t,o,none⟩ (.slice (some ⟨g,0,none⟩) (l.length+1) c)) w':=by
 have nn:=aaM ⟨t,o,none⟩
 have np:=ac3 ⟨t,o,none⟩
 have mp:=ac2 ⟨t,o,none⟩
 go_enter Tryz.func221,Tryz.ntmps221
 go_wp2_with fail
 refine (Vp t o base l.length v (bH l) x w ht hf kB bX hm hbase).mono ?_
 rintro e w0 ⟨rfl,g,c,w1,hown1,hg1,Te,rfl⟩
 have hk1:cJ (λk=>v.ownBlock=some k) w w1:=(cJ.refl _ _).grown hg1 (λk hk=>.inr hk)
 have hgt:t≠g:=by
  rintro rfl
  rcases Te with h|h
  ·exact bX h
  omega
 have ht1:w1.cell? ⟨t,o,none⟩=some v:=(hk1.cell (p:=⟨t,o,none⟩) htl bX).trans ht
 have HW1:HW t o g c base (l++[x]) (w1.setCell ⟨t,o,none⟩ (.slice (some ⟨g,0,none⟩) (l.length+1) c)):=by
  refine⟨?_,?_,hgt,by simpa [World.setCell] using ahg htl hk1.size⟩
  ·rw [World.cell?_setCell_same _ _ _ ht1];simp
  rw [ag4,ahM,←Gl]
  refine cJ.ownsRow (S:=(·=t)) ((cJ.refl (·=t) w1).setCell (p:=⟨t,o,none⟩) (.inr rfl) _) hown1 ?_
  intro k hk e
  simp [Value.ownBlock] at hk
  omega
 have hc:=HW1.cell
 rw [ag4,ahM] at hc
 generalize hW:w1.setCell ⟨t,o,none⟩ (.slice (some ⟨g,0,none⟩) (l.length+1) c)=w2 at *
 have LN:=(looks ⟨t,o,none⟩ (.slice (some ⟨g,0,none⟩) (l.length+1) c)).len w2 hc
 have HWe:=Lib.hid hW
 clear hW ht1 hown1 kB hg1
 go_wp2_with fail
 refine (Oa _ _ _ _).mono ?_
 rintro e w3 ⟨rfl,rfl⟩
 go_wp2_with fail
 have hu:=abS t o g c base (l++[x]) l.length w3 HW1 agU (Yn hp x) (by simpa using hm)
 refine hu.mono ?_
 rintro e w4 ⟨rfl,l',hs,dI,hw4,hk4⟩
 go_wp2_with fail
 go_end0
 exact⟨rfl,g,c,l',hs,dI,hw4,Te,w1,hk1,by rw [HWe.out];exact hk4⟩
end
end Go.Proofs.YtbnfiigafobejaaGreat
section
namespace Go.Proofs.YtbnfiigafobejaaGreat.aF
open bK
variable {V U:Type}
abbrev bE (V:Type):=List (Int×V)
def bn (us:bE V):List Int:=us.map (·.1)
def get (us:bE V) (h:Int):Option V:=(us.find? (λp=>p.1 == h)).map (·.2)
def dH:List Int->Prop:=List.Pairwise (· < ·)
def lP:Int->List Int->Int
 |h,[]=>h
 |h,k::r=>if k=h then lP (h+1) r else h
def aS (us:bE V):Int:=lP 1 (bn us)
def ins (h:Int) (v:V):bE V->bE V
 |[]=>[(h,v)]
 |p::r=>if h<p.1 then (h,v)::p::r else p::ins h v r
def del (h:Int) (us:bE V):bE V:=us.filter (λp=>p.1 != h)
def agE (h:Int) (v:V) (us:bE V):bE V:=us.map (λp=>if p.1 == h then (h,v) else p)
structure TI (next:Int) (l:List Int) (us:bE V):Prop where
 fI:dH (bn us)
 pos:∀h∈bn us,1<=h/\h<next
 back:∀h∈l,1<=h/\h<next/\h∉bn us
 all:∀h,1<=h->h<next->h∈bn us\/h∈l
 count:(us.length:Int)+l.length=next-1
 heap:Hp l.length l
 inj:Ew l
theorem keys_cons (p:Int×V) (us:bE V):bn (p::us)=p.1::bn us:=rfl
theorem keys_map (f:V->U) (us:bE V):bn (us.map λp=>(p.1,f p.2))=bn us:=by simp [bn]
theorem get_none {us:bE V} {h:Int}:get us h=none↔h∉bn us:=by
 unfold get bn
 rw [Option.map_eq_none_iff,List.find?_eq_none]
 grind
theorem get_some {us:bE V} {h:Int} {v:V} (e:get us h=some v):h∈bn us:=by
 apply ahk
 intro hn
 rw [get_none.2 hn] at e;cases e
theorem get_map (f:V->U) (us:bE V) (h:Int):get (us.map λp=>(p.1,f p.2)) h=(get us h).map f:=by
 unfold get
 rw [List.find?_map]
 simp only [Function.comp_def,Option.map_map]
theorem rK (h:Int) (v:V) (us:bE V) (x:Int):x∈bn (ins h v us)↔x=h\/x∈bn us:=by
 induction us with
 |nil=>simp [ins,bn]
 |cons p r ih=>
   unfold ins
   split
   ·simp [bn]
   rw [keys_cons,keys_cons,aha,aha,ih]
   grind
theorem zZ {h:Int} {v:V} {us:bE V} (hr:dH (bn us)) (hn:h∉bn us):dH (bn (ins h v us)):=by
 induction us with
 |nil=>simp [ins,bn,dH]
 |cons p r ih=>
   unfold dH at *
   rw [keys_cons,ahc] at hr
   rw [keys_cons,aha,not_or] at hn
   unfold ins
   split
   ·rename_i fU
    rw [keys_cons,keys_cons,ahc,ahc]
    grind
   rename_i fU
   rw [keys_cons,ahc]
   refine⟨λx hx=>?_,ih hr.2 hn.2⟩
   rcases (rK h v r x).1 hx with e|e
   ·rw [e];have:=hn.1;omega
   exact hr.1 x e
theorem wh {h:Int} {v:V} {us:bE V} (hn:h∉bn us) (x:Int):get (ins h v us) x=if x=h then some v else get us x:=by
 induction us with
 |nil=>
   by_cases e:x=h
   ·subst e;simp [ins,get]
   simp [ins,get,e,Ne.symm e]
 |cons p r ih=>
   rw [keys_cons,aha,not_or] at hn
   unfold ins
   grind [get]
theorem lu (h:Int) (v:V) (us:bE V):(ins h v us).length=us.length+1:=by
 induction us with
 |nil=>rfl
 |cons p r ih=>unfold ins;split<;>simp [ih]
theorem Oc {h:Int} {v:V} {us:bE V} (hl:∀x∈bn us,x<h):ins h v us=us++[(h,v)]:=by
 induction us with
 |nil=>rfl
 |cons p r ih=>
   rw [keys_cons] at hl
   have h1:=hl p.1 agU
   unfold ins
   grind
theorem Kp (f:V->U) (h:Int) (v:V) (us:bE V):(ins h v us).map (λp=>(p.1,f p.2))=ins h (f v) (us.map λp=>(p.1,f p.2)):=by
 induction us with
 |nil=>rfl
 |cons p r ih=>unfold ins;simp only [ahs];split<;>simp_all
theorem Kq (f:V->U) (h:Int) (us:bE V):(del h us).map (λp=>(p.1,f p.2))=del h (us.map λp=>(p.1,f p.2)):=by
 unfold del;rw [List.filter_map];rfl
theorem ux (h:Int) (us:bE V):bn (del h us)=(bn us).filter (· != h):=by
 unfold bn del;rw [List.filter_map];rfl
theorem zm (h:Int) (us:bE V) (x:Int):get (del h us) x=if x=h then none else get us x:=by
 by_cases e:x=h
 ·subst e
  rw [agW rfl,get_none,ux]
  simp
 rw [agV e]
 unfold get del
 grind
theorem wi {h:Int} {us:bE V} (hr:dH (bn us)) (hm:h∈bn us):(del h us).length+1=us.length:=by
 induction us with
 |nil=>simp [bn] at hm
 |cons p r ih=>
   unfold dH at *
   rw [keys_cons,ahc] at hr
   unfold del at ih ⊢
   rw [List.filter_cons]
   by_cases e:p.1=h
   ·have:r.filter (λq=>q.1 != h)=r:=by
     rw [List.filter_eq_self]
     intro q hq
     have:=hr.1 q.1 (List.mem_map_of_mem hq)
     simp;omega
    simp [e,this]
   rw [keys_cons,aha] at hm
   grind
theorem qU:∀(ks:List Int) (h:Int),dH ks->(∀x∈ks,h<=x)->h<=lP h ks/\lP h ks∉ks/\∀x,h<=x->x<lP h ks->x∈ks
 |[],h,_,_=>⟨Int.le_refl _,by simp [lP],λx h1 h2=>by simp [lP] at h2;omega⟩
 |k::r,h,hr,hge=>by
   unfold dH at hr
   rw [ahc] at hr
   unfold lP
   by_cases e:k=h
   ·rw [agW e]
    obtain⟨i1,i2,i3⟩:=qU r (h+1) hr.2 (λx hx=>by have:=hr.1 x hx;omega)
    refine⟨zc,?_,λx h1 h2=>?_⟩
    ·rw [aha,not_or];exact⟨zc,i2⟩
    by_cases e2:x=h
    ·rw [e2,←e];simp
    exact ag6 _ (i3 x zc h2)
   rw [agV e]
   refine⟨Int.le_refl _,?_,λx h1 h2=>zc⟩
   rw [aha,not_or]
   refine⟨Ne.symm e,λhm=>?_⟩
   have h1:=hr.1 h hm
   have h2:=hge k agU
   omega
theorem Ez {us:bE V} (hr:dH (bn us)) (hp:∀x∈bn us,1<=x) {h:Int} (h1:1<=h) (hn:h∉bn us) (jP:∀x,1<=x->x<h->x∈bn us):aS us=h:=by
 obtain⟨i1,i2,i3⟩:=qU (bn us) 1 hr hp
 grind [aS]
theorem TI.empty:TI 1 [] ([]:bE V):=
 ⟨List.Pairwise.nil,by simp [bn],agU,λh h1 h2=>zc,rfl,λi h1 h2=>by simp at h2,λa b h1=>by simp at h1⟩
theorem TI.I4 {next:Int} {us:bE V} (h:TI next [] us):aS us=next:=by
 have hc:=h.count
 simp at hc
 refine Ez h.fI (λx hx=>(h.pos x hx).1) zc (λhm=>?_) (λx h1 h2=>(h.all x h1 h2).resolve_right agU)
 have:=(h.pos _ hm).2;omega
theorem TI.Yr {next:Int} {us:bE V} (h:TI next [] us) (v:V):TI (next+1) [] (ins next v us):=by
 have hc:=h.count
 simp at hc
 have hn:next∉bn us:=λhm=>by have:=(h.pos _ hm).2;omega
 refine⟨zZ h.fI hn,λx hx=>?_,agU,λx h1 h2=>?_,by rw [lu];simp;omega,λi h1 h2=>by simp at h2,λa b h1=>by simp at h1⟩
 ·rcases (rK next v us x).1 hx with e|e
  ·omega
  have:=h.pos x e;omega
 by_cases e:x=next
 ·exact .inl ((rK next v us x).2 (.inl e))
 exact .inl ((rK next v us x).2 (.inr ((h.all x h1 zc).resolve_right agU)))
theorem TI.I5 {next:Int} {l:List Int} {us:bE V} (h:TI next l us) (hl:0<l.length):aS us=at_ l 0:=by
 have hm:at_ l 0∈l:=zY.2 ⟨0,hl,rfl⟩
 obtain⟨b1,b2,b3⟩:=h.back _ hm
 refine Ez h.fI (λx hx=>(h.pos x hx).1) b1 b3 (λx h1 h2=>(h.all x h1 zc).resolve_right (λhx=>?_))
 obtain⟨k,hk,e⟩:=zY.1 hx
 have:=bK.aS h.heap k hk
 omega
theorem TI.Ys {next:Int} {l l':List Int} {us:bE V} (h:TI next l us) (hl:0<l.length) (v:V) (jv:l'.length+1=l.length) (hp:Hp l'.length l') (hi:Ew l') (hm:∀x,x∈l'↔x∈l/\x≠at_ l 0) :
 TI next l' (ins (at_ l 0) v us):=by
 have h0:at_ l 0∈l:=zY.2 ⟨0,hl,rfl⟩
 obtain⟨b1,b2,b3⟩:=h.back _ h0
 have hc:=h.count
 refine⟨zZ h.fI b3,λx hx=>?_,λx hx=>?_,λx h1 h2=>?_,by rw [lu];push_cast;omega,hp,hi⟩
 ·rcases (rK _ v us x).1 hx with e|e
  ·omega
  exact h.pos x e
 ·have hx':=(hm x).1 hx
  have:=h.back x hx'.1
  refine⟨this.1,this.2.1,λhk=>?_⟩
  rcases (rK _ v us x).1 hk with e|e
  ·exact hx'.2 e
  exact this.2.2 e
 by_cases e:x=at_ l 0
 ·exact .inl ((rK _ v us x).2 (.inl e))
 rcases h.all x h1 h2 with h3|h3
 ·exact .inl ((rK _ v us x).2 (.inr h3))
 exact .inr ((hm x).2 ⟨h3,e⟩)
theorem TI.drop {next h0:Int} {l l':List Int} {us:bE V} (h:TI next l us) (hm:h0∈bn us) (hs:Same (l++[h0]) l') (hp:Hp l'.length l'):TI next l' (del h0 us):=by
 obtain⟨p1,p2⟩:=h.pos _ hm
 have hn:h0∉l:=λhx=>(h.back _ hx).2.2 hm
 have jv:=hs.len
 rw [ag4,ahM] at jv
 have hc:=h.count
 have hd:=wi h.fI hm
 refine⟨?_,λx hx=>?_,λx hx=>?_,λx h1 h2=>?_,zc,hp,hs.inj ?_⟩
 ·rw [ux];exact ahU _ h.fI
 ·rw [ux,List.mem_filter] at hx
  exact h.pos x hx.1
 ·rw [hs.mem,ahj,ahu] at hx
  rw [ux,List.mem_filter]
  rcases hx with hx|hx
  ·have:=h.back x hx
   exact⟨this.1,this.2.1,λhk=>this.2.2 hk.1⟩
  grind
 ·rw [ux,List.mem_filter,hs.mem,ahj,ahu]
  rcases h.all x h1 h2 with h3|h3
  all_goals grind
 intro a b ha hb e
 rw [ag4,ahM] at ha hb
 have g:∀k,k<l.length->at_ (l++[h0]) k=at_ l k:=λk hk=>by
  grind [at_]
 have g2:at_ (l++[h0]) l.length=h0:=by grind [at_]
 have inl:∀k,k<l.length->at_ l k≠h0:=by grind [zY]
 by_cases ha':a<l.length
 ·by_cases hb':b<l.length
  ·rw [g a ha',g b hb'] at e;exact h.inj a b ha' hb' e
  grind
 grind
end Go.Proofs.YtbnfiigafobejaaGreat.aF
end
namespace Go.Proofs.YtbnfiigafobejaaGreat
section
open Go.RowKit bK aF Go.Maps
def cT (us:bE Value):Lit->Option Value
 |.int .i64 h=>aF.get us h
 |_=>none
theorem Kr {us:bE Value} {h:Int} (hn:h∉bn us) (v:Value):qd (cT us) (.int .i64 h) (some v)=cT (ins h v us):=by
 funext x
 unfold qd cT
 cases x with
 |int k n=>
   by_cases hk:k=.i64
   ·subst hk
    simp only [Lit.sameKey,true_and,decide_eq_true_eq]
    rw [wh hn]
   have e:(Lit.int k n).sameKey (.int .i64 h)=false:=by simp [Lit.sameKey,hk]
   grind
 |_=>rfl
theorem Rt {us:bE Value} {h:Int}:qd (cT us) (.int .i64 h) none=cT (del h us):=by
 funext x
 unfold qd cT
 cases x with
 |int k n=>
   by_cases hk:k=.i64
   ·subst hk
    simp only [Lit.sameKey,true_and,decide_eq_true_eq]
    rw [zm]
   grind
 |_=>rfl
structure afv (TT:TypeId) (t m base:Nat) (v:Value) (l:List Int) (next most aJ:Int) (us:bE Value) (w:World):Prop where
 aD:w.heap[t]?=some (.cells #[.int .i64 most,.int .i64 aJ,.map (some m),v,.int .i64 next] TT (0,0))
 map:kr Tryz.prog 3 w m (cT us) us.length
 own:w.ownsRow base 3 1 v l.length (bH l)
 ti:TI next l us
 yZ:(us.length:Int)<=most
 y4:most<=1024
 y5:next<=most+1
 tt:TT≠3
 bt:base<=t
 bm:base<=m
 Bl:0<=aJ/\aJ<=1024
def Tab (TT:TypeId) (t m base:Nat) (row:Option Nat) (most aJ:Int) (us:bE Value) (w:World):Prop:=
 ∃v l next,afv TT t m base v l next most aJ us w/\v.ownBlock=row
section tab
variable {TT:TypeId} {t m base:Nat} {v:Value} {l:List Int} {next most aJ:Int} {us:bE Value} {w w':World} {row:Option Nat}
end tab
theorem aW.ofB {P:Program} {β:Bs} {f:FuncId} {args:Array Value} {pre:List HP} {post:Value->List HP->Prop}
 (h:∀F w,(Proofs.YtbnfiigafobejaaGreat.gU pre).h F w->Calls P f args w λe w'=>∃v l,e=.returned v/\post v l/\∃F',(Proofs.YtbnfiigafobejaaGreat.gU l).h F' w'/\Step F w F' w'):aW P β f args pre post:=by
 intro R w hS
 have h1:aR β ([.abs (Proofs.YtbnfiigafobejaaGreat.gU pre)]++[.abs R]) w:=aR.turn (aR.turn hS).gU
 have h2:aW P β f args [.abs (Proofs.YtbnfiigafobejaaGreat.gU pre)] (λv l=>∃l0,post v l0/\l=[.abs (Proofs.YtbnfiigafobejaaGreat.gU l0)]):=
  aW.of1 (λF w hF=>(h F w hF).mono λ_ _ ⟨v,l,e,hp,hF'⟩=>⟨v,.abs (Proofs.YtbnfiigafobejaaGreat.gU l),e,⟨l,hp,rfl⟩,hF'⟩)
 refine (h2 R w h1).mono ?_
 rintro e w' ⟨v,l,he,⟨l0,hp,rfl⟩,yM⟩
 exact⟨v,l0,he,hp,aR.turn (aR.turn yM).sQ⟩
theorem M4 {p q:HP} {F:Fp} {w:World}:(gU [p,q]).h F w↔∃F1 F2,p.h F1 w/\q.h F2 w/\Apart F1 F2/\∀k,F k↔F1 k\/F2 k:=by
 constructor
 ·rintro⟨φ,h1,h2,h3⟩
  refine⟨φ 0,φ 1,h1 0 p rfl,h1 1 q rfl,h2 0 1 agU agU Pd,λk=>(h3 k).trans ⟨λ⟨i,hi,hk⟩=>?_,λh=>?_⟩⟩
  all_goals grind
 rintro⟨F1,F2,h1,h2,h3,h4⟩
 refine⟨λi=>if i=0 then F1 else F2,λi x hx=>?_,λi j hi hj bX=>?_,λk=>(h4 k).trans ⟨λh=>?_,λ⟨i,hi,hk⟩=>?_⟩⟩
 ·grind
 ·grind [gU,Apart]
 ·rcases h with h|h
  ·exact⟨0,agU,h⟩
  exact⟨1,agU,h⟩
 grind
theorem aR.aeQ {β:Bs} {l:List HP} {w:World} {A:eH} {ι:Type} {Φ:ι->Prop} {L:ι->List HP} (h:aR β (l++[.abs A]) w) (hA:∀F,A.h F w->∃i,Φ i/\(Proofs.YtbnfiigafobejaaGreat.gU (L i)).h F w):∃i,Φ i/\aR β (l++L i) w:=by
 obtain⟨F,hF⟩:=h.get (i:=l.length) (p:=.abs A) agU
 have h0:=h
 obtain⟨ho,φ,h1,h2,h3⟩:=h
 obtain⟨i,hi,hB⟩:=hA _ (h1 l.length (.abs A) agU)
 refine⟨i,hi,aR.sQ ⟨ho,φ,λj p hp=>?_,λj hj=>h2 j (by simpa using hj),λa b ha hb=>h3 a b (by simpa using ha) (by simpa using hb)⟩⟩
 by_cases e:j<l.length
 ·grind
 have hj:j=l.length:=by have:=dP hp;simp at this;omega
 subst hj
 simp at hp
 subst hp
 exact hB
theorem aR.ac4 {β:Bs} {l R:List HP} {w:World} {A:eH} (h:aR β (l++R) w) (hA:∀F,(Proofs.YtbnfiigafobejaaGreat.gU R).h F w->A.h F w):aR β (l++[.abs A]) w:=by
 obtain⟨ho,φ,h1,h2,h3⟩:=h.gU
 refine⟨ho,φ,λj p hp=>?_,λj hj=>h2 j (by simpa using hj),λa b ha hb=>h3 a b (by simpa using ha) (by simpa using hb)⟩
 by_cases e:j<l.length
 ·grind
 have hj:j=l.length:=by have:=dP hp;simp at this;omega
 subst hj
 simp at hp
 subst hp
 exact hA _ (h1 l.length (.abs (Proofs.YtbnfiigafobejaaGreat.gU R)) agU)
section rules
variable {P:Program} {β:Bs} {N:fY} {ops:Array Oper} {k:Nat} {fr:Fr} {ax:List HP} {Q:Post} {c:Code} {e:Exit}
theorem aq.Hf {ι:Type} {Φ:ι->Prop} {hp:ι->List HP} (h:∀w,aR β ax w->∃i,Φ i/\aR β (hp i) w) (K:∀i,Φ i->aq P β N c fr (hp i) Q):aq P β N c fr ax Q:=λai w hS=>let ⟨i,hi,ju⟩:=h w hS;K i hi ai w ju
end rules
theorem DV {w:World} {t j:Nat} {cs:List Value} {T:TypeId} {u:Value} (h:w.heap[t]?=some (.cells ⟨cs⟩ T (0,0))):(w.setCell ⟨t,j,none⟩ u).heap[t]?=some (.cells ⟨cs.set j u⟩ T (0,0)):=by
 simp [World.setCell,Array.getElem?_modify,h,Array.setIfInBounds_def]
 exact λh=>(List.set_eq_of_length_le h).symm
theorem ac5 {β:Bs} {T:TypeId} {a b c e:Value} {t g cap n:Nat} {l:List Int} (hl:l.length=n+1) (hp:Hp (n+1) l) (hi:Ew l) (hm:n+1<=1048576) :
 aW Tryz.prog β 223 #[.iface 284 (.pointer (some ⟨t,3,none⟩))] [.aD t [a,b,c,.slice (some ⟨g,0,none⟩) l.length cap,e] T,.abs (aH 3 1 (some ⟨g,0,none⟩) l.length cap (bH l))]
  (λv r=>v=.iface 3 (.int .i64 (at_ l 0))/\∃l':List Int,l'.length=n/\Hp n l'/\Ew l'/\(∀x,x∈l'↔x∈l/\x≠at_ l 0)/\r=[.aD t [a,b,c,.slice (some ⟨g,0,none⟩) n cap,e] T,.abs (aH 3 1 (some ⟨g,0,none⟩) n cap (bH l'))]):=by
 refine aW.ofB (λF w h=>?_)
 obtain⟨F1,F2,⟨h1,h2⟩,hr,hap,hF⟩:=M4.1 h
 have hr:(aH 3 1 (some ⟨g,0,none⟩) l.length cap (bH l)).h F2 w:=hr
 obtain⟨hr1,hr2⟩:=hr
 have hg:F2 g:=(hr2 g).2 rfl
 have bX:t≠g:=λe=>hap t ((h2 t).2 rfl) (e ▸ hg)
 have hc:w.cell? ⟨t,3,none⟩=some (.slice (some ⟨g,0,none⟩) l.length cap)/\w.frozen? ⟨t,3,none⟩=false:=lY h1 rfl rfl rfl
 have hW:HW t 3 g cap 0 l w:=⟨hc.1,hr1,bX,lt_of_some h1⟩
 refine (Yq t 3 g cap 0 n l w hW hl hp hi hm hc.2).mono ?_
 rintro e' w' ⟨rfl,l',w1,g1,g2,g3,g4,g5,g6,rfl⟩
 have h1':w1.heap[t]?=some (.cells ⟨[a,b,c,.slice (some ⟨g,0,none⟩) l.length cap,e]⟩ T (0,0)):=(g6.block t (lt_of_some h1) (λe=>bX e)).trans h1
 have hks:cJ (·=t) w1 (w1.setCell ⟨t,3,none⟩ (.slice (some ⟨g,0,none⟩) n cap)):=(cJ.refl (·=t) w1).setCell (p:=⟨t,3,none⟩) (.inr rfl) _
 refine⟨_,_,rfl,⟨rfl,l',g1,g2,g3,g4,rfl⟩,F,M4.2 ⟨F1,F2,⟨DV h1',h2⟩,⟨hks.ownsRow g5 (λk hk e=>?_),λk=>?_⟩,hap,hF⟩,⟨((g6.mono (S':=F) (λk _ e=>(hF k).2 (.inr (e ▸ hg)))).trans (hks.mono (λk _ e=>(hF k).2 (.inl ((h2 k).2 e))))),λ_ h=>.inl h⟩⟩
 ·cases hk;exact bX e.symm
 rw [hr2 k];simp [Value.ownBlock]
theorem abT {β:Bs} {T:TypeId} {a b c e:Value} {t cap:Nat} {A:Option Addr} {l:List Int} (x:Int) (hp:Hp l.length l) (hm:l.length+1<=1048576) :
 aW Tryz.prog β 221 #[.iface 284 (.pointer (some ⟨t,3,none⟩)),.iface 3 (.int .i64 x)] [.aD t [a,b,c,.slice A l.length cap,e] T,.abs (aH 3 1 A l.length cap (bH l))]
  (λv r=>v=.tuple #[]/\∃(g c':Nat) (l':List Int),Same (l++[x]) l'/\Hp l'.length l'/\r=[.aD t [a,b,c,.slice (some ⟨g,0,none⟩) l'.length c',e] T,.abs (aH 3 1 (some ⟨g,0,none⟩) l'.length c' (bH l'))]):=by
 refine aW.ofB (λF w h=>?_)
 obtain⟨F1,F2,⟨h1,h2⟩,hr,hap,hF⟩:=M4.1 h
 have hr:(aH 3 1 A l.length cap (bH l)).h F2 w:=hr
 obtain⟨hr1,hr2⟩:=hr
 have hc:w.cell? ⟨t,3,none⟩=some (.slice A l.length cap)/\w.frozen? ⟨t,3,none⟩=false:=lY h1 rfl rfl rfl
 have bX:(Value.slice A l.length cap).ownBlock≠some t:=λe=>hap t ((h2 t).2 rfl) ((hr2 t).2 e)
 refine (Vs t 3 0 (.slice A l.length cap) l x w hc.1 hc.2 hr1 bX hm (ag0 _) hp (lt_of_some h1)).mono ?_
 rintro e' w' ⟨rfl,g,c',l',g1,g2,g3,g4,w1,g5,g6⟩
 have Ru:t≠g:=g3.ne
 have jv:l'.length=l.length+1:=by have:=g1.len;simp at this;omega
 have h1':w1.heap[t]?=some (.cells ⟨[a,b,c,.slice A l.length cap,e]⟩ T (0,0)):=(g5.block t (lt_of_some h1) bX).trans h1
 have ac6:=DV (j:=3) (u:=.slice (some ⟨g,0,none⟩) (l.length+1) c') h1'
 have afw:w'.heap[t]?=some (.cells ⟨[a,b,c,.slice (some ⟨g,0,none⟩) l'.length c',e]⟩ T (0,0)):=by
  rw [jv];exact (g6.block t (lt_of_some ac6) Ru).trans ac6
 have hks:cJ (·=t) w1 (w1.setCell ⟨t,3,none⟩ (.slice (some ⟨g,0,none⟩) (l.length+1) c')):=(cJ.refl (·=t) w1).setCell (p:=⟨t,3,none⟩) (.inr rfl) _
 refine⟨_,_,rfl,⟨rfl,g,c',l',g1,g2,rfl⟩,λk=>F1 k\/k=g,M4.2 ⟨F1,λk=>k=g,⟨afw,h2⟩,⟨g3.own,λk=>?_⟩,λk hk e=>Ru (((h2 k).1 hk).symm.trans e),λk=>Iff.rfl⟩,⟨?_,λk hk=>?_⟩⟩
 ·simp [Value.ownBlock,eq_comm]
 ·have k1:cJ F w w1:=g5.mono (λk _ hk=>(hF k).2 (.inr ((hr2 k).2 hk)))
  have k2:cJ F w (w1.setCell ⟨t,3,none⟩ (.slice (some ⟨g,0,none⟩) (l.length+1) c')):=k1.trans (hks.mono (λk _ e=>(hF k).2 (.inl ((h2 k).2 e))))
  exact k2.andThen g6 (λi hi e=>by
   rcases g4 with g4|g4
   ·exact (hF i).2 (.inr ((hr2 i).2 (e ▸ g4)))
   subst e;omega)
 rcases hk with hk|rfl
 ·exact .inl ((hF k).2 (.inl hk))
 rcases g4 with g4|g4
 ·exact .inl ((hF _).2 (.inr ((hr2 _).2 g4)))
 exact .inr g4
structure lC (next:Int) (l:List Int) (us:bE Value) (most aJ:Int):Prop where
 ti:TI next l us
 yZ:(us.length:Int)<=most
 y4:most<=1024
 y5:next<=most+1
 Di:next<=aJ+1
 Bl:0<=aJ/\aJ<=1024
theorem lC.Od {next:Int} {l:List Int} {us:bE Value} {most aJ:Int} (h:lC next l us most aJ):1<=aF.aS us/\aF.aS us<=next/\aF.aS us∉bn us/\next<=1025/\1<=next/\us.length<=1024/\l.length<=1024:=by
 obtain⟨h1,h2,h3⟩:=qU (bn us) 1 h.ti.fI (λx hx=>(h.ti.pos x hx).1)
 have hc:=h.ti.count
 have m0:=h.yZ
 have m1:=h.y4
 have n1:=h.y5
 refine⟨h1,?_,h2,zc,zc,zc,zc⟩
 rcases Int.lt_or_le next (aF.aS us) with h4|h4
 ·have:=h3 next zc h4
  have:=(h.ti.pos _ this).2
  omega
 exact h4
theorem Oe:cT []=λ_=>none:=by
 funext x
 unfold cT
 split<;>rfl
theorem Lr {us:bE Value} {h:Int} (hn:h∉bn us):cT us (.int .i64 h)=none:=get_none.2 hn
structure TX where
 m:Nat
 A:Option Addr
 c:Nat
 l:List Int
 next:Int
def rL (TT:TypeId) (t:Nat) (most aJ:Int) (us:bE Value) (x:TX):List HP:=
 [.aD t [.int .i64 most,.int .i64 aJ,.map (some x.m),.slice x.A x.l.length x.c,.int .i64 x.next] TT,.abs (bM Tryz.prog 3 x.m (cT us) us.length),.abs (aH 3 1 x.A x.l.length x.c (bH x.l))]
def gj (TT:TypeId) (t:Nat) (most aJ:Int) (us:bE Value):eH where
 h F w:=∃x:TX,lC x.next x.l us most aJ/\(gU (rL TT t most aJ us x)).h F w
 lt:=λ⟨_,_,h⟩ k hk=>eH.lt _ h k hk
 st:=λ⟨x,h1,h⟩ _ _ hk hn=>⟨x,h1,eH.st _ h hk hn⟩
theorem aR.wj {β:Bs} {TT:TypeId} {t:Nat} {most aJ:Int} {us:bE Value} {l:List HP} {w:World} (h:aR β (l++[.abs (gj TT t most aJ us)]) w):∃x:TX,lC x.next x.l us most aJ/\aR β (l++rL TT t most aJ us x) w:=
 h.aeQ (λ_ h=>h)
theorem aR.rN {β:Bs} {TT:TypeId} {t:Nat} {most aJ:Int} {us:bE Value} {l:List HP} {w:World} (x:TX) (hx:lC x.next x.l us most aJ) (h:aR β (l++rL TT t most aJ us x) w):aR β (l++[.abs (gj TT t most aJ us)]) w:=
 h.ac4 (λ_ h=>⟨x,hx,h⟩)
end
section
open Go.RowKit Go.Maps Go.Sort Go.Shelf bK aF
theorem mA {z:Int} (h:(Lit.int .i64 z).wf=true):keyOf Tryz.prog 3 (.int .i64 z)=some (.int .i64 z):=
 keyOf_int_mk Tryz.underlying3 h
theorem Ls:∀{l m:List Int},l.Pairwise (· < ·)->m.Pairwise (· < ·)->(∀z,z∈l↔z∈m)->l=m
 |[],[],_,_,_=>rfl
 |[],b::m,_,_,h=>by have:=(h b).2 (ag7 ..);cases this
 |a::l,[],_,_,h=>by have:=(h a).1 (ag7 ..);cases this
 |a::l,b::m,hl,hm,h=>by
   have hl':=ahc.1 hl
   have hm':=ahc.1 hm
   have e:a=b:=by
    rcases aha.1 ((h a).1 (ag7 ..)) with e|e
    ·exact e
    rcases aha.1 ((h b).2 (ag7 ..)) with e2|e2
    ·exact e2.symm
    have:=hm'.1 a e;have:=hl'.1 b e2;omega
   subst e
   congr 1
   refine Ls hl'.2 hm'.2 (λz=>⟨λhz=>?_,λhz=>?_⟩)
   ·rcases aha.1 ((h z).1 (ag6 _ hz)) with e|e
    ·have:=hl'.1 z hz;omega
    exact e
   rcases aha.1 ((h z).2 (ag6 _ hz)) with e|e
   ·have:=hm'.1 z hz;omega
   exact e
theorem Tj (x y:Int):(if y>x then y else x)=max x y:=by
 rw [Int.max_def];split<;>split<;>omega
theorem aaN (x y:Int):(if y<x then y else x)=min x y:=by
 rw [Int.min_def];split<;>split<;>omega
theorem ac7 (m:Nat):AnyZI.SortsIn Tryz.prog Tryz.sortedI_ren Fence.wide m:=
 ⟨λaD off cap ss W hH hblk eT=>callsIn_wide.2 (AnyM.slices_Sort_int Tryz.sortI aD off cap ss W hH hblk eT),
  λp cap W=>callsIn_wide.2 (AnyM.slices_Sort_int_none Tryz.sortI p cap W)⟩
def I6 (bk:Nat):Value:=.func (.func 93) #[] #[.pointer (some ⟨bk,0,none⟩)]
theorem Og {β:Bs} (mb:Option Nat):aW Tryz.prog β 67 #[.map mb] [] (λv l=>∃bk,v=I6 bk/\l=[.aD bk [.map mb] 129]):=
 aW.Ng λW _=>by
  have h:CallsIn Fence.wide 5 Tryz.prog 67 #[.map mb] W λe w'=>e=.returned (I6 W.heap.size)/\w'=W.alloc (.cells #[.map mb] 129):=AnyZI.keys_in Tryz.keysI Fence.wide 5 trivial rfl mb W
  refine ((callsIn_wide (n:=5)).1 h).mono ?_
  rintro e w' ⟨rfl,rfl⟩
  refine⟨_,_,rfl,⟨W.heap.size,rfl,rfl⟩,(cJ.refl _ _).alloc _,λk=>k=W.heap.size,⟨?_,λk=>Iff.rfl⟩,λk hk=>Nat.le_of_eq hk.symm⟩
  show (W.heap.push _)[W.heap.size]?=_
  simp
structure KeysOf (f:Lit->Option Value) (ss:List Int):Prop where
 mem:∀z,z∈ss↔(f (.int .i64 z)).isSome=true
 sorted:ss.Pairwise (· < ·)
theorem Tk {w:World} {b n:Nat} {K:TypeId} {f:Lit->Option Value} {D:DataW Value} (hK:Tryz.prog.underlying K=some (.int .i64)) (L:Keyed Tryz.prog K) (kB:w.ownsMap Tryz.prog K yS b n D) (hf:∀kl,Maps.has D kl=(f kl).isSome) {ss:List Int} (hp:ss.Perm (intKeys D)) :
 KeysOf f (ss.mergeSort (λx y=>decide (x<=y))):=by
 obtain⟨es,hD,hpw,_⟩:=kB.entries L
 obtain⟨es',hD',hko⟩:=kB.keysOf
 obtain rfl:es=es':=by rw [hD] at hD';simpa using hD'
 have hk:∀p∈es,∃x,p.1=.int .i64 x:=λp hp=>by
  obtain⟨v,hv⟩:=hko p hp
  obtain⟨x,_,h,_⟩:=keyOf_i64 hK hv
  exact⟨x,h⟩
 have hmem:∀z,z∈intKeys D↔(f (.int .i64 z)).isSome=true:=λz=>by
  rw [←hf,hD]
  show z∈es.map (λp=>Go.intOf p.1)↔es.any (λp=>p.1.sameKey (.int .i64 z))=true
  rw [ahe,List.any_eq_true]
  refine⟨λ⟨p,hp,e⟩=>⟨p,hp,?_⟩,λ⟨p,hp,e⟩=>⟨p,hp,?_⟩⟩
  ·obtain⟨x,hx⟩:=hk p hp
   rw [hx] at e ⊢
   have e:x=z:=e
   simp [Lit.sameKey,e]
  obtain⟨x,hx⟩:=hk p hp
  rw [hx] at e ⊢
  show x=z
  simpa [Lit.sameKey] using e
 have hnd:(intKeys D).Nodup:=by
  rw [hD]
  show (es.map λp=>Go.intOf p.1).Nodup
  rw [List.nodup_iff_pairwise_ne,List.pairwise_map]
  refine hpw.imp_of_mem (λ{p q} hp hq bX e=>bX ?_)
  obtain⟨x,hx⟩:=hk p hp
  obtain⟨y,hy⟩:=hk q hq
  rw [hx,hy] at e ⊢
  have e:x=y:=e
  rw [e]
 have tr:∀a b c:Int,decide (a<=b)=true->decide (b<=c)=true->decide (a<=c)=true:=Pe
 have to:∀a b:Int,(decide (a<=b) || decide (b<=a))=true:=Pe
 have hperm:=(List.mergeSort_perm ss (λx y=>decide (x<=y))).trans hp
 refine⟨λz=>by rw [hperm.mem_iff,hmem],?_⟩
 have h1:=List.pairwise_mergeSort tr to ss
 have h2:(ss.mergeSort (λx y=>decide (x<=y))).Nodup:=hperm.nodup_iff.2 hnd
 rw [List.nodup_iff_pairwise_ne] at h2
 refine (h1.and h2).imp (λ{a b} h=>?_)
 grind
theorem I7 {β:Bs} (b bk n:Nat) (f:Lit->Option Value) (hn:n<=16777216) :
 aW Tryz.prog β 66 #[I6 bk] [.abs (bM Tryz.prog 3 b f n),.aD bk [.map (some b)] 129] (λv l=>∃A cap ss,v=.slice A ss.length cap/\KeysOf f ss/\ss.length=n ∧
  l=[.abs (bM Tryz.prog 3 b f n),.aD bk [.map (some b)] 129,.abs (aH 3 1 A ss.length cap (bH ss))]):=by
 intro R w hS
 obtain⟨F1,h1⟩:=hS.get (i:=0) (p:=.abs (bM Tryz.prog 3 b f n)) rfl
 obtain⟨F2,h2⟩:=hS.get (i:=1) (p:=.aD bk [.map (some b)] 129) rfl
 obtain⟨D,kB,eT,hhas,_⟩:=h1.1
 have hcell:w.cell? ⟨bk,0,none⟩=some (.map (some b)):=(lY h2.1 rfl rfl rfl).1
 have hseq:SeqGives Fence.wide 2 Tryz.prog 93 #[.pointer (some ⟨bk,0,none⟩)] encZ (λss=>ss.Perm (intKeys D)) (Maps.size D) w:=
  AnyZI.keys_gives (ρ:=Tryz.keysI_ren) {Tryz.keysI with} Fence.wide _ trivial rfl zc bk b n D w (lt_of_some h2.1) hcell kB
 have cS:=AnyZI.sorted_in Tryz.sortedI Fence.wide 5 trivial trivial trivial trivial rfl zc (ac7 _) (enters_of Tryz.func92 KB rfl) 93 #[.pointer (some ⟨bk,0,none⟩)] trivial (enters_of Tryz.func93 KB rfl) _ _ (by rw [eT];unfold maxLen;omega) (by rw [eT];omega) _ hseq
 change CallsIn _ _ Tryz.prog 66 _ _ _ at cS
 refine ((callsIn_wide (n:=5)).1 cS).mono ?_
 rintro e w' ⟨v,ss,rfl,hp,hrow,hnil,hb⟩
 have jv:(ss.mergeSort (λx y=>decide (x<=y))).length=ss.length:=List.length_mergeSort ss
 have hkeys:=Tk Tryz.underlying3 iU kB hhas hp
 have D8:∃A cap,v=.slice A ss.length cap:=by
  rcases hrow.2 with ⟨e1,e2⟩|⟨g,cp,cur,e1,_⟩
  all_goals grind
 obtain⟨A,cap,rfl⟩:=D8
 have hn1:ss.length=n:=by
  rw [hp.length_eq,←eT]
  obtain⟨es,hD,_⟩:=kB.entries iU
  rw [hD]
  exact ahf ..
 have hq:aR β ([.abs (bM Tryz.prog 3 b f n),.aD bk [.map (some b)] 129,.abs R]++[.abs (aH 3 1 A ss.length cap (bH (ss.mergeSort (λx y=>decide (x<=y)))))]) w':=by
  refine aR.new (F:=λk=>(Value.slice A ss.length cap).ownBlock=some k) hS ⟨?_,λk=>Iff.rfl⟩ ⟨hb.os,hb.tape,hb.output,hb.size,λk hk _=>hb.block k hk⟩ (λk hk=>(hrow.lt k hk).1)
  refine⟨hrow.1,?_⟩
  rcases hrow.2 with h|⟨g,cp,cur,e1,_,h3,h4⟩
  ·exact .inl h
  exact .inr ⟨g,cp,cur,e1,ag0 _,h3,h4⟩
 exact⟨_,[.abs (bM Tryz.prog 3 b f n),.aD bk [.map (some b)] 129,.abs (aH 3 1 A ss.length cap (bH (ss.mergeSort (λx y=>decide (x<=y)))))],rfl,⟨A,cap,ss.mergeSort (λx y=>decide (x<=y)),by rw [jv],hkeys,by rw [jv];exact hn1,by rw [jv]⟩,hq.pick (ar:=[0,1,3,2]) rfl rfl⟩
end
section
open Go.RowKit bK aF Go.Maps
attribute [local irreducible] av bN aq aB kS
theorem Rv {us:bE Value} {ss:List Int} (hr:aF.dH (bn us)) (h:KeysOf (cT us) ss):ss=bn us:=by
 refine Ls h.sorted hr (λz=>?_)
 rw [h.mem]
 show (aF.get us z).isSome=true↔z∈bn us
 refine⟨λh=>?_,λh=>?_⟩
 ·obtain⟨x,hx⟩:=Option.isSome_iff_exists.1 h;exact get_some hx
 cases hg:aF.get us z with
 |some x=>rfl
 |none=>exact agY h (get_none.1 hg)
theorem Yt {β:Bs} (most:Int) :
 aW Tryz.prog β 64 #[vI (most)] [] (λv l=>∃t,v=vP t/\l=[.abs (gj 182 t (min (max most 0) 1024) 0 [])]):=by
 exact SE Tryz.func64 Tryz.ntmps64 (λR=>SR (jK 1 [] [] (NS (jK 3 [5] [(1,w_ (.int .i64 (max most 0)) (agX (Value.int .i64) (Tj _ _))),(2,w_ (.int .i64 (min (max most 0) 1024)) (agX (Value.int .i64) (aaN _ _)))] (av.tj (d:=(some 6)) (t:=129) (λ_=>KB) Tryz.prog rfl 3 (λm1=>jB 3 [2] (λb2=>.aD b2 [vI (min (max most 0) 1024),vI 0,.map (some m1),.slice none (0) (0),vI 1] 182) (λb2=>NN (aq.ret (aB.mem (λw hS=>hS.mB (e:=3) (size:=1)) (aB.mem (fe:=[.abs R,.abs (gj 182 b2 (min (max most 0) 1024) 0 [])]) (λw hS=>aR.rN (l:=[.abs R]) ⟨m1,none,0,[],1⟩ ⟨TI.empty,Pe,zc,Pe,by show (1:Int)<=0+1;decide,Pd⟩ (by rw [←Oe] at hS;exact hS.pick (ar:=[0,2,1,3]) (l':=[.abs R]++rL 182 b2 (min (max most 0) 1024) 0 [] ⟨m1,none,0,[],1⟩) rfl rfl)) (RT _ [1,0] (⟨b2,rfl,rfl⟩))))))))))))
theorem Vt {β:Bs} (t:Nat) (most aJ:Int) (us:bE Value) :
 aW Tryz.prog β 89 #[vP t] [.abs (gj 182 t most aJ us)] (λv l=>v=vI aJ/\l=[.abs (gj 182 t most aJ us)]):=by
 refine SE Tryz.func89 Tryz.ntmps89 (λR=>aq.seq (aq.Hf (Φ:=λx:TX=>lC x.next x.l us most aJ) (hp:=λx=>[.abs R]++rL 182 t most aJ us x) (λw hS=>(hS.pick (ar:=[1,0]) (l':=[.abs R]++[.abs (gj 182 t most aJ us)]) rfl rfl).wj) (λx hT=>?_)))
 obtain⟨m,A,c,l,next⟩:=x
 replace hT:lC next l us most aJ:=hT
 have hb:=hT.Od
 have hm0:=hT.yZ
 have hm1:=hT.y4
 have hn1:=hT.y5
 have hn2:=hT.Di
 have Oh:=hT.Bl
 have Rw:=hT.ti.count
 show aq _ _ _ _ _ [.abs R,.aD t [vI (most),vI (aJ),.map (some m),.slice A (l.length) (c),vI (next)] 182,.abs (bM Tryz.prog 3 m (cT us) us.length),.abs (aH 3 1 A l.length c (bH l))] _
 exact aq.region (jK 1 [] [] (NS (jK 5 [2] [(3,a_ 1 t)] (NN (aq.ret (aB.mem (λw hS=>aR.rN (l:=[.abs R]) ⟨m,A,c,l,next⟩ (show lC (next) l (us) most (aJ) from hT) (hS.pick (ar:=[0,1,2,3]) (l':=[.abs R]++rL 182 t most (aJ) (us) ⟨m,A,c,l,next⟩) rfl rfl)) (RT _ [1,0] (⟨rfl,rfl⟩))))))))
theorem rO {β:Bs} (t:Nat) (most aJ:Int) (us:bE Value) (h:Int) (hw:(Lit.int .i64 h).wf=true) (x:Value) (hg:aF.get us h=some x) :
 aW Tryz.prog β 210 #[vP t,vI (h)] [.abs (gj 182 t most aJ us)] (λv l=>v=.tuple #[x,vI 0]/\l=[.abs (gj 182 t most aJ us)]):=by
 refine SE Tryz.func210 Tryz.ntmps210 (λR=>aq.seq (aq.Hf (Φ:=λx:TX=>lC x.next x.l us most aJ) (hp:=λx=>[.abs R]++rL 182 t most aJ us x) (λw hS=>(hS.pick (ar:=[1,0]) (l':=[.abs R]++[.abs (gj 182 t most aJ us)]) rfl rfl).wj) (λx hT=>?_)))
 obtain⟨m,A,c,l,next⟩:=x
 replace hT:lC next l us most aJ:=hT
 have hb:=hT.Od
 have hm0:=hT.yZ
 have hm1:=hT.y4
 have hn1:=hT.y5
 have hn2:=hT.Di
 have Oh:=hT.Bl
 have Rw:=hT.ti.count
 show aq _ _ _ _ _ [.abs R,.aD t [vI (most),vI (aJ),.map (some m),.slice A (l.length) (c),vI (next)] 182,.abs (bM Tryz.prog 3 m (cT us) us.length),.abs (aH 3 1 A l.length c (bH l))] _
 exact aq.region (jK 2 [] [] (NS (jK 5 [12,13] [(3,a_ 1 t)] (av.AX 2 (d:=(some 14)) (t:=129) (K:=3) (E:=133) (b:=m) (n:=us.length) (f:=(cT us)) (x:=(.tmp 12)) (ix:=(.tmp 13)) (key:=vI (h)) (z:=.nilIface) (kl:=(.int .i64 h)) (r:=(some x)) (λ_=>KB) KB (λ_=>KB) (λ_=>KB) iU Tryz.underlying129 (λ_=>KB) (mA hw) (hg) (jK 5 [6,7] [] (NZ (jK 2 [18] [] (NF (KX (SR (jK 3 [4,5] [] (NN (aq.ret (aB.mem (λw hS=>aR.rN (l:=[.abs R]) ⟨m,A,c,l,next⟩ (show lC (next) l (us) most (aJ) from hT) (hS.pick (ar:=[0,1,2,3]) (l':=[.abs R]++rL 182 t most (aJ) (us) ⟨m,A,c,l,next⟩) rfl rfl)) (RT _ [1,0] (⟨rfl,rfl⟩))))))))))))))))
theorem xL {β:Bs} (t:Nat) (most aJ:Int) (us:bE Value) (h:Int) (hw:(Lit.int .i64 h).wf=true) (hg:aF.get us h=none) :
 aW Tryz.prog β 210 #[vP t,vI (h)] [.abs (gj 182 t most aJ us)] (λv l=>v=.tuple #[.nilIface,vI 131]/\l=[.abs (gj 182 t most aJ us)]):=by
 refine SE Tryz.func210 Tryz.ntmps210 (λR=>aq.seq (aq.Hf (Φ:=λx:TX=>lC x.next x.l us most aJ) (hp:=λx=>[.abs R]++rL 182 t most aJ us x) (λw hS=>(hS.pick (ar:=[1,0]) (l':=[.abs R]++[.abs (gj 182 t most aJ us)]) rfl rfl).wj) (λx hT=>?_)))
 obtain⟨m,A,c,l,next⟩:=x
 replace hT:lC next l us most aJ:=hT
 have hb:=hT.Od
 have hm0:=hT.yZ
 have hm1:=hT.y4
 have hn1:=hT.y5
 have hn2:=hT.Di
 have Oh:=hT.Bl
 have Rw:=hT.ti.count
 show aq _ _ _ _ _ [.abs R,.aD t [vI (most),vI (aJ),.map (some m),.slice A (l.length) (c),vI (next)] 182,.abs (bM Tryz.prog 3 m (cT us) us.length),.abs (aH 3 1 A l.length c (bH l))] _
 exact aq.region (jK 2 [] [] (NS (jK 5 [12,13] [(3,a_ 1 t)] (av.AX 2 (d:=(some 14)) (t:=129) (K:=3) (E:=133) (b:=m) (n:=us.length) (f:=(cT us)) (x:=(.tmp 12)) (ix:=(.tmp 13)) (key:=vI (h)) (z:=.nilIface) (kl:=(.int .i64 h)) (r:=none) (λ_=>KB) KB (λ_=>KB) (λ_=>KB) iU Tryz.underlying129 (λ_=>KB) (mA hw) (hg) (jK 5 [6,7] [] (NZ (jK 2 [18] [] (NT (SR (jK 3 [4,5] [] (NN (aq.ret (aB.bD (aB.mem (λw hS=>aR.rN (l:=[.abs R]) ⟨m,A,c,l,next⟩ (show lC (next) l (us) most (aJ) from hT) (hS.pick (ar:=[0,1,2,3]) (l':=[.abs R]++rL 182 t most (aJ) (us) ⟨m,A,c,l,next⟩) rfl rfl)) (RT _ [1,0] (⟨rfl,rfl⟩))))))))))))))))
theorem EA {β:Bs} (t:Nat) (most aJ:Int) (us:bE Value) (x:Value) (hf:most<=(us.length:Int)) :
 aW Tryz.prog β 217 #[vP t,x] [.abs (gj 182 t most aJ us)] (λv l=>v=.tuple #[vI 0,vI 130]/\l=[.abs (gj 182 t most aJ us)]):=by
 refine SE Tryz.func217 Tryz.ntmps217 (λR=>aq.seq (aq.Hf (Φ:=λx:TX=>lC x.next x.l us most aJ) (hp:=λx=>[.abs R]++rL 182 t most aJ us x) (λw hS=>(hS.pick (ar:=[1,0]) (l':=[.abs R]++[.abs (gj 182 t most aJ us)]) rfl rfl).wj) (λx hT=>?_)))
 obtain⟨m,A,c,l,next⟩:=x
 replace hT:lC next l us most aJ:=hT
 have hb:=hT.Od
 have hm0:=hT.yZ
 have hm1:=hT.y4
 have hn1:=hT.y5
 have hn2:=hT.Di
 have Oh:=hT.Bl
 have Rw:=hT.ti.count
 show aq _ _ _ _ _ [.abs R,.aD t [vI (most),vI (aJ),.map (some m),.slice A (l.length) (c),vI (next)] 182,.abs (bM Tryz.prog 3 m (cT us) us.length),.abs (aH 3 1 A l.length c (bH l))] _
 exact aq.region (jK 2 [] [] (NN (aq.seq (aq.seq (rQ (jQ 4 [10] [(3,a_ 1 t)] (bN.Ct 2 (d:=(some 11)) (t:=129) (K:=3) (E:=133) (b:=m) (n:=us.length) (f:=(cT us)) (x:=(.tmp 10)) (ats:=#[129]) (λ_=>KB) KB (λ_=>KB) rfl Tryz.underlying129 (jQ 5 [16] [(3,a_ 1 t)] (NQ (NX (cP ((((us.length:Nat):Int):Int)>=(most:Int)) (λo6=>SR (jK 2 [4,5] [] (NN (aq.ret (aB.bD (aB.mem (λw hS=>aR.rN (l:=[.abs R]) ⟨m,A,c,l,next⟩ (show lC (next) l (us) most (aJ) from hT) (hS.pick (ar:=[0,1,2,3]) (l':=[.abs R]++rL 182 t most (aJ) (us) ⟨m,A,c,l,next⟩) rfl rfl)) (RT _ [1,0] (⟨rfl,rfl⟩)))))))) (λo6=>agY o6 (by omega)))))))))))))
theorem Hg {β:Bs} (t:Nat) (most aJ:Int) (us:bE Value) (x:Value) (hf:(us.length:Int)<most) :
 aW Tryz.prog β 217 #[vP t,x] [.abs (gj 182 t most aJ us)] (λv l=>v=.tuple #[vI (aS us),vI 0]/\l=[.abs (gj 182 t most (max aJ ((us.length:Int)+1)) (ins (aS us) x us))]):=by
 refine SE Tryz.func217 Tryz.ntmps217 (λR=>aq.seq (aq.Hf (Φ:=λx:TX=>lC x.next x.l us most aJ) (hp:=λx=>[.abs R]++rL 182 t most aJ us x) (λw hS=>(hS.pick (ar:=[1,0]) (l':=[.abs R]++[.abs (gj 182 t most aJ us)]) rfl rfl).wj) (λx hT=>?_)))
 obtain⟨m,A,c,l,next⟩:=x
 replace hT:lC next l us most aJ:=hT
 have hb:=hT.Od
 have hm0:=hT.yZ
 have hm1:=hT.y4
 have hn1:=hT.y5
 have hn2:=hT.Di
 have Oh:=hT.Bl
 have Rw:=hT.ti.count
 show aq _ _ _ _ _ [.abs R,.aD t [vI (most),vI (aJ),.map (some m),.slice A (l.length) (c),vI (next)] 182,.abs (bM Tryz.prog 3 m (cT us) us.length),.abs (aH 3 1 A l.length c (bH l))] _
 refine aq.region (jK 2 [] [] (NN (aq.seq (aq.seq (rQ (jQ 4 [10] [(3,a_ 1 t)] (bN.Ct 2 (d:=(some 11)) (t:=129) (K:=3) (E:=133) (b:=m) (n:=us.length) (f:=(cT us)) (x:=(.tmp 10)) (ats:=#[129]) (λ_=>KB) KB (λ_=>KB) rfl Tryz.underlying129 (jQ 5 [16] [(3,a_ 1 t)] (NQ (NX (cP ((((us.length:Nat):Int):Int)>=(most:Int)) (λo6=>agY o6 (by omega)) (λo6=>KX (SR (jK 5 [6] [(3,a_ 1 t)] (NZ (jK 6 [26] [(3,a_ 1 t)] (NN (cP ((((l.length:Nat):Int):Int)>(0:Int)) (λyI=>?_) (λyI=>?_)))))))))))))))))))
 ·refine aq.region ?_
  obtain⟨n,hn⟩:∃n,l.length=n+1:=⟨l.length-1,zc⟩
  refine av.tell (p:=∃g,A=some ⟨g,0,none⟩) (λw hS=>let ⟨F,h⟩:=hS.get (i:=3) rfl;aH.head h zc) (λ⟨g,hg⟩=>?_)
  subst hg
  refine jK 4 [31] [] (gL (args:=#[.iface 284 (.pointer (some ⟨t,3,none⟩))]) (pre:=[.aD t [vI (most),vI (aJ),.map (some m),.slice (some ⟨g,0,none⟩) (l.length) (c),vI (next)] 182,.abs (aH 3 1 (some ⟨g,0,none⟩) l.length c (bH l))]) [1,3] (ac5 hn (by have:=hT.ti.heap;rwa [hn] at this) hT.ti.inj zc) ?_)
  rintro _ _ ⟨rfl,l2,rfl,hp2,hi2,hm2,rfl⟩
  exact jK 5 [6] [] (NS (sl 6 (vI ((at_ l 0))) (.int .i64 ((aS us))) (by rw [hT.ti.I5 zc]) (jK 6 [46,47,48] [(3,a_ 0 t)] (av.qO 3 (d:=none) (t:=129) (K:=3) (E:=133) (b:=m) (n:=us.length) (f:=(cT us)) (x:=(.tmp 46)) (ix:=(.tmp 47)) (y:=(.tmp 48)) (key:=vI ((aS us))) (u:=x) (kl:=(.int .i64 (aS us))) (n':=(us.length+1)) (f':=(cT (ins (aS us) x us))) (λ_=>KB) KB (λ_=>KB) (λ_=>KB) (λ_=>KB) iU Tryz.underlying129 (by unfold maxLen;omega) (vX zc zc) (by rw [Lr hb.2.2.1];rfl) (Kr hb.2.2.1 x) (NN (aq.seq (aq.wR 13 KB KB (kS.seg (k':=9) (bU:=[(6,vI ((aS us))),(49,vP t),(53,vI (aJ)),(57,.map (some m))]) (eZ:=[t=t,t=t]) [o_,o_,o_,o_,⟨[.at 0],none,none,none,none⟩,o_,o_,o_,⟨[.at 0],none,none,none,none⟩] [6,49,53,57] (λ_ _=>KB) ⟨rfl,rfl,trivial⟩ Pd (kS.Ct 3 (d:=(some 58)) (t:=129) (K:=3) (E:=133) (b:=m) (cnt:=(us.length+1)) (f:=(cT (ins (aS us) x us))) (x:=(.tmp 57)) (ats:=#[129]) (λ_=>KB) KB (λ_=>KB) rfl Tryz.underlying129 Pd (kS.seg (k':=13) (bU:=[(6,vI ((aS us))),(59,vI ((max aJ ((us.length:Int)+1)))),(61,.pointer (some ⟨t,1,none⟩))]) (eZ:=[(Value.int .i64 (if (((us.length+1):Nat):Int)>aJ then (((us.length+1):Nat):Int) else aJ))=(.int .i64 ((max aJ ((us.length:Int)+1))))]) [⟨[],none,none,none,some (vI ((max aJ ((us.length:Int)+1))))⟩,o_,o_] [6,59,61] (λ_ _=>KB) ⟨by rw [Tj];rfl,trivial⟩ Pd (kS.done rfl (jC 1 [] [(0,a_ 0 t)] [(0,[(1,vI ((max aJ ((us.length:Int)+1))))])] (NS (jK 3 [4,5] [] (NN (aq.ret (aB.gG [(3,.abs (bM Tryz.prog 3 m (cT (ins (aS us) x us)) ((ins (aS us) x us).length)))] (λw hS=>by rw [lu];exact hS) (aB.mem (λw hS=>aR.rN (l:=[.abs R]) ⟨m,some ⟨g,0,none⟩,c,l2,next⟩ (show lC (next) l2 ((ins (aS us) x us)) most ((max aJ ((us.length:Int)+1))) from ⟨by rw [hT.ti.I5 zc];exact hT.ti.Ys zc x zc hp2 hi2 hm2,by rw [lu];omega,zc,zc,zc,zc⟩) (hS.pick (ar:=[2,0,3,1]) (l':=[.abs R]++rL 182 t most ((max aJ ((us.length:Int)+1))) ((ins (aS us) x us)) ⟨m,some ⟨g,0,none⟩,c,l2,next⟩) rfl rfl)) (RT _ [1,0] (⟨rfl,rfl⟩))))))))))))))))))))
 refine aq.region ?_
 have hl0:l=[]:=ahC zc
 have hl1:l.length=0:=by rw [hl0];rfl
 have hl2:TI next [] us:=hl0 ▸ hT.ti
 exact jC 8 [] [(3,a_ 1 t),(4,wI (next+1) ((next+1))),(7,a_ 1 t)] [(1,[(4,vI ((next+1)))])] (NS (sl 6 (vI (next)) (.int .i64 ((aS us))) (by rw [hl2.I4]) (jK 6 [46,47,48] [(3,a_ 1 t)] (av.qO 2 (d:=none) (t:=129) (K:=3) (E:=133) (b:=m) (n:=us.length) (f:=(cT us)) (x:=(.tmp 46)) (ix:=(.tmp 47)) (y:=(.tmp 48)) (key:=vI ((aS us))) (u:=x) (kl:=(.int .i64 (aS us))) (n':=(us.length+1)) (f':=(cT (ins (aS us) x us))) (λ_=>KB) KB (λ_=>KB) (λ_=>KB) (λ_=>KB) iU Tryz.underlying129 (by unfold maxLen;omega) (vX zc zc) (by rw [Lr hb.2.2.1];rfl) (Kr hb.2.2.1 x) (NN (aq.seq (aq.wR 13 KB KB (kS.seg (k':=9) (bU:=[(6,vI ((aS us))),(49,vP t),(53,vI (aJ)),(57,.map (some m))]) (eZ:=[t=t,t=t]) [o_,o_,o_,o_,⟨[.at 1],none,none,none,none⟩,o_,o_,o_,⟨[.at 1],none,none,none,none⟩] [6,49,53,57] (λ_ _=>KB) ⟨rfl,rfl,trivial⟩ Pd (kS.Ct 2 (d:=(some 58)) (t:=129) (K:=3) (E:=133) (b:=m) (cnt:=(us.length+1)) (f:=(cT (ins (aS us) x us))) (x:=(.tmp 57)) (ats:=#[129]) (λ_=>KB) KB (λ_=>KB) rfl Tryz.underlying129 Pd (kS.seg (k':=13) (bU:=[(6,vI ((aS us))),(59,vI ((max aJ ((us.length:Int)+1)))),(61,.pointer (some ⟨t,1,none⟩))]) (eZ:=[(Value.int .i64 (if (((us.length+1):Nat):Int)>aJ then (((us.length+1):Nat):Int) else aJ))=(.int .i64 ((max aJ ((us.length:Int)+1))))]) [⟨[],none,none,none,some (vI ((max aJ ((us.length:Int)+1))))⟩,o_,o_] [6,59,61] (λ_ _=>KB) ⟨by rw [Tj];rfl,trivial⟩ Pd (kS.done rfl (jC 1 [] [(0,a_ 1 t)] [(1,[(1,vI ((max aJ ((us.length:Int)+1))))])] (NS (jK 3 [4,5] [] (NN (aq.ret (aB.gG [(2,.abs (bM Tryz.prog 3 m (cT (ins (aS us) x us)) ((ins (aS us) x us).length)))] (λw hS=>by rw [lu];exact hS) (aB.mem (λw hS=>aR.rN (l:=[.abs R]) ⟨m,A,c,l,(next+1)⟩ (show lC ((next+1)) l ((ins (aS us) x us)) most ((max aJ ((us.length:Int)+1))) from ⟨by rw [hl2.I4,hl0];exact hl2.Yr x,by rw [lu];omega,zc,zc,zc,zc⟩) (hS.pick (ar:=[0,1,2,3]) (l':=[.abs R]++rL 182 t most ((max aJ ((us.length:Int)+1))) ((ins (aS us) x us)) ⟨m,A,c,l,(next+1)⟩) rfl rfl)) (RT _ [1,0] (⟨rfl,rfl⟩))))))))))))))))))))
theorem Lu {β:Bs} (t:Nat) (most aJ:Int) (us:bE Value) (h:Int) (hw:(Lit.int .i64 h).wf=true) (x:Value) (hg:aF.get us h=some x) :
 aW Tryz.prog β 213 #[vP t,vI (h)] [.abs (gj 182 t most aJ us)] (λv l=>v=.tuple #[x,vI 0]/\l=[.abs (gj 182 t most aJ (del h us))]):=by
 refine SE Tryz.func213 Tryz.ntmps213 (λR=>SR (jK 2 [] [] (NS (jK 2 [9,10] [] (gE [0] (rO t most aJ us h hw x hg) (jK 5 [6,7] [] (NZ (jK 2 [15] [] (NT (aq.seq (aq.Hf (Φ:=λx:TX=>lC x.next x.l us most aJ) (hp:=λx=>[.abs R]++rL 182 t most aJ us x) (λw hS=>(hS.pick (ar:=[1,0]) (l':=[.abs R]++[.abs (gj 182 t most aJ us)]) rfl rfl).wj) (λx0 hT=>?_))))))))))))
 obtain⟨m,A,c,l,next⟩:=x0
 replace hT:lC next l us most aJ:=hT
 have hb:=hT.Od
 have hm0:=hT.yZ
 have hm1:=hT.y4
 have hn1:=hT.y5
 have hn2:=hT.Di
 have Oh:=hT.Bl
 have Rw:=hT.ti.count
 have hk:=get_some hg
 show aq _ _ _ _ _ [.abs R,.aD t [vI (most),vI (aJ),.map (some m),.slice A (l.length) (c),vI (next)] 182,.abs (bM Tryz.prog 3 m (cT us) us.length),.abs (aH 3 1 A l.length c (bH l))] _
 refine aq.region (jK 5 [19,20] [(3,a_ 1 t)] (av.Iw 2 (d:=none) (t:=129) (K:=3) (E:=133) (b:=m) (n:=us.length) (f:=(cT us)) (x:=(.tmp 19)) (ix:=(.tmp 20)) (key:=vI (h)) (kl:=(.int .i64 h)) (n':=(us.length-1)) (f':=(cT (del h us))) (ats:=#[129,3]) (λ_=>KB) KB (λ_=>KB) (λ_=>KB) rfl iU Tryz.underlying129 (mA hw) (by rw [show cT us (.int .i64 h)=some x from hg];rfl) (Rt) (NN (aq.region (jK 6 [24,26] [] (gL (args:=#[.iface 284 (.pointer (some ⟨t,3,none⟩)),.iface 3 (.int .i64 (h))]) (pre:=[.aD t [vI (most),vI (aJ),.map (some m),.slice A (l.length) (c),vI (next)] 182,.abs (aH 3 1 A l.length c (bH l))]) [1,3] (abT h hT.ti.heap zc) ?_))))))
 rintro _ _ ⟨rfl,g,c',l2,hsm,hp2,rfl⟩
 refine NS (jK 4 [4,5] [] (NN (aq.ret ?_)))
 have hld:=wi hT.ti.fI hk
 exact aB.gG [(3,.abs (bM Tryz.prog 3 m (cT (del h us)) ((del h us).length)))] (λw hS=>by rw [show (del h us).length=us.length-1 by omega];exact hS) (aB.mem (λw hS=>aR.rN (l:=[.abs R]) ⟨m,some ⟨g,0,none⟩,c',l2,next⟩ (show lC (next) l2 ((del h us)) most (aJ) from ⟨hT.ti.drop hk hsm hp2,zc,hm1,hn1,hn2,Oh⟩) (hS.pick (ar:=[2,0,3,1]) (l':=[.abs R]++rL 182 t most (aJ) ((del h us)) ⟨m,some ⟨g,0,none⟩,c',l2,next⟩) rfl rfl)) (RT _ [1,0] (⟨rfl,rfl⟩)))
theorem Qx {β:Bs} (t:Nat) (most aJ:Int) (us:bE Value) (h:Int) (hw:(Lit.int .i64 h).wf=true) (hg:aF.get us h=none) :
 aW Tryz.prog β 213 #[vP t,vI (h)] [.abs (gj 182 t most aJ us)] (λv l=>v=.tuple #[.nilIface,vI 131]/\l=[.abs (gj 182 t most aJ us)]):=by
 exact SE Tryz.func213 Tryz.ntmps213 (λR=>SR (jK 2 [] [] (NS (jK 2 [9,10] [] (gE [0] (xL t most aJ us h hw hg) (jK 5 [6,7] [] (NZ (jK 2 [15] [] (NF (KX (zR ⟨rfl,rfl⟩)))))))))))
theorem Oi {β:Bs} (t:Nat) (most aJ:Int) (us:bE Value) :
 aW Tryz.prog β 88 #[vP t] [.abs (gj 182 t most aJ us)] (λv l=>∃A c,v=.slice A (bn us).length c/\l=[.abs (gj 182 t most aJ us),.abs (aH 3 1 A (bn us).length c (bH (bn us)))]):=by
 refine SE Tryz.func88 Tryz.ntmps88 (λR=>aq.seq (aq.Hf (Φ:=λx:TX=>lC x.next x.l us most aJ) (hp:=λx=>[.abs R]++rL 182 t most aJ us x) (λw hS=>(hS.pick (ar:=[1,0]) (l':=[.abs R]++[.abs (gj 182 t most aJ us)]) rfl rfl).wj) (λx hT=>?_)))
 obtain⟨m,A,c,l,next⟩:=x
 replace hT:lC next l us most aJ:=hT
 have hb:=hT.Od
 have hm0:=hT.yZ
 have hm1:=hT.y4
 have hn1:=hT.y5
 have hn2:=hT.Di
 have Oh:=hT.Bl
 have Rw:=hT.ti.count
 show aq _ _ _ _ _ [.abs R,.aD t [vI (most),vI (aJ),.map (some m),.slice A (l.length) (c),vI (next)] 182,.abs (bM Tryz.prog 3 m (cT us) us.length),.abs (aH 3 1 A l.length c (bH l))] _
 refine aq.region (jK 1 [] [] (NS (jK 4 [6] [(3,a_ 1 t)] (gX [] (Og (some m)) (λbk=>gL [3,0] (I7 m bk us.length (cT us) zc) ?_)))))
 rintro _ _ ⟨A2,c2,ss,rfl,hks,hsl,rfl⟩
 refine jK 1 [2] [] (NN (aq.ret ?_))
 have hkk:=Rv hT.ti.fI hks
 exact aB.mem (λw hS=>aR.rN (l:=[.abs R,.abs (aH 3 1 A2 ss.length c2 (bH ss))]) ⟨m,A,c,l,next⟩ (show lC (next) l (us) most (aJ) from hT) (hS.pick (ar:=[3,2,4,0,5]) (l':=[.abs R,.abs (aH 3 1 A2 ss.length c2 (bH ss))]++rL 182 t most (aJ) (us) ⟨m,A,c,l,next⟩) rfl rfl)) (RT (l:=[.abs (gj 182 t most aJ us),.abs (aH 3 1 A2 ss.length c2 (bH ss))]) (.slice A2 (ss.length) (c2)) [2,1,0] (⟨A2,c2,by rw [hkk],by rw [hkk]⟩))
end
section
open Go.RowKit Go.Maps bK aF
theorem aW.wg {P:Program} {β:Bs} {f:FuncId} {args:Array Value} {pre R:List HP} {post:Value->List HP->Prop} (h:∀β':Bs,pW β R β'->aW P β' f args pre post):aW P β f args (pre++R) (λv l=>∃l0,post v l0/\l=l0++R):=by
 intro A w hS
 have h1:=aR.turn hS
 rw [←ahp] at h1
 obtain⟨β',g1,_,g3⟩:=h1.wg
 refine (h β' g1 A w (aR.turn g3)).mono ?_
 rintro e w' ⟨v,l,h1,h2,h3⟩
 refine⟨v,l++R,h1,⟨l,h2,rfl⟩,?_⟩
 have h4:=g1.back (aR.turn h3)
 rw [ahp] at h4
 exact aR.turn h4
def cV (L:HL) (us:bE Th):bE Value:=us.map λq=>(q.1,iw L q.2)
theorem j4 (L:HL) (us:bE Th) (h:Int):cT (cV L us) (.int .i64 h)=(aF.get us h).map (iw L):=get_map (iw L) us h
theorem Kt {L:HL} {us:bE Th} {h:Int}:qd (cT (cV L us)) (.int .i64 h) none=cT (cV L (del h us)):=by
 rw [Rt]
 exact agX cT (Kq (iw L) h us).symm
theorem wk (L:HL) (us:bE Th):(cV L us).length=us.length:=ahf ..
theorem Hj (L:HL) (us:bE Th):bn (cV L us)=bn us:=keys_map (iw L) us
def tF (O:d9) (k:Nat):d9:=aZ O k (λo=>{o with aG:=true})
def ul (O:d9) (t:Th):Prop:=(af O t.k).aG=true/\(af O t.k).aK=0
instance (O:d9) (t:Th):Decidable (ul O t):=inferInstanceAs (Decidable (_/\_))
def kT (O:d9) (ar:bE Th) (t:Th):bE Th:=if ul O t then del (af O t.k).id ar else ar
def ql (O:d9) (used:Int) (t:Th):Int:=if ul O t then if t.kind=1 then used-(af O t.k).data.length else used else used
abbrev pF (f m t:Nat) (X:FM):HP:=.aD f [.int .i64 X.cN,.int .i64 X.cB,.int .i64 X.cH,.int .i64 X.cS,.int .i64 X.cZ,.map (some m),.pointer (some ⟨t,0,none⟩),.int .i64 X.last,.int .i64 X.ah,.int .i64 X.used] 135
abbrev pI (m:Nat) (L:HL) (us:bE Th):HP:=.abs (bM Tryz.prog 3 m (cT (cV L us)) us.length)
abbrev pT (t:Nat) (most aJ:Int) (L:HL) (us:bE Th):HP:=.abs (gj 182 t most aJ (cV L us))
abbrev pO (O:d9) (L:HL):HP:=.abs (aY (eM O L))
abbrev pD (O:d9) (L:HL):HP:=.abs (aY (dS O L))
abbrev pE (O:d9) (L:HL):HP:=.abs (aY (gq O L))
structure bB where
 X:FM
 O:d9
 ar:bE Th
 us:bE Th
 aJ:Int
abbrev pA (f m t:Nat) (L:HL) (S:bB):List HP:=[pF f m t S.X,pI m L S.ar,pT t S.X.cH S.aJ L S.us,pO S.O L,pD S.O L,pE S.O L]
structure aN where
 op:Int
 aL:Int
 other:Int
 name:ByteArray
 text:ByteArray
 dA:Option Addr
 dC:Nat
 data:List UInt8
 mode:Int
 bg:Int
 bh:Int
 aU:Int
 aI:Int
 code:Int
 answer:Int
def aQ (c:aN):List Value:=[.int .i64 c.op,.int .i64 c.aL,.int .i64 c.other,.string c.name,.string c.text,.slice c.dA c.data.length c.dC,.int .i64 c.mode,.int .i64 c.bg,.int .i64 c.bh,.int .i64 c.aU,.int .i64 c.aI,.int .i64 c.code,.int .i64 c.answer]
abbrev pC (cb:Nat) (c:aN):HP:=.aD cb (aQ c) 53
abbrev c0 (c:aN):aN:={c with answer:=0,code:=230}
def afx (L:HL):Except Int Nat->Value
 |.error e=>.tuple #[.pointer none,.int .i64 e]
 |.ok d=>.tuple #[.pointer (some ⟨L.b d,0,none⟩),.int .i64 0]
def afy (L:HL):Except Int Th->Value
 |.error e=>.tuple #[.nilIface,.int .i64 e]
 |.ok t=>.tuple #[iw L t,.int .i64 0]
noncomputable section
def iJ (O:d9) (us:bE Th) (h:Int) (name:ByteArray) (dZ:Int):Except Int Nat:=
 match aF.get us h with
 |none=>.error 131
 |some t=>
   if t.kind=2 then
    if (af O t.k).aG=true then .error 170
    else if cq name then if bits BinOp.and .i64 (af O t.k).mode dZ=dZ then .ok t.k else .error 175
    else .error 95
   else .error 173
def kW (s:ByteArray):Int:=
 if s=⟨#[]⟩ then 90 else if s.size>4096 then 93 else if qJ s then 0 else 91
def Room (X:FM) (ar:bE Th):Prop:=(ar.length:Int)<X.cN/\X.last<1099511627776/\X.ah<8192
instance (X:FM) (ar:bE Th):Decidable (Room X ar):=inferInstanceAs (Decidable (_/\_/\_))
def gu (X:FM) (O:d9) (ar:bE Th) (d:Nat) (name:ByteArray):Int:=
 if bL name (af O d).ah=none then if Room X ar then 0 else 177 else 171
def cR (X:FM) (kind mode:Int):bJ:=⟨X.last+1,mode,0,0,X.cS,X.cZ,0,0,false,kind,[],⟨#[]⟩,[],none⟩
def bA (X:FM):Nat:=(X.last+1).toNat
def gn (S:bB) (d:Nat) (name:ByteArray) (o:bJ):bB:=
 {S with
   X:={S.X with last:=S.X.last+1,ah:=S.X.ah+1}
   O:=dg S.X (aZ S.O (bA S.X) (λ_=>o)) d name ⟨bA S.X,o.kind⟩
   ar:=ins (S.X.last+1) ⟨bA S.X,o.kind⟩ S.ar}
def bp (S:bB) (d:Nat) (name:ByteArray) (t:Th):bB:=
 {S with
   X:={S.X with ah:=S.X.ah-1,used:=if (af (bq S.X S.O d name t) t.k).aV=0 then ql (tF (bq S.X S.O d name t) t.k) S.X.used t else S.X.used}
   O:=if (af (bq S.X S.O d name t) t.k).aV=0 then tF (bq S.X S.O d name t) t.k else bq S.X S.O d name t
   ar:=if (af (bq S.X S.O d name t) t.k).aV=0 then kT (tF (bq S.X S.O d name t) t.k) S.ar t else S.ar}
theorem xM {S:bB} {d:Nat} {name:ByteArray} {t:Th} (h:(af (bq S.X S.O d name t) t.k).aV=0):bp S d name t={S with X:={S.X with ah:=S.X.ah-1,used:=ql (tF (bq S.X S.O d name t) t.k) S.X.used t},O:=tF (bq S.X S.O d name t) t.k,ar:=kT (tF (bq S.X S.O d name t) t.k) S.ar t}:=by
 unfold bp
 simp only [agW h]
theorem xO {S:bB} {d:Nat} {name:ByteArray} {t:Th} (h:¬(af (bq S.X S.O d name t) t.k).aV=0):bp S d name t={S with X:={S.X with ah:=S.X.ah-1},O:=bq S.X S.O d name t}:=by
 unfold bp
 simp only [agV h]
def mF (S:bB) (d:Nat) (name:ByteArray) (mode:Int):Int×bB:=
 if gu S.X S.O S.ar d name=0 then (0,gn S d name (cR S.X 2 mode)) else (gu S.X S.O S.ar d name,S)
def jk (S:bB) (d:Nat) (name text:ByteArray):Int×bB:=
 if kW text=0 then
  if gu S.X S.O S.ar d name=0 then (0,gn S d name {cR S.X 3 511 with target:=text}) else (gu S.X S.O S.ar d name,S)
 else (kW text,S)
def iA (S:bB) (d:Nat) (name:ByteArray):Int×bB:=
 match bL name (af S.O d).ah with
 |none=>(170,S)
 |some t=>if t.kind=2 then (172,S) else (0,bp S d name t)
def jg (O:d9) (k:Nat):d9:=aZ O k (λo=>{o with up:=none})
def iZ (S:bB) (d:Nat) (name:ByteArray):Int×bB:=
 match bL name (af S.O d).ah with
 |none=>(170,S)
 |some t=>if t.kind=2 then if (af S.O t.k).ah=[] then (0,{bp S d name t with O:=jg (bp S d name t).O t.k}) else (178,S) else (173,S)
inductive su (O:d9) (sub:Nat):Nat->Prop
 |here:su O sub sub
 |up {k j:Nat}:(af O k).up=some j->su O sub j->su O sub k
instance (O:d9) (sub k:Nat):Decidable (su O sub k):=Classical.propDecidable _
def pK (S:bB) (d:Nat) (name:ByteArray) (to:Nat) (ay:ByteArray) (t:Th):bB:=
 {S with X:={S.X with ah:=S.X.ah-1+1},O:=dg S.X (bq S.X S.O d name t) to ay t}
def dm (S:bB) (d:Nat) (name:ByteArray) (to:Nat) (ay:ByteArray):Int×bB:=
 match bL name (af S.O d).ah with
 |none=>(170,S)
 |some t=>
   if t.kind=2/\su S.O t.k to then (174,S)
   else match bL ay (af S.O to).ah with
    |none=>(0,pK S d name to ay t)
    |some o=>
      if o=t then (0,S) else if o.kind=2 then (172,S) else if t.kind=2 then (173,S)
      else (0,pK (bp S to ay o) d name to ay t)
def dN (X:FM) (n:Nat):Nat:=(min (n:Int) (X.cB-X.used)).toNat
def gD (S:bB) (k:Nat) (bs:List UInt8):Int×Int×bB:=
 if bs=[] then (0,0,S)
 else if S.X.cB-S.X.used<=0 then (0,176,S)
 else ((dN S.X bs.length:Int),0,{S with
  X:={S.X with used:=S.X.used+(dN S.X bs.length:Int)}
  O:=aZ S.O k (λo=>{o with data:=o.data++bs.take (dN S.X bs.length),aU:=S.X.cS,aI:=S.X.cZ})})
def eE (S:bB) (t:Th):Int×Int×bB:=
 (if (S.us.length:Int)<S.X.cH then aS S.us else 0,if (S.us.length:Int)<S.X.cH then 0 else 130,{S with
  O:=if (S.us.length:Int)<S.X.cH then aZ S.O t.k (λo=>{o with aK:=o.aK+1}) else S.O
  us:=if (S.us.length:Int)<S.X.cH then ins (aS S.us) t S.us else S.us
  aJ:=if (S.us.length:Int)<S.X.cH then max S.aJ ((S.us.length:Int)+1) else S.aJ})
theorem om {S:bB} {t:Th} (h:(S.us.length:Int)<S.X.cH):eE S t=(aS S.us,0,{S with O:=aZ S.O t.k (λo=>{o with aK:=o.aK+1}),us:=ins (aS S.us) t S.us,aJ:=max S.aJ ((S.us.length:Int)+1)}):=by
 unfold eE
 simp only [agW h]
theorem oQ {S:bB} {t:Th} (h:¬(S.us.length:Int)<S.X.cH):eE S t=(0,130,S):=by
 unfold eE
 simp only [agV h]
abbrev vz:=Int×bB×aN
def kU (S:bB) (c:aN):vz:=
 match aF.get S.ar c.other with
 |none=>(141,S,c)
 |some t=>if t.kind=2 then ((eE S t).2.1,(eE S t).2.2,{c with answer:=(eE S t).1}) else (173,S,c)
def jI (O:d9) (us:bE Th) (c:aN):Except Int Th:=
 match iJ O us c.aL c.name 64 with
 |.error e=>.error e
 |.ok d=>match bL c.name (af O d).ah with
   |none=>.error 170
   |some t=>.ok t
def gV (S:bB) (c:aN):vz:=
 match jI S.O S.us c with
 |.error e=>(e,S,c)
 |.ok t=>if t.kind=3 then (174,S,c) else if t.kind=1 then (173,S,c) else ((eE S t).2.1,(eE S t).2.2,{c with answer:=(eE S t).1})
def fV (S:bB) (c:aN):vz:=
 match jI S.O S.us c with
 |.error e=>(e,S,c)
 |.ok t=>if t.kind=3 then (174,S,c) else if t.kind=2 then (172,S,c) else ((eE S t).2.1,(eE S t).2.2,{c with answer:=(eE S t).1})
def jS (m:Int):Prop:=0<=m/\m<=4095
instance (m:Int):Decidable (jS m):=inferInstanceAs (Decidable (_/\_))
def ja (S:bB) (c:aN):vz:=
 match iJ S.O S.us c.aL c.name 192 with
 |.error e=>(e,S,c)
 |.ok d=>if jS c.mode then ((mF S d c.name c.mode).1,(mF S d c.name c.mode).2,c) else (120,S,c)
def oA (S:bB) (d:Nat) (name:ByteArray) (mode:Int):Int×Int×bB:=
 if gu S.X S.O S.ar d name=0 then
  if (S.us.length:Int)<S.X.cH then
   (aS S.us,0,gn {S with us:=ins (aS S.us) ⟨bA S.X,1⟩ S.us,aJ:=max S.aJ ((S.us.length:Int)+1)} d name {cR S.X 1 mode with aK:=1})
  else (0,130,S)
 else (0,gu S.X S.O S.ar d name,S)
def fo (S:bB) (c:aN):vz:=
 match iJ S.O S.us c.aL c.name 192 with
 |.error e=>(e,S,c)
 |.ok d=>if jS c.mode then
  if gu S.X S.O S.ar d c.name=0 then ((oA S d c.name c.mode).2.1,(oA S d c.name c.mode).2.2,{c with answer:=(oA S d c.name c.mode).1})
  else (gu S.X S.O S.ar d c.name,S,c)
  else (120,S,c)
def iB (S:bB) (c:aN):vz:=
 match iJ S.O S.us c.aL c.name 192 with
 |.error e=>(e,S,c)
 |.ok d=>((jk S d c.name c.text).1,(jk S d c.name c.text).2,c)
def nH (S:bB) (d:Nat) (name:ByteArray) (to:Nat) (ay:ByteArray):Int×bB:=
 match bL name (af S.O d).ah with
 |none=>(170,S)
 |some t=>if t.kind=2 then (172,S)
   else if bL ay (af S.O to).ah=none then
    if S.X.ah<8192 then (0,{S with X:={S.X with ah:=S.X.ah+1},O:=dg S.X S.O to ay t}) else (177,S)
   else (171,S)
def dV (S:bB) (c:aN):vz:=
 match iJ S.O S.us c.aL c.name 64 with
 |.error e=>(e,S,c)
 |.ok d=>match iJ S.O S.us c.other c.text 192 with
   |.error e=>(e,S,c)
   |.ok to=>((nH S d c.name to c.text).1,(nH S d c.name to c.text).2,c)
def jA (S:bB) (c:aN):vz:=
 match iJ S.O S.us c.aL c.name 192 with
 |.error e=>(e,S,c)
 |.ok d=>((iA S d c.name).1,(iA S d c.name).2,c)
def j9 (S:bB) (c:aN):vz:=
 match iJ S.O S.us c.aL c.name 192 with
 |.error e=>(e,S,c)
 |.ok d=>((iZ S d c.name).1,(iZ S d c.name).2,c)
def iQ (S:bB) (c:aN):vz:=
 match iJ S.O S.us c.aL c.name 192 with
 |.error e=>(e,S,c)
 |.ok d=>match iJ S.O S.us c.other c.text 192 with
   |.error e=>(e,S,c)
   |.ok to=>((dm S d c.name to c.text).1,(dm S d c.name to c.text).2,c)
def ij (S:bB) (c:aN):vz:=
 match aF.get S.us c.aL with
 |none=>(131,S,c)
 |some t=>if t.kind=1 then ((gD S t.k c.data).2.1,(gD S t.k c.data).2.2,{c with answer:=(gD S t.k c.data).1}) else (172,S,c)
def qm (m:Int):Prop:=0<=m/\m<=2147483647
instance (m:Int):Decidable (qm m):=inferInstanceAs (Decidable (_/\_))
def cY (S:bB) (c:aN):vz:=
 match aF.get S.us c.aL with
 |none=>(131,S,c)
 |some t=>
   if (af S.O t.k).aG=true/\t.kind=2 then (170,S,c)
   else if jS c.mode then
    if qm c.bg/\qm c.bh then
     if fZ c.aU c.aI then (0,{S with O:=aZ S.O t.k (λo=>{o with mode:=c.mode,bg:=c.bg,bh:=c.bh,aU:=c.aU,aI:=c.aI})},c)
     else (20,S,c)
    else (11,S,c)
   else (120,S,c)
def nX (O:d9) (c:aN):Option Th->aN
 |none=>{c with other:=0,mode:=0,bg:=0,bh:=0,aU:=0,aI:=0}
 |some t=>{c with answer:=(af O t.k).id,other:=t.kind,mode:=(af O t.k).mode,bg:=(af O t.k).bg,bh:=(af O t.k).bh,aU:=(af O t.k).aU,aI:=(af O t.k).aI}
def nY (S:bB) (c:aN):vz:=
 match aF.get S.us c.aL with
 |none=>(131,S,nX S.O c none)
 |some t=>(0,S,nX S.O c (some t))
def jr (S:bB) (c:aN):vz:=
 match jI S.O S.us c with
 |.error e=>(e,S,nX S.O c none)
 |.ok t=>(0,S,nX S.O c (some t))
def tV (O:d9) (k:Nat):d9:=aZ O k (λo=>{o with aK:=o.aK-1})
def jT (S:bB) (c:aN):vz:=
 match aF.get S.us c.aL with
 |none=>(131,S,c)
 |some t=>(0,{S with
  X:={S.X with used:=ql (tV S.O t.k) S.X.used t}
  O:=tV S.O t.k
  ar:=kT (tV S.O t.k) S.ar t
  us:=del c.aL S.us},c)
def iC (S:bB) (c:aN):vz:=
 if c.op=1 then kU S c else if c.op=2 then gV S c else if c.op=3 then fV S c else if c.op=4 then ja S c
 else if c.op=5 then fo S c else if c.op=6 then iB S c else if c.op=7 then dV S c else if c.op=8 then jA S c
 else if c.op=9 then ij S c else if c.op=10 then cY S c else if c.op=11 then nY S c else if c.op=12 then jr S c
 else if c.op=13 then jT S c else if c.op=14 then j9 S c else if c.op=15 then iQ S c else (230,S,c)
def gF (S:bB) (c:aN):bB×aN:=
 ((iC S {c with answer:=0,code:=230}).2.1,{ (iC S {c with answer:=0,code:=230}).2.2 with code:=(iC S {c with answer:=0,code:=230}).1})
end
section sums
variable {V:Type} {g g':Int×V->Nat} {us:bE V} {h:Int} {v:V}
def gP (g:Int×V->Nat):bE V->Nat
 |[]=>0
 |p::r=>g p+gP g r
theorem Hl:gP g (ins h v us)=g (h,v)+gP g us:=by
 induction us with
 |nil=>rfl
 |cons p r ih=>
   grind [ins,gP]
theorem lD (hc:∀p∈us,g' p=g p):gP g' us=gP g us:=by
 induction us with
 |nil=>rfl
 |cons p r ih=>
   grind [gP]
theorem Rx (hc:∀p∈us,g' p<=g p):gP g' us<=gP g us:=by
 induction us with
 |nil=>exact ag5 _
 |cons p r ih=>
   grind [gP]
theorem Ab {p:Int×V} {r:bE V}:aF.get (p::r) h=if p.1=h then some p.2 else aF.get r h:=by
 unfold aF.get
 grind
theorem get_mem {us:bE V} (e:aF.get us h=some v):(h,v)∈us:=by
 induction us with
 |nil=>cases e
 |cons p r ih=>
   grind [Ab]
theorem oC {us:bE V} (hr:aF.dH (bn us)) (e:(h,v)∈us):aF.get us h=some v:=by
 induction us with
 |nil=>cases e
 |cons p r ih=>
   rw [keys_cons] at hr
   obtain⟨h1,h2⟩:=ahc.1 hr
   rw [Ab]
   rcases aha.1 e with e|e
   ·subst e;rw [agW rfl]
   have:p.1<h:=h1 h (ahe.2 ⟨(h,v),e,rfl⟩)
   rw [agV zc]
   exact ih h2 e
theorem sD (e:aF.get us h=some v):g (h,v)<=gP g us:=by
 have hm:=get_mem e
 induction us with
 |nil=>cases hm
 |cons p r ih=>
   grind [gP,Ab]
theorem Ho (hr:aF.dH (bn us)) (e:aF.get us h=some v) (hc:∀p∈us,p.1≠h->g' p=g p):gP g' us+g (h,v)=gP g us+g' (h,v):=by
 induction us with
 |nil=>cases e
 |cons p r ih=>
   rw [keys_cons] at hr
   obtain⟨h1,h2⟩:=ahc.1 hr
   rw [Ab] at e
   show g' p+gP g' r+_=g p+gP g r+_
   split at e
   ·rename_i e2
    cases e
    have e3:gP g' r=gP g r:=lD (λq hq=>hc q (ag6 _ hq) (by
     have:=h1 q.1 (ahe.2 ⟨q,hq,rfl⟩);omega))
    grind
   rename_i e2
   have:=ih h2 e (λq hq=>hc q (ag6 _ hq))
   have:=hc p (ag7 ..) e2
   omega
theorem Yu {p:Int×V} {r:bE V}:del h (p::r)=if p.1=h then del h r else p::del h r:=by
 grind [del]
theorem abU {us:bE V} (hn:h∉bn us):del h us=us:=by
 unfold del
 refine List.filter_eq_self.2 (λp hp=>?_)
 grind [bn,del]
theorem Hq (hr:aF.dH (bn us)) (e:aF.get us h=some v):gP g (del h us)+g (h,v)=gP g us:=by
 induction us with
 |nil=>cases e
 |cons p r ih=>
   rw [keys_cons] at hr
   obtain⟨h1,h2⟩:=ahc.1 hr
   rw [Ab] at e
   rw [Yu]
   show _=g p+gP g r
   split at e
   ·grind [abU]
   rename_i e2
   rw [agV e2]
   show g p+gP g (del h r)+_=_
   have:=ih h2 e
   omega
theorem Oj {us:bE V} (hr:aF.dH (bn us)):aF.dH (bn (del h us)):=by
 rw [ux]
 exact ahU _ hr
end sums
section afz
variable {n:ByteArray} {t:Th} {es:iW Th} {q:ByteArray×Th->Bool}
theorem Vu:(kO n t es).countP q=es.countP q+if q (n,t) then 1 else 0:=by
 induction es with
 |nil=>simp [kO,List.countP_cons]
 |cons e r ih=>
   grind [kO]
theorem Vv {es:iW Th} (hd:p4 es) (h:bL n es=some t):(kD n es).countP q+(if q (n,t) then 1 else 0)=es.countP q:=by
 induction es with
 |nil=>cases h
 |cons e r ih=>
   obtain⟨h1,h2⟩:=ahc.1 hd
   rw [qi] at h
   rw [List.countP_cons]
   by_cases he:e.1=n
   ·rw [agW he] at h
    have e1:kD n (e::r)=r:=by
     unfold kD
     rw [List.filter_cons,agV (by simp [he])]
     exact List.filter_eq_self.2 (λx hx=>Pe)
    grind
   grind [kD,p4,bL]
theorem Ol {e:ByteArray×Th} {es:iW Th} (h:e∈kD n es):e∈es/\e.1≠n:=by
 grind [kD]
theorem Ac {es:iW Th} (hd:p4 es) (h:(n,t)∈es):bL n es=some t:=by
 induction es with
 |nil=>cases h
 |cons e r ih=>
   obtain⟨h1,h2⟩:=ahc.1 hd
   grind [qi,p4,bL]
end afz
def aT (ar:bE Th) (t:Th):Prop:=aF.get ar (t.k:Int)=some t
def pN (es:iW Th):Prop:=es.Pairwise (λa b=>¬jy b.1 a.1)
def nw (ar:bE Th) (O:d9) (k:Nat):Nat:=gP (λp=>(af O p.2.k).ah.countP (λe=>decide (e.2.k=k))) ar
def tot (ar:bE Th) (O:d9):Nat:=gP (λp=>(af O p.2.k).ah.length) ar
def bytes (ar:bE Th) (O:d9):Nat:=gP (λp=>(af O p.2.k).data.length) ar
def hnd (us:bE Th) (k:Nat):Nat:=gP (λp=>if p.2.k=k then 1 else 0) us
structure qV (o:bJ):Prop where
 mode:0<=o.mode/\o.mode<=4095
 bg:0<=o.bg/\o.bg<=2147483647
 bh:0<=o.bh/\o.bh<=2147483647
 time:fZ o.aU o.aI
 data:o.kind≠1->o.data=[]
 ah:o.kind≠2->o.ah=[]
 target:dG o.kind o.target
structure Inv0 (S:bB):Prop where
 cN:0<=S.X.cN/\S.X.cN<=4096
 cB:0<=S.X.cB/\S.X.cB<=1099511627776
 cH:0<=S.X.cH/\S.X.cH<=1024
 now:fZ S.X.cS S.X.cZ
 last:0<=S.X.last/\S.X.last<=1099511627776
 fI:aF.dH (bn S.ar)
 len:S.ar.length<=4096
 ar:∀i t,aF.get S.ar i=some t->i=(t.k:Int)/\0<i/\i<=S.X.last
 ob:∀t,aT S.ar t->(af S.O t.k).id=(t.k:Int)/\(af S.O t.k).kind=t.kind/\(t.kind=1\/t.kind=2\/t.kind=3)
 mt:∀t,aT S.ar t->qV (af S.O t.k)
 ah:∀t,aT S.ar t->∀e∈(af S.O t.k).ah,cq e.1/\aT S.ar e.2
 sorted:∀t,aT S.ar t->pN (af S.O t.k).ah
 dead:∀k,(∀t,aT S.ar t->t.k≠k)->(af S.O k).ah=[]/\(af S.O k).up=none
 y6:∀k:Nat,S.X.last<(k:Int)->(af S.O k).kind=0
 total:S.X.ah=(tot S.ar S.O:Int)/\S.X.ah<=8192
 aV:∀t,aT S.ar t->(af S.O t.k).aV=(nw S.ar S.O t.k:Int)
 once:∀t,aT S.ar t->t.kind=2->(af S.O t.k).aV<=1
 aK:∀t,aT S.ar t->(af S.O t.k).aK=(hnd S.us t.k:Int)
 usr:aF.dH (bn S.us)
 xQ:∀x∈bn S.us,1<=x/\x<=S.aJ
 Gm:(S.us.length:Int)<=S.X.cH
 aJ:0<=S.aJ/\S.aJ<=S.X.cH
 us:∀h t,aF.get S.us h=some t->aT S.ar t/\t.kind≠3
 aG:∀t,aT S.ar t->(af S.O t.k).aG=true->(af S.O t.k).aV=0/\(af S.O t.k).ah=[]
 up:∀t,aT S.ar t->∀d,(af S.O t.k).up=some d↔t.kind=2/\aT S.ar ⟨d,2⟩/\∃n,bL n (af S.O d).ah=some t
 deep:∃dp:Nat->Nat,∀k d,(af S.O k).up=some d->dp d<dp k
 used:S.X.used=(bytes S.ar S.O:Int)/\S.X.used<=140737488355328
structure bR (S:bB):Prop extends Inv0 S where
 full:∀t,aT S.ar t->(af S.O t.k).aG=true->0<(af S.O t.k).aK
section at_
variable {X:FM} {O:d9} {d k:Nat} {name:ByteArray} {t:Th}
theorem kX (h:t.k≠d):af (bq X O d name t) k=if k=d then {af O d with ah:=kD name (af O d).ah,aU:=X.cS,aI:=X.cZ} else if k=t.k then {af O k with aV:=(af O k).aV-1} else af O k:=by
 grind [bq,xK,iX,fA]
theorem sU (h:t.k≠d):af (dg X O d name t) k=if k=d then {af O d with ah:=kO name t (af O d).ah,aU:=X.cS,aI:=X.cZ} else if k=t.k then {af O k with aV:=(af O k).aV+1,up:=if t.kind=2 then some d else (af O k).up} else af O k:=by
 grind [dg,xK,uw,fA,iX]
end at_
section counts
variable {ar:bE Th} {O O':d9} {d k:Nat} {n:ByteArray} {t:Th}
theorem Om {q:ByteArray×Th->Bool} (hr:aF.dH (bn ar)) (hd:aF.get ar (d:Int)=some ⟨d,2⟩) (hk:∀i u,aF.get ar i=some u->i=(u.k:Int)) (ho:∀x,x≠d->(af O' x).ah=(af O x).ah) (h1:(af O' d).ah=kD n (af O d).ah) (h2:p4 (af O d).ah) (h3:bL n (af O d).ah=some t) :
 gP (λp=>(af O' p.2.k).ah.countP q) ar+(if q (n,t) then 1 else 0)=gP (λp=>(af O p.2.k).ah.countP q) ar:=by
 grind [Ho,af,oC,Vv,kD,gP]
theorem Yv {q:ByteArray×Th->Bool} (hr:aF.dH (bn ar)) (hd:aF.get ar (d:Int)=some ⟨d,2⟩) (hk:∀i u,aF.get ar i=some u->i=(u.k:Int)) (ho:∀x,x≠d->(af O' x).ah=(af O x).ah) (h1:(af O' d).ah=kO n t (af O d).ah) :
 gP (λp=>(af O' p.2.k).ah.countP q) ar=gP (λp=>(af O p.2.k).ah.countP q) ar+(if q (n,t) then 1 else 0):=by
 grind [Ho,af,oC,Vu,kO,gP]
theorem xR:tot ar O=gP (λp=>(af O p.2.k).ah.countP (λ_=>true)) ar:=lD (λp _=>agU)
theorem Vw {q:ByteArray×Th->Bool} (ho:∀x,(af O' x).ah=(af O x).ah):gP (λp=>(af O' p.2.k).ah.countP q) ar=gP (λp=>(af O p.2.k).ah.countP q) ar:=lD (λp _=>by rw [ho])
theorem Vx:nw ar O k<=tot ar O:=by
 rw [xR]
 exact Rx (λp _=>List.countP_mono_left (λ_ _ _=>rfl))
theorem qW (hd:aF.get ar (d:Int)=some ⟨d,2⟩) (h:bL n (af O d).ah=some t):0<nw ar O t.k:=by
 exact ahg (List.countP_pos_iff.2 ⟨(n,t),rE h,agU⟩) (sD (g:=λp=>(af O p.2.k).ah.countP (λe=>decide (e.2.k=t.k))) hd)
theorem I8 (hr:aF.dH (bn ar)) (h:0<nw ar O k):∃i u,aF.get ar i=some u/\∃e∈(af O u.k).ah,e.2.k=k:=by
 apply ahk
 intro hn
 have:nw ar O k=gP (λ_=>0) ar:=lD (λp hp=>by
  show List.countP _ _=0
  rw [List.countP_eq_zero]
  intro e he hk
  exact hn ⟨p.1,p.2,oC hr hp,e,he,by simpa using hk⟩)
 have h0:∀us:bE Th,gP (λ_=>0) us=0:=λus=>by
  induction us with
  |nil=>rfl
  |cons p r ih=>show 0+_=0;rw [ih]
 rw [this,h0] at h
 omega
end counts
section inv
variable {S:bB} {d k:Nat} {name:ByteArray} {t u:Th}
theorem Inv0.key (h:Inv0 S) {i:Int} (e:aF.get S.ar i=some t):i=(t.k:Int):=(h.ar i t e).1
theorem Inv0.live (h:Inv0 S) {i:Int} (e:aF.get S.ar i=some t):aT S.ar t:=by
 have:=h.key e
 subst this
 exact e
theorem jt {ar:bE Th} (h1:aT ar t) (h2:aT ar u) (e:t.k=u.k):t=u:=by
 grind [aT]
theorem Inv0.kind (h:Inv0 S) (hl:aT S.ar t):(af S.O t.k).kind=t.kind:=(h.ob t hl).2.1
theorem Tl {x:ByteArray}:jy x x:=by unfold jy;simp
theorem pN.pP {es:iW Th} (h:pN es):p4 es:=List.Pairwise.imp (λ{a b} d8 e=>d8 (by rw [e];exact Tl)) h
theorem Inv0.pP (h:Inv0 S) (hl:aT S.ar t):p4 (af S.O t.k).ah:=(h.sorted t hl).pP
theorem Inv0.bS (h:Inv0 S) (hd:aT S.ar u) (hl:bL name (af S.O u.k).ah=some t):cq name/\aT S.ar t:=h.ah u hd _ (rE hl)
theorem Inv0.ne (h:Inv0 S) (hd:aT S.ar ⟨d,2⟩) (hl:bL name (af S.O d).ah=some t):t.k≠d:=λe=>by
 have h1:=(h.bS hd hl).2
 have h2:t=⟨d,2⟩:=jt h1 hd e
 subst h2
 have h3:=(h.up _ hd d).2 ⟨rfl,hd,name,hl⟩
 obtain⟨dp,hdp⟩:=h.deep
 have:dp d<dp d:=hdp _ _ h3
 omega
theorem Inv0.free (h:Inv0 S) (hk:S.X.last<(k:Int)) (hl:aT S.ar t):t.k≠k:=λe=>by
 have:=(h.ar _ t hl).2.2
 subst e
 omega
theorem qV.of {o o':bJ} (h:qV o) (e1:o'.mode=o.mode) (e2:o'.bg=o.bg) (e3:o'.bh=o.bh) (e4:fZ o'.aU o'.aI) (e5:o'.kind=o.kind) (e6:o'.data=o.data\/o.kind=1) (e7:o'.ah=o.ah\/o.kind=2) (e8:o'.target=o.target):qV o':=
 ⟨e1 ▸ h.mode,e2 ▸ h.bg,e3 ▸ h.bh,e4,λhk=>by
  rw [e5] at hk
  rcases e6 with e|e
  ·rw [e];exact h.data hk
  ·exact agY e hk,λhk=>by
  rw [e5] at hk
  rcases e7 with e|e
  ·rw [e];exact h.ah hk
  exact agY e hk,by rw [e5,e8];exact h.target⟩
theorem Inv0.own (h:Inv0 S) {f:bJ->bJ} {sI lE:Int} {us':bE Th} (f1:∀o,(f o).id=o.id) (f2:∀o,(f o).kind=o.kind) (f3:∀o,(f o).ah=o.ah) (f4:∀o,(f o).up=o.up) (f5:∀o,(f o).aV=o.aV) (f6:∀o,(f o).aG=o.aG)
 (hm:∀t,aT S.ar t->t.k=k->qV (f (af S.O k))) (ho:∀t,aT S.ar t->(af (aZ S.O k f) t.k).aK=(hnd us' t.k:Int))
 (u1:aF.dH (bn us')) (u2:∀x∈bn us',1<=x/\x<=lE) (u3:(us'.length:Int)<=S.X.cH) (u4:0<=lE/\lE<=S.X.cH) (u5:∀h t,aF.get us' h=some t->aT S.ar t/\t.kind≠3)
 (hu:sI=(bytes S.ar (aZ S.O k f):Int)/\sI<=140737488355328):Inv0 {S with X:={S.X with used:=sI},O:=aZ S.O k f,us:=us',aJ:=lE}:=by
 have g1:∀x,(af (aZ S.O k f) x).id=(af S.O x).id:=λx=>eG (g:=bJ.id) f1
 have g2:∀x,(af (aZ S.O k f) x).kind=(af S.O x).kind:=λx=>eG (g:=bJ.kind) f2
 have g3:∀x,(af (aZ S.O k f) x).ah=(af S.O x).ah:=λx=>eG (g:=bJ.ah) f3
 have g4:∀x,(af (aZ S.O k f) x).up=(af S.O x).up:=λx=>eG (g:=bJ.up) f4
 have g5:∀x,(af (aZ S.O k f) x).aV=(af S.O x).aV:=λx=>eG (g:=bJ.aV) f5
 have g6:∀x,(af (aZ S.O k f) x).aG=(af S.O x).aG:=λx=>eG (g:=bJ.aG) f6
 refine {h with ob:=λt hl=>?_,mt:=λt hl=>?_,ah:=λt hl=>?_,sorted:=λt hl=>?_,dead:=λx hx=>?_,y6:=λx hx=>by rw [g2];exact h.y6 x hx,total:=?_,aV:=λt hl=>?_,once:=λt hl=>?_,aK:=ho,usr:=u1,xQ:=u2,Gm:=u3,aJ:=u4,us:=u5,aG:=λt hl=>?_,up:=λt hl e=>?_,deep:=?_,used:=hu}
 ·rw [g1,g2];exact h.ob t hl
 ·show qV (af (aZ S.O k f) t.k)
  by_cases e:t.k=k
  ·rw [e,fA];exact hm t hl e
  rw [iX e];exact h.mt t hl
 ·rw [g3];exact h.ah t hl
 ·rw [g3];exact h.sorted t hl
 ·rw [g3,g4];exact h.dead x hx
 ·have:tot S.ar (aZ S.O k f)=tot S.ar S.O:=lD (λp _=>by rw [g3])
  show S.X.ah=(tot S.ar (aZ S.O k f):Int)/\_
  rw [this];exact h.total
 ·show (af (aZ S.O k f) t.k).aV=(nw S.ar (aZ S.O k f) t.k:Int)
  have:nw S.ar (aZ S.O k f) t.k=nw S.ar S.O t.k:=Vw g3
  rw [g5,this];exact h.aV t hl
 ·rw [g5];exact h.once t hl
 ·rw [g6,g5,g3];exact h.aG t hl
 ·grind [af,aZ,up,aT,bL]
 obtain⟨dp,hdp⟩:=h.deep
 exact⟨dp,λx e he=>hdp x e (by rw [g4] at he;exact he)⟩
def y7 (S:bB) (t:Th):bB:={S with X:={S.X with used:=ql S.O S.X.used t},ar:=kT S.O S.ar t}
theorem Inv0.y7 (h:Inv0 S) (ht:aT S.ar t) (hf:∀u,aT S.ar u->u≠t->(af S.O u.k).aG=true->0<(af S.O u.k).aK):bR (Proofs.YtbnfiigafobejaaGreat.y7 S t):=by
 by_cases hF:ul S.O t
 ·have e1:Proofs.YtbnfiigafobejaaGreat.y7 S t={S with X:={S.X with used:=S.X.used-(af S.O t.k).data.length},ar:=del (t.k:Int) S.ar}:=by
   unfold Proofs.YtbnfiigafobejaaGreat.y7 ql kT
   rw [agW hF,agW hF,(h.ob t ht).1]
   split
   ·rfl
   rename_i e
   have:=(h.mt t ht).data (by rw [h.kind ht];exact e)
   rw [this]
   simp
  rw [e1]
  obtain⟨hg,bZ⟩:=hF
  obtain⟨eF,hen⟩:=h.aG t ht hg
  have kx:∀x,aT (del (t.k:Int) S.ar) x↔aT S.ar x/\x.k≠t.k:=λx=>by
   grind [aT,zm]
  have hl0:nw S.ar S.O t.k=0:=by have:=h.aV t ht;omega
  have bX:∀x,aT S.ar x->∀e∈(af S.O x.k).ah,e.2.k≠t.k:=λx hx e he hk=>by
   have:0<nw S.ar S.O t.k:=ahg (List.countP_pos_iff.2 ⟨e,he,by simpa using hk⟩) (sD (g:=λp=>(af S.O p.2.k).ah.countP (λe=>decide (e.2.k=t.k))) hx)
   omega
  have hsum:∀q:ByteArray×Th->Bool,gP (λp=>(af S.O p.2.k).ah.countP q) (del (t.k:Int) S.ar)=gP (λp=>(af S.O p.2.k).ah.countP q) S.ar:=λq=>by
   have h1:=Hq (g:=λp:Int×Th=>(af S.O p.2.k).ah.countP q) h.fI ht
   grind
  refine {h with fI:=Oj h.fI,len:=?_,ar:=λi x e=>?_,ob:=λx hx=>h.ob x ((kx x).1 hx).1,mt:=λx hx=>h.mt x ((kx x).1 hx).1,ah:=λx hx e he=>?_,sorted:=λx hx=>h.sorted x ((kx x).1 hx).1,dead:=λx hx=>?_,total:=?_,aV:=λx hx=>?_,once:=λx hx=>h.once x ((kx x).1 hx).1,aK:=λx hx=>h.aK x ((kx x).1 hx).1,us:=λi x e=>?_,aG:=λx hx=>h.aG x ((kx x).1 hx).1,up:=λx hx e=>?_,used:=?_,full:=λx hx hg=>hf x ((kx x).1 hx).1 (λe=>((kx x).1 hx).2 (by rw [e])) hg}
  ·have h1:=wi h.fI (get_some ht)
   have h2:=h.len
   show (del (t.k:Int) S.ar).length<=4096
   omega
  ·have e:aF.get (del (t.k:Int) S.ar) i=some x:=e
   rw [zm] at e
   split at e
   ·cases e
   exact h.ar i x e
  ·have hx':=((kx x).1 hx).1
   have h1:=h.ah x hx' e he
   exact⟨h1.1,(kx _).2 ⟨h1.2,bX x hx' e he⟩⟩
  ·by_cases e:x=t.k
   ·subst e
    refine⟨hen,?_⟩
    cases hu:(af S.O t.k).up with
    |none=>rfl
    |some y=>
      obtain⟨_,h2,n,h3⟩:=(h.up t ht y).1 hu
      exact agY rfl (bX _ h2 _ (rE h3))
   exact h.dead x (λy hy e2=>hx y ((kx y).2 ⟨hy,λe3=>e (e2.symm.trans e3)⟩) e2)
  ·show S.X.ah=(tot (del (t.k:Int) S.ar) S.O:Int)/\_
   rw [xR,hsum,←xR];exact h.total
  ·show _=(nw (del (t.k:Int) S.ar) S.O x.k:Int)
   have:nw (del (t.k:Int) S.ar) S.O x.k=nw S.ar S.O x.k:=hsum _
   rw [this];exact h.aV x ((kx x).1 hx).1
  ·obtain⟨h1,h2⟩:=h.us i x e
   refine⟨(kx x).2 ⟨h1,λe2=>?_⟩,h2⟩
   have h3:=h.aK t ht
   have h4:0<hnd S.us t.k:=ahg (by simp [e2]) (sD (g:=λp:Int×Th=>if p.2.k=t.k then 1 else 0) e)
   omega
  ·rw [h.up x ((kx x).1 hx).1 e]
   constructor
   ·rintro⟨h1,h2,n,h3⟩
    refine⟨h1,(kx _).2 ⟨h2,λe2=>?_⟩,n,h3⟩
    have e2:e=t.k:=e2
    rw [e2,hen] at h3;cases h3
   grind
  obtain⟨h1,h2⟩:=h.used
  have h3:gP (λp:Int×Th=>(af S.O p.2.k).data.length) (del (t.k:Int) S.ar)+(af S.O t.k).data.length=gP (λp:Int×Th=>(af S.O p.2.k).data.length) S.ar:=Hq (g:=λp:Int×Th=>(af S.O p.2.k).data.length) h.fI ht
  grind [af,bytes,del]
 have e1:Proofs.YtbnfiigafobejaaGreat.y7 S t=S:=by
  unfold Proofs.YtbnfiigafobejaaGreat.y7 ql kT
  rw [agV hF,agV hF]
 rw [e1]
 refine {h with full:=λu hu hg=>?_}
 by_cases e:u=t
 ·subst e
  have h1:=h.aK u hu
  have:¬(af S.O u.k).aK=0:=λe=>hF ⟨hg,e⟩
  omega
 exact hf u hu e hg
end inv
section facts
variable {S:bB} {X:FM} {O:d9} {d k:Nat} {name:ByteArray} {t u:Th}
theorem eU {α:Type} {g:bJ->α} (h1:∀o es,g {o with ah:=es}=g o) (h2:∀o l,g {o with aV:=l}=g o) (h3:∀o a b,g {o with aU:=a,aI:=b}=g o):g (af (bq X O d name t) k)=g (af O k):=by
 unfold bq xK
 rw [eG (λo=>h2 o _),eG (λo=>h3 o _ _),eG (λo=>h1 o _)]
theorem mh {α:Type} {g:bJ->α} (h1:∀o es,g {o with ah:=es}=g o) (h2:∀o l,g {o with aV:=l}=g o) (h3:∀o a b,g {o with aU:=a,aI:=b}=g o) (h4:∀o u,g {o with up:=u}=g o):g (af (dg X O d name t) k)=g (af O k):=by
 unfold dg xK
 rw [eG (λo=>h3 o _ _),He h1 h2 h4]
theorem Inv0.hX (h:Inv0 S):0<=S.X.ah/\S.X.ah<=1048576/\-1125899906842624<=S.X.used/\S.X.used<=1125899906842624/\0<=S.X.last/\S.X.last<=1125899906842624:=by
 have:=h.total;have:=h.used;have:=h.last
 omega
theorem Inv0.lF (h:Inv0 S) (hl:aT S.ar t):(af S.O t.k).ah.length<=8192:=by
 have h1:=h.total
 have h2:(af S.O t.k).ah.length<=tot S.ar S.O:=sD (g:=λp:Int×Th=>(af S.O p.2.k).ah.length) hl
 omega
theorem Inv0.lb (h:Inv0 S) (hl:aT S.ar t):0<=(af S.O t.k).aV/\(af S.O t.k).aV<=8192:=by
 have h1:=h.total
 have h2:=h.aV t hl
 grind [nw,tot,Vx]
theorem ac8 {us:bE Th}:hnd us k<=us.length:=by
 have:hnd us k<=gP (λ_=>1) us:=Rx (λp _=>by split<;>omega)
 have h2:∀us:bE Th,gP (λ_=>1) us=us.length:=λus=>by
  induction us with
  |nil=>rfl
  |cons p r ih=>show 1+_=_;rw [ih,ahw];omega
 rw [h2] at this;exact this
theorem Inv0.Lv (h:Inv0 S) (hl:aT S.ar t):0<=(af S.O t.k).aK/\(af S.O t.k).aK<=1024:=by
 have h1:=h.aK t hl
 have h2:hnd S.us t.k<=S.us.length:=ac8
 have:=h.Gm;have:=h.cH
 omega
theorem Inv0.Oo (h:Inv0 S) (hl:aT S.ar t):(af S.O t.k).data.length<=1125899906842624:=by
 have h1:=h.used
 have h2:(af S.O t.k).data.length<=bytes S.ar S.O:=sD (g:=λp:Int×Th=>(af S.O p.2.k).data.length) hl
 omega
theorem Inv0.Tm (h:Inv0 S) (hl:aT S.ar t):(af S.O t.k).data.length<=140737488355328:=by
 have h1:=h.used
 have h2:(af S.O t.k).data.length<=bytes S.ar S.O:=sD (g:=λp:Int×Th=>(af S.O p.2.k).data.length) hl
 omega
theorem Inv0.Vy (h:Inv0 S) (hl:aT S.ar t):(Lit.int .i64 (af S.O t.k).id).wf=true:=by
 have h1:=h.ob t hl
 have h2:=h.ar _ t hl
 have h3:=h.last
 exact WalkArith.wf_i64 zc
theorem Inv0.sJ (h:Inv0 S) (hd:aT S.ar ⟨d,2⟩) (name:ByteArray):bL name (af S.O d).ah=none\/(∃k,bL name (af S.O d).ah=some ⟨k,1⟩/\aT S.ar ⟨k,1⟩)\/(∃k,bL name (af S.O d).ah=some ⟨k,2⟩/\aT S.ar ⟨k,2⟩)\/∃k,bL name (af S.O d).ah=some ⟨k,3⟩/\aT S.ar ⟨k,3⟩:=by
 cases e:bL name (af S.O d).ah with
 |none=>exact .inl rfl
 |some t=>
   obtain⟨k,kd⟩:=t
   have h1:=(h.bS hd e).2
   rcases (h.ob _ h1).2.2 with e2|e2|e2<;>subst e2
   all_goals grind
theorem Inv0.ac9 (h:Inv0 S) (i:Int):aF.get S.ar i=none\/(∃k,aF.get S.ar i=some ⟨k,1⟩/\aT S.ar ⟨k,1⟩)\/(∃k,aF.get S.ar i=some ⟨k,2⟩/\aT S.ar ⟨k,2⟩)\/∃k,aF.get S.ar i=some ⟨k,3⟩/\aT S.ar ⟨k,3⟩:=by
 cases e:aF.get S.ar i with
 |none=>exact .inl rfl
 |some t=>
   obtain⟨k,kd⟩:=t
   have h1:=h.live e
   rcases (h.ob _ h1).2.2 with e2|e2|e2<;>subst e2
   all_goals grind
theorem Inv0.hand (h:Inv0 S) (i:Int):aF.get S.us i=none\/(∃k,aF.get S.us i=some ⟨k,1⟩/\aT S.ar ⟨k,1⟩)\/∃k,aF.get S.us i=some ⟨k,2⟩/\aT S.ar ⟨k,2⟩:=by
 cases e:aF.get S.us i with
 |none=>exact .inl rfl
 |some t=>
   obtain⟨k,kd⟩:=t
   obtain⟨h1,h0⟩:=h.us i _ e
   rcases (h.ob _ h1).2.2 with e2|e2|e2
   all_goals grind
theorem Inv0.aeR (h:Inv0 S) (hd:aT S.ar ⟨d,2⟩) (hl:bL name (af S.O d).ah=some t):1<=S.X.ah:=by
 have h1:=h.total
 have h2:0<nw S.ar S.O t.k:=qW hd hl
 grind [nw,tot,Vx]
theorem Inv0.Gn (h:Inv0 S) (hd:aT S.ar ⟨d,2⟩) (hl:bL name (af S.O d).ah=some t):0<=S.X.ah-1/\S.X.ah-1<=1048576/\-1125899906842624<=S.X.used/\S.X.used<=1125899906842624/\0<=S.X.last/\S.X.last<=1125899906842624:=by
 have:=h.aeR hd hl;have:=h.hX
 omega
theorem wm {L:HL} {us:bE Th} {h:Int} (e:aF.get us h=none):aF.get (cV L us) h=none:=by
 unfold cV;rw [get_map,e];rfl
theorem qz {L:HL} {us:bE Th} {h:Int} (e:aF.get us h=some t):aF.get (cV L us) h=some (iw L t):=by
 unfold cV;rw [get_map,e];rfl
theorem zn {L:HL} {us:bE Th} {h:Int} (hn:aF.get us h=none):qd (cT (cV L us)) (.int .i64 h) (some (iw L t))=cT (cV L (ins h t us)):=by
 rw [Kr (get_none.1 (wm hn))]
 exact agX cT (Kp (iw L) h t us).symm
theorem Vz {L:HL} {us:bE Th}:aF.aS (cV L us)=aF.aS us:=by unfold aF.aS;rw [Hj]
theorem Ku {TT:TypeId} {L:HL} {us:bE Th} {v:Value} {l:List HP} {b:Nat} {most aJ:Int} (h:v=.tuple #[.int .i64 (aF.aS (cV L us)),.int .i64 0]/\l=[.abs (gj TT b most (max aJ (((cV L us).length:Int)+1)) (ins (aF.aS (cV L us)) (iw L t) (cV L us)))]):v=.tuple #[.int .i64 (aF.aS us),.int .i64 0]/\l=[.abs (gj TT b most (max aJ ((us.length:Int)+1)) (cV L (ins (aF.aS us) t us)))]:=by
 rw [Vz,wk] at h
 have e:ins (aF.aS us) (iw L t) (cV L us)=cV L (ins (aF.aS us) t us):=(Kp (iw L) (aF.aS us) t us).symm
 rw [e] at h
 exact h
theorem Yw {α:Type} {es:iW α} {n:ByteArray} (h:es=[]):bL n es=none:=by rw [h];rfl
end facts
section blocks
variable {O:d9} {L:HL} {k j:Nat} {t u:Th}
theorem FI (hk:(af O k).kind≠0) {F:Fp} {w:World} (h:(aY (eM O L)).h F w):∃cs T,w.heap[L.b k]?=some (.cells cs T (0,0)):=by
 obtain⟨G,g⟩:=aY.at k h
 rw [rI hk] at g
 exact⟨_,_,g.1⟩
theorem Ry (hk:(af O k).kind≠0) (hj:(af O j).kind≠0) {F:Fp} {w:World} (h:(aY (eM O L)).h F w) (e:L.b k=L.b j):k=j:=by
 apply ahk
 intro bX
 obtain⟨φ,h1,h2,_⟩:=h
 have g1:=h1 k
 have g2:=h1 j
 rw [rI hk] at g1
 rw [rI hj] at g2
 exact h2 k j bX (L.b k) ((g1.2 _).2 rfl) ((g2.2 _).2 e)
theorem Kv:Tryz.prog.underlying 144=some (.pointer 147):=KB
theorem Yx:Tryz.prog.underlying 138=some (.pointer 140):=KB
theorem Yy:Tryz.prog.underlying 141=some (.pointer 143):=KB
end blocks
theorem Yz {s:ByteArray}:0<=Lib.indexByte s.data.toList ((0:Int).toNat.toUInt8)↔¬qJ s:=by
 have hge:=Lib.indexByte_ge s.data.toList ((0:Int).toNat.toUInt8)
 constructor
 ·intro h hn
  obtain⟨o,ho⟩:=Int.eq_ofNat_of_zero_le h
  have h1:=(Lib.indexByte_some ho).1
  obtain⟨h2,h3⟩:=El h1
  exact hn o h2 h3
 intro hn
 apply ahk
 intro fU
 refine hn (λj hj h0=>Lib.indexByte_none (show Lib.indexByte s.data.toList ((0:Int).toNat.toUInt8) = -1 by omega) j ?_)
 rw [wS hj]
 congr 1
 apply ahz.1
 exact h0
theorem Qy {β:Bs} (s:ByteArray):aW Tryz.prog β 142 #[.string s,.int .u8 0] [] (λv l=>(∃x:Int,v=.int .i64 x/\(0<=x↔¬qJ s))/\l=[]):=
 λ_ w hS=>(Tryz.strings_IndexByte s 0 w).mono λ_ _ ⟨h1,h2⟩=>⟨_,[],h1,⟨⟨_,rfl,Yz⟩,rfl⟩,h2 ▸ hS⟩
section ptr
variable {O:d9} {L:HL} {k j:Nat}
theorem YA:∃j,Tryz.prog.info? 147=some j/\j.size≠0:=by
 have h:(match Tryz.prog.info? 147 with|some j=>j.size != 0|none=>false)=true:=KB
 grind
theorem VA {w:World} {o:Oper} {ev:Operand->Value} {x y:Operand} (ho:o.op=.binOp .eql 144 x y 144) (hx:ev x=.pointer (some ⟨L.b k,0,none⟩)) (hy:ev y=.pointer (some ⟨L.b j,0,none⟩)) (hk:(af O k).kind≠0) (hj:(af O j).kind≠0) {F:Fp} (hF:(aY (eM O L)).h F w) :
 sG Tryz.prog ev o w (.bool (decide (k=j))) w:=by
 obtain⟨dst,op,type,pos,after,guard⟩:=o
 cases ho
 refine .inl ?_
 simp only [execOp,hx,hy]
 obtain⟨ca,ta,ha⟩:=FI hk hF
 obtain⟨cb,tb,hb⟩:=FI hj hF
 obtain⟨i,hi,eT⟩:=YA
 have h1:(binOp .eql 144 (.pointer (some ⟨L.b k,0,none⟩)) (.pointer (some ⟨L.b j,0,none⟩))).run Tryz.prog w=.ok (.bool (decide (k=j))) w:=by
  by_cases e:k=j
  ·subst e
   rw [run_eql_ptr_same _ _ Kv hi]
   simp
  rw [run_eql_ptr_other _ Kv hi eT (λh=>e (Ry hk hj hF (agX Addr.block h))) ha hb]
  simp [e]
 simp [go_sem,eqGuard,h1]
def Kw (tp te:TypeId):Prop:=Tryz.prog.underlying tp=some (.pointer te)/\(∃i,Tryz.prog.info? tp=some i/\i.comparable=true)/\∃j,Tryz.prog.info? te=some j/\j.size≠0
theorem Kx {tp te:TypeId} (h1:Tryz.prog.underlying tp=some (.pointer te)) (h2:(match Tryz.prog.info? tp with|some j=>j.comparable|none=>false)=true) (h3:(match Tryz.prog.info? te with|some j=>j.size != 0|none=>false)=true):Kw tp te:=by
 grind [Kw]
theorem ada:Kw 138 140:=Kx Yx KB KB
theorem aeS:Kw 144 147:=Kx Kv KB KB
theorem adb:Kw 141 143:=Kx Yy KB KB
theorem Hr {tp te:TypeId} (hT:Kw tp te) {w:World} {o:Oper} {ev:Operand->Value} {x y:Operand} (ho:o.op=.binOp .eql 133 x y 133) (hx:ev x=.iface tp (.pointer (some ⟨L.b k,0,none⟩))) (hy:ev y=.iface tp (.pointer (some ⟨L.b j,0,none⟩))) (hk:(af O k).kind≠0) (hj:(af O j).kind≠0) {F:Fp} (hF:(aY (eM O L)).h F w) :
 sG Tryz.prog ev o w (.bool (decide (k=j))) w:=by
 obtain⟨dst,op,type,pos,after,guard⟩:=o
 cases ho
 refine .inl ?_
 simp only [execOp,hx,hy]
 obtain⟨ca,ta,ha⟩:=FI hk hF
 obtain⟨cb,tb,hb⟩:=FI hj hF
 obtain⟨g1,⟨i,hi,hc⟩,j',hj',eT⟩:=hT
 have h1:(binOp .eql 133 (.iface tp (.pointer (some ⟨L.b k,0,none⟩))) (.iface tp (.pointer (some ⟨L.b j,0,none⟩)))).run Tryz.prog w=.ok (.bool (decide (k=j))) w:=by
  by_cases e:k=j
  ·subst e
   rw [run_eql_iface_ptr_same _ _ Tryz.underlying133 g1 hi hc hj']
   simp
  rw [run_eql_iface_ptr_other _ Tryz.underlying133 g1 hi hc hj' eT (λh=>e (Ry hk hj hF (agX Addr.block h))) ha hb]
  simp [e]
 simp [go_sem,eqGuard,h1]
end ptr
structure Bn (O:d9) (ar us:bE Th) (k:Nat):Prop where
 up:∀x,(af O x).up≠some k
 ah:∀x,∀e∈(af O x).ah,e.2.k≠k
 ar:∀p∈ar,p.2.k≠k
 us:∀p∈us,p.2.k≠k
section fresh
variable {S:bB} {O:d9} {ar us:bE Th} {L L':HL} {k b m c:Nat} {A:Option Addr} {o:bJ} {t:Th}
theorem qX (h:Inv0 S):(bA S.X:Int)=S.X.last+1:=by
 have:=h.last
 unfold bA
 omega
theorem Inv0.CD (h:Inv0 S) (ht:aT S.ar t):t.k≠bA S.X:=h.free (by have:=qX h;omega) ht
theorem Inv0.Ky (h:Inv0 S) (hk:S.X.last<(k:Int)):Bn S.O S.ar S.us k:=by
 have key:∀x,(∃t,aT S.ar t/\t.k=x)\/(af S.O x).ah=[]/\(af S.O x).up=none:=λx=>by
  by_cases hx:∃t,aT S.ar t/\t.k=x
  ·exact .inl hx
  exact .inr (h.dead x (λt ht e=>hx ⟨t,ht,e⟩))
 refine⟨λx e=>?_,λx e he=>?_,λp hp=>(h.free hk (h.live (oC h.fI hp))),λp hp=>(h.free hk (h.us _ _ (oC h.usr hp)).1)⟩
 ·rcases key x with ⟨t,ht,rfl⟩|hx
  ·obtain⟨_,h2,_⟩:=(h.up t ht _).1 e
   exact h.free hk h2 rfl
  rw [hx.2] at e;cases e
 rcases key x with ⟨t,ht,rfl⟩|hx
 ·exact h.free hk (h.ah t ht e he).2
 rw [hx.1] at he;cases he
theorem Inv0.fresh (h:Inv0 S):Bn S.O S.ar S.us (bA S.X):=h.Ky (by have:=qX h;omega)
theorem Dj (hL:L'=L.put k b m A c) {x:Nat} (h:x≠k):L'.b x=L.b x:=by subst hL;exact agV h
theorem I9 (hL:L'=L.put k b m A c):L'.b k=b:=by subst hL;exact agW rfl
theorem Oq (hL:L'=L.put k b m A c):L'.m k=m:=by subst hL;exact agW rfl
theorem VB (hL:L'=L.put k b m A c) (h:t.k≠k):iw L' t=iw L t:=by unfold iw;rw [Dj hL h]
theorem uS (hL:L'=L.put k b m A c) (kind:Int):iw L' ⟨k,kind⟩=.iface (thT kind) (.pointer (some ⟨b,0,none⟩)):=by unfold iw;rw [I9 hL]
theorem lW (hL:L'=L.put k b m A c) (h:∀p∈us,p.2.k≠k):cV L' us=cV L us:=ahx (λp hp=>by rw [VB hL (h p hp)])
theorem YB {es:iW Th} {n:ByteArray} (h:∀e∈es,e.2.k≠k) (e:bL n es=some t):t.k≠k:=h _ (rE e)
theorem YC (hL:L'=L.put k b m A c) {es:iW Th} (h:∀e∈es,e.2.k≠k):nE L' es=nE L es:=by
 unfold nE
 congr 1
 funext n
 cases e:bL n es with
 |none=>rfl
 |some t=>exact agX some (VB hL (YB h e))
theorem Rz (hL:L'=L.put k b m A c) (hf:Bn O ar us k) {x:Nat} (h:x≠k):eM O L' x=eM O L x:=by
 have e1:=Dj hL h
 have e2:lM L' x (af O x)=lM L x (af O x):=by
  unfold lM FC
  have h1:IZ L' (af O x).up=IZ L (af O x).up:=by
   cases hu:(af O x).up with
   |none=>rfl
   |some d=>show Value.pointer _=Value.pointer _;rw [Dj hL (λe=>hf.up x (by rw [hu,e]))]
  rw [h1]
  subst hL
  simp only [HL.put,agV h]
 unfold eM
 rw [e1,e2]
theorem Kz (hL:L'=L.put k b m A c) (hf:Bn O ar us k) {x:Nat} (h:x≠k):gq O L' x=gq O L x:=by
 unfold gq
 rw [YC hL (hf.ah x)]
 subst hL
 simp only [HL.put,agV h]
theorem FJ (hL:L'=L.put k b m A c) {x:Nat} (h:x≠k):dS O L' x=dS O L x:=by
 unfold dS
 subst hL
 simp only [HL.put,agV h]
end fresh
theorem Ad {O O':d9} {L:HL} (h1:∀x,(af O' x).data=(af O x).data) (h2:∀x,(af O' x).kind=(af O x).kind):dS O' L=dS O L:=by
 funext x
 unfold dS
 rw [h1,h2]
theorem mG {X:FM} {O:d9} {L:HL} {d:Nat} {name:ByteArray} {t:Th}:dS (dg X O d name t) L=dS O L:=
 Ad (λ_=>mh (g:=bJ.data) (λ_ _=>rfl) (λ_ _=>rfl) (λ_ _ _=>rfl) (λ_ _=>rfl)) (λ_=>Qv)
theorem qo {X:FM} {O:d9} {L:HL} {d:Nat} {name:ByteArray} {t:Th}:dS (bq X O d name t) L=dS O L:=
 Ad (λ_=>eU (g:=bJ.data) (λ_ _=>rfl) (λ_ _=>rfl) (λ_ _ _=>rfl)) (λ_=>fL)
theorem wo {α:Type} {g:bJ->α} {O:d9} {k j:Nat} (h:∀o b,g {o with aG:=b}=g o):g (af (tF O j) k)=g (af O k):=eG (f:=λo=>{o with aG:=true}) (λo=>h o true)
theorem YD {O:d9} {L:HL} {k:Nat}:dS (tF O k) L=dS O L:=Ad (λ_=>wo (g:=bJ.data) (λ_ _=>rfl)) (λ_=>wo (g:=bJ.kind) (λ_ _=>rfl))
theorem uy {S:bB} {L:HL} {d:Nat} {name:ByteArray} {t:Th}:dS (bp S d name t).O L=dS S.O L:=by
 unfold bp
 simp only
 split
 ·exact YD.trans qo
 exact qo
theorem Ja {S:bB} {d k:Nat} {name:ByteArray} {t:Th}:(af (bp S d name t).O k).kind=(af S.O k).kind:=by
 unfold bp
 simp only
 split
 ·exact (wo (g:=bJ.kind) (λ_ _=>rfl)).trans fL
 exact fL
theorem uT {X:FM} {O:d9} {ar:bE Th} {d:Nat} {name:ByteArray} (h:gu X O ar d name=0):bL name (af O d).ah=none:=by
 grind [gu]
theorem Cl {X:FM} {O:d9} {ar:bE Th} {d:Nat} {name:ByteArray} (h:gu X O ar d name=0):Room X ar:=by
 grind [gu]
theorem wX {X:FM} {O:d9} {ar:bE Th} {d:Nat} {name:ByteArray} (h:gu X O ar d name=0):X.last<1099511627776:=(Cl h).2.1
section sat
variable {β:Bs} {l l':List HP} {w:World} {i j k b m c:Nat} {O:d9} {us:bE Th} {idx' us':bE Th} {L L':HL} {cs:List Value} {T:TypeId} {ix:List Nat} {A:Option Addr} {o:bJ} {R R':Nat->eH}
theorem aR.less {p p':HP} (h:aR β l w) (hp:l[i]?=some p) (hs:∀F,p.h F w->∃F',p'.h F' w/\∀x,F' x->F x):aR β (l.set i p') w:=
 h.set hp (λF hF=>let ⟨F',h1,h2⟩:=hs F hF;⟨F',h1,⟨cJ.refl _ _,λk hk=>.inl (h2 k hk)⟩⟩)
theorem aR.EB (h:aR β l w) (hp:l[i]?=some (.abs (aY R))) (k:Nat) (hR:∀x,x≠k->R' x=R x) (ha:R' k=eH.none):aR β (l.set i (.abs (aY R'))) w:=by
 refine h.less hp ?_
 rintro F ⟨φ,h1,h2,h3⟩
 refine⟨λx=>∃i,i≠k/\φ i x,⟨λi=>if i=k then λ_=>False else φ i,λi=>?_,λi j bX x hx hy=>?_,λx=>⟨λ⟨i,bX,hx⟩=>⟨i,by simpa [bX] using hx⟩,λ⟨i,hx⟩=>?_⟩⟩,λx ⟨i,_,hx⟩=>(h3 x).2 ⟨i,hx⟩⟩
 ·by_cases e:i=k
  ·subst e;simp only [if_true];rw [ha];exact λ_ h=>h
  grind
 ·by_cases e1:i=k
  ·simp [e1] at hx
  by_cases e2:j=k
  ·simp [e2] at hy
  exact h2 i j bX x (by simpa [e1] using hx) (by simpa [e2] using hy)
 by_cases e1:i=k
 ·simp [e1] at hx
 exact⟨i,e1,by simpa [e1] using hx⟩
theorem aR.Bo (h:aR β l w) (hL:L'=L.put k b m A c) (hf:Bn O idx' us' k) (hp:l[i]?=some (.abs (aY (eM O L)))) (hq:l[j]?=some (.aD b cs T)) (hd:cD (i::j::ix)=true) (hl:cW l ix=some l') (h0:o.kind≠0) (hc:lM L' k o=cs) (hT:sE o.kind=T):aR β (.abs (aY (eM (aZ O k (λ_=>o)) L'))::l') w:=by
 refine h.wW (a:=G9 b cs T) hp hq (λ_ _ h=>h) hd hl k (λx hx=>?_) (by grind [CA,I9])
 rw [CB hx,Rz hL hf hx]
theorem aR.aaO (h:aR β l w) (hL:L'=L.put k b m A c) (hf:Bn O idx' us' k) (hp:l[i]?=some (.abs (aY (gq O L)))) (hq:l[j]?=some (.abs (bM Tryz.prog 9 m (λ_=>none) 0))) (hd:cD (i::j::ix)=true) (hl:cW l ix=some l') (h2:o.kind=2) (he:o.ah=[]):aR β (.abs (aY (gq (aZ O k (λ_=>o)) L'))::l') w:=by
 refine h.wW hp hq (λ_ _ h=>h) hd hl k (λx hx=>by rw [Er hx,Kz hL hf hx]) ?_
 grind [uQ,fA,Yk,Oq]
theorem aR.CG (h:aR β l w) (hL:L'=L.put k b m A c) (hf:Bn O idx' us' k) (hp:l[i]?=some (.abs (aY (gq O L)))) (h2:o.kind≠2):aR β (l.set i (.abs (aY (gq (aZ O k (λ_=>o)) L')))) w:=by
 refine h.EB hp k (λx hx=>by rw [Er hx,Kz hL hf hx]) ?_
 unfold gq;rw [fA,agV h2]
theorem aR.Jb (h:aR β l w) (hL:L'=L.put k b m A c) (hp:l[i]?=some (.abs (aY (dS O L)))) (h1:o.kind≠1):aR β (l.set i (.abs (aY (dS (aZ O k (λ_=>o)) L')))) w:=by
 refine h.EB hp k (λx hx=>by rw [Es hx,FJ hL hx]) ?_
 unfold dS;rw [fA,agV h1]
theorem aR.Tn (h:aR β l w) (hL:L'=L.put k b m none 0) (hp:l[i]?=some (.abs (aY (dS O L)))) (hq:l[j]?=some (.abs (aH 5 1 none 0 0 []))) (hd:cD (i::j::ix)=true) (hl:cW l ix=some l') (h1:o.kind=1) (he:o.data=[]):aR β (.abs (aY (dS (aZ O k (λ_=>o)) L'))::l') w:=by
 refine h.wW hp hq (λ_ _ h=>h) hd hl k (λx hx=>by rw [Es hx,FJ hL hx]) ?_
 rw [zX (by rw [fA];exact h1),fA,he]
 subst hL
 simp only [HL.put,if_true]
 rfl
end sat
section inv
variable {S:bB} {d:Nat} {name:ByteArray} {t:Th} {O':d9}
theorem pN.del {es:iW Th} (h:pN es):pN (kD name es):=ahU _ h
theorem Jc {x y:ByteArray}:¬jy x y↔vl y x<0:=by
 unfold jy
 rw [D7,Lib.toList_data,Lib.toList_data]
 have h1:=@Ld x.data.toList y.data.toList
 grind [Lg,Ea,vl]
theorem pN.ins {es:iW Th} (h:pN es) (hn:bL name es=none):pN (kO name t es):=by
 induction es with
 |nil=>exact List.pairwise_singleton ..
 |cons e r ih=>
   obtain⟨h1,h2⟩:=ahc.1 h
   have jP:=Df.1 hn
   unfold kO
   split
   ·rename_i fU
    refine ahc.2 ⟨λx hx=>?_,h⟩
    grind [Jc,IB]
   rename_i dU
   refine ahc.2 ⟨λx hx=>?_,ih h2 (Df.2 (λx hx=>jP x (ag6 _ hx)))⟩
   grind [G7,Jc,vl,Ea,Lg]
theorem Inv0.cut (hI:Inv0 S) (hd:aT S.ar ⟨d,2⟩) (hl:bL name (af S.O d).ah=some t) {g:Bool}
 (hO:∀k,af O' k=if k=d then {af S.O d with ah:=kD name (af S.O d).ah,aU:=S.X.cS,aI:=S.X.cZ} else if k=t.k then {af S.O k with aV:=(af S.O k).aV-1,aG:=g,up:=none} else af S.O k)
 (hg:g=(af S.O t.k).aG\/(af S.O t.k).aV-1=0/\(t.kind=2->(af S.O t.k).ah=[])):Inv0 {S with X:={S.X with ah:=S.X.ah-1},O:=O' }:=by
 have bX:=hI.ne hd hl
 have ht:=(hI.bS hd hl).2
 have oD:af O' d={af S.O d with ah:=kD name (af S.O d).ah,aU:=S.X.cS,aI:=S.X.cZ}:=by rw [hO,agW rfl]
 have oT:af O' t.k={af S.O t.k with aV:=(af S.O t.k).aV-1,aG:=g,up:=none}:=by rw [hO,agV bX,agW rfl]
 have oX:∀x,x≠d->x≠t.k->af O' x=af S.O x:=Pe
 have Gp:∀{α:Type} (G:bJ->α),(∀o es a b,G {o with ah:=es,aU:=a,aI:=b}=G o)->(∀o l g,G {o with aV:=l,aG:=g,up:=none}=G o)->∀x,G (af O' x)=G (af S.O x):=λG h1 h2 x=>by
  grind
 have fId:=Gp bJ.id (λ_ _ _ _=>rfl) (λ_ _ _=>rfl)
 have Jd:=Gp bJ.kind (λ_ _ _ _=>rfl) (λ_ _ _=>rfl)
 have Tp:=Gp bJ.data (λ_ _ _ _=>rfl) (λ_ _ _=>rfl)
 have fOp:=Gp bJ.aK (λ_ _ _ _=>rfl) (λ_ _ _=>rfl)
 have fE:∀x,x≠d->(af O' x).ah=(af S.O x).ah:=λx hx=>by
  grind
 have Lw:(af O' d).ah=kD name (af S.O d).ah:=by rw [oD]
 have eF:0<nw S.ar S.O t.k:=qW hd hl
 have fU:=hI.aV t ht
 have hky:∀i u,aF.get S.ar i=some u->i=(u.k:Int):=λi u e=>hI.key e
 have hsum:∀q:ByteArray×Th->Bool,_:=λq=>Om (q:=q) hI.fI hd hky fE Lw (hI.pP hd) hl
 have YE:∀x,nw S.ar O' x+(if t.k=x then 1 else 0)=nw S.ar S.O x:=λx=>by
  have h1:=hsum (λe=>decide (e.2.k=x))
  simp only [decide_eq_true_eq] at h1
  exact h1
 refine {hI with ob:=λx hx=>?_,mt:=λx hx=>?_,ah:=λx hx e he=>?_,sorted:=λx hx=>?_,dead:=λx hx=>?_,y6:=λx hx=>(Jd x).trans (hI.y6 x hx),total:=?_,aV:=λx hx=>?_,once:=λx hx hk=>?_,aK:=λx hx=>?_,aG:=λx hx oF=>?_,up:=λx hx e=>?_,deep:=?_,used:=?_}
 ·show (af O' x.k).id=_/\(af O' x.k).kind=_/\_
  rw [fId,Jd];exact hI.ob x hx
 ·show qV (af O' x.k)
  have hm:=hI.mt x hx
  by_cases e:x.k=d
  ·rw [e] at hm ⊢
   rw [oD]
   exact hm.of rfl rfl rfl hI.now rfl (.inl rfl) (.inr (hI.kind hd)) rfl
  by_cases e2:x.k=t.k
  ·rw [e2] at hm ⊢
   rw [oT]
   exact hm.of rfl rfl rfl hm.time rfl (.inl rfl) (.inl rfl) rfl
  rw [oX _ e e2];exact hm
 ·by_cases e1:x.k=d
  ·have he:e∈(af O' x.k).ah:=he
   rw [e1,Lw] at he
   exact hI.ah _ hd e (Ol he).1
  have he:e∈(af O' x.k).ah:=he
  rw [fE _ e1] at he
  exact hI.ah x hx e he
 ·show pN (af O' x.k).ah
  by_cases e1:x.k=d
  ·rw [e1,Lw];exact pN.del (hI.sorted _ hd)
  rw [fE _ e1];exact hI.sorted x hx
 ·show (af O' x).ah=[]/\(af O' x).up=none
  rw [oX x (λe=>hx _ hd e.symm) (λe=>hx t ht e.symm)]
  exact hI.dead x hx
 ·have h1:=hsum (λ_=>true)
  have h2:=hI.total
  grind [xR,tot]
 ·show (af O' x.k).aV=(nw S.ar O' x.k:Int)
  have h1:=YE x.k
  have h2:=hI.aV x hx
  grind
 ·show (af O' x.k).aV<=1
  have h1:=hI.once x hx hk
  grind
 ·show (af O' x.k).aK=_
  rw [fOp];exact hI.aK x hx
 ·have oF:(af O' x.k).aG=true:=oF
  show (af O' x.k).aV=0/\(af O' x.k).ah=[]
  by_cases e2:x.k=t.k
  ·rw [e2] at oF ⊢
   rw [fE _ bX,oT]
   rw [oT] at oF
   show (af S.O t.k).aV-1=0/\_
   rcases hg with h|⟨h1,h2⟩
   ·have oF:g=true:=oF
    rw [h] at oF
    have:=(hI.aG t ht oF).1
    omega
   refine⟨h1,?_⟩
   by_cases hk:t.kind=2
   ·exact h2 hk
   exact (hI.mt t ht).ah (by rw [hI.kind ht];exact hk)
  by_cases e:x.k=d
  ·rw [e,oD] at oF
   have:=(hI.aG _ hd oF).2
   rw [Yw this] at hl;cases hl
  rw [oX _ e e2] at oF ⊢;exact hI.aG x hx oF
 ·show (af O' x.k).up=some e↔x.kind=2/\aT S.ar ⟨e,2⟩/\∃n,bL n (af O' e).ah=some x
  by_cases e2:x.k=t.k
  ·have Lx:x=t:=jt hx ht e2
   subst Lx
   rw [oT]
   constructor
   ·intro h;cases h
   rintro⟨hk,dU,n,hn⟩
   have h1:=hI.once x hx hk
   grind [nw,qW,aT,bL,af,kD,up]
  have h1:(af O' x.k).up=(af S.O x.k).up:=by
   grind
  have h2:∀n,bL n (af O' e).ah=some x↔bL n (af S.O e).ah=some x:=λn=>by
   grind [xJ]
  rw [h1,hI.up x hx e]
  simp only [h2]
 ·obtain⟨dp,hdp⟩:=hI.deep
  refine⟨dp,λx e hx=>?_⟩
  grind
 have:bytes S.ar O'=bytes S.ar S.O:=lD (λp _=>by rw [Tp])
 show S.X.used=(bytes S.ar O':Int)/\_
 rw [this];exact hI.used
theorem Tq {O O1:d9} {s k:Nat} (h:∀x e,(af O1 x).up=some e->(af O x).up=some e) (hb:su O1 s k):su O s k:=by
 induction hb with
 |here=>exact .here
 |up hu _ ih=>exact .up (h _ _ hu) ih
theorem Lz {O:d9} {s k:Nat}:su O s k↔k=s\/∃e,(af O k).up=some e/\su O s e:=by
 constructor
 ·rintro (_|⟨h1,h2⟩)
  ·exact .inl rfl
  exact .inr ⟨_,h1,h2⟩
 rintro (h|⟨e,h1,h2⟩)
 ·subst h;exact .here
 exact .up h1 h2
theorem Inv0.put (hI:Inv0 S) (hd:aT S.ar ⟨d,2⟩) (lQ:(af S.O d).aG=false) (hn:bL name (af S.O d).ah=none) (j3:cq name) (ht:aT S.ar t) (Ru:(af S.O t.k).aG=false) (ade:t.kind=2->(af S.O t.k).aV=0/\¬su S.O t.k d) (htd:t.k≠d) (hroom:S.X.ah<8192) {ta tb:Int} (htm:fZ ta tb)
 (hO:∀k,af O' k=if k=d then {af S.O d with ah:=kO name t (af S.O d).ah,aU:=ta,aI:=tb} else if k=t.k then {af S.O k with aV:=(af S.O k).aV+1,up:=if t.kind=2 then some d else (af S.O k).up} else af S.O k) :
 Inv0 {S with X:={S.X with ah:=S.X.ah+1},O:=O' }:=by
 have bX:=htd
 have oD:af O' d={af S.O d with ah:=kO name t (af S.O d).ah,aU:=ta,aI:=tb}:=by rw [hO,agW rfl]
 have oT:af O' t.k={af S.O t.k with aV:=(af S.O t.k).aV+1,up:=if t.kind=2 then some d else (af S.O t.k).up}:=by rw [hO,agV bX,agW rfl]
 have oX:∀x,x≠d->x≠t.k->af O' x=af S.O x:=Pe
 have Gp:∀{α:Type} (G:bJ->α),(∀o es a b,G {o with ah:=es,aU:=a,aI:=b}=G o)->(∀o l u,G {o with aV:=l,up:=u}=G o)->∀x,G (af O' x)=G (af S.O x):=λG h1 h2 x=>by
  grind
 have fId:=Gp bJ.id (λ_ _ _ _=>rfl) (λ_ _ _=>rfl)
 have Jd:=Gp bJ.kind (λ_ _ _ _=>rfl) (λ_ _ _=>rfl)
 have Tp:=Gp bJ.data (λ_ _ _ _=>rfl) (λ_ _ _=>rfl)
 have fOp:=Gp bJ.aK (λ_ _ _ _=>rfl) (λ_ _ _=>rfl)
 have fG:=Gp bJ.aG (λ_ _ _ _=>rfl) (λ_ _ _=>rfl)
 have fE:∀x,x≠d->(af O' x).ah=(af S.O x).ah:=λx hx=>by
  grind
 have Lw:(af O' d).ah=kO name t (af S.O d).ah:=by rw [oD]
 have hky:∀i u,aF.get S.ar i=some u->i=(u.k:Int):=λi u e=>hI.key e
 have hsum:∀q:ByteArray×Th->Bool,_:=λq=>Yv (q:=q) hI.fI hd hky fE Lw
 have YE:∀x,nw S.ar O' x=nw S.ar S.O x+(if t.k=x then 1 else 0):=λx=>by
  have h1:=hsum (λe=>decide (e.2.k=x))
  simp only [decide_eq_true_eq] at h1
  exact h1
 have fU:=hI.aV t ht
 have agF:t.kind=2->∀e n,aT S.ar ⟨e,2⟩->bL n (af S.O e).ah≠some t:=λhk e n dU h=>by
  have h1:0<nw S.ar S.O t.k:=qW dU h
  have:=(ade hk).1
  omega
 refine {hI with ob:=λx hx=>?_,mt:=λx hx=>?_,ah:=λx hx e he=>?_,sorted:=λx hx=>?_,dead:=λx hx=>?_,y6:=λx hx=>(Jd x).trans (hI.y6 x hx),total:=?_,aV:=λx hx=>?_,once:=λx hx hk=>?_,aK:=λx hx=>?_,aG:=λx hx oF=>?_,up:=λx hx e=>?_,deep:=?_,used:=?_}
 ·show (af O' x.k).id=_/\(af O' x.k).kind=_/\_
  rw [fId,Jd];exact hI.ob x hx
 ·show qV (af O' x.k)
  have hm:=hI.mt x hx
  by_cases e:x.k=d
  ·rw [e] at hm ⊢
   rw [oD]
   exact hm.of rfl rfl rfl htm rfl (.inl rfl) (.inr (hI.kind hd)) rfl
  by_cases e2:x.k=t.k
  ·rw [e2] at hm ⊢
   rw [oT]
   exact hm.of rfl rfl rfl hm.time rfl (.inl rfl) (.inl rfl) rfl
  rw [oX _ e e2];exact hm
 ·have he:e∈(af O' x.k).ah:=he
  by_cases e1:x.k=d
  ·rw [e1,Lw] at he
   rcases G7.1 he with rfl|he
   ·exact⟨j3,ht⟩
   exact hI.ah _ hd e he
  rw [fE _ e1] at he
  exact hI.ah x hx e he
 ·show pN (af O' x.k).ah
  by_cases e1:x.k=d
  ·rw [e1,Lw];exact pN.ins (hI.sorted _ hd) hn
  rw [fE _ e1];exact hI.sorted x hx
 ·show (af O' x).ah=[]/\(af O' x).up=none
  rw [oX x (λe=>hx _ hd e.symm) (λe=>hx t ht e.symm)]
  exact hI.dead x hx
 ·have h1:=hsum (λ_=>true)
  have h2:=hI.total
  grind [xR,tot]
 ·show (af O' x.k).aV=(nw S.ar O' x.k:Int)
  have h1:=YE x.k
  have h2:=hI.aV x hx
  grind
 ·show (af O' x.k).aV<=1
  have h1:=hI.once x hx hk
  grind [jt,af]
 ·show (af O' x.k).aK=_
  rw [fOp];exact hI.aK x hx
 ·have oF:(af O' x.k).aG=true:=oF
  rw [fG] at oF
  show (af O' x.k).aV=0/\(af O' x.k).ah=[]
  by_cases e2:x.k=t.k
  ·rw [e2,Ru] at oF;cases oF
  by_cases e:x.k=d
  ·rw [e,lQ] at oF;cases oF
  rw [oX _ e e2];exact hI.aG x hx oF
 ·show (af O' x.k).up=some e↔x.kind=2/\aT S.ar ⟨e,2⟩/\∃n,bL n (af O' e).ah=some x
  by_cases e2:x.k=t.k
  ·have Lx:x=t:=jt hx ht e2
   subst Lx
   rw [oT]
   show (if x.kind=2 then some d else (af S.O x.k).up)=some e↔_
   by_cases hk:x.kind=2
   ·rw [agW hk]
    constructor
    ·intro h
     cases h
     exact⟨hk,hd,name,by rw [Lw,Ep hn,agW rfl]⟩
    grind
   rw [agV hk,hI.up x hx e]
   grind
  have h1:(af O' x.k).up=(af S.O x.k).up:=by
   grind
  have h2:∀n,bL n (af O' e).ah=some x↔bL n (af S.O e).ah=some x:=λn=>by
   grind [Ep]
  rw [h1,hI.up x hx e]
  simp only [h2]
 ·obtain⟨dp,hdp⟩:=hI.deep
  by_cases hk:t.kind=2
  ·obtain⟨hl0,hnb⟩:=ade hk
   have agG:(af S.O t.k).up=none:=by
    cases hu:(af S.O t.k).up with
    |none=>rfl
    |some e=>
      grind [aT,af,bL,cq,fZ,kO,up]
   refine⟨λx=>if su S.O t.k x then dp x+dp d+1 else dp x,λx e hx=>?_⟩
   grind [af,up,Lz]
  refine⟨dp,λx e hx=>?_⟩
  grind
 have:bytes S.ar O'=bytes S.ar S.O:=lD (λp _=>by rw [Tp])
 show S.X.used=(bytes S.ar O':Int)/\_
 rw [this];exact hI.used
end inv
section new
variable {S:bB} {d:Nat} {name:ByteArray} {t:Th} {o:bJ} {us':bE Th} {lE:Int}
theorem Inv0.newAt (hI:Inv0 S) {k0:Nat} (fU:S.X.last<(k0:Int)) (dU:(k0:Int)<=1099511627776) {sI:Int} (agn:sI=S.X.used+o.data.length/\sI<=140737488355328) (hid:o.id=(k0:Int)) (hk3:o.kind=1\/o.kind=2\/o.kind=3) (hl0:o.aV=0) (he0:o.ah=[]) (hu0:o.up=none) (hg0:o.aG=false) (hm:qV o) (jv:S.ar.length<4096)
 (u1:aF.dH (bn us')) (u2:∀x∈bn us',1<=x/\x<=lE) (u3:(us'.length:Int)<=S.X.cH) (u4:0<=lE/\lE<=S.X.cH) (u5:∀h t,aF.get us' h=some t->(aT S.ar t\/t=⟨k0,o.kind⟩)/\t.kind≠3) (u6:∀k,k≠k0->hnd us' k=hnd S.us k) (u7:o.aK=(hnd us' (k0):Int)) :
 Inv0 {S with X:={S.X with last:=(k0:Int),used:=sI},O:=aZ S.O (k0) (λ_=>o),ar:=ins ((k0:Int)) ⟨k0,o.kind⟩ S.ar,us:=us',aJ:=lE}:=by
 have hnot:aF.get S.ar ((k0:Int))=none:=by
  cases e:aF.get S.ar ((k0:Int)) with
  |none=>rfl
  |some u=>have:=(hI.ar _ u e).2.2;omega
 have hget:∀i,aF.get (ins ((k0:Int)) ⟨k0,o.kind⟩ S.ar) i=if i=(k0:Int) then some ⟨k0,o.kind⟩ else aF.get S.ar i:=by grind [wh,get_none]
 have kx:∀x,aT (ins ((k0:Int)) ⟨k0,o.kind⟩ S.ar) x↔x=⟨k0,o.kind⟩\/aT S.ar x:=λx=>by
  grind [aT]
 have oN:af (aZ S.O (k0) (λ_=>o)) (k0)=o:=fA
 have oX:∀x,aT S.ar x->af (aZ S.O (k0) (λ_=>o)) x.k=af S.O x.k:=λx hx=>iX (hI.free fU hx)
 have hfr:=hI.Ky fU
 have hmem:∀p∈S.ar,af (aZ S.O (k0) (λ_=>o)) p.2.k=af S.O p.2.k:=λp hp=>iX (hfr.ar p hp)
 have hsum:∀g:bJ->Nat,g o=0->gP (λp:Int×Th=>g (af (aZ S.O (k0) (λ_=>o)) p.2.k)) (ins ((k0:Int)) ⟨k0,o.kind⟩ S.ar)=gP (λp:Int×Th=>g (af S.O p.2.k)) S.ar:=λg hg=>by
  grind [Hl,af,lD]
 refine {hI with last:=?_,fI:=(zZ hI.fI (get_none.1 hnot)),len:=?_,ar:=λi x e=>?_,ob:=λx hx=>?_,mt:=λx hx=>?_,ah:=λx hx e he=>?_,sorted:=λx hx=>?_,dead:=λx hx=>?_,y6:=λx hx=>?_,total:=?_,aV:=λx hx=>?_,once:=λx hx hk=>?_,aK:=λx hx=>?_,usr:=u1,xQ:=u2,Gm:=u3,aJ:=u4,us:=λh x e=>?_,aG:=λx hx oF=>?_,up:=λx hx e=>?_,deep:=?_,used:=?_}
 ·grind
 ·grind [ins,lu]
 ·have e:aF.get (ins ((k0:Int)) ⟨k0,o.kind⟩ S.ar) i=some x:=e
  rw [hget] at e
  have:=hI.last
  show i=(x.k:Int)/\0<i/\i<=(k0:Int)
  split at e
  ·grind
  have:=hI.ar i x e
  omega
 ·show (af (aZ S.O (k0) (λ_=>o)) x.k).id=_/\(af (aZ S.O (k0) (λ_=>o)) x.k).kind=_/\_
  rcases (kx x).1 hx with h|h
  ·subst h;rw [oN];exact⟨hid,rfl,hk3⟩
  rw [oX x h];exact hI.ob x h
 ·show qV (af (aZ S.O (k0) (λ_=>o)) x.k)
  rcases (kx x).1 hx with h|h
  ·subst h;rw [oN];exact hm
  rw [oX x h];exact hI.mt x h
 ·have he:e∈(af (aZ S.O (k0) (λ_=>o)) x.k).ah:=he
  rcases (kx x).1 hx with h|h
  ·subst h;rw [oN,he0] at he;cases he
  rw [oX x h] at he
  have h1:=hI.ah x h e he
  exact⟨h1.1,(kx _).2 (.inr h1.2)⟩
 ·show pN (af (aZ S.O (k0) (λ_=>o)) x.k).ah
  rcases (kx x).1 hx with h|h
  ·subst h;rw [oN,he0];exact List.Pairwise.nil
  rw [oX x h];exact hI.sorted x h
 ·show (af (aZ S.O (k0) (λ_=>o)) x).ah=[]/\(af (aZ S.O (k0) (λ_=>o)) x).up=none
  have h1:x≠k0:=λe=>hx ⟨k0,o.kind⟩ ((kx _).2 (.inl rfl)) e.symm
  rw [iX h1]
  exact hI.dead x (λu hu=>hx u ((kx _).2 (.inr hu)))
 ·have hx:(k0:Int)<(x:Int):=hx
  show (af (aZ S.O (k0) (λ_=>o)) x).kind=0
  rw [iX (λe=>by rw [e] at hx;omega)]
  exact hI.y6 x zc
 ·show S.X.ah=(tot _ _:Int)/\S.X.ah<=8192
  have:tot (ins ((k0:Int)) ⟨k0,o.kind⟩ S.ar) (aZ S.O (k0) (λ_=>o))=tot S.ar S.O:=hsum (λo=>o.ah.length) (by rw [he0];rfl)
  rw [this];exact hI.total
 ·show (af (aZ S.O (k0) (λ_=>o)) x.k).aV=(nw _ _ x.k:Int)
  have:nw (ins ((k0:Int)) ⟨k0,o.kind⟩ S.ar) (aZ S.O (k0) (λ_=>o)) x.k=nw S.ar S.O x.k:=hsum (λo=>o.ah.countP (λe:ByteArray×Th=>decide (e.2.k=x.k))) (by rw [he0];rfl)
  rw [this]
  rcases (kx x).1 hx with h|h
  ·subst h
   rw [oN,hl0]
   have:nw S.ar S.O (k0)=0:=by
    apply ahk
    intro bX
    obtain⟨i,u,hu,e,he,hek⟩:=I8 hI.fI (Nat.pos_of_ne_zero bX)
    exact hfr.ah u.k e he hek
   rw [this];rfl
  rw [oX x h];exact hI.aV x h
 ·show (af (aZ S.O (k0) (λ_=>o)) x.k).aV<=1
  rcases (kx x).1 hx with h|h
  ·subst h;rw [oN,hl0];decide
  rw [oX x h];exact hI.once x h hk
 ·show (af (aZ S.O (k0) (λ_=>o)) x.k).aK=(hnd us' x.k:Int)
  rcases (kx x).1 hx with h|h
  ·subst h;rw [oN];exact u7
  rw [oX x h,u6 _ (hI.free fU h)];exact hI.aK x h
 ·grind
 ·have oF:(af (aZ S.O (k0) (λ_=>o)) x.k).aG=true:=oF
  show (af (aZ S.O (k0) (λ_=>o)) x.k).aV=0/\(af (aZ S.O (k0) (λ_=>o)) x.k).ah=[]
  rcases (kx x).1 hx with h|h
  ·subst h;rw [oN,hg0] at oF;cases oF
  rw [oX x h] at oF ⊢;exact hI.aG x h oF
 ·show (af (aZ S.O (k0) (λ_=>o)) x.k).up=some e↔x.kind=2/\aT _ ⟨e,2⟩/\∃n,bL n (af (aZ S.O (k0) (λ_=>o)) e).ah=some x
  rcases (kx x).1 hx with h|h
  ·subst h
   rw [oN,hu0]
   constructor
   ·intro h;cases h
   rintro⟨_,dU,n,h⟩
   by_cases e2:e=k0
   ·rw [e2,oN,he0] at h;cases h
   rw [iX e2] at h;exact agY rfl (hfr.ah e _ (rE h))
  rw [oX x h,hI.up x h e]
  constructor
  ·grind
  rintro⟨h1,h2,n,h3⟩
  by_cases e2:e=k0
  ·rw [e2,oN,he0] at h3;cases h3
  grind
 ·obtain⟨dp,hdp⟩:=hI.deep
  refine⟨dp,λx e hx=>?_⟩
  grind [af,aZ,up,iX]
 show sI=(bytes _ _:Int)/\_
 have h1:bytes (ins (k0:Int) ⟨k0,o.kind⟩ S.ar) (aZ S.O k0 (λ_=>o))=o.data.length+bytes S.ar S.O:=by
  grind [bytes,Hl,af,lD]
 have h2:=hI.used
 grind
theorem Inv0.new (hI:Inv0 S) (hid:o.id=S.X.last+1) (hk3:o.kind=1\/o.kind=2\/o.kind=3) (hl0:o.aV=0) (he0:o.ah=[]) (hu0:o.up=none) (hg0:o.aG=false) (hd0:o.data=[]) (hm:qV o) (hlast:S.X.last<1099511627776) (jv:(S.ar.length:Int)<S.X.cN)
 (u1:aF.dH (bn us')) (u2:∀x∈bn us',1<=x/\x<=lE) (u3:(us'.length:Int)<=S.X.cH) (u4:0<=lE/\lE<=S.X.cH) (u5:∀h t,aF.get us' h=some t->(aT S.ar t\/t=⟨bA S.X,o.kind⟩)/\t.kind≠3) (u6:∀k,k≠bA S.X->hnd us' k=hnd S.us k) (u7:o.aK=(hnd us' (bA S.X):Int)) :
 Inv0 {S with X:={S.X with last:=S.X.last+1},O:=aZ S.O (bA S.X) (λ_=>o),ar:=ins (S.X.last+1) ⟨bA S.X,o.kind⟩ S.ar,us:=us',aJ:=lE}:=by
 have hnk:=qX hI
 have h:=hI.newAt (k0:=bA S.X) (sI:=S.X.used) zc zc ⟨by rw [hd0];simp,hI.used.2⟩ (hid.trans hnk.symm) hk3 hl0 he0 hu0 hg0 hm (by have:=hI.cN;omega) u1 u2 u3 u4 u5 u6 u7
 rw [hnk] at h
 exact h
theorem bR.add (hI:bR S) (hd:aT S.ar ⟨d,2⟩) (lQ:(af S.O d).aG=false) (hn:bL name (af S.O d).ah=none) (j3:cq name) (hroom:Room S.X S.ar)
 (hid:o.id=S.X.last+1) (hk3:o.kind=1\/o.kind=2\/o.kind=3) (hl0:o.aV=0) (he0:o.ah=[]) (hu0:o.up=none) (hg0:o.aG=false) (hd0:o.data=[]) (hm:qV o)
 (u1:aF.dH (bn us')) (u2:∀x∈bn us',1<=x/\x<=lE) (u3:(us'.length:Int)<=S.X.cH) (u4:0<=lE/\lE<=S.X.cH) (u5:∀h t,aF.get us' h=some t->(aT S.ar t\/t=⟨bA S.X,o.kind⟩)/\t.kind≠3) (u6:∀k,k≠bA S.X->hnd us' k=hnd S.us k) (u7:o.aK=(hnd us' (bA S.X):Int)) :
 bR (gn {S with us:=us',aJ:=lE} d name o):=by
 have h1:=hI.toInv0.new hid hk3 hl0 he0 hu0 hg0 hd0 hm hroom.2.1 hroom.1 u1 u2 u3 u4 u5 u6 u7
 have bX:d≠bA S.X:=hI.CD hd
 have hnk:=qX hI.toInv0
 have hnot:aF.get S.ar (S.X.last+1)=none:=by
  cases e:aF.get S.ar (S.X.last+1) with
  |none=>rfl
  |some u=>have:=(hI.ar _ u e).2.2;omega
 have hget:∀i,aF.get (ins (S.X.last+1) ⟨bA S.X,o.kind⟩ S.ar) i=if i=S.X.last+1 then some ⟨bA S.X,o.kind⟩ else aF.get S.ar i:=by grind [wh,get_none]
 have hdl:aT (ins (S.X.last+1) ⟨bA S.X,o.kind⟩ S.ar) ⟨d,2⟩:=by
  grind [aT]
 have hnl:aT (ins (S.X.last+1) ⟨bA S.X,o.kind⟩ S.ar) ⟨bA S.X,o.kind⟩:=by
  unfold aT
  rw [hget,agW hnk]
 have oN:af (aZ S.O (bA S.X) (λ_=>o)) (bA S.X)=o:=fA
 have oD:af (aZ S.O (bA S.X) (λ_=>o)) d=af S.O d:=iX bX
 have hnb:¬su (aZ S.O (bA S.X) (λ_=>o)) (bA S.X) d:=λhb=>by
  have key:∀x,su (aZ S.O (bA S.X) (λ_=>o)) (bA S.X) x->x=bA S.X:=λx hx=>by
   induction hx with
   |here=>rfl
   | @up k j hu _ ih=>
     subst ih
     by_cases e:k=bA S.X
     ·exact e
     rw [iX e] at hu;exact agY hu (hI.fresh.up k)
  exact bX (key d hb)
 have h2:=h1.put (d:=d) (name:=name) (t:=⟨bA S.X,o.kind⟩) (O':=(gn {S with us:=us',aJ:=lE} d name o).O) hdl (by rw [oD];exact lQ) (by rw [oD];exact hn) j3 hnl (by rw [oN];exact hg0) (λ_=>⟨by rw [oN];exact hl0,hnb⟩) (λe=>bX e.symm) hroom.2.2 h1.now (λk=>sU (λe=>bX e.symm))
 refine⟨h2,λx hx oF=>?_⟩
 have g1:∀k,(af (gn {S with us:=us',aJ:=lE} d name o).O k).aG=(af (aZ S.O (bA S.X) (λ_=>o)) k).aG:=λk=>mh (g:=bJ.aG) (λ_ _=>rfl) (λ_ _=>rfl) (λ_ _ _=>rfl) (λ_ _=>rfl)
 have g2:∀k,(af (gn {S with us:=us',aJ:=lE} d name o).O k).aK=(af (aZ S.O (bA S.X) (λ_=>o)) k).aK:=λk=>mh (g:=bJ.aK) (λ_ _=>rfl) (λ_ _=>rfl) (λ_ _ _=>rfl) (λ_ _=>rfl)
 rw [g1] at oF
 rw [g2]
 by_cases e:x.k=bA S.X
 ·rw [e,oN,hg0] at oF;cases oF
 rw [iX e] at oF ⊢
 refine hI.full x ?_ oF
 grind [ins,bA,aT,af,bL,cq,Room,bn,hnd,gn]
end new
section drop
variable {S:bB} {d:Nat} {name:ByteArray} {t:Th}
theorem nZ {α:Type} {g:bJ->α} {O:d9} {k j:Nat} (h:∀o,g {o with up:=none}=g o):g (af (jg O j) k)=g (af O k):=eG (f:=λo=>{o with up:=none}) h
theorem EC {O:d9} {k:Nat}:ul (jg O k) t↔ul O t:=by
 unfold ul
 rw [nZ (g:=bJ.aG) (λ_=>rfl),nZ (g:=bJ.aK) (λ_=>rfl)]
theorem Ot {O:d9} {k:Nat} {u:Int}:ql (jg O k) u t=ql O u t:=by
 unfold ql
 simp only [EC,nZ (g:=bJ.data) (λ_=>rfl)]
theorem Ou {O:d9} {k:Nat} {ar:bE Th}:kT (jg O k) ar t=kT O ar t:=by
 unfold kT
 simp only [EC,nZ (g:=bJ.id) (λ_=>rfl)]
theorem bR.drop (hI:bR S) (hd:aT S.ar ⟨d,2⟩) (hl:bL name (af S.O d).ah=some t) (he:t.kind=2->(af S.O t.k).ah=[]):bR {bp S d name t with O:=jg (bp S d name t).O t.k}:=by
 have bX:=hI.ne hd hl
 have ht:=(hI.bS hd hl).2
 have eF:(af (bq S.X S.O d name t) t.k).aV=(af S.O t.k).aV-1:=by grind [kX]
 have hfull:∀(O2:d9),(∀u,u≠t.k->(af O2 u).aG=(af S.O u).aG/\(af O2 u).aK=(af S.O u).aK)->∀u,aT S.ar u->u≠t->(af O2 u.k).aG=true->0<(af O2 u.k).aK:=λO2 h u hu hut hg=>by
  have hk:u.k≠t.k:=λe=>hut (jt hu ht e)
  rw [(h _ hk).1] at hg
  rw [(h _ hk).2]
  exact hI.full u hu hg
 by_cases h0:(af (bq S.X S.O d name t) t.k).aV=0
 ·have e1:bp S d name t=_:=xM h0
  have hO:∀k,af (jg (tF (bq S.X S.O d name t) t.k) t.k) k=if k=d then {af S.O d with ah:=kD name (af S.O d).ah,aU:=S.X.cS,aI:=S.X.cZ} else if k=t.k then {af S.O k with aV:=(af S.O k).aV-1,aG:=true,up:=none} else af S.O k:=λk=>by
   unfold jg tF
   rw [Bk,j8]
   by_cases e:k=t.k
   ·rw [agW e,kX bX,agV (λe2=>bX (e.symm.trans e2)),agW e,agV (λe2=>bX (e.symm.trans e2)),agW e]
   rw [agV e,kX bX,agV e,agV e]
  have h1:=hI.toInv0.cut hd hl hO (.inr ⟨by rw [←eF];exact h0,he⟩)
  have h2:=h1.y7 (t:=t) ht (hfull _ (λu hu=>by
   rw [nZ (g:=bJ.aG) (λ_=>rfl),nZ (g:=bJ.aK) (λ_=>rfl)]
   show (af (aZ _ t.k _) u).aG=_/\(af (aZ _ t.k _) u).aK=_
   rw [iX hu,eU (g:=bJ.aG) (λ_ _=>rfl) (λ_ _=>rfl) (λ_ _ _=>rfl),eU (g:=bJ.aK) (λ_ _=>rfl) (λ_ _=>rfl) (λ_ _ _=>rfl)]
   exact⟨rfl,rfl⟩))
  rw [e1]
  unfold y7 at h2
  simp only [Ot,Ou] at h2
  exact h2
 have e1:bp S d name t=_:=xO h0
 have hnd:t.kind≠2:=λhk=>by
  have h1:=hI.once t ht hk
  have h2:=hI.aV t ht
  have h3:0<nw S.ar S.O t.k:=qW hd hl
  omega
 have Tr:(af S.O t.k).up=none:=by
  cases hu:(af S.O t.k).up with
  |none=>rfl
  |some e=>exact agY ((hI.up t ht e).1 hu).1 hnd
 have hO:∀k,af (jg (bq S.X S.O d name t) t.k) k=if k=d then {af S.O d with ah:=kD name (af S.O d).ah,aU:=S.X.cS,aI:=S.X.cZ} else if k=t.k then {af S.O k with aV:=(af S.O k).aV-1,aG:=(af S.O t.k).aG,up:=none} else af S.O k:=λk=>by
  unfold jg
  rw [j8]
  by_cases e:k=t.k
  ·rw [agW e,kX bX,agV (λe2=>bX (e.symm.trans e2)),agW e,agV (λe2=>bX (e.symm.trans e2)),agW e,e]
  rw [agV e,kX bX,agV e,agV e]
 have h1:=hI.toInv0.cut hd hl hO (.inl rfl)
 rw [e1]
 refine⟨h1,λu hu hg=>?_⟩
 have hg:(af (jg (bq S.X S.O d name t) t.k) u.k).aG=true:=hg
 show 0<(af (jg (bq S.X S.O d name t) t.k) u.k).aK
 rw [nZ (g:=bJ.aG) (λ_=>rfl),eU (g:=bJ.aG) (λ_ _=>rfl) (λ_ _=>rfl) (λ_ _ _=>rfl)] at hg
 rw [nZ (g:=bJ.aK) (λ_=>rfl),eU (g:=bJ.aK) (λ_ _=>rfl) (λ_ _=>rfl) (λ_ _ _=>rfl)]
 exact hI.full u hu hg
theorem YF {k:Nat}:(af (bp S d name t).O k).up=(af S.O k).up:=by
 unfold bp
 simp only
 split
 ·exact (wo (g:=bJ.up) (λ_ _=>rfl)).trans (eU (g:=bJ.up) (λ_ _=>rfl) (λ_ _=>rfl) (λ_ _ _=>rfl))
 exact eU (g:=bJ.up) (λ_ _=>rfl) (λ_ _=>rfl) (λ_ _ _=>rfl)
theorem bR.FL (hI:bR S) (hd:aT S.ar ⟨d,2⟩) (hl:bL name (af S.O d).ah=some t) (hk:t.kind≠2):bR (bp S d name t):=by
 have h:=hI.drop hd hl (λe=>agY e hk)
 have ht:=(hI.bS hd hl).2
 have Tr:(af S.O t.k).up=none:=by
  cases hu:(af S.O t.k).up with
  |none=>rfl
  |some e=>exact agY ((hI.up t ht e).1 hu).1 hk
 have e:jg (bp S d name t).O t.k=(bp S d name t).O:=abN (by
  have:(af (bp S d name t).O t.k).up=none:=YF.trans Tr
  rw [←this])
 rw [e] at h
 exact h
end drop
end
end Go.Proofs.YtbnfiigafobejaaGreat
section
namespace Go.Proofs.YtbnfiigafobejaaGreat.aF
open bK
variable {V:Type}
theorem LA (us:bE V) (p:Int×V):bn (us++[p])=bn us++[p.1]:=by simp [bn]
theorem Hs (us:bE V):(bn us).length=us.length:=by simp [bn]
theorem least_le {us:bE V} (hr:dH (bn us)) (hp:∀x∈bn us,1<=x):1<=aS us/\aS us∉bn us/\∀x,1<=x->x<aS us->x∈bn us:=qU (bn us) 1 hr hp
theorem sV:∀(ks:List Int) (h:Int),lP h ks<=h+ks.length
 |[],h=>by simp [lP]
 |k::r,h=>by
   unfold lP
   split
   ·have:=sV r (h+1);simp only [ahw];push_cast;omega
   simp only [ahw];push_cast;omega
theorem Qz (us:bE V):aS us<=us.length+1:=by
 have:=sV (bn us) 1
 rw [Hs] at this
 unfold aS;omega
end Go.Proofs.YtbnfiigafobejaaGreat.aF
end
namespace Go.Proofs.YtbnfiigafobejaaGreat
section
open Go.RowKit Go.Maps bK aF
section ops
variable {S:bB} {d to:Nat} {name ay:ByteArray} {t:Th}
theorem bR.link (hI:bR S) (hd:aT S.ar ⟨d,2⟩) (lQ:(af S.O d).aG=false) (hn:bL name (af S.O d).ah=none) (j3:cq name) (ht:aT S.ar t) (Ru:(af S.O t.k).aG=false) (hk:t.kind≠2) (hroom:S.X.ah<8192) :
 bR {S with X:={S.X with ah:=S.X.ah+1},O:=dg S.X S.O d name t}:=by
 have bX:t.k≠d:=by grind [jt]
 have h1:=hI.toInv0.put hd lQ hn j3 ht Ru (λe=>agY e hk) bX hroom hI.now (λk=>sU bX)
 refine⟨h1,λx hx hg=>?_⟩
 have hg:(af (dg S.X S.O d name t) x.k).aG=true:=hg
 show 0<(af (dg S.X S.O d name t) x.k).aK
 rw [mh (g:=bJ.aG) (λ_ _=>rfl) (λ_ _=>rfl) (λ_ _ _=>rfl) (λ_ _=>rfl)] at hg
 rw [mh (g:=bJ.aK) (λ_ _=>rfl) (λ_ _=>rfl) (λ_ _ _=>rfl) (λ_ _=>rfl)]
 exact hI.full x hx hg
theorem qp (bX:t.k≠d) {X:FM} {O:d9} (h:bL ay (af O to).ah=none):bL ay (af (bq X O d name t) to).ah=none:=by
 grind [kX,bL,kD,af,xJ]
theorem bR.move (hI:bR S) (hd:aT S.ar ⟨d,2⟩) (hl:bL name (af S.O d).ah=some t) (d6:aT S.ar ⟨to,2⟩) (lQ:(af S.O to).aG=false) (hn:bL ay (af S.O to).ah=none) (j3:cq ay) (hb:t.kind=2->¬su S.O t.k to):bR (pK S d name to ay t):=by
 have bX:=hI.ne hd hl
 have ht:=(hI.bS hd hl).2
 have Ov:t.k≠to:=λe=>by
  have h1:t=⟨to,2⟩:=jt ht d6 e
  exact hb (by rw [h1]) (by rw [e];exact .here)
 have hgt:(af S.O t.k).aG=false:=by
  cases hg:(af S.O t.k).aG with
  |false=>rfl
  |true=>
    have h1:=(hI.aG t ht hg).1
    have h2:=hI.aV t ht
    have h3:0<nw S.ar S.O t.k:=qW hd hl
    omega
 have hO:∀k,af (jg (bq S.X S.O d name t) t.k) k=if k=d then {af S.O d with ah:=kD name (af S.O d).ah,aU:=S.X.cS,aI:=S.X.cZ} else if k=t.k then {af S.O k with aV:=(af S.O k).aV-1,aG:=(af S.O t.k).aG,up:=none} else af S.O k:=λk=>by
  unfold jg
  rw [j8]
  by_cases e:k=t.k
  ·rw [agW e,kX bX,agV (λe2=>bX (e.symm.trans e2)),agW e,agV (λe2=>bX (e.symm.trans e2)),agW e,e]
  rw [agV e,kX bX,agV e,agV e]
 have h1:=hI.toInv0.cut hd hl hO (.inl rfl)
 have g0:∀{α:Type} (g:bJ->α),(∀o es,g {o with ah:=es}=g o)->(∀o l,g {o with aV:=l}=g o)->(∀o a b,g {o with aU:=a,aI:=b}=g o)->(∀o u,g {o with up:=u}=g o)->∀k,g (af (jg (bq S.X S.O d name t) t.k) k)=g (af S.O k):=λg a b c e k=>(nZ (λo=>e o none)).trans (eU a b c)
 have eF:=hI.aV t ht
 have hlp:0<nw S.ar S.O t.k:=qW hd hl
 have hend:(af (jg (bq S.X S.O d name t) t.k) to).ah=(af (bq S.X S.O d name t) to).ah:=nZ (g:=bJ.ah) (λ_=>rfl)
 have h2:=h1.put (d:=to) (name:=ay) (t:=t) (O':=(pK S d name to ay t).O) d6 (by
  show (af (jg (bq S.X S.O d name t) t.k) to).aG=false
  rw [g0 bJ.aG (λ_ _=>rfl) (λ_ _=>rfl) (λ_ _ _=>rfl) (λ_ _=>rfl)];exact lQ) (by
  show bL ay (af (jg (bq S.X S.O d name t) t.k) to).ah=none
  rw [hend];exact qp bX hn) j3 ht (by
  show (af (jg (bq S.X S.O d name t) t.k) t.k).aG=false
  rw [g0 bJ.aG (λ_ _=>rfl) (λ_ _=>rfl) (λ_ _ _=>rfl) (λ_ _=>rfl)];exact hgt) (λhk=>⟨by
   have h3:=hI.once t ht hk
   show (af (jg (bq S.X S.O d name t) t.k) t.k).aV=0
   rw [hO,agV bX,agW rfl]
   show (af S.O t.k).aV-1=0
   omega,λhb2=>hb hk (Tq (λx e hx=>by
    have hx:(af (jg (bq S.X S.O d name t) t.k) x).up=some e:=hx
    by_cases e1:x=t.k
    ·rw [hO,agV (by rw [e1];exact bX),agW e1] at hx;cases hx
    rw [hO] at hx
    split at hx
    ·rename_i e2;rw [e2];exact hx
    first|exact hx|(rw [agV e1] at hx;exact hx)) hb2)⟩) Ov (by
  have:=hI.total
  show S.X.ah-1<8192
  omega) hI.now (λk=>by
  show af (dg S.X (bq S.X S.O d name t) to ay t) k=_
  rw [sU Ov]
  by_cases e:k=to
  ·rw [agW e,agW e]
   have h3:af (jg (bq S.X S.O d name t) t.k) to=af (bq S.X S.O d name t) to:=iX (λe=>Ov e.symm)
   rw [show af _ to=_ from h3]
  rw [agV e,agV e]
  by_cases e2:k=t.k
  ·rw [agW e2,agW e2,e2]
   show _={af (jg (bq S.X S.O d name t) t.k) t.k with aV:=(af (jg (bq S.X S.O d name t) t.k) t.k).aV+1,up:=if t.kind=2 then some to else (af (jg (bq S.X S.O d name t) t.k) t.k).up}
   have h3:af (jg (bq S.X S.O d name t) t.k) t.k={af (bq S.X S.O d name t) t.k with up:=none}:=fA
   rw [h3]
   by_cases hk:t.kind=2
   ·rw [agW hk,agW hk]
   rw [agV hk,agV hk]
   have Tr:(af (bq S.X S.O d name t) t.k).up=none:=by
    rw [eU (g:=bJ.up) (λ_ _=>rfl) (λ_ _=>rfl) (λ_ _ _=>rfl)]
    cases hu:(af S.O t.k).up with
    |none=>rfl
    |some e=>exact agY ((hI.up t ht e).1 hu).1 hk
   rw [Tr]
  rw [agV e2,agV e2]
  have h3:af (jg (bq S.X S.O d name t) t.k) k=af (bq S.X S.O d name t) k:=iX e2
  exact h3.symm)
 refine⟨h2,λx hx hg=>?_⟩
 have g3:∀{α:Type} (g:bJ->α),(∀o es,g {o with ah:=es}=g o)->(∀o l,g {o with aV:=l}=g o)->(∀o a b,g {o with aU:=a,aI:=b}=g o)->(∀o u,g {o with up:=u}=g o)->∀k,g (af (pK S d name to ay t).O k)=g (af S.O k):=λg a b c e k=>(mh a b c e).trans (eU a b c)
 rw [g3 bJ.aG (λ_ _=>rfl) (λ_ _=>rfl) (λ_ _ _=>rfl) (λ_ _=>rfl)] at hg
 rw [g3 bJ.aK (λ_ _=>rfl) (λ_ _=>rfl) (λ_ _ _=>rfl) (λ_ _=>rfl)]
 exact hI.full x hx hg
theorem KA {us:bE Th} {h:Int} {k:Nat}:hnd (ins h t us) k=(if t.k=k then 1 else 0)+hnd us k:=Hl
theorem RA {us:bE Th} {h:Int} {k:Nat} (hr:aF.dH (bn us)) (e:aF.get us h=some t):hnd (del h us) k+(if t.k=k then 1 else 0)=hnd us k:=Hq (g:=λp:Int×Th=>if p.2.k=k then 1 else 0) hr e
theorem RG {us:bE Th} {aJ:Int} (hr:aF.dH (bn us)) (h1:∀x∈bn us,1<=x/\x<=aJ):aF.dH (bn (ins (aF.aS us) t us))/\∀x∈bn (ins (aF.aS us) t us),1<=x/\x<=max aJ ((us.length:Int)+1):=by
 obtain⟨g1,g2,_⟩:=least_le hr (λx hx=>(h1 x hx).1)
 have g3:=Qz us
 grind [zZ,rK]
theorem bR.eE (hI:bR S) (ht:aT S.ar t) (hk:t.kind≠3):bR (Proofs.YtbnfiigafobejaaGreat.eE S t).2.2:=by
 by_cases fU:(S.us.length:Int)<S.X.cH
 ·rw [om fU]
  obtain⟨g1,g2,_⟩:=least_le hI.usr (λx hx=>(hI.xQ x hx).1)
  obtain⟨v1,v2⟩:=RG (t:=t) hI.usr hI.xQ
  have hb:bytes S.ar (aZ S.O t.k (λo=>{o with aK:=o.aK+1}))=bytes S.ar S.O:=lD (λp _=>by rw [eG (f:=λo=>{o with aK:=o.aK+1}) (g:=bJ.data) (λ_=>rfl)])
  have h1:=hI.toInv0.own (k:=t.k) (f:=λo=>{o with aK:=o.aK+1}) (sI:=S.X.used) (us':=ins (aF.aS S.us) t S.us) (lE:=max S.aJ ((S.us.length:Int)+1)) (λ_=>rfl) (λ_=>rfl) (λ_=>rfl) (λ_=>rfl) (λ_=>rfl) (λ_=>rfl)
   (λu hu e=>by rw [←e];exact (hI.mt u hu).of rfl rfl rfl (hI.mt u hu).time rfl (.inl rfl) (.inl rfl) rfl)
   (λu hu=>by
    have h2:=hI.aK u hu
    rw [KA]
    by_cases e:u.k=t.k
    ·rw [e,fA,agW rfl,←e]
     show (af S.O u.k).aK+1=_
     omega
    rw [iX e,agV (λe2=>e e2.symm)];omega)
   v1 v2 (by rw [lu];omega) (by have:=hI.aJ;omega) (λh u e=>by
    rw [wh g2] at e
    split at e
    ·cases e;exact⟨ht,hk⟩
    exact hI.us h u e) ⟨by rw [hb];exact hI.used.1,hI.used.2⟩
  refine⟨h1,λu hu hg=>?_⟩
  have hg:(af (aZ S.O t.k (λo=>{o with aK:=o.aK+1})) u.k).aG=true:=hg
  rw [eG (f:=λo=>{o with aK:=o.aK+1}) (g:=bJ.aG) (λ_=>rfl)] at hg
  have h2:=hI.full u hu hg
  grind [af,aZ,fA,iX]
 rw [oQ fU];exact hI
theorem bR.gD (hI:bR S) {k:Nat} (ht:aT S.ar ⟨k,1⟩) (bs:List UInt8):bR (Proofs.YtbnfiigafobejaaGreat.gD S k bs).2.2:=by
 unfold Proofs.YtbnfiigafobejaaGreat.gD
 split
 ·exact hI
 split
 ·exact hI
 rename_i hroom
 have jv:(af (aZ S.O k (λo=>{o with data:=o.data++bs.take (dN S.X bs.length),aU:=S.X.cS,aI:=S.X.cZ})) k).data.length=(af S.O k).data.length+dN S.X bs.length:=by
  rw [fA]
  show ((af S.O k).data++bs.take (dN S.X bs.length)).length=_
  rw [ag4,ahi]
  unfold dN
  omega
 have hb:=Ho (g:=λp:Int×Th=>(af S.O p.2.k).data.length) (g':=λp:Int×Th=>(af (aZ S.O k (λo=>{o with data:=o.data++bs.take (dN S.X bs.length),aU:=S.X.cS,aI:=S.X.cZ})) p.2.k).data.length) hI.fI ht (λp hp bX=>by
  have h1:=hI.key (oC hI.fI hp)
  show (af (aZ _ k _) p.2.k).data.length=_
  rw [iX (λe=>bX (by rw [h1,e]))])
 have hb:bytes S.ar (aZ S.O k (λo=>{o with data:=o.data++bs.take (dN S.X bs.length),aU:=S.X.cS,aI:=S.X.cZ}))+(af S.O k).data.length=bytes S.ar S.O+(af (aZ S.O k (λo=>{o with data:=o.data++bs.take (dN S.X bs.length),aU:=S.X.cS,aI:=S.X.cZ})) k).data.length:=hb
 have hu:=hI.used
 have hcB:=hI.cB
 have h1:=hI.toInv0.own (k:=k) (f:=λo=>{o with data:=o.data++bs.take (dN S.X bs.length),aU:=S.X.cS,aI:=S.X.cZ}) (sI:=S.X.used+(dN S.X bs.length:Int)) (us':=S.us) (lE:=S.aJ) (λ_=>rfl) (λ_=>rfl) (λ_=>rfl) (λ_=>rfl) (λ_=>rfl) (λ_=>rfl)
  (λu hu e=>by
   have hk1:u=⟨k,1⟩:=jt hu ht e
   have aeT:=hI.kind hu
   rw [←e]
   exact (hI.mt u hu).of rfl rfl rfl hI.now rfl (.inr (by rw [aeT,hk1])) (.inl rfl) rfl)
  (λu hu=>by rw [eG (f:=λo=>{o with data:=o.data++bs.take (dN S.X bs.length),aU:=S.X.cS,aI:=S.X.cZ}) (g:=bJ.aK) (λ_=>rfl)];exact hI.aK u hu)
  hI.usr hI.xQ hI.Gm hI.aJ hI.us ⟨zc,by unfold dN;omega⟩
 refine⟨h1,λu hu hg=>?_⟩
 have hg:(af (aZ S.O k (λo=>{o with data:=o.data++bs.take (dN S.X bs.length),aU:=S.X.cS,aI:=S.X.cZ})) u.k).aG=true:=hg
 rw [eG (f:=λo=>{o with data:=o.data++bs.take (dN S.X bs.length),aU:=S.X.cS,aI:=S.X.cZ}) (g:=bJ.aG) (λ_=>rfl)] at hg
 show 0<(af (aZ S.O k (λo=>{o with data:=o.data++bs.take (dN S.X bs.length),aU:=S.X.cS,aI:=S.X.cZ})) u.k).aK
 rw [eG (f:=λo=>{o with data:=o.data++bs.take (dN S.X bs.length),aU:=S.X.cS,aI:=S.X.cZ}) (g:=bJ.aK) (λ_=>rfl)]
 exact hI.full u hu hg
theorem bR.aeU (hI:bR S) {k:Nat} {mode bg bh aU aI:Int} (h1:jS mode) (h2:qm bg/\qm bh) (h3:fZ aU aI):bR {S with O:=aZ S.O k (λo=>{o with mode:=mode,bg:=bg,bh:=bh,aU:=aU,aI:=aI})}:=by
 have hb:bytes S.ar (aZ S.O k (λo=>{o with mode:=mode,bg:=bg,bh:=bh,aU:=aU,aI:=aI}))=bytes S.ar S.O:=lD (λp _=>by rw [eG (f:=λo=>{o with mode:=mode,bg:=bg,bh:=bh,aU:=aU,aI:=aI}) (g:=bJ.data) (λ_=>rfl)])
 have g1:=hI.toInv0.own (k:=k) (f:=λo=>{o with mode:=mode,bg:=bg,bh:=bh,aU:=aU,aI:=aI}) (sI:=S.X.used) (us':=S.us) (lE:=S.aJ) (λ_=>rfl) (λ_=>rfl) (λ_=>rfl) (λ_=>rfl) (λ_=>rfl) (λ_=>rfl)
  (λu hu e=>by
   have hm:=hI.mt u hu
   rw [e] at hm
   exact⟨h1,h2.1,h2.2,h3,hm.data,hm.ah,hm.target⟩)
  (λu hu=>by rw [eG (f:=λo=>{o with mode:=mode,bg:=bg,bh:=bh,aU:=aU,aI:=aI}) (g:=bJ.aK) (λ_=>rfl)];exact hI.aK u hu)
  hI.usr hI.xQ hI.Gm hI.aJ hI.us ⟨by rw [hb];exact hI.used.1,hI.used.2⟩
 refine⟨g1,λu hu hg=>?_⟩
 have hg:(af (aZ S.O k (λo=>{o with mode:=mode,bg:=bg,bh:=bh,aU:=aU,aI:=aI})) u.k).aG=true:=hg
 rw [eG (f:=λo=>{o with mode:=mode,bg:=bg,bh:=bh,aU:=aU,aI:=aI}) (g:=bJ.aG) (λ_=>rfl)] at hg
 show 0<(af (aZ S.O k (λo=>{o with mode:=mode,bg:=bg,bh:=bh,aU:=aU,aI:=aI})) u.k).aK
 rw [eG (f:=λo=>{o with mode:=mode,bg:=bg,bh:=bh,aU:=aU,aI:=aI}) (g:=bJ.aK) (λ_=>rfl)]
 exact hI.full u hu hg
theorem bR.shut (hI:bR S) {h:Int} (e:aF.get S.us h=some t):bR {S with
 X:={S.X with used:=ql (tV S.O t.k) S.X.used t}
 O:=tV S.O t.k
 ar:=kT (tV S.O t.k) S.ar t
 us:=del h S.us}:=by
 have ht:=(hI.us h t e).1
 have hb:bytes S.ar (tV S.O t.k)=bytes S.ar S.O:=lD (λp _=>by unfold tV;rw [eG (f:=λo=>{o with aK:=o.aK-1}) (g:=bJ.data) (λ_=>rfl)])
 have hd:=λk=>RA (k:=k) hI.usr e
 have h1:=hI.toInv0.own (k:=t.k) (f:=λo=>{o with aK:=o.aK-1}) (sI:=S.X.used) (us':=del h S.us) (lE:=S.aJ) (λ_=>rfl) (λ_=>rfl) (λ_=>rfl) (λ_=>rfl) (λ_=>rfl) (λ_=>rfl)
  (λu hu e=>by rw [←e];exact (hI.mt u hu).of rfl rfl rfl (hI.mt u hu).time rfl (.inl rfl) (.inl rfl) rfl)
  (λu hu=>by
   have h2:=hI.aK u hu
   have h3:=hd u.k
   by_cases e2:u.k=t.k
   ·rw [e2,fA]
    rw [e2] at h2 h3
    rw [agW rfl] at h3
    show (af S.O t.k).aK-1=_
    omega
   rw [agV (λe3=>e2 e3.symm)] at h3
   rw [iX e2];omega)
  (Oj hI.usr) (λx hx=>hI.xQ x (by grind [ux])) (by have:=wi hI.usr (get_some e);have:=hI.Gm;omega) hI.aJ (λi u hu=>by
   rw [zm] at hu
   split at hu
   ·cases hu
   exact hI.us i u hu) ⟨by rw [show bytes S.ar (aZ S.O t.k (λo=>{o with aK:=o.aK-1}))=bytes S.ar S.O from hb];exact hI.used.1,hI.used.2⟩
 exact h1.y7 (t:=t) ht (λu hu hut hg=>by
  have hk:u.k≠t.k:=λe=>hut (jt hu ht e)
  have hg:(af (aZ S.O t.k (λo=>{o with aK:=o.aK-1})) u.k).aG=true:=hg
  rw [iX hk] at hg
  show 0<(af (aZ S.O t.k (λo=>{o with aK:=o.aK-1})) u.k).aK
  rw [iX hk]
  exact hI.full u hu hg)
end ops
section facts
variable {S:bB} {X:FM} {O:d9} {d k to:Nat} {name ay:ByteArray} {t o:Th}
def ED (dp:Nat->Nat):Option Nat->Nat
 |none=>0
 |some y=>dp y+1
theorem VD {dp:Nat->Nat} (h:∀k d,(af O k).up=some d->dp d<dp k) {y:Nat}:ED dp (af O y).up<ED dp (some y):=by
 cases e:(af O y).up with
 |none=>exact Nat.succ_pos _
 |some z=>exact Nat.succ_lt_succ (h y z e)
theorem Je {s y:Nat} (h:¬y=s):su O s y↔∃z,(af O y).up=some z/\su O s z:=Lz.trans (or_iff_right h)
theorem Jf (bX:t.k≠d):(af (bp S d name t).O k).ah=if k=d then kD name (af S.O d).ah else (af S.O k).ah:=by
 have h1:(af (bp S d name t).O k).ah=(af (bq S.X S.O d name t) k).ah:=by
  unfold bp
  simp only
  split
  ·exact wo (g:=bJ.ah) (λ_ _=>rfl)
  rfl
 grind [kX]
theorem xS (hI:Inv0 S) (d6:aT S.ar ⟨to,2⟩) (hl2:bL ay (af S.O to).ah=some o) (hl:bL name (af S.O d).ah=some t) (hot:o≠t):bL name (af (bp S to ay o).O d).ah=some t:=by
 rw [Jf (hI.ne d6 hl2)]
 grind [xJ]
theorem xT (hI:Inv0 S) (d6:aT S.ar ⟨to,2⟩) (hl2:bL ay (af S.O to).ah=some o):bL ay (af (bp S to ay o).O to).ah=none:=by
 rw [Jf (hI.ne d6 hl2),agW rfl,xJ,agW rfl]
theorem oR (hI:Inv0 S) (d6:aT S.ar ⟨to,2⟩) (hl2:bL ay (af S.O to).ah=some o) (hx:aT S.ar t) (hk:t.k≠o.k):aT (bp S to ay o).ar t:=by
 unfold bp
 simp only
 split
 ·unfold kT
  split
  ·unfold aT
   rw [zm,agV]
   ·exact hx
   intro e
   have h1:=(hI.ob o (hI.bS d6 hl2).2).1
   rw [wo (g:=bJ.id) (λ_ _=>rfl),eU (g:=bJ.id) (λ_ _=>rfl) (λ_ _=>rfl) (λ_ _ _=>rfl),h1] at e
   exact hk zc
  exact hx
 exact hx
theorem sW (bX:t.k≠d):(af (bq X O d name t) k).ah.length<=(af O k).ah.length:=by
 rw [kX bX]
 split
 ·rename_i e
  subst e
  exact ahI _ _
 split<;>exact ag5 _
theorem qA (hI:Inv0 S) (hd:aT S.ar ⟨d,2⟩) (hl:bL name (af S.O d).ah=some t):0<=(af (bq S.X S.O d name t) t.k).aV/\(af (bq S.X S.O d name t) t.k).aV<=1048576:=by
 have ht:=(hI.bS hd hl).2
 have h1:=hI.aV t ht
 have h2:0<nw S.ar S.O t.k:=qW hd hl
 have h3:=hI.lb ht
 rw [kX (hI.ne hd hl),agV (hI.ne hd hl),agW rfl]
 grind
end facts
theorem bF.take {β:Bs} {A:Option Addr} {d:List UInt8} (h:bF β A d) (n:Nat):bF β A (d.take n):=by
 intro j v hj
 refine h j v ?_
 grind [dR]
theorem Ts {a b:List UInt8}:dR (a++b)=dR a++dR b:=ahv
theorem Inv0.aeV {S:bB} {t:Th} (h:Inv0 S) (hl:aT S.ar t):((af S.O t.k).data.length:Int)<=S.X.used:=by
 have h1:=h.used
 have h2:(af S.O t.k).data.length<=bytes S.ar S.O:=sD (g:=λp:Int×Th=>(af S.O p.2.k).data.length) hl
 omega
theorem VE {X:FM} {n:Nat} (h:0<X.cB-X.used):min (n:Int) (X.cB-X.used)=(dN X n:Int):=by
 unfold dN
 omega
theorem VF {X:FM} {n:Nat} (h:0<X.cB-X.used):dN X n<=n/\(dN X n:Int)<=X.cB-X.used:=by
 unfold dN
 omega
section data
variable {O:d9} {us:bE Th} {L L':HL} {k c:Nat} {A:Option Addr} {t:Th}
theorem Ow (hL:L'=L.data k A c):cV L' us=cV L us:=by subst hL;rfl
theorem YG (hL:L'=L.data k A c):gq O L'=gq O L:=by
 subst hL
 funext x
 rfl
theorem YH (hL:L'=L.data k A c) {x:Nat} (h:x≠k):eM O L' x=eM O L x:=by
 have e2:lM L' x (af O x)=lM L x (af O x):=by
  subst hL
  unfold lM FC
  simp only [HL.data,agV h]
  rfl
 unfold eM
 rw [e2]
 subst hL
 rfl
theorem YI (hL:L'=L.data k A c) {x:Nat} (h:x≠k):dS O L' x=dS O L x:=by
 unfold dS
 subst hL
 simp only [HL.data,agV h]
theorem RH (hL:L'=L.data k A c):L'.dA k=A:=by subst hL;exact agW rfl
theorem RI (hL:L'=L.data k A c):L'.dC k=c:=by subst hL;exact agW rfl
theorem VG (hL:L'=L.data k A c) {x:Nat}:L'.b x=L.b x:=by subst hL;rfl
end data
section sat
variable {β:Bs} {l l':List HP} {w:World} {i j k c n:Nat} {O:d9} {L L':HL} {f:bJ->bJ} {cs:List Value} {T:TypeId} {ix:List Nat} {A:Option Addr} {R:Nat->eH} {xs:List Value}
theorem aR.adf (h:aR β l w) (hL:L'=L.data k A c) (hp:l[i]?=some (.abs (aY (nR (eM O L) k eH.none)))) (hq:l[j]?=some (.aD (L.b k) cs T)) (hd:cD (i::j::ix)=true) (hl:cW l ix=some l') (h0:(f (af O k)).kind≠0) (hc:lM L' k (f (af O k))=cs) (hT:sE (f (af O k)).kind=T):aR β (.abs (aY (eM (aZ O k f) L'))::l') w:=by
 refine h.wW (a:=G9 (L.b k) cs T) hp hq (λ_ _ h=>h) hd hl k (λx hx=>?_) (by rw [CA,agV h0,hc,hT,VG hL])
 rw [CB hx,YH hL hx,uR hx]
theorem aR.adg (h:aR β l w) (hL:L'=L.data k A c) (hp:l[i]?=some (.abs (aY (nR (dS O L) k eH.none)))) (hq:l[j]?=some (.abs (aH 5 1 A n c xs))) (hd:cD (i::j::ix)=true) (hl:cW l ix=some l') (h1:(f (af O k)).kind=1) (hn:n=(f (af O k)).data.length) (hx:xs=dR (f (af O k)).data):aR β (.abs (aY (dS (aZ O k f) L'))::l') w:=by
 refine h.wW hp hq (λ_ _ h=>h) hd hl k (λx hx=>by rw [Es hx,YI hL hx,uR hx]) ?_
 grind [zX,fA,RH,RI]
end sat
end
section
def tW (n:Int):Prop:=n=n
end
end Go.Proofs.YtbnfiigafobejaaGreat
