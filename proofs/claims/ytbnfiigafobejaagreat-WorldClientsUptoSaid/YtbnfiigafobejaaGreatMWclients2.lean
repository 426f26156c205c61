/-
  PROVED HERE: lemmas and contracts of functions (texts of this repo, joined; what the claim does not use is left out): GCheck, GE, GEnter, GR, GRead, GP, GRef, GW, Hm, Ld, Fw, Ms, Hn, Ho, Sb, ShelfK, Free, HeapMath, Up, Down, PushPop, TabMath, Tab, Tq, TKt, TabT, Hp, Hs, Hi, Hj, Hk, Hl, Hq, Hr, Ht, Hu, TabMath2, Hv, Hw, Hx, Op, Hy.
  CONDITIONS: as the theorems say.
-/
import Derived.Test.YtbnfiigafobejaaGreatMWclients1
import Derived.Maps.OwnOps
import Derived.Shelf.SlGeneric
import Derived.Shelf.SlIterI.Nil
import Derived.Shelf.SortM.Plain
import Derived.Shelf.SortM.SortNone
import Derived.Ground.GgzProg
import Derived.Ground.SlgmProg
import Derived.Test.YtbnfiigafobejaaGreatProg
import Derived.RegionTactic
import Derived.Deep.QuietTactic
import Derived.BigQuiet
import Derived.BigRegion
import Derived.StillTailTactics
import Derived.WalkSpells
import Derived.Outline
import Derived.Deep.AppendLies
import Derived.Deep.RegionLaw
import Derived.LoopTactic
import Derived.LaidEqlPtr
set_option maxRecDepth 100000
set_option maxHeartbeats 4000000
namespace Go.Proofs.YtbnfiigafobejaaGreat
section
open Go.RowKit
attribute [local irreducible] ar bN ak ay
theorem BP {β:Bs} (a b c:Int) :
 aU Tryz.prog β 119 #[vI (a),vI (b),vI (c)] [] (λv l=>v=.bool (decide (Within a b c))/\l=[]):=by
 exact SE Tryz.func119 Tryz.ntmps119 (λR=>SR (jK 1 [] [] (NS (jK 4 [10] [] (sP 10 ((a:Int)>=(b:Int)) (λh10=>jK 5 [6] [] (eN (v:=(.bool (decide ((a:Int)<=(c:Int))))) ⟨ail Value.bool (aiz.2 (by unfold Within;omega)),rfl⟩)) (λh10=>jK 5 [6] [] (eN ⟨ail Value.bool (aip (by unfold Within;omega)).symm,rfl⟩)))))))
theorem nO {β:Bs} (s n:Int) :
 aU Tryz.prog β 62 #[.agg #[vI (s),vI (n)]] [] (λv l=>v=.bool (decide (fU s n))/\l=[]):=by
 exact SE Tryz.func62 Tryz.ntmps62 (λR=>SR (jB 2 [1] (λb1=>.ax b1 [vI (s),vI (n)] 26) (λb1=>NZ (jK 4 [6] [(1,a_ 1 b1)] (sP 6 ((n:Int)<(0:Int)) (λh6=>jK 4 [10] [] (NT (zR ⟨ail Value.bool (aip (by unfold fU;omega)).symm,rfl⟩))) (λh6=>jK 4 [10] [(1,a_ 1 b1)] (NN (cP ((n:Int)>=(1000000000:Int)) (λh10=>zR ⟨ail Value.bool (aip (by unfold fU;omega)).symm,rfl⟩) (λh10=>KX (SQ (jK 3 [13] [(1,a_ 1 b1)] (NN (cP ((s:Int)=((-1099511627777):Int)) (λtL=>SR (jK 4 [2] [(1,a_ 1 b1)] (eN (v:=(.bool (decide ((n:Int)>(0:Int))))) ⟨ail Value.bool (aiz.2 (by unfold fU;omega)),rfl⟩))) (λtL=>KX (SR (jK 4 [20] [(1,a_ 1 b1)] (sP 20 ((s:Int)>((-1099511627777):Int)) (λpQ=>jK 5 [2] [(1,a_ 1 b1)] (eN (v:=(.bool (decide ((s:Int)<=(1099511627776:Int))))) ⟨ail Value.bool (aiz.2 (by unfold fU;omega)),rfl⟩)) (λpQ=>jK 5 [2] [] (eN ⟨ail Value.bool (aip (by unfold fU;omega)).symm,rfl⟩)))))))))))))))))))
theorem CP {β:Bs} (s n:Int) :
 aU Tryz.prog β 51 #[.agg #[vI (s),vI (n)]] [] (λv l=>v=.bool (decide (fU s n))/\l=[]):=by
 exact SE Tryz.func51 Tryz.ntmps51 (λR=>SR (jB 2 [1] (λb2=>.ax b2 [vI (s),vI (n)] 26) (λb2=>NZ (jK 4 [6] [(1,a_ 1 b2)] (sP 6 ((n:Int)<(0:Int)) (λh6=>jK 14 [20] [] (NT (zR ⟨ail Value.bool (aip (by unfold fU;omega)).symm,rfl⟩))) (λh6=>jK 5 [11] [(1,a_ 1 b2)] (sP 11 ((n:Int)>=(1000000000:Int)) (λh11=>jK 9 [20] [] (NT (zR ⟨ail Value.bool (aip (by unfold fU;omega)).symm,rfl⟩))) (λh11=>jK 5 [16] [(1,a_ 1 b2)] (sP 16 ((s:Int)>(1099511627776:Int)) (λpR=>jK 4 [20] [] (NT (zR ⟨ail Value.bool (aip (by unfold fU;omega)).symm,rfl⟩))) (λpR=>jK 4 [20] [(1,a_ 1 b2)] (NN (cP ((s:Int)<((-1099511627777):Int)) (λpQ=>zR ⟨ail Value.bool (aip (by unfold fU;omega)).symm,rfl⟩) (λpQ=>KX (SR (jK 4 [24] [(1,a_ 1 b2)] (sN 24 ((s:Int)=((-1099511627777):Int)) (λrY=>jK 5 [2] [] (eN ⟨ail Value.bool (aiD (by unfold fU;omega)).symm,rfl⟩)) (λrY=>jK 5 [2] [(1,a_ 1 b2)] (eN (v:=(.bool (!(decide ((n:Int)=(0:Int)))))) ⟨ail Value.bool (E5 (by unfold fU;omega)),rfl⟩))))))))))))))))))
theorem DP {β:Bs} (s:ByteArray) (hl:s.size<=1048576) :
 aU Tryz.prog β 71 #[.string s] [] (λv l=>v=.bool (decide (ck s))/\l=[]):=by
 refine SE Tryz.func71 Tryz.ntmps71 (λR=>SR (jK 1 [] [] (NZ (jK 1 [3] [] (NN (ak.block (lJ (λ(i:Nat)=>(i<=s.size)/\(∀j,j<i->¬dK s j=0/\¬dK s j=47)) (λ(i:Nat)=>s.size-i) (λ(i:Nat)=>[(0,.string s),(3,vI ↑i)]) (λ(i:Nat)=>[.abs R]) 0 [0] (⟨aio _,λj hj=>ain hj (aiq j)⟩) ?_)))))))
 rintro i ⟨hi,jW⟩
 exact SQ (jK 4 [7] [] (NN (cP ((((i:Nat):Int):Int)<((((s:ByteArray).size:Nat):Int):Int)) (λh7=>KX (ak.seq (ak.block (SR (jK 5 [14] [(2,xP i (i<(s:ByteArray).size))] (sP 14 ((((((s:ByteArray).data.getD (i) 0).toNat:Nat):Int):Int)=(0:Int)) (λmZ=>jK 5 [19] [] (NT (zR ⟨ail Value.bool (aip (by intro g;have:=g.2.2.2.2 i zc;unfold dK at this;omega)).symm,rfl⟩))) (λmZ=>jK 5 [19] [(2,xP i (i<(s:ByteArray).size))] (NN (cP ((((((s:ByteArray).data.getD (i) 0).toNat:Nat):Int):Int)=(47:Int)) (λG9=>zR ⟨ail Value.bool (aip (by intro g;have:=g.2.2.2.2 i zc;unfold dK at this;omega)).symm,rfl⟩) (λG9=>KX (ak.region (jK 3 [3] [(1,wJ ((i:Int)+1) (↑(i+1)))] (NL (tJ ((i+1)) [0] (⟨zc,λj hj=>by grind [dK]⟩))))))))))))))) (λh7=>XX (SR (jK 4 [23] [] (sP 23 (((((s:ByteArray).size:Nat):Int):Int)>=(1:Int)) (λh23=>jK 5 [28] [] (sP 28 (((((s:ByteArray).size:Nat):Int):Int)<=(255:Int)) (λwH=>jK 4 [32] [(1,w_ (.bool (!(decide ((s:ByteArray)=⟨#[46]⟩)))) (Ju _ _))] (sN 32 ((s:ByteArray)=⟨#[46]⟩) (λsR=>jK 4 [2] [(1,w_ (.bool (!(decide ((s:ByteArray)=⟨#[46,46]⟩)))) (Ju _ _))] (eN (v:=(.bool (!(decide ((s:ByteArray)=⟨#[46,46]⟩))))) ⟨ail Value.bool (E5 (by have hA:∀j,j<s.size->¬dK s j=0/\¬dK s j=47:=λj hj=>jW j zc;unfold ck;grind)),rfl⟩)) (λsR=>jK 4 [2] [] (eN ⟨ail Value.bool (aip (by have hA:∀j,j<s.size->¬dK s j=0/\¬dK s j=47:=λj hj=>jW j zc;unfold ck;grind)).symm,rfl⟩)))) (λwH=>jK 8 [2] [] (eN ⟨ail Value.bool (aip (by have hA:∀j,j<s.size->¬dK s j=0/\¬dK s j=47:=λj hj=>jW j zc;unfold ck;grind)).symm,rfl⟩)))) (λh23=>jK 13 [2] [] (eN ⟨ail Value.bool (aip (by have hA:∀j,j<s.size->¬dK s j=0/\¬dK s j=47:=λj hj=>jW j zc;unfold ck;grind)).symm,rfl⟩)))))))))
theorem O4 {β:Bs} (n:aL) (dA eA:Option Addr) (dC eC:Nat) (ht:n.target.size<=1048576) :
 aU Tryz.prog β 70 #[.agg #[vI (n.id),vI (n.kind),vI (n.mode),vI (n.bg),vI (n.bh),vI (n.aT),vI (n.aJ),.slice dA (n.data.length) (dC),.string n.target,.slice eA (n.ah.length) (eC)]] [] (λv l=>v=.bool (decide (sS n))/\l=[]):=by
 refine SE Tryz.func70 Tryz.ntmps70 (λR=>SR (jB 2 [1] (λb3=>.ax b3 [vI (n.id),vI (n.kind),vI (n.mode),vI (n.bg),vI (n.bh),vI (n.aT),vI (n.aJ),.slice dA (n.data.length) (dC),.string n.target,.slice eA (n.ah.length) (eC)] 95) (λb3=>NZ (jK 4 [7] [(1,a_ 1 b3)] (sP 7 ((n.kind:Int)<(1:Int)) (λh7=>jK 40 [47] [] (NT (zR ⟨ail Value.bool (aip (by rw [dz];grind [dG])).symm,rfl⟩))) (λh7=>jK 5 [12] [(1,a_ 1 b3)] (sP 12 ((n.kind:Int)>(3:Int)) (λh12=>jK 35 [47] [] (NT (zR ⟨ail Value.bool (aip (by rw [dz];grind [dG])).symm,rfl⟩))) (λh12=>jK 5 [17] [(1,a_ 1 b3)] (sP 17 ((n.mode:Int)<(0:Int)) (λE4=>jK 30 [47] [] (NT (zR ⟨ail Value.bool (aip (by rw [dz];grind [dG])).symm,rfl⟩))) (λE4=>jK 5 [22] [(1,a_ 1 b3)] (sP 22 ((n.mode:Int)>(4095:Int)) (λsU=>jK 25 [47] [] (NT (zR ⟨ail Value.bool (aip (by rw [dz];grind [dG])).symm,rfl⟩))) (λsU=>jK 5 [27] [(1,a_ 1 b3)] (sP 27 ((n.bg:Int)<(0:Int)) (λyt=>jK 20 [47] [] (NT (zR ⟨ail Value.bool (aip (by rw [dz];grind [dG])).symm,rfl⟩))) (λyt=>jK 5 [32] [(1,a_ 1 b3)] (sP 32 ((n.bg:Int)>(2147483647:Int)) (λsR=>jK 15 [47] [] (NT (zR ⟨ail Value.bool (aip (by rw [dz];grind [dG])).symm,rfl⟩))) (λsR=>jK 5 [37] [(1,a_ 1 b3)] (sP 37 ((n.bh:Int)<(0:Int)) (λzl=>jK 10 [47] [] (NT (zR ⟨ail Value.bool (aip (by rw [dz];grind [dG])).symm,rfl⟩))) (λzl=>jK 5 [42] [(1,a_ 1 b3)] (sP 42 ((n.bh:Int)>(2147483647:Int)) (λlf=>jK 5 [47] [] (NT (zR ⟨ail Value.bool (aip (by rw [dz];grind [dG])).symm,rfl⟩))) (λlf=>jK 2 [44] [(1,A_ 1 b3 2)] (gE [] (CP n.aT n.aJ) (jK 2 [47] [] (NN (cN (fU n.aT n.aJ) (λSN=>zR ⟨ail Value.bool (aip (by rw [dz];grind [dG])).symm,rfl⟩) (λSN=>KX (SQ (jK 4 [51] [(1,a_ 1 b3)] (sN 51 ((n.kind:Int)=(1:Int)) (λyu=>?_) (λyu=>?_)))))))))))))))))))))))))))))
 ·refine jK 6 [57] [(1,a_ 1 b3)] (sP 57 ((((n.data.length:Nat):Int):Int)>(0:Int)) (λAO=>jK 10 [67] [] (NT (zR ⟨ail Value.bool (aip (by rw [dz];grind [dG])).symm,rfl⟩))) (λAO=>jK 4 [61] [(1,a_ 1 b3)] (sN 61 ((n.kind:Int)=(2:Int)) (λWl=>?_) (λWl=>?_))))
  ·refine jK 6 [67] [(1,a_ 1 b3)] (NN (cP ((((n.ah.length:Nat):Int):Int)>(0:Int)) (λJM=>zR ⟨ail Value.bool (aip (by rw [dz];grind [dG])).symm,rfl⟩) (λJM=>KX (SQ (jK 3 [70] [(1,a_ 1 b3)] (NN (cN ((n.kind:Int)=(3:Int)) (λO5=>SR (jK 4 [2] [(1,a_ 1 b3),(2,w_ (.bool (decide ((n.target:ByteArray)=⟨#[]⟩))) (rE _ _))] (eN (v:=(.bool (decide ((n.target:ByteArray)=⟨#[]⟩)))) ⟨ail Value.bool (aiz.2 (by rw [dz];grind [dG])),rfl⟩))) (λO5=>KX (SQ (jK 1 [3] [] (NN (ak.block (lJ (λ(i:Nat)=>(i<=n.target.size)/\(∀j,j<i->¬dK n.target j=0)) (λ(i:Nat)=>n.target.size-i) (λ(i:Nat)=>[(1,vP b3),(3,vI ↑i)]) (λ(i:Nat)=>[.abs R,.ax b3 [vI (n.id),vI (n.kind),vI (n.mode),vI (n.bg),vI (n.bh),vI (n.aT),vI (n.aJ),.slice dA (n.data.length) (dC),.string n.target,.slice eA (n.ah.length) (eC)] 95]) 0 [0,1] (⟨aio _,λj hj=>ain hj (aiq j)⟩) ?_)))))))))))))
   rintro i ⟨hi,jW⟩
   exact SQ (jK 5 [78] [(2,a_ 1 b3)] (NN (cP ((((i:Nat):Int):Int)<((((n.target:ByteArray).size:Nat):Int):Int)) (λO6=>KX (ak.seq (ak.block (SR (jK 5 [85] [(1,a_ 1 b3),(3,xP i (i<(n.target:ByteArray).size))] (NN (cP ((((((n.target:ByteArray).data.getD (i) 0).toNat:Nat):Int):Int)=(0:Int)) (λO7=>zR ⟨ail Value.bool (aip (by intro g;have:=(dG.sym g.target zc).2.2 i zc;unfold dK at this;omega)).symm,rfl⟩) (λO7=>KX (ak.region (jK 3 [3] [(1,wJ ((i:Int)+1) (↑(i+1)))] (NL (tJ ((i+1)) [0,1] (⟨zc,λj hj=>by grind [dK]⟩))))))))))))) (λO6=>XX (SR (jK 5 [90] [(1,a_ 1 b3)] (sP 90 (((((n.target:ByteArray).size:Nat):Int):Int)>=(1:Int)) (λwK=>jK 6 [2] [(1,a_ 1 b3)] (eN (v:=(.bool (decide (((((n.target:ByteArray).size:Nat):Int):Int)<=(4096:Int))))) ⟨ail Value.bool (aiz.2 (by grind [rf,dz,dG])),rfl⟩)) (λwK=>jK 6 [2] [] (eN ⟨ail Value.bool (aip (by have hA:rf n.target:=λj hj=>jW j zc;rw [dz];grind [dG])).symm,rfl⟩)))))))))
  refine jK 6 [67] [] (NF (KX (SQ (jK 3 [70] [(1,a_ 1 b3)] (NN (cN ((n.kind:Int)=(3:Int)) (λO5=>SR (jK 4 [2] [(1,a_ 1 b3),(2,w_ (.bool (decide ((n.target:ByteArray)=⟨#[]⟩))) (rE _ _))] (eN (v:=(.bool (decide ((n.target:ByteArray)=⟨#[]⟩)))) ⟨ail Value.bool (aiz.2 (by rw [dz];grind [dG])),rfl⟩))) (λO5=>KX (SQ (jK 1 [3] [] (NN (ak.block (lJ (λ(i:Nat)=>(i<=n.target.size)/\(∀j,j<i->¬dK n.target j=0)) (λ(i:Nat)=>n.target.size-i) (λ(i:Nat)=>[(1,vP b3),(3,vI ↑i)]) (λ(i:Nat)=>[.abs R,.ax b3 [vI (n.id),vI (n.kind),vI (n.mode),vI (n.bg),vI (n.bh),vI (n.aT),vI (n.aJ),.slice dA (n.data.length) (dC),.string n.target,.slice eA (n.ah.length) (eC)] 95]) 0 [0,1] (⟨aio _,λj hj=>ain hj (aiq j)⟩) ?_))))))))))))
  rintro i ⟨hi,jW⟩
  exact SQ (jK 5 [78] [(2,a_ 1 b3)] (NN (cP ((((i:Nat):Int):Int)<((((n.target:ByteArray).size:Nat):Int):Int)) (λO6=>KX (ak.seq (ak.block (SR (jK 5 [85] [(1,a_ 1 b3),(3,xP i (i<(n.target:ByteArray).size))] (NN (cP ((((((n.target:ByteArray).data.getD (i) 0).toNat:Nat):Int):Int)=(0:Int)) (λO7=>zR ⟨ail Value.bool (aip (by intro g;have:=(dG.sym g.target zc).2.2 i zc;unfold dK at this;omega)).symm,rfl⟩) (λO7=>KX (ak.region (jK 3 [3] [(1,wJ ((i:Int)+1) (↑(i+1)))] (NL (tJ ((i+1)) [0,1] (⟨zc,λj hj=>by grind [dK]⟩))))))))))))) (λO6=>XX (SR (jK 5 [90] [(1,a_ 1 b3)] (sP 90 (((((n.target:ByteArray).size:Nat):Int):Int)>=(1:Int)) (λwK=>jK 6 [2] [(1,a_ 1 b3)] (eN (v:=(.bool (decide (((((n.target:ByteArray).size:Nat):Int):Int)<=(4096:Int))))) ⟨ail Value.bool (aiz.2 (by grind [rf,dz,dG])),rfl⟩)) (λwK=>jK 6 [2] [] (eN ⟨ail Value.bool (aip (by have hA:rf n.target:=λj hj=>jW j zc;rw [dz];grind [dG])).symm,rfl⟩)))))))))
 refine jK 10 [57,61] [(7,a_ 1 b3)] (sN 61 ((n.kind:Int)=(2:Int)) (λWl=>?_) (λWl=>?_))
 ·refine jK 6 [67] [(1,a_ 1 b3)] (NN (cP ((((n.ah.length:Nat):Int):Int)>(0:Int)) (λJM=>zR ⟨ail Value.bool (aip (by rw [dz];grind [dG])).symm,rfl⟩) (λJM=>KX (SQ (jK 3 [70] [(1,a_ 1 b3)] (NN (cN ((n.kind:Int)=(3:Int)) (λO5=>SR (jK 4 [2] [(1,a_ 1 b3),(2,w_ (.bool (decide ((n.target:ByteArray)=⟨#[]⟩))) (rE _ _))] (eN (v:=(.bool (decide ((n.target:ByteArray)=⟨#[]⟩)))) ⟨ail Value.bool (aiz.2 (by rw [dz];grind [dG])),rfl⟩))) (λO5=>KX (SQ (jK 1 [3] [] (NN (ak.block (lJ (λ(i:Nat)=>(i<=n.target.size)/\(∀j,j<i->¬dK n.target j=0)) (λ(i:Nat)=>n.target.size-i) (λ(i:Nat)=>[(1,vP b3),(3,vI ↑i)]) (λ(i:Nat)=>[.abs R,.ax b3 [vI (n.id),vI (n.kind),vI (n.mode),vI (n.bg),vI (n.bh),vI (n.aT),vI (n.aJ),.slice dA (n.data.length) (dC),.string n.target,.slice eA (n.ah.length) (eC)] 95]) 0 [0,1] (⟨aio _,λj hj=>ain hj (aiq j)⟩) ?_)))))))))))))
  rintro i ⟨hi,jW⟩
  exact SQ (jK 5 [78] [(2,a_ 1 b3)] (NN (cP ((((i:Nat):Int):Int)<((((n.target:ByteArray).size:Nat):Int):Int)) (λO6=>KX (ak.seq (ak.block (SR (jK 5 [85] [(1,a_ 1 b3),(3,xP i (i<(n.target:ByteArray).size))] (NN (cP ((((((n.target:ByteArray).data.getD (i) 0).toNat:Nat):Int):Int)=(0:Int)) (λO7=>zR ⟨ail Value.bool (aip (by intro g;have:=(dG.sym g.target zc).2.2 i zc;unfold dK at this;omega)).symm,rfl⟩) (λO7=>KX (ak.region (jK 3 [3] [(1,wJ ((i:Int)+1) (↑(i+1)))] (NL (tJ ((i+1)) [0,1] (⟨zc,λj hj=>by grind [dK]⟩))))))))))))) (λO6=>XX (SR (jK 5 [90] [(1,a_ 1 b3)] (sP 90 (((((n.target:ByteArray).size:Nat):Int):Int)>=(1:Int)) (λwK=>jK 6 [2] [(1,a_ 1 b3)] (eN (v:=(.bool (decide (((((n.target:ByteArray).size:Nat):Int):Int)<=(4096:Int))))) ⟨ail Value.bool (aiz.2 (by grind [rf,dz,dG])),rfl⟩)) (λwK=>jK 6 [2] [] (eN ⟨ail Value.bool (aip (by have hA:rf n.target:=λj hj=>jW j zc;rw [dz];grind [dG])).symm,rfl⟩)))))))))
 refine jK 6 [67] [] (NF (KX (SQ (jK 3 [70] [(1,a_ 1 b3)] (NN (cN ((n.kind:Int)=(3:Int)) (λO5=>SR (jK 4 [2] [(1,a_ 1 b3),(2,w_ (.bool (decide ((n.target:ByteArray)=⟨#[]⟩))) (rE _ _))] (eN (v:=(.bool (decide ((n.target:ByteArray)=⟨#[]⟩)))) ⟨ail Value.bool (aiz.2 (by rw [dz];grind [dG])),rfl⟩))) (λO5=>KX (SQ (jK 1 [3] [] (NN (ak.block (lJ (λ(i:Nat)=>(i<=n.target.size)/\(∀j,j<i->¬dK n.target j=0)) (λ(i:Nat)=>n.target.size-i) (λ(i:Nat)=>[(1,vP b3),(3,vI ↑i)]) (λ(i:Nat)=>[.abs R,.ax b3 [vI (n.id),vI (n.kind),vI (n.mode),vI (n.bg),vI (n.bh),vI (n.aT),vI (n.aJ),.slice dA (n.data.length) (dC),.string n.target,.slice eA (n.ah.length) (eC)] 95]) 0 [0,1] (⟨aio _,λj hj=>ain hj (aiq j)⟩) ?_))))))))))))
 rintro i ⟨hi,jW⟩
 exact SQ (jK 5 [78] [(2,a_ 1 b3)] (NN (cP ((((i:Nat):Int):Int)<((((n.target:ByteArray).size:Nat):Int):Int)) (λO6=>KX (ak.seq (ak.block (SR (jK 5 [85] [(1,a_ 1 b3),(3,xP i (i<(n.target:ByteArray).size))] (NN (cP ((((((n.target:ByteArray).data.getD (i) 0).toNat:Nat):Int):Int)=(0:Int)) (λO7=>zR ⟨ail Value.bool (aip (by intro g;have:=(dG.sym g.target zc).2.2 i zc;unfold dK at this;omega)).symm,rfl⟩) (λO7=>KX (ak.region (jK 3 [3] [(1,wJ ((i:Int)+1) (↑(i+1)))] (NL (tJ ((i+1)) [0,1] (⟨zc,λj hj=>by grind [dK]⟩))))))))))))) (λO6=>XX (SR (jK 5 [90] [(1,a_ 1 b3)] (sP 90 (((((n.target:ByteArray).size:Nat):Int):Int)>=(1:Int)) (λwK=>jK 6 [2] [(1,a_ 1 b3)] (eN (v:=(.bool (decide (((((n.target:ByteArray).size:Nat):Int):Int)<=(4096:Int))))) ⟨ail Value.bool (aiz.2 (by grind [rf,dz,dG])),rfl⟩)) (λwK=>jK 6 [2] [] (eN ⟨ail Value.bool (aip (by have hA:rf n.target:=λj hj=>jW j zc;rw [dz];grind [dG])).symm,rfl⟩)))))))))
theorem zA {β:Bs} (A:Option Addr) (c:Nat) (ns:List aL) (L:eP) (hG:aN β A ns L) (hr:dH ns) (hl:ns.length<=1048576) (id:Int) :
 aU Tryz.prog β 32 #[.agg #[.slice A ns.length c],vI id] [] (λv l=>v=vI (gF ns id)/\l=[]):=by
 refine SE Tryz.func32 Tryz.ntmps32 (λR=>SR (jB 2 [2] (λb4=>.ax b4 [.slice A (ns.length) (c)] 24) (λb4=>NS (jK 1 [5] [] (NS (jK 4 [6] [(1,a_ 1 b4)] (NN (ak.seq (ak.block (lJ (λ(lo,hi)=>(lo<=hi)/\(hi<=ns.length)/\(∀j,j<lo->(nd ns j).id<id)/\(∀j,hi<=j->j<ns.length->id<=(nd ns j).id)) (λ(lo,hi)=>hi-lo) (λ(lo,hi)=>[(1,vI (id)),(2,vP b4),(5,vI ↑lo),(6,vI ↑hi)]) (λ(lo,hi)=>[.abs R,.ax b4 [.slice A (ns.length) (c)] 24]) (0,ns.length) [0,1] (⟨aio _,aiu _,λj hj=>ain hj (aiq j),λj h1 h2=>ain h2 (Nat.not_lt.2 h1)⟩) ?_))))))))))
 rintro⟨lo,hi⟩ ⟨hlh,hhi,ha,hb⟩
 exact SQ (jK 3 [13] [] (NN (cP ((((lo:Nat):Int):Int)<(((hi:Nat):Int):Int)) (λtL=>KX (ak.block (SR (jK 7 [7] [(3,wJ ((hi:Int)-(lo:Int)) (↑(hi-lo))),(4,w_ (.int .i64 ↑((hi-lo) / 2)) (vV (Int.ofNat_tdiv _ _).symm zc zc)),(5,wJ ((lo:Int)+(((hi-lo) / 2:Nat):Int)) (↑(lo+((hi-lo) / 2))))] (NS (jK 8 [27] [(1,a_ 1 b4),(3,p_ ⟨[],some (lo+((hi-lo) / 2)),none,some ⟨(bG A),bE A,none⟩,none⟩ [((lo+((hi-lo) / 2):Nat):Int)=((lo+((hi-lo) / 2):Nat):Int),lo+((hi-lo) / 2)<ns.length,(⟨(bG A),bE A,none⟩:Addr).spot=none,(A:Option Addr)=some ⟨(bG A),bE A,none⟩] ⟨rfl,zc,rfl,aN.hd hG (i:=lo+((hi-lo) / 2)) zc,trivial⟩),(5,r_ (aN.rd hG (i:=lo+((hi-lo) / 2)) zc (j:=0) rfl))] (NN (cP (((nd ns (lo+((hi-lo) / 2))).id:Int)<(id:Int)) (λyt=>ak.region (jK 3 [5] [(1,wJ (((lo+((hi-lo) / 2):Nat):Int)+1) (↑((lo+((hi-lo) / 2))+1)))] (NL (ay.gh (tJ (((lo+(hi-lo) / 2)+1),hi) [0,1] (⟨zc,zc,λj hj=>by have:=hr.le (show j<=(lo+(hi-lo) / 2) by omega) zc;omega,hb⟩)))))) (λyt=>ak.region (jK 2 [6] [] (NL (ay.gh (tJ (lo,(lo+(hi-lo) / 2)) [0,1] (⟨zc,zc,ha,λj hj hj2=>by have:=hr.le hj hj2;omega⟩)))))))))))))) (λtL=>XX (SQ (jK 6 [36] [(2,a_ 1 b4)] (sP 36 ((((lo:Nat):Int):Int)<(((ns.length:Nat):Int):Int)) (λEC=>jK 9 [45] [(1,a_ 1 b4),(3,x_ lo ns.length (aN.hd hG (i:=lo) zc)),(5,r_ (aN.rd hG (i:=lo) zc (j:=0) rfl))] (NN (cP (((nd ns lo).id:Int)=(id:Int)) (λO8=>zR ⟨ail (Value.int .i64) (Il hr zc O8).symm,rfl⟩) (λO8=>KX (zR ⟨ail (Value.int .i64) (DM (λj hj e=>by rcases ai9 j lo with h|h|h;have:=ha j h;omega;subst h;omega;have:=hr lo j h hj;have:=hb lo zc zc;omega)).symm,rfl⟩))))) (λEC=>jK 9 [45] [] (NF (KX (zR ⟨ail (Value.int .i64) (DM (λj hj e=>by rcases ai9 j lo with h|h|h;have:=ha j h;omega;subst h;omega;have:=hr lo j h hj;have:=hb lo zc zc;omega)).symm,rfl⟩)))))))))))
theorem Gq {β:Bs} (A:Option Addr) (ns:List aL) (L:eP) (hG:aN β A ns L) (i:Nat) (hi:i<ns.length) :
 aU Tryz.prog β 120 #[.pointer (some ⟨(bG A),bE A+i*10,none⟩)] [] (λv l=>v=.bool (decide (dG (nd ns i).kind (nd ns i).target))/\l=[]):=by
 exact SE Tryz.func120 Tryz.ntmps120 (λR=>SR (jK 1 [] [] (NZ (jK 5 [7] [(3,r_ (aN.rd hG (i:=i) zc (j:=1) rfl))] (NN (cN (((nd ns i).kind:Int)=(3:Int)) (λh7=>SR (jK 6 [2] [(3,r_ (aN.rd hG (i:=i) zc (j:=8) rfl)),(4,w_ (.bool (decide (((nd ns i).target:ByteArray)=⟨#[]⟩))) (rE _ _))] (eN (v:=(.bool (decide (((nd ns i).target:ByteArray)=⟨#[]⟩)))) ⟨ail Value.bool (aiz.2 (by grind [t7,nd,dG])),rfl⟩))) (λh7=>KX (SR (jK 6 [18] [(3,r_ (aN.rd hG (i:=i) zc (j:=8) rfl)),(4,w_ (.bool (!(decide (((nd ns i).target:ByteArray)=⟨#[]⟩)))) (Ju _ _))] (sN 18 (((nd ns i).target:ByteArray)=⟨#[]⟩) (λql=>jK 8 [26] [(3,r_ (aN.rd hG (i:=i) zc (j:=8) rfl))] (sP 26 ((((((nd ns i).target:ByteArray).size:Nat):Int):Int)<=(4096:Int)) (λzj=>jK 4 [30] [(3,r_ (aN.rd hG (i:=i) zc (j:=8) rfl))] (gE [] (aU.quiet (λw=>Tryz.strings_IndexByte (nd ns i).target 0 w)) (jK 3 [2] [] (eN (v:=(.bool (decide ((Lib.indexByte (nd ns i).target.data.toList (0:Int).toNat.toUInt8:Int)<(0:Int))))) ⟨ail Value.bool (aiz.2 (by grind [t7,nd,OW,dG])),rfl⟩)))) (λzj=>jK 8 [2] [] (eN ⟨ail Value.bool (aip (by grind [t7,nd,dG])).symm,rfl⟩)))) (λql=>jK 16 [2] [] (eN ⟨ail Value.bool (aip (by grind [t7,nd,dG])).symm,rfl⟩))))))))))))
theorem Zo {β:Bs} (A:Option Addr) (ns:List aL) (L:eP) (hG:aN β A ns L) (i:Nat) (hi:i<ns.length) :
 aU Tryz.prog β 107 #[.pointer (some ⟨(bG A),bE A+i*10,none⟩)] [] (λv l=>v=.bool (decide (sS (nd ns i)))/\l=[]):=by
 refine SE Tryz.func107 Tryz.ntmps107 (λR=>SR (jK 1 [] [] (NZ (jK 4 [6] [(3,r_ (aN.rd hG (i:=i) zc (j:=1) rfl))] (gE [] (BP ((nd ns i).kind) 1 3) (jK 2 [9] [] (sN 9 (Within ((nd ns i).kind) 1 3) (λh9=>jK 23 [32] [] (NT (zR ⟨ail Value.bool (aip (by grind [dz,Within])).symm,rfl⟩))) (λh9=>jK 4 [13] [(3,r_ (aN.rd hG (i:=i) zc (j:=2) rfl))] (gE [] (BP ((nd ns i).mode) 0 4095) (jK 3 [17] [] (sN 17 (Within ((nd ns i).mode) 0 4095) (λE4=>jK 15 [32] [] (NT (zR ⟨ail Value.bool (aip (by grind [dz,Within])).symm,rfl⟩))) (λE4=>jK 4 [21] [(3,r_ (aN.rd hG (i:=i) zc (j:=3) rfl))] (gE [] (BP ((nd ns i).bg) 0 2147483647) (jK 3 [25] [] (sN 25 (Within ((nd ns i).bg) 0 2147483647) (λqi=>jK 7 [32] [] (NT (zR ⟨ail Value.bool (aip (by grind [dz,Within])).symm,rfl⟩))) (λqi=>?_))))))))))))))))
 exact jK 4 [29] [(3,r_ (aN.rd hG (i:=i) zc (j:=4) rfl))] (gE [] (BP ((nd ns i).bh) 0 2147483647) (jK 2 [32] [] (NN (cN (Within ((nd ns i).bh) 0 2147483647) (λsR=>zR ⟨ail Value.bool (aip (by grind [dz,Within])).symm,rfl⟩) (λsR=>KX (SQ (jK 6 [38] [(3,r_ (aN.rd hG (i:=i) zc (j:=1) rfl))] (sN 38 (((nd ns i).kind:Int)=(1:Int)) (λE7=>jK 8 [46] [(3,r_ (aN.rd hG (i:=i) zc (j:=7) rfl))] (sP 46 (((((nd ns i).data.length:Nat):Int):Int)>(0:Int)) (λh46=>jK 14 [60] [] (NT (zR ⟨ail Value.bool (aip (by grind [dz,Within])).symm,rfl⟩))) (λh46=>jK 6 [52] [(3,r_ (aN.rd hG (i:=i) zc (j:=1) rfl))] (sN 52 (((nd ns i).kind:Int)=(2:Int)) (λzm=>jK 8 [60] [(3,r_ (aN.rd hG (i:=i) zc (j:=9) rfl))] (NN (cP (((((nd ns i).ah.length:Nat):Int):Int)>(0:Int)) (λO9=>zR ⟨ail Value.bool (aip (by grind [dz,Within])).symm,rfl⟩) (λO9=>KX (SR (jK 4 [64] [(3,r2 (aN.rd hG (i:=i) zc (j:=5) rfl) (aN.rd hG (i:=i) zc (j:=6) rfl))] (gE [] (nO (nd ns i).aT (nd ns i).aJ) (jK 1 [66] [] (sP 66 (fU (nd ns i).aT (nd ns i).aJ) (λmE=>jK 1 [67] [] (gE [] (Gq A ns L hG i hi) (jK 2 [2] [] (eN (v:=(.bool (decide (dG (nd ns i).kind (nd ns i).target)))) ⟨ail Value.bool (aiz.2 (by grind [dz,Within])),rfl⟩)))) (λmE=>jK 4 [2] [] (eN ⟨ail Value.bool (aip (by grind [dz,Within])).symm,rfl⟩))))))))))) (λzm=>jK 8 [60] [] (NF (KX (SR (jK 4 [64] [(3,r2 (aN.rd hG (i:=i) zc (j:=5) rfl) (aN.rd hG (i:=i) zc (j:=6) rfl))] (gE [] (nO (nd ns i).aT (nd ns i).aJ) (jK 1 [66] [] (sP 66 (fU (nd ns i).aT (nd ns i).aJ) (λmE=>jK 1 [67] [] (gE [] (Gq A ns L hG i hi) (jK 2 [2] [] (eN (v:=(.bool (decide (dG (nd ns i).kind (nd ns i).target)))) ⟨ail Value.bool (aiz.2 (by grind [dz,Within])),rfl⟩)))) (λmE=>jK 4 [2] [] (eN ⟨ail Value.bool (aip (by grind [dz,Within])).symm,rfl⟩)))))))))))))) (λE7=>jK 14 [46,52] [(11,r_ (aN.rd hG (i:=i) zc (j:=1) rfl))] (sN 52 (((nd ns i).kind:Int)=(2:Int)) (λzm=>jK 8 [60] [(3,r_ (aN.rd hG (i:=i) zc (j:=9) rfl))] (NN (cP (((((nd ns i).ah.length:Nat):Int):Int)>(0:Int)) (λO9=>zR ⟨ail Value.bool (aip (by grind [dz,Within])).symm,rfl⟩) (λO9=>KX (SR (jK 4 [64] [(3,r2 (aN.rd hG (i:=i) zc (j:=5) rfl) (aN.rd hG (i:=i) zc (j:=6) rfl))] (gE [] (nO (nd ns i).aT (nd ns i).aJ) (jK 1 [66] [] (sP 66 (fU (nd ns i).aT (nd ns i).aJ) (λmE=>jK 1 [67] [] (gE [] (Gq A ns L hG i hi) (jK 2 [2] [] (eN (v:=(.bool (decide (dG (nd ns i).kind (nd ns i).target)))) ⟨ail Value.bool (aiz.2 (by grind [dz,Within])),rfl⟩)))) (λmE=>jK 4 [2] [] (eN ⟨ail Value.bool (aip (by grind [dz,Within])).symm,rfl⟩))))))))))) (λzm=>jK 8 [60] [] (NF (KX (SR (jK 4 [64] [(3,r2 (aN.rd hG (i:=i) zc (j:=5) rfl) (aN.rd hG (i:=i) zc (j:=6) rfl))] (gE [] (nO (nd ns i).aT (nd ns i).aJ) (jK 1 [66] [] (sP 66 (fU (nd ns i).aT (nd ns i).aJ) (λmE=>jK 1 [67] [] (gE [] (Gq A ns L hG i hi) (jK 2 [2] [] (eN (v:=(.bool (decide (dG (nd ns i).kind (nd ns i).target)))) ⟨ail Value.bool (aiz.2 (by grind [dz,Within])),rfl⟩)))) (λmE=>jK 4 [2] [] (eN ⟨ail Value.bool (aip (by grind [dz,Within])).symm,rfl⟩))))))))))))))))))))
end
section
open Go.RowKit Go.Maps
def jF (x y:ByteArray):Prop:=(Op.bytesLess x.toList y.toList || (x.toList == y.toList))=true
instance (x y:ByteArray):Decidable (jF x y):=inferInstanceAs (Decidable (_=true))
theorem Pa (x y:ByteArray):Value.bool (Op.bytesLess x.toList y.toList || (x.toList == y.toList))=Value.bool (decide (jF x y)):=by
 grind [jF]
theorem RJ {x:ByteArray}:jF x ⟨#[]⟩↔x=⟨#[]⟩:=by
 unfold jF
 rw [EP]
 have h1:(⟨#[]⟩:ByteArray).toList=[]:=by rw [Lib.toList_data]
 have h2:Op.bytesLess x.toList (⟨#[]⟩:ByteArray).toList=false:=by
  rw [h1]
  cases x.toList<;>rfl
 rw [h2]
 simp
def bY (ns:List aL) (z:Int):Nat:=(gF ns z).toNat
theorem nE {ns:List aL} {z:Int} (h:0<=gF ns z):bY ns z<ns.length/\(nd ns (bY ns z)).id=z/\gF ns z=(bY ns z:Int):=by
 unfold bY
 unfold gF at h ⊢
 cases hf:ns.findIdx? (λn=>n.id == z) with
 |none=>rw [hf] at h;simp at h
 |some k=>
   rw [ai2] at hf
   grind [nd]
theorem Dg {ns:List aL} {z:Int} (h:¬0<=gF ns z):gF ns z = -1:=by
 grind [gF]
def bS (ns:List aL) (i j:Nat):fA:=en (nd ns i).ah j
def AP (ns:List aL) (i:Nat):Nat->ByteArray
 |0=>⟨#[]⟩
 |j+1=>(bS ns i j).name
structure xS (ns:List aL) (i j:Nat):Prop where
 at_:0<=gF ns (bS ns i j).id
 good:ck (bS ns i j).name
 ord:¬jF (bS ns i j).name (AP ns i j)
def SV (ns:List aL) (i j:Nat):List (Nat×Nat):=if (nd ns (bY ns (bS ns i j).id)).kind=2 then [(bY ns (bS ns i j).id,i)] else []
def iu (ns:List aL) (i:Nat):Nat->List (Nat×Nat)
 |0=>[]
 |j+1=>SV ns i j++iu ns i j
def jr (ns:List aL):Nat->List (Nat×Nat)
 |0=>[]
 |i+1=>iu ns i (nd ns i).ah.length++jr ns i
def lS (ns:List aL) (p:Nat×Nat):Int×Int:=((nd ns p.1).id,(nd ns p.2).id)
theorem Wm {ns:List aL} {i j m:Nat} (h:j<=m):∃l,iu ns i m=l++iu ns i j:=by
 induction m with
 |zero=>exact⟨[],by rw [Nat.le_zero.1 h];rfl⟩
 |succ m ih=>
   rcases Nat.lt_or_ge m j with h1|h1
   ·have:j=m+1:=zc
    subst this
    exact⟨[],rfl⟩
   grind [SV,iu]
theorem Wn {ns:List aL} {i m:Nat} (h:i<=m):∃l,jr ns m=l++jr ns i:=by
 induction m with
 |zero=>exact⟨[],by rw [Nat.le_zero.1 h];rfl⟩
 |succ m ih=>
   rcases Nat.lt_or_ge m i with h1|h1
   ·have:i=m+1:=zc
    subst this
    exact⟨[],rfl⟩
   grind [iu,nd,jr]
theorem E8 {l:List (Nat×Nat)} {k:List (Nat×Nat)} (h:((l++k).map Prod.fst).Nodup):(k.map Prod.fst).Nodup:=by
 grind
theorem dH.inj {ns:List aL} (hr:dH ns) {a b:Nat} (ha:a<ns.length) (hb:b<ns.length) (h:(nd ns a).id=(nd ns b).id):a=b:=by
 rcases ai9 a b with h1|h1|h1
 all_goals grind [dH,nd]
theorem SX {ns:List aL} {ps:List (Nat×Nat)} {k:Nat} (h:up (ps.map (lS ns)) (nd ns k).id=none):k∉ps.map Prod.fst:=by
 unfold up at h
 induction ps with
 |nil=>simp
 |cons p ps ih=>
   grind [lS,nd]
theorem SY {ns:List aL} {ps:List (Nat×Nat)} {k:Nat} {y:Int} (hr:dH ns) (hk:k<ns.length) (hp:∀p,p∈ps->p.1<ns.length) (h:up (ps.map (lS ns)) (nd ns k).id=some y):k∈ps.map Prod.fst/\∃p,p∈ps/\p.1=k/\y=(nd ns p.2).id:=by
 unfold up at h
 induction ps with
 |nil=>cases h
 |cons p ps ih=>
   obtain⟨a,b⟩:=p
   rw [aiP,lS,List.lookup_cons] at h
   by_cases e:((nd ns k).id == (nd ns a).id)=true
   ·rw [e] at h
    cases h
    have:k=a:=hr.inj hk (hp (a,b) (aiw ..)) (by simpa using e)
    subst this
    exact⟨aii,(k,b),aiw ..,rfl,rfl⟩
   grind
def bf (A:Option Addr) (ns:List aL) (k:Nat) (z:Int):Option Value:=if 0<=gF ns z/\gF ns z<k then some (.pointer (some ⟨bG A,bE A+bY ns z*10,none⟩)) else none
structure DQ (ns:List aL) (i:Nat) (ps:List (Nat×Nat)):Prop where
 ah:∀j,j<(nd ns i).ah.length->xS ns i j
 nodup:((iu ns i (nd ns i).ah.length++ps).map Prod.fst).Nodup
theorem af2 {A:Option Addr} {ns:List aL} {k:Nat} {z:Int} (h:0<=gF ns z) (hk:bY ns z<k):mf (bf A ns k) (.int .i64 z)=some (.pointer (some ⟨bG A,bE A+bY ns z*10,none⟩)):=
 aik ⟨h,by rw [(nE h).2.2];omega⟩
theorem ac1 {A:Option Addr} {ns:List aL} {k:Nat} {z:Int} (h:¬0<=gF ns z):mf (bf A ns k) (.int .i64 z)=none:=aij (λe=>h e.1)
theorem Pb (ns:List aL) (i j:Nat):(iu ns i j).length<=j:=by
 induction j with
 |zero=>exact aiu _
 |succ j ih=>
   grind [iu,SV]
theorem r8 {ns:List aL} {i j:Nat} (h:¬(nd ns (bY ns (bS ns i j).id)).kind=2):iu ns i (j+1)=iu ns i j:=by
 rw [iu,SV,aij h];rfl
theorem qP {ns:List aL} {i j:Nat} (h:(nd ns (bY ns (bS ns i j).id)).kind=2):iu ns i (j+1)=(bY ns (bS ns i j).id,i)::iu ns i j:=by
 rw [iu,SV,aik h];rfl
theorem CQ {ns:List aL} {i j:Nat} {ps:List (Nat×Nat)} (h:DQ ns i ps) (hj:j<(nd ns i).ah.length) (hk:(nd ns (bY ns (bS ns i j).id)).kind=2):bY ns (bS ns i j).id∉(iu ns i j++ps).map Prod.fst:=by
 obtain⟨l,hl⟩:=Wm (ns:=ns) (i:=i) (show j+1<=(nd ns i).ah.length from hj)
 have h1:=h.nodup
 grind [E8,qP]
theorem Zp {ns:List aL} {i j:Nat} {ps:List (Nat×Nat)} (hat:0<=gF ns (bS ns i j).id) (hk:(nd ns (bY ns (bS ns i j).id)).kind=2) :
 qA (mf (pf ((iu ns i j++ps).map (lS ns)))) (.int .i64 (bS ns i j).id) (some (.int .i64 (nd ns i).id))=mf (pf ((iu ns i (j+1)++ps).map (lS ns))):=by
 rw [OX,qP hk,aiT,aiP,lS,(nE hat).2.1,acZ]
theorem Zq {ns:List aL} {i j:Nat} {ps:List (Nat×Nat)} {f:Lit->Option Value} {kl:Lit} (hf:f kl=none) (hk:(nd ns (bY ns (bS ns i j).id)).kind=2) :
 (if (f kl).isSome then (iu ns i j++ps).length else (iu ns i j++ps).length+1)=(iu ns i (j+1)++ps).length:=by
 rw [hf,qP hk]
 rfl
theorem Um {ns:List aL} {i j:Nat} {ps:List (Nat×Nat)} (hat:0<=gF ns (bS ns i j).id) (hk:(nd ns (bY ns (bS ns i j).id)).kind=2) (hup:up ((iu ns i j++ps).map (lS ns)) (bS ns i j).id=none) (h:((iu ns i j++ps).map Prod.fst).Nodup) :
 ((iu ns i (j+1)++ps).map Prod.fst).Nodup:=by
 grind [qP,SX,nE,gF,bS,nd,bY,up,iu,lS]
theorem Pc {ns:List aL} {i j:Nat} (h:∀t,t<j->xS ns i t):∀p,p∈iu ns i j->p.1<ns.length/\p.2=i:=by
 induction j with
 |zero=>intro p hp;cases hp
 |succ j ih=>
   intro p hp
   rw [iu] at hp
   rcases aiL.1 hp with hp|hp
   ·unfold SV at hp
    split at hp
    ·rw [ai3.1 hp]
     exact⟨(nE (h j (aiM j)).at_).1,rfl⟩
    cases hp
   exact ih (λt ht=>h t zc) p hp
theorem RM {ns:List aL} {i j:Nat} {ps:List (Nat×Nat)} {y:Int} (hr:dH ns) (au:∀p,p∈ps->p.1<ns.length) (hok:∀t,t<j->xS ns i t) (hat:0<=gF ns (bS ns i j).id) (hk:(nd ns (bY ns (bS ns i j).id)).kind=2)
 (hup:up ((iu ns i j++ps).map (lS ns)) (bS ns i j).id=some y) (hj:j<(nd ns i).ah.length):¬DQ ns i ps:=λh=>by
 refine CQ h hj hk ?_
 rw [←(nE hat).2.1] at hup
 refine (SY hr (nE hat).1 (λp hp=>?_) hup).1
 rcases aiL.1 hp with hp|hp
 ·exact (Pc hok p hp).1
 exact au p hp
end
section
open Go.RowKit
attribute [local irreducible] ar bN ak ay lq
theorem Zr {β:Bs} (A:Option Addr) (ns:List aL) (L:eP) (hG:aN β A ns L) (hr:dH ns) (i:Nat) (hi:i<ns.length) (hel:(nd ns i).ah.length<=1048576) (hwf:∀j,j<(nd ns i).ah.length->-9223372036854775808<=(bS ns i j).id/\(bS ns i j).id<=9223372036854775807) (hnm:∀j,j<(nd ns i).ah.length->(bS ns i j).name.size<=1048576)
 (mb mp:Nat) (ps:List (Nat×Nat)) (hpl:ps.length<=16777216) (au:∀p,p∈ps->p.1<ns.length) (hnp:(ps.map Prod.fst).Nodup) :
 aU Tryz.prog β 108 #[.pointer (some ⟨(bG A),bE A+i*10,none⟩),.map (some mb),.map (some mp)] [.abs (bM Tryz.prog 3 mb (mf (bf A ns ns.length)) ns.length),.abs (bM Tryz.prog 3 mp (mf (pf ((ps).map (lS ns)))) ((ps).length))] (λv l=>(v=.bool true/\DQ ns i ps/\l=[.abs (bM Tryz.prog 3 mb (mf (bf A ns ns.length)) ns.length),.abs (bM Tryz.prog 3 mp (mf (pf ((iu ns i (nd ns i).ah.length++ps).map (lS ns)))) ((iu ns i (nd ns i).ah.length++ps).length))])\/(v=.bool false/\¬DQ ns i ps/\l=[])):=by
 refine SE Tryz.func108 Tryz.ntmps108 (λR=>SR (jK 1 [] [] (NS (jK 1 [7] [] (NZ (jK 6 [16,17,18] [(3,r_ (aN.rd hG (i:=i) zc (j:=9) rfl))] (NN (ak.block (lJ (λ(j:Nat)=>(j<=(nd ns i).ah.length)/\(∀t,t<j->xS ns i t)/\(((iu ns i j++ps).map Prod.fst).Nodup)) (λ(j:Nat)=>(nd ns i).ah.length-j) (λ(j:Nat)=>[(0,.pointer (some ⟨(bG A),bE A+i*10,none⟩)),(1,.map (some mb)),(2,.map (some mp)),(7,.string (AP ns i j)),(16,.slice (L.eA i) ((nd ns i).ah.length) ((L.eC i))),(17,vI ↑((nd ns i).ah.length)),(18,vI ↑j)]) (λ(j:Nat)=>[.abs (bM Tryz.prog 3 mb (mf (bf A ns ns.length)) ns.length),.abs (bM Tryz.prog 3 mp (mf (pf ((iu ns i j++ps).map (lS ns)))) ((iu ns i j++ps).length)),.abs R]) 0 [0,1,2] (⟨aio _,λt ht=>ain ht (aiq t),hnp⟩) ?_)))))))))
 rintro j ⟨hj,hok,hnd⟩
 refine SR (jK 1 [19] [] (NN (ak.seq (cP ((((j:Nat):Int):Int)<((((nd ns i).ah.length:Nat):Int):Int)) (λG9=>KX (ak.seq (ak.block (SR (jN 4 [9] (λb1=>[(0,x_ j ((nd ns i).ah.length) (cT.hd (hG.ah i zc) (i:=j) zc)),(1,r2 (cT.rd (hG.ah i zc) (i:=j) zc (j:=0) rfl) (cT.rd (hG.ah i zc) (i:=j) zc (j:=1) rfl)),(3,A_ 3 b1 2)]) (λ_=>[]) (λb1=>.ax b1 [.string (en (nd ns i).ah j).name,vI ((en (nd ns i).ah j).id)] 149) (λb1=>NS (jK 3 [22,24] [(2,a_ 3 b1)] ?_))))))) (λG9=>XX (zR (l:=[.abs (bM Tryz.prog 3 mb (mf (bf A ns ns.length)) ns.length),.abs (bM Tryz.prog 3 mp (mf (pf ((iu ns i j++ps).map (lS ns)))) ((iu ns i j++ps).length))]) (.inl ⟨rfl,⟨λt ht=>hok t zc,Pe⟩,Pe⟩)))))))
 by_cases hat:0<=gF ns (en (nd ns i).ah j).id
 ·have htl:=nE hat
  refine ar.jj 0 (d:=(some 25)) (t:=177) (K:=3) (E:=192) (b:=mb) (n:=ns.length) (f:=(mf (bf A ns ns.length))) (x:=(.tmp 22)) (ix:=(.tmp 24)) (key:=vI ((en (nd ns i).ah j).id)) (z:=.pointer none) (kl:=(.int .i64 (en (nd ns i).ah j).id)) (r:=(some (.pointer (some ⟨(bG A),bE A+(bY ns (en (nd ns i).ah j).id)*10,none⟩)))) (λ_=>KB) KB (λ_=>KB) (λ_=>KB) iZ Tryz.underlying177 (λ_=>KB) (wV (hwf j zc).1 (hwf j zc).2) (af2 hat htl.1) (jK 1 [10] [] (NZ (jK 5 [28,30] [(4,a_ 3 b1)] (gE [] (AL (en (nd ns i).ah j).name (hnm j zc)) (jK 3 [34] [] (sN 34 (ck (en (nd ns i).ah j).name) (λyw=>jK 5 [39] [] (NT (zR (.inr ⟨rfl,λh=>yw (h.ah j zc).good,rfl⟩) [2]))) (λyw=>jK 5 [39] [(1,a_ 3 b1),(3,w_ (.bool (decide (jF ((en (nd ns i).ah j).name) (AP ns i j)))) (Pa _ _))] (NN (cP (jF ((en (nd ns i).ah j).name) (AP ns i j)) (λnN=>zR (.inr ⟨rfl,λh=>(h.ah j zc).ord nN,rfl⟩) [2]) (λnN=>KX (SR (jK 3 [7] [(1,a_ 3 b1)] (NZ (jK 5 [46] [(3,r_ (aN.rd hG (i:=(bY ns (en (nd ns i).ah j).id)) zc (j:=1) rfl))] (NN (cN (((nd ns (bY ns (en (nd ns i).ah j).id)).kind:Int)=(2:Int)) (λh46=>XX (ak.region (ar.cJ 1 (p':=.abs (bM Tryz.prog 3 mp (mf (pf ((iu ns i (j+1)++ps).map (lS ns)))) ((iu ns i (j+1)++ps).length))) rfl (by rw [r8 h46]) (jK 2 [18] [(0,wJ ((j:Int)+1) (↑(j+1)))] (NL (tJ ((j+1)) [0,1,2] (⟨zc,λt ht=>(by rcases ais.1 ht with h|h;exact hok t h;subst h;exact⟨hat,yw,nN⟩),(by rw [r8 h46];exact hnd)⟩))))))) (λh46=>KX (SQ (jK 3 [48,50] [(2,a_ 3 b1)] ?_)))))))))))))))))))
  rcases hup:up ((iu ns i j++ps).map (lS ns)) (en (nd ns i).ah j).id with _|y
  ·exact ar.BK 1 (d:=(some 51)) (t:=107) (K:=3) (E:=3) (b:=mp) (n:=(iu ns i j++ps).length) (f:=(mf (pf ((iu ns i j++ps).map (lS ns))))) (x:=(.tmp 48)) (ix:=(.tmp 50)) (key:=vI ((en (nd ns i).ah j).id)) (z:=.int .i64 0) (kl:=(.int .i64 (en (nd ns i).ah j).id)) (r:=none) (λ_=>KB) KB (λ_=>KB) (λ_=>KB) iZ Tryz.underlying107 (λ_=>KB) (wV (hwf j zc).1 (hwf j zc).2) (DN hup) (jK 5 [12] [] (NS (jK 1 [54] [] (NF (KX (ak.xQ 7 KB KB (lq.seg (k':=7) (bL:=[(0,.pointer (some ⟨(bG A),bE A+i*10,none⟩)),(1,.map (some mb)),(2,.map (some mp)),(7,.string (en (nd ns i).ah j).name),(16,.slice (L.eA i) ((nd ns i).ah.length) ((L.eC i))),(17,vI ↑((nd ns i).ah.length)),(18,vI ↑j),(55,.map (some mp)),(57,vI ((en (nd ns i).ah j).id)),(61,vI ((nd ns i).id))]) (eV:=[(Rd β ⟨(bG A),bE A+i*10,none⟩ (vI ((nd ns i).id))),b1=b1]) [o_,o_,⟨[.at 3],none,none,none,none⟩,o_,o_,o_,⟨[.old (.int .i64 ((nd ns i).id))],none,none,none,none⟩] [0,1,2,7,16,17,18,55,57,61] (λ_ _=>KB) ⟨aN.rd hG (i:=i) zc (j:=0) rfl,rfl,trivial⟩ Pd (lq.done rfl (ar.rF 1 (d:=none) (t:=107) (K:=3) (E:=3) (b:=mp) (n:=(iu ns i j++ps).length) (f:=(mf (pf ((iu ns i j++ps).map (lS ns))))) (x:=(.tmp 55)) (ix:=(.tmp 57)) (y:=(.tmp 61)) (key:=vI ((en (nd ns i).ah j).id)) (u:=.int .i64 ((nd ns i).id)) (kl:=(.int .i64 (en (nd ns i).ah j).id)) (n':=(iu ns i (j+1)++ps).length) (f':=(mf (pf ((iu ns i (j+1)++ps).map (lS ns))))) (λ_=>KB) KB (λ_=>KB) (λ_=>KB) (λ_=>KB) iZ Tryz.underlying107 (by have:=Pb ns i j;rw [ait];unfold maxLen;omega) (wV (hwf j zc).1 (hwf j zc).2) (Zq (DN hup) h46) (Zp hat h46) (LX (ak.region (jK 2 [18] [(0,wJ ((j:Int)+1) (↑(j+1)))] (NL (tJ ((j+1)) [0,1,2] (⟨zc,λt ht=>(by rcases ais.1 ht with h|h;exact hok t h;subst h;exact⟨hat,yw,nN⟩),(Um hat h46 hup hnd)⟩)))))))))))))))
  exact ar.BK 1 (d:=(some 51)) (t:=107) (K:=3) (E:=3) (b:=mp) (n:=(iu ns i j++ps).length) (f:=(mf (pf ((iu ns i j++ps).map (lS ns))))) (x:=(.tmp 48)) (ix:=(.tmp 50)) (key:=vI ((en (nd ns i).ah j).id)) (z:=.int .i64 0) (kl:=(.int .i64 (en (nd ns i).ah j).id)) (r:=(some (vI y))) (λ_=>KB) KB (λ_=>KB) (λ_=>KB) iZ Tryz.underlying107 (λ_=>KB) (wV (hwf j zc).1 (hwf j zc).2) (ab1 hup) (jK 5 [12] [] (NS (jK 1 [54] [] (NT (zR (.inr ⟨rfl,RM hr au hok hat h46 hup zc,rfl⟩) [2])))))
 exact ar.jj 0 (d:=(some 25)) (t:=177) (K:=3) (E:=192) (b:=mb) (n:=ns.length) (f:=(mf (bf A ns ns.length))) (x:=(.tmp 22)) (ix:=(.tmp 24)) (key:=vI ((en (nd ns i).ah j).id)) (z:=.pointer none) (kl:=(.int .i64 (en (nd ns i).ah j).id)) (r:=none) (λ_=>KB) KB (λ_=>KB) (λ_=>KB) iZ Tryz.underlying177 (λ_=>KB) (wV (hwf j zc).1 (hwf j zc).2) (ac1 hat) (jK 1 [10] [] (NZ (jK 14 [39] [] (NT (zR (.inr ⟨rfl,λh=>hat (h.ah j zc).at_,rfl⟩) [2])))))
end
section
open Go.RowKit Go.Maps
def dI (ns:List aL):Nat->Nat
 |0=>0
 |k+1=>dI ns k+(nd ns k).ah.length
def rH (ns:List aL):Nat->Int
 |0=>0
 |k+1=>(nd ns k).id
structure cr (ns:List aL):Prop where
 len:ns.length<=4096
 node:∀i,i<ns.length->sS (nd ns i)
 ids:∀i,i<ns.length->1<=(nd ns i).id/\(nd ns i).id<=1099511627776
 fD:dH ns
 sum:dI ns ns.length<=8192
 ah:∀i,i<ns.length->∀j,j<(nd ns i).ah.length->xS ns i j
 nodup:((jr ns ns.length).map Prod.fst).Nodup
 ends:Df ((jr ns ns.length).map (lS ns))
noncomputable instance (ns:List aL):Decidable (cr ns):=Classical.propDecidable _
theorem cr.last {ns:List aL} (h:cr ns) {k:Nat} (hk:k<ns.length):rH ns k<(nd ns k).id:=by
 cases k with
 |zero=>have:=(h.ids 0 hk).1;show (0:Int)<_;omega
 |succ k=>exact h.fD k (k+1) (aiM k) hk
structure wX (ns:List aL) (k:Nat):Prop where
 node:∀i,i<k->sS (nd ns i)
 ids:∀i,i<k->1<=(nd ns i).id/\(nd ns i).id<=1099511627776
 fD:∀i j,i<j->j<k->(nd ns i).id<(nd ns j).id
theorem wX.zero (ns:List aL):wX ns 0:=⟨λi h=>ain h (aiq i),λi h=>ain h (aiq i),λ_ j _ h=>ain h (aiq j)⟩
theorem wX.last {ns:List aL} {k:Nat} (h:wX ns k):0<=rH ns k/\rH ns k<=1099511627776:=by
 cases k with
 |zero=>exact⟨Int.le_refl _,by show (0:Int)<=1099511627776;decide⟩
 |succ k=>have:=h.ids k (aiM k);exact⟨by show 0<=(nd ns k).id;omega,this.2⟩
theorem wX.step {ns:List aL} {k:Nat} (h:wX ns k) (h1:rH ns k<(nd ns k).id) (h2:(nd ns k).id<=1099511627776) (h3:sS (nd ns k)):wX ns (k+1):=by
 have hl:=h.last
 refine⟨λi hi=>?_,λi hi=>?_,λi j hij hj=>?_⟩
 ·rcases ais.1 hi with e|e
  ·exact h.node i e
  rw [e];exact h3
 ·rcases ais.1 hi with e|e
  ·exact h.ids i e
  rw [e];omega
 rcases ais.1 hj with e|e
 ·exact h.fD i j hij e
 subst e
 cases j with
 |zero=>omega
 |succ m=>
   have h4:(nd ns m).id<(nd ns (m+1)).id:=h1
   rcases ais.1 hij with e|e
   ·have:=h.fD i m e (aiM m);omega
   rw [e];exact h4
theorem Pf {ns:List aL} {k:Nat} (h:∀i,i<k->(nd ns i).id<(nd ns k).id) (hk:k<ns.length):gF ns (nd ns k).id=(k:Int):=by
 unfold gF
 have hg:∀j (hj:j<ns.length),nd ns j=ns[j]:=λj hj=>by
  grind [nd]
 have:ns.findIdx? (λn=>n.id == (nd ns k).id)=some k:=by
  rw [ai2]
  grind
 rw [this]
theorem aed {A:Option Addr} {ns:List aL} {k:Nat} (h:∀i,i<k->(nd ns i).id<(nd ns k).id) (hk:k<ns.length) :
 qA (mf (bf A ns k)) (.int .i64 (nd ns k).id) (some (.pointer (some ⟨bG A,bE A+k*10,none⟩)))=mf (bf A ns (k+1)):=by
 have ha:=Pf h hk
 rw [OX]
 congr 1
 funext z
 unfold bf
 by_cases e:z=(nd ns k).id
 ·grind [bY]
 rw [aij e]
 by_cases e1:0<=gF ns z/\gF ns z<(k:Int)
 ·rw [aik e1,aik ⟨e1.1,zc⟩]
 rw [aij e1,aij (λe2=>?_)]
 have e3:gF ns z=(k:Int):=zc
 have e4:=(nE e2.1).2
 grind
theorem Zs {A:Option Addr} {ns:List aL} {k:Nat} (h:∀i,i<k->(nd ns i).id<(nd ns k).id) (hk:k<ns.length):(if ((mf (bf A ns k)) (.int .i64 (nd ns k).id)).isSome then k else k+1)=k+1:=by
 grind [Pf,mf,bf,nd]
theorem wX.below {ns:List aL} {k:Nat} (h:wX ns k) (h1:rH ns k<(nd ns k).id):∀i,i<k->(nd ns i).id<(nd ns k).id:=by
 intro i hi
 cases k with
 |zero=>omega
 |succ m=>
   have h1:(nd ns m).id<(nd ns (m+1)).id:=h1
   rcases ais.1 hi with e|e
   ·have:=h.fD i m e (aiM m);omega
   rw [e];exact h1
theorem ac2 {A:Option Addr} {ns:List aL}:mf (bf A ns 0)=λ_=>none:=by
 rw [←Lk]
 congr 1
 funext z
 exact aij (λe=>zc)
theorem ac3 {ns:List aL}:mf (pf ((jr ns 0).map (lS ns)))=λ_=>none:=by
 rw [←Lk]
 congr 1
theorem AQ {ns:List aL} {i:Nat} (hi:i<=ns.length) (h:∀a,a<i->∀j,j<(nd ns a).ah.length->xS ns a j):∀p,p∈jr ns i->p.1<ns.length/\p.2<ns.length:=by
 induction i with
 |zero=>intro p hp;cases hp
 |succ i ih=>
   intro p hp
   grind [jr,Pc]
theorem Pg (ns:List aL) (i:Nat):(jr ns i).length<=dI ns i:=by
 induction i with
 |zero=>exact aiu _
 |succ i ih=>
   grind [jr,dI,Pb,nd]
theorem qQ {ns:List aL} {i m:Nat} (h:i<=m):dI ns i<=dI ns m:=by
 induction m with
 |zero=>rw [Nat.le_zero.1 h];exact aiu _
 |succ m ih=>
   grind [dI]
theorem Wo {ns:List aL} {ps:List (Nat×Nat)} (hp:∀p,p∈ps->p.1<ns.length/\p.2<ns.length) (hid:∀i,i<ns.length->1<=(nd ns i).id/\(nd ns i).id<=1099511627776) :
 ∀z y,up (ps.map (lS ns)) z=some y->(-9223372036854775808<=z/\z<=9223372036854775807)/\(-9223372036854775808<=y/\y<=9223372036854775807):=by
 intro z y h
 unfold up at h
 induction ps with
 |nil=>cases h
 |cons p ps ih=>
   grind [lS,nd]
theorem aee {p:Prop} [Decidable p] {v:Value} {l:List HP} (h:v=.bool (decide p)/\l=[]):(v=.bool true/\p/\l=[])\/(v=.bool false/\¬p/\l=[]):=by
 by_cases hp:p
 all_goals grind
theorem DQ.next {ns:List aL} {i:Nat} (h:DQ ns i (jr ns i)):((jr ns (i+1)).map Prod.fst).Nodup:=h.nodup
theorem cr.row {ns:List aL} (h:cr ns) {i:Nat} (hi:i<ns.length):DQ ns i (jr ns i):=by
 refine⟨h.ah i hi,?_⟩
 obtain⟨l,hl⟩:=Wn (ns:=ns) (show i+1<=ns.length from hi)
 have:=h.nodup
 rw [hl] at this
 exact E8 this
end
section
open Go.RowKit
attribute [local irreducible] ar bN ak ay
theorem ac4 {β:Bs} (A:Option Addr) (c:Nat) (ns:List aL) (L:eP) (hG:aN β A ns L) (hl:ns.length<=1048576) (hd:∀i,i<ns.length->(nd ns i).data.length<=140737488355328/\(nd ns i).ah.length<=1048576) (hwf:∀i,i<ns.length->∀j,j<(nd ns i).ah.length->-9223372036854775808<=(bS ns i j).id/\(bS ns i j).id<=9223372036854775807) (hnm:∀i,i<ns.length->∀j,j<(nd ns i).ah.length->(bS ns i j).name.size<=1048576) :
 aU Tryz.prog β 90 #[.agg #[.slice A ns.length c]] [] (λv l=>(∃mb,v=.tuple #[.map (some mb),.bool true]/\cr ns/\l=[.abs (bM Tryz.prog 3 mb (mf (bf A ns ns.length)) ns.length)])\/(∃m,v=.tuple #[m,.bool false]/\¬cr ns/\l=[])):=by
 refine SE Tryz.func90 Tryz.ntmps90 (λR=>SR (jB 3 [1] (λb1=>.ax b1 [.slice A (ns.length) (c)] 24) (λb1=>NZ (jK 4 [14] [(1,a_ 1 b1)] (NN (cP ((((ns.length:Nat):Int):Int)>(4096:Int)) (λmZ=>zR (v:=(.tuple #[.map none,.bool false])) (.inr ⟨_,rfl,λh=>by have:=h.len;omega,rfl⟩)) (λmZ=>KX (SR (ar.tX (d:=(some 15)) (t:=177) (λ_=>KB) Tryz.prog rfl 3 (λm2=>jK 1 [4] [] (NS (ar.cJ 2 (p:=.abs (bM Tryz.prog 3 m2 (λ_=>none) 0)) (p':=.abs (bM Tryz.prog 3 m2 (mf (bf A ns 0)) 0)) KB (by rw [ac2]) (jK 2 [5,6] [] (NZ (jK 4 [18,19] [(1,a_ 1 b1)] (NN (ak.block (lJ (ι:=Nat) (λ(k:Nat)=>(k<=ns.length)/\(wX ns k)/\(dI ns k<=k*1048576)) (λ(k:Nat)=>ns.length-k) (λ(k:Nat)=>[(1,vP b1),(4,.map (some m2)),(5,vI (rH ns k)),(6,vI ↑(dI ns k)),(18,vI ↑ns.length),(19,vI ↑k)]) (λ(k:Nat)=>[.ax b1 [.slice A (ns.length) (c)] 24,.abs (bM Tryz.prog 3 m2 (mf (bf A ns k)) k),.abs R]) 0 [1,2,0] (⟨aio _,wX.zero ns,aio _⟩) ?_))))))))))))))))))
 rintro k ⟨hk,hu,hs⟩
 have hk4:=(hd k)
 refine SR (jK 1 [20] [] (NN (ak.seq (cP ((((k:Nat):Int):Int)<(((ns.length:Nat):Int):Int)) (λpQ=>KX (ak.seq (ak.block (SR (jK 2 [7] [] (NS (jK 5 [8] [(1,a_ 0 b1),(3,x_ k ns.length (aN.hd hG (i:=k) zc))] (NZ (jK 7 [32] [(3,r_ (aN.rd hG (i:=k) zc (j:=0) rfl))] (sP 32 (((nd ns k).id:Int)<=(rH ns k:Int)) (λsR=>jK 11 [43] [] (NT (zR (v:=(.tuple #[.map none,.bool false])) (.inr ⟨_,rfl,λh=>by have:=h.last (show k<ns.length by omega);omega,rfl⟩) [2]))) (λsR=>jK 7 [39] [(3,r_ (aN.rd hG (i:=k) zc (j:=0) rfl))] (sP 39 (((nd ns k).id:Int)>(1099511627776:Int)) (λnN=>jK 4 [43] [] (NT (zR (v:=(.tuple #[.map none,.bool false])) (.inr ⟨_,rfl,λh=>by have:=(h.ids k zc).2;omega,rfl⟩) [2]))) (λnN=>jK 1 [40] [] (gE [] (Zo A ns L hG k zc) (jK 2 [43] [] (NN (cN (sS (nd ns k)) (λJN=>zR (v:=(.tuple #[.map none,.bool false])) (.inr ⟨_,rfl,λh=>JN (h.node k zc),rfl⟩) [2]) (λJN=>KX (SR (jK 5 [5] [(3,r_ (aN.rd hG (i:=k) zc (j:=0) rfl))] (NS (jK 6 [48,52,53] [(4,r_ (aN.rd hG (i:=k) zc (j:=0) rfl))] (ar.rF 1 (d:=none) (t:=177) (K:=3) (E:=192) (b:=m2) (n:=k) (f:=(mf (bf A ns k))) (x:=(.tmp 48)) (ix:=(.tmp 52)) (y:=(.tmp 53)) (key:=vI ((nd ns k).id)) (u:=.pointer (some ⟨(bG A),bE A+k*10,none⟩)) (kl:=(.int .i64 (nd ns k).id)) (n':=k+1) (f':=(mf (bf A ns (k+1)))) (λ_=>KB) KB (λ_=>KB) (λ_=>KB) (λ_=>KB) iZ Tryz.underlying177 (by unfold maxLen;omega) (wV (by have:=hu.last;omega) zc) (Zs (hu.below zc) zc) (aed (hu.below zc) zc) (NN (ak.region (jK 8 [6] [(4,r_ (aN.rd hG (i:=k) zc (j:=9) rfl)),(6,wJ (((dI ns k:Nat):Int)+(((nd ns k).ah.length:Nat):Int)) (↑((dI ns k)+((nd ns k).ah.length))))] (LX (ak.region (jK 2 [19] [(0,wJ ((k:Int)+1) (↑(k+1)))] (NL (tJ ((k+1)) [0,1,2] (⟨zc,hu.step zc zc JN,by grind [dI]⟩)))))))))))))))))))))))))))))))) (λpQ=>XX (SQ (jK 2 [63] [] (NN (cP ((((dI ns k:Nat):Int):Int)>(8192:Int)) (λh63=>zR (v:=(.tuple #[.map none,.bool false])) (.inr ⟨_,rfl,λh=>by have h1:=h.sum;grind,rfl⟩) [2]) (λh63=>KX (SR (ar.tX (d:=(some 64)) (t:=107) (λ_=>KB) Tryz.prog rfl 3 (λm3=>jK 1 [9] [] (NZ (ar.cJ 3 (p:=.abs (bM Tryz.prog 3 m3 (λ_=>none) 0)) (p':=.abs (bM Tryz.prog 3 m3 (mf (pf ((jr ns 0).map (lS ns)))) ((jr ns 0).length))) KB (by rw [ac3];rfl) (ar.cJ 1 (p:=.abs (bM Tryz.prog 3 m2 (mf (bf A ns k)) k)) (p':=.abs (bM Tryz.prog 3 m2 (mf (bf A ns ns.length)) ns.length)) KB (by rw [show k=ns.length by omega]) (jK 4 [67,68] [(1,a_ 0 b1)] (NN (ak.block ?_)))))))))))))))))))
 have DR:dH ns:=λa b dR hb=>hu.fD a b dR zc
 have hsum:dI ns ns.length<=8192:=by rw [show ns.length=k by omega];omega
 refine lJ (ι:=Nat) (λ(i:Nat)=>(i<=ns.length)/\(∀a,a<i->∀j,j<(nd ns a).ah.length->xS ns a j)/\(((jr ns i).map Prod.fst).Nodup)) (λ(i:Nat)=>ns.length-i) (λ(i:Nat)=>[(1,vP b1),(4,.map (some m2)),(9,.map (some m3)),(67,vI ↑ns.length),(68,vI ↑i)]) (λ(i:Nat)=>[.ax b1 [.slice A (ns.length) (c)] 24,.abs (bM Tryz.prog 3 m2 (mf (bf A ns ns.length)) ns.length),.abs (bM Tryz.prog 3 m3 (mf (pf ((jr ns i).map (lS ns)))) ((jr ns i).length)),.abs R]) 0 [0,1,3,2] (⟨aio _,λa ha=>ain ha (aiq a),List.nodup_nil⟩) ?_
 rintro i ⟨hi,BQ,hnd⟩
 refine SR (jK 1 [69] [] (NN (ak.seq (cP ((((i:Nat):Int):Int)<(((ns.length:Nat):Int):Int)) (λh69=>?_) (λh69=>?_)))))
 ·refine KX (ak.seq (ak.block (SR (jK 2 [10] [] (NS (jK 6 [74,75,76] [(1,a_ 0 b1),(3,x_ i ns.length (aN.hd hG (i:=i) zc))] (gL [1,2] (Zr A ns L hG DR i zc (hd i zc).2 (hwf i zc) (hnm i zc) m2 m3 (jr ns i) (by have:=Pg ns i;have:=qQ (ns:=ns) (show i<=ns.length by omega);omega) (λp hp=>(AQ zc BQ p hp).1) hnd) ?_)))))))
  rintro _ _ (⟨rfl,hro,rfl⟩|⟨rfl,hro,rfl⟩)
  ·exact jK 1 [78] [] (NF (KX (ak.region (jK 2 [68] [(0,wJ ((i:Int)+1) (↑(i+1)))] (NL (tJ ((i+1)) [2,0,1,3] (⟨zc,λa ha=>(by rcases ais.1 ha with h|h;exact BQ a h;subst h;exact hro.ah),hro.next⟩)))))))
  exact jK 1 [78] [] (NT (zR (v:=(.tuple #[.map none,.bool false])) (.inr ⟨_,rfl,λh=>hro (h.row zc),rfl⟩) [1]))
 refine XX (SR (jK 2 [80,81] [] (ar.cJ 2 (p:=.abs (bM Tryz.prog 3 m3 (mf (pf ((jr ns i).map (lS ns)))) ((jr ns i).length))) (p':=.abs (bM Tryz.prog 3 m3 (mf (pf ((jr ns i).map (lS ns)))) (((jr ns i).map (lS ns)).length))) KB (by rw [aiF]) (gL [2] ((Wk m3 ((jr ns i).map (lS ns)) (by grind [Pg,qQ]) (Wo (AQ zc BQ) (λa ha=>hu.ids a zc))).mono (λv l h=>aee h)) ?_))))
 rintro _ _ (⟨rfl,hae,rfl⟩|⟨rfl,hae,rfl⟩)
 ·exact jK 2 [2,3] [] (eN (v:=(.tuple #[.map (some m2),.bool true])) (.inl ⟨m2,rfl,⟨zc,λa ha=>hu.node a zc,λa ha=>hu.ids a zc,DR,zc,λa ha=>BQ a zc,Pe,Pe⟩,rfl⟩) [1,2])
 exact jK 2 [2,3] [] (eN (v:=(.tuple #[.map (some m2),.bool false])) (.inr ⟨_,rfl,λh=>hae (by have:=h.ends;grind),rfl⟩) [2])
theorem Zt {β:Bs} (A:Option Addr) (c:Nat) (ns:List aL) (L:eP) (hG:aN β A ns L) (hl:ns.length<=1048576) (hd:∀i,i<ns.length->(nd ns i).data.length<=140737488355328/\(nd ns i).ah.length<=1048576) (hwf:∀i,i<ns.length->∀j,j<(nd ns i).ah.length->-9223372036854775808<=(bS ns i j).id/\(bS ns i j).id<=9223372036854775807) (hnm:∀i,i<ns.length->∀j,j<(nd ns i).ah.length->(bS ns i j).name.size<=1048576) :
 aU Tryz.prog β 63 #[.agg #[.slice A ns.length c]] [] (λv l=>v=vI (if cr ns then 0 else 140)/\l=[]):=by
 refine SE Tryz.func63 Tryz.ntmps63 (λR=>SR (jB 2 [1] (λb4=>.ax b4 [.slice A (ns.length) (c)] 24) (λb4=>NZ (jK 1 [6] [(0,a_ 1 b4)] (gL [] (ac4 A c ns L hG hl hd hwf hnm) ?_)))))
 rintro _ _ (⟨mb,rfl,hok,rfl⟩|⟨m,rfl,hok,rfl⟩)
 ·exact jK 5 [4] [] (NS (jK 2 [11] [] (NF (KX (zR ⟨ail (Value.int .i64) (aik hok).symm,rfl⟩ [1])))))
 exact jK 5 [4] [] (NS (jK 2 [11] [] (NT (zR ⟨ail (Value.int .i64) (aij hok).symm,rfl⟩))))
end
section
open Go.RowKit Go.Maps
def DS (ed:List (Nat×Nat)) (k:Nat):Int:=match ed.lookup k with|some a=>(a:Int)|none=>-1
structure Ph (n:Nat) (pl:List Int) (ed:List (Nat×Nat)):Prop where
 len:pl.length=n
 at_:∀k,k<n->pl.getD k 0=DS ed k
theorem BR {w:List Int} {j:Nat} (hj:j<w.length):(j5 w)[j]?=some (.int .i64 (w.getD j 0)):=by
 grind [j5,getD_some]
theorem E9 (pl:List Int) (k:Nat) (x:Int):(j5 pl).set k (.int .i64 x)=j5 (pl.set k x):=by
 unfold j5
 rw [List.map_set]
theorem Pj {pl:List Int} {k j:Nat} {x:Int} (hk:k<pl.length):(pl.set k x).getD j 0=if j=k then x else pl.getD j 0:=by
 grind
theorem Ph.put {n:Nat} {pl:List Int} {ed:List (Nat×Nat)} (h:Ph n pl ed) {k a:Nat} (hk:k<n):Ph n (pl.set k (a:Int)) ((k,a)::ed):=by
 refine⟨by rw [aix];exact h.len,λj hj=>?_⟩
 rw [Pj (by rw [h.len];exact hk)]
 unfold DS
 rw [List.lookup_cons]
 by_cases e:j=k
 ·subst e;simp
 have:(j == k)=false:=by simp [e]
 rw [aij e,this,h.at_ j hj]
 rfl
theorem BS {ed:List (Nat×Nat)} {k:Nat}:DS ed k<0↔k∉ed.map Prod.fst:=by
 grind [DS]
theorem ac5 {ns:List aL} {ed:List (Nat×Nat)} {k:Nat} (hr:dH ns) (hk:k<ns.length) (hp:∀p,p∈ed->p.1<ns.length) :
 (DS ed k<0/\up (ed.map (lS ns)) (nd ns k).id=none)\/∃a:Nat,DS ed k=(a:Int)/\(k,a)∈ed/\up (ed.map (lS ns)) (nd ns k).id=some (nd ns a).id:=by
 unfold DS up
 induction ed with
 |nil=>exact .inl ⟨aii,rfl⟩
 |cons p ed ih=>
   obtain⟨a,b⟩:=p
   rw [aiP,lS,List.lookup_cons,List.lookup_cons]
   by_cases e:k=a
   ·grind
   have h1:(k == a)=false:=by simp [e]
   have h2:((nd ns k).id == (nd ns a).id)=false:=by
    simp
    exact λh=>e (hr.inj hk (hp (a,b) (aiw ..)) h)
   grind
theorem Way.back {ps:List (Int×Int)} {z0:Int} {w:List Int} (h:Way ps z0 w z0) (hl:0<w.length):¬Ends ps z0:=λ⟨k,hk⟩=>by
 obtain⟨j,hj,h2⟩:=h.long hk
 have:=oK.uniq hk h2
 omega
theorem Pk:∀(n:Nat) (l:List Nat),l.Nodup->(∀x,x∈l->x<n)->l.length<=n
 |0,[],_,_=>aiu _
 |0,a::l,_,h=>ain (h a (aiw ..)) (aiq a)
 |n+1,l,hn,h=>by
   have h1:=Pk n (l.erase n) (hn.erase n) (λx hx=>by
    have h2:=(List.Nodup.mem_erase_iff hn).1 hx
    have:=h x h2.2
    omega)
   by_cases hm:n∈l
   ·have:=List.length_erase_of_mem hm
    omega
   rw [List.erase_of_not_mem hm] at h1
   omega
theorem Wp {ns:List aL} {ed:List (Nat×Nat)} (hp:∀p,p∈ed->p.1<ns.length) (h:∀i,i<ns.length->Ends (ed.map (lS ns)) (nd ns i).id):Df (ed.map (lS ns)):=by
 intro z
 cases hu:up (ed.map (lS ns)) z with
 |none=>exact⟨0,hu⟩
 |some y=>
   have:∃p,p∈ed/\z=(nd ns p.1).id:=by
    unfold up at hu
    clear h
    induction ed with
    |nil=>cases hu
    |cons p ed ih=>
      grind [lS,nd]
   obtain⟨p,h1,rfl⟩:=this
   exact h p.1 (hp p h1)
theorem Pm {ns:List aL} {ed:List (Nat×Nat)} {pl:List Int} {z:Int} {b m:Nat} {w:List Int} (hr:dH ns) (hp:∀p,p∈ed->p.1<ns.length/\p.2<ns.length) (hpar:Ph ns.length pl ed) (hb:b<ns.length) (hw:Way (ed.map (lS ns)) z w (nd ns b).id) (hm:w.length=m) :
 (pl.getD b 0<0/\Ends (ed.map (lS ns)) z)\/∃q:Nat,pl.getD b 0=(q:Int)/\q<ns.length/\Way (ed.map (lS ns)) z (w++[(nd ns b).id]) (nd ns q).id/\(w++[(nd ns b).id]).length=m+1:=by
 rw [hpar.at_ b hb]
 rcases ac5 hr hb (λp h=>(hp p h).1) with ⟨h1,h2⟩|⟨a,h1,h2,h3⟩
 ·exact .inl ⟨h1,(hw.ends ⟨0,h2⟩).1⟩
 exact .inr ⟨a,h1,(hp _ h2).2,hw.snoc h3,by simp;omega⟩
theorem DT {ns:List aL} {i j:Nat} (h1:0<=gF ns (bS ns i j).id) (h2:ck (bS ns i j).name) (h3:0<j->¬jF (bS ns i j).name (bS ns i (j-1)).name):xS ns i j:=by
 refine⟨h1,h2,?_⟩
 cases j with
 |zero=>
   intro h
   have:=RJ.1 h
   have h4:=h2.1
   rw [this] at h4
   exact ain h4 (by decide)
 |succ j=>exact h3 (Nat.succ_pos j)
theorem Un {ns:List aL} {k:Nat} (h:0<k):rH ns k=(nd ns (k-1)).id:=by
 cases k with
 |zero=>omega
 |succ k=>rfl
theorem Pn {ns:List aL} {i j:Nat} (h:0<j):AP ns i j=(bS ns i (j-1)).name:=by
 cases j with
 |zero=>omega
 |succ j=>rfl
theorem cr.few {ns:List aL} (h:cr ns):((jr ns ns.length).map (lS ns)).length<=ns.length:=by
 rw [aiF]
 have h1:=AQ (ns:=ns) (aiu _) h.ah
 have h2:=Pk ns.length ((jr ns ns.length).map Prod.fst) h.nodup (λx hx=>by
  obtain⟨p,hp,rfl⟩:=aiC.1 hx
  exact (h1 p hp).1)
 rwa [aiF] at h2
end
section
open Go.RowKit
attribute [local irreducible] ar bN ak ay
theorem RN {β:Bs} (A:Option Addr) (c:Nat) (ns:List aL) (L:eP) (hG:aN β A ns L) (hl:ns.length<=1048576) (hd:∀i,i<ns.length->(nd ns i).data.length<=1048576/\(nd ns i).ah.length<=1048576) (_:∀i,i<ns.length->∀j,j<(nd ns i).ah.length->-9223372036854775808<=(bS ns i j).id/\(bS ns i j).id<=9223372036854775807) (hnm:∀i,i<ns.length->∀j,j<(nd ns i).ah.length->(bS ns i j).name.size<=1048576) (ht:∀i,i<ns.length->(nd ns i).target.size<=1048576) :
 aU Tryz.prog β 52 #[.agg #[.slice A ns.length c]] [] (λv l=>v=vI (if cr ns then 0 else 140)/\l=[]):=by
 refine SE Tryz.func52 Tryz.ntmps52 (λR=>SR (jB 2 [1] (λb1=>.ax b1 [.slice A (ns.length) (c)] 24) (λb1=>NZ (jK 4 [18] [(1,a_ 1 b1)] (NN (cP ((((ns.length:Nat):Int):Int)>(4096:Int)) (λql=>zR ⟨ail (Value.int .i64) (aij (c:=cr ns) (λh=>by have:=h.len;omega)).symm,rfl⟩) (λql=>KX (SR (jK 1 [3] [] (NZ (jK 1 [4] [] (NN (ak.block (lJ (λ(k:Nat)=>(k<=ns.length)/\(wX ns k)/\(dI ns k<=k*1048576)) (λ(k:Nat)=>ns.length-k) (λ(k:Nat)=>[(1,vP b1),(3,vI ↑(dI ns k)),(4,vI ↑k)]) (λ(k:Nat)=>[.ax b1 [.slice A (ns.length) (c)] 24,.abs R]) 0 [1,0] (⟨aio _,wX.zero ns,aio _⟩) ?_))))))))))))))
 rintro k ⟨hk,hu,hs⟩
 have hk4:=(hd k)
 refine SQ (jK 5 [23] [(2,a_ 0 b1)] (NN (cP ((((k:Nat):Int):Int)<(((ns.length:Nat):Int):Int)) (λh23=>KX (ak.seq (ak.block (SR (jN 7 [5] (λb2=>[(1,a_ 0 b1),(3,x_ k ns.length (aN.hd hG (i:=k) zc)),(4,Ez (iy L k (nd ns k)) (λ_ _ h=>aN.rd hG zc h)),(6,A_ 2 b2 10)]) (λ_=>[]) (λb2=>.ax b2 (iy L k (nd ns k)) 95) (λb2=>NN (ak.seq (ak.seq (rQ (jQ 4 [34] [(1,a_ 2 b2)] (bN.xO 34 (((nd ns k).id:Int)<(1:Int)) (λ_=>KB) (λyw=>jQ 25 [59] [] (NQ (NX (CT (zR ⟨ail (Value.int .i64) (aij (c:=cr ns) (λh=>by have:=(h.ids k zc).1;omega)).symm,rfl⟩ [1]))))) (λyw=>jQ 5 [39] [(1,a_ 2 b2)] (bN.xO 39 (((nd ns k).id:Int)>(1099511627776:Int)) (λ_=>KB) (λnN=>jQ 20 [59] [] (NQ (NX (CT (zR ⟨ail (Value.int .i64) (aij (c:=cr ns) (λh=>by have:=(h.ids k zc).2;omega)).symm,rfl⟩ [1]))))) (λnN=>jQ 3 [42] [] (bN.xO 42 ((((k:Nat):Int):Int)>(0:Int)) (λ_=>KB) (λlf=>jQ 13 [55] [(1,a_ 2 b2),(3,a_ 0 b1),(5,wJ ((k:Int)-1) (↑(k-1))),(6,x_ (k-1) ns.length (aN.hd hG (i:=(k-1)) zc)),(8,r_ (aN.rd hG (i:=(k-1)) zc (j:=0) rfl))] (bN.xO 55 (((nd ns k).id:Int)<=((nd ns (k-1)).id:Int)) (λ_=>KB) (λh55=>jQ 4 [59] [] (NQ (NX (CT (zR ⟨ail (Value.int .i64) (aij (c:=cr ns) (λh=>by have:=h.fD (k-1) k zc zc;omega)).symm,rfl⟩ [1]))))) (λh55=>jQ 1 [56] [(0,A_ 2 b2 10)] (mY [] [0,1,2] (.bool (decide (sS (nd ns k)))) (O4 (nd ns k) (L.dA k) (L.eA k) (L.dC k) (L.eC k) (ht k zc)) (jQ 2 [59] [] (NQ (NX (cN (sS (nd ns k)) (λwL=>zR ⟨ail (Value.int .i64) (aij (c:=cr ns) (λh=>by exact wL (h.node k zc))).symm,rfl⟩ [1]) (λwL=>KX (ak.region (jK 6 [3] [(2,a_ 2 b2),(4,wJ (((dI ns k:Nat):Int)+(((nd ns k).ah.length:Nat):Int)) (↑((dI ns k)+((nd ns k).ah.length))))] (LX (ak.region (jK 3 [4] [(1,wJ ((k:Int)+1) (↑(k+1)))] (NL (tJ ((k+1)) [0,1] (⟨zc,hu.step (by rw [Un zc];omega) zc wL,by show dI ns k+_<=_;omega⟩))))))))))))))))) (λlf=>jQ 14 [55,56] [(13,A_ 2 b2 10)] (mY [] [0,1,2] (.bool (decide (sS (nd ns k)))) (O4 (nd ns k) (L.dA k) (L.eA k) (L.dC k) (L.eC k) (ht k zc)) (jQ 2 [59] [] (NQ (NX (cN (sS (nd ns k)) (λwL=>zR ⟨ail (Value.int .i64) (aij (c:=cr ns) (λh=>by exact wL (h.node k zc))).symm,rfl⟩ [1]) (λwL=>KX (ak.region (jK 6 [3] [(2,a_ 2 b2),(4,wJ (((dI ns k:Nat):Int)+(((nd ns k).ah.length:Nat):Int)) (↑((dI ns k)+((nd ns k).ah.length))))] (LX (ak.region (jK 3 [4] [(1,wJ ((k:Int)+1) (↑(k+1)))] (NL (tJ ((k+1)) [0,1] (⟨zc,hu.step (by rw [show k=0 by omega];rw [show k=0 by omega] at yw;show (0:Int)<_;omega) zc wL,by show dI ns k+_<=_;omega⟩)))))))))))))))))))))))))))))) (λh23=>XX (SQ (jK 2 [66] [] (NN (cP ((((dI ns k:Nat):Int):Int)>(8192:Int)) (λmE=>zR ⟨ail (Value.int .i64) (aij (c:=cr ns) (λh=>by have h1:=h.sum;grind)).symm,rfl⟩ [1]) (λmE=>KX (SR (jK 3 [69] [(1,a_ 0 b1)] (ar.Zb (d:=(some 70)) (t:=41) (e:=3) (z:=.int .i64 0) (bytes:=8) (n:=ns.length) (l:=(.tmp 69)) (c:=(.tmp 69)) (λ_=>KB) (λ_=>KB) (λ_=>KB) Tryz.underlying41 KB rfl zc zc (λb3=>jK 1 [6] [] (NZ (ar.cJ 2 (p':=.abs (aF 3 1 (some ⟨b3,0,none⟩) ns.length ns.length (j5 (List.replicate ns.length 0)))) rfl (by rw [j5,List.map_replicate]) (jK 1 [7] [] (NN (ak.block (lJ (λ(t,pl)=>(t<=ns.length)/\(pl.length=ns.length)/\(∀a,a<t->pl.getD a 0 = -1)) (λ(t,pl)=>ns.length-t) (λ(t,pl)=>[(1,vP b1),(6,.slice (some ⟨b3,0,none⟩) (ns.length) (ns.length)),(7,vI ↑t)]) (λ(t,pl)=>[.ax b1 [.slice A (ns.length) (c)] 24,.abs (aF 3 1 (some ⟨b3,0,none⟩) ns.length ns.length (j5 pl)),.abs R]) (0,(List.replicate ns.length 0)) [0,2,1] (⟨aio _,aii,λa ha=>ain ha (aiq a)⟩) ?_)))))))))))))))))))
 rintro⟨t,pl⟩ ⟨ht2,hpl,hpa⟩
 refine SQ (jK 4 [74] [] (NN (cP ((((t:Nat):Int):Int)<(((ns.length:Nat):Int):Int)) (λG8=>KX (ak.seq (ak.block (ak.region (jK 3 [79] [(2,p_ ⟨[],some t,none,none,some (.pointer (some ⟨b3,t,none⟩))⟩ [(Value.pointer (some ⟨b3,0+t*1,none⟩))=(.pointer (some ⟨b3,t,none⟩)),((t:Nat):Int)=((t:Nat):Int),t<ns.length,(⟨b3,0,none⟩:Addr).spot=none] ⟨aii,rfl,zc,rfl,trivial⟩)] (ar.ER 1 (t) (d:=none) (T:=3) (e:=3) (size:=1) (n:=ns.length) (cap:=ns.length) (g:=b3) (xs:=(j5 pl)) (u:=.int .i64 (-1)) (a:=(.tmp 79)) (y:=(.const (.int .i64 (-1)))) (λ_=>KB) KB (λ_=>KB) (λ_=>KB) KB rfl (by rw [j5,aiF];omega) (ar.cJ 1 rfl (by rw [E9]) (LX (ak.region (jK 3 [7] [(1,wJ ((t:Int)+1) (↑(t+1)))] (NL (tJ ((t+1),(pl.set t (-1))) [0,1,2] (⟨zc,by rw [aix];exact hpl,λa ha=>(by grind [Pj])⟩))))))))))))) (λG8=>XX (SQ (jK 1 [8] [] (NN (ak.block ?_))))))))
 have DR:dH ns:=λa b dR hb=>hu.fD a b dR zc
 have hsum:dI ns ns.length<=8192:=by rw [show ns.length=k by omega];omega
 refine lJ (λ(i,wM)=>(i<=ns.length)/\(∀a,a<i->∀j,j<(nd ns a).ah.length->xS ns a j)/\(((jr ns i).map Prod.fst).Nodup)/\(Ph ns.length wM (jr ns i))) (λ(i,wM)=>ns.length-i) (λ(i,wM)=>[(1,vP b1),(6,.slice (some ⟨b3,0,none⟩) (ns.length) (ns.length)),(8,vI ↑i)]) (λ(i,wM)=>[.ax b1 [.slice A (ns.length) (c)] 24,.abs (aF 3 1 (some ⟨b3,0,none⟩) ns.length ns.length (j5 wM)),.abs R]) (0,pl) [0,1,2] (⟨aio _,λa ha=>ain ha (aiq a),List.nodup_nil,⟨hpl,λa ha=>hpa a zc⟩⟩) ?_
 rintro⟨i,wM⟩ ⟨hi,BQ,hnd,hpar⟩
 refine SQ (jK 5 [84] [(2,a_ 0 b1)] (NN (cP ((((i:Nat):Int):Int)<(((ns.length:Nat):Int):Int)) (λh84=>?_) (λh84=>?_))))
 ·refine KX (ak.seq (ak.block (SR (jK 1 [9] [] (NN (ak.block (lJ (λ(j,uD)=>(j<=(nd ns i).ah.length)/\(∀t,t<j->xS ns i t)/\(((iu ns i j++jr ns i).map Prod.fst).Nodup)/\(Ph ns.length uD (iu ns i j++jr ns i))) (λ(j,uD)=>(nd ns i).ah.length-j) (λ(j,uD)=>[(1,vP b1),(6,.slice (some ⟨b3,0,none⟩) (ns.length) (ns.length)),(8,vI ↑i),(9,vI ↑j)]) (λ(j,uD)=>[.ax b1 [.slice A (ns.length) (c)] 24,.abs (aF 3 1 (some ⟨b3,0,none⟩) ns.length ns.length (j5 uD)),.abs R]) (0,wM) [0,1,2] (⟨aio _,λt ht=>ain ht (aiq t),hnd,hpar⟩) ?_)))))))
  rintro⟨j,uD⟩ ⟨hj,hok,Po,xT⟩
  have hd3:=(hd i zc).2
  have Wq:=xT.len
  refine SQ (jK 9 [95] [(2,a_ 0 b1),(4,x_ i ns.length (aN.hd hG (i:=i) zc)),(6,r_ (aN.rd hG (i:=i) zc (j:=9) rfl))] (NN (cP ((((j:Nat):Int):Int)<((((nd ns i).ah.length:Nat):Int):Int)) (λh95=>KX (ak.seq (ak.block (SR (jN 11 [10] (λb4=>[(1,a_ 0 b1),(3,x_ i ns.length (aN.hd hG (i:=i) zc)),(5,r_ (aN.rd hG (i:=i) zc (j:=9) rfl)),(7,x_ j ((nd ns i).ah.length) (cT.hd (hG.ah i zc) (i:=j) zc)),(8,r2 (cT.rd (hG.ah i zc) (i:=j) zc (j:=0) rfl) (cT.rd (hG.ah i zc) (i:=j) zc (j:=1) rfl)),(10,A_ 3 b4 2)]) (λ_=>[]) (λb4=>.ax b4 [.string (en (nd ns i).ah j).name,vI ((en (nd ns i).ah j).id)] 149) (λb4=>NS (jK 3 [107,109] [(0,a_ 0 b1),(2,a_ 3 b4)] (gE [] (zA A c ns L hG DR hl (en (nd ns i).ah j).id) (jK 1 [11] [] (NN (ak.seq (ak.seq (rQ (jQ 3 [113] [] (bN.xO 113 ((gF ns (en (nd ns i).ah j).id:Int)<(0:Int)) (λ_=>KB) (λLm=>jQ 25 [138] [] (NQ (NX (CT (zR ⟨ail (Value.int .i64) (aij (c:=cr ns) (λh=>by have h1:=(h.ah i zc j zc).at_;change 0<=gF ns (en (nd ns i).ah j).id at h1;omega)).symm,rfl⟩ [2]))))) (λLm=>?_)))))))))))))))) (λh95=>XX (ak.region (jK 3 [8] [(1,wJ ((i:Int)+1) (↑(i+1)))] (NL (tJ ((i+1),uD) [0,1,2] (⟨zc,λa ha=>Pe,(by have:=Po;rwa [show j=(nd ns i).ah.length by omega] at this),(by have:=xT;rwa [show j=(nd ns i).ah.length by omega] at this)⟩)))))))))
  have htl:=nE (Int.not_lt.1 Lm)
  refine jQ 2 [115] [(1,a_ 3 b4)] (mY [] [0,1,2,3] (.bool (decide (ck (en (nd ns i).ah j).name))) (DP (en (nd ns i).ah j).name (hnm i zc j zc)) (jQ 3 [119] [] (bN.Ue 119 (ck (en (nd ns i).ah j).name) (λ_=>KB) (λDU=>jQ 19 [138] [] (NQ (NX (CT (zR ⟨ail (Value.int .i64) (aij (c:=cr ns) (λh=>by exact DU (h.ah i zc j zc).good)).symm,rfl⟩ [2]))))) (λDU=>?_))))
  refine jQ 3 [122] [] (bN.xO 122 ((((j:Nat):Int):Int)>(0:Int)) (λ_=>KB) (λUo=>jQ 16 [138] [(1,a_ 3 b4),(3,a_ 0 b1),(5,x_ i ns.length (aN.hd hG (i:=i) zc)),(7,r_ (aN.rd hG (i:=i) zc (j:=9) rfl)),(9,wJ ((j:Int)-1) (↑(j-1))),(10,x_ (j-1) ((nd ns i).ah.length) (cT.hd (hG.ah i zc) (i:=(j-1)) zc)),(12,r_ (cT.rd (hG.ah i zc) (i:=(j-1)) zc (j:=0) rfl)),(13,w_ (.bool (decide (jF ((en (nd ns i).ah j).name) ((en (nd ns i).ah (j-1)).name)))) (Pa _ _))] (NQ (NX (cP (jF ((en (nd ns i).ah j).name) ((en (nd ns i).ah (j-1)).name)) (λUq=>zR ⟨ail (Value.int .i64) (aij (c:=cr ns) (λh=>by have h1:=(h.ah i zc j zc).ord;rw [Pn zc] at h1;exact h1 Uq)).symm,rfl⟩ [2]) (λUq=>KX (SR (jK 7 [145] [(1,a_ 0 b1),(3,p_ ⟨[],some (bY ns (en (nd ns i).ah j).id),none,some ⟨(bG A),bE A,none⟩,none⟩ [gF ns (en (nd ns i).ah j).id=(((bY ns (en (nd ns i).ah j).id):Nat):Int),(bY ns (en (nd ns i).ah j).id)<ns.length,(⟨(bG A),bE A,none⟩:Addr).spot=none,(A:Option Addr)=some ⟨(bG A),bE A,none⟩] ⟨htl.2.2,zc,rfl,aN.hd hG (i:=(bY ns (en (nd ns i).ah j).id)) zc,trivial⟩),(5,r_ (aN.rd hG (i:=(bY ns (en (nd ns i).ah j).id)) zc (j:=1) rfl))] (NN (cP (((nd ns (bY ns (en (nd ns i).ah j).id)).kind:Int)=(2:Int)) (λpU=>SQ (jK 5 [150] [(2,p_ ⟨[],some (bY ns (en (nd ns i).ah j).id),none,none,some (.pointer (some ⟨b3,(bY ns (en (nd ns i).ah j).id),none⟩))⟩ [(Value.pointer (some ⟨b3,0+(bY ns (en (nd ns i).ah j).id)*1,none⟩))=(.pointer (some ⟨b3,(bY ns (en (nd ns i).ah j).id),none⟩)),gF ns (en (nd ns i).ah j).id=(((bY ns (en (nd ns i).ah j).id):Nat):Int),(bY ns (en (nd ns i).ah j).id)<ns.length,(⟨b3,0,none⟩:Addr).spot=none] ⟨aii,htl.2.2,zc,rfl,trivial⟩),(3,p_ ⟨[.view 1 (.int .i64 ((uD.getD (bY ns (en (nd ns i).ah j).id) 0)))],none,none,none,none⟩ [(∀F w,(aF 3 1 (some ⟨b3,0,none⟩) ns.length ns.length (j5 uD)).h F w->w.cell? ⟨b3,(bY ns (en (nd ns i).ah j).id),none⟩=some (vI ((uD.getD (bY ns (en (nd ns i).ah j).id) 0))))] ⟨aF.cell (BR zc),trivial⟩)] (NN (cP (((uD.getD (bY ns (en (nd ns i).ah j).id) 0):Int)>=(0:Int)) (λZu=>zR ⟨ail (Value.int .i64) (aij (c:=cr ns) (λh=>by have h1:DS (iu ns i j++jr ns i) (bY ns (en (nd ns i).ah j).id)<0:=BS.2 (CQ (h.row zc) zc pU);rw [←xT.at_ (bY ns (en (nd ns i).ah j).id) zc] at h1;omega)).symm,rfl⟩ [2]) (λZu=>KX (ak.region (jK 4 [153,154] [(3,p_ ⟨[],some (bY ns (en (nd ns i).ah j).id),none,none,some (.pointer (some ⟨b3,(bY ns (en (nd ns i).ah j).id),none⟩))⟩ [(Value.pointer (some ⟨b3,0+(bY ns (en (nd ns i).ah j).id)*1,none⟩))=(.pointer (some ⟨b3,(bY ns (en (nd ns i).ah j).id),none⟩)),gF ns (en (nd ns i).ah j).id=(((bY ns (en (nd ns i).ah j).id):Nat):Int),(bY ns (en (nd ns i).ah j).id)<ns.length,(⟨b3,0,none⟩:Addr).spot=none] ⟨aii,htl.2.2,zc,rfl,trivial⟩)] (ar.ER 1 ((bY ns (en (nd ns i).ah j).id)) (d:=none) (T:=3) (e:=3) (size:=1) (n:=ns.length) (cap:=ns.length) (g:=b3) (xs:=(j5 uD)) (u:=.int .i64 ↑i) (a:=(.tmp 154)) (y:=(.tmp 153)) (λ_=>KB) KB (λ_=>KB) (λ_=>KB) KB rfl (by rw [j5,aiF];omega) (ar.cJ 1 rfl (by rw [E9]) (LX (ak.region (jK 3 [9] [(1,wJ ((j:Int)+1) (↑(j+1)))] (NL (tJ ((j+1),(uD.set (bY ns (en (nd ns i).ah j).id) ((i:Nat):Int))) [0,1,2] (⟨zc,λt ht=>(by rcases ais.1 ht with h|h;exact hok t h;subst h;exact DT (Int.not_lt.1 Lm) DU (λ_=>Uq)),(by rw [qP pU,aiT,aiP];exact ajj.2 ⟨show bY ns (en (nd ns i).ah j).id∉_ from BS.1 (by rw [←xT.at_ (bY ns (en (nd ns i).ah j).id) zc];omega),Po⟩),(by rw [qP pU];exact xT.put zc)⟩))))))))))))))) (λpU=>KX (ak.region (jK 3 [9] [(1,wJ ((j:Int)+1) (↑(j+1)))] (NL (tJ ((j+1),uD) [0,1,2] (⟨zc,λt ht=>(by rcases ais.1 ht with h|h;exact hok t h;subst h;exact DT (Int.not_lt.1 Lm) DU (λ_=>Uq)),(by rw [r8 pU];exact Po),(by rw [r8 pU];exact xT)⟩))))))))))))))) (λUo=>?_))
  exact jQ 16 [138] [] (NQ (NX (CF (KX (SR (jK 7 [145] [(1,a_ 0 b1),(3,p_ ⟨[],some (bY ns (en (nd ns i).ah j).id),none,some ⟨(bG A),bE A,none⟩,none⟩ [gF ns (en (nd ns i).ah j).id=(((bY ns (en (nd ns i).ah j).id):Nat):Int),(bY ns (en (nd ns i).ah j).id)<ns.length,(⟨(bG A),bE A,none⟩:Addr).spot=none,(A:Option Addr)=some ⟨(bG A),bE A,none⟩] ⟨htl.2.2,zc,rfl,aN.hd hG (i:=(bY ns (en (nd ns i).ah j).id)) zc,trivial⟩),(5,r_ (aN.rd hG (i:=(bY ns (en (nd ns i).ah j).id)) zc (j:=1) rfl))] (NN (cP (((nd ns (bY ns (en (nd ns i).ah j).id)).kind:Int)=(2:Int)) (λpU=>SQ (jK 5 [150] [(2,p_ ⟨[],some (bY ns (en (nd ns i).ah j).id),none,none,some (.pointer (some ⟨b3,(bY ns (en (nd ns i).ah j).id),none⟩))⟩ [(Value.pointer (some ⟨b3,0+(bY ns (en (nd ns i).ah j).id)*1,none⟩))=(.pointer (some ⟨b3,(bY ns (en (nd ns i).ah j).id),none⟩)),gF ns (en (nd ns i).ah j).id=(((bY ns (en (nd ns i).ah j).id):Nat):Int),(bY ns (en (nd ns i).ah j).id)<ns.length,(⟨b3,0,none⟩:Addr).spot=none] ⟨aii,htl.2.2,zc,rfl,trivial⟩),(3,p_ ⟨[.view 1 (.int .i64 ((uD.getD (bY ns (en (nd ns i).ah j).id) 0)))],none,none,none,none⟩ [(∀F w,(aF 3 1 (some ⟨b3,0,none⟩) ns.length ns.length (j5 uD)).h F w->w.cell? ⟨b3,(bY ns (en (nd ns i).ah j).id),none⟩=some (vI ((uD.getD (bY ns (en (nd ns i).ah j).id) 0))))] ⟨aF.cell (BR zc),trivial⟩)] (NN (cP (((uD.getD (bY ns (en (nd ns i).ah j).id) 0):Int)>=(0:Int)) (λZu=>zR ⟨ail (Value.int .i64) (aij (c:=cr ns) (λh=>by have h1:DS (iu ns i j++jr ns i) (bY ns (en (nd ns i).ah j).id)<0:=BS.2 (CQ (h.row zc) zc pU);rw [←xT.at_ (bY ns (en (nd ns i).ah j).id) zc] at h1;omega)).symm,rfl⟩ [2]) (λZu=>KX (ak.region (jK 4 [153,154] [(3,p_ ⟨[],some (bY ns (en (nd ns i).ah j).id),none,none,some (.pointer (some ⟨b3,(bY ns (en (nd ns i).ah j).id),none⟩))⟩ [(Value.pointer (some ⟨b3,0+(bY ns (en (nd ns i).ah j).id)*1,none⟩))=(.pointer (some ⟨b3,(bY ns (en (nd ns i).ah j).id),none⟩)),gF ns (en (nd ns i).ah j).id=(((bY ns (en (nd ns i).ah j).id):Nat):Int),(bY ns (en (nd ns i).ah j).id)<ns.length,(⟨b3,0,none⟩:Addr).spot=none] ⟨aii,htl.2.2,zc,rfl,trivial⟩)] (ar.ER 1 ((bY ns (en (nd ns i).ah j).id)) (d:=none) (T:=3) (e:=3) (size:=1) (n:=ns.length) (cap:=ns.length) (g:=b3) (xs:=(j5 uD)) (u:=.int .i64 ↑i) (a:=(.tmp 154)) (y:=(.tmp 153)) (λ_=>KB) KB (λ_=>KB) (λ_=>KB) KB rfl (by rw [j5,aiF];omega) (ar.cJ 1 rfl (by rw [E9]) (LX (ak.region (jK 3 [9] [(1,wJ ((j:Int)+1) (↑(j+1)))] (NL (tJ ((j+1),(uD.set (bY ns (en (nd ns i).ah j).id) ((i:Nat):Int))) [0,1,2] (⟨zc,λt ht=>(by rcases ais.1 ht with h|h;exact hok t h;subst h;exact DT (Int.not_lt.1 Lm) DU (λh=>ain h (by omega))),(by rw [qP pU,aiT,aiP];exact ajj.2 ⟨show bY ns (en (nd ns i).ah j).id∉_ from BS.1 (by rw [←xT.at_ (bY ns (en (nd ns i).ah j).id) zc];omega),Po⟩),(by rw [qP pU];exact xT.put zc)⟩))))))))))))))) (λpU=>KX (ak.region (jK 3 [9] [(1,wJ ((j:Int)+1) (↑(j+1)))] (NL (tJ ((j+1),uD) [0,1,2] (⟨zc,λt ht=>(by rcases ais.1 ht with h|h;exact hok t h;subst h;exact DT (Int.not_lt.1 Lm) DU (λh=>ain h (by omega))),(by rw [r8 pU];exact Po),(by rw [r8 pU];exact xT)⟩))))))))))))))
 refine XX (SQ (jK 1 [12] [] (NN (ak.block ?_))))
 have ab2:Ph ns.length wM (jr ns ns.length):=Pe
 have hed:=AQ (ns:=ns) (aiu _) (λa ha=>BQ a zc)
 refine lJ (λ(a:Nat)=>(a<=ns.length)/\(∀b,b<a->Ends ((jr ns ns.length).map (lS ns)) (nd ns b).id)) (λ(a:Nat)=>ns.length-a) (λ(a:Nat)=>[(6,.slice (some ⟨b3,0,none⟩) (ns.length) (ns.length)),(12,vI ↑a)]) (λ(a:Nat)=>[.abs (aF 3 1 (some ⟨b3,0,none⟩) ns.length ns.length (j5 wM)),.abs R]) 0 [1,2] (⟨aio _,λb hb=>ain hb (aiq b)⟩) ?_
 rintro a ⟨ha,hend⟩
 have Wq:=hpar.len
 refine SQ (jK 4 [158] [] (NN (cP ((((a:Nat):Int):Int)<(((ns.length:Nat):Int):Int)) (λagM=>KX (ak.seq (ak.block (SR (jK 5 [13] [(2,p_ ⟨[],some a,none,none,some (.pointer (some ⟨b3,a,none⟩))⟩ [(Value.pointer (some ⟨b3,0+a*1,none⟩))=(.pointer (some ⟨b3,a,none⟩)),((a:Nat):Int)=((a:Nat):Int),a<ns.length,(⟨b3,0,none⟩:Addr).spot=none] ⟨aii,rfl,zc,rfl,trivial⟩),(3,p_ ⟨[.view 0 (.int .i64 ((wM.getD a 0)))],none,none,none,none⟩ [(∀F w,(aF 3 1 (some ⟨b3,0,none⟩) ns.length ns.length (j5 wM)).h F w->w.cell? ⟨b3,a,none⟩=some (vI ((wM.getD a 0))))] ⟨aF.cell (BR zc),trivial⟩)] (NS (jK 1 [14] [] (NN (ak.block (lJ (λ(at_,step,w)=>((at_<0/\Ends ((jr ns ns.length).map (lS ns)) (nd ns a).id)\/∃q:Nat,at_=(q:Int)/\q<ns.length/\Way ((jr ns ns.length).map (lS ns)) (nd ns a).id w (nd ns q).id/\w.length=step+1)) (λ(at_,step,w)=>ns.length+2-step) (λ(at_,step,w)=>[(6,.slice (some ⟨b3,0,none⟩) (ns.length) (ns.length)),(12,vI ↑a),(13,vI (at_)),(14,vI ↑step)]) (λ(at_,step,w)=>[.abs (aF 3 1 (some ⟨b3,0,none⟩) ns.length ns.length (j5 wM)),.abs R]) ((wM.getD a 0),0,[(nd ns a).id]) [0,1] (Pm DR hed ab2 zc .nil rfl) ?_)))))))))) (λagM=>XX (zR ⟨ail (Value.int .i64) (aik (c:=cr ns) ⟨zc,λa ha=>hu.node a zc,λa ha=>hu.ids a zc,DR,zc,λa ha=>BQ a zc,Pe,Wp (λp hp=>(hed p hp).1) (λb hb=>hend b zc)⟩).symm,rfl⟩ [1])))))
 rintro⟨at_,step,w⟩ hst
 refine SQ (jK 2 [166] [] (NN (cP ((at_:Int)>=(0:Int)) (λagN=>?_) (λagN=>XX (ak.region (jK 3 [12] [(1,wJ ((a:Int)+1) (↑(a+1)))] (NL (tJ ((a+1)) [0,1] (⟨zc,λb hb=>Pe⟩)))))))))
 obtain⟨b,hb0,hb1,hb2,hb3⟩:=hst.resolve_left (λh=>zc)
 exact KX (ak.seq (ak.block (SQ (jK 4 [172] [] (sP 172 ((at_:Int)=(((a:Nat):Int):Int)) (λagO=>jK 5 [177] [] (NT (zR ⟨ail (Value.int .i64) (aij (c:=cr ns) (λh=>by rw [show b=a by omega] at hb2;exact hb2.back zc (h.ends _))).symm,rfl⟩ [1]))) (λagO=>jK 5 [177] [] (NN (cP ((((step:Nat):Int):Int)>(((ns.length:Nat):Int):Int)) (λagP=>zR ⟨ail (Value.int .i64) (aij (c:=cr ns) (λh=>by exact hb2.never (by have:=h.few;omega) (h.ends _))).symm,rfl⟩ [1]) (λagP=>KX (ak.region (jK 5 [13] [(2,p_ ⟨[],some b,none,none,some (.pointer (some ⟨b3,b,none⟩))⟩ [(Value.pointer (some ⟨b3,0+b*1,none⟩))=(.pointer (some ⟨b3,b,none⟩)),at_=((b:Nat):Int),b<ns.length,(⟨b3,0,none⟩:Addr).spot=none] ⟨aii,hb0,zc,rfl,trivial⟩),(3,p_ ⟨[.view 0 (.int .i64 ((wM.getD b 0)))],none,none,none,none⟩ [(∀F w,(aF 3 1 (some ⟨b3,0,none⟩) ns.length ns.length (j5 wM)).h F w->w.cell? ⟨b3,b,none⟩=some (vI ((wM.getD b 0))))] ⟨aF.cell (BR zc),trivial⟩)] (LX (ak.region (jK 3 [14] [(1,wJ ((step:Int)+1) (↑(step+1)))] (NL (tJ ((wM.getD b 0),(step+1),(w++[(nd ns b).id])) [0,1] (Pm DR hed ab2 hb1 hb2 hb3)))))))))))))))))
end
section
open Go.RowKit
theorem B0.refl (W:World):(B0 W).le (B0 W):=⟨λ_ h=>h,rfl,rfl,rfl,aiu _,λ_ hk=>⟨hk,rfl⟩⟩
theorem aU.val {P:Program} {β:Bs} {f:FuncId} {args:Array Value} {pre:List HP} {x y:Value} {l0:List HP} (h:aU P β f args pre (λv l=>v=x/\l=l0)) (e:x=y):aU P β f args pre (λv l=>v=y/\l=l0):=h.mono λ_ _ h=>⟨h.1.trans e,h.2⟩
section gb
variable {ns:List aL} {b:Nat}
variable (h:j6 ns 1048576)
include h
end gb
structure ahE (ns:List aL):Prop where
 hl:ns.length<=1048576
 hd:∀i,i<ns.length->(nd ns i).data.length<=140737488355328/\(nd ns i).ah.length<=1048576
 hwf:∀i,i<ns.length->∀j,j<(nd ns i).ah.length->-9223372036854775808<=(bS ns i j).id/\(bS ns i j).id<=9223372036854775807
 hnm:∀i,i<ns.length->∀j,j<(nd ns i).ah.length->(bS ns i j).name.size<=1048576
 ids:∀i,i<ns.length->yh (nd ns i).id
def L0:eP:=⟨λ_=>none,λ_=>none,λ_=>0,λ_=>0⟩
theorem cA.nil {β:Bs} {A:Option Addr}:cA β A []:=λj v hj=>by simp at hj
structure Th where
 k:Nat
 kind:Int
deriving Inhabited,DecidableEq
abbrev jc (α:Type):=List (ByteArray×α)
structure bJ where
 id:Int
 mode:Int
 bg:Int
 bh:Int
 aT:Int
 aJ:Int
 aS:Int
 aK:Int
 aE:Bool
 kind:Int
 data:List UInt8
 target:ByteArray
 ah:jc Th
 up:Option Nat
deriving Inhabited
abbrev dZ:=Nat->bJ
def af (O:dZ) (k:Nat):bJ:=O k
def aX (O:dZ) (k:Nat) (f:bJ->bJ):dZ:=λi=>if i=k then f (O i) else O i
section qA
variable {O:dZ} {k j:Nat} {f g:bJ->bJ}
theorem fq:af (aX O k f) k=f (af O k):=aik rfl
theorem jd (h:j≠k):af (aX O k f) j=af O j:=aij h
theorem kx:af (aX O k f) j=if j=k then f (af O j) else af O j:=rfl
theorem ac6 (h:f (af O k)=af O k):aX O k f=O:=by
 grind [af,aX]
theorem BU:aX (aX O k f) k g=aX O k (λo=>g (f o)):=by
 grind [aX]
end qA
section ah
variable {α:Type} {n p:ByteArray} {t:α} {es:jc α}
def bK (n:ByteArray) (es:jc α):Option α:=(es.find? (λe=>decide (e.1=n))).map (·.2)
def kZ (n:ByteArray) (t:α):jc α->jc α
 |[]=>[(n,t)]
 |e::r=>if ¬jF e.1 n then (n,t)::e::r else e::kZ n t r
def kS (n:ByteArray) (es:jc α):jc α:=es.filter (λe=>decide (e.1≠n))
theorem qF {e:ByteArray×α}:bK n (e::es)=if e.1=n then some e.2 else bK n es:=by
 grind [bK]
theorem DV:bK n es=none↔∀e∈es,e.1≠n:=by
 unfold bK
 rw [Option.map_eq_none_iff,List.find?_eq_none]
 simp
theorem r9 {es:jc α} (h:bK n es=some t):(n,t)∈es:=by
 unfold bK at h
 obtain⟨e,h1,h2⟩:=Option.map_eq_some_iff.1 h
 grind
theorem Pp:∀{es:jc α},(kZ n t es).length=es.length+1
 |[]=>rfl
 |e::r=>by
   unfold kZ
   split
   ·rfl
   rw [aiV,Pp];rfl
theorem Fa (hn:bK n es=none):bK p (kZ n t es)=if p=n then some t else bK p es:=by
 induction es with
 |nil=>
   grind [kZ,qF]
 |cons e r ih=>
   grind [qF,kZ]
theorem yx:bK p (kS n es)=if p=n then none else bK p es:=by
 grind [kS,bK,qF]
def qx (es:jc α):Prop:=es.Pairwise (λa b=>a.1≠b.1)
theorem Zv {es:jc α} (hd:qx es) (h:bK n es=some t):(kS n es).length+1=es.length:=by
 induction es with
 |nil=>cases h
 |cons e r ih=>
   obtain⟨h1,h2⟩:=aiB.1 hd
   rw [qF] at h
   unfold kS at ih ⊢
   rw [List.filter_cons]
   by_cases he:e.1=n
   ·rw [aij (by simp [he])]
    have:r.filter (λe=>decide (e.1≠n))=r:=List.filter_eq_self.2 (λx hx=>Pe)
    rw [this];rfl
   grind [qx,bK,kS]
theorem Iu {e:ByteArray×α}:∀{es:jc α},e∈kZ n t es↔e=(n,t)\/e∈es
 |[]=>by simp [kZ]
 |x::r=>by
   unfold kZ
   split
   ·simp
   rw [aiA,Iu,aiA]
   constructor
   ·rintro (h|h|h)
    ·exact .inr (.inl h)
    ·exact .inl h
    exact .inr (.inr h)
   rintro (h|h|h)
   ·exact .inr (.inl h)
   ·exact .inl h
   exact .inr (.inr h)
end ah
structure qq (β:Bs) (R:List HP) (β':Bs):Prop where
 le:β.le β'
 fp:∃φ:Nat->Fp,(∀(i:Nat) (p:HP),R[i]?=some p->p.h (φ i) β'.w0/\∀k,φ i k->β'.O k)/\(∀i,i<R.length->∀k,φ i k->¬β.O k)/\(∀i j,i<R.length->j<R.length->i≠j->Apart (φ i) (φ j))/\∀k,β'.O k->β.O k\/∃i,i<R.length/\φ i k
section Zw
variable {β β' ox:Bs} {l R:List HP} {w:World} {p:HP} {i:Nat}
theorem qq.get (h:qq β R β') (i:Nat) (hp:R[i]?=some p):∃F,p.h F β'.w0/\∀k,F k->β'.O k:=by
 obtain⟨φ,h1,_⟩:=h.fp
 exact⟨φ i,h1 i p hp⟩
theorem aR.turn {a b:List HP} (h:aR β (a++b) w):aR β (b++a) w:=by
 obtain⟨ho,φ,h1,h2,h3⟩:=h
 have hl:(a++b).length=a.length+b.length:=ait
 have hl':(b++a).length=b.length+a.length:=ait
 refine⟨ho,λi=>if i<b.length then φ (a.length+i) else φ (i-b.length),λi p hp=>?_,λi hi k hk hO=>?_,λi j hi hj cu k hk jw=>?_⟩
 ·grind
 ·grind
 by_cases e1:i<b.length
 ·simp only [e1,if_true] at hk
  by_cases e2:j<b.length
  ·simp only [e2,if_true] at jw
   exact h3 _ _ zc zc zc k hk jw
  simp only [e2,if_false] at jw
  exact h3 _ _ zc zc zc k hk jw
 simp only [e1,if_false] at hk
 by_cases e2:j<b.length
 ·simp only [e2,if_true] at jw
  exact h3 _ _ zc zc zc k hk jw
 simp only [e2,if_false] at jw
 exact h3 _ _ zc zc zc k hk jw
theorem aR.wY (h:aR β (l++R) w):∃β',qq β R β'/\β'.w0=w/\aR β' l w:=by
 obtain⟨ho,φ,h1,h2,h3⟩:=h
 have hl:(l++R).length=l.length+R.length:=ait
 have hR:∀(i:Nat) (p:HP),R[i]?=some p->p.h (φ (l.length+i)) w:=Pe
 refine⟨⟨λk=>β.O k\/∃i,i<R.length/\φ (l.length+i) k,w⟩,⟨⟨λk hk=>.inl hk,ho.os,ho.tape,ho.output,ho.size,λk hk=>ho.old k hk⟩,λi=>φ (l.length+i),λi p hp=>⟨hR i p hp,λk hk=>.inr ⟨i,dO hp,hk⟩⟩,λi hi=>h2 _ zc,λi j hi hj cu=>h3 _ _ zc zc zc,λk hk=>hk⟩,rfl,⟨rfl,rfl,rfl,aiu _,λk hk=>⟨?_,rfl⟩⟩,φ,λi p hp=>h1 i p (by rw [ajm (dO hp)];exact hp),λi hi k hk hO=>?_,λi j hi hj cu=>h3 i j zc zc cu⟩
 ·rcases hk with hk|⟨i,hi,hk⟩
  ·exact aiG (ho.old k hk).1 ho.size
  obtain⟨p,hp⟩:=nj hi
  exact HP.lt (hR i p hp) k hk
 rcases hO with hO|⟨j,hj,hO⟩
 ·exact h2 i zc k hk hO
 exact h3 i (l.length+j) zc zc zc k hk hO
theorem qq.back (h:qq β R β') (hS:aR β' l w):aR β (l++R) w:=by
 obtain⟨dL,φ,g1,g2,g3,g4⟩:=h
 obtain⟨ho,ψ,h1,h2,h3⟩:=hS
 have hl:(l++R).length=l.length+R.length:=ait
 have hin:∀i,i<R.length->∀k,φ i k->β'.O k:=λi hi k hk=>by
  obtain⟨p,hp⟩:=nj hi
  exact (g1 i p hp).2 k hk
 have hk:∀i,i<R.length->cF (λk=>¬φ i k) β'.w0 w:=λi hi=>⟨ho.os,ho.tape,ho.output,ho.size,λk _ hn=>(ho.old k (hin i hi k (Classical.not_not.1 hn))).2⟩
 refine⟨ho.le dL,λi=>if i<l.length then ψ i else φ (i-l.length),λi p hp=>?_,λi hi k hk hO=>?_,λi j hi hj cu k hk jw=>?_⟩
 ·grind [HP.st,dO]
 ·by_cases e:i<l.length
  ·simp only [e,if_true] at hk
   exact h2 i e k hk (dL.O k hO)
  grind
 by_cases e1:i<l.length
 ·simp only [e1,if_true] at hk
  by_cases e2:j<l.length
  ·simp only [e2,if_true] at jw
   exact h3 i j e1 e2 cu k hk jw
  grind
 simp only [e1,if_false] at hk
 by_cases e2:j<l.length
 ·grind
 simp only [e2,if_false] at jw
 exact g3 _ _ zc zc zc k hk jw
end Zw
section rules
variable {P:Program} {β β' ox:Bs} {N:fL} {ops:Array Oper} {k:Nat} {fr:Fr} {au l R:List HP} {Q:Post} {c:Code} {e:Exit} {pk:List Nat} {f:FuncId} {args:Array Value} {pre:List HP}
end rules
def aW (R:Nat->d9):d9 where
 h F w:=∃φ:Nat->Fp,(∀i,(R i).h (φ i) w)/\(∀i j,i≠j->Apart (φ i) (φ j))/\∀k,F k↔∃i,φ i k
 lt:=λ⟨_,h1,_,h3⟩ k hk=>let ⟨i,hk⟩:=(h3 k).1 hk;(R i).lt (h1 i) k hk
 st:=λ⟨φ,h1,h2,h3⟩ _ _ hk hn=>⟨φ,λi=>(R i).st (h1 i) hk (λk hk=>hn k ((h3 k).2 ⟨i,hk⟩)),h2,h3⟩
section Wa
variable {β:Bs} {l l':List HP} {w:World} {i n k:Nat} {R R':Nat->d9} {a:d9}
theorem aW.at (k:Nat) {F:Fp} {w:World} (h:(aW R).h F w):∃G,(R k).h G w:=by
 obtain⟨φ,h1,_⟩:=h
 exact⟨φ k,h1 k⟩
theorem aR.Ol (h:aR β l w) (R:Nat->d9) (hR:∀k,R k=d9.none):aR β (l++[.abs (aW R)]) w:=aR.new h (p:=.abs (aW R)) (F:=λ_=>False) ⟨λ_ _=>False,λi=>by rw [hR];exact λ_ h=>h,λ_ _ _ _ h=>h.elim,λ_=>⟨λh=>h.elim,λ⟨_,h⟩=>h⟩⟩ (cF.refl _ _) (λ_ h=>h.elim)
theorem aR.JO (h:aR β l w) (hp:l[i]?=some (.abs (aW R))) (k:Nat):aR β (l.set i (.abs (aW (ol R k d9.none)))++[.abs (R k)]) w:=by
 refine h.abX hp ?_
 rintro F ⟨φ,h1,h2,h3⟩
 refine⟨λx=>∃i,i≠k/\φ i x,φ k,⟨λi=>if i=k then λ_=>False else φ i,λi=>?_,λi j cu x hx hy=>?_,λx=>⟨λ⟨i,cu,hx⟩=>⟨i,by simpa [cu] using hx⟩,λ⟨i,hx⟩=>?_⟩⟩,h1 k,λx ⟨i,cu,hx⟩ hy=>h2 i k cu x hx hy,λx=>⟨λhx=>?_,λhx=>?_⟩⟩
 ·unfold ol
  by_cases e:i=k
  ·simp only [e,if_true];exact λ_ h=>h
  simp only [e,if_false];exact h1 i
 ·by_cases e1:i=k
  ·simp [e1] at hx
  by_cases e2:j=k
  ·simp [e2] at hy
  exact h2 i j cu x (by simpa [e1] using hx) (by simpa [e2] using hy)
 ·by_cases e1:i=k
  ·simp [e1] at hx
  exact⟨i,e1,by simpa [e1] using hx⟩
 all_goals grind
theorem aR.xU {j:Nat} {aq:List Nat} {q:HP} (h:aR β l w) (hp:l[i]?=some (.abs (aW R))) (hq:l[j]?=some q) (hqa:∀F w,q.h F w->a.h F w) (hn:cC (i::j::aq)=true) (hl:cU l aq=some l') (k:Nat) (hR:∀x,x≠k->R' x=R x) (ha:R' k=a):aR β (.abs (aW R')::l') w:=by
 refine h.abY hp hq hn hl ?_
 rintro F1 F2 ⟨φ,h1,h2,h3⟩ hF hap
 refine⟨λx=>(∃i,i≠k/\φ i x)\/F2 x,⟨λi=>if i=k then F2 else φ i,λi=>?_,λi j cu x hx hy=>?_,λx=>⟨λhx=>?_,λ⟨i,hx⟩=>?_⟩⟩,λx hx=>hx.imp (λ⟨i,_,hx⟩=>(h3 x).2 ⟨i,hx⟩) id⟩
 ·grind
 ·by_cases e1:i=k
  ·by_cases e2:j=k
   ·exact cu (e1.trans e2.symm)
   simp only [e1,if_true] at hx
   simp only [e2,if_false] at hy
   exact hap x ((h3 x).2 ⟨j,hy⟩) hx
  simp only [e1,if_false] at hx
  by_cases e2:j=k
  ·simp only [e2,if_true] at hy
   exact hap x ((h3 x).2 ⟨i,hx⟩) hy
  simp only [e2,if_false] at hy
  exact h2 i j cu x hx hy
 ·rcases hx with ⟨i,cu,hx⟩|hx
  ·exact⟨i,by simpa [cu] using hx⟩
  exact⟨k,by simpa using hx⟩
 grind
end Wa
end
section
open Go.RowKit Go.Maps
theorem Iw:Keyed Tryz.prog 9:=string_keyed Tryz.underlying9
theorem Ln {p:ByteArray} (h:p.size<=9223372036854775807):keyOf Tryz.prog 9 (.string p)=some (.string p.data.toList):=WideMaps.keyOf_string_mk Tryz.underlying9 (by unfold maxLen;omega)
def mS (g:ByteArray->Option Value):Lit->Option Value
 |.string l=>g ⟨l.toArray⟩
 |_=>none
theorem af3 (g:ByteArray->Option Value) (p:ByteArray):mS g (.string p.data.toList)=g p:=by
 show g ⟨p.data.toList.toArray⟩=g p
 rw [Array.toArray_toList]
theorem Wr (g:ByteArray->Option Value) (p:ByteArray) (v:Option Value):qA (mS g) (.string p.data.toList) v=mS (λq=>if q=p then v else g q):=by
 funext x
 unfold qA mS
 cases x with
 |string l=>
   by_cases e:l=p.data.toList
   ·subst e
    have e2:(⟨p.data.toList.toArray⟩:ByteArray)=p:=by rw [Array.toArray_toList]
    simp [Lit.sameKey]
   have e2:¬(⟨l.toArray⟩:ByteArray)=p:=λh=>e (by rw [←h])
   simp [Lit.sameKey,e,e2]
 |_=>rfl
theorem ac7:mS (λ_=>none)=λ_=>none:=by
 funext x
 unfold mS
 split<;>rfl
def Ix (b:Nat) (cs:List Value) (T:TypeId):d9 where
 h F w:=(HP.ax b cs T).h F w
 lt:=λh=>HP.lt h
 st:=λh _ _ hk hd=>HP.st h hk hd
structure HL where
 b:Nat->Nat
 m:Nat->Nat
 dA:Nat->Option Addr
 dC:Nat->Nat
def HL.data (L:HL) (k:Nat) (A:Option Addr) (c:Nat):HL:=⟨L.b,L.m,λi=>if i=k then A else L.dA i,λi=>if i=k then c else L.dC i⟩
def HL.put (L:HL) (k b m:Nat) (A:Option Addr) (c:Nat):HL:=⟨λi=>if i=k then b else L.b i,λi=>if i=k then m else L.m i,λi=>if i=k then A else L.dA i,λi=>if i=k then c else L.dC i⟩
def thT (kind:Int):TypeId:=if kind=1 then 138 else if kind=3 then 141 else 144
def tq (kind:Int):TypeId:=if kind=1 then 140 else if kind=3 then 143 else 147
def iB (L:HL) (t:Th):Value:=.iface (thT t.kind) (.pointer (some ⟨L.b t.k,0,none⟩))
def JQ (L:HL):Option Nat->Value
 |none=>.pointer none
 |some d=>.pointer (some ⟨L.b d,0,none⟩)
def Gr (o:bJ):List Value:=[.int .i64 o.id,.int .i64 o.mode,.int .i64 o.bg,.int .i64 o.bh,.int .i64 o.aT,.int .i64 o.aJ,.int .i64 o.aS,.int .i64 o.aK,.bool o.aE]
def Gs (L:HL) (k:Nat) (o:bJ):List Value:=if o.kind=1 then [.slice (L.dA k) o.data.length (L.dC k)] else if o.kind=3 then [.string o.target] else [.map (some (L.m k)),JQ L o.up]
def mh (L:HL) (k:Nat) (o:bJ):List Value:=Gr o++Gs L k o
def nS (L:HL) (es:jc Th):Lit->Option Value:=mS (λp=>(bK p es).map (iB L))
def eE (O:dZ) (L:HL) (k:Nat):d9:=if (af O k).kind=0 then d9.none else Ix (L.b k) (mh L k (af O k)) (tq (af O k).kind)
def dS (O:dZ) (L:HL) (k:Nat):d9:=if (af O k).kind=1 then aF 5 1 (L.dA k) (af O k).data.length (L.dC k) (dQ (af O k).data) else d9.none
def fZ (O:dZ) (L:HL) (k:Nat):d9:=if (af O k).kind=2 then bM Tryz.prog 9 (L.m k) (nS L (af O k).ah) (af O k).ah.length else d9.none
section sat
variable {β:Bs} {l:List HP} {w:World} {i b:Nat} {cs:List Value} {T:TypeId} {p p':HP}
theorem aR.same (h:aR β l w) (hp:l[i]?=some p) (e:∀F w,p.h F w->p'.h F w):aR β (l.set i p') w:=by
 obtain⟨ho,φ,h1,h2,h3⟩:=h
 have hl:(l.set i p').length=l.length:=aix ..
 refine⟨ho,φ,λj q hq=>?_,λj hj=>h2 j zc,λj k hj hk=>h3 j k zc zc⟩
 grind
end sat
section cells
variable {O:dZ} {L:HL} {k j:Nat} {v:Value}
theorem sA (h:(af O k).kind≠0):eE O L k=Ix (L.b k) (mh L k (af O k)) (tq (af O k).kind):=aij h
theorem je (hk:(af O k).kind≠0) (hv:(mh L k (af O k))[j]?=some v):∀F w,(aW (eE O L)).h F w->w.cell? ⟨L.b k,j,none⟩=some v:=by
 intro F w h
 obtain⟨G,g⟩:=aW.at k h
 rw [sA hk] at g
 obtain⟨g,_⟩:=g
 exact (lQ g rfl rfl hv).1
theorem AR (h:(af O k).kind=1):dS O L k=aF 5 1 (L.dA k) (af O k).data.length (L.dC k) (dQ (af O k).data):=aik h
theorem vJ (h:(af O k).kind=2):fZ O L k=bM Tryz.prog 9 (L.m k) (nS L (af O k).ah) (af O k).ah.length:=aik h
theorem zV (es:jc Th) (p:ByteArray):nS L es (.string p.data.toList)=(bK p es).map (iB L):=af3 _ _
theorem Zx {es:jc Th} {p:ByteArray} {t:Th} (hn:bK p es=none):qA (nS L es) (.string p.data.toList) (some (iB L t))=nS L (kZ p t es):=by
 grind [nS,Wr,Fa]
theorem Zy {es:jc Th} {p:ByteArray}:qA (nS L es) (.string p.data.toList) none=nS L (kS p es):=by
 grind [nS,Wr,yx]
theorem Zz:nS L []=λ_=>none:=ac7
end cells
section Wa
variable {O:dZ} {L:HL} {k:Nat} {f:bJ->bJ}
theorem Dh:eE (aX O k f) L k=if (f (af O k)).kind=0 then d9.none else Ix (L.b k) (mh L k (f (af O k))) (tq (f (af O k)).kind):=by
 unfold eE;rw [fq]
theorem Di {x:Nat} (h:x≠k):eE (aX O k f) L x=eE O L x:=by unfold eE;rw [jd h]
theorem t8 (h:(f (af O k)).data=(af O k).data) (h2:(f (af O k)).kind=(af O k).kind):dS (aX O k f) L=dS O L:=by
 grind [dS,fq,jd]
theorem ud (h:(f (af O k)).ah=(af O k).ah) (h2:(f (af O k)).kind=(af O k).kind):fZ (aX O k f) L=fZ O L:=by
 grind [fZ,fq,jd]
theorem Fb {x:Nat} (h:x≠k):fZ (aX O k f) L x=fZ O L x:=by unfold fZ;rw [jd h]
theorem Fc {x:Nat} (h:x≠k):dS (aX O k f) L x=dS O L x:=by unfold dS;rw [jd h]
end Wa
section kinds
variable {O:dZ} {L:HL} {k j:Nat} {f:bJ->bJ} {o:bJ}
theorem pV (hf:∀o,(f o).kind=o.kind):(af (aX O j f) k).kind=(af O k).kind:=by
 rw [kx];split
 ·exact hf _
 rfl
theorem ez {α:Type} {g:bJ->α} (hf:∀o,g (f o)=g o):g (af (aX O j f) k)=g (af O k):=by
 rw [kx];split
 ·exact hf _
 rfl
theorem mR (h:o.kind=1):mh L k o=[.int .i64 o.id,.int .i64 o.mode,.int .i64 o.bg,.int .i64 o.bh,.int .i64 o.aT,.int .i64 o.aJ,.int .i64 o.aS,.int .i64 o.aK,.bool o.aE,.slice (L.dA k) o.data.length (L.dC k)]:=by
 unfold mh Gs;rw [aik h];rfl
theorem Fe (h:o.kind=3):mh L k o=[.int .i64 o.id,.int .i64 o.mode,.int .i64 o.bg,.int .i64 o.bh,.int .i64 o.aT,.int .i64 o.aJ,.int .i64 o.aS,.int .i64 o.aK,.bool o.aE,.string o.target]:=by
 unfold mh Gs;rw [aij (by rw [h];decide),aik h];rfl
theorem sB (h:o.kind=2):mh L k o=[.int .i64 o.id,.int .i64 o.mode,.int .i64 o.bg,.int .i64 o.bh,.int .i64 o.aT,.int .i64 o.aJ,.int .i64 o.aS,.int .i64 o.aK,.bool o.aE,.map (some (L.m k)),JQ L o.up]:=by
 unfold mh Gs;rw [aij (by rw [h];decide),aij (by rw [h];decide)];rfl
theorem Pq {es:bJ->jc Th}:eE (aX O k (λo=>{o with ah:=es o})) L=eE O L:=by
 funext x
 unfold eE
 by_cases e:x=k
 ·subst e;rw [fq];rfl
 rw [jd e]
def vk (O:dZ) (d:Nat) (name:ByteArray) (t:Th):dZ:=
 let O1:=aX O d (λo=>{o with ah:=kZ name t o.ah})
 let O2:=aX O1 t.k (λo=>{o with aS:=o.aS+1})
 if t.kind=2 then aX O2 t.k (λo=>{o with up:=some d}) else O2
theorem Iy {α:Type} {g:bJ->α} {d:Nat} {name:ByteArray} {t:Th} (h1:∀o es,g {o with ah:=es}=g o) (h2:∀o l,g {o with aS:=l}=g o) (h3:∀o u,g {o with up:=u}=g o):g (af (vk O d name t) k)=g (af O k):=by
 unfold vk
 simp only
 split
 ·rw [ez (λo=>h3 o _),ez (λo=>h2 o _),ez (λo=>h1 o _)]
 rw [ez (λo=>h2 o _),ez (λo=>h1 o _)]
theorem Ff {d:Nat} {name:ByteArray} {t:Th}:(af (vk O d name t) k).kind=(af O k).kind:=Iy (g:=bJ.kind) (λ_ _=>rfl) (λ_ _=>rfl) (λ_ _=>rfl)
structure FM where
 cN:Int
 cB:Int
 cH:Int
 cS:Int
 cZ:Int
 last:Int
 ah:Int
 used:Int
def yA (X:FM) (O:dZ) (d:Nat):dZ:=aX O d (λo=>{o with aT:=X.cS,aJ:=X.cZ})
def dg (X:FM) (O:dZ) (d:Nat) (name:ByteArray) (t:Th):dZ:=yA X (vk O d name t) d
def bn (X:FM) (O:dZ) (d:Nat) (name:ByteArray) (t:Th):dZ:=aX (yA X (aX O d (λo=>{o with ah:=kS name o.ah})) d) t.k (λo=>{o with aS:=o.aS-1})
theorem fF {X:FM} {d:Nat} {name:ByteArray} {t:Th}:(af (bn X O d name t) k).kind=(af O k).kind:=by
 unfold bn yA
 exact (pV (f:=λo=>{o with aS:=o.aS-1}) (λ_=>rfl)).trans ((pV (f:=λo=>{o with aT:=X.cS,aJ:=X.cZ}) (λ_=>rfl)).trans (pV (f:=λo=>{o with ah:=kS name o.ah}) (λ_=>rfl)))
theorem RO {X:FM} {d:Nat} {name:ByteArray} {t:Th}:(af (dg X O d name t) k).kind=(af O k).kind:=by
 grind [dg,yA,pV,Ff]
end kinds
section sat
variable {β:Bs} {l l':List HP} {w:World} {i j k:Nat} {O:dZ} {L:HL} {f:bJ->bJ} {cs:List Value} {T:TypeId} {aq:List Nat}
theorem aR.Fg (h:aR β l w) (hp:l[i]?=some (.abs (aW (eE O L)))) (h0:(af O k).kind≠0) (hc:mh L k (af O k)=cs) (hT:tq (af O k).kind=T):aR β (l.set i (.abs (aW (ol (eE O L) k d9.none)))++[.ax (L.b k) cs T]) w:=by
 have h1:=h.JO hp k
 have jD:(l.set i (HP.abs (aW (ol (eE O L) k d9.none)))).length=l.length:=aix ..
 have h2:=aR.same (i:=l.length) (p:=.abs (eE O L k)) (p':=.ax (L.b k) cs T) h1 (by rw [ajf zc,jD,Nat.sub_self];rfl) (λF w h=>by
  have h3:(eE O L k).h F w:=h
  rw [sA h0] at h3
  have h3:(Ix (L.b k) (mh L k (af O k)) (tq (af O k).kind)).h F w:=h3
  rw [hc,hT] at h3
  exact h3)
 have e:∀(a:List HP) (x y:HP),(a++[x]).set a.length y=a++[y]:=λa x y=>aii
 grind
theorem aR.Gt {R:Nat->d9} (h:aR β l w) (hp:l[i]?=some (.abs (aW R))) (hR:∀x,x≠k->R x=eE O L x) (hq:l[j]?=some (.ax (L.b k) cs T)) (hd:cC (i::j::aq)=true) (hl:cU l aq=some l') (h0:(f (af O k)).kind≠0) (hc:mh L k (f (af O k))=cs) (hT:tq (f (af O k)).kind=T):aR β (.abs (aW (eE (aX O k f) L))::l') w:=by
 refine h.xU (a:=Ix (L.b k) cs T) hp hq (λ_ _ h=>h) hd hl k (λx hx=>?_) (by rw [Dh,aij h0,hc,hT])
 rw [Di hx,hR x hx]
theorem vK {R:Nat->d9} {a:d9} {x:Nat} (h:x≠k):ol R k a x=R x:=aij h
theorem aR.aef (h:aR β l w) (hp:l[i]?=some (.abs (aW (fZ O L)))) (hd:(af O k).kind=2):aR β (l.set i (.abs (aW (ol (fZ O L) k d9.none)))++[.abs (bM Tryz.prog 9 (L.m k) (nS L (af O k).ah) (af O k).ah.length)]) w:=by
 have h1:=h.JO hp k
 rw [vJ hd] at h1
 exact h1
theorem aR.aeg (h:aR β l w) (hp:l[i]?=some (.abs (aW (ol (fZ O L) k d9.none)))) (hq:l[j]?=some (.abs (bM Tryz.prog 9 (L.m k) (nS L (af O k).ah) (af O k).ah.length))) (hd:cC (i::j::aq)=true) (hl:cU l aq=some l') (h2:(af O k).kind=2):aR β (.abs (aW (fZ O L))::l') w:=
 h.xU hp hq (λ_ _ h=>h) hd hl k (λ_ hx=>(vK hx).symm) (vJ h2)
theorem aR.Ws (h:aR β l w) (hp:l[i]?=some (.abs (aW (dS O L)))) (hd:(af O k).kind=1):aR β (l.set i (.abs (aW (ol (dS O L) k d9.none)))++[.abs (aF 5 1 (L.dA k) (af O k).data.length (L.dC k) (dQ (af O k).data))]) w:=by
 have h1:=h.JO hp k
 rw [AR hd] at h1
 exact h1
end sat
end
section
open Go.RowKit
theorem j6.wide {ns:List aL} {b b':Nat} (h:j6 ns b) (hb:b<=b'):j6 ns b':=⟨air h.len hb,λi hi=>by
 have:=h.node i hi
 exact⟨this.ids,air this.data hb,air this.target hb,air this.ah hb,λj hj=>⟨(this.bS j hj).id,air (this.bS j hj).name hb⟩⟩⟩
section gb
variable {ns:List aL} (h:j6 ns 1048576)
include h
theorem wi:ns.length<=1048576:=by have:=h.len;omega
theorem Gu:∀i,i<ns.length->(nd ns i).data.length<=1048576/\(nd ns i).ah.length<=1048576:=λi hi=>by
 have h1:=(h.node i hi).data
 have h2:=(h.node i hi).ah
 omega
theorem JR:∀i,i<ns.length->∀j,j<(nd ns i).ah.length->-9223372036854775808<=(bS ns i j).id/\(bS ns i j).id<=9223372036854775807:=λi hi j hj=>((h.node i hi).bS j hj).id
theorem JS:∀i,i<ns.length->∀j,j<(nd ns i).ah.length->(bS ns i j).name.size<=1048576:=λi hi j hj=>by
 have h1:=((h.node i hi).bS j hj).name
 unfold bS
 omega
theorem ab3:∀i,i<ns.length->(nd ns i).target.size<=1048576:=λi hi=>by
 have h1:=(h.node i hi).target
 omega
end gb
structure agQ (X:FM):Prop where
 cN:yh X.cN
 cB:yh X.cB
 cH:yh X.cH
 cS:yh X.cS
 cZ:yh X.cZ
end
end Go.Proofs.YtbnfiigafobejaaGreat
section
namespace Go.Proofs
open Go.Shelf
def Tryz.keysI_ren:Go.Shelf.Ren:=⟨fun|7=>67|10=>93|n=>n,fun|23=>129|26=>3|3=>133|28=>153|0=>0|27=>152|33=>185|4=>4|n=>n,fun|n=>n⟩
theorem Tryz.keysI:Go.Proofs.SlLaysZI.n7 Tryz.prog Tryz.keysI_ren:={
 mixed:=by kernel_rfl
 f7:=⟨Tryz.f67.name,by decide,Tryz.func67.trans (congrArg some (by kernel_rfl))⟩
 f10:=⟨Tryz.f93.name,by decide,Tryz.func93.trans (congrArg some (by kernel_rfl))⟩
 t0:=Tryz.underlying0
 a0:=Tryz.isAgg0
 z0:=Tryz.sizeOf0
 v0:=Tryz.zeroValue0
 t4:=Tryz.underlying4
 a4:=Tryz.isAgg4
 z4:=Tryz.sizeOf4
 v4:=Tryz.zeroValue4
 t23:=Tryz.underlying129
 a23:=Tryz.isAgg129
 z23:=Tryz.sizeOf129
 v23:=Tryz.zeroValue129
 t26:=Tryz.underlying3
 a26:=Tryz.isAgg3
 z26:=Tryz.sizeOf3
 v26:=Tryz.zeroValue3
 t27:=Tryz.underlying152
 a27:=Tryz.isAgg152
 z27:=Tryz.sizeOf152
 v27:=Tryz.zeroValue152
 t28:=Tryz.underlying153
 a28:=Tryz.isAgg153
 z28:=Tryz.sizeOf153
 v28:=Tryz.zeroValue153
 t33:=Tryz.underlying185
 a33:=Tryz.isAgg185
 z33:=Tryz.sizeOf185
 v33:=Tryz.zeroValue185}
def Tryz.sortedI_ren:Go.Shelf.Ren:=⟨fun|6=>66|8=>91|9=>92|11=>110|13=>112|12=>111|23=>131|24=>132|14=>122|15=>123|16=>124|17=>125|18=>126|19=>127|20=>128|21=>129|22=>130|25=>144|26=>145|27=>146|28=>147|29=>148|30=>149|31=>156|n=>n,fun|26=>3|28=>153|24=>41|0=>0|3=>3|37=>199|48=>214|50=>216|4=>4|40=>208|39=>207|45=>205|5=>5|9=>9|51=>224|55=>228|57=>233|58=>234|33=>185|n=>n,fun|n=>n⟩
theorem Tryz.sortedI:Go.Proofs.SlLaysZI.n6 Tryz.prog Tryz.sortedI_ren:={
 mixed:=by kernel_rfl
 f6:=⟨Tryz.f66.name,by decide,Tryz.func66.trans (congrArg some (by kernel_rfl))⟩
 f8:=⟨Tryz.f91.name,by decide,Tryz.func91.trans (congrArg some (by kernel_rfl))⟩
 f11:=⟨Tryz.f110.name,by decide,Tryz.func110.trans (congrArg some (by kernel_rfl))⟩
 t0:=Tryz.underlying0
 a0:=Tryz.isAgg0
 z0:=Tryz.sizeOf0
 v0:=Tryz.zeroValue0
 t24:=Tryz.underlying41
 a24:=Tryz.isAgg41
 z24:=Tryz.sizeOf41
 v24:=Tryz.zeroValue41
 t26:=Tryz.underlying3
 a26:=Tryz.isAgg3
 z26:=Tryz.sizeOf3
 v26:=Tryz.zeroValue3
 t28:=Tryz.underlying153
 a28:=Tryz.isAgg153
 z28:=Tryz.sizeOf153
 v28:=Tryz.zeroValue153
 i26:=by kernel_rfl}
def Tryz.sortI_ren:Go.Shelf.Ren:=⟨fun|5=>92|8=>112|7=>111|19=>131|20=>132|10=>122|11=>123|12=>124|13=>125|14=>126|15=>127|16=>128|17=>129|18=>130|30=>144|31=>145|32=>146|33=>147|34=>148|35=>149|40=>156|n=>n,fun|23=>41|25=>3|3=>3|32=>199|22=>41|0=>0|44=>214|46=>216|4=>4|36=>208|35=>207|41=>205|5=>5|9=>9|53=>224|57=>228|63=>233|64=>234|n=>n,fun|n=>n⟩
theorem Tryz.sortI:Go.Proofs.SlLaysM.n5 Tryz.prog Tryz.sortI_ren:={
 mixed:=by kernel_rfl
 f5:=⟨Tryz.f92.name,by decide,Tryz.func92.trans (congrArg some (by kernel_rfl))⟩
 f7:=⟨Tryz.f111.name,by decide,Tryz.func111.trans (congrArg some (by kernel_rfl))⟩
 f8:=Tryz.func112.trans (congrArg some (by kernel_rfl))
 f10:=⟨Tryz.f122.name,by decide,Tryz.func122.trans (congrArg some (by kernel_rfl))⟩
 f11:=⟨Tryz.f123.name,by decide,Tryz.func123.trans (congrArg some (by kernel_rfl))⟩
 f12:=⟨Tryz.f124.name,by decide,Tryz.func124.trans (congrArg some (by kernel_rfl))⟩
 f13:=⟨Tryz.f125.name,by decide,Tryz.func125.trans (congrArg some (by kernel_rfl))⟩
 f14:=⟨Tryz.f126.name,by decide,Tryz.func126.trans (congrArg some (by kernel_rfl))⟩
 f15:=⟨Tryz.f127.name,by decide,Tryz.func127.trans (congrArg some (by kernel_rfl))⟩
 f16:=⟨Tryz.f128.name,by decide,Tryz.func128.trans (congrArg some (by kernel_rfl))⟩
 f17:=⟨Tryz.f129.name,by decide,Tryz.func129.trans (congrArg some (by kernel_rfl))⟩
 f18:=⟨Tryz.f130.name,by decide,Tryz.func130.trans (congrArg some (by kernel_rfl))⟩
 f19:=Tryz.func131.trans (congrArg some (by kernel_rfl))
 f20:=Tryz.func132.trans (congrArg some (by kernel_rfl))
 f30:=⟨Tryz.f144.name,by decide,Tryz.func144.trans (congrArg some (by kernel_rfl))⟩
 f31:=Tryz.func145.trans (congrArg some (by kernel_rfl))
 f32:=Tryz.func146.trans (congrArg some (by kernel_rfl))
 f33:=⟨Tryz.f147.name,by decide,Tryz.func147.trans (congrArg some (by kernel_rfl))⟩
 f34:=⟨Tryz.f148.name,by decide,Tryz.func148.trans (congrArg some (by kernel_rfl))⟩
 f35:=⟨Tryz.f149.name,by decide,Tryz.func149.trans (congrArg some (by kernel_rfl))⟩
 f40:=⟨Tryz.f156.name,by decide,Tryz.func156.trans (congrArg some (by kernel_rfl))⟩
 t0:=Tryz.underlying0
 a0:=Tryz.isAgg0
 z0:=Tryz.sizeOf0
 v0:=Tryz.zeroValue0
 t3:=Tryz.underlying3
 a3:=Tryz.isAgg3
 z3:=Tryz.sizeOf3
 v3:=Tryz.zeroValue3
 t4:=Tryz.underlying4
 a4:=Tryz.isAgg4
 z4:=Tryz.sizeOf4
 v4:=Tryz.zeroValue4
 t5:=Tryz.underlying5
 a5:=Tryz.isAgg5
 z5:=Tryz.sizeOf5
 v5:=Tryz.zeroValue5
 t9:=Tryz.underlying9
 a9:=Tryz.isAgg9
 z9:=Tryz.sizeOf9
 v9:=Tryz.zeroValue9
 t22:=Tryz.underlying41
 a22:=Tryz.isAgg41
 z22:=Tryz.sizeOf41
 v22:=Tryz.zeroValue41
 t23:=Tryz.underlying41
 a23:=Tryz.isAgg41
 z23:=Tryz.sizeOf41
 v23:=Tryz.zeroValue41
 t25:=Tryz.underlying3
 a25:=Tryz.isAgg3
 z25:=Tryz.sizeOf3
 v25:=Tryz.zeroValue3
 t32:=Tryz.underlying199
 a32:=Tryz.isAgg199
 z32:=Tryz.sizeOf199
 v32:=Tryz.zeroValue199
 t35:=Tryz.underlying207
 a35:=Tryz.isAgg207
 z35:=Tryz.sizeOf207
 v35:=Tryz.zeroValue207
 t36:=Tryz.underlying208
 a36:=Tryz.isAgg208
 z36:=Tryz.sizeOf208
 v36:=Tryz.zeroValue208
 t41:=Tryz.underlying205
 a41:=Tryz.isAgg205
 z41:=Tryz.sizeOf205
 v41:=Tryz.zeroValue205
 t44:=Tryz.underlying214
 a44:=Tryz.isAgg214
 z44:=Tryz.sizeOf214
 v44:=Tryz.zeroValue214
 t46:=Tryz.underlying216
 a46:=Tryz.isAgg216
 z46:=Tryz.sizeOf216
 v46:=Tryz.zeroValue216
 t53:=Tryz.underlying224
 a53:=Tryz.isAgg224
 z53:=Tryz.sizeOf224
 v53:=Tryz.zeroValue224
 t57:=Tryz.underlying228
 a57:=Tryz.isAgg228
 z57:=Tryz.sizeOf228
 v57:=Tryz.zeroValue228
 t63:=Tryz.underlying233
 a63:=Tryz.isAgg233
 z63:=Tryz.sizeOf233
 v63:=Tryz.zeroValue233
 t64:=Tryz.underlying234
 a64:=Tryz.isAgg234
 z64:=Tryz.sizeOf234
 v64:=Tryz.zeroValue234}
end Go.Proofs
end
namespace Go.Proofs.YtbnfiigafobejaaGreat
section
open Go.RowKit
theorem af4 (a:Addr) (v:Value) (w:World) (h:w.cell? a=some v):(Go.method 410 284 (.pointer (some a)) "Len").run Tryz.prog w=.ok (248,v) w:=by
 have e:(Go.method 410 284 (.pointer (some a)) "Len").run Tryz.prog w=((loadVar 180 a) >>= λv=>pure (248,v):Sem (FuncId×Value)).run Tryz.prog w:=KB
 rw [e]
 simp [loadVar,isAgg,underlying,Tryz.underlying180,h,Result.andThen]
theorem aeh (a:Addr) (v:Value) (w:World) (h:w.cell? a=some v):(Go.method 410 284 (.pointer (some a)) "Less").run Tryz.prog w=.ok (249,v) w:=by
 have e:(Go.method 410 284 (.pointer (some a)) "Less").run Tryz.prog w=((loadVar 180 a) >>= λv=>pure (249,v):Sem (FuncId×Value)).run Tryz.prog w:=KB
 rw [e]
 simp [loadVar,isAgg,underlying,Tryz.underlying180,h,Result.andThen]
theorem aei (a:Addr) (v:Value) (w:World) (h:w.cell? a=some v):(Go.method 410 284 (.pointer (some a)) "Swap").run Tryz.prog w=.ok (250,v) w:=by
 have e:(Go.method 410 284 (.pointer (some a)) "Swap").run Tryz.prog w=((loadVar 180 a) >>= λv=>pure (250,v):Sem (FuncId×Value)).run Tryz.prog w:=KB
 rw [e]
 simp [loadVar,isAgg,underlying,Tryz.underlying180,h,Result.andThen]
theorem aej (a:Addr) (w:World):(Go.method 410 284 (.pointer (some a)) "Push").run Tryz.prog w=.ok (253,.pointer (some a)) w:=KB
theorem af5 (a:Addr) (w:World):(Go.method 410 284 (.pointer (some a)) "Pop").run Tryz.prog w=.ok (252,.pointer (some a)) w:=KB
theorem ab4 (a:Addr) (w:World):(Go.nilAhead 410 284 (.pointer (some a)) "Len").run Tryz.prog w=.ok (some false) w:=KB
theorem Wt (a:Addr) (w:World):(Go.nilAhead 410 284 (.pointer (some a)) "Less").run Tryz.prog w=.ok (some false) w:=KB
theorem Pr (a:Addr) (w:World):(Go.nilAhead 410 284 (.pointer (some a)) "Swap").run Tryz.prog w=.ok (some false) w:=KB
theorem aek (a:Addr) (w:World):(Go.nilAhead 410 284 (.pointer (some a)) "Push").run Tryz.prog w=.ok (some false) w:=KB
theorem af6 (a:Addr) (w:World):(Go.nilAhead 410 284 (.pointer (some a)) "Pop").run Tryz.prog w=.ok (some false) w:=KB
theorem Pt (A:Option Addr) (n c:Nat) (w:World) :
 Calls Tryz.prog 248 #[.slice A n c] w λe w'=>e=.returned (.int .i64 n)/\w'=w:=by
 go_enter Tryz.func248,Tryz.ntmps248
 go_wp2
 go_ret
 exact⟨rfl,rfl⟩
theorem Wu (g n c i j:Nat) (x y:Int) (w:World) (hi:i<n) (hj:j<n) (ci:w.cell? ⟨g,i,none⟩=some (.int .i64 x)) (cj:w.cell? ⟨g,j,none⟩=some (.int .i64 y)) :
 Calls Tryz.prog 249 #[.slice (some ⟨g,0,none⟩) n c,.int .i64 i,.int .i64 j] w λe w'=>e=.returned (.bool (decide (x<y)))/\∃m,w'=w.drewN m:=by
 have hi':(i:Int)<(n:Int):=zc
 have hj':(j:Int)<(n:Int):=zc
 go_enter Tryz.func249,Tryz.ntmps249
 go_wp2_with fail
 go_quiet (fail)
 go_wp2_with fail
 go_ret
 exact⟨rfl,_,rfl⟩
theorem Wv (g n c i j:Nat) (x y:Int) (w:World) (hi:i<n) (hj:j<n) (hij:i≠j) (ci:w.cell? ⟨g,i,none⟩=some (.int .i64 x)) (cj:w.cell? ⟨g,j,none⟩=some (.int .i64 y))
 (fi:w.frozen? ⟨g,i,none⟩=false) (fj:w.frozen? ⟨g,j,none⟩=false) :
 Calls Tryz.prog 250 #[.slice (some ⟨g,0,none⟩) n c,.int .i64 i,.int .i64 j] w λe w'=>e=.returned (.tuple #[])/\∃m,w'=((w.setCell ⟨g,i,none⟩ (.int .i64 y)).setCell ⟨g,j,none⟩ (.int .i64 x)).drewN m:=by
 have hi':(i:Int)<(n:Int):=zc
 have hj':(j:Int)<(n:Int):=zc
 go_enter Tryz.func250,Tryz.ntmps250
 go_wp2_with fail
 go_region
 go_end0
 exact⟨rfl,1,rfl⟩
theorem ZA:(Tryz.prog.info? 3).map (λi=>(i.zero,i.size,i.bytes))=some (some (.int .i64 0),1,8):=KB
theorem ZB (t o g n c:Nat) (x:Int) (w:World) (hc:n+1<=c) (ht:w.cell? ⟨t,o,none⟩=some (.slice (some ⟨g,0,none⟩) (n+1) c)) (hf:w.frozen? ⟨t,o,none⟩=false)
 (hx:w.cell? ⟨g,n,none⟩=some (.int .i64 x)) (hm:n+1<=1048576) :
 Calls Tryz.prog 252 #[.pointer (some ⟨t,o,none⟩)] w λe w'=>e=.returned (.iface 3 (.int .i64 x))/\w'=w.setCell ⟨t,o,none⟩ (.slice (some ⟨g,0,none⟩) n c):=by
 go_enter Tryz.func252,Tryz.ntmps252
 go_wp2_with fail
 go_ret
 exact⟨rfl,rfl⟩
theorem Ur (x:Int) (w:World):(Instr.typeAssert (.iface 3 (.int .i64 x)) 20 3 false).run Tryz.prog w=.ok (.int .i64 x) w:=KB
theorem RP (x:Int):∀u∈[Value.int .i64 x],u.oneCell'=true:=by intro u hu;simp at hu;subst hu;rfl
theorem Ww {t o:Nat} {v:Value} {w w1:World} {ob:Obj} (ht:w.cell? ⟨t,o,none⟩=some v) (fP:t<w.heap.size) {row:Option Nat} (cu:row≠some t) (hg:(w.alloc ob).drew.grownBy w1 row):w1.cell? ⟨t,o,none⟩=some v:=by
 rw [hg.cell_far ⟨t,o,none⟩ (by show t<(w.alloc ob).heap.size;simp;omega) (λe=>cu e.symm)]
 exact (World.cell?_alloc_lt w ob ⟨t,o,none⟩ fP).trans ht
theorem Wx {t o:Nat} {w w1:World} {ob:Obj} (hf:w.frozen? ⟨t,o,none⟩=false) (fP:t<w.heap.size) {row:Option Nat} (cu:row≠some t) (hg:(w.alloc ob).drew.grownBy w1 row):w1.frozen? ⟨t,o,none⟩=false:=by
 rw [hg.frozen_far ⟨t,o,none⟩ (by show t<(w.alloc ob).heap.size;simp;omega) (λe=>cu e.symm)]
 exact (World.frozen?_alloc_old w ob ⟨t,o,none⟩ (Nat.ne_of_lt fP)).trans hf
theorem Wy (t o base n:Nat) (v:Value) (xs:List Value) (x:Int) (w:World) (ht:w.cell? ⟨t,o,none⟩=some v) (hf:w.frozen? ⟨t,o,none⟩=false)
 (kQ:w.ownsRow base 3 1 v n xs) (cu:v.ownBlock≠some t) (hm:n+1<=1048576) (hbase:base<=w.heap.size) :
 Calls Tryz.prog 253 #[.pointer (some ⟨t,o,none⟩),.iface 3 (.int .i64 x)] w λe w'=>e=.returned (.tuple #[]) ∧
  ∃g cap w1,w1.ownsRow base 3 1 (.slice (some ⟨g,0,none⟩) (n+1) cap) (n+1) (xs++[.int .i64 x])/\w.grownBy w1 v.ownBlock/\(v.ownBlock=some g\/w.heap.size<=g) ∧
    w'=w1.setCell ⟨t,o,none⟩ (.slice (some ⟨g,0,none⟩) (n+1) cap):=by
 obtain⟨i0,hi0,hz0,hz1,hz2⟩:=info_parts ZA
 have fP:t<w.heap.size:=by
  rcases Nat.lt_or_ge t w.heap.size with h|h
  ·exact h
  simp [World.cell?,Array.getElem?_eq_none h] at ht
 have hta:=Ur
 go_enter Tryz.func253,Tryz.ntmps253
 go_wp2_with fail
 go_region_law (refine step_append_lies _ rfl (.tmp 7) (.tmp 10) 180 rfl base 3 i0 (.int .i64 0) 1 8 Tryz.underlying180 hi0 hz0 hz1 hz2 rfl Pd v n xs (by simp [Act.eval]) (kQ.alloc _) ⟨w.heap.size,0,none⟩ 1 1 [.int .i64 x] (by simp [Act.eval]) rfl (cell_one_new _ _ _) (RP x) Pd (by unfold maxLen;omega) zc (by simp;omega) (w.heap.size+1) aii ?_;intro g cap w1 hown1 hg1 Us ahW;have c1:w1.cell? ⟨t,o,none⟩=some v:=Ww ht fP cu hg1;have f1:w1.frozen? ⟨t,o,none⟩=false:=Wx hf fP cu hg1)
 all_goals
  go_end0
  refine⟨rfl,g,cap,w1,hown1,(World.grownBy_alloc w (.cells #[.int .i64 x] 3) _).trans ⟨hg1.os,hg1.tape,hg1.output,hg1.size,hg1.block⟩,?_,rfl⟩
  rcases Us with h|h
  ·exact .inl h
  exact .inr zc
end
end Go.Proofs.YtbnfiigafobejaaGreat
section
namespace Go.Proofs.YtbnfiigafobejaaGreat.bF
def at_ (l:List Int) (i:Nat):Int:=l.getD i 0
def swp (l:List Int) (i j:Nat):List Int:=(l.set i (at_ l j)).set j (at_ l i)
def Hp (n:Nat) (l:List Int):Prop:=∀i,0<i->i<n->at_ l ((i-1) / 2)<=at_ l i
def Fh (l:List Int):Prop:=∀a b,a<l.length->b<l.length->at_ l a=at_ l b->a=b
def Lp (l:List Int) (j:Nat):Prop:=
 (∀i,0<i->i<l.length->i≠j->at_ l ((i-1) / 2)<=at_ l i)/\(∀i,0<i->i<l.length->(i-1) / 2=j->0<j->at_ l ((j-1) / 2)<=at_ l i)
def Dj (n:Nat) (l:List Int) (i:Nat):Prop:=
 (∀k,0<k->k<n->(k-1) / 2≠i->at_ l ((k-1) / 2)<=at_ l k)/\(∀k,0<k->k<n->(k-1) / 2=i->0<i->at_ l ((i-1) / 2)<=at_ l k)
structure Same (l l':List Int):Prop where
 len:l'.length=l.length
 mem:∀x,x∈l'↔x∈l
 inj:Fh l->Fh l'
theorem AU {l:List Int} {x:Int}:x∈l↔∃k,k<l.length/\at_ l k=x:=by
 rw [aiY]
 constructor
 ·rintro⟨i,h,e⟩
  exact⟨i,h,by simp [at_,List.getD_eq_getElem?_getD,h,e]⟩
 rintro⟨i,h,e⟩
 exact⟨i,h,by simpa [at_,List.getD_eq_getElem?_getD,h] using e⟩
theorem rI (l:List Int) (i j:Nat):(swp l i j).length=l.length:=by simp [swp]
def sw (i j k:Nat):Nat:=if k=j then i else if k=i then j else k
theorem o6 {l:List Int} {i j:Nat} (hi:i<l.length) (hj:j<l.length) (k:Nat):at_ (swp l i j) k=at_ l (sw i j k):=by
 unfold swp at_ sw
 grind
theorem Ut (i j k:Nat):sw i j (sw i j k)=k:=by unfold sw;(repeat' split)<;>omega
theorem Om {i j k n:Nat} (hi:i<n) (hj:j<n) (hk:k<n):sw i j k<n:=by unfold sw;(repeat' split)<;>omega
theorem Same.refl (l:List Int):Same l l:=⟨rfl,λ_=>Iff.rfl,λh=>h⟩
theorem Same.trans {l l' l'':List Int} (h:Same l l') (k:Same l' l''):Same l l'':=⟨k.len.trans h.len,λx=>(k.mem x).trans (h.mem x),λi=>k.inj (h.inj i)⟩
theorem Same.swp {l:List Int} {i j:Nat} (hi:i<l.length) (hj:j<l.length):Same l (swp l i j):=by
 refine⟨rI l i j,λx=>?_,λinj a b ha hb e=>?_⟩
 ·rw [AU,AU,rI]
  constructor
  ·rintro⟨k,hk,e⟩
   exact⟨sw i j k,Om hi hj hk,by rw [←o6 hi hj];exact e⟩
  rintro⟨k,hk,e⟩
  exact⟨sw i j k,Om hi hj hk,by rw [o6 hi hj,Ut];exact e⟩
 rw [rI] at ha hb
 rw [o6 hi hj,o6 hi hj] at e
 have:=inj _ _ (Om hi hj ha) (Om hi hj hb) e
 rw [←Ut i j a,this,Ut]
theorem Wz {l:List Int} {j:Nat} (h:Lp l j) (he:j=0\/at_ l ((j-1) / 2)<=at_ l j):Hp l.length l:=by
 intro i h0 hi
 by_cases e:i=j
 ·subst e
  rcases he with he|he
  ·omega
  exact he
 exact h.1 i h0 hi e
theorem ac8 {l:List Int} {j:Nat} (h:Lp l j) (h0:0<j) (hj:j<l.length) (fP:at_ l j<at_ l ((j-1) / 2)):Lp (swp l ((j-1) / 2) j) ((j-1) / 2):=by
 have hp:(j-1) / 2<l.length:=zc
 have cu:(j-1) / 2≠j:=zc
 refine⟨λi i0 il ine=>?_,λi i0 il ip p0=>?_⟩
 ·rw [rI] at il
  rw [o6 hp hj,o6 hp hj]
  by_cases e1:i=j
  ·subst e1
   rw [show sw ((i-1) / 2) i ((i-1) / 2)=i by unfold sw;rw [aij cu,aik rfl],show sw ((i-1) / 2) i i=(i-1) / 2 by unfold sw;rw [aik rfl]]
   omega
  rw [show sw ((j-1) / 2) j i=i by unfold sw;rw [aij e1,aij ine]]
  by_cases e2:(i-1) / 2=j
  ·rw [show sw ((j-1) / 2) j ((i-1) / 2)=(j-1) / 2 by unfold sw;rw [aik e2]]
   exact h.2 i i0 il e2 h0
  by_cases e3:(i-1) / 2=(j-1) / 2
  ·rw [show sw ((j-1) / 2) j ((i-1) / 2)=j by unfold sw;rw [aij e2,aik e3]]
   have:=h.1 i i0 il e1
   rw [e3] at this
   omega
  rw [show sw ((j-1) / 2) j ((i-1) / 2)=(i-1) / 2 by unfold sw;rw [aij e2,aij e3]]
  exact h.1 i i0 il e1
 rw [rI] at il
 rw [o6 hp hj,o6 hp hj]
 have a1:=h.1 ((j-1) / 2) p0 hp cu
 rw [show sw ((j-1) / 2) j (((j-1) / 2-1) / 2)=((j-1) / 2-1) / 2 by unfold sw;rw [aij zc,aij zc]]
 by_cases e1:i=j
 ·subst e1
  rw [show sw ((i-1) / 2) i i=(i-1) / 2 by unfold sw;rw [aik rfl]]
  exact a1
 have a2:=h.1 i i0 il e1
 rw [show sw ((j-1) / 2) j i=i by unfold sw;rw [aij e1,aij zc]]
 rw [ip] at a2
 omega
theorem DW {n:Nat} {l:List Int} {i:Nat} (h:Dj n l i) (h1:2*i+1<n->at_ l i<=at_ l (2*i+1)) (h2:2*i+2<n->at_ l i<=at_ l (2*i+2)):Hp n l:=by
 intro k k0 kn
 by_cases e:(k-1) / 2=i
 ·grind
 exact h.1 k k0 kn e
theorem Fj {n:Nat} {l:List Int} {i j:Nat} (h:Dj n l i) (hj:j=2*i+1\/j=2*i+2) (hjn:j<n) (hn:n<=l.length)
 (h1:at_ l j<=at_ l (2*i+1)) (h2:2*i+2<n->at_ l j<=at_ l (2*i+2)) (fP:at_ l j<at_ l i):Dj n (swp l i j) j:=by
 have hi:i<l.length:=zc
 have hjl:j<l.length:=zc
 refine⟨λk k0 kn kne=>?_,λk k0 kn ke j0=>?_⟩
 ·rw [o6 hi hjl,o6 hi hjl]
  by_cases e1:(k-1) / 2=i
  ·rw [e1,show sw i j i=j by unfold sw;rw [aij zc,aik rfl]]
   by_cases e2:k=j
   ·rw [e2,show sw i j j=i by unfold sw;rw [aik rfl]];omega
   rw [show sw i j k=k by unfold sw;rw [aij e2,aij zc]]
   grind
  rw [show sw i j ((k-1) / 2)=(k-1) / 2 by unfold sw;rw [aij kne,aij e1]]
  by_cases e2:k=i
  ·rw [e2,show sw i j i=j by unfold sw;rw [aij zc,aik rfl],←e2]
   have hjk:(j-1) / 2=i:=zc
   rw [e2]
   exact h.2 j zc hjn hjk zc
  rw [show sw i j k=k by unfold sw;rw [aij zc,aij e2]]
  exact h.1 k k0 kn e1
 rw [o6 hi hjl,o6 hi hjl]
 rw [show (j-1) / 2=i by omega,show sw i j i=j by unfold sw;rw [aij zc,aik rfl],show sw i j k=k by unfold sw;rw [aij zc,aij zc]]
 have:=h.1 k k0 kn zc
 rw [ke] at this
 exact this
theorem aP {n:Nat} {l:List Int} (h:Hp n l):∀k,k<n->at_ l 0<=at_ l k:=by
 intro k
 induction k using Nat.strongRecOn with
 |_ k ih=>
   intro hk
   rcases Nat.eq_zero_or_pos k with e|e
   ·rw [e];omega
   have a1:=ih ((k-1) / 2) zc zc
   have a2:=h k e hk
   omega
theorem Uu {n:Nat} {l:List Int} (h:Hp (n+1) l) (hl:l.length=n+1):Dj n (swp l 0 n) 0:=by
 refine⟨λk k0 kn kne=>?_,λk _ _ _ h0=>zc⟩
 rw [o6 zc zc,o6 zc zc]
 rw [show sw 0 n ((k-1) / 2)=(k-1) / 2 by unfold sw;rw [aij zc,aij kne],show sw 0 n k=k by unfold sw;rw [aij zc,aij zc]]
 exact h k k0 zc
theorem ZC {l:List Int} (h:Hp l.length l) (x:Int):Lp (l++[x]) l.length:=by
 have e:∀k,k<l.length->at_ (l++[x]) k=at_ l k:=λk hk=>by
  unfold at_
  grind
 refine⟨λi i0 il ine=>?_,λi i0 il ip=>?_⟩
 ·rw [ait,ajc] at il
  rw [e _ zc,e _ zc]
  exact h i i0 zc
 grind
theorem ac9 {l:List Int} {n:Nat} (hl:l.length=n+1) (hi:Fh l) (x:Int):x∈l.take n↔x∈l/\x≠at_ l n:=by
 constructor
 ·intro h
  refine⟨List.mem_of_mem_take h,?_⟩
  rintro rfl
  obtain⟨k,hk,e⟩:=aiY.1 h
  simp at hk e
  have:=hi k n zc zc (by simp [at_,List.getD_eq_getElem?_getD,show k<l.length by omega,e])
  omega
 rintro⟨h,cu⟩
 obtain⟨k,hk,e⟩:=AU.1 h
 have:k≠n:=by rintro rfl;exact cu e.symm
 refine aiY.2 ⟨k,by simp;omega,?_⟩
 simp only [at_,aiS,hk,aiy,Option.getD_some] at e
 simpa using e
theorem Gv {l:List Int} {n k:Nat} (hk:k<n):at_ (l.take n) k=at_ l k:=by simp [at_,List.getD_eq_getElem?_getD,hk]
theorem ada {l:List Int} {n:Nat} (h:Hp n l):Hp n (l.take n):=λi i0 hi=>by rw [Gv hi,Gv zc];exact h i i0 hi
theorem ZE {l:List Int} {n:Nat} (h:Fh l):Fh (l.take n):=λa b ha hb e=>by
 simp at ha hb
 rw [Gv zc,Gv zc] at e
 exact h a b zc zc e
end Go.Proofs.YtbnfiigafobejaaGreat.bF
end
namespace Go.Proofs.YtbnfiigafobejaaGreat
section
open Go.RowKit bF
def bH (l:List Int):List Value:=l.map (Value.int .i64)
theorem uE (g n c a b:Nat) (i j:Int) (hi:i=(a:Int)) (hj:j=(b:Int)) (x y:Int) (w:World) (ha:a<n) (hb:b<n) (ci:w.cell? ⟨g,a,none⟩=some (.int .i64 x)) (cj:w.cell? ⟨g,b,none⟩=some (.int .i64 y)) :
 Calls Tryz.prog 249 #[.slice (some ⟨g,0,none⟩) n c,.int .i64 i,.int .i64 j] w λe w'=>e=.returned (.bool (decide (x<y)))/\∃m,w'=w.drewN m:=by
 grind [Wu]
structure HW (t o g c base:Nat) (l:List Int) (w:World):Prop where
 cell:w.cell? ⟨t,o,none⟩=some (.slice (some ⟨g,0,none⟩) l.length c)
 own:w.ownsRow base 3 1 (.slice (some ⟨g,0,none⟩) l.length c) l.length (bH l)
 ne:t≠g
 lt:t<w.heap.size
theorem ZF {l:List Int} {k:Nat} (hk:k<l.length):(bH l)[k]?=some (.int .i64 (at_ l k)):=by
 simp [bH,at_,List.getD_eq_getElem?_getD,hk]
section hw
variable {t o g c base:Nat} {l:List Int} {w:World}
theorem HW.at (h:HW t o g c base l w) {k:Nat} (hk:k<l.length):w.cell? ⟨g,k,none⟩=some (.int .i64 (at_ l k)):=by
 rw [h.own.cellAt k zc]
 exact ZF hk
theorem HW.drewN (h:HW t o g c base l w) (m:Nat):HW t o g c base l (w.drewN m):=⟨h.cell,h.own,h.ne,h.lt⟩
theorem HW.swap (h:HW t o g c base l w) (i j:Nat) :
 HW t o g c base (swp l i j) ((w.setCell ⟨g,i,none⟩ (.int .i64 (at_ l j))).setCell ⟨g,j,none⟩ (.int .i64 (at_ l i))):=by
 have e1:bH (swp l i j)=((bH l).set i (.int .i64 (at_ l j))).set j (.int .i64 (at_ l i)):=by
  simp [bH,swp,List.map_set]
 refine⟨?_,?_,h.ne,by simpa [World.setCell] using h.lt⟩
 ·rw [rI,World.cell?_setCell_other _ _ _ _ (λe=>h.ne (by injection e with e;exact e.symm)),World.cell?_setCell_other _ _ _ _ (λe=>h.ne (by injection e with e;exact e.symm))]
  exact h.cell
 rw [rI,e1]
 exact ((h.own.stored i _).1.stored j _).1
end hw
theorem uF (t o g c base:Nat) (l:List Int) (a b:Nat) (i j:Int) (hi:i=(a:Int)) (hj:j=(b:Int)) (w:World) (h:HW t o g c base l w) (ha:a<l.length) (hb:b<l.length) (cu:a≠b) :
 Calls Tryz.prog 250 #[.slice (some ⟨g,0,none⟩) l.length c,.int .i64 i,.int .i64 j] w λe w'=>e=.returned (.tuple #[])/\HW t o g c base (swp l a b) w'/\cF (·=g) w w':=by
 subst hi hj
 refine (Wv g l.length c a b (at_ l a) (at_ l b) w ha hb cu (h.at ha) (h.at hb) (h.own.frozenAt a) (h.own.frozenAt b)).mono λe w' ⟨he,m,hw⟩=>⟨he,?_,?_⟩
 ·rw [hw];exact (h.swap a b).drewN m
 rw [hw];exact (((cF.refl (·=g) w).setCell (p:=⟨g,a,none⟩) (.inr rfl) _).setCell (p:=⟨g,b,none⟩) (.inr rfl) _).drewN m
structure Looks (a:Addr) (V:Value):Prop where
 less:∀w:World,w.cell? a=some V->(Go.method 410 284 (.pointer (some a)) "Less").run Tryz.prog w=.ok (249,V) w
 swap:∀w:World,w.cell? a=some V->(Go.method 410 284 (.pointer (some a)) "Swap").run Tryz.prog w=.ok (250,V) w
 len:∀w:World,w.cell? a=some V->(Go.method 410 284 (.pointer (some a)) "Len").run Tryz.prog w=.ok (248,V) w
theorem looks (a:Addr) (V:Value):Looks a V:=⟨aeh a V,aei a V,af4 a V⟩
theorem adb (t o g c base:Nat) (l:List Int) (j:Nat) (w:World) (h:HW t o g c base l w) (hj:j<l.length) (hu:Lp l j) (hm:l.length<=1048576) :
 Calls Tryz.prog 224 #[.iface 284 (.pointer (some ⟨t,o,none⟩)),.int .i64 j] w λe w'=>e=.returned (.tuple #[]) ∧
  ∃l',Same l l'/\Hp l'.length l'/\HW t o g c base l' w'/\cF (·=g) w w':=by
 have L:=looks ⟨t,o,none⟩ (.slice (some ⟨g,0,none⟩) l.length c)
 have nl:=Wt ⟨t,o,none⟩
 have ns:=Pr ⟨t,o,none⟩
 go_enter Tryz.func224,Tryz.ntmps224
 go_wp2_with fail
 go_loopw [1] (λv wr=>∃(j:Nat) (l':List Int),v=.int .i64 j/\j<l'.length/\Same l l'/\Lp l' j/\HW t o g c base l' wr/\cF (·=g) w wr) (λv _=>(intOf v).toNat)
 case atStart=>exact⟨j,l,rfl,hj,Same.refl l,hu,h,cF.refl _ _⟩
 case round=>
  obtain⟨j,l',rfl,hj',hs,hu',hw,hk⟩:=hrel
  have hc:=hw.cell
  rw [hs.len] at hc
  have LL:=L.less wr hc
  by_cases h0:j=0
  ·subst h0
   have HU:=Lib.hid hu'
   clear hu'
   go_wp2_with fail
   go_end0
   exact⟨rfl,l',hs,Wz HU.out (.inl rfl),hw,hk⟩
  have vA:1<=j:=zc
  have hj2:j<=1048576:=by have:=hs.len;omega
  have hi1:(j-1) / 2<l'.length:=zc
  have hjn:((((j:Int)-1) / 2) == (j:Int))=false:=by rw [beq_eq_false_iff_ne];omega
  have HU:=Lib.hid hu'
  clear hu'
  go_wp2_with fail
  refine (uE g l.length c j ((j-1) / 2) _ _ rfl zc (at_ l' j) (at_ l' ((j-1) / 2)) _ (by rw [←hs.len];exact hj') (by rw [←hs.len];exact hi1) (hw.at hj') (hw.at hi1)).mono ?_
  rintro e w1 ⟨rfl,m,rfl⟩
  have hw1:=hw.drewN m
  by_cases fP:at_ l' j<at_ l' ((j-1) / 2)
  ·have LS:=L.swap (wr.drewN m) hc
   go_wp2_with fail
   have HL:=Lib.hid hs.len
   have sw:=uF t o g c base l' ((j-1) / 2) j
   rw [hs.len] at sw
   refine (sw _ _ zc rfl _ hw1 (by have:=HL.out;omega) (by have:=HL.out;omega) zc).mono ?_
   rintro e w2 ⟨rfl,hw2,hk2⟩
   clear sw
   go_wp2_with fail
   go_roundw
   case rel=>exact⟨(j-1) / 2,_,by go_num,by rw [rI];exact hi1,hs.trans (Same.swp hi1 hj'),ac8 HU.out vA hj' fP,hw2,(hk.drewN m).trans hk2⟩
   case measure=>simp [intOf];omega
  have hnl:decide (at_ l' j<at_ l' ((j-1) / 2))=false:=by simpa using fP
  go_wp2_with fail
  go_end0
  exact⟨rfl,l',hs,Wz HU.out (.inr zc),hw1,hk.drewN m⟩
theorem Pu {l:List Int} {i j n k:Nat} (hi:i<l.length) (hj:j<l.length) (hin:i<n) (hjn:j<n) (hk:n<=k):at_ (swp l i j) k=at_ l k:=by
 grind [o6,sw]
theorem WA (t o g c base n:Nat) (l:List Int) (w:World) (h:HW t o g c base l w) (hn:n<=l.length) (hd:Dj n l 0) (hm:l.length<=1048576) :
 Calls Tryz.prog 225 #[.iface 284 (.pointer (some ⟨t,o,none⟩)),.int .i64 0,.int .i64 n] w λe w'=>(∃b,e=.returned (.bool b)) ∧
  ∃l',Same l l'/\Hp n l'/\(∀k,n<=k->at_ l' k=at_ l k)/\HW t o g c base l' w'/\cF (·=g) w w':=by
 have L:=looks ⟨t,o,none⟩ (.slice (some ⟨g,0,none⟩) l.length c)
 have nl:=Wt ⟨t,o,none⟩
 have ns:=Pr ⟨t,o,none⟩
 go_enter Tryz.func225,Tryz.ntmps225
 go_wp2_with fail
 go_loopw [7] (λv wr=>∃(i:Nat) (l':List Int),v=.int .i64 i/\i<=n/\Same l l'/\Dj n l' i/\Hid (∀k,n<=k->at_ l' k=at_ l k)/\HW t o g c base l' wr/\cF (·=g) w wr) (λv _=>n-(intOf v).toNat)
 case atStart=>exact⟨0,l,rfl,aio _,Same.refl l,hd,Lib.hid (λ_ _=>rfl),h,cF.refl _ _⟩
 case round=>
  obtain⟨i,l',rfl,hin,hs,hd',DX,hw,hk⟩:=hrel
  have hc:=hw.cell
  rw [hs.len] at hc
  have HL:=Lib.hid hs.len
  have hn1:n<=1048576:=zc
  have hnl:n<=l'.length:=by rw [HL.out];exact hn
  have HD:=Lib.hid hd'
  clear hd'
  by_cases h1:2*i+1<n
  ·have h1a:(2*(i:Int)+1)<(n:Int):=zc
   by_cases h2:2*i+2<n
   ·have h2a:(2*(i:Int)+1+1)<(n:Int):=zc
    have LL:=L.less wr hc
    go_wp2_with fail
    refine (uE g l.length c (2*i+2) (2*i+1) _ _ zc zc (at_ l' (2*i+2)) (at_ l' (2*i+1)) _ zc zc (hw.at zc) (hw.at zc)).mono ?_
    rintro e w1 ⟨rfl,m,rfl⟩
    have hw1:=hw.drewN m
    have hk1:=hk.drewN m
    have LL:=L.less (wr.drewN m) hc
    clear hw hk
    by_cases h3:at_ l' (2*i+2)<at_ l' (2*i+1)
    ·go_wp2_with fail
     refine (uE g l.length c (2*i+2) i _ _ zc zc (at_ l' (2*i+2)) (at_ l' i) _ zc zc (hw1.at zc) (hw1.at zc)).mono ?_
     rintro e w2 ⟨rfl,m2,rfl⟩
     have hw2:=hw1.drewN m2
     have hk2:=hk1.drewN m2
     rw [World.drewN_drewN] at hw2 hk2
     by_cases h4:at_ l' (2*i+2)<at_ l' i
     ·have LS:=L.swap _ (hw2.cell.trans (by rw [HL.out]))
      go_wp2_with fail
      have sw:=uF t o g c base l' i (2*i+2)
      rw [hs.len] at sw
      refine (sw _ _ rfl zc _ hw2 zc zc zc).mono ?_
      rintro e w3 ⟨rfl,hw3,hk3⟩
      clear sw
      go_wp2_with fail
      go_roundw
      case rel=>exact⟨2*i+2,_,by go_num,zc,hs.trans (Same.swp zc zc),Fj HD.out zc zc hnl zc (λ_=>zc) h4,Lib.hid (λk hk=>(Pu zc zc zc zc hk).trans (DX.out k hk)),hw3,hk2.trans hk3⟩
      case measure=>simp [intOf];omega
     have h4a:decide (at_ l' (2*i+2)<at_ l' i)=false:=by simpa using h4
     go_wp2_with fail
     go_ret
     exact⟨⟨_,rfl⟩,l',hs,DW HD.out (λ_=>zc) (λ_=>zc),DX.out,hw2,hk2⟩
    have h3a:decide (at_ l' (2*i+2)<at_ l' (2*i+1))=false:=by simpa using h3
    go_wp2_with fail
    refine (uE g l.length c (2*i+1) i _ _ zc zc (at_ l' (2*i+1)) (at_ l' i) _ zc zc (hw1.at zc) (hw1.at zc)).mono ?_
    rintro e w2 ⟨rfl,m2,rfl⟩
    have hw2:=hw1.drewN m2
    have hk2:=hk1.drewN m2
    rw [World.drewN_drewN] at hw2 hk2
    by_cases h4:at_ l' (2*i+1)<at_ l' i
    ·have LS:=L.swap _ (hw2.cell.trans (by rw [HL.out]))
     go_wp2_with fail
     have sw:=uF t o g c base l' i (2*i+1)
     rw [hs.len] at sw
     refine (sw _ _ rfl zc _ hw2 zc zc zc).mono ?_
     rintro e w3 ⟨rfl,hw3,hk3⟩
     clear sw
     go_wp2_with fail
     go_roundw
     case rel=>exact⟨2*i+1,_,by go_num,zc,hs.trans (Same.swp zc zc),Fj HD.out zc zc hnl zc (λ_=>zc) h4,Lib.hid (λk hk=>(Pu zc zc zc zc hk).trans (DX.out k hk)),hw3,hk2.trans hk3⟩
     case measure=>simp [intOf];omega
    have h4a:decide (at_ l' (2*i+1)<at_ l' i)=false:=by simpa using h4
    go_wp2_with fail
    go_ret
    exact⟨⟨_,rfl⟩,l',hs,DW HD.out (λ_=>zc) (λ_=>zc),DX.out,hw2,hk2⟩
   have h2a:decide ((2*(i:Int)+1+1)<(n:Int))=false:=by simp;omega
   have hw1:=hw
   have hk1:=hk
   have LL:=L.less wr hc
   clear hw hk
   go_wp2_with fail
   refine (uE g l.length c (2*i+1) i _ _ zc zc (at_ l' (2*i+1)) (at_ l' i) _ zc zc (hw1.at zc) (hw1.at zc)).mono ?_
   rintro e w2 ⟨rfl,m2,rfl⟩
   have hw2:=hw1.drewN m2
   have hk2:=hk1.drewN m2
   by_cases h4:at_ l' (2*i+1)<at_ l' i
   ·have LS:=L.swap _ (hw2.cell.trans (by rw [HL.out]))
    go_wp2_with fail
    have sw:=uF t o g c base l' i (2*i+1)
    rw [hs.len] at sw
    refine (sw _ _ rfl zc _ hw2 zc zc zc).mono ?_
    rintro e w3 ⟨rfl,hw3,hk3⟩
    clear sw
    go_wp2_with fail
    go_roundw
    case rel=>exact⟨2*i+1,_,by go_num,zc,hs.trans (Same.swp zc zc),Fj HD.out zc zc hnl zc (λ_=>zc) h4,Lib.hid (λk hk=>(Pu zc zc zc zc hk).trans (DX.out k hk)),hw3,hk2.trans hk3⟩
    case measure=>simp [intOf];omega
   have h4a:decide (at_ l' (2*i+1)<at_ l' i)=false:=by simpa using h4
   go_wp2_with fail
   go_ret
   exact⟨⟨_,rfl⟩,l',hs,DW HD.out (λ_=>zc) (λ_=>zc),DX.out,hw2,hk2⟩
  have h1a:((n:Int)<=2*(i:Int)+1):=zc
  go_wp2_with fail
  go_ret
  exact⟨⟨_,rfl⟩,l',hs,DW HD.out (λh=>ain h h1) (λh=>ain h (by omega)),DX.out,hw,hk⟩
theorem Lr (g n c i:Nat) (x:Int) (w:World) (hi:i<n) (ci:w.cell? ⟨g,i,none⟩=some (.int .i64 x)) (fi:w.frozen? ⟨g,i,none⟩=false) :
 Calls Tryz.prog 250 #[.slice (some ⟨g,0,none⟩) n c,.int .i64 i,.int .i64 i] w λe w'=>e=.returned (.tuple #[])/\∃m,w'=((w.setCell ⟨g,i,none⟩ (.int .i64 x)).setCell ⟨g,i,none⟩ (.int .i64 x)).drewN m:=by
 have hi':(i:Int)<(n:Int):=zc
 go_enter Tryz.func250,Tryz.ntmps250
 go_wp2_with fail
 go_region
 go_end0
 exact⟨rfl,1,rfl⟩
theorem Ls (t o g c base n:Nat) (l:List Int) (hl:l.length=n+1) (j:Int) (hj:j=(n:Int)) (w:World) (h:HW t o g c base l w) :
 Calls Tryz.prog 250 #[.slice (some ⟨g,0,none⟩) (n+1) c,.int .i64 0,.int .i64 j] w λe w'=>e=.returned (.tuple #[])/\HW t o g c base (swp l 0 n) w'/\cF (·=g) w w':=by
 subst hj
 by_cases h0:n=0
 ·subst h0
  have:=Lr g 1 c 0 (at_ l 0) w zc (h.at zc) (h.own.frozenAt 0)
  refine this.mono λe w' ⟨he,m,hw⟩=>⟨he,?_,?_⟩
  ·rw [hw];exact (h.swap 0 0).drewN m
  rw [hw];exact (((cF.refl (·=g) w).setCell (p:=⟨g,0,none⟩) (.inr rfl) _).setCell (p:=⟨g,0,none⟩) (.inr rfl) _).drewN m
 grind [uF]
theorem HW.pop {t o g c base n:Nat} {l:List Int} {w:World} (h:HW t o g c base l w) (hl:l.length=n+1):w.ownsRow base 3 1 (.slice (some ⟨g,0,none⟩) n c) n (bH (l.take n)):=by
 have e:bH l=bH (l.take n)++bH (l.drop n):=by simp only [bH,←ai1,List.take_append_drop]
 have h1:=h.own
 rw [e,hl] at h1
 exact ownsRow_pop (by simp [bH];omega) h1
theorem HW.cap {t o g c base:Nat} {l:List Int} {w:World} (h:HW t o g c base l w):l.length<=c:=by
 rcases h.own.2 with ⟨e,_⟩|⟨g',cap,cur,e,_,_,r,_⟩
 all_goals grind
theorem ZG (t o g c base n:Nat) (l:List Int) (w:World) (h:HW t o g c base l w) (hl:l.length=n+1) (hp:Hp (n+1) l) (hi:Fh l) (hm:n+1<=1048576) (hf:w.frozen? ⟨t,o,none⟩=false) :
 Calls Tryz.prog 223 #[.iface 284 (.pointer (some ⟨t,o,none⟩))] w λe w'=>e=.returned (.iface 3 (.int .i64 (at_ l 0))) ∧
  ∃l' w1,l'.length=n/\Hp n l'/\Fh l'/\(∀x,x∈l'↔x∈l/\x≠at_ l 0)/\w1.ownsRow base 3 1 (.slice (some ⟨g,0,none⟩) n c) n (bH l')/\cF (·=g) w w1 ∧
    w'=w1.setCell ⟨t,o,none⟩ (.slice (some ⟨g,0,none⟩) n c):=by
 have L:=looks ⟨t,o,none⟩ (.slice (some ⟨g,0,none⟩) l.length c)
 have nn:=ab4 ⟨t,o,none⟩
 have ns:=Pr ⟨t,o,none⟩
 have np:=af6 ⟨t,o,none⟩
 have mp:=af5 ⟨t,o,none⟩
 have LN:=L.len w h.cell
 have LS:=L.swap w h.cell
 have HL:=Lib.hid hl
 rw [hl] at LN LS
 clear hl
 go_enter Tryz.func223,Tryz.ntmps223
 go_wp2_with fail
 refine (Pt _ _ _ _).mono ?_
 rintro e w0 ⟨rfl,rfl⟩
 go_wp2_with fail
 refine (Ls t o g c base n l HL.out _ zc _ h).mono ?_
 rintro e w1 ⟨rfl,hw1,hk1⟩
 go_wp2_with fail
 have hd:=WA t o g c base n (swp l 0 n) w1 hw1 (by rw [rI,HL.out];omega) (Uu hp HL.out) (by rw [rI,HL.out];exact hm)
 refine (hd.mono ?_)
 rintro e w2 ⟨⟨bb,rfl⟩,l',hs,cR,DX,hw2,hk2⟩
 clear hd
 have jD:l'.length=n+1:=by rw [hs.len,rI,HL.out]
 have hcell:=hw2.cell
 rw [jD] at hcell
 have hcap:=hw2.cap
 have htlt:=h.lt
 have hf2:w2.frozen? ⟨t,o,none⟩=false:=by
  rw [(hk1.trans hk2).frozen (p:=⟨t,o,none⟩) htlt h.ne]
  exact hf
 have hlast:at_ l' n=at_ l 0:=by
  rw [DX n (aiu _),o6 (by rw [HL.out];omega) (by rw [HL.out];omega)]
  simp [sw]
 have hx:=hw2.at (k:=n) zc
 rw [hlast] at hx
 have Uv:=Lib.hid jD
 have af7:=Lib.hid hlast
 clear jD hlast
 go_wp2_with fail
 refine (ZB t o g n c (at_ l 0) w2 (by have:=Uv.out;omega) hcell hf2 hx hm).mono ?_
 rintro e w3 ⟨rfl,rfl⟩
 go_wp2_with fail
 go_ret
 have sm:=(Same.swp (l:=l) (i:=0) (j:=n) (by rw [HL.out];omega) (by rw [HL.out];omega)).trans hs
 refine⟨rfl,l'.take n,w2,by simp [Uv.out],ada cR,ZE (sm.inj hi),λx=>?_,hw2.pop Uv.out,hk1.trans hk2,rfl⟩
 rw [ac9 Uv.out (sm.inj hi),sm.mem,af7.out]
theorem He (l:List Int) (x:Int):bH l++[.int .i64 x]=bH (l++[x]):=by simp [bH]
theorem WB (t o base:Nat) (v:Value) (l:List Int) (x:Int) (w:World) (ht:w.cell? ⟨t,o,none⟩=some v) (hf:w.frozen? ⟨t,o,none⟩=false) (kQ:w.ownsRow base 3 1 v l.length (bH l))
 (cu:v.ownBlock≠some t) (hm:l.length+1<=1048576) (hbase:base<=w.heap.size) (hp:Hp l.length l) (htl:t<w.heap.size) :
 Calls Tryz.prog 221 #[.iface 284 (.pointer (some ⟨t,o,none⟩)),.iface 3 (.int .i64 x)] w λe w'=>e=.returned (.tuple #[]) ∧
  ∃g c l',Same (l++[x]) l'/\Hp l'.length l'/\HW t o g c base l' w'/\(v.ownBlock=some g\/w.heap.size<=g) ∧
    ∃w1,cF (λk=>v.ownBlock=some k) w w1/\cF (·=g) (w1.setCell ⟨t,o,none⟩ (.slice (some ⟨g,0,none⟩) (l.length+1) c)) w':=by
 have nn:=ab4 ⟨t,o,none⟩
 have np:=aek ⟨t,o,none⟩
 have mp:=aej ⟨t,o,none⟩
 go_enter Tryz.func221,Tryz.ntmps221
 go_wp2_with fail
 refine (Wy t o base l.length v (bH l) x w ht hf kQ cu hm hbase).mono ?_
 rintro e w0 ⟨rfl,g,c,w1,hown1,hg1,Us,rfl⟩
 have hk1:cF (λk=>v.ownBlock=some k) w w1:=(cF.refl _ _).grown hg1 (λk hk=>.inr hk)
 have hgt:t≠g:=by
  rintro rfl
  rcases Us with h|h
  ·exact cu h
  omega
 have ht1:w1.cell? ⟨t,o,none⟩=some v:=(hk1.cell (p:=⟨t,o,none⟩) htl cu).trans ht
 have HW1:HW t o g c base (l++[x]) (w1.setCell ⟨t,o,none⟩ (.slice (some ⟨g,0,none⟩) (l.length+1) c)):=by
  refine⟨?_,?_,hgt,by simpa [World.setCell] using aiG htl hk1.size⟩
  ·rw [World.cell?_setCell_same _ _ _ ht1];simp
  rw [ait,ajc,←He]
  refine cF.ownsRow (S:=(·=t)) ((cF.refl (·=t) w1).setCell (p:=⟨t,o,none⟩) (.inr rfl) _) hown1 ?_
  intro k hk e
  simp [Value.ownBlock] at hk
  omega
 have hc:=HW1.cell
 rw [ait,ajc] at hc
 generalize hW:w1.setCell ⟨t,o,none⟩ (.slice (some ⟨g,0,none⟩) (l.length+1) c)=w2 at *
 have LN:=(looks ⟨t,o,none⟩ (.slice (some ⟨g,0,none⟩) (l.length+1) c)).len w2 hc
 have HWe:=Lib.hid hW
 clear hW ht1 hown1 kQ hg1
 go_wp2_with fail
 refine (Pt _ _ _ _).mono ?_
 rintro e w3 ⟨rfl,rfl⟩
 go_wp2_with fail
 have hu:=adb t o g c base (l++[x]) l.length w3 HW1 aii (ZC hp x) (by simpa using hm)
 refine hu.mono ?_
 rintro e w4 ⟨rfl,l',hs,cR,hw4,hk4⟩
 go_wp2_with fail
 go_end0
 exact⟨rfl,g,c,l',hs,cR,hw4,Us,w1,hk1,by rw [HWe.out];exact hk4⟩
end
end Go.Proofs.YtbnfiigafobejaaGreat
section
namespace Go.Proofs.YtbnfiigafobejaaGreat.aD
open bF
variable {V U:Type}
abbrev bC (V:Type):=List (Int×V)
def aY (us:bC V):List Int:=us.map (·.1)
def get (us:bC V) (h:Int):Option V:=(us.find? (λp=>p.1 == h)).map (·.2)
def dH:List Int->Prop:=List.Pairwise (· < ·)
def mq:Int->List Int->Int
 |h,[]=>h
 |h,k::r=>if k=h then mq (h+1) r else h
def aP (us:bC V):Int:=mq 1 (aY us)
def ins (h:Int) (v:V):bC V->bC V
 |[]=>[(h,v)]
 |p::r=>if h<p.1 then (h,v)::p::r else p::ins h v r
def del (h:Int) (us:bC V):bC V:=us.filter (λp=>p.1 != h)
def ahX (h:Int) (v:V) (us:bC V):bC V:=us.map (λp=>if p.1 == h then (h,v) else p)
structure TI (next:Int) (l:List Int) (us:bC V):Prop where
 fD:dH (aY us)
 pos:∀h∈aY us,1<=h/\h<next
 back:∀h∈l,1<=h/\h<next/\h∉aY us
 all:∀h,1<=h->h<next->h∈aY us\/h∈l
 count:(us.length:Int)+l.length=next-1
 heap:Hp l.length l
 inj:Fh l
theorem keys_cons (p:Int×V) (us:bC V):aY (p::us)=p.1::aY us:=rfl
theorem keys_map (f:V->U) (us:bC V):aY (us.map λp=>(p.1,f p.2))=aY us:=by simp [aY]
theorem get_none {us:bC V} {h:Int}:get us h=none↔h∉aY us:=by
 unfold get aY
 rw [Option.map_eq_none_iff,List.find?_eq_none]
 grind
theorem get_some {us:bC V} {h:Int} {v:V} (e:get us h=some v):h∈aY us:=by
 apply aiI
 intro hn
 rw [get_none.2 hn] at e;cases e
theorem get_map (f:V->U) (us:bC V) (h:Int):get (us.map λp=>(p.1,f p.2)) h=(get us h).map f:=by
 unfold get
 rw [List.find?_map]
 simp only [Function.comp_def,Option.map_map]
theorem sC (h:Int) (v:V) (us:bC V) (x:Int):x∈aY (ins h v us)↔x=h\/x∈aY us:=by
 induction us with
 |nil=>simp [ins,aY]
 |cons p r ih=>
   unfold ins
   split
   ·simp [aY]
   rw [keys_cons,keys_cons,aiA,aiA,ih]
   grind
theorem AV {h:Int} {v:V} {us:bC V} (hr:dH (aY us)) (hn:h∉aY us):dH (aY (ins h v us)):=by
 induction us with
 |nil=>simp [ins,aY,dH]
 |cons p r ih=>
   unfold dH at *
   rw [keys_cons,aiB] at hr
   rw [keys_cons,aiA,not_or] at hn
   unfold ins
   split
   ·rename_i fP
    rw [keys_cons,keys_cons,aiB,aiB]
    grind
   rename_i fP
   rw [keys_cons,aiB]
   refine⟨λx hx=>?_,ih hr.2 hn.2⟩
   rcases (sC h v r x).1 hx with e|e
   ·rw [e];have:=hn.1;omega
   exact hr.1 x e
theorem wZ {h:Int} {v:V} {us:bC V} (hn:h∉aY us) (x:Int):get (ins h v us) x=if x=h then some v else get us x:=by
 induction us with
 |nil=>
   by_cases e:x=h
   ·subst e;simp [ins,get]
   simp [ins,get,e,Ne.symm e]
 |cons p r ih=>
   rw [keys_cons,aiA,not_or] at hn
   unfold ins
   grind [get]
theorem lV (h:Int) (v:V) (us:bC V):(ins h v us).length=us.length+1:=by
 induction us with
 |nil=>rfl
 |cons p r ih=>unfold ins;split<;>simp [ih]
theorem Pv {h:Int} {v:V} {us:bC V} (hl:∀x∈aY us,x<h):ins h v us=us++[(h,v)]:=by
 induction us with
 |nil=>rfl
 |cons p r ih=>
   rw [keys_cons] at hl
   have h1:=hl p.1 aii
   unfold ins
   grind
theorem Lu (f:V->U) (h:Int) (v:V) (us:bC V):(ins h v us).map (λp=>(p.1,f p.2))=ins h (f v) (us.map λp=>(p.1,f p.2)):=by
 induction us with
 |nil=>rfl
 |cons p r ih=>unfold ins;simp only [aiP];split<;>simp_all
theorem Lv (f:V->U) (h:Int) (us:bC V):(del h us).map (λp=>(p.1,f p.2))=del h (us.map λp=>(p.1,f p.2)):=by
 unfold del;rw [List.filter_map];rfl
theorem vl (h:Int) (us:bC V):aY (del h us)=(aY us).filter (· != h):=by
 unfold aY del;rw [List.filter_map];rfl
theorem zW (h:Int) (us:bC V) (x:Int):get (del h us) x=if x=h then none else get us x:=by
 by_cases e:x=h
 ·subst e
  rw [aik rfl,get_none,vl]
  simp
 rw [aij e]
 unfold get del
 grind
theorem xg {h:Int} {us:bC V} (hr:dH (aY us)) (hm:h∈aY us):(del h us).length+1=us.length:=by
 induction us with
 |nil=>simp [aY] at hm
 |cons p r ih=>
   unfold dH at *
   rw [keys_cons,aiB] at hr
   unfold del at ih ⊢
   rw [List.filter_cons]
   by_cases e:p.1=h
   ·have:r.filter (λq=>q.1 != h)=r:=by
     rw [List.filter_eq_self]
     intro q hq
     have:=hr.1 q.1 (List.mem_map_of_mem hq)
     simp;omega
    simp [e,this]
   rw [keys_cons,aiA] at hm
   grind
theorem rJ:∀(ks:List Int) (h:Int),dH ks->(∀x∈ks,h<=x)->h<=mq h ks/\mq h ks∉ks/\∀x,h<=x->x<mq h ks->x∈ks
 |[],h,_,_=>⟨Int.le_refl _,by simp [mq],λx h1 h2=>by simp [mq] at h2;omega⟩
 |k::r,h,hr,hge=>by
   unfold dH at hr
   rw [aiB] at hr
   unfold mq
   by_cases e:k=h
   ·rw [aik e]
    obtain⟨i1,i2,i3⟩:=rJ r (h+1) hr.2 (λx hx=>by have:=hr.1 x hx;omega)
    refine⟨zc,?_,λx h1 h2=>?_⟩
    ·rw [aiA,not_or];exact⟨zc,i2⟩
    by_cases e2:x=h
    ·rw [e2,←e];simp
    exact aiv _ (i3 x zc h2)
   rw [aij e]
   refine⟨Int.le_refl _,?_,λx h1 h2=>zc⟩
   rw [aiA,not_or]
   refine⟨Ne.symm e,λhm=>?_⟩
   have h1:=hr.1 h hm
   have h2:=hge k aii
   omega
theorem Fk {us:bC V} (hr:dH (aY us)) (hp:∀x∈aY us,1<=x) {h:Int} (h1:1<=h) (hn:h∉aY us) (jW:∀x,1<=x->x<h->x∈aY us):aP us=h:=by
 obtain⟨i1,i2,i3⟩:=rJ (aY us) 1 hr hp
 grind [aP]
theorem TI.empty:TI 1 [] ([]:bC V):=
 ⟨List.Pairwise.nil,by simp [aY],aii,λh h1 h2=>zc,rfl,λi h1 h2=>by simp at h2,λa b h1=>by simp at h1⟩
theorem TI.JT {next:Int} {us:bC V} (h:TI next [] us):aP us=next:=by
 have hc:=h.count
 simp at hc
 refine Fk h.fD (λx hx=>(h.pos x hx).1) zc (λhm=>?_) (λx h1 h2=>(h.all x h1 h2).resolve_right aii)
 have:=(h.pos _ hm).2;omega
theorem TI.ZH {next:Int} {us:bC V} (h:TI next [] us) (v:V):TI (next+1) [] (ins next v us):=by
 have hc:=h.count
 simp at hc
 have hn:next∉aY us:=λhm=>by have:=(h.pos _ hm).2;omega
 refine⟨AV h.fD hn,λx hx=>?_,aii,λx h1 h2=>?_,by rw [lV];simp;omega,λi h1 h2=>by simp at h2,λa b h1=>by simp at h1⟩
 ·rcases (sC next v us x).1 hx with e|e
  ·omega
  have:=h.pos x e;omega
 by_cases e:x=next
 ·exact .inl ((sC next v us x).2 (.inl e))
 exact .inl ((sC next v us x).2 (.inr ((h.all x h1 zc).resolve_right aii)))
theorem TI.JU {next:Int} {l:List Int} {us:bC V} (h:TI next l us) (hl:0<l.length):aP us=at_ l 0:=by
 have hm:at_ l 0∈l:=AU.2 ⟨0,hl,rfl⟩
 obtain⟨b1,b2,b3⟩:=h.back _ hm
 refine Fk h.fD (λx hx=>(h.pos x hx).1) b1 b3 (λx h1 h2=>(h.all x h1 zc).resolve_right (λhx=>?_))
 obtain⟨k,hk,e⟩:=AU.1 hx
 have:=bF.aP h.heap k hk
 omega
theorem TI.ZI {next:Int} {l l':List Int} {us:bC V} (h:TI next l us) (hl:0<l.length) (v:V) (jD:l'.length+1=l.length) (hp:Hp l'.length l') (hi:Fh l') (hm:∀x,x∈l'↔x∈l/\x≠at_ l 0) :
 TI next l' (ins (at_ l 0) v us):=by
 have h0:at_ l 0∈l:=AU.2 ⟨0,hl,rfl⟩
 obtain⟨b1,b2,b3⟩:=h.back _ h0
 have hc:=h.count
 refine⟨AV h.fD b3,λx hx=>?_,λx hx=>?_,λx h1 h2=>?_,by rw [lV];push_cast;omega,hp,hi⟩
 ·rcases (sC _ v us x).1 hx with e|e
  ·omega
  exact h.pos x e
 ·have hx':=(hm x).1 hx
  have:=h.back x hx'.1
  refine⟨this.1,this.2.1,λhk=>?_⟩
  rcases (sC _ v us x).1 hk with e|e
  ·exact hx'.2 e
  exact this.2.2 e
 by_cases e:x=at_ l 0
 ·exact .inl ((sC _ v us x).2 (.inl e))
 rcases h.all x h1 h2 with h3|h3
 ·exact .inl ((sC _ v us x).2 (.inr h3))
 exact .inr ((hm x).2 ⟨h3,e⟩)
theorem TI.drop {next h0:Int} {l l':List Int} {us:bC V} (h:TI next l us) (hm:h0∈aY us) (hs:Same (l++[h0]) l') (hp:Hp l'.length l'):TI next l' (del h0 us):=by
 obtain⟨p1,p2⟩:=h.pos _ hm
 have hn:h0∉l:=λhx=>(h.back _ hx).2.2 hm
 have jD:=hs.len
 rw [ait,ajc] at jD
 have hc:=h.count
 have hd:=xg h.fD hm
 refine⟨?_,λx hx=>?_,λx hx=>?_,λx h1 h2=>?_,zc,hp,hs.inj ?_⟩
 ·rw [vl];exact ajk _ h.fD
 ·rw [vl,List.mem_filter] at hx
  exact h.pos x hx.1
 ·rw [hs.mem,aiL,ai3] at hx
  rw [vl,List.mem_filter]
  rcases hx with hx|hx
  ·have:=h.back x hx
   exact⟨this.1,this.2.1,λhk=>this.2.2 hk.1⟩
  grind
 ·rw [vl,List.mem_filter,hs.mem,aiL,ai3]
  rcases h.all x h1 h2 with h3|h3
  all_goals grind
 intro a b ha hb e
 rw [ait,ajc] at ha hb
 have g:∀k,k<l.length->at_ (l++[h0]) k=at_ l k:=λk hk=>by
  grind [at_]
 have g2:at_ (l++[h0]) l.length=h0:=by grind [at_]
 have inl:∀k,k<l.length->at_ l k≠h0:=by grind [AU]
 by_cases ha':a<l.length
 ·by_cases hb':b<l.length
  ·rw [g a ha',g b hb'] at e;exact h.inj a b ha' hb' e
  grind
 grind
end Go.Proofs.YtbnfiigafobejaaGreat.aD
end
namespace Go.Proofs.YtbnfiigafobejaaGreat
section
open Go.RowKit bF aD Go.Maps
def cQ (us:bC Value):Lit->Option Value
 |.int .i64 h=>aD.get us h
 |_=>none
theorem Lw {us:bC Value} {h:Int} (hn:h∉aY us) (v:Value):qA (cQ us) (.int .i64 h) (some v)=cQ (ins h v us):=by
 funext x
 unfold qA cQ
 cases x with
 |int k n=>
   by_cases hk:k=.i64
   ·subst hk
    simp only [Lit.sameKey,true_and,decide_eq_true_eq]
    rw [wZ hn]
   have e:(Lit.int k n).sameKey (.int .i64 h)=false:=by simp [Lit.sameKey,hk]
   grind
 |_=>rfl
theorem SZ {us:bC Value} {h:Int}:qA (cQ us) (.int .i64 h) none=cQ (del h us):=by
 funext x
 unfold qA cQ
 cases x with
 |int k n=>
   by_cases hk:k=.i64
   ·subst hk
    simp only [Lit.sameKey,true_and,decide_eq_true_eq]
    rw [zW]
   grind
 |_=>rfl
structure agR (TT:TypeId) (t m base:Nat) (v:Value) (l:List Int) (next most aI:Int) (us:bC Value) (w:World):Prop where
 ax:w.heap[t]?=some (.cells #[.int .i64 most,.int .i64 aI,.map (some m),v,.int .i64 next] TT (0,0))
 map:kI Tryz.prog 3 w m (cQ us) us.length
 own:w.ownsRow base 3 1 v l.length (bH l)
 ti:TI next l us
 zB:(us.length:Int)<=most
 zD:most<=1024
 zE:next<=most+1
 tt:TT≠3
 bt:base<=t
 bm:base<=m
 BV:0<=aI/\aI<=1024
def Tab (TT:TypeId) (t m base:Nat) (row:Option Nat) (most aI:Int) (us:bC Value) (w:World):Prop:=
 ∃v l next,agR TT t m base v l next most aI us w/\v.ownBlock=row
section tab
variable {TT:TypeId} {t m base:Nat} {v:Value} {l:List Int} {next most aI:Int} {us:bC Value} {w w':World} {row:Option Nat}
end tab
theorem aU.ofB {P:Program} {β:Bs} {f:FuncId} {args:Array Value} {pre:List HP} {post:Value->List HP->Prop}
 (h:∀F w,(Proofs.YtbnfiigafobejaaGreat.ko pre).h F w->Calls P f args w λe w'=>∃v l,e=.returned v/\post v l/\∃F',(Proofs.YtbnfiigafobejaaGreat.ko l).h F' w'/\Step F w F' w'):aU P β f args pre post:=by
 intro R w hS
 have h1:aR β ([.abs (Proofs.YtbnfiigafobejaaGreat.ko pre)]++[.abs R]) w:=aR.turn (aR.turn hS).ko
 have h2:aU P β f args [.abs (Proofs.YtbnfiigafobejaaGreat.ko pre)] (λv l=>∃l0,post v l0/\l=[.abs (Proofs.YtbnfiigafobejaaGreat.ko l0)]):=
  aU.of1 (λF w hF=>(h F w hF).mono λ_ _ ⟨v,l,e,hp,hF'⟩=>⟨v,.abs (Proofs.YtbnfiigafobejaaGreat.ko l),e,⟨l,hp,rfl⟩,hF'⟩)
 refine (h2 R w h1).mono ?_
 rintro e w' ⟨v,l,he,⟨l0,hp,rfl⟩,zn⟩
 exact⟨v,l0,he,hp,aR.turn (aR.turn zn).x9⟩
theorem Oo {p q:HP} {F:Fp} {w:World}:(ko [p,q]).h F w↔∃F1 F2,p.h F1 w/\q.h F2 w/\Apart F1 F2/\∀k,F k↔F1 k\/F2 k:=by
 constructor
 ·rintro⟨φ,h1,h2,h3⟩
  refine⟨φ 0,φ 1,h1 0 p rfl,h1 1 q rfl,h2 0 1 aii aii Pd,λk=>(h3 k).trans ⟨λ⟨i,hi,hk⟩=>?_,λh=>?_⟩⟩
  all_goals grind
 rintro⟨F1,F2,h1,h2,h3,h4⟩
 refine⟨λi=>if i=0 then F1 else F2,λi x hx=>?_,λi j hi hj cu=>?_,λk=>(h4 k).trans ⟨λh=>?_,λ⟨i,hi,hk⟩=>?_⟩⟩
 ·grind
 ·grind [ko,Apart]
 ·rcases h with h|h
  ·exact⟨0,aii,h⟩
  exact⟨1,aii,h⟩
 grind
theorem aR.af8 {β:Bs} {l:List HP} {w:World} {A:d9} {ι:Type} {Φ:ι->Prop} {L:ι->List HP} (h:aR β (l++[.abs A]) w) (hA:∀F,A.h F w->∃i,Φ i/\(Proofs.YtbnfiigafobejaaGreat.ko (L i)).h F w):∃i,Φ i/\aR β (l++L i) w:=by
 obtain⟨F,hF⟩:=h.get (i:=l.length) (p:=.abs A) aii
 have h0:=h
 obtain⟨ho,φ,h1,h2,h3⟩:=h
 obtain⟨i,hi,hB⟩:=hA _ (h1 l.length (.abs A) aii)
 refine⟨i,hi,aR.x9 ⟨ho,φ,λj p hp=>?_,λj hj=>h2 j (by simpa using hj),λa b ha hb=>h3 a b (by simpa using ha) (by simpa using hb)⟩⟩
 by_cases e:j<l.length
 ·grind
 have hj:j=l.length:=by have:=dO hp;simp at this;omega
 subst hj
 simp at hp
 subst hp
 exact hB
theorem aR.ael {β:Bs} {l R:List HP} {w:World} {A:d9} (h:aR β (l++R) w) (hA:∀F,(Proofs.YtbnfiigafobejaaGreat.ko R).h F w->A.h F w):aR β (l++[.abs A]) w:=by
 obtain⟨ho,φ,h1,h2,h3⟩:=h.ko
 refine⟨ho,φ,λj p hp=>?_,λj hj=>h2 j (by simpa using hj),λa b ha hb=>h3 a b (by simpa using ha) (by simpa using hb)⟩
 by_cases e:j<l.length
 ·grind
 have hj:j=l.length:=by have:=dO hp;simp at this;omega
 subst hj
 simp at hp
 subst hp
 exact hA _ (h1 l.length (.abs (Proofs.YtbnfiigafobejaaGreat.ko R)) aii)
section rules
variable {P:Program} {β:Bs} {N:fL} {ops:Array Oper} {k:Nat} {fr:Fr} {au:List HP} {Q:Post} {c:Code} {e:Exit}
theorem ak.Iz {ι:Type} {Φ:ι->Prop} {hp:ι->List HP} (h:∀w,aR β au w->∃i,Φ i/\aR β (hp i) w) (K:∀i,Φ i->ak P β N c fr (hp i) Q):ak P β N c fr au Q:=λai w hS=>let ⟨i,hi,iA⟩:=h w hS;K i hi ai w iA
end rules
theorem ED {w:World} {t j:Nat} {cs:List Value} {T:TypeId} {u:Value} (h:w.heap[t]?=some (.cells ⟨cs⟩ T (0,0))):(w.setCell ⟨t,j,none⟩ u).heap[t]?=some (.cells ⟨cs.set j u⟩ T (0,0)):=by
 simp [World.setCell,Array.getElem?_modify,h,Array.setIfInBounds_def]
 exact λh=>(List.set_eq_of_length_le h).symm
theorem aem {β:Bs} {T:TypeId} {a b c e:Value} {t g cap n:Nat} {l:List Int} (hl:l.length=n+1) (hp:Hp (n+1) l) (hi:Fh l) (hm:n+1<=1048576) :
 aU Tryz.prog β 223 #[.iface 284 (.pointer (some ⟨t,3,none⟩))] [.ax t [a,b,c,.slice (some ⟨g,0,none⟩) l.length cap,e] T,.abs (aF 3 1 (some ⟨g,0,none⟩) l.length cap (bH l))]
  (λv r=>v=.iface 3 (.int .i64 (at_ l 0))/\∃l':List Int,l'.length=n/\Hp n l'/\Fh l'/\(∀x,x∈l'↔x∈l/\x≠at_ l 0)/\r=[.ax t [a,b,c,.slice (some ⟨g,0,none⟩) n cap,e] T,.abs (aF 3 1 (some ⟨g,0,none⟩) n cap (bH l'))]):=by
 refine aU.ofB (λF w h=>?_)
 obtain⟨F1,F2,⟨h1,h2⟩,hr,hap,hF⟩:=Oo.1 h
 have hr:(aF 3 1 (some ⟨g,0,none⟩) l.length cap (bH l)).h F2 w:=hr
 obtain⟨hr1,hr2⟩:=hr
 have hg:F2 g:=(hr2 g).2 rfl
 have cu:t≠g:=λe=>hap t ((h2 t).2 rfl) (e ▸ hg)
 have hc:w.cell? ⟨t,3,none⟩=some (.slice (some ⟨g,0,none⟩) l.length cap)/\w.frozen? ⟨t,3,none⟩=false:=lQ h1 rfl rfl rfl
 have hW:HW t 3 g cap 0 l w:=⟨hc.1,hr1,cu,lt_of_some h1⟩
 refine (ZG t 3 g cap 0 n l w hW hl hp hi hm hc.2).mono ?_
 rintro e' w' ⟨rfl,l',w1,g1,g2,g3,g4,g5,g6,rfl⟩
 have h1':w1.heap[t]?=some (.cells ⟨[a,b,c,.slice (some ⟨g,0,none⟩) l.length cap,e]⟩ T (0,0)):=(g6.block t (lt_of_some h1) (λe=>cu e)).trans h1
 have hks:cF (·=t) w1 (w1.setCell ⟨t,3,none⟩ (.slice (some ⟨g,0,none⟩) n cap)):=(cF.refl (·=t) w1).setCell (p:=⟨t,3,none⟩) (.inr rfl) _
 refine⟨_,_,rfl,⟨rfl,l',g1,g2,g3,g4,rfl⟩,F,Oo.2 ⟨F1,F2,⟨ED h1',h2⟩,⟨hks.ownsRow g5 (λk hk e=>?_),λk=>?_⟩,hap,hF⟩,⟨((g6.mono (S':=F) (λk _ e=>(hF k).2 (.inr (e ▸ hg)))).trans (hks.mono (λk _ e=>(hF k).2 (.inl ((h2 k).2 e))))),λ_ h=>.inl h⟩⟩
 ·cases hk;exact cu e.symm
 rw [hr2 k];simp [Value.ownBlock]
theorem ade {β:Bs} {T:TypeId} {a b c e:Value} {t cap:Nat} {A:Option Addr} {l:List Int} (x:Int) (hp:Hp l.length l) (hm:l.length+1<=1048576) :
 aU Tryz.prog β 221 #[.iface 284 (.pointer (some ⟨t,3,none⟩)),.iface 3 (.int .i64 x)] [.ax t [a,b,c,.slice A l.length cap,e] T,.abs (aF 3 1 A l.length cap (bH l))]
  (λv r=>v=.tuple #[]/\∃(g c':Nat) (l':List Int),Same (l++[x]) l'/\Hp l'.length l'/\r=[.ax t [a,b,c,.slice (some ⟨g,0,none⟩) l'.length c',e] T,.abs (aF 3 1 (some ⟨g,0,none⟩) l'.length c' (bH l'))]):=by
 refine aU.ofB (λF w h=>?_)
 obtain⟨F1,F2,⟨h1,h2⟩,hr,hap,hF⟩:=Oo.1 h
 have hr:(aF 3 1 A l.length cap (bH l)).h F2 w:=hr
 obtain⟨hr1,hr2⟩:=hr
 have hc:w.cell? ⟨t,3,none⟩=some (.slice A l.length cap)/\w.frozen? ⟨t,3,none⟩=false:=lQ h1 rfl rfl rfl
 have cu:(Value.slice A l.length cap).ownBlock≠some t:=λe=>hap t ((h2 t).2 rfl) ((hr2 t).2 e)
 refine (WB t 3 0 (.slice A l.length cap) l x w hc.1 hc.2 hr1 cu hm (aio _) hp (lt_of_some h1)).mono ?_
 rintro e' w' ⟨rfl,g,c',l',g1,g2,g3,g4,w1,g5,g6⟩
 have S5:t≠g:=g3.ne
 have jD:l'.length=l.length+1:=by have:=g1.len;simp at this;omega
 have h1':w1.heap[t]?=some (.cells ⟨[a,b,c,.slice A l.length cap,e]⟩ T (0,0)):=(g5.block t (lt_of_some h1) cu).trans h1
 have aen:=ED (j:=3) (u:=.slice (some ⟨g,0,none⟩) (l.length+1) c') h1'
 have agS:w'.heap[t]?=some (.cells ⟨[a,b,c,.slice (some ⟨g,0,none⟩) l'.length c',e]⟩ T (0,0)):=by
  rw [jD];exact (g6.block t (lt_of_some aen) S5).trans aen
 have hks:cF (·=t) w1 (w1.setCell ⟨t,3,none⟩ (.slice (some ⟨g,0,none⟩) (l.length+1) c')):=(cF.refl (·=t) w1).setCell (p:=⟨t,3,none⟩) (.inr rfl) _
 refine⟨_,_,rfl,⟨rfl,g,c',l',g1,g2,rfl⟩,λk=>F1 k\/k=g,Oo.2 ⟨F1,λk=>k=g,⟨agS,h2⟩,⟨g3.own,λk=>?_⟩,λk hk e=>S5 (((h2 k).1 hk).symm.trans e),λk=>Iff.rfl⟩,⟨?_,λk hk=>?_⟩⟩
 ·simp [Value.ownBlock,eq_comm]
 ·have k1:cF F w w1:=g5.mono (λk _ hk=>(hF k).2 (.inr ((hr2 k).2 hk)))
  have k2:cF F w (w1.setCell ⟨t,3,none⟩ (.slice (some ⟨g,0,none⟩) (l.length+1) c')):=k1.trans (hks.mono (λk _ e=>(hF k).2 (.inl ((h2 k).2 e))))
  exact k2.andThen g6 (λi hi e=>by
   rcases g4 with g4|g4
   ·exact (hF i).2 (.inr ((hr2 i).2 (e ▸ g4)))
   subst e;omega)
 rcases hk with hk|rfl
 ·exact .inl ((hF k).2 (.inl hk))
 rcases g4 with g4|g4
 ·exact .inl ((hF _).2 (.inr ((hr2 _).2 g4)))
 exact .inr g4
structure lW (next:Int) (l:List Int) (us:bC Value) (most aI:Int):Prop where
 ti:TI next l us
 zB:(us.length:Int)<=most
 zD:most<=1024
 zE:next<=most+1
 DY:next<=aI+1
 BV:0<=aI/\aI<=1024
theorem lW.Pw {next:Int} {l:List Int} {us:bC Value} {most aI:Int} (h:lW next l us most aI):1<=aD.aP us/\aD.aP us<=next/\aD.aP us∉aY us/\next<=1025/\1<=next/\us.length<=1024/\l.length<=1024:=by
 obtain⟨h1,h2,h3⟩:=rJ (aY us) 1 h.ti.fD (λx hx=>(h.ti.pos x hx).1)
 have hc:=h.ti.count
 have m0:=h.zB
 have m1:=h.zD
 have n1:=h.zE
 refine⟨h1,?_,h2,zc,zc,zc,zc⟩
 rcases Int.lt_or_le next (aD.aP us) with h4|h4
 ·have:=h3 next zc h4
  have:=(h.ti.pos _ this).2
  omega
 exact h4
theorem Px:cQ []=λ_=>none:=by
 funext x
 unfold cQ
 split<;>rfl
theorem MH {us:bC Value} {h:Int} (hn:h∉aY us):cQ us (.int .i64 h)=none:=get_none.2 hn
structure TX where
 m:Nat
 A:Option Addr
 c:Nat
 l:List Int
 next:Int
def sD (TT:TypeId) (t:Nat) (most aI:Int) (us:bC Value) (x:TX):List HP:=
 [.ax t [.int .i64 most,.int .i64 aI,.map (some x.m),.slice x.A x.l.length x.c,.int .i64 x.next] TT,.abs (bM Tryz.prog 3 x.m (cQ us) us.length),.abs (aF 3 1 x.A x.l.length x.c (bH x.l))]
def fX (TT:TypeId) (t:Nat) (most aI:Int) (us:bC Value):d9 where
 h F w:=∃x:TX,lW x.next x.l us most aI/\(ko (sD TT t most aI us x)).h F w
 lt:=λ⟨_,_,h⟩ k hk=>d9.lt _ h k hk
 st:=λ⟨x,h1,h⟩ _ _ hk hn=>⟨x,h1,d9.st _ h hk hn⟩
theorem aR.xh {β:Bs} {TT:TypeId} {t:Nat} {most aI:Int} {us:bC Value} {l:List HP} {w:World} (h:aR β (l++[.abs (fX TT t most aI us)]) w):∃x:TX,lW x.next x.l us most aI/\aR β (l++sD TT t most aI us x) w:=
 h.af8 (λ_ h=>h)
theorem aR.sE {β:Bs} {TT:TypeId} {t:Nat} {most aI:Int} {us:bC Value} {l:List HP} {w:World} (x:TX) (hx:lW x.next x.l us most aI) (h:aR β (l++sD TT t most aI us x) w):aR β (l++[.abs (fX TT t most aI us)]) w:=
 h.ael (λ_ h=>⟨x,hx,h⟩)
end
section
open Go.RowKit Go.Maps Go.Sort Go.Shelf bF aD
theorem mP {z:Int} (h:(Lit.int .i64 z).wf=true):keyOf Tryz.prog 3 (.int .i64 z)=some (.int .i64 z):=
 keyOf_int_mk Tryz.underlying3 h
theorem MI:∀{l m:List Int},l.Pairwise (· < ·)->m.Pairwise (· < ·)->(∀z,z∈l↔z∈m)->l=m
 |[],[],_,_,_=>rfl
 |[],b::m,_,_,h=>by have:=(h b).2 (aiw ..);cases this
 |a::l,[],_,_,h=>by have:=(h a).1 (aiw ..);cases this
 |a::l,b::m,hl,hm,h=>by
   have hl':=aiB.1 hl
   have hm':=aiB.1 hm
   have e:a=b:=by
    rcases aiA.1 ((h a).1 (aiw ..)) with e|e
    ·exact e
    rcases aiA.1 ((h b).2 (aiw ..)) with e2|e2
    ·exact e2.symm
    have:=hm'.1 a e;have:=hl'.1 b e2;omega
   subst e
   congr 1
   refine MI hl'.2 hm'.2 (λz=>⟨λhz=>?_,λhz=>?_⟩)
   ·rcases aiA.1 ((h z).1 (aiv _ hz)) with e|e
    ·have:=hl'.1 z hz;omega
    exact e
   rcases aiA.1 ((h z).2 (aiv _ hz)) with e|e
   ·have:=hm'.1 z hz;omega
   exact e
theorem Uw (x y:Int):(if y>x then y else x)=max x y:=by
 rw [Int.max_def];split<;>split<;>omega
theorem ab5 (x y:Int):(if y<x then y else x)=min x y:=by
 rw [Int.min_def];split<;>split<;>omega
theorem aeo (m:Nat):AnyZI.SortsIn Tryz.prog Tryz.sortedI_ren Fence.wide m:=
 ⟨λax off cap ss W hH hblk eG=>callsIn_wide.2 (AnyM.slices_Sort_int Tryz.sortI ax off cap ss W hH hblk eG),
  λp cap W=>callsIn_wide.2 (AnyM.slices_Sort_int_none Tryz.sortI p cap W)⟩
def JV (bk:Nat):Value:=.func (.func 93) #[] #[.pointer (some ⟨bk,0,none⟩)]
theorem Py {β:Bs} (mb:Option Nat):aU Tryz.prog β 67 #[.map mb] [] (λv l=>∃bk,v=JV bk/\l=[.ax bk [.map mb] 129]):=
 aU.OC λW _=>by
  have h:CallsIn Fence.wide 5 Tryz.prog 67 #[.map mb] W λe w'=>e=.returned (JV W.heap.size)/\w'=W.alloc (.cells #[.map mb] 129):=AnyZI.keys_in Tryz.keysI Fence.wide 5 trivial rfl mb W
  refine ((callsIn_wide (n:=5)).1 h).mono ?_
  rintro e w' ⟨rfl,rfl⟩
  refine⟨_,_,rfl,⟨W.heap.size,rfl,rfl⟩,(cF.refl _ _).alloc _,λk=>k=W.heap.size,⟨?_,λk=>Iff.rfl⟩,λk hk=>Nat.le_of_eq hk.symm⟩
  show (W.heap.push _)[W.heap.size]?=_
  simp
structure KeysOf (f:Lit->Option Value) (ss:List Int):Prop where
 mem:∀z,z∈ss↔(f (.int .i64 z)).isSome=true
 sorted:ss.Pairwise (· < ·)
theorem Ux {w:World} {b n:Nat} {K:TypeId} {f:Lit->Option Value} {D:DataW Value} (hK:Tryz.prog.underlying K=some (.int .i64)) (L:Keyed Tryz.prog K) (kQ:w.ownsMap Tryz.prog K zw b n D) (hf:∀kl,Maps.has D kl=(f kl).isSome) {ss:List Int} (hp:ss.Perm (intKeys D)) :
 KeysOf f (ss.mergeSort (λx y=>decide (x<=y))):=by
 obtain⟨es,hD,hpw,_⟩:=kQ.entries L
 obtain⟨es',hD',hko⟩:=kQ.keysOf
 obtain rfl:es=es':=by rw [hD] at hD';simpa using hD'
 have hk:∀p∈es,∃x,p.1=.int .i64 x:=λp hp=>by
  obtain⟨v,hv⟩:=hko p hp
  obtain⟨x,_,h,_⟩:=keyOf_i64 hK hv
  exact⟨x,h⟩
 have hmem:∀z,z∈intKeys D↔(f (.int .i64 z)).isSome=true:=λz=>by
  rw [←hf,hD]
  show z∈es.map (λp=>Go.intOf p.1)↔es.any (λp=>p.1.sameKey (.int .i64 z))=true
  rw [aiC,List.any_eq_true]
  refine⟨λ⟨p,hp,e⟩=>⟨p,hp,?_⟩,λ⟨p,hp,e⟩=>⟨p,hp,?_⟩⟩
  ·obtain⟨x,hx⟩:=hk p hp
   rw [hx] at e ⊢
   have e:x=z:=e
   simp [Lit.sameKey,e]
  obtain⟨x,hx⟩:=hk p hp
  rw [hx] at e ⊢
  show x=z
  simpa [Lit.sameKey] using e
 have hnd:(intKeys D).Nodup:=by
  rw [hD]
  show (es.map λp=>Go.intOf p.1).Nodup
  rw [List.nodup_iff_pairwise_ne,List.pairwise_map]
  refine hpw.imp_of_mem (λ{p q} hp hq cu e=>cu ?_)
  obtain⟨x,hx⟩:=hk p hp
  obtain⟨y,hy⟩:=hk q hq
  rw [hx,hy] at e ⊢
  have e:x=y:=e
  rw [e]
 have tr:∀a b c:Int,decide (a<=b)=true->decide (b<=c)=true->decide (a<=c)=true:=Pe
 have to:∀a b:Int,(decide (a<=b) || decide (b<=a))=true:=Pe
 have hperm:=(List.mergeSort_perm ss (λx y=>decide (x<=y))).trans hp
 refine⟨λz=>by rw [hperm.mem_iff,hmem],?_⟩
 have h1:=List.pairwise_mergeSort tr to ss
 have h2:(ss.mergeSort (λx y=>decide (x<=y))).Nodup:=hperm.nodup_iff.2 hnd
 rw [List.nodup_iff_pairwise_ne] at h2
 refine (h1.and h2).imp (λ{a b} h=>?_)
 grind
theorem JW {β:Bs} (b bk n:Nat) (f:Lit->Option Value) (hn:n<=16777216) :
 aU Tryz.prog β 66 #[JV bk] [.abs (bM Tryz.prog 3 b f n),.ax bk [.map (some b)] 129] (λv l=>∃A cap ss,v=.slice A ss.length cap/\KeysOf f ss/\ss.length=n ∧
  l=[.abs (bM Tryz.prog 3 b f n),.ax bk [.map (some b)] 129,.abs (aF 3 1 A ss.length cap (bH ss))]):=by
 intro R w hS
 obtain⟨F1,h1⟩:=hS.get (i:=0) (p:=.abs (bM Tryz.prog 3 b f n)) rfl
 obtain⟨F2,h2⟩:=hS.get (i:=1) (p:=.ax bk [.map (some b)] 129) rfl
 obtain⟨D,kQ,eG,hhas,_⟩:=h1.1
 have hcell:w.cell? ⟨bk,0,none⟩=some (.map (some b)):=(lQ h2.1 rfl rfl rfl).1
 have hseq:SeqGives Fence.wide 2 Tryz.prog 93 #[.pointer (some ⟨bk,0,none⟩)] encZ (λss=>ss.Perm (intKeys D)) (Maps.size D) w:=
  AnyZI.keys_gives (ρ:=Tryz.keysI_ren) {Tryz.keysI with} Fence.wide _ trivial rfl zc bk b n D w (lt_of_some h2.1) hcell kQ
 have cS:=AnyZI.sorted_in Tryz.sortedI Fence.wide 5 trivial trivial trivial trivial rfl zc (aeo _) (enters_of Tryz.func92 KB rfl) 93 #[.pointer (some ⟨bk,0,none⟩)] trivial (enters_of Tryz.func93 KB rfl) _ _ (by rw [eG];unfold maxLen;omega) (by rw [eG];omega) _ hseq
 change CallsIn _ _ Tryz.prog 66 _ _ _ at cS
 refine ((callsIn_wide (n:=5)).1 cS).mono ?_
 rintro e w' ⟨v,ss,rfl,hp,hrow,hnil,hb⟩
 have jD:(ss.mergeSort (λx y=>decide (x<=y))).length=ss.length:=List.length_mergeSort ss
 have hkeys:=Ux Tryz.underlying3 iZ kQ hhas hp
 have EQ:∃A cap,v=.slice A ss.length cap:=by
  rcases hrow.2 with ⟨e1,e2⟩|⟨g,cp,cur,e1,_⟩
  all_goals grind
 obtain⟨A,cap,rfl⟩:=EQ
 have hn1:ss.length=n:=by
  rw [hp.length_eq,←eG]
  obtain⟨es,hD,_⟩:=kQ.entries iZ
  rw [hD]
  exact aiF ..
 have hq:aR β ([.abs (bM Tryz.prog 3 b f n),.ax bk [.map (some b)] 129,.abs R]++[.abs (aF 3 1 A ss.length cap (bH (ss.mergeSort (λx y=>decide (x<=y)))))]) w':=by
  refine aR.new (F:=λk=>(Value.slice A ss.length cap).ownBlock=some k) hS ⟨?_,λk=>Iff.rfl⟩ ⟨hb.os,hb.tape,hb.output,hb.size,λk hk _=>hb.block k hk⟩ (λk hk=>(hrow.lt k hk).1)
  refine⟨hrow.1,?_⟩
  rcases hrow.2 with h|⟨g,cp,cur,e1,_,h3,h4⟩
  ·exact .inl h
  exact .inr ⟨g,cp,cur,e1,aio _,h3,h4⟩
 exact⟨_,[.abs (bM Tryz.prog 3 b f n),.ax bk [.map (some b)] 129,.abs (aF 3 1 A ss.length cap (bH (ss.mergeSort (λx y=>decide (x<=y)))))],rfl,⟨A,cap,ss.mergeSort (λx y=>decide (x<=y)),by rw [jD],hkeys,by rw [jD];exact hn1,by rw [jD]⟩,hq.pick (aq:=[0,1,3,2]) rfl rfl⟩
end
section
open Go.RowKit bF aD Go.Maps
attribute [local irreducible] ar bN ak ay lq
theorem S6 {us:bC Value} {ss:List Int} (hr:aD.dH (aY us)) (h:KeysOf (cQ us) ss):ss=aY us:=by
 refine MI h.sorted hr (λz=>?_)
 rw [h.mem]
 show (aD.get us z).isSome=true↔z∈aY us
 refine⟨λh=>?_,λh=>?_⟩
 ·obtain⟨x,hx⟩:=Option.isSome_iff_exists.1 h;exact get_some hx
 cases hg:aD.get us z with
 |some x=>rfl
 |none=>exact ain h (get_none.1 hg)
theorem ZJ {β:Bs} (most:Int) :
 aU Tryz.prog β 64 #[vI (most)] [] (λv l=>∃t,v=vP t/\l=[.abs (fX 182 t (min (max most 0) 1024) 0 [])]):=by
 exact SE Tryz.func64 Tryz.ntmps64 (λR=>SR (jK 1 [] [] (NS (jK 3 [5] [(1,w_ (.int .i64 (max most 0)) (ail (Value.int .i64) (Uw _ _))),(2,w_ (.int .i64 (min (max most 0) 1024)) (ail (Value.int .i64) (ab5 _ _)))] (ar.tX (d:=(some 6)) (t:=129) (λ_=>KB) Tryz.prog rfl 3 (λm1=>jB 3 [2] (λb2=>.ax b2 [vI (min (max most 0) 1024),vI 0,.map (some m1),.slice none (0) (0),vI 1] 182) (λb2=>NN (ak.ret (ay.mem (λw hS=>hS.mQ (e:=3) (size:=1)) (ay.mem (eX:=[.abs R,.abs (fX 182 b2 (min (max most 0) 1024) 0 [])]) (λw hS=>aR.sE (l:=[.abs R]) ⟨m1,none,0,[],1⟩ ⟨TI.empty,Pe,zc,Pe,by show (1:Int)<=0+1;decide,Pd⟩ (by rw [←Px] at hS;exact hS.pick (aq:=[0,2,1,3]) (l':=[.abs R]++sD 182 b2 (min (max most 0) 1024) 0 [] ⟨m1,none,0,[],1⟩) rfl rfl)) (RT _ [1,0] (⟨b2,rfl,rfl⟩))))))))))))
theorem WC {β:Bs} (t:Nat) (most aI:Int) (us:bC Value) :
 aU Tryz.prog β 89 #[vP t] [.abs (fX 182 t most aI us)] (λv l=>v=vI aI/\l=[.abs (fX 182 t most aI us)]):=by
 refine SE Tryz.func89 Tryz.ntmps89 (λR=>ak.seq (ak.Iz (Φ:=λx:TX=>lW x.next x.l us most aI) (hp:=λx=>[.abs R]++sD 182 t most aI us x) (λw hS=>(hS.pick (aq:=[1,0]) (l':=[.abs R]++[.abs (fX 182 t most aI us)]) rfl rfl).xh) (λx hT=>?_)))
 obtain⟨m,A,c,l,next⟩:=x
 replace hT:lW next l us most aI:=hT
 have hb:=hT.Pw
 have hm0:=hT.zB
 have hm1:=hT.zD
 have hn1:=hT.zE
 have hn2:=hT.DY
 have Pz:=hT.BV
 have S7:=hT.ti.count
 show ak _ _ _ _ _ [.abs R,.ax t [vI (most),vI (aI),.map (some m),.slice A (l.length) (c),vI (next)] 182,.abs (bM Tryz.prog 3 m (cQ us) us.length),.abs (aF 3 1 A l.length c (bH l))] _
 exact ak.region (jK 1 [] [] (NS (jK 5 [2] [(3,a_ 1 t)] (NN (ak.ret (ay.mem (λw hS=>aR.sE (l:=[.abs R]) ⟨m,A,c,l,next⟩ (show lW (next) l (us) most (aI) from hT) (hS.pick (aq:=[0,1,2,3]) (l':=[.abs R]++sD 182 t most (aI) (us) ⟨m,A,c,l,next⟩) rfl rfl)) (RT _ [1,0] (⟨rfl,rfl⟩))))))))
theorem sF {β:Bs} (t:Nat) (most aI:Int) (us:bC Value) (h:Int) (hw:(Lit.int .i64 h).wf=true) (x:Value) (hg:aD.get us h=some x) :
 aU Tryz.prog β 210 #[vP t,vI (h)] [.abs (fX 182 t most aI us)] (λv l=>v=.tuple #[x,vI 0]/\l=[.abs (fX 182 t most aI us)]):=by
 refine SE Tryz.func210 Tryz.ntmps210 (λR=>ak.seq (ak.Iz (Φ:=λx:TX=>lW x.next x.l us most aI) (hp:=λx=>[.abs R]++sD 182 t most aI us x) (λw hS=>(hS.pick (aq:=[1,0]) (l':=[.abs R]++[.abs (fX 182 t most aI us)]) rfl rfl).xh) (λx hT=>?_)))
 obtain⟨m,A,c,l,next⟩:=x
 replace hT:lW next l us most aI:=hT
 have hb:=hT.Pw
 have hm0:=hT.zB
 have hm1:=hT.zD
 have hn1:=hT.zE
 have hn2:=hT.DY
 have Pz:=hT.BV
 have S7:=hT.ti.count
 show ak _ _ _ _ _ [.abs R,.ax t [vI (most),vI (aI),.map (some m),.slice A (l.length) (c),vI (next)] 182,.abs (bM Tryz.prog 3 m (cQ us) us.length),.abs (aF 3 1 A l.length c (bH l))] _
 exact ak.region (jK 2 [] [] (NS (jK 5 [12,13] [(3,a_ 1 t)] (ar.BK 2 (d:=(some 14)) (t:=129) (K:=3) (E:=133) (b:=m) (n:=us.length) (f:=(cQ us)) (x:=(.tmp 12)) (ix:=(.tmp 13)) (key:=vI (h)) (z:=.nilIface) (kl:=(.int .i64 h)) (r:=(some x)) (λ_=>KB) KB (λ_=>KB) (λ_=>KB) iZ Tryz.underlying129 (λ_=>KB) (mP hw) (hg) (jK 5 [6,7] [] (NZ (jK 2 [18] [] (NF (KX (SR (jK 3 [4,5] [] (NN (ak.ret (ay.mem (λw hS=>aR.sE (l:=[.abs R]) ⟨m,A,c,l,next⟩ (show lW (next) l (us) most (aI) from hT) (hS.pick (aq:=[0,1,2,3]) (l':=[.abs R]++sD 182 t most (aI) (us) ⟨m,A,c,l,next⟩) rfl rfl)) (RT _ [1,0] (⟨rfl,rfl⟩))))))))))))))))
theorem yB {β:Bs} (t:Nat) (most aI:Int) (us:bC Value) (h:Int) (hw:(Lit.int .i64 h).wf=true) (hg:aD.get us h=none) :
 aU Tryz.prog β 210 #[vP t,vI (h)] [.abs (fX 182 t most aI us)] (λv l=>v=.tuple #[.nilIface,vI 131]/\l=[.abs (fX 182 t most aI us)]):=by
 refine SE Tryz.func210 Tryz.ntmps210 (λR=>ak.seq (ak.Iz (Φ:=λx:TX=>lW x.next x.l us most aI) (hp:=λx=>[.abs R]++sD 182 t most aI us x) (λw hS=>(hS.pick (aq:=[1,0]) (l':=[.abs R]++[.abs (fX 182 t most aI us)]) rfl rfl).xh) (λx hT=>?_)))
 obtain⟨m,A,c,l,next⟩:=x
 replace hT:lW next l us most aI:=hT
 have hb:=hT.Pw
 have hm0:=hT.zB
 have hm1:=hT.zD
 have hn1:=hT.zE
 have hn2:=hT.DY
 have Pz:=hT.BV
 have S7:=hT.ti.count
 show ak _ _ _ _ _ [.abs R,.ax t [vI (most),vI (aI),.map (some m),.slice A (l.length) (c),vI (next)] 182,.abs (bM Tryz.prog 3 m (cQ us) us.length),.abs (aF 3 1 A l.length c (bH l))] _
 exact ak.region (jK 2 [] [] (NS (jK 5 [12,13] [(3,a_ 1 t)] (ar.BK 2 (d:=(some 14)) (t:=129) (K:=3) (E:=133) (b:=m) (n:=us.length) (f:=(cQ us)) (x:=(.tmp 12)) (ix:=(.tmp 13)) (key:=vI (h)) (z:=.nilIface) (kl:=(.int .i64 h)) (r:=none) (λ_=>KB) KB (λ_=>KB) (λ_=>KB) iZ Tryz.underlying129 (λ_=>KB) (mP hw) (hg) (jK 5 [6,7] [] (NZ (jK 2 [18] [] (NT (SR (jK 3 [4,5] [] (NN (ak.ret (ay.bB (ay.mem (λw hS=>aR.sE (l:=[.abs R]) ⟨m,A,c,l,next⟩ (show lW (next) l (us) most (aI) from hT) (hS.pick (aq:=[0,1,2,3]) (l':=[.abs R]++sD 182 t most (aI) (us) ⟨m,A,c,l,next⟩) rfl rfl)) (RT _ [1,0] (⟨rfl,rfl⟩))))))))))))))))
theorem Fl {β:Bs} (t:Nat) (most aI:Int) (us:bC Value) (x:Value) (hf:most<=(us.length:Int)) :
 aU Tryz.prog β 217 #[vP t,x] [.abs (fX 182 t most aI us)] (λv l=>v=.tuple #[vI 0,vI 130]/\l=[.abs (fX 182 t most aI us)]):=by
 refine SE Tryz.func217 Tryz.ntmps217 (λR=>ak.seq (ak.Iz (Φ:=λx:TX=>lW x.next x.l us most aI) (hp:=λx=>[.abs R]++sD 182 t most aI us x) (λw hS=>(hS.pick (aq:=[1,0]) (l':=[.abs R]++[.abs (fX 182 t most aI us)]) rfl rfl).xh) (λx hT=>?_)))
 obtain⟨m,A,c,l,next⟩:=x
 replace hT:lW next l us most aI:=hT
 have hb:=hT.Pw
 have hm0:=hT.zB
 have hm1:=hT.zD
 have hn1:=hT.zE
 have hn2:=hT.DY
 have Pz:=hT.BV
 have S7:=hT.ti.count
 show ak _ _ _ _ _ [.abs R,.ax t [vI (most),vI (aI),.map (some m),.slice A (l.length) (c),vI (next)] 182,.abs (bM Tryz.prog 3 m (cQ us) us.length),.abs (aF 3 1 A l.length c (bH l))] _
 exact ak.region (jK 2 [] [] (NN (ak.seq (ak.seq (rQ (jQ 4 [10] [(3,a_ 1 t)] (bN.C8 2 (d:=(some 11)) (t:=129) (K:=3) (E:=133) (b:=m) (n:=us.length) (f:=(cQ us)) (x:=(.tmp 10)) (ats:=#[129]) (λ_=>KB) KB (λ_=>KB) rfl Tryz.underlying129 (jQ 5 [16] [(3,a_ 1 t)] (NQ (NX (cP ((((us.length:Nat):Int):Int)>=(most:Int)) (λpR=>SR (jK 2 [4,5] [] (NN (ak.ret (ay.bB (ay.mem (λw hS=>aR.sE (l:=[.abs R]) ⟨m,A,c,l,next⟩ (show lW (next) l (us) most (aI) from hT) (hS.pick (aq:=[0,1,2,3]) (l':=[.abs R]++sD 182 t most (aI) (us) ⟨m,A,c,l,next⟩) rfl rfl)) (RT _ [1,0] (⟨rfl,rfl⟩)))))))) (λpR=>ain pR (by omega)))))))))))))
theorem IB {β:Bs} (t:Nat) (most aI:Int) (us:bC Value) (x:Value) (hf:(us.length:Int)<most) :
 aU Tryz.prog β 217 #[vP t,x] [.abs (fX 182 t most aI us)] (λv l=>v=.tuple #[vI (aP us),vI 0]/\l=[.abs (fX 182 t most (max aI ((us.length:Int)+1)) (ins (aP us) x us))]):=by
 refine SE Tryz.func217 Tryz.ntmps217 (λR=>ak.seq (ak.Iz (Φ:=λx:TX=>lW x.next x.l us most aI) (hp:=λx=>[.abs R]++sD 182 t most aI us x) (λw hS=>(hS.pick (aq:=[1,0]) (l':=[.abs R]++[.abs (fX 182 t most aI us)]) rfl rfl).xh) (λx hT=>?_)))
 obtain⟨m,A,c,l,next⟩:=x
 replace hT:lW next l us most aI:=hT
 have hb:=hT.Pw
 have hm0:=hT.zB
 have hm1:=hT.zD
 have hn1:=hT.zE
 have hn2:=hT.DY
 have Pz:=hT.BV
 have S7:=hT.ti.count
 show ak _ _ _ _ _ [.abs R,.ax t [vI (most),vI (aI),.map (some m),.slice A (l.length) (c),vI (next)] 182,.abs (bM Tryz.prog 3 m (cQ us) us.length),.abs (aF 3 1 A l.length c (bH l))] _
 refine ak.region (jK 2 [] [] (NN (ak.seq (ak.seq (rQ (jQ 4 [10] [(3,a_ 1 t)] (bN.C8 2 (d:=(some 11)) (t:=129) (K:=3) (E:=133) (b:=m) (n:=us.length) (f:=(cQ us)) (x:=(.tmp 10)) (ats:=#[129]) (λ_=>KB) KB (λ_=>KB) rfl Tryz.underlying129 (jQ 5 [16] [(3,a_ 1 t)] (NQ (NX (cP ((((us.length:Nat):Int):Int)>=(most:Int)) (λpR=>ain pR (by omega)) (λpR=>KX (SR (jK 5 [6] [(3,a_ 1 t)] (NZ (jK 6 [26] [(3,a_ 1 t)] (NN (cP ((((l.length:Nat):Int):Int)>(0:Int)) (λzj=>?_) (λzj=>?_)))))))))))))))))))
 ·refine ak.region ?_
  obtain⟨n,hn⟩:∃n,l.length=n+1:=⟨l.length-1,zc⟩
  refine ar.tell (p:=∃g,A=some ⟨g,0,none⟩) (λw hS=>let ⟨F,h⟩:=hS.get (i:=3) rfl;aF.head h zc) (λ⟨g,hg⟩=>?_)
  subst hg
  refine jK 4 [31] [] (gL (args:=#[.iface 284 (.pointer (some ⟨t,3,none⟩))]) (pre:=[.ax t [vI (most),vI (aI),.map (some m),.slice (some ⟨g,0,none⟩) (l.length) (c),vI (next)] 182,.abs (aF 3 1 (some ⟨g,0,none⟩) l.length c (bH l))]) [1,3] (aem hn (by have:=hT.ti.heap;rwa [hn] at this) hT.ti.inj zc) ?_)
  rintro _ _ ⟨rfl,l2,rfl,hp2,hi2,hm2,rfl⟩
  exact jK 5 [6] [] (NS (sl 6 (vI ((at_ l 0))) (.int .i64 ((aP us))) (by rw [hT.ti.JU zc]) (jK 6 [46,47,48] [(3,a_ 0 t)] (ar.rF 3 (d:=none) (t:=129) (K:=3) (E:=133) (b:=m) (n:=us.length) (f:=(cQ us)) (x:=(.tmp 46)) (ix:=(.tmp 47)) (y:=(.tmp 48)) (key:=vI ((aP us))) (u:=x) (kl:=(.int .i64 (aP us))) (n':=(us.length+1)) (f':=(cQ (ins (aP us) x us))) (λ_=>KB) KB (λ_=>KB) (λ_=>KB) (λ_=>KB) iZ Tryz.underlying129 (by unfold maxLen;omega) (wV zc zc) (by rw [MH hb.2.2.1];rfl) (Lw hb.2.2.1 x) (NN (ak.seq (ak.xQ 13 KB KB (lq.seg (k':=9) (bL:=[(6,vI ((aP us))),(49,vP t),(53,vI (aI)),(57,.map (some m))]) (eV:=[t=t,t=t]) [o_,o_,o_,o_,⟨[.at 0],none,none,none,none⟩,o_,o_,o_,⟨[.at 0],none,none,none,none⟩] [6,49,53,57] (λ_ _=>KB) ⟨rfl,rfl,trivial⟩ Pd (lq.C8 3 (d:=(some 58)) (t:=129) (K:=3) (E:=133) (b:=m) (cnt:=(us.length+1)) (f:=(cQ (ins (aP us) x us))) (x:=(.tmp 57)) (ats:=#[129]) (λ_=>KB) KB (λ_=>KB) rfl Tryz.underlying129 Pd (lq.seg (k':=13) (bL:=[(6,vI ((aP us))),(59,vI ((max aI ((us.length:Int)+1)))),(61,.pointer (some ⟨t,1,none⟩))]) (eV:=[(Value.int .i64 (if (((us.length+1):Nat):Int)>aI then (((us.length+1):Nat):Int) else aI))=(.int .i64 ((max aI ((us.length:Int)+1))))]) [⟨[],none,none,none,some (vI ((max aI ((us.length:Int)+1))))⟩,o_,o_] [6,59,61] (λ_ _=>KB) ⟨by rw [Uw];rfl,trivial⟩ Pd (lq.done rfl (jC 1 [] [(0,a_ 0 t)] [(0,[(1,vI ((max aI ((us.length:Int)+1))))])] (NS (jK 3 [4,5] [] (NN (ak.ret (ay.gA [(3,.abs (bM Tryz.prog 3 m (cQ (ins (aP us) x us)) ((ins (aP us) x us).length)))] (λw hS=>by rw [lV];exact hS) (ay.mem (λw hS=>aR.sE (l:=[.abs R]) ⟨m,some ⟨g,0,none⟩,c,l2,next⟩ (show lW (next) l2 ((ins (aP us) x us)) most ((max aI ((us.length:Int)+1))) from ⟨by rw [hT.ti.JU zc];exact hT.ti.ZI zc x zc hp2 hi2 hm2,by rw [lV];omega,zc,zc,zc,zc⟩) (hS.pick (aq:=[2,0,3,1]) (l':=[.abs R]++sD 182 t most ((max aI ((us.length:Int)+1))) ((ins (aP us) x us)) ⟨m,some ⟨g,0,none⟩,c,l2,next⟩) rfl rfl)) (RT _ [1,0] (⟨rfl,rfl⟩))))))))))))))))))))
 refine ak.region ?_
 have hl0:l=[]:=aiZ zc
 have hl1:l.length=0:=by rw [hl0];rfl
 have hl2:TI next [] us:=hl0 ▸ hT.ti
 exact jC 8 [] [(3,a_ 1 t),(4,wI (next+1) ((next+1))),(7,a_ 1 t)] [(1,[(4,vI ((next+1)))])] (NS (sl 6 (vI (next)) (.int .i64 ((aP us))) (by rw [hl2.JT]) (jK 6 [46,47,48] [(3,a_ 1 t)] (ar.rF 2 (d:=none) (t:=129) (K:=3) (E:=133) (b:=m) (n:=us.length) (f:=(cQ us)) (x:=(.tmp 46)) (ix:=(.tmp 47)) (y:=(.tmp 48)) (key:=vI ((aP us))) (u:=x) (kl:=(.int .i64 (aP us))) (n':=(us.length+1)) (f':=(cQ (ins (aP us) x us))) (λ_=>KB) KB (λ_=>KB) (λ_=>KB) (λ_=>KB) iZ Tryz.underlying129 (by unfold maxLen;omega) (wV zc zc) (by rw [MH hb.2.2.1];rfl) (Lw hb.2.2.1 x) (NN (ak.seq (ak.xQ 13 KB KB (lq.seg (k':=9) (bL:=[(6,vI ((aP us))),(49,vP t),(53,vI (aI)),(57,.map (some m))]) (eV:=[t=t,t=t]) [o_,o_,o_,o_,⟨[.at 1],none,none,none,none⟩,o_,o_,o_,⟨[.at 1],none,none,none,none⟩] [6,49,53,57] (λ_ _=>KB) ⟨rfl,rfl,trivial⟩ Pd (lq.C8 2 (d:=(some 58)) (t:=129) (K:=3) (E:=133) (b:=m) (cnt:=(us.length+1)) (f:=(cQ (ins (aP us) x us))) (x:=(.tmp 57)) (ats:=#[129]) (λ_=>KB) KB (λ_=>KB) rfl Tryz.underlying129 Pd (lq.seg (k':=13) (bL:=[(6,vI ((aP us))),(59,vI ((max aI ((us.length:Int)+1)))),(61,.pointer (some ⟨t,1,none⟩))]) (eV:=[(Value.int .i64 (if (((us.length+1):Nat):Int)>aI then (((us.length+1):Nat):Int) else aI))=(.int .i64 ((max aI ((us.length:Int)+1))))]) [⟨[],none,none,none,some (vI ((max aI ((us.length:Int)+1))))⟩,o_,o_] [6,59,61] (λ_ _=>KB) ⟨by rw [Uw];rfl,trivial⟩ Pd (lq.done rfl (jC 1 [] [(0,a_ 1 t)] [(1,[(1,vI ((max aI ((us.length:Int)+1))))])] (NS (jK 3 [4,5] [] (NN (ak.ret (ay.gA [(2,.abs (bM Tryz.prog 3 m (cQ (ins (aP us) x us)) ((ins (aP us) x us).length)))] (λw hS=>by rw [lV];exact hS) (ay.mem (λw hS=>aR.sE (l:=[.abs R]) ⟨m,A,c,l,(next+1)⟩ (show lW ((next+1)) l ((ins (aP us) x us)) most ((max aI ((us.length:Int)+1))) from ⟨by rw [hl2.JT,hl0];exact hl2.ZH x,by rw [lV];omega,zc,zc,zc,zc⟩) (hS.pick (aq:=[0,1,2,3]) (l':=[.abs R]++sD 182 t most ((max aI ((us.length:Int)+1))) ((ins (aP us) x us)) ⟨m,A,c,l,(next+1)⟩) rfl rfl)) (RT _ [1,0] (⟨rfl,rfl⟩))))))))))))))))))))
theorem MJ {β:Bs} (t:Nat) (most aI:Int) (us:bC Value) (h:Int) (hw:(Lit.int .i64 h).wf=true) (x:Value) (hg:aD.get us h=some x) :
 aU Tryz.prog β 213 #[vP t,vI (h)] [.abs (fX 182 t most aI us)] (λv l=>v=.tuple #[x,vI 0]/\l=[.abs (fX 182 t most aI (del h us))]):=by
 refine SE Tryz.func213 Tryz.ntmps213 (λR=>SR (jK 2 [] [] (NS (jK 2 [9,10] [] (gE [0] (sF t most aI us h hw x hg) (jK 5 [6,7] [] (NZ (jK 2 [15] [] (NT (ak.seq (ak.Iz (Φ:=λx:TX=>lW x.next x.l us most aI) (hp:=λx=>[.abs R]++sD 182 t most aI us x) (λw hS=>(hS.pick (aq:=[1,0]) (l':=[.abs R]++[.abs (fX 182 t most aI us)]) rfl rfl).xh) (λx0 hT=>?_))))))))))))
 obtain⟨m,A,c,l,next⟩:=x0
 replace hT:lW next l us most aI:=hT
 have hb:=hT.Pw
 have hm0:=hT.zB
 have hm1:=hT.zD
 have hn1:=hT.zE
 have hn2:=hT.DY
 have Pz:=hT.BV
 have S7:=hT.ti.count
 have hk:=get_some hg
 show ak _ _ _ _ _ [.abs R,.ax t [vI (most),vI (aI),.map (some m),.slice A (l.length) (c),vI (next)] 182,.abs (bM Tryz.prog 3 m (cQ us) us.length),.abs (aF 3 1 A l.length c (bH l))] _
 refine ak.region (jK 5 [19,20] [(3,a_ 1 t)] (ar.Jw 2 (d:=none) (t:=129) (K:=3) (E:=133) (b:=m) (n:=us.length) (f:=(cQ us)) (x:=(.tmp 19)) (ix:=(.tmp 20)) (key:=vI (h)) (kl:=(.int .i64 h)) (n':=(us.length-1)) (f':=(cQ (del h us))) (ats:=#[129,3]) (λ_=>KB) KB (λ_=>KB) (λ_=>KB) rfl iZ Tryz.underlying129 (mP hw) (by rw [show cQ us (.int .i64 h)=some x from hg];rfl) (SZ) (NN (ak.region (jK 6 [24,26] [] (gL (args:=#[.iface 284 (.pointer (some ⟨t,3,none⟩)),.iface 3 (.int .i64 (h))]) (pre:=[.ax t [vI (most),vI (aI),.map (some m),.slice A (l.length) (c),vI (next)] 182,.abs (aF 3 1 A l.length c (bH l))]) [1,3] (ade h hT.ti.heap zc) ?_))))))
 rintro _ _ ⟨rfl,g,c',l2,hsm,hp2,rfl⟩
 refine NS (jK 4 [4,5] [] (NN (ak.ret ?_)))
 have hld:=xg hT.ti.fD hk
 exact ay.gA [(3,.abs (bM Tryz.prog 3 m (cQ (del h us)) ((del h us).length)))] (λw hS=>by rw [show (del h us).length=us.length-1 by omega];exact hS) (ay.mem (λw hS=>aR.sE (l:=[.abs R]) ⟨m,some ⟨g,0,none⟩,c',l2,next⟩ (show lW (next) l2 ((del h us)) most (aI) from ⟨hT.ti.drop hk hsm hp2,zc,hm1,hn1,hn2,Pz⟩) (hS.pick (aq:=[2,0,3,1]) (l':=[.abs R]++sD 182 t most (aI) ((del h us)) ⟨m,some ⟨g,0,none⟩,c',l2,next⟩) rfl rfl)) (RT _ [1,0] (⟨rfl,rfl⟩)))
theorem RQ {β:Bs} (t:Nat) (most aI:Int) (us:bC Value) (h:Int) (hw:(Lit.int .i64 h).wf=true) (hg:aD.get us h=none) :
 aU Tryz.prog β 213 #[vP t,vI (h)] [.abs (fX 182 t most aI us)] (λv l=>v=.tuple #[.nilIface,vI 131]/\l=[.abs (fX 182 t most aI us)]):=by
 exact SE Tryz.func213 Tryz.ntmps213 (λR=>SR (jK 2 [] [] (NS (jK 2 [9,10] [] (gE [0] (yB t most aI us h hw hg) (jK 5 [6,7] [] (NZ (jK 2 [15] [] (NF (KX (zR ⟨rfl,rfl⟩)))))))))))
theorem PA {β:Bs} (t:Nat) (most aI:Int) (us:bC Value) :
 aU Tryz.prog β 88 #[vP t] [.abs (fX 182 t most aI us)] (λv l=>∃A c,v=.slice A (aY us).length c/\l=[.abs (fX 182 t most aI us),.abs (aF 3 1 A (aY us).length c (bH (aY us)))]):=by
 refine SE Tryz.func88 Tryz.ntmps88 (λR=>ak.seq (ak.Iz (Φ:=λx:TX=>lW x.next x.l us most aI) (hp:=λx=>[.abs R]++sD 182 t most aI us x) (λw hS=>(hS.pick (aq:=[1,0]) (l':=[.abs R]++[.abs (fX 182 t most aI us)]) rfl rfl).xh) (λx hT=>?_)))
 obtain⟨m,A,c,l,next⟩:=x
 replace hT:lW next l us most aI:=hT
 have hb:=hT.Pw
 have hm0:=hT.zB
 have hm1:=hT.zD
 have hn1:=hT.zE
 have hn2:=hT.DY
 have Pz:=hT.BV
 have S7:=hT.ti.count
 show ak _ _ _ _ _ [.abs R,.ax t [vI (most),vI (aI),.map (some m),.slice A (l.length) (c),vI (next)] 182,.abs (bM Tryz.prog 3 m (cQ us) us.length),.abs (aF 3 1 A l.length c (bH l))] _
 refine ak.region (jK 1 [] [] (NS (jK 4 [6] [(3,a_ 1 t)] (gX [] (Py (some m)) (λbk=>gL [3,0] (JW m bk us.length (cQ us) zc) ?_)))))
 rintro _ _ ⟨A2,c2,ss,rfl,hks,hsl,rfl⟩
 refine jK 1 [2] [] (NN (ak.ret ?_))
 have hkk:=S6 hT.ti.fD hks
 exact ay.mem (λw hS=>aR.sE (l:=[.abs R,.abs (aF 3 1 A2 ss.length c2 (bH ss))]) ⟨m,A,c,l,next⟩ (show lW (next) l (us) most (aI) from hT) (hS.pick (aq:=[3,2,4,0,5]) (l':=[.abs R,.abs (aF 3 1 A2 ss.length c2 (bH ss))]++sD 182 t most (aI) (us) ⟨m,A,c,l,next⟩) rfl rfl)) (RT (l:=[.abs (fX 182 t most aI us),.abs (aF 3 1 A2 ss.length c2 (bH ss))]) (.slice A2 (ss.length) (c2)) [2,1,0] (⟨A2,c2,by rw [hkk],by rw [hkk]⟩))
end
section
open Go.RowKit Go.Maps bF aD
theorem aU.wY {P:Program} {β:Bs} {f:FuncId} {args:Array Value} {pre R:List HP} {post:Value->List HP->Prop} (h:∀β':Bs,qq β R β'->aU P β' f args pre post):aU P β f args (pre++R) (λv l=>∃l0,post v l0/\l=l0++R):=by
 intro A w hS
 have h1:=aR.turn hS
 rw [←aiN] at h1
 obtain⟨β',g1,_,g3⟩:=h1.wY
 refine (h β' g1 A w (aR.turn g3)).mono ?_
 rintro e w' ⟨v,l,h1,h2,h3⟩
 refine⟨v,l++R,h1,⟨l,h2,rfl⟩,?_⟩
 have h4:=g1.back (aR.turn h3)
 rw [aiN] at h4
 exact aR.turn h4
def cV (L:HL) (us:bC Th):bC Value:=us.map λq=>(q.1,iB L q.2)
theorem j8 (L:HL) (us:bC Th) (h:Int):cQ (cV L us) (.int .i64 h)=(aD.get us h).map (iB L):=get_map (iB L) us h
theorem Lx {L:HL} {us:bC Th} {h:Int}:qA (cQ (cV L us)) (.int .i64 h) none=cQ (cV L (del h us)):=by
 rw [SZ]
 exact ail cQ (Lv (iB L) h us).symm
theorem xj (L:HL) (us:bC Th):(cV L us).length=us.length:=aiF ..
theorem IC (L:HL) (us:bC Th):aY (cV L us)=aY us:=keys_map (iB L) us
def uf (O:dZ) (k:Nat):dZ:=aX O k (λo=>{o with aE:=true})
def uT (O:dZ) (t:Th):Prop:=(af O t.k).aE=true/\(af O t.k).aK=0
instance (O:dZ) (t:Th):Decidable (uT O t):=inferInstanceAs (Decidable (_/\_))
def lC (O:dZ) (aq:bC Th) (t:Th):bC Th:=if uT O t then del (af O t.k).id aq else aq
def qG (O:dZ) (used:Int) (t:Th):Int:=if uT O t then if t.kind=1 then used-(af O t.k).data.length else used else used
abbrev pF (f m t:Nat) (X:FM):HP:=.ax f [.int .i64 X.cN,.int .i64 X.cB,.int .i64 X.cH,.int .i64 X.cS,.int .i64 X.cZ,.map (some m),.pointer (some ⟨t,0,none⟩),.int .i64 X.last,.int .i64 X.ah,.int .i64 X.used] 135
abbrev pI (m:Nat) (L:HL) (us:bC Th):HP:=.abs (bM Tryz.prog 3 m (cQ (cV L us)) us.length)
abbrev pT (t:Nat) (most aI:Int) (L:HL) (us:bC Th):HP:=.abs (fX 182 t most aI (cV L us))
abbrev pO (O:dZ) (L:HL):HP:=.abs (aW (eE O L))
abbrev pD (O:dZ) (L:HL):HP:=.abs (aW (dS O L))
abbrev pE (O:dZ) (L:HL):HP:=.abs (aW (fZ O L))
structure br where
 X:FM
 O:dZ
 aq:bC Th
 us:bC Th
 aI:Int
abbrev pA (f m t:Nat) (L:HL) (S:br):List HP:=[pF f m t S.X,pI m L S.aq,pT t S.X.cH S.aI L S.us,pO S.O L,pD S.O L,pE S.O L]
structure aH where
 op:Int
 aG:Int
 other:Int
 name:ByteArray
 text:ByteArray
 dA:Option Addr
 dC:Nat
 data:List UInt8
 mode:Int
 bg:Int
 bh:Int
 aT:Int
 aJ:Int
 code:Int
 answer:Int
def aO (c:aH):List Value:=[.int .i64 c.op,.int .i64 c.aG,.int .i64 c.other,.string c.name,.string c.text,.slice c.dA c.data.length c.dC,.int .i64 c.mode,.int .i64 c.bg,.int .i64 c.bh,.int .i64 c.aT,.int .i64 c.aJ,.int .i64 c.code,.int .i64 c.answer]
abbrev pC (cb:Nat) (c:aH):HP:=.ax cb (aO c) 53
abbrev c0 (c:aH):aH:={c with answer:=0,code:=230}
def agT (L:HL):Except Int Nat->Value
 |.error e=>.tuple #[.pointer none,.int .i64 e]
 |.ok d=>.tuple #[.pointer (some ⟨L.b d,0,none⟩),.int .i64 0]
def agU (L:HL):Except Int Th->Value
 |.error e=>.tuple #[.nilIface,.int .i64 e]
 |.ok t=>.tuple #[iB L t,.int .i64 0]
noncomputable section
def iO (O:dZ) (us:bC Th) (h:Int) (name:ByteArray) (dX:Int):Except Int Nat:=
 match aD.get us h with
 |none=>.error 131
 |some t=>
   if t.kind=2 then
    if (af O t.k).aE=true then .error 170
    else if ck name then if bits BinOp.and .i64 (af O t.k).mode dX=dX then .ok t.k else .error 175
    else .error 95
   else .error 173
def lG (s:ByteArray):Int:=
 if s=⟨#[]⟩ then 90 else if s.size>4096 then 93 else if rf s then 0 else 91
def Room (X:FM) (aq:bC Th):Prop:=(aq.length:Int)<X.cN/\X.last<1099511627776/\X.ah<8192
instance (X:FM) (aq:bC Th):Decidable (Room X aq):=inferInstanceAs (Decidable (_/\_/\_))
def gi (X:FM) (O:dZ) (aq:bC Th) (d:Nat) (name:ByteArray):Int:=
 if bK name (af O d).ah=none then if Room X aq then 0 else 177 else 171
def cM (X:FM) (kind mode:Int):bJ:=⟨X.last+1,mode,0,0,X.cS,X.cZ,0,0,false,kind,[],⟨#[]⟩,[],none⟩
def bw (X:FM):Nat:=(X.last+1).toNat
def fY (S:br) (d:Nat) (name:ByteArray) (o:bJ):br:=
 {S with
   X:={S.X with last:=S.X.last+1,ah:=S.X.ah+1}
   O:=dg S.X (aX S.O (bw S.X) (λ_=>o)) d name ⟨bw S.X,o.kind⟩
   aq:=ins (S.X.last+1) ⟨bw S.X,o.kind⟩ S.aq}
def aZ (S:br) (d:Nat) (name:ByteArray) (t:Th):br:=
 {S with
   X:={S.X with ah:=S.X.ah-1,used:=if (af (bn S.X S.O d name t) t.k).aS=0 then qG (uf (bn S.X S.O d name t) t.k) S.X.used t else S.X.used}
   O:=if (af (bn S.X S.O d name t) t.k).aS=0 then uf (bn S.X S.O d name t) t.k else bn S.X S.O d name t
   aq:=if (af (bn S.X S.O d name t) t.k).aS=0 then lC (uf (bn S.X S.O d name t) t.k) S.aq t else S.aq}
theorem yC {S:br} {d:Nat} {name:ByteArray} {t:Th} (h:(af (bn S.X S.O d name t) t.k).aS=0):aZ S d name t={S with X:={S.X with ah:=S.X.ah-1,used:=qG (uf (bn S.X S.O d name t) t.k) S.X.used t},O:=uf (bn S.X S.O d name t) t.k,aq:=lC (uf (bn S.X S.O d name t) t.k) S.aq t}:=by
 unfold aZ
 simp only [aik h]
theorem yD {S:br} {d:Nat} {name:ByteArray} {t:Th} (h:¬(af (bn S.X S.O d name t) t.k).aS=0):aZ S d name t={S with X:={S.X with ah:=S.X.ah-1},O:=bn S.X S.O d name t}:=by
 unfold aZ
 simp only [aij h]
def mT (S:br) (d:Nat) (name:ByteArray) (mode:Int):Int×br:=
 if gi S.X S.O S.aq d name=0 then (0,fY S d name (cM S.X 2 mode)) else (gi S.X S.O S.aq d name,S)
def jt (S:br) (d:Nat) (name text:ByteArray):Int×br:=
 if lG text=0 then
  if gi S.X S.O S.aq d name=0 then (0,fY S d name {cM S.X 3 511 with target:=text}) else (gi S.X S.O S.aq d name,S)
 else (lG text,S)
def iE (S:br) (d:Nat) (name:ByteArray):Int×br:=
 match bK name (af S.O d).ah with
 |none=>(170,S)
 |some t=>if t.kind=2 then (172,S) else (0,aZ S d name t)
def jm (O:dZ) (k:Nat):dZ:=aX O k (λo=>{o with up:=none})
def jf (S:br) (d:Nat) (name:ByteArray):Int×br:=
 match bK name (af S.O d).ah with
 |none=>(170,S)
 |some t=>if t.kind=2 then if (af S.O t.k).ah=[] then (0,{aZ S d name t with O:=jm (aZ S d name t).O t.k}) else (178,S) else (173,S)
inductive sV (O:dZ) (sub:Nat):Nat->Prop
 |here:sV O sub sub
 |up {k j:Nat}:(af O k).up=some j->sV O sub j->sV O sub k
instance (O:dZ) (sub k:Nat):Decidable (sV O sub k):=Classical.propDecidable _
def qc (S:br) (d:Nat) (name:ByteArray) (to:Nat) (aB:ByteArray) (t:Th):br:=
 {S with X:={S.X with ah:=S.X.ah-1+1},O:=dg S.X (bn S.X S.O d name t) to aB t}
def dw (S:br) (d:Nat) (name:ByteArray) (to:Nat) (aB:ByteArray):Int×br:=
 match bK name (af S.O d).ah with
 |none=>(170,S)
 |some t=>
   if t.kind=2/\sV S.O t.k to then (174,S)
   else match bK aB (af S.O to).ah with
    |none=>(0,qc S d name to aB t)
    |some o=>
      if o=t then (0,S) else if o.kind=2 then (172,S) else if t.kind=2 then (173,S)
      else (0,qc (aZ S to aB o) d name to aB t)
def dM (X:FM) (n:Nat):Nat:=(min (n:Int) (X.cB-X.used)).toNat
def gy (S:br) (k:Nat) (bs:List UInt8):Int×Int×br:=
 if bs=[] then (0,0,S)
 else if S.X.cB-S.X.used<=0 then (0,176,S)
 else ((dM S.X bs.length:Int),0,{S with
  X:={S.X with used:=S.X.used+(dM S.X bs.length:Int)}
  O:=aX S.O k (λo=>{o with data:=o.data++bs.take (dM S.X bs.length),aT:=S.X.cS,aJ:=S.X.cZ})})
def ef (S:br) (t:Th):Int×Int×br:=
 (if (S.us.length:Int)<S.X.cH then aP S.us else 0,if (S.us.length:Int)<S.X.cH then 0 else 130,{S with
  O:=if (S.us.length:Int)<S.X.cH then aX S.O t.k (λo=>{o with aK:=o.aK+1}) else S.O
  us:=if (S.us.length:Int)<S.X.cH then ins (aP S.us) t S.us else S.us
  aI:=if (S.us.length:Int)<S.X.cH then max S.aI ((S.us.length:Int)+1) else S.aI})
theorem oL {S:br} {t:Th} (h:(S.us.length:Int)<S.X.cH):ef S t=(aP S.us,0,{S with O:=aX S.O t.k (λo=>{o with aK:=o.aK+1}),us:=ins (aP S.us) t S.us,aI:=max S.aI ((S.us.length:Int)+1)}):=by
 unfold ef
 simp only [aik h]
theorem pu {S:br} {t:Th} (h:¬(S.us.length:Int)<S.X.cH):ef S t=(0,130,S):=by
 unfold ef
 simp only [aij h]
abbrev wj:=Int×br×aH
def lD (S:br) (c:aH):wj:=
 match aD.get S.aq c.other with
 |none=>(141,S,c)
 |some t=>if t.kind=2 then ((ef S t).2.1,(ef S t).2.2,{c with answer:=(ef S t).1}) else (173,S,c)
def jP (O:dZ) (us:bC Th) (c:aH):Except Int Th:=
 match iO O us c.aG c.name 64 with
 |.error e=>.error e
 |.ok d=>match bK c.name (af O d).ah with
   |none=>.error 170
   |some t=>.ok t
def gU (S:br) (c:aH):wj:=
 match jP S.O S.us c with
 |.error e=>(e,S,c)
 |.ok t=>if t.kind=3 then (174,S,c) else if t.kind=1 then (173,S,c) else ((ef S t).2.1,(ef S t).2.2,{c with answer:=(ef S t).1})
def fS (S:br) (c:aH):wj:=
 match jP S.O S.us c with
 |.error e=>(e,S,c)
 |.ok t=>if t.kind=3 then (174,S,c) else if t.kind=2 then (172,S,c) else ((ef S t).2.1,(ef S t).2.2,{c with answer:=(ef S t).1})
def jX (m:Int):Prop:=0<=m/\m<=4095
instance (m:Int):Decidable (jX m):=inferInstanceAs (Decidable (_/\_))
def iP (S:br) (c:aH):wj:=
 match iO S.O S.us c.aG c.name 192 with
 |.error e=>(e,S,c)
 |.ok d=>if jX c.mode then ((mT S d c.name c.mode).1,(mT S d c.name c.mode).2,c) else (120,S,c)
def oQ (S:br) (d:Nat) (name:ByteArray) (mode:Int):Int×Int×br:=
 if gi S.X S.O S.aq d name=0 then
  if (S.us.length:Int)<S.X.cH then
   (aP S.us,0,fY {S with us:=ins (aP S.us) ⟨bw S.X,1⟩ S.us,aI:=max S.aI ((S.us.length:Int)+1)} d name {cM S.X 1 mode with aK:=1})
  else (0,130,S)
 else (0,gi S.X S.O S.aq d name,S)
def fe (S:br) (c:aH):wj:=
 match iO S.O S.us c.aG c.name 192 with
 |.error e=>(e,S,c)
 |.ok d=>if jX c.mode then
  if gi S.X S.O S.aq d c.name=0 then ((oQ S d c.name c.mode).2.1,(oQ S d c.name c.mode).2.2,{c with answer:=(oQ S d c.name c.mode).1})
  else (gi S.X S.O S.aq d c.name,S,c)
  else (120,S,c)
def iF (S:br) (c:aH):wj:=
 match iO S.O S.us c.aG c.name 192 with
 |.error e=>(e,S,c)
 |.ok d=>((jt S d c.name c.text).1,(jt S d c.name c.text).2,c)
def nU (S:br) (d:Nat) (name:ByteArray) (to:Nat) (aB:ByteArray):Int×br:=
 match bK name (af S.O d).ah with
 |none=>(170,S)
 |some t=>if t.kind=2 then (172,S)
   else if bK aB (af S.O to).ah=none then
    if S.X.ah<8192 then (0,{S with X:={S.X with ah:=S.X.ah+1},O:=dg S.X S.O to aB t}) else (177,S)
   else (171,S)
def dV (S:br) (c:aH):wj:=
 match iO S.O S.us c.aG c.name 64 with
 |.error e=>(e,S,c)
 |.ok d=>match iO S.O S.us c.other c.text 192 with
   |.error e=>(e,S,c)
   |.ok to=>((nU S d c.name to c.text).1,(nU S d c.name to c.text).2,c)
def jk (S:br) (c:aH):wj:=
 match iO S.O S.us c.aG c.name 192 with
 |.error e=>(e,S,c)
 |.ok d=>((iE S d c.name).1,(iE S d c.name).2,c)
def kz (S:br) (c:aH):wj:=
 match iO S.O S.us c.aG c.name 192 with
 |.error e=>(e,S,c)
 |.ok d=>((jf S d c.name).1,(jf S d c.name).2,c)
def iW (S:br) (c:aH):wj:=
 match iO S.O S.us c.aG c.name 192 with
 |.error e=>(e,S,c)
 |.ok d=>match iO S.O S.us c.other c.text 192 with
   |.error e=>(e,S,c)
   |.ok to=>((dw S d c.name to c.text).1,(dw S d c.name to c.text).2,c)
def iw (S:br) (c:aH):wj:=
 match aD.get S.us c.aG with
 |none=>(131,S,c)
 |some t=>if t.kind=1 then ((gy S t.k c.data).2.1,(gy S t.k c.data).2.2,{c with answer:=(gy S t.k c.data).1}) else (172,S,c)
def qH (m:Int):Prop:=0<=m/\m<=2147483647
instance (m:Int):Decidable (qH m):=inferInstanceAs (Decidable (_/\_))
def cX (S:br) (c:aH):wj:=
 match aD.get S.us c.aG with
 |none=>(131,S,c)
 |some t=>
   if (af S.O t.k).aE=true/\t.kind=2 then (170,S,c)
   else if jX c.mode then
    if qH c.bg/\qH c.bh then
     if fU c.aT c.aJ then (0,{S with O:=aX S.O t.k (λo=>{o with mode:=c.mode,bg:=c.bg,bh:=c.bh,aT:=c.aT,aJ:=c.aJ})},c)
     else (20,S,c)
    else (11,S,c)
   else (120,S,c)
def oA (O:dZ) (c:aH):Option Th->aH
 |none=>{c with other:=0,mode:=0,bg:=0,bh:=0,aT:=0,aJ:=0}
 |some t=>{c with answer:=(af O t.k).id,other:=t.kind,mode:=(af O t.k).mode,bg:=(af O t.k).bg,bh:=(af O t.k).bh,aT:=(af O t.k).aT,aJ:=(af O t.k).aJ}
def oC (S:br) (c:aH):wj:=
 match aD.get S.us c.aG with
 |none=>(131,S,oA S.O c none)
 |some t=>(0,S,oA S.O c (some t))
def jx (S:br) (c:aH):wj:=
 match jP S.O S.us c with
 |.error e=>(e,S,oA S.O c none)
 |.ok t=>(0,S,oA S.O c (some t))
def uG (O:dZ) (k:Nat):dZ:=aX O k (λo=>{o with aK:=o.aK-1})
def jS (S:br) (c:aH):wj:=
 match aD.get S.us c.aG with
 |none=>(131,S,c)
 |some t=>(0,{S with
  X:={S.X with used:=qG (uG S.O t.k) S.X.used t}
  O:=uG S.O t.k
  aq:=lC (uG S.O t.k) S.aq t
  us:=del c.aG S.us},c)
def iC (S:br) (c:aH):wj:=
 if c.op=1 then lD S c else if c.op=2 then gU S c else if c.op=3 then fS S c else if c.op=4 then iP S c
 else if c.op=5 then fe S c else if c.op=6 then iF S c else if c.op=7 then dV S c else if c.op=8 then jk S c
 else if c.op=9 then iw S c else if c.op=10 then cX S c else if c.op=11 then oC S c else if c.op=12 then jx S c
 else if c.op=13 then jS S c else if c.op=14 then kz S c else if c.op=15 then iW S c else (230,S,c)
def gj (S:br) (c:aH):br×aH:=
 ((iC S {c with answer:=0,code:=230}).2.1,{ (iC S {c with answer:=0,code:=230}).2.2 with code:=(iC S {c with answer:=0,code:=230}).1})
end
section sums
variable {V:Type} {g g':Int×V->Nat} {us:bC V} {h:Int} {v:V}
def gJ (g:Int×V->Nat):bC V->Nat
 |[]=>0
 |p::r=>g p+gJ g r
theorem IE:gJ g (ins h v us)=g (h,v)+gJ g us:=by
 induction us with
 |nil=>rfl
 |cons p r ih=>
   grind [ins,gJ]
theorem lX (hc:∀p∈us,g' p=g p):gJ g' us=gJ g us:=by
 induction us with
 |nil=>rfl
 |cons p r ih=>
   grind [gJ]
theorem S8 (hc:∀p∈us,g' p<=g p):gJ g' us<=gJ g us:=by
 induction us with
 |nil=>exact aiu _
 |cons p r ih=>
   grind [gJ]
theorem AX {p:Int×V} {r:bC V}:aD.get (p::r) h=if p.1=h then some p.2 else aD.get r h:=by
 unfold aD.get
 grind
theorem get_mem {us:bC V} (e:aD.get us h=some v):(h,v)∈us:=by
 induction us with
 |nil=>cases e
 |cons p r ih=>
   grind [AX]
theorem oR {us:bC V} (hr:aD.dH (aY us)) (e:(h,v)∈us):aD.get us h=some v:=by
 induction us with
 |nil=>cases e
 |cons p r ih=>
   rw [keys_cons] at hr
   obtain⟨h1,h2⟩:=aiB.1 hr
   rw [AX]
   rcases aiA.1 e with e|e
   ·subst e;rw [aik rfl]
   have:p.1<h:=h1 h (aiC.2 ⟨(h,v),e,rfl⟩)
   rw [aij zc]
   exact ih h2 e
theorem tf (e:aD.get us h=some v):g (h,v)<=gJ g us:=by
 have hm:=get_mem e
 induction us with
 |nil=>cases hm
 |cons p r ih=>
   grind [gJ,AX]
theorem IG (hr:aD.dH (aY us)) (e:aD.get us h=some v) (hc:∀p∈us,p.1≠h->g' p=g p):gJ g' us+g (h,v)=gJ g us+g' (h,v):=by
 induction us with
 |nil=>cases e
 |cons p r ih=>
   rw [keys_cons] at hr
   obtain⟨h1,h2⟩:=aiB.1 hr
   rw [AX] at e
   show g' p+gJ g' r+_=g p+gJ g r+_
   split at e
   ·rename_i e2
    cases e
    have e3:gJ g' r=gJ g r:=lX (λq hq=>hc q (aiv _ hq) (by
     have:=h1 q.1 (aiC.2 ⟨q,hq,rfl⟩);omega))
    grind
   rename_i e2
   have:=ih h2 e (λq hq=>hc q (aiv _ hq))
   have:=hc p (aiw ..) e2
   omega
theorem ZK {p:Int×V} {r:bC V}:del h (p::r)=if p.1=h then del h r else p::del h r:=by
 grind [del]
theorem adf {us:bC V} (hn:h∉aY us):del h us=us:=by
 unfold del
 refine List.filter_eq_self.2 (λp hp=>?_)
 grind [aY,del]
theorem II (hr:aD.dH (aY us)) (e:aD.get us h=some v):gJ g (del h us)+g (h,v)=gJ g us:=by
 induction us with
 |nil=>cases e
 |cons p r ih=>
   rw [keys_cons] at hr
   obtain⟨h1,h2⟩:=aiB.1 hr
   rw [AX] at e
   rw [ZK]
   show _=g p+gJ g r
   split at e
   ·grind [adf]
   rename_i e2
   rw [aij e2]
   show g p+gJ g (del h r)+_=_
   have:=ih h2 e
   omega
theorem PB {us:bC V} (hr:aD.dH (aY us)):aD.dH (aY (del h us)):=by
 rw [vl]
 exact ajk _ hr
end sums
section agV
variable {n:ByteArray} {t:Th} {es:jc Th} {q:ByteArray×Th->Bool}
theorem WD:(kZ n t es).countP q=es.countP q+if q (n,t) then 1 else 0:=by
 induction es with
 |nil=>simp [kZ,List.countP_cons]
 |cons e r ih=>
   grind [kZ]
theorem WE {es:jc Th} (hd:qx es) (h:bK n es=some t):(kS n es).countP q+(if q (n,t) then 1 else 0)=es.countP q:=by
 induction es with
 |nil=>cases h
 |cons e r ih=>
   obtain⟨h1,h2⟩:=aiB.1 hd
   rw [qF] at h
   rw [List.countP_cons]
   by_cases he:e.1=n
   ·rw [aik he] at h
    have e1:kS n (e::r)=r:=by
     unfold kS
     rw [List.filter_cons,aij (by simp [he])]
     exact List.filter_eq_self.2 (λx hx=>Pe)
    grind
   grind [kS,qx,bK]
theorem PD {e:ByteArray×Th} {es:jc Th} (h:e∈kS n es):e∈es/\e.1≠n:=by
 grind [kS]
theorem AY {es:jc Th} (hd:qx es) (h:(n,t)∈es):bK n es=some t:=by
 induction es with
 |nil=>cases h
 |cons e r ih=>
   obtain⟨h1,h2⟩:=aiB.1 hd
   grind [qF,qx,bK]
end agV
def aQ (aq:bC Th) (t:Th):Prop:=aD.get aq (t.k:Int)=some t
def qd (es:jc Th):Prop:=es.Pairwise (λa b=>¬jF b.1 a.1)
def nP (aq:bC Th) (O:dZ) (k:Nat):Nat:=gJ (λp=>(af O p.2.k).ah.countP (λe=>decide (e.2.k=k))) aq
def tot (aq:bC Th) (O:dZ):Nat:=gJ (λp=>(af O p.2.k).ah.length) aq
def bytes (aq:bC Th) (O:dZ):Nat:=gJ (λp=>(af O p.2.k).data.length) aq
def hnd (us:bC Th) (k:Nat):Nat:=gJ (λp=>if p.2.k=k then 1 else 0) us
structure rK (o:bJ):Prop where
 mode:0<=o.mode/\o.mode<=4095
 bg:0<=o.bg/\o.bg<=2147483647
 bh:0<=o.bh/\o.bh<=2147483647
 time:fU o.aT o.aJ
 data:o.kind≠1->o.data=[]
 ah:o.kind≠2->o.ah=[]
 target:dG o.kind o.target
structure Inv0 (S:br):Prop where
 cN:0<=S.X.cN/\S.X.cN<=4096
 cB:0<=S.X.cB/\S.X.cB<=1099511627776
 cH:0<=S.X.cH/\S.X.cH<=1024
 now:fU S.X.cS S.X.cZ
 last:0<=S.X.last/\S.X.last<=1099511627776
 fD:aD.dH (aY S.aq)
 len:S.aq.length<=4096
 aq:∀i t,aD.get S.aq i=some t->i=(t.k:Int)/\0<i/\i<=S.X.last
 ob:∀t,aQ S.aq t->(af S.O t.k).id=(t.k:Int)/\(af S.O t.k).kind=t.kind/\(t.kind=1\/t.kind=2\/t.kind=3)
 mt:∀t,aQ S.aq t->rK (af S.O t.k)
 ah:∀t,aQ S.aq t->∀e∈(af S.O t.k).ah,ck e.1/\aQ S.aq e.2
 sorted:∀t,aQ S.aq t->qd (af S.O t.k).ah
 dead:∀k,(∀t,aQ S.aq t->t.k≠k)->(af S.O k).ah=[]/\(af S.O k).up=none
 zF:∀k:Nat,S.X.last<(k:Int)->(af S.O k).kind=0
 total:S.X.ah=(tot S.aq S.O:Int)/\S.X.ah<=8192
 aS:∀t,aQ S.aq t->(af S.O t.k).aS=(nP S.aq S.O t.k:Int)
 once:∀t,aQ S.aq t->t.kind=2->(af S.O t.k).aS<=1
 aK:∀t,aQ S.aq t->(af S.O t.k).aK=(hnd S.us t.k:Int)
 usr:aD.dH (aY S.us)
 yE:∀x∈aY S.us,1<=x/\x<=S.aI
 Hf:(S.us.length:Int)<=S.X.cH
 aI:0<=S.aI/\S.aI<=S.X.cH
 us:∀h t,aD.get S.us h=some t->aQ S.aq t/\t.kind≠3
 aE:∀t,aQ S.aq t->(af S.O t.k).aE=true->(af S.O t.k).aS=0/\(af S.O t.k).ah=[]
 up:∀t,aQ S.aq t->∀d,(af S.O t.k).up=some d↔t.kind=2/\aQ S.aq ⟨d,2⟩/\∃n,bK n (af S.O d).ah=some t
 deep:∃dp:Nat->Nat,∀k d,(af S.O k).up=some d->dp d<dp k
 used:S.X.used=(bytes S.aq S.O:Int)/\S.X.used<=140737488355328
structure bO (S:br):Prop extends Inv0 S where
 full:∀t,aQ S.aq t->(af S.O t.k).aE=true->0<(af S.O t.k).aK
section at_
variable {X:FM} {O:dZ} {d k:Nat} {name:ByteArray} {t:Th}
theorem lH (h:t.k≠d):af (bn X O d name t) k=if k=d then {af O d with ah:=kS name (af O d).ah,aT:=X.cS,aJ:=X.cZ} else if k=t.k then {af O k with aS:=(af O k).aS-1} else af O k:=by
 grind [bn,yA,jd,fq]
theorem tM (h:t.k≠d):af (dg X O d name t) k=if k=d then {af O d with ah:=kZ name t (af O d).ah,aT:=X.cS,aJ:=X.cZ} else if k=t.k then {af O k with aS:=(af O k).aS+1,up:=if t.kind=2 then some d else (af O k).up} else af O k:=by
 grind [dg,yA,vk,fq,jd]
end at_
section counts
variable {aq:bC Th} {O O':dZ} {d k:Nat} {n:ByteArray} {t:Th}
theorem PE {q:ByteArray×Th->Bool} (hr:aD.dH (aY aq)) (hd:aD.get aq (d:Int)=some ⟨d,2⟩) (hk:∀i u,aD.get aq i=some u->i=(u.k:Int)) (ho:∀x,x≠d->(af O' x).ah=(af O x).ah) (h1:(af O' d).ah=kS n (af O d).ah) (h2:qx (af O d).ah) (h3:bK n (af O d).ah=some t) :
 gJ (λp=>(af O' p.2.k).ah.countP q) aq+(if q (n,t) then 1 else 0)=gJ (λp=>(af O p.2.k).ah.countP q) aq:=by
 grind [IG,af,oR,WE,kS,gJ]
theorem ZL {q:ByteArray×Th->Bool} (hr:aD.dH (aY aq)) (hd:aD.get aq (d:Int)=some ⟨d,2⟩) (hk:∀i u,aD.get aq i=some u->i=(u.k:Int)) (ho:∀x,x≠d->(af O' x).ah=(af O x).ah) (h1:(af O' d).ah=kZ n t (af O d).ah) :
 gJ (λp=>(af O' p.2.k).ah.countP q) aq=gJ (λp=>(af O p.2.k).ah.countP q) aq+(if q (n,t) then 1 else 0):=by
 grind [IG,af,oR,WD,kZ,gJ]
theorem yG:tot aq O=gJ (λp=>(af O p.2.k).ah.countP (λ_=>true)) aq:=lX (λp _=>aii)
theorem WH {q:ByteArray×Th->Bool} (ho:∀x,(af O' x).ah=(af O x).ah):gJ (λp=>(af O' p.2.k).ah.countP q) aq=gJ (λp=>(af O p.2.k).ah.countP q) aq:=lX (λp _=>by rw [ho])
theorem WI:nP aq O k<=tot aq O:=by
 rw [yG]
 exact S8 (λp _=>List.countP_mono_left (λ_ _ _=>rfl))
theorem rL (hd:aD.get aq (d:Int)=some ⟨d,2⟩) (h:bK n (af O d).ah=some t):0<nP aq O t.k:=by
 exact aiG (List.countP_pos_iff.2 ⟨(n,t),r9 h,aii⟩) (tf (g:=λp=>(af O p.2.k).ah.countP (λe=>decide (e.2.k=t.k))) hd)
theorem JX (hr:aD.dH (aY aq)) (h:0<nP aq O k):∃i u,aD.get aq i=some u/\∃e∈(af O u.k).ah,e.2.k=k:=by
 apply aiI
 intro hn
 have:nP aq O k=gJ (λ_=>0) aq:=lX (λp hp=>by
  show List.countP _ _=0
  rw [List.countP_eq_zero]
  intro e he hk
  exact hn ⟨p.1,p.2,oR hr hp,e,he,by simpa using hk⟩)
 have h0:∀us:bC Th,gJ (λ_=>0) us=0:=λus=>by
  induction us with
  |nil=>rfl
  |cons p r ih=>show 0+_=0;rw [ih]
 rw [this,h0] at h
 omega
end counts
section inv
variable {S:br} {d k:Nat} {name:ByteArray} {t u:Th}
theorem Inv0.key (h:Inv0 S) {i:Int} (e:aD.get S.aq i=some t):i=(t.k:Int):=(h.aq i t e).1
theorem Inv0.live (h:Inv0 S) {i:Int} (e:aD.get S.aq i=some t):aQ S.aq t:=by
 have:=h.key e
 subst this
 exact e
theorem jy {aq:bC Th} (h1:aQ aq t) (h2:aQ aq u) (e:t.k=u.k):t=u:=by
 grind [aQ]
theorem Inv0.kind (h:Inv0 S) (hl:aQ S.aq t):(af S.O t.k).kind=t.kind:=(h.ob t hl).2.1
theorem Uy {x:ByteArray}:jF x x:=by unfold jF;simp
theorem qd.qf {es:jc Th} (h:qd es):qx es:=List.Pairwise.imp (λ{a b} dR e=>dR (by rw [e];exact Uy)) h
theorem Inv0.qf (h:Inv0 S) (hl:aQ S.aq t):qx (af S.O t.k).ah:=(h.sorted t hl).qf
theorem Inv0.bS (h:Inv0 S) (hd:aQ S.aq u) (hl:bK name (af S.O u.k).ah=some t):ck name/\aQ S.aq t:=h.ah u hd _ (r9 hl)
theorem Inv0.ne (h:Inv0 S) (hd:aQ S.aq ⟨d,2⟩) (hl:bK name (af S.O d).ah=some t):t.k≠d:=λe=>by
 have h1:=(h.bS hd hl).2
 have h2:t=⟨d,2⟩:=jy h1 hd e
 subst h2
 have h3:=(h.up _ hd d).2 ⟨rfl,hd,name,hl⟩
 obtain⟨dp,hdp⟩:=h.deep
 have:dp d<dp d:=hdp _ _ h3
 omega
theorem Inv0.free (h:Inv0 S) (hk:S.X.last<(k:Int)) (hl:aQ S.aq t):t.k≠k:=λe=>by
 have:=(h.aq _ t hl).2.2
 subst e
 omega
theorem rK.of {o o':bJ} (h:rK o) (e1:o'.mode=o.mode) (e2:o'.bg=o.bg) (e3:o'.bh=o.bh) (e4:fU o'.aT o'.aJ) (e5:o'.kind=o.kind) (e6:o'.data=o.data\/o.kind=1) (e7:o'.ah=o.ah\/o.kind=2) (e8:o'.target=o.target):rK o':=
 ⟨e1 ▸ h.mode,e2 ▸ h.bg,e3 ▸ h.bh,e4,λhk=>by
  rw [e5] at hk
  rcases e6 with e|e
  ·rw [e];exact h.data hk
  ·exact ain e hk,λhk=>by
  rw [e5] at hk
  rcases e7 with e|e
  ·rw [e];exact h.ah hk
  exact ain e hk,by rw [e5,e8];exact h.target⟩
theorem Inv0.own (h:Inv0 S) {f:bJ->bJ} {tE lY:Int} {us':bC Th} (f1:∀o,(f o).id=o.id) (f2:∀o,(f o).kind=o.kind) (f3:∀o,(f o).ah=o.ah) (f4:∀o,(f o).up=o.up) (f5:∀o,(f o).aS=o.aS) (f6:∀o,(f o).aE=o.aE)
 (hm:∀t,aQ S.aq t->t.k=k->rK (f (af S.O k))) (ho:∀t,aQ S.aq t->(af (aX S.O k f) t.k).aK=(hnd us' t.k:Int))
 (u1:aD.dH (aY us')) (u2:∀x∈aY us',1<=x/\x<=lY) (u3:(us'.length:Int)<=S.X.cH) (u4:0<=lY/\lY<=S.X.cH) (u5:∀h t,aD.get us' h=some t->aQ S.aq t/\t.kind≠3)
 (hu:tE=(bytes S.aq (aX S.O k f):Int)/\tE<=140737488355328):Inv0 {S with X:={S.X with used:=tE},O:=aX S.O k f,us:=us',aI:=lY}:=by
 have g1:∀x,(af (aX S.O k f) x).id=(af S.O x).id:=λx=>ez (g:=bJ.id) f1
 have g2:∀x,(af (aX S.O k f) x).kind=(af S.O x).kind:=λx=>ez (g:=bJ.kind) f2
 have g3:∀x,(af (aX S.O k f) x).ah=(af S.O x).ah:=λx=>ez (g:=bJ.ah) f3
 have g4:∀x,(af (aX S.O k f) x).up=(af S.O x).up:=λx=>ez (g:=bJ.up) f4
 have g5:∀x,(af (aX S.O k f) x).aS=(af S.O x).aS:=λx=>ez (g:=bJ.aS) f5
 have g6:∀x,(af (aX S.O k f) x).aE=(af S.O x).aE:=λx=>ez (g:=bJ.aE) f6
 refine {h with ob:=λt hl=>?_,mt:=λt hl=>?_,ah:=λt hl=>?_,sorted:=λt hl=>?_,dead:=λx hx=>?_,zF:=λx hx=>by rw [g2];exact h.zF x hx,total:=?_,aS:=λt hl=>?_,once:=λt hl=>?_,aK:=ho,usr:=u1,yE:=u2,Hf:=u3,aI:=u4,us:=u5,aE:=λt hl=>?_,up:=λt hl e=>?_,deep:=?_,used:=hu}
 ·rw [g1,g2];exact h.ob t hl
 ·show rK (af (aX S.O k f) t.k)
  by_cases e:t.k=k
  ·rw [e,fq];exact hm t hl e
  rw [jd e];exact h.mt t hl
 ·rw [g3];exact h.ah t hl
 ·rw [g3];exact h.sorted t hl
 ·rw [g3,g4];exact h.dead x hx
 ·have:tot S.aq (aX S.O k f)=tot S.aq S.O:=lX (λp _=>by rw [g3])
  show S.X.ah=(tot S.aq (aX S.O k f):Int)/\_
  rw [this];exact h.total
 ·show (af (aX S.O k f) t.k).aS=(nP S.aq (aX S.O k f) t.k:Int)
  have:nP S.aq (aX S.O k f) t.k=nP S.aq S.O t.k:=WH g3
  rw [g5,this];exact h.aS t hl
 ·rw [g5];exact h.once t hl
 ·rw [g6,g5,g3];exact h.aE t hl
 ·grind [af,aX,up,aQ,bK]
 obtain⟨dp,hdp⟩:=h.deep
 exact⟨dp,λx e he=>hdp x e (by rw [g4] at he;exact he)⟩
def zG (S:br) (t:Th):br:={S with X:={S.X with used:=qG S.O S.X.used t},aq:=lC S.O S.aq t}
theorem Inv0.zG (h:Inv0 S) (ht:aQ S.aq t) (hf:∀u,aQ S.aq u->u≠t->(af S.O u.k).aE=true->0<(af S.O u.k).aK):bO (Proofs.YtbnfiigafobejaaGreat.zG S t):=by
 by_cases hF:uT S.O t
 ·have e1:Proofs.YtbnfiigafobejaaGreat.zG S t={S with X:={S.X with used:=S.X.used-(af S.O t.k).data.length},aq:=del (t.k:Int) S.aq}:=by
   unfold Proofs.YtbnfiigafobejaaGreat.zG qG lC
   rw [aik hF,aik hF,(h.ob t ht).1]
   split
   ·rfl
   rename_i e
   have:=(h.mt t ht).data (by rw [h.kind ht];exact e)
   rw [this]
   simp
  rw [e1]
  obtain⟨hg,bW⟩:=hF
  obtain⟨eu,hen⟩:=h.aE t ht hg
  have kK:∀x,aQ (del (t.k:Int) S.aq) x↔aQ S.aq x/\x.k≠t.k:=λx=>by
   grind [aQ,zW]
  have hl0:nP S.aq S.O t.k=0:=by have:=h.aS t ht;omega
  have cu:∀x,aQ S.aq x->∀e∈(af S.O x.k).ah,e.2.k≠t.k:=λx hx e he hk=>by
   have:0<nP S.aq S.O t.k:=aiG (List.countP_pos_iff.2 ⟨e,he,by simpa using hk⟩) (tf (g:=λp=>(af S.O p.2.k).ah.countP (λe=>decide (e.2.k=t.k))) hx)
   omega
  have hsum:∀q:ByteArray×Th->Bool,gJ (λp=>(af S.O p.2.k).ah.countP q) (del (t.k:Int) S.aq)=gJ (λp=>(af S.O p.2.k).ah.countP q) S.aq:=λq=>by
   have h1:=II (g:=λp:Int×Th=>(af S.O p.2.k).ah.countP q) h.fD ht
   grind
  refine {h with fD:=PB h.fD,len:=?_,aq:=λi x e=>?_,ob:=λx hx=>h.ob x ((kK x).1 hx).1,mt:=λx hx=>h.mt x ((kK x).1 hx).1,ah:=λx hx e he=>?_,sorted:=λx hx=>h.sorted x ((kK x).1 hx).1,dead:=λx hx=>?_,total:=?_,aS:=λx hx=>?_,once:=λx hx=>h.once x ((kK x).1 hx).1,aK:=λx hx=>h.aK x ((kK x).1 hx).1,us:=λi x e=>?_,aE:=λx hx=>h.aE x ((kK x).1 hx).1,up:=λx hx e=>?_,used:=?_,full:=λx hx hg=>hf x ((kK x).1 hx).1 (λe=>((kK x).1 hx).2 (by rw [e])) hg}
  ·have h1:=xg h.fD (get_some ht)
   have h2:=h.len
   show (del (t.k:Int) S.aq).length<=4096
   omega
  ·have e:aD.get (del (t.k:Int) S.aq) i=some x:=e
   rw [zW] at e
   split at e
   ·cases e
   exact h.aq i x e
  ·have hx':=((kK x).1 hx).1
   have h1:=h.ah x hx' e he
   exact⟨h1.1,(kK _).2 ⟨h1.2,cu x hx' e he⟩⟩
  ·by_cases e:x=t.k
   ·subst e
    refine⟨hen,?_⟩
    cases hu:(af S.O t.k).up with
    |none=>rfl
    |some y=>
      obtain⟨_,h2,n,h3⟩:=(h.up t ht y).1 hu
      exact ain rfl (cu _ h2 _ (r9 h3))
   exact h.dead x (λy hy e2=>hx y ((kK y).2 ⟨hy,λe3=>e (e2.symm.trans e3)⟩) e2)
  ·show S.X.ah=(tot (del (t.k:Int) S.aq) S.O:Int)/\_
   rw [yG,hsum,←yG];exact h.total
  ·show _=(nP (del (t.k:Int) S.aq) S.O x.k:Int)
   have:nP (del (t.k:Int) S.aq) S.O x.k=nP S.aq S.O x.k:=hsum _
   rw [this];exact h.aS x ((kK x).1 hx).1
  ·obtain⟨h1,h2⟩:=h.us i x e
   refine⟨(kK x).2 ⟨h1,λe2=>?_⟩,h2⟩
   have h3:=h.aK t ht
   have h4:0<hnd S.us t.k:=aiG (by simp [e2]) (tf (g:=λp:Int×Th=>if p.2.k=t.k then 1 else 0) e)
   omega
  ·rw [h.up x ((kK x).1 hx).1 e]
   constructor
   ·rintro⟨h1,h2,n,h3⟩
    refine⟨h1,(kK _).2 ⟨h2,λe2=>?_⟩,n,h3⟩
    have e2:e=t.k:=e2
    rw [e2,hen] at h3;cases h3
   grind
  obtain⟨h1,h2⟩:=h.used
  have h3:gJ (λp:Int×Th=>(af S.O p.2.k).data.length) (del (t.k:Int) S.aq)+(af S.O t.k).data.length=gJ (λp:Int×Th=>(af S.O p.2.k).data.length) S.aq:=II (g:=λp:Int×Th=>(af S.O p.2.k).data.length) h.fD ht
  grind [af,bytes,del]
 have e1:Proofs.YtbnfiigafobejaaGreat.zG S t=S:=by
  unfold Proofs.YtbnfiigafobejaaGreat.zG qG lC
  rw [aij hF,aij hF]
 rw [e1]
 refine {h with full:=λu hu hg=>?_}
 by_cases e:u=t
 ·subst e
  have h1:=h.aK u hu
  have:¬(af S.O u.k).aK=0:=λe=>hF ⟨hg,e⟩
  omega
 exact hf u hu e hg
end inv
section facts
variable {S:br} {X:FM} {O:dZ} {d k:Nat} {name:ByteArray} {t u:Th}
theorem eM {α:Type} {g:bJ->α} (h1:∀o es,g {o with ah:=es}=g o) (h2:∀o l,g {o with aS:=l}=g o) (h3:∀o a b,g {o with aT:=a,aJ:=b}=g o):g (af (bn X O d name t) k)=g (af O k):=by
 unfold bn yA
 rw [ez (λo=>h2 o _),ez (λo=>h3 o _ _),ez (λo=>h1 o _)]
theorem mG {α:Type} {g:bJ->α} (h1:∀o es,g {o with ah:=es}=g o) (h2:∀o l,g {o with aS:=l}=g o) (h3:∀o a b,g {o with aT:=a,aJ:=b}=g o) (h4:∀o u,g {o with up:=u}=g o):g (af (dg X O d name t) k)=g (af O k):=by
 unfold dg yA
 rw [ez (λo=>h3 o _ _),Iy h1 h2 h4]
theorem Inv0.hX (h:Inv0 S):0<=S.X.ah/\S.X.ah<=1048576/\-1125899906842624<=S.X.used/\S.X.used<=1125899906842624/\0<=S.X.last/\S.X.last<=1125899906842624:=by
 have:=h.total;have:=h.used;have:=h.last
 omega
theorem Inv0.lZ (h:Inv0 S) (hl:aQ S.aq t):(af S.O t.k).ah.length<=8192:=by
 have h1:=h.total
 have h2:(af S.O t.k).ah.length<=tot S.aq S.O:=tf (g:=λp:Int×Th=>(af S.O p.2.k).ah.length) hl
 omega
theorem Inv0.lb (h:Inv0 S) (hl:aQ S.aq t):0<=(af S.O t.k).aS/\(af S.O t.k).aS<=8192:=by
 have h1:=h.total
 have h2:=h.aS t hl
 grind [nP,tot,WI]
theorem aep {us:bC Th}:hnd us k<=us.length:=by
 have:hnd us k<=gJ (λ_=>1) us:=S8 (λp _=>by split<;>omega)
 have h2:∀us:bC Th,gJ (λ_=>1) us=us.length:=λus=>by
  induction us with
  |nil=>rfl
  |cons p r ih=>show 1+_=_;rw [ih,aiV];omega
 rw [h2] at this;exact this
theorem Inv0.MK (h:Inv0 S) (hl:aQ S.aq t):0<=(af S.O t.k).aK/\(af S.O t.k).aK<=1024:=by
 have h1:=h.aK t hl
 have h2:hnd S.us t.k<=S.us.length:=aep
 have:=h.Hf;have:=h.cH
 omega
theorem Inv0.PF (h:Inv0 S) (hl:aQ S.aq t):(af S.O t.k).data.length<=1125899906842624:=by
 have h1:=h.used
 have h2:(af S.O t.k).data.length<=bytes S.aq S.O:=tf (g:=λp:Int×Th=>(af S.O p.2.k).data.length) hl
 omega
theorem Inv0.Uz (h:Inv0 S) (hl:aQ S.aq t):(af S.O t.k).data.length<=140737488355328:=by
 have h1:=h.used
 have h2:(af S.O t.k).data.length<=bytes S.aq S.O:=tf (g:=λp:Int×Th=>(af S.O p.2.k).data.length) hl
 omega
theorem Inv0.WJ (h:Inv0 S) (hl:aQ S.aq t):(Lit.int .i64 (af S.O t.k).id).wf=true:=by
 have h1:=h.ob t hl
 have h2:=h.aq _ t hl
 have h3:=h.last
 exact WalkArith.wf_i64 zc
theorem Inv0.tF (h:Inv0 S) (hd:aQ S.aq ⟨d,2⟩) (name:ByteArray):bK name (af S.O d).ah=none\/(∃k,bK name (af S.O d).ah=some ⟨k,1⟩/\aQ S.aq ⟨k,1⟩)\/(∃k,bK name (af S.O d).ah=some ⟨k,2⟩/\aQ S.aq ⟨k,2⟩)\/∃k,bK name (af S.O d).ah=some ⟨k,3⟩/\aQ S.aq ⟨k,3⟩:=by
 cases e:bK name (af S.O d).ah with
 |none=>exact .inl rfl
 |some t=>
   obtain⟨k,kd⟩:=t
   have h1:=(h.bS hd e).2
   rcases (h.ob _ h1).2.2 with e2|e2|e2<;>subst e2
   all_goals grind
theorem Inv0.aer (h:Inv0 S) (i:Int):aD.get S.aq i=none\/(∃k,aD.get S.aq i=some ⟨k,1⟩/\aQ S.aq ⟨k,1⟩)\/(∃k,aD.get S.aq i=some ⟨k,2⟩/\aQ S.aq ⟨k,2⟩)\/∃k,aD.get S.aq i=some ⟨k,3⟩/\aQ S.aq ⟨k,3⟩:=by
 cases e:aD.get S.aq i with
 |none=>exact .inl rfl
 |some t=>
   obtain⟨k,kd⟩:=t
   have h1:=h.live e
   rcases (h.ob _ h1).2.2 with e2|e2|e2<;>subst e2
   all_goals grind
theorem Inv0.hand (h:Inv0 S) (i:Int):aD.get S.us i=none\/(∃k,aD.get S.us i=some ⟨k,1⟩/\aQ S.aq ⟨k,1⟩)\/∃k,aD.get S.us i=some ⟨k,2⟩/\aQ S.aq ⟨k,2⟩:=by
 cases e:aD.get S.us i with
 |none=>exact .inl rfl
 |some t=>
   obtain⟨k,kd⟩:=t
   obtain⟨h1,h0⟩:=h.us i _ e
   rcases (h.ob _ h1).2.2 with e2|e2|e2
   all_goals grind
theorem Inv0.af9 (h:Inv0 S) (hd:aQ S.aq ⟨d,2⟩) (hl:bK name (af S.O d).ah=some t):1<=S.X.ah:=by
 have h1:=h.total
 have h2:0<nP S.aq S.O t.k:=rL hd hl
 grind [nP,tot,WI]
theorem Inv0.Hg (h:Inv0 S) (hd:aQ S.aq ⟨d,2⟩) (hl:bK name (af S.O d).ah=some t):0<=S.X.ah-1/\S.X.ah-1<=1048576/\-1125899906842624<=S.X.used/\S.X.used<=1125899906842624/\0<=S.X.last/\S.X.last<=1125899906842624:=by
 have:=h.af9 hd hl;have:=h.hX
 omega
theorem xk {L:HL} {us:bC Th} {h:Int} (e:aD.get us h=none):aD.get (cV L us) h=none:=by
 unfold cV;rw [get_map,e];rfl
theorem qR {L:HL} {us:bC Th} {h:Int} (e:aD.get us h=some t):aD.get (cV L us) h=some (iB L t):=by
 unfold cV;rw [get_map,e];rfl
theorem zX {L:HL} {us:bC Th} {h:Int} (hn:aD.get us h=none):qA (cQ (cV L us)) (.int .i64 h) (some (iB L t))=cQ (cV L (ins h t us)):=by
 rw [Lw (get_none.1 (xk hn))]
 exact ail cQ (Lu (iB L) h t us).symm
theorem WK {L:HL} {us:bC Th}:aD.aP (cV L us)=aD.aP us:=by unfold aD.aP;rw [IC]
theorem Lz {TT:TypeId} {L:HL} {us:bC Th} {v:Value} {l:List HP} {b:Nat} {most aI:Int} (h:v=.tuple #[.int .i64 (aD.aP (cV L us)),.int .i64 0]/\l=[.abs (fX TT b most (max aI (((cV L us).length:Int)+1)) (ins (aD.aP (cV L us)) (iB L t) (cV L us)))]):v=.tuple #[.int .i64 (aD.aP us),.int .i64 0]/\l=[.abs (fX TT b most (max aI ((us.length:Int)+1)) (cV L (ins (aD.aP us) t us)))]:=by
 rw [WK,xj] at h
 have e:ins (aD.aP us) (iB L t) (cV L us)=cV L (ins (aD.aP us) t us):=(Lu (iB L) (aD.aP us) t us).symm
 rw [e] at h
 exact h
theorem ZM {α:Type} {es:jc α} {n:ByteArray} (h:es=[]):bK n es=none:=by rw [h];rfl
end facts
section blocks
variable {O:dZ} {L:HL} {k j:Nat} {t u:Th}
theorem Gw (hk:(af O k).kind≠0) {F:Fp} {w:World} (h:(aW (eE O L)).h F w):∃cs T,w.heap[L.b k]?=some (.cells cs T (0,0)):=by
 obtain⟨G,g⟩:=aW.at k h
 rw [sA hk] at g
 exact⟨_,_,g.1⟩
theorem S9 (hk:(af O k).kind≠0) (hj:(af O j).kind≠0) {F:Fp} {w:World} (h:(aW (eE O L)).h F w) (e:L.b k=L.b j):k=j:=by
 apply aiI
 intro cu
 obtain⟨φ,h1,h2,_⟩:=h
 have g1:=h1 k
 have g2:=h1 j
 rw [sA hk] at g1
 rw [sA hj] at g2
 exact h2 k j cu (L.b k) ((g1.2 _).2 rfl) ((g2.2 _).2 e)
theorem LA:Tryz.prog.underlying 144=some (.pointer 147):=KB
theorem ZN:Tryz.prog.underlying 138=some (.pointer 140):=KB
theorem ZO:Tryz.prog.underlying 141=some (.pointer 143):=KB
end blocks
theorem ZP {s:ByteArray}:0<=Lib.indexByte s.data.toList ((0:Int).toNat.toUInt8)↔¬rf s:=by
 have hge:=Lib.indexByte_ge s.data.toList ((0:Int).toNat.toUInt8)
 constructor
 ·intro h hn
  obtain⟨o,ho⟩:=Int.eq_ofNat_of_zero_le h
  have h1:=(Lib.indexByte_some ho).1
  obtain⟨h2,h3⟩:=E6 h1
  exact hn o h2 h3
 intro hn
 apply aiI
 intro fP
 refine hn (λj hj h0=>Lib.indexByte_none (show Lib.indexByte s.data.toList ((0:Int).toNat.toUInt8) = -1 by omega) j ?_)
 rw [xR hj]
 congr 1
 apply aiX.1
 exact h0
theorem RR {β:Bs} (s:ByteArray):aU Tryz.prog β 142 #[.string s,.int .u8 0] [] (λv l=>(∃x:Int,v=.int .i64 x/\(0<=x↔¬rf s))/\l=[]):=
 λ_ w hS=>(Tryz.strings_IndexByte s 0 w).mono λ_ _ ⟨h1,h2⟩=>⟨_,[],h1,⟨⟨_,rfl,ZP⟩,rfl⟩,h2 ▸ hS⟩
section ptr
variable {O:dZ} {L:HL} {k j:Nat}
theorem ZQ:∃j,Tryz.prog.info? 147=some j/\j.size≠0:=by
 have h:(match Tryz.prog.info? 147 with|some j=>j.size != 0|none=>false)=true:=KB
 grind
theorem WL {w:World} {o:Oper} {ev:Operand->Value} {x y:Operand} (ho:o.op=.binOp .eql 144 x y 144) (hx:ev x=.pointer (some ⟨L.b k,0,none⟩)) (hy:ev y=.pointer (some ⟨L.b j,0,none⟩)) (hk:(af O k).kind≠0) (hj:(af O j).kind≠0) {F:Fp} (hF:(aW (eE O L)).h F w) :
 tv Tryz.prog ev o w (.bool (decide (k=j))) w:=by
 obtain⟨dst,op,type,pos,after,guard⟩:=o
 cases ho
 refine .inl ?_
 simp only [execOp,hx,hy]
 obtain⟨ca,ta,ha⟩:=Gw hk hF
 obtain⟨cb,tb,hb⟩:=Gw hj hF
 obtain⟨i,hi,eG⟩:=ZQ
 have h1:(binOp .eql 144 (.pointer (some ⟨L.b k,0,none⟩)) (.pointer (some ⟨L.b j,0,none⟩))).run Tryz.prog w=.ok (.bool (decide (k=j))) w:=by
  by_cases e:k=j
  ·subst e
   rw [run_eql_ptr_same _ _ LA hi]
   simp
  rw [run_eql_ptr_other _ LA hi eG (λh=>e (S9 hk hj hF (ail Addr.block h))) ha hb]
  simp [e]
 simp [go_sem,eqGuard,h1]
def LB (tp te:TypeId):Prop:=Tryz.prog.underlying tp=some (.pointer te)/\(∃i,Tryz.prog.info? tp=some i/\i.comparable=true)/\∃j,Tryz.prog.info? te=some j/\j.size≠0
theorem LC {tp te:TypeId} (h1:Tryz.prog.underlying tp=some (.pointer te)) (h2:(match Tryz.prog.info? tp with|some j=>j.comparable|none=>false)=true) (h3:(match Tryz.prog.info? te with|some j=>j.size != 0|none=>false)=true):LB tp te:=by
 grind [LB]
theorem aes:LB 138 140:=LC ZN KB KB
theorem aga:LB 144 147:=LC LA KB KB
theorem aeu:LB 141 143:=LC ZO KB KB
theorem IJ {tp te:TypeId} (hT:LB tp te) {w:World} {o:Oper} {ev:Operand->Value} {x y:Operand} (ho:o.op=.binOp .eql 133 x y 133) (hx:ev x=.iface tp (.pointer (some ⟨L.b k,0,none⟩))) (hy:ev y=.iface tp (.pointer (some ⟨L.b j,0,none⟩))) (hk:(af O k).kind≠0) (hj:(af O j).kind≠0) {F:Fp} (hF:(aW (eE O L)).h F w) :
 tv Tryz.prog ev o w (.bool (decide (k=j))) w:=by
 obtain⟨dst,op,type,pos,after,guard⟩:=o
 cases ho
 refine .inl ?_
 simp only [execOp,hx,hy]
 obtain⟨ca,ta,ha⟩:=Gw hk hF
 obtain⟨cb,tb,hb⟩:=Gw hj hF
 obtain⟨g1,⟨i,hi,hc⟩,j',hj',eG⟩:=hT
 have h1:(binOp .eql 133 (.iface tp (.pointer (some ⟨L.b k,0,none⟩))) (.iface tp (.pointer (some ⟨L.b j,0,none⟩)))).run Tryz.prog w=.ok (.bool (decide (k=j))) w:=by
  by_cases e:k=j
  ·subst e
   rw [run_eql_iface_ptr_same _ _ Tryz.underlying133 g1 hi hc hj']
   simp
  rw [run_eql_iface_ptr_other _ Tryz.underlying133 g1 hi hc hj' eG (λh=>e (S9 hk hj hF (ail Addr.block h))) ha hb]
  simp [e]
 simp [go_sem,eqGuard,h1]
end ptr
structure BW (O:dZ) (aq us:bC Th) (k:Nat):Prop where
 up:∀x,(af O x).up≠some k
 ah:∀x,∀e∈(af O x).ah,e.2.k≠k
 aq:∀p∈aq,p.2.k≠k
 us:∀p∈us,p.2.k≠k
section fresh
variable {S:br} {O:dZ} {aq us:bC Th} {L L':HL} {k b m c:Nat} {A:Option Addr} {o:bJ} {t:Th}
theorem rN (h:Inv0 S):(bw S.X:Int)=S.X.last+1:=by
 have:=h.last
 unfold bw
 omega
theorem Inv0.Dk (h:Inv0 S) (ht:aQ S.aq t):t.k≠bw S.X:=h.free (by have:=rN h;omega) ht
theorem Inv0.LD (h:Inv0 S) (hk:S.X.last<(k:Int)):BW S.O S.aq S.us k:=by
 have key:∀x,(∃t,aQ S.aq t/\t.k=x)\/(af S.O x).ah=[]/\(af S.O x).up=none:=λx=>by
  by_cases hx:∃t,aQ S.aq t/\t.k=x
  ·exact .inl hx
  exact .inr (h.dead x (λt ht e=>hx ⟨t,ht,e⟩))
 refine⟨λx e=>?_,λx e he=>?_,λp hp=>(h.free hk (h.live (oR h.fD hp))),λp hp=>(h.free hk (h.us _ _ (oR h.usr hp)).1)⟩
 ·rcases key x with ⟨t,ht,rfl⟩|hx
  ·obtain⟨_,h2,_⟩:=(h.up t ht _).1 e
   exact h.free hk h2 rfl
  rw [hx.2] at e;cases e
 rcases key x with ⟨t,ht,rfl⟩|hx
 ·exact h.free hk (h.ah t ht e he).2
 rw [hx.1] at he;cases he
theorem Inv0.fresh (h:Inv0 S):BW S.O S.aq S.us (bw S.X):=h.LD (by have:=rN h;omega)
theorem DZ (hL:L'=L.put k b m A c) {x:Nat} (h:x≠k):L'.b x=L.b x:=by subst hL;exact aij h
theorem JY (hL:L'=L.put k b m A c):L'.b k=b:=by subst hL;exact aik rfl
theorem PG (hL:L'=L.put k b m A c):L'.m k=m:=by subst hL;exact aik rfl
theorem WM (hL:L'=L.put k b m A c) (h:t.k≠k):iB L' t=iB L t:=by unfold iB;rw [DZ hL h]
theorem vL (hL:L'=L.put k b m A c) (kind:Int):iB L' ⟨k,kind⟩=.iface (thT kind) (.pointer (some ⟨b,0,none⟩)):=by unfold iB;rw [JY hL]
theorem mD (hL:L'=L.put k b m A c) (h:∀p∈us,p.2.k≠k):cV L' us=cV L us:=aiW (λp hp=>by rw [WM hL (h p hp)])
theorem ZR {es:jc Th} {n:ByteArray} (h:∀e∈es,e.2.k≠k) (e:bK n es=some t):t.k≠k:=h _ (r9 e)
theorem ZS (hL:L'=L.put k b m A c) {es:jc Th} (h:∀e∈es,e.2.k≠k):nS L' es=nS L es:=by
 unfold nS
 congr 1
 funext n
 cases e:bK n es with
 |none=>rfl
 |some t=>exact ail some (WM hL (ZR h e))
theorem Ta (hL:L'=L.put k b m A c) (hf:BW O aq us k) {x:Nat} (h:x≠k):eE O L' x=eE O L x:=by
 have e1:=DZ hL h
 have e2:mh L' x (af O x)=mh L x (af O x):=by
  unfold mh Gs
  have h1:JQ L' (af O x).up=JQ L (af O x).up:=by
   cases hu:(af O x).up with
   |none=>rfl
   |some d=>show Value.pointer _=Value.pointer _;rw [DZ hL (λe=>hf.up x (by rw [hu,e]))]
  rw [h1]
  subst hL
  simp only [HL.put,aij h]
 unfold eE
 rw [e1,e2]
theorem LF (hL:L'=L.put k b m A c) (hf:BW O aq us k) {x:Nat} (h:x≠k):fZ O L' x=fZ O L x:=by
 unfold fZ
 rw [ZS hL (hf.ah x)]
 subst hL
 simp only [HL.put,aij h]
theorem Gx (hL:L'=L.put k b m A c) {x:Nat} (h:x≠k):dS O L' x=dS O L x:=by
 unfold dS
 subst hL
 simp only [HL.put,aij h]
end fresh
theorem Bb {O O':dZ} {L:HL} (h1:∀x,(af O' x).data=(af O x).data) (h2:∀x,(af O' x).kind=(af O x).kind):dS O' L=dS O L:=by
 funext x
 unfold dS
 rw [h1,h2]
theorem mU {X:FM} {O:dZ} {L:HL} {d:Nat} {name:ByteArray} {t:Th}:dS (dg X O d name t) L=dS O L:=
 Bb (λ_=>mG (g:=bJ.data) (λ_ _=>rfl) (λ_ _=>rfl) (λ_ _ _=>rfl) (λ_ _=>rfl)) (λ_=>RO)
theorem qI {X:FM} {O:dZ} {L:HL} {d:Nat} {name:ByteArray} {t:Th}:dS (bn X O d name t) L=dS O L:=
 Bb (λ_=>eM (g:=bJ.data) (λ_ _=>rfl) (λ_ _=>rfl) (λ_ _ _=>rfl)) (λ_=>fF)
theorem xq {α:Type} {g:bJ->α} {O:dZ} {k j:Nat} (h:∀o b,g {o with aE:=b}=g o):g (af (uf O j) k)=g (af O k):=ez (f:=λo=>{o with aE:=true}) (λo=>h o true)
theorem ZT {O:dZ} {L:HL} {k:Nat}:dS (uf O k) L=dS O L:=Bb (λ_=>xq (g:=bJ.data) (λ_ _=>rfl)) (λ_=>xq (g:=bJ.kind) (λ_ _=>rfl))
theorem vm {S:br} {L:HL} {d:Nat} {name:ByteArray} {t:Th}:dS (aZ S d name t).O L=dS S.O L:=by
 unfold aZ
 simp only
 split
 ·exact ZT.trans qI
 exact qI
theorem JZ {S:br} {d k:Nat} {name:ByteArray} {t:Th}:(af (aZ S d name t).O k).kind=(af S.O k).kind:=by
 unfold aZ
 simp only
 split
 ·exact (xq (g:=bJ.kind) (λ_ _=>rfl)).trans fF
 exact fF
theorem vM {X:FM} {O:dZ} {aq:bC Th} {d:Nat} {name:ByteArray} (h:gi X O aq d name=0):bK name (af O d).ah=none:=by
 grind [gi]
theorem CR {X:FM} {O:dZ} {aq:bC Th} {d:Nat} {name:ByteArray} (h:gi X O aq d name=0):Room X aq:=by
 grind [gi]
theorem xV {X:FM} {O:dZ} {aq:bC Th} {d:Nat} {name:ByteArray} (h:gi X O aq d name=0):X.last<1099511627776:=(CR h).2.1
section sat
variable {β:Bs} {l l':List HP} {w:World} {i j k b m c:Nat} {O:dZ} {us:bC Th} {idx' us':bC Th} {L L':HL} {cs:List Value} {T:TypeId} {ix:List Nat} {A:Option Addr} {o:bJ} {R R':Nat->d9}
theorem aR.less {p p':HP} (h:aR β l w) (hp:l[i]?=some p) (hs:∀F,p.h F w->∃F',p'.h F' w/\∀x,F' x->F x):aR β (l.set i p') w:=
 h.set hp (λF hF=>let ⟨F',h1,h2⟩:=hs F hF;⟨F',h1,⟨cF.refl _ _,λk hk=>.inl (h2 k hk)⟩⟩)
theorem aR.Fm (h:aR β l w) (hp:l[i]?=some (.abs (aW R))) (k:Nat) (hR:∀x,x≠k->R' x=R x) (ha:R' k=d9.none):aR β (l.set i (.abs (aW R'))) w:=by
 refine h.less hp ?_
 rintro F ⟨φ,h1,h2,h3⟩
 refine⟨λx=>∃i,i≠k/\φ i x,⟨λi=>if i=k then λ_=>False else φ i,λi=>?_,λi j cu x hx hy=>?_,λx=>⟨λ⟨i,cu,hx⟩=>⟨i,by simpa [cu] using hx⟩,λ⟨i,hx⟩=>?_⟩⟩,λx ⟨i,_,hx⟩=>(h3 x).2 ⟨i,hx⟩⟩
 ·by_cases e:i=k
  ·subst e;simp only [if_true];rw [ha];exact λ_ h=>h
  grind
 ·by_cases e1:i=k
  ·simp [e1] at hx
  by_cases e2:j=k
  ·simp [e2] at hy
  exact h2 i j cu x (by simpa [e1] using hx) (by simpa [e2] using hy)
 by_cases e1:i=k
 ·simp [e1] at hx
 exact⟨i,e1,by simpa [e1] using hx⟩
theorem aR.BZ (h:aR β l w) (hL:L'=L.put k b m A c) (hf:BW O idx' us' k) (hp:l[i]?=some (.abs (aW (eE O L)))) (hq:l[j]?=some (.ax b cs T)) (hd:cC (i::j::ix)=true) (hl:cU l ix=some l') (h0:o.kind≠0) (hc:mh L' k o=cs) (hT:tq o.kind=T):aR β (.abs (aW (eE (aX O k (λ_=>o)) L'))::l') w:=by
 refine h.xU (a:=Ix b cs T) hp hq (λ_ _ h=>h) hd hl k (λx hx=>?_) (by grind [Dh,JY])
 rw [Di hx,Ta hL hf hx]
theorem aR.ab6 (h:aR β l w) (hL:L'=L.put k b m A c) (hf:BW O idx' us' k) (hp:l[i]?=some (.abs (aW (fZ O L)))) (hq:l[j]?=some (.abs (bM Tryz.prog 9 m (λ_=>none) 0))) (hd:cC (i::j::ix)=true) (hl:cU l ix=some l') (h2:o.kind=2) (he:o.ah=[]):aR β (.abs (aW (fZ (aX O k (λ_=>o)) L'))::l') w:=by
 refine h.xU hp hq (λ_ _ h=>h) hd hl k (λx hx=>by rw [Fb hx,LF hL hf hx]) ?_
 grind [vJ,fq,Zz,PG]
theorem aR.Dl (h:aR β l w) (hL:L'=L.put k b m A c) (hf:BW O idx' us' k) (hp:l[i]?=some (.abs (aW (fZ O L)))) (h2:o.kind≠2):aR β (l.set i (.abs (aW (fZ (aX O k (λ_=>o)) L')))) w:=by
 refine h.Fm hp k (λx hx=>by rw [Fb hx,LF hL hf hx]) ?_
 unfold fZ;rw [fq,aij h2]
theorem aR.J0 (h:aR β l w) (hL:L'=L.put k b m A c) (hp:l[i]?=some (.abs (aW (dS O L)))) (h1:o.kind≠1):aR β (l.set i (.abs (aW (dS (aX O k (λ_=>o)) L')))) w:=by
 refine h.Fm hp k (λx hx=>by rw [Fc hx,Gx hL hx]) ?_
 unfold dS;rw [fq,aij h1]
theorem aR.UA (h:aR β l w) (hL:L'=L.put k b m none 0) (hp:l[i]?=some (.abs (aW (dS O L)))) (hq:l[j]?=some (.abs (aF 5 1 none 0 0 []))) (hd:cC (i::j::ix)=true) (hl:cU l ix=some l') (h1:o.kind=1) (he:o.data=[]):aR β (.abs (aW (dS (aX O k (λ_=>o)) L'))::l') w:=by
 refine h.xU hp hq (λ_ _ h=>h) hd hl k (λx hx=>by rw [Fc hx,Gx hL hx]) ?_
 rw [AR (by rw [fq];exact h1),fq,he]
 subst hL
 simp only [HL.put,if_true]
 rfl
end sat
section inv
variable {S:br} {d:Nat} {name:ByteArray} {t:Th} {O':dZ}
theorem qd.del {es:jc Th} (h:qd es):qd (kS name es):=ajk _ h
theorem J1 {x y:ByteArray}:¬jF x y↔vX y x<0:=by
 unfold jF
 rw [EP,Lib.toList_data,Lib.toList_data]
 have h1:=@Mr x.data.toList y.data.toList
 grind [Mu,ES,vX]
theorem qd.ins {es:jc Th} (h:qd es) (hn:bK name es=none):qd (kZ name t es):=by
 induction es with
 |nil=>exact List.pairwise_singleton ..
 |cons e r ih=>
   obtain⟨h1,h2⟩:=aiB.1 h
   have jW:=DV.1 hn
   unfold kZ
   split
   ·rename_i fP
    refine aiB.2 ⟨λx hx=>?_,h⟩
    grind [J1,JB]
   rename_i dL
   refine aiB.2 ⟨λx hx=>?_,ih h2 (DV.2 (λx hx=>jW x (aiv _ hx)))⟩
   grind [Iu,J1,vX,ES,Mu]
theorem Inv0.cut (hI:Inv0 S) (hd:aQ S.aq ⟨d,2⟩) (hl:bK name (af S.O d).ah=some t) {g:Bool}
 (hO:∀k,af O' k=if k=d then {af S.O d with ah:=kS name (af S.O d).ah,aT:=S.X.cS,aJ:=S.X.cZ} else if k=t.k then {af S.O k with aS:=(af S.O k).aS-1,aE:=g,up:=none} else af S.O k)
 (hg:g=(af S.O t.k).aE\/(af S.O t.k).aS-1=0/\(t.kind=2->(af S.O t.k).ah=[])):Inv0 {S with X:={S.X with ah:=S.X.ah-1},O:=O' }:=by
 have cu:=hI.ne hd hl
 have ht:=(hI.bS hd hl).2
 have oD:af O' d={af S.O d with ah:=kS name (af S.O d).ah,aT:=S.X.cS,aJ:=S.X.cZ}:=by rw [hO,aik rfl]
 have oT:af O' t.k={af S.O t.k with aS:=(af S.O t.k).aS-1,aE:=g,up:=none}:=by rw [hO,aij cu,aik rfl]
 have oX:∀x,x≠d->x≠t.k->af O' x=af S.O x:=Pe
 have Hj:∀{α:Type} (G:bJ->α),(∀o es a b,G {o with ah:=es,aT:=a,aJ:=b}=G o)->(∀o l g,G {o with aS:=l,aE:=g,up:=none}=G o)->∀x,G (af O' x)=G (af S.O x):=λG h1 h2 x=>by
  grind
 have fId:=Hj bJ.id (λ_ _ _ _=>rfl) (λ_ _ _=>rfl)
 have J2:=Hj bJ.kind (λ_ _ _ _=>rfl) (λ_ _ _=>rfl)
 have UB:=Hj bJ.data (λ_ _ _ _=>rfl) (λ_ _ _=>rfl)
 have fOp:=Hj bJ.aK (λ_ _ _ _=>rfl) (λ_ _ _=>rfl)
 have fE:∀x,x≠d->(af O' x).ah=(af S.O x).ah:=λx hx=>by
  grind
 have ML:(af O' d).ah=kS name (af S.O d).ah:=by rw [oD]
 have eu:0<nP S.aq S.O t.k:=rL hd hl
 have fP:=hI.aS t ht
 have hky:∀i u,aD.get S.aq i=some u->i=(u.k:Int):=λi u e=>hI.key e
 have hsum:∀q:ByteArray×Th->Bool,_:=λq=>PE (q:=q) hI.fD hd hky fE ML (hI.qf hd) hl
 have ZU:∀x,nP S.aq O' x+(if t.k=x then 1 else 0)=nP S.aq S.O x:=λx=>by
  have h1:=hsum (λe=>decide (e.2.k=x))
  simp only [decide_eq_true_eq] at h1
  exact h1
 refine {hI with ob:=λx hx=>?_,mt:=λx hx=>?_,ah:=λx hx e he=>?_,sorted:=λx hx=>?_,dead:=λx hx=>?_,zF:=λx hx=>(J2 x).trans (hI.zF x hx),total:=?_,aS:=λx hx=>?_,once:=λx hx hk=>?_,aK:=λx hx=>?_,aE:=λx hx oU=>?_,up:=λx hx e=>?_,deep:=?_,used:=?_}
 ·show (af O' x.k).id=_/\(af O' x.k).kind=_/\_
  rw [fId,J2];exact hI.ob x hx
 ·show rK (af O' x.k)
  have hm:=hI.mt x hx
  by_cases e:x.k=d
  ·rw [e] at hm ⊢
   rw [oD]
   exact hm.of rfl rfl rfl hI.now rfl (.inl rfl) (.inr (hI.kind hd)) rfl
  by_cases e2:x.k=t.k
  ·rw [e2] at hm ⊢
   rw [oT]
   exact hm.of rfl rfl rfl hm.time rfl (.inl rfl) (.inl rfl) rfl
  rw [oX _ e e2];exact hm
 ·by_cases e1:x.k=d
  ·have he:e∈(af O' x.k).ah:=he
   rw [e1,ML] at he
   exact hI.ah _ hd e (PD he).1
  have he:e∈(af O' x.k).ah:=he
  rw [fE _ e1] at he
  exact hI.ah x hx e he
 ·show qd (af O' x.k).ah
  by_cases e1:x.k=d
  ·rw [e1,ML];exact qd.del (hI.sorted _ hd)
  rw [fE _ e1];exact hI.sorted x hx
 ·show (af O' x).ah=[]/\(af O' x).up=none
  rw [oX x (λe=>hx _ hd e.symm) (λe=>hx t ht e.symm)]
  exact hI.dead x hx
 ·have h1:=hsum (λ_=>true)
  have h2:=hI.total
  grind [yG,tot]
 ·show (af O' x.k).aS=(nP S.aq O' x.k:Int)
  have h1:=ZU x.k
  have h2:=hI.aS x hx
  grind
 ·show (af O' x.k).aS<=1
  have h1:=hI.once x hx hk
  grind
 ·show (af O' x.k).aK=_
  rw [fOp];exact hI.aK x hx
 ·have oU:(af O' x.k).aE=true:=oU
  show (af O' x.k).aS=0/\(af O' x.k).ah=[]
  by_cases e2:x.k=t.k
  ·rw [e2] at oU ⊢
   rw [fE _ cu,oT]
   rw [oT] at oU
   show (af S.O t.k).aS-1=0/\_
   rcases hg with h|⟨h1,h2⟩
   ·have oU:g=true:=oU
    rw [h] at oU
    have:=(hI.aE t ht oU).1
    omega
   refine⟨h1,?_⟩
   by_cases hk:t.kind=2
   ·exact h2 hk
   exact (hI.mt t ht).ah (by rw [hI.kind ht];exact hk)
  by_cases e:x.k=d
  ·rw [e,oD] at oU
   have:=(hI.aE _ hd oU).2
   rw [ZM this] at hl;cases hl
  rw [oX _ e e2] at oU ⊢;exact hI.aE x hx oU
 ·show (af O' x.k).up=some e↔x.kind=2/\aQ S.aq ⟨e,2⟩/\∃n,bK n (af O' e).ah=some x
  by_cases e2:x.k=t.k
  ·have MN:x=t:=jy hx ht e2
   subst MN
   rw [oT]
   constructor
   ·intro h;cases h
   rintro⟨hk,dL,n,hn⟩
   have h1:=hI.once x hx hk
   grind [nP,rL,aQ,bK,af,kS,up]
  have h1:(af O' x.k).up=(af S.O x.k).up:=by
   grind
  have h2:∀n,bK n (af O' e).ah=some x↔bK n (af S.O e).ah=some x:=λn=>by
   grind [yx]
  rw [h1,hI.up x hx e]
  simp only [h2]
 ·obtain⟨dp,hdp⟩:=hI.deep
  refine⟨dp,λx e hx=>?_⟩
  grind
 have:bytes S.aq O'=bytes S.aq S.O:=lX (λp _=>by rw [UB])
 show S.X.used=(bytes S.aq O':Int)/\_
 rw [this];exact hI.used
theorem UC {O O1:dZ} {s k:Nat} (h:∀x e,(af O1 x).up=some e->(af O x).up=some e) (hb:sV O1 s k):sV O s k:=by
 induction hb with
 |here=>exact .here
 |up hu _ ih=>exact .up (h _ _ hu) ih
theorem MO {O:dZ} {s k:Nat}:sV O s k↔k=s\/∃e,(af O k).up=some e/\sV O s e:=by
 constructor
 ·rintro (_|⟨h1,h2⟩)
  ·exact .inl rfl
  exact .inr ⟨_,h1,h2⟩
 rintro (h|⟨e,h1,h2⟩)
 ·subst h;exact .here
 exact .up h1 h2
theorem Inv0.put (hI:Inv0 S) (hd:aQ S.aq ⟨d,2⟩) (mr:(af S.O d).aE=false) (hn:bK name (af S.O d).ah=none) (j7:ck name) (ht:aQ S.aq t) (S5:(af S.O t.k).aE=false) (aev:t.kind=2->(af S.O t.k).aS=0/\¬sV S.O t.k d) (htd:t.k≠d) (hroom:S.X.ah<8192) {ta tb:Int} (htm:fU ta tb)
 (hO:∀k,af O' k=if k=d then {af S.O d with ah:=kZ name t (af S.O d).ah,aT:=ta,aJ:=tb} else if k=t.k then {af S.O k with aS:=(af S.O k).aS+1,up:=if t.kind=2 then some d else (af S.O k).up} else af S.O k) :
 Inv0 {S with X:={S.X with ah:=S.X.ah+1},O:=O' }:=by
 have cu:=htd
 have oD:af O' d={af S.O d with ah:=kZ name t (af S.O d).ah,aT:=ta,aJ:=tb}:=by rw [hO,aik rfl]
 have oT:af O' t.k={af S.O t.k with aS:=(af S.O t.k).aS+1,up:=if t.kind=2 then some d else (af S.O t.k).up}:=by rw [hO,aij cu,aik rfl]
 have oX:∀x,x≠d->x≠t.k->af O' x=af S.O x:=Pe
 have Hj:∀{α:Type} (G:bJ->α),(∀o es a b,G {o with ah:=es,aT:=a,aJ:=b}=G o)->(∀o l u,G {o with aS:=l,up:=u}=G o)->∀x,G (af O' x)=G (af S.O x):=λG h1 h2 x=>by
  grind
 have fId:=Hj bJ.id (λ_ _ _ _=>rfl) (λ_ _ _=>rfl)
 have J2:=Hj bJ.kind (λ_ _ _ _=>rfl) (λ_ _ _=>rfl)
 have UB:=Hj bJ.data (λ_ _ _ _=>rfl) (λ_ _ _=>rfl)
 have fOp:=Hj bJ.aK (λ_ _ _ _=>rfl) (λ_ _ _=>rfl)
 have fG:=Hj bJ.aE (λ_ _ _ _=>rfl) (λ_ _ _=>rfl)
 have fE:∀x,x≠d->(af O' x).ah=(af S.O x).ah:=λx hx=>by
  grind
 have ML:(af O' d).ah=kZ name t (af S.O d).ah:=by rw [oD]
 have hky:∀i u,aD.get S.aq i=some u->i=(u.k:Int):=λi u e=>hI.key e
 have hsum:∀q:ByteArray×Th->Bool,_:=λq=>ZL (q:=q) hI.fD hd hky fE ML
 have ZU:∀x,nP S.aq O' x=nP S.aq S.O x+(if t.k=x then 1 else 0):=λx=>by
  have h1:=hsum (λe=>decide (e.2.k=x))
  simp only [decide_eq_true_eq] at h1
  exact h1
 have fP:=hI.aS t ht
 have ahY:t.kind=2->∀e n,aQ S.aq ⟨e,2⟩->bK n (af S.O e).ah≠some t:=λhk e n dL h=>by
  have h1:0<nP S.aq S.O t.k:=rL dL h
  have:=(aev hk).1
  omega
 refine {hI with ob:=λx hx=>?_,mt:=λx hx=>?_,ah:=λx hx e he=>?_,sorted:=λx hx=>?_,dead:=λx hx=>?_,zF:=λx hx=>(J2 x).trans (hI.zF x hx),total:=?_,aS:=λx hx=>?_,once:=λx hx hk=>?_,aK:=λx hx=>?_,aE:=λx hx oU=>?_,up:=λx hx e=>?_,deep:=?_,used:=?_}
 ·show (af O' x.k).id=_/\(af O' x.k).kind=_/\_
  rw [fId,J2];exact hI.ob x hx
 ·show rK (af O' x.k)
  have hm:=hI.mt x hx
  by_cases e:x.k=d
  ·rw [e] at hm ⊢
   rw [oD]
   exact hm.of rfl rfl rfl htm rfl (.inl rfl) (.inr (hI.kind hd)) rfl
  by_cases e2:x.k=t.k
  ·rw [e2] at hm ⊢
   rw [oT]
   exact hm.of rfl rfl rfl hm.time rfl (.inl rfl) (.inl rfl) rfl
  rw [oX _ e e2];exact hm
 ·have he:e∈(af O' x.k).ah:=he
  by_cases e1:x.k=d
  ·rw [e1,ML] at he
   rcases Iu.1 he with rfl|he
   ·exact⟨j7,ht⟩
   exact hI.ah _ hd e he
  rw [fE _ e1] at he
  exact hI.ah x hx e he
 ·show qd (af O' x.k).ah
  by_cases e1:x.k=d
  ·rw [e1,ML];exact qd.ins (hI.sorted _ hd) hn
  rw [fE _ e1];exact hI.sorted x hx
 ·show (af O' x).ah=[]/\(af O' x).up=none
  rw [oX x (λe=>hx _ hd e.symm) (λe=>hx t ht e.symm)]
  exact hI.dead x hx
 ·have h1:=hsum (λ_=>true)
  have h2:=hI.total
  grind [yG,tot]
 ·show (af O' x.k).aS=(nP S.aq O' x.k:Int)
  have h1:=ZU x.k
  have h2:=hI.aS x hx
  grind
 ·show (af O' x.k).aS<=1
  have h1:=hI.once x hx hk
  grind [jy,af]
 ·show (af O' x.k).aK=_
  rw [fOp];exact hI.aK x hx
 ·have oU:(af O' x.k).aE=true:=oU
  rw [fG] at oU
  show (af O' x.k).aS=0/\(af O' x.k).ah=[]
  by_cases e2:x.k=t.k
  ·rw [e2,S5] at oU;cases oU
  by_cases e:x.k=d
  ·rw [e,mr] at oU;cases oU
  rw [oX _ e e2];exact hI.aE x hx oU
 ·show (af O' x.k).up=some e↔x.kind=2/\aQ S.aq ⟨e,2⟩/\∃n,bK n (af O' e).ah=some x
  by_cases e2:x.k=t.k
  ·have MN:x=t:=jy hx ht e2
   subst MN
   rw [oT]
   show (if x.kind=2 then some d else (af S.O x.k).up)=some e↔_
   by_cases hk:x.kind=2
   ·rw [aik hk]
    constructor
    ·intro h
     cases h
     exact⟨hk,hd,name,by rw [ML,Fa hn,aik rfl]⟩
    grind
   rw [aij hk,hI.up x hx e]
   grind
  have h1:(af O' x.k).up=(af S.O x.k).up:=by
   grind
  have h2:∀n,bK n (af O' e).ah=some x↔bK n (af S.O e).ah=some x:=λn=>by
   grind [Fa]
  rw [h1,hI.up x hx e]
  simp only [h2]
 ·obtain⟨dp,hdp⟩:=hI.deep
  by_cases hk:t.kind=2
  ·obtain⟨hl0,hnb⟩:=aev hk
   have ahZ:(af S.O t.k).up=none:=by
    cases hu:(af S.O t.k).up with
    |none=>rfl
    |some e=>
      grind [aQ,af,bK,ck,fU,kZ,up]
   refine⟨λx=>if sV S.O t.k x then dp x+dp d+1 else dp x,λx e hx=>?_⟩
   grind [af,up,MO]
  refine⟨dp,λx e hx=>?_⟩
  grind
 have:bytes S.aq O'=bytes S.aq S.O:=lX (λp _=>by rw [UB])
 show S.X.used=(bytes S.aq O':Int)/\_
 rw [this];exact hI.used
end inv
section new
variable {S:br} {d:Nat} {name:ByteArray} {t:Th} {o:bJ} {us':bC Th} {lY:Int}
theorem Inv0.newAt (hI:Inv0 S) {k0:Nat} (fP:S.X.last<(k0:Int)) (dL:(k0:Int)<=1099511627776) {tE:Int} (ahH:tE=S.X.used+o.data.length/\tE<=140737488355328) (hid:o.id=(k0:Int)) (hk3:o.kind=1\/o.kind=2\/o.kind=3) (hl0:o.aS=0) (he0:o.ah=[]) (hu0:o.up=none) (hg0:o.aE=false) (hm:rK o) (jD:S.aq.length<4096)
 (u1:aD.dH (aY us')) (u2:∀x∈aY us',1<=x/\x<=lY) (u3:(us'.length:Int)<=S.X.cH) (u4:0<=lY/\lY<=S.X.cH) (u5:∀h t,aD.get us' h=some t->(aQ S.aq t\/t=⟨k0,o.kind⟩)/\t.kind≠3) (u6:∀k,k≠k0->hnd us' k=hnd S.us k) (u7:o.aK=(hnd us' (k0):Int)) :
 Inv0 {S with X:={S.X with last:=(k0:Int),used:=tE},O:=aX S.O (k0) (λ_=>o),aq:=ins ((k0:Int)) ⟨k0,o.kind⟩ S.aq,us:=us',aI:=lY}:=by
 have hnot:aD.get S.aq ((k0:Int))=none:=by
  cases e:aD.get S.aq ((k0:Int)) with
  |none=>rfl
  |some u=>have:=(hI.aq _ u e).2.2;omega
 have hget:∀i,aD.get (ins ((k0:Int)) ⟨k0,o.kind⟩ S.aq) i=if i=(k0:Int) then some ⟨k0,o.kind⟩ else aD.get S.aq i:=by grind [wZ,get_none]
 have kK:∀x,aQ (ins ((k0:Int)) ⟨k0,o.kind⟩ S.aq) x↔x=⟨k0,o.kind⟩\/aQ S.aq x:=λx=>by
  grind [aQ]
 have oN:af (aX S.O (k0) (λ_=>o)) (k0)=o:=fq
 have oX:∀x,aQ S.aq x->af (aX S.O (k0) (λ_=>o)) x.k=af S.O x.k:=λx hx=>jd (hI.free fP hx)
 have hfr:=hI.LD fP
 have hmem:∀p∈S.aq,af (aX S.O (k0) (λ_=>o)) p.2.k=af S.O p.2.k:=λp hp=>jd (hfr.aq p hp)
 have hsum:∀g:bJ->Nat,g o=0->gJ (λp:Int×Th=>g (af (aX S.O (k0) (λ_=>o)) p.2.k)) (ins ((k0:Int)) ⟨k0,o.kind⟩ S.aq)=gJ (λp:Int×Th=>g (af S.O p.2.k)) S.aq:=λg hg=>by
  grind [IE,af,lX]
 refine {hI with last:=?_,fD:=(AV hI.fD (get_none.1 hnot)),len:=?_,aq:=λi x e=>?_,ob:=λx hx=>?_,mt:=λx hx=>?_,ah:=λx hx e he=>?_,sorted:=λx hx=>?_,dead:=λx hx=>?_,zF:=λx hx=>?_,total:=?_,aS:=λx hx=>?_,once:=λx hx hk=>?_,aK:=λx hx=>?_,usr:=u1,yE:=u2,Hf:=u3,aI:=u4,us:=λh x e=>?_,aE:=λx hx oU=>?_,up:=λx hx e=>?_,deep:=?_,used:=?_}
 ·grind
 ·grind [ins,lV]
 ·have e:aD.get (ins ((k0:Int)) ⟨k0,o.kind⟩ S.aq) i=some x:=e
  rw [hget] at e
  have:=hI.last
  show i=(x.k:Int)/\0<i/\i<=(k0:Int)
  split at e
  ·grind
  have:=hI.aq i x e
  omega
 ·show (af (aX S.O (k0) (λ_=>o)) x.k).id=_/\(af (aX S.O (k0) (λ_=>o)) x.k).kind=_/\_
  rcases (kK x).1 hx with h|h
  ·subst h;rw [oN];exact⟨hid,rfl,hk3⟩
  rw [oX x h];exact hI.ob x h
 ·show rK (af (aX S.O (k0) (λ_=>o)) x.k)
  rcases (kK x).1 hx with h|h
  ·subst h;rw [oN];exact hm
  rw [oX x h];exact hI.mt x h
 ·have he:e∈(af (aX S.O (k0) (λ_=>o)) x.k).ah:=he
  rcases (kK x).1 hx with h|h
  ·subst h;rw [oN,he0] at he;cases he
  rw [oX x h] at he
  have h1:=hI.ah x h e he
  exact⟨h1.1,(kK _).2 (.inr h1.2)⟩
 ·show qd (af (aX S.O (k0) (λ_=>o)) x.k).ah
  rcases (kK x).1 hx with h|h
  ·subst h;rw [oN,he0];exact List.Pairwise.nil
  rw [oX x h];exact hI.sorted x h
 ·show (af (aX S.O (k0) (λ_=>o)) x).ah=[]/\(af (aX S.O (k0) (λ_=>o)) x).up=none
  have h1:x≠k0:=λe=>hx ⟨k0,o.kind⟩ ((kK _).2 (.inl rfl)) e.symm
  rw [jd h1]
  exact hI.dead x (λu hu=>hx u ((kK _).2 (.inr hu)))
 ·have hx:(k0:Int)<(x:Int):=hx
  show (af (aX S.O (k0) (λ_=>o)) x).kind=0
  rw [jd (λe=>by rw [e] at hx;omega)]
  exact hI.zF x zc
 ·show S.X.ah=(tot _ _:Int)/\S.X.ah<=8192
  have:tot (ins ((k0:Int)) ⟨k0,o.kind⟩ S.aq) (aX S.O (k0) (λ_=>o))=tot S.aq S.O:=hsum (λo=>o.ah.length) (by rw [he0];rfl)
  rw [this];exact hI.total
 ·show (af (aX S.O (k0) (λ_=>o)) x.k).aS=(nP _ _ x.k:Int)
  have:nP (ins ((k0:Int)) ⟨k0,o.kind⟩ S.aq) (aX S.O (k0) (λ_=>o)) x.k=nP S.aq S.O x.k:=hsum (λo=>o.ah.countP (λe:ByteArray×Th=>decide (e.2.k=x.k))) (by rw [he0];rfl)
  rw [this]
  rcases (kK x).1 hx with h|h
  ·subst h
   rw [oN,hl0]
   have:nP S.aq S.O (k0)=0:=by
    apply aiI
    intro cu
    obtain⟨i,u,hu,e,he,hek⟩:=JX hI.fD (Nat.pos_of_ne_zero cu)
    exact hfr.ah u.k e he hek
   rw [this];rfl
  rw [oX x h];exact hI.aS x h
 ·show (af (aX S.O (k0) (λ_=>o)) x.k).aS<=1
  rcases (kK x).1 hx with h|h
  ·subst h;rw [oN,hl0];decide
  rw [oX x h];exact hI.once x h hk
 ·show (af (aX S.O (k0) (λ_=>o)) x.k).aK=(hnd us' x.k:Int)
  rcases (kK x).1 hx with h|h
  ·subst h;rw [oN];exact u7
  rw [oX x h,u6 _ (hI.free fP h)];exact hI.aK x h
 ·grind
 ·have oU:(af (aX S.O (k0) (λ_=>o)) x.k).aE=true:=oU
  show (af (aX S.O (k0) (λ_=>o)) x.k).aS=0/\(af (aX S.O (k0) (λ_=>o)) x.k).ah=[]
  rcases (kK x).1 hx with h|h
  ·subst h;rw [oN,hg0] at oU;cases oU
  rw [oX x h] at oU ⊢;exact hI.aE x h oU
 ·show (af (aX S.O (k0) (λ_=>o)) x.k).up=some e↔x.kind=2/\aQ _ ⟨e,2⟩/\∃n,bK n (af (aX S.O (k0) (λ_=>o)) e).ah=some x
  rcases (kK x).1 hx with h|h
  ·subst h
   rw [oN,hu0]
   constructor
   ·intro h;cases h
   rintro⟨_,dL,n,h⟩
   by_cases e2:e=k0
   ·rw [e2,oN,he0] at h;cases h
   rw [jd e2] at h;exact ain rfl (hfr.ah e _ (r9 h))
  rw [oX x h,hI.up x h e]
  constructor
  ·grind
  rintro⟨h1,h2,n,h3⟩
  by_cases e2:e=k0
  ·rw [e2,oN,he0] at h3;cases h3
  grind
 ·obtain⟨dp,hdp⟩:=hI.deep
  refine⟨dp,λx e hx=>?_⟩
  grind [af,aX,up,jd]
 show tE=(bytes _ _:Int)/\_
 have h1:bytes (ins (k0:Int) ⟨k0,o.kind⟩ S.aq) (aX S.O k0 (λ_=>o))=o.data.length+bytes S.aq S.O:=by
  grind [bytes,IE,af,lX]
 have h2:=hI.used
 grind
theorem Inv0.new (hI:Inv0 S) (hid:o.id=S.X.last+1) (hk3:o.kind=1\/o.kind=2\/o.kind=3) (hl0:o.aS=0) (he0:o.ah=[]) (hu0:o.up=none) (hg0:o.aE=false) (hd0:o.data=[]) (hm:rK o) (hlast:S.X.last<1099511627776) (jD:(S.aq.length:Int)<S.X.cN)
 (u1:aD.dH (aY us')) (u2:∀x∈aY us',1<=x/\x<=lY) (u3:(us'.length:Int)<=S.X.cH) (u4:0<=lY/\lY<=S.X.cH) (u5:∀h t,aD.get us' h=some t->(aQ S.aq t\/t=⟨bw S.X,o.kind⟩)/\t.kind≠3) (u6:∀k,k≠bw S.X->hnd us' k=hnd S.us k) (u7:o.aK=(hnd us' (bw S.X):Int)) :
 Inv0 {S with X:={S.X with last:=S.X.last+1},O:=aX S.O (bw S.X) (λ_=>o),aq:=ins (S.X.last+1) ⟨bw S.X,o.kind⟩ S.aq,us:=us',aI:=lY}:=by
 have hnk:=rN hI
 have h:=hI.newAt (k0:=bw S.X) (tE:=S.X.used) zc zc ⟨by rw [hd0];simp,hI.used.2⟩ (hid.trans hnk.symm) hk3 hl0 he0 hu0 hg0 hm (by have:=hI.cN;omega) u1 u2 u3 u4 u5 u6 u7
 rw [hnk] at h
 exact h
theorem bO.add (hI:bO S) (hd:aQ S.aq ⟨d,2⟩) (mr:(af S.O d).aE=false) (hn:bK name (af S.O d).ah=none) (j7:ck name) (hroom:Room S.X S.aq)
 (hid:o.id=S.X.last+1) (hk3:o.kind=1\/o.kind=2\/o.kind=3) (hl0:o.aS=0) (he0:o.ah=[]) (hu0:o.up=none) (hg0:o.aE=false) (hd0:o.data=[]) (hm:rK o)
 (u1:aD.dH (aY us')) (u2:∀x∈aY us',1<=x/\x<=lY) (u3:(us'.length:Int)<=S.X.cH) (u4:0<=lY/\lY<=S.X.cH) (u5:∀h t,aD.get us' h=some t->(aQ S.aq t\/t=⟨bw S.X,o.kind⟩)/\t.kind≠3) (u6:∀k,k≠bw S.X->hnd us' k=hnd S.us k) (u7:o.aK=(hnd us' (bw S.X):Int)) :
 bO (fY {S with us:=us',aI:=lY} d name o):=by
 have h1:=hI.toInv0.new hid hk3 hl0 he0 hu0 hg0 hd0 hm hroom.2.1 hroom.1 u1 u2 u3 u4 u5 u6 u7
 have cu:d≠bw S.X:=hI.Dk hd
 have hnk:=rN hI.toInv0
 have hnot:aD.get S.aq (S.X.last+1)=none:=by
  cases e:aD.get S.aq (S.X.last+1) with
  |none=>rfl
  |some u=>have:=(hI.aq _ u e).2.2;omega
 have hget:∀i,aD.get (ins (S.X.last+1) ⟨bw S.X,o.kind⟩ S.aq) i=if i=S.X.last+1 then some ⟨bw S.X,o.kind⟩ else aD.get S.aq i:=by grind [wZ,get_none]
 have hdl:aQ (ins (S.X.last+1) ⟨bw S.X,o.kind⟩ S.aq) ⟨d,2⟩:=by
  grind [aQ]
 have hnl:aQ (ins (S.X.last+1) ⟨bw S.X,o.kind⟩ S.aq) ⟨bw S.X,o.kind⟩:=by
  unfold aQ
  rw [hget,aik hnk]
 have oN:af (aX S.O (bw S.X) (λ_=>o)) (bw S.X)=o:=fq
 have oD:af (aX S.O (bw S.X) (λ_=>o)) d=af S.O d:=jd cu
 have hnb:¬sV (aX S.O (bw S.X) (λ_=>o)) (bw S.X) d:=λhb=>by
  have key:∀x,sV (aX S.O (bw S.X) (λ_=>o)) (bw S.X) x->x=bw S.X:=λx hx=>by
   induction hx with
   |here=>rfl
   | @up k j hu _ ih=>
     subst ih
     by_cases e:k=bw S.X
     ·exact e
     rw [jd e] at hu;exact ain hu (hI.fresh.up k)
  exact cu (key d hb)
 have h2:=h1.put (d:=d) (name:=name) (t:=⟨bw S.X,o.kind⟩) (O':=(fY {S with us:=us',aI:=lY} d name o).O) hdl (by rw [oD];exact mr) (by rw [oD];exact hn) j7 hnl (by rw [oN];exact hg0) (λ_=>⟨by rw [oN];exact hl0,hnb⟩) (λe=>cu e.symm) hroom.2.2 h1.now (λk=>tM (λe=>cu e.symm))
 refine⟨h2,λx hx oU=>?_⟩
 have g1:∀k,(af (fY {S with us:=us',aI:=lY} d name o).O k).aE=(af (aX S.O (bw S.X) (λ_=>o)) k).aE:=λk=>mG (g:=bJ.aE) (λ_ _=>rfl) (λ_ _=>rfl) (λ_ _ _=>rfl) (λ_ _=>rfl)
 have g2:∀k,(af (fY {S with us:=us',aI:=lY} d name o).O k).aK=(af (aX S.O (bw S.X) (λ_=>o)) k).aK:=λk=>mG (g:=bJ.aK) (λ_ _=>rfl) (λ_ _=>rfl) (λ_ _ _=>rfl) (λ_ _=>rfl)
 rw [g1] at oU
 rw [g2]
 by_cases e:x.k=bw S.X
 ·rw [e,oN,hg0] at oU;cases oU
 rw [jd e] at oU ⊢
 refine hI.full x ?_ oU
 grind [ins,bw,aQ,af,bK,ck,Room,aY,hnd,fY]
end new
section drop
variable {S:br} {d:Nat} {name:ByteArray} {t:Th}
theorem oF {α:Type} {g:bJ->α} {O:dZ} {k j:Nat} (h:∀o,g {o with up:=none}=g o):g (af (jm O j) k)=g (af O k):=ez (f:=λo=>{o with up:=none}) h
theorem Fo {O:dZ} {k:Nat}:uT (jm O k) t↔uT O t:=by
 unfold uT
 rw [oF (g:=bJ.aE) (λ_=>rfl),oF (g:=bJ.aK) (λ_=>rfl)]
theorem PI {O:dZ} {k:Nat} {u:Int}:qG (jm O k) u t=qG O u t:=by
 unfold qG
 simp only [Fo,oF (g:=bJ.data) (λ_=>rfl)]
theorem PJ {O:dZ} {k:Nat} {aq:bC Th}:lC (jm O k) aq t=lC O aq t:=by
 unfold lC
 simp only [Fo,oF (g:=bJ.id) (λ_=>rfl)]
theorem bO.drop (hI:bO S) (hd:aQ S.aq ⟨d,2⟩) (hl:bK name (af S.O d).ah=some t) (he:t.kind=2->(af S.O t.k).ah=[]):bO {aZ S d name t with O:=jm (aZ S d name t).O t.k}:=by
 have cu:=hI.ne hd hl
 have ht:=(hI.bS hd hl).2
 have eu:(af (bn S.X S.O d name t) t.k).aS=(af S.O t.k).aS-1:=by grind [lH]
 have hfull:∀(O2:dZ),(∀u,u≠t.k->(af O2 u).aE=(af S.O u).aE/\(af O2 u).aK=(af S.O u).aK)->∀u,aQ S.aq u->u≠t->(af O2 u.k).aE=true->0<(af O2 u.k).aK:=λO2 h u hu hut hg=>by
  have hk:u.k≠t.k:=λe=>hut (jy hu ht e)
  rw [(h _ hk).1] at hg
  rw [(h _ hk).2]
  exact hI.full u hu hg
 by_cases h0:(af (bn S.X S.O d name t) t.k).aS=0
 ·have e1:aZ S d name t=_:=yC h0
  have hO:∀k,af (jm (uf (bn S.X S.O d name t) t.k) t.k) k=if k=d then {af S.O d with ah:=kS name (af S.O d).ah,aT:=S.X.cS,aJ:=S.X.cZ} else if k=t.k then {af S.O k with aS:=(af S.O k).aS-1,aE:=true,up:=none} else af S.O k:=λk=>by
   unfold jm uf
   rw [BU,kx]
   by_cases e:k=t.k
   ·rw [aik e,lH cu,aij (λe2=>cu (e.symm.trans e2)),aik e,aij (λe2=>cu (e.symm.trans e2)),aik e]
   rw [aij e,lH cu,aij e,aij e]
  have h1:=hI.toInv0.cut hd hl hO (.inr ⟨by rw [←eu];exact h0,he⟩)
  have h2:=h1.zG (t:=t) ht (hfull _ (λu hu=>by
   rw [oF (g:=bJ.aE) (λ_=>rfl),oF (g:=bJ.aK) (λ_=>rfl)]
   show (af (aX _ t.k _) u).aE=_/\(af (aX _ t.k _) u).aK=_
   rw [jd hu,eM (g:=bJ.aE) (λ_ _=>rfl) (λ_ _=>rfl) (λ_ _ _=>rfl),eM (g:=bJ.aK) (λ_ _=>rfl) (λ_ _=>rfl) (λ_ _ _=>rfl)]
   exact⟨rfl,rfl⟩))
  rw [e1]
  unfold zG at h2
  simp only [PI,PJ] at h2
  exact h2
 have e1:aZ S d name t=_:=yD h0
 have hnd:t.kind≠2:=λhk=>by
  have h1:=hI.once t ht hk
  have h2:=hI.aS t ht
  have h3:0<nP S.aq S.O t.k:=rL hd hl
  omega
 have UD:(af S.O t.k).up=none:=by
  cases hu:(af S.O t.k).up with
  |none=>rfl
  |some e=>exact ain ((hI.up t ht e).1 hu).1 hnd
 have hO:∀k,af (jm (bn S.X S.O d name t) t.k) k=if k=d then {af S.O d with ah:=kS name (af S.O d).ah,aT:=S.X.cS,aJ:=S.X.cZ} else if k=t.k then {af S.O k with aS:=(af S.O k).aS-1,aE:=(af S.O t.k).aE,up:=none} else af S.O k:=λk=>by
  unfold jm
  rw [kx]
  by_cases e:k=t.k
  ·rw [aik e,lH cu,aij (λe2=>cu (e.symm.trans e2)),aik e,aij (λe2=>cu (e.symm.trans e2)),aik e,e]
  rw [aij e,lH cu,aij e,aij e]
 have h1:=hI.toInv0.cut hd hl hO (.inl rfl)
 rw [e1]
 refine⟨h1,λu hu hg=>?_⟩
 have hg:(af (jm (bn S.X S.O d name t) t.k) u.k).aE=true:=hg
 show 0<(af (jm (bn S.X S.O d name t) t.k) u.k).aK
 rw [oF (g:=bJ.aE) (λ_=>rfl),eM (g:=bJ.aE) (λ_ _=>rfl) (λ_ _=>rfl) (λ_ _ _=>rfl)] at hg
 rw [oF (g:=bJ.aK) (λ_=>rfl),eM (g:=bJ.aK) (λ_ _=>rfl) (λ_ _=>rfl) (λ_ _ _=>rfl)]
 exact hI.full u hu hg
theorem ZV {k:Nat}:(af (aZ S d name t).O k).up=(af S.O k).up:=by
 unfold aZ
 simp only
 split
 ·exact (xq (g:=bJ.up) (λ_ _=>rfl)).trans (eM (g:=bJ.up) (λ_ _=>rfl) (λ_ _=>rfl) (λ_ _ _=>rfl))
 exact eM (g:=bJ.up) (λ_ _=>rfl) (λ_ _=>rfl) (λ_ _ _=>rfl)
theorem bO.Gy (hI:bO S) (hd:aQ S.aq ⟨d,2⟩) (hl:bK name (af S.O d).ah=some t) (hk:t.kind≠2):bO (aZ S d name t):=by
 have h:=hI.drop hd hl (λe=>ain e hk)
 have ht:=(hI.bS hd hl).2
 have UD:(af S.O t.k).up=none:=by
  cases hu:(af S.O t.k).up with
  |none=>rfl
  |some e=>exact ain ((hI.up t ht e).1 hu).1 hk
 have e:jm (aZ S d name t).O t.k=(aZ S d name t).O:=ac6 (by
  have:(af (aZ S d name t).O t.k).up=none:=ZV.trans UD
  rw [←this])
 rw [e] at h
 exact h
end drop
end
end Go.Proofs.YtbnfiigafobejaaGreat
section
namespace Go.Proofs.YtbnfiigafobejaaGreat.aD
open bF
variable {V:Type}
theorem MP (us:bC V) (p:Int×V):aY (us++[p])=aY us++[p.1]:=by simp [aY]
theorem IK (us:bC V):(aY us).length=us.length:=by simp [aY]
theorem least_le {us:bC V} (hr:dH (aY us)) (hp:∀x∈aY us,1<=x):1<=aP us/\aP us∉aY us/\∀x,1<=x->x<aP us->x∈aY us:=rJ (aY us) 1 hr hp
theorem tN:∀(ks:List Int) (h:Int),mq h ks<=h+ks.length
 |[],h=>by simp [mq]
 |k::r,h=>by
   unfold mq
   split
   ·have:=tN r (h+1);simp only [aiV];push_cast;omega
   simp only [aiV];push_cast;omega
theorem RV (us:bC V):aP us<=us.length+1:=by
 have:=tN (aY us) 1
 rw [IK] at this
 unfold aP;omega
end Go.Proofs.YtbnfiigafobejaaGreat.aD
end
namespace Go.Proofs.YtbnfiigafobejaaGreat
section
open Go.RowKit Go.Maps bF aD
section ops
variable {S:br} {d to:Nat} {name aB:ByteArray} {t:Th}
theorem bO.link (hI:bO S) (hd:aQ S.aq ⟨d,2⟩) (mr:(af S.O d).aE=false) (hn:bK name (af S.O d).ah=none) (j7:ck name) (ht:aQ S.aq t) (S5:(af S.O t.k).aE=false) (hk:t.kind≠2) (hroom:S.X.ah<8192) :
 bO {S with X:={S.X with ah:=S.X.ah+1},O:=dg S.X S.O d name t}:=by
 have cu:t.k≠d:=by grind [jy]
 have h1:=hI.toInv0.put hd mr hn j7 ht S5 (λe=>ain e hk) cu hroom hI.now (λk=>tM cu)
 refine⟨h1,λx hx hg=>?_⟩
 have hg:(af (dg S.X S.O d name t) x.k).aE=true:=hg
 show 0<(af (dg S.X S.O d name t) x.k).aK
 rw [mG (g:=bJ.aE) (λ_ _=>rfl) (λ_ _=>rfl) (λ_ _ _=>rfl) (λ_ _=>rfl)] at hg
 rw [mG (g:=bJ.aK) (λ_ _=>rfl) (λ_ _=>rfl) (λ_ _ _=>rfl) (λ_ _=>rfl)]
 exact hI.full x hx hg
theorem qJ (cu:t.k≠d) {X:FM} {O:dZ} (h:bK aB (af O to).ah=none):bK aB (af (bn X O d name t) to).ah=none:=by
 grind [lH,bK,kS,af,yx]
theorem bO.move (hI:bO S) (hd:aQ S.aq ⟨d,2⟩) (hl:bK name (af S.O d).ah=some t) (dY:aQ S.aq ⟨to,2⟩) (mr:(af S.O to).aE=false) (hn:bK aB (af S.O to).ah=none) (j7:ck aB) (hb:t.kind=2->¬sV S.O t.k to):bO (qc S d name to aB t):=by
 have cu:=hI.ne hd hl
 have ht:=(hI.bS hd hl).2
 have PK:t.k≠to:=λe=>by
  have h1:t=⟨to,2⟩:=jy ht dY e
  exact hb (by rw [h1]) (by rw [e];exact .here)
 have hgt:(af S.O t.k).aE=false:=by
  cases hg:(af S.O t.k).aE with
  |false=>rfl
  |true=>
    have h1:=(hI.aE t ht hg).1
    have h2:=hI.aS t ht
    have h3:0<nP S.aq S.O t.k:=rL hd hl
    omega
 have hO:∀k,af (jm (bn S.X S.O d name t) t.k) k=if k=d then {af S.O d with ah:=kS name (af S.O d).ah,aT:=S.X.cS,aJ:=S.X.cZ} else if k=t.k then {af S.O k with aS:=(af S.O k).aS-1,aE:=(af S.O t.k).aE,up:=none} else af S.O k:=λk=>by
  unfold jm
  rw [kx]
  by_cases e:k=t.k
  ·rw [aik e,lH cu,aij (λe2=>cu (e.symm.trans e2)),aik e,aij (λe2=>cu (e.symm.trans e2)),aik e,e]
  rw [aij e,lH cu,aij e,aij e]
 have h1:=hI.toInv0.cut hd hl hO (.inl rfl)
 have g0:∀{α:Type} (g:bJ->α),(∀o es,g {o with ah:=es}=g o)->(∀o l,g {o with aS:=l}=g o)->(∀o a b,g {o with aT:=a,aJ:=b}=g o)->(∀o u,g {o with up:=u}=g o)->∀k,g (af (jm (bn S.X S.O d name t) t.k) k)=g (af S.O k):=λg a b c e k=>(oF (λo=>e o none)).trans (eM a b c)
 have eu:=hI.aS t ht
 have hlp:0<nP S.aq S.O t.k:=rL hd hl
 have hend:(af (jm (bn S.X S.O d name t) t.k) to).ah=(af (bn S.X S.O d name t) to).ah:=oF (g:=bJ.ah) (λ_=>rfl)
 have h2:=h1.put (d:=to) (name:=aB) (t:=t) (O':=(qc S d name to aB t).O) dY (by
  show (af (jm (bn S.X S.O d name t) t.k) to).aE=false
  rw [g0 bJ.aE (λ_ _=>rfl) (λ_ _=>rfl) (λ_ _ _=>rfl) (λ_ _=>rfl)];exact mr) (by
  show bK aB (af (jm (bn S.X S.O d name t) t.k) to).ah=none
  rw [hend];exact qJ cu hn) j7 ht (by
  show (af (jm (bn S.X S.O d name t) t.k) t.k).aE=false
  rw [g0 bJ.aE (λ_ _=>rfl) (λ_ _=>rfl) (λ_ _ _=>rfl) (λ_ _=>rfl)];exact hgt) (λhk=>⟨by
   have h3:=hI.once t ht hk
   show (af (jm (bn S.X S.O d name t) t.k) t.k).aS=0
   rw [hO,aij cu,aik rfl]
   show (af S.O t.k).aS-1=0
   omega,λhb2=>hb hk (UC (λx e hx=>by
    have hx:(af (jm (bn S.X S.O d name t) t.k) x).up=some e:=hx
    by_cases e1:x=t.k
    ·rw [hO,aij (by rw [e1];exact cu),aik e1] at hx;cases hx
    rw [hO] at hx
    split at hx
    ·rename_i e2;rw [e2];exact hx
    first|exact hx|(rw [aij e1] at hx;exact hx)) hb2)⟩) PK (by
  have:=hI.total
  show S.X.ah-1<8192
  omega) hI.now (λk=>by
  show af (dg S.X (bn S.X S.O d name t) to aB t) k=_
  rw [tM PK]
  by_cases e:k=to
  ·rw [aik e,aik e]
   have h3:af (jm (bn S.X S.O d name t) t.k) to=af (bn S.X S.O d name t) to:=jd (λe=>PK e.symm)
   rw [show af _ to=_ from h3]
  rw [aij e,aij e]
  by_cases e2:k=t.k
  ·rw [aik e2,aik e2,e2]
   show _={af (jm (bn S.X S.O d name t) t.k) t.k with aS:=(af (jm (bn S.X S.O d name t) t.k) t.k).aS+1,up:=if t.kind=2 then some to else (af (jm (bn S.X S.O d name t) t.k) t.k).up}
   have h3:af (jm (bn S.X S.O d name t) t.k) t.k={af (bn S.X S.O d name t) t.k with up:=none}:=fq
   rw [h3]
   by_cases hk:t.kind=2
   ·rw [aik hk,aik hk]
   rw [aij hk,aij hk]
   have UD:(af (bn S.X S.O d name t) t.k).up=none:=by
    rw [eM (g:=bJ.up) (λ_ _=>rfl) (λ_ _=>rfl) (λ_ _ _=>rfl)]
    cases hu:(af S.O t.k).up with
    |none=>rfl
    |some e=>exact ain ((hI.up t ht e).1 hu).1 hk
   rw [UD]
  rw [aij e2,aij e2]
  have h3:af (jm (bn S.X S.O d name t) t.k) k=af (bn S.X S.O d name t) k:=jd e2
  exact h3.symm)
 refine⟨h2,λx hx hg=>?_⟩
 have g3:∀{α:Type} (g:bJ->α),(∀o es,g {o with ah:=es}=g o)->(∀o l,g {o with aS:=l}=g o)->(∀o a b,g {o with aT:=a,aJ:=b}=g o)->(∀o u,g {o with up:=u}=g o)->∀k,g (af (qc S d name to aB t).O k)=g (af S.O k):=λg a b c e k=>(mG a b c e).trans (eM a b c)
 rw [g3 bJ.aE (λ_ _=>rfl) (λ_ _=>rfl) (λ_ _ _=>rfl) (λ_ _=>rfl)] at hg
 rw [g3 bJ.aK (λ_ _=>rfl) (λ_ _=>rfl) (λ_ _ _=>rfl) (λ_ _=>rfl)]
 exact hI.full x hx hg
theorem LG {us:bC Th} {h:Int} {k:Nat}:hnd (ins h t us) k=(if t.k=k then 1 else 0)+hnd us k:=IE
theorem Tb {us:bC Th} {h:Int} {k:Nat} (hr:aD.dH (aY us)) (e:aD.get us h=some t):hnd (del h us) k+(if t.k=k then 1 else 0)=hnd us k:=II (g:=λp:Int×Th=>if p.2.k=k then 1 else 0) hr e
theorem Tc {us:bC Th} {aI:Int} (hr:aD.dH (aY us)) (h1:∀x∈aY us,1<=x/\x<=aI):aD.dH (aY (ins (aD.aP us) t us))/\∀x∈aY (ins (aD.aP us) t us),1<=x/\x<=max aI ((us.length:Int)+1):=by
 obtain⟨g1,g2,_⟩:=least_le hr (λx hx=>(h1 x hx).1)
 have g3:=RV us
 grind [AV,sC]
theorem bO.ef (hI:bO S) (ht:aQ S.aq t) (hk:t.kind≠3):bO (Proofs.YtbnfiigafobejaaGreat.ef S t).2.2:=by
 by_cases fP:(S.us.length:Int)<S.X.cH
 ·rw [oL fP]
  obtain⟨g1,g2,_⟩:=least_le hI.usr (λx hx=>(hI.yE x hx).1)
  obtain⟨v1,v2⟩:=Tc (t:=t) hI.usr hI.yE
  have hb:bytes S.aq (aX S.O t.k (λo=>{o with aK:=o.aK+1}))=bytes S.aq S.O:=lX (λp _=>by rw [ez (f:=λo=>{o with aK:=o.aK+1}) (g:=bJ.data) (λ_=>rfl)])
  have h1:=hI.toInv0.own (k:=t.k) (f:=λo=>{o with aK:=o.aK+1}) (tE:=S.X.used) (us':=ins (aD.aP S.us) t S.us) (lY:=max S.aI ((S.us.length:Int)+1)) (λ_=>rfl) (λ_=>rfl) (λ_=>rfl) (λ_=>rfl) (λ_=>rfl) (λ_=>rfl)
   (λu hu e=>by rw [←e];exact (hI.mt u hu).of rfl rfl rfl (hI.mt u hu).time rfl (.inl rfl) (.inl rfl) rfl)
   (λu hu=>by
    have h2:=hI.aK u hu
    rw [LG]
    by_cases e:u.k=t.k
    ·rw [e,fq,aik rfl,←e]
     show (af S.O u.k).aK+1=_
     omega
    rw [jd e,aij (λe2=>e e2.symm)];omega)
   v1 v2 (by rw [lV];omega) (by have:=hI.aI;omega) (λh u e=>by
    rw [wZ g2] at e
    split at e
    ·cases e;exact⟨ht,hk⟩
    exact hI.us h u e) ⟨by rw [hb];exact hI.used.1,hI.used.2⟩
  refine⟨h1,λu hu hg=>?_⟩
  have hg:(af (aX S.O t.k (λo=>{o with aK:=o.aK+1})) u.k).aE=true:=hg
  rw [ez (f:=λo=>{o with aK:=o.aK+1}) (g:=bJ.aE) (λ_=>rfl)] at hg
  have h2:=hI.full u hu hg
  grind [af,aX,fq,jd]
 rw [pu fP];exact hI
theorem bO.gy (hI:bO S) {k:Nat} (ht:aQ S.aq ⟨k,1⟩) (bs:List UInt8):bO (Proofs.YtbnfiigafobejaaGreat.gy S k bs).2.2:=by
 unfold Proofs.YtbnfiigafobejaaGreat.gy
 split
 ·exact hI
 split
 ·exact hI
 rename_i hroom
 have jD:(af (aX S.O k (λo=>{o with data:=o.data++bs.take (dM S.X bs.length),aT:=S.X.cS,aJ:=S.X.cZ})) k).data.length=(af S.O k).data.length+dM S.X bs.length:=by
  rw [fq]
  show ((af S.O k).data++bs.take (dM S.X bs.length)).length=_
  rw [ait,aiH]
  unfold dM
  omega
 have hb:=IG (g:=λp:Int×Th=>(af S.O p.2.k).data.length) (g':=λp:Int×Th=>(af (aX S.O k (λo=>{o with data:=o.data++bs.take (dM S.X bs.length),aT:=S.X.cS,aJ:=S.X.cZ})) p.2.k).data.length) hI.fD ht (λp hp cu=>by
  have h1:=hI.key (oR hI.fD hp)
  show (af (aX _ k _) p.2.k).data.length=_
  rw [jd (λe=>cu (by rw [h1,e]))])
 have hb:bytes S.aq (aX S.O k (λo=>{o with data:=o.data++bs.take (dM S.X bs.length),aT:=S.X.cS,aJ:=S.X.cZ}))+(af S.O k).data.length=bytes S.aq S.O+(af (aX S.O k (λo=>{o with data:=o.data++bs.take (dM S.X bs.length),aT:=S.X.cS,aJ:=S.X.cZ})) k).data.length:=hb
 have hu:=hI.used
 have hcB:=hI.cB
 have h1:=hI.toInv0.own (k:=k) (f:=λo=>{o with data:=o.data++bs.take (dM S.X bs.length),aT:=S.X.cS,aJ:=S.X.cZ}) (tE:=S.X.used+(dM S.X bs.length:Int)) (us':=S.us) (lY:=S.aI) (λ_=>rfl) (λ_=>rfl) (λ_=>rfl) (λ_=>rfl) (λ_=>rfl) (λ_=>rfl)
  (λu hu e=>by
   have hk1:u=⟨k,1⟩:=jy hu ht e
   have agb:=hI.kind hu
   rw [←e]
   exact (hI.mt u hu).of rfl rfl rfl hI.now rfl (.inr (by rw [agb,hk1])) (.inl rfl) rfl)
  (λu hu=>by rw [ez (f:=λo=>{o with data:=o.data++bs.take (dM S.X bs.length),aT:=S.X.cS,aJ:=S.X.cZ}) (g:=bJ.aK) (λ_=>rfl)];exact hI.aK u hu)
  hI.usr hI.yE hI.Hf hI.aI hI.us ⟨zc,by unfold dM;omega⟩
 refine⟨h1,λu hu hg=>?_⟩
 have hg:(af (aX S.O k (λo=>{o with data:=o.data++bs.take (dM S.X bs.length),aT:=S.X.cS,aJ:=S.X.cZ})) u.k).aE=true:=hg
 rw [ez (f:=λo=>{o with data:=o.data++bs.take (dM S.X bs.length),aT:=S.X.cS,aJ:=S.X.cZ}) (g:=bJ.aE) (λ_=>rfl)] at hg
 show 0<(af (aX S.O k (λo=>{o with data:=o.data++bs.take (dM S.X bs.length),aT:=S.X.cS,aJ:=S.X.cZ})) u.k).aK
 rw [ez (f:=λo=>{o with data:=o.data++bs.take (dM S.X bs.length),aT:=S.X.cS,aJ:=S.X.cZ}) (g:=bJ.aK) (λ_=>rfl)]
 exact hI.full u hu hg
theorem bO.agc (hI:bO S) {k:Nat} {mode bg bh aT aJ:Int} (h1:jX mode) (h2:qH bg/\qH bh) (h3:fU aT aJ):bO {S with O:=aX S.O k (λo=>{o with mode:=mode,bg:=bg,bh:=bh,aT:=aT,aJ:=aJ})}:=by
 have hb:bytes S.aq (aX S.O k (λo=>{o with mode:=mode,bg:=bg,bh:=bh,aT:=aT,aJ:=aJ}))=bytes S.aq S.O:=lX (λp _=>by rw [ez (f:=λo=>{o with mode:=mode,bg:=bg,bh:=bh,aT:=aT,aJ:=aJ}) (g:=bJ.data) (λ_=>rfl)])
 have g1:=hI.toInv0.own (k:=k) (f:=λo=>{o with mode:=mode,bg:=bg,bh:=bh,aT:=aT,aJ:=aJ}) (tE:=S.X.used) (us':=S.us) (lY:=S.aI) (λ_=>rfl) (λ_=>rfl) (λ_=>rfl) (λ_=>rfl) (λ_=>rfl) (λ_=>rfl)
  (λu hu e=>by
   have hm:=hI.mt u hu
   rw [e] at hm
   exact⟨h1,h2.1,h2.2,h3,hm.data,hm.ah,hm.target⟩)
  (λu hu=>by rw [ez (f:=λo=>{o with mode:=mode,bg:=bg,bh:=bh,aT:=aT,aJ:=aJ}) (g:=bJ.aK) (λ_=>rfl)];exact hI.aK u hu)
  hI.usr hI.yE hI.Hf hI.aI hI.us ⟨by rw [hb];exact hI.used.1,hI.used.2⟩
 refine⟨g1,λu hu hg=>?_⟩
 have hg:(af (aX S.O k (λo=>{o with mode:=mode,bg:=bg,bh:=bh,aT:=aT,aJ:=aJ})) u.k).aE=true:=hg
 rw [ez (f:=λo=>{o with mode:=mode,bg:=bg,bh:=bh,aT:=aT,aJ:=aJ}) (g:=bJ.aE) (λ_=>rfl)] at hg
 show 0<(af (aX S.O k (λo=>{o with mode:=mode,bg:=bg,bh:=bh,aT:=aT,aJ:=aJ})) u.k).aK
 rw [ez (f:=λo=>{o with mode:=mode,bg:=bg,bh:=bh,aT:=aT,aJ:=aJ}) (g:=bJ.aK) (λ_=>rfl)]
 exact hI.full u hu hg
theorem bO.shut (hI:bO S) {h:Int} (e:aD.get S.us h=some t):bO {S with
 X:={S.X with used:=qG (uG S.O t.k) S.X.used t}
 O:=uG S.O t.k
 aq:=lC (uG S.O t.k) S.aq t
 us:=del h S.us}:=by
 have ht:=(hI.us h t e).1
 have hb:bytes S.aq (uG S.O t.k)=bytes S.aq S.O:=lX (λp _=>by unfold uG;rw [ez (f:=λo=>{o with aK:=o.aK-1}) (g:=bJ.data) (λ_=>rfl)])
 have hd:=λk=>Tb (k:=k) hI.usr e
 have h1:=hI.toInv0.own (k:=t.k) (f:=λo=>{o with aK:=o.aK-1}) (tE:=S.X.used) (us':=del h S.us) (lY:=S.aI) (λ_=>rfl) (λ_=>rfl) (λ_=>rfl) (λ_=>rfl) (λ_=>rfl) (λ_=>rfl)
  (λu hu e=>by rw [←e];exact (hI.mt u hu).of rfl rfl rfl (hI.mt u hu).time rfl (.inl rfl) (.inl rfl) rfl)
  (λu hu=>by
   have h2:=hI.aK u hu
   have h3:=hd u.k
   by_cases e2:u.k=t.k
   ·rw [e2,fq]
    rw [e2] at h2 h3
    rw [aik rfl] at h3
    show (af S.O t.k).aK-1=_
    omega
   rw [aij (λe3=>e2 e3.symm)] at h3
   rw [jd e2];omega)
  (PB hI.usr) (λx hx=>hI.yE x (by grind [vl])) (by have:=xg hI.usr (get_some e);have:=hI.Hf;omega) hI.aI (λi u hu=>by
   rw [zW] at hu
   split at hu
   ·cases hu
   exact hI.us i u hu) ⟨by rw [show bytes S.aq (aX S.O t.k (λo=>{o with aK:=o.aK-1}))=bytes S.aq S.O from hb];exact hI.used.1,hI.used.2⟩
 exact h1.zG (t:=t) ht (λu hu hut hg=>by
  have hk:u.k≠t.k:=λe=>hut (jy hu ht e)
  have hg:(af (aX S.O t.k (λo=>{o with aK:=o.aK-1})) u.k).aE=true:=hg
  rw [jd hk] at hg
  show 0<(af (aX S.O t.k (λo=>{o with aK:=o.aK-1})) u.k).aK
  rw [jd hk]
  exact hI.full u hu hg)
end ops
section facts
variable {S:br} {X:FM} {O:dZ} {d k to:Nat} {name aB:ByteArray} {t o:Th}
def Fq (dp:Nat->Nat):Option Nat->Nat
 |none=>0
 |some y=>dp y+1
theorem WN {dp:Nat->Nat} (h:∀k d,(af O k).up=some d->dp d<dp k) {y:Nat}:Fq dp (af O y).up<Fq dp (some y):=by
 cases e:(af O y).up with
 |none=>exact Nat.succ_pos _
 |some z=>exact Nat.succ_lt_succ (h y z e)
theorem J3 {s y:Nat} (h:¬y=s):sV O s y↔∃z,(af O y).up=some z/\sV O s z:=MO.trans (or_iff_right h)
theorem J4 (cu:t.k≠d):(af (aZ S d name t).O k).ah=if k=d then kS name (af S.O d).ah else (af S.O k).ah:=by
 have h1:(af (aZ S d name t).O k).ah=(af (bn S.X S.O d name t) k).ah:=by
  unfold aZ
  simp only
  split
  ·exact xq (g:=bJ.ah) (λ_ _=>rfl)
  rfl
 grind [lH]
theorem yH (hI:Inv0 S) (dY:aQ S.aq ⟨to,2⟩) (hl2:bK aB (af S.O to).ah=some o) (hl:bK name (af S.O d).ah=some t) (hot:o≠t):bK name (af (aZ S to aB o).O d).ah=some t:=by
 rw [J4 (hI.ne dY hl2)]
 grind [yx]
theorem yI (hI:Inv0 S) (dY:aQ S.aq ⟨to,2⟩) (hl2:bK aB (af S.O to).ah=some o):bK aB (af (aZ S to aB o).O to).ah=none:=by
 rw [J4 (hI.ne dY hl2),aik rfl,yx,aik rfl]
theorem pz (hI:Inv0 S) (dY:aQ S.aq ⟨to,2⟩) (hl2:bK aB (af S.O to).ah=some o) (hx:aQ S.aq t) (hk:t.k≠o.k):aQ (aZ S to aB o).aq t:=by
 unfold aZ
 simp only
 split
 ·unfold lC
  split
  ·unfold aQ
   rw [zW,aij]
   ·exact hx
   intro e
   have h1:=(hI.ob o (hI.bS dY hl2).2).1
   rw [xq (g:=bJ.id) (λ_ _=>rfl),eM (g:=bJ.id) (λ_ _=>rfl) (λ_ _=>rfl) (λ_ _ _=>rfl),h1] at e
   exact hk zc
  exact hx
 exact hx
theorem tO (cu:t.k≠d):(af (bn X O d name t) k).ah.length<=(af O k).ah.length:=by
 rw [lH cu]
 split
 ·rename_i e
  subst e
  exact ai7 _ _
 split<;>exact aiu _
theorem qU (hI:Inv0 S) (hd:aQ S.aq ⟨d,2⟩) (hl:bK name (af S.O d).ah=some t):0<=(af (bn S.X S.O d name t) t.k).aS/\(af (bn S.X S.O d name t) t.k).aS<=1048576:=by
 have ht:=(hI.bS hd hl).2
 have h1:=hI.aS t ht
 have h2:0<nP S.aq S.O t.k:=rL hd hl
 have h3:=hI.lb ht
 rw [lH (hI.ne hd hl),aij (hI.ne hd hl),aik rfl]
 grind
end facts
theorem bp.take {β:Bs} {A:Option Addr} {d:List UInt8} (h:bp β A d) (n:Nat):bp β A (d.take n):=by
 intro j v hj
 refine h j v ?_
 grind [dQ]
theorem UE {a b:List UInt8}:dQ (a++b)=dQ a++dQ b:=ai1
theorem Inv0.agd {S:br} {t:Th} (h:Inv0 S) (hl:aQ S.aq t):((af S.O t.k).data.length:Int)<=S.X.used:=by
 have h1:=h.used
 have h2:(af S.O t.k).data.length<=bytes S.aq S.O:=tf (g:=λp:Int×Th=>(af S.O p.2.k).data.length) hl
 omega
theorem WO {X:FM} {n:Nat} (h:0<X.cB-X.used):min (n:Int) (X.cB-X.used)=(dM X n:Int):=by
 unfold dM
 omega
theorem WQ {X:FM} {n:Nat} (h:0<X.cB-X.used):dM X n<=n/\(dM X n:Int)<=X.cB-X.used:=by
 unfold dM
 omega
section data
variable {O:dZ} {us:bC Th} {L L':HL} {k c:Nat} {A:Option Addr} {t:Th}
theorem PL (hL:L'=L.data k A c):cV L' us=cV L us:=by subst hL;rfl
theorem ZW (hL:L'=L.data k A c):fZ O L'=fZ O L:=by
 subst hL
 funext x
 rfl
theorem ZX (hL:L'=L.data k A c) {x:Nat} (h:x≠k):eE O L' x=eE O L x:=by
 have e2:mh L' x (af O x)=mh L x (af O x):=by
  subst hL
  unfold mh Gs
  simp only [HL.data,aij h]
  rfl
 unfold eE
 rw [e2]
 subst hL
 rfl
theorem ZY (hL:L'=L.data k A c) {x:Nat} (h:x≠k):dS O L' x=dS O L x:=by
 unfold dS
 subst hL
 simp only [HL.data,aij h]
theorem Td (hL:L'=L.data k A c):L'.dA k=A:=by subst hL;exact aik rfl
theorem Te (hL:L'=L.data k A c):L'.dC k=c:=by subst hL;exact aik rfl
theorem WR (hL:L'=L.data k A c) {x:Nat}:L'.b x=L.b x:=by subst hL;rfl
end data
section sat
variable {β:Bs} {l l':List HP} {w:World} {i j k c n:Nat} {O:dZ} {L L':HL} {f:bJ->bJ} {cs:List Value} {T:TypeId} {ix:List Nat} {A:Option Addr} {R:Nat->d9} {xs:List Value}
theorem aR.aew (h:aR β l w) (hL:L'=L.data k A c) (hp:l[i]?=some (.abs (aW (ol (eE O L) k d9.none)))) (hq:l[j]?=some (.ax (L.b k) cs T)) (hd:cC (i::j::ix)=true) (hl:cU l ix=some l') (h0:(f (af O k)).kind≠0) (hc:mh L' k (f (af O k))=cs) (hT:tq (f (af O k)).kind=T):aR β (.abs (aW (eE (aX O k f) L'))::l') w:=by
 refine h.xU (a:=Ix (L.b k) cs T) hp hq (λ_ _ h=>h) hd hl k (λx hx=>?_) (by rw [Dh,aij h0,hc,hT,WR hL])
 rw [Di hx,ZX hL hx,vK hx]
theorem aR.aex (h:aR β l w) (hL:L'=L.data k A c) (hp:l[i]?=some (.abs (aW (ol (dS O L) k d9.none)))) (hq:l[j]?=some (.abs (aF 5 1 A n c xs))) (hd:cC (i::j::ix)=true) (hl:cU l ix=some l') (h1:(f (af O k)).kind=1) (hn:n=(f (af O k)).data.length) (hx:xs=dQ (f (af O k)).data):aR β (.abs (aW (dS (aX O k f) L'))::l') w:=by
 refine h.xU hp hq (λ_ _ h=>h) hd hl k (λx hx=>by rw [Fc hx,ZY hL hx,vK hx]) ?_
 grind [AR,fq,Td,Te]
end sat
end
section
def nW (n:Int):Prop:=n=n
end
section
open Go.RowKit Go.Maps bF aD
structure kU (β:Bs) (c:aH):Prop where
 hw:(Lit.int .i64 c.aG).wf=true
 ow:(Lit.int .i64 c.other).wf=true
 nm:c.name.size<=1048576
 tx:c.text.size<=1048576
 da:bp β c.dA c.data
 dl:c.data.length<=1099511627776
 dc:c.data.length<=c.dC
 op:nW c.op
section facts
variable {S:br} {h:Int} {name:ByteArray} {dX:Int} {t:Th} {c:aH}
theorem kV (hI:Inv0 S) (h:Int) (name:ByteArray) (dX:Int):(∃e,iO S.O S.us h name dX=.error e/\e≠0)\/∃d,iO S.O S.us h name dX=.ok d/\aQ S.aq ⟨d,2⟩/\(af S.O d).aE=false/\ck name/\aD.get S.us h=some ⟨d,2⟩:=by
 unfold iO
 cases e:aD.get S.us h with
 |none=>exact .inl ⟨131,rfl,Pd⟩
 |some t=>
   simp only
   split
   ·rename_i hk
    split
    ·exact .inl ⟨170,rfl,Pd⟩
    rename_i hg
    split
    ·rename_i hn
     split
     ·obtain⟨k,kd⟩:=t
      simp only at hk
      subst hk
      exact .inr ⟨k,rfl,(hI.us h _ e).1,by simpa using hg,hn,rfl⟩
     exact .inl ⟨175,rfl,Pd⟩
    exact .inl ⟨95,rfl,Pd⟩
   exact .inl ⟨173,rfl,Pd⟩
theorem J5 (hI:Inv0 S) (c:aH):(∃e,jP S.O S.us c=.error e/\e≠0)\/(∃k,jP S.O S.us c=.ok ⟨k,1⟩/\aQ S.aq ⟨k,1⟩)\/(∃k,jP S.O S.us c=.ok ⟨k,2⟩/\aQ S.aq ⟨k,2⟩)\/∃k,jP S.O S.us c=.ok ⟨k,3⟩/\aQ S.aq ⟨k,3⟩:=by
 unfold jP
 rcases kV hI c.aG c.name 64 with ⟨e,h1,h2⟩|⟨d,h1,h2,_⟩
 ·rw [h1];exact .inl ⟨e,rfl,h2⟩
 rw [h1]
 simp only
 rcases hI.tF h2 c.name with h3|⟨k,h3,h4⟩|⟨k,h3,h4⟩|⟨k,h3,h4⟩
 all_goals grind
theorem PN {L:HL} {us:bC Th} {h:Int}:cV L (del h us)=del h (cV L us):=Lv (iB L) h us
theorem Tf {us:bC Th} {h:Int} (e:aD.get us h=some t):0<hnd us t.k:=aiG aii (tf (g:=λp:Int×Th=>if p.2.k=t.k then 1 else 0) e)
theorem IL {L:HL}:dS (ef S t).2.2.O L=dS S.O L:=by
 by_cases h:(S.us.length:Int)<S.X.cH
 ·rw [oL h];exact Bb (λ_=>ez (f:=λo=>{o with aK:=o.aK+1}) (g:=bJ.data) (λ_=>rfl)) (λ_=>pV (f:=λo=>{o with aK:=o.aK+1}) (λ_=>rfl))
 rw [pu h]
theorem IQ {L:HL}:fZ (ef S t).2.2.O L=fZ S.O L:=by
 grind [oL,ud,pu]
theorem adg:(lD S c).2.2.op=c.op:=by unfold lD;(repeat' split)<;>rfl
theorem UF:(gU S c).2.2.op=c.op:=by unfold gU;(repeat' split)<;>rfl
theorem RW:(fS S c).2.2.op=c.op:=by unfold fS;(repeat' split)<;>rfl
theorem UG:(iP S c).2.2.op=c.op:=by unfold iP;(repeat' split)<;>rfl
theorem RX:(fe S c).2.2.op=c.op:=by unfold fe;(repeat' split)<;>rfl
theorem PO:(iF S c).2.2.op=c.op:=by unfold iF;(repeat' split)<;>rfl
theorem WS:(dV S c).2.2.op=c.op:=by unfold dV;(repeat' split)<;>rfl
theorem RY:(jk S c).2.2.op=c.op:=by unfold jk;(repeat' split)<;>rfl
theorem UH:(kz S c).2.2.op=c.op:=by unfold kz;(repeat' split)<;>rfl
theorem RZ:(iW S c).2.2.op=c.op:=by unfold iW;(repeat' split)<;>rfl
theorem UI:(iw S c).2.2.op=c.op:=by unfold iw;(repeat' split)<;>rfl
theorem UJ:(cX S c).2.2.op=c.op:=by unfold cX;(repeat' split)<;>rfl
theorem adh:(oC S c).2.2.op=c.op:=by unfold oC;(repeat' split)<;>rfl
theorem WT:(jx S c).2.2.op=c.op:=by unfold jx;(repeat' split)<;>rfl
theorem Z0:(jS S c).2.2.op=c.op:=by unfold jS;(repeat' split)<;>rfl
end facts
theorem zH {S:br} {c:aH} (h:c.op=1):iC S c=lD S c:=by
 unfold iC
 simp [h]
theorem Ca {S:br} {c:aH} (h:c.op=2):iC S c=gU S c:=by
 unfold iC
 simp [h]
theorem Cb {S:br} {c:aH} (h:c.op=3):iC S c=fS S c:=by
 unfold iC
 simp [h]
theorem xW {S:br} {c:aH} (h:c.op=4):iC S c=iP S c:=by
 unfold iC
 simp [h]
theorem Cc {S:br} {c:aH} (h:c.op=5):iC S c=fe S c:=by
 unfold iC
 simp [h]
theorem Cd {S:br} {c:aH} (h:c.op=6):iC S c=iF S c:=by
 unfold iC
 simp [h]
theorem Ce {S:br} {c:aH} (h:c.op=7):iC S c=dV S c:=by
 unfold iC
 simp [h]
theorem zJ {S:br} {c:aH} (h:c.op=8):iC S c=jk S c:=by
 unfold iC
 simp [h]
theorem Cg {S:br} {c:aH} (h:c.op=9):iC S c=iw S c:=by
 unfold iC
 simp [h]
theorem yJ {S:br} {c:aH} (h:c.op=10):iC S c=cX S c:=by
 unfold iC
 simp [h]
theorem yK {S:br} {c:aH} (h:c.op=11):iC S c=oC S c:=by
 unfold iC
 simp [h]
theorem yL {S:br} {c:aH} (h:c.op=12):iC S c=jx S c:=by
 unfold iC
 simp [h]
theorem wk {S:br} {c:aH} (h:c.op=13):iC S c=jS S c:=by
 unfold iC
 simp [h]
theorem yM {S:br} {c:aH} (h:c.op=14):iC S c=kz S c:=by
 unfold iC
 simp [h]
theorem yN {S:br} {c:aH} (h:c.op=15):iC S c=iW S c:=by
 unfold iC
 simp [h]
theorem Bc {S:br} {c:aH} (h:¬(1<=c.op/\c.op<=15)):iC S c=(230,S,c):=by
 unfold iC
 repeat rw [aij zc]
end
end Go.Proofs.YtbnfiigafobejaaGreat
