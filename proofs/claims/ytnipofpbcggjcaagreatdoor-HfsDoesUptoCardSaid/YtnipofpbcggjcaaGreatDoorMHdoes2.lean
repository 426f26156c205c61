/-
  PROVED HERE: lemmas and contracts of functions (texts of this repo, joined; what the claim does not use is left out): GCheck, GE, Hm, Fam, Ld, Fw, Ms, Hn, Ho, ShelfK, Free, HeapMath, Up, Down, PushPop, TabMath, Tab, Tq, TKt, TabT, Hp, Hs, Hi, Hj, Hk, Hl, Hq, Hr, Ht, Hu, TabMath2, Hv, Hw, Hx, Op, Hy, Hz, Ac, Row, GO, GEnter.
  CONDITIONS: as the theorems say.
-/
import Derived.Test.YtnipofpbcggjcaaGreatDoorMHdoes1
import Derived.Maps.OwnOps
import Derived.Shelf.SlGeneric
import Derived.Shelf.SlIterI.Nil
import Derived.Shelf.SortM.Plain
import Derived.Shelf.SortM.SortNone
import Derived.Ground.GgzProg
import Derived.Ground.SlgmProg
import Derived.Test.YtnipofpbcggjcaaGreatDoorProg
import Derived.RegionTactic
import Derived.Deep.QuietTactic
import Derived.BigQuiet
import Derived.BigRegion
import Derived.StillTailTactics
import Derived.WalkSpells
import Derived.Outline
import Derived.Deep.AppendLies
import Derived.Deep.RegionLaw
import Derived.LoopTactic
import Derived.LaidEqlPtr
import Derived.Lib.Split
import Derived.Test.YtnipofpbcggjcaaGreatDoorRows
import Derived.ProofKit
import Derived.OpenShut
import Derived.Carry
import Derived.Deep.Slices
set_option maxRecDepth 100000
set_option maxHeartbeats 4000000
namespace Go.Proofs.YtnipofpbcggjcaaGreatDoor
section
open Go.RowKit
attribute [local irreducible] ai aQ ah aj
theorem xq {β:Bs} (a b c:Int) :
 Spec Tryz.prog β 136 #[vI (a),vI (b),vI (c)] [] (λv l=>v=.bool (decide (Within a b c))/\l=[]):=by
 exact SE Tryz.func136 Tryz.ntmps136 (λR=>SR (jK 1 [] [] (NS (jK 4 [10] [] (sP 10 ((a:Int)>=(b:Int)) (λh10=>jK 5 [6] [] (eN (v:=(.bool (decide ((a:Int)<=(c:Int))))) ⟨congrArg Value.bool (decide_eq_decide.2 (by unfold Within;omega)),rfl⟩)) (λh10=>jK 5 [6] [] (eN ⟨congrArg Value.bool (decide_eq_false (by unfold Within;omega)).symm,rfl⟩)))))))
theorem j8 {β:Bs} (s n:Int) :
 Spec Tryz.prog β 19 #[.agg #[vI (s),vI (n)]] [] (λv l=>v=.bool (decide (dz s n))/\l=[]):=by
 exact SE Tryz.func19 Tryz.ntmps19 (λR=>SR (jB 2 [1] (λb1=>.blk b1 [vI (s),vI (n)] 26) (λb1=>NZ (jK 4 [6] [(1,a_ 1 b1)] (sP 6 ((n:Int)<(0:Int)) (λh6=>jK 4 [10] [] (NT (zR ⟨congrArg Value.bool (decide_eq_false (by unfold dz;omega)).symm,rfl⟩))) (λh6=>jK 4 [10] [(1,a_ 1 b1)] (NN (cP ((n:Int)>=(1000000000:Int)) (λh10=>zR ⟨congrArg Value.bool (decide_eq_false (by unfold dz;omega)).symm,rfl⟩) (λh10=>KX (SQ (jK 3 [13] [(1,a_ 1 b1)] (NN (cP ((s:Int)=((-1099511627777):Int)) (λp6=>SR (jK 4 [2] [(1,a_ 1 b1)] (eN (v:=(.bool (decide ((n:Int)>(0:Int))))) ⟨congrArg Value.bool (decide_eq_decide.2 (by unfold dz;omega)),rfl⟩))) (λp6=>KX (SR (jK 4 [20] [(1,a_ 1 b1)] (sP 20 ((s:Int)>((-1099511627777):Int)) (λnS=>jK 5 [2] [(1,a_ 1 b1)] (eN (v:=(.bool (decide ((s:Int)<=(1099511627776:Int))))) ⟨congrArg Value.bool (decide_eq_decide.2 (by unfold dz;omega)),rfl⟩)) (λnS=>jK 5 [2] [] (eN ⟨congrArg Value.bool (decide_eq_false (by unfold dz;omega)).symm,rfl⟩)))))))))))))))))))
theorem yj {β:Bs} (s n:Int) :
 Spec Tryz.prog β 25 #[.agg #[vI (s),vI (n)]] [] (λv l=>v=.bool (decide (dz s n))/\l=[]):=by
 exact SE Tryz.func25 Tryz.ntmps25 (λR=>SR (jB 2 [1] (λb2=>.blk b2 [vI (s),vI (n)] 26) (λb2=>NZ (jK 4 [6] [(1,a_ 1 b2)] (sP 6 ((n:Int)<(0:Int)) (λh6=>jK 14 [20] [] (NT (zR ⟨congrArg Value.bool (decide_eq_false (by unfold dz;omega)).symm,rfl⟩))) (λh6=>jK 5 [11] [(1,a_ 1 b2)] (sP 11 ((n:Int)>=(1000000000:Int)) (λh11=>jK 9 [20] [] (NT (zR ⟨congrArg Value.bool (decide_eq_false (by unfold dz;omega)).symm,rfl⟩))) (λh11=>jK 5 [16] [(1,a_ 1 b2)] (sP 16 ((s:Int)>(1099511627776:Int)) (λog=>jK 4 [20] [] (NT (zR ⟨congrArg Value.bool (decide_eq_false (by unfold dz;omega)).symm,rfl⟩))) (λog=>jK 4 [20] [(1,a_ 1 b2)] (NN (cP ((s:Int)<((-1099511627777):Int)) (λnS=>zR ⟨congrArg Value.bool (decide_eq_false (by unfold dz;omega)).symm,rfl⟩) (λnS=>KX (SR (jK 4 [24] [(1,a_ 1 b2)] (sN 24 ((s:Int)=((-1099511627777):Int)) (λpR=>jK 5 [2] [] (eN ⟨congrArg Value.bool (decide_eq_true (by unfold dz;omega)).symm,rfl⟩)) (λpR=>jK 5 [2] [(1,a_ 1 b2)] (eN (v:=(.bool (!(decide ((n:Int)=(0:Int)))))) ⟨congrArg Value.bool (Bt (by unfold dz;omega)),rfl⟩))))))))))))))))))
theorem zu {β:Bs} (s:ByteArray) (hl:s.size<=1048576) :
 Spec Tryz.prog β 59 #[.string s] [] (λv l=>v=.bool (decide (aS s))/\l=[]):=by
 refine SE Tryz.func59 Tryz.ntmps59 (λR=>SR (jK 1 [] [] (NZ (jK 1 [3] [] (NN (ah.block (lJ (λ(i:Nat)=>(i<=s.size)/\(∀j,j<i->¬bO s j=0/\¬bO s j=47)) (λ(i:Nat)=>s.size-i) (λ(i:Nat)=>[(0,.string s),(3,vI ↑i)]) (λ(i:Nat)=>[.abs R]) 0 [0] (⟨Nat.zero_le _,λj hj=>absurd hj (Nat.not_lt_zero j)⟩) ?_)))))))
 rintro i ⟨hi,hall⟩
 exact SQ (jK 4 [7] [] (NN (cP ((((i:Nat):Int):Int)<((((s:ByteArray).size:Nat):Int):Int)) (λh7=>KX (ah.seq (ah.block (SR (jK 5 [14] [(2,xP i (i<(s:ByteArray).size))] (sP 14 ((((((s:ByteArray).data.getD (i) 0).toNat:Nat):Int):Int)=(0:Int)) (λjg=>jK 5 [19] [] (NT (zR ⟨congrArg Value.bool (decide_eq_false (by intro g;have:=g.2.2.2.2 i (by omega);unfold bO at this;omega)).symm,rfl⟩))) (λjg=>jK 5 [19] [(2,xP i (i<(s:ByteArray).size))] (NN (cP ((((((s:ByteArray).data.getD (i) 0).toNat:Nat):Int):Int)=(47:Int)) (λIm=>zR ⟨congrArg Value.bool (decide_eq_false (by intro g;have:=g.2.2.2.2 i (by omega);unfold bO at this;omega)).symm,rfl⟩) (λIm=>KX (ah.region (jK 3 [3] [(1,wJ ((i:Int)+1) (↑(i+1)))] (NL (tJ ((i+1)) [0] (⟨by omega,λj hj=>by grind [bO]⟩))))))))))))))) (λh7=>XX (SR (jK 4 [23] [] (sP 23 (((((s:ByteArray).size:Nat):Int):Int)>=(1:Int)) (λh23=>jK 5 [28] [] (sP 28 (((((s:ByteArray).size:Nat):Int):Int)<=(255:Int)) (λsU=>jK 4 [32] [(1,w_ (.bool (!(decide ((s:ByteArray)=⟨#[46]⟩)))) (EU _ _))] (sN 32 ((s:ByteArray)=⟨#[46]⟩) (λo8=>jK 4 [2] [(1,w_ (.bool (!(decide ((s:ByteArray)=⟨#[46,46]⟩)))) (EU _ _))] (eN (v:=(.bool (!(decide ((s:ByteArray)=⟨#[46,46]⟩))))) ⟨congrArg Value.bool (Bt (by have hA:∀j,j<s.size->¬bO s j=0/\¬bO s j=47:=λj hj=>hall j (by omega);unfold aS;grind)),rfl⟩)) (λo8=>jK 4 [2] [] (eN ⟨congrArg Value.bool (decide_eq_false (by have hA:∀j,j<s.size->¬bO s j=0/\¬bO s j=47:=λj hj=>hall j (by omega);unfold aS;grind)).symm,rfl⟩)))) (λsU=>jK 8 [2] [] (eN ⟨congrArg Value.bool (decide_eq_false (by have hA:∀j,j<s.size->¬bO s j=0/\¬bO s j=47:=λj hj=>hall j (by omega);unfold aS;grind)).symm,rfl⟩)))) (λh23=>jK 13 [2] [] (eN ⟨congrArg Value.bool (decide_eq_false (by have hA:∀j,j<s.size->¬bO s j=0/\¬bO s j=47:=λj hj=>hall j (by omega);unfold aS;grind)).symm,rfl⟩)))))))))
theorem Km {β:Bs} (n:au) (dA eA:Option Addr) (dC eC:Nat) (ht:n.target.size<=1048576) :
 Spec Tryz.prog β 58 #[.agg #[vI (n.id),vI (n.kind),vI (n.mode),vI (n.uid),vI (n.gid),vI (n.sec),vI (n.nano),.slice dA (n.data.length) (dC),.string n.target,.slice eA (n.af.length) (eC)]] [] (λv l=>v=.bool (decide (o9 n))/\l=[]):=by
 refine SE Tryz.func58 Tryz.ntmps58 (λR=>SR (jB 2 [1] (λb3=>.blk b3 [vI (n.id),vI (n.kind),vI (n.mode),vI (n.uid),vI (n.gid),vI (n.sec),vI (n.nano),.slice dA (n.data.length) (dC),.string n.target,.slice eA (n.af.length) (eC)] 75) (λb3=>NZ (jK 4 [7] [(1,a_ 1 b3)] (sP 7 ((n.kind:Int)<(1:Int)) (λh7=>jK 40 [47] [] (NT (zR ⟨congrArg Value.bool (decide_eq_false (by rw [bH];grind [bJ])).symm,rfl⟩))) (λh7=>jK 5 [12] [(1,a_ 1 b3)] (sP 12 ((n.kind:Int)>(3:Int)) (λh12=>jK 35 [47] [] (NT (zR ⟨congrArg Value.bool (decide_eq_false (by rw [bH];grind [bJ])).symm,rfl⟩))) (λh12=>jK 5 [17] [(1,a_ 1 b3)] (sP 17 ((n.mode:Int)<(0:Int)) (λBr=>jK 30 [47] [] (NT (zR ⟨congrArg Value.bool (decide_eq_false (by rw [bH];grind [bJ])).symm,rfl⟩))) (λBr=>jK 5 [22] [(1,a_ 1 b3)] (sP 22 ((n.mode:Int)>(4095:Int)) (λyH=>jK 25 [47] [] (NT (zR ⟨congrArg Value.bool (decide_eq_false (by rw [bH];grind [bJ])).symm,rfl⟩))) (λyH=>jK 5 [27] [(1,a_ 1 b3)] (sP 27 ((n.uid:Int)<(0:Int)) (λKn=>jK 20 [47] [] (NT (zR ⟨congrArg Value.bool (decide_eq_false (by rw [bH];grind [bJ])).symm,rfl⟩))) (λKn=>jK 5 [32] [(1,a_ 1 b3)] (sP 32 ((n.uid:Int)>(2147483647:Int)) (λo8=>jK 15 [47] [] (NT (zR ⟨congrArg Value.bool (decide_eq_false (by rw [bH];grind [bJ])).symm,rfl⟩))) (λo8=>jK 5 [37] [(1,a_ 1 b3)] (sP 37 ((n.gid:Int)<(0:Int)) (λuZ=>jK 10 [47] [] (NT (zR ⟨congrArg Value.bool (decide_eq_false (by rw [bH];grind [bJ])).symm,rfl⟩))) (λuZ=>jK 5 [42] [(1,a_ 1 b3)] (sP 42 ((n.gid:Int)>(2147483647:Int)) (λiK=>jK 5 [47] [] (NT (zR ⟨congrArg Value.bool (decide_eq_false (by rw [bH];grind [bJ])).symm,rfl⟩))) (λiK=>jK 2 [44] [(1,A_ 1 b3 2)] (gE [] (yj n.sec n.nano) (jK 2 [47] [] (NN (cN (dz n.sec n.nano) (λh47=>zR ⟨congrArg Value.bool (decide_eq_false (by rw [bH];grind [bJ])).symm,rfl⟩) (λh47=>KX (SQ (jK 4 [51] [(1,a_ 1 b3)] (sN 51 ((n.kind:Int)=(1:Int)) (λuj=>?_) (λuj=>?_)))))))))))))))))))))))))))))
 ·refine jK 6 [57] [(1,a_ 1 b3)] (sP 57 ((((n.data.length:Nat):Int):Int)>(0:Int)) (λyI=>jK 10 [67] [] (NT (zR ⟨congrArg Value.bool (decide_eq_false (by rw [bH];grind [bJ])).symm,rfl⟩))) (λyI=>jK 4 [61] [(1,a_ 1 b3)] (sN 61 ((n.kind:Int)=(2:Int)) (λZc=>?_) (λZc=>?_))))
  ·refine jK 6 [67] [(1,a_ 1 b3)] (NN (cP ((((n.af.length:Nat):Int):Int)>(0:Int)) (λKp=>zR ⟨congrArg Value.bool (decide_eq_false (by rw [bH];grind [bJ])).symm,rfl⟩) (λKp=>KX (SQ (jK 3 [70] [(1,a_ 1 b3)] (NN (cN ((n.kind:Int)=(3:Int)) (λKq=>SR (jK 4 [2] [(1,a_ 1 b3),(2,w_ (.bool (decide ((n.target:ByteArray)=⟨#[]⟩))) (nZ _ _))] (eN (v:=(.bool (decide ((n.target:ByteArray)=⟨#[]⟩)))) ⟨congrArg Value.bool (decide_eq_decide.2 (by rw [bH];grind [bJ])),rfl⟩))) (λKq=>KX (SQ (jK 1 [3] [] (NN (ah.block (lJ (λ(i:Nat)=>(i<=n.target.size)/\(∀j,j<i->¬bO n.target j=0)) (λ(i:Nat)=>n.target.size-i) (λ(i:Nat)=>[(1,vP b3),(3,vI ↑i)]) (λ(i:Nat)=>[.abs R,.blk b3 [vI (n.id),vI (n.kind),vI (n.mode),vI (n.uid),vI (n.gid),vI (n.sec),vI (n.nano),.slice dA (n.data.length) (dC),.string n.target,.slice eA (n.af.length) (eC)] 75]) 0 [0,1] (⟨Nat.zero_le _,λj hj=>absurd hj (Nat.not_lt_zero j)⟩) ?_)))))))))))))
   rintro i ⟨hi,hall⟩
   exact SQ (jK 5 [78] [(2,a_ 1 b3)] (NN (cP ((((i:Nat):Int):Int)<((((n.target:ByteArray).size:Nat):Int):Int)) (λKr=>KX (ah.seq (ah.block (SR (jK 5 [85] [(1,a_ 1 b3),(3,xP i (i<(n.target:ByteArray).size))] (NN (cP ((((((n.target:ByteArray).data.getD (i) 0).toNat:Nat):Int):Int)=(0:Int)) (λKt=>zR ⟨congrArg Value.bool (decide_eq_false (by intro g;have:=(bJ.sym g.target (by omega)).2.2 i (by omega);unfold bO at this;omega)).symm,rfl⟩) (λKt=>KX (ah.region (jK 3 [3] [(1,wJ ((i:Int)+1) (↑(i+1)))] (NL (tJ ((i+1)) [0,1] (⟨by omega,λj hj=>by grind [bO]⟩))))))))))))) (λKr=>XX (SR (jK 5 [90] [(1,a_ 1 b3)] (sP 90 (((((n.target:ByteArray).size:Nat):Int):Int)>=(1:Int)) (λsV=>jK 6 [2] [(1,a_ 1 b3)] (eN (v:=(.bool (decide (((((n.target:ByteArray).size:Nat):Int):Int)<=(4096:Int))))) ⟨congrArg Value.bool (decide_eq_decide.2 (by grind [nW,bH,bJ])),rfl⟩)) (λsV=>jK 6 [2] [] (eN ⟨congrArg Value.bool (decide_eq_false (by have hA:nW n.target:=λj hj=>hall j (by omega);rw [bH];grind [bJ])).symm,rfl⟩)))))))))
  refine jK 6 [67] [] (NF (KX (SQ (jK 3 [70] [(1,a_ 1 b3)] (NN (cN ((n.kind:Int)=(3:Int)) (λKq=>SR (jK 4 [2] [(1,a_ 1 b3),(2,w_ (.bool (decide ((n.target:ByteArray)=⟨#[]⟩))) (nZ _ _))] (eN (v:=(.bool (decide ((n.target:ByteArray)=⟨#[]⟩)))) ⟨congrArg Value.bool (decide_eq_decide.2 (by rw [bH];grind [bJ])),rfl⟩))) (λKq=>KX (SQ (jK 1 [3] [] (NN (ah.block (lJ (λ(i:Nat)=>(i<=n.target.size)/\(∀j,j<i->¬bO n.target j=0)) (λ(i:Nat)=>n.target.size-i) (λ(i:Nat)=>[(1,vP b3),(3,vI ↑i)]) (λ(i:Nat)=>[.abs R,.blk b3 [vI (n.id),vI (n.kind),vI (n.mode),vI (n.uid),vI (n.gid),vI (n.sec),vI (n.nano),.slice dA (n.data.length) (dC),.string n.target,.slice eA (n.af.length) (eC)] 75]) 0 [0,1] (⟨Nat.zero_le _,λj hj=>absurd hj (Nat.not_lt_zero j)⟩) ?_))))))))))))
  rintro i ⟨hi,hall⟩
  exact SQ (jK 5 [78] [(2,a_ 1 b3)] (NN (cP ((((i:Nat):Int):Int)<((((n.target:ByteArray).size:Nat):Int):Int)) (λKr=>KX (ah.seq (ah.block (SR (jK 5 [85] [(1,a_ 1 b3),(3,xP i (i<(n.target:ByteArray).size))] (NN (cP ((((((n.target:ByteArray).data.getD (i) 0).toNat:Nat):Int):Int)=(0:Int)) (λKt=>zR ⟨congrArg Value.bool (decide_eq_false (by intro g;have:=(bJ.sym g.target (by omega)).2.2 i (by omega);unfold bO at this;omega)).symm,rfl⟩) (λKt=>KX (ah.region (jK 3 [3] [(1,wJ ((i:Int)+1) (↑(i+1)))] (NL (tJ ((i+1)) [0,1] (⟨by omega,λj hj=>by grind [bO]⟩))))))))))))) (λKr=>XX (SR (jK 5 [90] [(1,a_ 1 b3)] (sP 90 (((((n.target:ByteArray).size:Nat):Int):Int)>=(1:Int)) (λsV=>jK 6 [2] [(1,a_ 1 b3)] (eN (v:=(.bool (decide (((((n.target:ByteArray).size:Nat):Int):Int)<=(4096:Int))))) ⟨congrArg Value.bool (decide_eq_decide.2 (by grind [nW,bH,bJ])),rfl⟩)) (λsV=>jK 6 [2] [] (eN ⟨congrArg Value.bool (decide_eq_false (by have hA:nW n.target:=λj hj=>hall j (by omega);rw [bH];grind [bJ])).symm,rfl⟩)))))))))
 refine jK 10 [57,61] [(7,a_ 1 b3)] (sN 61 ((n.kind:Int)=(2:Int)) (λZc=>?_) (λZc=>?_))
 ·refine jK 6 [67] [(1,a_ 1 b3)] (NN (cP ((((n.af.length:Nat):Int):Int)>(0:Int)) (λKp=>zR ⟨congrArg Value.bool (decide_eq_false (by rw [bH];grind [bJ])).symm,rfl⟩) (λKp=>KX (SQ (jK 3 [70] [(1,a_ 1 b3)] (NN (cN ((n.kind:Int)=(3:Int)) (λKq=>SR (jK 4 [2] [(1,a_ 1 b3),(2,w_ (.bool (decide ((n.target:ByteArray)=⟨#[]⟩))) (nZ _ _))] (eN (v:=(.bool (decide ((n.target:ByteArray)=⟨#[]⟩)))) ⟨congrArg Value.bool (decide_eq_decide.2 (by rw [bH];grind [bJ])),rfl⟩))) (λKq=>KX (SQ (jK 1 [3] [] (NN (ah.block (lJ (λ(i:Nat)=>(i<=n.target.size)/\(∀j,j<i->¬bO n.target j=0)) (λ(i:Nat)=>n.target.size-i) (λ(i:Nat)=>[(1,vP b3),(3,vI ↑i)]) (λ(i:Nat)=>[.abs R,.blk b3 [vI (n.id),vI (n.kind),vI (n.mode),vI (n.uid),vI (n.gid),vI (n.sec),vI (n.nano),.slice dA (n.data.length) (dC),.string n.target,.slice eA (n.af.length) (eC)] 75]) 0 [0,1] (⟨Nat.zero_le _,λj hj=>absurd hj (Nat.not_lt_zero j)⟩) ?_)))))))))))))
  rintro i ⟨hi,hall⟩
  exact SQ (jK 5 [78] [(2,a_ 1 b3)] (NN (cP ((((i:Nat):Int):Int)<((((n.target:ByteArray).size:Nat):Int):Int)) (λKr=>KX (ah.seq (ah.block (SR (jK 5 [85] [(1,a_ 1 b3),(3,xP i (i<(n.target:ByteArray).size))] (NN (cP ((((((n.target:ByteArray).data.getD (i) 0).toNat:Nat):Int):Int)=(0:Int)) (λKt=>zR ⟨congrArg Value.bool (decide_eq_false (by intro g;have:=(bJ.sym g.target (by omega)).2.2 i (by omega);unfold bO at this;omega)).symm,rfl⟩) (λKt=>KX (ah.region (jK 3 [3] [(1,wJ ((i:Int)+1) (↑(i+1)))] (NL (tJ ((i+1)) [0,1] (⟨by omega,λj hj=>by grind [bO]⟩))))))))))))) (λKr=>XX (SR (jK 5 [90] [(1,a_ 1 b3)] (sP 90 (((((n.target:ByteArray).size:Nat):Int):Int)>=(1:Int)) (λsV=>jK 6 [2] [(1,a_ 1 b3)] (eN (v:=(.bool (decide (((((n.target:ByteArray).size:Nat):Int):Int)<=(4096:Int))))) ⟨congrArg Value.bool (decide_eq_decide.2 (by grind [nW,bH,bJ])),rfl⟩)) (λsV=>jK 6 [2] [] (eN ⟨congrArg Value.bool (decide_eq_false (by have hA:nW n.target:=λj hj=>hall j (by omega);rw [bH];grind [bJ])).symm,rfl⟩)))))))))
 refine jK 6 [67] [] (NF (KX (SQ (jK 3 [70] [(1,a_ 1 b3)] (NN (cN ((n.kind:Int)=(3:Int)) (λKq=>SR (jK 4 [2] [(1,a_ 1 b3),(2,w_ (.bool (decide ((n.target:ByteArray)=⟨#[]⟩))) (nZ _ _))] (eN (v:=(.bool (decide ((n.target:ByteArray)=⟨#[]⟩)))) ⟨congrArg Value.bool (decide_eq_decide.2 (by rw [bH];grind [bJ])),rfl⟩))) (λKq=>KX (SQ (jK 1 [3] [] (NN (ah.block (lJ (λ(i:Nat)=>(i<=n.target.size)/\(∀j,j<i->¬bO n.target j=0)) (λ(i:Nat)=>n.target.size-i) (λ(i:Nat)=>[(1,vP b3),(3,vI ↑i)]) (λ(i:Nat)=>[.abs R,.blk b3 [vI (n.id),vI (n.kind),vI (n.mode),vI (n.uid),vI (n.gid),vI (n.sec),vI (n.nano),.slice dA (n.data.length) (dC),.string n.target,.slice eA (n.af.length) (eC)] 75]) 0 [0,1] (⟨Nat.zero_le _,λj hj=>absurd hj (Nat.not_lt_zero j)⟩) ?_))))))))))))
 rintro i ⟨hi,hall⟩
 exact SQ (jK 5 [78] [(2,a_ 1 b3)] (NN (cP ((((i:Nat):Int):Int)<((((n.target:ByteArray).size:Nat):Int):Int)) (λKr=>KX (ah.seq (ah.block (SR (jK 5 [85] [(1,a_ 1 b3),(3,xP i (i<(n.target:ByteArray).size))] (NN (cP ((((((n.target:ByteArray).data.getD (i) 0).toNat:Nat):Int):Int)=(0:Int)) (λKt=>zR ⟨congrArg Value.bool (decide_eq_false (by intro g;have:=(bJ.sym g.target (by omega)).2.2 i (by omega);unfold bO at this;omega)).symm,rfl⟩) (λKt=>KX (ah.region (jK 3 [3] [(1,wJ ((i:Int)+1) (↑(i+1)))] (NL (tJ ((i+1)) [0,1] (⟨by omega,λj hj=>by grind [bO]⟩))))))))))))) (λKr=>XX (SR (jK 5 [90] [(1,a_ 1 b3)] (sP 90 (((((n.target:ByteArray).size:Nat):Int):Int)>=(1:Int)) (λsV=>jK 6 [2] [(1,a_ 1 b3)] (eN (v:=(.bool (decide (((((n.target:ByteArray).size:Nat):Int):Int)<=(4096:Int))))) ⟨congrArg Value.bool (decide_eq_decide.2 (by grind [nW,bH,bJ])),rfl⟩)) (λsV=>jK 6 [2] [] (eN ⟨congrArg Value.bool (decide_eq_false (by have hA:nW n.target:=λj hj=>hall j (by omega);rw [bH];grind [bJ])).symm,rfl⟩)))))))))
theorem zw {β:Bs} (A:Option Addr) (c:Nat) (ns:List au) (L:Lay) (hG:av β A ns L) (hr:bK ns) (hl:ns.length<=1048576) (id:Int) :
 Spec Tryz.prog β 28 #[.agg #[.slice A ns.length c],vI id] [] (λv l=>v=vI (dV ns id)/\l=[]):=by
 refine SE Tryz.func28 Tryz.ntmps28 (λR=>SR (jB 2 [2] (λb4=>.blk b4 [.slice A (ns.length) (c)] 24) (λb4=>NS (jK 1 [5] [] (NS (jK 4 [6] [(1,a_ 1 b4)] (NN (ah.seq (ah.block (lJ (λ(lo,hi)=>(lo<=hi)/\(hi<=ns.length)/\(∀j,j<lo->(nd ns j).id<id)/\(∀j,hi<=j->j<ns.length->id<=(nd ns j).id)) (λ(lo,hi)=>hi-lo) (λ(lo,hi)=>[(1,vI (id)),(2,vP b4),(5,vI ↑lo),(6,vI ↑hi)]) (λ(lo,hi)=>[.abs R,.blk b4 [.slice A (ns.length) (c)] 24]) (0,ns.length) [0,1] (⟨Nat.zero_le _,Nat.le_refl _,λj hj=>absurd hj (Nat.not_lt_zero j),λj h1 h2=>absurd h2 (Nat.not_lt.2 h1)⟩) ?_))))))))))
 rintro⟨lo,hi⟩ ⟨hlh,hhi,ha,hb⟩
 exact SQ (jK 3 [13] [] (NN (cP ((((lo:Nat):Int):Int)<(((hi:Nat):Int):Int)) (λp6=>KX (ah.block (SR (jK 7 [7] [(3,wJ ((hi:Int)-(lo:Int)) (↑(hi-lo))),(4,w_ (.int .i64 ↑((hi-lo) / 2)) (vW (Int.ofNat_tdiv _ _).symm (by omega) (by omega))),(5,wJ ((lo:Int)+(((hi-lo) / 2:Nat):Int)) (↑(lo+((hi-lo) / 2))))] (NS (jK 8 [27] [(1,a_ 1 b4),(3,p_ ⟨[],some (lo+((hi-lo) / 2)),none,some ⟨(aV A),aU A,none⟩,none⟩ [((lo+((hi-lo) / 2):Nat):Int)=((lo+((hi-lo) / 2):Nat):Int),lo+((hi-lo) / 2)<ns.length,(⟨(aV A),aU A,none⟩:Addr).spot=none,(A:Option Addr)=some ⟨(aV A),aU A,none⟩] ⟨rfl,by omega,rfl,av.hd hG (i:=lo+((hi-lo) / 2)) (by omega),trivial⟩),(5,r_ (av.rd hG (i:=lo+((hi-lo) / 2)) (by omega) (j:=0) rfl))] (NN (cP (((nd ns (lo+((hi-lo) / 2))).id:Int)<(id:Int)) (λKn=>ah.region (jK 3 [5] [(1,wJ (((lo+((hi-lo) / 2):Nat):Int)+1) (↑((lo+((hi-lo) / 2))+1)))] (NL (aj.kJ (tJ (((lo+(hi-lo) / 2)+1),hi) [0,1] (⟨by omega,by omega,λj hj=>by have:=hr.le (show j<=(lo+(hi-lo) / 2) by omega) (by omega);omega,hb⟩)))))) (λKn=>ah.region (jK 2 [6] [] (NL (aj.kJ (tJ (lo,(lo+(hi-lo) / 2)) [0,1] (⟨by omega,by omega,ha,λj hj hj2=>by have:=hr.le hj hj2;omega⟩)))))))))))))) (λp6=>XX (SQ (jK 6 [36] [(2,a_ 1 b4)] (sP 36 ((((lo:Nat):Int):Int)<(((ns.length:Nat):Int):Int)) (λAO=>jK 9 [45] [(1,a_ 1 b4),(3,x_ lo ns.length (av.hd hG (i:=lo) (by omega))),(5,r_ (av.rd hG (i:=lo) (by omega) (j:=0) rfl))] (NN (cP (((nd ns lo).id:Int)=(id:Int)) (λRk=>zR ⟨congrArg (Value.int .i64) (Kf hr (by omega) Rk).symm,rfl⟩) (λRk=>KX (zR ⟨congrArg (Value.int .i64) (D3 (λj hj e=>by rcases Nat.lt_trichotomy j lo with h|h|h;have:=ha j h;omega;subst h;omega;have:=hr lo j h hj;have:=hb lo (by omega) (by omega);omega)).symm,rfl⟩))))) (λAO=>jK 9 [45] [] (NF (KX (zR ⟨congrArg (Value.int .i64) (D3 (λj hj e=>by rcases Nat.lt_trichotomy j lo with h|h|h;have:=ha j h;omega;subst h;omega;have:=hr lo j h hj;have:=hb lo (by omega) (by omega);omega)).symm,rfl⟩)))))))))))
theorem CH {β:Bs} (A:Option Addr) (ns:List au) (L:Lay) (hG:av β A ns L) (i:Nat) (hi:i<ns.length) :
 Spec Tryz.prog β 137 #[.pointer (some ⟨(aV A),aU A+i*10,none⟩)] [] (λv l=>v=.bool (decide (bJ (nd ns i).kind (nd ns i).target))/\l=[]):=by
 exact SE Tryz.func137 Tryz.ntmps137 (λR=>SR (jK 1 [] [] (NZ (jK 5 [7] [(3,r_ (av.rd hG (i:=i) (by omega) (j:=1) rfl))] (NN (cN (((nd ns i).kind:Int)=(3:Int)) (λh7=>SR (jK 6 [2] [(3,r_ (av.rd hG (i:=i) (by omega) (j:=8) rfl)),(4,w_ (.bool (decide (((nd ns i).target:ByteArray)=⟨#[]⟩))) (nZ _ _))] (eN (v:=(.bool (decide (((nd ns i).target:ByteArray)=⟨#[]⟩)))) ⟨congrArg Value.bool (decide_eq_decide.2 (by grind [qp,nd,bJ])),rfl⟩))) (λh7=>KX (SR (jK 6 [18] [(3,r_ (av.rd hG (i:=i) (by omega) (j:=8) rfl)),(4,w_ (.bool (!(decide (((nd ns i).target:ByteArray)=⟨#[]⟩)))) (EU _ _))] (sN 18 (((nd ns i).target:ByteArray)=⟨#[]⟩) (λmF=>jK 8 [26] [(3,r_ (av.rd hG (i:=i) (by omega) (j:=8) rfl))] (sP 26 ((((((nd ns i).target:ByteArray).size:Nat):Int):Int)<=(4096:Int)) (λAK=>jK 4 [30] [(3,r_ (av.rd hG (i:=i) (by omega) (j:=8) rfl))] (gE [] (Spec.quiet (λw=>Tryz.strings_IndexByte (nd ns i).target 0 w)) (jK 3 [2] [] (eN (v:=(.bool (decide ((Lib.indexByte (nd ns i).target.data.toList (0:Int).toNat.toUInt8:Int)<(0:Int))))) ⟨congrArg Value.bool (decide_eq_decide.2 (by grind [qp,nd,Kg,bJ])),rfl⟩)))) (λAK=>jK 8 [2] [] (eN ⟨congrArg Value.bool (decide_eq_false (by grind [qp,nd,bJ])).symm,rfl⟩)))) (λmF=>jK 16 [2] [] (eN ⟨congrArg Value.bool (decide_eq_false (by grind [qp,nd,bJ])).symm,rfl⟩))))))))))))
theorem Uz {β:Bs} (A:Option Addr) (ns:List au) (L:Lay) (hG:av β A ns L) (i:Nat) (hi:i<ns.length) :
 Spec Tryz.prog β 109 #[.pointer (some ⟨(aV A),aU A+i*10,none⟩)] [] (λv l=>v=.bool (decide (o9 (nd ns i)))/\l=[]):=by
 refine SE Tryz.func109 Tryz.ntmps109 (λR=>SR (jK 1 [] [] (NZ (jK 4 [6] [(3,r_ (av.rd hG (i:=i) (by omega) (j:=1) rfl))] (gE [] (xq ((nd ns i).kind) 1 3) (jK 2 [9] [] (sN 9 (Within ((nd ns i).kind) 1 3) (λh9=>jK 23 [32] [] (NT (zR ⟨congrArg Value.bool (decide_eq_false (by grind [bH,Within])).symm,rfl⟩))) (λh9=>jK 4 [13] [(3,r_ (av.rd hG (i:=i) (by omega) (j:=2) rfl))] (gE [] (xq ((nd ns i).mode) 0 4095) (jK 3 [17] [] (sN 17 (Within ((nd ns i).mode) 0 4095) (λBr=>jK 15 [32] [] (NT (zR ⟨congrArg Value.bool (decide_eq_false (by grind [bH,Within])).symm,rfl⟩))) (λBr=>jK 4 [21] [(3,r_ (av.rd hG (i:=i) (by omega) (j:=3) rfl))] (gE [] (xq ((nd ns i).uid) 0 2147483647) (jK 3 [25] [] (sN 25 (Within ((nd ns i).uid) 0 2147483647) (λoC=>jK 7 [32] [] (NT (zR ⟨congrArg Value.bool (decide_eq_false (by grind [bH,Within])).symm,rfl⟩))) (λoC=>?_))))))))))))))))
 exact jK 4 [29] [(3,r_ (av.rd hG (i:=i) (by omega) (j:=4) rfl))] (gE [] (xq ((nd ns i).gid) 0 2147483647) (jK 2 [32] [] (NN (cN (Within ((nd ns i).gid) 0 2147483647) (λo8=>zR ⟨congrArg Value.bool (decide_eq_false (by grind [bH,Within])).symm,rfl⟩) (λo8=>KX (SQ (jK 6 [38] [(3,r_ (av.rd hG (i:=i) (by omega) (j:=1) rfl))] (sN 38 (((nd ns i).kind:Int)=(1:Int)) (λBv=>jK 8 [46] [(3,r_ (av.rd hG (i:=i) (by omega) (j:=7) rfl))] (sP 46 (((((nd ns i).data.length:Nat):Int):Int)>(0:Int)) (λh46=>jK 14 [60] [] (NT (zR ⟨congrArg Value.bool (decide_eq_false (by grind [bH,Within])).symm,rfl⟩))) (λh46=>jK 6 [52] [(3,r_ (av.rd hG (i:=i) (by omega) (j:=1) rfl))] (sN 52 (((nd ns i).kind:Int)=(2:Int)) (λxu=>jK 8 [60] [(3,r_ (av.rd hG (i:=i) (by omega) (j:=9) rfl))] (NN (cP (((((nd ns i).af.length:Nat):Int):Int)>(0:Int)) (λKu=>zR ⟨congrArg Value.bool (decide_eq_false (by grind [bH,Within])).symm,rfl⟩) (λKu=>KX (SR (jK 4 [64] [(3,r2 (av.rd hG (i:=i) (by omega) (j:=5) rfl) (av.rd hG (i:=i) (by omega) (j:=6) rfl))] (gE [] (j8 (nd ns i).sec (nd ns i).nano) (jK 1 [66] [] (sP 66 (dz (nd ns i).sec (nd ns i).nano) (λjF=>jK 1 [67] [] (gE [] (CH A ns L hG i hi) (jK 2 [2] [] (eN (v:=(.bool (decide (bJ (nd ns i).kind (nd ns i).target)))) ⟨congrArg Value.bool (decide_eq_decide.2 (by grind [bH,Within])),rfl⟩)))) (λjF=>jK 4 [2] [] (eN ⟨congrArg Value.bool (decide_eq_false (by grind [bH,Within])).symm,rfl⟩))))))))))) (λxu=>jK 8 [60] [] (NF (KX (SR (jK 4 [64] [(3,r2 (av.rd hG (i:=i) (by omega) (j:=5) rfl) (av.rd hG (i:=i) (by omega) (j:=6) rfl))] (gE [] (j8 (nd ns i).sec (nd ns i).nano) (jK 1 [66] [] (sP 66 (dz (nd ns i).sec (nd ns i).nano) (λjF=>jK 1 [67] [] (gE [] (CH A ns L hG i hi) (jK 2 [2] [] (eN (v:=(.bool (decide (bJ (nd ns i).kind (nd ns i).target)))) ⟨congrArg Value.bool (decide_eq_decide.2 (by grind [bH,Within])),rfl⟩)))) (λjF=>jK 4 [2] [] (eN ⟨congrArg Value.bool (decide_eq_false (by grind [bH,Within])).symm,rfl⟩)))))))))))))) (λBv=>jK 14 [46,52] [(11,r_ (av.rd hG (i:=i) (by omega) (j:=1) rfl))] (sN 52 (((nd ns i).kind:Int)=(2:Int)) (λxu=>jK 8 [60] [(3,r_ (av.rd hG (i:=i) (by omega) (j:=9) rfl))] (NN (cP (((((nd ns i).af.length:Nat):Int):Int)>(0:Int)) (λKu=>zR ⟨congrArg Value.bool (decide_eq_false (by grind [bH,Within])).symm,rfl⟩) (λKu=>KX (SR (jK 4 [64] [(3,r2 (av.rd hG (i:=i) (by omega) (j:=5) rfl) (av.rd hG (i:=i) (by omega) (j:=6) rfl))] (gE [] (j8 (nd ns i).sec (nd ns i).nano) (jK 1 [66] [] (sP 66 (dz (nd ns i).sec (nd ns i).nano) (λjF=>jK 1 [67] [] (gE [] (CH A ns L hG i hi) (jK 2 [2] [] (eN (v:=(.bool (decide (bJ (nd ns i).kind (nd ns i).target)))) ⟨congrArg Value.bool (decide_eq_decide.2 (by grind [bH,Within])),rfl⟩)))) (λjF=>jK 4 [2] [] (eN ⟨congrArg Value.bool (decide_eq_false (by grind [bH,Within])).symm,rfl⟩))))))))))) (λxu=>jK 8 [60] [] (NF (KX (SR (jK 4 [64] [(3,r2 (av.rd hG (i:=i) (by omega) (j:=5) rfl) (av.rd hG (i:=i) (by omega) (j:=6) rfl))] (gE [] (j8 (nd ns i).sec (nd ns i).nano) (jK 1 [66] [] (sP 66 (dz (nd ns i).sec (nd ns i).nano) (λjF=>jK 1 [67] [] (gE [] (CH A ns L hG i hi) (jK 2 [2] [] (eN (v:=(.bool (decide (bJ (nd ns i).kind (nd ns i).target)))) ⟨congrArg Value.bool (decide_eq_decide.2 (by grind [bH,Within])),rfl⟩)))) (λjF=>jK 4 [2] [] (eN ⟨congrArg Value.bool (decide_eq_false (by grind [bH,Within])).symm,rfl⟩))))))))))))))))))))
end
section
open Go.RowKit Go.Maps
def fM (x y:ByteArray):Prop:=(Op.bytesLess x.toList y.toList || (x.toList == y.toList))=true
instance (x y:ByteArray):Decidable (fM x y):=inferInstanceAs (Decidable (_=true))
theorem Kv (x y:ByteArray):Value.bool (Op.bytesLess x.toList y.toList || (x.toList == y.toList))=Value.bool (decide (fM x y)):=by
 grind [fM]
theorem Na {x:ByteArray}:fM x ⟨#[]⟩↔x=⟨#[]⟩:=by
 unfold fM
 rw [Bd]
 have h1:(⟨#[]⟩:ByteArray).toList=[]:=by rw [Lib.toList_data]
 have h2:Op.bytesLess x.toList (⟨#[]⟩:ByteArray).toList=false:=by
  rw [h1]
  cases x.toList<;>rfl
 rw [h2]
 simp
def tgt (ns:List au) (z:Int):Nat:=(dV ns z).toNat
theorem jY {ns:List au} {z:Int} (h:0<=dV ns z):tgt ns z<ns.length/\(nd ns (tgt ns z)).id=z/\dV ns z=(tgt ns z:Int):=by
 unfold tgt
 unfold dV at h ⊢
 cases hf:ns.findIdx? (λn=>n.id == z) with
 |none=>rw [hf] at h;simp at h
 |some k=>
   rw [List.findIdx?_eq_some_iff_getElem] at hf
   grind [nd]
theorem yJ {ns:List au} {z:Int} (h:¬0<=dV ns z):dV ns z = -1:=by
 grind [dV]
def ent (ns:List au) (i j:Nat):cR:=en (nd ns i).af j
def wj (ns:List au) (i:Nat):Nat->ByteArray
 |0=>⟨#[]⟩
 |j+1=>(ent ns i j).name
structure tX (ns:List au) (i j:Nat):Prop where
 at_:0<=dV ns (ent ns i j).id
 good:aS (ent ns i j).name
 ord:¬fM (ent ns i j).name (wj ns i j)
def N7 (ns:List au) (i j:Nat):List (Nat×Nat):=if (nd ns (tgt ns (ent ns i j).id)).kind=2 then [(tgt ns (ent ns i j).id,i)] else []
def eE (ns:List au) (i:Nat):Nat->List (Nat×Nat)
 |0=>[]
 |j+1=>N7 ns i j++eE ns i j
def fX (ns:List au):Nat->List (Nat×Nat)
 |0=>[]
 |i+1=>eE ns i (nd ns i).af.length++fX ns i
def iT (ns:List au) (p:Nat×Nat):Int×Int:=((nd ns p.1).id,(nd ns p.2).id)
theorem Rl {ns:List au} {i j m:Nat} (h:j<=m):∃l,eE ns i m=l++eE ns i j:=by
 induction m with
 |zero=>exact⟨[],by rw [Nat.le_zero.1 h];rfl⟩
 |succ m ih=>
   rcases Nat.lt_or_ge m j with h1|h1
   ·have:j=m+1:=by omega
    subst this
    exact⟨[],rfl⟩
   grind [N7,eE]
theorem Rm {ns:List au} {i m:Nat} (h:i<=m):∃l,fX ns m=l++fX ns i:=by
 induction m with
 |zero=>exact⟨[],by rw [Nat.le_zero.1 h];rfl⟩
 |succ m ih=>
   rcases Nat.lt_or_ge m i with h1|h1
   ·have:i=m+1:=by omega
    subst this
    exact⟨[],rfl⟩
   grind [eE,nd,fX]
theorem Bw {l:List (Nat×Nat)} {k:List (Nat×Nat)} (h:((l++k).map Prod.fst).Nodup):(k.map Prod.fst).Nodup:=by
 grind
theorem bK.inj {ns:List au} (hr:bK ns) {a b:Nat} (ha:a<ns.length) (hb:b<ns.length) (h:(nd ns a).id=(nd ns b).id):a=b:=by
 rcases Nat.lt_trichotomy a b with h1|h1|h1
 all_goals grind [bK,nd]
theorem N8 {ns:List au} {ps:List (Nat×Nat)} {k:Nat} (h:up (ps.map (iT ns)) (nd ns k).id=none):k∉ps.map Prod.fst:=by
 unfold up at h
 induction ps with
 |nil=>simp
 |cons p ps ih=>
   grind [iT,nd]
theorem N9 {ns:List au} {ps:List (Nat×Nat)} {k:Nat} {y:Int} (hr:bK ns) (hk:k<ns.length) (hp:∀p,p∈ps->p.1<ns.length) (h:up (ps.map (iT ns)) (nd ns k).id=some y):k∈ps.map Prod.fst/\∃p,p∈ps/\p.1=k/\y=(nd ns p.2).id:=by
 unfold up at h
 induction ps with
 |nil=>cases h
 |cons p ps ih=>
   obtain⟨a,b⟩:=p
   rw [List.map_cons,iT,List.lookup_cons] at h
   by_cases e:((nd ns k).id == (nd ns a).id)=true
   ·rw [e] at h
    cases h
    have:k=a:=hr.inj hk (hp (a,b) (List.mem_cons_self ..)) (by simpa using e)
    subst this
    exact⟨by simp,(k,b),List.mem_cons_self ..,rfl,rfl⟩
   grind
def bf (A:Option Addr) (ns:List au) (k:Nat) (z:Int):Option Value:=if 0<=dV ns z/\dV ns z<k then some (.pointer (some ⟨aV A,aU A+tgt ns z*10,none⟩)) else none
structure zx (ns:List au) (i:Nat) (ps:List (Nat×Nat)):Prop where
 af:∀j,j<(nd ns i).af.length->tX ns i j
 nodup:((eE ns i (nd ns i).af.length++ps).map Prod.fst).Nodup
theorem abh {A:Option Addr} {ns:List au} {k:Nat} {z:Int} (h:0<=dV ns z) (hk:tgt ns z<k):mf (bf A ns k) (.int .i64 z)=some (.pointer (some ⟨aV A,aU A+tgt ns z*10,none⟩)):=
 if_pos ⟨h,by rw [(jY h).2.2];omega⟩
theorem XY {A:Option Addr} {ns:List au} {k:Nat} {z:Int} (h:¬0<=dV ns z):mf (bf A ns k) (.int .i64 z)=none:=if_neg (λe=>h e.1)
theorem Kw (ns:List au) (i j:Nat):(eE ns i j).length<=j:=by
 induction j with
 |zero=>exact Nat.le_refl _
 |succ j ih=>
   grind [eE,N7]
theorem oF {ns:List au} {i j:Nat} (h:¬(nd ns (tgt ns (ent ns i j).id)).kind=2):eE ns i (j+1)=eE ns i j:=by
 rw [eE,N7,if_neg h];rfl
theorem nM {ns:List au} {i j:Nat} (h:(nd ns (tgt ns (ent ns i j).id)).kind=2):eE ns i (j+1)=(tgt ns (ent ns i j).id,i)::eE ns i j:=by
 rw [eE,N7,if_pos h];rfl
theorem yq {ns:List au} {i j:Nat} {ps:List (Nat×Nat)} (h:zx ns i ps) (hj:j<(nd ns i).af.length) (hk:(nd ns (tgt ns (ent ns i j).id)).kind=2):tgt ns (ent ns i j).id∉(eE ns i j++ps).map Prod.fst:=by
 obtain⟨l,hl⟩:=Rl (ns:=ns) (i:=i) (show j+1<=(nd ns i).af.length from hj)
 have h1:=h.nodup
 grind [Bw,nM]
theorem UA {ns:List au} {i j:Nat} {ps:List (Nat×Nat)} (hat:0<=dV ns (ent ns i j).id) (hk:(nd ns (tgt ns (ent ns i j).id)).kind=2) :
 o4 (mf (pf ((eE ns i j++ps).map (iT ns)))) (.int .i64 (ent ns i j).id) (some (.int .i64 (nd ns i).id))=mf (pf ((eE ns i (j+1)++ps).map (iT ns))):=by
 rw [Kh,nM hk,List.cons_append,List.map_cons,iT,(jY hat).2.1,XV]
theorem UB {ns:List au} {i j:Nat} {ps:List (Nat×Nat)} {f:Lit->Option Value} {kl:Lit} (hf:f kl=none) (hk:(nd ns (tgt ns (ent ns i j).id)).kind=2) :
 (if (f kl).isSome then (eE ns i j++ps).length else (eE ns i j++ps).length+1)=(eE ns i (j+1)++ps).length:=by
 rw [hf,nM hk]
 rfl
theorem Pw {ns:List au} {i j:Nat} {ps:List (Nat×Nat)} (hat:0<=dV ns (ent ns i j).id) (hk:(nd ns (tgt ns (ent ns i j).id)).kind=2) (hup:up ((eE ns i j++ps).map (iT ns)) (ent ns i j).id=none) (h:((eE ns i j++ps).map Prod.fst).Nodup) :
 ((eE ns i (j+1)++ps).map Prod.fst).Nodup:=by
 grind [nM,N8,jY,dV,ent,nd,tgt,up,eE,iT]
theorem Kx {ns:List au} {i j:Nat} (h:∀t,t<j->tX ns i t):∀p,p∈eE ns i j->p.1<ns.length/\p.2=i:=by
 induction j with
 |zero=>intro p hp;cases hp
 |succ j ih=>
   intro p hp
   rw [eE] at hp
   rcases List.mem_append.1 hp with hp|hp
   ·unfold N7 at hp
    split at hp
    ·rw [List.mem_singleton.1 hp]
     exact⟨(jY (h j (Nat.lt_succ_self j)).at_).1,rfl⟩
    cases hp
   exact ih (λt ht=>h t (by omega)) p hp
theorem Nb {ns:List au} {i j:Nat} {ps:List (Nat×Nat)} {y:Int} (hr:bK ns) (hps:∀p,p∈ps->p.1<ns.length) (hok:∀t,t<j->tX ns i t) (hat:0<=dV ns (ent ns i j).id) (hk:(nd ns (tgt ns (ent ns i j).id)).kind=2)
 (hup:up ((eE ns i j++ps).map (iT ns)) (ent ns i j).id=some y) (hj:j<(nd ns i).af.length):¬zx ns i ps:=λh=>by
 refine yq h hj hk ?_
 rw [←(jY hat).2.1] at hup
 refine (N9 hr (jY hat).1 (λp hp=>?_) hup).1
 rcases List.mem_append.1 hp with hp|hp
 ·exact (Kx hok p hp).1
 exact hps p hp
end
section
open Go.RowKit
structure Th where
 k:Nat
 kind:Int
deriving Inhabited,DecidableEq
abbrev fP (α:Type):=List (ByteArray×α)
structure aI where
 id:Int
 mode:Int
 uid:Int
 gid:Int
 sec:Int
 nano:Int
 links:Int
 opens:Int
 gone:Bool
 kind:Int
 data:List UInt8
 target:ByteArray
 af:fP Th
 up:Option Nat
deriving Inhabited
abbrev bZ:=Nat->aI
def obj (O:bZ) (k:Nat):aI:=O k
def ay (O:bZ) (k:Nat) (f:aI->aI):bZ:=λi=>if i=k then f (O i) else O i
section o4
variable {O:bZ} {k j:Nat} {f g:aI->aI}
theorem cO:obj (ay O k f) k=f (obj O k):=if_pos rfl
theorem fQ (h:j≠k):obj (ay O k f) j=obj O j:=if_neg h
theorem iw:obj (ay O k f) j=if j=k then f (obj O j) else obj O j:=rfl
theorem XZ (h:f (obj O k)=obj O k):ay O k f=O:=by
 grind [obj,ay]
theorem xw:ay (ay O k f) k g=ay O k (λo=>g (f o)):=by
 grind [ay]
end o4
section af
variable {α:Type} {n p:ByteArray} {t:α} {es:fP α}
def aH (n:ByteArray) (es:fP α):Option α:=(es.find? (λe=>decide (e.1=n))).map (·.2)
def iz (n:ByteArray) (t:α):fP α->fP α
 |[]=>[(n,t)]
 |e::r=>if ¬fM e.1 n then (n,t)::e::r else e::iz n t r
def iF (n:ByteArray) (es:fP α):fP α:=es.filter (λe=>decide (e.1≠n))
theorem mW {e:ByteArray×α}:aH n (e::es)=if e.1=n then some e.2 else aH n es:=by
 grind [aH]
theorem zy:aH n es=none↔∀e∈es,e.1≠n:=by
 unfold aH
 rw [Option.map_eq_none_iff,List.find?_eq_none]
 simp
theorem oG {es:fP α} (h:aH n es=some t):(n,t)∈es:=by
 unfold aH at h
 obtain⟨e,h1,h2⟩:=Option.map_eq_some_iff.1 h
 grind
theorem Ky:∀{es:fP α},(iz n t es).length=es.length+1
 |[]=>rfl
 |e::r=>by
   unfold iz
   split
   ·rfl
   rw [List.length_cons,Ky];rfl
theorem Bz (hn:aH n es=none):aH p (iz n t es)=if p=n then some t else aH p es:=by
 induction es with
 |nil=>
   grind [iz,mW]
 |cons e r ih=>
   grind [mW,iz]
theorem ul:aH p (iF n es)=if p=n then none else aH p es:=by
 grind [iF,aH,mW]
def mP (es:fP α):Prop:=es.Pairwise (λa b=>a.1≠b.1)
theorem UC {es:fP α} (hd:mP es) (h:aH n es=some t):(iF n es).length+1=es.length:=by
 induction es with
 |nil=>cases h
 |cons e r ih=>
   obtain⟨h1,h2⟩:=List.pairwise_cons.1 hd
   rw [mW] at h
   unfold iF at ih ⊢
   rw [List.filter_cons]
   by_cases he:e.1=n
   ·rw [if_neg (by simp [he])]
    have:r.filter (λe=>decide (e.1≠n))=r:=List.filter_eq_self.2 (λx hx=>by grind)
    rw [this];rfl
   grind [mP,aH,iF]
theorem D9 {e:ByteArray×α}:∀{es:fP α},e∈iz n t es↔e=(n,t)\/e∈es
 |[]=>by simp [iz]
 |x::r=>by
   unfold iz
   split
   ·simp
   rw [List.mem_cons,D9,List.mem_cons]
   constructor
   ·rintro (h|h|h)
    ·exact .inr (.inl h)
    ·exact .inl h
    exact .inr (.inr h)
   rintro (h|h|h)
   ·exact .inr (.inl h)
   ·exact .inl h
   exact .inr (.inr h)
end af
end
section
open Go.RowKit
section sat
variable {β:Bs} {l:List HP} {w:World} {p p1 p2:HP} {i:Nat}
theorem Sat.WH (h:Sat β l w) (hp:l[i]?=some p) (hs:∀F,p.h F w->∃F1 F2,p1.h F1 w/\p2.h F2 w/\Apart F1 F2/\∀k,F k↔F1 k\/F2 k):Sat β (l.set i p1++[p2]) w:=by
 obtain⟨ho,φ,h1,h2,h3⟩:=h
 obtain⟨F1,F2,g1,g2,g3,g4⟩:=hs _ (h1 i p hp)
 have hi:=bT hp
 have hlen:(l.set i p1++[p2]).length=l.length+1:=by simp
 refine⟨ho,λj=>if j=l.length then F2 else if j=i then F1 else φ j,λj q hq=>?_,λj hj k hk hO=>?_,λa b ha hb hne k hk hk'=>?_⟩
 all_goals grind [bT,Sat,Apart]
theorem Sat.WI {j:Nat} {idx:List Nat} {l':List HP} (h:Sat β l w) (hp:l[i]?=some p1) (hq:l[j]?=some p2) (hn:nodupB (i::j::idx)=true) (hl:bh l idx=some l') (hs:∀F1 F2,p1.h F1 w->p2.h F2 w->Apart F1 F2->∃F,p.h F w/\∀k,F k->F1 k\/F2 k):Sat β (p::l') w:=by
 have h':=h.pick (idx:=i::j::idx) (l':=p1::p2::l') hn (by simp only [bh,hp,hq,hl])
 obtain⟨ho,φ,h1,h2,h3⟩:=h'
 obtain⟨F,hF,hk⟩:=hs _ _ (h1 0 p1 rfl) (h1 1 p2 rfl) (h3 0 1 (by simp) (by simp) (by decide))
 have hlen:(p1::p2::l').length=l'.length+2:=rfl
 rw [hlen] at h2 h3
 refine⟨ho,λj=>if j=0 then F else φ (j+1),λj q hq=>?_,λj hj k hkk hO=>?_,λa b ha hb hne k hk1 hk2=>?_⟩
 ·grind
 ·grind
 simp only [List.length_cons] at ha hb
 have key:∀j,j<l'.length->F k->φ (j+2) k->False:=λj hj e1 e2=>by
  rcases hk k e1 with e|e
  ·exact h3 0 (j+2) (by omega) (by omega) (by omega) k e e2
  exact h3 1 (j+2) (by omega) (by omega) (by omega) k e e2
 cases a with
 |zero=>
   cases b with
   |zero=>exact hne rfl
   |succ b=>exact key b (by omega) (by simpa using hk1) (by simpa using hk2)
 |succ a=>
   cases b with
   |zero=>exact key a (by omega) (by simpa using hk2) (by simpa using hk1)
   |succ b=>exact h3 (a+2) (b+2) (by omega) (by omega) (by omega) k (by simpa using hk1) (by simpa using hk2)
end sat
def iO (R:Nat->cK) (n:Nat):cK where
 h F w:=∃φ:Nat->Fp,(∀i,i<n->(R i).h (φ i) w)/\(∀i j,i<n->j<n->i≠j->Apart (φ i) (φ j))/\∀k,F k↔∃i,i<n/\φ i k
 lt:=λ⟨_,h1,_,h3⟩ k hk=>let ⟨i,hi,hk⟩:=(h3 k).1 hk;(R i).lt (h1 i hi) k hk
 st:=λ⟨φ,h1,h2,h3⟩ _ _ hk hn=>⟨φ,λi hi=>(R i).st (h1 i hi) hk (λk hk=>hn k ((h3 k).2 ⟨i,hi,hk⟩)),h2,h3⟩
def cK.none:cK where
 h F _:=∀k,¬F k
 lt:=λh k hk=>absurd hk (h k)
 st:=λh _ _ _ _=>h
def mI (R:Nat->cK) (k:Nat) (a:cK):Nat->cK:=λi=>if i=k then a else R i
section Rn
variable {β:Bs} {l l':List HP} {w:World} {i n k:Nat} {R R':Nat->cK} {a:cK}
theorem iO.nil (R:Nat->cK) (w:World):(HP.abs (iO R 0)).h (λ_=>False) w:=⟨λ_ _=>False,λi hi=>absurd hi (Nat.not_lt_zero i),λi _ hi=>absurd hi (Nat.not_lt_zero i),λ_=>⟨λh=>h.elim,λ⟨i,hi,_⟩=>absurd hi (Nat.not_lt_zero i)⟩⟩
theorem Sat.E9 (h:Sat β l w) (R:Nat->cK):Sat β (l++[.abs (iO R 0)]) w:=Sat.new h (iO.nil R w) (Keeps.refl _ _) (λ_ h=>h.elim)
theorem Sat.Oa (h:Sat β l w) (hp:l[i]?=some (.abs (iO R n))) (hk:k<n):Sat β (l.set i (.abs (iO (mI R k cK.none) n))++[.abs (R k)]) w:=by
 refine h.WH hp ?_
 rintro F ⟨φ,h1,h2,h3⟩
 refine⟨λx=>∃i,i<n/\i≠k/\φ i x,φ k,⟨λi=>if i=k then λ_=>False else φ i,λi hi=>?_,λi j hi hj hne x hx hy=>?_,λx=>⟨λ⟨i,hi,hne,hx⟩=>⟨i,hi,by simpa [hne] using hx⟩,λ⟨i,hi,hx⟩=>?_⟩⟩,h1 k hk,λx ⟨i,hi,hne,hx⟩ hy=>h2 i k hi hk hne x hx hy,λx=>⟨λhx=>?_,λhx=>?_⟩⟩
 ·unfold mI
  by_cases e:i=k
  ·simp only [e,if_true];exact λ_ h=>h
  simp only [e,if_false];exact h1 i hi
 ·by_cases e1:i=k
  ·simp [e1] at hx
  by_cases e2:j=k
  ·simp [e2] at hy
  exact h2 i j hi hj hne x (by simpa [e1] using hx) (by simpa [e2] using hy)
 ·by_cases e1:i=k
  ·simp [e1] at hx
  exact⟨i,hi,e1,by simpa [e1] using hx⟩
 all_goals grind
theorem Sat.rR {j:Nat} {idx:List Nat} (h:Sat β l w) (hp:l[i]?=some (.abs (iO R n))) (hq:l[j]?=some (.abs a)) (hn:nodupB (i::j::idx)=true) (hl:bh l idx=some l') (hR:∀x,x<n->R' x=R x) (ha:R' n=a):Sat β (.abs (iO R' (n+1))::l') w:=by
 refine h.WI hp hq hn hl ?_
 rintro F1 F2 ⟨φ,h1,h2,h3⟩ hF hap
 refine⟨λx=>F1 x\/F2 x,⟨λi=>if i=n then F2 else φ i,λi hi=>?_,λi j hi hj hne x hx hy=>?_,λx=>⟨λhx=>?_,λ⟨i,hi,hx⟩=>?_⟩⟩,λx hx=>hx⟩
 ·by_cases e:i=n
  ·subst e;simp only [if_true];rw [ha];exact hF
  grind
 ·by_cases e1:i=n
  ·by_cases e2:j=n
   ·exact hne (e1.trans e2.symm)
   simp only [e1,if_true] at hx
   simp only [e2,if_false] at hy
   exact hap x ((h3 x).2 ⟨j,by omega,hy⟩) hx
  simp only [e1,if_false] at hx
  by_cases e2:j=n
  ·simp only [e2,if_true] at hy
   exact hap x ((h3 x).2 ⟨i,by omega,hx⟩) hy
  simp only [e2,if_false] at hy
  exact h2 i j (by omega) (by omega) hne x hx hy
 ·rcases hx with hx|hx
  ·grind
  exact⟨n,Nat.lt_succ_self n,by simpa using hx⟩
 grind
theorem iO.base {F:Fp} {β':Bs} (h:(HP.abs (iO R n)).h F w) (h1:∀k,F k->β'.O k) (_:β'.w0=w) {Φ:Nat->Bs->Prop} (NU:∀i,i<n->∀F,(R i).h F w->(∀k,F k->β'.O k)->Φ i β'):∀i,i<n->Φ i β':=by
 obtain⟨φ,g1,_,g3⟩:=h
 grind
end Rn
section zl
variable {P:Program} {β:Bs} {N:dx} {ops:Array Oper} {S:List HP} {l:List Nat} {fr:Fr} {hps:List HP} {Q:Post} {i:Nat}
end zl
end
section
open Go.RowKit
structure oK (β:Bs) (R:List HP) (β':Bs):Prop where
 le:β.le β'
 fp:∃φ:Nat->Fp,(∀(i:Nat) (p:HP),R[i]?=some p->p.h (φ i) β'.w0/\∀k,φ i k->β'.O k)/\(∀i,i<R.length->∀k,φ i k->¬β.O k)/\(∀i j,i<R.length->j<R.length->i≠j->Apart (φ i) (φ j))/\∀k,β'.O k->β.O k\/∃i,i<R.length/\φ i k
section GF
variable {β β' kI:Bs} {l R:List HP} {w:World} {p:HP} {i:Nat}
theorem oK.get (h:oK β R β') (i:Nat) (hp:R[i]?=some p):∃F,p.h F β'.w0/\∀k,F k->β'.O k:=by
 obtain⟨φ,h1,_⟩:=h.fp
 exact⟨φ i,h1 i p hp⟩
theorem Sat.turn {a b:List HP} (h:Sat β (a++b) w):Sat β (b++a) w:=by
 obtain⟨ho,φ,h1,h2,h3⟩:=h
 have hl:(a++b).length=a.length+b.length:=List.length_append
 have hl':(b++a).length=b.length+a.length:=List.length_append
 refine⟨ho,λi=>if i<b.length then φ (a.length+i) else φ (i-b.length),λi p hp=>?_,λi hi k hk hO=>?_,λi j hi hj hne k hk hk'=>?_⟩
 ·grind
 ·grind
 by_cases e1:i<b.length
 ·simp only [e1,if_true] at hk
  by_cases e2:j<b.length
  ·simp only [e2,if_true] at hk'
   exact h3 _ _ (by omega) (by omega) (by omega) k hk hk'
  simp only [e2,if_false] at hk'
  exact h3 _ _ (by omega) (by omega) (by omega) k hk hk'
 simp only [e1,if_false] at hk
 by_cases e2:j<b.length
 ·simp only [e2,if_true] at hk'
  exact h3 _ _ (by omega) (by omega) (by omega) k hk hk'
 simp only [e2,if_false] at hk'
 exact h3 _ _ (by omega) (by omega) (by omega) k hk hk'
theorem Sat.uQ (h:Sat β (l++R) w):∃β',oK β R β'/\β'.w0=w/\Sat β' l w:=by
 obtain⟨ho,φ,h1,h2,h3⟩:=h
 have hl:(l++R).length=l.length+R.length:=List.length_append
 have hR:∀(i:Nat) (p:HP),R[i]?=some p->p.h (φ (l.length+i)) w:=by grind
 refine⟨⟨λk=>β.O k\/∃i,i<R.length/\φ (l.length+i) k,w⟩,⟨⟨λk hk=>.inl hk,ho.os,ho.tape,ho.output,ho.size,λk hk=>ho.old k hk⟩,λi=>φ (l.length+i),λi p hp=>⟨hR i p hp,λk hk=>.inr ⟨i,bT hp,hk⟩⟩,λi hi=>h2 _ (by omega),λi j hi hj hne=>h3 _ _ (by omega) (by omega) (by omega),λk hk=>hk⟩,rfl,⟨rfl,rfl,rfl,Nat.le_refl _,λk hk=>⟨?_,rfl⟩⟩,φ,λi p hp=>h1 i p (by rw [List.getElem?_append_left (bT hp)];exact hp),λi hi k hk hO=>?_,λi j hi hj hne=>h3 i j (by omega) (by omega) hne⟩
 ·rcases hk with hk|⟨i,hi,hk⟩
  ·exact Nat.lt_of_lt_of_le (ho.old k hk).1 ho.size
  obtain⟨p,hp⟩:=jW hi
  exact HP.lt (hR i p hp) k hk
 rcases hO with hO|⟨j,hj,hO⟩
 ·exact h2 i (by omega) k hk hO
 exact h3 i (l.length+j) (by omega) (by omega) (by omega) k hk hO
theorem oK.back (h:oK β R β') (hS:Sat β' l w):Sat β (l++R) w:=by
 obtain⟨hle,φ,g1,g2,g3,g4⟩:=h
 obtain⟨ho,ψ,h1,h2,h3⟩:=hS
 have hl:(l++R).length=l.length+R.length:=List.length_append
 have hin:∀i,i<R.length->∀k,φ i k->β'.O k:=λi hi k hk=>by
  obtain⟨p,hp⟩:=jW hi
  exact (g1 i p hp).2 k hk
 have hk:∀i,i<R.length->Keeps (λk=>¬φ i k) β'.w0 w:=λi hi=>⟨ho.os,ho.tape,ho.output,ho.size,λk _ hn=>(ho.old k (hin i hi k (Classical.not_not.1 hn))).2⟩
 refine⟨ho.le hle,λi=>if i<l.length then ψ i else φ (i-l.length),λi p hp=>?_,λi hi k hk hO=>?_,λi j hi hj hne k hk hk'=>?_⟩
 ·grind [HP.st,bT]
 ·by_cases e:i<l.length
  ·simp only [e,if_true] at hk
   exact h2 i e k hk (hle.O k hO)
  grind
 by_cases e1:i<l.length
 ·simp only [e1,if_true] at hk
  by_cases e2:j<l.length
  ·simp only [e2,if_true] at hk'
   exact h3 i j e1 e2 hne k hk hk'
  grind
 simp only [e1,if_false] at hk
 by_cases e2:j<l.length
 ·grind
 simp only [e2,if_false] at hk'
 exact g3 _ _ (by omega) (by omega) (by omega) k hk hk'
end GF
section rules
variable {P:Program} {β β' kI:Bs} {N:dx} {ops:Array Oper} {k:Nat} {fr:Fr} {hps l R:List HP} {Q:Post} {c:Code} {e:Exit} {pk:List Nat} {f:FuncId} {args:Array Value} {pre:List HP}
end rules
end
section
open Go.RowKit
def ax (R:Nat->cK):cK where
 h F w:=∃φ:Nat->Fp,(∀i,(R i).h (φ i) w)/\(∀i j,i≠j->Apart (φ i) (φ j))/\∀k,F k↔∃i,φ i k
 lt:=λ⟨_,h1,_,h3⟩ k hk=>let ⟨i,hk⟩:=(h3 k).1 hk;(R i).lt (h1 i) k hk
 st:=λ⟨φ,h1,h2,h3⟩ _ _ hk hn=>⟨φ,λi=>(R i).st (h1 i) hk (λk hk=>hn k ((h3 k).2 ⟨i,hk⟩)),h2,h3⟩
section Rn
variable {β:Bs} {l l':List HP} {w:World} {i n k:Nat} {R R':Nat->cK} {a:cK}
theorem ax.at (k:Nat) {F:Fp} {w:World} (h:(ax R).h F w):∃G,(R k).h G w:=by
 obtain⟨φ,h1,_⟩:=h
 exact⟨φ k,h1 k⟩
theorem Sat.Px (h:Sat β l w) (R:Nat->cK) (hR:∀k,R k=cK.none):Sat β (l++[.abs (ax R)]) w:=Sat.new h (p:=.abs (ax R)) (F:=λ_=>False) ⟨λ_ _=>False,λi=>by rw [hR];exact λ_ h=>h,λ_ _ _ _ h=>h.elim,λ_=>⟨λh=>h.elim,λ⟨_,h⟩=>h⟩⟩ (Keeps.refl _ _) (λ_ h=>h.elim)
theorem Sat.Kz (h:Sat β l w) (hp:l[i]?=some (.abs (ax R))) (k:Nat):Sat β (l.set i (.abs (ax (mI R k cK.none)))++[.abs (R k)]) w:=by
 refine h.WH hp ?_
 rintro F ⟨φ,h1,h2,h3⟩
 refine⟨λx=>∃i,i≠k/\φ i x,φ k,⟨λi=>if i=k then λ_=>False else φ i,λi=>?_,λi j hne x hx hy=>?_,λx=>⟨λ⟨i,hne,hx⟩=>⟨i,by simpa [hne] using hx⟩,λ⟨i,hx⟩=>?_⟩⟩,h1 k,λx ⟨i,hne,hx⟩ hy=>h2 i k hne x hx hy,λx=>⟨λhx=>?_,λhx=>?_⟩⟩
 ·unfold mI
  by_cases e:i=k
  ·simp only [e,if_true];exact λ_ h=>h
  simp only [e,if_false];exact h1 i
 ·by_cases e1:i=k
  ·simp [e1] at hx
  by_cases e2:j=k
  ·simp [e2] at hy
  exact h2 i j hne x (by simpa [e1] using hx) (by simpa [e2] using hy)
 ·by_cases e1:i=k
  ·simp [e1] at hx
  exact⟨i,e1,by simpa [e1] using hx⟩
 all_goals grind
theorem Sat.vu {j:Nat} {idx:List Nat} {q:HP} (h:Sat β l w) (hp:l[i]?=some (.abs (ax R))) (hq:l[j]?=some q) (hqa:∀F w,q.h F w->a.h F w) (hn:nodupB (i::j::idx)=true) (hl:bh l idx=some l') (k:Nat) (hR:∀x,x≠k->R' x=R x) (ha:R' k=a):Sat β (.abs (ax R')::l') w:=by
 refine h.WI hp hq hn hl ?_
 rintro F1 F2 ⟨φ,h1,h2,h3⟩ hF hap
 refine⟨λx=>(∃i,i≠k/\φ i x)\/F2 x,⟨λi=>if i=k then F2 else φ i,λi=>?_,λi j hne x hx hy=>?_,λx=>⟨λhx=>?_,λ⟨i,hx⟩=>?_⟩⟩,λx hx=>hx.imp (λ⟨i,_,hx⟩=>(h3 x).2 ⟨i,hx⟩) id⟩
 ·grind
 ·by_cases e1:i=k
  ·by_cases e2:j=k
   ·exact hne (e1.trans e2.symm)
   simp only [e1,if_true] at hx
   simp only [e2,if_false] at hy
   exact hap x ((h3 x).2 ⟨j,hy⟩) hx
  simp only [e1,if_false] at hx
  by_cases e2:j=k
  ·simp only [e2,if_true] at hy
   exact hap x ((h3 x).2 ⟨i,hx⟩) hy
  simp only [e2,if_false] at hy
  exact h2 i j hne x hx hy
 ·rcases hx with ⟨i,hne,hx⟩|hx
  ·exact⟨i,by simpa [hne] using hx⟩
  exact⟨k,by simpa using hx⟩
 grind
end Rn
end
section
open Go.RowKit Go.Maps
theorem Ea:Keyed Tryz.prog 9:=string_keyed Tryz.underlying9
theorem GH {p:ByteArray} (h:p.size<=9223372036854775807):keyOf Tryz.prog 9 (.string p)=some (.string p.data.toList):=WideMaps.keyOf_string_mk Tryz.underlying9 (by unfold maxLen;omega)
def mS (g:ByteArray->Option Value):Lit->Option Value
 |.string l=>g ⟨l.toArray⟩
 |_=>none
theorem abj (g:ByteArray->Option Value) (p:ByteArray):mS g (.string p.data.toList)=g p:=by
 show g ⟨p.data.toList.toArray⟩=g p
 rw [Array.toArray_toList]
theorem Ro (g:ByteArray->Option Value) (p:ByteArray) (v:Option Value):o4 (mS g) (.string p.data.toList) v=mS (λq=>if q=p then v else g q):=by
 funext x
 unfold o4 mS
 cases x with
 |string l=>
   by_cases e:l=p.data.toList
   ·subst e
    have e2:(⟨p.data.toList.toArray⟩:ByteArray)=p:=by rw [Array.toArray_toList]
    simp [Lit.sameKey]
   have e2:¬(⟨l.toArray⟩:ByteArray)=p:=λh=>e (by rw [←h])
   simp [Lit.sameKey,e,e2]
 |_=>rfl
theorem X1:mS (λ_=>none)=λ_=>none:=by
 funext x
 unfold mS
 split<;>rfl
end
section
open Go.RowKit Go.Maps
def Eb (b:Nat) (cs:List Value) (T:TypeId):cK where
 h F w:=(HP.blk b cs T).h F w
 lt:=λh=>HP.lt h
 st:=λh _ _ hk hd=>HP.st h hk hd
structure HL where
 b:Nat->Nat
 m:Nat->Nat
 dA:Nat->Option Addr
 dC:Nat->Nat
def HL.data (L:HL) (k:Nat) (A:Option Addr) (c:Nat):HL:=⟨L.b,L.m,λi=>if i=k then A else L.dA i,λi=>if i=k then c else L.dC i⟩
def HL.put (L:HL) (k b m:Nat) (A:Option Addr) (c:Nat):HL:=⟨λi=>if i=k then b else L.b i,λi=>if i=k then m else L.m i,λi=>if i=k then A else L.dA i,λi=>if i=k then c else L.dC i⟩
def thT (kind:Int):TypeId:=if kind=1 then 78 else if kind=3 then 82 else 85
def pK (kind:Int):TypeId:=if kind=1 then 81 else if kind=3 then 84 else 88
def eG (L:HL) (t:Th):Value:=.iface (thT t.kind) (.pointer (some ⟨L.b t.k,0,none⟩))
def Fa (L:HL):Option Nat->Value
 |none=>.pointer none
 |some d=>.pointer (some ⟨L.b d,0,none⟩)
def CI (o:aI):List Value:=[.int .i64 o.id,.int .i64 o.mode,.int .i64 o.uid,.int .i64 o.gid,.int .i64 o.sec,.int .i64 o.nano,.int .i64 o.links,.int .i64 o.opens,.bool o.gone]
def CJ (L:HL) (k:Nat) (o:aI):List Value:=if o.kind=1 then [.slice (L.dA k) o.data.length (L.dC k)] else if o.kind=3 then [.string o.target] else [.map (some (L.m k)),Fa L o.up]
def je (L:HL) (k:Nat) (o:aI):List Value:=CI o++CJ L k o
def ko (L:HL) (es:fP Th):Lit->Option Value:=mS (λp=>(aH p es).map (eG L))
def ct (O:bZ) (L:HL) (k:Nat):cK:=if (obj O k).kind=0 then cK.none else Eb (L.b k) (je L k (obj O k)) (pK (obj O k).kind)
def bQ (O:bZ) (L:HL) (k:Nat):cK:=if (obj O k).kind=1 then aq 5 1 (L.dA k) (obj O k).data.length (L.dC k) (bY (obj O k).data) else cK.none
def di (O:bZ) (L:HL) (k:Nat):cK:=if (obj O k).kind=2 then aY Tryz.prog 9 (L.m k) (ko L (obj O k).af) (obj O k).af.length else cK.none
section sat
variable {β:Bs} {l:List HP} {w:World} {i b:Nat} {cs:List Value} {T:TypeId} {p p':HP}
theorem Sat.same (h:Sat β l w) (hp:l[i]?=some p) (e:∀F w,p.h F w->p'.h F w):Sat β (l.set i p') w:=by
 obtain⟨ho,φ,h1,h2,h3⟩:=h
 have hl:(l.set i p').length=l.length:=List.length_set ..
 refine⟨ho,φ,λj q hq=>?_,λj hj=>h2 j (by omega),λj k hj hk=>h3 j k (by omega) (by omega)⟩
 grind
end sat
section cells
variable {O:bZ} {L:HL} {k j:Nat} {v:Value}
theorem oL (h:(obj O k).kind≠0):ct O L k=Eb (L.b k) (je L k (obj O k)) (pK (obj O k).kind):=if_neg h
theorem fS (hk:(obj O k).kind≠0) (hv:(je L k (obj O k))[j]?=some v):∀F w,(ax (ct O L)).h F w->w.cell? ⟨L.b k,j,none⟩=some v:=by
 intro F w h
 obtain⟨G,g⟩:=ax.at k h
 rw [oL hk] at g
 obtain⟨g,_⟩:=g
 exact (jo g rfl rfl hv).1
theorem wk (h:(obj O k).kind=1):bQ O L k=aq 5 1 (L.dA k) (obj O k).data.length (L.dC k) (bY (obj O k).data):=if_pos h
theorem rS (h:(obj O k).kind=2):di O L k=aY Tryz.prog 9 (L.m k) (ko L (obj O k).af) (obj O k).af.length:=if_pos h
theorem vH (es:fP Th) (p:ByteArray):ko L es (.string p.data.toList)=(aH p es).map (eG L):=abj _ _
theorem UD {es:fP Th} {p:ByteArray} {t:Th} (hn:aH p es=none):o4 (ko L es) (.string p.data.toList) (some (eG L t))=ko L (iz p t es):=by
 grind [ko,Ro,Bz]
theorem UE {es:fP Th} {p:ByteArray}:o4 (ko L es) (.string p.data.toList) none=ko L (iF p es):=by
 grind [ko,Ro,ul]
theorem UF:ko L []=λ_=>none:=X1
end cells
section Rn
variable {O:bZ} {L:HL} {k:Nat} {f:aI->aI}
theorem yK:ct (ay O k f) L k=if (f (obj O k)).kind=0 then cK.none else Eb (L.b k) (je L k (f (obj O k))) (pK (f (obj O k)).kind):=by
 unfold ct;rw [cO]
theorem yL {x:Nat} (h:x≠k):ct (ay O k f) L x=ct O L x:=by unfold ct;rw [fQ h]
theorem qq (h:(f (obj O k)).data=(obj O k).data) (h2:(f (obj O k)).kind=(obj O k).kind):bQ (ay O k f) L=bQ O L:=by
 grind [bQ,cO,fQ]
theorem qt (h:(f (obj O k)).af=(obj O k).af) (h2:(f (obj O k)).kind=(obj O k).kind):di (ay O k f) L=di O L:=by
 grind [di,cO,fQ]
theorem BA {x:Nat} (h:x≠k):di (ay O k f) L x=di O L x:=by unfold di;rw [fQ h]
theorem BB {x:Nat} (h:x≠k):bQ (ay O k f) L x=bQ O L x:=by unfold bQ;rw [fQ h]
end Rn
end
section
open Go.RowKit Go.Maps
section kinds
variable {O:bZ} {L:HL} {k j:Nat} {f:aI->aI} {o:aI}
theorem lY (hf:∀o,(f o).kind=o.kind):(obj (ay O j f) k).kind=(obj O k).kind:=by
 rw [iw];split
 ·exact hf _
 rfl
theorem cx {α:Type} {g:aI->α} (hf:∀o,g (f o)=g o):g (obj (ay O j f) k)=g (obj O k):=by
 rw [iw];split
 ·exact hf _
 rfl
theorem jH (h:o.kind=1):je L k o=[.int .i64 o.id,.int .i64 o.mode,.int .i64 o.uid,.int .i64 o.gid,.int .i64 o.sec,.int .i64 o.nano,.int .i64 o.links,.int .i64 o.opens,.bool o.gone,.slice (L.dA k) o.data.length (L.dC k)]:=by
 unfold je CJ;rw [if_pos h];rfl
theorem BD (h:o.kind=3):je L k o=[.int .i64 o.id,.int .i64 o.mode,.int .i64 o.uid,.int .i64 o.gid,.int .i64 o.sec,.int .i64 o.nano,.int .i64 o.links,.int .i64 o.opens,.bool o.gone,.string o.target]:=by
 unfold je CJ;rw [if_neg (by rw [h];decide),if_pos h];rfl
theorem oM (h:o.kind=2):je L k o=[.int .i64 o.id,.int .i64 o.mode,.int .i64 o.uid,.int .i64 o.gid,.int .i64 o.sec,.int .i64 o.nano,.int .i64 o.links,.int .i64 o.opens,.bool o.gone,.map (some (L.m k)),Fa L o.up]:=by
 unfold je CJ;rw [if_neg (by rw [h];decide),if_neg (by rw [h];decide)];rfl
theorem KA {es:aI->fP Th}:ct (ay O k (λo=>{o with af:=es o})) L=ct O L:=by
 funext x
 unfold ct
 by_cases e:x=k
 ·subst e;rw [cO];rfl
 rw [fQ e]
def q8 (O:bZ) (d:Nat) (name:ByteArray) (t:Th):bZ:=
 let O1:=ay O d (λo=>{o with af:=iz name t o.af})
 let O2:=ay O1 t.k (λo=>{o with links:=o.links+1})
 if t.kind=2 then ay O2 t.k (λo=>{o with up:=some d}) else O2
theorem Ec {α:Type} {g:aI->α} {d:Nat} {name:ByteArray} {t:Th} (h1:∀o es,g {o with af:=es}=g o) (h2:∀o l,g {o with links:=l}=g o) (h3:∀o u,g {o with up:=u}=g o):g (obj (q8 O d name t) k)=g (obj O k):=by
 unfold q8
 simp only
 split
 ·rw [cx (λo=>h3 o _),cx (λo=>h2 o _),cx (λo=>h1 o _)]
 rw [cx (λo=>h2 o _),cx (λo=>h1 o _)]
theorem BF {d:Nat} {name:ByteArray} {t:Th}:(obj (q8 O d name t) k).kind=(obj O k).kind:=Ec (g:=aI.kind) (λ_ _=>rfl) (λ_ _=>rfl) (λ_ _=>rfl)
structure FM where
 cN:Int
 cB:Int
 cH:Int
 cS:Int
 cZ:Int
 last:Int
 af:Int
 used:Int
def um (X:FM) (O:bZ) (d:Nat):bZ:=ay O d (λo=>{o with sec:=X.cS,nano:=X.cZ})
def bB (X:FM) (O:bZ) (d:Nat) (name:ByteArray) (t:Th):bZ:=um X (q8 O d name t) d
def aC (X:FM) (O:bZ) (d:Nat) (name:ByteArray) (t:Th):bZ:=ay (um X (ay O d (λo=>{o with af:=iF name o.af})) d) t.k (λo=>{o with links:=o.links-1})
theorem cT {X:FM} {d:Nat} {name:ByteArray} {t:Th}:(obj (aC X O d name t) k).kind=(obj O k).kind:=by
 unfold aC um
 exact (lY (f:=λo=>{o with links:=o.links-1}) (λ_=>rfl)).trans ((lY (f:=λo=>{o with sec:=X.cS,nano:=X.cZ}) (λ_=>rfl)).trans (lY (f:=λo=>{o with af:=iF name o.af}) (λ_=>rfl)))
theorem Nc {X:FM} {d:Nat} {name:ByteArray} {t:Th}:(obj (bB X O d name t) k).kind=(obj O k).kind:=by
 grind [bB,um,lY,BF]
end kinds
section sat
variable {β:Bs} {l l':List HP} {w:World} {i j k:Nat} {O:bZ} {L:HL} {f:aI->aI} {cs:List Value} {T:TypeId} {idx:List Nat}
theorem Sat.BG (h:Sat β l w) (hp:l[i]?=some (.abs (ax (ct O L)))) (h0:(obj O k).kind≠0) (hc:je L k (obj O k)=cs) (hT:pK (obj O k).kind=T):Sat β (l.set i (.abs (ax (mI (ct O L) k cK.none)))++[.blk (L.b k) cs T]) w:=by
 have h1:=h.Kz hp k
 have hlen:(l.set i (HP.abs (ax (mI (ct O L) k cK.none)))).length=l.length:=List.length_set ..
 have h2:=Sat.same (i:=l.length) (p:=.abs (ct O L k)) (p':=.blk (L.b k) cs T) h1 (by rw [List.getElem?_append_right (by omega),hlen,Nat.sub_self];rfl) (λF w h=>by
  have h3:(ct O L k).h F w:=h
  rw [oL h0] at h3
  have h3:(Eb (L.b k) (je L k (obj O k)) (pK (obj O k).kind)).h F w:=h3
  rw [hc,hT] at h3
  exact h3)
 have e:∀(a:List HP) (x y:HP),(a++[x]).set a.length y=a++[y]:=λa x y=>by simp
 grind
theorem Sat.CK {R:Nat->cK} (h:Sat β l w) (hp:l[i]?=some (.abs (ax R))) (hR:∀x,x≠k->R x=ct O L x) (hq:l[j]?=some (.blk (L.b k) cs T)) (hd:nodupB (i::j::idx)=true) (hl:bh l idx=some l') (h0:(f (obj O k)).kind≠0) (hc:je L k (f (obj O k))=cs) (hT:pK (f (obj O k)).kind=T):Sat β (.abs (ax (ct (ay O k f) L))::l') w:=by
 refine h.vu (a:=Eb (L.b k) cs T) hp hq (λ_ _ h=>h) hd hl k (λx hx=>?_) (by rw [yK,if_neg h0,hc,hT])
 rw [yL hx,hR x hx]
theorem rU {R:Nat->cK} {a:cK} {x:Nat} (h:x≠k):mI R k a x=R x:=if_neg h
theorem Sat.Zd (h:Sat β l w) (hp:l[i]?=some (.abs (ax (di O L)))) (hd:(obj O k).kind=2):Sat β (l.set i (.abs (ax (mI (di O L) k cK.none)))++[.abs (aY Tryz.prog 9 (L.m k) (ko L (obj O k).af) (obj O k).af.length)]) w:=by
 have h1:=h.Kz hp k
 rw [rS hd] at h1
 exact h1
theorem Sat.Ze (h:Sat β l w) (hp:l[i]?=some (.abs (ax (mI (di O L) k cK.none)))) (hq:l[j]?=some (.abs (aY Tryz.prog 9 (L.m k) (ko L (obj O k).af) (obj O k).af.length))) (hd:nodupB (i::j::idx)=true) (hl:bh l idx=some l') (h2:(obj O k).kind=2):Sat β (.abs (ax (di O L))::l') w:=
 h.vu hp hq (λ_ _ h=>h) hd hl k (λ_ hx=>(rU hx).symm) (rS h2)
theorem Sat.Rp (h:Sat β l w) (hp:l[i]?=some (.abs (ax (bQ O L)))) (hd:(obj O k).kind=1):Sat β (l.set i (.abs (ax (mI (bQ O L) k cK.none)))++[.abs (aq 5 1 (L.dA k) (obj O k).data.length (L.dC k) (bY (obj O k).data))]) w:=by
 have h1:=h.Kz hp k
 rw [wk hd] at h1
 exact h1
end sat
end
end Go.Proofs.YtnipofpbcggjcaaGreatDoor
section
namespace Go.Proofs
open Go.Shelf
def Tryz.keysI_ren:Go.Shelf.Ren:=⟨fun|7=>54|10=>105|n=>n,fun|23=>66|26=>3|3=>70|28=>125|0=>0|27=>124|33=>145|4=>4|n=>n,fun|n=>n⟩
theorem Tryz.keysI:Go.Proofs.SlLaysZI.n7 Tryz.prog Tryz.keysI_ren:={
 mixed:=by kernel_rfl
 f7:=⟨Tryz.f54.name,by decide,Tryz.func54.trans (congrArg some (by kernel_rfl))⟩
 f10:=⟨Tryz.f105.name,by decide,Tryz.func105.trans (congrArg some (by kernel_rfl))⟩
 t0:=Tryz.underlying0
 a0:=Tryz.isAgg0
 z0:=Tryz.sizeOf0
 v0:=Tryz.zeroValue0
 t4:=Tryz.underlying4
 a4:=Tryz.isAgg4
 z4:=Tryz.sizeOf4
 v4:=Tryz.zeroValue4
 t23:=Tryz.underlying66
 a23:=Tryz.isAgg66
 z23:=Tryz.sizeOf66
 v23:=Tryz.zeroValue66
 t26:=Tryz.underlying3
 a26:=Tryz.isAgg3
 z26:=Tryz.sizeOf3
 v26:=Tryz.zeroValue3
 t27:=Tryz.underlying124
 a27:=Tryz.isAgg124
 z27:=Tryz.sizeOf124
 v27:=Tryz.zeroValue124
 t28:=Tryz.underlying125
 a28:=Tryz.isAgg125
 z28:=Tryz.sizeOf125
 v28:=Tryz.zeroValue125
 t33:=Tryz.underlying145
 a33:=Tryz.isAgg145
 z33:=Tryz.sizeOf145
 v33:=Tryz.zeroValue145}
def Tryz.sortedI_ren:Go.Shelf.Ren:=⟨fun|6=>53|8=>103|9=>104|11=>131|13=>133|12=>132|23=>155|24=>156|14=>146|15=>147|16=>148|17=>149|18=>150|19=>151|20=>152|21=>153|22=>154|25=>177|26=>178|27=>179|28=>180|29=>181|30=>182|31=>193|n=>n,fun|26=>3|28=>125|24=>38|0=>0|3=>3|37=>190|48=>208|50=>210|4=>4|40=>202|39=>201|45=>194|5=>5|9=>9|51=>230|55=>234|57=>243|58=>244|33=>145|n=>n,fun|n=>n⟩
theorem Tryz.sortedI:Go.Proofs.SlLaysZI.n6 Tryz.prog Tryz.sortedI_ren:={
 mixed:=by kernel_rfl
 f6:=⟨Tryz.f53.name,by decide,Tryz.func53.trans (congrArg some (by kernel_rfl))⟩
 f8:=⟨Tryz.f103.name,by decide,Tryz.func103.trans (congrArg some (by kernel_rfl))⟩
 f11:=⟨Tryz.f131.name,by decide,Tryz.func131.trans (congrArg some (by kernel_rfl))⟩
 t0:=Tryz.underlying0
 a0:=Tryz.isAgg0
 z0:=Tryz.sizeOf0
 v0:=Tryz.zeroValue0
 t24:=Tryz.underlying38
 a24:=Tryz.isAgg38
 z24:=Tryz.sizeOf38
 v24:=Tryz.zeroValue38
 t26:=Tryz.underlying3
 a26:=Tryz.isAgg3
 z26:=Tryz.sizeOf3
 v26:=Tryz.zeroValue3
 t28:=Tryz.underlying125
 a28:=Tryz.isAgg125
 z28:=Tryz.sizeOf125
 v28:=Tryz.zeroValue125
 i26:=by kernel_rfl}
def Tryz.sortI_ren:Go.Shelf.Ren:=⟨fun|5=>104|8=>133|7=>132|19=>155|20=>156|10=>146|11=>147|12=>148|13=>149|14=>150|15=>151|16=>152|17=>153|18=>154|30=>177|31=>178|32=>179|33=>180|34=>181|35=>182|40=>193|n=>n,fun|23=>38|25=>3|3=>3|32=>190|22=>38|0=>0|44=>208|46=>210|4=>4|36=>202|35=>201|41=>194|5=>5|9=>9|53=>230|57=>234|63=>243|64=>244|n=>n,fun|n=>n⟩
theorem Tryz.sortI:Go.Proofs.SlLaysM.n5 Tryz.prog Tryz.sortI_ren:={
 mixed:=by kernel_rfl
 f5:=⟨Tryz.f104.name,by decide,Tryz.func104.trans (congrArg some (by kernel_rfl))⟩
 f7:=⟨Tryz.f132.name,by decide,Tryz.func132.trans (congrArg some (by kernel_rfl))⟩
 f8:=Tryz.func133.trans (congrArg some (by kernel_rfl))
 f10:=⟨Tryz.f146.name,by decide,Tryz.func146.trans (congrArg some (by kernel_rfl))⟩
 f11:=⟨Tryz.f147.name,by decide,Tryz.func147.trans (congrArg some (by kernel_rfl))⟩
 f12:=⟨Tryz.f148.name,by decide,Tryz.func148.trans (congrArg some (by kernel_rfl))⟩
 f13:=⟨Tryz.f149.name,by decide,Tryz.func149.trans (congrArg some (by kernel_rfl))⟩
 f14:=⟨Tryz.f150.name,by decide,Tryz.func150.trans (congrArg some (by kernel_rfl))⟩
 f15:=⟨Tryz.f151.name,by decide,Tryz.func151.trans (congrArg some (by kernel_rfl))⟩
 f16:=⟨Tryz.f152.name,by decide,Tryz.func152.trans (congrArg some (by kernel_rfl))⟩
 f17:=⟨Tryz.f153.name,by decide,Tryz.func153.trans (congrArg some (by kernel_rfl))⟩
 f18:=⟨Tryz.f154.name,by decide,Tryz.func154.trans (congrArg some (by kernel_rfl))⟩
 f19:=Tryz.func155.trans (congrArg some (by kernel_rfl))
 f20:=Tryz.func156.trans (congrArg some (by kernel_rfl))
 f30:=⟨Tryz.f177.name,by decide,Tryz.func177.trans (congrArg some (by kernel_rfl))⟩
 f31:=Tryz.func178.trans (congrArg some (by kernel_rfl))
 f32:=Tryz.func179.trans (congrArg some (by kernel_rfl))
 f33:=⟨Tryz.f180.name,by decide,Tryz.func180.trans (congrArg some (by kernel_rfl))⟩
 f34:=⟨Tryz.f181.name,by decide,Tryz.func181.trans (congrArg some (by kernel_rfl))⟩
 f35:=⟨Tryz.f182.name,by decide,Tryz.func182.trans (congrArg some (by kernel_rfl))⟩
 f40:=⟨Tryz.f193.name,by decide,Tryz.func193.trans (congrArg some (by kernel_rfl))⟩
 t0:=Tryz.underlying0
 a0:=Tryz.isAgg0
 z0:=Tryz.sizeOf0
 v0:=Tryz.zeroValue0
 t3:=Tryz.underlying3
 a3:=Tryz.isAgg3
 z3:=Tryz.sizeOf3
 v3:=Tryz.zeroValue3
 t4:=Tryz.underlying4
 a4:=Tryz.isAgg4
 z4:=Tryz.sizeOf4
 v4:=Tryz.zeroValue4
 t5:=Tryz.underlying5
 a5:=Tryz.isAgg5
 z5:=Tryz.sizeOf5
 v5:=Tryz.zeroValue5
 t9:=Tryz.underlying9
 a9:=Tryz.isAgg9
 z9:=Tryz.sizeOf9
 v9:=Tryz.zeroValue9
 t22:=Tryz.underlying38
 a22:=Tryz.isAgg38
 z22:=Tryz.sizeOf38
 v22:=Tryz.zeroValue38
 t23:=Tryz.underlying38
 a23:=Tryz.isAgg38
 z23:=Tryz.sizeOf38
 v23:=Tryz.zeroValue38
 t25:=Tryz.underlying3
 a25:=Tryz.isAgg3
 z25:=Tryz.sizeOf3
 v25:=Tryz.zeroValue3
 t32:=Tryz.underlying190
 a32:=Tryz.isAgg190
 z32:=Tryz.sizeOf190
 v32:=Tryz.zeroValue190
 t35:=Tryz.underlying201
 a35:=Tryz.isAgg201
 z35:=Tryz.sizeOf201
 v35:=Tryz.zeroValue201
 t36:=Tryz.underlying202
 a36:=Tryz.isAgg202
 z36:=Tryz.sizeOf202
 v36:=Tryz.zeroValue202
 t41:=Tryz.underlying194
 a41:=Tryz.isAgg194
 z41:=Tryz.sizeOf194
 v41:=Tryz.zeroValue194
 t44:=Tryz.underlying208
 a44:=Tryz.isAgg208
 z44:=Tryz.sizeOf208
 v44:=Tryz.zeroValue208
 t46:=Tryz.underlying210
 a46:=Tryz.isAgg210
 z46:=Tryz.sizeOf210
 v46:=Tryz.zeroValue210
 t53:=Tryz.underlying230
 a53:=Tryz.isAgg230
 z53:=Tryz.sizeOf230
 v53:=Tryz.zeroValue230
 t57:=Tryz.underlying234
 a57:=Tryz.isAgg234
 z57:=Tryz.sizeOf234
 v57:=Tryz.zeroValue234
 t63:=Tryz.underlying243
 a63:=Tryz.isAgg243
 z63:=Tryz.sizeOf243
 v63:=Tryz.zeroValue243
 t64:=Tryz.underlying244
 a64:=Tryz.isAgg244
 z64:=Tryz.sizeOf244
 v64:=Tryz.zeroValue244}
end Go.Proofs
end
namespace Go.Proofs.YtnipofpbcggjcaaGreatDoor
section
open Go.RowKit
theorem abk (a:Addr) (v:Value) (w:World) (h:w.cell? a=some v):(Go.method 368 199 (.pointer (some a)) "Len").run Tryz.prog w=.ok (218,v) w:=by
 have e:(Go.method 368 199 (.pointer (some a)) "Len").run Tryz.prog w=((loadVar 138 a) >>= λv=>pure (218,v):Sem (FuncId×Value)).run Tryz.prog w:=by kernel_rfl
 rw [e]
 simp [loadVar,isAgg,underlying,Tryz.underlying138,h,Result.andThen]
theorem Zf (a:Addr) (v:Value) (w:World) (h:w.cell? a=some v):(Go.method 368 199 (.pointer (some a)) "Less").run Tryz.prog w=.ok (219,v) w:=by
 have e:(Go.method 368 199 (.pointer (some a)) "Less").run Tryz.prog w=((loadVar 138 a) >>= λv=>pure (219,v):Sem (FuncId×Value)).run Tryz.prog w:=by kernel_rfl
 rw [e]
 simp [loadVar,isAgg,underlying,Tryz.underlying138,h,Result.andThen]
theorem Zg (a:Addr) (v:Value) (w:World) (h:w.cell? a=some v):(Go.method 368 199 (.pointer (some a)) "Swap").run Tryz.prog w=.ok (220,v) w:=by
 have e:(Go.method 368 199 (.pointer (some a)) "Swap").run Tryz.prog w=((loadVar 138 a) >>= λv=>pure (220,v):Sem (FuncId×Value)).run Tryz.prog w:=by kernel_rfl
 rw [e]
 simp [loadVar,isAgg,underlying,Tryz.underlying138,h,Result.andThen]
theorem Zh (a:Addr) (w:World):(Go.method 368 199 (.pointer (some a)) "Push").run Tryz.prog w=.ok (222,.pointer (some a)) w:=by kernel_rfl
theorem abl (a:Addr) (w:World):(Go.method 368 199 (.pointer (some a)) "Pop").run Tryz.prog w=.ok (221,.pointer (some a)) w:=by kernel_rfl
theorem WJ (a:Addr) (w:World):(Go.nilAhead 368 199 (.pointer (some a)) "Len").run Tryz.prog w=.ok (some false) w:=by kernel_rfl
theorem Rq (a:Addr) (w:World):(Go.nilAhead 368 199 (.pointer (some a)) "Less").run Tryz.prog w=.ok (some false) w:=by kernel_rfl
theorem KC (a:Addr) (w:World):(Go.nilAhead 368 199 (.pointer (some a)) "Swap").run Tryz.prog w=.ok (some false) w:=by kernel_rfl
theorem Zi (a:Addr) (w:World):(Go.nilAhead 368 199 (.pointer (some a)) "Push").run Tryz.prog w=.ok (some false) w:=by kernel_rfl
theorem abm (a:Addr) (w:World):(Go.nilAhead 368 199 (.pointer (some a)) "Pop").run Tryz.prog w=.ok (some false) w:=by kernel_rfl
theorem KD (A:Option Addr) (n c:Nat) (w:World) :
 Calls Tryz.prog 218 #[.slice A n c] w λe w'=>e=.returned (.int .i64 n)/\w'=w:=by
 go_enter Tryz.func218,Tryz.ntmps218
 go_wp2
 go_ret
 exact⟨rfl,rfl⟩
theorem Rs (g n c i j:Nat) (x y:Int) (w:World) (hi:i<n) (hj:j<n) (ci:w.cell? ⟨g,i,none⟩=some (.int .i64 x)) (cj:w.cell? ⟨g,j,none⟩=some (.int .i64 y)) :
 Calls Tryz.prog 219 #[.slice (some ⟨g,0,none⟩) n c,.int .i64 i,.int .i64 j] w λe w'=>e=.returned (.bool (decide (x<y)))/\∃m,w'=w.drewN m:=by
 have hi':(i:Int)<(n:Int):=by omega
 have hj':(j:Int)<(n:Int):=by omega
 go_enter Tryz.func219,Tryz.ntmps219
 go_wp2_with fail
 go_quiet (fail)
 go_wp2_with fail
 go_ret
 exact⟨rfl,_,rfl⟩
theorem Rt (g n c i j:Nat) (x y:Int) (w:World) (hi:i<n) (hj:j<n) (hij:i≠j) (ci:w.cell? ⟨g,i,none⟩=some (.int .i64 x)) (cj:w.cell? ⟨g,j,none⟩=some (.int .i64 y))
 (fi:w.frozen? ⟨g,i,none⟩=false) (fj:w.frozen? ⟨g,j,none⟩=false) :
 Calls Tryz.prog 220 #[.slice (some ⟨g,0,none⟩) n c,.int .i64 i,.int .i64 j] w λe w'=>e=.returned (.tuple #[])/\∃m,w'=((w.setCell ⟨g,i,none⟩ (.int .i64 y)).setCell ⟨g,j,none⟩ (.int .i64 x)).drewN m:=by
 have hi':(i:Int)<(n:Int):=by omega
 have hj':(j:Int)<(n:Int):=by omega
 go_enter Tryz.func220,Tryz.ntmps220
 go_wp2_with fail
 go_region
 go_end0
 exact⟨rfl,1,rfl⟩
theorem UG:(Tryz.prog.info? 3).map (λi=>(i.zero,i.size,i.bytes))=some (some (.int .i64 0),1,8):=by kernel_rfl
theorem UH (t o g n c:Nat) (x:Int) (w:World) (hc:n+1<=c) (ht:w.cell? ⟨t,o,none⟩=some (.slice (some ⟨g,0,none⟩) (n+1) c)) (hf:w.frozen? ⟨t,o,none⟩=false)
 (hx:w.cell? ⟨g,n,none⟩=some (.int .i64 x)) (hm:n+1<=1048576) :
 Calls Tryz.prog 221 #[.pointer (some ⟨t,o,none⟩)] w λe w'=>e=.returned (.iface 3 (.int .i64 x))/\w'=w.setCell ⟨t,o,none⟩ (.slice (some ⟨g,0,none⟩) n c):=by
 go_enter Tryz.func221,Tryz.ntmps221
 go_wp2_with fail
 go_ret
 exact⟨rfl,rfl⟩
theorem Py (x:Int) (w:World):(Instr.typeAssert (.iface 3 (.int .i64 x)) 20 3 false).run Tryz.prog w=.ok (.int .i64 x) w:=by kernel_rfl
theorem Nd (x:Int):∀u∈[Value.int .i64 x],u.oneCell'=true:=by intro u hu;simp at hu;subst hu;rfl
theorem Ru {t o:Nat} {v:Value} {w w1:World} {ob:Obj} (ht:w.cell? ⟨t,o,none⟩=some v) (hlt:t<w.heap.size) {row:Option Nat} (hne:row≠some t) (hg:(w.alloc ob).drew.grownBy w1 row):w1.cell? ⟨t,o,none⟩=some v:=by
 rw [hg.cell_far ⟨t,o,none⟩ (by show t<(w.alloc ob).heap.size;simp;omega) (λe=>hne e.symm)]
 exact (World.cell?_alloc_lt w ob ⟨t,o,none⟩ hlt).trans ht
theorem Rv {t o:Nat} {w w1:World} {ob:Obj} (hf:w.frozen? ⟨t,o,none⟩=false) (hlt:t<w.heap.size) {row:Option Nat} (hne:row≠some t) (hg:(w.alloc ob).drew.grownBy w1 row):w1.frozen? ⟨t,o,none⟩=false:=by
 rw [hg.frozen_far ⟨t,o,none⟩ (by show t<(w.alloc ob).heap.size;simp;omega) (λe=>hne e.symm)]
 exact (World.frozen?_alloc_old w ob ⟨t,o,none⟩ (Nat.ne_of_lt hlt)).trans hf
theorem Rw (t o base n:Nat) (v:Value) (xs:List Value) (x:Int) (w:World) (ht:w.cell? ⟨t,o,none⟩=some v) (hf:w.frozen? ⟨t,o,none⟩=false)
 (hown:w.ownsRow base 3 1 v n xs) (hne:v.ownBlock≠some t) (hm:n+1<=1048576) (hbase:base<=w.heap.size) :
 Calls Tryz.prog 222 #[.pointer (some ⟨t,o,none⟩),.iface 3 (.int .i64 x)] w λe w'=>e=.returned (.tuple #[]) ∧
  ∃g cap w1,w1.ownsRow base 3 1 (.slice (some ⟨g,0,none⟩) (n+1) cap) (n+1) (xs++[.int .i64 x])/\w.grownBy w1 v.ownBlock/\(v.ownBlock=some g\/w.heap.size<=g) ∧
    w'=w1.setCell ⟨t,o,none⟩ (.slice (some ⟨g,0,none⟩) (n+1) cap):=by
 obtain⟨i0,hi0,hz0,hz1,hz2⟩:=info_parts UG
 have hlt:t<w.heap.size:=by
  rcases Nat.lt_or_ge t w.heap.size with h|h
  ·exact h
  simp [World.cell?,Array.getElem?_eq_none h] at ht
 have hta:=Py
 go_enter Tryz.func222,Tryz.ntmps222
 go_wp2_with fail
 go_region_law (refine step_append_lies _ rfl (.tmp 7) (.tmp 10) 138 rfl base 3 i0 (.int .i64 0) 1 8 Tryz.underlying138 hi0 hz0 hz1 hz2 rfl (by decide) v n xs (by simp [Act.eval]) (hown.alloc _) ⟨w.heap.size,0,none⟩ 1 1 [.int .i64 x] (by simp [Act.eval]) rfl (cell_one_new _ _ _) (Nd x) (by decide) (by unfold maxLen;omega) (by omega) (by simp;omega) (w.heap.size+1) (by simp) ?_;intro g cap w1 hown1 hg1 Pz adg;have c1:w1.cell? ⟨t,o,none⟩=some v:=Ru ht hlt hne hg1;have f1:w1.frozen? ⟨t,o,none⟩=false:=Rv hf hlt hne hg1)
 all_goals
  go_end0
  refine⟨rfl,g,cap,w1,hown1,(World.grownBy_alloc w (.cells #[.int .i64 x] 3) _).trans ⟨hg1.os,hg1.tape,hg1.output,hg1.size,hg1.block⟩,?_,rfl⟩
  rcases Pz with h|h
  ·exact .inl h
  exact .inr (by omega)
end
end Go.Proofs.YtnipofpbcggjcaaGreatDoor
section
namespace Go.Proofs.YtnipofpbcggjcaaGreatDoor.aR
def at_ (l:List Int) (i:Nat):Int:=l.getD i 0
def swp (l:List Int) (i j:Nat):List Int:=(l.set i (at_ l j)).set j (at_ l i)
def Hp (n:Nat) (l:List Int):Prop:=∀i,0<i->i<n->at_ l ((i-1) / 2)<=at_ l i
def BH (l:List Int):Prop:=∀a b,a<l.length->b<l.length->at_ l a=at_ l b->a=b
def GI (l:List Int) (j:Nat):Prop:=
 (∀i,0<i->i<l.length->i≠j->at_ l ((i-1) / 2)<=at_ l i)/\(∀i,0<i->i<l.length->(i-1) / 2=j->0<j->at_ l ((j-1) / 2)<=at_ l i)
def yM (n:Nat) (l:List Int) (i:Nat):Prop:=
 (∀k,0<k->k<n->(k-1) / 2≠i->at_ l ((k-1) / 2)<=at_ l k)/\(∀k,0<k->k<n->(k-1) / 2=i->0<i->at_ l ((i-1) / 2)<=at_ l k)
structure Same (l l':List Int):Prop where
 len:l'.length=l.length
 mem:∀x,x∈l'↔x∈l
 inj:BH l->BH l'
theorem wm {l:List Int} {x:Int}:x∈l↔∃k,k<l.length/\at_ l k=x:=by
 rw [List.mem_iff_getElem]
 constructor
 ·rintro⟨i,h,e⟩
  exact⟨i,h,by simp [at_,List.getD_eq_getElem?_getD,h,e]⟩
 rintro⟨i,h,e⟩
 exact⟨i,h,by simpa [at_,List.getD_eq_getElem?_getD,h] using e⟩
theorem oh (l:List Int) (i j:Nat):(swp l i j).length=l.length:=by simp [swp]
def sw (i j k:Nat):Nat:=if k=j then i else if k=i then j else k
theorem lE {l:List Int} {i j:Nat} (hi:i<l.length) (hj:j<l.length) (k:Nat):at_ (swp l i j) k=at_ l (sw i j k):=by
 unfold swp at_ sw
 grind
theorem PA (i j k:Nat):sw i j (sw i j k)=k:=by unfold sw;(repeat' split)<;>omega
theorem JM {i j k n:Nat} (hi:i<n) (hj:j<n) (hk:k<n):sw i j k<n:=by unfold sw;(repeat' split)<;>omega
theorem Same.refl (l:List Int):Same l l:=⟨rfl,λ_=>Iff.rfl,λh=>h⟩
theorem Same.trans {l l' l'':List Int} (h:Same l l') (k:Same l' l''):Same l l'':=⟨k.len.trans h.len,λx=>(k.mem x).trans (h.mem x),λi=>k.inj (h.inj i)⟩
theorem Same.swp {l:List Int} {i j:Nat} (hi:i<l.length) (hj:j<l.length):Same l (swp l i j):=by
 refine⟨oh l i j,λx=>?_,λinj a b ha hb e=>?_⟩
 ·rw [wm,wm,oh]
  constructor
  ·rintro⟨k,hk,e⟩
   exact⟨sw i j k,JM hi hj hk,by rw [←lE hi hj];exact e⟩
  rintro⟨k,hk,e⟩
  exact⟨sw i j k,JM hi hj hk,by rw [lE hi hj,PA];exact e⟩
 rw [oh] at ha hb
 rw [lE hi hj,lE hi hj] at e
 have:=inj _ _ (JM hi hj ha) (JM hi hj hb) e
 rw [←PA i j a,this,PA]
theorem Rx {l:List Int} {j:Nat} (h:GI l j) (he:j=0\/at_ l ((j-1) / 2)<=at_ l j):Hp l.length l:=by
 intro i h0 hi
 by_cases e:i=j
 ·subst e
  rcases he with he|he
  ·omega
  exact he
 exact h.1 i h0 hi e
theorem X2 {l:List Int} {j:Nat} (h:GI l j) (h0:0<j) (hj:j<l.length) (hlt:at_ l j<at_ l ((j-1) / 2)):GI (swp l ((j-1) / 2) j) ((j-1) / 2):=by
 have hp:(j-1) / 2<l.length:=by omega
 have hne:(j-1) / 2≠j:=by omega
 refine⟨λi i0 il ine=>?_,λi i0 il ip p0=>?_⟩
 ·rw [oh] at il
  rw [lE hp hj,lE hp hj]
  by_cases e1:i=j
  ·subst e1
   rw [show sw ((i-1) / 2) i ((i-1) / 2)=i by unfold sw;rw [if_neg hne,if_pos rfl],show sw ((i-1) / 2) i i=(i-1) / 2 by unfold sw;rw [if_pos rfl]]
   omega
  rw [show sw ((j-1) / 2) j i=i by unfold sw;rw [if_neg e1,if_neg ine]]
  by_cases e2:(i-1) / 2=j
  ·rw [show sw ((j-1) / 2) j ((i-1) / 2)=(j-1) / 2 by unfold sw;rw [if_pos e2]]
   exact h.2 i i0 il e2 h0
  by_cases e3:(i-1) / 2=(j-1) / 2
  ·rw [show sw ((j-1) / 2) j ((i-1) / 2)=j by unfold sw;rw [if_neg e2,if_pos e3]]
   have:=h.1 i i0 il e1
   rw [e3] at this
   omega
  rw [show sw ((j-1) / 2) j ((i-1) / 2)=(i-1) / 2 by unfold sw;rw [if_neg e2,if_neg e3]]
  exact h.1 i i0 il e1
 rw [oh] at il
 rw [lE hp hj,lE hp hj]
 have a1:=h.1 ((j-1) / 2) p0 hp hne
 rw [show sw ((j-1) / 2) j (((j-1) / 2-1) / 2)=((j-1) / 2-1) / 2 by unfold sw;rw [if_neg (by omega),if_neg (by omega)]]
 by_cases e1:i=j
 ·subst e1
  rw [show sw ((i-1) / 2) i i=(i-1) / 2 by unfold sw;rw [if_pos rfl]]
  exact a1
 have a2:=h.1 i i0 il e1
 rw [show sw ((j-1) / 2) j i=i by unfold sw;rw [if_neg e1,if_neg (by omega)]]
 rw [ip] at a2
 omega
theorem zA {n:Nat} {l:List Int} {i:Nat} (h:yM n l i) (h1:2*i+1<n->at_ l i<=at_ l (2*i+1)) (h2:2*i+2<n->at_ l i<=at_ l (2*i+2)):Hp n l:=by
 intro k k0 kn
 by_cases e:(k-1) / 2=i
 ·grind
 exact h.1 k k0 kn e
theorem BI {n:Nat} {l:List Int} {i j:Nat} (h:yM n l i) (hj:j=2*i+1\/j=2*i+2) (hjn:j<n) (hn:n<=l.length)
 (h1:at_ l j<=at_ l (2*i+1)) (h2:2*i+2<n->at_ l j<=at_ l (2*i+2)) (hlt:at_ l j<at_ l i):yM n (swp l i j) j:=by
 have hi:i<l.length:=by omega
 have hjl:j<l.length:=by omega
 refine⟨λk k0 kn Zj=>?_,λk k0 kn ke j0=>?_⟩
 ·rw [lE hi hjl,lE hi hjl]
  by_cases e1:(k-1) / 2=i
  ·rw [e1,show sw i j i=j by unfold sw;rw [if_neg (by omega),if_pos rfl]]
   by_cases e2:k=j
   ·rw [e2,show sw i j j=i by unfold sw;rw [if_pos rfl]];omega
   rw [show sw i j k=k by unfold sw;rw [if_neg e2,if_neg (by omega)]]
   grind
  rw [show sw i j ((k-1) / 2)=(k-1) / 2 by unfold sw;rw [if_neg Zj,if_neg e1]]
  by_cases e2:k=i
  ·rw [e2,show sw i j i=j by unfold sw;rw [if_neg (by omega),if_pos rfl],←e2]
   have hjk:(j-1) / 2=i:=by omega
   rw [e2]
   exact h.2 j (by omega) hjn hjk (by omega)
  rw [show sw i j k=k by unfold sw;rw [if_neg (by omega),if_neg e2]]
  exact h.1 k k0 kn e1
 rw [lE hi hjl,lE hi hjl]
 rw [show (j-1) / 2=i by omega,show sw i j i=j by unfold sw;rw [if_neg (by omega),if_pos rfl],show sw i j k=k by unfold sw;rw [if_neg (by omega),if_neg (by omega)]]
 have:=h.1 k k0 kn (by omega)
 rw [ke] at this
 exact this
theorem least {n:Nat} {l:List Int} (h:Hp n l):∀k,k<n->at_ l 0<=at_ l k:=by
 intro k
 induction k using Nat.strongRecOn with
 |_ k ih=>
   intro hk
   rcases Nat.eq_zero_or_pos k with e|e
   ·rw [e];omega
   have a1:=ih ((k-1) / 2) (by omega) (by omega)
   have a2:=h k e hk
   omega
theorem PB {n:Nat} {l:List Int} (h:Hp (n+1) l) (hl:l.length=n+1):yM n (swp l 0 n) 0:=by
 refine⟨λk k0 kn Zj=>?_,λk _ _ _ h0=>by omega⟩
 rw [lE (by omega) (by omega),lE (by omega) (by omega)]
 rw [show sw 0 n ((k-1) / 2)=(k-1) / 2 by unfold sw;rw [if_neg (by omega),if_neg Zj],show sw 0 n k=k by unfold sw;rw [if_neg (by omega),if_neg (by omega)]]
 exact h k k0 (by omega)
theorem UI {l:List Int} (h:Hp l.length l) (x:Int):GI (l++[x]) l.length:=by
 have e:∀k,k<l.length->at_ (l++[x]) k=at_ l k:=λk hk=>by
  unfold at_
  grind
 refine⟨λi i0 il ine=>?_,λi i0 il ip=>?_⟩
 ·rw [List.length_append,List.length_singleton] at il
  rw [e _ (by omega),e _ (by omega)]
  exact h i i0 (by omega)
 grind
theorem X3 {l:List Int} {n:Nat} (hl:l.length=n+1) (hi:BH l) (x:Int):x∈l.take n↔x∈l/\x≠at_ l n:=by
 constructor
 ·intro h
  refine⟨List.mem_of_mem_take h,?_⟩
  rintro rfl
  obtain⟨k,hk,e⟩:=List.mem_iff_getElem.1 h
  simp at hk e
  have:=hi k n (by omega) (by omega) (by simp [at_,List.getD_eq_getElem?_getD,show k<l.length by omega,e])
  omega
 rintro⟨h,hne⟩
 obtain⟨k,hk,e⟩:=wm.1 h
 have:k≠n:=by rintro rfl;exact hne e.symm
 refine List.mem_iff_getElem.2 ⟨k,by simp;omega,?_⟩
 simp only [at_,List.getD_eq_getElem?_getD,hk,List.getElem?_eq_getElem,Option.getD_some] at e
 simpa using e
theorem CM {l:List Int} {n k:Nat} (hk:k<n):at_ (l.take n) k=at_ l k:=by simp [at_,List.getD_eq_getElem?_getD,hk]
theorem X4 {l:List Int} {n:Nat} (h:Hp n l):Hp n (l.take n):=λi i0 hi=>by rw [CM hi,CM (by omega)];exact h i i0 hi
theorem UJ {l:List Int} {n:Nat} (h:BH l):BH (l.take n):=λa b ha hb e=>by
 simp at ha hb
 rw [CM (by omega),CM (by omega)] at e
 exact h a b (by omega) (by omega) e
end Go.Proofs.YtnipofpbcggjcaaGreatDoor.aR
end
namespace Go.Proofs.YtnipofpbcggjcaaGreatDoor
section
open Go.RowKit aR
def ints (l:List Int):List Value:=l.map (Value.int .i64)
theorem qF (g n c a b:Nat) (i j:Int) (hi:i=(a:Int)) (hj:j=(b:Int)) (x y:Int) (w:World) (ha:a<n) (hb:b<n) (ci:w.cell? ⟨g,a,none⟩=some (.int .i64 x)) (cj:w.cell? ⟨g,b,none⟩=some (.int .i64 y)) :
 Calls Tryz.prog 219 #[.slice (some ⟨g,0,none⟩) n c,.int .i64 i,.int .i64 j] w λe w'=>e=.returned (.bool (decide (x<y)))/\∃m,w'=w.drewN m:=by
 grind [Rs]
structure HW (t o g c base:Nat) (l:List Int) (w:World):Prop where
 cell:w.cell? ⟨t,o,none⟩=some (.slice (some ⟨g,0,none⟩) l.length c)
 own:w.ownsRow base 3 1 (.slice (some ⟨g,0,none⟩) l.length c) l.length (ints l)
 ne:t≠g
 lt:t<w.heap.size
theorem UK {l:List Int} {k:Nat} (hk:k<l.length):(ints l)[k]?=some (.int .i64 (at_ l k)):=by
 simp [ints,at_,List.getD_eq_getElem?_getD,hk]
section hw
variable {t o g c base:Nat} {l:List Int} {w:World}
theorem HW.at (h:HW t o g c base l w) {k:Nat} (hk:k<l.length):w.cell? ⟨g,k,none⟩=some (.int .i64 (at_ l k)):=by
 rw [h.own.cellAt k (by omega)]
 exact UK hk
theorem HW.drewN (h:HW t o g c base l w) (m:Nat):HW t o g c base l (w.drewN m):=⟨h.cell,h.own,h.ne,h.lt⟩
theorem HW.swap (h:HW t o g c base l w) (i j:Nat) :
 HW t o g c base (swp l i j) ((w.setCell ⟨g,i,none⟩ (.int .i64 (at_ l j))).setCell ⟨g,j,none⟩ (.int .i64 (at_ l i))):=by
 have e1:ints (swp l i j)=((ints l).set i (.int .i64 (at_ l j))).set j (.int .i64 (at_ l i)):=by
  simp [ints,swp,List.map_set]
 refine⟨?_,?_,h.ne,by simpa [World.setCell] using h.lt⟩
 ·rw [oh,World.cell?_setCell_other _ _ _ _ (λe=>h.ne (by injection e with e;exact e.symm)),World.cell?_setCell_other _ _ _ _ (λe=>h.ne (by injection e with e;exact e.symm))]
  exact h.cell
 rw [oh,e1]
 exact ((h.own.stored i _).1.stored j _).1
end hw
theorem qG (t o g c base:Nat) (l:List Int) (a b:Nat) (i j:Int) (hi:i=(a:Int)) (hj:j=(b:Int)) (w:World) (h:HW t o g c base l w) (ha:a<l.length) (hb:b<l.length) (hne:a≠b) :
 Calls Tryz.prog 220 #[.slice (some ⟨g,0,none⟩) l.length c,.int .i64 i,.int .i64 j] w λe w'=>e=.returned (.tuple #[])/\HW t o g c base (swp l a b) w'/\Keeps (·=g) w w':=by
 subst hi hj
 refine (Rt g l.length c a b (at_ l a) (at_ l b) w ha hb hne (h.at ha) (h.at hb) (h.own.frozenAt a) (h.own.frozenAt b)).mono λe w' ⟨he,m,hw⟩=>⟨he,?_,?_⟩
 ·rw [hw];exact (h.swap a b).drewN m
 rw [hw];exact (((Keeps.refl (·=g) w).setCell (p:=⟨g,a,none⟩) (.inr rfl) _).setCell (p:=⟨g,b,none⟩) (.inr rfl) _).drewN m
structure Looks (a:Addr) (V:Value):Prop where
 less:∀w:World,w.cell? a=some V->(Go.method 368 199 (.pointer (some a)) "Less").run Tryz.prog w=.ok (219,V) w
 swap:∀w:World,w.cell? a=some V->(Go.method 368 199 (.pointer (some a)) "Swap").run Tryz.prog w=.ok (220,V) w
 len:∀w:World,w.cell? a=some V->(Go.method 368 199 (.pointer (some a)) "Len").run Tryz.prog w=.ok (218,V) w
theorem looks (a:Addr) (V:Value):Looks a V:=⟨Zf a V,Zg a V,abk a V⟩
theorem X5 (t o g c base:Nat) (l:List Int) (j:Nat) (w:World) (h:HW t o g c base l w) (hj:j<l.length) (hu:GI l j) (hm:l.length<=1048576) :
 Calls Tryz.prog 176 #[.iface 199 (.pointer (some ⟨t,o,none⟩)),.int .i64 j] w λe w'=>e=.returned (.tuple #[]) ∧
  ∃l',Same l l'/\Hp l'.length l'/\HW t o g c base l' w'/\Keeps (·=g) w w':=by
 have L:=looks ⟨t,o,none⟩ (.slice (some ⟨g,0,none⟩) l.length c)
 have nl:=Rq ⟨t,o,none⟩
 have ns:=KC ⟨t,o,none⟩
 go_enter Tryz.func176,Tryz.ntmps176
 go_wp2_with fail
 go_loopw [1] (λv wr=>∃(j:Nat) (l':List Int),v=.int .i64 j/\j<l'.length/\Same l l'/\GI l' j/\HW t o g c base l' wr/\Keeps (·=g) w wr) (λv _=>(intOf v).toNat)
 case atStart=>exact⟨j,l,rfl,hj,Same.refl l,hu,h,Keeps.refl _ _⟩
 case round=>
  obtain⟨j,l',rfl,hj',hs,hu',hw,hk⟩:=hrel
  have hc:=hw.cell
  rw [hs.len] at hc
  have LL:=L.less wr hc
  by_cases h0:j=0
  ·subst h0
   have HU:=Lib.hid hu'
   clear hu'
   go_wp2_with fail
   go_end0
   exact⟨rfl,l',hs,Rx HU.out (.inl rfl),hw,hk⟩
  have sS:1<=j:=by omega
  have hj2:j<=1048576:=by have:=hs.len;omega
  have hi1:(j-1) / 2<l'.length:=by omega
  have hjn:((((j:Int)-1) / 2) == (j:Int))=false:=by rw [beq_eq_false_iff_ne];omega
  have HU:=Lib.hid hu'
  clear hu'
  go_wp2_with fail
  refine (qF g l.length c j ((j-1) / 2) _ _ rfl (by omega) (at_ l' j) (at_ l' ((j-1) / 2)) _ (by rw [←hs.len];exact hj') (by rw [←hs.len];exact hi1) (hw.at hj') (hw.at hi1)).mono ?_
  rintro e w1 ⟨rfl,m,rfl⟩
  have hw1:=hw.drewN m
  by_cases hlt:at_ l' j<at_ l' ((j-1) / 2)
  ·have LS:=L.swap (wr.drewN m) hc
   go_wp2_with fail
   have HL:=Lib.hid hs.len
   have sw:=qG t o g c base l' ((j-1) / 2) j
   rw [hs.len] at sw
   refine (sw _ _ (by omega) rfl _ hw1 (by have:=HL.out;omega) (by have:=HL.out;omega) (by omega)).mono ?_
   rintro e w2 ⟨rfl,hw2,hk2⟩
   clear sw
   go_wp2_with fail
   go_roundw
   case rel=>exact⟨(j-1) / 2,_,by go_num,by rw [oh];exact hi1,hs.trans (Same.swp hi1 hj'),X2 HU.out sS hj' hlt,hw2,(hk.drewN m).trans hk2⟩
   case measure=>simp [intOf];omega
  have hnl:decide (at_ l' j<at_ l' ((j-1) / 2))=false:=by simpa using hlt
  go_wp2_with fail
  go_end0
  exact⟨rfl,l',hs,Rx HU.out (.inr (by omega)),hw1,hk.drewN m⟩
end
section
open Go.RowKit aR
theorem KE {l:List Int} {i j n k:Nat} (hi:i<l.length) (hj:j<l.length) (hin:i<n) (hjn:j<n) (hk:n<=k):at_ (swp l i j) k=at_ l k:=by
 grind [lE,sw]
theorem Ry (t o g c base n:Nat) (l:List Int) (w:World) (h:HW t o g c base l w) (hn:n<=l.length) (hd:yM n l 0) (hm:l.length<=1048576) :
 Calls Tryz.prog 192 #[.iface 199 (.pointer (some ⟨t,o,none⟩)),.int .i64 0,.int .i64 n] w λe w'=>(∃b,e=.returned (.bool b)) ∧
  ∃l',Same l l'/\Hp n l'/\(∀k,n<=k->at_ l' k=at_ l k)/\HW t o g c base l' w'/\Keeps (·=g) w w':=by
 have L:=looks ⟨t,o,none⟩ (.slice (some ⟨g,0,none⟩) l.length c)
 have nl:=Rq ⟨t,o,none⟩
 have ns:=KC ⟨t,o,none⟩
 go_enter Tryz.func192,Tryz.ntmps192
 go_wp2_with fail
 go_loopw [7] (λv wr=>∃(i:Nat) (l':List Int),v=.int .i64 i/\i<=n/\Same l l'/\yM n l' i/\Hid (∀k,n<=k->at_ l' k=at_ l k)/\HW t o g c base l' wr/\Keeps (·=g) w wr) (λv _=>n-(intOf v).toNat)
 case atStart=>exact⟨0,l,rfl,Nat.zero_le _,Same.refl l,hd,Lib.hid (λ_ _=>rfl),h,Keeps.refl _ _⟩
 case round=>
  obtain⟨i,l',rfl,hin,hs,hd',zB,hw,hk⟩:=hrel
  have hc:=hw.cell
  rw [hs.len] at hc
  have HL:=Lib.hid hs.len
  have hn1:n<=1048576:=by omega
  have hnl:n<=l'.length:=by rw [HL.out];exact hn
  have HD:=Lib.hid hd'
  clear hd'
  by_cases h1:2*i+1<n
  ·have h1a:(2*(i:Int)+1)<(n:Int):=by omega
   by_cases h2:2*i+2<n
   ·have h2a:(2*(i:Int)+1+1)<(n:Int):=by omega
    have LL:=L.less wr hc
    go_wp2_with fail
    refine (qF g l.length c (2*i+2) (2*i+1) _ _ (by omega) (by omega) (at_ l' (2*i+2)) (at_ l' (2*i+1)) _ (by omega) (by omega) (hw.at (by omega)) (hw.at (by omega))).mono ?_
    rintro e w1 ⟨rfl,m,rfl⟩
    have hw1:=hw.drewN m
    have hk1:=hk.drewN m
    have LL:=L.less (wr.drewN m) hc
    clear hw hk
    by_cases h3:at_ l' (2*i+2)<at_ l' (2*i+1)
    ·go_wp2_with fail
     refine (qF g l.length c (2*i+2) i _ _ (by omega) (by omega) (at_ l' (2*i+2)) (at_ l' i) _ (by omega) (by omega) (hw1.at (by omega)) (hw1.at (by omega))).mono ?_
     rintro e w2 ⟨rfl,m2,rfl⟩
     have hw2:=hw1.drewN m2
     have hk2:=hk1.drewN m2
     rw [World.drewN_drewN] at hw2 hk2
     by_cases h4:at_ l' (2*i+2)<at_ l' i
     ·have LS:=L.swap _ (hw2.cell.trans (by rw [HL.out]))
      go_wp2_with fail
      have sw:=qG t o g c base l' i (2*i+2)
      rw [hs.len] at sw
      refine (sw _ _ rfl (by omega) _ hw2 (by omega) (by omega) (by omega)).mono ?_
      rintro e w3 ⟨rfl,hw3,hk3⟩
      clear sw
      go_wp2_with fail
      go_roundw
      case rel=>exact⟨2*i+2,_,by go_num,by omega,hs.trans (Same.swp (by omega) (by omega)),BI HD.out (by omega) (by omega) hnl (by omega) (λ_=>by omega) h4,Lib.hid (λk hk=>(KE (by omega) (by omega) (by omega) (by omega) hk).trans (zB.out k hk)),hw3,hk2.trans hk3⟩
      case measure=>simp [intOf];omega
     have h4a:decide (at_ l' (2*i+2)<at_ l' i)=false:=by simpa using h4
     go_wp2_with fail
     go_ret
     exact⟨⟨_,rfl⟩,l',hs,zA HD.out (λ_=>by omega) (λ_=>by omega),zB.out,hw2,hk2⟩
    have h3a:decide (at_ l' (2*i+2)<at_ l' (2*i+1))=false:=by simpa using h3
    go_wp2_with fail
    refine (qF g l.length c (2*i+1) i _ _ (by omega) (by omega) (at_ l' (2*i+1)) (at_ l' i) _ (by omega) (by omega) (hw1.at (by omega)) (hw1.at (by omega))).mono ?_
    rintro e w2 ⟨rfl,m2,rfl⟩
    have hw2:=hw1.drewN m2
    have hk2:=hk1.drewN m2
    rw [World.drewN_drewN] at hw2 hk2
    by_cases h4:at_ l' (2*i+1)<at_ l' i
    ·have LS:=L.swap _ (hw2.cell.trans (by rw [HL.out]))
     go_wp2_with fail
     have sw:=qG t o g c base l' i (2*i+1)
     rw [hs.len] at sw
     refine (sw _ _ rfl (by omega) _ hw2 (by omega) (by omega) (by omega)).mono ?_
     rintro e w3 ⟨rfl,hw3,hk3⟩
     clear sw
     go_wp2_with fail
     go_roundw
     case rel=>exact⟨2*i+1,_,by go_num,by omega,hs.trans (Same.swp (by omega) (by omega)),BI HD.out (by omega) (by omega) hnl (by omega) (λ_=>by omega) h4,Lib.hid (λk hk=>(KE (by omega) (by omega) (by omega) (by omega) hk).trans (zB.out k hk)),hw3,hk2.trans hk3⟩
     case measure=>simp [intOf];omega
    have h4a:decide (at_ l' (2*i+1)<at_ l' i)=false:=by simpa using h4
    go_wp2_with fail
    go_ret
    exact⟨⟨_,rfl⟩,l',hs,zA HD.out (λ_=>by omega) (λ_=>by omega),zB.out,hw2,hk2⟩
   have h2a:decide ((2*(i:Int)+1+1)<(n:Int))=false:=by simp;omega
   have hw1:=hw
   have hk1:=hk
   have LL:=L.less wr hc
   clear hw hk
   go_wp2_with fail
   refine (qF g l.length c (2*i+1) i _ _ (by omega) (by omega) (at_ l' (2*i+1)) (at_ l' i) _ (by omega) (by omega) (hw1.at (by omega)) (hw1.at (by omega))).mono ?_
   rintro e w2 ⟨rfl,m2,rfl⟩
   have hw2:=hw1.drewN m2
   have hk2:=hk1.drewN m2
   by_cases h4:at_ l' (2*i+1)<at_ l' i
   ·have LS:=L.swap _ (hw2.cell.trans (by rw [HL.out]))
    go_wp2_with fail
    have sw:=qG t o g c base l' i (2*i+1)
    rw [hs.len] at sw
    refine (sw _ _ rfl (by omega) _ hw2 (by omega) (by omega) (by omega)).mono ?_
    rintro e w3 ⟨rfl,hw3,hk3⟩
    clear sw
    go_wp2_with fail
    go_roundw
    case rel=>exact⟨2*i+1,_,by go_num,by omega,hs.trans (Same.swp (by omega) (by omega)),BI HD.out (by omega) (by omega) hnl (by omega) (λ_=>by omega) h4,Lib.hid (λk hk=>(KE (by omega) (by omega) (by omega) (by omega) hk).trans (zB.out k hk)),hw3,hk2.trans hk3⟩
    case measure=>simp [intOf];omega
   have h4a:decide (at_ l' (2*i+1)<at_ l' i)=false:=by simpa using h4
   go_wp2_with fail
   go_ret
   exact⟨⟨_,rfl⟩,l',hs,zA HD.out (λ_=>by omega) (λ_=>by omega),zB.out,hw2,hk2⟩
  have h1a:((n:Int)<=2*(i:Int)+1):=by omega
  go_wp2_with fail
  go_ret
  exact⟨⟨_,rfl⟩,l',hs,zA HD.out (λh=>absurd h h1) (λh=>absurd h (by omega)),zB.out,hw,hk⟩
end
section
open Go.RowKit aR
theorem GJ (g n c i:Nat) (x:Int) (w:World) (hi:i<n) (ci:w.cell? ⟨g,i,none⟩=some (.int .i64 x)) (fi:w.frozen? ⟨g,i,none⟩=false) :
 Calls Tryz.prog 220 #[.slice (some ⟨g,0,none⟩) n c,.int .i64 i,.int .i64 i] w λe w'=>e=.returned (.tuple #[])/\∃m,w'=((w.setCell ⟨g,i,none⟩ (.int .i64 x)).setCell ⟨g,i,none⟩ (.int .i64 x)).drewN m:=by
 have hi':(i:Int)<(n:Int):=by omega
 go_enter Tryz.func220,Tryz.ntmps220
 go_wp2_with fail
 go_region
 go_end0
 exact⟨rfl,1,rfl⟩
theorem GK (t o g c base n:Nat) (l:List Int) (hl:l.length=n+1) (j:Int) (hj:j=(n:Int)) (w:World) (h:HW t o g c base l w) :
 Calls Tryz.prog 220 #[.slice (some ⟨g,0,none⟩) (n+1) c,.int .i64 0,.int .i64 j] w λe w'=>e=.returned (.tuple #[])/\HW t o g c base (swp l 0 n) w'/\Keeps (·=g) w w':=by
 subst hj
 by_cases h0:n=0
 ·subst h0
  have:=GJ g 1 c 0 (at_ l 0) w (by omega) (h.at (by omega)) (h.own.frozenAt 0)
  refine this.mono λe w' ⟨he,m,hw⟩=>⟨he,?_,?_⟩
  ·rw [hw];exact (h.swap 0 0).drewN m
  rw [hw];exact (((Keeps.refl (·=g) w).setCell (p:=⟨g,0,none⟩) (.inr rfl) _).setCell (p:=⟨g,0,none⟩) (.inr rfl) _).drewN m
 grind [qG]
theorem HW.pop {t o g c base n:Nat} {l:List Int} {w:World} (h:HW t o g c base l w) (hl:l.length=n+1):w.ownsRow base 3 1 (.slice (some ⟨g,0,none⟩) n c) n (ints (l.take n)):=by
 have e:ints l=ints (l.take n)++ints (l.drop n):=by simp only [ints,←List.map_append,List.take_append_drop]
 have h1:=h.own
 rw [e,hl] at h1
 exact ownsRow_pop (by simp [ints];omega) h1
theorem HW.cap {t o g c base:Nat} {l:List Int} {w:World} (h:HW t o g c base l w):l.length<=c:=by
 rcases h.own.2 with ⟨e,_⟩|⟨g',cap,cur,e,_,_,r,_⟩
 all_goals grind
theorem UL (t o g c base n:Nat) (l:List Int) (w:World) (h:HW t o g c base l w) (hl:l.length=n+1) (hp:Hp (n+1) l) (hi:BH l) (hm:n+1<=1048576) (hf:w.frozen? ⟨t,o,none⟩=false) :
 Calls Tryz.prog 175 #[.iface 199 (.pointer (some ⟨t,o,none⟩))] w λe w'=>e=.returned (.iface 3 (.int .i64 (at_ l 0))) ∧
  ∃l' w1,l'.length=n/\Hp n l'/\BH l'/\(∀x,x∈l'↔x∈l/\x≠at_ l 0)/\w1.ownsRow base 3 1 (.slice (some ⟨g,0,none⟩) n c) n (ints l')/\Keeps (·=g) w w1 ∧
    w'=w1.setCell ⟨t,o,none⟩ (.slice (some ⟨g,0,none⟩) n c):=by
 have L:=looks ⟨t,o,none⟩ (.slice (some ⟨g,0,none⟩) l.length c)
 have nn:=WJ ⟨t,o,none⟩
 have ns:=KC ⟨t,o,none⟩
 have np:=abm ⟨t,o,none⟩
 have mp:=abl ⟨t,o,none⟩
 have LN:=L.len w h.cell
 have LS:=L.swap w h.cell
 have HL:=Lib.hid hl
 rw [hl] at LN LS
 clear hl
 go_enter Tryz.func175,Tryz.ntmps175
 go_wp2_with fail
 refine (KD _ _ _ _).mono ?_
 rintro e w0 ⟨rfl,rfl⟩
 go_wp2_with fail
 refine (GK t o g c base n l HL.out _ (by omega) _ h).mono ?_
 rintro e w1 ⟨rfl,hw1,hk1⟩
 go_wp2_with fail
 have hd:=Ry t o g c base n (swp l 0 n) w1 hw1 (by rw [oh,HL.out];omega) (PB hp HL.out) (by rw [oh,HL.out];exact hm)
 refine (hd.mono ?_)
 rintro e w2 ⟨⟨bb,rfl⟩,l',hs,hp',zB,hw2,hk2⟩
 clear hd
 have hlen:l'.length=n+1:=by rw [hs.len,oh,HL.out]
 have hcell:=hw2.cell
 rw [hlen] at hcell
 have hcap:=hw2.cap
 have htlt:=h.lt
 have hf2:w2.frozen? ⟨t,o,none⟩=false:=by
  rw [(hk1.trans hk2).frozen (p:=⟨t,o,none⟩) htlt h.ne]
  exact hf
 have hlast:at_ l' n=at_ l 0:=by
  rw [zB n (Nat.le_refl _),lE (by rw [HL.out];omega) (by rw [HL.out];omega)]
  simp [sw]
 have hx:=hw2.at (k:=n) (by omega)
 rw [hlast] at hx
 have PD:=Lib.hid hlen
 have abn:=Lib.hid hlast
 clear hlen hlast
 go_wp2_with fail
 refine (UH t o g n c (at_ l 0) w2 (by have:=PD.out;omega) hcell hf2 hx hm).mono ?_
 rintro e w3 ⟨rfl,rfl⟩
 go_wp2_with fail
 go_ret
 have sm:=(Same.swp (l:=l) (i:=0) (j:=n) (by rw [HL.out];omega) (by rw [HL.out];omega)).trans hs
 refine⟨rfl,l'.take n,w2,by simp [PD.out],X4 hp',UJ (sm.inj hi),λx=>?_,hw2.pop PD.out,hk1.trans hk2,rfl⟩
 rw [X3 PD.out (sm.inj hi),sm.mem,abn.out]
theorem Dx (l:List Int) (x:Int):ints l++[.int .i64 x]=ints (l++[x]):=by simp [ints]
theorem Rz (t o base:Nat) (v:Value) (l:List Int) (x:Int) (w:World) (ht:w.cell? ⟨t,o,none⟩=some v) (hf:w.frozen? ⟨t,o,none⟩=false) (hown:w.ownsRow base 3 1 v l.length (ints l))
 (hne:v.ownBlock≠some t) (hm:l.length+1<=1048576) (hbase:base<=w.heap.size) (hp:Hp l.length l) (htl:t<w.heap.size) :
 Calls Tryz.prog 145 #[.iface 199 (.pointer (some ⟨t,o,none⟩)),.iface 3 (.int .i64 x)] w λe w'=>e=.returned (.tuple #[]) ∧
  ∃g c l',Same (l++[x]) l'/\Hp l'.length l'/\HW t o g c base l' w'/\(v.ownBlock=some g\/w.heap.size<=g) ∧
    ∃w1,Keeps (λk=>v.ownBlock=some k) w w1/\Keeps (·=g) (w1.setCell ⟨t,o,none⟩ (.slice (some ⟨g,0,none⟩) (l.length+1) c)) w':=by
 have nn:=WJ ⟨t,o,none⟩
 have np:=Zi ⟨t,o,none⟩
 have mp:=Zh ⟨t,o,none⟩
 go_enter Tryz.func145,Tryz.ntmps145
 go_wp2_with fail
 refine (Rw t o base l.length v (ints l) x w ht hf hown hne hm hbase).mono ?_
 rintro e w0 ⟨rfl,g,c,w1,hown1,hg1,Pz,rfl⟩
 have hk1:Keeps (λk=>v.ownBlock=some k) w w1:=(Keeps.refl _ _).grown hg1 (λk hk=>.inr hk)
 have hgt:t≠g:=by
  rintro rfl
  rcases Pz with h|h
  ·exact hne h
  omega
 have ht1:w1.cell? ⟨t,o,none⟩=some v:=(hk1.cell (p:=⟨t,o,none⟩) htl hne).trans ht
 have HW1:HW t o g c base (l++[x]) (w1.setCell ⟨t,o,none⟩ (.slice (some ⟨g,0,none⟩) (l.length+1) c)):=by
  refine⟨?_,?_,hgt,by simpa [World.setCell] using Nat.lt_of_lt_of_le htl hk1.size⟩
  ·rw [World.cell?_setCell_same _ _ _ ht1];simp
  rw [List.length_append,List.length_singleton,←Dx]
  refine Keeps.ownsRow (S:=(·=t)) ((Keeps.refl (·=t) w1).setCell (p:=⟨t,o,none⟩) (.inr rfl) _) hown1 ?_
  intro k hk e
  simp [Value.ownBlock] at hk
  omega
 have hc:=HW1.cell
 rw [List.length_append,List.length_singleton] at hc
 generalize hW:w1.setCell ⟨t,o,none⟩ (.slice (some ⟨g,0,none⟩) (l.length+1) c)=w2 at *
 have LN:=(looks ⟨t,o,none⟩ (.slice (some ⟨g,0,none⟩) (l.length+1) c)).len w2 hc
 have HWe:=Lib.hid hW
 clear hW ht1 hown1 hown hg1
 go_wp2_with fail
 refine (KD _ _ _ _).mono ?_
 rintro e w3 ⟨rfl,rfl⟩
 go_wp2_with fail
 have hu:=X5 t o g c base (l++[x]) l.length w3 HW1 (by simp) (UI hp x) (by simpa using hm)
 refine hu.mono ?_
 rintro e w4 ⟨rfl,l',hs,hp',hw4,hk4⟩
 go_wp2_with fail
 go_end0
 exact⟨rfl,g,c,l',hs,hp',hw4,Pz,w1,hk1,by rw [HWe.out];exact hk4⟩
end
end Go.Proofs.YtnipofpbcggjcaaGreatDoor
section
namespace Go.Proofs.YtnipofpbcggjcaaGreatDoor.ak
open aR
variable {V U:Type}
abbrev Used (V:Type):=List (Int×V)
def keys (us:Used V):List Int:=us.map (·.1)
def get (us:Used V) (h:Int):Option V:=(us.find? (λp=>p.1 == h)).map (·.2)
def bK:List Int->Prop:=List.Pairwise (· < ·)
def jh:Int->List Int->Int
 |h,[]=>h
 |h,k::r=>if k=h then jh (h+1) r else h
def least (us:Used V):Int:=jh 1 (keys us)
def ins (h:Int) (v:V):Used V->Used V
 |[]=>[(h,v)]
 |p::r=>if h<p.1 then (h,v)::p::r else p::ins h v r
def del (h:Int) (us:Used V):Used V:=us.filter (λp=>p.1 != h)
def adh (h:Int) (v:V) (us:Used V):Used V:=us.map (λp=>if p.1 == h then (h,v) else p)
structure TI (next:Int) (l:List Int) (us:Used V):Prop where
 rise:bK (keys us)
 pos:∀h∈keys us,1<=h/\h<next
 back:∀h∈l,1<=h/\h<next/\h∉keys us
 all:∀h,1<=h->h<next->h∈keys us\/h∈l
 count:(us.length:Int)+l.length=next-1
 heap:Hp l.length l
 inj:BH l
theorem keys_cons (p:Int×V) (us:Used V):keys (p::us)=p.1::keys us:=rfl
theorem keys_map (f:V->U) (us:Used V):keys (us.map λp=>(p.1,f p.2))=keys us:=by simp [keys]
theorem get_none {us:Used V} {h:Int}:get us h=none↔h∉keys us:=by
 unfold get keys
 rw [Option.map_eq_none_iff,List.find?_eq_none]
 grind
theorem get_some {us:Used V} {h:Int} {v:V} (e:get us h=some v):h∈keys us:=by
 apply Classical.byContradiction
 intro hn
 rw [get_none.2 hn] at e;cases e
theorem get_map (f:V->U) (us:Used V) (h:Int):get (us.map λp=>(p.1,f p.2)) h=(get us h).map f:=by
 unfold get
 rw [List.find?_map]
 simp only [Function.comp_def,Option.map_map]
theorem oO (h:Int) (v:V) (us:Used V) (x:Int):x∈keys (ins h v us)↔x=h\/x∈keys us:=by
 induction us with
 |nil=>simp [ins,keys]
 |cons p r ih=>
   unfold ins
   split
   ·simp [keys]
   rw [keys_cons,keys_cons,List.mem_cons,List.mem_cons,ih]
   grind
theorem wo {h:Int} {v:V} {us:Used V} (hr:bK (keys us)) (hn:h∉keys us):bK (keys (ins h v us)):=by
 induction us with
 |nil=>simp [ins,keys,bK]
 |cons p r ih=>
   unfold bK at *
   rw [keys_cons,List.pairwise_cons] at hr
   rw [keys_cons,List.mem_cons,not_or] at hn
   unfold ins
   split
   ·rename_i hlt
    rw [keys_cons,keys_cons,List.pairwise_cons,List.pairwise_cons]
    grind
   rename_i hlt
   rw [keys_cons,List.pairwise_cons]
   refine⟨λx hx=>?_,ih hr.2 hn.2⟩
   rcases (oO h v r x).1 hx with e|e
   ·rw [e];have:=hn.1;omega
   exact hr.1 x e
theorem tv {h:Int} {v:V} {us:Used V} (hn:h∉keys us) (x:Int):get (ins h v us) x=if x=h then some v else get us x:=by
 induction us with
 |nil=>
   by_cases e:x=h
   ·subst e;simp [ins,get]
   simp [ins,get,e,Ne.symm e]
 |cons p r ih=>
   rw [keys_cons,List.mem_cons,not_or] at hn
   unfold ins
   grind [get]
theorem iU (h:Int) (v:V) (us:Used V):(ins h v us).length=us.length+1:=by
 induction us with
 |nil=>rfl
 |cons p r ih=>unfold ins;split<;>simp [ih]
theorem KF {h:Int} {v:V} {us:Used V} (hl:∀x∈keys us,x<h):ins h v us=us++[(h,v)]:=by
 induction us with
 |nil=>rfl
 |cons p r ih=>
   rw [keys_cons] at hl
   have h1:=hl p.1 (by simp)
   unfold ins
   grind
theorem GN (f:V->U) (h:Int) (v:V) (us:Used V):(ins h v us).map (λp=>(p.1,f p.2))=ins h (f v) (us.map λp=>(p.1,f p.2)):=by
 induction us with
 |nil=>rfl
 |cons p r ih=>unfold ins;simp only [List.map_cons];split<;>simp_all
theorem GP (f:V->U) (h:Int) (us:Used V):(del h us).map (λp=>(p.1,f p.2))=del h (us.map λp=>(p.1,f p.2)):=by
 unfold del;rw [List.filter_map];rfl
theorem rf (h:Int) (us:Used V):keys (del h us)=(keys us).filter (· != h):=by
 unfold keys del;rw [List.filter_map];rfl
theorem vJ (h:Int) (us:Used V) (x:Int):get (del h us) x=if x=h then none else get us x:=by
 by_cases e:x=h
 ·subst e
  rw [if_pos rfl,get_none,rf]
  simp
 rw [if_neg e]
 unfold get del
 grind
theorem tA {h:Int} {us:Used V} (hr:bK (keys us)) (hm:h∈keys us):(del h us).length+1=us.length:=by
 induction us with
 |nil=>simp [keys] at hm
 |cons p r ih=>
   unfold bK at *
   rw [keys_cons,List.pairwise_cons] at hr
   unfold del at ih ⊢
   rw [List.filter_cons]
   by_cases e:p.1=h
   ·have:r.filter (λq=>q.1 != h)=r:=by
     rw [List.filter_eq_self]
     intro q hq
     have:=hr.1 q.1 (List.mem_map_of_mem hq)
     simp;omega
    simp [e,this]
   rw [keys_cons,List.mem_cons] at hm
   grind
theorem ol:∀(ks:List Int) (h:Int),bK ks->(∀x∈ks,h<=x)->h<=jh h ks/\jh h ks∉ks/\∀x,h<=x->x<jh h ks->x∈ks
 |[],h,_,_=>⟨Int.le_refl _,by simp [jh],λx h1 h2=>by simp [jh] at h2;omega⟩
 |k::r,h,hr,hge=>by
   unfold bK at hr
   rw [List.pairwise_cons] at hr
   unfold jh
   by_cases e:k=h
   ·rw [if_pos e]
    obtain⟨i1,i2,i3⟩:=ol r (h+1) hr.2 (λx hx=>by have:=hr.1 x hx;omega)
    refine⟨by omega,?_,λx h1 h2=>?_⟩
    ·rw [List.mem_cons,not_or];exact⟨by omega,i2⟩
    by_cases e2:x=h
    ·rw [e2,←e];simp
    exact List.mem_cons_of_mem _ (i3 x (by omega) h2)
   rw [if_neg e]
   refine⟨Int.le_refl _,?_,λx h1 h2=>by omega⟩
   rw [List.mem_cons,not_or]
   refine⟨Ne.symm e,λhm=>?_⟩
   have h1:=hr.1 h hm
   have h2:=hge k (by simp)
   omega
theorem BJ {us:Used V} (hr:bK (keys us)) (hp:∀x∈keys us,1<=x) {h:Int} (h1:1<=h) (hn:h∉keys us) (hall:∀x,1<=x->x<h->x∈keys us):least us=h:=by
 obtain⟨i1,i2,i3⟩:=ol (keys us) 1 hr hp
 grind [least]
theorem TI.empty:TI 1 [] ([]:Used V):=
 ⟨List.Pairwise.nil,by simp [keys],by simp,λh h1 h2=>by omega,rfl,λi h1 h2=>by simp at h2,λa b h1=>by simp at h1⟩
theorem TI.Fb {next:Int} {us:Used V} (h:TI next [] us):least us=next:=by
 have hc:=h.count
 simp at hc
 refine BJ h.rise (λx hx=>(h.pos x hx).1) (by omega) (λhm=>?_) (λx h1 h2=>(h.all x h1 h2).resolve_right (by simp))
 have:=(h.pos _ hm).2;omega
theorem TI.UM {next:Int} {us:Used V} (h:TI next [] us) (v:V):TI (next+1) [] (ins next v us):=by
 have hc:=h.count
 simp at hc
 have hn:next∉keys us:=λhm=>by have:=(h.pos _ hm).2;omega
 refine⟨wo h.rise hn,λx hx=>?_,by simp,λx h1 h2=>?_,by rw [iU];simp;omega,λi h1 h2=>by simp at h2,λa b h1=>by simp at h1⟩
 ·rcases (oO next v us x).1 hx with e|e
  ·omega
  have:=h.pos x e;omega
 by_cases e:x=next
 ·exact .inl ((oO next v us x).2 (.inl e))
 exact .inl ((oO next v us x).2 (.inr ((h.all x h1 (by omega)).resolve_right (by simp))))
theorem TI.Fc {next:Int} {l:List Int} {us:Used V} (h:TI next l us) (hl:0<l.length):least us=at_ l 0:=by
 have hm:at_ l 0∈l:=wm.2 ⟨0,hl,rfl⟩
 obtain⟨b1,b2,b3⟩:=h.back _ hm
 refine BJ h.rise (λx hx=>(h.pos x hx).1) b1 b3 (λx h1 h2=>(h.all x h1 (by omega)).resolve_right (λhx=>?_))
 obtain⟨k,hk,e⟩:=wm.1 hx
 have:=aR.least h.heap k hk
 omega
theorem TI.UN {next:Int} {l l':List Int} {us:Used V} (h:TI next l us) (hl:0<l.length) (v:V) (hlen:l'.length+1=l.length) (hp:Hp l'.length l') (hi:BH l') (hm:∀x,x∈l'↔x∈l/\x≠at_ l 0) :
 TI next l' (ins (at_ l 0) v us):=by
 have h0:at_ l 0∈l:=wm.2 ⟨0,hl,rfl⟩
 obtain⟨b1,b2,b3⟩:=h.back _ h0
 have hc:=h.count
 refine⟨wo h.rise b3,λx hx=>?_,λx hx=>?_,λx h1 h2=>?_,by rw [iU];push_cast;omega,hp,hi⟩
 ·rcases (oO _ v us x).1 hx with e|e
  ·omega
  exact h.pos x e
 ·have hx':=(hm x).1 hx
  have:=h.back x hx'.1
  refine⟨this.1,this.2.1,λhk=>?_⟩
  rcases (oO _ v us x).1 hk with e|e
  ·exact hx'.2 e
  exact this.2.2 e
 by_cases e:x=at_ l 0
 ·exact .inl ((oO _ v us x).2 (.inl e))
 rcases h.all x h1 h2 with h3|h3
 ·exact .inl ((oO _ v us x).2 (.inr h3))
 exact .inr ((hm x).2 ⟨h3,e⟩)
theorem TI.drop {next h0:Int} {l l':List Int} {us:Used V} (h:TI next l us) (hm:h0∈keys us) (hs:Same (l++[h0]) l') (hp:Hp l'.length l'):TI next l' (del h0 us):=by
 obtain⟨p1,p2⟩:=h.pos _ hm
 have hn:h0∉l:=λhx=>(h.back _ hx).2.2 hm
 have hlen:=hs.len
 rw [List.length_append,List.length_singleton] at hlen
 have hc:=h.count
 have hd:=tA h.rise hm
 refine⟨?_,λx hx=>?_,λx hx=>?_,λx h1 h2=>?_,by omega,hp,hs.inj ?_⟩
 ·rw [rf];exact List.Pairwise.filter _ h.rise
 ·rw [rf,List.mem_filter] at hx
  exact h.pos x hx.1
 ·rw [hs.mem,List.mem_append,List.mem_singleton] at hx
  rw [rf,List.mem_filter]
  rcases hx with hx|hx
  ·have:=h.back x hx
   exact⟨this.1,this.2.1,λhk=>this.2.2 hk.1⟩
  grind
 ·rw [rf,List.mem_filter,hs.mem,List.mem_append,List.mem_singleton]
  rcases h.all x h1 h2 with h3|h3
  all_goals grind
 intro a b ha hb e
 rw [List.length_append,List.length_singleton] at ha hb
 have g:∀k,k<l.length->at_ (l++[h0]) k=at_ l k:=λk hk=>by
  grind [at_]
 have g2:at_ (l++[h0]) l.length=h0:=by grind [at_]
 have inl:∀k,k<l.length->at_ l k≠h0:=by grind [wm]
 by_cases ha':a<l.length
 ·by_cases hb':b<l.length
  ·rw [g a ha',g b hb'] at e;exact h.inj a b ha' hb' e
  grind
 grind
end Go.Proofs.YtnipofpbcggjcaaGreatDoor.ak
end
namespace Go.Proofs.YtnipofpbcggjcaaGreatDoor
section
open Go.RowKit aR ak Go.Maps
def br (us:Used Value):Lit->Option Value
 |.int .i64 h=>ak.get us h
 |_=>none
theorem GQ {us:Used Value} {h:Int} (hn:h∉keys us) (v:Value):o4 (br us) (.int .i64 h) (some v)=br (ins h v us):=by
 funext x
 unfold o4 br
 cases x with
 |int k n=>
   by_cases hk:k=.i64
   ·subst hk
    simp only [Lit.sameKey,true_and,decide_eq_true_eq]
    rw [tv hn]
   have e:(Lit.int k n).sameKey (.int .i64 h)=false:=by simp [Lit.sameKey,hk]
   grind
 |_=>rfl
theorem Ob {us:Used Value} {h:Int}:o4 (br us) (.int .i64 h) none=br (del h us):=by
 funext x
 unfold o4 br
 cases x with
 |int k n=>
   by_cases hk:k=.i64
   ·subst hk
    simp only [Lit.sameKey,true_and,decide_eq_true_eq]
    rw [vJ]
   grind
 |_=>rfl
structure abX (TT:TypeId) (t m base:Nat) (v:Value) (l:List Int) (next most ar:Int) (us:Used Value) (w:World):Prop where
 blk:w.heap[t]?=some (.cells #[.int .i64 most,.int .i64 ar,.map (some m),v,.int .i64 next] TT (0,0))
 map:iA Tryz.prog 3 w m (br us) us.length
 own:w.ownsRow base 3 1 v l.length (ints l)
 ti:TI next l us
 vw:(us.length:Int)<=most
 vz:most<=1024
 vA:next<=most+1
 tt:TT≠3
 bt:base<=t
 bm:base<=m
 xA:0<=ar/\ar<=1024
def Tab (TT:TypeId) (t m base:Nat) (row:Option Nat) (most ar:Int) (us:Used Value) (w:World):Prop:=
 ∃v l next,abX TT t m base v l next most ar us w/\v.ownBlock=row
section tab
variable {TT:TypeId} {t m base:Nat} {v:Value} {l:List Int} {next most ar:Int} {us:Used Value} {w w':World} {row:Option Nat}
end tab
end
section
open Go.RowKit aR ak Go.Maps
theorem Spec.ofB {P:Program} {β:Bs} {f:FuncId} {args:Array Value} {pre:List HP} {post:Value->List HP->Prop}
 (h:∀F w,(Proofs.YtnipofpbcggjcaaGreatDoor.mH pre).h F w->Calls P f args w λe w'=>∃v l,e=.returned v/\post v l/\∃F',(Proofs.YtnipofpbcggjcaaGreatDoor.mH l).h F' w'/\Step F w F' w'):Spec P β f args pre post:=by
 intro R w hS
 have h1:Sat β ([.abs (Proofs.YtnipofpbcggjcaaGreatDoor.mH pre)]++[.abs R]) w:=Sat.turn (Sat.turn hS).mH
 have h2:Spec P β f args [.abs (Proofs.YtnipofpbcggjcaaGreatDoor.mH pre)] (λv l=>∃l0,post v l0/\l=[.abs (Proofs.YtnipofpbcggjcaaGreatDoor.mH l0)]):=
  Spec.of1 (λF w hF=>(h F w hF).mono λ_ _ ⟨v,l,e,hp,hF'⟩=>⟨v,.abs (Proofs.YtnipofpbcggjcaaGreatDoor.mH l),e,⟨l,hp,rfl⟩,hF'⟩)
 refine (h2 R w h1).mono ?_
 rintro e w' ⟨v,l,he,⟨l0,hp,rfl⟩,qC⟩
 exact⟨v,l0,he,hp,Sat.turn (Sat.turn qC).Bc⟩
theorem JN {p q:HP} {F:Fp} {w:World}:(mH [p,q]).h F w↔∃F1 F2,p.h F1 w/\q.h F2 w/\Apart F1 F2/\∀k,F k↔F1 k\/F2 k:=by
 constructor
 ·rintro⟨φ,h1,h2,h3⟩
  refine⟨φ 0,φ 1,h1 0 p rfl,h1 1 q rfl,h2 0 1 (by simp) (by simp) (by decide),λk=>(h3 k).trans ⟨λ⟨i,hi,hk⟩=>?_,λh=>?_⟩⟩
  all_goals grind
 rintro⟨F1,F2,h1,h2,h3,h4⟩
 refine⟨λi=>if i=0 then F1 else F2,λi x hx=>?_,λi j hi hj hne=>?_,λk=>(h4 k).trans ⟨λh=>?_,λ⟨i,hi,hk⟩=>?_⟩⟩
 ·grind
 ·grind [mH,Apart]
 ·rcases h with h|h
  ·exact⟨0,by simp,h⟩
  exact⟨1,by simp,h⟩
 grind
theorem Sat.abo {β:Bs} {l:List HP} {w:World} {A:cK} {ι:Type} {Φ:ι->Prop} {L:ι->List HP} (h:Sat β (l++[.abs A]) w) (hA:∀F,A.h F w->∃i,Φ i/\(Proofs.YtnipofpbcggjcaaGreatDoor.mH (L i)).h F w):∃i,Φ i/\Sat β (l++L i) w:=by
 obtain⟨F,hF⟩:=h.get (i:=l.length) (p:=.abs A) (by simp)
 have h0:=h
 obtain⟨ho,φ,h1,h2,h3⟩:=h
 obtain⟨i,hi,hB⟩:=hA _ (h1 l.length (.abs A) (by simp))
 refine⟨i,hi,Sat.Bc ⟨ho,φ,λj p hp=>?_,λj hj=>h2 j (by simpa using hj),λa b ha hb=>h3 a b (by simpa using ha) (by simpa using hb)⟩⟩
 by_cases e:j<l.length
 ·grind
 have hj:j=l.length:=by have:=bT hp;simp at this;omega
 subst hj
 simp at hp
 subst hp
 exact hB
theorem Sat.Zk {β:Bs} {l R:List HP} {w:World} {A:cK} (h:Sat β (l++R) w) (hA:∀F,(Proofs.YtnipofpbcggjcaaGreatDoor.mH R).h F w->A.h F w):Sat β (l++[.abs A]) w:=by
 obtain⟨ho,φ,h1,h2,h3⟩:=h.mH
 refine⟨ho,φ,λj p hp=>?_,λj hj=>h2 j (by simpa using hj),λa b ha hb=>h3 a b (by simpa using ha) (by simpa using hb)⟩
 by_cases e:j<l.length
 ·grind
 have hj:j=l.length:=by have:=bT hp;simp at this;omega
 subst hj
 simp at hp
 subst hp
 exact hA _ (h1 l.length (.abs (Proofs.YtnipofpbcggjcaaGreatDoor.mH R)) (by simp))
section rules
variable {P:Program} {β:Bs} {N:dx} {ops:Array Oper} {k:Nat} {fr:Fr} {hps:List HP} {Q:Post} {c:Code} {e:Exit}
theorem ah.Ed {ι:Type} {Φ:ι->Prop} {hp:ι->List HP} (h:∀w,Sat β hps w->∃i,Φ i/\Sat β (hp i) w) (K:∀i,Φ i->ah P β N c fr (hp i) Q):ah P β N c fr hps Q:=λjunk w hS=>let ⟨i,hi,dY⟩:=h w hS;K i hi junk w dY
end rules
theorem AP {w:World} {t j:Nat} {cs:List Value} {T:TypeId} {u:Value} (h:w.heap[t]?=some (.cells ⟨cs⟩ T (0,0))):(w.setCell ⟨t,j,none⟩ u).heap[t]?=some (.cells ⟨cs.set j u⟩ T (0,0)):=by
 simp [World.setCell,Array.getElem?_modify,h,Array.setIfInBounds_def]
 exact λh=>(List.set_eq_of_length_le h).symm
theorem Zl {β:Bs} {T:TypeId} {a b c e:Value} {t g cap n:Nat} {l:List Int} (hl:l.length=n+1) (hp:Hp (n+1) l) (hi:BH l) (hm:n+1<=1048576) :
 Spec Tryz.prog β 175 #[.iface 199 (.pointer (some ⟨t,3,none⟩))] [.blk t [a,b,c,.slice (some ⟨g,0,none⟩) l.length cap,e] T,.abs (aq 3 1 (some ⟨g,0,none⟩) l.length cap (ints l))]
  (λv r=>v=.iface 3 (.int .i64 (at_ l 0))/\∃l':List Int,l'.length=n/\Hp n l'/\BH l'/\(∀x,x∈l'↔x∈l/\x≠at_ l 0)/\r=[.blk t [a,b,c,.slice (some ⟨g,0,none⟩) n cap,e] T,.abs (aq 3 1 (some ⟨g,0,none⟩) n cap (ints l'))]):=by
 refine Spec.ofB (λF w h=>?_)
 obtain⟨F1,F2,⟨h1,h2⟩,hr,hap,hF⟩:=JN.1 h
 have hr:(aq 3 1 (some ⟨g,0,none⟩) l.length cap (ints l)).h F2 w:=hr
 obtain⟨hr1,hr2⟩:=hr
 have hg:F2 g:=(hr2 g).2 rfl
 have hne:t≠g:=λe=>hap t ((h2 t).2 rfl) (e ▸ hg)
 have hc:w.cell? ⟨t,3,none⟩=some (.slice (some ⟨g,0,none⟩) l.length cap)/\w.frozen? ⟨t,3,none⟩=false:=jo h1 rfl rfl rfl
 have hW:HW t 3 g cap 0 l w:=⟨hc.1,hr1,hne,lt_of_some h1⟩
 refine (UL t 3 g cap 0 n l w hW hl hp hi hm hc.2).mono ?_
 rintro e' w' ⟨rfl,l',w1,g1,g2,g3,g4,g5,g6,rfl⟩
 have h1':w1.heap[t]?=some (.cells ⟨[a,b,c,.slice (some ⟨g,0,none⟩) l.length cap,e]⟩ T (0,0)):=(g6.block t (lt_of_some h1) (λe=>hne e)).trans h1
 have hks:Keeps (·=t) w1 (w1.setCell ⟨t,3,none⟩ (.slice (some ⟨g,0,none⟩) n cap)):=(Keeps.refl (·=t) w1).setCell (p:=⟨t,3,none⟩) (.inr rfl) _
 refine⟨_,_,rfl,⟨rfl,l',g1,g2,g3,g4,rfl⟩,F,JN.2 ⟨F1,F2,⟨AP h1',h2⟩,⟨hks.ownsRow g5 (λk hk e=>?_),λk=>?_⟩,hap,hF⟩,⟨((g6.mono (S':=F) (λk _ e=>(hF k).2 (.inr (e ▸ hg)))).trans (hks.mono (λk _ e=>(hF k).2 (.inl ((h2 k).2 e))))),λ_ h=>.inl h⟩⟩
 ·cases hk;exact hne e.symm
 rw [hr2 k];simp [Value.ownBlock]
theorem X6 {β:Bs} {T:TypeId} {a b c e:Value} {t cap:Nat} {A:Option Addr} {l:List Int} (x:Int) (hp:Hp l.length l) (hm:l.length+1<=1048576) :
 Spec Tryz.prog β 145 #[.iface 199 (.pointer (some ⟨t,3,none⟩)),.iface 3 (.int .i64 x)] [.blk t [a,b,c,.slice A l.length cap,e] T,.abs (aq 3 1 A l.length cap (ints l))]
  (λv r=>v=.tuple #[]/\∃(g c':Nat) (l':List Int),Same (l++[x]) l'/\Hp l'.length l'/\r=[.blk t [a,b,c,.slice (some ⟨g,0,none⟩) l'.length c',e] T,.abs (aq 3 1 (some ⟨g,0,none⟩) l'.length c' (ints l'))]):=by
 refine Spec.ofB (λF w h=>?_)
 obtain⟨F1,F2,⟨h1,h2⟩,hr,hap,hF⟩:=JN.1 h
 have hr:(aq 3 1 A l.length cap (ints l)).h F2 w:=hr
 obtain⟨hr1,hr2⟩:=hr
 have hc:w.cell? ⟨t,3,none⟩=some (.slice A l.length cap)/\w.frozen? ⟨t,3,none⟩=false:=jo h1 rfl rfl rfl
 have hne:(Value.slice A l.length cap).ownBlock≠some t:=λe=>hap t ((h2 t).2 rfl) ((hr2 t).2 e)
 refine (Rz t 3 0 (.slice A l.length cap) l x w hc.1 hc.2 hr1 hne hm (Nat.zero_le _) hp (lt_of_some h1)).mono ?_
 rintro e' w' ⟨rfl,g,c',l',g1,g2,g3,g4,w1,g5,g6⟩
 have Oc:t≠g:=g3.ne
 have hlen:l'.length=l.length+1:=by have:=g1.len;simp at this;omega
 have h1':w1.heap[t]?=some (.cells ⟨[a,b,c,.slice A l.length cap,e]⟩ T (0,0)):=(g5.block t (lt_of_some h1) hne).trans h1
 have Zm:=AP (j:=3) (u:=.slice (some ⟨g,0,none⟩) (l.length+1) c') h1'
 have abY:w'.heap[t]?=some (.cells ⟨[a,b,c,.slice (some ⟨g,0,none⟩) l'.length c',e]⟩ T (0,0)):=by
  rw [hlen];exact (g6.block t (lt_of_some Zm) Oc).trans Zm
 have hks:Keeps (·=t) w1 (w1.setCell ⟨t,3,none⟩ (.slice (some ⟨g,0,none⟩) (l.length+1) c')):=(Keeps.refl (·=t) w1).setCell (p:=⟨t,3,none⟩) (.inr rfl) _
 refine⟨_,_,rfl,⟨rfl,g,c',l',g1,g2,rfl⟩,λk=>F1 k\/k=g,JN.2 ⟨F1,λk=>k=g,⟨abY,h2⟩,⟨g3.own,λk=>?_⟩,λk hk e=>Oc (((h2 k).1 hk).symm.trans e),λk=>Iff.rfl⟩,⟨?_,λk hk=>?_⟩⟩
 ·simp [Value.ownBlock,eq_comm]
 ·have k1:Keeps F w w1:=g5.mono (λk _ hk=>(hF k).2 (.inr ((hr2 k).2 hk)))
  have k2:Keeps F w (w1.setCell ⟨t,3,none⟩ (.slice (some ⟨g,0,none⟩) (l.length+1) c')):=k1.trans (hks.mono (λk _ e=>(hF k).2 (.inl ((h2 k).2 e))))
  exact k2.andThen g6 (λi hi e=>by
   rcases g4 with g4|g4
   ·exact (hF i).2 (.inr ((hr2 i).2 (e ▸ g4)))
   subst e;omega)
 rcases hk with hk|rfl
 ·exact .inl ((hF k).2 (.inl hk))
 rcases g4 with g4|g4
 ·exact .inl ((hF _).2 (.inr ((hr2 _).2 g4)))
 exact .inr g4
structure iV (next:Int) (l:List Int) (us:Used Value) (most ar:Int):Prop where
 ti:TI next l us
 vw:(us.length:Int)<=most
 vz:most<=1024
 vA:next<=most+1
 zD:next<=ar+1
 xA:0<=ar/\ar<=1024
theorem iV.KG {next:Int} {l:List Int} {us:Used Value} {most ar:Int} (h:iV next l us most ar):1<=ak.least us/\ak.least us<=next/\ak.least us∉keys us/\next<=1025/\1<=next/\us.length<=1024/\l.length<=1024:=by
 obtain⟨h1,h2,h3⟩:=ol (keys us) 1 h.ti.rise (λx hx=>(h.ti.pos x hx).1)
 have hc:=h.ti.count
 have m0:=h.vw
 have m1:=h.vz
 have n1:=h.vA
 refine⟨h1,?_,h2,by omega,by omega,by omega,by omega⟩
 rcases Int.lt_or_le next (ak.least us) with h4|h4
 ·have:=h3 next (by omega) h4
  have:=(h.ti.pos _ this).2
  omega
 exact h4
theorem KH:br []=λ_=>none:=by
 funext x
 unfold br
 split<;>rfl
theorem Io {us:Used Value} {h:Int} (hn:h∉keys us):br us (.int .i64 h)=none:=get_none.2 hn
structure TX where
 m:Nat
 A:Option Addr
 c:Nat
 l:List Int
 next:Int
def oP (TT:TypeId) (t:Nat) (most ar:Int) (us:Used Value) (x:TX):List HP:=
 [.blk t [.int .i64 most,.int .i64 ar,.map (some x.m),.slice x.A x.l.length x.c,.int .i64 x.next] TT,.abs (aY Tryz.prog 3 x.m (br us) us.length),.abs (aq 3 1 x.A x.l.length x.c (ints x.l))]
def cX (TT:TypeId) (t:Nat) (most ar:Int) (us:Used Value):cK where
 h F w:=∃x:TX,iV x.next x.l us most ar/\(mH (oP TT t most ar us x)).h F w
 lt:=λ⟨_,_,h⟩ k hk=>cK.lt _ h k hk
 st:=λ⟨x,h1,h⟩ _ _ hk hn=>⟨x,h1,cK.st _ h hk hn⟩
theorem Sat.tC {β:Bs} {TT:TypeId} {t:Nat} {most ar:Int} {us:Used Value} {l:List HP} {w:World} (h:Sat β (l++[.abs (cX TT t most ar us)]) w):∃x:TX,iV x.next x.l us most ar/\Sat β (l++oP TT t most ar us x) w:=
 h.abo (λ_ h=>h)
theorem Sat.oQ {β:Bs} {TT:TypeId} {t:Nat} {most ar:Int} {us:Used Value} {l:List HP} {w:World} (x:TX) (hx:iV x.next x.l us most ar) (h:Sat β (l++oP TT t most ar us x) w):Sat β (l++[.abs (cX TT t most ar us)]) w:=
 h.Zk (λ_ h=>⟨x,hx,h⟩)
end
section
open Go.RowKit Go.Maps Go.Sort Go.Shelf aR ak
theorem lu {z:Int} (h:(Lit.int .i64 z).wf=true):keyOf Tryz.prog 3 (.int .i64 z)=some (.int .i64 z):=
 keyOf_int_mk Tryz.underlying3 h
theorem Ip:∀{l m:List Int},l.Pairwise (· < ·)->m.Pairwise (· < ·)->(∀z,z∈l↔z∈m)->l=m
 |[],[],_,_,_=>rfl
 |[],b::m,_,_,h=>by have:=(h b).2 (List.mem_cons_self ..);cases this
 |a::l,[],_,_,h=>by have:=(h a).1 (List.mem_cons_self ..);cases this
 |a::l,b::m,hl,hm,h=>by
   have hl':=List.pairwise_cons.1 hl
   have hm':=List.pairwise_cons.1 hm
   have e:a=b:=by
    rcases List.mem_cons.1 ((h a).1 (List.mem_cons_self ..)) with e|e
    ·exact e
    rcases List.mem_cons.1 ((h b).2 (List.mem_cons_self ..)) with e2|e2
    ·exact e2.symm
    have:=hm'.1 a e;have:=hl'.1 b e2;omega
   subst e
   congr 1
   refine Ip hl'.2 hm'.2 (λz=>⟨λhz=>?_,λhz=>?_⟩)
   ·rcases List.mem_cons.1 ((h z).1 (List.mem_cons_of_mem _ hz)) with e|e
    ·have:=hl'.1 z hz;omega
    exact e
   rcases List.mem_cons.1 ((h z).2 (List.mem_cons_of_mem _ hz)) with e|e
   ·have:=hm'.1 z hz;omega
   exact e
theorem PE (x y:Int):(if y>x then y else x)=max x y:=by
 rw [Int.max_def];split<;>split<;>omega
theorem WK (x y:Int):(if y<x then y else x)=min x y:=by
 rw [Int.min_def];split<;>split<;>omega
theorem Zn (m:Nat):AnyZI.SortsIn Tryz.prog Tryz.sortedI_ren Fence.wide m:=
 ⟨λblk off cap ss W hH hblk hsz=>callsIn_wide.2 (AnyM.slices_Sort_int Tryz.sortI blk off cap ss W hH hblk hsz),
  λp cap W=>callsIn_wide.2 (AnyM.slices_Sort_int_none Tryz.sortI p cap W)⟩
def Fe (bk:Nat):Value:=.func (.func 105) #[] #[.pointer (some ⟨bk,0,none⟩)]
theorem KI {β:Bs} (mb:Option Nat):Spec Tryz.prog β 54 #[.map mb] [] (λv l=>∃bk,v=Fe bk/\l=[.blk bk [.map mb] 66]):=
 Spec.J0 λW _=>by
  have h:CallsIn Fence.wide 5 Tryz.prog 54 #[.map mb] W λe w'=>e=.returned (Fe W.heap.size)/\w'=W.alloc (.cells #[.map mb] 66):=AnyZI.keys_in Tryz.keysI Fence.wide 5 trivial rfl mb W
  refine ((callsIn_wide (n:=5)).1 h).mono ?_
  rintro e w' ⟨rfl,rfl⟩
  refine⟨_,_,rfl,⟨W.heap.size,rfl,rfl⟩,(Keeps.refl _ _).alloc _,λk=>k=W.heap.size,⟨?_,λk=>Iff.rfl⟩,λk hk=>Nat.le_of_eq hk.symm⟩
  show (W.heap.push _)[W.heap.size]?=_
  simp
structure KeysOf (f:Lit->Option Value) (ss:List Int):Prop where
 mem:∀z,z∈ss↔(f (.int .i64 z)).isSome=true
 sorted:ss.Pairwise (· < ·)
theorem PF {w:World} {b n:Nat} {K:TypeId} {f:Lit->Option Value} {D:DataW Value} (hK:Tryz.prog.underlying K=some (.int .i64)) (L:Keyed Tryz.prog K) (hown:w.ownsMap Tryz.prog K vl b n D) (hf:∀kl,Maps.has D kl=(f kl).isSome) {ss:List Int} (hp:ss.Perm (intKeys D)) :
 KeysOf f (ss.mergeSort (λx y=>decide (x<=y))):=by
 obtain⟨es,hD,hpw,_⟩:=hown.entries L
 obtain⟨es',hD',hko⟩:=hown.keysOf
 obtain rfl:es=es':=by rw [hD] at hD';simpa using hD'
 have hk:∀p∈es,∃x,p.1=.int .i64 x:=λp hp=>by
  obtain⟨v,hv⟩:=hko p hp
  obtain⟨x,_,h,_⟩:=keyOf_i64 hK hv
  exact⟨x,h⟩
 have hmem:∀z,z∈intKeys D↔(f (.int .i64 z)).isSome=true:=λz=>by
  rw [←hf,hD]
  show z∈es.map (λp=>Go.intOf p.1)↔es.any (λp=>p.1.sameKey (.int .i64 z))=true
  rw [List.mem_map,List.any_eq_true]
  refine⟨λ⟨p,hp,e⟩=>⟨p,hp,?_⟩,λ⟨p,hp,e⟩=>⟨p,hp,?_⟩⟩
  ·obtain⟨x,hx⟩:=hk p hp
   rw [hx] at e ⊢
   have e:x=z:=e
   simp [Lit.sameKey,e]
  obtain⟨x,hx⟩:=hk p hp
  rw [hx] at e ⊢
  show x=z
  simpa [Lit.sameKey] using e
 have hnd:(intKeys D).Nodup:=by
  rw [hD]
  show (es.map λp=>Go.intOf p.1).Nodup
  rw [List.nodup_iff_pairwise_ne,List.pairwise_map]
  refine hpw.imp_of_mem (λ{p q} hp hq hne e=>hne ?_)
  obtain⟨x,hx⟩:=hk p hp
  obtain⟨y,hy⟩:=hk q hq
  rw [hx,hy] at e ⊢
  have e:x=y:=e
  rw [e]
 have tr:∀a b c:Int,decide (a<=b)=true->decide (b<=c)=true->decide (a<=c)=true:=by grind
 have to:∀a b:Int,(decide (a<=b) || decide (b<=a))=true:=by grind
 have hperm:=(List.mergeSort_perm ss (λx y=>decide (x<=y))).trans hp
 refine⟨λz=>by rw [hperm.mem_iff,hmem],?_⟩
 have h1:=List.pairwise_mergeSort tr to ss
 have h2:(ss.mergeSort (λx y=>decide (x<=y))).Nodup:=hperm.nodup_iff.2 hnd
 rw [List.nodup_iff_pairwise_ne] at h2
 refine (h1.and h2).imp (λ{a b} h=>?_)
 grind
theorem Ff {β:Bs} (b bk n:Nat) (f:Lit->Option Value) (hn:n<=16777216) :
 Spec Tryz.prog β 53 #[Fe bk] [.abs (aY Tryz.prog 3 b f n),.blk bk [.map (some b)] 66] (λv l=>∃A cap ss,v=.slice A ss.length cap/\KeysOf f ss/\ss.length=n ∧
  l=[.abs (aY Tryz.prog 3 b f n),.blk bk [.map (some b)] 66,.abs (aq 3 1 A ss.length cap (ints ss))]):=by
 intro R w hS
 obtain⟨F1,h1⟩:=hS.get (i:=0) (p:=.abs (aY Tryz.prog 3 b f n)) rfl
 obtain⟨F2,h2⟩:=hS.get (i:=1) (p:=.blk bk [.map (some b)] 66) rfl
 obtain⟨D,hown,hsz,hhas,_⟩:=h1.1
 have hcell:w.cell? ⟨bk,0,none⟩=some (.map (some b)):=(jo h2.1 rfl rfl rfl).1
 have hseq:SeqGives Fence.wide 2 Tryz.prog 105 #[.pointer (some ⟨bk,0,none⟩)] encZ (λss=>ss.Perm (intKeys D)) (Maps.size D) w:=
  AnyZI.keys_gives (ρ:=Tryz.keysI_ren) {Tryz.keysI with} Fence.wide _ trivial rfl (by omega) bk b n D w (lt_of_some h2.1) hcell hown
 have cS:=AnyZI.sorted_in Tryz.sortedI Fence.wide 5 trivial trivial trivial trivial rfl (by omega) (Zn _) (enters_of Tryz.func104 (by kernel_rfl) rfl) 105 #[.pointer (some ⟨bk,0,none⟩)] trivial (enters_of Tryz.func105 (by kernel_rfl) rfl) _ _ (by rw [hsz];unfold maxLen;omega) (by rw [hsz];omega) _ hseq
 change CallsIn _ _ Tryz.prog 53 _ _ _ at cS
 refine ((callsIn_wide (n:=5)).1 cS).mono ?_
 rintro e w' ⟨v,ss,rfl,hp,hrow,hnil,hb⟩
 have hlen:(ss.mergeSort (λx y=>decide (x<=y))).length=ss.length:=List.length_mergeSort ss
 have hkeys:=PF Tryz.underlying3 gH hown hhas hp
 have Be:∃A cap,v=.slice A ss.length cap:=by
  rcases hrow.2 with ⟨e1,e2⟩|⟨g,cp,cur,e1,_⟩
  all_goals grind
 obtain⟨A,cap,rfl⟩:=Be
 have hn1:ss.length=n:=by
  rw [hp.length_eq,←hsz]
  obtain⟨es,hD,_⟩:=hown.entries gH
  rw [hD]
  exact List.length_map ..
 have hq:Sat β ([.abs (aY Tryz.prog 3 b f n),.blk bk [.map (some b)] 66,.abs R]++[.abs (aq 3 1 A ss.length cap (ints (ss.mergeSort (λx y=>decide (x<=y)))))]) w':=by
  refine Sat.new (F:=λk=>(Value.slice A ss.length cap).ownBlock=some k) hS ⟨?_,λk=>Iff.rfl⟩ ⟨hb.os,hb.tape,hb.output,hb.size,λk hk _=>hb.block k hk⟩ (λk hk=>(hrow.lt k hk).1)
  refine⟨hrow.1,?_⟩
  rcases hrow.2 with h|⟨g,cp,cur,e1,_,h3,h4⟩
  ·exact .inl h
  exact .inr ⟨g,cp,cur,e1,Nat.zero_le _,h3,h4⟩
 exact⟨_,[.abs (aY Tryz.prog 3 b f n),.blk bk [.map (some b)] 66,.abs (aq 3 1 A ss.length cap (ints (ss.mergeSort (λx y=>decide (x<=y)))))],rfl,⟨A,cap,ss.mergeSort (λx y=>decide (x<=y)),by rw [hlen],hkeys,by rw [hlen];exact hn1,by rw [hlen]⟩,hq.pick (idx:=[0,1,3,2]) rfl rfl⟩
end
section
open Go.RowKit aR ak Go.Maps
attribute [local irreducible] ai aQ ah aj iL
theorem Od {us:Used Value} {ss:List Int} (hr:ak.bK (keys us)) (h:KeysOf (br us) ss):ss=keys us:=by
 refine Ip h.sorted hr (λz=>?_)
 rw [h.mem]
 show (ak.get us z).isSome=true↔z∈keys us
 refine⟨λh=>?_,λh=>?_⟩
 ·obtain⟨x,hx⟩:=Option.isSome_iff_exists.1 h;exact get_some hx
 cases hg:ak.get us z with
 |some x=>rfl
 |none=>exact absurd h (get_none.1 hg)
theorem KJ {β:Bs} (most:Int) :
 Spec Tryz.prog β 21 #[vI (most)] [] (λv l=>∃t,v=vP t/\l=[.abs (cX 140 t (min (max most 0) 1024) 0 [])]):=by
 exact SE Tryz.func21 Tryz.ntmps21 (λR=>SR (jK 1 [] [] (NS (jK 3 [5] [(1,w_ (.int .i64 (max most 0)) (congrArg (Value.int .i64) (PE _ _))),(2,w_ (.int .i64 (min (max most 0) 1024)) (congrArg (Value.int .i64) (WK _ _)))] (ai.rI (d:=(some 6)) (t:=66) (λ_=>by kernel_rfl) Tryz.prog rfl 3 (λm1=>jB 3 [2] (λb2=>.blk b2 [vI (min (max most 0) 1024),vI 0,.map (some m1),.slice none (0) (0),vI 1] 140) (λb2=>NN (ah.ret (aj.mem (λw hS=>hS.kO (e:=3) (size:=1)) (aj.mem (dS:=[.abs R,.abs (cX 140 b2 (min (max most 0) 1024) 0 [])]) (λw hS=>Sat.oQ (l:=[.abs R]) ⟨m1,none,0,[],1⟩ ⟨TI.empty,by grind,by omega,by grind,by show (1:Int)<=0+1;decide,by decide⟩ (by rw [←KH] at hS;exact hS.pick (idx:=[0,2,1,3]) (l':=[.abs R]++oP 140 b2 (min (max most 0) 1024) 0 [] ⟨m1,none,0,[],1⟩) rfl rfl)) (RT _ [1,0] (⟨b2,rfl,rfl⟩))))))))))))
theorem RA {β:Bs} (t:Nat) (most ar:Int) (us:Used Value) :
 Spec Tryz.prog β 102 #[vP t] [.abs (cX 140 t most ar us)] (λv l=>v=vI ar/\l=[.abs (cX 140 t most ar us)]):=by
 refine SE Tryz.func102 Tryz.ntmps102 (λR=>ah.seq (ah.Ed (Φ:=λx:TX=>iV x.next x.l us most ar) (hp:=λx=>[.abs R]++oP 140 t most ar us x) (λw hS=>(hS.pick (idx:=[1,0]) (l':=[.abs R]++[.abs (cX 140 t most ar us)]) rfl rfl).tC) (λx hT=>?_)))
 obtain⟨m,A,c,l,next⟩:=x
 replace hT:iV next l us most ar:=hT
 have hb:=hT.KG
 have hm0:=hT.vw
 have hm1:=hT.vz
 have hn1:=hT.vA
 have hn2:=hT.zD
 have KL:=hT.xA
 have Oe:=hT.ti.count
 show ah _ _ _ _ _ [.abs R,.blk t [vI (most),vI (ar),.map (some m),.slice A (l.length) (c),vI (next)] 140,.abs (aY Tryz.prog 3 m (br us) us.length),.abs (aq 3 1 A l.length c (ints l))] _
 exact ah.region (jK 1 [] [] (NS (jK 5 [2] [(3,a_ 1 t)] (NN (ah.ret (aj.mem (λw hS=>Sat.oQ (l:=[.abs R]) ⟨m,A,c,l,next⟩ (show iV (next) l (us) most (ar) from hT) (hS.pick (idx:=[0,1,2,3]) (l':=[.abs R]++oP 140 t most (ar) (us) ⟨m,A,c,l,next⟩) rfl rfl)) (RT _ [1,0] (⟨rfl,rfl⟩))))))))
theorem oR {β:Bs} (t:Nat) (most ar:Int) (us:Used Value) (h:Int) (hw:(Lit.int .i64 h).wf=true) (x:Value) (hg:ak.get us h=some x) :
 Spec Tryz.prog β 128 #[vP t,vI (h)] [.abs (cX 140 t most ar us)] (λv l=>v=.tuple #[x,vI 0]/\l=[.abs (cX 140 t most ar us)]):=by
 refine SE Tryz.func128 Tryz.ntmps128 (λR=>ah.seq (ah.Ed (Φ:=λx:TX=>iV x.next x.l us most ar) (hp:=λx=>[.abs R]++oP 140 t most ar us x) (λw hS=>(hS.pick (idx:=[1,0]) (l':=[.abs R]++[.abs (cX 140 t most ar us)]) rfl rfl).tC) (λx hT=>?_)))
 obtain⟨m,A,c,l,next⟩:=x
 replace hT:iV next l us most ar:=hT
 have hb:=hT.KG
 have hm0:=hT.vw
 have hm1:=hT.vz
 have hn1:=hT.vA
 have hn2:=hT.zD
 have KL:=hT.xA
 have Oe:=hT.ti.count
 show ah _ _ _ _ _ [.abs R,.blk t [vI (most),vI (ar),.map (some m),.slice A (l.length) (c),vI (next)] 140,.abs (aY Tryz.prog 3 m (br us) us.length),.abs (aq 3 1 A l.length c (ints l))] _
 exact ah.region (jK 2 [] [] (NS (jK 5 [12,13] [(3,a_ 1 t)] (ai.xg 2 (d:=(some 14)) (t:=66) (K:=3) (E:=70) (b:=m) (n:=us.length) (f:=(br us)) (x:=(.tmp 12)) (ix:=(.tmp 13)) (key:=.int .i64 (h)) (z:=.nilIface) (kl:=(.int .i64 h)) (r:=(some x)) (λ_=>by kernel_rfl) (by kernel_rfl) (λ_=>by kernel_rfl) (λ_=>by kernel_rfl) gH Tryz.underlying66 (λ_=>by kernel_rfl) (lu hw) (hg) (jK 5 [6,7] [] (NZ (jK 2 [18] [] (NF (KX (SR (jK 3 [4,5] [] (NN (ah.ret (aj.mem (λw hS=>Sat.oQ (l:=[.abs R]) ⟨m,A,c,l,next⟩ (show iV (next) l (us) most (ar) from hT) (hS.pick (idx:=[0,1,2,3]) (l':=[.abs R]++oP 140 t most (ar) (us) ⟨m,A,c,l,next⟩) rfl rfl)) (RT _ [1,0] (⟨rfl,rfl⟩))))))))))))))))
theorem uo {β:Bs} (t:Nat) (most ar:Int) (us:Used Value) (h:Int) (hw:(Lit.int .i64 h).wf=true) (hg:ak.get us h=none) :
 Spec Tryz.prog β 128 #[vP t,vI (h)] [.abs (cX 140 t most ar us)] (λv l=>v=.tuple #[.nilIface,vI 131]/\l=[.abs (cX 140 t most ar us)]):=by
 refine SE Tryz.func128 Tryz.ntmps128 (λR=>ah.seq (ah.Ed (Φ:=λx:TX=>iV x.next x.l us most ar) (hp:=λx=>[.abs R]++oP 140 t most ar us x) (λw hS=>(hS.pick (idx:=[1,0]) (l':=[.abs R]++[.abs (cX 140 t most ar us)]) rfl rfl).tC) (λx hT=>?_)))
 obtain⟨m,A,c,l,next⟩:=x
 replace hT:iV next l us most ar:=hT
 have hb:=hT.KG
 have hm0:=hT.vw
 have hm1:=hT.vz
 have hn1:=hT.vA
 have hn2:=hT.zD
 have KL:=hT.xA
 have Oe:=hT.ti.count
 show ah _ _ _ _ _ [.abs R,.blk t [vI (most),vI (ar),.map (some m),.slice A (l.length) (c),vI (next)] 140,.abs (aY Tryz.prog 3 m (br us) us.length),.abs (aq 3 1 A l.length c (ints l))] _
 exact ah.region (jK 2 [] [] (NS (jK 5 [12,13] [(3,a_ 1 t)] (ai.xg 2 (d:=(some 14)) (t:=66) (K:=3) (E:=70) (b:=m) (n:=us.length) (f:=(br us)) (x:=(.tmp 12)) (ix:=(.tmp 13)) (key:=.int .i64 (h)) (z:=.nilIface) (kl:=(.int .i64 h)) (r:=none) (λ_=>by kernel_rfl) (by kernel_rfl) (λ_=>by kernel_rfl) (λ_=>by kernel_rfl) gH Tryz.underlying66 (λ_=>by kernel_rfl) (lu hw) (hg) (jK 5 [6,7] [] (NZ (jK 2 [18] [] (NT (SR (jK 3 [4,5] [] (NN (ah.ret (aj.aG (aj.mem (λw hS=>Sat.oQ (l:=[.abs R]) ⟨m,A,c,l,next⟩ (show iV (next) l (us) most (ar) from hT) (hS.pick (idx:=[0,1,2,3]) (l':=[.abs R]++oP 140 t most (ar) (us) ⟨m,A,c,l,next⟩) rfl rfl)) (RT _ [1,0] (⟨rfl,rfl⟩))))))))))))))))
theorem BK {β:Bs} (t:Nat) (most ar:Int) (us:Used Value) (x:Value) (hf:most<=(us.length:Int)) :
 Spec Tryz.prog β 144 #[vP t,x] [.abs (cX 140 t most ar us)] (λv l=>v=.tuple #[vI 0,vI 130]/\l=[.abs (cX 140 t most ar us)]):=by
 refine SE Tryz.func144 Tryz.ntmps144 (λR=>ah.seq (ah.Ed (Φ:=λx:TX=>iV x.next x.l us most ar) (hp:=λx=>[.abs R]++oP 140 t most ar us x) (λw hS=>(hS.pick (idx:=[1,0]) (l':=[.abs R]++[.abs (cX 140 t most ar us)]) rfl rfl).tC) (λx hT=>?_)))
 obtain⟨m,A,c,l,next⟩:=x
 replace hT:iV next l us most ar:=hT
 have hb:=hT.KG
 have hm0:=hT.vw
 have hm1:=hT.vz
 have hn1:=hT.vA
 have hn2:=hT.zD
 have KL:=hT.xA
 have Oe:=hT.ti.count
 show ah _ _ _ _ _ [.abs R,.blk t [vI (most),vI (ar),.map (some m),.slice A (l.length) (c),vI (next)] 140,.abs (aY Tryz.prog 3 m (br us) us.length),.abs (aq 3 1 A l.length c (ints l))] _
 exact ah.region (jK 2 [] [] (NN (ah.seq (ah.seq (rQ (jQ 4 [10] [(3,a_ 1 t)] (aQ.yB 2 (d:=(some 11)) (t:=66) (K:=3) (E:=70) (b:=m) (n:=us.length) (f:=(br us)) (x:=(.tmp 10)) (ats:=#[66]) (λ_=>by kernel_rfl) (by kernel_rfl) (λ_=>by kernel_rfl) rfl Tryz.underlying66 (jQ 5 [16] [(3,a_ 1 t)] (NQ (NX (cP ((((us.length:Nat):Int):Int)>=(most:Int)) (λog=>SR (jK 2 [4,5] [] (NN (ah.ret (aj.aG (aj.mem (λw hS=>Sat.oQ (l:=[.abs R]) ⟨m,A,c,l,next⟩ (show iV (next) l (us) most (ar) from hT) (hS.pick (idx:=[0,1,2,3]) (l':=[.abs R]++oP 140 t most (ar) (us) ⟨m,A,c,l,next⟩) rfl rfl)) (RT _ [1,0] (⟨rfl,rfl⟩)))))))) (λog=>absurd og (by omega)))))))))))))
theorem Ee {β:Bs} (t:Nat) (most ar:Int) (us:Used Value) (x:Value) (hf:(us.length:Int)<most) :
 Spec Tryz.prog β 144 #[vP t,x] [.abs (cX 140 t most ar us)] (λv l=>v=.tuple #[vI (least us),vI 0]/\l=[.abs (cX 140 t most (max ar ((us.length:Int)+1)) (ins (least us) x us))]):=by
 refine SE Tryz.func144 Tryz.ntmps144 (λR=>ah.seq (ah.Ed (Φ:=λx:TX=>iV x.next x.l us most ar) (hp:=λx=>[.abs R]++oP 140 t most ar us x) (λw hS=>(hS.pick (idx:=[1,0]) (l':=[.abs R]++[.abs (cX 140 t most ar us)]) rfl rfl).tC) (λx hT=>?_)))
 obtain⟨m,A,c,l,next⟩:=x
 replace hT:iV next l us most ar:=hT
 have hb:=hT.KG
 have hm0:=hT.vw
 have hm1:=hT.vz
 have hn1:=hT.vA
 have hn2:=hT.zD
 have KL:=hT.xA
 have Oe:=hT.ti.count
 show ah _ _ _ _ _ [.abs R,.blk t [vI (most),vI (ar),.map (some m),.slice A (l.length) (c),vI (next)] 140,.abs (aY Tryz.prog 3 m (br us) us.length),.abs (aq 3 1 A l.length c (ints l))] _
 refine ah.region (jK 2 [] [] (NN (ah.seq (ah.seq (rQ (jQ 4 [10] [(3,a_ 1 t)] (aQ.yB 2 (d:=(some 11)) (t:=66) (K:=3) (E:=70) (b:=m) (n:=us.length) (f:=(br us)) (x:=(.tmp 10)) (ats:=#[66]) (λ_=>by kernel_rfl) (by kernel_rfl) (λ_=>by kernel_rfl) rfl Tryz.underlying66 (jQ 5 [16] [(3,a_ 1 t)] (NQ (NX (cP ((((us.length:Nat):Int):Int)>=(most:Int)) (λog=>absurd og (by omega)) (λog=>KX (SR (jK 5 [6] [(3,a_ 1 t)] (NZ (jK 6 [26] [(3,a_ 1 t)] (NN (cP ((((l.length:Nat):Int):Int)>(0:Int)) (λAK=>?_) (λAK=>?_)))))))))))))))))))
 ·refine ah.region ?_
  obtain⟨n,hn⟩:∃n,l.length=n+1:=⟨l.length-1,by omega⟩
  refine ai.tell (p:=∃g,A=some ⟨g,0,none⟩) (λw hS=>let ⟨F,h⟩:=hS.get (i:=3) rfl;aq.head h (by omega)) (λ⟨g,hg⟩=>?_)
  subst hg
  refine jK 4 [31] [] (gL (args:=#[.iface 199 (.pointer (some ⟨t,3,none⟩))]) (pre:=[.blk t [vI (most),vI (ar),.map (some m),.slice (some ⟨g,0,none⟩) (l.length) (c),vI (next)] 140,.abs (aq 3 1 (some ⟨g,0,none⟩) l.length c (ints l))]) [1,3] (Zl hn (by have:=hT.ti.heap;rwa [hn] at this) hT.ti.inj (by omega)) ?_)
  rintro _ _ ⟨rfl,l2,rfl,hp2,hi2,hm2,rfl⟩
  exact jK 5 [6] [] (NS (sl 6 (.int .i64 ((at_ l 0))) (.int .i64 ((least us))) (by rw [hT.ti.Fc (by omega)]) (jK 6 [46,47,48] [(3,a_ 0 t)] (ai.pY 3 (d:=none) (t:=66) (K:=3) (E:=70) (b:=m) (n:=us.length) (f:=(br us)) (x:=(.tmp 46)) (ix:=(.tmp 47)) (y:=(.tmp 48)) (key:=.int .i64 ((least us))) (u:=x) (kl:=(.int .i64 (least us))) (n':=(us.length+1)) (f':=(br (ins (least us) x us))) (λ_=>by kernel_rfl) (by kernel_rfl) (λ_=>by kernel_rfl) (λ_=>by kernel_rfl) (λ_=>by kernel_rfl) gH Tryz.underlying66 (by unfold maxLen;omega) (tq (by omega) (by omega)) (by rw [Io hb.2.2.1];rfl) (GQ hb.2.2.1 x) (NN (ah.seq (ah.tV 13 (by kernel_rfl) (by kernel_rfl) (iL.seg (k':=9) (fr':=[(6,vI ((least us))),(49,vP t),(53,vI (ar)),(57,.map (some m))]) (cG:=[t=t,t=t]) [o_,o_,o_,o_,⟨[.at 0],none,none,none,none⟩,o_,o_,o_,⟨[.at 0],none,none,none,none⟩] [6,49,53,57] (λ_ _=>by kernel_rfl) ⟨rfl,rfl,trivial⟩ (by decide) (iL.yB 3 (d:=(some 58)) (t:=66) (K:=3) (E:=70) (b:=m) (cnt:=(us.length+1)) (f:=(br (ins (least us) x us))) (x:=(.tmp 57)) (ats:=#[66]) (λ_=>by kernel_rfl) (by kernel_rfl) (λ_=>by kernel_rfl) rfl Tryz.underlying66 (by decide) (iL.seg (k':=13) (fr':=[(6,vI ((least us))),(59,vI ((max ar ((us.length:Int)+1)))),(61,.pointer (some ⟨t,1,none⟩))]) (cG:=[(Value.int .i64 (if (((us.length+1):Nat):Int)>ar then (((us.length+1):Nat):Int) else ar))=(.int .i64 ((max ar ((us.length:Int)+1))))]) [⟨[],none,none,none,some (vI ((max ar ((us.length:Int)+1))))⟩,o_,o_] [6,59,61] (λ_ _=>by kernel_rfl) ⟨by rw [PE];rfl,trivial⟩ (by decide) (iL.done rfl (jC 1 [] [(0,a_ 0 t)] [(0,[(1,vI ((max ar ((us.length:Int)+1))))])] (NS (jK 3 [4,5] [] (NN (ah.ret (aj.dX [(3,.abs (aY Tryz.prog 3 m (br (ins (least us) x us)) ((ins (least us) x us).length)))] (λw hS=>by rw [iU];exact hS) (aj.mem (λw hS=>Sat.oQ (l:=[.abs R]) ⟨m,some ⟨g,0,none⟩,c,l2,next⟩ (show iV (next) l2 ((ins (least us) x us)) most ((max ar ((us.length:Int)+1))) from ⟨by rw [hT.ti.Fc (by omega)];exact hT.ti.UN (by omega) x (by omega) hp2 hi2 hm2,by rw [iU];omega,by omega,by omega,by omega,by omega⟩) (hS.pick (idx:=[2,0,3,1]) (l':=[.abs R]++oP 140 t most ((max ar ((us.length:Int)+1))) ((ins (least us) x us)) ⟨m,some ⟨g,0,none⟩,c,l2,next⟩) rfl rfl)) (RT _ [1,0] (⟨rfl,rfl⟩))))))))))))))))))))
 refine ah.region ?_
 have hl0:l=[]:=List.eq_nil_of_length_eq_zero (by omega)
 have hl1:l.length=0:=by rw [hl0];rfl
 have hl2:TI next [] us:=hl0 ▸ hT.ti
 exact jC 8 [] [(3,a_ 1 t),(4,wI (next+1) ((next+1))),(7,a_ 1 t)] [(1,[(4,vI ((next+1)))])] (NS (sl 6 (.int .i64 (next)) (.int .i64 ((least us))) (by rw [hl2.Fb]) (jK 6 [46,47,48] [(3,a_ 1 t)] (ai.pY 2 (d:=none) (t:=66) (K:=3) (E:=70) (b:=m) (n:=us.length) (f:=(br us)) (x:=(.tmp 46)) (ix:=(.tmp 47)) (y:=(.tmp 48)) (key:=.int .i64 ((least us))) (u:=x) (kl:=(.int .i64 (least us))) (n':=(us.length+1)) (f':=(br (ins (least us) x us))) (λ_=>by kernel_rfl) (by kernel_rfl) (λ_=>by kernel_rfl) (λ_=>by kernel_rfl) (λ_=>by kernel_rfl) gH Tryz.underlying66 (by unfold maxLen;omega) (tq (by omega) (by omega)) (by rw [Io hb.2.2.1];rfl) (GQ hb.2.2.1 x) (NN (ah.seq (ah.tV 13 (by kernel_rfl) (by kernel_rfl) (iL.seg (k':=9) (fr':=[(6,vI ((least us))),(49,vP t),(53,vI (ar)),(57,.map (some m))]) (cG:=[t=t,t=t]) [o_,o_,o_,o_,⟨[.at 1],none,none,none,none⟩,o_,o_,o_,⟨[.at 1],none,none,none,none⟩] [6,49,53,57] (λ_ _=>by kernel_rfl) ⟨rfl,rfl,trivial⟩ (by decide) (iL.yB 2 (d:=(some 58)) (t:=66) (K:=3) (E:=70) (b:=m) (cnt:=(us.length+1)) (f:=(br (ins (least us) x us))) (x:=(.tmp 57)) (ats:=#[66]) (λ_=>by kernel_rfl) (by kernel_rfl) (λ_=>by kernel_rfl) rfl Tryz.underlying66 (by decide) (iL.seg (k':=13) (fr':=[(6,vI ((least us))),(59,vI ((max ar ((us.length:Int)+1)))),(61,.pointer (some ⟨t,1,none⟩))]) (cG:=[(Value.int .i64 (if (((us.length+1):Nat):Int)>ar then (((us.length+1):Nat):Int) else ar))=(.int .i64 ((max ar ((us.length:Int)+1))))]) [⟨[],none,none,none,some (vI ((max ar ((us.length:Int)+1))))⟩,o_,o_] [6,59,61] (λ_ _=>by kernel_rfl) ⟨by rw [PE];rfl,trivial⟩ (by decide) (iL.done rfl (jC 1 [] [(0,a_ 1 t)] [(1,[(1,vI ((max ar ((us.length:Int)+1))))])] (NS (jK 3 [4,5] [] (NN (ah.ret (aj.dX [(2,.abs (aY Tryz.prog 3 m (br (ins (least us) x us)) ((ins (least us) x us).length)))] (λw hS=>by rw [iU];exact hS) (aj.mem (λw hS=>Sat.oQ (l:=[.abs R]) ⟨m,A,c,l,(next+1)⟩ (show iV ((next+1)) l ((ins (least us) x us)) most ((max ar ((us.length:Int)+1))) from ⟨by rw [hl2.Fb,hl0];exact hl2.UM x,by rw [iU];omega,by omega,by omega,by omega,by omega⟩) (hS.pick (idx:=[0,1,2,3]) (l':=[.abs R]++oP 140 t most ((max ar ((us.length:Int)+1))) ((ins (least us) x us)) ⟨m,A,c,l,(next+1)⟩) rfl rfl)) (RT _ [1,0] (⟨rfl,rfl⟩))))))))))))))))))))
theorem Iq {β:Bs} (t:Nat) (most ar:Int) (us:Used Value) (h:Int) (hw:(Lit.int .i64 h).wf=true) (x:Value) (hg:ak.get us h=some x) :
 Spec Tryz.prog β 130 #[vP t,vI (h)] [.abs (cX 140 t most ar us)] (λv l=>v=.tuple #[x,vI 0]/\l=[.abs (cX 140 t most ar (del h us))]):=by
 refine SE Tryz.func130 Tryz.ntmps130 (λR=>SR (jK 2 [] [] (NS (jK 2 [9,10] [] (gE [0] (oR t most ar us h hw x hg) (jK 5 [6,7] [] (NZ (jK 2 [15] [] (NT (ah.seq (ah.Ed (Φ:=λx:TX=>iV x.next x.l us most ar) (hp:=λx=>[.abs R]++oP 140 t most ar us x) (λw hS=>(hS.pick (idx:=[1,0]) (l':=[.abs R]++[.abs (cX 140 t most ar us)]) rfl rfl).tC) (λx0 hT=>?_))))))))))))
 obtain⟨m,A,c,l,next⟩:=x0
 replace hT:iV next l us most ar:=hT
 have hb:=hT.KG
 have hm0:=hT.vw
 have hm1:=hT.vz
 have hn1:=hT.vA
 have hn2:=hT.zD
 have KL:=hT.xA
 have Oe:=hT.ti.count
 have hk:=get_some hg
 show ah _ _ _ _ _ [.abs R,.blk t [vI (most),vI (ar),.map (some m),.slice A (l.length) (c),vI (next)] 140,.abs (aY Tryz.prog 3 m (br us) us.length),.abs (aq 3 1 A l.length c (ints l))] _
 refine ah.region (jK 5 [19,20] [(3,a_ 1 t)] (ai.EW 2 (d:=none) (t:=66) (K:=3) (E:=70) (b:=m) (n:=us.length) (f:=(br us)) (x:=(.tmp 19)) (ix:=(.tmp 20)) (key:=.int .i64 (h)) (kl:=(.int .i64 h)) (n':=(us.length-1)) (f':=(br (del h us))) (ats:=#[66,3]) (λ_=>by kernel_rfl) (by kernel_rfl) (λ_=>by kernel_rfl) (λ_=>by kernel_rfl) rfl gH Tryz.underlying66 (lu hw) (by rw [show br us (.int .i64 h)=some x from hg];rfl) (Ob) (NN (ah.region (jK 6 [24,26] [] (gL (args:=#[.iface 199 (.pointer (some ⟨t,3,none⟩)),.iface 3 (.int .i64 (h))]) (pre:=[.blk t [vI (most),vI (ar),.map (some m),.slice A (l.length) (c),vI (next)] 140,.abs (aq 3 1 A l.length c (ints l))]) [1,3] (X6 h hT.ti.heap (by omega)) ?_))))))
 rintro _ _ ⟨rfl,g,c',l2,hsm,hp2,rfl⟩
 refine NS (jK 4 [4,5] [] (NN (ah.ret ?_)))
 have hld:=tA hT.ti.rise hk
 exact aj.dX [(3,.abs (aY Tryz.prog 3 m (br (del h us)) ((del h us).length)))] (λw hS=>by rw [show (del h us).length=us.length-1 by omega];exact hS) (aj.mem (λw hS=>Sat.oQ (l:=[.abs R]) ⟨m,some ⟨g,0,none⟩,c',l2,next⟩ (show iV (next) l2 ((del h us)) most (ar) from ⟨hT.ti.drop hk hsm hp2,by omega,hm1,hn1,hn2,KL⟩) (hS.pick (idx:=[2,0,3,1]) (l':=[.abs R]++oP 140 t most (ar) ((del h us)) ⟨m,some ⟨g,0,none⟩,c',l2,next⟩) rfl rfl)) (RT _ [1,0] (⟨rfl,rfl⟩)))
theorem Nf {β:Bs} (t:Nat) (most ar:Int) (us:Used Value) (h:Int) (hw:(Lit.int .i64 h).wf=true) (hg:ak.get us h=none) :
 Spec Tryz.prog β 130 #[vP t,vI (h)] [.abs (cX 140 t most ar us)] (λv l=>v=.tuple #[.nilIface,vI 131]/\l=[.abs (cX 140 t most ar us)]):=by
 exact SE Tryz.func130 Tryz.ntmps130 (λR=>SR (jK 2 [] [] (NS (jK 2 [9,10] [] (gE [0] (uo t most ar us h hw hg) (jK 5 [6,7] [] (NZ (jK 2 [15] [] (NF (KX (zR ⟨rfl,rfl⟩)))))))))))
theorem KM {β:Bs} (t:Nat) (most ar:Int) (us:Used Value) :
 Spec Tryz.prog β 101 #[vP t] [.abs (cX 140 t most ar us)] (λv l=>∃A c,v=.slice A (keys us).length c/\l=[.abs (cX 140 t most ar us),.abs (aq 3 1 A (keys us).length c (ints (keys us)))]):=by
 refine SE Tryz.func101 Tryz.ntmps101 (λR=>ah.seq (ah.Ed (Φ:=λx:TX=>iV x.next x.l us most ar) (hp:=λx=>[.abs R]++oP 140 t most ar us x) (λw hS=>(hS.pick (idx:=[1,0]) (l':=[.abs R]++[.abs (cX 140 t most ar us)]) rfl rfl).tC) (λx hT=>?_)))
 obtain⟨m,A,c,l,next⟩:=x
 replace hT:iV next l us most ar:=hT
 have hb:=hT.KG
 have hm0:=hT.vw
 have hm1:=hT.vz
 have hn1:=hT.vA
 have hn2:=hT.zD
 have KL:=hT.xA
 have Oe:=hT.ti.count
 show ah _ _ _ _ _ [.abs R,.blk t [vI (most),vI (ar),.map (some m),.slice A (l.length) (c),vI (next)] 140,.abs (aY Tryz.prog 3 m (br us) us.length),.abs (aq 3 1 A l.length c (ints l))] _
 refine ah.region (jK 1 [] [] (NS (jK 4 [6] [(3,a_ 1 t)] (gX [] (KI (some m)) (λbk=>gL [3,0] (Ff m bk us.length (br us) (by omega)) ?_)))))
 rintro _ _ ⟨A2,c2,ss,rfl,hks,hsl,rfl⟩
 refine jK 1 [2] [] (NN (ah.ret ?_))
 have hkk:=Od hT.ti.rise hks
 exact aj.mem (λw hS=>Sat.oQ (l:=[.abs R,.abs (aq 3 1 A2 ss.length c2 (ints ss))]) ⟨m,A,c,l,next⟩ (show iV (next) l (us) most (ar) from hT) (hS.pick (idx:=[3,2,4,0,5]) (l':=[.abs R,.abs (aq 3 1 A2 ss.length c2 (ints ss))]++oP 140 t most (ar) (us) ⟨m,A,c,l,next⟩) rfl rfl)) (RT (l:=[.abs (cX 140 t most ar us),.abs (aq 3 1 A2 ss.length c2 (ints ss))]) (.slice A2 (ss.length) (c2)) [2,1,0] (⟨A2,c2,by rw [hkk],by rw [hkk]⟩))
end
section
open Go.RowKit Go.Maps aR ak
theorem Spec.uQ {P:Program} {β:Bs} {f:FuncId} {args:Array Value} {pre R:List HP} {post:Value->List HP->Prop} (h:∀β':Bs,oK β R β'->Spec P β' f args pre post):Spec P β f args (pre++R) (λv l=>∃l0,post v l0/\l=l0++R):=by
 intro A w hS
 have h1:=Sat.turn hS
 rw [←List.append_assoc] at h1
 obtain⟨β',g1,_,g3⟩:=h1.uQ
 refine (h β' g1 A w (Sat.turn g3)).mono ?_
 rintro e w' ⟨v,l,h1,h2,h3⟩
 refine⟨v,l++R,h1,⟨l,h2,rfl⟩,?_⟩
 have h4:=g1.back (Sat.turn h3)
 rw [List.append_assoc] at h4
 exact Sat.turn h4
def bw (L:HL) (us:Used Th):Used Value:=us.map λq=>(q.1,eG L q.2)
theorem ij (L:HL) (us:Used Th) (h:Int):br (bw L us) (.int .i64 h)=(ak.get us h).map (eG L):=get_map (eG L) us h
theorem GR {L:HL} {us:Used Th} {h:Int}:o4 (br (bw L us)) (.int .i64 h) none=br (bw L (del h us)):=by
 rw [Ob]
 exact congrArg br (GP (eG L) h us).symm
theorem tD (L:HL) (us:Used Th):(bw L us).length=us.length:=List.length_map ..
theorem Ef (L:HL) (us:Used Th):keys (bw L us)=keys us:=keys_map (eG L) us
def qu (O:bZ) (k:Nat):bZ:=ay O k (λo=>{o with gone:=true})
def qY (O:bZ) (t:Th):Prop:=(obj O t.k).gone=true/\(obj O t.k).opens=0
instance (O:bZ) (t:Th):Decidable (qY O t):=inferInstanceAs (Decidable (_/\_))
def iM (O:bZ) (idx:Used Th) (t:Th):Used Th:=if qY O t then del (obj O t.k).id idx else idx
def mX (O:bZ) (used:Int) (t:Th):Int:=if qY O t then if t.kind=1 then used-(obj O t.k).data.length else used else used
abbrev pF (f m t:Nat) (X:FM):HP:=.blk f [.int .i64 X.cN,.int .i64 X.cB,.int .i64 X.cH,.int .i64 X.cS,.int .i64 X.cZ,.map (some m),.pointer (some ⟨t,0,none⟩),.int .i64 X.last,.int .i64 X.af,.int .i64 X.used] 72
abbrev pI (m:Nat) (L:HL) (us:Used Th):HP:=.abs (aY Tryz.prog 3 m (br (bw L us)) us.length)
abbrev pT (t:Nat) (most ar:Int) (L:HL) (us:Used Th):HP:=.abs (cX 140 t most ar (bw L us))
abbrev pO (O:bZ) (L:HL):HP:=.abs (ax (ct O L))
abbrev pD (O:bZ) (L:HL):HP:=.abs (ax (bQ O L))
abbrev pE (O:bZ) (L:HL):HP:=.abs (ax (di O L))
end
section
open Go.RowKit Go.Maps aR ak
structure aK where
 X:FM
 O:bZ
 idx:Used Th
 us:Used Th
 ar:Int
abbrev pA (f m t:Nat) (L:HL) (S:aK):List HP:=[pF f m t S.X,pI m L S.idx,pT t S.X.cH S.ar L S.us,pO S.O L,pD S.O L,pE S.O L]
structure aD where
 op:Int
 handle:Int
 other:Int
 name:ByteArray
 text:ByteArray
 dA:Option Addr
 dC:Nat
 data:List UInt8
 mode:Int
 uid:Int
 gid:Int
 sec:Int
 nano:Int
 code:Int
 answer:Int
def aO (c:aD):List Value:=[.int .i64 c.op,.int .i64 c.handle,.int .i64 c.other,.string c.name,.string c.text,.slice c.dA c.data.length c.dC,.int .i64 c.mode,.int .i64 c.uid,.int .i64 c.gid,.int .i64 c.sec,.int .i64 c.nano,.int .i64 c.code,.int .i64 c.answer]
abbrev pC (cb:Nat) (c:aD):HP:=.blk cb (aO c) 48
abbrev c0 (c:aD):aD:={c with answer:=0,code:=230}
def abZ (L:HL):Except Int Nat->Value
 |.error e=>.tuple #[.pointer none,.int .i64 e]
 |.ok d=>.tuple #[.pointer (some ⟨L.b d,0,none⟩),.int .i64 0]
def ab0 (L:HL):Except Int Th->Value
 |.error e=>.tuple #[.nilIface,.int .i64 e]
 |.ok t=>.tuple #[eG L t,.int .i64 0]
noncomputable section
def dZ (O:bZ) (us:Used Th) (h:Int) (name:ByteArray) (need:Int):Except Int Nat:=
 match ak.get us h with
 |none=>.error 131
 |some t=>
   if t.kind=2 then
    if (obj O t.k).gone=true then .error 170
    else if aS name then if bits BinOp.and .i64 (obj O t.k).mode need=need then .ok t.k else .error 175
    else .error 95
   else .error 173
def iP (s:ByteArray):Int:=
 if s=⟨#[]⟩ then 90 else if s.size>4096 then 93 else if nW s then 0 else 91
def Room (X:FM) (idx:Used Th):Prop:=(idx.length:Int)<X.cN/\X.last<1099511627776/\X.af<8192
instance (X:FM) (idx:Used Th):Decidable (Room X idx):=inferInstanceAs (Decidable (_/\_/\_))
def dH (X:FM) (O:bZ) (idx:Used Th) (d:Nat) (name:ByteArray):Int:=
 if aH name (obj O d).af=none then if Room X idx then 0 else 177 else 171
def aZ (X:FM) (kind mode:Int):aI:=⟨X.last+1,mode,0,0,X.cS,X.cZ,0,0,false,kind,[],⟨#[]⟩,[],none⟩
def aE (X:FM):Nat:=(X.last+1).toNat
def dr (S:aK) (d:Nat) (name:ByteArray) (o:aI):aK:=
 {S with
   X:={S.X with last:=S.X.last+1,af:=S.X.af+1}
   O:=bB S.X (ay S.O (aE S.X) (λ_=>o)) d name ⟨aE S.X,o.kind⟩
   idx:=ins (S.X.last+1) ⟨aE S.X,o.kind⟩ S.idx}
def aB (S:aK) (d:Nat) (name:ByteArray) (t:Th):aK:=
 {S with
   X:={S.X with af:=S.X.af-1,used:=if (obj (aC S.X S.O d name t) t.k).links=0 then mX (qu (aC S.X S.O d name t) t.k) S.X.used t else S.X.used}
   O:=if (obj (aC S.X S.O d name t) t.k).links=0 then qu (aC S.X S.O d name t) t.k else aC S.X S.O d name t
   idx:=if (obj (aC S.X S.O d name t) t.k).links=0 then iM (qu (aC S.X S.O d name t) t.k) S.idx t else S.idx}
theorem uq {S:aK} {d:Nat} {name:ByteArray} {t:Th} (h:(obj (aC S.X S.O d name t) t.k).links=0):aB S d name t={S with X:={S.X with af:=S.X.af-1,used:=mX (qu (aC S.X S.O d name t) t.k) S.X.used t},O:=qu (aC S.X S.O d name t) t.k,idx:=iM (qu (aC S.X S.O d name t) t.k) S.idx t}:=by
 unfold aB
 simp only [if_pos h]
theorem ur {S:aK} {d:Nat} {name:ByteArray} {t:Th} (h:¬(obj (aC S.X S.O d name t) t.k).links=0):aB S d name t={S with X:={S.X with af:=S.X.af-1},O:=aC S.X S.O d name t}:=by
 unfold aB
 simp only [if_neg h]
def jI (S:aK) (d:Nat) (name:ByteArray) (mode:Int):Int×aK:=
 if dH S.X S.O S.idx d name=0 then (0,dr S d name (aZ S.X 2 mode)) else (dH S.X S.O S.idx d name,S)
def fY (S:aK) (d:Nat) (name text:ByteArray):Int×aK:=
 if iP text=0 then
  if dH S.X S.O S.idx d name=0 then (0,dr S d name {aZ S.X 3 511 with target:=text}) else (dH S.X S.O S.idx d name,S)
 else (iP text,S)
def eU (S:aK) (d:Nat) (name:ByteArray):Int×aK:=
 match aH name (obj S.O d).af with
 |none=>(170,S)
 |some t=>if t.kind=2 then (172,S) else (0,aB S d name t)
def orphan (O:bZ) (k:Nat):bZ:=ay O k (λo=>{o with up:=none})
def fT (S:aK) (d:Nat) (name:ByteArray):Int×aK:=
 match aH name (obj S.O d).af with
 |none=>(170,S)
 |some t=>if t.kind=2 then if (obj S.O t.k).af=[] then (0,{aB S d name t with O:=orphan (aB S d name t).O t.k}) else (178,S) else (173,S)
inductive pq (O:bZ) (sub:Nat):Nat->Prop
 |here:pq O sub sub
 |up {k j:Nat}:(obj O k).up=some j->pq O sub j->pq O sub k
instance (O:bZ) (sub k:Nat):Decidable (pq O sub k):=Classical.propDecidable _
def mB (S:aK) (d:Nat) (name:ByteArray) (to:Nat) (toName:ByteArray) (t:Th):aK:=
 {S with X:={S.X with af:=S.X.af-1+1},O:=bB S.X (aC S.X S.O d name t) to toName t}
def bF (S:aK) (d:Nat) (name:ByteArray) (to:Nat) (toName:ByteArray):Int×aK:=
 match aH name (obj S.O d).af with
 |none=>(170,S)
 |some t=>
   if t.kind=2/\pq S.O t.k to then (174,S)
   else match aH toName (obj S.O to).af with
    |none=>(0,mB S d name to toName t)
    |some o=>
      if o=t then (0,S) else if o.kind=2 then (172,S) else if t.kind=2 then (173,S)
      else (0,mB (aB S to toName o) d name to toName t)
def bR (X:FM) (n:Nat):Nat:=(min (n:Int) (X.cB-X.used)).toNat
def dL (S:aK) (k:Nat) (bs:List UInt8):Int×Int×aK:=
 if bs=[] then (0,0,S)
 else if S.X.cB-S.X.used<=0 then (0,176,S)
 else ((bR S.X bs.length:Int),0,{S with
  X:={S.X with used:=S.X.used+(bR S.X bs.length:Int)}
  O:=ay S.O k (λo=>{o with data:=o.data++bs.take (bR S.X bs.length),sec:=S.X.cS,nano:=S.X.cZ})})
def cu (S:aK) (t:Th):Int×Int×aK:=
 (if (S.us.length:Int)<S.X.cH then least S.us else 0,if (S.us.length:Int)<S.X.cH then 0 else 130,{S with
  O:=if (S.us.length:Int)<S.X.cH then ay S.O t.k (λo=>{o with opens:=o.opens+1}) else S.O
  us:=if (S.us.length:Int)<S.X.cH then ins (least S.us) t S.us else S.us
  ar:=if (S.us.length:Int)<S.X.cH then max S.ar ((S.us.length:Int)+1) else S.ar})
theorem j9 {S:aK} {t:Th} (h:(S.us.length:Int)<S.X.cH):cu S t=(least S.us,0,{S with O:=ay S.O t.k (λo=>{o with opens:=o.opens+1}),us:=ins (least S.us) t S.us,ar:=max S.ar ((S.us.length:Int)+1)}):=by
 unfold cu
 simp only [if_pos h]
theorem lM {S:aK} {t:Th} (h:¬(S.us.length:Int)<S.X.cH):cu S t=(0,130,S):=by
 unfold cu
 simp only [if_neg h]
abbrev qH:=Int×aK×aD
def iB (S:aK) (c:aD):qH:=
 match ak.get S.idx c.other with
 |none=>(141,S,c)
 |some t=>if t.kind=2 then ((cu S t).2.1,(cu S t).2.2,{c with answer:=(cu S t).1}) else (173,S,c)
def fC (O:bZ) (us:Used Th) (c:aD):Except Int Th:=
 match dZ O us c.handle c.name 64 with
 |.error e=>.error e
 |.ok d=>match aH c.name (obj O d).af with
   |none=>.error 170
   |some t=>.ok t
def dw (S:aK) (c:aD):qH:=
 match fC S.O S.us c with
 |.error e=>(e,S,c)
 |.ok t=>if t.kind=3 then (174,S,c) else if t.kind=1 then (173,S,c) else ((cu S t).2.1,(cu S t).2.2,{c with answer:=(cu S t).1})
def cQ (S:aK) (c:aD):qH:=
 match fC S.O S.us c with
 |.error e=>(e,S,c)
 |.ok t=>if t.kind=3 then (174,S,c) else if t.kind=2 then (172,S,c) else ((cu S t).2.1,(cu S t).2.2,{c with answer:=(cu S t).1})
def gS (m:Int):Prop:=0<=m/\m<=4095
instance (m:Int):Decidable (gS m):=inferInstanceAs (Decidable (_/\_))
def eY (S:aK) (c:aD):qH:=
 match dZ S.O S.us c.handle c.name 192 with
 |.error e=>(e,S,c)
 |.ok d=>if gS c.mode then ((jI S d c.name c.mode).1,(jI S d c.name c.mode).2,c) else (120,S,c)
def kY (S:aK) (d:Nat) (name:ByteArray) (mode:Int):Int×Int×aK:=
 if dH S.X S.O S.idx d name=0 then
  if (S.us.length:Int)<S.X.cH then
   (least S.us,0,dr {S with us:=ins (least S.us) ⟨aE S.X,1⟩ S.us,ar:=max S.ar ((S.us.length:Int)+1)} d name {aZ S.X 1 mode with opens:=1})
  else (0,130,S)
 else (0,dH S.X S.O S.idx d name,S)
def cE (S:aK) (c:aD):qH:=
 match dZ S.O S.us c.handle c.name 192 with
 |.error e=>(e,S,c)
 |.ok d=>if gS c.mode then
  if dH S.X S.O S.idx d c.name=0 then ((kY S d c.name c.mode).2.1,(kY S d c.name c.mode).2.2,{c with answer:=(kY S d c.name c.mode).1})
  else (dH S.X S.O S.idx d c.name,S,c)
  else (120,S,c)
def dR (S:aK) (c:aD):qH:=
 match dZ S.O S.us c.handle c.name 192 with
 |.error e=>(e,S,c)
 |.ok d=>((fY S d c.name c.text).1,(fY S d c.name c.text).2,c)
def kr (S:aK) (d:Nat) (name:ByteArray) (to:Nat) (toName:ByteArray):Int×aK:=
 match aH name (obj S.O d).af with
 |none=>(170,S)
 |some t=>if t.kind=2 then (172,S)
   else if aH toName (obj S.O to).af=none then
    if S.X.af<8192 then (0,{S with X:={S.X with af:=S.X.af+1},O:=bB S.X S.O to toName t}) else (177,S)
   else (171,S)
def bU (S:aK) (c:aD):qH:=
 match dZ S.O S.us c.handle c.name 64 with
 |.error e=>(e,S,c)
 |.ok d=>match dZ S.O S.us c.other c.text 192 with
   |.error e=>(e,S,c)
   |.ok to=>((kr S d c.name to c.text).1,(kr S d c.name to c.text).2,c)
def fD (S:aK) (c:aD):qH:=
 match dZ S.O S.us c.handle c.name 192 with
 |.error e=>(e,S,c)
 |.ok d=>((eU S d c.name).1,(eU S d c.name).2,c)
def gA (S:aK) (c:aD):qH:=
 match dZ S.O S.us c.handle c.name 192 with
 |.error e=>(e,S,c)
 |.ok d=>((fT S d c.name).1,(fT S d c.name).2,c)
def eF (S:aK) (c:aD):qH:=
 match dZ S.O S.us c.handle c.name 192 with
 |.error e=>(e,S,c)
 |.ok d=>match dZ S.O S.us c.other c.text 192 with
   |.error e=>(e,S,c)
   |.ok to=>((bF S d c.name to c.text).1,(bF S d c.name to c.text).2,c)
def dM (S:aK) (c:aD):qH:=
 match ak.get S.us c.handle with
 |none=>(131,S,c)
 |some t=>if t.kind=1 then ((dL S t.k c.data).2.1,(dL S t.k c.data).2.2,{c with answer:=(dL S t.k c.data).1}) else (172,S,c)
def mY (m:Int):Prop:=0<=m/\m<=2147483647
instance (m:Int):Decidable (mY m):=inferInstanceAs (Decidable (_/\_))
def bA (S:aK) (c:aD):qH:=
 match ak.get S.us c.handle with
 |none=>(131,S,c)
 |some t=>
   if (obj S.O t.k).gone=true/\t.kind=2 then (170,S,c)
   else if gS c.mode then
    if mY c.uid/\mY c.gid then
     if dz c.sec c.nano then (0,{S with O:=ay S.O t.k (λo=>{o with mode:=c.mode,uid:=c.uid,gid:=c.gid,sec:=c.sec,nano:=c.nano})},c)
     else (20,S,c)
    else (11,S,c)
   else (120,S,c)
def kM (O:bZ) (c:aD):Option Th->aD
 |none=>{c with other:=0,mode:=0,uid:=0,gid:=0,sec:=0,nano:=0}
 |some t=>{c with answer:=(obj O t.k).id,other:=t.kind,mode:=(obj O t.k).mode,uid:=(obj O t.k).uid,gid:=(obj O t.k).gid,sec:=(obj O t.k).sec,nano:=(obj O t.k).nano}
def jZ (S:aK) (c:aD):qH:=
 match ak.get S.us c.handle with
 |none=>(131,S,kM S.O c none)
 |some t=>(0,S,kM S.O c (some t))
def fI (S:aK) (c:aD):qH:=
 match fC S.O S.us c with
 |.error e=>(e,S,kM S.O c none)
 |.ok t=>(0,S,kM S.O c (some t))
def qI (O:bZ) (k:Nat):bZ:=ay O k (λo=>{o with opens:=o.opens-1})
def gq (S:aK) (c:aD):qH:=
 match ak.get S.us c.handle with
 |none=>(131,S,c)
 |some t=>(0,{S with
  X:={S.X with used:=mX (qI S.O t.k) S.X.used t}
  O:=qI S.O t.k
  idx:=iM (qI S.O t.k) S.idx t
  us:=del c.handle S.us},c)
def fe (S:aK) (c:aD):qH:=
 if c.op=1 then iB S c else if c.op=2 then dw S c else if c.op=3 then cQ S c else if c.op=4 then eY S c
 else if c.op=5 then cE S c else if c.op=6 then dR S c else if c.op=7 then bU S c else if c.op=8 then fD S c
 else if c.op=9 then dM S c else if c.op=10 then bA S c else if c.op=11 then jZ S c else if c.op=12 then fI S c
 else if c.op=13 then gq S c else if c.op=14 then gA S c else if c.op=15 then eF S c else (230,S,c)
def iH (S:aK) (c:aD):aK×aD:=
 ((fe S {c with answer:=0,code:=230}).2.1,{ (fe S {c with answer:=0,code:=230}).2.2 with code:=(fe S {c with answer:=0,code:=230}).1})
end
end
section
open Go.RowKit Go.Maps aR ak
section sums
variable {V:Type} {g g':Int×V->Nat} {us:Used V} {h:Int} {v:V}
def dU (g:Int×V->Nat):Used V->Nat
 |[]=>0
 |p::r=>g p+dU g r
theorem Eg:dU g (ins h v us)=g (h,v)+dU g us:=by
 induction us with
 |nil=>rfl
 |cons p r ih=>
   grind [ins,dU]
theorem iW (hc:∀p∈us,g' p=g p):dU g' us=dU g us:=by
 induction us with
 |nil=>rfl
 |cons p r ih=>
   grind [dU]
theorem Og (hc:∀p∈us,g' p<=g p):dU g' us<=dU g us:=by
 induction us with
 |nil=>exact Nat.le_refl _
 |cons p r ih=>
   grind [dU]
theorem wq {p:Int×V} {r:Used V}:ak.get (p::r) h=if p.1=h then some p.2 else ak.get r h:=by
 unfold ak.get
 grind
theorem get_mem {us:Used V} (e:ak.get us h=some v):(h,v)∈us:=by
 induction us with
 |nil=>cases e
 |cons p r ih=>
   grind [wq]
theorem kZ {us:Used V} (hr:ak.bK (keys us)) (e:(h,v)∈us):ak.get us h=some v:=by
 induction us with
 |nil=>cases e
 |cons p r ih=>
   rw [keys_cons] at hr
   obtain⟨h1,h2⟩:=List.pairwise_cons.1 hr
   rw [wq]
   rcases List.mem_cons.1 e with e|e
   ·subst e;rw [if_pos rfl]
   have:p.1<h:=h1 h (List.mem_map.2 ⟨(h,v),e,rfl⟩)
   rw [if_neg (by omega)]
   exact ih h2 e
theorem pH (e:ak.get us h=some v):g (h,v)<=dU g us:=by
 have hm:=get_mem e
 induction us with
 |nil=>cases hm
 |cons p r ih=>
   grind [dU,wq]
theorem Eh (hr:ak.bK (keys us)) (e:ak.get us h=some v) (hc:∀p∈us,p.1≠h->g' p=g p):dU g' us+g (h,v)=dU g us+g' (h,v):=by
 induction us with
 |nil=>cases e
 |cons p r ih=>
   rw [keys_cons] at hr
   obtain⟨h1,h2⟩:=List.pairwise_cons.1 hr
   rw [wq] at e
   show g' p+dU g' r+_=g p+dU g r+_
   split at e
   ·rename_i e2
    cases e
    have e3:dU g' r=dU g r:=iW (λq hq=>hc q (List.mem_cons_of_mem _ hq) (by
     have:=h1 q.1 (List.mem_map.2 ⟨q,hq,rfl⟩);omega))
    grind
   rename_i e2
   have:=ih h2 e (λq hq=>hc q (List.mem_cons_of_mem _ hq))
   have:=hc p (List.mem_cons_self ..) e2
   omega
theorem UO {p:Int×V} {r:Used V}:del h (p::r)=if p.1=h then del h r else p::del h r:=by
 grind [del]
theorem X7 {us:Used V} (hn:h∉keys us):del h us=us:=by
 unfold del
 refine List.filter_eq_self.2 (λp hp=>?_)
 grind [keys,del]
theorem Ei (hr:ak.bK (keys us)) (e:ak.get us h=some v):dU g (del h us)+g (h,v)=dU g us:=by
 induction us with
 |nil=>cases e
 |cons p r ih=>
   rw [keys_cons] at hr
   obtain⟨h1,h2⟩:=List.pairwise_cons.1 hr
   rw [wq] at e
   rw [UO]
   show _=g p+dU g r
   split at e
   ·grind [X7]
   rename_i e2
   rw [if_neg e2]
   show g p+dU g (del h r)+_=_
   have:=ih h2 e
   omega
theorem KN {us:Used V} (hr:ak.bK (keys us)):ak.bK (keys (del h us)):=by
 rw [rf]
 exact List.Pairwise.filter _ hr
end sums
section ab1
variable {n:ByteArray} {t:Th} {es:fP Th} {q:ByteArray×Th->Bool}
theorem RG:(iz n t es).countP q=es.countP q+if q (n,t) then 1 else 0:=by
 induction es with
 |nil=>simp [iz,List.countP_cons]
 |cons e r ih=>
   grind [iz]
theorem RH {es:fP Th} (hd:mP es) (h:aH n es=some t):(iF n es).countP q+(if q (n,t) then 1 else 0)=es.countP q:=by
 induction es with
 |nil=>cases h
 |cons e r ih=>
   obtain⟨h1,h2⟩:=List.pairwise_cons.1 hd
   rw [mW] at h
   rw [List.countP_cons]
   by_cases he:e.1=n
   ·rw [if_pos he] at h
    have e1:iF n (e::r)=r:=by
     unfold iF
     rw [List.filter_cons,if_neg (by simp [he])]
     exact List.filter_eq_self.2 (λx hx=>by grind)
    grind
   grind [iF,mP,aH]
theorem KO {e:ByteArray×Th} {es:fP Th} (h:e∈iF n es):e∈es/\e.1≠n:=by
 grind [iF]
theorem wu {es:fP Th} (hd:mP es) (h:(n,t)∈es):aH n es=some t:=by
 induction es with
 |nil=>cases h
 |cons e r ih=>
   obtain⟨h1,h2⟩:=List.pairwise_cons.1 hd
   grind [mW,mP,aH]
end ab1
def Live (idx:Used Th) (t:Th):Prop:=ak.get idx (t.k:Int)=some t
def mD (es:fP Th):Prop:=es.Pairwise (λa b=>¬fM b.1 a.1)
def j3 (idx:Used Th) (O:bZ) (k:Nat):Nat:=dU (λp=>(obj O p.2.k).af.countP (λe=>decide (e.2.k=k))) idx
def tot (idx:Used Th) (O:bZ):Nat:=dU (λp=>(obj O p.2.k).af.length) idx
def bytes (idx:Used Th) (O:bZ):Nat:=dU (λp=>(obj O p.2.k).data.length) idx
def hnd (us:Used Th) (k:Nat):Nat:=dU (λp=>if p.2.k=k then 1 else 0) us
structure om (o:aI):Prop where
 mode:0<=o.mode/\o.mode<=4095
 uid:0<=o.uid/\o.uid<=2147483647
 gid:0<=o.gid/\o.gid<=2147483647
 time:dz o.sec o.nano
 data:o.kind≠1->o.data=[]
 af:o.kind≠2->o.af=[]
 target:bJ o.kind o.target
structure Inv0 (S:aK):Prop where
 cN:0<=S.X.cN/\S.X.cN<=4096
 cB:0<=S.X.cB/\S.X.cB<=1099511627776
 cH:0<=S.X.cH/\S.X.cH<=1024
 now:dz S.X.cS S.X.cZ
 last:0<=S.X.last/\S.X.last<=1099511627776
 rise:ak.bK (keys S.idx)
 len:S.idx.length<=4096
 idx:∀i t,ak.get S.idx i=some t->i=(t.k:Int)/\0<i/\i<=S.X.last
 ob:∀t,Live S.idx t->(obj S.O t.k).id=(t.k:Int)/\(obj S.O t.k).kind=t.kind/\(t.kind=1\/t.kind=2\/t.kind=3)
 mt:∀t,Live S.idx t->om (obj S.O t.k)
 af:∀t,Live S.idx t->∀e∈(obj S.O t.k).af,aS e.1/\Live S.idx e.2
 sorted:∀t,Live S.idx t->mD (obj S.O t.k).af
 dead:∀k,(∀t,Live S.idx t->t.k≠k)->(obj S.O k).af=[]/\(obj S.O k).up=none
 vB:∀k:Nat,S.X.last<(k:Int)->(obj S.O k).kind=0
 total:S.X.af=(tot S.idx S.O:Int)/\S.X.af<=8192
 links:∀t,Live S.idx t->(obj S.O t.k).links=(j3 S.idx S.O t.k:Int)
 once:∀t,Live S.idx t->t.kind=2->(obj S.O t.k).links<=1
 opens:∀t,Live S.idx t->(obj S.O t.k).opens=(hnd S.us t.k:Int)
 usr:ak.bK (keys S.us)
 uw:∀x∈keys S.us,1<=x/\x<=S.ar
 BL:(S.us.length:Int)<=S.X.cH
 ar:0<=S.ar/\S.ar<=S.X.cH
 us:∀h t,ak.get S.us h=some t->Live S.idx t/\t.kind≠3
 gone:∀t,Live S.idx t->(obj S.O t.k).gone=true->(obj S.O t.k).links=0/\(obj S.O t.k).af=[]
 up:∀t,Live S.idx t->∀d,(obj S.O t.k).up=some d↔t.kind=2/\Live S.idx ⟨d,2⟩/\∃n,aH n (obj S.O d).af=some t
 deep:∃dp:Nat->Nat,∀k d,(obj S.O k).up=some d->dp d<dp k
 used:S.X.used=(bytes S.idx S.O:Int)/\S.X.used<=140737488355328
structure Inv (S:aK):Prop extends Inv0 S where
 full:∀t,Live S.idx t->(obj S.O t.k).gone=true->0<(obj S.O t.k).opens
end
section
open Go.RowKit Go.Maps aR ak
section at_
variable {X:FM} {O:bZ} {d k:Nat} {name:ByteArray} {t:Th}
theorem iQ (h:t.k≠d):obj (aC X O d name t) k=if k=d then {obj O d with af:=iF name (obj O d).af,sec:=X.cS,nano:=X.cZ} else if k=t.k then {obj O k with links:=(obj O k).links-1} else obj O k:=by
 grind [aC,um,fQ,cO]
theorem p8 (h:t.k≠d):obj (bB X O d name t) k=if k=d then {obj O d with af:=iz name t (obj O d).af,sec:=X.cS,nano:=X.cZ} else if k=t.k then {obj O k with links:=(obj O k).links+1,up:=if t.kind=2 then some d else (obj O k).up} else obj O k:=by
 grind [bB,um,q8,cO,fQ]
end at_
section counts
variable {idx:Used Th} {O O':bZ} {d k:Nat} {n:ByteArray} {t:Th}
theorem KP {q:ByteArray×Th->Bool} (hr:ak.bK (keys idx)) (hd:ak.get idx (d:Int)=some ⟨d,2⟩) (hk:∀i u,ak.get idx i=some u->i=(u.k:Int)) (ho:∀x,x≠d->(obj O' x).af=(obj O x).af) (h1:(obj O' d).af=iF n (obj O d).af) (h2:mP (obj O d).af) (h3:aH n (obj O d).af=some t) :
 dU (λp=>(obj O' p.2.k).af.countP q) idx+(if q (n,t) then 1 else 0)=dU (λp=>(obj O p.2.k).af.countP q) idx:=by
 grind [Eh,obj,kZ,RH,iF,dU]
theorem UQ {q:ByteArray×Th->Bool} (hr:ak.bK (keys idx)) (hd:ak.get idx (d:Int)=some ⟨d,2⟩) (hk:∀i u,ak.get idx i=some u->i=(u.k:Int)) (ho:∀x,x≠d->(obj O' x).af=(obj O x).af) (h1:(obj O' d).af=iz n t (obj O d).af) :
 dU (λp=>(obj O' p.2.k).af.countP q) idx=dU (λp=>(obj O p.2.k).af.countP q) idx+(if q (n,t) then 1 else 0):=by
 grind [Eh,obj,kZ,RG,iz,dU]
theorem ux:tot idx O=dU (λp=>(obj O p.2.k).af.countP (λ_=>true)) idx:=iW (λp _=>by simp)
theorem RI {q:ByteArray×Th->Bool} (ho:∀x,(obj O' x).af=(obj O x).af):dU (λp=>(obj O' p.2.k).af.countP q) idx=dU (λp=>(obj O p.2.k).af.countP q) idx:=iW (λp _=>by rw [ho])
theorem RJ:j3 idx O k<=tot idx O:=by
 rw [ux]
 exact Og (λp _=>List.countP_mono_left (λ_ _ _=>rfl))
theorem oo (hd:ak.get idx (d:Int)=some ⟨d,2⟩) (h:aH n (obj O d).af=some t):0<j3 idx O t.k:=by
 exact Nat.lt_of_lt_of_le (List.countP_pos_iff.2 ⟨(n,t),oG h,by simp⟩) (pH (g:=λp=>(obj O p.2.k).af.countP (λe=>decide (e.2.k=t.k))) hd)
theorem Fg (hr:ak.bK (keys idx)) (h:0<j3 idx O k):∃i u,ak.get idx i=some u/\∃e∈(obj O u.k).af,e.2.k=k:=by
 apply Classical.byContradiction
 intro hn
 have:j3 idx O k=dU (λ_=>0) idx:=iW (λp hp=>by
  show List.countP _ _=0
  rw [List.countP_eq_zero]
  intro e he hk
  exact hn ⟨p.1,p.2,kZ hr hp,e,he,by simpa using hk⟩)
 have h0:∀us:Used Th,dU (λ_=>0) us=0:=λus=>by
  induction us with
  |nil=>rfl
  |cons p r ih=>show 0+_=0;rw [ih]
 rw [this,h0] at h
 omega
end counts
end
section
open Go.RowKit Go.Maps aR ak
section inv
variable {S:aK} {d k:Nat} {name:ByteArray} {t u:Th}
theorem Inv0.key (h:Inv0 S) {i:Int} (e:ak.get S.idx i=some t):i=(t.k:Int):=(h.idx i t e).1
theorem Inv0.live (h:Inv0 S) {i:Int} (e:ak.get S.idx i=some t):Live S.idx t:=by
 have:=h.key e
 subst this
 exact e
theorem gi {idx:Used Th} (h1:Live idx t) (h2:Live idx u) (e:t.k=u.k):t=u:=by
 grind [Live]
theorem Inv0.kind (h:Inv0 S) (hl:Live S.idx t):(obj S.O t.k).kind=t.kind:=(h.ob t hl).2.1
theorem PG {x:ByteArray}:fM x x:=by unfold fM;simp
theorem mD.twice {es:fP Th} (h:mD es):mP es:=List.Pairwise.imp (λ{a b} hab e=>hab (by rw [e];exact PG)) h
theorem Inv0.twice (h:Inv0 S) (hl:Live S.idx t):mP (obj S.O t.k).af:=(h.sorted t hl).twice
theorem Inv0.ent (h:Inv0 S) (hd:Live S.idx u) (hl:aH name (obj S.O u.k).af=some t):aS name/\Live S.idx t:=h.af u hd _ (oG hl)
theorem Inv0.ne (h:Inv0 S) (hd:Live S.idx ⟨d,2⟩) (hl:aH name (obj S.O d).af=some t):t.k≠d:=λe=>by
 have h1:=(h.ent hd hl).2
 have h2:t=⟨d,2⟩:=gi h1 hd e
 subst h2
 have h3:=(h.up _ hd d).2 ⟨rfl,hd,name,hl⟩
 obtain⟨dp,hdp⟩:=h.deep
 have:dp d<dp d:=hdp _ _ h3
 omega
theorem Inv0.free (h:Inv0 S) (hk:S.X.last<(k:Int)) (hl:Live S.idx t):t.k≠k:=λe=>by
 have:=(h.idx _ t hl).2.2
 subst e
 omega
theorem om.of {o o':aI} (h:om o) (e1:o'.mode=o.mode) (e2:o'.uid=o.uid) (e3:o'.gid=o.gid) (e4:dz o'.sec o'.nano) (e5:o'.kind=o.kind) (e6:o'.data=o.data\/o.kind=1) (e7:o'.af=o.af\/o.kind=2) (e8:o'.target=o.target):om o':=
 ⟨e1 ▸ h.mode,e2 ▸ h.uid,e3 ▸ h.gid,e4,λhk=>by
  rw [e5] at hk
  rcases e6 with e|e
  ·rw [e];exact h.data hk
  ·exact absurd e hk,λhk=>by
  rw [e5] at hk
  rcases e7 with e|e
  ·rw [e];exact h.af hk
  exact absurd e hk,by rw [e5,e8];exact h.target⟩
theorem Inv0.own (h:Inv0 S) {f:aI->aI} {pU iX:Int} {us':Used Th} (f1:∀o,(f o).id=o.id) (f2:∀o,(f o).kind=o.kind) (f3:∀o,(f o).af=o.af) (f4:∀o,(f o).up=o.up) (f5:∀o,(f o).links=o.links) (f6:∀o,(f o).gone=o.gone)
 (hm:∀t,Live S.idx t->t.k=k->om (f (obj S.O k))) (ho:∀t,Live S.idx t->(obj (ay S.O k f) t.k).opens=(hnd us' t.k:Int))
 (u1:ak.bK (keys us')) (u2:∀x∈keys us',1<=x/\x<=iX) (u3:(us'.length:Int)<=S.X.cH) (u4:0<=iX/\iX<=S.X.cH) (u5:∀h t,ak.get us' h=some t->Live S.idx t/\t.kind≠3)
 (hu:pU=(bytes S.idx (ay S.O k f):Int)/\pU<=140737488355328):Inv0 {S with X:={S.X with used:=pU},O:=ay S.O k f,us:=us',ar:=iX}:=by
 have g1:∀x,(obj (ay S.O k f) x).id=(obj S.O x).id:=λx=>cx (g:=aI.id) f1
 have g2:∀x,(obj (ay S.O k f) x).kind=(obj S.O x).kind:=λx=>cx (g:=aI.kind) f2
 have g3:∀x,(obj (ay S.O k f) x).af=(obj S.O x).af:=λx=>cx (g:=aI.af) f3
 have g4:∀x,(obj (ay S.O k f) x).up=(obj S.O x).up:=λx=>cx (g:=aI.up) f4
 have g5:∀x,(obj (ay S.O k f) x).links=(obj S.O x).links:=λx=>cx (g:=aI.links) f5
 have g6:∀x,(obj (ay S.O k f) x).gone=(obj S.O x).gone:=λx=>cx (g:=aI.gone) f6
 refine {h with ob:=λt hl=>?_,mt:=λt hl=>?_,af:=λt hl=>?_,sorted:=λt hl=>?_,dead:=λx hx=>?_,vB:=λx hx=>by rw [g2];exact h.vB x hx,total:=?_,links:=λt hl=>?_,once:=λt hl=>?_,opens:=ho,usr:=u1,uw:=u2,BL:=u3,ar:=u4,us:=u5,gone:=λt hl=>?_,up:=λt hl e=>?_,deep:=?_,used:=hu}
 ·rw [g1,g2];exact h.ob t hl
 ·show om (obj (ay S.O k f) t.k)
  by_cases e:t.k=k
  ·rw [e,cO];exact hm t hl e
  rw [fQ e];exact h.mt t hl
 ·rw [g3];exact h.af t hl
 ·rw [g3];exact h.sorted t hl
 ·rw [g3,g4];exact h.dead x hx
 ·have:tot S.idx (ay S.O k f)=tot S.idx S.O:=iW (λp _=>by rw [g3])
  show S.X.af=(tot S.idx (ay S.O k f):Int)/\_
  rw [this];exact h.total
 ·show (obj (ay S.O k f) t.k).links=(j3 S.idx (ay S.O k f) t.k:Int)
  have:j3 S.idx (ay S.O k f) t.k=j3 S.idx S.O t.k:=RI g3
  rw [g5,this];exact h.links t hl
 ·rw [g5];exact h.once t hl
 ·rw [g6,g5,g3];exact h.gone t hl
 ·grind [obj,ay,up,Live,aH]
 obtain⟨dp,hdp⟩:=h.deep
 exact⟨dp,λx e he=>hdp x e (by rw [g4] at he;exact he)⟩
def vC (S:aK) (t:Th):aK:={S with X:={S.X with used:=mX S.O S.X.used t},idx:=iM S.O S.idx t}
theorem Inv0.vC (h:Inv0 S) (ht:Live S.idx t) (hf:∀u,Live S.idx u->u≠t->(obj S.O u.k).gone=true->0<(obj S.O u.k).opens):Inv (Proofs.YtnipofpbcggjcaaGreatDoor.vC S t):=by
 by_cases hF:qY S.O t
 ·have e1:Proofs.YtnipofpbcggjcaaGreatDoor.vC S t={S with X:={S.X with used:=S.X.used-(obj S.O t.k).data.length},idx:=del (t.k:Int) S.idx}:=by
   unfold Proofs.YtnipofpbcggjcaaGreatDoor.vC mX iM
   rw [if_pos hF,if_pos hF,(h.ob t ht).1]
   split
   ·rfl
   rename_i e
   have:=(h.mt t ht).data (by rw [h.kind ht];exact e)
   rw [this]
   simp
  rw [e1]
  obtain⟨hg,hop⟩:=hF
  obtain⟨hlk,hen⟩:=h.gone t ht hg
  have iC:∀x,Live (del (t.k:Int) S.idx) x↔Live S.idx x/\x.k≠t.k:=λx=>by
   grind [Live,vJ]
  have hl0:j3 S.idx S.O t.k=0:=by have:=h.links t ht;omega
  have hne:∀x,Live S.idx x->∀e∈(obj S.O x.k).af,e.2.k≠t.k:=λx hx e he hk=>by
   have:0<j3 S.idx S.O t.k:=Nat.lt_of_lt_of_le (List.countP_pos_iff.2 ⟨e,he,by simpa using hk⟩) (pH (g:=λp=>(obj S.O p.2.k).af.countP (λe=>decide (e.2.k=t.k))) hx)
   omega
  have hsum:∀q:ByteArray×Th->Bool,dU (λp=>(obj S.O p.2.k).af.countP q) (del (t.k:Int) S.idx)=dU (λp=>(obj S.O p.2.k).af.countP q) S.idx:=λq=>by
   have h1:=Ei (g:=λp:Int×Th=>(obj S.O p.2.k).af.countP q) h.rise ht
   grind
  refine {h with rise:=KN h.rise,len:=?_,idx:=λi x e=>?_,ob:=λx hx=>h.ob x ((iC x).1 hx).1,mt:=λx hx=>h.mt x ((iC x).1 hx).1,af:=λx hx e he=>?_,sorted:=λx hx=>h.sorted x ((iC x).1 hx).1,dead:=λx hx=>?_,total:=?_,links:=λx hx=>?_,once:=λx hx=>h.once x ((iC x).1 hx).1,opens:=λx hx=>h.opens x ((iC x).1 hx).1,us:=λi x e=>?_,gone:=λx hx=>h.gone x ((iC x).1 hx).1,up:=λx hx e=>?_,used:=?_,full:=λx hx hg=>hf x ((iC x).1 hx).1 (λe=>((iC x).1 hx).2 (by rw [e])) hg}
  ·have h1:=tA h.rise (get_some ht)
   have h2:=h.len
   show (del (t.k:Int) S.idx).length<=4096
   omega
  ·have e:ak.get (del (t.k:Int) S.idx) i=some x:=e
   rw [vJ] at e
   split at e
   ·cases e
   exact h.idx i x e
  ·have hx':=((iC x).1 hx).1
   have h1:=h.af x hx' e he
   exact⟨h1.1,(iC _).2 ⟨h1.2,hne x hx' e he⟩⟩
  ·by_cases e:x=t.k
   ·subst e
    refine⟨hen,?_⟩
    cases hu:(obj S.O t.k).up with
    |none=>rfl
    |some y=>
      obtain⟨_,h2,n,h3⟩:=(h.up t ht y).1 hu
      exact absurd rfl (hne _ h2 _ (oG h3))
   exact h.dead x (λy hy e2=>hx y ((iC y).2 ⟨hy,λe3=>e (e2.symm.trans e3)⟩) e2)
  ·show S.X.af=(tot (del (t.k:Int) S.idx) S.O:Int)/\_
   rw [ux,hsum,←ux];exact h.total
  ·show _=(j3 (del (t.k:Int) S.idx) S.O x.k:Int)
   have:j3 (del (t.k:Int) S.idx) S.O x.k=j3 S.idx S.O x.k:=hsum _
   rw [this];exact h.links x ((iC x).1 hx).1
  ·obtain⟨h1,h2⟩:=h.us i x e
   refine⟨(iC x).2 ⟨h1,λe2=>?_⟩,h2⟩
   have h3:=h.opens t ht
   have h4:0<hnd S.us t.k:=Nat.lt_of_lt_of_le (by simp [e2]) (pH (g:=λp:Int×Th=>if p.2.k=t.k then 1 else 0) e)
   omega
  ·rw [h.up x ((iC x).1 hx).1 e]
   constructor
   ·rintro⟨h1,h2,n,h3⟩
    refine⟨h1,(iC _).2 ⟨h2,λe2=>?_⟩,n,h3⟩
    have e2:e=t.k:=e2
    rw [e2,hen] at h3;cases h3
   grind
  obtain⟨h1,h2⟩:=h.used
  have h3:dU (λp:Int×Th=>(obj S.O p.2.k).data.length) (del (t.k:Int) S.idx)+(obj S.O t.k).data.length=dU (λp:Int×Th=>(obj S.O p.2.k).data.length) S.idx:=Ei (g:=λp:Int×Th=>(obj S.O p.2.k).data.length) h.rise ht
  grind [obj,bytes,del]
 have e1:Proofs.YtnipofpbcggjcaaGreatDoor.vC S t=S:=by
  unfold Proofs.YtnipofpbcggjcaaGreatDoor.vC mX iM
  rw [if_neg hF,if_neg hF]
 rw [e1]
 refine {h with full:=λu hu hg=>?_}
 by_cases e:u=t
 ·subst e
  have h1:=h.opens u hu
  have:¬(obj S.O u.k).opens=0:=λe=>hF ⟨hg,e⟩
  omega
 exact hf u hu e hg
end inv
end
section
open Go.RowKit Go.Maps aR ak
section facts
variable {S:aK} {X:FM} {O:bZ} {d k:Nat} {name:ByteArray} {t u:Th}
theorem cD {α:Type} {g:aI->α} (h1:∀o es,g {o with af:=es}=g o) (h2:∀o l,g {o with links:=l}=g o) (h3:∀o a b,g {o with sec:=a,nano:=b}=g o):g (obj (aC X O d name t) k)=g (obj O k):=by
 unfold aC um
 rw [cx (λo=>h2 o _),cx (λo=>h3 o _ _),cx (λo=>h1 o _)]
theorem jt {α:Type} {g:aI->α} (h1:∀o es,g {o with af:=es}=g o) (h2:∀o l,g {o with links:=l}=g o) (h3:∀o a b,g {o with sec:=a,nano:=b}=g o) (h4:∀o u,g {o with up:=u}=g o):g (obj (bB X O d name t) k)=g (obj O k):=by
 unfold bB um
 rw [cx (λo=>h3 o _ _),Ec h1 h2 h4]
theorem Inv0.hX (h:Inv0 S):0<=S.X.af/\S.X.af<=1048576/\-1125899906842624<=S.X.used/\S.X.used<=1125899906842624/\0<=S.X.last/\S.X.last<=1125899906842624:=by
 have:=h.total;have:=h.used;have:=h.last
 omega
theorem Inv0.iY (h:Inv0 S) (hl:Live S.idx t):(obj S.O t.k).af.length<=8192:=by
 have h1:=h.total
 have h2:(obj S.O t.k).af.length<=tot S.idx S.O:=pH (g:=λp:Int×Th=>(obj S.O p.2.k).af.length) hl
 omega
theorem Inv0.lb (h:Inv0 S) (hl:Live S.idx t):0<=(obj S.O t.k).links/\(obj S.O t.k).links<=8192:=by
 have h1:=h.total
 have h2:=h.links t hl
 grind [j3,tot,RJ]
theorem Zo {us:Used Th}:hnd us k<=us.length:=by
 have:hnd us k<=dU (λ_=>1) us:=Og (λp _=>by split<;>omega)
 have h2:∀us:Used Th,dU (λ_=>1) us=us.length:=λus=>by
  induction us with
  |nil=>rfl
  |cons p r ih=>show 1+_=_;rw [ih,List.length_cons];omega
 rw [h2] at this;exact this
theorem Inv0.Ir (h:Inv0 S) (hl:Live S.idx t):0<=(obj S.O t.k).opens/\(obj S.O t.k).opens<=1024:=by
 have h1:=h.opens t hl
 have h2:hnd S.us t.k<=S.us.length:=Zo
 have:=h.BL;have:=h.cH
 omega
theorem Inv0.KQ (h:Inv0 S) (hl:Live S.idx t):(obj S.O t.k).data.length<=1125899906842624:=by
 have h1:=h.used
 have h2:(obj S.O t.k).data.length<=bytes S.idx S.O:=pH (g:=λp:Int×Th=>(obj S.O p.2.k).data.length) hl
 omega
theorem Inv0.PI (h:Inv0 S) (hl:Live S.idx t):(obj S.O t.k).data.length<=140737488355328:=by
 have h1:=h.used
 have h2:(obj S.O t.k).data.length<=bytes S.idx S.O:=pH (g:=λp:Int×Th=>(obj S.O p.2.k).data.length) hl
 omega
theorem Inv0.RM (h:Inv0 S) (hl:Live S.idx t):(Lit.int .i64 (obj S.O t.k).id).wf=true:=by
 have h1:=h.ob t hl
 have h2:=h.idx _ t hl
 have h3:=h.last
 exact WalkArith.wf_i64 (by omega)
theorem Inv0.pV (h:Inv0 S) (hd:Live S.idx ⟨d,2⟩) (name:ByteArray):aH name (obj S.O d).af=none\/(∃k,aH name (obj S.O d).af=some ⟨k,1⟩/\Live S.idx ⟨k,1⟩)\/(∃k,aH name (obj S.O d).af=some ⟨k,2⟩/\Live S.idx ⟨k,2⟩)\/∃k,aH name (obj S.O d).af=some ⟨k,3⟩/\Live S.idx ⟨k,3⟩:=by
 cases e:aH name (obj S.O d).af with
 |none=>exact .inl rfl
 |some t=>
   obtain⟨k,kd⟩:=t
   have h1:=(h.ent hd e).2
   rcases (h.ob _ h1).2.2 with e2|e2|e2<;>subst e2
   all_goals grind
theorem Inv0.Zp (h:Inv0 S) (i:Int):ak.get S.idx i=none\/(∃k,ak.get S.idx i=some ⟨k,1⟩/\Live S.idx ⟨k,1⟩)\/(∃k,ak.get S.idx i=some ⟨k,2⟩/\Live S.idx ⟨k,2⟩)\/∃k,ak.get S.idx i=some ⟨k,3⟩/\Live S.idx ⟨k,3⟩:=by
 cases e:ak.get S.idx i with
 |none=>exact .inl rfl
 |some t=>
   obtain⟨k,kd⟩:=t
   have h1:=h.live e
   rcases (h.ob _ h1).2.2 with e2|e2|e2<;>subst e2
   all_goals grind
theorem Inv0.hand (h:Inv0 S) (i:Int):ak.get S.us i=none\/(∃k,ak.get S.us i=some ⟨k,1⟩/\Live S.idx ⟨k,1⟩)\/∃k,ak.get S.us i=some ⟨k,2⟩/\Live S.idx ⟨k,2⟩:=by
 cases e:ak.get S.us i with
 |none=>exact .inl rfl
 |some t=>
   obtain⟨k,kd⟩:=t
   obtain⟨h1,h0⟩:=h.us i _ e
   rcases (h.ob _ h1).2.2 with e2|e2|e2
   all_goals grind
theorem Inv0.abp (h:Inv0 S) (hd:Live S.idx ⟨d,2⟩) (hl:aH name (obj S.O d).af=some t):1<=S.X.af:=by
 have h1:=h.total
 have h2:0<j3 S.idx S.O t.k:=oo hd hl
 grind [j3,tot,RJ]
theorem Inv0.Dy (h:Inv0 S) (hd:Live S.idx ⟨d,2⟩) (hl:aH name (obj S.O d).af=some t):0<=S.X.af-1/\S.X.af-1<=1048576/\-1125899906842624<=S.X.used/\S.X.used<=1125899906842624/\0<=S.X.last/\S.X.last<=1125899906842624:=by
 have:=h.abp hd hl;have:=h.hX
 omega
theorem tE {L:HL} {us:Used Th} {h:Int} (e:ak.get us h=none):ak.get (bw L us) h=none:=by
 unfold bw;rw [get_map,e];rfl
theorem nN {L:HL} {us:Used Th} {h:Int} (e:ak.get us h=some t):ak.get (bw L us) h=some (eG L t):=by
 unfold bw;rw [get_map,e];rfl
theorem vK {L:HL} {us:Used Th} {h:Int} (hn:ak.get us h=none):o4 (br (bw L us)) (.int .i64 h) (some (eG L t))=br (bw L (ins h t us)):=by
 rw [GQ (get_none.1 (tE hn))]
 exact congrArg br (GN (eG L) h t us).symm
theorem RN {L:HL} {us:Used Th}:ak.least (bw L us)=ak.least us:=by unfold ak.least;rw [Ef]
theorem GS {TT:TypeId} {L:HL} {us:Used Th} {v:Value} {l:List HP} {b:Nat} {most ar:Int} (h:v=.tuple #[.int .i64 (ak.least (bw L us)),.int .i64 0]/\l=[.abs (cX TT b most (max ar (((bw L us).length:Int)+1)) (ins (ak.least (bw L us)) (eG L t) (bw L us)))]):v=.tuple #[.int .i64 (ak.least us),.int .i64 0]/\l=[.abs (cX TT b most (max ar ((us.length:Int)+1)) (bw L (ins (ak.least us) t us)))]:=by
 rw [RN,tD] at h
 have e:ins (ak.least us) (eG L t) (bw L us)=bw L (ins (ak.least us) t us):=(GN (eG L) (ak.least us) t us).symm
 rw [e] at h
 exact h
theorem UR {α:Type} {es:fP α} {n:ByteArray} (h:es=[]):aH n es=none:=by rw [h];rfl
end facts
section blocks
variable {O:bZ} {L:HL} {k j:Nat} {t u:Th}
theorem CN (hk:(obj O k).kind≠0) {F:Fp} {w:World} (h:(ax (ct O L)).h F w):∃cs T,w.heap[L.b k]?=some (.cells cs T (0,0)):=by
 obtain⟨G,g⟩:=ax.at k h
 rw [oL hk] at g
 exact⟨_,_,g.1⟩
theorem Oh (hk:(obj O k).kind≠0) (hj:(obj O j).kind≠0) {F:Fp} {w:World} (h:(ax (ct O L)).h F w) (e:L.b k=L.b j):k=j:=by
 apply Classical.byContradiction
 intro hne
 obtain⟨φ,h1,h2,_⟩:=h
 have g1:=h1 k
 have g2:=h1 j
 rw [oL hk] at g1
 rw [oL hj] at g2
 exact h2 k j hne (L.b k) ((g1.2 _).2 rfl) ((g2.2 _).2 e)
theorem GU:Tryz.prog.underlying 85=some (.pointer 88):=by kernel_rfl
theorem UU:Tryz.prog.underlying 78=some (.pointer 81):=by kernel_rfl
theorem UW:Tryz.prog.underlying 82=some (.pointer 84):=by kernel_rfl
end blocks
end
section
open Go.RowKit Go.Maps aR ak
theorem UX {s:ByteArray}:0<=Lib.indexByte s.data.toList ((0:Int).toNat.toUInt8)↔¬nW s:=by
 have hge:=Lib.indexByte_ge s.data.toList ((0:Int).toNat.toUInt8)
 constructor
 ·intro h hn
  obtain⟨o,ho⟩:=Int.eq_ofNat_of_zero_le h
  have h1:=(Lib.indexByte_some ho).1
  obtain⟨h2,h3⟩:=Bu h1
  exact hn o h2 h3
 intro hn
 apply Classical.byContradiction
 intro hlt
 refine hn (λj hj h0=>Lib.indexByte_none (show Lib.indexByte s.data.toList ((0:Int).toNat.toUInt8) = -1 by omega) j ?_)
 rw [tW hj]
 congr 1
 apply UInt8.toNat_inj.1
 exact h0
theorem Ng {β:Bs} (s:ByteArray):Spec Tryz.prog β 120 #[.string s,.int .u8 0] [] (λv l=>(∃x:Int,v=.int .i64 x/\(0<=x↔¬nW s))/\l=[]):=
 λ_ w hS=>(Tryz.strings_IndexByte s 0 w).mono λ_ _ ⟨h1,h2⟩=>⟨_,[],h1,⟨⟨_,rfl,UX⟩,rfl⟩,h2 ▸ hS⟩
section ptr
variable {O:bZ} {L:HL} {k j:Nat}
theorem UY:∃j,Tryz.prog.info? 88=some j/\j.size≠0:=by
 have h:(match Tryz.prog.info? 88 with|some j=>j.size != 0|none=>false)=true:=by kernel_rfl
 grind
theorem RO {w:World} {o:Oper} {ev:Operand->Value} {x y:Operand} (ho:o.op=.binOp .eql 85 x y 85) (hx:ev x=.pointer (some ⟨L.b k,0,none⟩)) (hy:ev y=.pointer (some ⟨L.b j,0,none⟩)) (hk:(obj O k).kind≠0) (hj:(obj O j).kind≠0) {F:Fp} (hF:(ax (ct O L)).h F w) :
 pP Tryz.prog ev o w (.bool (decide (k=j))) w:=by
 obtain⟨dst,op,type,pos,after,guard⟩:=o
 cases ho
 refine .inl ?_
 simp only [execOp,hx,hy]
 obtain⟨ca,ta,ha⟩:=CN hk hF
 obtain⟨cb,tb,hb⟩:=CN hj hF
 obtain⟨i,hi,hsz⟩:=UY
 have h1:(binOp .eql 85 (.pointer (some ⟨L.b k,0,none⟩)) (.pointer (some ⟨L.b j,0,none⟩))).run Tryz.prog w=.ok (.bool (decide (k=j))) w:=by
  by_cases e:k=j
  ·subst e
   rw [run_eql_ptr_same _ _ GU hi]
   simp
  rw [run_eql_ptr_other _ GU hi hsz (λh=>e (Oh hk hj hF (congrArg Addr.block h))) ha hb]
  simp [e]
 simp [go_sem,eqGuard,h1]
def GV (tp te:TypeId):Prop:=Tryz.prog.underlying tp=some (.pointer te)/\(∃i,Tryz.prog.info? tp=some i/\i.comparable=true)/\∃j,Tryz.prog.info? te=some j/\j.size≠0
theorem GW {tp te:TypeId} (h1:Tryz.prog.underlying tp=some (.pointer te)) (h2:(match Tryz.prog.info? tp with|some j=>j.comparable|none=>false)=true) (h3:(match Tryz.prog.info? te with|some j=>j.size != 0|none=>false)=true):GV tp te:=by
 grind [GV]
theorem Zq:GV 78 81:=GW UU (by kernel_rfl) (by kernel_rfl)
theorem abq:GV 85 88:=GW GU (by kernel_rfl) (by kernel_rfl)
theorem Zr:GV 82 84:=GW UW (by kernel_rfl) (by kernel_rfl)
theorem Ej {tp te:TypeId} (hT:GV tp te) {w:World} {o:Oper} {ev:Operand->Value} {x y:Operand} (ho:o.op=.binOp .eql 70 x y 70) (hx:ev x=.iface tp (.pointer (some ⟨L.b k,0,none⟩))) (hy:ev y=.iface tp (.pointer (some ⟨L.b j,0,none⟩))) (hk:(obj O k).kind≠0) (hj:(obj O j).kind≠0) {F:Fp} (hF:(ax (ct O L)).h F w) :
 pP Tryz.prog ev o w (.bool (decide (k=j))) w:=by
 obtain⟨dst,op,type,pos,after,guard⟩:=o
 cases ho
 refine .inl ?_
 simp only [execOp,hx,hy]
 obtain⟨ca,ta,ha⟩:=CN hk hF
 obtain⟨cb,tb,hb⟩:=CN hj hF
 obtain⟨g1,⟨i,hi,hc⟩,j',hj',hsz⟩:=hT
 have h1:(binOp .eql 70 (.iface tp (.pointer (some ⟨L.b k,0,none⟩))) (.iface tp (.pointer (some ⟨L.b j,0,none⟩)))).run Tryz.prog w=.ok (.bool (decide (k=j))) w:=by
  by_cases e:k=j
  ·subst e
   rw [run_eql_iface_ptr_same _ _ Tryz.underlying70 g1 hi hc hj']
   simp
  rw [run_eql_iface_ptr_other _ Tryz.underlying70 g1 hi hc hj' hsz (λh=>e (Oh hk hj hF (congrArg Addr.block h))) ha hb]
  simp [e]
 simp [go_sem,eqGuard,h1]
end ptr
end
section
open Go.RowKit Go.Maps aR ak
structure xB (O:bZ) (idx us:Used Th) (k:Nat):Prop where
 up:∀x,(obj O x).up≠some k
 af:∀x,∀e∈(obj O x).af,e.2.k≠k
 idx:∀p∈idx,p.2.k≠k
 us:∀p∈us,p.2.k≠k
section fresh
variable {S:aK} {O:bZ} {idx us:Used Th} {L L':HL} {k b m c:Nat} {A:Option Addr} {o:aI} {t:Th}
theorem oq (h:Inv0 S):(aE S.X:Int)=S.X.last+1:=by
 have:=h.last
 unfold aE
 omega
theorem Inv0.yN (h:Inv0 S) (ht:Live S.idx t):t.k≠aE S.X:=h.free (by have:=oq h;omega) ht
theorem Inv0.GX (h:Inv0 S) (hk:S.X.last<(k:Int)):xB S.O S.idx S.us k:=by
 have key:∀x,(∃t,Live S.idx t/\t.k=x)\/(obj S.O x).af=[]/\(obj S.O x).up=none:=λx=>by
  by_cases hx:∃t,Live S.idx t/\t.k=x
  ·exact .inl hx
  exact .inr (h.dead x (λt ht e=>hx ⟨t,ht,e⟩))
 refine⟨λx e=>?_,λx e he=>?_,λp hp=>(h.free hk (h.live (kZ h.rise hp))),λp hp=>(h.free hk (h.us _ _ (kZ h.usr hp)).1)⟩
 ·rcases key x with ⟨t,ht,rfl⟩|hx
  ·obtain⟨_,h2,_⟩:=(h.up t ht _).1 e
   exact h.free hk h2 rfl
  rw [hx.2] at e;cases e
 rcases key x with ⟨t,ht,rfl⟩|hx
 ·exact h.free hk (h.af t ht e he).2
 rw [hx.1] at he;cases he
theorem Inv0.fresh (h:Inv0 S):xB S.O S.idx S.us (aE S.X):=h.GX (by have:=oq h;omega)
theorem zE (hL:L'=L.put k b m A c) {x:Nat} (h:x≠k):L'.b x=L.b x:=by subst hL;exact if_neg h
theorem Fh (hL:L'=L.put k b m A c):L'.b k=b:=by subst hL;exact if_pos rfl
theorem KR (hL:L'=L.put k b m A c):L'.m k=m:=by subst hL;exact if_pos rfl
theorem RP (hL:L'=L.put k b m A c) (h:t.k≠k):eG L' t=eG L t:=by unfold eG;rw [zE hL h]
theorem rX (hL:L'=L.put k b m A c) (kind:Int):eG L' ⟨k,kind⟩=.iface (thT kind) (.pointer (some ⟨b,0,none⟩)):=by unfold eG;rw [Fh hL]
theorem jm (hL:L'=L.put k b m A c) (h:∀p∈us,p.2.k≠k):bw L' us=bw L us:=List.map_congr_left (λp hp=>by rw [RP hL (h p hp)])
theorem UZ {es:fP Th} {n:ByteArray} (h:∀e∈es,e.2.k≠k) (e:aH n es=some t):t.k≠k:=h _ (oG e)
theorem U0 (hL:L'=L.put k b m A c) {es:fP Th} (h:∀e∈es,e.2.k≠k):ko L' es=ko L es:=by
 unfold ko
 congr 1
 funext n
 cases e:aH n es with
 |none=>rfl
 |some t=>exact congrArg some (RP hL (UZ h e))
theorem Oi (hL:L'=L.put k b m A c) (hf:xB O idx us k) {x:Nat} (h:x≠k):ct O L' x=ct O L x:=by
 have e1:=zE hL h
 have e2:je L' x (obj O x)=je L x (obj O x):=by
  unfold je CJ
  have h1:Fa L' (obj O x).up=Fa L (obj O x).up:=by
   cases hu:(obj O x).up with
   |none=>rfl
   |some d=>show Value.pointer _=Value.pointer _;rw [zE hL (λe=>hf.up x (by rw [hu,e]))]
  rw [h1]
  subst hL
  simp only [HL.put,if_neg h]
 unfold ct
 rw [e1,e2]
theorem GY (hL:L'=L.put k b m A c) (hf:xB O idx us k) {x:Nat} (h:x≠k):di O L' x=di O L x:=by
 unfold di
 rw [U0 hL (hf.af x)]
 subst hL
 simp only [HL.put,if_neg h]
theorem CO (hL:L'=L.put k b m A c) {x:Nat} (h:x≠k):bQ O L' x=bQ O L x:=by
 unfold bQ
 subst hL
 simp only [HL.put,if_neg h]
end fresh
theorem wv {O O':bZ} {L:HL} (h1:∀x,(obj O' x).data=(obj O x).data) (h2:∀x,(obj O' x).kind=(obj O x).kind):bQ O' L=bQ O L:=by
 funext x
 unfold bQ
 rw [h1,h2]
theorem jJ {X:FM} {O:bZ} {L:HL} {d:Nat} {name:ByteArray} {t:Th}:bQ (bB X O d name t) L=bQ O L:=
 wv (λ_=>jt (g:=aI.data) (λ_ _=>rfl) (λ_ _=>rfl) (λ_ _ _=>rfl) (λ_ _=>rfl)) (λ_=>Nc)
theorem mZ {X:FM} {O:bZ} {L:HL} {d:Nat} {name:ByteArray} {t:Th}:bQ (aC X O d name t) L=bQ O L:=
 wv (λ_=>cD (g:=aI.data) (λ_ _=>rfl) (λ_ _=>rfl) (λ_ _ _=>rfl)) (λ_=>cT)
theorem tF {α:Type} {g:aI->α} {O:bZ} {k j:Nat} (h:∀o b,g {o with gone:=b}=g o):g (obj (qu O j) k)=g (obj O k):=cx (f:=λo=>{o with gone:=true}) (λo=>h o true)
theorem U1 {O:bZ} {L:HL} {k:Nat}:bQ (qu O k) L=bQ O L:=wv (λ_=>tF (g:=aI.data) (λ_ _=>rfl)) (λ_=>tF (g:=aI.kind) (λ_ _=>rfl))
theorem rz {S:aK} {L:HL} {d:Nat} {name:ByteArray} {t:Th}:bQ (aB S d name t).O L=bQ S.O L:=by
 unfold aB
 simp only
 split
 ·exact U1.trans mZ
 exact mZ
theorem Fj {S:aK} {d k:Nat} {name:ByteArray} {t:Th}:(obj (aB S d name t).O k).kind=(obj S.O k).kind:=by
 unfold aB
 simp only
 split
 ·exact (tF (g:=aI.kind) (λ_ _=>rfl)).trans cT
 exact cT
theorem rY {X:FM} {O:bZ} {idx:Used Th} {d:Nat} {name:ByteArray} (h:dH X O idx d name=0):aH name (obj O d).af=none:=by
 grind [dH]
theorem yt {X:FM} {O:bZ} {idx:Used Th} {d:Nat} {name:ByteArray} (h:dH X O idx d name=0):Room X idx:=by
 grind [dH]
theorem tY {X:FM} {O:bZ} {idx:Used Th} {d:Nat} {name:ByteArray} (h:dH X O idx d name=0):X.last<1099511627776:=(yt h).2.1
section sat
variable {β:Bs} {l l':List HP} {w:World} {i j k b m c:Nat} {O:bZ} {us:Used Th} {idx' us':Used Th} {L L':HL} {cs:List Value} {T:TypeId} {ix:List Nat} {A:Option Addr} {o:aI} {R R':Nat->cK}
theorem Sat.less {p p':HP} (h:Sat β l w) (hp:l[i]?=some p) (hs:∀F,p.h F w->∃F',p'.h F' w/\∀x,F' x->F x):Sat β (l.set i p') w:=
 h.set hp (λF hF=>let ⟨F',h1,h2⟩:=hs F hF;⟨F',h1,⟨Keeps.refl _ _,λk hk=>.inl (h2 k hk)⟩⟩)
theorem Sat.BM (h:Sat β l w) (hp:l[i]?=some (.abs (ax R))) (k:Nat) (hR:∀x,x≠k->R' x=R x) (ha:R' k=cK.none):Sat β (l.set i (.abs (ax R'))) w:=by
 refine h.less hp ?_
 rintro F ⟨φ,h1,h2,h3⟩
 refine⟨λx=>∃i,i≠k/\φ i x,⟨λi=>if i=k then λ_=>False else φ i,λi=>?_,λi j hne x hx hy=>?_,λx=>⟨λ⟨i,hne,hx⟩=>⟨i,by simpa [hne] using hx⟩,λ⟨i,hx⟩=>?_⟩⟩,λx ⟨i,_,hx⟩=>(h3 x).2 ⟨i,hx⟩⟩
 ·by_cases e:i=k
  ·subst e;simp only [if_true];rw [ha];exact λ_ h=>h
  grind
 ·by_cases e1:i=k
  ·simp [e1] at hx
  by_cases e2:j=k
  ·simp [e2] at hy
  exact h2 i j hne x (by simpa [e1] using hx) (by simpa [e2] using hy)
 by_cases e1:i=k
 ·simp [e1] at hx
 exact⟨i,e1,by simpa [e1] using hx⟩
theorem Sat.xC (h:Sat β l w) (hL:L'=L.put k b m A c) (hf:xB O idx' us' k) (hp:l[i]?=some (.abs (ax (ct O L)))) (hq:l[j]?=some (.blk b cs T)) (hd:nodupB (i::j::ix)=true) (hl:bh l ix=some l') (h0:o.kind≠0) (hc:je L' k o=cs) (hT:pK o.kind=T):Sat β (.abs (ax (ct (ay O k (λ_=>o)) L'))::l') w:=by
 refine h.vu (a:=Eb b cs T) hp hq (λ_ _ h=>h) hd hl k (λx hx=>?_) (by grind [yK,Fh])
 rw [yL hx,Oi hL hf hx]
theorem Sat.WL (h:Sat β l w) (hL:L'=L.put k b m A c) (hf:xB O idx' us' k) (hp:l[i]?=some (.abs (ax (di O L)))) (hq:l[j]?=some (.abs (aY Tryz.prog 9 m (λ_=>none) 0))) (hd:nodupB (i::j::ix)=true) (hl:bh l ix=some l') (h2:o.kind=2) (he:o.af=[]):Sat β (.abs (ax (di (ay O k (λ_=>o)) L'))::l') w:=by
 refine h.vu hp hq (λ_ _ h=>h) hd hl k (λx hx=>by rw [BA hx,GY hL hf hx]) ?_
 grind [rS,cO,UF,KR]
theorem Sat.yO (h:Sat β l w) (hL:L'=L.put k b m A c) (hf:xB O idx' us' k) (hp:l[i]?=some (.abs (ax (di O L)))) (h2:o.kind≠2):Sat β (l.set i (.abs (ax (di (ay O k (λ_=>o)) L')))) w:=by
 refine h.BM hp k (λx hx=>by rw [BA hx,GY hL hf hx]) ?_
 unfold di;rw [cO,if_neg h2]
theorem Sat.Fk (h:Sat β l w) (hL:L'=L.put k b m A c) (hp:l[i]?=some (.abs (ax (bQ O L)))) (h1:o.kind≠1):Sat β (l.set i (.abs (ax (bQ (ay O k (λ_=>o)) L')))) w:=by
 refine h.BM hp k (λx hx=>by rw [BB hx,CO hL hx]) ?_
 unfold bQ;rw [cO,if_neg h1]
theorem Sat.PJ (h:Sat β l w) (hL:L'=L.put k b m none 0) (hp:l[i]?=some (.abs (ax (bQ O L)))) (hq:l[j]?=some (.abs (aq 5 1 none 0 0 []))) (hd:nodupB (i::j::ix)=true) (hl:bh l ix=some l') (h1:o.kind=1) (he:o.data=[]):Sat β (.abs (ax (bQ (ay O k (λ_=>o)) L'))::l') w:=by
 refine h.vu hp hq (λ_ _ h=>h) hd hl k (λx hx=>by rw [BB hx,CO hL hx]) ?_
 rw [wk (by rw [cO];exact h1),cO,he]
 subst hL
 simp only [HL.put,if_true]
 rfl
end sat
end
section
open Go.RowKit Go.Maps aR ak
section inv
variable {S:aK} {d:Nat} {name:ByteArray} {t:Th} {O':bZ}
theorem mD.del {es:fP Th} (h:mD es):mD (iF name es):=List.Pairwise.filter _ h
theorem Fl {x y:ByteArray}:¬fM x y↔sA y x<0:=by
 unfold fM
 rw [Bd,Lib.toList_data,Lib.toList_data]
 have h1:=@H8 x.data.toList y.data.toList
 grind [Ib,Bf,sA]
theorem mD.ins {es:fP Th} (h:mD es) (hn:aH name es=none):mD (iz name t es):=by
 induction es with
 |nil=>exact List.pairwise_singleton ..
 |cons e r ih=>
   obtain⟨h1,h2⟩:=List.pairwise_cons.1 h
   have hall:=zy.1 hn
   unfold iz
   split
   ·rename_i hlt
    refine List.pairwise_cons.2 ⟨λx hx=>?_,h⟩
    grind [Fl,E4]
   rename_i hle
   refine List.pairwise_cons.2 ⟨λx hx=>?_,ih h2 (zy.2 (λx hx=>hall x (List.mem_cons_of_mem _ hx)))⟩
   grind [D9,Fl,sA,Bf,Ib]
theorem Inv0.cut (hI:Inv0 S) (hd:Live S.idx ⟨d,2⟩) (hl:aH name (obj S.O d).af=some t) {g:Bool}
 (hO:∀k,obj O' k=if k=d then {obj S.O d with af:=iF name (obj S.O d).af,sec:=S.X.cS,nano:=S.X.cZ} else if k=t.k then {obj S.O k with links:=(obj S.O k).links-1,gone:=g,up:=none} else obj S.O k)
 (hg:g=(obj S.O t.k).gone\/(obj S.O t.k).links-1=0/\(t.kind=2->(obj S.O t.k).af=[])):Inv0 {S with X:={S.X with af:=S.X.af-1},O:=O' }:=by
 have hne:=hI.ne hd hl
 have ht:=(hI.ent hd hl).2
 have oD:obj O' d={obj S.O d with af:=iF name (obj S.O d).af,sec:=S.X.cS,nano:=S.X.cZ}:=by rw [hO,if_pos rfl]
 have oT:obj O' t.k={obj S.O t.k with links:=(obj S.O t.k).links-1,gone:=g,up:=none}:=by rw [hO,if_neg hne,if_pos rfl]
 have oX:∀x,x≠d->x≠t.k->obj O' x=obj S.O x:=by grind
 have Dz:∀{α:Type} (G:aI->α),(∀o es a b,G {o with af:=es,sec:=a,nano:=b}=G o)->(∀o l g,G {o with links:=l,gone:=g,up:=none}=G o)->∀x,G (obj O' x)=G (obj S.O x):=λG h1 h2 x=>by
  grind
 have Zs:=Dz aI.id (λ_ _ _ _=>rfl) (λ_ _ _=>rfl)
 have Fm:=Dz aI.kind (λ_ _ _ _=>rfl) (λ_ _ _=>rfl)
 have PK:=Dz aI.data (λ_ _ _ _=>rfl) (λ_ _ _=>rfl)
 have Zt:=Dz aI.opens (λ_ _ _ _=>rfl) (λ_ _ _=>rfl)
 have fE:∀x,x≠d->(obj O' x).af=(obj S.O x).af:=λx hx=>by
  grind
 have Iu:(obj O' d).af=iF name (obj S.O d).af:=by rw [oD]
 have hlk:0<j3 S.idx S.O t.k:=oo hd hl
 have hlt:=hI.links t ht
 have hky:∀i u,ak.get S.idx i=some u->i=(u.k:Int):=λi u e=>hI.key e
 have hsum:∀q:ByteArray×Th->Bool,_:=λq=>KP (q:=q) hI.rise hd hky fE Iu (hI.twice hd) hl
 have U2:∀x,j3 S.idx O' x+(if t.k=x then 1 else 0)=j3 S.idx S.O x:=λx=>by
  have h1:=hsum (λe=>decide (e.2.k=x))
  simp only [decide_eq_true_eq] at h1
  exact h1
 refine {hI with ob:=λx hx=>?_,mt:=λx hx=>?_,af:=λx hx e he=>?_,sorted:=λx hx=>?_,dead:=λx hx=>?_,vB:=λx hx=>(Fm x).trans (hI.vB x hx),total:=?_,links:=λx hx=>?_,once:=λx hx hk=>?_,opens:=λx hx=>?_,gone:=λx hx ld=>?_,up:=λx hx e=>?_,deep:=?_,used:=?_}
 ·show (obj O' x.k).id=_/\(obj O' x.k).kind=_/\_
  rw [Zs,Fm];exact hI.ob x hx
 ·show om (obj O' x.k)
  have hm:=hI.mt x hx
  by_cases e:x.k=d
  ·rw [e] at hm ⊢
   rw [oD]
   exact hm.of rfl rfl rfl hI.now rfl (.inl rfl) (.inr (hI.kind hd)) rfl
  by_cases e2:x.k=t.k
  ·rw [e2] at hm ⊢
   rw [oT]
   exact hm.of rfl rfl rfl hm.time rfl (.inl rfl) (.inl rfl) rfl
  rw [oX _ e e2];exact hm
 ·by_cases e1:x.k=d
  ·have he:e∈(obj O' x.k).af:=he
   rw [e1,Iu] at he
   exact hI.af _ hd e (KO he).1
  have he:e∈(obj O' x.k).af:=he
  rw [fE _ e1] at he
  exact hI.af x hx e he
 ·show mD (obj O' x.k).af
  by_cases e1:x.k=d
  ·rw [e1,Iu];exact mD.del (hI.sorted _ hd)
  rw [fE _ e1];exact hI.sorted x hx
 ·show (obj O' x).af=[]/\(obj O' x).up=none
  rw [oX x (λe=>hx _ hd e.symm) (λe=>hx t ht e.symm)]
  exact hI.dead x hx
 ·have h1:=hsum (λ_=>true)
  have h2:=hI.total
  grind [ux,tot]
 ·show (obj O' x.k).links=(j3 S.idx O' x.k:Int)
  have h1:=U2 x.k
  have h2:=hI.links x hx
  grind
 ·show (obj O' x.k).links<=1
  have h1:=hI.once x hx hk
  grind
 ·show (obj O' x.k).opens=_
  rw [Zt];exact hI.opens x hx
 ·have ld:(obj O' x.k).gone=true:=ld
  show (obj O' x.k).links=0/\(obj O' x.k).af=[]
  by_cases e2:x.k=t.k
  ·rw [e2] at ld ⊢
   rw [fE _ hne,oT]
   rw [oT] at ld
   show (obj S.O t.k).links-1=0/\_
   rcases hg with h|⟨h1,h2⟩
   ·have ld:g=true:=ld
    rw [h] at ld
    have:=(hI.gone t ht ld).1
    omega
   refine⟨h1,?_⟩
   by_cases hk:t.kind=2
   ·exact h2 hk
   exact (hI.mt t ht).af (by rw [hI.kind ht];exact hk)
  by_cases e:x.k=d
  ·rw [e,oD] at ld
   have:=(hI.gone _ hd ld).2
   rw [UR this] at hl;cases hl
  rw [oX _ e e2] at ld ⊢;exact hI.gone x hx ld
 ·show (obj O' x.k).up=some e↔x.kind=2/\Live S.idx ⟨e,2⟩/\∃n,aH n (obj O' e).af=some x
  by_cases e2:x.k=t.k
  ·have Iw:x=t:=gi hx ht e2
   subst Iw
   rw [oT]
   constructor
   ·intro h;cases h
   rintro⟨hk,hle,n,hn⟩
   have h1:=hI.once x hx hk
   grind [j3,oo,Live,aH,obj,iF,up]
  have h1:(obj O' x.k).up=(obj S.O x.k).up:=by
   grind
  have h2:∀n,aH n (obj O' e).af=some x↔aH n (obj S.O e).af=some x:=λn=>by
   grind [ul]
  rw [h1,hI.up x hx e]
  simp only [h2]
 ·obtain⟨dp,hdp⟩:=hI.deep
  refine⟨dp,λx e hx=>?_⟩
  grind
 have:bytes S.idx O'=bytes S.idx S.O:=iW (λp _=>by rw [PK])
 show S.X.used=(bytes S.idx O':Int)/\_
 rw [this];exact hI.used
theorem PL {O O1:bZ} {s k:Nat} (h:∀x e,(obj O1 x).up=some e->(obj O x).up=some e) (hb:pq O1 s k):pq O s k:=by
 induction hb with
 |here=>exact .here
 |up hu _ ih=>exact .up (h _ _ hu) ih
theorem Ix {O:bZ} {s k:Nat}:pq O s k↔k=s\/∃e,(obj O k).up=some e/\pq O s e:=by
 constructor
 ·rintro (_|⟨h1,h2⟩)
  ·exact .inl rfl
  exact .inr ⟨_,h1,h2⟩
 rintro (h|⟨e,h1,h2⟩)
 ·subst h;exact .here
 exact .up h1 h2
theorem Inv0.put (hI:Inv0 S) (hd:Live S.idx ⟨d,2⟩) (ji:(obj S.O d).gone=false) (hn:aH name (obj S.O d).af=none) (hgn:aS name) (ht:Live S.idx t) (Oc:(obj S.O t.k).gone=false) (Zu:t.kind=2->(obj S.O t.k).links=0/\¬pq S.O t.k d) (htd:t.k≠d) (hroom:S.X.af<8192) {ta tb:Int} (htm:dz ta tb)
 (hO:∀k,obj O' k=if k=d then {obj S.O d with af:=iz name t (obj S.O d).af,sec:=ta,nano:=tb} else if k=t.k then {obj S.O k with links:=(obj S.O k).links+1,up:=if t.kind=2 then some d else (obj S.O k).up} else obj S.O k) :
 Inv0 {S with X:={S.X with af:=S.X.af+1},O:=O' }:=by
 have hne:=htd
 have oD:obj O' d={obj S.O d with af:=iz name t (obj S.O d).af,sec:=ta,nano:=tb}:=by rw [hO,if_pos rfl]
 have oT:obj O' t.k={obj S.O t.k with links:=(obj S.O t.k).links+1,up:=if t.kind=2 then some d else (obj S.O t.k).up}:=by rw [hO,if_neg hne,if_pos rfl]
 have oX:∀x,x≠d->x≠t.k->obj O' x=obj S.O x:=by grind
 have Dz:∀{α:Type} (G:aI->α),(∀o es a b,G {o with af:=es,sec:=a,nano:=b}=G o)->(∀o l u,G {o with links:=l,up:=u}=G o)->∀x,G (obj O' x)=G (obj S.O x):=λG h1 h2 x=>by
  grind
 have Zs:=Dz aI.id (λ_ _ _ _=>rfl) (λ_ _ _=>rfl)
 have Fm:=Dz aI.kind (λ_ _ _ _=>rfl) (λ_ _ _=>rfl)
 have PK:=Dz aI.data (λ_ _ _ _=>rfl) (λ_ _ _=>rfl)
 have Zt:=Dz aI.opens (λ_ _ _ _=>rfl) (λ_ _ _=>rfl)
 have fG:=Dz aI.gone (λ_ _ _ _=>rfl) (λ_ _ _=>rfl)
 have fE:∀x,x≠d->(obj O' x).af=(obj S.O x).af:=λx hx=>by
  grind
 have Iu:(obj O' d).af=iz name t (obj S.O d).af:=by rw [oD]
 have hky:∀i u,ak.get S.idx i=some u->i=(u.k:Int):=λi u e=>hI.key e
 have hsum:∀q:ByteArray×Th->Bool,_:=λq=>UQ (q:=q) hI.rise hd hky fE Iu
 have U2:∀x,j3 S.idx O' x=j3 S.idx S.O x+(if t.k=x then 1 else 0):=λx=>by
  have h1:=hsum (λe=>decide (e.2.k=x))
  simp only [decide_eq_true_eq] at h1
  exact h1
 have hlt:=hI.links t ht
 have adi:t.kind=2->∀e n,Live S.idx ⟨e,2⟩->aH n (obj S.O e).af≠some t:=λhk e n hle h=>by
  have h1:0<j3 S.idx S.O t.k:=oo hle h
  have:=(Zu hk).1
  omega
 refine {hI with ob:=λx hx=>?_,mt:=λx hx=>?_,af:=λx hx e he=>?_,sorted:=λx hx=>?_,dead:=λx hx=>?_,vB:=λx hx=>(Fm x).trans (hI.vB x hx),total:=?_,links:=λx hx=>?_,once:=λx hx hk=>?_,opens:=λx hx=>?_,gone:=λx hx ld=>?_,up:=λx hx e=>?_,deep:=?_,used:=?_}
 ·show (obj O' x.k).id=_/\(obj O' x.k).kind=_/\_
  rw [Zs,Fm];exact hI.ob x hx
 ·show om (obj O' x.k)
  have hm:=hI.mt x hx
  by_cases e:x.k=d
  ·rw [e] at hm ⊢
   rw [oD]
   exact hm.of rfl rfl rfl htm rfl (.inl rfl) (.inr (hI.kind hd)) rfl
  by_cases e2:x.k=t.k
  ·rw [e2] at hm ⊢
   rw [oT]
   exact hm.of rfl rfl rfl hm.time rfl (.inl rfl) (.inl rfl) rfl
  rw [oX _ e e2];exact hm
 ·have he:e∈(obj O' x.k).af:=he
  by_cases e1:x.k=d
  ·rw [e1,Iu] at he
   rcases D9.1 he with rfl|he
   ·exact⟨hgn,ht⟩
   exact hI.af _ hd e he
  rw [fE _ e1] at he
  exact hI.af x hx e he
 ·show mD (obj O' x.k).af
  by_cases e1:x.k=d
  ·rw [e1,Iu];exact mD.ins (hI.sorted _ hd) hn
  rw [fE _ e1];exact hI.sorted x hx
 ·show (obj O' x).af=[]/\(obj O' x).up=none
  rw [oX x (λe=>hx _ hd e.symm) (λe=>hx t ht e.symm)]
  exact hI.dead x hx
 ·have h1:=hsum (λ_=>true)
  have h2:=hI.total
  grind [ux,tot]
 ·show (obj O' x.k).links=(j3 S.idx O' x.k:Int)
  have h1:=U2 x.k
  have h2:=hI.links x hx
  grind
 ·show (obj O' x.k).links<=1
  have h1:=hI.once x hx hk
  grind [gi,obj]
 ·show (obj O' x.k).opens=_
  rw [Zt];exact hI.opens x hx
 ·have ld:(obj O' x.k).gone=true:=ld
  rw [fG] at ld
  show (obj O' x.k).links=0/\(obj O' x.k).af=[]
  by_cases e2:x.k=t.k
  ·rw [e2,Oc] at ld;cases ld
  by_cases e:x.k=d
  ·rw [e,ji] at ld;cases ld
  rw [oX _ e e2];exact hI.gone x hx ld
 ·show (obj O' x.k).up=some e↔x.kind=2/\Live S.idx ⟨e,2⟩/\∃n,aH n (obj O' e).af=some x
  by_cases e2:x.k=t.k
  ·have Iw:x=t:=gi hx ht e2
   subst Iw
   rw [oT]
   show (if x.kind=2 then some d else (obj S.O x.k).up)=some e↔_
   by_cases hk:x.kind=2
   ·rw [if_pos hk]
    constructor
    ·intro h
     cases h
     exact⟨hk,hd,name,by rw [Iu,Bz hn,if_pos rfl]⟩
    grind
   rw [if_neg hk,hI.up x hx e]
   grind
  have h1:(obj O' x.k).up=(obj S.O x.k).up:=by
   grind
  have h2:∀n,aH n (obj O' e).af=some x↔aH n (obj S.O e).af=some x:=λn=>by
   grind [Bz]
  rw [h1,hI.up x hx e]
  simp only [h2]
 ·obtain⟨dp,hdp⟩:=hI.deep
  by_cases hk:t.kind=2
  ·obtain⟨hl0,hnb⟩:=Zu hk
   have adj:(obj S.O t.k).up=none:=by
    cases hu:(obj S.O t.k).up with
    |none=>rfl
    |some e=>
      grind [Live,obj,aH,aS,dz,iz,up]
   refine⟨λx=>if pq S.O t.k x then dp x+dp d+1 else dp x,λx e hx=>?_⟩
   grind [obj,up,Ix]
  refine⟨dp,λx e hx=>?_⟩
  grind
 have:bytes S.idx O'=bytes S.idx S.O:=iW (λp _=>by rw [PK])
 show S.X.used=(bytes S.idx O':Int)/\_
 rw [this];exact hI.used
end inv
end
section
open Go.RowKit Go.Maps aR ak
section new
variable {S:aK} {d:Nat} {name:ByteArray} {t:Th} {o:aI} {us':Used Th} {iX:Int}
theorem Inv0.newAt (hI:Inv0 S) {k0:Nat} (hlt:S.X.last<(k0:Int)) (hle:(k0:Int)<=1099511627776) {pU:Int} (acY:pU=S.X.used+o.data.length/\pU<=140737488355328) (hid:o.id=(k0:Int)) (hk3:o.kind=1\/o.kind=2\/o.kind=3) (hl0:o.links=0) (he0:o.af=[]) (hu0:o.up=none) (hg0:o.gone=false) (hm:om o) (hlen:S.idx.length<4096)
 (u1:ak.bK (keys us')) (u2:∀x∈keys us',1<=x/\x<=iX) (u3:(us'.length:Int)<=S.X.cH) (u4:0<=iX/\iX<=S.X.cH) (u5:∀h t,ak.get us' h=some t->(Live S.idx t\/t=⟨k0,o.kind⟩)/\t.kind≠3) (u6:∀k,k≠k0->hnd us' k=hnd S.us k) (u7:o.opens=(hnd us' (k0):Int)) :
 Inv0 {S with X:={S.X with last:=(k0:Int),used:=pU},O:=ay S.O (k0) (λ_=>o),idx:=ins ((k0:Int)) ⟨k0,o.kind⟩ S.idx,us:=us',ar:=iX}:=by
 have hnot:ak.get S.idx ((k0:Int))=none:=by
  cases e:ak.get S.idx ((k0:Int)) with
  |none=>rfl
  |some u=>have:=(hI.idx _ u e).2.2;omega
 have hget:∀i,ak.get (ins ((k0:Int)) ⟨k0,o.kind⟩ S.idx) i=if i=(k0:Int) then some ⟨k0,o.kind⟩ else ak.get S.idx i:=by grind [tv,get_none]
 have iC:∀x,Live (ins ((k0:Int)) ⟨k0,o.kind⟩ S.idx) x↔x=⟨k0,o.kind⟩\/Live S.idx x:=λx=>by
  grind [Live]
 have oN:obj (ay S.O (k0) (λ_=>o)) (k0)=o:=cO
 have oX:∀x,Live S.idx x->obj (ay S.O (k0) (λ_=>o)) x.k=obj S.O x.k:=λx hx=>fQ (hI.free hlt hx)
 have hfr:=hI.GX hlt
 have hmem:∀p∈S.idx,obj (ay S.O (k0) (λ_=>o)) p.2.k=obj S.O p.2.k:=λp hp=>fQ (hfr.idx p hp)
 have hsum:∀g:aI->Nat,g o=0->dU (λp:Int×Th=>g (obj (ay S.O (k0) (λ_=>o)) p.2.k)) (ins ((k0:Int)) ⟨k0,o.kind⟩ S.idx)=dU (λp:Int×Th=>g (obj S.O p.2.k)) S.idx:=λg hg=>by
  grind [Eg,obj,iW]
 refine {hI with last:=?_,rise:=(wo hI.rise (get_none.1 hnot)),len:=?_,idx:=λi x e=>?_,ob:=λx hx=>?_,mt:=λx hx=>?_,af:=λx hx e he=>?_,sorted:=λx hx=>?_,dead:=λx hx=>?_,vB:=λx hx=>?_,total:=?_,links:=λx hx=>?_,once:=λx hx hk=>?_,opens:=λx hx=>?_,usr:=u1,uw:=u2,BL:=u3,ar:=u4,us:=λh x e=>?_,gone:=λx hx ld=>?_,up:=λx hx e=>?_,deep:=?_,used:=?_}
 ·grind
 ·grind [ins,iU]
 ·have e:ak.get (ins ((k0:Int)) ⟨k0,o.kind⟩ S.idx) i=some x:=e
  rw [hget] at e
  have:=hI.last
  show i=(x.k:Int)/\0<i/\i<=(k0:Int)
  split at e
  ·grind
  have:=hI.idx i x e
  omega
 ·show (obj (ay S.O (k0) (λ_=>o)) x.k).id=_/\(obj (ay S.O (k0) (λ_=>o)) x.k).kind=_/\_
  rcases (iC x).1 hx with h|h
  ·subst h;rw [oN];exact⟨hid,rfl,hk3⟩
  rw [oX x h];exact hI.ob x h
 ·show om (obj (ay S.O (k0) (λ_=>o)) x.k)
  rcases (iC x).1 hx with h|h
  ·subst h;rw [oN];exact hm
  rw [oX x h];exact hI.mt x h
 ·have he:e∈(obj (ay S.O (k0) (λ_=>o)) x.k).af:=he
  rcases (iC x).1 hx with h|h
  ·subst h;rw [oN,he0] at he;cases he
  rw [oX x h] at he
  have h1:=hI.af x h e he
  exact⟨h1.1,(iC _).2 (.inr h1.2)⟩
 ·show mD (obj (ay S.O (k0) (λ_=>o)) x.k).af
  rcases (iC x).1 hx with h|h
  ·subst h;rw [oN,he0];exact List.Pairwise.nil
  rw [oX x h];exact hI.sorted x h
 ·show (obj (ay S.O (k0) (λ_=>o)) x).af=[]/\(obj (ay S.O (k0) (λ_=>o)) x).up=none
  have h1:x≠k0:=λe=>hx ⟨k0,o.kind⟩ ((iC _).2 (.inl rfl)) e.symm
  rw [fQ h1]
  exact hI.dead x (λu hu=>hx u ((iC _).2 (.inr hu)))
 ·have hx:(k0:Int)<(x:Int):=hx
  show (obj (ay S.O (k0) (λ_=>o)) x).kind=0
  rw [fQ (λe=>by rw [e] at hx;omega)]
  exact hI.vB x (by omega)
 ·show S.X.af=(tot _ _:Int)/\S.X.af<=8192
  have:tot (ins ((k0:Int)) ⟨k0,o.kind⟩ S.idx) (ay S.O (k0) (λ_=>o))=tot S.idx S.O:=hsum (λo=>o.af.length) (by rw [he0];rfl)
  rw [this];exact hI.total
 ·show (obj (ay S.O (k0) (λ_=>o)) x.k).links=(j3 _ _ x.k:Int)
  have:j3 (ins ((k0:Int)) ⟨k0,o.kind⟩ S.idx) (ay S.O (k0) (λ_=>o)) x.k=j3 S.idx S.O x.k:=hsum (λo=>o.af.countP (λe:ByteArray×Th=>decide (e.2.k=x.k))) (by rw [he0];rfl)
  rw [this]
  rcases (iC x).1 hx with h|h
  ·subst h
   rw [oN,hl0]
   have:j3 S.idx S.O (k0)=0:=by
    apply Classical.byContradiction
    intro hne
    obtain⟨i,u,hu,e,he,hek⟩:=Fg hI.rise (Nat.pos_of_ne_zero hne)
    exact hfr.af u.k e he hek
   rw [this];rfl
  rw [oX x h];exact hI.links x h
 ·show (obj (ay S.O (k0) (λ_=>o)) x.k).links<=1
  rcases (iC x).1 hx with h|h
  ·subst h;rw [oN,hl0];decide
  rw [oX x h];exact hI.once x h hk
 ·show (obj (ay S.O (k0) (λ_=>o)) x.k).opens=(hnd us' x.k:Int)
  rcases (iC x).1 hx with h|h
  ·subst h;rw [oN];exact u7
  rw [oX x h,u6 _ (hI.free hlt h)];exact hI.opens x h
 ·grind
 ·have ld:(obj (ay S.O (k0) (λ_=>o)) x.k).gone=true:=ld
  show (obj (ay S.O (k0) (λ_=>o)) x.k).links=0/\(obj (ay S.O (k0) (λ_=>o)) x.k).af=[]
  rcases (iC x).1 hx with h|h
  ·subst h;rw [oN,hg0] at ld;cases ld
  rw [oX x h] at ld ⊢;exact hI.gone x h ld
 ·show (obj (ay S.O (k0) (λ_=>o)) x.k).up=some e↔x.kind=2/\Live _ ⟨e,2⟩/\∃n,aH n (obj (ay S.O (k0) (λ_=>o)) e).af=some x
  rcases (iC x).1 hx with h|h
  ·subst h
   rw [oN,hu0]
   constructor
   ·intro h;cases h
   rintro⟨_,hle,n,h⟩
   by_cases e2:e=k0
   ·rw [e2,oN,he0] at h;cases h
   rw [fQ e2] at h;exact absurd rfl (hfr.af e _ (oG h))
  rw [oX x h,hI.up x h e]
  constructor
  ·grind
  rintro⟨h1,h2,n,h3⟩
  by_cases e2:e=k0
  ·rw [e2,oN,he0] at h3;cases h3
  grind
 ·obtain⟨dp,hdp⟩:=hI.deep
  refine⟨dp,λx e hx=>?_⟩
  grind [obj,ay,up,fQ]
 show pU=(bytes _ _:Int)/\_
 have h1:bytes (ins (k0:Int) ⟨k0,o.kind⟩ S.idx) (ay S.O k0 (λ_=>o))=o.data.length+bytes S.idx S.O:=by
  grind [bytes,Eg,obj,iW]
 have h2:=hI.used
 grind
theorem Inv0.new (hI:Inv0 S) (hid:o.id=S.X.last+1) (hk3:o.kind=1\/o.kind=2\/o.kind=3) (hl0:o.links=0) (he0:o.af=[]) (hu0:o.up=none) (hg0:o.gone=false) (Zv:o.data=[]) (hm:om o) (hlast:S.X.last<1099511627776) (hlen:(S.idx.length:Int)<S.X.cN)
 (u1:ak.bK (keys us')) (u2:∀x∈keys us',1<=x/\x<=iX) (u3:(us'.length:Int)<=S.X.cH) (u4:0<=iX/\iX<=S.X.cH) (u5:∀h t,ak.get us' h=some t->(Live S.idx t\/t=⟨aE S.X,o.kind⟩)/\t.kind≠3) (u6:∀k,k≠aE S.X->hnd us' k=hnd S.us k) (u7:o.opens=(hnd us' (aE S.X):Int)) :
 Inv0 {S with X:={S.X with last:=S.X.last+1},O:=ay S.O (aE S.X) (λ_=>o),idx:=ins (S.X.last+1) ⟨aE S.X,o.kind⟩ S.idx,us:=us',ar:=iX}:=by
 have hnk:=oq hI
 have h:=hI.newAt (k0:=aE S.X) (pU:=S.X.used) (by omega) (by omega) ⟨by rw [Zv];simp,hI.used.2⟩ (hid.trans hnk.symm) hk3 hl0 he0 hu0 hg0 hm (by have:=hI.cN;omega) u1 u2 u3 u4 u5 u6 u7
 rw [hnk] at h
 exact h
theorem Inv.add (hI:Inv S) (hd:Live S.idx ⟨d,2⟩) (ji:(obj S.O d).gone=false) (hn:aH name (obj S.O d).af=none) (hgn:aS name) (hroom:Room S.X S.idx)
 (hid:o.id=S.X.last+1) (hk3:o.kind=1\/o.kind=2\/o.kind=3) (hl0:o.links=0) (he0:o.af=[]) (hu0:o.up=none) (hg0:o.gone=false) (Zv:o.data=[]) (hm:om o)
 (u1:ak.bK (keys us')) (u2:∀x∈keys us',1<=x/\x<=iX) (u3:(us'.length:Int)<=S.X.cH) (u4:0<=iX/\iX<=S.X.cH) (u5:∀h t,ak.get us' h=some t->(Live S.idx t\/t=⟨aE S.X,o.kind⟩)/\t.kind≠3) (u6:∀k,k≠aE S.X->hnd us' k=hnd S.us k) (u7:o.opens=(hnd us' (aE S.X):Int)) :
 Inv (dr {S with us:=us',ar:=iX} d name o):=by
 have h1:=hI.toInv0.new hid hk3 hl0 he0 hu0 hg0 Zv hm hroom.2.1 hroom.1 u1 u2 u3 u4 u5 u6 u7
 have hne:d≠aE S.X:=hI.yN hd
 have hnk:=oq hI.toInv0
 have hnot:ak.get S.idx (S.X.last+1)=none:=by
  cases e:ak.get S.idx (S.X.last+1) with
  |none=>rfl
  |some u=>have:=(hI.idx _ u e).2.2;omega
 have hget:∀i,ak.get (ins (S.X.last+1) ⟨aE S.X,o.kind⟩ S.idx) i=if i=S.X.last+1 then some ⟨aE S.X,o.kind⟩ else ak.get S.idx i:=by grind [tv,get_none]
 have hdl:Live (ins (S.X.last+1) ⟨aE S.X,o.kind⟩ S.idx) ⟨d,2⟩:=by
  grind [Live]
 have hnl:Live (ins (S.X.last+1) ⟨aE S.X,o.kind⟩ S.idx) ⟨aE S.X,o.kind⟩:=by
  unfold Live
  rw [hget,if_pos hnk]
 have oN:obj (ay S.O (aE S.X) (λ_=>o)) (aE S.X)=o:=cO
 have oD:obj (ay S.O (aE S.X) (λ_=>o)) d=obj S.O d:=fQ hne
 have hnb:¬pq (ay S.O (aE S.X) (λ_=>o)) (aE S.X) d:=λhb=>by
  have key:∀x,pq (ay S.O (aE S.X) (λ_=>o)) (aE S.X) x->x=aE S.X:=λx hx=>by
   induction hx with
   |here=>rfl
   | @up k j hu _ ih=>
     subst ih
     by_cases e:k=aE S.X
     ·exact e
     rw [fQ e] at hu;exact absurd hu (hI.fresh.up k)
  exact hne (key d hb)
 have h2:=h1.put (d:=d) (name:=name) (t:=⟨aE S.X,o.kind⟩) (O':=(dr {S with us:=us',ar:=iX} d name o).O) hdl (by rw [oD];exact ji) (by rw [oD];exact hn) hgn hnl (by rw [oN];exact hg0) (λ_=>⟨by rw [oN];exact hl0,hnb⟩) (λe=>hne e.symm) hroom.2.2 h1.now (λk=>p8 (λe=>hne e.symm))
 refine⟨h2,λx hx ld=>?_⟩
 have g1:∀k,(obj (dr {S with us:=us',ar:=iX} d name o).O k).gone=(obj (ay S.O (aE S.X) (λ_=>o)) k).gone:=λk=>jt (g:=aI.gone) (λ_ _=>rfl) (λ_ _=>rfl) (λ_ _ _=>rfl) (λ_ _=>rfl)
 have g2:∀k,(obj (dr {S with us:=us',ar:=iX} d name o).O k).opens=(obj (ay S.O (aE S.X) (λ_=>o)) k).opens:=λk=>jt (g:=aI.opens) (λ_ _=>rfl) (λ_ _=>rfl) (λ_ _ _=>rfl) (λ_ _=>rfl)
 rw [g1] at ld
 rw [g2]
 by_cases e:x.k=aE S.X
 ·rw [e,oN,hg0] at ld;cases ld
 rw [fQ e] at ld ⊢
 refine hI.full x ?_ ld
 grind [ins,aE,Live,obj,aH,aS,Room,keys,hnd,dr]
end new
section drop
variable {S:aK} {d:Nat} {name:ByteArray} {t:Th}
theorem kN {α:Type} {g:aI->α} {O:bZ} {k j:Nat} (h:∀o,g {o with up:=none}=g o):g (obj (orphan O j) k)=g (obj O k):=cx (f:=λo=>{o with up:=none}) h
theorem BN {O:bZ} {k:Nat}:qY (orphan O k) t↔qY O t:=by
 unfold qY
 rw [kN (g:=aI.gone) (λ_=>rfl),kN (g:=aI.opens) (λ_=>rfl)]
theorem KS {O:bZ} {k:Nat} {u:Int}:mX (orphan O k) u t=mX O u t:=by
 unfold mX
 simp only [BN,kN (g:=aI.data) (λ_=>rfl)]
theorem KT {O:bZ} {k:Nat} {idx:Used Th}:iM (orphan O k) idx t=iM O idx t:=by
 unfold iM
 simp only [BN,kN (g:=aI.id) (λ_=>rfl)]
theorem Inv.drop (hI:Inv S) (hd:Live S.idx ⟨d,2⟩) (hl:aH name (obj S.O d).af=some t) (he:t.kind=2->(obj S.O t.k).af=[]):Inv {aB S d name t with O:=orphan (aB S d name t).O t.k}:=by
 have hne:=hI.ne hd hl
 have ht:=(hI.ent hd hl).2
 have hlk:(obj (aC S.X S.O d name t) t.k).links=(obj S.O t.k).links-1:=by grind [iQ]
 have hfull:∀(O2:bZ),(∀u,u≠t.k->(obj O2 u).gone=(obj S.O u).gone/\(obj O2 u).opens=(obj S.O u).opens)->∀u,Live S.idx u->u≠t->(obj O2 u.k).gone=true->0<(obj O2 u.k).opens:=λO2 h u hu hut hg=>by
  have hk:u.k≠t.k:=λe=>hut (gi hu ht e)
  rw [(h _ hk).1] at hg
  rw [(h _ hk).2]
  exact hI.full u hu hg
 by_cases h0:(obj (aC S.X S.O d name t) t.k).links=0
 ·have e1:aB S d name t=_:=uq h0
  have hO:∀k,obj (orphan (qu (aC S.X S.O d name t) t.k) t.k) k=if k=d then {obj S.O d with af:=iF name (obj S.O d).af,sec:=S.X.cS,nano:=S.X.cZ} else if k=t.k then {obj S.O k with links:=(obj S.O k).links-1,gone:=true,up:=none} else obj S.O k:=λk=>by
   unfold orphan qu
   rw [xw,iw]
   by_cases e:k=t.k
   ·rw [if_pos e,iQ hne,if_neg (λe2=>hne (e.symm.trans e2)),if_pos e,if_neg (λe2=>hne (e.symm.trans e2)),if_pos e]
   rw [if_neg e,iQ hne,if_neg e,if_neg e]
  have h1:=hI.toInv0.cut hd hl hO (.inr ⟨by rw [←hlk];exact h0,he⟩)
  have h2:=h1.vC (t:=t) ht (hfull _ (λu hu=>by
   rw [kN (g:=aI.gone) (λ_=>rfl),kN (g:=aI.opens) (λ_=>rfl)]
   show (obj (ay _ t.k _) u).gone=_/\(obj (ay _ t.k _) u).opens=_
   rw [fQ hu,cD (g:=aI.gone) (λ_ _=>rfl) (λ_ _=>rfl) (λ_ _ _=>rfl),cD (g:=aI.opens) (λ_ _=>rfl) (λ_ _=>rfl) (λ_ _ _=>rfl)]
   exact⟨rfl,rfl⟩))
  rw [e1]
  unfold vC at h2
  simp only [KS,KT] at h2
  exact h2
 have e1:aB S d name t=_:=ur h0
 have hnd:t.kind≠2:=λhk=>by
  have h1:=hI.once t ht hk
  have h2:=hI.links t ht
  have h3:0<j3 S.idx S.O t.k:=oo hd hl
  omega
 have PN:(obj S.O t.k).up=none:=by
  cases hu:(obj S.O t.k).up with
  |none=>rfl
  |some e=>exact absurd ((hI.up t ht e).1 hu).1 hnd
 have hO:∀k,obj (orphan (aC S.X S.O d name t) t.k) k=if k=d then {obj S.O d with af:=iF name (obj S.O d).af,sec:=S.X.cS,nano:=S.X.cZ} else if k=t.k then {obj S.O k with links:=(obj S.O k).links-1,gone:=(obj S.O t.k).gone,up:=none} else obj S.O k:=λk=>by
  unfold orphan
  rw [iw]
  by_cases e:k=t.k
  ·rw [if_pos e,iQ hne,if_neg (λe2=>hne (e.symm.trans e2)),if_pos e,if_neg (λe2=>hne (e.symm.trans e2)),if_pos e,e]
  rw [if_neg e,iQ hne,if_neg e,if_neg e]
 have h1:=hI.toInv0.cut hd hl hO (.inl rfl)
 rw [e1]
 refine⟨h1,λu hu hg=>?_⟩
 have hg:(obj (orphan (aC S.X S.O d name t) t.k) u.k).gone=true:=hg
 show 0<(obj (orphan (aC S.X S.O d name t) t.k) u.k).opens
 rw [kN (g:=aI.gone) (λ_=>rfl),cD (g:=aI.gone) (λ_ _=>rfl) (λ_ _=>rfl) (λ_ _ _=>rfl)] at hg
 rw [kN (g:=aI.opens) (λ_=>rfl),cD (g:=aI.opens) (λ_ _=>rfl) (λ_ _=>rfl) (λ_ _ _=>rfl)]
 exact hI.full u hu hg
theorem U3 {k:Nat}:(obj (aB S d name t).O k).up=(obj S.O k).up:=by
 unfold aB
 simp only
 split
 ·exact (tF (g:=aI.up) (λ_ _=>rfl)).trans (cD (g:=aI.up) (λ_ _=>rfl) (λ_ _=>rfl) (λ_ _ _=>rfl))
 exact cD (g:=aI.up) (λ_ _=>rfl) (λ_ _=>rfl) (λ_ _ _=>rfl)
theorem Inv.CP (hI:Inv S) (hd:Live S.idx ⟨d,2⟩) (hl:aH name (obj S.O d).af=some t) (hk:t.kind≠2):Inv (aB S d name t):=by
 have h:=hI.drop hd hl (λe=>absurd e hk)
 have ht:=(hI.ent hd hl).2
 have PN:(obj S.O t.k).up=none:=by
  cases hu:(obj S.O t.k).up with
  |none=>rfl
  |some e=>exact absurd ((hI.up t ht e).1 hu).1 hk
 have e:orphan (aB S d name t).O t.k=(aB S d name t).O:=XZ (by
  have:(obj (aB S d name t).O t.k).up=none:=U3.trans PN
  rw [←this])
 rw [e] at h
 exact h
end drop
end
end Go.Proofs.YtnipofpbcggjcaaGreatDoor
section
namespace Go.Proofs.YtnipofpbcggjcaaGreatDoor.ak
open aR
variable {V:Type}
theorem Iy (us:Used V) (p:Int×V):keys (us++[p])=keys us++[p.1]:=by simp [keys]
theorem wz (us:Used V):(keys us).length=us.length:=by simp [keys]
theorem least_le {us:Used V} (hr:bK (keys us)) (hp:∀x∈keys us,1<=x):1<=least us/\least us∉keys us/\∀x,1<=x->x<least us->x∈keys us:=ol (keys us) 1 hr hp
theorem qb:∀(ks:List Int) (h:Int),jh h ks<=h+ks.length
 |[],h=>by simp [jh]
 |k::r,h=>by
   unfold jh
   split
   ·have:=qb r (h+1);simp only [List.length_cons];push_cast;omega
   simp only [List.length_cons];push_cast;omega
theorem Nh (us:Used V):least us<=us.length+1:=by
 have:=qb (keys us) 1
 rw [wz] at this
 unfold least;omega
end Go.Proofs.YtnipofpbcggjcaaGreatDoor.ak
end
namespace Go.Proofs.YtnipofpbcggjcaaGreatDoor
section
open Go.RowKit Go.Maps aR ak
section ops
variable {S:aK} {d to:Nat} {name toName:ByteArray} {t:Th}
theorem Inv.link (hI:Inv S) (hd:Live S.idx ⟨d,2⟩) (ji:(obj S.O d).gone=false) (hn:aH name (obj S.O d).af=none) (hgn:aS name) (ht:Live S.idx t) (Oc:(obj S.O t.k).gone=false) (hk:t.kind≠2) (hroom:S.X.af<8192) :
 Inv {S with X:={S.X with af:=S.X.af+1},O:=bB S.X S.O d name t}:=by
 have hne:t.k≠d:=by grind [gi]
 have h1:=hI.toInv0.put hd ji hn hgn ht Oc (λe=>absurd e hk) hne hroom hI.now (λk=>p8 hne)
 refine⟨h1,λx hx hg=>?_⟩
 have hg:(obj (bB S.X S.O d name t) x.k).gone=true:=hg
 show 0<(obj (bB S.X S.O d name t) x.k).opens
 rw [jt (g:=aI.gone) (λ_ _=>rfl) (λ_ _=>rfl) (λ_ _ _=>rfl) (λ_ _=>rfl)] at hg
 rw [jt (g:=aI.opens) (λ_ _=>rfl) (λ_ _=>rfl) (λ_ _ _=>rfl) (λ_ _=>rfl)]
 exact hI.full x hx hg
theorem nj (hne:t.k≠d) {X:FM} {O:bZ} (h:aH toName (obj O to).af=none):aH toName (obj (aC X O d name t) to).af=none:=by
 grind [iQ,aH,iF,obj,ul]
theorem Inv.move (hI:Inv S) (hd:Live S.idx ⟨d,2⟩) (hl:aH name (obj S.O d).af=some t) (hto:Live S.idx ⟨to,2⟩) (ji:(obj S.O to).gone=false) (hn:aH toName (obj S.O to).af=none) (hgn:aS toName) (hb:t.kind=2->¬pq S.O t.k to):Inv (mB S d name to toName t):=by
 have hne:=hI.ne hd hl
 have ht:=(hI.ent hd hl).2
 have KU:t.k≠to:=λe=>by
  have h1:t=⟨to,2⟩:=gi ht hto e
  exact hb (by rw [h1]) (by rw [e];exact .here)
 have hgt:(obj S.O t.k).gone=false:=by
  cases hg:(obj S.O t.k).gone with
  |false=>rfl
  |true=>
    have h1:=(hI.gone t ht hg).1
    have h2:=hI.links t ht
    have h3:0<j3 S.idx S.O t.k:=oo hd hl
    omega
 have hO:∀k,obj (orphan (aC S.X S.O d name t) t.k) k=if k=d then {obj S.O d with af:=iF name (obj S.O d).af,sec:=S.X.cS,nano:=S.X.cZ} else if k=t.k then {obj S.O k with links:=(obj S.O k).links-1,gone:=(obj S.O t.k).gone,up:=none} else obj S.O k:=λk=>by
  unfold orphan
  rw [iw]
  by_cases e:k=t.k
  ·rw [if_pos e,iQ hne,if_neg (λe2=>hne (e.symm.trans e2)),if_pos e,if_neg (λe2=>hne (e.symm.trans e2)),if_pos e,e]
  rw [if_neg e,iQ hne,if_neg e,if_neg e]
 have h1:=hI.toInv0.cut hd hl hO (.inl rfl)
 have g0:∀{α:Type} (g:aI->α),(∀o es,g {o with af:=es}=g o)->(∀o l,g {o with links:=l}=g o)->(∀o a b,g {o with sec:=a,nano:=b}=g o)->(∀o u,g {o with up:=u}=g o)->∀k,g (obj (orphan (aC S.X S.O d name t) t.k) k)=g (obj S.O k):=λg a b c e k=>(kN (λo=>e o none)).trans (cD a b c)
 have hlk:=hI.links t ht
 have hlp:0<j3 S.idx S.O t.k:=oo hd hl
 have hend:(obj (orphan (aC S.X S.O d name t) t.k) to).af=(obj (aC S.X S.O d name t) to).af:=kN (g:=aI.af) (λ_=>rfl)
 have h2:=h1.put (d:=to) (name:=toName) (t:=t) (O':=(mB S d name to toName t).O) hto (by
  show (obj (orphan (aC S.X S.O d name t) t.k) to).gone=false
  rw [g0 aI.gone (λ_ _=>rfl) (λ_ _=>rfl) (λ_ _ _=>rfl) (λ_ _=>rfl)];exact ji) (by
  show aH toName (obj (orphan (aC S.X S.O d name t) t.k) to).af=none
  rw [hend];exact nj hne hn) hgn ht (by
  show (obj (orphan (aC S.X S.O d name t) t.k) t.k).gone=false
  rw [g0 aI.gone (λ_ _=>rfl) (λ_ _=>rfl) (λ_ _ _=>rfl) (λ_ _=>rfl)];exact hgt) (λhk=>⟨by
   have h3:=hI.once t ht hk
   show (obj (orphan (aC S.X S.O d name t) t.k) t.k).links=0
   rw [hO,if_neg hne,if_pos rfl]
   show (obj S.O t.k).links-1=0
   omega,λhb2=>hb hk (PL (λx e hx=>by
    have hx:(obj (orphan (aC S.X S.O d name t) t.k) x).up=some e:=hx
    by_cases e1:x=t.k
    ·rw [hO,if_neg (by rw [e1];exact hne),if_pos e1] at hx;cases hx
    rw [hO] at hx
    split at hx
    ·rename_i e2;rw [e2];exact hx
    first|exact hx|(rw [if_neg e1] at hx;exact hx)) hb2)⟩) KU (by
  have:=hI.total
  show S.X.af-1<8192
  omega) hI.now (λk=>by
  show obj (bB S.X (aC S.X S.O d name t) to toName t) k=_
  rw [p8 KU]
  by_cases e:k=to
  ·rw [if_pos e,if_pos e]
   have h3:obj (orphan (aC S.X S.O d name t) t.k) to=obj (aC S.X S.O d name t) to:=fQ (λe=>KU e.symm)
   rw [show obj _ to=_ from h3]
  rw [if_neg e,if_neg e]
  by_cases e2:k=t.k
  ·rw [if_pos e2,if_pos e2,e2]
   show _={obj (orphan (aC S.X S.O d name t) t.k) t.k with links:=(obj (orphan (aC S.X S.O d name t) t.k) t.k).links+1,up:=if t.kind=2 then some to else (obj (orphan (aC S.X S.O d name t) t.k) t.k).up}
   have h3:obj (orphan (aC S.X S.O d name t) t.k) t.k={obj (aC S.X S.O d name t) t.k with up:=none}:=cO
   rw [h3]
   by_cases hk:t.kind=2
   ·rw [if_pos hk,if_pos hk]
   rw [if_neg hk,if_neg hk]
   have PN:(obj (aC S.X S.O d name t) t.k).up=none:=by
    rw [cD (g:=aI.up) (λ_ _=>rfl) (λ_ _=>rfl) (λ_ _ _=>rfl)]
    cases hu:(obj S.O t.k).up with
    |none=>rfl
    |some e=>exact absurd ((hI.up t ht e).1 hu).1 hk
   rw [PN]
  rw [if_neg e2,if_neg e2]
  have h3:obj (orphan (aC S.X S.O d name t) t.k) k=obj (aC S.X S.O d name t) k:=fQ e2
  exact h3.symm)
 refine⟨h2,λx hx hg=>?_⟩
 have g3:∀{α:Type} (g:aI->α),(∀o es,g {o with af:=es}=g o)->(∀o l,g {o with links:=l}=g o)->(∀o a b,g {o with sec:=a,nano:=b}=g o)->(∀o u,g {o with up:=u}=g o)->∀k,g (obj (mB S d name to toName t).O k)=g (obj S.O k):=λg a b c e k=>(jt a b c e).trans (cD a b c)
 rw [g3 aI.gone (λ_ _=>rfl) (λ_ _=>rfl) (λ_ _ _=>rfl) (λ_ _=>rfl)] at hg
 rw [g3 aI.opens (λ_ _=>rfl) (λ_ _=>rfl) (λ_ _ _=>rfl) (λ_ _=>rfl)]
 exact hI.full x hx hg
theorem GZ {us:Used Th} {h:Int} {k:Nat}:hnd (ins h t us) k=(if t.k=k then 1 else 0)+hnd us k:=Eg
theorem Oj {us:Used Th} {h:Int} {k:Nat} (hr:ak.bK (keys us)) (e:ak.get us h=some t):hnd (del h us) k+(if t.k=k then 1 else 0)=hnd us k:=Ei (g:=λp:Int×Th=>if p.2.k=k then 1 else 0) hr e
theorem Ol {us:Used Th} {ar:Int} (hr:ak.bK (keys us)) (h1:∀x∈keys us,1<=x/\x<=ar):ak.bK (keys (ins (ak.least us) t us))/\∀x∈keys (ins (ak.least us) t us),1<=x/\x<=max ar ((us.length:Int)+1):=by
 obtain⟨g1,g2,_⟩:=least_le hr (λx hx=>(h1 x hx).1)
 have g3:=Nh us
 grind [wo,oO]
theorem Inv.cu (hI:Inv S) (ht:Live S.idx t) (hk:t.kind≠3):Inv (Proofs.YtnipofpbcggjcaaGreatDoor.cu S t).2.2:=by
 by_cases hlt:(S.us.length:Int)<S.X.cH
 ·rw [j9 hlt]
  obtain⟨g1,g2,_⟩:=least_le hI.usr (λx hx=>(hI.uw x hx).1)
  obtain⟨v1,v2⟩:=Ol (t:=t) hI.usr hI.uw
  have hb:bytes S.idx (ay S.O t.k (λo=>{o with opens:=o.opens+1}))=bytes S.idx S.O:=iW (λp _=>by rw [cx (f:=λo=>{o with opens:=o.opens+1}) (g:=aI.data) (λ_=>rfl)])
  have h1:=hI.toInv0.own (k:=t.k) (f:=λo=>{o with opens:=o.opens+1}) (pU:=S.X.used) (us':=ins (ak.least S.us) t S.us) (iX:=max S.ar ((S.us.length:Int)+1)) (λ_=>rfl) (λ_=>rfl) (λ_=>rfl) (λ_=>rfl) (λ_=>rfl) (λ_=>rfl)
   (λu hu e=>by rw [←e];exact (hI.mt u hu).of rfl rfl rfl (hI.mt u hu).time rfl (.inl rfl) (.inl rfl) rfl)
   (λu hu=>by
    have h2:=hI.opens u hu
    rw [GZ]
    by_cases e:u.k=t.k
    ·rw [e,cO,if_pos rfl,←e]
     show (obj S.O u.k).opens+1=_
     omega
    rw [fQ e,if_neg (λe2=>e e2.symm)];omega)
   v1 v2 (by rw [iU];omega) (by have:=hI.ar;omega) (λh u e=>by
    rw [tv g2] at e
    split at e
    ·cases e;exact⟨ht,hk⟩
    exact hI.us h u e) ⟨by rw [hb];exact hI.used.1,hI.used.2⟩
  refine⟨h1,λu hu hg=>?_⟩
  have hg:(obj (ay S.O t.k (λo=>{o with opens:=o.opens+1})) u.k).gone=true:=hg
  rw [cx (f:=λo=>{o with opens:=o.opens+1}) (g:=aI.gone) (λ_=>rfl)] at hg
  have h2:=hI.full u hu hg
  grind [obj,ay,cO,fQ]
 rw [lM hlt];exact hI
theorem Inv.dL (hI:Inv S) {k:Nat} (ht:Live S.idx ⟨k,1⟩) (bs:List UInt8):Inv (Proofs.YtnipofpbcggjcaaGreatDoor.dL S k bs).2.2:=by
 unfold Proofs.YtnipofpbcggjcaaGreatDoor.dL
 split
 ·exact hI
 split
 ·exact hI
 rename_i hroom
 have hlen:(obj (ay S.O k (λo=>{o with data:=o.data++bs.take (bR S.X bs.length),sec:=S.X.cS,nano:=S.X.cZ})) k).data.length=(obj S.O k).data.length+bR S.X bs.length:=by
  rw [cO]
  show ((obj S.O k).data++bs.take (bR S.X bs.length)).length=_
  rw [List.length_append,List.length_take]
  unfold bR
  omega
 have hb:=Eh (g:=λp:Int×Th=>(obj S.O p.2.k).data.length) (g':=λp:Int×Th=>(obj (ay S.O k (λo=>{o with data:=o.data++bs.take (bR S.X bs.length),sec:=S.X.cS,nano:=S.X.cZ})) p.2.k).data.length) hI.rise ht (λp hp hne=>by
  have h1:=hI.key (kZ hI.rise hp)
  show (obj (ay _ k _) p.2.k).data.length=_
  rw [fQ (λe=>hne (by rw [h1,e]))])
 have hb:bytes S.idx (ay S.O k (λo=>{o with data:=o.data++bs.take (bR S.X bs.length),sec:=S.X.cS,nano:=S.X.cZ}))+(obj S.O k).data.length=bytes S.idx S.O+(obj (ay S.O k (λo=>{o with data:=o.data++bs.take (bR S.X bs.length),sec:=S.X.cS,nano:=S.X.cZ})) k).data.length:=hb
 have hu:=hI.used
 have hcB:=hI.cB
 have h1:=hI.toInv0.own (k:=k) (f:=λo=>{o with data:=o.data++bs.take (bR S.X bs.length),sec:=S.X.cS,nano:=S.X.cZ}) (pU:=S.X.used+(bR S.X bs.length:Int)) (us':=S.us) (iX:=S.ar) (λ_=>rfl) (λ_=>rfl) (λ_=>rfl) (λ_=>rfl) (λ_=>rfl) (λ_=>rfl)
  (λu hu e=>by
   have hk1:u=⟨k,1⟩:=gi hu ht e
   have abr:=hI.kind hu
   rw [←e]
   exact (hI.mt u hu).of rfl rfl rfl hI.now rfl (.inr (by rw [abr,hk1])) (.inl rfl) rfl)
  (λu hu=>by rw [cx (f:=λo=>{o with data:=o.data++bs.take (bR S.X bs.length),sec:=S.X.cS,nano:=S.X.cZ}) (g:=aI.opens) (λ_=>rfl)];exact hI.opens u hu)
  hI.usr hI.uw hI.BL hI.ar hI.us ⟨by omega,by unfold bR;omega⟩
 refine⟨h1,λu hu hg=>?_⟩
 have hg:(obj (ay S.O k (λo=>{o with data:=o.data++bs.take (bR S.X bs.length),sec:=S.X.cS,nano:=S.X.cZ})) u.k).gone=true:=hg
 rw [cx (f:=λo=>{o with data:=o.data++bs.take (bR S.X bs.length),sec:=S.X.cS,nano:=S.X.cZ}) (g:=aI.gone) (λ_=>rfl)] at hg
 show 0<(obj (ay S.O k (λo=>{o with data:=o.data++bs.take (bR S.X bs.length),sec:=S.X.cS,nano:=S.X.cZ})) u.k).opens
 rw [cx (f:=λo=>{o with data:=o.data++bs.take (bR S.X bs.length),sec:=S.X.cS,nano:=S.X.cZ}) (g:=aI.opens) (λ_=>rfl)]
 exact hI.full u hu hg
theorem Inv.abt (hI:Inv S) {k:Nat} {mode uid gid sec nano:Int} (h1:gS mode) (h2:mY uid/\mY gid) (h3:dz sec nano):Inv {S with O:=ay S.O k (λo=>{o with mode:=mode,uid:=uid,gid:=gid,sec:=sec,nano:=nano})}:=by
 have hb:bytes S.idx (ay S.O k (λo=>{o with mode:=mode,uid:=uid,gid:=gid,sec:=sec,nano:=nano}))=bytes S.idx S.O:=iW (λp _=>by rw [cx (f:=λo=>{o with mode:=mode,uid:=uid,gid:=gid,sec:=sec,nano:=nano}) (g:=aI.data) (λ_=>rfl)])
 have g1:=hI.toInv0.own (k:=k) (f:=λo=>{o with mode:=mode,uid:=uid,gid:=gid,sec:=sec,nano:=nano}) (pU:=S.X.used) (us':=S.us) (iX:=S.ar) (λ_=>rfl) (λ_=>rfl) (λ_=>rfl) (λ_=>rfl) (λ_=>rfl) (λ_=>rfl)
  (λu hu e=>by
   have hm:=hI.mt u hu
   rw [e] at hm
   exact⟨h1,h2.1,h2.2,h3,hm.data,hm.af,hm.target⟩)
  (λu hu=>by rw [cx (f:=λo=>{o with mode:=mode,uid:=uid,gid:=gid,sec:=sec,nano:=nano}) (g:=aI.opens) (λ_=>rfl)];exact hI.opens u hu)
  hI.usr hI.uw hI.BL hI.ar hI.us ⟨by rw [hb];exact hI.used.1,hI.used.2⟩
 refine⟨g1,λu hu hg=>?_⟩
 have hg:(obj (ay S.O k (λo=>{o with mode:=mode,uid:=uid,gid:=gid,sec:=sec,nano:=nano})) u.k).gone=true:=hg
 rw [cx (f:=λo=>{o with mode:=mode,uid:=uid,gid:=gid,sec:=sec,nano:=nano}) (g:=aI.gone) (λ_=>rfl)] at hg
 show 0<(obj (ay S.O k (λo=>{o with mode:=mode,uid:=uid,gid:=gid,sec:=sec,nano:=nano})) u.k).opens
 rw [cx (f:=λo=>{o with mode:=mode,uid:=uid,gid:=gid,sec:=sec,nano:=nano}) (g:=aI.opens) (λ_=>rfl)]
 exact hI.full u hu hg
theorem Inv.shut (hI:Inv S) {h:Int} (e:ak.get S.us h=some t):Inv {S with
 X:={S.X with used:=mX (qI S.O t.k) S.X.used t}
 O:=qI S.O t.k
 idx:=iM (qI S.O t.k) S.idx t
 us:=del h S.us}:=by
 have ht:=(hI.us h t e).1
 have hb:bytes S.idx (qI S.O t.k)=bytes S.idx S.O:=iW (λp _=>by unfold qI;rw [cx (f:=λo=>{o with opens:=o.opens-1}) (g:=aI.data) (λ_=>rfl)])
 have hd:=λk=>Oj (k:=k) hI.usr e
 have h1:=hI.toInv0.own (k:=t.k) (f:=λo=>{o with opens:=o.opens-1}) (pU:=S.X.used) (us':=del h S.us) (iX:=S.ar) (λ_=>rfl) (λ_=>rfl) (λ_=>rfl) (λ_=>rfl) (λ_=>rfl) (λ_=>rfl)
  (λu hu e=>by rw [←e];exact (hI.mt u hu).of rfl rfl rfl (hI.mt u hu).time rfl (.inl rfl) (.inl rfl) rfl)
  (λu hu=>by
   have h2:=hI.opens u hu
   have h3:=hd u.k
   by_cases e2:u.k=t.k
   ·rw [e2,cO]
    rw [e2] at h2 h3
    rw [if_pos rfl] at h3
    show (obj S.O t.k).opens-1=_
    omega
   rw [if_neg (λe3=>e2 e3.symm)] at h3
   rw [fQ e2];omega)
  (KN hI.usr) (λx hx=>hI.uw x (by grind [rf])) (by have:=tA hI.usr (get_some e);have:=hI.BL;omega) hI.ar (λi u hu=>by
   rw [vJ] at hu
   split at hu
   ·cases hu
   exact hI.us i u hu) ⟨by rw [show bytes S.idx (ay S.O t.k (λo=>{o with opens:=o.opens-1}))=bytes S.idx S.O from hb];exact hI.used.1,hI.used.2⟩
 exact h1.vC (t:=t) ht (λu hu hut hg=>by
  have hk:u.k≠t.k:=λe=>hut (gi hu ht e)
  have hg:(obj (ay S.O t.k (λo=>{o with opens:=o.opens-1})) u.k).gone=true:=hg
  rw [fQ hk] at hg
  show 0<(obj (ay S.O t.k (λo=>{o with opens:=o.opens-1})) u.k).opens
  rw [fQ hk]
  exact hI.full u hu hg)
end ops
end
section
open Go.RowKit Go.Maps aR ak
section facts
variable {S:aK} {X:FM} {O:bZ} {d k to:Nat} {name toName:ByteArray} {t o:Th}
def BO (dp:Nat->Nat):Option Nat->Nat
 |none=>0
 |some y=>dp y+1
theorem RQ {dp:Nat->Nat} (h:∀k d,(obj O k).up=some d->dp d<dp k) {y:Nat}:BO dp (obj O y).up<BO dp (some y):=by
 cases e:(obj O y).up with
 |none=>exact Nat.succ_pos _
 |some z=>exact Nat.succ_lt_succ (h y z e)
theorem Fo {s y:Nat} (h:¬y=s):pq O s y↔∃z,(obj O y).up=some z/\pq O s z:=Ix.trans (or_iff_right h)
theorem Fq (hne:t.k≠d):(obj (aB S d name t).O k).af=if k=d then iF name (obj S.O d).af else (obj S.O k).af:=by
 have h1:(obj (aB S d name t).O k).af=(obj (aC S.X S.O d name t) k).af:=by
  unfold aB
  simp only
  split
  ·exact tF (g:=aI.af) (λ_ _=>rfl)
  rfl
 grind [iQ]
theorem uy (hI:Inv0 S) (hto:Live S.idx ⟨to,2⟩) (hl2:aH toName (obj S.O to).af=some o) (hl:aH name (obj S.O d).af=some t) (hot:o≠t):aH name (obj (aB S to toName o).O d).af=some t:=by
 rw [Fq (hI.ne hto hl2)]
 grind [ul]
theorem uz (hI:Inv0 S) (hto:Live S.idx ⟨to,2⟩) (hl2:aH toName (obj S.O to).af=some o):aH toName (obj (aB S to toName o).O to).af=none:=by
 rw [Fq (hI.ne hto hl2),if_pos rfl,ul,if_pos rfl]
theorem lN (hI:Inv0 S) (hto:Live S.idx ⟨to,2⟩) (hl2:aH toName (obj S.O to).af=some o) (hx:Live S.idx t) (hk:t.k≠o.k):Live (aB S to toName o).idx t:=by
 unfold aB
 simp only
 split
 ·unfold iM
  split
  ·unfold Live
   rw [vJ,if_neg]
   ·exact hx
   intro e
   have h1:=(hI.ob o (hI.ent hto hl2).2).1
   rw [tF (g:=aI.id) (λ_ _=>rfl),cD (g:=aI.id) (λ_ _=>rfl) (λ_ _=>rfl) (λ_ _ _=>rfl),h1] at e
   exact hk (by omega)
  exact hx
 exact hx
theorem qc (hne:t.k≠d):(obj (aC X O d name t) k).af.length<=(obj O k).af.length:=by
 rw [iQ hne]
 split
 ·rename_i e
  subst e
  exact List.length_filter_le _ _
 split<;>exact Nat.le_refl _
theorem nO (hI:Inv0 S) (hd:Live S.idx ⟨d,2⟩) (hl:aH name (obj S.O d).af=some t):0<=(obj (aC S.X S.O d name t) t.k).links/\(obj (aC S.X S.O d name t) t.k).links<=1048576:=by
 have ht:=(hI.ent hd hl).2
 have h1:=hI.links t ht
 have h2:0<j3 S.idx S.O t.k:=oo hd hl
 have h3:=hI.lb ht
 rw [iQ (hI.ne hd hl),if_neg (hI.ne hd hl),if_pos rfl]
 grind
end facts
end
section
open Go.RowKit Go.Maps aR ak
theorem aW.take {β:Bs} {A:Option Addr} {d:List UInt8} (h:aW β A d) (n:Nat):aW β A (d.take n):=by
 intro j v hj
 refine h j v ?_
 grind [bY]
theorem PO {a b:List UInt8}:bY (a++b)=bY a++bY b:=List.map_append
theorem Inv0.abu {S:aK} {t:Th} (h:Inv0 S) (hl:Live S.idx t):((obj S.O t.k).data.length:Int)<=S.X.used:=by
 have h1:=h.used
 have h2:(obj S.O t.k).data.length<=bytes S.idx S.O:=pH (g:=λp:Int×Th=>(obj S.O p.2.k).data.length) hl
 omega
theorem RR {X:FM} {n:Nat} (h:0<X.cB-X.used):min (n:Int) (X.cB-X.used)=(bR X n:Int):=by
 unfold bR
 omega
theorem RV {X:FM} {n:Nat} (h:0<X.cB-X.used):bR X n<=n/\(bR X n:Int)<=X.cB-X.used:=by
 unfold bR
 omega
section data
variable {O:bZ} {us:Used Th} {L L':HL} {k c:Nat} {A:Option Addr} {t:Th}
theorem KV (hL:L'=L.data k A c):bw L' us=bw L us:=by subst hL;rfl
theorem U4 (hL:L'=L.data k A c):di O L'=di O L:=by
 subst hL
 funext x
 rfl
theorem U5 (hL:L'=L.data k A c) {x:Nat} (h:x≠k):ct O L' x=ct O L x:=by
 have e2:je L' x (obj O x)=je L x (obj O x):=by
  subst hL
  unfold je CJ
  simp only [HL.data,if_neg h]
  rfl
 unfold ct
 rw [e2]
 subst hL
 rfl
theorem U6 (hL:L'=L.data k A c) {x:Nat} (h:x≠k):bQ O L' x=bQ O L x:=by
 unfold bQ
 subst hL
 simp only [HL.data,if_neg h]
theorem Om (hL:L'=L.data k A c):L'.dA k=A:=by subst hL;exact if_pos rfl
theorem Oo (hL:L'=L.data k A c):L'.dC k=c:=by subst hL;exact if_pos rfl
theorem RW (hL:L'=L.data k A c) {x:Nat}:L'.b x=L.b x:=by subst hL;rfl
end data
section sat
variable {β:Bs} {l l':List HP} {w:World} {i j k c n:Nat} {O:bZ} {L L':HL} {f:aI->aI} {cs:List Value} {T:TypeId} {ix:List Nat} {A:Option Addr} {R:Nat->cK} {xs:List Value}
theorem Sat.Zw (h:Sat β l w) (hL:L'=L.data k A c) (hp:l[i]?=some (.abs (ax (mI (ct O L) k cK.none)))) (hq:l[j]?=some (.blk (L.b k) cs T)) (hd:nodupB (i::j::ix)=true) (hl:bh l ix=some l') (h0:(f (obj O k)).kind≠0) (hc:je L' k (f (obj O k))=cs) (hT:pK (f (obj O k)).kind=T):Sat β (.abs (ax (ct (ay O k f) L'))::l') w:=by
 refine h.vu (a:=Eb (L.b k) cs T) hp hq (λ_ _ h=>h) hd hl k (λx hx=>?_) (by rw [yK,if_neg h0,hc,hT,RW hL])
 rw [yL hx,U5 hL hx,rU hx]
theorem Sat.Zx (h:Sat β l w) (hL:L'=L.data k A c) (hp:l[i]?=some (.abs (ax (mI (bQ O L) k cK.none)))) (hq:l[j]?=some (.abs (aq 5 1 A n c xs))) (hd:nodupB (i::j::ix)=true) (hl:bh l ix=some l') (h1:(f (obj O k)).kind=1) (hn:n=(f (obj O k)).data.length) (hx:xs=bY (f (obj O k)).data):Sat β (.abs (ax (bQ (ay O k f) L'))::l') w:=by
 refine h.vu hp hq (λ_ _ h=>h) hd hl k (λx hx=>by rw [BB hx,U6 hL hx,rU hx]) ?_
 grind [wk,cO,Om,Oo]
end sat
end
section
def sW (n:Int):Prop:=n=n
end
section
open Go.RowKit Go.Maps aR ak
structure jb (β:Bs) (c:aD):Prop where
 hw:(Lit.int .i64 c.handle).wf=true
 ow:(Lit.int .i64 c.other).wf=true
 nm:c.name.size<=1048576
 tx:c.text.size<=1048576
 da:aW β c.dA c.data
 dl:c.data.length<=1099511627776
 dc:c.data.length<=c.dC
 op:sW c.op
section facts
variable {S:aK} {h:Int} {name:ByteArray} {need:Int} {t:Th} {c:aD}
theorem iI (hI:Inv0 S) (h:Int) (name:ByteArray) (need:Int):(∃e,dZ S.O S.us h name need=.error e/\e≠0)\/∃d,dZ S.O S.us h name need=.ok d/\Live S.idx ⟨d,2⟩/\(obj S.O d).gone=false/\aS name/\ak.get S.us h=some ⟨d,2⟩:=by
 unfold dZ
 cases e:ak.get S.us h with
 |none=>exact .inl ⟨131,rfl,by decide⟩
 |some t=>
   simp only
   split
   ·rename_i hk
    split
    ·exact .inl ⟨170,rfl,by decide⟩
    rename_i hg
    split
    ·rename_i hn
     split
     ·obtain⟨k,kd⟩:=t
      simp only at hk
      subst hk
      exact .inr ⟨k,rfl,(hI.us h _ e).1,by simpa using hg,hn,rfl⟩
     exact .inl ⟨175,rfl,by decide⟩
    exact .inl ⟨95,rfl,by decide⟩
   exact .inl ⟨173,rfl,by decide⟩
theorem Fs (hI:Inv0 S) (c:aD):(∃e,fC S.O S.us c=.error e/\e≠0)\/(∃k,fC S.O S.us c=.ok ⟨k,1⟩/\Live S.idx ⟨k,1⟩)\/(∃k,fC S.O S.us c=.ok ⟨k,2⟩/\Live S.idx ⟨k,2⟩)\/∃k,fC S.O S.us c=.ok ⟨k,3⟩/\Live S.idx ⟨k,3⟩:=by
 unfold fC
 rcases iI hI c.handle c.name 64 with ⟨e,h1,h2⟩|⟨d,h1,h2,_⟩
 ·rw [h1];exact .inl ⟨e,rfl,h2⟩
 rw [h1]
 simp only
 rcases hI.pV h2 c.name with h3|⟨k,h3,h4⟩|⟨k,h3,h4⟩|⟨k,h3,h4⟩
 all_goals grind
theorem KW {L:HL} {us:Used Th} {h:Int}:bw L (del h us)=del h (bw L us):=GP (eG L) h us
theorem Oq {us:Used Th} {h:Int} (e:ak.get us h=some t):0<hnd us t.k:=Nat.lt_of_lt_of_le (by simp) (pH (g:=λp:Int×Th=>if p.2.k=t.k then 1 else 0) e)
theorem Ek {L:HL}:bQ (cu S t).2.2.O L=bQ S.O L:=by
 by_cases h:(S.us.length:Int)<S.X.cH
 ·rw [j9 h];exact wv (λ_=>cx (f:=λo=>{o with opens:=o.opens+1}) (g:=aI.data) (λ_=>rfl)) (λ_=>lY (f:=λo=>{o with opens:=o.opens+1}) (λ_=>rfl))
 rw [lM h]
theorem El {L:HL}:di (cu S t).2.2.O L=di S.O L:=by
 grind [j9,qt,lM]
theorem X8:(iB S c).2.2.op=c.op:=by unfold iB;(repeat' split)<;>rfl
theorem PS:(dw S c).2.2.op=c.op:=by unfold dw;(repeat' split)<;>rfl
theorem Ni:(cQ S c).2.2.op=c.op:=by unfold cQ;(repeat' split)<;>rfl
theorem PU:(eY S c).2.2.op=c.op:=by unfold eY;(repeat' split)<;>rfl
theorem Nj:(cE S c).2.2.op=c.op:=by unfold cE;(repeat' split)<;>rfl
theorem KY:(dR S c).2.2.op=c.op:=by unfold dR;(repeat' split)<;>rfl
theorem RX:(bU S c).2.2.op=c.op:=by unfold bU;(repeat' split)<;>rfl
theorem Nk:(fD S c).2.2.op=c.op:=by unfold fD;(repeat' split)<;>rfl
theorem PV:(gA S c).2.2.op=c.op:=by unfold gA;(repeat' split)<;>rfl
theorem Nl:(eF S c).2.2.op=c.op:=by unfold eF;(repeat' split)<;>rfl
theorem PW:(dM S c).2.2.op=c.op:=by unfold dM;(repeat' split)<;>rfl
theorem PX:(bA S c).2.2.op=c.op:=by unfold bA;(repeat' split)<;>rfl
theorem X9:(jZ S c).2.2.op=c.op:=by unfold jZ;(repeat' split)<;>rfl
theorem RY:(fI S c).2.2.op=c.op:=by unfold fI;(repeat' split)<;>rfl
theorem U7:(gq S c).2.2.op=c.op:=by unfold gq;(repeat' split)<;>rfl
end facts
theorem zF {S:aK} {c:aD} (h:c.op=1):fe S c=iB S c:=by
 unfold fe
 simp [h]
theorem zG {S:aK} {c:aD} (h:c.op=2):fe S c=dw S c:=by
 unfold fe
 simp [h]
theorem CQ {S:aK} {c:aD} (h:c.op=3):fe S c=cQ S c:=by
 unfold fe
 simp [h]
theorem zH {S:aK} {c:aD} (h:c.op=4):fe S c=eY S c:=by
 unfold fe
 simp [h]
theorem CR {S:aK} {c:aD} (h:c.op=5):fe S c=cE S c:=by
 unfold fe
 simp [h]
theorem CS {S:aK} {c:aD} (h:c.op=6):fe S c=dR S c:=by
 unfold fe
 simp [h]
theorem CU {S:aK} {c:aD} (h:c.op=7):fe S c=bU S c:=by
 unfold fe
 simp [h]
theorem CV {S:aK} {c:aD} (h:c.op=8):fe S c=fD S c:=by
 unfold fe
 simp [h]
theorem CW {S:aK} {c:aD} (h:c.op=9):fe S c=dM S c:=by
 unfold fe
 simp [h]
theorem yP {S:aK} {c:aD} (h:c.op=10):fe S c=bA S c:=by
 unfold fe
 simp [h]
theorem yQ {S:aK} {c:aD} (h:c.op=11):fe S c=jZ S c:=by
 unfold fe
 simp [h]
theorem yR {S:aK} {c:aD} (h:c.op=12):fe S c=fI S c:=by
 unfold fe
 simp [h]
theorem yS {S:aK} {c:aD} (h:c.op=13):fe S c=gq S c:=by
 unfold fe
 simp [h]
theorem yT {S:aK} {c:aD} (h:c.op=14):fe S c=gA S c:=by
 unfold fe
 simp [h]
theorem yU {S:aK} {c:aD} (h:c.op=15):fe S c=eF S c:=by
 unfold fe
 simp [h]
theorem BP {S:aK} {c:aD} (h:¬(1<=c.op/\c.op<=15)):fe S c=(230,S,c):=by
 unfold fe
 repeat rw [if_neg (by omega)]
end
section
open Go.RowKit Go.Maps aR ak
section inv
variable {S:aK} {d to:Nat} {name toName text:ByteArray} {mode:Int} {c:aD}
theorem KZ (hI:Inv0 S):hnd S.us (aE S.X)=0:=by
 have:hnd S.us (aE S.X)=dU (λ_=>0) S.us:=iW (λp hp=>if_neg (hI.fresh.us p hp))
 rw [this]
 have h0:∀us:Used Th,dU (λ_=>0) us=0:=λus=>by
  induction us with
  |nil=>rfl
  |cons p r ih=>show 0+_=0;rw [ih]
 exact h0 _
theorem DA (hI:Inv0 S) {kind mode:Int} {tg:ByteArray} (hm:gS mode) (ht:bJ kind tg):om {aZ S.X kind mode with target:=tg}:=
 ⟨hm,⟨Int.le_refl _,by show (0:Int)<=2147483647;decide⟩,⟨Int.le_refl _,by show (0:Int)<=2147483647;decide⟩,hI.now,λ_=>rfl,λ_=>rfl,ht⟩
theorem Inv.CX (hI:Inv S) (hd:Live S.idx ⟨d,2⟩) (ji:(obj S.O d).gone=false) (hgn:aS name) (h0:dH S.X S.O S.idx d name=0) {kind mode:Int} {tg:ByteArray} (hk:kind=1\/kind=2\/kind=3) (hm:gS mode) (ht:bJ kind tg) :
 Inv (dr S d name {aZ S.X kind mode with target:=tg}):=by
 have h:=hI.add (us':=S.us) (iX:=S.ar) (o:={aZ S.X kind mode with target:=tg}) hd ji (rY h0) hgn (yt h0) rfl hk rfl rfl rfl rfl rfl (DA hI.toInv0 hm ht) hI.usr hI.uw hI.BL hI.ar (λh t e=>⟨.inl (hI.us h t e).1,(hI.us h t e).2⟩) (λ_ _=>rfl) (by rw [KZ hI.toInv0];rfl)
 exact h
theorem Inv.jI (hI:Inv S) (hd:Live S.idx ⟨d,2⟩) (ji:(obj S.O d).gone=false) (hgn:aS name) (hm:gS mode):Inv (Proofs.YtnipofpbcggjcaaGreatDoor.jI S d name mode).2:=by
 unfold Proofs.YtnipofpbcggjcaaGreatDoor.jI
 split
 ·rename_i h0
  exact hI.CX hd ji hgn h0 (.inr (.inl rfl)) hm (.inl ⟨by decide,rfl⟩)
 exact hI
theorem Ya {s:ByteArray} (h:iP s=0):bJ 3 s:=by
 grind [iP,qp,bJ]
theorem Inv.fY (hI:Inv S) (hd:Live S.idx ⟨d,2⟩) (ji:(obj S.O d).gone=false) (hgn:aS name):Inv (Proofs.YtnipofpbcggjcaaGreatDoor.fY S d name text).2:=by
 unfold Proofs.YtnipofpbcggjcaaGreatDoor.fY
 split
 ·rename_i hb
  split
  ·rename_i h0
   exact hI.CX hd ji hgn h0 (.inr (.inr rfl)) ⟨by decide,by decide⟩ (Ya hb)
  exact hI
 exact hI
theorem Inv.eU (hI:Inv S) (hd:Live S.idx ⟨d,2⟩):Inv (Proofs.YtnipofpbcggjcaaGreatDoor.eU S d name).2:=by
 unfold Proofs.YtnipofpbcggjcaaGreatDoor.eU
 split
 ·exact hI
 rename_i t hl
 split
 ·exact hI
 rename_i hk
 exact hI.CP hd hl hk
theorem Inv.fT (hI:Inv S) (hd:Live S.idx ⟨d,2⟩):Inv (Proofs.YtnipofpbcggjcaaGreatDoor.fT S d name).2:=by
 unfold Proofs.YtnipofpbcggjcaaGreatDoor.fT
 split
 ·exact hI
 rename_i t hl
 split
 ·split
  ·rename_i he
   exact hI.drop hd hl (λ_=>he)
  exact hI
 exact hI
theorem PY {t:Th} (ht:t.k≠to):(obj (aB S d name t).O to).gone=(obj S.O to).gone:=by
 have h1:(obj (aB S d name t).O to).gone=(obj (aC S.X S.O d name t) to).gone:=by
  unfold aB
  simp only
  split
  ·show (obj (ay _ t.k _) to).gone=_
   rw [fQ (λe=>ht e.symm)]
  rfl
 rw [h1]
 exact cD (g:=aI.gone) (λ_ _=>rfl) (λ_ _=>rfl) (λ_ _ _=>rfl)
theorem Inv.bF (hI:Inv S) (hd:Live S.idx ⟨d,2⟩) (hto:Live S.idx ⟨to,2⟩) (ji:(obj S.O to).gone=false) (hgn:aS toName):Inv (Proofs.YtnipofpbcggjcaaGreatDoor.bF S d name to toName).2:=by
 unfold Proofs.YtnipofpbcggjcaaGreatDoor.bF
 split
 ·exact hI
 rename_i t hl
 split
 ·exact hI
 rename_i hb
 have hb:t.kind=2->¬pq S.O t.k to:=λh1 h2=>hb ⟨h1,h2⟩
 split
 ·rename_i hn
  exact hI.move hd hl hto ji hn hgn hb
 rename_i o hl2
 split
 ·exact hI
 rename_i hot
 split
 ·exact hI
 rename_i hok
 split
 ·exact hI
 rename_i htk
 have ho:=(hI.ent hto hl2).2
 have Zy:o.k≠to:=hI.ne hto hl2
 have h1:=hI.CP hto hl2 hok
 have hd1:Live (aB S to toName o).idx ⟨d,2⟩:=lN hI.toInv0 hto hl2 hd (λe=>hok (by have:=gi hd ho e;rw [←this]))
 have lH:Live (aB S to toName o).idx ⟨to,2⟩:=lN hI.toInv0 hto hl2 hto (λe=>Zy e.symm)
 exact h1.move hd1 (uy hI.toInv0 hto hl2 hl hot) lH (by rw [PY Zy];exact ji) (uz hI.toInv0 hto hl2) hgn (λh=>absurd h htk)
theorem Inv.kr (hI:Inv S) (hd:Live S.idx ⟨d,2⟩) (hto:Live S.idx ⟨to,2⟩) (ji:(obj S.O to).gone=false) (hgn:aS toName):Inv (Proofs.YtnipofpbcggjcaaGreatDoor.kr S d name to toName).2:=by
 unfold Proofs.YtnipofpbcggjcaaGreatDoor.kr
 split
 ·exact hI
 rename_i t hl
 have ht:=(hI.ent hd hl).2
 split
 ·exact hI
 rename_i hk
 split
 ·rename_i hn
  split
  ·rename_i hr
   have hgt:(obj S.O t.k).gone=false:=by
    cases hg:(obj S.O t.k).gone with
    |false=>rfl
    |true=>
      have h1:=(hI.gone t ht hg).1
      have h2:=hI.links t ht
      have h3:0<j3 S.idx S.O t.k:=oo hd hl
      omega
   exact hI.link hto ji hn hgn ht hgt hk hr
  exact hI
 exact hI
theorem Inv.kY (hI:Inv S) (hd:Live S.idx ⟨d,2⟩) (ji:(obj S.O d).gone=false) (hgn:aS name) (hm:gS mode):Inv (Proofs.YtnipofpbcggjcaaGreatDoor.kY S d name mode).2.2:=by
 unfold Proofs.YtnipofpbcggjcaaGreatDoor.kY
 split
 ·rename_i h0
  split
  ·rename_i hlt
   obtain⟨g1,g2,_⟩:=least_le hI.usr (λx hx=>(hI.uw x hx).1)
   obtain⟨v1,v2⟩:=Ol (t:=⟨aE S.X,1⟩) hI.usr hI.uw
   have hm2:=DA (kind:=1) (tg:=⟨#[]⟩) hI.toInv0 hm (.inl ⟨by decide,rfl⟩)
   refine hI.add (us':=ins (ak.least S.us) ⟨aE S.X,1⟩ S.us) (iX:=max S.ar ((S.us.length:Int)+1)) (o:={aZ S.X 1 mode with opens:=1}) hd ji (rY h0) hgn (yt h0) rfl (.inl rfl) rfl rfl rfl rfl rfl ⟨hm2.mode,hm2.uid,hm2.gid,hm2.time,hm2.data,hm2.af,hm2.target⟩ v1 v2 (by rw [iU];omega) (by have:=hI.ar;omega) (λh t e=>?_) (λk hk=>?_) ?_
   ·rw [tv g2] at e
    split at e
    ·cases e;exact⟨.inr rfl,by show (1:Int)≠3;decide⟩
    exact⟨.inl (hI.us h t e).1,(hI.us h t e).2⟩
   ·grind [GZ]
   rw [GZ,if_pos rfl,KZ hI.toInv0];rfl
  exact hI
 exact hI
theorem Inv.fe (hI:Inv S) (c:aD):Inv (Proofs.YtnipofpbcggjcaaGreatDoor.fe S c).2.1:=by
 have habout:∀{need:Int} {d:Nat} {h:Int} {n:ByteArray},dZ S.O S.us h n need=.ok d->Live S.idx ⟨d,2⟩/\(obj S.O d).gone=false/\aS n:=λ{need d h n} e=>by
  rcases iI hI.toInv0 h n need with ⟨e2,h1,_⟩|⟨d2,h1,h2,h3,h4,_⟩
  all_goals grind
 have hnamed:∀{t:Th},fC S.O S.us c=.ok t->Live S.idx t:=λ{t} e=>by
  rcases Fs hI.toInv0 c with ⟨e2,h1,_⟩|⟨k,h1,h2⟩|⟨k,h1,h2⟩|⟨k,h1,h2⟩<;>rw [e] at h1<;>cases h1<;>exact h2
 by_cases h:1<=c.op/\c.op<=15
 ·have h:c.op=1\/c.op=2\/c.op=3\/c.op=4\/c.op=5\/c.op=6\/c.op=7\/c.op=8\/c.op=9\/c.op=10\/c.op=11\/c.op=12\/c.op=13\/c.op=14\/c.op=15:=by omega
  rcases h with h|h|h|h|h|h|h|h|h|h|h|h|h|h|h
  ·rw [zF h]
   unfold iB
   split
   ·exact hI
   rename_i t e
   split
   ·rename_i hk;exact hI.cu (hI.live e) (by rw [hk];decide)
   exact hI
  ·rw [zG h]
   unfold dw
   split
   ·exact hI
   rename_i t e
   split
   ·exact hI
   rename_i hk
   split
   ·exact hI
   exact hI.cu (hnamed e) hk
  ·rw [CQ h]
   unfold cQ
   split
   ·exact hI
   rename_i t e
   split
   ·exact hI
   rename_i hk
   split
   ·exact hI
   exact hI.cu (hnamed e) hk
  ·rw [zH h]
   unfold eY
   split
   ·exact hI
   rename_i d e
   obtain⟨h1,h2,h3⟩:=habout e
   split
   ·rename_i hm;exact hI.jI h1 h2 h3 hm
   exact hI
  ·rw [CR h]
   unfold cE
   split
   ·exact hI
   rename_i d e
   obtain⟨h1,h2,h3⟩:=habout e
   split
   ·rename_i hm
    split
    ·exact hI.kY h1 h2 h3 hm
    exact hI
   exact hI
  ·rw [CS h]
   unfold dR
   split
   ·exact hI
   rename_i d e
   obtain⟨h1,h2,h3⟩:=habout e
   exact hI.fY h1 h2 h3
  ·rw [CU h]
   unfold bU
   split
   ·exact hI
   rename_i d e
   split
   ·exact hI
   rename_i to e2
   obtain⟨h1,h2,h3⟩:=habout e2
   exact hI.kr (habout e).1 h1 h2 h3
  ·rw [CV h]
   unfold fD
   split
   ·exact hI
   rename_i d e
   exact hI.eU (habout e).1
  ·rw [CW h]
   unfold dM
   split
   ·exact hI
   rename_i t e
   split
   ·rename_i hk
    obtain⟨k,kd⟩:=t
    simp only at hk
    subst hk
    exact hI.dL (hI.us _ _ e).1 _
   exact hI
  ·rw [yP h]
   unfold bA
   split
   ·exact hI
   split
   ·exact hI
   split
   ·rename_i hm
    split
    ·rename_i ho
     split
     ·rename_i ht;exact hI.abt hm ho ht
     exact hI
    exact hI
   exact hI
  ·rw [yQ h]
   unfold jZ
   split<;>exact hI
  ·rw [yR h]
   unfold fI
   split<;>exact hI
  ·rw [yS h]
   unfold gq
   split
   ·exact hI
   rename_i t e;exact hI.shut e
  ·rw [yT h]
   unfold gA
   split
   ·exact hI
   rename_i d e
   exact hI.fT (habout e).1
  rw [yU h]
  unfold eF
  split
  ·exact hI
  rename_i d e
  split
  ·exact hI
  rename_i to e2
  obtain⟨h1,h2,h3⟩:=habout e2
  exact hI.bF (habout e).1 h1 h2 h3
 rw [BP h];exact hI
theorem Inv.iH (hI:Inv S) (c:aD):Inv (Proofs.YtnipofpbcggjcaaGreatDoor.iH S c).1:=hI.fe _
end inv
end
section
open Go.RowKit Go.Maps aR ak
structure mK where
 at_:Int
 op:Int
 path:ByteArray
 to:ByteArray
 text:ByteArray
def slash:ByteArray:=⟨#[47]⟩
def aM (s:ByteArray):List ByteArray:=Lib.splitB slash 0 (Lib.countB s slash) s
noncomputable section
def mM (O:bZ):Nat->List ByteArray->Except Int (Nat×ByteArray)
 |_,[]=>.error 170
 |d,[p]=>if (obj O d).gone=true then .error 170 else .ok (d,p)
 |d,p::q::r=>match aH p (obj O d).af with
   |none=>.error 170
   |some t=>if t.kind=3 then .error 174 else if t.kind=1 then .error 173 else mM O t.k (q::r)
instance (ps:List ByteArray):Decidable (∀p∈ps,aS p):=Classical.propDecidable _
def j4 (O:bZ) (d:Nat) (path:ByteArray):Except Int (Nat×ByteArray):=if ∀p∈aM path,aS p then mM O d (aM path) else .error 95
def pu (S:aK) (d:Nat) (name text:ByteArray):Int×aK:=
 if dH S.X S.O S.idx d name=0 then (0,(dL (dr S d name (aZ S.X 1 420)) (aE S.X) text.data.toList).2.2) else (dH S.X S.O S.idx d name,S)
def lZ (S:aK) (d:Nat) (name text:ByteArray):Int×aK:=
 match aH name (obj S.O d).af with
 |none=>(170,S)
 |some t=>if t.kind=3 then (174,S) else if t.kind=2 then (172,S) else ((dL S t.k text.data.toList).2.1,(dL S t.k text.data.toList).2.2)
def kD (S:aK) (top:Nat) (a:mK) (d:Nat) (name:ByteArray):Int×aK:=
 if a.op=1 then pu S d name a.text
 else if a.op=2 then jI S d name 493
 else if a.op=3 then fY S d name a.text
 else if a.op=4 then eU S d name
 else if a.op=5 then fT S d name
 else if a.op=6 then match j4 S.O top a.to with
  |.error e=>(e,S)
  |.ok (to,toName)=>bF S d name to toName
 else lZ S d name a.text
def bP (S:aK) (root:Int) (a:mK):Int×aK:=
 if a.op<1\/a.op>7 then (230,S)
 else match ak.get S.idx root with
  |none=>(141,S)
  |some t=>if t.kind=2 then
   match j4 S.O t.k a.path with
   |.error e=>(e,S)
   |.ok (d,name)=>kD S t.k a d name
   else (173,S)
end
section facts
variable {S:aK} {O:bZ} {d d':Nat} {name:ByteArray} {t:Th}
theorem Ot (hI:Inv0 S):∀(ps:List ByteArray) (d:Nat),Live S.idx ⟨d,2⟩->(∀p∈ps,aS p)->mM S.O d ps=.ok (d',name)->Live S.idx ⟨d',2⟩/\(obj S.O d').gone=false/\aS name
 |[],d,_,_,h=>by cases h
 |[p],d,hd,hg,h=>by
   unfold mM at h
   split at h
   ·cases h
   rename_i hn
   cases h
   exact⟨hd,by simpa using hn,hg _ (List.mem_singleton.2 rfl)⟩
 |p::q::r,d,hd,hg,h=>by
   unfold mM at h
   cases e:aH p (obj S.O d).af with
   |none=>rw [e] at h;cases h
   |some t=>
     rw [e] at h
     simp only at h
     split at h
     ·cases h
     rename_i h3
     split at h
     ·cases h
     rename_i h1
     have hl:=(hI.ent hd e).2
     have hk:t=⟨t.k,2⟩:=by
      have:=(hI.ob _ hl).2.2
      obtain⟨k,kd⟩:=t
      simp only at this h1 h3
      have:kd=2:=by omega
      rw [this]
     rw [hk] at hl
     exact Ot hI (q::r) t.k hl (λp hp=>hg p (List.mem_cons_of_mem _ hp)) h
theorem G0 {path:ByteArray} (hI:Inv0 S) (hd:Live S.idx ⟨d,2⟩) (h:j4 S.O d path=.ok (d',name)):Live S.idx ⟨d',2⟩/\(obj S.O d').gone=false/\aS name:=by
 grind [j4,Ot]
theorem K1 (hI:Inv S) {o:aI}:Live (ins (S.X.last+1) ⟨aE S.X,o.kind⟩ S.idx) ⟨aE S.X,o.kind⟩:=by
 unfold Live
 have h1:=oq hI.toInv0
 have hn:S.X.last+1∉keys S.idx:=by
  cases e:ak.get S.idx (S.X.last+1) with
  |none=>exact get_none.1 e
  |some t=>have:=hI.idx _ _ e;omega
 rw [tv hn]
 simp only
 rw [h1,if_pos rfl]
theorem Inv.pu {text:ByteArray} (hI:Inv S) (hd:Live S.idx ⟨d,2⟩) (ji:(obj S.O d).gone=false) (hgn:aS name):Inv (Proofs.YtnipofpbcggjcaaGreatDoor.pu S d name text).2:=by
 unfold Proofs.YtnipofpbcggjcaaGreatDoor.pu
 split
 ·rename_i h0
  exact (hI.CX hd ji hgn h0 (.inl rfl) ⟨by decide,by decide⟩ (.inl ⟨by decide,rfl⟩)).dL (K1 hI (o:=aZ S.X 1 420)) _
 exact hI
theorem Inv.lZ {text:ByteArray} (hI:Inv S) (hd:Live S.idx ⟨d,2⟩):Inv (Proofs.YtnipofpbcggjcaaGreatDoor.lZ S d name text).2:=by
 unfold Proofs.YtnipofpbcggjcaaGreatDoor.lZ
 split
 ·exact hI
 rename_i t e
 split
 ·exact hI
 split
 ·exact hI
 rename_i h3 h2
 have hl:=(hI.ent hd e).2
 have hk:t=⟨t.k,1⟩:=by
  have:=(hI.ob _ hl).2.2
  obtain⟨k,kd⟩:=t
  grind
 rw [hk] at hl
 exact hI.dL hl _
theorem Inv.kD {top:Nat} {a:mK} (hI:Inv S) (ht:Live S.idx ⟨top,2⟩) (hd:Live S.idx ⟨d,2⟩) (ji:(obj S.O d).gone=false) (hgn:aS name):Inv (Proofs.YtnipofpbcggjcaaGreatDoor.kD S top a d name).2:=by
 unfold Proofs.YtnipofpbcggjcaaGreatDoor.kD
 split
 ·exact hI.pu hd ji hgn
 split
 ·exact hI.jI hd ji hgn ⟨by decide,by decide⟩
 split
 ·exact hI.fY hd ji hgn
 split
 ·exact hI.eU hd
 split
 ·exact hI.fT hd
 split
 ·split
  ·exact hI
  rename_i to toName e
  obtain⟨h1,h2,h3⟩:=G0 hI.toInv0 ht e
  exact hI.bF hd h1 h2 h3
 exact hI.lZ hd
theorem Yb {i:Int} (hI:Inv0 S) (e:ak.get S.idx i=some t) (hk:t.kind=2):Live S.idx ⟨t.k,2⟩:=by
 have:=hI.live e
 obtain⟨k,kd⟩:=t
 simp only at hk
 subst hk
 exact this
theorem Inv.bP {root:Int} {a:mK} (hI:Inv S):Inv (Proofs.YtnipofpbcggjcaaGreatDoor.bP S root a).2:=by
 unfold Proofs.YtnipofpbcggjcaaGreatDoor.bP
 split
 ·exact hI
 split
 ·exact hI
 rename_i t e
 split
 ·rename_i hk
  split
  ·exact hI
  rename_i d name e2
  have ht:=Yb hI.toInv0 e hk
  obtain⟨h1,h2,h3⟩:=G0 hI.toInv0 ht e2
  exact hI.kD ht h1 h2 h3
 exact hI
end facts
section err
variable {S:aK} {c:aD} {d to:Nat} {name toName text:ByteArray} {t:Th}
theorem BQ (h:(cu S t).2.1≠0):(cu S t).2.2=S:=by
 grind [j9,lM]
theorem Fu {m:Int} (h:(jI S d name m).1≠0):(jI S d name m).2=S:=by
 grind [jI]
theorem BR (h:(fY S d name text).1≠0):(fY S d name text).2=S:=by
 grind [fY]
theorem DB (h:(eU S d name).1≠0):(eU S d name).2=S:=by
 grind [eU]
theorem Fv (h:(fT S d name).1≠0):(fT S d name).2=S:=by
 grind [fT]
theorem DC (h:(bF S d name to toName).1≠0):(bF S d name to toName).2=S:=by
 unfold bF at *
 grind
theorem Fw {k:Nat} {bs:List UInt8} (h:(dL S k bs).2.1≠0):(dL S k bs).2.2=S:=by
 grind [dL]
theorem RZ (h:(kr S d name to toName).1≠0):(kr S d name to toName).2=S:=by
 unfold kr at *
 grind
theorem Nn {m:Int} (h:(kY S d name m).2.1≠0):(kY S d name m).2.2=S:=by
 grind [kY]
theorem Yc (h:(fe S c).1≠0):(fe S c).2.1=S:=by
 by_cases hop:1<=c.op/\c.op<=15
 case neg=>rw [BP hop]
 have hop:c.op=1\/c.op=2\/c.op=3\/c.op=4\/c.op=5\/c.op=6\/c.op=7\/c.op=8\/c.op=9\/c.op=10\/c.op=11\/c.op=12\/c.op=13\/c.op=14\/c.op=15:=by omega
 rcases hop with e|e|e|e|e|e|e|e|e|e|e|e|e|e|e
 ·grind [zF,iB,BQ]
 ·grind [zG,dw,BQ]
 ·grind [CQ,cQ,BQ]
 ·grind [zH,eY,Fu]
 ·grind [CR,cE,Nn]
 ·grind [CS,dR,BR]
 ·grind [CU,bU,RZ]
 ·grind [CV,fD,DB]
 ·grind [CW,dM,Fw]
 ·grind [yP,bA]
 ·rw [yQ e]
  unfold jZ
  split<;>rfl
 all_goals grind [yR,fI,yS,gq,yT,gA,Fv,yU,eF,DC]
theorem Yd (h:(iH S c).2.code≠0):(iH S c).1=S:=Yc h
theorem U8 {root:Int} {a:mK} (h:(bP S root a).1≠0):(bP S root a).2=S:=by
 unfold bP at *
 split
 ·rfl
 rename_i e0
 rw [if_neg e0] at h
 cases e1:ak.get S.idx root with
 |none=>rfl
 |some t=>
   rw [e1] at h
   simp only at h ⊢
   split
   ·rename_i e2
    rw [if_pos e2] at h
    cases e3:j4 S.O t.k a.path with
    |error e=>rfl
    |ok x=>
      obtain⟨d,name⟩:=x
      rw [e3] at h
      grind [kD,pu,Fu,BR,DB,Fv,j4,DC,lZ,aH,obj,Fw]
   rfl
end err
end
section
open Go.RowKit Go.WideShapes Go.ChangeShapes Go.ChangeAt Go.Deep
theorem laidOut:laidOutB Tryz.prog=true:=by kernel_rfl
theorem own:ownKnob Tryz.prog.godebug=none:=by kernel_rfl
section row
variable {H:Type} {enc:TypeId×Value->H} {P:Program}
theorem AQ (hl:laidOutB P=true) {W W':World} (hb:Below W.heap.size W W') {sp:Nat->Bool}:∀{ts:List TypeId} {vs:List Value} {ds:List (DataW H)} {ps:List MemPlace},
 (∀t∈ts,P.readableRec t=true/\t<P.types.size)->DataW.TrodAll enc P W 0 (λ_=>true) true ts vs ds ps->(∀x∈ps,x.block<W.heap.size)->(∀x∈ps,sp x.block=true)->DataW.TrodAll enc P W' 0 sp true ts vs ds ps
 |[],vs,ds,ps,_,h,_,_=>by
   obtain⟨rfl,rfl,rfl⟩:=trodAll_nil h
   exact trodAll_mk0
 |t::ts,vs,ds,ps,hr,h,hlt,hsp=>by
   obtain⟨v,vs',d,ds',p,q,rfl,rfl,rfl,h1,h2⟩:=trodAll_cons h
   have h3:=hr t List.mem_cons_self
   exact trodAll_cons_mk (WideElems.Trod_stays hl h3.1 h3.2 h1 (λx hx=>hb.same (hlt x (List.mem_append.2 (.inl hx)))) (λx hx=>hsp x (List.mem_append.2 (.inl hx))))
    (AQ hl hb (λt ht=>hr t (List.mem_cons_of_mem _ ht)) h2 (λx hx=>hlt x (List.mem_append.2 (.inr hx))) (λx hx=>hsp x (List.mem_append.2 (.inr hx))))
def Zz (P:Program) (f:Func):Bool:=f.params.toList.all λt=>P.readableRec t && decide (t<P.types.size)
theorem law_post (hl:laidOutB P=true) {f:Func} {s:ChangeSpec} {apart fresh handsOn again:Bool} {W W':World} {args:Array Value} {ds gs:List (DataW H)} {before:List MemPlace} {tb:TypeId} {rb:Bool}
 (hW:DataW.Whole enc P f.params.toList s.vars apart W args.toList ds gs before) (hvars:s.vars=[]) (hrow:Zz P f=true) (hres:f.resultTypes=#[tb]) (hb0:P.underlying tb=some .bool)
 (hfn:(s.fn H (ds++gs)).results=[.lit (.bool rb)]) (hargs:(s.fn H (ds++gs)).args=ds) (hv:(s.fn H (ds++gs)).vars=[]) (hb:Below W.heap.size W W') :
 s.post enc P f apart fresh handsOn again W args (.bool rb) W':=by
 have hW':=hW
 obtain⟨p,q,hA,hV,rfl,_,_⟩:=hW
 rw [hvars] at hV
 obtain⟨rfl,rfl⟩:=trodVars_none hV
 have hlt:∀x∈p,x.block<W.heap.size:=λx hx=>hW'.lt x (List.mem_append.2 (.inl hx))
 have hr:∀t∈f.params.toList,P.readableRec t=true/\t<P.types.size:=λt ht=>by
  grind [Zz]
 refine Jy (pa:=p) (pv:=[]) hW' (λb sp hd=>?_) (λsp hsp=>?_) (λsp _=>?_) (by simp) hb (ok_one hres rfl (okWide_bool_mk hb0 _))
 ·rw [hfn,hres]
  exact trodAll_cons_mk (shut_bool hb0 _) trodAll_mk0
 ·grind [AQ]
 rw [hvars,hv]
 exact rfl
end row
end
section
open Go.RowKit Go.WideShapes Go.ChangeShapes Go.ChangeAt Go.Deep
abbrev B0 (W:World):Bs:=⟨(· < W.heap.size),W⟩
theorem Ou {w:World} {a:Addr} {v:Value} (h:w.cell? a=some v):a.block<w.heap.size:=by
 unfold World.cell? at h
 grind
theorem R3 {w:World} {a:Addr} {v:Value} (h:w.cell? a=some v):a.spot=none:=by
 unfold World.cell? at h
 split at h
 ·split at h
  ·cases h
  rename_i h0
  cases hs:a.spot with
  |none=>rfl
  |some x=>rw [hs] at h0;exact absurd rfl h0
 cases h
theorem add_plain {a:Addr} (k:Nat) (h:a.spot=none):a.add k=⟨a.block,a.off+k,none⟩:=by
 obtain⟨b,o,s⟩:=a
 cases h
 unfold Addr.add
 split
 ·rename_i h0;subst h0;rfl
 rfl
theorem Em {H:Type} {D:Nat->DataW H} {n i:Nat} (hi:i<n):Rows.uptoBulk (D i)<=Rows.uptoBulkAll ((List.range n).map D):=by
 have hm:D i∈(List.range n).map D:=by grind
 generalize (List.range n).map D=l at hm
 induction l with
 |nil=>cases hm
 |cons x r ih=>
   simp only [Rows.uptoBulkAll]
   grind
theorem U9 {H:Type} (d:DataW H):1<=Rows.uptoBulk d:=by
 cases d with
 |lit l=>cases l<;>simp [Rows.uptoBulk]
 |nil=>simp [Rows.uptoBulk]
 |ptr d=>simp [Rows.uptoBulk]
 |slice elems spare=>simp [Rows.uptoBulk]
 |agg parts=>simp [Rows.uptoBulk]
 |iface t d=>simp [Rows.uptoBulk]
 |map entries=>simp [Rows.uptoBulk]
 |held h=>simp [Rows.uptoBulk]
theorem zJ {H:Type} (l:List (DataW H)):l.length<=Rows.uptoBulkAll l:=by
 induction l with
 |nil=>simp [Rows.uptoBulkAll]
 |cons x r ih=>have:=U9 x;simp only [Rows.uptoBulkAll,List.length_cons];omega
theorem bulk_mem {H:Type} {d:DataW H} {l:List (DataW H)} (h:d∈l):Rows.uptoBulk d<=Rows.uptoBulkAll l:=by
 induction l with
 |nil=>cases h
 |cons x r ih=>
   simp only [Rows.uptoBulkAll]
   grind
section open_
variable {H:Type} {enc:TypeId×Value->H} {P:Program} {W:World} {sp:Nat->Bool}
theorem wA {α:Type} [Inhabited α] {t e:TypeId} {size:Nat} {f:α->List Value} {Q:α->DataW H->Prop} (ht:P.underlying t=some (.slice e)) (hC:P.cellsOf e=size) (h0:0<size)
 (hel:∀n cs x,DataW.trod enc P W 0 sp true n e cs=some x->∃a,cs=f a/\Q a x.1) (hf:∀a,(f a).length=size)
 {fuel:Nat} {cs:List Value} {x:DataW H×List MemPlace} (h:DataW.trod enc P W 0 sp true fuel t cs=some x) :
 ∃A c,∃xs:List α,∃D:Nat->DataW H,cs=[.slice A xs.length c]/\xs.length<=c/\c<=maxLen/\bW (B0 W) A (fw (λ_ a=>f a) 0 xs)/\(∀i,i<xs.length->Q (xs.getD i default) (D i)) ∧
   Rows.uptoBulkAll ((List.range xs.length).map D)+1<=Rows.uptoBulk x.1:=by
 rcases open_slice ht h with ⟨hv,hx⟩|⟨a,len,cap,m,n,D,Pl,hcs,hb,hl,hm,hmm,hx,hi⟩
 ·subst hv
  refine⟨none,0,[],λ_=>.nil,rfl,Nat.le_refl _,Nat.zero_le _,λj v hj=>by simp [fw] at hj,λi hi=>absurd hi (Nat.not_lt_zero i),?_⟩
  rw [hx]
  simp [Rows.uptoBulk,Rows.uptoBulkAll]
 have hlm:len<=m:=by rw [hmm];split<;>omega
 have hch:∀i,∃b:α,i<len->(W.cells? 0 (a.add (i*P.cellsOf e)) (P.cellsOf e)=some (f b)/\Q b (D i)):=λi=>by
  by_cases hil:i<len
  ·obtain⟨cs',h1,h2⟩:=hi i (by omega)
   grind
  exact⟨default,λh=>absurd h hil⟩
 have hg:=λi=>Classical.choose_spec (hch i)
 generalize hG:(λi=>Classical.choose (hch i))=g at hg
 have hg:∀i,i<len->W.cells? 0 (a.add (i*P.cellsOf e)) (P.cellsOf e)=some (f (g i))/\Q (g i) (D i):=λi hi=>by
  grind
 have hlen:((List.range len).map g).length=len:=by simp
 have hget:∀i,i<len->((List.range len).map g)[i]?=some (g i):=λi hi=>by simp [hi]
 have acZ:∀i,i<len->((List.range len).map g).getD i default=g i:=by grind
 have hs1:0<len->a.spot=none:=λhl0=>by
  obtain⟨h2,-⟩:=hg 0 hl0
  rw [hC] at h2
  obtain⟨_,hcl,hat⟩:=World.cells?_some h2
  have h3:=hat 0 h0
  rw [List.getElem?_eq_getElem (by rw [hcl];exact h0)] at h3
  have e:(a.add (0*size)).add 0=a:=by rw [Nat.zero_mul];rfl
  rw [e] at h3
  exact R3 h3
 refine⟨some a,cap,(List.range len).map g,D,by rw [hlen];exact hcs,by rw [hlen];exact hl,hm,λj v hj=>?_,λi hi'=>?_,?_⟩
 ·have hfl:=xk (f:=λ_ a=>f a) (s:=size) (λ_ a=>hf a) ((List.range len).map g) 0
  have hjl:=bT hj
  rw [hfl,hlen] at hjl
  have sS:j / size<len:=(Nat.div_lt_iff_lt_mul h0).2 hjl
  have hj2:j % size<size:=Nat.mod_lt _ h0
  have e:=Nat.div_add_mod j size
  rw [Nat.mul_comm] at e
  have h1:=rP (f:=λ_ a=>f a) (s:=size) (λ_ a=>hf a) _ 0 _ (j % size) _ (hget _ sS) hj2
  rw [e,hj] at h1
  obtain⟨h2,-⟩:=hg _ sS
  rw [hC] at h2
  obtain⟨_,_,hat⟩:=World.cells?_some h2
  have h3:=hat _ hj2
  rw [←h1] at h3
  have hs1:=hs1 (Nat.lt_of_le_of_lt (Nat.zero_le _) sS)
  rw [add_plain _ hs1] at h3
  rw [add_plain (a:=⟨a.block,a.off+j / size*size,none⟩) _ rfl] at h3
  have e2:a.off+j / size*size+j % size=a.off+j:=by omega
  have h4:W.cell? ⟨a.block,a.off+j,none⟩=some v:=by rw [←e2];exact h3
  have ea:(some a:Option Addr)=some ⟨aV (some a),aU (some a),none⟩:=by
   obtain⟨b,o,s⟩:=a
   cases hs1
   rfl
  exact⟨ea,Ou h4,h4⟩
 ·grind
 rw [hx,hlen]
 simp only [Rows.uptoBulk]
 omega
theorem Ov {t:TypeId} {n:Nat} {cs:List Value} {x:DataW H×List MemPlace} (ht:P.underlying t=some (.int .u8)) (h:DataW.trod enc P W 0 sp true n t cs=some x):∃b:UInt8,cs=[xj b]/\True:=by
 obtain⟨z,h1,_,h3⟩:=DataW.trod_int ht h
 have h4:0<=z/\z<=255:=by simpa [Lit.wf,IntKind.min,IntKind.max,IntKind.signed,IntKind.bits] using h3
 refine⟨UInt8.ofNat z.toNat,?_,trivial⟩
 have e:(((UInt8.ofNat z.toNat).toNat:Nat):Int)=z:=by
  rw [UInt8.toNat_ofNat']
  omega
 rw [xj,e]
 exact h1
def vf (z:Int):Prop:=-9223372036854775808<=z/\z<=9223372036854775807
theorem kE {t:TypeId} {n:Nat} {c:Value} {x:DataW H×List MemPlace} (ht:P.underlying t=some (.int .i64)) (h:DataW.trod enc P W 0 sp true n t [c]=some x):∃z,c=.int .i64 z/\vf z:=by
 obtain⟨z,h1,_,h3⟩:=DataW.trod_int ht h
 cases h1
 exact⟨z,rfl,by unfold vf;simpa [Lit.wf,IntKind.min,IntKind.max,IntKind.signed,IntKind.bits] using h3⟩
theorem rA {t:TypeId} {n:Nat} {c:Value} {x:DataW H×List MemPlace} (ht:P.underlying t=some .string) (h:DataW.trod enc P W 0 sp true n t [c]=some x):∃s:ByteArray,c=.string s/\s.size+1<=Rows.uptoBulk x.1:=by
 obtain⟨s,h1,h2,_⟩:=DataW.trod_string ht h
 cases h1
 refine⟨s,rfl,?_⟩
 rw [h2]
 simp only [Rows.uptoBulk,Array.length_toList]
 exact Nat.le_refl _
end open_
section graph
variable {H:Type} {enc:TypeId×Value->H} {W:World} {sp:Nat->Bool}
theorem Fx:∀(d:List UInt8) (k:Nat),fw (λ_ b=>[xj b]) k d=bY d
 |[],_=>rfl
 |b::r,k=>by rw [fw,Fx r (k+1)];rfl
theorem Fy {n:Nat} {c:Value} {x:DataW H×List MemPlace} (h:DataW.trod enc Tryz.prog W 0 sp true n 46 [c]=some x) :
 ∃A cp,∃d:List UInt8,c=.slice A d.length cp/\aW (B0 W) A d/\d.length+1<=Rows.uptoBulk x.1:=by
 obtain⟨A,cp,xs,D,h1,_,_,h2,_,h3⟩:=wA (α:=UInt8) (f:=λb=>[xj b]) (Q:=λ_ _=>True) Tryz.underlying46 (size:=1) (by kernel_rfl) (by decide) (λn cs x h=>Ov Tryz.underlying5 h) (λ_=>rfl) h
 cases h1
 have:=zJ ((List.range xs.length).map D)
 refine⟨A,cp,xs,rfl,?_,by simp at this;omega⟩
 rw [Fx] at h2
 exact h2
structure PZ (e:cR) (b:Nat):Prop where
 id:vf e.id
 name:e.name.size+1<=b
theorem bq {n:Nat} {cs:List Value} {xs:List (DataW H×List MemPlace)} {i:Nat} {t:TypeId} (h:DataW.trod enc Tryz.prog W 0 sp true n t cs=xs[i]?) (hi:i<xs.length):DataW.trod enc Tryz.prog W 0 sp true n t cs=some xs[i]/\Rows.uptoBulk (xs[i]).1<=Rows.uptoBulk (.agg (xs.map (·.1))):=by
 refine⟨h.trans (List.getElem?_eq_getElem hi),?_⟩
 have hm:(xs[i]).1∈xs.map (·.1):=by grind
 have:=bulk_mem hm
 simp only [Rows.uptoBulk]
 omega
theorem Va {n:Nat} {cs:List Value} {x:DataW H×List MemPlace} (h:DataW.trod enc Tryz.prog W 0 sp true n 90 cs=some x):∃e:cR,cs=D1 e/\PZ e (Rows.uptoBulk x.1):=by
 obtain⟨ys,m,_,hx,hl,qJ,hf⟩:=DataW.trod_struct Tryz.underlying90 h
 have hC:Tryz.prog.cellsOf 90=2:=by kernel_rfl
 rw [hC] at hl
 match cs,hl with
 |[c0,c1],_=>
   obtain⟨h0,b0⟩:=bq (hf 0 _ rfl) (by rw [qJ];decide)
   obtain⟨h1,_⟩:=bq (hf 1 _ rfl) (by rw [qJ];decide)
   obtain⟨s,rfl,hs⟩:=rA Tryz.underlying9 h0
   obtain⟨z,rfl,hz⟩:=kE Tryz.underlying3 h1
   exact⟨⟨s,z⟩,rfl,⟨hz,by rw [hx];exact Nat.le_trans hs b0⟩⟩
theorem R4 {n:Nat} {c:Value} {x:DataW H×List MemPlace} (h:DataW.trod enc Tryz.prog W 0 sp true n 73 [c]=some x) :
 ∃A cp,∃es:List cR,c=.slice A es.length cp/\bp (B0 W) A es/\es.length+1<=Rows.uptoBulk x.1/\∀i,i<es.length->PZ (en es i) (Rows.uptoBulk x.1):=by
 obtain⟨A,cp,xs,D,h1,_,_,h2,h4,h3⟩:=wA (α:=cR) (f:=D1) (Q:=λe d=>PZ e (Rows.uptoBulk d)) Tryz.underlying73 (size:=2) (by kernel_rfl) (by decide) (λn cs x h=>Va h) (λ_=>rfl) h
 cases h1
 have h5:=zJ ((List.range xs.length).map D)
 refine⟨A,cp,xs,rfl,h2,by simp at h5;omega,λi hi=>⟨(h4 i hi).id,?_⟩⟩
 have h6:=(h4 i hi).name
 have h7:=Em (D:=D) hi
 unfold en
 omega
structure WM (nd:au) (b:Nat):Prop where
 ids:vf nd.id/\vf nd.kind/\vf nd.mode/\vf nd.uid/\vf nd.gid/\vf nd.sec/\vf nd.nano
 data:nd.data.length+1<=b
 target:nd.target.size+1<=b
 af:nd.af.length+1<=b
 ent:∀i,i<nd.af.length->PZ (en nd.af i) b
structure Fz where
 n:au
 dA:Option Addr
 dC:Nat
 eA:Option Addr
 eC:Nat
deriving Inhabited
def ZA (a:Fz):List Value:=[.int .i64 a.n.id,.int .i64 a.n.kind,.int .i64 a.n.mode,.int .i64 a.n.uid,.int .i64 a.n.gid,.int .i64 a.n.sec,.int .i64 a.n.nano,.slice a.dA a.n.data.length a.dC,.string a.n.target,.slice a.eA a.n.af.length a.eC]
structure WN (W:World) (a:Fz) (b:Nat):Prop where
 nb:WM a.n b
 data:aW (B0 W) a.dA a.n.data
 af:bp (B0 W) a.eA a.n.af
theorem R5 {n:Nat} {cs:List Value} {x:DataW H×List MemPlace} (h:DataW.trod enc Tryz.prog W 0 sp true n 75 cs=some x):∃a:Fz,cs=ZA a/\WN W a (Rows.uptoBulk x.1):=by
 obtain⟨ys,m,_,hx,hl,qJ,hf⟩:=DataW.trod_struct Tryz.underlying75 h
 have hC:Tryz.prog.cellsOf 75=10:=by kernel_rfl
 rw [hC] at hl
 match cs,hl with
 |[c0,c1,c2,c3,c4,c5,c6,c7,c8,c9],_=>
   obtain⟨h0,_⟩:=bq (hf 0 _ rfl) (by rw [qJ];decide)
   obtain⟨h1,_⟩:=bq (hf 1 _ rfl) (by rw [qJ];decide)
   obtain⟨h2,_⟩:=bq (hf 2 _ rfl) (by rw [qJ];decide)
   obtain⟨h3,_⟩:=bq (hf 3 _ rfl) (by rw [qJ];decide)
   obtain⟨h4,_⟩:=bq (hf 4 _ rfl) (by rw [qJ];decide)
   obtain⟨h5,_⟩:=bq (hf 5 _ rfl) (by rw [qJ];decide)
   obtain⟨h6,b6⟩:=bq (hf 6 _ rfl) (by rw [qJ];decide)
   obtain⟨h7,b7⟩:=bq (hf 7 _ rfl) (by rw [qJ];decide)
   obtain⟨h8,b8⟩:=bq (hf 8 _ rfl) (by rw [qJ];decide)
   obtain⟨z0,rfl,w0⟩:=kE Tryz.underlying3 h0
   obtain⟨z1,rfl,w1⟩:=kE Tryz.underlying3 h1
   obtain⟨z2,rfl,w2⟩:=kE Tryz.underlying3 h2
   obtain⟨z3,rfl,w3⟩:=kE Tryz.underlying3 h3
   obtain⟨z4,rfl,w4⟩:=kE Tryz.underlying3 h4
   obtain⟨us,_,_,_,_,uD,hu⟩:=DataW.trod_struct Tryz.underlying26 h5
   obtain⟨g0,_⟩:=bq (hu 0 _ rfl) (by rw [uD];decide)
   obtain⟨g1,_⟩:=bq (hu 1 _ rfl) (by rw [uD];decide)
   obtain⟨z5,rfl,w5⟩:=kE (c:=c5) Tryz.underlying3 g0
   obtain⟨z6,rfl,w6⟩:=kE (c:=c6) Tryz.underlying3 g1
   obtain⟨A7,p7,d7,rfl,q7,l7⟩:=Fy (c:=c7) h6
   obtain⟨s8,rfl,l8⟩:=rA (c:=c8) Tryz.underlying9 h7
   obtain⟨A9,p9,e9,rfl,q9,l9,k9⟩:=R4 (c:=c9) h8
   rw [hx]
   exact⟨⟨⟨z0,z1,z2,z3,z4,z5,z6,d7,s8,e9⟩,A7,p7,A9,p9⟩,rfl,⟨⟨w0,w1,w2,w3,w4,w5,w6⟩,Nat.le_trans l7 b6,Nat.le_trans l8 b7,Nat.le_trans l9 b8,λi hi=>⟨(k9 i hi).id,Nat.le_trans (k9 i hi).name b8⟩⟩,q7,q9⟩
structure l6 (ns:List au) (b:Nat):Prop where
 len:ns.length+1<=b
 node:∀i,i<ns.length->WM (nd ns i) b
theorem FA (L:Lay):∀(xs:List Fz) (k:Nat),(∀i,i<xs.length->L.dA (k+i)=(xs.getD i default).dA/\L.dC (k+i)=(xs.getD i default).dC/\L.eA (k+i)=(xs.getD i default).eA/\L.eC (k+i)=(xs.getD i default).eC)->fw (λ_ a=>ZA a) k xs=fw (eT L) k (xs.map (·.n))
 |[],_,_=>rfl
 |a::r,k,h=>by
   obtain⟨h1,h2,h3,h4⟩:=h 0 (by simp)
   simp only [Nat.add_zero,List.getD_cons_zero] at h1 h2 h3 h4
   rw [fw,List.map_cons,fw,FA L r (k+1) (λi hi=>by
    have:=h (i+1) (by simp;omega)
    rw [List.getD_cons_succ] at this
    have e:k+(i+1)=k+1+i:=by omega
    rw [e] at this
    exact this)]
   rw [eT,h1,h2,h3,h4]
   rfl
theorem P0 {n:Nat} {c:Value} {x:DataW H×List MemPlace} (h:DataW.trod enc Tryz.prog W 0 sp true n 22 [c]=some x) :
 ∃A cp,∃ns:List au,∃L:Lay,c=.slice A ns.length cp/\av (B0 W) A ns L/\l6 ns (Rows.uptoBulk x.1):=by
 obtain⟨A,cp,xs,D,h1,_,_,h2,h4,h3⟩:=wA (α:=Fz) (f:=ZA) (Q:=λa d=>WN W a (Rows.uptoBulk d)) Tryz.underlying22 (size:=10) (by kernel_rfl) (by decide) (λn cs x h=>R5 h) (λ_=>rfl) h
 cases h1
 have h5:=zJ ((List.range xs.length).map D)
 have e:(xs.map (·.n)).length=xs.length:=by simp
 have hnd:∀i,i<xs.length->nd (xs.map (·.n)) i=(xs.getD i default).n:=λi hi=>by
  simp [nd,List.getD_eq_getElem?_getD,hi]
 refine⟨A,cp,xs.map (·.n),⟨λi=>(xs.getD i default).dA,λi=>(xs.getD i default).eA,λi=>(xs.getD i default).dC,λi=>(xs.getD i default).eC⟩,by rw [e],⟨?_,λi hi=>?_,λi hi=>?_⟩,by simp at h5;rw [e];omega,λi hi=>?_⟩
 ·rw [FA ⟨λi=>(xs.getD i default).dA,λi=>(xs.getD i default).eA,λi=>(xs.getD i default).dC,λi=>(xs.getD i default).eC⟩ xs 0 (λi _=>by grind)] at h2
  exact h2
 ·rw [e] at hi
  rw [hnd i hi]
  exact (h4 i hi).data
 ·rw [e] at hi
  rw [hnd i hi]
  exact (h4 i hi).af
 rw [e] at hi
 rw [hnd i hi]
 have h7:=Em (D:=D) hi
 have h8:=(h4 i hi).nb
 exact⟨h8.ids,by have:=h8.data;omega,by have:=h8.target;omega,by have:=h8.af;omega,λj hj=>⟨(h8.ent j hj).id,by have:=(h8.ent j hj).name;omega⟩⟩
end graph
end
section
open Go.RowKit
attribute [local irreducible] ai aQ ah aj iL
theorem Vb {β:Bs} (A:Option Addr) (ns:List au) (L:Lay) (hG:av β A ns L) (hr:bK ns) (i:Nat) (hi:i<ns.length) (hel:(nd ns i).af.length<=1048576) (hwf:∀j,j<(nd ns i).af.length->-9223372036854775808<=(ent ns i j).id/\(ent ns i j).id<=9223372036854775807) (hnm:∀j,j<(nd ns i).af.length->(ent ns i j).name.size<=1048576)
 (mb mp:Nat) (ps:List (Nat×Nat)) (hpl:ps.length<=16777216) (hps:∀p,p∈ps->p.1<ns.length) (hnp:(ps.map Prod.fst).Nodup) :
 Spec Tryz.prog β 110 #[.pointer (some ⟨(aV A),aU A+i*10,none⟩),.map (some mb),.map (some mp)] [.abs (aY Tryz.prog 3 mb (mf (bf A ns ns.length)) ns.length),.abs (aY Tryz.prog 3 mp (mf (pf ((ps).map (iT ns)))) ((ps).length))] (λv l=>(v=.bool true/\zx ns i ps/\l=[.abs (aY Tryz.prog 3 mb (mf (bf A ns ns.length)) ns.length),.abs (aY Tryz.prog 3 mp (mf (pf ((eE ns i (nd ns i).af.length++ps).map (iT ns)))) ((eE ns i (nd ns i).af.length++ps).length))])\/(v=.bool false/\¬zx ns i ps/\l=[])):=by
 refine SE Tryz.func110 Tryz.ntmps110 (λR=>SR (jK 1 [] [] (NS (jK 1 [7] [] (NZ (jK 6 [16,17,18] [(3,r_ (av.rd hG (i:=i) (by omega) (j:=9) rfl))] (NN (ah.block (lJ (λ(j:Nat)=>(j<=(nd ns i).af.length)/\(∀t,t<j->tX ns i t)/\(((eE ns i j++ps).map Prod.fst).Nodup)) (λ(j:Nat)=>(nd ns i).af.length-j) (λ(j:Nat)=>[(0,.pointer (some ⟨(aV A),aU A+i*10,none⟩)),(1,.map (some mb)),(2,.map (some mp)),(7,.string (wj ns i j)),(16,.slice (L.eA i) ((nd ns i).af.length) ((L.eC i))),(17,vI ↑((nd ns i).af.length)),(18,vI ↑j)]) (λ(j:Nat)=>[.abs (aY Tryz.prog 3 mb (mf (bf A ns ns.length)) ns.length),.abs (aY Tryz.prog 3 mp (mf (pf ((eE ns i j++ps).map (iT ns)))) ((eE ns i j++ps).length)),.abs R]) 0 [0,1,2] (⟨Nat.zero_le _,λt ht=>absurd ht (Nat.not_lt_zero t),hnp⟩) ?_)))))))))
 rintro j ⟨hj,hok,hnd⟩
 refine SR (jK 1 [19] [] (NN (ah.seq (cP ((((j:Nat):Int):Int)<((((nd ns i).af.length:Nat):Int):Int)) (λIm=>KX (ah.seq (ah.block (SR (jN 4 [9] (λb1=>[(0,x_ j ((nd ns i).af.length) (bp.hd (hG.af i (by omega)) (i:=j) (by omega))),(1,r2 (bp.rd (hG.af i (by omega)) (i:=j) (by omega) (j:=0) rfl) (bp.rd (hG.af i (by omega)) (i:=j) (by omega) (j:=1) rfl)),(3,A_ 3 b1 2)]) (λ_=>[]) (λb1=>.blk b1 [.string (en (nd ns i).af j).name,vI ((en (nd ns i).af j).id)] 90) (λb1=>NS (jK 3 [22,24] [(2,a_ 3 b1)] ?_))))))) (λIm=>XX (zR (l:=[.abs (aY Tryz.prog 3 mb (mf (bf A ns ns.length)) ns.length),.abs (aY Tryz.prog 3 mp (mf (pf ((eE ns i j++ps).map (iT ns)))) ((eE ns i j++ps).length))]) (.inl ⟨rfl,⟨λt ht=>hok t (by omega),by grind⟩,by grind⟩)))))))
 by_cases hat:0<=dV ns (en (nd ns i).af j).id
 ·have htl:=jY hat
  refine ai.ig 0 (d:=(some 25)) (t:=135) (K:=3) (E:=167) (b:=mb) (n:=ns.length) (f:=(mf (bf A ns ns.length))) (x:=(.tmp 22)) (ix:=(.tmp 24)) (key:=.int .i64 ((en (nd ns i).af j).id)) (z:=.pointer none) (kl:=(.int .i64 (en (nd ns i).af j).id)) (r:=(some (.pointer (some ⟨(aV A),aU A+(tgt ns (en (nd ns i).af j).id)*10,none⟩)))) (λ_=>by kernel_rfl) (by kernel_rfl) (λ_=>by kernel_rfl) (λ_=>by kernel_rfl) gH Tryz.underlying135 (λ_=>by kernel_rfl) (tq (hwf j (by omega)).1 (hwf j (by omega)).2) (abh hat htl.1) (jK 1 [10] [] (NZ (jK 5 [28,30] [(4,a_ 3 b1)] (gE [] (wi (en (nd ns i).af j).name (hnm j (by omega))) (jK 3 [34] [] (sN 34 (aS (en (nd ns i).af j).name) (λwB=>jK 5 [39] [] (NT (zR (.inr ⟨rfl,λh=>wB (h.af j (by omega)).good,rfl⟩) [2]))) (λwB=>jK 5 [39] [(1,a_ 3 b1),(3,w_ (.bool (decide (fM ((en (nd ns i).af j).name) (wj ns i j)))) (Kv _ _))] (NN (cP (fM ((en (nd ns i).af j).name) (wj ns i j)) (λqB=>zR (.inr ⟨rfl,λh=>(h.af j (by omega)).ord qB,rfl⟩) [2]) (λqB=>KX (SR (jK 3 [7] [(1,a_ 3 b1)] (NZ (jK 5 [46] [(3,r_ (av.rd hG (i:=(tgt ns (en (nd ns i).af j).id)) (by omega) (j:=1) rfl))] (NN (cN (((nd ns (tgt ns (en (nd ns i).af j).id)).kind:Int)=(2:Int)) (λh46=>XX (ah.region (ai.bL 1 (p':=.abs (aY Tryz.prog 3 mp (mf (pf ((eE ns i (j+1)++ps).map (iT ns)))) ((eE ns i (j+1)++ps).length))) rfl (by rw [oF h46]) (jK 2 [18] [(0,wJ ((j:Int)+1) (↑(j+1)))] (NL (tJ ((j+1)) [0,1,2] (⟨by omega,λt ht=>(by rcases Nat.lt_succ_iff_lt_or_eq.1 ht with h|h;exact hok t h;subst h;exact⟨hat,wB,qB⟩),(by rw [oF h46];exact hnd)⟩))))))) (λh46=>KX (SQ (jK 3 [48,50] [(2,a_ 3 b1)] ?_)))))))))))))))))))
  rcases hup:up ((eE ns i j++ps).map (iT ns)) (en (nd ns i).af j).id with _|y
  ·exact ai.xg 1 (d:=(some 51)) (t:=169) (K:=3) (E:=3) (b:=mp) (n:=(eE ns i j++ps).length) (f:=(mf (pf ((eE ns i j++ps).map (iT ns))))) (x:=(.tmp 48)) (ix:=(.tmp 50)) (key:=.int .i64 ((en (nd ns i).af j).id)) (z:=.int .i64 0) (kl:=(.int .i64 (en (nd ns i).af j).id)) (r:=none) (λ_=>by kernel_rfl) (by kernel_rfl) (λ_=>by kernel_rfl) (λ_=>by kernel_rfl) gH Tryz.underlying169 (λ_=>by kernel_rfl) (tq (hwf j (by omega)).1 (hwf j (by omega)).2) (zq hup) (jK 5 [12] [] (NS (jK 1 [54] [] (NF (KX (ah.tV 7 (by kernel_rfl) (by kernel_rfl) (iL.seg (k':=7) (fr':=[(0,.pointer (some ⟨(aV A),aU A+i*10,none⟩)),(1,.map (some mb)),(2,.map (some mp)),(7,.string (en (nd ns i).af j).name),(16,.slice (L.eA i) ((nd ns i).af.length) ((L.eC i))),(17,vI ↑((nd ns i).af.length)),(18,vI ↑j),(55,.map (some mp)),(57,vI ((en (nd ns i).af j).id)),(61,vI ((nd ns i).id))]) (cG:=[(Rd β ⟨(aV A),aU A+i*10,none⟩ (.int .i64 ((nd ns i).id))),b1=b1]) [o_,o_,⟨[.at 3],none,none,none,none⟩,o_,o_,o_,⟨[.old (.int .i64 ((nd ns i).id))],none,none,none,none⟩] [0,1,2,7,16,17,18,55,57,61] (λ_ _=>by kernel_rfl) ⟨av.rd hG (i:=i) (by omega) (j:=0) rfl,rfl,trivial⟩ (by decide) (iL.done rfl (ai.pY 1 (d:=none) (t:=169) (K:=3) (E:=3) (b:=mp) (n:=(eE ns i j++ps).length) (f:=(mf (pf ((eE ns i j++ps).map (iT ns))))) (x:=(.tmp 55)) (ix:=(.tmp 57)) (y:=(.tmp 61)) (key:=.int .i64 ((en (nd ns i).af j).id)) (u:=.int .i64 ((nd ns i).id)) (kl:=(.int .i64 (en (nd ns i).af j).id)) (n':=(eE ns i (j+1)++ps).length) (f':=(mf (pf ((eE ns i (j+1)++ps).map (iT ns))))) (λ_=>by kernel_rfl) (by kernel_rfl) (λ_=>by kernel_rfl) (λ_=>by kernel_rfl) (λ_=>by kernel_rfl) gH Tryz.underlying169 (by have:=Kw ns i j;rw [List.length_append];unfold maxLen;omega) (tq (hwf j (by omega)).1 (hwf j (by omega)).2) (UB (zq hup) h46) (UA hat h46) (LX (ah.region (jK 2 [18] [(0,wJ ((j:Int)+1) (↑(j+1)))] (NL (tJ ((j+1)) [0,1,2] (⟨by omega,λt ht=>(by rcases Nat.lt_succ_iff_lt_or_eq.1 ht with h|h;exact hok t h;subst h;exact⟨hat,wB,qB⟩),(Pw hat h46 hup hnd)⟩)))))))))))))))
  exact ai.xg 1 (d:=(some 51)) (t:=169) (K:=3) (E:=3) (b:=mp) (n:=(eE ns i j++ps).length) (f:=(mf (pf ((eE ns i j++ps).map (iT ns))))) (x:=(.tmp 48)) (ix:=(.tmp 50)) (key:=.int .i64 ((en (nd ns i).af j).id)) (z:=.int .i64 0) (kl:=(.int .i64 (en (nd ns i).af j).id)) (r:=(some (vI y))) (λ_=>by kernel_rfl) (by kernel_rfl) (λ_=>by kernel_rfl) (λ_=>by kernel_rfl) gH Tryz.underlying169 (λ_=>by kernel_rfl) (tq (hwf j (by omega)).1 (hwf j (by omega)).2) (WG hup) (jK 5 [12] [] (NS (jK 1 [54] [] (NT (zR (.inr ⟨rfl,Nb hr hps hok hat h46 hup (by omega),rfl⟩) [2])))))
 exact ai.ig 0 (d:=(some 25)) (t:=135) (K:=3) (E:=167) (b:=mb) (n:=ns.length) (f:=(mf (bf A ns ns.length))) (x:=(.tmp 22)) (ix:=(.tmp 24)) (key:=.int .i64 ((en (nd ns i).af j).id)) (z:=.pointer none) (kl:=(.int .i64 (en (nd ns i).af j).id)) (r:=none) (λ_=>by kernel_rfl) (by kernel_rfl) (λ_=>by kernel_rfl) (λ_=>by kernel_rfl) gH Tryz.underlying135 (λ_=>by kernel_rfl) (tq (hwf j (by omega)).1 (hwf j (by omega)).2) (XY hat) (jK 1 [10] [] (NZ (jK 14 [39] [] (NT (zR (.inr ⟨rfl,λh=>hat (h.af j (by omega)).at_,rfl⟩) [2])))))
end
end Go.Proofs.YtnipofpbcggjcaaGreatDoor
