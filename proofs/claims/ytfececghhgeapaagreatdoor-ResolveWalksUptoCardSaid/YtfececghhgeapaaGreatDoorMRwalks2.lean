/-
  PROVED HERE: lemmas and contracts of functions (texts of this repo, joined; what the claim does not use is left out): GCheck, GE, GEnter, GR, GRead, GP, GRef, GW, Hm, Fam, Ld, Fw, Ms, Hn, Ho, Sb, ShelfK, Free, HeapMath, Up, Down, PushPop, TabMath, Tab, Tq, TKt, TabT, Hp, Hs, Hi, Hj, Hk, Hl, Hq, Hr, Ht, Hu, TabMath2, Hv, Hw, Hx, Op.
  CONDITIONS: as the theorems say.
-/
import Derived.Test.YtfececghhgeapaaGreatDoorMRwalks1
import Derived.Maps.OwnOps
import Derived.Shelf.SlGeneric
import Derived.Shelf.SlIterI.Nil
import Derived.Shelf.SortM.Plain
import Derived.Shelf.SortM.SortNone
import Derived.Ground.GgzProg
import Derived.Ground.SlgmProg
import Derived.Test.YtfececghhgeapaaGreatDoorProg
import Derived.RegionTactic
import Derived.Deep.QuietTactic
import Derived.BigQuiet
import Derived.BigRegion
import Derived.StillTailTactics
import Derived.WalkSpells
import Derived.Outline
import Derived.Deep.AppendLies
import Derived.Deep.RegionLaw
import Derived.LoopTactic
import Derived.LaidEqlPtr
set_option maxRecDepth 100000
set_option maxHeartbeats 4000000
namespace Go.Proofs.YtfececghhgeapaaGreatDoor
section
open Go.RowKit
attribute [local irreducible] aE bH ax aF
theorem AY {β:Bs} (a b c:Int) :
 aW Tryz.prog β 152 #[vI (a),vI (b),vI (c)] [] (λv l=>v=.bool (decide (Within a b c))/\l=[]):=by
 exact SE Tryz.func152 Tryz.ntmps152 (λR=>SR (jK 1 [] [] (NS (jK 4 [10] [] (sP 10 ((a:Int)>=(b:Int)) (λh10=>jK 5 [6] [] (eN (v:=(.bool (decide ((a:Int)<=(c:Int))))) ⟨zc Value.bool (T8.2 (by unfold Within;omega)),rfl⟩)) (λh10=>jK 5 [6] [] (eN ⟨zc Value.bool (Lk (by unfold Within;omega)).symm,rfl⟩)))))))
theorem rX {β:Bs} (s n:Int) :
 aW Tryz.prog β 77 #[.agg #[vI (s),vI (n)]] [] (λv l=>v=.bool (decide (iM s n))/\l=[]):=by
 exact SE Tryz.func77 Tryz.ntmps77 (λR=>SR (jB 2 [1] (λb1=>.aD b1 [vI (s),vI (n)] 26) (λb1=>NZ (jK 4 [6] [(1,a_ 1 b1)] (sP 6 ((n:Int)<(0:Int)) (λh6=>jK 4 [10] [] (NT (zR ⟨zc Value.bool (Lk (by unfold iM;omega)).symm,rfl⟩))) (λh6=>jK 4 [10] [(1,a_ 1 b1)] (NN (cP ((n:Int)>=(1000000000:Int)) (λh10=>zR ⟨zc Value.bool (Lk (by unfold iM;omega)).symm,rfl⟩) (λh10=>KX (SQ (jK 3 [13] [(1,a_ 1 b1)] (NN (cP ((s:Int)=((-1099511627777):Int)) (λtv=>SR (jK 4 [2] [(1,a_ 1 b1)] (eN (v:=(.bool (decide ((n:Int)>(0:Int))))) ⟨zc Value.bool (T8.2 (by unfold iM;omega)),rfl⟩))) (λtv=>KX (SR (jK 4 [20] [(1,a_ 1 b1)] (sP 20 ((s:Int)>((-1099511627777):Int)) (λlX=>jK 5 [2] [(1,a_ 1 b1)] (eN (v:=(.bool (decide ((s:Int)<=(1099511627776:Int))))) ⟨zc Value.bool (T8.2 (by unfold iM;omega)),rfl⟩)) (λlX=>jK 5 [2] [] (eN ⟨zc Value.bool (Lk (by unfold iM;omega)).symm,rfl⟩)))))))))))))))))))
theorem Gs {β:Bs} (s n:Int) :
 aW Tryz.prog β 55 #[.agg #[vI (s),vI (n)]] [] (λv l=>v=.bool (decide (iM s n))/\l=[]):=by
 exact SE Tryz.func55 Tryz.ntmps55 (λR=>SR (jB 2 [1] (λb2=>.aD b2 [vI (s),vI (n)] 26) (λb2=>NZ (jK 4 [6] [(1,a_ 1 b2)] (sP 6 ((n:Int)<(0:Int)) (λh6=>jK 14 [20] [] (NT (zR ⟨zc Value.bool (Lk (by unfold iM;omega)).symm,rfl⟩))) (λh6=>jK 5 [11] [(1,a_ 1 b2)] (sP 11 ((n:Int)>=(1000000000:Int)) (λh11=>jK 9 [20] [] (NT (zR ⟨zc Value.bool (Lk (by unfold iM;omega)).symm,rfl⟩))) (λh11=>jK 5 [16] [(1,a_ 1 b2)] (sP 16 ((s:Int)>(1099511627776:Int)) (λpz=>jK 4 [20] [] (NT (zR ⟨zc Value.bool (Lk (by unfold iM;omega)).symm,rfl⟩))) (λpz=>jK 4 [20] [(1,a_ 1 b2)] (NN (cP ((s:Int)<((-1099511627777):Int)) (λlX=>zR ⟨zc Value.bool (Lk (by unfold iM;omega)).symm,rfl⟩) (λlX=>KX (SR (jK 4 [24] [(1,a_ 1 b2)] (sN 24 ((s:Int)=((-1099511627777):Int)) (λqZ=>jK 5 [2] [] (eN ⟨zc Value.bool (ahO (by unfold iM;omega)).symm,rfl⟩)) (λqZ=>jK 5 [2] [(1,a_ 1 b2)] (eN (v:=(.bool (!(decide ((n:Int)=(0:Int)))))) ⟨zc Value.bool (El (by unfold iM;omega)),rfl⟩))))))))))))))))))
theorem Db {β:Bs} (s:ByteArray) (hl:s.size<=1048576) :
 aW Tryz.prog β 82 #[.string s] [] (λv l=>v=.bool (decide (bU s))/\l=[]):=by
 refine SE Tryz.func82 Tryz.ntmps82 (λR=>SR (jK 1 [] [] (NZ (jK 1 [3] [] (NN (ax.block (lJ (λ(i:Nat)=>(i<=s.size)/\(∀j,j<i->¬dR s j=0/\¬dR s j=47)) (λ(i:Nat)=>s.size-i) (λ(i:Nat)=>[(0,.string s),(3,vI ↑i)]) (λ(i:Nat)=>[.abs R]) 0 [0] (⟨L4 _,λj hj=>KB hj (N5 j)⟩) ?_)))))))
 rintro i ⟨hi,jW⟩
 exact SQ (jK 4 [7] [] (NN (cP ((((i:Nat):Int):Int)<((((s:ByteArray).size:Nat):Int):Int)) (λh7=>KX (ax.seq (ax.block (SR (jK 5 [14] [(2,xP i (i<(s:ByteArray).size))] (sP 14 ((((((s:ByteArray).data.getD (i) 0).toNat:Nat):Int):Int)=(0:Int)) (λmQ=>jK 5 [19] [] (NT (zR ⟨zc Value.bool (Lk (by intro g;have:=g.2.2.2.2 i d5;unfold dR at this;omega)).symm,rfl⟩))) (λmQ=>jK 5 [19] [(2,xP i (i<(s:ByteArray).size))] (NN (cP ((((((s:ByteArray).data.getD (i) 0).toNat:Nat):Int):Int)=(47:Int)) (λGt=>zR ⟨zc Value.bool (Lk (by intro g;have:=g.2.2.2.2 i d5;unfold dR at this;omega)).symm,rfl⟩) (λGt=>KX (ax.region (jK 3 [3] [(1,wJ ((i:Int)+1) (↑(i+1)))] (NL (tJ ((i+1)) [0] (⟨d5,λj hj=>by grind [dR]⟩))))))))))))))) (λh7=>XX (SR (jK 4 [23] [] (sP 23 (((((s:ByteArray).size:Nat):Int):Int)>=(1:Int)) (λh23=>jK 5 [28] [] (sP 28 (((((s:ByteArray).size:Nat):Int):Int)<=(255:Int)) (λtD=>jK 4 [32] [(1,w_ (.bool (!(decide ((s:ByteArray)=⟨#[46]⟩)))) (Iy _ _))] (sN 32 ((s:ByteArray)=⟨#[46]⟩) (λrS=>jK 4 [2] [(1,w_ (.bool (!(decide ((s:ByteArray)=⟨#[46,46]⟩)))) (Iy _ _))] (eN (v:=(.bool (!(decide ((s:ByteArray)=⟨#[46,46]⟩))))) ⟨zc Value.bool (El (by have hA:∀j,j<s.size->¬dR s j=0/\¬dR s j=47:=λj hj=>jW j d5;unfold bU;grind)),rfl⟩)) (λrS=>jK 4 [2] [] (eN ⟨zc Value.bool (Lk (by have hA:∀j,j<s.size->¬dR s j=0/\¬dR s j=47:=λj hj=>jW j d5;unfold bU;grind)).symm,rfl⟩)))) (λtD=>jK 8 [2] [] (eN ⟨zc Value.bool (Lk (by have hA:∀j,j<s.size->¬dR s j=0/\¬dR s j=47:=λj hj=>jW j d5;unfold bU;grind)).symm,rfl⟩)))) (λh23=>jK 13 [2] [] (eN ⟨zc Value.bool (Lk (by have hA:∀j,j<s.size->¬dR s j=0/\¬dR s j=47:=λj hj=>jW j d5;unfold bU;grind)).symm,rfl⟩)))))))))
theorem ND {β:Bs} (n:aP) (dA eA:Option Addr) (dC eC:Nat) (ht:n.target.size<=1048576) :
 aW Tryz.prog β 81 #[.agg #[vI (n.id),vI (n.kind),vI (n.mode),vI (n.cO),vI (n.cQ),vI (n.bJ),vI (n.bh),.slice dA (n.data.length) (dC),.string n.target,.slice eA (n.aq.length) (eC)]] [] (λv l=>v=.bool (decide (rU n))/\l=[]):=by
 refine SE Tryz.func81 Tryz.ntmps81 (λR=>SR (jB 2 [1] (λb3=>.aD b3 [vI (n.id),vI (n.kind),vI (n.mode),vI (n.cO),vI (n.cQ),vI (n.bJ),vI (n.bh),.slice dA (n.data.length) (dC),.string n.target,.slice eA (n.aq.length) (eC)] 102) (λb3=>NZ (jK 4 [7] [(1,a_ 1 b3)] (sP 7 ((n.kind:Int)<(1:Int)) (λh7=>jK 40 [47] [] (NT (zR ⟨zc Value.bool (Lk (by rw [dx];grind [dJ])).symm,rfl⟩))) (λh7=>jK 5 [12] [(1,a_ 1 b3)] (sP 12 ((n.kind:Int)>(3:Int)) (λh12=>jK 35 [47] [] (NT (zR ⟨zc Value.bool (Lk (by rw [dx];grind [dJ])).symm,rfl⟩))) (λh12=>jK 5 [17] [(1,a_ 1 b3)] (sP 17 ((n.mode:Int)<(0:Int)) (λIX=>jK 30 [47] [] (NT (zR ⟨zc Value.bool (Lk (by rw [dx];grind [dJ])).symm,rfl⟩))) (λIX=>jK 5 [22] [(1,a_ 1 b3)] (sP 22 ((n.mode:Int)>(4095:Int)) (λtj=>jK 25 [47] [] (NT (zR ⟨zc Value.bool (Lk (by rw [dx];grind [dJ])).symm,rfl⟩))) (λtj=>jK 5 [27] [(1,a_ 1 b3)] (sP 27 ((n.cO:Int)<(0:Int)) (λyB=>jK 20 [47] [] (NT (zR ⟨zc Value.bool (Lk (by rw [dx];grind [dJ])).symm,rfl⟩))) (λyB=>jK 5 [32] [(1,a_ 1 b3)] (sP 32 ((n.cO:Int)>(2147483647:Int)) (λrS=>jK 15 [47] [] (NT (zR ⟨zc Value.bool (Lk (by rw [dx];grind [dJ])).symm,rfl⟩))) (λrS=>jK 5 [37] [(1,a_ 1 b3)] (sP 37 ((n.cQ:Int)<(0:Int)) (λyC=>jK 10 [47] [] (NT (zR ⟨zc Value.bool (Lk (by rw [dx];grind [dJ])).symm,rfl⟩))) (λyC=>jK 5 [42] [(1,a_ 1 b3)] (sP 42 ((n.cQ:Int)>(2147483647:Int)) (λtE=>jK 5 [47] [] (NT (zR ⟨zc Value.bool (Lk (by rw [dx];grind [dJ])).symm,rfl⟩))) (λtE=>jK 2 [44] [(1,A_ 1 b3 2)] (gE [] (Gs n.bJ n.bh) (jK 2 [47] [] (NN (cN (iM n.bJ n.bh) (λRJ=>zR ⟨zc Value.bool (Lk (by rw [dx];grind [dJ])).symm,rfl⟩) (λRJ=>KX (SQ (jK 4 [51] [(1,a_ 1 b3)] (sN 51 ((n.kind:Int)=(1:Int)) (λvZ=>?_) (λvZ=>?_)))))))))))))))))))))))))))))
 ·refine jK 6 [57] [(1,a_ 1 b3)] (sP 57 ((((n.data.length:Nat):Int):Int)>(0:Int)) (λh57=>jK 10 [67] [] (NT (zR ⟨zc Value.bool (Lk (by rw [dx];grind [dJ])).symm,rfl⟩))) (λh57=>jK 4 [61] [(1,a_ 1 b3)] (sN 61 ((n.kind:Int)=(2:Int)) (λLG=>?_) (λLG=>?_))))
  ·refine jK 6 [67] [(1,a_ 1 b3)] (NN (cP ((((n.aq.length:Nat):Int):Int)>(0:Int)) (λVQ=>zR ⟨zc Value.bool (Lk (by rw [dx];grind [dJ])).symm,rfl⟩) (λVQ=>KX (SQ (jK 3 [70] [(1,a_ 1 b3)] (NN (cN ((n.kind:Int)=(3:Int)) (λNE=>SR (jK 4 [2] [(1,a_ 1 b3),(2,w_ (.bool (decide ((n.target:ByteArray)=⟨#[]⟩))) (qE _ _))] (eN (v:=(.bool (decide ((n.target:ByteArray)=⟨#[]⟩)))) ⟨zc Value.bool (T8.2 (by rw [dx];grind [dJ])),rfl⟩))) (λNE=>KX (SQ (jK 1 [3] [] (NN (ax.block (lJ (λ(i:Nat)=>(i<=n.target.size)/\(∀j,j<i->¬dR n.target j=0)) (λ(i:Nat)=>n.target.size-i) (λ(i:Nat)=>[(1,vP b3),(3,vI ↑i)]) (λ(i:Nat)=>[.abs R,.aD b3 [vI (n.id),vI (n.kind),vI (n.mode),vI (n.cO),vI (n.cQ),vI (n.bJ),vI (n.bh),.slice dA (n.data.length) (dC),.string n.target,.slice eA (n.aq.length) (eC)] 102]) 0 [0,1] (⟨L4 _,λj hj=>KB hj (N5 j)⟩) ?_)))))))))))))
   rintro i ⟨hi,jW⟩
   exact SQ (jK 5 [78] [(2,a_ 1 b3)] (NN (cP ((((i:Nat):Int):Int)<((((n.target:ByteArray).size:Nat):Int):Int)) (λNG=>KX (ax.seq (ax.block (SR (jK 5 [85] [(1,a_ 1 b3),(3,xP i (i<(n.target:ByteArray).size))] (NN (cP ((((((n.target:ByteArray).data.getD (i) 0).toNat:Nat):Int):Int)=(0:Int)) (λNH=>zR ⟨zc Value.bool (Lk (by intro g;have:=(dJ.sym g.target d5).2.2 i d5;unfold dR at this;omega)).symm,rfl⟩) (λNH=>KX (ax.region (jK 3 [3] [(1,wJ ((i:Int)+1) (↑(i+1)))] (NL (tJ ((i+1)) [0,1] (⟨d5,λj hj=>by grind [dR]⟩))))))))))))) (λNG=>XX (SR (jK 5 [90] [(1,a_ 1 b3)] (sP 90 (((((n.target:ByteArray).size:Nat):Int):Int)>=(1:Int)) (λwg=>jK 6 [2] [(1,a_ 1 b3)] (eN (v:=(.bool (decide (((((n.target:ByteArray).size:Nat):Int):Int)<=(4096:Int))))) ⟨zc Value.bool (T8.2 (by grind [qz,dx,dJ])),rfl⟩)) (λwg=>jK 6 [2] [] (eN ⟨zc Value.bool (Lk (by have hA:qz n.target:=λj hj=>jW j d5;rw [dx];grind [dJ])).symm,rfl⟩)))))))))
  refine jK 6 [67] [] (NF (KX (SQ (jK 3 [70] [(1,a_ 1 b3)] (NN (cN ((n.kind:Int)=(3:Int)) (λNE=>SR (jK 4 [2] [(1,a_ 1 b3),(2,w_ (.bool (decide ((n.target:ByteArray)=⟨#[]⟩))) (qE _ _))] (eN (v:=(.bool (decide ((n.target:ByteArray)=⟨#[]⟩)))) ⟨zc Value.bool (T8.2 (by rw [dx];grind [dJ])),rfl⟩))) (λNE=>KX (SQ (jK 1 [3] [] (NN (ax.block (lJ (λ(i:Nat)=>(i<=n.target.size)/\(∀j,j<i->¬dR n.target j=0)) (λ(i:Nat)=>n.target.size-i) (λ(i:Nat)=>[(1,vP b3),(3,vI ↑i)]) (λ(i:Nat)=>[.abs R,.aD b3 [vI (n.id),vI (n.kind),vI (n.mode),vI (n.cO),vI (n.cQ),vI (n.bJ),vI (n.bh),.slice dA (n.data.length) (dC),.string n.target,.slice eA (n.aq.length) (eC)] 102]) 0 [0,1] (⟨L4 _,λj hj=>KB hj (N5 j)⟩) ?_))))))))))))
  rintro i ⟨hi,jW⟩
  exact SQ (jK 5 [78] [(2,a_ 1 b3)] (NN (cP ((((i:Nat):Int):Int)<((((n.target:ByteArray).size:Nat):Int):Int)) (λNG=>KX (ax.seq (ax.block (SR (jK 5 [85] [(1,a_ 1 b3),(3,xP i (i<(n.target:ByteArray).size))] (NN (cP ((((((n.target:ByteArray).data.getD (i) 0).toNat:Nat):Int):Int)=(0:Int)) (λNH=>zR ⟨zc Value.bool (Lk (by intro g;have:=(dJ.sym g.target d5).2.2 i d5;unfold dR at this;omega)).symm,rfl⟩) (λNH=>KX (ax.region (jK 3 [3] [(1,wJ ((i:Int)+1) (↑(i+1)))] (NL (tJ ((i+1)) [0,1] (⟨d5,λj hj=>by grind [dR]⟩))))))))))))) (λNG=>XX (SR (jK 5 [90] [(1,a_ 1 b3)] (sP 90 (((((n.target:ByteArray).size:Nat):Int):Int)>=(1:Int)) (λwg=>jK 6 [2] [(1,a_ 1 b3)] (eN (v:=(.bool (decide (((((n.target:ByteArray).size:Nat):Int):Int)<=(4096:Int))))) ⟨zc Value.bool (T8.2 (by grind [qz,dx,dJ])),rfl⟩)) (λwg=>jK 6 [2] [] (eN ⟨zc Value.bool (Lk (by have hA:qz n.target:=λj hj=>jW j d5;rw [dx];grind [dJ])).symm,rfl⟩)))))))))
 refine jK 10 [57,61] [(7,a_ 1 b3)] (sN 61 ((n.kind:Int)=(2:Int)) (λLG=>?_) (λLG=>?_))
 ·refine jK 6 [67] [(1,a_ 1 b3)] (NN (cP ((((n.aq.length:Nat):Int):Int)>(0:Int)) (λVQ=>zR ⟨zc Value.bool (Lk (by rw [dx];grind [dJ])).symm,rfl⟩) (λVQ=>KX (SQ (jK 3 [70] [(1,a_ 1 b3)] (NN (cN ((n.kind:Int)=(3:Int)) (λNE=>SR (jK 4 [2] [(1,a_ 1 b3),(2,w_ (.bool (decide ((n.target:ByteArray)=⟨#[]⟩))) (qE _ _))] (eN (v:=(.bool (decide ((n.target:ByteArray)=⟨#[]⟩)))) ⟨zc Value.bool (T8.2 (by rw [dx];grind [dJ])),rfl⟩))) (λNE=>KX (SQ (jK 1 [3] [] (NN (ax.block (lJ (λ(i:Nat)=>(i<=n.target.size)/\(∀j,j<i->¬dR n.target j=0)) (λ(i:Nat)=>n.target.size-i) (λ(i:Nat)=>[(1,vP b3),(3,vI ↑i)]) (λ(i:Nat)=>[.abs R,.aD b3 [vI (n.id),vI (n.kind),vI (n.mode),vI (n.cO),vI (n.cQ),vI (n.bJ),vI (n.bh),.slice dA (n.data.length) (dC),.string n.target,.slice eA (n.aq.length) (eC)] 102]) 0 [0,1] (⟨L4 _,λj hj=>KB hj (N5 j)⟩) ?_)))))))))))))
  rintro i ⟨hi,jW⟩
  exact SQ (jK 5 [78] [(2,a_ 1 b3)] (NN (cP ((((i:Nat):Int):Int)<((((n.target:ByteArray).size:Nat):Int):Int)) (λNG=>KX (ax.seq (ax.block (SR (jK 5 [85] [(1,a_ 1 b3),(3,xP i (i<(n.target:ByteArray).size))] (NN (cP ((((((n.target:ByteArray).data.getD (i) 0).toNat:Nat):Int):Int)=(0:Int)) (λNH=>zR ⟨zc Value.bool (Lk (by intro g;have:=(dJ.sym g.target d5).2.2 i d5;unfold dR at this;omega)).symm,rfl⟩) (λNH=>KX (ax.region (jK 3 [3] [(1,wJ ((i:Int)+1) (↑(i+1)))] (NL (tJ ((i+1)) [0,1] (⟨d5,λj hj=>by grind [dR]⟩))))))))))))) (λNG=>XX (SR (jK 5 [90] [(1,a_ 1 b3)] (sP 90 (((((n.target:ByteArray).size:Nat):Int):Int)>=(1:Int)) (λwg=>jK 6 [2] [(1,a_ 1 b3)] (eN (v:=(.bool (decide (((((n.target:ByteArray).size:Nat):Int):Int)<=(4096:Int))))) ⟨zc Value.bool (T8.2 (by grind [qz,dx,dJ])),rfl⟩)) (λwg=>jK 6 [2] [] (eN ⟨zc Value.bool (Lk (by have hA:qz n.target:=λj hj=>jW j d5;rw [dx];grind [dJ])).symm,rfl⟩)))))))))
 refine jK 6 [67] [] (NF (KX (SQ (jK 3 [70] [(1,a_ 1 b3)] (NN (cN ((n.kind:Int)=(3:Int)) (λNE=>SR (jK 4 [2] [(1,a_ 1 b3),(2,w_ (.bool (decide ((n.target:ByteArray)=⟨#[]⟩))) (qE _ _))] (eN (v:=(.bool (decide ((n.target:ByteArray)=⟨#[]⟩)))) ⟨zc Value.bool (T8.2 (by rw [dx];grind [dJ])),rfl⟩))) (λNE=>KX (SQ (jK 1 [3] [] (NN (ax.block (lJ (λ(i:Nat)=>(i<=n.target.size)/\(∀j,j<i->¬dR n.target j=0)) (λ(i:Nat)=>n.target.size-i) (λ(i:Nat)=>[(1,vP b3),(3,vI ↑i)]) (λ(i:Nat)=>[.abs R,.aD b3 [vI (n.id),vI (n.kind),vI (n.mode),vI (n.cO),vI (n.cQ),vI (n.bJ),vI (n.bh),.slice dA (n.data.length) (dC),.string n.target,.slice eA (n.aq.length) (eC)] 102]) 0 [0,1] (⟨L4 _,λj hj=>KB hj (N5 j)⟩) ?_))))))))))))
 rintro i ⟨hi,jW⟩
 exact SQ (jK 5 [78] [(2,a_ 1 b3)] (NN (cP ((((i:Nat):Int):Int)<((((n.target:ByteArray).size:Nat):Int):Int)) (λNG=>KX (ax.seq (ax.block (SR (jK 5 [85] [(1,a_ 1 b3),(3,xP i (i<(n.target:ByteArray).size))] (NN (cP ((((((n.target:ByteArray).data.getD (i) 0).toNat:Nat):Int):Int)=(0:Int)) (λNH=>zR ⟨zc Value.bool (Lk (by intro g;have:=(dJ.sym g.target d5).2.2 i d5;unfold dR at this;omega)).symm,rfl⟩) (λNH=>KX (ax.region (jK 3 [3] [(1,wJ ((i:Int)+1) (↑(i+1)))] (NL (tJ ((i+1)) [0,1] (⟨d5,λj hj=>by grind [dR]⟩))))))))))))) (λNG=>XX (SR (jK 5 [90] [(1,a_ 1 b3)] (sP 90 (((((n.target:ByteArray).size:Nat):Int):Int)>=(1:Int)) (λwg=>jK 6 [2] [(1,a_ 1 b3)] (eN (v:=(.bool (decide (((((n.target:ByteArray).size:Nat):Int):Int)<=(4096:Int))))) ⟨zc Value.bool (T8.2 (by grind [qz,dx,dJ])),rfl⟩)) (λwg=>jK 6 [2] [] (eN ⟨zc Value.bool (Lk (by have hA:qz n.target:=λj hj=>jW j d5;rw [dx];grind [dJ])).symm,rfl⟩)))))))))
theorem yO {β:Bs} (A:Option Addr) (c:Nat) (ns:List aP) (L:fk) (hG:aO β A ns L) (hr:dK ns) (hl:ns.length<=1048576) (id:Int) :
 aW Tryz.prog β 30 #[.agg #[.slice A ns.length c],vI id] [] (λv l=>v=vI (gF ns id)/\l=[]):=by
 refine SE Tryz.func30 Tryz.ntmps30 (λR=>SR (jB 2 [2] (λb4=>.aD b4 [.slice A (ns.length) (c)] 24) (λb4=>NS (jK 1 [5] [] (NS (jK 4 [6] [(1,a_ 1 b4)] (NN (ax.seq (ax.block (lJ (λ(lo,hi)=>(lo<=hi)/\(hi<=ns.length)/\(∀j,j<lo->(nd ns j).id<id)/\(∀j,hi<=j->j<ns.length->id<=(nd ns j).id)) (λ(lo,hi)=>hi-lo) (λ(lo,hi)=>[(1,vI (id)),(2,vP b4),(5,vI ↑lo),(6,vI ↑hi)]) (λ(lo,hi)=>[.abs R,.aD b4 [.slice A (ns.length) (c)] 24]) (0,ns.length) [0,1] (⟨L4 _,N6 _,λj hj=>KB hj (N5 j),λj h1 h2=>KB h2 (Nat.not_lt.2 h1)⟩) ?_))))))))))
 rintro⟨lo,hi⟩ ⟨hlh,hhi,ha,hb⟩
 exact SQ (jK 3 [13] [] (NN (cP ((((lo:Nat):Int):Int)<(((hi:Nat):Int):Int)) (λtv=>KX (ax.block (SR (jK 7 [7] [(3,wJ ((hi:Int)-(lo:Int)) (↑(hi-lo))),(4,w_ (.int .i64 ↑((hi-lo) / 2)) (vk (Int.ofNat_tdiv _ _).symm d5 d5)),(5,wJ ((lo:Int)+(((hi-lo) / 2:Nat):Int)) (↑(lo+((hi-lo) / 2))))] (NS (jK 8 [27] [(1,a_ 1 b4),(3,p_ ⟨[],some (lo+((hi-lo) / 2)),none,some ⟨(cC A),cq A,none⟩,none⟩ [((lo+((hi-lo) / 2):Nat):Int)=((lo+((hi-lo) / 2):Nat):Int),lo+((hi-lo) / 2)<ns.length,(⟨(cC A),cq A,none⟩:Addr).spot=none,(A:Option Addr)=some ⟨(cC A),cq A,none⟩] ⟨rfl,d5,rfl,aO.hd hG (i:=lo+((hi-lo) / 2)) d5,trivial⟩),(5,r_ (aO.rd hG (i:=lo+((hi-lo) / 2)) d5 (j:=0) rfl))] (NN (cP (((nd ns (lo+((hi-lo) / 2))).id:Int)<(id:Int)) (λyB=>ax.region (jK 3 [5] [(1,wJ (((lo+((hi-lo) / 2):Nat):Int)+1) (↑((lo+((hi-lo) / 2))+1)))] (NL (aF.j5 (tJ (((lo+(hi-lo) / 2)+1),hi) [0,1] (⟨d5,d5,λj hj=>by have:=hr.le (show j<=(lo+(hi-lo) / 2) by omega) d5;omega,hb⟩)))))) (λyB=>ax.region (jK 2 [6] [] (NL (aF.j5 (tJ (lo,(lo+(hi-lo) / 2)) [0,1] (⟨d5,d5,ha,λj hj hj2=>by have:=hr.le hj hj2;omega⟩)))))))))))))) (λtv=>XX (SQ (jK 6 [36] [(2,a_ 1 b4)] (sP 36 ((((lo:Nat):Int):Int)<(((ns.length:Nat):Int):Int)) (λDY=>jK 9 [45] [(1,a_ 1 b4),(3,x_ lo ns.length (aO.hd hG (i:=lo) d5)),(5,r_ (aO.rd hG (i:=lo) d5 (j:=0) rfl))] (NN (cP (((nd ns lo).id:Int)=(id:Int)) (λvz=>zR ⟨zc (Value.int .i64) (Hq hr d5 vz).symm,rfl⟩) (λvz=>KX (zR ⟨zc (Value.int .i64) (C9 (λj hj e=>by rcases ail j lo with h|h|h;have:=ha j h;omega;subst h;omega;have:=hr lo j h hj;have:=hb lo d5 d5;omega)).symm,rfl⟩))))) (λDY=>jK 9 [45] [] (NF (KX (zR ⟨zc (Value.int .i64) (C9 (λj hj e=>by rcases ail j lo with h|h|h;have:=ha j h;omega;subst h;omega;have:=hr lo j h hj;have:=hb lo d5 d5;omega)).symm,rfl⟩)))))))))))
theorem FD {β:Bs} (A:Option Addr) (ns:List aP) (L:fk) (hG:aO β A ns L) (i:Nat) (hi:i<ns.length) :
 aW Tryz.prog β 153 #[.pointer (some ⟨(cC A),cq A+i*10,none⟩)] [] (λv l=>v=.bool (decide (dJ (nd ns i).kind (nd ns i).target))/\l=[]):=by
 exact SE Tryz.func153 Tryz.ntmps153 (λR=>SR (jK 1 [] [] (NZ (jK 5 [7] [(3,r_ (aO.rd hG (i:=i) d5 (j:=1) rfl))] (NN (cN (((nd ns i).kind:Int)=(3:Int)) (λh7=>SR (jK 6 [2] [(3,r_ (aO.rd hG (i:=i) d5 (j:=8) rfl)),(4,w_ (.bool (decide (((nd ns i).target:ByteArray)=⟨#[]⟩))) (qE _ _))] (eN (v:=(.bool (decide (((nd ns i).target:ByteArray)=⟨#[]⟩)))) ⟨zc Value.bool (T8.2 (by grind [sS,nd,dJ])),rfl⟩))) (λh7=>KX (SR (jK 6 [18] [(3,r_ (aO.rd hG (i:=i) d5 (j:=8) rfl)),(4,w_ (.bool (!(decide (((nd ns i).target:ByteArray)=⟨#[]⟩)))) (Iy _ _))] (sN 18 (((nd ns i).target:ByteArray)=⟨#[]⟩) (λpU=>jK 8 [26] [(3,r_ (aO.rd hG (i:=i) d5 (j:=8) rfl))] (sP 26 ((((((nd ns i).target:ByteArray).size:Nat):Int):Int)<=(4096:Int)) (λvY=>jK 4 [30] [(3,r_ (aO.rd hG (i:=i) d5 (j:=8) rfl))] (gE [] (aW.quiet (λw=>Tryz.strings_IndexByte (nd ns i).target 0 w)) (jK 3 [2] [] (eN (v:=(.bool (decide ((Lib.indexByte (nd ns i).target.data.toList (0:Int).toNat.toUInt8:Int)<(0:Int))))) ⟨zc Value.bool (T8.2 (by grind [sS,nd,Nx,dJ])),rfl⟩)))) (λvY=>jK 8 [2] [] (eN ⟨zc Value.bool (Lk (by grind [sS,nd,dJ])).symm,rfl⟩)))) (λpU=>jK 16 [2] [] (eN ⟨zc Value.bool (Lk (by grind [sS,nd,dJ])).symm,rfl⟩))))))))))))
theorem Y6 {β:Bs} (A:Option Addr) (ns:List aP) (L:fk) (hG:aO β A ns L) (i:Nat) (hi:i<ns.length) :
 aW Tryz.prog β 125 #[.pointer (some ⟨(cC A),cq A+i*10,none⟩)] [] (λv l=>v=.bool (decide (rU (nd ns i)))/\l=[]):=by
 refine SE Tryz.func125 Tryz.ntmps125 (λR=>SR (jK 1 [] [] (NZ (jK 4 [6] [(3,r_ (aO.rd hG (i:=i) d5 (j:=1) rfl))] (gE [] (AY ((nd ns i).kind) 1 3) (jK 2 [9] [] (sN 9 (Within ((nd ns i).kind) 1 3) (λh9=>jK 23 [32] [] (NT (zR ⟨zc Value.bool (Lk (by grind [dx,Within])).symm,rfl⟩))) (λh9=>jK 4 [13] [(3,r_ (aO.rd hG (i:=i) d5 (j:=2) rfl))] (gE [] (AY ((nd ns i).mode) 0 4095) (jK 3 [17] [] (sN 17 (Within ((nd ns i).mode) 0 4095) (λIX=>jK 15 [32] [] (NT (zR ⟨zc Value.bool (Lk (by grind [dx,Within])).symm,rfl⟩))) (λIX=>jK 4 [21] [(3,r_ (aO.rd hG (i:=i) d5 (j:=3) rfl))] (gE [] (AY ((nd ns i).cO) 0 2147483647) (jK 3 [25] [] (sN 25 (Within ((nd ns i).cO) 0 2147483647) (λqH=>jK 7 [32] [] (NT (zR ⟨zc Value.bool (Lk (by grind [dx,Within])).symm,rfl⟩))) (λqH=>?_))))))))))))))))
 exact jK 4 [29] [(3,r_ (aO.rd hG (i:=i) d5 (j:=4) rfl))] (gE [] (AY ((nd ns i).cQ) 0 2147483647) (jK 2 [32] [] (NN (cN (Within ((nd ns i).cQ) 0 2147483647) (λrS=>zR ⟨zc Value.bool (Lk (by grind [dx,Within])).symm,rfl⟩) (λrS=>KX (SQ (jK 6 [38] [(3,r_ (aO.rd hG (i:=i) d5 (j:=1) rfl))] (sN 38 (((nd ns i).kind:Int)=(1:Int)) (λh38=>jK 8 [46] [(3,r_ (aO.rd hG (i:=i) d5 (j:=7) rfl))] (sP 46 (((((nd ns i).data.length:Nat):Int):Int)>(0:Int)) (λh46=>jK 14 [60] [] (NT (zR ⟨zc Value.bool (Lk (by grind [dx,Within])).symm,rfl⟩))) (λh46=>jK 6 [52] [(3,r_ (aO.rd hG (i:=i) d5 (j:=1) rfl))] (sN 52 (((nd ns i).kind:Int)=(2:Int)) (λuL=>jK 8 [60] [(3,r_ (aO.rd hG (i:=i) d5 (j:=9) rfl))] (NN (cP (((((nd ns i).aq.length:Nat):Int):Int)>(0:Int)) (λNI=>zR ⟨zc Value.bool (Lk (by grind [dx,Within])).symm,rfl⟩) (λNI=>KX (SR (jK 4 [64] [(3,r2 (aO.rd hG (i:=i) d5 (j:=5) rfl) (aO.rd hG (i:=i) d5 (j:=6) rfl))] (gE [] (rX (nd ns i).bJ (nd ns i).bh) (jK 1 [66] [] (sP 66 (iM (nd ns i).bJ (nd ns i).bh) (λqv=>jK 1 [67] [] (gE [] (FD A ns L hG i hi) (jK 2 [2] [] (eN (v:=(.bool (decide (dJ (nd ns i).kind (nd ns i).target)))) ⟨zc Value.bool (T8.2 (by grind [dx,Within])),rfl⟩)))) (λqv=>jK 4 [2] [] (eN ⟨zc Value.bool (Lk (by grind [dx,Within])).symm,rfl⟩))))))))))) (λuL=>jK 8 [60] [] (NF (KX (SR (jK 4 [64] [(3,r2 (aO.rd hG (i:=i) d5 (j:=5) rfl) (aO.rd hG (i:=i) d5 (j:=6) rfl))] (gE [] (rX (nd ns i).bJ (nd ns i).bh) (jK 1 [66] [] (sP 66 (iM (nd ns i).bJ (nd ns i).bh) (λqv=>jK 1 [67] [] (gE [] (FD A ns L hG i hi) (jK 2 [2] [] (eN (v:=(.bool (decide (dJ (nd ns i).kind (nd ns i).target)))) ⟨zc Value.bool (T8.2 (by grind [dx,Within])),rfl⟩)))) (λqv=>jK 4 [2] [] (eN ⟨zc Value.bool (Lk (by grind [dx,Within])).symm,rfl⟩)))))))))))))) (λh38=>jK 14 [46,52] [(11,r_ (aO.rd hG (i:=i) d5 (j:=1) rfl))] (sN 52 (((nd ns i).kind:Int)=(2:Int)) (λuL=>jK 8 [60] [(3,r_ (aO.rd hG (i:=i) d5 (j:=9) rfl))] (NN (cP (((((nd ns i).aq.length:Nat):Int):Int)>(0:Int)) (λNI=>zR ⟨zc Value.bool (Lk (by grind [dx,Within])).symm,rfl⟩) (λNI=>KX (SR (jK 4 [64] [(3,r2 (aO.rd hG (i:=i) d5 (j:=5) rfl) (aO.rd hG (i:=i) d5 (j:=6) rfl))] (gE [] (rX (nd ns i).bJ (nd ns i).bh) (jK 1 [66] [] (sP 66 (iM (nd ns i).bJ (nd ns i).bh) (λqv=>jK 1 [67] [] (gE [] (FD A ns L hG i hi) (jK 2 [2] [] (eN (v:=(.bool (decide (dJ (nd ns i).kind (nd ns i).target)))) ⟨zc Value.bool (T8.2 (by grind [dx,Within])),rfl⟩)))) (λqv=>jK 4 [2] [] (eN ⟨zc Value.bool (Lk (by grind [dx,Within])).symm,rfl⟩))))))))))) (λuL=>jK 8 [60] [] (NF (KX (SR (jK 4 [64] [(3,r2 (aO.rd hG (i:=i) d5 (j:=5) rfl) (aO.rd hG (i:=i) d5 (j:=6) rfl))] (gE [] (rX (nd ns i).bJ (nd ns i).bh) (jK 1 [66] [] (sP 66 (iM (nd ns i).bJ (nd ns i).bh) (λqv=>jK 1 [67] [] (gE [] (FD A ns L hG i hi) (jK 2 [2] [] (eN (v:=(.bool (decide (dJ (nd ns i).kind (nd ns i).target)))) ⟨zc Value.bool (T8.2 (by grind [dx,Within])),rfl⟩)))) (λqv=>jK 4 [2] [] (eN ⟨zc Value.bool (Lk (by grind [dx,Within])).symm,rfl⟩))))))))))))))))))))
end
section
open Go.RowKit Go.Maps
def iR (x y:ByteArray):Prop:=(Op.bytesLess x.toList y.toList || (x.toList == y.toList))=true
instance (x y:ByteArray):Decidable (iR x y):=inferInstanceAs (Decidable (_=true))
theorem NJ (x y:ByteArray):Value.bool (Op.bytesLess x.toList y.toList || (x.toList == y.toList))=Value.bool (decide (iR x y)):=by
 grind [iR]
theorem QK {x:ByteArray}:iR x ⟨#[]⟩↔x=⟨#[]⟩:=by
 unfold iR
 rw [Ea]
 have h1:(⟨#[]⟩:ByteArray).toList=[]:=by rw [Lib.toList_data]
 have h2:Op.bytesLess x.toList (⟨#[]⟩:ByteArray).toList=false:=by
  rw [h1]
  cases x.toList<;>rfl
 rw [h2]
 simp
def bV (ns:List aP) (z:Int):Nat:=(gF ns z).toNat
theorem mR {ns:List aP} {z:Int} (h:0<=gF ns z):bV ns z<ns.length/\(nd ns (bV ns z)).id=z/\gF ns z=(bV ns z:Int):=by
 unfold bV
 unfold gF at h ⊢
 cases hf:ns.findIdx? (λn=>n.id == z) with
 |none=>rw [hf] at h;simp at h
 |some k=>
   rw [aif] at hf
   grind [nd]
theorem Cv {ns:List aP} {z:Int} (h:¬0<=gF ns z):gF ns z = -1:=by
 grind [gF]
def bO (ns:List aP) (i j:Nat):fM:=en (nd ns i).aq j
def zH (ns:List aP) (i:Nat):Nat->ByteArray
 |0=>⟨#[]⟩
 |j+1=>(bO ns i j).name
structure xh (ns:List aP) (i j:Nat):Prop where
 at_:0<=gF ns (bO ns i j).id
 good:bU (bO ns i j).name
 ord:¬iR (bO ns i j).name (zH ns i j)
def RM (ns:List aP) (i j:Nat):List (Nat×Nat):=if (nd ns (bV ns (bO ns i j).id)).kind=2 then [(bV ns (bO ns i j).id,i)] else []
def iy (ns:List aP) (i:Nat):Nat->List (Nat×Nat)
 |0=>[]
 |j+1=>RM ns i j++iy ns i j
def ju (ns:List aP):Nat->List (Nat×Nat)
 |0=>[]
 |i+1=>iy ns i (nd ns i).aq.length++ju ns i
def lu (ns:List aP) (p:Nat×Nat):Int×Int:=((nd ns p.1).id,(nd ns p.2).id)
theorem VR {ns:List aP} {i j m:Nat} (h:j<=m):∃l,iy ns i m=l++iy ns i j:=by
 induction m with
 |zero=>exact⟨[],by rw [Nat.le_zero.1 h];rfl⟩
 |succ m ih=>
   rcases Nat.lt_or_ge m j with h1|h1
   ·have:j=m+1:=d5
    subst this
    exact⟨[],rfl⟩
   grind [RM,iy]
theorem VS {ns:List aP} {i m:Nat} (h:i<=m):∃l,ju ns m=l++ju ns i:=by
 induction m with
 |zero=>exact⟨[],by rw [Nat.le_zero.1 h];rfl⟩
 |succ m ih=>
   rcases Nat.lt_or_ge m i with h1|h1
   ·have:i=m+1:=d5
    subst this
    exact⟨[],rfl⟩
   grind [iy,nd,ju]
theorem En {l:List (Nat×Nat)} {k:List (Nat×Nat)} (h:((l++k).map Prod.fst).Nodup):(k.map Prod.fst).Nodup:=by
 grind
theorem dK.inj {ns:List aP} (hr:dK ns) {a b:Nat} (ha:a<ns.length) (hb:b<ns.length) (h:(nd ns a).id=(nd ns b).id):a=b:=by
 rcases ail a b with h1|h1|h1
 all_goals grind [dK,nd]
theorem RN {ns:List aP} {ps:List (Nat×Nat)} {k:Nat} (h:up (ps.map (lu ns)) (nd ns k).id=none):k∉ps.map Prod.fst:=by
 unfold up at h
 induction ps with
 |nil=>simp
 |cons p ps ih=>
   grind [lu,nd]
theorem RO {ns:List aP} {ps:List (Nat×Nat)} {k:Nat} {y:Int} (hr:dK ns) (hk:k<ns.length) (hp:∀p,p∈ps->p.1<ns.length) (h:up (ps.map (lu ns)) (nd ns k).id=some y):k∈ps.map Prod.fst/\∃p,p∈ps/\p.1=k/\y=(nd ns p.2).id:=by
 unfold up at h
 induction ps with
 |nil=>cases h
 |cons p ps ih=>
   obtain⟨a,b⟩:=p
   rw [ah2,lu,List.lookup_cons] at h
   by_cases e:((nd ns k).id == (nd ns a).id)=true
   ·rw [e] at h
    cases h
    have:k=a:=hr.inj hk (hp (a,b) (T5 ..)) (by simpa using e)
    subst this
    exact⟨nh,(k,b),T5 ..,rfl,rfl⟩
   grind
def bf (A:Option Addr) (ns:List aP) (k:Nat) (z:Int):Option Value:=if 0<=gF ns z/\gF ns z<k then some (.pointer (some ⟨cC A,cq A+bV ns z*10,none⟩)) else none
structure Dc (ns:List aP) (i:Nat) (ps:List (Nat×Nat)):Prop where
 aq:∀j,j<(nd ns i).aq.length->xh ns i j
 nodup:((iy ns i (nd ns i).aq.length++ps).map Prod.fst).Nodup
theorem afz {A:Option Addr} {ns:List aP} {k:Nat} {z:Int} (h:0<=gF ns z) (hk:bV ns z<k):mf (bf A ns k) (.int .i64 z)=some (.pointer (some ⟨cC A,cq A+bV ns z*10,none⟩)):=
 t8 ⟨h,by rw [(mR h).2.2];omega⟩
theorem acu {A:Option Addr} {ns:List aP} {k:Nat} {z:Int} (h:¬0<=gF ns z):mf (bf A ns k) (.int .i64 z)=none:=nw (λe=>h e.1)
theorem NK (ns:List aP) (i j:Nat):(iy ns i j).length<=j:=by
 induction j with
 |zero=>exact N6 _
 |succ j ih=>
   grind [iy,RM]
theorem q4 {ns:List aP} {i j:Nat} (h:¬(nd ns (bV ns (bO ns i j).id)).kind=2):iy ns i (j+1)=iy ns i j:=by
 rw [iy,RM,nw h];rfl
theorem qo {ns:List aP} {i j:Nat} (h:(nd ns (bV ns (bO ns i j).id)).kind=2):iy ns i (j+1)=(bV ns (bO ns i j).id,i)::iy ns i j:=by
 rw [iy,RM,t8 h];rfl
theorem Cc {ns:List aP} {i j:Nat} {ps:List (Nat×Nat)} (h:Dc ns i ps) (hj:j<(nd ns i).aq.length) (hk:(nd ns (bV ns (bO ns i j).id)).kind=2):bV ns (bO ns i j).id∉(iy ns i j++ps).map Prod.fst:=by
 obtain⟨l,hl⟩:=VR (ns:=ns) (i:=i) (show j+1<=(nd ns i).aq.length from hj)
 have h1:=h.nodup
 grind [En,qo]
theorem Y7 {ns:List aP} {i j:Nat} {ps:List (Nat×Nat)} (hat:0<=gF ns (bO ns i j).id) (hk:(nd ns (bV ns (bO ns i j).id)).kind=2) :
 p4 (mf (pf ((iy ns i j++ps).map (lu ns)))) (.int .i64 (bO ns i j).id) (some (.int .i64 (nd ns i).id))=mf (pf ((iy ns i (j+1)++ps).map (lu ns))):=by
 rw [Ny,qo hk,aib,ah2,lu,(mR hat).2.1,acr]
theorem Y8 {ns:List aP} {i j:Nat} {ps:List (Nat×Nat)} {f:Lit->Option Value} {kl:Lit} (hf:f kl=none) (hk:(nd ns (bV ns (bO ns i j).id)).kind=2) :
 (if (f kl).isSome then (iy ns i j++ps).length else (iy ns i j++ps).length+1)=(iy ns i (j+1)++ps).length:=by
 rw [hf,qo hk]
 rfl
theorem Tz {ns:List aP} {i j:Nat} {ps:List (Nat×Nat)} (hat:0<=gF ns (bO ns i j).id) (hk:(nd ns (bV ns (bO ns i j).id)).kind=2) (hup:up ((iy ns i j++ps).map (lu ns)) (bO ns i j).id=none) (h:((iy ns i j++ps).map Prod.fst).Nodup) :
 ((iy ns i (j+1)++ps).map Prod.fst).Nodup:=by
 grind [qo,RN,mR,gF,bO,nd,bV,up,iy,lu]
theorem NM {ns:List aP} {i j:Nat} (h:∀t,t<j->xh ns i t):∀p,p∈iy ns i j->p.1<ns.length/\p.2=i:=by
 induction j with
 |zero=>intro p hp;cases hp
 |succ j ih=>
   intro p hp
   rw [iy] at hp
   rcases ahV.1 hp with hp|hp
   ·unfold RM at hp
    split at hp
    ·rw [ah5.1 hp]
     exact⟨(mR (h j (ah0 j)).at_).1,rfl⟩
    cases hp
   exact ih (λt ht=>h t d5) p hp
theorem QL {ns:List aP} {i j:Nat} {ps:List (Nat×Nat)} {y:Int} (hr:dK ns) (aB:∀p,p∈ps->p.1<ns.length) (hok:∀t,t<j->xh ns i t) (hat:0<=gF ns (bO ns i j).id) (hk:(nd ns (bV ns (bO ns i j).id)).kind=2)
 (hup:up ((iy ns i j++ps).map (lu ns)) (bO ns i j).id=some y) (hj:j<(nd ns i).aq.length):¬Dc ns i ps:=λh=>by
 refine Cc h hj hk ?_
 rw [←(mR hat).2.1] at hup
 refine (RO hr (mR hat).1 (λp hp=>?_) hup).1
 rcases ahV.1 hp with hp|hp
 ·exact (NM hok p hp).1
 exact aB p hp
end
section
open Go.RowKit
attribute [local irreducible] aE bH ax aF lQ
theorem Y9 {β:Bs} (A:Option Addr) (ns:List aP) (L:fk) (hG:aO β A ns L) (hr:dK ns) (i:Nat) (hi:i<ns.length) (hel:(nd ns i).aq.length<=1048576) (hwf:∀j,j<(nd ns i).aq.length->-9223372036854775808<=(bO ns i j).id/\(bO ns i j).id<=9223372036854775807) (hnm:∀j,j<(nd ns i).aq.length->(bO ns i j).name.size<=1048576)
 (mb mp:Nat) (ps:List (Nat×Nat)) (hpl:ps.length<=16777216) (aB:∀p,p∈ps->p.1<ns.length) (hnp:(ps.map Prod.fst).Nodup) :
 aW Tryz.prog β 126 #[.pointer (some ⟨(cC A),cq A+i*10,none⟩),.map (some mb),.map (some mp)] [.abs (bK Tryz.prog 3 mb (mf (bf A ns ns.length)) ns.length),.abs (bK Tryz.prog 3 mp (mf (pf ((ps).map (lu ns)))) ((ps).length))] (λv l=>(v=.bool true/\Dc ns i ps/\l=[.abs (bK Tryz.prog 3 mb (mf (bf A ns ns.length)) ns.length),.abs (bK Tryz.prog 3 mp (mf (pf ((iy ns i (nd ns i).aq.length++ps).map (lu ns)))) ((iy ns i (nd ns i).aq.length++ps).length))])\/(v=.bool false/\¬Dc ns i ps/\l=[])):=by
 refine SE Tryz.func126 Tryz.ntmps126 (λR=>SR (jK 1 [] [] (NS (jK 1 [7] [] (NZ (jK 6 [16,17,18] [(3,r_ (aO.rd hG (i:=i) d5 (j:=9) rfl))] (NN (ax.block (lJ (λ(j:Nat)=>(j<=(nd ns i).aq.length)/\(∀t,t<j->xh ns i t)/\(((iy ns i j++ps).map Prod.fst).Nodup)) (λ(j:Nat)=>(nd ns i).aq.length-j) (λ(j:Nat)=>[(0,.pointer (some ⟨(cC A),cq A+i*10,none⟩)),(1,.map (some mb)),(2,.map (some mp)),(7,.string (zH ns i j)),(16,.slice (L.eA i) ((nd ns i).aq.length) ((L.eC i))),(17,vI ↑((nd ns i).aq.length)),(18,vI ↑j)]) (λ(j:Nat)=>[.abs (bK Tryz.prog 3 mb (mf (bf A ns ns.length)) ns.length),.abs (bK Tryz.prog 3 mp (mf (pf ((iy ns i j++ps).map (lu ns)))) ((iy ns i j++ps).length)),.abs R]) 0 [0,1,2] (⟨L4 _,λt ht=>KB ht (N5 t),hnp⟩) ?_)))))))))
 rintro j ⟨hj,hok,hnd⟩
 refine SR (jK 1 [19] [] (NN (ax.seq (cP ((((j:Nat):Int):Int)<((((nd ns i).aq.length:Nat):Int):Int)) (λGt=>KX (ax.seq (ax.block (SR (jN 4 [9] (λb1=>[(0,x_ j ((nd ns i).aq.length) (cU.hd (hG.aq i d5) (i:=j) d5)),(1,r2 (cU.rd (hG.aq i d5) (i:=j) d5 (j:=0) rfl) (cU.rd (hG.aq i d5) (i:=j) d5 (j:=1) rfl)),(3,A_ 3 b1 2)]) (λ_=>[]) (λb1=>.aD b1 [.string (en (nd ns i).aq j).name,vI ((en (nd ns i).aq j).id)] 126) (λb1=>NS (jK 3 [22,24] [(2,a_ 3 b1)] ?_))))))) (λGt=>XX (zR (l:=[.abs (bK Tryz.prog 3 mb (mf (bf A ns ns.length)) ns.length),.abs (bK Tryz.prog 3 mp (mf (pf ((iy ns i j++ps).map (lu ns)))) ((iy ns i j++ps).length))]) (.inl ⟨rfl,⟨λt ht=>hok t d5,gn⟩,gn⟩)))))))
 by_cases hat:0<=gF ns (en (nd ns i).aq j).id
 ·have htl:=mR hat
  refine aE.ji 0 (d:=(some 25)) (t:=238) (K:=3) (E:=256) (b:=mb) (n:=ns.length) (f:=(mf (bf A ns ns.length))) (x:=(.tmp 22)) (ix:=(.tmp 24)) (key:=vI ((en (nd ns i).aq j).id)) (z:=.pointer none) (kl:=(.int .i64 (en (nd ns i).aq j).id)) (r:=(some (.pointer (some ⟨(cC A),cq A+(bV ns (en (nd ns i).aq j).id)*10,none⟩)))) (λ_=>d6) d6 (λ_=>d6) (λ_=>d6) ja Tryz.underlying238 (λ_=>d6) (wC (hwf j d5).1 (hwf j d5).2) (afz hat htl.1) (jK 1 [10] [] (NZ (jK 5 [28,30] [(4,a_ 3 b1)] (gE [] (zF (en (nd ns i).aq j).name (hnm j d5)) (jK 3 [34] [] (sN 34 (bU (en (nd ns i).aq j).name) (λxG=>jK 5 [39] [] (NT (zR (.inr ⟨rfl,λh=>xG (h.aq j d5).good,rfl⟩) [2]))) (λxG=>jK 5 [39] [(1,a_ 3 b1),(3,w_ (.bool (decide (iR ((en (nd ns i).aq j).name) (zH ns i j)))) (NJ _ _))] (NN (cP (iR ((en (nd ns i).aq j).name) (zH ns i j)) (λlW=>zR (.inr ⟨rfl,λh=>(h.aq j d5).ord lW,rfl⟩) [2]) (λlW=>KX (SR (jK 3 [7] [(1,a_ 3 b1)] (NZ (jK 5 [46] [(3,r_ (aO.rd hG (i:=(bV ns (en (nd ns i).aq j).id)) d5 (j:=1) rfl))] (NN (cN (((nd ns (bV ns (en (nd ns i).aq j).id)).kind:Int)=(2:Int)) (λh46=>XX (ax.region (aE.cT 1 (p':=.abs (bK Tryz.prog 3 mp (mf (pf ((iy ns i (j+1)++ps).map (lu ns)))) ((iy ns i (j+1)++ps).length))) rfl (by rw [q4 h46]) (jK 2 [18] [(0,wJ ((j:Int)+1) (↑(j+1)))] (NL (tJ ((j+1)) [0,1,2] (⟨d5,λt ht=>(by rcases Pe.1 ht with h|h;exact hok t h;subst h;exact⟨hat,xG,lW⟩),(by rw [q4 h46];exact hnd)⟩))))))) (λh46=>KX (SQ (jK 3 [48,50] [(2,a_ 3 b1)] ?_)))))))))))))))))))
  rcases hup:up ((iy ns i j++ps).map (lu ns)) (en (nd ns i).aq j).id with _|y
  ·exact aE.AR 1 (d:=(some 51)) (t:=134) (K:=3) (E:=3) (b:=mp) (n:=(iy ns i j++ps).length) (f:=(mf (pf ((iy ns i j++ps).map (lu ns))))) (x:=(.tmp 48)) (ix:=(.tmp 50)) (key:=vI ((en (nd ns i).aq j).id)) (z:=.int .i64 0) (kl:=(.int .i64 (en (nd ns i).aq j).id)) (r:=none) (λ_=>d6) d6 (λ_=>d6) (λ_=>d6) ja Tryz.underlying134 (λ_=>d6) (wC (hwf j d5).1 (hwf j d5).2) (Da hup) (jK 5 [12] [] (NS (jK 1 [54] [] (NF (KX (ax.Ca 7 d6 d6 (lQ.seg (k':=7) (bQ:=[(0,.pointer (some ⟨(cC A),cq A+i*10,none⟩)),(1,.map (some mb)),(2,.map (some mp)),(7,.string (en (nd ns i).aq j).name),(16,.slice (L.eA i) ((nd ns i).aq.length) ((L.eC i))),(17,vI ↑((nd ns i).aq.length)),(18,vI ↑j),(55,.map (some mp)),(57,vI ((en (nd ns i).aq j).id)),(61,vI ((nd ns i).id))]) (eV:=[(Rd β ⟨(cC A),cq A+i*10,none⟩ (vI ((nd ns i).id))),b1=b1]) [o_,o_,⟨[.at 3],none,none,none,none⟩,o_,o_,o_,⟨[.old (.int .i64 ((nd ns i).id))],none,none,none,none⟩] [0,1,2,7,16,17,18,55,57,61] (λ_ _=>d6) ⟨aO.rd hG (i:=i) d5 (j:=0) rfl,rfl,trivial⟩ d8 (lQ.done rfl (aE.qF 1 (d:=none) (t:=134) (K:=3) (E:=3) (b:=mp) (n:=(iy ns i j++ps).length) (f:=(mf (pf ((iy ns i j++ps).map (lu ns))))) (x:=(.tmp 55)) (ix:=(.tmp 57)) (y:=(.tmp 61)) (key:=vI ((en (nd ns i).aq j).id)) (u:=.int .i64 ((nd ns i).id)) (kl:=(.int .i64 (en (nd ns i).aq j).id)) (n':=(iy ns i (j+1)++ps).length) (f':=(mf (pf ((iy ns i (j+1)++ps).map (lu ns))))) (λ_=>d6) d6 (λ_=>d6) (λ_=>d6) (λ_=>d6) ja Tryz.underlying134 (by have:=NK ns i j;rw [T3];unfold maxLen;omega) (wC (hwf j d5).1 (hwf j d5).2) (Y8 (Da hup) h46) (Y7 hat h46) (LX (ax.region (jK 2 [18] [(0,wJ ((j:Int)+1) (↑(j+1)))] (NL (tJ ((j+1)) [0,1,2] (⟨d5,λt ht=>(by rcases Pe.1 ht with h|h;exact hok t h;subst h;exact⟨hat,xG,lW⟩),(Tz hat h46 hup hnd)⟩)))))))))))))))
  exact aE.AR 1 (d:=(some 51)) (t:=134) (K:=3) (E:=3) (b:=mp) (n:=(iy ns i j++ps).length) (f:=(mf (pf ((iy ns i j++ps).map (lu ns))))) (x:=(.tmp 48)) (ix:=(.tmp 50)) (key:=vI ((en (nd ns i).aq j).id)) (z:=.int .i64 0) (kl:=(.int .i64 (en (nd ns i).aq j).id)) (r:=(some (vI y))) (λ_=>d6) d6 (λ_=>d6) (λ_=>d6) ja Tryz.underlying134 (λ_=>d6) (wC (hwf j d5).1 (hwf j d5).2) (abw hup) (jK 5 [12] [] (NS (jK 1 [54] [] (NT (zR (.inr ⟨rfl,QL hr aB hok hat h46 hup d5,rfl⟩) [2])))))
 exact aE.ji 0 (d:=(some 25)) (t:=238) (K:=3) (E:=256) (b:=mb) (n:=ns.length) (f:=(mf (bf A ns ns.length))) (x:=(.tmp 22)) (ix:=(.tmp 24)) (key:=vI ((en (nd ns i).aq j).id)) (z:=.pointer none) (kl:=(.int .i64 (en (nd ns i).aq j).id)) (r:=none) (λ_=>d6) d6 (λ_=>d6) (λ_=>d6) ja Tryz.underlying238 (λ_=>d6) (wC (hwf j d5).1 (hwf j d5).2) (acu hat) (jK 1 [10] [] (NZ (jK 14 [39] [] (NT (zR (.inr ⟨rfl,λh=>hat (h.aq j d5).at_,rfl⟩) [2])))))
end
section
open Go.RowKit Go.Maps
def dY (ns:List aP):Nat->Nat
 |0=>0
 |k+1=>dY ns k+(nd ns k).aq.length
def qI (ns:List aP):Nat->Int
 |0=>0
 |k+1=>(nd ns k).id
structure cD (ns:List aP):Prop where
 len:ns.length<=4096
 node:∀i,i<ns.length->rU (nd ns i)
 ids:∀i,i<ns.length->1<=(nd ns i).id/\(nd ns i).id<=1099511627776
 fP:dK ns
 sum:dY ns ns.length<=8192
 aq:∀i,i<ns.length->∀j,j<(nd ns i).aq.length->xh ns i j
 nodup:((ju ns ns.length).map Prod.fst).Nodup
 ends:Cu ((ju ns ns.length).map (lu ns))
noncomputable instance (ns:List aP):Decidable (cD ns):=Classical.propDecidable _
theorem cD.last {ns:List aP} (h:cD ns) {k:Nat} (hk:k<ns.length):qI ns k<(nd ns k).id:=by
 cases k with
 |zero=>have:=(h.ids 0 hk).1;show (0:Int)<_;omega
 |succ k=>exact h.fP k (k+1) (ah0 k) hk
structure wE (ns:List aP) (k:Nat):Prop where
 node:∀i,i<k->rU (nd ns i)
 ids:∀i,i<k->1<=(nd ns i).id/\(nd ns i).id<=1099511627776
 fP:∀i j,i<j->j<k->(nd ns i).id<(nd ns j).id
theorem wE.zero (ns:List aP):wE ns 0:=⟨λi h=>KB h (N5 i),λi h=>KB h (N5 i),λ_ j _ h=>KB h (N5 j)⟩
theorem wE.last {ns:List aP} {k:Nat} (h:wE ns k):0<=qI ns k/\qI ns k<=1099511627776:=by
 cases k with
 |zero=>exact⟨Int.le_refl _,by show (0:Int)<=1099511627776;decide⟩
 |succ k=>have:=h.ids k (ah0 k);exact⟨by show 0<=(nd ns k).id;omega,this.2⟩
theorem wE.step {ns:List aP} {k:Nat} (h:wE ns k) (h1:qI ns k<(nd ns k).id) (h2:(nd ns k).id<=1099511627776) (h3:rU (nd ns k)):wE ns (k+1):=by
 have hl:=h.last
 refine⟨λi hi=>?_,λi hi=>?_,λi j hij hj=>?_⟩
 ·rcases Pe.1 hi with e|e
  ·exact h.node i e
  rw [e];exact h3
 ·rcases Pe.1 hi with e|e
  ·exact h.ids i e
  rw [e];omega
 rcases Pe.1 hj with e|e
 ·exact h.fP i j hij e
 subst e
 cases j with
 |zero=>omega
 |succ m=>
   have h4:(nd ns m).id<(nd ns (m+1)).id:=h1
   rcases Pe.1 hij with e|e
   ·have:=h.fP i m e (ah0 m);omega
   rw [e];exact h4
theorem NR {ns:List aP} {k:Nat} (h:∀i,i<k->(nd ns i).id<(nd ns k).id) (hk:k<ns.length):gF ns (nd ns k).id=(k:Int):=by
 unfold gF
 have hg:∀j (hj:j<ns.length),nd ns j=ns[j]:=λj hj=>by
  grind [nd]
 have:ns.findIdx? (λn=>n.id == (nd ns k).id)=some k:=by
  rw [aif]
  grind
 rw [this]
theorem adJ {A:Option Addr} {ns:List aP} {k:Nat} (h:∀i,i<k->(nd ns i).id<(nd ns k).id) (hk:k<ns.length) :
 p4 (mf (bf A ns k)) (.int .i64 (nd ns k).id) (some (.pointer (some ⟨cC A,cq A+k*10,none⟩)))=mf (bf A ns (k+1)):=by
 have ha:=NR h hk
 rw [Ny]
 congr 1
 funext z
 unfold bf
 by_cases e:z=(nd ns k).id
 ·grind [bV]
 rw [nw e]
 by_cases e1:0<=gF ns z/\gF ns z<(k:Int)
 ·rw [t8 e1,t8 ⟨e1.1,d5⟩]
 rw [nw e1,nw (λe2=>?_)]
 have e3:gF ns z=(k:Int):=d5
 have e4:=(mR e2.1).2
 grind
theorem Za {A:Option Addr} {ns:List aP} {k:Nat} (h:∀i,i<k->(nd ns i).id<(nd ns k).id) (hk:k<ns.length):(if ((mf (bf A ns k)) (.int .i64 (nd ns k).id)).isSome then k else k+1)=k+1:=by
 grind [NR,mf,bf,nd]
theorem wE.below {ns:List aP} {k:Nat} (h:wE ns k) (h1:qI ns k<(nd ns k).id):∀i,i<k->(nd ns i).id<(nd ns k).id:=by
 intro i hi
 cases k with
 |zero=>omega
 |succ m=>
   have h1:(nd ns m).id<(nd ns (m+1)).id:=h1
   rcases Pe.1 hi with e|e
   ·have:=h.fP i m e (ah0 m);omega
   rw [e];exact h1
theorem acv {A:Option Addr} {ns:List aP}:mf (bf A ns 0)=λ_=>none:=by
 rw [←Kh]
 congr 1
 funext z
 exact nw (λe=>d5)
theorem acw {ns:List aP}:mf (pf ((ju ns 0).map (lu ns)))=λ_=>none:=by
 rw [←Kh]
 congr 1
theorem zJ {ns:List aP} {i:Nat} (hi:i<=ns.length) (h:∀a,a<i->∀j,j<(nd ns a).aq.length->xh ns a j):∀p,p∈ju ns i->p.1<ns.length/\p.2<ns.length:=by
 induction i with
 |zero=>intro p hp;cases hp
 |succ i ih=>
   intro p hp
   grind [ju,NM]
theorem NU (ns:List aP) (i:Nat):(ju ns i).length<=dY ns i:=by
 induction i with
 |zero=>exact N6 _
 |succ i ih=>
   grind [ju,dY,NK,nd]
theorem qp {ns:List aP} {i m:Nat} (h:i<=m):dY ns i<=dY ns m:=by
 induction m with
 |zero=>rw [Nat.le_zero.1 h];exact N6 _
 |succ m ih=>
   grind [dY]
theorem VT {ns:List aP} {ps:List (Nat×Nat)} (hp:∀p,p∈ps->p.1<ns.length/\p.2<ns.length) (hid:∀i,i<ns.length->1<=(nd ns i).id/\(nd ns i).id<=1099511627776) :
 ∀z y,up (ps.map (lu ns)) z=some y->(-9223372036854775808<=z/\z<=9223372036854775807)/\(-9223372036854775808<=y/\y<=9223372036854775807):=by
 intro z y h
 unfold up at h
 induction ps with
 |nil=>cases h
 |cons p ps ih=>
   grind [lu,nd]
theorem adK {p:Prop} [Decidable p] {v:Value} {l:List HP} (h:v=.bool (decide p)/\l=[]):(v=.bool true/\p/\l=[])\/(v=.bool false/\¬p/\l=[]):=by
 by_cases hp:p
 all_goals grind
theorem Dc.next {ns:List aP} {i:Nat} (h:Dc ns i (ju ns i)):((ju ns (i+1)).map Prod.fst).Nodup:=h.nodup
theorem cD.row {ns:List aP} (h:cD ns) {i:Nat} (hi:i<ns.length):Dc ns i (ju ns i):=by
 refine⟨h.aq i hi,?_⟩
 obtain⟨l,hl⟩:=VS (ns:=ns) (show i+1<=ns.length from hi)
 have:=h.nodup
 rw [hl] at this
 exact En this
end
section
open Go.RowKit
attribute [local irreducible] aE bH ax aF
theorem acy {β:Bs} (A:Option Addr) (c:Nat) (ns:List aP) (L:fk) (hG:aO β A ns L) (hl:ns.length<=1048576) (hd:∀i,i<ns.length->(nd ns i).data.length<=140737488355328/\(nd ns i).aq.length<=1048576) (hwf:∀i,i<ns.length->∀j,j<(nd ns i).aq.length->-9223372036854775808<=(bO ns i j).id/\(bO ns i j).id<=9223372036854775807) (hnm:∀i,i<ns.length->∀j,j<(nd ns i).aq.length->(bO ns i j).name.size<=1048576) :
 aW Tryz.prog β 109 #[.agg #[.slice A ns.length c]] [] (λv l=>(∃mb,v=.tuple #[.map (some mb),.bool true]/\cD ns/\l=[.abs (bK Tryz.prog 3 mb (mf (bf A ns ns.length)) ns.length)])\/(∃m,v=.tuple #[m,.bool false]/\¬cD ns/\l=[])):=by
 refine SE Tryz.func109 Tryz.ntmps109 (λR=>SR (jB 3 [1] (λb1=>.aD b1 [.slice A (ns.length) (c)] 24) (λb1=>NZ (jK 4 [14] [(1,a_ 1 b1)] (NN (cP ((((ns.length:Nat):Int):Int)>(4096:Int)) (λmQ=>zR (v:=(.tuple #[.map none,.bool false])) (.inr ⟨_,rfl,λh=>by have:=h.len;omega,rfl⟩)) (λmQ=>KX (SR (aE.sK (d:=(some 15)) (t:=238) (λ_=>d6) Tryz.prog rfl 3 (λm2=>jK 1 [4] [] (NS (aE.cT 2 (p:=.abs (bK Tryz.prog 3 m2 (λ_=>none) 0)) (p':=.abs (bK Tryz.prog 3 m2 (mf (bf A ns 0)) 0)) d6 (by rw [acv]) (jK 2 [5,6] [] (NZ (jK 4 [18,19] [(1,a_ 1 b1)] (NN (ax.block (lJ (ι:=Nat) (λ(k:Nat)=>(k<=ns.length)/\(wE ns k)/\(dY ns k<=k*1048576)) (λ(k:Nat)=>ns.length-k) (λ(k:Nat)=>[(1,vP b1),(4,.map (some m2)),(5,vI (qI ns k)),(6,vI ↑(dY ns k)),(18,vI ↑ns.length),(19,vI ↑k)]) (λ(k:Nat)=>[.aD b1 [.slice A (ns.length) (c)] 24,.abs (bK Tryz.prog 3 m2 (mf (bf A ns k)) k),.abs R]) 0 [1,2,0] (⟨L4 _,wE.zero ns,L4 _⟩) ?_))))))))))))))))))
 rintro k ⟨hk,hu,hs⟩
 have hk4:=(hd k)
 refine SR (jK 1 [20] [] (NN (ax.seq (cP ((((k:Nat):Int):Int)<(((ns.length:Nat):Int):Int)) (λlX=>KX (ax.seq (ax.block (SR (jK 2 [7] [] (NS (jK 5 [8] [(1,a_ 0 b1),(3,x_ k ns.length (aO.hd hG (i:=k) d5))] (NZ (jK 7 [32] [(3,r_ (aO.rd hG (i:=k) d5 (j:=0) rfl))] (sP 32 (((nd ns k).id:Int)<=(qI ns k:Int)) (λrS=>jK 11 [43] [] (NT (zR (v:=(.tuple #[.map none,.bool false])) (.inr ⟨_,rfl,λh=>by have:=h.last (show k<ns.length by omega);omega,rfl⟩) [2]))) (λrS=>jK 7 [39] [(3,r_ (aO.rd hG (i:=k) d5 (j:=0) rfl))] (sP 39 (((nd ns k).id:Int)>(1099511627776:Int)) (λlW=>jK 4 [43] [] (NT (zR (v:=(.tuple #[.map none,.bool false])) (.inr ⟨_,rfl,λh=>by have:=(h.ids k d5).2;omega,rfl⟩) [2]))) (λlW=>jK 1 [40] [] (gE [] (Y6 A ns L hG k d5) (jK 2 [43] [] (NN (cN (rU (nd ns k)) (λIZ=>zR (v:=(.tuple #[.map none,.bool false])) (.inr ⟨_,rfl,λh=>IZ (h.node k d5),rfl⟩) [2]) (λIZ=>KX (SR (jK 5 [5] [(3,r_ (aO.rd hG (i:=k) d5 (j:=0) rfl))] (NS (jK 6 [48,52,53] [(4,r_ (aO.rd hG (i:=k) d5 (j:=0) rfl))] (aE.qF 1 (d:=none) (t:=238) (K:=3) (E:=256) (b:=m2) (n:=k) (f:=(mf (bf A ns k))) (x:=(.tmp 48)) (ix:=(.tmp 52)) (y:=(.tmp 53)) (key:=vI ((nd ns k).id)) (u:=.pointer (some ⟨(cC A),cq A+k*10,none⟩)) (kl:=(.int .i64 (nd ns k).id)) (n':=k+1) (f':=(mf (bf A ns (k+1)))) (λ_=>d6) d6 (λ_=>d6) (λ_=>d6) (λ_=>d6) ja Tryz.underlying238 (by unfold maxLen;omega) (wC (by have:=hu.last;omega) d5) (Za (hu.below d5) d5) (adJ (hu.below d5) d5) (NN (ax.region (jK 8 [6] [(4,r_ (aO.rd hG (i:=k) d5 (j:=9) rfl)),(6,wJ (((dY ns k:Nat):Int)+(((nd ns k).aq.length:Nat):Int)) (↑((dY ns k)+((nd ns k).aq.length))))] (LX (ax.region (jK 2 [19] [(0,wJ ((k:Int)+1) (↑(k+1)))] (NL (tJ ((k+1)) [0,1,2] (⟨d5,hu.step d5 d5 IZ,by grind [dY]⟩)))))))))))))))))))))))))))))))) (λlX=>XX (SQ (jK 2 [63] [] (NN (cP ((((dY ns k:Nat):Int):Int)>(8192:Int)) (λh63=>zR (v:=(.tuple #[.map none,.bool false])) (.inr ⟨_,rfl,λh=>by have h1:=h.sum;grind,rfl⟩) [2]) (λh63=>KX (SR (aE.sK (d:=(some 64)) (t:=134) (λ_=>d6) Tryz.prog rfl 3 (λm3=>jK 1 [9] [] (NZ (aE.cT 3 (p:=.abs (bK Tryz.prog 3 m3 (λ_=>none) 0)) (p':=.abs (bK Tryz.prog 3 m3 (mf (pf ((ju ns 0).map (lu ns)))) ((ju ns 0).length))) d6 (by rw [acw];rfl) (aE.cT 1 (p:=.abs (bK Tryz.prog 3 m2 (mf (bf A ns k)) k)) (p':=.abs (bK Tryz.prog 3 m2 (mf (bf A ns ns.length)) ns.length)) d6 (by rw [show k=ns.length by omega]) (jK 4 [67,68] [(1,a_ 0 b1)] (NN (ax.block ?_)))))))))))))))))))
 have Dd:dK ns:=λa b gA hb=>hu.fP a b gA d5
 have hsum:dY ns ns.length<=8192:=by rw [show ns.length=k by omega];omega
 refine lJ (ι:=Nat) (λ(i:Nat)=>(i<=ns.length)/\(∀a,a<i->∀j,j<(nd ns a).aq.length->xh ns a j)/\(((ju ns i).map Prod.fst).Nodup)) (λ(i:Nat)=>ns.length-i) (λ(i:Nat)=>[(1,vP b1),(4,.map (some m2)),(9,.map (some m3)),(67,vI ↑ns.length),(68,vI ↑i)]) (λ(i:Nat)=>[.aD b1 [.slice A (ns.length) (c)] 24,.abs (bK Tryz.prog 3 m2 (mf (bf A ns ns.length)) ns.length),.abs (bK Tryz.prog 3 m3 (mf (pf ((ju ns i).map (lu ns)))) ((ju ns i).length)),.abs R]) 0 [0,1,3,2] (⟨L4 _,λa ha=>KB ha (N5 a),List.nodup_nil⟩) ?_
 rintro i ⟨hi,Bb,hnd⟩
 refine SR (jK 1 [69] [] (NN (ax.seq (cP ((((i:Nat):Int):Int)<(((ns.length:Nat):Int):Int)) (λh69=>?_) (λh69=>?_)))))
 ·refine KX (ax.seq (ax.block (SR (jK 2 [10] [] (NS (jK 6 [74,75,76] [(1,a_ 0 b1),(3,x_ i ns.length (aO.hd hG (i:=i) d5))] (gL [1,2] (Y9 A ns L hG Dd i d5 (hd i d5).2 (hwf i d5) (hnm i d5) m2 m3 (ju ns i) (by have:=NU ns i;have:=qp (ns:=ns) (show i<=ns.length by omega);omega) (λp hp=>(zJ d5 Bb p hp).1) hnd) ?_)))))))
  rintro _ _ (⟨rfl,hro,rfl⟩|⟨rfl,hro,rfl⟩)
  ·exact jK 1 [78] [] (NF (KX (ax.region (jK 2 [68] [(0,wJ ((i:Int)+1) (↑(i+1)))] (NL (tJ ((i+1)) [2,0,1,3] (⟨d5,λa ha=>(by rcases Pe.1 ha with h|h;exact Bb a h;subst h;exact hro.aq),hro.next⟩)))))))
  exact jK 1 [78] [] (NT (zR (v:=(.tuple #[.map none,.bool false])) (.inr ⟨_,rfl,λh=>hro (h.row d5),rfl⟩) [1]))
 refine XX (SR (jK 2 [80,81] [] (aE.cT 2 (p:=.abs (bK Tryz.prog 3 m3 (mf (pf ((ju ns i).map (lu ns)))) ((ju ns i).length))) (p':=.abs (bK Tryz.prog 3 m3 (mf (pf ((ju ns i).map (lu ns)))) (((ju ns i).map (lu ns)).length))) d6 (by rw [ahQ]) (gL [2] ((VP m3 ((ju ns i).map (lu ns)) (by grind [NU,qp]) (VT (zJ d5 Bb) (λa ha=>hu.ids a d5))).mono (λv l h=>adK h)) ?_))))
 rintro _ _ (⟨rfl,hae,rfl⟩|⟨rfl,hae,rfl⟩)
 ·exact jK 2 [2,3] [] (eN (v:=(.tuple #[.map (some m2),.bool true])) (.inl ⟨m2,rfl,⟨d5,λa ha=>hu.node a d5,λa ha=>hu.ids a d5,Dd,d5,λa ha=>Bb a d5,gn,gn⟩,rfl⟩) [1,2])
 exact jK 2 [2,3] [] (eN (v:=(.tuple #[.map (some m2),.bool false])) (.inr ⟨_,rfl,λh=>hae (by have:=h.ends;grind),rfl⟩) [2])
theorem Zb {β:Bs} (A:Option Addr) (c:Nat) (ns:List aP) (L:fk) (hG:aO β A ns L) (hl:ns.length<=1048576) (hd:∀i,i<ns.length->(nd ns i).data.length<=140737488355328/\(nd ns i).aq.length<=1048576) (hwf:∀i,i<ns.length->∀j,j<(nd ns i).aq.length->-9223372036854775808<=(bO ns i j).id/\(bO ns i j).id<=9223372036854775807) (hnm:∀i,i<ns.length->∀j,j<(nd ns i).aq.length->(bO ns i j).name.size<=1048576) :
 aW Tryz.prog β 78 #[.agg #[.slice A ns.length c]] [] (λv l=>v=vI (if cD ns then 0 else 140)/\l=[]):=by
 refine SE Tryz.func78 Tryz.ntmps78 (λR=>SR (jB 2 [1] (λb4=>.aD b4 [.slice A (ns.length) (c)] 24) (λb4=>NZ (jK 1 [6] [(0,a_ 1 b4)] (gL [] (acy A c ns L hG hl hd hwf hnm) ?_)))))
 rintro _ _ (⟨mb,rfl,hok,rfl⟩|⟨m,rfl,hok,rfl⟩)
 ·exact jK 5 [4] [] (NS (jK 2 [11] [] (NF (KX (zR ⟨zc (Value.int .i64) (t8 hok).symm,rfl⟩ [1])))))
 exact jK 5 [4] [] (NS (jK 2 [11] [] (NT (zR ⟨zc (Value.int .i64) (nw hok).symm,rfl⟩))))
end
section
open Go.RowKit Go.Maps
def Df (ed:List (Nat×Nat)) (k:Nat):Int:=match ed.lookup k with|some a=>(a:Int)|none=>-1
structure NV (n:Nat) (pl:List Int) (ed:List (Nat×Nat)):Prop where
 len:pl.length=n
 at_:∀k,k<n->pl.getD k 0=Df ed k
theorem Bc {w:List Int} {j:Nat} (hj:j<w.length):(j6 w)[j]?=some (.int .i64 (w.getD j 0)):=by
 grind [j6,getD_some]
theorem Eo (pl:List Int) (k:Nat) (x:Int):(j6 pl).set k (.int .i64 x)=j6 (pl.set k x):=by
 unfold j6
 rw [List.map_set]
theorem NW {pl:List Int} {k j:Nat} {x:Int} (hk:k<pl.length):(pl.set k x).getD j 0=if j=k then x else pl.getD j 0:=by
 grind
theorem NV.put {n:Nat} {pl:List Int} {ed:List (Nat×Nat)} (h:NV n pl ed) {k a:Nat} (hk:k<n):NV n (pl.set k (a:Int)) ((k,a)::ed):=by
 refine⟨by rw [T7];exact h.len,λj hj=>?_⟩
 rw [NW (by rw [h.len];exact hk)]
 unfold Df
 rw [List.lookup_cons]
 by_cases e:j=k
 ·subst e;simp
 have:(j == k)=false:=by simp [e]
 rw [nw e,this,h.at_ j hj]
 rfl
theorem Bd {ed:List (Nat×Nat)} {k:Nat}:Df ed k<0↔k∉ed.map Prod.fst:=by
 grind [Df]
theorem acz {ns:List aP} {ed:List (Nat×Nat)} {k:Nat} (hr:dK ns) (hk:k<ns.length) (hp:∀p,p∈ed->p.1<ns.length) :
 (Df ed k<0/\up (ed.map (lu ns)) (nd ns k).id=none)\/∃a:Nat,Df ed k=(a:Int)/\(k,a)∈ed/\up (ed.map (lu ns)) (nd ns k).id=some (nd ns a).id:=by
 unfold Df up
 induction ed with
 |nil=>exact .inl ⟨nh,rfl⟩
 |cons p ed ih=>
   obtain⟨a,b⟩:=p
   rw [ah2,lu,List.lookup_cons,List.lookup_cons]
   by_cases e:k=a
   ·grind
   have h1:(k == a)=false:=by simp [e]
   have h2:((nd ns k).id == (nd ns a).id)=false:=by
    simp
    exact λh=>e (hr.inj hk (hp (a,b) (T5 ..)) h)
   grind
theorem Way.back {ps:List (Int×Int)} {z0:Int} {w:List Int} (h:Way ps z0 w z0) (hl:0<w.length):¬Ends ps z0:=λ⟨k,hk⟩=>by
 obtain⟨j,hj,h2⟩:=h.long hk
 have:=oe.uniq hk h2
 omega
theorem NY:∀(n:Nat) (l:List Nat),l.Nodup->(∀x,x∈l->x<n)->l.length<=n
 |0,[],_,_=>N6 _
 |0,a::l,_,h=>KB (h a (T5 ..)) (N5 a)
 |n+1,l,hn,h=>by
   have h1:=NY n (l.erase n) (hn.erase n) (λx hx=>by
    have h2:=(List.Nodup.mem_erase_iff hn).1 hx
    have:=h x h2.2
    omega)
   by_cases hm:n∈l
   ·have:=List.length_erase_of_mem hm
    omega
   rw [List.erase_of_not_mem hm] at h1
   omega
theorem VU {ns:List aP} {ed:List (Nat×Nat)} (hp:∀p,p∈ed->p.1<ns.length) (h:∀i,i<ns.length->Ends (ed.map (lu ns)) (nd ns i).id):Cu (ed.map (lu ns)):=by
 intro z
 cases hu:up (ed.map (lu ns)) z with
 |none=>exact⟨0,hu⟩
 |some y=>
   have:∃p,p∈ed/\z=(nd ns p.1).id:=by
    unfold up at hu
    clear h
    induction ed with
    |nil=>cases hu
    |cons p ed ih=>
      grind [lu,nd]
   obtain⟨p,h1,rfl⟩:=this
   exact h p.1 (hp p h1)
theorem N0 {ns:List aP} {ed:List (Nat×Nat)} {pl:List Int} {z:Int} {b m:Nat} {w:List Int} (hr:dK ns) (hp:∀p,p∈ed->p.1<ns.length/\p.2<ns.length) (hpar:NV ns.length pl ed) (hb:b<ns.length) (hw:Way (ed.map (lu ns)) z w (nd ns b).id) (hm:w.length=m) :
 (pl.getD b 0<0/\Ends (ed.map (lu ns)) z)\/∃q:Nat,pl.getD b 0=(q:Int)/\q<ns.length/\Way (ed.map (lu ns)) z (w++[(nd ns b).id]) (nd ns q).id/\(w++[(nd ns b).id]).length=m+1:=by
 rw [hpar.at_ b hb]
 rcases acz hr hb (λp h=>(hp p h).1) with ⟨h1,h2⟩|⟨a,h1,h2,h3⟩
 ·exact .inl ⟨h1,(hw.ends ⟨0,h2⟩).1⟩
 exact .inr ⟨a,h1,(hp _ h2).2,hw.snoc h3,by simp;omega⟩
theorem Dg {ns:List aP} {i j:Nat} (h1:0<=gF ns (bO ns i j).id) (h2:bU (bO ns i j).name) (h3:0<j->¬iR (bO ns i j).name (bO ns i (j-1)).name):xh ns i j:=by
 refine⟨h1,h2,?_⟩
 cases j with
 |zero=>
   intro h
   have:=QK.1 h
   have h4:=h2.1
   rw [this] at h4
   exact KB h4 (by decide)
 |succ j=>exact h3 (Nat.succ_pos j)
theorem TA {ns:List aP} {k:Nat} (h:0<k):qI ns k=(nd ns (k-1)).id:=by
 cases k with
 |zero=>omega
 |succ k=>rfl
theorem N7 {ns:List aP} {i j:Nat} (h:0<j):zH ns i j=(bO ns i (j-1)).name:=by
 cases j with
 |zero=>omega
 |succ j=>rfl
theorem cD.few {ns:List aP} (h:cD ns):((ju ns ns.length).map (lu ns)).length<=ns.length:=by
 rw [ahQ]
 have h1:=zJ (ns:=ns) (N6 _) h.aq
 have h2:=NY ns.length ((ju ns ns.length).map Prod.fst) h.nodup (λx hx=>by
  obtain⟨p,hp,rfl⟩:=ahN.1 hx
  exact (h1 p hp).1)
 rwa [ahQ] at h2
end
section
open Go.RowKit
attribute [local irreducible] aE bH ax aF
theorem QM {β:Bs} (A:Option Addr) (c:Nat) (ns:List aP) (L:fk) (hG:aO β A ns L) (hl:ns.length<=1048576) (hd:∀i,i<ns.length->(nd ns i).data.length<=1048576/\(nd ns i).aq.length<=1048576) (_:∀i,i<ns.length->∀j,j<(nd ns i).aq.length->-9223372036854775808<=(bO ns i j).id/\(bO ns i j).id<=9223372036854775807) (hnm:∀i,i<ns.length->∀j,j<(nd ns i).aq.length->(bO ns i j).name.size<=1048576) (ht:∀i,i<ns.length->(nd ns i).target.size<=1048576) :
 aW Tryz.prog β 56 #[.agg #[.slice A ns.length c]] [] (λv l=>v=vI (if cD ns then 0 else 140)/\l=[]):=by
 refine SE Tryz.func56 Tryz.ntmps56 (λR=>SR (jB 2 [1] (λb1=>.aD b1 [.slice A (ns.length) (c)] 24) (λb1=>NZ (jK 4 [18] [(1,a_ 1 b1)] (NN (cP ((((ns.length:Nat):Int):Int)>(4096:Int)) (λpU=>zR ⟨zc (Value.int .i64) (nw (c:=cD ns) (λh=>by have:=h.len;omega)).symm,rfl⟩) (λpU=>KX (SR (jK 1 [3] [] (NZ (jK 1 [4] [] (NN (ax.block (lJ (λ(k:Nat)=>(k<=ns.length)/\(wE ns k)/\(dY ns k<=k*1048576)) (λ(k:Nat)=>ns.length-k) (λ(k:Nat)=>[(1,vP b1),(3,vI ↑(dY ns k)),(4,vI ↑k)]) (λ(k:Nat)=>[.aD b1 [.slice A (ns.length) (c)] 24,.abs R]) 0 [1,0] (⟨L4 _,wE.zero ns,L4 _⟩) ?_))))))))))))))
 rintro k ⟨hk,hu,hs⟩
 have hk4:=(hd k)
 refine SQ (jK 5 [23] [(2,a_ 0 b1)] (NN (cP ((((k:Nat):Int):Int)<(((ns.length:Nat):Int):Int)) (λh23=>KX (ax.seq (ax.block (SR (jN 7 [5] (λb2=>[(1,a_ 0 b1),(3,x_ k ns.length (aO.hd hG (i:=k) d5)),(4,Eh (iL L k (nd ns k)) (λ_ _ h=>aO.rd hG d5 h)),(6,A_ 2 b2 10)]) (λ_=>[]) (λb2=>.aD b2 (iL L k (nd ns k)) 102) (λb2=>NN (ax.seq (ax.seq (rQ (jQ 4 [34] [(1,a_ 2 b2)] (bH.w9 34 (((nd ns k).id:Int)<(1:Int)) (λ_=>d6) (λxG=>jQ 25 [59] [] (NQ (NX (CT (zR ⟨zc (Value.int .i64) (nw (c:=cD ns) (λh=>by have:=(h.ids k d5).1;omega)).symm,rfl⟩ [1]))))) (λxG=>jQ 5 [39] [(1,a_ 2 b2)] (bH.w9 39 (((nd ns k).id:Int)>(1099511627776:Int)) (λ_=>d6) (λlW=>jQ 20 [59] [] (NQ (NX (CT (zR ⟨zc (Value.int .i64) (nw (c:=cD ns) (λh=>by have:=(h.ids k d5).2;omega)).symm,rfl⟩ [1]))))) (λlW=>jQ 3 [42] [] (bH.w9 42 ((((k:Nat):Int):Int)>(0:Int)) (λ_=>d6) (λtE=>jQ 13 [55] [(1,a_ 2 b2),(3,a_ 0 b1),(5,wJ ((k:Int)-1) (↑(k-1))),(6,x_ (k-1) ns.length (aO.hd hG (i:=(k-1)) d5)),(8,r_ (aO.rd hG (i:=(k-1)) d5 (j:=0) rfl))] (bH.w9 55 (((nd ns k).id:Int)<=((nd ns (k-1)).id:Int)) (λ_=>d6) (λh55=>jQ 4 [59] [] (NQ (NX (CT (zR ⟨zc (Value.int .i64) (nw (c:=cD ns) (λh=>by have:=h.fP (k-1) k d5 d5;omega)).symm,rfl⟩ [1]))))) (λh55=>jQ 1 [56] [(0,A_ 2 b2 10)] (zy [] [0,1,2] (.bool (decide (rU (nd ns k)))) (ND (nd ns k) (L.dA k) (L.eA k) (L.dC k) (L.eC k) (ht k d5)) (jQ 2 [59] [] (NQ (NX (cN (rU (nd ns k)) (λxH=>zR ⟨zc (Value.int .i64) (nw (c:=cD ns) (λh=>by exact xH (h.node k d5))).symm,rfl⟩ [1]) (λxH=>KX (ax.region (jK 6 [3] [(2,a_ 2 b2),(4,wJ (((dY ns k:Nat):Int)+(((nd ns k).aq.length:Nat):Int)) (↑((dY ns k)+((nd ns k).aq.length))))] (LX (ax.region (jK 3 [4] [(1,wJ ((k:Int)+1) (↑(k+1)))] (NL (tJ ((k+1)) [0,1] (⟨d5,hu.step (by rw [TA d5];omega) d5 xH,by show dY ns k+_<=_;omega⟩))))))))))))))))) (λtE=>jQ 14 [55,56] [(13,A_ 2 b2 10)] (zy [] [0,1,2] (.bool (decide (rU (nd ns k)))) (ND (nd ns k) (L.dA k) (L.eA k) (L.dC k) (L.eC k) (ht k d5)) (jQ 2 [59] [] (NQ (NX (cN (rU (nd ns k)) (λxH=>zR ⟨zc (Value.int .i64) (nw (c:=cD ns) (λh=>by exact xH (h.node k d5))).symm,rfl⟩ [1]) (λxH=>KX (ax.region (jK 6 [3] [(2,a_ 2 b2),(4,wJ (((dY ns k:Nat):Int)+(((nd ns k).aq.length:Nat):Int)) (↑((dY ns k)+((nd ns k).aq.length))))] (LX (ax.region (jK 3 [4] [(1,wJ ((k:Int)+1) (↑(k+1)))] (NL (tJ ((k+1)) [0,1] (⟨d5,hu.step (by rw [show k=0 by omega];rw [show k=0 by omega] at xG;show (0:Int)<_;omega) d5 xH,by show dY ns k+_<=_;omega⟩)))))))))))))))))))))))))))))) (λh23=>XX (SQ (jK 2 [66] [] (NN (cP ((((dY ns k:Nat):Int):Int)>(8192:Int)) (λqv=>zR ⟨zc (Value.int .i64) (nw (c:=cD ns) (λh=>by have h1:=h.sum;grind)).symm,rfl⟩ [1]) (λqv=>KX (SR (jK 3 [69] [(1,a_ 0 b1)] (aE.YO (d:=(some 70)) (t:=41) (e:=3) (z:=.int .i64 0) (bytes:=8) (n:=ns.length) (l:=(.tmp 69)) (c:=(.tmp 69)) (λ_=>d6) (λ_=>d6) (λ_=>d6) Tryz.underlying41 d6 rfl d5 d5 (λb3=>jK 1 [6] [] (NZ (aE.cT 2 (p':=.abs (aK 3 1 (some ⟨b3,0,none⟩) ns.length ns.length (j6 (List.replicate ns.length 0)))) rfl (by rw [j6,List.map_replicate]) (jK 1 [7] [] (NN (ax.block (lJ (λ(t,pl)=>(t<=ns.length)/\(pl.length=ns.length)/\(∀a,a<t->pl.getD a 0 = -1)) (λ(t,pl)=>ns.length-t) (λ(t,pl)=>[(1,vP b1),(6,.slice (some ⟨b3,0,none⟩) (ns.length) (ns.length)),(7,vI ↑t)]) (λ(t,pl)=>[.aD b1 [.slice A (ns.length) (c)] 24,.abs (aK 3 1 (some ⟨b3,0,none⟩) ns.length ns.length (j6 pl)),.abs R]) (0,(List.replicate ns.length 0)) [0,2,1] (⟨L4 _,nh,λa ha=>KB ha (N5 a)⟩) ?_)))))))))))))))))))
 rintro⟨t,pl⟩ ⟨ht2,hpl,hpa⟩
 refine SQ (jK 4 [74] [] (NN (cP ((((t:Nat):Int):Int)<(((ns.length:Nat):Int):Int)) (λGr=>KX (ax.seq (ax.block (ax.region (jK 3 [79] [(2,p_ ⟨[],some t,none,none,some (.pointer (some ⟨b3,t,none⟩))⟩ [(Value.pointer (some ⟨b3,0+t*1,none⟩))=(.pointer (some ⟨b3,t,none⟩)),((t:Nat):Int)=((t:Nat):Int),t<ns.length,(⟨b3,0,none⟩:Addr).spot=none] ⟨nh,rfl,d5,rfl,trivial⟩)] (aE.IE 1 (t) (d:=none) (T:=3) (e:=3) (size:=1) (n:=ns.length) (cap:=ns.length) (g:=b3) (xs:=(j6 pl)) (u:=.int .i64 (-1)) (a:=(.tmp 79)) (y:=(.const (.int .i64 (-1)))) (λ_=>d6) d6 (λ_=>d6) (λ_=>d6) d6 rfl (by rw [j6,ahQ];omega) (aE.cT 1 rfl (by rw [Eo]) (LX (ax.region (jK 3 [7] [(1,wJ ((t:Int)+1) (↑(t+1)))] (NL (tJ ((t+1),(pl.set t (-1))) [0,1,2] (⟨d5,by rw [T7];exact hpl,λa ha=>(by grind [NW])⟩))))))))))))) (λGr=>XX (SQ (jK 1 [8] [] (NN (ax.block ?_))))))))
 have Dd:dK ns:=λa b gA hb=>hu.fP a b gA d5
 have hsum:dY ns ns.length<=8192:=by rw [show ns.length=k by omega];omega
 refine lJ (λ(i,wh)=>(i<=ns.length)/\(∀a,a<i->∀j,j<(nd ns a).aq.length->xh ns a j)/\(((ju ns i).map Prod.fst).Nodup)/\(NV ns.length wh (ju ns i))) (λ(i,wh)=>ns.length-i) (λ(i,wh)=>[(1,vP b1),(6,.slice (some ⟨b3,0,none⟩) (ns.length) (ns.length)),(8,vI ↑i)]) (λ(i,wh)=>[.aD b1 [.slice A (ns.length) (c)] 24,.abs (aK 3 1 (some ⟨b3,0,none⟩) ns.length ns.length (j6 wh)),.abs R]) (0,pl) [0,1,2] (⟨L4 _,λa ha=>KB ha (N5 a),List.nodup_nil,⟨hpl,λa ha=>hpa a d5⟩⟩) ?_
 rintro⟨i,wh⟩ ⟨hi,Bb,hnd,hpar⟩
 refine SQ (jK 5 [84] [(2,a_ 0 b1)] (NN (cP ((((i:Nat):Int):Int)<(((ns.length:Nat):Int):Int)) (λh84=>?_) (λh84=>?_))))
 ·refine KX (ax.seq (ax.block (SR (jK 1 [9] [] (NN (ax.block (lJ (λ(j,tF)=>(j<=(nd ns i).aq.length)/\(∀t,t<j->xh ns i t)/\(((iy ns i j++ju ns i).map Prod.fst).Nodup)/\(NV ns.length tF (iy ns i j++ju ns i))) (λ(j,tF)=>(nd ns i).aq.length-j) (λ(j,tF)=>[(1,vP b1),(6,.slice (some ⟨b3,0,none⟩) (ns.length) (ns.length)),(8,vI ↑i),(9,vI ↑j)]) (λ(j,tF)=>[.aD b1 [.slice A (ns.length) (c)] 24,.abs (aK 3 1 (some ⟨b3,0,none⟩) ns.length ns.length (j6 tF)),.abs R]) (0,wh) [0,1,2] (⟨L4 _,λt ht=>KB ht (N5 t),hnd,hpar⟩) ?_)))))))
  rintro⟨j,tF⟩ ⟨hj,hok,N8,xj⟩
  have hd3:=(hd i d5).2
  have VW:=xj.len
  refine SQ (jK 9 [95] [(2,a_ 0 b1),(4,x_ i ns.length (aO.hd hG (i:=i) d5)),(6,r_ (aO.rd hG (i:=i) d5 (j:=9) rfl))] (NN (cP ((((j:Nat):Int):Int)<((((nd ns i).aq.length:Nat):Int):Int)) (λh95=>KX (ax.seq (ax.block (SR (jN 11 [10] (λb4=>[(1,a_ 0 b1),(3,x_ i ns.length (aO.hd hG (i:=i) d5)),(5,r_ (aO.rd hG (i:=i) d5 (j:=9) rfl)),(7,x_ j ((nd ns i).aq.length) (cU.hd (hG.aq i d5) (i:=j) d5)),(8,r2 (cU.rd (hG.aq i d5) (i:=j) d5 (j:=0) rfl) (cU.rd (hG.aq i d5) (i:=j) d5 (j:=1) rfl)),(10,A_ 3 b4 2)]) (λ_=>[]) (λb4=>.aD b4 [.string (en (nd ns i).aq j).name,vI ((en (nd ns i).aq j).id)] 126) (λb4=>NS (jK 3 [107,109] [(0,a_ 0 b1),(2,a_ 3 b4)] (gE [] (yO A c ns L hG Dd hl (en (nd ns i).aq j).id) (jK 1 [11] [] (NN (ax.seq (ax.seq (rQ (jQ 3 [113] [] (bH.w9 113 ((gF ns (en (nd ns i).aq j).id:Int)<(0:Int)) (λ_=>d6) (λKj=>jQ 25 [138] [] (NQ (NX (CT (zR ⟨zc (Value.int .i64) (nw (c:=cD ns) (λh=>by have h1:=(h.aq i d5 j d5).at_;change 0<=gF ns (en (nd ns i).aq j).id at h1;omega)).symm,rfl⟩ [2]))))) (λKj=>?_)))))))))))))))) (λh95=>XX (ax.region (jK 3 [8] [(1,wJ ((i:Int)+1) (↑(i+1)))] (NL (tJ ((i+1),tF) [0,1,2] (⟨d5,λa ha=>gn,(by have:=N8;rwa [show j=(nd ns i).aq.length by omega] at this),(by have:=xj;rwa [show j=(nd ns i).aq.length by omega] at this)⟩)))))))))
  have htl:=mR (Int.not_lt.1 Kj)
  refine jQ 2 [115] [(1,a_ 3 b4)] (zy [] [0,1,2,3] (.bool (decide (bU (en (nd ns i).aq j).name))) (Db (en (nd ns i).aq j).name (hnm i d5 j d5)) (jQ 3 [119] [] (bH.Tn 119 (bU (en (nd ns i).aq j).name) (λ_=>d6) (λKk=>jQ 19 [138] [] (NQ (NX (CT (zR ⟨zc (Value.int .i64) (nw (c:=cD ns) (λh=>by exact Kk (h.aq i d5 j d5).good)).symm,rfl⟩ [2]))))) (λKk=>?_))))
  refine jQ 3 [122] [] (bH.w9 122 ((((j:Nat):Int):Int)>(0:Int)) (λ_=>d6) (λTB=>jQ 16 [138] [(1,a_ 3 b4),(3,a_ 0 b1),(5,x_ i ns.length (aO.hd hG (i:=i) d5)),(7,r_ (aO.rd hG (i:=i) d5 (j:=9) rfl)),(9,wJ ((j:Int)-1) (↑(j-1))),(10,x_ (j-1) ((nd ns i).aq.length) (cU.hd (hG.aq i d5) (i:=(j-1)) d5)),(12,r_ (cU.rd (hG.aq i d5) (i:=(j-1)) d5 (j:=0) rfl)),(13,w_ (.bool (decide (iR ((en (nd ns i).aq j).name) ((en (nd ns i).aq (j-1)).name)))) (NJ _ _))] (NQ (NX (cP (iR ((en (nd ns i).aq j).name) ((en (nd ns i).aq (j-1)).name)) (λTD=>zR ⟨zc (Value.int .i64) (nw (c:=cD ns) (λh=>by have h1:=(h.aq i d5 j d5).ord;rw [N7 d5] at h1;exact h1 TD)).symm,rfl⟩ [2]) (λTD=>KX (SR (jK 7 [145] [(1,a_ 0 b1),(3,p_ ⟨[],some (bV ns (en (nd ns i).aq j).id),none,some ⟨(cC A),cq A,none⟩,none⟩ [gF ns (en (nd ns i).aq j).id=(((bV ns (en (nd ns i).aq j).id):Nat):Int),(bV ns (en (nd ns i).aq j).id)<ns.length,(⟨(cC A),cq A,none⟩:Addr).spot=none,(A:Option Addr)=some ⟨(cC A),cq A,none⟩] ⟨htl.2.2,d5,rfl,aO.hd hG (i:=(bV ns (en (nd ns i).aq j).id)) d5,trivial⟩),(5,r_ (aO.rd hG (i:=(bV ns (en (nd ns i).aq j).id)) d5 (j:=1) rfl))] (NN (cP (((nd ns (bV ns (en (nd ns i).aq j).id)).kind:Int)=(2:Int)) (λud=>SQ (jK 5 [150] [(2,p_ ⟨[],some (bV ns (en (nd ns i).aq j).id),none,none,some (.pointer (some ⟨b3,(bV ns (en (nd ns i).aq j).id),none⟩))⟩ [(Value.pointer (some ⟨b3,0+(bV ns (en (nd ns i).aq j).id)*1,none⟩))=(.pointer (some ⟨b3,(bV ns (en (nd ns i).aq j).id),none⟩)),gF ns (en (nd ns i).aq j).id=(((bV ns (en (nd ns i).aq j).id):Nat):Int),(bV ns (en (nd ns i).aq j).id)<ns.length,(⟨b3,0,none⟩:Addr).spot=none] ⟨nh,htl.2.2,d5,rfl,trivial⟩),(3,p_ ⟨[.view 1 (.int .i64 ((tF.getD (bV ns (en (nd ns i).aq j).id) 0)))],none,none,none,none⟩ [(∀F w,(aK 3 1 (some ⟨b3,0,none⟩) ns.length ns.length (j6 tF)).h F w->w.cell? ⟨b3,(bV ns (en (nd ns i).aq j).id),none⟩=some (vI ((tF.getD (bV ns (en (nd ns i).aq j).id) 0))))] ⟨aK.cell (Bc d5),trivial⟩)] (NN (cP (((tF.getD (bV ns (en (nd ns i).aq j).id) 0):Int)>=(0:Int)) (λZc=>zR ⟨zc (Value.int .i64) (nw (c:=cD ns) (λh=>by have h1:Df (iy ns i j++ju ns i) (bV ns (en (nd ns i).aq j).id)<0:=Bd.2 (Cc (h.row d5) d5 ud);rw [←xj.at_ (bV ns (en (nd ns i).aq j).id) d5] at h1;omega)).symm,rfl⟩ [2]) (λZc=>KX (ax.region (jK 4 [153,154] [(3,p_ ⟨[],some (bV ns (en (nd ns i).aq j).id),none,none,some (.pointer (some ⟨b3,(bV ns (en (nd ns i).aq j).id),none⟩))⟩ [(Value.pointer (some ⟨b3,0+(bV ns (en (nd ns i).aq j).id)*1,none⟩))=(.pointer (some ⟨b3,(bV ns (en (nd ns i).aq j).id),none⟩)),gF ns (en (nd ns i).aq j).id=(((bV ns (en (nd ns i).aq j).id):Nat):Int),(bV ns (en (nd ns i).aq j).id)<ns.length,(⟨b3,0,none⟩:Addr).spot=none] ⟨nh,htl.2.2,d5,rfl,trivial⟩)] (aE.IE 1 ((bV ns (en (nd ns i).aq j).id)) (d:=none) (T:=3) (e:=3) (size:=1) (n:=ns.length) (cap:=ns.length) (g:=b3) (xs:=(j6 tF)) (u:=.int .i64 ↑i) (a:=(.tmp 154)) (y:=(.tmp 153)) (λ_=>d6) d6 (λ_=>d6) (λ_=>d6) d6 rfl (by rw [j6,ahQ];omega) (aE.cT 1 rfl (by rw [Eo]) (LX (ax.region (jK 3 [9] [(1,wJ ((j:Int)+1) (↑(j+1)))] (NL (tJ ((j+1),(tF.set (bV ns (en (nd ns i).aq j).id) ((i:Nat):Int))) [0,1,2] (⟨d5,λt ht=>(by rcases Pe.1 ht with h|h;exact hok t h;subst h;exact Dg (Int.not_lt.1 Kj) Kk (λ_=>TD)),(by rw [qo ud,aib,ah2];exact aiC.2 ⟨show bV ns (en (nd ns i).aq j).id∉_ from Bd.1 (by rw [←xj.at_ (bV ns (en (nd ns i).aq j).id) d5];omega),N8⟩),(by rw [qo ud];exact xj.put d5)⟩))))))))))))))) (λud=>KX (ax.region (jK 3 [9] [(1,wJ ((j:Int)+1) (↑(j+1)))] (NL (tJ ((j+1),tF) [0,1,2] (⟨d5,λt ht=>(by rcases Pe.1 ht with h|h;exact hok t h;subst h;exact Dg (Int.not_lt.1 Kj) Kk (λ_=>TD)),(by rw [q4 ud];exact N8),(by rw [q4 ud];exact xj)⟩))))))))))))))) (λTB=>?_))
  exact jQ 16 [138] [] (NQ (NX (CF (KX (SR (jK 7 [145] [(1,a_ 0 b1),(3,p_ ⟨[],some (bV ns (en (nd ns i).aq j).id),none,some ⟨(cC A),cq A,none⟩,none⟩ [gF ns (en (nd ns i).aq j).id=(((bV ns (en (nd ns i).aq j).id):Nat):Int),(bV ns (en (nd ns i).aq j).id)<ns.length,(⟨(cC A),cq A,none⟩:Addr).spot=none,(A:Option Addr)=some ⟨(cC A),cq A,none⟩] ⟨htl.2.2,d5,rfl,aO.hd hG (i:=(bV ns (en (nd ns i).aq j).id)) d5,trivial⟩),(5,r_ (aO.rd hG (i:=(bV ns (en (nd ns i).aq j).id)) d5 (j:=1) rfl))] (NN (cP (((nd ns (bV ns (en (nd ns i).aq j).id)).kind:Int)=(2:Int)) (λud=>SQ (jK 5 [150] [(2,p_ ⟨[],some (bV ns (en (nd ns i).aq j).id),none,none,some (.pointer (some ⟨b3,(bV ns (en (nd ns i).aq j).id),none⟩))⟩ [(Value.pointer (some ⟨b3,0+(bV ns (en (nd ns i).aq j).id)*1,none⟩))=(.pointer (some ⟨b3,(bV ns (en (nd ns i).aq j).id),none⟩)),gF ns (en (nd ns i).aq j).id=(((bV ns (en (nd ns i).aq j).id):Nat):Int),(bV ns (en (nd ns i).aq j).id)<ns.length,(⟨b3,0,none⟩:Addr).spot=none] ⟨nh,htl.2.2,d5,rfl,trivial⟩),(3,p_ ⟨[.view 1 (.int .i64 ((tF.getD (bV ns (en (nd ns i).aq j).id) 0)))],none,none,none,none⟩ [(∀F w,(aK 3 1 (some ⟨b3,0,none⟩) ns.length ns.length (j6 tF)).h F w->w.cell? ⟨b3,(bV ns (en (nd ns i).aq j).id),none⟩=some (vI ((tF.getD (bV ns (en (nd ns i).aq j).id) 0))))] ⟨aK.cell (Bc d5),trivial⟩)] (NN (cP (((tF.getD (bV ns (en (nd ns i).aq j).id) 0):Int)>=(0:Int)) (λZc=>zR ⟨zc (Value.int .i64) (nw (c:=cD ns) (λh=>by have h1:Df (iy ns i j++ju ns i) (bV ns (en (nd ns i).aq j).id)<0:=Bd.2 (Cc (h.row d5) d5 ud);rw [←xj.at_ (bV ns (en (nd ns i).aq j).id) d5] at h1;omega)).symm,rfl⟩ [2]) (λZc=>KX (ax.region (jK 4 [153,154] [(3,p_ ⟨[],some (bV ns (en (nd ns i).aq j).id),none,none,some (.pointer (some ⟨b3,(bV ns (en (nd ns i).aq j).id),none⟩))⟩ [(Value.pointer (some ⟨b3,0+(bV ns (en (nd ns i).aq j).id)*1,none⟩))=(.pointer (some ⟨b3,(bV ns (en (nd ns i).aq j).id),none⟩)),gF ns (en (nd ns i).aq j).id=(((bV ns (en (nd ns i).aq j).id):Nat):Int),(bV ns (en (nd ns i).aq j).id)<ns.length,(⟨b3,0,none⟩:Addr).spot=none] ⟨nh,htl.2.2,d5,rfl,trivial⟩)] (aE.IE 1 ((bV ns (en (nd ns i).aq j).id)) (d:=none) (T:=3) (e:=3) (size:=1) (n:=ns.length) (cap:=ns.length) (g:=b3) (xs:=(j6 tF)) (u:=.int .i64 ↑i) (a:=(.tmp 154)) (y:=(.tmp 153)) (λ_=>d6) d6 (λ_=>d6) (λ_=>d6) d6 rfl (by rw [j6,ahQ];omega) (aE.cT 1 rfl (by rw [Eo]) (LX (ax.region (jK 3 [9] [(1,wJ ((j:Int)+1) (↑(j+1)))] (NL (tJ ((j+1),(tF.set (bV ns (en (nd ns i).aq j).id) ((i:Nat):Int))) [0,1,2] (⟨d5,λt ht=>(by rcases Pe.1 ht with h|h;exact hok t h;subst h;exact Dg (Int.not_lt.1 Kj) Kk (λh=>KB h (by omega))),(by rw [qo ud,aib,ah2];exact aiC.2 ⟨show bV ns (en (nd ns i).aq j).id∉_ from Bd.1 (by rw [←xj.at_ (bV ns (en (nd ns i).aq j).id) d5];omega),N8⟩),(by rw [qo ud];exact xj.put d5)⟩))))))))))))))) (λud=>KX (ax.region (jK 3 [9] [(1,wJ ((j:Int)+1) (↑(j+1)))] (NL (tJ ((j+1),tF) [0,1,2] (⟨d5,λt ht=>(by rcases Pe.1 ht with h|h;exact hok t h;subst h;exact Dg (Int.not_lt.1 Kj) Kk (λh=>KB h (by omega))),(by rw [q4 ud];exact N8),(by rw [q4 ud];exact xj)⟩))))))))))))))
 refine XX (SQ (jK 1 [12] [] (NN (ax.block ?_))))
 have abx:NV ns.length wh (ju ns ns.length):=gn
 have hed:=zJ (ns:=ns) (N6 _) (λa ha=>Bb a d5)
 refine lJ (λ(a:Nat)=>(a<=ns.length)/\(∀b,b<a->Ends ((ju ns ns.length).map (lu ns)) (nd ns b).id)) (λ(a:Nat)=>ns.length-a) (λ(a:Nat)=>[(6,.slice (some ⟨b3,0,none⟩) (ns.length) (ns.length)),(12,vI ↑a)]) (λ(a:Nat)=>[.abs (aK 3 1 (some ⟨b3,0,none⟩) ns.length ns.length (j6 wh)),.abs R]) 0 [1,2] (⟨L4 _,λb hb=>KB hb (N5 b)⟩) ?_
 rintro a ⟨ha,hend⟩
 have VW:=hpar.len
 refine SQ (jK 4 [158] [] (NN (cP ((((a:Nat):Int):Int)<(((ns.length:Nat):Int):Int)) (λagl=>KX (ax.seq (ax.block (SR (jK 5 [13] [(2,p_ ⟨[],some a,none,none,some (.pointer (some ⟨b3,a,none⟩))⟩ [(Value.pointer (some ⟨b3,0+a*1,none⟩))=(.pointer (some ⟨b3,a,none⟩)),((a:Nat):Int)=((a:Nat):Int),a<ns.length,(⟨b3,0,none⟩:Addr).spot=none] ⟨nh,rfl,d5,rfl,trivial⟩),(3,p_ ⟨[.view 0 (.int .i64 ((wh.getD a 0)))],none,none,none,none⟩ [(∀F w,(aK 3 1 (some ⟨b3,0,none⟩) ns.length ns.length (j6 wh)).h F w->w.cell? ⟨b3,a,none⟩=some (vI ((wh.getD a 0))))] ⟨aK.cell (Bc d5),trivial⟩)] (NS (jK 1 [14] [] (NN (ax.block (lJ (λ(at_,step,w)=>((at_<0/\Ends ((ju ns ns.length).map (lu ns)) (nd ns a).id)\/∃q:Nat,at_=(q:Int)/\q<ns.length/\Way ((ju ns ns.length).map (lu ns)) (nd ns a).id w (nd ns q).id/\w.length=step+1)) (λ(at_,step,w)=>ns.length+2-step) (λ(at_,step,w)=>[(6,.slice (some ⟨b3,0,none⟩) (ns.length) (ns.length)),(12,vI ↑a),(13,vI (at_)),(14,vI ↑step)]) (λ(at_,step,w)=>[.abs (aK 3 1 (some ⟨b3,0,none⟩) ns.length ns.length (j6 wh)),.abs R]) ((wh.getD a 0),0,[(nd ns a).id]) [0,1] (N0 Dd hed abx d5 .nil rfl) ?_)))))))))) (λagl=>XX (zR ⟨zc (Value.int .i64) (t8 (c:=cD ns) ⟨d5,λa ha=>hu.node a d5,λa ha=>hu.ids a d5,Dd,d5,λa ha=>Bb a d5,gn,VU (λp hp=>(hed p hp).1) (λb hb=>hend b d5)⟩).symm,rfl⟩ [1])))))
 rintro⟨at_,step,w⟩ hst
 refine SQ (jK 2 [166] [] (NN (cP ((at_:Int)>=(0:Int)) (λagm=>?_) (λagm=>XX (ax.region (jK 3 [12] [(1,wJ ((a:Int)+1) (↑(a+1)))] (NL (tJ ((a+1)) [0,1] (⟨d5,λb hb=>gn⟩)))))))))
 obtain⟨b,hb0,hb1,hb2,hb3⟩:=hst.resolve_left (λh=>d5)
 exact KX (ax.seq (ax.block (SQ (jK 4 [172] [] (sP 172 ((at_:Int)=(((a:Nat):Int):Int)) (λagn=>jK 5 [177] [] (NT (zR ⟨zc (Value.int .i64) (nw (c:=cD ns) (λh=>by rw [show b=a by omega] at hb2;exact hb2.back d5 (h.ends _))).symm,rfl⟩ [1]))) (λagn=>jK 5 [177] [] (NN (cP ((((step:Nat):Int):Int)>(((ns.length:Nat):Int):Int)) (λagp=>zR ⟨zc (Value.int .i64) (nw (c:=cD ns) (λh=>by exact hb2.never (by have:=h.few;omega) (h.ends _))).symm,rfl⟩ [1]) (λagp=>KX (ax.region (jK 5 [13] [(2,p_ ⟨[],some b,none,none,some (.pointer (some ⟨b3,b,none⟩))⟩ [(Value.pointer (some ⟨b3,0+b*1,none⟩))=(.pointer (some ⟨b3,b,none⟩)),at_=((b:Nat):Int),b<ns.length,(⟨b3,0,none⟩:Addr).spot=none] ⟨nh,hb0,d5,rfl,trivial⟩),(3,p_ ⟨[.view 0 (.int .i64 ((wh.getD b 0)))],none,none,none,none⟩ [(∀F w,(aK 3 1 (some ⟨b3,0,none⟩) ns.length ns.length (j6 wh)).h F w->w.cell? ⟨b3,b,none⟩=some (vI ((wh.getD b 0))))] ⟨aK.cell (Bc d5),trivial⟩)] (LX (ax.region (jK 3 [14] [(1,wJ ((step:Int)+1) (↑(step+1)))] (NL (tJ ((wh.getD b 0),(step+1),(w++[(nd ns b).id])) [0,1] (N0 Dd hed abx hb1 hb2 hb3)))))))))))))))))
end
section
open Go.RowKit
theorem B0.refl (W:World):(B0 W).le (B0 W):=⟨λ_ h=>h,rfl,rfl,rfl,N6 _,λ_ hk=>⟨hk,rfl⟩⟩
theorem aW.val {P:Program} {β:Bs} {f:FuncId} {args:Array Value} {pre:List HP} {x y:Value} {l0:List HP} (h:aW P β f args pre (λv l=>v=x/\l=l0)) (e:x=y):aW P β f args pre (λv l=>v=y/\l=l0):=h.mono λ_ _ h=>⟨h.1.trans e,h.2⟩
section gb
variable {ns:List aP} {b:Nat}
variable (h:kq ns 1048576)
include h
end gb
structure ag9 (ns:List aP):Prop where
 hl:ns.length<=1048576
 hd:∀i,i<ns.length->(nd ns i).data.length<=140737488355328/\(nd ns i).aq.length<=1048576
 hwf:∀i,i<ns.length->∀j,j<(nd ns i).aq.length->-9223372036854775808<=(bO ns i j).id/\(bO ns i j).id<=9223372036854775807
 hnm:∀i,i<ns.length->∀j,j<(nd ns i).aq.length->(bO ns i j).name.size<=1048576
 ids:∀i,i<ns.length->uK (nd ns i).id
def L0:fk:=⟨λ_=>none,λ_=>none,λ_=>0,λ_=>0⟩
theorem cE.nil {β:Bs} {A:Option Addr}:cE β A []:=λj v hj=>by simp at hj
structure Th where
 k:Nat
 kind:Int
deriving Inhabited,DecidableEq
abbrev je (α:Type):=List (ByteArray×α)
structure bT where
 id:Int
 mode:Int
 cO:Int
 cQ:Int
 bJ:Int
 bh:Int
 aU:Int
 aR:Int
 aJ:Bool
 kind:Int
 data:List UInt8
 target:ByteArray
 aq:je Th
 up:Option Nat
deriving Inhabited
abbrev eE:=Nat->bT
def ah (O:eE) (k:Nat):bT:=O k
def bE (O:eE) (k:Nat) (f:bT->bT):eE:=λi=>if i=k then f (O i) else O i
section p4
variable {O:eE} {k j:Nat} {f g:bT->bT}
theorem iq:ah (bE O k f) k=f (ah O k):=t8 rfl
theorem jf (h:j≠k):ah (bE O k f) j=ah O j:=nw h
theorem mh:ah (bE O k f) j=if j=k then f (ah O j) else ah O j:=rfl
theorem acA (h:f (ah O k)=ah O k):bE O k f=O:=by
 grind [ah,bE]
theorem Ep:bE (bE O k f) k g=bE O k (λo=>g (f o)):=by
 grind [bE]
end p4
section aq
variable {α:Type} {n p:ByteArray} {t:α} {es:je α}
def bF (n:ByteArray) (es:je α):Option α:=(es.find? (λe=>decide (e.1=n))).map (·.2)
def kO (n:ByteArray) (t:α):je α->je α
 |[]=>[(n,t)]
 |e::r=>if ¬iR e.1 n then (n,t)::e::r else e::kO n t r
def kP (n:ByteArray) (es:je α):je α:=es.filter (λe=>decide (e.1≠n))
theorem p8 {e:ByteArray×α}:bF n (e::es)=if e.1=n then some e.2 else bF n es:=by
 grind [bF]
theorem Dh:bF n es=none↔∀e∈es,e.1≠n:=by
 unfold bF
 rw [Option.map_eq_none_iff,List.find?_eq_none]
 simp
theorem q5 {es:je α} (h:bF n es=some t):(n,t)∈es:=by
 unfold bF at h
 obtain⟨e,h1,h2⟩:=Option.map_eq_some_iff.1 h
 grind
theorem N9:∀{es:je α},(kO n t es).length=es.length+1
 |[]=>rfl
 |e::r=>by
   unfold kO
   split
   ·rfl
   rw [ahX,N9];rfl
theorem Er (hn:bF n es=none):bF p (kO n t es)=if p=n then some t else bF p es:=by
 induction es with
 |nil=>
   grind [kO,p8]
 |cons e r ih=>
   grind [p8,kO]
theorem xI:bF p (kP n es)=if p=n then none else bF p es:=by
 grind [kP,bF,p8]
def pY (es:je α):Prop:=es.Pairwise (λa b=>a.1≠b.1)
theorem Zd {es:je α} (hd:pY es) (h:bF n es=some t):(kP n es).length+1=es.length:=by
 induction es with
 |nil=>cases h
 |cons e r ih=>
   obtain⟨h1,h2⟩:=ahP.1 hd
   rw [p8] at h
   unfold kP at ih ⊢
   rw [List.filter_cons]
   by_cases he:e.1=n
   ·rw [nw (by simp [he])]
    have:r.filter (λe=>decide (e.1≠n))=r:=List.filter_eq_self.2 (λx hx=>gn)
    rw [this];rfl
   grind [pY,bF,kP]
theorem Hw {e:ByteArray×α}:∀{es:je α},e∈kO n t es↔e=(n,t)\/e∈es
 |[]=>by simp [kO]
 |x::r=>by
   unfold kO
   split
   ·simp
   rw [ahK,Hw,ahK]
   constructor
   ·rintro (h|h|h)
    ·exact .inr (.inl h)
    ·exact .inl h
    exact .inr (.inr h)
   rintro (h|h|h)
   ·exact .inr (.inl h)
   ·exact .inl h
   exact .inr (.inr h)
end aq
section sat
variable {β:Bs} {l:List HP} {w:World} {p p1 p2:HP} {i:Nat}
theorem aQ.aby (h:aQ β l w) (hp:l[i]?=some p) (hs:∀F,p.h F w->∃F1 F2,p1.h F1 w/\p2.h F2 w/\Apart F1 F2/\∀k,F k↔F1 k\/F2 k):aQ β (l.set i p1++[p2]) w:=by
 obtain⟨ho,φ,h1,h2,h3⟩:=h
 obtain⟨F1,F2,g1,g2,g3,g4⟩:=hs _ (h1 i p hp)
 have hi:=dG hp
 have jT:(l.set i p1++[p2]).length=l.length+1:=nh
 refine⟨ho,λj=>if j=l.length then F2 else if j=i then F1 else φ j,λj q hq=>?_,λj hj k hk hO=>?_,λa b ha hb cG k hk jw=>?_⟩
 all_goals grind [dG,aQ,Apart]
theorem aQ.abz {j:Nat} {ay:List Nat} {l':List HP} (h:aQ β l w) (hp:l[i]?=some p1) (hq:l[j]?=some p2) (hn:bS (i::j::ay)=true) (hl:cR l ay=some l') (hs:∀F1 F2,p1.h F1 w->p2.h F2 w->Apart F1 F2->∃F,p.h F w/\∀k,F k->F1 k\/F2 k):aQ β (p::l') w:=by
 have h':=h.pick (ay:=i::j::ay) (l':=p1::p2::l') hn (by simp only [cR,hp,hq,hl])
 obtain⟨ho,φ,h1,h2,h3⟩:=h'
 obtain⟨F,hF,hk⟩:=hs _ _ (h1 0 p1 rfl) (h1 1 p2 rfl) (h3 0 1 nh nh d8)
 have jT:(p1::p2::l').length=l'.length+2:=rfl
 rw [jT] at h2 h3
 refine⟨ho,λj=>if j=0 then F else φ (j+1),λj q hq=>?_,λj hj k hkk hO=>?_,λa b ha hb cG k hk1 hk2=>?_⟩
 ·grind
 ·grind
 simp only [ahX] at ha hb
 have key:∀j,j<l'.length->F k->φ (j+2) k->False:=λj hj e1 e2=>by
  rcases hk k e1 with e|e
  ·exact h3 0 (j+2) d5 d5 d5 k e e2
  exact h3 1 (j+2) d5 d5 d5 k e e2
 cases a with
 |zero=>
   cases b with
   |zero=>exact cG rfl
   |succ b=>exact key b d5 (by simpa using hk1) (by simpa using hk2)
 |succ a=>
   cases b with
   |zero=>exact key a d5 (by simpa using hk2) (by simpa using hk1)
   |succ b=>exact h3 (a+2) (b+2) d5 d5 d5 k (by simpa using hk1) (by simpa using hk2)
end sat
def kY (R:Nat->eG) (n:Nat):eG where
 h F w:=∃φ:Nat->Fp,(∀i,i<n->(R i).h (φ i) w)/\(∀i j,i<n->j<n->i≠j->Apart (φ i) (φ j))/\∀k,F k↔∃i,i<n/\φ i k
 lt:=λ⟨_,h1,_,h3⟩ k hk=>let ⟨i,hi,hk⟩:=(h3 k).1 hk;(R i).lt (h1 i hi) k hk
 st:=λ⟨φ,h1,h2,h3⟩ _ _ hk hn=>⟨φ,λi hi=>(R i).st (h1 i hi) hk (λk hk=>hn k ((h3 k).2 ⟨i,hi,hk⟩)),h2,h3⟩
def eG.none:eG where
 h F _:=∀k,¬F k
 lt:=λh k hk=>KB hk (h k)
 st:=λh _ _ _ _=>h
def pW (R:Nat->eG) (k:Nat) (a:eG):Nat->eG:=λi=>if i=k then a else R i
section VX
variable {β:Bs} {l l':List HP} {w:World} {i n k:Nat} {R R':Nat->eG} {a:eG}
theorem kY.nil (R:Nat->eG) (w:World):(HP.abs (kY R 0)).h (λ_=>False) w:=⟨λ_ _=>False,λi hi=>KB hi (N5 i),λi _ hi=>KB hi (N5 i),λ_=>⟨λh=>h.elim,λ⟨i,hi,_⟩=>KB hi (N5 i)⟩⟩
theorem aQ.I0 (h:aQ β l w) (R:Nat->eG):aQ β (l++[.abs (kY R 0)]) w:=aQ.new h (kY.nil R w) (cK.refl _ _) (λ_ h=>h.elim)
theorem aQ.acB (h:aQ β l w) (hp:l[i]?=some (.abs (kY R n))) (hk:k<n):aQ β (l.set i (.abs (kY (pW R k eG.none) n))++[.abs (R k)]) w:=by
 refine h.aby hp ?_
 rintro F ⟨φ,h1,h2,h3⟩
 refine⟨λx=>∃i,i<n/\i≠k/\φ i x,φ k,⟨λi=>if i=k then λ_=>False else φ i,λi hi=>?_,λi j hi hj cG x hx hy=>?_,λx=>⟨λ⟨i,hi,cG,hx⟩=>⟨i,hi,by simpa [cG] using hx⟩,λ⟨i,hi,hx⟩=>?_⟩⟩,h1 k hk,λx ⟨i,hi,cG,hx⟩ hy=>h2 i k hi hk cG x hx hy,λx=>⟨λhx=>?_,λhx=>?_⟩⟩
 ·unfold pW
  by_cases e:i=k
  ·simp only [e,if_true];exact λ_ h=>h
  simp only [e,if_false];exact h1 i hi
 ·by_cases e1:i=k
  ·simp [e1] at hx
  by_cases e2:j=k
  ·simp [e2] at hy
  exact h2 i j hi hj cG x (by simpa [e1] using hx) (by simpa [e2] using hy)
 ·by_cases e1:i=k
  ·simp [e1] at hx
  exact⟨i,hi,e1,by simpa [e1] using hx⟩
 all_goals grind
theorem aQ.uM {j:Nat} {ay:List Nat} (h:aQ β l w) (hp:l[i]?=some (.abs (kY R n))) (hq:l[j]?=some (.abs a)) (hn:bS (i::j::ay)=true) (hl:cR l ay=some l') (hR:∀x,x<n->R' x=R x) (ha:R' n=a):aQ β (.abs (kY R' (n+1))::l') w:=by
 refine h.abz hp hq hn hl ?_
 rintro F1 F2 ⟨φ,h1,h2,h3⟩ hF hap
 refine⟨λx=>F1 x\/F2 x,⟨λi=>if i=n then F2 else φ i,λi hi=>?_,λi j hi hj cG x hx hy=>?_,λx=>⟨λhx=>?_,λ⟨i,hi,hx⟩=>?_⟩⟩,λx hx=>hx⟩
 ·by_cases e:i=n
  ·subst e;simp only [if_true];rw [ha];exact hF
  grind
 ·by_cases e1:i=n
  ·by_cases e2:j=n
   ·exact cG (e1.trans e2.symm)
   simp only [e1,if_true] at hx
   simp only [e2,if_false] at hy
   exact hap x ((h3 x).2 ⟨j,d5,hy⟩) hx
  simp only [e1,if_false] at hx
  by_cases e2:j=n
  ·simp only [e2,if_true] at hy
   exact hap x ((h3 x).2 ⟨i,d5,hx⟩) hy
  simp only [e2,if_false] at hy
  exact h2 i j d5 d5 cG x hx hy
 ·rcases hx with hx|hx
  ·grind
  exact⟨n,ah0 n,by simpa using hx⟩
 grind
theorem kY.base {F:Fp} {β':Bs} (h:(HP.abs (kY R n)).h F w) (h1:∀k,F k->β'.O k) (_:β'.w0=w) {Φ:Nat->Bs->Prop} (Rx:∀i,i<n->∀F,(R i).h F w->(∀k,F k->β'.O k)->Φ i β'):∀i,i<n->Φ i β':=by
 obtain⟨φ,g1,_,g3⟩:=h
 grind
end VX
section C3
variable {P:Program} {β:Bs} {N:fN} {ops:Array Oper} {S:List HP} {l:List Nat} {fr:Fr} {aB:List HP} {Q:Post} {i:Nat}
end C3
structure oF (β:Bs) (R:List HP) (β':Bs):Prop where
 le:β.le β'
 fp:∃φ:Nat->Fp,(∀(i:Nat) (p:HP),R[i]?=some p->p.h (φ i) β'.w0/\∀k,φ i k->β'.O k)/\(∀i,i<R.length->∀k,φ i k->¬β.O k)/\(∀i j,i<R.length->j<R.length->i≠j->Apart (φ i) (φ j))/\∀k,β'.O k->β.O k\/∃i,i<R.length/\φ i k
section Ze
variable {β β' oL:Bs} {l R:List HP} {w:World} {p:HP} {i:Nat}
theorem oF.get (h:oF β R β') (i:Nat) (hp:R[i]?=some p):∃F,p.h F β'.w0/\∀k,F k->β'.O k:=by
 obtain⟨φ,h1,_⟩:=h.fp
 exact⟨φ i,h1 i p hp⟩
theorem aQ.turn {a b:List HP} (h:aQ β (a++b) w):aQ β (b++a) w:=by
 obtain⟨ho,φ,h1,h2,h3⟩:=h
 have hl:(a++b).length=a.length+b.length:=T3
 have hl':(b++a).length=b.length+a.length:=T3
 refine⟨ho,λi=>if i<b.length then φ (a.length+i) else φ (i-b.length),λi p hp=>?_,λi hi k hk hO=>?_,λi j hi hj cG k hk jw=>?_⟩
 ·grind
 ·grind
 by_cases e1:i<b.length
 ·simp only [e1,if_true] at hk
  by_cases e2:j<b.length
  ·simp only [e2,if_true] at jw
   exact h3 _ _ d5 d5 d5 k hk jw
  simp only [e2,if_false] at jw
  exact h3 _ _ d5 d5 d5 k hk jw
 simp only [e1,if_false] at hk
 by_cases e2:j<b.length
 ·simp only [e2,if_true] at jw
  exact h3 _ _ d5 d5 d5 k hk jw
 simp only [e2,if_false] at jw
 exact h3 _ _ d5 d5 d5 k hk jw
theorem aQ.uf (h:aQ β (l++R) w):∃β',oF β R β'/\β'.w0=w/\aQ β' l w:=by
 obtain⟨ho,φ,h1,h2,h3⟩:=h
 have hl:(l++R).length=l.length+R.length:=T3
 have hR:∀(i:Nat) (p:HP),R[i]?=some p->p.h (φ (l.length+i)) w:=gn
 refine⟨⟨λk=>β.O k\/∃i,i<R.length/\φ (l.length+i) k,w⟩,⟨⟨λk hk=>.inl hk,ho.os,ho.tape,ho.output,ho.size,λk hk=>ho.old k hk⟩,λi=>φ (l.length+i),λi p hp=>⟨hR i p hp,λk hk=>.inr ⟨i,dG hp,hk⟩⟩,λi hi=>h2 _ d5,λi j hi hj cG=>h3 _ _ d5 d5 d5,λk hk=>hk⟩,rfl,⟨rfl,rfl,rfl,N6 _,λk hk=>⟨?_,rfl⟩⟩,φ,λi p hp=>h1 i p (by rw [ais (dG hp)];exact hp),λi hi k hk hO=>?_,λi j hi hj cG=>h3 i j d5 d5 cG⟩
 ·rcases hk with hk|⟨i,hi,hk⟩
  ·exact ahR (ho.old k hk).1 ho.size
  obtain⟨p,hp⟩:=lg hi
  exact HP.lt (hR i p hp) k hk
 rcases hO with hO|⟨j,hj,hO⟩
 ·exact h2 i d5 k hk hO
 exact h3 i (l.length+j) d5 d5 d5 k hk hO
theorem oF.back (h:oF β R β') (hS:aQ β' l w):aQ β (l++R) w:=by
 obtain⟨dV,φ,g1,g2,g3,g4⟩:=h
 obtain⟨ho,ψ,h1,h2,h3⟩:=hS
 have hl:(l++R).length=l.length+R.length:=T3
 have hin:∀i,i<R.length->∀k,φ i k->β'.O k:=λi hi k hk=>by
  obtain⟨p,hp⟩:=lg hi
  exact (g1 i p hp).2 k hk
 have hk:∀i,i<R.length->cK (λk=>¬φ i k) β'.w0 w:=λi hi=>⟨ho.os,ho.tape,ho.output,ho.size,λk _ hn=>(ho.old k (hin i hi k (Classical.not_not.1 hn))).2⟩
 refine⟨ho.le dV,λi=>if i<l.length then ψ i else φ (i-l.length),λi p hp=>?_,λi hi k hk hO=>?_,λi j hi hj cG k hk jw=>?_⟩
 ·grind [HP.st,dG]
 ·by_cases e:i<l.length
  ·simp only [e,if_true] at hk
   exact h2 i e k hk (dV.O k hO)
  grind
 by_cases e1:i<l.length
 ·simp only [e1,if_true] at hk
  by_cases e2:j<l.length
  ·simp only [e2,if_true] at jw
   exact h3 i j e1 e2 cG k hk jw
  grind
 simp only [e1,if_false] at hk
 by_cases e2:j<l.length
 ·grind
 simp only [e2,if_false] at jw
 exact g3 _ _ d5 d5 d5 k hk jw
end Ze
section rules
variable {P:Program} {β β' oL:Bs} {N:fN} {ops:Array Oper} {k:Nat} {fr:Fr} {aB l R:List HP} {Q:Post} {c:Code} {e:Exit} {pk:List Nat} {f:FuncId} {args:Array Value} {pre:List HP}
theorem aE.uf (R:List HP) (pk:List Nat) (hn:bS pk=true) (hp:cR aB pk=some (l++R)) (K:∀β':Bs,β.le β'->β'.le β'->oF β R β'->aE P β' N ops k fr l Q):aE P β N ops k fr aB Q:=λav w hS=>by
 obtain⟨β',h,_,iA⟩:=(hS.pick hn hp).uf
 exact K β' h.le iA.1.Fz h av w iA
end rules
def bp (R:Nat->eG):eG where
 h F w:=∃φ:Nat->Fp,(∀i,(R i).h (φ i) w)/\(∀i j,i≠j->Apart (φ i) (φ j))/\∀k,F k↔∃i,φ i k
 lt:=λ⟨_,h1,_,h3⟩ k hk=>let ⟨i,hk⟩:=(h3 k).1 hk;(R i).lt (h1 i) k hk
 st:=λ⟨φ,h1,h2,h3⟩ _ _ hk hn=>⟨φ,λi=>(R i).st (h1 i) hk (λk hk=>hn k ((h3 k).2 ⟨i,hk⟩)),h2,h3⟩
section VX
variable {β:Bs} {l l':List HP} {w:World} {i n k:Nat} {R R':Nat->eG} {a:eG}
theorem bp.at (k:Nat) {F:Fp} {w:World} (h:(bp R).h F w):∃G,(R k).h G w:=by
 obtain⟨φ,h1,_⟩:=h
 exact⟨φ k,h1 k⟩
theorem aQ.M6 (h:aQ β l w) (R:Nat->eG) (hR:∀k,R k=eG.none):aQ β (l++[.abs (bp R)]) w:=aQ.new h (p:=.abs (bp R)) (F:=λ_=>False) ⟨λ_ _=>False,λi=>by rw [hR];exact λ_ h=>h,λ_ _ _ _ h=>h.elim,λ_=>⟨λh=>h.elim,λ⟨_,h⟩=>h⟩⟩ (cK.refl _ _) (λ_ h=>h.elim)
theorem aQ.I3 (h:aQ β l w) (hp:l[i]?=some (.abs (bp R))) (k:Nat):aQ β (l.set i (.abs (bp (pW R k eG.none)))++[.abs (R k)]) w:=by
 refine h.aby hp ?_
 rintro F ⟨φ,h1,h2,h3⟩
 refine⟨λx=>∃i,i≠k/\φ i x,φ k,⟨λi=>if i=k then λ_=>False else φ i,λi=>?_,λi j cG x hx hy=>?_,λx=>⟨λ⟨i,cG,hx⟩=>⟨i,by simpa [cG] using hx⟩,λ⟨i,hx⟩=>?_⟩⟩,h1 k,λx ⟨i,cG,hx⟩ hy=>h2 i k cG x hx hy,λx=>⟨λhx=>?_,λhx=>?_⟩⟩
 ·unfold pW
  by_cases e:i=k
  ·simp only [e,if_true];exact λ_ h=>h
  simp only [e,if_false];exact h1 i
 ·by_cases e1:i=k
  ·simp [e1] at hx
  by_cases e2:j=k
  ·simp [e2] at hy
  exact h2 i j cG x (by simpa [e1] using hx) (by simpa [e2] using hy)
 ·by_cases e1:i=k
  ·simp [e1] at hx
  exact⟨i,e1,by simpa [e1] using hx⟩
 all_goals grind
theorem aQ.yP {j:Nat} {ay:List Nat} {q:HP} (h:aQ β l w) (hp:l[i]?=some (.abs (bp R))) (hq:l[j]?=some q) (hqa:∀F w,q.h F w->a.h F w) (hn:bS (i::j::ay)=true) (hl:cR l ay=some l') (k:Nat) (hR:∀x,x≠k->R' x=R x) (ha:R' k=a):aQ β (.abs (bp R')::l') w:=by
 refine h.abz hp hq hn hl ?_
 rintro F1 F2 ⟨φ,h1,h2,h3⟩ hF hap
 refine⟨λx=>(∃i,i≠k/\φ i x)\/F2 x,⟨λi=>if i=k then F2 else φ i,λi=>?_,λi j cG x hx hy=>?_,λx=>⟨λhx=>?_,λ⟨i,hx⟩=>?_⟩⟩,λx hx=>hx.imp (λ⟨i,_,hx⟩=>(h3 x).2 ⟨i,hx⟩) id⟩
 ·grind
 ·by_cases e1:i=k
  ·by_cases e2:j=k
   ·exact cG (e1.trans e2.symm)
   simp only [e1,if_true] at hx
   simp only [e2,if_false] at hy
   exact hap x ((h3 x).2 ⟨j,hy⟩) hx
  simp only [e1,if_false] at hx
  by_cases e2:j=k
  ·simp only [e2,if_true] at hy
   exact hap x ((h3 x).2 ⟨i,hx⟩) hy
  simp only [e2,if_false] at hy
  exact h2 i j cG x hx hy
 ·rcases hx with ⟨i,cG,hx⟩|hx
  ·exact⟨i,by simpa [cG] using hx⟩
  exact⟨k,by simpa using hx⟩
 grind
end VX
end
section
open Go.RowKit Go.Maps
theorem Hy:Keyed Tryz.prog 9:=string_keyed Tryz.underlying9
theorem Kl {p:ByteArray} (h:p.size<=9223372036854775807):keyOf Tryz.prog 9 (.string p)=some (.string p.data.toList):=WideMaps.keyOf_string_mk Tryz.underlying9 (by unfold maxLen;omega)
def mS (g:ByteArray->Option Value):Lit->Option Value
 |.string l=>g ⟨l.toArray⟩
 |_=>none
theorem afA (g:ByteArray->Option Value) (p:ByteArray):mS g (.string p.data.toList)=g p:=by
 show g ⟨p.data.toList.toArray⟩=g p
 rw [Array.toArray_toList]
theorem VY (g:ByteArray->Option Value) (p:ByteArray) (v:Option Value):p4 (mS g) (.string p.data.toList) v=mS (λq=>if q=p then v else g q):=by
 funext x
 unfold p4 mS
 cases x with
 |string l=>
   by_cases e:l=p.data.toList
   ·subst e
    have e2:(⟨p.data.toList.toArray⟩:ByteArray)=p:=by rw [Array.toArray_toList]
    simp [Lit.sameKey]
   have e2:¬(⟨l.toArray⟩:ByteArray)=p:=λh=>e (by rw [←h])
   simp [Lit.sameKey,e,e2]
 |_=>rfl
theorem acC:mS (λ_=>none)=λ_=>none:=by
 funext x
 unfold mS
 split<;>rfl
def Km (b:Nat) (cs:List Value) (T:TypeId):eG where
 h F w:=(HP.aD b cs T).h F w
 lt:=λh=>HP.lt h
 st:=λh _ _ hk hd=>HP.st h hk hd
structure HL where
 b:Nat->Nat
 m:Nat->Nat
 dA:Nat->Option Addr
 dC:Nat->Nat
def HL.data (L:HL) (k:Nat) (A:Option Addr) (c:Nat):HL:=⟨L.b,L.m,λi=>if i=k then A else L.dA i,λi=>if i=k then c else L.dC i⟩
def HL.put (L:HL) (k b m:Nat) (A:Option Addr) (c:Nat):HL:=⟨λi=>if i=k then b else L.b i,λi=>if i=k then m else L.m i,λi=>if i=k then A else L.dA i,λi=>if i=k then c else L.dC i⟩
def thT (kind:Int):TypeId:=if kind=1 then 184 else if kind=3 then 187 else 190
def yh (kind:Int):TypeId:=if kind=1 then 186 else if kind=3 then 189 else 197
def jg (L:HL) (t:Th):Value:=.iface (thT t.kind) (.pointer (some ⟨L.b t.k,0,none⟩))
def LH (L:HL):Option Nat->Value
 |none=>.pointer none
 |some d=>.pointer (some ⟨L.b d,0,none⟩)
def FE (o:bT):List Value:=[.int .i64 o.id,.int .i64 o.mode,.int .i64 o.cO,.int .i64 o.cQ,.int .i64 o.bJ,.int .i64 o.bh,.int .i64 o.aU,.int .i64 o.aR,.bool o.aJ]
def FH (L:HL) (k:Nat) (o:bT):List Value:=if o.kind=1 then [.slice (L.dA k) o.data.length (L.dC k)] else if o.kind=3 then [.string o.target] else [.map (some (L.m k)),LH L o.up]
def lY (L:HL) (k:Nat) (o:bT):List Value:=FE o++FH L k o
def nI (L:HL) (es:je Th):Lit->Option Value:=mS (λp=>(bF p es).map (jg L))
def fQ (O:eE) (L:HL) (k:Nat):eG:=if (ah O k).kind=0 then eG.none else Km (L.b k) (lY L k (ah O k)) (yh (ah O k).kind)
def eX (O:eE) (L:HL) (k:Nat):eG:=if (ah O k).kind=1 then aK 5 1 (L.dA k) (ah O k).data.length (L.dC k) (ez (ah O k).data) else eG.none
def ig (O:eE) (L:HL) (k:Nat):eG:=if (ah O k).kind=2 then bK Tryz.prog 9 (L.m k) (nI L (ah O k).aq) (ah O k).aq.length else eG.none
section sat
variable {β:Bs} {l:List HP} {w:World} {i b:Nat} {cs:List Value} {T:TypeId} {p p':HP}
theorem aQ.same (h:aQ β l w) (hp:l[i]?=some p) (e:∀F w,p.h F w->p'.h F w):aQ β (l.set i p') w:=by
 obtain⟨ho,φ,h1,h2,h3⟩:=h
 have hl:(l.set i p').length=l.length:=T7 ..
 refine⟨ho,φ,λj q hq=>?_,λj hj=>h2 j d5,λj k hj hk=>h3 j k d5 d5⟩
 grind
end sat
section cells
variable {O:eE} {L:HL} {k j:Nat} {v:Value}
theorem rH (h:(ah O k).kind≠0):fQ O L k=Km (L.b k) (lY L k (ah O k)) (yh (ah O k).kind):=nw h
theorem kZ (hk:(ah O k).kind≠0) (hv:(lY L k (ah O k))[j]?=some v):∀F w,(bp (fQ O L)).h F w->w.cell? ⟨L.b k,j,none⟩=some v:=by
 intro F w h
 obtain⟨G,g⟩:=bp.at k h
 rw [rH hk] at g
 obtain⟨g,_⟩:=g
 exact (lq g rfl rfl hv).1
theorem zK (h:(ah O k).kind=1):eX O L k=aK 5 1 (L.dA k) (ah O k).data.length (L.dC k) (ez (ah O k).data):=t8 h
theorem uN (h:(ah O k).kind=2):ig O L k=bK Tryz.prog 9 (L.m k) (nI L (ah O k).aq) (ah O k).aq.length:=t8 h
theorem y4 (es:je Th) (p:ByteArray):nI L es (.string p.data.toList)=(bF p es).map (jg L):=afA _ _
theorem Zf {es:je Th} {p:ByteArray} {t:Th} (hn:bF p es=none):p4 (nI L es) (.string p.data.toList) (some (jg L t))=nI L (kO p t es):=by
 grind [nI,VY,Er]
theorem Zg {es:je Th} {p:ByteArray}:p4 (nI L es) (.string p.data.toList) none=nI L (kP p es):=by
 grind [nI,VY,xI]
theorem Zh:nI L []=λ_=>none:=acC
end cells
section VX
variable {O:eE} {L:HL} {k:Nat} {f:bT->bT}
theorem FI:fQ (bE O k f) L k=if (f (ah O k)).kind=0 then eG.none else Km (L.b k) (lY L k (f (ah O k))) (yh (f (ah O k)).kind):=by
 unfold fQ;rw [iq]
theorem I4 {x:Nat} (h:x≠k):fQ (bE O k f) L x=fQ O L x:=by unfold fQ;rw [jf h]
theorem FJ (h:(f (ah O k)).data=(ah O k).data) (h2:(f (ah O k)).kind=(ah O k).kind):eX (bE O k f) L=eX O L:=by
 grind [eX,iq,jf]
theorem FL (h:(f (ah O k)).aq=(ah O k).aq) (h2:(f (ah O k)).kind=(ah O k).kind):ig (bE O k f) L=ig O L:=by
 grind [ig,iq,jf]
theorem I5 {x:Nat} (h:x≠k):ig (bE O k f) L x=ig O L x:=by unfold ig;rw [jf h]
theorem I6 {x:Nat} (h:x≠k):eX (bE O k f) L x=eX O L x:=by unfold eX;rw [jf h]
end VX
section kinds
variable {O:eE} {L:HL} {k j:Nat} {f:bT->bT} {o:bT}
theorem ug (hf:∀o,(f o).kind=o.kind):(ah (bE O j f) k).kind=(ah O k).kind:=by
 rw [mh];split
 ·exact hf _
 rfl
theorem eP {α:Type} {g:bT->α} (hf:∀o,g (f o)=g o):g (ah (bE O j f) k)=g (ah O k):=by
 rw [mh];split
 ·exact hf _
 rfl
theorem xJ (h:o.kind=1):lY L k o=[.int .i64 o.id,.int .i64 o.mode,.int .i64 o.cO,.int .i64 o.cQ,.int .i64 o.bJ,.int .i64 o.bh,.int .i64 o.aU,.int .i64 o.aR,.bool o.aJ,.slice (L.dA k) o.data.length (L.dC k)]:=by
 unfold lY FH;rw [t8 h];rfl
theorem Es (h:o.kind=3):lY L k o=[.int .i64 o.id,.int .i64 o.mode,.int .i64 o.cO,.int .i64 o.cQ,.int .i64 o.bJ,.int .i64 o.bh,.int .i64 o.aU,.int .i64 o.aR,.bool o.aJ,.string o.target]:=by
 unfold lY FH;rw [nw (by rw [h];decide),t8 h];rfl
theorem uh (h:o.kind=2):lY L k o=[.int .i64 o.id,.int .i64 o.mode,.int .i64 o.cO,.int .i64 o.cQ,.int .i64 o.bJ,.int .i64 o.bh,.int .i64 o.aU,.int .i64 o.aR,.bool o.aJ,.map (some (L.m k)),LH L o.up]:=by
 unfold lY FH;rw [nw (by rw [h];decide),nw (by rw [h];decide)];rfl
theorem Oa {es:bT->je Th}:fQ (bE O k (λo=>{o with aq:=es o})) L=fQ O L:=by
 funext x
 unfold fQ
 by_cases e:x=k
 ·subst e;rw [iq];rfl
 rw [jf e]
def uj (O:eE) (d:Nat) (name:ByteArray) (t:Th):eE:=
 let O1:=bE O d (λo=>{o with aq:=kO name t o.aq})
 let O2:=bE O1 t.k (λo=>{o with aU:=o.aU+1})
 if t.kind=2 then bE O2 t.k (λo=>{o with up:=some d}) else O2
theorem Hz {α:Type} {g:bT->α} {d:Nat} {name:ByteArray} {t:Th} (h1:∀o es,g {o with aq:=es}=g o) (h2:∀o l,g {o with aU:=l}=g o) (h3:∀o u,g {o with up:=u}=g o):g (ah (uj O d name t) k)=g (ah O k):=by
 unfold uj
 simp only
 split
 ·rw [eP (λo=>h3 o _),eP (λo=>h2 o _),eP (λo=>h1 o _)]
 rw [eP (λo=>h2 o _),eP (λo=>h1 o _)]
theorem Et {d:Nat} {name:ByteArray} {t:Th}:(ah (uj O d name t) k).kind=(ah O k).kind:=Hz (g:=bT.kind) (λ_ _=>rfl) (λ_ _=>rfl) (λ_ _=>rfl)
structure FM where
 cN:Int
 cB:Int
 cH:Int
 cS:Int
 cZ:Int
 last:Int
 aq:Int
 used:Int
def xK (X:FM) (O:eE) (d:Nat):eE:=bE O d (λo=>{o with bJ:=X.cS,bh:=X.cZ})
def dW (X:FM) (O:eE) (d:Nat) (name:ByteArray) (t:Th):eE:=xK X (uj O d name t) d
def bn (X:FM) (O:eE) (d:Nat) (name:ByteArray) (t:Th):eE:=bE (xK X (bE O d (λo=>{o with aq:=kP name o.aq})) d) t.k (λo=>{o with aU:=o.aU-1})
theorem fS {X:FM} {d:Nat} {name:ByteArray} {t:Th}:(ah (bn X O d name t) k).kind=(ah O k).kind:=by
 unfold bn xK
 exact (ug (f:=λo=>{o with aU:=o.aU-1}) (λ_=>rfl)).trans ((ug (f:=λo=>{o with bJ:=X.cS,bh:=X.cZ}) (λ_=>rfl)).trans (ug (f:=λo=>{o with aq:=kP name o.aq}) (λ_=>rfl)))
theorem QN {X:FM} {d:Nat} {name:ByteArray} {t:Th}:(ah (dW X O d name t) k).kind=(ah O k).kind:=by
 grind [dW,xK,ug,Et]
end kinds
section sat
variable {β:Bs} {l l':List HP} {w:World} {i j k:Nat} {O:eE} {L:HL} {f:bT->bT} {cs:List Value} {T:TypeId} {ay:List Nat}
theorem aQ.adL (h:aQ β l w) (hp:l[i]?=some (.abs (bp (fQ O L)))) (h0:(ah O k).kind≠0) (hc:lY L k (ah O k)=cs) (hT:yh (ah O k).kind=T):aQ β (l.set i (.abs (bp (pW (fQ O L) k eG.none)))++[.aD (L.b k) cs T]) w:=by
 have h1:=h.I3 hp k
 have jT:(l.set i (HP.abs (bp (pW (fQ O L) k eG.none)))).length=l.length:=T7 ..
 have h2:=aQ.same (i:=l.length) (p:=.abs (fQ O L k)) (p':=.aD (L.b k) cs T) h1 (by rw [aip d5,jT,Nat.sub_self];rfl) (λF w h=>by
  have h3:(fQ O L k).h F w:=h
  rw [rH h0] at h3
  have h3:(Km (L.b k) (lY L k (ah O k)) (yh (ah O k).kind)).h F w:=h3
  rw [hc,hT] at h3
  exact h3)
 have e:∀(a:List HP) (x y:HP),(a++[x]).set a.length y=a++[y]:=λa x y=>nh
 grind
theorem FN {R:Nat->eG} {a:eG} {x:Nat} (h:x≠k):pW R k a x=R x:=nw h
theorem aQ.adM (h:aQ β l w) (hp:l[i]?=some (.abs (bp (ig O L)))) (hd:(ah O k).kind=2):aQ β (l.set i (.abs (bp (pW (ig O L) k eG.none)))++[.abs (bK Tryz.prog 9 (L.m k) (nI L (ah O k).aq) (ah O k).aq.length)]) w:=by
 have h1:=h.I3 hp k
 rw [uN hd] at h1
 exact h1
theorem aQ.adN (h:aQ β l w) (hp:l[i]?=some (.abs (bp (pW (ig O L) k eG.none)))) (hq:l[j]?=some (.abs (bK Tryz.prog 9 (L.m k) (nI L (ah O k).aq) (ah O k).aq.length))) (hd:bS (i::j::ay)=true) (hl:cR l ay=some l') (h2:(ah O k).kind=2):aQ β (.abs (bp (ig O L))::l') w:=
 h.yP hp hq (λ_ _ h=>h) hd hl k (λ_ hx=>(FN hx).symm) (uN h2)
theorem aQ.VZ (h:aQ β l w) (hp:l[i]?=some (.abs (bp (eX O L)))) (hd:(ah O k).kind=1):aQ β (l.set i (.abs (bp (pW (eX O L) k eG.none)))++[.abs (aK 5 1 (L.dA k) (ah O k).data.length (L.dC k) (ez (ah O k).data))]) w:=by
 have h1:=h.I3 hp k
 rw [zK hd] at h1
 exact h1
end sat
end
section
open Go.RowKit
theorem kq.wide {ns:List aP} {b b':Nat} (h:kq ns b) (hb:b<=b'):kq ns b':=⟨Pd h.len hb,λi hi=>by
 have:=h.node i hi
 exact⟨this.ids,Pd this.data hb,Pd this.target hb,Pd this.aq hb,λj hj=>⟨(this.bO j hj).id,Pd (this.bO j hj).name hb⟩⟩⟩
section gb
variable {ns:List aP} (h:kq ns 1048576)
include h
theorem vA:ns.length<=1048576:=by have:=h.len;omega
theorem FO:∀i,i<ns.length->(nd ns i).data.length<=1048576/\(nd ns i).aq.length<=1048576:=λi hi=>by
 have h1:=(h.node i hi).data
 have h2:=(h.node i hi).aq
 omega
theorem I7:∀i,i<ns.length->∀j,j<(nd ns i).aq.length->-9223372036854775808<=(bO ns i j).id/\(bO ns i j).id<=9223372036854775807:=λi hi j hj=>((h.node i hi).bO j hj).id
theorem I8:∀i,i<ns.length->∀j,j<(nd ns i).aq.length->(bO ns i j).name.size<=1048576:=λi hi j hj=>by
 have h1:=((h.node i hi).bO j hj).name
 unfold bO
 omega
theorem abA:∀i,i<ns.length->(nd ns i).target.size<=1048576:=λi hi=>by
 have h1:=(h.node i hi).target
 omega
end gb
structure agq (X:FM):Prop where
 cN:uK X.cN
 cB:uK X.cB
 cH:uK X.cH
 cS:uK X.cS
 cZ:uK X.cZ
end
end Go.Proofs.YtfececghhgeapaaGreatDoor
section
namespace Go.Proofs
open Go.Shelf
def Tryz.keysI_ren:Go.Shelf.Ren:=⟨fun|7=>72|10=>105|n=>n,fun|23=>170|26=>3|3=>175|28=>178|0=>0|27=>177|33=>235|4=>4|n=>n,fun|n=>n⟩
theorem Tryz.keysI:Go.Proofs.SlLaysZI.n7 Tryz.prog Tryz.keysI_ren:={
 mixed:=by kernel_rfl
 f7:=⟨Tryz.f72.name,by decide,Tryz.func72.trans (congrArg some (by kernel_rfl))⟩
 f10:=⟨Tryz.f105.name,by decide,Tryz.func105.trans (congrArg some (by kernel_rfl))⟩
 t0:=Tryz.underlying0
 a0:=Tryz.isAgg0
 z0:=Tryz.sizeOf0
 v0:=Tryz.zeroValue0
 t4:=Tryz.underlying4
 a4:=Tryz.isAgg4
 z4:=Tryz.sizeOf4
 v4:=Tryz.zeroValue4
 t23:=Tryz.underlying170
 a23:=Tryz.isAgg170
 z23:=Tryz.sizeOf170
 v23:=Tryz.zeroValue170
 t26:=Tryz.underlying3
 a26:=Tryz.isAgg3
 z26:=Tryz.sizeOf3
 v26:=Tryz.zeroValue3
 t27:=Tryz.underlying177
 a27:=Tryz.isAgg177
 z27:=Tryz.sizeOf177
 v27:=Tryz.zeroValue177
 t28:=Tryz.underlying178
 a28:=Tryz.isAgg178
 z28:=Tryz.sizeOf178
 v28:=Tryz.zeroValue178
 t33:=Tryz.underlying235
 a33:=Tryz.isAgg235
 z33:=Tryz.sizeOf235
 v33:=Tryz.zeroValue235}
def Tryz.sortedI_ren:Go.Shelf.Ren:=⟨fun|6=>71|8=>103|9=>104|11=>120|13=>122|12=>121|23=>141|24=>142|14=>132|15=>133|16=>134|17=>135|18=>136|19=>137|20=>138|21=>139|22=>140|25=>155|26=>156|27=>157|28=>158|29=>159|30=>160|31=>167|n=>n,fun|26=>3|28=>178|24=>41|0=>0|3=>3|37=>253|48=>271|50=>273|4=>4|40=>264|39=>263|45=>268|5=>5|9=>9|51=>281|55=>285|57=>290|58=>291|33=>235|n=>n,fun|n=>n⟩
theorem Tryz.sortedI:Go.Proofs.SlLaysZI.n6 Tryz.prog Tryz.sortedI_ren:={
 mixed:=by kernel_rfl
 f6:=⟨Tryz.f71.name,by decide,Tryz.func71.trans (congrArg some (by kernel_rfl))⟩
 f8:=⟨Tryz.f103.name,by decide,Tryz.func103.trans (congrArg some (by kernel_rfl))⟩
 f11:=⟨Tryz.f120.name,by decide,Tryz.func120.trans (congrArg some (by kernel_rfl))⟩
 t0:=Tryz.underlying0
 a0:=Tryz.isAgg0
 z0:=Tryz.sizeOf0
 v0:=Tryz.zeroValue0
 t24:=Tryz.underlying41
 a24:=Tryz.isAgg41
 z24:=Tryz.sizeOf41
 v24:=Tryz.zeroValue41
 t26:=Tryz.underlying3
 a26:=Tryz.isAgg3
 z26:=Tryz.sizeOf3
 v26:=Tryz.zeroValue3
 t28:=Tryz.underlying178
 a28:=Tryz.isAgg178
 z28:=Tryz.sizeOf178
 v28:=Tryz.zeroValue178
 i26:=by kernel_rfl}
def Tryz.sortI_ren:Go.Shelf.Ren:=⟨fun|5=>104|8=>122|7=>121|19=>141|20=>142|10=>132|11=>133|12=>134|13=>135|14=>136|15=>137|16=>138|17=>139|18=>140|30=>155|31=>156|32=>157|33=>158|34=>159|35=>160|40=>167|n=>n,fun|23=>41|25=>3|3=>3|32=>253|22=>41|0=>0|44=>271|46=>273|4=>4|36=>264|35=>263|41=>268|5=>5|9=>9|53=>281|57=>285|63=>290|64=>291|n=>n,fun|n=>n⟩
theorem Tryz.sortI:Go.Proofs.SlLaysM.n5 Tryz.prog Tryz.sortI_ren:={
 mixed:=by kernel_rfl
 f5:=⟨Tryz.f104.name,by decide,Tryz.func104.trans (congrArg some (by kernel_rfl))⟩
 f7:=⟨Tryz.f121.name,by decide,Tryz.func121.trans (congrArg some (by kernel_rfl))⟩
 f8:=Tryz.func122.trans (congrArg some (by kernel_rfl))
 f10:=⟨Tryz.f132.name,by decide,Tryz.func132.trans (congrArg some (by kernel_rfl))⟩
 f11:=⟨Tryz.f133.name,by decide,Tryz.func133.trans (congrArg some (by kernel_rfl))⟩
 f12:=⟨Tryz.f134.name,by decide,Tryz.func134.trans (congrArg some (by kernel_rfl))⟩
 f13:=⟨Tryz.f135.name,by decide,Tryz.func135.trans (congrArg some (by kernel_rfl))⟩
 f14:=⟨Tryz.f136.name,by decide,Tryz.func136.trans (congrArg some (by kernel_rfl))⟩
 f15:=⟨Tryz.f137.name,by decide,Tryz.func137.trans (congrArg some (by kernel_rfl))⟩
 f16:=⟨Tryz.f138.name,by decide,Tryz.func138.trans (congrArg some (by kernel_rfl))⟩
 f17:=⟨Tryz.f139.name,by decide,Tryz.func139.trans (congrArg some (by kernel_rfl))⟩
 f18:=⟨Tryz.f140.name,by decide,Tryz.func140.trans (congrArg some (by kernel_rfl))⟩
 f19:=Tryz.func141.trans (congrArg some (by kernel_rfl))
 f20:=Tryz.func142.trans (congrArg some (by kernel_rfl))
 f30:=⟨Tryz.f155.name,by decide,Tryz.func155.trans (congrArg some (by kernel_rfl))⟩
 f31:=Tryz.func156.trans (congrArg some (by kernel_rfl))
 f32:=Tryz.func157.trans (congrArg some (by kernel_rfl))
 f33:=⟨Tryz.f158.name,by decide,Tryz.func158.trans (congrArg some (by kernel_rfl))⟩
 f34:=⟨Tryz.f159.name,by decide,Tryz.func159.trans (congrArg some (by kernel_rfl))⟩
 f35:=⟨Tryz.f160.name,by decide,Tryz.func160.trans (congrArg some (by kernel_rfl))⟩
 f40:=⟨Tryz.f167.name,by decide,Tryz.func167.trans (congrArg some (by kernel_rfl))⟩
 t0:=Tryz.underlying0
 a0:=Tryz.isAgg0
 z0:=Tryz.sizeOf0
 v0:=Tryz.zeroValue0
 t3:=Tryz.underlying3
 a3:=Tryz.isAgg3
 z3:=Tryz.sizeOf3
 v3:=Tryz.zeroValue3
 t4:=Tryz.underlying4
 a4:=Tryz.isAgg4
 z4:=Tryz.sizeOf4
 v4:=Tryz.zeroValue4
 t5:=Tryz.underlying5
 a5:=Tryz.isAgg5
 z5:=Tryz.sizeOf5
 v5:=Tryz.zeroValue5
 t9:=Tryz.underlying9
 a9:=Tryz.isAgg9
 z9:=Tryz.sizeOf9
 v9:=Tryz.zeroValue9
 t22:=Tryz.underlying41
 a22:=Tryz.isAgg41
 z22:=Tryz.sizeOf41
 v22:=Tryz.zeroValue41
 t23:=Tryz.underlying41
 a23:=Tryz.isAgg41
 z23:=Tryz.sizeOf41
 v23:=Tryz.zeroValue41
 t25:=Tryz.underlying3
 a25:=Tryz.isAgg3
 z25:=Tryz.sizeOf3
 v25:=Tryz.zeroValue3
 t32:=Tryz.underlying253
 a32:=Tryz.isAgg253
 z32:=Tryz.sizeOf253
 v32:=Tryz.zeroValue253
 t35:=Tryz.underlying263
 a35:=Tryz.isAgg263
 z35:=Tryz.sizeOf263
 v35:=Tryz.zeroValue263
 t36:=Tryz.underlying264
 a36:=Tryz.isAgg264
 z36:=Tryz.sizeOf264
 v36:=Tryz.zeroValue264
 t41:=Tryz.underlying268
 a41:=Tryz.isAgg268
 z41:=Tryz.sizeOf268
 v41:=Tryz.zeroValue268
 t44:=Tryz.underlying271
 a44:=Tryz.isAgg271
 z44:=Tryz.sizeOf271
 v44:=Tryz.zeroValue271
 t46:=Tryz.underlying273
 a46:=Tryz.isAgg273
 z46:=Tryz.sizeOf273
 v46:=Tryz.zeroValue273
 t53:=Tryz.underlying281
 a53:=Tryz.isAgg281
 z53:=Tryz.sizeOf281
 v53:=Tryz.zeroValue281
 t57:=Tryz.underlying285
 a57:=Tryz.isAgg285
 z57:=Tryz.sizeOf285
 v57:=Tryz.zeroValue285
 t63:=Tryz.underlying290
 a63:=Tryz.isAgg290
 z63:=Tryz.sizeOf290
 v63:=Tryz.zeroValue290
 t64:=Tryz.underlying291
 a64:=Tryz.isAgg291
 z64:=Tryz.sizeOf291
 v64:=Tryz.zeroValue291}
end Go.Proofs
end
namespace Go.Proofs.YtfececghhgeapaaGreatDoor
section
open Go.RowKit
theorem afB (a:Addr) (v:Value) (w:World) (h:w.cell? a=some v):(Go.method 481 342 (.pointer (some a)) "Len").run Tryz.prog w=.ok (283,v) w:=by
 have e:(Go.method 481 342 (.pointer (some a)) "Len").run Tryz.prog w=((loadVar 231 a) >>= λv=>pure (283,v):Sem (FuncId×Value)).run Tryz.prog w:=d6
 rw [e]
 simp [loadVar,isAgg,underlying,Tryz.underlying231,h,Result.andThen]
theorem adO (a:Addr) (v:Value) (w:World) (h:w.cell? a=some v):(Go.method 481 342 (.pointer (some a)) "Less").run Tryz.prog w=.ok (284,v) w:=by
 have e:(Go.method 481 342 (.pointer (some a)) "Less").run Tryz.prog w=((loadVar 231 a) >>= λv=>pure (284,v):Sem (FuncId×Value)).run Tryz.prog w:=d6
 rw [e]
 simp [loadVar,isAgg,underlying,Tryz.underlying231,h,Result.andThen]
theorem adP (a:Addr) (v:Value) (w:World) (h:w.cell? a=some v):(Go.method 481 342 (.pointer (some a)) "Swap").run Tryz.prog w=.ok (285,v) w:=by
 have e:(Go.method 481 342 (.pointer (some a)) "Swap").run Tryz.prog w=((loadVar 231 a) >>= λv=>pure (285,v):Sem (FuncId×Value)).run Tryz.prog w:=d6
 rw [e]
 simp [loadVar,isAgg,underlying,Tryz.underlying231,h,Result.andThen]
theorem adQ (a:Addr) (w:World):(Go.method 481 342 (.pointer (some a)) "Push").run Tryz.prog w=.ok (287,.pointer (some a)) w:=d6
theorem afC (a:Addr) (w:World):(Go.method 481 342 (.pointer (some a)) "Pop").run Tryz.prog w=.ok (286,.pointer (some a)) w:=d6
theorem abB (a:Addr) (w:World):(Go.nilAhead 481 342 (.pointer (some a)) "Len").run Tryz.prog w=.ok (some false) w:=d6
theorem V5 (a:Addr) (w:World):(Go.nilAhead 481 342 (.pointer (some a)) "Less").run Tryz.prog w=.ok (some false) w:=d6
theorem Ob (a:Addr) (w:World):(Go.nilAhead 481 342 (.pointer (some a)) "Swap").run Tryz.prog w=.ok (some false) w:=d6
theorem adR (a:Addr) (w:World):(Go.nilAhead 481 342 (.pointer (some a)) "Push").run Tryz.prog w=.ok (some false) w:=d6
theorem afD (a:Addr) (w:World):(Go.nilAhead 481 342 (.pointer (some a)) "Pop").run Tryz.prog w=.ok (some false) w:=d6
theorem Oc (A:Option Addr) (n c:Nat) (w:World) :
 Calls Tryz.prog 283 #[.slice A n c] w λe w'=>e=.returned (.int .i64 n)/\w'=w:=by
 go_enter Tryz.func283,Tryz.ntmps283
 go_wp2
 go_ret
 exact⟨rfl,rfl⟩
theorem V6 (g n c i j:Nat) (x y:Int) (w:World) (hi:i<n) (hj:j<n) (ci:w.cell? ⟨g,i,none⟩=some (.int .i64 x)) (cj:w.cell? ⟨g,j,none⟩=some (.int .i64 y)) :
 Calls Tryz.prog 284 #[.slice (some ⟨g,0,none⟩) n c,.int .i64 i,.int .i64 j] w λe w'=>e=.returned (.bool (decide (x<y)))/\∃m,w'=w.drewN m:=by
 have hi':(i:Int)<(n:Int):=d5
 have hj':(j:Int)<(n:Int):=d5
 go_enter Tryz.func284,Tryz.ntmps284
 go_wp2_with fail
 go_quiet (fail)
 go_wp2_with fail
 go_ret
 exact⟨rfl,_,rfl⟩
theorem V7 (g n c i j:Nat) (x y:Int) (w:World) (hi:i<n) (hj:j<n) (hij:i≠j) (ci:w.cell? ⟨g,i,none⟩=some (.int .i64 x)) (cj:w.cell? ⟨g,j,none⟩=some (.int .i64 y))
 (fi:w.frozen? ⟨g,i,none⟩=false) (fj:w.frozen? ⟨g,j,none⟩=false) :
 Calls Tryz.prog 285 #[.slice (some ⟨g,0,none⟩) n c,.int .i64 i,.int .i64 j] w λe w'=>e=.returned (.tuple #[])/\∃m,w'=((w.setCell ⟨g,i,none⟩ (.int .i64 y)).setCell ⟨g,j,none⟩ (.int .i64 x)).drewN m:=by
 have hi':(i:Int)<(n:Int):=d5
 have hj':(j:Int)<(n:Int):=d5
 go_enter Tryz.func285,Tryz.ntmps285
 go_wp2_with fail
 go_region
 go_end0
 exact⟨rfl,1,rfl⟩
theorem Zi:(Tryz.prog.info? 3).map (λi=>(i.zero,i.size,i.bytes))=some (some (.int .i64 0),1,8):=d6
theorem Zj (t o g n c:Nat) (x:Int) (w:World) (hc:n+1<=c) (ht:w.cell? ⟨t,o,none⟩=some (.slice (some ⟨g,0,none⟩) (n+1) c)) (hf:w.frozen? ⟨t,o,none⟩=false)
 (hx:w.cell? ⟨g,n,none⟩=some (.int .i64 x)) (hm:n+1<=1048576) :
 Calls Tryz.prog 286 #[.pointer (some ⟨t,o,none⟩)] w λe w'=>e=.returned (.iface 3 (.int .i64 x))/\w'=w.setCell ⟨t,o,none⟩ (.slice (some ⟨g,0,none⟩) n c):=by
 go_enter Tryz.func286,Tryz.ntmps286
 go_wp2_with fail
 go_ret
 exact⟨rfl,rfl⟩
theorem TF (x:Int) (w:World):(Instr.typeAssert (.iface 3 (.int .i64 x)) 20 3 false).run Tryz.prog w=.ok (.int .i64 x) w:=d6
theorem QO (x:Int):∀u∈[Value.int .i64 x],u.oneCell'=true:=by intro u hu;simp at hu;subst hu;rfl
theorem V8 {t o:Nat} {v:Value} {w w1:World} {ob:Obj} (ht:w.cell? ⟨t,o,none⟩=some v) (fT:t<w.heap.size) {row:Option Nat} (cG:row≠some t) (hg:(w.alloc ob).drew.grownBy w1 row):w1.cell? ⟨t,o,none⟩=some v:=by
 rw [hg.cell_far ⟨t,o,none⟩ (by show t<(w.alloc ob).heap.size;simp;omega) (λe=>cG e.symm)]
 exact (World.cell?_alloc_lt w ob ⟨t,o,none⟩ fT).trans ht
theorem V9 {t o:Nat} {w w1:World} {ob:Obj} (hf:w.frozen? ⟨t,o,none⟩=false) (fT:t<w.heap.size) {row:Option Nat} (cG:row≠some t) (hg:(w.alloc ob).drew.grownBy w1 row):w1.frozen? ⟨t,o,none⟩=false:=by
 rw [hg.frozen_far ⟨t,o,none⟩ (by show t<(w.alloc ob).heap.size;simp;omega) (λe=>cG e.symm)]
 exact (World.frozen?_alloc_old w ob ⟨t,o,none⟩ (Nat.ne_of_lt fT)).trans hf
theorem Wa (t o base n:Nat) (v:Value) (xs:List Value) (x:Int) (w:World) (ht:w.cell? ⟨t,o,none⟩=some v) (hf:w.frozen? ⟨t,o,none⟩=false)
 (qm:w.ownsRow base 3 1 v n xs) (cG:v.ownBlock≠some t) (hm:n+1<=1048576) (hbase:base<=w.heap.size) :
 Calls Tryz.prog 287 #[.pointer (some ⟨t,o,none⟩),.iface 3 (.int .i64 x)] w λe w'=>e=.returned (.tuple #[]) ∧
  ∃g cap w1,w1.ownsRow base 3 1 (.slice (some ⟨g,0,none⟩) (n+1) cap) (n+1) (xs++[.int .i64 x])/\w.grownBy w1 v.ownBlock/\(v.ownBlock=some g\/w.heap.size<=g) ∧
    w'=w1.setCell ⟨t,o,none⟩ (.slice (some ⟨g,0,none⟩) (n+1) cap):=by
 obtain⟨i0,hi0,hz0,hz1,hz2⟩:=info_parts Zi
 have fT:t<w.heap.size:=by
  rcases Nat.lt_or_ge t w.heap.size with h|h
  ·exact h
  simp [World.cell?,Array.getElem?_eq_none h] at ht
 have I9:=TF
 go_enter Tryz.func287,Tryz.ntmps287
 go_wp2_with fail
 go_region_law (refine step_append_lies _ rfl (.tmp 7) (.tmp 10) 231 rfl base 3 i0 (.int .i64 0) 1 8 Tryz.underlying231 hi0 hz0 hz1 hz2 rfl d8 v n xs (by simp [Act.eval]) (qm.alloc _) ⟨w.heap.size,0,none⟩ 1 1 [.int .i64 x] (by simp [Act.eval]) rfl (cell_one_new _ _ _) (QO x) d8 (by unfold maxLen;omega) d5 (by simp;omega) (w.heap.size+1) nh ?_;intro g cap w1 hown1 hg1 TG ahu;have c1:w1.cell? ⟨t,o,none⟩=some v:=V8 ht fT cG hg1;have f1:w1.frozen? ⟨t,o,none⟩=false:=V9 hf fT cG hg1)
 all_goals
  go_end0
  refine⟨rfl,g,cap,w1,hown1,(World.grownBy_alloc w (.cells #[.int .i64 x] 3) _).trans ⟨hg1.os,hg1.tape,hg1.output,hg1.size,hg1.block⟩,?_,rfl⟩
  rcases TG with h|h
  ·exact .inl h
  exact .inr d5
end
end Go.Proofs.YtfececghhgeapaaGreatDoor
section
namespace Go.Proofs.YtfececghhgeapaaGreatDoor.bw
def at_ (l:List Int) (i:Nat):Int:=l.getD i 0
def swp (l:List Int) (i j:Nat):List Int:=(l.set i (at_ l j)).set j (at_ l i)
def Hp (n:Nat) (l:List Int):Prop:=∀i,0<i->i<n->at_ l ((i-1) / 2)<=at_ l i
def Eu (l:List Int):Prop:=∀a b,a<l.length->b<l.length->at_ l a=at_ l b->a=b
def Kn (l:List Int) (j:Nat):Prop:=
 (∀i,0<i->i<l.length->i≠j->at_ l ((i-1) / 2)<=at_ l i)/\(∀i,0<i->i<l.length->(i-1) / 2=j->0<j->at_ l ((j-1) / 2)<=at_ l i)
def Cw (n:Nat) (l:List Int) (i:Nat):Prop:=
 (∀k,0<k->k<n->(k-1) / 2≠i->at_ l ((k-1) / 2)<=at_ l k)/\(∀k,0<k->k<n->(k-1) / 2=i->0<i->at_ l ((i-1) / 2)<=at_ l k)
structure Same (l l':List Int):Prop where
 len:l'.length=l.length
 mem:∀x,x∈l'↔x∈l
 inj:Eu l->Eu l'
theorem zL {l:List Int} {x:Int}:x∈l↔∃k,k<l.length/\at_ l k=x:=by
 rw [ah9]
 constructor
 ·rintro⟨i,h,e⟩
  exact⟨i,h,by simp [at_,List.getD_eq_getElem?_getD,h,e]⟩
 rintro⟨i,h,e⟩
 exact⟨i,h,by simpa [at_,List.getD_eq_getElem?_getD,h] using e⟩
theorem qJ (l:List Int) (i j:Nat):(swp l i j).length=l.length:=by simp [swp]
def sw (i j k:Nat):Nat:=if k=j then i else if k=i then j else k
theorem oO {l:List Int} {i j:Nat} (hi:i<l.length) (hj:j<l.length) (k:Nat):at_ (swp l i j) k=at_ l (sw i j k):=by
 unfold swp at_ sw
 grind
theorem TH (i j k:Nat):sw i j (sw i j k)=k:=by unfold sw;(repeat' split)<;>omega
theorem M7 {i j k n:Nat} (hi:i<n) (hj:j<n) (hk:k<n):sw i j k<n:=by unfold sw;(repeat' split)<;>omega
theorem Same.refl (l:List Int):Same l l:=⟨rfl,λ_=>Iff.rfl,λh=>h⟩
theorem Same.trans {l l' l'':List Int} (h:Same l l') (k:Same l' l''):Same l l'':=⟨k.len.trans h.len,λx=>(k.mem x).trans (h.mem x),λi=>k.inj (h.inj i)⟩
theorem Same.swp {l:List Int} {i j:Nat} (hi:i<l.length) (hj:j<l.length):Same l (swp l i j):=by
 refine⟨qJ l i j,λx=>?_,λinj a b ha hb e=>?_⟩
 ·rw [zL,zL,qJ]
  constructor
  ·rintro⟨k,hk,e⟩
   exact⟨sw i j k,M7 hi hj hk,by rw [←oO hi hj];exact e⟩
  rintro⟨k,hk,e⟩
  exact⟨sw i j k,M7 hi hj hk,by rw [oO hi hj,TH];exact e⟩
 rw [qJ] at ha hb
 rw [oO hi hj,oO hi hj] at e
 have:=inj _ _ (M7 hi hj ha) (M7 hi hj hb) e
 rw [←TH i j a,this,TH]
theorem Wb {l:List Int} {j:Nat} (h:Kn l j) (he:j=0\/at_ l ((j-1) / 2)<=at_ l j):Hp l.length l:=by
 intro i h0 hi
 by_cases e:i=j
 ·subst e
  rcases he with he|he
  ·omega
  exact he
 exact h.1 i h0 hi e
theorem acD {l:List Int} {j:Nat} (h:Kn l j) (h0:0<j) (hj:j<l.length) (fT:at_ l j<at_ l ((j-1) / 2)):Kn (swp l ((j-1) / 2) j) ((j-1) / 2):=by
 have hp:(j-1) / 2<l.length:=d5
 have cG:(j-1) / 2≠j:=d5
 refine⟨λi i0 il ine=>?_,λi i0 il ip p0=>?_⟩
 ·rw [qJ] at il
  rw [oO hp hj,oO hp hj]
  by_cases e1:i=j
  ·subst e1
   rw [show sw ((i-1) / 2) i ((i-1) / 2)=i by unfold sw;rw [nw cG,t8 rfl],show sw ((i-1) / 2) i i=(i-1) / 2 by unfold sw;rw [t8 rfl]]
   omega
  rw [show sw ((j-1) / 2) j i=i by unfold sw;rw [nw e1,nw ine]]
  by_cases e2:(i-1) / 2=j
  ·rw [show sw ((j-1) / 2) j ((i-1) / 2)=(j-1) / 2 by unfold sw;rw [t8 e2]]
   exact h.2 i i0 il e2 h0
  by_cases e3:(i-1) / 2=(j-1) / 2
  ·rw [show sw ((j-1) / 2) j ((i-1) / 2)=j by unfold sw;rw [nw e2,t8 e3]]
   have:=h.1 i i0 il e1
   rw [e3] at this
   omega
  rw [show sw ((j-1) / 2) j ((i-1) / 2)=(i-1) / 2 by unfold sw;rw [nw e2,nw e3]]
  exact h.1 i i0 il e1
 rw [qJ] at il
 rw [oO hp hj,oO hp hj]
 have a1:=h.1 ((j-1) / 2) p0 hp cG
 rw [show sw ((j-1) / 2) j (((j-1) / 2-1) / 2)=((j-1) / 2-1) / 2 by unfold sw;rw [nw d5,nw d5]]
 by_cases e1:i=j
 ·subst e1
  rw [show sw ((i-1) / 2) i i=(i-1) / 2 by unfold sw;rw [t8 rfl]]
  exact a1
 have a2:=h.1 i i0 il e1
 rw [show sw ((j-1) / 2) j i=i by unfold sw;rw [nw e1,nw d5]]
 rw [ip] at a2
 omega
theorem Di {n:Nat} {l:List Int} {i:Nat} (h:Cw n l i) (h1:2*i+1<n->at_ l i<=at_ l (2*i+1)) (h2:2*i+2<n->at_ l i<=at_ l (2*i+2)):Hp n l:=by
 intro k k0 kn
 by_cases e:(k-1) / 2=i
 ·grind
 exact h.1 k k0 kn e
theorem Ev {n:Nat} {l:List Int} {i j:Nat} (h:Cw n l i) (hj:j=2*i+1\/j=2*i+2) (hjn:j<n) (hn:n<=l.length)
 (h1:at_ l j<=at_ l (2*i+1)) (h2:2*i+2<n->at_ l j<=at_ l (2*i+2)) (fT:at_ l j<at_ l i):Cw n (swp l i j) j:=by
 have hi:i<l.length:=d5
 have hjl:j<l.length:=d5
 refine⟨λk k0 kn kne=>?_,λk k0 kn ke j0=>?_⟩
 ·rw [oO hi hjl,oO hi hjl]
  by_cases e1:(k-1) / 2=i
  ·rw [e1,show sw i j i=j by unfold sw;rw [nw d5,t8 rfl]]
   by_cases e2:k=j
   ·rw [e2,show sw i j j=i by unfold sw;rw [t8 rfl]];omega
   rw [show sw i j k=k by unfold sw;rw [nw e2,nw d5]]
   grind
  rw [show sw i j ((k-1) / 2)=(k-1) / 2 by unfold sw;rw [nw kne,nw e1]]
  by_cases e2:k=i
  ·rw [e2,show sw i j i=j by unfold sw;rw [nw d5,t8 rfl],←e2]
   have hjk:(j-1) / 2=i:=d5
   rw [e2]
   exact h.2 j d5 hjn hjk d5
  rw [show sw i j k=k by unfold sw;rw [nw d5,nw e2]]
  exact h.1 k k0 kn e1
 rw [oO hi hjl,oO hi hjl]
 rw [show (j-1) / 2=i by omega,show sw i j i=j by unfold sw;rw [nw d5,t8 rfl],show sw i j k=k by unfold sw;rw [nw d5,nw d5]]
 have:=h.1 k k0 kn d5
 rw [ke] at this
 exact this
theorem aS {n:Nat} {l:List Int} (h:Hp n l):∀k,k<n->at_ l 0<=at_ l k:=by
 intro k
 induction k using Nat.strongRecOn with
 |_ k ih=>
   intro hk
   rcases Nat.eq_zero_or_pos k with e|e
   ·rw [e];omega
   have a1:=ih ((k-1) / 2) d5 d5
   have a2:=h k e hk
   omega
theorem TJ {n:Nat} {l:List Int} (h:Hp (n+1) l) (hl:l.length=n+1):Cw n (swp l 0 n) 0:=by
 refine⟨λk k0 kn kne=>?_,λk _ _ _ h0=>d5⟩
 rw [oO d5 d5,oO d5 d5]
 rw [show sw 0 n ((k-1) / 2)=(k-1) / 2 by unfold sw;rw [nw d5,nw kne],show sw 0 n k=k by unfold sw;rw [nw d5,nw d5]]
 exact h k k0 d5
theorem Zk {l:List Int} (h:Hp l.length l) (x:Int):Kn (l++[x]) l.length:=by
 have e:∀k,k<l.length->at_ (l++[x]) k=at_ l k:=λk hk=>by
  unfold at_
  grind
 refine⟨λi i0 il ine=>?_,λi i0 il ip=>?_⟩
 ·rw [T3,air] at il
  rw [e _ d5,e _ d5]
  exact h i i0 d5
 grind
theorem acE {l:List Int} {n:Nat} (hl:l.length=n+1) (hi:Eu l) (x:Int):x∈l.take n↔x∈l/\x≠at_ l n:=by
 constructor
 ·intro h
  refine⟨List.mem_of_mem_take h,?_⟩
  rintro rfl
  obtain⟨k,hk,e⟩:=ah9.1 h
  simp at hk e
  have:=hi k n d5 d5 (by simp [at_,List.getD_eq_getElem?_getD,show k<l.length by omega,e])
  omega
 rintro⟨h,cG⟩
 obtain⟨k,hk,e⟩:=zL.1 h
 have:k≠n:=by rintro rfl;exact cG e.symm
 refine ah9.2 ⟨k,by simp;omega,?_⟩
 simp only [at_,ah3,hk,T6,Option.getD_some] at e
 simpa using e
theorem FP {l:List Int} {n k:Nat} (hk:k<n):at_ (l.take n) k=at_ l k:=by simp [at_,List.getD_eq_getElem?_getD,hk]
theorem acF {l:List Int} {n:Nat} (h:Hp n l):Hp n (l.take n):=λi i0 hi=>by rw [FP hi,FP d5];exact h i i0 hi
theorem Zl {l:List Int} {n:Nat} (h:Eu l):Eu (l.take n):=λa b ha hb e=>by
 simp at ha hb
 rw [FP d5,FP d5] at e
 exact h a b d5 d5 e
end Go.Proofs.YtfececghhgeapaaGreatDoor.bw
end
namespace Go.Proofs.YtfececghhgeapaaGreatDoor
section
open Go.RowKit bw
def bG (l:List Int):List Value:=l.map (Value.int .i64)
theorem tG (g n c a b:Nat) (i j:Int) (hi:i=(a:Int)) (hj:j=(b:Int)) (x y:Int) (w:World) (ha:a<n) (hb:b<n) (ci:w.cell? ⟨g,a,none⟩=some (.int .i64 x)) (cj:w.cell? ⟨g,b,none⟩=some (.int .i64 y)) :
 Calls Tryz.prog 284 #[.slice (some ⟨g,0,none⟩) n c,.int .i64 i,.int .i64 j] w λe w'=>e=.returned (.bool (decide (x<y)))/\∃m,w'=w.drewN m:=by
 grind [V6]
structure HW (t o g c base:Nat) (l:List Int) (w:World):Prop where
 cell:w.cell? ⟨t,o,none⟩=some (.slice (some ⟨g,0,none⟩) l.length c)
 own:w.ownsRow base 3 1 (.slice (some ⟨g,0,none⟩) l.length c) l.length (bG l)
 ne:t≠g
 lt:t<w.heap.size
theorem Zm {l:List Int} {k:Nat} (hk:k<l.length):(bG l)[k]?=some (.int .i64 (at_ l k)):=by
 simp [bG,at_,List.getD_eq_getElem?_getD,hk]
section hw
variable {t o g c base:Nat} {l:List Int} {w:World}
theorem HW.at (h:HW t o g c base l w) {k:Nat} (hk:k<l.length):w.cell? ⟨g,k,none⟩=some (.int .i64 (at_ l k)):=by
 rw [h.own.cellAt k d5]
 exact Zm hk
theorem HW.drewN (h:HW t o g c base l w) (m:Nat):HW t o g c base l (w.drewN m):=⟨h.cell,h.own,h.ne,h.lt⟩
theorem HW.swap (h:HW t o g c base l w) (i j:Nat) :
 HW t o g c base (swp l i j) ((w.setCell ⟨g,i,none⟩ (.int .i64 (at_ l j))).setCell ⟨g,j,none⟩ (.int .i64 (at_ l i))):=by
 have e1:bG (swp l i j)=((bG l).set i (.int .i64 (at_ l j))).set j (.int .i64 (at_ l i)):=by
  simp [bG,swp,List.map_set]
 refine⟨?_,?_,h.ne,by simpa [World.setCell] using h.lt⟩
 ·rw [qJ,World.cell?_setCell_other _ _ _ _ (λe=>h.ne (by injection e with e;exact e.symm)),World.cell?_setCell_other _ _ _ _ (λe=>h.ne (by injection e with e;exact e.symm))]
  exact h.cell
 rw [qJ,e1]
 exact ((h.own.stored i _).1.stored j _).1
end hw
theorem tH (t o g c base:Nat) (l:List Int) (a b:Nat) (i j:Int) (hi:i=(a:Int)) (hj:j=(b:Int)) (w:World) (h:HW t o g c base l w) (ha:a<l.length) (hb:b<l.length) (cG:a≠b) :
 Calls Tryz.prog 285 #[.slice (some ⟨g,0,none⟩) l.length c,.int .i64 i,.int .i64 j] w λe w'=>e=.returned (.tuple #[])/\HW t o g c base (swp l a b) w'/\cK (·=g) w w':=by
 subst hi hj
 refine (V7 g l.length c a b (at_ l a) (at_ l b) w ha hb cG (h.at ha) (h.at hb) (h.own.frozenAt a) (h.own.frozenAt b)).mono λe w' ⟨he,m,hw⟩=>⟨he,?_,?_⟩
 ·rw [hw];exact (h.swap a b).drewN m
 rw [hw];exact (((cK.refl (·=g) w).setCell (p:=⟨g,a,none⟩) (.inr rfl) _).setCell (p:=⟨g,b,none⟩) (.inr rfl) _).drewN m
structure Looks (a:Addr) (V:Value):Prop where
 less:∀w:World,w.cell? a=some V->(Go.method 481 342 (.pointer (some a)) "Less").run Tryz.prog w=.ok (284,V) w
 swap:∀w:World,w.cell? a=some V->(Go.method 481 342 (.pointer (some a)) "Swap").run Tryz.prog w=.ok (285,V) w
 len:∀w:World,w.cell? a=some V->(Go.method 481 342 (.pointer (some a)) "Len").run Tryz.prog w=.ok (283,V) w
theorem looks (a:Addr) (V:Value):Looks a V:=⟨adO a V,adP a V,afB a V⟩
theorem acG (t o g c base:Nat) (l:List Int) (j:Nat) (w:World) (h:HW t o g c base l w) (hj:j<l.length) (hu:Kn l j) (hm:l.length<=1048576) :
 Calls Tryz.prog 240 #[.iface 342 (.pointer (some ⟨t,o,none⟩)),.int .i64 j] w λe w'=>e=.returned (.tuple #[]) ∧
  ∃l',Same l l'/\Hp l'.length l'/\HW t o g c base l' w'/\cK (·=g) w w':=by
 have L:=looks ⟨t,o,none⟩ (.slice (some ⟨g,0,none⟩) l.length c)
 have nl:=V5 ⟨t,o,none⟩
 have ns:=Ob ⟨t,o,none⟩
 go_enter Tryz.func240,Tryz.ntmps240
 go_wp2_with fail
 go_loopw [1] (λv wr=>∃(j:Nat) (l':List Int),v=.int .i64 j/\j<l'.length/\Same l l'/\Kn l' j/\HW t o g c base l' wr/\cK (·=g) w wr) (λv _=>(intOf v).toNat)
 case atStart=>exact⟨j,l,rfl,hj,Same.refl l,hu,h,cK.refl _ _⟩
 case round=>
  obtain⟨j,l',rfl,hj',hs,hu',hw,hk⟩:=hrel
  have hc:=hw.cell
  rw [hs.len] at hc
  have LL:=L.less wr hc
  by_cases h0:j=0
  ·subst h0
   have HU:=Lib.hid hu'
   clear hu'
   go_wp2_with fail
   go_end0
   exact⟨rfl,l',hs,Wb HU.out (.inl rfl),hw,hk⟩
  have uF:1<=j:=d5
  have hj2:j<=1048576:=by have:=hs.len;omega
  have hi1:(j-1) / 2<l'.length:=d5
  have hjn:((((j:Int)-1) / 2) == (j:Int))=false:=by rw [beq_eq_false_iff_ne];omega
  have HU:=Lib.hid hu'
  clear hu'
  go_wp2_with fail
  refine (tG g l.length c j ((j-1) / 2) _ _ rfl d5 (at_ l' j) (at_ l' ((j-1) / 2)) _ (by rw [←hs.len];exact hj') (by rw [←hs.len];exact hi1) (hw.at hj') (hw.at hi1)).mono ?_
  rintro e w1 ⟨rfl,m,rfl⟩
  have hw1:=hw.drewN m
  by_cases fT:at_ l' j<at_ l' ((j-1) / 2)
  ·have LS:=L.swap (wr.drewN m) hc
   go_wp2_with fail
   have HL:=Lib.hid hs.len
   have sw:=tH t o g c base l' ((j-1) / 2) j
   rw [hs.len] at sw
   refine (sw _ _ d5 rfl _ hw1 (by have:=HL.out;omega) (by have:=HL.out;omega) d5).mono ?_
   rintro e w2 ⟨rfl,hw2,hk2⟩
   clear sw
   go_wp2_with fail
   go_roundw
   case rel=>exact⟨(j-1) / 2,_,by go_num,by rw [qJ];exact hi1,hs.trans (Same.swp hi1 hj'),acD HU.out uF hj' fT,hw2,(hk.drewN m).trans hk2⟩
   case measure=>simp [intOf];omega
  have hnl:decide (at_ l' j<at_ l' ((j-1) / 2))=false:=by simpa using fT
  go_wp2_with fail
  go_end0
  exact⟨rfl,l',hs,Wb HU.out (.inr d5),hw1,hk.drewN m⟩
theorem Od {l:List Int} {i j n k:Nat} (hi:i<l.length) (hj:j<l.length) (hin:i<n) (hjn:j<n) (hk:n<=k):at_ (swp l i j) k=at_ l k:=by
 grind [oO,sw]
theorem Wd (t o g c base n:Nat) (l:List Int) (w:World) (h:HW t o g c base l w) (hn:n<=l.length) (hd:Cw n l 0) (hm:l.length<=1048576) :
 Calls Tryz.prog 241 #[.iface 342 (.pointer (some ⟨t,o,none⟩)),.int .i64 0,.int .i64 n] w λe w'=>(∃b,e=.returned (.bool b)) ∧
  ∃l',Same l l'/\Hp n l'/\(∀k,n<=k->at_ l' k=at_ l k)/\HW t o g c base l' w'/\cK (·=g) w w':=by
 have L:=looks ⟨t,o,none⟩ (.slice (some ⟨g,0,none⟩) l.length c)
 have nl:=V5 ⟨t,o,none⟩
 have ns:=Ob ⟨t,o,none⟩
 go_enter Tryz.func241,Tryz.ntmps241
 go_wp2_with fail
 go_loopw [7] (λv wr=>∃(i:Nat) (l':List Int),v=.int .i64 i/\i<=n/\Same l l'/\Cw n l' i/\Hid (∀k,n<=k->at_ l' k=at_ l k)/\HW t o g c base l' wr/\cK (·=g) w wr) (λv _=>n-(intOf v).toNat)
 case atStart=>exact⟨0,l,rfl,L4 _,Same.refl l,hd,Lib.hid (λ_ _=>rfl),h,cK.refl _ _⟩
 case round=>
  obtain⟨i,l',rfl,hin,hs,hd',Dj,hw,hk⟩:=hrel
  have hc:=hw.cell
  rw [hs.len] at hc
  have HL:=Lib.hid hs.len
  have hn1:n<=1048576:=d5
  have hnl:n<=l'.length:=by rw [HL.out];exact hn
  have HD:=Lib.hid hd'
  clear hd'
  by_cases h1:2*i+1<n
  ·have h1a:(2*(i:Int)+1)<(n:Int):=d5
   by_cases h2:2*i+2<n
   ·have h2a:(2*(i:Int)+1+1)<(n:Int):=d5
    have LL:=L.less wr hc
    go_wp2_with fail
    refine (tG g l.length c (2*i+2) (2*i+1) _ _ d5 d5 (at_ l' (2*i+2)) (at_ l' (2*i+1)) _ d5 d5 (hw.at d5) (hw.at d5)).mono ?_
    rintro e w1 ⟨rfl,m,rfl⟩
    have hw1:=hw.drewN m
    have hk1:=hk.drewN m
    have LL:=L.less (wr.drewN m) hc
    clear hw hk
    by_cases h3:at_ l' (2*i+2)<at_ l' (2*i+1)
    ·go_wp2_with fail
     refine (tG g l.length c (2*i+2) i _ _ d5 d5 (at_ l' (2*i+2)) (at_ l' i) _ d5 d5 (hw1.at d5) (hw1.at d5)).mono ?_
     rintro e w2 ⟨rfl,m2,rfl⟩
     have hw2:=hw1.drewN m2
     have hk2:=hk1.drewN m2
     rw [World.drewN_drewN] at hw2 hk2
     by_cases h4:at_ l' (2*i+2)<at_ l' i
     ·have LS:=L.swap _ (hw2.cell.trans (by rw [HL.out]))
      go_wp2_with fail
      have sw:=tH t o g c base l' i (2*i+2)
      rw [hs.len] at sw
      refine (sw _ _ rfl d5 _ hw2 d5 d5 d5).mono ?_
      rintro e w3 ⟨rfl,hw3,hk3⟩
      clear sw
      go_wp2_with fail
      go_roundw
      case rel=>exact⟨2*i+2,_,by go_num,d5,hs.trans (Same.swp d5 d5),Ev HD.out d5 d5 hnl d5 (λ_=>d5) h4,Lib.hid (λk hk=>(Od d5 d5 d5 d5 hk).trans (Dj.out k hk)),hw3,hk2.trans hk3⟩
      case measure=>simp [intOf];omega
     have h4a:decide (at_ l' (2*i+2)<at_ l' i)=false:=by simpa using h4
     go_wp2_with fail
     go_ret
     exact⟨⟨_,rfl⟩,l',hs,Di HD.out (λ_=>d5) (λ_=>d5),Dj.out,hw2,hk2⟩
    have h3a:decide (at_ l' (2*i+2)<at_ l' (2*i+1))=false:=by simpa using h3
    go_wp2_with fail
    refine (tG g l.length c (2*i+1) i _ _ d5 d5 (at_ l' (2*i+1)) (at_ l' i) _ d5 d5 (hw1.at d5) (hw1.at d5)).mono ?_
    rintro e w2 ⟨rfl,m2,rfl⟩
    have hw2:=hw1.drewN m2
    have hk2:=hk1.drewN m2
    rw [World.drewN_drewN] at hw2 hk2
    by_cases h4:at_ l' (2*i+1)<at_ l' i
    ·have LS:=L.swap _ (hw2.cell.trans (by rw [HL.out]))
     go_wp2_with fail
     have sw:=tH t o g c base l' i (2*i+1)
     rw [hs.len] at sw
     refine (sw _ _ rfl d5 _ hw2 d5 d5 d5).mono ?_
     rintro e w3 ⟨rfl,hw3,hk3⟩
     clear sw
     go_wp2_with fail
     go_roundw
     case rel=>exact⟨2*i+1,_,by go_num,d5,hs.trans (Same.swp d5 d5),Ev HD.out d5 d5 hnl d5 (λ_=>d5) h4,Lib.hid (λk hk=>(Od d5 d5 d5 d5 hk).trans (Dj.out k hk)),hw3,hk2.trans hk3⟩
     case measure=>simp [intOf];omega
    have h4a:decide (at_ l' (2*i+1)<at_ l' i)=false:=by simpa using h4
    go_wp2_with fail
    go_ret
    exact⟨⟨_,rfl⟩,l',hs,Di HD.out (λ_=>d5) (λ_=>d5),Dj.out,hw2,hk2⟩
   have h2a:decide ((2*(i:Int)+1+1)<(n:Int))=false:=by simp;omega
   have hw1:=hw
   have hk1:=hk
   have LL:=L.less wr hc
   clear hw hk
   go_wp2_with fail
   refine (tG g l.length c (2*i+1) i _ _ d5 d5 (at_ l' (2*i+1)) (at_ l' i) _ d5 d5 (hw1.at d5) (hw1.at d5)).mono ?_
   rintro e w2 ⟨rfl,m2,rfl⟩
   have hw2:=hw1.drewN m2
   have hk2:=hk1.drewN m2
   by_cases h4:at_ l' (2*i+1)<at_ l' i
   ·have LS:=L.swap _ (hw2.cell.trans (by rw [HL.out]))
    go_wp2_with fail
    have sw:=tH t o g c base l' i (2*i+1)
    rw [hs.len] at sw
    refine (sw _ _ rfl d5 _ hw2 d5 d5 d5).mono ?_
    rintro e w3 ⟨rfl,hw3,hk3⟩
    clear sw
    go_wp2_with fail
    go_roundw
    case rel=>exact⟨2*i+1,_,by go_num,d5,hs.trans (Same.swp d5 d5),Ev HD.out d5 d5 hnl d5 (λ_=>d5) h4,Lib.hid (λk hk=>(Od d5 d5 d5 d5 hk).trans (Dj.out k hk)),hw3,hk2.trans hk3⟩
    case measure=>simp [intOf];omega
   have h4a:decide (at_ l' (2*i+1)<at_ l' i)=false:=by simpa using h4
   go_wp2_with fail
   go_ret
   exact⟨⟨_,rfl⟩,l',hs,Di HD.out (λ_=>d5) (λ_=>d5),Dj.out,hw2,hk2⟩
  have h1a:((n:Int)<=2*(i:Int)+1):=d5
  go_wp2_with fail
  go_ret
  exact⟨⟨_,rfl⟩,l',hs,Di HD.out (λh=>KB h h1) (λh=>KB h (by omega)),Dj.out,hw,hk⟩
theorem Kp (g n c i:Nat) (x:Int) (w:World) (hi:i<n) (ci:w.cell? ⟨g,i,none⟩=some (.int .i64 x)) (fi:w.frozen? ⟨g,i,none⟩=false) :
 Calls Tryz.prog 285 #[.slice (some ⟨g,0,none⟩) n c,.int .i64 i,.int .i64 i] w λe w'=>e=.returned (.tuple #[])/\∃m,w'=((w.setCell ⟨g,i,none⟩ (.int .i64 x)).setCell ⟨g,i,none⟩ (.int .i64 x)).drewN m:=by
 have hi':(i:Int)<(n:Int):=d5
 go_enter Tryz.func285,Tryz.ntmps285
 go_wp2_with fail
 go_region
 go_end0
 exact⟨rfl,1,rfl⟩
theorem Kq (t o g c base n:Nat) (l:List Int) (hl:l.length=n+1) (j:Int) (hj:j=(n:Int)) (w:World) (h:HW t o g c base l w) :
 Calls Tryz.prog 285 #[.slice (some ⟨g,0,none⟩) (n+1) c,.int .i64 0,.int .i64 j] w λe w'=>e=.returned (.tuple #[])/\HW t o g c base (swp l 0 n) w'/\cK (·=g) w w':=by
 subst hj
 by_cases h0:n=0
 ·subst h0
  have:=Kp g 1 c 0 (at_ l 0) w d5 (h.at d5) (h.own.frozenAt 0)
  refine this.mono λe w' ⟨he,m,hw⟩=>⟨he,?_,?_⟩
  ·rw [hw];exact (h.swap 0 0).drewN m
  rw [hw];exact (((cK.refl (·=g) w).setCell (p:=⟨g,0,none⟩) (.inr rfl) _).setCell (p:=⟨g,0,none⟩) (.inr rfl) _).drewN m
 grind [tH]
theorem HW.pop {t o g c base n:Nat} {l:List Int} {w:World} (h:HW t o g c base l w) (hl:l.length=n+1):w.ownsRow base 3 1 (.slice (some ⟨g,0,none⟩) n c) n (bG (l.take n)):=by
 have e:bG l=bG (l.take n)++bG (l.drop n):=by simp only [bG,←aik,List.take_append_drop]
 have h1:=h.own
 rw [e,hl] at h1
 exact ownsRow_pop (by simp [bG];omega) h1
theorem HW.cap {t o g c base:Nat} {l:List Int} {w:World} (h:HW t o g c base l w):l.length<=c:=by
 rcases h.own.2 with ⟨e,_⟩|⟨g',cap,cur,e,_,_,r,_⟩
 all_goals grind
theorem Zn (t o g c base n:Nat) (l:List Int) (w:World) (h:HW t o g c base l w) (hl:l.length=n+1) (hp:Hp (n+1) l) (hi:Eu l) (hm:n+1<=1048576) (hf:w.frozen? ⟨t,o,none⟩=false) :
 Calls Tryz.prog 239 #[.iface 342 (.pointer (some ⟨t,o,none⟩))] w λe w'=>e=.returned (.iface 3 (.int .i64 (at_ l 0))) ∧
  ∃l' w1,l'.length=n/\Hp n l'/\Eu l'/\(∀x,x∈l'↔x∈l/\x≠at_ l 0)/\w1.ownsRow base 3 1 (.slice (some ⟨g,0,none⟩) n c) n (bG l')/\cK (·=g) w w1 ∧
    w'=w1.setCell ⟨t,o,none⟩ (.slice (some ⟨g,0,none⟩) n c):=by
 have L:=looks ⟨t,o,none⟩ (.slice (some ⟨g,0,none⟩) l.length c)
 have nn:=abB ⟨t,o,none⟩
 have ns:=Ob ⟨t,o,none⟩
 have np:=afD ⟨t,o,none⟩
 have mp:=afC ⟨t,o,none⟩
 have LN:=L.len w h.cell
 have LS:=L.swap w h.cell
 have HL:=Lib.hid hl
 rw [hl] at LN LS
 clear hl
 go_enter Tryz.func239,Tryz.ntmps239
 go_wp2_with fail
 refine (Oc _ _ _ _).mono ?_
 rintro e w0 ⟨rfl,rfl⟩
 go_wp2_with fail
 refine (Kq t o g c base n l HL.out _ d5 _ h).mono ?_
 rintro e w1 ⟨rfl,hw1,hk1⟩
 go_wp2_with fail
 have hd:=Wd t o g c base n (swp l 0 n) w1 hw1 (by rw [qJ,HL.out];omega) (TJ hp HL.out) (by rw [qJ,HL.out];exact hm)
 refine (hd.mono ?_)
 rintro e w2 ⟨⟨bb,rfl⟩,l',hs,dz,Dj,hw2,hk2⟩
 clear hd
 have jT:l'.length=n+1:=by rw [hs.len,qJ,HL.out]
 have hcell:=hw2.cell
 rw [jT] at hcell
 have hcap:=hw2.cap
 have htlt:=h.lt
 have hf2:w2.frozen? ⟨t,o,none⟩=false:=by
  rw [(hk1.trans hk2).frozen (p:=⟨t,o,none⟩) htlt h.ne]
  exact hf
 have hlast:at_ l' n=at_ l 0:=by
  rw [Dj n (N6 _),oO (by rw [HL.out];omega) (by rw [HL.out];omega)]
  simp [sw]
 have hx:=hw2.at (k:=n) d5
 rw [hlast] at hx
 have TK:=Lib.hid jT
 have afE:=Lib.hid hlast
 clear jT hlast
 go_wp2_with fail
 refine (Zj t o g n c (at_ l 0) w2 (by have:=TK.out;omega) hcell hf2 hx hm).mono ?_
 rintro e w3 ⟨rfl,rfl⟩
 go_wp2_with fail
 go_ret
 have sm:=(Same.swp (l:=l) (i:=0) (j:=n) (by rw [HL.out];omega) (by rw [HL.out];omega)).trans hs
 refine⟨rfl,l'.take n,w2,by simp [TK.out],acF dz,Zl (sm.inj hi),λx=>?_,hw2.pop TK.out,hk1.trans hk2,rfl⟩
 rw [acE TK.out (sm.inj hi),sm.mem,afE.out]
theorem Gu (l:List Int) (x:Int):bG l++[.int .i64 x]=bG (l++[x]):=by simp [bG]
theorem Wf (t o base:Nat) (v:Value) (l:List Int) (x:Int) (w:World) (ht:w.cell? ⟨t,o,none⟩=some v) (hf:w.frozen? ⟨t,o,none⟩=false) (qm:w.ownsRow base 3 1 v l.length (bG l))
 (cG:v.ownBlock≠some t) (hm:l.length+1<=1048576) (hbase:base<=w.heap.size) (hp:Hp l.length l) (htl:t<w.heap.size) :
 Calls Tryz.prog 237 #[.iface 342 (.pointer (some ⟨t,o,none⟩)),.iface 3 (.int .i64 x)] w λe w'=>e=.returned (.tuple #[]) ∧
  ∃g c l',Same (l++[x]) l'/\Hp l'.length l'/\HW t o g c base l' w'/\(v.ownBlock=some g\/w.heap.size<=g) ∧
    ∃w1,cK (λk=>v.ownBlock=some k) w w1/\cK (·=g) (w1.setCell ⟨t,o,none⟩ (.slice (some ⟨g,0,none⟩) (l.length+1) c)) w':=by
 have nn:=abB ⟨t,o,none⟩
 have np:=adR ⟨t,o,none⟩
 have mp:=adQ ⟨t,o,none⟩
 go_enter Tryz.func237,Tryz.ntmps237
 go_wp2_with fail
 refine (Wa t o base l.length v (bG l) x w ht hf qm cG hm hbase).mono ?_
 rintro e w0 ⟨rfl,g,c,w1,hown1,hg1,TG,rfl⟩
 have hk1:cK (λk=>v.ownBlock=some k) w w1:=(cK.refl _ _).grown hg1 (λk hk=>.inr hk)
 have hgt:t≠g:=by
  rintro rfl
  rcases TG with h|h
  ·exact cG h
  omega
 have ht1:w1.cell? ⟨t,o,none⟩=some v:=(hk1.cell (p:=⟨t,o,none⟩) htl cG).trans ht
 have HW1:HW t o g c base (l++[x]) (w1.setCell ⟨t,o,none⟩ (.slice (some ⟨g,0,none⟩) (l.length+1) c)):=by
  refine⟨?_,?_,hgt,by simpa [World.setCell] using ahR htl hk1.size⟩
  ·rw [World.cell?_setCell_same _ _ _ ht1];simp
  rw [T3,air,←Gu]
  refine cK.ownsRow (S:=(·=t)) ((cK.refl (·=t) w1).setCell (p:=⟨t,o,none⟩) (.inr rfl) _) hown1 ?_
  intro k hk e
  simp [Value.ownBlock] at hk
  omega
 have hc:=HW1.cell
 rw [T3,air] at hc
 generalize hW:w1.setCell ⟨t,o,none⟩ (.slice (some ⟨g,0,none⟩) (l.length+1) c)=w2 at *
 have LN:=(looks ⟨t,o,none⟩ (.slice (some ⟨g,0,none⟩) (l.length+1) c)).len w2 hc
 have HWe:=Lib.hid hW
 clear hW ht1 hown1 qm hg1
 go_wp2_with fail
 refine (Oc _ _ _ _).mono ?_
 rintro e w3 ⟨rfl,rfl⟩
 go_wp2_with fail
 have hu:=acG t o g c base (l++[x]) l.length w3 HW1 nh (Zk hp x) (by simpa using hm)
 refine hu.mono ?_
 rintro e w4 ⟨rfl,l',hs,dz,hw4,hk4⟩
 go_wp2_with fail
 go_end0
 exact⟨rfl,g,c,l',hs,dz,hw4,TG,w1,hk1,by rw [HWe.out];exact hk4⟩
end
end Go.Proofs.YtfececghhgeapaaGreatDoor
section
namespace Go.Proofs.YtfececghhgeapaaGreatDoor.aI
open bw
variable {V U:Type}
abbrev bB (V:Type):=List (Int×V)
def aY (us:bB V):List Int:=us.map (·.1)
def get (us:bB V) (h:Int):Option V:=(us.find? (λp=>p.1 == h)).map (·.2)
def dK:List Int->Prop:=List.Pairwise (· < ·)
def kN:Int->List Int->Int
 |h,[]=>h
 |h,k::r=>if k=h then kN (h+1) r else h
def aS (us:bB V):Int:=kN 1 (aY us)
def ins (h:Int) (v:V):bB V->bB V
 |[]=>[(h,v)]
 |p::r=>if h<p.1 then (h,v)::p::r else p::ins h v r
def del (h:Int) (us:bB V):bB V:=us.filter (λp=>p.1 != h)
def ahv (h:Int) (v:V) (us:bB V):bB V:=us.map (λp=>if p.1 == h then (h,v) else p)
structure TI (next:Int) (l:List Int) (us:bB V):Prop where
 fP:dK (aY us)
 pos:∀h∈aY us,1<=h/\h<next
 back:∀h∈l,1<=h/\h<next/\h∉aY us
 all:∀h,1<=h->h<next->h∈aY us\/h∈l
 count:(us.length:Int)+l.length=next-1
 heap:Hp l.length l
 inj:Eu l
theorem keys_cons (p:Int×V) (us:bB V):aY (p::us)=p.1::aY us:=rfl
theorem keys_map (f:V->U) (us:bB V):aY (us.map λp=>(p.1,f p.2))=aY us:=by simp [aY]
theorem get_none {us:bB V} {h:Int}:get us h=none↔h∉aY us:=by
 unfold get aY
 rw [Option.map_eq_none_iff,List.find?_eq_none]
 grind
theorem get_some {us:bB V} {h:Int} {v:V} (e:get us h=some v):h∈aY us:=by
 apply ahY
 intro hn
 rw [get_none.2 hn] at e;cases e
theorem get_map (f:V->U) (us:bB V) (h:Int):get (us.map λp=>(p.1,f p.2)) h=(get us h).map f:=by
 unfold get
 rw [List.find?_map]
 simp only [Function.comp_def,Option.map_map]
theorem rI (h:Int) (v:V) (us:bB V) (x:Int):x∈aY (ins h v us)↔x=h\/x∈aY us:=by
 induction us with
 |nil=>simp [ins,aY]
 |cons p r ih=>
   unfold ins
   split
   ·simp [aY]
   rw [keys_cons,keys_cons,ahK,ahK,ih]
   grind
theorem zM {h:Int} {v:V} {us:bB V} (hr:dK (aY us)) (hn:h∉aY us):dK (aY (ins h v us)):=by
 induction us with
 |nil=>simp [ins,aY,dK]
 |cons p r ih=>
   unfold dK at *
   rw [keys_cons,ahP] at hr
   rw [keys_cons,ahK,not_or] at hn
   unfold ins
   split
   ·rename_i fT
    rw [keys_cons,keys_cons,ahP,ahP]
    grind
   rename_i fT
   rw [keys_cons,ahP]
   refine⟨λx hx=>?_,ih hr.2 hn.2⟩
   rcases (rI h v r x).1 hx with e|e
   ·rw [e];have:=hn.1;omega
   exact hr.1 x e
theorem sU {h:Int} {v:V} {us:bB V} (hn:h∉aY us) (x:Int):get (ins h v us) x=if x=h then some v else get us x:=by
 induction us with
 |nil=>
   by_cases e:x=h
   ·subst e;simp [ins,get]
   simp [ins,get,e,Ne.symm e]
 |cons p r ih=>
   rw [keys_cons,ahK,not_or] at hn
   unfold ins
   grind [get]
theorem kK (h:Int) (v:V) (us:bB V):(ins h v us).length=us.length+1:=by
 induction us with
 |nil=>rfl
 |cons p r ih=>unfold ins;split<;>simp [ih]
theorem Oe {h:Int} {v:V} {us:bB V} (hl:∀x∈aY us,x<h):ins h v us=us++[(h,v)]:=by
 induction us with
 |nil=>rfl
 |cons p r ih=>
   rw [keys_cons] at hl
   have h1:=hl p.1 nh
   unfold ins
   grind
theorem Kr (f:V->U) (h:Int) (v:V) (us:bB V):(ins h v us).map (λp=>(p.1,f p.2))=ins h (f v) (us.map λp=>(p.1,f p.2)):=by
 induction us with
 |nil=>rfl
 |cons p r ih=>unfold ins;simp only [ah2];split<;>simp_all
theorem Kt (f:V->U) (h:Int) (us:bB V):(del h us).map (λp=>(p.1,f p.2))=del h (us.map λp=>(p.1,f p.2)):=by
 unfold del;rw [List.filter_map];rfl
theorem ul (h:Int) (us:bB V):aY (del h us)=(aY us).filter (· != h):=by
 unfold aY del;rw [List.filter_map];rfl
theorem wG (h:Int) (us:bB V) (x:Int):get (del h us) x=if x=h then none else get us x:=by
 by_cases e:x=h
 ·subst e
  rw [t8 rfl,get_none,ul]
  simp
 rw [nw e]
 unfold get del
 grind
theorem sV {h:Int} {us:bB V} (hr:dK (aY us)) (hm:h∈aY us):(del h us).length+1=us.length:=by
 induction us with
 |nil=>simp [aY] at hm
 |cons p r ih=>
   unfold dK at *
   rw [keys_cons,ahP] at hr
   unfold del at ih ⊢
   rw [List.filter_cons]
   by_cases e:p.1=h
   ·have:r.filter (λq=>q.1 != h)=r:=by
     rw [List.filter_eq_self]
     intro q hq
     have:=hr.1 q.1 (List.mem_map_of_mem hq)
     simp;omega
    simp [e,this]
   rw [keys_cons,ahK] at hm
   grind
theorem qK:∀(ks:List Int) (h:Int),dK ks->(∀x∈ks,h<=x)->h<=kN h ks/\kN h ks∉ks/\∀x,h<=x->x<kN h ks->x∈ks
 |[],h,_,_=>⟨Int.le_refl _,by simp [kN],λx h1 h2=>by simp [kN] at h2;omega⟩
 |k::r,h,hr,hge=>by
   unfold dK at hr
   rw [ahP] at hr
   unfold kN
   by_cases e:k=h
   ·rw [t8 e]
    obtain⟨i1,i2,i3⟩:=qK r (h+1) hr.2 (λx hx=>by have:=hr.1 x hx;omega)
    refine⟨d5,?_,λx h1 h2=>?_⟩
    ·rw [ahK,not_or];exact⟨d5,i2⟩
    by_cases e2:x=h
    ·rw [e2,←e];simp
    exact T4 _ (i3 x d5 h2)
   rw [nw e]
   refine⟨Int.le_refl _,?_,λx h1 h2=>d5⟩
   rw [ahK,not_or]
   refine⟨Ne.symm e,λhm=>?_⟩
   have h1:=hr.1 h hm
   have h2:=hge k nh
   omega
theorem Ew {us:bB V} (hr:dK (aY us)) (hp:∀x∈aY us,1<=x) {h:Int} (h1:1<=h) (hn:h∉aY us) (jW:∀x,1<=x->x<h->x∈aY us):aS us=h:=by
 obtain⟨i1,i2,i3⟩:=qK (aY us) 1 hr hp
 grind [aS]
theorem TI.empty:TI 1 [] ([]:bB V):=
 ⟨List.Pairwise.nil,by simp [aY],nh,λh h1 h2=>d5,rfl,λi h1 h2=>by simp at h2,λa b h1=>by simp at h1⟩
theorem TI.Ja {next:Int} {us:bB V} (h:TI next [] us):aS us=next:=by
 have hc:=h.count
 simp at hc
 refine Ew h.fP (λx hx=>(h.pos x hx).1) d5 (λhm=>?_) (λx h1 h2=>(h.all x h1 h2).resolve_right nh)
 have:=(h.pos _ hm).2;omega
theorem TI.Zo {next:Int} {us:bB V} (h:TI next [] us) (v:V):TI (next+1) [] (ins next v us):=by
 have hc:=h.count
 simp at hc
 have hn:next∉aY us:=λhm=>by have:=(h.pos _ hm).2;omega
 refine⟨zM h.fP hn,λx hx=>?_,nh,λx h1 h2=>?_,by rw [kK];simp;omega,λi h1 h2=>by simp at h2,λa b h1=>by simp at h1⟩
 ·rcases (rI next v us x).1 hx with e|e
  ·omega
  have:=h.pos x e;omega
 by_cases e:x=next
 ·exact .inl ((rI next v us x).2 (.inl e))
 exact .inl ((rI next v us x).2 (.inr ((h.all x h1 d5).resolve_right nh)))
theorem TI.Jb {next:Int} {l:List Int} {us:bB V} (h:TI next l us) (hl:0<l.length):aS us=at_ l 0:=by
 have hm:at_ l 0∈l:=zL.2 ⟨0,hl,rfl⟩
 obtain⟨b1,b2,b3⟩:=h.back _ hm
 refine Ew h.fP (λx hx=>(h.pos x hx).1) b1 b3 (λx h1 h2=>(h.all x h1 d5).resolve_right (λhx=>?_))
 obtain⟨k,hk,e⟩:=zL.1 hx
 have:=bw.aS h.heap k hk
 omega
theorem TI.Zp {next:Int} {l l':List Int} {us:bB V} (h:TI next l us) (hl:0<l.length) (v:V) (jT:l'.length+1=l.length) (hp:Hp l'.length l') (hi:Eu l') (hm:∀x,x∈l'↔x∈l/\x≠at_ l 0) :
 TI next l' (ins (at_ l 0) v us):=by
 have h0:at_ l 0∈l:=zL.2 ⟨0,hl,rfl⟩
 obtain⟨b1,b2,b3⟩:=h.back _ h0
 have hc:=h.count
 refine⟨zM h.fP b3,λx hx=>?_,λx hx=>?_,λx h1 h2=>?_,by rw [kK];push_cast;omega,hp,hi⟩
 ·rcases (rI _ v us x).1 hx with e|e
  ·omega
  exact h.pos x e
 ·have hx':=(hm x).1 hx
  have:=h.back x hx'.1
  refine⟨this.1,this.2.1,λhk=>?_⟩
  rcases (rI _ v us x).1 hk with e|e
  ·exact hx'.2 e
  exact this.2.2 e
 by_cases e:x=at_ l 0
 ·exact .inl ((rI _ v us x).2 (.inl e))
 rcases h.all x h1 h2 with h3|h3
 ·exact .inl ((rI _ v us x).2 (.inr h3))
 exact .inr ((hm x).2 ⟨h3,e⟩)
theorem TI.drop {next h0:Int} {l l':List Int} {us:bB V} (h:TI next l us) (hm:h0∈aY us) (hs:Same (l++[h0]) l') (hp:Hp l'.length l'):TI next l' (del h0 us):=by
 obtain⟨p1,p2⟩:=h.pos _ hm
 have hn:h0∉l:=λhx=>(h.back _ hx).2.2 hm
 have jT:=hs.len
 rw [T3,air] at jT
 have hc:=h.count
 have hd:=sV h.fP hm
 refine⟨?_,λx hx=>?_,λx hx=>?_,λx h1 h2=>?_,d5,hp,hs.inj ?_⟩
 ·rw [ul];exact aiA _ h.fP
 ·rw [ul,List.mem_filter] at hx
  exact h.pos x hx.1
 ·rw [hs.mem,ahV,ah5] at hx
  rw [ul,List.mem_filter]
  rcases hx with hx|hx
  ·have:=h.back x hx
   exact⟨this.1,this.2.1,λhk=>this.2.2 hk.1⟩
  grind
 ·rw [ul,List.mem_filter,hs.mem,ahV,ah5]
  rcases h.all x h1 h2 with h3|h3
  all_goals grind
 intro a b ha hb e
 rw [T3,air] at ha hb
 have g:∀k,k<l.length->at_ (l++[h0]) k=at_ l k:=λk hk=>by
  grind [at_]
 have g2:at_ (l++[h0]) l.length=h0:=by grind [at_]
 have inl:∀k,k<l.length->at_ l k≠h0:=by grind [zL]
 by_cases ha':a<l.length
 ·by_cases hb':b<l.length
  ·rw [g a ha',g b hb'] at e;exact h.inj a b ha' hb' e
  grind
 grind
end Go.Proofs.YtfececghhgeapaaGreatDoor.aI
end
namespace Go.Proofs.YtfececghhgeapaaGreatDoor
section
open Go.RowKit bw aI Go.Maps
def dg (us:bB Value):Lit->Option Value
 |.int .i64 h=>aI.get us h
 |_=>none
theorem Ku {us:bB Value} {h:Int} (hn:h∉aY us) (v:Value):p4 (dg us) (.int .i64 h) (some v)=dg (ins h v us):=by
 funext x
 unfold p4 dg
 cases x with
 |int k n=>
   by_cases hk:k=.i64
   ·subst hk
    simp only [Lit.sameKey,true_and,decide_eq_true_eq]
    rw [sU hn]
   have e:(Lit.int k n).sameKey (.int .i64 h)=false:=by simp [Lit.sameKey,hk]
   grind
 |_=>rfl
theorem RP {us:bB Value} {h:Int}:p4 (dg us) (.int .i64 h) none=dg (del h us):=by
 funext x
 unfold p4 dg
 cases x with
 |int k n=>
   by_cases hk:k=.i64
   ·subst hk
    simp only [Lit.sameKey,true_and,decide_eq_true_eq]
    rw [wG]
   grind
 |_=>rfl
structure agr (TT:TypeId) (t m base:Nat) (v:Value) (l:List Int) (next most aL:Int) (us:bB Value) (w:World):Prop where
 aD:w.heap[t]?=some (.cells #[.int .i64 most,.int .i64 aL,.map (some m),v,.int .i64 next] TT (0,0))
 map:kH Tryz.prog 3 w m (dg us) us.length
 own:w.ownsRow base 3 1 v l.length (bG l)
 ti:TI next l us
 yQ:(us.length:Int)<=most
 yR:most<=1024
 yS:next<=most+1
 tt:TT≠3
 bt:base<=t
 bm:base<=m
 Be:0<=aL/\aL<=1024
def Tab (TT:TypeId) (t m base:Nat) (row:Option Nat) (most aL:Int) (us:bB Value) (w:World):Prop:=
 ∃v l next,agr TT t m base v l next most aL us w/\v.ownBlock=row
section tab
variable {TT:TypeId} {t m base:Nat} {v:Value} {l:List Int} {next most aL:Int} {us:bB Value} {w w':World} {row:Option Nat}
end tab
theorem aW.ofB {P:Program} {β:Bs} {f:FuncId} {args:Array Value} {pre:List HP} {post:Value->List HP->Prop}
 (h:∀F w,(Proofs.YtfececghhgeapaaGreatDoor.gq pre).h F w->Calls P f args w λe w'=>∃v l,e=.returned v/\post v l/\∃F',(Proofs.YtfececghhgeapaaGreatDoor.gq l).h F' w'/\Step F w F' w'):aW P β f args pre post:=by
 intro R w hS
 have h1:aQ β ([.abs (Proofs.YtfececghhgeapaaGreatDoor.gq pre)]++[.abs R]) w:=aQ.turn (aQ.turn hS).gq
 have h2:aW P β f args [.abs (Proofs.YtfececghhgeapaaGreatDoor.gq pre)] (λv l=>∃l0,post v l0/\l=[.abs (Proofs.YtfececghhgeapaaGreatDoor.gq l0)]):=
  aW.of1 (λF w hF=>(h F w hF).mono λ_ _ ⟨v,l,e,hp,hF'⟩=>⟨v,.abs (Proofs.YtfececghhgeapaaGreatDoor.gq l),e,⟨l,hp,rfl⟩,hF'⟩)
 refine (h2 R w h1).mono ?_
 rintro e w' ⟨v,l,he,⟨l0,hp,rfl⟩,yD⟩
 exact⟨v,l0,he,hp,aQ.turn (aQ.turn yD).rP⟩
theorem M8 {p q:HP} {F:Fp} {w:World}:(gq [p,q]).h F w↔∃F1 F2,p.h F1 w/\q.h F2 w/\Apart F1 F2/\∀k,F k↔F1 k\/F2 k:=by
 constructor
 ·rintro⟨φ,h1,h2,h3⟩
  refine⟨φ 0,φ 1,h1 0 p rfl,h1 1 q rfl,h2 0 1 nh nh d8,λk=>(h3 k).trans ⟨λ⟨i,hi,hk⟩=>?_,λh=>?_⟩⟩
  all_goals grind
 rintro⟨F1,F2,h1,h2,h3,h4⟩
 refine⟨λi=>if i=0 then F1 else F2,λi x hx=>?_,λi j hi hj cG=>?_,λk=>(h4 k).trans ⟨λh=>?_,λ⟨i,hi,hk⟩=>?_⟩⟩
 ·grind
 ·grind [gq,Apart]
 ·rcases h with h|h
  ·exact⟨0,nh,h⟩
  exact⟨1,nh,h⟩
 grind
theorem aQ.afF {β:Bs} {l:List HP} {w:World} {A:eG} {ι:Type} {Φ:ι->Prop} {L:ι->List HP} (h:aQ β (l++[.abs A]) w) (hA:∀F,A.h F w->∃i,Φ i/\(Proofs.YtfececghhgeapaaGreatDoor.gq (L i)).h F w):∃i,Φ i/\aQ β (l++L i) w:=by
 obtain⟨F,hF⟩:=h.get (i:=l.length) (p:=.abs A) nh
 have h0:=h
 obtain⟨ho,φ,h1,h2,h3⟩:=h
 obtain⟨i,hi,hB⟩:=hA _ (h1 l.length (.abs A) nh)
 refine⟨i,hi,aQ.rP ⟨ho,φ,λj p hp=>?_,λj hj=>h2 j (by simpa using hj),λa b ha hb=>h3 a b (by simpa using ha) (by simpa using hb)⟩⟩
 by_cases e:j<l.length
 ·grind
 have hj:j=l.length:=by have:=dG hp;simp at this;omega
 subst hj
 simp at hp
 subst hp
 exact hB
theorem aQ.adS {β:Bs} {l R:List HP} {w:World} {A:eG} (h:aQ β (l++R) w) (hA:∀F,(Proofs.YtfececghhgeapaaGreatDoor.gq R).h F w->A.h F w):aQ β (l++[.abs A]) w:=by
 obtain⟨ho,φ,h1,h2,h3⟩:=h.gq
 refine⟨ho,φ,λj p hp=>?_,λj hj=>h2 j (by simpa using hj),λa b ha hb=>h3 a b (by simpa using ha) (by simpa using hb)⟩
 by_cases e:j<l.length
 ·grind
 have hj:j=l.length:=by have:=dG hp;simp at this;omega
 subst hj
 simp at hp
 subst hp
 exact hA _ (h1 l.length (.abs (Proofs.YtfececghhgeapaaGreatDoor.gq R)) nh)
section rules
variable {P:Program} {β:Bs} {N:fN} {ops:Array Oper} {k:Nat} {fr:Fr} {aB:List HP} {Q:Post} {c:Code} {e:Exit}
theorem ax.HB {ι:Type} {Φ:ι->Prop} {hp:ι->List HP} (h:∀w,aQ β aB w->∃i,Φ i/\aQ β (hp i) w) (K:∀i,Φ i->ax P β N c fr (hp i) Q):ax P β N c fr aB Q:=λav w hS=>let ⟨i,hi,iA⟩:=h w hS;K i hi av w iA
end rules
theorem DZ {w:World} {t j:Nat} {cs:List Value} {T:TypeId} {u:Value} (h:w.heap[t]?=some (.cells ⟨cs⟩ T (0,0))):(w.setCell ⟨t,j,none⟩ u).heap[t]?=some (.cells ⟨cs.set j u⟩ T (0,0)):=by
 simp [World.setCell,Array.getElem?_modify,h,Array.setIfInBounds_def]
 exact λh=>(List.set_eq_of_length_le h).symm
theorem adT {β:Bs} {T:TypeId} {a b c e:Value} {t g cap n:Nat} {l:List Int} (hl:l.length=n+1) (hp:Hp (n+1) l) (hi:Eu l) (hm:n+1<=1048576) :
 aW Tryz.prog β 239 #[.iface 342 (.pointer (some ⟨t,3,none⟩))] [.aD t [a,b,c,.slice (some ⟨g,0,none⟩) l.length cap,e] T,.abs (aK 3 1 (some ⟨g,0,none⟩) l.length cap (bG l))]
  (λv r=>v=.iface 3 (.int .i64 (at_ l 0))/\∃l':List Int,l'.length=n/\Hp n l'/\Eu l'/\(∀x,x∈l'↔x∈l/\x≠at_ l 0)/\r=[.aD t [a,b,c,.slice (some ⟨g,0,none⟩) n cap,e] T,.abs (aK 3 1 (some ⟨g,0,none⟩) n cap (bG l'))]):=by
 refine aW.ofB (λF w h=>?_)
 obtain⟨F1,F2,⟨h1,h2⟩,hr,hap,hF⟩:=M8.1 h
 have hr:(aK 3 1 (some ⟨g,0,none⟩) l.length cap (bG l)).h F2 w:=hr
 obtain⟨hr1,hr2⟩:=hr
 have hg:F2 g:=(hr2 g).2 rfl
 have cG:t≠g:=λe=>hap t ((h2 t).2 rfl) (e ▸ hg)
 have hc:w.cell? ⟨t,3,none⟩=some (.slice (some ⟨g,0,none⟩) l.length cap)/\w.frozen? ⟨t,3,none⟩=false:=lq h1 rfl rfl rfl
 have hW:HW t 3 g cap 0 l w:=⟨hc.1,hr1,cG,lt_of_some h1⟩
 refine (Zn t 3 g cap 0 n l w hW hl hp hi hm hc.2).mono ?_
 rintro e' w' ⟨rfl,l',w1,g1,g2,g3,g4,g5,g6,rfl⟩
 have h1':w1.heap[t]?=some (.cells ⟨[a,b,c,.slice (some ⟨g,0,none⟩) l.length cap,e]⟩ T (0,0)):=(g6.block t (lt_of_some h1) (λe=>cG e)).trans h1
 have hks:cK (·=t) w1 (w1.setCell ⟨t,3,none⟩ (.slice (some ⟨g,0,none⟩) n cap)):=(cK.refl (·=t) w1).setCell (p:=⟨t,3,none⟩) (.inr rfl) _
 refine⟨_,_,rfl,⟨rfl,l',g1,g2,g3,g4,rfl⟩,F,M8.2 ⟨F1,F2,⟨DZ h1',h2⟩,⟨hks.ownsRow g5 (λk hk e=>?_),λk=>?_⟩,hap,hF⟩,⟨((g6.mono (S':=F) (λk _ e=>(hF k).2 (.inr (e ▸ hg)))).trans (hks.mono (λk _ e=>(hF k).2 (.inl ((h2 k).2 e))))),λ_ h=>.inl h⟩⟩
 ·cases hk;exact cG e.symm
 rw [hr2 k];simp [Value.ownBlock]
theorem acH {β:Bs} {T:TypeId} {a b c e:Value} {t cap:Nat} {A:Option Addr} {l:List Int} (x:Int) (hp:Hp l.length l) (hm:l.length+1<=1048576) :
 aW Tryz.prog β 237 #[.iface 342 (.pointer (some ⟨t,3,none⟩)),.iface 3 (.int .i64 x)] [.aD t [a,b,c,.slice A l.length cap,e] T,.abs (aK 3 1 A l.length cap (bG l))]
  (λv r=>v=.tuple #[]/\∃(g c':Nat) (l':List Int),Same (l++[x]) l'/\Hp l'.length l'/\r=[.aD t [a,b,c,.slice (some ⟨g,0,none⟩) l'.length c',e] T,.abs (aK 3 1 (some ⟨g,0,none⟩) l'.length c' (bG l'))]):=by
 refine aW.ofB (λF w h=>?_)
 obtain⟨F1,F2,⟨h1,h2⟩,hr,hap,hF⟩:=M8.1 h
 have hr:(aK 3 1 A l.length cap (bG l)).h F2 w:=hr
 obtain⟨hr1,hr2⟩:=hr
 have hc:w.cell? ⟨t,3,none⟩=some (.slice A l.length cap)/\w.frozen? ⟨t,3,none⟩=false:=lq h1 rfl rfl rfl
 have cG:(Value.slice A l.length cap).ownBlock≠some t:=λe=>hap t ((h2 t).2 rfl) ((hr2 t).2 e)
 refine (Wf t 3 0 (.slice A l.length cap) l x w hc.1 hc.2 hr1 cG hm (L4 _) hp (lt_of_some h1)).mono ?_
 rintro e' w' ⟨rfl,g,c',l',g1,g2,g3,g4,w1,g5,g6⟩
 have RQ:t≠g:=g3.ne
 have jT:l'.length=l.length+1:=by have:=g1.len;simp at this;omega
 have h1':w1.heap[t]?=some (.cells ⟨[a,b,c,.slice A l.length cap,e]⟩ T (0,0)):=(g5.block t (lt_of_some h1) cG).trans h1
 have adU:=DZ (j:=3) (u:=.slice (some ⟨g,0,none⟩) (l.length+1) c') h1'
 have ags:w'.heap[t]?=some (.cells ⟨[a,b,c,.slice (some ⟨g,0,none⟩) l'.length c',e]⟩ T (0,0)):=by
  rw [jT];exact (g6.block t (lt_of_some adU) RQ).trans adU
 have hks:cK (·=t) w1 (w1.setCell ⟨t,3,none⟩ (.slice (some ⟨g,0,none⟩) (l.length+1) c')):=(cK.refl (·=t) w1).setCell (p:=⟨t,3,none⟩) (.inr rfl) _
 refine⟨_,_,rfl,⟨rfl,g,c',l',g1,g2,rfl⟩,λk=>F1 k\/k=g,M8.2 ⟨F1,λk=>k=g,⟨ags,h2⟩,⟨g3.own,λk=>?_⟩,λk hk e=>RQ (((h2 k).1 hk).symm.trans e),λk=>Iff.rfl⟩,⟨?_,λk hk=>?_⟩⟩
 ·simp [Value.ownBlock,eq_comm]
 ·have k1:cK F w w1:=g5.mono (λk _ hk=>(hF k).2 (.inr ((hr2 k).2 hk)))
  have k2:cK F w (w1.setCell ⟨t,3,none⟩ (.slice (some ⟨g,0,none⟩) (l.length+1) c')):=k1.trans (hks.mono (λk _ e=>(hF k).2 (.inl ((h2 k).2 e))))
  exact k2.andThen g6 (λi hi e=>by
   rcases g4 with g4|g4
   ·exact (hF i).2 (.inr ((hr2 i).2 (e ▸ g4)))
   subst e;omega)
 rcases hk with hk|rfl
 ·exact .inl ((hF k).2 (.inl hk))
 rcases g4 with g4|g4
 ·exact .inl ((hF _).2 (.inr ((hr2 _).2 g4)))
 exact .inr g4
structure lE (next:Int) (l:List Int) (us:bB Value) (most aL:Int):Prop where
 ti:TI next l us
 yQ:(us.length:Int)<=most
 yR:most<=1024
 yS:next<=most+1
 Dk:next<=aL+1
 Be:0<=aL/\aL<=1024
theorem lE.Og {next:Int} {l:List Int} {us:bB Value} {most aL:Int} (h:lE next l us most aL):1<=aI.aS us/\aI.aS us<=next/\aI.aS us∉aY us/\next<=1025/\1<=next/\us.length<=1024/\l.length<=1024:=by
 obtain⟨h1,h2,h3⟩:=qK (aY us) 1 h.ti.fP (λx hx=>(h.ti.pos x hx).1)
 have hc:=h.ti.count
 have m0:=h.yQ
 have m1:=h.yR
 have n1:=h.yS
 refine⟨h1,?_,h2,d5,d5,d5,d5⟩
 rcases Int.lt_or_le next (aI.aS us) with h4|h4
 ·have:=h3 next d5 h4
  have:=(h.ti.pos _ this).2
  omega
 exact h4
theorem Oh:dg []=λ_=>none:=by
 funext x
 unfold dg
 split<;>rfl
theorem LI {us:bB Value} {h:Int} (hn:h∉aY us):dg us (.int .i64 h)=none:=get_none.2 hn
structure TX where
 m:Nat
 A:Option Addr
 c:Nat
 l:List Int
 next:Int
def rJ (TT:TypeId) (t:Nat) (most aL:Int) (us:bB Value) (x:TX):List HP:=
 [.aD t [.int .i64 most,.int .i64 aL,.map (some x.m),.slice x.A x.l.length x.c,.int .i64 x.next] TT,.abs (bK Tryz.prog 3 x.m (dg us) us.length),.abs (aK 3 1 x.A x.l.length x.c (bG x.l))]
def ia (TT:TypeId) (t:Nat) (most aL:Int) (us:bB Value):eG where
 h F w:=∃x:TX,lE x.next x.l us most aL/\(gq (rJ TT t most aL us x)).h F w
 lt:=λ⟨_,_,h⟩ k hk=>eG.lt _ h k hk
 st:=λ⟨x,h1,h⟩ _ _ hk hn=>⟨x,h1,eG.st _ h hk hn⟩
theorem aQ.wH {β:Bs} {TT:TypeId} {t:Nat} {most aL:Int} {us:bB Value} {l:List HP} {w:World} (h:aQ β (l++[.abs (ia TT t most aL us)]) w):∃x:TX,lE x.next x.l us most aL/\aQ β (l++rJ TT t most aL us x) w:=
 h.afF (λ_ h=>h)
theorem aQ.rK {β:Bs} {TT:TypeId} {t:Nat} {most aL:Int} {us:bB Value} {l:List HP} {w:World} (x:TX) (hx:lE x.next x.l us most aL) (h:aQ β (l++rJ TT t most aL us x) w):aQ β (l++[.abs (ia TT t most aL us)]) w:=
 h.adS (λ_ h=>⟨x,hx,h⟩)
end
section
open Go.RowKit Go.Maps Go.Sort Go.Shelf bw aI
theorem mo {z:Int} (h:(Lit.int .i64 z).wf=true):keyOf Tryz.prog 3 (.int .i64 z)=some (.int .i64 z):=
 keyOf_int_mk Tryz.underlying3 h
theorem LJ:∀{l m:List Int},l.Pairwise (· < ·)->m.Pairwise (· < ·)->(∀z,z∈l↔z∈m)->l=m
 |[],[],_,_,_=>rfl
 |[],b::m,_,_,h=>by have:=(h b).2 (T5 ..);cases this
 |a::l,[],_,_,h=>by have:=(h a).1 (T5 ..);cases this
 |a::l,b::m,hl,hm,h=>by
   have hl':=ahP.1 hl
   have hm':=ahP.1 hm
   have e:a=b:=by
    rcases ahK.1 ((h a).1 (T5 ..)) with e|e
    ·exact e
    rcases ahK.1 ((h b).2 (T5 ..)) with e2|e2
    ·exact e2.symm
    have:=hm'.1 a e;have:=hl'.1 b e2;omega
   subst e
   congr 1
   refine LJ hl'.2 hm'.2 (λz=>⟨λhz=>?_,λhz=>?_⟩)
   ·rcases ahK.1 ((h z).1 (T4 _ hz)) with e|e
    ·have:=hl'.1 z hz;omega
    exact e
   rcases ahK.1 ((h z).2 (T4 _ hz)) with e|e
   ·have:=hm'.1 z hz;omega
   exact e
theorem TL (x y:Int):(if y>x then y else x)=max x y:=by
 rw [Int.max_def];split<;>split<;>omega
theorem abC (x y:Int):(if y<x then y else x)=min x y:=by
 rw [Int.min_def];split<;>split<;>omega
theorem adV (m:Nat):AnyZI.SortsIn Tryz.prog Tryz.sortedI_ren Fence.wide m:=
 ⟨λaD off cap ss W hH hblk eT=>callsIn_wide.2 (AnyM.slices_Sort_int Tryz.sortI aD off cap ss W hH hblk eT),
  λp cap W=>callsIn_wide.2 (AnyM.slices_Sort_int_none Tryz.sortI p cap W)⟩
def Jc (bk:Nat):Value:=.func (.func 105) #[] #[.pointer (some ⟨bk,0,none⟩)]
theorem Oi {β:Bs} (mb:Option Nat):aW Tryz.prog β 72 #[.map mb] [] (λv l=>∃bk,v=Jc bk/\l=[.aD bk [.map mb] 170]):=
 aW.Ni λW _=>by
  have h:CallsIn Fence.wide 5 Tryz.prog 72 #[.map mb] W λe w'=>e=.returned (Jc W.heap.size)/\w'=W.alloc (.cells #[.map mb] 170):=AnyZI.keys_in Tryz.keysI Fence.wide 5 trivial rfl mb W
  refine ((callsIn_wide (n:=5)).1 h).mono ?_
  rintro e w' ⟨rfl,rfl⟩
  refine⟨_,_,rfl,⟨W.heap.size,rfl,rfl⟩,(cK.refl _ _).alloc _,λk=>k=W.heap.size,⟨?_,λk=>Iff.rfl⟩,λk hk=>Nat.le_of_eq hk.symm⟩
  show (W.heap.push _)[W.heap.size]?=_
  simp
structure KeysOf (f:Lit->Option Value) (ss:List Int):Prop where
 mem:∀z,z∈ss↔(f (.int .i64 z)).isSome=true
 sorted:ss.Pairwise (· < ·)
theorem TM {w:World} {b n:Nat} {K:TypeId} {f:Lit->Option Value} {D:DataW Value} (hK:Tryz.prog.underlying K=some (.int .i64)) (L:Keyed Tryz.prog K) (qm:w.ownsMap Tryz.prog K yM b n D) (hf:∀kl,Maps.has D kl=(f kl).isSome) {ss:List Int} (hp:ss.Perm (intKeys D)) :
 KeysOf f (ss.mergeSort (λx y=>decide (x<=y))):=by
 obtain⟨es,hD,hpw,_⟩:=qm.entries L
 obtain⟨es',hD',hko⟩:=qm.keysOf
 obtain rfl:es=es':=by rw [hD] at hD';simpa using hD'
 have hk:∀p∈es,∃x,p.1=.int .i64 x:=λp hp=>by
  obtain⟨v,hv⟩:=hko p hp
  obtain⟨x,_,h,_⟩:=keyOf_i64 hK hv
  exact⟨x,h⟩
 have hmem:∀z,z∈intKeys D↔(f (.int .i64 z)).isSome=true:=λz=>by
  rw [←hf,hD]
  show z∈es.map (λp=>Go.intOf p.1)↔es.any (λp=>p.1.sameKey (.int .i64 z))=true
  rw [ahN,List.any_eq_true]
  refine⟨λ⟨p,hp,e⟩=>⟨p,hp,?_⟩,λ⟨p,hp,e⟩=>⟨p,hp,?_⟩⟩
  ·obtain⟨x,hx⟩:=hk p hp
   rw [hx] at e ⊢
   have e:x=z:=e
   simp [Lit.sameKey,e]
  obtain⟨x,hx⟩:=hk p hp
  rw [hx] at e ⊢
  show x=z
  simpa [Lit.sameKey] using e
 have hnd:(intKeys D).Nodup:=by
  rw [hD]
  show (es.map λp=>Go.intOf p.1).Nodup
  rw [List.nodup_iff_pairwise_ne,List.pairwise_map]
  refine hpw.imp_of_mem (λ{p q} hp hq cG e=>cG ?_)
  obtain⟨x,hx⟩:=hk p hp
  obtain⟨y,hy⟩:=hk q hq
  rw [hx,hy] at e ⊢
  have e:x=y:=e
  rw [e]
 have tr:∀a b c:Int,decide (a<=b)=true->decide (b<=c)=true->decide (a<=c)=true:=gn
 have to:∀a b:Int,(decide (a<=b) || decide (b<=a))=true:=gn
 have hperm:=(List.mergeSort_perm ss (λx y=>decide (x<=y))).trans hp
 refine⟨λz=>by rw [hperm.mem_iff,hmem],?_⟩
 have h1:=List.pairwise_mergeSort tr to ss
 have h2:(ss.mergeSort (λx y=>decide (x<=y))).Nodup:=hperm.nodup_iff.2 hnd
 rw [List.nodup_iff_pairwise_ne] at h2
 refine (h1.and h2).imp (λ{a b} h=>?_)
 grind
theorem Jd {β:Bs} (b bk n:Nat) (f:Lit->Option Value) (hn:n<=16777216) :
 aW Tryz.prog β 71 #[Jc bk] [.abs (bK Tryz.prog 3 b f n),.aD bk [.map (some b)] 170] (λv l=>∃A cap ss,v=.slice A ss.length cap/\KeysOf f ss/\ss.length=n ∧
  l=[.abs (bK Tryz.prog 3 b f n),.aD bk [.map (some b)] 170,.abs (aK 3 1 A ss.length cap (bG ss))]):=by
 intro R w hS
 obtain⟨F1,h1⟩:=hS.get (i:=0) (p:=.abs (bK Tryz.prog 3 b f n)) rfl
 obtain⟨F2,h2⟩:=hS.get (i:=1) (p:=.aD bk [.map (some b)] 170) rfl
 obtain⟨D,qm,eT,hhas,_⟩:=h1.1
 have hcell:w.cell? ⟨bk,0,none⟩=some (.map (some b)):=(lq h2.1 rfl rfl rfl).1
 have hseq:SeqGives Fence.wide 2 Tryz.prog 105 #[.pointer (some ⟨bk,0,none⟩)] encZ (λss=>ss.Perm (intKeys D)) (Maps.size D) w:=
  AnyZI.keys_gives (ρ:=Tryz.keysI_ren) {Tryz.keysI with} Fence.wide _ trivial rfl d5 bk b n D w (lt_of_some h2.1) hcell qm
 have cS:=AnyZI.sorted_in Tryz.sortedI Fence.wide 5 trivial trivial trivial trivial rfl d5 (adV _) (enters_of Tryz.func104 d6 rfl) 105 #[.pointer (some ⟨bk,0,none⟩)] trivial (enters_of Tryz.func105 d6 rfl) _ _ (by rw [eT];unfold maxLen;omega) (by rw [eT];omega) _ hseq
 change CallsIn _ _ Tryz.prog 71 _ _ _ at cS
 refine ((callsIn_wide (n:=5)).1 cS).mono ?_
 rintro e w' ⟨v,ss,rfl,hp,hrow,hnil,hb⟩
 have jT:(ss.mergeSort (λx y=>decide (x<=y))).length=ss.length:=List.length_mergeSort ss
 have hkeys:=TM Tryz.underlying3 ja qm hhas hp
 have Eb:∃A cap,v=.slice A ss.length cap:=by
  rcases hrow.2 with ⟨e1,e2⟩|⟨g,cp,cur,e1,_⟩
  all_goals grind
 obtain⟨A,cap,rfl⟩:=Eb
 have hn1:ss.length=n:=by
  rw [hp.length_eq,←eT]
  obtain⟨es,hD,_⟩:=qm.entries ja
  rw [hD]
  exact ahQ ..
 have hq:aQ β ([.abs (bK Tryz.prog 3 b f n),.aD bk [.map (some b)] 170,.abs R]++[.abs (aK 3 1 A ss.length cap (bG (ss.mergeSort (λx y=>decide (x<=y)))))]) w':=by
  refine aQ.new (F:=λk=>(Value.slice A ss.length cap).ownBlock=some k) hS ⟨?_,λk=>Iff.rfl⟩ ⟨hb.os,hb.tape,hb.output,hb.size,λk hk _=>hb.block k hk⟩ (λk hk=>(hrow.lt k hk).1)
  refine⟨hrow.1,?_⟩
  rcases hrow.2 with h|⟨g,cp,cur,e1,_,h3,h4⟩
  ·exact .inl h
  exact .inr ⟨g,cp,cur,e1,L4 _,h3,h4⟩
 exact⟨_,[.abs (bK Tryz.prog 3 b f n),.aD bk [.map (some b)] 170,.abs (aK 3 1 A ss.length cap (bG (ss.mergeSort (λx y=>decide (x<=y)))))],rfl,⟨A,cap,ss.mergeSort (λx y=>decide (x<=y)),by rw [jT],hkeys,by rw [jT];exact hn1,by rw [jT]⟩,hq.pick (ay:=[0,1,3,2]) rfl rfl⟩
end
section
open Go.RowKit bw aI Go.Maps
attribute [local irreducible] aE bH ax aF lQ
theorem RR {us:bB Value} {ss:List Int} (hr:aI.dK (aY us)) (h:KeysOf (dg us) ss):ss=aY us:=by
 refine LJ h.sorted hr (λz=>?_)
 rw [h.mem]
 show (aI.get us z).isSome=true↔z∈aY us
 refine⟨λh=>?_,λh=>?_⟩
 ·obtain⟨x,hx⟩:=Option.isSome_iff_exists.1 h;exact get_some hx
 cases hg:aI.get us z with
 |some x=>rfl
 |none=>exact KB h (get_none.1 hg)
theorem Zq {β:Bs} (most:Int) :
 aW Tryz.prog β 79 #[vI (most)] [] (λv l=>∃t,v=vP t/\l=[.abs (ia 233 t (min (max most 0) 1024) 0 [])]):=by
 exact SE Tryz.func79 Tryz.ntmps79 (λR=>SR (jK 1 [] [] (NS (jK 3 [5] [(1,w_ (.int .i64 (max most 0)) (zc (Value.int .i64) (TL _ _))),(2,w_ (.int .i64 (min (max most 0) 1024)) (zc (Value.int .i64) (abC _ _)))] (aE.sK (d:=(some 6)) (t:=170) (λ_=>d6) Tryz.prog rfl 3 (λm1=>jB 3 [2] (λb2=>.aD b2 [vI (min (max most 0) 1024),vI 0,.map (some m1),.slice none (0) (0),vI 1] 233) (λb2=>NN (ax.ret (aF.mem (λw hS=>hS.nW (e:=3) (size:=1)) (aF.mem (fY:=[.abs R,.abs (ia 233 b2 (min (max most 0) 1024) 0 [])]) (λw hS=>aQ.rK (l:=[.abs R]) ⟨m1,none,0,[],1⟩ ⟨TI.empty,gn,d5,gn,by show (1:Int)<=0+1;decide,d8⟩ (by rw [←Oh] at hS;exact hS.pick (ay:=[0,2,1,3]) (l':=[.abs R]++rJ 233 b2 (min (max most 0) 1024) 0 [] ⟨m1,none,0,[],1⟩) rfl rfl)) (RT _ [1,0] (⟨b2,rfl,rfl⟩))))))))))))
theorem Wg {β:Bs} (t:Nat) (most aL:Int) (us:bB Value) :
 aW Tryz.prog β 75 #[vP t] [.abs (ia 233 t most aL us)] (λv l=>v=vI aL/\l=[.abs (ia 233 t most aL us)]):=by
 refine SE Tryz.func75 Tryz.ntmps75 (λR=>ax.seq (ax.HB (Φ:=λx:TX=>lE x.next x.l us most aL) (hp:=λx=>[.abs R]++rJ 233 t most aL us x) (λw hS=>(hS.pick (ay:=[1,0]) (l':=[.abs R]++[.abs (ia 233 t most aL us)]) rfl rfl).wH) (λx hT=>?_)))
 obtain⟨m,A,c,l,next⟩:=x
 replace hT:lE next l us most aL:=hT
 have hb:=hT.Og
 have hm0:=hT.yQ
 have hm1:=hT.yR
 have hn1:=hT.yS
 have hn2:=hT.Dk
 have Oj:=hT.Be
 have hct:=hT.ti.count
 show ax _ _ _ _ _ [.abs R,.aD t [vI (most),vI (aL),.map (some m),.slice A (l.length) (c),vI (next)] 233,.abs (bK Tryz.prog 3 m (dg us) us.length),.abs (aK 3 1 A l.length c (bG l))] _
 exact ax.region (jK 1 [] [] (NS (jK 5 [2] [(3,a_ 1 t)] (NN (ax.ret (aF.mem (λw hS=>aQ.rK (l:=[.abs R]) ⟨m,A,c,l,next⟩ (show lE (next) l (us) most (aL) from hT) (hS.pick (ay:=[0,1,2,3]) (l':=[.abs R]++rJ 233 t most (aL) (us) ⟨m,A,c,l,next⟩) rfl rfl)) (RT _ [1,0] (⟨rfl,rfl⟩))))))))
theorem HE {β:Bs} (t:Nat) (most aL:Int) (us:bB Value) (h:Int) (hw:(Lit.int .i64 h).wf=true) (x:Value) (hg:aI.get us h=some x) :
 aW Tryz.prog β 226 #[vP t,vI (h)] [.abs (ia 233 t most aL us)] (λv l=>v=.tuple #[x,vI 0]/\l=[.abs (ia 233 t most aL us)]):=by
 refine SE Tryz.func226 Tryz.ntmps226 (λR=>ax.seq (ax.HB (Φ:=λx:TX=>lE x.next x.l us most aL) (hp:=λx=>[.abs R]++rJ 233 t most aL us x) (λw hS=>(hS.pick (ay:=[1,0]) (l':=[.abs R]++[.abs (ia 233 t most aL us)]) rfl rfl).wH) (λx hT=>?_)))
 obtain⟨m,A,c,l,next⟩:=x
 replace hT:lE next l us most aL:=hT
 have hb:=hT.Og
 have hm0:=hT.yQ
 have hm1:=hT.yR
 have hn1:=hT.yS
 have hn2:=hT.Dk
 have Oj:=hT.Be
 have hct:=hT.ti.count
 show ax _ _ _ _ _ [.abs R,.aD t [vI (most),vI (aL),.map (some m),.slice A (l.length) (c),vI (next)] 233,.abs (bK Tryz.prog 3 m (dg us) us.length),.abs (aK 3 1 A l.length c (bG l))] _
 exact ax.region (jK 2 [] [] (NS (jK 5 [12,13] [(3,a_ 1 t)] (aE.AR 2 (d:=(some 14)) (t:=170) (K:=3) (E:=175) (b:=m) (n:=us.length) (f:=(dg us)) (x:=(.tmp 12)) (ix:=(.tmp 13)) (key:=vI (h)) (z:=.nilIface) (kl:=(.int .i64 h)) (r:=(some x)) (λ_=>d6) d6 (λ_=>d6) (λ_=>d6) ja Tryz.underlying170 (λ_=>d6) (mo hw) (hg) (jK 5 [6,7] [] (NZ (jK 2 [18] [] (NF (KX (SR (jK 3 [4,5] [] (NN (ax.ret (aF.mem (λw hS=>aQ.rK (l:=[.abs R]) ⟨m,A,c,l,next⟩ (show lE (next) l (us) most (aL) from hT) (hS.pick (ay:=[0,1,2,3]) (l':=[.abs R]++rJ 233 t most (aL) (us) ⟨m,A,c,l,next⟩) rfl rfl)) (RT _ [1,0] (⟨rfl,rfl⟩))))))))))))))))
theorem LK {β:Bs} (t:Nat) (most aL:Int) (us:bB Value) (h:Int) (hw:(Lit.int .i64 h).wf=true) (hg:aI.get us h=none) :
 aW Tryz.prog β 226 #[vP t,vI (h)] [.abs (ia 233 t most aL us)] (λv l=>v=.tuple #[.nilIface,vI 131]/\l=[.abs (ia 233 t most aL us)]):=by
 refine SE Tryz.func226 Tryz.ntmps226 (λR=>ax.seq (ax.HB (Φ:=λx:TX=>lE x.next x.l us most aL) (hp:=λx=>[.abs R]++rJ 233 t most aL us x) (λw hS=>(hS.pick (ay:=[1,0]) (l':=[.abs R]++[.abs (ia 233 t most aL us)]) rfl rfl).wH) (λx hT=>?_)))
 obtain⟨m,A,c,l,next⟩:=x
 replace hT:lE next l us most aL:=hT
 have hb:=hT.Og
 have hm0:=hT.yQ
 have hm1:=hT.yR
 have hn1:=hT.yS
 have hn2:=hT.Dk
 have Oj:=hT.Be
 have hct:=hT.ti.count
 show ax _ _ _ _ _ [.abs R,.aD t [vI (most),vI (aL),.map (some m),.slice A (l.length) (c),vI (next)] 233,.abs (bK Tryz.prog 3 m (dg us) us.length),.abs (aK 3 1 A l.length c (bG l))] _
 exact ax.region (jK 2 [] [] (NS (jK 5 [12,13] [(3,a_ 1 t)] (aE.AR 2 (d:=(some 14)) (t:=170) (K:=3) (E:=175) (b:=m) (n:=us.length) (f:=(dg us)) (x:=(.tmp 12)) (ix:=(.tmp 13)) (key:=vI (h)) (z:=.nilIface) (kl:=(.int .i64 h)) (r:=none) (λ_=>d6) d6 (λ_=>d6) (λ_=>d6) ja Tryz.underlying170 (λ_=>d6) (mo hw) (hg) (jK 5 [6,7] [] (NZ (jK 2 [18] [] (NT (SR (jK 3 [4,5] [] (NN (ax.ret (aF.bq (aF.mem (λw hS=>aQ.rK (l:=[.abs R]) ⟨m,A,c,l,next⟩ (show lE (next) l (us) most (aL) from hT) (hS.pick (ay:=[0,1,2,3]) (l':=[.abs R]++rJ 233 t most (aL) (us) ⟨m,A,c,l,next⟩) rfl rfl)) (RT _ [1,0] (⟨rfl,rfl⟩))))))))))))))))
theorem Ey {β:Bs} (t:Nat) (most aL:Int) (us:bB Value) (x:Value) (hf:most<=(us.length:Int)) :
 aW Tryz.prog β 233 #[vP t,x] [.abs (ia 233 t most aL us)] (λv l=>v=.tuple #[vI 0,vI 130]/\l=[.abs (ia 233 t most aL us)]):=by
 refine SE Tryz.func233 Tryz.ntmps233 (λR=>ax.seq (ax.HB (Φ:=λx:TX=>lE x.next x.l us most aL) (hp:=λx=>[.abs R]++rJ 233 t most aL us x) (λw hS=>(hS.pick (ay:=[1,0]) (l':=[.abs R]++[.abs (ia 233 t most aL us)]) rfl rfl).wH) (λx hT=>?_)))
 obtain⟨m,A,c,l,next⟩:=x
 replace hT:lE next l us most aL:=hT
 have hb:=hT.Og
 have hm0:=hT.yQ
 have hm1:=hT.yR
 have hn1:=hT.yS
 have hn2:=hT.Dk
 have Oj:=hT.Be
 have hct:=hT.ti.count
 show ax _ _ _ _ _ [.abs R,.aD t [vI (most),vI (aL),.map (some m),.slice A (l.length) (c),vI (next)] 233,.abs (bK Tryz.prog 3 m (dg us) us.length),.abs (aK 3 1 A l.length c (bG l))] _
 exact ax.region (jK 2 [] [] (NN (ax.seq (ax.seq (rQ (jQ 4 [10] [(3,a_ 1 t)] (bH.Co 2 (d:=(some 11)) (t:=170) (K:=3) (E:=175) (b:=m) (n:=us.length) (f:=(dg us)) (x:=(.tmp 10)) (ats:=#[170]) (λ_=>d6) d6 (λ_=>d6) rfl Tryz.underlying170 (jQ 5 [16] [(3,a_ 1 t)] (NQ (NX (cP ((((us.length:Nat):Int):Int)>=(most:Int)) (λpz=>SR (jK 2 [4,5] [] (NN (ax.ret (aF.bq (aF.mem (λw hS=>aQ.rK (l:=[.abs R]) ⟨m,A,c,l,next⟩ (show lE (next) l (us) most (aL) from hT) (hS.pick (ay:=[0,1,2,3]) (l':=[.abs R]++rJ 233 t most (aL) (us) ⟨m,A,c,l,next⟩) rfl rfl)) (RT _ [1,0] (⟨rfl,rfl⟩)))))))) (λpz=>KB pz (by omega)))))))))))))
theorem HF {β:Bs} (t:Nat) (most aL:Int) (us:bB Value) (x:Value) (hf:(us.length:Int)<most) :
 aW Tryz.prog β 233 #[vP t,x] [.abs (ia 233 t most aL us)] (λv l=>v=.tuple #[vI (aS us),vI 0]/\l=[.abs (ia 233 t most (max aL ((us.length:Int)+1)) (ins (aS us) x us))]):=by
 refine SE Tryz.func233 Tryz.ntmps233 (λR=>ax.seq (ax.HB (Φ:=λx:TX=>lE x.next x.l us most aL) (hp:=λx=>[.abs R]++rJ 233 t most aL us x) (λw hS=>(hS.pick (ay:=[1,0]) (l':=[.abs R]++[.abs (ia 233 t most aL us)]) rfl rfl).wH) (λx hT=>?_)))
 obtain⟨m,A,c,l,next⟩:=x
 replace hT:lE next l us most aL:=hT
 have hb:=hT.Og
 have hm0:=hT.yQ
 have hm1:=hT.yR
 have hn1:=hT.yS
 have hn2:=hT.Dk
 have Oj:=hT.Be
 have hct:=hT.ti.count
 show ax _ _ _ _ _ [.abs R,.aD t [vI (most),vI (aL),.map (some m),.slice A (l.length) (c),vI (next)] 233,.abs (bK Tryz.prog 3 m (dg us) us.length),.abs (aK 3 1 A l.length c (bG l))] _
 refine ax.region (jK 2 [] [] (NN (ax.seq (ax.seq (rQ (jQ 4 [10] [(3,a_ 1 t)] (bH.Co 2 (d:=(some 11)) (t:=170) (K:=3) (E:=175) (b:=m) (n:=us.length) (f:=(dg us)) (x:=(.tmp 10)) (ats:=#[170]) (λ_=>d6) d6 (λ_=>d6) rfl Tryz.underlying170 (jQ 5 [16] [(3,a_ 1 t)] (NQ (NX (cP ((((us.length:Nat):Int):Int)>=(most:Int)) (λpz=>KB pz (by omega)) (λpz=>KX (SR (jK 5 [6] [(3,a_ 1 t)] (NZ (jK 6 [26] [(3,a_ 1 t)] (NN (cP ((((l.length:Nat):Int):Int)>(0:Int)) (λvY=>?_) (λvY=>?_)))))))))))))))))))
 ·refine ax.region ?_
  obtain⟨n,hn⟩:∃n,l.length=n+1:=⟨l.length-1,d5⟩
  refine aE.tell (p:=∃g,A=some ⟨g,0,none⟩) (λw hS=>let ⟨F,h⟩:=hS.get (i:=3) rfl;aK.head h d5) (λ⟨g,hg⟩=>?_)
  subst hg
  refine jK 4 [31] [] (gL (args:=#[.iface 342 (.pointer (some ⟨t,3,none⟩))]) (pre:=[.aD t [vI (most),vI (aL),.map (some m),.slice (some ⟨g,0,none⟩) (l.length) (c),vI (next)] 233,.abs (aK 3 1 (some ⟨g,0,none⟩) l.length c (bG l))]) [1,3] (adT hn (by have:=hT.ti.heap;rwa [hn] at this) hT.ti.inj d5) ?_)
  rintro _ _ ⟨rfl,l2,rfl,hp2,hi2,hm2,rfl⟩
  exact jK 5 [6] [] (NS (sl 6 (vI ((at_ l 0))) (.int .i64 ((aS us))) (by rw [hT.ti.Jb d5]) (jK 6 [46,47,48] [(3,a_ 0 t)] (aE.qF 3 (d:=none) (t:=170) (K:=3) (E:=175) (b:=m) (n:=us.length) (f:=(dg us)) (x:=(.tmp 46)) (ix:=(.tmp 47)) (y:=(.tmp 48)) (key:=vI ((aS us))) (u:=x) (kl:=(.int .i64 (aS us))) (n':=(us.length+1)) (f':=(dg (ins (aS us) x us))) (λ_=>d6) d6 (λ_=>d6) (λ_=>d6) (λ_=>d6) ja Tryz.underlying170 (by unfold maxLen;omega) (wC d5 d5) (by rw [LI hb.2.2.1];rfl) (Ku hb.2.2.1 x) (NN (ax.seq (ax.Ca 13 d6 d6 (lQ.seg (k':=9) (bQ:=[(6,vI ((aS us))),(49,vP t),(53,vI (aL)),(57,.map (some m))]) (eV:=[t=t,t=t]) [o_,o_,o_,o_,⟨[.at 0],none,none,none,none⟩,o_,o_,o_,⟨[.at 0],none,none,none,none⟩] [6,49,53,57] (λ_ _=>d6) ⟨rfl,rfl,trivial⟩ d8 (lQ.Co 3 (d:=(some 58)) (t:=170) (K:=3) (E:=175) (b:=m) (cnt:=(us.length+1)) (f:=(dg (ins (aS us) x us))) (x:=(.tmp 57)) (ats:=#[170]) (λ_=>d6) d6 (λ_=>d6) rfl Tryz.underlying170 d8 (lQ.seg (k':=13) (bQ:=[(6,vI ((aS us))),(59,vI ((max aL ((us.length:Int)+1)))),(61,.pointer (some ⟨t,1,none⟩))]) (eV:=[(Value.int .i64 (if (((us.length+1):Nat):Int)>aL then (((us.length+1):Nat):Int) else aL))=(.int .i64 ((max aL ((us.length:Int)+1))))]) [⟨[],none,none,none,some (vI ((max aL ((us.length:Int)+1))))⟩,o_,o_] [6,59,61] (λ_ _=>d6) ⟨by rw [TL];rfl,trivial⟩ d8 (lQ.done rfl (jC 1 [] [(0,a_ 0 t)] [(0,[(1,vI ((max aL ((us.length:Int)+1))))])] (NS (jK 3 [4,5] [] (NN (ax.ret (aF.jk [(3,.abs (bK Tryz.prog 3 m (dg (ins (aS us) x us)) ((ins (aS us) x us).length)))] (λw hS=>by rw [kK];exact hS) (aF.mem (λw hS=>aQ.rK (l:=[.abs R]) ⟨m,some ⟨g,0,none⟩,c,l2,next⟩ (show lE (next) l2 ((ins (aS us) x us)) most ((max aL ((us.length:Int)+1))) from ⟨by rw [hT.ti.Jb d5];exact hT.ti.Zp d5 x d5 hp2 hi2 hm2,by rw [kK];omega,d5,d5,d5,d5⟩) (hS.pick (ay:=[2,0,3,1]) (l':=[.abs R]++rJ 233 t most ((max aL ((us.length:Int)+1))) ((ins (aS us) x us)) ⟨m,some ⟨g,0,none⟩,c,l2,next⟩) rfl rfl)) (RT _ [1,0] (⟨rfl,rfl⟩))))))))))))))))))))
 refine ax.region ?_
 have hl0:l=[]:=aic d5
 have hl1:l.length=0:=by rw [hl0];rfl
 have hl2:TI next [] us:=hl0 ▸ hT.ti
 exact jC 8 [] [(3,a_ 1 t),(4,wI (next+1) ((next+1))),(7,a_ 1 t)] [(1,[(4,vI ((next+1)))])] (NS (sl 6 (vI (next)) (.int .i64 ((aS us))) (by rw [hl2.Ja]) (jK 6 [46,47,48] [(3,a_ 1 t)] (aE.qF 2 (d:=none) (t:=170) (K:=3) (E:=175) (b:=m) (n:=us.length) (f:=(dg us)) (x:=(.tmp 46)) (ix:=(.tmp 47)) (y:=(.tmp 48)) (key:=vI ((aS us))) (u:=x) (kl:=(.int .i64 (aS us))) (n':=(us.length+1)) (f':=(dg (ins (aS us) x us))) (λ_=>d6) d6 (λ_=>d6) (λ_=>d6) (λ_=>d6) ja Tryz.underlying170 (by unfold maxLen;omega) (wC d5 d5) (by rw [LI hb.2.2.1];rfl) (Ku hb.2.2.1 x) (NN (ax.seq (ax.Ca 13 d6 d6 (lQ.seg (k':=9) (bQ:=[(6,vI ((aS us))),(49,vP t),(53,vI (aL)),(57,.map (some m))]) (eV:=[t=t,t=t]) [o_,o_,o_,o_,⟨[.at 1],none,none,none,none⟩,o_,o_,o_,⟨[.at 1],none,none,none,none⟩] [6,49,53,57] (λ_ _=>d6) ⟨rfl,rfl,trivial⟩ d8 (lQ.Co 2 (d:=(some 58)) (t:=170) (K:=3) (E:=175) (b:=m) (cnt:=(us.length+1)) (f:=(dg (ins (aS us) x us))) (x:=(.tmp 57)) (ats:=#[170]) (λ_=>d6) d6 (λ_=>d6) rfl Tryz.underlying170 d8 (lQ.seg (k':=13) (bQ:=[(6,vI ((aS us))),(59,vI ((max aL ((us.length:Int)+1)))),(61,.pointer (some ⟨t,1,none⟩))]) (eV:=[(Value.int .i64 (if (((us.length+1):Nat):Int)>aL then (((us.length+1):Nat):Int) else aL))=(.int .i64 ((max aL ((us.length:Int)+1))))]) [⟨[],none,none,none,some (vI ((max aL ((us.length:Int)+1))))⟩,o_,o_] [6,59,61] (λ_ _=>d6) ⟨by rw [TL];rfl,trivial⟩ d8 (lQ.done rfl (jC 1 [] [(0,a_ 1 t)] [(1,[(1,vI ((max aL ((us.length:Int)+1))))])] (NS (jK 3 [4,5] [] (NN (ax.ret (aF.jk [(2,.abs (bK Tryz.prog 3 m (dg (ins (aS us) x us)) ((ins (aS us) x us).length)))] (λw hS=>by rw [kK];exact hS) (aF.mem (λw hS=>aQ.rK (l:=[.abs R]) ⟨m,A,c,l,(next+1)⟩ (show lE ((next+1)) l ((ins (aS us) x us)) most ((max aL ((us.length:Int)+1))) from ⟨by rw [hl2.Ja,hl0];exact hl2.Zo x,by rw [kK];omega,d5,d5,d5,d5⟩) (hS.pick (ay:=[0,1,2,3]) (l':=[.abs R]++rJ 233 t most ((max aL ((us.length:Int)+1))) ((ins (aS us) x us)) ⟨m,A,c,l,(next+1)⟩) rfl rfl)) (RT _ [1,0] (⟨rfl,rfl⟩))))))))))))))))))))
theorem LM {β:Bs} (t:Nat) (most aL:Int) (us:bB Value) (h:Int) (hw:(Lit.int .i64 h).wf=true) (x:Value) (hg:aI.get us h=some x) :
 aW Tryz.prog β 229 #[vP t,vI (h)] [.abs (ia 233 t most aL us)] (λv l=>v=.tuple #[x,vI 0]/\l=[.abs (ia 233 t most aL (del h us))]):=by
 refine SE Tryz.func229 Tryz.ntmps229 (λR=>SR (jK 2 [] [] (NS (jK 2 [9,10] [] (gE [0] (HE t most aL us h hw x hg) (jK 5 [6,7] [] (NZ (jK 2 [15] [] (NT (ax.seq (ax.HB (Φ:=λx:TX=>lE x.next x.l us most aL) (hp:=λx=>[.abs R]++rJ 233 t most aL us x) (λw hS=>(hS.pick (ay:=[1,0]) (l':=[.abs R]++[.abs (ia 233 t most aL us)]) rfl rfl).wH) (λx0 hT=>?_))))))))))))
 obtain⟨m,A,c,l,next⟩:=x0
 replace hT:lE next l us most aL:=hT
 have hb:=hT.Og
 have hm0:=hT.yQ
 have hm1:=hT.yR
 have hn1:=hT.yS
 have hn2:=hT.Dk
 have Oj:=hT.Be
 have hct:=hT.ti.count
 have hk:=get_some hg
 show ax _ _ _ _ _ [.abs R,.aD t [vI (most),vI (aL),.map (some m),.slice A (l.length) (c),vI (next)] 233,.abs (bK Tryz.prog 3 m (dg us) us.length),.abs (aK 3 1 A l.length c (bG l))] _
 refine ax.region (jK 5 [19,20] [(3,a_ 1 t)] (aE.IB 2 (d:=none) (t:=170) (K:=3) (E:=175) (b:=m) (n:=us.length) (f:=(dg us)) (x:=(.tmp 19)) (ix:=(.tmp 20)) (key:=vI (h)) (kl:=(.int .i64 h)) (n':=(us.length-1)) (f':=(dg (del h us))) (ats:=#[170,3]) (λ_=>d6) d6 (λ_=>d6) (λ_=>d6) rfl ja Tryz.underlying170 (mo hw) (by rw [show dg us (.int .i64 h)=some x from hg];rfl) (RP) (NN (ax.region (jK 6 [24,26] [] (gL (args:=#[.iface 342 (.pointer (some ⟨t,3,none⟩)),.iface 3 (.int .i64 (h))]) (pre:=[.aD t [vI (most),vI (aL),.map (some m),.slice A (l.length) (c),vI (next)] 233,.abs (aK 3 1 A l.length c (bG l))]) [1,3] (acH h hT.ti.heap d5) ?_))))))
 rintro _ _ ⟨rfl,g,c',l2,hsm,hp2,rfl⟩
 refine NS (jK 4 [4,5] [] (NN (ax.ret ?_)))
 have hld:=sV hT.ti.fP hk
 exact aF.jk [(3,.abs (bK Tryz.prog 3 m (dg (del h us)) ((del h us).length)))] (λw hS=>by rw [show (del h us).length=us.length-1 by omega];exact hS) (aF.mem (λw hS=>aQ.rK (l:=[.abs R]) ⟨m,some ⟨g,0,none⟩,c',l2,next⟩ (show lE (next) l2 ((del h us)) most (aL) from ⟨hT.ti.drop hk hsm hp2,d5,hm1,hn1,hn2,Oj⟩) (hS.pick (ay:=[2,0,3,1]) (l':=[.abs R]++rJ 233 t most (aL) ((del h us)) ⟨m,some ⟨g,0,none⟩,c',l2,next⟩) rfl rfl)) (RT _ [1,0] (⟨rfl,rfl⟩)))
theorem QS {β:Bs} (t:Nat) (most aL:Int) (us:bB Value) (h:Int) (hw:(Lit.int .i64 h).wf=true) (hg:aI.get us h=none) :
 aW Tryz.prog β 229 #[vP t,vI (h)] [.abs (ia 233 t most aL us)] (λv l=>v=.tuple #[.nilIface,vI 131]/\l=[.abs (ia 233 t most aL us)]):=by
 exact SE Tryz.func229 Tryz.ntmps229 (λR=>SR (jK 2 [] [] (NS (jK 2 [9,10] [] (gE [0] (LK t most aL us h hw hg) (jK 5 [6,7] [] (NZ (jK 2 [15] [] (NF (KX (zR ⟨rfl,rfl⟩)))))))))))
theorem Ol {β:Bs} (t:Nat) (most aL:Int) (us:bB Value) :
 aW Tryz.prog β 70 #[vP t] [.abs (ia 233 t most aL us)] (λv l=>∃A c,v=.slice A (aY us).length c/\l=[.abs (ia 233 t most aL us),.abs (aK 3 1 A (aY us).length c (bG (aY us)))]):=by
 refine SE Tryz.func70 Tryz.ntmps70 (λR=>ax.seq (ax.HB (Φ:=λx:TX=>lE x.next x.l us most aL) (hp:=λx=>[.abs R]++rJ 233 t most aL us x) (λw hS=>(hS.pick (ay:=[1,0]) (l':=[.abs R]++[.abs (ia 233 t most aL us)]) rfl rfl).wH) (λx hT=>?_)))
 obtain⟨m,A,c,l,next⟩:=x
 replace hT:lE next l us most aL:=hT
 have hb:=hT.Og
 have hm0:=hT.yQ
 have hm1:=hT.yR
 have hn1:=hT.yS
 have hn2:=hT.Dk
 have Oj:=hT.Be
 have hct:=hT.ti.count
 show ax _ _ _ _ _ [.abs R,.aD t [vI (most),vI (aL),.map (some m),.slice A (l.length) (c),vI (next)] 233,.abs (bK Tryz.prog 3 m (dg us) us.length),.abs (aK 3 1 A l.length c (bG l))] _
 refine ax.region (jK 1 [] [] (NS (jK 4 [6] [(3,a_ 1 t)] (gX [] (Oi (some m)) (λbk=>gL [3,0] (Jd m bk us.length (dg us) d5) ?_)))))
 rintro _ _ ⟨A2,c2,ss,rfl,hks,hsl,rfl⟩
 refine jK 1 [2] [] (NN (ax.ret ?_))
 have hkk:=RR hT.ti.fP hks
 exact aF.mem (λw hS=>aQ.rK (l:=[.abs R,.abs (aK 3 1 A2 ss.length c2 (bG ss))]) ⟨m,A,c,l,next⟩ (show lE (next) l (us) most (aL) from hT) (hS.pick (ay:=[3,2,4,0,5]) (l':=[.abs R,.abs (aK 3 1 A2 ss.length c2 (bG ss))]++rJ 233 t most (aL) (us) ⟨m,A,c,l,next⟩) rfl rfl)) (RT (l:=[.abs (ia 233 t most aL us),.abs (aK 3 1 A2 ss.length c2 (bG ss))]) (.slice A2 (ss.length) (c2)) [2,1,0] (⟨A2,c2,by rw [hkk],by rw [hkk]⟩))
end
section
open Go.RowKit Go.Maps bw aI
theorem aW.uf {P:Program} {β:Bs} {f:FuncId} {args:Array Value} {pre R:List HP} {post:Value->List HP->Prop} (h:∀β':Bs,oF β R β'->aW P β' f args pre post):aW P β f args (pre++R) (λv l=>∃l0,post v l0/\l=l0++R):=by
 intro A w hS
 have h1:=aQ.turn hS
 rw [←ah1] at h1
 obtain⟨β',g1,_,g3⟩:=h1.uf
 refine (h β' g1 A w (aQ.turn g3)).mono ?_
 rintro e w' ⟨v,l,h1,h2,h3⟩
 refine⟨v,l++R,h1,⟨l,h2,rfl⟩,?_⟩
 have h4:=g1.back (aQ.turn h3)
 rw [ah1] at h4
 exact aQ.turn h4
def dM (L:HL) (us:bB Th):bB Value:=us.map λq=>(q.1,jg L q.2)
theorem kx (L:HL) (us:bB Th) (h:Int):dg (dM L us) (.int .i64 h)=(aI.get us h).map (jg L):=get_map (jg L) us h
theorem Kv {L:HL} {us:bB Th} {h:Int}:p4 (dg (dM L us)) (.int .i64 h) none=dg (dM L (del h us)):=by
 rw [RP]
 exact zc dg (Kt (jg L) h us).symm
theorem wK (L:HL) (us:bB Th):(dM L us).length=us.length:=ahQ ..
theorem HM (L:HL) (us:bB Th):aY (dM L us)=aY us:=keys_map (jg L) us
def sW (O:eE) (k:Nat):eE:=bE O k (λo=>{o with aJ:=true})
def tV (O:eE) (t:Th):Prop:=(ah O t.k).aJ=true/\(ah O t.k).aR=0
instance (O:eE) (t:Th):Decidable (tV O t):=inferInstanceAs (Decidable (_/\_))
def j7 (O:eE) (ay:bB Th) (t:Th):bB Th:=if tV O t then del (ah O t.k).id ay else ay
def oU (O:eE) (used:Int) (t:Th):Int:=if tV O t then if t.kind=1 then used-(ah O t.k).data.length else used else used
abbrev pF (f m t:Nat) (X:FM):HP:=.aD f [.int .i64 X.cN,.int .i64 X.cB,.int .i64 X.cH,.int .i64 X.cS,.int .i64 X.cZ,.map (some m),.pointer (some ⟨t,0,none⟩),.int .i64 X.last,.int .i64 X.aq,.int .i64 X.used] 173
abbrev pI (m:Nat) (L:HL) (us:bB Th):HP:=.abs (bK Tryz.prog 3 m (dg (dM L us)) us.length)
abbrev pT (t:Nat) (most aL:Int) (L:HL) (us:bB Th):HP:=.abs (ia 233 t most aL (dM L us))
abbrev pO (O:eE) (L:HL):HP:=.abs (bp (fQ O L))
abbrev pD (O:eE) (L:HL):HP:=.abs (bp (eX O L))
abbrev pE (O:eE) (L:HL):HP:=.abs (bp (ig O L))
structure bg where
 X:FM
 O:eE
 ay:bB Th
 us:bB Th
 aL:Int
abbrev pA (f m t:Nat) (L:HL) (S:bg):List HP:=[pF f m t S.X,pI m L S.ay,pT t S.X.cH S.aL L S.us,pO S.O L,pD S.O L,pE S.O L]
structure aN where
 op:Int
 bD:Int
 other:Int
 name:ByteArray
 text:ByteArray
 dA:Option Addr
 dC:Nat
 data:List UInt8
 mode:Int
 cO:Int
 cQ:Int
 bJ:Int
 bh:Int
 code:Int
 answer:Int
def bA (c:aN):List Value:=[.int .i64 c.op,.int .i64 c.bD,.int .i64 c.other,.string c.name,.string c.text,.slice c.dA c.data.length c.dC,.int .i64 c.mode,.int .i64 c.cO,.int .i64 c.cQ,.int .i64 c.bJ,.int .i64 c.bh,.int .i64 c.code,.int .i64 c.answer]
abbrev pC (cb:Nat) (c:aN):HP:=.aD cb (bA c) 63
abbrev c0 (c:aN):aN:={c with answer:=0,code:=230}
def agt (L:HL):Except Int Nat->Value
 |.error e=>.tuple #[.pointer none,.int .i64 e]
 |.ok d=>.tuple #[.pointer (some ⟨L.b d,0,none⟩),.int .i64 0]
def agu (L:HL):Except Int Th->Value
 |.error e=>.tuple #[.nilIface,.int .i64 e]
 |.ok t=>.tuple #[jg L t,.int .i64 0]
noncomputable section
def gH (O:eE) (us:bB Th) (h:Int) (name:ByteArray) (fD:Int):Except Int Nat:=
 match aI.get us h with
 |none=>.error 131
 |some t=>
   if t.kind=2 then
    if (ah O t.k).aJ=true then .error 170
    else if bU name then if bits BinOp.and .i64 (ah O t.k).mode fD=fD then .ok t.k else .error 175
    else .error 95
   else .error 173
def lF (s:ByteArray):Int:=
 if s=⟨#[]⟩ then 90 else if s.size>4096 then 93 else if qz s then 0 else 91
def Room (X:FM) (ay:bB Th):Prop:=(ay.length:Int)<X.cN/\X.last<1099511627776/\X.aq<8192
instance (X:FM) (ay:bB Th):Decidable (Room X ay):=inferInstanceAs (Decidable (_/\_/\_))
def gY (X:FM) (O:eE) (ay:bB Th) (d:Nat) (name:ByteArray):Int:=
 if bF name (ah O d).aq=none then if Room X ay then 0 else 177 else 171
def dN (X:FM) (kind mode:Int):bT:=⟨X.last+1,mode,0,0,X.cS,X.cZ,0,0,false,kind,[],⟨#[]⟩,[],none⟩
def dm (X:FM):Nat:=(X.last+1).toNat
def gU (S:bg) (d:Nat) (name:ByteArray) (o:bT):bg:=
 {S with
   X:={S.X with last:=S.X.last+1,aq:=S.X.aq+1}
   O:=dW S.X (bE S.O (dm S.X) (λ_=>o)) d name ⟨dm S.X,o.kind⟩
   ay:=ins (S.X.last+1) ⟨dm S.X,o.kind⟩ S.ay}
def aZ (S:bg) (d:Nat) (name:ByteArray) (t:Th):bg:=
 {S with
   X:={S.X with aq:=S.X.aq-1,used:=if (ah (bn S.X S.O d name t) t.k).aU=0 then oU (sW (bn S.X S.O d name t) t.k) S.X.used t else S.X.used}
   O:=if (ah (bn S.X S.O d name t) t.k).aU=0 then sW (bn S.X S.O d name t) t.k else bn S.X S.O d name t
   ay:=if (ah (bn S.X S.O d name t) t.k).aU=0 then j7 (sW (bn S.X S.O d name t) t.k) S.ay t else S.ay}
theorem xL {S:bg} {d:Nat} {name:ByteArray} {t:Th} (h:(ah (bn S.X S.O d name t) t.k).aU=0):aZ S d name t={S with X:={S.X with aq:=S.X.aq-1,used:=oU (sW (bn S.X S.O d name t) t.k) S.X.used t},O:=sW (bn S.X S.O d name t) t.k,ay:=j7 (sW (bn S.X S.O d name t) t.k) S.ay t}:=by
 unfold aZ
 simp only [t8 h]
theorem xM {S:bg} {d:Nat} {name:ByteArray} {t:Th} (h:¬(ah (bn S.X S.O d name t) t.k).aU=0):aZ S d name t={S with X:={S.X with aq:=S.X.aq-1},O:=bn S.X S.O d name t}:=by
 unfold aZ
 simp only [nw h]
def lP (S:bg) (d:Nat) (name:ByteArray) (mode:Int):Int×bg:=
 if gY S.X S.O S.ay d name=0 then (0,gU S d name (dN S.X 2 mode)) else (gY S.X S.O S.ay d name,S)
def jX (S:bg) (d:Nat) (name text:ByteArray):Int×bg:=
 if lF text=0 then
  if gY S.X S.O S.ay d name=0 then (0,gU S d name {dN S.X 3 511 with target:=text}) else (gY S.X S.O S.ay d name,S)
 else (lF text,S)
def iO (S:bg) (d:Nat) (name:ByteArray):Int×bg:=
 match bF name (ah S.O d).aq with
 |none=>(170,S)
 |some t=>if t.kind=2 then (172,S) else (0,aZ S d name t)
def jm (O:eE) (k:Nat):eE:=bE O k (λo=>{o with up:=none})
def jo (S:bg) (d:Nat) (name:ByteArray):Int×bg:=
 match bF name (ah S.O d).aq with
 |none=>(170,S)
 |some t=>if t.kind=2 then if (ah S.O t.k).aq=[] then (0,{aZ S d name t with O:=jm (aZ S d name t).O t.k}) else (178,S) else (173,S)
inductive rY (O:eE) (sub:Nat):Nat->Prop
 |here:rY O sub sub
 |up {k j:Nat}:(ah O k).up=some j->rY O sub j->rY O sub k
instance (O:eE) (sub k:Nat):Decidable (rY O sub k):=Classical.propDecidable _
def pN (S:bg) (d:Nat) (name:ByteArray) (to:Nat) (aG:ByteArray) (t:Th):bg:=
 {S with X:={S.X with aq:=S.X.aq-1+1},O:=dW S.X (bn S.X S.O d name t) to aG t}
def dF (S:bg) (d:Nat) (name:ByteArray) (to:Nat) (aG:ByteArray):Int×bg:=
 match bF name (ah S.O d).aq with
 |none=>(170,S)
 |some t=>
   if t.kind=2/\rY S.O t.k to then (174,S)
   else match bF aG (ah S.O to).aq with
    |none=>(0,pN S d name to aG t)
    |some o=>
      if o=t then (0,S) else if o.kind=2 then (172,S) else if t.kind=2 then (173,S)
      else (0,pN (aZ S to aG o) d name to aG t)
def dU (X:FM) (n:Nat):Nat:=(min (n:Int) (X.cB-X.used)).toNat
def gZ (S:bg) (k:Nat) (bs:List UInt8):Int×Int×bg:=
 if bs=[] then (0,0,S)
 else if S.X.cB-S.X.used<=0 then (0,176,S)
 else ((dU S.X bs.length:Int),0,{S with
  X:={S.X with used:=S.X.used+(dU S.X bs.length:Int)}
  O:=bE S.O k (λo=>{o with data:=o.data++bs.take (dU S.X bs.length),bJ:=S.X.cS,bh:=S.X.cZ})})
def fB (S:bg) (t:Th):Int×Int×bg:=
 (if (S.us.length:Int)<S.X.cH then aS S.us else 0,if (S.us.length:Int)<S.X.cH then 0 else 130,{S with
  O:=if (S.us.length:Int)<S.X.cH then bE S.O t.k (λo=>{o with aR:=o.aR+1}) else S.O
  us:=if (S.us.length:Int)<S.X.cH then ins (aS S.us) t S.us else S.us
  aL:=if (S.us.length:Int)<S.X.cH then max S.aL ((S.us.length:Int)+1) else S.aL})
theorem mB {S:bg} {t:Th} (h:(S.us.length:Int)<S.X.cH):fB S t=(aS S.us,0,{S with O:=bE S.O t.k (λo=>{o with aR:=o.aR+1}),us:=ins (aS S.us) t S.us,aL:=max S.aL ((S.us.length:Int)+1)}):=by
 unfold fB
 simp only [t8 h]
theorem og {S:bg} {t:Th} (h:¬(S.us.length:Int)<S.X.cH):fB S t=(0,130,S):=by
 unfold fB
 simp only [nw h]
abbrev vB:=Int×bg×aN
def kI (S:bg) (c:aN):vB:=
 match aI.get S.ay c.other with
 |none=>(141,S,c)
 |some t=>if t.kind=2 then ((fB S t).2.1,(fB S t).2.2,{c with answer:=(fB S t).1}) else (173,S,c)
def jO (O:eE) (us:bB Th) (c:aN):Except Int Th:=
 match gH O us c.bD c.name 64 with
 |.error e=>.error e
 |.ok d=>match bF c.name (ah O d).aq with
   |none=>.error 170
   |some t=>.ok t
def fZ (S:bg) (c:aN):vB:=
 match jO S.O S.us c with
 |.error e=>(e,S,c)
 |.ok t=>if t.kind=3 then (174,S,c) else if t.kind=1 then (173,S,c) else ((fB S t).2.1,(fB S t).2.2,{c with answer:=(fB S t).1})
def q6 (S:bg) (c:aN):vB:=
 match jO S.O S.us c with
 |.error e=>(e,S,c)
 |.ok t=>if t.kind=3 then (174,S,c) else if t.kind=2 then (172,S,c) else ((fB S t).2.1,(fB S t).2.2,{c with answer:=(fB S t).1})
def mT (m:Int):Prop:=0<=m/\m<=4095
instance (m:Int):Decidable (mT m):=inferInstanceAs (Decidable (_/\_))
def iH (S:bg) (c:aN):vB:=
 match gH S.O S.us c.bD c.name 192 with
 |.error e=>(e,S,c)
 |.ok d=>if mT c.mode then ((lP S d c.name c.mode).1,(lP S d c.name c.mode).2,c) else (120,S,c)
def r9 (S:bg) (d:Nat) (name:ByteArray) (mode:Int):Int×Int×bg:=
 if gY S.X S.O S.ay d name=0 then
  if (S.us.length:Int)<S.X.cH then
   (aS S.us,0,gU {S with us:=ins (aS S.us) ⟨dm S.X,1⟩ S.us,aL:=max S.aL ((S.us.length:Int)+1)} d name {dN S.X 1 mode with aR:=1})
  else (0,130,S)
 else (0,gY S.X S.O S.ay d name,S)
def q8 (S:bg) (c:aN):vB:=
 match gH S.O S.us c.bD c.name 192 with
 |.error e=>(e,S,c)
 |.ok d=>if mT c.mode then
  if gY S.X S.O S.ay d c.name=0 then ((r9 S d c.name c.mode).2.1,(r9 S d c.name c.mode).2.2,{c with answer:=(r9 S d c.name c.mode).1})
  else (gY S.X S.O S.ay d c.name,S,c)
  else (120,S,c)
def qb (S:bg) (c:aN):vB:=
 match gH S.O S.us c.bD c.name 192 with
 |.error e=>(e,S,c)
 |.ok d=>((jX S d c.name c.text).1,(jX S d c.name c.text).2,c)
def yT (S:bg) (d:Nat) (name:ByteArray) (to:Nat) (aG:ByteArray):Int×bg:=
 match bF name (ah S.O d).aq with
 |none=>(170,S)
 |some t=>if t.kind=2 then (172,S)
   else if bF aG (ah S.O to).aq=none then
    if S.X.aq<8192 then (0,{S with X:={S.X with aq:=S.X.aq+1},O:=dW S.X S.O to aG t}) else (177,S)
   else (171,S)
def uO (S:bg) (c:aN):vB:=
 match gH S.O S.us c.bD c.name 64 with
 |.error e=>(e,S,c)
 |.ok d=>match gH S.O S.us c.other c.text 192 with
   |.error e=>(e,S,c)
   |.ok to=>((yT S d c.name to c.text).1,(yT S d c.name to c.text).2,c)
def rf (S:bg) (c:aN):vB:=
 match gH S.O S.us c.bD c.name 192 with
 |.error e=>(e,S,c)
 |.ok d=>((iO S d c.name).1,(iO S d c.name).2,c)
def sB (S:bg) (c:aN):vB:=
 match gH S.O S.us c.bD c.name 192 with
 |.error e=>(e,S,c)
 |.ok d=>((jo S d c.name).1,(jo S d c.name).2,c)
def rz (S:bg) (c:aN):vB:=
 match gH S.O S.us c.bD c.name 192 with
 |.error e=>(e,S,c)
 |.ok d=>match gH S.O S.us c.other c.text 192 with
   |.error e=>(e,S,c)
   |.ok to=>((dF S d c.name to c.text).1,(dF S d c.name to c.text).2,c)
def sC (S:bg) (c:aN):vB:=
 match aI.get S.us c.bD with
 |none=>(131,S,c)
 |some t=>if t.kind=1 then ((gZ S t.k c.data).2.1,(gZ S t.k c.data).2.2,{c with answer:=(gZ S t.k c.data).1}) else (172,S,c)
def Dl (m:Int):Prop:=0<=m/\m<=2147483647
instance (m:Int):Decidable (Dl m):=inferInstanceAs (Decidable (_/\_))
def sD (S:bg) (c:aN):vB:=
 match aI.get S.us c.bD with
 |none=>(131,S,c)
 |some t=>
   if (ah S.O t.k).aJ=true/\t.kind=2 then (170,S,c)
   else if mT c.mode then
    if Dl c.cO/\Dl c.cQ then
     if iM c.bJ c.bh then (0,{S with O:=bE S.O t.k (λo=>{o with mode:=c.mode,cO:=c.cO,cQ:=c.cQ,bJ:=c.bJ,bh:=c.bh})},c)
     else (20,S,c)
    else (11,S,c)
   else (120,S,c)
def FQ (O:eE) (c:aN):Option Th->aN
 |none=>{c with other:=0,mode:=0,cO:=0,cQ:=0,bJ:=0,bh:=0}
 |some t=>{c with answer:=(ah O t.k).id,other:=t.kind,mode:=(ah O t.k).mode,cO:=(ah O t.k).cO,cQ:=(ah O t.k).cQ,bJ:=(ah O t.k).bJ,bh:=(ah O t.k).bh}
def Bg (S:bg) (c:aN):vB:=
 match aI.get S.us c.bD with
 |none=>(131,S,FQ S.O c none)
 |some t=>(0,S,FQ S.O c (some t))
def uP (S:bg) (c:aN):vB:=
 match jO S.O S.us c with
 |.error e=>(e,S,FQ S.O c none)
 |.ok t=>(0,S,FQ S.O c (some t))
def mD (O:eE) (k:Nat):eE:=bE O k (λo=>{o with aR:=o.aR-1})
def jq (S:bg) (c:aN):vB:=
 match aI.get S.us c.bD with
 |none=>(131,S,c)
 |some t=>(0,{S with
  X:={S.X with used:=oU (mD S.O t.k) S.X.used t}
  O:=mD S.O t.k
  ay:=j7 (mD S.O t.k) S.ay t
  us:=del c.bD S.us},c)
def iE (S:bg) (c:aN):vB:=
 if c.op=1 then kI S c else if c.op=2 then fZ S c else if c.op=3 then q6 S c else if c.op=4 then iH S c
 else if c.op=5 then q8 S c else if c.op=6 then qb S c else if c.op=7 then uO S c else if c.op=8 then rf S c
 else if c.op=9 then sC S c else if c.op=10 then sD S c else if c.op=11 then Bg S c else if c.op=12 then uP S c
 else if c.op=13 then jq S c else if c.op=14 then sB S c else if c.op=15 then rz S c else (230,S,c)
def fC (S:bg) (c:aN):bg×aN:=
 ((iE S {c with answer:=0,code:=230}).2.1,{ (iE S {c with answer:=0,code:=230}).2.2 with code:=(iE S {c with answer:=0,code:=230}).1})
end
section sums
variable {V:Type} {g g':Int×V->Nat} {us:bB V} {h:Int} {v:V}
def gI (g:Int×V->Nat):bB V->Nat
 |[]=>0
 |p::r=>g p+gI g r
theorem HT:gI g (ins h v us)=g (h,v)+gI g us:=by
 induction us with
 |nil=>rfl
 |cons p r ih=>
   grind [ins,gI]
theorem lG (hc:∀p∈us,g' p=g p):gI g' us=gI g us:=by
 induction us with
 |nil=>rfl
 |cons p r ih=>
   grind [gI]
theorem RV (hc:∀p∈us,g' p<=g p):gI g' us<=gI g us:=by
 induction us with
 |nil=>exact N6 _
 |cons p r ih=>
   grind [gI]
theorem zO {p:Int×V} {r:bB V}:aI.get (p::r) h=if p.1=h then some p.2 else aI.get r h:=by
 unfold aI.get
 grind
theorem get_mem {us:bB V} (e:aI.get us h=some v):(h,v)∈us:=by
 induction us with
 |nil=>cases e
 |cons p r ih=>
   grind [zO]
theorem ox {us:bB V} (hr:aI.dK (aY us)) (e:(h,v)∈us):aI.get us h=some v:=by
 induction us with
 |nil=>cases e
 |cons p r ih=>
   rw [keys_cons] at hr
   obtain⟨h1,h2⟩:=ahP.1 hr
   rw [zO]
   rcases ahK.1 e with e|e
   ·subst e;rw [t8 rfl]
   have:p.1<h:=h1 h (ahN.2 ⟨(h,v),e,rfl⟩)
   rw [nw d5]
   exact ih h2 e
theorem si (e:aI.get us h=some v):g (h,v)<=gI g us:=by
 have hm:=get_mem e
 induction us with
 |nil=>cases hm
 |cons p r ih=>
   grind [gI,zO]
theorem HV (hr:aI.dK (aY us)) (e:aI.get us h=some v) (hc:∀p∈us,p.1≠h->g' p=g p):gI g' us+g (h,v)=gI g us+g' (h,v):=by
 induction us with
 |nil=>cases e
 |cons p r ih=>
   rw [keys_cons] at hr
   obtain⟨h1,h2⟩:=ahP.1 hr
   rw [zO] at e
   show g' p+gI g' r+_=g p+gI g r+_
   split at e
   ·rename_i e2
    cases e
    have e3:gI g' r=gI g r:=lG (λq hq=>hc q (T4 _ hq) (by
     have:=h1 q.1 (ahN.2 ⟨q,hq,rfl⟩);omega))
    grind
   rename_i e2
   have:=ih h2 e (λq hq=>hc q (T4 _ hq))
   have:=hc p (T5 ..) e2
   omega
theorem Zr {p:Int×V} {r:bB V}:del h (p::r)=if p.1=h then del h r else p::del h r:=by
 grind [del]
theorem acI {us:bB V} (hn:h∉aY us):del h us=us:=by
 unfold del
 refine List.filter_eq_self.2 (λp hp=>?_)
 grind [aY,del]
theorem HX (hr:aI.dK (aY us)) (e:aI.get us h=some v):gI g (del h us)+g (h,v)=gI g us:=by
 induction us with
 |nil=>cases e
 |cons p r ih=>
   rw [keys_cons] at hr
   obtain⟨h1,h2⟩:=ahP.1 hr
   rw [zO] at e
   rw [Zr]
   show _=g p+gI g r
   split at e
   ·grind [acI]
   rename_i e2
   rw [nw e2]
   show g p+gI g (del h r)+_=_
   have:=ih h2 e
   omega
theorem Om {us:bB V} (hr:aI.dK (aY us)):aI.dK (aY (del h us)):=by
 rw [ul]
 exact aiA _ hr
end sums
section agv
variable {n:ByteArray} {t:Th} {es:je Th} {q:ByteArray×Th->Bool}
theorem Wh:(kO n t es).countP q=es.countP q+if q (n,t) then 1 else 0:=by
 induction es with
 |nil=>simp [kO,List.countP_cons]
 |cons e r ih=>
   grind [kO]
theorem Wi {es:je Th} (hd:pY es) (h:bF n es=some t):(kP n es).countP q+(if q (n,t) then 1 else 0)=es.countP q:=by
 induction es with
 |nil=>cases h
 |cons e r ih=>
   obtain⟨h1,h2⟩:=ahP.1 hd
   rw [p8] at h
   rw [List.countP_cons]
   by_cases he:e.1=n
   ·rw [t8 he] at h
    have e1:kP n (e::r)=r:=by
     unfold kP
     rw [List.filter_cons,nw (by simp [he])]
     exact List.filter_eq_self.2 (λx hx=>gn)
    grind
   grind [kP,pY,bF]
theorem Oo {e:ByteArray×Th} {es:je Th} (h:e∈kP n es):e∈es/\e.1≠n:=by
 grind [kP]
theorem zP {es:je Th} (hd:pY es) (h:(n,t)∈es):bF n es=some t:=by
 induction es with
 |nil=>cases h
 |cons e r ih=>
   obtain⟨h1,h2⟩:=ahP.1 hd
   grind [p8,pY,bF]
end agv
def aT (ay:bB Th) (t:Th):Prop:=aI.get ay (t.k:Int)=some t
def pP (es:je Th):Prop:=es.Pairwise (λa b=>¬iR b.1 a.1)
def nE (ay:bB Th) (O:eE) (k:Nat):Nat:=gI (λp=>(ah O p.2.k).aq.countP (λe=>decide (e.2.k=k))) ay
def tot (ay:bB Th) (O:eE):Nat:=gI (λp=>(ah O p.2.k).aq.length) ay
def bytes (ay:bB Th) (O:eE):Nat:=gI (λp=>(ah O p.2.k).data.length) ay
def hnd (us:bB Th) (k:Nat):Nat:=gI (λp=>if p.2.k=k then 1 else 0) us
structure qL (o:bT):Prop where
 mode:0<=o.mode/\o.mode<=4095
 cO:0<=o.cO/\o.cO<=2147483647
 cQ:0<=o.cQ/\o.cQ<=2147483647
 time:iM o.bJ o.bh
 data:o.kind≠1->o.data=[]
 aq:o.kind≠2->o.aq=[]
 target:dJ o.kind o.target
structure Inv0 (S:bg):Prop where
 cN:0<=S.X.cN/\S.X.cN<=4096
 cB:0<=S.X.cB/\S.X.cB<=1099511627776
 cH:0<=S.X.cH/\S.X.cH<=1024
 now:iM S.X.cS S.X.cZ
 last:0<=S.X.last/\S.X.last<=1099511627776
 fP:aI.dK (aY S.ay)
 len:S.ay.length<=4096
 ay:∀i t,aI.get S.ay i=some t->i=(t.k:Int)/\0<i/\i<=S.X.last
 ob:∀t,aT S.ay t->(ah S.O t.k).id=(t.k:Int)/\(ah S.O t.k).kind=t.kind/\(t.kind=1\/t.kind=2\/t.kind=3)
 mt:∀t,aT S.ay t->qL (ah S.O t.k)
 aq:∀t,aT S.ay t->∀e∈(ah S.O t.k).aq,bU e.1/\aT S.ay e.2
 sorted:∀t,aT S.ay t->pP (ah S.O t.k).aq
 dead:∀k,(∀t,aT S.ay t->t.k≠k)->(ah S.O k).aq=[]/\(ah S.O k).up=none
 Bh:∀k:Nat,S.X.last<(k:Int)->(ah S.O k).kind=0
 total:S.X.aq=(tot S.ay S.O:Int)/\S.X.aq<=8192
 aU:∀t,aT S.ay t->(ah S.O t.k).aU=(nE S.ay S.O t.k:Int)
 once:∀t,aT S.ay t->t.kind=2->(ah S.O t.k).aU<=1
 aR:∀t,aT S.ay t->(ah S.O t.k).aR=(hnd S.us t.k:Int)
 usr:aI.dK (aY S.us)
 wj:∀x∈aY S.us,1<=x/\x<=S.aL
 Ez:(S.us.length:Int)<=S.X.cH
 aL:0<=S.aL/\S.aL<=S.X.cH
 us:∀h t,aI.get S.us h=some t->aT S.ay t/\t.kind≠3
 aJ:∀t,aT S.ay t->(ah S.O t.k).aJ=true->(ah S.O t.k).aU=0/\(ah S.O t.k).aq=[]
 up:∀t,aT S.ay t->∀d,(ah S.O t.k).up=some d↔t.kind=2/\aT S.ay ⟨d,2⟩/\∃n,bF n (ah S.O d).aq=some t
 deep:∃dp:Nat->Nat,∀k d,(ah S.O k).up=some d->dp d<dp k
 used:S.X.used=(bytes S.ay S.O:Int)/\S.X.used<=140737488355328
structure bC (S:bg):Prop extends Inv0 S where
 full:∀t,aT S.ay t->(ah S.O t.k).aJ=true->0<(ah S.O t.k).aR
section at_
variable {X:FM} {O:eE} {d k:Nat} {name:ByteArray} {t:Th}
theorem ld (h:t.k≠d):ah (bn X O d name t) k=if k=d then {ah O d with aq:=kP name (ah O d).aq,bJ:=X.cS,bh:=X.cZ} else if k=t.k then {ah O k with aU:=(ah O k).aU-1} else ah O k:=by
 grind [bn,xK,jf,iq]
theorem uQ (h:t.k≠d):ah (dW X O d name t) k=if k=d then {ah O d with aq:=kO name t (ah O d).aq,bJ:=X.cS,bh:=X.cZ} else if k=t.k then {ah O k with aU:=(ah O k).aU+1,up:=if t.kind=2 then some d else (ah O k).up} else ah O k:=by
 grind [dW,xK,uj,iq,jf]
end at_
section counts
variable {ay:bB Th} {O O':eE} {d k:Nat} {n:ByteArray} {t:Th}
theorem Oq {q:ByteArray×Th->Bool} (hr:aI.dK (aY ay)) (hd:aI.get ay (d:Int)=some ⟨d,2⟩) (hk:∀i u,aI.get ay i=some u->i=(u.k:Int)) (ho:∀x,x≠d->(ah O' x).aq=(ah O x).aq) (h1:(ah O' d).aq=kP n (ah O d).aq) (h2:pY (ah O d).aq) (h3:bF n (ah O d).aq=some t) :
 gI (λp=>(ah O' p.2.k).aq.countP q) ay+(if q (n,t) then 1 else 0)=gI (λp=>(ah O p.2.k).aq.countP q) ay:=by
 grind [HV,ah,ox,Wi,kP,gI]
theorem Zs {q:ByteArray×Th->Bool} (hr:aI.dK (aY ay)) (hd:aI.get ay (d:Int)=some ⟨d,2⟩) (hk:∀i u,aI.get ay i=some u->i=(u.k:Int)) (ho:∀x,x≠d->(ah O' x).aq=(ah O x).aq) (h1:(ah O' d).aq=kO n t (ah O d).aq) :
 gI (λp=>(ah O' p.2.k).aq.countP q) ay=gI (λp=>(ah O p.2.k).aq.countP q) ay+(if q (n,t) then 1 else 0):=by
 grind [HV,ah,ox,Wh,kO,gI]
theorem xO:tot ay O=gI (λp=>(ah O p.2.k).aq.countP (λ_=>true)) ay:=lG (λp _=>nh)
theorem Wj {q:ByteArray×Th->Bool} (ho:∀x,(ah O' x).aq=(ah O x).aq):gI (λp=>(ah O' p.2.k).aq.countP q) ay=gI (λp=>(ah O p.2.k).aq.countP q) ay:=lG (λp _=>by rw [ho])
theorem Wk:nE ay O k<=tot ay O:=by
 rw [xO]
 exact RV (λp _=>List.countP_mono_left (λ_ _ _=>rfl))
theorem qM (hd:aI.get ay (d:Int)=some ⟨d,2⟩) (h:bF n (ah O d).aq=some t):0<nE ay O t.k:=by
 exact ahR (List.countP_pos_iff.2 ⟨(n,t),q5 h,nh⟩) (si (g:=λp=>(ah O p.2.k).aq.countP (λe=>decide (e.2.k=t.k))) hd)
theorem Je (hr:aI.dK (aY ay)) (h:0<nE ay O k):∃i u,aI.get ay i=some u/\∃e∈(ah O u.k).aq,e.2.k=k:=by
 apply ahY
 intro hn
 have:nE ay O k=gI (λ_=>0) ay:=lG (λp hp=>by
  show List.countP _ _=0
  rw [List.countP_eq_zero]
  intro e he hk
  exact hn ⟨p.1,p.2,ox hr hp,e,he,by simpa using hk⟩)
 have h0:∀us:bB Th,gI (λ_=>0) us=0:=λus=>by
  induction us with
  |nil=>rfl
  |cons p r ih=>show 0+_=0;rw [ih]
 rw [this,h0] at h
 omega
end counts
section inv
variable {S:bg} {d k:Nat} {name:ByteArray} {t u:Th}
theorem Inv0.key (h:Inv0 S) {i:Int} (e:aI.get S.ay i=some t):i=(t.k:Int):=(h.ay i t e).1
theorem Inv0.live (h:Inv0 S) {i:Int} (e:aI.get S.ay i=some t):aT S.ay t:=by
 have:=h.key e
 subst this
 exact e
theorem jJ {ay:bB Th} (h1:aT ay t) (h2:aT ay u) (e:t.k=u.k):t=u:=by
 grind [aT]
theorem Inv0.kind (h:Inv0 S) (hl:aT S.ay t):(ah S.O t.k).kind=t.kind:=(h.ob t hl).2.1
theorem TN {x:ByteArray}:iR x x:=by unfold iR;simp
theorem pP.pQ {es:je Th} (h:pP es):pY es:=List.Pairwise.imp (λ{a b} gA e=>gA (by rw [e];exact TN)) h
theorem Inv0.pQ (h:Inv0 S) (hl:aT S.ay t):pY (ah S.O t.k).aq:=(h.sorted t hl).pQ
theorem Inv0.bO (h:Inv0 S) (hd:aT S.ay u) (hl:bF name (ah S.O u.k).aq=some t):bU name/\aT S.ay t:=h.aq u hd _ (q5 hl)
theorem Inv0.ne (h:Inv0 S) (hd:aT S.ay ⟨d,2⟩) (hl:bF name (ah S.O d).aq=some t):t.k≠d:=λe=>by
 have h1:=(h.bO hd hl).2
 have h2:t=⟨d,2⟩:=jJ h1 hd e
 subst h2
 have h3:=(h.up _ hd d).2 ⟨rfl,hd,name,hl⟩
 obtain⟨dp,hdp⟩:=h.deep
 have:dp d<dp d:=hdp _ _ h3
 omega
theorem Inv0.free (h:Inv0 S) (hk:S.X.last<(k:Int)) (hl:aT S.ay t):t.k≠k:=λe=>by
 have:=(h.ay _ t hl).2.2
 subst e
 omega
theorem qL.of {o o':bT} (h:qL o) (e1:o'.mode=o.mode) (e2:o'.cO=o.cO) (e3:o'.cQ=o.cQ) (e4:iM o'.bJ o'.bh) (e5:o'.kind=o.kind) (e6:o'.data=o.data\/o.kind=1) (e7:o'.aq=o.aq\/o.kind=2) (e8:o'.target=o.target):qL o':=
 ⟨e1 ▸ h.mode,e2 ▸ h.cO,e3 ▸ h.cQ,e4,λhk=>by
  rw [e5] at hk
  rcases e6 with e|e
  ·rw [e];exact h.data hk
  ·exact KB e hk,λhk=>by
  rw [e5] at hk
  rcases e7 with e|e
  ·rw [e];exact h.aq hk
  exact KB e hk,by rw [e5,e8];exact h.target⟩
theorem Inv0.own (h:Inv0 S) {f:bT->bT} {sj lH:Int} {us':bB Th} (f1:∀o,(f o).id=o.id) (f2:∀o,(f o).kind=o.kind) (f3:∀o,(f o).aq=o.aq) (f4:∀o,(f o).up=o.up) (f5:∀o,(f o).aU=o.aU) (f6:∀o,(f o).aJ=o.aJ)
 (hm:∀t,aT S.ay t->t.k=k->qL (f (ah S.O k))) (ho:∀t,aT S.ay t->(ah (bE S.O k f) t.k).aR=(hnd us' t.k:Int))
 (u1:aI.dK (aY us')) (u2:∀x∈aY us',1<=x/\x<=lH) (u3:(us'.length:Int)<=S.X.cH) (u4:0<=lH/\lH<=S.X.cH) (u5:∀h t,aI.get us' h=some t->aT S.ay t/\t.kind≠3)
 (hu:sj=(bytes S.ay (bE S.O k f):Int)/\sj<=140737488355328):Inv0 {S with X:={S.X with used:=sj},O:=bE S.O k f,us:=us',aL:=lH}:=by
 have g1:∀x,(ah (bE S.O k f) x).id=(ah S.O x).id:=λx=>eP (g:=bT.id) f1
 have g2:∀x,(ah (bE S.O k f) x).kind=(ah S.O x).kind:=λx=>eP (g:=bT.kind) f2
 have g3:∀x,(ah (bE S.O k f) x).aq=(ah S.O x).aq:=λx=>eP (g:=bT.aq) f3
 have g4:∀x,(ah (bE S.O k f) x).up=(ah S.O x).up:=λx=>eP (g:=bT.up) f4
 have g5:∀x,(ah (bE S.O k f) x).aU=(ah S.O x).aU:=λx=>eP (g:=bT.aU) f5
 have g6:∀x,(ah (bE S.O k f) x).aJ=(ah S.O x).aJ:=λx=>eP (g:=bT.aJ) f6
 refine {h with ob:=λt hl=>?_,mt:=λt hl=>?_,aq:=λt hl=>?_,sorted:=λt hl=>?_,dead:=λx hx=>?_,Bh:=λx hx=>by rw [g2];exact h.Bh x hx,total:=?_,aU:=λt hl=>?_,once:=λt hl=>?_,aR:=ho,usr:=u1,wj:=u2,Ez:=u3,aL:=u4,us:=u5,aJ:=λt hl=>?_,up:=λt hl e=>?_,deep:=?_,used:=hu}
 ·rw [g1,g2];exact h.ob t hl
 ·show qL (ah (bE S.O k f) t.k)
  by_cases e:t.k=k
  ·rw [e,iq];exact hm t hl e
  rw [jf e];exact h.mt t hl
 ·rw [g3];exact h.aq t hl
 ·rw [g3];exact h.sorted t hl
 ·rw [g3,g4];exact h.dead x hx
 ·have:tot S.ay (bE S.O k f)=tot S.ay S.O:=lG (λp _=>by rw [g3])
  show S.X.aq=(tot S.ay (bE S.O k f):Int)/\_
  rw [this];exact h.total
 ·show (ah (bE S.O k f) t.k).aU=(nE S.ay (bE S.O k f) t.k:Int)
  have:nE S.ay (bE S.O k f) t.k=nE S.ay S.O t.k:=Wj g3
  rw [g5,this];exact h.aU t hl
 ·rw [g5];exact h.once t hl
 ·rw [g6,g5,g3];exact h.aJ t hl
 ·grind [ah,bE,up,aT,bF]
 obtain⟨dp,hdp⟩:=h.deep
 exact⟨dp,λx e he=>hdp x e (by rw [g4] at he;exact he)⟩
def yU (S:bg) (t:Th):bg:={S with X:={S.X with used:=oU S.O S.X.used t},ay:=j7 S.O S.ay t}
theorem Inv0.yU (h:Inv0 S) (ht:aT S.ay t) (hf:∀u,aT S.ay u->u≠t->(ah S.O u.k).aJ=true->0<(ah S.O u.k).aR):bC (Proofs.YtfececghhgeapaaGreatDoor.yU S t):=by
 by_cases hF:tV S.O t
 ·have e1:Proofs.YtfececghhgeapaaGreatDoor.yU S t={S with X:={S.X with used:=S.X.used-(ah S.O t.k).data.length},ay:=del (t.k:Int) S.ay}:=by
   unfold Proofs.YtfececghhgeapaaGreatDoor.yU oU j7
   rw [t8 hF,t8 hF,(h.ob t ht).1]
   split
   ·rfl
   rename_i e
   have:=(h.mt t ht).data (by rw [h.kind ht];exact e)
   rw [this]
   simp
  rw [e1]
  obtain⟨hg,cA⟩:=hF
  obtain⟨fA,hen⟩:=h.aJ t ht hg
  have kJ:∀x,aT (del (t.k:Int) S.ay) x↔aT S.ay x/\x.k≠t.k:=λx=>by
   grind [aT,wG]
  have hl0:nE S.ay S.O t.k=0:=by have:=h.aU t ht;omega
  have cG:∀x,aT S.ay x->∀e∈(ah S.O x.k).aq,e.2.k≠t.k:=λx hx e he hk=>by
   have:0<nE S.ay S.O t.k:=ahR (List.countP_pos_iff.2 ⟨e,he,by simpa using hk⟩) (si (g:=λp=>(ah S.O p.2.k).aq.countP (λe=>decide (e.2.k=t.k))) hx)
   omega
  have hsum:∀q:ByteArray×Th->Bool,gI (λp=>(ah S.O p.2.k).aq.countP q) (del (t.k:Int) S.ay)=gI (λp=>(ah S.O p.2.k).aq.countP q) S.ay:=λq=>by
   have h1:=HX (g:=λp:Int×Th=>(ah S.O p.2.k).aq.countP q) h.fP ht
   grind
  refine {h with fP:=Om h.fP,len:=?_,ay:=λi x e=>?_,ob:=λx hx=>h.ob x ((kJ x).1 hx).1,mt:=λx hx=>h.mt x ((kJ x).1 hx).1,aq:=λx hx e he=>?_,sorted:=λx hx=>h.sorted x ((kJ x).1 hx).1,dead:=λx hx=>?_,total:=?_,aU:=λx hx=>?_,once:=λx hx=>h.once x ((kJ x).1 hx).1,aR:=λx hx=>h.aR x ((kJ x).1 hx).1,us:=λi x e=>?_,aJ:=λx hx=>h.aJ x ((kJ x).1 hx).1,up:=λx hx e=>?_,used:=?_,full:=λx hx hg=>hf x ((kJ x).1 hx).1 (λe=>((kJ x).1 hx).2 (by rw [e])) hg}
  ·have h1:=sV h.fP (get_some ht)
   have h2:=h.len
   show (del (t.k:Int) S.ay).length<=4096
   omega
  ·have e:aI.get (del (t.k:Int) S.ay) i=some x:=e
   rw [wG] at e
   split at e
   ·cases e
   exact h.ay i x e
  ·have hx':=((kJ x).1 hx).1
   have h1:=h.aq x hx' e he
   exact⟨h1.1,(kJ _).2 ⟨h1.2,cG x hx' e he⟩⟩
  ·by_cases e:x=t.k
   ·subst e
    refine⟨hen,?_⟩
    cases hu:(ah S.O t.k).up with
    |none=>rfl
    |some y=>
      obtain⟨_,h2,n,h3⟩:=(h.up t ht y).1 hu
      exact KB rfl (cG _ h2 _ (q5 h3))
   exact h.dead x (λy hy e2=>hx y ((kJ y).2 ⟨hy,λe3=>e (e2.symm.trans e3)⟩) e2)
  ·show S.X.aq=(tot (del (t.k:Int) S.ay) S.O:Int)/\_
   rw [xO,hsum,←xO];exact h.total
  ·show _=(nE (del (t.k:Int) S.ay) S.O x.k:Int)
   have:nE (del (t.k:Int) S.ay) S.O x.k=nE S.ay S.O x.k:=hsum _
   rw [this];exact h.aU x ((kJ x).1 hx).1
  ·obtain⟨h1,h2⟩:=h.us i x e
   refine⟨(kJ x).2 ⟨h1,λe2=>?_⟩,h2⟩
   have h3:=h.aR t ht
   have h4:0<hnd S.us t.k:=ahR (by simp [e2]) (si (g:=λp:Int×Th=>if p.2.k=t.k then 1 else 0) e)
   omega
  ·rw [h.up x ((kJ x).1 hx).1 e]
   constructor
   ·rintro⟨h1,h2,n,h3⟩
    refine⟨h1,(kJ _).2 ⟨h2,λe2=>?_⟩,n,h3⟩
    have e2:e=t.k:=e2
    rw [e2,hen] at h3;cases h3
   grind
  obtain⟨h1,h2⟩:=h.used
  have h3:gI (λp:Int×Th=>(ah S.O p.2.k).data.length) (del (t.k:Int) S.ay)+(ah S.O t.k).data.length=gI (λp:Int×Th=>(ah S.O p.2.k).data.length) S.ay:=HX (g:=λp:Int×Th=>(ah S.O p.2.k).data.length) h.fP ht
  grind [ah,bytes,del]
 have e1:Proofs.YtfececghhgeapaaGreatDoor.yU S t=S:=by
  unfold Proofs.YtfececghhgeapaaGreatDoor.yU oU j7
  rw [nw hF,nw hF]
 rw [e1]
 refine {h with full:=λu hu hg=>?_}
 by_cases e:u=t
 ·subst e
  have h1:=h.aR u hu
  have:¬(ah S.O u.k).aR=0:=λe=>hF ⟨hg,e⟩
  omega
 exact hf u hu e hg
end inv
section facts
variable {S:bg} {X:FM} {O:eE} {d k:Nat} {name:ByteArray} {t u:Th}
theorem eY {α:Type} {g:bT->α} (h1:∀o es,g {o with aq:=es}=g o) (h2:∀o l,g {o with aU:=l}=g o) (h3:∀o a b,g {o with bJ:=a,bh:=b}=g o):g (ah (bn X O d name t) k)=g (ah O k):=by
 unfold bn xK
 rw [eP (λo=>h2 o _),eP (λo=>h3 o _ _),eP (λo=>h1 o _)]
theorem mU {α:Type} {g:bT->α} (h1:∀o es,g {o with aq:=es}=g o) (h2:∀o l,g {o with aU:=l}=g o) (h3:∀o a b,g {o with bJ:=a,bh:=b}=g o) (h4:∀o u,g {o with up:=u}=g o):g (ah (dW X O d name t) k)=g (ah O k):=by
 unfold dW xK
 rw [eP (λo=>h3 o _ _),Hz h1 h2 h4]
theorem Inv0.hX (h:Inv0 S):0<=S.X.aq/\S.X.aq<=1048576/\-1125899906842624<=S.X.used/\S.X.used<=1125899906842624/\0<=S.X.last/\S.X.last<=1125899906842624:=by
 have:=h.total;have:=h.used;have:=h.last
 omega
theorem Inv0.mq (h:Inv0 S) (hl:aT S.ay t):(ah S.O t.k).aq.length<=8192:=by
 have h1:=h.total
 have h2:(ah S.O t.k).aq.length<=tot S.ay S.O:=si (g:=λp:Int×Th=>(ah S.O p.2.k).aq.length) hl
 omega
theorem Inv0.lb (h:Inv0 S) (hl:aT S.ay t):0<=(ah S.O t.k).aU/\(ah S.O t.k).aU<=8192:=by
 have h1:=h.total
 have h2:=h.aU t hl
 grind [nE,tot,Wk]
theorem adW {us:bB Th}:hnd us k<=us.length:=by
 have:hnd us k<=gI (λ_=>1) us:=RV (λp _=>by split<;>omega)
 have h2:∀us:bB Th,gI (λ_=>1) us=us.length:=λus=>by
  induction us with
  |nil=>rfl
  |cons p r ih=>show 1+_=_;rw [ih,ahX];omega
 rw [h2] at this;exact this
theorem Inv0.Ot (h:Inv0 S) (hl:aT S.ay t):0<=(ah S.O t.k).aR/\(ah S.O t.k).aR<=1024:=by
 have h1:=h.aR t hl
 have h2:hnd S.us t.k<=S.us.length:=adW
 have:=h.Ez;have:=h.cH
 omega
theorem Inv0.Ou (h:Inv0 S) (hl:aT S.ay t):(ah S.O t.k).data.length<=1125899906842624:=by
 have h1:=h.used
 have h2:(ah S.O t.k).data.length<=bytes S.ay S.O:=si (g:=λp:Int×Th=>(ah S.O p.2.k).data.length) hl
 omega
theorem Inv0.TP (h:Inv0 S) (hl:aT S.ay t):(ah S.O t.k).data.length<=140737488355328:=by
 have h1:=h.used
 have h2:(ah S.O t.k).data.length<=bytes S.ay S.O:=si (g:=λp:Int×Th=>(ah S.O p.2.k).data.length) hl
 omega
theorem Inv0.Wl (h:Inv0 S) (hl:aT S.ay t):(Lit.int .i64 (ah S.O t.k).id).wf=true:=by
 have h1:=h.ob t hl
 have h2:=h.ay _ t hl
 have h3:=h.last
 exact WalkArith.wf_i64 d5
theorem Inv0.vC (h:Inv0 S) (hd:aT S.ay ⟨d,2⟩) (name:ByteArray):bF name (ah S.O d).aq=none\/(∃k,bF name (ah S.O d).aq=some ⟨k,1⟩/\aT S.ay ⟨k,1⟩)\/(∃k,bF name (ah S.O d).aq=some ⟨k,2⟩/\aT S.ay ⟨k,2⟩)\/∃k,bF name (ah S.O d).aq=some ⟨k,3⟩/\aT S.ay ⟨k,3⟩:=by
 cases e:bF name (ah S.O d).aq with
 |none=>exact .inl rfl
 |some t=>
   obtain⟨k,kd⟩:=t
   have h1:=(h.bO hd e).2
   rcases (h.ob _ h1).2.2 with e2|e2|e2<;>subst e2
   all_goals grind
theorem Inv0.adX (h:Inv0 S) (i:Int):aI.get S.ay i=none\/(∃k,aI.get S.ay i=some ⟨k,1⟩/\aT S.ay ⟨k,1⟩)\/(∃k,aI.get S.ay i=some ⟨k,2⟩/\aT S.ay ⟨k,2⟩)\/∃k,aI.get S.ay i=some ⟨k,3⟩/\aT S.ay ⟨k,3⟩:=by
 cases e:aI.get S.ay i with
 |none=>exact .inl rfl
 |some t=>
   obtain⟨k,kd⟩:=t
   have h1:=h.live e
   rcases (h.ob _ h1).2.2 with e2|e2|e2<;>subst e2
   all_goals grind
theorem Inv0.hand (h:Inv0 S) (i:Int):aI.get S.us i=none\/(∃k,aI.get S.us i=some ⟨k,1⟩/\aT S.ay ⟨k,1⟩)\/∃k,aI.get S.us i=some ⟨k,2⟩/\aT S.ay ⟨k,2⟩:=by
 cases e:aI.get S.us i with
 |none=>exact .inl rfl
 |some t=>
   obtain⟨k,kd⟩:=t
   obtain⟨h1,h0⟩:=h.us i _ e
   rcases (h.ob _ h1).2.2 with e2|e2|e2
   all_goals grind
theorem Inv0.afG (h:Inv0 S) (hd:aT S.ay ⟨d,2⟩) (hl:bF name (ah S.O d).aq=some t):1<=S.X.aq:=by
 have h1:=h.total
 have h2:0<nE S.ay S.O t.k:=qM hd hl
 grind [nE,tot,Wk]
theorem Inv0.Gv (h:Inv0 S) (hd:aT S.ay ⟨d,2⟩) (hl:bF name (ah S.O d).aq=some t):0<=S.X.aq-1/\S.X.aq-1<=1048576/\-1125899906842624<=S.X.used/\S.X.used<=1125899906842624/\0<=S.X.last/\S.X.last<=1125899906842624:=by
 have:=h.afG hd hl;have:=h.hX
 omega
theorem HY {L:HL} {us:bB Th} {h:Int} (e:aI.get us h=none):aI.get (dM L us) h=none:=by
 unfold dM;rw [get_map,e];rfl
theorem Dm {L:HL} {us:bB Th} {h:Int} (e:aI.get us h=some t):aI.get (dM L us) h=some (jg L t):=by
 unfold dM;rw [get_map,e];rfl
theorem y5 {L:HL} {us:bB Th} {h:Int} (hn:aI.get us h=none):p4 (dg (dM L us)) (.int .i64 h) (some (jg L t))=dg (dM L (ins h t us)):=by
 rw [Ku (get_none.1 (HY hn))]
 exact zc dg (Kr (jg L) h t us).symm
theorem Wm {L:HL} {us:bB Th}:aI.aS (dM L us)=aI.aS us:=by unfold aI.aS;rw [HM]
theorem Kw {TT:TypeId} {L:HL} {us:bB Th} {v:Value} {l:List HP} {b:Nat} {most aL:Int} (h:v=.tuple #[.int .i64 (aI.aS (dM L us)),.int .i64 0]/\l=[.abs (ia TT b most (max aL (((dM L us).length:Int)+1)) (ins (aI.aS (dM L us)) (jg L t) (dM L us)))]):v=.tuple #[.int .i64 (aI.aS us),.int .i64 0]/\l=[.abs (ia TT b most (max aL ((us.length:Int)+1)) (dM L (ins (aI.aS us) t us)))]:=by
 rw [Wm,wK] at h
 have e:ins (aI.aS us) (jg L t) (dM L us)=dM L (ins (aI.aS us) t us):=(Kr (jg L) (aI.aS us) t us).symm
 rw [e] at h
 exact h
theorem Zt {α:Type} {es:je α} {n:ByteArray} (h:es=[]):bF n es=none:=by rw [h];rfl
end facts
section blocks
variable {O:eE} {L:HL} {k j:Nat} {t u:Th}
theorem FR (hk:(ah O k).kind≠0) {F:Fp} {w:World} (h:(bp (fQ O L)).h F w):∃cs T,w.heap[L.b k]?=some (.cells cs T (0,0)):=by
 obtain⟨G,g⟩:=bp.at k h
 rw [rH hk] at g
 exact⟨_,_,g.1⟩
theorem RW (hk:(ah O k).kind≠0) (hj:(ah O j).kind≠0) {F:Fp} {w:World} (h:(bp (fQ O L)).h F w) (e:L.b k=L.b j):k=j:=by
 apply ahY
 intro cG
 obtain⟨φ,h1,h2,_⟩:=h
 have g1:=h1 k
 have g2:=h1 j
 rw [rH hk] at g1
 rw [rH hj] at g2
 exact h2 k j cG (L.b k) ((g1.2 _).2 rfl) ((g2.2 _).2 e)
theorem Kx:Tryz.prog.underlying 190=some (.pointer 197):=d6
theorem Zu:Tryz.prog.underlying 184=some (.pointer 186):=d6
theorem Zv:Tryz.prog.underlying 187=some (.pointer 189):=d6
end blocks
theorem Zw {s:ByteArray}:0<=Lib.indexByte s.data.toList ((0:Int).toNat.toUInt8)↔¬qz s:=by
 have hge:=Lib.indexByte_ge s.data.toList ((0:Int).toNat.toUInt8)
 constructor
 ·intro h hn
  obtain⟨o,ho⟩:=Int.eq_ofNat_of_zero_le h
  have h1:=(Lib.indexByte_some ho).1
  obtain⟨h2,h3⟩:=Em h1
  exact hn o h2 h3
 intro hn
 apply ahY
 intro fT
 refine hn (λj hj h0=>Lib.indexByte_none (show Lib.indexByte s.data.toList ((0:Int).toNat.toUInt8) = -1 by omega) j ?_)
 rw [xg hj]
 congr 1
 apply aia.1
 exact h0
theorem QT {β:Bs} (s:ByteArray):aW Tryz.prog β 165 #[.string s,.int .u8 0] [] (λv l=>(∃x:Int,v=.int .i64 x/\(0<=x↔¬qz s))/\l=[]):=
 λ_ w hS=>(Tryz.strings_IndexByte s 0 w).mono λ_ _ ⟨h1,h2⟩=>⟨_,[],h1,⟨⟨_,rfl,Zw⟩,rfl⟩,h2 ▸ hS⟩
section ptr
variable {O:eE} {L:HL} {k j:Nat}
theorem Zx:∃j,Tryz.prog.info? 197=some j/\j.size≠0:=by
 have h:(match Tryz.prog.info? 197 with|some j=>j.size != 0|none=>false)=true:=d6
 grind
theorem Wn {w:World} {o:Oper} {ev:Operand->Value} {x y:Operand} (ho:o.op=.binOp .eql 190 x y 190) (hx:ev x=.pointer (some ⟨L.b k,0,none⟩)) (hy:ev y=.pointer (some ⟨L.b j,0,none⟩)) (hk:(ah O k).kind≠0) (hj:(ah O j).kind≠0) {F:Fp} (hF:(bp (fQ O L)).h F w) :
 sx Tryz.prog ev o w (.bool (decide (k=j))) w:=by
 obtain⟨dst,op,type,pos,after,guard⟩:=o
 cases ho
 refine .inl ?_
 simp only [execOp,hx,hy]
 obtain⟨ca,ta,ha⟩:=FR hk hF
 obtain⟨cb,tb,hb⟩:=FR hj hF
 obtain⟨i,hi,eT⟩:=Zx
 have h1:(binOp .eql 190 (.pointer (some ⟨L.b k,0,none⟩)) (.pointer (some ⟨L.b j,0,none⟩))).run Tryz.prog w=.ok (.bool (decide (k=j))) w:=by
  by_cases e:k=j
  ·subst e
   rw [run_eql_ptr_same _ _ Kx hi]
   simp
  rw [run_eql_ptr_other _ Kx hi eT (λh=>e (RW hk hj hF (zc Addr.block h))) ha hb]
  simp [e]
 simp [go_sem,eqGuard,h1]
def Ky (tp te:TypeId):Prop:=Tryz.prog.underlying tp=some (.pointer te)/\(∃i,Tryz.prog.info? tp=some i/\i.comparable=true)/\∃j,Tryz.prog.info? te=some j/\j.size≠0
theorem Kz {tp te:TypeId} (h1:Tryz.prog.underlying tp=some (.pointer te)) (h2:(match Tryz.prog.info? tp with|some j=>j.comparable|none=>false)=true) (h3:(match Tryz.prog.info? te with|some j=>j.size != 0|none=>false)=true):Ky tp te:=by
 grind [Ky]
theorem adY:Ky 184 186:=Kz Zu d6 d6
theorem afH:Ky 190 197:=Kz Kx d6 d6
theorem adZ:Ky 187 189:=Kz Zv d6 d6
theorem HZ {tp te:TypeId} (hT:Ky tp te) {w:World} {o:Oper} {ev:Operand->Value} {x y:Operand} (ho:o.op=.binOp .eql 175 x y 175) (hx:ev x=.iface tp (.pointer (some ⟨L.b k,0,none⟩))) (hy:ev y=.iface tp (.pointer (some ⟨L.b j,0,none⟩))) (hk:(ah O k).kind≠0) (hj:(ah O j).kind≠0) {F:Fp} (hF:(bp (fQ O L)).h F w) :
 sx Tryz.prog ev o w (.bool (decide (k=j))) w:=by
 obtain⟨dst,op,type,pos,after,guard⟩:=o
 cases ho
 refine .inl ?_
 simp only [execOp,hx,hy]
 obtain⟨ca,ta,ha⟩:=FR hk hF
 obtain⟨cb,tb,hb⟩:=FR hj hF
 obtain⟨g1,⟨i,hi,hc⟩,j',hj',eT⟩:=hT
 have h1:(binOp .eql 175 (.iface tp (.pointer (some ⟨L.b k,0,none⟩))) (.iface tp (.pointer (some ⟨L.b j,0,none⟩)))).run Tryz.prog w=.ok (.bool (decide (k=j))) w:=by
  by_cases e:k=j
  ·subst e
   rw [run_eql_iface_ptr_same _ _ Tryz.underlying175 g1 hi hc hj']
   simp
  rw [run_eql_iface_ptr_other _ Tryz.underlying175 g1 hi hc hj' eT (λh=>e (RW hk hj hF (zc Addr.block h))) ha hb]
  simp [e]
 simp [go_sem,eqGuard,h1]
end ptr
structure Bj (O:eE) (ay us:bB Th) (k:Nat):Prop where
 up:∀x,(ah O x).up≠some k
 aq:∀x,∀e∈(ah O x).aq,e.2.k≠k
 ay:∀p∈ay,p.2.k≠k
 us:∀p∈us,p.2.k≠k
section fresh
variable {S:bg} {O:eE} {ay us:bB Th} {L L':HL} {k b m c:Nat} {A:Option Addr} {o:bT} {t:Th}
theorem sX (h:Inv0 S):(dm S.X:Int)=S.X.last+1:=by
 have:=h.last
 unfold dm
 omega
theorem Inv0.EA (h:Inv0 S) (ht:aT S.ay t):t.k≠dm S.X:=h.free (by have:=sX h;omega) ht
theorem Inv0.KA (h:Inv0 S) (hk:S.X.last<(k:Int)):Bj S.O S.ay S.us k:=by
 have key:∀x,(∃t,aT S.ay t/\t.k=x)\/(ah S.O x).aq=[]/\(ah S.O x).up=none:=λx=>by
  by_cases hx:∃t,aT S.ay t/\t.k=x
  ·exact .inl hx
  exact .inr (h.dead x (λt ht e=>hx ⟨t,ht,e⟩))
 refine⟨λx e=>?_,λx e he=>?_,λp hp=>(h.free hk (h.live (ox h.fP hp))),λp hp=>(h.free hk (h.us _ _ (ox h.usr hp)).1)⟩
 ·rcases key x with ⟨t,ht,rfl⟩|hx
  ·obtain⟨_,h2,_⟩:=(h.up t ht _).1 e
   exact h.free hk h2 rfl
  rw [hx.2] at e;cases e
 rcases key x with ⟨t,ht,rfl⟩|hx
 ·exact h.free hk (h.aq t ht e he).2
 rw [hx.1] at he;cases he
theorem Inv0.fresh (h:Inv0 S):Bj S.O S.ay S.us (dm S.X):=h.KA (by have:=sX h;omega)
theorem FT (hL:L'=L.put k b m A c) {x:Nat} (h:x≠k):L'.b x=L.b x:=by subst hL;exact nw h
theorem Ov (hL:L'=L.put k b m A c):L'.b k=b:=by subst hL;exact t8 rfl
theorem Ow (hL:L'=L.put k b m A c):L'.m k=m:=by subst hL;exact t8 rfl
theorem Wo (hL:L'=L.put k b m A c) (h:t.k≠k):jg L' t=jg L t:=by unfold jg;rw [FT hL h]
theorem y6 (hL:L'=L.put k b m A c) (kind:Int):jg L' ⟨k,kind⟩=.iface (thT kind) (.pointer (some ⟨b,0,none⟩)):=by unfold jg;rw [Ov hL]
theorem pZ (hL:L'=L.put k b m A c) (h:∀p∈us,p.2.k≠k):dM L' us=dM L us:=ah6 (λp hp=>by rw [Wo hL (h p hp)])
theorem Zy {es:je Th} {n:ByteArray} (h:∀e∈es,e.2.k≠k) (e:bF n es=some t):t.k≠k:=h _ (q5 e)
theorem Zz (hL:L'=L.put k b m A c) {es:je Th} (h:∀e∈es,e.2.k≠k):nI L' es=nI L es:=by
 unfold nI
 congr 1
 funext n
 cases e:bF n es with
 |none=>rfl
 |some t=>exact zc some (Wo hL (Zy h e))
theorem acJ (hL:L'=L.put k b m A c) (hf:Bj O ay us k) {x:Nat} (h:x≠k):fQ O L' x=fQ O L x:=by
 have e1:=FT hL h
 have e2:lY L' x (ah O x)=lY L x (ah O x):=by
  unfold lY FH
  have h1:LH L' (ah O x).up=LH L (ah O x).up:=by
   cases hu:(ah O x).up with
   |none=>rfl
   |some d=>show Value.pointer _=Value.pointer _;rw [FT hL (λe=>hf.up x (by rw [hu,e]))]
  rw [h1]
  subst hL
  simp only [HL.put,nw h]
 unfold fQ
 rw [e1,e2]
theorem RX (hL:L'=L.put k b m A c) (hf:Bj O ay us k) {x:Nat} (h:x≠k):ig O L' x=ig O L x:=by
 unfold ig
 rw [Zz hL (hf.aq x)]
 subst hL
 simp only [HL.put,nw h]
theorem KC (hL:L'=L.put k b m A c) {x:Nat} (h:x≠k):eX O L' x=eX O L x:=by
 unfold eX
 subst hL
 simp only [HL.put,nw h]
end fresh
theorem zQ {O O':eE} {L:HL} (h1:∀x,(ah O' x).data=(ah O x).data) (h2:∀x,(ah O' x).kind=(ah O x).kind):eX O' L=eX O L:=by
 funext x
 unfold eX
 rw [h1,h2]
theorem oY {X:FM} {O:eE} {L:HL} {d:Nat} {name:ByteArray} {t:Th}:eX (dW X O d name t) L=eX O L:=
 zQ (λ_=>mU (g:=bT.data) (λ_ _=>rfl) (λ_ _=>rfl) (λ_ _ _=>rfl) (λ_ _=>rfl)) (λ_=>QN)
theorem qc {X:FM} {O:eE} {L:HL} {d:Nat} {name:ByteArray} {t:Th}:eX (bn X O d name t) L=eX O L:=
 zQ (λ_=>eY (g:=bT.data) (λ_ _=>rfl) (λ_ _=>rfl) (λ_ _ _=>rfl)) (λ_=>fS)
theorem wL {α:Type} {g:bT->α} {O:eE} {k j:Nat} (h:∀o b,g {o with aJ:=b}=g o):g (ah (sW O j) k)=g (ah O k):=eP (f:=λo=>{o with aJ:=true}) (λo=>h o true)
theorem ZA {O:eE} {L:HL} {k:Nat}:eX (sW O k) L=eX O L:=zQ (λ_=>wL (g:=bT.data) (λ_ _=>rfl)) (λ_=>wL (g:=bT.kind) (λ_ _=>rfl))
theorem um {S:bg} {L:HL} {d:Nat} {name:ByteArray} {t:Th}:eX (aZ S d name t).O L=eX S.O L:=by
 unfold aZ
 simp only
 split
 ·exact ZA.trans qc
 exact qc
theorem Jf {S:bg} {d k:Nat} {name:ByteArray} {t:Th}:(ah (aZ S d name t).O k).kind=(ah S.O k).kind:=by
 unfold aZ
 simp only
 split
 ·exact (wL (g:=bT.kind) (λ_ _=>rfl)).trans fS
 exact fS
theorem xQ {X:FM} {O:eE} {ay:bB Th} {d:Nat} {name:ByteArray} (h:gY X O ay d name=0):bF name (ah O d).aq=none:=by
 grind [gY]
theorem Cd {X:FM} {O:eE} {ay:bB Th} {d:Nat} {name:ByteArray} (h:gY X O ay d name=0):Room X ay:=by
 grind [gY]
theorem Ce {X:FM} {O:eE} {ay:bB Th} {d:Nat} {name:ByteArray} (h:gY X O ay d name=0):X.last<1099511627776:=(Cd h).2.1
section sat
variable {β:Bs} {l l':List HP} {w:World} {i j k b m c:Nat} {O:eE} {us:bB Th} {idx' us':bB Th} {L L':HL} {cs:List Value} {T:TypeId} {ix:List Nat} {A:Option Addr} {o:bT} {R R':Nat->eG}
theorem aQ.less {p p':HP} (h:aQ β l w) (hp:l[i]?=some p) (hs:∀F,p.h F w->∃F',p'.h F' w/\∀x,F' x->F x):aQ β (l.set i p') w:=
 h.set hp (λF hF=>let ⟨F',h1,h2⟩:=hs F hF;⟨F',h1,⟨cK.refl _ _,λk hk=>.inl (h2 k hk)⟩⟩)
theorem aQ.Wp (h:aQ β l w) (hp:l[i]?=some (.abs (bp R))) (k:Nat) (hR:∀x,x≠k->R' x=R x) (ha:R' k=eG.none):aQ β (l.set i (.abs (bp R'))) w:=by
 refine h.less hp ?_
 rintro F ⟨φ,h1,h2,h3⟩
 refine⟨λx=>∃i,i≠k/\φ i x,⟨λi=>if i=k then λ_=>False else φ i,λi=>?_,λi j cG x hx hy=>?_,λx=>⟨λ⟨i,cG,hx⟩=>⟨i,by simpa [cG] using hx⟩,λ⟨i,hx⟩=>?_⟩⟩,λx ⟨i,_,hx⟩=>(h3 x).2 ⟨i,hx⟩⟩
 ·by_cases e:i=k
  ·subst e;simp only [if_true];rw [ha];exact λ_ h=>h
  grind
 ·by_cases e1:i=k
  ·simp [e1] at hx
  by_cases e2:j=k
  ·simp [e2] at hy
  exact h2 i j cG x (by simpa [e1] using hx) (by simpa [e2] using hy)
 by_cases e1:i=k
 ·simp [e1] at hx
 exact⟨i,e1,by simpa [e1] using hx⟩
theorem aQ.FU (h:aQ β l w) (hL:L'=L.put k b m A c) (hf:Bj O idx' us' k) (hp:l[i]?=some (.abs (bp (fQ O L)))) (hq:l[j]?=some (.aD b cs T)) (hd:bS (i::j::ix)=true) (hl:cR l ix=some l') (h0:o.kind≠0) (hc:lY L' k o=cs) (hT:yh o.kind=T):aQ β (.abs (bp (fQ (bE O k (λ_=>o)) L'))::l') w:=by
 refine h.yP (a:=Km b cs T) hp hq (λ_ _ h=>h) hd hl k (λx hx=>?_) (by grind [FI,Ov])
 rw [I4 hx,acJ hL hf hx]
theorem aQ.abD (h:aQ β l w) (hL:L'=L.put k b m A c) (hf:Bj O idx' us' k) (hp:l[i]?=some (.abs (bp (ig O L)))) (hq:l[j]?=some (.abs (bK Tryz.prog 9 m (λ_=>none) 0))) (hd:bS (i::j::ix)=true) (hl:cR l ix=some l') (h2:o.kind=2) (he:o.aq=[]):aQ β (.abs (bp (ig (bE O k (λ_=>o)) L'))::l') w:=by
 refine h.yP hp hq (λ_ _ h=>h) hd hl k (λx hx=>by rw [I5 hx,RX hL hf hx]) ?_
 grind [uN,iq,Zh,Ow]
theorem aQ.Jg (h:aQ β l w) (hL:L'=L.put k b m A c) (hf:Bj O idx' us' k) (hp:l[i]?=some (.abs (bp (ig O L)))) (h2:o.kind≠2):aQ β (l.set i (.abs (bp (ig (bE O k (λ_=>o)) L')))) w:=by
 refine h.Wp hp k (λx hx=>by rw [I5 hx,RX hL hf hx]) ?_
 unfold ig;rw [iq,nw h2]
theorem aQ.Jh (h:aQ β l w) (hL:L'=L.put k b m A c) (hp:l[i]?=some (.abs (bp (eX O L)))) (h1:o.kind≠1):aQ β (l.set i (.abs (bp (eX (bE O k (λ_=>o)) L')))) w:=by
 refine h.Wp hp k (λx hx=>by rw [I6 hx,KC hL hx]) ?_
 unfold eX;rw [iq,nw h1]
theorem aQ.afI (h:aQ β l w) (hL:L'=L.put k b m none 0) (hp:l[i]?=some (.abs (bp (eX O L)))) (hq:l[j]?=some (.abs (aK 5 1 none 0 0 []))) (hd:bS (i::j::ix)=true) (hl:cR l ix=some l') (h1:o.kind=1) (he:o.data=[]):aQ β (.abs (bp (eX (bE O k (λ_=>o)) L'))::l') w:=by
 refine h.yP hp hq (λ_ _ h=>h) hd hl k (λx hx=>by rw [I6 hx,KC hL hx]) ?_
 rw [zK (by rw [iq];exact h1),iq,he]
 subst hL
 simp only [HL.put,if_true]
 rfl
end sat
section inv
variable {S:bg} {d:Nat} {name:ByteArray} {t:Th} {O':eE}
theorem pP.del {es:je Th} (h:pP es):pP (kP name es):=aiA _ h
theorem Ji {x y:ByteArray}:¬iR x y↔vm y x<0:=by
 unfold iR
 rw [Ea,Lib.toList_data,Lib.toList_data]
 have h1:=@Lr x.data.toList y.data.toList
 grind [Lv,Ec,vm]
theorem pP.ins {es:je Th} (h:pP es) (hn:bF name es=none):pP (kO name t es):=by
 induction es with
 |nil=>exact List.pairwise_singleton ..
 |cons e r ih=>
   obtain⟨h1,h2⟩:=ahP.1 h
   have jW:=Dh.1 hn
   unfold kO
   split
   ·rename_i fT
    refine ahP.2 ⟨λx hx=>?_,h⟩
    grind [Ji,II]
   rename_i dV
   refine ahP.2 ⟨λx hx=>?_,ih h2 (Dh.2 (λx hx=>jW x (T4 _ hx)))⟩
   grind [Hw,Ji,vm,Ec,Lv]
theorem Inv0.cut (hI:Inv0 S) (hd:aT S.ay ⟨d,2⟩) (hl:bF name (ah S.O d).aq=some t) {g:Bool}
 (hO:∀k,ah O' k=if k=d then {ah S.O d with aq:=kP name (ah S.O d).aq,bJ:=S.X.cS,bh:=S.X.cZ} else if k=t.k then {ah S.O k with aU:=(ah S.O k).aU-1,aJ:=g,up:=none} else ah S.O k)
 (hg:g=(ah S.O t.k).aJ\/(ah S.O t.k).aU-1=0/\(t.kind=2->(ah S.O t.k).aq=[])):Inv0 {S with X:={S.X with aq:=S.X.aq-1},O:=O' }:=by
 have cG:=hI.ne hd hl
 have ht:=(hI.bO hd hl).2
 have oD:ah O' d={ah S.O d with aq:=kP name (ah S.O d).aq,bJ:=S.X.cS,bh:=S.X.cZ}:=by rw [hO,t8 rfl]
 have oT:ah O' t.k={ah S.O t.k with aU:=(ah S.O t.k).aU-1,aJ:=g,up:=none}:=by rw [hO,nw cG,t8 rfl]
 have oX:∀x,x≠d->x≠t.k->ah O' x=ah S.O x:=gn
 have Gw:∀{α:Type} (G:bT->α),(∀o es a b,G {o with aq:=es,bJ:=a,bh:=b}=G o)->(∀o l g,G {o with aU:=l,aJ:=g,up:=none}=G o)->∀x,G (ah O' x)=G (ah S.O x):=λG h1 h2 x=>by
  grind
 have fId:=Gw bT.id (λ_ _ _ _=>rfl) (λ_ _ _=>rfl)
 have Jj:=Gw bT.kind (λ_ _ _ _=>rfl) (λ_ _ _=>rfl)
 have TQ:=Gw bT.data (λ_ _ _ _=>rfl) (λ_ _ _=>rfl)
 have fOp:=Gw bT.aR (λ_ _ _ _=>rfl) (λ_ _ _=>rfl)
 have fE:∀x,x≠d->(ah O' x).aq=(ah S.O x).aq:=λx hx=>by
  grind
 have LO:(ah O' d).aq=kP name (ah S.O d).aq:=by rw [oD]
 have fA:0<nE S.ay S.O t.k:=qM hd hl
 have fT:=hI.aU t ht
 have hky:∀i u,aI.get S.ay i=some u->i=(u.k:Int):=λi u e=>hI.key e
 have hsum:∀q:ByteArray×Th->Bool,_:=λq=>Oq (q:=q) hI.fP hd hky fE LO (hI.pQ hd) hl
 have ZB:∀x,nE S.ay O' x+(if t.k=x then 1 else 0)=nE S.ay S.O x:=λx=>by
  have h1:=hsum (λe=>decide (e.2.k=x))
  simp only [decide_eq_true_eq] at h1
  exact h1
 refine {hI with ob:=λx hx=>?_,mt:=λx hx=>?_,aq:=λx hx e he=>?_,sorted:=λx hx=>?_,dead:=λx hx=>?_,Bh:=λx hx=>(Jj x).trans (hI.Bh x hx),total:=?_,aU:=λx hx=>?_,once:=λx hx hk=>?_,aR:=λx hx=>?_,aJ:=λx hx oy=>?_,up:=λx hx e=>?_,deep:=?_,used:=?_}
 ·show (ah O' x.k).id=_/\(ah O' x.k).kind=_/\_
  rw [fId,Jj];exact hI.ob x hx
 ·show qL (ah O' x.k)
  have hm:=hI.mt x hx
  by_cases e:x.k=d
  ·rw [e] at hm ⊢
   rw [oD]
   exact hm.of rfl rfl rfl hI.now rfl (.inl rfl) (.inr (hI.kind hd)) rfl
  by_cases e2:x.k=t.k
  ·rw [e2] at hm ⊢
   rw [oT]
   exact hm.of rfl rfl rfl hm.time rfl (.inl rfl) (.inl rfl) rfl
  rw [oX _ e e2];exact hm
 ·by_cases e1:x.k=d
  ·have he:e∈(ah O' x.k).aq:=he
   rw [e1,LO] at he
   exact hI.aq _ hd e (Oo he).1
  have he:e∈(ah O' x.k).aq:=he
  rw [fE _ e1] at he
  exact hI.aq x hx e he
 ·show pP (ah O' x.k).aq
  by_cases e1:x.k=d
  ·rw [e1,LO];exact pP.del (hI.sorted _ hd)
  rw [fE _ e1];exact hI.sorted x hx
 ·show (ah O' x).aq=[]/\(ah O' x).up=none
  rw [oX x (λe=>hx _ hd e.symm) (λe=>hx t ht e.symm)]
  exact hI.dead x hx
 ·have h1:=hsum (λ_=>true)
  have h2:=hI.total
  grind [xO,tot]
 ·show (ah O' x.k).aU=(nE S.ay O' x.k:Int)
  have h1:=ZB x.k
  have h2:=hI.aU x hx
  grind
 ·show (ah O' x.k).aU<=1
  have h1:=hI.once x hx hk
  grind
 ·show (ah O' x.k).aR=_
  rw [fOp];exact hI.aR x hx
 ·have oy:(ah O' x.k).aJ=true:=oy
  show (ah O' x.k).aU=0/\(ah O' x.k).aq=[]
  by_cases e2:x.k=t.k
  ·rw [e2] at oy ⊢
   rw [fE _ cG,oT]
   rw [oT] at oy
   show (ah S.O t.k).aU-1=0/\_
   rcases hg with h|⟨h1,h2⟩
   ·have oy:g=true:=oy
    rw [h] at oy
    have:=(hI.aJ t ht oy).1
    omega
   refine⟨h1,?_⟩
   by_cases hk:t.kind=2
   ·exact h2 hk
   exact (hI.mt t ht).aq (by rw [hI.kind ht];exact hk)
  by_cases e:x.k=d
  ·rw [e,oD] at oy
   have:=(hI.aJ _ hd oy).2
   rw [Zt this] at hl;cases hl
  rw [oX _ e e2] at oy ⊢;exact hI.aJ x hx oy
 ·show (ah O' x.k).up=some e↔x.kind=2/\aT S.ay ⟨e,2⟩/\∃n,bF n (ah O' e).aq=some x
  by_cases e2:x.k=t.k
  ·have LP:x=t:=jJ hx ht e2
   subst LP
   rw [oT]
   constructor
   ·intro h;cases h
   rintro⟨hk,dV,n,hn⟩
   have h1:=hI.once x hx hk
   grind [nE,qM,aT,bF,ah,kP,up]
  have h1:(ah O' x.k).up=(ah S.O x.k).up:=by
   grind
  have h2:∀n,bF n (ah O' e).aq=some x↔bF n (ah S.O e).aq=some x:=λn=>by
   grind [xI]
  rw [h1,hI.up x hx e]
  simp only [h2]
 ·obtain⟨dp,hdp⟩:=hI.deep
  refine⟨dp,λx e hx=>?_⟩
  grind
 have:bytes S.ay O'=bytes S.ay S.O:=lG (λp _=>by rw [TQ])
 show S.X.used=(bytes S.ay O':Int)/\_
 rw [this];exact hI.used
theorem TR {O O1:eE} {s k:Nat} (h:∀x e,(ah O1 x).up=some e->(ah O x).up=some e) (hb:rY O1 s k):rY O s k:=by
 induction hb with
 |here=>exact .here
 |up hu _ ih=>exact .up (h _ _ hu) ih
theorem LQ {O:eE} {s k:Nat}:rY O s k↔k=s\/∃e,(ah O k).up=some e/\rY O s e:=by
 constructor
 ·rintro (_|⟨h1,h2⟩)
  ·exact .inl rfl
  exact .inr ⟨_,h1,h2⟩
 rintro (h|⟨e,h1,h2⟩)
 ·subst h;exact .here
 exact .up h1 h2
theorem Inv0.put (hI:Inv0 S) (hd:aT S.ay ⟨d,2⟩) (nG:(ah S.O d).aJ=false) (hn:bF name (ah S.O d).aq=none) (hgn:bU name) (ht:aT S.ay t) (RQ:(ah S.O t.k).aJ=false) (ad0:t.kind=2->(ah S.O t.k).aU=0/\¬rY S.O t.k d) (htd:t.k≠d) (hroom:S.X.aq<8192) {ta tb:Int} (htm:iM ta tb)
 (hO:∀k,ah O' k=if k=d then {ah S.O d with aq:=kO name t (ah S.O d).aq,bJ:=ta,bh:=tb} else if k=t.k then {ah S.O k with aU:=(ah S.O k).aU+1,up:=if t.kind=2 then some d else (ah S.O k).up} else ah S.O k) :
 Inv0 {S with X:={S.X with aq:=S.X.aq+1},O:=O' }:=by
 have cG:=htd
 have oD:ah O' d={ah S.O d with aq:=kO name t (ah S.O d).aq,bJ:=ta,bh:=tb}:=by rw [hO,t8 rfl]
 have oT:ah O' t.k={ah S.O t.k with aU:=(ah S.O t.k).aU+1,up:=if t.kind=2 then some d else (ah S.O t.k).up}:=by rw [hO,nw cG,t8 rfl]
 have oX:∀x,x≠d->x≠t.k->ah O' x=ah S.O x:=gn
 have Gw:∀{α:Type} (G:bT->α),(∀o es a b,G {o with aq:=es,bJ:=a,bh:=b}=G o)->(∀o l u,G {o with aU:=l,up:=u}=G o)->∀x,G (ah O' x)=G (ah S.O x):=λG h1 h2 x=>by
  grind
 have fId:=Gw bT.id (λ_ _ _ _=>rfl) (λ_ _ _=>rfl)
 have Jj:=Gw bT.kind (λ_ _ _ _=>rfl) (λ_ _ _=>rfl)
 have TQ:=Gw bT.data (λ_ _ _ _=>rfl) (λ_ _ _=>rfl)
 have fOp:=Gw bT.aR (λ_ _ _ _=>rfl) (λ_ _ _=>rfl)
 have fG:=Gw bT.aJ (λ_ _ _ _=>rfl) (λ_ _ _=>rfl)
 have fE:∀x,x≠d->(ah O' x).aq=(ah S.O x).aq:=λx hx=>by
  grind
 have LO:(ah O' d).aq=kO name t (ah S.O d).aq:=by rw [oD]
 have hky:∀i u,aI.get S.ay i=some u->i=(u.k:Int):=λi u e=>hI.key e
 have hsum:∀q:ByteArray×Th->Bool,_:=λq=>Zs (q:=q) hI.fP hd hky fE LO
 have ZB:∀x,nE S.ay O' x=nE S.ay S.O x+(if t.k=x then 1 else 0):=λx=>by
  have h1:=hsum (λe=>decide (e.2.k=x))
  simp only [decide_eq_true_eq] at h1
  exact h1
 have fT:=hI.aU t ht
 have ahw:t.kind=2->∀e n,aT S.ay ⟨e,2⟩->bF n (ah S.O e).aq≠some t:=λhk e n dV h=>by
  have h1:0<nE S.ay S.O t.k:=qM dV h
  have:=(ad0 hk).1
  omega
 refine {hI with ob:=λx hx=>?_,mt:=λx hx=>?_,aq:=λx hx e he=>?_,sorted:=λx hx=>?_,dead:=λx hx=>?_,Bh:=λx hx=>(Jj x).trans (hI.Bh x hx),total:=?_,aU:=λx hx=>?_,once:=λx hx hk=>?_,aR:=λx hx=>?_,aJ:=λx hx oy=>?_,up:=λx hx e=>?_,deep:=?_,used:=?_}
 ·show (ah O' x.k).id=_/\(ah O' x.k).kind=_/\_
  rw [fId,Jj];exact hI.ob x hx
 ·show qL (ah O' x.k)
  have hm:=hI.mt x hx
  by_cases e:x.k=d
  ·rw [e] at hm ⊢
   rw [oD]
   exact hm.of rfl rfl rfl htm rfl (.inl rfl) (.inr (hI.kind hd)) rfl
  by_cases e2:x.k=t.k
  ·rw [e2] at hm ⊢
   rw [oT]
   exact hm.of rfl rfl rfl hm.time rfl (.inl rfl) (.inl rfl) rfl
  rw [oX _ e e2];exact hm
 ·have he:e∈(ah O' x.k).aq:=he
  by_cases e1:x.k=d
  ·rw [e1,LO] at he
   rcases Hw.1 he with rfl|he
   ·exact⟨hgn,ht⟩
   exact hI.aq _ hd e he
  rw [fE _ e1] at he
  exact hI.aq x hx e he
 ·show pP (ah O' x.k).aq
  by_cases e1:x.k=d
  ·rw [e1,LO];exact pP.ins (hI.sorted _ hd) hn
  rw [fE _ e1];exact hI.sorted x hx
 ·show (ah O' x).aq=[]/\(ah O' x).up=none
  rw [oX x (λe=>hx _ hd e.symm) (λe=>hx t ht e.symm)]
  exact hI.dead x hx
 ·have h1:=hsum (λ_=>true)
  have h2:=hI.total
  grind [xO,tot]
 ·show (ah O' x.k).aU=(nE S.ay O' x.k:Int)
  have h1:=ZB x.k
  have h2:=hI.aU x hx
  grind
 ·show (ah O' x.k).aU<=1
  have h1:=hI.once x hx hk
  grind [jJ,ah]
 ·show (ah O' x.k).aR=_
  rw [fOp];exact hI.aR x hx
 ·have oy:(ah O' x.k).aJ=true:=oy
  rw [fG] at oy
  show (ah O' x.k).aU=0/\(ah O' x.k).aq=[]
  by_cases e2:x.k=t.k
  ·rw [e2,RQ] at oy;cases oy
  by_cases e:x.k=d
  ·rw [e,nG] at oy;cases oy
  rw [oX _ e e2];exact hI.aJ x hx oy
 ·show (ah O' x.k).up=some e↔x.kind=2/\aT S.ay ⟨e,2⟩/\∃n,bF n (ah O' e).aq=some x
  by_cases e2:x.k=t.k
  ·have LP:x=t:=jJ hx ht e2
   subst LP
   rw [oT]
   show (if x.kind=2 then some d else (ah S.O x.k).up)=some e↔_
   by_cases hk:x.kind=2
   ·rw [t8 hk]
    constructor
    ·intro h
     cases h
     exact⟨hk,hd,name,by rw [LO,Er hn,t8 rfl]⟩
    grind
   rw [nw hk,hI.up x hx e]
   grind
  have h1:(ah O' x.k).up=(ah S.O x.k).up:=by
   grind
  have h2:∀n,bF n (ah O' e).aq=some x↔bF n (ah S.O e).aq=some x:=λn=>by
   grind [Er]
  rw [h1,hI.up x hx e]
  simp only [h2]
 ·obtain⟨dp,hdp⟩:=hI.deep
  by_cases hk:t.kind=2
  ·obtain⟨hl0,hnb⟩:=ad0 hk
   have ahx:(ah S.O t.k).up=none:=by
    cases hu:(ah S.O t.k).up with
    |none=>rfl
    |some e=>
      grind [aT,ah,bF,bU,iM,kO,up]
   refine⟨λx=>if rY S.O t.k x then dp x+dp d+1 else dp x,λx e hx=>?_⟩
   grind [ah,up,LQ]
  refine⟨dp,λx e hx=>?_⟩
  grind
 have:bytes S.ay O'=bytes S.ay S.O:=lG (λp _=>by rw [TQ])
 show S.X.used=(bytes S.ay O':Int)/\_
 rw [this];exact hI.used
end inv
section new
variable {S:bg} {d:Nat} {name:ByteArray} {t:Th} {o:bT} {us':bB Th} {lH:Int}
theorem Inv0.newAt (hI:Inv0 S) {k0:Nat} (fT:S.X.last<(k0:Int)) (dV:(k0:Int)<=1099511627776) {sj:Int} (ahd:sj=S.X.used+o.data.length/\sj<=140737488355328) (hid:o.id=(k0:Int)) (hk3:o.kind=1\/o.kind=2\/o.kind=3) (hl0:o.aU=0) (he0:o.aq=[]) (hu0:o.up=none) (hg0:o.aJ=false) (hm:qL o) (jT:S.ay.length<4096)
 (u1:aI.dK (aY us')) (u2:∀x∈aY us',1<=x/\x<=lH) (u3:(us'.length:Int)<=S.X.cH) (u4:0<=lH/\lH<=S.X.cH) (u5:∀h t,aI.get us' h=some t->(aT S.ay t\/t=⟨k0,o.kind⟩)/\t.kind≠3) (u6:∀k,k≠k0->hnd us' k=hnd S.us k) (u7:o.aR=(hnd us' (k0):Int)) :
 Inv0 {S with X:={S.X with last:=(k0:Int),used:=sj},O:=bE S.O (k0) (λ_=>o),ay:=ins ((k0:Int)) ⟨k0,o.kind⟩ S.ay,us:=us',aL:=lH}:=by
 have hnot:aI.get S.ay ((k0:Int))=none:=by
  cases e:aI.get S.ay ((k0:Int)) with
  |none=>rfl
  |some u=>have:=(hI.ay _ u e).2.2;omega
 have hget:∀i,aI.get (ins ((k0:Int)) ⟨k0,o.kind⟩ S.ay) i=if i=(k0:Int) then some ⟨k0,o.kind⟩ else aI.get S.ay i:=by grind [sU,get_none]
 have kJ:∀x,aT (ins ((k0:Int)) ⟨k0,o.kind⟩ S.ay) x↔x=⟨k0,o.kind⟩\/aT S.ay x:=λx=>by
  grind [aT]
 have oN:ah (bE S.O (k0) (λ_=>o)) (k0)=o:=iq
 have oX:∀x,aT S.ay x->ah (bE S.O (k0) (λ_=>o)) x.k=ah S.O x.k:=λx hx=>jf (hI.free fT hx)
 have hfr:=hI.KA fT
 have hmem:∀p∈S.ay,ah (bE S.O (k0) (λ_=>o)) p.2.k=ah S.O p.2.k:=λp hp=>jf (hfr.ay p hp)
 have hsum:∀g:bT->Nat,g o=0->gI (λp:Int×Th=>g (ah (bE S.O (k0) (λ_=>o)) p.2.k)) (ins ((k0:Int)) ⟨k0,o.kind⟩ S.ay)=gI (λp:Int×Th=>g (ah S.O p.2.k)) S.ay:=λg hg=>by
  grind [HT,ah,lG]
 refine {hI with last:=?_,fP:=(zM hI.fP (get_none.1 hnot)),len:=?_,ay:=λi x e=>?_,ob:=λx hx=>?_,mt:=λx hx=>?_,aq:=λx hx e he=>?_,sorted:=λx hx=>?_,dead:=λx hx=>?_,Bh:=λx hx=>?_,total:=?_,aU:=λx hx=>?_,once:=λx hx hk=>?_,aR:=λx hx=>?_,usr:=u1,wj:=u2,Ez:=u3,aL:=u4,us:=λh x e=>?_,aJ:=λx hx oy=>?_,up:=λx hx e=>?_,deep:=?_,used:=?_}
 ·grind
 ·grind [ins,kK]
 ·have e:aI.get (ins ((k0:Int)) ⟨k0,o.kind⟩ S.ay) i=some x:=e
  rw [hget] at e
  have:=hI.last
  show i=(x.k:Int)/\0<i/\i<=(k0:Int)
  split at e
  ·grind
  have:=hI.ay i x e
  omega
 ·show (ah (bE S.O (k0) (λ_=>o)) x.k).id=_/\(ah (bE S.O (k0) (λ_=>o)) x.k).kind=_/\_
  rcases (kJ x).1 hx with h|h
  ·subst h;rw [oN];exact⟨hid,rfl,hk3⟩
  rw [oX x h];exact hI.ob x h
 ·show qL (ah (bE S.O (k0) (λ_=>o)) x.k)
  rcases (kJ x).1 hx with h|h
  ·subst h;rw [oN];exact hm
  rw [oX x h];exact hI.mt x h
 ·have he:e∈(ah (bE S.O (k0) (λ_=>o)) x.k).aq:=he
  rcases (kJ x).1 hx with h|h
  ·subst h;rw [oN,he0] at he;cases he
  rw [oX x h] at he
  have h1:=hI.aq x h e he
  exact⟨h1.1,(kJ _).2 (.inr h1.2)⟩
 ·show pP (ah (bE S.O (k0) (λ_=>o)) x.k).aq
  rcases (kJ x).1 hx with h|h
  ·subst h;rw [oN,he0];exact List.Pairwise.nil
  rw [oX x h];exact hI.sorted x h
 ·show (ah (bE S.O (k0) (λ_=>o)) x).aq=[]/\(ah (bE S.O (k0) (λ_=>o)) x).up=none
  have h1:x≠k0:=λe=>hx ⟨k0,o.kind⟩ ((kJ _).2 (.inl rfl)) e.symm
  rw [jf h1]
  exact hI.dead x (λu hu=>hx u ((kJ _).2 (.inr hu)))
 ·have hx:(k0:Int)<(x:Int):=hx
  show (ah (bE S.O (k0) (λ_=>o)) x).kind=0
  rw [jf (λe=>by rw [e] at hx;omega)]
  exact hI.Bh x d5
 ·show S.X.aq=(tot _ _:Int)/\S.X.aq<=8192
  have:tot (ins ((k0:Int)) ⟨k0,o.kind⟩ S.ay) (bE S.O (k0) (λ_=>o))=tot S.ay S.O:=hsum (λo=>o.aq.length) (by rw [he0];rfl)
  rw [this];exact hI.total
 ·show (ah (bE S.O (k0) (λ_=>o)) x.k).aU=(nE _ _ x.k:Int)
  have:nE (ins ((k0:Int)) ⟨k0,o.kind⟩ S.ay) (bE S.O (k0) (λ_=>o)) x.k=nE S.ay S.O x.k:=hsum (λo=>o.aq.countP (λe:ByteArray×Th=>decide (e.2.k=x.k))) (by rw [he0];rfl)
  rw [this]
  rcases (kJ x).1 hx with h|h
  ·subst h
   rw [oN,hl0]
   have:nE S.ay S.O (k0)=0:=by
    apply ahY
    intro cG
    obtain⟨i,u,hu,e,he,hek⟩:=Je hI.fP (Nat.pos_of_ne_zero cG)
    exact hfr.aq u.k e he hek
   rw [this];rfl
  rw [oX x h];exact hI.aU x h
 ·show (ah (bE S.O (k0) (λ_=>o)) x.k).aU<=1
  rcases (kJ x).1 hx with h|h
  ·subst h;rw [oN,hl0];decide
  rw [oX x h];exact hI.once x h hk
 ·show (ah (bE S.O (k0) (λ_=>o)) x.k).aR=(hnd us' x.k:Int)
  rcases (kJ x).1 hx with h|h
  ·subst h;rw [oN];exact u7
  rw [oX x h,u6 _ (hI.free fT h)];exact hI.aR x h
 ·grind
 ·have oy:(ah (bE S.O (k0) (λ_=>o)) x.k).aJ=true:=oy
  show (ah (bE S.O (k0) (λ_=>o)) x.k).aU=0/\(ah (bE S.O (k0) (λ_=>o)) x.k).aq=[]
  rcases (kJ x).1 hx with h|h
  ·subst h;rw [oN,hg0] at oy;cases oy
  rw [oX x h] at oy ⊢;exact hI.aJ x h oy
 ·show (ah (bE S.O (k0) (λ_=>o)) x.k).up=some e↔x.kind=2/\aT _ ⟨e,2⟩/\∃n,bF n (ah (bE S.O (k0) (λ_=>o)) e).aq=some x
  rcases (kJ x).1 hx with h|h
  ·subst h
   rw [oN,hu0]
   constructor
   ·intro h;cases h
   rintro⟨_,dV,n,h⟩
   by_cases e2:e=k0
   ·rw [e2,oN,he0] at h;cases h
   rw [jf e2] at h;exact KB rfl (hfr.aq e _ (q5 h))
  rw [oX x h,hI.up x h e]
  constructor
  ·grind
  rintro⟨h1,h2,n,h3⟩
  by_cases e2:e=k0
  ·rw [e2,oN,he0] at h3;cases h3
  grind
 ·obtain⟨dp,hdp⟩:=hI.deep
  refine⟨dp,λx e hx=>?_⟩
  grind [ah,bE,up,jf]
 show sj=(bytes _ _:Int)/\_
 have h1:bytes (ins (k0:Int) ⟨k0,o.kind⟩ S.ay) (bE S.O k0 (λ_=>o))=o.data.length+bytes S.ay S.O:=by
  grind [bytes,HT,ah,lG]
 have h2:=hI.used
 grind
theorem Inv0.new (hI:Inv0 S) (hid:o.id=S.X.last+1) (hk3:o.kind=1\/o.kind=2\/o.kind=3) (hl0:o.aU=0) (he0:o.aq=[]) (hu0:o.up=none) (hg0:o.aJ=false) (Jk:o.data=[]) (hm:qL o) (hlast:S.X.last<1099511627776) (jT:(S.ay.length:Int)<S.X.cN)
 (u1:aI.dK (aY us')) (u2:∀x∈aY us',1<=x/\x<=lH) (u3:(us'.length:Int)<=S.X.cH) (u4:0<=lH/\lH<=S.X.cH) (u5:∀h t,aI.get us' h=some t->(aT S.ay t\/t=⟨dm S.X,o.kind⟩)/\t.kind≠3) (u6:∀k,k≠dm S.X->hnd us' k=hnd S.us k) (u7:o.aR=(hnd us' (dm S.X):Int)) :
 Inv0 {S with X:={S.X with last:=S.X.last+1},O:=bE S.O (dm S.X) (λ_=>o),ay:=ins (S.X.last+1) ⟨dm S.X,o.kind⟩ S.ay,us:=us',aL:=lH}:=by
 have hnk:=sX hI
 have h:=hI.newAt (k0:=dm S.X) (sj:=S.X.used) d5 d5 ⟨by rw [Jk];simp,hI.used.2⟩ (hid.trans hnk.symm) hk3 hl0 he0 hu0 hg0 hm (by have:=hI.cN;omega) u1 u2 u3 u4 u5 u6 u7
 rw [hnk] at h
 exact h
theorem bC.add (hI:bC S) (hd:aT S.ay ⟨d,2⟩) (nG:(ah S.O d).aJ=false) (hn:bF name (ah S.O d).aq=none) (hgn:bU name) (hroom:Room S.X S.ay)
 (hid:o.id=S.X.last+1) (hk3:o.kind=1\/o.kind=2\/o.kind=3) (hl0:o.aU=0) (he0:o.aq=[]) (hu0:o.up=none) (hg0:o.aJ=false) (Jk:o.data=[]) (hm:qL o)
 (u1:aI.dK (aY us')) (u2:∀x∈aY us',1<=x/\x<=lH) (u3:(us'.length:Int)<=S.X.cH) (u4:0<=lH/\lH<=S.X.cH) (u5:∀h t,aI.get us' h=some t->(aT S.ay t\/t=⟨dm S.X,o.kind⟩)/\t.kind≠3) (u6:∀k,k≠dm S.X->hnd us' k=hnd S.us k) (u7:o.aR=(hnd us' (dm S.X):Int)) :
 bC (gU {S with us:=us',aL:=lH} d name o):=by
 have h1:=hI.toInv0.new hid hk3 hl0 he0 hu0 hg0 Jk hm hroom.2.1 hroom.1 u1 u2 u3 u4 u5 u6 u7
 have cG:d≠dm S.X:=hI.EA hd
 have hnk:=sX hI.toInv0
 have hnot:aI.get S.ay (S.X.last+1)=none:=by
  cases e:aI.get S.ay (S.X.last+1) with
  |none=>rfl
  |some u=>have:=(hI.ay _ u e).2.2;omega
 have hget:∀i,aI.get (ins (S.X.last+1) ⟨dm S.X,o.kind⟩ S.ay) i=if i=S.X.last+1 then some ⟨dm S.X,o.kind⟩ else aI.get S.ay i:=by grind [sU,get_none]
 have hdl:aT (ins (S.X.last+1) ⟨dm S.X,o.kind⟩ S.ay) ⟨d,2⟩:=by
  grind [aT]
 have hnl:aT (ins (S.X.last+1) ⟨dm S.X,o.kind⟩ S.ay) ⟨dm S.X,o.kind⟩:=by
  unfold aT
  rw [hget,t8 hnk]
 have oN:ah (bE S.O (dm S.X) (λ_=>o)) (dm S.X)=o:=iq
 have oD:ah (bE S.O (dm S.X) (λ_=>o)) d=ah S.O d:=jf cG
 have hnb:¬rY (bE S.O (dm S.X) (λ_=>o)) (dm S.X) d:=λhb=>by
  have key:∀x,rY (bE S.O (dm S.X) (λ_=>o)) (dm S.X) x->x=dm S.X:=λx hx=>by
   induction hx with
   |here=>rfl
   | @up k j hu _ ih=>
     subst ih
     by_cases e:k=dm S.X
     ·exact e
     rw [jf e] at hu;exact KB hu (hI.fresh.up k)
  exact cG (key d hb)
 have h2:=h1.put (d:=d) (name:=name) (t:=⟨dm S.X,o.kind⟩) (O':=(gU {S with us:=us',aL:=lH} d name o).O) hdl (by rw [oD];exact nG) (by rw [oD];exact hn) hgn hnl (by rw [oN];exact hg0) (λ_=>⟨by rw [oN];exact hl0,hnb⟩) (λe=>cG e.symm) hroom.2.2 h1.now (λk=>uQ (λe=>cG e.symm))
 refine⟨h2,λx hx oy=>?_⟩
 have g1:∀k,(ah (gU {S with us:=us',aL:=lH} d name o).O k).aJ=(ah (bE S.O (dm S.X) (λ_=>o)) k).aJ:=λk=>mU (g:=bT.aJ) (λ_ _=>rfl) (λ_ _=>rfl) (λ_ _ _=>rfl) (λ_ _=>rfl)
 have g2:∀k,(ah (gU {S with us:=us',aL:=lH} d name o).O k).aR=(ah (bE S.O (dm S.X) (λ_=>o)) k).aR:=λk=>mU (g:=bT.aR) (λ_ _=>rfl) (λ_ _=>rfl) (λ_ _ _=>rfl) (λ_ _=>rfl)
 rw [g1] at oy
 rw [g2]
 by_cases e:x.k=dm S.X
 ·rw [e,oN,hg0] at oy;cases oy
 rw [jf e] at oy ⊢
 refine hI.full x ?_ oy
 grind [ins,dm,aT,ah,bF,bU,Room,aY,hnd,gU]
end new
section drop
variable {S:bg} {d:Nat} {name:ByteArray} {t:Th}
theorem nU {α:Type} {g:bT->α} {O:eE} {k j:Nat} (h:∀o,g {o with up:=none}=g o):g (ah (jm O j) k)=g (ah O k):=eP (f:=λo=>{o with up:=none}) h
theorem EB {O:eE} {k:Nat}:tV (jm O k) t↔tV O t:=by
 unfold tV
 rw [nU (g:=bT.aJ) (λ_=>rfl),nU (g:=bT.aR) (λ_=>rfl)]
theorem Ox {O:eE} {k:Nat} {u:Int}:oU (jm O k) u t=oU O u t:=by
 unfold oU
 simp only [EB,nU (g:=bT.data) (λ_=>rfl)]
theorem Oy {O:eE} {k:Nat} {ay:bB Th}:j7 (jm O k) ay t=j7 O ay t:=by
 unfold j7
 simp only [EB,nU (g:=bT.id) (λ_=>rfl)]
theorem bC.drop (hI:bC S) (hd:aT S.ay ⟨d,2⟩) (hl:bF name (ah S.O d).aq=some t) (he:t.kind=2->(ah S.O t.k).aq=[]):bC {aZ S d name t with O:=jm (aZ S d name t).O t.k}:=by
 have cG:=hI.ne hd hl
 have ht:=(hI.bO hd hl).2
 have fA:(ah (bn S.X S.O d name t) t.k).aU=(ah S.O t.k).aU-1:=by grind [ld]
 have hfull:∀(O2:eE),(∀u,u≠t.k->(ah O2 u).aJ=(ah S.O u).aJ/\(ah O2 u).aR=(ah S.O u).aR)->∀u,aT S.ay u->u≠t->(ah O2 u.k).aJ=true->0<(ah O2 u.k).aR:=λO2 h u hu hut hg=>by
  have hk:u.k≠t.k:=λe=>hut (jJ hu ht e)
  rw [(h _ hk).1] at hg
  rw [(h _ hk).2]
  exact hI.full u hu hg
 by_cases h0:(ah (bn S.X S.O d name t) t.k).aU=0
 ·have e1:aZ S d name t=_:=xL h0
  have hO:∀k,ah (jm (sW (bn S.X S.O d name t) t.k) t.k) k=if k=d then {ah S.O d with aq:=kP name (ah S.O d).aq,bJ:=S.X.cS,bh:=S.X.cZ} else if k=t.k then {ah S.O k with aU:=(ah S.O k).aU-1,aJ:=true,up:=none} else ah S.O k:=λk=>by
   unfold jm sW
   rw [Ep,mh]
   by_cases e:k=t.k
   ·rw [t8 e,ld cG,nw (λe2=>cG (e.symm.trans e2)),t8 e,nw (λe2=>cG (e.symm.trans e2)),t8 e]
   rw [nw e,ld cG,nw e,nw e]
  have h1:=hI.toInv0.cut hd hl hO (.inr ⟨by rw [←fA];exact h0,he⟩)
  have h2:=h1.yU (t:=t) ht (hfull _ (λu hu=>by
   rw [nU (g:=bT.aJ) (λ_=>rfl),nU (g:=bT.aR) (λ_=>rfl)]
   show (ah (bE _ t.k _) u).aJ=_/\(ah (bE _ t.k _) u).aR=_
   rw [jf hu,eY (g:=bT.aJ) (λ_ _=>rfl) (λ_ _=>rfl) (λ_ _ _=>rfl),eY (g:=bT.aR) (λ_ _=>rfl) (λ_ _=>rfl) (λ_ _ _=>rfl)]
   exact⟨rfl,rfl⟩))
  rw [e1]
  unfold yU at h2
  simp only [Ox,Oy] at h2
  exact h2
 have e1:aZ S d name t=_:=xM h0
 have hnd:t.kind≠2:=λhk=>by
  have h1:=hI.once t ht hk
  have h2:=hI.aU t ht
  have h3:0<nE S.ay S.O t.k:=qM hd hl
  omega
 have TS:(ah S.O t.k).up=none:=by
  cases hu:(ah S.O t.k).up with
  |none=>rfl
  |some e=>exact KB ((hI.up t ht e).1 hu).1 hnd
 have hO:∀k,ah (jm (bn S.X S.O d name t) t.k) k=if k=d then {ah S.O d with aq:=kP name (ah S.O d).aq,bJ:=S.X.cS,bh:=S.X.cZ} else if k=t.k then {ah S.O k with aU:=(ah S.O k).aU-1,aJ:=(ah S.O t.k).aJ,up:=none} else ah S.O k:=λk=>by
  unfold jm
  rw [mh]
  by_cases e:k=t.k
  ·rw [t8 e,ld cG,nw (λe2=>cG (e.symm.trans e2)),t8 e,nw (λe2=>cG (e.symm.trans e2)),t8 e,e]
  rw [nw e,ld cG,nw e,nw e]
 have h1:=hI.toInv0.cut hd hl hO (.inl rfl)
 rw [e1]
 refine⟨h1,λu hu hg=>?_⟩
 have hg:(ah (jm (bn S.X S.O d name t) t.k) u.k).aJ=true:=hg
 show 0<(ah (jm (bn S.X S.O d name t) t.k) u.k).aR
 rw [nU (g:=bT.aJ) (λ_=>rfl),eY (g:=bT.aJ) (λ_ _=>rfl) (λ_ _=>rfl) (λ_ _ _=>rfl)] at hg
 rw [nU (g:=bT.aR) (λ_=>rfl),eY (g:=bT.aR) (λ_ _=>rfl) (λ_ _=>rfl) (λ_ _ _=>rfl)]
 exact hI.full u hu hg
theorem ZC {k:Nat}:(ah (aZ S d name t).O k).up=(ah S.O k).up:=by
 unfold aZ
 simp only
 split
 ·exact (wL (g:=bT.up) (λ_ _=>rfl)).trans (eY (g:=bT.up) (λ_ _=>rfl) (λ_ _=>rfl) (λ_ _ _=>rfl))
 exact eY (g:=bT.up) (λ_ _=>rfl) (λ_ _=>rfl) (λ_ _ _=>rfl)
theorem bC.FV (hI:bC S) (hd:aT S.ay ⟨d,2⟩) (hl:bF name (ah S.O d).aq=some t) (hk:t.kind≠2):bC (aZ S d name t):=by
 have h:=hI.drop hd hl (λe=>KB e hk)
 have ht:=(hI.bO hd hl).2
 have TS:(ah S.O t.k).up=none:=by
  cases hu:(ah S.O t.k).up with
  |none=>rfl
  |some e=>exact KB ((hI.up t ht e).1 hu).1 hk
 have e:jm (aZ S d name t).O t.k=(aZ S d name t).O:=acA (by
  have:(ah (aZ S d name t).O t.k).up=none:=ZC.trans TS
  rw [←this])
 rw [e] at h
 exact h
end drop
end
end Go.Proofs.YtfececghhgeapaaGreatDoor
section
namespace Go.Proofs.YtfececghhgeapaaGreatDoor.aI
open bw
variable {V:Type}
theorem LR (us:bB V) (p:Int×V):aY (us++[p])=aY us++[p.1]:=by simp [aY]
theorem H6 (us:bB V):(aY us).length=us.length:=by simp [aY]
theorem least_le {us:bB V} (hr:dK (aY us)) (hp:∀x∈aY us,1<=x):1<=aS us/\aS us∉aY us/\∀x,1<=x->x<aS us->x∈aY us:=qK (aY us) 1 hr hp
theorem sE:∀(ks:List Int) (h:Int),kN h ks<=h+ks.length
 |[],h=>by simp [kN]
 |k::r,h=>by
   unfold kN
   split
   ·have:=sE r (h+1);simp only [ahX];push_cast;omega
   simp only [ahX];push_cast;omega
theorem QU (us:bB V):aS us<=us.length+1:=by
 have:=sE (aY us) 1
 rw [H6] at this
 unfold aS;omega
end Go.Proofs.YtfececghhgeapaaGreatDoor.aI
end
namespace Go.Proofs.YtfececghhgeapaaGreatDoor
section
open Go.RowKit Go.Maps bw aI
section ops
variable {S:bg} {d to:Nat} {name aG:ByteArray} {t:Th}
theorem bC.link (hI:bC S) (hd:aT S.ay ⟨d,2⟩) (nG:(ah S.O d).aJ=false) (hn:bF name (ah S.O d).aq=none) (hgn:bU name) (ht:aT S.ay t) (RQ:(ah S.O t.k).aJ=false) (hk:t.kind≠2) (hroom:S.X.aq<8192) :
 bC {S with X:={S.X with aq:=S.X.aq+1},O:=dW S.X S.O d name t}:=by
 have cG:t.k≠d:=by grind [jJ]
 have h1:=hI.toInv0.put hd nG hn hgn ht RQ (λe=>KB e hk) cG hroom hI.now (λk=>uQ cG)
 refine⟨h1,λx hx hg=>?_⟩
 have hg:(ah (dW S.X S.O d name t) x.k).aJ=true:=hg
 show 0<(ah (dW S.X S.O d name t) x.k).aR
 rw [mU (g:=bT.aJ) (λ_ _=>rfl) (λ_ _=>rfl) (λ_ _ _=>rfl) (λ_ _=>rfl)] at hg
 rw [mU (g:=bT.aR) (λ_ _=>rfl) (λ_ _=>rfl) (λ_ _ _=>rfl) (λ_ _=>rfl)]
 exact hI.full x hx hg
theorem qd (cG:t.k≠d) {X:FM} {O:eE} (h:bF aG (ah O to).aq=none):bF aG (ah (bn X O d name t) to).aq=none:=by
 grind [ld,bF,kP,ah,xI]
theorem bC.move (hI:bC S) (hd:aT S.ay ⟨d,2⟩) (hl:bF name (ah S.O d).aq=some t) (fq:aT S.ay ⟨to,2⟩) (nG:(ah S.O to).aJ=false) (hn:bF aG (ah S.O to).aq=none) (hgn:bU aG) (hb:t.kind=2->¬rY S.O t.k to):bC (pN S d name to aG t):=by
 have cG:=hI.ne hd hl
 have ht:=(hI.bO hd hl).2
 have Oz:t.k≠to:=λe=>by
  have h1:t=⟨to,2⟩:=jJ ht fq e
  exact hb (by rw [h1]) (by rw [e];exact .here)
 have hgt:(ah S.O t.k).aJ=false:=by
  cases hg:(ah S.O t.k).aJ with
  |false=>rfl
  |true=>
    have h1:=(hI.aJ t ht hg).1
    have h2:=hI.aU t ht
    have h3:0<nE S.ay S.O t.k:=qM hd hl
    omega
 have hO:∀k,ah (jm (bn S.X S.O d name t) t.k) k=if k=d then {ah S.O d with aq:=kP name (ah S.O d).aq,bJ:=S.X.cS,bh:=S.X.cZ} else if k=t.k then {ah S.O k with aU:=(ah S.O k).aU-1,aJ:=(ah S.O t.k).aJ,up:=none} else ah S.O k:=λk=>by
  unfold jm
  rw [mh]
  by_cases e:k=t.k
  ·rw [t8 e,ld cG,nw (λe2=>cG (e.symm.trans e2)),t8 e,nw (λe2=>cG (e.symm.trans e2)),t8 e,e]
  rw [nw e,ld cG,nw e,nw e]
 have h1:=hI.toInv0.cut hd hl hO (.inl rfl)
 have g0:∀{α:Type} (g:bT->α),(∀o es,g {o with aq:=es}=g o)->(∀o l,g {o with aU:=l}=g o)->(∀o a b,g {o with bJ:=a,bh:=b}=g o)->(∀o u,g {o with up:=u}=g o)->∀k,g (ah (jm (bn S.X S.O d name t) t.k) k)=g (ah S.O k):=λg a b c e k=>(nU (λo=>e o none)).trans (eY a b c)
 have fA:=hI.aU t ht
 have hlp:0<nE S.ay S.O t.k:=qM hd hl
 have hend:(ah (jm (bn S.X S.O d name t) t.k) to).aq=(ah (bn S.X S.O d name t) to).aq:=nU (g:=bT.aq) (λ_=>rfl)
 have h2:=h1.put (d:=to) (name:=aG) (t:=t) (O':=(pN S d name to aG t).O) fq (by
  show (ah (jm (bn S.X S.O d name t) t.k) to).aJ=false
  rw [g0 bT.aJ (λ_ _=>rfl) (λ_ _=>rfl) (λ_ _ _=>rfl) (λ_ _=>rfl)];exact nG) (by
  show bF aG (ah (jm (bn S.X S.O d name t) t.k) to).aq=none
  rw [hend];exact qd cG hn) hgn ht (by
  show (ah (jm (bn S.X S.O d name t) t.k) t.k).aJ=false
  rw [g0 bT.aJ (λ_ _=>rfl) (λ_ _=>rfl) (λ_ _ _=>rfl) (λ_ _=>rfl)];exact hgt) (λhk=>⟨by
   have h3:=hI.once t ht hk
   show (ah (jm (bn S.X S.O d name t) t.k) t.k).aU=0
   rw [hO,nw cG,t8 rfl]
   show (ah S.O t.k).aU-1=0
   omega,λhb2=>hb hk (TR (λx e hx=>by
    have hx:(ah (jm (bn S.X S.O d name t) t.k) x).up=some e:=hx
    by_cases e1:x=t.k
    ·rw [hO,nw (by rw [e1];exact cG),t8 e1] at hx;cases hx
    rw [hO] at hx
    split at hx
    ·rename_i e2;rw [e2];exact hx
    first|exact hx|(rw [nw e1] at hx;exact hx)) hb2)⟩) Oz (by
  have:=hI.total
  show S.X.aq-1<8192
  omega) hI.now (λk=>by
  show ah (dW S.X (bn S.X S.O d name t) to aG t) k=_
  rw [uQ Oz]
  by_cases e:k=to
  ·rw [t8 e,t8 e]
   have h3:ah (jm (bn S.X S.O d name t) t.k) to=ah (bn S.X S.O d name t) to:=jf (λe=>Oz e.symm)
   rw [show ah _ to=_ from h3]
  rw [nw e,nw e]
  by_cases e2:k=t.k
  ·rw [t8 e2,t8 e2,e2]
   show _={ah (jm (bn S.X S.O d name t) t.k) t.k with aU:=(ah (jm (bn S.X S.O d name t) t.k) t.k).aU+1,up:=if t.kind=2 then some to else (ah (jm (bn S.X S.O d name t) t.k) t.k).up}
   have h3:ah (jm (bn S.X S.O d name t) t.k) t.k={ah (bn S.X S.O d name t) t.k with up:=none}:=iq
   rw [h3]
   by_cases hk:t.kind=2
   ·rw [t8 hk,t8 hk]
   rw [nw hk,nw hk]
   have TS:(ah (bn S.X S.O d name t) t.k).up=none:=by
    rw [eY (g:=bT.up) (λ_ _=>rfl) (λ_ _=>rfl) (λ_ _ _=>rfl)]
    cases hu:(ah S.O t.k).up with
    |none=>rfl
    |some e=>exact KB ((hI.up t ht e).1 hu).1 hk
   rw [TS]
  rw [nw e2,nw e2]
  have h3:ah (jm (bn S.X S.O d name t) t.k) k=ah (bn S.X S.O d name t) k:=jf e2
  exact h3.symm)
 refine⟨h2,λx hx hg=>?_⟩
 have g3:∀{α:Type} (g:bT->α),(∀o es,g {o with aq:=es}=g o)->(∀o l,g {o with aU:=l}=g o)->(∀o a b,g {o with bJ:=a,bh:=b}=g o)->(∀o u,g {o with up:=u}=g o)->∀k,g (ah (pN S d name to aG t).O k)=g (ah S.O k):=λg a b c e k=>(mU a b c e).trans (eY a b c)
 rw [g3 bT.aJ (λ_ _=>rfl) (λ_ _=>rfl) (λ_ _ _=>rfl) (λ_ _=>rfl)] at hg
 rw [g3 bT.aR (λ_ _=>rfl) (λ_ _=>rfl) (λ_ _ _=>rfl) (λ_ _=>rfl)]
 exact hI.full x hx hg
theorem KD {us:bB Th} {h:Int} {k:Nat}:hnd (ins h t us) k=(if t.k=k then 1 else 0)+hnd us k:=HT
theorem RY {us:bB Th} {h:Int} {k:Nat} (hr:aI.dK (aY us)) (e:aI.get us h=some t):hnd (del h us) k+(if t.k=k then 1 else 0)=hnd us k:=HX (g:=λp:Int×Th=>if p.2.k=k then 1 else 0) hr e
theorem RZ {us:bB Th} {aL:Int} (hr:aI.dK (aY us)) (h1:∀x∈aY us,1<=x/\x<=aL):aI.dK (aY (ins (aI.aS us) t us))/\∀x∈aY (ins (aI.aS us) t us),1<=x/\x<=max aL ((us.length:Int)+1):=by
 obtain⟨g1,g2,_⟩:=least_le hr (λx hx=>(h1 x hx).1)
 have g3:=QU us
 grind [zM,rI]
theorem bC.fB (hI:bC S) (ht:aT S.ay t) (hk:t.kind≠3):bC (Proofs.YtfececghhgeapaaGreatDoor.fB S t).2.2:=by
 by_cases fT:(S.us.length:Int)<S.X.cH
 ·rw [mB fT]
  obtain⟨g1,g2,_⟩:=least_le hI.usr (λx hx=>(hI.wj x hx).1)
  obtain⟨v1,v2⟩:=RZ (t:=t) hI.usr hI.wj
  have hb:bytes S.ay (bE S.O t.k (λo=>{o with aR:=o.aR+1}))=bytes S.ay S.O:=lG (λp _=>by rw [eP (f:=λo=>{o with aR:=o.aR+1}) (g:=bT.data) (λ_=>rfl)])
  have h1:=hI.toInv0.own (k:=t.k) (f:=λo=>{o with aR:=o.aR+1}) (sj:=S.X.used) (us':=ins (aI.aS S.us) t S.us) (lH:=max S.aL ((S.us.length:Int)+1)) (λ_=>rfl) (λ_=>rfl) (λ_=>rfl) (λ_=>rfl) (λ_=>rfl) (λ_=>rfl)
   (λu hu e=>by rw [←e];exact (hI.mt u hu).of rfl rfl rfl (hI.mt u hu).time rfl (.inl rfl) (.inl rfl) rfl)
   (λu hu=>by
    have h2:=hI.aR u hu
    rw [KD]
    by_cases e:u.k=t.k
    ·rw [e,iq,t8 rfl,←e]
     show (ah S.O u.k).aR+1=_
     omega
    rw [jf e,nw (λe2=>e e2.symm)];omega)
   v1 v2 (by rw [kK];omega) (by have:=hI.aL;omega) (λh u e=>by
    rw [sU g2] at e
    split at e
    ·cases e;exact⟨ht,hk⟩
    exact hI.us h u e) ⟨by rw [hb];exact hI.used.1,hI.used.2⟩
  refine⟨h1,λu hu hg=>?_⟩
  have hg:(ah (bE S.O t.k (λo=>{o with aR:=o.aR+1})) u.k).aJ=true:=hg
  rw [eP (f:=λo=>{o with aR:=o.aR+1}) (g:=bT.aJ) (λ_=>rfl)] at hg
  have h2:=hI.full u hu hg
  grind [ah,bE,iq,jf]
 rw [og fT];exact hI
theorem bC.gZ (hI:bC S) {k:Nat} (ht:aT S.ay ⟨k,1⟩) (bs:List UInt8):bC (Proofs.YtfececghhgeapaaGreatDoor.gZ S k bs).2.2:=by
 unfold Proofs.YtfececghhgeapaaGreatDoor.gZ
 split
 ·exact hI
 split
 ·exact hI
 rename_i hroom
 have jT:(ah (bE S.O k (λo=>{o with data:=o.data++bs.take (dU S.X bs.length),bJ:=S.X.cS,bh:=S.X.cZ})) k).data.length=(ah S.O k).data.length+dU S.X bs.length:=by
  rw [iq]
  show ((ah S.O k).data++bs.take (dU S.X bs.length)).length=_
  rw [T3,ahZ]
  unfold dU
  omega
 have hb:=HV (g:=λp:Int×Th=>(ah S.O p.2.k).data.length) (g':=λp:Int×Th=>(ah (bE S.O k (λo=>{o with data:=o.data++bs.take (dU S.X bs.length),bJ:=S.X.cS,bh:=S.X.cZ})) p.2.k).data.length) hI.fP ht (λp hp cG=>by
  have h1:=hI.key (ox hI.fP hp)
  show (ah (bE _ k _) p.2.k).data.length=_
  rw [jf (λe=>cG (by rw [h1,e]))])
 have hb:bytes S.ay (bE S.O k (λo=>{o with data:=o.data++bs.take (dU S.X bs.length),bJ:=S.X.cS,bh:=S.X.cZ}))+(ah S.O k).data.length=bytes S.ay S.O+(ah (bE S.O k (λo=>{o with data:=o.data++bs.take (dU S.X bs.length),bJ:=S.X.cS,bh:=S.X.cZ})) k).data.length:=hb
 have hu:=hI.used
 have hcB:=hI.cB
 have h1:=hI.toInv0.own (k:=k) (f:=λo=>{o with data:=o.data++bs.take (dU S.X bs.length),bJ:=S.X.cS,bh:=S.X.cZ}) (sj:=S.X.used+(dU S.X bs.length:Int)) (us':=S.us) (lH:=S.aL) (λ_=>rfl) (λ_=>rfl) (λ_=>rfl) (λ_=>rfl) (λ_=>rfl) (λ_=>rfl)
  (λu hu e=>by
   have hk1:u=⟨k,1⟩:=jJ hu ht e
   have afJ:=hI.kind hu
   rw [←e]
   exact (hI.mt u hu).of rfl rfl rfl hI.now rfl (.inr (by rw [afJ,hk1])) (.inl rfl) rfl)
  (λu hu=>by rw [eP (f:=λo=>{o with data:=o.data++bs.take (dU S.X bs.length),bJ:=S.X.cS,bh:=S.X.cZ}) (g:=bT.aR) (λ_=>rfl)];exact hI.aR u hu)
  hI.usr hI.wj hI.Ez hI.aL hI.us ⟨d5,by unfold dU;omega⟩
 refine⟨h1,λu hu hg=>?_⟩
 have hg:(ah (bE S.O k (λo=>{o with data:=o.data++bs.take (dU S.X bs.length),bJ:=S.X.cS,bh:=S.X.cZ})) u.k).aJ=true:=hg
 rw [eP (f:=λo=>{o with data:=o.data++bs.take (dU S.X bs.length),bJ:=S.X.cS,bh:=S.X.cZ}) (g:=bT.aJ) (λ_=>rfl)] at hg
 show 0<(ah (bE S.O k (λo=>{o with data:=o.data++bs.take (dU S.X bs.length),bJ:=S.X.cS,bh:=S.X.cZ})) u.k).aR
 rw [eP (f:=λo=>{o with data:=o.data++bs.take (dU S.X bs.length),bJ:=S.X.cS,bh:=S.X.cZ}) (g:=bT.aR) (λ_=>rfl)]
 exact hI.full u hu hg
theorem bC.afK (hI:bC S) {k:Nat} {mode cO cQ bJ bh:Int} (h1:mT mode) (h2:Dl cO/\Dl cQ) (h3:iM bJ bh):bC {S with O:=bE S.O k (λo=>{o with mode:=mode,cO:=cO,cQ:=cQ,bJ:=bJ,bh:=bh})}:=by
 have hb:bytes S.ay (bE S.O k (λo=>{o with mode:=mode,cO:=cO,cQ:=cQ,bJ:=bJ,bh:=bh}))=bytes S.ay S.O:=lG (λp _=>by rw [eP (f:=λo=>{o with mode:=mode,cO:=cO,cQ:=cQ,bJ:=bJ,bh:=bh}) (g:=bT.data) (λ_=>rfl)])
 have g1:=hI.toInv0.own (k:=k) (f:=λo=>{o with mode:=mode,cO:=cO,cQ:=cQ,bJ:=bJ,bh:=bh}) (sj:=S.X.used) (us':=S.us) (lH:=S.aL) (λ_=>rfl) (λ_=>rfl) (λ_=>rfl) (λ_=>rfl) (λ_=>rfl) (λ_=>rfl)
  (λu hu e=>by
   have hm:=hI.mt u hu
   rw [e] at hm
   exact⟨h1,h2.1,h2.2,h3,hm.data,hm.aq,hm.target⟩)
  (λu hu=>by rw [eP (f:=λo=>{o with mode:=mode,cO:=cO,cQ:=cQ,bJ:=bJ,bh:=bh}) (g:=bT.aR) (λ_=>rfl)];exact hI.aR u hu)
  hI.usr hI.wj hI.Ez hI.aL hI.us ⟨by rw [hb];exact hI.used.1,hI.used.2⟩
 refine⟨g1,λu hu hg=>?_⟩
 have hg:(ah (bE S.O k (λo=>{o with mode:=mode,cO:=cO,cQ:=cQ,bJ:=bJ,bh:=bh})) u.k).aJ=true:=hg
 rw [eP (f:=λo=>{o with mode:=mode,cO:=cO,cQ:=cQ,bJ:=bJ,bh:=bh}) (g:=bT.aJ) (λ_=>rfl)] at hg
 show 0<(ah (bE S.O k (λo=>{o with mode:=mode,cO:=cO,cQ:=cQ,bJ:=bJ,bh:=bh})) u.k).aR
 rw [eP (f:=λo=>{o with mode:=mode,cO:=cO,cQ:=cQ,bJ:=bJ,bh:=bh}) (g:=bT.aR) (λ_=>rfl)]
 exact hI.full u hu hg
theorem bC.shut (hI:bC S) {h:Int} (e:aI.get S.us h=some t):bC {S with
 X:={S.X with used:=oU (mD S.O t.k) S.X.used t}
 O:=mD S.O t.k
 ay:=j7 (mD S.O t.k) S.ay t
 us:=del h S.us}:=by
 have ht:=(hI.us h t e).1
 have hb:bytes S.ay (mD S.O t.k)=bytes S.ay S.O:=lG (λp _=>by unfold mD;rw [eP (f:=λo=>{o with aR:=o.aR-1}) (g:=bT.data) (λ_=>rfl)])
 have hd:=λk=>RY (k:=k) hI.usr e
 have h1:=hI.toInv0.own (k:=t.k) (f:=λo=>{o with aR:=o.aR-1}) (sj:=S.X.used) (us':=del h S.us) (lH:=S.aL) (λ_=>rfl) (λ_=>rfl) (λ_=>rfl) (λ_=>rfl) (λ_=>rfl) (λ_=>rfl)
  (λu hu e=>by rw [←e];exact (hI.mt u hu).of rfl rfl rfl (hI.mt u hu).time rfl (.inl rfl) (.inl rfl) rfl)
  (λu hu=>by
   have h2:=hI.aR u hu
   have h3:=hd u.k
   by_cases e2:u.k=t.k
   ·rw [e2,iq]
    rw [e2] at h2 h3
    rw [t8 rfl] at h3
    show (ah S.O t.k).aR-1=_
    omega
   rw [nw (λe3=>e2 e3.symm)] at h3
   rw [jf e2];omega)
  (Om hI.usr) (λx hx=>hI.wj x (by grind [ul])) (by have:=sV hI.usr (get_some e);have:=hI.Ez;omega) hI.aL (λi u hu=>by
   rw [wG] at hu
   split at hu
   ·cases hu
   exact hI.us i u hu) ⟨by rw [show bytes S.ay (bE S.O t.k (λo=>{o with aR:=o.aR-1}))=bytes S.ay S.O from hb];exact hI.used.1,hI.used.2⟩
 exact h1.yU (t:=t) ht (λu hu hut hg=>by
  have hk:u.k≠t.k:=λe=>hut (jJ hu ht e)
  have hg:(ah (bE S.O t.k (λo=>{o with aR:=o.aR-1})) u.k).aJ=true:=hg
  rw [jf hk] at hg
  show 0<(ah (bE S.O t.k (λo=>{o with aR:=o.aR-1})) u.k).aR
  rw [jf hk]
  exact hI.full u hu hg)
end ops
section facts
variable {S:bg} {X:FM} {O:eE} {d k to:Nat} {name aG:ByteArray} {t o:Th}
def EC (dp:Nat->Nat):Option Nat->Nat
 |none=>0
 |some y=>dp y+1
theorem Wq {dp:Nat->Nat} (h:∀k d,(ah O k).up=some d->dp d<dp k) {y:Nat}:EC dp (ah O y).up<EC dp (some y):=by
 cases e:(ah O y).up with
 |none=>exact Nat.succ_pos _
 |some z=>exact Nat.succ_lt_succ (h y z e)
theorem Jl {s y:Nat} (h:¬y=s):rY O s y↔∃z,(ah O y).up=some z/\rY O s z:=LQ.trans (or_iff_right h)
theorem Jm (cG:t.k≠d):(ah (aZ S d name t).O k).aq=if k=d then kP name (ah S.O d).aq else (ah S.O k).aq:=by
 have h1:(ah (aZ S d name t).O k).aq=(ah (bn S.X S.O d name t) k).aq:=by
  unfold aZ
  simp only
  split
  ·exact wL (g:=bT.aq) (λ_ _=>rfl)
  rfl
 grind [ld]
theorem xR (hI:Inv0 S) (fq:aT S.ay ⟨to,2⟩) (hl2:bF aG (ah S.O to).aq=some o) (hl:bF name (ah S.O d).aq=some t) (hot:o≠t):bF name (ah (aZ S to aG o).O d).aq=some t:=by
 rw [Jm (hI.ne fq hl2)]
 grind [xI]
theorem xS (hI:Inv0 S) (fq:aT S.ay ⟨to,2⟩) (hl2:bF aG (ah S.O to).aq=some o):bF aG (ah (aZ S to aG o).O to).aq=none:=by
 rw [Jm (hI.ne fq hl2),t8 rfl,xI,t8 rfl]
theorem oZ (hI:Inv0 S) (fq:aT S.ay ⟨to,2⟩) (hl2:bF aG (ah S.O to).aq=some o) (hx:aT S.ay t) (hk:t.k≠o.k):aT (aZ S to aG o).ay t:=by
 unfold aZ
 simp only
 split
 ·unfold j7
  split
  ·unfold aT
   rw [wG,nw]
   ·exact hx
   intro e
   have h1:=(hI.ob o (hI.bO fq hl2).2).1
   rw [wL (g:=bT.id) (λ_ _=>rfl),eY (g:=bT.id) (λ_ _=>rfl) (λ_ _=>rfl) (λ_ _ _=>rfl),h1] at e
   exact hk d5
  exact hx
 exact hx
theorem sF (cG:t.k≠d):(ah (bn X O d name t) k).aq.length<=(ah O k).aq.length:=by
 rw [ld cG]
 split
 ·rename_i e
  subst e
  exact aiq _ _
 split<;>exact N6 _
theorem qq (hI:Inv0 S) (hd:aT S.ay ⟨d,2⟩) (hl:bF name (ah S.O d).aq=some t):0<=(ah (bn S.X S.O d name t) t.k).aU/\(ah (bn S.X S.O d name t) t.k).aU<=1048576:=by
 have ht:=(hI.bO hd hl).2
 have h1:=hI.aU t ht
 have h2:0<nE S.ay S.O t.k:=qM hd hl
 have h3:=hI.lb ht
 rw [ld (hI.ne hd hl),nw (hI.ne hd hl),t8 rfl]
 grind
end facts
theorem ck.take {β:Bs} {A:Option Addr} {d:List UInt8} (h:ck β A d) (n:Nat):ck β A (d.take n):=by
 intro j v hj
 refine h j v ?_
 grind [ez]
theorem TU {a b:List UInt8}:ez (a++b)=ez a++ez b:=aik
theorem Inv0.afL {S:bg} {t:Th} (h:Inv0 S) (hl:aT S.ay t):((ah S.O t.k).data.length:Int)<=S.X.used:=by
 have h1:=h.used
 have h2:(ah S.O t.k).data.length<=bytes S.ay S.O:=si (g:=λp:Int×Th=>(ah S.O p.2.k).data.length) hl
 omega
theorem Wr {X:FM} {n:Nat} (h:0<X.cB-X.used):min (n:Int) (X.cB-X.used)=(dU X n:Int):=by
 unfold dU
 omega
theorem Ws {X:FM} {n:Nat} (h:0<X.cB-X.used):dU X n<=n/\(dU X n:Int)<=X.cB-X.used:=by
 unfold dU
 omega
section data
variable {O:eE} {us:bB Th} {L L':HL} {k c:Nat} {A:Option Addr} {t:Th}
theorem OA (hL:L'=L.data k A c):dM L' us=dM L us:=by subst hL;rfl
theorem ZE (hL:L'=L.data k A c):ig O L'=ig O L:=by
 subst hL
 funext x
 rfl
theorem ZF (hL:L'=L.data k A c) {x:Nat} (h:x≠k):fQ O L' x=fQ O L x:=by
 have e2:lY L' x (ah O x)=lY L x (ah O x):=by
  subst hL
  unfold lY FH
  simp only [HL.data,nw h]
  rfl
 unfold fQ
 rw [e2]
 subst hL
 rfl
theorem ZG (hL:L'=L.data k A c) {x:Nat} (h:x≠k):eX O L' x=eX O L x:=by
 unfold eX
 subst hL
 simp only [HL.data,nw h]
theorem R3 (hL:L'=L.data k A c):L'.dA k=A:=by subst hL;exact t8 rfl
theorem R4 (hL:L'=L.data k A c):L'.dC k=c:=by subst hL;exact t8 rfl
theorem Wt (hL:L'=L.data k A c) {x:Nat}:L'.b x=L.b x:=by subst hL;rfl
end data
section sat
variable {β:Bs} {l l':List HP} {w:World} {i j k c n:Nat} {O:eE} {L L':HL} {f:bT->bT} {cs:List Value} {T:TypeId} {ix:List Nat} {A:Option Addr} {R:Nat->eG} {xs:List Value}
theorem aQ.ad1 (h:aQ β l w) (hL:L'=L.data k A c) (hp:l[i]?=some (.abs (bp (pW (fQ O L) k eG.none)))) (hq:l[j]?=some (.aD (L.b k) cs T)) (hd:bS (i::j::ix)=true) (hl:cR l ix=some l') (h0:(f (ah O k)).kind≠0) (hc:lY L' k (f (ah O k))=cs) (hT:yh (f (ah O k)).kind=T):aQ β (.abs (bp (fQ (bE O k f) L'))::l') w:=by
 refine h.yP (a:=Km (L.b k) cs T) hp hq (λ_ _ h=>h) hd hl k (λx hx=>?_) (by rw [FI,nw h0,hc,hT,Wt hL])
 rw [I4 hx,ZF hL hx,FN hx]
theorem aQ.ad2 (h:aQ β l w) (hL:L'=L.data k A c) (hp:l[i]?=some (.abs (bp (pW (eX O L) k eG.none)))) (hq:l[j]?=some (.abs (aK 5 1 A n c xs))) (hd:bS (i::j::ix)=true) (hl:cR l ix=some l') (h1:(f (ah O k)).kind=1) (hn:n=(f (ah O k)).data.length) (hx:xs=ez (f (ah O k)).data):aQ β (.abs (bp (eX (bE O k f) L'))::l') w:=by
 refine h.yP hp hq (λ_ _ h=>h) hd hl k (λx hx=>by rw [I6 hx,ZG hL hx,FN hx]) ?_
 grind [zK,iq,R3,R4]
end sat
end
section
def mV (n:Int):Prop:=n=1\/n=2\/n=4\/n=13
end
end Go.Proofs.YtfececghhgeapaaGreatDoor
