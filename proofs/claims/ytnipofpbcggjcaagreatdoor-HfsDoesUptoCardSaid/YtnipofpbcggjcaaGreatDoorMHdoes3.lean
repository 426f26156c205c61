/-
  PROVED HERE: lemmas and contracts of functions (texts of this repo, joined; what the claim does not use is left out): GR, GRead, GP, GRef, GW, GFb, GFc, Cn, ShelfS, SK, HG, GOk, Nw, Il, Rt, Sr, Sd, Dl, HW, Ib, DR, DT, Dp, DP, Dm, Do, Vp, Vu, DC.
  CONDITIONS: as the theorems say.
-/
import Derived.Test.YtnipofpbcggjcaaGreatDoorMHdoes2
import Derived.Shelf.SlGeneric
import Derived.Shelf.SlIter.Nil
import Derived.Shelf.SortM.Plain
import Derived.Shelf.SortM.SortNone
import Derived.Ground.GgzProg
import Derived.Ground.SlgmProg
import Derived.Test.YtnipofpbcggjcaaGreatDoorProg
set_option maxRecDepth 100000
set_option maxHeartbeats 4000000
namespace Go.Proofs.YtnipofpbcggjcaaGreatDoor
section
open Go.RowKit Go.Maps
def bN (ns:List au):Nat->Nat
 |0=>0
 |k+1=>bN ns k+(nd ns k).af.length
def ou (ns:List au):Nat->Int
 |0=>0
 |k+1=>(nd ns k).id
structure aX (ns:List au):Prop where
 len:ns.length<=4096
 node:∀i,i<ns.length->o9 (nd ns i)
 ids:∀i,i<ns.length->1<=(nd ns i).id/\(nd ns i).id<=1099511627776
 rise:bK ns
 sum:bN ns ns.length<=8192
 af:∀i,i<ns.length->∀j,j<(nd ns i).af.length->tX ns i j
 nodup:((fX ns ns.length).map Prod.fst).Nodup
 ends:yG ((fX ns ns.length).map (iT ns))
noncomputable instance (ns:List au):Decidable (aX ns):=Classical.propDecidable _
theorem aX.last {ns:List au} (h:aX ns) {k:Nat} (hk:k<ns.length):ou ns k<(nd ns k).id:=by
 cases k with
 |zero=>have:=(h.ids 0 hk).1;show (0:Int)<_;omega
 |succ k=>exact h.rise k (k+1) (Nat.lt_succ_self k) hk
structure tG (ns:List au) (k:Nat):Prop where
 node:∀i,i<k->o9 (nd ns i)
 ids:∀i,i<k->1<=(nd ns i).id/\(nd ns i).id<=1099511627776
 rise:∀i j,i<j->j<k->(nd ns i).id<(nd ns j).id
theorem tG.zero (ns:List au):tG ns 0:=⟨λi h=>absurd h (Nat.not_lt_zero i),λi h=>absurd h (Nat.not_lt_zero i),λ_ j _ h=>absurd h (Nat.not_lt_zero j)⟩
theorem tG.last {ns:List au} {k:Nat} (h:tG ns k):0<=ou ns k/\ou ns k<=1099511627776:=by
 cases k with
 |zero=>exact⟨Int.le_refl _,by show (0:Int)<=1099511627776;decide⟩
 |succ k=>have:=h.ids k (Nat.lt_succ_self k);exact⟨by show 0<=(nd ns k).id;omega,this.2⟩
theorem tG.step {ns:List au} {k:Nat} (h:tG ns k) (h1:ou ns k<(nd ns k).id) (h2:(nd ns k).id<=1099511627776) (h3:o9 (nd ns k)):tG ns (k+1):=by
 have hl:=h.last
 refine⟨λi hi=>?_,λi hi=>?_,λi j hij hj=>?_⟩
 ·rcases Nat.lt_succ_iff_lt_or_eq.1 hi with e|e
  ·exact h.node i e
  rw [e];exact h3
 ·rcases Nat.lt_succ_iff_lt_or_eq.1 hi with e|e
  ·exact h.ids i e
  rw [e];omega
 rcases Nat.lt_succ_iff_lt_or_eq.1 hj with e|e
 ·exact h.rise i j hij e
 subst e
 cases j with
 |zero=>omega
 |succ m=>
   have h4:(nd ns m).id<(nd ns (m+1)).id:=h1
   rcases Nat.lt_succ_iff_lt_or_eq.1 hij with e|e
   ·have:=h.rise i m e (Nat.lt_succ_self m);omega
   rw [e];exact h4
theorem K2 {ns:List au} {k:Nat} (h:∀i,i<k->(nd ns i).id<(nd ns k).id) (hk:k<ns.length):dV ns (nd ns k).id=(k:Int):=by
 unfold dV
 have hg:∀j (hj:j<ns.length),nd ns j=ns[j]:=λj hj=>by
  grind [nd]
 have:ns.findIdx? (λn=>n.id == (nd ns k).id)=some k:=by
  rw [List.findIdx?_eq_some_iff_getElem]
  grind
 rw [this]
theorem ZB {A:Option Addr} {ns:List au} {k:Nat} (h:∀i,i<k->(nd ns i).id<(nd ns k).id) (hk:k<ns.length) :
 o4 (mf (bf A ns k)) (.int .i64 (nd ns k).id) (some (.pointer (some ⟨aV A,aU A+k*10,none⟩)))=mf (bf A ns (k+1)):=by
 have ha:=K2 h hk
 rw [Kh]
 congr 1
 funext z
 unfold bf
 by_cases e:z=(nd ns k).id
 ·grind [tgt]
 rw [if_neg e]
 by_cases e1:0<=dV ns z/\dV ns z<(k:Int)
 ·rw [if_pos e1,if_pos ⟨e1.1,by omega⟩]
 rw [if_neg e1,if_neg (λe2=>?_)]
 have e3:dV ns z=(k:Int):=by omega
 have e4:=(jY e2.1).2
 grind
theorem Vc {A:Option Addr} {ns:List au} {k:Nat} (h:∀i,i<k->(nd ns i).id<(nd ns k).id) (hk:k<ns.length):(if ((mf (bf A ns k)) (.int .i64 (nd ns k).id)).isSome then k else k+1)=k+1:=by
 grind [K2,mf,bf,nd]
theorem tG.below {ns:List au} {k:Nat} (h:tG ns k) (h1:ou ns k<(nd ns k).id):∀i,i<k->(nd ns i).id<(nd ns k).id:=by
 intro i hi
 cases k with
 |zero=>omega
 |succ m=>
   have h1:(nd ns m).id<(nd ns (m+1)).id:=h1
   rcases Nat.lt_succ_iff_lt_or_eq.1 hi with e|e
   ·have:=h.rise i m e (Nat.lt_succ_self m);omega
   rw [e];exact h1
theorem Ye {A:Option Addr} {ns:List au}:mf (bf A ns 0)=λ_=>none:=by
 rw [←GA]
 congr 1
 funext z
 exact if_neg (λe=>by omega)
theorem Yf {ns:List au}:mf (pf ((fX ns 0).map (iT ns)))=λ_=>none:=by
 rw [←GA]
 congr 1
theorem wC {ns:List au} {i:Nat} (hi:i<=ns.length) (h:∀a,a<i->∀j,j<(nd ns a).af.length->tX ns a j):∀p,p∈fX ns i->p.1<ns.length/\p.2<ns.length:=by
 induction i with
 |zero=>intro p hp;cases hp
 |succ i ih=>
   intro p hp
   grind [fX,Kx]
theorem K3 (ns:List au) (i:Nat):(fX ns i).length<=bN ns i:=by
 induction i with
 |zero=>exact Nat.le_refl _
 |succ i ih=>
   grind [fX,bN,Kw,nd]
theorem nP {ns:List au} {i m:Nat} (h:i<=m):bN ns i<=bN ns m:=by
 induction m with
 |zero=>rw [Nat.le_zero.1 h];exact Nat.le_refl _
 |succ m ih=>
   grind [bN]
theorem R6 {ns:List au} {ps:List (Nat×Nat)} (hp:∀p,p∈ps->p.1<ns.length/\p.2<ns.length) (hid:∀i,i<ns.length->1<=(nd ns i).id/\(nd ns i).id<=1099511627776) :
 ∀z y,up (ps.map (iT ns)) z=some y->(-9223372036854775808<=z/\z<=9223372036854775807)/\(-9223372036854775808<=y/\y<=9223372036854775807):=by
 intro z y h
 unfold up at h
 induction ps with
 |nil=>cases h
 |cons p ps ih=>
   grind [iT,nd]
theorem ZC {p:Prop} [Decidable p] {v:Value} {l:List HP} (h:v=.bool (decide p)/\l=[]):(v=.bool true/\p/\l=[])\/(v=.bool false/\¬p/\l=[]):=by
 by_cases hp:p
 all_goals grind
theorem zx.next {ns:List au} {i:Nat} (h:zx ns i (fX ns i)):((fX ns (i+1)).map Prod.fst).Nodup:=h.nodup
theorem aX.row {ns:List au} (h:aX ns) {i:Nat} (hi:i<ns.length):zx ns i (fX ns i):=by
 refine⟨h.af i hi,?_⟩
 obtain⟨l,hl⟩:=Rm (ns:=ns) (show i+1<=ns.length from hi)
 have:=h.nodup
 rw [hl] at this
 exact Bw this
end
section
open Go.RowKit
attribute [local irreducible] ai aQ ah aj
theorem Yg {β:Bs} (A:Option Addr) (c:Nat) (ns:List au) (L:Lay) (hG:av β A ns L) (hl:ns.length<=1048576) (hd:∀i,i<ns.length->(nd ns i).data.length<=140737488355328/\(nd ns i).af.length<=1048576) (hwf:∀i,i<ns.length->∀j,j<(nd ns i).af.length->-9223372036854775808<=(ent ns i j).id/\(ent ns i j).id<=9223372036854775807) (hnm:∀i,i<ns.length->∀j,j<(nd ns i).af.length->(ent ns i j).name.size<=1048576) :
 Spec Tryz.prog β 57 #[.agg #[.slice A ns.length c]] [] (λv l=>(∃mb,v=.tuple #[.map (some mb),.bool true]/\aX ns/\l=[.abs (aY Tryz.prog 3 mb (mf (bf A ns ns.length)) ns.length)])\/(∃m,v=.tuple #[m,.bool false]/\¬aX ns/\l=[])):=by
 refine SE Tryz.func57 Tryz.ntmps57 (λR=>SR (jB 3 [1] (λb1=>.blk b1 [.slice A (ns.length) (c)] 24) (λb1=>NZ (jK 4 [14] [(1,a_ 1 b1)] (NN (cP ((((ns.length:Nat):Int):Int)>(4096:Int)) (λjg=>zR (v:=(.tuple #[.map none,.bool false])) (.inr ⟨_,rfl,λh=>by have:=h.len;omega,rfl⟩)) (λjg=>KX (SR (ai.rI (d:=(some 15)) (t:=135) (λ_=>by kernel_rfl) Tryz.prog rfl 3 (λm2=>jK 1 [4] [] (NS (ai.bL 2 (p:=.abs (aY Tryz.prog 3 m2 (λ_=>none) 0)) (p':=.abs (aY Tryz.prog 3 m2 (mf (bf A ns 0)) 0)) (by kernel_rfl) (by rw [Ye]) (jK 2 [5,6] [] (NZ (jK 4 [18,19] [(1,a_ 1 b1)] (NN (ah.block (lJ (ι:=Nat) (λ(k:Nat)=>(k<=ns.length)/\(tG ns k)/\(bN ns k<=k*1048576)) (λ(k:Nat)=>ns.length-k) (λ(k:Nat)=>[(1,vP b1),(4,.map (some m2)),(5,vI (ou ns k)),(6,vI ↑(bN ns k)),(18,vI ↑ns.length),(19,vI ↑k)]) (λ(k:Nat)=>[.blk b1 [.slice A (ns.length) (c)] 24,.abs (aY Tryz.prog 3 m2 (mf (bf A ns k)) k),.abs R]) 0 [1,2,0] (⟨Nat.zero_le _,tG.zero ns,Nat.zero_le _⟩) ?_))))))))))))))))))
 rintro k ⟨hk,hu,hs⟩
 have hk4:=(hd k)
 refine SR (jK 1 [20] [] (NN (ah.seq (cP ((((k:Nat):Int):Int)<(((ns.length:Nat):Int):Int)) (λnS=>KX (ah.seq (ah.block (SR (jK 2 [7] [] (NS (jK 5 [8] [(1,a_ 0 b1),(3,x_ k ns.length (av.hd hG (i:=k) (by omega)))] (NZ (jK 7 [32] [(3,r_ (av.rd hG (i:=k) (by omega) (j:=0) rfl))] (sP 32 (((nd ns k).id:Int)<=(ou ns k:Int)) (λo8=>jK 11 [43] [] (NT (zR (v:=(.tuple #[.map none,.bool false])) (.inr ⟨_,rfl,λh=>by have:=h.last (show k<ns.length by omega);omega,rfl⟩) [2]))) (λo8=>jK 7 [39] [(3,r_ (av.rd hG (i:=k) (by omega) (j:=0) rfl))] (sP 39 (((nd ns k).id:Int)>(1099511627776:Int)) (λqB=>jK 4 [43] [] (NT (zR (v:=(.tuple #[.map none,.bool false])) (.inr ⟨_,rfl,λh=>by have:=(h.ids k (by omega)).2;omega,rfl⟩) [2]))) (λqB=>jK 1 [40] [] (gE [] (Uz A ns L hG k (by omega)) (jK 2 [43] [] (NN (cN (o9 (nd ns k)) (λFB=>zR (v:=(.tuple #[.map none,.bool false])) (.inr ⟨_,rfl,λh=>FB (h.node k (by omega)),rfl⟩) [2]) (λFB=>KX (SR (jK 5 [5] [(3,r_ (av.rd hG (i:=k) (by omega) (j:=0) rfl))] (NS (jK 6 [48,52,53] [(4,r_ (av.rd hG (i:=k) (by omega) (j:=0) rfl))] (ai.pY 1 (d:=none) (t:=135) (K:=3) (E:=167) (b:=m2) (n:=k) (f:=(mf (bf A ns k))) (x:=(.tmp 48)) (ix:=(.tmp 52)) (y:=(.tmp 53)) (key:=.int .i64 ((nd ns k).id)) (u:=.pointer (some ⟨(aV A),aU A+k*10,none⟩)) (kl:=(.int .i64 (nd ns k).id)) (n':=k+1) (f':=(mf (bf A ns (k+1)))) (λ_=>by kernel_rfl) (by kernel_rfl) (λ_=>by kernel_rfl) (λ_=>by kernel_rfl) (λ_=>by kernel_rfl) gH Tryz.underlying135 (by unfold maxLen;omega) (tq (by have:=hu.last;omega) (by omega)) (Vc (hu.below (by omega)) (by omega)) (ZB (hu.below (by omega)) (by omega)) (NN (ah.region (jK 8 [6] [(4,r_ (av.rd hG (i:=k) (by omega) (j:=9) rfl)),(6,wJ (((bN ns k:Nat):Int)+(((nd ns k).af.length:Nat):Int)) (↑((bN ns k)+((nd ns k).af.length))))] (LX (ah.region (jK 2 [19] [(0,wJ ((k:Int)+1) (↑(k+1)))] (NL (tJ ((k+1)) [0,1,2] (⟨by omega,hu.step (by omega) (by omega) FB,by grind [bN]⟩)))))))))))))))))))))))))))))))) (λnS=>XX (SQ (jK 2 [63] [] (NN (cP ((((bN ns k:Nat):Int):Int)>(8192:Int)) (λh63=>zR (v:=(.tuple #[.map none,.bool false])) (.inr ⟨_,rfl,λh=>by have h1:=h.sum;grind,rfl⟩) [2]) (λh63=>KX (SR (ai.rI (d:=(some 64)) (t:=169) (λ_=>by kernel_rfl) Tryz.prog rfl 3 (λm3=>jK 1 [9] [] (NZ (ai.bL 3 (p:=.abs (aY Tryz.prog 3 m3 (λ_=>none) 0)) (p':=.abs (aY Tryz.prog 3 m3 (mf (pf ((fX ns 0).map (iT ns)))) ((fX ns 0).length))) (by kernel_rfl) (by rw [Yf];rfl) (ai.bL 1 (p:=.abs (aY Tryz.prog 3 m2 (mf (bf A ns k)) k)) (p':=.abs (aY Tryz.prog 3 m2 (mf (bf A ns ns.length)) ns.length)) (by kernel_rfl) (by rw [show k=ns.length by omega]) (jK 4 [67,68] [(1,a_ 0 b1)] (NN (ah.block ?_)))))))))))))))))))
 have zK:bK ns:=λa b hab hb=>hu.rise a b hab (by omega)
 have hsum:bN ns ns.length<=8192:=by rw [show ns.length=k by omega];omega
 refine lJ (ι:=Nat) (λ(i:Nat)=>(i<=ns.length)/\(∀a,a<i->∀j,j<(nd ns a).af.length->tX ns a j)/\(((fX ns i).map Prod.fst).Nodup)) (λ(i:Nat)=>ns.length-i) (λ(i:Nat)=>[(1,vP b1),(4,.map (some m2)),(9,.map (some m3)),(67,vI ↑ns.length),(68,vI ↑i)]) (λ(i:Nat)=>[.blk b1 [.slice A (ns.length) (c)] 24,.abs (aY Tryz.prog 3 m2 (mf (bf A ns ns.length)) ns.length),.abs (aY Tryz.prog 3 m3 (mf (pf ((fX ns i).map (iT ns)))) ((fX ns i).length)),.abs R]) 0 [0,1,3,2] (⟨Nat.zero_le _,λa ha=>absurd ha (Nat.not_lt_zero a),List.nodup_nil⟩) ?_
 rintro i ⟨hi,xD,hnd⟩
 refine SR (jK 1 [69] [] (NN (ah.seq (cP ((((i:Nat):Int):Int)<(((ns.length:Nat):Int):Int)) (λWE=>?_) (λWE=>?_)))))
 ·refine KX (ah.seq (ah.block (SR (jK 2 [10] [] (NS (jK 6 [74,75,76] [(1,a_ 0 b1),(3,x_ i ns.length (av.hd hG (i:=i) (by omega)))] (gL [1,2] (Vb A ns L hG zK i (by omega) (hd i (by omega)).2 (hwf i (by omega)) (hnm i (by omega)) m2 m3 (fX ns i) (by have:=K3 ns i;have:=nP (ns:=ns) (show i<=ns.length by omega);omega) (λp hp=>(wC (by omega) xD p hp).1) hnd) ?_)))))))
  rintro _ _ (⟨rfl,hro,rfl⟩|⟨rfl,hro,rfl⟩)
  ·exact jK 1 [78] [] (NF (KX (ah.region (jK 2 [68] [(0,wJ ((i:Int)+1) (↑(i+1)))] (NL (tJ ((i+1)) [2,0,1,3] (⟨by omega,λa ha=>(by rcases Nat.lt_succ_iff_lt_or_eq.1 ha with h|h;exact xD a h;subst h;exact hro.af),hro.next⟩)))))))
  exact jK 1 [78] [] (NT (zR (v:=(.tuple #[.map none,.bool false])) (.inr ⟨_,rfl,λh=>hro (h.row (by omega)),rfl⟩) [1]))
 refine XX (SR (jK 2 [80,81] [] (ai.bL 2 (p:=.abs (aY Tryz.prog 3 m3 (mf (pf ((fX ns i).map (iT ns)))) ((fX ns i).length))) (p':=.abs (aY Tryz.prog 3 m3 (mf (pf ((fX ns i).map (iT ns)))) (((fX ns i).map (iT ns)).length))) (by kernel_rfl) (by rw [List.length_map]) (gL [2] ((Rj m3 ((fX ns i).map (iT ns)) (by grind [K3,nP]) (R6 (wC (by omega) xD) (λa ha=>hu.ids a (by omega)))).mono (λv l h=>ZC h)) ?_))))
 rintro _ _ (⟨rfl,hae,rfl⟩|⟨rfl,hae,rfl⟩)
 ·exact jK 2 [2,3] [] (eN (v:=(.tuple #[.map (some m2),.bool true])) (.inl ⟨m2,rfl,⟨by omega,λa ha=>hu.node a (by omega),λa ha=>hu.ids a (by omega),zK,by omega,λa ha=>xD a (by omega),by grind,by grind⟩,rfl⟩) [1,2])
 exact jK 2 [2,3] [] (eN (v:=(.tuple #[.map (some m2),.bool false])) (.inr ⟨_,rfl,λh=>hae (by have:=h.ends;grind),rfl⟩) [2])
theorem Vd {β:Bs} (A:Option Addr) (c:Nat) (ns:List au) (L:Lay) (hG:av β A ns L) (hl:ns.length<=1048576) (hd:∀i,i<ns.length->(nd ns i).data.length<=140737488355328/\(nd ns i).af.length<=1048576) (hwf:∀i,i<ns.length->∀j,j<(nd ns i).af.length->-9223372036854775808<=(ent ns i j).id/\(ent ns i j).id<=9223372036854775807) (hnm:∀i,i<ns.length->∀j,j<(nd ns i).af.length->(ent ns i j).name.size<=1048576) :
 Spec Tryz.prog β 20 #[.agg #[.slice A ns.length c]] [] (λv l=>v=vI (if aX ns then 0 else 140)/\l=[]):=by
 refine SE Tryz.func20 Tryz.ntmps20 (λR=>SR (jB 2 [1] (λb4=>.blk b4 [.slice A (ns.length) (c)] 24) (λb4=>NZ (jK 1 [6] [(0,a_ 1 b4)] (gL [] (Yg A c ns L hG hl hd hwf hnm) ?_)))))
 rintro _ _ (⟨mb,rfl,hok,rfl⟩|⟨m,rfl,hok,rfl⟩)
 ·exact jK 5 [4] [] (NS (jK 2 [11] [] (NF (KX (zR ⟨congrArg (Value.int .i64) (if_pos hok).symm,rfl⟩ [1])))))
 exact jK 5 [4] [] (NS (jK 2 [11] [] (NT (zR ⟨congrArg (Value.int .i64) (if_neg hok).symm,rfl⟩))))
end
section
open Go.RowKit Go.Maps
def zL (ed:List (Nat×Nat)) (k:Nat):Int:=match ed.lookup k with|some a=>(a:Int)|none=>-1
structure K5 (n:Nat) (pl:List Int) (ed:List (Nat×Nat)):Prop where
 len:pl.length=n
 at_:∀k,k<n->pl.getD k 0=zL ed k
theorem xE {w:List Int} {j:Nat} (hj:j<w.length):(gZ w)[j]?=some (.int .i64 (w.getD j 0)):=by
 grind [gZ,getD_some]
theorem BS (pl:List Int) (k:Nat) (x:Int):(gZ pl).set k (.int .i64 x)=gZ (pl.set k x):=by
 unfold gZ
 rw [List.map_set]
theorem K6 {pl:List Int} {k j:Nat} {x:Int} (hk:k<pl.length):(pl.set k x).getD j 0=if j=k then x else pl.getD j 0:=by
 grind
theorem K5.put {n:Nat} {pl:List Int} {ed:List (Nat×Nat)} (h:K5 n pl ed) {k a:Nat} (hk:k<n):K5 n (pl.set k (a:Int)) ((k,a)::ed):=by
 refine⟨by rw [List.length_set];exact h.len,λj hj=>?_⟩
 rw [K6 (by rw [h.len];exact hk)]
 unfold zL
 rw [List.lookup_cons]
 by_cases e:j=k
 ·subst e;simp
 have:(j == k)=false:=by simp [e]
 rw [if_neg e,this,h.at_ j hj]
 rfl
theorem xG {ed:List (Nat×Nat)} {k:Nat}:zL ed k<0↔k∉ed.map Prod.fst:=by
 grind [zL]
theorem Yh {ns:List au} {ed:List (Nat×Nat)} {k:Nat} (hr:bK ns) (hk:k<ns.length) (hp:∀p,p∈ed->p.1<ns.length) :
 (zL ed k<0/\up (ed.map (iT ns)) (nd ns k).id=none)\/∃a:Nat,zL ed k=(a:Int)/\(k,a)∈ed/\up (ed.map (iT ns)) (nd ns k).id=some (nd ns a).id:=by
 unfold zL up
 induction ed with
 |nil=>exact .inl ⟨by simp,rfl⟩
 |cons p ed ih=>
   obtain⟨a,b⟩:=p
   rw [List.map_cons,iT,List.lookup_cons,List.lookup_cons]
   by_cases e:k=a
   ·grind
   have h1:(k == a)=false:=by simp [e]
   have h2:((nd ns k).id == (nd ns a).id)=false:=by
    simp
    exact λh=>e (hr.inj hk (hp (a,b) (List.mem_cons_self ..)) h)
   grind
theorem Way.back {ps:List (Int×Int)} {z0:Int} {w:List Int} (h:Way ps z0 w z0) (hl:0<w.length):¬Ends ps z0:=λ⟨k,hk⟩=>by
 obtain⟨j,hj,h2⟩:=h.long hk
 have:=kT.uniq hk h2
 omega
theorem K7:∀(n:Nat) (l:List Nat),l.Nodup->(∀x,x∈l->x<n)->l.length<=n
 |0,[],_,_=>Nat.le_refl _
 |0,a::l,_,h=>absurd (h a (List.mem_cons_self ..)) (Nat.not_lt_zero a)
 |n+1,l,hn,h=>by
   have h1:=K7 n (l.erase n) (hn.erase n) (λx hx=>by
    have h2:=(List.Nodup.mem_erase_iff hn).1 hx
    have:=h x h2.2
    omega)
   by_cases hm:n∈l
   ·have:=List.length_erase_of_mem hm
    omega
   rw [List.erase_of_not_mem hm] at h1
   omega
theorem R7 {ns:List au} {ed:List (Nat×Nat)} (hp:∀p,p∈ed->p.1<ns.length) (h:∀i,i<ns.length->Ends (ed.map (iT ns)) (nd ns i).id):yG (ed.map (iT ns)):=by
 intro z
 cases hu:up (ed.map (iT ns)) z with
 |none=>exact⟨0,hu⟩
 |some y=>
   have:∃p,p∈ed/\z=(nd ns p.1).id:=by
    unfold up at hu
    clear h
    induction ed with
    |nil=>cases hu
    |cons p ed ih=>
      grind [iT,nd]
   obtain⟨p,h1,rfl⟩:=this
   exact h p.1 (hp p h1)
theorem K8 {ns:List au} {ed:List (Nat×Nat)} {pl:List Int} {z:Int} {b m:Nat} {w:List Int} (hr:bK ns) (hp:∀p,p∈ed->p.1<ns.length/\p.2<ns.length) (hpar:K5 ns.length pl ed) (hb:b<ns.length) (hw:Way (ed.map (iT ns)) z w (nd ns b).id) (hm:w.length=m) :
 (pl.getD b 0<0/\Ends (ed.map (iT ns)) z)\/∃q:Nat,pl.getD b 0=(q:Int)/\q<ns.length/\Way (ed.map (iT ns)) z (w++[(nd ns b).id]) (nd ns q).id/\(w++[(nd ns b).id]).length=m+1:=by
 rw [hpar.at_ b hb]
 rcases Yh hr hb (λp h=>(hp p h).1) with ⟨h1,h2⟩|⟨a,h1,h2,h3⟩
 ·exact .inl ⟨h1,(hw.ends ⟨0,h2⟩).1⟩
 exact .inr ⟨a,h1,(hp _ h2).2,hw.snoc h3,by simp;omega⟩
theorem zM {ns:List au} {i j:Nat} (h1:0<=dV ns (ent ns i j).id) (h2:aS (ent ns i j).name) (h3:0<j->¬fM (ent ns i j).name (ent ns i (j-1)).name):tX ns i j:=by
 refine⟨h1,h2,?_⟩
 cases j with
 |zero=>
   intro h
   have:=Na.1 h
   have h4:=h2.1
   rw [this] at h4
   exact absurd h4 (by decide)
 |succ j=>exact h3 (Nat.succ_pos j)
theorem P4 {ns:List au} {k:Nat} (h:0<k):ou ns k=(nd ns (k-1)).id:=by
 cases k with
 |zero=>omega
 |succ k=>rfl
theorem K9 {ns:List au} {i j:Nat} (h:0<j):wj ns i j=(ent ns i (j-1)).name:=by
 cases j with
 |zero=>omega
 |succ j=>rfl
theorem aX.few {ns:List au} (h:aX ns):((fX ns ns.length).map (iT ns)).length<=ns.length:=by
 rw [List.length_map]
 have h1:=wC (ns:=ns) (Nat.le_refl _) h.af
 have h2:=K7 ns.length ((fX ns ns.length).map Prod.fst) h.nodup (λx hx=>by
  obtain⟨p,hp,rfl⟩:=List.mem_map.1 hx
  exact (h1 p hp).1)
 rwa [List.length_map] at h2
end
section
open Go.RowKit
attribute [local irreducible] ai aQ ah aj
theorem Np {β:Bs} (A:Option Addr) (c:Nat) (ns:List au) (L:Lay) (hG:av β A ns L) (hl:ns.length<=1048576) (hd:∀i,i<ns.length->(nd ns i).data.length<=1048576/\(nd ns i).af.length<=1048576) (_:∀i,i<ns.length->∀j,j<(nd ns i).af.length->-9223372036854775808<=(ent ns i j).id/\(ent ns i j).id<=9223372036854775807) (hnm:∀i,i<ns.length->∀j,j<(nd ns i).af.length->(ent ns i j).name.size<=1048576) (ht:∀i,i<ns.length->(nd ns i).target.size<=1048576) :
 Spec Tryz.prog β 26 #[.agg #[.slice A ns.length c]] [] (λv l=>v=vI (if aX ns then 0 else 140)/\l=[]):=by
 refine SE Tryz.func26 Tryz.ntmps26 (λR=>SR (jB 2 [1] (λb1=>.blk b1 [.slice A (ns.length) (c)] 24) (λb1=>NZ (jK 4 [18] [(1,a_ 1 b1)] (NN (cP ((((ns.length:Nat):Int):Int)>(4096:Int)) (λmF=>zR ⟨congrArg (Value.int .i64) (if_neg (c:=aX ns) (λh=>by have:=h.len;omega)).symm,rfl⟩) (λmF=>KX (SR (jK 1 [3] [] (NZ (jK 1 [4] [] (NN (ah.block (lJ (λ(k:Nat)=>(k<=ns.length)/\(tG ns k)/\(bN ns k<=k*1048576)) (λ(k:Nat)=>ns.length-k) (λ(k:Nat)=>[(1,vP b1),(3,vI ↑(bN ns k)),(4,vI ↑k)]) (λ(k:Nat)=>[.blk b1 [.slice A (ns.length) (c)] 24,.abs R]) 0 [1,0] (⟨Nat.zero_le _,tG.zero ns,Nat.zero_le _⟩) ?_))))))))))))))
 rintro k ⟨hk,hu,hs⟩
 have hk4:=(hd k)
 refine SQ (jK 5 [23] [(2,a_ 0 b1)] (NN (cP ((((k:Nat):Int):Int)<(((ns.length:Nat):Int):Int)) (λh23=>KX (ah.seq (ah.block (SR (jN 7 [5] (λb2=>[(1,a_ 0 b1),(3,x_ k ns.length (av.hd hG (i:=k) (by omega))),(4,Bl (eT L k (nd ns k)) (λ_ _ h=>av.rd hG (by omega) h)),(6,A_ 2 b2 10)]) (λ_=>[]) (λb2=>.blk b2 (eT L k (nd ns k)) 75) (λb2=>NN (ah.seq (ah.seq (rQ (jQ 4 [34] [(1,a_ 2 b2)] (aQ.tU 34 (((nd ns k).id:Int)<(1:Int)) (λ_=>by kernel_rfl) (λwB=>jQ 25 [59] [] (NQ (NX (CT (zR ⟨congrArg (Value.int .i64) (if_neg (c:=aX ns) (λh=>by have:=(h.ids k (by omega)).1;omega)).symm,rfl⟩ [1]))))) (λwB=>jQ 5 [39] [(1,a_ 2 b2)] (aQ.tU 39 (((nd ns k).id:Int)>(1099511627776:Int)) (λ_=>by kernel_rfl) (λqB=>jQ 20 [59] [] (NQ (NX (CT (zR ⟨congrArg (Value.int .i64) (if_neg (c:=aX ns) (λh=>by have:=(h.ids k (by omega)).2;omega)).symm,rfl⟩ [1]))))) (λqB=>jQ 3 [42] [] (aQ.tU 42 ((((k:Nat):Int):Int)>(0:Int)) (λ_=>by kernel_rfl) (λiK=>jQ 13 [55] [(1,a_ 2 b2),(3,a_ 0 b1),(5,wJ ((k:Int)-1) (↑(k-1))),(6,x_ (k-1) ns.length (av.hd hG (i:=(k-1)) (by omega))),(8,r_ (av.rd hG (i:=(k-1)) (by omega) (j:=0) rfl))] (aQ.tU 55 (((nd ns k).id:Int)<=((nd ns (k-1)).id:Int)) (λ_=>by kernel_rfl) (λWO=>jQ 4 [59] [] (NQ (NX (CT (zR ⟨congrArg (Value.int .i64) (if_neg (c:=aX ns) (λh=>by have:=h.rise (k-1) k (by omega) (by omega);omega)).symm,rfl⟩ [1]))))) (λWO=>jQ 1 [56] [(0,A_ 2 b2 10)] (jU [] [0,1,2] (.bool (decide (o9 (nd ns k)))) (Km (nd ns k) (L.dA k) (L.eA k) (L.dC k) (L.eC k) (ht k (by omega))) (jQ 2 [59] [] (NQ (NX (cN (o9 (nd ns k)) (λyV=>zR ⟨congrArg (Value.int .i64) (if_neg (c:=aX ns) (λh=>by exact yV (h.node k (by omega)))).symm,rfl⟩ [1]) (λyV=>KX (ah.region (jK 6 [3] [(2,a_ 2 b2),(4,wJ (((bN ns k:Nat):Int)+(((nd ns k).af.length:Nat):Int)) (↑((bN ns k)+((nd ns k).af.length))))] (LX (ah.region (jK 3 [4] [(1,wJ ((k:Int)+1) (↑(k+1)))] (NL (tJ ((k+1)) [0,1] (⟨by omega,hu.step (by rw [P4 (by omega)];omega) (by omega) yV,by show bN ns k+_<=_;omega⟩))))))))))))))))) (λiK=>jQ 14 [55,56] [(13,A_ 2 b2 10)] (jU [] [0,1,2] (.bool (decide (o9 (nd ns k)))) (Km (nd ns k) (L.dA k) (L.eA k) (L.dC k) (L.eC k) (ht k (by omega))) (jQ 2 [59] [] (NQ (NX (cN (o9 (nd ns k)) (λyV=>zR ⟨congrArg (Value.int .i64) (if_neg (c:=aX ns) (λh=>by exact yV (h.node k (by omega)))).symm,rfl⟩ [1]) (λyV=>KX (ah.region (jK 6 [3] [(2,a_ 2 b2),(4,wJ (((bN ns k:Nat):Int)+(((nd ns k).af.length:Nat):Int)) (↑((bN ns k)+((nd ns k).af.length))))] (LX (ah.region (jK 3 [4] [(1,wJ ((k:Int)+1) (↑(k+1)))] (NL (tJ ((k+1)) [0,1] (⟨by omega,hu.step (by rw [show k=0 by omega];rw [show k=0 by omega] at wB;show (0:Int)<_;omega) (by omega) yV,by show bN ns k+_<=_;omega⟩)))))))))))))))))))))))))))))) (λh23=>XX (SQ (jK 2 [66] [] (NN (cP ((((bN ns k:Nat):Int):Int)>(8192:Int)) (λjF=>zR ⟨congrArg (Value.int .i64) (if_neg (c:=aX ns) (λh=>by have h1:=h.sum;grind)).symm,rfl⟩ [1]) (λjF=>KX (SR (jK 3 [69] [(1,a_ 0 b1)] (ai.Un (d:=(some 70)) (t:=38) (e:=3) (z:=.int .i64 0) (bytes:=8) (n:=ns.length) (l:=(.tmp 69)) (c:=(.tmp 69)) (λ_=>by kernel_rfl) (λ_=>by kernel_rfl) (λ_=>by kernel_rfl) Tryz.underlying38 (by kernel_rfl) rfl (by omega) (by omega) (λb3=>jK 1 [6] [] (NZ (ai.bL 2 (p':=.abs (aq 3 1 (some ⟨b3,0,none⟩) ns.length ns.length (gZ (List.replicate ns.length 0)))) rfl (by rw [gZ,List.map_replicate]) (jK 1 [7] [] (NN (ah.block (lJ (λ(t,pl)=>(t<=ns.length)/\(pl.length=ns.length)/\(∀a,a<t->pl.getD a 0 = -1)) (λ(t,pl)=>ns.length-t) (λ(t,pl)=>[(1,vP b1),(6,.slice (some ⟨b3,0,none⟩) (ns.length) (ns.length)),(7,vI ↑t)]) (λ(t,pl)=>[.blk b1 [.slice A (ns.length) (c)] 24,.abs (aq 3 1 (some ⟨b3,0,none⟩) ns.length ns.length (gZ pl)),.abs R]) (0,(List.replicate ns.length 0)) [0,2,1] (⟨Nat.zero_le _,by simp,λa ha=>absurd ha (Nat.not_lt_zero a)⟩) ?_)))))))))))))))))))
 rintro⟨t,pl⟩ ⟨ht2,hpl,hpa⟩
 refine SQ (jK 4 [74] [] (NN (cP ((((t:Nat):Int):Int)<(((ns.length:Nat):Int):Int)) (λDw=>KX (ah.seq (ah.block (ah.region (jK 3 [79] [(2,p_ ⟨[],some t,none,none,some (.pointer (some ⟨b3,t,none⟩))⟩ [(Value.pointer (some ⟨b3,0+t*1,none⟩))=(.pointer (some ⟨b3,t,none⟩)),((t:Nat):Int)=((t:Nat):Int),t<ns.length,(⟨b3,0,none⟩:Addr).spot=none] ⟨by simp,rfl,by omega,rfl,trivial⟩)] (ai.EY 1 (t) (d:=none) (T:=3) (e:=3) (size:=1) (n:=ns.length) (cap:=ns.length) (g:=b3) (xs:=(gZ pl)) (u:=.int .i64 (-1)) (a:=(.tmp 79)) (y:=(.const (.int .i64 (-1)))) (λ_=>by kernel_rfl) (by kernel_rfl) (λ_=>by kernel_rfl) (λ_=>by kernel_rfl) (by kernel_rfl) rfl (by rw [gZ,List.length_map];omega) (ai.bL 1 rfl (by rw [BS]) (LX (ah.region (jK 3 [7] [(1,wJ ((t:Int)+1) (↑(t+1)))] (NL (tJ ((t+1),(pl.set t (-1))) [0,1,2] (⟨by omega,by rw [List.length_set];exact hpl,λa ha=>(by grind [K6])⟩))))))))))))) (λDw=>XX (SQ (jK 1 [8] [] (NN (ah.block ?_))))))))
 have zK:bK ns:=λa b hab hb=>hu.rise a b hab (by omega)
 have hsum:bN ns ns.length<=8192:=by rw [show ns.length=k by omega];omega
 refine lJ (λ(i,sX)=>(i<=ns.length)/\(∀a,a<i->∀j,j<(nd ns a).af.length->tX ns a j)/\(((fX ns i).map Prod.fst).Nodup)/\(K5 ns.length sX (fX ns i))) (λ(i,sX)=>ns.length-i) (λ(i,sX)=>[(1,vP b1),(6,.slice (some ⟨b3,0,none⟩) (ns.length) (ns.length)),(8,vI ↑i)]) (λ(i,sX)=>[.blk b1 [.slice A (ns.length) (c)] 24,.abs (aq 3 1 (some ⟨b3,0,none⟩) ns.length ns.length (gZ sX)),.abs R]) (0,pl) [0,1,2] (⟨Nat.zero_le _,λa ha=>absurd ha (Nat.not_lt_zero a),List.nodup_nil,⟨hpl,λa ha=>hpa a (by omega)⟩⟩) ?_
 rintro⟨i,sX⟩ ⟨hi,xD,hnd,hpar⟩
 refine SQ (jK 5 [84] [(2,a_ 0 b1)] (NN (cP ((((i:Nat):Int):Int)<(((ns.length:Nat):Int):Int)) (λZE=>?_) (λZE=>?_))))
 ·refine KX (ah.seq (ah.block (SR (jK 1 [9] [] (NN (ah.block (lJ (λ(j,qK)=>(j<=(nd ns i).af.length)/\(∀t,t<j->tX ns i t)/\(((eE ns i j++fX ns i).map Prod.fst).Nodup)/\(K5 ns.length qK (eE ns i j++fX ns i))) (λ(j,qK)=>(nd ns i).af.length-j) (λ(j,qK)=>[(1,vP b1),(6,.slice (some ⟨b3,0,none⟩) (ns.length) (ns.length)),(8,vI ↑i),(9,vI ↑j)]) (λ(j,qK)=>[.blk b1 [.slice A (ns.length) (c)] 24,.abs (aq 3 1 (some ⟨b3,0,none⟩) ns.length ns.length (gZ qK)),.abs R]) (0,sX) [0,1,2] (⟨Nat.zero_le _,λt ht=>absurd ht (Nat.not_lt_zero t),hnd,hpar⟩) ?_)))))))
  rintro⟨j,qK⟩ ⟨hj,hok,sF,tZ⟩
  have hd3:=(hd i (by omega)).2
  have R8:=tZ.len
  refine SQ (jK 9 [95] [(2,a_ 0 b1),(4,x_ i ns.length (av.hd hG (i:=i) (by omega))),(6,r_ (av.rd hG (i:=i) (by omega) (j:=9) rfl))] (NN (cP ((((j:Nat):Int):Int)<((((nd ns i).af.length:Nat):Int):Int)) (λh95=>KX (ah.seq (ah.block (SR (jN 11 [10] (λb4=>[(1,a_ 0 b1),(3,x_ i ns.length (av.hd hG (i:=i) (by omega))),(5,r_ (av.rd hG (i:=i) (by omega) (j:=9) rfl)),(7,x_ j ((nd ns i).af.length) (bp.hd (hG.af i (by omega)) (i:=j) (by omega))),(8,r2 (bp.rd (hG.af i (by omega)) (i:=j) (by omega) (j:=0) rfl) (bp.rd (hG.af i (by omega)) (i:=j) (by omega) (j:=1) rfl)),(10,A_ 3 b4 2)]) (λ_=>[]) (λb4=>.blk b4 [.string (en (nd ns i).af j).name,vI ((en (nd ns i).af j).id)] 90) (λb4=>NS (jK 3 [107,109] [(0,a_ 0 b1),(2,a_ 3 b4)] (gE [] (zw A c ns L hG zK hl (en (nd ns i).af j).id) (jK 1 [11] [] (NN (ah.seq (ah.seq (rQ (jQ 3 [113] [] (aQ.tU 113 ((dV ns (en (nd ns i).af j).id:Int)<(0:Int)) (λ_=>by kernel_rfl) (λG3=>jQ 25 [138] [] (NQ (NX (CT (zR ⟨congrArg (Value.int .i64) (if_neg (c:=aX ns) (λh=>by have h1:=(h.af i (by omega) j (by omega)).at_;change 0<=dV ns (en (nd ns i).af j).id at h1;omega)).symm,rfl⟩ [2]))))) (λG3=>?_)))))))))))))))) (λh95=>XX (ah.region (jK 3 [8] [(1,wJ ((i:Int)+1) (↑(i+1)))] (NL (tJ ((i+1),qK) [0,1,2] (⟨by omega,λa ha=>(by grind),(by have:=sF;rwa [show j=(nd ns i).af.length by omega] at this),(by have:=tZ;rwa [show j=(nd ns i).af.length by omega] at this)⟩)))))))))
  have htl:=jY (Int.not_lt.1 G3)
  refine jQ 2 [115] [(1,a_ 3 b4)] (jU [] [0,1,2,3] (.bool (decide (aS (en (nd ns i).af j).name))) (zu (en (nd ns i).af j).name (hnm i (by omega) j (by omega))) (jQ 3 [119] [] (aQ.Pq 119 (aS (en (nd ns i).af j).name) (λ_=>by kernel_rfl) (λG4=>jQ 19 [138] [] (NQ (NX (CT (zR ⟨congrArg (Value.int .i64) (if_neg (c:=aX ns) (λh=>by exact G4 (h.af i (by omega) j (by omega)).good)).symm,rfl⟩ [2]))))) (λG4=>?_))))
  refine jQ 3 [122] [] (aQ.tU 122 ((((j:Nat):Int):Int)>(0:Int)) (λ_=>by kernel_rfl) (λP5=>jQ 16 [138] [(1,a_ 3 b4),(3,a_ 0 b1),(5,x_ i ns.length (av.hd hG (i:=i) (by omega))),(7,r_ (av.rd hG (i:=i) (by omega) (j:=9) rfl)),(9,wJ ((j:Int)-1) (↑(j-1))),(10,x_ (j-1) ((nd ns i).af.length) (bp.hd (hG.af i (by omega)) (i:=(j-1)) (by omega))),(12,r_ (bp.rd (hG.af i (by omega)) (i:=(j-1)) (by omega) (j:=0) rfl)),(13,w_ (.bool (decide (fM ((en (nd ns i).af j).name) ((en (nd ns i).af (j-1)).name)))) (Kv _ _))] (NQ (NX (cP (fM ((en (nd ns i).af j).name) ((en (nd ns i).af (j-1)).name)) (λP6=>zR ⟨congrArg (Value.int .i64) (if_neg (c:=aX ns) (λh=>by have h1:=(h.af i (by omega) j (by omega)).ord;rw [K9 (by omega)] at h1;exact h1 P6)).symm,rfl⟩ [2]) (λP6=>KX (SR (jK 7 [145] [(1,a_ 0 b1),(3,p_ ⟨[],some (tgt ns (en (nd ns i).af j).id),none,some ⟨(aV A),aU A,none⟩,none⟩ [dV ns (en (nd ns i).af j).id=(((tgt ns (en (nd ns i).af j).id):Nat):Int),(tgt ns (en (nd ns i).af j).id)<ns.length,(⟨(aV A),aU A,none⟩:Addr).spot=none,(A:Option Addr)=some ⟨(aV A),aU A,none⟩] ⟨htl.2.2,by omega,rfl,av.hd hG (i:=(tgt ns (en (nd ns i).af j).id)) (by omega),trivial⟩),(5,r_ (av.rd hG (i:=(tgt ns (en (nd ns i).af j).id)) (by omega) (j:=1) rfl))] (NN (cP (((nd ns (tgt ns (en (nd ns i).af j).id)).kind:Int)=(2:Int)) (λmg=>SQ (jK 5 [150] [(2,p_ ⟨[],some (tgt ns (en (nd ns i).af j).id),none,none,some (.pointer (some ⟨b3,(tgt ns (en (nd ns i).af j).id),none⟩))⟩ [(Value.pointer (some ⟨b3,0+(tgt ns (en (nd ns i).af j).id)*1,none⟩))=(.pointer (some ⟨b3,(tgt ns (en (nd ns i).af j).id),none⟩)),dV ns (en (nd ns i).af j).id=(((tgt ns (en (nd ns i).af j).id):Nat):Int),(tgt ns (en (nd ns i).af j).id)<ns.length,(⟨b3,0,none⟩:Addr).spot=none] ⟨by simp,htl.2.2,by omega,rfl,trivial⟩),(3,p_ ⟨[.view 1 (.int .i64 ((qK.getD (tgt ns (en (nd ns i).af j).id) 0)))],none,none,none,none⟩ [(∀F w,(aq 3 1 (some ⟨b3,0,none⟩) ns.length ns.length (gZ qK)).h F w->w.cell? ⟨b3,(tgt ns (en (nd ns i).af j).id),none⟩=some (vI ((qK.getD (tgt ns (en (nd ns i).af j).id) 0))))] ⟨aq.cell (xE (by omega)),trivial⟩)] (NN (cP (((qK.getD (tgt ns (en (nd ns i).af j).id) 0):Int)>=(0:Int)) (λVe=>zR ⟨congrArg (Value.int .i64) (if_neg (c:=aX ns) (λh=>by have h1:zL (eE ns i j++fX ns i) (tgt ns (en (nd ns i).af j).id)<0:=xG.2 (yq (h.row (by omega)) (by omega) mg);rw [←tZ.at_ (tgt ns (en (nd ns i).af j).id) (by omega)] at h1;omega)).symm,rfl⟩ [2]) (λVe=>KX (ah.region (jK 4 [153,154] [(3,p_ ⟨[],some (tgt ns (en (nd ns i).af j).id),none,none,some (.pointer (some ⟨b3,(tgt ns (en (nd ns i).af j).id),none⟩))⟩ [(Value.pointer (some ⟨b3,0+(tgt ns (en (nd ns i).af j).id)*1,none⟩))=(.pointer (some ⟨b3,(tgt ns (en (nd ns i).af j).id),none⟩)),dV ns (en (nd ns i).af j).id=(((tgt ns (en (nd ns i).af j).id):Nat):Int),(tgt ns (en (nd ns i).af j).id)<ns.length,(⟨b3,0,none⟩:Addr).spot=none] ⟨by simp,htl.2.2,by omega,rfl,trivial⟩)] (ai.EY 1 ((tgt ns (en (nd ns i).af j).id)) (d:=none) (T:=3) (e:=3) (size:=1) (n:=ns.length) (cap:=ns.length) (g:=b3) (xs:=(gZ qK)) (u:=.int .i64 ↑i) (a:=(.tmp 154)) (y:=(.tmp 153)) (λ_=>by kernel_rfl) (by kernel_rfl) (λ_=>by kernel_rfl) (λ_=>by kernel_rfl) (by kernel_rfl) rfl (by rw [gZ,List.length_map];omega) (ai.bL 1 rfl (by rw [BS]) (LX (ah.region (jK 3 [9] [(1,wJ ((j:Int)+1) (↑(j+1)))] (NL (tJ ((j+1),(qK.set (tgt ns (en (nd ns i).af j).id) ((i:Nat):Int))) [0,1,2] (⟨by omega,λt ht=>(by rcases Nat.lt_succ_iff_lt_or_eq.1 ht with h|h;exact hok t h;subst h;exact zM (Int.not_lt.1 G3) G4 (λ_=>P6)),(by rw [nM mg,List.cons_append,List.map_cons];exact List.nodup_cons.2 ⟨show tgt ns (en (nd ns i).af j).id∉_ from xG.1 (by rw [←tZ.at_ (tgt ns (en (nd ns i).af j).id) (by omega)];omega),sF⟩),(by rw [nM mg];exact tZ.put (by omega))⟩))))))))))))))) (λmg=>KX (ah.region (jK 3 [9] [(1,wJ ((j:Int)+1) (↑(j+1)))] (NL (tJ ((j+1),qK) [0,1,2] (⟨by omega,λt ht=>(by rcases Nat.lt_succ_iff_lt_or_eq.1 ht with h|h;exact hok t h;subst h;exact zM (Int.not_lt.1 G3) G4 (λ_=>P6)),(by rw [oF mg];exact sF),(by rw [oF mg];exact tZ)⟩))))))))))))))) (λP5=>?_))
  exact jQ 16 [138] [] (NQ (NX (CF (KX (SR (jK 7 [145] [(1,a_ 0 b1),(3,p_ ⟨[],some (tgt ns (en (nd ns i).af j).id),none,some ⟨(aV A),aU A,none⟩,none⟩ [dV ns (en (nd ns i).af j).id=(((tgt ns (en (nd ns i).af j).id):Nat):Int),(tgt ns (en (nd ns i).af j).id)<ns.length,(⟨(aV A),aU A,none⟩:Addr).spot=none,(A:Option Addr)=some ⟨(aV A),aU A,none⟩] ⟨htl.2.2,by omega,rfl,av.hd hG (i:=(tgt ns (en (nd ns i).af j).id)) (by omega),trivial⟩),(5,r_ (av.rd hG (i:=(tgt ns (en (nd ns i).af j).id)) (by omega) (j:=1) rfl))] (NN (cP (((nd ns (tgt ns (en (nd ns i).af j).id)).kind:Int)=(2:Int)) (λmg=>SQ (jK 5 [150] [(2,p_ ⟨[],some (tgt ns (en (nd ns i).af j).id),none,none,some (.pointer (some ⟨b3,(tgt ns (en (nd ns i).af j).id),none⟩))⟩ [(Value.pointer (some ⟨b3,0+(tgt ns (en (nd ns i).af j).id)*1,none⟩))=(.pointer (some ⟨b3,(tgt ns (en (nd ns i).af j).id),none⟩)),dV ns (en (nd ns i).af j).id=(((tgt ns (en (nd ns i).af j).id):Nat):Int),(tgt ns (en (nd ns i).af j).id)<ns.length,(⟨b3,0,none⟩:Addr).spot=none] ⟨by simp,htl.2.2,by omega,rfl,trivial⟩),(3,p_ ⟨[.view 1 (.int .i64 ((qK.getD (tgt ns (en (nd ns i).af j).id) 0)))],none,none,none,none⟩ [(∀F w,(aq 3 1 (some ⟨b3,0,none⟩) ns.length ns.length (gZ qK)).h F w->w.cell? ⟨b3,(tgt ns (en (nd ns i).af j).id),none⟩=some (vI ((qK.getD (tgt ns (en (nd ns i).af j).id) 0))))] ⟨aq.cell (xE (by omega)),trivial⟩)] (NN (cP (((qK.getD (tgt ns (en (nd ns i).af j).id) 0):Int)>=(0:Int)) (λVe=>zR ⟨congrArg (Value.int .i64) (if_neg (c:=aX ns) (λh=>by have h1:zL (eE ns i j++fX ns i) (tgt ns (en (nd ns i).af j).id)<0:=xG.2 (yq (h.row (by omega)) (by omega) mg);rw [←tZ.at_ (tgt ns (en (nd ns i).af j).id) (by omega)] at h1;omega)).symm,rfl⟩ [2]) (λVe=>KX (ah.region (jK 4 [153,154] [(3,p_ ⟨[],some (tgt ns (en (nd ns i).af j).id),none,none,some (.pointer (some ⟨b3,(tgt ns (en (nd ns i).af j).id),none⟩))⟩ [(Value.pointer (some ⟨b3,0+(tgt ns (en (nd ns i).af j).id)*1,none⟩))=(.pointer (some ⟨b3,(tgt ns (en (nd ns i).af j).id),none⟩)),dV ns (en (nd ns i).af j).id=(((tgt ns (en (nd ns i).af j).id):Nat):Int),(tgt ns (en (nd ns i).af j).id)<ns.length,(⟨b3,0,none⟩:Addr).spot=none] ⟨by simp,htl.2.2,by omega,rfl,trivial⟩)] (ai.EY 1 ((tgt ns (en (nd ns i).af j).id)) (d:=none) (T:=3) (e:=3) (size:=1) (n:=ns.length) (cap:=ns.length) (g:=b3) (xs:=(gZ qK)) (u:=.int .i64 ↑i) (a:=(.tmp 154)) (y:=(.tmp 153)) (λ_=>by kernel_rfl) (by kernel_rfl) (λ_=>by kernel_rfl) (λ_=>by kernel_rfl) (by kernel_rfl) rfl (by rw [gZ,List.length_map];omega) (ai.bL 1 rfl (by rw [BS]) (LX (ah.region (jK 3 [9] [(1,wJ ((j:Int)+1) (↑(j+1)))] (NL (tJ ((j+1),(qK.set (tgt ns (en (nd ns i).af j).id) ((i:Nat):Int))) [0,1,2] (⟨by omega,λt ht=>(by rcases Nat.lt_succ_iff_lt_or_eq.1 ht with h|h;exact hok t h;subst h;exact zM (Int.not_lt.1 G3) G4 (λh=>absurd h (by omega))),(by rw [nM mg,List.cons_append,List.map_cons];exact List.nodup_cons.2 ⟨show tgt ns (en (nd ns i).af j).id∉_ from xG.1 (by rw [←tZ.at_ (tgt ns (en (nd ns i).af j).id) (by omega)];omega),sF⟩),(by rw [nM mg];exact tZ.put (by omega))⟩))))))))))))))) (λmg=>KX (ah.region (jK 3 [9] [(1,wJ ((j:Int)+1) (↑(j+1)))] (NL (tJ ((j+1),qK) [0,1,2] (⟨by omega,λt ht=>(by rcases Nat.lt_succ_iff_lt_or_eq.1 ht with h|h;exact hok t h;subst h;exact zM (Int.not_lt.1 G3) G4 (λh=>absurd h (by omega))),(by rw [oF mg];exact sF),(by rw [oF mg];exact tZ)⟩))))))))))))))
 refine XX (SQ (jK 1 [12] [] (NN (ah.block ?_))))
 have WQ:K5 ns.length sX (fX ns ns.length):=by grind
 have hed:=wC (ns:=ns) (Nat.le_refl _) (λa ha=>xD a (by omega))
 refine lJ (λ(a:Nat)=>(a<=ns.length)/\(∀b,b<a->Ends ((fX ns ns.length).map (iT ns)) (nd ns b).id)) (λ(a:Nat)=>ns.length-a) (λ(a:Nat)=>[(6,.slice (some ⟨b3,0,none⟩) (ns.length) (ns.length)),(12,vI ↑a)]) (λ(a:Nat)=>[.abs (aq 3 1 (some ⟨b3,0,none⟩) ns.length ns.length (gZ sX)),.abs R]) 0 [1,2] (⟨Nat.zero_le _,λb hb=>absurd hb (Nat.not_lt_zero b)⟩) ?_
 rintro a ⟨ha,hend⟩
 have R8:=hpar.len
 refine SQ (jK 4 [158] [] (NN (cP ((((a:Nat):Int):Int)<(((ns.length:Nat):Int):Int)) (λab2=>KX (ah.seq (ah.block (SR (jK 5 [13] [(2,p_ ⟨[],some a,none,none,some (.pointer (some ⟨b3,a,none⟩))⟩ [(Value.pointer (some ⟨b3,0+a*1,none⟩))=(.pointer (some ⟨b3,a,none⟩)),((a:Nat):Int)=((a:Nat):Int),a<ns.length,(⟨b3,0,none⟩:Addr).spot=none] ⟨by simp,rfl,by omega,rfl,trivial⟩),(3,p_ ⟨[.view 0 (.int .i64 ((sX.getD a 0)))],none,none,none,none⟩ [(∀F w,(aq 3 1 (some ⟨b3,0,none⟩) ns.length ns.length (gZ sX)).h F w->w.cell? ⟨b3,a,none⟩=some (vI ((sX.getD a 0))))] ⟨aq.cell (xE (by omega)),trivial⟩)] (NS (jK 1 [14] [] (NN (ah.block (lJ (λ(at_,step,w)=>((at_<0/\Ends ((fX ns ns.length).map (iT ns)) (nd ns a).id)\/∃q:Nat,at_=(q:Int)/\q<ns.length/\Way ((fX ns ns.length).map (iT ns)) (nd ns a).id w (nd ns q).id/\w.length=step+1)) (λ(at_,step,w)=>ns.length+2-step) (λ(at_,step,w)=>[(6,.slice (some ⟨b3,0,none⟩) (ns.length) (ns.length)),(12,vI ↑a),(13,vI (at_)),(14,vI ↑step)]) (λ(at_,step,w)=>[.abs (aq 3 1 (some ⟨b3,0,none⟩) ns.length ns.length (gZ sX)),.abs R]) ((sX.getD a 0),0,[(nd ns a).id]) [0,1] (K8 zK hed WQ (by omega) .nil rfl) ?_)))))))))) (λab2=>XX (zR ⟨congrArg (Value.int .i64) (if_pos (c:=aX ns) ⟨by omega,λa ha=>hu.node a (by omega),λa ha=>hu.ids a (by omega),zK,by omega,λa ha=>xD a (by omega),by grind,R7 (λp hp=>(hed p hp).1) (λb hb=>hend b (by omega))⟩).symm,rfl⟩ [1])))))
 rintro⟨at_,step,w⟩ hst
 refine SQ (jK 2 [166] [] (NN (cP ((at_:Int)>=(0:Int)) (λab3=>?_) (λab3=>XX (ah.region (jK 3 [12] [(1,wJ ((a:Int)+1) (↑(a+1)))] (NL (tJ ((a+1)) [0,1] (⟨by omega,λb hb=>by grind⟩)))))))))
 obtain⟨b,hb0,hb1,hb2,hb3⟩:=hst.resolve_left (λh=>by omega)
 exact KX (ah.seq (ah.block (SQ (jK 4 [172] [] (sP 172 ((at_:Int)=(((a:Nat):Int):Int)) (λab4=>jK 5 [177] [] (NT (zR ⟨congrArg (Value.int .i64) (if_neg (c:=aX ns) (λh=>by rw [show b=a by omega] at hb2;exact hb2.back (by omega) (h.ends _))).symm,rfl⟩ [1]))) (λab4=>jK 5 [177] [] (NN (cP ((((step:Nat):Int):Int)>(((ns.length:Nat):Int):Int)) (λab5=>zR ⟨congrArg (Value.int .i64) (if_neg (c:=aX ns) (λh=>by exact hb2.never (by have:=h.few;omega) (h.ends _))).symm,rfl⟩ [1]) (λab5=>KX (ah.region (jK 5 [13] [(2,p_ ⟨[],some b,none,none,some (.pointer (some ⟨b3,b,none⟩))⟩ [(Value.pointer (some ⟨b3,0+b*1,none⟩))=(.pointer (some ⟨b3,b,none⟩)),at_=((b:Nat):Int),b<ns.length,(⟨b3,0,none⟩:Addr).spot=none] ⟨by simp,hb0,by omega,rfl,trivial⟩),(3,p_ ⟨[.view 0 (.int .i64 ((sX.getD b 0)))],none,none,none,none⟩ [(∀F w,(aq 3 1 (some ⟨b3,0,none⟩) ns.length ns.length (gZ sX)).h F w->w.cell? ⟨b3,b,none⟩=some (vI ((sX.getD b 0))))] ⟨aq.cell (xE (by omega)),trivial⟩)] (LX (ah.region (jK 3 [14] [(1,wJ ((step:Int)+1) (↑(step+1)))] (NL (tJ ((sX.getD b 0),(step+1),(w++[(nd ns b).id])) [0,1] (K8 zK hed WQ hb1 hb2 hb3)))))))))))))))))
end
section
open Go.RowKit
theorem B0.refl (W:World):(B0 W).le (B0 W):=⟨λ_ h=>h,rfl,rfl,rfl,Nat.le_refl _,λ_ hk=>⟨hk,rfl⟩⟩
theorem Spec.val {P:Program} {β:Bs} {f:FuncId} {args:Array Value} {pre:List HP} {x y:Value} {l0:List HP} (h:Spec P β f args pre (λv l=>v=x/\l=l0)) (e:x=y):Spec P β f args pre (λv l=>v=y/\l=l0):=h.mono λ_ _ h=>⟨h.1.trans e,h.2⟩
section gb
variable {ns:List au} {b:Nat}
variable (h:l6 ns 1048576)
include h
end gb
structure acW (ns:List au):Prop where
 hl:ns.length<=1048576
 hd:∀i,i<ns.length->(nd ns i).data.length<=140737488355328/\(nd ns i).af.length<=1048576
 hwf:∀i,i<ns.length->∀j,j<(nd ns i).af.length->-9223372036854775808<=(ent ns i j).id/\(ent ns i j).id<=9223372036854775807
 hnm:∀i,i<ns.length->∀j,j<(nd ns i).af.length->(ent ns i j).name.size<=1048576
 ids:∀i,i<ns.length->vf (nd ns i).id
def L0:Lay:=⟨λ_=>none,λ_=>none,λ_=>0,λ_=>0⟩
theorem bW.nil {β:Bs} {A:Option Addr}:bW β A []:=λj v hj=>by simp at hj
end
section
open Go.RowKit Go.Maps
def abv (l:List ByteArray):List Value:=l.map Value.string
def sAt (l:List ByteArray) (i:Nat):ByteArray:=l.getD i ⟨#[]⟩
def acX (β:Bs) (A:Option Addr) (l:List ByteArray):Prop:=bW β A (abv l)
section strs
variable {β β':Bs} {A:Option Addr} {l:List ByteArray}
end strs
def Sorted (es:List cR):Prop:=∀i j,i<j->j<es.length->sA (en es i).name (en es j).name<0
def xH (es:List cR) (p:ByteArray):Option Nat:=es.findIdx? (λe=>decide (e.name=p))
theorem P7 {es:List cR} {p:ByteArray} (h:∀j,j<es.length->¬(en es j).name=p):xH es p=none:=by
 unfold xH
 rw [List.findIdx?_eq_none_iff]
 intro x hx
 obtain⟨j,hj,rfl⟩:=List.getElem_of_mem hx
 grind [en]
section find
variable {ns:List au} {k i:Nat} {ps:List ByteArray}
end find
end
section
open Go.RowKit
def fF (es:List cR) (id:Int):Nat->Nat
 |0=>0
 |j+1=>fF es id j+(if (en es j).id=id then 1 else 0)
def kz (ns:List au) (id:Int):Nat->Nat
 |0=>0
 |i+1=>kz ns id i+fF (nd ns i).af id (nd ns i).af.length
theorem Iz (es:List cR) (id:Int) (j:Nat):fF es id j<=j:=by
 induction j with
 |zero=>exact Nat.le_refl _
 |succ j ih=>
   rw [fF]
   split<;>omega
theorem FC {es:List cR} {id:Int} {j:Nat} (h:(en es j).id=id):fF es id j+1=fF es id (j+1):=by rw [fF,if_pos h]
theorem DE {es:List cR} {id:Int} {j:Nat} (h:¬(en es j).id=id):fF es id j=fF es id (j+1):=by rw [fF,if_neg h];rfl
theorem P8 (ns:List au) (id:Int) (i:Nat):kz ns id i<=bN ns i:=by
 induction i with
 |zero=>exact Nat.le_refl _
 |succ i ih=>
   grind [kz,bN,Iz,nd]
end
end Go.Proofs.YtnipofpbcggjcaaGreatDoor
section
namespace Go.Proofs
open Go.Shelf
def Tryz.keysS_ren:Go.Shelf.Ren:=⟨fun|7=>56|10=>108|n=>n,fun|23=>86|26=>9|3=>70|28=>132|0=>0|27=>131|33=>142|4=>4|n=>n,fun|n=>n⟩
theorem Tryz.keysS:Go.Proofs.SlLaysZ.n7 Tryz.prog Tryz.keysS_ren:={
 mixed:=by kernel_rfl
 f7:=⟨Tryz.f56.name,by decide,Tryz.func56.trans (congrArg some (by kernel_rfl))⟩
 f10:=⟨Tryz.f108.name,by decide,Tryz.func108.trans (congrArg some (by kernel_rfl))⟩
 t0:=Tryz.underlying0
 a0:=Tryz.isAgg0
 z0:=Tryz.sizeOf0
 v0:=Tryz.zeroValue0
 t4:=Tryz.underlying4
 a4:=Tryz.isAgg4
 z4:=Tryz.sizeOf4
 v4:=Tryz.zeroValue4
 t23:=Tryz.underlying86
 a23:=Tryz.isAgg86
 z23:=Tryz.sizeOf86
 v23:=Tryz.zeroValue86
 t26:=Tryz.underlying9
 a26:=Tryz.isAgg9
 z26:=Tryz.sizeOf9
 v26:=Tryz.zeroValue9
 t27:=Tryz.underlying131
 a27:=Tryz.isAgg131
 z27:=Tryz.sizeOf131
 v27:=Tryz.zeroValue131
 t28:=Tryz.underlying132
 a28:=Tryz.isAgg132
 z28:=Tryz.sizeOf132
 v28:=Tryz.zeroValue132
 t33:=Tryz.underlying142
 a33:=Tryz.isAgg142
 z33:=Tryz.sizeOf142
 v33:=Tryz.zeroValue142}
def Tryz.sortedS_ren:Go.Shelf.Ren:=⟨fun|6=>55|8=>106|9=>107|11=>134|13=>133|12=>135|23=>155|24=>156|14=>157|15=>158|16=>159|17=>160|18=>161|19=>162|20=>163|21=>164|22=>165|25=>183|26=>178|27=>179|28=>184|29=>185|30=>186|31=>194|n=>n,fun|26=>9|28=>132|24=>129|0=>0|3=>3|37=>190|48=>208|50=>210|4=>4|40=>202|39=>201|45=>194|5=>5|9=>9|51=>230|55=>234|57=>243|58=>244|33=>142|n=>n,fun|n=>n⟩
theorem Tryz.sortedS:Go.Proofs.SlLaysZ.n6 Tryz.prog Tryz.sortedS_ren:={
 mixed:=by kernel_rfl
 f6:=⟨Tryz.f55.name,by decide,Tryz.func55.trans (congrArg some (by kernel_rfl))⟩
 f8:=⟨Tryz.f106.name,by decide,Tryz.func106.trans (congrArg some (by kernel_rfl))⟩
 f11:=⟨Tryz.f134.name,by decide,Tryz.func134.trans (congrArg some (by kernel_rfl))⟩
 t0:=Tryz.underlying0
 a0:=Tryz.isAgg0
 z0:=Tryz.sizeOf0
 v0:=Tryz.zeroValue0
 t24:=Tryz.underlying129
 a24:=Tryz.isAgg129
 z24:=Tryz.sizeOf129
 v24:=Tryz.zeroValue129
 t26:=Tryz.underlying9
 a26:=Tryz.isAgg9
 z26:=Tryz.sizeOf9
 v26:=Tryz.zeroValue9
 t28:=Tryz.underlying132
 a28:=Tryz.isAgg132
 z28:=Tryz.sizeOf132
 v28:=Tryz.zeroValue132
 i26:=by kernel_rfl}
def Tryz.sortS_ren:Go.Shelf.Ren:=⟨fun|6=>107|8=>133|9=>135|19=>155|20=>156|21=>157|22=>158|23=>159|24=>160|25=>161|26=>162|27=>163|28=>164|29=>165|36=>183|31=>178|32=>179|37=>184|38=>185|39=>186|41=>194|n=>n,fun|27=>129|29=>9|3=>3|32=>190|26=>129|0=>0|44=>208|46=>210|4=>4|36=>202|35=>201|41=>194|5=>5|9=>9|53=>230|57=>234|63=>243|64=>244|n=>n,fun|n=>n⟩
theorem Tryz.sortS:Go.Proofs.SlLaysM.n6 Tryz.prog Tryz.sortS_ren:={
 mixed:=by kernel_rfl
 f6:=⟨Tryz.f107.name,by decide,Tryz.func107.trans (congrArg some (by kernel_rfl))⟩
 f8:=Tryz.func133.trans (congrArg some (by kernel_rfl))
 f9:=⟨Tryz.f135.name,by decide,Tryz.func135.trans (congrArg some (by kernel_rfl))⟩
 f19:=Tryz.func155.trans (congrArg some (by kernel_rfl))
 f20:=Tryz.func156.trans (congrArg some (by kernel_rfl))
 f21:=⟨Tryz.f157.name,by decide,Tryz.func157.trans (congrArg some (by kernel_rfl))⟩
 f22:=⟨Tryz.f158.name,by decide,Tryz.func158.trans (congrArg some (by kernel_rfl))⟩
 f23:=⟨Tryz.f159.name,by decide,Tryz.func159.trans (congrArg some (by kernel_rfl))⟩
 f24:=⟨Tryz.f160.name,by decide,Tryz.func160.trans (congrArg some (by kernel_rfl))⟩
 f25:=⟨Tryz.f161.name,by decide,Tryz.func161.trans (congrArg some (by kernel_rfl))⟩
 f26:=⟨Tryz.f162.name,by decide,Tryz.func162.trans (congrArg some (by kernel_rfl))⟩
 f27:=⟨Tryz.f163.name,by decide,Tryz.func163.trans (congrArg some (by kernel_rfl))⟩
 f28:=⟨Tryz.f164.name,by decide,Tryz.func164.trans (congrArg some (by kernel_rfl))⟩
 f29:=⟨Tryz.f165.name,by decide,Tryz.func165.trans (congrArg some (by kernel_rfl))⟩
 f31:=Tryz.func178.trans (congrArg some (by kernel_rfl))
 f32:=Tryz.func179.trans (congrArg some (by kernel_rfl))
 f36:=⟨Tryz.f183.name,by decide,Tryz.func183.trans (congrArg some (by kernel_rfl))⟩
 f37:=⟨Tryz.f184.name,by decide,Tryz.func184.trans (congrArg some (by kernel_rfl))⟩
 f38:=⟨Tryz.f185.name,by decide,Tryz.func185.trans (congrArg some (by kernel_rfl))⟩
 f39:=⟨Tryz.f186.name,by decide,Tryz.func186.trans (congrArg some (by kernel_rfl))⟩
 f41:=⟨Tryz.f194.name,by decide,Tryz.func194.trans (congrArg some (by kernel_rfl))⟩
 t0:=Tryz.underlying0
 a0:=Tryz.isAgg0
 z0:=Tryz.sizeOf0
 v0:=Tryz.zeroValue0
 t3:=Tryz.underlying3
 a3:=Tryz.isAgg3
 z3:=Tryz.sizeOf3
 v3:=Tryz.zeroValue3
 t4:=Tryz.underlying4
 a4:=Tryz.isAgg4
 z4:=Tryz.sizeOf4
 v4:=Tryz.zeroValue4
 t5:=Tryz.underlying5
 a5:=Tryz.isAgg5
 z5:=Tryz.sizeOf5
 v5:=Tryz.zeroValue5
 t9:=Tryz.underlying9
 a9:=Tryz.isAgg9
 z9:=Tryz.sizeOf9
 v9:=Tryz.zeroValue9
 t26:=Tryz.underlying129
 a26:=Tryz.isAgg129
 z26:=Tryz.sizeOf129
 v26:=Tryz.zeroValue129
 t27:=Tryz.underlying129
 a27:=Tryz.isAgg129
 z27:=Tryz.sizeOf129
 v27:=Tryz.zeroValue129
 t29:=Tryz.underlying9
 a29:=Tryz.isAgg9
 z29:=Tryz.sizeOf9
 v29:=Tryz.zeroValue9
 t32:=Tryz.underlying190
 a32:=Tryz.isAgg190
 z32:=Tryz.sizeOf190
 v32:=Tryz.zeroValue190
 t35:=Tryz.underlying201
 a35:=Tryz.isAgg201
 z35:=Tryz.sizeOf201
 v35:=Tryz.zeroValue201
 t36:=Tryz.underlying202
 a36:=Tryz.isAgg202
 z36:=Tryz.sizeOf202
 v36:=Tryz.zeroValue202
 t41:=Tryz.underlying194
 a41:=Tryz.isAgg194
 z41:=Tryz.sizeOf194
 v41:=Tryz.zeroValue194
 t44:=Tryz.underlying208
 a44:=Tryz.isAgg208
 z44:=Tryz.sizeOf208
 v44:=Tryz.zeroValue208
 t46:=Tryz.underlying210
 a46:=Tryz.isAgg210
 z46:=Tryz.sizeOf210
 v46:=Tryz.zeroValue210
 t53:=Tryz.underlying230
 a53:=Tryz.isAgg230
 z53:=Tryz.sizeOf230
 v53:=Tryz.zeroValue230
 t57:=Tryz.underlying234
 a57:=Tryz.isAgg234
 z57:=Tryz.sizeOf234
 v57:=Tryz.zeroValue234
 t63:=Tryz.underlying243
 a63:=Tryz.isAgg243
 z63:=Tryz.sizeOf243
 v63:=Tryz.zeroValue243
 t64:=Tryz.underlying244
 a64:=Tryz.isAgg244
 z64:=Tryz.sizeOf244
 v64:=Tryz.zeroValue244}
end Go.Proofs
end
namespace Go.Proofs.YtnipofpbcggjcaaGreatDoor
section
open Go.RowKit Go.Maps Go.Sort Go.Shelf
theorem ZF (m:Nat):AnyZ.SortsIn Tryz.prog Tryz.sortedS_ren Fence.wide m:=
 ⟨λblk off cap ss W hH hblk hsz=>callsIn_wide.2 (AnyM.slices_Sort_string Tryz.sortS blk off cap ss W hH hblk hsz),
  λp cap W=>callsIn_wide.2 (AnyM.slices_Sort_string_none Tryz.sortS p cap W)⟩
def G5 (bk:Nat):Value:=.func (.func 108) #[] #[.pointer (some ⟨bk,0,none⟩)]
theorem Vf {β:Bs} (mb:Option Nat):Spec Tryz.prog β 56 #[.map mb] [] (λv l=>∃bk,v=G5 bk/\l=[.blk bk [.map mb] 86]):=
 Spec.J0 λW _=>by
  have h:CallsIn Fence.wide 5 Tryz.prog 56 #[.map mb] W λe w'=>e=.returned (G5 W.heap.size)/\w'=W.alloc (.cells #[.map mb] 86):=AnyZ.keys_in Tryz.keysS Fence.wide 5 trivial rfl mb W
  refine ((callsIn_wide (n:=5)).1 h).mono ?_
  rintro e w' ⟨rfl,rfl⟩
  refine⟨_,_,rfl,⟨W.heap.size,rfl,rfl⟩,(Keeps.refl _ _).alloc _,λk=>k=W.heap.size,⟨?_,λk=>Iff.rfl⟩,λk hk=>Nat.le_of_eq hk.symm⟩
  show (W.heap.push _)[W.heap.size]?=_
  simp
def uE (es:fP Th):List Value:=es.map (λe=>.string e.1)
theorem Nq {es:fP Th} (h:mD es):(es.map (λe=>e.1.data.toList)).Pairwise (· < ·):=by
 refine List.pairwise_map.2 (h.imp (λ{a b} hab=>?_))
 unfold fM at hab
 have h1:¬Op.bytesLess b.1.toList a.1.toList=true:=λe=>hab (by rw [e];rfl)
 have h2:¬b.1.toList=a.1.toList:=λe=>hab (by rw [e];simp)
 rw [bytesLess_eq,Lib.toList_data,Lib.toList_data] at h1
 rw [Lib.toList_data,Lib.toList_data] at h2
 grind
theorem Vg {w:World} {b n:Nat} {L:HL} {es:fP Th} {D:DataW Value} (hr:mD es) (hown:w.ownsMap Tryz.prog 9 vl b n D) (hf:∀kl,Maps.has D kl=(ko L es kl).isSome) {ss:List (List UInt8)} (hp:ss.Perm (strKeys D)) :
 ss.mergeSort (λx y=>decide (x<=y))=es.map (λe=>e.1.data.toList):=by
 have hsort:=Nq hr
 obtain⟨es',hD,hpw,_⟩:=hown.entries Ea
 obtain⟨es2,WD,hko⟩:=hown.keysOf
 obtain rfl:es'=es2:=by rw [hD] at WD;simpa using WD
 have hp2:(es.map (λe=>e.1.data.toList)).Perm (strKeys D):=by
  rw [hD]
  refine perm_strKeys hpw (λp hp=>?_) (hsort.imp (λ{a b} h e=>by subst e;exact absurd h (List.lt_irrefl a))) (λx=>?_)
  ·obtain⟨v,hv⟩:=hko p hp
   obtain⟨x,_,h,_⟩:=keyOf_str Tryz.underlying9 hv
   exact⟨x,h⟩
  rw [←hD,hf]
  show _↔((aH ⟨x.toArray⟩ es).map (eG L)).isSome=true
  rw [Option.isSome_map]
  constructor
  ·intro hx
   obtain⟨e,he,rfl⟩:=List.mem_map.1 hx
   have h1:(⟨e.1.data.toList.toArray⟩:ByteArray)=e.1:=by rw [Array.toArray_toList]
   rw [h1,wu (t:=e.2) (mD.twice hr) he];rfl
  intro hx
  obtain⟨t,ht⟩:=Option.isSome_iff_exists.1 hx
  exact List.mem_map.2 ⟨_,oG ht,by simp⟩
 have h3:=mergeSort_of_perm (hp.trans hp2.symm)
 have h4:(es.map (λe=>e.1.data.toList)).mergeSort leB=es.map (λe=>e.1.data.toList):=List.mergeSort_of_pairwise (hsort.imp (λ{a b} h=>by simp only [leB,decide_eq_true_eq];exact List.le_of_lt h))
 exact h3.trans h4
theorem P9 {β:Bs} (L:HL) (b bk n:Nat) (es:fP Th) (hr:mD es) (hn:n<=8192) :
 Spec Tryz.prog β 55 #[G5 bk] [.abs (aY Tryz.prog 9 b (ko L es) n),.blk bk [.map (some b)] 86] (λv l=>∃A cap,v=.slice A es.length cap ∧
  l=[.abs (aY Tryz.prog 9 b (ko L es) n),.blk bk [.map (some b)] 86,.abs (aq 9 1 A es.length cap (uE es))]):=by
 intro R w hS
 obtain⟨F1,h1⟩:=hS.get (i:=0) (p:=.abs (aY Tryz.prog 9 b (ko L es) n)) rfl
 obtain⟨F2,h2⟩:=hS.get (i:=1) (p:=.blk bk [.map (some b)] 86) rfl
 obtain⟨D,hown,hsz,hhas,_⟩:=h1.1
 have hcell:w.cell? ⟨bk,0,none⟩=some (.map (some b)):=(jo h2.1 rfl rfl rfl).1
 have hseq:SeqGives Fence.wide 2 Tryz.prog 108 #[.pointer (some ⟨bk,0,none⟩)] encStr (λss=>ss.Perm (strKeys D)) (Maps.size D) w:=
  AnyZ.keys_gives (ρ:=Tryz.keysS_ren) {Tryz.keysS with} Fence.wide _ trivial rfl (by omega) bk b n D w (lt_of_some h2.1) hcell hown
 have cS:=AnyZ.sorted_in Tryz.sortedS Fence.wide 5 trivial trivial trivial trivial rfl (by omega) (ZF _) (enters_of Tryz.func107 (by kernel_rfl) rfl) 108 #[.pointer (some ⟨bk,0,none⟩)] trivial (enters_of Tryz.func108 (by kernel_rfl) rfl)
  (λss=>ss.Perm (strKeys D)) (Maps.size D) (by rw [hsz];unfold maxLen;omega) (by rw [hsz];omega) w hseq
 change CallsIn _ _ Tryz.prog 55 _ _ _ at cS
 refine ((callsIn_wide (n:=5)).1 cS).mono ?_
 rintro e w' ⟨v,ss,rfl,hp,hrow,hnil,hb⟩
 have hkeys:=Vg hr hown hhas hp
 have hl2:ss.length=es.length:=by
  have h3:(ss.mergeSort (λx y=>decide (x<=y))).length=ss.length:=List.length_mergeSort ss
  rw [hkeys,List.length_map] at h3
  exact h3.symm
 rw [hkeys,hl2] at hrow
 have Be:∃A cap,v=.slice A es.length cap:=by
  rcases hrow.2 with ⟨e1,e2⟩|⟨g,cp,cur,e1,_⟩
  all_goals grind
 obtain⟨A,cap,rfl⟩:=Be
 have hnv:(es.map (λe=>e.1.data.toList)).map encStr=uE es:=by
  rw [List.map_map]
  refine List.map_congr_left (λe _=>?_)
  grind
 rw [hnv] at hrow
 have hq:Sat β ([.abs (aY Tryz.prog 9 b (ko L es) n),.blk bk [.map (some b)] 86,.abs R]++[.abs (aq 9 1 A es.length cap (uE es))]) w':=by
  refine Sat.new (F:=λk=>(Value.slice A es.length cap).ownBlock=some k) hS ⟨?_,λk=>Iff.rfl⟩ ⟨hb.os,hb.tape,hb.output,hb.size,λk hk _=>hb.block k hk⟩ (λk hk=>(hrow.lt k hk).1)
  refine⟨hrow.1,?_⟩
  rcases hrow.2 with h|⟨g,cp,cur,e1,_,h3,h4⟩
  ·exact .inl h
  exact .inr ⟨g,cp,cur,e1,Nat.zero_le _,h3,h4⟩
 exact⟨_,[.abs (aY Tryz.prog 9 b (ko L es) n),.blk bk [.map (some b)] 86,.abs (aq 9 1 A es.length cap (uE es))],rfl,⟨A,cap,rfl,rfl⟩,hq.pick (idx:=[0,1,3,2]) rfl rfl⟩
end
section
open Go.RowKit Go.Maps aR ak
theorem vL {ns:List au} {n:au} {k:Nat} (h:k<ns.length):nd (ns++[n]) k=nd ns k:=by
 grind [nd]
theorem tH {ns:List au} {n:au}:nd (ns++[n]) ns.length=n:=by
 grind [nd]
def En:Lay:=⟨λ_=>none,λ_=>none,λ_=>0,λ_=>0⟩
def oU (ns:List au) (L:Lay) (k:Nat):cK:=aq 90 2 (L.eA k) (nd ns k).af.length (L.eC k) (jX (nd ns k).af)
def iZ (ns:List au) (L:Lay) (k:Nat):cK:=aq 5 1 (L.dA k) (nd ns k).data.length (L.dC k) (bY (nd ns k).data)
def ab6 (A:Option Addr) (c:Nat) (ns:List au) (L:Lay):HP:=.abs (aq 75 10 A ns.length c (aJ L ns))
def La (A:Option Addr) (c:Nat) (ns:List au) (L:Lay):List HP:=[ab6 A c ns L,.abs (iO (oU ns L) ns.length),.abs (iO (iZ ns L) ns.length)]
theorem oK.graph {β β':Bs} {A:Option Addr} {c:Nat} {ns:List au} {L:Lay} (h:oK β (La A c ns L) β'):av β' A ns L:=by
 obtain⟨F,h1,h2⟩:=h.get 0 rfl
 obtain⟨G,g1,g2⟩:=h.get 1 rfl
 obtain⟨K,k1,k2⟩:=h.get 2 rfl
 exact⟨bW.gF h1 h2 rfl,
  iO.base k1 k2 rfl (Φ:=λi b=>aW b (L.dA i) (nd ns i).data) (λi _ F hF hO=>bW.gF (show (HP.abs (aq 5 1 (L.dA i) (nd ns i).data.length (L.dC i) (bY (nd ns i).data))).h F _ from hF) hO rfl),
  iO.base g1 g2 rfl (Φ:=λi b=>bp b (L.eA i) (nd ns i).af) (λi _ F hF hO=>bW.gF (show (HP.abs (aq 90 2 (L.eA i) (nd ns i).af.length (L.eC i) (jX (nd ns i).af))).h F _ from hF) hO rfl)⟩
theorem Nr {L:Lay} {ns:List au} {n:au} {dA eA:Option Addr} {dC eC:Nat}:aJ L ns++[.int .i64 n.id,.int .i64 n.kind,.int .i64 n.mode,.int .i64 n.uid,.int .i64 n.gid,.int .i64 n.sec,.int .i64 n.nano,.slice dA n.data.length dC,.string n.target,.slice eA n.af.length eC]=aJ (L.put ns.length dA dC eA eC) (ns++[n]):=by
 have h:=E7 (ns:=ns++[n]) (L:=L) (k:=ns.length) (by simp) dA dC eA eC
 grind [tH]
theorem IB {ns:List au} {L:Lay} {n:au} {dA eA:Option Addr} {dC eC:Nat}:(∀x,x<ns.length->iZ (ns++[n]) (L.put ns.length dA dC eA eC) x=iZ ns L x)/\iZ (ns++[n]) (L.put ns.length dA dC eA eC) ns.length=aq 5 1 dA n.data.length dC (bY n.data):=by
 grind [iZ,Lay.put,vL,tH]
theorem IC {ns:List au} {L:Lay} {n:au} {dA eA:Option Addr} {dC eC:Nat}:(∀x,x<ns.length->oU (ns++[n]) (L.put ns.length dA dC eA eC) x=oU ns L x)/\oU (ns++[n]) (L.put ns.length dA dC eA eC) ns.length=aq 90 2 eA n.af.length eC (jX n.af):=by
 grind [oU,Lay.put,vL,tH]
def dJ (O:bZ) (e:ByteArray×Th):cR:=⟨e.1,(obj O e.2.k).id⟩
def gI (O:bZ) (id:Int) (t:Th):au:=⟨id,t.kind,(obj O t.k).mode,(obj O t.k).uid,(obj O t.k).gid,(obj O t.k).sec,(obj O t.k).nano,(obj O t.k).data,(obj O t.k).target,(obj O t.k).af.map (dJ O)⟩
def aA (S:aK):List au:=S.idx.map (λp=>gI S.O p.1 p.2)
theorem eu {S:aK}:(aA S).length=S.idx.length:=List.length_map ..
def fZ (S:aK) (i:Nat):Th:=(S.idx.getD i (0,⟨0,0⟩)).2
def dN (S:aK) (i:Nat):Int:=(S.idx.getD i (0,⟨0,0⟩)).1
section at_
variable {S:aK} {i:Nat}
theorem uF (hi:i<S.idx.length):S.idx[i]?=some (dN S i,fZ S i):=by
 grind [dN,fZ]
theorem get_at (h:Inv0 S) (hi:i<S.idx.length):ak.get S.idx (dN S i)=some (fZ S i):=kZ h.rise (List.mem_of_getElem? (uF hi))
theorem G6 (h:Inv0 S) (hi:i<S.idx.length):Live S.idx (fZ S i)/\dN S i=((fZ S i).k:Int):=⟨h.live (get_at h hi),h.key (get_at h hi)⟩
theorem Lb (hi:i<S.idx.length):(keys S.idx)[i]?=some (dN S i):=by
 grind [keys,uF]
theorem zO (hi:i<S.idx.length):(aA S).take (i+1)=(aA S).take i++[gI S.O (dN S i) (fZ S i)]:=by
 rw [List.take_add_one]
 grind [aA,uF]
theorem eZ (hi:i<=S.idx.length):((aA S).take i).length=i:=by rw [List.length_take,eu];omega
end at_
section sat
variable {β:Bs} {l l':List HP} {w:World} {i j k:Nat} {O:bZ} {L:HL} {ix:List Nat}
theorem Sat.ZG (h:Sat β l w) (hp:l[i]?=some (.abs (ax (mI (bQ O L) k cK.none)))) (hq:l[j]?=some (.abs (aq 5 1 (L.dA k) (obj O k).data.length (L.dC k) (bY (obj O k).data)))) (hd:nodupB (i::j::ix)=true) (hl:bh l ix=some l') (h2:(obj O k).kind=1):Sat β (.abs (ax (bQ O L))::l') w:=
 h.vu hp hq (λ_ _ h=>h) hd hl k (λ_ hx=>(rU hx).symm) (wk h2)
end sat
theorem FD {es:List cR} {e:cR}:jX es++[.string e.name,.int .i64 e.id]=jX (es++[e]):=(zo e es 0).symm
section grow
variable {ns G':List au} {n:au} {L:Lay} {i dn en:Nat} {dA eA:Option Addr} {dC eC:Nat}
theorem sG (hl:ns.length=i) (hG:G'=ns++[n]) (hd:n.data.length=dn) (he:n.af.length=en):aJ L ns++[.int .i64 n.id,.int .i64 n.kind,.int .i64 n.mode,.int .i64 n.uid,.int .i64 n.gid,.int .i64 n.sec,.int .i64 n.nano,.slice dA dn dC,.string n.target,.slice eA en eC]=aJ (L.put i dA dC eA eC) G':=by
 subst hl hG hd he;exact Nr
theorem zP (hl:ns.length=i) (hG:G'=ns++[n]):∀x,x<i->iZ G' (L.put i dA dC eA eC) x=iZ ns L x:=by
 subst hl hG;exact IB.1
theorem xI (hl:ns.length=i) (hG:G'=ns++[n]) (hd:n.data.length=dn):iZ G' (L.put i dA dC eA eC) i=aq 5 1 dA dn dC (bY n.data):=by
 subst hl hG hd;exact IB.2
theorem zQ (hl:ns.length=i) (hG:G'=ns++[n]):∀x,x<i->oU G' (L.put i dA dC eA eC) x=oU ns L x:=by
 subst hl hG;exact IC.1
theorem xJ (hl:ns.length=i) (hG:G'=ns++[n]) (he:n.af.length=en):oU G' (L.put i dA dC eA eC) i=aq 90 2 eA en eC (jX n.af):=by
 subst hl hG he;exact IC.2
end grow
section more
variable {S:aK} {i j k:Nat}
theorem abw (h:Inv0 S) (hi:i<S.idx.length):(∃k,fZ S i=⟨k,1⟩/\Live S.idx ⟨k,1⟩)\/(∃k,fZ S i=⟨k,2⟩/\Live S.idx ⟨k,2⟩)\/∃k,fZ S i=⟨k,3⟩/\Live S.idx ⟨k,3⟩:=by
 have h1:=(G6 h hi).1
 generalize fZ S i=t at h1 ⊢
 obtain⟨k,kd⟩:=t
 rcases (h.ob _ h1).2.2 with e|e|e<;>simp only at e<;>subst e
 all_goals grind
theorem G7 (h:Inv0 S) (hi:i<S.idx.length):(Lit.int .i64 (dN S i)).wf=true:=by
 have h1:=h.idx _ _ (get_at h hi)
 have h2:=h.last
 exact WalkArith.wf_i64 (by omega)
theorem Vh (hi:i<S.idx.length):(ints (keys S.idx))[i*1+0]?=some (.int .i64 (dN S i)):=by
 grind [ints,Lb]
theorem Lc (h:Inv0 S) {t:Th} (hl:Live S.idx t) (hk:t.kind≠3):(obj S.O t.k).target=⟨#[]⟩:=by
 rcases (h.mt t hl).target with e|e
 ·exact e.2
 exact absurd (h.kind hl ▸ e.1) hk
theorem uG (h:Inv0 S) (hi:i<S.idx.length) (nT:fZ S i=⟨k,1⟩) (hl:Live S.idx ⟨k,1⟩):(aA S).take (i+1)=(aA S).take i++[⟨dN S i,1,(obj S.O k).mode,(obj S.O k).uid,(obj S.O k).gid,(obj S.O k).sec,(obj S.O k).nano,(obj S.O k).data,⟨#[]⟩,[]⟩]:=by
 rw [zO hi,nT]
 unfold gI
 rw [show (obj S.O k).target=⟨#[]⟩ from Lc h hl (by simp),show (obj S.O k).af=[] from (h.mt _ hl).af (by rw [h.kind hl];simp)];rfl
theorem uH (h:Inv0 S) (hi:i<S.idx.length) (nT:fZ S i=⟨k,3⟩) (hl:Live S.idx ⟨k,3⟩):(aA S).take (i+1)=(aA S).take i++[⟨dN S i,3,(obj S.O k).mode,(obj S.O k).uid,(obj S.O k).gid,(obj S.O k).sec,(obj S.O k).nano,[],(obj S.O k).target,[]⟩]:=by
 rw [zO hi,nT]
 unfold gI
 rw [show (obj S.O k).data=[] from (h.mt _ hl).data (by rw [h.kind hl];simp),show (obj S.O k).af=[] from (h.mt _ hl).af (by rw [h.kind hl];simp)];rfl
theorem wD (h:Inv0 S) (hi:i<S.idx.length) (nT:fZ S i=⟨k,2⟩) (hl:Live S.idx ⟨k,2⟩):(aA S).take (i+1)=(aA S).take i++[⟨dN S i,2,(obj S.O k).mode,(obj S.O k).uid,(obj S.O k).gid,(obj S.O k).sec,(obj S.O k).nano,[],⟨#[]⟩,(obj S.O k).af.map (dJ S.O)⟩]:=by
 rw [zO hi,nT]
 unfold gI
 rw [show (obj S.O k).target=⟨#[]⟩ from Lc h hl (by simp),show (obj S.O k).data=[] from (h.mt _ hl).data (by rw [h.kind hl];simp)]
def kF (es:fP Th) (j:Nat):ByteArray:=(es.getD j (⟨#[]⟩,⟨0,0⟩)).1
def qE (es:fP Th) (j:Nat):Th:=(es.getD j (⟨#[]⟩,⟨0,0⟩)).2
theorem zS {es:fP Th} (hj:j<es.length):es[j]?=some (kF es j,qE es j):=by
 grind [kF,qE]
theorem Qa {es:fP Th} (hj:j<es.length):(uE es)[j*1+0]?=some (.string (kF es j)):=by
 grind [uE,zS]
theorem ab7 (h:Inv0 S) {t:Th} (hl:Live S.idx t) (hj:j<(obj S.O t.k).af.length):aS (kF (obj S.O t.k).af j)/\((∃k,aH (kF (obj S.O t.k).af j) (obj S.O t.k).af=some ⟨k,1⟩/\Live S.idx ⟨k,1⟩/\qE (obj S.O t.k).af j=⟨k,1⟩)\/(∃k,aH (kF (obj S.O t.k).af j) (obj S.O t.k).af=some ⟨k,2⟩/\Live S.idx ⟨k,2⟩/\qE (obj S.O t.k).af j=⟨k,2⟩)\/∃k,aH (kF (obj S.O t.k).af j) (obj S.O t.k).af=some ⟨k,3⟩/\Live S.idx ⟨k,3⟩/\qE (obj S.O t.k).af j=⟨k,3⟩):=by
 have hm:=List.mem_of_getElem? (zS hj)
 have h1:=h.af t hl _ hm
 have h2:=wu (h.twice hl) hm
 refine⟨h1.1,?_⟩
 have h3:=h1.2
 generalize qE (obj S.O t.k).af j=u at h2 h3 ⊢
 obtain⟨k,kd⟩:=u
 rcases (h.ob _ h3).2.2 with e|e|e<;>simp only at e<;>subst e
 all_goals grind
theorem BU {O:bZ} {es:fP Th} {kd:Int} (hj:j<es.length) (he:qE es j=⟨k,kd⟩):jX ((es.take j).map (dJ O))++[.string (kF es j),.int .i64 (obj O k).id]=jX ((es.take (j+1)).map (dJ O)):=by
 rw [List.take_add_one,zS hj,he,List.map_append]
 exact FD (es:=(es.take j).map (dJ O)) (e:=⟨kF es j,(obj O k).id⟩)
end more
theorem oK.bytes {β β':Bs} {A:Option Addr} {n c:Nat} {d:List UInt8} (h:oK β [.abs (aq 5 1 A n c (bY d))] β'):aW β' A d:=by
 obtain⟨F,h1,h2⟩:=h.get 0 rfl
 exact bW.gF h1 h2 rfl
end
section
open Go.RowKit Go.Maps
structure G8 (ns:List au) (i j:Nat):Prop where
 ZH:i<ns.length
 IE:j<(nd ns i).af.length
 dir:(nd ns (tgt ns (ent ns i j).id)).kind=2
section
variable {ns:List au}
theorem wE {i m:Nat} {p:Nat×Nat}:p∈eE ns i m↔∃j,j<m/\(nd ns (tgt ns (ent ns i j).id)).kind=2/\p=(tgt ns (ent ns i j).id,i):=by
 induction m with
 |zero=>simp [eE]
 |succ m ih=>
   grind [nd,tgt,ent,nM,oF]
theorem zT {m:Nat} {p:Nat×Nat}:p∈fX ns m↔∃i j,i<m/\j<(nd ns i).af.length/\(nd ns (tgt ns (ent ns i j).id)).kind=2/\p=(tgt ns (ent ns i j).id,i):=by
 induction m with
 |zero=>simp [fX]
 |succ m ih=>
   grind [fX,wE]
theorem G8.mem {i j:Nat} (h:G8 ns i j):(tgt ns (ent ns i j).id,i)∈fX ns ns.length:=zT.2 ⟨i,j,h.ZH,h.IE,h.dir,rfl⟩
def WR (ns:List au) (m:Nat):Prop:=∀i j i' j',G8 ns i j->G8 ns i' j'->i<m->i'<m->tgt ns (ent ns i j).id=tgt ns (ent ns i' j').id->i=i'/\j=j'
theorem R9 {i m:Nat} (h:((eE ns i m).map Prod.fst).Nodup):∀j j',j<m->j'<m->(nd ns (tgt ns (ent ns i j).id)).kind=2->(nd ns (tgt ns (ent ns i j').id)).kind=2->tgt ns (ent ns i j).id=tgt ns (ent ns i j').id->j=j':=by
 induction m with
 |zero=>intro j j' hj;omega
 |succ m ih=>
   intro j j' hj hj' hk hk' e
   by_cases hm:(nd ns (tgt ns (ent ns i m).id)).kind=2
   ·rw [nM hm,List.map_cons,List.nodup_cons] at h
    rcases Nat.lt_succ_iff_lt_or_eq.1 hj with e1|e1
    ·rcases Nat.lt_succ_iff_lt_or_eq.1 hj' with e2|e2
     ·exact ih h.2 j j' e1 e2 hk hk' e
     subst e2;exact absurd (List.mem_map.2 ⟨_,wE.2 ⟨j,e1,hk,rfl⟩,e⟩) h.1
    rcases Nat.lt_succ_iff_lt_or_eq.1 hj' with e2|e2
    ·subst e1;exact absurd (List.mem_map.2 ⟨_,wE.2 ⟨j',e2,hk',rfl⟩,e.symm⟩) h.1
    omega
   grind [oF]
theorem Sb {m:Nat} (h:((fX ns m).map Prod.fst).Nodup):WR ns m:=by
 induction m with
 |zero=>intro i j i' j' _ _ hi;omega
 |succ m ih=>
   rw [fX,List.map_append] at h
   obtain⟨h1,h2,h3⟩:=List.nodup_append.1 h
   intro i j i' j' g g' hi hi' e
   rcases Nat.lt_succ_iff_lt_or_eq.1 hi with e1|e1
   ·rcases Nat.lt_succ_iff_lt_or_eq.1 hi' with e2|e2
    ·exact ih h2 i j i' j' g g' e1 e2 e
    subst e2
    exact absurd e.symm (h3 _ (List.mem_map.2 ⟨_,wE.2 ⟨j',g'.IE,g'.dir,rfl⟩,rfl⟩) _ (List.mem_map.2 ⟨_,zT.2 ⟨i,j,e1,g.IE,g.dir,rfl⟩,rfl⟩))
   rcases Nat.lt_succ_iff_lt_or_eq.1 hi' with e2|e2
   ·subst e1
    exact absurd e (h3 _ (List.mem_map.2 ⟨_,wE.2 ⟨j,g.IE,g.dir,rfl⟩,rfl⟩) _ (List.mem_map.2 ⟨_,zT.2 ⟨i',j',e2,g'.IE,g'.dir,rfl⟩,rfl⟩))
   subst e1;subst e2
   exact⟨rfl,R9 h1 j j' g.IE g'.IE g.dir g'.dir e⟩
def G9 (ns:List au) (d:Nat->Nat):Prop:=∀i j,G8 ns i j->d i<d (tgt ns (ent ns i j).id)
theorem aX.uniq (h:aX ns):WR ns ns.length:=Sb h.nodup
theorem aX.deep (h:aX ns):∃d,G9 ns d:=by
 refine⟨λk=>Classical.choose (h.ends (nd ns k).id),λi j g=>?_⟩
 have hp:=wC (ns:=ns) (Nat.le_refl _) h.af
 have hat:=(h.af i g.ZH j g.IE).at_
 have htl:=jY hat
 have e1:=Classical.choose_spec (h.ends (nd ns i).id)
 have e2:=Classical.choose_spec (h.ends (nd ns (tgt ns (ent ns i j).id)).id)
 show Classical.choose (h.ends (nd ns i).id)<Classical.choose (h.ends (nd ns (tgt ns (ent ns i j).id)).id)
 generalize Classical.choose (h.ends (nd ns i).id)=x at e1 ⊢
 generalize Classical.choose (h.ends (nd ns (tgt ns (ent ns i j).id)).id)=y at e2 ⊢
 cases hu:up ((fX ns ns.length).map (iT ns)) (nd ns (tgt ns (ent ns i j).id)).id with
 |none=>
   have:=N8 hu
   exact absurd (List.mem_map.2 ⟨_,g.mem,rfl⟩) this
 |some z=>
   obtain⟨_,p,g1,g2,g3⟩:=N9 h.rise htl.1 (λp hp'=>(hp p hp').1) hu
   obtain⟨a,b,ha,hb,hk,rfl⟩:=zT.1 g1
   have g2:tgt ns (ent ns a b).id=tgt ns (ent ns i j).id:=g2
   obtain⟨rfl,rfl⟩:=h.uniq a b i j ⟨ha,hb,hk⟩ g ha g.ZH g2
   have g3:z=(nd ns a).id:=g3
   cases y with
   |zero=>
     have e2:up _ _=none:=e2
     rw [hu] at e2;cases e2
   |succ y=>
     obtain⟨z',h1,h2⟩:=e2
     rw [hu] at h1
     cases h1
     rw [g3] at h2
     have:=e1.uniq h2
     show x<y+1
     omega
end
end
section
open Go.RowKit Go.Maps aR ak
structure lI (X:FM):Prop where
 cN:0<=X.cN/\X.cN<=4096
 cB:0<=X.cB/\X.cB<=1099511627776
 cH:0<=X.cH/\X.cH<=1024
 now:dz X.cS X.cZ
def gT (n:au):Nat:=n.id.toNat
def r8 (n:au):Th:=⟨gT n,n.kind⟩
def sY (n:au):aI:=⟨n.id,n.mode,n.uid,n.gid,n.sec,n.nano,0,0,false,n.kind,n.data,n.target,[],none⟩
def JO:aI:=⟨0,0,0,0,0,0,0,0,false,0,[],⟨#[]⟩,[],none⟩
def xK (X:FM):aK:=⟨{X with last:=0,af:=0,used:=0},λ_=>JO,[],[],0⟩
def cY (S:aK) (n:au):aK:={S with X:={S.X with last:=n.id,used:=S.X.used+n.data.length},O:=ay S.O (gT n) (λ_=>sY n),idx:=ins n.id (r8 n) S.idx}
def nU (ns:List au) (e:cR):Th:=r8 (nd ns (tgt ns e.id))
def oV (ns:List au) (S:aK) (n:au) (e:cR):aK:={S with X:={S.X with af:=S.X.af+1},O:=q8 S.O (gT n) e.name (nU ns e)}
def cW (ns:List au):Nat->Nat
 |0=>0
 |k+1=>cW ns k+(nd ns k).data.length
def Eo (ns:List au):Used Th:=ns.map (λn=>(n.id,r8 n))
structure t6 (X:FM) (ns:List au) (k:Nat) (S:aK):Prop where
 inv:Inv0 S
 idx:S.idx=Eo (ns.take k)
 us:S.us=[]
 ar:S.ar=0
 cap:S.X={X with last:=ou ns k,af:=0,used:=(cW ns k:Int)}
 ob:∀a,a<k->obj S.O (gT (nd ns a))=sY (nd ns a)
 free:∀x,(∀a,a<k->x≠gT (nd ns a))->obj S.O x=JO
section base
variable {X:FM} {ns:List au} {i j k a b:Nat} {S:aK}
theorem FE (h:aX ns) (hk:k<ns.length):(gT (nd ns k):Int)=(nd ns k).id:=by
 have:=h.ids k hk
 unfold gT;omega
theorem vM (h:aX ns) (ha:a<ns.length) (hb:b<ns.length) (e:gT (nd ns a)=gT (nd ns b)):a=b:=
 h.rise.inj ha hb (by grind [FE])
theorem BV (hk:k<ns.length):ns[k]?=some (nd ns k):=getD_some hk
theorem Yi (hk:k<ns.length):ns.take (k+1)=ns.take k++[nd ns k]:=by
 rw [List.take_add_one,BV hk];rfl
theorem Sc (hX:lI X):t6 X ns 0 (xK X):=by
 refine⟨?_,rfl,rfl,rfl,rfl,λa h=>absurd h (Nat.not_lt_zero a),λ_ _=>rfl⟩
 have hn:∀t,¬Live ([]:Used Th) t:=λt h=>by cases h
 exact⟨hX.cN,hX.cB,hX.cH,hX.now,by show (0:Int)<=0/\(0:Int)<=_;omega,.nil,Nat.zero_le _,λ_ _ e=>(by cases e),λt h=>absurd h (hn t),λt h=>absurd h (hn t),λt h=>absurd h (hn t),λt h=>absurd h (hn t),
  λ_ _=>⟨rfl,rfl⟩,λ_ _=>rfl,⟨rfl,by show (0:Int)<=8192;omega⟩,λt h=>absurd h (hn t),λt h=>absurd h (hn t),λt h=>absurd h (hn t),.nil,λx hx=>(by cases hx),(by show ((0:Nat):Int)<=X.cH;have:=hX.cH;omega),⟨Int.le_refl _,hX.cH.1⟩,λ_ _ e=>(by cases e),λt h=>absurd h (hn t),λt h=>absurd h (hn t),⟨λ_=>0,λk d e=>(by cases e)⟩,⟨rfl,by show (0:Int)<=_;omega⟩⟩
theorem Ow (h:aX ns) (hk:k<ns.length):∀x∈keys (Eo (ns.take k)),x<(nd ns k).id:=by
 intro x hx
 obtain⟨p,hp,rfl⟩:=List.mem_map.1 hx
 obtain⟨n,hn,rfl⟩:=List.mem_map.1 hp
 obtain⟨a,ha,e⟩:=List.mem_iff_getElem.1 hn
 rw [List.length_take] at ha
 rw [List.getElem_take] at e
 have e2:nd ns a=n:=by
  grind [BV,keys,Eo,nd]
 rw [←e2]
 exact h.rise a k (by omega) hk
theorem IG (hd:∀i,i<ns.length->(nd ns i).data.length<=1048576) (hk:k<=ns.length):cW ns k<=1048576*k:=by
 induction k with
 |zero=>exact Nat.le_refl _
 |succ k ih=>
   grind [cW,nd]
theorem BW (h:aX ns) (hd:∀i,i<ns.length->(nd ns i).data.length<=1048576) (hk:k<ns.length) (hB:t6 X ns k S):t6 X ns (k+1) (cY S (nd ns k)):=by
 have hs:=IG hd (Nat.le_of_lt hk)
 have hn:=h.node k hk
 have hid:=FE h hk
 have uR:=h.ids k hk
 have hu:S.X.used=(cW ns k:Int):=by rw [hB.cap]
 have hl:S.X.last=ou ns k:=by rw [hB.cap]
 have hlen:=h.len
 have hdk:=hd k hk
 have ac0:S.idx.length=k:=by
  rw [hB.idx];unfold Eo;rw [List.length_map,List.length_take];omega
 have h1:=hB.inv.newAt (k0:=gT (nd ns k)) (o:=sY (nd ns k)) (pU:=S.X.used+(nd ns k).data.length) (us':=S.us) (iX:=S.ar) (by rw [hid,hl];exact h.last hk) (by rw [hid];exact uR.2) ⟨rfl,by rw [hu];omega⟩ hid.symm
  (by have:=hn.kind;show (nd ns k).kind=1\/(nd ns k).kind=2\/(nd ns k).kind=3;omega) rfl rfl rfl rfl
  ⟨hn.mode,hn.uid,hn.gid,hn.time,λe=>List.eq_nil_of_length_eq_zero (hn.data e),λ_=>rfl,hn.target⟩ (by omega)
  hB.inv.usr hB.inv.uw hB.inv.BL hB.inv.ar (λh t e=>⟨.inl (hB.inv.us h t e).1,(hB.inv.us h t e).2⟩) (λ_ _=>rfl) (by rw [hB.us];rfl)
 rw [hid] at h1
 refine⟨h1,?_,hB.us,hB.ar,?_,λa ha=>?_,λx hx=>(show obj (ay S.O (gT (nd ns k)) λ_=>sY (nd ns k)) x=JO from (fQ (hx k (Nat.lt_succ_self k))).trans (hB.free x λa ha=>hx a (Nat.lt_succ_of_lt ha)))⟩
 ·show ins (nd ns k).id (r8 (nd ns k)) S.idx=_
  rw [hB.idx,KF (Ow h hk),Yi hk]
  unfold Eo;rw [List.map_append];rfl
 ·show ({S.X with last:=(nd ns k).id,used:=S.X.used+((nd ns k).data.length:Int)}:FM)=_
  rw [hu,hB.cap]
  show (⟨_,_,_,_,_,_,_,_⟩:FM)=⟨_,_,_,_,_,_,_,_⟩
  congr 1
 show obj (ay S.O (gT (nd ns k)) (λ_=>sY (nd ns k))) (gT (nd ns a))=_
 rcases Nat.lt_succ_iff_lt_or_eq.1 ha with e|e
 ·rw [fQ (λe2=>by grind [vM])]
  exact hB.ob a e
 subst e;exact cO
theorem t6.fresh (h:aX ns) (hk:k<ns.length) (hB:t6 X ns k S):xB S.O S.idx S.us (gT (nd ns k)):=hB.inv.GX (by rw [FE h hk,hB.cap];exact h.last hk)
theorem t6.new (h:aX ns) (hk:k<ns.length) (hB:t6 X ns k S):ak.get S.idx (nd ns k).id=none:=get_none.2 (λhm=>by
 rw [hB.idx] at hm
 exact absurd (Ow h hk _ hm) (by omega))
theorem Ep (X:FM) (L:HL):(∀k,ct (xK X).O L k=cK.none)/\(∀k,bQ (xK X).O L k=cK.none)/\∀k,di (xK X).O L k=cK.none:=⟨λ_=>if_pos rfl,λ_=>if_neg (by show ¬(0:Int)=1;omega),λ_=>if_neg (by show ¬(0:Int)=2;omega)⟩
theorem Sat.abx {β:Bs} {l l':List HP} {w:World} {i j b m c:Nat} {ix:List Nat} {O:bZ} {L L':HL} {A:Option Addr} {o:aI} (h:Sat β l w) (hL:L'=L.put k b m A c) (hp:l[i]?=some (.abs (ax (bQ O L)))) (hq:l[j]?=some (.abs (aq 5 1 A o.data.length c (bY o.data)))) (hd:nodupB (i::j::ix)=true) (hl:bh l ix=some l') (h1:o.kind=1):Sat β (.abs (ax (bQ (ay O k (λ_=>o)) L'))::l') w:=by
 refine h.vu hp hq (λ_ _ h=>h) hd hl k (λx hx=>by rw [BB hx,CO hL hx]) ?_
 grind [wk,cO,HL.put]
end base
theorem Yj {O:bZ} {L:HL} {d:Nat} {name:ByteArray} {t:Th}:bQ (q8 O d name t) L=bQ O L:=
 wv (λ_=>Ec (g:=aI.data) (λ_ _=>rfl) (λ_ _=>rfl) (λ_ _=>rfl)) (λ_=>BF)
def sH (ns:List au) (i j a:Nat):Nat:=if a<i then (nd ns a).af.length else if a=i then j else 0
def rC (ns:List au) (a m:Nat):fP Th:=((nd ns a).af.take m).map (λe=>(e.name,nU ns e))
structure iR (X:FM) (ns:List au) (i j:Nat) (S:aK):Prop where
 inv:Inv0 S
 idx:S.idx=Eo ns
 us:S.us=[]
 ar:S.ar=0
 cap:S.X={X with last:=ou ns ns.length,af:=((bN ns i+j:Nat):Int),used:=(cW ns ns.length:Int)}
 ob:∀a,a<ns.length->∃l u,obj S.O (gT (nd ns a))={sY (nd ns a) with links:=l,af:=rC ns a (sH ns i j a),up:=u}
 free:∀x,(∀a,a<ns.length->x≠gT (nd ns a))->obj S.O x=JO
section af
variable {X:FM} {ns:List au} {i j k a b m:Nat} {S:aK} {t:Th}
theorem t6.af (h:t6 X ns ns.length S):iR X ns 0 0 S:=by
 refine⟨h.inv,by rw [h.idx,List.take_of_length_le (Nat.le_refl _)],h.us,h.ar,h.cap,λa ha=>⟨0,none,?_⟩,h.free⟩
 rw [h.ob a ha]
 have:sH ns 0 0 a=0:=by
  grind [sH]
 rw [this];rfl
theorem iR.get (h:iR X ns i j S) (ha:a<ns.length):ak.get S.idx (nd ns a).id=some (r8 (nd ns a)):=by
 refine kZ h.inv.rise ?_
 rw [h.idx]
 exact List.mem_map.2 ⟨nd ns a,List.mem_of_getElem? (BV ha),rfl⟩
theorem iR.live (hG:aX ns) (h:iR X ns i j S) (ha:a<ns.length):Live S.idx (r8 (nd ns a)):=by
 have:=h.get ha
 rw [←FE hG ha] at this
 exact this
theorem iR.of (h:iR X ns i j S) {x:Int} (e:ak.get S.idx x=some t):∃a,a<ns.length/\t=r8 (nd ns a):=by
 have hm:=get_mem e
 rw [h.idx] at hm
 obtain⟨n,hn,e2⟩:=List.mem_map.1 hm
 obtain⟨a,ha,e3⟩:=List.mem_iff_getElem.1 hn
 have e4:nd ns a=n:=by
  grind [BV,r8,nd]
 cases e2
 exact⟨a,ha,by rw [e4]⟩
theorem Ld {es:List cR} {q:Nat} (hq:q<es.length):es[q]?=some (en es q):=getD_some hq
theorem zU {e:ByteArray×Th} (h:e∈rC ns a m):∃q,q<m/\q<(nd ns a).af.length/\e.1=(ent ns a q).name/\e.2=nU ns (ent ns a q):=by
 obtain⟨x,hx,rfl⟩:=List.mem_map.1 h
 obtain⟨q,hq,e⟩:=List.mem_iff_getElem.1 hx
 rw [List.length_take] at hq
 rw [List.getElem_take] at e
 have e2:ent ns a q=x:=by
  have:=Ld (es:=(nd ns a).af) (q:=q) (by omega)
  grind [rC,nd,ent,nU]
 grind
theorem Sd (hj:j<(nd ns i).af.length):rC ns i (j+1)=rC ns i j++[((ent ns i j).name,nU ns (ent ns i j))]:=by
 unfold rC
 rw [List.take_add_one,Ld hj,List.map_append];rfl
theorem He (hG:aX ns) (hi:i<ns.length) {q:Nat}:∀{j},q<j->j<(nd ns i).af.length->sA (ent ns i q).name (ent ns i j).name<0
 |0,h,_=>absurd h (Nat.not_lt_zero q)
 |j+1,h,hj=>by
   have h1:=Fl.1 (hG.af i hi (j+1) hj).ord
   have h1:sA (ent ns i j).name (ent ns i (j+1)).name<0:=h1
   rcases Nat.lt_succ_iff_lt_or_eq.1 h with e|e
   ·exact E4 (He hG hi e (by omega)) (Int.le_of_lt h1)
   rw [e];exact h1
theorem Vi (hG:aX ns) (hi:i<ns.length) (hj:j<(nd ns i).af.length):aH (ent ns i j).name (rC ns i j)=none:=by
 refine zy.2 (λe he e1=>?_)
 obtain⟨q,h1,h2,h3,_⟩:=zU he
 have:=He hG hi h1 hj
 grind [Ia,ent]
theorem II {n:ByteArray}:∀{es:fP Th},(∀e∈es,sA e.1 n<0)->iz n t es=es++[(n,t)]
 |[],_=>rfl
 |e::r,h=>by
   have h1:=h e (List.mem_cons_self ..)
   unfold iz
   rw [if_neg (λhc=>by grind [Fl,Bf]),II (λx hx=>h x (List.mem_cons_of_mem _ hx))];rfl
theorem Vj (hG:aX ns) (hi:i<ns.length) (hj:j<(nd ns i).af.length):iz (ent ns i j).name (nU ns (ent ns i j)) (rC ns i j)=rC ns i (j+1):=by
 grind [Sd,II,zU,He]
theorem wG (hG:aX ns) (hi:i<ns.length) (hj:j<(nd ns i).af.length):tgt ns (ent ns i j).id<ns.length/\(nd ns (tgt ns (ent ns i j).id)).id=(ent ns i j).id:=by
 have:=jY (hG.af i hi j hj).at_
 exact⟨this.1,this.2.1⟩
theorem Hf {O:bZ} {d x:Nat} {name:ByteArray} (h:t.k≠d):obj (q8 O d name t) x=if x=d then {obj O d with af:=iz name t (obj O d).af} else if x=t.k then {obj O x with links:=(obj O x).links+1,up:=if t.kind=2 then some d else (obj O x).up} else obj O x:=by
 grind [ay,iz,obj,up,iw,q8]
theorem iR.ab8 (hG:aX ns) (h:iR X ns i j S) {d:Nat} (hd:Live S.idx ⟨d,2⟩) {n:ByteArray} (ha:a<ns.length) (hk:(nd ns a).kind=2) (hl:aH n (obj S.O d).af=some (r8 (nd ns a))):∃b q,b<ns.length/\d=gT (nd ns b)/\G8 ns b q/\tgt ns (ent ns b q).id=a:=by
 obtain⟨b,hb,e⟩:=h.of hd
 have e:(⟨d,2⟩:Th)=⟨gT (nd ns b),(nd ns b).kind⟩:=e
 have e1:d=gT (nd ns b):=congrArg Th.k e
 subst e1
 obtain⟨l,u,ho⟩:=h.ob b hb
 have hm:=oG hl
 rw [ho] at hm
 obtain⟨q,h1,h2,_,h4⟩:=zU hm
 have ht:=wG hG hb h2
 have h5:gT (nd ns a)=gT (nd ns (tgt ns (ent ns b q).id)):=congrArg Th.k h4
 have h6:=vM hG ha ht.1 h5
 exact⟨b,q,hb,rfl,⟨hb,h2,by rw [←h6];exact hk⟩,h6.symm⟩
theorem iR.below (hG:aX ns) (h:iR X ns i j S) {dp:Nat->Nat} (hdp:G9 ns dp) {s k:Nat} (hb:pq S.O s k):∀{a b},a<ns.length->k=gT (nd ns a)->b<ns.length->s=gT (nd ns b)->dp b<=dp a:=by
 induction hb with
 |here=>
   grind [vM]
 |up hup _ ih=>
   intro a b ha e1 hb e2
   subst e1
   have hlv:=h.live hG ha
   obtain⟨h1,h2,n,h3⟩:=(h.inv.up _ hlv _).1 hup
   obtain⟨c,q,hc,e3,hD,e4⟩:=h.ab8 hG h2 ha h1 h3
   grind [G9,gT,nd]
theorem iR.links (hG:aX ns) (h:iR X ns i j S) (hi:i<ns.length) (hj:j<(nd ns i).af.length) (hk:(nU ns (ent ns i j)).kind=2):(obj S.O (nU ns (ent ns i j)).k).links=0:=by
 have ht:=wG hG hi hj
 have hlv:Live S.idx (nU ns (ent ns i j)):=h.live hG ht.1
 rw [h.inv.links _ hlv]
 cases hz:j3 S.idx S.O (nU ns (ent ns i j)).k with
 |zero=>rfl
 |succ z=>
   exfalso
   obtain⟨x,u,hu,e,he,e1⟩:=Fg h.inv.rise (show 0<j3 S.idx S.O (nU ns (ent ns i j)).k by omega)
   obtain⟨b,hb,rfl⟩:=h.of hu
   obtain⟨l,u,ho⟩:=h.ob b hb
   have he:e∈(obj S.O (gT (nd ns b))).af:=he
   rw [ho] at he
   obtain⟨q,h1,h2,_,h4⟩:=zU he
   have ht2:=wG hG hb h2
   have h5:gT (nd ns (tgt ns (ent ns b q).id))=gT (nd ns (tgt ns (ent ns i j).id)):=by
    rw [h4] at e1;exact e1
   have h6:=vM hG ht2.1 ht.1 h5
   obtain⟨rfl,rfl⟩:=hG.uniq b q i j ⟨hb,h2,by rw [h6];exact hk⟩ ⟨hi,hj,hk⟩ hb hi h6
   grind [sH]
theorem iR.look (hG:aX ns) (h:iR X ns i j S) (hi:i<ns.length) (hj:j<(nd ns i).af.length):(obj S.O (gT (nd ns i))).af=rC ns i j/\aH (ent ns i j).name (obj S.O (gT (nd ns i))).af=none/\(nd ns i).kind=2:=by
 obtain⟨l,u,ho⟩:=h.ob i hi
 have e1:(obj S.O (gT (nd ns i))).af=rC ns i j:=by
  grind [rC,sH]
 refine⟨e1,by rw [e1];exact Vi hG hi hj,?_⟩
 cases Decidable.em ((nd ns i).kind=2) with
 |inl h=>exact h
 |inr h=>have:=(hG.node i hi).af h;omega
theorem iR.gone (h:iR X ns i j S) (ha:a<ns.length):(obj S.O (gT (nd ns a))).gone=false:=by
 obtain⟨l,u,ho⟩:=h.ob a ha
 rw [ho];rfl
theorem iR.ne (hG:aX ns) (hi:i<ns.length) (hj:j<(nd ns i).af.length) (hk:(nd ns i).kind=2):(nU ns (ent ns i j)).k≠gT (nd ns i):=λe=>by
 have ht:=wG hG hi hj
 have h1:=vM hG ht.1 hi e
 obtain⟨dp,hdp⟩:=hG.deep
 have:=hdp i j ⟨hi,hj,by rw [h1];exact hk⟩
 rw [h1] at this
 exact Nat.lt_irrefl _ this
theorem iR.step (hG:aX ns) (h:iR X ns i j S) (hi:i<ns.length) (hj:j<(nd ns i).af.length):iR X ns i (j+1) (oV ns S (nd ns i) (ent ns i j)):=by
 obtain⟨l1,l2,l3⟩:=h.look hG hi hj
 have ht:=wG hG hi hj
 have hne:=iR.ne hG hi hj l3
 have hld:Live S.idx ⟨gT (nd ns i),2⟩:=by
  have:=h.live hG hi
  unfold r8 at this
  rw [l3] at this
  exact this
 have hlt:Live S.idx (nU ns (ent ns i j)):=h.live hG ht.1
 have hX:S.X.af=((bN ns i+j:Nat):Int):=by rw [h.cap]
 have hsum:bN ns i+j<8192:=by
  have h1:bN ns (i+1)<=bN ns ns.length:=nP hi
  have h2:bN ns (i+1)=bN ns i+(nd ns i).af.length:=rfl
  have h3:=hG.sum
  omega
 have h1:=h.inv.put (O':=q8 S.O (gT (nd ns i)) (ent ns i j).name (nU ns (ent ns i j))) (ta:=(obj S.O (gT (nd ns i))).sec) (tb:=(obj S.O (gT (nd ns i))).nano) hld (h.gone hi) l2 (hG.af i hi j hj).good hlt (h.gone ht.1) (λhk=>⟨h.links hG hi hj hk,λhb=>by
  obtain⟨dp,hdp⟩:=hG.deep
  have h2:=h.below hG hdp hb hi rfl ht.1 rfl
  have h3:=hdp i j ⟨hi,hj,hk⟩
  omega⟩) hne (by rw [hX];omega) (h.inv.mt _ hld).time (λx=>Hf hne)
 refine⟨h1,h.idx,h.us,h.ar,?_,λa ha=>?_,λx hx=>(Hf hne).trans (by rw [if_neg (hx i hi),if_neg (show ¬x=(nU ns (ent ns i j)).k from hx _ ht.1)];exact h.free x hx)⟩
 ·show ({S.X with af:=S.X.af+1}:FM)=_
  rw [hX,h.cap]
  show (⟨_,_,_,_,_,_,_,_⟩:FM)=⟨_,_,_,_,_,_,_,_⟩
  congr 1
 obtain⟨l,u,ho⟩:=h.ob a ha
 show ∃l u,obj (q8 S.O (gT (nd ns i)) (ent ns i j).name (nU ns (ent ns i j))) (gT (nd ns a))=_
 rw [Hf hne]
 by_cases e:a=i
 ·subst e
  refine⟨l,u,?_⟩
  rw [if_pos rfl,l1,Vj hG hi hj,ho]
  have hc:sH ns a (j+1) a=j+1:=by grind [sH]
  rw [hc]
 have hc:sH ns i (j+1) a=sH ns i j a:=by
  unfold sH;rw [if_neg e,if_neg e]
 rw [if_neg (λe2=>e (vM hG ha hi e2)),hc]
 split
 ·rw [ho];exact⟨_,_,rfl⟩
 exact⟨l,u,ho⟩
theorem iR.next (h:iR X ns i (nd ns i).af.length S):iR X ns (i+1) 0 S:=by
 refine⟨h.inv,h.idx,h.us,h.ar,h.cap,λa ha=>?_,h.free⟩
 obtain⟨l,u,ho⟩:=h.ob a ha
 grind [sH,nd]
theorem iR.full (h:iR X ns i j S):Inv S:=by
 refine⟨h.inv,λt ht hg=>?_⟩
 obtain⟨a,ha,rfl⟩:=h.of ht
 have:(obj S.O (gT (nd ns a))).gone=true:=hg
 rw [h.gone ha] at this
 cases this
theorem iR.graph (hG:aX ns) (h:iR X ns ns.length 0 S):aA S=ns:=by
 unfold aA
 rw [h.idx]
 unfold Eo
 rw [List.map_map]
 refine List.ext_getElem? (λa=>?_)
 rw [List.getElem?_map]
 by_cases ha:a<ns.length
 ·rw [BV ha]
  refine congrArg some ?_
  show gI S.O (nd ns a).id ⟨gT (nd ns a),(nd ns a).kind⟩=nd ns a
  unfold gI
  obtain⟨l,u,ho⟩:=h.ob a ha
  rw [ho]
  have he:(rC ns a (sH ns ns.length 0 a)).map (dJ S.O)=(nd ns a).af:=by
   unfold sH
   rw [if_pos ha]
   unfold rC
   rw [List.take_of_length_le (Nat.le_refl _),List.map_map]
   refine List.ext_getElem? (λq=>?_)
   rw [List.getElem?_map]
   by_cases hq:q<(nd ns a).af.length
   ·rw [Ld hq]
    refine congrArg some ?_
    have ht:=wG hG ha hq
    obtain⟨l,u,ho⟩:=h.ob _ ht.1
    have e1:(obj S.O (nU ns (en (nd ns a).af q)).k).id=(en (nd ns a).af q).id:=by
     show (obj S.O (gT (nd ns (tgt ns (ent ns a q).id)))).id=(ent ns a q).id
     rw [ho];exact ht.2
    show (⟨(en (nd ns a).af q).name,(obj S.O (nU ns (en (nd ns a).af q)).k).id⟩:cR)=_
    rw [e1]
   rw [List.getElem?_eq_none (by omega)];rfl
  show (⟨_,_,_,_,_,_,_,_,_,List.map (dJ S.O) (rC ns a (sH ns ns.length 0 a))⟩:au)=_
  rw [he]
  rfl
 rw [List.getElem?_eq_none (by omega)];rfl
end af
end
section
open Go.RowKit aR ak Go.Maps
theorem Sg {l:List Int} {j:Nat} (h:j<l.length):(ints l)[j]?=some (.int .i64 (l.getD j 0)):=by
 simp [ints,List.getD_eq_getElem?_getD,h]
theorem FH {ks:List Int} (h:ak.bK ks) {i j:Nat} (hij:i<j) (hj:j<ks.length):ks.getD i 0<ks.getD j 0:=by
 have:=List.pairwise_iff_getElem.1 h i j (by omega) hj hij
 grind
theorem xL {ks:List Int} {j:Nat} (h:j<ks.length):ks.getD j 0∈ks:=by
 grind
end
section
open Go.RowKit aR ak Go.Maps
theorem jj.get {β:Bs} {A:Option Addr} {l:List Int} (h:bW β A (ints l)) {j:Nat} (hj:j<l.length):A=some ⟨aV A,aU A,none⟩/\Rd β ⟨aV A,aU A+j*1,none⟩ (.int .i64 (l.getD j 0)):=by
 have:=h j _ (Sg hj)
 rw [Nat.mul_one];exact this
theorem jj.hd {β:Bs} {A:Option Addr} {l:List Int} (h:bW β A (ints l)) {j:Nat} (hj:j<l.length):A=some ⟨aV A,aU A,none⟩:=(jj.get h hj).1
theorem jj.rd {β:Bs} {A:Option Addr} {l:List Int} (h:bW β A (ints l)) {j:Nat} (hj:j<l.length):Rd β ⟨aV A,aU A+j*1,none⟩ (.int .i64 (l.getD j 0)):=(jj.get h hj).2
def fN (us:Used Int):List Int:=us.map (·.2)
theorem jL (us:Used Int):(fN us).length=us.length:=by simp [fN]
theorem gU {V:Type} (us:Used V):(keys us).length=us.length:=by simp [keys]
def qL:List Int->Int->Int
 |[],_=>-1
 |k::r,h=>if k=h then 0 else if qL r h<0 then -1 else qL r h+1
theorem Le {ks:List Int} {h:Int}:(∀j,j<ks.length->¬ks.getD j 0=h)->qL ks h = -1:=by
 induction ks with
 |nil=>intro _;rfl
 |cons k r ih=>
   intro hn
   have h0:¬k=h:=hn 0 (by simp)
   have:=ih (λj hj=>by have:=hn (j+1) (by simpa using hj);simpa using this)
   rw [qL,if_neg h0,this];rfl
theorem Sh:∀{ks:List Int} {h:Int} {i:Nat},i<ks.length->ks.getD i 0=h->(∀j,j<i->¬ks.getD j 0=h)->qL ks h=i
 |k::r,h,0,_,e,_=>by
   have e:k=h:=e
   rw [qL,if_pos e];rfl
 |k::r,h,i+1,hi,e,hn=>by
   have h0:¬k=h:=hn 0 (by omega)
   have:=Sh (ks:=r) (h:=h) (i:=i) (by simpa using hi) (by simpa using e) (λj hj=>by grind)
   rw [qL,if_neg h0,this,if_neg (by omega)]
   omega
theorem Ox {ks:List Int} {h:Int} (hm:h∈ks):∃i:Nat,qL ks h=i/\i<ks.length/\ks.getD i 0=h:=by
 induction ks with
 |nil=>cases hm
 |cons k r ih=>
   by_cases e:k=h
   ·exact⟨0,by rw [qL,if_pos e];rfl,by simp,e⟩
   rcases List.mem_cons.1 hm with e2|hm
   ·exact absurd e2.symm e
   obtain⟨i,h1,h2,h3⟩:=ih hm
   exact⟨i+1,by grind [qL],by simpa using h2,by simpa using h3⟩
theorem Oy {ks:List Int} {h:Int} (hm:h∉ks):qL ks h = -1:=Le (λ_ hj e=>hm (e ▸ xL hj))
theorem Oz {ks:List Int} {h:Int}:0<=qL ks h↔h∈ks:=by
 grind [Ox,Oy]
theorem qb:∀(ks:List Int) (h:Int),jh h ks<=h+ks.length
 |[],h=>by simp [jh]
 |k::r,h=>by
   rw [jh]
   split
   ·have:=qb r (h+1);simp only [List.length_cons];omega
   simp only [List.length_cons];omega
theorem least_le {V:Type} (us:Used V):ak.least us<=1+us.length:=by
 have:=qb (keys us) 1
 rw [gU] at this
 exact this
theorem Qb {V:Type} {us:Used V} (hr:ak.bK (keys us)) (hp:∀x∈keys us,1<=x):1<=ak.least us/\ak.least us∉keys us/\∀x,1<=x->x<ak.least us->x∈keys us:=ol (keys us) 1 hr hp
section ins
variable {h v:Int}
theorem Lf:∀{l:Used Int},(∀p∈l,¬h<p.1)->ins h v l=l++[(h,v)]
 |[],_=>rfl
 |p::r,hn=>by
   rw [ins,if_neg (hn p (List.mem_cons_self ..)),Lf (λq hq=>hn q (List.mem_cons_of_mem _ hq))];rfl
theorem IJ:∀{l:Used Int} {x:Int×Int},(∀p∈l,¬h<p.1)->h<x.1->ins h v (l++[x])=l++[(h,v),x]
 |[],x,_,hx=>by grind [ins]
 |p::r,x,hn,hx=>by
   rw [List.cons_append,ins,if_neg (hn p (List.mem_cons_self ..)),IJ (λq hq=>hn q (List.mem_cons_of_mem _ hq)) hx];rfl
theorem Lg:∀{l:Used Int} {x:Int×Int},(∃p∈l,h<p.1)->ins h v (l++[x])=ins h v l++[x]
 |[],_,hd=>by obtain⟨p,hp,_⟩:=hd;cases hp
 |p::r,x,hd=>by
   rw [List.cons_append,ins,ins]
   split
   ·rfl
   rename_i hp
   obtain⟨q,hq,hlt⟩:=hd
   rcases List.mem_cons.1 hq with e|hq
   ·exact absurd (e ▸ hlt) hp
   rw [Lg ⟨q,hq,hlt⟩];rfl
end ins
def pr (us:Used Int) (i:Nat):Int×Int:=us.getD i (0,0)
theorem vN {us:Used Int} {i:Nat} (hi:i<us.length):us.take (i+1)=us.take i++[pr us i]:=by
 rw [List.take_add_one]
 grind [pr]
theorem vO {us:Used Int} {i:Nat} (hi:i<us.length):(keys us).getD i 0=(pr us i).1/\(fN us).getD i 0=(pr us i).2:=by
 grind [keys,fN,pr]
structure jk (us:Used Int) (h v:Int) (i:Nat) (d:Bool) (q:Used Int):Prop where
 yes:d=true->(∃p∈us.take i,h<p.1)/\q=ins h v (us.take i)
 no:d=false->(∀p∈us.take i,¬h<p.1)/\q=us.take i
 len:q.length=i+(if d then 1 else 0)
section put
variable {us q:Used Int} {h v:Int} {i:Nat} {d:Bool}
theorem jk.zero:jk us h v 0 false []:=⟨λe=>(by cases e),λ_=>⟨λp hp=>(by simp at hp),(by simp)⟩,rfl⟩
theorem jk.hit (hp:jk us h v i false q) (hi:i<us.length) (hk:h<(pr us i).1):jk us h v (i+1) true (q++[(h,v)]++[pr us i]):=by
 obtain⟨h1,rfl⟩:=hp.no rfl
 refine⟨λ_=>⟨⟨pr us i,by rw [vN hi];simp,hk⟩,by rw [vN hi,IJ h1 hk];simp⟩,λe=>(by cases e),?_⟩
 simp
 omega
theorem jk.miss (hp:jk us h v i false q) (hi:i<us.length) (hk:¬h<(pr us i).1):jk us h v (i+1) false (q++[pr us i]):=by
 obtain⟨h1,rfl⟩:=hp.no rfl
 refine⟨λe=>(by cases e),λ_=>⟨λp hpm=>?_,(vN hi).symm⟩,by simp;omega⟩
 grind [vN]
theorem jk.more (hp:jk us h v i true q) (hi:i<us.length):jk us h v (i+1) true (q++[pr us i]):=by
 obtain⟨⟨p,h1,h2⟩,rfl⟩:=hp.yes rfl
 refine⟨λ_=>⟨⟨p,by grind,h2⟩,by grind [vN,Lg]⟩,λe=>(by cases e),?_⟩
 have:=hp.len
 simp at this ⊢
 omega
theorem jk.last (hp:jk us h v us.length false q):q++[(h,v)]=ins h v us:=by
 obtain⟨h1,rfl⟩:=hp.no rfl
 grind [Lf]
theorem jk.end_ (hp:jk us h v us.length true q):q=ins h v us:=by
 obtain⟨_,rfl⟩:=hp.yes rfl
 rw [List.take_length]
end put
theorem Vk (q:Used Int) (x:Int×Int):fN (q++[x])=fN q++[x.2]:=by simp [fN]
theorem Iy (q:Used Int) (x:Int×Int):keys (q++[x])=keys q++[x.1]:=by simp [keys]
theorem Lh {us:Used Int} {h:Int} {i:Nat} (hi:i<us.length):del h (us.take (i+1))=if (pr us i).1=h then del h (us.take i) else del h (us.take i)++[pr us i]:=by
 grind [vN,del,pr]
theorem Qc {us:Used Int} {h:Int}:(del h us).length<=us.length:=List.length_filter_le ..
theorem FI {us:Used Int} (hr:ak.bK (keys us)) {i j:Nat} (hi:i<us.length) (hj:j<us.length) (e:(pr us i).1=(pr us j).1):i=j:=by
 rw [←(vO hi).1,←(vO hj).1] at e
 rcases Nat.lt_trichotomy i j with h|h|h
 ·have:=FH hr h (by rw [gU];exact hj);omega
 ·exact h
 have:=FH hr h (by rw [gU];exact hi);omega
theorem ZI {us:Used Int} (hr:ak.bK (keys us)) {i:Nat} (hi:i<us.length) {h:Int} (e:(pr us i).1=h):ak.get us h=some (pr us i).2:=by
 have hm:pr us i∈us:=by grind [pr]
 unfold ak.get
 cases hf:us.find? (λp=>p.1 == h) with
 |none=>
   grind
 |some p=>
   have h1:=List.mem_of_find?_eq_some hf
   have h2:=List.find?_some hf
   obtain⟨j,hj,rfl⟩:=List.getElem_of_mem h1
   grind [pr,FI]
end
section
open Go.RowKit Go.Maps aR ak
noncomputable section
structure RS where
 ns:List au
 gone:List Int
 us:Used Int
 ar:Int
 cN:Int
 cB:Int
 cH:Int
 cS:Int
 cZ:Int
 last:Int
def jP (name:ByteArray) (id:Int):List cR->List cR
 |[]=>[⟨name,id⟩]
 |e::r=>if ¬fM e.name name then ⟨name,id⟩::e::r else e::jP name id r
def oW (name:ByteArray) (es:List cR):List cR:=es.filter (λe=>decide (e.name≠name))
def kq (s z:Int) (ns:List au) (d:Nat) (es:List cR):List au:=ns.set d {nd ns d with af:=es,sec:=s,nano:=z}
def aP (ns:List au) (d:Nat) (name:ByteArray):Int:=match xH (nd ns d).af name with|none=>-1|some j=>dV ns (en (nd ns d).af j).id
def qM (ns:List au) (id:Int):Int:=(kz ns id ns.length:Int)
def ox (name:ByteArray):List cR->Int->Int
 |[],z=>z
 |e::r,z=>ox name r (if e.name=name then e.id else z)
variable (R:RS)
def eV (h:Int):Except Int Nat:=match ak.get R.us h with|none=>.error 131|some id=>.ok (tgt R.ns id)
def ez (h:Int) (name:ByteArray) (need:Int):Except Int Nat:=
 match eV R h with
 |.error e=>.error e
 |.ok d=>
   if (nd R.ns d).kind=2 then
    if (nd R.ns d).id∈R.gone then .error 170
    else if aS name then if bits BinOp.and .i64 (nd R.ns d).mode need=need then .ok d else .error 175
    else .error 95
   else .error 173
def bE (d:Nat) (name:ByteArray) (id:Int):RS:={R with ns:=kq R.cS R.cZ R.ns d (jP name id (nd R.ns d).af)}
def bC (d:Nat) (name:ByteArray) (free:Bool):RS:=
 let ns:=kq R.cS R.cZ R.ns d (oW name (nd R.ns d).af)
 let id:=ox name (nd R.ns d).af 0
 {R with ns:=ns,gone:=if free=true/\qM ns id=0 then R.gone++[id] else R.gone}
def oY (n:au):Bool:=decide (n.id∈R.gone->n.id∈fN R.us)
def dF:RS:={R with ns:=R.ns.filter (oY R),gone:=((R.ns.filter (oY R)).filter (λn=>decide (n.id∈R.gone))).map au.id}
def gV (d:Nat) (name:ByteArray) (n:au):RS:=
 let id:=R.last+1
 let R1:=bE {R with last:=id} d name id
 {R1 with ns:=R1.ns++[{n with id:=id,sec:=R.cS,nano:=R.cZ}]}
def sI:Prop:=(R.ns.length:Int)<R.cN/\R.last<1099511627776/\(bN R.ns R.ns.length:Int)<8192
instance:Decidable (sI R):=inferInstanceAs (Decidable (_/\_/\_))
abbrev tI:=RS×Int×Int
def iN (k:Nat):tI:=
 if (R.us.length:Int)<R.cH then ({R with us:=ins (least R.us) (nd R.ns k).id R.us,ar:=max R.ar ((R.us.length:Int)+1)},least R.us,0) else (R,0,130)
def gM (k:Nat) (bs:List UInt8):tI:=
 if bs=[] then (R,0,0)
 else if R.cB-(cW R.ns R.ns.length:Int)<=0 then (R,0,176)
 else
  let n:=(min (bs.length:Int) (R.cB-(cW R.ns R.ns.length:Int))).toNat
  ({R with ns:=R.ns.set k {nd R.ns k with data:=(nd R.ns k).data++bs.take n,sec:=R.cS,nano:=R.cZ}},(n:Int),0)
def aL (d:Nat) (name:ByteArray) (n:au):RS×Int:=
 if n.kind=3/\iP n.target≠0 then (R,iP n.target)
 else if 0<=aP R.ns d name then (R,171)
 else if sI R then (gV R d name n,0) else (R,177)
def eW (d:Nat) (name:ByteArray) (dir:Bool):RS×Int:=
 if 0<=aP R.ns d name then
  let k:=(aP R.ns d name).toNat
  if dir=false/\(nd R.ns k).kind=2 then (R,172)
  else if dir=true/\(nd R.ns k).kind≠2 then (R,173)
  else if dir=true/\0<(nd R.ns k).af.length then (R,178)
  else (dF (bC R d name true),0)
 else (R,170)
def lf (ns:List au) (id:Int):Nat->Int
 |0=>-1
 |i+1=>if 0<fF (nd ns i).af id (nd ns i).af.length then (i:Int) else lf ns id i
def gu (ns:List au) (top:Nat):Nat->Nat->Bool
 |0,_=>false
 |k+1,d=>if d=top then true else if lf ns (nd ns d).id ns.length<0 then false else gu ns top k (lf ns (nd ns d).id ns.length).toNat
def d9 (f:Nat) (name:ByteArray) (to:Nat) (toName:ByteArray):RS×Int:=
 if 0<=aP R.ns f name then
  let k:=(aP R.ns f name).toNat
  if (nd R.ns k).kind=2/\gu R.ns k (R.ns.length+1) to=true then (R,174)
  else if aP R.ns to toName=(k:Int) then (R,0)
  else if 0<=aP R.ns to toName then
   if (nd R.ns (aP R.ns to toName).toNat).kind=2 then (R,172)
   else if (nd R.ns k).kind=2 then (R,173)
   else (dF (bE (bC (bC R to toName true) f name false) to toName (nd R.ns k).id),0)
  else (dF (bE (bC R f name false) to toName (nd R.ns k).id),0)
 else (R,170)
def fW (c:aD) (want:Int):tI:=
 match ez R c.handle c.name 64 with
 |.error e=>(R,0,e)
 |.ok d=>
   if 0<=aP R.ns d c.name then
    let k:=(aP R.ns d c.name).toNat
    if (nd R.ns k).kind=3 then (R,0,174)
    else if (nd R.ns k).kind≠want then (R,0,if (nd R.ns k).kind=1 then 173 else 172)
    else iN R k
   else (R,0,170)
def nQ (c:aD) (need:Int):Except Int (Nat×Nat):=
 match ez R c.handle c.name need with
 |.error e=>.error e
 |.ok f=>match ez R c.other c.text 192 with
   |.error e=>.error e
   |.ok to=>.ok (f,to)
def ju (c:aD):tI:=
 match eV R c.handle with
 |.error e=>(R,0,e)
 |.ok k=>
   if (nd R.ns k).kind=2/\(nd R.ns k).id∈R.gone then (R,0,170)
   else if gS c.mode then
    if mY c.uid/\mY c.gid then
     if dz c.sec c.nano then ({R with ns:=R.ns.set k {nd R.ns k with mode:=c.mode,uid:=c.uid,gid:=c.gid,sec:=c.sec,nano:=c.nano}},0,0)
     else (R,0,20)
    else (R,0,11)
   else (R,0,120)
def eX (c:aD) (d:Nat):tI:=
 if c.op=8\/c.op=14 then ((eW R d c.name (decide (c.op=14))).1,0,(eW R d c.name (decide (c.op=14))).2)
 else if c.op=6 then ((aL R d c.name ⟨0,3,511,0,0,0,0,[],c.text,[]⟩).1,0,(aL R d c.name ⟨0,3,511,0,0,0,0,[],c.text,[]⟩).2)
 else if gS c.mode then
  if c.op=5 then
   let m:=aL R d c.name ⟨0,1,c.mode,0,0,0,0,[],⟨#[]⟩,[]⟩
   if m.2=0 then iN m.1 (m.1.ns.length-1) else (m.1,0,m.2)
  else ((aL R d c.name ⟨0,2,c.mode,0,0,0,0,[],⟨#[]⟩,[]⟩).1,0,(aL R d c.name ⟨0,2,c.mode,0,0,0,0,[],⟨#[]⟩,[]⟩).2)
 else (R,0,120)
def sJ (c:aD):tI:=
 match nQ R c 64 with
 |.error e=>(R,0,e)
 |.ok (f,to)=>
   if 0<=aP R.ns f c.name then
    if (nd R.ns (aP R.ns f c.name).toNat).kind=2 then (R,0,172)
    else if 0<=aP R.ns to c.text then (R,0,171)
    else if (bN R.ns R.ns.length:Int)<8192 then (bE R to c.text (nd R.ns (aP R.ns f c.name).toNat).id,0,0)
    else (R,0,177)
   else (R,0,170)
def aT (c:aD):tI:=
 if c.op=1 then
  if 0<=dV R.ns c.other then if (nd R.ns (tgt R.ns c.other)).kind=2 then iN R (tgt R.ns c.other) else (R,0,173)
  else (R,0,141)
 else if c.op=2 then fW R c 2
 else if c.op=3 then fW R c 1
 else if c.op=4\/c.op=5\/c.op=6\/c.op=8\/c.op=14 then
  match ez R c.handle c.name 192 with
  |.error e=>(R,0,e)
  |.ok d=>eX R c d
 else if c.op=7 then sJ R c
 else if c.op=9 then
  match eV R c.handle with
  |.error e=>(R,0,e)
  |.ok k=>if (nd R.ns k).kind=2 then (R,0,172) else gM R k c.data
 else if c.op=10 then ju R c
 else if c.op=13 then
  if c.handle∈keys R.us then (dF {R with us:=del c.handle R.us},0,0) else (dF R,0,131)
 else if c.op=15 then
  match nQ R c 192 with
  |.error e=>(R,0,e)
  |.ok (f,to)=>((d9 R f c.name to c.text).1,0,(d9 R f c.name to c.text).2)
 else (R,0,230)
def CY (c:aD) (k:Nat):aD:={c with answer:=(nd R.ns k).id,other:=(nd R.ns k).kind,mode:=(nd R.ns k).mode,uid:=(nd R.ns k).uid,gid:=(nd R.ns k).gid,sec:=(nd R.ns k).sec,nano:=(nd R.ns k).nano,code:=0}
def FJ (c:aD) (e:Int):aD:={c with answer:=0,other:=0,mode:=0,uid:=0,gid:=0,sec:=0,nano:=0,code:=e}
def nX (c:aD):aD:=
 if c.op=12 then
  match ez R c.handle c.name 64 with
  |.error e=>FJ c e
  |.ok d=>if 0<=aP R.ns d c.name then CY R c (aP R.ns d c.name).toNat else FJ c 170
 else match eV R c.handle with
  |.error e=>FJ c e
  |.ok k=>CY R c k
def qv (c:aD):RS×aD:=
 if c.op=11\/c.op=12 then (R,nX R c)
 else if (aT R c).2.2=0 then ((aT R c).1,{c with answer:=(aT R c).2.1,code:=0}) else (R,{c with answer:=0,code:=(aT R c).2.2})
end
end
section
open Go.RowKit Go.Maps aR ak
structure RL where
 A:Option Addr
 c:Nat
 L:Lay
 G:Option Addr
 cg:Nat
 H:Option Addr
 ch:Nat
 V:Option Addr
 cv:Nat
def rV (R:RS) (Y:RL):List Value:=[.slice Y.A R.ns.length Y.c,.slice Y.G R.gone.length Y.cg,.int .i64 R.cH,.int .i64 R.ar,.slice Y.H R.us.length Y.ch,.slice Y.V R.us.length Y.cv,.int .i64 R.cN,.int .i64 R.cB,.int .i64 R.cH,.int .i64 R.cS,.int .i64 R.cZ,.int .i64 R.last]
abbrev cF (c:aD) (A:Option Addr) (p:Nat):aD:={c with dA:=A,dC:=p}
def rW (R:RS) (A:Option Addr) (c:Nat) (G:Option Addr) (cg:Nat) (H:Option Addr) (ch:Nat) (V:Option Addr) (cv:Nat):List Value:=rV R ⟨A,c,⟨λ_=>none,λ_=>none,λ_=>0,λ_=>0⟩,G,cg,H,ch,V,cv⟩
def rZ:List Value:=[.slice none 0 0,.slice none 0 0,.int .i64 0,.int .i64 0,.slice none 0 0,.slice none 0 0,.int .i64 0,.int .i64 0,.int .i64 0,.int .i64 0,.int .i64 0,.int .i64 0]
structure RowsAt (β:Bs) (R:RS) (Y:RL):Prop where
 g:bW β Y.G (ints R.gone)
 h:bW β Y.H (ints (keys R.us))
 v:bW β Y.V (ints (fN R.us))
structure bS (β:Bs) (R:RS) (Y:RL):Prop extends RowsAt β R Y where
 n:av β Y.A R.ns Y.L
structure RB (R:RS):Prop where
 ns:R.ns.length<=4097
 gone:R.gone.length<=8200
 us:R.us.length<=1024
 af:bN R.ns R.ns.length<=8200
 dat:cW R.ns R.ns.length<=140737488355328
structure RC (R:RS):Prop extends RB R where
 rise:bK R.ns
 hand:∀id∈fN R.us,0<=dV R.ns id
 kind:∀i,i<R.ns.length->(nd R.ns i).kind=1\/(nd R.ns i).kind=2\/(nd R.ns i).kind=3
 cap:0<=R.cN/\R.cN<=4096/\0<=R.cB/\R.cB<=1099511627776/\0<=R.cH/\R.cH<=1024/\0<=R.last/\R.last<=1099511627776/\0<=R.ar/\R.ar<=R.cH
 usr:ak.bK (keys R.us)
 uw:∀z∈keys R.us,1<=z
 BL:(R.us.length:Int)<=R.cH
section d
variable {β β':Bs} {R:RS} {Y:RL} {i:Nat}
theorem RowsAt.le (h:RowsAt β R Y) (hle:β.le β'):RowsAt β' R Y:=⟨h.g.le hle,h.h.le hle,h.v.le hle⟩
theorem bS.le (h:bS β R Y) (hle:β.le β'):bS β' R Y:=⟨h.toRowsAt.le hle,h.n.le hle⟩
theorem RB.row (h:RB R) (hi:i<R.ns.length):(nd R.ns i).af.length<=8200:=by
 have h1:=nP (ns:=R.ns) (show i+1<=R.ns.length by omega)
 have h2:=h.af
 grind [bN,nd]
end d
end
section
open Go.RowKit Go.Maps aR ak
section l
variable {ns:List au} {es:List cR} {name:ByteArray} {id:Int} {i j d top k:Nat} {R:RS} {l:List Int}
theorem Si (hj:j<es.length) (e:(en es j).name=name) (hno:∀q,q<j->¬(en es q).name=name):xH es name=some j:=by
 unfold xH
 rw [List.findIdx?_eq_some_iff_getElem]
 have hg:∀k (hk:k<es.length),en es k=es[k]:=λk hk=>by
  grind [en]
 grind
theorem Sj (hj:j<(nd ns d).af.length) (e:(en (nd ns d).af j).name=name) (hno:∀q,q<j->¬(en (nd ns d).af q).name=name):dV ns (en (nd ns d).af j).id=aP ns d name:=by
 unfold aP;rw [Si hj e hno]
theorem Qd (hno:∀q,q<(nd ns d).af.length->¬(en (nd ns d).af q).name=name):(-1:Int)=aP ns d name:=by
 unfold aP;rw [P7 hno]
theorem Yk (hj:j<l.length) (e:l.getD j 0=id):true=decide (id∈l):=by
 grind
theorem Vl (hno:∀q,q<l.length->¬l.getD q 0=id):false=decide (id∈l):=by
 refine (decide_eq_false (λh=>?_)).symm
 obtain⟨j,hj,e⟩:=List.getElem_of_mem h
 grind
def xM (ns:List au) (id:Int) (i j:Nat):Int:=if 0<fF (nd ns i).af id j then (i:Int) else lf ns id i
theorem Vm:lf ns id i=xM ns id i 0:=by unfold xM;rw [if_neg (by unfold fF;omega)]
theorem Yl:xM ns id i (nd ns i).af.length=lf ns id (i+1):=rfl
theorem Ym (e:(en (nd ns i).af j).id=id):(i:Int)=xM ns id i (j+1):=by unfold xM;rw [if_pos (by have:=FC e;omega)]
theorem Vn (e:¬(en (nd ns i).af j).id=id):xM ns id i j=xM ns id i (j+1):=by unfold xM;rw [DE e]
theorem Sk:∀n:Nat,-1<=lf ns id n/\lf ns id n<n
 |0=>⟨by unfold lf;omega,by unfold lf;omega⟩
 |n+1=>by
   have:=Sk n
   unfold lf
   split<;>omega
theorem Sl:gu ns d (k+1) d=true:=by unfold gu;rw [if_pos rfl]
theorem Qe (h:¬d=top) (hu:lf ns (nd ns d).id ns.length<0):gu ns top (k+1) d=false:=by unfold gu;rw [if_neg h,if_pos hu]
theorem Vo (h:¬d=top) (hu:¬lf ns (nd ns d).id ns.length<0):gu ns top (k+1) d=gu ns top k (lf ns (nd ns d).id ns.length).toNat:=by
 grind [gu]
end l
end
section
open Go.RowKit Go.Maps aR ak
theorem Li {V:Type} {g:Int×V->Nat}:∀{a b:Used V},dU g (a++b)=dU g a+dU g b
 |[],b=>(Nat.zero_add _).symm
 |p::r,b=>by
   show g p+dU g (r++b)=g p+dU g r+dU g b
   rw [Li];omega
theorem Ns {ns:List au} {i j:Nat} (h:i<=j):cW ns i<=cW ns j:=by
 induction j with
 |zero=>rw [Nat.le_zero.1 h];exact Nat.le_refl _
 |succ j ih=>
   grind [cW]
theorem FK {ns:List au} {i:Nat} (h:i<=ns.length):cW ns i<=cW ns ns.length:=Ns h
section at_
variable {S:aK} {i j:Nat}
theorem mh (hi:i<S.idx.length):nd (aA S) i=gI S.O (dN S i) (fZ S i):=by
 grind [nd,aA,uF]
theorem ZJ {t:Th} (hl:Live S.idx t):∃i,i<S.idx.length/\fZ S i=t/\dN S i=(t.k:Int):=by
 obtain⟨i,hi,e⟩:=List.getElem_of_mem (get_mem hl)
 have h1:=uF hi
 grind
theorem xO (f:aI->Nat) (s:List au->Nat->Nat) (h0:∀ns,s ns 0=0) (hs:∀k,k<S.idx.length->s (aA S) (k+1)=s (aA S) k+f (obj S.O (fZ S k).k)):∀k,k<=S.idx.length->s (aA S) k=dU (λp=>f (obj S.O p.2.k)) (S.idx.take k)
 |0,_=>by rw [h0];rfl
 |k+1,hk=>by
   rw [hs k hk,xO f s h0 hs k (by omega),List.take_add_one,uF hk,Li]
   rfl
theorem Lj:cW (aA S) S.idx.length=bytes S.idx S.O:=by
 have h:=xO (S:=S) (λo=>o.data.length) cW (λ_=>rfl) (λk hk=>by show cW (aA S) k+_=_;rw [mh hk];rfl) S.idx.length (Nat.le_refl _)
 rw [List.take_length] at h
 exact h
theorem BZ:bN (aA S) S.idx.length=tot S.idx S.O:=by
 have h:=xO (S:=S) (λo=>o.af.length) bN (λ_=>rfl) (λk hk=>by
  show bN (aA S) k+_=_
  rw [mh hk]
  show _+((obj S.O (fZ S k).k).af.map _).length=_
  rw [List.length_map]) S.idx.length (Nat.le_refl _)
 rw [List.take_length] at h
 exact h
end at_
end
section
open Go.RowKit aR ak Go.Maps
section ints
variable {β:Bs} {A:Option Addr} {l:List Int} {j:Nat}
theorem pW.get (h:bW β A (ints l)) (hj:j<l.length):A=some ⟨aV A,aU A,none⟩/\Rd β ⟨aV A,aU A+j*1,none⟩ (.int .i64 (l.getD j 0)):=by
 grind [ints,bW,aV,aU,Rd]
theorem pW.hd (h:bW β A (ints l)) (hj:j<l.length):A=some ⟨aV A,aU A,none⟩:=(pW.get h hj).1
theorem pW.rd (h:bW β A (ints l)) (hj:j<l.length):Rd β ⟨aV A,aU A+j*1,none⟩ (.int .i64 (l.getD j 0)):=(pW.get h hj).2
end ints
end
section
open Go.RowKit Go.Maps aR ak
attribute [local irreducible] ai aQ ah aj eM
theorem tK {β:Bs} (Z:RS) (Y:RL) (hR:bS β Z Y) (hB:RB Z) (id:Int) :
 Spec Tryz.prog β 62 #[.agg ⟨rV Z Y⟩,vI (id)] [] (λv l=>v=.bool (decide (id∈Z.gone))/\l=[]):=by
 refine SE Tryz.func62 Tryz.ntmps62 (λR=>SR (jB 2 [2] (λb1=>.blk b1 (rV Z Y) 42) (λb1=>NZ (jK 1 [5] [] (NN (ah.block (lJ (λ(i:Nat)=>(i<=Z.gone.length)/\(∀q,q<i->¬Z.gone.getD q 0=id)) (λ(i:Nat)=>Z.gone.length-i) (λ(i:Nat)=>[(1,vI (id)),(2,vP b1),(5,vI ↑i)]) (λ(i:Nat)=>[.abs R,.blk b1 (rV Z Y) 42]) 0 [0,1] (⟨Nat.zero_le _,λq hq=>absurd hq (Nat.not_lt_zero q)⟩) ?_)))))))
 rintro i ⟨hi,hno⟩
 have hbg:=hB.gone
 exact SQ (jK 5 [10] [(2,a_ 1 b1)] (NN (cP ((((i:Nat):Int):Int)<(((Z.gone.length:Nat):Int):Int)) (λh10=>KX (ah.seq (ah.block (SR (jK 7 [19] [(1,a_ 1 b1),(3,x_ i Z.gone.length (pW.hd (l:=Z.gone) hR.g (j:=i) (by grind))),(4,r_ (pW.rd (l:=Z.gone) hR.g (j:=i) (by grind)))] (NN (cP (((Z.gone.getD i 0):Int)=(id:Int)) (λhhit=>zR ⟨congrArg Value.bool (Yk (j:=i) (by omega) hhit),rfl⟩) (λhhit=>KX (ah.region (jK 3 [5] [(1,wJ ((i:Int)+1) (↑(i+1)))] (NL (tJ ((i+1)) [0,1] (⟨by omega,λq hq=>by grind⟩))))))))))))) (λh10=>XX (zR ⟨congrArg Value.bool (Vl (λq hq=>hno q (by omega))),rfl⟩)))))
theorem Ll {β:Bs} (Z:RS) (Y:RL) (hR:bS β Z Y) (hB:RB Z) :
 Spec Tryz.prog β 52 #[.agg ⟨rV Z Y⟩] [] (λv l=>v=vI ((cW Z.ns Z.ns.length:Nat):Int)/\l=[]):=by
 refine SE Tryz.func52 Tryz.ntmps52 (λR=>SR (jB 2 [1] (λb2=>.blk b2 (rV Z Y) 42) (λb2=>NS (jK 1 [3] [] (NZ (jK 1 [4] [] (NN (ah.block (lJ (λ(i:Nat)=>(i<=Z.ns.length)) (λ(i:Nat)=>Z.ns.length-i) (λ(i:Nat)=>[(1,vP b2),(3,vI ↑(cW Z.ns i)),(4,vI ↑i)]) (λ(i:Nat)=>[.abs R,.blk b2 (rV Z Y) 42]) 0 [0,1] (Nat.zero_le _) ?_)))))))))
 rintro i hi
 have WS:=hB.ns
 have hbd:=hB.dat
 have hdt:=FK (ns:=Z.ns) (i:=i) hi
 exact SQ (jK 6 [10] [(3,a_ 1 b2)] (NN (cP ((((i:Nat):Int):Int)<(((Z.ns.length:Nat):Int):Int)) (λh10=>KX (ah.seq (ah.block (ah.region (jK 11 [3] [(3,a_ 1 b2),(5,x_ i Z.ns.length (av.hd hR.n (i:=i) (by omega))),(7,r_ (av.rd hR.n (i:=i) (by omega) (j:=7) rfl)),(9,w_ (.int .i64 ↑(cW Z.ns (i+1))) (vW (Int.natCast_add _ _).symm (by omega) (by grind [FK])))] (LX (ah.region (jK 3 [4] [(1,wJ ((i:Int)+1) (↑(i+1)))] (NL (tJ ((i+1)) [0,1] (by omega))))))))))) (λh10=>XX (zR (v:=(.int .i64 ↑(cW Z.ns i))) ⟨by rw [show i=Z.ns.length by omega],rfl⟩)))))
theorem Lm {β:Bs} (Z:RS) (Y:RL) (hR:bS β Z Y) (hB:RB Z) :
 Spec Tryz.prog β 80 #[.agg ⟨rV Z Y⟩] [] (λv l=>v=vI ((bN Z.ns Z.ns.length:Nat):Int)/\l=[]):=by
 refine SE Tryz.func80 Tryz.ntmps80 (λR=>SR (jB 2 [1] (λb3=>.blk b3 (rV Z Y) 42) (λb3=>NS (jK 1 [3] [] (NZ (jK 1 [4] [] (NN (ah.block (lJ (λ(i:Nat)=>(i<=Z.ns.length)) (λ(i:Nat)=>Z.ns.length-i) (λ(i:Nat)=>[(1,vP b3),(3,vI ↑(bN Z.ns i)),(4,vI ↑i)]) (λ(i:Nat)=>[.abs R,.blk b3 (rV Z Y) 42]) 0 [0,1] (Nat.zero_le _) ?_)))))))))
 rintro i hi
 have WS:=hB.ns
 have hbe:=hB.af
 have hmo:=nP (ns:=Z.ns) hi
 exact SQ (jK 6 [10] [(3,a_ 1 b3)] (NN (cP ((((i:Nat):Int):Int)<(((Z.ns.length:Nat):Int):Int)) (λh10=>KX (ah.seq (ah.block (ah.region (jK 11 [3] [(3,a_ 1 b3),(5,x_ i Z.ns.length (av.hd hR.n (i:=i) (by omega))),(7,r_ (av.rd hR.n (i:=i) (by omega) (j:=9) rfl)),(9,w_ (.int .i64 ↑(bN Z.ns (i+1))) (vW (Int.natCast_add _ _).symm (by omega) (by have:=nP (ns:=Z.ns) (show i+1<=Z.ns.length by omega);have:=hB.af;omega)))] (LX (ah.region (jK 3 [4] [(1,wJ ((i:Int)+1) (↑(i+1)))] (NL (tJ ((i+1)) [0,1] (by omega))))))))))) (λh10=>XX (zR (v:=(.int .i64 ↑(bN Z.ns i))) ⟨by rw [show i=Z.ns.length by omega],rfl⟩)))))
theorem Sm {β:Bs} (Z:RS) (Y:RL) (hR:bS β Z Y) (hB:RB Z) (id:Int) :
 Spec Tryz.prog β 138 #[.agg ⟨rV Z Y⟩,vI (id)] [] (λv l=>v=vI (qM Z.ns id)/\l=[]):=by
 refine SE Tryz.func138 Tryz.ntmps138 (λR=>SR (jB 2 [2] (λb4=>.blk b4 (rV Z Y) 42) (λb4=>NS (jK 1 [5] [] (NZ (jK 1 [6] [] (NN (ah.block (lJ (λ(i:Nat)=>(i<=Z.ns.length)) (λ(i:Nat)=>Z.ns.length-i) (λ(i:Nat)=>[(1,vI (id)),(2,vP b4),(5,vI ↑(kz Z.ns id i)),(6,vI ↑i)]) (λ(i:Nat)=>[.abs R,.blk b4 (rV Z Y) 42]) 0 [0,1] (Nat.zero_le _) ?_)))))))))
 rintro i hi
 have WS:=hB.ns
 have hbe:=hB.af
 have hcs:=P8 Z.ns id i
 have hmo:=nP (ns:=Z.ns) hi
 refine SQ (jK 6 [13] [(3,a_ 1 b4)] (NN (cP ((((i:Nat):Int):Int)<(((Z.ns.length:Nat):Int):Int)) (λp6=>KX (ah.seq (ah.block (SR (jK 1 [7] [] (NN (ah.block (lJ (λ(j:Nat)=>(j<=(nd Z.ns i).af.length)) (λ(j:Nat)=>(nd Z.ns i).af.length-j) (λ(j:Nat)=>[(1,vI (id)),(2,vP b4),(5,vI ↑(kz Z.ns id i+fF (nd Z.ns i).af id j)),(6,vI ↑i),(7,vI ↑j)]) (λ(j:Nat)=>[.abs R,.blk b4 (rV Z Y) 42]) 0 [0,1] (Nat.zero_le _) ?_)))))))) (λp6=>XX (zR (v:=(.int .i64 ↑(kz Z.ns id i))) ⟨by rw [show i=Z.ns.length by omega];rfl,rfl⟩)))))
 rintro j hj
 have hrl:=Iz (nd Z.ns i).af id j
 have hrw:=hB.row (i:=i) (by omega)
 exact SQ (jK 10 [25] [(3,a_ 1 b4),(5,x_ i Z.ns.length (av.hd hR.n (i:=i) (by omega))),(7,r_ (av.rd hR.n (i:=i) (by omega) (j:=9) rfl))] (NN (cP ((((j:Nat):Int):Int)<((((nd Z.ns i).af.length:Nat):Int):Int)) (λoC=>KX (ah.seq (ah.block (SR (jK 13 [40] [(2,a_ 1 b4),(4,x_ i Z.ns.length (av.hd hR.n (i:=i) (by omega))),(6,r_ (av.rd hR.n (i:=i) (by omega) (j:=9) rfl)),(8,x_ j ((nd Z.ns i).af.length) (bp.hd (hR.n.af i (by omega)) (i:=j) (by omega))),(10,r_ (bp.rd (hR.n.af i (by omega)) (i:=j) (by omega) (j:=1) rfl))] (NN (cP (((en (nd Z.ns i).af j).id:Int)=(id:Int)) (λqN=>ah.region (jK 3 [5] [(1,wJ (((kz Z.ns id i+fF (nd Z.ns i).af id j:Nat):Int)+1) (↑((kz Z.ns id i+fF (nd Z.ns i).af id j)+1)))] (LX (ah.region (sl 5 (.int .i64 ↑((kz Z.ns id i+fF (nd Z.ns i).af id j)+1)) (.int .i64 ↑(kz Z.ns id i+fF (nd Z.ns i).af id (j+1))) (by rw [←FC qN,Nat.add_assoc]) (jK 3 [7] [(1,wJ ((j:Int)+1) (↑(j+1)))] (NL (tJ ((j+1)) [0,1] ((by omega)))))))))) (λqN=>KX (ah.region (sl 5 (.int .i64 ↑(kz Z.ns id i+fF (nd Z.ns i).af id j)) (.int .i64 ↑(kz Z.ns id i+fF (nd Z.ns i).af id (j+1))) (by rw [←DE qN]) (jK 3 [7] [(1,wJ ((j:Int)+1) (↑(j+1)))] (NL (tJ ((j+1)) [0,1] ((by omega))))))))))))))) (λoC=>XX (ah.region (sl 5 (.int .i64 ↑(kz Z.ns id i+fF (nd Z.ns i).af id j)) (.int .i64 ↑(kz Z.ns id (i+1))) (by rw [kz,show j=(nd Z.ns i).af.length by omega]) (jK 3 [6] [(1,wJ ((i:Int)+1) (↑(i+1)))] (NL (tJ ((i+1)) [0,1] ((by omega)))))))))))
theorem gD {β:Bs} (Z:RS) (Y:RL) (hR:bS β Z Y) (hB:RC Z) (d:Nat) (hd:d<Z.ns.length) (name:ByteArray) :
 Spec Tryz.prog β 61 #[.agg ⟨rV Z Y⟩,vI (((d:Nat):Int)),.string name] [] (λv l=>v=vI (aP Z.ns d name)/\l=[]):=by
 refine SE Tryz.func61 Tryz.ntmps61 (λR=>SR (jB 2 [3] (λb5=>.blk b5 (rV Z Y) 42) (λb5=>NZ (jK 1 [7] [] (NN (ah.block (lJ (λ(j:Nat)=>(j<=(nd Z.ns d).af.length)/\(∀q,q<j->¬(en (nd Z.ns d).af q).name=name)) (λ(j:Nat)=>(nd Z.ns d).af.length-j) (λ(j:Nat)=>[(1,vI ↑d),(2,.string name),(3,vP b5),(7,vI ↑j)]) (λ(j:Nat)=>[.abs R,.blk b5 (rV Z Y) 42]) 0 [0,1] (⟨Nat.zero_le _,λq hq=>absurd hq (Nat.not_lt_zero q)⟩) ?_)))))))
 rintro j ⟨hj,hno⟩
 have hrw:=hB.toRB.row hd
 refine SQ (jK 10 [17] [(3,a_ 1 b5),(5,x_ d Z.ns.length (av.hd hR.n (i:=d) (by omega))),(7,r_ (av.rd hR.n (i:=d) (by omega) (j:=9) rfl))] (NN (cP ((((j:Nat):Int):Int)<((((nd Z.ns d).af.length:Nat):Int):Int)) (λBr=>KX (ah.seq (ah.block (SR (jK 13 [32] [(2,a_ 1 b5),(4,x_ d Z.ns.length (av.hd hR.n (i:=d) (by omega))),(6,r_ (av.rd hR.n (i:=d) (by omega) (j:=9) rfl)),(8,x_ j ((nd Z.ns d).af.length) (bp.hd (hR.n.af d (by omega)) (i:=j) (by omega))),(10,r_ (bp.rd (hR.n.af d (by omega)) (i:=j) (by omega) (j:=0) rfl)),(12,w_ (.bool (decide (((en (nd Z.ns d).af j).name:ByteArray)=name))) (nZ _ _))] (NN (cP (((en (nd Z.ns d).af j).name:ByteArray)=name) (λo8=>ah.seq (jM [0,1,2,3,4,5,6,7,8,9,10,11,12,513,514] [1] (jG 13 [34,45] [(1,a_ 0 b5),(4,a_ 0 b5),(6,x_ d Z.ns.length (av.hd hR.n (i:=d) (by omega))),(8,r_ (av.rd hR.n (i:=d) (by omega) (j:=9) rfl)),(10,x_ j ((nd Z.ns d).af.length) (bp.hd (hR.n.af d (by omega)) (i:=j) (by omega))),(12,r_ (bp.rd (hR.n.af d (by omega)) (i:=j) (by omega) (j:=1) rfl))] (kL [1] [] (zw Y.A Y.c Z.ns Y.L hR.n hB.rise (by have:=hB.ns;omega) (en (nd Z.ns d).af j).id) ?_ (by rintro _ _ ⟨rfl,rfl⟩;kernel_rfl))))) (λo8=>KX (ah.region (jK 3 [7] [(1,wJ ((j:Int)+1) (↑(j+1)))] (NL (tJ ((j+1)) [0,1] (⟨by omega,λq hq=>by grind⟩))))))))))))) (λBr=>XX (zR ⟨congrArg (Value.int .i64) (Qd (λq hq=>hno q (by omega))),rfl⟩)))))
 rintro _ _ ⟨rfl,rfl⟩
 exact eM.last (by kernel_rfl) (jK 1 [6] [] (NL (aj.np (NX (ah.ret (aj.dm (aj.aG (aj.aG (aj.dm (aj.aG (RT _ [0] (⟨congrArg (Value.int .i64) (Sj (by omega) o8 hno),rfl⟩))))))))))))
end
section
open Go.RowKit Go.Maps aR ak
attribute [local irreducible] ai aQ ah aj bg
theorem IK (l:List Int) (x:Int):ints l++[vI x]=ints (l++[x]):=by simp [ints]
theorem fA (q:Used Int) (x:Int×Int):(q++[x]).length=q.length+1:=List.length_append
theorem Hg {q:Used Int} {x:Int×Int} {B:Option Addr} {c:Nat} {k:Int} (h:k=x.1):HP.abs (aq 3 1 B (q.length+1) c (ints (keys q)++[vI k]))=HP.abs (aq 3 1 B (q++[x]).length c (ints (keys (q++[x])))):=by
 rw [Iy,←IK,fA,h]
theorem Hj {q:Used Int} {x:Int×Int} {B:Option Addr} {c:Nat} {k:Int} (h:k=x.2):HP.abs (aq 3 1 B (q.length+1) c (ints (fN q)++[vI k]))=HP.abs (aq 3 1 B (q++[x]).length c (ints (fN (q++[x])))):=by
 rw [Vk,←IK,fA,h]
theorem jk.keep {us q:Used Int} {h v:Int} {i:Nat} {d:Bool} (hp:jk us h v i d q) (hi:i<us.length) (hk:¬h<(pr us i).1):jk us h v (i+1) d (q++[pr us i]):=by
 cases d with
 |false=>exact hp.miss hi hk
 |true=>exact hp.more hi
theorem Ca {β:Bs} (M p:Int) (A B:Option Addr) (c d:Nat) (us:Used Int) (hA:bW β A (ints (keys us))) (hl:us.length<=16777216) (h:Int) :
 Spec Tryz.prog β 122 #[.agg #[vI (M),vI (p),.slice A (us.length) (c),.slice B (us.length) (d)],vI h] [] (λv l=>v=vI (qL (keys us) h)/\l=[]):=by
 refine SE Tryz.func122 Tryz.ntmps122 (λR=>SR (jB 2 [2] (λb1=>.blk b1 [vI (M),vI (p),.slice A (us.length) (c),.slice B (us.length) (d)] 40) (λb1=>NZ (jK 1 [5] [] (NN (ah.block (lJ (λ(i:Nat)=>(i<=us.length)/\(∀j,j<i->¬(keys us).getD j 0=h)) (λ(i:Nat)=>us.length-i) (λ(i:Nat)=>[(1,vI (h)),(2,vP b1),(5,vI ↑i)]) (λ(i:Nat)=>[.abs R,.blk b1 [vI (M),vI (p),.slice A (us.length) (c),.slice B (us.length) (d)] 40]) 0 [0,1] (⟨Nat.zero_le _,λj hj=>absurd hj (Nat.not_lt_zero j)⟩) ?_)))))))
 rintro i ⟨hi,hno⟩
 exact SQ (jK 5 [10] [(2,a_ 1 b1)] (NN (cP ((((i:Nat):Int):Int)<(((us.length:Nat):Int):Int)) (λh10=>KX (ah.seq (ah.block (SR (jK 7 [19] [(1,a_ 1 b1),(3,x_ i us.length (jj.hd hA (j:=i) (by rw [gU];omega))),(4,r_ (jj.rd hA (j:=i) (by rw [gU];omega)))] (NN (cP ((((keys us).getD i 0):Int)=(h:Int)) (λIm=>zR (v:=(.int .i64 ↑i)) ⟨by grind [Sh,gU],rfl⟩) (λIm=>KX (ah.region (jK 3 [5] [(1,wJ ((i:Int)+1) (↑(i+1)))] (NL (tJ ((i+1)) [0,1] (⟨by omega,λj hj=>(Nat.lt_succ_iff_lt_or_eq.1 hj).elim (hno j) (λe=>e ▸ Im)⟩))))))))))))) (λh10=>XX (zR (v:=(.int .i64 (-1))) ⟨by grind [Le,gU],rfl⟩)))))
theorem Vp {β:Bs} (M p:Int) (A B:Option Addr) (c d:Nat) (us:Used Int) (x:Int) (hf:M<=(us.length:Int)) :
 Spec Tryz.prog β 123 #[.agg #[vI (M),vI (p),.slice A (us.length) (c),.slice B (us.length) (d)],vI x] [] (λv l=>v=.tuple #[.agg #[vI (M),vI (p),.slice A (us.length) (c),.slice B (us.length) (d)],vI 0,vI 130]/\l=[]):=by
 exact SE Tryz.func123 Tryz.ntmps123 (λR=>SR (jB 1 [2] (λb2=>.blk b2 [vI (M),vI (p),.slice A (us.length) (c),.slice B (us.length) (d)] 40) (λb2=>jB 3 [4] (λb3=>.blk b3 [vI 0,vI 0,.slice none (0) (0),.slice none (0) (0)] 40) (λb3=>NZ (jK 6 [16] [(1,a_ 1 b2),(4,a_ 1 b2)] (NN (cP ((((us.length:Nat):Int):Int)>=(M:Int)) (λog=>SR (jC 4 [5,6] [(0,A_ 1 b2 4),(1,A_ 2 b3 4)] [(2,[(0,vI (M)),(1,vI (p)),(2,.slice A (us.length) (c)),(3,.slice B (us.length) (d))])] (eS [A_ 2 b3 4] ⟨rfl,rfl⟩))) (λog=>absurd og (by omega)))))))))
theorem Yn {β:Bs} (M p:Int) (A B:Option Addr) (c d:Nat) (us:Used Int) (hA:bW β A (ints (keys us))) (hB:bW β B (ints (fN us))) (hl:us.length<=16777216) (hr:ak.bK (keys us)) (hp:∀z∈keys us,1<=z) (x:Int) (hf:(us.length:Int)<M) :
 Spec Tryz.prog β 123 #[.agg #[vI (M),vI (p),.slice A (us.length) (c),.slice B (us.length) (d)],vI x] [] (λv l=>∃A' c' B' d',v=.tuple #[.agg #[vI (M),vI (max p ((us.length:Int)+1)),.slice A' (ins (ak.least us) x us).length c',.slice B' (ins (ak.least us) x us).length d'],vI (ak.least us),vI 0]/\l=[.abs (aq 3 1 A' (ins (ak.least us) x us).length c' (ints (keys (ins (ak.least us) x us)))),.abs (aq 3 1 B' (ins (ak.least us) x us).length d' (ints (fN (ins (ak.least us) x us))))]):=by
 have hls:=Qb hr hp
 have hle:=least_le us
 refine SE Tryz.func123 Tryz.ntmps123 (λR=>SR (jB 1 [2] (λb4=>.blk b4 [vI (M),vI (p),.slice A (us.length) (c),.slice B (us.length) (d)] 40) (λb4=>jB 3 [4] (λb5=>.blk b5 [vI 0,vI 0,.slice none (0) (0),.slice none (0) (0)] 40) (λb5=>NZ (jK 6 [16] [(1,a_ 1 b4),(4,a_ 1 b4)] (NN (cP ((((us.length:Nat):Int):Int)>=(M:Int)) (λog=>absurd og (by omega)) (λog=>KX (SR (jK 1 [7] [] (NN (ah.seq (ah.block (lJ (λ(g:Int)=>(1<=g)/\(g<=ak.least us)) (λ(g:Int)=>(ak.least us+1-g).toNat) (λ(g:Int)=>[(1,vI (x)),(2,vP b4),(4,vP b5),(7,vI (g))]) (λ(g:Int)=>[.abs R,.blk b4 [vI (M),vI (p),.slice A (us.length) (c),.slice B (us.length) (d)] 40,.blk b5 [vI 0,vI 0,.slice none (0) (0),.slice none (0) (0)] 40]) 1 [0,1,2] (⟨by omega,hls.1⟩) ?_))))))))))))))
 rintro g ⟨hg1,hg2⟩
 refine SQ (jK 2 [18,19] [(0,A_ 1 b4 4)] (gE [] (Ca M p A B c d us hA hl g) (jK 1 [21] [] (NN (cP (((qL (keys us) g):Int)>=(0:Int)) (λpz=>KX (ah.block (ah.region (jK 3 [7] [(1,wJ (g+1) (g+1))] (NL (aj.kJ (tJ ((g+1)) [0,1,2] (⟨by omega,by grind [keys,Oz]⟩)))))))) (λpz=>XX (SR (sl 7 (.int .i64 (g)) (.int .i64 ((ak.least us))) (WB (by rcases Int.lt_or_le g (ak.least us) with h0|h0;exact absurd (Oz.2 (hls.2.2 g (by omega) h0)) pz;omega)) (jN 7 [8] (λb6=>[(1,a_ 1 b4),(3,a_ 1 b4),(6,A_ 3 b6 4)]) (λ_=>[]) (λb6=>.blk b6 [vI (M),vI (p),.slice none (0) (0),.slice none (0) (0)] 40) (λb6=>NS (ai.mem (λw hS=>(hS.kO (e:=3) (size:=1)).kO (e:=3) (size:=1)) (jK 1 [9] [] (NZ (jK 1 [10] [] (NN (ah.block (lJ (λ(i,dn,q,Ah,ch,Av,cv)=>(i<=us.length)/\(jk us (ak.least us) x i dn q)) (λ(i,dn,q,Ah,ch,Av,cv)=>us.length-i) (λ(i,dn,q,Ah,ch,Av,cv)=>[(1,vI (x)),(2,vP b4),(4,vP b5),(7,vI ((ak.least us))),(8,vP b6),(9,.bool dn),(10,vI ↑i)]) (λ(i,dn,q,Ah,ch,Av,cv)=>[.blk b4 [vI (M),vI (p),.slice A (us.length) (c),.slice B (us.length) (d)] 40,.blk b6 [vI (M),vI (p),.slice Ah (q.length) (ch),.slice Av (q.length) (cv)] 40,.abs (aq 3 1 Ah q.length ch (ints (keys q))),.abs (aq 3 1 Av q.length cv (ints (fN q))),.blk b5 [vI 0,vI 0,.slice none (0) (0),.slice none (0) (0)] 40,.abs R]) (0,false,[],none,0,none,0) [1,3,4,5,2,0] (⟨Nat.zero_le _,jk.zero⟩) ?_)))))))))))))))))
 rintro⟨i,dn,q,Ah,ch,Av,cv⟩ ⟨hi,hpt⟩
 refine SQ (jK 5 [33] [(2,a_ 0 b4)] (NN (cP ((((i:Nat):Int):Int)<(((us.length:Nat):Int):Int)) (λIl=>?_) (λIl=>?_))))
 ·refine KX (ah.seq (ah.block (ah.seq (SR ?_))))
  have hpi:=vO (us:=us) (i:=i) (by omega)
  have sZ:q.length<=i+1:=by have:=hpt.len;cases dn<;>simp at this<;>omega
  refine jK 8 [43] [(1,a_ 0 b4),(3,x_ i us.length (jj.hd hA (j:=i) (by rw [gU];omega))),(4,r_ (jj.rd hA (j:=i) (by rw [gU];omega)))] (sP 43 ((((keys us).getD i 0):Int)>((ak.least us):Int)) (λFB=>?_) (λFB=>?_))
  ·refine jK 3 [46] [] (NN (ah.cond (b:=(!dn)) (λ_=>by kernel_rfl) (λh46=>?_) (λh46=>?_)))
   ·refine SR (jN 4 [48,50] (λb7=>[(1,a_ 1 b6)]) (λ_=>[]) (λb7=>.blk b7 [vI ((ak.least us))] 3) (λb7=>kH 2 38 (some ⟨b7,0,none⟩) 1 1 [vI ((ak.least us))] rfl (dI (j:=6) rfl) (λA8 c9=>ai.bL 2 rfl (Hg (x:=(ak.least us,x)) rfl) (sl 51 (.slice A8 (q.length+1) (c9)) (.slice A8 ((q++[(ak.least us,x)]).length) (c9)) (by rw [fA q (ak.least us,x)]) (jC 2 [] [(1,a_ 1 b6)] [(1,[(2,.slice A8 ((q++[(ak.least us,x)]).length) (c9))])] (NS (jN 4 [54,56] (λb10=>[(1,a_ 1 b6)]) (λ_=>[]) (λb10=>.blk b10 [vI (x)] 3) (λb10=>kH 3 38 (some ⟨b10,0,none⟩) 1 1 [vI (x)] rfl (dI (j:=7) rfl) (λDF c12=>ai.bL 3 rfl (Hj (x:=(ak.least us,x)) rfl) (sl 57 (.slice DF (q.length+1) (c12)) (.slice DF ((q++[(ak.least us,x)]).length) (c12)) (by rw [fA q (ak.least us,x)]) (jC 2 [] [(1,a_ 1 b6)] [(1,[(3,.slice DF ((q++[(ak.least us,x)]).length) (c12))])] (NN (ah.region (jK 1 [9] [] (NN (ah.seq (rM (List.range 11) 7 [0,1,4,5,6,7] (jR 7 [1,2,4,7,8,9,10,60,65] [(1,a_ 1 b6),(3,a_ 0 b4),(5,x_ i us.length (jj.hd hA (j:=i) (by rw [gU];omega))),(6,r_ (jj.rd hA (j:=i) (by rw [gU];omega)))] (mN [0,1,4,5,6,7] (λb13=>[(66,.slice (some ⟨b13,0,none⟩) (1) (1))]) (λ_=>[]) (λb13=>.blk b13 [vI (((keys us).getD i 0))] 3) (λb13=>bg.cut (ι:=(Option Addr)×Nat) (fr':=λ((AR,c15):(Option Addr)×Nat)=>[(1,vI (x)),(2,vP b4),(4,vP b5),(7,vI (ak.least us)),(8,vP b6),(9,.bool true),(10,vI ↑i),(67,.slice AR (((q++[(ak.least us,x)])++[(pr us i)]).length) (c15))]) (hp':=λ((AR,c15):(Option Addr)×Nat)=>[.blk b4 [vI (M),vI (p),.slice A (us.length) (c),.slice B (us.length) (d)] 40,.blk b6 [vI (M),vI (p),.slice A8 ((q++[(ak.least us,x)]).length) (c9),.slice DF ((q++[(ak.least us,x)]).length) (c12)] 40,.abs (aq 3 1 AR (((q++[(ak.least us,x)])++[(pr us i)]).length) c15 (ints (keys ((q++[(ak.least us,x)])++[(pr us i)])))),.abs (aq 3 1 DF ((q++[(ak.least us,x)]).length) c12 (ints (fN (q++[(ak.least us,x)])))),.blk b5 [vI 0,vI 0,.slice none (0) (0),.slice none (0) (0)] 40,.abs R,.blk b7 [vI ((ak.least us))] 3,.blk b10 [vI (x)] 3,.blk b13 [vI (((keys us).getD i 0))] 3]) [0,1,4,5,6,7] rfl rfl ?_ rfl (λ_=>by kernel_rfl) ?_)))))))))))) (n:=q.length) (hb:=by have:=sZ;have:=fA q (ak.least us,x);omega))))))) (n:=q.length) (hb:=by have:=sZ;have:=fA q (ak.least us,x);omega)))
    ·exact kH 2 38 (some ⟨b13,0,none⟩) 1 1 [vI (((keys us).getD i 0))] rfl (dI (j:=8) rfl) (λAR c15=>ai.bL 2 rfl (Hg (x:=(pr us i)) hpi.1) (sl 67 (.slice AR (((q++[(ak.least us,x)]).length)+1) (c15)) (.slice AR (((q++[(ak.least us,x)])++[(pr us i)]).length) (c15)) (by rw [fA (q++[(ak.least us,x)]) (pr us i)]) (NL (MD (AR,c15) [1,2,4,7,8,9,10,67] [0,1,2,3,4,5,6,7,8])))) (n:=(q++[(ak.least us,x)]).length) (hb:=by have:=sZ;have:=fA q (ak.least us,x);omega)
    rintro⟨AR,c15⟩
    refine nC [0,1,4,5,6,7] [68] [] [] (bg.last rfl rfl (jC 1 [] [(0,a_ 1 b6)] [(1,[(2,.slice AR (((q++[(ak.least us,x)])++[(pr us i)]).length) (c15))])] (NL (aj.np (NX (rM (List.range 11) 7 [0,1,4,5,6,7,8] (jR 7 [1,2,4,7,8,9,10,70,75] [(1,a_ 1 b6),(3,a_ 0 b4),(5,x_ i us.length (jj.hd hB (j:=i) (by rw [jL];omega))),(6,r_ (jj.rd hB (j:=i) (by rw [jL];omega)))] (mN [0,1,4,5,6,7,8] (λb16=>[(76,.slice (some ⟨b16,0,none⟩) (1) (1))]) (λ_=>[]) (λb16=>.blk b16 [vI (((fN us).getD i 0))] 3) (λb16=>bg.cut (ι:=(Option Addr)×Nat) (fr':=λ((lF,c18):(Option Addr)×Nat)=>[(1,vI (x)),(2,vP b4),(4,vP b5),(7,vI (ak.least us)),(8,vP b6),(9,.bool true),(10,vI ↑i),(77,.slice lF (((q++[(ak.least us,x)])++[(pr us i)]).length) (c18))]) (hp':=λ((lF,c18):(Option Addr)×Nat)=>[.blk b4 [vI (M),vI (p),.slice A (us.length) (c),.slice B (us.length) (d)] 40,.blk b6 [vI (M),vI (p),.slice AR (((q++[(ak.least us,x)])++[(pr us i)]).length) (c15),.slice DF ((q++[(ak.least us,x)]).length) (c12)] 40,.abs (aq 3 1 AR (((q++[(ak.least us,x)])++[(pr us i)]).length) c15 (ints (keys ((q++[(ak.least us,x)])++[(pr us i)])))),.abs (aq 3 1 lF (((q++[(ak.least us,x)])++[(pr us i)]).length) c18 (ints (fN ((q++[(ak.least us,x)])++[(pr us i)])))),.blk b5 [vI 0,vI 0,.slice none (0) (0),.slice none (0) (0)] 40,.abs R,.blk b7 [vI ((ak.least us))] 3,.blk b10 [vI (x)] 3,.blk b13 [vI (((keys us).getD i 0))] 3,.blk b16 [vI (((fN us).getD i 0))] 3]) [0,1,4,5,6,7,8] rfl rfl ?_ rfl (λ_=>by kernel_rfl) ?_)))))))))
    ·exact kH 3 38 (some ⟨b16,0,none⟩) 1 1 [vI (((fN us).getD i 0))] rfl (dI (j:=9) rfl) (λlF c18=>ai.bL 3 rfl (Hj (x:=(pr us i)) hpi.2) (sl 77 (.slice lF (((q++[(ak.least us,x)]).length)+1) (c18)) (.slice lF (((q++[(ak.least us,x)])++[(pr us i)]).length) (c18)) (by rw [fA (q++[(ak.least us,x)]) (pr us i)]) (NL (MD (lF,c18) [1,2,4,7,8,9,10,77] [0,1,2,3,4,5,6,7,8,9])))) (n:=(q++[(ak.least us,x)]).length) (hb:=by have:=sZ;have:=fA q (ak.least us,x);omega)
    rintro⟨lF,c18⟩
    exact nC [0,1,4,5,6,7,8] [78] [] [] (bg.last rfl rfl (jC 1 [] [(0,a_ 1 b6)] [(1,[(3,.slice lF (((q++[(ak.least us,x)])++[(pr us i)]).length) (c18))])] (NL (aj.np (BX (ah.region (jK 3 [10] [(1,wJ ((i:Int)+1) (↑(i+1)))] (NL (tJ ((i+1),true,((q++[(ak.least us,x)])++[(pr us i)]),AR,c15,lF,c18) [0,1,2,3,4,5] (⟨by omega,jk.hit ((show dn=false by simpa using h46) ▸ hpt) (by omega) (by rw [←hpi.1];omega)⟩))))))))))
   refine KX (ah.seq (rM (List.range 11) 7 [0,1,4,5] (jR 7 [1,2,4,7,8,9,10,60,65] [(1,a_ 1 b6),(3,a_ 0 b4),(5,x_ i us.length (jj.hd hA (j:=i) (by rw [gU];omega))),(6,r_ (jj.rd hA (j:=i) (by rw [gU];omega)))] (mN [0,1,4,5] (λb19=>[(66,.slice (some ⟨b19,0,none⟩) (1) (1))]) (λ_=>[]) (λb19=>.blk b19 [vI (((keys us).getD i 0))] 3) (λb19=>bg.cut (ι:=(Option Addr)×Nat) (fr':=λ((kR,kS):(Option Addr)×Nat)=>[(1,vI (x)),(2,vP b4),(4,vP b5),(7,vI (ak.least us)),(8,vP b6),(9,.bool dn),(10,vI ↑i),(67,.slice kR ((q++[(pr us i)]).length) (kS))]) (hp':=λ((kR,kS):(Option Addr)×Nat)=>[.blk b4 [vI (M),vI (p),.slice A (us.length) (c),.slice B (us.length) (d)] 40,.blk b6 [vI (M),vI (p),.slice Ah (q.length) (ch),.slice Av (q.length) (cv)] 40,.abs (aq 3 1 kR ((q++[(pr us i)]).length) kS (ints (keys (q++[(pr us i)])))),.abs (aq 3 1 Av q.length cv (ints (fN q))),.blk b5 [vI 0,vI 0,.slice none (0) (0),.slice none (0) (0)] 40,.abs R,.blk b19 [vI (((keys us).getD i 0))] 3]) [0,1,4,5] rfl rfl ?_ rfl (λ_=>by kernel_rfl) ?_)))))
   ·exact kH 2 38 (some ⟨b19,0,none⟩) 1 1 [vI (((keys us).getD i 0))] rfl (dI (j:=6) rfl) (λkR kS=>ai.bL 2 rfl (Hg (x:=(pr us i)) hpi.1) (sl 67 (.slice kR (q.length+1) (kS)) (.slice kR ((q++[(pr us i)]).length) (kS)) (by rw [fA q (pr us i)]) (NL (MD (kR,kS) [1,2,4,7,8,9,10,67] [0,1,2,3,4,5,6])))) (n:=q.length) (hb:=by have:=sZ;have:=fA q (ak.least us,x);omega)
   rintro⟨kR,kS⟩
   refine nC [0,1,4,5] [68] [] [] (bg.last rfl rfl (jC 1 [] [(0,a_ 1 b6)] [(1,[(2,.slice kR ((q++[(pr us i)]).length) (kS))])] (NL (aj.np (NX (rM (List.range 11) 7 [0,1,4,5,6] (jR 7 [1,2,4,7,8,9,10,70,75] [(1,a_ 1 b6),(3,a_ 0 b4),(5,x_ i us.length (jj.hd hB (j:=i) (by rw [jL];omega))),(6,r_ (jj.rd hB (j:=i) (by rw [jL];omega)))] (mN [0,1,4,5,6] (λjV=>[(76,.slice (some ⟨jV,0,none⟩) (1) (1))]) (λ_=>[]) (λjV=>.blk jV [vI (((fN us).getD i 0))] 3) (λjV=>bg.cut (ι:=(Option Addr)×Nat) (fr':=λ((qO,qP):(Option Addr)×Nat)=>[(1,vI (x)),(2,vP b4),(4,vP b5),(7,vI (ak.least us)),(8,vP b6),(9,.bool dn),(10,vI ↑i),(77,.slice qO ((q++[(pr us i)]).length) (qP))]) (hp':=λ((qO,qP):(Option Addr)×Nat)=>[.blk b4 [vI (M),vI (p),.slice A (us.length) (c),.slice B (us.length) (d)] 40,.blk b6 [vI (M),vI (p),.slice kR ((q++[(pr us i)]).length) (kS),.slice Av (q.length) (cv)] 40,.abs (aq 3 1 kR ((q++[(pr us i)]).length) kS (ints (keys (q++[(pr us i)])))),.abs (aq 3 1 qO ((q++[(pr us i)]).length) qP (ints (fN (q++[(pr us i)])))),.blk b5 [vI 0,vI 0,.slice none (0) (0),.slice none (0) (0)] 40,.abs R,.blk b19 [vI (((keys us).getD i 0))] 3,.blk jV [vI (((fN us).getD i 0))] 3]) [0,1,4,5,6] rfl rfl ?_ rfl (λ_=>by kernel_rfl) ?_)))))))))
   ·exact kH 3 38 (some ⟨jV,0,none⟩) 1 1 [vI (((fN us).getD i 0))] rfl (dI (j:=7) rfl) (λqO qP=>ai.bL 3 rfl (Hj (x:=(pr us i)) hpi.2) (sl 77 (.slice qO (q.length+1) (qP)) (.slice qO ((q++[(pr us i)]).length) (qP)) (by rw [fA q (pr us i)]) (NL (MD (qO,qP) [1,2,4,7,8,9,10,77] [0,1,2,3,4,5,6,7])))) (n:=q.length) (hb:=by have:=sZ;have:=fA q (ak.least us,x);omega)
   rintro⟨qO,qP⟩
   exact nC [0,1,4,5,6] [78] [] [] (bg.last rfl rfl (jC 1 [] [(0,a_ 1 b6)] [(1,[(3,.slice qO ((q++[(pr us i)]).length) (qP))])] (NL (aj.np (BX (ah.region (jK 3 [10] [(1,wJ ((i:Int)+1) (↑(i+1)))] (NL (tJ ((i+1),dn,(q++[(pr us i)]),kR,kS,qO,qP) [0,1,2,3,4,5] (⟨by omega,(show dn=true by simpa using h46) ▸ jk.more ((show dn=true by simpa using h46) ▸ hpt) (by omega)⟩))))))))))
  refine jK 3 [46] [] (NF (KX (ah.seq (rM (List.range 11) 7 [0,1,4,5] (jR 7 [1,2,4,7,8,9,10,60,65] [(1,a_ 1 b6),(3,a_ 0 b4),(5,x_ i us.length (jj.hd hA (j:=i) (by rw [gU];omega))),(6,r_ (jj.rd hA (j:=i) (by rw [gU];omega)))] (mN [0,1,4,5] (λsK=>[(66,.slice (some ⟨sK,0,none⟩) (1) (1))]) (λ_=>[]) (λsK=>.blk sK [vI (((keys us).getD i 0))] 3) (λsK=>bg.cut (ι:=(Option Addr)×Nat) (fr':=λ((ny,nB):(Option Addr)×Nat)=>[(1,vI (x)),(2,vP b4),(4,vP b5),(7,vI (ak.least us)),(8,vP b6),(9,.bool dn),(10,vI ↑i),(67,.slice ny ((q++[(pr us i)]).length) (nB))]) (hp':=λ((ny,nB):(Option Addr)×Nat)=>[.blk b4 [vI (M),vI (p),.slice A (us.length) (c),.slice B (us.length) (d)] 40,.blk b6 [vI (M),vI (p),.slice Ah (q.length) (ch),.slice Av (q.length) (cv)] 40,.abs (aq 3 1 ny ((q++[(pr us i)]).length) nB (ints (keys (q++[(pr us i)])))),.abs (aq 3 1 Av q.length cv (ints (fN q))),.blk b5 [vI 0,vI 0,.slice none (0) (0),.slice none (0) (0)] 40,.abs R,.blk sK [vI (((keys us).getD i 0))] 3]) [0,1,4,5] rfl rfl ?_ rfl (λ_=>by kernel_rfl) ?_)))))))
  ·exact kH 2 38 (some ⟨sK,0,none⟩) 1 1 [vI (((keys us).getD i 0))] rfl (dI (j:=6) rfl) (λny nB=>ai.bL 2 rfl (Hg (x:=(pr us i)) hpi.1) (sl 67 (.slice ny (q.length+1) (nB)) (.slice ny ((q++[(pr us i)]).length) (nB)) (by rw [fA q (pr us i)]) (NL (MD (ny,nB) [1,2,4,7,8,9,10,67] [0,1,2,3,4,5,6])))) (n:=q.length) (hb:=by have:=sZ;have:=fA q (ak.least us,x);omega)
  rintro⟨ny,nB⟩
  refine nC [0,1,4,5] [68] [] [] (bg.last rfl rfl (jC 1 [] [(0,a_ 1 b6)] [(1,[(2,.slice ny ((q++[(pr us i)]).length) (nB))])] (NL (aj.np (NX (rM (List.range 11) 7 [0,1,4,5,6] (jR 7 [1,2,4,7,8,9,10,70,75] [(1,a_ 1 b6),(3,a_ 0 b4),(5,x_ i us.length (jj.hd hB (j:=i) (by rw [jL];omega))),(6,r_ (jj.rd hB (j:=i) (by rw [jL];omega)))] (mN [0,1,4,5,6] (λfU=>[(76,.slice (some ⟨fU,0,none⟩) (1) (1))]) (λ_=>[]) (λfU=>.blk fU [vI (((fN us).getD i 0))] 3) (λfU=>bg.cut (ι:=(Option Addr)×Nat) (fr':=λ((wH,wK):(Option Addr)×Nat)=>[(1,vI (x)),(2,vP b4),(4,vP b5),(7,vI (ak.least us)),(8,vP b6),(9,.bool dn),(10,vI ↑i),(77,.slice wH ((q++[(pr us i)]).length) (wK))]) (hp':=λ((wH,wK):(Option Addr)×Nat)=>[.blk b4 [vI (M),vI (p),.slice A (us.length) (c),.slice B (us.length) (d)] 40,.blk b6 [vI (M),vI (p),.slice ny ((q++[(pr us i)]).length) (nB),.slice Av (q.length) (cv)] 40,.abs (aq 3 1 ny ((q++[(pr us i)]).length) nB (ints (keys (q++[(pr us i)])))),.abs (aq 3 1 wH ((q++[(pr us i)]).length) wK (ints (fN (q++[(pr us i)])))),.blk b5 [vI 0,vI 0,.slice none (0) (0),.slice none (0) (0)] 40,.abs R,.blk sK [vI (((keys us).getD i 0))] 3,.blk fU [vI (((fN us).getD i 0))] 3]) [0,1,4,5,6] rfl rfl ?_ rfl (λ_=>by kernel_rfl) ?_)))))))))
  ·exact kH 3 38 (some ⟨fU,0,none⟩) 1 1 [vI (((fN us).getD i 0))] rfl (dI (j:=7) rfl) (λwH wK=>ai.bL 3 rfl (Hj (x:=(pr us i)) hpi.2) (sl 77 (.slice wH (q.length+1) (wK)) (.slice wH ((q++[(pr us i)]).length) (wK)) (by rw [fA q (pr us i)]) (NL (MD (wH,wK) [1,2,4,7,8,9,10,77] [0,1,2,3,4,5,6,7])))) (n:=q.length) (hb:=by have:=sZ;have:=fA q (ak.least us,x);omega)
  rintro⟨wH,wK⟩
  exact nC [0,1,4,5,6] [78] [] [] (bg.last rfl rfl (jC 1 [] [(0,a_ 1 b6)] [(1,[(3,.slice wH ((q++[(pr us i)]).length) (wK))])] (NL (aj.np (BX (ah.region (jK 3 [10] [(1,wJ ((i:Int)+1) (↑(i+1)))] (NL (tJ ((i+1),dn,(q++[(pr us i)]),ny,nB,wH,wK) [0,1,2,3,4,5] (⟨by omega,hpt.keep (by omega) (by rw [←hpi.1];omega)⟩))))))))))
 refine XX (ah.seq (SR ?_))
 have hiu:i=us.length:=by omega
 subst hiu
 have sZ:q.length<=us.length+1:=by have:=hpt.len;cases dn<;>simp at this<;>omega
 refine jK 2 [80] [] (NN (ah.cond (b:=(!dn)) (λ_=>by kernel_rfl) (λSn=>?_) (λSn=>?_)))
 ·refine SR (jN 4 [82,84] (λqQ=>[(1,a_ 1 b6)]) (λ_=>[]) (λqQ=>.blk qQ [vI ((ak.least us))] 3) (λqQ=>kH 2 38 (some ⟨qQ,0,none⟩) 1 1 [vI ((ak.least us))] rfl (dI (j:=6) rfl) (λFL FN=>ai.bL 2 rfl (Hg (x:=(ak.least us,x)) rfl) (sl 85 (.slice FL (q.length+1) (FN)) (.slice FL ((q++[(ak.least us,x)]).length) (FN)) (by rw [fA q (ak.least us,x)]) (jC 2 [] [(1,a_ 1 b6)] [(1,[(2,.slice FL ((q++[(ak.least us,x)]).length) (FN))])] (NN (ah.region (jN 4 [88,90] (λsE=>[(1,a_ 1 b6)]) (λ_=>[]) (λsE=>.blk sE [vI (x)] 3) (λsE=>kH 3 38 (some ⟨sE,0,none⟩) 1 1 [vI (x)] rfl (dI (j:=7) rfl) (λFO FP=>ai.bL 3 rfl (Hj (x:=(ak.least us,x)) rfl) (sl 91 (.slice FO (q.length+1) (FP)) (.slice FO ((q++[(ak.least us,x)]).length) (FP)) (by rw [fA q (ak.least us,x)]) (jC 2 [] [(1,a_ 1 b6)] [(1,[(3,.slice FO ((q++[(ak.least us,x)]).length) (FP))])] (NZ (jK 6 [98] [(1,a_ 1 b6),(4,a_ 1 b6)] (NN (cP (((((q++[(ak.least us,x)]).length:Nat):Int):Int)>(p:Int)) (λSp=>?_) (λSp=>?_)))))))) (n:=q.length) (hb:=by have:=sZ;have:=fA q (ak.least us,x);omega)))))))) (n:=q.length) (hb:=by have:=sZ;have:=fA q (ak.least us,x);omega)))
  ·refine ah.region (jC 5 [] [(1,a_ 1 b6),(4,a_ 1 b6)] [(1,[(1,vI ↑((q++[(ak.least us,x)]).length))])] (NS (jC 5 [5,6] [(0,A_ 1 b6 4),(2,A_ 4 b5 4)] [(4,[(0,vI (M)),(1,vI ↑((q++[(ak.least us,x)]).length)),(2,.slice FL ((q++[(ak.least us,x)]).length) (FN)),(3,.slice FO ((q++[(ak.least us,x)]).length) (FP))])] (NN (ah.ret ?_)))))
   have hq:(q++[(ak.least us,x)])=ins (ak.least us) x us:=jk.last ((show dn=false by simpa using Sn) ▸ hpt)
   have ZK:((q++[(ak.least us,x)])).length=us.length+1:=by rw [hq,iU]
   skip
   exact rT (.tuple #[.agg #[vI (M),vI ↑((q++[(ak.least us,x)]).length),.slice FL ((q++[(ak.least us,x)]).length) (FN),.slice FO ((q++[(ak.least us,x)]).length) (FP)],vI ((ak.least us)),vI 0]) [A_ 4 b5 4] [2,3,5] (⟨FL,FN,FO,FP,by grind,by rw [←hq]⟩)
  refine KX (SR (jC 5 [5,6] [(0,A_ 1 b6 4),(2,A_ 4 b5 4)] [(4,[(0,vI (M)),(1,vI (p)),(2,.slice FL ((q++[(ak.least us,x)]).length) (FN)),(3,.slice FO ((q++[(ak.least us,x)]).length) (FP))])] (NN (ah.ret ?_))))
  have hq:(q++[(ak.least us,x)])=ins (ak.least us) x us:=jk.last ((show dn=false by simpa using Sn) ▸ hpt)
  have ZK:((q++[(ak.least us,x)])).length=us.length+1:=by rw [hq,iU]
  skip
  exact rT (.tuple #[.agg #[vI (M),vI (p),.slice FL ((q++[(ak.least us,x)]).length) (FN),.slice FO ((q++[(ak.least us,x)]).length) (FP)],vI ((ak.least us)),vI 0]) [A_ 4 b5 4] [2,3,5] (⟨FL,FN,FO,FP,by grind,by rw [←hq]⟩)
 refine KX (SQ (jK 6 [98] [(1,a_ 1 b6),(4,a_ 1 b6)] (NN (cP ((((q.length:Nat):Int):Int)>(p:Int)) (λSp=>?_) (λSp=>?_)))))
 ·refine ah.region (jC 5 [] [(1,a_ 1 b6),(4,a_ 1 b6)] [(1,[(1,vI ↑q.length)])] (NS (jC 5 [5,6] [(0,A_ 1 b6 4),(2,A_ 4 b5 4)] [(4,[(0,vI (M)),(1,vI ↑q.length),(2,.slice Ah (q.length) (ch)),(3,.slice Av (q.length) (cv))])] (NN (ah.ret ?_)))))
  have hq:q=ins (ak.least us) x us:=jk.end_ ((show dn=true by simpa using Sn) ▸ hpt)
  have ZK:(q).length=us.length+1:=by rw [hq,iU]
  skip
  exact rT (.tuple #[.agg #[vI (M),vI ↑q.length,.slice Ah (q.length) (ch),.slice Av (q.length) (cv)],vI ((ak.least us)),vI 0]) [A_ 4 b5 4] [2,3,5] (⟨Ah,ch,Av,cv,by grind,by rw [←hq]⟩)
 refine KX (SR (jC 5 [5,6] [(0,A_ 1 b6 4),(2,A_ 4 b5 4)] [(4,[(0,vI (M)),(1,vI (p)),(2,.slice Ah (q.length) (ch)),(3,.slice Av (q.length) (cv))])] (NN (ah.ret ?_))))
 have hq:q=ins (ak.least us) x us:=jk.end_ ((show dn=true by simpa using Sn) ▸ hpt)
 have ZK:(q).length=us.length+1:=by rw [hq,iU]
 skip
 exact rT (.tuple #[.agg #[vI (M),vI (p),.slice Ah (q.length) (ch),.slice Av (q.length) (cv)],vI ((ak.least us)),vI 0]) [A_ 4 b5 4] [2,3,5] (⟨Ah,ch,Av,cv,by grind,by rw [←hq]⟩)
theorem Vq {β:Bs} (M p:Int) (A B:Option Addr) (c d:Nat) (us:Used Int) (hA:bW β A (ints (keys us))) (hB:bW β B (ints (fN us))) (hl:us.length<=16777216) (h:Int) (hr:ak.bK (keys us)) (k:Nat) (hk:k<us.length) (hix:qL (keys us) h=(k:Int)) (hx:(keys us).getD k 0=h) :
 Spec Tryz.prog β 83 #[.agg #[vI (M),vI (p),.slice A (us.length) (c),.slice B (us.length) (d)],vI h] [] (λv l=>∃A' c' B' d',v=.tuple #[.agg #[vI (M),vI (p),.slice A' (del h us).length c',.slice B' (del h us).length d'],vI ((fN us).getD k 0),vI 0]/\l=[.abs (aq 3 1 A' (del h us).length c' (ints (keys (del h us)))),.abs (aq 3 1 B' (del h us).length d' (ints (fN (del h us))))]):=by
 have hkp:=vO hk
 refine SE Tryz.func83 Tryz.ntmps83 (λR=>SR (jB 1 [2] (λwL=>.blk wL [vI (M),vI (p),.slice A (us.length) (c),.slice B (us.length) (d)] 40) (λwL=>jB 3 [4] (λwM=>.blk wM [vI 0,vI 0,.slice none (0) (0),.slice none (0) (0)] 40) (λwM=>NS (jK 2 [10,11] [(0,A_ 1 wL 4)] (gE [] (Ca M p A B c d us hA hl h) (sl 12 (.int .i64 ((qL (keys us) h))) (.int .i64 ↑k) (WB hix) (jK 1 [7] [] (NZ (jK 2 [14] [(1,wF (((k:Int):Int)<(0:Int)))] (NF (KX (SR (jN 7 [8] (λwN=>[(1,a_ 1 wL),(3,a_ 1 wL),(6,A_ 3 wN 4)]) (λ_=>[]) (λwN=>.blk wN [vI (M),vI (p),.slice none (0) (0),.slice none (0) (0)] 40) (λwN=>NZ (ai.mem (λw hS=>(hS.kO (e:=3) (size:=1)).kO (e:=3) (size:=1)) (jK 1 [9] [] (NN (ah.block (lJ (λ(i,q,Ah,ch,Av,cv)=>(i<=us.length)/\(q=del h (us.take i))/\(q.length<=i)) (λ(i,q,Ah,ch,Av,cv)=>us.length-i) (λ(i,q,Ah,ch,Av,cv)=>[(2,vP wL),(4,vP wM),(7,vI ↑k),(8,vP wN),(9,vI ↑i)]) (λ(i,q,Ah,ch,Av,cv)=>[.blk wL [vI (M),vI (p),.slice A (us.length) (c),.slice B (us.length) (d)] 40,.blk wN [vI (M),vI (p),.slice Ah (q.length) (ch),.slice Av (q.length) (cv)] 40,.abs (aq 3 1 Ah q.length ch (ints (keys q))),.abs (aq 3 1 Av q.length cv (ints (fN q))),.blk wM [vI 0,vI 0,.slice none (0) (0),.slice none (0) (0)] 40,.abs R]) (0,[],none,0,none,0) [1,3,4,5,2,0] (⟨Nat.zero_le _,by rw [List.take_zero];rfl,Nat.le_refl _⟩) ?_))))))))))))))))))))
 rintro⟨i,q,Ah,ch,Av,cv⟩ ⟨hi,hq,sZ⟩
 refine SQ (jK 5 [25] [(2,a_ 0 wL)] (NN (cP ((((i:Nat):Int):Int)<(((us.length:Nat):Int):Int)) (λoC=>?_) (λoC=>?_))))
 ·refine KX (ah.seq (ah.block (SR ?_)))
  have hpi:=vO (us:=us) (i:=i) (by omega)
  refine jK 3 [30] [] (NN (cN ((((i:Nat):Int):Int)=(((k:Nat):Int):Int)) (λmo=>ah.seq (rM (List.range 11) 7 [0,1,4,5] (jR 7 [2,4,7,8,9,32,37] [(1,a_ 1 wN),(3,a_ 0 wL),(5,x_ i us.length (jj.hd hA (j:=i) (by rw [gU];omega))),(6,r_ (jj.rd hA (j:=i) (by rw [gU];omega)))] (mN [0,1,4,5] (λLn=>[(38,.slice (some ⟨Ln,0,none⟩) (1) (1))]) (λ_=>[]) (λLn=>.blk Ln [vI (((keys us).getD i 0))] 3) (λLn=>bg.cut (ι:=(Option Addr)×Nat) (fr':=λ((AU,AV):(Option Addr)×Nat)=>[(2,vP wL),(4,vP wM),(7,vI ↑k),(8,vP wN),(9,vI ↑i),(39,.slice AU ((q++[(pr us i)]).length) (AV))]) (hp':=λ((AU,AV):(Option Addr)×Nat)=>[.blk wL [vI (M),vI (p),.slice A (us.length) (c),.slice B (us.length) (d)] 40,.blk wN [vI (M),vI (p),.slice Ah (q.length) (ch),.slice Av (q.length) (cv)] 40,.abs (aq 3 1 AU ((q++[(pr us i)]).length) AV (ints (keys (q++[(pr us i)])))),.abs (aq 3 1 Av q.length cv (ints (fN q))),.blk wM [vI 0,vI 0,.slice none (0) (0),.slice none (0) (0)] 40,.abs R,.blk Ln [vI (((keys us).getD i 0))] 3]) [0,1,4,5] rfl rfl ?_ rfl (λ_=>by kernel_rfl) ?_))))) (λmo=>KX (ah.region (jK 3 [9] [(1,wJ ((i:Int)+1) (↑(i+1)))] (NL (tJ ((i+1),q,Ah,ch,Av,cv) [0,1,2,3,4,5] (⟨by omega,by grind [Lh],by grind⟩))))))))
  ·exact kH 2 38 (some ⟨Ln,0,none⟩) 1 1 [vI (((keys us).getD i 0))] rfl (dI (j:=6) rfl) (λAU AV=>ai.bL 2 rfl (Hg (x:=(pr us i)) hpi.1) (sl 39 (.slice AU (q.length+1) (AV)) (.slice AU ((q++[(pr us i)]).length) (AV)) (by rw [fA q (pr us i)]) (NL (MD (AU,AV) [2,4,7,8,9,39] [0,1,2,3,4,5,6])))) (n:=q.length) (hb:=by have:=sZ;have:=sZ;omega)
  rintro⟨AU,AV⟩
  refine nC [0,1,4,5] [40] [] [] (bg.last rfl rfl (jC 1 [] [(0,a_ 1 wN)] [(1,[(2,.slice AU ((q++[(pr us i)]).length) (AV))])] (NL (aj.np (NX (rM (List.range 11) 7 [0,1,4,5,6] (jR 7 [2,4,7,8,9,42,47] [(1,a_ 1 wN),(3,a_ 0 wL),(5,x_ i us.length (jj.hd hB (j:=i) (by rw [jL];omega))),(6,r_ (jj.rd hB (j:=i) (by rw [jL];omega)))] (mN [0,1,4,5,6] (λOA=>[(48,.slice (some ⟨OA,0,none⟩) (1) (1))]) (λ_=>[]) (λOA=>.blk OA [vI (((fN us).getD i 0))] 3) (λOA=>bg.cut (ι:=(Option Addr)×Nat) (fr':=λ((DG,DH):(Option Addr)×Nat)=>[(2,vP wL),(4,vP wM),(7,vI ↑k),(8,vP wN),(9,vI ↑i),(49,.slice DG ((q++[(pr us i)]).length) (DH))]) (hp':=λ((DG,DH):(Option Addr)×Nat)=>[.blk wL [vI (M),vI (p),.slice A (us.length) (c),.slice B (us.length) (d)] 40,.blk wN [vI (M),vI (p),.slice AU ((q++[(pr us i)]).length) (AV),.slice Av (q.length) (cv)] 40,.abs (aq 3 1 AU ((q++[(pr us i)]).length) AV (ints (keys (q++[(pr us i)])))),.abs (aq 3 1 DG ((q++[(pr us i)]).length) DH (ints (fN (q++[(pr us i)])))),.blk wM [vI 0,vI 0,.slice none (0) (0),.slice none (0) (0)] 40,.abs R,.blk Ln [vI (((keys us).getD i 0))] 3,.blk OA [vI (((fN us).getD i 0))] 3]) [0,1,4,5,6] rfl rfl ?_ rfl (λ_=>by kernel_rfl) ?_)))))))))
  ·exact kH 3 38 (some ⟨OA,0,none⟩) 1 1 [vI (((fN us).getD i 0))] rfl (dI (j:=7) rfl) (λDG DH=>ai.bL 3 rfl (Hj (x:=(pr us i)) hpi.2) (sl 49 (.slice DG (q.length+1) (DH)) (.slice DG ((q++[(pr us i)]).length) (DH)) (by rw [fA q (pr us i)]) (NL (MD (DG,DH) [2,4,7,8,9,49] [0,1,2,3,4,5,6,7])))) (n:=q.length) (hb:=by have:=sZ;have:=sZ;omega)
  rintro⟨DG,DH⟩
  exact nC [0,1,4,5,6] [50] [] [] (bg.last rfl rfl (jC 1 [] [(0,a_ 1 wN)] [(1,[(3,.slice DG ((q++[(pr us i)]).length) (DH))])] (NL (aj.np (BX (ah.region (jK 3 [9] [(1,wJ ((i:Int)+1) (↑(i+1)))] (NL (tJ ((i+1),(q++[(pr us i)]),AU,AV,DG,DH) [0,1,2,3,4,5] (⟨by omega,(by grind [Lh,FI]),by grind⟩))))))))))
 refine XX (ah.seq (rM (List.range 9) 6 [0,1] (jR 6 [4,51,56] [(0,A_ 1 wN 4),(2,a_ 0 wL),(4,x_ k us.length (jj.hd hB (j:=k) (by rw [jL];omega))),(5,r_ (jj.rd hB (j:=k) (by rw [jL];omega)))] (nC [0,1] [] [(0,A_ 4 wM 4)] [(4,[(0,vI (M)),(1,vI (p)),(2,.slice Ah (q.length) (ch)),(3,.slice Av (q.length) (cv))])] (nC [0,1] [5] [] [] (bg.last rfl rfl (jK 1 [6] [] (NL (aj.np (NX (ah.ret ?_)))))))))))
 have OB:q=del h us:=by grind
 exact rT _ [A_ 4 wM 4] [2,3,5] (⟨Ah,ch,Av,cv,by rw [←OB],by rw [←OB]⟩)
theorem Qf {β:Bs} (M p:Int) (A B:Option Addr) (c d:Nat) (us:Used Int) (hA:bW β A (ints (keys us))) (hl:us.length<=16777216) (h:Int) (hix:qL (keys us) h = -1) :
 Spec Tryz.prog β 83 #[.agg #[vI (M),vI (p),.slice A (us.length) (c),.slice B (us.length) (d)],vI h] [] (λv l=>v=.tuple #[.agg #[vI (M),vI (p),.slice A (us.length) (c),.slice B (us.length) (d)],vI 0,vI 131]/\l=[]):=by
 exact SE Tryz.func83 Tryz.ntmps83 (λR=>SR (jB 1 [2] (λqR=>.blk qR [vI (M),vI (p),.slice A (us.length) (c),.slice B (us.length) (d)] 40) (λqR=>jB 3 [4] (λuI=>.blk uI [vI 0,vI 0,.slice none (0) (0),.slice none (0) (0)] 40) (λuI=>NS (jK 2 [10,11] [(0,A_ 1 qR 4)] (gE [] (Ca M p A B c d us hA hl h) (jK 1 [7] [] (NZ (jK 2 [14] [] (NN (cP (((qL (keys us) h):Int)<(0:Int)) (λjg=>SR (jC 4 [5,6] [(0,A_ 1 qR 4),(1,A_ 2 uI 4)] [(2,[(0,vI (M)),(1,vI (p)),(2,.slice A (us.length) (c)),(3,.slice B (us.length) (d))])] (eS [A_ 2 uI 4] ⟨rfl,rfl⟩))) (λjg=>absurd jg (by omega)))))))))))))
end
section
open Go.RowKit Go.Maps aR ak
section p
variable {R:RS} {h need e id:Int} {name:ByteArray} {d k to:Nat} {c:aD} {n:au}
def exV:Except Int Nat->Value
 |.error e=>.tuple #[.int .i64 0,.int .i64 e]
 |.ok k=>.tuple #[.int .i64 k,.int .i64 0]
theorem Sq {us:Used Int} (hr:ak.bK (keys us)) {h:Int} (hm:h∈keys us):∃k:Nat,qL (keys us) h=(k:Int)/\k<us.length/\(keys us).getD k 0=h/\ak.get us h=some ((fN us).getD k 0):=by
 grind [Ox,gU,vO,ZI]
theorem Hl (hm:h∉keys R.us):qL (keys R.us) h = -1/\eV R h=.error 131:=⟨Oy hm,by unfold eV;rw [get_none.2 hm]⟩
theorem OC (hC:RC R) (hm:h∈keys R.us):∃k:Nat,qL (keys R.us) h=(k:Int)/\k<R.us.length/\eV R h=.ok (tgt R.ns ((fN R.us).getD k 0))/\dV R.ns ((fN R.us).getD k 0)=(tgt R.ns ((fN R.us).getD k 0):Int):=by
 obtain⟨k,h1,h2,h3,h4⟩:=Sq hC.usr hm
 exact⟨k,h1,h2,by unfold eV;rw [h4],(jY (hC.hand _ (xL (by rw [jL];exact h2)))).2.2⟩
theorem qw (hC:RC R) (h:Int):eV R h=.error 131\/∃k,eV R h=.ok k/\k<R.ns.length:=by
 by_cases hm:h∈keys R.us
 ·obtain⟨k,_,h2,h3,_⟩:=OC hC hm
  exact .inr ⟨_,h3,(jY (hC.hand _ (xL (by rw [jL];exact h2)))).1⟩
 exact .inl (Hl hm).2
theorem Sr (hh:eV R h=.error e):ez R h name need=.error e:=by unfold ez;rw [hh]
theorem OD (hh:eV R h=.ok d) (hk:¬(nd R.ns d).kind=2):ez R h name need=.error 173:=by unfold ez;rw [hh];exact if_neg hk
theorem Lp (hh:eV R h=.ok d) (hk:(nd R.ns d).kind=2) (hg:(nd R.ns d).id∈R.gone):ez R h name need=.error 170:=by unfold ez;rw [hh];exact (if_pos hk).trans (if_pos hg)
theorem Lr (hh:eV R h=.ok d) (hk:(nd R.ns d).kind=2) (hg:¬(nd R.ns d).id∈R.gone) (hn:¬aS name):ez R h name need=.error 95:=by unfold ez;rw [hh];exact (if_pos hk).trans ((if_neg hg).trans (if_neg hn))
theorem Ls (hh:eV R h=.ok d) (hk:(nd R.ns d).kind=2) (hg:¬(nd R.ns d).id∈R.gone) (hn:aS name) (hb:¬bits BinOp.and .i64 (nd R.ns d).mode need=need):ez R h name need=.error 175:=by unfold ez;rw [hh];exact (if_pos hk).trans ((if_neg hg).trans ((if_pos hn).trans (if_neg hb)))
theorem St (hh:eV R h=.ok d) (hk:(nd R.ns d).kind=2) (hg:¬(nd R.ns d).id∈R.gone) (hn:aS name) (hb:bits BinOp.and .i64 (nd R.ns d).mode need=need):ez R h name need=.ok d:=by unfold ez;rw [hh];exact (if_pos hk).trans ((if_neg hg).trans ((if_pos hn).trans (if_pos hb)))
theorem oH (hC:RC R) (h:Int) (name:ByteArray) (need:Int):(∃e,ez R h name need=.error e/\¬e=0)\/∃d,ez R h name need=.ok d/\d<R.ns.length:=by
 rcases qw hC h with hh|⟨k,hh,hk⟩
 all_goals grind [Sr,nd,Lp,aS,St,Ls,Lr,OD]
noncomputable def zV (R:RS) (c:aD) (need:Int):Value:=match ez R c.handle c.name need with
 |.error e=>.tuple #[.int .i64 0,.int .i64 0,.int .i64 e]
 |.ok f=>match ez R c.other c.text 192 with
   |.error e=>.tuple #[.int .i64 f,.int .i64 0,.int .i64 e]
   |.ok to=>.tuple #[.int .i64 f,.int .i64 to,.int .i64 0]
theorem Sv (h:ez R c.handle c.name need=.error e):zV R c need=.tuple #[.int .i64 0,.int .i64 0,.int .i64 e]:=by unfold zV;rw [h]
theorem Sw (h:ez R c.handle c.name need=.ok d) (h2:ez R c.other c.text 192=.error e):zV R c need=.tuple #[.int .i64 d,.int .i64 0,.int .i64 e]:=by unfold zV;rw [h];simp only [h2]
theorem Sx (h:ez R c.handle c.name need=.ok d) (h2:ez R c.other c.text 192=.ok to):zV R c need=.tuple #[.int .i64 d,.int .i64 to,.int .i64 0]:=by unfold zV;rw [h];simp only [h2]
theorem IL (hC:RC R) (c:aD) (need:Int):(∃a e,nQ R c need=.error e/\¬e=0/\zV R c need=.tuple #[.int .i64 a,.int .i64 0,.int .i64 e])\/∃f to,nQ R c need=.ok (f,to)/\f<R.ns.length/\to<R.ns.length/\zV R c need=.tuple #[.int .i64 f,.int .i64 to,.int .i64 0]:=by
 rcases oH hC c.handle c.name need with ⟨e,h1,h2⟩|⟨f,h1,h2⟩
 ·exact .inl ⟨0,e,by unfold nQ;rw [h1],h2,Sv h1⟩
 rcases oH hC c.other c.text 192 with ⟨e,h3,h4⟩|⟨to,h3,h4⟩
 ·exact .inl ⟨f,e,by unfold nQ;rw [h1];simp only [h3],h4,Sw h1 h3⟩
 exact .inr ⟨f,to,by unfold nQ;rw [h1];simp only [h3],h2,h4,Sx h1 h3⟩
theorem iD (ns:List au) (d:Nat) (name:ByteArray):aP ns d name = -1\/∃k:Nat,aP ns d name=(k:Int)/\k<ns.length:=by
 unfold aP
 split
 ·exact .inl rfl
 rename_i j _
 by_cases h:0<=dV ns (en (nd ns d).af j).id
 ·exact .inr ⟨_,(jY h).2.2,(jY h).1⟩
 exact .inl (yJ h)
theorem Vr (h:¬(R.ns.length:Int)<R.cN):false=decide (sI R):=(decide_eq_false (λq=>h q.1)).symm
theorem Vs (h:¬R.last<1099511627776):false=decide (sI R):=(decide_eq_false (λq=>h q.2.1)).symm
theorem ZL (h:(R.ns.length:Int)<R.cN) (h2:R.last<1099511627776):decide ((bN R.ns R.ns.length:Int)<8192)=decide (sI R):=decide_eq_decide.2 ⟨λq=>⟨h,h2,q⟩,λq=>q.2.2⟩
theorem ZM (h:¬0<=id):false=decide (gS id):=(decide_eq_false (λq=>h q.1)).symm
theorem aby (h:0<=id):decide (id<=4095)=decide (gS id):=decide_eq_decide.2 ⟨λq=>⟨h,q⟩,λq=>q.2⟩
theorem Vt (h:name=⟨#[]⟩):90=iP name:=by unfold iP;rw [if_pos h]
theorem Sy (h:¬name=⟨#[]⟩) (h2:4096<(name.size:Int)):93=iP name:=by unfold iP;rw [if_neg h,if_pos (by omega)]
theorem Sz (h:¬name=⟨#[]⟩) (h2:¬4096<(name.size:Int)) (h3:∀q,q<name.size->¬bO name q=0):0=iP name:=by unfold iP;rw [if_neg h,if_neg (by omega),if_pos (show nW name from h3)]
theorem Vu (h:¬name=⟨#[]⟩) (h2:¬4096<(name.size:Int)) {q:Nat} (hq:q<name.size) (h3:bO name q=0):91=iP name:=by unfold iP;rw [if_neg h,if_neg (by omega),if_neg (λg=>g q hq h3)]
def ZN:Except Int Nat->Int
 |.error _=>0
 |.ok k=>k
def WT:Except Int Nat->Int
 |.error e=>e
 |.ok _=>0
theorem ZO (x:Except Int Nat):exV x=.tuple #[.int .i64 (ZN x),.int .i64 (WT x)]:=by cases x<;>rfl
noncomputable def nE (R:RS) (c:aD):Except Int Nat:=if c.op=12 then (match ez R c.handle c.name 64 with|.error e=>.error e|.ok d=>if 0<=aP R.ns d c.name then .ok (aP R.ns d c.name).toNat else .error 170) else eV R c.handle
theorem Lu:nX R c=match nE R c with|.error e=>FJ c e|.ok k=>CY R c k:=by
 unfold nX nE
 grind
theorem Vv (h:nE R c=.error e):nX R c=FJ c e:=by rw [Lu,h]
theorem Vw (h:nE R c=.ok k):nX R c=CY R c k:=by rw [Lu,h]
theorem FQ (h:¬c.op=12):eV R c.handle=nE R c:=by unfold nE;rw [if_neg h]
theorem IQ (h:c.op=12) (ha:ez R c.handle c.name 64=.error e):.error e=nE R c:=by unfold nE;rw [if_pos h,ha]
theorem FR (h:c.op=12) (ha:ez R c.handle c.name 64=.ok d) (hl:aP R.ns d c.name = -1):.error 170=nE R c:=by unfold nE;rw [if_pos h,ha];simp only;rw [if_neg (by rw [hl];decide)]
theorem FT (h:c.op=12) (ha:ez R c.handle c.name 64=.ok d) (hl:aP R.ns d c.name=(k:Int)):.ok k=nE R c:=by unfold nE;rw [if_pos h,ha];simp only;rw [if_pos (by rw [hl];omega),hl];rfl
theorem Nt (hC:RC R) (c:aD):(∃e,nE R c=.error e/\¬e=0)\/∃k,nE R c=.ok k/\k<R.ns.length:=by
 by_cases h:c.op=12
 ·rcases oH hC c.handle c.name 64 with ⟨e,h1,h2⟩|⟨d,h1,_⟩
  ·exact .inl ⟨e,(IQ h h1).symm,h2⟩
  rcases iD R.ns d c.name with h2|⟨k,h2,h3⟩
  ·grind [FR]
  exact .inr ⟨k,(FT h h1 h2).symm,h3⟩
 rw [←FQ h]
 rcases qw hC c.handle with h1|h1
 ·exact .inl ⟨_,h1,by decide⟩
 exact .inr h1
end p
end
section
open Go.RowKit Go.Maps aR ak
attribute [local irreducible] ai aQ ah aj
noncomputable abbrev ZP (dc)(top)(b5:Nat) (st):=([(1,vI ↑dc),(2,vI ↑top),(3,vP b5),(7,vI ↑st)]:Fr)
theorem Vx {β:Bs} (Z:RS) (Y:RL) (hR:bS β Z Y) (hB:RB Z) :
 Spec Tryz.prog β 113 #[.agg ⟨rV Z Y⟩] [] (λv l=>v=.bool (decide (sI Z))/\l=[]):=by
 exact SE Tryz.func113 Tryz.ntmps113 (λR=>SR (jB 2 [1] (λb1=>.blk b1 (rV Z Y) 42) (λb1=>NS (jK 9 [11] [(2,a_ 1 b1),(6,a_ 1 b1)] (sP 11 ((((Z.ns.length:Nat):Int):Int)<(Z.cN:Int)) (λh11=>jK 5 [16] [(1,a_ 1 b1)] (sP 16 ((Z.last:Int)<(1099511627776:Int)) (λog=>jK 1 [17] [(0,A_ 1 b1 12)] (gE [] (Lm Z Y hR hB) (jK 3 [2] [] (eN ⟨congrArg Value.bool (ZL h11 og),rfl⟩)))) (λog=>jK 5 [2] [] (eN ⟨congrArg Value.bool (Vs og),rfl⟩)))) (λh11=>jK 10 [2] [] (eN ⟨congrArg Value.bool (Vr h11),rfl⟩)))))))
theorem qd {β:Bs} (Z:RS) (Y:RL) (hR:bS β Z Y) (hC:RC Z) (hx:Int) :
 Spec Tryz.prog β 74 #[.agg ⟨rV Z Y⟩,vI (hx)] [] (λv l=>v=exV (eV Z hx)/\l=[]):=by
 refine SE Tryz.func74 Tryz.ntmps74 (λR=>SR (jB 3 [2] (λb2=>.blk b2 (rV Z Y) 42) (λb2=>NN (ah.seq ?_))))
 by_cases hm:hx∈keys Z.us
 ·obtain⟨k,hix,hk,hh,hat⟩:=OC hC hm
  exact ah.region (jK 3 [8,9] [(1,A_ 1 b2 4)] (gE [] ((Ca Z.cH Z.ar Y.H Y.V Y.ch Y.cv Z.us hR.h (by have:=hC.us;omega) hx).val (congrArg (Value.int .i64) hix)) (jK 1 [6] [] (NZ (jK 2 [12] [(1,wF (((k:Int):Int)<(0:Int)))] (NF (KX (ah.seq (rQ (jQ 8 [14,20] [(1,a_ 1 b2),(4,a_ 1 b2),(6,x_ k Z.us.length (pW.hd (l:=(fN Z.us)) hR.v (j:=k) (by grind [gU,jL]))),(7,r_ (pW.rd (l:=(fN Z.us)) hR.v (j:=k) (by grind [gU,jL])))] (jU [] [0,1] (.int .i64 ↑(tgt Z.ns ((fN Z.us).getD k 0))) ((zw Y.A Y.c Z.ns Y.L hR.n hC.rise (by have:=hC.ns;omega) ((fN Z.us).getD k 0)).val (congrArg (Value.int .i64) hat)) (jQ 2 [4,5] [] (NQ (NX (ah.ret (RT _ [0] (⟨(congrArg exV hh).symm,rfl⟩)))))))))))))))))
 obtain⟨hix,hh⟩:=Hl hm
 exact ah.region (jK 3 [8,9] [(1,A_ 1 b2 4)] (gE [] ((Ca Z.cH Z.ar Y.H Y.V Y.ch Y.cv Z.us hR.h (by have:=hC.us;omega) hx).val (congrArg (Value.int .i64) hix)) (jK 1 [6] [] (NZ (jK 2 [12] [] (NT (zR ⟨(congrArg exV hh).symm,rfl⟩)))))))
theorem lP {β:Bs} (Z:RS) (Y:RL) (hR:bS β Z Y) (hC:RC Z) (hx:Int) (name:ByteArray) (hn:name.size<=1048576) (need:Int) :
 Spec Tryz.prog β 75 #[.agg ⟨rV Z Y⟩,vI (hx),.string name,vI (need)] [] (λv l=>v=exV (ez Z hx name need)/\l=[]):=by
 refine SE Tryz.func75 Tryz.ntmps75 (λR=>SR (jB 3 [4] (λb3=>.blk b3 (rV Z Y) 42) (λb3=>NS (jK 2 [14,15] [(0,A_ 1 b3 12)] ?_))))
 rcases qw hC hx with hh|⟨d,hh,hd⟩
 ·exact gE [] ((qd Z Y hR hC hx).val (congrArg exV hh)) (jK 5 [10,11] [] (NZ (jK 2 [20] [] (NT (zR ⟨(congrArg exV (Sr hh)).symm,rfl⟩)))))
 exact gE [] ((qd Z Y hR hC hx).val (congrArg exV hh)) (jK 5 [10,11] [] (NZ (jK 2 [20] [] (NF (KX (SR (jN 8 [12] (λb4=>[(2,a_ 1 b3),(4,x_ d Z.ns.length (av.hd hR.n (i:=d) (by omega))),(5,Bl (eT Y.L d (nd Z.ns d)) (λ_ _ h=>av.rd hR.n (by omega) h)),(7,A_ 2 b4 10)]) (λ_=>[]) (λb4=>.blk b4 (eT Y.L d (nd Z.ns d)) 75) (λb4=>NZ (jK 3 [30] [(1,a_ 2 b4)] (NN (cN (((nd Z.ns d).kind:Int)=(2:Int)) (λmo=>zR ⟨(congrArg exV (OD hh mo)).symm,rfl⟩) (λmo=>KX (SQ (jK 3 [31,33] [(0,A_ 1 b3 12),(2,a_ 2 b4)] (gE [] (tK Z Y hR hC.toRB (nd Z.ns d).id) (NN (cP ((nd Z.ns d).id∈Z.gone) (λwB=>zR ⟨(congrArg exV (Lp hh mo wB)).symm,rfl⟩) (λwB=>KX (SQ (jK 1 [35] [] (gE [] (zu name hn) (jK 1 [37] [] (NN (cN (aS name) (λuZ=>zR ⟨(congrArg exV (Lr hh mo wB uZ)).symm,rfl⟩) (λuZ=>KX (SQ (jK 6 [43] [(1,a_ 2 b4)] (NN (cN ((bits BinOp.and .i64 ((nd Z.ns d).mode) need:Int)=(need:Int)) (λFB=>zR ⟨(congrArg exV (Ls hh mo wB uZ FB)).symm,rfl⟩) (λFB=>KX (zR ⟨(congrArg exV (St hh mo wB uZ FB)).symm,rfl⟩)))))))))))))))))))))))))))))))
theorem Vy {β:Bs} (name:ByteArray) (hn:name.size<=1048576) :
 Spec Tryz.prog β 112 #[.string name] [] (λv l=>v=vI (iP name)/\l=[]):=by
 refine SE Tryz.func112 Tryz.ntmps112 (λR=>SR (jK 1 [] [] (NZ (jK 2 [5] [(1,w_ (.bool (decide ((name:ByteArray)=⟨#[]⟩))) (nZ _ _))] (NN (cP ((name:ByteArray)=⟨#[]⟩) (λh5=>zR ⟨congrArg (Value.int .i64) (Vt h5),rfl⟩) (λh5=>KX (SQ (jK 3 [8] [] (NN (cP (((((name:ByteArray).size:Nat):Int):Int)>(4096:Int)) (λh8=>zR ⟨congrArg (Value.int .i64) (Sy h5 h8),rfl⟩) (λh8=>KX (SQ (jK 1 [3] [] (NN (ah.block (lJ (λ(i:Nat)=>(i<=name.size)/\(∀q,q<i->¬bO name q=0)) (λ(i:Nat)=>name.size-i) (λ(i:Nat)=>[(0,.string name),(3,vI ↑i)]) (λ(i:Nat)=>[.abs R]) 0 [0] (⟨Nat.zero_le _,λq hq=>absurd hq (Nat.not_lt_zero q)⟩) ?_)))))))))))))))))
 rintro i ⟨hi,hno⟩
 exact SQ (jK 4 [12] [] (NN (cP ((((i:Nat):Int):Int)<((((name:ByteArray).size:Nat):Int):Int)) (λh12=>KX (ah.seq (ah.block (SR (jK 4 [18] [(2,xP i (i<(name:ByteArray).size))] (NN (cP ((((((name:ByteArray).data.getD (i) 0).toNat:Nat):Int):Int)=(0:Int)) (λmF=>zR ⟨congrArg (Value.int .i64) (Vu h5 h8 (q:=i) (by omega) (by unfold bO;omega)),rfl⟩) (λmF=>KX (ah.region (jK 3 [3] [(1,wJ ((i:Int)+1) (↑(i+1)))] (NL (tJ ((i+1)) [0] (⟨by omega,λq hq=>by grind [bO]⟩))))))))))))) (λh12=>XX (zR ⟨congrArg (Value.int .i64) (Sz h5 h8 (λq hq=>hno q (by omega))),rfl⟩)))))
theorem Lv {β:Bs} (m:Int) :
 Spec Tryz.prog β 124 #[vI m] [] (λv l=>v=.bool (decide (gS m))/\l=[]):=by
 exact SE Tryz.func124 Tryz.ntmps124 (λR=>SR (jK 1 [] [] (NS (jK 3 [5] [] (sP 5 ((m:Int)>=(0:Int)) (λh5=>jK 4 [2] [] (eN ⟨congrArg Value.bool (aby h5),rfl⟩)) (λh5=>jK 4 [2] [] (eN ⟨congrArg Value.bool (ZM h5),rfl⟩)))))))
theorem SA {β:Bs} (Z:RS) (Y:RL) (hR:bS β Z Y) (hB:RB Z) (d top:Nat) (hd:d<Z.ns.length) :
 Spec Tryz.prog β 116 #[.agg ⟨rV Z Y⟩,vI (((d:Nat):Int)),vI (((top:Nat):Int))] [] (λv l=>v=.bool (gu Z.ns top (Z.ns.length+1) d)/\l=[]):=by
 refine SE Tryz.func116 Tryz.ntmps116 (λR=>SR (jB 2 [3] (λb5=>.blk b5 (rV Z Y) 42) (λb5=>NZ (jK 1 [7] [] (NN (ah.block (lJ (λ(st,dc)=>(st<=Z.ns.length+1)/\(dc<Z.ns.length)/\(gu Z.ns top (Z.ns.length+1-st) dc=(gu Z.ns top (Z.ns.length+1) d))) (λ(st,dc)=>Z.ns.length+1-st) (λ(st,dc)=>(ZP dc top b5 st)) (λ(st,dc)=>[.abs R,.blk b5 (rV Z Y) 42]) (0,d) [0,1] (⟨Nat.zero_le _,hd,rfl⟩) ?_)))))))
 rintro⟨st,dc⟩ ⟨hst,hdc,hbl⟩
 have WS:=hB.ns
 refine SQ (jK 6 [16] [(3,a_ 1 b5)] (NN (cP ((((st:Nat):Int):Int)<=(((Z.ns.length:Nat):Int):Int)) (λog=>KX (ah.seq (ah.block (SQ (jK 3 [21] [] (NN (cP ((((dc:Nat):Int):Int)=(((top:Nat):Int):Int)) (λpz=>?_) (λpz=>?_)))))))) (λog=>XX (zR (v:=(.bool false)) ⟨by rw [←hbl,show Z.ns.length+1-st=0 by omega];rfl,rfl⟩)))))
 ·replace pz:dc=top:=by omega
  exact zR ⟨by rw [←hbl,show Z.ns.length+1-st=(Z.ns.length-st)+1 by omega,pz,Sl],rfl⟩
 replace pz:¬dc=top:=by omega
 refine KX (SR (jK 1 [8] [] (NZ (sl 8 (.int .i64 (-1)) (.int .i64 ((lf Z.ns (nd Z.ns dc).id 0))) (rfl) (jK 1 [9] [] (NN (ah.block (lJ (λ(i:Nat)=>(i<=Z.ns.length)) (λ(i:Nat)=>Z.ns.length-i) (λ(i:Nat)=>(ZP dc top b5 st++[(8,vI ((lf Z.ns (nd Z.ns dc).id i))),(9,vI ↑i)])) (λ(i:Nat)=>[.abs R,.blk b5 (rV Z Y) 42]) 0 [0,1] (Nat.zero_le _) ?_))))))))
 rintro i hi
 refine SQ (jK 6 [27] [(3,a_ 1 b5)] (NN (cP ((((i:Nat):Int):Int)<(((Z.ns.length:Nat):Int):Int)) (λKn=>KX (ah.seq (ah.block (SR (sl 8 (.int .i64 ((lf Z.ns (nd Z.ns dc).id i))) (.int .i64 ((xM Z.ns (nd Z.ns dc).id i 0))) (congrArg (Value.int .i64) Vm) (jK 1 [10] [] (NN (ah.block (lJ (λ(j:Nat)=>(j<=(nd Z.ns i).af.length)) (λ(j:Nat)=>(nd Z.ns i).af.length-j) (λ(j:Nat)=>(ZP dc top b5 st++[(8,vI ((xM Z.ns (nd Z.ns dc).id i j))),(9,vI ↑i),(10,vI ↑j)])) (λ(j:Nat)=>[.abs R,.blk b5 (rV Z Y) 42]) 0 [0,1] (Nat.zero_le _) ?_))))))))) (λKn=>XX (SQ (sl 8 (.int .i64 ((lf Z.ns (nd Z.ns dc).id i))) (.int .i64 ((lf Z.ns (nd Z.ns dc).id Z.ns.length))) (by rw [show i=Z.ns.length by omega]) (jK 2 [63] [] (NN (cP (((lf Z.ns (nd Z.ns dc).id Z.ns.length):Int)<(0:Int)) (λh63=>zR ⟨by rw [←hbl,show Z.ns.length+1-st=(Z.ns.length-st)+1 by omega,Qe pz h63],rfl⟩) (λh63=>KX (ah.region (sl 8 (.int .i64 ((lf Z.ns (nd Z.ns dc).id Z.ns.length))) (.int .i64 ↑((lf Z.ns (nd Z.ns dc).id Z.ns.length).toNat)) (congrArg (Value.int .i64) (by omega)) (jK 2 [1] [] (LX (ah.region (jK 3 [7] [(1,wJ ((st:Int)+1) (↑(st+1)))] (NL (tJ ((st+1),(lf Z.ns (nd Z.ns dc).id Z.ns.length).toNat) [0,1] (⟨by omega,by have:=Sk (ns:=Z.ns) (id:=(nd Z.ns dc).id) Z.ns.length;omega,by rw [←hbl,show Z.ns.length+1-st=(Z.ns.length+1-(st+1))+1 by omega,Vo pz h63]⟩)))))))))))))))))))
 rintro j hj
 have hrw:=hB.row (i:=i) (by omega)
 exact SQ (jK 10 [39] [(3,a_ 1 b5),(5,x_ i Z.ns.length (av.hd hR.n (i:=i) (by omega))),(7,r_ (av.rd hR.n (i:=i) (by omega) (j:=9) rfl))] (NN (cP ((((j:Nat):Int):Int)<((((nd Z.ns i).af.length:Nat):Int):Int)) (λqB=>KX (ah.seq (ah.block (ah.seq (rQ (jQ 19 [60] [(2,a_ 1 b5),(4,x_ i Z.ns.length (av.hd hR.n (i:=i) (by omega))),(6,r_ (av.rd hR.n (i:=i) (by omega) (j:=9) rfl)),(8,x_ j ((nd Z.ns i).af.length) (bp.hd (hR.n.af i (by omega)) (i:=j) (by omega))),(10,r_ (bp.rd (hR.n.af i (by omega)) (i:=j) (by omega) (j:=1) rfl)),(13,a_ 1 b5),(15,x_ dc Z.ns.length (av.hd hR.n (i:=dc) (by omega))),(17,r_ (av.rd hR.n (i:=dc) (by omega) (j:=0) rfl))] (NQ (NX (cP (((en (nd Z.ns i).af j).id:Int)=((nd Z.ns dc).id:Int)) (λKu=>ah.region (jK 2 [8] [] (LX (ah.region (sl 8 (.int .i64 ↑i) (.int .i64 ((xM Z.ns (nd Z.ns dc).id i (j+1)))) (congrArg (Value.int .i64) (Ym Ku)) (jK 3 [10] [(1,wJ ((j:Int)+1) (↑(j+1)))] (NL (tJ ((j+1)) [0,1] ((by omega)))))))))) (λKu=>KX (ah.region (sl 8 (.int .i64 ((xM Z.ns (nd Z.ns dc).id i j))) (.int .i64 ((xM Z.ns (nd Z.ns dc).id i (j+1)))) (congrArg (Value.int .i64) (Vn Ku)) (jK 3 [10] [(1,wJ ((j:Int)+1) (↑(j+1)))] (NL (tJ ((j+1)) [0,1] ((by omega))))))))))))))))) (λqB=>XX (ah.region (sl 8 (.int .i64 ((xM Z.ns (nd Z.ns dc).id i j))) (.int .i64 ((lf Z.ns (nd Z.ns dc).id (i+1)))) (by rw [←Yl,show j=(nd Z.ns i).af.length by omega]) (jK 3 [9] [(1,wJ ((i:Int)+1) (↑(i+1)))] (NL (tJ ((i+1)) [0,1] ((by omega)))))))))))
theorem CZ {β:Bs} (Z:RS) (Y:RL) (hR:bS β Z Y) (hC:RC Z) (c:aD) (hn:c.name.size<=1048576) (ht:c.text.size<=1048576) (need:Int) :
 Spec Tryz.prog β 79 #[.agg ⟨rV Z Y⟩,.agg ⟨aO c⟩,vI (need)] [] (λv l=>v=zV Z c need/\l=[]):=by
 refine SE Tryz.func79 Tryz.ntmps79 (λR=>SR (jB 1 [3] (λb6=>.blk b6 (rV Z Y) 42) (λb6=>jB 4 [4] (λb7=>.blk b7 (aO c) 48) (λb7=>NS (jK 6 [13,15,17,18] [(0,A_ 1 b6 12),(2,a_ 2 b7),(4,a_ 2 b7)] ?_)))))
 rcases oH hC c.handle c.name need with ⟨e,h1,Cb⟩|⟨f,h1,hf⟩
 ·exact gE [] ((lP Z Y hR hC c.handle c.name hn need).val (congrArg exV h1)) (jK 5 [9,10] [] (NZ (jK 2 [23] [(1,J8 ((e:Int)=(0:Int)) Cb)] (NT (zR ⟨(Sv h1).symm,rfl⟩)))))
 refine gE [] ((lP Z Y hR hC c.handle c.name hn need).val (congrArg exV h1)) (jK 5 [9,10] [] (NZ (jK 2 [23] [(1,w_ (.bool false) rfl)] (NF (KX (SR (jK 5 [26,28,30] [(0,A_ 1 b6 12),(2,a_ 2 b7),(4,a_ 2 b7)] ?_)))))))
 rcases oH hC c.other c.text 192 with ⟨e,h2,h2e⟩|⟨to,h2,hto⟩
 ·exact gE [] ((lP Z Y hR hC c.other c.text ht 192).val (congrArg exV h2)) (jK 5 [10,11] [] (NS (jK 6 [6,7,8] [] (eN ⟨(Sw h1 h2).symm,rfl⟩))))
 exact gE [] ((lP Z Y hR hC c.other c.text ht 192).val (congrArg exV h2)) (jK 5 [10,11] [] (NS (jK 6 [6,7,8] [] (eN ⟨(Sx h1 h2).symm,rfl⟩))))
theorem Lw {β:Bs} (Z:RS) (Y:RL) (hR:bS β Z Y) (hC:RC Z) (c:aD) (hn:c.name.size<=1048576) (A:Option Addr) (cc:Nat) (an:Int) :
 Spec Tryz.prog β 43 #[.agg ⟨rV Z Y⟩,.agg ⟨aO (cF {c with answer:=an} A cc)⟩,.agg ⟨aO {c with answer:=0}⟩] [] (λv l=>v=.agg ⟨aO (nX Z c)⟩/\l=[]):=by
 refine SE Tryz.func43 Tryz.ntmps43 (λR=>SR (jB 1 [3] (λb8=>.blk b8 (rV Z Y) 42) (λb8=>jB 1 [4] (λb9=>.blk b9 (aO (cF {c with answer:=an} A cc)) 48) (λb9=>jB 1 [5] (λb10=>.blk b10 (aO {c with answer:=0}) 48) (λb10=>jB 1 [6] (λb11=>.blk b11 [vI 0,vI 0,vI 0,.string ⟨#[]⟩,.string ⟨#[]⟩,.slice none (0) (0),vI 0,vI 0,vI 0,vI 0,vI 0,vI 0,vI 0] 48) (λb11=>NS (jC 8 [] [(1,a_ 3 b10),(3,a_ 3 b10),(5,a_ 3 b10),(7,a_ 3 b10)] [(3,[(2,vI 0),(6,vI 0),(7,vI 0),(8,vI 0)])] (NS (jC 3 [] [(2,A_ 3 b10 2)] [(3,[(9,vI 0),(10,vI 0)])] (NS (jK 3 [19,21] [(0,A_ 1 b8 12),(2,a_ 2 b9)] (gE [] ((qd Z Y hR hC c.handle).val (ZO _)) (jK 5 [7,8] [] (NN (ah.join (λ(x,a)=>(x=(nE Z c))/\(∀z:Nat,x=.ok z->a=(z:Int))) (λ(x,a)=>[(3,vP b8),(5,vP b10),(6,vP b11),(7,vI (a)),(8,vI ((WT x)))]) (λ(x,a)=>[.abs R,.blk b8 (rV Z Y) 42,.blk b9 (aO (cF {c with answer:=an} A cc)) 48,pC b10 {c with other:=0,mode:=0,uid:=0,gid:=0,sec:=0,nano:=0,answer:=0},.blk b11 [vI 0,vI 0,vI 0,.string ⟨#[]⟩,.string ⟨#[]⟩,.slice none (0) (0),vI 0,vI 0,vI 0,vI 0,vI 0,vI 0,vI 0] 48]) ?_ ?_)))))))))))))))
 ·rintro⟨x,a⟩ ⟨hx2,ha2⟩
  refine ah.seq ?_
  subst hx2
  rcases Nt hC c with ⟨e,hs,hse⟩|⟨k,hs,hk⟩
  ·exact ah.region (sl 8 (.int .i64 ((WT (nE Z c)))) (.int .i64 (e)) (by rw [hs];rfl) (jC 3 [] [(2,a_ 3 b10)] [(3,[(11,vI (e))])] (NZ (jK 2 [50] [(1,J8 ((e:Int)=(0:Int)) hse)] (NT (SR (jC 2 [] [(0,A_ 3 b10 13),(1,A_ 4 b11 13)] [(4,[(0,vI (c.op)),(1,vI (c.handle)),(3,.string c.name),(4,.string c.text),(5,.slice c.dA (c.data.length) (c.dC)),(11,vI (e))])] (eS (v:=(.agg ⟨aO {c with other:=0,mode:=0,uid:=0,gid:=0,sec:=0,nano:=0,code:=e,answer:=0}⟩)) [A_ 4 b11 13] ⟨by rw [Vv hs];rfl,rfl⟩))))))))
  exact ah.region (sl 7 (.int .i64 (a)) (.int .i64 ↑k) (congrArg (Value.int .i64) (ha2 k hs)) (sl 8 (.int .i64 ((WT (nE Z c)))) (.int .i64 0) (by rw [hs];rfl) (jC 3 [] [(2,a_ 3 b10)] [(3,[(11,vI 0)])] (NZ (jK 2 [50] [(1,w_ (.bool false) rfl)] (NF (KX (SR (jN 8 [11] (λb12=>[(2,a_ 1 b8),(4,x_ k Z.ns.length (av.hd hR.n (i:=k) (by omega))),(5,Bl (eT Y.L k (nd Z.ns k)) (λ_ _ h=>av.rd hR.n (by omega) h)),(7,A_ 5 b12 10)]) (λ_=>[]) (λb12=>.blk b12 (eT Y.L k (nd Z.ns k)) 75) (λb12=>NS (jC 4 [] [(1,a_ 5 b12),(3,a_ 3 b10)] [(3,[(12,vI ((nd Z.ns k).id))])] (NS (jC 4 [] [(1,a_ 5 b12),(3,a_ 3 b10)] [(3,[(2,vI ((nd Z.ns k).kind))])] (NS (jC 4 [] [(1,a_ 5 b12),(3,a_ 3 b10)] [(3,[(6,vI ((nd Z.ns k).mode))])] (NS (jC 4 [] [(1,a_ 5 b12),(3,a_ 3 b10)] [(3,[(7,vI ((nd Z.ns k).uid))])] (NS (jC 4 [] [(1,a_ 5 b12),(3,a_ 3 b10)] [(3,[(8,vI ((nd Z.ns k).gid))])] (NS (jC 4 [] [(1,A_ 5 b12 2),(3,A_ 3 b10 2)] [(3,[(9,vI ((nd Z.ns k).sec)),(10,vI ((nd Z.ns k).nano))])] (NS (jC 2 [] [(0,A_ 3 b10 13),(1,A_ 4 b11 13)] [(4,[(0,vI (c.op)),(1,vI (c.handle)),(2,vI ((nd Z.ns k).kind)),(3,.string c.name),(4,.string c.text),(5,.slice c.dA (c.data.length) (c.dC)),(6,vI ((nd Z.ns k).mode)),(7,vI ((nd Z.ns k).uid)),(8,vI ((nd Z.ns k).gid)),(9,vI ((nd Z.ns k).sec)),(10,vI ((nd Z.ns k).nano)),(12,vI ((nd Z.ns k).id))])] (eS (v:=(.agg ⟨aO {c with other:=(nd Z.ns k).kind,mode:=(nd Z.ns k).mode,uid:=(nd Z.ns k).uid,gid:=(nd Z.ns k).gid,sec:=(nd Z.ns k).sec,nano:=(nd Z.ns k).nano,code:=0,answer:=(nd Z.ns k).id}⟩)) [A_ 4 b11 13] ⟨by rw [Vw hs];rfl,rfl⟩))))))))))))))))))))))))
 refine SR (jK 3 [27] [(1,a_ 2 b9)] (NN (cP ((c.op:Int)=(12:Int)) (λKn=>SR (jK 5 [29,31,33] [(0,A_ 1 b8 12),(2,a_ 2 b9),(4,a_ 2 b9)] ?_)) (λKn=>ah.skip (mJ ((eV Z c.handle),(ZN (eV Z c.handle))) [0,1,2,3,4] (⟨FQ (by omega),λk e=>by rw [e];rfl⟩))))))
 rcases oH hC c.handle c.name 64 with ⟨e,h1,Cb⟩|⟨f,h1,hf⟩
 ·exact gE [] ((lP Z Y hR hC c.handle c.name hn 64).val (congrArg exV h1)) (jK 5 [9,10] [] (NS (jK 2 [8] [] (NS (jK 2 [39] [(1,wF ((e:Int)=(0:Int)) Cb)] (NF (ah.skip (mJ ((.error e:Except Int Nat),(ZN (eV Z c.handle))) [0,1,2,3,4] (⟨IQ (by omega) h1,λk e=>by cases e⟩)))))))))
 refine gE [] ((lP Z Y hR hC c.handle c.name hn 64).val (congrArg exV h1)) (jK 5 [9,10] [] (NS (jK 2 [8] [] (NS (jK 2 [39] [(1,w_ (.bool true) rfl)] (NT (SR (jK 4 [40,41,43] [(0,A_ 1 b8 12),(3,a_ 2 b9)] ?_))))))))
 rcases iD Z.ns f c.name with hl|⟨k,hl,hk⟩
 ·exact gE [] ((gD Z Y hR hC f hf c.name).val (congrArg (Value.int .i64) hl)) (jK 1 [7] [] (NS (jK 2 [46] [] (NT (ah.region (jK 1 [8] [] (NL (mJ ((.error 170:Except Int Nat),(-1)) [0,1,2,3,4] (⟨FR (by omega) h1 hl,λk e=>by cases e⟩)))))))))
 exact gE [] ((gD Z Y hR hC f hf c.name).val (congrArg (Value.int .i64) hl)) (jK 1 [7] [] (NS (jK 2 [46] [(1,wF (((k:Int):Int)<(0:Int)))] (NF (ah.skip (mJ ((.ok k:Except Int Nat),(k:Int)) [0,1,2,3,4] (⟨FT (by omega) h1 hl,λk e=>by cases e;rfl⟩)))))))
end
section
open Go.RowKit Go.Maps aR ak
section m
variable {ns:List au} {es l:List cR} {name:ByteArray} {id z:Int} {i j d k:Nat} {R:RS} {x:cR}
theorem IU:∀{l:List cR},(∀e∈l,fM e.name name)->jP name id l=l++[⟨name,id⟩]
 |[],_=>rfl
 |e::r,h=>by
   unfold jP
   rw [if_neg (λq=>q (h e (List.mem_cons_self ..))),IU (λy hy=>h y (List.mem_cons_of_mem _ hy))];rfl
theorem FU:∀{l:List cR},(∀e∈l,fM e.name name)->¬fM x.name name->jP name id (l++[x])=l++[⟨name,id⟩,x]
 |[],_,hx=>by grind [jP]
 |e::r,h,hx=>by
   show jP name id (e::(r++[x]))=_
   unfold jP
   rw [if_neg (λq=>q (h e (List.mem_cons_self ..))),FU (λy hy=>h y (List.mem_cons_of_mem _ hy)) hx];rfl
theorem IV:∀{l:List cR},(∃e∈l,¬fM e.name name)->jP name id (l++[x])=jP name id l++[x]
 |[],h=>by obtain⟨_,h,_⟩:=h;cases h
 |e::r,h=>by
   show jP name id (e::(r++[x]))=jP name id (e::r)++[x]
   unfold jP
   by_cases he:¬fM e.name name
   ·rw [if_pos he,if_pos he];rfl
   rw [if_neg he,if_neg he]
   obtain⟨y,hy,hny⟩:=h
   rcases List.mem_cons.1 hy with rfl|hy
   ·exact absurd hny he
   rw [IV ⟨y,hy,hny⟩];rfl
theorem tL (hj:j<es.length):es.take (j+1)=es.take j++[en es j]:=by
 rw [List.take_add_one,List.getElem?_eq_getElem hj]
 grind [en]
def dO (es:List cR) (name:ByteArray) (id:Int) (j:Nat) (put:Bool) (out:List cR):Prop:=
 (put=false/\out=es.take j/\∀e∈es.take j,fM e.name name)\/(put=true/\out=jP name id (es.take j)/\∃e∈es.take j,¬fM e.name name)
theorem dO.start:dO es name id 0 false []:=.inl ⟨rfl,rfl,λe he=>by cases he⟩
theorem dO.put (h:dO es name id j false l) (hj:j<es.length) (hx:¬fM (en es j).name name):dO es name id (j+1) true (l++[⟨name,id⟩]++[en es j]):=by
 grind [en,tL,FU,dO,fM]
theorem dO.more (h:dO es name id j true l) (hj:j<es.length):dO es name id (j+1) true (l++[en es j]):=by
 grind [tL,IV,dO,en]
theorem dO.miss (h:dO es name id j false l) (hj:j<es.length) (hx:fM (en es j).name name):dO es name id (j+1) false (l++[en es j]):=by
 grind [tL,dO,fM,en]
theorem dO.last (h:dO es name id es.length false l):l++[⟨name,id⟩]=jP name id es:=by
 grind [IU,dO,jP]
theorem dO.end_ (h:dO es name id es.length true l):l=jP name id es:=by
 grind [dO,jP]
theorem dO.len {b:Bool} (h:dO es name id j b l) (hj:j<=es.length):l.length<=j+1:=by
 have hl:∀q:List cR,(jP name id q).length=q.length+1:=λq=>by
  induction q with
  |nil=>rfl
  |cons e r ih=>
    grind [jP]
 grind [dO]
theorem JB (hj:j<es.length) (h:(en es j).name=name):oW name (es.take j)=oW name (es.take (j+1)):=by
 grind [oW,tL]
theorem Ho (hj:j<es.length) (h:¬(en es j).name=name):oW name (es.take j)++[en es j]=oW name (es.take (j+1)):=by
 grind [oW,tL]
theorem Hq:∀(l:List cR) (z:Int),ox name (l++[x]) z=if x.name=name then x.id else ox name l z
 |[],z=>rfl
 |e::r,z=>by
   show ox name (r++[x]) _=_
   rw [Hq r]
   split<;>rfl
theorem Yo (hj:j<es.length) (h:(en es j).name=name):(en es j).id=ox name (es.take (j+1)) z:=by rw [tL hj,Hq,if_pos h]
theorem Vz (hj:j<es.length) (h:¬(en es j).name=name):ox name (es.take j) z=ox name (es.take (j+1)) z:=by rw [tL hj,Hq,if_neg h]
theorem VA:(oW name (es.take j)).length<=j:=Nat.le_trans (List.length_filter_le ..) (by rw [List.length_take];omega)
theorem rE (hj:j<ns.length):ns.take (j+1)=ns.take j++[nd ns j]:=by
 rw [List.take_add_one,List.getElem?_eq_getElem hj]
 grind [nd]
def qx (R:RS) (i:Nat):List au:=(R.ns.take i).filter (oY R)
def mE (R:RS) (i:Nat):List Int:=((qx R i).filter (λn=>decide (n.id∈R.gone))).map au.id
theorem xQ (hi:i<R.ns.length) (h:oY R (nd R.ns i)=true):qx R (i+1)=qx R i++[nd R.ns i]:=by
 grind [qx,rE]
theorem Lx (hi:i<R.ns.length) (h:¬oY R (nd R.ns i)=true):qx R (i+1)=qx R i:=by
 grind [qx,rE]
theorem IW (hi:i<R.ns.length) (h:oY R (nd R.ns i)=true) (hg:(nd R.ns i).id∈R.gone):mE R (i+1)=mE R i++[(nd R.ns i).id]:=by
 unfold mE;rw [xQ hi h,List.filter_append,List.map_append];simp [hg]
theorem Lz (hi:i<R.ns.length) (h:oY R (nd R.ns i)=true) (hg:¬(nd R.ns i).id∈R.gone):mE R (i+1)=mE R i:=by
 grind [mE,xQ]
theorem Qg (hi:i<R.ns.length) (h:¬oY R (nd R.ns i)=true):mE R (i+1)=mE R i:=by
 unfold mE;rw [Lx hi h]
theorem Er {n:au}:oY R n=true↔(n.id∈R.gone->n.id∈fN R.us):=by unfold oY;exact decide_eq_true_iff
theorem IX:dF R={R with ns:=qx R R.ns.length,gone:=mE R R.ns.length}:=by
 unfold dF mE qx
 rw [List.take_length]
theorem IY:(qx R i).length<=i:=Nat.le_trans (List.length_filter_le ..) (by rw [List.length_take];omega)
theorem SB:(mE R i).length<=i:=by
 grind [mE,IY]
end m
end
section
open Go.RowKit Go.Maps aR ak
section fl
theorem IZ {α:Type} {f g:Nat->α->List Value} {s:Nat} (hf:∀i a,(f i a).length=s) (hg:∀i a,(g i a).length=s):∀(xs:List α) (b k j:Nat) (a:α) (u:Value),k<xs.length->j<s →
 (∀i,i≠k->∀x,xs[i]?=some x->g (b+i) x=f (b+i) x)->(∀x,xs[k]?=some x->g (b+k) a=(f (b+k) x).set j u)->(fw f b xs).set (k*s+j) u=fw g b (xs.set k a)
 |[],_,k,_,_,_,h,_,_,_=>absurd h (Nat.not_lt_zero k)
 |x::r,b,0,j,a,u,_,hj,h1,h2=>by
   rw [fw,List.set_cons_zero,fw,Nat.zero_mul,Nat.zero_add,List.set_append_left _ _ (by rw [hf];exact hj)]
   have e:=h2 x rfl
   rw [Nat.add_zero] at e
   rw [e]
   congr 1
   exact yh _ _ (λi a hi=>by
    have:=h1 (i+1) (by omega) a (by simpa using hi)
    rw [show b+1+i=b+(i+1) by omega]
    exact this.symm)
 |x::r,b,k+1,j,a,u,h,hj,h1,h2=>by
   rw [fw,List.set_cons_succ,fw,List.set_append_right _ _ (by rw [hf,Nat.add_mul];omega),hf]
   have e0:=h1 0 (by omega) x rfl
   rw [Nat.add_zero] at e0
   rw [e0,show (k+1)*s+j-s=k*s+j by rw [Nat.add_mul];omega]
   congr 1
   refine IZ hf hg r (b+1) k j a u (by simpa using h) hj (λi hi y hy=>?_) (λy hy=>?_)
   ·rw [show b+1+i=b+(i+1) by omega];exact h1 (i+1) (by omega) y (by simpa using hy)
   rw [show b+1+k=b+(k+1) by omega];exact h2 y (by simpa using hy)
end fl
section st
variable {P:Program} {β:Bs} {N:dx} {ops:Array Oper} {k:Nat} {fr:Fr} {hps:List HP} {Q:Post} {d:Option Tmp}
theorem ai.Yp (i j:Nat) {T e:TypeId} {size n cap g:Nat} {xs:List Value} {u u2:Value} {a y:Operand} (hop:∀junk,fH N junk ops fr k=some (.store T a y,d)) (hp:hps[i]?=some (.abs (aq e size (some ⟨g,0,none⟩) n cap xs)))
 (ha:∀junk,cL N fr junk a=.pointer (some ⟨g,j,none⟩)) (hy:∀junk,cL N fr junk y=.agg #[u,u2]) (hT:(P.info? T).map (·.size)=some 2) (hu:u.oneCell'=true) (I0:u2.oneCell'=true) (hj:j+1<xs.length)
 (K':ai P β N ops (k+1) (cI fr d undef) (hps.set i (.abs (aq e size (some ⟨g,0,none⟩) n cap ((xs.set j u).set (j+1) u2)))) Q):ai P β N ops k fr hps Q:=by
 refine ai.kB hop (λo junk w ho hS=>?_) K'
 have sS:j<xs.length:=by omega
 have hi:=bT hp
 have qC:=hS.set hp (yg (u:=u) sS)
 have hp2:(hps.set i (.abs (aq e size (some ⟨g,0,none⟩) n cap (xs.set j u))))[i]?=some (.abs (aq e size (some ⟨g,0,none⟩) n cap (xs.set j u))):=List.getElem?_set_self hi
 have hS3:=qC.set hp2 (yg (u:=u2) (by rw [List.length_set];exact hj))
 rw [List.set_set] at hS3
 refine⟨_,.inr ⟨rfl,?_⟩,hS3⟩
 have key:∀(w:World) (l:List HP) (ys:List Value) (q:Nat),Sat β l w->l[i]?=some (.abs (aq e size (some ⟨g,0,none⟩) n cap ys))->q<ys.length->(∃x,w.cell? ⟨g,q,none⟩=some x)/\w.frozen? ⟨g,q,none⟩=false:=λw l ys q hS hp hq=>by
  obtain⟨F,hF⟩:=hS.get hp
  obtain⟨x,hx⟩:=jW hq
  refine⟨⟨x,aq.cell hx F w hF⟩,?_⟩
  obtain⟨⟨_,h2⟩,_⟩:=hF
  rcases h2 with ⟨e,_⟩|⟨g',cp,cur,e,_,hb,_⟩
  ·cases e
  cases e;simp [World.frozen?,hb]
 obtain⟨⟨x1,hc1⟩,hf1⟩:=key w hps xs j hS hp sS
 obtain⟨⟨x2,hc2⟩,hf2⟩:=key _ _ _ (j+1) qC hp2 (by rw [List.length_set];exact hj)
 obtain⟨inf,hi,hsz⟩:∃inf,P.info? T=some inf/\inf.size=2:=by
  cases h:P.info? T with
  |none=>rw [h] at hT;cases hT
  |some inf=>rw [h] at hT;exact⟨inf,rfl,by simpa using hT⟩
 have h3:=pG hi w
 rw [hsz] at h3
 obtain⟨dst,op,type,pos,after,guard⟩:=o
 cases ho
 have st:∀(u x:Value) (a:Addr) (w:World),u.oneCell'=true->w.cell? a=some x->w.frozen? a=false->Sem.run P (Sem.store Mode.plain a u (Sem.pure ())) w=.ok () (w.setCell a u):=λu x a w hu hc hf=>by
  cases u<;>first
   |(simp [Value.oneCell'] at hu;done)
   |simp [Sem.run,hc,hf]
 simp only [execOp,ha junk,hy junk]
 simp [go_sem,Instr.storeAt,Instr.sureAddr,storeVar,h3,Value.cells,storeCells,store,Addr.add,st u x1 _ _ hu hc1 hf1,st u2 x2 _ _ I0 hc2 hf2]
theorem ai.vQ (i j:Nat) {T e:TypeId} {size n cap:Nat} {A:Option Addr} {xs:List Value} {u:Value} {a y:Operand} (hop:∀junk,fH N junk ops fr k=some (.store T a y,d)) (hp:hps[i]?=some (.abs (aq e size A n cap xs)))
 (ha:∀junk,cL N fr junk a=.pointer (some ⟨aV A,aU A+j,none⟩)) (hy:∀junk,cL N fr junk y=u) (hT:(P.info? T).map (·.size)=some 1) (hu:u.oneCell'=true) (hn:0<n) (hj:j<xs.length)
 (K':ai P β N ops (k+1) (cI fr d undef) (hps.set i (.abs (aq e size A n cap (xs.set j u)))) Q):ai P β N ops k fr hps Q:=by
 refine ai.tell (p:=∃g,A=some ⟨g,0,none⟩) (λ_ hS=>let ⟨_,h⟩:=hS.get hp;aq.head h hn) ?_
 rintro⟨g,rfl⟩
 exact ai.EY i j hop hp (λjunk=>(ha junk).trans (congrArg (λo=>Value.pointer (some ⟨g,o,none⟩)) (Nat.zero_add j))) hy hT hu hj K'
theorem ai.zW (i j:Nat) {T e:TypeId} {size n cap:Nat} {A:Option Addr} {xs:List Value} {u u2:Value} {a y:Operand} (hop:∀junk,fH N junk ops fr k=some (.store T a y,d)) (hp:hps[i]?=some (.abs (aq e size A n cap xs)))
 (ha:∀junk,cL N fr junk a=.pointer (some ⟨aV A,aU A+j,none⟩)) (hy:∀junk,cL N fr junk y=.agg #[u,u2]) (hT:(P.info? T).map (·.size)=some 2) (hu:u.oneCell'=true) (I0:u2.oneCell'=true) (hn:0<n) (hj:j+1<xs.length)
 (K':ai P β N ops (k+1) (cI fr d undef) (hps.set i (.abs (aq e size A n cap ((xs.set j u).set (j+1) u2)))) Q):ai P β N ops k fr hps Q:=by
 refine ai.tell (p:=∃g,A=some ⟨g,0,none⟩) (λ_ hS=>let ⟨_,h⟩:=hS.get hp;aq.head h hn) ?_
 rintro⟨g,rfl⟩
 exact ai.Yp i j hop hp (λjunk=>(ha junk).trans (congrArg (λo=>Value.pointer (some ⟨g,o,none⟩)) (Nat.zero_add j))) hy hT hu I0 hj K'
theorem ai.oZ (i:Nat) {e:TypeId} {size n cap:Nat} {A:Option Addr} {xs:List Value} (hp:hps[i]?=some (.abs (aq e size A n cap xs))) (hn:0<n) (K:A=some ⟨aV A,aU A,none⟩->ai P β N ops k fr hps Q):ai P β N ops k fr hps Q:=
 ai.tell (λ_ hS=>let ⟨_,h⟩:=hS.get hp;(aq.EX h hn).1) K
end st
theorem ZQ (x y:ByteArray):Value.bool (!(Op.bytesLess x.toList y.toList || (x.toList == y.toList)))=Value.bool (!(decide (fM x y))):=congrArg (λv=>match v with|Value.bool b=>Value.bool (!b)|v=>v) (Kv x y)
theorem dO.keep {es l:List cR} {name:ByteArray} {id:Int} {j:Nat} {p:Bool} (h:dO es name id j p l) (hj:j<es.length) (hx:p=false->fM (en es j).name name):dO es name id (j+1) p (l++[en es j]):=by
 cases p with
 |true=>exact h.more hj
 |false=>exact h.miss hj (hx rfl)
theorem zX {q:List cR} {e:cR} {B:Option Addr} {c:Nat}:HP.abs (aq 90 2 B (q.length+1) c (jX q++[.string e.name,.int .i64 e.id]))=HP.abs (aq 90 2 B (q++[e]).length c (jX (q++[e]))):=by
 rw [FD,List.length_append];rfl
theorem kU {α:Type} {q:List α} {e:α}:q.length+1=(q++[e]).length:=by rw [List.length_append];rfl
section o
variable {P:Program} {β β':Bs} {R:RS} {Y:RL} {f:FuncId} {args:Array Value} {x u:Value} {d k i j:Nat} {ns:List au} {L L':Lay} {n:au} {es:List cR} {B:Option Addr} {c:Nat}
theorem o3 (hk:k<ns.length) (hj:j<10) (hL:∀i,i≠k->∀x,eT L' i x=eT L i x) (h:eT L' k n=(eT L k (nd ns k)).set j u):(aJ L ns).set (k*10+j) u=aJ L' (ns.set k n):=by
 refine IZ (s:=10) (λ_ _=>rfl) (λ_ _=>rfl) ns 0 k j _ _ hk hj (λi hi x _=>?_) (λx hx=>?_)
 all_goals grind [nd]
theorem Qh (hk:k<ns.length) {v:Value} (hv:(eT L k (nd ns k))[j]?=some v):(aJ L ns)[k*10+j]?=some v:=by
 have hj:j<10:=bT hv
 have h1:=rP (f:=eT L) (s:=10) (λ_ _=>rfl) ns 0 k j _ (getD_some (x:=default) hk) hj
 rw [Nat.zero_add] at h1
 exact h1.trans hv
theorem nG (hk:k<ns.length):nd (ns.set k n) i=if i=k then n else nd ns i:=by
 grind [nd]
def Lay.ent (L:Lay) (k:Nat) (B:Option Addr) (c:Nat):Lay:=⟨L.dA,λi=>if i=k then B else L.eA i,L.dC,λi=>if i=k then c else L.eC i⟩
def Lay.dat (L:Lay) (k:Nat) (B:Option Addr) (c:Nat):Lay:=⟨λi=>if i=k then B else L.dA i,L.eA,λi=>if i=k then c else L.dC i,L.eC⟩
structure jl (β:Bs) (R:RS) (L:Lay) (H V:Option Addr):Prop where
 data:∀i,i<R.ns.length->aW β (L.dA i) (nd R.ns i).data
 af:∀i,i<R.ns.length->bp β (L.eA i) (nd R.ns i).af
 h:bW β H (ints (keys R.us))
 v:bW β V (ints (fN R.us))
theorem jl.le {H V:Option Addr} (h:jl β R L H V) (hle:β.le β'):jl β' R L H V:=⟨λi hi=>(h.data i hi).le hle,λi hi=>(h.af i hi).le hle,h.h.le hle,h.v.le hle⟩
theorem jl.at {A G H V:Option Addr} {c cg ch cv:Nat} (h:jl β R L H V) (g:oK β [.abs (aq 75 10 A R.ns.length c (aJ L R.ns)),.abs (aq 3 1 G R.gone.length cg (ints R.gone))] β'):bS β' R ⟨A,c,L,G,cg,H,ch,V,cv⟩:=by
 obtain⟨F,h1,h2⟩:=g.get 0 rfl
 obtain⟨G,g1,g2⟩:=g.get 1 rfl
 have h':=h.le g.le
 exact⟨⟨bW.gF g1 g2 rfl,h'.h,h'.v⟩,bW.gF h1 h2 rfl,h'.data,h'.af⟩
theorem cA {A G H V:Option Addr} {c cg ch cv:Nat} (h:jl β R L H V) (hs:∀β',β.le β'->bS β' R ⟨A,c,L,G,cg,H,ch,V,cv⟩->Spec P β' f args [] (λv l=>v=x/\l=[])) :
 Spec P β f args [.abs (aq 75 10 A R.ns.length c (aJ L R.ns)),.abs (aq 3 1 G R.gone.length cg (ints R.gone))] (λv l=>v=x/\l=[.abs (aq 75 10 A R.ns.length c (aJ L R.ns)),.abs (aq 3 1 G R.gone.length cg (ints R.gone))]):=
 (Spec.uQ (pre:=[]) (R:=[.abs (aq 75 10 A R.ns.length c (aJ L R.ns)),.abs (aq 3 1 G R.gone.length cg (ints R.gone))]) (λβ' g=>hs β' g.le (h.at g))).mono (by rintro v l ⟨l0,⟨rfl,rfl⟩,rfl⟩;exact⟨rfl,rfl⟩)
theorem nA (ns:List au) (L:Lay) (A:Option Addr) (cap i j:Nat) (hi:i<ns.length) {v:Value} (hv:(eT L i (nd ns i))[j]?=some v):∀F w,(aq 75 10 A ns.length cap (aJ L ns)).h F w->w.cell? ⟨aV A,aU A+i*10+j,none⟩=some v:=aq.cellAt hi (Qh hi hv)
theorem Nu (hk:k<ns.length):(aJ L ns).set (k*10+9) (.slice B es.length c)=aJ (L.ent k B c) (ns.set k {nd ns k with af:=es}):=
 o3 hk (by decide) (λi hi x=>by unfold eT Lay.ent;simp [hi]) (by unfold eT Lay.ent;simp)
theorem Qi (hk:k<ns.length) {bs:List UInt8}:(aJ L ns).set (k*10+7) (.slice B bs.length c)=aJ (L.dat k B c) (ns.set k {nd ns k with data:=bs}):=
 o3 hk (by decide) (λi hi x=>by unfold eT Lay.dat;simp [hi]) (by unfold eT Lay.dat;simp)
theorem yu (hk:k<ns.length) {s z:Int}:((aJ L ns).set (k*10+5) (.int .i64 s)).set (k*10+5+1) (.int .i64 z)=aJ L (ns.set k {nd ns k with sec:=s,nano:=z}):=by
 rw [o3 (n:={nd ns k with sec:=s}) hk (by decide) (λ_ _ _=>rfl) rfl]
 have:=o3 (ns:=ns.set k {nd ns k with sec:=s}) (L:=L) (L':=L) (k:=k) (j:=6) (n:={nd ns k with sec:=s,nano:=z}) (u:=.int .i64 z) (by rw [List.length_set];exact hk) (by decide) (λ_ _ _=>rfl) (by rw [nG hk,if_pos rfl];rfl)
 rw [List.set_set] at this
 exact this
theorem Nv (hk:k<ns.length) {s z:Int}:(((aJ L ns).set (k*10+9) (.slice B es.length c)).set (k*10+5) (.int .i64 s)).set (k*10+5+1) (.int .i64 z)=aJ (L.ent k B c) (kq s z ns k es):=by
 rw [Nu hk,yu (by rw [List.length_set];exact hk),nG hk,if_pos rfl,List.set_set];rfl
theorem wO {s z:Int}:(kq s z ns k es).length=ns.length:=List.length_set ..
theorem OE {s z:Int} (hk:k<ns.length):nd (kq s z ns k es) i=if i=k then {nd ns k with af:=es,sec:=s,nano:=z} else nd ns i:=nG hk
theorem OG {A:Option Addr} {cN:Nat} {ns':List au} {s z:Int} (hk:k<ns.length) (h:ns'=kq s z ns k es) :
 HP.abs (aq 75 10 A ns.length cN ((((aJ L ns).set (k*10+9) (.slice B es.length c)).set (k*10+5) (.int .i64 s)).set (k*10+5+1) (.int .i64 z)))=HP.abs (aq 75 10 A ns'.length cN (aJ (L.ent k B c) ns')):=by
 rw [Nv hk,h,wO]
theorem jl.kq {H V:Option Addr} (h:jl β R L H V) (hk:k<R.ns.length) (he:bp β B es) {R':RS} (hn:R'.ns=kq R.cS R.cZ R.ns k es) (hu:R'.us=R.us):jl β R' (L.ent k B c) H V:=by
 refine⟨λi hi=>?_,λi hi=>?_,by rw [hu];exact h.h,by rw [hu];exact h.v⟩
 ·rw [hn,wO] at hi
  rw [hn,OE hk]
  by_cases e:i=k
  ·rw [if_pos e];subst e;exact h.data i hi
  rw [if_neg e];exact h.data i hi
 rw [hn,wO] at hi
 rw [hn,OE hk]
 show bp β (if i=k then B else L.eA i) _
 by_cases e:i=k
 ·rw [if_pos e,if_pos e];exact he
 rw [if_neg e,if_neg e];exact h.af i hi
theorem yX {name:ByteArray} {id:Int}:(bE R d name id).ns.length=R.ns.length:=List.length_set ..
theorem r9 {name:ByteArray} {b:Bool}:(bC R d name b).ns.length=R.ns.length:=List.length_set ..
theorem ab9 {L:Lay} {F:Fp} {w:World} {m:Nat} (h:(HP.abs (iO (oU ns L) m)).h F w) (h1:∀k,F k->β'.O k) (h2:β'.w0=w):∀i,i<m->bp β' (L.eA i) (nd ns i).af:=
 iO.base h h1 h2 (Φ:=λi b=>bp b (L.eA i) (nd ns i).af) (λi _ F hF hO=>bW.gF (show (HP.abs (aq 90 2 (L.eA i) (nd ns i).af.length (L.eC i) (jX (nd ns i).af))).h F _ from hF) hO h2)
theorem ZR {L:Lay} {F:Fp} {w:World} {m:Nat} (h:(HP.abs (iO (iZ ns L) m)).h F w) (h1:∀k,F k->β'.O k) (h2:β'.w0=w):∀i,i<m->aW β' (L.dA i) (nd ns i).data:=
 iO.base h h1 h2 (Φ:=λi b=>aW b (L.dA i) (nd ns i).data) (λi _ F hF hO=>bW.gF (show (HP.abs (aq 5 1 (L.dA i) (nd ns i).data.length (L.dC i) (bY (nd ns i).data))).h F _ from hF) hO h2)
theorem LA:∀m,i<m->(nd ns i).data.length<=cW ns m
 |0,h=>absurd h (Nat.not_lt_zero _)
 |m+1,h=>by
   show _<=cW ns m+(nd ns m).data.length
   by_cases e:i=m
   ·subst e;omega
   have:=LA m (by omega);omega
theorem RB.hd (h:RB R):∀i,i<R.ns.length->(nd R.ns i).data.length<=140737488355328/\(nd R.ns i).af.length<=1048576:=λi hi=>⟨Nat.le_trans (LA _ hi) h.dat,Nat.le_trans (h.row hi) (by decide)⟩
structure RD (q:Nat) (R:RS):Prop where
 ns:R.ns.length<=4097
 gone:R.gone.length<=4096+q
 us:R.us.length<=1024
 af:bN R.ns R.ns.length<=8192+q
 dat:cW R.ns R.ns.length<=140737488355328
theorem RD.rb {q:Nat} (h:RD q R) (hq:q<=8):RB R:=⟨h.ns,by have:=h.gone;omega,h.us,by have:=h.af;omega,h.dat⟩
theorem RD.up {q m:Nat} (h:RD q R) (hm:q<=m):RD m R:=⟨h.ns,by have:=h.gone;omega,h.us,by have:=h.af;omega,h.dat⟩
theorem FV (hk:k<ns.length):∀m:Nat,bN (ns.set k n) m+(if k<m then (nd ns k).af.length else 0)=bN ns m+(if k<m then n.af.length else 0)
 |0=>rfl
 |m+1=>by
   have h:=FV hk m
   show bN (ns.set k n) m+(nd (ns.set k n) m).af.length+_=bN ns m+(nd ns m).af.length+_
   rw [nG hk]
   by_cases e:m=k
   ·subst e
    rw [if_neg (Nat.lt_irrefl _),if_neg (Nat.lt_irrefl _)] at h
    rw [if_pos rfl,if_pos (Nat.lt_succ_self _),if_pos (Nat.lt_succ_self _)]
    omega
   rw [if_neg e]
   by_cases e2:k<m
   ·rw [if_pos e2,if_pos e2] at h;rw [if_pos (by omega),if_pos (by omega)];omega
   rw [if_neg e2,if_neg e2] at h;rw [if_neg (by omega),if_neg (by omega)];omega
theorem FW (hk:k<ns.length):∀m:Nat,cW (ns.set k n) m+(if k<m then (nd ns k).data.length else 0)=cW ns m+(if k<m then n.data.length else 0)
 |0=>rfl
 |m+1=>by
   have h:=FW hk m
   show cW (ns.set k n) m+(nd (ns.set k n) m).data.length+_=cW ns m+(nd ns m).data.length+_
   rw [nG hk]
   by_cases e:m=k
   ·subst e
    rw [if_neg (Nat.lt_irrefl _),if_neg (Nat.lt_irrefl _)] at h
    rw [if_pos rfl,if_pos (Nat.lt_succ_self _),if_pos (Nat.lt_succ_self _)]
    omega
   rw [if_neg e]
   by_cases e2:k<m
   ·rw [if_pos e2,if_pos e2] at h;rw [if_pos (by omega),if_pos (by omega)];omega
   rw [if_neg e2,if_neg e2] at h;rw [if_neg (by omega),if_neg (by omega)];omega
theorem SC {s z:Int} (hk:k<ns.length) (he:es.length<=(nd ns k).af.length+1):bN (kq s z ns k es) (kq s z ns k es).length<=bN ns ns.length+1/\cW (kq s z ns k es) (kq s z ns k es).length=cW ns ns.length:=by
 grind [wO,FV,nd,FW,kq]
theorem RD.kq {q:Nat} (h:RD q R) (hk:k<R.ns.length) (he:es.length<=(nd R.ns k).af.length+1) {R':RS} (hn:R'.ns=kq R.cS R.cZ R.ns k es) (hu:R'.us=R.us) (hg:R'.gone.length<=R.gone.length+1):RD (q+1) R':=by
 have h1:=SC (s:=R.cS) (z:=R.cZ) hk he
 have h2:R'.ns.length=R.ns.length:=by rw [hn,wO]
 refine⟨by rw [h2];exact h.ns,by have:=h.gone;omega,by rw [hu];exact h.us,?_,?_⟩
 ·rw [hn];have:=h.af;omega
 rw [hn];have:=h.dat;omega
def zY (R:RS) (d:Nat) (name:ByteArray):RS:={R with ns:=kq R.cS R.cZ R.ns d (oW name (nd R.ns d).af)}
theorem Yq {name:ByteArray}:(zY R d name).ns.length=R.ns.length:=List.length_set ..
theorem OI {name:ByteArray} {b:Bool} (hf:b=true) (h:qM (zY R d name).ns (ox name (nd R.ns d).af 0)=0):(bC R d name b).gone=R.gone++[ox name (nd R.ns d).af 0]:=if_pos ⟨hf,h⟩
theorem FX {name:ByteArray} {b:Bool} (h:b=true->¬qM (zY R d name).ns (ox name (nd R.ns d).af 0)=0):(bC R d name b).gone=R.gone:=if_neg (λq=>h q.1 q.2)
theorem SD {name:ByteArray}:(oW name es).length<=es.length:=List.length_filter_le ..
theorem RD.del {q:Nat} {name:ByteArray} (h:RD q R) (hk:d<R.ns.length):RD (q+1) (zY R d name):=h.kq hk (Nat.le_succ_of_le SD) rfl rfl (Nat.le_succ _)
theorem RD.OJ {q:Nat} {name:ByteArray} {b:Bool} (h:RD q R) (hk:d<R.ns.length):RD (q+1) (bC R d name b):=by
 refine h.kq hk (Nat.le_succ_of_le SD) rfl rfl ?_
 grind [bC]
theorem OL {name:ByteArray} {id:Int}:∀l:List cR,(jP name id l).length=l.length+1
 |[]=>rfl
 |e::r=>by
   unfold jP
   split
   ·rfl
   rw [List.length_cons,OL r];rfl
theorem RD.ent {q:Nat} {name:ByteArray} {id:Int} (h:RD q R) (hk:d<R.ns.length):RD (q+1) (bE R d name id):=h.kq hk (Nat.le_of_eq (OL _)) rfl rfl (Nat.le_succ _)
theorem Cc {q:List Int} {z:Int} {B:Option Addr} {c:Nat}:HP.abs (aq 3 1 B (q.length+1) c (ints q++[.int .i64 z]))=HP.abs (aq 3 1 B (q++[z]).length c (ints (q++[z]))):=by
 rw [Dx,List.length_append];rfl
theorem LB (l:List Int):∀u∈ints l,u.oneCell'=true:=by
 intro u hu
 obtain⟨b,_,rfl⟩:=List.mem_map.1 hu
 rfl
theorem jl.same {H V:Option Addr} (h:jl β R L H V) {R':RS} (hn:R'.ns=R.ns) (hu:R'.us=R.us):jl β R' L H V:=⟨by rw [hn];exact h.data,by rw [hn];exact h.af,by rw [hu];exact h.h,by rw [hu];exact h.v⟩
theorem jl.snoc {H V:Option Addr} (h:jl β R L H V) {R':RS} (hn:R'.ns=R.ns++[n]) (hd:n.data=[]) (he:n.af=[]) (hu:R'.us=R.us):jl β R' (L.put R.ns.length none 0 none 0) H V:=by
 have h0:∀{xs:List Value},xs=[]->bW β none xs:=λe j v hj=>by rw [e] at hj;cases hj
 have hl:R'.ns.length=R.ns.length+1:=by rw [hn,List.length_append];rfl
 refine⟨λi hi=>?_,λi hi=>?_,by rw [hu];exact h.h,by rw [hu];exact h.v⟩
 ·rw [hn]
  show aW β (if i=R.ns.length then none else L.dA i) _
  by_cases e:i=R.ns.length
  ·subst e;rw [if_pos rfl,tH,hd];exact h0 rfl
  rw [if_neg e,vL (by omega)];exact h.data i (by omega)
 rw [hn]
 show bp β (if i=R.ns.length then none else L.eA i) _
 by_cases e:i=R.ns.length
 ·subst e;rw [if_pos rfl,tH,he];exact h0 rfl
 rw [if_neg e,vL (by omega)];exact h.af i (by omega)
theorem RD.last {q:Nat} (h:RD q R) (z:Int):RD q {R with last:=z}:=⟨h.ns,h.gone,h.us,h.af,h.dat⟩
theorem LC (h:(R.us.length:Int)<R.cH):iN R k=({R with us:=ins (least R.us) (nd R.ns k).id R.us,ar:=max R.ar ((R.us.length:Int)+1)},least R.us,0):=if_pos h
theorem OM (h:¬(R.us.length:Int)<R.cH):iN R k=(R,0,130):=if_neg h
structure RU (R:RS):Prop where
 us:R.us.length<=1024
 usr:ak.bK (keys R.us)
 uw:∀z∈keys R.us,1<=z
theorem RC.ru (h:RC R):RU R:=⟨h.us,h.usr,h.uw⟩
theorem RU.same {R':RS} (h:RU R) (hu:R'.us=R.us):RU R':=⟨by rw [hu];exact h.us,by rw [hu];exact h.usr,by rw [hu];exact h.uw⟩
theorem acd {z:Int}:z∈fN R.us↔∃q,q<R.us.length/\(fN R.us).getD q 0=z:=by
 have hl:=jL R.us
 refine⟨λh=>?_,λ⟨q,h1,h2⟩=>h2 ▸ xL (by omega)⟩
 obtain⟨q,hq,e⟩:=List.getElem_of_mem h
 exact⟨q,by omega,by grind⟩
theorem LD {p:List au} (h:p=qx R R.ns.length):(dF R).ns=p:=by rw [IX,h]
theorem FY {l:List Int} (h:l=mE R R.ns.length):(dF R).gone=l:=by rw [IX,h]
theorem VB {An Ag:Option Addr} {cn cg:Nat} {p:List au} {l:List Int} {K:Lay} (hR:bS β R Y) (hN:bW β An (aJ K p)) (hG:bW β Ag (ints l)) (hp:p=qx R R.ns.length) (hl:l=mE R R.ns.length) (hK:kX β p p.length K):bS β (dF R) ⟨An,cn,K,Ag,cg,Y.H,Y.ch,Y.V,Y.cv⟩:=by
 have e1:=LD hp
 have e2:=FY hl
 exact⟨⟨by rw [e2];exact hG,hR.h,hR.v⟩,⟨by rw [e1];exact hN,by rw [e1];exact hK.data,by rw [e1];exact hK.af⟩⟩
theorem kX.snoc {p:List au} {K:Lay} {dA eA:Option Addr} {dC eC:Nat} (h:kX β p p.length K) (hd:aW β dA n.data) (he:bp β eA n.af):kX β (p++[n]) (p++[n]).length (K.put p.length dA dC eA eC):=by
 have e:(p++[n]).length=p.length+1:=by rw [List.length_append];rfl
 rw [e]
 refine kX.put (k:=p.length) ⟨λi hi=>?_,λi hi=>?_⟩ (by rw [tH];exact hd) (by rw [tH];exact he)
 ·rw [vL hi];exact h.data i hi
 rw [vL hi];exact h.af i hi
theorem Es {p:List au} {K:Lay} {dA eA A:Option Addr} {dC eC cN:Nat} {dn en:Nat} (hd:n.data.length=dn) (he:n.af.length=en) :
 HP.abs (aq 75 10 A (p.length+1) cN (aJ K p++[.int .i64 n.id,.int .i64 n.kind,.int .i64 n.mode,.int .i64 n.uid,.int .i64 n.gid,.int .i64 n.sec,.int .i64 n.nano,.slice dA dn dC,.string n.target,.slice eA en eC]))=HP.abs (aq 75 10 A (p++[n]).length cN (aJ (K.put p.length dA dC eA eC) (p++[n]))):=by
 grind [sG]
end o
end
section
open Go.RowKit
section order
variable {P:Program} {ops:Array Oper} {Q Q':Post} {n:Nat} {S:World->Prop}
inductive wP
 |one (i:Nat)
 |two (i j:Nat)
 |three (i k j:Nat)
 |perm (G:List Nat)
 |beside (c:List Nat) (j:Nat)
def LF (P:Program) (ops:Array Oper) (Q:Post) (S:World->Prop) (K:Act->World->Prop):Nat->List Nat->Act->World->Prop
 |0,_,a,w=>K a w
 |n+1,G,a,w=>∀i∈G,wpOp P ops Q i (λa' w'=>S w'/\LF P ops Q S K n (G.erase i) a' w') a w
def JQ (ops:Array Oper) (f:Array Bool->Bool):Nat->List Nat->Array Bool->Bool
 |0,_,listed=>f listed
 |n+1,G,listed=>(Region.ready .any ops listed == G) && !G.isEmpty && G.all (λi=>JQ ops f n (G.erase i) (listed.setIfInBounds i true))
def JR (P:Program) (ops:Array Oper) (Q:Post) (S:World->Prop) (K:Act->World->Prop):List Nat->Act->World->Prop
 |[],a,w=>K a w
 |i::c,a,w=>wpOp P ops Q i (λa' w'=>S w'/\JR P ops Q S K c a' w') a w
def zZ (P:Program) (ops:Array Oper) (Q:Post) (S:World->Prop) (K:Act->World->Prop) (j:Nat):List Nat->Act->World->Prop
 |[],a,w=>wpOp P ops Q j (λa' w'=>S w'/\K a' w') a w
 |i::c,a,w=>wpOp P ops Q i (λa' w'=>S w'/\zZ P ops Q S K j c a' w') a w/\wpOp P ops Q j (λa' w'=>S w'/\JR P ops Q S K (i::c) a' w') a w
def seqB (ops:Array Oper) (f:Array Bool->Bool):List Nat->Array Bool->Bool
 |[],listed=>f listed
 |i::c,listed=>(Region.ready .any ops listed == [i]) && seqB ops f c (listed.setIfInBounds i true)
def yY (ops:Array Oper) (f:Array Bool->Bool) (j:Nat):List Nat->Array Bool->Bool
 |[],listed=>(Region.ready .any ops listed == [j]) && f (listed.setIfInBounds j true)
 |i::c,listed=>(Region.ready .any ops listed == (if i<j then [i,j] else [j,i])) && yY ops f j c (listed.setIfInBounds i true) && seqB ops f (i::c) (listed.setIfInBounds j true)
def pX (P:Program) (ops:Array Oper) (Q:Post) (S:World->Prop):List wP->Act->World->Prop
 |[],a,w=>Q .normal a w
 |.one i::l,a,w=>wpOp P ops Q i (λa' w'=>(l=[]\/S w')/\pX P ops Q S l a' w') a w
 |.two i j::l,a,w=>
   wpOp P ops Q i (λa' w'=>S w'/\wpOp P ops Q j (λa2 w2=>S w2/\pX P ops Q S l a2 w2) a' w') a w ∧
   wpOp P ops Q j (λa' w'=>S w'/\wpOp P ops Q i (λa2 w2=>S w2/\pX P ops Q S l a2 w2) a' w') a w
 |.three i k j::l,a,w=>
   wpOp P ops Q i (λa1 w1=>S w1/\wpOp P ops Q k (λa2 w2=>S w2/\wpOp P ops Q j (λa3 w3=>S w3/\pX P ops Q S l a3 w3) a2 w2) a1 w1 ∧
    wpOp P ops Q j (λa2 w2=>S w2/\wpOp P ops Q k (λa3 w3=>S w3/\pX P ops Q S l a3 w3) a2 w2) a1 w1) a w ∧
   wpOp P ops Q j (λa1 w1=>S w1/\wpOp P ops Q i (λa2 w2=>S w2/\wpOp P ops Q k (λa3 w3=>S w3/\pX P ops Q S l a3 w3) a2 w2) a1 w1) a w
 |.perm G::l,a,w=>LF P ops Q S (pX P ops Q S l) G.length G a w
 |.beside c j::l,a,w=>zZ P ops Q S (pX P ops Q S l) j c a w
def yw (ops:Array Oper) (n:Nat):List wP->Array Bool->Bool
 |[],listed=>(Region.ready .any ops listed).isEmpty
 |.one i::l,listed=>(Region.ready .any ops listed == [i]) && (!l.isEmpty || i == n) && yw ops n l (listed.setIfInBounds i true)
 |.two i j::l,listed=>(Region.ready .any ops listed == [i,j]) && (Region.ready .any ops (listed.setIfInBounds i true) == [j]) && (Region.ready .any ops (listed.setIfInBounds j true) == [i]) && decide (i≠j) && yw ops n l ((listed.setIfInBounds i true).setIfInBounds j true)
 |.three i k j::l,listed=>(Region.ready .any ops listed == [i,j]) && (Region.ready .any ops (listed.setIfInBounds i true) == [k,j]) && (Region.ready .any ops ((listed.setIfInBounds i true).setIfInBounds k true) == [j]) && (Region.ready .any ops ((listed.setIfInBounds i true).setIfInBounds j true) == [k]) &&
   (Region.ready .any ops (listed.setIfInBounds j true) == [i]) && decide (i≠j) && decide (k≠j) && yw ops n l (((listed.setIfInBounds i true).setIfInBounds k true).setIfInBounds j true)
 |.perm G::l,listed=>JQ ops (yw ops n l) G.length G listed
 |.beside c j::l,listed=>yY ops (yw ops n l) j c listed
def uS:List wP->Nat
 |[]=>0
 |.one _::l=>uS l+1
 |.two _ _::l=>uS l+2
 |.three _ _ _::l=>uS l+3
 |.perm G::l=>uS l+G.length
 |.beside c _::l=>uS l+(c.length+1)
theorem I3 {m i:Nat} {listed:Array Bool} {a:Act} {w:World} (hr:Region.ready .any ops listed=[i]) (h:wpOp P ops (NP Q) i (λa' w'=>S w'/\jy P ops (NP Q) n S m (listed.setIfInBounds i true) a' w') a w):jy P ops (NP Q) n S (m+1) listed a w:=by
 refine⟨λh0=>(by rw [hr] at h0;cases h0),λy hy=>?_⟩
 rw [hr] at hy
 have hy:y=i:=by simpa using hy
 subst hy
 exact wpOp_mono (λa' w' h=>⟨.inr h.1,h.2⟩) h
theorem OO {K:Act->World->Prop} {f:Array Bool->Bool} {m:Nat} (hK:∀listed a w,f listed=true->K a w->jy P ops (NP Q) n S m listed a w):∀(c:List Nat) (listed:Array Bool) (a:Act) (w:World),seqB ops f c listed=true->JR P ops (NP Q) S K c a w->jy P ops (NP Q) n S (m+c.length) listed a w
 |[],listed,a,w,hb,h=>hK listed a w hb h
 |i::c,listed,a,w,hb,h=>by
   unfold seqB at hb
   simp only [Bool.and_eq_true,beq_iff_eq] at hb
   exact I3 hb.1 (wpOp_mono (λa' w' g=>⟨g.1,OO hK c _ a' w' hb.2 g.2⟩) h)
theorem FZ {K:Act->World->Prop} {f:Array Bool->Bool} {m j:Nat} (hK:∀listed a w,f listed=true->K a w->jy P ops (NP Q) n S m listed a w):∀(c:List Nat) (listed:Array Bool) (a:Act) (w:World),yY ops f j c listed=true->zZ P ops (NP Q) S K j c a w->jy P ops (NP Q) n S (m+(c.length+1)) listed a w
 |[],listed,a,w,hb,h=>by
   unfold yY at hb
   simp only [Bool.and_eq_true,beq_iff_eq] at hb
   exact I3 hb.1 (wpOp_mono (λa' w' g=>⟨g.1,hK _ a' w' hb.2 g.2⟩) h)
 |i::c,listed,a,w,hb,h=>by
   unfold yY at hb
   simp only [Bool.and_eq_true,beq_iff_eq] at hb
   obtain⟨⟨h1,h2⟩,h3⟩:=hb
   refine⟨λh0=>(by rw [h1] at h0;split at h0<;>cases h0),λy hy=>?_⟩
   rw [h1] at hy
   have hy:y=i\/y=j:=by
    split at hy
    ·simpa using hy
    have:y=j\/y=i:=by simpa using hy
    exact this.symm
   rcases hy with rfl|rfl
   ·exact wpOp_mono (λa' w' g=>⟨.inr g.1,FZ hK c _ a' w' h2 g.2⟩) h.1
   exact wpOp_mono (λa' w' g=>⟨.inr g.1,OO hK (i::c) _ a' w' h3 g.2⟩) h.2
theorem LG {K:Act->World->Prop} {f:Array Bool->Bool} {m:Nat} (hK:∀listed a w,f listed=true->K a w->jy P ops (NP Q) n S m listed a w):∀(k:Nat) (G:List Nat) (listed:Array Bool) (a:Act) (w:World),JQ ops f k G listed=true->LF P ops (NP Q) S K k G a w->jy P ops (NP Q) n S (m+k) listed a w
 |0,G,listed,a,w,hb,h=>hK listed a w hb h
 |k+1,G,listed,a,w,hb,h=>by
   unfold JQ at hb
   simp only [Bool.and_eq_true,beq_iff_eq] at hb
   obtain⟨⟨h1,h2⟩,h3⟩:=hb
   refine⟨λh0=>(by rw [h1] at h0;rw [h0] at h2;cases h2),λj hj=>?_⟩
   rw [h1] at hj
   exact wpOp_mono (λa' w' g=>⟨.inr g.1,LG hK k (G.erase j) _ a' w' (List.all_eq_true.1 h3 j hj) g.2⟩) (h j hj)
theorem qy:∀(l:List wP) (listed:Array Bool) (a:Act) (w:World),yw ops n l listed=true->pX P ops (NP Q) S l a w->jy P ops (NP Q) n S (uS l) listed a w
 |[],listed,a,w,hb,h=>⟨List.isEmpty_iff.1 hb,h⟩
 |.one i::l,listed,a,w,hb,h=>by
   unfold yw at hb
   simp only [Bool.and_eq_true,beq_iff_eq] at hb
   obtain⟨⟨h1,h2⟩,h3⟩:=hb
   refine⟨λh0=>(by rw [h1] at h0;cases h0),λj hj=>?_⟩
   rw [h1] at hj
   have hj:j=i:=by simpa using hj
   subst hj
   refine wpOp_mono (λa' w' h4=>⟨?_,qy l _ a' w' h3 h4.2⟩) h
   rcases h4.1 with h5|h5
   ·subst h5;exact .inl (by simpa using h2)
   exact .inr h5
 |.two i j::l,listed,a,w,hb,h=>by
   unfold yw at hb
   simp only [Bool.and_eq_true,beq_iff_eq,decide_eq_true_iff] at hb
   obtain⟨⟨⟨⟨h1,h2⟩,h3⟩,hij⟩,h4⟩:=hb
   refine⟨λh0=>(by rw [h1] at h0;cases h0),λk hk=>?_⟩
   rw [h1] at hk
   have hk:k=i\/k=j:=by simpa using hk
   rcases hk with rfl|rfl
   ·refine wpOp_mono (λa' w' h5=>⟨.inr h5.1,λh0=>(by rw [h2] at h0;cases h0),λk' hk'=>?_⟩) h.1
    rw [h2] at hk'
    have hk':k'=j:=by simpa using hk'
    subst hk'
    exact wpOp_mono (λa2 w2 h6=>⟨.inr h6.1,qy l _ a2 w2 h4 h6.2⟩) h5.2
   refine wpOp_mono (λa' w' h5=>⟨.inr h5.1,λh0=>(by rw [h3] at h0;cases h0),λk' hk'=>?_⟩) h.2
   rw [h3] at hk'
   have hk':k'=i:=by simpa using hk'
   subst hk'
   refine wpOp_mono (λa2 w2 h6=>⟨.inr h6.1,?_⟩) h5.2
   rw [Array.setIfInBounds_comm _ _ (λe=>hij e.symm)]
   exact qy l _ a2 w2 h4 h6.2
 |.three i k j::l,listed,a,w,hb,h=>by
   unfold yw at hb
   simp only [Bool.and_eq_true,beq_iff_eq,decide_eq_true_iff] at hb
   obtain⟨⟨⟨⟨⟨⟨⟨h1,h2⟩,h3⟩,h4⟩,h5⟩,hij⟩,hkj⟩,h6⟩:=hb
   have one:∀{x:Nat} {ls:Array Bool} {fuel:Nat} {a:Act} {w:World},Region.ready .any ops ls=[x]->wpOp P ops (NP Q) x (λa' w'=>S w'/\jy P ops (NP Q) n S fuel (ls.setIfInBounds x true) a' w') a w->jy P ops (NP Q) n S (fuel+1) ls a w:=λ{x ls fuel a w} hr hx=>by
    refine⟨λh0=>(by rw [hr] at h0;cases h0),λy hy=>?_⟩
    rw [hr] at hy
    have hy:y=x:=by simpa using hy
    subst hy
    exact wpOp_mono (λa' w' h=>⟨.inr h.1,h.2⟩) hx
   have e1:(((listed.setIfInBounds i true).setIfInBounds j true).setIfInBounds k true)=(((listed.setIfInBounds i true).setIfInBounds k true).setIfInBounds j true):=Array.setIfInBounds_comm _ _ (λe=>hkj e.symm)
   have e2:((listed.setIfInBounds j true).setIfInBounds i true)=((listed.setIfInBounds i true).setIfInBounds j true):=Array.setIfInBounds_comm _ _ (λe=>hij e.symm)
   refine⟨λh0=>(by rw [h1] at h0;cases h0),λx hx=>?_⟩
   rw [h1] at hx
   have hx:x=i\/x=j:=by simpa using hx
   rcases hx with rfl|rfl
   ·refine wpOp_mono (λa1 w1 g=>⟨.inr g.1,λh0=>(by rw [h2] at h0;cases h0),λy hy=>?_⟩) h.1
    rw [h2] at hy
    have hy:y=k\/y=j:=by simpa using hy
    rcases hy with rfl|rfl
    ·exact wpOp_mono (λa2 w2 g2=>⟨.inr g2.1,one h3 (wpOp_mono (λa3 w3 g3=>⟨g3.1,qy l _ a3 w3 h6 g3.2⟩) g2.2)⟩) g.2.1
    exact wpOp_mono (λa2 w2 g2=>⟨.inr g2.1,one h4 (wpOp_mono (λa3 w3 g3=>⟨g3.1,by rw [e1];exact qy l _ a3 w3 h6 g3.2⟩) g2.2)⟩) g.2.2
   refine wpOp_mono (λa1 w1 g=>⟨.inr g.1,one h5 (wpOp_mono (λa2 w2 g2=>⟨g2.1,?_⟩) g.2)⟩) h.2
   rw [e2]
   exact one h4 (wpOp_mono (λa3 w3 g3=>⟨g3.1,by rw [e1];exact qy l _ a3 w3 h6 g3.2⟩) g2.2)
 |.perm G::l,listed,a,w,hb,h=>LG (m:=uS l) (λls a w hb h=>qy l ls a w hb h) G.length G listed a w hb h
 |.beside c j::l,listed,a,w,hb,h=>FZ (m:=uS l) (λls a w hb h=>qy l ls a w hb h) c listed a w hb h
def sM (P:Program) (ops:Array Oper) (Q:Post) (S:World->Prop) (es:List wP):List Nat->Act->World->Prop
 |[],a,w=>pX P ops Q S es a w
 |i::l,a,w=>∃o v,ops[i]?=some o/\YieldsIf P ops S o v a/\sM P ops Q S es l (a.put o.dst v) w
def JS (ops:Array Oper) (n:Nat) (es:List wP):List Nat->Array Bool->Bool
 |[],listed=>yw ops n es listed
 |i::l,listed=>decide (i<n) && Region.free .any ops listed i && (Region.ready .any ops listed).contains i && JS ops n es l (listed.setIfInBounds i true)
theorem LH {es:List wP} (hsel:Region.noSelect ops=true) (mV:Region.sinkB .any ops n=true):∀(l:List Nat) (listed:Array Bool) (a:Act) (w:World),JS ops n es l listed=true->Closed ops listed->S w->sM P ops (NP Q) S es l a w->jy P ops (NP Q) n S (l.length+uS es) listed a w
 |[],listed,a,w,hb,_,_,h=>by
   rw [List.length_nil,Nat.zero_add]
   exact qy es listed a w hb h
 |i::l,listed,a,w,hb,hc,hS,h=>by
   unfold JS at hb
   simp only [Bool.and_eq_true,decide_eq_true_iff] at hb
   obtain⟨⟨⟨h1,h2⟩,h3⟩,h4⟩:=hb
   obtain⟨o,v,ho,hy,hk⟩:=h
   have hr:i∈Region.ready .any ops listed:=by simpa using h3
   have e:(i::l).length+uS es=(l.length+uS es)+1:=by rw [List.length_cons];omega
   rw [e]
   exact sC ho hsel mV h1 _ listed a w hc (Region.free_spec ho h2) hr hy hS (LH hsel mV l _ _ w h4 (hc.set hr) hS hk)
def OQ (ops:Array Oper) (rs:List Nat) (es:List wP):Bool:=
 Region.noSelect ops && Region.sinkB .any ops (ops.size-1) && (rs.length+uS es == ops.size) && JS ops (ops.size-1) es rs (Array.replicate ops.size false)
end order
section mix
variable {P:Program} {β:Bs} {N:dx} {ops:Array Oper} {S:List HP} {rs:List Nat} {es:List wP} {fr fr':Fr} {hps:List HP} {Q:Post} {cG:List Prop} {i j:Nat}
def ja (P:Program) (β:Bs) (N:dx) (ops:Array Oper) (S:List HP) (es:List wP) (rs:List Nat) (fr:Fr) (hps:List HP) (Q:Post):Prop:=
 ∀junk w,Sat β hps w->sM P ops (NP Q) (Sat β S) es rs (cr N fr junk) w
theorem ah.sO {id:Nat} (rs:List Nat) (es:List wP) (pk:List Nat) (hm:P.follows .mixedOrders=true) (hB:OQ ops rs es=true) (hn:nodupB pk=true) (hp:bh hps pk=some S) (h:ja P β N ops S es rs fr hps Q):ah P β N (.region id ops true) fr hps Q:=by
 intro junk w hS
 unfold OQ at hB
 simp only [Bool.and_eq_true,beq_iff_eq] at hB
 obtain⟨⟨⟨h1,h2⟩,h3⟩,h4⟩:=hB
 have dY:=hS.drewN 1
 have h5:=LH (Q:=Q) h1 h2 rs _ _ _ h4 (λj oj _ hl=>by simp [Array.getD_eq_getD_getElem?,Array.getElem?_replicate] at hl;split at hl<;>simp at hl) (dY.pick hn hp) (h junk (w.drewN 1) dY)
 rw [h3] at h5
 refine Code.wp_mono (λe a w q=>?_) (wp_region_any hm (qm _ _ _ _ h5))
 cases e with
 |normal=>exact q
 |exit id=>exact q.elim
 |goto l=>exact q.elim
 |ret=>exact q.elim
 |panic ch=>exact q.elim
 |outgrown=>exact q.elim
theorem AX {junk:Nat->Value} {w:World}:∀{hs:List OH} {is:List Nat} {fr fr':Fr} {T T':SS},ug P β N junk ops hs is fr T=some (fr',T')->(∀p,p∈T'.cG->p)->T.used=true->T.hps=S →
 sM P ops (NP Q) (Sat β S) es rs (cr N fr' junk) w->sM P ops (NP Q) (Sat β S) es (is++rs) (cr N fr junk) w
 |[],[],fr,fr',T,T',h,ho,hu,hT,hK=>by cases h;exact hK
 |h::hs,i::is,fr,fr',T,T',hr,ho,hu,hT,hK=>by
   unfold ug at hr
   repeat' split at hr
   all_goals first|(cases hr;done)|skip
   rename_i o hget _ J5 _ v T1 h0 _ hv
   obtain⟨e1,e2⟩:=vG h0
   rw [List.cons_append]
   unfold sM
   refine⟨o,v,hget,.inl ⟨by unfold Region.wanted;rw [J5],λw' dY=>?_⟩,?_⟩
   ·rw [fO]
    obtain⟨w2,h1,_,_,h4⟩:=mT h0 (λp hp=>ho p (zm hr p hp)) (by rw [hT];exact dY) (λe=>by rw [hu] at e;cases e)
    obtain⟨ew,_⟩:=h4 rfl
    rw [ew] at h1
    rcases h1 with h1|⟨h1,_⟩
    ·exact h1
    exact absurd h1 (rJ hv)
   rw [eP]
   exact AX hr ho (e2.trans hu) (e1.trans hT) hK
 |[],_::_,_,_,_,_,h,_,_,_,_=>by cases h
 |_::_,[],_,_,_,_,h,_,_,_,_=>by cases h
theorem ja.reads (is:List Nat) (hs:List OH) (idx:List Nat) (h:∀junk,tf P β N junk ops hs is fr S idx=some (fr',cG)) (ho:lG cG) (K:ja P β N ops S es rs fr' hps Q):ja P β N ops S es (is++rs) fr hps Q:=by
 intro junk w hS
 have h0:=h junk
 unfold tf at h0
 split at h0
 ·rename_i o5 S1 h1
  cases h0
  have hK:=K (lk o5 junk) w hS
  rw [←lq] at hK
  exact AX h1 (λp hp=>ho.mem hp) rfl rfl hK
 cases h0
theorem gP (AY:Fr) (is:List Nat) (os:List (Nat×OP)) (K:ja P β N ops S es [] AY hps Q)
 (h:∀junk,tf P β N junk ops (bM (bX is.length os 0)) is fr S (aN AY)=some (AY,owed (bX is.length os 0)):=by intro _;kernel_rfl):ja P β N ops S es (is++[]) fr hps Q:=
 ja.reads is (bM (bX is.length os 0)) (aN AY) h (q4 _) K
theorem ja.pair {ι ZS ZT:Type} {SF:ZS->Fr} {hpi:ZS->List HP} {SG:ZT->Fr} {SH:ZT->List HP} {fr':ι->Fr} {hp':ι->List HP} {oi oj:Oper} (pki pkj pk:List Nat)
 (hi:ops[i]?=some oi) (WU:oi.guard=none) (hj:ops[j]?=some oj) (hgj:oj.guard=none)
 (h1:ai P β N #[oi] 0 fr hps (NP (rK β N SF hpi))) (h2:∀a,ai P β N #[oj] 0 (SF a) (hpi a) (NP (rK β N fr' hp')))
 (h3:ai P β N #[oj] 0 fr hps (NP (rK β N SG SH))) (h4:∀a,ai P β N #[oi] 0 (SG a) (SH a) (NP (rK β N fr' hp')))
 (hni:nodupB pki=true) (ace:∀a,bh (hpi a) pki=some S) (hnj:nodupB pkj=true) (acf:∀a,bh (SH a) pkj=some S) (hn:nodupB pk=true) (hp:∀a,bh (hp' a) pk=some S)
 (K:∀a,ja P β N ops S es [] (fr' a) (hp' a) Q):ja P β N ops S (.two i j::es) [] fr hps Q:=by
 intro junk w hS
 unfold sM pX
 refine⟨jq hi WU (lK (λa w ⟨x,jr,ha,dY⟩=>?_) (show wpList P #[oi] (NP (rK β N SF hpi)) [oi] (cr N fr junk) w from h1 junk w hS)),jq hj hgj (lK (λa w ⟨x,jr,ha,dY⟩=>?_) (show wpList P #[oj] (NP (rK β N SG SH)) [oj] (cr N fr junk) w from h3 junk w hS))⟩
 ·subst ha
  refine⟨dY.pick hni (ace x),jq hj hgj (lK (λa w ⟨y,Aa,ha,qC⟩=>?_) (show wpList P #[oj] (NP (rK β N fr' hp')) [oj] (cr N (SF x) jr) w from h2 x jr w dY))⟩
  subst ha
  exact⟨qC.pick hn (hp y),K y Aa _ qC⟩
 subst ha
 refine⟨dY.pick hnj (acf x),jq hi WU (lK (λa w ⟨y,Aa,ha,qC⟩=>?_) (show wpList P #[oi] (NP (rK β N fr' hp')) [oi] (cr N (SG x) jr) w from h4 x jr w dY))⟩
 subst ha
 exact⟨qC.pick hn (hp y),K y Aa _ qC⟩
theorem ja.cut {ι:Type} {fr':ι->Fr} {hp':ι->List HP} {o:Oper} (pk:List Nat) (hop:ops[i]?=some o) (hg:o.guard=none) (h:ai P β N #[o] 0 fr hps (NP (rK β N fr' hp'))) (hn:nodupB pk=true) (hp:∀j,bh (hp' j) pk=some S)
 (K:∀j,ja P β N ops S es [] (fr' j) (hp' j) Q):ja P β N ops S (.one i::es) [] fr hps Q:=by
 intro junk w hS
 unfold sM pX
 refine jq hop hg (lK (λa w ⟨j,jr,ha,dY⟩=>?_) (show wpList P #[o] (NP (rK β N fr' hp')) [o] (cr N fr junk) w from h junk w hS))
 subst ha
 exact⟨.inr (dY.pick hn (hp j)),K j jr _ dY⟩
theorem Sat.left {a b:List HP} {w:World} (h:Sat β (a++b) w):Sat β a w:=by
 obtain⟨h0,φ,h1,h2,h3⟩:=h
 have hlen:a.length<=(a++b).length:=by simp
 exact⟨h0,φ,λi p hp=>h1 i p (by grind),λi hi=>h2 i (by omega),λi j hi hj=>h3 i j (by omega) (by omega)⟩
def ia (P:Program) (β:Bs) (N:dx) (ops:Array Oper) (Q:Post) (i d:Nat) (ds:List Nat) (fr:Fr) (pre:List HP) (post:Value->List HP->Prop):Prop:=
 ∀junk w (A:cK),Sat β (pre++[.abs A]) w->wpOp P ops (NP Q) i (λa' w'=>∃v l jr,post v l/\a'=cr N fr jr/\jr d=v/\(∀t∈ds,t≠d->jr t=junk t)/\Sat β (l++[.abs A]) w') (cr N fr junk) w
def I4 (si:List Nat) (u:Nat->Value):Fr:=si.map λt=>(t,u t)
theorem I5 {si:List Nat} {u:Nat->Value}:aN (I4 si u)=si:=by
 induction si with
 |nil=>rfl
 |cons a r ih=>exact congrArg (a::·) ih
theorem SI {si:List Nat} {u junk:Nat->Value} {t:Nat} (h:t∈si):lk (I4 si u) junk t=u t:=by
 induction si with
 |nil=>cases h
 |cons a r ih=>
   grind [lk,I4,ic]
theorem qz {fr AY:Fr} {junk Aa:Nat->Value} (h:∀t,lk fr junk t=lk AY Aa t):cr N fr junk=cr N AY Aa:=by
 unfold cr
 rw [show lk fr junk=lk AY Aa from funext h]
theorem ia.of {ι:Type} {v:ι->Value} {l:ι->List HP} {o:Oper} {d:Nat} {pre:List HP} (si:List Nat) (hop:ops[i]?=some o) (hg:o.guard=none) (adk:(d::si).all (λt=>!jx t (aN fr))=true) (hd:jx d si=false)
 (h:∀(u:Nat->Value) (A:cK),ai P β N #[o] 0 (I4 si u++fr) (pre++[.abs A]) (NP (rK β N (λx=>(d,v x)::(I4 si u++fr)) (λx=>l x++[.abs A])))):ia P β N ops Q i d (d::si) fr pre (λv' l'=>∃x,v'=v x/\l'=l x):=by
 intro junk w A hS
 have hout:∀t∈d::si,t∉aN fr:=λt ht hm=>by
  grind [jA]
 have hdo:d∉si:=by grind [jA]
 have e1:cr N fr junk=cr N (I4 si junk++fr) junk:=qz λt=>by
  grind [E5,I5,SI,pZ]
 rw [e1]
 refine jq hop hg (lK (λa w ⟨x,abz,ha,dY⟩=>⟨v x,l x,lk ((d,v x)::(I4 si junk++fr)) abz,⟨x,rfl,rfl⟩,?_,by rw [ic,if_pos rfl],λt ht hn=>?_,dY⟩) (show wpList P #[o] (NP (rK β N _ _)) [o] (cr N (I4 si junk++fr) junk) w from h junk A junk w hS))
 all_goals grind [qz,aN,ic,E5,I5,JL,pZ,SI]
theorem ia.at_ {d:Nat} {ds:List Nat} {pre X Y:List HP} {post:Value->List HP->Prop} {junk:Nat->Value} {w:World} {K:Act->World->Prop} (h:ia P β N ops Q i d ds fr pre post) (hS:Sat β (X++(pre++Y)) w)
 (hK:∀v l jr w',post v l->jr d=v->(∀t∈ds,t≠d->jr t=junk t)->Sat β (X++(l++Y)) w'->K (cr N fr jr) w'):wpOp P ops (NP Q) i K (cr N fr junk) w:=by
 have h1:=Sat.turn hS
 rw [List.append_assoc] at h1
 refine wpOp_mono (λa' w' ⟨v,l,j2,g1,g2,g3,g4,g5⟩=>?_) (h junk w _ h1.mH)
 rw [g2]
 refine hK v l j2 w' g1 g3 g4 ?_
 have h2:=g5.Bc
 rw [←List.append_assoc] at h2
 exact Sat.turn h2
theorem ia.grow {d d1:Nat} {ds:List Nat} {pre:List HP} {q:Value->List HP->Prop} (h:ia P β N ops Q i d (d::d1::ds) fr pre q) (h1:d1∉aN fr) (hd:d1≠d) (hn:d1∉ds) (v1:Value):ia P β N ops Q i d (d::ds) ((d1,v1)::fr) pre q:=by
 intro junk w A hS
 have e:cr N ((d1,v1)::fr) junk=cr N fr (λt=>if t=d1 then v1 else junk t):=qz λt=>by
  grind [ic,pZ,aN,JL]
 rw [e]
 refine wpOp_mono (λa' w' ⟨v,l,j2,g1,g2,g3,g4,g5⟩=>?_) (h _ w A hS)
 have k1:j2 d1=v1:=by grind
 refine⟨v,l,j2,g1,?_,g3,λt ht hne=>?_,g5⟩
 ·rw [g2]
  refine qz λt=>?_
  grind [ic,pZ]
 grind
def kV (P:Program) (β:Bs) (N:dx) (ops:Array Oper) (Q:Post) (dj:Nat):List (Nat×Nat)->Fr->List HP->(Fr->List HP->Prop)->Prop
 |[],fr,hps,R=>R fr hps
 |(i,d)::c,fr,hps,R=>(jx d (aN fr)=false/\d≠dj)/\∃q:Value->List HP->Prop,ia P β N ops Q i d [d,dj] fr hps q/\∀v l,q v l->kV P β N ops Q dj c ((d,v)::fr) l R
theorem kV.step {dj d:Nat} {c:List (Nat×Nat)} {R:Fr->List HP->Prop} {q:Value->List HP->Prop} (h:ia P β N ops Q i d [d,dj] fr hps q) (h1:(!jx d (aN fr) && decide (d≠dj))=true) (K:∀v l,q v l->kV P β N ops Q dj c ((d,v)::fr) l R):kV P β N ops Q dj ((i,d)::c) fr hps R:=by
 grind [ia,jx,aN,kV]
section ZU
variable {dj:Nat} {Z pj:List HP} {qj:Value->List HP->Prop} {R:Fr->List HP->Prop} {pS:List Nat} {F:Act->World->Prop}
theorem Sat.rest {X:List HP} {w:World} (AZ:nodupB pS=true) (Ba:bh Z pS=some S) (h:Sat β (X++Z) w):Sat β S w:=Sat.pick (idx:=pS) (l:=Z) (Sat.left (Sat.turn h)) AZ Ba
theorem I6 {v:Value} {l2:List HP} (AZ:nodupB pS=true) (Ba:bh Z pS=some S) (hK:∀f1 h1,R f1 h1->∀junk w,Sat β (h1++(l2++Z)) w->F (cr N ((dj,v)::f1) junk) w) :
 ∀(c:List (Nat×Nat)) (fr:Fr) (hps:List HP) (junk:Nat->Value) (w:World),jx dj (aN fr)=false->kV P β N ops Q dj c fr hps R->junk dj=v->Sat β (hps++(l2++Z)) w->JR P ops (NP Q) (Sat β S) F (c.map (·.1)) (cr N fr junk) w
 |[],fr,hps,junk,w,hdj,hc,hv,hS=>by
   have e:cr N fr junk=cr N ((dj,v)::fr) junk:=qz λt=>by
    rw [ic]
    by_cases e1:dj=t
    ·subst e1;rw [if_pos rfl,pZ (λhm=>by rw [jA.2 hm] at hdj;cases hdj),hv]
    rw [if_neg e1]
   show F (cr N fr junk) w
   rw [e]
   exact hK fr hps hc junk w hS
 |(i,d)::c,fr,hps,junk,w,hdj,⟨⟨h1,h2⟩,q,h3,h4⟩,hv,hS=>by
   show wpOp P ops (NP Q) i _ _ _
   refine h3.at_ (X:=[]) hS (λv' l j2 w' g1 g2 g3 g4=>⟨Sat.rest (X:=l++l2) AZ Ba (by rw [List.append_assoc];exact g4),?_⟩)
   have e:cr N fr j2=cr N ((d,v')::fr) j2:=qz λt=>by
    rw [ic]
    by_cases e1:d=t
    ·subst e1;rw [if_pos rfl,pZ (λhm=>by rw [jA.2 hm] at h1;cases h1),g2]
    rw [if_neg e1]
   rw [e]
   refine I6 AZ Ba hK c _ l j2 w' ?_ (h4 v' l g1) ((g3 dj (by simp) (λe=>h2 e.symm)).trans hv) g4
   cases hb:jx dj (aN ((d,v')::fr)) with
   |false=>rfl
   |true=>
     rcases List.mem_cons.1 (jA.1 hb) with e|e
     ·exact absurd e.symm h2
     rw [jA.2 e] at hdj;cases hdj
theorem I7 {j:Nat} (AZ:nodupB pS=true) (Ba:bh Z pS=some S) (hK:∀f1 h1,R f1 h1->∀v l2,qj v l2->∀junk w,Sat β (h1++(l2++Z)) w->F (cr N ((dj,v)::f1) junk) w) :
 ∀(c:List (Nat×Nat)) (fr:Fr) (hps:List HP) (junk:Nat->Value) (w:World),nodupB (c.map (·.2))=true->jx dj (aN fr)=false->ia P β N ops Q j dj (dj::c.map (·.2)) fr pj qj->kV P β N ops Q dj c fr hps R->Sat β (hps++(pj++Z)) w->zZ P ops (NP Q) (Sat β S) F j (c.map (·.1)) (cr N fr junk) w
 |[],fr,hps,junk,w,_,hdj,hj,hc,hS=>by
   show wpOp P ops (NP Q) j _ _ _
   refine hj.at_ (X:=hps) hS (λv l j2 w' g1 g2 g3 g4=>⟨Sat.rest (X:=hps++l) AZ Ba (by rw [List.append_assoc];exact g4),?_⟩)
   have e:cr N fr j2=cr N ((dj,v)::fr) j2:=qz λt=>by
    rw [ic]
    by_cases e1:dj=t
    ·subst e1;rw [if_pos rfl,pZ (λhm=>by rw [jA.2 hm] at hdj;cases hdj),g2]
    rw [if_neg e1]
   rw [e]
   exact hK fr hps hc v l g1 j2 w' g4
 |(i,d)::c,fr,hps,junk,w,hnd,hdj,hj,hc,hS=>by
   obtain⟨⟨h1,h2⟩,q,h3,h4⟩:=hc
   have hout:d∉aN fr:=λhm=>by rw [jA.2 hm] at h1;cases h1
   refine⟨h3.at_ (X:=[]) hS (λv' l j2 w' g1 g2 g3 g4=>⟨Sat.rest (X:=l++pj) AZ Ba (by rw [List.append_assoc];exact g4),?_⟩),hj.at_ (X:=hps) hS (λv l j2 w' g1 g2 g3 g4=>⟨Sat.rest (X:=hps++l) AZ Ba (by rw [List.append_assoc];exact g4),?_⟩)⟩
   ·have e:cr N fr j2=cr N ((d,v')::fr) j2:=qz λt=>by
     rw [ic]
     by_cases e1:d=t
     ·subst e1;rw [if_pos rfl,pZ hout,g2]
     rw [if_neg e1]
    rw [e]
    have sF:d∉c.map (·.2)/\nodupB (c.map (·.2))=true:=by
     have hx:nodupB (d::c.map (·.2))=true:=hnd
     unfold nodupB at hx
     simp only [Bool.and_eq_true] at hx
     exact⟨λhm=>by have h:=hx.1;simp_all,hx.2⟩
    refine I7 AZ Ba hK c _ l j2 w' sF.2 ?_ (hj.grow hout h2 sF.1 v') (h4 v' l g1) g4
    cases hb:jx dj (aN ((d,v')::fr)) with
    |false=>rfl
    |true=>
      rcases List.mem_cons.1 (jA.1 hb) with e|e
      ·exact absurd e.symm h2
      rw [jA.2 e] at hdj;cases hdj
   exact I6 AZ Ba (λf1 h1 hr=>hK f1 h1 hr v l g1) ((i,d)::c) fr hps j2 w' hdj ⟨⟨h1,h2⟩,q,h3,h4⟩ g2 g4
theorem ja.beside {j:Nat} {pc:List HP} (pk pS:List Nat) (c:List (Nat×Nat)) (hn:nodupB pk=true) (hp:bh hps pk=some (pc++(pj++Z))) (AZ:nodupB pS=true) (Ba:bh Z pS=some S) (hnd:nodupB (c.map (·.2))=true) (hdj:jx dj (aN fr)=false)
 (hj:ia P β N ops Q j dj (dj::c.map (·.2)) fr pj qj) (hc:kV P β N ops Q dj c fr pc R)
 (K:∀f1 h1,R f1 h1->∀v l,qj v l->ja P β N ops S es [] ((dj,v)::f1) (h1++(l++Z)) Q):ja P β N ops S (.beside (c.map (·.1)) j::es) [] fr hps Q:=by
 intro junk w hS
 exact I7 (F:=pX P ops (NP Q) (Sat β S) es) AZ Ba (λf1 h1 hr v l2 hv junk w hS=>K f1 h1 hr v l2 hv junk w hS) c fr pc junk w hnd hdj hj hc (hS.pick hn hp)
end ZU
theorem ja.last {o:Oper} (hop:ops[i]?=some o) (hg:o.guard=none) (h:ai P β N #[o] 0 fr hps (NP Q)):ja P β N ops S [.one i] [] fr hps Q:=by
 grind [sM,pX,jq,lK,NP,cr,ai,ja]
end mix
end
section
open Go.RowKit
section order
variable {P:Program} {ops:Array Oper} {Q Q':Post} {n:Nat} {S:World->Prop} {j:Nat} {l2:List (Bool×Nat)}
def qf (P:Program) (ops:Array Oper) (Q:Post) (S:World->Prop) (j:Nat) (l2:List (Bool×Nat)):List (Bool×Nat)->Act->World->Prop
 |[],a,w=>wpOp P ops Q j (λa' w'=>S w'/\jD P ops Q S l2 a' w') a w
 |(false,i)::l,a,w=>wpOp P ops Q i (λa' w'=>S w'/\qf P ops Q S j l2 l a' w') a w/\wpOp P ops Q j (λa' w'=>S w'/\jD P ops Q S ((false,i)::(l++l2)) a' w') a w
 |(true,i)::l,a,w=>∃o v,ops[i]?=some o/\YieldsIf P ops S o v a/\qf P ops Q S j l2 l (a.put o.dst v) w
def Ab (ops:Array Oper) (n j:Nat) (l2:List (Bool×Nat)):List (Bool×Nat)->Array Bool->Bool
 |[],listed=>(Region.ready .any ops listed == [j]) && xh ops n l2 (listed.setIfInBounds j true)
 |(false,i)::l,listed=>(Region.ready .any ops listed == (if i<j then [i,j] else [j,i])) && Ab ops n j l2 l (listed.setIfInBounds i true) && xh ops n ((false,i)::(l++l2)) (listed.setIfInBounds j true)
 |(true,i)::l,listed=>decide (i<n) && Region.free .any ops listed i && (Region.ready .any ops listed).contains i && Ab ops n j l2 l (listed.setIfInBounds i true)
theorem Et (hsel:Region.noSelect ops=true) (mV:Region.sinkB .any ops n=true):∀(l:List (Bool×Nat)) (listed:Array Bool) (a:Act) (w:World),Ab ops n j l2 l listed=true->Closed ops listed->S w->qf P ops (NP Q) S j l2 l a w->jy P ops (NP Q) n S (l.length+(l2.length+1)) listed a w
 |[],listed,a,w,hb,hc,_,h=>by
   unfold Ab at hb
   simp only [Bool.and_eq_true,beq_iff_eq] at hb
   obtain⟨h1,h3⟩:=hb
   rw [List.length_nil,Nat.zero_add]
   refine⟨λh0=>(by rw [h1] at h0;cases h0),λk hk=>?_⟩
   have hr:=hk
   rw [h1] at hk
   have hk:k=j:=by simpa using hk
   subst hk
   exact wpOp_mono (λa' w' h4=>⟨.inr h4.1,vZ hsel mV l2 _ a' w' h3 (hc.set hr) (.inr h4.1) h4.2⟩) h
 |(false,i)::l,listed,a,w,hb,hc,_,h=>by
   unfold Ab at hb
   simp only [Bool.and_eq_true,beq_iff_eq] at hb
   obtain⟨⟨h1,h2⟩,h3⟩:=hb
   rw [List.length_cons,Nat.succ_add]
   refine⟨λh0=>(by rw [h1] at h0;split at h0<;>cases h0),λk hk=>?_⟩
   have hr:=hk
   rw [h1] at hk
   have hk:k=i\/k=j:=by
    split at hk<;>(simp at hk;omega)
   rcases hk with rfl|rfl
   ·exact wpOp_mono (λa' w' h4=>⟨.inr h4.1,Et hsel mV l _ a' w' h2 (hc.set hr) h4.1 h4.2⟩) h.1
   refine wpOp_mono (λa' w' h4=>⟨.inr h4.1,?_⟩) h.2
   have:=vZ hsel mV ((false,i)::(l++l2)) _ a' w' h3 (hc.set hr) (.inr h4.1) h4.2
   rw [List.length_cons,List.length_append] at this
   exact this
 |(true,i)::l,listed,a,w,hb,hc,hS,h=>by
   unfold Ab at hb
   simp only [Bool.and_eq_true,decide_eq_true_iff] at hb
   obtain⟨⟨⟨h1,h2⟩,h3⟩,h4⟩:=hb
   obtain⟨o,v,ho,hy,hk⟩:=h
   have hr:i∈Region.ready .any ops listed:=by simpa using h3
   rw [List.length_cons,Nat.succ_add]
   exact sC ho hsel mV h1 _ listed a w hc (Region.free_spec ho h2) hr hy hS (Et hsel mV l _ _ w h4 (hc.set hr) hS hk)
def OT (ops:Array Oper) (j:Nat) (l l2:List (Bool×Nat)):Bool:=
 Region.noSelect ops && Region.sinkB .any ops (ops.size-1) && (l.length+(l2.length+1) == ops.size) && Ab ops (ops.size-1) j l2 l (Array.replicate ops.size false)
end order
section mix
variable {P:Program} {β:Bs} {N:dx} {ops:Array Oper} {S:List HP} {l l' l2:List (Bool×Nat)} {fr fr':Fr} {hps:List HP} {Q:Post} {cG:List Prop} {i j:Nat}
def uT (P:Program) (β:Bs) (N:dx) (ops:Array Oper) (S:List HP) (j:Nat) (l2 l:List (Bool×Nat)) (fr:Fr) (hps:List HP) (Q:Post):Prop:=
 ∀junk w,Sat β hps w->qf P ops (NP Q) (Sat β S) j l2 l (cr N fr junk) w
theorem ah.C0 {id:Nat} (j:Nat) (l l2:List (Bool×Nat)) (hm:P.follows .mixedOrders=true) (hB:OT ops j l l2=true) (hp:∀w,Sat β hps w->Sat β S w) (h:uT P β N ops S j l2 l fr hps Q):ah P β N (.region id ops true) fr hps Q:=by
 intro junk w hS
 unfold OT at hB
 simp only [Bool.and_eq_true,beq_iff_eq] at hB
 obtain⟨⟨⟨h1,h2⟩,h3⟩,h4⟩:=hB
 have dY:=hS.drewN 1
 have h5:=Et (Q:=Q) h1 h2 l _ _ _ h4 (λj oj _ hl=>by simp [Array.getD_eq_getD_getElem?,Array.getElem?_replicate] at hl;split at hl<;>simp at hl) (hp _ dY) (h junk (w.drewN 1) dY)
 rw [h3] at h5
 refine Code.wp_mono (λe a w q=>?_) (wp_region_any hm (qm _ _ _ _ h5))
 cases e with
 |normal=>exact q
 |exit id=>exact q.elim
 |goto l=>exact q.elim
 |ret=>exact q.elim
 |panic ch=>exact q.elim
 |outgrown=>exact q.elim
theorem wQ {junk:Nat->Value} {w:World}:∀{hs:List OH} {is:List Nat} {fr fr':Fr} {T T':SS},oe P β N junk ops hs is fr T=some (fr',T')->(∀p,p∈T'.cG->p)->T.used=true->T.hps=S →
 qf P ops (NP Q) (Sat β S) j l2 l (cr N fr' junk) w->qf P ops (NP Q) (Sat β S) j l2 (is.map (λi=>(true,i))++l) (cr N fr junk) w
 |[],[],fr,fr',T,T',h,ho,hu,hT,hK=>by cases h;exact hK
 |h::hs,i::is,fr,fr',T,T',hr,ho,hu,hT,hK=>by
   unfold oe at hr
   repeat' split at hr
   all_goals first|(cases hr;done)|skip
   ·rename_i o hget _ hwant _ v T1 h0 _ hv
    obtain⟨e1,e2⟩:=vG h0
    rw [List.map_cons,List.cons_append]
    unfold qf
    refine⟨o,v,hget,.inl ⟨by rw [fq];exact hwant,λw' dY=>?_⟩,?_⟩
    ·rw [fO]
     obtain⟨w2,h1,_,_,h4⟩:=mT h0 (λp hp=>ho p (vr hr p hp)) (by rw [hT];exact dY) (λe=>by rw [hu] at e;cases e)
     obtain⟨ew,_⟩:=h4 rfl
     rw [ew] at h1
     rcases h1 with h1|⟨h1,_⟩
     ·exact h1
     exact absurd h1 (rJ hv)
    rw [eP]
    exact wQ hr ho (e2.trans hu) (e1.trans hT) hK
   rename_i o hget _ hwant
   rw [List.map_cons,List.cons_append]
   unfold qf
   refine⟨o,undef,hget,.inr ⟨by rw [fq];exact hwant,rfl⟩,?_⟩
   rw [eP]
   exact wQ hr ho hu hT hK
 |[],_::_,_,_,_,_,h,_,_,_,_=>by cases h
 |_::_,[],_,_,_,_,h,_,_,_,_=>by cases h
theorem gJ (l3:List (Bool×Nat)) (AY:Fr) (is:List Nat) (os:List (Nat×OP)) (K:uT P β N ops S j l2 l3 AY hps Q)
 (h:∀junk,q6 P β N junk ops (bM (bX is.length os 0)) is fr S (aN AY)=some (AY,owed (bX is.length os 0)):=by intro _;kernel_rfl) (hl:l'=is.map (λi=>(true,i))++l3:=by rfl):uT P β N ops S j l2 l' fr hps Q:=by
 intro junk w hS
 subst hl
 have h0:=h junk
 unfold q6 at h0
 split at h0
 ·rename_i o5 S1 h1
  injection h0 with h0
  injection h0 with ha hb
  have hK:=K (lk o5 junk) w hS
  rw [←ha,←lq] at hK
  refine wQ h1 (λp hp=>?_) rfl rfl hK
  rw [hb] at hp
  exact (q4 _).mem hp
 cases h0
def fo (P:Program) (β:Bs) (N:dx) (ops:Array Oper) (Q:Post) (S:List HP) (G:List HP->Prop) (dj:Nat):List (Bool×Nat×Nat)->Fr->List HP->(Fr->List HP->Prop)->Prop
 |[],fr,hps,R=>R fr hps
 |(false,i,d)::c,fr,hps,R=>(jx d (aN fr)=false/\d≠dj)/\∃q:Value->List HP->Prop,ia P β N ops Q i d [d,dj] fr hps q/\∀v l,q v l->G l/\fo P β N ops Q S G dj c ((d,v)::fr) l R
 |(true,i,d)::c,fr,hps,R=>(jx d (aN fr)=false/\d≠dj)/\∃o v,ops[i]?=some o/\o.dst=some d/\(∀junk,YieldsIf P ops (Sat β S) o v (cr N fr junk))/\fo P β N ops Q S G dj c ((d,v)::fr) hps R
theorem fo.step {G:List HP->Prop} {dj d:Nat} {c:List (Bool×Nat×Nat)} {R:Fr->List HP->Prop} {q:Value->List HP->Prop} (h:ia P β N ops Q i d [d,dj] fr hps q) (h1:(!jx d (aN fr) && decide (d≠dj))=true) (K:∀v l,q v l->G l/\fo P β N ops Q S G dj c ((d,v)::fr) l R):fo P β N ops Q S G dj ((false,i,d)::c) fr hps R:=by
 grind [ia,jx,aN,fo]
theorem fo.read {G:List HP->Prop} {dj d:Nat} {c:List (Bool×Nat×Nat)} {R:Fr->List HP->Prop} {v:Value} (h:∀junk,q6 P β N junk ops [o_] [i] fr S (d::aN fr)=some ((d,v)::fr,[])) (hd:(ops[i]?).map Oper.dst=some (some d)) (h1:(!jx d (aN fr) && decide (d≠dj))=true) (K:fo P β N ops Q S G dj c ((d,v)::fr) hps R):fo P β N ops Q S G dj ((true,i,d)::c) fr hps R:=by
 simp only [Bool.and_eq_true,Bool.not_eq_true',decide_eq_true_iff] at h1
 obtain⟨o,ho,hod⟩:=Option.map_eq_some_iff.1 hd
 refine⟨h1,o,v,ho,hod,λjunk=>?_,K⟩
 have h0:=h junk
 unfold q6 at h0
 split at h0
 ·rename_i o5 S1 hr
  injection h0 with h0
  injection h0 with ha hb
  unfold oe at hr
  rw [ho] at hr
  simp only at hr
  repeat' split at hr
  all_goals first|(cases hr;done)|skip
  ·rename_i _ hwant _ v1 T1 hrun _ hv
   unfold oe at hr
   injection hr with hr
   injection hr with hr1 hr2
   have hv1:v1=v:=by
    grind [lk,iG,cI,aN,ic]
   refine .inl ⟨by rw [fq];exact hwant,λw' dY=>?_⟩
   rw [fO]
   obtain⟨w2,g1,_,_,g4⟩:=mT hrun (λp hp=>by rw [hr2,hb] at hp;cases hp) (by exact dY) (λe=>by cases e)
   obtain⟨ew,_⟩:=g4 rfl
   rw [ew] at g1
   rcases g1 with g1|⟨g1,_⟩
   all_goals grind [rJ]
  rename_i _ hwant
  unfold oe at hr
  injection hr with hr
  injection hr with hr1 hr2
  have hv1:undef=v:=by
   grind [lk,iG,cI,aN,ic]
  exact .inr ⟨by rw [fq];exact hwant,hv1.symm⟩
 cases h0
theorem JT {Z S1:List HP} {pS:List Nat} (hn:nodupB pS=true) (hp:bh Z pS=some S1) (h X:List HP) (w:World) (_:True) (hS:Sat β (h++(X++Z)) w):Sat β S1 w:=by
 rw [←List.append_assoc] at hS
 obtain⟨β',h1,_,h3⟩:=(Sat.turn hS).uQ
 exact (h3.J1 h1.le).pick hn hp
section ZU
variable {dj:Nat} {Z pj:List HP} {qj:Value->List HP->Prop} {R:Fr->List HP->Prop} {G:List HP->Prop}
theorem C2 {v:Value} {junk:Nat->Value} (hv:junk dj=v) (hdj:jx dj (aN fr)=false):cr N fr junk=cr N ((dj,v)::fr) junk:=qz λt=>by
 rw [ic]
 by_cases e1:dj=t
 ·subst e1;rw [if_pos rfl,pZ (λhm=>by rw [jA.2 hm] at hdj;cases hdj),hv]
 rw [if_neg e1]
theorem Ac {d:Nat} {v:Value} (h1:d≠dj) (hdj:jx dj (aN fr)=false):jx dj (aN ((d,v)::fr))=false:=by
 grind [jx,aN,jA]
abbrev OU (c:List (Bool×Nat×Nat)):List (Bool×Nat):=c.map (λx=>(x.1,x.2.1))
theorem Ad {v:Value} {lp:List HP} (hG:∀h X w,G h->Sat β (h++(X++Z)) w->Sat β S w) (hK:∀f1 h1,R f1 h1->∀junk w,Sat β (h1++(lp++Z)) w->jD P ops (NP Q) (Sat β S) l2 (cr N ((dj,v)::f1) junk) w) :
 ∀(c:List (Bool×Nat×Nat)) (fr:Fr) (hps:List HP) (junk:Nat->Value) (w:World),jx dj (aN fr)=false->fo P β N ops Q S G dj c fr hps R->junk dj=v->Sat β (hps++(lp++Z)) w->jD P ops (NP Q) (Sat β S) (OU c++l2) (cr N fr junk) w
 |[],fr,hps,junk,w,hdj,hc,hv,hS=>by
   show jD _ _ _ _ l2 _ _
   rw [C2 hv hdj]
   exact hK fr hps hc junk w hS
 |(false,i,d)::c,fr,hps,junk,w,hdj,⟨⟨h1,h2⟩,q,h3,h4⟩,hv,hS=>by
   show jD _ _ _ _ ((false,i)::(OU c++l2)) _ _
   unfold jD
   refine h3.at_ (X:=[]) hS (λv' l j2 w' g1 g2 g3 g4=>?_)
   obtain⟨k1,k2⟩:=h4 v' l g1
   refine⟨.inr (hG l lp w' k1 g4),?_⟩
   rw [C2 g2 h1]
   exact Ad hG hK c _ l j2 w' (Ac h2 hdj) k2 ((g3 dj (by simp) (λe=>h2 e.symm)).trans hv) g4
 |(true,i,d)::c,fr,hps,junk,w,hdj,⟨⟨h1,h2⟩,o,v',h3,h4,h5,h6⟩,hv,hS=>by
   show jD _ _ _ _ ((true,i)::(OU c++l2)) _ _
   unfold jD
   refine⟨o,v',h3,h5 junk,?_⟩
   rw [h4,eP]
   exact Ad hG hK c _ hps junk w (Ac h2 hdj) h6 hv hS
theorem Af {j:Nat} (hG:∀h X w,G h->Sat β (h++(X++Z)) w->Sat β S w) (hK:∀f1 h1,R f1 h1->∀v lp,qj v lp->∀junk w,Sat β (h1++(lp++Z)) w->jD P ops (NP Q) (Sat β S) l2 (cr N ((dj,v)::f1) junk) w) :
 ∀(c:List (Bool×Nat×Nat)) (fr:Fr) (hps:List HP) (junk:Nat->Value) (w:World),nodupB (c.map (·.2.2))=true->jx dj (aN fr)=false->ia P β N ops Q j dj (dj::c.map (·.2.2)) fr pj qj->fo P β N ops Q S G dj c fr hps R->G hps->Sat β (hps++(pj++Z)) w->qf P ops (NP Q) (Sat β S) j l2 (OU c) (cr N fr junk) w
 |[],fr,hps,junk,w,_,hdj,hj,hc,hg,hS=>by
   show wpOp P ops (NP Q) j _ _ _
   refine hj.at_ (X:=hps) hS (λv l j2 w' g1 g2 g3 g4=>⟨hG hps l w' hg g4,?_⟩)
   rw [C2 g2 hdj]
   exact hK fr hps hc v l g1 j2 w' g4
 |(false,i,d)::c,fr,hps,junk,w,hnd,hdj,hj,hc,hg,hS=>by
   have hc0:=hc
   obtain⟨⟨h1,h2⟩,q,h3,h4⟩:=hc
   have hout:d∉aN fr:=λhm=>by rw [jA.2 hm] at h1;cases h1
   have sF:d∉c.map (·.2.2)/\nodupB (c.map (·.2.2))=true:=by
    have hx:nodupB (d::c.map (·.2.2))=true:=hnd
    unfold nodupB at hx
    simp only [Bool.and_eq_true] at hx
    exact⟨λhm=>by have h:=hx.1;simp_all,hx.2⟩
   refine⟨h3.at_ (X:=[]) hS (λv' l j2 w' g1 g2 g3 g4=>?_),hj.at_ (X:=hps) hS (λv l j2 w' g1 g2 g3 g4=>⟨hG hps l w' hg g4,?_⟩)⟩
   ·obtain⟨k1,k2⟩:=h4 v' l g1
    refine⟨hG l pj w' k1 g4,?_⟩
    rw [C2 g2 h1]
    exact Af hG hK c _ l j2 w' sF.2 (Ac h2 hdj) (hj.grow hout h2 sF.1 v') k2 k1 g4
   exact Ad hG (λf1 h1 hr=>hK f1 h1 hr v l g1) ((false,i,d)::c) fr hps j2 w' hdj hc0 g2 g4
 |(true,i,d)::c,fr,hps,junk,w,hnd,hdj,hj,⟨⟨h1,h2⟩,o,v',h3,h4,h5,h6⟩,hg,hS=>by
   have hout:d∉aN fr:=λhm=>by rw [jA.2 hm] at h1;cases h1
   have sF:d∉c.map (·.2.2)/\nodupB (c.map (·.2.2))=true:=by
    have hx:nodupB (d::c.map (·.2.2))=true:=hnd
    unfold nodupB at hx
    simp only [Bool.and_eq_true] at hx
    exact⟨λhm=>by have h:=hx.1;simp_all,hx.2⟩
   show qf _ _ _ _ _ _ ((true,i)::OU c) _ _
   unfold qf
   refine⟨o,v',h3,h5 junk,?_⟩
   rw [h4,eP]
   exact Af hG hK c _ hps junk w sF.2 (Ac h2 hdj) (hj.grow hout h2 sF.1 v') h6 hg hS
theorem uT.beside {j:Nat} {pc:List HP} (pk:List Nat) (G:List HP->Prop) (c:List (Bool×Nat×Nat)) (hn:nodupB pk=true) (hp:bh hps pk=some (pc++(pj++Z))) (hl:l=OU c) (hG:∀h X w,G h->Sat β (h++(X++Z)) w->Sat β S w) (hg:G pc) (hnd:nodupB (c.map (·.2.2))=true) (hdj:jx dj (aN fr)=false)
 (hj:ia P β N ops Q j dj (dj::c.map (·.2.2)) fr pj qj) (hc:fo P β N ops Q S G dj c fr pc R)
 (K:∀f1 h1,R f1 h1->∀v lp,qj v lp->eM P β N ops S l2 ((dj,v)::f1) (h1++(lp++Z)) Q):uT P β N ops S j l2 l fr hps Q:=by
 intro junk w hS
 subst hl
 exact Af hG (λf1 h1 hr v lp hv junk w hS=>K f1 h1 hr v lp hv junk w hS) c fr pc junk w hnd hdj hj hc hg (hS.pick hn hp)
end ZU
end mix
end
section
open Go.RowKit Go.Maps aR ak
attribute [local irreducible] ai aQ ah aj eM uT
noncomputable abbrev ef (Y:RL) (Z:RS):=(.abs (aq 75 10 Y.A Z.ns.length Y.c (aJ Y.L Z.ns)):HP)
noncomputable abbrev dP (Y:RL) (Z:RS):=(.abs (aq 3 1 Y.G Z.gone.length Y.cg (ints Z.gone)):HP)
noncomputable abbrev SJ (Ag)(l:List Int) (cg):=(.abs (aq 3 1 Ag l.length cg (ints l)):HP)
noncomputable abbrev ZV (A1:Option Addr) (Z:RS) (k:Nat) (c1:Nat):=(.abs (aq 3 1 A1 ((ins (ak.least Z.us) (nd Z.ns k).id Z.us).length) c1 (ints (keys (ins (ak.least Z.us) (nd Z.ns k).id Z.us)))):HP)
noncomputable abbrev WV (B1)(Z:RS) (k:Nat) (d1):=(.abs (aq 3 1 B1 ((ins (ak.least Z.us) (nd Z.ns k).id Z.us).length) d1 (ints (fN (ins (ak.least Z.us) (nd Z.ns k).id Z.us)))):HP)
noncomputable abbrev ZW (qR:Nat) (Z:RS) (A1:Option Addr) (k:Nat) (c1:Nat) (B1) (d1):=(.blk qR [vI (Z.cH),vI ((max Z.ar ((Z.us.length:Int)+1))),.slice A1 ((ins (ak.least Z.us) (nd Z.ns k).id Z.us).length) (c1),.slice B1 ((ins (ak.least Z.us) (nd Z.ns k).id Z.us).length) (d1)] 40:HP)
noncomputable abbrev WW (fU:Nat) (vg:Nat) (An:Option Addr) (p:List au) (cn:Nat) (Ag) (l:List Int) (cg) (i:Nat):=([(1,vP fU),(2,vP vg),(3,.slice An (p.length) (cn)),(4,.slice Ag (l.length) (cg)),(5,vI ↑i)]:Fr)
noncomputable abbrev ZX (Z:RS):=([(6,vI (Z.cN)),(7,vI (Z.cB)),(8,vI (Z.cH)),(9,vI (Z.cS)),(10,vI (Z.cZ)),(11,vI (Z.last))]:Fr)
noncomputable abbrev WX (b1:Nat) (b2:Nat) (Ao) (q:List cR) (ca):=([(4,vP b1),(8,vP b2),(9,.slice Ao (q.length) (ca))]:Fr)
noncomputable abbrev mq (b1:Nat) (Z) (Y:RL) (b2:Nat):=([.blk b1 (rV Z Y) 42,.blk b2 (rZ) 42]:List HP)
noncomputable abbrev ZY (nV:Nat) (sj:Nat) (Z:RS) (Y:RL) (k:Nat):=([(2,vP nV),(4,vP sj),(12,.agg #[vI (Z.cH),vI (Z.ar),.slice Y.H (Z.us.length) (Y.ch),.slice Y.V (Z.us.length) (Y.cv)]),(19,vI ((nd Z.ns k).id))]:Fr)
noncomputable abbrev Z0 (Z:RS) (A1:Option Addr) (k:Nat) (c1:Nat) (B1) (d1):=([(3,vI ((max Z.ar ((Z.us.length:Int)+1)))),(4,.slice A1 ((ins (ak.least Z.us) (nd Z.ns k).id Z.us).length) (c1)),(5,.slice B1 ((ins (ak.least Z.us) (nd Z.ns k).id Z.us).length) (d1))]:Fr)
noncomputable abbrev Z2 (Z:RS) (Y:RL):=([(2,vI (Z.cH)),(3,vI (Z.ar)),(4,.slice Y.H (Z.us.length) (Y.ch)),(5,.slice Y.V (Z.us.length) (Y.cv))]:Fr)
theorem xR {β:Bs} (Z:RS) (Y:RL) (hI:jl β Z Y.L Y.H Y.V) (hB:RB Z) (d:Nat) (hd:d<Z.ns.length) (name:ByteArray) (id:Int) :
 bV Tryz.prog β 81 #[.agg ⟨rV Z Y⟩,vI (((d:Nat):Int)),.string name,vI (id)] [ef Y Z,dP Y Z] (λβ' v l=>∃L',v=.agg ⟨rV (bE Z d name id) Y⟩/\l=[.abs (aq 75 10 Y.A ((bE Z d name id).ns.length) Y.c (aJ L' (bE Z d name id).ns)),.abs (aq 3 1 Y.G ((bE Z d name id).gone.length) Y.cg (ints (bE Z d name id).gone))]/\jl β' (bE Z d name id) L' Y.H Y.V):=by
 refine o6 Tryz.func81 Tryz.ntmps81 (λhle0 R=>SR (jB 1 [4] (λb1=>.blk b1 (rV Z Y) 42) (λb1=>jB 1 [8] (λb2=>.blk b2 (rZ) 42) (λb2=>NS (jB 2 [9] (λb3=>.blk b3 [] 90) (λb3=>NS (ai.mem (λw hS=>hS.oI (i:=5) (b:=b3) (cs:=[]) (e:=90) 2 0 (by kernel_rfl) rfl (by decide)) (jK 1 [10] [] (NS (ai.oZ 0 rfl (by omega) (λjc=>jK 8 [11] [(2,a_ 3 b1),(4,x_ d Z.ns.length (jc)),(6,v_ 0 (nA Z.ns Y.L Y.A Y.c d 9 hd rfl))] (NZ (jK 1 [12] [] (NN (ah.block (lJ (ι:=Nat×Bool×(List cR)×(Option Addr)×Nat) (λ(j,put,q,Ao,ca)=>(j<=(nd Z.ns d).af.length)/\(dO (nd Z.ns d).af name id j put q)) (λ(j,put,q,Ao,ca)=>(nd Z.ns d).af.length-j) (λ(j,put,q,Ao,ca)=>([(1,vI ↑d),(2,.string name),(3,vI (id))]++WX b1 b2 Ao q ca++[(10,.bool put),(11,.slice (Y.L.eA d) ((nd Z.ns d).af.length) ((Y.L.eC d))),(12,vI ↑j)])) (λ(j,put,q,Ao,ca)=>(mq b1 Z Y b2++[ef Y Z,dP Y Z,.abs (aq 90 2 Ao q.length ca (jX q)),.abs R])) (0,false,[],some ⟨b3,0,none⟩,0) [3,4,0,1,5,2] (⟨Nat.zero_le _,dO.start⟩) ?_))))))))))))))))
 rintro⟨j,put,q,Ao,ca⟩ ⟨hj,he⟩
 have sZ:=he.len hj
 have hrw:=hB.row hd
 refine SQ (jK 4 [24] [] (NN (cP ((((j:Nat):Int):Int)<((((nd Z.ns d).af.length:Nat):Int):Int)) (λpR=>?_) (λpR=>?_))))
 ·refine KX (ah.seq (ah.block (ah.join (ι:=Bool×(List cR)×(Option Addr)×Nat) (λ(p1,q1,A1,c1)=>(dO (nd Z.ns d).af name id (j+1) p1 (q1++[en (nd Z.ns d).af j]))/\(q1.length<=j+2)) (λ(p1,q1,A1,c1)=>([(1,vI ↑d),(2,.string name),(3,vI (id))]++WX b1 b2 A1 q1 c1++[(10,.bool p1),(11,.slice (Y.L.eA d) ((nd Z.ns d).af.length) ((Y.L.eC d))),(12,vI ↑j)])) (λ(p1,q1,A1,c1)=>(mq b1 Z Y b2++[ef Y Z,dP Y Z,.abs (aq 90 2 A1 q1.length c1 (jX q1)),.abs R])) ?_ ?_)))
  ·rintro⟨p1,q1,A1,c1⟩ ⟨he1,hl1⟩
   exact ah.region (jN 6 [44,49] (λb4=>[(3,x_ j ((nd Z.ns d).af.length) (bp.hd (hI.af d hd) (i:=j) (by omega))),(4,r2 (bp.rd (hI.af d hd) (i:=j) (by omega) (j:=0) rfl) (bp.rd (hI.af d hd) (i:=j) (by omega) (j:=1) rfl))]) (λ_=>[]) (λb4=>.blk b4 [.string (en (nd Z.ns d).af j).name,vI ((en (nd Z.ns d).af j).id)] 90) (λb4=>kH 4 73 (some ⟨b4,0,none⟩) 1 1 [.string (en (nd Z.ns d).af j).name,vI ((en (nd Z.ns d).af j).id)] rfl (dI (j:=6) rfl) (λA5 c6=>ai.bL 4 rfl (zX (e:=(en (nd Z.ns d).af j))) (sl 50 (.slice A5 (q1.length+1) (c6)) (.slice A5 ((q1++[(en (nd Z.ns d).af j)]).length) (c6)) (by rw [←kU]) (jK 1 [9] [] (LX (ah.region (jK 3 [12] [(1,wJ ((j:Int)+1) (↑(j+1)))] (NL (tJ ((j+1),p1,(q1++[(en (nd Z.ns d).af j)]),A5,c6) [0,1,2,3,4,5] (⟨by omega,he1⟩)))))))))))
  refine SR (jK 3 [29] [] (ai.mA 29 (!put) (λ_=>by kernel_rfl) (λyZ=>jK 8 [37] [(2,x_ j ((nd Z.ns d).af.length) (bp.hd (hI.af d hd) (i:=j) (by omega))),(4,r_ (bp.rd (hI.af d hd) (i:=j) (by omega) (j:=0) rfl)),(6,w_ (.bool (!(decide (fM ((en (nd Z.ns d).af j).name) name)))) (ZQ _ _))] (NN (cN (fM ((en (nd Z.ns d).af j).name) name) (λuZ=>SR ?_) (λuZ=>ah.skip (mJ (put,q,Ao,ca) [0,1,2,3,4,5] (⟨he.keep (by omega) (λ_=>uZ),by omega⟩)))))) (λyZ=>jK 8 [37] [] (NF (ah.skip (mJ (put,q,Ao,ca) [0,1,2,3,4,5] (⟨he.keep (by omega) (λe=>by rw [e] at yZ;cases yZ),by omega⟩)))))))
  have hl1:=kU (q:=q) (e:=(⟨name,id⟩:cR))
  exact jB 5 [38,42] (λb7=>.blk b7 [.string name,vI (id)] 90) (λb7=>kH 4 73 (some ⟨b7,0,none⟩) 1 1 [.string name,vI (id)] rfl (dI (j:=6) rfl) (λA8 c9=>ai.bL 4 rfl (zX (e:=(⟨name,id⟩:cR))) (sl 43 (.slice A8 (q.length+1) (c9)) (.slice A8 ((q++[(⟨name,id⟩:cR)]).length) (c9)) (by rw [←kU]) (jK 1 [9] [] (NN (ah.region (jK 1 [10] [] (NL (mJ (true,(q++[(⟨name,id⟩:cR)]),A8,c9) [0,1,2,3,4,5] (⟨dO.put ((show put=false by simpa using yZ) ▸ he) (by omega) uZ,by omega⟩))))))))))
 refine XX (ah.join (ι:=(List cR)×(Option Addr)×Nat) (λ(q2,A2,c2)=>(q2=(jP name id (nd Z.ns d).af))) (λ(q2,A2,c2)=>([(1,vI ↑d)]++WX b1 b2 A2 q2 c2)) (λ(q2,A2,c2)=>(mq b1 Z Y b2++[ef Y Z,dP Y Z,.abs (aq 90 2 A2 q2.length c2 (jX q2)),.abs R])) ?_ (SR (jK 2 [52] [] (NN (ah.cond (b:=(!put)) (λ_=>by kernel_rfl) (λxu=>ah.region (jB 5 [53,57] (λb10=>.blk b10 [.string name,vI (id)] 90) (λb10=>kH 4 73 (some ⟨b10,0,none⟩) 1 1 [.string name,vI (id)] rfl (dI (j:=6) rfl) (λDF c12=>ai.bL 4 rfl (zX (e:=(⟨name,id⟩:cR))) (sl 58 (.slice DF (q.length+1) (c12)) (.slice DF ((q++[(⟨name,id⟩:cR)]).length) (c12)) (by rw [←kU]) (jK 1 [9] [] (NL (mJ ((q++[(⟨name,id⟩:cR)]),DF,c12) [0,1,2,3,4,5] (dO.last (by grind)))))))))) (λxu=>ah.skip (mJ (q,Ao,ca) [0,1,2,3,4,5] (dO.end_ (by grind)))))))))
 rintro⟨q2,A2,c2⟩ OB
 refine SR ?_
 subst OB
 refine ai.kP (Φ:=λβ'=>bp β' A2 (jP name id (nd Z.ns d).af)) 4 [0,1,2,3,5] (dS:=(mq b1 Z Y b2++[ef Y Z,dP Y Z,.abs R])) rfl rfl (by kernel_rfl) (λF w h β' h1 h2=>bW.gF h h1 h2) (λβ1 aF hE=>?_)
 replace hI:=hI.le aF
 replace hle0:=hle0.trans aF
 exact jK 7 [63,65] [(2,a_ 0 b1),(5,x_ d Z.ns.length (jc))] (ai.vQ 2 (d*10+9) (d:=none) (T:=73) (e:=75) (size:=10) (n:=Z.ns.length) (cap:=Y.c) (A:=Y.A) (xs:=(aJ Y.L Z.ns)) (u:=.slice A2 ((jP name id (nd Z.ns d).af).length) (c2)) (a:=(.tmp 65)) (y:=(.tmp 63)) (λ_=>by kernel_rfl) (by kernel_rfl) (λ_=>by kernel_rfl) (λ_=>by kernel_rfl) (by kernel_rfl) rfl (by omega) (by rw [kK];omega) (NS (jK 9 [72,74] [(2,a_ 0 b1),(6,A_ 0 b1 2),(7,x_ d Z.ns.length (jc))] (ai.zW 2 (d*10+5) (d:=none) (T:=26) (e:=75) (size:=10) (n:=Z.ns.length) (cap:=Y.c) (A:=Y.A) (xs:=((aJ Y.L Z.ns).set (d*10+9) (.slice A2 ((jP name id (nd Z.ns d).af).length) (c2)))) (u:=.int .i64 (Z.cS)) (u2:=.int .i64 (Z.cZ)) (a:=(.tmp 74)) (y:=(.tmp 72)) (λ_=>by kernel_rfl) (by kernel_rfl) (λ_=>by kernel_rfl) (λ_=>by kernel_rfl) (by kernel_rfl) rfl rfl (by omega) (by rw [List.length_set,kK];omega) (ai.bL 2 rfl (OG hd rfl) (NS (jC 2 [] [(0,A_ 0 b1 12),(1,A_ 1 b2 12)] [(1,(zC (rV Z Y)))] (eO (l:=[.abs (aq 75 10 Y.A ((bE Z d name id).ns.length) Y.c (aJ (Y.L.ent d A2 c2) (bE Z d name id).ns)),dP Y Z]) (v:=(.agg ⟨rV Z Y⟩)) [A_ 1 b2 12] hle0 ⟨_,by simp only [rV];rw [yX];rfl,rfl,hI.kq hd hE rfl rfl⟩ [2,3,4]))))))))
theorem xS {β:Bs} (Z:RS) (Y:RL) (hI:jl β Z Y.L Y.H Y.V) {n:Nat} (hD:RD n Z) (hn:n<=7) (d:Nat) (hd:d<Z.ns.length) (name:ByteArray) (free:Bool) :
 bV Tryz.prog β 115 #[.agg ⟨rV Z Y⟩,vI (((d:Nat):Int)),.string name,.bool free] [ef Y Z,dP Y Z] (λβ' v l=>∃L' G' cg',v=.agg ⟨rW (bC Z d name free) Y.A Y.c G' cg' Y.H Y.ch Y.V Y.cv⟩/\l=[.abs (aq 75 10 Y.A ((bC Z d name free).ns.length) Y.c (aJ L' (bC Z d name free).ns)),.abs (aq 3 1 G' ((bC Z d name free).gone.length) cg' (ints (bC Z d name free).gone))]/\jl β' (bC Z d name free) L' Y.H Y.V):=by
 refine o6 Tryz.func115 Tryz.ntmps115 (λhle0 R=>SR (jB 1 [4] (λb13=>.blk b13 (rV Z Y) 42) (λb13=>jB 1 [8] (λb14=>.blk b14 (rZ) 42) (λb14=>NS (jB 2 [9] (λb15=>.blk b15 [] 90) (λb15=>NS (ai.mem (λw hS=>hS.oI (i:=5) (b:=b15) (cs:=[]) (e:=90) 2 0 (by kernel_rfl) rfl (by decide)) (ai.oZ 0 rfl (by omega) (λjc=>jK 8 [10] [(2,a_ 3 b13),(4,x_ d Z.ns.length (jc)),(6,v_ 0 (nA Z.ns Y.L Y.A Y.c d 9 hd rfl))] (NS (jK 1 [11] [] (NZ (jK 1 [12] [] (NN (ah.block (lJ (ι:=Nat×(List cR)×Int×(Option Addr)×Nat) (λ(j,q,z,Ao,ca)=>(j<=(nd Z.ns d).af.length)/\(q=oW name ((nd Z.ns d).af.take j))/\(z=ox name ((nd Z.ns d).af.take j) 0)) (λ(j,q,z,Ao,ca)=>(nd Z.ns d).af.length-j) (λ(j,q,z,Ao,ca)=>([(1,vI ↑d),(2,.string name),(3,.bool free)]++WX b13 b14 Ao q ca++[(10,.slice (Y.L.eA d) ((nd Z.ns d).af.length) ((Y.L.eC d))),(11,vI (z)),(12,vI ↑j)])) (λ(j,q,z,Ao,ca)=>(mq b13 Z Y b14++[ef Y Z,dP Y Z,.abs (aq 90 2 Ao q.length ca (jX q)),.abs R])) (0,[],0,some ⟨b15,0,none⟩,0) [3,4,0,1,5,2] (⟨Nat.zero_le _,rfl,rfl⟩) ?_))))))))))))))))
 rintro⟨j,q,z,Ao,ca⟩ ⟨hj,hq,hz⟩
 have sZ:q.length<=j:=by rw [hq];exact VA
 have hrw:=(hD.rb (by omega)).row hd
 refine SQ (jK 4 [24] [] (NN (cP ((((j:Nat):Int):Int)<((((nd Z.ns d).af.length:Nat):Int):Int)) (λpR=>KX (ah.seq (ah.block (SR (jK 7 [33] [(2,x_ j ((nd Z.ns d).af.length) (bp.hd (hI.af d hd) (i:=j) (by omega))),(4,r_ (bp.rd (hI.af d hd) (i:=j) (by omega) (j:=0) rfl)),(6,w_ (.bool (decide (((en (nd Z.ns d).af j).name:ByteArray)=name))) (nZ _ _))] (NN (cP (((en (nd Z.ns d).af j).name:ByteArray)=name) (λIl=>ah.region (jK 6 [11] [(2,x_ j ((nd Z.ns d).af.length) (bp.hd (hI.af d hd) (i:=j) (by omega))),(4,r_ (bp.rd (hI.af d hd) (i:=j) (by omega) (j:=1) rfl))] (LX (ah.region (jK 3 [12] [(1,wJ ((j:Int)+1) (↑(j+1)))] (NL (tJ ((j+1),q,(en (nd Z.ns d).af j).id,Ao,ca) [0,1,2,3,4,5] (⟨by omega,by grind [JB],Yo (by omega) Il⟩)))))))) (λIl=>ah.region (jN 6 [39,44] (λb16=>[(3,x_ j ((nd Z.ns d).af.length) (bp.hd (hI.af d hd) (i:=j) (by omega))),(4,r2 (bp.rd (hI.af d hd) (i:=j) (by omega) (j:=0) rfl) (bp.rd (hI.af d hd) (i:=j) (by omega) (j:=1) rfl))]) (λ_=>[]) (λb16=>.blk b16 [.string (en (nd Z.ns d).af j).name,vI ((en (nd Z.ns d).af j).id)] 90) (λb16=>kH 4 73 (some ⟨b16,0,none⟩) 1 1 [.string (en (nd Z.ns d).af j).name,vI ((en (nd Z.ns d).af j).id)] rfl (dI (j:=6) rfl) (λlF c18=>ai.bL 4 rfl (zX (e:=(en (nd Z.ns d).af j))) (sl 45 (.slice lF (q.length+1) (c18)) (.slice lF ((q++[(en (nd Z.ns d).af j)]).length) (c18)) (by rw [←kU]) (jK 1 [9] [] (LX (ah.region (jK 3 [12] [(1,wJ ((j:Int)+1) (↑(j+1)))] (NL (tJ ((j+1),(q++[(en (nd Z.ns d).af j)]),z,lF,c18) [0,1,2,3,4,5] (⟨by omega,by grind [Ho],by rw [hz];exact Vz (by omega) Il⟩))))))))))))))))))) (λpR=>XX (SR ?_)))))
 have hje:j=(nd Z.ns d).af.length:=by omega
 rw [hje,List.take_length] at hq hz
 subst hq
 subst hz
 refine ai.kP (Φ:=λβ'=>bp β' Ao (oW name (nd Z.ns d).af)) 4 [0,1,2,3,5] (dS:=(mq b13 Z Y b14++[ef Y Z,dP Y Z,.abs R])) rfl rfl (by kernel_rfl) (λF w h β' h1 h2=>bW.gF h h1 h2) (λβ1 aF hE=>?_)
 replace hI:=hI.le aF
 replace hle0:=hle0.trans aF
 refine jK 7 [50,52] [(2,a_ 0 b13),(5,x_ d Z.ns.length (jc))] (ai.vQ 2 (d*10+9) (d:=none) (T:=73) (e:=75) (size:=10) (n:=Z.ns.length) (cap:=Y.c) (A:=Y.A) (xs:=(aJ Y.L Z.ns)) (u:=.slice Ao ((oW name (nd Z.ns d).af).length) (ca)) (a:=(.tmp 52)) (y:=(.tmp 50)) (λ_=>by kernel_rfl) (by kernel_rfl) (λ_=>by kernel_rfl) (λ_=>by kernel_rfl) (by kernel_rfl) rfl (by omega) (by rw [kK];omega) (NS (jK 9 [59,61] [(2,a_ 0 b13),(6,A_ 0 b13 2),(7,x_ d Z.ns.length (jc))] (ai.zW 2 (d*10+5) (d:=none) (T:=26) (e:=75) (size:=10) (n:=Z.ns.length) (cap:=Y.c) (A:=Y.A) (xs:=((aJ Y.L Z.ns).set (d*10+9) (.slice Ao ((oW name (nd Z.ns d).af).length) (ca)))) (u:=.int .i64 (Z.cS)) (u2:=.int .i64 (Z.cZ)) (a:=(.tmp 61)) (y:=(.tmp 59)) (λ_=>by kernel_rfl) (by kernel_rfl) (λ_=>by kernel_rfl) (λ_=>by kernel_rfl) (by kernel_rfl) rfl rfl (by omega) (by rw [List.length_set,kK];omega) (ai.bL 2 rfl (OG hd rfl) (NN (ah.seq (SR ?_))))))))
 have bn:jl β1 (zY Z d name) (Y.L.ent d Ao ca) Y.H Y.V:=hI.kq hd hE rfl rfl
 have yE:RD (n+1) (zY Z d name):=hD.del hd
 refine jK 2 [63] [] (ai.mA 63 free (λ_=>by kernel_rfl) (λh63=>jK 2 [64,65] [(0,A_ 0 b13 12)] ?_) (λh63=>jK 5 [68] [] (NF (KX (SR (jC 2 [] [(0,A_ 0 b13 12),(1,A_ 1 b14 12)] [(1,(zC (rV Z Y)))] (eO [A_ 1 b14 12] hle0 ⟨(Y.L.ent d Ao ca),Y.G,Y.cg,by simp only [rV,rW];rw [FX (λe=>by rw [e] at h63;cases h63),r9]<;>rfl,by rw [FX (λe=>by rw [e] at h63;cases h63)]<;>rfl,bn.same rfl rfl⟩ [2,3,4])))))))
 have q2:=λkI (h:bS kI (zY Z d name) ⟨Y.A,Y.c,(Y.L.ent d Ao ca),Y.G,Y.cg,Y.H,Y.ch,Y.V,Y.cv⟩)=>Sm (zY Z d name) ⟨Y.A,Y.c,(Y.L.ent d Ao ca),Y.G,Y.cg,Y.H,Y.ch,Y.V,Y.cv⟩ h (yE.rb (by omega)) (ox name (nd Z.ns d).af 0)
 simp only [rV,Yq] at q2
 exact gE [2,3] (cA bn (λ_ _ h=>q2 _ h)) (jK 2 [68] [] (NN (cP (((qM (zY Z d name).ns (ox name (nd Z.ns d).af 0)):Int)=(0:Int)) (λh68=>ah.region (jN 4 [70,72] (λb19=>[(1,a_ 2 b13)]) (λ_=>[]) (λb19=>.blk b19 [vI ((ox name (nd Z.ns d).af 0))] 3) (λb19=>kH 1 38 (some ⟨b19,0,none⟩) 1 1 [vI ((ox name (nd Z.ns d).af 0))] rfl (dI (j:=5) rfl) (λkR kS=>ai.bL 1 rfl (Cc) (sl 73 (.slice kR (Z.gone.length+1) (kS)) (.slice kR ((Z.gone++[(ox name (nd Z.ns d).af 0)]).length) (kS)) (by rw [←kU]) (jC 2 [] [(1,a_ 2 b13)] [(2,[(1,.slice kR ((Z.gone++[(ox name (nd Z.ns d).af 0)]).length) (kS))])] (NS (jC 2 [] [(0,A_ 2 b13 12),(1,A_ 3 b14 12)] [(3,([(0,.slice Y.A (Z.ns.length) (Y.c)),(1,.slice kR ((Z.gone++[(ox name (nd Z.ns d).af 0)]).length) (kS))]++Z2 Z Y++ZX Z))] (eO [A_ 3 b14 12] hle0 ⟨(Y.L.ent d Ao ca),kR,kS,by simp only [rV,rW];rw [OI h63 h68,r9]<;>rfl,by rw [OI h63 h68]<;>rfl,bn.same rfl rfl⟩ [0,1,4])))))) (n:=Z.gone.length) (hb:=by have:=hD.gone;omega)))) (λh68=>KX (SR (jC 2 [] [(0,A_ 2 b13 12),(1,A_ 3 b14 12)] [(3,(zC (rV Z Y)))] (eO [A_ 3 b14 12] hle0 ⟨(Y.L.ent d Ao ca),Y.G,Y.cg,by simp only [rV,rW];rw [FX (λ_=>h68),r9]<;>rfl,by rw [FX (λ_=>h68)]<;>rfl,bn.same rfl rfl⟩ [0,1,4])))))))
theorem Yr {β:Bs} (Z:RS) (Y:RL) (hI:jl β Z Y.L Y.H Y.V) {n:Nat} (hD:RD n Z) (hn:n<=8) (hl:0<=Z.last/\Z.last<1099511627776) (d:Nat) (hd:d<Z.ns.length) (name:ByteArray) (x:au) (hxd:x.data=[]) (I8:x.af=[]) :
 bV Tryz.prog β 114 #[.agg ⟨rV Z Y⟩,vI (((d:Nat):Int)),.string name,.agg #[vI (x.id),vI (x.kind),vI (x.mode),vI (x.uid),vI (x.gid),vI (x.sec),vI (x.nano),.slice none (0) (0),.string x.target,.slice none (0) (0)]] [ef Y Z,dP Y Z] (λβ' v l=>∃A' c' L',v=.agg ⟨rW (gV Z d name x) A' c' Y.G Y.cg Y.H Y.ch Y.V Y.cv⟩/\l=[.abs (aq 75 10 A' ((gV Z d name x).ns.length) c' (aJ L' (gV Z d name x).ns)),.abs (aq 3 1 Y.G ((gV Z d name x).gone.length) Y.cg (ints (gV Z d name x).gone))]/\jl β' (gV Z d name x) L' Y.H Y.V/\L'.dA Z.ns.length=none/\L'.dC Z.ns.length=0):=by
 refine o6 Tryz.func114 Tryz.ntmps114 (λhle0 R=>SR (jB 1 [4] (λjV=>.blk jV (rV Z Y) 42) (λjV=>jB 1 [7] (λCd=>.blk Cd [vI (x.id),vI (x.kind),vI (x.mode),vI (x.uid),vI (x.gid),vI (x.sec),vI (x.nano),.slice none (0) (0),.string x.target,.slice none (0) (0)] 75) (λCd=>jB 1 [8] (λWY=>.blk WY (rZ) 42) (λWY=>NS (jC 5 [] [(1,a_ 3 jV),(2,wJ (Z.last+1) (Z.last+1)),(4,a_ 3 jV)] [(3,[(11,vI (Z.last+1))])] (NS (jC 4 [] [(1,a_ 3 jV),(3,a_ 4 Cd)] [(4,[(0,vI (Z.last+1))])] (NS (jC 5 [] [(2,A_ 3 jV 2),(4,A_ 4 Cd 2)] [(4,[(5,vI (Z.cS)),(6,vI (Z.cZ))])] (NS ?_)))))))))))
 have hI0:jl β ({Z with last:=Z.last+1}:RS) Y.L Y.H Y.V:=hI.same rfl rfl
 refine jK 5 [20,21,22,24] [(0,A_ 3 jV 12),(4,a_ 4 Cd)] (jE [0,1] (xR ({Z with last:=Z.last+1}:RS) Y hI0 (RD.rb (hD.last _) hn) d hd name (Z.last+1)) ?_)
 rintro β1 _ _ aF ⟨L1,rfl,rfl,bn⟩
 replace hI:=hI.le aF
 replace hle0:=hle0.trans aF
 refine jC 1 [] [(0,A_ 3 jV 12)] [(3,(zC (rV (bE ({Z with last:=Z.last+1}:RS) d name (Z.last+1)) Y)))] (NS ?_)
 have hl1:(bE ({Z with last:=Z.last+1}:RS) d name (Z.last+1)).ns.length=Z.ns.length:=yX
 exact jN 5 [28,30] (λsK=>[(2,a_ 3 jV),(3,A_ 4 Cd 10)]) (λ_=>[]) (λsK=>.blk sK [vI (Z.last+1),vI (x.kind),vI (x.mode),vI (x.uid),vI (x.gid),vI (Z.cS),vI (Z.cZ),.slice none (0) (0),.string x.target,.slice none (0) (0)] 75) (λsK=>kH 0 22 (some ⟨sK,0,none⟩) 1 1 [vI (Z.last+1),vI (x.kind),vI (x.mode),vI (x.uid),vI (x.gid),vI (Z.cS),vI (Z.cZ),.slice none (0) (0),.string x.target,.slice none (0) (0)] rfl (dI (j:=6) rfl) (λny nB=>ai.bL 0 rfl (Es (n:=({x with id:=Z.last+1,sec:=Z.cS,nano:=Z.cZ}:au)) (by show x.data.length=0;rw [hxd];rfl) (by show x.af.length=0;rw [I8];rfl)) (sl 31 (.slice ny (((bE ({Z with last:=Z.last+1}:RS) d name (Z.last+1)).ns.length)+1) (nB)) (.slice ny (((bE ({Z with last:=Z.last+1}:RS) d name (Z.last+1)).ns++[({x with id:=Z.last+1,sec:=Z.cS,nano:=Z.cZ}:au)]).length) (nB)) (by rw [←kU]) (jC 3 [] [(2,a_ 3 jV)] [(3,[(0,.slice ny (((bE ({Z with last:=Z.last+1}:RS) d name (Z.last+1)).ns++[({x with id:=Z.last+1,sec:=Z.cS,nano:=Z.cZ}:au)]).length) (nB))])] (NS (jC 2 [] [(0,A_ 3 jV 12),(1,A_ 5 WY 12)] [(5,[(0,.slice ny (((bE ({Z with last:=Z.last+1}:RS) d name (Z.last+1)).ns++[({x with id:=Z.last+1,sec:=Z.cS,nano:=Z.cZ}:au)]).length) (nB)),(1,.slice Y.G ((bE ({Z with last:=Z.last+1}:RS) d name (Z.last+1)).gone.length) (Y.cg)),(2,vI ((bE ({Z with last:=Z.last+1}:RS) d name (Z.last+1)).cH)),(3,vI ((bE ({Z with last:=Z.last+1}:RS) d name (Z.last+1)).ar)),(4,.slice Y.H ((bE ({Z with last:=Z.last+1}:RS) d name (Z.last+1)).us.length) (Y.ch)),(5,.slice Y.V ((bE ({Z with last:=Z.last+1}:RS) d name (Z.last+1)).us.length) (Y.cv)),(6,vI ((bE ({Z with last:=Z.last+1}:RS) d name (Z.last+1)).cN)),(7,vI ((bE ({Z with last:=Z.last+1}:RS) d name (Z.last+1)).cB)),(8,vI ((bE ({Z with last:=Z.last+1}:RS) d name (Z.last+1)).cH)),(9,vI ((bE ({Z with last:=Z.last+1}:RS) d name (Z.last+1)).cS)),(10,vI ((bE ({Z with last:=Z.last+1}:RS) d name (Z.last+1)).cZ)),(11,vI ((bE ({Z with last:=Z.last+1}:RS) d name (Z.last+1)).last))])] (eO [A_ 5 WY 12] hle0 ⟨ny,nB,_,rfl,rfl,bn.snoc (n:=({x with id:=Z.last+1,sec:=Z.cS,nano:=Z.cZ}:au)) rfl hxd I8 rfl,by rw [←hl1];exact⟨if_pos rfl,if_pos rfl⟩⟩)))))) (n:=(bE ({Z with last:=Z.last+1}:RS) d name (Z.last+1)).ns.length) (hb:=by have:=hD.ns;omega))
theorem uJ {β:Bs} (Z:RS) (Y:RL) (hR:bS β Z Y) (hB:RB Z) :
 bV Tryz.prog β 84 #[.agg ⟨rV Z Y⟩] [] (λβ' v l=>∃Y',v=.agg ⟨rV (dF Z) Y'⟩/\l=[]/\bS β' (dF Z) Y'):=by
 refine o6 Tryz.func84 Tryz.ntmps84 (λhle0 R=>SR (jB 1 [1] (λfU=>.blk fU (rV Z Y) 42) (λfU=>jB 1 [2] (λvg=>.blk vg (rZ) 42) (λvg=>NS (jB 2 [3] (λWZ=>.blk WZ [] 75) (λWZ=>NS (ai.mem (λw hS=>hS.oI (i:=3) (b:=WZ) (cs:=[]) (e:=75) 10 0 (by kernel_rfl) rfl (by decide)) (jB 2 [4] (λqQ=>.blk qQ [] 3) (λqQ=>NZ (ai.mem (λw hS=>hS.oI (i:=4) (b:=qQ) (cs:=[]) (e:=3) 1 0 (by kernel_rfl) rfl (by decide)) (jK 1 [5] [] (NN (ah.block (lJ (λ(i,p,K,An,cn,l,Ag,cg)=>(i<=Z.ns.length)/\(p=qx Z i)/\(l=mE Z i)/\(kX β p p.length K)) (λ(i,p,K,An,cn,l,Ag,cg)=>Z.ns.length-i) (λ(i,p,K,An,cn,l,Ag,cg)=>(WW fU vg An p cn Ag l cg i)) (λ(i,p,K,An,cn,l,Ag,cg)=>(mq fU Z Y vg++[.abs (aq 75 10 An p.length cn (aJ K p)),SJ Ag l cg,.abs R])) (0,[],En,some ⟨WZ,0,none⟩,0,[],some ⟨qQ,0,none⟩,0) [1,2,3,4,0] (⟨Nat.zero_le _,rfl,rfl,⟨λi hi=>absurd hi (Nat.not_lt_zero i),λi hi=>absurd hi (Nat.not_lt_zero i)⟩⟩) ?_))))))))))))))
 rintro⟨i,p,K,An,cn,l,Ag,cg⟩ ⟨hi,hp,hl,hK⟩
 have WS:=hB.ns
 have hpl:p.length<=i:=by rw [hp];exact IY
 have hll:l.length<=i:=by rw [hl];exact SB
 refine SQ (jK 6 [16] [(3,a_ 0 fU)] (NN (cP ((((i:Nat):Int):Int)<(((Z.ns.length:Nat):Int):Int)) (λog=>?_) (λog=>?_))))
 ·refine KX (ah.seq (ah.block (SR (jK 8 [6] [(2,a_ 0 fU),(4,x_ i Z.ns.length (av.hd hR.n (i:=i) (by omega))),(6,r_ (av.rd hR.n (i:=i) (by omega) (j:=0) rfl))] (NS (jK 1 [7] [] (NZ (jK 1 [8] [] (NN (ah.block (lJ (λ(k,op)=>(k<=Z.us.length)/\(op=true↔∃q,q<k/\(fN Z.us).getD q 0=(nd Z.ns i).id)) (λ(k,op)=>Z.us.length-k) (λ(k,op)=>(WW fU vg An p cn Ag l cg i++[(6,vI ((nd Z.ns i).id)),(7,.bool op),(8,vI ↑k)])) (λ(k,op)=>(mq fU Z Y vg++[.abs (aq 75 10 An p.length cn (aJ K p)),SJ Ag l cg,.abs R])) (0,false) [0,1,2,3,4] (⟨Nat.zero_le _,⟨λe=>(by cases e),λ⟨q,h,_⟩=>absurd h (Nat.not_lt_zero q)⟩⟩) ?_)))))))))))
  rintro⟨k,op⟩ ⟨hk,hop⟩
  have hbu:=hB.us
  refine SQ (jK 6 [31] [(3,a_ 0 fU)] (NN (cP ((((k:Nat):Int):Int)<(((Z.us.length:Nat):Int):Int)) (λRf=>KX (ah.seq (ah.block (SR (jK 8 [41] [(2,a_ 0 fU),(4,x_ k Z.us.length (pW.hd (l:=(fN Z.us)) hR.v (j:=k) (by grind [gU,jL]))),(5,r_ (pW.rd (l:=(fN Z.us)) hR.v (j:=k) (by grind [gU,jL])))] (NN (cP ((((fN Z.us).getD k 0):Int)=((nd Z.ns i).id:Int)) (λDI=>ah.region (jK 1 [7] [] (LX (ah.region (jK 3 [8] [(1,wJ ((k:Int)+1) (↑(k+1)))] (NL (tJ ((k+1),true) [0,1,2,3,4] (⟨by omega,⟨λ_=>⟨k,by omega,DI⟩,λ_=>rfl⟩⟩)))))))) (λDI=>KX (ah.region (jK 3 [8] [(1,wJ ((k:Int)+1) (↑(k+1)))] (NL (tJ ((k+1),op) [0,1,2,3,4] (⟨by omega,⟨λe=>let ⟨q,h1,h2⟩:=hop.1 e;⟨q,by omega,h2⟩,λ⟨q,h1,h2⟩=>hop.2 (by grind)⟩⟩))))))))))))) (λRf=>XX (ah.seq (SR ?_))))))
  replace hop:op=true↔(nd Z.ns i).id∈fN Z.us:=hop.trans (by rw [show k=Z.us.length by omega];exact acd.symm)
  refine jK 2 [42,43] [(0,A_ 0 fU 12)] (gE [] (tK Z Y hR hB (nd Z.ns i).id) (jK 1 [45] [] (sP 45 ((nd Z.ns i).id∈Z.gone) (λRk=>?_) (λRk=>?_))))
  ·refine jK 2 [47] [] (jK 1 [48] [] (NN (ah.cond (b:=(!op)) (λ_=>by kernel_rfl) (λh48=>?_) (λh48=>?_))))
   ·refine XX (ah.region (jK 3 [5] [(1,wJ ((i:Int)+1) (↑(i+1)))] (NL ?_)))
    have hnk:¬oY Z (nd Z.ns i)=true:=λe=>by grind [Er]
    exact tJ ((i+1),p,K,An,cn,l,Ag,cg) [0,1,2,3,4] (⟨by omega,by rw [hp,Lx (by omega) hnk],by rw [hl,Qg (by omega) hnk],hK⟩)
   have hkp:oY Z (nd Z.ns i)=true:=Er.2 (λhg=>hop.1 (by simpa using h48))
   refine KX (ah.join (λ(l2,A2,c2)=>(l2=mE Z (i+1))) (λ(l2,A2,c2)=>(WW fU vg An p cn A2 l2 c2 i)) (λ(l2,A2,c2)=>(mq fU Z Y vg++[.abs (aq 75 10 An p.length cn (aJ K p)),SJ A2 l2 c2,.abs R])) ?_ (SR (jK 2 [49,50] [(0,A_ 0 fU 12)] (gE [] (tK Z Y hR hB (nd Z.ns i).id) (NN (cP ((nd Z.ns i).id∈Z.gone) (λuj=>ah.region (jB 3 [52,54] (λBq=>.blk Bq [vI ((nd Z.ns i).id)] 3) (λBq=>kH 3 38 (some ⟨Bq,0,none⟩) 1 1 [vI ((nd Z.ns i).id)] rfl (dI (j:=5) rfl) (λZ4 Z5=>ai.bL 3 rfl (Cc) (sl 55 (.slice Z4 (l.length+1) (Z5)) (.slice Z4 ((l++[(nd Z.ns i).id]).length) (Z5)) (by rw [←kU]) (jK 1 [4] [] (NL (mJ ((l++[(nd Z.ns i).id]),Z4,Z5) [0,1,2,3,4] (by rw [hl,IW (by omega) hkp uj]))))))))) (λuj=>ah.skip (mJ (l,Ag,cg) [0,1,2,3,4] (by rw [hl,Lz (by omega) hkp uj])))))))))
   rintro⟨l2,A2,c2⟩ hl2
   exact ah.region (jN 8 [56,63] (λb32=>[(3,a_ 0 fU),(5,x_ i Z.ns.length (av.hd hR.n (i:=i) (by omega))),(6,Bl (eT Y.L i (nd Z.ns i)) (λ_ _ h=>av.rd hR.n (by omega) h))]) (λ_=>[]) (λb32=>.blk b32 (eT Y.L i (nd Z.ns i)) 75) (λb32=>kH 2 22 (some ⟨b32,0,none⟩) 1 1 (eT Y.L i (nd Z.ns i)) rfl (dI (j:=5) rfl) (λI9 Ja=>ai.bL 2 rfl (Es (n:=nd Z.ns i) rfl rfl) (sl 64 (.slice I9 (p.length+1) (Ja)) (.slice I9 ((p++[nd Z.ns i]).length) (Ja)) (by rw [←kU]) (jK 1 [3] [] (LX (ah.region (jK 3 [5] [(1,wJ ((i:Int)+1) (↑(i+1)))] (NL (tJ ((i+1),(p++[nd Z.ns i]),(K.put p.length (Y.L.dA i) (Y.L.dC i) (Y.L.eA i) (Y.L.eC i)),I9,Ja,l2,A2,c2) [0,1,2,3,4] (⟨by omega,by rw [hp,xQ (by omega) hkp],hl2,hK.snoc (hR.n.data i (by omega)) (hR.n.af i (by omega))⟩)))))))))))
  refine jK 2 [47] [] ?_
  have hkp:oY Z (nd Z.ns i)=true:=Er.2 (λhg=>absurd hg Rk)
  refine jK 1 [48] [] (NF (KX (ah.join (λ(l2,A2,c2)=>(l2=mE Z (i+1))) (λ(l2,A2,c2)=>(WW fU vg An p cn A2 l2 c2 i)) (λ(l2,A2,c2)=>(mq fU Z Y vg++[.abs (aq 75 10 An p.length cn (aJ K p)),SJ A2 l2 c2,.abs R])) ?_ (SR (jK 2 [49,50] [(0,A_ 0 fU 12)] (gE [] (tK Z Y hR hB (nd Z.ns i).id) (NN (cP ((nd Z.ns i).id∈Z.gone) (λuj=>ah.region (jB 3 [52,54] (λZ6=>.blk Z6 [vI ((nd Z.ns i).id)] 3) (λZ6=>kH 3 38 (some ⟨Z6,0,none⟩) 1 1 [vI ((nd Z.ns i).id)] rfl (dI (j:=5) rfl) (λZ7 Z8=>ai.bL 3 rfl (Cc) (sl 55 (.slice Z7 (l.length+1) (Z8)) (.slice Z7 ((l++[(nd Z.ns i).id]).length) (Z8)) (by rw [←kU]) (jK 1 [4] [] (NL (mJ ((l++[(nd Z.ns i).id]),Z7,Z8) [0,1,2,3,4] (by rw [hl,IW (by omega) hkp uj]))))))))) (λuj=>ah.skip (mJ (l,Ag,cg) [0,1,2,3,4] (by rw [hl,Lz (by omega) hkp uj])))))))))))
  rintro⟨l2,A2,c2⟩ hl2
  exact ah.region (jN 8 [56,63] (λwM=>[(3,a_ 0 fU),(5,x_ i Z.ns.length (av.hd hR.n (i:=i) (by omega))),(6,Bl (eT Y.L i (nd Z.ns i)) (λ_ _ h=>av.rd hR.n (by omega) h))]) (λ_=>[]) (λwM=>.blk wM (eT Y.L i (nd Z.ns i)) 75) (λwM=>kH 2 22 (some ⟨wM,0,none⟩) 1 1 (eT Y.L i (nd Z.ns i)) rfl (dI (j:=5) rfl) (λZ9 c40=>ai.bL 2 rfl (Es (n:=nd Z.ns i) rfl rfl) (sl 64 (.slice Z9 (p.length+1) (c40)) (.slice Z9 ((p++[nd Z.ns i]).length) (c40)) (by rw [←kU]) (jK 1 [3] [] (LX (ah.region (jK 3 [5] [(1,wJ ((i:Int)+1) (↑(i+1)))] (NL (tJ ((i+1),(p++[nd Z.ns i]),(K.put p.length (Y.L.dA i) (Y.L.dC i) (Y.L.eA i) (Y.L.eC i)),Z9,c40,l2,A2,c2) [0,1,2,3,4] (⟨by omega,by rw [hp,xQ (by omega) hkp],hl2,hK.snoc (hR.n.data i (by omega)) (hR.n.af i (by omega))⟩)))))))))))
 refine XX (SR ?_)
 have hie:i=Z.ns.length:=by omega
 rw [hie] at hp hl
 refine ai.kP (Φ:=λβ'=>bW β' An (aJ K p)) 2 [0,1,3,4] (dS:=(mq fU Z Y vg++[SJ Ag l cg,.abs R])) rfl rfl (by kernel_rfl) (λF w h β' h1 h2=>bW.gF h h1 h2) (λβ1 aF hN=>?_)
 replace hR:=hR.le aF
 replace hK:=hK.le aF
 replace hle0:=hle0.trans aF
 refine ai.kP (Φ:=λβ'=>bW β' Ag (ints l)) 2 [0,1,3] (dS:=(mq fU Z Y vg++[.abs R])) rfl rfl (by kernel_rfl) (λF w h β' h1 h2=>bW.gF h h1 h2) (λkI cC hG=>?_)
 replace hR:=hR.le cC
 replace hK:=hK.le cC
 replace hN:=hN.le cC
 replace hle0:=hle0.trans cC
 exact jC 4 [] [(3,a_ 0 fU)] [(0,[(0,.slice An (p.length) (cn))])] (NS (jC 3 [] [(2,a_ 0 fU)] [(0,[(1,.slice Ag (l.length) (cg))])] (NS (jC 2 [] [(0,A_ 0 fU 12),(1,A_ 1 vg 12)] [(1,([(0,.slice An (p.length) (cn)),(1,.slice Ag (l.length) (cg))]++Z2 Z Y++ZX Z))] (eO [A_ 1 vg 12] hle0 ⟨⟨An,cn,K,Ag,cg,Y.H,Y.ch,Y.V,Y.cv⟩,by simp only [rV];rw [LD hp,FY hl]<;>rfl,rfl,VB hR hN hG hp hl hK⟩ [2])))))
theorem Eu {β:Bs} (Z:RS) (Y:RL) (hR:bS β Z Y) (hC:RU Z) (k:Nat) (hk:k<Z.ns.length) :
 bV Tryz.prog β 76 #[.agg ⟨rV Z Y⟩,vI (((k:Nat):Int))] [] (λβ' v l=>∃Y',v=.tuple #[.agg ⟨rV ((iN Z k).1) Y'⟩,vI (iN Z k).2.1,vI (iN Z k).2.2]/\l=[]/\bS β' (iN Z k).1 Y'):=by
 refine o6 Tryz.func76 Tryz.ntmps76 (λhle0 R=>SR (jB 1 [2] (λnV=>.blk nV (rV Z Y) 42) (λnV=>jB 3 [4] (λsj=>.blk sj (rZ) 42) (λsj=>NN (ah.seq ?_)))))
 by_cases hf:(Z.us.length:Int)<Z.cH
 ·refine ah.C0 (S:=[.blk nV (rV Z Y) 42]) 14 [(true,0),(true,1),(true,2),(true,3),(true,4),(true,5),(true,6),(true,7),(true,8),(false,9),(true,10),(true,11),(true,12),(true,13)] [(false,15),(false,16),(false,17)] (by kernel_rfl) (by kernel_rfl) (λ_ h=>h.pick (idx:=[1]) rfl rfl) (gJ [(false,9),(true,10),(true,11),(true,12),(true,13)] (ZY nV sj Z Y k) [0,1,2,3,4,5,6,7,8] [(1,A_ 0 nV 4),(4,a_ 0 nV),(6,x_ k Z.ns.length (av.hd hR.n (i:=k) (by omega))),(8,r_ (av.rd hR.n (i:=k) (by omega) (j:=0) rfl))] (uT.beside (j:=14) (dj:=7) (R:=λf_ l_=>∃A1:Option Addr,∃c1:Nat,∃B1:Option Addr,∃d1:Nat,f_=[(23,vI 0),(22,vI ((ak.least Z.us))),(21,.agg #[vI (Z.cH),vI ((max Z.ar ((Z.us.length:Int)+1))),.slice A1 ((ins (ak.least Z.us) (nd Z.ns k).id Z.us).length) (c1),.slice B1 ((ins (ak.least Z.us) (nd Z.ns k).id Z.us).length) (d1)]),(10,.tuple #[.agg #[vI (Z.cH),vI ((max Z.ar ((Z.us.length:Int)+1))),.slice A1 ((ins (ak.least Z.us) (nd Z.ns k).id Z.us).length) (c1),.slice B1 ((ins (ak.least Z.us) (nd Z.ns k).id Z.us).length) (d1)],vI ((ak.least Z.us)),vI 0]),(20,.tuple #[.agg #[vI (Z.cH),vI ((max Z.ar ((Z.us.length:Int)+1))),.slice A1 ((ins (ak.least Z.us) (nd Z.ns k).id Z.us).length) (c1),.slice B1 ((ins (ak.least Z.us) (nd Z.ns k).id Z.us).length) (d1)],vI ((ak.least Z.us)),vI 0]),(2,vP nV),(4,vP sj),(12,.agg #[vI (Z.cH),vI (Z.ar),.slice Y.H (Z.us.length) (Y.ch),.slice Y.V (Z.us.length) (Y.cv)]),(19,vI ((nd Z.ns k).id))]/\l_=[ZV A1 Z k c1,WV B1 Z k d1]) (pc:=[]) (pj:=[]) (Z:=([.abs R]++mq nV Z Y sj)) [0,1,2] (λ_=>True) [(false,9,20),(true,10,10),(true,11,21),(true,12,22),(true,13,23)] (by kernel_rfl) rfl rfl (JT (S1:=[.blk nV (rV Z Y) 42]) (pS:=[1]) rfl rfl) (trivial) rfl rfl (ia.of (ι:=Nat) (v:=λ(qR:Nat)=>vP qR) (l:=λ(qR:Nat)=>[.blk qR [vI 0,vI 0,.slice none (0) (0),.slice none (0) (0)] 40]) [20,10,21,22,23] rfl rfl rfl rfl ?_) ?_ ?_))
  ·intro u Aq
   exact jB 1 [7] (λqR=>.blk qR [vI 0,vI 0,.slice none (0) (0),.slice none (0) (0)] 40) (λqR=>NL (MD qR [7,20,10,21,22,23,2,4,12,19] [1,0]))
  ·refine fo.step (ia.of (ι:=(Option Addr)×Nat×(Option Addr)×Nat) (v:=λ((A1,c1,B1,d1):(Option Addr)×Nat×(Option Addr)×Nat)=>.tuple #[.agg #[vI (Z.cH),vI ((max Z.ar ((Z.us.length:Int)+1))),.slice A1 ((ins (ak.least Z.us) (nd Z.ns k).id Z.us).length) (c1),.slice B1 ((ins (ak.least Z.us) (nd Z.ns k).id Z.us).length) (d1)],vI ((ak.least Z.us)),vI 0]) (l:=λ((A1,c1,B1,d1):(Option Addr)×Nat×(Option Addr)×Nat)=>[ZV A1 Z k c1,WV B1 Z k d1]) [7] rfl rfl rfl rfl ?_) rfl ?_
   ·intro u Aq
    refine gL [] (Yn Z.cH Z.ar Y.H Y.V Y.ch Y.cv Z.us hR.h hR.v (by have:=hC.us;omega) hC.usr hC.uw (nd Z.ns k).id hf) ?_
    rintro _ _ ⟨A1,c1,B1,d1,rfl,rfl⟩
    exact NL (MD (A1,c1,B1,d1) [20,7,2,4,12,19] [0,1,2])
   rintro _ _ ⟨⟨A1,c1,B1,d1⟩,rfl,rfl⟩
   exact⟨trivial,(fo.read (v:=.tuple #[.agg #[vI (Z.cH),vI ((max Z.ar ((Z.us.length:Int)+1))),.slice A1 ((ins (ak.least Z.us) (nd Z.ns k).id Z.us).length) (c1),.slice B1 ((ins (ak.least Z.us) (nd Z.ns k).id Z.us).length) (d1)],vI ((ak.least Z.us)),vI 0]) (λ_=>by kernel_rfl) rfl rfl (fo.read (v:=.agg #[vI (Z.cH),vI ((max Z.ar ((Z.us.length:Int)+1))),.slice A1 ((ins (ak.least Z.us) (nd Z.ns k).id Z.us).length) (c1),.slice B1 ((ins (ak.least Z.us) (nd Z.ns k).id Z.us).length) (d1)]) (λ_=>by kernel_rfl) rfl rfl (fo.read (v:=.int .i64 ((ak.least Z.us))) (λ_=>by kernel_rfl) rfl rfl (fo.read (v:=.int .i64 0) (λ_=>by kernel_rfl) rfl rfl ⟨A1,c1,B1,d1,rfl,rfl⟩))))⟩
  rintro _ _ ⟨A1,c1,B1,d1,rfl,rfl⟩ _ _ ⟨qR,rfl,rfl⟩
  refine kC [4] [] [(0,A_ 2 qR 4)] [(2,[(0,vI (Z.cH)),(1,vI ((max Z.ar ((Z.us.length:Int)+1)))),(2,.slice A1 ((ins (ak.least Z.us) (nd Z.ns k).id Z.us).length) (c1)),(3,.slice B1 ((ins (ak.least Z.us) (nd Z.ns k).id Z.us).length) (d1))])] (eM.cut (ι:=Unit) (fr':=λ(_:Unit)=>[(2,vP nV),(4,vP sj),(7,vP qR),(8,vI (ak.least Z.us)),(23,vI 0)]) (hp':=λ(_:Unit)=>([ZV A1 Z k c1,WV B1 Z k d1,ZW qR Z A1 k c1 B1 d1,.abs R]++mq nV Z Y sj)) [4] (by kernel_rfl) ?_ rfl (λ_=>by kernel_rfl) ?_)
  ·exact jK 1 [8] [] (NL (MD () [2,4,7,8,23] [0,1,2,3,4,5]))
  rintro _
  refine eM.last (by kernel_rfl) (jK 1 [9] [] (NL (aj.np (NX (SR (ai.kP (Φ:=λβ'=>bW β' A1 (ints (keys (ins (ak.least Z.us) (nd Z.ns k).id Z.us)))) 0 [1,2,3,4,5] (dS:=([WV B1 Z k d1,ZW qR Z A1 k c1 B1 d1,.abs R]++mq nV Z Y sj)) rfl rfl (by kernel_rfl) (λF w h β' h1 h2=>bW.gF h h1 h2) (λβ1 aF hH=>?_)))))))
  replace hR:=hR.le aF
  replace hle0:=hle0.trans aF
  refine ai.kP (Φ:=λβ'=>bW β' B1 (ints (fN (ins (ak.least Z.us) (nd Z.ns k).id Z.us)))) 0 [1,2,3,4] (dS:=([ZW qR Z A1 k c1 B1 d1,.abs R]++mq nV Z Y sj)) rfl rfl (by kernel_rfl) (λF w h β' h1 h2=>bW.gF h h1 h2) (λkI cC hV=>?_)
  replace hR:=hR.le cC
  replace hH:=hH.le cC
  replace hle0:=hle0.trans cC
  exact jC 3 [] [(0,A_ 0 qR 4),(2,A_ 2 nV 4)] [(2,(Z0 Z A1 k c1 B1 d1))] (NS (jC 6 [5,6] [(0,A_ 2 nV 12),(3,A_ 3 sj 12)] [(3,([(0,.slice Y.A (Z.ns.length) (Y.c)),(1,.slice Y.G (Z.gone.length) (Y.cg)),(2,vI (Z.cH))]++Z0 Z A1 k c1 B1 d1++ZX Z))] (eO [A_ 3 sj 12] hle0 ⟨⟨Y.A,Y.c,Y.L,Y.G,Y.cg,A1,c1,B1,d1⟩,by rw [LC hf]<;>rfl,rfl,by rw [LC hf];exact⟨⟨hR.g,hH,hV⟩,hR.n⟩⟩ [1])))
 refine ah.C0 (S:=[.blk nV (rV Z Y) 42]) 14 [(true,0),(true,1),(true,2),(true,3),(true,4),(true,5),(true,6),(true,7),(true,8),(false,9),(true,10),(true,11),(true,12),(true,13)] [(false,15),(false,16),(false,17)] (by kernel_rfl) (by kernel_rfl) (λ_ h=>h.pick (idx:=[1]) rfl rfl) (gJ [(false,9),(true,10),(true,11),(true,12),(true,13)] (ZY nV sj Z Y k) [0,1,2,3,4,5,6,7,8] [(1,A_ 0 nV 4),(4,a_ 0 nV),(6,x_ k Z.ns.length (av.hd hR.n (i:=k) (by omega))),(8,r_ (av.rd hR.n (i:=k) (by omega) (j:=0) rfl))] (uT.beside (j:=14) (dj:=7) (R:=λf_ l_=>f_=[(23,vI 130),(22,vI 0),(21,.agg #[vI (Z.cH),vI (Z.ar),.slice Y.H (Z.us.length) (Y.ch),.slice Y.V (Z.us.length) (Y.cv)]),(10,.tuple #[.agg #[vI (Z.cH),vI (Z.ar),.slice Y.H (Z.us.length) (Y.ch),.slice Y.V (Z.us.length) (Y.cv)],vI 0,vI 130]),(20,.tuple #[.agg #[vI (Z.cH),vI (Z.ar),.slice Y.H (Z.us.length) (Y.ch),.slice Y.V (Z.us.length) (Y.cv)],vI 0,vI 130]),(2,vP nV),(4,vP sj),(12,.agg #[vI (Z.cH),vI (Z.ar),.slice Y.H (Z.us.length) (Y.ch),.slice Y.V (Z.us.length) (Y.cv)]),(19,vI ((nd Z.ns k).id))]/\l_=[]) (pc:=[]) (pj:=[]) (Z:=([.abs R]++mq nV Z Y sj)) [0,1,2] (λ_=>True) [(false,9,20),(true,10,10),(true,11,21),(true,12,22),(true,13,23)] (by kernel_rfl) rfl rfl (JT (S1:=[.blk nV (rV Z Y) 42]) (pS:=[1]) rfl rfl) (trivial) rfl rfl (ia.of (ι:=Nat) (v:=λ(uI:Nat)=>vP uI) (l:=λ(uI:Nat)=>[.blk uI [vI 0,vI 0,.slice none (0) (0),.slice none (0) (0)] 40]) [20,10,21,22,23] rfl rfl rfl rfl ?_) ?_ ?_))
 ·intro u Aq
  exact jB 1 [7] (λuI=>.blk uI [vI 0,vI 0,.slice none (0) (0),.slice none (0) (0)] 40) (λuI=>NL (MD uI [7,20,10,21,22,23,2,4,12,19] [1,0]))
 ·refine fo.step (ia.of (ι:=Unit) (v:=λ(_:Unit)=>.tuple #[.agg #[vI (Z.cH),vI (Z.ar),.slice Y.H (Z.us.length) (Y.ch),.slice Y.V (Z.us.length) (Y.cv)],vI 0,vI 130]) (l:=λ(_:Unit)=>[]) [7] rfl rfl rfl rfl ?_) rfl ?_
  ·intro u Aq
   exact gE [] (Vp Z.cH Z.ar Y.H Y.V Y.ch Y.cv Z.us (nd Z.ns k).id (by omega)) (NL (MD () [20,7,2,4,12,19] [0]))
  rintro _ _ ⟨_,rfl,rfl⟩
  exact⟨trivial,(fo.read (v:=.tuple #[.agg #[vI (Z.cH),vI (Z.ar),.slice Y.H (Z.us.length) (Y.ch),.slice Y.V (Z.us.length) (Y.cv)],vI 0,vI 130]) (λ_=>by kernel_rfl) rfl rfl (fo.read (v:=.agg #[vI (Z.cH),vI (Z.ar),.slice Y.H (Z.us.length) (Y.ch),.slice Y.V (Z.us.length) (Y.cv)]) (λ_=>by kernel_rfl) rfl rfl (fo.read (v:=.int .i64 0) (λ_=>by kernel_rfl) rfl rfl (fo.read (v:=.int .i64 130) (λ_=>by kernel_rfl) rfl rfl ⟨rfl,rfl⟩))))⟩
 rintro _ _ ⟨rfl,rfl⟩ _ _ ⟨uI,rfl,rfl⟩
 refine kC [2] [] [(0,A_ 0 uI 4)] [(0,[(0,vI (Z.cH)),(1,vI (Z.ar)),(2,.slice Y.H (Z.us.length) (Y.ch)),(3,.slice Y.V (Z.us.length) (Y.cv))])] (eM.cut (ι:=Unit) (fr':=λ(_:Unit)=>[(2,vP nV),(4,vP sj),(7,vP uI),(8,vI 0),(23,vI 130)]) (hp':=λ(_:Unit)=>([.blk uI [vI (Z.cH),vI (Z.ar),.slice Y.H (Z.us.length) (Y.ch),.slice Y.V (Z.us.length) (Y.cv)] 40,.abs R]++mq nV Z Y sj)) [2] (by kernel_rfl) ?_ rfl (λ_=>by kernel_rfl) ?_)
 ·exact jK 1 [8] [] (NL (MD () [2,4,7,8,23] [0,1,2,3]))
 rintro _
 exact eM.last (by kernel_rfl) (jK 1 [9] [] (NL (aj.np (NX (SR (jC 3 [] [(0,A_ 0 uI 4),(2,A_ 2 nV 4)] [] (NS (jC 6 [5,6] [(0,A_ 2 nV 12),(3,A_ 3 sj 12)] [(3,(zC (rV Z Y)))] (eO [A_ 3 sj 12] hle0 ⟨Y,by rw [OM hf]<;>rfl,rfl,by rw [OM hf];exact hR⟩ [1])))))))))
end
end Go.Proofs.YtnipofpbcggjcaaGreatDoor
