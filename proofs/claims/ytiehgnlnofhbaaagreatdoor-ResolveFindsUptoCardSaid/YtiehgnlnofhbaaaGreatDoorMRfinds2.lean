/-
  PROVED HERE: lemmas and contracts of functions (texts of this repo, joined; what the claim does not use is left out): GRoot, GCheck, GE, GEnter, GR, GRead, GP, GRef, GW, Hm, Fam, Ld, Fw, Ms, Hn, Ho, Sb, ShelfK, Free, HeapMath, Up, Down, PushPop, TabMath, Tab, Tq, TKt, TabT, Hp, Hs, Hi, Hj, Hk, Hl, Hq, Hr, Ht.
  CONDITIONS: as the theorems say.
-/
import Derived.Test.YtiehgnlnofhbaaaGreatDoorMRfinds1
import Derived.Maps.OwnOps
import Derived.Shelf.SlGeneric
import Derived.Shelf.SlIterI.Nil
import Derived.Shelf.SortM.Plain
import Derived.Shelf.SortM.SortNone
import Derived.Ground.GgzProg
import Derived.Ground.SlgmProg
import Derived.Test.YtiehgnlnofhbaaaGreatDoorProg
import Derived.RegionTactic
import Derived.Deep.QuietTactic
import Derived.BigQuiet
import Derived.BigRegion
import Derived.StillTailTactics
import Derived.WalkSpells
import Derived.Outline
import Derived.Deep.AppendLies
import Derived.Deep.RegionLaw
import Derived.LoopTactic
import Derived.LaidEqlPtr
set_option maxRecDepth 100000
set_option maxHeartbeats 4000000
namespace Go.Proofs.YtiehgnlnofhbaaaGreatDoor
section
open Go.RowKit
attribute [local irreducible] ak aU af aj
theorem Ms {β:Bs} (m:Nat) (ps:List (Int×Int)) (hl:ps.length<=1048576) (hw:∀ z y,up ps z=some y->(-9223372036854775808<=z/\z<=9223372036854775807)/\(-9223372036854775808<=y/\y<=9223372036854775807)) :
    Spec Tryz.prog β 66 #[.map (some m)] [.abs (aP Tryz.prog 3 m (mf (pf ps)) ps.length)] (fun v l=>v=.bool (decide (vG ps))/\l=[]):=by
 refine Spec.enter Tryz.func66 rfl Tryz.ntmps66 (Nat.le_of_ble_eq_true rfl) (fun R=>?_)
 refine SR (gK 1 [] [] ?_)
 refine NS (ak.mz (d:=(some 11)) (t:=137) (fun _=>by kernel_rfl) Tryz.prog rfl 3 (fun m1=>?_))
 refine gK 1 [(3,.map (some m1))] [] ?_
 refine NN (af.seq (SR (ak.dV 2 (p:=.abs (aP Tryz.prog 3 m1 (fun _=>none) 0)) (p':=.abs (aP Tryz.prog 3 m1 (mf (ff [])) 0)) (by kernel_rfl) (by rw [S5]) ?_)))
 refine gK 1 [(12,.map (some m))] [] ?_
 refine ak.mapRange 0 (d:=(some 13)) (t:=137) (K:=3) (E:=3) (b:=m) (n:=ps.length) (f:=(mf (pf ps))) (x:=(.tmp 12)) (fun _=>by kernel_rfl) (by kernel_rfl) (fun _=>by kernel_rfl) dZ Tryz.underlying137 (fun r2=>?_)
 refine NN (af.block ?_)
 refine af.loop (ι:=(Lit->Bool)×Nat×(Option Value)×(List Int)×Nat) (fun ((left,cnt,last,fs,fn):(Lit->Bool)×Nat×(Option Value)×(List Int)×Nat)=>(cnt<=ps.length)/\(∀ x y,up ps x=some y->left (.int .i64 x)=false->Ends ps x)/\(∀ x,x∈fs->Ends ps x)/\(fn<=(ps.length - cnt) * (ps.length+2))) (fun ((left,cnt,last,fs,fn):(Lit->Bool)×Nat×(Option Value)×(List Int)×Nat)=>cnt) (fun ((left,cnt,last,fs,fn):(Lit->Bool)×Nat×(Option Value)×(List Int)×Nat)=>[(0,.map (some m)),(3,.map (some m1)),(13,vP r2)]) (fun ((left,cnt,last,fs,fn):(Lit->Bool)×Nat×(Option Value)×(List Int)×Nat)=>[.abs (iI Tryz.prog 3 m r2 (mf (pf ps)) ps.length left cnt last),.abs (aP Tryz.prog 3 m1 (mf (ff fs)) fn),.abs R]) ((fun kl=>((mf (pf ps)) kl).isSome),ps.length,none,[],0) (idx:=[0,3,13]) (pk:=[0,2,1]) (show (ps.length<=ps.length)/\(∀ x y,up ps x=some y->((fun kl=>((mf (pf ps)) kl).isSome)) (.int .i64 x)=false->Ends ps x)/\(∀ x,x∈([])->Ends ps x)/\(0<=(ps.length - ps.length) * (ps.length+2)) from ⟨Nat.le_refl _,fun x y hx h=>(by have h:((up ps x).map (Value.int .i64)).isSome=false:=h;rw [hx] at h;cases h),fun x hx=>(by cases hx),Nat.zero_le _⟩) (fun _=>by kernel_rfl) rfl (by kernel_rfl) ?_
 rintro⟨left,cnt,last,fs,fn⟩ ⟨W6,hdone,hfs,hfn⟩
 show af _ _ _ _ [(0,.map (some m)),(3,.map (some m1)),(13,vP r2)] [.abs (iI Tryz.prog 3 m r2 (mf (pf ps)) ps.length left cnt last),.abs (aP Tryz.prog 3 m1 (mf (ff fs)) fn),.abs R] _
 have mP:fn<=1048576 * 1048578:=Nat.le_trans hfn (Nat.mul_le_mul (by omega) (by omega))
 refine SR (ak.mapNext 0 (d:=(some 14)) (K:=3) (b:=m) (r:=r2) (f:=(mf (pf ps))) (n:=ps.length) (left:=left) (cnt:=cnt) (last:=last) (x:=(.tmp 13)) (fun _=>by kernel_rfl) (by kernel_rfl) (fun _=>by kernel_rfl) dZ Tryz.underlying3 (fun hc0 hl0=>?_) (fun z u cnt' hlz hfz Zy W7=>?_))
 ·refine gK 1 [(15,.bool false)] [] ?_
  refine NN (af.seq (CF (af.exit (aj.aV (aj.aV (aj.cL (NX (SR ?_))))))))
  refine gK 1 [(2,.bool true)] [] ?_
  refine NN (af.ret ?_)
  exact RT (.bool true) [2] (⟨congrArg Value.bool (decide_eq_true (p:=vG ps) (fun z=>by cases hu:up ps z with|none=>exact⟨0,hu⟩|some y=>exact hdone z y hu (hl0 _))).symm,rfl⟩)
 obtain⟨y,hy,rfl⟩:=RN hfz
 refine gK 1 [(15,.bool true)] [] ?_
 refine NN (af.seq (CT (af.skip (NX (af.block (SR ?_))))))
 refine ak.mapEntry 0 (d:=(some 16)) (K:=3) (b:=m) (r:=r2) (f:=(mf (pf ps))) (n:=ps.length) (left:=(fun kl=>left kl && !kl.sameKey (.int .i64 z))) (cnt:=cnt') (v:=.tuple #[.int .i64 (z),.int .i64 (y)]) (x:=(.tmp 13)) (fun _=>by kernel_rfl) (by kernel_rfl) (fun _=>by kernel_rfl) ?_
 refine gK 2 [(4,.int .i64 (z))] [] ?_
 refine NS (gK 1 [(5,.slice none (0) (0))] [] ?_)
 refine NN (af.join (ι:=(List Int)×(Option Addr)×Nat) (fun ((w2,A2,c2):(List Int)×(Option Addr)×Nat)=>(Ends ps z)/\(∀ x,x∈w2->Ends ps x)/\(w2.length<=ps.length+1)/\(∀ x,x∈w2->-9223372036854775808<=x/\x<=9223372036854775807)) (fun ((w2,A2,c2):(List Int)×(Option Addr)×Nat)=>[(0,.map (some m)),(3,.map (some m1)),(5,.slice A2 (w2.length) (c2)),(13,vP r2)]) (fun ((w2,A2,c2):(List Int)×(Option Addr)×Nat)=>[.abs (iI Tryz.prog 3 m r2 (mf (pf ps)) ps.length (fun kl=>left kl && !kl.sameKey (.int .i64 z)) cnt' (some (.tuple #[.int .i64 (z),.int .i64 (y)]))),.abs (aP Tryz.prog 3 m1 (mf (ff fs)) fn),.abs (aH 3 1 A2 w2.length c2 (lV w2)),.abs R]) ?_ ?_)
 ·rintro⟨w2,A2,c2⟩ ⟨hend,Vj,Y7,Tb⟩
  show af _ _ _ _ [(0,.map (some m)),(3,.map (some m1)),(5,.slice A2 (w2.length) (c2)),(13,vP r2)] [.abs (iI Tryz.prog 3 m r2 (mf (pf ps)) ps.length (fun kl=>left kl && !kl.sameKey (.int .i64 z)) cnt' (some (.tuple #[.int .i64 (z),.int .i64 (y)]))),.abs (aP Tryz.prog 3 m1 (mf (ff fs)) fn),.abs (aH 3 1 A2 w2.length c2 (lV w2)),.abs R] _
  refine SR (gK 3 [(41,.slice A2 (w2.length) (c2)),(42,.int .i64 ↑w2.length),(43,.int .i64 0)] [] ?_)
  refine NN (af.block ?_)
  refine af.loop (ι:=Nat×(List Int)×Nat) (fun ((j,sj,pK):Nat×(List Int)×Nat)=>(j<=w2.length)/\(∀ x,x∈sj->Ends ps x)/\(pK<=fn+j)) (fun ((j,sj,pK):Nat×(List Int)×Nat)=>w2.length - j) (fun ((j,sj,pK):Nat×(List Int)×Nat)=>[(0,.map (some m)),(3,.map (some m1)),(13,vP r2),(41,.slice A2 (w2.length) (c2)),(42,.int .i64 ↑w2.length),(43,.int .i64 ↑j)]) (fun ((j,sj,pK):Nat×(List Int)×Nat)=>[.abs (iI Tryz.prog 3 m r2 (mf (pf ps)) ps.length (fun kl=>left kl && !kl.sameKey (.int .i64 z)) cnt' (some (.tuple #[.int .i64 (z),.int .i64 (y)]))),.abs (aP Tryz.prog 3 m1 (mf (ff sj)) pK),.abs (aH 3 1 A2 w2.length c2 (lV w2)),.abs R]) (0,fs,fn) (idx:=[0,3,13,41,42,43]) (pk:=[0,1,2,3]) (show (0<=w2.length)/\(∀ x,x∈fs->Ends ps x)/\(fn<=fn+0) from ⟨Nat.zero_le _,hfs,Nat.le_refl _⟩) (fun _=>by kernel_rfl) rfl (by kernel_rfl) ?_
  rintro⟨j,sj,pK⟩ ⟨hj,Tc,W8⟩
  show af _ _ _ _ [(0,.map (some m)),(3,.map (some m1)),(13,vP r2),(41,.slice A2 (w2.length) (c2)),(42,.int .i64 ↑w2.length),(43,.int .i64 ↑j)] [.abs (iI Tryz.prog 3 m r2 (mf (pf ps)) ps.length (fun kl=>left kl && !kl.sameKey (.int .i64 z)) cnt' (some (.tuple #[.int .i64 (z),.int .i64 (y)]))),.abs (aP Tryz.prog 3 m1 (mf (ff sj)) pK),.abs (aH 3 1 A2 w2.length c2 (lV w2)),.abs R] _
  refine SR (gK 1 [(44,.bool (decide ((((j:Nat):Int):Int) < (((w2.length:Nat):Int):Int))))] [] ?_)
  refine NN (af.seq (af.aW (p:=(((j:Nat):Int):Int) < (((w2.length:Nat):Int):Int)) (fun _=>by kernel_rfl) (fun Mt=>?_) (fun Mt=>?_)))
  ·refine af.skip (NX (af.seq (af.block (SR ?_))))
   refine ak.tell (fun w hS=>let ⟨F,h⟩:=hS.get (i:=2) rfl;(aH.Kw h (by omega)).1) (fun QI=>?_)
   refine gK 3 [(10,.int .i64 ((w2.getD j 0)))] [(0,p_ ⟨[],some j,none,some ⟨(ay A2),ax A2,none⟩,none⟩ [((j:Nat):Int)=((j:Nat):Int),j < w2.length,(⟨(ay A2),ax A2,none⟩:Addr).spot=none,(A2:Option Addr)=some ⟨(ay A2),ax A2,none⟩] ⟨rfl,by omega,rfl,QI,trivial⟩),(1,p_ ⟨[.view 2 (.int .i64 ((w2.getD j 0)))],none,none,none,none⟩ [(∀ F w,(aH 3 1 A2 w2.length c2 (lV w2)).h F w->w.cell? ⟨(ay A2),ax A2+j * 1,none⟩=some (.int .i64 ((w2.getD j 0))))] ⟨aH.Vi (by omega),trivial⟩)] ?_
   refine NN (af.region (gK 2 [(47,.map (some m1)),(48,.int .i64 ((w2.getD j 0)))] [] ?_))
   refine ak.kU 1 (d:=none) (t:=137) (K:=3) (E:=3) (b:=m1) (n:=pK) (f:=(mf (ff sj))) (x:=(.tmp 47)) (ix:=(.tmp 48)) (y:=(.const (.int .i64 1))) (key:=.int .i64 ((w2.getD j 0))) (u:=.int .i64 1) (kl:=(.int .i64 (w2.getD j 0))) (n':=(if (ff sj (w2.getD j 0)).isSome then pK else pK+1)) (f':=(mf (ff ((w2.getD j 0)::sj)))) (fun _=>by kernel_rfl) (by kernel_rfl) (fun _=>by kernel_rfl) (fun _=>by kernel_rfl) (fun _=>by kernel_rfl) dZ Tryz.underlying137 (by unfold maxLen;omega) (nP (Tb _ (Bq (by omega))).1 (Tb _ (Bq (by omega))).2) (rfl) (S6 _ _) ?_
   refine NL (aj.aO (NX (af.region ?_)))
   refine gK 2 [(43,.int .i64 ↑(j+1))] [(0,p_ ⟨[],none,none,none,some (.int .i64 ↑(j+1))⟩ [(Value.int .i64 (IntKind.wrap .i64 (((j:Nat):Int)+1)))=(.int .i64 ↑(j+1))] ⟨bC (by omega) (by omega) (by omega),trivial⟩)] ?_
   refine NL ?_
   exact aj.turn ((j+1),((w2.getD j 0)::sj),(if (ff sj (w2.getD j 0)).isSome then pK else pK+1)) (idx:=[0,3,13,41,42,43]) (pk:=[0,1,2,3]) (show (((j+1))<=w2.length)/\(∀ x,x∈(((w2.getD j 0)::sj))->Ends ps x)/\(((if (ff sj (w2.getD j 0)).isSome then pK else pK+1))<=fn+((j+1))) from ⟨by omega,fun x hx=>(List.mem_cons.1 hx).elim (fun e=>e ▸ Vj _ (Bq (by omega))) (Tc x),by split<;>omega⟩) (by show w2.length - ((j+1)) < w2.length - j;omega) (fun _=>by kernel_rfl) rfl (by kernel_rfl)
  refine af.exit (aj.aV (aj.aV (aj.cL (aj.aO ?_))))
  exact aj.turn ((fun kl=>left kl && !kl.sameKey (.int .i64 z)),cnt',(some (.tuple #[.int .i64 (z),.int .i64 (y)])),sj,pK) (idx:=[0,3,13]) (pk:=[0,1,3]) (show (cnt'<=ps.length)/\(∀ x y,up ps x=some y->((fun kl=>left kl && !kl.sameKey (.int .i64 z))) (.int .i64 x)=false->Ends ps x)/\(∀ x,x∈sj->Ends ps x)/\(pK<=(ps.length - cnt') * (ps.length+2)) from ⟨by omega,KE hdone hend,Tc,OV hfn W8 (by omega) W7 W6⟩) (by show cnt' < cnt;omega) (fun _=>by kernel_rfl) rfl (by kernel_rfl)
 refine SR (ak.mem (fun w hS=>hS.mo (e:=3) (size:=1)) ?_)
 refine gK 2 [(6,.int .i64 (z))] [] ?_
 refine NN (af.block ?_)
 refine af.loop (ι:=Int×(List Int)×(Option Addr)×Nat) (fun ((at_,w,Aw,cw):Int×(List Int)×(Option Addr)×Nat)=>(Way ps z w at_)/\(w.length<=ps.length)/\(∀ x,x∈w->-9223372036854775808<=x/\x<=9223372036854775807)/\(-9223372036854775808<=at_/\at_<=9223372036854775807)) (fun ((at_,w,Aw,cw):Int×(List Int)×(Option Addr)×Nat)=>ps.length+1 - w.length) (fun ((at_,w,Aw,cw):Int×(List Int)×(Option Addr)×Nat)=>[(0,.map (some m)),(3,.map (some m1)),(5,.slice Aw (w.length) (cw)),(6,.int .i64 (at_)),(13,vP r2)]) (fun ((at_,w,Aw,cw):Int×(List Int)×(Option Addr)×Nat)=>[.abs (iI Tryz.prog 3 m r2 (mf (pf ps)) ps.length (fun kl=>left kl && !kl.sameKey (.int .i64 z)) cnt' (some (.tuple #[.int .i64 (z),.int .i64 (y)]))),.abs (aP Tryz.prog 3 m1 (mf (ff fs)) fn),.abs (aH 3 1 Aw w.length cw (lV w)),.abs R]) (z,[],none,0) (idx:=[0,3,5,6,13]) (pk:=[0,1,3,2]) (show (Way ps z ([]) z)/\(([]).length<=ps.length)/\(∀ x,x∈([])->-9223372036854775808<=x/\x<=9223372036854775807)/\(-9223372036854775808<=z/\z<=9223372036854775807) from ⟨.nil,Nat.zero_le _,fun x hx=>(by cases hx),(hw z y hy).1⟩) (fun _=>by kernel_rfl) rfl (by kernel_rfl) ?_
 rintro⟨at_,w,Aw,cw⟩ ⟨j6,hwl,Td,hab⟩
 show af _ _ _ _ [(0,.map (some m)),(3,.map (some m1)),(5,.slice Aw (w.length) (cw)),(6,.int .i64 (at_)),(13,vP r2)] [.abs (iI Tryz.prog 3 m r2 (mf (pf ps)) ps.length (fun kl=>left kl && !kl.sameKey (.int .i64 z)) cnt' (some (.tuple #[.int .i64 (z),.int .i64 (y)]))),.abs (aP Tryz.prog 3 m1 (mf (ff fs)) fn),.abs (aH 3 1 Aw w.length cw (lV w)),.abs R] _
 refine af.seq (SR (gK 2 [(19,.map (some m1)),(20,.int .i64 (at_))] [] ?_))
 by_cases hfa:at_∈fs
 ·refine ak.dW 1 (d:=(some 21)) (t:=137) (K:=3) (E:=3) (b:=m1) (n:=fn) (f:=(mf (ff fs))) (x:=(.tmp 19)) (ix:=(.tmp 20)) (key:=.int .i64 (at_)) (z:=.int .i64 0) (kl:=(.int .i64 at_)) (r:=(some (.int .i64 1))) (fun _=>by kernel_rfl) (by kernel_rfl) (fun _=>by kernel_rfl) (fun _=>by kernel_rfl) dZ Tryz.underlying137 (fun _=>by kernel_rfl) (nP hab.1 hab.2) (if_pos hfa) ?_
  refine gK 1 [(22,.bool false)] [] ?_
  refine NN (CF (af.exit (aj.aV (aj.aV (aj.cL ?_)))))
  exact aj.meet (w,Aw,cw) (idx:=[0,3,5,13]) (pk:=[0,1,2,3]) (show (Ends ps z)/\(∀ x,x∈w->Ends ps x)/\(w.length<=ps.length+1)/\(∀ x,x∈w->-9223372036854775808<=x/\x<=9223372036854775807) from ⟨(j6.ends (hfs at_ hfa)).1,(j6.ends (hfs at_ hfa)).2,by omega,Td⟩) (fun _=>by kernel_rfl) rfl (by kernel_rfl)
 refine ak.dW 1 (d:=(some 21)) (t:=137) (K:=3) (E:=3) (b:=m1) (n:=fn) (f:=(mf (ff fs))) (x:=(.tmp 19)) (ix:=(.tmp 20)) (key:=.int .i64 (at_)) (z:=.int .i64 0) (kl:=(.int .i64 at_)) (r:=none) (fun _=>by kernel_rfl) (by kernel_rfl) (fun _=>by kernel_rfl) (fun _=>by kernel_rfl) dZ Tryz.underlying137 (fun _=>by kernel_rfl) (nP hab.1 hab.2) (if_neg hfa) ?_
 refine gK 1 [(22,.bool true)] [] ?_
 refine NN (CT (af.skip (NX (af.block (SR ?_)))))
 refine gN 3 (fun b3=>[(23,.slice Aw (w.length) (cw)),(25,.slice (some ⟨b3,0,none⟩) (1) (1))]) (fun _=>[]) (fun _=>[]) (fun b3=>.blk b3 [.int .i64 (at_)] 3) (fun b3=>?_)
 refine ak.append 2 (d:=(some 26)) (t:=69) (e:=3) (z:=.int .i64 0) (size:=1) (bytes:=8) (n:=w.length) (cap:=cw) (A:=Aw) (xs:=(lV w)) (s:=(.tmp 23)) (x:=(.tmp 25)) (ats:=#[69,69]) (A':=some ⟨b3,0,none⟩) (m:=1) (c':=1) (news:=[.int .i64 (at_)]) (fun _=>by kernel_rfl) rfl (by kernel_rfl) (fun _=>by kernel_rfl) (fun _=>by kernel_rfl) Tryz.underlying69 (by kernel_rfl) rfl (by decide) (by simp) (by simp [Value.oneCell']) (mA (j:=4) rfl) (by unfold maxLen;omega) (by omega) (fun A4 c5=>?_)
 refine ak.dV 2 (p:=.abs (aH 3 1 A4 (w.length+1) c5 ((lV w)++[.int .i64 (at_)]))) (p':=.abs (aH 3 1 A4 ((w++[at_]).length) c5 (lV (w++[at_])))) (by kernel_rfl) (by simp [lV]) ?_
 refine ak.slot 26 (.slice A4 (w.length+1) (c5)) (.slice A4 ((w++[at_]).length) (c5)) (fun _=>by kernel_rfl) (by simp) ?_
 refine gK 1 [(5,.slice A4 ((w++[at_]).length) (c5))] [] ?_
 refine NS (gK 2 [(28,.map (some m)),(29,.int .i64 (at_))] [] ?_)
 rcases hup:up ps at_ with _|y2
 ·refine ak.Au 0 (d:=(some 30)) (t:=137) (K:=3) (E:=3) (b:=m) (n:=ps.length) (f:=(mf (pf ps))) (r:=r2) (left:=(fun kl=>left kl && !kl.sameKey (.int .i64 z))) (cnt:=cnt') (last:=(some (.tuple #[.int .i64 (z),.int .i64 (y)]))) (x:=(.tmp 28)) (ix:=(.tmp 29)) (key:=.int .i64 (at_)) (z:=.int .i64 0) (kl:=(.int .i64 at_)) (u:=none) (fun _=>by kernel_rfl) (by kernel_rfl) (fun _=>by kernel_rfl) (fun _=>by kernel_rfl) dZ Tryz.underlying137 (fun _=>by kernel_rfl) (nP hab.1 hab.2) (wD hup) ?_
  refine gK 5 [(7,.int .i64 0),(8,.bool false)] [] ?_
  refine NN (af.seq (SR (gK 2 [(34,.bool true)] [] ?_)))
  refine NN (CT (af.exit (aj.aV (aj.Md (by decide) (aj.aV (aj.cL ?_))))))
  exact aj.meet ((w++[at_]),A4,c5) (idx:=[0,3,5,13]) (pk:=[0,1,2,3]) (show (Ends ps z)/\(∀ x,x∈((w++[at_]))->Ends ps x)/\(((w++[at_])).length<=ps.length+1)/\(∀ x,x∈((w++[at_]))->-9223372036854775808<=x/\x<=9223372036854775807) from ⟨(Gf j6 hup).1,(Gf j6 hup).2,by simp;omega,JF Td hab⟩) (fun _=>by kernel_rfl) rfl (by kernel_rfl)
 refine ak.Au 0 (d:=(some 30)) (t:=137) (K:=3) (E:=3) (b:=m) (n:=ps.length) (f:=(mf (pf ps))) (r:=r2) (left:=(fun kl=>left kl && !kl.sameKey (.int .i64 z))) (cnt:=cnt') (last:=(some (.tuple #[.int .i64 (z),.int .i64 (y)]))) (x:=(.tmp 28)) (ix:=(.tmp 29)) (key:=.int .i64 (at_)) (z:=.int .i64 0) (kl:=(.int .i64 at_)) (u:=(some (.int .i64 y2))) (fun _=>by kernel_rfl) (by kernel_rfl) (fun _=>by kernel_rfl) (fun _=>by kernel_rfl) dZ Tryz.underlying137 (fun _=>by kernel_rfl) (nP hab.1 hab.2) (QL hup) ?_
 refine gK 5 [(7,.int .i64 (y2)),(8,.bool true)] [] ?_
 refine NN (af.seq (SR (gK 2 [(34,.bool false)] [] ?_)))
 refine NN (CF (af.skip (NX (af.seq (SR (gK 3 [(36,.int .i64 ↑((w++[at_]).length)),(37,.map (some m))] [] ?_))))))
 refine ak.OT 0 (d:=(some 38)) (t:=137) (K:=3) (E:=3) (b:=m) (n:=ps.length) (f:=(mf (pf ps))) (r:=r2) (left:=(fun kl=>left kl && !kl.sameKey (.int .i64 z))) (cnt:=cnt') (last:=(some (.tuple #[.int .i64 (z),.int .i64 (y)]))) (x:=(.tmp 37)) (ats:=#[137]) (fun _=>by kernel_rfl) (by kernel_rfl) (fun _=>by kernel_rfl) rfl Tryz.underlying137 ?_
 refine gK 1 [(39,.bool (decide (((((w++[at_]).length:Nat):Int):Int) > (((ps.length:Nat):Int):Int))))] [] ?_
 refine NN (af.aW (p:=((((w++[at_]).length:Nat):Int):Int) > (((ps.length:Nat):Int):Int)) (fun _=>by kernel_rfl) (fun iV=>?_) (fun iV=>?_))
 ·refine SR (gK 1 [(2,.bool false)] [] ?_)
  refine NN (af.ret (aj.aq (aj.aK (aj.aq (aj.aK (aj.aq (aj.aK (aj.aq (aj.aK (aj.aq ?_))))))))))
  exact RT (.bool false) [3] (⟨congrArg Value.bool (decide_eq_false (p:=vG ps) (fun hall=>(j6.snoc hup).never (by simp at iV ⊢;omega) (hall z))).symm,rfl⟩)
 refine af.skip (NX (af.region (gK 2 [(6,.int .i64 (y2))] [] ?_)))
 refine NL (aj.aO ?_)
 exact aj.turn (y2,(w++[at_]),A4,c5) (idx:=[0,3,5,6,13]) (pk:=[0,1,2,3]) (show (Way ps z ((w++[at_])) y2)/\(((w++[at_])).length<=ps.length)/\(∀ x,x∈((w++[at_]))->-9223372036854775808<=x/\x<=9223372036854775807)/\(-9223372036854775808<=y2/\y2<=9223372036854775807) from ⟨j6.snoc hup,by simp at iV ⊢;omega,JF Td hab,(hw at_ y2 hup).2⟩) (by show ps.length+1 - ((w++[at_])).length < ps.length+1 - w.length;simp;omega) (fun _=>by kernel_rfl) rfl (by kernel_rfl)
end
section
open Go.RowKit
attribute [local irreducible] ak aU af aj
theorem ur {β:Bs} (a b c:Int) :
    Spec Tryz.prog β 86 #[vI (a),vI (b),vI (c)] [] (fun v l=>v=.bool (decide (Within a b c))/\l=[]):=by
 refine Spec.enter Tryz.func86 rfl Tryz.ntmps86 (Nat.le_of_ble_eq_true rfl) (fun R=>?_)
 refine SR (gK 1 [] [] ?_)
 refine NS (gK 4 [(10,.bool (decide ((a:Int) ≥ (b:Int))))] [] ?_)
 refine ak.iE 10 ((a:Int) ≥ (b:Int)) (fun _=>by kernel_rfl) (fun h10=>?_) (fun h10=>?_)
 ·refine gK 5 [(6,.bool (decide ((a:Int)<=(c:Int))))] [] ?_
  refine NN (af.ret ?_)
  exact RT (.bool (decide ((a:Int)<=(c:Int)))) [0] (⟨congrArg Value.bool (decide_eq_decide.2 (by unfold Within;omega)),rfl⟩)
 refine gK 5 [(6,.bool false)] [] ?_
 refine NN (af.ret ?_)
 exact RT (.bool false) [0] (⟨congrArg Value.bool (decide_eq_false (by unfold Within;omega)).symm,rfl⟩)
theorem mq {β:Bs} (s n:Int) :
    Spec Tryz.prog β 75 #[.agg #[vI (s),vI (n)]] [] (fun v l=>v=.bool (decide (fO s n))/\l=[]):=by
 refine Spec.enter Tryz.func75 rfl Tryz.ntmps75 (Nat.le_of_ble_eq_true rfl) (fun R=>?_)
 refine SR (gN 2 (fun b1=>[(1,vP b1)]) (fun _=>[]) (fun _=>[]) (fun b1=>.blk b1 [vI (s),vI (n)] 26) (fun b1=>?_))
 refine NN (af.seq (SR (gK 4 [(6,.bool (decide ((n:Int) < (0:Int))))] [(1,a_ 1 b1)] ?_)))
 refine ak.iE 6 ((n:Int) < (0:Int)) (fun _=>by kernel_rfl) (fun h6=>?_) (fun h6=>?_)
 ·refine gK 4 [(10,.bool true)] [] ?_
  refine NN (CT (SR (gK 1 [(2,.bool false)] [] ?_)))
  refine NN (af.ret (aj.aq ?_))
  exact RT (.bool false) [0] (⟨congrArg Value.bool (decide_eq_false (by unfold fO;omega)).symm,rfl⟩)
 refine gK 4 [(10,.bool (decide ((n:Int) ≥ (1000000000:Int))))] [(1,a_ 1 b1)] ?_
 refine NN (af.aW (p:=(n:Int) ≥ (1000000000:Int)) (fun _=>by kernel_rfl) (fun h10=>?_) (fun h10=>?_))
 ·refine SR (gK 1 [(2,.bool false)] [] ?_)
  refine NN (af.ret (aj.aq ?_))
  exact RT (.bool false) [0] (⟨congrArg Value.bool (decide_eq_false (by unfold fO;omega)).symm,rfl⟩)
 refine af.skip (NX (af.seq (SR (gK 3 [(13,.bool (decide ((s:Int)=((-1099511627777):Int))))] [(1,a_ 1 b1)] ?_))))
 refine NN (af.aW (p:=(s:Int)=((-1099511627777):Int)) (fun _=>by kernel_rfl) (fun XZ=>?_) (fun XZ=>?_))
 ·refine SR (gK 4 [(2,.bool (decide ((n:Int) > (0:Int))))] [(1,a_ 1 b1)] ?_)
  refine NN (af.ret (aj.aq ?_))
  exact RT (.bool (decide ((n:Int) > (0:Int)))) [0] (⟨congrArg Value.bool (decide_eq_decide.2 (by unfold fO;omega)),rfl⟩)
 refine af.skip (NX (SR (gK 4 [(20,.bool (decide ((s:Int) > ((-1099511627777):Int))))] [(1,a_ 1 b1)] ?_)))
 refine ak.iE 20 ((s:Int) > ((-1099511627777):Int)) (fun _=>by kernel_rfl) (fun kg=>?_) (fun kg=>?_)
 ·refine gK 5 [(2,.bool (decide ((s:Int)<=(1099511627776:Int))))] [(1,a_ 1 b1)] ?_
  refine NN (af.ret ?_)
  exact RT (.bool (decide ((s:Int)<=(1099511627776:Int)))) [0] (⟨congrArg Value.bool (decide_eq_decide.2 (by unfold fO;omega)),rfl⟩)
 refine gK 5 [(2,.bool false)] [] ?_
 refine NN (af.ret ?_)
 exact RT (.bool false) [0] (⟨congrArg Value.bool (decide_eq_false (by unfold fO;omega)).symm,rfl⟩)
theorem zK {β:Bs} (A:Option Addr) (ns:List aI) (L:Lay) (hG:aE β A ns L) (i:Nat) (hi:i < ns.length) :
    Spec Tryz.prog β 87 #[.pointer (some ⟨(ay A),ax A+i * 10,none⟩)] [] (fun v l=>v=.bool (decide (fw (nd ns i).kind (nd ns i).target))/\l=[]):=by
 refine Spec.enter Tryz.func87 rfl Tryz.ntmps87 (Nat.le_of_ble_eq_true rfl) (fun R=>?_)
 refine SR (gK 1 [] [] ?_)
 refine NN (af.seq (SR (gK 5 [(7,.bool (!(decide (((nd ns i).kind:Int)=(3:Int)))))] [(3,p_ ⟨[.old (.int .i64 ((nd ns i).kind))],none,none,none,none⟩ [(Rd β ⟨(ay A),ax A+i * 10+1,none⟩ (.int .i64 ((nd ns i).kind)))] ⟨aE.rd hG (i:=i) (by omega) (j:=1) rfl,trivial⟩)] ?_)))
 refine NN (af.fI (p:=((nd ns i).kind:Int)=(3:Int)) (fun _=>by kernel_rfl) (fun h7=>?_) (fun h7=>?_))
 ·refine SR (gK 6 [(2,.bool (decide (((nd ns i).target:ByteArray)=⟨#[]⟩)))] [(3,p_ ⟨[.old (.string (nd ns i).target)],none,none,none,none⟩ [(Rd β ⟨(ay A),ax A+i * 10+8,none⟩ (.string (nd ns i).target))] ⟨aE.rd hG (i:=i) (by omega) (j:=8) rfl,trivial⟩),(4,p_ ⟨[],none,none,none,some (.bool (decide (((nd ns i).target:ByteArray)=⟨#[]⟩)))⟩ [(Value.bool (((nd ns i).target:ByteArray).toList == (⟨#[]⟩:ByteArray).toList))=(.bool (decide (((nd ns i).target:ByteArray)=⟨#[]⟩)))] ⟨vC _ _,trivial⟩)] ?_)
  refine NN (af.ret (aj.aq ?_))
  exact RT (.bool (decide (((nd ns i).target:ByteArray)=⟨#[]⟩))) [0] (⟨congrArg Value.bool (decide_eq_decide.2 (by have h0:=lU (s:=(nd ns i).target);grind [fw])),rfl⟩)
 refine af.skip (NX (SR (gK 6 [(18,.bool (!(decide (((nd ns i).target:ByteArray)=⟨#[]⟩))))] [(3,p_ ⟨[.old (.string (nd ns i).target)],none,none,none,none⟩ [(Rd β ⟨(ay A),ax A+i * 10+8,none⟩ (.string (nd ns i).target))] ⟨aE.rd hG (i:=i) (by omega) (j:=8) rfl,trivial⟩),(4,p_ ⟨[],none,none,none,some (.bool (!(decide (((nd ns i).target:ByteArray)=⟨#[]⟩))))⟩ [(Value.bool (!(((nd ns i).target:ByteArray).toList == (⟨#[]⟩:ByteArray).toList)))=(.bool (!(decide (((nd ns i).target:ByteArray)=⟨#[]⟩))))] ⟨Me _ _,trivial⟩)] ?_)))
 refine ak.jx 18 (((nd ns i).target:ByteArray)=⟨#[]⟩) (fun _=>by kernel_rfl) (fun oU=>?_) (fun oU=>?_)
 ·refine gK 8 [(26,.bool (decide ((((((nd ns i).target:ByteArray).size:Nat):Int):Int)<=(4096:Int))))] [(3,p_ ⟨[.old (.string (nd ns i).target)],none,none,none,none⟩ [(Rd β ⟨(ay A),ax A+i * 10+8,none⟩ (.string (nd ns i).target))] ⟨aE.rd hG (i:=i) (by omega) (j:=8) rfl,trivial⟩)] ?_
  refine ak.iE 26 ((((((nd ns i).target:ByteArray).size:Nat):Int):Int)<=(4096:Int)) (fun _=>by kernel_rfl) (fun pN=>?_) (fun pN=>?_)
  ·refine gK 4 [(30,.string (nd ns i).target)] [(3,p_ ⟨[.old (.string (nd ns i).target)],none,none,none,none⟩ [(Rd β ⟨(ay A),ax A+i * 10+8,none⟩ (.string (nd ns i).target))] ⟨aE.rd hG (i:=i) (by omega) (j:=8) rfl,trivial⟩)] ?_
   refine gL (f:=105) (args:=#[.string (nd ns i).target,.int .u8 0]) (pre:=[]) [] (Spec.quiet (fun w=>Tryz.strings_IndexByte (nd ns i).target 0 w)) ?_
   rintro _ _ ⟨rfl,rfl⟩
   refine gK 3 [(2,.bool (decide ((Lib.indexByte (nd ns i).target.data.toList (0:Int).toNat.toUInt8:Int) < (0:Int))))] [] ?_
   refine NN (af.ret ?_)
   exact RT (.bool (decide ((Lib.indexByte (nd ns i).target.data.toList (0:Int).toNat.toUInt8:Int) < (0:Int)))) [0] (⟨congrArg Value.bool (decide_eq_decide.2 (by have h0:=lU (s:=(nd ns i).target);rw [Gd];grind [fw])),rfl⟩)
  refine gK 8 [(2,.bool false)] [] ?_
  refine NN (af.ret ?_)
  exact RT (.bool false) [0] (⟨congrArg Value.bool (decide_eq_false (by have h0:=lU (s:=(nd ns i).target);grind [fw])).symm,rfl⟩)
 refine gK 16 [(2,.bool false)] [] ?_
 refine NN (af.ret ?_)
 exact RT (.bool false) [0] (⟨congrArg Value.bool (decide_eq_false (by have h0:=lU (s:=(nd ns i).target);grind [fw])).symm,rfl⟩)
theorem OY {β:Bs} (A:Option Addr) (ns:List aI) (L:Lay) (hG:aE β A ns L) (i:Nat) (hi:i < ns.length) :
    Spec Tryz.prog β 64 #[.pointer (some ⟨(ay A),ax A+i * 10,none⟩)] [] (fun v l=>v=.bool (decide (nW (nd ns i)))/\l=[]):=by
 refine Spec.enter Tryz.func64 rfl Tryz.ntmps64 (Nat.le_of_ble_eq_true rfl) (fun R=>?_)
 refine SR (gK 1 [] [] ?_)
 refine NN (af.seq (SR (gK 4 [(6,vI ((nd ns i).kind))] [(3,p_ ⟨[.old (.int .i64 ((nd ns i).kind))],none,none,none,none⟩ [(Rd β ⟨(ay A),ax A+i * 10+1,none⟩ (.int .i64 ((nd ns i).kind)))] ⟨aE.rd hG (i:=i) (by omega) (j:=1) rfl,trivial⟩)] ?_)))
 refine gL [] (ur ((nd ns i).kind) 1 3) ?_
 rintro _ _ ⟨rfl,rfl⟩
 refine gK 2 [(9,.bool (!(decide (Within ((nd ns i).kind) 1 3))))] [] ?_
 refine ak.jx 9 (Within ((nd ns i).kind) 1 3) (fun _=>by kernel_rfl) (fun h9=>?_) (fun h9=>?_)
 ·refine gK 23 [(32,.bool true)] [] ?_
  refine NN (CT (SR (gK 1 [(2,.bool false)] [] ?_)))
  refine NN (af.ret (aj.aq ?_))
  exact RT (.bool false) [0] (⟨congrArg Value.bool (decide_eq_false (by rw [fX];unfold Within at *;grind)).symm,rfl⟩)
 refine gK 4 [(13,vI ((nd ns i).mode))] [(3,p_ ⟨[.old (.int .i64 ((nd ns i).mode))],none,none,none,none⟩ [(Rd β ⟨(ay A),ax A+i * 10+2,none⟩ (.int .i64 ((nd ns i).mode)))] ⟨aE.rd hG (i:=i) (by omega) (j:=2) rfl,trivial⟩)] ?_
 refine gL [] (ur ((nd ns i).mode) 0 4095) ?_
 rintro _ _ ⟨rfl,rfl⟩
 refine gK 3 [(17,.bool (!(decide (Within ((nd ns i).mode) 0 4095))))] [] ?_
 refine ak.jx 17 (Within ((nd ns i).mode) 0 4095) (fun _=>by kernel_rfl) (fun Mn=>?_) (fun Mn=>?_)
 ·refine gK 15 [(32,.bool true)] [] ?_
  refine NN (CT (SR (gK 1 [(2,.bool false)] [] ?_)))
  refine NN (af.ret (aj.aq ?_))
  exact RT (.bool false) [0] (⟨congrArg Value.bool (decide_eq_false (by rw [fX];unfold Within at *;grind)).symm,rfl⟩)
 refine gK 4 [(21,vI ((nd ns i).uid))] [(3,p_ ⟨[.old (.int .i64 ((nd ns i).uid))],none,none,none,none⟩ [(Rd β ⟨(ay A),ax A+i * 10+3,none⟩ (.int .i64 ((nd ns i).uid)))] ⟨aE.rd hG (i:=i) (by omega) (j:=3) rfl,trivial⟩)] ?_
 refine gL [] (ur ((nd ns i).uid) 0 2147483647) ?_
 rintro _ _ ⟨rfl,rfl⟩
 refine gK 3 [(25,.bool (!(decide (Within ((nd ns i).uid) 0 2147483647))))] [] ?_
 refine ak.jx 25 (Within ((nd ns i).uid) 0 2147483647) (fun _=>by kernel_rfl) (fun xH=>?_) (fun xH=>?_)
 ·refine gK 7 [(32,.bool true)] [] ?_
  refine NN (CT (SR (gK 1 [(2,.bool false)] [] ?_)))
  refine NN (af.ret (aj.aq ?_))
  exact RT (.bool false) [0] (⟨congrArg Value.bool (decide_eq_false (by rw [fX];unfold Within at *;grind)).symm,rfl⟩)
 refine gK 4 [(29,vI ((nd ns i).gid))] [(3,p_ ⟨[.old (.int .i64 ((nd ns i).gid))],none,none,none,none⟩ [(Rd β ⟨(ay A),ax A+i * 10+4,none⟩ (.int .i64 ((nd ns i).gid)))] ⟨aE.rd hG (i:=i) (by omega) (j:=4) rfl,trivial⟩)] ?_
 refine gL [] (ur ((nd ns i).gid) 0 2147483647) ?_
 rintro _ _ ⟨rfl,rfl⟩
 refine gK 2 [(32,.bool (!(decide (Within ((nd ns i).gid) 0 2147483647))))] [] ?_
 refine NN (af.fI (p:=Within ((nd ns i).gid) 0 2147483647) (fun _=>by kernel_rfl) (fun JD=>?_) (fun JD=>?_))
 ·refine SR (gK 1 [(2,.bool false)] [] ?_)
  refine NN (af.ret (aj.aq ?_))
  exact RT (.bool false) [0] (⟨congrArg Value.bool (decide_eq_false (by rw [fX];unfold Within at *;grind)).symm,rfl⟩)
 refine af.skip (NX (af.seq (SR (gK 6 [(38,.bool (!(decide (((nd ns i).kind:Int)=(1:Int)))))] [(3,p_ ⟨[.old (.int .i64 ((nd ns i).kind))],none,none,none,none⟩ [(Rd β ⟨(ay A),ax A+i * 10+1,none⟩ (.int .i64 ((nd ns i).kind)))] ⟨aE.rd hG (i:=i) (by omega) (j:=1) rfl,trivial⟩)] ?_))))
 refine ak.jx 38 (((nd ns i).kind:Int)=(1:Int)) (fun _=>by kernel_rfl) (fun JG=>?_) (fun JG=>?_)
 ·refine gK 8 [(46,.bool (decide (((((nd ns i).data.length:Nat):Int):Int) > (0:Int))))] [(3,p_ ⟨[.old (.slice (L.dA i) ((nd ns i).data.length) ((L.dC i)))],none,none,none,none⟩ [(Rd β ⟨(ay A),ax A+i * 10+7,none⟩ (.slice (L.dA i) ((nd ns i).data.length) ((L.dC i))))] ⟨aE.rd hG (i:=i) (by omega) (j:=7) rfl,trivial⟩)] ?_
  refine ak.iE 46 (((((nd ns i).data.length:Nat):Int):Int) > (0:Int)) (fun _=>by kernel_rfl) (fun h46=>?_) (fun h46=>?_)
  ·refine gK 14 [(60,.bool true)] [] ?_
   refine NN (CT (SR (gK 1 [(2,.bool false)] [] ?_)))
   refine NN (af.ret (aj.aq ?_))
   exact RT (.bool false) [0] (⟨congrArg Value.bool (decide_eq_false (by rw [fX];unfold Within at *;grind)).symm,rfl⟩)
  refine gK 6 [(52,.bool (!(decide (((nd ns i).kind:Int)=(2:Int)))))] [(3,p_ ⟨[.old (.int .i64 ((nd ns i).kind))],none,none,none,none⟩ [(Rd β ⟨(ay A),ax A+i * 10+1,none⟩ (.int .i64 ((nd ns i).kind)))] ⟨aE.rd hG (i:=i) (by omega) (j:=1) rfl,trivial⟩)] ?_
  refine ak.jx 52 (((nd ns i).kind:Int)=(2:Int)) (fun _=>by kernel_rfl) (fun Mu=>?_) (fun Mu=>?_)
  ·refine gK 8 [(60,.bool (decide (((((nd ns i).ah.length:Nat):Int):Int) > (0:Int))))] [(3,p_ ⟨[.old (.slice (L.eA i) ((nd ns i).ah.length) ((L.eC i)))],none,none,none,none⟩ [(Rd β ⟨(ay A),ax A+i * 10+9,none⟩ (.slice (L.eA i) ((nd ns i).ah.length) ((L.eC i))))] ⟨aE.rd hG (i:=i) (by omega) (j:=9) rfl,trivial⟩)] ?_
   refine NN (af.aW (p:=((((nd ns i).ah.length:Nat):Int):Int) > (0:Int)) (fun _=>by kernel_rfl) (fun Te=>?_) (fun Te=>?_))
   ·refine SR (gK 1 [(2,.bool false)] [] ?_)
    refine NN (af.ret (aj.aq ?_))
    exact RT (.bool false) [0] (⟨congrArg Value.bool (decide_eq_false (by rw [fX];unfold Within at *;grind)).symm,rfl⟩)
   refine af.skip (NX (SR (gK 4 [(64,.agg #[vI ((nd ns i).sec),vI ((nd ns i).nano)])] [(3,p_ ⟨[.old (.int .i64 ((nd ns i).sec)),.old (.int .i64 ((nd ns i).nano))],none,none,none,none⟩ [(Rd β ⟨(ay A),ax A+i * 10+5+1,none⟩ (.int .i64 ((nd ns i).nano))),(Rd β ⟨(ay A),ax A+i * 10+5,none⟩ (.int .i64 ((nd ns i).sec)))] ⟨aE.rd hG (i:=i) (by omega) (j:=6) rfl,aE.rd hG (i:=i) (by omega) (j:=5) rfl,trivial⟩)] ?_)))
   refine gL [] (mq (nd ns i).sec (nd ns i).nano) ?_
   rintro _ _ ⟨rfl,rfl⟩
   refine gK 1 [(66,.bool (decide (fO (nd ns i).sec (nd ns i).nano)))] [] ?_
   refine ak.iE 66 (fO (nd ns i).sec (nd ns i).nano) (fun _=>by kernel_rfl) (fun Cm=>?_) (fun Cm=>?_)
   ·refine gK 1 [(67,.pointer (some ⟨(ay A),ax A+i * 10,none⟩))] [] ?_
    refine gL [] (zK A ns L hG i hi) ?_
    rintro _ _ ⟨rfl,rfl⟩
    refine gK 2 [(2,.bool (decide (fw (nd ns i).kind (nd ns i).target)))] [] ?_
    refine NN (af.ret ?_)
    exact RT (.bool (decide (fw (nd ns i).kind (nd ns i).target))) [0] (⟨congrArg Value.bool (decide_eq_decide.2 (by rw [fX];unfold Within at *;grind)),rfl⟩)
   refine gK 4 [(2,.bool false)] [] ?_
   refine NN (af.ret ?_)
   exact RT (.bool false) [0] (⟨congrArg Value.bool (decide_eq_false (by rw [fX];unfold Within at *;grind)).symm,rfl⟩)
  refine gK 8 [(60,.bool false)] [] ?_
  refine NN (CF (af.skip (NX (SR (gK 4 [(64,.agg #[vI ((nd ns i).sec),vI ((nd ns i).nano)])] [(3,p_ ⟨[.old (.int .i64 ((nd ns i).sec)),.old (.int .i64 ((nd ns i).nano))],none,none,none,none⟩ [(Rd β ⟨(ay A),ax A+i * 10+5+1,none⟩ (.int .i64 ((nd ns i).nano))),(Rd β ⟨(ay A),ax A+i * 10+5,none⟩ (.int .i64 ((nd ns i).sec)))] ⟨aE.rd hG (i:=i) (by omega) (j:=6) rfl,aE.rd hG (i:=i) (by omega) (j:=5) rfl,trivial⟩)] ?_)))))
  refine gL [] (mq (nd ns i).sec (nd ns i).nano) ?_
  rintro _ _ ⟨rfl,rfl⟩
  refine gK 1 [(66,.bool (decide (fO (nd ns i).sec (nd ns i).nano)))] [] ?_
  refine ak.iE 66 (fO (nd ns i).sec (nd ns i).nano) (fun _=>by kernel_rfl) (fun Cm=>?_) (fun Cm=>?_)
  ·refine gK 1 [(67,.pointer (some ⟨(ay A),ax A+i * 10,none⟩))] [] ?_
   refine gL [] (zK A ns L hG i hi) ?_
   rintro _ _ ⟨rfl,rfl⟩
   refine gK 2 [(2,.bool (decide (fw (nd ns i).kind (nd ns i).target)))] [] ?_
   refine NN (af.ret ?_)
   exact RT (.bool (decide (fw (nd ns i).kind (nd ns i).target))) [0] (⟨congrArg Value.bool (decide_eq_decide.2 (by rw [fX];unfold Within at *;grind)),rfl⟩)
  refine gK 4 [(2,.bool false)] [] ?_
  refine NN (af.ret ?_)
  exact RT (.bool false) [0] (⟨congrArg Value.bool (decide_eq_false (by rw [fX];unfold Within at *;grind)).symm,rfl⟩)
 refine gK 14 [(46,.bool false),(52,.bool (!(decide (((nd ns i).kind:Int)=(2:Int)))))] [(11,p_ ⟨[.old (.int .i64 ((nd ns i).kind))],none,none,none,none⟩ [(Rd β ⟨(ay A),ax A+i * 10+1,none⟩ (.int .i64 ((nd ns i).kind)))] ⟨aE.rd hG (i:=i) (by omega) (j:=1) rfl,trivial⟩)] ?_
 refine ak.jx 52 (((nd ns i).kind:Int)=(2:Int)) (fun _=>by kernel_rfl) (fun Mu=>?_) (fun Mu=>?_)
 ·refine gK 8 [(60,.bool (decide (((((nd ns i).ah.length:Nat):Int):Int) > (0:Int))))] [(3,p_ ⟨[.old (.slice (L.eA i) ((nd ns i).ah.length) ((L.eC i)))],none,none,none,none⟩ [(Rd β ⟨(ay A),ax A+i * 10+9,none⟩ (.slice (L.eA i) ((nd ns i).ah.length) ((L.eC i))))] ⟨aE.rd hG (i:=i) (by omega) (j:=9) rfl,trivial⟩)] ?_
  refine NN (af.aW (p:=((((nd ns i).ah.length:Nat):Int):Int) > (0:Int)) (fun _=>by kernel_rfl) (fun Te=>?_) (fun Te=>?_))
  ·refine SR (gK 1 [(2,.bool false)] [] ?_)
   refine NN (af.ret (aj.aq ?_))
   exact RT (.bool false) [0] (⟨congrArg Value.bool (decide_eq_false (by rw [fX];unfold Within at *;grind)).symm,rfl⟩)
  refine af.skip (NX (SR (gK 4 [(64,.agg #[vI ((nd ns i).sec),vI ((nd ns i).nano)])] [(3,p_ ⟨[.old (.int .i64 ((nd ns i).sec)),.old (.int .i64 ((nd ns i).nano))],none,none,none,none⟩ [(Rd β ⟨(ay A),ax A+i * 10+5+1,none⟩ (.int .i64 ((nd ns i).nano))),(Rd β ⟨(ay A),ax A+i * 10+5,none⟩ (.int .i64 ((nd ns i).sec)))] ⟨aE.rd hG (i:=i) (by omega) (j:=6) rfl,aE.rd hG (i:=i) (by omega) (j:=5) rfl,trivial⟩)] ?_)))
  refine gL [] (mq (nd ns i).sec (nd ns i).nano) ?_
  rintro _ _ ⟨rfl,rfl⟩
  refine gK 1 [(66,.bool (decide (fO (nd ns i).sec (nd ns i).nano)))] [] ?_
  refine ak.iE 66 (fO (nd ns i).sec (nd ns i).nano) (fun _=>by kernel_rfl) (fun Cm=>?_) (fun Cm=>?_)
  ·refine gK 1 [(67,.pointer (some ⟨(ay A),ax A+i * 10,none⟩))] [] ?_
   refine gL [] (zK A ns L hG i hi) ?_
   rintro _ _ ⟨rfl,rfl⟩
   refine gK 2 [(2,.bool (decide (fw (nd ns i).kind (nd ns i).target)))] [] ?_
   refine NN (af.ret ?_)
   exact RT (.bool (decide (fw (nd ns i).kind (nd ns i).target))) [0] (⟨congrArg Value.bool (decide_eq_decide.2 (by rw [fX];unfold Within at *;grind)),rfl⟩)
  refine gK 4 [(2,.bool false)] [] ?_
  refine NN (af.ret ?_)
  exact RT (.bool false) [0] (⟨congrArg Value.bool (decide_eq_false (by rw [fX];unfold Within at *;grind)).symm,rfl⟩)
 refine gK 8 [(60,.bool false)] [] ?_
 refine NN (CF (af.skip (NX (SR (gK 4 [(64,.agg #[vI ((nd ns i).sec),vI ((nd ns i).nano)])] [(3,p_ ⟨[.old (.int .i64 ((nd ns i).sec)),.old (.int .i64 ((nd ns i).nano))],none,none,none,none⟩ [(Rd β ⟨(ay A),ax A+i * 10+5+1,none⟩ (.int .i64 ((nd ns i).nano))),(Rd β ⟨(ay A),ax A+i * 10+5,none⟩ (.int .i64 ((nd ns i).sec)))] ⟨aE.rd hG (i:=i) (by omega) (j:=6) rfl,aE.rd hG (i:=i) (by omega) (j:=5) rfl,trivial⟩)] ?_)))))
 refine gL [] (mq (nd ns i).sec (nd ns i).nano) ?_
 rintro _ _ ⟨rfl,rfl⟩
 refine gK 1 [(66,.bool (decide (fO (nd ns i).sec (nd ns i).nano)))] [] ?_
 refine ak.iE 66 (fO (nd ns i).sec (nd ns i).nano) (fun _=>by kernel_rfl) (fun Cm=>?_) (fun Cm=>?_)
 ·refine gK 1 [(67,.pointer (some ⟨(ay A),ax A+i * 10,none⟩))] [] ?_
  refine gL [] (zK A ns L hG i hi) ?_
  rintro _ _ ⟨rfl,rfl⟩
  refine gK 2 [(2,.bool (decide (fw (nd ns i).kind (nd ns i).target)))] [] ?_
  refine NN (af.ret ?_)
  exact RT (.bool (decide (fw (nd ns i).kind (nd ns i).target))) [0] (⟨congrArg Value.bool (decide_eq_decide.2 (by rw [fX];unfold Within at *;grind)),rfl⟩)
 refine gK 4 [(2,.bool false)] [] ?_
 refine NN (af.ret ?_)
 exact RT (.bool false) [0] (⟨congrArg Value.bool (decide_eq_false (by rw [fX];unfold Within at *;grind)).symm,rfl⟩)
end
section
open Go.RowKit Go.Maps
def je (x y:ByteArray):Prop:=(Op.bytesLess x.toList y.toList || (x.toList == y.toList))=true
instance (x y:ByteArray):Decidable (je x y):=inferInstanceAs (Decidable (_=true))
theorem Tf (x y:ByteArray):Value.bool (Op.bytesLess x.toList y.toList || (x.toList == y.toList))=Value.bool (decide (je x y)):=by
  have h:∀ (b:Bool) [Decidable (b=true)],b=decide (b=true):=by
    intro b _
    cases b<;>simp
  exact congrArg Value.bool (h _)
theorem I3 {x:ByteArray}:je x ⟨#[]⟩↔x=⟨#[]⟩:=by
  unfold je
  rw [vB]
  have h1:(⟨#[]⟩:ByteArray).toList=[]:=by rw [Lib.toList_data]
  have h2:Op.bytesLess x.toList (⟨#[]⟩:ByteArray).toList=false:=by
    rw [h1]
    cases x.toList<;>rfl
  rw [h2]
  simp
def tgt (ns:List aI) (z:Int):Nat:=(j4 ns z).toNat
theorem kW {ns:List aI} {z:Int} (h:0<=j4 ns z):tgt ns z < ns.length/\(nd ns (tgt ns z)).id=z/\j4 ns z=(tgt ns z:Int):=by
  unfold tgt
  unfold j4 at h ⊢
  cases hf:ns.findIdx? (fun n=>n.id == z) with
  | none=>rw [hf] at h;simp at h
  | some k=>
    rw [List.findIdx?_eq_some_iff_getElem] at hf
    obtain⟨h1,h2,_⟩:=hf
    refine⟨h1,?_,rfl⟩
    show (nd ns k).id=z
    unfold nd
    rw [List.getD_eq_getElem?_getD,List.getElem?_eq_getElem h1]
    simpa using h2
def ent (ns:List aI) (i j:Nat):gV:=en (nd ns i).ah j
def lX (ns:List aI) (i:Nat):Nat->ByteArray
  | 0=>⟨#[]⟩
  | j+1=>(ent ns i j).name
structure lY (ns:List aI) (i j:Nat):Prop where
  at_:0<=j4 ns (ent ns i j).id
  good:bD (ent ns i j).name
  ord:¬ je (ent ns i j).name (lX ns i j)
def Gi (ns:List aI) (i j:Nat):List (Nat×Nat):=if (nd ns (tgt ns (ent ns i j).id)).kind=2 then [(tgt ns (ent ns i j).id,i)] else []
def dJ (ns:List aI) (i:Nat):Nat->List (Nat×Nat)
  | 0=>[]
  | j+1=>Gi ns i j++dJ ns i j
def fA (ns:List aI):Nat->List (Nat×Nat)
  | 0=>[]
  | i+1=>dJ ns i (nd ns i).ah.length++fA ns i
def iW (ns:List aI) (p:Nat×Nat):Int×Int:=((nd ns p.1).id,(nd ns p.2).id)
theorem Mv {ns:List aI} {i j m:Nat} (h:j<=m):∃ l,dJ ns i m=l++dJ ns i j:=by
  induction m with
  | zero=>exact⟨[],by rw [Nat.le_zero.1 h];rfl⟩
  | succ m ih=>
    rcases Nat.lt_or_ge m j with h1|h1
    ·have:j=m+1:=by omega
     subst this
     exact⟨[],rfl⟩
    obtain⟨l,hl⟩:=ih h1
    exact⟨Gi ns i m++l,by rw [dJ,hl,List.append_assoc]⟩
theorem Mw {ns:List aI} {i m:Nat} (h:i<=m):∃ l,fA ns m=l++fA ns i:=by
  induction m with
  | zero=>exact⟨[],by rw [Nat.le_zero.1 h];rfl⟩
  | succ m ih=>
    rcases Nat.lt_or_ge m i with h1|h1
    ·have:i=m+1:=by omega
     subst this
     exact⟨[],rfl⟩
    obtain⟨l,hl⟩:=ih h1
    exact⟨dJ ns m (nd ns m).ah.length++l,by rw [fA,hl,List.append_assoc]⟩
theorem yu {l:List (Nat×Nat)} {k:List (Nat×Nat)} (h:((l++k).map Prod.fst).Nodup):(k.map Prod.fst).Nodup:=by
  rw [List.map_append] at h
  exact (List.nodup_append.1 h).2.1
theorem cJ.inj {ns:List aI} (hr:cJ ns) {a b:Nat} (ha:a < ns.length) (hb:b < ns.length) (h:(nd ns a).id=(nd ns b).id):a=b:=by
  rcases Nat.lt_trichotomy a b with h1|h1|h1
  ·have:=hr a b h1 hb;omega
  ·exact h1
  have:=hr b a h1 ha;omega
theorem JH {ns:List aI} {ps:List (Nat×Nat)} {k:Nat} (h:up (ps.map (iW ns)) (nd ns k).id=none):k∉ps.map Prod.fst:=by
  unfold up at h
  induction ps with
  | nil=>simp
  | cons p ps ih=>
    obtain⟨a,b⟩:=p
    rw [List.map_cons,iW,List.lookup_cons] at h
    intro hm
    rw [List.map_cons] at hm
    rcases List.mem_cons.1 hm with e|hm
    ·subst e
     simp at h
    by_cases e:((nd ns k).id == (nd ns a).id)=true
    ·rw [e] at h;cases h
    have e:((nd ns k).id == (nd ns a).id)=false:=by simpa using e
    rw [e] at h
    exact ih h hm
theorem zL {ns:List aI} {ps:List (Nat×Nat)} {k:Nat} {y:Int} (hr:cJ ns) (hk:k < ns.length) (hp:∀ p,p∈ps->p.1 < ns.length) (h:up (ps.map (iW ns)) (nd ns k).id=some y):k∈ps.map Prod.fst/\∃ p,p∈ps/\p.1=k/\y=(nd ns p.2).id:=by
  unfold up at h
  induction ps with
  | nil=>cases h
  | cons p ps ih=>
    obtain⟨a,b⟩:=p
    rw [List.map_cons,iW,List.lookup_cons] at h
    by_cases e:((nd ns k).id == (nd ns a).id)=true
    ·rw [e] at h
     cases h
     have:k=a:=hr.inj hk (hp (a,b) (List.mem_cons_self ..)) (by simpa using e)
     subst this
     exact⟨by simp,(k,b),List.mem_cons_self ..,rfl,rfl⟩
    have e:((nd ns k).id == (nd ns a).id)=false:=by simpa using e
    rw [e] at h
    obtain⟨h1,q,hq,h2⟩:=ih (fun p hp'=>hp p (List.mem_cons_of_mem _ hp')) h
    exact⟨by rw [List.map_cons];exact List.mem_cons_of_mem _ h1,q,List.mem_cons_of_mem _ hq,h2⟩
def bf (A:Option Addr) (ns:List aI) (k:Nat) (z:Int):Option Value:=if 0<=j4 ns z/\j4 ns z < k then some (.pointer (some ⟨ay A,ax A+tgt ns z * 10,none⟩)) else none
structure wE (ns:List aI) (i:Nat) (ps:List (Nat×Nat)):Prop where
  ah:∀ j,j < (nd ns i).ah.length->lY ns i j
  nodup:((dJ ns i (nd ns i).ah.length++ps).map Prod.fst).Nodup
theorem KF {A:Option Addr} {ns:List aI} {k:Nat} {z:Int} (h:0<=j4 ns z) (hk:tgt ns z < k):mf (bf A ns k) (.int .i64 z)=some (.pointer (some ⟨ay A,ax A+tgt ns z * 10,none⟩)):=
  if_pos ⟨h,by rw [(kW h).2.2];omega⟩
theorem JI {A:Option Addr} {ns:List aI} {k:Nat} {z:Int} (h:¬ 0<=j4 ns z):mf (bf A ns k) (.int .i64 z)=none:=if_neg (fun e=>h e.1)
theorem Gj (ns:List aI) (i j:Nat):(dJ ns i j).length<=j:=by
  induction j with
  | zero=>exact Nat.le_refl _
  | succ j ih=>
    rw [dJ,List.length_append]
    have:(Gi ns i j).length<=1:=by
      unfold Gi
      split<;>simp
    omega
theorem rz {ns:List aI} {i j:Nat} (h:¬ (nd ns (tgt ns (ent ns i j).id)).kind=2):dJ ns i (j+1)=dJ ns i j:=by
  rw [dJ,Gi,if_neg h];rfl
theorem oo {ns:List aI} {i j:Nat} (h:(nd ns (tgt ns (ent ns i j).id)).kind=2):dJ ns i (j+1)=(tgt ns (ent ns i j).id,i)::dJ ns i j:=by
  rw [dJ,Gi,if_pos h];rfl
theorem I4 {ns:List aI} {i j:Nat} {ps:List (Nat×Nat)} (h:wE ns i ps) (hj:j < (nd ns i).ah.length) (hk:(nd ns (tgt ns (ent ns i j).id)).kind=2):tgt ns (ent ns i j).id∉(dJ ns i j++ps).map Prod.fst:=by
  obtain⟨l,hl⟩:=Mv (ns:=ns) (i:=i) (show j+1<=(nd ns i).ah.length from hj)
  have h1:=h.nodup
  rw [hl,List.append_assoc] at h1
  have h2:=yu h1
  rw [oo hk,List.cons_append,List.map_cons] at h2
  exact (List.nodup_cons.1 h2).1
theorem OZ {ns:List aI} {i j:Nat} {ps:List (Nat×Nat)} (hat:0<=j4 ns (ent ns i j).id) (hk:(nd ns (tgt ns (ent ns i j).id)).kind=2) :
    kD (mf (pf ((dJ ns i j++ps).map (iW ns)))) (.int .i64 (ent ns i j).id) (some (.int .i64 (nd ns i).id))=mf (pf ((dJ ns i (j+1)++ps).map (iW ns))):=by
  rw [Ge,oo hk,List.cons_append,List.map_cons,iW,(kW hat).2.1,RO]
theorem O0 {ns:List aI} {i j:Nat} {ps:List (Nat×Nat)} {f:Lit->Option Value} {kl:Lit} (hf:f kl=none) (hk:(nd ns (tgt ns (ent ns i j).id)).kind=2) :
    (if (f kl).isSome then (dJ ns i j++ps).length else (dJ ns i j++ps).length+1)=(dJ ns i (j+1)++ps).length:=by
  rw [hf,oo hk]
  rfl
theorem KG {ns:List aI} {i j:Nat} {ps:List (Nat×Nat)} (hat:0<=j4 ns (ent ns i j).id) (hk:(nd ns (tgt ns (ent ns i j).id)).kind=2) (hup:up ((dJ ns i j++ps).map (iW ns)) (ent ns i j).id=none) (h:((dJ ns i j++ps).map Prod.fst).Nodup) :
    ((dJ ns i (j+1)++ps).map Prod.fst).Nodup:=by
  rw [oo hk,List.cons_append,List.map_cons]
  refine List.nodup_cons.2 ⟨?_,h⟩
  refine JH (ns:=ns) ?_
  rw [(kW hat).2.1]
  exact hup
theorem Gl {ns:List aI} {i j:Nat} (h:∀ t,t < j->lY ns i t):∀ p,p∈dJ ns i j->p.1 < ns.length/\p.2=i:=by
  induction j with
  | zero=>intro p hp;cases hp
  | succ j ih=>
    intro p hp
    rw [dJ] at hp
    rcases List.mem_append.1 hp with hp|hp
    ·unfold Gi at hp
     split at hp
     ·rw [List.mem_singleton.1 hp]
      exact⟨(kW (h j (Nat.lt_succ_self j)).at_).1,rfl⟩
     cases hp
    exact ih (fun t ht=>h t (by omega)) p hp
theorem I5 {ns:List aI} {i j:Nat} {ps:List (Nat×Nat)} {y:Int} (hr:cJ ns) (hps:∀ p,p∈ps->p.1 < ns.length) (hok:∀ t,t < j->lY ns i t) (hat:0<=j4 ns (ent ns i j).id) (hk:(nd ns (tgt ns (ent ns i j).id)).kind=2)
    (hup:up ((dJ ns i j++ps).map (iW ns)) (ent ns i j).id=some y) (hj:j < (nd ns i).ah.length):¬ wE ns i ps:=fun h=>by
  refine I4 h hj hk ?_
  rw [← (kW hat).2.1] at hup
  refine (zL hr (kW hat).1 (fun p hp=>?_) hup).1
  rcases List.mem_append.1 hp with hp|hp
  ·exact (Gl hok p hp).1
  exact hps p hp
end
section
open Go.RowKit
attribute [local irreducible] ak aU af aj
theorem O3 {β:Bs} (A:Option Addr) (ns:List aI) (L:Lay) (hG:aE β A ns L) (hr:cJ ns) (i:Nat) (hi:i < ns.length) (hel:(nd ns i).ah.length<=1048576) (hwf:∀ j,j < (nd ns i).ah.length->-9223372036854775808<=(ent ns i j).id/\(ent ns i j).id<=9223372036854775807) (hnm:∀ j,j < (nd ns i).ah.length->(ent ns i j).name.size<=1048576)
    (mb mp:Nat) (ps:List (Nat×Nat)) (hpl:ps.length<=16777216) (hps:∀ p,p∈ps->p.1 < ns.length) (hnp:(ps.map Prod.fst).Nodup) :
    Spec Tryz.prog β 65 #[.pointer (some ⟨(ay A),ax A+i * 10,none⟩),.map (some mb),.map (some mp)] [.abs (aP Tryz.prog 3 mb (mf (bf A ns ns.length)) ns.length),.abs (aP Tryz.prog 3 mp (mf (pf ((ps).map (iW ns)))) ((ps).length))] (fun v l=>(v=.bool true/\wE ns i ps/\l=[.abs (aP Tryz.prog 3 mb (mf (bf A ns ns.length)) ns.length),.abs (aP Tryz.prog 3 mp (mf (pf ((dJ ns i (nd ns i).ah.length++ps).map (iW ns)))) ((dJ ns i (nd ns i).ah.length++ps).length))])\/(v=.bool false/\¬ wE ns i ps/\l=[])):=by
 refine Spec.enter Tryz.func65 rfl Tryz.ntmps65 (Nat.le_of_ble_eq_true rfl) (fun R=>?_)
 refine SR (gK 1 [] [] ?_)
 refine NS (gK 1 [(7,.string ⟨#[]⟩)] [] ?_)
 refine NN (af.seq (SR (gK 6 [(16,.slice (L.eA i) ((nd ns i).ah.length) ((L.eC i))),(17,vI ↑((nd ns i).ah.length)),(18,vI 0)] [(3,p_ ⟨[.old (.slice (L.eA i) ((nd ns i).ah.length) ((L.eC i)))],none,none,none,none⟩ [(Rd β ⟨(ay A),ax A+i * 10+9,none⟩ (.slice (L.eA i) ((nd ns i).ah.length) ((L.eC i))))] ⟨aE.rd hG (i:=i) (by omega) (j:=9) rfl,trivial⟩)] ?_)))
 refine NN (af.block ?_)
 refine af.loop (ι:=Nat) (fun (j:Nat)=>(j<=(nd ns i).ah.length)/\(∀ t,t < j->lY ns i t)/\(((dJ ns i j++ps).map Prod.fst).Nodup)) (fun (j:Nat)=>(nd ns i).ah.length - j) (fun (j:Nat)=>[(0,.pointer (some ⟨(ay A),ax A+i * 10,none⟩)),(1,.map (some mb)),(2,.map (some mp)),(7,.string (lX ns i j)),(16,.slice (L.eA i) ((nd ns i).ah.length) ((L.eC i))),(17,vI ↑((nd ns i).ah.length)),(18,vI ↑j)]) (fun (j:Nat)=>[.abs (aP Tryz.prog 3 mb (mf (bf A ns ns.length)) ns.length),.abs (aP Tryz.prog 3 mp (mf (pf ((dJ ns i j++ps).map (iW ns)))) ((dJ ns i j++ps).length)),.abs R]) 0 (idx:=[0,1,2,7,16,17,18]) (pk:=[0,1,2]) (show (0<=(nd ns i).ah.length)/\(∀ t,t < 0->lY ns i t)/\(((dJ ns i 0++ps).map Prod.fst).Nodup) from ⟨Nat.zero_le _,fun t ht=>absurd ht (Nat.not_lt_zero t),hnp⟩) (fun _=>by kernel_rfl) rfl (by kernel_rfl) ?_
 rintro j ⟨hj,hok,hnd⟩
 show af _ _ _ _ [(0,.pointer (some ⟨(ay A),ax A+i * 10,none⟩)),(1,.map (some mb)),(2,.map (some mp)),(7,.string (lX ns i j)),(16,.slice (L.eA i) ((nd ns i).ah.length) ((L.eC i))),(17,vI ↑((nd ns i).ah.length)),(18,vI ↑j)] [.abs (aP Tryz.prog 3 mb (mf (bf A ns ns.length)) ns.length),.abs (aP Tryz.prog 3 mp (mf (pf ((dJ ns i j++ps).map (iW ns)))) ((dJ ns i j++ps).length)),.abs R] _
 refine SR (gK 1 [(19,.bool (decide ((((j:Nat):Int):Int) < ((((nd ns i).ah.length:Nat):Int):Int))))] [] ?_)
 refine NN (af.seq (af.aW (p:=(((j:Nat):Int):Int) < ((((nd ns i).ah.length:Nat):Int):Int)) (fun _=>by kernel_rfl) (fun Tg=>?_) (fun Tg=>?_)))
 ·refine af.skip (NX (af.seq (af.block (SR ?_))))
  refine gN 4 (fun b1=>[(9,vP b1)]) (fun b1=>[(0,p_ ⟨[],some j,none,some ⟨(ay (L.eA i)),ax (L.eA i),none⟩,none⟩ [((j:Nat):Int)=((j:Nat):Int),j < (nd ns i).ah.length,(⟨(ay (L.eA i)),ax (L.eA i),none⟩:Addr).spot=none,((L.eA i):Option Addr)=some ⟨(ay (L.eA i)),ax (L.eA i),none⟩] ⟨rfl,by omega,rfl,cO.hd (hG.ah i (by omega)) (i:=j) (by omega),trivial⟩),(1,p_ ⟨[.old (.string (en (nd ns i).ah j).name),.old (.int .i64 ((en (nd ns i).ah j).id))],none,none,none,none⟩ [(Rd β ⟨(ay (L.eA i)),ax (L.eA i)+j * 2+1,none⟩ (.int .i64 ((en (nd ns i).ah j).id))),(Rd β ⟨(ay (L.eA i)),ax (L.eA i)+j * 2,none⟩ (.string (en (nd ns i).ah j).name))] ⟨cO.rd (hG.ah i (by omega)) (i:=j) (by omega) (j:=1) rfl,cO.rd (hG.ah i (by omega)) (i:=j) (by omega) (j:=0) rfl,trivial⟩),(3,A_ 3 b1 2)]) (fun _=>[]) (fun b1=>.blk b1 [.string (en (nd ns i).ah j).name,vI ((en (nd ns i).ah j).id)] 110) (fun b1=>?_)
  refine NS (gK 3 [(22,.map (some mb)),(24,vI ((en (nd ns i).ah j).id))] [(2,a_ 3 b1)] ?_)
  by_cases hat:0<=j4 ns (en (nd ns i).ah j).id
  ·have htl:=kW hat
   refine ak.dW 0 (d:=(some 25)) (t:=98) (K:=3) (E:=99) (b:=mb) (n:=ns.length) (f:=(mf (bf A ns ns.length))) (x:=(.tmp 22)) (ix:=(.tmp 24)) (key:=.int .i64 ((en (nd ns i).ah j).id)) (z:=.pointer none) (kl:=(.int .i64 (en (nd ns i).ah j).id)) (r:=(some (.pointer (some ⟨(ay A),ax A+(tgt ns (en (nd ns i).ah j).id) * 10,none⟩)))) (fun _=>by kernel_rfl) (by kernel_rfl) (fun _=>by kernel_rfl) (fun _=>by kernel_rfl) dZ Tryz.underlying98 (fun _=>by kernel_rfl) (nP (hwf j (by omega)).1 (hwf j (by omega)).2) (KF hat htl.1) ?_
   refine gK 1 [(10,.pointer (some ⟨(ay A),ax A+(tgt ns (en (nd ns i).ah j).id) * 10,none⟩))] [] ?_
   refine NN (af.seq (SR (gK 5 [(28,.bool false),(30,.string (en (nd ns i).ah j).name)] [(4,a_ 3 b1)] ?_)))
   refine gL [] (tD (en (nd ns i).ah j).name (hnm j (by omega))) ?_
   rintro _ _ ⟨rfl,rfl⟩
   refine gK 3 [(34,.bool (!(decide (bD (en (nd ns i).ah j).name))))] [] ?_
   refine ak.jx 34 (bD (en (nd ns i).ah j).name) (fun _=>by kernel_rfl) (fun Ax=>?_) (fun Ax=>?_)
   ·refine gK 5 [(39,.bool true)] [] ?_
    refine NN (CT (SR (gK 1 [(6,.bool false)] [] ?_)))
    refine NN (af.ret (aj.aq (aj.aK (aj.aq (aj.aq (aj.aK (aj.aq ?_)))))))
    exact RT (l:=[]) (.bool false) [2] (.inr ⟨rfl,fun h=>Ax (h.ah j (by omega)).good,rfl⟩)
   refine gK 5 [(39,.bool (decide (je ((en (nd ns i).ah j).name) (lX ns i j))))] [(1,a_ 3 b1),(3,p_ ⟨[],none,none,none,some (.bool (decide (je ((en (nd ns i).ah j).name) (lX ns i j))))⟩ [(Value.bool (Op.bytesLess (((en (nd ns i).ah j).name):ByteArray).toList (((lX ns i j)):ByteArray).toList || (((en (nd ns i).ah j).name):ByteArray).toList == (((lX ns i j)):ByteArray).toList))=(.bool (decide (je ((en (nd ns i).ah j).name) (lX ns i j))))] ⟨Tf _ _,trivial⟩)] ?_
   refine NN (af.aW (p:=je ((en (nd ns i).ah j).name) (lX ns i j)) (fun _=>by kernel_rfl) (fun iV=>?_) (fun iV=>?_))
   ·refine SR (gK 1 [(6,.bool false)] [] ?_)
    refine NN (af.ret (aj.aq (aj.aK (aj.aq (aj.aq (aj.aK (aj.aq ?_)))))))
    exact RT (l:=[]) (.bool false) [2] (.inr ⟨rfl,fun h=>(h.ah j (by omega)).ord iV,rfl⟩)
   refine af.skip (NX (SR (gK 3 [(7,.string (en (nd ns i).ah j).name)] [(1,a_ 3 b1)] ?_)))
   refine NN (af.seq (SR (gK 5 [(46,.bool (!(decide (((nd ns (tgt ns (en (nd ns i).ah j).id)).kind:Int)=(2:Int)))))] [(3,p_ ⟨[.old (.int .i64 ((nd ns (tgt ns (en (nd ns i).ah j).id)).kind))],none,none,none,none⟩ [(Rd β ⟨(ay A),ax A+(tgt ns (en (nd ns i).ah j).id) * 10+1,none⟩ (.int .i64 ((nd ns (tgt ns (en (nd ns i).ah j).id)).kind)))] ⟨aE.rd hG (i:=(tgt ns (en (nd ns i).ah j).id)) (by omega) (j:=1) rfl,trivial⟩)] ?_)))
   refine NN (af.fI (p:=((nd ns (tgt ns (en (nd ns i).ah j).id)).kind:Int)=(2:Int)) (fun _=>by kernel_rfl) (fun h46=>?_) (fun h46=>?_))
   ·refine af.exit (aj.aV (aj.cL (NX (af.region ?_))))
    refine ak.dV 1 (p:=.abs (aP Tryz.prog 3 mp (mf (pf ((dJ ns i j++ps).map (iW ns)))) ((dJ ns i j++ps).length))) (p':=.abs (aP Tryz.prog 3 mp (mf (pf ((dJ ns i (j+1)++ps).map (iW ns)))) ((dJ ns i (j+1)++ps).length))) (by kernel_rfl) (by rw [rz h46]) ?_
    refine gK 2 [(18,vI ↑(j+1))] [(0,p_ ⟨[],none,none,none,some (vI ↑(j+1))⟩ [(Value.int .i64 (IntKind.wrap .i64 (((j:Nat):Int)+1)))=(.int .i64 ↑(j+1))] ⟨bC (by omega) (by omega) (by omega),trivial⟩)] ?_
    refine NL ?_
    exact aj.turn ((j+1)) (idx:=[0,1,2,7,16,17,18]) (pk:=[0,1,2]) (show (((j+1))<=(nd ns i).ah.length)/\(∀ t,t < ((j+1))->lY ns i t)/\(((dJ ns i ((j+1))++ps).map Prod.fst).Nodup) from ⟨by omega,fun t ht=>(by rcases Nat.lt_succ_iff_lt_or_eq.1 ht with h|h;exact hok t h;subst h;exact⟨hat,Ax,iV⟩),(by rw [rz h46];exact hnd)⟩) (by show (nd ns i).ah.length - ((j+1)) < (nd ns i).ah.length - j;omega) (fun _=>by kernel_rfl) rfl (by kernel_rfl)
   refine af.skip (NX (af.seq (SR (gK 3 [(48,.map (some mp)),(50,vI ((en (nd ns i).ah j).id))] [(2,a_ 3 b1)] ?_))))
   rcases hup:up ((dJ ns i j++ps).map (iW ns)) (en (nd ns i).ah j).id with _|y
   ·refine ak.um 1 (d:=(some 51)) (t:=137) (K:=3) (E:=3) (b:=mp) (n:=(dJ ns i j++ps).length) (f:=(mf (pf ((dJ ns i j++ps).map (iW ns))))) (x:=(.tmp 48)) (ix:=(.tmp 50)) (key:=.int .i64 ((en (nd ns i).ah j).id)) (z:=.int .i64 0) (kl:=(.int .i64 (en (nd ns i).ah j).id)) (r:=none) (fun _=>by kernel_rfl) (by kernel_rfl) (fun _=>by kernel_rfl) (fun _=>by kernel_rfl) dZ Tryz.underlying137 (fun _=>by kernel_rfl) (nP (hwf j (by omega)).1 (hwf j (by omega)).2) (wD hup) ?_
    refine gK 5 [(12,.bool false)] [] ?_
    refine NS (gK 1 [(54,.bool false)] [] ?_)
    refine NN (CF (af.skip (NX (af.vm 7 (by kernel_rfl) (by kernel_rfl) ?_))))
    refine jc.seg (k':=7) (fr':=[(0,.pointer (some ⟨(ay A),ax A+i * 10,none⟩)),(1,.map (some mb)),(2,.map (some mp)),(7,.string (en (nd ns i).ah j).name),(16,.slice (L.eA i) ((nd ns i).ah.length) ((L.eC i))),(17,vI ↑((nd ns i).ah.length)),(18,vI ↑j),(55,.map (some mp)),(57,vI ((en (nd ns i).ah j).id)),(61,vI ((nd ns i).id))]) (aZ:=[(Rd β ⟨(ay A),ax A+i * 10,none⟩ (.int .i64 ((nd ns i).id))),b1=b1]) [o_,o_,⟨[.at 3],none,none,none,none⟩,o_,o_,o_,⟨[.old (.int .i64 ((nd ns i).id))],none,none,none,none⟩] [0,1,2,7,16,17,18,55,57,61] (fun _ _=>by kernel_rfl) ⟨aE.rd hG (i:=i) (by omega) (j:=0) rfl,rfl,trivial⟩ (by decide) ?_
    refine jc.done rfl ?_
    refine ak.kU 1 (d:=none) (t:=137) (K:=3) (E:=3) (b:=mp) (n:=(dJ ns i j++ps).length) (f:=(mf (pf ((dJ ns i j++ps).map (iW ns))))) (x:=(.tmp 55)) (ix:=(.tmp 57)) (y:=(.tmp 61)) (key:=.int .i64 ((en (nd ns i).ah j).id)) (u:=.int .i64 ((nd ns i).id)) (kl:=(.int .i64 (en (nd ns i).ah j).id)) (n':=(dJ ns i (j+1)++ps).length) (f':=(mf (pf ((dJ ns i (j+1)++ps).map (iW ns))))) (fun _=>by kernel_rfl) (by kernel_rfl) (fun _=>by kernel_rfl) (fun _=>by kernel_rfl) (fun _=>by kernel_rfl) dZ Tryz.underlying137 (by have:=Gj ns i j;rw [List.length_append];unfold maxLen;omega) (nP (hwf j (by omega)).1 (hwf j (by omega)).2) (O0 (wD hup) h46) (OZ hat h46) ?_
    refine NL (aj.aO (NX (af.region ?_)))
    refine gK 2 [(18,vI ↑(j+1))] [(0,p_ ⟨[],none,none,none,some (vI ↑(j+1))⟩ [(Value.int .i64 (IntKind.wrap .i64 (((j:Nat):Int)+1)))=(.int .i64 ↑(j+1))] ⟨bC (by omega) (by omega) (by omega),trivial⟩)] ?_
    refine NL ?_
    exact aj.turn ((j+1)) (idx:=[0,1,2,7,16,17,18]) (pk:=[0,1,2]) (show (((j+1))<=(nd ns i).ah.length)/\(∀ t,t < ((j+1))->lY ns i t)/\(((dJ ns i ((j+1))++ps).map Prod.fst).Nodup) from ⟨by omega,fun t ht=>(by rcases Nat.lt_succ_iff_lt_or_eq.1 ht with h|h;exact hok t h;subst h;exact⟨hat,Ax,iV⟩),(KG hat h46 hup hnd)⟩) (by show (nd ns i).ah.length - ((j+1)) < (nd ns i).ah.length - j;omega) (fun _=>by kernel_rfl) rfl (by kernel_rfl)
   refine ak.um 1 (d:=(some 51)) (t:=137) (K:=3) (E:=3) (b:=mp) (n:=(dJ ns i j++ps).length) (f:=(mf (pf ((dJ ns i j++ps).map (iW ns))))) (x:=(.tmp 48)) (ix:=(.tmp 50)) (key:=.int .i64 ((en (nd ns i).ah j).id)) (z:=.int .i64 0) (kl:=(.int .i64 (en (nd ns i).ah j).id)) (r:=(some (vI y))) (fun _=>by kernel_rfl) (by kernel_rfl) (fun _=>by kernel_rfl) (fun _=>by kernel_rfl) dZ Tryz.underlying137 (fun _=>by kernel_rfl) (nP (hwf j (by omega)).1 (hwf j (by omega)).2) (QL hup) ?_
   refine gK 5 [(12,.bool true)] [] ?_
   refine NS (gK 1 [(54,.bool true)] [] ?_)
   refine NN (CT (SR (gK 1 [(6,.bool false)] [] ?_)))
   refine NN (af.ret (aj.aq (aj.aK (aj.aq (aj.aq (aj.aK (aj.aq ?_)))))))
   exact RT (l:=[]) (.bool false) [2] (.inr ⟨rfl,I5 hr hps hok hat h46 hup (by omega),rfl⟩)
  refine ak.dW 0 (d:=(some 25)) (t:=98) (K:=3) (E:=99) (b:=mb) (n:=ns.length) (f:=(mf (bf A ns ns.length))) (x:=(.tmp 22)) (ix:=(.tmp 24)) (key:=.int .i64 ((en (nd ns i).ah j).id)) (z:=.pointer none) (kl:=(.int .i64 (en (nd ns i).ah j).id)) (r:=none) (fun _=>by kernel_rfl) (by kernel_rfl) (fun _=>by kernel_rfl) (fun _=>by kernel_rfl) dZ Tryz.underlying98 (fun _=>by kernel_rfl) (nP (hwf j (by omega)).1 (hwf j (by omega)).2) (JI hat) ?_
  refine gK 1 [(10,.pointer none)] [] ?_
  refine NN (af.seq (SR (gK 14 [(39,.bool true)] [] ?_)))
  refine NN (CT (SR (gK 1 [(6,.bool false)] [] ?_)))
  refine NN (af.ret (aj.aq (aj.aK (aj.aq (aj.aq (aj.aK (aj.aq ?_)))))))
  exact RT (l:=[]) (.bool false) [2] (.inr ⟨rfl,fun h=>hat (h.ah j (by omega)).at_,rfl⟩)
 refine af.exit (aj.aV (aj.aV (aj.cL (NX (SR ?_)))))
 refine gK 1 [(6,.bool true)] [] ?_
 refine NN (af.ret ?_)
 exact RT (l:=[.abs (aP Tryz.prog 3 mb (mf (bf A ns ns.length)) ns.length),.abs (aP Tryz.prog 3 mp (mf (pf ((dJ ns i j++ps).map (iW ns)))) ((dJ ns i j++ps).length))]) (.bool true) [0,1,2] (.inl ⟨rfl,⟨fun t ht=>hok t (by omega),by have:=hnd;rwa [show j=(nd ns i).ah.length by omega] at this⟩,by rw [show j=(nd ns i).ah.length by omega]⟩)
end
section
open Go.RowKit Go.Maps
def eU (ns:List aI):Nat->Nat
  | 0=>0
  | k+1=>eU ns k+(nd ns k).ah.length
def mw (ns:List aI):Nat->Int
  | 0=>0
  | k+1=>(nd ns k).id
structure bB (ns:List aI):Prop where
  len:ns.length<=4096
  node:∀ i,i < ns.length->nW (nd ns i)
  ids:∀ i,i < ns.length->1<=(nd ns i).id/\(nd ns i).id<=1099511627776
  rise:cJ ns
  sum:eU ns ns.length<=8192
  ah:∀ i,i < ns.length->∀ j,j < (nd ns i).ah.length->lY ns i j
  nodup:((fA ns ns.length).map Prod.fst).Nodup
  ends:vG ((fA ns ns.length).map (iW ns))
noncomputable instance (ns:List aI):Decidable (bB ns):=Classical.propDecidable _
theorem bB.last {ns:List aI} (h:bB ns) {k:Nat} (hk:k < ns.length):mw ns k < (nd ns k).id:=by
  cases k with
  | zero=>have:=(h.ids 0 hk).1;show (0:Int) < _;omega
  | succ k=>exact h.rise k (k+1) (Nat.lt_succ_self k) hk
structure qu (ns:List aI) (k:Nat):Prop where
  node:∀ i,i < k->nW (nd ns i)
  ids:∀ i,i < k->1<=(nd ns i).id/\(nd ns i).id<=1099511627776
  rise:∀ i j,i < j->j < k->(nd ns i).id < (nd ns j).id
theorem qu.zero (ns:List aI):qu ns 0:=⟨fun i h=>absurd h (Nat.not_lt_zero i),fun i h=>absurd h (Nat.not_lt_zero i),fun _ j _ h=>absurd h (Nat.not_lt_zero j)⟩
theorem qu.last {ns:List aI} {k:Nat} (h:qu ns k):0<=mw ns k/\mw ns k<=1099511627776:=by
  cases k with
  | zero=>exact⟨Int.le_refl _,by show (0:Int)<=1099511627776;decide⟩
  | succ k=>have:=h.ids k (Nat.lt_succ_self k);exact⟨by show 0<=(nd ns k).id;omega,this.2⟩
theorem qu.step {ns:List aI} {k:Nat} (h:qu ns k) (h1:mw ns k < (nd ns k).id) (h2:(nd ns k).id<=1099511627776) (h3:nW (nd ns k)):qu ns (k+1):=by
  have hl:=h.last
  refine⟨fun i hi=>?_,fun i hi=>?_,fun i j hij hj=>?_⟩
  ·rcases Nat.lt_succ_iff_lt_or_eq.1 hi with e|e
   ·exact h.node i e
   rw [e];exact h3
  ·rcases Nat.lt_succ_iff_lt_or_eq.1 hi with e|e
   ·exact h.ids i e
   rw [e];omega
  rcases Nat.lt_succ_iff_lt_or_eq.1 hj with e|e
  ·exact h.rise i j hij e
  subst e
  cases j with
  | zero=>omega
  | succ m=>
    have h4:(nd ns m).id < (nd ns (m+1)).id:=h1
    rcases Nat.lt_succ_iff_lt_or_eq.1 hij with e|e
    ·have:=h.rise i m e (Nat.lt_succ_self m);omega
    rw [e];exact h4
theorem Gm {ns:List aI} {k:Nat} (h:∀ i,i < k->(nd ns i).id < (nd ns k).id) (hk:k < ns.length):j4 ns (nd ns k).id=(k:Int):=by
  unfold j4
  have hg:∀ j (hj:j < ns.length),nd ns j=ns[j]:=fun j hj=>by
    unfold nd
    rw [List.getD_eq_getElem?_getD,List.getElem?_eq_getElem hj]
    rfl
  have:ns.findIdx? (fun n=>n.id == (nd ns k).id)=some k:=by
    rw [List.findIdx?_eq_some_iff_getElem]
    refine⟨hk,by rw [← hg k hk];simp,fun j hj=>?_⟩
    have:=h j hj
    rw [← hg j (by omega)]
    simp
    omega
  rw [this]
theorem Ti {A:Option Addr} {ns:List aI} {k:Nat} (h:∀ i,i < k->(nd ns i).id < (nd ns k).id) (hk:k < ns.length) :
    kD (mf (bf A ns k)) (.int .i64 (nd ns k).id) (some (.pointer (some ⟨ay A,ax A+k * 10,none⟩)))=mf (bf A ns (k+1)):=by
  have ha:=Gm h hk
  rw [Ge]
  congr 1
  funext z
  unfold bf
  by_cases e:z=(nd ns k).id
  ·subst e
   rw [if_pos rfl,if_pos ⟨by omega,by omega⟩]
   unfold tgt
   rw [ha]
   rfl
  rw [if_neg e]
  by_cases e1:0<=j4 ns z/\j4 ns z < (k:Int)
  ·rw [if_pos e1,if_pos ⟨e1.1,by omega⟩]
  rw [if_neg e1,if_neg (fun e2=>?_)]
  have e3:j4 ns z=(k:Int):=by omega
  have e4:=(kW e2.1).2
  rw [e4.2] at e3
  have e5:tgt ns z=k:=by omega
  rw [e5] at e4
  exact e e4.1.symm
theorem O4 {A:Option Addr} {ns:List aI} {k:Nat} (h:∀ i,i < k->(nd ns i).id < (nd ns k).id) (hk:k < ns.length):(if ((mf (bf A ns k)) (.int .i64 (nd ns k).id)).isSome then k else k+1)=k+1:=by
  have ha:=Gm h hk
  have:mf (bf A ns k) (.int .i64 (nd ns k).id)=none:=if_neg (fun e=>by omega)
  rw [this]
  rfl
theorem qu.below {ns:List aI} {k:Nat} (h:qu ns k) (h1:mw ns k < (nd ns k).id):∀ i,i < k->(nd ns i).id < (nd ns k).id:=by
  intro i hi
  cases k with
  | zero=>omega
  | succ m=>
    have h1:(nd ns m).id < (nd ns (m+1)).id:=h1
    rcases Nat.lt_succ_iff_lt_or_eq.1 hi with e|e
    ·have:=h.rise i m e (Nat.lt_succ_self m);omega
    rw [e];exact h1
theorem RQ {A:Option Addr} {ns:List aI}:mf (bf A ns 0)=fun _=>none:=by
  rw [← DS]
  congr 1
  funext z
  exact if_neg (fun e=>by omega)
theorem RR {ns:List aI}:mf (pf ((fA ns 0).map (iW ns)))=fun _=>none:=by
  rw [← DS]
  congr 1
theorem wF {ns:List aI} {i:Nat} (hi:i<=ns.length) (h:∀ a,a < i->∀ j,j < (nd ns a).ah.length->lY ns a j):∀ p,p∈fA ns i->p.1 < ns.length/\p.2 < ns.length:=by
  induction i with
  | zero=>intro p hp;cases hp
  | succ i ih=>
    intro p hp
    rw [fA] at hp
    rcases List.mem_append.1 hp with hp|hp
    ·have:=Gl (h i (Nat.lt_succ_self i)) p hp
     exact⟨this.1,by omega⟩
    exact ih (by omega) (fun a ha=>h a (by omega)) p hp
theorem Gn (ns:List aI) (i:Nat):(fA ns i).length<=eU ns i:=by
  induction i with
  | zero=>exact Nat.le_refl _
  | succ i ih=>
    rw [fA,eU,List.length_append]
    have:=Gj ns i (nd ns i).ah.length
    omega
theorem vn {ns:List aI} {i m:Nat} (h:i<=m):eU ns i<=eU ns m:=by
  induction m with
  | zero=>rw [Nat.le_zero.1 h];exact Nat.le_refl _
  | succ m ih=>
    rcases Nat.lt_or_ge m i with h1|h1
    ·have:i=m+1:=by omega
     subst this
     exact Nat.le_refl _
    have:=ih h1
    rw [eU]
    omega
theorem Mx {ns:List aI} {ps:List (Nat×Nat)} (hp:∀ p,p∈ps->p.1 < ns.length/\p.2 < ns.length) (hid:∀ i,i < ns.length->1<=(nd ns i).id/\(nd ns i).id<=1099511627776) :
    ∀ z y,up (ps.map (iW ns)) z=some y->(-9223372036854775808<=z/\z<=9223372036854775807)/\(-9223372036854775808<=y/\y<=9223372036854775807):=by
  intro z y h
  unfold up at h
  induction ps with
  | nil=>cases h
  | cons p ps ih=>
    obtain⟨a,b⟩:=p
    rw [List.map_cons,iW,List.lookup_cons] at h
    by_cases e:(z == (nd ns a).id)=true
    ·rw [e] at h
     cases h
     have h1:=hp (a,b) (List.mem_cons_self ..)
     have h2:=hid a h1.1
     have h3:=hid b h1.2
     have:z=(nd ns a).id:=by simpa using e
     show (_/\_)/\(-9223372036854775808<=(nd ns b).id/\(nd ns b).id<=9223372036854775807)
     omega
    have e:(z == (nd ns a).id)=false:=by simpa using e
    rw [e] at h
    exact ih (fun p hp'=>hp p (List.mem_cons_of_mem _ hp')) h
theorem Tj {p:Prop} [Decidable p] {v:Value} {l:List HP} (h:v=.bool (decide p)/\l=[]):(v=.bool true/\p/\l=[])\/(v=.bool false/\¬ p/\l=[]):=by
  by_cases hp:p
  ·exact .inl ⟨by rw [h.1,decide_eq_true hp],hp,h.2⟩
  exact .inr ⟨by rw [h.1,decide_eq_false hp],hp,h.2⟩
theorem wE.next {ns:List aI} {i:Nat} (h:wE ns i (fA ns i)):((fA ns (i+1)).map Prod.fst).Nodup:=h.nodup
theorem bB.row {ns:List aI} (h:bB ns) {i:Nat} (hi:i < ns.length):wE ns i (fA ns i):=by
  refine⟨h.ah i hi,?_⟩
  obtain⟨l,hl⟩:=Mw (ns:=ns) (show i+1<=ns.length from hi)
  have:=h.nodup
  rw [hl] at this
  exact yu this
end
section
open Go.RowKit
attribute [local irreducible] ak aU af aj
theorem JJ {β:Bs} (A:Option Addr) (c:Nat) (ns:List aI) (L:Lay) (hG:aE β A ns L) (hl:ns.length<=1048576) (hd:∀ i,i < ns.length->(nd ns i).data.length<=140737488355328/\(nd ns i).ah.length<=1048576) (hwf:∀ i,i < ns.length->∀ j,j < (nd ns i).ah.length->-9223372036854775808<=(ent ns i j).id/\(ent ns i j).id<=9223372036854775807) (hnm:∀ i,i < ns.length->∀ j,j < (nd ns i).ah.length->(ent ns i j).name.size<=1048576) :
    Spec Tryz.prog β 39 #[.agg #[.slice A ns.length c]] [] (fun v l=>(∃ mb,v=.tuple #[.map (some mb),.bool true]/\bB ns/\l=[.abs (aP Tryz.prog 3 mb (mf (bf A ns ns.length)) ns.length)])\/(∃ m,v=.tuple #[m,.bool false]/\¬ bB ns/\l=[])):=by
 refine Spec.enter Tryz.func39 rfl Tryz.ntmps39 (Nat.le_of_ble_eq_true rfl) (fun R=>?_)
 refine SR (gN 3 (fun b1=>[(1,vP b1)]) (fun _=>[]) (fun _=>[]) (fun b1=>.blk b1 [.slice A (ns.length) (c)] 24) (fun b1=>?_))
 refine NN (af.seq (SR (gK 4 [(14,.bool (decide ((((ns.length:Nat):Int):Int) > (4096:Int))))] [(1,a_ 1 b1)] ?_)))
 refine NN (af.aW (p:=(((ns.length:Nat):Int):Int) > (4096:Int)) (fun _=>by kernel_rfl) (fun jV=>?_) (fun jV=>?_))
 ·refine SR (gK 2 [(2,.map none),(3,.bool false)] [] ?_)
  refine NN (af.ret (aj.aq ?_))
  exact RT (.tuple #[.map none,.bool false]) [0] (.inr ⟨_,rfl,fun h=>by have:=h.len;omega,rfl⟩)
 refine af.skip (NX (SR (ak.mz (d:=(some 15)) (t:=98) (fun _=>by kernel_rfl) Tryz.prog rfl 3 (fun m2=>?_))))
 refine gK 1 [(4,.map (some m2))] [] ?_
 refine NS (ak.dV 2 (p:=.abs (aP Tryz.prog 3 m2 (fun _=>none) 0)) (p':=.abs (aP Tryz.prog 3 m2 (mf (bf A ns 0)) 0)) (by kernel_rfl) (by rw [RQ]) ?_)
 refine gK 2 [(5,vI 0),(6,vI 0)] [] ?_
 refine NN (af.seq (SR (gK 4 [(18,vI ↑ns.length),(19,vI 0)] [(1,a_ 1 b1)] ?_)))
 refine NN (af.block ?_)
 refine af.loop (ι:=Nat) (fun (k:Nat)=>(k<=ns.length)/\(qu ns k)/\(eU ns k<=k * 1048576)) (fun (k:Nat)=>ns.length - k) (fun (k:Nat)=>[(1,vP b1),(4,.map (some m2)),(5,vI (mw ns k)),(6,vI ↑(eU ns k)),(18,vI ↑ns.length),(19,vI ↑k)]) (fun (k:Nat)=>[.blk b1 [.slice A (ns.length) (c)] 24,.abs (aP Tryz.prog 3 m2 (mf (bf A ns k)) k),.abs R]) 0 (idx:=[1,4,5,6,18,19]) (pk:=[1,2,0]) (show (0<=ns.length)/\(qu ns 0)/\(eU ns 0<=0 * 1048576) from ⟨Nat.zero_le _,qu.zero ns,Nat.zero_le _⟩) (fun _=>by kernel_rfl) rfl (by kernel_rfl) ?_
 rintro k ⟨hk,hu,hs⟩
 show af _ _ _ _ [(1,vP b1),(4,.map (some m2)),(5,vI (mw ns k)),(6,vI ↑(eU ns k)),(18,vI ↑ns.length),(19,vI ↑k)] [.blk b1 [.slice A (ns.length) (c)] 24,.abs (aP Tryz.prog 3 m2 (mf (bf A ns k)) k),.abs R] _
 have hk4:=(hd k)
 refine SR (gK 1 [(20,.bool (decide ((((k:Nat):Int):Int) < (((ns.length:Nat):Int):Int))))] [] ?_)
 refine NN (af.seq (af.aW (p:=(((k:Nat):Int):Int) < (((ns.length:Nat):Int):Int)) (fun _=>by kernel_rfl) (fun kg=>?_) (fun kg=>?_)))
 ·refine af.skip (NX (af.seq (af.block (SR ?_))))
  refine gK 2 [(7,vI ↑k)] [] ?_
  refine NS (gK 5 [(8,.pointer (some ⟨(ay A),ax A+k * 10,none⟩))] [(1,a_ 0 b1),(3,p_ ⟨[],some k,none,some ⟨(ay A),ax A,none⟩,none⟩ [((k:Nat):Int)=((k:Nat):Int),k < ns.length,(⟨(ay A),ax A,none⟩:Addr).spot=none,(A:Option Addr)=some ⟨(ay A),ax A,none⟩] ⟨rfl,by omega,rfl,aE.hd hG (i:=k) (by omega),trivial⟩)] ?_)
  refine NN (af.seq (SR (gK 7 [(32,.bool (decide (((nd ns k).id:Int)<=(mw ns k:Int))))] [(3,p_ ⟨[.old (.int .i64 ((nd ns k).id))],none,none,none,none⟩ [(Rd β ⟨(ay A),ax A+k * 10,none⟩ (.int .i64 ((nd ns k).id)))] ⟨aE.rd hG (i:=k) (by omega) (j:=0) rfl,trivial⟩)] ?_)))
  refine ak.iE 32 (((nd ns k).id:Int)<=(mw ns k:Int)) (fun _=>by kernel_rfl) (fun JD=>?_) (fun JD=>?_)
  ·refine gK 11 [(43,.bool true)] [] ?_
   refine NN (CT (SR (gK 2 [(2,.map none),(3,.bool false)] [] ?_)))
   refine NN (af.ret (aj.aq (aj.aK (aj.aq (aj.aq (aj.aK (aj.aq ?_)))))))
   exact RT (.tuple #[.map none,.bool false]) [2] (.inr ⟨_,rfl,fun h=>by have:=h.last (show k < ns.length by omega);omega,rfl⟩)
  refine gK 7 [(39,.bool (decide (((nd ns k).id:Int) > (1099511627776:Int))))] [(3,p_ ⟨[.old (.int .i64 ((nd ns k).id))],none,none,none,none⟩ [(Rd β ⟨(ay A),ax A+k * 10,none⟩ (.int .i64 ((nd ns k).id)))] ⟨aE.rd hG (i:=k) (by omega) (j:=0) rfl,trivial⟩)] ?_
  refine ak.iE 39 (((nd ns k).id:Int) > (1099511627776:Int)) (fun _=>by kernel_rfl) (fun iV=>?_) (fun iV=>?_)
  ·refine gK 4 [(43,.bool true)] [] ?_
   refine NN (CT (SR (gK 2 [(2,.map none),(3,.bool false)] [] ?_)))
   refine NN (af.ret (aj.aq (aj.aK (aj.aq (aj.aq (aj.aK (aj.aq ?_)))))))
   exact RT (.tuple #[.map none,.bool false]) [2] (.inr ⟨_,rfl,fun h=>by have:=(h.ids k (by omega)).2;omega,rfl⟩)
  refine gK 1 [(40,.pointer (some ⟨(ay A),ax A+k * 10,none⟩))] [] ?_
  refine gL [] (OY A ns L hG k (by omega)) ?_
  rintro _ _ ⟨rfl,rfl⟩
  refine gK 2 [(43,.bool (!(decide (nW (nd ns k)))))] [] ?_
  refine NN (af.fI (p:=nW (nd ns k)) (fun _=>by kernel_rfl) (fun Tk=>?_) (fun Tk=>?_))
  ·refine SR (gK 2 [(2,.map none),(3,.bool false)] [] ?_)
   refine NN (af.ret (aj.aq (aj.aK (aj.aq (aj.aq (aj.aK (aj.aq ?_)))))))
   exact RT (.tuple #[.map none,.bool false]) [2] (.inr ⟨_,rfl,fun h=>Tk (h.node k (by omega)),rfl⟩)
  refine af.skip (NX (SR (gK 5 [(5,vI ((nd ns k).id))] [(3,p_ ⟨[.old (.int .i64 ((nd ns k).id))],none,none,none,none⟩ [(Rd β ⟨(ay A),ax A+k * 10,none⟩ (.int .i64 ((nd ns k).id)))] ⟨aE.rd hG (i:=k) (by omega) (j:=0) rfl,trivial⟩)] ?_)))
  refine NS (gK 6 [(48,.map (some m2)),(52,vI ((nd ns k).id)),(53,.pointer (some ⟨(ay A),ax A+k * 10,none⟩))] [(4,p_ ⟨[.old (.int .i64 ((nd ns k).id))],none,none,none,none⟩ [(Rd β ⟨(ay A),ax A+k * 10,none⟩ (.int .i64 ((nd ns k).id)))] ⟨aE.rd hG (i:=k) (by omega) (j:=0) rfl,trivial⟩)] ?_)
  refine ak.kU 1 (d:=none) (t:=98) (K:=3) (E:=99) (b:=m2) (n:=k) (f:=(mf (bf A ns k))) (x:=(.tmp 48)) (ix:=(.tmp 52)) (y:=(.tmp 53)) (key:=.int .i64 ((nd ns k).id)) (u:=.pointer (some ⟨(ay A),ax A+k * 10,none⟩)) (kl:=(.int .i64 (nd ns k).id)) (n':=k+1) (f':=(mf (bf A ns (k+1)))) (fun _=>by kernel_rfl) (by kernel_rfl) (fun _=>by kernel_rfl) (fun _=>by kernel_rfl) (fun _=>by kernel_rfl) dZ Tryz.underlying98 (by unfold maxLen;omega) (nP (by have:=hu.last;omega) (by omega)) (O4 (hu.below (by omega)) (by omega)) (Ti (hu.below (by omega)) (by omega)) ?_
  refine NN (af.region (gK 8 [(6,vI ↑((eU ns k)+((nd ns k).ah.length)))] [(4,p_ ⟨[.old (.slice (L.eA k) ((nd ns k).ah.length) ((L.eC k)))],none,none,none,none⟩ [(Rd β ⟨(ay A),ax A+k * 10+9,none⟩ (.slice (L.eA k) ((nd ns k).ah.length) ((L.eC k))))] ⟨aE.rd hG (i:=k) (by omega) (j:=9) rfl,trivial⟩),(6,p_ ⟨[],none,none,none,some (vI ↑((eU ns k)+((nd ns k).ah.length)))⟩ [(Value.int .i64 (IntKind.wrap .i64 (((eU ns k:Nat):Int)+(((nd ns k).ah.length:Nat):Int))))=(.int .i64 ↑((eU ns k)+((nd ns k).ah.length)))] ⟨bC (by omega) (by omega) (by omega),trivial⟩)] ?_))
  refine NL (aj.aO (NX (af.region ?_)))
  refine gK 2 [(19,vI ↑(k+1))] [(0,p_ ⟨[],none,none,none,some (vI ↑(k+1))⟩ [(Value.int .i64 (IntKind.wrap .i64 (((k:Nat):Int)+1)))=(.int .i64 ↑(k+1))] ⟨bC (by omega) (by omega) (by omega),trivial⟩)] ?_
  refine NL ?_
  exact aj.turn ((k+1)) (idx:=[1,4,5,6,18,19]) (pk:=[0,1,2]) (show (((k+1))<=ns.length)/\(qu ns ((k+1)))/\(eU ns ((k+1))<=((k+1)) * 1048576) from ⟨by omega,hu.step (by omega) (by omega) Tk,by have:=(hd k (by omega)).2;show eU ns k+_<=_;omega⟩) (by show ns.length - ((k+1)) < ns.length - k;omega) (fun _=>by kernel_rfl) rfl (by kernel_rfl)
 refine af.exit (aj.aV (aj.aV (aj.cL (NX (af.seq (SR ?_))))))
 refine gK 2 [(63,.bool (decide ((((eU ns k:Nat):Int):Int) > (8192:Int))))] [] ?_
 refine NN (af.aW (p:=(((eU ns k:Nat):Int):Int) > (8192:Int)) (fun _=>by kernel_rfl) (fun h63=>?_) (fun h63=>?_))
 ·refine SR (gK 2 [(2,.map none),(3,.bool false)] [] ?_)
  refine NN (af.ret (aj.aq ?_))
  exact RT (.tuple #[.map none,.bool false]) [2] (.inr ⟨_,rfl,fun h=>by have h1:=h.sum;rw [show ns.length=k by omega] at h1;omega,rfl⟩)
 refine af.skip (NX (SR (ak.mz (d:=(some 64)) (t:=137) (fun _=>by kernel_rfl) Tryz.prog rfl 3 (fun m3=>?_))))
 refine gK 1 [(9,.map (some m3))] [] ?_
 refine NN (af.seq (SR (ak.dV 3 (p:=.abs (aP Tryz.prog 3 m3 (fun _=>none) 0)) (p':=.abs (aP Tryz.prog 3 m3 (mf (pf ((fA ns 0).map (iW ns)))) ((fA ns 0).length))) (by kernel_rfl) (by rw [RR];rfl) ?_)))
 refine ak.dV 1 (p:=.abs (aP Tryz.prog 3 m2 (mf (bf A ns k)) k)) (p':=.abs (aP Tryz.prog 3 m2 (mf (bf A ns ns.length)) ns.length)) (by kernel_rfl) (by rw [show k=ns.length by omega]) ?_
 refine gK 4 [(67,vI ↑ns.length),(68,vI 0)] [(1,a_ 0 b1)] ?_
 refine NN (af.block ?_)
 have QM:cJ ns:=fun a b hab hb=>hu.rise a b hab (by omega)
 have hsum:eU ns ns.length<=8192:=by rw [show ns.length=k by omega];omega
 refine af.loop (ι:=Nat) (fun (i:Nat)=>(i<=ns.length)/\(∀ a,a < i->∀ j,j < (nd ns a).ah.length->lY ns a j)/\(((fA ns i).map Prod.fst).Nodup)) (fun (i:Nat)=>ns.length - i) (fun (i:Nat)=>[(1,vP b1),(4,.map (some m2)),(9,.map (some m3)),(67,vI ↑ns.length),(68,vI ↑i)]) (fun (i:Nat)=>[.blk b1 [.slice A (ns.length) (c)] 24,.abs (aP Tryz.prog 3 m2 (mf (bf A ns ns.length)) ns.length),.abs (aP Tryz.prog 3 m3 (mf (pf ((fA ns i).map (iW ns)))) ((fA ns i).length)),.abs R]) 0 (idx:=[1,4,9,67,68]) (pk:=[0,1,3,2]) (show (0<=ns.length)/\(∀ a,a < 0->∀ j,j < (nd ns a).ah.length->lY ns a j)/\(((fA ns 0).map Prod.fst).Nodup) from ⟨Nat.zero_le _,fun a ha=>absurd ha (Nat.not_lt_zero a),List.nodup_nil⟩) (fun _=>by kernel_rfl) rfl (by kernel_rfl) ?_
 rintro i ⟨hi,FB,hnd⟩
 show af _ _ _ _ [(1,vP b1),(4,.map (some m2)),(9,.map (some m3)),(67,vI ↑ns.length),(68,vI ↑i)] [.blk b1 [.slice A (ns.length) (c)] 24,.abs (aP Tryz.prog 3 m2 (mf (bf A ns ns.length)) ns.length),.abs (aP Tryz.prog 3 m3 (mf (pf ((fA ns i).map (iW ns)))) ((fA ns i).length)),.abs R] _
 refine SR (gK 1 [(69,.bool (decide ((((i:Nat):Int):Int) < (((ns.length:Nat):Int):Int))))] [] ?_)
 refine NN (af.seq (af.aW (p:=(((i:Nat):Int):Int) < (((ns.length:Nat):Int):Int)) (fun _=>by kernel_rfl) (fun QK=>?_) (fun QK=>?_)))
 ·refine af.skip (NX (af.seq (af.block (SR ?_))))
  refine gK 2 [(10,vI ↑i)] [] ?_
  refine NS (gK 6 [(74,.pointer (some ⟨(ay A),ax A+i * 10,none⟩)),(75,.map (some m2)),(76,.map (some m3))] [(1,a_ 0 b1),(3,p_ ⟨[],some i,none,some ⟨(ay A),ax A,none⟩,none⟩ [((i:Nat):Int)=((i:Nat):Int),i < ns.length,(⟨(ay A),ax A,none⟩:Addr).spot=none,(A:Option Addr)=some ⟨(ay A),ax A,none⟩] ⟨rfl,by omega,rfl,aE.hd hG (i:=i) (by omega),trivial⟩)] ?_)
  refine gL [1,2] (O3 A ns L hG QM i (by omega) (hd i (by omega)).2 (hwf i (by omega)) (hnm i (by omega)) m2 m3 (fA ns i) (by have:=Gn ns i;have:=vn (ns:=ns) (show i<=ns.length by omega);omega) (fun p hp=>(wF (by omega) FB p hp).1) hnd) ?_
  rintro _ _ (⟨rfl,hro,rfl⟩|⟨rfl,hro,rfl⟩)
  ·refine gK 1 [(78,.bool false)] [] ?_
   refine NN (CF (af.skip (aj.aO (NX (af.region ?_)))))
   refine gK 2 [(68,vI ↑(i+1))] [(0,p_ ⟨[],none,none,none,some (vI ↑(i+1))⟩ [(Value.int .i64 (IntKind.wrap .i64 (((i:Nat):Int)+1)))=(.int .i64 ↑(i+1))] ⟨bC (by omega) (by omega) (by omega),trivial⟩)] ?_
   refine NL ?_
   exact aj.turn ((i+1)) (idx:=[1,4,9,67,68]) (pk:=[2,0,1,3]) (show (((i+1))<=ns.length)/\(∀ a,a < ((i+1))->∀ j,j < (nd ns a).ah.length->lY ns a j)/\(((fA ns ((i+1))).map Prod.fst).Nodup) from ⟨by omega,fun a ha=>(by rcases Nat.lt_succ_iff_lt_or_eq.1 ha with h|h;exact FB a h;subst h;exact hro.ah),hro.next⟩) (by show ns.length - ((i+1)) < ns.length - i;omega) (fun _=>by kernel_rfl) rfl (by kernel_rfl)
  refine gK 1 [(78,.bool true)] [] ?_
  refine NN (CT (SR (gK 2 [(2,.map none),(3,.bool false)] [] ?_)))
  refine NN (af.ret (aj.aK (aj.aq (aj.aq (aj.aK (aj.aq ?_))))))
  exact RT (.tuple #[.map none,.bool false]) [1] (.inr ⟨_,rfl,fun h=>hro (h.row (by omega)),rfl⟩)
 refine af.exit (aj.aV (aj.aV (aj.cL (NX (SR ?_)))))
 refine gK 2 [(80,.map (some m2)),(81,.map (some m3))] [] ?_
 refine ak.dV 2 (p:=.abs (aP Tryz.prog 3 m3 (mf (pf ((fA ns i).map (iW ns)))) ((fA ns i).length))) (p':=.abs (aP Tryz.prog 3 m3 (mf (pf ((fA ns i).map (iW ns)))) (((fA ns i).map (iW ns)).length))) (by kernel_rfl) (by rw [List.length_map]) ?_
 refine gL [2] ((Ms m3 ((fA ns i).map (iW ns)) (by rw [List.length_map];have:=Gn ns i;have:=vn (ns:=ns) (show i<=ns.length by omega);omega) (Mx (wF (by omega) FB) (fun a ha=>hu.ids a (by omega)))).mono (fun v l h=>Tj h)) ?_
 rintro _ _ (⟨rfl,Tl,rfl⟩|⟨rfl,Tl,rfl⟩)
 ·refine gK 2 [(2,.map (some m2)),(3,.bool true)] [] ?_
  refine NN (af.ret ?_)
  exact RT (.tuple #[.map (some m2),.bool true]) [1,2] (.inl ⟨m2,rfl,⟨by omega,fun a ha=>hu.node a (by omega),fun a ha=>hu.ids a (by omega),QM,by omega,fun a ha=>FB a (by omega),by have:=hnd;rwa [show i=ns.length by omega] at this,by have:=Tl;rwa [show i=ns.length by omega] at this⟩,rfl⟩)
 refine gK 2 [(2,.map (some m2)),(3,.bool false)] [] ?_
 refine NN (af.ret ?_)
 exact RT (.tuple #[.map (some m2),.bool false]) [2] (.inr ⟨_,rfl,fun h=>Tl (by have:=h.ends;rwa [show ns.length=i by omega] at this),rfl⟩)
theorem O5 {β:Bs} (A:Option Addr) (c:Nat) (ns:List aI) (L:Lay) (hG:aE β A ns L) (hl:ns.length<=1048576) (hd:∀ i,i < ns.length->(nd ns i).data.length<=140737488355328/\(nd ns i).ah.length<=1048576) (hwf:∀ i,i < ns.length->∀ j,j < (nd ns i).ah.length->-9223372036854775808<=(ent ns i j).id/\(ent ns i j).id<=9223372036854775807) (hnm:∀ i,i < ns.length->∀ j,j < (nd ns i).ah.length->(ent ns i j).name.size<=1048576) :
    Spec Tryz.prog β 76 #[.agg #[.slice A ns.length c]] [] (fun v l=>v=vI (if bB ns then 0 else 140)/\l=[]):=by
 refine Spec.enter Tryz.func76 rfl Tryz.ntmps76 (Nat.le_of_ble_eq_true rfl) (fun R=>?_)
 refine SR (gN 2 (fun b4=>[(1,vP b4)]) (fun _=>[]) (fun _=>[]) (fun b4=>.blk b4 [.slice A (ns.length) (c)] 24) (fun b4=>?_))
 refine NN (af.seq (SR (gK 1 [(6,.agg #[.slice A (ns.length) (c)])] [(0,a_ 1 b4)] ?_)))
 refine gL [] (JJ A c ns L hG hl hd hwf hnm) ?_
 rintro _ _ (⟨mb,rfl,hok,rfl⟩|⟨m,rfl,hok,rfl⟩)
 ·refine gK 5 [(4,.bool true)] [] ?_
  refine NS (gK 2 [(11,.bool false)] [] ?_)
  refine NN (CF (af.skip (NX (SR (gK 1 [(2,vI 0)] [] ?_)))))
  refine NN (af.ret ?_)
  exact RT (vI 0) [1] (⟨congrArg (Value.int .i64) (if_pos hok).symm,rfl⟩)
 refine gK 5 [(4,.bool false)] [] ?_
 refine NS (gK 2 [(11,.bool true)] [] ?_)
 refine NN (CT (SR (gK 1 [(2,vI 140)] [] ?_)))
 refine NN (af.ret (aj.aq ?_))
 exact RT (vI 140) [0] (⟨congrArg (Value.int .i64) (if_neg hok).symm,rfl⟩)
end
section
open Go.RowKit Go.Maps
def W9 (ed:List (Nat×Nat)) (k:Nat):Int:=match ed.lookup k with|some a=>(a:Int)|none=>-1
structure Zz (n:Nat) (pl:List Int) (ed:List (Nat×Nat)):Prop where
  len:pl.length=n
  at_:∀ k,k < n->pl.getD k 0=W9 ed k
theorem Mz {ns:List aI} {ed:List (Nat×Nat)} (hp:∀ p,p∈ed->p.1 < ns.length) (h:∀ i,i < ns.length->Ends (ed.map (iW ns)) (nd ns i).id):vG (ed.map (iW ns)):=by
  intro z
  cases hu:up (ed.map (iW ns)) z with
  | none=>exact⟨0,hu⟩
  | some y=>
    have:∃ p,p∈ed/\z=(nd ns p.1).id:=by
      unfold up at hu
      clear h
      induction ed with
      | nil=>cases hu
      | cons p ed ih=>
        rw [List.map_cons,iW,List.lookup_cons] at hu
        by_cases e:(z == (nd ns p.1).id)=true
        ·exact⟨p,List.mem_cons_self ..,by simpa using e⟩
        have e:(z == (nd ns p.1).id)=false:=by simpa using e
        rw [e] at hu
        obtain⟨q,hq,h2⟩:=ih (fun p hp'=>hp p (List.mem_cons_of_mem _ hp')) hu
        exact⟨q,List.mem_cons_of_mem _ hq,h2⟩
    obtain⟨p,h1,rfl⟩:=this
    exact h p.1 (hp p h1)
theorem O6 {ns:List aI} {i j:Nat} (h1:0<=j4 ns (ent ns i j).id) (h2:bD (ent ns i j).name) (h3:0 < j->¬ je (ent ns i j).name (ent ns i (j - 1)).name):lY ns i j:=by
  refine⟨h1,h2,?_⟩
  cases j with
  | zero=>
    intro h
    have:=I3.1 h
    have h4:=h2.1
    rw [this] at h4
    exact absurd h4 (by decide)
  | succ j=>exact h3 (Nat.succ_pos j)
end
section
open Go.RowKit
theorem B0.refl (W:World):(B0 W).le (B0 W):=⟨fun _ h=>h,rfl,rfl,rfl,Nat.le_refl _,fun _ hk=>⟨hk,rfl⟩⟩
section gb
variable {ns:List aI} {b:Nat}
variable (h:fN ns 1048576)
include h
theorem fN.hl:ns.length<=1048576:=by have:=h.len;omega
theorem fN.hd:∀ i,i < ns.length->(nd ns i).data.length<=1048576/\(nd ns i).ah.length<=1048576:=fun i hi=>by
  have h1:=(h.node i hi).data
  have h2:=(h.node i hi).ah
  omega
theorem fN.hwf:∀ i,i < ns.length->∀ j,j < (nd ns i).ah.length->-9223372036854775808<=(ent ns i j).id/\(ent ns i j).id<=9223372036854775807:=fun i hi j hj=>((h.node i hi).ent j hj).id
theorem fN.hnm:∀ i,i < ns.length->∀ j,j < (nd ns i).ah.length->(ent ns i j).name.size<=1048576:=fun i hi j hj=>by
  have h1:=((h.node i hi).ent j hj).name
  unfold ent
  omega
end gb
structure Gp (ns:List aI):Prop where
  hl:ns.length<=1048576
  hd:∀ i,i < ns.length->(nd ns i).data.length<=140737488355328/\(nd ns i).ah.length<=1048576
  hwf:∀ i,i < ns.length->∀ j,j < (nd ns i).ah.length->-9223372036854775808<=(ent ns i j).id/\(ent ns i j).id<=9223372036854775807
  hnm:∀ i,i < ns.length->∀ j,j < (nd ns i).ah.length->(ent ns i j).name.size<=1048576
  ids:∀ i,i < ns.length->mF (nd ns i).id
theorem fN.u {ns:List aI} (h:fN ns 1048576):Gp ns:=⟨h.hl,fun i hi=>⟨Nat.le_trans (h.hd i hi).1 (by decide),(h.hd i hi).2⟩,h.hwf,h.hnm,fun i hi=>(h.node i hi).ids.1⟩
def L0:Lay:=⟨fun _=>none,fun _=>none,fun _=>0,fun _=>0⟩
end
section
open Go.RowKit
structure Th where
  k:Nat
  kind:Int
deriving Inhabited,DecidableEq
abbrev fY (α:Type):=List (ByteArray×α)
structure aY where
  id:Int
  mode:Int
  uid:Int
  gid:Int
  sec:Int
  nano:Int
  links:Int
  opens:Int
  gone:Bool
  kind:Int
  data:List UInt8
  target:ByteArray
  ah:fY Th
  up:Option Nat
deriving Inhabited
abbrev bU:=Nat->aY
def obj (O:bU) (k:Nat):aY:=O k
def aN (O:bU) (k:Nat) (f:aY->aY):bU:=fun i=>if i=k then f (O i) else O i
section kD
variable {O:bU} {k j:Nat} {f g:aY->aY}
theorem cA:obj (aN O k f) k=f (obj O k):=if_pos rfl
theorem ct (h:j≠k):obj (aN O k f) j=obj O j:=if_neg h
theorem kP:obj (aN O k f) j=if j=k then f (obj O j) else obj O j:=rfl
theorem RS (h:f (obj O k)=obj O k):aN O k f=O:=by
  funext i
  show (if i=k then f (O i) else O i)=O i
  split
  ·rename_i e;subst e;exact h
  rfl
theorem yw:aN (aN O k f) k g=aN O k (fun o=>g (f o)):=by
  funext i
  show (if i=k then g (if i=k then f (O i) else O i) else (if i=k then f (O i) else O i))=if i=k then g (f (O i)) else O i
  split<;>rfl
end kD
section ah
variable {α:Type} {n p:ByteArray} {t:α} {es:fY α}
def aT (n:ByteArray) (es:fY α):Option α:=(es.find? (fun e=>decide (e.1=n))).map (·.2)
def iA (n:ByteArray) (t:α):fY α->fY α
  | []=>[(n,t)]
  | e::r=>if ¬ je e.1 n then (n,t)::e::r else e::iA n t r
def iB (n:ByteArray) (es:fY α):fY α:=es.filter (fun e=>decide (e.1≠n))
theorem jf {e:ByteArray×α}:aT n (e::es)=if e.1=n then some e.2 else aT n es:=by
  unfold aT
  rw [List.find?_cons]
  by_cases h:e.1=n
  ·rw [if_pos h];simp [h]
  rw [if_neg h];simp [h]
theorem sG:aT n es=none↔∀ e∈es,e.1≠n:=by
  unfold aT
  rw [Option.map_eq_none_iff,List.find?_eq_none]
  simp
theorem lN {es:fY α} (h:aT n es=some t):(n,t)∈es:=by
  unfold aT at h
  obtain⟨e,h1,h2⟩:=Option.map_eq_some_iff.1 h
  have h3:=List.find?_some h1
  have h4:=List.mem_of_find?_eq_some h1
  obtain⟨a,b⟩:=e
  simp at h3 h2
  subst h3 h2
  exact h4
theorem Gq:∀ {es:fY α},(iA n t es).length=es.length+1
  | []=>rfl
  | e::r=>by
    unfold iA
    split
    ·rfl
    rw [List.length_cons,Gq];rfl
theorem yx (hn:aT n es=none):aT p (iA n t es)=if p=n then some t else aT p es:=by
  induction es with
  | nil=>
    rw [iA,jf]
    by_cases h:n=p
    ·rw [if_pos h,if_pos h.symm]
    rw [if_neg h,if_neg (fun e=>h e.symm)]
  | cons e r ih=>
    rw [jf] at hn
    have he:¬ e.1=n:=fun h=>by rw [if_pos h] at hn;cases hn
    rw [if_neg he] at hn
    rw [iA]
    split
    ·rw [jf]
     by_cases h:n=p
     ·rw [if_pos h,if_pos h.symm]
     rw [if_neg h,if_neg (fun e=>h e.symm)]
    rw [jf,ih hn,jf]
    by_cases h:p=n
    ·subst h;rw [if_neg he,if_pos rfl,if_pos rfl]
    rw [if_neg h,if_neg h]
theorem rA:aT p (iB n es)=if p=n then none else aT p es:=by
  induction es with
  | nil=>simp [iB,aT]
  | cons e r ih=>
    unfold iB at ih ⊢
    rw [List.filter_cons]
    by_cases h:e.1=n
    ·rw [if_neg (by simp [h]),ih,jf]
     by_cases hp:p=n
     ·rw [if_pos hp,if_pos hp]
     rw [if_neg hp,if_neg hp,if_neg (fun e2=>hp (e2.symm.trans h))]
    rw [if_pos (by simp [h]),jf,ih,jf]
    by_cases hp:p=n
    ·subst hp;rw [if_neg h,if_pos rfl,if_pos rfl]
    rw [if_neg hp,if_neg hp]
def oV (es:fY α):Prop:=es.Pairwise (fun a b=>a.1≠b.1)
theorem O7 {es:fY α} (hd:oV es) (h:aT n es=some t):(iB n es).length+1=es.length:=by
  induction es with
  | nil=>cases h
  | cons e r ih=>
    obtain⟨h1,h2⟩:=List.pairwise_cons.1 hd
    rw [jf] at h
    unfold iB at ih ⊢
    rw [List.filter_cons]
    by_cases he:e.1=n
    ·rw [if_neg (by simp [he])]
     have:r.filter (fun e=>decide (e.1≠n))=r:=List.filter_eq_self.2 (fun x hx=>by have:=h1 x hx;simp;exact fun e2=>this (he.trans e2.symm))
     rw [this];rfl
    rw [if_pos (by simp [he])]
    rw [if_neg he] at h
    rw [List.length_cons,List.length_cons,ih h2 h]
theorem Bw {e:ByteArray×α}:∀ {es:fY α},e∈iA n t es↔e=(n,t)\/e∈es
  | []=>by simp [iA]
  | x::r=>by
    unfold iA
    split
    ·simp
    rw [List.mem_cons,Bw,List.mem_cons]
    constructor
    ·rintro (h|h|h)
     ·exact .inr (.inl h)
     ·exact .inl h
     exact .inr (.inr h)
    rintro (h|h|h)
    ·exact .inr (.inl h)
    ·exact .inl h
    exact .inr (.inr h)
end ah
end
section
open Go.RowKit
section sat
variable {β:Bs} {l:List HP} {w:World} {p p1 p2:HP} {i:Nat}
theorem Sat.Vk (h:Sat β l w) (hp:l[i]?=some p) (hs:∀ F,p.h F w->∃ F1 F2,p1.h F1 w/\p2.h F2 w/\Apart F1 F2/\∀ k,F k↔F1 k\/F2 k):Sat β (l.set i p1++[p2]) w:=by
  obtain⟨ho,φ,h1,h2,h3⟩:=h
  obtain⟨F1,F2,g1,g2,g3,g4⟩:=hs _ (h1 i p hp)
  have hi:=bw hp
  have hlen:(l.set i p1++[p2]).length=l.length+1:=by simp
  refine⟨ho,fun j=>if j=l.length then F2 else if j=i then F1 else φ j,fun j q hq=>?_,fun j hj k hk hO=>?_,fun a b ha hb hne k hk hk'=>?_⟩
  ·by_cases e:j=l.length
   ·subst e
    rw [List.getElem?_append_right (by simp)] at hq
    simp at hq
    subst hq
    simpa using g2
   rw [List.getElem?_append_left (by have:=bw hq;rw [hlen] at this;simp;omega)] at hq
   simp only [e,if_false]
   by_cases e2:j=i
   ·subst e2
    rw [List.getElem?_set_self hi] at hq
    cases hq
    simpa using g1
   rw [List.getElem?_set_ne (fun e'=>e2 e'.symm)] at hq
   simp only [e2,if_false]
   exact h1 j q hq
  ·rw [hlen] at hj
   have hF:∀ k,F1 k\/F2 k->β.O k->False:=fun k hk hO=>h2 i hi k ((g4 k).2 hk) hO
   by_cases e:j=l.length
   ·simp only [e,if_true] at hk;exact hF k (.inr hk) hO
   simp only [e,if_false] at hk
   by_cases e2:j=i
   ·simp only [e2,if_true] at hk;exact hF k (.inl hk) hO
   simp only [e2,if_false] at hk;exact h2 j (by omega) k hk hO
  rw [hlen] at ha hb
  have key:∀ j,j < l.length->j≠i->∀ k,F1 k\/F2 k->φ j k->False:=fun j hj hne k hk hk'=>h3 j i hj hi hne k hk' ((g4 k).2 hk)
  by_cases ea:a=l.length
  ·simp only [ea,if_true] at hk
   have eb:¬ b=l.length:=fun e=>hne (ea.trans e.symm)
   simp only [eb,if_false] at hk'
   by_cases Cn:b=i
   ·simp only [Cn,if_true] at hk';exact g3 k hk' hk
   simp only [Cn,if_false] at hk';exact key b (by omega) Cn k (.inr hk) hk'
  simp only [ea,if_false] at hk
  by_cases MB:a=i
  ·simp only [MB,if_true] at hk
   by_cases eb:b=l.length
   ·simp only [eb,if_true] at hk';exact g3 k hk hk'
   simp only [eb,if_false] at hk'
   have Cn:¬ b=i:=fun e=>hne (MB.trans e.symm)
   simp only [Cn,if_false] at hk'
   exact key b (by omega) Cn k (.inl hk) hk'
  simp only [MB,if_false] at hk
  by_cases eb:b=l.length
  ·simp only [eb,if_true] at hk';exact key a (by omega) MB k (.inr hk') hk
  simp only [eb,if_false] at hk'
  by_cases Cn:b=i
  ·simp only [Cn,if_true] at hk';exact key a (by omega) MB k (.inl hk') hk
  simp only [Cn,if_false] at hk';exact h3 a b (by omega) (by omega) hne k hk hk'
theorem Sat.QN {j:Nat} {idx:List Nat} {l':List HP} (h:Sat β l w) (hp:l[i]?=some p1) (hq:l[j]?=some p2) (hn:nodupB (i::j::idx)=true) (hl:bN l idx=some l') (hs:∀ F1 F2,p1.h F1 w->p2.h F2 w->Apart F1 F2->∃ F,p.h F w/\∀ k,F k->F1 k\/F2 k):Sat β (p::l') w:=by
  have h':=h.pick (idx:=i::j::idx) (l':=p1::p2::l') hn (by simp only [bN,hp,hq,hl])
  obtain⟨ho,φ,h1,h2,h3⟩:=h'
  obtain⟨F,hF,hk⟩:=hs _ _ (h1 0 p1 rfl) (h1 1 p2 rfl) (h3 0 1 (by simp) (by simp) (by decide))
  have hlen:(p1::p2::l').length=l'.length+2:=rfl
  rw [hlen] at h2 h3
  refine⟨ho,fun j=>if j=0 then F else φ (j+1),fun j q hq=>?_,fun j hj k hkk hO=>?_,fun a b ha hb hne k hk1 hk2=>?_⟩
  ·cases j with
   | zero=>simp at hq;subst hq;simpa using hF
   | succ j=>simpa using h1 (j+2) q (by simpa using hq)
  ·simp only [List.length_cons] at hj
   cases j with
   | zero=>
     simp only [if_true] at hkk
     rcases hk k hkk with e|e
     ·exact h2 0 (by omega) k e hO
     exact h2 1 (by omega) k e hO
   | succ j=>exact h2 (j+2) (by omega) k (by simpa using hkk) hO
  simp only [List.length_cons] at ha hb
  have key:∀ j,j < l'.length->F k->φ (j+2) k->False:=fun j hj e1 e2=>by
    rcases hk k e1 with e|e
    ·exact h3 0 (j+2) (by omega) (by omega) (by omega) k e e2
    exact h3 1 (j+2) (by omega) (by omega) (by omega) k e e2
  cases a with
  | zero=>
    cases b with
    | zero=>exact hne rfl
    | succ b=>exact key b (by omega) (by simpa using hk1) (by simpa using hk2)
  | succ a=>
    cases b with
    | zero=>exact key a (by omega) (by simpa using hk2) (by simpa using hk1)
    | succ b=>exact h3 (a+2) (b+2) (by omega) (by omega) (by omega) k (by simpa using hk1) (by simpa using hk2)
end sat
def cW (R:Nat->bW) (n:Nat):bW where
  h F w:=∃ φ:Nat->Fp,(∀ i,i < n->(R i).h (φ i) w)/\(∀ i j,i < n->j < n->i≠j->Apart (φ i) (φ j))/\∀ k,F k↔∃ i,i < n/\φ i k
  lt:=fun ⟨_,h1,_,h3⟩ k hk=>let ⟨i,hi,hk⟩:=(h3 k).1 hk;(R i).lt (h1 i hi) k hk
  st:=fun ⟨φ,h1,h2,h3⟩ _ _ hk hn=>⟨φ,fun i hi=>(R i).st (h1 i hi) hk (fun k hk=>hn k ((h3 k).2 ⟨i,hi,hk⟩)),h2,h3⟩
def bW.none:bW where
  h F _:=∀ k,¬ F k
  lt:=fun h k hk=>absurd hk (h k)
  st:=fun h _ _ _ _=>h
def kX (R:Nat->bW) (k:Nat) (a:bW):Nat->bW:=fun i=>if i=k then a else R i
section MC
variable {β:Bs} {l l':List HP} {w:World} {i n k:Nat} {R R':Nat->bW} {a:bW}
theorem cW.nil (R:Nat->bW) (w:World):(HP.abs (cW R 0)).h (fun _=>False) w:=⟨fun _ _=>False,fun i hi=>absurd hi (Nat.not_lt_zero i),fun i _ hi=>absurd hi (Nat.not_lt_zero i),fun _=>⟨fun h=>h.elim,fun ⟨i,hi,_⟩=>absurd hi (Nat.not_lt_zero i)⟩⟩
theorem Sat.ME (h:Sat β l w) (R:Nat->bW):Sat β (l++[.abs (cW R 0)]) w:=Sat.new h (cW.nil R w) (Keeps.refl _ _) (fun _ h=>h.elim)
theorem Sat.sR {j:Nat} {idx:List Nat} (h:Sat β l w) (hp:l[i]?=some (.abs (cW R n))) (hq:l[j]?=some (.abs a)) (hn:nodupB (i::j::idx)=true) (hl:bN l idx=some l') (hR:∀ x,x < n->R' x=R x) (ha:R' n=a):Sat β (.abs (cW R' (n+1))::l') w:=by
  refine h.QN hp hq hn hl ?_
  rintro F1 F2 ⟨φ,h1,h2,h3⟩ hF hap
  refine⟨fun x=>F1 x\/F2 x,⟨fun i=>if i=n then F2 else φ i,fun i hi=>?_,fun i j hi hj hne x hx hy=>?_,fun x=>⟨fun hx=>?_,fun ⟨i,hi,hx⟩=>?_⟩⟩,fun x hx=>hx⟩
  ·by_cases e:i=n
   ·subst e;simp only [if_true];rw [ha];exact hF
   simp only [e,if_false];rw [hR i (by omega)];exact h1 i (by omega)
  ·by_cases e1:i=n
   ·by_cases e2:j=n
    ·exact hne (e1.trans e2.symm)
    simp only [e1,if_true] at hx
    simp only [e2,if_false] at hy
    exact hap x ((h3 x).2 ⟨j,by omega,hy⟩) hx
   simp only [e1,if_false] at hx
   by_cases e2:j=n
   ·simp only [e2,if_true] at hy
    exact hap x ((h3 x).2 ⟨i,by omega,hx⟩) hy
   simp only [e2,if_false] at hy
   exact h2 i j (by omega) (by omega) hne x hx hy
  ·rcases hx with hx|hx
   ·obtain⟨i,hi,hx⟩:=(h3 x).1 hx
    exact⟨i,by omega,by simpa [Nat.ne_of_lt hi] using hx⟩
   exact⟨n,Nat.lt_succ_self n,by simpa using hx⟩
  by_cases e:i=n
  ·exact .inr (by simpa [e] using hx)
  exact .inl ((h3 x).2 ⟨i,by omega,by simpa [e] using hx⟩)
theorem cW.base {F:Fp} {β':Bs} (h:(HP.abs (cW R n)).h F w) (h1:∀ k,F k->β'.O k) (_:β'.w0=w) {Φ:Nat->Bs->Prop} (vE:∀ i,i < n->∀ F,(R i).h F w->(∀ k,F k->β'.O k)->Φ i β'):∀ i,i < n->Φ i β':=by
  obtain⟨φ,g1,_,g3⟩:=h
  exact fun i hi=>vE i hi (φ i) (g1 i hi) (fun k hk=>h1 k ((g3 k).2 ⟨i,hi,hk⟩))
end MC
section wv
variable {P:Program} {β:Bs} {N:dG} {ops:Array Oper} {S:List HP} {l:List Nat} {fr:Fr} {hps:List HP} {Q:Post} {i:Nat}
def O8 (β:Bs) (N:dG) {ι:Type} (B:ι->Bs) (Φ:ι->Prop) (fr:ι->Fr) (hp:ι->List HP):Post:=fun _ a w=>∃ i junk,β.le (B i)/\Φ i/\a=bM N (fr i) junk/\Sat (B i) (hp i) w
theorem aj.Gr {mQ:Bs} {ι:Type} {B:ι->Bs} {Φ:ι->Prop} {fr':ι->Fr} {hp':ι->List HP} (j:ι) {idx pk:List Nat} (hb:B j=β) (hle:mQ.le β) (vE:Φ j) (hf:∀ junk,iD fr junk idx=fr' j) (hn:nodupB pk=true) (hp:bN hps pk=some (hp' j)):aj β N (NP (O8 mQ N B Φ fr' hp')) .normal fr hps:=by
  subst hb
  exact fun junk _ hS=>⟨j,lk fr junk,hle,vE,by rw [ju N fr junk idx,hf junk],hS.pick hn hp⟩
end wv
end
section
open Go.RowKit
structure pP (β:Bs) (R:List HP) (β':Bs):Prop where
  le:β.le β'
  fp:∃ φ:Nat->Fp,(∀ (i:Nat) (p:HP),R[i]?=some p->p.h (φ i) β'.w0/\∀ k,φ i k->β'.O k)/\(∀ i,i < R.length->∀ k,φ i k->¬ β.O k)/\(∀ i j,i < R.length->j < R.length->i≠j->Apart (φ i) (φ j))/\∀ k,β'.O k->β.O k\/∃ i,i < R.length/\φ i k
section O9
variable {β β' yj:Bs} {l R:List HP} {w:World} {p:HP} {i:Nat}
theorem pP.get (h:pP β R β') (i:Nat) (hp:R[i]?=some p):∃ F,p.h F β'.w0/\∀ k,F k->β'.O k:=by
  obtain⟨φ,h1,_⟩:=h.fp
  exact⟨φ i,h1 i p hp⟩
theorem Sat.turn {a b:List HP} (h:Sat β (a++b) w):Sat β (b++a) w:=by
  obtain⟨ho,φ,h1,h2,h3⟩:=h
  have hl:(a++b).length=a.length+b.length:=List.length_append
  have hl':(b++a).length=b.length+a.length:=List.length_append
  refine⟨ho,fun i=>if i < b.length then φ (a.length+i) else φ (i - b.length),fun i p hp=>?_,fun i hi k hk hO=>?_,fun i j hi hj hne k hk hk'=>?_⟩
  ·have hi:=bw hp
   by_cases e:i < b.length
   ·simp only [e,if_true]
    rw [List.getElem?_append_left e] at hp
    exact h1 _ p (by rw [List.getElem?_append_right (by omega)];simpa using hp)
   simp only [e,if_false]
   rw [List.getElem?_append_right (by omega)] at hp
   exact h1 _ p (by rw [List.getElem?_append_left (by omega)];exact hp)
  ·by_cases e:i < b.length
   ·simp only [e,if_true] at hk
    exact h2 _ (by omega) k hk hO
   simp only [e,if_false] at hk
   exact h2 _ (by omega) k hk hO
  by_cases e1:i < b.length
  ·simp only [e1,if_true] at hk
   by_cases e2:j < b.length
   ·simp only [e2,if_true] at hk'
    exact h3 _ _ (by omega) (by omega) (by omega) k hk hk'
   simp only [e2,if_false] at hk'
   exact h3 _ _ (by omega) (by omega) (by omega) k hk hk'
  simp only [e1,if_false] at hk
  by_cases e2:j < b.length
  ·simp only [e2,if_true] at hk'
   exact h3 _ _ (by omega) (by omega) (by omega) k hk hk'
  simp only [e2,if_false] at hk'
  exact h3 _ _ (by omega) (by omega) (by omega) k hk hk'
theorem Sat.yA (h:Sat β (l++R) w):∃ β',pP β R β'/\β'.w0=w/\Sat β' l w:=by
  obtain⟨ho,φ,h1,h2,h3⟩:=h
  have hl:(l++R).length=l.length+R.length:=List.length_append
  have hR:∀ (i:Nat) (p:HP),R[i]?=some p->p.h (φ (l.length+i)) w:=fun i p hp=>h1 _ p (by rw [List.getElem?_append_right (by omega)];simpa using hp)
  refine⟨⟨fun k=>β.O k\/∃ i,i < R.length/\φ (l.length+i) k,w⟩,⟨⟨fun k hk=>.inl hk,ho.os,ho.tape,ho.output,ho.size,fun k hk=>ho.old k hk⟩,fun i=>φ (l.length+i),fun i p hp=>⟨hR i p hp,fun k hk=>.inr ⟨i,bw hp,hk⟩⟩,fun i hi=>h2 _ (by omega),fun i j hi hj hne=>h3 _ _ (by omega) (by omega) (by omega),fun k hk=>hk⟩,rfl,⟨rfl,rfl,rfl,Nat.le_refl _,fun k hk=>⟨?_,rfl⟩⟩,φ,fun i p hp=>h1 i p (by rw [List.getElem?_append_left (bw hp)];exact hp),fun i hi k hk hO=>?_,fun i j hi hj hne=>h3 i j (by omega) (by omega) hne⟩
  ·rcases hk with hk|⟨i,hi,hk⟩
   ·exact Nat.lt_of_lt_of_le (ho.old k hk).1 ho.size
   obtain⟨p,hp⟩:=jb hi
   exact HP.lt (hR i p hp) k hk
  rcases hO with hO|⟨j,hj,hO⟩
  ·exact h2 i (by omega) k hk hO
  exact h3 i (l.length+j) (by omega) (by omega) (by omega) k hk hO
theorem pP.back (h:pP β R β') (hS:Sat β' l w):Sat β (l++R) w:=by
  obtain⟨hle,φ,g1,g2,g3,g4⟩:=h
  obtain⟨ho,ψ,h1,h2,h3⟩:=hS
  have hl:(l++R).length=l.length+R.length:=List.length_append
  have hin:∀ i,i < R.length->∀ k,φ i k->β'.O k:=fun i hi k hk=>by
    obtain⟨p,hp⟩:=jb hi
    exact (g1 i p hp).2 k hk
  have hk:∀ i,i < R.length->Keeps (fun k=>¬ φ i k) β'.w0 w:=fun i hi=>⟨ho.os,ho.tape,ho.output,ho.size,fun k _ hn=>(ho.old k (hin i hi k (Classical.not_not.1 hn))).2⟩
  refine⟨ho.le hle,fun i=>if i < l.length then ψ i else φ (i - l.length),fun i p hp=>?_,fun i hi k hk hO=>?_,fun i j hi hj hne k hk hk'=>?_⟩
  ·by_cases e:i < l.length
   ·rw [List.getElem?_append_left e] at hp
    simp only [e,if_true]
    exact h1 i p hp
   rw [List.getElem?_append_right (by omega)] at hp
   simp only [e,if_false]
   exact HP.st (g1 _ p hp).1 (hk _ (bw hp)) (fun k h=>fun h'=>h' h)
  ·by_cases e:i < l.length
   ·simp only [e,if_true] at hk
    exact h2 i e k hk (hle.O k hO)
   simp only [e,if_false] at hk
   exact g2 _ (by omega) k hk hO
  by_cases e1:i < l.length
  ·simp only [e1,if_true] at hk
   by_cases e2:j < l.length
   ·simp only [e2,if_true] at hk'
    exact h3 i j e1 e2 hne k hk hk'
   simp only [e2,if_false] at hk'
   exact h2 i e1 k hk (hin _ (by omega) k hk')
  simp only [e1,if_false] at hk
  by_cases e2:j < l.length
  ·simp only [e2,if_true] at hk'
   exact h2 j e2 k hk' (hin _ (by omega) k hk)
  simp only [e2,if_false] at hk'
  exact g3 _ _ (by omega) (by omega) (by omega) k hk hk'
end O9
section rules
variable {P:Program} {β β' yj:Bs} {N:dG} {ops:Array Oper} {k:Nat} {fr:Fr} {hps l R:List HP} {Q:Post} {c:Code} {e:Exit} {pk:List Nat} {f:FuncId} {args:Array Value} {pre:List HP}
end rules
end
section
open Go.RowKit
def aG (R:Nat->bW):bW where
  h F w:=∃ φ:Nat->Fp,(∀ i,(R i).h (φ i) w)/\(∀ i j,i≠j->Apart (φ i) (φ j))/\∀ k,F k↔∃ i,φ i k
  lt:=fun ⟨_,h1,_,h3⟩ k hk=>let ⟨i,hk⟩:=(h3 k).1 hk;(R i).lt (h1 i) k hk
  st:=fun ⟨φ,h1,h2,h3⟩ _ _ hk hn=>⟨φ,fun i=>(R i).st (h1 i) hk (fun k hk=>hn k ((h3 k).2 ⟨i,hk⟩)),h2,h3⟩
section MC
variable {β:Bs} {l l':List HP} {w:World} {i n k:Nat} {R R':Nat->bW} {a:bW}
theorem aG.at (k:Nat) {F:Fp} {w:World} (h:(aG R).h F w):∃ G,(R k).h G w:=by
  obtain⟨φ,h1,_⟩:=h
  exact⟨φ k,h1 k⟩
theorem Sat.FC (h:Sat β l w) (R:Nat->bW) (hR:∀ k,R k=bW.none):Sat β (l++[.abs (aG R)]) w:=Sat.new h (p:=.abs (aG R)) (F:=fun _=>False) ⟨fun _ _=>False,fun i=>by rw [hR];exact fun _ h=>h,fun _ _ _ _ h=>h.elim,fun _=>⟨fun h=>h.elim,fun ⟨_,h⟩=>h⟩⟩ (Keeps.refl _ _) (fun _ h=>h.elim)
theorem Sat.Co (h:Sat β l w) (hp:l[i]?=some (.abs (aG R))) (k:Nat):Sat β (l.set i (.abs (aG (kX R k bW.none)))++[.abs (R k)]) w:=by
  refine h.Vk hp ?_
  rintro F ⟨φ,h1,h2,h3⟩
  refine⟨fun x=>∃ i,i≠k/\φ i x,φ k,⟨fun i=>if i=k then fun _=>False else φ i,fun i=>?_,fun i j hne x hx hy=>?_,fun x=>⟨fun ⟨i,hne,hx⟩=>⟨i,by simpa [hne] using hx⟩,fun ⟨i,hx⟩=>?_⟩⟩,h1 k,fun x ⟨i,hne,hx⟩ hy=>h2 i k hne x hx hy,fun x=>⟨fun hx=>?_,fun hx=>?_⟩⟩
  ·unfold kX
   by_cases e:i=k
   ·simp only [e,if_true];exact fun _ h=>h
   simp only [e,if_false];exact h1 i
  ·by_cases e1:i=k
   ·simp [e1] at hx
   by_cases e2:j=k
   ·simp [e2] at hy
   exact h2 i j hne x (by simpa [e1] using hx) (by simpa [e2] using hy)
  ·by_cases e1:i=k
   ·simp [e1] at hx
   exact⟨i,e1,by simpa [e1] using hx⟩
  ·obtain⟨i,hx⟩:=(h3 x).1 hx
   by_cases e:i=k
   ·exact .inr (e ▸ hx)
   exact .inl ⟨i,e,hx⟩
  rcases hx with ⟨i,_,hx⟩|hx
  ·exact (h3 x).2 ⟨i,hx⟩
  exact (h3 x).2 ⟨k,hx⟩
theorem Sat.sH {j:Nat} {idx:List Nat} {q:HP} (h:Sat β l w) (hp:l[i]?=some (.abs (aG R))) (hq:l[j]?=some q) (X1:∀ F w,q.h F w->a.h F w) (hn:nodupB (i::j::idx)=true) (hl:bN l idx=some l') (k:Nat) (hR:∀ x,x≠k->R' x=R x) (ha:R' k=a):Sat β (.abs (aG R')::l') w:=by
  refine h.QN hp hq hn hl ?_
  rintro F1 F2 ⟨φ,h1,h2,h3⟩ hF hap
  refine⟨fun x=>(∃ i,i≠k/\φ i x)\/F2 x,⟨fun i=>if i=k then F2 else φ i,fun i=>?_,fun i j hne x hx hy=>?_,fun x=>⟨fun hx=>?_,fun ⟨i,hx⟩=>?_⟩⟩,fun x hx=>hx.imp (fun ⟨i,_,hx⟩=>(h3 x).2 ⟨i,hx⟩) id⟩
  ·by_cases e:i=k
   ·subst e;simp only [if_true];rw [ha];exact X1 _ _ hF
   simp only [e,if_false];rw [hR i e];exact h1 i
  ·by_cases e1:i=k
   ·by_cases e2:j=k
    ·exact hne (e1.trans e2.symm)
    simp only [e1,if_true] at hx
    simp only [e2,if_false] at hy
    exact hap x ((h3 x).2 ⟨j,hy⟩) hx
   simp only [e1,if_false] at hx
   by_cases e2:j=k
   ·simp only [e2,if_true] at hy
    exact hap x ((h3 x).2 ⟨i,hx⟩) hy
   simp only [e2,if_false] at hy
   exact h2 i j hne x hx hy
  ·rcases hx with ⟨i,hne,hx⟩|hx
   ·exact⟨i,by simpa [hne] using hx⟩
   exact⟨k,by simpa using hx⟩
  by_cases e:i=k
  ·exact .inr (by simpa [e] using hx)
  exact .inl ⟨i,e,by simpa [e] using hx⟩
end MC
end
section
open Go.RowKit Go.Maps
theorem Bx:Keyed Tryz.prog 9:=string_keyed Tryz.underlying9
theorem DU {p:ByteArray} (h:p.size<=9223372036854775807):keyOf Tryz.prog 9 (.string p)=some (.string p.data.toList):=WideMaps.keyOf_string_mk Tryz.underlying9 (by unfold maxLen;omega)
def mS (g:ByteArray->Option Value):Lit->Option Value
  | .string l=>g ⟨l.toArray⟩
  | _=>none
theorem Vl (g:ByteArray->Option Value) (p:ByteArray):mS g (.string p.data.toList)=g p:=by
  show g ⟨p.data.toList.toArray⟩=g p
  rw [Array.toArray_toList]
theorem MF (g:ByteArray->Option Value) (p:ByteArray) (v:Option Value):kD (mS g) (.string p.data.toList) v=mS (fun q=>if q=p then v else g q):=by
  funext x
  unfold kD mS
  cases x with
  | string l=>
    by_cases e:l=p.data.toList
    ·subst e
     have e2:(⟨p.data.toList.toArray⟩:ByteArray)=p:=by rw [Array.toArray_toList]
     simp [Lit.sameKey]
    have e2:¬ (⟨l.toArray⟩:ByteArray)=p:=fun h=>e (by rw [← h])
    simp [Lit.sameKey,e,e2]
  | _=>rfl
theorem RU:mS (fun _=>none)=fun _=>none:=by
  funext x
  unfold mS
  split<;>rfl
end
section
open Go.RowKit Go.Maps
def DV (b:Nat) (cs:List Value) (T:TypeId):bW where
  h F w:=(HP.blk b cs T).h F w
  lt:=fun h=>HP.lt h
  st:=fun h _ _ hk hd=>HP.st h hk hd
structure HL where
  b:Nat->Nat
  m:Nat->Nat
  dA:Nat->Option Addr
  dC:Nat->Nat
def HL.data (L:HL) (k:Nat) (A:Option Addr) (c:Nat):HL:=⟨L.b,L.m,fun i=>if i=k then A else L.dA i,fun i=>if i=k then c else L.dC i⟩
def HL.put (L:HL) (k b m:Nat) (A:Option Addr) (c:Nat):HL:=⟨fun i=>if i=k then b else L.b i,fun i=>if i=k then m else L.m i,fun i=>if i=k then A else L.dA i,fun i=>if i=k then c else L.dC i⟩
def VY (kind:Int):TypeId:=if kind=1 then 162 else if kind=3 then 166 else 169
def rX (kind:Int):TypeId:=if kind=1 then 165 else if kind=3 then 168 else 176
def eu (L:HL) (t:Th):Value:=.iface (VY t.kind) (.pointer (some ⟨L.b t.k,0,none⟩))
def Ay (L:HL):Option Nat->Value
  | none=>.pointer none
  | some d=>.pointer (some ⟨L.b d,0,none⟩)
def zM (o:aY):List Value:=[.int .i64 o.id,.int .i64 o.mode,.int .i64 o.uid,.int .i64 o.gid,.int .i64 o.sec,.int .i64 o.nano,.int .i64 o.links,.int .i64 o.opens,.bool o.gone]
def zN (L:HL) (k:Nat) (o:aY):List Value:=if o.kind=1 then [.slice (L.dA k) o.data.length (L.dC k)] else if o.kind=3 then [.string o.target] else [.map (some (L.m k)),Ay L o.up]
def iL (L:HL) (k:Nat) (o:aY):List Value:=zM o++zN L k o
def jm (L:HL) (es:fY Th):Lit->Option Value:=mS (fun p=>(aT p es).map (eu L))
def bS (O:bU) (L:HL) (k:Nat):bW:=if (obj O k).kind=0 then bW.none else DV (L.b k) (iL L k (obj O k)) (rX (obj O k).kind)
def cg (O:bU) (L:HL) (k:Nat):bW:=if (obj O k).kind=1 then aH 5 1 (L.dA k) (obj O k).data.length (L.dC k) (cG (obj O k).data) else bW.none
def cY (O:bU) (L:HL) (k:Nat):bW:=if (obj O k).kind=2 then aP Tryz.prog 9 (L.m k) (jm L (obj O k).ah) (obj O k).ah.length else bW.none
section sat
variable {β:Bs} {l:List HP} {w:World} {i b:Nat} {cs:List Value} {T:TypeId} {p p':HP}
theorem Sat.same (h:Sat β l w) (hp:l[i]?=some p) (e:∀ F w,p.h F w->p'.h F w):Sat β (l.set i p') w:=by
  obtain⟨ho,φ,h1,h2,h3⟩:=h
  have hl:(l.set i p').length=l.length:=List.length_set ..
  refine⟨ho,φ,fun j q hq=>?_,fun j hj=>h2 j (by omega),fun j k hj hk=>h3 j k (by omega) (by omega)⟩
  by_cases hji:i=j
  ·subst hji
   rw [List.getElem?_set_self (bw hp)] at hq
   cases hq
   exact e _ _ (h1 _ p hp)
  rw [List.getElem?_set_ne hji] at hq
  exact h1 j q hq
end sat
section cells
variable {O:bU} {L:HL} {k j:Nat} {v:Value}
theorem lZ (h:(obj O k).kind≠0):bS O L k=DV (L.b k) (iL L k (obj O k)) (rX (obj O k).kind):=if_neg h
theorem eV (hk:(obj O k).kind≠0) (hv:(iL L k (obj O k))[j]?=some v):∀ F w,(aG (bS O L)).h F w->w.cell? ⟨L.b k,j,none⟩=some v:=by
  intro F w h
  obtain⟨G,g⟩:=aG.at k h
  rw [lZ hk] at g
  obtain⟨g,_⟩:=g
  exact (ia g rfl rfl hv).1
theorem tE (h:(obj O k).kind=1):cg O L k=aH 5 1 (L.dA k) (obj O k).data.length (L.dC k) (cG (obj O k).data):=if_pos h
theorem oW (h:(obj O k).kind=2):cY O L k=aP Tryz.prog 9 (L.m k) (jm L (obj O k).ah) (obj O k).ah.length:=if_pos h
theorem sS (es:fY Th) (p:ByteArray):jm L es (.string p.data.toList)=(aT p es).map (eu L):=Vl _ _
theorem Pa {es:fY Th} {p:ByteArray} {t:Th} (hn:aT p es=none):kD (jm L es) (.string p.data.toList) (some (eu L t))=jm L (iA p t es):=by
  unfold jm
  rw [MF]
  congr 1
  funext q
  rw [yx hn]
  by_cases h:q=p
  ·rw [if_pos h,if_pos h];rfl
  rw [if_neg h,if_neg h]
theorem Pb {es:fY Th} {p:ByteArray}:kD (jm L es) (.string p.data.toList) none=jm L (iB p es):=by
  unfold jm
  rw [MF]
  congr 1
  funext q
  rw [rA]
  by_cases h:q=p
  ·rw [if_pos h,if_pos h];rfl
  rw [if_neg h,if_neg h]
theorem Pc:jm L []=fun _=>none:=RU
end cells
section MC
variable {O:bU} {L:HL} {k:Nat} {f:aY->aY}
theorem zO:bS (aN O k f) L k=if (f (obj O k)).kind=0 then bW.none else DV (L.b k) (iL L k (f (obj O k))) (rX (f (obj O k)).kind):=by
  unfold bS;rw [cA]
theorem Cp {x:Nat} (h:x≠k):bS (aN O k f) L x=bS O L x:=by unfold bS;rw [ct h]
theorem zP (h:(f (obj O k)).data=(obj O k).data) (h2:(f (obj O k)).kind=(obj O k).kind):cg (aN O k f) L=cg O L:=by
  funext x
  unfold cg
  by_cases e:x=k
  ·subst e;rw [cA,h,h2]
  rw [ct e]
theorem zQ (h:(f (obj O k)).ah=(obj O k).ah) (h2:(f (obj O k)).kind=(obj O k).kind):cY (aN O k f) L=cY O L:=by
  funext x
  unfold cY
  by_cases e:x=k
  ·subst e;rw [cA,h,h2]
  rw [ct e]
theorem Cq {x:Nat} (h:x≠k):cY (aN O k f) L x=cY O L x:=by unfold cY;rw [ct h]
theorem Cr {x:Nat} (h:x≠k):cg (aN O k f) L x=cg O L x:=by unfold cg;rw [ct h]
end MC
end
section
open Go.RowKit Go.Maps
section kinds
variable {O:bU} {L:HL} {k j:Nat} {f:aY->aY} {o:aY}
theorem oq (hf:∀ o,(f o).kind=o.kind):(obj (aN O j f) k).kind=(obj O k).kind:=by
  rw [kP];split
  ·exact hf _
  rfl
theorem dH {α:Type} {g:aY->α} (hf:∀ o,g (f o)=g o):g (obj (aN O j f) k)=g (obj O k):=by
  rw [kP];split
  ·exact hf _
  rfl
theorem rB (h:o.kind=1):iL L k o=[.int .i64 o.id,.int .i64 o.mode,.int .i64 o.uid,.int .i64 o.gid,.int .i64 o.sec,.int .i64 o.nano,.int .i64 o.links,.int .i64 o.opens,.bool o.gone,.slice (L.dA k) o.data.length (L.dC k)]:=by
  unfold iL zN;rw [if_pos h];rfl
theorem yB (h:o.kind=3):iL L k o=[.int .i64 o.id,.int .i64 o.mode,.int .i64 o.uid,.int .i64 o.gid,.int .i64 o.sec,.int .i64 o.nano,.int .i64 o.links,.int .i64 o.opens,.bool o.gone,.string o.target]:=by
  unfold iL zN;rw [if_neg (by rw [h];decide),if_pos h];rfl
theorem ou (h:o.kind=2):iL L k o=[.int .i64 o.id,.int .i64 o.mode,.int .i64 o.uid,.int .i64 o.gid,.int .i64 o.sec,.int .i64 o.nano,.int .i64 o.links,.int .i64 o.opens,.bool o.gone,.map (some (L.m k)),Ay L o.up]:=by
  unfold iL zN;rw [if_neg (by rw [h];decide),if_neg (by rw [h];decide)];rfl
theorem Gs {es:aY->fY Th}:bS (aN O k (fun o=>{ o with ah:=es o })) L=bS O L:=by
  funext x
  unfold bS
  by_cases e:x=k
  ·subst e;rw [cA];rfl
  rw [ct e]
def pQ (O:bU) (d:Nat) (name:ByteArray) (t:Th):bU:=
  let O1:=aN O d (fun o=>{ o with ah:=iA name t o.ah })
  let O2:=aN O1 t.k (fun o=>{ o with links:=o.links+1 })
  if t.kind=2 then aN O2 t.k (fun o=>{ o with up:=some d }) else O2
theorem Bz {α:Type} {g:aY->α} {d:Nat} {name:ByteArray} {t:Th} (h1:∀ o es,g { o with ah:=es }=g o) (h2:∀ o l,g { o with links:=l }=g o) (h3:∀ o u,g { o with up:=u }=g o):g (obj (pQ O d name t) k)=g (obj O k):=by
  unfold pQ
  simp only
  split
  ·rw [dH (fun o=>h3 o _),dH (fun o=>h2 o _),dH (fun o=>h1 o _)]
  rw [dH (fun o=>h2 o _),dH (fun o=>h1 o _)]
theorem yC {d:Nat} {name:ByteArray} {t:Th}:(obj (pQ O d name t) k).kind=(obj O k).kind:=Bz (g:=aY.kind) (fun _ _=>rfl) (fun _ _=>rfl) (fun _ _=>rfl)
structure FM where
  cN:Int
  cB:Int
  cH:Int
  cS:Int
  cZ:Int
  last:Int
  ah:Int
  used:Int
def rC (X:FM) (O:bU) (d:Nat):bU:=aN O d (fun o=>{ o with sec:=X.cS,nano:=X.cZ })
def dX (X:FM) (O:bU) (d:Nat) (name:ByteArray) (t:Th):bU:=rC X (pQ O d name t) d
def aR (X:FM) (O:bU) (d:Nat) (name:ByteArray) (t:Th):bU:=aN (rC X (aN O d (fun o=>{ o with ah:=iB name o.ah })) d) t.k (fun o=>{ o with links:=o.links - 1 })
theorem cP {X:FM} {d:Nat} {name:ByteArray} {t:Th}:(obj (aR X O d name t) k).kind=(obj O k).kind:=by
  unfold aR rC
  exact (oq (f:=fun o=>{ o with links:=o.links - 1 }) (fun _=>rfl)).trans ((oq (f:=fun o=>{ o with sec:=X.cS,nano:=X.cZ }) (fun _=>rfl)).trans (oq (f:=fun o=>{ o with ah:=iB name o.ah }) (fun _=>rfl)))
theorem I6 {X:FM} {d:Nat} {name:ByteArray} {t:Th}:(obj (dX X O d name t) k).kind=(obj O k).kind:=by
  unfold dX rC
  exact (oq (f:=fun o=>{ o with sec:=X.cS,nano:=X.cZ }) (fun _=>rfl)).trans yC
end kinds
section sat
variable {β:Bs} {l l':List HP} {w:World} {i j k:Nat} {O:bU} {L:HL} {f:aY->aY} {cs:List Value} {T:TypeId} {idx:List Nat}
theorem Sat.Tm (h:Sat β l w) (hp:l[i]?=some (.abs (aG (bS O L)))) (h0:(obj O k).kind≠0) (hc:iL L k (obj O k)=cs) (hT:rX (obj O k).kind=T):Sat β (l.set i (.abs (aG (kX (bS O L) k bW.none)))++[.blk (L.b k) cs T]) w:=by
  have h1:=h.Co hp k
  have hlen:(l.set i (HP.abs (aG (kX (bS O L) k bW.none)))).length=l.length:=List.length_set ..
  have h2:=Sat.same (i:=l.length) (p:=.abs (bS O L k)) (p':=.blk (L.b k) cs T) h1 (by rw [List.getElem?_append_right (by omega),hlen,Nat.sub_self];rfl) (fun F w h=>by
    have h3:(bS O L k).h F w:=h
    rw [lZ h0] at h3
    have h3:(DV (L.b k) (iL L k (obj O k)) (rX (obj O k).kind)).h F w:=h3
    rw [hc,hT] at h3
    exact h3)
  have e:∀ (a:List HP) (x y:HP),(a++[x]).set a.length y=a++[y]:=fun a x y=>by simp
  have h4:=e (l.set i (HP.abs (aG (kX (bS O L) k bW.none)))) (.abs (bS O L k)) (.blk (L.b k) cs T)
  rw [hlen] at h4
  rw [h4] at h2
  exact h2
theorem zR {R:Nat->bW} {a:bW} {x:Nat} (h:x≠k):kX R k a x=R x:=if_neg h
theorem Sat.Tn (h:Sat β l w) (hp:l[i]?=some (.abs (aG (cY O L)))) (hd:(obj O k).kind=2):Sat β (l.set i (.abs (aG (kX (cY O L) k bW.none)))++[.abs (aP Tryz.prog 9 (L.m k) (jm L (obj O k).ah) (obj O k).ah.length)]) w:=by
  have h1:=h.Co hp k
  rw [oW hd] at h1
  exact h1
theorem Sat.Tp (h:Sat β l w) (hp:l[i]?=some (.abs (aG (kX (cY O L) k bW.none)))) (hq:l[j]?=some (.abs (aP Tryz.prog 9 (L.m k) (jm L (obj O k).ah) (obj O k).ah.length))) (hd:nodupB (i::j::idx)=true) (hl:bN l idx=some l') (h2:(obj O k).kind=2):Sat β (.abs (aG (cY O L))::l') w:=
  h.sH hp hq (fun _ _ h=>h) hd hl k (fun _ hx=>(zR hx).symm) (oW h2)
theorem Sat.MG (h:Sat β l w) (hp:l[i]?=some (.abs (aG (cg O L)))) (hd:(obj O k).kind=1):Sat β (l.set i (.abs (aG (kX (cg O L) k bW.none)))++[.abs (aH 5 1 (L.dA k) (obj O k).data.length (L.dC k) (cG (obj O k).data))]) w:=by
  have h1:=h.Co hp k
  rw [tE hd] at h1
  exact h1
end sat
end
section
open Go.RowKit
theorem fN.wide {ns:List aI} {b b':Nat} (h:fN ns b) (hb:b<=b'):fN ns b':=⟨Nat.le_trans h.len hb,fun i hi=>by
  have:=h.node i hi
  exact⟨this.ids,Nat.le_trans this.data hb,Nat.le_trans this.target hb,Nat.le_trans this.ah hb,fun j hj=>⟨(this.ent j hj).id,Nat.le_trans (this.ent j hj).name hb⟩⟩⟩
section gb
variable {ns:List aI} (h:fN ns 1048576)
include h
theorem uw:ns.length<=1048576:=by have:=h.len;omega
theorem zS:∀ i,i < ns.length->(nd ns i).data.length<=1048576/\(nd ns i).ah.length<=1048576:=fun i hi=>by
  have h1:=(h.node i hi).data
  have h2:=(h.node i hi).ah
  omega
theorem MH:∀ i,i < ns.length->∀ j,j < (nd ns i).ah.length->-9223372036854775808<=(ent ns i j).id/\(ent ns i j).id<=9223372036854775807:=fun i hi j hj=>((h.node i hi).ent j hj).id
theorem MI:∀ i,i < ns.length->∀ j,j < (nd ns i).ah.length->(ent ns i j).name.size<=1048576:=fun i hi j hj=>by
  have h1:=((h.node i hi).ent j hj).name
  unfold ent
  omega
end gb
structure Xa (X:FM):Prop where
  cN:mF X.cN
  cB:mF X.cB
  cH:mF X.cH
  cS:mF X.cS
  cZ:mF X.cZ
end
end Go.Proofs.YtiehgnlnofhbaaaGreatDoor
section
namespace Go.Proofs
open Go.Shelf
def Tryz.keysI_ren:Go.Shelf.Ren:=⟨fun|7=>57|10=>79|n=>n,fun|23=>151|26=>3|3=>156|28=>113|0=>0|27=>112|33=>178|4=>4|n=>n,fun|n=>n⟩
theorem Tryz.keysI:Go.Proofs.SlLaysZI.n7 Tryz.prog Tryz.keysI_ren:={
  mixed:=by kernel_rfl
  f7:=⟨Tryz.f57.name,by decide,Tryz.func57.trans (congrArg some (by kernel_rfl))⟩
  f10:=⟨Tryz.f79.name,by decide,Tryz.func79.trans (congrArg some (by kernel_rfl))⟩
  t0:=Tryz.underlying0
  a0:=Tryz.isAgg0
  z0:=Tryz.sizeOf0
  v0:=Tryz.zeroValue0
  t4:=Tryz.underlying4
  a4:=Tryz.isAgg4
  z4:=Tryz.sizeOf4
  v4:=Tryz.zeroValue4
  t23:=Tryz.underlying151
  a23:=Tryz.isAgg151
  z23:=Tryz.sizeOf151
  v23:=Tryz.zeroValue151
  t26:=Tryz.underlying3
  a26:=Tryz.isAgg3
  z26:=Tryz.sizeOf3
  v26:=Tryz.zeroValue3
  t27:=Tryz.underlying112
  a27:=Tryz.isAgg112
  z27:=Tryz.sizeOf112
  v27:=Tryz.zeroValue112
  t28:=Tryz.underlying113
  a28:=Tryz.isAgg113
  z28:=Tryz.sizeOf113
  v28:=Tryz.zeroValue113
  t33:=Tryz.underlying178
  a33:=Tryz.isAgg178
  z33:=Tryz.sizeOf178
  v33:=Tryz.zeroValue178 }
def Tryz.sortedI_ren:Go.Shelf.Ren:=⟨fun|6=>37|8=>61|9=>62|11=>83|13=>85|12=>84|23=>103|24=>104|14=>94|15=>95|16=>96|17=>97|18=>98|19=>99|20=>100|21=>101|22=>102|25=>116|26=>117|27=>118|28=>119|29=>120|30=>121|31=>128|n=>n,fun|26=>3|28=>113|24=>69|0=>0|3=>3|37=>193|48=>235|50=>237|4=>4|40=>229|39=>228|45=>121|5=>5|9=>9|51=>245|55=>249|57=>253|58=>254|33=>178|n=>n,fun|n=>n⟩
theorem Tryz.sortedI:Go.Proofs.SlLaysZI.n6 Tryz.prog Tryz.sortedI_ren:={
  mixed:=by kernel_rfl
  f6:=⟨Tryz.f37.name,by decide,Tryz.func37.trans (congrArg some (by kernel_rfl))⟩
  f8:=⟨Tryz.f61.name,by decide,Tryz.func61.trans (congrArg some (by kernel_rfl))⟩
  f11:=⟨Tryz.f83.name,by decide,Tryz.func83.trans (congrArg some (by kernel_rfl))⟩
  t0:=Tryz.underlying0
  a0:=Tryz.isAgg0
  z0:=Tryz.sizeOf0
  v0:=Tryz.zeroValue0
  t24:=Tryz.underlying69
  a24:=Tryz.isAgg69
  z24:=Tryz.sizeOf69
  v24:=Tryz.zeroValue69
  t26:=Tryz.underlying3
  a26:=Tryz.isAgg3
  z26:=Tryz.sizeOf3
  v26:=Tryz.zeroValue3
  t28:=Tryz.underlying113
  a28:=Tryz.isAgg113
  z28:=Tryz.sizeOf113
  v28:=Tryz.zeroValue113
  i26:=by kernel_rfl }
def Tryz.sortI_ren:Go.Shelf.Ren:=⟨fun|5=>62|8=>85|7=>84|19=>103|20=>104|10=>94|11=>95|12=>96|13=>97|14=>98|15=>99|16=>100|17=>101|18=>102|30=>116|31=>117|32=>118|33=>119|34=>120|35=>121|40=>128|n=>n,fun|23=>69|25=>3|3=>3|32=>193|22=>69|0=>0|44=>235|46=>237|4=>4|36=>229|35=>228|41=>121|5=>5|9=>9|53=>245|57=>249|63=>253|64=>254|n=>n,fun|n=>n⟩
theorem Tryz.sortI:Go.Proofs.SlLaysM.n5 Tryz.prog Tryz.sortI_ren:={
  mixed:=by kernel_rfl
  f5:=⟨Tryz.f62.name,by decide,Tryz.func62.trans (congrArg some (by kernel_rfl))⟩
  f7:=⟨Tryz.f84.name,by decide,Tryz.func84.trans (congrArg some (by kernel_rfl))⟩
  f8:=Tryz.func85.trans (congrArg some (by kernel_rfl))
  f10:=⟨Tryz.f94.name,by decide,Tryz.func94.trans (congrArg some (by kernel_rfl))⟩
  f11:=⟨Tryz.f95.name,by decide,Tryz.func95.trans (congrArg some (by kernel_rfl))⟩
  f12:=⟨Tryz.f96.name,by decide,Tryz.func96.trans (congrArg some (by kernel_rfl))⟩
  f13:=⟨Tryz.f97.name,by decide,Tryz.func97.trans (congrArg some (by kernel_rfl))⟩
  f14:=⟨Tryz.f98.name,by decide,Tryz.func98.trans (congrArg some (by kernel_rfl))⟩
  f15:=⟨Tryz.f99.name,by decide,Tryz.func99.trans (congrArg some (by kernel_rfl))⟩
  f16:=⟨Tryz.f100.name,by decide,Tryz.func100.trans (congrArg some (by kernel_rfl))⟩
  f17:=⟨Tryz.f101.name,by decide,Tryz.func101.trans (congrArg some (by kernel_rfl))⟩
  f18:=⟨Tryz.f102.name,by decide,Tryz.func102.trans (congrArg some (by kernel_rfl))⟩
  f19:=Tryz.func103.trans (congrArg some (by kernel_rfl))
  f20:=Tryz.func104.trans (congrArg some (by kernel_rfl))
  f30:=⟨Tryz.f116.name,by decide,Tryz.func116.trans (congrArg some (by kernel_rfl))⟩
  f31:=Tryz.func117.trans (congrArg some (by kernel_rfl))
  f32:=Tryz.func118.trans (congrArg some (by kernel_rfl))
  f33:=⟨Tryz.f119.name,by decide,Tryz.func119.trans (congrArg some (by kernel_rfl))⟩
  f34:=⟨Tryz.f120.name,by decide,Tryz.func120.trans (congrArg some (by kernel_rfl))⟩
  f35:=⟨Tryz.f121.name,by decide,Tryz.func121.trans (congrArg some (by kernel_rfl))⟩
  f40:=⟨Tryz.f128.name,by decide,Tryz.func128.trans (congrArg some (by kernel_rfl))⟩
  t0:=Tryz.underlying0
  a0:=Tryz.isAgg0
  z0:=Tryz.sizeOf0
  v0:=Tryz.zeroValue0
  t3:=Tryz.underlying3
  a3:=Tryz.isAgg3
  z3:=Tryz.sizeOf3
  v3:=Tryz.zeroValue3
  t4:=Tryz.underlying4
  a4:=Tryz.isAgg4
  z4:=Tryz.sizeOf4
  v4:=Tryz.zeroValue4
  t5:=Tryz.underlying5
  a5:=Tryz.isAgg5
  z5:=Tryz.sizeOf5
  v5:=Tryz.zeroValue5
  t9:=Tryz.underlying9
  a9:=Tryz.isAgg9
  z9:=Tryz.sizeOf9
  v9:=Tryz.zeroValue9
  t22:=Tryz.underlying69
  a22:=Tryz.isAgg69
  z22:=Tryz.sizeOf69
  v22:=Tryz.zeroValue69
  t23:=Tryz.underlying69
  a23:=Tryz.isAgg69
  z23:=Tryz.sizeOf69
  v23:=Tryz.zeroValue69
  t25:=Tryz.underlying3
  a25:=Tryz.isAgg3
  z25:=Tryz.sizeOf3
  v25:=Tryz.zeroValue3
  t32:=Tryz.underlying193
  a32:=Tryz.isAgg193
  z32:=Tryz.sizeOf193
  v32:=Tryz.zeroValue193
  t35:=Tryz.underlying228
  a35:=Tryz.isAgg228
  z35:=Tryz.sizeOf228
  v35:=Tryz.zeroValue228
  t36:=Tryz.underlying229
  a36:=Tryz.isAgg229
  z36:=Tryz.sizeOf229
  v36:=Tryz.zeroValue229
  t41:=Tryz.underlying121
  a41:=Tryz.isAgg121
  z41:=Tryz.sizeOf121
  v41:=Tryz.zeroValue121
  t44:=Tryz.underlying235
  a44:=Tryz.isAgg235
  z44:=Tryz.sizeOf235
  v44:=Tryz.zeroValue235
  t46:=Tryz.underlying237
  a46:=Tryz.isAgg237
  z46:=Tryz.sizeOf237
  v46:=Tryz.zeroValue237
  t53:=Tryz.underlying245
  a53:=Tryz.isAgg245
  z53:=Tryz.sizeOf245
  v53:=Tryz.zeroValue245
  t57:=Tryz.underlying249
  a57:=Tryz.isAgg249
  z57:=Tryz.sizeOf249
  v57:=Tryz.zeroValue249
  t63:=Tryz.underlying253
  a63:=Tryz.isAgg253
  z63:=Tryz.sizeOf253
  v63:=Tryz.zeroValue253
  t64:=Tryz.underlying254
  a64:=Tryz.isAgg254
  z64:=Tryz.sizeOf254
  v64:=Tryz.zeroValue254 }
end Go.Proofs
end
namespace Go.Proofs.YtiehgnlnofhbaaaGreatDoor
section
open Go.RowKit
theorem Vm (a:Addr) (v:Value) (w:World) (h:w.cell? a=some v):(Go.method 465 316 (.pointer (some a)) "Len").run Tryz.prog w=.ok (265,v) w:=by
  have e:(Go.method 465 316 (.pointer (some a)) "Len").run Tryz.prog w=((loadVar 210 a) >>= fun v=>pure (265,v):Sem (FuncId×Value)).run Tryz.prog w:=by kernel_rfl
  rw [e]
  simp [loadVar,isAgg,underlying,Tryz.underlying210,h,Result.andThen]
theorem Tq (a:Addr) (v:Value) (w:World) (h:w.cell? a=some v):(Go.method 465 316 (.pointer (some a)) "Less").run Tryz.prog w=.ok (266,v) w:=by
  have e:(Go.method 465 316 (.pointer (some a)) "Less").run Tryz.prog w=((loadVar 210 a) >>= fun v=>pure (266,v):Sem (FuncId×Value)).run Tryz.prog w:=by kernel_rfl
  rw [e]
  simp [loadVar,isAgg,underlying,Tryz.underlying210,h,Result.andThen]
theorem Tr (a:Addr) (v:Value) (w:World) (h:w.cell? a=some v):(Go.method 465 316 (.pointer (some a)) "Swap").run Tryz.prog w=.ok (267,v) w:=by
  have e:(Go.method 465 316 (.pointer (some a)) "Swap").run Tryz.prog w=((loadVar 210 a) >>= fun v=>pure (267,v):Sem (FuncId×Value)).run Tryz.prog w:=by kernel_rfl
  rw [e]
  simp [loadVar,isAgg,underlying,Tryz.underlying210,h,Result.andThen]
theorem Ts (a:Addr) (w:World):(Go.method 465 316 (.pointer (some a)) "Push").run Tryz.prog w=.ok (269,.pointer (some a)) w:=by kernel_rfl
theorem Vn (a:Addr) (w:World):(Go.method 465 316 (.pointer (some a)) "Pop").run Tryz.prog w=.ok (268,.pointer (some a)) w:=by kernel_rfl
theorem QO (a:Addr) (w:World):(Go.nilAhead 465 316 (.pointer (some a)) "Len").run Tryz.prog w=.ok (some false) w:=by kernel_rfl
theorem MJ (a:Addr) (w:World):(Go.nilAhead 465 316 (.pointer (some a)) "Less").run Tryz.prog w=.ok (some false) w:=by kernel_rfl
theorem Gt (a:Addr) (w:World):(Go.nilAhead 465 316 (.pointer (some a)) "Swap").run Tryz.prog w=.ok (some false) w:=by kernel_rfl
theorem Tt (a:Addr) (w:World):(Go.nilAhead 465 316 (.pointer (some a)) "Push").run Tryz.prog w=.ok (some false) w:=by kernel_rfl
theorem Vo (a:Addr) (w:World):(Go.nilAhead 465 316 (.pointer (some a)) "Pop").run Tryz.prog w=.ok (some false) w:=by kernel_rfl
theorem Gu (A:Option Addr) (n c:Nat) (w:World) :
    Calls Tryz.prog 265 #[.slice A n c] w fun e w'=>e=.returned (.int .i64 n)/\w'=w:=by
  go_enter Tryz.func265,Tryz.ntmps265
  go_wp2
  go_ret
  exact⟨rfl,rfl⟩
theorem MK (g n c i j:Nat) (x y:Int) (w:World) (hi:i < n) (hj:j < n) (ci:w.cell? ⟨g,i,none⟩=some (.int .i64 x)) (cj:w.cell? ⟨g,j,none⟩=some (.int .i64 y)) :
    Calls Tryz.prog 266 #[.slice (some ⟨g,0,none⟩) n c,.int .i64 i,.int .i64 j] w fun e w'=>e=.returned (.bool (decide (x < y)))/\∃ m,w'=w.drewN m:=by
  have hi':(i:Int) < (n:Int):=by omega
  have hj':(j:Int) < (n:Int):=by omega
  go_enter Tryz.func266,Tryz.ntmps266
  go_wp2_with fail
  go_quiet (fail)
  go_wp2_with fail
  go_ret
  exact⟨rfl,_,rfl⟩
theorem ML (g n c i j:Nat) (x y:Int) (w:World) (hi:i < n) (hj:j < n) (hij:i≠j) (ci:w.cell? ⟨g,i,none⟩=some (.int .i64 x)) (cj:w.cell? ⟨g,j,none⟩=some (.int .i64 y))
    (fi:w.frozen? ⟨g,i,none⟩=false) (fj:w.frozen? ⟨g,j,none⟩=false) :
    Calls Tryz.prog 267 #[.slice (some ⟨g,0,none⟩) n c,.int .i64 i,.int .i64 j] w fun e w'=>e=.returned (.tuple #[])/\∃ m,w'=((w.setCell ⟨g,i,none⟩ (.int .i64 y)).setCell ⟨g,j,none⟩ (.int .i64 x)).drewN m:=by
  have hi':(i:Int) < (n:Int):=by omega
  have hj':(j:Int) < (n:Int):=by omega
  go_enter Tryz.func267,Tryz.ntmps267
  go_wp2_with fail
  go_region
  go_end0
  exact⟨rfl,1,rfl⟩
theorem Pf:(Tryz.prog.info? 3).map (fun i=>(i.zero,i.size,i.bytes))=some (some (.int .i64 0),1,8):=by kernel_rfl
theorem Pg (t o g n c:Nat) (x:Int) (w:World) (hc:n+1<=c) (ht:w.cell? ⟨t,o,none⟩=some (.slice (some ⟨g,0,none⟩) (n+1) c)) (hf:w.frozen? ⟨t,o,none⟩=false)
    (hx:w.cell? ⟨g,n,none⟩=some (.int .i64 x)) (hm:n+1<=1048576) :
    Calls Tryz.prog 268 #[.pointer (some ⟨t,o,none⟩)] w fun e w'=>e=.returned (.iface 3 (.int .i64 x))/\w'=w.setCell ⟨t,o,none⟩ (.slice (some ⟨g,0,none⟩) n c):=by
  go_enter Tryz.func268,Tryz.ntmps268
  go_wp2_with fail
  go_ret
  exact⟨rfl,rfl⟩
theorem KH (x:Int) (w:World):(Instr.typeAssert (.iface 3 (.int .i64 x)) 20 3 false).run Tryz.prog w=.ok (.int .i64 x) w:=by kernel_rfl
theorem I7 (x:Int):∀ u∈[Value.int .i64 x],u.oneCell'=true:=by intro u hu;simp at hu;subst hu;rfl
theorem MN {t o:Nat} {v:Value} {w w1:World} {ob:Obj} (ht:w.cell? ⟨t,o,none⟩=some v) (hlt:t < w.heap.size) {row:Option Nat} (hne:row≠some t) (hg:(w.alloc ob).drew.grownBy w1 row):w1.cell? ⟨t,o,none⟩=some v:=by
  rw [hg.cell_far ⟨t,o,none⟩ (by show t < (w.alloc ob).heap.size;simp;omega) (fun e=>hne e.symm)]
  exact (World.cell?_alloc_lt w ob ⟨t,o,none⟩ hlt).trans ht
theorem MO {t o:Nat} {w w1:World} {ob:Obj} (hf:w.frozen? ⟨t,o,none⟩=false) (hlt:t < w.heap.size) {row:Option Nat} (hne:row≠some t) (hg:(w.alloc ob).drew.grownBy w1 row):w1.frozen? ⟨t,o,none⟩=false:=by
  rw [hg.frozen_far ⟨t,o,none⟩ (by show t < (w.alloc ob).heap.size;simp;omega) (fun e=>hne e.symm)]
  exact (World.frozen?_alloc_old w ob ⟨t,o,none⟩ (Nat.ne_of_lt hlt)).trans hf
theorem MP (t o base n:Nat) (v:Value) (xs:List Value) (x:Int) (w:World) (ht:w.cell? ⟨t,o,none⟩=some v) (hf:w.frozen? ⟨t,o,none⟩=false)
    (hown:w.ownsRow base 3 1 v n xs) (hne:v.ownBlock≠some t) (hm:n+1<=1048576) (hbase:base<=w.heap.size) :
    Calls Tryz.prog 269 #[.pointer (some ⟨t,o,none⟩),.iface 3 (.int .i64 x)] w fun e w'=>e=.returned (.tuple #[]) ∧
      ∃ g cap w1,w1.ownsRow base 3 1 (.slice (some ⟨g,0,none⟩) (n+1) cap) (n+1) (xs++[.int .i64 x])/\w.grownBy w1 v.ownBlock/\(v.ownBlock=some g\/w.heap.size<=g) ∧
        w'=w1.setCell ⟨t,o,none⟩ (.slice (some ⟨g,0,none⟩) (n+1) cap):=by
  obtain⟨i0,hi0,hz0,hz1,hz2⟩:=info_parts Pf
  have hlt:t < w.heap.size:=by
    rcases Nat.lt_or_ge t w.heap.size with h|h
    ·exact h
    simp [World.cell?,Array.getElem?_eq_none h] at ht
  have qi:=KH
  go_enter Tryz.func269,Tryz.ntmps269
  go_wp2_with fail
  go_region_law (refine step_append_lies _ rfl (.tmp 7) (.tmp 10) 210 rfl base 3 i0 (.int .i64 0) 1 8 Tryz.underlying210 hi0 hz0 hz1 hz2 rfl (by decide) v n xs (by simp [Act.eval]) (hown.alloc _) ⟨w.heap.size,0,none⟩ 1 1 [.int .i64 x] (by simp [Act.eval]) rfl (cell_one_new _ _ _) (I7 x) (by decide) (by unfold maxLen;omega) (by omega) (by simp;omega) (w.heap.size+1) (by simp) ?_;intro g cap w1 hown1 hg1 KI Y8;have c1:w1.cell? ⟨t,o,none⟩=some v:=MN ht hlt hne hg1;have f1:w1.frozen? ⟨t,o,none⟩=false:=MO hf hlt hne hg1)
  all_goals
    go_end0
    refine⟨rfl,g,cap,w1,hown1,(World.grownBy_alloc w (.cells #[.int .i64 x] 3) _).trans ⟨hg1.os,hg1.tape,hg1.output,hg1.size,hg1.block⟩,?_,rfl⟩
    rcases KI with h|h
    ·exact .inl h
    exact .inr (by omega)
end
end Go.Proofs.YtiehgnlnofhbaaaGreatDoor
section
namespace Go.Proofs.YtiehgnlnofhbaaaGreatDoor.bq
def at_ (l:List Int) (i:Nat):Int:=l.getD i 0
def swp (l:List Int) (i j:Nat):List Int:=(l.set i (at_ l j)).set j (at_ l i)
def Hp (n:Nat) (l:List Int):Prop:=∀ i,0 < i->i < n->at_ l ((i - 1) / 2)<=at_ l i
def yD (l:List Int):Prop:=∀ a b,a < l.length->b < l.length->at_ l a=at_ l b->a=b
def DW (l:List Int) (j:Nat):Prop:=
  (∀ i,0 < i->i < l.length->i≠j->at_ l ((i - 1) / 2)<=at_ l i)/\(∀ i,0 < i->i < l.length->(i - 1) / 2=j->0 < j->at_ l ((j - 1) / 2)<=at_ l i)
def vH (n:Nat) (l:List Int) (i:Nat):Prop:=
  (∀ k,0 < k->k < n->(k - 1) / 2≠i->at_ l ((k - 1) / 2)<=at_ l k)/\(∀ k,0 < k->k < n->(k - 1) / 2=i->0 < i->at_ l ((i - 1) / 2)<=at_ l k)
structure Same (l l':List Int):Prop where
  len:l'.length=l.length
  mem:∀ x,x∈l'↔x∈l
  inj:yD l->yD l'
theorem tF {l:List Int} {x:Int}:x∈l↔∃ k,k < l.length/\at_ l k=x:=by
  rw [List.mem_iff_getElem]
  constructor
  ·rintro⟨i,h,e⟩
   exact⟨i,h,by simp [at_,List.getD_eq_getElem?_getD,h,e]⟩
  rintro⟨i,h,e⟩
  exact⟨i,h,by simpa [at_,List.getD_eq_getElem?_getD,h] using e⟩
theorem kY (l:List Int) (i j:Nat):(swp l i j).length=l.length:=by simp [swp]
def sw (i j k:Nat):Nat:=if k=j then i else if k=i then j else k
theorem jL {l:List Int} {i j:Nat} (hi:i < l.length) (hj:j < l.length) (k:Nat):at_ (swp l i j) k=at_ l (sw i j k):=by
  unfold swp at_ sw
  simp only [List.getD_eq_getElem?_getD,List.getElem?_set,List.length_set]
  by_cases h1:j=k
  ·subst h1;simp [hj]
  by_cases h2:i=k
  ·subst h2;simp [h1,hi,Ne.symm h1]
  simp [h1,h2,Ne.symm h1,Ne.symm h2]
theorem KJ (i j k:Nat):sw i j (sw i j k)=k:=by unfold sw;(repeat' split)<;>omega
theorem FD {i j k n:Nat} (hi:i < n) (hj:j < n) (hk:k < n):sw i j k < n:=by unfold sw;(repeat' split)<;>omega
theorem Same.refl (l:List Int):Same l l:=⟨rfl,fun _=>Iff.rfl,fun h=>h⟩
theorem Same.trans {l l' l'':List Int} (h:Same l l') (k:Same l' l''):Same l l'':=⟨k.len.trans h.len,fun x=>(k.mem x).trans (h.mem x),fun i=>k.inj (h.inj i)⟩
theorem Same.swp {l:List Int} {i j:Nat} (hi:i < l.length) (hj:j < l.length):Same l (swp l i j):=by
  refine⟨kY l i j,fun x=>?_,fun inj a b ha hb e=>?_⟩
  ·rw [tF,tF,kY]
   constructor
   ·rintro⟨k,hk,e⟩
    exact⟨sw i j k,FD hi hj hk,by rw [← jL hi hj];exact e⟩
   rintro⟨k,hk,e⟩
   exact⟨sw i j k,FD hi hj hk,by rw [jL hi hj,KJ];exact e⟩
  rw [kY] at ha hb
  rw [jL hi hj,jL hi hj] at e
  have:=inj _ _ (FD hi hj ha) (FD hi hj hb) e
  rw [← KJ i j a,this,KJ]
theorem MQ {l:List Int} {j:Nat} (h:DW l j) (he:j=0\/at_ l ((j - 1) / 2)<=at_ l j):Hp l.length l:=by
  intro i h0 hi
  by_cases e:i=j
  ·subst e
   rcases he with he|he
   ·omega
   exact he
  exact h.1 i h0 hi e
theorem RV {l:List Int} {j:Nat} (h:DW l j) (h0:0 < j) (hj:j < l.length) (hlt:at_ l j < at_ l ((j - 1) / 2)):DW (swp l ((j - 1) / 2) j) ((j - 1) / 2):=by
  have hp:(j - 1) / 2 < l.length:=by omega
  have hne:(j - 1) / 2≠j:=by omega
  refine⟨fun i i0 il VZ=>?_,fun i i0 il ip p0=>?_⟩
  ·rw [kY] at il
   rw [jL hp hj,jL hp hj]
   by_cases e1:i=j
   ·subst e1
    rw [show sw ((i - 1) / 2) i ((i - 1) / 2)=i by unfold sw;rw [if_neg hne,if_pos rfl],show sw ((i - 1) / 2) i i=(i - 1) / 2 by unfold sw;rw [if_pos rfl]]
    omega
   rw [show sw ((j - 1) / 2) j i=i by unfold sw;rw [if_neg e1,if_neg VZ]]
   by_cases e2:(i - 1) / 2=j
   ·rw [show sw ((j - 1) / 2) j ((i - 1) / 2)=(j - 1) / 2 by unfold sw;rw [if_pos e2]]
    exact h.2 i i0 il e2 h0
   by_cases e3:(i - 1) / 2=(j - 1) / 2
   ·rw [show sw ((j - 1) / 2) j ((i - 1) / 2)=j by unfold sw;rw [if_neg e2,if_pos e3]]
    have:=h.1 i i0 il e1
    rw [e3] at this
    omega
   rw [show sw ((j - 1) / 2) j ((i - 1) / 2)=(i - 1) / 2 by unfold sw;rw [if_neg e2,if_neg e3]]
   exact h.1 i i0 il e1
  rw [kY] at il
  rw [jL hp hj,jL hp hj]
  have a1:=h.1 ((j - 1) / 2) p0 hp hne
  rw [show sw ((j - 1) / 2) j (((j - 1) / 2 - 1) / 2)=((j - 1) / 2 - 1) / 2 by unfold sw;rw [if_neg (by omega),if_neg (by omega)]]
  by_cases e1:i=j
  ·subst e1
   rw [show sw ((i - 1) / 2) i i=(i - 1) / 2 by unfold sw;rw [if_pos rfl]]
   exact a1
  have a2:=h.1 i i0 il e1
  rw [show sw ((j - 1) / 2) j i=i by unfold sw;rw [if_neg e1,if_neg (by omega)]]
  rw [ip] at a2
  omega
theorem wG {n:Nat} {l:List Int} {i:Nat} (h:vH n l i) (h1:2 * i+1 < n->at_ l i<=at_ l (2 * i+1)) (h2:2 * i+2 < n->at_ l i<=at_ l (2 * i+2)):Hp n l:=by
  intro k k0 kn
  by_cases e:(k - 1) / 2=i
  ·rw [e]
   rcases (show k=2 * i+1\/k=2 * i+2 by omega) with e1|e1
   ·rw [e1];exact h1 (by omega)
   rw [e1];exact h2 (by omega)
  exact h.1 k k0 kn e
theorem yE {n:Nat} {l:List Int} {i j:Nat} (h:vH n l i) (hj:j=2 * i+1\/j=2 * i+2) (hjn:j < n) (hn:n<=l.length)
    (h1:at_ l j<=at_ l (2 * i+1)) (h2:2 * i+2 < n->at_ l j<=at_ l (2 * i+2)) (hlt:at_ l j < at_ l i):vH n (swp l i j) j:=by
  have hi:i < l.length:=by omega
  have hjl:j < l.length:=by omega
  refine⟨fun k k0 kn Tv=>?_,fun k k0 kn ke j0=>?_⟩
  ·rw [jL hi hjl,jL hi hjl]
   by_cases e1:(k - 1) / 2=i
   ·rw [e1,show sw i j i=j by unfold sw;rw [if_neg (by omega),if_pos rfl]]
    by_cases e2:k=j
    ·rw [e2,show sw i j j=i by unfold sw;rw [if_pos rfl]];omega
    rw [show sw i j k=k by unfold sw;rw [if_neg e2,if_neg (by omega)]]
    rcases (show k=2 * i+1\/k=2 * i+2 by omega) with e3|e3
    ·rw [e3];exact h1
    rw [e3];exact h2 (by omega)
   rw [show sw i j ((k - 1) / 2)=(k - 1) / 2 by unfold sw;rw [if_neg Tv,if_neg e1]]
   by_cases e2:k=i
   ·rw [e2,show sw i j i=j by unfold sw;rw [if_neg (by omega),if_pos rfl],← e2]
    have hjk:(j - 1) / 2=i:=by omega
    rw [e2]
    exact h.2 j (by omega) hjn hjk (by omega)
   rw [show sw i j k=k by unfold sw;rw [if_neg (by omega),if_neg e2]]
   exact h.1 k k0 kn e1
  rw [jL hi hjl,jL hi hjl]
  rw [show (j - 1) / 2=i by omega,show sw i j i=j by unfold sw;rw [if_neg (by omega),if_pos rfl],show sw i j k=k by unfold sw;rw [if_neg (by omega),if_neg (by omega)]]
  have:=h.1 k k0 kn (by omega)
  rw [ke] at this
  exact this
theorem least {n:Nat} {l:List Int} (h:Hp n l):∀ k,k < n->at_ l 0<=at_ l k:=by
  intro k
  induction k using Nat.strongRecOn with
  | _ k ih=>
    intro hk
    rcases Nat.eq_zero_or_pos k with e|e
    ·rw [e];omega
    have a1:=ih ((k - 1) / 2) (by omega) (by omega)
    have a2:=h k e hk
    omega
theorem KL {n:Nat} {l:List Int} (h:Hp (n+1) l) (hl:l.length=n+1):vH n (swp l 0 n) 0:=by
  refine⟨fun k k0 kn Tv=>?_,fun k _ _ _ h0=>by omega⟩
  rw [jL (by omega) (by omega),jL (by omega) (by omega)]
  rw [show sw 0 n ((k - 1) / 2)=(k - 1) / 2 by unfold sw;rw [if_neg (by omega),if_neg Tv],show sw 0 n k=k by unfold sw;rw [if_neg (by omega),if_neg (by omega)]]
  exact h k k0 (by omega)
theorem Ph {l:List Int} (h:Hp l.length l) (x:Int):DW (l++[x]) l.length:=by
  have e:∀ k,k < l.length->at_ (l++[x]) k=at_ l k:=fun k hk=>by
    unfold at_
    rw [List.getD_eq_getElem?_getD,List.getD_eq_getElem?_getD,List.getElem?_append_left hk]
  refine⟨fun i i0 il VZ=>?_,fun i i0 il ip=>?_⟩
  ·rw [List.length_append,List.length_singleton] at il
   rw [e _ (by omega),e _ (by omega)]
   exact h i i0 (by omega)
  rw [List.length_append,List.length_singleton] at il
  omega
theorem RW {l:List Int} {n:Nat} (hl:l.length=n+1) (hi:yD l) (x:Int):x∈l.take n↔x∈l/\x≠at_ l n:=by
  constructor
  ·intro h
   refine⟨List.mem_of_mem_take h,?_⟩
   rintro rfl
   obtain⟨k,hk,e⟩:=List.mem_iff_getElem.1 h
   simp at hk e
   have:=hi k n (by omega) (by omega) (by simp [at_,List.getD_eq_getElem?_getD,show k < l.length by omega,e])
   omega
  rintro⟨h,hne⟩
  obtain⟨k,hk,e⟩:=tF.1 h
  have:k≠n:=by rintro rfl;exact hne e.symm
  refine List.mem_iff_getElem.2 ⟨k,by simp;omega,?_⟩
  simp only [at_,List.getD_eq_getElem?_getD,hk,List.getElem?_eq_getElem,Option.getD_some] at e
  simpa using e
theorem zT {l:List Int} {n k:Nat} (hk:k < n):at_ (l.take n) k=at_ l k:=by simp [at_,List.getD_eq_getElem?_getD,hk]
theorem RX {l:List Int} {n:Nat} (h:Hp n l):Hp n (l.take n):=fun i i0 hi=>by rw [zT hi,zT (by omega)];exact h i i0 hi
theorem Pj {l:List Int} {n:Nat} (h:yD l):yD (l.take n):=fun a b ha hb e=>by
  simp at ha hb
  rw [zT (by omega),zT (by omega)] at e
  exact h a b (by omega) (by omega) e
end Go.Proofs.YtiehgnlnofhbaaaGreatDoor.bq
end
namespace Go.Proofs.YtiehgnlnofhbaaaGreatDoor
section
open Go.RowKit bq
def ints (l:List Int):List Value:=l.map (Value.int .i64)
theorem nX (g n c a b:Nat) (i j:Int) (hi:i=(a:Int)) (hj:j=(b:Int)) (x y:Int) (w:World) (ha:a < n) (hb:b < n) (ci:w.cell? ⟨g,a,none⟩=some (.int .i64 x)) (cj:w.cell? ⟨g,b,none⟩=some (.int .i64 y)) :
    Calls Tryz.prog 266 #[.slice (some ⟨g,0,none⟩) n c,.int .i64 i,.int .i64 j] w fun e w'=>e=.returned (.bool (decide (x < y)))/\∃ m,w'=w.drewN m:=by
  subst hi hj;exact MK g n c a b x y w ha hb ci cj
structure HW (t o g c base:Nat) (l:List Int) (w:World):Prop where
  cell:w.cell? ⟨t,o,none⟩=some (.slice (some ⟨g,0,none⟩) l.length c)
  own:w.ownsRow base 3 1 (.slice (some ⟨g,0,none⟩) l.length c) l.length (ints l)
  ne:t≠g
  lt:t < w.heap.size
theorem Pk {l:List Int} {k:Nat} (hk:k < l.length):(ints l)[k]?=some (.int .i64 (at_ l k)):=by
  simp [ints,at_,List.getD_eq_getElem?_getD,hk]
section hw
variable {t o g c base:Nat} {l:List Int} {w:World}
theorem HW.at (h:HW t o g c base l w) {k:Nat} (hk:k < l.length):w.cell? ⟨g,k,none⟩=some (.int .i64 (at_ l k)):=by
  rw [h.own.cellAt k (by omega)]
  exact Pk hk
theorem HW.drewN (h:HW t o g c base l w) (m:Nat):HW t o g c base l (w.drewN m):=⟨h.cell,h.own,h.ne,h.lt⟩
theorem HW.swap (h:HW t o g c base l w) (i j:Nat) :
    HW t o g c base (swp l i j) ((w.setCell ⟨g,i,none⟩ (.int .i64 (at_ l j))).setCell ⟨g,j,none⟩ (.int .i64 (at_ l i))):=by
  have e1:ints (swp l i j)=((ints l).set i (.int .i64 (at_ l j))).set j (.int .i64 (at_ l i)):=by
    simp [ints,swp,List.map_set]
  refine⟨?_,?_,h.ne,by simpa [World.setCell] using h.lt⟩
  ·rw [kY,World.cell?_setCell_other _ _ _ _ (fun e=>h.ne (by injection e with e;exact e.symm)),World.cell?_setCell_other _ _ _ _ (fun e=>h.ne (by injection e with e;exact e.symm))]
   exact h.cell
  rw [kY,e1]
  exact ((h.own.stored i _).1.stored j _).1
end hw
theorem nY (t o g c base:Nat) (l:List Int) (a b:Nat) (i j:Int) (hi:i=(a:Int)) (hj:j=(b:Int)) (w:World) (h:HW t o g c base l w) (ha:a < l.length) (hb:b < l.length) (hne:a≠b) :
    Calls Tryz.prog 267 #[.slice (some ⟨g,0,none⟩) l.length c,.int .i64 i,.int .i64 j] w fun e w'=>e=.returned (.tuple #[])/\HW t o g c base (swp l a b) w'/\Keeps (·=g) w w':=by
  subst hi hj
  refine (ML g l.length c a b (at_ l a) (at_ l b) w ha hb hne (h.at ha) (h.at hb) (h.own.frozenAt a) (h.own.frozenAt b)).mono fun e w' ⟨he,m,hw⟩=>⟨he,?_,?_⟩
  ·rw [hw];exact (h.swap a b).drewN m
  rw [hw];exact (((Keeps.refl (·=g) w).setCell (p:=⟨g,a,none⟩) (.inr rfl) _).setCell (p:=⟨g,b,none⟩) (.inr rfl) _).drewN m
structure Looks (a:Addr) (V:Value):Prop where
  less:∀ w:World,w.cell? a=some V->(Go.method 465 316 (.pointer (some a)) "Less").run Tryz.prog w=.ok (266,V) w
  swap:∀ w:World,w.cell? a=some V->(Go.method 465 316 (.pointer (some a)) "Swap").run Tryz.prog w=.ok (267,V) w
  len:∀ w:World,w.cell? a=some V->(Go.method 465 316 (.pointer (some a)) "Len").run Tryz.prog w=.ok (265,V) w
theorem looks (a:Addr) (V:Value):Looks a V:=⟨Tq a V,Tr a V,Vm a V⟩
theorem RY (t o g c base:Nat) (l:List Int) (j:Nat) (w:World) (h:HW t o g c base l w) (hj:j < l.length) (hu:DW l j) (hm:l.length<=1048576) :
    Calls Tryz.prog 212 #[.iface 316 (.pointer (some ⟨t,o,none⟩)),.int .i64 j] w fun e w'=>e=.returned (.tuple #[]) ∧
      ∃ l',Same l l'/\Hp l'.length l'/\HW t o g c base l' w'/\Keeps (·=g) w w':=by
  have L:=looks ⟨t,o,none⟩ (.slice (some ⟨g,0,none⟩) l.length c)
  have nl:=MJ ⟨t,o,none⟩
  have ns:=Gt ⟨t,o,none⟩
  go_enter Tryz.func212,Tryz.ntmps212
  go_wp2_with fail
  go_loopw [1] (fun v wr=>∃ (j:Nat) (l':List Int),v=.int .i64 j/\j < l'.length/\Same l l'/\DW l' j/\HW t o g c base l' wr/\Keeps (·=g) w wr) (fun v _=>(intOf v).toNat)
  case atStart=>exact⟨j,l,rfl,hj,Same.refl l,hu,h,Keeps.refl _ _⟩
  case round=>
    obtain⟨j,l',rfl,hj',hs,hu',hw,hk⟩:=hrel
    have hc:=hw.cell
    rw [hs.len] at hc
    have LL:=L.less wr hc
    by_cases h0:j=0
    ·subst h0
     have HU:=Lib.hid hu'
     clear hu'
     go_wp2_with fail
     go_end0
     exact⟨rfl,l',hs,MQ HU.out (.inl rfl),hw,hk⟩
    have oO:1<=j:=by omega
    have hj2:j<=1048576:=by have:=hs.len;omega
    have hi1:(j - 1) / 2 < l'.length:=by omega
    have hjn:((((j:Int) - 1) / 2) == (j:Int))=false:=by rw [beq_eq_false_iff_ne];omega
    have HU:=Lib.hid hu'
    clear hu'
    go_wp2_with fail
    refine (nX g l.length c j ((j - 1) / 2) _ _ rfl (by omega) (at_ l' j) (at_ l' ((j - 1) / 2)) _ (by rw [← hs.len];exact hj') (by rw [← hs.len];exact hi1) (hw.at hj') (hw.at hi1)).mono ?_
    rintro e w1 ⟨rfl,m,rfl⟩
    have hw1:=hw.drewN m
    by_cases hlt:at_ l' j < at_ l' ((j - 1) / 2)
    ·have LS:=L.swap (wr.drewN m) hc
     go_wp2_with fail
     have HL:=Lib.hid hs.len
     have sw:=nY t o g c base l' ((j - 1) / 2) j
     rw [hs.len] at sw
     refine (sw _ _ (by omega) rfl _ hw1 (by have:=HL.out;omega) (by have:=HL.out;omega) (by omega)).mono ?_
     rintro e w2 ⟨rfl,hw2,hk2⟩
     clear sw
     go_wp2_with fail
     go_roundw
     case rel=>exact⟨(j - 1) / 2,_,by go_num,by rw [kY];exact hi1,hs.trans (Same.swp hi1 hj'),RV HU.out oO hj' hlt,hw2,(hk.drewN m).trans hk2⟩
     case measure=>simp [intOf];omega
    have hnl:decide (at_ l' j < at_ l' ((j - 1) / 2))=false:=by simpa using hlt
    go_wp2_with fail
    go_end0
    exact⟨rfl,l',hs,MQ HU.out (.inr (by omega)),hw1,hk.drewN m⟩
end
section
open Go.RowKit bq
theorem Gv {l:List Int} {i j n k:Nat} (hi:i < l.length) (hj:j < l.length) (hin:i < n) (hjn:j < n) (hk:n<=k):at_ (swp l i j) k=at_ l k:=by
  rw [jL hi hj];unfold sw;rw [if_neg (by omega),if_neg (by omega)]
theorem MR (t o g c base n:Nat) (l:List Int) (w:World) (h:HW t o g c base l w) (hn:n<=l.length) (hd:vH n l 0) (hm:l.length<=1048576) :
    Calls Tryz.prog 213 #[.iface 316 (.pointer (some ⟨t,o,none⟩)),.int .i64 0,.int .i64 n] w fun e w'=>(∃ b,e=.returned (.bool b)) ∧
      ∃ l',Same l l'/\Hp n l'/\(∀ k,n<=k->at_ l' k=at_ l k)/\HW t o g c base l' w'/\Keeps (·=g) w w':=by
  have L:=looks ⟨t,o,none⟩ (.slice (some ⟨g,0,none⟩) l.length c)
  have nl:=MJ ⟨t,o,none⟩
  have ns:=Gt ⟨t,o,none⟩
  go_enter Tryz.func213,Tryz.ntmps213
  go_wp2_with fail
  go_loopw [7] (fun v wr=>∃ (i:Nat) (l':List Int),v=.int .i64 i/\i<=n/\Same l l'/\vH n l' i/\Hid (∀ k,n<=k->at_ l' k=at_ l k)/\HW t o g c base l' wr/\Keeps (·=g) w wr) (fun v _=>n - (intOf v).toNat)
  case atStart=>exact⟨0,l,rfl,Nat.zero_le _,Same.refl l,hd,Lib.hid (fun _ _=>rfl),h,Keeps.refl _ _⟩
  case round=>
    obtain⟨i,l',rfl,hin,hs,hd',wH,hw,hk⟩:=hrel
    have hc:=hw.cell
    rw [hs.len] at hc
    have HL:=Lib.hid hs.len
    have hn1:n<=1048576:=by omega
    have hnl:n<=l'.length:=by rw [HL.out];exact hn
    have HD:=Lib.hid hd'
    clear hd'
    by_cases h1:2 * i+1 < n
    ·have h1a:(2 * (i:Int)+1) < (n:Int):=by omega
     by_cases h2:2 * i+2 < n
     ·have X2:(2 * (i:Int)+1+1) < (n:Int):=by omega
      have LL:=L.less wr hc
      go_wp2_with fail
      refine (nX g l.length c (2 * i+2) (2 * i+1) _ _ (by omega) (by omega) (at_ l' (2 * i+2)) (at_ l' (2 * i+1)) _ (by omega) (by omega) (hw.at (by omega)) (hw.at (by omega))).mono ?_
      rintro e w1 ⟨rfl,m,rfl⟩
      have hw1:=hw.drewN m
      have hk1:=hk.drewN m
      have LL:=L.less (wr.drewN m) hc
      clear hw hk
      by_cases h3:at_ l' (2 * i+2) < at_ l' (2 * i+1)
      ·go_wp2_with fail
       refine (nX g l.length c (2 * i+2) i _ _ (by omega) (by omega) (at_ l' (2 * i+2)) (at_ l' i) _ (by omega) (by omega) (hw1.at (by omega)) (hw1.at (by omega))).mono ?_
       rintro e w2 ⟨rfl,m2,rfl⟩
       have hw2:=hw1.drewN m2
       have hk2:=hk1.drewN m2
       rw [World.drewN_drewN] at hw2 hk2
       by_cases h4:at_ l' (2 * i+2) < at_ l' i
       ·have LS:=L.swap _ (hw2.cell.trans (by rw [HL.out]))
        go_wp2_with fail
        have sw:=nY t o g c base l' i (2 * i+2)
        rw [hs.len] at sw
        refine (sw _ _ rfl (by omega) _ hw2 (by omega) (by omega) (by omega)).mono ?_
        rintro e w3 ⟨rfl,hw3,hk3⟩
        clear sw
        go_wp2_with fail
        go_roundw
        case rel=>exact⟨2 * i+2,_,by go_num,by omega,hs.trans (Same.swp (by omega) (by omega)),yE HD.out (by omega) (by omega) hnl (by omega) (fun _=>by omega) h4,Lib.hid (fun k hk=>(Gv (by omega) (by omega) (by omega) (by omega) hk).trans (wH.out k hk)),hw3,hk2.trans hk3⟩
        case measure=>simp [intOf];omega
       have V5:decide (at_ l' (2 * i+2) < at_ l' i)=false:=by simpa using h4
       go_wp2_with fail
       go_ret
       exact⟨⟨_,rfl⟩,l',hs,wG HD.out (fun _=>by omega) (fun _=>by omega),wH.out,hw2,hk2⟩
      have ZA:decide (at_ l' (2 * i+2) < at_ l' (2 * i+1))=false:=by simpa using h3
      go_wp2_with fail
      refine (nX g l.length c (2 * i+1) i _ _ (by omega) (by omega) (at_ l' (2 * i+1)) (at_ l' i) _ (by omega) (by omega) (hw1.at (by omega)) (hw1.at (by omega))).mono ?_
      rintro e w2 ⟨rfl,m2,rfl⟩
      have hw2:=hw1.drewN m2
      have hk2:=hk1.drewN m2
      rw [World.drewN_drewN] at hw2 hk2
      by_cases h4:at_ l' (2 * i+1) < at_ l' i
      ·have LS:=L.swap _ (hw2.cell.trans (by rw [HL.out]))
       go_wp2_with fail
       have sw:=nY t o g c base l' i (2 * i+1)
       rw [hs.len] at sw
       refine (sw _ _ rfl (by omega) _ hw2 (by omega) (by omega) (by omega)).mono ?_
       rintro e w3 ⟨rfl,hw3,hk3⟩
       clear sw
       go_wp2_with fail
       go_roundw
       case rel=>exact⟨2 * i+1,_,by go_num,by omega,hs.trans (Same.swp (by omega) (by omega)),yE HD.out (by omega) (by omega) hnl (by omega) (fun _=>by omega) h4,Lib.hid (fun k hk=>(Gv (by omega) (by omega) (by omega) (by omega) hk).trans (wH.out k hk)),hw3,hk2.trans hk3⟩
       case measure=>simp [intOf];omega
      have V5:decide (at_ l' (2 * i+1) < at_ l' i)=false:=by simpa using h4
      go_wp2_with fail
      go_ret
      exact⟨⟨_,rfl⟩,l',hs,wG HD.out (fun _=>by omega) (fun _=>by omega),wH.out,hw2,hk2⟩
     have X2:decide ((2 * (i:Int)+1+1) < (n:Int))=false:=by simp;omega
     have hw1:=hw
     have hk1:=hk
     have LL:=L.less wr hc
     clear hw hk
     go_wp2_with fail
     refine (nX g l.length c (2 * i+1) i _ _ (by omega) (by omega) (at_ l' (2 * i+1)) (at_ l' i) _ (by omega) (by omega) (hw1.at (by omega)) (hw1.at (by omega))).mono ?_
     rintro e w2 ⟨rfl,m2,rfl⟩
     have hw2:=hw1.drewN m2
     have hk2:=hk1.drewN m2
     by_cases h4:at_ l' (2 * i+1) < at_ l' i
     ·have LS:=L.swap _ (hw2.cell.trans (by rw [HL.out]))
      go_wp2_with fail
      have sw:=nY t o g c base l' i (2 * i+1)
      rw [hs.len] at sw
      refine (sw _ _ rfl (by omega) _ hw2 (by omega) (by omega) (by omega)).mono ?_
      rintro e w3 ⟨rfl,hw3,hk3⟩
      clear sw
      go_wp2_with fail
      go_roundw
      case rel=>exact⟨2 * i+1,_,by go_num,by omega,hs.trans (Same.swp (by omega) (by omega)),yE HD.out (by omega) (by omega) hnl (by omega) (fun _=>by omega) h4,Lib.hid (fun k hk=>(Gv (by omega) (by omega) (by omega) (by omega) hk).trans (wH.out k hk)),hw3,hk2.trans hk3⟩
      case measure=>simp [intOf];omega
     have V5:decide (at_ l' (2 * i+1) < at_ l' i)=false:=by simpa using h4
     go_wp2_with fail
     go_ret
     exact⟨⟨_,rfl⟩,l',hs,wG HD.out (fun _=>by omega) (fun _=>by omega),wH.out,hw2,hk2⟩
    have h1a:((n:Int)<=2 * (i:Int)+1):=by omega
    go_wp2_with fail
    go_ret
    exact⟨⟨_,rfl⟩,l',hs,wG HD.out (fun h=>absurd h h1) (fun h=>absurd h (by omega)),wH.out,hw,hk⟩
end
section
open Go.RowKit bq
theorem DX (g n c i:Nat) (x:Int) (w:World) (hi:i < n) (ci:w.cell? ⟨g,i,none⟩=some (.int .i64 x)) (fi:w.frozen? ⟨g,i,none⟩=false) :
    Calls Tryz.prog 267 #[.slice (some ⟨g,0,none⟩) n c,.int .i64 i,.int .i64 i] w fun e w'=>e=.returned (.tuple #[])/\∃ m,w'=((w.setCell ⟨g,i,none⟩ (.int .i64 x)).setCell ⟨g,i,none⟩ (.int .i64 x)).drewN m:=by
  have hi':(i:Int) < (n:Int):=by omega
  go_enter Tryz.func267,Tryz.ntmps267
  go_wp2_with fail
  go_region
  go_end0
  exact⟨rfl,1,rfl⟩
theorem DY (t o g c base n:Nat) (l:List Int) (hl:l.length=n+1) (j:Int) (hj:j=(n:Int)) (w:World) (h:HW t o g c base l w) :
    Calls Tryz.prog 267 #[.slice (some ⟨g,0,none⟩) (n+1) c,.int .i64 0,.int .i64 j] w fun e w'=>e=.returned (.tuple #[])/\HW t o g c base (swp l 0 n) w'/\Keeps (·=g) w w':=by
  subst hj
  by_cases h0:n=0
  ·subst h0
   have:=DX g 1 c 0 (at_ l 0) w (by omega) (h.at (by omega)) (h.own.frozenAt 0)
   refine this.mono fun e w' ⟨he,m,hw⟩=>⟨he,?_,?_⟩
   ·rw [hw];exact (h.swap 0 0).drewN m
   rw [hw];exact (((Keeps.refl (·=g) w).setCell (p:=⟨g,0,none⟩) (.inr rfl) _).setCell (p:=⟨g,0,none⟩) (.inr rfl) _).drewN m
  have:=nY t o g c base l 0 n 0 n rfl rfl w h (by omega) (by omega) (by omega)
  rw [hl] at this
  exact this
theorem HW.pop {t o g c base n:Nat} {l:List Int} {w:World} (h:HW t o g c base l w) (hl:l.length=n+1):w.ownsRow base 3 1 (.slice (some ⟨g,0,none⟩) n c) n (ints (l.take n)):=by
  have e:ints l=ints (l.take n)++ints (l.drop n):=by simp only [ints,← List.map_append,List.take_append_drop]
  have h1:=h.own
  rw [e,hl] at h1
  exact ownsRow_pop (by simp [ints];omega) h1
theorem HW.cap {t o g c base:Nat} {l:List Int} {w:World} (h:HW t o g c base l w):l.length<=c:=by
  rcases h.own.2 with ⟨e,_⟩|⟨g',cap,cur,e,_,_,r,_⟩
  ·injection e with e;cases e
  injection e with e1 e2 e3
  omega
theorem Pm (t o g c base n:Nat) (l:List Int) (w:World) (h:HW t o g c base l w) (hl:l.length=n+1) (hp:Hp (n+1) l) (hi:yD l) (hm:n+1<=1048576) (hf:w.frozen? ⟨t,o,none⟩=false) :
    Calls Tryz.prog 211 #[.iface 316 (.pointer (some ⟨t,o,none⟩))] w fun e w'=>e=.returned (.iface 3 (.int .i64 (at_ l 0))) ∧
      ∃ l' w1,l'.length=n/\Hp n l'/\yD l'/\(∀ x,x∈l'↔x∈l/\x≠at_ l 0)/\w1.ownsRow base 3 1 (.slice (some ⟨g,0,none⟩) n c) n (ints l')/\Keeps (·=g) w w1 ∧
        w'=w1.setCell ⟨t,o,none⟩ (.slice (some ⟨g,0,none⟩) n c):=by
  have L:=looks ⟨t,o,none⟩ (.slice (some ⟨g,0,none⟩) l.length c)
  have nn:=QO ⟨t,o,none⟩
  have ns:=Gt ⟨t,o,none⟩
  have np:=Vo ⟨t,o,none⟩
  have mp:=Vn ⟨t,o,none⟩
  have LN:=L.len w h.cell
  have LS:=L.swap w h.cell
  have HL:=Lib.hid hl
  rw [hl] at LN LS
  clear hl
  go_enter Tryz.func211,Tryz.ntmps211
  go_wp2_with fail
  refine (Gu _ _ _ _).mono ?_
  rintro e w0 ⟨rfl,rfl⟩
  go_wp2_with fail
  refine (DY t o g c base n l HL.out _ (by omega) _ h).mono ?_
  rintro e w1 ⟨rfl,hw1,hk1⟩
  go_wp2_with fail
  have hd:=MR t o g c base n (swp l 0 n) w1 hw1 (by rw [kY,HL.out];omega) (KL hp HL.out) (by rw [kY,HL.out];exact hm)
  refine (hd.mono ?_)
  rintro e w2 ⟨⟨bb,rfl⟩,l',hs,hp',wH,hw2,hk2⟩
  clear hd
  have hlen:l'.length=n+1:=by rw [hs.len,kY,HL.out]
  have hcell:=hw2.cell
  rw [hlen] at hcell
  have hcap:=hw2.cap
  have htlt:=h.lt
  have hf2:w2.frozen? ⟨t,o,none⟩=false:=by
    rw [(hk1.trans hk2).frozen (p:=⟨t,o,none⟩) htlt h.ne]
    exact hf
  have hlast:at_ l' n=at_ l 0:=by
    rw [wH n (Nat.le_refl _),jL (by rw [HL.out];omega) (by rw [HL.out];omega)]
    simp [sw]
  have hx:=hw2.at (k:=n) (by omega)
  rw [hlast] at hx
  have KM:=Lib.hid hlen
  have Vp:=Lib.hid hlast
  clear hlen hlast
  go_wp2_with fail
  refine (Pg t o g n c (at_ l 0) w2 (by have:=KM.out;omega) hcell hf2 hx hm).mono ?_
  rintro e w3 ⟨rfl,rfl⟩
  go_wp2_with fail
  go_ret
  have sm:=(Same.swp (l:=l) (i:=0) (j:=n) (by rw [HL.out];omega) (by rw [HL.out];omega)).trans hs
  refine⟨rfl,l'.take n,w2,by simp [KM.out],RX hp',Pj (sm.inj hi),fun x=>?_,hw2.pop KM.out,hk1.trans hk2,rfl⟩
  rw [RW KM.out (sm.inj hi),sm.mem,Vp.out]
theorem I8 (l:List Int) (x:Int):ints l++[.int .i64 x]=ints (l++[x]):=by simp [ints]
theorem MS (t o base:Nat) (v:Value) (l:List Int) (x:Int) (w:World) (ht:w.cell? ⟨t,o,none⟩=some v) (hf:w.frozen? ⟨t,o,none⟩=false) (hown:w.ownsRow base 3 1 v l.length (ints l))
    (hne:v.ownBlock≠some t) (hm:l.length+1<=1048576) (hbase:base<=w.heap.size) (hp:Hp l.length l) (htl:t < w.heap.size) :
    Calls Tryz.prog 209 #[.iface 316 (.pointer (some ⟨t,o,none⟩)),.iface 3 (.int .i64 x)] w fun e w'=>e=.returned (.tuple #[]) ∧
      ∃ g c l',Same (l++[x]) l'/\Hp l'.length l'/\HW t o g c base l' w'/\(v.ownBlock=some g\/w.heap.size<=g) ∧
        ∃ w1,Keeps (fun k=>v.ownBlock=some k) w w1/\Keeps (·=g) (w1.setCell ⟨t,o,none⟩ (.slice (some ⟨g,0,none⟩) (l.length+1) c)) w':=by
  have nn:=QO ⟨t,o,none⟩
  have np:=Tt ⟨t,o,none⟩
  have mp:=Ts ⟨t,o,none⟩
  go_enter Tryz.func209,Tryz.ntmps209
  go_wp2_with fail
  refine (MP t o base l.length v (ints l) x w ht hf hown hne hm hbase).mono ?_
  rintro e w0 ⟨rfl,g,c,w1,hown1,hg1,KI,rfl⟩
  have hk1:Keeps (fun k=>v.ownBlock=some k) w w1:=(Keeps.refl _ _).grown hg1 (fun k hk=>.inr hk)
  have hgt:t≠g:=by
    rintro rfl
    rcases KI with h|h
    ·exact hne h
    omega
  have ht1:w1.cell? ⟨t,o,none⟩=some v:=(hk1.cell (p:=⟨t,o,none⟩) htl hne).trans ht
  have HW1:HW t o g c base (l++[x]) (w1.setCell ⟨t,o,none⟩ (.slice (some ⟨g,0,none⟩) (l.length+1) c)):=by
    refine⟨?_,?_,hgt,by simpa [World.setCell] using Nat.lt_of_lt_of_le htl hk1.size⟩
    ·rw [World.cell?_setCell_same _ _ _ ht1];simp
    rw [List.length_append,List.length_singleton,← I8]
    refine Keeps.ownsRow (S:=(·=t)) ((Keeps.refl (·=t) w1).setCell (p:=⟨t,o,none⟩) (.inr rfl) _) hown1 ?_
    intro k hk e
    simp [Value.ownBlock] at hk
    omega
  have hc:=HW1.cell
  rw [List.length_append,List.length_singleton] at hc
  generalize hW:w1.setCell ⟨t,o,none⟩ (.slice (some ⟨g,0,none⟩) (l.length+1) c)=w2 at *
  have LN:=(looks ⟨t,o,none⟩ (.slice (some ⟨g,0,none⟩) (l.length+1) c)).len w2 hc
  have X3:=Lib.hid hW
  clear hW ht1 hown1 hown hg1
  go_wp2_with fail
  refine (Gu _ _ _ _).mono ?_
  rintro e w3 ⟨rfl,rfl⟩
  go_wp2_with fail
  have hu:=RY t o g c base (l++[x]) l.length w3 HW1 (by simp) (Ph hp x) (by simpa using hm)
  refine hu.mono ?_
  rintro e w4 ⟨rfl,l',hs,hp',hw4,hk4⟩
  go_wp2_with fail
  go_end0
  exact⟨rfl,g,c,l',hs,hp',hw4,KI,w1,hk1,by rw [X3.out];exact hk4⟩
end
end Go.Proofs.YtiehgnlnofhbaaaGreatDoor
section
namespace Go.Proofs.YtiehgnlnofhbaaaGreatDoor.aF
open bq
variable {V U:Type}
abbrev Used (V:Type):=List (Int×V)
def keys (us:Used V):List Int:=us.map (·.1)
def get (us:Used V) (h:Int):Option V:=(us.find? (fun p=>p.1 == h)).map (·.2)
def cJ:List Int->Prop:=List.Pairwise (· < ·)
def iF:Int->List Int->Int
  | h,[]=>h
  | h,k::r=>if k=h then iF (h+1) r else h
def least (us:Used V):Int:=iF 1 (keys us)
def ins (h:Int) (v:V):Used V->Used V
  | []=>[(h,v)]
  | p::r=>if h < p.1 then (h,v)::p::r else p::ins h v r
def del (h:Int) (us:Used V):Used V:=us.filter (fun p=>p.1 != h)
def Y9 (h:Int) (v:V) (us:Used V):Used V:=us.map (fun p=>if p.1 == h then (h,v) else p)
structure TI (next:Int) (l:List Int) (us:Used V):Prop where
  rise:cJ (keys us)
  pos:∀ h∈keys us,1<=h/\h < next
  back:∀ h∈l,1<=h/\h < next/\h∉keys us
  all:∀ h,1<=h->h < next->h∈keys us\/h∈l
  count:(us.length:Int)+l.length=next - 1
  heap:Hp l.length l
  inj:yD l
theorem keys_cons (p:Int×V) (us:Used V):keys (p::us)=p.1::keys us:=rfl
theorem keys_map (f:V->U) (us:Used V):keys (us.map fun p=>(p.1,f p.2))=keys us:=by simp [keys]
theorem get_none {us:Used V} {h:Int}:get us h=none↔h∉keys us:=by
  unfold get keys
  rw [Option.map_eq_none_iff,List.find?_eq_none]
  simp only [List.mem_map,not_exists,not_and,beq_iff_eq]
theorem get_some {us:Used V} {h:Int} {v:V} (e:get us h=some v):h∈keys us:=by
  apply Classical.byContradiction
  intro hn
  rw [get_none.2 hn] at e;cases e
theorem get_map (f:V->U) (us:Used V) (h:Int):get (us.map fun p=>(p.1,f p.2)) h=(get us h).map f:=by
  unfold get
  rw [List.find?_map]
  simp only [Function.comp_def,Option.map_map]
theorem l5 (h:Int) (v:V) (us:Used V) (x:Int):x∈keys (ins h v us)↔x=h\/x∈keys us:=by
  induction us with
  | nil=>simp [ins,keys]
  | cons p r ih=>
    unfold ins
    split
    ·simp [keys]
    rw [keys_cons,keys_cons,List.mem_cons,List.mem_cons,ih]
    constructor
    ·rintro (h1|h1|h1)
     ·exact .inr (.inl h1)
     ·exact .inl h1
     exact .inr (.inr h1)
    rintro (h1|h1|h1)
    ·exact .inr (.inl h1)
    ·exact .inl h1
    exact .inr (.inr h1)
theorem wJ {h:Int} {v:V} {us:Used V} (hr:cJ (keys us)) (hn:h∉keys us):cJ (keys (ins h v us)):=by
  induction us with
  | nil=>simp [ins,keys,cJ]
  | cons p r ih=>
    unfold cJ at *
    rw [keys_cons,List.pairwise_cons] at hr
    rw [keys_cons,List.mem_cons,not_or] at hn
    unfold ins
    split
    ·rename_i hlt
     rw [keys_cons,keys_cons,List.pairwise_cons,List.pairwise_cons]
     refine⟨?_,hr⟩
     intro x hx
     rcases List.mem_cons.1 hx with e|e
     ·rw [e];exact hlt
     have:=hr.1 x e;show h < x;omega
    rename_i hlt
    rw [keys_cons,List.pairwise_cons]
    refine⟨fun x hx=>?_,ih hr.2 hn.2⟩
    rcases (l5 h v r x).1 hx with e|e
    ·rw [e];have:=hn.1;omega
    exact hr.1 x e
theorem kZ {h:Int} {v:V} {us:Used V} (hn:h∉keys us) (x:Int):get (ins h v us) x=if x=h then some v else get us x:=by
  induction us with
  | nil=>
    by_cases e:x=h
    ·subst e;simp [ins,get]
    simp [ins,get,e,Ne.symm e]
  | cons p r ih=>
    rw [keys_cons,List.mem_cons,not_or] at hn
    unfold ins
    split
    ·unfold get
     by_cases e:x=h
     ·subst e;simp
     simp [e,Ne.symm e]
    have ih':=ih hn.2
    unfold get at ih' ⊢
    rw [List.find?_cons,List.find?_cons]
    by_cases e:p.1=x
    ·have:x≠h:=by rintro rfl;exact hn.1 e.symm
     simp [e,this]
    simp only [show (p.1 == x)=false by simpa using e]
    exact ih'
theorem iG (h:Int) (v:V) (us:Used V):(ins h v us).length=us.length+1:=by
  induction us with
  | nil=>rfl
  | cons p r ih=>unfold ins;split<;>simp [ih]
theorem Pn {h:Int} {v:V} {us:Used V} (hl:∀ x∈keys us,x < h):ins h v us=us++[(h,v)]:=by
  induction us with
  | nil=>rfl
  | cons p r ih=>
    rw [keys_cons] at hl
    have h1:=hl p.1 (by simp)
    unfold ins
    rw [if_neg (by omega),ih (fun x hx=>hl x (by simp [hx]))]
    rfl
theorem JK (f:V->U) (h:Int) (v:V) (us:Used V):(ins h v us).map (fun p=>(p.1,f p.2))=ins h (f v) (us.map fun p=>(p.1,f p.2)):=by
  induction us with
  | nil=>rfl
  | cons p r ih=>unfold ins;simp only [List.map_cons];split<;>simp_all
theorem JL (f:V->U) (h:Int) (us:Used V):(del h us).map (fun p=>(p.1,f p.2))=del h (us.map fun p=>(p.1,f p.2)):=by
  unfold del;rw [List.filter_map];rfl
theorem ox (h:Int) (us:Used V):keys (del h us)=(keys us).filter (· != h):=by
  unfold keys del;rw [List.filter_map];rfl
theorem qv (h:Int) (us:Used V) (x:Int):get (del h us) x=if x=h then none else get us x:=by
  by_cases e:x=h
  ·subst e
   rw [if_pos rfl,get_none,ox]
   simp
  rw [if_neg e]
  unfold get del
  rw [List.find?_filter]
  congr 2
  funext p
  by_cases e2:p.1=x
  ·simp [e2,e]
  simp [e2]
theorem nE {h:Int} {us:Used V} (hr:cJ (keys us)) (hm:h∈keys us):(del h us).length+1=us.length:=by
  induction us with
  | nil=>simp [keys] at hm
  | cons p r ih=>
    unfold cJ at *
    rw [keys_cons,List.pairwise_cons] at hr
    unfold del at ih ⊢
    rw [List.filter_cons]
    by_cases e:p.1=h
    ·have:r.filter (fun q=>q.1 != h)=r:=by
       rw [List.filter_eq_self]
       intro q hq
       have:=hr.1 q.1 (List.mem_map_of_mem hq)
       simp;omega
     simp [e,this]
    rw [keys_cons,List.mem_cons] at hm
    have:=ih hr.2 (hm.resolve_left (Ne.symm e))
    simp [e];omega
theorem nF:∀ (ks:List Int) (h:Int),cJ ks->(∀ x∈ks,h<=x)->h<=iF h ks/\iF h ks∉ks/\∀ x,h<=x->x < iF h ks->x∈ks
  | [],h,_,_=>⟨Int.le_refl _,by simp [iF],fun x h1 h2=>by simp [iF] at h2;omega⟩
  | k::r,h,hr,hge=>by
    unfold cJ at hr
    rw [List.pairwise_cons] at hr
    unfold iF
    by_cases e:k=h
    ·rw [if_pos e]
     obtain⟨i1,i2,i3⟩:=nF r (h+1) hr.2 (fun x hx=>by have:=hr.1 x hx;omega)
     refine⟨by omega,?_,fun x h1 h2=>?_⟩
     ·rw [List.mem_cons,not_or];exact⟨by omega,i2⟩
     by_cases e2:x=h
     ·rw [e2,← e];simp
     exact List.mem_cons_of_mem _ (i3 x (by omega) h2)
    rw [if_neg e]
    refine⟨Int.le_refl _,?_,fun x h1 h2=>by omega⟩
    rw [List.mem_cons,not_or]
    refine⟨Ne.symm e,fun hm=>?_⟩
    have h1:=hr.1 h hm
    have h2:=hge k (by simp)
    omega
theorem yG {us:Used V} (hr:cJ (keys us)) (hp:∀ x∈keys us,1<=x) {h:Int} (h1:1<=h) (hn:h∉keys us) (hall:∀ x,1<=x->x < h->x∈keys us):least us=h:=by
  obtain⟨i1,i2,i3⟩:=nF (keys us) 1 hr hp
  unfold least
  rcases Int.lt_trichotomy (iF 1 (keys us)) h with hlt|he|hgt
  ·exact absurd (hall _ i1 hlt) i2
  ·exact he
  exact absurd (i3 h h1 hgt) hn
theorem TI.empty:TI 1 [] ([]:Used V):=
  ⟨List.Pairwise.nil,by simp [keys],by simp,fun h h1 h2=>by omega,rfl,fun i h1 h2=>by simp at h2,fun a b h1=>by simp at h1⟩
theorem TI.Cs {next:Int} {us:Used V} (h:TI next [] us):least us=next:=by
  have hc:=h.count
  simp at hc
  refine yG h.rise (fun x hx=>(h.pos x hx).1) (by omega) (fun hm=>?_) (fun x h1 h2=>(h.all x h1 h2).resolve_right (by simp))
  have:=(h.pos _ hm).2;omega
theorem TI.Po {next:Int} {us:Used V} (h:TI next [] us) (v:V):TI (next+1) [] (ins next v us):=by
  have hc:=h.count
  simp at hc
  have hn:next∉keys us:=fun hm=>by have:=(h.pos _ hm).2;omega
  refine⟨wJ h.rise hn,fun x hx=>?_,by simp,fun x h1 h2=>?_,by rw [iG];simp;omega,fun i h1 h2=>by simp at h2,fun a b h1=>by simp at h1⟩
  ·rcases (l5 next v us x).1 hx with e|e
   ·omega
   have:=h.pos x e;omega
  by_cases e:x=next
  ·exact .inl ((l5 next v us x).2 (.inl e))
  exact .inl ((l5 next v us x).2 (.inr ((h.all x h1 (by omega)).resolve_right (by simp))))
theorem TI.Ct {next:Int} {l:List Int} {us:Used V} (h:TI next l us) (hl:0 < l.length):least us=at_ l 0:=by
  have hm:at_ l 0∈l:=tF.2 ⟨0,hl,rfl⟩
  obtain⟨b1,b2,b3⟩:=h.back _ hm
  refine yG h.rise (fun x hx=>(h.pos x hx).1) b1 b3 (fun x h1 h2=>(h.all x h1 (by omega)).resolve_right (fun hx=>?_))
  obtain⟨k,hk,e⟩:=tF.1 hx
  have:=bq.least h.heap k hk
  omega
theorem TI.Pp {next:Int} {l l':List Int} {us:Used V} (h:TI next l us) (hl:0 < l.length) (v:V) (hlen:l'.length+1=l.length) (hp:Hp l'.length l') (hi:yD l') (hm:∀ x,x∈l'↔x∈l/\x≠at_ l 0) :
    TI next l' (ins (at_ l 0) v us):=by
  have h0:at_ l 0∈l:=tF.2 ⟨0,hl,rfl⟩
  obtain⟨b1,b2,b3⟩:=h.back _ h0
  have hc:=h.count
  refine⟨wJ h.rise b3,fun x hx=>?_,fun x hx=>?_,fun x h1 h2=>?_,by rw [iG];push_cast;omega,hp,hi⟩
  ·rcases (l5 _ v us x).1 hx with e|e
   ·omega
   exact h.pos x e
  ·have hx':=(hm x).1 hx
   have:=h.back x hx'.1
   refine⟨this.1,this.2.1,fun hk=>?_⟩
   rcases (l5 _ v us x).1 hk with e|e
   ·exact hx'.2 e
   exact this.2.2 e
  by_cases e:x=at_ l 0
  ·exact .inl ((l5 _ v us x).2 (.inl e))
  rcases h.all x h1 h2 with h3|h3
  ·exact .inl ((l5 _ v us x).2 (.inr h3))
  exact .inr ((hm x).2 ⟨h3,e⟩)
theorem TI.drop {next h0:Int} {l l':List Int} {us:Used V} (h:TI next l us) (hm:h0∈keys us) (hs:Same (l++[h0]) l') (hp:Hp l'.length l'):TI next l' (del h0 us):=by
  obtain⟨p1,p2⟩:=h.pos _ hm
  have hn:h0∉l:=fun hx=>(h.back _ hx).2.2 hm
  have hlen:=hs.len
  rw [List.length_append,List.length_singleton] at hlen
  have hc:=h.count
  have hd:=nE h.rise hm
  refine⟨?_,fun x hx=>?_,fun x hx=>?_,fun x h1 h2=>?_,by omega,hp,hs.inj ?_⟩
  ·rw [ox];exact List.Pairwise.filter _ h.rise
  ·rw [ox,List.mem_filter] at hx
   exact h.pos x hx.1
  ·rw [hs.mem,List.mem_append,List.mem_singleton] at hx
   rw [ox,List.mem_filter]
   rcases hx with hx|hx
   ·have:=h.back x hx
    exact⟨this.1,this.2.1,fun hk=>this.2.2 hk.1⟩
   subst hx
   exact⟨p1,p2,fun hk=>by simp at hk⟩
  ·rw [ox,List.mem_filter,hs.mem,List.mem_append,List.mem_singleton]
   rcases h.all x h1 h2 with h3|h3
   ·by_cases e:x=h0
    ·exact .inr (.inr e)
    exact .inl ⟨h3,by simpa using e⟩
   exact .inr (.inl h3)
  intro a b ha hb e
  rw [List.length_append,List.length_singleton] at ha hb
  have g:∀ k,k < l.length->at_ (l++[h0]) k=at_ l k:=fun k hk=>by
    unfold at_;rw [List.getD_eq_getElem?_getD,List.getD_eq_getElem?_getD,List.getElem?_append_left hk]
  have g2:at_ (l++[h0]) l.length=h0:=by unfold at_;simp [List.getD_eq_getElem?_getD]
  have inl:∀ k,k < l.length->at_ l k≠h0:=fun k hk e=>hn (e ▸ tF.2 ⟨k,hk,rfl⟩)
  by_cases ha':a < l.length
  ·by_cases hb':b < l.length
   ·rw [g a ha',g b hb'] at e;exact h.inj a b ha' hb' e
   obtain rfl:b=l.length:=by omega
   rw [g a ha',g2] at e;exact absurd e (inl a ha')
  obtain rfl:a=l.length:=by omega
  by_cases hb':b < l.length
  ·rw [g b hb',g2] at e;exact absurd e.symm (inl b hb')
  omega
end Go.Proofs.YtiehgnlnofhbaaaGreatDoor.aF
end
namespace Go.Proofs.YtiehgnlnofhbaaaGreatDoor
section
open Go.RowKit bq aF Go.Maps
def bA (us:Used Value):Lit->Option Value
  | .int .i64 h=>aF.get us h
  | _=>none
theorem DZ {us:Used Value} {h:Int} (hn:h∉keys us) (v:Value):kD (bA us) (.int .i64 h) (some v)=bA (ins h v us):=by
  funext x
  unfold kD bA
  cases x with
  | int k n=>
    by_cases hk:k=.i64
    ·subst hk
     simp only [Lit.sameKey,true_and,decide_eq_true_eq]
     rw [kZ hn]
    have e:(Lit.int k n).sameKey (.int .i64 h)=false:=by simp [Lit.sameKey,hk]
    rw [e]
    cases k<;>first|rfl|exact absurd rfl hk
  | _=>rfl
theorem JM {us:Used Value} {h:Int}:kD (bA us) (.int .i64 h) none=bA (del h us):=by
  funext x
  unfold kD bA
  cases x with
  | int k n=>
    by_cases hk:k=.i64
    ·subst hk
     simp only [Lit.sameKey,true_and,decide_eq_true_eq]
     rw [qv]
    have e:(Lit.int k n).sameKey (.int .i64 h)=false:=by simp [Lit.sameKey,hk]
    rw [e]
    cases k<;>first|rfl|exact absurd rfl hk
  | _=>rfl
structure Xb (TT:TypeId) (t m base:Nat) (v:Value) (l:List Int) (next most aD:Int) (us:Used Value) (w:World):Prop where
  blk:w.heap[t]?=some (.cells #[.int .i64 most,.int .i64 aD,.map (some m),v,.int .i64 next] TT (0,0))
  map:gA Tryz.prog 3 w m (bA us) us.length
  own:w.ownsRow base 3 1 v l.length (ints l)
  ti:TI next l us
  ux:(us.length:Int)<=most
  uy:most<=1024
  uz:next<=most+1
  tt:TT≠3
  bt:base<=t
  bm:base<=m
  wK:0<=aD/\aD<=1024
def ZB (TT:TypeId) (t m base:Nat) (row:Option Nat) (most aD:Int) (us:Used Value) (w:World):Prop:=
  ∃ v l next,Xb TT t m base v l next most aD us w/\v.ownBlock=row
section tab
variable {TT:TypeId} {t m base:Nat} {v:Value} {l:List Int} {next most aD:Int} {us:Used Value} {w w':World} {row:Option Nat}
end tab
end
section
open Go.RowKit bq aF Go.Maps
theorem Spec.V6 {P:Program} {β:Bs} {f:FuncId} {args:Array Value} {pre:List HP} {post:Value->List HP->Prop}
    (h:∀ F w,(Proofs.YtiehgnlnofhbaaaGreatDoor.fD pre).h F w->Calls P f args w fun e w'=>∃ v l,e=.returned v/\post v l/\∃ F',(Proofs.YtiehgnlnofhbaaaGreatDoor.fD l).h F' w'/\Step F w F' w'):Spec P β f args pre post:=by
  intro R w hS
  have h1:Sat β ([.abs (Proofs.YtiehgnlnofhbaaaGreatDoor.fD pre)]++[.abs R]) w:=Sat.turn (Sat.turn hS).fD
  have h2:Spec P β f args [.abs (Proofs.YtiehgnlnofhbaaaGreatDoor.fD pre)] (fun v l=>∃ l0,post v l0/\l=[.abs (Proofs.YtiehgnlnofhbaaaGreatDoor.fD l0)]):=
    Spec.XS (fun F w hF=>(h F w hF).mono fun _ _ ⟨v,l,e,hp,hF'⟩=>⟨v,.abs (Proofs.YtiehgnlnofhbaaaGreatDoor.fD l),e,⟨l,hp,rfl⟩,hF'⟩)
  refine (h2 R w h1).mono ?_
  rintro e w' ⟨v,l,he,⟨l0,hp,rfl⟩,vJ⟩
  exact⟨v,l0,he,hp,Sat.turn (Sat.turn vJ).o9⟩
theorem FE {p q:HP} {F:Fp} {w:World}:(fD [p,q]).h F w↔∃ F1 F2,p.h F1 w/\q.h F2 w/\Apart F1 F2/\∀ k,F k↔F1 k\/F2 k:=by
  constructor
  ·rintro⟨φ,h1,h2,h3⟩
   refine⟨φ 0,φ 1,h1 0 p rfl,h1 1 q rfl,h2 0 1 (by simp) (by simp) (by decide),fun k=>(h3 k).trans ⟨fun ⟨i,hi,hk⟩=>?_,fun h=>?_⟩⟩
   ·have hi:i < 2:=hi
    rcases (by omega:i=0\/i=1) with rfl|rfl
    ·exact .inl hk
    exact .inr hk
   rcases h with h|h
   ·exact⟨0,by simp,h⟩
   exact⟨1,by simp,h⟩
  rintro⟨F1,F2,h1,h2,h3,h4⟩
  refine⟨fun i=>if i=0 then F1 else F2,fun i x hx=>?_,fun i j hi hj hne=>?_,fun k=>(h4 k).trans ⟨fun h=>?_,fun ⟨i,hi,hk⟩=>?_⟩⟩
  ·match i,hx with
   | 0,hx=>cases hx;exact h1
   | 1,hx=>cases hx;exact h2
  ·have hi:i < 2:=hi
   have hj:j < 2:=hj
   rcases (by omega:(i=0/\j=1)\/(i=1/\j=0)) with ⟨rfl,rfl⟩|⟨rfl,rfl⟩
   ·exact h3
   exact h3.symm
  ·rcases h with h|h
   ·exact⟨0,by simp,h⟩
   exact⟨1,by simp,h⟩
  have hi:i < 2:=hi
  rcases (by omega:i=0\/i=1) with rfl|rfl
  ·exact .inl hk
  exact .inr hk
theorem Sat.Vq {β:Bs} {l:List HP} {w:World} {A:bW} {ι:Type} {Φ:ι->Prop} {L:ι->List HP} (h:Sat β (l++[.abs A]) w) (hA:∀ F,A.h F w->∃ i,Φ i/\(Proofs.YtiehgnlnofhbaaaGreatDoor.fD (L i)).h F w):∃ i,Φ i/\Sat β (l++L i) w:=by
  obtain⟨F,hF⟩:=h.get (i:=l.length) (p:=.abs A) (by simp)
  have h0:=h
  obtain⟨ho,φ,h1,h2,h3⟩:=h
  obtain⟨i,hi,hB⟩:=hA _ (h1 l.length (.abs A) (by simp))
  refine⟨i,hi,Sat.o9 ⟨ho,φ,fun j p hp=>?_,fun j hj=>h2 j (by simpa using hj),fun a b ha hb=>h3 a b (by simpa using ha) (by simpa using hb)⟩⟩
  by_cases e:j < l.length
  ·rw [List.getElem?_append_left e] at hp
   exact h1 j p (by rw [List.getElem?_append_left e];exact hp)
  have hj:j=l.length:=by have:=bw hp;simp at this;omega
  subst hj
  simp at hp
  subst hp
  exact hB
theorem Sat.Tw {β:Bs} {l R:List HP} {w:World} {A:bW} (h:Sat β (l++R) w) (hA:∀ F,(Proofs.YtiehgnlnofhbaaaGreatDoor.fD R).h F w->A.h F w):Sat β (l++[.abs A]) w:=by
  obtain⟨ho,φ,h1,h2,h3⟩:=h.fD
  refine⟨ho,φ,fun j p hp=>?_,fun j hj=>h2 j (by simpa using hj),fun a b ha hb=>h3 a b (by simpa using ha) (by simpa using hb)⟩
  by_cases e:j < l.length
  ·rw [List.getElem?_append_left e] at hp
   exact h1 j p (by rw [List.getElem?_append_left e];exact hp)
  have hj:j=l.length:=by have:=bw hp;simp at this;omega
  subst hj
  simp at hp
  subst hp
  exact hA _ (h1 l.length (.abs (Proofs.YtiehgnlnofhbaaaGreatDoor.fD R)) (by simp))
section rules
variable {P:Program} {β:Bs} {N:dG} {ops:Array Oper} {k:Nat} {fr:Fr} {hps:List HP} {Q:Post} {c:Code} {e:Exit}
theorem af.D1 {ι:Type} {Φ:ι->Prop} {hp:ι->List HP} (h:∀ w,Sat β hps w->∃ i,Φ i/\Sat β (hp i) w) (K:∀ i,Φ i->af P β N c fr (hp i) Q):af P β N c fr hps Q:=fun junk w hS=>let ⟨i,hi,cE⟩:=h w hS;K i hi junk w cE
end rules
theorem xJ {w:World} {t j:Nat} {cs:List Value} {T:TypeId} {u:Value} (h:w.heap[t]?=some (.cells ⟨cs⟩ T (0,0))):(w.setCell ⟨t,j,none⟩ u).heap[t]?=some (.cells ⟨cs.set j u⟩ T (0,0)):=by
  simp [World.setCell,Array.getElem?_modify,h,Array.setIfInBounds_def]
  exact fun h=>(List.set_eq_of_length_le h).symm
theorem Tx {β:Bs} {T:TypeId} {a b c e:Value} {t g cap n:Nat} {l:List Int} (hl:l.length=n+1) (hp:Hp (n+1) l) (hi:yD l) (hm:n+1<=1048576) :
    Spec Tryz.prog β 211 #[.iface 316 (.pointer (some ⟨t,3,none⟩))] [.blk t [a,b,c,.slice (some ⟨g,0,none⟩) l.length cap,e] T,.abs (aH 3 1 (some ⟨g,0,none⟩) l.length cap (ints l))]
      (fun v r=>v=.iface 3 (.int .i64 (at_ l 0))/\∃ l':List Int,l'.length=n/\Hp n l'/\yD l'/\(∀ x,x∈l'↔x∈l/\x≠at_ l 0)/\r=[.blk t [a,b,c,.slice (some ⟨g,0,none⟩) n cap,e] T,.abs (aH 3 1 (some ⟨g,0,none⟩) n cap (ints l'))]):=by
  refine Spec.V6 (fun F w h=>?_)
  obtain⟨F1,F2,⟨h1,h2⟩,hr,hap,hF⟩:=FE.1 h
  have hr:(aH 3 1 (some ⟨g,0,none⟩) l.length cap (ints l)).h F2 w:=hr
  obtain⟨hr1,hr2⟩:=hr
  have hg:F2 g:=(hr2 g).2 rfl
  have hne:t≠g:=fun e=>hap t ((h2 t).2 rfl) (e ▸ hg)
  have hc:w.cell? ⟨t,3,none⟩=some (.slice (some ⟨g,0,none⟩) l.length cap)/\w.frozen? ⟨t,3,none⟩=false:=ia h1 rfl rfl rfl
  have hW:HW t 3 g cap 0 l w:=⟨hc.1,hr1,hne,lt_of_some h1⟩
  refine (Pm t 3 g cap 0 n l w hW hl hp hi hm hc.2).mono ?_
  rintro e' w' ⟨rfl,l',w1,g1,g2,g3,g4,g5,g6,rfl⟩
  have h1':w1.heap[t]?=some (.cells ⟨[a,b,c,.slice (some ⟨g,0,none⟩) l.length cap,e]⟩ T (0,0)):=(g6.block t (lt_of_some h1) (fun e=>hne e)).trans h1
  have hks:Keeps (·=t) w1 (w1.setCell ⟨t,3,none⟩ (.slice (some ⟨g,0,none⟩) n cap)):=(Keeps.refl (·=t) w1).setCell (p:=⟨t,3,none⟩) (.inr rfl) _
  refine⟨_,_,rfl,⟨rfl,l',g1,g2,g3,g4,rfl⟩,F,FE.2 ⟨F1,F2,⟨xJ h1',h2⟩,⟨hks.ownsRow g5 (fun k hk e=>?_),fun k=>?_⟩,hap,hF⟩,⟨?_,fun _ h=>.inl h⟩⟩
  ·cases hk;exact hne e.symm
  ·rw [hr2 k];simp [Value.ownBlock]
  exact (g6.mono (S':=F) (fun k _ e=>(hF k).2 (.inr (e ▸ hg)))).trans (hks.mono (fun k _ e=>(hF k).2 (.inl ((h2 k).2 e))))
theorem RZ {β:Bs} {T:TypeId} {a b c e:Value} {t cap:Nat} {A:Option Addr} {l:List Int} (x:Int) (hp:Hp l.length l) (hm:l.length+1<=1048576) :
    Spec Tryz.prog β 209 #[.iface 316 (.pointer (some ⟨t,3,none⟩)),.iface 3 (.int .i64 x)] [.blk t [a,b,c,.slice A l.length cap,e] T,.abs (aH 3 1 A l.length cap (ints l))]
      (fun v r=>v=.tuple #[]/\∃ (g c':Nat) (l':List Int),Same (l++[x]) l'/\Hp l'.length l'/\r=[.blk t [a,b,c,.slice (some ⟨g,0,none⟩) l'.length c',e] T,.abs (aH 3 1 (some ⟨g,0,none⟩) l'.length c' (ints l'))]):=by
  refine Spec.V6 (fun F w h=>?_)
  obtain⟨F1,F2,⟨h1,h2⟩,hr,hap,hF⟩:=FE.1 h
  have hr:(aH 3 1 A l.length cap (ints l)).h F2 w:=hr
  obtain⟨hr1,hr2⟩:=hr
  have hc:w.cell? ⟨t,3,none⟩=some (.slice A l.length cap)/\w.frozen? ⟨t,3,none⟩=false:=ia h1 rfl rfl rfl
  have hne:(Value.slice A l.length cap).ownBlock≠some t:=fun e=>hap t ((h2 t).2 rfl) ((hr2 t).2 e)
  refine (MS t 3 0 (.slice A l.length cap) l x w hc.1 hc.2 hr1 hne hm (Nat.zero_le _) hp (lt_of_some h1)).mono ?_
  rintro e' w' ⟨rfl,g,c',l',g1,g2,g3,g4,w1,g5,g6⟩
  have Cu:t≠g:=g3.ne
  have hlen:l'.length=l.length+1:=by have:=g1.len;simp at this;omega
  have h1':w1.heap[t]?=some (.cells ⟨[a,b,c,.slice A l.length cap,e]⟩ T (0,0)):=(g5.block t (lt_of_some h1) hne).trans h1
  have Ty:=xJ (j:=3) (u:=.slice (some ⟨g,0,none⟩) (l.length+1) c') h1'
  have Xc:w'.heap[t]?=some (.cells ⟨[a,b,c,.slice (some ⟨g,0,none⟩) l'.length c',e]⟩ T (0,0)):=by
    rw [hlen];exact (g6.block t (lt_of_some Ty) Cu).trans Ty
  have hks:Keeps (·=t) w1 (w1.setCell ⟨t,3,none⟩ (.slice (some ⟨g,0,none⟩) (l.length+1) c')):=(Keeps.refl (·=t) w1).setCell (p:=⟨t,3,none⟩) (.inr rfl) _
  refine⟨_,_,rfl,⟨rfl,g,c',l',g1,g2,rfl⟩,fun k=>F1 k\/k=g,FE.2 ⟨F1,fun k=>k=g,⟨Xc,h2⟩,⟨g3.own,fun k=>?_⟩,fun k hk e=>Cu (((h2 k).1 hk).symm.trans e),fun k=>Iff.rfl⟩,⟨?_,fun k hk=>?_⟩⟩
  ·simp [Value.ownBlock,eq_comm]
  ·have k1:Keeps F w w1:=g5.mono (fun k _ hk=>(hF k).2 (.inr ((hr2 k).2 hk)))
   have k2:Keeps F w (w1.setCell ⟨t,3,none⟩ (.slice (some ⟨g,0,none⟩) (l.length+1) c')):=k1.trans (hks.mono (fun k _ e=>(hF k).2 (.inl ((h2 k).2 e))))
   exact k2.andThen g6 (fun i hi e=>by
     rcases g4 with g4|g4
     ·exact (hF i).2 (.inr ((hr2 i).2 (e ▸ g4)))
     subst e;omega)
  rcases hk with hk|rfl
  ·exact .inl ((hF k).2 (.inl hk))
  rcases g4 with g4|g4
  ·exact .inl ((hF _).2 (.inr ((hr2 _).2 g4)))
  exact .inr g4
structure iX (next:Int) (l:List Int) (us:Used Value) (most aD:Int):Prop where
  ti:TI next l us
  ux:(us.length:Int)<=most
  uy:most<=1024
  uz:next<=most+1
  zU:next<=aD+1
  wK:0<=aD/\aD<=1024
theorem iX.JN {next:Int} {l:List Int} {us:Used Value} {most aD:Int} (h:iX next l us most aD):1<=aF.least us/\aF.least us<=next/\aF.least us∉keys us/\next<=1025/\1<=next/\us.length<=1024/\l.length<=1024:=by
  obtain⟨h1,h2,h3⟩:=nF (keys us) 1 h.ti.rise (fun x hx=>(h.ti.pos x hx).1)
  have hc:=h.ti.count
  have m0:=h.ux
  have m1:=h.uy
  have n1:=h.uz
  refine⟨h1,?_,h2,by omega,by omega,by omega,by omega⟩
  rcases Int.lt_or_le next (aF.least us) with h4|h4
  ·have:=h3 next (by omega) h4
   have:=(h.ti.pos _ this).2
   omega
  exact h4
theorem Gw:bA []=fun _=>none:=by
  funext x
  unfold bA
  split<;>rfl
theorem EO {us:Used Value} {h:Int} (hn:h∉keys us):bA us (.int .i64 h)=none:=get_none.2 hn
structure TX where
  m:Nat
  A:Option Addr
  c:Nat
  l:List Int
  next:Int
def mR (TT:TypeId) (t:Nat) (most aD:Int) (us:Used Value) (x:TX):List HP:=
  [.blk t [.int .i64 most,.int .i64 aD,.map (some x.m),.slice x.A x.l.length x.c,.int .i64 x.next] TT,.abs (aP Tryz.prog 3 x.m (bA us) us.length),.abs (aH 3 1 x.A x.l.length x.c (ints x.l))]
def dx (TT:TypeId) (t:Nat) (most aD:Int) (us:Used Value):bW where
  h F w:=∃ x:TX,iX x.next x.l us most aD/\(fD (mR TT t most aD us x)).h F w
  lt:=fun ⟨_,_,h⟩ k hk=>bW.lt _ h k hk
  st:=fun ⟨x,h1,h⟩ _ _ hk hn=>⟨x,h1,bW.st _ h hk hn⟩
theorem Sat.sU {β:Bs} {TT:TypeId} {t:Nat} {most aD:Int} {us:Used Value} {l:List HP} {w:World} (h:Sat β (l++[.abs (dx TT t most aD us)]) w):∃ x:TX,iX x.next x.l us most aD/\Sat β (l++mR TT t most aD us x) w:=
  h.Vq (fun _ h=>h)
theorem Sat.mT {β:Bs} {TT:TypeId} {t:Nat} {most aD:Int} {us:Used Value} {l:List HP} {w:World} (x:TX) (hx:iX x.next x.l us most aD) (h:Sat β (l++mR TT t most aD us x) w):Sat β (l++[.abs (dx TT t most aD us)]) w:=
  h.Tw (fun _ h=>⟨x,hx,h⟩)
end
section
open Go.RowKit Go.Maps Go.Sort Go.Shelf bq aF
theorem iR {z:Int} (h:(Lit.int .i64 z).wf=true):keyOf Tryz.prog 3 (.int .i64 z)=some (.int .i64 z):=
  keyOf_int_mk Tryz.underlying3 h
theorem EP:∀ {l m:List Int},l.Pairwise (· < ·)->m.Pairwise (· < ·)->(∀ z,z∈l↔z∈m)->l=m
  | [],[],_,_,_=>rfl
  | [],b::m,_,_,h=>by have:=(h b).2 (List.mem_cons_self ..);cases this
  | a::l,[],_,_,h=>by have:=(h a).1 (List.mem_cons_self ..);cases this
  | a::l,b::m,hl,hm,h=>by
    have hl':=List.pairwise_cons.1 hl
    have hm':=List.pairwise_cons.1 hm
    have e:a=b:=by
      rcases List.mem_cons.1 ((h a).1 (List.mem_cons_self ..)) with e|e
      ·exact e
      rcases List.mem_cons.1 ((h b).2 (List.mem_cons_self ..)) with e2|e2
      ·exact e2.symm
      have:=hm'.1 a e;have:=hl'.1 b e2;omega
    subst e
    congr 1
    refine EP hl'.2 hm'.2 (fun z=>⟨fun hz=>?_,fun hz=>?_⟩)
    ·rcases List.mem_cons.1 ((h z).1 (List.mem_cons_of_mem _ hz)) with e|e
     ·have:=hl'.1 z hz;omega
     exact e
    rcases List.mem_cons.1 ((h z).2 (List.mem_cons_of_mem _ hz)) with e|e
    ·have:=hm'.1 z hz;omega
    exact e
theorem KN (x y:Int):(if y > x then y else x)=max x y:=by
  rw [Int.max_def];split<;>split<;>omega
theorem QS (x y:Int):(if y < x then y else x)=min x y:=by
  rw [Int.min_def];split<;>split<;>omega
theorem Tz (m:Nat):AnyZI.SortsIn Tryz.prog Tryz.sortedI_ren Fence.wide m:=
  ⟨fun blk off cap ss W hH hblk hsz=>callsIn_wide.2 (AnyM.slices_Sort_int Tryz.sortI blk off cap ss W hH hblk hsz),
   fun p cap W=>callsIn_wide.2 (AnyM.slices_Sort_int_none Tryz.sortI p cap W)⟩
def Cv (bk:Nat):Value:=.func (.func 79) #[] #[.pointer (some ⟨bk,0,none⟩)]
theorem Gx {β:Bs} (mb:Option Nat):Spec Tryz.prog β 57 #[.map mb] [] (fun v l=>∃ bk,v=Cv bk/\l=[.blk bk [.map mb] 151]):=
  Spec.FT fun W _=>by
    have h:CallsIn Fence.wide 5 Tryz.prog 57 #[.map mb] W fun e w'=>e=.returned (Cv W.heap.size)/\w'=W.alloc (.cells #[.map mb] 151):=AnyZI.keys_in Tryz.keysI Fence.wide 5 trivial rfl mb W
    refine ((callsIn_wide (n:=5)).1 h).mono ?_
    rintro e w' ⟨rfl,rfl⟩
    refine⟨_,_,rfl,⟨W.heap.size,rfl,rfl⟩,(Keeps.refl _ _).alloc _,fun k=>k=W.heap.size,⟨?_,fun k=>Iff.rfl⟩,fun k hk=>Nat.le_of_eq hk.symm⟩
    show (W.heap.push _)[W.heap.size]?=_
    simp
structure KeysOf (f:Lit->Option Value) (ss:List Int):Prop where
  mem:∀ z,z∈ss↔(f (.int .i64 z)).isSome=true
  sorted:ss.Pairwise (· < ·)
theorem KO {w:World} {b n:Nat} {K:TypeId} {f:Lit->Option Value} {D:DataW Value} (hK:Tryz.prog.underlying K=some (.int .i64)) (L:Keyed Tryz.prog K) (hown:w.ownsMap Tryz.prog K sB b n D) (hf:∀ kl,Maps.has D kl=(f kl).isSome) {ss:List Int} (hp:ss.Perm (intKeys D)) :
    KeysOf f (ss.mergeSort (fun x y=>decide (x<=y))):=by
  obtain⟨es,hD,hpw,_⟩:=hown.entries L
  obtain⟨es',hD',hko⟩:=hown.keysOf
  obtain rfl:es=es':=by rw [hD] at hD';simpa using hD'
  have hk:∀ p∈es,∃ x,p.1=.int .i64 x:=fun p hp=>by
    obtain⟨v,hv⟩:=hko p hp
    obtain⟨x,_,h,_⟩:=keyOf_i64 hK hv
    exact⟨x,h⟩
  have hmem:∀ z,z∈intKeys D↔(f (.int .i64 z)).isSome=true:=fun z=>by
    rw [← hf,hD]
    show z∈es.map (fun p=>Go.intOf p.1)↔es.any (fun p=>p.1.sameKey (.int .i64 z))=true
    rw [List.mem_map,List.any_eq_true]
    refine⟨fun ⟨p,hp,e⟩=>⟨p,hp,?_⟩,fun ⟨p,hp,e⟩=>⟨p,hp,?_⟩⟩
    ·obtain⟨x,hx⟩:=hk p hp
     rw [hx] at e ⊢
     have e:x=z:=e
     simp [Lit.sameKey,e]
    obtain⟨x,hx⟩:=hk p hp
    rw [hx] at e ⊢
    show x=z
    simpa [Lit.sameKey] using e
  have hnd:(intKeys D).Nodup:=by
    rw [hD]
    show (es.map fun p=>Go.intOf p.1).Nodup
    rw [List.nodup_iff_pairwise_ne,List.pairwise_map]
    refine hpw.imp_of_mem (fun {p q} hp hq hne e=>hne ?_)
    obtain⟨x,hx⟩:=hk p hp
    obtain⟨y,hy⟩:=hk q hq
    rw [hx,hy] at e ⊢
    have e:x=y:=e
    rw [e]
  have tr:∀ a b c:Int,decide (a<=b)=true->decide (b<=c)=true->decide (a<=c)=true:=fun a b c h1 h2=>by simp only [decide_eq_true_eq] at *;omega
  have to:∀ a b:Int,(decide (a<=b) || decide (b<=a))=true:=fun a b=>by simp only [Bool.or_eq_true,decide_eq_true_eq];omega
  have hperm:=(List.mergeSort_perm ss (fun x y=>decide (x<=y))).trans hp
  refine⟨fun z=>by rw [hperm.mem_iff,hmem],?_⟩
  have h1:=List.pairwise_mergeSort tr to ss
  have h2:(ss.mergeSort (fun x y=>decide (x<=y))).Nodup:=hperm.nodup_iff.2 hnd
  rw [List.nodup_iff_pairwise_ne] at h2
  refine (h1.and h2).imp (fun {a b} h=>?_)
  have h3:=h.1
  have h4:=h.2
  simp only [decide_eq_true_eq] at h3
  omega
theorem Cw {β:Bs} (b bk n:Nat) (f:Lit->Option Value) (hn:n<=16777216) :
    Spec Tryz.prog β 37 #[Cv bk] [.abs (aP Tryz.prog 3 b f n),.blk bk [.map (some b)] 151] (fun v l=>∃ A cap ss,v=.slice A ss.length cap/\KeysOf f ss/\ss.length=n ∧
      l=[.abs (aP Tryz.prog 3 b f n),.blk bk [.map (some b)] 151,.abs (aH 3 1 A ss.length cap (ints ss))]):=by
  intro R w hS
  obtain⟨F1,h1⟩:=hS.get (i:=0) (p:=.abs (aP Tryz.prog 3 b f n)) rfl
  obtain⟨F2,h2⟩:=hS.get (i:=1) (p:=.blk bk [.map (some b)] 151) rfl
  obtain⟨D,hown,hsz,hhas,_⟩:=h1.1
  have hcell:w.cell? ⟨bk,0,none⟩=some (.map (some b)):=(ia h2.1 rfl rfl rfl).1
  have hseq:SeqGives Fence.wide 2 Tryz.prog 79 #[.pointer (some ⟨bk,0,none⟩)] encZ (fun ss=>ss.Perm (intKeys D)) (Maps.size D) w:=
    AnyZI.keys_gives (ρ:=Tryz.keysI_ren) { Tryz.keysI with } Fence.wide _ trivial rfl (by omega) bk b n D w (lt_of_some h2.1) hcell hown
  have cS:=AnyZI.sorted_in Tryz.sortedI Fence.wide 5 trivial trivial trivial trivial rfl (by omega) (Tz _) (enters_of Tryz.func62 (by kernel_rfl) rfl) 79 #[.pointer (some ⟨bk,0,none⟩)] trivial (enters_of Tryz.func79 (by kernel_rfl) rfl) _ _ (by rw [hsz];unfold maxLen;omega) (by rw [hsz];omega) _ hseq
  change CallsIn _ _ Tryz.prog 37 _ _ _ at cS
  refine ((callsIn_wide (n:=5)).1 cS).mono ?_
  rintro e w' ⟨v,ss,rfl,hp,hrow,hnil,hb⟩
  have hlen:(ss.mergeSort (fun x y=>decide (x<=y))).length=ss.length:=List.length_mergeSort ss
  have hkeys:=KO Tryz.underlying3 dZ hown hhas hp
  have x7:∃ A cap,v=.slice A ss.length cap:=by
    rcases hrow.2 with ⟨e1,e2⟩|⟨g,cp,cur,e1,_⟩
    ·exact⟨none,0,by rw [e1,e2]⟩
    exact⟨_,cp,e1⟩
  obtain⟨A,cap,rfl⟩:=x7
  have hn1:ss.length=n:=by
    rw [hp.length_eq,← hsz]
    obtain⟨es,hD,_⟩:=hown.entries dZ
    rw [hD]
    exact List.length_map ..
  have hq:Sat β ([.abs (aP Tryz.prog 3 b f n),.blk bk [.map (some b)] 151,.abs R]++[.abs (aH 3 1 A ss.length cap (ints (ss.mergeSort (fun x y=>decide (x<=y)))))]) w':=by
    refine Sat.new (F:=fun k=>(Value.slice A ss.length cap).ownBlock=some k) hS ⟨?_,fun k=>Iff.rfl⟩ ⟨hb.os,hb.tape,hb.output,hb.size,fun k hk _=>hb.block k hk⟩ (fun k hk=>(hrow.lt k hk).1)
    refine⟨hrow.1,?_⟩
    rcases hrow.2 with h|⟨g,cp,cur,e1,_,h3,h4⟩
    ·exact .inl h
    exact .inr ⟨g,cp,cur,e1,Nat.zero_le _,h3,h4⟩
  refine⟨_,[.abs (aP Tryz.prog 3 b f n),.blk bk [.map (some b)] 151,.abs (aH 3 1 A ss.length cap (ints (ss.mergeSort (fun x y=>decide (x<=y)))))],rfl,⟨A,cap,ss.mergeSort (fun x y=>decide (x<=y)),by rw [hlen],hkeys,by rw [hlen];exact hn1,by rw [hlen]⟩,?_⟩
  exact hq.pick (idx:=[0,1,3,2]) rfl rfl
end
section
open Go.RowKit bq aF Go.Maps
attribute [local irreducible] ak aU af aj
theorem JO {us:Used Value} {ss:List Int} (hr:aF.cJ (keys us)) (h:KeysOf (bA us) ss):ss=keys us:=by
  refine EP h.sorted hr (fun z=>?_)
  rw [h.mem]
  show (aF.get us z).isSome=true↔z∈keys us
  refine⟨fun h=>?_,fun h=>?_⟩
  ·obtain⟨x,hx⟩:=Option.isSome_iff_exists.1 h;exact get_some hx
  cases hg:aF.get us z with
  | some x=>rfl
  | none=>exact absurd h (get_none.1 hg)
theorem Gy {β:Bs} (most:Int) :
    Spec Tryz.prog β 77 #[vI (most)] [] (fun v l=>∃ t,v=vP t/\l=[.abs (dx 212 t (min (max most 0) 1024) 0 [])]):=by
 refine Spec.enter Tryz.func77 rfl Tryz.ntmps77 (Nat.le_of_ble_eq_true rfl) (fun R=>?_)
 refine SR (gK 1 [] [] ?_)
 refine NS (gK 3 [(5,vI (min (max most 0) 1024))] [(1,p_ ⟨[],none,none,none,some (vI (max most 0))⟩ [(Value.int .i64 (if 0 > most then 0 else most))=(.int .i64 (max most 0))] ⟨congrArg (Value.int .i64) (KN _ _),trivial⟩),(2,p_ ⟨[],none,none,none,some (vI (min (max most 0) 1024))⟩ [(Value.int .i64 (if 1024 < max most 0 then 1024 else max most 0))=(.int .i64 (min (max most 0) 1024))] ⟨congrArg (Value.int .i64) (QS _ _),trivial⟩)] ?_)
 refine ak.mz (d:=(some 6)) (t:=151) (fun _=>by kernel_rfl) Tryz.prog rfl 3 (fun m1=>?_)
 refine gN 3 (fun b2=>[(2,vP b2)]) (fun _=>[]) (fun _=>[]) (fun b2=>.blk b2 [vI (min (max most 0) 1024),vI 0,.map (some m1),.slice none (0) (0),vI 1] 212) (fun b2=>?_)
 refine NN (af.ret (aj.mem (dm:=[.abs R,.abs (aP Tryz.prog 3 m1 (fun _=>none) 0),.blk b2 [vI (min (max most 0) 1024),vI 0,.map (some m1),.slice none (0) (0),vI 1] 212,.abs (aH 3 1 none 0 0 ([]))]) (fun w hS=>hS.mo (e:=3) (size:=1)) ?_))
 refine aj.mem (dm:=[.abs R,.abs (dx 212 b2 (min (max most 0) 1024) 0 [])]) (fun w hS=>Sat.mT (l:=[.abs R]) ⟨m1,none,0,[],1⟩ ⟨TI.empty,by show ((0:Nat):Int)<=min (max most 0) 1024;omega,by omega,by show (1:Int)<=min (max most 0) 1024+1;omega,by show (1:Int)<=0+1;decide,by decide⟩ (by rw [← Gw] at hS;exact hS.pick (idx:=[0,2,1,3]) (l':=[.abs R]++mR 212 b2 (min (max most 0) 1024) 0 [] ⟨m1,none,0,[],1⟩) rfl rfl)) ?_
 exact RT (vP b2) [1,0] (⟨b2,rfl,rfl⟩)
theorem tG {β:Bs} (t:Nat) (most aD:Int) (us:Used Value) (h:Int) (hw:(Lit.int .i64 h).wf=true) (x:Value) (hg:aF.get us h=some x) :
    Spec Tryz.prog β 198 #[vP t,vI (h)] [.abs (dx 212 t most aD us)] (fun v l=>v=.tuple #[x,vI 0]/\l=[.abs (dx 212 t most aD us)]):=by
 refine Spec.enter Tryz.func198 rfl Tryz.ntmps198 (Nat.le_of_ble_eq_true rfl) (fun R=>?_)
 refine af.seq (af.D1 (Φ:=fun x:TX=>iX x.next x.l us most aD) (hp:=fun x=>[.abs R]++mR 212 t most aD us x) (fun w hS=>(hS.pick (idx:=[1,0]) (l':=[.abs R]++[.abs (dx 212 t most aD us)]) rfl rfl).sU) (fun x hT=>?_))
 obtain⟨m,A,c,l,next⟩:=x
 replace hT:iX next l us most aD:=hT
 have hb:=hT.JN
 have hm0:=hT.ux
 have hm1:=hT.uy
 have hn1:=hT.uz
 have hn2:=hT.zU
 have JQ:=hT.wK
 have hct:=hT.ti.count
 show af _ _ _ _ _ [.abs R,.blk t [vI (most),vI (aD),.map (some m),.slice A (l.length) (c),vI (next)] 212,.abs (aP Tryz.prog 3 m (bA us) us.length),.abs (aH 3 1 A l.length c (ints l))] _
 refine af.region (gK 2 [] [] ?_)
 refine NS (gK 5 [(12,.map (some m)),(13,vI (h))] [(3,a_ 1 t)] ?_)
 refine ak.um 2 (d:=(some 14)) (t:=151) (K:=3) (E:=156) (b:=m) (n:=us.length) (f:=(bA us)) (x:=(.tmp 12)) (ix:=(.tmp 13)) (key:=.int .i64 (h)) (z:=.nilIface) (kl:=(.int .i64 h)) (r:=(some x)) (fun _=>by kernel_rfl) (by kernel_rfl) (fun _=>by kernel_rfl) (fun _=>by kernel_rfl) dZ Tryz.underlying151 (fun _=>by kernel_rfl) (iR hw) (hg) ?_
 refine gK 5 [(6,x),(7,.bool true)] [] ?_
 refine NN (af.seq (SR (gK 2 [(18,.bool false)] [] ?_)))
 refine NN (CF (af.skip (NX (SR (gK 3 [(4,x),(5,vI 0)] [] ?_)))))
 refine NN (af.ret (aj.mem (dm:=[.abs R,.abs (dx 212 t most aD us)]) (fun w hS=>Sat.mT (l:=[.abs R]) ⟨m,A,c,l,next⟩ (show iX (next) l (us) most (aD) from hT) (hS.pick (idx:=[0,1,2,3]) (l':=[.abs R]++mR 212 t most (aD) (us) ⟨m,A,c,l,next⟩) rfl rfl)) ?_))
 exact RT (.tuple #[x,vI 0]) [1,0] (⟨rfl,rfl⟩)
theorem yH {β:Bs} (t:Nat) (most aD:Int) (us:Used Value) (h:Int) (hw:(Lit.int .i64 h).wf=true) (hg:aF.get us h=none) :
    Spec Tryz.prog β 198 #[vP t,vI (h)] [.abs (dx 212 t most aD us)] (fun v l=>v=.tuple #[.nilIface,vI 131]/\l=[.abs (dx 212 t most aD us)]):=by
 refine Spec.enter Tryz.func198 rfl Tryz.ntmps198 (Nat.le_of_ble_eq_true rfl) (fun R=>?_)
 refine af.seq (af.D1 (Φ:=fun x:TX=>iX x.next x.l us most aD) (hp:=fun x=>[.abs R]++mR 212 t most aD us x) (fun w hS=>(hS.pick (idx:=[1,0]) (l':=[.abs R]++[.abs (dx 212 t most aD us)]) rfl rfl).sU) (fun x hT=>?_))
 obtain⟨m,A,c,l,next⟩:=x
 replace hT:iX next l us most aD:=hT
 have hb:=hT.JN
 have hm0:=hT.ux
 have hm1:=hT.uy
 have hn1:=hT.uz
 have hn2:=hT.zU
 have JQ:=hT.wK
 have hct:=hT.ti.count
 show af _ _ _ _ _ [.abs R,.blk t [vI (most),vI (aD),.map (some m),.slice A (l.length) (c),vI (next)] 212,.abs (aP Tryz.prog 3 m (bA us) us.length),.abs (aH 3 1 A l.length c (ints l))] _
 refine af.region (gK 2 [] [] ?_)
 refine NS (gK 5 [(12,.map (some m)),(13,vI (h))] [(3,a_ 1 t)] ?_)
 refine ak.um 2 (d:=(some 14)) (t:=151) (K:=3) (E:=156) (b:=m) (n:=us.length) (f:=(bA us)) (x:=(.tmp 12)) (ix:=(.tmp 13)) (key:=.int .i64 (h)) (z:=.nilIface) (kl:=(.int .i64 h)) (r:=none) (fun _=>by kernel_rfl) (by kernel_rfl) (fun _=>by kernel_rfl) (fun _=>by kernel_rfl) dZ Tryz.underlying151 (fun _=>by kernel_rfl) (iR hw) (hg) ?_
 refine gK 5 [(6,.nilIface),(7,.bool false)] [] ?_
 refine NN (af.seq (SR (gK 2 [(18,.bool true)] [] ?_)))
 refine NN (CT (SR (gK 3 [(4,.nilIface),(5,vI 131)] [] ?_)))
 refine NN (af.ret (aj.aq (aj.mem (dm:=[.abs R,.abs (dx 212 t most aD us)]) (fun w hS=>Sat.mT (l:=[.abs R]) ⟨m,A,c,l,next⟩ (show iX (next) l (us) most (aD) from hT) (hS.pick (idx:=[0,1,2,3]) (l':=[.abs R]++mR 212 t most (aD) (us) ⟨m,A,c,l,next⟩) rfl rfl)) ?_)))
 exact RT (.tuple #[.nilIface,vI 131]) [1,0] (⟨rfl,rfl⟩)
theorem yI {β:Bs} (t:Nat) (most aD:Int) (us:Used Value) (x:Value) (hf:most<=(us.length:Int)) :
    Spec Tryz.prog β 205 #[vP t,x] [.abs (dx 212 t most aD us)] (fun v l=>v=.tuple #[vI 0,vI 130]/\l=[.abs (dx 212 t most aD us)]):=by
 refine Spec.enter Tryz.func205 rfl Tryz.ntmps205 (Nat.le_of_ble_eq_true rfl) (fun R=>?_)
 refine af.seq (af.D1 (Φ:=fun x:TX=>iX x.next x.l us most aD) (hp:=fun x=>[.abs R]++mR 212 t most aD us x) (fun w hS=>(hS.pick (idx:=[1,0]) (l':=[.abs R]++[.abs (dx 212 t most aD us)]) rfl rfl).sU) (fun x hT=>?_))
 obtain⟨m,A,c,l,next⟩:=x
 replace hT:iX next l us most aD:=hT
 have hb:=hT.JN
 have hm0:=hT.ux
 have hm1:=hT.uy
 have hn1:=hT.uz
 have hn2:=hT.zU
 have JQ:=hT.wK
 have hct:=hT.ti.count
 show af _ _ _ _ _ [.abs R,.blk t [vI (most),vI (aD),.map (some m),.slice A (l.length) (c),vI (next)] 212,.abs (aP Tryz.prog 3 m (bA us) us.length),.abs (aH 3 1 A l.length c (ints l))] _
 refine af.region (gK 2 [] [] ?_)
 refine NN (af.seq (af.seq (af.eM (by kernel_rfl) (by kernel_rfl) ?_)))
 refine gQ 4 [(10,.map (some m))] [(3,a_ 1 t)] ?_
 refine aU.vD 2 (d:=(some 11)) (t:=151) (K:=3) (E:=156) (b:=m) (n:=us.length) (f:=(bA us)) (x:=(.tmp 10)) (ats:=#[151]) (fun _=>by kernel_rfl) (by kernel_rfl) (fun _=>by kernel_rfl) rfl Tryz.underlying151 ?_
 refine gQ 5 [(16,.bool (decide ((((us.length:Nat):Int):Int) ≥ (most:Int))))] [(3,a_ 1 t)] ?_
 refine NQ (NX ?_)
 refine af.aW (p:=(((us.length:Nat):Int):Int) ≥ (most:Int)) (fun _=>by kernel_rfl) (fun vK=>?_) (fun vK=>?_)
 ·refine SR (gK 2 [(4,vI 0),(5,vI 130)] [] ?_)
  refine NN (af.ret (aj.aq (aj.mem (dm:=[.abs R,.abs (dx 212 t most aD us)]) (fun w hS=>Sat.mT (l:=[.abs R]) ⟨m,A,c,l,next⟩ (show iX (next) l (us) most (aD) from hT) (hS.pick (idx:=[0,1,2,3]) (l':=[.abs R]++mR 212 t most (aD) (us) ⟨m,A,c,l,next⟩) rfl rfl)) ?_)))
  exact RT (.tuple #[vI 0,vI 130]) [1,0] (⟨rfl,rfl⟩)
 exact absurd vK (by omega)
theorem BA {β:Bs} (t:Nat) (most aD:Int) (us:Used Value) (x:Value) (hf:(us.length:Int) < most) :
    Spec Tryz.prog β 205 #[vP t,x] [.abs (dx 212 t most aD us)] (fun v l=>v=.tuple #[vI (least us),vI 0]/\l=[.abs (dx 212 t most (max aD ((us.length:Int)+1)) (ins (least us) x us))]):=by
 refine Spec.enter Tryz.func205 rfl Tryz.ntmps205 (Nat.le_of_ble_eq_true rfl) (fun R=>?_)
 refine af.seq (af.D1 (Φ:=fun x:TX=>iX x.next x.l us most aD) (hp:=fun x=>[.abs R]++mR 212 t most aD us x) (fun w hS=>(hS.pick (idx:=[1,0]) (l':=[.abs R]++[.abs (dx 212 t most aD us)]) rfl rfl).sU) (fun x hT=>?_))
 obtain⟨m,A,c,l,next⟩:=x
 replace hT:iX next l us most aD:=hT
 have hb:=hT.JN
 have hm0:=hT.ux
 have hm1:=hT.uy
 have hn1:=hT.uz
 have hn2:=hT.zU
 have JQ:=hT.wK
 have hct:=hT.ti.count
 show af _ _ _ _ _ [.abs R,.blk t [vI (most),vI (aD),.map (some m),.slice A (l.length) (c),vI (next)] 212,.abs (aP Tryz.prog 3 m (bA us) us.length),.abs (aH 3 1 A l.length c (ints l))] _
 refine af.region (gK 2 [] [] ?_)
 refine NN (af.seq (af.seq (af.eM (by kernel_rfl) (by kernel_rfl) ?_)))
 refine gQ 4 [(10,.map (some m))] [(3,a_ 1 t)] ?_
 refine aU.vD 2 (d:=(some 11)) (t:=151) (K:=3) (E:=156) (b:=m) (n:=us.length) (f:=(bA us)) (x:=(.tmp 10)) (ats:=#[151]) (fun _=>by kernel_rfl) (by kernel_rfl) (fun _=>by kernel_rfl) rfl Tryz.underlying151 ?_
 refine gQ 5 [(16,.bool (decide ((((us.length:Nat):Int):Int) ≥ (most:Int))))] [(3,a_ 1 t)] ?_
 refine NQ (NX ?_)
 refine af.aW (p:=(((us.length:Nat):Int):Int) ≥ (most:Int)) (fun _=>by kernel_rfl) (fun vK=>?_) (fun vK=>?_)
 ·exact absurd vK (by omega)
 refine af.skip (NX (SR (gK 5 [(6,vI (next))] [(3,a_ 1 t)] ?_)))
 refine NN (af.seq (SR (gK 6 [(26,.bool (decide ((((l.length:Nat):Int):Int) > (0:Int))))] [(3,a_ 1 t)] ?_)))
 refine NN (af.aW (p:=(((l.length:Nat):Int):Int) > (0:Int)) (fun _=>by kernel_rfl) (fun pN=>?_) (fun pN=>?_))
 ·refine af.region ?_
  obtain⟨n,hn⟩:∃ n,l.length=n+1:=⟨l.length - 1,by omega⟩
  refine ak.tell (p:=∃ g,A=some ⟨g,0,none⟩) (fun w hS=>let ⟨F,h⟩:=hS.get (i:=3) rfl;aH.head h (by omega)) (fun ⟨g,hg⟩=>?_)
  subst hg
  refine gK 4 [(31,.iface 316 (.pointer (some ⟨t,3,none⟩)))] [] ?_
  refine gL (f:=211) (args:=#[.iface 316 (.pointer (some ⟨t,3,none⟩))]) (pre:=[.blk t [vI (most),vI (aD),.map (some m),.slice (some ⟨g,0,none⟩) (l.length) (c),vI (next)] 212,.abs (aH 3 1 (some ⟨g,0,none⟩) l.length c (ints l))]) [1,3] (Tx hn (by have:=hT.ti.heap;rwa [hn] at this) hT.ti.inj (by omega)) ?_
  rintro _ _ ⟨rfl,l2,rfl,hp2,hi2,hm2,rfl⟩
  refine gK 5 [(6,vI ((at_ l 0)))] [] ?_
  refine NS (ak.slot 6 (.int .i64 ((at_ l 0))) (.int .i64 ((least us))) (fun _=>by kernel_rfl) (by rw [hT.ti.Ct (by omega)]) ?_)
  refine gK 6 [(46,.map (some m)),(47,vI ((least us))),(48,x)] [(3,a_ 0 t)] ?_
  refine ak.kU 3 (d:=none) (t:=151) (K:=3) (E:=156) (b:=m) (n:=us.length) (f:=(bA us)) (x:=(.tmp 46)) (ix:=(.tmp 47)) (y:=(.tmp 48)) (key:=.int .i64 ((least us))) (u:=x) (kl:=(.int .i64 (least us))) (n':=(us.length+1)) (f':=(bA (ins (least us) x us))) (fun _=>by kernel_rfl) (by kernel_rfl) (fun _=>by kernel_rfl) (fun _=>by kernel_rfl) (fun _=>by kernel_rfl) dZ Tryz.underlying151 (by unfold maxLen;omega) (nP (by omega) (by omega)) (by rw [EO hb.2.2.1];rfl) (DZ hb.2.2.1 x) ?_
  refine NN (af.seq (af.vm 13 (by kernel_rfl) (by kernel_rfl) ?_))
  refine jc.seg (k':=9) (fr':=[(6,vI ((least us))),(49,vP t),(53,vI (aD)),(57,.map (some m))]) (aZ:=[t=t,t=t]) [o_,o_,o_,o_,⟨[.at 0],none,none,none,none⟩,o_,o_,o_,⟨[.at 0],none,none,none,none⟩] [6,49,53,57] (fun _ _=>by kernel_rfl) ⟨rfl,rfl,trivial⟩ (by decide) ?_
  refine jc.vD 3 (d:=(some 58)) (t:=151) (K:=3) (E:=156) (b:=m) (cnt:=(us.length+1)) (f:=(bA (ins (least us) x us))) (x:=(.tmp 57)) (ats:=#[151]) (fun _=>by kernel_rfl) (by kernel_rfl) (fun _=>by kernel_rfl) rfl Tryz.underlying151 (by decide) ?_
  refine jc.seg (k':=13) (fr':=[(6,vI ((least us))),(59,vI ((max aD ((us.length:Int)+1)))),(61,.pointer (some ⟨t,1,none⟩))]) (aZ:=[(Value.int .i64 (if (((us.length+1):Nat):Int) > aD then (((us.length+1):Nat):Int) else aD))=(.int .i64 ((max aD ((us.length:Int)+1))))]) [⟨[],none,none,none,some (vI ((max aD ((us.length:Int)+1))))⟩,o_,o_] [6,59,61] (fun _ _=>by kernel_rfl) ⟨by rw [KN];rfl,trivial⟩ (by decide) ?_
  refine jc.done rfl ?_
  refine gC 1 [] [(0,a_ 0 t)] [(0,[(1,vI ((max aD ((us.length:Int)+1))))])] ?_
  refine NS (gK 3 [(4,vI ((least us))),(5,vI 0)] [] ?_)
  refine NN (af.ret (aj.fo [(3,.abs (aP Tryz.prog 3 m (bA (ins (least us) x us)) ((ins (least us) x us).length)))] (fun w hS=>by rw [iG];exact hS) ?_))
  refine aj.mem (dm:=[.abs R,.abs (dx 212 t most (max aD ((us.length:Int)+1)) (ins (least us) x us))]) (fun w hS=>Sat.mT (l:=[.abs R]) ⟨m,some ⟨g,0,none⟩,c,l2,next⟩ (show iX (next) l2 ((ins (least us) x us)) most ((max aD ((us.length:Int)+1))) from ⟨by rw [hT.ti.Ct (by omega)];exact hT.ti.Pp (by omega) x (by omega) hp2 hi2 hm2,by rw [iG];omega,by omega,by omega,by omega,by omega⟩) (hS.pick (idx:=[2,0,3,1]) (l':=[.abs R]++mR 212 t most ((max aD ((us.length:Int)+1))) ((ins (least us) x us)) ⟨m,some ⟨g,0,none⟩,c,l2,next⟩) rfl rfl)) ?_
  exact RT (.tuple #[vI ((least us)),vI 0]) [1,0] (⟨rfl,rfl⟩)
 refine af.region ?_
 have hl0:l=[]:=List.eq_nil_of_length_eq_zero (by omega)
 have hl1:l.length=0:=by rw [hl0];rfl
 have hl2:TI next [] us:=hl0 ▸ hT.ti
 refine gC 8 [] [(3,a_ 1 t),(4,wI (next+1) ((next+1))),(7,a_ 1 t)] [(1,[(4,vI ((next+1)))])] ?_
 refine NS (ak.slot 6 (.int .i64 (next)) (.int .i64 ((least us))) (fun _=>by kernel_rfl) (by rw [hl2.Cs]) ?_)
 refine gK 6 [(46,.map (some m)),(47,vI ((least us))),(48,x)] [(3,a_ 1 t)] ?_
 refine ak.kU 2 (d:=none) (t:=151) (K:=3) (E:=156) (b:=m) (n:=us.length) (f:=(bA us)) (x:=(.tmp 46)) (ix:=(.tmp 47)) (y:=(.tmp 48)) (key:=.int .i64 ((least us))) (u:=x) (kl:=(.int .i64 (least us))) (n':=(us.length+1)) (f':=(bA (ins (least us) x us))) (fun _=>by kernel_rfl) (by kernel_rfl) (fun _=>by kernel_rfl) (fun _=>by kernel_rfl) (fun _=>by kernel_rfl) dZ Tryz.underlying151 (by unfold maxLen;omega) (nP (by omega) (by omega)) (by rw [EO hb.2.2.1];rfl) (DZ hb.2.2.1 x) ?_
 refine NN (af.seq (af.vm 13 (by kernel_rfl) (by kernel_rfl) ?_))
 refine jc.seg (k':=9) (fr':=[(6,vI ((least us))),(49,vP t),(53,vI (aD)),(57,.map (some m))]) (aZ:=[t=t,t=t]) [o_,o_,o_,o_,⟨[.at 1],none,none,none,none⟩,o_,o_,o_,⟨[.at 1],none,none,none,none⟩] [6,49,53,57] (fun _ _=>by kernel_rfl) ⟨rfl,rfl,trivial⟩ (by decide) ?_
 refine jc.vD 2 (d:=(some 58)) (t:=151) (K:=3) (E:=156) (b:=m) (cnt:=(us.length+1)) (f:=(bA (ins (least us) x us))) (x:=(.tmp 57)) (ats:=#[151]) (fun _=>by kernel_rfl) (by kernel_rfl) (fun _=>by kernel_rfl) rfl Tryz.underlying151 (by decide) ?_
 refine jc.seg (k':=13) (fr':=[(6,vI ((least us))),(59,vI ((max aD ((us.length:Int)+1)))),(61,.pointer (some ⟨t,1,none⟩))]) (aZ:=[(Value.int .i64 (if (((us.length+1):Nat):Int) > aD then (((us.length+1):Nat):Int) else aD))=(.int .i64 ((max aD ((us.length:Int)+1))))]) [⟨[],none,none,none,some (vI ((max aD ((us.length:Int)+1))))⟩,o_,o_] [6,59,61] (fun _ _=>by kernel_rfl) ⟨by rw [KN];rfl,trivial⟩ (by decide) ?_
 refine jc.done rfl ?_
 refine gC 1 [] [(0,a_ 1 t)] [(1,[(1,vI ((max aD ((us.length:Int)+1))))])] ?_
 refine NS (gK 3 [(4,vI ((least us))),(5,vI 0)] [] ?_)
 refine NN (af.ret (aj.fo [(2,.abs (aP Tryz.prog 3 m (bA (ins (least us) x us)) ((ins (least us) x us).length)))] (fun w hS=>by rw [iG];exact hS) ?_))
 refine aj.mem (dm:=[.abs R,.abs (dx 212 t most (max aD ((us.length:Int)+1)) (ins (least us) x us))]) (fun w hS=>Sat.mT (l:=[.abs R]) ⟨m,A,c,l,(next+1)⟩ (show iX ((next+1)) l ((ins (least us) x us)) most ((max aD ((us.length:Int)+1))) from ⟨by rw [hl2.Cs,hl0];exact hl2.Po x,by rw [iG];omega,by omega,by omega,by omega,by omega⟩) (hS.pick (idx:=[0,1,2,3]) (l':=[.abs R]++mR 212 t most ((max aD ((us.length:Int)+1))) ((ins (least us) x us)) ⟨m,A,c,l,(next+1)⟩) rfl rfl)) ?_
 exact RT (.tuple #[vI ((least us)),vI 0]) [1,0] (⟨rfl,rfl⟩)
theorem EQ {β:Bs} (t:Nat) (most aD:Int) (us:Used Value) (h:Int) (hw:(Lit.int .i64 h).wf=true) (x:Value) (hg:aF.get us h=some x) :
    Spec Tryz.prog β 201 #[vP t,vI (h)] [.abs (dx 212 t most aD us)] (fun v l=>v=.tuple #[x,vI 0]/\l=[.abs (dx 212 t most aD (del h us))]):=by
 refine Spec.enter Tryz.func201 rfl Tryz.ntmps201 (Nat.le_of_ble_eq_true rfl) (fun R=>?_)
 refine SR (gK 2 [] [] ?_)
 refine NS (gK 2 [(9,vP t),(10,vI (h))] [] ?_)
 refine gL [0] (tG t most aD us h hw x hg) ?_
 rintro _ _ ⟨rfl,rfl⟩
 refine gK 5 [(6,x),(7,vI 0)] [] ?_
 refine NN (af.seq (SR (gK 2 [(15,.bool true)] [] ?_)))
 refine NN (CT (af.seq (af.D1 (Φ:=fun x:TX=>iX x.next x.l us most aD) (hp:=fun x=>[.abs R]++mR 212 t most aD us x) (fun w hS=>(hS.pick (idx:=[1,0]) (l':=[.abs R]++[.abs (dx 212 t most aD us)]) rfl rfl).sU) (fun x0 hT=>?_))))
 obtain⟨m,A,c,l,next⟩:=x0
 replace hT:iX next l us most aD:=hT
 have hb:=hT.JN
 have hm0:=hT.ux
 have hm1:=hT.uy
 have hn1:=hT.uz
 have hn2:=hT.zU
 have JQ:=hT.wK
 have hct:=hT.ti.count
 have hk:=get_some hg
 show af _ _ _ _ _ [.abs R,.blk t [vI (most),vI (aD),.map (some m),.slice A (l.length) (c),vI (next)] 212,.abs (aP Tryz.prog 3 m (bA us) us.length),.abs (aH 3 1 A l.length c (ints l))] _
 refine af.region (gK 5 [(19,.map (some m)),(20,vI (h))] [(3,a_ 1 t)] ?_)
 refine ak.Ca 2 (d:=none) (t:=151) (K:=3) (E:=156) (b:=m) (n:=us.length) (f:=(bA us)) (x:=(.tmp 19)) (ix:=(.tmp 20)) (key:=.int .i64 (h)) (kl:=(.int .i64 h)) (n':=(us.length - 1)) (f':=(bA (del h us))) (ats:=#[151,3]) (fun _=>by kernel_rfl) (by kernel_rfl) (fun _=>by kernel_rfl) (fun _=>by kernel_rfl) rfl dZ Tryz.underlying151 (iR hw) (by rw [show bA us (.int .i64 h)=some x from hg];rfl) (JM) ?_
 refine NN (af.region (gK 6 [(24,.iface 316 (.pointer (some ⟨t,3,none⟩))),(26,.iface 3 (.int .i64 (h)))] [] ?_))
 refine gL (f:=209) (args:=#[.iface 316 (.pointer (some ⟨t,3,none⟩)),.iface 3 (.int .i64 (h))]) (pre:=[.blk t [vI (most),vI (aD),.map (some m),.slice A (l.length) (c),vI (next)] 212,.abs (aH 3 1 A l.length c (ints l))]) [1,3] (RZ h hT.ti.heap (by omega)) ?_
 rintro _ _ ⟨rfl,g,c',l2,X4,hp2,rfl⟩
 refine NS (gK 4 [(4,x),(5,vI 0)] [] ?_)
 refine NN (af.ret ?_)
 have hld:=nE hT.ti.rise hk
 refine aj.fo [(3,.abs (aP Tryz.prog 3 m (bA (del h us)) ((del h us).length)))] (fun w hS=>by rw [show (del h us).length=us.length - 1 by omega];exact hS) ?_
 refine aj.mem (dm:=[.abs R,.abs (dx 212 t most aD (del h us))]) (fun w hS=>Sat.mT (l:=[.abs R]) ⟨m,some ⟨g,0,none⟩,c',l2,next⟩ (show iX (next) l2 ((del h us)) most (aD) from ⟨hT.ti.drop hk X4 hp2,by omega,hm1,hn1,hn2,JQ⟩) (hS.pick (idx:=[2,0,3,1]) (l':=[.abs R]++mR 212 t most (aD) ((del h us)) ⟨m,some ⟨g,0,none⟩,c',l2,next⟩) rfl rfl)) ?_
 exact RT (.tuple #[x,vI 0]) [1,0] (⟨rfl,rfl⟩)
theorem I9 {β:Bs} (t:Nat) (most aD:Int) (us:Used Value) (h:Int) (hw:(Lit.int .i64 h).wf=true) (hg:aF.get us h=none) :
    Spec Tryz.prog β 201 #[vP t,vI (h)] [.abs (dx 212 t most aD us)] (fun v l=>v=.tuple #[.nilIface,vI 131]/\l=[.abs (dx 212 t most aD us)]):=by
 refine Spec.enter Tryz.func201 rfl Tryz.ntmps201 (Nat.le_of_ble_eq_true rfl) (fun R=>?_)
 refine SR (gK 2 [] [] ?_)
 refine NS (gK 2 [(9,vP t),(10,vI (h))] [] ?_)
 refine gL [0] (yH t most aD us h hw hg) ?_
 rintro _ _ ⟨rfl,rfl⟩
 refine gK 5 [(6,.nilIface),(7,vI 131)] [] ?_
 refine NN (af.seq (SR (gK 2 [(15,.bool false)] [] ?_)))
 refine NN (CF (af.skip (NX (SR (gK 4 [(4,.nilIface),(5,vI 131)] [] ?_)))))
 refine NN (af.ret ?_)
 exact RT (.tuple #[.nilIface,vI 131]) [0,1] (⟨rfl,rfl⟩)
theorem Gz {β:Bs} (t:Nat) (most aD:Int) (us:Used Value) :
    Spec Tryz.prog β 56 #[vP t] [.abs (dx 212 t most aD us)] (fun v l=>∃ A c,v=.slice A (keys us).length c/\l=[.abs (dx 212 t most aD us),.abs (aH 3 1 A (keys us).length c (ints (keys us)))]):=by
 refine Spec.enter Tryz.func56 rfl Tryz.ntmps56 (Nat.le_of_ble_eq_true rfl) (fun R=>?_)
 refine af.seq (af.D1 (Φ:=fun x:TX=>iX x.next x.l us most aD) (hp:=fun x=>[.abs R]++mR 212 t most aD us x) (fun w hS=>(hS.pick (idx:=[1,0]) (l':=[.abs R]++[.abs (dx 212 t most aD us)]) rfl rfl).sU) (fun x hT=>?_))
 obtain⟨m,A,c,l,next⟩:=x
 replace hT:iX next l us most aD:=hT
 have hb:=hT.JN
 have hm0:=hT.ux
 have hm1:=hT.uy
 have hn1:=hT.uz
 have hn2:=hT.zU
 have JQ:=hT.wK
 have hct:=hT.ti.count
 show af _ _ _ _ _ [.abs R,.blk t [vI (most),vI (aD),.map (some m),.slice A (l.length) (c),vI (next)] 212,.abs (aP Tryz.prog 3 m (bA us) us.length),.abs (aH 3 1 A l.length c (ints l))] _
 refine af.region (gK 1 [] [] ?_)
 refine NS (gK 4 [(6,.map (some m))] [(3,a_ 1 t)] ?_)
 refine gL [] (Gx (some m)) ?_
 rintro _ _ ⟨bk,rfl,rfl⟩
 refine gL [3,0] (Cw m bk us.length (bA us) (by omega)) ?_
 rintro _ _ ⟨A2,c2,ss,rfl,hks,hsl,rfl⟩
 refine gK 1 [(2,.slice A2 (ss.length) (c2))] [] ?_
 refine NN (af.ret ?_)
 have hkk:=JO hT.ti.rise hks
 refine aj.mem (dm:=[.abs R,.abs (aH 3 1 A2 ss.length c2 (ints ss)),.abs (dx 212 t most aD us)]) (fun w hS=>Sat.mT (l:=[.abs R,.abs (aH 3 1 A2 ss.length c2 (ints ss))]) ⟨m,A,c,l,next⟩ (show iX (next) l (us) most (aD) from hT) (hS.pick (idx:=[3,2,4,0,5]) (l':=[.abs R,.abs (aH 3 1 A2 ss.length c2 (ints ss))]++mR 212 t most (aD) (us) ⟨m,A,c,l,next⟩) rfl rfl)) ?_
 exact RT (l:=[.abs (dx 212 t most aD us),.abs (aH 3 1 A2 ss.length c2 (ints ss))]) (.slice A2 (ss.length) (c2)) [2,1,0] (⟨A2,c2,by rw [hkk],by rw [hkk]⟩)
end
section
open Go.RowKit Go.Maps bq aF
theorem Spec.yA {P:Program} {β:Bs} {f:FuncId} {args:Array Value} {pre R:List HP} {post:Value->List HP->Prop} (h:∀ β':Bs,pP β R β'->Spec P β' f args pre post):Spec P β f args (pre++R) (fun v l=>∃ l0,post v l0/\l=l0++R):=by
  intro A w hS
  have h1:=Sat.turn hS
  rw [← List.append_assoc] at h1
  obtain⟨β',g1,_,g3⟩:=h1.yA
  refine (h β' g1 A w (Sat.turn g3)).mono ?_
  rintro e w' ⟨v,l,h1,h2,h3⟩
  refine⟨v,l++R,h1,⟨l,h2,rfl⟩,?_⟩
  have h4:=g1.back (Sat.turn h3)
  rw [List.append_assoc] at h4
  exact Sat.turn h4
def bH (L:HL) (us:Used Th):Used Value:=us.map fun q=>(q.1,eu L q.2)
theorem fV (L:HL) (us:Used Th) (h:Int):bA (bH L us) (.int .i64 h)=(aF.get us h).map (eu L):=get_map (eu L) us h
theorem D2 {L:HL} {us:Used Th} {h:Int}:kD (bA (bH L us)) (.int .i64 h) none=bA (bH L (del h us)):=by
  rw [JM]
  exact congrArg bA (JL (eu L) h us).symm
theorem qw (L:HL) (us:Used Th):(bH L us).length=us.length:=List.length_map ..
theorem BB (L:HL) (us:Used Th):keys (bH L us)=keys us:=keys_map (eu L) us
def qU (O:bU) (k:Nat):bU:=aN O k (fun o=>{ o with gone:=true })
def sI (O:bU) (t:Th):Prop:=(obj O t.k).gone=true/\(obj O t.k).opens=0
instance (O:bU) (t:Th):Decidable (sI O t):=inferInstanceAs (Decidable (_/\_))
def iP (O:bU) (idx:Used Th) (t:Th):Used Th:=if sI O t then del (obj O t.k).id idx else idx
def jO (O:bU) (used:Int) (t:Th):Int:=if sI O t then if t.kind=1 then used - (obj O t.k).data.length else used else used
abbrev pF (f m t:Nat) (X:FM):HP:=.blk f [.int .i64 X.cN,.int .i64 X.cB,.int .i64 X.cH,.int .i64 X.cS,.int .i64 X.cZ,.map (some m),.pointer (some ⟨t,0,none⟩),.int .i64 X.last,.int .i64 X.ah,.int .i64 X.used] 154
abbrev pI (m:Nat) (L:HL) (us:Used Th):HP:=.abs (aP Tryz.prog 3 m (bA (bH L us)) us.length)
abbrev pT (t:Nat) (most aD:Int) (L:HL) (us:Used Th):HP:=.abs (dx 212 t most aD (bH L us))
abbrev pO (O:bU) (L:HL):HP:=.abs (aG (bS O L))
abbrev pD (O:bU) (L:HL):HP:=.abs (aG (cg O L))
abbrev pE (O:bU) (L:HL):HP:=.abs (aG (cY O L))
end
section
open Go.RowKit Go.Maps bq aF
structure aJ where
  X:FM
  O:bU
  idx:Used Th
  us:Used Th
  aD:Int
abbrev pA (f m t:Nat) (L:HL) (S:aJ):List HP:=[pF f m t S.X,pI m L S.idx,pT t S.X.cH S.aD L S.us,pO S.O L,pD S.O L,pE S.O L]
structure aB where
  op:Int
  handle:Int
  other:Int
  name:ByteArray
  text:ByteArray
  dA:Option Addr
  dC:Nat
  data:List UInt8
  mode:Int
  uid:Int
  gid:Int
  sec:Int
  nano:Int
  code:Int
  answer:Int
def dr (c:aB):List Value:=[.int .i64 c.op,.int .i64 c.handle,.int .i64 c.other,.string c.name,.string c.text,.slice c.dA c.data.length c.dC,.int .i64 c.mode,.int .i64 c.uid,.int .i64 c.gid,.int .i64 c.sec,.int .i64 c.nano,.int .i64 c.code,.int .i64 c.answer]
abbrev pC (cb:Nat) (c:aB):HP:=.blk cb (dr c) 88
abbrev c0 (c:aB):aB:={ c with answer:=0,code:=230 }
def Xd (L:HL):Except Int Nat->Value
  | .error e=>.tuple #[.pointer none,.int .i64 e]
  | .ok d=>.tuple #[.pointer (some ⟨L.b d,0,none⟩),.int .i64 0]
def Xe (L:HL):Except Int Th->Value
  | .error e=>.tuple #[.nilIface,.int .i64 e]
  | .ok t=>.tuple #[eu L t,.int .i64 0]
noncomputable section
def dP (O:bU) (us:Used Th) (h:Int) (name:ByteArray) (need:Int):Except Int Nat:=
  match aF.get us h with
  | none=>.error 131
  | some t=>
    if t.kind=2 then
      if (obj O t.k).gone=true then .error 170
      else if bD name then if bits BinOp.and .i64 (obj O t.k).mode need=need then .ok t.k else .error 175
      else .error 95
    else .error 173
def nQ (s:ByteArray):Int:=
  if s=⟨#[]⟩ then 90 else if s.size > 4096 then 93 else if zJ s then 0 else 91
def Room (X:FM) (idx:Used Th):Prop:=(idx.length:Int) < X.cN/\X.last < 1099511627776/\X.ah < 8192
instance (X:FM) (idx:Used Th):Decidable (Room X idx):=inferInstanceAs (Decidable (_/\_/\_))
def cQ (X:FM) (O:bU) (idx:Used Th) (d:Nat) (name:ByteArray):Int:=
  if aT name (obj O d).ah=none then if Room X idx then 0 else 177 else 171
def bg (X:FM) (kind mode:Int):aY:=⟨X.last+1,mode,0,0,X.cS,X.cZ,0,0,false,kind,[],⟨#[]⟩,[],none⟩
def bJ (X:FM):Nat:=(X.last+1).toNat
def gj (S:aJ) (d:Nat) (name:ByteArray) (o:aY):aJ:=
  { S with
    X:={ S.X with last:=S.X.last+1,ah:=S.X.ah+1 }
    O:=dX S.X (aN S.O (bJ S.X) (fun _=>o)) d name ⟨bJ S.X,o.kind⟩
    idx:=ins (S.X.last+1) ⟨bJ S.X,o.kind⟩ S.idx }
def aL (S:aJ) (d:Nat) (name:ByteArray) (t:Th):aJ:=
  { S with
    X:={ S.X with ah:=S.X.ah - 1,used:=if (obj (aR S.X S.O d name t) t.k).links=0 then jO (qU (aR S.X S.O d name t) t.k) S.X.used t else S.X.used }
    O:=if (obj (aR S.X S.O d name t) t.k).links=0 then qU (aR S.X S.O d name t) t.k else aR S.X S.O d name t
    idx:=if (obj (aR S.X S.O d name t) t.k).links=0 then iP (qU (aR S.X S.O d name t) t.k) S.idx t else S.idx }
theorem uD {S:aJ} {d:Nat} {name:ByteArray} {t:Th} (h:(obj (aR S.X S.O d name t) t.k).links=0):aL S d name t={ S with X:={ S.X with ah:=S.X.ah - 1,used:=jO (qU (aR S.X S.O d name t) t.k) S.X.used t },O:=qU (aR S.X S.O d name t) t.k,idx:=iP (qU (aR S.X S.O d name t) t.k) S.idx t }:=by
  unfold aL
  simp only [if_pos h]
theorem uE {S:aJ} {d:Nat} {name:ByteArray} {t:Th} (h:¬ (obj (aR S.X S.O d name t) t.k).links=0):aL S d name t={ S with X:={ S.X with ah:=S.X.ah - 1 },O:=aR S.X S.O d name t }:=by
  unfold aL
  simp only [if_neg h]
def gY (S:aJ) (d:Nat) (name:ByteArray) (mode:Int):Int×aJ:=
  if cQ S.X S.O S.idx d name=0 then (0,gj S d name (bg S.X 2 mode)) else (cQ S.X S.O S.idx d name,S)
def gF (S:aJ) (d:Nat) (name text:ByteArray):Int×aJ:=
  if nQ text=0 then
    if cQ S.X S.O S.idx d name=0 then (0,gj S d name { bg S.X 3 511 with target:=text }) else (cQ S.X S.O S.idx d name,S)
  else (nQ text,S)
def fP (S:aJ) (d:Nat) (name:ByteArray):Int×aJ:=
  match aT name (obj S.O d).ah with
  | none=>(170,S)
  | some t=>if t.kind=2 then (172,S) else (0,aL S d name t)
def orphan (O:bU) (k:Nat):bU:=aN O k (fun o=>{ o with up:=none })
def gq (S:aJ) (d:Nat) (name:ByteArray):Int×aJ:=
  match aT name (obj S.O d).ah with
  | none=>(170,S)
  | some t=>if t.kind=2 then if (obj S.O t.k).ah=[] then (0,{ aL S d name t with O:=orphan (aL S d name t).O t.k }) else (178,S) else (173,S)
inductive jM (O:bU) (sub:Nat):Nat->Prop
  | here:jM O sub sub
  | up {k j:Nat}:(obj O k).up=some j->jM O sub j->jM O sub k
instance (O:bU) (sub k:Nat):Decidable (jM O sub k):=Classical.propDecidable _
def oh (S:aJ) (d:Nat) (name:ByteArray) (to:Nat) (toName:ByteArray) (t:Th):aJ:=
  { S with X:={ S.X with ah:=S.X.ah - 1+1 },O:=dX S.X (aR S.X S.O d name t) to toName t }
def bL (S:aJ) (d:Nat) (name:ByteArray) (to:Nat) (toName:ByteArray):Int×aJ:=
  match aT name (obj S.O d).ah with
  | none=>(170,S)
  | some t=>
    if t.kind=2/\jM S.O t.k to then (174,S)
    else match aT toName (obj S.O to).ah with
      | none=>(0,oh S d name to toName t)
      | some o=>
        if o=t then (0,S) else if o.kind=2 then (172,S) else if t.kind=2 then (173,S)
        else (0,oh (aL S to toName o) d name to toName t)
def br (X:FM) (n:Nat):Nat:=(min (n:Int) (X.cB - X.used)).toNat
def fe (S:aJ) (k:Nat) (bs:List UInt8):Int×Int×aJ:=
  if bs=[] then (0,0,S)
  else if S.X.cB - S.X.used<=0 then (0,176,S)
  else ((br S.X bs.length:Int),0,{ S with
    X:={ S.X with used:=S.X.used+(br S.X bs.length:Int) }
    O:=aN S.O k (fun o=>{ o with data:=o.data++bs.take (br S.X bs.length),sec:=S.X.cS,nano:=S.X.cZ }) })
def dg (S:aJ) (t:Th):Int×Int×aJ:=
  (if (S.us.length:Int) < S.X.cH then least S.us else 0,if (S.us.length:Int) < S.X.cH then 0 else 130,{ S with
    O:=if (S.us.length:Int) < S.X.cH then aN S.O t.k (fun o=>{ o with opens:=o.opens+1 }) else S.O
    us:=if (S.us.length:Int) < S.X.cH then ins (least S.us) t S.us else S.us
    aD:=if (S.us.length:Int) < S.X.cH then max S.aD ((S.us.length:Int)+1) else S.aD })
theorem jD {S:aJ} {t:Th} (h:(S.us.length:Int) < S.X.cH):dg S t=(least S.us,0,{ S with O:=aN S.O t.k (fun o=>{ o with opens:=o.opens+1 }),us:=ins (least S.us) t S.us,aD:=max S.aD ((S.us.length:Int)+1) }):=by
  unfold dg
  simp only [if_pos h]
theorem jW {S:aJ} {t:Th} (h:¬ (S.us.length:Int) < S.X.cH):dg S t=(0,130,S):=by
  unfold dg
  simp only [if_neg h]
abbrev rE:=Int×aJ×aB
def jq (S:aJ) (c:aB):rE:=
  match aF.get S.idx c.other with
  | none=>(141,S,c)
  | some t=>if t.kind=2 then ((dg S t).2.1,(dg S t).2.2,{ c with answer:=(dg S t).1 }) else (173,S,c)
def fC (O:bU) (us:Used Th) (c:aB):Except Int Th:=
  match dP O us c.handle c.name 64 with
  | .error e=>.error e
  | .ok d=>match aT c.name (obj O d).ah with
    | none=>.error 170
    | some t=>.ok t
def eF (S:aJ) (c:aB):rE:=
  match fC S.O S.us c with
  | .error e=>(e,S,c)
  | .ok t=>if t.kind=3 then (174,S,c) else if t.kind=1 then (173,S,c) else ((dg S t).2.1,(dg S t).2.2,{ c with answer:=(dg S t).1 })
def mU (S:aJ) (c:aB):rE:=
  match fC S.O S.us c with
  | .error e=>(e,S,c)
  | .ok t=>if t.kind=3 then (174,S,c) else if t.kind=2 then (172,S,c) else ((dg S t).2.1,(dg S t).2.2,{ c with answer:=(dg S t).1 })
def nZ (m:Int):Prop:=0<=m/\m<=4095
instance (m:Int):Decidable (nZ m):=inferInstanceAs (Decidable (_/\_))
def gI (S:aJ) (c:aB):rE:=
  match dP S.O S.us c.handle c.name 192 with
  | .error e=>(e,S,c)
  | .ok d=>if nZ c.mode then ((gY S d c.name c.mode).1,(gY S d c.name c.mode).2,c) else (120,S,c)
def qx (S:aJ) (d:Nat) (name:ByteArray) (mode:Int):Int×Int×aJ:=
  if cQ S.X S.O S.idx d name=0 then
    if (S.us.length:Int) < S.X.cH then
      (least S.us,0,gj { S with us:=ins (least S.us) ⟨bJ S.X,1⟩ S.us,aD:=max S.aD ((S.us.length:Int)+1) } d name { bg S.X 1 mode with opens:=1 })
    else (0,130,S)
  else (0,cQ S.X S.O S.idx d name,S)
def mV (S:aJ) (c:aB):rE:=
  match dP S.O S.us c.handle c.name 192 with
  | .error e=>(e,S,c)
  | .ok d=>if nZ c.mode then
      if cQ S.X S.O S.idx d c.name=0 then ((qx S d c.name c.mode).2.1,(qx S d c.name c.mode).2.2,{ c with answer:=(qx S d c.name c.mode).1 })
      else (cQ S.X S.O S.idx d c.name,S,c)
    else (120,S,c)
def l6 (S:aJ) (c:aB):rE:=
  match dP S.O S.us c.handle c.name 192 with
  | .error e=>(e,S,c)
  | .ok d=>((gF S d c.name c.text).1,(gF S d c.name c.text).2,c)
def zV (S:aJ) (d:Nat) (name:ByteArray) (to:Nat) (toName:ByteArray):Int×aJ:=
  match aT name (obj S.O d).ah with
  | none=>(170,S)
  | some t=>if t.kind=2 then (172,S)
    else if aT toName (obj S.O to).ah=none then
      if S.X.ah < 8192 then (0,{ S with X:={ S.X with ah:=S.X.ah+1 },O:=dX S.X S.O to toName t }) else (177,S)
    else (171,S)
def qy (S:aJ) (c:aB):rE:=
  match dP S.O S.us c.handle c.name 64 with
  | .error e=>(e,S,c)
  | .ok d=>match dP S.O S.us c.other c.text 192 with
    | .error e=>(e,S,c)
    | .ok to=>((zV S d c.name to c.text).1,(zV S d c.name to c.text).2,c)
def mW (S:aJ) (c:aB):rE:=
  match dP S.O S.us c.handle c.name 192 with
  | .error e=>(e,S,c)
  | .ok d=>((fP S d c.name).1,(fP S d c.name).2,c)
def oy (S:aJ) (c:aB):rE:=
  match dP S.O S.us c.handle c.name 192 with
  | .error e=>(e,S,c)
  | .ok d=>((gq S d c.name).1,(gq S d c.name).2,c)
def mX (S:aJ) (c:aB):rE:=
  match dP S.O S.us c.handle c.name 192 with
  | .error e=>(e,S,c)
  | .ok d=>match dP S.O S.us c.other c.text 192 with
    | .error e=>(e,S,c)
    | .ok to=>((bL S d c.name to c.text).1,(bL S d c.name to c.text).2,c)
def oz (S:aJ) (c:aB):rE:=
  match aF.get S.us c.handle with
  | none=>(131,S,c)
  | some t=>if t.kind=1 then ((fe S t.k c.data).2.1,(fe S t.k c.data).2.2,{ c with answer:=(fe S t.k c.data).1 }) else (172,S,c)
def Cx (m:Int):Prop:=0<=m/\m<=2147483647
instance (m:Int):Decidable (Cx m):=inferInstanceAs (Decidable (_/\_))
def oA (S:aJ) (c:aB):rE:=
  match aF.get S.us c.handle with
  | none=>(131,S,c)
  | some t=>
    if (obj S.O t.k).gone=true/\t.kind=2 then (170,S,c)
    else if nZ c.mode then
      if Cx c.uid/\Cx c.gid then
        if fO c.sec c.nano then (0,{ S with O:=aN S.O t.k (fun o=>{ o with mode:=c.mode,uid:=c.uid,gid:=c.gid,sec:=c.sec,nano:=c.nano }) },c)
        else (20,S,c)
      else (11,S,c)
    else (120,S,c)
def qV (O:bU) (c:aB):Option Th->aB
  | none=>{ c with other:=0,mode:=0,uid:=0,gid:=0,sec:=0,nano:=0 }
  | some t=>{ c with answer:=(obj O t.k).id,other:=t.kind,mode:=(obj O t.k).mode,uid:=(obj O t.k).uid,gid:=(obj O t.k).gid,sec:=(obj O t.k).sec,nano:=(obj O t.k).nano }
def kI (S:aJ) (c:aB):rE:=
  match aF.get S.us c.handle with
  | none=>(131,S,qV S.O c none)
  | some t=>(0,S,qV S.O c (some t))
def qz (S:aJ) (c:aB):rE:=
  match fC S.O S.us c with
  | .error e=>(e,S,qV S.O c none)
  | .ok t=>(0,S,qV S.O c (some t))
def iy (O:bU) (k:Nat):bU:=aN O k (fun o=>{ o with opens:=o.opens - 1 })
def jt (S:aJ) (c:aB):rE:=
  match aF.get S.us c.handle with
  | none=>(131,S,c)
  | some t=>(0,{ S with
      X:={ S.X with used:=jO (iy S.O t.k) S.X.used t }
      O:=iy S.O t.k
      idx:=iP (iy S.O t.k) S.idx t
      us:=del c.handle S.us },c)
def cR (S:aJ) (c:aB):rE:=
  if c.op=1 then jq S c else if c.op=2 then eF S c else if c.op=3 then mU S c else if c.op=4 then gI S c
  else if c.op=5 then mV S c else if c.op=6 then l6 S c else if c.op=7 then qy S c else if c.op=8 then mW S c
  else if c.op=9 then oz S c else if c.op=10 then oA S c else if c.op=11 then kI S c else if c.op=12 then qz S c
  else if c.op=13 then jt S c else if c.op=14 then oy S c else if c.op=15 then mX S c else (230,S,c)
def bI (S:aJ) (c:aB):aJ×aB:=
  ((cR S { c with answer:=0,code:=230 }).2.1,{ (cR S { c with answer:=0,code:=230 }).2.2 with code:=(cR S { c with answer:=0,code:=230 }).1 })
end
end
section
open Go.RowKit Go.Maps bq aF
section sums
variable {V:Type} {g g':Int×V->Nat} {us:Used V} {h:Int} {v:V}
def dz (g:Int×V->Nat):Used V->Nat
  | []=>0
  | p::r=>g p+dz g r
theorem BD:dz g (ins h v us)=g (h,v)+dz g us:=by
  induction us with
  | nil=>rfl
  | cons p r ih=>
    unfold ins
    split
    ·rfl
    show g p+dz g (ins h v r)=g (h,v)+(g p+dz g r)
    rw [ih];omega
theorem ij (hc:∀ p∈us,g' p=g p):dz g' us=dz g us:=by
  induction us with
  | nil=>rfl
  | cons p r ih=>
    show g' p+dz g' r=g p+dz g r
    rw [hc p (List.mem_cons_self ..),ih (fun q hq=>hc q (List.mem_cons_of_mem _ hq))]
theorem JR (hc:∀ p∈us,g' p<=g p):dz g' us<=dz g us:=by
  induction us with
  | nil=>exact Nat.le_refl _
  | cons p r ih=>
    show g' p+dz g' r<=g p+dz g r
    exact Nat.add_le_add (hc p (List.mem_cons_self ..)) (ih (fun q hq=>hc q (List.mem_cons_of_mem _ hq)))
theorem tH {p:Int×V} {r:Used V}:aF.get (p::r) h=if p.1=h then some p.2 else aF.get r h:=by
  unfold aF.get
  rw [List.find?_cons]
  by_cases e:p.1=h
  ·simp [e]
  have e2:(p.1 == h)=false:=by simpa using e
  rw [e2,if_neg e]
theorem get_mem {us:Used V} (e:aF.get us h=some v):(h,v)∈us:=by
  induction us with
  | nil=>cases e
  | cons p r ih=>
    rw [tH] at e
    split at e
    ·rename_i e2;cases e;subst e2;exact List.mem_cons_self ..
    exact List.mem_cons_of_mem _ (ih e)
theorem oY {us:Used V} (hr:aF.cJ (keys us)) (e:(h,v)∈us):aF.get us h=some v:=by
  induction us with
  | nil=>cases e
  | cons p r ih=>
    rw [keys_cons] at hr
    obtain⟨h1,h2⟩:=List.pairwise_cons.1 hr
    rw [tH]
    rcases List.mem_cons.1 e with e|e
    ·subst e;rw [if_pos rfl]
    have:p.1 < h:=h1 h (List.mem_map.2 ⟨(h,v),e,rfl⟩)
    rw [if_neg (by omega)]
    exact ih h2 e
theorem ld (e:aF.get us h=some v):g (h,v)<=dz g us:=by
  have hm:=get_mem e
  induction us with
  | nil=>cases hm
  | cons p r ih=>
    show _<=g p+dz g r
    rw [tH] at e
    split at e
    ·rename_i e2;cases e;subst e2;exact Nat.le_add_right ..
    rcases List.mem_cons.1 hm with e2|e2
    ·subst e2;exact Nat.le_add_right ..
    exact Nat.le_trans (ih e e2) (Nat.le_add_left ..)
theorem BF (hr:aF.cJ (keys us)) (e:aF.get us h=some v) (hc:∀ p∈us,p.1≠h->g' p=g p):dz g' us+g (h,v)=dz g us+g' (h,v):=by
  induction us with
  | nil=>cases e
  | cons p r ih=>
    rw [keys_cons] at hr
    obtain⟨h1,h2⟩:=List.pairwise_cons.1 hr
    rw [tH] at e
    show g' p+dz g' r+_=g p+dz g r+_
    split at e
    ·rename_i e2
     cases e
     have e3:dz g' r=dz g r:=ij (fun q hq=>hc q (List.mem_cons_of_mem _ hq) (by
       have:=h1 q.1 (List.mem_map.2 ⟨q,hq,rfl⟩);omega))
     have e4:p=(h,p.2):=by rw [← e2]
     rw [e3,← e4];omega
    rename_i e2
    have:=ih h2 e (fun q hq=>hc q (List.mem_cons_of_mem _ hq))
    have:=hc p (List.mem_cons_self ..) e2
    omega
theorem Pq {p:Int×V} {r:Used V}:del h (p::r)=if p.1=h then del h r else p::del h r:=by
  unfold del
  rw [List.filter_cons]
  by_cases e:p.1=h
  ·simp [e]
  simp [e]
theorem R3 {us:Used V} (hn:h∉keys us):del h us=us:=by
  unfold del
  refine List.filter_eq_self.2 (fun p hp=>?_)
  have:¬ p.1=h:=fun e=>hn (List.mem_map.2 ⟨p,hp,e⟩)
  simp [this]
theorem BG (hr:aF.cJ (keys us)) (e:aF.get us h=some v):dz g (del h us)+g (h,v)=dz g us:=by
  induction us with
  | nil=>cases e
  | cons p r ih=>
    rw [keys_cons] at hr
    obtain⟨h1,h2⟩:=List.pairwise_cons.1 hr
    rw [tH] at e
    rw [Pq]
    show _=g p+dz g r
    split at e
    ·rename_i e2
     cases e
     rw [if_pos e2,R3 (fun hm=>by have:=h1 h hm;omega)]
     have e4:p=(h,p.2):=by rw [← e2]
     rw [← e4];omega
    rename_i e2
    rw [if_neg e2]
    show g p+dz g (del h r)+_=_
    have:=ih h2 e
    omega
theorem GA {us:Used V} (hr:aF.cJ (keys us)):aF.cJ (keys (del h us)):=by
  rw [ox]
  exact List.Pairwise.filter _ hr
end sums
section Xf
variable {n:ByteArray} {t:Th} {es:fY Th} {q:ByteArray×Th->Bool}
theorem MT:(iA n t es).countP q=es.countP q+if q (n,t) then 1 else 0:=by
  induction es with
  | nil=>simp [iA,List.countP_cons]
  | cons e r ih=>
    unfold iA
    split
    ·rw [List.countP_cons]
    rw [List.countP_cons,ih,List.countP_cons];omega
theorem MU {es:fY Th} (hd:oV es) (h:aT n es=some t):(iB n es).countP q+(if q (n,t) then 1 else 0)=es.countP q:=by
  induction es with
  | nil=>cases h
  | cons e r ih=>
    obtain⟨h1,h2⟩:=List.pairwise_cons.1 hd
    rw [jf] at h
    rw [List.countP_cons]
    by_cases he:e.1=n
    ·rw [if_pos he] at h
     have e1:iB n (e::r)=r:=by
       unfold iB
       rw [List.filter_cons,if_neg (by simp [he])]
       exact List.filter_eq_self.2 (fun x hx=>by have:=h1 x hx;simp;exact fun e2=>this (he.trans e2.symm))
     have e2:e=(n,t):=by
       have:e.2=t:=Option.some.inj h
       rw [← he,← this]
     rw [e1,← e2]
    rw [if_neg he] at h
    have e1:iB n (e::r)=e::iB n r:=by
      unfold iB
      rw [List.filter_cons,if_pos (by simp [he])]
    rw [e1,List.countP_cons]
    have:=ih h2 h
    omega
theorem Pr {e:ByteArray×Th} {es:fY Th} (h:e∈iB n es):e∈es/\e.1≠n:=by
  unfold iB at h
  have:=List.mem_filter.1 h
  exact⟨this.1,by simpa using this.2⟩
theorem tI {es:fY Th} (hd:oV es) (h:(n,t)∈es):aT n es=some t:=by
  induction es with
  | nil=>cases h
  | cons e r ih=>
    obtain⟨h1,h2⟩:=List.pairwise_cons.1 hd
    rw [jf]
    rcases List.mem_cons.1 h with h|h
    ·subst h;rw [if_pos rfl]
    rw [if_neg (fun e2=>h1 (n,t) h e2),ih h2 h]
end Xf
def Live (idx:Used Th) (t:Th):Prop:=aF.get idx (t.k:Int)=some t
def j9 (es:fY Th):Prop:=es.Pairwise (fun a b=>¬ je b.1 a.1)
def jl (idx:Used Th) (O:bU) (k:Nat):Nat:=dz (fun p=>(obj O p.2.k).ah.countP (fun e=>decide (e.2.k=k))) idx
def tot (idx:Used Th) (O:bU):Nat:=dz (fun p=>(obj O p.2.k).ah.length) idx
def bytes (idx:Used Th) (O:bU):Nat:=dz (fun p=>(obj O p.2.k).data.length) idx
def hnd (us:Used Th) (k:Nat):Nat:=dz (fun p=>if p.2.k=k then 1 else 0) us
structure lf (o:aY):Prop where
  mode:0<=o.mode/\o.mode<=4095
  uid:0<=o.uid/\o.uid<=2147483647
  gid:0<=o.gid/\o.gid<=2147483647
  time:fO o.sec o.nano
  data:o.kind≠1->o.data=[]
  ah:o.kind≠2->o.ah=[]
  target:fw o.kind o.target
structure Inv0 (S:aJ):Prop where
  cN:0<=S.X.cN/\S.X.cN<=4096
  cB:0<=S.X.cB/\S.X.cB<=1099511627776
  cH:0<=S.X.cH/\S.X.cH<=1024
  now:fO S.X.cS S.X.cZ
  last:0<=S.X.last/\S.X.last<=1099511627776
  rise:aF.cJ (keys S.idx)
  len:S.idx.length<=4096
  idx:∀ i t,aF.get S.idx i=some t->i=(t.k:Int)/\0 < i/\i<=S.X.last
  ob:∀ t,Live S.idx t->(obj S.O t.k).id=(t.k:Int)/\(obj S.O t.k).kind=t.kind/\(t.kind=1\/t.kind=2\/t.kind=3)
  mt:∀ t,Live S.idx t->lf (obj S.O t.k)
  ah:∀ t,Live S.idx t->∀ e∈(obj S.O t.k).ah,bD e.1/\Live S.idx e.2
  sorted:∀ t,Live S.idx t->j9 (obj S.O t.k).ah
  dead:∀ k,(∀ t,Live S.idx t->t.k≠k)->(obj S.O k).ah=[]/\(obj S.O k).up=none
  uF:∀ k:Nat,S.X.last < (k:Int)->(obj S.O k).kind=0
  total:S.X.ah=(tot S.idx S.O:Int)/\S.X.ah<=8192
  links:∀ t,Live S.idx t->(obj S.O t.k).links=(jl S.idx S.O t.k:Int)
  once:∀ t,Live S.idx t->t.kind=2->(obj S.O t.k).links<=1
  opens:∀ t,Live S.idx t->(obj S.O t.k).opens=(hnd S.us t.k:Int)
  usr:aF.cJ (keys S.us)
  su:∀ x∈keys S.us,1<=x/\x<=S.aD
  Cy:(S.us.length:Int)<=S.X.cH
  aD:0<=S.aD/\S.aD<=S.X.cH
  us:∀ h t,aF.get S.us h=some t->Live S.idx t/\t.kind≠3
  gone:∀ t,Live S.idx t->(obj S.O t.k).gone=true->(obj S.O t.k).links=0/\(obj S.O t.k).ah=[]
  up:∀ t,Live S.idx t->∀ d,(obj S.O t.k).up=some d↔t.kind=2/\Live S.idx ⟨d,2⟩/\∃ n,aT n (obj S.O d).ah=some t
  deep:∃ dp:Nat->Nat,∀ k d,(obj S.O k).up=some d->dp d < dp k
  used:S.X.used=(bytes S.idx S.O:Int)/\S.X.used<=140737488355328
structure Inv (S:aJ):Prop extends Inv0 S where
  full:∀ t,Live S.idx t->(obj S.O t.k).gone=true->0 < (obj S.O t.k).opens
end
section
open Go.RowKit Go.Maps bq aF
section at_
variable {X:FM} {O:bU} {d k:Nat} {name:ByteArray} {t:Th}
theorem jE (h:t.k≠d):obj (aR X O d name t) k=if k=d then { obj O d with ah:=iB name (obj O d).ah,sec:=X.cS,nano:=X.cZ } else if k=t.k then { obj O k with links:=(obj O k).links - 1 } else obj O k:=by
  unfold aR rC
  by_cases e:k=d
  ·subst e
   rw [ct (fun e=>h e.symm),cA,cA,if_pos rfl]
  rw [if_neg e]
  by_cases e2:k=t.k
  ·subst e2
   rw [cA,ct e,ct e,if_pos rfl]
  rw [ct e2,ct e,ct e,if_neg e2]
theorem yJ (h:t.k≠d):obj (dX X O d name t) k=if k=d then { obj O d with ah:=iA name t (obj O d).ah,sec:=X.cS,nano:=X.cZ } else if k=t.k then { obj O k with links:=(obj O k).links+1,up:=if t.kind=2 then some d else (obj O k).up } else obj O k:=by
  unfold dX rC pQ
  simp only
  by_cases e:k=d
  ·subst e
   rw [if_pos rfl,cA]
   split
   ·rw [ct (fun e=>h e.symm),ct (fun e=>h e.symm),cA]
   rw [ct (fun e=>h e.symm),cA]
  rw [if_neg e,ct e]
  by_cases e2:k=t.k
  ·subst e2
   rw [if_pos rfl]
   split
   ·rw [cA,cA,ct e]
   rw [cA,ct e]
  rw [if_neg e2]
  split
  ·rw [ct e2,ct e2,ct e]
  rw [ct e2,ct e]
end at_
section counts
variable {idx:Used Th} {O O':bU} {d k:Nat} {n:ByteArray} {t:Th}
theorem Pt {q:ByteArray×Th->Bool} (hr:aF.cJ (keys idx)) (hd:aF.get idx (d:Int)=some ⟨d,2⟩) (hk:∀ i u,aF.get idx i=some u->i=(u.k:Int)) (ho:∀ x,x≠d->(obj O' x).ah=(obj O x).ah) (h1:(obj O' d).ah=iB n (obj O d).ah) (h2:oV (obj O d).ah) (h3:aT n (obj O d).ah=some t) :
    dz (fun p=>(obj O' p.2.k).ah.countP q) idx+(if q (n,t) then 1 else 0)=dz (fun p=>(obj O p.2.k).ah.countP q) idx:=by
  have h4:=BF (g:=fun p=>(obj O p.2.k).ah.countP q) (g':=fun p=>(obj O' p.2.k).ah.countP q) hr hd (fun p hp hne=>by
    have:=hk p.1 p.2 (oY hr hp)
    show (obj O' p.2.k).ah.countP q=_
    rw [ho p.2.k (by intro e;rw [e] at this;exact hne this)])
  have h5:=MU (q:=q) h2 h3
  have h6:(obj O' d).ah.countP q=(iB n (obj O d).ah).countP q:=by rw [h1]
  have h7:dz (fun p=>(obj O' p.2.k).ah.countP q) idx+(obj O d).ah.countP q=dz (fun p=>(obj O p.2.k).ah.countP q) idx+(obj O' d).ah.countP q:=h4
  omega
theorem Pu {q:ByteArray×Th->Bool} (hr:aF.cJ (keys idx)) (hd:aF.get idx (d:Int)=some ⟨d,2⟩) (hk:∀ i u,aF.get idx i=some u->i=(u.k:Int)) (ho:∀ x,x≠d->(obj O' x).ah=(obj O x).ah) (h1:(obj O' d).ah=iA n t (obj O d).ah) :
    dz (fun p=>(obj O' p.2.k).ah.countP q) idx=dz (fun p=>(obj O p.2.k).ah.countP q) idx+(if q (n,t) then 1 else 0):=by
  have h4:=BF (g:=fun p=>(obj O p.2.k).ah.countP q) (g':=fun p=>(obj O' p.2.k).ah.countP q) hr hd (fun p hp hne=>by
    have:=hk p.1 p.2 (oY hr hp)
    show (obj O' p.2.k).ah.countP q=_
    rw [ho p.2.k (by intro e;rw [e] at this;exact hne this)])
  have h5:=MT (q:=q) (n:=n) (t:=t) (es:=(obj O d).ah)
  have h6:(obj O' d).ah.countP q=(iA n t (obj O d).ah).countP q:=by rw [h1]
  have h7:dz (fun p=>(obj O' p.2.k).ah.countP q) idx+(obj O d).ah.countP q=dz (fun p=>(obj O p.2.k).ah.countP q) idx+(obj O' d).ah.countP q:=h4
  omega
theorem mY:tot idx O=dz (fun p=>(obj O p.2.k).ah.countP (fun _=>true)) idx:=ij (fun p _=>by simp)
theorem MV {q:ByteArray×Th->Bool} (ho:∀ x,(obj O' x).ah=(obj O x).ah):dz (fun p=>(obj O' p.2.k).ah.countP q) idx=dz (fun p=>(obj O p.2.k).ah.countP q) idx:=ij (fun p _=>by rw [ho])
theorem MW:jl idx O k<=tot idx O:=by
  rw [mY]
  exact JR (fun p _=>List.countP_mono_left (fun _ _ _=>rfl))
theorem nG (hd:aF.get idx (d:Int)=some ⟨d,2⟩) (h:aT n (obj O d).ah=some t):0 < jl idx O t.k:=by
  refine Nat.lt_of_lt_of_le ?_ (ld (g:=fun p=>(obj O p.2.k).ah.countP (fun e=>decide (e.2.k=t.k))) hd)
  exact List.countP_pos_iff.2 ⟨(n,t),lN h,by simp⟩
theorem Cz (hr:aF.cJ (keys idx)) (h:0 < jl idx O k):∃ i u,aF.get idx i=some u/\∃ e∈(obj O u.k).ah,e.2.k=k:=by
  apply Classical.byContradiction
  intro hn
  have:jl idx O k=dz (fun _=>0) idx:=ij (fun p hp=>by
    show List.countP _ _=0
    rw [List.countP_eq_zero]
    intro e he hk
    exact hn ⟨p.1,p.2,oY hr hp,e,he,by simpa using hk⟩)
  have h0:∀ us:Used Th,dz (fun _=>0) us=0:=fun us=>by
    induction us with
    | nil=>rfl
    | cons p r ih=>show 0+_=0;rw [ih]
  rw [this,h0] at h
  omega
end counts
end
section
open Go.RowKit Go.Maps bq aF
section inv
variable {S:aJ} {d k:Nat} {name:ByteArray} {t u:Th}
theorem Inv0.key (h:Inv0 S) {i:Int} (e:aF.get S.idx i=some t):i=(t.k:Int):=(h.idx i t e).1
theorem Inv0.live (h:Inv0 S) {i:Int} (e:aF.get S.idx i=some t):Live S.idx t:=by
  have:=h.key e
  subst this
  exact e
theorem iH {idx:Used Th} (h1:Live idx t) (h2:Live idx u) (e:t.k=u.k):t=u:=by
  unfold Live at h1 h2
  rw [e,h2] at h1
  exact (Option.some.inj h1).symm
theorem Inv0.kind (h:Inv0 S) (hl:Live S.idx t):(obj S.O t.k).kind=t.kind:=(h.ob t hl).2.1
theorem KP {x:ByteArray}:je x x:=by unfold je;simp
theorem j9.twice {es:fY Th} (h:j9 es):oV es:=List.Pairwise.imp (fun {a b} hab e=>hab (by rw [e];exact KP)) h
theorem Inv0.twice (h:Inv0 S) (hl:Live S.idx t):oV (obj S.O t.k).ah:=(h.sorted t hl).twice
theorem Inv0.ent (h:Inv0 S) (hd:Live S.idx u) (hl:aT name (obj S.O u.k).ah=some t):bD name/\Live S.idx t:=h.ah u hd _ (lN hl)
theorem Inv0.ne (h:Inv0 S) (hd:Live S.idx ⟨d,2⟩) (hl:aT name (obj S.O d).ah=some t):t.k≠d:=fun e=>by
  have h1:=(h.ent hd hl).2
  have h2:t=⟨d,2⟩:=iH h1 hd e
  subst h2
  have h3:=(h.up _ hd d).2 ⟨rfl,hd,name,hl⟩
  obtain⟨dp,hdp⟩:=h.deep
  have:dp d < dp d:=hdp _ _ h3
  omega
theorem Inv0.free (h:Inv0 S) (hk:S.X.last < (k:Int)) (hl:Live S.idx t):t.k≠k:=fun e=>by
  have:=(h.idx _ t hl).2.2
  subst e
  omega
theorem lf.of {o o':aY} (h:lf o) (e1:o'.mode=o.mode) (e2:o'.uid=o.uid) (e3:o'.gid=o.gid) (e4:fO o'.sec o'.nano) (e5:o'.kind=o.kind) (e6:o'.data=o.data\/o.kind=1) (e7:o'.ah=o.ah\/o.kind=2) (e8:o'.target=o.target):lf o':=
  ⟨e1 ▸ h.mode,e2 ▸ h.uid,e3 ▸ h.gid,e4,fun hk=>by
    rw [e5] at hk
    rcases e6 with e|e
    ·rw [e];exact h.data hk
    ·exact absurd e hk,fun hk=>by
    rw [e5] at hk
    rcases e7 with e|e
    ·rw [e];exact h.ah hk
    exact absurd e hk,by rw [e5,e8];exact h.target⟩
theorem Inv0.own (h:Inv0 S) {f:aY->aY} {kT iq:Int} {us':Used Th} (f1:∀ o,(f o).id=o.id) (f2:∀ o,(f o).kind=o.kind) (f3:∀ o,(f o).ah=o.ah) (f4:∀ o,(f o).up=o.up) (f5:∀ o,(f o).links=o.links) (f6:∀ o,(f o).gone=o.gone)
    (hm:∀ t,Live S.idx t->t.k=k->lf (f (obj S.O k))) (ho:∀ t,Live S.idx t->(obj (aN S.O k f) t.k).opens=(hnd us' t.k:Int))
    (u1:aF.cJ (keys us')) (u2:∀ x∈keys us',1<=x/\x<=iq) (u3:(us'.length:Int)<=S.X.cH) (u4:0<=iq/\iq<=S.X.cH) (u5:∀ h t,aF.get us' h=some t->Live S.idx t/\t.kind≠3)
    (hu:kT=(bytes S.idx (aN S.O k f):Int)/\kT<=140737488355328):Inv0 { S with X:={ S.X with used:=kT },O:=aN S.O k f,us:=us',aD:=iq }:=by
  have g1:∀ x,(obj (aN S.O k f) x).id=(obj S.O x).id:=fun x=>dH (g:=aY.id) f1
  have g2:∀ x,(obj (aN S.O k f) x).kind=(obj S.O x).kind:=fun x=>dH (g:=aY.kind) f2
  have g3:∀ x,(obj (aN S.O k f) x).ah=(obj S.O x).ah:=fun x=>dH (g:=aY.ah) f3
  have g4:∀ x,(obj (aN S.O k f) x).up=(obj S.O x).up:=fun x=>dH (g:=aY.up) f4
  have g5:∀ x,(obj (aN S.O k f) x).links=(obj S.O x).links:=fun x=>dH (g:=aY.links) f5
  have g6:∀ x,(obj (aN S.O k f) x).gone=(obj S.O x).gone:=fun x=>dH (g:=aY.gone) f6
  refine { h with ob:=fun t hl=>?_,mt:=fun t hl=>?_,ah:=fun t hl=>?_,sorted:=fun t hl=>?_,dead:=fun x hx=>?_,uF:=fun x hx=>by rw [g2];exact h.uF x hx,total:=?_,links:=fun t hl=>?_,once:=fun t hl=>?_,opens:=ho,usr:=u1,su:=u2,Cy:=u3,aD:=u4,us:=u5,gone:=fun t hl=>?_,up:=fun t hl e=>?_,deep:=?_,used:=hu }
  ·rw [g1,g2];exact h.ob t hl
  ·show lf (obj (aN S.O k f) t.k)
   by_cases e:t.k=k
   ·rw [e,cA];exact hm t hl e
   rw [ct e];exact h.mt t hl
  ·rw [g3];exact h.ah t hl
  ·rw [g3];exact h.sorted t hl
  ·rw [g3,g4];exact h.dead x hx
  ·have:tot S.idx (aN S.O k f)=tot S.idx S.O:=ij (fun p _=>by rw [g3])
   show S.X.ah=(tot S.idx (aN S.O k f):Int)/\_
   rw [this];exact h.total
  ·show (obj (aN S.O k f) t.k).links=(jl S.idx (aN S.O k f) t.k:Int)
   have:jl S.idx (aN S.O k f) t.k=jl S.idx S.O t.k:=MV g3
   rw [g5,this];exact h.links t hl
  ·rw [g5];exact h.once t hl
  ·rw [g6,g5,g3];exact h.gone t hl
  ·show (obj (aN S.O k f) t.k).up=some e↔t.kind=2/\Live S.idx ⟨e,2⟩/\∃ n,aT n (obj (aN S.O k f) e).ah=some t
   rw [g4,g3];exact h.up t hl e
  obtain⟨dp,hdp⟩:=h.deep
  exact⟨dp,fun x e he=>hdp x e (by rw [g4] at he;exact he)⟩
def sJ (S:aJ) (t:Th):aJ:={ S with X:={ S.X with used:=jO S.O S.X.used t },idx:=iP S.O S.idx t }
theorem Inv0.sJ (h:Inv0 S) (ht:Live S.idx t) (hf:∀ u,Live S.idx u->u≠t->(obj S.O u.k).gone=true->0 < (obj S.O u.k).opens):Inv (Proofs.YtiehgnlnofhbaaaGreatDoor.sJ S t):=by
  by_cases hF:sI S.O t
  ·have e1:Proofs.YtiehgnlnofhbaaaGreatDoor.sJ S t={ S with X:={ S.X with used:=S.X.used - (obj S.O t.k).data.length },idx:=del (t.k:Int) S.idx }:=by
     unfold Proofs.YtiehgnlnofhbaaaGreatDoor.sJ jO iP
     rw [if_pos hF,if_pos hF,(h.ob t ht).1]
     split
     ·rfl
     rename_i e
     have:=(h.mt t ht).data (by rw [h.kind ht];exact e)
     rw [this]
     simp
   rw [e1]
   obtain⟨hg,hop⟩:=hF
   obtain⟨hlk,hen⟩:=h.gone t ht hg
   have fT:∀ x,Live (del (t.k:Int) S.idx) x↔Live S.idx x/\x.k≠t.k:=fun x=>by
     unfold Live
     rw [qv]
     constructor
     ·intro e
      split at e
      ·cases e
      rename_i e2;exact⟨e,fun e3=>e2 (by rw [e3])⟩
     rintro⟨e,e2⟩
     rw [if_neg (by omega)];exact e
   have hl0:jl S.idx S.O t.k=0:=by have:=h.links t ht;omega
   have hne:∀ x,Live S.idx x->∀ e∈(obj S.O x.k).ah,e.2.k≠t.k:=fun x hx e he hk=>by
     have:0 < jl S.idx S.O t.k:=Nat.lt_of_lt_of_le (List.countP_pos_iff.2 ⟨e,he,by simpa using hk⟩) (ld (g:=fun p=>(obj S.O p.2.k).ah.countP (fun e=>decide (e.2.k=t.k))) hx)
     omega
   have hsum:∀ q:ByteArray×Th->Bool,dz (fun p=>(obj S.O p.2.k).ah.countP q) (del (t.k:Int) S.idx)=dz (fun p=>(obj S.O p.2.k).ah.countP q) S.idx:=fun q=>by
     have h1:=BG (g:=fun p:Int×Th=>(obj S.O p.2.k).ah.countP q) h.rise ht
     have h2:(obj S.O t.k).ah.countP q=0:=by rw [hen];rfl
     have h3:dz (fun p:Int×Th=>(obj S.O p.2.k).ah.countP q) (del (t.k:Int) S.idx)+(obj S.O t.k).ah.countP q=_:=h1
     omega
   refine { h with rise:=GA h.rise,len:=?_,idx:=fun i x e=>?_,ob:=fun x hx=>h.ob x ((fT x).1 hx).1,mt:=fun x hx=>h.mt x ((fT x).1 hx).1,ah:=fun x hx e he=>?_,sorted:=fun x hx=>h.sorted x ((fT x).1 hx).1,dead:=fun x hx=>?_,total:=?_,links:=fun x hx=>?_,once:=fun x hx=>h.once x ((fT x).1 hx).1,opens:=fun x hx=>h.opens x ((fT x).1 hx).1,us:=fun i x e=>?_,gone:=fun x hx=>h.gone x ((fT x).1 hx).1,up:=fun x hx e=>?_,used:=?_,full:=fun x hx hg=>hf x ((fT x).1 hx).1 (fun e=>((fT x).1 hx).2 (by rw [e])) hg }
   ·have h1:=nE h.rise (get_some ht)
    have h2:=h.len
    show (del (t.k:Int) S.idx).length<=4096
    omega
   ·have e:aF.get (del (t.k:Int) S.idx) i=some x:=e
    rw [qv] at e
    split at e
    ·cases e
    exact h.idx i x e
   ·have hx':=((fT x).1 hx).1
    have h1:=h.ah x hx' e he
    exact⟨h1.1,(fT _).2 ⟨h1.2,hne x hx' e he⟩⟩
   ·by_cases e:x=t.k
    ·subst e
     refine⟨hen,?_⟩
     cases hu:(obj S.O t.k).up with
     | none=>rfl
     | some y=>
       obtain⟨_,h2,n,h3⟩:=(h.up t ht y).1 hu
       exact absurd rfl (hne _ h2 _ (lN h3))
    exact h.dead x (fun y hy e2=>hx y ((fT y).2 ⟨hy,fun e3=>e (e2.symm.trans e3)⟩) e2)
   ·show S.X.ah=(tot (del (t.k:Int) S.idx) S.O:Int)/\_
    rw [mY,hsum,← mY];exact h.total
   ·show _=(jl (del (t.k:Int) S.idx) S.O x.k:Int)
    have:jl (del (t.k:Int) S.idx) S.O x.k=jl S.idx S.O x.k:=hsum _
    rw [this];exact h.links x ((fT x).1 hx).1
   ·obtain⟨h1,h2⟩:=h.us i x e
    refine⟨(fT x).2 ⟨h1,fun e2=>?_⟩,h2⟩
    have h3:=h.opens t ht
    have h4:0 < hnd S.us t.k:=Nat.lt_of_lt_of_le (by simp [e2]) (ld (g:=fun p:Int×Th=>if p.2.k=t.k then 1 else 0) e)
    omega
   ·rw [h.up x ((fT x).1 hx).1 e]
    constructor
    ·rintro⟨h1,h2,n,h3⟩
     refine⟨h1,(fT _).2 ⟨h2,fun e2=>?_⟩,n,h3⟩
     have e2:e=t.k:=e2
     rw [e2,hen] at h3;cases h3
    rintro⟨h1,h2,h3⟩
    exact⟨h1,((fT _).1 h2).1,h3⟩
   obtain⟨h1,h2⟩:=h.used
   have h3:dz (fun p:Int×Th=>(obj S.O p.2.k).data.length) (del (t.k:Int) S.idx)+(obj S.O t.k).data.length=dz (fun p:Int×Th=>(obj S.O p.2.k).data.length) S.idx:=BG (g:=fun p:Int×Th=>(obj S.O p.2.k).data.length) h.rise ht
   show S.X.used - ((obj S.O t.k).data.length:Int)=(bytes (del (t.k:Int) S.idx) S.O:Int)/\S.X.used - ((obj S.O t.k).data.length:Int)<=140737488355328
   unfold bytes at h1 ⊢
   omega
  have e1:Proofs.YtiehgnlnofhbaaaGreatDoor.sJ S t=S:=by
    unfold Proofs.YtiehgnlnofhbaaaGreatDoor.sJ jO iP
    rw [if_neg hF,if_neg hF]
  rw [e1]
  refine { h with full:=fun u hu hg=>?_ }
  by_cases e:u=t
  ·subst e
   have h1:=h.opens u hu
   have:¬ (obj S.O u.k).opens=0:=fun e=>hF ⟨hg,e⟩
   omega
  exact hf u hu e hg
end inv
end
section
open Go.RowKit Go.Maps bq aF
section facts
variable {S:aJ} {X:FM} {O:bU} {d k:Nat} {name:ByteArray} {t u:Th}
theorem dS {α:Type} {g:aY->α} (h1:∀ o es,g { o with ah:=es }=g o) (h2:∀ o l,g { o with links:=l }=g o) (h3:∀ o a b,g { o with sec:=a,nano:=b }=g o):g (obj (aR X O d name t) k)=g (obj O k):=by
  unfold aR rC
  rw [dH (fun o=>h2 o _),dH (fun o=>h3 o _ _),dH (fun o=>h1 o _)]
theorem nH {α:Type} {g:aY->α} (h1:∀ o es,g { o with ah:=es }=g o) (h2:∀ o l,g { o with links:=l }=g o) (h3:∀ o a b,g { o with sec:=a,nano:=b }=g o) (h4:∀ o u,g { o with up:=u }=g o):g (obj (dX X O d name t) k)=g (obj O k):=by
  unfold dX rC
  rw [dH (fun o=>h3 o _ _),Bz h1 h2 h4]
theorem Inv0.hX (h:Inv0 S):0<=S.X.ah/\S.X.ah<=1048576/\-1125899906842624<=S.X.used/\S.X.used<=1125899906842624/\0<=S.X.last/\S.X.last<=1125899906842624:=by
  have:=h.total;have:=h.used;have:=h.last
  omega
theorem Inv0.iT (h:Inv0 S) (hl:Live S.idx t):(obj S.O t.k).ah.length<=8192:=by
  have h1:=h.total
  have h2:(obj S.O t.k).ah.length<=tot S.idx S.O:=ld (g:=fun p:Int×Th=>(obj S.O p.2.k).ah.length) hl
  omega
theorem Inv0.lb (h:Inv0 S) (hl:Live S.idx t):0<=(obj S.O t.k).links/\(obj S.O t.k).links<=8192:=by
  have h1:=h.total
  have h2:=h.links t hl
  have h3:jl S.idx S.O t.k<=tot S.idx S.O:=MW
  omega
theorem TA {us:Used Th}:hnd us k<=us.length:=by
  have:hnd us k<=dz (fun _=>1) us:=JR (fun p _=>by split<;>omega)
  have h2:∀ us:Used Th,dz (fun _=>1) us=us.length:=fun us=>by
    induction us with
    | nil=>rfl
    | cons p r ih=>show 1+_=_;rw [ih,List.length_cons];omega
  rw [h2] at this;exact this
theorem Inv0.GD (h:Inv0 S) (hl:Live S.idx t):0<=(obj S.O t.k).opens/\(obj S.O t.k).opens<=1024:=by
  have h1:=h.opens t hl
  have h2:hnd S.us t.k<=S.us.length:=TA
  have:=h.Cy;have:=h.cH
  omega
theorem Inv0.GF (h:Inv0 S) (hl:Live S.idx t):(obj S.O t.k).data.length<=1125899906842624:=by
  have h1:=h.used
  have h2:(obj S.O t.k).data.length<=bytes S.idx S.O:=ld (g:=fun p:Int×Th=>(obj S.O p.2.k).data.length) hl
  omega
theorem Inv0.KQ (h:Inv0 S) (hl:Live S.idx t):(obj S.O t.k).data.length<=140737488355328:=by
  have h1:=h.used
  have h2:(obj S.O t.k).data.length<=bytes S.idx S.O:=ld (g:=fun p:Int×Th=>(obj S.O p.2.k).data.length) hl
  omega
theorem Inv0.MX (h:Inv0 S) (hl:Live S.idx t):(Lit.int .i64 (obj S.O t.k).id).wf=true:=by
  have h1:=h.ob t hl
  have h2:=h.idx _ t hl
  have h3:=h.last
  exact WalkArith.wf_i64 (by omega)
theorem Inv0.pR (h:Inv0 S) (hd:Live S.idx ⟨d,2⟩) (name:ByteArray):aT name (obj S.O d).ah=none\/(∃ k,aT name (obj S.O d).ah=some ⟨k,1⟩/\Live S.idx ⟨k,1⟩)\/(∃ k,aT name (obj S.O d).ah=some ⟨k,2⟩/\Live S.idx ⟨k,2⟩)\/∃ k,aT name (obj S.O d).ah=some ⟨k,3⟩/\Live S.idx ⟨k,3⟩:=by
  cases e:aT name (obj S.O d).ah with
  | none=>exact .inl rfl
  | some t=>
    obtain⟨k,kd⟩:=t
    have h1:=(h.ent hd e).2
    rcases (h.ob _ h1).2.2 with e2|e2|e2<;>subst e2
    ·exact .inr (.inl ⟨k,rfl,h1⟩)
    ·exact .inr (.inr (.inl ⟨k,rfl,h1⟩))
    exact .inr (.inr (.inr ⟨k,rfl,h1⟩))
theorem Inv0.TB (h:Inv0 S) (i:Int):aF.get S.idx i=none\/(∃ k,aF.get S.idx i=some ⟨k,1⟩/\Live S.idx ⟨k,1⟩)\/(∃ k,aF.get S.idx i=some ⟨k,2⟩/\Live S.idx ⟨k,2⟩)\/∃ k,aF.get S.idx i=some ⟨k,3⟩/\Live S.idx ⟨k,3⟩:=by
  cases e:aF.get S.idx i with
  | none=>exact .inl rfl
  | some t=>
    obtain⟨k,kd⟩:=t
    have h1:=h.live e
    rcases (h.ob _ h1).2.2 with e2|e2|e2<;>subst e2
    ·exact .inr (.inl ⟨k,rfl,h1⟩)
    ·exact .inr (.inr (.inl ⟨k,rfl,h1⟩))
    exact .inr (.inr (.inr ⟨k,rfl,h1⟩))
theorem Inv0.hand (h:Inv0 S) (i:Int):aF.get S.us i=none\/(∃ k,aF.get S.us i=some ⟨k,1⟩/\Live S.idx ⟨k,1⟩)\/∃ k,aF.get S.us i=some ⟨k,2⟩/\Live S.idx ⟨k,2⟩:=by
  cases e:aF.get S.us i with
  | none=>exact .inl rfl
  | some t=>
    obtain⟨k,kd⟩:=t
    obtain⟨h1,h0⟩:=h.us i _ e
    rcases (h.ob _ h1).2.2 with e2|e2|e2
    ·simp only at e2;subst e2;exact .inr (.inl ⟨k,rfl,h1⟩)
    ·simp only at e2;subst e2;exact .inr (.inr ⟨k,rfl,h1⟩)
    exact absurd e2 h0
theorem Inv0.Vr (h:Inv0 S) (hd:Live S.idx ⟨d,2⟩) (hl:aT name (obj S.O d).ah=some t):1<=S.X.ah:=by
  have h1:=h.total
  have h2:0 < jl S.idx S.O t.k:=nG hd hl
  have h3:jl S.idx S.O t.k<=tot S.idx S.O:=MW
  omega
theorem Inv0.Az (h:Inv0 S) (hd:Live S.idx ⟨d,2⟩) (hl:aT name (obj S.O d).ah=some t):0<=S.X.ah - 1/\S.X.ah - 1<=1048576/\-1125899906842624<=S.X.used/\S.X.used<=1125899906842624/\0<=S.X.last/\S.X.last<=1125899906842624:=by
  have:=h.Vr hd hl;have:=h.hX
  omega
theorem wL {L:HL} {us:Used Th} {h:Int} (e:aF.get us h=none):aF.get (bH L us) h=none:=by
  unfold bH;rw [get_map,e];rfl
theorem qA {L:HL} {us:Used Th} {h:Int} (e:aF.get us h=some t):aF.get (bH L us) h=some (eu L t):=by
  unfold bH;rw [get_map,e];rfl
theorem sV {L:HL} {us:Used Th} {h:Int} (hn:aF.get us h=none):kD (bA (bH L us)) (.int .i64 h) (some (eu L t))=bA (bH L (ins h t us)):=by
  rw [DZ (get_none.1 (wL hn))]
  exact congrArg bA (JK (eu L) h t us).symm
theorem MY {L:HL} {us:Used Th}:aF.least (bH L us)=aF.least us:=by unfold aF.least;rw [BB]
theorem D3 {TT:TypeId} {L:HL} {us:Used Th} {v:Value} {l:List HP} {b:Nat} {most aD:Int} (h:v=.tuple #[.int .i64 (aF.least (bH L us)),.int .i64 0]/\l=[.abs (dx TT b most (max aD (((bH L us).length:Int)+1)) (ins (aF.least (bH L us)) (eu L t) (bH L us)))]):v=.tuple #[.int .i64 (aF.least us),.int .i64 0]/\l=[.abs (dx TT b most (max aD ((us.length:Int)+1)) (bH L (ins (aF.least us) t us)))]:=by
  rw [MY,qw] at h
  have e:ins (aF.least us) (eu L t) (bH L us)=bH L (ins (aF.least us) t us):=(JK (eu L) (aF.least us) t us).symm
  rw [e] at h
  exact h
theorem Pv {α:Type} {es:fY α} {n:ByteArray} (h:es=[]):aT n es=none:=by rw [h];rfl
end facts
section blocks
variable {O:bU} {L:HL} {k j:Nat} {t u:Th}
theorem zW (hk:(obj O k).kind≠0) {F:Fp} {w:World} (h:(aG (bS O L)).h F w):∃ cs T,w.heap[L.b k]?=some (.cells cs T (0,0)):=by
  obtain⟨G,g⟩:=aG.at k h
  rw [lZ hk] at g
  exact⟨_,_,g.1⟩
theorem JS (hk:(obj O k).kind≠0) (hj:(obj O j).kind≠0) {F:Fp} {w:World} (h:(aG (bS O L)).h F w) (e:L.b k=L.b j):k=j:=by
  apply Classical.byContradiction
  intro hne
  obtain⟨φ,h1,h2,_⟩:=h
  have g1:=h1 k
  have g2:=h1 j
  rw [lZ hk] at g1
  rw [lZ hj] at g2
  exact h2 k j hne (L.b k) ((g1.2 _).2 rfl) ((g2.2 _).2 e)
theorem D4:Tryz.prog.underlying 169=some (.pointer 176):=by kernel_rfl
theorem Pw:Tryz.prog.underlying 162=some (.pointer 165):=by kernel_rfl
theorem Px:Tryz.prog.underlying 166=some (.pointer 168):=by kernel_rfl
end blocks
end
section
open Go.RowKit Go.Maps bq aF
theorem Py {s:ByteArray}:0<=Lib.indexByte s.data.toList ((0:Int).toNat.toUInt8)↔¬ zJ s:=by
  have hge:=Lib.indexByte_ge s.data.toList ((0:Int).toNat.toUInt8)
  constructor
  ·intro h hn
   obtain⟨o,ho⟩:=Int.eq_ofNat_of_zero_le h
   have h1:=(Lib.indexByte_some ho).1
   obtain⟨h2,h3⟩:=yt h1
   exact hn o h2 h3
  intro hn
  apply Classical.byContradiction
  intro hlt
  refine hn (fun j hj h0=>Lib.indexByte_none (show Lib.indexByte s.data.toList ((0:Int).toNat.toUInt8) = -1 by omega) j ?_)
  rw [qR hj]
  congr 1
  apply UInt8.toNat_inj.1
  exact h0
theorem Ja {β:Bs} (s:ByteArray):Spec Tryz.prog β 105 #[.string s,.int .u8 0] [] (fun v l=>(∃ x:Int,v=.int .i64 x/\(0<=x↔¬ zJ s))/\l=[]):=
  fun _ w hS=>(Tryz.strings_IndexByte s 0 w).mono fun _ _ ⟨h1,h2⟩=>⟨_,[],h1,⟨⟨_,rfl,Py⟩,rfl⟩,h2 ▸ hS⟩
section ptr
variable {O:bU} {L:HL} {k j:Nat}
theorem Pz:∃ j,Tryz.prog.info? 176=some j/\j.size≠0:=by
  have h:(match Tryz.prog.info? 176 with|some j=>j.size != 0|none=>false)=true:=by kernel_rfl
  cases e:Tryz.prog.info? 176 with
  | none=>rw [e] at h;cases h
  | some j=>rw [e] at h;exact⟨j,rfl,by simpa using h⟩
theorem MZ {w:World} {o:Oper} {ev:Operand->Value} {x y:Operand} (ho:o.op=.binOp .eql 169 x y 169) (hx:ev x=.pointer (some ⟨L.b k,0,none⟩)) (hy:ev y=.pointer (some ⟨L.b j,0,none⟩)) (hk:(obj O k).kind≠0) (hj:(obj O j).kind≠0) {F:Fp} (hF:(aG (bS O L)).h F w) :
    oP Tryz.prog ev o w (.bool (decide (k=j))) w:=by
  obtain⟨dst,op,type,pos,after,guard⟩:=o
  cases ho
  refine .inl ?_
  simp only [execOp,hx,hy]
  obtain⟨ca,ta,ha⟩:=zW hk hF
  obtain⟨cb,tb,hb⟩:=zW hj hF
  obtain⟨i,hi,hsz⟩:=Pz
  have h1:(binOp .eql 169 (.pointer (some ⟨L.b k,0,none⟩)) (.pointer (some ⟨L.b j,0,none⟩))).run Tryz.prog w=.ok (.bool (decide (k=j))) w:=by
    by_cases e:k=j
    ·subst e
     rw [run_eql_ptr_same _ _ D4 hi]
     simp
    rw [run_eql_ptr_other _ D4 hi hsz (fun h=>e (JS hk hj hF (congrArg Addr.block h))) ha hb]
    simp [e]
  simp [go_sem,eqGuard,h1]
def GH (tp te:TypeId):Prop:=Tryz.prog.underlying tp=some (.pointer te)/\(∃ i,Tryz.prog.info? tp=some i/\i.comparable=true)/\∃ j,Tryz.prog.info? te=some j/\j.size≠0
theorem D5 {tp te:TypeId} (h1:Tryz.prog.underlying tp=some (.pointer te)) (h2:(match Tryz.prog.info? tp with|some j=>j.comparable|none=>false)=true) (h3:(match Tryz.prog.info? te with|some j=>j.size != 0|none=>false)=true):GH tp te:=by
  refine⟨h1,?_,?_⟩
  ·cases e:Tryz.prog.info? tp with
   | none=>rw [e] at h2;cases h2
   | some j=>rw [e] at h2;exact⟨j,rfl,h2⟩
  cases e:Tryz.prog.info? te with
  | none=>rw [e] at h3;cases h3
  | some j=>rw [e] at h3;exact⟨j,rfl,by simpa using h3⟩
theorem TD:GH 162 165:=D5 Pw (by kernel_rfl) (by kernel_rfl)
theorem Vs:GH 169 176:=D5 D4 (by kernel_rfl) (by kernel_rfl)
theorem TF:GH 166 168:=D5 Px (by kernel_rfl) (by kernel_rfl)
theorem BH {tp te:TypeId} (hT:GH tp te) {w:World} {o:Oper} {ev:Operand->Value} {x y:Operand} (ho:o.op=.binOp .eql 156 x y 156) (hx:ev x=.iface tp (.pointer (some ⟨L.b k,0,none⟩))) (hy:ev y=.iface tp (.pointer (some ⟨L.b j,0,none⟩))) (hk:(obj O k).kind≠0) (hj:(obj O j).kind≠0) {F:Fp} (hF:(aG (bS O L)).h F w) :
    oP Tryz.prog ev o w (.bool (decide (k=j))) w:=by
  obtain⟨dst,op,type,pos,after,guard⟩:=o
  cases ho
  refine .inl ?_
  simp only [execOp,hx,hy]
  obtain⟨ca,ta,ha⟩:=zW hk hF
  obtain⟨cb,tb,hb⟩:=zW hj hF
  obtain⟨g1,⟨i,hi,hc⟩,j',hj',hsz⟩:=hT
  have h1:(binOp .eql 156 (.iface tp (.pointer (some ⟨L.b k,0,none⟩))) (.iface tp (.pointer (some ⟨L.b j,0,none⟩)))).run Tryz.prog w=.ok (.bool (decide (k=j))) w:=by
    by_cases e:k=j
    ·subst e
     rw [run_eql_iface_ptr_same _ _ Tryz.underlying156 g1 hi hc hj']
     simp
    rw [run_eql_iface_ptr_other _ Tryz.underlying156 g1 hi hc hj' hsz (fun h=>e (JS hk hj hF (congrArg Addr.block h))) ha hb]
    simp [e]
  simp [go_sem,eqGuard,h1]
end ptr
end
section
open Go.RowKit Go.Maps bq aF
structure uG (O:bU) (idx us:Used Th) (k:Nat):Prop where
  up:∀ x,(obj O x).up≠some k
  ah:∀ x,∀ e∈(obj O x).ah,e.2.k≠k
  idx:∀ p∈idx,p.2.k≠k
  us:∀ p∈us,p.2.k≠k
section fresh
variable {S:aJ} {O:bU} {idx us:Used Th} {L L':HL} {k b m c:Nat} {A:Option Addr} {o:aY} {t:Th}
theorem sW (h:Inv0 S):(bJ S.X:Int)=S.X.last+1:=by
  have:=h.last
  unfold bJ
  omega
theorem Inv0.yK (h:Inv0 S) (ht:Live S.idx t):t.k≠bJ S.X:=h.free (by have:=sW h;omega) ht
theorem Inv0.D6 (h:Inv0 S) (hk:S.X.last < (k:Int)):uG S.O S.idx S.us k:=by
  have key:∀ x,(∃ t,Live S.idx t/\t.k=x)\/(obj S.O x).ah=[]/\(obj S.O x).up=none:=fun x=>by
    by_cases hx:∃ t,Live S.idx t/\t.k=x
    ·exact .inl hx
    exact .inr (h.dead x (fun t ht e=>hx ⟨t,ht,e⟩))
  refine⟨fun x e=>?_,fun x e he=>?_,fun p hp=>?_,fun p hp=>?_⟩
  ·rcases key x with ⟨t,ht,rfl⟩|hx
   ·obtain⟨_,h2,_⟩:=(h.up t ht _).1 e
    exact h.free hk h2 rfl
   rw [hx.2] at e;cases e
  ·rcases key x with ⟨t,ht,rfl⟩|hx
   ·exact h.free hk (h.ah t ht e he).2
   rw [hx.1] at he;cases he
  ·exact h.free hk (h.live (oY h.rise hp))
  exact h.free hk (h.us _ _ (oY h.usr hp)).1
theorem Inv0.fresh (h:Inv0 S):uG S.O S.idx S.us (bJ S.X):=h.D6 (by have:=sW h;omega)
theorem zX (hL:L'=L.put k b m A c) {x:Nat} (h:x≠k):L'.b x=L.b x:=by subst hL;exact if_neg h
theorem GI (hL:L'=L.put k b m A c):L'.b k=b:=by subst hL;exact if_pos rfl
theorem GJ (hL:L'=L.put k b m A c):L'.m k=m:=by subst hL;exact if_pos rfl
theorem M0 (hL:L'=L.put k b m A c) (h:t.k≠k):eu L' t=eu L t:=by unfold eu;rw [zX hL h]
theorem sX (hL:L'=L.put k b m A c) (kind:Int):eu L' ⟨k,kind⟩=.iface (VY kind) (.pointer (some ⟨b,0,none⟩)):=by unfold eu;rw [GI hL]
theorem kB (hL:L'=L.put k b m A c) (h:∀ p∈us,p.2.k≠k):bH L' us=bH L us:=List.map_congr_left (fun p hp=>by rw [M0 hL (h p hp)])
theorem PA {es:fY Th} {n:ByteArray} (h:∀ e∈es,e.2.k≠k) (e:aT n es=some t):t.k≠k:=h _ (lN e)
theorem PB (hL:L'=L.put k b m A c) {es:fY Th} (h:∀ e∈es,e.2.k≠k):jm L' es=jm L es:=by
  unfold jm
  congr 1
  funext n
  cases e:aT n es with
  | none=>rfl
  | some t=>exact congrArg some (M0 hL (PA h e))
theorem R4 (hL:L'=L.put k b m A c) (hf:uG O idx us k) {x:Nat} (h:x≠k):bS O L' x=bS O L x:=by
  have e1:=zX hL h
  have e2:iL L' x (obj O x)=iL L x (obj O x):=by
    unfold iL zN
    have h1:Ay L' (obj O x).up=Ay L (obj O x).up:=by
      cases hu:(obj O x).up with
      | none=>rfl
      | some d=>show Value.pointer _=Value.pointer _;rw [zX hL (fun e=>hf.up x (by rw [hu,e]))]
    rw [h1]
    subst hL
    simp only [HL.put,if_neg h]
  unfold bS
  rw [e1,e2]
theorem JT (hL:L'=L.put k b m A c) (hf:uG O idx us k) {x:Nat} (h:x≠k):cY O L' x=cY O L x:=by
  unfold cY
  rw [PB hL (hf.ah x)]
  subst hL
  simp only [HL.put,if_neg h]
theorem D7 (hL:L'=L.put k b m A c) {x:Nat} (h:x≠k):cg O L' x=cg O L x:=by
  unfold cg
  subst hL
  simp only [HL.put,if_neg h]
end fresh
theorem tJ {O O':bU} {L:HL} (h1:∀ x,(obj O' x).data=(obj O x).data) (h2:∀ x,(obj O' x).kind=(obj O x).kind):cg O' L=cg O L:=by
  funext x
  unfold cg
  rw [h1,h2]
theorem jX {X:FM} {O:bU} {L:HL} {d:Nat} {name:ByteArray} {t:Th}:cg (dX X O d name t) L=cg O L:=
  tJ (fun _=>nH (g:=aY.data) (fun _ _=>rfl) (fun _ _=>rfl) (fun _ _ _=>rfl) (fun _ _=>rfl)) (fun _=>I6)
theorem kJ {X:FM} {O:bU} {L:HL} {d:Nat} {name:ByteArray} {t:Th}:cg (aR X O d name t) L=cg O L:=
  tJ (fun _=>dS (g:=aY.data) (fun _ _=>rfl) (fun _ _=>rfl) (fun _ _ _=>rfl)) (fun _=>cP)
theorem qC {α:Type} {g:aY->α} {O:bU} {k j:Nat} (h:∀ o b,g { o with gone:=b }=g o):g (obj (qU O j) k)=g (obj O k):=dH (f:=fun o=>{ o with gone:=true }) (fun o=>h o true)
theorem PD {O:bU} {L:HL} {k:Nat}:cg (qU O k) L=cg O L:=tJ (fun _=>qC (g:=aY.data) (fun _ _=>rfl)) (fun _=>qC (g:=aY.kind) (fun _ _=>rfl))
theorem oC {S:aJ} {L:HL} {d:Nat} {name:ByteArray} {t:Th}:cg (aL S d name t).O L=cg S.O L:=by
  unfold aL
  simp only
  split
  ·exact PD.trans kJ
  exact kJ
theorem CA {S:aJ} {d k:Nat} {name:ByteArray} {t:Th}:(obj (aL S d name t).O k).kind=(obj S.O k).kind:=by
  unfold aL
  simp only
  split
  ·exact (qC (g:=aY.kind) (fun _ _=>rfl)).trans cP
  exact cP
theorem rF {X:FM} {O:bU} {idx:Used Th} {d:Nat} {name:ByteArray} (h:cQ X O idx d name=0):aT name (obj O d).ah=none:=by
  unfold cQ at h
  split at h
  ·assumption
  cases h
theorem vo {X:FM} {O:bU} {idx:Used Th} {d:Nat} {name:ByteArray} (h:cQ X O idx d name=0):Room X idx:=by
  unfold cQ at h
  split at h
  ·split at h
   ·assumption
   cases h
  cases h
theorem vr {X:FM} {O:bU} {idx:Used Th} {d:Nat} {name:ByteArray} (h:cQ X O idx d name=0):X.last < 1099511627776:=(vo h).2.1
section sat
variable {β:Bs} {l l':List HP} {w:World} {i j k b m c:Nat} {O:bU} {us:Used Th} {idx' us':Used Th} {L L':HL} {cs:List Value} {T:TypeId} {ix:List Nat} {A:Option Addr} {o:aY} {R R':Nat->bW}
theorem Sat.less {p p':HP} (h:Sat β l w) (hp:l[i]?=some p) (hs:∀ F,p.h F w->∃ F',p'.h F' w/\∀ x,F' x->F x):Sat β (l.set i p') w:=
  h.set hp (fun F hF=>let ⟨F',h1,h2⟩:=hs F hF;⟨F',h1,⟨Keeps.refl _ _,fun k hk=>.inl (h2 k hk)⟩⟩)
theorem Sat.M4 (h:Sat β l w) (hp:l[i]?=some (.abs (aG R))) (k:Nat) (hR:∀ x,x≠k->R' x=R x) (ha:R' k=bW.none):Sat β (l.set i (.abs (aG R'))) w:=by
  refine h.less hp ?_
  rintro F ⟨φ,h1,h2,h3⟩
  refine⟨fun x=>∃ i,i≠k/\φ i x,⟨fun i=>if i=k then fun _=>False else φ i,fun i=>?_,fun i j hne x hx hy=>?_,fun x=>⟨fun ⟨i,hne,hx⟩=>⟨i,by simpa [hne] using hx⟩,fun ⟨i,hx⟩=>?_⟩⟩,fun x ⟨i,_,hx⟩=>(h3 x).2 ⟨i,hx⟩⟩
  ·by_cases e:i=k
   ·subst e;simp only [if_true];rw [ha];exact fun _ h=>h
   simp only [e,if_false];rw [hR i e];exact h1 i
  ·by_cases e1:i=k
   ·simp [e1] at hx
   by_cases e2:j=k
   ·simp [e2] at hy
   exact h2 i j hne x (by simpa [e1] using hx) (by simpa [e2] using hy)
  by_cases e1:i=k
  ·simp [e1] at hx
  exact⟨i,e1,by simpa [e1] using hx⟩
theorem Sat.zY (h:Sat β l w) (hL:L'=L.put k b m A c) (hf:uG O idx' us' k) (hp:l[i]?=some (.abs (aG (bS O L)))) (hq:l[j]?=some (.blk b cs T)) (hd:nodupB (i::j::ix)=true) (hl:bN l ix=some l') (h0:o.kind≠0) (hc:iL L' k o=cs) (hT:rX o.kind=T):Sat β (.abs (aG (bS (aN O k (fun _=>o)) L'))::l') w:=by
  refine h.sH (a:=DV b cs T) hp hq (fun _ _ h=>h) hd hl k (fun x hx=>?_) (by rw [zO,if_neg h0,hc,hT,GI hL])
  rw [Cp hx,R4 hL hf hx]
theorem Sat.QT (h:Sat β l w) (hL:L'=L.put k b m A c) (hf:uG O idx' us' k) (hp:l[i]?=some (.abs (aG (cY O L)))) (hq:l[j]?=some (.abs (aP Tryz.prog 9 m (fun _=>none) 0))) (hd:nodupB (i::j::ix)=true) (hl:bN l ix=some l') (h2:o.kind=2) (he:o.ah=[]):Sat β (.abs (aG (cY (aN O k (fun _=>o)) L'))::l') w:=by
  refine h.sH hp hq (fun _ _ h=>h) hd hl k (fun x hx=>by rw [Cq hx,JT hL hf hx]) ?_
  rw [oW (by rw [cA];exact h2),cA,he,Pc,GJ hL];rfl
theorem Sat.CB (h:Sat β l w) (hL:L'=L.put k b m A c) (hf:uG O idx' us' k) (hp:l[i]?=some (.abs (aG (cY O L)))) (h2:o.kind≠2):Sat β (l.set i (.abs (aG (cY (aN O k (fun _=>o)) L')))) w:=by
  refine h.M4 hp k (fun x hx=>by rw [Cq hx,JT hL hf hx]) ?_
  unfold cY;rw [cA,if_neg h2]
theorem Sat.CC (h:Sat β l w) (hL:L'=L.put k b m A c) (hp:l[i]?=some (.abs (aG (cg O L)))) (h1:o.kind≠1):Sat β (l.set i (.abs (aG (cg (aN O k (fun _=>o)) L')))) w:=by
  refine h.M4 hp k (fun x hx=>by rw [Cr hx,D7 hL hx]) ?_
  unfold cg;rw [cA,if_neg h1]
theorem Sat.Vt (h:Sat β l w) (hL:L'=L.put k b m none 0) (hp:l[i]?=some (.abs (aG (cg O L)))) (hq:l[j]?=some (.abs (aH 5 1 none 0 0 []))) (hd:nodupB (i::j::ix)=true) (hl:bN l ix=some l') (h1:o.kind=1) (he:o.data=[]):Sat β (.abs (aG (cg (aN O k (fun _=>o)) L'))::l') w:=by
  refine h.sH hp hq (fun _ _ h=>h) hd hl k (fun x hx=>by rw [Cr hx,D7 hL hx]) ?_
  rw [tE (by rw [cA];exact h1),cA,he]
  subst hL
  simp only [HL.put,if_true]
  rfl
end sat
end
section
open Go.RowKit Go.Maps bq aF
section inv
variable {S:aJ} {d:Nat} {name:ByteArray} {t:Th} {O':bU}
theorem j9.del {es:fY Th} (h:j9 es):j9 (iB name es):=List.Pairwise.filter _ h
theorem tK {x y:ByteArray}:¬ je x y↔fk y x < 0:=by
  unfold je
  rw [vB,Lib.toList_data,Lib.toList_data]
  have h1:=@yc x.data.toList y.data.toList
  have h2:=@q8 x y
  have h3:=uq x y
  unfold fk at h2 h3 ⊢
  rw [Bool.or_eq_true,decide_eq_true_iff,← h1,← h2]
  omega
theorem j9.ins {es:fY Th} (h:j9 es) (hn:aT name es=none):j9 (iA name t es):=by
  induction es with
  | nil=>exact List.pairwise_singleton ..
  | cons e r ih=>
    obtain⟨h1,h2⟩:=List.pairwise_cons.1 h
    have hall:=sG.1 hn
    unfold iA
    split
    ·rename_i hlt
     refine List.pairwise_cons.2 ⟨fun x hx=>?_,h⟩
     rcases List.mem_cons.1 hx with rfl|hx
     ·exact hlt
     have h3:=h1 x hx
     exact tK.2 (pz (tK.1 hlt) (Int.le_of_lt (tK.1 h3)))
    rename_i hle
    refine List.pairwise_cons.2 ⟨fun x hx=>?_,ih h2 (sG.2 (fun x hx=>hall x (List.mem_cons_of_mem _ hx)))⟩
    rcases Bw.1 hx with rfl|hx
    ·have hne:¬ e.1=name:=hall e (List.mem_cons_self ..)
     refine tK.2 ?_
     have h4:¬ fk name e.1 < 0:=fun hc=>hle (tK.2 hc)
     have h5:=uq e.1 name
     have h6:¬ fk e.1 name=0:=fun hc=>hne (q8.1 hc)
     show fk e.1 name < 0
     omega
    exact h1 x hx
theorem Inv0.cut (hI:Inv0 S) (hd:Live S.idx ⟨d,2⟩) (hl:aT name (obj S.O d).ah=some t) {g:Bool}
    (hO:∀ k,obj O' k=if k=d then { obj S.O d with ah:=iB name (obj S.O d).ah,sec:=S.X.cS,nano:=S.X.cZ } else if k=t.k then { obj S.O k with links:=(obj S.O k).links - 1,gone:=g,up:=none } else obj S.O k)
    (hg:g=(obj S.O t.k).gone\/(obj S.O t.k).links - 1=0/\(t.kind=2->(obj S.O t.k).ah=[])):Inv0 { S with X:={ S.X with ah:=S.X.ah - 1 },O:=O' }:=by
  have hne:=hI.ne hd hl
  have ht:=(hI.ent hd hl).2
  have oD:obj O' d={ obj S.O d with ah:=iB name (obj S.O d).ah,sec:=S.X.cS,nano:=S.X.cZ }:=by rw [hO,if_pos rfl]
  have oT:obj O' t.k={ obj S.O t.k with links:=(obj S.O t.k).links - 1,gone:=g,up:=none }:=by rw [hO,if_neg hne,if_pos rfl]
  have oX:∀ x,x≠d->x≠t.k->obj O' x=obj S.O x:=fun x h1 h2=>by rw [hO,if_neg h1,if_neg h2]
  have AA:∀ {α:Type} (G:aY->α),(∀ o es a b,G { o with ah:=es,sec:=a,nano:=b }=G o)->(∀ o l g,G { o with links:=l,gone:=g,up:=none }=G o)->∀ x,G (obj O' x)=G (obj S.O x):=fun G h1 h2 x=>by
    by_cases e:x=d
    ·subst e;rw [oD];exact h1 _ _ _ _
    by_cases e2:x=t.k
    ·subst e2;rw [oT];exact h2 _ _ _
    rw [oX x e e2]
  have TG:=AA aY.id (fun _ _ _ _=>rfl) (fun _ _ _=>rfl)
  have CD:=AA aY.kind (fun _ _ _ _=>rfl) (fun _ _ _=>rfl)
  have KR:=AA aY.data (fun _ _ _ _=>rfl) (fun _ _ _=>rfl)
  have TH:=AA aY.opens (fun _ _ _ _=>rfl) (fun _ _ _=>rfl)
  have fE:∀ x,x≠d->(obj O' x).ah=(obj S.O x).ah:=fun x hx=>by
    by_cases e2:x=t.k
    ·subst e2;rw [oT]
    rw [oX x hx e2]
  have AB:(obj O' d).ah=iB name (obj S.O d).ah:=by rw [oD]
  have hlk:0 < jl S.idx S.O t.k:=nG hd hl
  have hlt:=hI.links t ht
  have hky:∀ i u,aF.get S.idx i=some u->i=(u.k:Int):=fun i u e=>hI.key e
  have hsum:∀ q:ByteArray×Th->Bool,_:=fun q=>Pt (q:=q) hI.rise hd hky fE AB (hI.twice hd) hl
  have KS:∀ x,jl S.idx O' x+(if t.k=x then 1 else 0)=jl S.idx S.O x:=fun x=>by
    have h1:=hsum (fun e=>decide (e.2.k=x))
    simp only [decide_eq_true_eq] at h1
    exact h1
  refine { hI with ob:=fun x hx=>?_,mt:=fun x hx=>?_,ah:=fun x hx e he=>?_,sorted:=fun x hx=>?_,dead:=fun x hx=>?_,uF:=fun x hx=>(CD x).trans (hI.uF x hx),total:=?_,links:=fun x hx=>?_,once:=fun x hx hk=>?_,opens:=fun x hx=>?_,gone:=fun x hx jF=>?_,up:=fun x hx e=>?_,deep:=?_,used:=?_ }
  ·show (obj O' x.k).id=_/\(obj O' x.k).kind=_/\_
   rw [TG,CD];exact hI.ob x hx
  ·show lf (obj O' x.k)
   have hm:=hI.mt x hx
   by_cases e:x.k=d
   ·rw [e] at hm ⊢
    rw [oD]
    exact hm.of rfl rfl rfl hI.now rfl (.inl rfl) (.inr (hI.kind hd)) rfl
   by_cases e2:x.k=t.k
   ·rw [e2] at hm ⊢
    rw [oT]
    exact hm.of rfl rfl rfl hm.time rfl (.inl rfl) (.inl rfl) rfl
   rw [oX _ e e2];exact hm
  ·by_cases e1:x.k=d
   ·have he:e∈(obj O' x.k).ah:=he
    rw [e1,AB] at he
    exact hI.ah _ hd e (Pr he).1
   have he:e∈(obj O' x.k).ah:=he
   rw [fE _ e1] at he
   exact hI.ah x hx e he
  ·show j9 (obj O' x.k).ah
   by_cases e1:x.k=d
   ·rw [e1,AB];exact j9.del (hI.sorted _ hd)
   rw [fE _ e1];exact hI.sorted x hx
  ·show (obj O' x).ah=[]/\(obj O' x).up=none
   rw [oX x (fun e=>hx _ hd e.symm) (fun e=>hx t ht e.symm)]
   exact hI.dead x hx
  ·have h1:=hsum (fun _=>true)
   have h2:=hI.total
   rw [mY] at h2
   show S.X.ah - 1=(tot S.idx O':Int)/\S.X.ah - 1<=8192
   rw [mY]
   simp only [if_true] at h1
   omega
  ·show (obj O' x.k).links=(jl S.idx O' x.k:Int)
   have h1:=KS x.k
   have h2:=hI.links x hx
   by_cases e2:x.k=t.k
   ·rw [if_pos e2.symm] at h1
    rw [e2,oT]
    rw [e2] at h1
    show (obj S.O t.k).links - 1=_
    omega
   rw [if_neg (fun e=>e2 e.symm)] at h1
   have:(obj O' x.k).links=(obj S.O x.k).links:=by
     by_cases e:x.k=d
     ·rw [e,oD]
     rw [oX _ e e2]
   omega
  ·show (obj O' x.k).links<=1
   have h1:=hI.once x hx hk
   by_cases e2:x.k=t.k
   ·rw [e2] at h1 ⊢
    rw [oT]
    show (obj S.O t.k).links - 1<=1
    omega
   by_cases e:x.k=d
   ·rw [e] at h1 ⊢;rw [oD];exact h1
   rw [oX _ e e2];exact h1
  ·show (obj O' x.k).opens=_
   rw [TH];exact hI.opens x hx
  ·have jF:(obj O' x.k).gone=true:=jF
   show (obj O' x.k).links=0/\(obj O' x.k).ah=[]
   by_cases e2:x.k=t.k
   ·rw [e2] at jF ⊢
    rw [fE _ hne,oT]
    rw [oT] at jF
    show (obj S.O t.k).links - 1=0/\_
    rcases hg with h|⟨h1,h2⟩
    ·have jF:g=true:=jF
     rw [h] at jF
     have:=(hI.gone t ht jF).1
     omega
    refine⟨h1,?_⟩
    by_cases hk:t.kind=2
    ·exact h2 hk
    exact (hI.mt t ht).ah (by rw [hI.kind ht];exact hk)
   by_cases e:x.k=d
   ·rw [e,oD] at jF
    have:=(hI.gone _ hd jF).2
    rw [Pv this] at hl;cases hl
   rw [oX _ e e2] at jF ⊢;exact hI.gone x hx jF
  ·show (obj O' x.k).up=some e↔x.kind=2/\Live S.idx ⟨e,2⟩/\∃ n,aT n (obj O' e).ah=some x
   by_cases e2:x.k=t.k
   ·have M5:x=t:=iH hx ht e2
    subst M5
    rw [oT]
    constructor
    ·intro h;cases h
    rintro⟨hk,hle,n,hn⟩
    have h1:=hI.once x hx hk
    have h2:=KS x.k
    rw [if_pos rfl] at h2
    have h3:0 < jl S.idx O' x.k:=nG hle hn
    omega
   have h1:(obj O' x.k).up=(obj S.O x.k).up:=by
     by_cases e:x.k=d
     ·rw [e,oD]
     rw [oX _ e e2]
   have h2:∀ n,aT n (obj O' e).ah=some x↔aT n (obj S.O e).ah=some x:=fun n=>by
     by_cases e3:e=d
     ·rw [e3,AB,rA]
      by_cases hnn:n=name
      ·rw [if_pos hnn,hnn,hl]
       constructor
       ·intro h;cases h
       intro h;exact absurd (congrArg Th.k (Option.some.inj h)).symm e2
      rw [if_neg hnn]
     rw [fE _ e3]
   rw [h1,hI.up x hx e]
   simp only [h2]
  ·obtain⟨dp,hdp⟩:=hI.deep
   refine⟨dp,fun x e hx=>?_⟩
   have hx:(obj O' x).up=some e:=hx
   by_cases e2:x=t.k
   ·rw [e2,oT] at hx;cases hx
   by_cases e3:x=d
   ·rw [e3,oD] at hx;rw [e3];exact hdp _ _ hx
   rw [oX _ e3 e2] at hx;exact hdp _ _ hx
  have:bytes S.idx O'=bytes S.idx S.O:=ij (fun p _=>by rw [KR])
  show S.X.used=(bytes S.idx O':Int)/\_
  rw [this];exact hI.used
theorem KT {O O1:bU} {s k:Nat} (h:∀ x e,(obj O1 x).up=some e->(obj O x).up=some e) (hb:jM O1 s k):jM O s k:=by
  induction hb with
  | here=>exact .here
  | up hu _ ih=>exact .up (h _ _ hu) ih
theorem ER {O:bU} {s k:Nat}:jM O s k↔k=s\/∃ e,(obj O k).up=some e/\jM O s e:=by
  constructor
  ·rintro (_|⟨h1,h2⟩)
   ·exact .inl rfl
   exact .inr ⟨_,h1,h2⟩
  rintro (h|⟨e,h1,h2⟩)
  ·subst h;exact .here
  exact .up h1 h2
theorem Inv0.put (hI:Inv0 S) (hd:Live S.idx ⟨d,2⟩) (ko:(obj S.O d).gone=false) (hn:aT name (obj S.O d).ah=none) (hgn:bD name) (ht:Live S.idx t) (Cu:(obj S.O t.k).gone=false) (PE:t.kind=2->(obj S.O t.k).links=0/\¬ jM S.O t.k d) (htd:t.k≠d) (hroom:S.X.ah < 8192) {ta tb:Int} (X5:fO ta tb)
    (hO:∀ k,obj O' k=if k=d then { obj S.O d with ah:=iA name t (obj S.O d).ah,sec:=ta,nano:=tb } else if k=t.k then { obj S.O k with links:=(obj S.O k).links+1,up:=if t.kind=2 then some d else (obj S.O k).up } else obj S.O k) :
    Inv0 { S with X:={ S.X with ah:=S.X.ah+1 },O:=O' }:=by
  have hne:=htd
  have oD:obj O' d={ obj S.O d with ah:=iA name t (obj S.O d).ah,sec:=ta,nano:=tb }:=by rw [hO,if_pos rfl]
  have oT:obj O' t.k={ obj S.O t.k with links:=(obj S.O t.k).links+1,up:=if t.kind=2 then some d else (obj S.O t.k).up }:=by rw [hO,if_neg hne,if_pos rfl]
  have oX:∀ x,x≠d->x≠t.k->obj O' x=obj S.O x:=fun x h1 h2=>by rw [hO,if_neg h1,if_neg h2]
  have AA:∀ {α:Type} (G:aY->α),(∀ o es a b,G { o with ah:=es,sec:=a,nano:=b }=G o)->(∀ o l u,G { o with links:=l,up:=u }=G o)->∀ x,G (obj O' x)=G (obj S.O x):=fun G h1 h2 x=>by
    by_cases e:x=d
    ·subst e;rw [oD];exact h1 _ _ _ _
    by_cases e2:x=t.k
    ·subst e2;rw [oT];exact h2 _ _ _
    rw [oX x e e2]
  have TG:=AA aY.id (fun _ _ _ _=>rfl) (fun _ _ _=>rfl)
  have CD:=AA aY.kind (fun _ _ _ _=>rfl) (fun _ _ _=>rfl)
  have KR:=AA aY.data (fun _ _ _ _=>rfl) (fun _ _ _=>rfl)
  have TH:=AA aY.opens (fun _ _ _ _=>rfl) (fun _ _ _=>rfl)
  have fG:=AA aY.gone (fun _ _ _ _=>rfl) (fun _ _ _=>rfl)
  have fE:∀ x,x≠d->(obj O' x).ah=(obj S.O x).ah:=fun x hx=>by
    by_cases e2:x=t.k
    ·subst e2;rw [oT]
    rw [oX x hx e2]
  have AB:(obj O' d).ah=iA name t (obj S.O d).ah:=by rw [oD]
  have hky:∀ i u,aF.get S.idx i=some u->i=(u.k:Int):=fun i u e=>hI.key e
  have hsum:∀ q:ByteArray×Th->Bool,_:=fun q=>Pu (q:=q) hI.rise hd hky fE AB
  have KS:∀ x,jl S.idx O' x=jl S.idx S.O x+(if t.k=x then 1 else 0):=fun x=>by
    have h1:=hsum (fun e=>decide (e.2.k=x))
    simp only [decide_eq_true_eq] at h1
    exact h1
  have hlt:=hI.links t ht
  have TJ:t.kind=2->∀ e n,Live S.idx ⟨e,2⟩->aT n (obj S.O e).ah≠some t:=fun hk e n hle h=>by
    have h1:0 < jl S.idx S.O t.k:=nG hle h
    have:=(PE hk).1
    omega
  refine { hI with ob:=fun x hx=>?_,mt:=fun x hx=>?_,ah:=fun x hx e he=>?_,sorted:=fun x hx=>?_,dead:=fun x hx=>?_,uF:=fun x hx=>(CD x).trans (hI.uF x hx),total:=?_,links:=fun x hx=>?_,once:=fun x hx hk=>?_,opens:=fun x hx=>?_,gone:=fun x hx jF=>?_,up:=fun x hx e=>?_,deep:=?_,used:=?_ }
  ·show (obj O' x.k).id=_/\(obj O' x.k).kind=_/\_
   rw [TG,CD];exact hI.ob x hx
  ·show lf (obj O' x.k)
   have hm:=hI.mt x hx
   by_cases e:x.k=d
   ·rw [e] at hm ⊢
    rw [oD]
    exact hm.of rfl rfl rfl X5 rfl (.inl rfl) (.inr (hI.kind hd)) rfl
   by_cases e2:x.k=t.k
   ·rw [e2] at hm ⊢
    rw [oT]
    exact hm.of rfl rfl rfl hm.time rfl (.inl rfl) (.inl rfl) rfl
   rw [oX _ e e2];exact hm
  ·have he:e∈(obj O' x.k).ah:=he
   by_cases e1:x.k=d
   ·rw [e1,AB] at he
    rcases Bw.1 he with rfl|he
    ·exact⟨hgn,ht⟩
    exact hI.ah _ hd e he
   rw [fE _ e1] at he
   exact hI.ah x hx e he
  ·show j9 (obj O' x.k).ah
   by_cases e1:x.k=d
   ·rw [e1,AB];exact j9.ins (hI.sorted _ hd) hn
   rw [fE _ e1];exact hI.sorted x hx
  ·show (obj O' x).ah=[]/\(obj O' x).up=none
   rw [oX x (fun e=>hx _ hd e.symm) (fun e=>hx t ht e.symm)]
   exact hI.dead x hx
  ·have h1:=hsum (fun _=>true)
   have h2:=hI.total
   rw [mY] at h2
   show S.X.ah+1=(tot S.idx O':Int)/\S.X.ah+1<=8192
   rw [mY]
   simp only [if_true] at h1
   omega
  ·show (obj O' x.k).links=(jl S.idx O' x.k:Int)
   have h1:=KS x.k
   have h2:=hI.links x hx
   by_cases e2:x.k=t.k
   ·rw [if_pos e2.symm] at h1
    rw [e2,oT]
    rw [e2] at h1
    show (obj S.O t.k).links+1=_
    omega
   rw [if_neg (fun e=>e2 e.symm)] at h1
   have:(obj O' x.k).links=(obj S.O x.k).links:=by
     by_cases e:x.k=d
     ·rw [e,oD]
     rw [oX _ e e2]
   omega
  ·show (obj O' x.k).links<=1
   have h1:=hI.once x hx hk
   by_cases e2:x.k=t.k
   ·have M5:x=t:=iH hx ht e2
    subst M5
    have:=(PE hk).1
    rw [oT]
    show (obj S.O x.k).links+1<=1
    omega
   by_cases e:x.k=d
   ·rw [e] at h1 ⊢;rw [oD];exact h1
   rw [oX _ e e2];exact h1
  ·show (obj O' x.k).opens=_
   rw [TH];exact hI.opens x hx
  ·have jF:(obj O' x.k).gone=true:=jF
   rw [fG] at jF
   show (obj O' x.k).links=0/\(obj O' x.k).ah=[]
   by_cases e2:x.k=t.k
   ·rw [e2,Cu] at jF;cases jF
   by_cases e:x.k=d
   ·rw [e,ko] at jF;cases jF
   rw [oX _ e e2];exact hI.gone x hx jF
  ·show (obj O' x.k).up=some e↔x.kind=2/\Live S.idx ⟨e,2⟩/\∃ n,aT n (obj O' e).ah=some x
   by_cases e2:x.k=t.k
   ·have M5:x=t:=iH hx ht e2
    subst M5
    rw [oT]
    show (if x.kind=2 then some d else (obj S.O x.k).up)=some e↔_
    by_cases hk:x.kind=2
    ·rw [if_pos hk]
     constructor
     ·intro h
      cases h
      exact⟨hk,hd,name,by rw [AB,yx hn,if_pos rfl]⟩
     rintro⟨_,hle,n,h⟩
     by_cases e3:e=d
     ·rw [e3]
     rw [fE _ e3] at h
     exact absurd h (TJ hk e n hle)
    rw [if_neg hk,hI.up x hx e]
    constructor
    ·rintro⟨h,_⟩;exact absurd h hk
    rintro⟨h,_⟩;exact absurd h hk
   have h1:(obj O' x.k).up=(obj S.O x.k).up:=by
     by_cases e:x.k=d
     ·rw [e,oD]
     rw [oX _ e e2]
   have h2:∀ n,aT n (obj O' e).ah=some x↔aT n (obj S.O e).ah=some x:=fun n=>by
     by_cases e3:e=d
     ·rw [e3,AB,yx hn]
      by_cases hnn:n=name
      ·rw [if_pos hnn,hnn,hn]
       constructor
       ·intro h;exact absurd (congrArg Th.k (Option.some.inj h)).symm e2
       intro h;cases h
      rw [if_neg hnn]
     rw [fE _ e3]
   rw [h1,hI.up x hx e]
   simp only [h2]
  ·obtain⟨dp,hdp⟩:=hI.deep
   by_cases hk:t.kind=2
   ·obtain⟨hl0,hnb⟩:=PE hk
    have Za:(obj S.O t.k).up=none:=by
      cases hu:(obj S.O t.k).up with
      | none=>rfl
      | some e=>
        obtain⟨_,h2,n,h3⟩:=(hI.up t ht e).1 hu
        exact absurd h3 (TJ hk e n h2)
    refine⟨fun x=>if jM S.O t.k x then dp x+dp d+1 else dp x,fun x e hx=>?_⟩
    have hx:(obj O' x).up=some e:=hx
    by_cases e2:x=t.k
    ·rw [e2,oT] at hx
     have hx:(if t.kind=2 then some d else (obj S.O t.k).up)=some e:=hx
     rw [if_pos hk] at hx
     cases hx
     subst e2
     simp only [if_neg hnb,if_pos (jM.here:jM S.O t.k t.k)]
     omega
    have hx:(obj S.O x).up=some e:=by
      by_cases e3:x=d
      ·rw [e3,oD] at hx;rw [e3];exact hx
      rw [oX _ e3 e2] at hx;exact hx
    have h1:=hdp _ _ hx
    by_cases hb:jM S.O t.k e
    ·simp only [if_pos hb,if_pos (jM.up hx hb)];omega
    have:¬ jM S.O t.k x:=fun h=>by
      rcases ER.1 h with h|⟨e',h1,h2⟩
      ·exact e2 h
      rw [hx] at h1;cases h1;exact hb h2
    simp only [if_neg hb,if_neg this];exact h1
   refine⟨dp,fun x e hx=>?_⟩
   have hx:(obj O' x).up=some e:=hx
   by_cases e2:x=t.k
   ·rw [e2,oT] at hx
    have hx:(if t.kind=2 then some d else (obj S.O t.k).up)=some e:=hx
    rw [if_neg hk] at hx
    rw [e2];exact hdp _ _ hx
   by_cases e3:x=d
   ·rw [e3,oD] at hx;rw [e3];exact hdp _ _ hx
   rw [oX _ e3 e2] at hx;exact hdp _ _ hx
  have:bytes S.idx O'=bytes S.idx S.O:=ij (fun p _=>by rw [KR])
  show S.X.used=(bytes S.idx O':Int)/\_
  rw [this];exact hI.used
end inv
end
end Go.Proofs.YtiehgnlnofhbaaaGreatDoor
