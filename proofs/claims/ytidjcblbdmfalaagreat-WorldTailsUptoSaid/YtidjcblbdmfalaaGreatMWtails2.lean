/-
  PROVED HERE: lemmas and contracts of functions (texts of this repo, joined; what the claim does not use is left out): GRoot, GCheck, GE, GEnter, GR, GRead, GP, GRef, GW, Hm, Fam, Ld, Fw, Ms, Hn, Ho, Sb, ShelfK, Free, HeapMath, Up, Down, PushPop, TabMath, Tab, Tq, TKt, TabT, Hp, Hs, Hi, Hj, Hk, Hl, Hq, Hr, Ht.
  CONDITIONS: as the theorems say.
-/
import Derived.Test.YtidjcblbdmfalaaGreatMWtails1
import Derived.Maps.OwnOps
import Derived.Shelf.SlGeneric
import Derived.Shelf.SlIterI.Nil
import Derived.Shelf.SortM.Plain
import Derived.Shelf.SortM.SortNone
import Derived.Ground.GgzProg
import Derived.Ground.SlgmProg
import Derived.Test.YtidjcblbdmfalaaGreatProg
import Derived.RegionTactic
import Derived.Deep.QuietTactic
import Derived.BigQuiet
import Derived.BigRegion
import Derived.StillTailTactics
import Derived.WalkSpells
import Derived.Outline
import Derived.Deep.AppendLies
import Derived.Deep.RegionLaw
import Derived.LoopTactic
import Derived.LaidEqlPtr
set_option maxRecDepth 100000
set_option maxHeartbeats 4000000
namespace Go.Proofs.YtidjcblbdmfalaaGreat
section
open Go.RowKit
attribute [local irreducible] aj aS af ai
theorem Kj {β:Bs} (m:Nat) (ps:List (Int×Int)) (hl:ps.length<=1048576) (hw:∀ z y,up ps z=some y->(-9223372036854775808<=z/\z<=9223372036854775807)/\(-9223372036854775808<=y/\y<=9223372036854775807)) :
    Spec Tryz.prog β 120 #[.map (some m)] [.abs (aN Tryz.prog 3 m (mf (pf ps)) ps.length)] (fun v l=>v=.bool (decide (AllEnd ps))/\l=[]):=by
 refine Spec.enter Tryz.func120 rfl Tryz.ntmps120 (Nat.le_of_ble_eq_true rfl) (fun R=>?_)
 refine SR (gK 1 [] [] ?_)
 refine NS (aj.lT (d:=(some 11)) (t:=179) (fun _=>by kernel_rfl) Tryz.prog rfl 3 (fun m1=>?_))
 refine gK 1 [(3,.map (some m1))] [] ?_
 refine NN (af.seq (SR (aj.bI 2 (p:=.abs (aN Tryz.prog 3 m1 (fun _=>none) 0)) (p':=.abs (aN Tryz.prog 3 m1 (mf (ff [])) 0)) (by kernel_rfl) (by rw [Qh]) ?_)))
 refine gK 1 [(12,.map (some m))] [] ?_
 refine aj.mapRange 0 (d:=(some 13)) (t:=179) (K:=3) (E:=3) (b:=m) (n:=ps.length) (f:=(mf (pf ps))) (x:=(.tmp 12)) (fun _=>by kernel_rfl) (by kernel_rfl) (fun _=>by kernel_rfl) d6 Tryz.underlying179 (fun r2=>?_)
 refine NN (af.block ?_)
 refine af.loop (ι:=(Lit->Bool)×Nat×(Option Value)×(List Int)×Nat) (fun ((left,cnt,last,fs,fn):(Lit->Bool)×Nat×(Option Value)×(List Int)×Nat)=>(cnt<=ps.length)/\(∀ x y,up ps x=some y->left (.int .i64 x)=false->Ends ps x)/\(∀ x,x∈fs->Ends ps x)/\(fn<=(ps.length - cnt) * (ps.length+2))) (fun ((left,cnt,last,fs,fn):(Lit->Bool)×Nat×(Option Value)×(List Int)×Nat)=>cnt) (fun ((left,cnt,last,fs,fn):(Lit->Bool)×Nat×(Option Value)×(List Int)×Nat)=>[(0,.map (some m)),(3,.map (some m1)),(13,vP r2)]) (fun ((left,cnt,last,fs,fn):(Lit->Bool)×Nat×(Option Value)×(List Int)×Nat)=>[.abs (gJ Tryz.prog 3 m r2 (mf (pf ps)) ps.length left cnt last),.abs (aN Tryz.prog 3 m1 (mf (ff fs)) fn),.abs R]) ((fun kl=>((mf (pf ps)) kl).isSome),ps.length,none,[],0) (idx:=[0,3,13]) (pk:=[0,2,1]) (show (ps.length<=ps.length)/\(∀ x y,up ps x=some y->((fun kl=>((mf (pf ps)) kl).isSome)) (.int .i64 x)=false->Ends ps x)/\(∀ x,x∈([])->Ends ps x)/\(0<=(ps.length - ps.length) * (ps.length+2)) from ⟨Nat.le_refl _,fun x y hx h=>(by have h:((up ps x).map (Value.int .i64)).isSome=false:=h;rw [hx] at h;cases h),fun x hx=>(by cases hx),Nat.zero_le _⟩) (fun _=>by kernel_rfl) rfl (by kernel_rfl) ?_
 rintro⟨left,cnt,last,fs,fn⟩ ⟨Us,hdone,hfs,hfn⟩
 show af _ _ _ _ [(0,.map (some m)),(3,.map (some m1)),(13,vP r2)] [.abs (gJ Tryz.prog 3 m r2 (mf (pf ps)) ps.length left cnt last),.abs (aN Tryz.prog 3 m1 (mf (ff fs)) fn),.abs R] _
 have jZ:fn<=1048576 * 1048578:=Nat.le_trans hfn (Nat.mul_le_mul (by omega) (by omega))
 refine SR (aj.mapNext 0 (d:=(some 14)) (K:=3) (b:=m) (r:=r2) (f:=(mf (pf ps))) (n:=ps.length) (left:=left) (cnt:=cnt) (last:=last) (x:=(.tmp 13)) (fun _=>by kernel_rfl) (by kernel_rfl) (fun _=>by kernel_rfl) d6 Tryz.underlying3 (fun hc0 hl0=>?_) (fun z u cnt' hlz hfz W5 Ut=>?_))
 ·refine gK 1 [(15,.bool false)] [] ?_
  refine NN (af.seq (CF (af.exit (ai.aU (ai.aU (ai.cM (NX (SR ?_))))))))
  refine gK 1 [(2,.bool true)] [] ?_
  refine NN (af.ret ?_)
  exact RT (.bool true) [2] (⟨congrArg Value.bool (decide_eq_true (p:=AllEnd ps) (fun z=>by cases hu:up ps z with|none=>exact⟨0,hu⟩|some y=>exact hdone z y hu (hl0 _))).symm,rfl⟩)
 obtain⟨y,hy,rfl⟩:=Ph hfz
 refine gK 1 [(15,.bool true)] [] ?_
 refine NN (af.seq (CT (af.skip (NX (af.block (SR ?_))))))
 refine aj.mapEntry 0 (d:=(some 16)) (K:=3) (b:=m) (r:=r2) (f:=(mf (pf ps))) (n:=ps.length) (left:=(fun kl=>left kl && !kl.sameKey (.int .i64 z))) (cnt:=cnt') (v:=.tuple #[.int .i64 (z),.int .i64 (y)]) (x:=(.tmp 13)) (fun _=>by kernel_rfl) (by kernel_rfl) (fun _=>by kernel_rfl) ?_
 refine gK 2 [(4,.int .i64 (z))] [] ?_
 refine NS (gK 1 [(5,.slice none (0) (0))] [] ?_)
 refine NN (af.join (ι:=(List Int)×(Option Addr)×Nat) (fun ((w2,A2,c2):(List Int)×(Option Addr)×Nat)=>(Ends ps z)/\(∀ x,x∈w2->Ends ps x)/\(w2.length<=ps.length+1)/\(∀ x,x∈w2->-9223372036854775808<=x/\x<=9223372036854775807)) (fun ((w2,A2,c2):(List Int)×(Option Addr)×Nat)=>[(0,.map (some m)),(3,.map (some m1)),(5,.slice A2 (w2.length) (c2)),(13,vP r2)]) (fun ((w2,A2,c2):(List Int)×(Option Addr)×Nat)=>[.abs (gJ Tryz.prog 3 m r2 (mf (pf ps)) ps.length (fun kl=>left kl && !kl.sameKey (.int .i64 z)) cnt' (some (.tuple #[.int .i64 (z),.int .i64 (y)]))),.abs (aN Tryz.prog 3 m1 (mf (ff fs)) fn),.abs (av 3 1 A2 w2.length c2 (kZ w2)),.abs R]) ?_ ?_)
 ·rintro⟨w2,A2,c2⟩ ⟨hend,Sx,WB,Qn⟩
  show af _ _ _ _ [(0,.map (some m)),(3,.map (some m1)),(5,.slice A2 (w2.length) (c2)),(13,vP r2)] [.abs (gJ Tryz.prog 3 m r2 (mf (pf ps)) ps.length (fun kl=>left kl && !kl.sameKey (.int .i64 z)) cnt' (some (.tuple #[.int .i64 (z),.int .i64 (y)]))),.abs (aN Tryz.prog 3 m1 (mf (ff fs)) fn),.abs (av 3 1 A2 w2.length c2 (kZ w2)),.abs R] _
  refine SR (gK 3 [(41,.slice A2 (w2.length) (c2)),(42,.int .i64 ↑w2.length),(43,.int .i64 0)] [] ?_)
  refine NN (af.block ?_)
  refine af.loop (ι:=Nat×(List Int)×Nat) (fun ((j,fs2,o4):Nat×(List Int)×Nat)=>(j<=w2.length)/\(∀ x,x∈fs2->Ends ps x)/\(o4<=fn+j)) (fun ((j,fs2,o4):Nat×(List Int)×Nat)=>w2.length - j) (fun ((j,fs2,o4):Nat×(List Int)×Nat)=>[(0,.map (some m)),(3,.map (some m1)),(13,vP r2),(41,.slice A2 (w2.length) (c2)),(42,.int .i64 ↑w2.length),(43,.int .i64 ↑j)]) (fun ((j,fs2,o4):Nat×(List Int)×Nat)=>[.abs (gJ Tryz.prog 3 m r2 (mf (pf ps)) ps.length (fun kl=>left kl && !kl.sameKey (.int .i64 z)) cnt' (some (.tuple #[.int .i64 (z),.int .i64 (y)]))),.abs (aN Tryz.prog 3 m1 (mf (ff fs2)) o4),.abs (av 3 1 A2 w2.length c2 (kZ w2)),.abs R]) (0,fs,fn) (idx:=[0,3,13,41,42,43]) (pk:=[0,1,2,3]) (show (0<=w2.length)/\(∀ x,x∈fs->Ends ps x)/\(fn<=fn+0) from ⟨Nat.zero_le _,hfs,Nat.le_refl _⟩) (fun _=>by kernel_rfl) rfl (by kernel_rfl) ?_
  rintro⟨j,fs2,o4⟩ ⟨hj,Qo,Uu⟩
  show af _ _ _ _ [(0,.map (some m)),(3,.map (some m1)),(13,vP r2),(41,.slice A2 (w2.length) (c2)),(42,.int .i64 ↑w2.length),(43,.int .i64 ↑j)] [.abs (gJ Tryz.prog 3 m r2 (mf (pf ps)) ps.length (fun kl=>left kl && !kl.sameKey (.int .i64 z)) cnt' (some (.tuple #[.int .i64 (z),.int .i64 (y)]))),.abs (aN Tryz.prog 3 m1 (mf (ff fs2)) o4),.abs (av 3 1 A2 w2.length c2 (kZ w2)),.abs R] _
  refine SR (gK 1 [(44,.bool (decide ((((j:Nat):Int):Int) < (((w2.length:Nat):Int):Int))))] [] ?_)
  refine NN (af.seq (af.bg (p:=(((j:Nat):Int):Int) < (((w2.length:Nat):Int):Int)) (fun _=>by kernel_rfl) (fun Kk=>?_) (fun Kk=>?_)))
  ·refine af.skip (NX (af.seq (af.block (SR ?_))))
   refine aj.tell (fun w hS=>let ⟨F,h⟩:=hS.get (i:=2) rfl;(av.IL h (by omega)).1) (fun iK=>?_)
   refine gK 3 [(10,.int .i64 ((w2.getD j 0)))] [(0,p_ ⟨[],some j,none,some ⟨(aq A2),ak A2,none⟩,none⟩ [((j:Nat):Int)=((j:Nat):Int),j < w2.length,(⟨(aq A2),ak A2,none⟩:Addr).spot=none,(A2:Option Addr)=some ⟨(aq A2),ak A2,none⟩] ⟨rfl,by omega,rfl,iK,trivial⟩),(1,p_ ⟨[.view 2 (.int .i64 ((w2.getD j 0)))],none,none,none,none⟩ [(∀ F w,(av 3 1 A2 w2.length c2 (kZ w2)).h F w->w.cell? ⟨(aq A2),ak A2+j * 1,none⟩=some (.int .i64 ((w2.getD j 0))))] ⟨av.Sw (by omega),trivial⟩)] ?_
   refine NN (af.region (gK 2 [(47,.map (some m1)),(48,.int .i64 ((w2.getD j 0)))] [] ?_))
   refine aj.kG 1 (d:=none) (t:=179) (K:=3) (E:=3) (b:=m1) (n:=o4) (f:=(mf (ff fs2))) (x:=(.tmp 47)) (ix:=(.tmp 48)) (y:=(.const (.int .i64 1))) (key:=.int .i64 ((w2.getD j 0))) (u:=.int .i64 1) (kl:=(.int .i64 (w2.getD j 0))) (n':=(if (ff fs2 (w2.getD j 0)).isSome then o4 else o4+1)) (f':=(mf (ff ((w2.getD j 0)::fs2)))) (fun _=>by kernel_rfl) (by kernel_rfl) (fun _=>by kernel_rfl) (fun _=>by kernel_rfl) (fun _=>by kernel_rfl) d6 Tryz.underlying179 (by unfold maxLen;omega) (pY (Qn _ (Ad (by omega))).1 (Qn _ (Ad (by omega))).2) (rfl) (Qi _ _) ?_
   refine NL (ai.aJ (NX (af.region ?_)))
   refine gK 2 [(43,.int .i64 ↑(j+1))] [(0,p_ ⟨[],none,none,none,some (.int .i64 ↑(j+1))⟩ [(Value.int .i64 (IntKind.wrap .i64 (((j:Nat):Int)+1)))=(.int .i64 ↑(j+1))] ⟨bA (by omega) (by omega) (by omega),trivial⟩)] ?_
   refine NL ?_
   exact ai.turn ((j+1),((w2.getD j 0)::fs2),(if (ff fs2 (w2.getD j 0)).isSome then o4 else o4+1)) (idx:=[0,3,13,41,42,43]) (pk:=[0,1,2,3]) (show (((j+1))<=w2.length)/\(∀ x,x∈(((w2.getD j 0)::fs2))->Ends ps x)/\(((if (ff fs2 (w2.getD j 0)).isSome then o4 else o4+1))<=fn+((j+1))) from ⟨by omega,fun x hx=>(List.mem_cons.1 hx).elim (fun e=>e ▸ Sx _ (Ad (by omega))) (Qo x),by split<;>omega⟩) (by show w2.length - ((j+1)) < w2.length - j;omega) (fun _=>by kernel_rfl) rfl (by kernel_rfl)
  refine af.exit (ai.aU (ai.aU (ai.cM (ai.aJ ?_))))
  exact ai.turn ((fun kl=>left kl && !kl.sameKey (.int .i64 z)),cnt',(some (.tuple #[.int .i64 (z),.int .i64 (y)])),fs2,o4) (idx:=[0,3,13]) (pk:=[0,1,3]) (show (cnt'<=ps.length)/\(∀ x y,up ps x=some y->((fun kl=>left kl && !kl.sameKey (.int .i64 z))) (.int .i64 x)=false->Ends ps x)/\(∀ x,x∈fs2->Ends ps x)/\(o4<=(ps.length - cnt') * (ps.length+2)) from ⟨by omega,IZ hdone hend,Qo,Me hfn Uu (by omega) Ut Us⟩) (by show cnt' < cnt;omega) (fun _=>by kernel_rfl) rfl (by kernel_rfl)
 refine SR (aj.mem (fun w hS=>hS.jF (e:=3) (size:=1)) ?_)
 refine gK 2 [(6,.int .i64 (z))] [] ?_
 refine NN (af.block ?_)
 refine af.loop (ι:=Int×(List Int)×(Option Addr)×Nat) (fun ((at_,w,Aw,cw):Int×(List Int)×(Option Addr)×Nat)=>(Way ps z w at_)/\(w.length<=ps.length)/\(∀ x,x∈w->-9223372036854775808<=x/\x<=9223372036854775807)/\(-9223372036854775808<=at_/\at_<=9223372036854775807)) (fun ((at_,w,Aw,cw):Int×(List Int)×(Option Addr)×Nat)=>ps.length+1 - w.length) (fun ((at_,w,Aw,cw):Int×(List Int)×(Option Addr)×Nat)=>[(0,.map (some m)),(3,.map (some m1)),(5,.slice Aw (w.length) (cw)),(6,.int .i64 (at_)),(13,vP r2)]) (fun ((at_,w,Aw,cw):Int×(List Int)×(Option Addr)×Nat)=>[.abs (gJ Tryz.prog 3 m r2 (mf (pf ps)) ps.length (fun kl=>left kl && !kl.sameKey (.int .i64 z)) cnt' (some (.tuple #[.int .i64 (z),.int .i64 (y)]))),.abs (aN Tryz.prog 3 m1 (mf (ff fs)) fn),.abs (av 3 1 Aw w.length cw (kZ w)),.abs R]) (z,[],none,0) (idx:=[0,3,5,6,13]) (pk:=[0,1,3,2]) (show (Way ps z ([]) z)/\(([]).length<=ps.length)/\(∀ x,x∈([])->-9223372036854775808<=x/\x<=9223372036854775807)/\(-9223372036854775808<=z/\z<=9223372036854775807) from ⟨.nil,Nat.zero_le _,fun x hx=>(by cases hx),(hw z y hy).1⟩) (fun _=>by kernel_rfl) rfl (by kernel_rfl) ?_
 rintro⟨at_,w,Aw,cw⟩ ⟨jI,hwl,Qp,hab⟩
 show af _ _ _ _ [(0,.map (some m)),(3,.map (some m1)),(5,.slice Aw (w.length) (cw)),(6,.int .i64 (at_)),(13,vP r2)] [.abs (gJ Tryz.prog 3 m r2 (mf (pf ps)) ps.length (fun kl=>left kl && !kl.sameKey (.int .i64 z)) cnt' (some (.tuple #[.int .i64 (z),.int .i64 (y)]))),.abs (aN Tryz.prog 3 m1 (mf (ff fs)) fn),.abs (av 3 1 Aw w.length cw (kZ w)),.abs R] _
 refine af.seq (SR (gK 2 [(19,.map (some m1)),(20,.int .i64 (at_))] [] ?_))
 by_cases hfa:at_∈fs
 ·refine aj.eu 1 (d:=(some 21)) (t:=179) (K:=3) (E:=3) (b:=m1) (n:=fn) (f:=(mf (ff fs))) (x:=(.tmp 19)) (ix:=(.tmp 20)) (key:=.int .i64 (at_)) (z:=.int .i64 0) (kl:=(.int .i64 at_)) (r:=(some (.int .i64 1))) (fun _=>by kernel_rfl) (by kernel_rfl) (fun _=>by kernel_rfl) (fun _=>by kernel_rfl) d6 Tryz.underlying179 (fun _=>by kernel_rfl) (pY hab.1 hab.2) (if_pos hfa) ?_
  refine gK 1 [(22,.bool false)] [] ?_
  refine NN (CF (af.exit (ai.aU (ai.aU (ai.cM ?_)))))
  exact ai.meet (w,Aw,cw) (idx:=[0,3,5,13]) (pk:=[0,1,2,3]) (show (Ends ps z)/\(∀ x,x∈w->Ends ps x)/\(w.length<=ps.length+1)/\(∀ x,x∈w->-9223372036854775808<=x/\x<=9223372036854775807) from ⟨(jI.ends (hfs at_ hfa)).1,(jI.ends (hfs at_ hfa)).2,by omega,Qp⟩) (fun _=>by kernel_rfl) rfl (by kernel_rfl)
 refine aj.eu 1 (d:=(some 21)) (t:=179) (K:=3) (E:=3) (b:=m1) (n:=fn) (f:=(mf (ff fs))) (x:=(.tmp 19)) (ix:=(.tmp 20)) (key:=.int .i64 (at_)) (z:=.int .i64 0) (kl:=(.int .i64 at_)) (r:=none) (fun _=>by kernel_rfl) (by kernel_rfl) (fun _=>by kernel_rfl) (fun _=>by kernel_rfl) d6 Tryz.underlying179 (fun _=>by kernel_rfl) (pY hab.1 hab.2) (if_neg hfa) ?_
 refine gK 1 [(22,.bool true)] [] ?_
 refine NN (CT (af.skip (NX (af.block (SR ?_)))))
 refine gN 3 (fun b3=>[(23,.slice Aw (w.length) (cw)),(25,.slice (some ⟨b3,0,none⟩) (1) (1))]) (fun _=>[]) (fun _=>[]) (fun b3=>.blk b3 [.int .i64 (at_)] 3) (fun b3=>?_)
 refine aj.append 2 (d:=(some 26)) (t:=59) (e:=3) (z:=.int .i64 0) (size:=1) (bytes:=8) (n:=w.length) (cap:=cw) (A:=Aw) (xs:=(kZ w)) (s:=(.tmp 23)) (x:=(.tmp 25)) (ats:=#[59,59]) (A':=some ⟨b3,0,none⟩) (m:=1) (c':=1) (news:=[.int .i64 (at_)]) (fun _=>by kernel_rfl) rfl (by kernel_rfl) (fun _=>by kernel_rfl) (fun _=>by kernel_rfl) Tryz.underlying59 (by kernel_rfl) rfl (by decide) (by simp) (by simp [Value.oneCell']) (jh (j:=4) rfl) (by unfold maxLen;omega) (by omega) (fun A4 c5=>?_)
 refine aj.bI 2 (p:=.abs (av 3 1 A4 (w.length+1) c5 ((kZ w)++[.int .i64 (at_)]))) (p':=.abs (av 3 1 A4 ((w++[at_]).length) c5 (kZ (w++[at_])))) (by kernel_rfl) (by simp [kZ]) ?_
 refine aj.slot 26 (.slice A4 (w.length+1) (c5)) (.slice A4 ((w++[at_]).length) (c5)) (fun _=>by kernel_rfl) (by simp) ?_
 refine gK 1 [(5,.slice A4 ((w++[at_]).length) (c5))] [] ?_
 refine NS (gK 2 [(28,.map (some m)),(29,.int .i64 (at_))] [] ?_)
 rcases hup:up ps at_ with _|y2
 ·refine aj.zD 0 (d:=(some 30)) (t:=179) (K:=3) (E:=3) (b:=m) (n:=ps.length) (f:=(mf (pf ps))) (r:=r2) (left:=(fun kl=>left kl && !kl.sameKey (.int .i64 z))) (cnt:=cnt') (last:=(some (.tuple #[.int .i64 (z),.int .i64 (y)]))) (x:=(.tmp 28)) (ix:=(.tmp 29)) (key:=.int .i64 (at_)) (z:=.int .i64 0) (kl:=(.int .i64 at_)) (u:=none) (fun _=>by kernel_rfl) (by kernel_rfl) (fun _=>by kernel_rfl) (fun _=>by kernel_rfl) d6 Tryz.underlying179 (fun _=>by kernel_rfl) (pY hab.1 hab.2) (vQ hup) ?_
  refine gK 5 [(7,.int .i64 0),(8,.bool false)] [] ?_
  refine NN (af.seq (SR (gK 2 [(34,.bool true)] [] ?_)))
  refine NN (CT (af.exit (ai.aU (ai.J8 (by decide) (ai.aU (ai.cM ?_))))))
  exact ai.meet ((w++[at_]),A4,c5) (idx:=[0,3,5,13]) (pk:=[0,1,2,3]) (show (Ends ps z)/\(∀ x,x∈((w++[at_]))->Ends ps x)/\(((w++[at_])).length<=ps.length+1)/\(∀ x,x∈((w++[at_]))->-9223372036854775808<=x/\x<=9223372036854775807) from ⟨(Fa jI hup).1,(Fa jI hup).2,by simp;omega,Hs Qp hab⟩) (fun _=>by kernel_rfl) rfl (by kernel_rfl)
 refine aj.zD 0 (d:=(some 30)) (t:=179) (K:=3) (E:=3) (b:=m) (n:=ps.length) (f:=(mf (pf ps))) (r:=r2) (left:=(fun kl=>left kl && !kl.sameKey (.int .i64 z))) (cnt:=cnt') (last:=(some (.tuple #[.int .i64 (z),.int .i64 (y)]))) (x:=(.tmp 28)) (ix:=(.tmp 29)) (key:=.int .i64 (at_)) (z:=.int .i64 0) (kl:=(.int .i64 at_)) (u:=(some (.int .i64 y2))) (fun _=>by kernel_rfl) (by kernel_rfl) (fun _=>by kernel_rfl) (fun _=>by kernel_rfl) d6 Tryz.underlying179 (fun _=>by kernel_rfl) (pY hab.1 hab.2) (Oo hup) ?_
 refine gK 5 [(7,.int .i64 (y2)),(8,.bool true)] [] ?_
 refine NN (af.seq (SR (gK 2 [(34,.bool false)] [] ?_)))
 refine NN (CF (af.skip (NX (af.seq (SR (gK 3 [(36,.int .i64 ↑((w++[at_]).length)),(37,.map (some m))] [] ?_))))))
 refine aj.Mc 0 (d:=(some 38)) (t:=179) (K:=3) (E:=3) (b:=m) (n:=ps.length) (f:=(mf (pf ps))) (r:=r2) (left:=(fun kl=>left kl && !kl.sameKey (.int .i64 z))) (cnt:=cnt') (last:=(some (.tuple #[.int .i64 (z),.int .i64 (y)]))) (x:=(.tmp 37)) (ats:=#[179]) (fun _=>by kernel_rfl) (by kernel_rfl) (fun _=>by kernel_rfl) rfl Tryz.underlying179 ?_
 refine gK 1 [(39,.bool (decide (((((w++[at_]).length:Nat):Int):Int) > (((ps.length:Nat):Int):Int))))] [] ?_
 refine NN (af.bg (p:=((((w++[at_]).length:Nat):Int):Int) > (((ps.length:Nat):Int):Int)) (fun _=>by kernel_rfl) (fun ji=>?_) (fun ji=>?_))
 ·refine SR (gK 1 [(2,.bool false)] [] ?_)
  refine NN (af.ret (ai.ar (ai.aG (ai.ar (ai.aG (ai.ar (ai.aG (ai.ar (ai.aG (ai.ar ?_))))))))))
  exact RT (.bool false) [3] (⟨congrArg Value.bool (decide_eq_false (p:=AllEnd ps) (fun hall=>(jI.snoc hup).never (by simp at ji ⊢;omega) (hall z))).symm,rfl⟩)
 refine af.skip (NX (af.region (gK 2 [(6,.int .i64 (y2))] [] ?_)))
 refine NL (ai.aJ ?_)
 exact ai.turn (y2,(w++[at_]),A4,c5) (idx:=[0,3,5,6,13]) (pk:=[0,1,2,3]) (show (Way ps z ((w++[at_])) y2)/\(((w++[at_])).length<=ps.length)/\(∀ x,x∈((w++[at_]))->-9223372036854775808<=x/\x<=9223372036854775807)/\(-9223372036854775808<=y2/\y2<=9223372036854775807) from ⟨jI.snoc hup,by simp at ji ⊢;omega,Hs Qp hab,(hw at_ y2 hup).2⟩) (by show ps.length+1 - ((w++[at_])).length < ps.length+1 - w.length;simp;omega) (fun _=>by kernel_rfl) rfl (by kernel_rfl)
end
section
open Go.RowKit
attribute [local irreducible] aj aS af ai
theorem tJ {β:Bs} (a b c:Int) :
    Spec Tryz.prog β 162 #[vI (a),vI (b),vI (c)] [] (fun v l=>v=.bool (decide (Within a b c))/\l=[]):=by
 refine Spec.enter Tryz.func162 rfl Tryz.ntmps162 (Nat.le_of_ble_eq_true rfl) (fun R=>?_)
 refine SR (gK 1 [] [] ?_)
 refine NS (gK 4 [(10,.bool (decide ((a:Int) ≥ (b:Int))))] [] ?_)
 refine aj.fY 10 ((a:Int) ≥ (b:Int)) (fun _=>by kernel_rfl) (fun h10=>?_) (fun h10=>?_)
 ·refine gK 5 [(6,.bool (decide ((a:Int)<=(c:Int))))] [] ?_
  refine NN (af.ret ?_)
  exact RT (.bool (decide ((a:Int)<=(c:Int)))) [0] (⟨congrArg Value.bool (decide_eq_decide.2 (by unfold Within;omega)),rfl⟩)
 refine gK 5 [(6,.bool false)] [] ?_
 refine NN (af.ret ?_)
 exact RT (.bool false) [0] (⟨congrArg Value.bool (decide_eq_false (by unfold Within;omega)).symm,rfl⟩)
theorem iC {β:Bs} (s n:Int) :
    Spec Tryz.prog β 60 #[.agg #[vI (s),vI (n)]] [] (fun v l=>v=.bool (decide (dW s n))/\l=[]):=by
 refine Spec.enter Tryz.func60 rfl Tryz.ntmps60 (Nat.le_of_ble_eq_true rfl) (fun R=>?_)
 refine SR (gN 2 (fun b1=>[(1,vP b1)]) (fun _=>[]) (fun _=>[]) (fun b1=>.blk b1 [vI (s),vI (n)] 26) (fun b1=>?_))
 refine NN (af.seq (SR (gK 4 [(6,.bool (decide ((n:Int) < (0:Int))))] [(1,a_ 1 b1)] ?_)))
 refine aj.fY 6 ((n:Int) < (0:Int)) (fun _=>by kernel_rfl) (fun h6=>?_) (fun h6=>?_)
 ·refine gK 4 [(10,.bool true)] [] ?_
  refine NN (CT (SR (gK 1 [(2,.bool false)] [] ?_)))
  refine NN (af.ret (ai.ar ?_))
  exact RT (.bool false) [0] (⟨congrArg Value.bool (decide_eq_false (by unfold dW;omega)).symm,rfl⟩)
 refine gK 4 [(10,.bool (decide ((n:Int) ≥ (1000000000:Int))))] [(1,a_ 1 b1)] ?_
 refine NN (af.bg (p:=(n:Int) ≥ (1000000000:Int)) (fun _=>by kernel_rfl) (fun h10=>?_) (fun h10=>?_))
 ·refine SR (gK 1 [(2,.bool false)] [] ?_)
  refine NN (af.ret (ai.ar ?_))
  exact RT (.bool false) [0] (⟨congrArg Value.bool (decide_eq_false (by unfold dW;omega)).symm,rfl⟩)
 refine af.skip (NX (af.seq (SR (gK 3 [(13,.bool (decide ((s:Int)=((-1099511627777):Int))))] [(1,a_ 1 b1)] ?_))))
 refine NN (af.bg (p:=(s:Int)=((-1099511627777):Int)) (fun _=>by kernel_rfl) (fun Qq=>?_) (fun Qq=>?_))
 ·refine SR (gK 4 [(2,.bool (decide ((n:Int) > (0:Int))))] [(1,a_ 1 b1)] ?_)
  refine NN (af.ret (ai.ar ?_))
  exact RT (.bool (decide ((n:Int) > (0:Int)))) [0] (⟨congrArg Value.bool (decide_eq_decide.2 (by unfold dW;omega)),rfl⟩)
 refine af.skip (NX (SR (gK 4 [(20,.bool (decide ((s:Int) > ((-1099511627777):Int))))] [(1,a_ 1 b1)] ?_)))
 refine aj.fY 20 ((s:Int) > ((-1099511627777):Int)) (fun _=>by kernel_rfl) (fun pP=>?_) (fun pP=>?_)
 ·refine gK 5 [(2,.bool (decide ((s:Int)<=(1099511627776:Int))))] [(1,a_ 1 b1)] ?_
  refine NN (af.ret ?_)
  exact RT (.bool (decide ((s:Int)<=(1099511627776:Int)))) [0] (⟨congrArg Value.bool (decide_eq_decide.2 (by unfold dW;omega)),rfl⟩)
 refine gK 5 [(2,.bool false)] [] ?_
 refine NN (af.ret ?_)
 exact RT (.bool false) [0] (⟨congrArg Value.bool (decide_eq_false (by unfold dW;omega)).symm,rfl⟩)
theorem yT {β:Bs} (A:Option Addr) (ns:List aP) (L:Lay) (hG:ay β A ns L) (i:Nat) (hi:i < ns.length) :
    Spec Tryz.prog β 163 #[.pointer (some ⟨(aq A),ak A+i * 10,none⟩)] [] (fun v l=>v=.bool (decide (eW (nd ns i).kind (nd ns i).target))/\l=[]):=by
 refine Spec.enter Tryz.func163 rfl Tryz.ntmps163 (Nat.le_of_ble_eq_true rfl) (fun R=>?_)
 refine SR (gK 1 [] [] ?_)
 refine NN (af.seq (SR (gK 5 [(7,.bool (!(decide (((nd ns i).kind:Int)=(3:Int)))))] [(3,p_ ⟨[.old (.int .i64 ((nd ns i).kind))],none,none,none,none⟩ [(Rd β ⟨(aq A),ak A+i * 10+1,none⟩ (.int .i64 ((nd ns i).kind)))] ⟨ay.rd hG (i:=i) (by omega) (j:=1) rfl,trivial⟩)] ?_)))
 refine NN (af.dm (p:=((nd ns i).kind:Int)=(3:Int)) (fun _=>by kernel_rfl) (fun h7=>?_) (fun h7=>?_))
 ·refine SR (gK 6 [(2,.bool (decide (((nd ns i).target:ByteArray)=⟨#[]⟩)))] [(3,p_ ⟨[.old (.string (nd ns i).target)],none,none,none,none⟩ [(Rd β ⟨(aq A),ak A+i * 10+8,none⟩ (.string (nd ns i).target))] ⟨ay.rd hG (i:=i) (by omega) (j:=8) rfl,trivial⟩),(4,p_ ⟨[],none,none,none,some (.bool (decide (((nd ns i).target:ByteArray)=⟨#[]⟩)))⟩ [(Value.bool (((nd ns i).target:ByteArray).toList == (⟨#[]⟩:ByteArray).toList))=(.bool (decide (((nd ns i).target:ByteArray)=⟨#[]⟩)))] ⟨uH _ _,trivial⟩)] ?_)
  refine NN (af.ret (ai.ar ?_))
  exact RT (.bool (decide (((nd ns i).target:ByteArray)=⟨#[]⟩))) [0] (⟨congrArg Value.bool (decide_eq_decide.2 (by have h0:=kY (s:=(nd ns i).target);grind [eW])),rfl⟩)
 refine af.skip (NX (SR (gK 6 [(18,.bool (!(decide (((nd ns i).target:ByteArray)=⟨#[]⟩))))] [(3,p_ ⟨[.old (.string (nd ns i).target)],none,none,none,none⟩ [(Rd β ⟨(aq A),ak A+i * 10+8,none⟩ (.string (nd ns i).target))] ⟨ay.rd hG (i:=i) (by omega) (j:=8) rfl,trivial⟩),(4,p_ ⟨[],none,none,none,some (.bool (!(decide (((nd ns i).target:ByteArray)=⟨#[]⟩))))⟩ [(Value.bool (!(((nd ns i).target:ByteArray).toList == (⟨#[]⟩:ByteArray).toList)))=(.bool (!(decide (((nd ns i).target:ByteArray)=⟨#[]⟩))))] ⟨J9 _ _,trivial⟩)] ?_)))
 refine aj.iI 18 (((nd ns i).target:ByteArray)=⟨#[]⟩) (fun _=>by kernel_rfl) (fun oF=>?_) (fun oF=>?_)
 ·refine gK 8 [(26,.bool (decide ((((((nd ns i).target:ByteArray).size:Nat):Int):Int)<=(4096:Int))))] [(3,p_ ⟨[.old (.string (nd ns i).target)],none,none,none,none⟩ [(Rd β ⟨(aq A),ak A+i * 10+8,none⟩ (.string (nd ns i).target))] ⟨ay.rd hG (i:=i) (by omega) (j:=8) rfl,trivial⟩)] ?_
  refine aj.fY 26 ((((((nd ns i).target:ByteArray).size:Nat):Int):Int)<=(4096:Int)) (fun _=>by kernel_rfl) (fun tI=>?_) (fun tI=>?_)
  ·refine gK 4 [(30,.string (nd ns i).target)] [(3,p_ ⟨[.old (.string (nd ns i).target)],none,none,none,none⟩ [(Rd β ⟨(aq A),ak A+i * 10+8,none⟩ (.string (nd ns i).target))] ⟨ay.rd hG (i:=i) (by omega) (j:=8) rfl,trivial⟩)] ?_
   refine gL (f:=201) (args:=#[.string (nd ns i).target,.int .u8 0]) (pre:=[]) [] (Spec.quiet (fun w=>Tryz.strings_IndexByte (nd ns i).target 0 w)) ?_
   rintro _ _ ⟨rfl,rfl⟩
   refine gK 3 [(2,.bool (decide ((Lib.indexByte (nd ns i).target.data.toList (0:Int).toNat.toUInt8:Int) < (0:Int))))] [] ?_
   refine NN (af.ret ?_)
   exact RT (.bool (decide ((Lib.indexByte (nd ns i).target.data.toList (0:Int).toNat.toUInt8:Int) < (0:Int)))) [0] (⟨congrArg Value.bool (decide_eq_decide.2 (by have h0:=kY (s:=(nd ns i).target);rw [E8];grind [eW])),rfl⟩)
  refine gK 8 [(2,.bool false)] [] ?_
  refine NN (af.ret ?_)
  exact RT (.bool false) [0] (⟨congrArg Value.bool (decide_eq_false (by have h0:=kY (s:=(nd ns i).target);grind [eW])).symm,rfl⟩)
 refine gK 16 [(2,.bool false)] [] ?_
 refine NN (af.ret ?_)
 exact RT (.bool false) [0] (⟨congrArg Value.bool (decide_eq_false (by have h0:=kY (s:=(nd ns i).target);grind [eW])).symm,rfl⟩)
theorem Mi {β:Bs} (A:Option Addr) (ns:List aP) (L:Lay) (hG:ay β A ns L) (i:Nat) (hi:i < ns.length) :
    Spec Tryz.prog β 118 #[.pointer (some ⟨(aq A),ak A+i * 10,none⟩)] [] (fun v l=>v=.bool (decide (qH (nd ns i)))/\l=[]):=by
 refine Spec.enter Tryz.func118 rfl Tryz.ntmps118 (Nat.le_of_ble_eq_true rfl) (fun R=>?_)
 refine SR (gK 1 [] [] ?_)
 refine NN (af.seq (SR (gK 4 [(6,vI ((nd ns i).kind))] [(3,p_ ⟨[.old (.int .i64 ((nd ns i).kind))],none,none,none,none⟩ [(Rd β ⟨(aq A),ak A+i * 10+1,none⟩ (.int .i64 ((nd ns i).kind)))] ⟨ay.rd hG (i:=i) (by omega) (j:=1) rfl,trivial⟩)] ?_)))
 refine gL [] (tJ ((nd ns i).kind) 1 3) ?_
 rintro _ _ ⟨rfl,rfl⟩
 refine gK 2 [(9,.bool (!(decide (Within ((nd ns i).kind) 1 3))))] [] ?_
 refine aj.iI 9 (Within ((nd ns i).kind) 1 3) (fun _=>by kernel_rfl) (fun h9=>?_) (fun h9=>?_)
 ·refine gK 23 [(32,.bool true)] [] ?_
  refine NN (CT (SR (gK 1 [(2,.bool false)] [] ?_)))
  refine NN (af.ret (ai.ar ?_))
  exact RT (.bool false) [0] (⟨congrArg Value.bool (decide_eq_false (by rw [fC];unfold Within at *;grind)).symm,rfl⟩)
 refine gK 4 [(13,vI ((nd ns i).mode))] [(3,p_ ⟨[.old (.int .i64 ((nd ns i).mode))],none,none,none,none⟩ [(Rd β ⟨(aq A),ak A+i * 10+2,none⟩ (.int .i64 ((nd ns i).mode)))] ⟨ay.rd hG (i:=i) (by omega) (j:=2) rfl,trivial⟩)] ?_
 refine gL [] (tJ ((nd ns i).mode) 0 4095) ?_
 rintro _ _ ⟨rfl,rfl⟩
 refine gK 3 [(17,.bool (!(decide (Within ((nd ns i).mode) 0 4095))))] [] ?_
 refine aj.iI 17 (Within ((nd ns i).mode) 0 4095) (fun _=>by kernel_rfl) (fun Qf=>?_) (fun Qf=>?_)
 ·refine gK 15 [(32,.bool true)] [] ?_
  refine NN (CT (SR (gK 1 [(2,.bool false)] [] ?_)))
  refine NN (af.ret (ai.ar ?_))
  exact RT (.bool false) [0] (⟨congrArg Value.bool (decide_eq_false (by rw [fC];unfold Within at *;grind)).symm,rfl⟩)
 refine gK 4 [(21,vI ((nd ns i).uid))] [(3,p_ ⟨[.old (.int .i64 ((nd ns i).uid))],none,none,none,none⟩ [(Rd β ⟨(aq A),ak A+i * 10+3,none⟩ (.int .i64 ((nd ns i).uid)))] ⟨ay.rd hG (i:=i) (by omega) (j:=3) rfl,trivial⟩)] ?_
 refine gL [] (tJ ((nd ns i).uid) 0 2147483647) ?_
 rintro _ _ ⟨rfl,rfl⟩
 refine gK 3 [(25,.bool (!(decide (Within ((nd ns i).uid) 0 2147483647))))] [] ?_
 refine aj.iI 25 (Within ((nd ns i).uid) 0 2147483647) (fun _=>by kernel_rfl) (fun wM=>?_) (fun wM=>?_)
 ·refine gK 7 [(32,.bool true)] [] ?_
  refine NN (CT (SR (gK 1 [(2,.bool false)] [] ?_)))
  refine NN (af.ret (ai.ar ?_))
  exact RT (.bool false) [0] (⟨congrArg Value.bool (decide_eq_false (by rw [fC];unfold Within at *;grind)).symm,rfl⟩)
 refine gK 4 [(29,vI ((nd ns i).gid))] [(3,p_ ⟨[.old (.int .i64 ((nd ns i).gid))],none,none,none,none⟩ [(Rd β ⟨(aq A),ak A+i * 10+4,none⟩ (.int .i64 ((nd ns i).gid)))] ⟨ay.rd hG (i:=i) (by omega) (j:=4) rfl,trivial⟩)] ?_
 refine gL [] (tJ ((nd ns i).gid) 0 2147483647) ?_
 rintro _ _ ⟨rfl,rfl⟩
 refine gK 2 [(32,.bool (!(decide (Within ((nd ns i).gid) 0 2147483647))))] [] ?_
 refine NN (af.dm (p:=Within ((nd ns i).gid) 0 2147483647) (fun _=>by kernel_rfl) (fun Hq=>?_) (fun Hq=>?_))
 ·refine SR (gK 1 [(2,.bool false)] [] ?_)
  refine NN (af.ret (ai.ar ?_))
  exact RT (.bool false) [0] (⟨congrArg Value.bool (decide_eq_false (by rw [fC];unfold Within at *;grind)).symm,rfl⟩)
 refine af.skip (NX (af.seq (SR (gK 6 [(38,.bool (!(decide (((nd ns i).kind:Int)=(1:Int)))))] [(3,p_ ⟨[.old (.int .i64 ((nd ns i).kind))],none,none,none,none⟩ [(Rd β ⟨(aq A),ak A+i * 10+1,none⟩ (.int .i64 ((nd ns i).kind)))] ⟨ay.rd hG (i:=i) (by omega) (j:=1) rfl,trivial⟩)] ?_))))
 refine aj.iI 38 (((nd ns i).kind:Int)=(1:Int)) (fun _=>by kernel_rfl) (fun BF=>?_) (fun BF=>?_)
 ·refine gK 8 [(46,.bool (decide (((((nd ns i).data.length:Nat):Int):Int) > (0:Int))))] [(3,p_ ⟨[.old (.slice (L.dA i) ((nd ns i).data.length) ((L.dC i)))],none,none,none,none⟩ [(Rd β ⟨(aq A),ak A+i * 10+7,none⟩ (.slice (L.dA i) ((nd ns i).data.length) ((L.dC i))))] ⟨ay.rd hG (i:=i) (by omega) (j:=7) rfl,trivial⟩)] ?_
  refine aj.fY 46 (((((nd ns i).data.length:Nat):Int):Int) > (0:Int)) (fun _=>by kernel_rfl) (fun h46=>?_) (fun h46=>?_)
  ·refine gK 14 [(60,.bool true)] [] ?_
   refine NN (CT (SR (gK 1 [(2,.bool false)] [] ?_)))
   refine NN (af.ret (ai.ar ?_))
   exact RT (.bool false) [0] (⟨congrArg Value.bool (decide_eq_false (by rw [fC];unfold Within at *;grind)).symm,rfl⟩)
  refine gK 6 [(52,.bool (!(decide (((nd ns i).kind:Int)=(2:Int)))))] [(3,p_ ⟨[.old (.int .i64 ((nd ns i).kind))],none,none,none,none⟩ [(Rd β ⟨(aq A),ak A+i * 10+1,none⟩ (.int .i64 ((nd ns i).kind)))] ⟨ay.rd hG (i:=i) (by omega) (j:=1) rfl,trivial⟩)] ?_
  refine aj.iI 52 (((nd ns i).kind:Int)=(2:Int)) (fun _=>by kernel_rfl) (fun Kl=>?_) (fun Kl=>?_)
  ·refine gK 8 [(60,.bool (decide (((((nd ns i).ah.length:Nat):Int):Int) > (0:Int))))] [(3,p_ ⟨[.old (.slice (L.eA i) ((nd ns i).ah.length) ((L.eC i)))],none,none,none,none⟩ [(Rd β ⟨(aq A),ak A+i * 10+9,none⟩ (.slice (L.eA i) ((nd ns i).ah.length) ((L.eC i))))] ⟨ay.rd hG (i:=i) (by omega) (j:=9) rfl,trivial⟩)] ?_
   refine NN (af.bg (p:=((((nd ns i).ah.length:Nat):Int):Int) > (0:Int)) (fun _=>by kernel_rfl) (fun Qr=>?_) (fun Qr=>?_))
   ·refine SR (gK 1 [(2,.bool false)] [] ?_)
    refine NN (af.ret (ai.ar ?_))
    exact RT (.bool false) [0] (⟨congrArg Value.bool (decide_eq_false (by rw [fC];unfold Within at *;grind)).symm,rfl⟩)
   refine af.skip (NX (SR (gK 4 [(64,.agg #[vI ((nd ns i).sec),vI ((nd ns i).nano)])] [(3,p_ ⟨[.old (.int .i64 ((nd ns i).sec)),.old (.int .i64 ((nd ns i).nano))],none,none,none,none⟩ [(Rd β ⟨(aq A),ak A+i * 10+5+1,none⟩ (.int .i64 ((nd ns i).nano))),(Rd β ⟨(aq A),ak A+i * 10+5,none⟩ (.int .i64 ((nd ns i).sec)))] ⟨ay.rd hG (i:=i) (by omega) (j:=6) rfl,ay.rd hG (i:=i) (by omega) (j:=5) rfl,trivial⟩)] ?_)))
   refine gL [] (iC (nd ns i).sec (nd ns i).nano) ?_
   rintro _ _ ⟨rfl,rfl⟩
   refine gK 1 [(66,.bool (decide (dW (nd ns i).sec (nd ns i).nano)))] [] ?_
   refine aj.fY 66 (dW (nd ns i).sec (nd ns i).nano) (fun _=>by kernel_rfl) (fun BG=>?_) (fun BG=>?_)
   ·refine gK 1 [(67,.pointer (some ⟨(aq A),ak A+i * 10,none⟩))] [] ?_
    refine gL [] (yT A ns L hG i hi) ?_
    rintro _ _ ⟨rfl,rfl⟩
    refine gK 2 [(2,.bool (decide (eW (nd ns i).kind (nd ns i).target)))] [] ?_
    refine NN (af.ret ?_)
    exact RT (.bool (decide (eW (nd ns i).kind (nd ns i).target))) [0] (⟨congrArg Value.bool (decide_eq_decide.2 (by rw [fC];unfold Within at *;grind)),rfl⟩)
   refine gK 4 [(2,.bool false)] [] ?_
   refine NN (af.ret ?_)
   exact RT (.bool false) [0] (⟨congrArg Value.bool (decide_eq_false (by rw [fC];unfold Within at *;grind)).symm,rfl⟩)
  refine gK 8 [(60,.bool false)] [] ?_
  refine NN (CF (af.skip (NX (SR (gK 4 [(64,.agg #[vI ((nd ns i).sec),vI ((nd ns i).nano)])] [(3,p_ ⟨[.old (.int .i64 ((nd ns i).sec)),.old (.int .i64 ((nd ns i).nano))],none,none,none,none⟩ [(Rd β ⟨(aq A),ak A+i * 10+5+1,none⟩ (.int .i64 ((nd ns i).nano))),(Rd β ⟨(aq A),ak A+i * 10+5,none⟩ (.int .i64 ((nd ns i).sec)))] ⟨ay.rd hG (i:=i) (by omega) (j:=6) rfl,ay.rd hG (i:=i) (by omega) (j:=5) rfl,trivial⟩)] ?_)))))
  refine gL [] (iC (nd ns i).sec (nd ns i).nano) ?_
  rintro _ _ ⟨rfl,rfl⟩
  refine gK 1 [(66,.bool (decide (dW (nd ns i).sec (nd ns i).nano)))] [] ?_
  refine aj.fY 66 (dW (nd ns i).sec (nd ns i).nano) (fun _=>by kernel_rfl) (fun BG=>?_) (fun BG=>?_)
  ·refine gK 1 [(67,.pointer (some ⟨(aq A),ak A+i * 10,none⟩))] [] ?_
   refine gL [] (yT A ns L hG i hi) ?_
   rintro _ _ ⟨rfl,rfl⟩
   refine gK 2 [(2,.bool (decide (eW (nd ns i).kind (nd ns i).target)))] [] ?_
   refine NN (af.ret ?_)
   exact RT (.bool (decide (eW (nd ns i).kind (nd ns i).target))) [0] (⟨congrArg Value.bool (decide_eq_decide.2 (by rw [fC];unfold Within at *;grind)),rfl⟩)
  refine gK 4 [(2,.bool false)] [] ?_
  refine NN (af.ret ?_)
  exact RT (.bool false) [0] (⟨congrArg Value.bool (decide_eq_false (by rw [fC];unfold Within at *;grind)).symm,rfl⟩)
 refine gK 14 [(46,.bool false),(52,.bool (!(decide (((nd ns i).kind:Int)=(2:Int)))))] [(11,p_ ⟨[.old (.int .i64 ((nd ns i).kind))],none,none,none,none⟩ [(Rd β ⟨(aq A),ak A+i * 10+1,none⟩ (.int .i64 ((nd ns i).kind)))] ⟨ay.rd hG (i:=i) (by omega) (j:=1) rfl,trivial⟩)] ?_
 refine aj.iI 52 (((nd ns i).kind:Int)=(2:Int)) (fun _=>by kernel_rfl) (fun Kl=>?_) (fun Kl=>?_)
 ·refine gK 8 [(60,.bool (decide (((((nd ns i).ah.length:Nat):Int):Int) > (0:Int))))] [(3,p_ ⟨[.old (.slice (L.eA i) ((nd ns i).ah.length) ((L.eC i)))],none,none,none,none⟩ [(Rd β ⟨(aq A),ak A+i * 10+9,none⟩ (.slice (L.eA i) ((nd ns i).ah.length) ((L.eC i))))] ⟨ay.rd hG (i:=i) (by omega) (j:=9) rfl,trivial⟩)] ?_
  refine NN (af.bg (p:=((((nd ns i).ah.length:Nat):Int):Int) > (0:Int)) (fun _=>by kernel_rfl) (fun Qr=>?_) (fun Qr=>?_))
  ·refine SR (gK 1 [(2,.bool false)] [] ?_)
   refine NN (af.ret (ai.ar ?_))
   exact RT (.bool false) [0] (⟨congrArg Value.bool (decide_eq_false (by rw [fC];unfold Within at *;grind)).symm,rfl⟩)
  refine af.skip (NX (SR (gK 4 [(64,.agg #[vI ((nd ns i).sec),vI ((nd ns i).nano)])] [(3,p_ ⟨[.old (.int .i64 ((nd ns i).sec)),.old (.int .i64 ((nd ns i).nano))],none,none,none,none⟩ [(Rd β ⟨(aq A),ak A+i * 10+5+1,none⟩ (.int .i64 ((nd ns i).nano))),(Rd β ⟨(aq A),ak A+i * 10+5,none⟩ (.int .i64 ((nd ns i).sec)))] ⟨ay.rd hG (i:=i) (by omega) (j:=6) rfl,ay.rd hG (i:=i) (by omega) (j:=5) rfl,trivial⟩)] ?_)))
  refine gL [] (iC (nd ns i).sec (nd ns i).nano) ?_
  rintro _ _ ⟨rfl,rfl⟩
  refine gK 1 [(66,.bool (decide (dW (nd ns i).sec (nd ns i).nano)))] [] ?_
  refine aj.fY 66 (dW (nd ns i).sec (nd ns i).nano) (fun _=>by kernel_rfl) (fun BG=>?_) (fun BG=>?_)
  ·refine gK 1 [(67,.pointer (some ⟨(aq A),ak A+i * 10,none⟩))] [] ?_
   refine gL [] (yT A ns L hG i hi) ?_
   rintro _ _ ⟨rfl,rfl⟩
   refine gK 2 [(2,.bool (decide (eW (nd ns i).kind (nd ns i).target)))] [] ?_
   refine NN (af.ret ?_)
   exact RT (.bool (decide (eW (nd ns i).kind (nd ns i).target))) [0] (⟨congrArg Value.bool (decide_eq_decide.2 (by rw [fC];unfold Within at *;grind)),rfl⟩)
  refine gK 4 [(2,.bool false)] [] ?_
  refine NN (af.ret ?_)
  exact RT (.bool false) [0] (⟨congrArg Value.bool (decide_eq_false (by rw [fC];unfold Within at *;grind)).symm,rfl⟩)
 refine gK 8 [(60,.bool false)] [] ?_
 refine NN (CF (af.skip (NX (SR (gK 4 [(64,.agg #[vI ((nd ns i).sec),vI ((nd ns i).nano)])] [(3,p_ ⟨[.old (.int .i64 ((nd ns i).sec)),.old (.int .i64 ((nd ns i).nano))],none,none,none,none⟩ [(Rd β ⟨(aq A),ak A+i * 10+5+1,none⟩ (.int .i64 ((nd ns i).nano))),(Rd β ⟨(aq A),ak A+i * 10+5,none⟩ (.int .i64 ((nd ns i).sec)))] ⟨ay.rd hG (i:=i) (by omega) (j:=6) rfl,ay.rd hG (i:=i) (by omega) (j:=5) rfl,trivial⟩)] ?_)))))
 refine gL [] (iC (nd ns i).sec (nd ns i).nano) ?_
 rintro _ _ ⟨rfl,rfl⟩
 refine gK 1 [(66,.bool (decide (dW (nd ns i).sec (nd ns i).nano)))] [] ?_
 refine aj.fY 66 (dW (nd ns i).sec (nd ns i).nano) (fun _=>by kernel_rfl) (fun BG=>?_) (fun BG=>?_)
 ·refine gK 1 [(67,.pointer (some ⟨(aq A),ak A+i * 10,none⟩))] [] ?_
  refine gL [] (yT A ns L hG i hi) ?_
  rintro _ _ ⟨rfl,rfl⟩
  refine gK 2 [(2,.bool (decide (eW (nd ns i).kind (nd ns i).target)))] [] ?_
  refine NN (af.ret ?_)
  exact RT (.bool (decide (eW (nd ns i).kind (nd ns i).target))) [0] (⟨congrArg Value.bool (decide_eq_decide.2 (by rw [fC];unfold Within at *;grind)),rfl⟩)
 refine gK 4 [(2,.bool false)] [] ?_
 refine NN (af.ret ?_)
 exact RT (.bool false) [0] (⟨congrArg Value.bool (decide_eq_false (by rw [fC];unfold Within at *;grind)).symm,rfl⟩)
end
section
open Go.RowKit Go.Maps
def mh (x y:ByteArray):Prop:=(Op.bytesLess x.toList y.toList || (x.toList == y.toList))=true
instance (x y:ByteArray):Decidable (mh x y):=inferInstanceAs (Decidable (_=true))
theorem Qs (x y:ByteArray):Value.bool (Op.bytesLess x.toList y.toList || (x.toList == y.toList))=Value.bool (decide (mh x y)):=by
  have h:∀ (b:Bool) [Decidable (b=true)],b=decide (b=true):=by
    intro b _
    cases b<;>simp
  exact congrArg Value.bool (h _)
def tgt (ns:List aP) (z:Int):Nat:=(pN ns z).toNat
theorem nL {ns:List aP} {z:Int} (h:0<=pN ns z):tgt ns z < ns.length/\(nd ns (tgt ns z)).id=z/\pN ns z=(tgt ns z:Int):=by
  unfold tgt
  unfold pN at h ⊢
  cases hf:ns.findIdx? (fun n=>n.id == z) with
  | none=>rw [hf] at h;simp at h
  | some k=>
    rw [List.findIdx?_eq_some_iff_getElem] at hf
    obtain⟨h1,h2,_⟩:=hf
    refine⟨h1,?_,rfl⟩
    show (nd ns k).id=z
    unfold nd
    rw [List.getD_eq_getElem?_getD,List.getElem?_eq_getElem h1]
    simpa using h2
def ent (ns:List aP) (i j:Nat):jt:=en (nd ns i).ah j
def lf (ns:List aP) (i:Nat):Nat->ByteArray
  | 0=>⟨#[]⟩
  | j+1=>(ent ns i j).name
structure nW (ns:List aP) (i j:Nat):Prop where
  at_:0<=pN ns (ent ns i j).id
  good:bO (ent ns i j).name
  ord:¬ mh (ent ns i j).name (lf ns i j)
def Fe (ns:List aP) (i j:Nat):List (Nat×Nat):=if (nd ns (tgt ns (ent ns i j).id)).kind=2 then [(tgt ns (ent ns i j).id,i)] else []
def dH (ns:List aP) (i:Nat):Nat->List (Nat×Nat)
  | 0=>[]
  | j+1=>Fe ns i j++dH ns i j
def fM (ns:List aP):Nat->List (Nat×Nat)
  | 0=>[]
  | i+1=>dH ns i (nd ns i).ah.length++fM ns i
def jj (ns:List aP) (p:Nat×Nat):Int×Int:=((nd ns p.1).id,(nd ns p.2).id)
theorem Km {ns:List aP} {i j m:Nat} (h:j<=m):∃ l,dH ns i m=l++dH ns i j:=by
  induction m with
  | zero=>exact⟨[],by rw [Nat.le_zero.1 h];rfl⟩
  | succ m ih=>
    rcases Nat.lt_or_ge m j with h1|h1
    ·have:j=m+1:=by omega
     subst this
     exact⟨[],rfl⟩
    obtain⟨l,hl⟩:=ih h1
    exact⟨Fe ns i m++l,by rw [dH,hl,List.append_assoc]⟩
theorem Kn {ns:List aP} {i m:Nat} (h:i<=m):∃ l,fM ns m=l++fM ns i:=by
  induction m with
  | zero=>exact⟨[],by rw [Nat.le_zero.1 h];rfl⟩
  | succ m ih=>
    rcases Nat.lt_or_ge m i with h1|h1
    ·have:i=m+1:=by omega
     subst this
     exact⟨[],rfl⟩
    obtain⟨l,hl⟩:=ih h1
    exact⟨dH ns m (nd ns m).ah.length++l,by rw [fM,hl,List.append_assoc]⟩
theorem xC {l:List (Nat×Nat)} {k:List (Nat×Nat)} (h:((l++k).map Prod.fst).Nodup):(k.map Prod.fst).Nodup:=by
  rw [List.map_append] at h
  exact (List.nodup_append.1 h).2.1
theorem dh.inj {ns:List aP} (hr:dh ns) {a b:Nat} (ha:a < ns.length) (hb:b < ns.length) (h:(nd ns a).id=(nd ns b).id):a=b:=by
  rcases Nat.lt_trichotomy a b with h1|h1|h1
  ·have:=hr a b h1 hb;omega
  ·exact h1
  have:=hr b a h1 ha;omega
theorem Ht {ns:List aP} {ps:List (Nat×Nat)} {k:Nat} (h:up (ps.map (jj ns)) (nd ns k).id=none):k∉ps.map Prod.fst:=by
  unfold up at h
  induction ps with
  | nil=>simp
  | cons p ps ih=>
    obtain⟨a,b⟩:=p
    rw [List.map_cons,jj,List.lookup_cons] at h
    intro hm
    rw [List.map_cons] at hm
    rcases List.mem_cons.1 hm with e|hm
    ·subst e
     simp at h
    by_cases e:((nd ns k).id == (nd ns a).id)=true
    ·rw [e] at h;cases h
    have e:((nd ns k).id == (nd ns a).id)=false:=by simpa using e
    rw [e] at h
    exact ih h hm
theorem Hu {ns:List aP} {ps:List (Nat×Nat)} {k:Nat} {y:Int} (hr:dh ns) (hk:k < ns.length) (hp:∀ p,p∈ps->p.1 < ns.length) (h:up (ps.map (jj ns)) (nd ns k).id=some y):k∈ps.map Prod.fst/\∃ p,p∈ps/\p.1=k/\y=(nd ns p.2).id:=by
  unfold up at h
  induction ps with
  | nil=>cases h
  | cons p ps ih=>
    obtain⟨a,b⟩:=p
    rw [List.map_cons,jj,List.lookup_cons] at h
    by_cases e:((nd ns k).id == (nd ns a).id)=true
    ·rw [e] at h
     cases h
     have:k=a:=hr.inj hk (hp (a,b) (List.mem_cons_self ..)) (by simpa using e)
     subst this
     exact⟨by simp,(k,b),List.mem_cons_self ..,rfl,rfl⟩
    have e:((nd ns k).id == (nd ns a).id)=false:=by simpa using e
    rw [e] at h
    obtain⟨h1,q,hq,h2⟩:=ih (fun p hp'=>hp p (List.mem_cons_of_mem _ hp')) h
    exact⟨by rw [List.map_cons];exact List.mem_cons_of_mem _ h1,q,List.mem_cons_of_mem _ hq,h2⟩
def bf (A:Option Addr) (ns:List aP) (k:Nat) (z:Int):Option Value:=if 0<=pN ns z/\pN ns z < k then some (.pointer (some ⟨aq A,ak A+tgt ns z * 10,none⟩)) else none
structure vR (ns:List aP) (i:Nat) (ps:List (Nat×Nat)):Prop where
  ah:∀ j,j < (nd ns i).ah.length->nW ns i j
  nodup:((dH ns i (nd ns i).ah.length++ps).map Prod.fst).Nodup
theorem Sy {A:Option Addr} {ns:List aP} {k:Nat} {z:Int} (h:0<=pN ns z) (hk:tgt ns z < k):mf (bf A ns k) (.int .i64 z)=some (.pointer (some ⟨aq A,ak A+tgt ns z * 10,none⟩)):=
  if_pos ⟨h,by rw [(nL h).2.2];omega⟩
theorem Pm {A:Option Addr} {ns:List aP} {k:Nat} {z:Int} (h:¬ 0<=pN ns z):mf (bf A ns k) (.int .i64 z)=none:=if_neg (fun e=>h e.1)
theorem Ff (ns:List aP) (i j:Nat):(dH ns i j).length<=j:=by
  induction j with
  | zero=>exact Nat.le_refl _
  | succ j ih=>
    rw [dH,List.length_append]
    have:(Fe ns i j).length<=1:=by
      unfold Fe
      split<;>simp
    omega
theorem tK {ns:List aP} {i j:Nat} (h:¬ (nd ns (tgt ns (ent ns i j).id)).kind=2):dH ns i (j+1)=dH ns i j:=by
  rw [dH,Fe,if_neg h];rfl
theorem p4 {ns:List aP} {i j:Nat} (h:(nd ns (tgt ns (ent ns i j).id)).kind=2):dH ns i (j+1)=(tgt ns (ent ns i j).id,i)::dH ns i j:=by
  rw [dH,Fe,if_pos h];rfl
theorem GJ {ns:List aP} {i j:Nat} {ps:List (Nat×Nat)} (h:vR ns i ps) (hj:j < (nd ns i).ah.length) (hk:(nd ns (tgt ns (ent ns i j).id)).kind=2):tgt ns (ent ns i j).id∉(dH ns i j++ps).map Prod.fst:=by
  obtain⟨l,hl⟩:=Km (ns:=ns) (i:=i) (show j+1<=(nd ns i).ah.length from hj)
  have h1:=h.nodup
  rw [hl,List.append_assoc] at h1
  have h2:=xC h1
  rw [p4 hk,List.cons_append,List.map_cons] at h2
  exact (List.nodup_cons.1 h2).1
theorem Mj {ns:List aP} {i j:Nat} {ps:List (Nat×Nat)} (hat:0<=pN ns (ent ns i j).id) (hk:(nd ns (tgt ns (ent ns i j).id)).kind=2) :
    upd (mf (pf ((dH ns i j++ps).map (jj ns)))) (.int .i64 (ent ns i j).id) (some (.int .i64 (nd ns i).id))=mf (pf ((dH ns i (j+1)++ps).map (jj ns))):=by
  rw [E9,p4 hk,List.cons_append,List.map_cons,jj,(nL hat).2.1,Pj]
theorem Mk {ns:List aP} {i j:Nat} {ps:List (Nat×Nat)} {f:Lit->Option Value} {kl:Lit} (hf:f kl=none) (hk:(nd ns (tgt ns (ent ns i j).id)).kind=2) :
    (if (f kl).isSome then (dH ns i j++ps).length else (dH ns i j++ps).length+1)=(dH ns i (j+1)++ps).length:=by
  rw [hf,p4 hk]
  rfl
theorem I0 {ns:List aP} {i j:Nat} {ps:List (Nat×Nat)} (hat:0<=pN ns (ent ns i j).id) (hk:(nd ns (tgt ns (ent ns i j).id)).kind=2) (hup:up ((dH ns i j++ps).map (jj ns)) (ent ns i j).id=none) (h:((dH ns i j++ps).map Prod.fst).Nodup) :
    ((dH ns i (j+1)++ps).map Prod.fst).Nodup:=by
  rw [p4 hk,List.cons_append,List.map_cons]
  refine List.nodup_cons.2 ⟨?_,h⟩
  refine Ht (ns:=ns) ?_
  rw [(nL hat).2.1]
  exact hup
theorem Fg {ns:List aP} {i j:Nat} (h:∀ t,t < j->nW ns i t):∀ p,p∈dH ns i j->p.1 < ns.length/\p.2=i:=by
  induction j with
  | zero=>intro p hp;cases hp
  | succ j ih=>
    intro p hp
    rw [dH] at hp
    rcases List.mem_append.1 hp with hp|hp
    ·unfold Fe at hp
     split at hp
     ·rw [List.mem_singleton.1 hp]
      exact⟨(nL (h j (Nat.lt_succ_self j)).at_).1,rfl⟩
     cases hp
    exact ih (fun t ht=>h t (by omega)) p hp
theorem GK {ns:List aP} {i j:Nat} {ps:List (Nat×Nat)} {y:Int} (hr:dh ns) (hps:∀ p,p∈ps->p.1 < ns.length) (hok:∀ t,t < j->nW ns i t) (hat:0<=pN ns (ent ns i j).id) (hk:(nd ns (tgt ns (ent ns i j).id)).kind=2)
    (hup:up ((dH ns i j++ps).map (jj ns)) (ent ns i j).id=some y) (hj:j < (nd ns i).ah.length):¬ vR ns i ps:=fun h=>by
  refine GJ h hj hk ?_
  rw [← (nL hat).2.1] at hup
  refine (Hu hr (nL hat).1 (fun p hp=>?_) hup).1
  rcases List.mem_append.1 hp with hp|hp
  ·exact (Fg hok p hp).1
  exact hps p hp
end
section
open Go.RowKit
attribute [local irreducible] aj aS af ai
theorem Ml {β:Bs} (A:Option Addr) (ns:List aP) (L:Lay) (hG:ay β A ns L) (hr:dh ns) (i:Nat) (hi:i < ns.length) (hel:(nd ns i).ah.length<=1048576) (hwf:∀ j,j < (nd ns i).ah.length->-9223372036854775808<=(ent ns i j).id/\(ent ns i j).id<=9223372036854775807) (hnm:∀ j,j < (nd ns i).ah.length->(ent ns i j).name.size<=1048576)
    (mb mp:Nat) (ps:List (Nat×Nat)) (hpl:ps.length<=16777216) (hps:∀ p,p∈ps->p.1 < ns.length) (hnp:(ps.map Prod.fst).Nodup) :
    Spec Tryz.prog β 119 #[.pointer (some ⟨(aq A),ak A+i * 10,none⟩),.map (some mb),.map (some mp)] [.abs (aN Tryz.prog 3 mb (mf (bf A ns ns.length)) ns.length),.abs (aN Tryz.prog 3 mp (mf (pf ((ps).map (jj ns)))) ((ps).length))] (fun v l=>(v=.bool true/\vR ns i ps/\l=[.abs (aN Tryz.prog 3 mb (mf (bf A ns ns.length)) ns.length),.abs (aN Tryz.prog 3 mp (mf (pf ((dH ns i (nd ns i).ah.length++ps).map (jj ns)))) ((dH ns i (nd ns i).ah.length++ps).length))])\/(v=.bool false/\¬ vR ns i ps/\l=[])):=by
 refine Spec.enter Tryz.func119 rfl Tryz.ntmps119 (Nat.le_of_ble_eq_true rfl) (fun R=>?_)
 refine SR (gK 1 [] [] ?_)
 refine NS (gK 1 [(7,.string ⟨#[]⟩)] [] ?_)
 refine NN (af.seq (SR (gK 6 [(16,.slice (L.eA i) ((nd ns i).ah.length) ((L.eC i))),(17,vI ↑((nd ns i).ah.length)),(18,vI 0)] [(3,p_ ⟨[.old (.slice (L.eA i) ((nd ns i).ah.length) ((L.eC i)))],none,none,none,none⟩ [(Rd β ⟨(aq A),ak A+i * 10+9,none⟩ (.slice (L.eA i) ((nd ns i).ah.length) ((L.eC i))))] ⟨ay.rd hG (i:=i) (by omega) (j:=9) rfl,trivial⟩)] ?_)))
 refine NN (af.block ?_)
 refine af.loop (ι:=Nat) (fun (j:Nat)=>(j<=(nd ns i).ah.length)/\(∀ t,t < j->nW ns i t)/\(((dH ns i j++ps).map Prod.fst).Nodup)) (fun (j:Nat)=>(nd ns i).ah.length - j) (fun (j:Nat)=>[(0,.pointer (some ⟨(aq A),ak A+i * 10,none⟩)),(1,.map (some mb)),(2,.map (some mp)),(7,.string (lf ns i j)),(16,.slice (L.eA i) ((nd ns i).ah.length) ((L.eC i))),(17,vI ↑((nd ns i).ah.length)),(18,vI ↑j)]) (fun (j:Nat)=>[.abs (aN Tryz.prog 3 mb (mf (bf A ns ns.length)) ns.length),.abs (aN Tryz.prog 3 mp (mf (pf ((dH ns i j++ps).map (jj ns)))) ((dH ns i j++ps).length)),.abs R]) 0 (idx:=[0,1,2,7,16,17,18]) (pk:=[0,1,2]) (show (0<=(nd ns i).ah.length)/\(∀ t,t < 0->nW ns i t)/\(((dH ns i 0++ps).map Prod.fst).Nodup) from ⟨Nat.zero_le _,fun t ht=>absurd ht (Nat.not_lt_zero t),hnp⟩) (fun _=>by kernel_rfl) rfl (by kernel_rfl) ?_
 rintro j ⟨hj,hok,hnd⟩
 show af _ _ _ _ [(0,.pointer (some ⟨(aq A),ak A+i * 10,none⟩)),(1,.map (some mb)),(2,.map (some mp)),(7,.string (lf ns i j)),(16,.slice (L.eA i) ((nd ns i).ah.length) ((L.eC i))),(17,vI ↑((nd ns i).ah.length)),(18,vI ↑j)] [.abs (aN Tryz.prog 3 mb (mf (bf A ns ns.length)) ns.length),.abs (aN Tryz.prog 3 mp (mf (pf ((dH ns i j++ps).map (jj ns)))) ((dH ns i j++ps).length)),.abs R] _
 refine SR (gK 1 [(19,.bool (decide ((((j:Nat):Int):Int) < ((((nd ns i).ah.length:Nat):Int):Int))))] [] ?_)
 refine NN (af.seq (af.bg (p:=(((j:Nat):Int):Int) < ((((nd ns i).ah.length:Nat):Int):Int)) (fun _=>by kernel_rfl) (fun Vp=>?_) (fun Vp=>?_)))
 ·refine af.skip (NX (af.seq (af.block (SR ?_))))
  refine gN 4 (fun b1=>[(9,vP b1)]) (fun b1=>[(0,p_ ⟨[],some j,none,some ⟨(aq (L.eA i)),ak (L.eA i),none⟩,none⟩ [((j:Nat):Int)=((j:Nat):Int),j < (nd ns i).ah.length,(⟨(aq (L.eA i)),ak (L.eA i),none⟩:Addr).spot=none,((L.eA i):Option Addr)=some ⟨(aq (L.eA i)),ak (L.eA i),none⟩] ⟨rfl,by omega,rfl,dY.hd (hG.ah i (by omega)) (i:=j) (by omega),trivial⟩),(1,p_ ⟨[.old (.string (en (nd ns i).ah j).name),.old (.int .i64 ((en (nd ns i).ah j).id))],none,none,none,none⟩ [(Rd β ⟨(aq (L.eA i)),ak (L.eA i)+j * 2+1,none⟩ (.int .i64 ((en (nd ns i).ah j).id))),(Rd β ⟨(aq (L.eA i)),ak (L.eA i)+j * 2,none⟩ (.string (en (nd ns i).ah j).name))] ⟨dY.rd (hG.ah i (by omega)) (i:=j) (by omega) (j:=1) rfl,dY.rd (hG.ah i (by omega)) (i:=j) (by omega) (j:=0) rfl,trivial⟩),(3,A_ 3 b1 2)]) (fun _=>[]) (fun b1=>.blk b1 [.string (en (nd ns i).ah j).name,vI ((en (nd ns i).ah j).id)] 140) (fun b1=>?_)
  refine NS (gK 3 [(22,.map (some mb)),(24,vI ((en (nd ns i).ah j).id))] [(2,a_ 3 b1)] ?_)
  by_cases hat:0<=pN ns (en (nd ns i).ah j).id
  ·have htl:=nL hat
   refine aj.eu 0 (d:=(some 25)) (t:=160) (K:=3) (E:=161) (b:=mb) (n:=ns.length) (f:=(mf (bf A ns ns.length))) (x:=(.tmp 22)) (ix:=(.tmp 24)) (key:=.int .i64 ((en (nd ns i).ah j).id)) (z:=.pointer none) (kl:=(.int .i64 (en (nd ns i).ah j).id)) (r:=(some (.pointer (some ⟨(aq A),ak A+(tgt ns (en (nd ns i).ah j).id) * 10,none⟩)))) (fun _=>by kernel_rfl) (by kernel_rfl) (fun _=>by kernel_rfl) (fun _=>by kernel_rfl) d6 Tryz.underlying160 (fun _=>by kernel_rfl) (pY (hwf j (by omega)).1 (hwf j (by omega)).2) (Sy hat htl.1) ?_
   refine gK 1 [(10,.pointer (some ⟨(aq A),ak A+(tgt ns (en (nd ns i).ah j).id) * 10,none⟩))] [] ?_
   refine NN (af.seq (SR (gK 5 [(28,.bool false),(30,.string (en (nd ns i).ah j).name)] [(4,a_ 3 b1)] ?_)))
   refine gL [] (sJ (en (nd ns i).ah j).name (hnm j (by omega))) ?_
   rintro _ _ ⟨rfl,rfl⟩
   refine gK 3 [(34,.bool (!(decide (bO (en (nd ns i).ah j).name))))] [] ?_
   refine aj.iI 34 (bO (en (nd ns i).ah j).name) (fun _=>by kernel_rfl) (fun zE=>?_) (fun zE=>?_)
   ·refine gK 5 [(39,.bool true)] [] ?_
    refine NN (CT (SR (gK 1 [(6,.bool false)] [] ?_)))
    refine NN (af.ret (ai.ar (ai.aG (ai.ar (ai.ar (ai.aG (ai.ar ?_)))))))
    exact RT (l:=[]) (.bool false) [2] (.inr ⟨rfl,fun h=>zE (h.ah j (by omega)).good,rfl⟩)
   refine gK 5 [(39,.bool (decide (mh ((en (nd ns i).ah j).name) (lf ns i j))))] [(1,a_ 3 b1),(3,p_ ⟨[],none,none,none,some (.bool (decide (mh ((en (nd ns i).ah j).name) (lf ns i j))))⟩ [(Value.bool (Op.bytesLess (((en (nd ns i).ah j).name):ByteArray).toList (((lf ns i j)):ByteArray).toList || (((en (nd ns i).ah j).name):ByteArray).toList == (((lf ns i j)):ByteArray).toList))=(.bool (decide (mh ((en (nd ns i).ah j).name) (lf ns i j))))] ⟨Qs _ _,trivial⟩)] ?_
   refine NN (af.bg (p:=mh ((en (nd ns i).ah j).name) (lf ns i j)) (fun _=>by kernel_rfl) (fun ji=>?_) (fun ji=>?_))
   ·refine SR (gK 1 [(6,.bool false)] [] ?_)
    refine NN (af.ret (ai.ar (ai.aG (ai.ar (ai.ar (ai.aG (ai.ar ?_)))))))
    exact RT (l:=[]) (.bool false) [2] (.inr ⟨rfl,fun h=>(h.ah j (by omega)).ord ji,rfl⟩)
   refine af.skip (NX (SR (gK 3 [(7,.string (en (nd ns i).ah j).name)] [(1,a_ 3 b1)] ?_)))
   refine NN (af.seq (SR (gK 5 [(46,.bool (!(decide (((nd ns (tgt ns (en (nd ns i).ah j).id)).kind:Int)=(2:Int)))))] [(3,p_ ⟨[.old (.int .i64 ((nd ns (tgt ns (en (nd ns i).ah j).id)).kind))],none,none,none,none⟩ [(Rd β ⟨(aq A),ak A+(tgt ns (en (nd ns i).ah j).id) * 10+1,none⟩ (.int .i64 ((nd ns (tgt ns (en (nd ns i).ah j).id)).kind)))] ⟨ay.rd hG (i:=(tgt ns (en (nd ns i).ah j).id)) (by omega) (j:=1) rfl,trivial⟩)] ?_)))
   refine NN (af.dm (p:=((nd ns (tgt ns (en (nd ns i).ah j).id)).kind:Int)=(2:Int)) (fun _=>by kernel_rfl) (fun h46=>?_) (fun h46=>?_))
   ·refine af.exit (ai.aU (ai.cM (NX (af.region ?_))))
    refine aj.bI 1 (p:=.abs (aN Tryz.prog 3 mp (mf (pf ((dH ns i j++ps).map (jj ns)))) ((dH ns i j++ps).length))) (p':=.abs (aN Tryz.prog 3 mp (mf (pf ((dH ns i (j+1)++ps).map (jj ns)))) ((dH ns i (j+1)++ps).length))) (by kernel_rfl) (by rw [tK h46]) ?_
    refine gK 2 [(18,vI ↑(j+1))] [(0,p_ ⟨[],none,none,none,some (vI ↑(j+1))⟩ [(Value.int .i64 (IntKind.wrap .i64 (((j:Nat):Int)+1)))=(.int .i64 ↑(j+1))] ⟨bA (by omega) (by omega) (by omega),trivial⟩)] ?_
    refine NL ?_
    exact ai.turn ((j+1)) (idx:=[0,1,2,7,16,17,18]) (pk:=[0,1,2]) (show (((j+1))<=(nd ns i).ah.length)/\(∀ t,t < ((j+1))->nW ns i t)/\(((dH ns i ((j+1))++ps).map Prod.fst).Nodup) from ⟨by omega,fun t ht=>(by rcases Nat.lt_succ_iff_lt_or_eq.1 ht with h|h;exact hok t h;subst h;exact⟨hat,zE,ji⟩),(by rw [tK h46];exact hnd)⟩) (by show (nd ns i).ah.length - ((j+1)) < (nd ns i).ah.length - j;omega) (fun _=>by kernel_rfl) rfl (by kernel_rfl)
   refine af.skip (NX (af.seq (SR (gK 3 [(48,.map (some mp)),(50,vI ((en (nd ns i).ah j).id))] [(2,a_ 3 b1)] ?_))))
   rcases hup:up ((dH ns i j++ps).map (jj ns)) (en (nd ns i).ah j).id with _|y
   ·refine aj.tG 1 (d:=(some 51)) (t:=179) (K:=3) (E:=3) (b:=mp) (n:=(dH ns i j++ps).length) (f:=(mf (pf ((dH ns i j++ps).map (jj ns))))) (x:=(.tmp 48)) (ix:=(.tmp 50)) (key:=.int .i64 ((en (nd ns i).ah j).id)) (z:=.int .i64 0) (kl:=(.int .i64 (en (nd ns i).ah j).id)) (r:=none) (fun _=>by kernel_rfl) (by kernel_rfl) (fun _=>by kernel_rfl) (fun _=>by kernel_rfl) d6 Tryz.underlying179 (fun _=>by kernel_rfl) (pY (hwf j (by omega)).1 (hwf j (by omega)).2) (vQ hup) ?_
    refine gK 5 [(12,.bool false)] [] ?_
    refine NS (gK 1 [(54,.bool false)] [] ?_)
    refine NN (CF (af.skip (NX (af.uq 7 (by kernel_rfl) (by kernel_rfl) ?_))))
    refine ij.seg (k':=7) (fr':=[(0,.pointer (some ⟨(aq A),ak A+i * 10,none⟩)),(1,.map (some mb)),(2,.map (some mp)),(7,.string (en (nd ns i).ah j).name),(16,.slice (L.eA i) ((nd ns i).ah.length) ((L.eC i))),(17,vI ↑((nd ns i).ah.length)),(18,vI ↑j),(55,.map (some mp)),(57,vI ((en (nd ns i).ah j).id)),(61,vI ((nd ns i).id))]) (bG:=[(Rd β ⟨(aq A),ak A+i * 10,none⟩ (.int .i64 ((nd ns i).id))),b1=b1]) [o_,o_,⟨[.at 3],none,none,none,none⟩,o_,o_,o_,⟨[.old (.int .i64 ((nd ns i).id))],none,none,none,none⟩] [0,1,2,7,16,17,18,55,57,61] (fun _ _=>by kernel_rfl) ⟨ay.rd hG (i:=i) (by omega) (j:=0) rfl,rfl,trivial⟩ (by decide) ?_
    refine ij.done rfl ?_
    refine aj.kG 1 (d:=none) (t:=179) (K:=3) (E:=3) (b:=mp) (n:=(dH ns i j++ps).length) (f:=(mf (pf ((dH ns i j++ps).map (jj ns))))) (x:=(.tmp 55)) (ix:=(.tmp 57)) (y:=(.tmp 61)) (key:=.int .i64 ((en (nd ns i).ah j).id)) (u:=.int .i64 ((nd ns i).id)) (kl:=(.int .i64 (en (nd ns i).ah j).id)) (n':=(dH ns i (j+1)++ps).length) (f':=(mf (pf ((dH ns i (j+1)++ps).map (jj ns))))) (fun _=>by kernel_rfl) (by kernel_rfl) (fun _=>by kernel_rfl) (fun _=>by kernel_rfl) (fun _=>by kernel_rfl) d6 Tryz.underlying179 (by have:=Ff ns i j;rw [List.length_append];unfold maxLen;omega) (pY (hwf j (by omega)).1 (hwf j (by omega)).2) (Mk (vQ hup) h46) (Mj hat h46) ?_
    refine NL (ai.aJ (NX (af.region ?_)))
    refine gK 2 [(18,vI ↑(j+1))] [(0,p_ ⟨[],none,none,none,some (vI ↑(j+1))⟩ [(Value.int .i64 (IntKind.wrap .i64 (((j:Nat):Int)+1)))=(.int .i64 ↑(j+1))] ⟨bA (by omega) (by omega) (by omega),trivial⟩)] ?_
    refine NL ?_
    exact ai.turn ((j+1)) (idx:=[0,1,2,7,16,17,18]) (pk:=[0,1,2]) (show (((j+1))<=(nd ns i).ah.length)/\(∀ t,t < ((j+1))->nW ns i t)/\(((dH ns i ((j+1))++ps).map Prod.fst).Nodup) from ⟨by omega,fun t ht=>(by rcases Nat.lt_succ_iff_lt_or_eq.1 ht with h|h;exact hok t h;subst h;exact⟨hat,zE,ji⟩),(I0 hat h46 hup hnd)⟩) (by show (nd ns i).ah.length - ((j+1)) < (nd ns i).ah.length - j;omega) (fun _=>by kernel_rfl) rfl (by kernel_rfl)
   refine aj.tG 1 (d:=(some 51)) (t:=179) (K:=3) (E:=3) (b:=mp) (n:=(dH ns i j++ps).length) (f:=(mf (pf ((dH ns i j++ps).map (jj ns))))) (x:=(.tmp 48)) (ix:=(.tmp 50)) (key:=.int .i64 ((en (nd ns i).ah j).id)) (z:=.int .i64 0) (kl:=(.int .i64 (en (nd ns i).ah j).id)) (r:=(some (vI y))) (fun _=>by kernel_rfl) (by kernel_rfl) (fun _=>by kernel_rfl) (fun _=>by kernel_rfl) d6 Tryz.underlying179 (fun _=>by kernel_rfl) (pY (hwf j (by omega)).1 (hwf j (by omega)).2) (Oo hup) ?_
   refine gK 5 [(12,.bool true)] [] ?_
   refine NS (gK 1 [(54,.bool true)] [] ?_)
   refine NN (CT (SR (gK 1 [(6,.bool false)] [] ?_)))
   refine NN (af.ret (ai.ar (ai.aG (ai.ar (ai.ar (ai.aG (ai.ar ?_)))))))
   exact RT (l:=[]) (.bool false) [2] (.inr ⟨rfl,GK hr hps hok hat h46 hup (by omega),rfl⟩)
  refine aj.eu 0 (d:=(some 25)) (t:=160) (K:=3) (E:=161) (b:=mb) (n:=ns.length) (f:=(mf (bf A ns ns.length))) (x:=(.tmp 22)) (ix:=(.tmp 24)) (key:=.int .i64 ((en (nd ns i).ah j).id)) (z:=.pointer none) (kl:=(.int .i64 (en (nd ns i).ah j).id)) (r:=none) (fun _=>by kernel_rfl) (by kernel_rfl) (fun _=>by kernel_rfl) (fun _=>by kernel_rfl) d6 Tryz.underlying160 (fun _=>by kernel_rfl) (pY (hwf j (by omega)).1 (hwf j (by omega)).2) (Pm hat) ?_
  refine gK 1 [(10,.pointer none)] [] ?_
  refine NN (af.seq (SR (gK 14 [(39,.bool true)] [] ?_)))
  refine NN (CT (SR (gK 1 [(6,.bool false)] [] ?_)))
  refine NN (af.ret (ai.ar (ai.aG (ai.ar (ai.ar (ai.aG (ai.ar ?_)))))))
  exact RT (l:=[]) (.bool false) [2] (.inr ⟨rfl,fun h=>hat (h.ah j (by omega)).at_,rfl⟩)
 refine af.exit (ai.aU (ai.aU (ai.cM (NX (SR ?_)))))
 refine gK 1 [(6,.bool true)] [] ?_
 refine NN (af.ret ?_)
 exact RT (l:=[.abs (aN Tryz.prog 3 mb (mf (bf A ns ns.length)) ns.length),.abs (aN Tryz.prog 3 mp (mf (pf ((dH ns i j++ps).map (jj ns)))) ((dH ns i j++ps).length))]) (.bool true) [0,1,2] (.inl ⟨rfl,⟨fun t ht=>hok t (by omega),by have:=hnd;rwa [show j=(nd ns i).ah.length by omega] at this⟩,by rw [show j=(nd ns i).ah.length by omega]⟩)
end
section
open Go.RowKit Go.Maps
def eX (ns:List aP):Nat->Nat
  | 0=>0
  | k+1=>eX ns k+(nd ns k).ah.length
def lP (ns:List aP):Nat->Int
  | 0=>0
  | k+1=>(nd ns k).id
structure bS (ns:List aP):Prop where
  len:ns.length<=4096
  node:∀ i,i < ns.length->qH (nd ns i)
  ids:∀ i,i < ns.length->1<=(nd ns i).id/\(nd ns i).id<=1099511627776
  rise:dh ns
  sum:eX ns ns.length<=8192
  ah:∀ i,i < ns.length->∀ j,j < (nd ns i).ah.length->nW ns i j
  nodup:((fM ns ns.length).map Prod.fst).Nodup
  ends:AllEnd ((fM ns ns.length).map (jj ns))
noncomputable instance (ns:List aP):Decidable (bS ns):=Classical.propDecidable _
theorem bS.last {ns:List aP} (h:bS ns) {k:Nat} (hk:k < ns.length):lP ns k < (nd ns k).id:=by
  cases k with
  | zero=>have:=(h.ids 0 hk).1;show (0:Int) < _;omega
  | succ k=>exact h.rise k (k+1) (Nat.lt_succ_self k) hk
structure p8 (ns:List aP) (k:Nat):Prop where
  node:∀ i,i < k->qH (nd ns i)
  ids:∀ i,i < k->1<=(nd ns i).id/\(nd ns i).id<=1099511627776
  rise:∀ i j,i < j->j < k->(nd ns i).id < (nd ns j).id
theorem p8.zero (ns:List aP):p8 ns 0:=⟨fun i h=>absurd h (Nat.not_lt_zero i),fun i h=>absurd h (Nat.not_lt_zero i),fun _ j _ h=>absurd h (Nat.not_lt_zero j)⟩
theorem p8.last {ns:List aP} {k:Nat} (h:p8 ns k):0<=lP ns k/\lP ns k<=1099511627776:=by
  cases k with
  | zero=>exact⟨Int.le_refl _,by show (0:Int)<=1099511627776;decide⟩
  | succ k=>have:=h.ids k (Nat.lt_succ_self k);exact⟨by show 0<=(nd ns k).id;omega,this.2⟩
theorem p8.step {ns:List aP} {k:Nat} (h:p8 ns k) (h1:lP ns k < (nd ns k).id) (h2:(nd ns k).id<=1099511627776) (h3:qH (nd ns k)):p8 ns (k+1):=by
  have hl:=h.last
  refine⟨fun i hi=>?_,fun i hi=>?_,fun i j hij hj=>?_⟩
  ·rcases Nat.lt_succ_iff_lt_or_eq.1 hi with e|e
   ·exact h.node i e
   rw [e];exact h3
  ·rcases Nat.lt_succ_iff_lt_or_eq.1 hi with e|e
   ·exact h.ids i e
   rw [e];omega
  rcases Nat.lt_succ_iff_lt_or_eq.1 hj with e|e
  ·exact h.rise i j hij e
  subst e
  cases j with
  | zero=>omega
  | succ m=>
    have h4:(nd ns m).id < (nd ns (m+1)).id:=h1
    rcases Nat.lt_succ_iff_lt_or_eq.1 hij with e|e
    ·have:=h.rise i m e (Nat.lt_succ_self m);omega
    rw [e];exact h4
theorem Fh {ns:List aP} {k:Nat} (h:∀ i,i < k->(nd ns i).id < (nd ns k).id) (hk:k < ns.length):pN ns (nd ns k).id=(k:Int):=by
  unfold pN
  have hg:∀ j (hj:j < ns.length),nd ns j=ns[j]:=fun j hj=>by
    unfold nd
    rw [List.getD_eq_getElem?_getD,List.getElem?_eq_getElem hj]
    rfl
  have:ns.findIdx? (fun n=>n.id == (nd ns k).id)=some k:=by
    rw [List.findIdx?_eq_some_iff_getElem]
    refine⟨hk,by rw [← hg k hk];simp,fun j hj=>?_⟩
    have:=h j hj
    rw [← hg j (by omega)]
    simp
    omega
  rw [this]
theorem Qt {A:Option Addr} {ns:List aP} {k:Nat} (h:∀ i,i < k->(nd ns i).id < (nd ns k).id) (hk:k < ns.length) :
    upd (mf (bf A ns k)) (.int .i64 (nd ns k).id) (some (.pointer (some ⟨aq A,ak A+k * 10,none⟩)))=mf (bf A ns (k+1)):=by
  have ha:=Fh h hk
  rw [E9]
  congr 1
  funext z
  unfold bf
  by_cases e:z=(nd ns k).id
  ·subst e
   rw [if_pos rfl,if_pos ⟨by omega,by omega⟩]
   unfold tgt
   rw [ha]
   rfl
  rw [if_neg e]
  by_cases e1:0<=pN ns z/\pN ns z < (k:Int)
  ·rw [if_pos e1,if_pos ⟨e1.1,by omega⟩]
  rw [if_neg e1,if_neg (fun e2=>?_)]
  have e3:pN ns z=(k:Int):=by omega
  have e4:=(nL e2.1).2
  rw [e4.2] at e3
  have e5:tgt ns z=k:=by omega
  rw [e5] at e4
  exact e e4.1.symm
theorem Mn {A:Option Addr} {ns:List aP} {k:Nat} (h:∀ i,i < k->(nd ns i).id < (nd ns k).id) (hk:k < ns.length):(if ((mf (bf A ns k)) (.int .i64 (nd ns k).id)).isSome then k else k+1)=k+1:=by
  have ha:=Fh h hk
  have:mf (bf A ns k) (.int .i64 (nd ns k).id)=none:=if_neg (fun e=>by omega)
  rw [this]
  rfl
theorem p8.below {ns:List aP} {k:Nat} (h:p8 ns k) (h1:lP ns k < (nd ns k).id):∀ i,i < k->(nd ns i).id < (nd ns k).id:=by
  intro i hi
  cases k with
  | zero=>omega
  | succ m=>
    have h1:(nd ns m).id < (nd ns (m+1)).id:=h1
    rcases Nat.lt_succ_iff_lt_or_eq.1 hi with e|e
    ·have:=h.rise i m e (Nat.lt_succ_self m);omega
    rw [e];exact h1
theorem Pn {A:Option Addr} {ns:List aP}:mf (bf A ns 0)=fun _=>none:=by
  rw [← CW]
  congr 1
  funext z
  exact if_neg (fun e=>by omega)
theorem Po {ns:List aP}:mf (pf ((fM ns 0).map (jj ns)))=fun _=>none:=by
  rw [← CW]
  congr 1
theorem Ak {ns:List aP} {i:Nat} (hi:i<=ns.length) (h:∀ a,a < i->∀ j,j < (nd ns a).ah.length->nW ns a j):∀ p,p∈fM ns i->p.1 < ns.length/\p.2 < ns.length:=by
  induction i with
  | zero=>intro p hp;cases hp
  | succ i ih=>
    intro p hp
    rw [fM] at hp
    rcases List.mem_append.1 hp with hp|hp
    ·have:=Fg (h i (Nat.lt_succ_self i)) p hp
     exact⟨this.1,by omega⟩
    exact ih (by omega) (fun a ha=>h a (by omega)) p hp
theorem Fj (ns:List aP) (i:Nat):(fM ns i).length<=eX ns i:=by
  induction i with
  | zero=>exact Nat.le_refl _
  | succ i ih=>
    rw [fM,eX,List.length_append]
    have:=Ff ns i (nd ns i).ah.length
    omega
theorem ur {ns:List aP} {i m:Nat} (h:i<=m):eX ns i<=eX ns m:=by
  induction m with
  | zero=>rw [Nat.le_zero.1 h];exact Nat.le_refl _
  | succ m ih=>
    rcases Nat.lt_or_ge m i with h1|h1
    ·have:i=m+1:=by omega
     subst this
     exact Nat.le_refl _
    have:=ih h1
    rw [eX]
    omega
theorem Ko {ns:List aP} {ps:List (Nat×Nat)} (hp:∀ p,p∈ps->p.1 < ns.length/\p.2 < ns.length) (hid:∀ i,i < ns.length->1<=(nd ns i).id/\(nd ns i).id<=1099511627776) :
    ∀ z y,up (ps.map (jj ns)) z=some y->(-9223372036854775808<=z/\z<=9223372036854775807)/\(-9223372036854775808<=y/\y<=9223372036854775807):=by
  intro z y h
  unfold up at h
  induction ps with
  | nil=>cases h
  | cons p ps ih=>
    obtain⟨a,b⟩:=p
    rw [List.map_cons,jj,List.lookup_cons] at h
    by_cases e:(z == (nd ns a).id)=true
    ·rw [e] at h
     cases h
     have h1:=hp (a,b) (List.mem_cons_self ..)
     have h2:=hid a h1.1
     have h3:=hid b h1.2
     have:z=(nd ns a).id:=by simpa using e
     show (_/\_)/\(-9223372036854775808<=(nd ns b).id/\(nd ns b).id<=9223372036854775807)
     omega
    have e:(z == (nd ns a).id)=false:=by simpa using e
    rw [e] at h
    exact ih (fun p hp'=>hp p (List.mem_cons_of_mem _ hp')) h
theorem Qu {p:Prop} [Decidable p] {v:Value} {l:List HP} (h:v=.bool (decide p)/\l=[]):(v=.bool true/\p/\l=[])\/(v=.bool false/\¬ p/\l=[]):=by
  by_cases hp:p
  ·exact .inl ⟨by rw [h.1,decide_eq_true hp],hp,h.2⟩
  exact .inr ⟨by rw [h.1,decide_eq_false hp],hp,h.2⟩
theorem vR.next {ns:List aP} {i:Nat} (h:vR ns i (fM ns i)):((fM ns (i+1)).map Prod.fst).Nodup:=h.nodup
theorem bS.row {ns:List aP} (h:bS ns) {i:Nat} (hi:i < ns.length):vR ns i (fM ns i):=by
  refine⟨h.ah i hi,?_⟩
  obtain⟨l,hl⟩:=Kn (ns:=ns) (show i+1<=ns.length from hi)
  have:=h.nodup
  rw [hl] at this
  exact xC this
end
section
open Go.RowKit
attribute [local irreducible] aj aS af ai
theorem Pp {β:Bs} (A:Option Addr) (c:Nat) (ns:List aP) (L:Lay) (hG:ay β A ns L) (hl:ns.length<=1048576) (hd:∀ i,i < ns.length->(nd ns i).data.length<=140737488355328/\(nd ns i).ah.length<=1048576) (hwf:∀ i,i < ns.length->∀ j,j < (nd ns i).ah.length->-9223372036854775808<=(ent ns i j).id/\(ent ns i j).id<=9223372036854775807) (hnm:∀ i,i < ns.length->∀ j,j < (nd ns i).ah.length->(ent ns i j).name.size<=1048576) :
    Spec Tryz.prog β 88 #[.agg #[.slice A ns.length c]] [] (fun v l=>(∃ mb,v=.tuple #[.map (some mb),.bool true]/\bS ns/\l=[.abs (aN Tryz.prog 3 mb (mf (bf A ns ns.length)) ns.length)])\/(∃ m,v=.tuple #[m,.bool false]/\¬ bS ns/\l=[])):=by
 refine Spec.enter Tryz.func88 rfl Tryz.ntmps88 (Nat.le_of_ble_eq_true rfl) (fun R=>?_)
 refine SR (gN 3 (fun b1=>[(1,vP b1)]) (fun _=>[]) (fun _=>[]) (fun b1=>.blk b1 [.slice A (ns.length) (c)] 24) (fun b1=>?_))
 refine NN (af.seq (SR (gK 4 [(14,.bool (decide ((((ns.length:Nat):Int):Int) > (4096:Int))))] [(1,a_ 1 b1)] ?_)))
 refine NN (af.bg (p:=(((ns.length:Nat):Int):Int) > (4096:Int)) (fun _=>by kernel_rfl) (fun iL=>?_) (fun iL=>?_))
 ·refine SR (gK 2 [(2,.map none),(3,.bool false)] [] ?_)
  refine NN (af.ret (ai.ar ?_))
  exact RT (.tuple #[.map none,.bool false]) [0] (.inr ⟨_,rfl,fun h=>by have:=h.len;omega,rfl⟩)
 refine af.skip (NX (SR (aj.lT (d:=(some 15)) (t:=160) (fun _=>by kernel_rfl) Tryz.prog rfl 3 (fun m2=>?_))))
 refine gK 1 [(4,.map (some m2))] [] ?_
 refine NS (aj.bI 2 (p:=.abs (aN Tryz.prog 3 m2 (fun _=>none) 0)) (p':=.abs (aN Tryz.prog 3 m2 (mf (bf A ns 0)) 0)) (by kernel_rfl) (by rw [Pn]) ?_)
 refine gK 2 [(5,vI 0),(6,vI 0)] [] ?_
 refine NN (af.seq (SR (gK 4 [(18,vI ↑ns.length),(19,vI 0)] [(1,a_ 1 b1)] ?_)))
 refine NN (af.block ?_)
 refine af.loop (ι:=Nat) (fun (k:Nat)=>(k<=ns.length)/\(p8 ns k)/\(eX ns k<=k * 1048576)) (fun (k:Nat)=>ns.length - k) (fun (k:Nat)=>[(1,vP b1),(4,.map (some m2)),(5,vI (lP ns k)),(6,vI ↑(eX ns k)),(18,vI ↑ns.length),(19,vI ↑k)]) (fun (k:Nat)=>[.blk b1 [.slice A (ns.length) (c)] 24,.abs (aN Tryz.prog 3 m2 (mf (bf A ns k)) k),.abs R]) 0 (idx:=[1,4,5,6,18,19]) (pk:=[1,2,0]) (show (0<=ns.length)/\(p8 ns 0)/\(eX ns 0<=0 * 1048576) from ⟨Nat.zero_le _,p8.zero ns,Nat.zero_le _⟩) (fun _=>by kernel_rfl) rfl (by kernel_rfl) ?_
 rintro k ⟨hk,hu,hs⟩
 show af _ _ _ _ [(1,vP b1),(4,.map (some m2)),(5,vI (lP ns k)),(6,vI ↑(eX ns k)),(18,vI ↑ns.length),(19,vI ↑k)] [.blk b1 [.slice A (ns.length) (c)] 24,.abs (aN Tryz.prog 3 m2 (mf (bf A ns k)) k),.abs R] _
 have hk4:=(hd k)
 refine SR (gK 1 [(20,.bool (decide ((((k:Nat):Int):Int) < (((ns.length:Nat):Int):Int))))] [] ?_)
 refine NN (af.seq (af.bg (p:=(((k:Nat):Int):Int) < (((ns.length:Nat):Int):Int)) (fun _=>by kernel_rfl) (fun pP=>?_) (fun pP=>?_)))
 ·refine af.skip (NX (af.seq (af.block (SR ?_))))
  refine gK 2 [(7,vI ↑k)] [] ?_
  refine NS (gK 5 [(8,.pointer (some ⟨(aq A),ak A+k * 10,none⟩))] [(1,a_ 0 b1),(3,p_ ⟨[],some k,none,some ⟨(aq A),ak A,none⟩,none⟩ [((k:Nat):Int)=((k:Nat):Int),k < ns.length,(⟨(aq A),ak A,none⟩:Addr).spot=none,(A:Option Addr)=some ⟨(aq A),ak A,none⟩] ⟨rfl,by omega,rfl,ay.hd hG (i:=k) (by omega),trivial⟩)] ?_)
  refine NN (af.seq (SR (gK 7 [(32,.bool (decide (((nd ns k).id:Int)<=(lP ns k:Int))))] [(3,p_ ⟨[.old (.int .i64 ((nd ns k).id))],none,none,none,none⟩ [(Rd β ⟨(aq A),ak A+k * 10,none⟩ (.int .i64 ((nd ns k).id)))] ⟨ay.rd hG (i:=k) (by omega) (j:=0) rfl,trivial⟩)] ?_)))
  refine aj.fY 32 (((nd ns k).id:Int)<=(lP ns k:Int)) (fun _=>by kernel_rfl) (fun Hq=>?_) (fun Hq=>?_)
  ·refine gK 11 [(43,.bool true)] [] ?_
   refine NN (CT (SR (gK 2 [(2,.map none),(3,.bool false)] [] ?_)))
   refine NN (af.ret (ai.ar (ai.aG (ai.ar (ai.ar (ai.aG (ai.ar ?_)))))))
   exact RT (.tuple #[.map none,.bool false]) [2] (.inr ⟨_,rfl,fun h=>by have:=h.last (show k < ns.length by omega);omega,rfl⟩)
  refine gK 7 [(39,.bool (decide (((nd ns k).id:Int) > (1099511627776:Int))))] [(3,p_ ⟨[.old (.int .i64 ((nd ns k).id))],none,none,none,none⟩ [(Rd β ⟨(aq A),ak A+k * 10,none⟩ (.int .i64 ((nd ns k).id)))] ⟨ay.rd hG (i:=k) (by omega) (j:=0) rfl,trivial⟩)] ?_
  refine aj.fY 39 (((nd ns k).id:Int) > (1099511627776:Int)) (fun _=>by kernel_rfl) (fun ji=>?_) (fun ji=>?_)
  ·refine gK 4 [(43,.bool true)] [] ?_
   refine NN (CT (SR (gK 2 [(2,.map none),(3,.bool false)] [] ?_)))
   refine NN (af.ret (ai.ar (ai.aG (ai.ar (ai.ar (ai.aG (ai.ar ?_)))))))
   exact RT (.tuple #[.map none,.bool false]) [2] (.inr ⟨_,rfl,fun h=>by have:=(h.ids k (by omega)).2;omega,rfl⟩)
  refine gK 1 [(40,.pointer (some ⟨(aq A),ak A+k * 10,none⟩))] [] ?_
  refine gL [] (Mi A ns L hG k (by omega)) ?_
  rintro _ _ ⟨rfl,rfl⟩
  refine gK 2 [(43,.bool (!(decide (qH (nd ns k)))))] [] ?_
  refine NN (af.dm (p:=qH (nd ns k)) (fun _=>by kernel_rfl) (fun Qv=>?_) (fun Qv=>?_))
  ·refine SR (gK 2 [(2,.map none),(3,.bool false)] [] ?_)
   refine NN (af.ret (ai.ar (ai.aG (ai.ar (ai.ar (ai.aG (ai.ar ?_)))))))
   exact RT (.tuple #[.map none,.bool false]) [2] (.inr ⟨_,rfl,fun h=>Qv (h.node k (by omega)),rfl⟩)
  refine af.skip (NX (SR (gK 5 [(5,vI ((nd ns k).id))] [(3,p_ ⟨[.old (.int .i64 ((nd ns k).id))],none,none,none,none⟩ [(Rd β ⟨(aq A),ak A+k * 10,none⟩ (.int .i64 ((nd ns k).id)))] ⟨ay.rd hG (i:=k) (by omega) (j:=0) rfl,trivial⟩)] ?_)))
  refine NS (gK 6 [(48,.map (some m2)),(52,vI ((nd ns k).id)),(53,.pointer (some ⟨(aq A),ak A+k * 10,none⟩))] [(4,p_ ⟨[.old (.int .i64 ((nd ns k).id))],none,none,none,none⟩ [(Rd β ⟨(aq A),ak A+k * 10,none⟩ (.int .i64 ((nd ns k).id)))] ⟨ay.rd hG (i:=k) (by omega) (j:=0) rfl,trivial⟩)] ?_)
  refine aj.kG 1 (d:=none) (t:=160) (K:=3) (E:=161) (b:=m2) (n:=k) (f:=(mf (bf A ns k))) (x:=(.tmp 48)) (ix:=(.tmp 52)) (y:=(.tmp 53)) (key:=.int .i64 ((nd ns k).id)) (u:=.pointer (some ⟨(aq A),ak A+k * 10,none⟩)) (kl:=(.int .i64 (nd ns k).id)) (n':=k+1) (f':=(mf (bf A ns (k+1)))) (fun _=>by kernel_rfl) (by kernel_rfl) (fun _=>by kernel_rfl) (fun _=>by kernel_rfl) (fun _=>by kernel_rfl) d6 Tryz.underlying160 (by unfold maxLen;omega) (pY (by have:=hu.last;omega) (by omega)) (Mn (hu.below (by omega)) (by omega)) (Qt (hu.below (by omega)) (by omega)) ?_
  refine NN (af.region (gK 8 [(6,vI ↑((eX ns k)+((nd ns k).ah.length)))] [(4,p_ ⟨[.old (.slice (L.eA k) ((nd ns k).ah.length) ((L.eC k)))],none,none,none,none⟩ [(Rd β ⟨(aq A),ak A+k * 10+9,none⟩ (.slice (L.eA k) ((nd ns k).ah.length) ((L.eC k))))] ⟨ay.rd hG (i:=k) (by omega) (j:=9) rfl,trivial⟩),(6,p_ ⟨[],none,none,none,some (vI ↑((eX ns k)+((nd ns k).ah.length)))⟩ [(Value.int .i64 (IntKind.wrap .i64 (((eX ns k:Nat):Int)+(((nd ns k).ah.length:Nat):Int))))=(.int .i64 ↑((eX ns k)+((nd ns k).ah.length)))] ⟨bA (by omega) (by omega) (by omega),trivial⟩)] ?_))
  refine NL (ai.aJ (NX (af.region ?_)))
  refine gK 2 [(19,vI ↑(k+1))] [(0,p_ ⟨[],none,none,none,some (vI ↑(k+1))⟩ [(Value.int .i64 (IntKind.wrap .i64 (((k:Nat):Int)+1)))=(.int .i64 ↑(k+1))] ⟨bA (by omega) (by omega) (by omega),trivial⟩)] ?_
  refine NL ?_
  exact ai.turn ((k+1)) (idx:=[1,4,5,6,18,19]) (pk:=[0,1,2]) (show (((k+1))<=ns.length)/\(p8 ns ((k+1)))/\(eX ns ((k+1))<=((k+1)) * 1048576) from ⟨by omega,hu.step (by omega) (by omega) Qv,by have:=(hd k (by omega)).2;show eX ns k+_<=_;omega⟩) (by show ns.length - ((k+1)) < ns.length - k;omega) (fun _=>by kernel_rfl) rfl (by kernel_rfl)
 refine af.exit (ai.aU (ai.aU (ai.cM (NX (af.seq (SR ?_))))))
 refine gK 2 [(63,.bool (decide ((((eX ns k:Nat):Int):Int) > (8192:Int))))] [] ?_
 refine NN (af.bg (p:=(((eX ns k:Nat):Int):Int) > (8192:Int)) (fun _=>by kernel_rfl) (fun h63=>?_) (fun h63=>?_))
 ·refine SR (gK 2 [(2,.map none),(3,.bool false)] [] ?_)
  refine NN (af.ret (ai.ar ?_))
  exact RT (.tuple #[.map none,.bool false]) [2] (.inr ⟨_,rfl,fun h=>by have h1:=h.sum;rw [show ns.length=k by omega] at h1;omega,rfl⟩)
 refine af.skip (NX (SR (aj.lT (d:=(some 64)) (t:=179) (fun _=>by kernel_rfl) Tryz.prog rfl 3 (fun m3=>?_))))
 refine gK 1 [(9,.map (some m3))] [] ?_
 refine NN (af.seq (SR (aj.bI 3 (p:=.abs (aN Tryz.prog 3 m3 (fun _=>none) 0)) (p':=.abs (aN Tryz.prog 3 m3 (mf (pf ((fM ns 0).map (jj ns)))) ((fM ns 0).length))) (by kernel_rfl) (by rw [Po];rfl) ?_)))
 refine aj.bI 1 (p:=.abs (aN Tryz.prog 3 m2 (mf (bf A ns k)) k)) (p':=.abs (aN Tryz.prog 3 m2 (mf (bf A ns ns.length)) ns.length)) (by kernel_rfl) (by rw [show k=ns.length by omega]) ?_
 refine gK 4 [(67,vI ↑ns.length),(68,vI 0)] [(1,a_ 0 b1)] ?_
 refine NN (af.block ?_)
 have Oq:dh ns:=fun a b hab hb=>hu.rise a b hab (by omega)
 have hsum:eX ns ns.length<=8192:=by rw [show ns.length=k by omega];omega
 refine af.loop (ι:=Nat) (fun (i:Nat)=>(i<=ns.length)/\(∀ a,a < i->∀ j,j < (nd ns a).ah.length->nW ns a j)/\(((fM ns i).map Prod.fst).Nodup)) (fun (i:Nat)=>ns.length - i) (fun (i:Nat)=>[(1,vP b1),(4,.map (some m2)),(9,.map (some m3)),(67,vI ↑ns.length),(68,vI ↑i)]) (fun (i:Nat)=>[.blk b1 [.slice A (ns.length) (c)] 24,.abs (aN Tryz.prog 3 m2 (mf (bf A ns ns.length)) ns.length),.abs (aN Tryz.prog 3 m3 (mf (pf ((fM ns i).map (jj ns)))) ((fM ns i).length)),.abs R]) 0 (idx:=[1,4,9,67,68]) (pk:=[0,1,3,2]) (show (0<=ns.length)/\(∀ a,a < 0->∀ j,j < (nd ns a).ah.length->nW ns a j)/\(((fM ns 0).map Prod.fst).Nodup) from ⟨Nat.zero_le _,fun a ha=>absurd ha (Nat.not_lt_zero a),List.nodup_nil⟩) (fun _=>by kernel_rfl) rfl (by kernel_rfl) ?_
 rintro i ⟨hi,ED,hnd⟩
 show af _ _ _ _ [(1,vP b1),(4,.map (some m2)),(9,.map (some m3)),(67,vI ↑ns.length),(68,vI ↑i)] [.blk b1 [.slice A (ns.length) (c)] 24,.abs (aN Tryz.prog 3 m2 (mf (bf A ns ns.length)) ns.length),.abs (aN Tryz.prog 3 m3 (mf (pf ((fM ns i).map (jj ns)))) ((fM ns i).length)),.abs R] _
 refine SR (gK 1 [(69,.bool (decide ((((i:Nat):Int):Int) < (((ns.length:Nat):Int):Int))))] [] ?_)
 refine NN (af.seq (af.bg (p:=(((i:Nat):Int):Int) < (((ns.length:Nat):Int):Int)) (fun _=>by kernel_rfl) (fun Om=>?_) (fun Om=>?_)))
 ·refine af.skip (NX (af.seq (af.block (SR ?_))))
  refine gK 2 [(10,vI ↑i)] [] ?_
  refine NS (gK 6 [(74,.pointer (some ⟨(aq A),ak A+i * 10,none⟩)),(75,.map (some m2)),(76,.map (some m3))] [(1,a_ 0 b1),(3,p_ ⟨[],some i,none,some ⟨(aq A),ak A,none⟩,none⟩ [((i:Nat):Int)=((i:Nat):Int),i < ns.length,(⟨(aq A),ak A,none⟩:Addr).spot=none,(A:Option Addr)=some ⟨(aq A),ak A,none⟩] ⟨rfl,by omega,rfl,ay.hd hG (i:=i) (by omega),trivial⟩)] ?_)
  refine gL [1,2] (Ml A ns L hG Oq i (by omega) (hd i (by omega)).2 (hwf i (by omega)) (hnm i (by omega)) m2 m3 (fM ns i) (by have:=Fj ns i;have:=ur (ns:=ns) (show i<=ns.length by omega);omega) (fun p hp=>(Ak (by omega) ED p hp).1) hnd) ?_
  rintro _ _ (⟨rfl,hro,rfl⟩|⟨rfl,hro,rfl⟩)
  ·refine gK 1 [(78,.bool false)] [] ?_
   refine NN (CF (af.skip (ai.aJ (NX (af.region ?_)))))
   refine gK 2 [(68,vI ↑(i+1))] [(0,p_ ⟨[],none,none,none,some (vI ↑(i+1))⟩ [(Value.int .i64 (IntKind.wrap .i64 (((i:Nat):Int)+1)))=(.int .i64 ↑(i+1))] ⟨bA (by omega) (by omega) (by omega),trivial⟩)] ?_
   refine NL ?_
   exact ai.turn ((i+1)) (idx:=[1,4,9,67,68]) (pk:=[2,0,1,3]) (show (((i+1))<=ns.length)/\(∀ a,a < ((i+1))->∀ j,j < (nd ns a).ah.length->nW ns a j)/\(((fM ns ((i+1))).map Prod.fst).Nodup) from ⟨by omega,fun a ha=>(by rcases Nat.lt_succ_iff_lt_or_eq.1 ha with h|h;exact ED a h;subst h;exact hro.ah),hro.next⟩) (by show ns.length - ((i+1)) < ns.length - i;omega) (fun _=>by kernel_rfl) rfl (by kernel_rfl)
  refine gK 1 [(78,.bool true)] [] ?_
  refine NN (CT (SR (gK 2 [(2,.map none),(3,.bool false)] [] ?_)))
  refine NN (af.ret (ai.aG (ai.ar (ai.ar (ai.aG (ai.ar ?_))))))
  exact RT (.tuple #[.map none,.bool false]) [1] (.inr ⟨_,rfl,fun h=>hro (h.row (by omega)),rfl⟩)
 refine af.exit (ai.aU (ai.aU (ai.cM (NX (SR ?_)))))
 refine gK 2 [(80,.map (some m2)),(81,.map (some m3))] [] ?_
 refine aj.bI 2 (p:=.abs (aN Tryz.prog 3 m3 (mf (pf ((fM ns i).map (jj ns)))) ((fM ns i).length))) (p':=.abs (aN Tryz.prog 3 m3 (mf (pf ((fM ns i).map (jj ns)))) (((fM ns i).map (jj ns)).length))) (by kernel_rfl) (by rw [List.length_map]) ?_
 refine gL [2] ((Kj m3 ((fM ns i).map (jj ns)) (by rw [List.length_map];have:=Fj ns i;have:=ur (ns:=ns) (show i<=ns.length by omega);omega) (Ko (Ak (by omega) ED) (fun a ha=>hu.ids a (by omega)))).mono (fun v l h=>Qu h)) ?_
 rintro _ _ (⟨rfl,Qw,rfl⟩|⟨rfl,Qw,rfl⟩)
 ·refine gK 2 [(2,.map (some m2)),(3,.bool true)] [] ?_
  refine NN (af.ret ?_)
  exact RT (.tuple #[.map (some m2),.bool true]) [1,2] (.inl ⟨m2,rfl,⟨by omega,fun a ha=>hu.node a (by omega),fun a ha=>hu.ids a (by omega),Oq,by omega,fun a ha=>ED a (by omega),by have:=hnd;rwa [show i=ns.length by omega] at this,by have:=Qw;rwa [show i=ns.length by omega] at this⟩,rfl⟩)
 refine gK 2 [(2,.map (some m2)),(3,.bool false)] [] ?_
 refine NN (af.ret ?_)
 exact RT (.tuple #[.map (some m2),.bool false]) [2] (.inr ⟨_,rfl,fun h=>Qw (by have:=h.ends;rwa [show ns.length=i by omega] at this),rfl⟩)
theorem Mp {β:Bs} (A:Option Addr) (c:Nat) (ns:List aP) (L:Lay) (hG:ay β A ns L) (hl:ns.length<=1048576) (hd:∀ i,i < ns.length->(nd ns i).data.length<=140737488355328/\(nd ns i).ah.length<=1048576) (hwf:∀ i,i < ns.length->∀ j,j < (nd ns i).ah.length->-9223372036854775808<=(ent ns i j).id/\(ent ns i j).id<=9223372036854775807) (hnm:∀ i,i < ns.length->∀ j,j < (nd ns i).ah.length->(ent ns i j).name.size<=1048576) :
    Spec Tryz.prog β 61 #[.agg #[.slice A ns.length c]] [] (fun v l=>v=vI (if bS ns then 0 else 140)/\l=[]):=by
 refine Spec.enter Tryz.func61 rfl Tryz.ntmps61 (Nat.le_of_ble_eq_true rfl) (fun R=>?_)
 refine SR (gN 2 (fun b4=>[(1,vP b4)]) (fun _=>[]) (fun _=>[]) (fun b4=>.blk b4 [.slice A (ns.length) (c)] 24) (fun b4=>?_))
 refine NN (af.seq (SR (gK 1 [(6,.agg #[.slice A (ns.length) (c)])] [(0,a_ 1 b4)] ?_)))
 refine gL [] (Pp A c ns L hG hl hd hwf hnm) ?_
 rintro _ _ (⟨mb,rfl,hok,rfl⟩|⟨m,rfl,hok,rfl⟩)
 ·refine gK 5 [(4,.bool true)] [] ?_
  refine NS (gK 2 [(11,.bool false)] [] ?_)
  refine NN (CF (af.skip (NX (SR (gK 1 [(2,vI 0)] [] ?_)))))
  refine NN (af.ret ?_)
  exact RT (vI 0) [1] (⟨congrArg (Value.int .i64) (if_pos hok).symm,rfl⟩)
 refine gK 5 [(4,.bool false)] [] ?_
 refine NS (gK 2 [(11,.bool true)] [] ?_)
 refine NN (CT (SR (gK 1 [(2,vI 140)] [] ?_)))
 refine NN (af.ret (ai.ar ?_))
 exact RT (vI 140) [0] (⟨congrArg (Value.int .i64) (if_neg hok).symm,rfl⟩)
end
section
open Go.RowKit Go.Maps
def Uv (ed:List (Nat×Nat)) (k:Nat):Int:=match ed.lookup k with|some a=>(a:Int)|none=>-1
structure W6 (n:Nat) (pl:List Int) (ed:List (Nat×Nat)):Prop where
  len:pl.length=n
  at_:∀ k,k < n->pl.getD k 0=Uv ed k
end
section
open Go.RowKit
theorem B0.refl (W:World):(B0 W).le (B0 W):=⟨fun _ h=>h,rfl,rfl,rfl,Nat.le_refl _,fun _ hk=>⟨hk,rfl⟩⟩
theorem Spec.val {P:Program} {β:Bs} {f:FuncId} {args:Array Value} {pre:List HP} {x y:Value} {l0:List HP} (h:Spec P β f args pre (fun v l=>v=x/\l=l0)) (e:x=y):Spec P β f args pre (fun v l=>v=y/\l=l0):=h.mono fun _ _ h=>⟨h.1.trans e,h.2⟩
section gb
variable {ns:List aP} {b:Nat}
variable (h:gn ns 1048576)
include h
end gb
def L0:Lay:=⟨fun _=>none,fun _=>none,fun _=>0,fun _=>0⟩
end
section
open Go.RowKit
structure Th where
  k:Nat
  kind:Int
deriving Inhabited,DecidableEq
abbrev fD (α:Type):=List (ByteArray×α)
structure aV where
  id:Int
  mode:Int
  uid:Int
  gid:Int
  sec:Int
  nano:Int
  links:Int
  opens:Int
  gone:Bool
  kind:Int
  data:List UInt8
  target:ByteArray
  ah:fD Th
  up:Option Nat
deriving Inhabited
abbrev cg:=Nat->aV
def obj (O:cg) (k:Nat):aV:=O k
def aF (O:cg) (k:Nat) (f:aV->aV):cg:=fun i=>if i=k then f (O i) else O i
section upd
variable {O:cg} {k j:Nat} {f g:aV->aV}
theorem bR:obj (aF O k f) k=f (obj O k):=if_pos rfl
theorem cG (h:j≠k):obj (aF O k f) j=obj O j:=if_neg h
theorem kf:obj (aF O k f) j=if j=k then f (obj O j) else obj O j:=rfl
theorem Pq (h:f (obj O k)=obj O k):aF O k f=O:=by
  funext i
  show (if i=k then f (O i) else O i)=O i
  split
  ·rename_i e;subst e;exact h
  rfl
theorem tL:aF (aF O k f) k g=aF O k (fun o=>g (f o)):=by
  funext i
  show (if i=k then g (if i=k then f (O i) else O i) else (if i=k then f (O i) else O i))=if i=k then g (f (O i)) else O i
  split<;>rfl
end upd
section ah
variable {α:Type} {n p:ByteArray} {t:α} {es:fD α}
def aX (n:ByteArray) (es:fD α):Option α:=(es.find? (fun e=>decide (e.1=n))).map (·.2)
def gS (n:ByteArray) (t:α):fD α->fD α
  | []=>[(n,t)]
  | e::r=>if ¬ mh e.1 n then (n,t)::e::r else e::gS n t r
def gq (n:ByteArray) (es:fD α):fD α:=es.filter (fun e=>decide (e.1≠n))
theorem iw {e:ByteArray×α}:aX n (e::es)=if e.1=n then some e.2 else aX n es:=by
  unfold aX
  rw [List.find?_cons]
  by_cases h:e.1=n
  ·rw [if_pos h];simp [h]
  rw [if_neg h];simp [h]
theorem vS:aX n es=none↔∀ e∈es,e.1≠n:=by
  unfold aX
  rw [Option.map_eq_none_iff,List.find?_eq_none]
  simp
theorem mD {es:fD α} (h:aX n es=some t):(n,t)∈es:=by
  unfold aX at h
  obtain⟨e,h1,h2⟩:=Option.map_eq_some_iff.1 h
  have h3:=List.find?_some h1
  have h4:=List.mem_of_find?_eq_some h1
  obtain⟨a,b⟩:=e
  simp at h3 h2
  subst h3 h2
  exact h4
theorem Fk:∀ {es:fD α},(gS n t es).length=es.length+1
  | []=>rfl
  | e::r=>by
    unfold gS
    split
    ·rfl
    rw [List.length_cons,Fk];rfl
theorem xD (hn:aX n es=none):aX p (gS n t es)=if p=n then some t else aX p es:=by
  induction es with
  | nil=>
    rw [gS,iw]
    by_cases h:n=p
    ·rw [if_pos h,if_pos h.symm]
    rw [if_neg h,if_neg (fun e=>h e.symm)]
  | cons e r ih=>
    rw [iw] at hn
    have he:¬ e.1=n:=fun h=>by rw [if_pos h] at hn;cases hn
    rw [if_neg he] at hn
    rw [gS]
    split
    ·rw [iw]
     by_cases h:n=p
     ·rw [if_pos h,if_pos h.symm]
     rw [if_neg h,if_neg (fun e=>h e.symm)]
    rw [iw,ih hn,iw]
    by_cases h:p=n
    ·subst h;rw [if_neg he,if_pos rfl,if_pos rfl]
    rw [if_neg h,if_neg h]
theorem qI:aX p (gq n es)=if p=n then none else aX p es:=by
  induction es with
  | nil=>simp [gq,aX]
  | cons e r ih=>
    unfold gq at ih ⊢
    rw [List.filter_cons]
    by_cases h:e.1=n
    ·rw [if_neg (by simp [h]),ih,iw]
     by_cases hp:p=n
     ·rw [if_pos hp,if_pos hp]
     rw [if_neg hp,if_neg hp,if_neg (fun e2=>hp (e2.symm.trans h))]
    rw [if_pos (by simp [h]),iw,ih,iw]
    by_cases hp:p=n
    ·subst hp;rw [if_neg h,if_pos rfl,if_pos rfl]
    rw [if_neg hp,if_neg hp]
def oG (es:fD α):Prop:=es.Pairwise (fun a b=>a.1≠b.1)
theorem Mq {es:fD α} (hd:oG es) (h:aX n es=some t):(gq n es).length+1=es.length:=by
  induction es with
  | nil=>cases h
  | cons e r ih=>
    obtain⟨h1,h2⟩:=List.pairwise_cons.1 hd
    rw [iw] at h
    unfold gq at ih ⊢
    rw [List.filter_cons]
    by_cases he:e.1=n
    ·rw [if_neg (by simp [he])]
     have:r.filter (fun e=>decide (e.1≠n))=r:=List.filter_eq_self.2 (fun x hx=>by have:=h1 x hx;simp;exact fun e2=>this (he.trans e2.symm))
     rw [this];rfl
    rw [if_pos (by simp [he])]
    rw [if_neg he] at h
    rw [List.length_cons,List.length_cons,ih h2 h]
theorem Al {e:ByteArray×α}:∀ {es:fD α},e∈gS n t es↔e=(n,t)\/e∈es
  | []=>by simp [gS]
  | x::r=>by
    unfold gS
    split
    ·simp
    rw [List.mem_cons,Al,List.mem_cons]
    constructor
    ·rintro (h|h|h)
     ·exact .inr (.inl h)
     ·exact .inl h
     exact .inr (.inr h)
    rintro (h|h|h)
    ·exact .inr (.inl h)
    ·exact .inl h
    exact .inr (.inr h)
end ah
end
section
open Go.RowKit
section sat
variable {β:Bs} {l:List HP} {w:World} {p p1 p2:HP} {i:Nat}
theorem Sat.Sz (h:Sat β l w) (hp:l[i]?=some p) (hs:∀ F,p.h F w->∃ F1 F2,p1.h F1 w/\p2.h F2 w/\Apart F1 F2/\∀ k,F k↔F1 k\/F2 k):Sat β (l.set i p1++[p2]) w:=by
  obtain⟨ho,φ,h1,h2,h3⟩:=h
  obtain⟨F1,F2,g1,g2,g3,g4⟩:=hs _ (h1 i p hp)
  have hi:=bE hp
  have hlen:(l.set i p1++[p2]).length=l.length+1:=by simp
  refine⟨ho,fun j=>if j=l.length then F2 else if j=i then F1 else φ j,fun j q hq=>?_,fun j hj k hk hO=>?_,fun a b ha hb hne k hk hk'=>?_⟩
  ·by_cases e:j=l.length
   ·subst e
    rw [List.getElem?_append_right (by simp)] at hq
    simp at hq
    subst hq
    simpa using g2
   rw [List.getElem?_append_left (by have:=bE hq;rw [hlen] at this;simp;omega)] at hq
   simp only [e,if_false]
   by_cases e2:j=i
   ·subst e2
    rw [List.getElem?_set_self hi] at hq
    cases hq
    simpa using g1
   rw [List.getElem?_set_ne (fun e'=>e2 e'.symm)] at hq
   simp only [e2,if_false]
   exact h1 j q hq
  ·rw [hlen] at hj
   have hF:∀ k,F1 k\/F2 k->β.O k->False:=fun k hk hO=>h2 i hi k ((g4 k).2 hk) hO
   by_cases e:j=l.length
   ·simp only [e,if_true] at hk;exact hF k (.inr hk) hO
   simp only [e,if_false] at hk
   by_cases e2:j=i
   ·simp only [e2,if_true] at hk;exact hF k (.inl hk) hO
   simp only [e2,if_false] at hk;exact h2 j (by omega) k hk hO
  rw [hlen] at ha hb
  have key:∀ j,j < l.length->j≠i->∀ k,F1 k\/F2 k->φ j k->False:=fun j hj hne k hk hk'=>h3 j i hj hi hne k hk' ((g4 k).2 hk)
  by_cases ea:a=l.length
  ·simp only [ea,if_true] at hk
   have eb:¬ b=l.length:=fun e=>hne (ea.trans e.symm)
   simp only [eb,if_false] at hk'
   by_cases BH:b=i
   ·simp only [BH,if_true] at hk';exact g3 k hk' hk
   simp only [BH,if_false] at hk';exact key b (by omega) BH k (.inr hk) hk'
  simp only [ea,if_false] at hk
  by_cases Kp:a=i
  ·simp only [Kp,if_true] at hk
   by_cases eb:b=l.length
   ·simp only [eb,if_true] at hk';exact g3 k hk hk'
   simp only [eb,if_false] at hk'
   have BH:¬ b=i:=fun e=>hne (Kp.trans e.symm)
   simp only [BH,if_false] at hk'
   exact key b (by omega) BH k (.inl hk) hk'
  simp only [Kp,if_false] at hk
  by_cases eb:b=l.length
  ·simp only [eb,if_true] at hk';exact key a (by omega) Kp k (.inr hk') hk
  simp only [eb,if_false] at hk'
  by_cases BH:b=i
  ·simp only [BH,if_true] at hk';exact key a (by omega) Kp k (.inl hk') hk
  simp only [BH,if_false] at hk';exact h3 a b (by omega) (by omega) hne k hk hk'
theorem Sat.Ot {j:Nat} {idx:List Nat} {l':List HP} (h:Sat β l w) (hp:l[i]?=some p1) (hq:l[j]?=some p2) (hn:bC (i::j::idx)=true) (hl:bU l idx=some l') (hs:∀ F1 F2,p1.h F1 w->p2.h F2 w->Apart F1 F2->∃ F,p.h F w/\∀ k,F k->F1 k\/F2 k):Sat β (p::l') w:=by
  have h':=h.pick (idx:=i::j::idx) (l':=p1::p2::l') hn (by simp only [bU,hp,hq,hl])
  obtain⟨ho,φ,h1,h2,h3⟩:=h'
  obtain⟨F,hF,hk⟩:=hs _ _ (h1 0 p1 rfl) (h1 1 p2 rfl) (h3 0 1 (by simp) (by simp) (by decide))
  have hlen:(p1::p2::l').length=l'.length+2:=rfl
  rw [hlen] at h2 h3
  refine⟨ho,fun j=>if j=0 then F else φ (j+1),fun j q hq=>?_,fun j hj k hkk hO=>?_,fun a b ha hb hne k hk1 hk2=>?_⟩
  ·cases j with
   | zero=>simp at hq;subst hq;simpa using hF
   | succ j=>simpa using h1 (j+2) q (by simpa using hq)
  ·simp only [List.length_cons] at hj
   cases j with
   | zero=>
     simp only [if_true] at hkk
     rcases hk k hkk with e|e
     ·exact h2 0 (by omega) k e hO
     exact h2 1 (by omega) k e hO
   | succ j=>exact h2 (j+2) (by omega) k (by simpa using hkk) hO
  simp only [List.length_cons] at ha hb
  have key:∀ j,j < l'.length->F k->φ (j+2) k->False:=fun j hj e1 e2=>by
    rcases hk k e1 with e|e
    ·exact h3 0 (j+2) (by omega) (by omega) (by omega) k e e2
    exact h3 1 (j+2) (by omega) (by omega) (by omega) k e e2
  cases a with
  | zero=>
    cases b with
    | zero=>exact hne rfl
    | succ b=>exact key b (by omega) (by simpa using hk1) (by simpa using hk2)
  | succ a=>
    cases b with
    | zero=>exact key a (by omega) (by simpa using hk2) (by simpa using hk1)
    | succ b=>exact h3 (a+2) (b+2) (by omega) (by omega) (by omega) k (by simpa using hk1) (by simpa using hk2)
end sat
def ju (R:Nat->cE) (n:Nat):cE where
  h F w:=∃ φ:Nat->Fp,(∀ i,i < n->(R i).h (φ i) w)/\(∀ i j,i < n->j < n->i≠j->Apart (φ i) (φ j))/\∀ k,F k↔∃ i,i < n/\φ i k
  lt:=fun ⟨_,h1,_,h3⟩ k hk=>let ⟨i,hi,hk⟩:=(h3 k).1 hk;(R i).lt (h1 i hi) k hk
  st:=fun ⟨φ,h1,h2,h3⟩ _ _ hk hn=>⟨φ,fun i hi=>(R i).st (h1 i hi) hk (fun k hk=>hn k ((h3 k).2 ⟨i,hi,hk⟩)),h2,h3⟩
def cE.none:cE where
  h F _:=∀ k,¬ F k
  lt:=fun h k hk=>absurd hk (h k)
  st:=fun h _ _ _ _=>h
def kg (R:Nat->cE) (k:Nat) (a:cE):Nat->cE:=fun i=>if i=k then a else R i
section Kq
variable {β:Bs} {l l':List HP} {w:World} {i n k:Nat} {R R':Nat->cE} {a:cE}
theorem ju.nil (R:Nat->cE) (w:World):(HP.abs (ju R 0)).h (fun _=>False) w:=⟨fun _ _=>False,fun i hi=>absurd hi (Nat.not_lt_zero i),fun i _ hi=>absurd hi (Nat.not_lt_zero i),fun _=>⟨fun h=>h.elim,fun ⟨i,hi,_⟩=>absurd hi (Nat.not_lt_zero i)⟩⟩
theorem Sat.Kr (h:Sat β l w) (R:Nat->cE):Sat β (l++[.abs (ju R 0)]) w:=Sat.new h (ju.nil R w) (Keeps.refl _ _) (fun _ h=>h.elim)
theorem Sat.si {j:Nat} {idx:List Nat} (h:Sat β l w) (hp:l[i]?=some (.abs (ju R n))) (hq:l[j]?=some (.abs a)) (hn:bC (i::j::idx)=true) (hl:bU l idx=some l') (hR:∀ x,x < n->R' x=R x) (ha:R' n=a):Sat β (.abs (ju R' (n+1))::l') w:=by
  refine h.Ot hp hq hn hl ?_
  rintro F1 F2 ⟨φ,h1,h2,h3⟩ hF hap
  refine⟨fun x=>F1 x\/F2 x,⟨fun i=>if i=n then F2 else φ i,fun i hi=>?_,fun i j hi hj hne x hx hy=>?_,fun x=>⟨fun hx=>?_,fun ⟨i,hi,hx⟩=>?_⟩⟩,fun x hx=>hx⟩
  ·by_cases e:i=n
   ·subst e;simp only [if_true];rw [ha];exact hF
   simp only [e,if_false];rw [hR i (by omega)];exact h1 i (by omega)
  ·by_cases e1:i=n
   ·by_cases e2:j=n
    ·exact hne (e1.trans e2.symm)
    simp only [e1,if_true] at hx
    simp only [e2,if_false] at hy
    exact hap x ((h3 x).2 ⟨j,by omega,hy⟩) hx
   simp only [e1,if_false] at hx
   by_cases e2:j=n
   ·simp only [e2,if_true] at hy
    exact hap x ((h3 x).2 ⟨i,by omega,hx⟩) hy
   simp only [e2,if_false] at hy
   exact h2 i j (by omega) (by omega) hne x hx hy
  ·rcases hx with hx|hx
   ·obtain⟨i,hi,hx⟩:=(h3 x).1 hx
    exact⟨i,by omega,by simpa [Nat.ne_of_lt hi] using hx⟩
   exact⟨n,Nat.lt_succ_self n,by simpa using hx⟩
  by_cases e:i=n
  ·exact .inr (by simpa [e] using hx)
  exact .inl ((h3 x).2 ⟨i,by omega,by simpa [e] using hx⟩)
theorem ju.base {F:Fp} {β':Bs} (h:(HP.abs (ju R n)).h F w) (h1:∀ k,F k->β'.O k) (_:β'.w0=w) {Φ:Nat->Bs->Prop} (xg:∀ i,i < n->∀ F,(R i).h F w->(∀ k,F k->β'.O k)->Φ i β'):∀ i,i < n->Φ i β':=by
  obtain⟨φ,g1,_,g3⟩:=h
  exact fun i hi=>xg i hi (φ i) (g1 i hi) (fun k hk=>h1 k ((g3 k).2 ⟨i,hi,hk⟩))
end Kq
section vM
variable {P:Program} {β:Bs} {N:Nat} {ops:Array Oper} {S:List HP} {l:List Nat} {fr:Fr} {hps:List HP} {Q:Post} {i:Nat}
def Qx (β:Bs) (N:Nat) {ι:Type} (B:ι->Bs) (Φ:ι->Prop) (fr:ι->Fr) (hp:ι->List HP):Post:=fun _ a w=>∃ i junk,β.le (B i)/\Φ i/\a=cx N (fr i) junk/\Sat (B i) (hp i) w
theorem ai.I3 {uK:Bs} {ι:Type} {B:ι->Bs} {Φ:ι->Prop} {fr':ι->Fr} {hp':ι->List HP} (j:ι) {idx pk:List Nat} (hb:B j=β) (hle:uK.le β) (xg:Φ j) (hf:∀ junk,jg fr junk idx=fr' j) (hn:bC pk=true) (hp:bU hps pk=some (hp' j)):ai β N (NP (Qx uK N B Φ fr' hp')) .normal fr hps:=by
  subst hb
  exact fun junk _ hS=>⟨j,lk fr junk,hle,xg,by rw [jE N fr junk idx,hf junk],hS.pick hn hp⟩
end vM
end
section
open Go.RowKit
structure q6 (β:Bs) (R:List HP) (β':Bs):Prop where
  le:β.le β'
  fp:∃ φ:Nat->Fp,(∀ (i:Nat) (p:HP),R[i]?=some p->p.h (φ i) β'.w0/\∀ k,φ i k->β'.O k)/\(∀ i,i < R.length->∀ k,φ i k->¬ β.O k)/\(∀ i j,i < R.length->j < R.length->i≠j->Apart (φ i) (φ j))/\∀ k,β'.O k->β.O k\/∃ i,i < R.length/\φ i k
section Uw
variable {β β' Oj:Bs} {l R:List HP} {w:World} {p:HP} {i:Nat}
theorem q6.get (h:q6 β R β') (i:Nat) (hp:R[i]?=some p):∃ F,p.h F β'.w0/\∀ k,F k->β'.O k:=by
  obtain⟨φ,h1,_⟩:=h.fp
  exact⟨φ i,h1 i p hp⟩
theorem Sat.turn {a b:List HP} (h:Sat β (a++b) w):Sat β (b++a) w:=by
  obtain⟨ho,φ,h1,h2,h3⟩:=h
  have hl:(a++b).length=a.length+b.length:=List.length_append
  have hl':(b++a).length=b.length+a.length:=List.length_append
  refine⟨ho,fun i=>if i < b.length then φ (a.length+i) else φ (i - b.length),fun i p hp=>?_,fun i hi k hk hO=>?_,fun i j hi hj hne k hk hk'=>?_⟩
  ·have hi:=bE hp
   by_cases e:i < b.length
   ·simp only [e,if_true]
    rw [List.getElem?_append_left e] at hp
    exact h1 _ p (by rw [List.getElem?_append_right (by omega)];simpa using hp)
   simp only [e,if_false]
   rw [List.getElem?_append_right (by omega)] at hp
   exact h1 _ p (by rw [List.getElem?_append_left (by omega)];exact hp)
  ·by_cases e:i < b.length
   ·simp only [e,if_true] at hk
    exact h2 _ (by omega) k hk hO
   simp only [e,if_false] at hk
   exact h2 _ (by omega) k hk hO
  by_cases e1:i < b.length
  ·simp only [e1,if_true] at hk
   by_cases e2:j < b.length
   ·simp only [e2,if_true] at hk'
    exact h3 _ _ (by omega) (by omega) (by omega) k hk hk'
   simp only [e2,if_false] at hk'
   exact h3 _ _ (by omega) (by omega) (by omega) k hk hk'
  simp only [e1,if_false] at hk
  by_cases e2:j < b.length
  ·simp only [e2,if_true] at hk'
   exact h3 _ _ (by omega) (by omega) (by omega) k hk hk'
  simp only [e2,if_false] at hk'
  exact h3 _ _ (by omega) (by omega) (by omega) k hk hk'
theorem Sat.Am (h:Sat β (l++R) w):∃ β',q6 β R β'/\β'.w0=w/\Sat β' l w:=by
  obtain⟨ho,φ,h1,h2,h3⟩:=h
  have hl:(l++R).length=l.length+R.length:=List.length_append
  have hR:∀ (i:Nat) (p:HP),R[i]?=some p->p.h (φ (l.length+i)) w:=fun i p hp=>h1 _ p (by rw [List.getElem?_append_right (by omega)];simpa using hp)
  refine⟨⟨fun k=>β.O k\/∃ i,i < R.length/\φ (l.length+i) k,w⟩,⟨⟨fun k hk=>.inl hk,ho.os,ho.tape,ho.output,ho.size,fun k hk=>ho.old k hk⟩,fun i=>φ (l.length+i),fun i p hp=>⟨hR i p hp,fun k hk=>.inr ⟨i,bE hp,hk⟩⟩,fun i hi=>h2 _ (by omega),fun i j hi hj hne=>h3 _ _ (by omega) (by omega) (by omega),fun k hk=>hk⟩,rfl,⟨rfl,rfl,rfl,Nat.le_refl _,fun k hk=>⟨?_,rfl⟩⟩,φ,fun i p hp=>h1 i p (by rw [List.getElem?_append_left (bE hp)];exact hp),fun i hi k hk hO=>?_,fun i j hi hj hne=>h3 i j (by omega) (by omega) hne⟩
  ·rcases hk with hk|⟨i,hi,hk⟩
   ·exact Nat.lt_of_lt_of_le (ho.old k hk).1 ho.size
   obtain⟨p,hp⟩:=iV hi
   exact HP.lt (hR i p hp) k hk
  rcases hO with hO|⟨j,hj,hO⟩
  ·exact h2 i (by omega) k hk hO
  exact h3 i (l.length+j) (by omega) (by omega) (by omega) k hk hO
theorem q6.back (h:q6 β R β') (hS:Sat β' l w):Sat β (l++R) w:=by
  obtain⟨hle,φ,g1,g2,g3,g4⟩:=h
  obtain⟨ho,ψ,h1,h2,h3⟩:=hS
  have hl:(l++R).length=l.length+R.length:=List.length_append
  have hin:∀ i,i < R.length->∀ k,φ i k->β'.O k:=fun i hi k hk=>by
    obtain⟨p,hp⟩:=iV hi
    exact (g1 i p hp).2 k hk
  have hk:∀ i,i < R.length->Keeps (fun k=>¬ φ i k) β'.w0 w:=fun i hi=>⟨ho.os,ho.tape,ho.output,ho.size,fun k _ hn=>(ho.old k (hin i hi k (Classical.not_not.1 hn))).2⟩
  refine⟨ho.le hle,fun i=>if i < l.length then ψ i else φ (i - l.length),fun i p hp=>?_,fun i hi k hk hO=>?_,fun i j hi hj hne k hk hk'=>?_⟩
  ·by_cases e:i < l.length
   ·rw [List.getElem?_append_left e] at hp
    simp only [e,if_true]
    exact h1 i p hp
   rw [List.getElem?_append_right (by omega)] at hp
   simp only [e,if_false]
   exact HP.st (g1 _ p hp).1 (hk _ (bE hp)) (fun k h=>fun h'=>h' h)
  ·by_cases e:i < l.length
   ·simp only [e,if_true] at hk
    exact h2 i e k hk (hle.O k hO)
   simp only [e,if_false] at hk
   exact g2 _ (by omega) k hk hO
  by_cases e1:i < l.length
  ·simp only [e1,if_true] at hk
   by_cases e2:j < l.length
   ·simp only [e2,if_true] at hk'
    exact h3 i j e1 e2 hne k hk hk'
   simp only [e2,if_false] at hk'
   exact h2 i e1 k hk (hin _ (by omega) k hk')
  simp only [e1,if_false] at hk
  by_cases e2:j < l.length
  ·simp only [e2,if_true] at hk'
   exact h2 j e2 k hk' (hin _ (by omega) k hk)
  simp only [e2,if_false] at hk'
  exact g3 _ _ (by omega) (by omega) (by omega) k hk hk'
end Uw
section rules
variable {P:Program} {β β' Oj:Bs} {N:Nat} {ops:Array Oper} {k:Nat} {fr:Fr} {hps l R:List HP} {Q:Post} {c:Code} {e:Exit} {pk:List Nat} {f:FuncId} {args:Array Value} {pre:List HP}
end rules
end
section
open Go.RowKit
def ax (R:Nat->cE):cE where
  h F w:=∃ φ:Nat->Fp,(∀ i,(R i).h (φ i) w)/\(∀ i j,i≠j->Apart (φ i) (φ j))/\∀ k,F k↔∃ i,φ i k
  lt:=fun ⟨_,h1,_,h3⟩ k hk=>let ⟨i,hk⟩:=(h3 k).1 hk;(R i).lt (h1 i) k hk
  st:=fun ⟨φ,h1,h2,h3⟩ _ _ hk hn=>⟨φ,fun i=>(R i).st (h1 i) hk (fun k hk=>hn k ((h3 k).2 ⟨i,hk⟩)),h2,h3⟩
section Kq
variable {β:Bs} {l l':List HP} {w:World} {i n k:Nat} {R R':Nat->cE} {a:cE}
theorem ax.at (k:Nat) {F:Fp} {w:World} (h:(ax R).h F w):∃ G,(R k).h G w:=by
  obtain⟨φ,h1,_⟩:=h
  exact⟨φ k,h1 k⟩
theorem Sat.EF (h:Sat β l w) (R:Nat->cE) (hR:∀ k,R k=cE.none):Sat β (l++[.abs (ax R)]) w:=Sat.new h (p:=.abs (ax R)) (F:=fun _=>False) ⟨fun _ _=>False,fun i=>by rw [hR];exact fun _ h=>h,fun _ _ _ _ h=>h.elim,fun _=>⟨fun h=>h.elim,fun ⟨_,h⟩=>h⟩⟩ (Keeps.refl _ _) (fun _ h=>h.elim)
theorem Sat.BI (h:Sat β l w) (hp:l[i]?=some (.abs (ax R))) (k:Nat):Sat β (l.set i (.abs (ax (kg R k cE.none)))++[.abs (R k)]) w:=by
  refine h.Sz hp ?_
  rintro F ⟨φ,h1,h2,h3⟩
  refine⟨fun x=>∃ i,i≠k/\φ i x,φ k,⟨fun i=>if i=k then fun _=>False else φ i,fun i=>?_,fun i j hne x hx hy=>?_,fun x=>⟨fun ⟨i,hne,hx⟩=>⟨i,by simpa [hne] using hx⟩,fun ⟨i,hx⟩=>?_⟩⟩,h1 k,fun x ⟨i,hne,hx⟩ hy=>h2 i k hne x hx hy,fun x=>⟨fun hx=>?_,fun hx=>?_⟩⟩
  ·unfold kg
   by_cases e:i=k
   ·simp only [e,if_true];exact fun _ h=>h
   simp only [e,if_false];exact h1 i
  ·by_cases e1:i=k
   ·simp [e1] at hx
   by_cases e2:j=k
   ·simp [e2] at hy
   exact h2 i j hne x (by simpa [e1] using hx) (by simpa [e2] using hy)
  ·by_cases e1:i=k
   ·simp [e1] at hx
   exact⟨i,e1,by simpa [e1] using hx⟩
  ·obtain⟨i,hx⟩:=(h3 x).1 hx
   by_cases e:i=k
   ·exact .inr (e ▸ hx)
   exact .inl ⟨i,e,hx⟩
  rcases hx with ⟨i,_,hx⟩|hx
  ·exact (h3 x).2 ⟨i,hx⟩
  exact (h3 x).2 ⟨k,hx⟩
theorem Sat.qw {j:Nat} {idx:List Nat} {q:HP} (h:Sat β l w) (hp:l[i]?=some (.abs (ax R))) (hq:l[j]?=some q) (Vq:∀ F w,q.h F w->a.h F w) (hn:bC (i::j::idx)=true) (hl:bU l idx=some l') (k:Nat) (hR:∀ x,x≠k->R' x=R x) (ha:R' k=a):Sat β (.abs (ax R')::l') w:=by
  refine h.Ot hp hq hn hl ?_
  rintro F1 F2 ⟨φ,h1,h2,h3⟩ hF hap
  refine⟨fun x=>(∃ i,i≠k/\φ i x)\/F2 x,⟨fun i=>if i=k then F2 else φ i,fun i=>?_,fun i j hne x hx hy=>?_,fun x=>⟨fun hx=>?_,fun ⟨i,hx⟩=>?_⟩⟩,fun x hx=>hx.imp (fun ⟨i,_,hx⟩=>(h3 x).2 ⟨i,hx⟩) id⟩
  ·by_cases e:i=k
   ·subst e;simp only [if_true];rw [ha];exact Vq _ _ hF
   simp only [e,if_false];rw [hR i e];exact h1 i
  ·by_cases e1:i=k
   ·by_cases e2:j=k
    ·exact hne (e1.trans e2.symm)
    simp only [e1,if_true] at hx
    simp only [e2,if_false] at hy
    exact hap x ((h3 x).2 ⟨j,hy⟩) hx
   simp only [e1,if_false] at hx
   by_cases e2:j=k
   ·simp only [e2,if_true] at hy
    exact hap x ((h3 x).2 ⟨i,hx⟩) hy
   simp only [e2,if_false] at hy
   exact h2 i j hne x hx hy
  ·rcases hx with ⟨i,hne,hx⟩|hx
   ·exact⟨i,by simpa [hne] using hx⟩
   exact⟨k,by simpa using hx⟩
  by_cases e:i=k
  ·exact .inr (by simpa [e] using hx)
  exact .inl ⟨i,e,by simpa [e] using hx⟩
end Kq
end
section
open Go.RowKit Go.Maps
theorem Ap:Keyed Tryz.prog 9:=string_keyed Tryz.underlying9
theorem CY {p:ByteArray} (h:p.size<=9223372036854775807):keyOf Tryz.prog 9 (.string p)=some (.string p.data.toList):=WideMaps.keyOf_string_mk Tryz.underlying9 (by unfold maxLen;omega)
def mS (g:ByteArray->Option Value):Lit->Option Value
  | .string l=>g ⟨l.toArray⟩
  | _=>none
theorem SB (g:ByteArray->Option Value) (p:ByteArray):mS g (.string p.data.toList)=g p:=by
  show g ⟨p.data.toList.toArray⟩=g p
  rw [Array.toArray_toList]
theorem Kt (g:ByteArray->Option Value) (p:ByteArray) (v:Option Value):upd (mS g) (.string p.data.toList) v=mS (fun q=>if q=p then v else g q):=by
  funext x
  unfold upd mS
  cases x with
  | string l=>
    by_cases e:l=p.data.toList
    ·subst e
     have e2:(⟨p.data.toList.toArray⟩:ByteArray)=p:=by rw [Array.toArray_toList]
     simp [Lit.sameKey]
    have e2:¬ (⟨l.toArray⟩:ByteArray)=p:=fun h=>e (by rw [← h])
    simp [Lit.sameKey,e,e2]
  | _=>rfl
theorem Pr:mS (fun _=>none)=fun _=>none:=by
  funext x
  unfold mS
  split<;>rfl
end
section
open Go.RowKit Go.Maps
def Au (b:Nat) (cs:List Value) (T:TypeId):cE where
  h F w:=(HP.blk b cs T).h F w
  lt:=fun h=>HP.lt h
  st:=fun h _ _ hk hd=>HP.st h hk hd
structure HL where
  b:Nat->Nat
  m:Nat->Nat
  dA:Nat->Option Addr
  dC:Nat->Nat
def HL.data (L:HL) (k:Nat) (A:Option Addr) (c:Nat):HL:=⟨L.b,L.m,fun i=>if i=k then A else L.dA i,fun i=>if i=k then c else L.dC i⟩
def HL.put (L:HL) (k b m:Nat) (A:Option Addr) (c:Nat):HL:=⟨fun i=>if i=k then b else L.b i,fun i=>if i=k then m else L.m i,fun i=>if i=k then A else L.dA i,fun i=>if i=k then c else L.dC i⟩
def Tj (kind:Int):TypeId:=if kind=1 then 129 else if kind=3 then 132 else 135
def ko (kind:Int):TypeId:=if kind=1 then 131 else if kind=3 then 134 else 138
def dQ (L:HL) (t:Th):Value:=.iface (Tj t.kind) (.pointer (some ⟨L.b t.k,0,none⟩))
def uL (L:HL):Option Nat->Value
  | none=>.pointer none
  | some d=>.pointer (some ⟨L.b d,0,none⟩)
def yU (o:aV):List Value:=[.int .i64 o.id,.int .i64 o.mode,.int .i64 o.uid,.int .i64 o.gid,.int .i64 o.sec,.int .i64 o.nano,.int .i64 o.links,.int .i64 o.opens,.bool o.gone]
def yV (L:HL) (k:Nat) (o:aV):List Value:=if o.kind=1 then [.slice (L.dA k) o.data.length (L.dC k)] else if o.kind=3 then [.string o.target] else [.map (some (L.m k)),uL L o.up]
def gu (L:HL) (k:Nat) (o:aV):List Value:=yU o++yV L k o
def iG (L:HL) (es:fD Th):Lit->Option Value:=mS (fun p=>(aX p es).map (dQ L))
def bM (O:cg) (L:HL) (k:Nat):cE:=if (obj O k).kind=0 then cE.none else Au (L.b k) (gu L k (obj O k)) (ko (obj O k).kind)
def bN (O:cg) (L:HL) (k:Nat):cE:=if (obj O k).kind=1 then av 5 1 (L.dA k) (obj O k).data.length (L.dC k) (bZ (obj O k).data) else cE.none
def cF (O:cg) (L:HL) (k:Nat):cE:=if (obj O k).kind=2 then aN Tryz.prog 9 (L.m k) (iG L (obj O k).ah) (obj O k).ah.length else cE.none
section sat
variable {β:Bs} {l:List HP} {w:World} {i b:Nat} {cs:List Value} {T:TypeId} {p p':HP}
theorem Sat.same (h:Sat β l w) (hp:l[i]?=some p) (e:∀ F w,p.h F w->p'.h F w):Sat β (l.set i p') w:=by
  obtain⟨ho,φ,h1,h2,h3⟩:=h
  have hl:(l.set i p').length=l.length:=List.length_set ..
  refine⟨ho,φ,fun j q hq=>?_,fun j hj=>h2 j (by omega),fun j k hj hk=>h3 j k (by omega) (by omega)⟩
  by_cases hji:i=j
  ·subst hji
   rw [List.getElem?_set_self (bE hp)] at hq
   cases hq
   exact e _ _ (h1 _ p hp)
  rw [List.getElem?_set_ne hji] at hq
  exact h1 j q hq
end sat
section cells
variable {O:cg} {L:HL} {k j:Nat} {v:Value}
theorem lg (h:(obj O k).kind≠0):bM O L k=Au (L.b k) (gu L k (obj O k)) (ko (obj O k).kind):=if_neg h
theorem d8 (hk:(obj O k).kind≠0) (hv:(gu L k (obj O k))[j]?=some v):∀ F w,(ax (bM O L)).h F w->w.cell? ⟨L.b k,j,none⟩=some v:=by
  intro F w h
  obtain⟨G,g⟩:=ax.at k h
  rw [lg hk] at g
  obtain⟨g,_⟩:=g
  exact (gI g rfl rfl hv).1
theorem sK (h:(obj O k).kind=1):bN O L k=av 5 1 (L.dA k) (obj O k).data.length (L.dC k) (bZ (obj O k).data):=if_pos h
theorem oH (h:(obj O k).kind=2):cF O L k=aN Tryz.prog 9 (L.m k) (iG L (obj O k).ah) (obj O k).ah.length:=if_pos h
theorem sj (es:fD Th) (p:ByteArray):iG L es (.string p.data.toList)=(aX p es).map (dQ L):=SB _ _
theorem Mr {es:fD Th} {p:ByteArray} {t:Th} (hn:aX p es=none):upd (iG L es) (.string p.data.toList) (some (dQ L t))=iG L (gS p t es):=by
  unfold iG
  rw [Kt]
  congr 1
  funext q
  rw [xD hn]
  by_cases h:q=p
  ·rw [if_pos h,if_pos h];rfl
  rw [if_neg h,if_neg h]
theorem Ms {es:fD Th} {p:ByteArray}:upd (iG L es) (.string p.data.toList) none=iG L (gq p es):=by
  unfold iG
  rw [Kt]
  congr 1
  funext q
  rw [qI]
  by_cases h:q=p
  ·rw [if_pos h,if_pos h];rfl
  rw [if_neg h,if_neg h]
theorem Mt:iG L []=fun _=>none:=Pr
end cells
section Kq
variable {O:cg} {L:HL} {k:Nat} {f:aV->aV}
theorem uM:bM (aF O k f) L k=if (f (obj O k)).kind=0 then cE.none else Au (L.b k) (gu L k (f (obj O k))) (ko (f (obj O k)).kind):=by
  unfold bM;rw [bR]
theorem uN {x:Nat} (h:x≠k):bM (aF O k f) L x=bM O L x:=by unfold bM;rw [cG h]
theorem mZ (h:(f (obj O k)).data=(obj O k).data) (h2:(f (obj O k)).kind=(obj O k).kind):bN (aF O k f) L=bN O L:=by
  funext x
  unfold bN
  by_cases e:x=k
  ·subst e;rw [bR,h,h2]
  rw [cG e]
theorem ng (h:(f (obj O k)).ah=(obj O k).ah) (h2:(f (obj O k)).kind=(obj O k).kind):cF (aF O k f) L=cF O L:=by
  funext x
  unfold cF
  by_cases e:x=k
  ·subst e;rw [bR,h,h2]
  rw [cG e]
theorem xE {x:Nat} (h:x≠k):cF (aF O k f) L x=cF O L x:=by unfold cF;rw [cG h]
theorem xG {x:Nat} (h:x≠k):bN (aF O k f) L x=bN O L x:=by unfold bN;rw [cG h]
end Kq
end
section
open Go.RowKit Go.Maps
section kinds
variable {O:cg} {L:HL} {k j:Nat} {f:aV->aV} {o:aV}
theorem jJ (hf:∀ o,(f o).kind=o.kind):(obj (aF O j f) k).kind=(obj O k).kind:=by
  rw [kf];split
  ·exact hf _
  rfl
theorem dR {α:Type} {g:aV->α} (hf:∀ o,g (f o)=g o):g (obj (aF O j f) k)=g (obj O k):=by
  rw [kf];split
  ·exact hf _
  rfl
theorem gY (h:o.kind=1):gu L k o=[.int .i64 o.id,.int .i64 o.mode,.int .i64 o.uid,.int .i64 o.gid,.int .i64 o.sec,.int .i64 o.nano,.int .i64 o.links,.int .i64 o.opens,.bool o.gone,.slice (L.dA k) o.data.length (L.dC k)]:=by
  unfold gu yV;rw [if_pos h];rfl
theorem xH (h:o.kind=3):gu L k o=[.int .i64 o.id,.int .i64 o.mode,.int .i64 o.uid,.int .i64 o.gid,.int .i64 o.sec,.int .i64 o.nano,.int .i64 o.links,.int .i64 o.opens,.bool o.gone,.string o.target]:=by
  unfold gu yV;rw [if_neg (by rw [h];decide),if_pos h];rfl
theorem lp (h:o.kind=2):gu L k o=[.int .i64 o.id,.int .i64 o.mode,.int .i64 o.uid,.int .i64 o.gid,.int .i64 o.sec,.int .i64 o.nano,.int .i64 o.links,.int .i64 o.opens,.bool o.gone,.map (some (L.m k)),uL L o.up]:=by
  unfold gu yV;rw [if_neg (by rw [h];decide),if_neg (by rw [h];decide)];rfl
theorem Fl {es:aV->fD Th}:bM (aF O k (fun o=>{ o with ah:=es o })) L=bM O L:=by
  funext x
  unfold bM
  by_cases e:x=k
  ·subst e;rw [bR];rfl
  rw [cG e]
def o5 (O:cg) (d:Nat) (name:ByteArray) (t:Th):cg:=
  let O1:=aF O d (fun o=>{ o with ah:=gS name t o.ah })
  let O2:=aF O1 t.k (fun o=>{ o with links:=o.links+1 })
  if t.kind=2 then aF O2 t.k (fun o=>{ o with up:=some d }) else O2
theorem Av {α:Type} {g:aV->α} {d:Nat} {name:ByteArray} {t:Th} (h1:∀ o es,g { o with ah:=es }=g o) (h2:∀ o l,g { o with links:=l }=g o) (h3:∀ o u,g { o with up:=u }=g o):g (obj (o5 O d name t) k)=g (obj O k):=by
  unfold o5
  simp only
  split
  ·rw [dR (fun o=>h3 o _),dR (fun o=>h2 o _),dR (fun o=>h1 o _)]
  rw [dR (fun o=>h2 o _),dR (fun o=>h1 o _)]
theorem xI {d:Nat} {name:ByteArray} {t:Th}:(obj (o5 O d name t) k).kind=(obj O k).kind:=Av (g:=aV.kind) (fun _ _=>rfl) (fun _ _=>rfl) (fun _ _=>rfl)
structure FM where
  cN:Int
  cB:Int
  cH:Int
  cS:Int
  cZ:Int
  last:Int
  ah:Int
  used:Int
def qJ (X:FM) (O:cg) (d:Nat):cg:=aF O d (fun o=>{ o with sec:=X.cS,nano:=X.cZ })
def di (X:FM) (O:cg) (d:Nat) (name:ByteArray) (t:Th):cg:=qJ X (o5 O d name t) d
def aT (X:FM) (O:cg) (d:Nat) (name:ByteArray) (t:Th):cg:=aF (qJ X (aF O d (fun o=>{ o with ah:=gq name o.ah })) d) t.k (fun o=>{ o with links:=o.links - 1 })
theorem cU {X:FM} {d:Nat} {name:ByteArray} {t:Th}:(obj (aT X O d name t) k).kind=(obj O k).kind:=by
  unfold aT qJ
  exact (jJ (f:=fun o=>{ o with links:=o.links - 1 }) (fun _=>rfl)).trans ((jJ (f:=fun o=>{ o with sec:=X.cS,nano:=X.cZ }) (fun _=>rfl)).trans (jJ (f:=fun o=>{ o with ah:=gq name o.ah }) (fun _=>rfl)))
theorem GL {X:FM} {d:Nat} {name:ByteArray} {t:Th}:(obj (di X O d name t) k).kind=(obj O k).kind:=by
  unfold di qJ
  exact (jJ (f:=fun o=>{ o with sec:=X.cS,nano:=X.cZ }) (fun _=>rfl)).trans xI
end kinds
section sat
variable {β:Bs} {l l':List HP} {w:World} {i j k:Nat} {O:cg} {L:HL} {f:aV->aV} {cs:List Value} {T:TypeId} {idx:List Nat}
theorem Sat.xJ (h:Sat β l w) (hp:l[i]?=some (.abs (ax (bM O L)))) (h0:(obj O k).kind≠0) (hc:gu L k (obj O k)=cs) (hT:ko (obj O k).kind=T):Sat β (l.set i (.abs (ax (kg (bM O L) k cE.none)))++[.blk (L.b k) cs T]) w:=by
  have h1:=h.BI hp k
  have hlen:(l.set i (HP.abs (ax (kg (bM O L) k cE.none)))).length=l.length:=List.length_set ..
  have h2:=Sat.same (i:=l.length) (p:=.abs (bM O L k)) (p':=.blk (L.b k) cs T) h1 (by rw [List.getElem?_append_right (by omega),hlen,Nat.sub_self];rfl) (fun F w h=>by
    have h3:(bM O L k).h F w:=h
    rw [lg h0] at h3
    have h3:(Au (L.b k) (gu L k (obj O k)) (ko (obj O k).kind)).h F w:=h3
    rw [hc,hT] at h3
    exact h3)
  have e:∀ (a:List HP) (x y:HP),(a++[x]).set a.length y=a++[y]:=fun a x y=>by simp
  have h4:=e (l.set i (HP.abs (ax (kg (bM O L) k cE.none)))) (.abs (bM O L k)) (.blk (L.b k) cs T)
  rw [hlen] at h4
  rw [h4] at h2
  exact h2
theorem Sat.yX {R:Nat->cE} (h:Sat β l w) (hp:l[i]?=some (.abs (ax R))) (hR:∀ x,x≠k->R x=bM O L x) (hq:l[j]?=some (.blk (L.b k) cs T)) (hd:bC (i::j::idx)=true) (hl:bU l idx=some l') (h0:(f (obj O k)).kind≠0) (hc:gu L k (f (obj O k))=cs) (hT:ko (f (obj O k)).kind=T):Sat β (.abs (ax (bM (aF O k f) L))::l') w:=by
  refine h.qw (a:=Au (L.b k) cs T) hp hq (fun _ _ h=>h) hd hl k (fun x hx=>?_) (by rw [uM,if_neg h0,hc,hT])
  rw [uN hx,hR x hx]
theorem oI {R:Nat->cE} {a:cE} {x:Nat} (h:x≠k):kg R k a x=R x:=if_neg h
theorem Sat.Qy (h:Sat β l w) (hp:l[i]?=some (.abs (ax (cF O L)))) (hd:(obj O k).kind=2):Sat β (l.set i (.abs (ax (kg (cF O L) k cE.none)))++[.abs (aN Tryz.prog 9 (L.m k) (iG L (obj O k).ah) (obj O k).ah.length)]) w:=by
  have h1:=h.BI hp k
  rw [oH hd] at h1
  exact h1
theorem Sat.Qz (h:Sat β l w) (hp:l[i]?=some (.abs (ax (kg (cF O L) k cE.none)))) (hq:l[j]?=some (.abs (aN Tryz.prog 9 (L.m k) (iG L (obj O k).ah) (obj O k).ah.length))) (hd:bC (i::j::idx)=true) (hl:bU l idx=some l') (h2:(obj O k).kind=2):Sat β (.abs (ax (cF O L))::l') w:=
  h.qw hp hq (fun _ _ h=>h) hd hl k (fun _ hx=>(oI hx).symm) (oH h2)
theorem Sat.Ku (h:Sat β l w) (hp:l[i]?=some (.abs (ax (bN O L)))) (hd:(obj O k).kind=1):Sat β (l.set i (.abs (ax (kg (bN O L) k cE.none)))++[.abs (av 5 1 (L.dA k) (obj O k).data.length (L.dC k) (bZ (obj O k).data))]) w:=by
  have h1:=h.BI hp k
  rw [sK hd] at h1
  exact h1
end sat
end
section
open Go.RowKit
theorem gn.wide {ns:List aP} {b b':Nat} (h:gn ns b) (hb:b<=b'):gn ns b':=⟨Nat.le_trans h.len hb,fun i hi=>by
  have:=h.node i hi
  exact⟨this.ids,Nat.le_trans this.data hb,Nat.le_trans this.target hb,Nat.le_trans this.ah hb,fun j hj=>⟨(this.ent j hj).id,Nat.le_trans (this.ent j hj).name hb⟩⟩⟩
section gb
variable {ns:List aP} (h:gn ns 1048576)
include h
theorem yY:ns.length<=1048576:=by have:=h.len;omega
theorem EG:∀ i,i < ns.length->(nd ns i).data.length<=1048576/\(nd ns i).ah.length<=1048576:=fun i hi=>by
  have h1:=(h.node i hi).data
  have h2:=(h.node i hi).ah
  omega
theorem Kv:∀ i,i < ns.length->∀ j,j < (nd ns i).ah.length->-9223372036854775808<=(ent ns i j).id/\(ent ns i j).id<=9223372036854775807:=fun i hi j hj=>((h.node i hi).ent j hj).id
theorem Kw:∀ i,i < ns.length->∀ j,j < (nd ns i).ah.length->(ent ns i j).name.size<=1048576:=fun i hi j hj=>by
  have h1:=((h.node i hi).ent j hj).name
  unfold ent
  omega
end gb
structure Ux (X:FM):Prop where
  cN:rG X.cN
  cB:rG X.cB
  cH:rG X.cH
  cS:rG X.cS
  cZ:rG X.cZ
end
end Go.Proofs.YtidjcblbdmfalaaGreat
section
namespace Go.Proofs
open Go.Shelf
def Tryz.keysI_ren:Go.Shelf.Ren:=⟨fun|7=>67|10=>106|n=>n,fun|23=>120|26=>3|3=>124|28=>150|0=>0|27=>149|33=>201|4=>4|n=>n,fun|n=>n⟩
theorem Tryz.keysI:Go.Proofs.SlLaysZI.n7 Tryz.prog Tryz.keysI_ren:={
  mixed:=by kernel_rfl
  f7:=⟨Tryz.f67.name,by decide,Tryz.func67.trans (congrArg some (by kernel_rfl))⟩
  f10:=⟨Tryz.f106.name,by decide,Tryz.func106.trans (congrArg some (by kernel_rfl))⟩
  t0:=Tryz.underlying0
  a0:=Tryz.isAgg0
  z0:=Tryz.sizeOf0
  v0:=Tryz.zeroValue0
  t4:=Tryz.underlying4
  a4:=Tryz.isAgg4
  z4:=Tryz.sizeOf4
  v4:=Tryz.zeroValue4
  t23:=Tryz.underlying120
  a23:=Tryz.isAgg120
  z23:=Tryz.sizeOf120
  v23:=Tryz.zeroValue120
  t26:=Tryz.underlying3
  a26:=Tryz.isAgg3
  z26:=Tryz.sizeOf3
  v26:=Tryz.zeroValue3
  t27:=Tryz.underlying149
  a27:=Tryz.isAgg149
  z27:=Tryz.sizeOf149
  v27:=Tryz.zeroValue149
  t28:=Tryz.underlying150
  a28:=Tryz.isAgg150
  z28:=Tryz.sizeOf150
  v28:=Tryz.zeroValue150
  t33:=Tryz.underlying201
  a33:=Tryz.isAgg201
  z33:=Tryz.sizeOf201
  v33:=Tryz.zeroValue201 }
def Tryz.sortedI_ren:Go.Shelf.Ren:=⟨fun|6=>66|8=>104|9=>105|11=>139|13=>141|12=>140|23=>180|24=>181|14=>171|15=>172|16=>173|17=>174|18=>175|19=>176|20=>177|21=>178|22=>179|25=>205|26=>206|27=>207|28=>208|29=>209|30=>210|31=>222|n=>n,fun|26=>3|28=>150|24=>59|0=>0|3=>3|37=>234|48=>266|50=>268|4=>4|40=>260|39=>259|45=>251|5=>5|9=>9|51=>286|55=>290|57=>299|58=>300|33=>201|n=>n,fun|n=>n⟩
theorem Tryz.sortedI:Go.Proofs.SlLaysZI.n6 Tryz.prog Tryz.sortedI_ren:={
  mixed:=by kernel_rfl
  f6:=⟨Tryz.f66.name,by decide,Tryz.func66.trans (congrArg some (by kernel_rfl))⟩
  f8:=⟨Tryz.f104.name,by decide,Tryz.func104.trans (congrArg some (by kernel_rfl))⟩
  f11:=⟨Tryz.f139.name,by decide,Tryz.func139.trans (congrArg some (by kernel_rfl))⟩
  t0:=Tryz.underlying0
  a0:=Tryz.isAgg0
  z0:=Tryz.sizeOf0
  v0:=Tryz.zeroValue0
  t24:=Tryz.underlying59
  a24:=Tryz.isAgg59
  z24:=Tryz.sizeOf59
  v24:=Tryz.zeroValue59
  t26:=Tryz.underlying3
  a26:=Tryz.isAgg3
  z26:=Tryz.sizeOf3
  v26:=Tryz.zeroValue3
  t28:=Tryz.underlying150
  a28:=Tryz.isAgg150
  z28:=Tryz.sizeOf150
  v28:=Tryz.zeroValue150
  i26:=by kernel_rfl }
def Tryz.sortI_ren:Go.Shelf.Ren:=⟨fun|5=>105|8=>141|7=>140|19=>180|20=>181|10=>171|11=>172|12=>173|13=>174|14=>175|15=>176|16=>177|17=>178|18=>179|30=>205|31=>206|32=>207|33=>208|34=>209|35=>210|40=>222|n=>n,fun|23=>59|25=>3|3=>3|32=>234|22=>59|0=>0|44=>266|46=>268|4=>4|36=>260|35=>259|41=>251|5=>5|9=>9|53=>286|57=>290|63=>299|64=>300|n=>n,fun|n=>n⟩
theorem Tryz.sortI:Go.Proofs.SlLaysM.n5 Tryz.prog Tryz.sortI_ren:={
  mixed:=by kernel_rfl
  f5:=⟨Tryz.f105.name,by decide,Tryz.func105.trans (congrArg some (by kernel_rfl))⟩
  f7:=⟨Tryz.f140.name,by decide,Tryz.func140.trans (congrArg some (by kernel_rfl))⟩
  f8:=Tryz.func141.trans (congrArg some (by kernel_rfl))
  f10:=⟨Tryz.f171.name,by decide,Tryz.func171.trans (congrArg some (by kernel_rfl))⟩
  f11:=⟨Tryz.f172.name,by decide,Tryz.func172.trans (congrArg some (by kernel_rfl))⟩
  f12:=⟨Tryz.f173.name,by decide,Tryz.func173.trans (congrArg some (by kernel_rfl))⟩
  f13:=⟨Tryz.f174.name,by decide,Tryz.func174.trans (congrArg some (by kernel_rfl))⟩
  f14:=⟨Tryz.f175.name,by decide,Tryz.func175.trans (congrArg some (by kernel_rfl))⟩
  f15:=⟨Tryz.f176.name,by decide,Tryz.func176.trans (congrArg some (by kernel_rfl))⟩
  f16:=⟨Tryz.f177.name,by decide,Tryz.func177.trans (congrArg some (by kernel_rfl))⟩
  f17:=⟨Tryz.f178.name,by decide,Tryz.func178.trans (congrArg some (by kernel_rfl))⟩
  f18:=⟨Tryz.f179.name,by decide,Tryz.func179.trans (congrArg some (by kernel_rfl))⟩
  f19:=Tryz.func180.trans (congrArg some (by kernel_rfl))
  f20:=Tryz.func181.trans (congrArg some (by kernel_rfl))
  f30:=⟨Tryz.f205.name,by decide,Tryz.func205.trans (congrArg some (by kernel_rfl))⟩
  f31:=Tryz.func206.trans (congrArg some (by kernel_rfl))
  f32:=Tryz.func207.trans (congrArg some (by kernel_rfl))
  f33:=⟨Tryz.f208.name,by decide,Tryz.func208.trans (congrArg some (by kernel_rfl))⟩
  f34:=⟨Tryz.f209.name,by decide,Tryz.func209.trans (congrArg some (by kernel_rfl))⟩
  f35:=⟨Tryz.f210.name,by decide,Tryz.func210.trans (congrArg some (by kernel_rfl))⟩
  f40:=⟨Tryz.f222.name,by decide,Tryz.func222.trans (congrArg some (by kernel_rfl))⟩
  t0:=Tryz.underlying0
  a0:=Tryz.isAgg0
  z0:=Tryz.sizeOf0
  v0:=Tryz.zeroValue0
  t3:=Tryz.underlying3
  a3:=Tryz.isAgg3
  z3:=Tryz.sizeOf3
  v3:=Tryz.zeroValue3
  t4:=Tryz.underlying4
  a4:=Tryz.isAgg4
  z4:=Tryz.sizeOf4
  v4:=Tryz.zeroValue4
  t5:=Tryz.underlying5
  a5:=Tryz.isAgg5
  z5:=Tryz.sizeOf5
  v5:=Tryz.zeroValue5
  t9:=Tryz.underlying9
  a9:=Tryz.isAgg9
  z9:=Tryz.sizeOf9
  v9:=Tryz.zeroValue9
  t22:=Tryz.underlying59
  a22:=Tryz.isAgg59
  z22:=Tryz.sizeOf59
  v22:=Tryz.zeroValue59
  t23:=Tryz.underlying59
  a23:=Tryz.isAgg59
  z23:=Tryz.sizeOf59
  v23:=Tryz.zeroValue59
  t25:=Tryz.underlying3
  a25:=Tryz.isAgg3
  z25:=Tryz.sizeOf3
  v25:=Tryz.zeroValue3
  t32:=Tryz.underlying234
  a32:=Tryz.isAgg234
  z32:=Tryz.sizeOf234
  v32:=Tryz.zeroValue234
  t35:=Tryz.underlying259
  a35:=Tryz.isAgg259
  z35:=Tryz.sizeOf259
  v35:=Tryz.zeroValue259
  t36:=Tryz.underlying260
  a36:=Tryz.isAgg260
  z36:=Tryz.sizeOf260
  v36:=Tryz.zeroValue260
  t41:=Tryz.underlying251
  a41:=Tryz.isAgg251
  z41:=Tryz.sizeOf251
  v41:=Tryz.zeroValue251
  t44:=Tryz.underlying266
  a44:=Tryz.isAgg266
  z44:=Tryz.sizeOf266
  v44:=Tryz.zeroValue266
  t46:=Tryz.underlying268
  a46:=Tryz.isAgg268
  z46:=Tryz.sizeOf268
  v46:=Tryz.zeroValue268
  t53:=Tryz.underlying286
  a53:=Tryz.isAgg286
  z53:=Tryz.sizeOf286
  v53:=Tryz.zeroValue286
  t57:=Tryz.underlying290
  a57:=Tryz.isAgg290
  z57:=Tryz.sizeOf290
  v57:=Tryz.zeroValue290
  t63:=Tryz.underlying299
  a63:=Tryz.isAgg299
  z63:=Tryz.sizeOf299
  v63:=Tryz.zeroValue299
  t64:=Tryz.underlying300
  a64:=Tryz.isAgg300
  z64:=Tryz.sizeOf300
  v64:=Tryz.zeroValue300 }
end Go.Proofs
end
namespace Go.Proofs.YtidjcblbdmfalaaGreat
section
open Go.RowKit
theorem SC (a:Addr) (v:Value) (w:World) (h:w.cell? a=some v):(Go.method 441 256 (.pointer (some a)) "Len").run Tryz.prog w=.ok (271,v) w:=by
  have e:(Go.method 441 256 (.pointer (some a)) "Len").run Tryz.prog w=((loadVar 195 a) >>= fun v=>pure (271,v):Sem (FuncId×Value)).run Tryz.prog w:=by kernel_rfl
  rw [e]
  simp [loadVar,isAgg,underlying,Tryz.underlying195,h,Result.andThen]
theorem QA (a:Addr) (v:Value) (w:World) (h:w.cell? a=some v):(Go.method 441 256 (.pointer (some a)) "Less").run Tryz.prog w=.ok (272,v) w:=by
  have e:(Go.method 441 256 (.pointer (some a)) "Less").run Tryz.prog w=((loadVar 195 a) >>= fun v=>pure (272,v):Sem (FuncId×Value)).run Tryz.prog w:=by kernel_rfl
  rw [e]
  simp [loadVar,isAgg,underlying,Tryz.underlying195,h,Result.andThen]
theorem QB (a:Addr) (v:Value) (w:World) (h:w.cell? a=some v):(Go.method 441 256 (.pointer (some a)) "Swap").run Tryz.prog w=.ok (273,v) w:=by
  have e:(Go.method 441 256 (.pointer (some a)) "Swap").run Tryz.prog w=((loadVar 195 a) >>= fun v=>pure (273,v):Sem (FuncId×Value)).run Tryz.prog w:=by kernel_rfl
  rw [e]
  simp [loadVar,isAgg,underlying,Tryz.underlying195,h,Result.andThen]
theorem QC (a:Addr) (w:World):(Go.method 441 256 (.pointer (some a)) "Push").run Tryz.prog w=.ok (275,.pointer (some a)) w:=by kernel_rfl
theorem SD (a:Addr) (w:World):(Go.method 441 256 (.pointer (some a)) "Pop").run Tryz.prog w=.ok (274,.pointer (some a)) w:=by kernel_rfl
theorem Ou (a:Addr) (w:World):(Go.nilAhead 441 256 (.pointer (some a)) "Len").run Tryz.prog w=.ok (some false) w:=by kernel_rfl
theorem Kx (a:Addr) (w:World):(Go.nilAhead 441 256 (.pointer (some a)) "Less").run Tryz.prog w=.ok (some false) w:=by kernel_rfl
theorem Fm (a:Addr) (w:World):(Go.nilAhead 441 256 (.pointer (some a)) "Swap").run Tryz.prog w=.ok (some false) w:=by kernel_rfl
theorem QD (a:Addr) (w:World):(Go.nilAhead 441 256 (.pointer (some a)) "Push").run Tryz.prog w=.ok (some false) w:=by kernel_rfl
theorem SE (a:Addr) (w:World):(Go.nilAhead 441 256 (.pointer (some a)) "Pop").run Tryz.prog w=.ok (some false) w:=by kernel_rfl
theorem Fo (A:Option Addr) (n c:Nat) (w:World) :
    Calls Tryz.prog 271 #[.slice A n c] w fun e w'=>e=.returned (.int .i64 n)/\w'=w:=by
  go_enter Tryz.func271,Tryz.ntmps271
  go_wp2
  go_ret
  exact⟨rfl,rfl⟩
theorem Ky (g n c i j:Nat) (x y:Int) (w:World) (hi:i < n) (hj:j < n) (ci:w.cell? ⟨g,i,none⟩=some (.int .i64 x)) (cj:w.cell? ⟨g,j,none⟩=some (.int .i64 y)) :
    Calls Tryz.prog 272 #[.slice (some ⟨g,0,none⟩) n c,.int .i64 i,.int .i64 j] w fun e w'=>e=.returned (.bool (decide (x < y)))/\∃ m,w'=w.drewN m:=by
  have hi':(i:Int) < (n:Int):=by omega
  have hj':(j:Int) < (n:Int):=by omega
  go_enter Tryz.func272,Tryz.ntmps272
  go_wp2_with fail
  go_quiet (fail)
  go_wp2_with fail
  go_ret
  exact⟨rfl,_,rfl⟩
theorem Kz (g n c i j:Nat) (x y:Int) (w:World) (hi:i < n) (hj:j < n) (hij:i≠j) (ci:w.cell? ⟨g,i,none⟩=some (.int .i64 x)) (cj:w.cell? ⟨g,j,none⟩=some (.int .i64 y))
    (fi:w.frozen? ⟨g,i,none⟩=false) (fj:w.frozen? ⟨g,j,none⟩=false) :
    Calls Tryz.prog 273 #[.slice (some ⟨g,0,none⟩) n c,.int .i64 i,.int .i64 j] w fun e w'=>e=.returned (.tuple #[])/\∃ m,w'=((w.setCell ⟨g,i,none⟩ (.int .i64 y)).setCell ⟨g,j,none⟩ (.int .i64 x)).drewN m:=by
  have hi':(i:Int) < (n:Int):=by omega
  have hj':(j:Int) < (n:Int):=by omega
  go_enter Tryz.func273,Tryz.ntmps273
  go_wp2_with fail
  go_region
  go_end0
  exact⟨rfl,1,rfl⟩
theorem Mu:(Tryz.prog.info? 3).map (fun i=>(i.zero,i.size,i.bytes))=some (some (.int .i64 0),1,8):=by kernel_rfl
theorem Mv (t o g n c:Nat) (x:Int) (w:World) (hc:n+1<=c) (ht:w.cell? ⟨t,o,none⟩=some (.slice (some ⟨g,0,none⟩) (n+1) c)) (hf:w.frozen? ⟨t,o,none⟩=false)
    (hx:w.cell? ⟨g,n,none⟩=some (.int .i64 x)) (hm:n+1<=1048576) :
    Calls Tryz.prog 274 #[.pointer (some ⟨t,o,none⟩)] w fun e w'=>e=.returned (.iface 3 (.int .i64 x))/\w'=w.setCell ⟨t,o,none⟩ (.slice (some ⟨g,0,none⟩) n c):=by
  go_enter Tryz.func274,Tryz.ntmps274
  go_wp2_with fail
  go_ret
  exact⟨rfl,rfl⟩
theorem I4 (x:Int) (w:World):(Instr.typeAssert (.iface 3 (.int .i64 x)) 20 3 false).run Tryz.prog w=.ok (.int .i64 x) w:=by kernel_rfl
theorem GN (x:Int):∀ u∈[Value.int .i64 x],u.oneCell'=true:=by intro u hu;simp at hu;subst hu;rfl
theorem KA {t o:Nat} {v:Value} {w w1:World} {ob:Obj} (ht:w.cell? ⟨t,o,none⟩=some v) (hlt:t < w.heap.size) {row:Option Nat} (hne:row≠some t) (hg:(w.alloc ob).drew.grownBy w1 row):w1.cell? ⟨t,o,none⟩=some v:=by
  rw [hg.cell_far ⟨t,o,none⟩ (by show t < (w.alloc ob).heap.size;simp;omega) (fun e=>hne e.symm)]
  exact (World.cell?_alloc_lt w ob ⟨t,o,none⟩ hlt).trans ht
theorem KC {t o:Nat} {w w1:World} {ob:Obj} (hf:w.frozen? ⟨t,o,none⟩=false) (hlt:t < w.heap.size) {row:Option Nat} (hne:row≠some t) (hg:(w.alloc ob).drew.grownBy w1 row):w1.frozen? ⟨t,o,none⟩=false:=by
  rw [hg.frozen_far ⟨t,o,none⟩ (by show t < (w.alloc ob).heap.size;simp;omega) (fun e=>hne e.symm)]
  exact (World.frozen?_alloc_old w ob ⟨t,o,none⟩ (Nat.ne_of_lt hlt)).trans hf
theorem KD (t o base n:Nat) (v:Value) (xs:List Value) (x:Int) (w:World) (ht:w.cell? ⟨t,o,none⟩=some v) (hf:w.frozen? ⟨t,o,none⟩=false)
    (hown:w.ownsRow base 3 1 v n xs) (hne:v.ownBlock≠some t) (hm:n+1<=1048576) (hbase:base<=w.heap.size) :
    Calls Tryz.prog 275 #[.pointer (some ⟨t,o,none⟩),.iface 3 (.int .i64 x)] w fun e w'=>e=.returned (.tuple #[]) ∧
      ∃ g cap w1,w1.ownsRow base 3 1 (.slice (some ⟨g,0,none⟩) (n+1) cap) (n+1) (xs++[.int .i64 x])/\w.grownBy w1 v.ownBlock/\(v.ownBlock=some g\/w.heap.size<=g) ∧
        w'=w1.setCell ⟨t,o,none⟩ (.slice (some ⟨g,0,none⟩) (n+1) cap):=by
  obtain⟨i0,hi0,hz0,hz1,hz2⟩:=info_parts Mu
  have hlt:t < w.heap.size:=by
    rcases Nat.lt_or_ge t w.heap.size with h|h
    ·exact h
    simp [World.cell?,Array.getElem?_eq_none h] at ht
  have W7:=I4
  go_enter Tryz.func275,Tryz.ntmps275
  go_wp2_with fail
  go_region_law (refine step_append_lies _ rfl (.tmp 7) (.tmp 10) 195 rfl base 3 i0 (.int .i64 0) 1 8 Tryz.underlying195 hi0 hz0 hz1 hz2 rfl (by decide) v n xs (by simp [Act.eval]) (hown.alloc _) ⟨w.heap.size,0,none⟩ 1 1 [.int .i64 x] (by simp [Act.eval]) rfl (cell_one_new _ _ _) (GN x) (by decide) (by unfold maxLen;omega) (by omega) (by simp;omega) (w.heap.size+1) (by simp) ?_;intro g cap w1 hown1 hg1 I5 WC;have c1:w1.cell? ⟨t,o,none⟩=some v:=KA ht hlt hne hg1;have f1:w1.frozen? ⟨t,o,none⟩=false:=KC hf hlt hne hg1)
  all_goals
    go_end0
    refine⟨rfl,g,cap,w1,hown1,(World.grownBy_alloc w (.cells #[.int .i64 x] 3) _).trans ⟨hg1.os,hg1.tape,hg1.output,hg1.size,hg1.block⟩,?_,rfl⟩
    rcases I5 with h|h
    ·exact .inl h
    exact .inr (by omega)
end
end Go.Proofs.YtidjcblbdmfalaaGreat
section
namespace Go.Proofs.YtidjcblbdmfalaaGreat.bH
def at_ (l:List Int) (i:Nat):Int:=l.getD i 0
def swp (l:List Int) (i j:Nat):List Int:=(l.set i (at_ l j)).set j (at_ l i)
def Hp (n:Nat) (l:List Int):Prop:=∀ i,0 < i->i < n->at_ l ((i - 1) / 2)<=at_ l i
def xK (l:List Int):Prop:=∀ a b,a < l.length->b < l.length->at_ l a=at_ l b->a=b
def CZ (l:List Int) (j:Nat):Prop:=
  (∀ i,0 < i->i < l.length->i≠j->at_ l ((i - 1) / 2)<=at_ l i)/\(∀ i,0 < i->i < l.length->(i - 1) / 2=j->0 < j->at_ l ((j - 1) / 2)<=at_ l i)
def uO (n:Nat) (l:List Int) (i:Nat):Prop:=
  (∀ k,0 < k->k < n->(k - 1) / 2≠i->at_ l ((k - 1) / 2)<=at_ l k)/\(∀ k,0 < k->k < n->(k - 1) / 2=i->0 < i->at_ l ((i - 1) / 2)<=at_ l k)
structure Same (l l':List Int):Prop where
  len:l'.length=l.length
  mem:∀ x,x∈l'↔x∈l
  inj:xK l->xK l'
theorem sM {l:List Int} {x:Int}:x∈l↔∃ k,k < l.length/\at_ l k=x:=by
  rw [List.mem_iff_getElem]
  constructor
  ·rintro⟨i,h,e⟩
   exact⟨i,h,by simp [at_,List.getD_eq_getElem?_getD,h,e]⟩
  rintro⟨i,h,e⟩
  exact⟨i,h,by simpa [at_,List.getD_eq_getElem?_getD,h] using e⟩
theorem kH (l:List Int) (i j:Nat):(swp l i j).length=l.length:=by simp [swp]
def sw (i j k:Nat):Nat:=if k=j then i else if k=i then j else k
theorem jq {l:List Int} {i j:Nat} (hi:i < l.length) (hj:j < l.length) (k:Nat):at_ (swp l i j) k=at_ l (sw i j k):=by
  unfold swp at_ sw
  simp only [List.getD_eq_getElem?_getD,List.getElem?_set,List.length_set]
  by_cases h1:j=k
  ·subst h1;simp [hj]
  by_cases h2:i=k
  ·subst h2;simp [h1,hi,Ne.symm h1]
  simp [h1,h2,Ne.symm h1,Ne.symm h2]
theorem I6 (i j k:Nat):sw i j (sw i j k)=k:=by unfold sw;(repeat' split)<;>omega
theorem EH {i j k n:Nat} (hi:i < n) (hj:j < n) (hk:k < n):sw i j k < n:=by unfold sw;(repeat' split)<;>omega
theorem Same.refl (l:List Int):Same l l:=⟨rfl,fun _=>Iff.rfl,fun h=>h⟩
theorem Same.trans {l l' l'':List Int} (h:Same l l') (k:Same l' l''):Same l l'':=⟨k.len.trans h.len,fun x=>(k.mem x).trans (h.mem x),fun i=>k.inj (h.inj i)⟩
theorem Same.swp {l:List Int} {i j:Nat} (hi:i < l.length) (hj:j < l.length):Same l (swp l i j):=by
  refine⟨kH l i j,fun x=>?_,fun inj a b ha hb e=>?_⟩
  ·rw [sM,sM,kH]
   constructor
   ·rintro⟨k,hk,e⟩
    exact⟨sw i j k,EH hi hj hk,by rw [← jq hi hj];exact e⟩
   rintro⟨k,hk,e⟩
   exact⟨sw i j k,EH hi hj hk,by rw [jq hi hj,I6];exact e⟩
  rw [kH] at ha hb
  rw [jq hi hj,jq hi hj] at e
  have:=inj _ _ (EH hi hj ha) (EH hi hj hb) e
  rw [← I6 i j a,this,I6]
theorem KE {l:List Int} {j:Nat} (h:CZ l j) (he:j=0\/at_ l ((j - 1) / 2)<=at_ l j):Hp l.length l:=by
  intro i h0 hi
  by_cases e:i=j
  ·subst e
   rcases he with he|he
   ·omega
   exact he
  exact h.1 i h0 hi e
theorem Pt {l:List Int} {j:Nat} (h:CZ l j) (h0:0 < j) (hj:j < l.length) (hlt:at_ l j < at_ l ((j - 1) / 2)):CZ (swp l ((j - 1) / 2) j) ((j - 1) / 2):=by
  have hp:(j - 1) / 2 < l.length:=by omega
  have hne:(j - 1) / 2≠j:=by omega
  refine⟨fun i i0 il Tk=>?_,fun i i0 il ip p0=>?_⟩
  ·rw [kH] at il
   rw [jq hp hj,jq hp hj]
   by_cases e1:i=j
   ·subst e1
    rw [show sw ((i - 1) / 2) i ((i - 1) / 2)=i by unfold sw;rw [if_neg hne,if_pos rfl],show sw ((i - 1) / 2) i i=(i - 1) / 2 by unfold sw;rw [if_pos rfl]]
    omega
   rw [show sw ((j - 1) / 2) j i=i by unfold sw;rw [if_neg e1,if_neg Tk]]
   by_cases e2:(i - 1) / 2=j
   ·rw [show sw ((j - 1) / 2) j ((i - 1) / 2)=(j - 1) / 2 by unfold sw;rw [if_pos e2]]
    exact h.2 i i0 il e2 h0
   by_cases e3:(i - 1) / 2=(j - 1) / 2
   ·rw [show sw ((j - 1) / 2) j ((i - 1) / 2)=j by unfold sw;rw [if_neg e2,if_pos e3]]
    have:=h.1 i i0 il e1
    rw [e3] at this
    omega
   rw [show sw ((j - 1) / 2) j ((i - 1) / 2)=(i - 1) / 2 by unfold sw;rw [if_neg e2,if_neg e3]]
   exact h.1 i i0 il e1
  rw [kH] at il
  rw [jq hp hj,jq hp hj]
  have a1:=h.1 ((j - 1) / 2) p0 hp hne
  rw [show sw ((j - 1) / 2) j (((j - 1) / 2 - 1) / 2)=((j - 1) / 2 - 1) / 2 by unfold sw;rw [if_neg (by omega),if_neg (by omega)]]
  by_cases e1:i=j
  ·subst e1
   rw [show sw ((i - 1) / 2) i i=(i - 1) / 2 by unfold sw;rw [if_pos rfl]]
   exact a1
  have a2:=h.1 i i0 il e1
  rw [show sw ((j - 1) / 2) j i=i by unfold sw;rw [if_neg e1,if_neg (by omega)]]
  rw [ip] at a2
  omega
theorem vT {n:Nat} {l:List Int} {i:Nat} (h:uO n l i) (h1:2 * i+1 < n->at_ l i<=at_ l (2 * i+1)) (h2:2 * i+2 < n->at_ l i<=at_ l (2 * i+2)):Hp n l:=by
  intro k k0 kn
  by_cases e:(k - 1) / 2=i
  ·rw [e]
   rcases (show k=2 * i+1\/k=2 * i+2 by omega) with e1|e1
   ·rw [e1];exact h1 (by omega)
   rw [e1];exact h2 (by omega)
  exact h.1 k k0 kn e
theorem xL {n:Nat} {l:List Int} {i j:Nat} (h:uO n l i) (hj:j=2 * i+1\/j=2 * i+2) (hjn:j < n) (hn:n<=l.length)
    (h1:at_ l j<=at_ l (2 * i+1)) (h2:2 * i+2 < n->at_ l j<=at_ l (2 * i+2)) (hlt:at_ l j < at_ l i):uO n (swp l i j) j:=by
  have hi:i < l.length:=by omega
  have hjl:j < l.length:=by omega
  refine⟨fun k k0 kn QE=>?_,fun k k0 kn ke j0=>?_⟩
  ·rw [jq hi hjl,jq hi hjl]
   by_cases e1:(k - 1) / 2=i
   ·rw [e1,show sw i j i=j by unfold sw;rw [if_neg (by omega),if_pos rfl]]
    by_cases e2:k=j
    ·rw [e2,show sw i j j=i by unfold sw;rw [if_pos rfl]];omega
    rw [show sw i j k=k by unfold sw;rw [if_neg e2,if_neg (by omega)]]
    rcases (show k=2 * i+1\/k=2 * i+2 by omega) with e3|e3
    ·rw [e3];exact h1
    rw [e3];exact h2 (by omega)
   rw [show sw i j ((k - 1) / 2)=(k - 1) / 2 by unfold sw;rw [if_neg QE,if_neg e1]]
   by_cases e2:k=i
   ·rw [e2,show sw i j i=j by unfold sw;rw [if_neg (by omega),if_pos rfl],← e2]
    have hjk:(j - 1) / 2=i:=by omega
    rw [e2]
    exact h.2 j (by omega) hjn hjk (by omega)
   rw [show sw i j k=k by unfold sw;rw [if_neg (by omega),if_neg e2]]
   exact h.1 k k0 kn e1
  rw [jq hi hjl,jq hi hjl]
  rw [show (j - 1) / 2=i by omega,show sw i j i=j by unfold sw;rw [if_neg (by omega),if_pos rfl],show sw i j k=k by unfold sw;rw [if_neg (by omega),if_neg (by omega)]]
  have:=h.1 k k0 kn (by omega)
  rw [ke] at this
  exact this
theorem least {n:Nat} {l:List Int} (h:Hp n l):∀ k,k < n->at_ l 0<=at_ l k:=by
  intro k
  induction k using Nat.strongRecOn with
  | _ k ih=>
    intro hk
    rcases Nat.eq_zero_or_pos k with e|e
    ·rw [e];omega
    have a1:=ih ((k - 1) / 2) (by omega) (by omega)
    have a2:=h k e hk
    omega
theorem I7 {n:Nat} {l:List Int} (h:Hp (n+1) l) (hl:l.length=n+1):uO n (swp l 0 n) 0:=by
  refine⟨fun k k0 kn QE=>?_,fun k _ _ _ h0=>by omega⟩
  rw [jq (by omega) (by omega),jq (by omega) (by omega)]
  rw [show sw 0 n ((k - 1) / 2)=(k - 1) / 2 by unfold sw;rw [if_neg (by omega),if_neg QE],show sw 0 n k=k by unfold sw;rw [if_neg (by omega),if_neg (by omega)]]
  exact h k k0 (by omega)
theorem Mw {l:List Int} (h:Hp l.length l) (x:Int):CZ (l++[x]) l.length:=by
  have e:∀ k,k < l.length->at_ (l++[x]) k=at_ l k:=fun k hk=>by
    unfold at_
    rw [List.getD_eq_getElem?_getD,List.getD_eq_getElem?_getD,List.getElem?_append_left hk]
  refine⟨fun i i0 il Tk=>?_,fun i i0 il ip=>?_⟩
  ·rw [List.length_append,List.length_singleton] at il
   rw [e _ (by omega),e _ (by omega)]
   exact h i i0 (by omega)
  rw [List.length_append,List.length_singleton] at il
  omega
theorem Pu {l:List Int} {n:Nat} (hl:l.length=n+1) (hi:xK l) (x:Int):x∈l.take n↔x∈l/\x≠at_ l n:=by
  constructor
  ·intro h
   refine⟨List.mem_of_mem_take h,?_⟩
   rintro rfl
   obtain⟨k,hk,e⟩:=List.mem_iff_getElem.1 h
   simp at hk e
   have:=hi k n (by omega) (by omega) (by simp [at_,List.getD_eq_getElem?_getD,show k < l.length by omega,e])
   omega
  rintro⟨h,hne⟩
  obtain⟨k,hk,e⟩:=sM.1 h
  have:k≠n:=by rintro rfl;exact hne e.symm
  refine List.mem_iff_getElem.2 ⟨k,by simp;omega,?_⟩
  simp only [at_,List.getD_eq_getElem?_getD,hk,List.getElem?_eq_getElem,Option.getD_some] at e
  simpa using e
theorem yZ {l:List Int} {n k:Nat} (hk:k < n):at_ (l.take n) k=at_ l k:=by simp [at_,List.getD_eq_getElem?_getD,hk]
theorem Pv {l:List Int} {n:Nat} (h:Hp n l):Hp n (l.take n):=fun i i0 hi=>by rw [yZ hi,yZ (by omega)];exact h i i0 hi
theorem Mx {l:List Int} {n:Nat} (h:xK l):xK (l.take n):=fun a b ha hb e=>by
  simp at ha hb
  rw [yZ (by omega),yZ (by omega)] at e
  exact h a b (by omega) (by omega) e
end Go.Proofs.YtidjcblbdmfalaaGreat.bH
end
namespace Go.Proofs.YtidjcblbdmfalaaGreat
section
open Go.RowKit bH
def ints (l:List Int):List Value:=l.map (Value.int .i64)
theorem nM (g n c a b:Nat) (i j:Int) (hi:i=(a:Int)) (hj:j=(b:Int)) (x y:Int) (w:World) (ha:a < n) (hb:b < n) (ci:w.cell? ⟨g,a,none⟩=some (.int .i64 x)) (cj:w.cell? ⟨g,b,none⟩=some (.int .i64 y)) :
    Calls Tryz.prog 272 #[.slice (some ⟨g,0,none⟩) n c,.int .i64 i,.int .i64 j] w fun e w'=>e=.returned (.bool (decide (x < y)))/\∃ m,w'=w.drewN m:=by
  subst hi hj;exact Ky g n c a b x y w ha hb ci cj
structure HW (t o g c base:Nat) (l:List Int) (w:World):Prop where
  cell:w.cell? ⟨t,o,none⟩=some (.slice (some ⟨g,0,none⟩) l.length c)
  own:w.ownsRow base 3 1 (.slice (some ⟨g,0,none⟩) l.length c) l.length (ints l)
  ne:t≠g
  lt:t < w.heap.size
theorem Mz {l:List Int} {k:Nat} (hk:k < l.length):(ints l)[k]?=some (.int .i64 (at_ l k)):=by
  simp [ints,at_,List.getD_eq_getElem?_getD,hk]
section hw
variable {t o g c base:Nat} {l:List Int} {w:World}
theorem HW.at (h:HW t o g c base l w) {k:Nat} (hk:k < l.length):w.cell? ⟨g,k,none⟩=some (.int .i64 (at_ l k)):=by
  rw [h.own.cellAt k (by omega)]
  exact Mz hk
theorem HW.drewN (h:HW t o g c base l w) (m:Nat):HW t o g c base l (w.drewN m):=⟨h.cell,h.own,h.ne,h.lt⟩
theorem HW.swap (h:HW t o g c base l w) (i j:Nat) :
    HW t o g c base (swp l i j) ((w.setCell ⟨g,i,none⟩ (.int .i64 (at_ l j))).setCell ⟨g,j,none⟩ (.int .i64 (at_ l i))):=by
  have e1:ints (swp l i j)=((ints l).set i (.int .i64 (at_ l j))).set j (.int .i64 (at_ l i)):=by
    simp [ints,swp,List.map_set]
  refine⟨?_,?_,h.ne,by simpa [World.setCell] using h.lt⟩
  ·rw [kH,World.cell?_setCell_other _ _ _ _ (fun e=>h.ne (by injection e with e;exact e.symm)),World.cell?_setCell_other _ _ _ _ (fun e=>h.ne (by injection e with e;exact e.symm))]
   exact h.cell
  rw [kH,e1]
  exact ((h.own.stored i _).1.stored j _).1
end hw
theorem nN (t o g c base:Nat) (l:List Int) (a b:Nat) (i j:Int) (hi:i=(a:Int)) (hj:j=(b:Int)) (w:World) (h:HW t o g c base l w) (ha:a < l.length) (hb:b < l.length) (hne:a≠b) :
    Calls Tryz.prog 273 #[.slice (some ⟨g,0,none⟩) l.length c,.int .i64 i,.int .i64 j] w fun e w'=>e=.returned (.tuple #[])/\HW t o g c base (swp l a b) w'/\Keeps (·=g) w w':=by
  subst hi hj
  refine (Kz g l.length c a b (at_ l a) (at_ l b) w ha hb hne (h.at ha) (h.at hb) (h.own.frozenAt a) (h.own.frozenAt b)).mono fun e w' ⟨he,m,hw⟩=>⟨he,?_,?_⟩
  ·rw [hw];exact (h.swap a b).drewN m
  rw [hw];exact (((Keeps.refl (·=g) w).setCell (p:=⟨g,a,none⟩) (.inr rfl) _).setCell (p:=⟨g,b,none⟩) (.inr rfl) _).drewN m
structure Looks (a:Addr) (V:Value):Prop where
  less:∀ w:World,w.cell? a=some V->(Go.method 441 256 (.pointer (some a)) "Less").run Tryz.prog w=.ok (272,V) w
  swap:∀ w:World,w.cell? a=some V->(Go.method 441 256 (.pointer (some a)) "Swap").run Tryz.prog w=.ok (273,V) w
  len:∀ w:World,w.cell? a=some V->(Go.method 441 256 (.pointer (some a)) "Len").run Tryz.prog w=.ok (271,V) w
theorem looks (a:Addr) (V:Value):Looks a V:=⟨QA a V,QB a V,SC a V⟩
theorem Pw (t o g c base:Nat) (l:List Int) (j:Nat) (w:World) (h:HW t o g c base l w) (hj:j < l.length) (hu:CZ l j) (hm:l.length<=1048576) :
    Calls Tryz.prog 204 #[.iface 256 (.pointer (some ⟨t,o,none⟩)),.int .i64 j] w fun e w'=>e=.returned (.tuple #[]) ∧
      ∃ l',Same l l'/\Hp l'.length l'/\HW t o g c base l' w'/\Keeps (·=g) w w':=by
  have L:=looks ⟨t,o,none⟩ (.slice (some ⟨g,0,none⟩) l.length c)
  have nl:=Kx ⟨t,o,none⟩
  have ns:=Fm ⟨t,o,none⟩
  go_enter Tryz.func204,Tryz.ntmps204
  go_wp2_with fail
  go_loopw [1] (fun v wr=>∃ (j:Nat) (l':List Int),v=.int .i64 j/\j < l'.length/\Same l l'/\CZ l' j/\HW t o g c base l' wr/\Keeps (·=g) w wr) (fun v _=>(intOf v).toNat)
  case atStart=>exact⟨j,l,rfl,hj,Same.refl l,hu,h,Keeps.refl _ _⟩
  case round=>
    obtain⟨j,l',rfl,hj',hs,hu',hw,hk⟩:=hrel
    have hc:=hw.cell
    rw [hs.len] at hc
    have LL:=L.less wr hc
    by_cases h0:j=0
    ·subst h0
     have HU:=Lib.hid hu'
     clear hu'
     go_wp2_with fail
     go_end0
     exact⟨rfl,l',hs,KE HU.out (.inl rfl),hw,hk⟩
    have oC:1<=j:=by omega
    have hj2:j<=1048576:=by have:=hs.len;omega
    have hi1:(j - 1) / 2 < l'.length:=by omega
    have hjn:((((j:Int) - 1) / 2) == (j:Int))=false:=by rw [beq_eq_false_iff_ne];omega
    have HU:=Lib.hid hu'
    clear hu'
    go_wp2_with fail
    refine (nM g l.length c j ((j - 1) / 2) _ _ rfl (by omega) (at_ l' j) (at_ l' ((j - 1) / 2)) _ (by rw [← hs.len];exact hj') (by rw [← hs.len];exact hi1) (hw.at hj') (hw.at hi1)).mono ?_
    rintro e w1 ⟨rfl,m,rfl⟩
    have hw1:=hw.drewN m
    by_cases hlt:at_ l' j < at_ l' ((j - 1) / 2)
    ·have LS:=L.swap (wr.drewN m) hc
     go_wp2_with fail
     have HL:=Lib.hid hs.len
     have sw:=nN t o g c base l' ((j - 1) / 2) j
     rw [hs.len] at sw
     refine (sw _ _ (by omega) rfl _ hw1 (by have:=HL.out;omega) (by have:=HL.out;omega) (by omega)).mono ?_
     rintro e w2 ⟨rfl,hw2,hk2⟩
     clear sw
     go_wp2_with fail
     go_roundw
     case rel=>exact⟨(j - 1) / 2,_,by go_num,by rw [kH];exact hi1,hs.trans (Same.swp hi1 hj'),Pt HU.out oC hj' hlt,hw2,(hk.drewN m).trans hk2⟩
     case measure=>simp [intOf];omega
    have hnl:decide (at_ l' j < at_ l' ((j - 1) / 2))=false:=by simpa using hlt
    go_wp2_with fail
    go_end0
    exact⟨rfl,l',hs,KE HU.out (.inr (by omega)),hw1,hk.drewN m⟩
end
section
open Go.RowKit bH
theorem Fq {l:List Int} {i j n k:Nat} (hi:i < l.length) (hj:j < l.length) (hin:i < n) (hjn:j < n) (hk:n<=k):at_ (swp l i j) k=at_ l k:=by
  rw [jq hi hj];unfold sw;rw [if_neg (by omega),if_neg (by omega)]
theorem KF (t o g c base n:Nat) (l:List Int) (w:World) (h:HW t o g c base l w) (hn:n<=l.length) (hd:uO n l 0) (hm:l.length<=1048576) :
    Calls Tryz.prog 221 #[.iface 256 (.pointer (some ⟨t,o,none⟩)),.int .i64 0,.int .i64 n] w fun e w'=>(∃ b,e=.returned (.bool b)) ∧
      ∃ l',Same l l'/\Hp n l'/\(∀ k,n<=k->at_ l' k=at_ l k)/\HW t o g c base l' w'/\Keeps (·=g) w w':=by
  have L:=looks ⟨t,o,none⟩ (.slice (some ⟨g,0,none⟩) l.length c)
  have nl:=Kx ⟨t,o,none⟩
  have ns:=Fm ⟨t,o,none⟩
  go_enter Tryz.func221,Tryz.ntmps221
  go_wp2_with fail
  go_loopw [7] (fun v wr=>∃ (i:Nat) (l':List Int),v=.int .i64 i/\i<=n/\Same l l'/\uO n l' i/\Hid (∀ k,n<=k->at_ l' k=at_ l k)/\HW t o g c base l' wr/\Keeps (·=g) w wr) (fun v _=>n - (intOf v).toNat)
  case atStart=>exact⟨0,l,rfl,Nat.zero_le _,Same.refl l,hd,Lib.hid (fun _ _=>rfl),h,Keeps.refl _ _⟩
  case round=>
    obtain⟨i,l',rfl,hin,hs,hd',vU,hw,hk⟩:=hrel
    have hc:=hw.cell
    rw [hs.len] at hc
    have HL:=Lib.hid hs.len
    have hn1:n<=1048576:=by omega
    have hnl:n<=l'.length:=by rw [HL.out];exact hn
    have HD:=Lib.hid hd'
    clear hd'
    by_cases h1:2 * i+1 < n
    ·have h1a:(2 * (i:Int)+1) < (n:Int):=by omega
     by_cases h2:2 * i+2 < n
     ·have Vr:(2 * (i:Int)+1+1) < (n:Int):=by omega
      have LL:=L.less wr hc
      go_wp2_with fail
      refine (nM g l.length c (2 * i+2) (2 * i+1) _ _ (by omega) (by omega) (at_ l' (2 * i+2)) (at_ l' (2 * i+1)) _ (by omega) (by omega) (hw.at (by omega)) (hw.at (by omega))).mono ?_
      rintro e w1 ⟨rfl,m,rfl⟩
      have hw1:=hw.drewN m
      have hk1:=hk.drewN m
      have LL:=L.less (wr.drewN m) hc
      clear hw hk
      by_cases h3:at_ l' (2 * i+2) < at_ l' (2 * i+1)
      ·go_wp2_with fail
       refine (nM g l.length c (2 * i+2) i _ _ (by omega) (by omega) (at_ l' (2 * i+2)) (at_ l' i) _ (by omega) (by omega) (hw1.at (by omega)) (hw1.at (by omega))).mono ?_
       rintro e w2 ⟨rfl,m2,rfl⟩
       have hw2:=hw1.drewN m2
       have hk2:=hk1.drewN m2
       rw [World.drewN_drewN] at hw2 hk2
       by_cases h4:at_ l' (2 * i+2) < at_ l' i
       ·have LS:=L.swap _ (hw2.cell.trans (by rw [HL.out]))
        go_wp2_with fail
        have sw:=nN t o g c base l' i (2 * i+2)
        rw [hs.len] at sw
        refine (sw _ _ rfl (by omega) _ hw2 (by omega) (by omega) (by omega)).mono ?_
        rintro e w3 ⟨rfl,hw3,hk3⟩
        clear sw
        go_wp2_with fail
        go_roundw
        case rel=>exact⟨2 * i+2,_,by go_num,by omega,hs.trans (Same.swp (by omega) (by omega)),xL HD.out (by omega) (by omega) hnl (by omega) (fun _=>by omega) h4,Lib.hid (fun k hk=>(Fq (by omega) (by omega) (by omega) (by omega) hk).trans (vU.out k hk)),hw3,hk2.trans hk3⟩
        case measure=>simp [intOf];omega
       have Tl:decide (at_ l' (2 * i+2) < at_ l' i)=false:=by simpa using h4
       go_wp2_with fail
       go_ret
       exact⟨⟨_,rfl⟩,l',hs,vT HD.out (fun _=>by omega) (fun _=>by omega),vU.out,hw2,hk2⟩
      have W8:decide (at_ l' (2 * i+2) < at_ l' (2 * i+1))=false:=by simpa using h3
      go_wp2_with fail
      refine (nM g l.length c (2 * i+1) i _ _ (by omega) (by omega) (at_ l' (2 * i+1)) (at_ l' i) _ (by omega) (by omega) (hw1.at (by omega)) (hw1.at (by omega))).mono ?_
      rintro e w2 ⟨rfl,m2,rfl⟩
      have hw2:=hw1.drewN m2
      have hk2:=hk1.drewN m2
      rw [World.drewN_drewN] at hw2 hk2
      by_cases h4:at_ l' (2 * i+1) < at_ l' i
      ·have LS:=L.swap _ (hw2.cell.trans (by rw [HL.out]))
       go_wp2_with fail
       have sw:=nN t o g c base l' i (2 * i+1)
       rw [hs.len] at sw
       refine (sw _ _ rfl (by omega) _ hw2 (by omega) (by omega) (by omega)).mono ?_
       rintro e w3 ⟨rfl,hw3,hk3⟩
       clear sw
       go_wp2_with fail
       go_roundw
       case rel=>exact⟨2 * i+1,_,by go_num,by omega,hs.trans (Same.swp (by omega) (by omega)),xL HD.out (by omega) (by omega) hnl (by omega) (fun _=>by omega) h4,Lib.hid (fun k hk=>(Fq (by omega) (by omega) (by omega) (by omega) hk).trans (vU.out k hk)),hw3,hk2.trans hk3⟩
       case measure=>simp [intOf];omega
      have Tl:decide (at_ l' (2 * i+1) < at_ l' i)=false:=by simpa using h4
      go_wp2_with fail
      go_ret
      exact⟨⟨_,rfl⟩,l',hs,vT HD.out (fun _=>by omega) (fun _=>by omega),vU.out,hw2,hk2⟩
     have Vr:decide ((2 * (i:Int)+1+1) < (n:Int))=false:=by simp;omega
     have hw1:=hw
     have hk1:=hk
     have LL:=L.less wr hc
     clear hw hk
     go_wp2_with fail
     refine (nM g l.length c (2 * i+1) i _ _ (by omega) (by omega) (at_ l' (2 * i+1)) (at_ l' i) _ (by omega) (by omega) (hw1.at (by omega)) (hw1.at (by omega))).mono ?_
     rintro e w2 ⟨rfl,m2,rfl⟩
     have hw2:=hw1.drewN m2
     have hk2:=hk1.drewN m2
     by_cases h4:at_ l' (2 * i+1) < at_ l' i
     ·have LS:=L.swap _ (hw2.cell.trans (by rw [HL.out]))
      go_wp2_with fail
      have sw:=nN t o g c base l' i (2 * i+1)
      rw [hs.len] at sw
      refine (sw _ _ rfl (by omega) _ hw2 (by omega) (by omega) (by omega)).mono ?_
      rintro e w3 ⟨rfl,hw3,hk3⟩
      clear sw
      go_wp2_with fail
      go_roundw
      case rel=>exact⟨2 * i+1,_,by go_num,by omega,hs.trans (Same.swp (by omega) (by omega)),xL HD.out (by omega) (by omega) hnl (by omega) (fun _=>by omega) h4,Lib.hid (fun k hk=>(Fq (by omega) (by omega) (by omega) (by omega) hk).trans (vU.out k hk)),hw3,hk2.trans hk3⟩
      case measure=>simp [intOf];omega
     have Tl:decide (at_ l' (2 * i+1) < at_ l' i)=false:=by simpa using h4
     go_wp2_with fail
     go_ret
     exact⟨⟨_,rfl⟩,l',hs,vT HD.out (fun _=>by omega) (fun _=>by omega),vU.out,hw2,hk2⟩
    have h1a:((n:Int)<=2 * (i:Int)+1):=by omega
    go_wp2_with fail
    go_ret
    exact⟨⟨_,rfl⟩,l',hs,vT HD.out (fun h=>absurd h h1) (fun h=>absurd h (by omega)),vU.out,hw,hk⟩
end
section
open Go.RowKit bH
theorem C0 (g n c i:Nat) (x:Int) (w:World) (hi:i < n) (ci:w.cell? ⟨g,i,none⟩=some (.int .i64 x)) (fi:w.frozen? ⟨g,i,none⟩=false) :
    Calls Tryz.prog 273 #[.slice (some ⟨g,0,none⟩) n c,.int .i64 i,.int .i64 i] w fun e w'=>e=.returned (.tuple #[])/\∃ m,w'=((w.setCell ⟨g,i,none⟩ (.int .i64 x)).setCell ⟨g,i,none⟩ (.int .i64 x)).drewN m:=by
  have hi':(i:Int) < (n:Int):=by omega
  go_enter Tryz.func273,Tryz.ntmps273
  go_wp2_with fail
  go_region
  go_end0
  exact⟨rfl,1,rfl⟩
theorem C2 (t o g c base n:Nat) (l:List Int) (hl:l.length=n+1) (j:Int) (hj:j=(n:Int)) (w:World) (h:HW t o g c base l w) :
    Calls Tryz.prog 273 #[.slice (some ⟨g,0,none⟩) (n+1) c,.int .i64 0,.int .i64 j] w fun e w'=>e=.returned (.tuple #[])/\HW t o g c base (swp l 0 n) w'/\Keeps (·=g) w w':=by
  subst hj
  by_cases h0:n=0
  ·subst h0
   have:=C0 g 1 c 0 (at_ l 0) w (by omega) (h.at (by omega)) (h.own.frozenAt 0)
   refine this.mono fun e w' ⟨he,m,hw⟩=>⟨he,?_,?_⟩
   ·rw [hw];exact (h.swap 0 0).drewN m
   rw [hw];exact (((Keeps.refl (·=g) w).setCell (p:=⟨g,0,none⟩) (.inr rfl) _).setCell (p:=⟨g,0,none⟩) (.inr rfl) _).drewN m
  have:=nN t o g c base l 0 n 0 n rfl rfl w h (by omega) (by omega) (by omega)
  rw [hl] at this
  exact this
theorem HW.pop {t o g c base n:Nat} {l:List Int} {w:World} (h:HW t o g c base l w) (hl:l.length=n+1):w.ownsRow base 3 1 (.slice (some ⟨g,0,none⟩) n c) n (ints (l.take n)):=by
  have e:ints l=ints (l.take n)++ints (l.drop n):=by simp only [ints,← List.map_append,List.take_append_drop]
  have h1:=h.own
  rw [e,hl] at h1
  exact ownsRow_pop (by simp [ints];omega) h1
theorem HW.cap {t o g c base:Nat} {l:List Int} {w:World} (h:HW t o g c base l w):l.length<=c:=by
  rcases h.own.2 with ⟨e,_⟩|⟨g',cap,cur,e,_,_,r,_⟩
  ·injection e with e;cases e
  injection e with e1 e2 e3
  omega
theorem MB (t o g c base n:Nat) (l:List Int) (w:World) (h:HW t o g c base l w) (hl:l.length=n+1) (hp:Hp (n+1) l) (hi:xK l) (hm:n+1<=1048576) (hf:w.frozen? ⟨t,o,none⟩=false) :
    Calls Tryz.prog 203 #[.iface 256 (.pointer (some ⟨t,o,none⟩))] w fun e w'=>e=.returned (.iface 3 (.int .i64 (at_ l 0))) ∧
      ∃ l' w1,l'.length=n/\Hp n l'/\xK l'/\(∀ x,x∈l'↔x∈l/\x≠at_ l 0)/\w1.ownsRow base 3 1 (.slice (some ⟨g,0,none⟩) n c) n (ints l')/\Keeps (·=g) w w1 ∧
        w'=w1.setCell ⟨t,o,none⟩ (.slice (some ⟨g,0,none⟩) n c):=by
  have L:=looks ⟨t,o,none⟩ (.slice (some ⟨g,0,none⟩) l.length c)
  have nn:=Ou ⟨t,o,none⟩
  have ns:=Fm ⟨t,o,none⟩
  have np:=SE ⟨t,o,none⟩
  have mp:=SD ⟨t,o,none⟩
  have LN:=L.len w h.cell
  have LS:=L.swap w h.cell
  have HL:=Lib.hid hl
  rw [hl] at LN LS
  clear hl
  go_enter Tryz.func203,Tryz.ntmps203
  go_wp2_with fail
  refine (Fo _ _ _ _).mono ?_
  rintro e w0 ⟨rfl,rfl⟩
  go_wp2_with fail
  refine (C2 t o g c base n l HL.out _ (by omega) _ h).mono ?_
  rintro e w1 ⟨rfl,hw1,hk1⟩
  go_wp2_with fail
  have hd:=KF t o g c base n (swp l 0 n) w1 hw1 (by rw [kH,HL.out];omega) (I7 hp HL.out) (by rw [kH,HL.out];exact hm)
  refine (hd.mono ?_)
  rintro e w2 ⟨⟨bb,rfl⟩,l',hs,hp',vU,hw2,hk2⟩
  clear hd
  have hlen:l'.length=n+1:=by rw [hs.len,kH,HL.out]
  have hcell:=hw2.cell
  rw [hlen] at hcell
  have hcap:=hw2.cap
  have htlt:=h.lt
  have hf2:w2.frozen? ⟨t,o,none⟩=false:=by
    rw [(hk1.trans hk2).frozen (p:=⟨t,o,none⟩) htlt h.ne]
    exact hf
  have hlast:at_ l' n=at_ l 0:=by
    rw [vU n (Nat.le_refl _),jq (by rw [HL.out];omega) (by rw [HL.out];omega)]
    simp [sw]
  have hx:=hw2.at (k:=n) (by omega)
  rw [hlast] at hx
  have I8:=Lib.hid hlen
  have SF:=Lib.hid hlast
  clear hlen hlast
  go_wp2_with fail
  refine (Mv t o g n c (at_ l 0) w2 (by have:=I8.out;omega) hcell hf2 hx hm).mono ?_
  rintro e w3 ⟨rfl,rfl⟩
  go_wp2_with fail
  go_ret
  have sm:=(Same.swp (l:=l) (i:=0) (j:=n) (by rw [HL.out];omega) (by rw [HL.out];omega)).trans hs
  refine⟨rfl,l'.take n,w2,by simp [I8.out],Pv hp',Mx (sm.inj hi),fun x=>?_,hw2.pop I8.out,hk1.trans hk2,rfl⟩
  rw [Pu I8.out (sm.inj hi),sm.mem,SF.out]
theorem GP (l:List Int) (x:Int):ints l++[.int .i64 x]=ints (l++[x]):=by simp [ints]
theorem KG (t o base:Nat) (v:Value) (l:List Int) (x:Int) (w:World) (ht:w.cell? ⟨t,o,none⟩=some v) (hf:w.frozen? ⟨t,o,none⟩=false) (hown:w.ownsRow base 3 1 v l.length (ints l))
    (hne:v.ownBlock≠some t) (hm:l.length+1<=1048576) (hbase:base<=w.heap.size) (hp:Hp l.length l) (htl:t < w.heap.size) :
    Calls Tryz.prog 169 #[.iface 256 (.pointer (some ⟨t,o,none⟩)),.iface 3 (.int .i64 x)] w fun e w'=>e=.returned (.tuple #[]) ∧
      ∃ g c l',Same (l++[x]) l'/\Hp l'.length l'/\HW t o g c base l' w'/\(v.ownBlock=some g\/w.heap.size<=g) ∧
        ∃ w1,Keeps (fun k=>v.ownBlock=some k) w w1/\Keeps (·=g) (w1.setCell ⟨t,o,none⟩ (.slice (some ⟨g,0,none⟩) (l.length+1) c)) w':=by
  have nn:=Ou ⟨t,o,none⟩
  have np:=QD ⟨t,o,none⟩
  have mp:=QC ⟨t,o,none⟩
  go_enter Tryz.func169,Tryz.ntmps169
  go_wp2_with fail
  refine (KD t o base l.length v (ints l) x w ht hf hown hne hm hbase).mono ?_
  rintro e w0 ⟨rfl,g,c,w1,hown1,hg1,I5,rfl⟩
  have hk1:Keeps (fun k=>v.ownBlock=some k) w w1:=(Keeps.refl _ _).grown hg1 (fun k hk=>.inr hk)
  have hgt:t≠g:=by
    rintro rfl
    rcases I5 with h|h
    ·exact hne h
    omega
  have ht1:w1.cell? ⟨t,o,none⟩=some v:=(hk1.cell (p:=⟨t,o,none⟩) htl hne).trans ht
  have HW1:HW t o g c base (l++[x]) (w1.setCell ⟨t,o,none⟩ (.slice (some ⟨g,0,none⟩) (l.length+1) c)):=by
    refine⟨?_,?_,hgt,by simpa [World.setCell] using Nat.lt_of_lt_of_le htl hk1.size⟩
    ·rw [World.cell?_setCell_same _ _ _ ht1];simp
    rw [List.length_append,List.length_singleton,← GP]
    refine Keeps.ownsRow (S:=(·=t)) ((Keeps.refl (·=t) w1).setCell (p:=⟨t,o,none⟩) (.inr rfl) _) hown1 ?_
    intro k hk e
    simp [Value.ownBlock] at hk
    omega
  have hc:=HW1.cell
  rw [List.length_append,List.length_singleton] at hc
  generalize hW:w1.setCell ⟨t,o,none⟩ (.slice (some ⟨g,0,none⟩) (l.length+1) c)=w2 at *
  have LN:=(looks ⟨t,o,none⟩ (.slice (some ⟨g,0,none⟩) (l.length+1) c)).len w2 hc
  have Vs:=Lib.hid hW
  clear hW ht1 hown1 hown hg1
  go_wp2_with fail
  refine (Fo _ _ _ _).mono ?_
  rintro e w3 ⟨rfl,rfl⟩
  go_wp2_with fail
  have hu:=Pw t o g c base (l++[x]) l.length w3 HW1 (by simp) (Mw hp x) (by simpa using hm)
  refine hu.mono ?_
  rintro e w4 ⟨rfl,l',hs,hp',hw4,hk4⟩
  go_wp2_with fail
  go_end0
  exact⟨rfl,g,c,l',hs,hp',hw4,I5,w1,hk1,by rw [Vs.out];exact hk4⟩
end
end Go.Proofs.YtidjcblbdmfalaaGreat
section
namespace Go.Proofs.YtidjcblbdmfalaaGreat.aE
open bH
variable {V U:Type}
abbrev Used (V:Type):=List (Int×V)
def keys (us:Used V):List Int:=us.map (·.1)
def get (us:Used V) (h:Int):Option V:=(us.find? (fun p=>p.1 == h)).map (·.2)
def dh:List Int->Prop:=List.Pairwise (· < ·)
def iD:Int->List Int->Int
  | h,[]=>h
  | h,k::r=>if k=h then iD (h+1) r else h
def least (us:Used V):Int:=iD 1 (keys us)
def ins (h:Int) (v:V):Used V->Used V
  | []=>[(h,v)]
  | p::r=>if h < p.1 then (h,v)::p::r else p::ins h v r
def del (h:Int) (us:Used V):Used V:=us.filter (fun p=>p.1 != h)
def WD (h:Int) (v:V) (us:Used V):Used V:=us.map (fun p=>if p.1 == h then (h,v) else p)
structure TI (next:Int) (l:List Int) (us:Used V):Prop where
  rise:dh (keys us)
  pos:∀ h∈keys us,1<=h/\h < next
  back:∀ h∈l,1<=h/\h < next/\h∉keys us
  all:∀ h,1<=h->h < next->h∈keys us\/h∈l
  count:(us.length:Int)+l.length=next - 1
  heap:Hp l.length l
  inj:xK l
theorem keys_cons (p:Int×V) (us:Used V):keys (p::us)=p.1::keys us:=rfl
theorem keys_map (f:V->U) (us:Used V):keys (us.map fun p=>(p.1,f p.2))=keys us:=by simp [keys]
theorem get_none {us:Used V} {h:Int}:get us h=none↔h∉keys us:=by
  unfold get keys
  rw [Option.map_eq_none_iff,List.find?_eq_none]
  simp only [List.mem_map,not_exists,not_and,beq_iff_eq]
theorem get_some {us:Used V} {h:Int} {v:V} (e:get us h=some v):h∈keys us:=by
  apply Classical.byContradiction
  intro hn
  rw [get_none.2 hn] at e;cases e
theorem get_map (f:V->U) (us:Used V) (h:Int):get (us.map fun p=>(p.1,f p.2)) h=(get us h).map f:=by
  unfold get
  rw [List.find?_map]
  simp only [Function.comp_def,Option.map_map]
theorem lq (h:Int) (v:V) (us:Used V) (x:Int):x∈keys (ins h v us)↔x=h\/x∈keys us:=by
  induction us with
  | nil=>simp [ins,keys]
  | cons p r ih=>
    unfold ins
    split
    ·simp [keys]
    rw [keys_cons,keys_cons,List.mem_cons,List.mem_cons,ih]
    constructor
    ·rintro (h1|h1|h1)
     ·exact .inr (.inl h1)
     ·exact .inl h1
     exact .inr (.inr h1)
    rintro (h1|h1|h1)
    ·exact .inr (.inl h1)
    ·exact .inl h1
    exact .inr (.inr h1)
theorem vV {h:Int} {v:V} {us:Used V} (hr:dh (keys us)) (hn:h∉keys us):dh (keys (ins h v us)):=by
  induction us with
  | nil=>simp [ins,keys,dh]
  | cons p r ih=>
    unfold dh at *
    rw [keys_cons,List.pairwise_cons] at hr
    rw [keys_cons,List.mem_cons,not_or] at hn
    unfold ins
    split
    ·rename_i hlt
     rw [keys_cons,keys_cons,List.pairwise_cons,List.pairwise_cons]
     refine⟨?_,hr⟩
     intro x hx
     rcases List.mem_cons.1 hx with e|e
     ·rw [e];exact hlt
     have:=hr.1 x e;show h < x;omega
    rename_i hlt
    rw [keys_cons,List.pairwise_cons]
    refine⟨fun x hx=>?_,ih hr.2 hn.2⟩
    rcases (lq h v r x).1 hx with e|e
    ·rw [e];have:=hn.1;omega
    exact hr.1 x e
theorem su {h:Int} {v:V} {us:Used V} (hn:h∉keys us) (x:Int):get (ins h v us) x=if x=h then some v else get us x:=by
  induction us with
  | nil=>
    by_cases e:x=h
    ·subst e;simp [ins,get]
    simp [ins,get,e,Ne.symm e]
  | cons p r ih=>
    rw [keys_cons,List.mem_cons,not_or] at hn
    unfold ins
    split
    ·unfold get
     by_cases e:x=h
     ·subst e;simp
     simp [e,Ne.symm e]
    have ih':=ih hn.2
    unfold get at ih' ⊢
    rw [List.find?_cons,List.find?_cons]
    by_cases e:p.1=x
    ·have:x≠h:=by rintro rfl;exact hn.1 e.symm
     simp [e,this]
    simp only [show (p.1 == x)=false by simpa using e]
    exact ih'
theorem iP (h:Int) (v:V) (us:Used V):(ins h v us).length=us.length+1:=by
  induction us with
  | nil=>rfl
  | cons p r ih=>unfold ins;split<;>simp [ih]
theorem MC {h:Int} {v:V} {us:Used V} (hl:∀ x∈keys us,x < h):ins h v us=us++[(h,v)]:=by
  induction us with
  | nil=>rfl
  | cons p r ih=>
    rw [keys_cons] at hl
    have h1:=hl p.1 (by simp)
    unfold ins
    rw [if_neg (by omega),ih (fun x hx=>hl x (by simp [hx]))]
    rfl
theorem Hv (f:V->U) (h:Int) (v:V) (us:Used V):(ins h v us).map (fun p=>(p.1,f p.2))=ins h (f v) (us.map fun p=>(p.1,f p.2)):=by
  induction us with
  | nil=>rfl
  | cons p r ih=>unfold ins;simp only [List.map_cons];split<;>simp_all
theorem Hw (f:V->U) (h:Int) (us:Used V):(del h us).map (fun p=>(p.1,f p.2))=del h (us.map fun p=>(p.1,f p.2)):=by
  unfold del;rw [List.filter_map];rfl
theorem og (h:Int) (us:Used V):keys (del h us)=(keys us).filter (· != h):=by
  unfold keys del;rw [List.filter_map];rfl
theorem uP (h:Int) (us:Used V) (x:Int):get (del h us) x=if x=h then none else get us x:=by
  by_cases e:x=h
  ·subst e
   rw [if_pos rfl,get_none,og]
   simp
  rw [if_neg e]
  unfold get del
  rw [List.find?_filter]
  congr 2
  funext p
  by_cases e2:p.1=x
  ·simp [e2,e]
  simp [e2]
theorem qb {h:Int} {us:Used V} (hr:dh (keys us)) (hm:h∈keys us):(del h us).length+1=us.length:=by
  induction us with
  | nil=>simp [keys] at hm
  | cons p r ih=>
    unfold dh at *
    rw [keys_cons,List.pairwise_cons] at hr
    unfold del at ih ⊢
    rw [List.filter_cons]
    by_cases e:p.1=h
    ·have:r.filter (fun q=>q.1 != h)=r:=by
       rw [List.filter_eq_self]
       intro q hq
       have:=hr.1 q.1 (List.mem_map_of_mem hq)
       simp;omega
     simp [e,this]
    rw [keys_cons,List.mem_cons] at hm
    have:=ih hr.2 (hm.resolve_left (Ne.symm e))
    simp [e];omega
theorem nh:∀ (ks:List Int) (h:Int),dh ks->(∀ x∈ks,h<=x)->h<=iD h ks/\iD h ks∉ks/\∀ x,h<=x->x < iD h ks->x∈ks
  | [],h,_,_=>⟨Int.le_refl _,by simp [iD],fun x h1 h2=>by simp [iD] at h2;omega⟩
  | k::r,h,hr,hge=>by
    unfold dh at hr
    rw [List.pairwise_cons] at hr
    unfold iD
    by_cases e:k=h
    ·rw [if_pos e]
     obtain⟨i1,i2,i3⟩:=nh r (h+1) hr.2 (fun x hx=>by have:=hr.1 x hx;omega)
     refine⟨by omega,?_,fun x h1 h2=>?_⟩
     ·rw [List.mem_cons,not_or];exact⟨by omega,i2⟩
     by_cases e2:x=h
     ·rw [e2,← e];simp
     exact List.mem_cons_of_mem _ (i3 x (by omega) h2)
    rw [if_neg e]
    refine⟨Int.le_refl _,?_,fun x h1 h2=>by omega⟩
    rw [List.mem_cons,not_or]
    refine⟨Ne.symm e,fun hm=>?_⟩
    have h1:=hr.1 h hm
    have h2:=hge k (by simp)
    omega
theorem xM {us:Used V} (hr:dh (keys us)) (hp:∀ x∈keys us,1<=x) {h:Int} (h1:1<=h) (hn:h∉keys us) (hall:∀ x,1<=x->x < h->x∈keys us):least us=h:=by
  obtain⟨i1,i2,i3⟩:=nh (keys us) 1 hr hp
  unfold least
  rcases Int.lt_trichotomy (iD 1 (keys us)) h with hlt|he|hgt
  ·exact absurd (hall _ i1 hlt) i2
  ·exact he
  exact absurd (i3 h h1 hgt) hn
theorem TI.empty:TI 1 [] ([]:Used V):=
  ⟨List.Pairwise.nil,by simp [keys],by simp,fun h h1 h2=>by omega,rfl,fun i h1 h2=>by simp at h2,fun a b h1=>by simp at h1⟩
theorem TI.BJ {next:Int} {us:Used V} (h:TI next [] us):least us=next:=by
  have hc:=h.count
  simp at hc
  refine xM h.rise (fun x hx=>(h.pos x hx).1) (by omega) (fun hm=>?_) (fun x h1 h2=>(h.all x h1 h2).resolve_right (by simp))
  have:=(h.pos _ hm).2;omega
theorem TI.ME {next:Int} {us:Used V} (h:TI next [] us) (v:V):TI (next+1) [] (ins next v us):=by
  have hc:=h.count
  simp at hc
  have hn:next∉keys us:=fun hm=>by have:=(h.pos _ hm).2;omega
  refine⟨vV h.rise hn,fun x hx=>?_,by simp,fun x h1 h2=>?_,by rw [iP];simp;omega,fun i h1 h2=>by simp at h2,fun a b h1=>by simp at h1⟩
  ·rcases (lq next v us x).1 hx with e|e
   ·omega
   have:=h.pos x e;omega
  by_cases e:x=next
  ·exact .inl ((lq next v us x).2 (.inl e))
  exact .inl ((lq next v us x).2 (.inr ((h.all x h1 (by omega)).resolve_right (by simp))))
theorem TI.BK {next:Int} {l:List Int} {us:Used V} (h:TI next l us) (hl:0 < l.length):least us=at_ l 0:=by
  have hm:at_ l 0∈l:=sM.2 ⟨0,hl,rfl⟩
  obtain⟨b1,b2,b3⟩:=h.back _ hm
  refine xM h.rise (fun x hx=>(h.pos x hx).1) b1 b3 (fun x h1 h2=>(h.all x h1 (by omega)).resolve_right (fun hx=>?_))
  obtain⟨k,hk,e⟩:=sM.1 hx
  have:=bH.least h.heap k hk
  omega
theorem TI.MF {next:Int} {l l':List Int} {us:Used V} (h:TI next l us) (hl:0 < l.length) (v:V) (hlen:l'.length+1=l.length) (hp:Hp l'.length l') (hi:xK l') (hm:∀ x,x∈l'↔x∈l/\x≠at_ l 0) :
    TI next l' (ins (at_ l 0) v us):=by
  have h0:at_ l 0∈l:=sM.2 ⟨0,hl,rfl⟩
  obtain⟨b1,b2,b3⟩:=h.back _ h0
  have hc:=h.count
  refine⟨vV h.rise b3,fun x hx=>?_,fun x hx=>?_,fun x h1 h2=>?_,by rw [iP];push_cast;omega,hp,hi⟩
  ·rcases (lq _ v us x).1 hx with e|e
   ·omega
   exact h.pos x e
  ·have hx':=(hm x).1 hx
   have:=h.back x hx'.1
   refine⟨this.1,this.2.1,fun hk=>?_⟩
   rcases (lq _ v us x).1 hk with e|e
   ·exact hx'.2 e
   exact this.2.2 e
  by_cases e:x=at_ l 0
  ·exact .inl ((lq _ v us x).2 (.inl e))
  rcases h.all x h1 h2 with h3|h3
  ·exact .inl ((lq _ v us x).2 (.inr h3))
  exact .inr ((hm x).2 ⟨h3,e⟩)
theorem TI.drop {next h0:Int} {l l':List Int} {us:Used V} (h:TI next l us) (hm:h0∈keys us) (hs:Same (l++[h0]) l') (hp:Hp l'.length l'):TI next l' (del h0 us):=by
  obtain⟨p1,p2⟩:=h.pos _ hm
  have hn:h0∉l:=fun hx=>(h.back _ hx).2.2 hm
  have hlen:=hs.len
  rw [List.length_append,List.length_singleton] at hlen
  have hc:=h.count
  have hd:=qb h.rise hm
  refine⟨?_,fun x hx=>?_,fun x hx=>?_,fun x h1 h2=>?_,by omega,hp,hs.inj ?_⟩
  ·rw [og];exact List.Pairwise.filter _ h.rise
  ·rw [og,List.mem_filter] at hx
   exact h.pos x hx.1
  ·rw [hs.mem,List.mem_append,List.mem_singleton] at hx
   rw [og,List.mem_filter]
   rcases hx with hx|hx
   ·have:=h.back x hx
    exact⟨this.1,this.2.1,fun hk=>this.2.2 hk.1⟩
   subst hx
   exact⟨p1,p2,fun hk=>by simp at hk⟩
  ·rw [og,List.mem_filter,hs.mem,List.mem_append,List.mem_singleton]
   rcases h.all x h1 h2 with h3|h3
   ·by_cases e:x=h0
    ·exact .inr (.inr e)
    exact .inl ⟨h3,by simpa using e⟩
   exact .inr (.inl h3)
  intro a b ha hb e
  rw [List.length_append,List.length_singleton] at ha hb
  have g:∀ k,k < l.length->at_ (l++[h0]) k=at_ l k:=fun k hk=>by
    unfold at_;rw [List.getD_eq_getElem?_getD,List.getD_eq_getElem?_getD,List.getElem?_append_left hk]
  have g2:at_ (l++[h0]) l.length=h0:=by unfold at_;simp [List.getD_eq_getElem?_getD]
  have inl:∀ k,k < l.length->at_ l k≠h0:=fun k hk e=>hn (e ▸ sM.2 ⟨k,hk,rfl⟩)
  by_cases ha':a < l.length
  ·by_cases hb':b < l.length
   ·rw [g a ha',g b hb'] at e;exact h.inj a b ha' hb' e
   obtain rfl:b=l.length:=by omega
   rw [g a ha',g2] at e;exact absurd e (inl a ha')
  obtain rfl:a=l.length:=by omega
  by_cases hb':b < l.length
  ·rw [g b hb',g2] at e;exact absurd e.symm (inl b hb')
  omega
end Go.Proofs.YtidjcblbdmfalaaGreat.aE
end
namespace Go.Proofs.YtidjcblbdmfalaaGreat
section
open Go.RowKit bH aE Go.Maps
def bp (us:Used Value):Lit->Option Value
  | .int .i64 h=>aE.get us h
  | _=>none
theorem C3 {us:Used Value} {h:Int} (hn:h∉keys us) (v:Value):upd (bp us) (.int .i64 h) (some v)=bp (ins h v us):=by
  funext x
  unfold upd bp
  cases x with
  | int k n=>
    by_cases hk:k=.i64
    ·subst hk
     simp only [Lit.sameKey,true_and,decide_eq_true_eq]
     rw [su hn]
    have e:(Lit.int k n).sameKey (.int .i64 h)=false:=by simp [Lit.sameKey,hk]
    rw [e]
    cases k<;>first|rfl|exact absurd rfl hk
  | _=>rfl
theorem Hy {us:Used Value} {h:Int}:upd (bp us) (.int .i64 h) none=bp (del h us):=by
  funext x
  unfold upd bp
  cases x with
  | int k n=>
    by_cases hk:k=.i64
    ·subst hk
     simp only [Lit.sameKey,true_and,decide_eq_true_eq]
     rw [uP]
    have e:(Lit.int k n).sameKey (.int .i64 h)=false:=by simp [Lit.sameKey,hk]
    rw [e]
    cases k<;>first|rfl|exact absurd rfl hk
  | _=>rfl
structure Uy (TT:TypeId) (t m base:Nat) (v:Value) (l:List Int) (next most aD:Int) (us:Used Value) (w:World):Prop where
  blk:w.heap[t]?=some (.cells #[.int .i64 most,.int .i64 aD,.map (some m),v,.int .i64 next] TT (0,0))
  map:fJ Tryz.prog 3 w m (bp us) us.length
  own:w.ownsRow base 3 1 v l.length (ints l)
  ti:TI next l us
  vW:(us.length:Int)<=most
  vX:most<=1024
  vY:next<=most+1
  tt:TT≠3
  bt:base<=t
  bm:base<=m
  y4:0<=aD/\aD<=1024
def W9 (TT:TypeId) (t m base:Nat) (row:Option Nat) (most aD:Int) (us:Used Value) (w:World):Prop:=
  ∃ v l next,Uy TT t m base v l next most aD us w/\v.ownBlock=row
section tab
variable {TT:TypeId} {t m base:Nat} {v:Value} {l:List Int} {next most aD:Int} {us:Used Value} {w w':World} {row:Option Nat}
end tab
end
section
open Go.RowKit bH aE Go.Maps
theorem Spec.Tm {P:Program} {β:Bs} {f:FuncId} {args:Array Value} {pre:List HP} {post:Value->List HP->Prop}
    (h:∀ F w,(Proofs.YtidjcblbdmfalaaGreat.fS pre).h F w->Calls P f args w fun e w'=>∃ v l,e=.returned v/\post v l/\∃ F',(Proofs.YtidjcblbdmfalaaGreat.fS l).h F' w'/\Step F w F' w'):Spec P β f args pre post:=by
  intro R w hS
  have h1:Sat β ([.abs (Proofs.YtidjcblbdmfalaaGreat.fS pre)]++[.abs R]) w:=Sat.turn (Sat.turn hS).fS
  have h2:Spec P β f args [.abs (Proofs.YtidjcblbdmfalaaGreat.fS pre)] (fun v l=>∃ l0,post v l0/\l=[.abs (Proofs.YtidjcblbdmfalaaGreat.fS l0)]):=
    Spec.Vk (fun F w hF=>(h F w hF).mono fun _ _ ⟨v,l,e,hp,hF'⟩=>⟨v,.abs (Proofs.YtidjcblbdmfalaaGreat.fS l),e,⟨l,hp,rfl⟩,hF'⟩)
  refine (h2 R w h1).mono ?_
  rintro e w' ⟨v,l,he,⟨l0,hp,rfl⟩,uQ⟩
  exact⟨v,l0,he,hp,Sat.turn (Sat.turn uQ).qA⟩
theorem EI {p q:HP} {F:Fp} {w:World}:(fS [p,q]).h F w↔∃ F1 F2,p.h F1 w/\q.h F2 w/\Apart F1 F2/\∀ k,F k↔F1 k\/F2 k:=by
  constructor
  ·rintro⟨φ,h1,h2,h3⟩
   refine⟨φ 0,φ 1,h1 0 p rfl,h1 1 q rfl,h2 0 1 (by simp) (by simp) (by decide),fun k=>(h3 k).trans ⟨fun ⟨i,hi,hk⟩=>?_,fun h=>?_⟩⟩
   ·have hi:i < 2:=hi
    rcases (by omega:i=0\/i=1) with rfl|rfl
    ·exact .inl hk
    exact .inr hk
   rcases h with h|h
   ·exact⟨0,by simp,h⟩
   exact⟨1,by simp,h⟩
  rintro⟨F1,F2,h1,h2,h3,h4⟩
  refine⟨fun i=>if i=0 then F1 else F2,fun i x hx=>?_,fun i j hi hj hne=>?_,fun k=>(h4 k).trans ⟨fun h=>?_,fun ⟨i,hi,hk⟩=>?_⟩⟩
  ·match i,hx with
   | 0,hx=>cases hx;exact h1
   | 1,hx=>cases hx;exact h2
  ·have hi:i < 2:=hi
   have hj:j < 2:=hj
   rcases (by omega:(i=0/\j=1)\/(i=1/\j=0)) with ⟨rfl,rfl⟩|⟨rfl,rfl⟩
   ·exact h3
   exact h3.symm
  ·rcases h with h|h
   ·exact⟨0,by simp,h⟩
   exact⟨1,by simp,h⟩
  have hi:i < 2:=hi
  rcases (by omega:i=0\/i=1) with rfl|rfl
  ·exact .inl hk
  exact .inr hk
theorem Sat.SG {β:Bs} {l:List HP} {w:World} {A:cE} {ι:Type} {Φ:ι->Prop} {L:ι->List HP} (h:Sat β (l++[.abs A]) w) (hA:∀ F,A.h F w->∃ i,Φ i/\(Proofs.YtidjcblbdmfalaaGreat.fS (L i)).h F w):∃ i,Φ i/\Sat β (l++L i) w:=by
  obtain⟨F,hF⟩:=h.get (i:=l.length) (p:=.abs A) (by simp)
  have h0:=h
  obtain⟨ho,φ,h1,h2,h3⟩:=h
  obtain⟨i,hi,hB⟩:=hA _ (h1 l.length (.abs A) (by simp))
  refine⟨i,hi,Sat.qA ⟨ho,φ,fun j p hp=>?_,fun j hj=>h2 j (by simpa using hj),fun a b ha hb=>h3 a b (by simpa using ha) (by simpa using hb)⟩⟩
  by_cases e:j < l.length
  ·rw [List.getElem?_append_left e] at hp
   exact h1 j p (by rw [List.getElem?_append_left e];exact hp)
  have hj:j=l.length:=by have:=bE hp;simp at this;omega
  subst hj
  simp at hp
  subst hp
  exact hB
theorem Sat.QF {β:Bs} {l R:List HP} {w:World} {A:cE} (h:Sat β (l++R) w) (hA:∀ F,(Proofs.YtidjcblbdmfalaaGreat.fS R).h F w->A.h F w):Sat β (l++[.abs A]) w:=by
  obtain⟨ho,φ,h1,h2,h3⟩:=h.fS
  refine⟨ho,φ,fun j p hp=>?_,fun j hj=>h2 j (by simpa using hj),fun a b ha hb=>h3 a b (by simpa using ha) (by simpa using hb)⟩
  by_cases e:j < l.length
  ·rw [List.getElem?_append_left e] at hp
   exact h1 j p (by rw [List.getElem?_append_left e];exact hp)
  have hj:j=l.length:=by have:=bE hp;simp at this;omega
  subst hj
  simp at hp
  subst hp
  exact hA _ (h1 l.length (.abs (Proofs.YtidjcblbdmfalaaGreat.fS R)) (by simp))
section rules
variable {P:Program} {β:Bs} {N:Nat} {ops:Array Oper} {k:Nat} {fr:Fr} {hps:List HP} {Q:Post} {c:Code} {e:Exit}
theorem af.Fs {ι:Type} {Φ:ι->Prop} {hp:ι->List HP} (h:∀ w,Sat β hps w->∃ i,Φ i/\Sat β (hp i) w) (K:∀ i,Φ i->af P β N c fr (hp i) Q):af P β N c fr hps Q:=fun junk w hS=>let ⟨i,hi,dM⟩:=h w hS;K i hi junk w dM
end rules
theorem wO {w:World} {t j:Nat} {cs:List Value} {T:TypeId} {u:Value} (h:w.heap[t]?=some (.cells ⟨cs⟩ T (0,0))):(w.setCell ⟨t,j,none⟩ u).heap[t]?=some (.cells ⟨cs.set j u⟩ T (0,0)):=by
  simp [World.setCell,Array.getElem?_modify,h,Array.setIfInBounds_def]
  exact fun h=>(List.set_eq_of_length_le h).symm
theorem QG {β:Bs} {T:TypeId} {a b c e:Value} {t g cap n:Nat} {l:List Int} (hl:l.length=n+1) (hp:Hp (n+1) l) (hi:xK l) (hm:n+1<=1048576) :
    Spec Tryz.prog β 203 #[.iface 256 (.pointer (some ⟨t,3,none⟩))] [.blk t [a,b,c,.slice (some ⟨g,0,none⟩) l.length cap,e] T,.abs (av 3 1 (some ⟨g,0,none⟩) l.length cap (ints l))]
      (fun v r=>v=.iface 3 (.int .i64 (at_ l 0))/\∃ l':List Int,l'.length=n/\Hp n l'/\xK l'/\(∀ x,x∈l'↔x∈l/\x≠at_ l 0)/\r=[.blk t [a,b,c,.slice (some ⟨g,0,none⟩) n cap,e] T,.abs (av 3 1 (some ⟨g,0,none⟩) n cap (ints l'))]):=by
  refine Spec.Tm (fun F w h=>?_)
  obtain⟨F1,F2,⟨h1,h2⟩,hr,hap,hF⟩:=EI.1 h
  have hr:(av 3 1 (some ⟨g,0,none⟩) l.length cap (ints l)).h F2 w:=hr
  obtain⟨hr1,hr2⟩:=hr
  have hg:F2 g:=(hr2 g).2 rfl
  have hne:t≠g:=fun e=>hap t ((h2 t).2 rfl) (e ▸ hg)
  have hc:w.cell? ⟨t,3,none⟩=some (.slice (some ⟨g,0,none⟩) l.length cap)/\w.frozen? ⟨t,3,none⟩=false:=gI h1 rfl rfl rfl
  have hW:HW t 3 g cap 0 l w:=⟨hc.1,hr1,hne,lt_of_some h1⟩
  refine (MB t 3 g cap 0 n l w hW hl hp hi hm hc.2).mono ?_
  rintro e' w' ⟨rfl,l',w1,g1,g2,g3,g4,g5,g6,rfl⟩
  have h1':w1.heap[t]?=some (.cells ⟨[a,b,c,.slice (some ⟨g,0,none⟩) l.length cap,e]⟩ T (0,0)):=(g6.block t (lt_of_some h1) (fun e=>hne e)).trans h1
  have hks:Keeps (·=t) w1 (w1.setCell ⟨t,3,none⟩ (.slice (some ⟨g,0,none⟩) n cap)):=(Keeps.refl (·=t) w1).setCell (p:=⟨t,3,none⟩) (.inr rfl) _
  refine⟨_,_,rfl,⟨rfl,l',g1,g2,g3,g4,rfl⟩,F,EI.2 ⟨F1,F2,⟨wO h1',h2⟩,⟨hks.ownsRow g5 (fun k hk e=>?_),fun k=>?_⟩,hap,hF⟩,⟨?_,fun _ h=>.inl h⟩⟩
  ·cases hk;exact hne e.symm
  ·rw [hr2 k];simp [Value.ownBlock]
  exact (g6.mono (S':=F) (fun k _ e=>(hF k).2 (.inr (e ▸ hg)))).trans (hks.mono (fun k _ e=>(hF k).2 (.inl ((h2 k).2 e))))
theorem Px {β:Bs} {T:TypeId} {a b c e:Value} {t cap:Nat} {A:Option Addr} {l:List Int} (x:Int) (hp:Hp l.length l) (hm:l.length+1<=1048576) :
    Spec Tryz.prog β 169 #[.iface 256 (.pointer (some ⟨t,3,none⟩)),.iface 3 (.int .i64 x)] [.blk t [a,b,c,.slice A l.length cap,e] T,.abs (av 3 1 A l.length cap (ints l))]
      (fun v r=>v=.tuple #[]/\∃ (g c':Nat) (l':List Int),Same (l++[x]) l'/\Hp l'.length l'/\r=[.blk t [a,b,c,.slice (some ⟨g,0,none⟩) l'.length c',e] T,.abs (av 3 1 (some ⟨g,0,none⟩) l'.length c' (ints l'))]):=by
  refine Spec.Tm (fun F w h=>?_)
  obtain⟨F1,F2,⟨h1,h2⟩,hr,hap,hF⟩:=EI.1 h
  have hr:(av 3 1 A l.length cap (ints l)).h F2 w:=hr
  obtain⟨hr1,hr2⟩:=hr
  have hc:w.cell? ⟨t,3,none⟩=some (.slice A l.length cap)/\w.frozen? ⟨t,3,none⟩=false:=gI h1 rfl rfl rfl
  have hne:(Value.slice A l.length cap).ownBlock≠some t:=fun e=>hap t ((h2 t).2 rfl) ((hr2 t).2 e)
  refine (KG t 3 0 (.slice A l.length cap) l x w hc.1 hc.2 hr1 hne hm (Nat.zero_le _) hp (lt_of_some h1)).mono ?_
  rintro e' w' ⟨rfl,g,c',l',g1,g2,g3,g4,w1,g5,g6⟩
  have Hz:t≠g:=g3.ne
  have hlen:l'.length=l.length+1:=by have:=g1.len;simp at this;omega
  have h1':w1.heap[t]?=some (.cells ⟨[a,b,c,.slice A l.length cap,e]⟩ T (0,0)):=(g5.block t (lt_of_some h1) hne).trans h1
  have QH:=wO (j:=3) (u:=.slice (some ⟨g,0,none⟩) (l.length+1) c') h1'
  have Uz:w'.heap[t]?=some (.cells ⟨[a,b,c,.slice (some ⟨g,0,none⟩) l'.length c',e]⟩ T (0,0)):=by
    rw [hlen];exact (g6.block t (lt_of_some QH) Hz).trans QH
  have hks:Keeps (·=t) w1 (w1.setCell ⟨t,3,none⟩ (.slice (some ⟨g,0,none⟩) (l.length+1) c')):=(Keeps.refl (·=t) w1).setCell (p:=⟨t,3,none⟩) (.inr rfl) _
  refine⟨_,_,rfl,⟨rfl,g,c',l',g1,g2,rfl⟩,fun k=>F1 k\/k=g,EI.2 ⟨F1,fun k=>k=g,⟨Uz,h2⟩,⟨g3.own,fun k=>?_⟩,fun k hk e=>Hz (((h2 k).1 hk).symm.trans e),fun k=>Iff.rfl⟩,⟨?_,fun k hk=>?_⟩⟩
  ·simp [Value.ownBlock,eq_comm]
  ·have k1:Keeps F w w1:=g5.mono (fun k _ hk=>(hF k).2 (.inr ((hr2 k).2 hk)))
   have k2:Keeps F w (w1.setCell ⟨t,3,none⟩ (.slice (some ⟨g,0,none⟩) (l.length+1) c')):=k1.trans (hks.mono (fun k _ e=>(hF k).2 (.inl ((h2 k).2 e))))
   exact k2.andThen g6 (fun i hi e=>by
     rcases g4 with g4|g4
     ·exact (hF i).2 (.inr ((hr2 i).2 (e ▸ g4)))
     subst e;omega)
  rcases hk with hk|rfl
  ·exact .inl ((hF k).2 (.inl hk))
  rcases g4 with g4|g4
  ·exact .inl ((hF _).2 (.inr ((hr2 _).2 g4)))
  exact .inr g4
structure iW (next:Int) (l:List Int) (us:Used Value) (most aD:Int):Prop where
  ti:TI next l us
  vW:(us.length:Int)<=most
  vX:most<=1024
  vY:next<=most+1
  BL:next<=aD+1
  y4:0<=aD/\aD<=1024
theorem iW.KH {next:Int} {l:List Int} {us:Used Value} {most aD:Int} (h:iW next l us most aD):1<=aE.least us/\aE.least us<=next/\aE.least us∉keys us/\next<=1025/\1<=next/\us.length<=1024/\l.length<=1024:=by
  obtain⟨h1,h2,h3⟩:=nh (keys us) 1 h.ti.rise (fun x hx=>(h.ti.pos x hx).1)
  have hc:=h.ti.count
  have m0:=h.vW
  have m1:=h.vX
  have n1:=h.vY
  refine⟨h1,?_,h2,by omega,by omega,by omega,by omega⟩
  rcases Int.lt_or_le next (aE.least us) with h4|h4
  ·have:=h3 next (by omega) h4
   have:=(h.ti.pos _ this).2
   omega
  exact h4
theorem Fu:bp []=fun _=>none:=by
  funext x
  unfold bp
  split<;>rfl
theorem DS {us:Used Value} {h:Int} (hn:h∉keys us):bp us (.int .i64 h)=none:=get_none.2 hn
structure TX where
  m:Nat
  A:Option Addr
  c:Nat
  l:List Int
  next:Int
def oh (TT:TypeId) (t:Nat) (most aD:Int) (us:Used Value) (x:TX):List HP:=
  [.blk t [.int .i64 most,.int .i64 aD,.map (some x.m),.slice x.A x.l.length x.c,.int .i64 x.next] TT,.abs (aN Tryz.prog 3 x.m (bp us) us.length),.abs (av 3 1 x.A x.l.length x.c (ints x.l))]
def cV (TT:TypeId) (t:Nat) (most aD:Int) (us:Used Value):cE where
  h F w:=∃ x:TX,iW x.next x.l us most aD/\(fS (oh TT t most aD us x)).h F w
  lt:=fun ⟨_,_,h⟩ k hk=>cE.lt _ h k hk
  st:=fun ⟨x,h1,h⟩ _ _ hk hn=>⟨x,h1,cE.st _ h hk hn⟩
theorem Sat.uR {β:Bs} {TT:TypeId} {t:Nat} {most aD:Int} {us:Used Value} {l:List HP} {w:World} (h:Sat β (l++[.abs (cV TT t most aD us)]) w):∃ x:TX,iW x.next x.l us most aD/\Sat β (l++oh TT t most aD us x) w:=
  h.SG (fun _ h=>h)
theorem Sat.ol {β:Bs} {TT:TypeId} {t:Nat} {most aD:Int} {us:Used Value} {l:List HP} {w:World} (x:TX) (hx:iW x.next x.l us most aD) (h:Sat β (l++oh TT t most aD us x) w):Sat β (l++[.abs (cV TT t most aD us)]) w:=
  h.QF (fun _ h=>⟨x,hx,h⟩)
end
section
open Go.RowKit Go.Maps Go.Sort Go.Shelf bH aE
theorem gX {z:Int} (h:(Lit.int .i64 z).wf=true):keyOf Tryz.prog 3 (.int .i64 z)=some (.int .i64 z):=
  keyOf_int_mk Tryz.underlying3 h
theorem DT:∀ {l m:List Int},l.Pairwise (· < ·)->m.Pairwise (· < ·)->(∀ z,z∈l↔z∈m)->l=m
  | [],[],_,_,_=>rfl
  | [],b::m,_,_,h=>by have:=(h b).2 (List.mem_cons_self ..);cases this
  | a::l,[],_,_,h=>by have:=(h a).1 (List.mem_cons_self ..);cases this
  | a::l,b::m,hl,hm,h=>by
    have hl':=List.pairwise_cons.1 hl
    have hm':=List.pairwise_cons.1 hm
    have e:a=b:=by
      rcases List.mem_cons.1 ((h a).1 (List.mem_cons_self ..)) with e|e
      ·exact e
      rcases List.mem_cons.1 ((h b).2 (List.mem_cons_self ..)) with e2|e2
      ·exact e2.symm
      have:=hm'.1 a e;have:=hl'.1 b e2;omega
    subst e
    congr 1
    refine DT hl'.2 hm'.2 (fun z=>⟨fun hz=>?_,fun hz=>?_⟩)
    ·rcases List.mem_cons.1 ((h z).1 (List.mem_cons_of_mem _ hz)) with e|e
     ·have:=hl'.1 z hz;omega
     exact e
    rcases List.mem_cons.1 ((h z).2 (List.mem_cons_of_mem _ hz)) with e|e
    ·have:=hm'.1 z hz;omega
    exact e
theorem I9 (x y:Int):(if y > x then y else x)=max x y:=by
  rw [Int.max_def];split<;>split<;>omega
theorem Ov (x y:Int):(if y < x then y else x)=min x y:=by
  rw [Int.min_def];split<;>split<;>omega
theorem QI (m:Nat):AnyZI.SortsIn Tryz.prog Tryz.sortedI_ren Fence.wide m:=
  ⟨fun blk off cap ss W hH hblk hsz=>callsIn_wide.2 (AnyM.slices_Sort_int Tryz.sortI blk off cap ss W hH hblk hsz),
   fun p cap W=>callsIn_wide.2 (AnyM.slices_Sort_int_none Tryz.sortI p cap W)⟩
def BM (bk:Nat):Value:=.func (.func 106) #[] #[.pointer (some ⟨bk,0,none⟩)]
theorem MG {β:Bs} (mb:Option Nat):Spec Tryz.prog β 67 #[.map mb] [] (fun v l=>∃ bk,v=BM bk/\l=[.blk bk [.map mb] 120]):=
  Spec.ER fun W _=>by
    have h:CallsIn Fence.wide 5 Tryz.prog 67 #[.map mb] W fun e w'=>e=.returned (BM W.heap.size)/\w'=W.alloc (.cells #[.map mb] 120):=AnyZI.keys_in Tryz.keysI Fence.wide 5 trivial rfl mb W
    refine ((callsIn_wide (n:=5)).1 h).mono ?_
    rintro e w' ⟨rfl,rfl⟩
    refine⟨_,_,rfl,⟨W.heap.size,rfl,rfl⟩,(Keeps.refl _ _).alloc _,fun k=>k=W.heap.size,⟨?_,fun k=>Iff.rfl⟩,fun k hk=>Nat.le_of_eq hk.symm⟩
    show (W.heap.push _)[W.heap.size]?=_
    simp
structure KeysOf (f:Lit->Option Value) (ss:List Int):Prop where
  mem:∀ z,z∈ss↔(f (.int .i64 z)).isSome=true
  sorted:ss.Pairwise (· < ·)
theorem Ja {w:World} {b n:Nat} {K:TypeId} {f:Lit->Option Value} {D:DataW Value} (hK:Tryz.prog.underlying K=some (.int .i64)) (L:Keyed Tryz.prog K) (hown:w.ownsMap Tryz.prog K rN b n D) (hf:∀ kl,Maps.has D kl=(f kl).isSome) {ss:List Int} (hp:ss.Perm (intKeys D)) :
    KeysOf f (ss.mergeSort (fun x y=>decide (x<=y))):=by
  obtain⟨es,hD,hpw,_⟩:=hown.entries L
  obtain⟨es',hD',hko⟩:=hown.keysOf
  obtain rfl:es=es':=by rw [hD] at hD';simpa using hD'
  have hk:∀ p∈es,∃ x,p.1=.int .i64 x:=fun p hp=>by
    obtain⟨v,hv⟩:=hko p hp
    obtain⟨x,_,h,_⟩:=keyOf_i64 hK hv
    exact⟨x,h⟩
  have hmem:∀ z,z∈intKeys D↔(f (.int .i64 z)).isSome=true:=fun z=>by
    rw [← hf,hD]
    show z∈es.map (fun p=>Go.intOf p.1)↔es.any (fun p=>p.1.sameKey (.int .i64 z))=true
    rw [List.mem_map,List.any_eq_true]
    refine⟨fun ⟨p,hp,e⟩=>⟨p,hp,?_⟩,fun ⟨p,hp,e⟩=>⟨p,hp,?_⟩⟩
    ·obtain⟨x,hx⟩:=hk p hp
     rw [hx] at e ⊢
     have e:x=z:=e
     simp [Lit.sameKey,e]
    obtain⟨x,hx⟩:=hk p hp
    rw [hx] at e ⊢
    show x=z
    simpa [Lit.sameKey] using e
  have hnd:(intKeys D).Nodup:=by
    rw [hD]
    show (es.map fun p=>Go.intOf p.1).Nodup
    rw [List.nodup_iff_pairwise_ne,List.pairwise_map]
    refine hpw.imp_of_mem (fun {p q} hp hq hne e=>hne ?_)
    obtain⟨x,hx⟩:=hk p hp
    obtain⟨y,hy⟩:=hk q hq
    rw [hx,hy] at e ⊢
    have e:x=y:=e
    rw [e]
  have tr:∀ a b c:Int,decide (a<=b)=true->decide (b<=c)=true->decide (a<=c)=true:=fun a b c h1 h2=>by simp only [decide_eq_true_eq] at *;omega
  have to:∀ a b:Int,(decide (a<=b) || decide (b<=a))=true:=fun a b=>by simp only [Bool.or_eq_true,decide_eq_true_eq];omega
  have hperm:=(List.mergeSort_perm ss (fun x y=>decide (x<=y))).trans hp
  refine⟨fun z=>by rw [hperm.mem_iff,hmem],?_⟩
  have h1:=List.pairwise_mergeSort tr to ss
  have h2:(ss.mergeSort (fun x y=>decide (x<=y))).Nodup:=hperm.nodup_iff.2 hnd
  rw [List.nodup_iff_pairwise_ne] at h2
  refine (h1.and h2).imp (fun {a b} h=>?_)
  have h3:=h.1
  have h4:=h.2
  simp only [decide_eq_true_eq] at h3
  omega
theorem Jb {β:Bs} (b bk n:Nat) (f:Lit->Option Value) (hn:n<=16777216) :
    Spec Tryz.prog β 66 #[BM bk] [.abs (aN Tryz.prog 3 b f n),.blk bk [.map (some b)] 120] (fun v l=>∃ A cap ss,v=.slice A ss.length cap/\KeysOf f ss/\ss.length=n ∧
      l=[.abs (aN Tryz.prog 3 b f n),.blk bk [.map (some b)] 120,.abs (av 3 1 A ss.length cap (ints ss))]):=by
  intro R w hS
  obtain⟨F1,h1⟩:=hS.get (i:=0) (p:=.abs (aN Tryz.prog 3 b f n)) rfl
  obtain⟨F2,h2⟩:=hS.get (i:=1) (p:=.blk bk [.map (some b)] 120) rfl
  obtain⟨D,hown,hsz,hhas,_⟩:=h1.1
  have hcell:w.cell? ⟨bk,0,none⟩=some (.map (some b)):=(gI h2.1 rfl rfl rfl).1
  have hseq:SeqGives Fence.wide 2 Tryz.prog 106 #[.pointer (some ⟨bk,0,none⟩)] encZ (fun ss=>ss.Perm (intKeys D)) (Maps.size D) w:=
    AnyZI.keys_gives (ρ:=Tryz.keysI_ren) { Tryz.keysI with } Fence.wide _ trivial rfl (by omega) bk b n D w (lt_of_some h2.1) hcell hown
  have cS:=AnyZI.sorted_in Tryz.sortedI Fence.wide 5 trivial trivial trivial trivial rfl (by omega) (QI _) (enters_of Tryz.func105 (by kernel_rfl) rfl) 106 #[.pointer (some ⟨bk,0,none⟩)] trivial (enters_of Tryz.func106 (by kernel_rfl) rfl) _ _ (by rw [hsz];unfold maxLen;omega) (by rw [hsz];omega) _ hseq
  change CallsIn _ _ Tryz.prog 66 _ _ _ at cS
  refine ((callsIn_wide (n:=5)).1 cS).mono ?_
  rintro e w' ⟨v,ss,rfl,hp,hrow,hnil,hb⟩
  have hlen:(ss.mergeSort (fun x y=>decide (x<=y))).length=ss.length:=List.length_mergeSort ss
  have hkeys:=Ja Tryz.underlying3 d6 hown hhas hp
  have wZ:∃ A cap,v=.slice A ss.length cap:=by
    rcases hrow.2 with ⟨e1,e2⟩|⟨g,cp,cur,e1,_⟩
    ·exact⟨none,0,by rw [e1,e2]⟩
    exact⟨_,cp,e1⟩
  obtain⟨A,cap,rfl⟩:=wZ
  have hn1:ss.length=n:=by
    rw [hp.length_eq,← hsz]
    obtain⟨es,hD,_⟩:=hown.entries d6
    rw [hD]
    exact List.length_map ..
  have hq:Sat β ([.abs (aN Tryz.prog 3 b f n),.blk bk [.map (some b)] 120,.abs R]++[.abs (av 3 1 A ss.length cap (ints (ss.mergeSort (fun x y=>decide (x<=y)))))]) w':=by
    refine Sat.new (F:=fun k=>(Value.slice A ss.length cap).ownBlock=some k) hS ⟨?_,fun k=>Iff.rfl⟩ ⟨hb.os,hb.tape,hb.output,hb.size,fun k hk _=>hb.block k hk⟩ (fun k hk=>(hrow.lt k hk).1)
    refine⟨hrow.1,?_⟩
    rcases hrow.2 with h|⟨g,cp,cur,e1,_,h3,h4⟩
    ·exact .inl h
    exact .inr ⟨g,cp,cur,e1,Nat.zero_le _,h3,h4⟩
  refine⟨_,[.abs (aN Tryz.prog 3 b f n),.blk bk [.map (some b)] 120,.abs (av 3 1 A ss.length cap (ints (ss.mergeSort (fun x y=>decide (x<=y)))))],rfl,⟨A,cap,ss.mergeSort (fun x y=>decide (x<=y)),by rw [hlen],hkeys,by rw [hlen];exact hn1,by rw [hlen]⟩,?_⟩
  exact hq.pick (idx:=[0,1,3,2]) rfl rfl
end
section
open Go.RowKit bH aE Go.Maps
attribute [local irreducible] aj aS af ai
theorem Py {us:Used Value} {ss:List Int} (hr:aE.dh (keys us)) (h:KeysOf (bp us) ss):ss=keys us:=by
  refine DT h.sorted hr (fun z=>?_)
  rw [h.mem]
  show (aE.get us z).isSome=true↔z∈keys us
  refine⟨fun h=>?_,fun h=>?_⟩
  ·obtain⟨x,hx⟩:=Option.isSome_iff_exists.1 h;exact get_some hx
  cases hg:aE.get us z with
  | some x=>rfl
  | none=>exact absurd h (get_none.1 hg)
theorem Fv {β:Bs} (most:Int) :
    Spec Tryz.prog β 62 #[vI (most)] [] (fun v l=>∃ t,v=vP t/\l=[.abs (cV 197 t (min (max most 0) 1024) 0 [])]):=by
 refine Spec.enter Tryz.func62 rfl Tryz.ntmps62 (Nat.le_of_ble_eq_true rfl) (fun R=>?_)
 refine SR (gK 1 [] [] ?_)
 refine NS (gK 3 [(5,vI (min (max most 0) 1024))] [(1,p_ ⟨[],none,none,none,some (vI (max most 0))⟩ [(Value.int .i64 (if 0 > most then 0 else most))=(.int .i64 (max most 0))] ⟨congrArg (Value.int .i64) (I9 _ _),trivial⟩),(2,p_ ⟨[],none,none,none,some (vI (min (max most 0) 1024))⟩ [(Value.int .i64 (if 1024 < max most 0 then 1024 else max most 0))=(.int .i64 (min (max most 0) 1024))] ⟨congrArg (Value.int .i64) (Ov _ _),trivial⟩)] ?_)
 refine aj.lT (d:=(some 6)) (t:=120) (fun _=>by kernel_rfl) Tryz.prog rfl 3 (fun m1=>?_)
 refine gN 3 (fun b2=>[(2,vP b2)]) (fun _=>[]) (fun _=>[]) (fun b2=>.blk b2 [vI (min (max most 0) 1024),vI 0,.map (some m1),.slice none (0) (0),vI 1] 197) (fun b2=>?_)
 refine NN (af.ret (ai.mem (cR:=[.abs R,.abs (aN Tryz.prog 3 m1 (fun _=>none) 0),.blk b2 [vI (min (max most 0) 1024),vI 0,.map (some m1),.slice none (0) (0),vI 1] 197,.abs (av 3 1 none 0 0 ([]))]) (fun w hS=>hS.jF (e:=3) (size:=1)) ?_))
 refine ai.mem (cR:=[.abs R,.abs (cV 197 b2 (min (max most 0) 1024) 0 [])]) (fun w hS=>Sat.ol (l:=[.abs R]) ⟨m1,none,0,[],1⟩ ⟨TI.empty,by show ((0:Nat):Int)<=min (max most 0) 1024;omega,by omega,by show (1:Int)<=min (max most 0) 1024+1;omega,by show (1:Int)<=0+1;decide,by decide⟩ (by rw [← Fu] at hS;exact hS.pick (idx:=[0,2,1,3]) (l':=[.abs R]++oh 197 b2 (min (max most 0) 1024) 0 [] ⟨m1,none,0,[],1⟩) rfl rfl)) ?_
 exact RT (vP b2) [1,0] (⟨b2,rfl,rfl⟩)
theorem lu {β:Bs} (t:Nat) (most aD:Int) (us:Used Value) (h:Int) (hw:(Lit.int .i64 h).wf=true) (x:Value) (hg:aE.get us h=some x) :
    Spec Tryz.prog β 132 #[vP t,vI (h)] [.abs (cV 197 t most aD us)] (fun v l=>v=.tuple #[x,vI 0]/\l=[.abs (cV 197 t most aD us)]):=by
 refine Spec.enter Tryz.func132 rfl Tryz.ntmps132 (Nat.le_of_ble_eq_true rfl) (fun R=>?_)
 refine af.seq (af.Fs (Φ:=fun x:TX=>iW x.next x.l us most aD) (hp:=fun x=>[.abs R]++oh 197 t most aD us x) (fun w hS=>(hS.pick (idx:=[1,0]) (l':=[.abs R]++[.abs (cV 197 t most aD us)]) rfl rfl).uR) (fun x hT=>?_))
 obtain⟨m,A,c,l,next⟩:=x
 replace hT:iW next l us most aD:=hT
 have hb:=hT.KH
 have hm0:=hT.vW
 have hm1:=hT.vX
 have hn1:=hT.vY
 have hn2:=hT.BL
 have KI:=hT.y4
 have Ow:=hT.ti.count
 show af _ _ _ _ _ [.abs R,.blk t [vI (most),vI (aD),.map (some m),.slice A (l.length) (c),vI (next)] 197,.abs (aN Tryz.prog 3 m (bp us) us.length),.abs (av 3 1 A l.length c (ints l))] _
 refine af.region (gK 2 [] [] ?_)
 refine NS (gK 5 [(12,.map (some m)),(13,vI (h))] [(3,a_ 1 t)] ?_)
 refine aj.tG 2 (d:=(some 14)) (t:=120) (K:=3) (E:=124) (b:=m) (n:=us.length) (f:=(bp us)) (x:=(.tmp 12)) (ix:=(.tmp 13)) (key:=.int .i64 (h)) (z:=.nilIface) (kl:=(.int .i64 h)) (r:=(some x)) (fun _=>by kernel_rfl) (by kernel_rfl) (fun _=>by kernel_rfl) (fun _=>by kernel_rfl) d6 Tryz.underlying120 (fun _=>by kernel_rfl) (gX hw) (hg) ?_
 refine gK 5 [(6,x),(7,.bool true)] [] ?_
 refine NN (af.seq (SR (gK 2 [(18,.bool false)] [] ?_)))
 refine NN (CF (af.skip (NX (SR (gK 3 [(4,x),(5,vI 0)] [] ?_)))))
 refine NN (af.ret (ai.mem (cR:=[.abs R,.abs (cV 197 t most aD us)]) (fun w hS=>Sat.ol (l:=[.abs R]) ⟨m,A,c,l,next⟩ (show iW (next) l (us) most (aD) from hT) (hS.pick (idx:=[0,1,2,3]) (l':=[.abs R]++oh 197 t most (aD) (us) ⟨m,A,c,l,next⟩) rfl rfl)) ?_))
 exact RT (.tuple #[x,vI 0]) [1,0] (⟨rfl,rfl⟩)
theorem qK {β:Bs} (t:Nat) (most aD:Int) (us:Used Value) (h:Int) (hw:(Lit.int .i64 h).wf=true) (hg:aE.get us h=none) :
    Spec Tryz.prog β 132 #[vP t,vI (h)] [.abs (cV 197 t most aD us)] (fun v l=>v=.tuple #[.nilIface,vI 131]/\l=[.abs (cV 197 t most aD us)]):=by
 refine Spec.enter Tryz.func132 rfl Tryz.ntmps132 (Nat.le_of_ble_eq_true rfl) (fun R=>?_)
 refine af.seq (af.Fs (Φ:=fun x:TX=>iW x.next x.l us most aD) (hp:=fun x=>[.abs R]++oh 197 t most aD us x) (fun w hS=>(hS.pick (idx:=[1,0]) (l':=[.abs R]++[.abs (cV 197 t most aD us)]) rfl rfl).uR) (fun x hT=>?_))
 obtain⟨m,A,c,l,next⟩:=x
 replace hT:iW next l us most aD:=hT
 have hb:=hT.KH
 have hm0:=hT.vW
 have hm1:=hT.vX
 have hn1:=hT.vY
 have hn2:=hT.BL
 have KI:=hT.y4
 have Ow:=hT.ti.count
 show af _ _ _ _ _ [.abs R,.blk t [vI (most),vI (aD),.map (some m),.slice A (l.length) (c),vI (next)] 197,.abs (aN Tryz.prog 3 m (bp us) us.length),.abs (av 3 1 A l.length c (ints l))] _
 refine af.region (gK 2 [] [] ?_)
 refine NS (gK 5 [(12,.map (some m)),(13,vI (h))] [(3,a_ 1 t)] ?_)
 refine aj.tG 2 (d:=(some 14)) (t:=120) (K:=3) (E:=124) (b:=m) (n:=us.length) (f:=(bp us)) (x:=(.tmp 12)) (ix:=(.tmp 13)) (key:=.int .i64 (h)) (z:=.nilIface) (kl:=(.int .i64 h)) (r:=none) (fun _=>by kernel_rfl) (by kernel_rfl) (fun _=>by kernel_rfl) (fun _=>by kernel_rfl) d6 Tryz.underlying120 (fun _=>by kernel_rfl) (gX hw) (hg) ?_
 refine gK 5 [(6,.nilIface),(7,.bool false)] [] ?_
 refine NN (af.seq (SR (gK 2 [(18,.bool true)] [] ?_)))
 refine NN (CT (SR (gK 3 [(4,.nilIface),(5,vI 131)] [] ?_)))
 refine NN (af.ret (ai.ar (ai.mem (cR:=[.abs R,.abs (cV 197 t most aD us)]) (fun w hS=>Sat.ol (l:=[.abs R]) ⟨m,A,c,l,next⟩ (show iW (next) l (us) most (aD) from hT) (hS.pick (idx:=[0,1,2,3]) (l':=[.abs R]++oh 197 t most (aD) (us) ⟨m,A,c,l,next⟩) rfl rfl)) ?_)))
 exact RT (.tuple #[.nilIface,vI 131]) [1,0] (⟨rfl,rfl⟩)
theorem xO {β:Bs} (t:Nat) (most aD:Int) (us:Used Value) (x:Value) (hf:most<=(us.length:Int)) :
    Spec Tryz.prog β 165 #[vP t,x] [.abs (cV 197 t most aD us)] (fun v l=>v=.tuple #[vI 0,vI 130]/\l=[.abs (cV 197 t most aD us)]):=by
 refine Spec.enter Tryz.func165 rfl Tryz.ntmps165 (Nat.le_of_ble_eq_true rfl) (fun R=>?_)
 refine af.seq (af.Fs (Φ:=fun x:TX=>iW x.next x.l us most aD) (hp:=fun x=>[.abs R]++oh 197 t most aD us x) (fun w hS=>(hS.pick (idx:=[1,0]) (l':=[.abs R]++[.abs (cV 197 t most aD us)]) rfl rfl).uR) (fun x hT=>?_))
 obtain⟨m,A,c,l,next⟩:=x
 replace hT:iW next l us most aD:=hT
 have hb:=hT.KH
 have hm0:=hT.vW
 have hm1:=hT.vX
 have hn1:=hT.vY
 have hn2:=hT.BL
 have KI:=hT.y4
 have Ow:=hT.ti.count
 show af _ _ _ _ _ [.abs R,.blk t [vI (most),vI (aD),.map (some m),.slice A (l.length) (c),vI (next)] 197,.abs (aN Tryz.prog 3 m (bp us) us.length),.abs (av 3 1 A l.length c (ints l))] _
 refine af.region (gK 2 [] [] ?_)
 refine NN (af.seq (af.seq (af.bK (by kernel_rfl) (by kernel_rfl) ?_)))
 refine gQ 4 [(10,.map (some m))] [(3,a_ 1 t)] ?_
 refine aS.uI 2 (d:=(some 11)) (t:=120) (K:=3) (E:=124) (b:=m) (n:=us.length) (f:=(bp us)) (x:=(.tmp 10)) (ats:=#[120]) (fun _=>by kernel_rfl) (by kernel_rfl) (fun _=>by kernel_rfl) rfl Tryz.underlying120 ?_
 refine gQ 5 [(16,.bool (decide ((((us.length:Nat):Int):Int) ≥ (most:Int))))] [(3,a_ 1 t)] ?_
 refine NQ (NX ?_)
 refine af.bg (p:=(((us.length:Nat):Int):Int) ≥ (most:Int)) (fun _=>by kernel_rfl) (fun uS=>?_) (fun uS=>?_)
 ·refine SR (gK 2 [(4,vI 0),(5,vI 130)] [] ?_)
  refine NN (af.ret (ai.ar (ai.mem (cR:=[.abs R,.abs (cV 197 t most aD us)]) (fun w hS=>Sat.ol (l:=[.abs R]) ⟨m,A,c,l,next⟩ (show iW (next) l (us) most (aD) from hT) (hS.pick (idx:=[0,1,2,3]) (l':=[.abs R]++oh 197 t most (aD) (us) ⟨m,A,c,l,next⟩) rfl rfl)) ?_)))
  exact RT (.tuple #[vI 0,vI 130]) [1,0] (⟨rfl,rfl⟩)
 exact absurd uS (by omega)
theorem Ax {β:Bs} (t:Nat) (most aD:Int) (us:Used Value) (x:Value) (hf:(us.length:Int) < most) :
    Spec Tryz.prog β 165 #[vP t,x] [.abs (cV 197 t most aD us)] (fun v l=>v=.tuple #[vI (least us),vI 0]/\l=[.abs (cV 197 t most (max aD ((us.length:Int)+1)) (ins (least us) x us))]):=by
 refine Spec.enter Tryz.func165 rfl Tryz.ntmps165 (Nat.le_of_ble_eq_true rfl) (fun R=>?_)
 refine af.seq (af.Fs (Φ:=fun x:TX=>iW x.next x.l us most aD) (hp:=fun x=>[.abs R]++oh 197 t most aD us x) (fun w hS=>(hS.pick (idx:=[1,0]) (l':=[.abs R]++[.abs (cV 197 t most aD us)]) rfl rfl).uR) (fun x hT=>?_))
 obtain⟨m,A,c,l,next⟩:=x
 replace hT:iW next l us most aD:=hT
 have hb:=hT.KH
 have hm0:=hT.vW
 have hm1:=hT.vX
 have hn1:=hT.vY
 have hn2:=hT.BL
 have KI:=hT.y4
 have Ow:=hT.ti.count
 show af _ _ _ _ _ [.abs R,.blk t [vI (most),vI (aD),.map (some m),.slice A (l.length) (c),vI (next)] 197,.abs (aN Tryz.prog 3 m (bp us) us.length),.abs (av 3 1 A l.length c (ints l))] _
 refine af.region (gK 2 [] [] ?_)
 refine NN (af.seq (af.seq (af.bK (by kernel_rfl) (by kernel_rfl) ?_)))
 refine gQ 4 [(10,.map (some m))] [(3,a_ 1 t)] ?_
 refine aS.uI 2 (d:=(some 11)) (t:=120) (K:=3) (E:=124) (b:=m) (n:=us.length) (f:=(bp us)) (x:=(.tmp 10)) (ats:=#[120]) (fun _=>by kernel_rfl) (by kernel_rfl) (fun _=>by kernel_rfl) rfl Tryz.underlying120 ?_
 refine gQ 5 [(16,.bool (decide ((((us.length:Nat):Int):Int) ≥ (most:Int))))] [(3,a_ 1 t)] ?_
 refine NQ (NX ?_)
 refine af.bg (p:=(((us.length:Nat):Int):Int) ≥ (most:Int)) (fun _=>by kernel_rfl) (fun uS=>?_) (fun uS=>?_)
 ·exact absurd uS (by omega)
 refine af.skip (NX (SR (gK 5 [(6,vI (next))] [(3,a_ 1 t)] ?_)))
 refine NN (af.seq (SR (gK 6 [(26,.bool (decide ((((l.length:Nat):Int):Int) > (0:Int))))] [(3,a_ 1 t)] ?_)))
 refine NN (af.bg (p:=(((l.length:Nat):Int):Int) > (0:Int)) (fun _=>by kernel_rfl) (fun tI=>?_) (fun tI=>?_))
 ·refine af.region ?_
  obtain⟨n,hn⟩:∃ n,l.length=n+1:=⟨l.length - 1,by omega⟩
  refine aj.tell (p:=∃ g,A=some ⟨g,0,none⟩) (fun w hS=>let ⟨F,h⟩:=hS.get (i:=3) rfl;av.head h (by omega)) (fun ⟨g,hg⟩=>?_)
  subst hg
  refine gK 4 [(31,.iface 256 (.pointer (some ⟨t,3,none⟩)))] [] ?_
  refine gL (f:=203) (args:=#[.iface 256 (.pointer (some ⟨t,3,none⟩))]) (pre:=[.blk t [vI (most),vI (aD),.map (some m),.slice (some ⟨g,0,none⟩) (l.length) (c),vI (next)] 197,.abs (av 3 1 (some ⟨g,0,none⟩) l.length c (ints l))]) [1,3] (QG hn (by have:=hT.ti.heap;rwa [hn] at this) hT.ti.inj (by omega)) ?_
  rintro _ _ ⟨rfl,l2,rfl,hp2,hi2,hm2,rfl⟩
  refine gK 5 [(6,vI ((at_ l 0)))] [] ?_
  refine NS (aj.slot 6 (.int .i64 ((at_ l 0))) (.int .i64 ((least us))) (fun _=>by kernel_rfl) (by rw [hT.ti.BK (by omega)]) ?_)
  refine gK 6 [(46,.map (some m)),(47,vI ((least us))),(48,x)] [(3,a_ 0 t)] ?_
  refine aj.kG 3 (d:=none) (t:=120) (K:=3) (E:=124) (b:=m) (n:=us.length) (f:=(bp us)) (x:=(.tmp 46)) (ix:=(.tmp 47)) (y:=(.tmp 48)) (key:=.int .i64 ((least us))) (u:=x) (kl:=(.int .i64 (least us))) (n':=(us.length+1)) (f':=(bp (ins (least us) x us))) (fun _=>by kernel_rfl) (by kernel_rfl) (fun _=>by kernel_rfl) (fun _=>by kernel_rfl) (fun _=>by kernel_rfl) d6 Tryz.underlying120 (by unfold maxLen;omega) (pY (by omega) (by omega)) (by rw [DS hb.2.2.1];rfl) (C3 hb.2.2.1 x) ?_
  refine NN (af.seq (af.uq 13 (by kernel_rfl) (by kernel_rfl) ?_))
  refine ij.seg (k':=9) (fr':=[(6,vI ((least us))),(49,vP t),(53,vI (aD)),(57,.map (some m))]) (bG:=[t=t,t=t]) [o_,o_,o_,o_,⟨[.at 0],none,none,none,none⟩,o_,o_,o_,⟨[.at 0],none,none,none,none⟩] [6,49,53,57] (fun _ _=>by kernel_rfl) ⟨rfl,rfl,trivial⟩ (by decide) ?_
  refine ij.uI 3 (d:=(some 58)) (t:=120) (K:=3) (E:=124) (b:=m) (cnt:=(us.length+1)) (f:=(bp (ins (least us) x us))) (x:=(.tmp 57)) (ats:=#[120]) (fun _=>by kernel_rfl) (by kernel_rfl) (fun _=>by kernel_rfl) rfl Tryz.underlying120 (by decide) ?_
  refine ij.seg (k':=13) (fr':=[(6,vI ((least us))),(59,vI ((max aD ((us.length:Int)+1)))),(61,.pointer (some ⟨t,1,none⟩))]) (bG:=[(Value.int .i64 (if (((us.length+1):Nat):Int) > aD then (((us.length+1):Nat):Int) else aD))=(.int .i64 ((max aD ((us.length:Int)+1))))]) [⟨[],none,none,none,some (vI ((max aD ((us.length:Int)+1))))⟩,o_,o_] [6,59,61] (fun _ _=>by kernel_rfl) ⟨by rw [I9];rfl,trivial⟩ (by decide) ?_
  refine ij.done rfl ?_
  refine gC 1 [] [(0,a_ 0 t)] [(0,[(1,vI ((max aD ((us.length:Int)+1))))])] ?_
  refine NS (gK 3 [(4,vI ((least us))),(5,vI 0)] [] ?_)
  refine NN (af.ret (ai.dG [(3,.abs (aN Tryz.prog 3 m (bp (ins (least us) x us)) ((ins (least us) x us).length)))] (fun w hS=>by rw [iP];exact hS) ?_))
  refine ai.mem (cR:=[.abs R,.abs (cV 197 t most (max aD ((us.length:Int)+1)) (ins (least us) x us))]) (fun w hS=>Sat.ol (l:=[.abs R]) ⟨m,some ⟨g,0,none⟩,c,l2,next⟩ (show iW (next) l2 ((ins (least us) x us)) most ((max aD ((us.length:Int)+1))) from ⟨by rw [hT.ti.BK (by omega)];exact hT.ti.MF (by omega) x (by omega) hp2 hi2 hm2,by rw [iP];omega,by omega,by omega,by omega,by omega⟩) (hS.pick (idx:=[2,0,3,1]) (l':=[.abs R]++oh 197 t most ((max aD ((us.length:Int)+1))) ((ins (least us) x us)) ⟨m,some ⟨g,0,none⟩,c,l2,next⟩) rfl rfl)) ?_
  exact RT (.tuple #[vI ((least us)),vI 0]) [1,0] (⟨rfl,rfl⟩)
 refine af.region ?_
 have hl0:l=[]:=List.eq_nil_of_length_eq_zero (by omega)
 have hl1:l.length=0:=by rw [hl0];rfl
 have hl2:TI next [] us:=hl0 ▸ hT.ti
 refine gC 8 [] [(3,a_ 1 t),(4,wI (next+1) ((next+1))),(7,a_ 1 t)] [(1,[(4,vI ((next+1)))])] ?_
 refine NS (aj.slot 6 (.int .i64 (next)) (.int .i64 ((least us))) (fun _=>by kernel_rfl) (by rw [hl2.BJ]) ?_)
 refine gK 6 [(46,.map (some m)),(47,vI ((least us))),(48,x)] [(3,a_ 1 t)] ?_
 refine aj.kG 2 (d:=none) (t:=120) (K:=3) (E:=124) (b:=m) (n:=us.length) (f:=(bp us)) (x:=(.tmp 46)) (ix:=(.tmp 47)) (y:=(.tmp 48)) (key:=.int .i64 ((least us))) (u:=x) (kl:=(.int .i64 (least us))) (n':=(us.length+1)) (f':=(bp (ins (least us) x us))) (fun _=>by kernel_rfl) (by kernel_rfl) (fun _=>by kernel_rfl) (fun _=>by kernel_rfl) (fun _=>by kernel_rfl) d6 Tryz.underlying120 (by unfold maxLen;omega) (pY (by omega) (by omega)) (by rw [DS hb.2.2.1];rfl) (C3 hb.2.2.1 x) ?_
 refine NN (af.seq (af.uq 13 (by kernel_rfl) (by kernel_rfl) ?_))
 refine ij.seg (k':=9) (fr':=[(6,vI ((least us))),(49,vP t),(53,vI (aD)),(57,.map (some m))]) (bG:=[t=t,t=t]) [o_,o_,o_,o_,⟨[.at 1],none,none,none,none⟩,o_,o_,o_,⟨[.at 1],none,none,none,none⟩] [6,49,53,57] (fun _ _=>by kernel_rfl) ⟨rfl,rfl,trivial⟩ (by decide) ?_
 refine ij.uI 2 (d:=(some 58)) (t:=120) (K:=3) (E:=124) (b:=m) (cnt:=(us.length+1)) (f:=(bp (ins (least us) x us))) (x:=(.tmp 57)) (ats:=#[120]) (fun _=>by kernel_rfl) (by kernel_rfl) (fun _=>by kernel_rfl) rfl Tryz.underlying120 (by decide) ?_
 refine ij.seg (k':=13) (fr':=[(6,vI ((least us))),(59,vI ((max aD ((us.length:Int)+1)))),(61,.pointer (some ⟨t,1,none⟩))]) (bG:=[(Value.int .i64 (if (((us.length+1):Nat):Int) > aD then (((us.length+1):Nat):Int) else aD))=(.int .i64 ((max aD ((us.length:Int)+1))))]) [⟨[],none,none,none,some (vI ((max aD ((us.length:Int)+1))))⟩,o_,o_] [6,59,61] (fun _ _=>by kernel_rfl) ⟨by rw [I9];rfl,trivial⟩ (by decide) ?_
 refine ij.done rfl ?_
 refine gC 1 [] [(0,a_ 1 t)] [(1,[(1,vI ((max aD ((us.length:Int)+1))))])] ?_
 refine NS (gK 3 [(4,vI ((least us))),(5,vI 0)] [] ?_)
 refine NN (af.ret (ai.dG [(2,.abs (aN Tryz.prog 3 m (bp (ins (least us) x us)) ((ins (least us) x us).length)))] (fun w hS=>by rw [iP];exact hS) ?_))
 refine ai.mem (cR:=[.abs R,.abs (cV 197 t most (max aD ((us.length:Int)+1)) (ins (least us) x us))]) (fun w hS=>Sat.ol (l:=[.abs R]) ⟨m,A,c,l,(next+1)⟩ (show iW ((next+1)) l ((ins (least us) x us)) most ((max aD ((us.length:Int)+1))) from ⟨by rw [hl2.BJ,hl0];exact hl2.ME x,by rw [iP];omega,by omega,by omega,by omega,by omega⟩) (hS.pick (idx:=[0,1,2,3]) (l':=[.abs R]++oh 197 t most ((max aD ((us.length:Int)+1))) ((ins (least us) x us)) ⟨m,A,c,l,(next+1)⟩) rfl rfl)) ?_
 exact RT (.tuple #[vI ((least us)),vI 0]) [1,0] (⟨rfl,rfl⟩)
theorem DU {β:Bs} (t:Nat) (most aD:Int) (us:Used Value) (h:Int) (hw:(Lit.int .i64 h).wf=true) (x:Value) (hg:aE.get us h=some x) :
    Spec Tryz.prog β 135 #[vP t,vI (h)] [.abs (cV 197 t most aD us)] (fun v l=>v=.tuple #[x,vI 0]/\l=[.abs (cV 197 t most aD (del h us))]):=by
 refine Spec.enter Tryz.func135 rfl Tryz.ntmps135 (Nat.le_of_ble_eq_true rfl) (fun R=>?_)
 refine SR (gK 2 [] [] ?_)
 refine NS (gK 2 [(9,vP t),(10,vI (h))] [] ?_)
 refine gL [0] (lu t most aD us h hw x hg) ?_
 rintro _ _ ⟨rfl,rfl⟩
 refine gK 5 [(6,x),(7,vI 0)] [] ?_
 refine NN (af.seq (SR (gK 2 [(15,.bool true)] [] ?_)))
 refine NN (CT (af.seq (af.Fs (Φ:=fun x:TX=>iW x.next x.l us most aD) (hp:=fun x=>[.abs R]++oh 197 t most aD us x) (fun w hS=>(hS.pick (idx:=[1,0]) (l':=[.abs R]++[.abs (cV 197 t most aD us)]) rfl rfl).uR) (fun x0 hT=>?_))))
 obtain⟨m,A,c,l,next⟩:=x0
 replace hT:iW next l us most aD:=hT
 have hb:=hT.KH
 have hm0:=hT.vW
 have hm1:=hT.vX
 have hn1:=hT.vY
 have hn2:=hT.BL
 have KI:=hT.y4
 have Ow:=hT.ti.count
 have hk:=get_some hg
 show af _ _ _ _ _ [.abs R,.blk t [vI (most),vI (aD),.map (some m),.slice A (l.length) (c),vI (next)] 197,.abs (aN Tryz.prog 3 m (bp us) us.length),.abs (av 3 1 A l.length c (ints l))] _
 refine af.region (gK 5 [(19,.map (some m)),(20,vI (h))] [(3,a_ 1 t)] ?_)
 refine aj.Bo 2 (d:=none) (t:=120) (K:=3) (E:=124) (b:=m) (n:=us.length) (f:=(bp us)) (x:=(.tmp 19)) (ix:=(.tmp 20)) (key:=.int .i64 (h)) (kl:=(.int .i64 h)) (n':=(us.length - 1)) (f':=(bp (del h us))) (ats:=#[120,3]) (fun _=>by kernel_rfl) (by kernel_rfl) (fun _=>by kernel_rfl) (fun _=>by kernel_rfl) rfl d6 Tryz.underlying120 (gX hw) (by rw [show bp us (.int .i64 h)=some x from hg];rfl) (Hy) ?_
 refine NN (af.region (gK 6 [(24,.iface 256 (.pointer (some ⟨t,3,none⟩))),(26,.iface 3 (.int .i64 (h)))] [] ?_))
 refine gL (f:=169) (args:=#[.iface 256 (.pointer (some ⟨t,3,none⟩)),.iface 3 (.int .i64 (h))]) (pre:=[.blk t [vI (most),vI (aD),.map (some m),.slice A (l.length) (c),vI (next)] 197,.abs (av 3 1 A l.length c (ints l))]) [1,3] (Px h hT.ti.heap (by omega)) ?_
 rintro _ _ ⟨rfl,g,c',l2,Vt,hp2,rfl⟩
 refine NS (gK 4 [(4,x),(5,vI 0)] [] ?_)
 refine NN (af.ret ?_)
 have hld:=qb hT.ti.rise hk
 refine ai.dG [(3,.abs (aN Tryz.prog 3 m (bp (del h us)) ((del h us).length)))] (fun w hS=>by rw [show (del h us).length=us.length - 1 by omega];exact hS) ?_
 refine ai.mem (cR:=[.abs R,.abs (cV 197 t most aD (del h us))]) (fun w hS=>Sat.ol (l:=[.abs R]) ⟨m,some ⟨g,0,none⟩,c',l2,next⟩ (show iW (next) l2 ((del h us)) most (aD) from ⟨hT.ti.drop hk Vt hp2,by omega,hm1,hn1,hn2,KI⟩) (hS.pick (idx:=[2,0,3,1]) (l':=[.abs R]++oh 197 t most (aD) ((del h us)) ⟨m,some ⟨g,0,none⟩,c',l2,next⟩) rfl rfl)) ?_
 exact RT (.tuple #[x,vI 0]) [1,0] (⟨rfl,rfl⟩)
theorem GQ {β:Bs} (t:Nat) (most aD:Int) (us:Used Value) (h:Int) (hw:(Lit.int .i64 h).wf=true) (hg:aE.get us h=none) :
    Spec Tryz.prog β 135 #[vP t,vI (h)] [.abs (cV 197 t most aD us)] (fun v l=>v=.tuple #[.nilIface,vI 131]/\l=[.abs (cV 197 t most aD us)]):=by
 refine Spec.enter Tryz.func135 rfl Tryz.ntmps135 (Nat.le_of_ble_eq_true rfl) (fun R=>?_)
 refine SR (gK 2 [] [] ?_)
 refine NS (gK 2 [(9,vP t),(10,vI (h))] [] ?_)
 refine gL [0] (qK t most aD us h hw hg) ?_
 rintro _ _ ⟨rfl,rfl⟩
 refine gK 5 [(6,.nilIface),(7,vI 131)] [] ?_
 refine NN (af.seq (SR (gK 2 [(15,.bool false)] [] ?_)))
 refine NN (CF (af.skip (NX (SR (gK 4 [(4,.nilIface),(5,vI 131)] [] ?_)))))
 refine NN (af.ret ?_)
 exact RT (.tuple #[.nilIface,vI 131]) [0,1] (⟨rfl,rfl⟩)
end
section
open Go.RowKit Go.Maps bH aE
theorem Spec.Am {P:Program} {β:Bs} {f:FuncId} {args:Array Value} {pre R:List HP} {post:Value->List HP->Prop} (h:∀ β':Bs,q6 β R β'->Spec P β' f args pre post):Spec P β f args (pre++R) (fun v l=>∃ l0,post v l0/\l=l0++R):=by
  intro A w hS
  have h1:=Sat.turn hS
  rw [← List.append_assoc] at h1
  obtain⟨β',g1,_,g3⟩:=h1.Am
  refine (h β' g1 A w (Sat.turn g3)).mono ?_
  rintro e w' ⟨v,l,h1,h2,h3⟩
  refine⟨v,l++R,h1,⟨l,h2,rfl⟩,?_⟩
  have h4:=g1.back (Sat.turn h3)
  rw [List.append_assoc] at h4
  exact Sat.turn h4
def bq (L:HL) (us:Used Th):Used Value:=us.map fun q=>(q.1,dQ L q.2)
theorem fw (L:HL) (us:Used Th) (h:Int):bp (bq L us) (.int .i64 h)=(aE.get us h).map (dQ L):=get_map (dQ L) us h
theorem C4 {L:HL} {us:Used Th} {h:Int}:upd (bp (bq L us)) (.int .i64 h) none=bp (bq L (del h us)):=by
  rw [Hy]
  exact congrArg bp (Hw (dQ L) h us).symm
theorem qc (L:HL) (us:Used Th):(bq L us).length=us.length:=List.length_map ..
theorem Ay (L:HL) (us:Used Th):keys (bq L us)=keys us:=keys_map (dQ L) us
def qx (O:cg) (k:Nat):cg:=aF O k (fun o=>{ o with gone:=true })
def rT (O:cg) (t:Th):Prop:=(obj O t.k).gone=true/\(obj O t.k).opens=0
instance (O:cg) (t:Th):Decidable (rT O t):=inferInstanceAs (Decidable (_/\_))
def jN (O:cg) (idx:Used Th) (t:Th):Used Th:=if rT O t then del (obj O t.k).id idx else idx
def j3 (O:cg) (used:Int) (t:Th):Int:=if rT O t then if t.kind=1 then used - (obj O t.k).data.length else used else used
abbrev pF (f m t:Nat) (X:FM):HP:=.blk f [.int .i64 X.cN,.int .i64 X.cB,.int .i64 X.cH,.int .i64 X.cS,.int .i64 X.cZ,.map (some m),.pointer (some ⟨t,0,none⟩),.int .i64 X.last,.int .i64 X.ah,.int .i64 X.used] 126
abbrev pI (m:Nat) (L:HL) (us:Used Th):HP:=.abs (aN Tryz.prog 3 m (bp (bq L us)) us.length)
abbrev pT (t:Nat) (most aD:Int) (L:HL) (us:Used Th):HP:=.abs (cV 197 t most aD (bq L us))
abbrev pO (O:cg) (L:HL):HP:=.abs (ax (bM O L))
abbrev pD (O:cg) (L:HL):HP:=.abs (ax (bN O L))
abbrev pE (O:cg) (L:HL):HP:=.abs (ax (cF O L))
end
section
open Go.RowKit Go.Maps bH aE
structure aI where
  X:FM
  O:cg
  idx:Used Th
  us:Used Th
  aD:Int
abbrev pA (f m t:Nat) (L:HL) (S:aI):List HP:=[pF f m t S.X,pI m L S.idx,pT t S.X.cH S.aD L S.us,pO S.O L,pD S.O L,pE S.O L]
structure aB where
  op:Int
  handle:Int
  other:Int
  name:ByteArray
  text:ByteArray
  dA:Option Addr
  dC:Nat
  data:List UInt8
  mode:Int
  uid:Int
  gid:Int
  sec:Int
  nano:Int
  code:Int
  answer:Int
def aW (c:aB):List Value:=[.int .i64 c.op,.int .i64 c.handle,.int .i64 c.other,.string c.name,.string c.text,.slice c.dA c.data.length c.dC,.int .i64 c.mode,.int .i64 c.uid,.int .i64 c.gid,.int .i64 c.sec,.int .i64 c.nano,.int .i64 c.code,.int .i64 c.answer]
abbrev pC (cb:Nat) (c:aB):HP:=.blk cb (aW c) 48
abbrev c0 (c:aB):aB:={ c with answer:=0,code:=230 }
def UA (L:HL):Except Int Nat->Value
  | .error e=>.tuple #[.pointer none,.int .i64 e]
  | .ok d=>.tuple #[.pointer (some ⟨L.b d,0,none⟩),.int .i64 0]
def UB (L:HL):Except Int Th->Value
  | .error e=>.tuple #[.nilIface,.int .i64 e]
  | .ok t=>.tuple #[dQ L t,.int .i64 0]
noncomputable section
def d9 (O:cg) (us:Used Th) (h:Int) (name:ByteArray) (need:Int):Except Int Nat:=
  match aE.get us h with
  | none=>.error 131
  | some t=>
    if t.kind=2 then
      if (obj O t.k).gone=true then .error 170
      else if bO name then if bits BinOp.and .i64 (obj O t.k).mode need=need then .ok t.k else .error 175
      else .error 95
    else .error 173
def nD (s:ByteArray):Int:=
  if s=⟨#[]⟩ then 90 else if s.size > 4096 then 93 else if yS s then 0 else 91
def Room (X:FM) (idx:Used Th):Prop:=(idx.length:Int) < X.cN/\X.last < 1099511627776/\X.ah < 8192
instance (X:FM) (idx:Used Th):Decidable (Room X idx):=inferInstanceAs (Decidable (_/\_/\_))
def ck (X:FM) (O:cg) (idx:Used Th) (d:Nat) (name:ByteArray):Int:=
  if aX name (obj O d).ah=none then if Room X idx then 0 else 177 else 171
def aY (X:FM) (kind mode:Int):aV:=⟨X.last+1,mode,0,0,X.cS,X.cZ,0,0,false,kind,[],⟨#[]⟩,[],none⟩
def aR (X:FM):Nat:=(X.last+1).toNat
def eY (S:aI) (d:Nat) (name:ByteArray) (o:aV):aI:=
  { S with
    X:={ S.X with last:=S.X.last+1,ah:=S.X.ah+1 }
    O:=di S.X (aF S.O (aR S.X) (fun _=>o)) d name ⟨aR S.X,o.kind⟩
    idx:=ins (S.X.last+1) ⟨aR S.X,o.kind⟩ S.idx }
def aK (S:aI) (d:Nat) (name:ByteArray) (t:Th):aI:=
  { S with
    X:={ S.X with ah:=S.X.ah - 1,used:=if (obj (aT S.X S.O d name t) t.k).links=0 then j3 (qx (aT S.X S.O d name t) t.k) S.X.used t else S.X.used }
    O:=if (obj (aT S.X S.O d name t) t.k).links=0 then qx (aT S.X S.O d name t) t.k else aT S.X S.O d name t
    idx:=if (obj (aT S.X S.O d name t) t.k).links=0 then jN (qx (aT S.X S.O d name t) t.k) S.idx t else S.idx }
theorem tM {S:aI} {d:Nat} {name:ByteArray} {t:Th} (h:(obj (aT S.X S.O d name t) t.k).links=0):aK S d name t={ S with X:={ S.X with ah:=S.X.ah - 1,used:=j3 (qx (aT S.X S.O d name t) t.k) S.X.used t },O:=qx (aT S.X S.O d name t) t.k,idx:=jN (qx (aT S.X S.O d name t) t.k) S.idx t }:=by
  unfold aK
  simp only [if_pos h]
theorem tN {S:aI} {d:Nat} {name:ByteArray} {t:Th} (h:¬ (obj (aT S.X S.O d name t) t.k).links=0):aK S d name t={ S with X:={ S.X with ah:=S.X.ah - 1 },O:=aT S.X S.O d name t }:=by
  unfold aK
  simp only [if_neg h]
def gT (S:aI) (d:Nat) (name:ByteArray) (mode:Int):Int×aI:=
  if ck S.X S.O S.idx d name=0 then (0,eY S d name (aY S.X 2 mode)) else (ck S.X S.O S.idx d name,S)
def eT (S:aI) (d:Nat) (name text:ByteArray):Int×aI:=
  if nD text=0 then
    if ck S.X S.O S.idx d name=0 then (0,eY S d name { aY S.X 3 511 with target:=text }) else (ck S.X S.O S.idx d name,S)
  else (nD text,S)
def ez (S:aI) (d:Nat) (name:ByteArray):Int×aI:=
  match aX name (obj S.O d).ah with
  | none=>(170,S)
  | some t=>if t.kind=2 then (172,S) else (0,aK S d name t)
def orphan (O:cg) (k:Nat):cg:=aF O k (fun o=>{ o with up:=none })
def eU (S:aI) (d:Nat) (name:ByteArray):Int×aI:=
  match aX name (obj S.O d).ah with
  | none=>(170,S)
  | some t=>if t.kind=2 then if (obj S.O t.k).ah=[] then (0,{ aK S d name t with O:=orphan (aK S d name t).O t.k }) else (178,S) else (173,S)
inductive jP (O:cg) (sub:Nat):Nat->Prop
  | here:jP O sub sub
  | up {k j:Nat}:(obj O k).up=some j->jP O sub j->jP O sub k
instance (O:cg) (sub k:Nat):Decidable (jP O sub k):=Classical.propDecidable _
def nX (S:aI) (d:Nat) (name:ByteArray) (to:Nat) (toName:ByteArray) (t:Th):aI:=
  { S with X:={ S.X with ah:=S.X.ah - 1+1 },O:=di S.X (aT S.X S.O d name t) to toName t }
def bL (S:aI) (d:Nat) (name:ByteArray) (to:Nat) (toName:ByteArray):Int×aI:=
  match aX name (obj S.O d).ah with
  | none=>(170,S)
  | some t=>
    if t.kind=2/\jP S.O t.k to then (174,S)
    else match aX toName (obj S.O to).ah with
      | none=>(0,nX S d name to toName t)
      | some o=>
        if o=t then (0,S) else if o.kind=2 then (172,S) else if t.kind=2 then (173,S)
        else (0,nX (aK S to toName o) d name to toName t)
def br (X:FM) (n:Nat):Nat:=(min (n:Int) (X.cB - X.used)).toNat
def dS (S:aI) (k:Nat) (bs:List UInt8):Int×Int×aI:=
  if bs=[] then (0,0,S)
  else if S.X.cB - S.X.used<=0 then (0,176,S)
  else ((br S.X bs.length:Int),0,{ S with
    X:={ S.X with used:=S.X.used+(br S.X bs.length:Int) }
    O:=aF S.O k (fun o=>{ o with data:=o.data++bs.take (br S.X bs.length),sec:=S.X.cS,nano:=S.X.cZ }) })
def cu (S:aI) (t:Th):Int×Int×aI:=
  (if (S.us.length:Int) < S.X.cH then least S.us else 0,if (S.us.length:Int) < S.X.cH then 0 else 130,{ S with
    O:=if (S.us.length:Int) < S.X.cH then aF S.O t.k (fun o=>{ o with opens:=o.opens+1 }) else S.O
    us:=if (S.us.length:Int) < S.X.cH then ins (least S.us) t S.us else S.us
    aD:=if (S.us.length:Int) < S.X.cH then max S.aD ((S.us.length:Int)+1) else S.aD })
theorem kW {S:aI} {t:Th} (h:(S.us.length:Int) < S.X.cH):cu S t=(least S.us,0,{ S with O:=aF S.O t.k (fun o=>{ o with opens:=o.opens+1 }),us:=ins (least S.us) t S.us,aD:=max S.aD ((S.us.length:Int)+1) }):=by
  unfold cu
  simp only [if_pos h]
theorem mE {S:aI} {t:Th} (h:¬ (S.us.length:Int) < S.X.cH):cu S t=(0,130,S):=by
  unfold cu
  simp only [if_neg h]
abbrev rI:=Int×aI×aB
def jv (S:aI) (c:aB):rI:=
  match aE.get S.idx c.other with
  | none=>(141,S,c)
  | some t=>if t.kind=2 then ((cu S t).2.1,(cu S t).2.2,{ c with answer:=(cu S t).1 }) else (173,S,c)
def fV (O:cg) (us:Used Th) (c:aB):Except Int Th:=
  match d9 O us c.handle c.name 64 with
  | .error e=>.error e
  | .ok d=>match aX c.name (obj O d).ah with
    | none=>.error 170
    | some t=>.ok t
def fN (S:aI) (c:aB):rI:=
  match fV S.O S.us c with
  | .error e=>(e,S,c)
  | .ok t=>if t.kind=3 then (174,S,c) else if t.kind=1 then (173,S,c) else ((cu S t).2.1,(cu S t).2.2,{ c with answer:=(cu S t).1 })
def eV (S:aI) (c:aB):rI:=
  match fV S.O S.us c with
  | .error e=>(e,S,c)
  | .ok t=>if t.kind=3 then (174,S,c) else if t.kind=2 then (172,S,c) else ((cu S t).2.1,(cu S t).2.2,{ c with answer:=(cu S t).1 })
def nO (m:Int):Prop:=0<=m/\m<=4095
instance (m:Int):Decidable (nO m):=inferInstanceAs (Decidable (_/\_))
def fW (S:aI) (c:aB):rI:=
  match d9 S.O S.us c.handle c.name 192 with
  | .error e=>(e,S,c)
  | .ok d=>if nO c.mode then ((gT S d c.name c.mode).1,(gT S d c.name c.mode).2,c) else (120,S,c)
def ni (S:aI) (d:Nat) (name:ByteArray) (mode:Int):Int×Int×aI:=
  if ck S.X S.O S.idx d name=0 then
    if (S.us.length:Int) < S.X.cH then
      (least S.us,0,eY { S with us:=ins (least S.us) ⟨aR S.X,1⟩ S.us,aD:=max S.aD ((S.us.length:Int)+1) } d name { aY S.X 1 mode with opens:=1 })
    else (0,130,S)
  else (0,ck S.X S.O S.idx d name,S)
def eE (S:aI) (c:aB):rI:=
  match d9 S.O S.us c.handle c.name 192 with
  | .error e=>(e,S,c)
  | .ok d=>if nO c.mode then
      if ck S.X S.O S.idx d c.name=0 then ((ni S d c.name c.mode).2.1,(ni S d c.name c.mode).2.2,{ c with answer:=(ni S d c.name c.mode).1 })
      else (ck S.X S.O S.idx d c.name,S,c)
    else (120,S,c)
def fP (S:aI) (c:aB):rI:=
  match d9 S.O S.us c.handle c.name 192 with
  | .error e=>(e,S,c)
  | .ok d=>((eT S d c.name c.text).1,(eT S d c.name c.text).2,c)
def fK (S:aI) (d:Nat) (name:ByteArray) (to:Nat) (toName:ByteArray):Int×aI:=
  match aX name (obj S.O d).ah with
  | none=>(170,S)
  | some t=>if t.kind=2 then (172,S)
    else if aX toName (obj S.O to).ah=none then
      if S.X.ah < 8192 then (0,{ S with X:={ S.X with ah:=S.X.ah+1 },O:=di S.X S.O to toName t }) else (177,S)
    else (171,S)
def cP (S:aI) (c:aB):rI:=
  match d9 S.O S.us c.handle c.name 64 with
  | .error e=>(e,S,c)
  | .ok d=>match d9 S.O S.us c.other c.text 192 with
    | .error e=>(e,S,c)
    | .ok to=>((fK S d c.name to c.text).1,(fK S d c.name to c.text).2,c)
def gD (S:aI) (c:aB):rI:=
  match d9 S.O S.us c.handle c.name 192 with
  | .error e=>(e,S,c)
  | .ok d=>((ez S d c.name).1,(ez S d c.name).2,c)
def iy (S:aI) (c:aB):rI:=
  match d9 S.O S.us c.handle c.name 192 with
  | .error e=>(e,S,c)
  | .ok d=>((eU S d c.name).1,(eU S d c.name).2,c)
def fL (S:aI) (c:aB):rI:=
  match d9 S.O S.us c.handle c.name 192 with
  | .error e=>(e,S,c)
  | .ok d=>match d9 S.O S.us c.other c.text 192 with
    | .error e=>(e,S,c)
    | .ok to=>((bL S d c.name to c.text).1,(bL S d c.name to c.text).2,c)
def gy (S:aI) (c:aB):rI:=
  match aE.get S.us c.handle with
  | none=>(131,S,c)
  | some t=>if t.kind=1 then ((dS S t.k c.data).2.1,(dS S t.k c.data).2.2,{ c with answer:=(dS S t.k c.data).1 }) else (172,S,c)
def BN (m:Int):Prop:=0<=m/\m<=2147483647
instance (m:Int):Decidable (BN m):=inferInstanceAs (Decidable (_/\_))
def bP (S:aI) (c:aB):rI:=
  match aE.get S.us c.handle with
  | none=>(131,S,c)
  | some t=>
    if (obj S.O t.k).gone=true/\t.kind=2 then (170,S,c)
    else if nO c.mode then
      if BN c.uid/\BN c.gid then
        if dW c.sec c.nano then (0,{ S with O:=aF S.O t.k (fun o=>{ o with mode:=c.mode,uid:=c.uid,gid:=c.gid,sec:=c.sec,nano:=c.nano }) },c)
        else (20,S,c)
      else (11,S,c)
    else (120,S,c)
def mo (O:cg) (c:aB):Option Th->aB
  | none=>{ c with other:=0,mode:=0,uid:=0,gid:=0,sec:=0,nano:=0 }
  | some t=>{ c with answer:=(obj O t.k).id,other:=t.kind,mode:=(obj O t.k).mode,uid:=(obj O t.k).uid,gid:=(obj O t.k).gid,sec:=(obj O t.k).sec,nano:=(obj O t.k).nano }
def kE (S:aI) (c:aB):rI:=
  match aE.get S.us c.handle with
  | none=>(131,S,mo S.O c none)
  | some t=>(0,S,mo S.O c (some t))
def gE (S:aI) (c:aB):rI:=
  match fV S.O S.us c with
  | .error e=>(e,S,mo S.O c none)
  | .ok t=>(0,S,mo S.O c (some t))
def qL (O:cg) (k:Nat):cg:=aF O k (fun o=>{ o with opens:=o.opens - 1 })
def jr (S:aI) (c:aB):rI:=
  match aE.get S.us c.handle with
  | none=>(131,S,c)
  | some t=>(0,{ S with
      X:={ S.X with used:=j3 (qL S.O t.k) S.X.used t }
      O:=qL S.O t.k
      idx:=jN (qL S.O t.k) S.idx t
      us:=del c.handle S.us },c)
def cX (S:aI) (c:aB):rI:=
  if c.op=1 then jv S c else if c.op=2 then fN S c else if c.op=3 then eV S c else if c.op=4 then fW S c
  else if c.op=5 then eE S c else if c.op=6 then fP S c else if c.op=7 then cP S c else if c.op=8 then gD S c
  else if c.op=9 then gy S c else if c.op=10 then bP S c else if c.op=11 then kE S c else if c.op=12 then gE S c
  else if c.op=13 then jr S c else if c.op=14 then iy S c else if c.op=15 then fL S c else (230,S,c)
def cQ (S:aI) (c:aB):aI×aB:=
  ((cX S { c with answer:=0,code:=230 }).2.1,{ (cX S { c with answer:=0,code:=230 }).2.2 with code:=(cX S { c with answer:=0,code:=230 }).1 })
end
end
section
open Go.RowKit Go.Maps bH aE
section sums
variable {V:Type} {g g':Int×V->Nat} {us:Used V} {h:Int} {v:V}
def dP (g:Int×V->Nat):Used V->Nat
  | []=>0
  | p::r=>g p+dP g r
theorem Az:dP g (ins h v us)=g (h,v)+dP g us:=by
  induction us with
  | nil=>rfl
  | cons p r ih=>
    unfold ins
    split
    ·rfl
    show g p+dP g (ins h v r)=g (h,v)+(g p+dP g r)
    rw [ih];omega
theorem fZ (hc:∀ p∈us,g' p=g p):dP g' us=dP g us:=by
  induction us with
  | nil=>rfl
  | cons p r ih=>
    show g' p+dP g' r=g p+dP g r
    rw [hc p (List.mem_cons_self ..),ih (fun q hq=>hc q (List.mem_cons_of_mem _ hq))]
theorem HB (hc:∀ p∈us,g' p<=g p):dP g' us<=dP g us:=by
  induction us with
  | nil=>exact Nat.le_refl _
  | cons p r ih=>
    show g' p+dP g' r<=g p+dP g r
    exact Nat.add_le_add (hc p (List.mem_cons_self ..)) (ih (fun q hq=>hc q (List.mem_cons_of_mem _ hq)))
theorem sN {p:Int×V} {r:Used V}:aE.get (p::r) h=if p.1=h then some p.2 else aE.get r h:=by
  unfold aE.get
  rw [List.find?_cons]
  by_cases e:p.1=h
  ·simp [e]
  have e2:(p.1 == h)=false:=by simpa using e
  rw [e2,if_neg e]
theorem get_mem {us:Used V} (e:aE.get us h=some v):(h,v)∈us:=by
  induction us with
  | nil=>cases e
  | cons p r ih=>
    rw [sN] at e
    split at e
    ·rename_i e2;cases e;subst e2;exact List.mem_cons_self ..
    exact List.mem_cons_of_mem _ (ih e)
theorem nj {us:Used V} (hr:aE.dh (keys us)) (e:(h,v)∈us):aE.get us h=some v:=by
  induction us with
  | nil=>cases e
  | cons p r ih=>
    rw [keys_cons] at hr
    obtain⟨h1,h2⟩:=List.pairwise_cons.1 hr
    rw [sN]
    rcases List.mem_cons.1 e with e|e
    ·subst e;rw [if_pos rfl]
    have:p.1 < h:=h1 h (List.mem_map.2 ⟨(h,v),e,rfl⟩)
    rw [if_neg (by omega)]
    exact ih h2 e
theorem lV (e:aE.get us h=some v):g (h,v)<=dP g us:=by
  have hm:=get_mem e
  induction us with
  | nil=>cases hm
  | cons p r ih=>
    show _<=g p+dP g r
    rw [sN] at e
    split at e
    ·rename_i e2;cases e;subst e2;exact Nat.le_add_right ..
    rcases List.mem_cons.1 hm with e2|e2
    ·subst e2;exact Nat.le_add_right ..
    exact Nat.le_trans (ih e e2) (Nat.le_add_left ..)
theorem AA (hr:aE.dh (keys us)) (e:aE.get us h=some v) (hc:∀ p∈us,p.1≠h->g' p=g p):dP g' us+g (h,v)=dP g us+g' (h,v):=by
  induction us with
  | nil=>cases e
  | cons p r ih=>
    rw [keys_cons] at hr
    obtain⟨h1,h2⟩:=List.pairwise_cons.1 hr
    rw [sN] at e
    show g' p+dP g' r+_=g p+dP g r+_
    split at e
    ·rename_i e2
     cases e
     have e3:dP g' r=dP g r:=fZ (fun q hq=>hc q (List.mem_cons_of_mem _ hq) (by
       have:=h1 q.1 (List.mem_map.2 ⟨q,hq,rfl⟩);omega))
     have e4:p=(h,p.2):=by rw [← e2]
     rw [e3,← e4];omega
    rename_i e2
    have:=ih h2 e (fun q hq=>hc q (List.mem_cons_of_mem _ hq))
    have:=hc p (List.mem_cons_self ..) e2
    omega
theorem MH {p:Int×V} {r:Used V}:del h (p::r)=if p.1=h then del h r else p::del h r:=by
  unfold del
  rw [List.filter_cons]
  by_cases e:p.1=h
  ·simp [e]
  simp [e]
theorem Pz {us:Used V} (hn:h∉keys us):del h us=us:=by
  unfold del
  refine List.filter_eq_self.2 (fun p hp=>?_)
  have:¬ p.1=h:=fun e=>hn (List.mem_map.2 ⟨p,hp,e⟩)
  simp [this]
theorem AB (hr:aE.dh (keys us)) (e:aE.get us h=some v):dP g (del h us)+g (h,v)=dP g us:=by
  induction us with
  | nil=>cases e
  | cons p r ih=>
    rw [keys_cons] at hr
    obtain⟨h1,h2⟩:=List.pairwise_cons.1 hr
    rw [sN] at e
    rw [MH]
    show _=g p+dP g r
    split at e
    ·rename_i e2
     cases e
     rw [if_pos e2,Pz (fun hm=>by have:=h1 h hm;omega)]
     have e4:p=(h,p.2):=by rw [← e2]
     rw [← e4];omega
    rename_i e2
    rw [if_neg e2]
    show g p+dP g (del h r)+_=_
    have:=ih h2 e
    omega
theorem Fw {us:Used V} (hr:aE.dh (keys us)):aE.dh (keys (del h us)):=by
  rw [og]
  exact List.Pairwise.filter _ hr
end sums
section UC
variable {n:ByteArray} {t:Th} {es:fD Th} {q:ByteArray×Th->Bool}
theorem KJ:(gS n t es).countP q=es.countP q+if q (n,t) then 1 else 0:=by
  induction es with
  | nil=>simp [gS,List.countP_cons]
  | cons e r ih=>
    unfold gS
    split
    ·rw [List.countP_cons]
    rw [List.countP_cons,ih,List.countP_cons];omega
theorem KL {es:fD Th} (hd:oG es) (h:aX n es=some t):(gq n es).countP q+(if q (n,t) then 1 else 0)=es.countP q:=by
  induction es with
  | nil=>cases h
  | cons e r ih=>
    obtain⟨h1,h2⟩:=List.pairwise_cons.1 hd
    rw [iw] at h
    rw [List.countP_cons]
    by_cases he:e.1=n
    ·rw [if_pos he] at h
     have e1:gq n (e::r)=r:=by
       unfold gq
       rw [List.filter_cons,if_neg (by simp [he])]
       exact List.filter_eq_self.2 (fun x hx=>by have:=h1 x hx;simp;exact fun e2=>this (he.trans e2.symm))
     have e2:e=(n,t):=by
       have:e.2=t:=Option.some.inj h
       rw [← he,← this]
     rw [e1,← e2]
    rw [if_neg he] at h
    have e1:gq n (e::r)=e::gq n r:=by
      unfold gq
      rw [List.filter_cons,if_pos (by simp [he])]
    rw [e1,List.countP_cons]
    have:=ih h2 h
    omega
theorem MI {e:ByteArray×Th} {es:fD Th} (h:e∈gq n es):e∈es/\e.1≠n:=by
  unfold gq at h
  have:=List.mem_filter.1 h
  exact⟨this.1,by simpa using this.2⟩
theorem xP {es:fD Th} (hd:oG es) (h:(n,t)∈es):aX n es=some t:=by
  induction es with
  | nil=>cases h
  | cons e r ih=>
    obtain⟨h1,h2⟩:=List.pairwise_cons.1 hd
    rw [iw]
    rcases List.mem_cons.1 h with h|h
    ·subst h;rw [if_pos rfl]
    rw [if_neg (fun e2=>h1 (n,t) h e2),ih h2 h]
end UC
def Live (idx:Used Th) (t:Th):Prop:=aE.get idx (t.k:Int)=some t
def jO (es:fD Th):Prop:=es.Pairwise (fun a b=>¬ mh b.1 a.1)
def iz (idx:Used Th) (O:cg) (k:Nat):Nat:=dP (fun p=>(obj O p.2.k).ah.countP (fun e=>decide (e.2.k=k))) idx
def tot (idx:Used Th) (O:cg):Nat:=dP (fun p=>(obj O p.2.k).ah.length) idx
def bytes (idx:Used Th) (O:cg):Nat:=dP (fun p=>(obj O p.2.k).data.length) idx
def hnd (us:Used Th) (k:Nat):Nat:=dP (fun p=>if p.2.k=k then 1 else 0) us
structure kI (o:aV):Prop where
  mode:0<=o.mode/\o.mode<=4095
  uid:0<=o.uid/\o.uid<=2147483647
  gid:0<=o.gid/\o.gid<=2147483647
  time:dW o.sec o.nano
  data:o.kind≠1->o.data=[]
  ah:o.kind≠2->o.ah=[]
  target:eW o.kind o.target
structure Inv0 (S:aI):Prop where
  cN:0<=S.X.cN/\S.X.cN<=4096
  cB:0<=S.X.cB/\S.X.cB<=1099511627776
  cH:0<=S.X.cH/\S.X.cH<=1024
  now:dW S.X.cS S.X.cZ
  last:0<=S.X.last/\S.X.last<=1099511627776
  rise:aE.dh (keys S.idx)
  len:S.idx.length<=4096
  idx:∀ i t,aE.get S.idx i=some t->i=(t.k:Int)/\0 < i/\i<=S.X.last
  ob:∀ t,Live S.idx t->(obj S.O t.k).id=(t.k:Int)/\(obj S.O t.k).kind=t.kind/\(t.kind=1\/t.kind=2\/t.kind=3)
  mt:∀ t,Live S.idx t->kI (obj S.O t.k)
  ah:∀ t,Live S.idx t->∀ e∈(obj S.O t.k).ah,bO e.1/\Live S.idx e.2
  sorted:∀ t,Live S.idx t->jO (obj S.O t.k).ah
  dead:∀ k,(∀ t,Live S.idx t->t.k≠k)->(obj S.O k).ah=[]/\(obj S.O k).up=none
  rU:∀ k:Nat,S.X.last < (k:Int)->(obj S.O k).kind=0
  total:S.X.ah=(tot S.idx S.O:Int)/\S.X.ah<=8192
  links:∀ t,Live S.idx t->(obj S.O t.k).links=(iz S.idx S.O t.k:Int)
  once:∀ t,Live S.idx t->t.kind=2->(obj S.O t.k).links<=1
  opens:∀ t,Live S.idx t->(obj S.O t.k).opens=(hnd S.us t.k:Int)
  usr:aE.dh (keys S.us)
  xQ:∀ x∈keys S.us,1<=x/\x<=S.aD
  DV:(S.us.length:Int)<=S.X.cH
  aD:0<=S.aD/\S.aD<=S.X.cH
  us:∀ h t,aE.get S.us h=some t->Live S.idx t/\t.kind≠3
  gone:∀ t,Live S.idx t->(obj S.O t.k).gone=true->(obj S.O t.k).links=0/\(obj S.O t.k).ah=[]
  up:∀ t,Live S.idx t->∀ d,(obj S.O t.k).up=some d↔t.kind=2/\Live S.idx ⟨d,2⟩/\∃ n,aX n (obj S.O d).ah=some t
  deep:∃ dp:Nat->Nat,∀ k d,(obj S.O k).up=some d->dp d < dp k
  used:S.X.used=(bytes S.idx S.O:Int)/\S.X.used<=140737488355328
structure Inv (S:aI):Prop extends Inv0 S where
  full:∀ t,Live S.idx t->(obj S.O t.k).gone=true->0 < (obj S.O t.k).opens
end
section
open Go.RowKit Go.Maps bH aE
section at_
variable {X:FM} {O:cg} {d k:Nat} {name:ByteArray} {t:Th}
theorem jd (h:t.k≠d):obj (aT X O d name t) k=if k=d then { obj O d with ah:=gq name (obj O d).ah,sec:=X.cS,nano:=X.cZ } else if k=t.k then { obj O k with links:=(obj O k).links - 1 } else obj O k:=by
  unfold aT qJ
  by_cases e:k=d
  ·subst e
   rw [cG (fun e=>h e.symm),bR,bR,if_pos rfl]
  rw [if_neg e]
  by_cases e2:k=t.k
  ·subst e2
   rw [bR,cG e,cG e,if_pos rfl]
  rw [cG e2,cG e,cG e,if_neg e2]
theorem xR (h:t.k≠d):obj (di X O d name t) k=if k=d then { obj O d with ah:=gS name t (obj O d).ah,sec:=X.cS,nano:=X.cZ } else if k=t.k then { obj O k with links:=(obj O k).links+1,up:=if t.kind=2 then some d else (obj O k).up } else obj O k:=by
  unfold di qJ o5
  simp only
  by_cases e:k=d
  ·subst e
   rw [if_pos rfl,bR]
   split
   ·rw [cG (fun e=>h e.symm),cG (fun e=>h e.symm),bR]
   rw [cG (fun e=>h e.symm),bR]
  rw [if_neg e,cG e]
  by_cases e2:k=t.k
  ·subst e2
   rw [if_pos rfl]
   split
   ·rw [bR,bR,cG e]
   rw [bR,cG e]
  rw [if_neg e2]
  split
  ·rw [cG e2,cG e2,cG e]
  rw [cG e2,cG e]
end at_
section counts
variable {idx:Used Th} {O O':cg} {d k:Nat} {n:ByteArray} {t:Th}
theorem MJ {q:ByteArray×Th->Bool} (hr:aE.dh (keys idx)) (hd:aE.get idx (d:Int)=some ⟨d,2⟩) (hk:∀ i u,aE.get idx i=some u->i=(u.k:Int)) (ho:∀ x,x≠d->(obj O' x).ah=(obj O x).ah) (h1:(obj O' d).ah=gq n (obj O d).ah) (h2:oG (obj O d).ah) (h3:aX n (obj O d).ah=some t) :
    dP (fun p=>(obj O' p.2.k).ah.countP q) idx+(if q (n,t) then 1 else 0)=dP (fun p=>(obj O p.2.k).ah.countP q) idx:=by
  have h4:=AA (g:=fun p=>(obj O p.2.k).ah.countP q) (g':=fun p=>(obj O' p.2.k).ah.countP q) hr hd (fun p hp hne=>by
    have:=hk p.1 p.2 (nj hr hp)
    show (obj O' p.2.k).ah.countP q=_
    rw [ho p.2.k (by intro e;rw [e] at this;exact hne this)])
  have h5:=KL (q:=q) h2 h3
  have h6:(obj O' d).ah.countP q=(gq n (obj O d).ah).countP q:=by rw [h1]
  have h7:dP (fun p=>(obj O' p.2.k).ah.countP q) idx+(obj O d).ah.countP q=dP (fun p=>(obj O p.2.k).ah.countP q) idx+(obj O' d).ah.countP q:=h4
  omega
theorem MK {q:ByteArray×Th->Bool} (hr:aE.dh (keys idx)) (hd:aE.get idx (d:Int)=some ⟨d,2⟩) (hk:∀ i u,aE.get idx i=some u->i=(u.k:Int)) (ho:∀ x,x≠d->(obj O' x).ah=(obj O x).ah) (h1:(obj O' d).ah=gS n t (obj O d).ah) :
    dP (fun p=>(obj O' p.2.k).ah.countP q) idx=dP (fun p=>(obj O p.2.k).ah.countP q) idx+(if q (n,t) then 1 else 0):=by
  have h4:=AA (g:=fun p=>(obj O p.2.k).ah.countP q) (g':=fun p=>(obj O' p.2.k).ah.countP q) hr hd (fun p hp hne=>by
    have:=hk p.1 p.2 (nj hr hp)
    show (obj O' p.2.k).ah.countP q=_
    rw [ho p.2.k (by intro e;rw [e] at this;exact hne this)])
  have h5:=KJ (q:=q) (n:=n) (t:=t) (es:=(obj O d).ah)
  have h6:(obj O' d).ah.countP q=(gS n t (obj O d).ah).countP q:=by rw [h1]
  have h7:dP (fun p=>(obj O' p.2.k).ah.countP q) idx+(obj O d).ah.countP q=dP (fun p=>(obj O p.2.k).ah.countP q) idx+(obj O' d).ah.countP q:=h4
  omega
theorem mF:tot idx O=dP (fun p=>(obj O p.2.k).ah.countP (fun _=>true)) idx:=fZ (fun p _=>by simp)
theorem KM {q:ByteArray×Th->Bool} (ho:∀ x,(obj O' x).ah=(obj O x).ah):dP (fun p=>(obj O' p.2.k).ah.countP q) idx=dP (fun p=>(obj O p.2.k).ah.countP q) idx:=fZ (fun p _=>by rw [ho])
theorem KN:iz idx O k<=tot idx O:=by
  rw [mF]
  exact HB (fun p _=>List.countP_mono_left (fun _ _ _=>rfl))
theorem nk (hd:aE.get idx (d:Int)=some ⟨d,2⟩) (h:aX n (obj O d).ah=some t):0 < iz idx O t.k:=by
  refine Nat.lt_of_lt_of_le ?_ (lV (g:=fun p=>(obj O p.2.k).ah.countP (fun e=>decide (e.2.k=t.k))) hd)
  exact List.countP_pos_iff.2 ⟨(n,t),mD h,by simp⟩
theorem BO (hr:aE.dh (keys idx)) (h:0 < iz idx O k):∃ i u,aE.get idx i=some u/\∃ e∈(obj O u.k).ah,e.2.k=k:=by
  apply Classical.byContradiction
  intro hn
  have:iz idx O k=dP (fun _=>0) idx:=fZ (fun p hp=>by
    show List.countP _ _=0
    rw [List.countP_eq_zero]
    intro e he hk
    exact hn ⟨p.1,p.2,nj hr hp,e,he,by simpa using hk⟩)
  have h0:∀ us:Used Th,dP (fun _=>0) us=0:=fun us=>by
    induction us with
    | nil=>rfl
    | cons p r ih=>show 0+_=0;rw [ih]
  rw [this,h0] at h
  omega
end counts
end
section
open Go.RowKit Go.Maps bH aE
section inv
variable {S:aI} {d k:Nat} {name:ByteArray} {t u:Th}
theorem Inv0.key (h:Inv0 S) {i:Int} (e:aE.get S.idx i=some t):i=(t.k:Int):=(h.idx i t e).1
theorem Inv0.live (h:Inv0 S) {i:Int} (e:aE.get S.idx i=some t):Live S.idx t:=by
  have:=h.key e
  subst this
  exact e
theorem gF {idx:Used Th} (h1:Live idx t) (h2:Live idx u) (e:t.k=u.k):t=u:=by
  unfold Live at h1 h2
  rw [e,h2] at h1
  exact (Option.some.inj h1).symm
theorem Inv0.kind (h:Inv0 S) (hl:Live S.idx t):(obj S.O t.k).kind=t.kind:=(h.ob t hl).2.1
theorem Jc {x:ByteArray}:mh x x:=by unfold mh;simp
theorem jO.twice {es:fD Th} (h:jO es):oG es:=List.Pairwise.imp (fun {a b} hab e=>hab (by rw [e];exact Jc)) h
theorem Inv0.twice (h:Inv0 S) (hl:Live S.idx t):oG (obj S.O t.k).ah:=(h.sorted t hl).twice
theorem Inv0.ent (h:Inv0 S) (hd:Live S.idx u) (hl:aX name (obj S.O u.k).ah=some t):bO name/\Live S.idx t:=h.ah u hd _ (mD hl)
theorem Inv0.ne (h:Inv0 S) (hd:Live S.idx ⟨d,2⟩) (hl:aX name (obj S.O d).ah=some t):t.k≠d:=fun e=>by
  have h1:=(h.ent hd hl).2
  have h2:t=⟨d,2⟩:=gF h1 hd e
  subst h2
  have h3:=(h.up _ hd d).2 ⟨rfl,hd,name,hl⟩
  obtain⟨dp,hdp⟩:=h.deep
  have:dp d < dp d:=hdp _ _ h3
  omega
theorem Inv0.free (h:Inv0 S) (hk:S.X.last < (k:Int)) (hl:Live S.idx t):t.k≠k:=fun e=>by
  have:=(h.idx _ t hl).2.2
  subst e
  omega
theorem kI.of {o o':aV} (h:kI o) (e1:o'.mode=o.mode) (e2:o'.uid=o.uid) (e3:o'.gid=o.gid) (e4:dW o'.sec o'.nano) (e5:o'.kind=o.kind) (e6:o'.data=o.data\/o.kind=1) (e7:o'.ah=o.ah\/o.kind=2) (e8:o'.target=o.target):kI o':=
  ⟨e1 ▸ h.mode,e2 ▸ h.uid,e3 ▸ h.gid,e4,fun hk=>by
    rw [e5] at hk
    rcases e6 with e|e
    ·rw [e];exact h.data hk
    ·exact absurd e hk,fun hk=>by
    rw [e5] at hk
    rcases e7 with e|e
    ·rw [e];exact h.ah hk
    exact absurd e hk,by rw [e5,e8];exact h.target⟩
theorem Inv0.own (h:Inv0 S) {f:aV->aV} {kF gh:Int} {us':Used Th} (f1:∀ o,(f o).id=o.id) (f2:∀ o,(f o).kind=o.kind) (f3:∀ o,(f o).ah=o.ah) (f4:∀ o,(f o).up=o.up) (f5:∀ o,(f o).links=o.links) (f6:∀ o,(f o).gone=o.gone)
    (hm:∀ t,Live S.idx t->t.k=k->kI (f (obj S.O k))) (ho:∀ t,Live S.idx t->(obj (aF S.O k f) t.k).opens=(hnd us' t.k:Int))
    (u1:aE.dh (keys us')) (u2:∀ x∈keys us',1<=x/\x<=gh) (u3:(us'.length:Int)<=S.X.cH) (u4:0<=gh/\gh<=S.X.cH) (u5:∀ h t,aE.get us' h=some t->Live S.idx t/\t.kind≠3)
    (hu:kF=(bytes S.idx (aF S.O k f):Int)/\kF<=140737488355328):Inv0 { S with X:={ S.X with used:=kF },O:=aF S.O k f,us:=us',aD:=gh }:=by
  have g1:∀ x,(obj (aF S.O k f) x).id=(obj S.O x).id:=fun x=>dR (g:=aV.id) f1
  have g2:∀ x,(obj (aF S.O k f) x).kind=(obj S.O x).kind:=fun x=>dR (g:=aV.kind) f2
  have g3:∀ x,(obj (aF S.O k f) x).ah=(obj S.O x).ah:=fun x=>dR (g:=aV.ah) f3
  have g4:∀ x,(obj (aF S.O k f) x).up=(obj S.O x).up:=fun x=>dR (g:=aV.up) f4
  have g5:∀ x,(obj (aF S.O k f) x).links=(obj S.O x).links:=fun x=>dR (g:=aV.links) f5
  have g6:∀ x,(obj (aF S.O k f) x).gone=(obj S.O x).gone:=fun x=>dR (g:=aV.gone) f6
  refine { h with ob:=fun t hl=>?_,mt:=fun t hl=>?_,ah:=fun t hl=>?_,sorted:=fun t hl=>?_,dead:=fun x hx=>?_,rU:=fun x hx=>by rw [g2];exact h.rU x hx,total:=?_,links:=fun t hl=>?_,once:=fun t hl=>?_,opens:=ho,usr:=u1,xQ:=u2,DV:=u3,aD:=u4,us:=u5,gone:=fun t hl=>?_,up:=fun t hl e=>?_,deep:=?_,used:=hu }
  ·rw [g1,g2];exact h.ob t hl
  ·show kI (obj (aF S.O k f) t.k)
   by_cases e:t.k=k
   ·rw [e,bR];exact hm t hl e
   rw [cG e];exact h.mt t hl
  ·rw [g3];exact h.ah t hl
  ·rw [g3];exact h.sorted t hl
  ·rw [g3,g4];exact h.dead x hx
  ·have:tot S.idx (aF S.O k f)=tot S.idx S.O:=fZ (fun p _=>by rw [g3])
   show S.X.ah=(tot S.idx (aF S.O k f):Int)/\_
   rw [this];exact h.total
  ·show (obj (aF S.O k f) t.k).links=(iz S.idx (aF S.O k f) t.k:Int)
   have:iz S.idx (aF S.O k f) t.k=iz S.idx S.O t.k:=KM g3
   rw [g5,this];exact h.links t hl
  ·rw [g5];exact h.once t hl
  ·rw [g6,g5,g3];exact h.gone t hl
  ·show (obj (aF S.O k f) t.k).up=some e↔t.kind=2/\Live S.idx ⟨e,2⟩/\∃ n,aX n (obj (aF S.O k f) e).ah=some t
   rw [g4,g3];exact h.up t hl e
  obtain⟨dp,hdp⟩:=h.deep
  exact⟨dp,fun x e he=>hdp x e (by rw [g4] at he;exact he)⟩
def rV (S:aI) (t:Th):aI:={ S with X:={ S.X with used:=j3 S.O S.X.used t },idx:=jN S.O S.idx t }
theorem Inv0.rV (h:Inv0 S) (ht:Live S.idx t) (hf:∀ u,Live S.idx u->u≠t->(obj S.O u.k).gone=true->0 < (obj S.O u.k).opens):Inv (Proofs.YtidjcblbdmfalaaGreat.rV S t):=by
  by_cases hF:rT S.O t
  ·have e1:Proofs.YtidjcblbdmfalaaGreat.rV S t={ S with X:={ S.X with used:=S.X.used - (obj S.O t.k).data.length },idx:=del (t.k:Int) S.idx }:=by
     unfold Proofs.YtidjcblbdmfalaaGreat.rV j3 jN
     rw [if_pos hF,if_pos hF,(h.ob t ht).1]
     split
     ·rfl
     rename_i e
     have:=(h.mt t ht).data (by rw [h.kind ht];exact e)
     rw [this]
     simp
   rw [e1]
   obtain⟨hg,hop⟩:=hF
   obtain⟨hlk,hen⟩:=h.gone t ht hg
   have fo:∀ x,Live (del (t.k:Int) S.idx) x↔Live S.idx x/\x.k≠t.k:=fun x=>by
     unfold Live
     rw [uP]
     constructor
     ·intro e
      split at e
      ·cases e
      rename_i e2;exact⟨e,fun e3=>e2 (by rw [e3])⟩
     rintro⟨e,e2⟩
     rw [if_neg (by omega)];exact e
   have hl0:iz S.idx S.O t.k=0:=by have:=h.links t ht;omega
   have hne:∀ x,Live S.idx x->∀ e∈(obj S.O x.k).ah,e.2.k≠t.k:=fun x hx e he hk=>by
     have:0 < iz S.idx S.O t.k:=Nat.lt_of_lt_of_le (List.countP_pos_iff.2 ⟨e,he,by simpa using hk⟩) (lV (g:=fun p=>(obj S.O p.2.k).ah.countP (fun e=>decide (e.2.k=t.k))) hx)
     omega
   have hsum:∀ q:ByteArray×Th->Bool,dP (fun p=>(obj S.O p.2.k).ah.countP q) (del (t.k:Int) S.idx)=dP (fun p=>(obj S.O p.2.k).ah.countP q) S.idx:=fun q=>by
     have h1:=AB (g:=fun p:Int×Th=>(obj S.O p.2.k).ah.countP q) h.rise ht
     have h2:(obj S.O t.k).ah.countP q=0:=by rw [hen];rfl
     have h3:dP (fun p:Int×Th=>(obj S.O p.2.k).ah.countP q) (del (t.k:Int) S.idx)+(obj S.O t.k).ah.countP q=_:=h1
     omega
   refine { h with rise:=Fw h.rise,len:=?_,idx:=fun i x e=>?_,ob:=fun x hx=>h.ob x ((fo x).1 hx).1,mt:=fun x hx=>h.mt x ((fo x).1 hx).1,ah:=fun x hx e he=>?_,sorted:=fun x hx=>h.sorted x ((fo x).1 hx).1,dead:=fun x hx=>?_,total:=?_,links:=fun x hx=>?_,once:=fun x hx=>h.once x ((fo x).1 hx).1,opens:=fun x hx=>h.opens x ((fo x).1 hx).1,us:=fun i x e=>?_,gone:=fun x hx=>h.gone x ((fo x).1 hx).1,up:=fun x hx e=>?_,used:=?_,full:=fun x hx hg=>hf x ((fo x).1 hx).1 (fun e=>((fo x).1 hx).2 (by rw [e])) hg }
   ·have h1:=qb h.rise (get_some ht)
    have h2:=h.len
    show (del (t.k:Int) S.idx).length<=4096
    omega
   ·have e:aE.get (del (t.k:Int) S.idx) i=some x:=e
    rw [uP] at e
    split at e
    ·cases e
    exact h.idx i x e
   ·have hx':=((fo x).1 hx).1
    have h1:=h.ah x hx' e he
    exact⟨h1.1,(fo _).2 ⟨h1.2,hne x hx' e he⟩⟩
   ·by_cases e:x=t.k
    ·subst e
     refine⟨hen,?_⟩
     cases hu:(obj S.O t.k).up with
     | none=>rfl
     | some y=>
       obtain⟨_,h2,n,h3⟩:=(h.up t ht y).1 hu
       exact absurd rfl (hne _ h2 _ (mD h3))
    exact h.dead x (fun y hy e2=>hx y ((fo y).2 ⟨hy,fun e3=>e (e2.symm.trans e3)⟩) e2)
   ·show S.X.ah=(tot (del (t.k:Int) S.idx) S.O:Int)/\_
    rw [mF,hsum,← mF];exact h.total
   ·show _=(iz (del (t.k:Int) S.idx) S.O x.k:Int)
    have:iz (del (t.k:Int) S.idx) S.O x.k=iz S.idx S.O x.k:=hsum _
    rw [this];exact h.links x ((fo x).1 hx).1
   ·obtain⟨h1,h2⟩:=h.us i x e
    refine⟨(fo x).2 ⟨h1,fun e2=>?_⟩,h2⟩
    have h3:=h.opens t ht
    have h4:0 < hnd S.us t.k:=Nat.lt_of_lt_of_le (by simp [e2]) (lV (g:=fun p:Int×Th=>if p.2.k=t.k then 1 else 0) e)
    omega
   ·rw [h.up x ((fo x).1 hx).1 e]
    constructor
    ·rintro⟨h1,h2,n,h3⟩
     refine⟨h1,(fo _).2 ⟨h2,fun e2=>?_⟩,n,h3⟩
     have e2:e=t.k:=e2
     rw [e2,hen] at h3;cases h3
    rintro⟨h1,h2,h3⟩
    exact⟨h1,((fo _).1 h2).1,h3⟩
   obtain⟨h1,h2⟩:=h.used
   have h3:dP (fun p:Int×Th=>(obj S.O p.2.k).data.length) (del (t.k:Int) S.idx)+(obj S.O t.k).data.length=dP (fun p:Int×Th=>(obj S.O p.2.k).data.length) S.idx:=AB (g:=fun p:Int×Th=>(obj S.O p.2.k).data.length) h.rise ht
   show S.X.used - ((obj S.O t.k).data.length:Int)=(bytes (del (t.k:Int) S.idx) S.O:Int)/\S.X.used - ((obj S.O t.k).data.length:Int)<=140737488355328
   unfold bytes at h1 ⊢
   omega
  have e1:Proofs.YtidjcblbdmfalaaGreat.rV S t=S:=by
    unfold Proofs.YtidjcblbdmfalaaGreat.rV j3 jN
    rw [if_neg hF,if_neg hF]
  rw [e1]
  refine { h with full:=fun u hu hg=>?_ }
  by_cases e:u=t
  ·subst e
   have h1:=h.opens u hu
   have:¬ (obj S.O u.k).opens=0:=fun e=>hF ⟨hg,e⟩
   omega
  exact hf u hu e hg
end inv
end
section
open Go.RowKit Go.Maps bH aE
section facts
variable {S:aI} {X:FM} {O:cg} {d k:Nat} {name:ByteArray} {t u:Th}
theorem dL {α:Type} {g:aV->α} (h1:∀ o es,g { o with ah:=es }=g o) (h2:∀ o l,g { o with links:=l }=g o) (h3:∀ o a b,g { o with sec:=a,nano:=b }=g o):g (obj (aT X O d name t) k)=g (obj O k):=by
  unfold aT qJ
  rw [dR (fun o=>h2 o _),dR (fun o=>h3 o _ _),dR (fun o=>h1 o _)]
theorem nu {α:Type} {g:aV->α} (h1:∀ o es,g { o with ah:=es }=g o) (h2:∀ o l,g { o with links:=l }=g o) (h3:∀ o a b,g { o with sec:=a,nano:=b }=g o) (h4:∀ o u,g { o with up:=u }=g o):g (obj (di X O d name t) k)=g (obj O k):=by
  unfold di qJ
  rw [dR (fun o=>h3 o _ _),Av h1 h2 h4]
theorem Inv0.hX (h:Inv0 S):0<=S.X.ah/\S.X.ah<=1048576/\-1125899906842624<=S.X.used/\S.X.used<=1125899906842624/\0<=S.X.last/\S.X.last<=1125899906842624:=by
  have:=h.total;have:=h.used;have:=h.last
  omega
theorem Inv0.gi (h:Inv0 S) (hl:Live S.idx t):(obj S.O t.k).ah.length<=8192:=by
  have h1:=h.total
  have h2:(obj S.O t.k).ah.length<=tot S.idx S.O:=lV (g:=fun p:Int×Th=>(obj S.O p.2.k).ah.length) hl
  omega
theorem Inv0.lb (h:Inv0 S) (hl:Live S.idx t):0<=(obj S.O t.k).links/\(obj S.O t.k).links<=8192:=by
  have h1:=h.total
  have h2:=h.links t hl
  have h3:iz S.idx S.O t.k<=tot S.idx S.O:=KN
  omega
theorem QJ {us:Used Th}:hnd us k<=us.length:=by
  have:hnd us k<=dP (fun _=>1) us:=HB (fun p _=>by split<;>omega)
  have h2:∀ us:Used Th,dP (fun _=>1) us=us.length:=fun us=>by
    induction us with
    | nil=>rfl
    | cons p r ih=>show 1+_=_;rw [ih,List.length_cons];omega
  rw [h2] at this;exact this
theorem Inv0.DW (h:Inv0 S) (hl:Live S.idx t):0<=(obj S.O t.k).opens/\(obj S.O t.k).opens<=1024:=by
  have h1:=h.opens t hl
  have h2:hnd S.us t.k<=S.us.length:=QJ
  have:=h.DV;have:=h.cH
  omega
theorem Inv0.Fx (h:Inv0 S) (hl:Live S.idx t):(obj S.O t.k).data.length<=1125899906842624:=by
  have h1:=h.used
  have h2:(obj S.O t.k).data.length<=bytes S.idx S.O:=lV (g:=fun p:Int×Th=>(obj S.O p.2.k).data.length) hl
  omega
theorem Inv0.Jd (h:Inv0 S) (hl:Live S.idx t):(obj S.O t.k).data.length<=140737488355328:=by
  have h1:=h.used
  have h2:(obj S.O t.k).data.length<=bytes S.idx S.O:=lV (g:=fun p:Int×Th=>(obj S.O p.2.k).data.length) hl
  omega
theorem Inv0.KO (h:Inv0 S) (hl:Live S.idx t):(Lit.int .i64 (obj S.O t.k).id).wf=true:=by
  have h1:=h.ob t hl
  have h2:=h.idx _ t hl
  have h3:=h.last
  exact WalkArith.wf_i64 (by omega)
theorem Inv0.mq (h:Inv0 S) (hd:Live S.idx ⟨d,2⟩) (name:ByteArray):aX name (obj S.O d).ah=none\/(∃ k,aX name (obj S.O d).ah=some ⟨k,1⟩/\Live S.idx ⟨k,1⟩)\/(∃ k,aX name (obj S.O d).ah=some ⟨k,2⟩/\Live S.idx ⟨k,2⟩)\/∃ k,aX name (obj S.O d).ah=some ⟨k,3⟩/\Live S.idx ⟨k,3⟩:=by
  cases e:aX name (obj S.O d).ah with
  | none=>exact .inl rfl
  | some t=>
    obtain⟨k,kd⟩:=t
    have h1:=(h.ent hd e).2
    rcases (h.ob _ h1).2.2 with e2|e2|e2<;>subst e2
    ·exact .inr (.inl ⟨k,rfl,h1⟩)
    ·exact .inr (.inr (.inl ⟨k,rfl,h1⟩))
    exact .inr (.inr (.inr ⟨k,rfl,h1⟩))
theorem Inv0.QK (h:Inv0 S) (i:Int):aE.get S.idx i=none\/(∃ k,aE.get S.idx i=some ⟨k,1⟩/\Live S.idx ⟨k,1⟩)\/(∃ k,aE.get S.idx i=some ⟨k,2⟩/\Live S.idx ⟨k,2⟩)\/∃ k,aE.get S.idx i=some ⟨k,3⟩/\Live S.idx ⟨k,3⟩:=by
  cases e:aE.get S.idx i with
  | none=>exact .inl rfl
  | some t=>
    obtain⟨k,kd⟩:=t
    have h1:=h.live e
    rcases (h.ob _ h1).2.2 with e2|e2|e2<;>subst e2
    ·exact .inr (.inl ⟨k,rfl,h1⟩)
    ·exact .inr (.inr (.inl ⟨k,rfl,h1⟩))
    exact .inr (.inr (.inr ⟨k,rfl,h1⟩))
theorem Inv0.hand (h:Inv0 S) (i:Int):aE.get S.us i=none\/(∃ k,aE.get S.us i=some ⟨k,1⟩/\Live S.idx ⟨k,1⟩)\/∃ k,aE.get S.us i=some ⟨k,2⟩/\Live S.idx ⟨k,2⟩:=by
  cases e:aE.get S.us i with
  | none=>exact .inl rfl
  | some t=>
    obtain⟨k,kd⟩:=t
    obtain⟨h1,h0⟩:=h.us i _ e
    rcases (h.ob _ h1).2.2 with e2|e2|e2
    ·simp only at e2;subst e2;exact .inr (.inl ⟨k,rfl,h1⟩)
    ·simp only at e2;subst e2;exact .inr (.inr ⟨k,rfl,h1⟩)
    exact absurd e2 h0
theorem Inv0.SH (h:Inv0 S) (hd:Live S.idx ⟨d,2⟩) (hl:aX name (obj S.O d).ah=some t):1<=S.X.ah:=by
  have h1:=h.total
  have h2:0 < iz S.idx S.O t.k:=nk hd hl
  have h3:iz S.idx S.O t.k<=tot S.idx S.O:=KN
  omega
theorem Inv0.zF (h:Inv0 S) (hd:Live S.idx ⟨d,2⟩) (hl:aX name (obj S.O d).ah=some t):0<=S.X.ah - 1/\S.X.ah - 1<=1048576/\-1125899906842624<=S.X.used/\S.X.used<=1125899906842624/\0<=S.X.last/\S.X.last<=1125899906842624:=by
  have:=h.SH hd hl;have:=h.hX
  omega
theorem qd {L:HL} {us:Used Th} {h:Int} (e:aE.get us h=none):aE.get (bq L us) h=none:=by
  unfold bq;rw [get_map,e];rfl
theorem kq {L:HL} {us:Used Th} {h:Int} (e:aE.get us h=some t):aE.get (bq L us) h=some (dQ L t):=by
  unfold bq;rw [get_map,e];rfl
theorem sx {L:HL} {us:Used Th} {h:Int} (hn:aE.get us h=none):upd (bp (bq L us)) (.int .i64 h) (some (dQ L t))=bp (bq L (ins h t us)):=by
  rw [C3 (get_none.1 (qd hn))]
  exact congrArg bp (Hv (dQ L) h t us).symm
theorem KP {L:HL} {us:Used Th}:aE.least (bq L us)=aE.least us:=by unfold aE.least;rw [Ay]
theorem C5 {TT:TypeId} {L:HL} {us:Used Th} {v:Value} {l:List HP} {b:Nat} {most aD:Int} (h:v=.tuple #[.int .i64 (aE.least (bq L us)),.int .i64 0]/\l=[.abs (cV TT b most (max aD (((bq L us).length:Int)+1)) (ins (aE.least (bq L us)) (dQ L t) (bq L us)))]):v=.tuple #[.int .i64 (aE.least us),.int .i64 0]/\l=[.abs (cV TT b most (max aD ((us.length:Int)+1)) (bq L (ins (aE.least us) t us)))]:=by
  rw [KP,qc] at h
  have e:ins (aE.least us) (dQ L t) (bq L us)=bq L (ins (aE.least us) t us):=(Hv (dQ L) (aE.least us) t us).symm
  rw [e] at h
  exact h
theorem ML {α:Type} {es:fD α} {n:ByteArray} (h:es=[]):aX n es=none:=by rw [h];rfl
end facts
section blocks
variable {O:cg} {L:HL} {k j:Nat} {t u:Th}
theorem y5 (hk:(obj O k).kind≠0) {F:Fp} {w:World} (h:(ax (bM O L)).h F w):∃ cs T,w.heap[L.b k]?=some (.cells cs T (0,0)):=by
  obtain⟨G,g⟩:=ax.at k h
  rw [lg hk] at g
  exact⟨_,_,g.1⟩
theorem HE (hk:(obj O k).kind≠0) (hj:(obj O j).kind≠0) {F:Fp} {w:World} (h:(ax (bM O L)).h F w) (e:L.b k=L.b j):k=j:=by
  apply Classical.byContradiction
  intro hne
  obtain⟨φ,h1,h2,_⟩:=h
  have g1:=h1 k
  have g2:=h1 j
  rw [lg hk] at g1
  rw [lg hj] at g2
  exact h2 k j hne (L.b k) ((g1.2 _).2 rfl) ((g2.2 _).2 e)
theorem C6:Tryz.prog.underlying 135=some (.pointer 138):=by kernel_rfl
theorem MN:Tryz.prog.underlying 129=some (.pointer 131):=by kernel_rfl
theorem MO:Tryz.prog.underlying 132=some (.pointer 134):=by kernel_rfl
end blocks
end
section
open Go.RowKit Go.Maps bH aE
theorem MP {s:ByteArray}:0<=Lib.indexByte s.data.toList ((0:Int).toNat.toUInt8)↔¬ yS s:=by
  have hge:=Lib.indexByte_ge s.data.toList ((0:Int).toNat.toUInt8)
  constructor
  ·intro h hn
   obtain⟨o,ho⟩:=Int.eq_ofNat_of_zero_le h
   have h1:=(Lib.indexByte_some ho).1
   obtain⟨h2,h3⟩:=xB h1
   exact hn o h2 h3
  intro hn
  apply Classical.byContradiction
  intro hlt
  refine hn (fun j hj h0=>Lib.indexByte_none (show Lib.indexByte s.data.toList ((0:Int).toNat.toUInt8) = -1 by omega) j ?_)
  rw [qv hj]
  congr 1
  apply UInt8.toNat_inj.1
  exact h0
theorem GR {β:Bs} (s:ByteArray):Spec Tryz.prog β 201 #[.string s,.int .u8 0] [] (fun v l=>(∃ x:Int,v=.int .i64 x/\(0<=x↔¬ yS s))/\l=[]):=
  fun _ w hS=>(Tryz.strings_IndexByte s 0 w).mono fun _ _ ⟨h1,h2⟩=>⟨_,[],h1,⟨⟨_,rfl,MP⟩,rfl⟩,h2 ▸ hS⟩
section ptr
variable {O:cg} {L:HL} {k j:Nat}
theorem MQ:∃ j,Tryz.prog.info? 138=some j/\j.size≠0:=by
  have h:(match Tryz.prog.info? 138 with|some j=>j.size != 0|none=>false)=true:=by kernel_rfl
  cases e:Tryz.prog.info? 138 with
  | none=>rw [e] at h;cases h
  | some j=>rw [e] at h;exact⟨j,rfl,by simpa using h⟩
theorem KQ {w:World} {o:Oper} {ev:Operand->Value} {x y:Operand} (ho:o.op=.binOp .eql 135 x y 135) (hx:ev x=.pointer (some ⟨L.b k,0,none⟩)) (hy:ev y=.pointer (some ⟨L.b j,0,none⟩)) (hk:(obj O k).kind≠0) (hj:(obj O j).kind≠0) {F:Fp} (hF:(ax (bM O L)).h F w) :
    nG Tryz.prog ev o w (.bool (decide (k=j))) w:=by
  obtain⟨dst,op,type,pos,after,guard⟩:=o
  cases ho
  refine .inl ?_
  simp only [execOp,hx,hy]
  obtain⟨ca,ta,ha⟩:=y5 hk hF
  obtain⟨cb,tb,hb⟩:=y5 hj hF
  obtain⟨i,hi,hsz⟩:=MQ
  have h1:(binOp .eql 135 (.pointer (some ⟨L.b k,0,none⟩)) (.pointer (some ⟨L.b j,0,none⟩))).run Tryz.prog w=.ok (.bool (decide (k=j))) w:=by
    by_cases e:k=j
    ·subst e
     rw [run_eql_ptr_same _ _ C6 hi]
     simp
    rw [run_eql_ptr_other _ C6 hi hsz (fun h=>e (HE hk hj hF (congrArg Addr.block h))) ha hb]
    simp [e]
  simp [go_sem,eqGuard,h1]
def Fy (tp te:TypeId):Prop:=Tryz.prog.underlying tp=some (.pointer te)/\(∃ i,Tryz.prog.info? tp=some i/\i.comparable=true)/\∃ j,Tryz.prog.info? te=some j/\j.size≠0
theorem C8 {tp te:TypeId} (h1:Tryz.prog.underlying tp=some (.pointer te)) (h2:(match Tryz.prog.info? tp with|some j=>j.comparable|none=>false)=true) (h3:(match Tryz.prog.info? te with|some j=>j.size != 0|none=>false)=true):Fy tp te:=by
  refine⟨h1,?_,?_⟩
  ·cases e:Tryz.prog.info? tp with
   | none=>rw [e] at h2;cases h2
   | some j=>rw [e] at h2;exact⟨j,rfl,h2⟩
  cases e:Tryz.prog.info? te with
  | none=>rw [e] at h3;cases h3
  | some j=>rw [e] at h3;exact⟨j,rfl,by simpa using h3⟩
theorem QL:Fy 129 131:=C8 MN (by kernel_rfl) (by kernel_rfl)
theorem SI:Fy 135 138:=C8 C6 (by kernel_rfl) (by kernel_rfl)
theorem QM:Fy 132 134:=C8 MO (by kernel_rfl) (by kernel_rfl)
theorem AF {tp te:TypeId} (hT:Fy tp te) {w:World} {o:Oper} {ev:Operand->Value} {x y:Operand} (ho:o.op=.binOp .eql 124 x y 124) (hx:ev x=.iface tp (.pointer (some ⟨L.b k,0,none⟩))) (hy:ev y=.iface tp (.pointer (some ⟨L.b j,0,none⟩))) (hk:(obj O k).kind≠0) (hj:(obj O j).kind≠0) {F:Fp} (hF:(ax (bM O L)).h F w) :
    nG Tryz.prog ev o w (.bool (decide (k=j))) w:=by
  obtain⟨dst,op,type,pos,after,guard⟩:=o
  cases ho
  refine .inl ?_
  simp only [execOp,hx,hy]
  obtain⟨ca,ta,ha⟩:=y5 hk hF
  obtain⟨cb,tb,hb⟩:=y5 hj hF
  obtain⟨g1,⟨i,hi,hc⟩,j',hj',hsz⟩:=hT
  have h1:(binOp .eql 124 (.iface tp (.pointer (some ⟨L.b k,0,none⟩))) (.iface tp (.pointer (some ⟨L.b j,0,none⟩)))).run Tryz.prog w=.ok (.bool (decide (k=j))) w:=by
    by_cases e:k=j
    ·subst e
     rw [run_eql_iface_ptr_same _ _ Tryz.underlying124 g1 hi hc hj']
     simp
    rw [run_eql_iface_ptr_other _ Tryz.underlying124 g1 hi hc hj' hsz (fun h=>e (HE hk hj hF (congrArg Addr.block h))) ha hb]
    simp [e]
  simp [go_sem,eqGuard,h1]
end ptr
end
section
open Go.RowKit Go.Maps bH aE
structure tO (O:cg) (idx us:Used Th) (k:Nat):Prop where
  up:∀ x,(obj O x).up≠some k
  ah:∀ x,∀ e∈(obj O x).ah,e.2.k≠k
  idx:∀ p∈idx,p.2.k≠k
  us:∀ p∈us,p.2.k≠k
section fresh
variable {S:aI} {O:cg} {idx us:Used Th} {L L':HL} {k b m c:Nat} {A:Option Addr} {o:aV} {t:Th}
theorem qf (h:Inv0 S):(aR S.X:Int)=S.X.last+1:=by
  have:=h.last
  unfold aR
  omega
theorem Inv0.uT (h:Inv0 S) (ht:Live S.idx t):t.k≠aR S.X:=h.free (by have:=qf h;omega) ht
theorem Inv0.C9 (h:Inv0 S) (hk:S.X.last < (k:Int)):tO S.O S.idx S.us k:=by
  have key:∀ x,(∃ t,Live S.idx t/\t.k=x)\/(obj S.O x).ah=[]/\(obj S.O x).up=none:=fun x=>by
    by_cases hx:∃ t,Live S.idx t/\t.k=x
    ·exact .inl hx
    exact .inr (h.dead x (fun t ht e=>hx ⟨t,ht,e⟩))
  refine⟨fun x e=>?_,fun x e he=>?_,fun p hp=>?_,fun p hp=>?_⟩
  ·rcases key x with ⟨t,ht,rfl⟩|hx
   ·obtain⟨_,h2,_⟩:=(h.up t ht _).1 e
    exact h.free hk h2 rfl
   rw [hx.2] at e;cases e
  ·rcases key x with ⟨t,ht,rfl⟩|hx
   ·exact h.free hk (h.ah t ht e he).2
   rw [hx.1] at he;cases he
  ·exact h.free hk (h.live (nj h.rise hp))
  exact h.free hk (h.us _ _ (nj h.usr hp)).1
theorem Inv0.fresh (h:Inv0 S):tO S.O S.idx S.us (aR S.X):=h.C9 (by have:=qf h;omega)
theorem vZ (hL:L'=L.put k b m A c) {x:Nat} (h:x≠k):L'.b x=L.b x:=by subst hL;exact if_neg h
theorem BP (hL:L'=L.put k b m A c):L'.b k=b:=by subst hL;exact if_pos rfl
theorem Fz (hL:L'=L.put k b m A c):L'.m k=m:=by subst hL;exact if_pos rfl
theorem KR (hL:L'=L.put k b m A c) (h:t.k≠k):dQ L' t=dQ L t:=by unfold dQ;rw [vZ hL h]
theorem oJ (hL:L'=L.put k b m A c) (kind:Int):dQ L' ⟨k,kind⟩=.iface (Tj kind) (.pointer (some ⟨b,0,none⟩)):=by unfold dQ;rw [BP hL]
theorem gH (hL:L'=L.put k b m A c) (h:∀ p∈us,p.2.k≠k):bq L' us=bq L us:=List.map_congr_left (fun p hp=>by rw [KR hL (h p hp)])
theorem MR {es:fD Th} {n:ByteArray} (h:∀ e∈es,e.2.k≠k) (e:aX n es=some t):t.k≠k:=h _ (mD e)
theorem MS (hL:L'=L.put k b m A c) {es:fD Th} (h:∀ e∈es,e.2.k≠k):iG L' es=iG L es:=by
  unfold iG
  congr 1
  funext n
  cases e:aX n es with
  | none=>rfl
  | some t=>exact congrArg some (KR hL (MR h e))
theorem HF (hL:L'=L.put k b m A c) (hf:tO O idx us k) {x:Nat} (h:x≠k):bM O L' x=bM O L x:=by
  have e1:=vZ hL h
  have e2:gu L' x (obj O x)=gu L x (obj O x):=by
    unfold gu yV
    have h1:uL L' (obj O x).up=uL L (obj O x).up:=by
      cases hu:(obj O x).up with
      | none=>rfl
      | some d=>show Value.pointer _=Value.pointer _;rw [vZ hL (fun e=>hf.up x (by rw [hu,e]))]
    rw [h1]
    subst hL
    simp only [HL.put,if_neg h]
  unfold bM
  rw [e1,e2]
theorem Da (hL:L'=L.put k b m A c) (hf:tO O idx us k) {x:Nat} (h:x≠k):cF O L' x=cF O L x:=by
  unfold cF
  rw [MS hL (hf.ah x)]
  subst hL
  simp only [HL.put,if_neg h]
theorem y6 (hL:L'=L.put k b m A c) {x:Nat} (h:x≠k):bN O L' x=bN O L x:=by
  unfold bN
  subst hL
  simp only [HL.put,if_neg h]
end fresh
theorem sO {O O':cg} {L:HL} (h1:∀ x,(obj O' x).data=(obj O x).data) (h2:∀ x,(obj O' x).kind=(obj O x).kind):bN O' L=bN O L:=by
  funext x
  unfold bN
  rw [h1,h2]
theorem gZ {X:FM} {O:cg} {L:HL} {d:Nat} {name:ByteArray} {t:Th}:bN (di X O d name t) L=bN O L:=
  sO (fun _=>nu (g:=aV.data) (fun _ _=>rfl) (fun _ _=>rfl) (fun _ _ _=>rfl) (fun _ _=>rfl)) (fun _=>GL)
theorem j4 {X:FM} {O:cg} {L:HL} {d:Nat} {name:ByteArray} {t:Th}:bN (aT X O d name t) L=bN O L:=
  sO (fun _=>dL (g:=aV.data) (fun _ _=>rfl) (fun _ _=>rfl) (fun _ _ _=>rfl)) (fun _=>cU)
theorem qg {α:Type} {g:aV->α} {O:cg} {k j:Nat} (h:∀ o b,g { o with gone:=b }=g o):g (obj (qx O j) k)=g (obj O k):=dR (f:=fun o=>{ o with gone:=true }) (fun o=>h o true)
theorem MT {O:cg} {L:HL} {k:Nat}:bN (qx O k) L=bN O L:=sO (fun _=>qg (g:=aV.data) (fun _ _=>rfl)) (fun _=>qg (g:=aV.kind) (fun _ _=>rfl))
theorem om {S:aI} {L:HL} {d:Nat} {name:ByteArray} {t:Th}:bN (aK S d name t).O L=bN S.O L:=by
  unfold aK
  simp only
  split
  ·exact MT.trans j4
  exact j4
theorem BQ {S:aI} {d k:Nat} {name:ByteArray} {t:Th}:(obj (aK S d name t).O k).kind=(obj S.O k).kind:=by
  unfold aK
  simp only
  split
  ·exact (qg (g:=aV.kind) (fun _ _=>rfl)).trans cU
  exact cU
theorem oK {X:FM} {O:cg} {idx:Used Th} {d:Nat} {name:ByteArray} (h:ck X O idx d name=0):aX name (obj O d).ah=none:=by
  unfold ck at h
  split at h
  ·assumption
  cases h
theorem uw {X:FM} {O:cg} {idx:Used Th} {d:Nat} {name:ByteArray} (h:ck X O idx d name=0):Room X idx:=by
  unfold ck at h
  split at h
  ·split at h
   ·assumption
   cases h
  cases h
theorem qy {X:FM} {O:cg} {idx:Used Th} {d:Nat} {name:ByteArray} (h:ck X O idx d name=0):X.last < 1099511627776:=(uw h).2.1
section sat
variable {β:Bs} {l l':List HP} {w:World} {i j k b m c:Nat} {O:cg} {us:Used Th} {idx' us':Used Th} {L L':HL} {cs:List Value} {T:TypeId} {ix:List Nat} {A:Option Addr} {o:aV} {R R':Nat->cE}
theorem Sat.less {p p':HP} (h:Sat β l w) (hp:l[i]?=some p) (hs:∀ F,p.h F w->∃ F',p'.h F' w/\∀ x,F' x->F x):Sat β (l.set i p') w:=
  h.set hp (fun F hF=>let ⟨F',h1,h2⟩:=hs F hF;⟨F',h1,⟨Keeps.refl _ _,fun k hk=>.inl (h2 k hk)⟩⟩)
theorem Sat.xS (h:Sat β l w) (hp:l[i]?=some (.abs (ax R))) (k:Nat) (hR:∀ x,x≠k->R' x=R x) (ha:R' k=cE.none):Sat β (l.set i (.abs (ax R'))) w:=by
  refine h.less hp ?_
  rintro F ⟨φ,h1,h2,h3⟩
  refine⟨fun x=>∃ i,i≠k/\φ i x,⟨fun i=>if i=k then fun _=>False else φ i,fun i=>?_,fun i j hne x hx hy=>?_,fun x=>⟨fun ⟨i,hne,hx⟩=>⟨i,by simpa [hne] using hx⟩,fun ⟨i,hx⟩=>?_⟩⟩,fun x ⟨i,_,hx⟩=>(h3 x).2 ⟨i,hx⟩⟩
  ·by_cases e:i=k
   ·subst e;simp only [if_true];rw [ha];exact fun _ h=>h
   simp only [e,if_false];rw [hR i e];exact h1 i
  ·by_cases e1:i=k
   ·simp [e1] at hx
   by_cases e2:j=k
   ·simp [e2] at hy
   exact h2 i j hne x (by simpa [e1] using hx) (by simpa [e2] using hy)
  by_cases e1:i=k
  ·simp [e1] at hx
  exact⟨i,e1,by simpa [e1] using hx⟩
theorem Sat.tP (h:Sat β l w) (hL:L'=L.put k b m A c) (hf:tO O idx' us' k) (hp:l[i]?=some (.abs (ax (bM O L)))) (hq:l[j]?=some (.blk b cs T)) (hd:bC (i::j::ix)=true) (hl:bU l ix=some l') (h0:o.kind≠0) (hc:gu L' k o=cs) (hT:ko o.kind=T):Sat β (.abs (ax (bM (aF O k (fun _=>o)) L'))::l') w:=by
  refine h.qw (a:=Au b cs T) hp hq (fun _ _ h=>h) hd hl k (fun x hx=>?_) (by rw [uM,if_neg h0,hc,hT,BP hL])
  rw [uN hx,HF hL hf hx]
theorem Sat.Ox (h:Sat β l w) (hL:L'=L.put k b m A c) (hf:tO O idx' us' k) (hp:l[i]?=some (.abs (ax (cF O L)))) (hq:l[j]?=some (.abs (aN Tryz.prog 9 m (fun _=>none) 0))) (hd:bC (i::j::ix)=true) (hl:bU l ix=some l') (h2:o.kind=2) (he:o.ah=[]):Sat β (.abs (ax (cF (aF O k (fun _=>o)) L'))::l') w:=by
  refine h.qw hp hq (fun _ _ h=>h) hd hl k (fun x hx=>by rw [xE hx,Da hL hf hx]) ?_
  rw [oH (by rw [bR];exact h2),bR,he,Mt,Fz hL];rfl
theorem Sat.uU (h:Sat β l w) (hL:L'=L.put k b m A c) (hf:tO O idx' us' k) (hp:l[i]?=some (.abs (ax (cF O L)))) (h2:o.kind≠2):Sat β (l.set i (.abs (ax (cF (aF O k (fun _=>o)) L')))) w:=by
  refine h.xS hp k (fun x hx=>by rw [xE hx,Da hL hf hx]) ?_
  unfold cF;rw [bR,if_neg h2]
theorem Sat.BR (h:Sat β l w) (hL:L'=L.put k b m A c) (hp:l[i]?=some (.abs (ax (bN O L)))) (h1:o.kind≠1):Sat β (l.set i (.abs (ax (bN (aF O k (fun _=>o)) L')))) w:=by
  refine h.xS hp k (fun x hx=>by rw [xG hx,y6 hL hx]) ?_
  unfold bN;rw [bR,if_neg h1]
theorem Sat.Je (h:Sat β l w) (hL:L'=L.put k b m none 0) (hp:l[i]?=some (.abs (ax (bN O L)))) (hq:l[j]?=some (.abs (av 5 1 none 0 0 []))) (hd:bC (i::j::ix)=true) (hl:bU l ix=some l') (h1:o.kind=1) (he:o.data=[]):Sat β (.abs (ax (bN (aF O k (fun _=>o)) L'))::l') w:=by
  refine h.qw hp hq (fun _ _ h=>h) hd hl k (fun x hx=>by rw [xG hx,y6 hL hx]) ?_
  rw [sK (by rw [bR];exact h1),bR,he]
  subst hL
  simp only [HL.put,if_true]
  rfl
end sat
end
section
open Go.RowKit Go.Maps bH aE
section inv
variable {S:aI} {d:Nat} {name:ByteArray} {t:Th} {O':cg}
theorem jO.del {es:fD Th} (h:jO es):jO (gq name es):=List.Pairwise.filter _ h
theorem sP {x y:ByteArray}:¬ mh x y↔oe y x < 0:=by
  unfold mh
  rw [Bl,Lib.toList_data,Lib.toList_data]
  have h1:=@DJ x.data.toList y.data.toList
  have h2:=@DM x y
  have h3:=xj x y
  unfold oe at h2 h3 ⊢
  rw [Bool.or_eq_true,decide_eq_true_iff,← h1,← h2]
  omega
theorem jO.ins {es:fD Th} (h:jO es) (hn:aX name es=none):jO (gS name t es):=by
  induction es with
  | nil=>exact List.pairwise_singleton ..
  | cons e r ih=>
    obtain⟨h1,h2⟩:=List.pairwise_cons.1 h
    have hall:=vS.1 hn
    unfold gS
    split
    ·rename_i hlt
     refine List.pairwise_cons.2 ⟨fun x hx=>?_,h⟩
     rcases List.mem_cons.1 hx with rfl|hx
     ·exact hlt
     have h3:=h1 x hx
     exact sP.2 (Bx (sP.1 hlt) (Int.le_of_lt (sP.1 h3)))
    rename_i hle
    refine List.pairwise_cons.2 ⟨fun x hx=>?_,ih h2 (vS.2 (fun x hx=>hall x (List.mem_cons_of_mem _ hx)))⟩
    rcases Al.1 hx with rfl|hx
    ·have hne:¬ e.1=name:=hall e (List.mem_cons_self ..)
     refine sP.2 ?_
     have h4:¬ oe name e.1 < 0:=fun hc=>hle (sP.2 hc)
     have h5:=xj e.1 name
     have h6:¬ oe e.1 name=0:=fun hc=>hne (DM.1 hc)
     show oe e.1 name < 0
     omega
    exact h1 x hx
theorem Inv0.cut (hI:Inv0 S) (hd:Live S.idx ⟨d,2⟩) (hl:aX name (obj S.O d).ah=some t) {g:Bool}
    (hO:∀ k,obj O' k=if k=d then { obj S.O d with ah:=gq name (obj S.O d).ah,sec:=S.X.cS,nano:=S.X.cZ } else if k=t.k then { obj S.O k with links:=(obj S.O k).links - 1,gone:=g,up:=none } else obj S.O k)
    (hg:g=(obj S.O t.k).gone\/(obj S.O t.k).links - 1=0/\(t.kind=2->(obj S.O t.k).ah=[])):Inv0 { S with X:={ S.X with ah:=S.X.ah - 1 },O:=O' }:=by
  have hne:=hI.ne hd hl
  have ht:=(hI.ent hd hl).2
  have oD:obj O' d={ obj S.O d with ah:=gq name (obj S.O d).ah,sec:=S.X.cS,nano:=S.X.cZ }:=by rw [hO,if_pos rfl]
  have oT:obj O' t.k={ obj S.O t.k with links:=(obj S.O t.k).links - 1,gone:=g,up:=none }:=by rw [hO,if_neg hne,if_pos rfl]
  have oX:∀ x,x≠d->x≠t.k->obj O' x=obj S.O x:=fun x h1 h2=>by rw [hO,if_neg h1,if_neg h2]
  have zG:∀ {α:Type} (G:aV->α),(∀ o es a b,G { o with ah:=es,sec:=a,nano:=b }=G o)->(∀ o l g,G { o with links:=l,gone:=g,up:=none }=G o)->∀ x,G (obj O' x)=G (obj S.O x):=fun G h1 h2 x=>by
    by_cases e:x=d
    ·subst e;rw [oD];exact h1 _ _ _ _
    by_cases e2:x=t.k
    ·subst e2;rw [oT];exact h2 _ _ _
    rw [oX x e e2]
  have QN:=zG aV.id (fun _ _ _ _=>rfl) (fun _ _ _=>rfl)
  have BS:=zG aV.kind (fun _ _ _ _=>rfl) (fun _ _ _=>rfl)
  have Jf:=zG aV.data (fun _ _ _ _=>rfl) (fun _ _ _=>rfl)
  have QO:=zG aV.opens (fun _ _ _ _=>rfl) (fun _ _ _=>rfl)
  have fE:∀ x,x≠d->(obj O' x).ah=(obj S.O x).ah:=fun x hx=>by
    by_cases e2:x=t.k
    ·subst e2;rw [oT]
    rw [oX x hx e2]
  have zH:(obj O' d).ah=gq name (obj S.O d).ah:=by rw [oD]
  have hlk:0 < iz S.idx S.O t.k:=nk hd hl
  have hlt:=hI.links t ht
  have hky:∀ i u,aE.get S.idx i=some u->i=(u.k:Int):=fun i u e=>hI.key e
  have hsum:∀ q:ByteArray×Th->Bool,_:=fun q=>MJ (q:=q) hI.rise hd hky fE zH (hI.twice hd) hl
  have Jg:∀ x,iz S.idx O' x+(if t.k=x then 1 else 0)=iz S.idx S.O x:=fun x=>by
    have h1:=hsum (fun e=>decide (e.2.k=x))
    simp only [decide_eq_true_eq] at h1
    exact h1
  refine { hI with ob:=fun x hx=>?_,mt:=fun x hx=>?_,ah:=fun x hx e he=>?_,sorted:=fun x hx=>?_,dead:=fun x hx=>?_,rU:=fun x hx=>(BS x).trans (hI.rU x hx),total:=?_,links:=fun x hx=>?_,once:=fun x hx hk=>?_,opens:=fun x hx=>?_,gone:=fun x hx jk=>?_,up:=fun x hx e=>?_,deep:=?_,used:=?_ }
  ·show (obj O' x.k).id=_/\(obj O' x.k).kind=_/\_
   rw [QN,BS];exact hI.ob x hx
  ·show kI (obj O' x.k)
   have hm:=hI.mt x hx
   by_cases e:x.k=d
   ·rw [e] at hm ⊢
    rw [oD]
    exact hm.of rfl rfl rfl hI.now rfl (.inl rfl) (.inr (hI.kind hd)) rfl
   by_cases e2:x.k=t.k
   ·rw [e2] at hm ⊢
    rw [oT]
    exact hm.of rfl rfl rfl hm.time rfl (.inl rfl) (.inl rfl) rfl
   rw [oX _ e e2];exact hm
  ·by_cases e1:x.k=d
   ·have he:e∈(obj O' x.k).ah:=he
    rw [e1,zH] at he
    exact hI.ah _ hd e (MI he).1
   have he:e∈(obj O' x.k).ah:=he
   rw [fE _ e1] at he
   exact hI.ah x hx e he
  ·show jO (obj O' x.k).ah
   by_cases e1:x.k=d
   ·rw [e1,zH];exact jO.del (hI.sorted _ hd)
   rw [fE _ e1];exact hI.sorted x hx
  ·show (obj O' x).ah=[]/\(obj O' x).up=none
   rw [oX x (fun e=>hx _ hd e.symm) (fun e=>hx t ht e.symm)]
   exact hI.dead x hx
  ·have h1:=hsum (fun _=>true)
   have h2:=hI.total
   rw [mF] at h2
   show S.X.ah - 1=(tot S.idx O':Int)/\S.X.ah - 1<=8192
   rw [mF]
   simp only [if_true] at h1
   omega
  ·show (obj O' x.k).links=(iz S.idx O' x.k:Int)
   have h1:=Jg x.k
   have h2:=hI.links x hx
   by_cases e2:x.k=t.k
   ·rw [if_pos e2.symm] at h1
    rw [e2,oT]
    rw [e2] at h1
    show (obj S.O t.k).links - 1=_
    omega
   rw [if_neg (fun e=>e2 e.symm)] at h1
   have:(obj O' x.k).links=(obj S.O x.k).links:=by
     by_cases e:x.k=d
     ·rw [e,oD]
     rw [oX _ e e2]
   omega
  ·show (obj O' x.k).links<=1
   have h1:=hI.once x hx hk
   by_cases e2:x.k=t.k
   ·rw [e2] at h1 ⊢
    rw [oT]
    show (obj S.O t.k).links - 1<=1
    omega
   by_cases e:x.k=d
   ·rw [e] at h1 ⊢;rw [oD];exact h1
   rw [oX _ e e2];exact h1
  ·show (obj O' x.k).opens=_
   rw [QO];exact hI.opens x hx
  ·have jk:(obj O' x.k).gone=true:=jk
   show (obj O' x.k).links=0/\(obj O' x.k).ah=[]
   by_cases e2:x.k=t.k
   ·rw [e2] at jk ⊢
    rw [fE _ hne,oT]
    rw [oT] at jk
    show (obj S.O t.k).links - 1=0/\_
    rcases hg with h|⟨h1,h2⟩
    ·have jk:g=true:=jk
     rw [h] at jk
     have:=(hI.gone t ht jk).1
     omega
    refine⟨h1,?_⟩
    by_cases hk:t.kind=2
    ·exact h2 hk
    exact (hI.mt t ht).ah (by rw [hI.kind ht];exact hk)
   by_cases e:x.k=d
   ·rw [e,oD] at jk
    have:=(hI.gone _ hd jk).2
    rw [ML this] at hl;cases hl
   rw [oX _ e e2] at jk ⊢;exact hI.gone x hx jk
  ·show (obj O' x.k).up=some e↔x.kind=2/\Live S.idx ⟨e,2⟩/\∃ n,aX n (obj O' e).ah=some x
   by_cases e2:x.k=t.k
   ·have KS:x=t:=gF hx ht e2
    subst KS
    rw [oT]
    constructor
    ·intro h;cases h
    rintro⟨hk,hle,n,hn⟩
    have h1:=hI.once x hx hk
    have h2:=Jg x.k
    rw [if_pos rfl] at h2
    have h3:0 < iz S.idx O' x.k:=nk hle hn
    omega
   have h1:(obj O' x.k).up=(obj S.O x.k).up:=by
     by_cases e:x.k=d
     ·rw [e,oD]
     rw [oX _ e e2]
   have h2:∀ n,aX n (obj O' e).ah=some x↔aX n (obj S.O e).ah=some x:=fun n=>by
     by_cases e3:e=d
     ·rw [e3,zH,qI]
      by_cases hnn:n=name
      ·rw [if_pos hnn,hnn,hl]
       constructor
       ·intro h;cases h
       intro h;exact absurd (congrArg Th.k (Option.some.inj h)).symm e2
      rw [if_neg hnn]
     rw [fE _ e3]
   rw [h1,hI.up x hx e]
   simp only [h2]
  ·obtain⟨dp,hdp⟩:=hI.deep
   refine⟨dp,fun x e hx=>?_⟩
   have hx:(obj O' x).up=some e:=hx
   by_cases e2:x=t.k
   ·rw [e2,oT] at hx;cases hx
   by_cases e3:x=d
   ·rw [e3,oD] at hx;rw [e3];exact hdp _ _ hx
   rw [oX _ e3 e2] at hx;exact hdp _ _ hx
  have:bytes S.idx O'=bytes S.idx S.O:=fZ (fun p _=>by rw [Jf])
  show S.X.used=(bytes S.idx O':Int)/\_
  rw [this];exact hI.used
theorem Jh {O O1:cg} {s k:Nat} (h:∀ x e,(obj O1 x).up=some e->(obj O x).up=some e) (hb:jP O1 s k):jP O s k:=by
  induction hb with
  | here=>exact .here
  | up hu _ ih=>exact .up (h _ _ hu) ih
theorem DX {O:cg} {s k:Nat}:jP O s k↔k=s\/∃ e,(obj O k).up=some e/\jP O s e:=by
  constructor
  ·rintro (_|⟨h1,h2⟩)
   ·exact .inl rfl
   exact .inr ⟨_,h1,h2⟩
  rintro (h|⟨e,h1,h2⟩)
  ·subst h;exact .here
  exact .up h1 h2
theorem Inv0.put (hI:Inv0 S) (hd:Live S.idx ⟨d,2⟩) (iU:(obj S.O d).gone=false) (hn:aX name (obj S.O d).ah=none) (iM:bO name) (ht:Live S.idx t) (Hz:(obj S.O t.k).gone=false) (MU:t.kind=2->(obj S.O t.k).links=0/\¬ jP S.O t.k d) (htd:t.k≠d) (hroom:S.X.ah < 8192) {ta tb:Int} (Vu:dW ta tb)
    (hO:∀ k,obj O' k=if k=d then { obj S.O d with ah:=gS name t (obj S.O d).ah,sec:=ta,nano:=tb } else if k=t.k then { obj S.O k with links:=(obj S.O k).links+1,up:=if t.kind=2 then some d else (obj S.O k).up } else obj S.O k) :
    Inv0 { S with X:={ S.X with ah:=S.X.ah+1 },O:=O' }:=by
  have hne:=htd
  have oD:obj O' d={ obj S.O d with ah:=gS name t (obj S.O d).ah,sec:=ta,nano:=tb }:=by rw [hO,if_pos rfl]
  have oT:obj O' t.k={ obj S.O t.k with links:=(obj S.O t.k).links+1,up:=if t.kind=2 then some d else (obj S.O t.k).up }:=by rw [hO,if_neg hne,if_pos rfl]
  have oX:∀ x,x≠d->x≠t.k->obj O' x=obj S.O x:=fun x h1 h2=>by rw [hO,if_neg h1,if_neg h2]
  have zG:∀ {α:Type} (G:aV->α),(∀ o es a b,G { o with ah:=es,sec:=a,nano:=b }=G o)->(∀ o l u,G { o with links:=l,up:=u }=G o)->∀ x,G (obj O' x)=G (obj S.O x):=fun G h1 h2 x=>by
    by_cases e:x=d
    ·subst e;rw [oD];exact h1 _ _ _ _
    by_cases e2:x=t.k
    ·subst e2;rw [oT];exact h2 _ _ _
    rw [oX x e e2]
  have QN:=zG aV.id (fun _ _ _ _=>rfl) (fun _ _ _=>rfl)
  have BS:=zG aV.kind (fun _ _ _ _=>rfl) (fun _ _ _=>rfl)
  have Jf:=zG aV.data (fun _ _ _ _=>rfl) (fun _ _ _=>rfl)
  have QO:=zG aV.opens (fun _ _ _ _=>rfl) (fun _ _ _=>rfl)
  have fG:=zG aV.gone (fun _ _ _ _=>rfl) (fun _ _ _=>rfl)
  have fE:∀ x,x≠d->(obj O' x).ah=(obj S.O x).ah:=fun x hx=>by
    by_cases e2:x=t.k
    ·subst e2;rw [oT]
    rw [oX x hx e2]
  have zH:(obj O' d).ah=gS name t (obj S.O d).ah:=by rw [oD]
  have hky:∀ i u,aE.get S.idx i=some u->i=(u.k:Int):=fun i u e=>hI.key e
  have hsum:∀ q:ByteArray×Th->Bool,_:=fun q=>MK (q:=q) hI.rise hd hky fE zH
  have Jg:∀ x,iz S.idx O' x=iz S.idx S.O x+(if t.k=x then 1 else 0):=fun x=>by
    have h1:=hsum (fun e=>decide (e.2.k=x))
    simp only [decide_eq_true_eq] at h1
    exact h1
  have hlt:=hI.links t ht
  have QS:t.kind=2->∀ e n,Live S.idx ⟨e,2⟩->aX n (obj S.O e).ah≠some t:=fun hk e n hle h=>by
    have h1:0 < iz S.idx S.O t.k:=nk hle h
    have:=(MU hk).1
    omega
  refine { hI with ob:=fun x hx=>?_,mt:=fun x hx=>?_,ah:=fun x hx e he=>?_,sorted:=fun x hx=>?_,dead:=fun x hx=>?_,rU:=fun x hx=>(BS x).trans (hI.rU x hx),total:=?_,links:=fun x hx=>?_,once:=fun x hx hk=>?_,opens:=fun x hx=>?_,gone:=fun x hx jk=>?_,up:=fun x hx e=>?_,deep:=?_,used:=?_ }
  ·show (obj O' x.k).id=_/\(obj O' x.k).kind=_/\_
   rw [QN,BS];exact hI.ob x hx
  ·show kI (obj O' x.k)
   have hm:=hI.mt x hx
   by_cases e:x.k=d
   ·rw [e] at hm ⊢
    rw [oD]
    exact hm.of rfl rfl rfl Vu rfl (.inl rfl) (.inr (hI.kind hd)) rfl
   by_cases e2:x.k=t.k
   ·rw [e2] at hm ⊢
    rw [oT]
    exact hm.of rfl rfl rfl hm.time rfl (.inl rfl) (.inl rfl) rfl
   rw [oX _ e e2];exact hm
  ·have he:e∈(obj O' x.k).ah:=he
   by_cases e1:x.k=d
   ·rw [e1,zH] at he
    rcases Al.1 he with rfl|he
    ·exact⟨iM,ht⟩
    exact hI.ah _ hd e he
   rw [fE _ e1] at he
   exact hI.ah x hx e he
  ·show jO (obj O' x.k).ah
   by_cases e1:x.k=d
   ·rw [e1,zH];exact jO.ins (hI.sorted _ hd) hn
   rw [fE _ e1];exact hI.sorted x hx
  ·show (obj O' x).ah=[]/\(obj O' x).up=none
   rw [oX x (fun e=>hx _ hd e.symm) (fun e=>hx t ht e.symm)]
   exact hI.dead x hx
  ·have h1:=hsum (fun _=>true)
   have h2:=hI.total
   rw [mF] at h2
   show S.X.ah+1=(tot S.idx O':Int)/\S.X.ah+1<=8192
   rw [mF]
   simp only [if_true] at h1
   omega
  ·show (obj O' x.k).links=(iz S.idx O' x.k:Int)
   have h1:=Jg x.k
   have h2:=hI.links x hx
   by_cases e2:x.k=t.k
   ·rw [if_pos e2.symm] at h1
    rw [e2,oT]
    rw [e2] at h1
    show (obj S.O t.k).links+1=_
    omega
   rw [if_neg (fun e=>e2 e.symm)] at h1
   have:(obj O' x.k).links=(obj S.O x.k).links:=by
     by_cases e:x.k=d
     ·rw [e,oD]
     rw [oX _ e e2]
   omega
  ·show (obj O' x.k).links<=1
   have h1:=hI.once x hx hk
   by_cases e2:x.k=t.k
   ·have KS:x=t:=gF hx ht e2
    subst KS
    have:=(MU hk).1
    rw [oT]
    show (obj S.O x.k).links+1<=1
    omega
   by_cases e:x.k=d
   ·rw [e] at h1 ⊢;rw [oD];exact h1
   rw [oX _ e e2];exact h1
  ·show (obj O' x.k).opens=_
   rw [QO];exact hI.opens x hx
  ·have jk:(obj O' x.k).gone=true:=jk
   rw [fG] at jk
   show (obj O' x.k).links=0/\(obj O' x.k).ah=[]
   by_cases e2:x.k=t.k
   ·rw [e2,Hz] at jk;cases jk
   by_cases e:x.k=d
   ·rw [e,iU] at jk;cases jk
   rw [oX _ e e2];exact hI.gone x hx jk
  ·show (obj O' x.k).up=some e↔x.kind=2/\Live S.idx ⟨e,2⟩/\∃ n,aX n (obj O' e).ah=some x
   by_cases e2:x.k=t.k
   ·have KS:x=t:=gF hx ht e2
    subst KS
    rw [oT]
    show (if x.kind=2 then some d else (obj S.O x.k).up)=some e↔_
    by_cases hk:x.kind=2
    ·rw [if_pos hk]
     constructor
     ·intro h
      cases h
      exact⟨hk,hd,name,by rw [zH,xD hn,if_pos rfl]⟩
     rintro⟨_,hle,n,h⟩
     by_cases e3:e=d
     ·rw [e3]
     rw [fE _ e3] at h
     exact absurd h (QS hk e n hle)
    rw [if_neg hk,hI.up x hx e]
    constructor
    ·rintro⟨h,_⟩;exact absurd h hk
    rintro⟨h,_⟩;exact absurd h hk
   have h1:(obj O' x.k).up=(obj S.O x.k).up:=by
     by_cases e:x.k=d
     ·rw [e,oD]
     rw [oX _ e e2]
   have h2:∀ n,aX n (obj O' e).ah=some x↔aX n (obj S.O e).ah=some x:=fun n=>by
     by_cases e3:e=d
     ·rw [e3,zH,xD hn]
      by_cases hnn:n=name
      ·rw [if_pos hnn,hnn,hn]
       constructor
       ·intro h;exact absurd (congrArg Th.k (Option.some.inj h)).symm e2
       intro h;cases h
      rw [if_neg hnn]
     rw [fE _ e3]
   rw [h1,hI.up x hx e]
   simp only [h2]
  ·obtain⟨dp,hdp⟩:=hI.deep
   by_cases hk:t.kind=2
   ·obtain⟨hl0,hnb⟩:=MU hk
    have WE:(obj S.O t.k).up=none:=by
      cases hu:(obj S.O t.k).up with
      | none=>rfl
      | some e=>
        obtain⟨_,h2,n,h3⟩:=(hI.up t ht e).1 hu
        exact absurd h3 (QS hk e n h2)
    refine⟨fun x=>if jP S.O t.k x then dp x+dp d+1 else dp x,fun x e hx=>?_⟩
    have hx:(obj O' x).up=some e:=hx
    by_cases e2:x=t.k
    ·rw [e2,oT] at hx
     have hx:(if t.kind=2 then some d else (obj S.O t.k).up)=some e:=hx
     rw [if_pos hk] at hx
     cases hx
     subst e2
     simp only [if_neg hnb,if_pos (jP.here:jP S.O t.k t.k)]
     omega
    have hx:(obj S.O x).up=some e:=by
      by_cases e3:x=d
      ·rw [e3,oD] at hx;rw [e3];exact hx
      rw [oX _ e3 e2] at hx;exact hx
    have h1:=hdp _ _ hx
    by_cases hb:jP S.O t.k e
    ·simp only [if_pos hb,if_pos (jP.up hx hb)];omega
    have:¬ jP S.O t.k x:=fun h=>by
      rcases DX.1 h with h|⟨e',h1,h2⟩
      ·exact e2 h
      rw [hx] at h1;cases h1;exact hb h2
    simp only [if_neg hb,if_neg this];exact h1
   refine⟨dp,fun x e hx=>?_⟩
   have hx:(obj O' x).up=some e:=hx
   by_cases e2:x=t.k
   ·rw [e2,oT] at hx
    have hx:(if t.kind=2 then some d else (obj S.O t.k).up)=some e:=hx
    rw [if_neg hk] at hx
    rw [e2];exact hdp _ _ hx
   by_cases e3:x=d
   ·rw [e3,oD] at hx;rw [e3];exact hdp _ _ hx
   rw [oX _ e3 e2] at hx;exact hdp _ _ hx
  have:bytes S.idx O'=bytes S.idx S.O:=fZ (fun p _=>by rw [Jf])
  show S.X.used=(bytes S.idx O':Int)/\_
  rw [this];exact hI.used
end inv
end
end Go.Proofs.YtidjcblbdmfalaaGreat
