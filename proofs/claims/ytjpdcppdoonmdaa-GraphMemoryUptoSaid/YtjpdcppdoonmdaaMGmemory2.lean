/-
  PROVED HERE: lemmas and contracts of functions (texts of this repo, joined; what the claim does not use is left out): GStr, GRoot, GCheck, GE, GEnter, GR, GRead, GP, GRef, GW, GFb, GFc.
  CONDITIONS: as the theorems say.
-/
import Derived.Test.YtjpdcppdoonmdaaMGmemory1
set_option maxRecDepth 100000
set_option maxHeartbeats 4000000
namespace Go.Proofs.Ytjpdcppdoonmdaa
section
open Go.RowKit
attribute [local irreducible] af aN ai ah
theorem o8 {β:Bs} (c:Nat) (h128:128<=c) (hv:c<55296\/(57343<c/\c<=1114111)) :
 Spec Try.prog β 99 #[.string bB,.int .i32 ((c:Nat):Int)] [] (λv l=>v=.int .i64 (-1)/\l=[]):=by
 have he:=zJ h128 hv
 refine Spec.enter Try.func99 rfl Try.ntmps99 (Nat.le_of_ble_eq_true rfl) (λR=>?_)
 refine ai.seq (ai.region (af.aq (k':=1) (fr':=[(0,.string bB),(1,.int .i32 (((c:Nat):Int)))]) (ak:=[]) [o_] [0,1] (λ_ _=>by kernel_rfl) trivial ?_))
 refine af.nil (by kernel_rfl) (ah.next (ai.block (ai.seq (ai.region ?_))))
 refine af.aq (k':=3) (fr':=[(0,.string bB),(1,.int .i32 (((c:Nat):Int))),(163,.bool (decide ((0:Int)<=(((c:Nat):Int):Int))))]) (ak:=[]) [o_,o_,o_] [0,1,163] (λ_ _=>by kernel_rfl) trivial ?_
 refine af.bO 163 ((0:Int)<=(((c:Nat):Int):Int)) (λ_=>by kernel_rfl) (λCp=>?_) (λCp=>?_)
 ·refine af.aq (k':=7) (fr':=[(0,.string bB),(1,.int .i32 (((c:Nat):Int))),(160,.bool (decide ((((c:Nat):Int):Int)<(128:Int))))]) (ak:=[]) [o_,o_,o_,o_] [0,1,160] (λ_ _=>by kernel_rfl) trivial ?_
  refine af.nil (by kernel_rfl) (ah.next ?_)
  refine ai.aV (p:=(((c:Nat):Int):Int)<(128:Int)) (λ_=>by kernel_rfl) (λCq=>?_) (λCq=>?_)
  ·exact absurd Cq (by omega)
  refine ai.seq (ai.region (af.aq (k':=3) (fr':=[(0,.string bB),(1,.int .i32 (((c:Nat):Int))),(171,.bool (decide ((((c:Nat):Int):Int)=(65533:Int))))]) (ak:=[]) [o_,o_,o_] [0,1,171] (λ_ _=>by kernel_rfl) trivial ?_))
  refine af.nil (by kernel_rfl) (ah.next ?_)
  refine ai.aV (p:=(((c:Nat):Int):Int)=(65533:Int)) (λ_=>by kernel_rfl) (λDI=>?_) (λDI=>?_)
  ·refine ai.seq (ai.seq (ai.region (af.aq (k':=1) (fr':=[(174,.string bB)]) (ak:=[]) [o_] [174] (λ_ _=>by kernel_rfl) trivial ?_)))
   refine af.t6 (d:=(some 175)) (t:=9) (x:=(.tmp 174)) (s:=bB) (λ_=>by kernel_rfl) (λ_=>by kernel_rfl) Try.underlying9 (λr1=>?_)
   refine af.nil (by kernel_rfl) (ah.next (ai.block ?_))
   refine ai.loop (ι:=Nat) (λ(pos:Nat)=>(pos<=2)) (λ(pos:Nat)=>2-pos) (λ(pos:Nat)=>[(175,.pointer (some ⟨r1,0,none⟩))]) (λ(pos:Nat)=>[.abs (jU r1 bB pos),.abs R]) 0 (idx:=[175]) (pk:=[1,0]) (show (0<=2) from Nat.zero_le _) (λ_=>by kernel_rfl) rfl (by kernel_rfl) ?_
   rintro pos hp
   show ai _ _ _ _ [(175,.pointer (some ⟨r1,0,none⟩))] [.abs (jU r1 bB pos),.abs R] _
   refine ai.seq (ai.region ?_)
   rcases Nat.lt_or_ge pos ((bB:ByteArray).size) with hpos|hpos
   ·refine af.wk 0 (d:=(some 176)) (r:=r1) (s:=bB) (pos:=pos) (x:=(.tmp 175)) (λ_=>by kernel_rfl) (by kernel_rfl) (λ_=>by kernel_rfl) hpos ?_
    refine af.aq (k':=2) (fr':=[(175,.pointer (some ⟨r1,0,none⟩)),(176,.tuple #[.bool true,.int .i64 ↑pos,.int .i32 ((((Utf8.decode bB pos).1:Nat):Int))]),(177,.bool true)]) (ak:=[]) [o_] [175,176,177] (λ_ _=>by kernel_rfl) trivial ?_
    refine af.nil (by kernel_rfl) (ah.next (ai.seq ?_))
    refine ai.bL (λ_=>by kernel_rfl) ?_
    refine ai.skip (ah.next (ai.block (ai.seq (ai.region ?_))))
    refine af.aq (k':=4) (fr':=[(5,.int .i64 ↑pos),(6,.int .i32 ((((Utf8.decode bB pos).1:Nat):Int))),(175,.pointer (some ⟨r1,0,none⟩))]) (ak:=[]) [o_,o_,o_,o_] [5,6,175] (λ_ _=>by kernel_rfl) trivial ?_
    refine af.nil (by kernel_rfl) (ah.next (ai.seq (ai.region ?_)))
    refine af.aq (k':=2) (fr':=[(5,.int .i64 ↑pos),(175,.pointer (some ⟨r1,0,none⟩)),(181,.bool (decide (((((Utf8.decode bB pos).1:Nat):Int):Int)=(65533:Int))))]) (ak:=[]) [o_,o_] [5,175,181] (λ_ _=>by kernel_rfl) trivial ?_
    refine af.nil (by kernel_rfl) (ah.next ?_)
    refine ai.aV (p:=((((Utf8.decode bB pos).1:Nat):Int):Int)=(65533:Int)) (λ_=>by kernel_rfl) (λCr=>?_) (λCr=>?_)
    ·exact absurd Cr (by have:=Bx hpos;omega)
    refine ai.skip (ah.aJ ?_)
    exact ah.turn (pos+(Utf8.decode bB pos).2) (idx:=[175]) (pk:=[0,1]) (show ((pos+(Utf8.decode bB pos).2)<=2) from (by have:=(gU (s:=bB) hpos).2.1;have:bB.size=2:=rfl;omega)) (by show 2-(pos+(Utf8.decode bB pos).2)<2-pos;have h1:=(gU (s:=bB) hpos).1;have h2:bB.size=2:=rfl;omega) (λ_=>by kernel_rfl) rfl (by kernel_rfl)
   refine af.x6 0 (d:=(some 176)) (r:=r1) (s:=bB) (pos:=pos) (x:=(.tmp 175)) (λ_=>by kernel_rfl) (by kernel_rfl) (λ_=>by kernel_rfl) (Nat.not_lt.2 hpos) ?_
   refine af.aq (k':=2) (fr':=[(175,.pointer (some ⟨r1,0,none⟩)),(176,.tuple #[.bool false]),(177,.bool false)]) (ak:=[]) [o_] [175,176,177] (λ_ _=>by kernel_rfl) trivial ?_
   refine af.nil (by kernel_rfl) (ah.next (ai.seq ?_))
   refine ai.cU (λ_=>by kernel_rfl) ?_
   refine ai.exit (ah.aH (ah.aH (ah.bg (ah.next (ai.seq (ai.region ?_))))))
   refine af.aq (k':=1) (fr':=[(4,.int .i64 (-1))]) (ak:=[]) [o_] [4] (λ_ _=>by kernel_rfl) trivial ?_
   refine af.nil (by kernel_rfl) (ah.next (ai.ret (ah.aG ?_)))
   exact ah.ret (v:=.int .i64 (-1)) (l:=[]) (ak:=[]) [] [1] (λ_=>by kernel_rfl) trivial rfl (by kernel_rfl) (⟨rfl,rfl⟩)
  refine ai.seq (ai.region (af.aq (k':=1) (fr':=[(0,.string bB),(1,.int .i32 (((c:Nat):Int))),(184,.int .i32 (((c:Nat):Int)))]) (ak:=[]) [o_] [0,1,184] (λ_ _=>by kernel_rfl) trivial ?_))
  refine af.call (f:=104) (args:=#[.int .i32 (((c:Nat):Int))]) (d:=(some 185)) (pre:=[]) (R:=[.abs R]) (pk:=[0]) (λ_=>by kernel_rfl) (uy hv) rfl (by kernel_rfl) ?_
  rintro _ _ ⟨rfl,rfl⟩
  refine af.aq (k':=4) (fr':=[(0,.string bB),(1,.int .i32 (((c:Nat):Int))),(183,.bool false)]) (ak:=[]) [o_,o_] [0,1,183] (λ_ _=>by kernel_rfl) trivial ?_
  refine af.nil (by kernel_rfl) (ah.next ?_)
  refine ai.cU (λ_=>by kernel_rfl) ?_
  refine ai.scope (ai.seq (ai.region ?_))
  refine af.aq (k':=3) (fr':=[(0,.string bB),(7,.string (Utf8.encode ((c:Nat):Int)))]) (ak:=[]) [o_,o_,o_] [0,7] (λ_ _=>by kernel_rfl) trivial ?_
  refine af.nil (by kernel_rfl) (ah.next (ai.seq (ai.region ?_)))
  refine af.aq (k':=4) (fr':=[(0,.string bB),(7,.string (Utf8.encode ((c:Nat):Int))),(8,.int .i64 ↑((Utf8.encode ((c:Nat):Int)).size-1))]) (ak:=[(Value.int .i64 (IntKind.wrap .i64 (((((Utf8.encode ((c:Nat):Int)):ByteArray).size:Nat):Int)-1)))=(.int .i64 ↑((Utf8.encode ((c:Nat):Int)).size-1))]) [o_,o_,⟨[],none,none,none,some (.int .i64 ↑((Utf8.encode ((c:Nat):Int)).size-1))⟩,o_] [0,7,8] (λ_ _=>by kernel_rfl) ⟨aP (by omega) (by omega) (by omega),trivial⟩ ?_
  refine af.nil (by kernel_rfl) (ah.next (ai.seq (ai.region ?_)))
  refine af.aq (k':=2) (fr':=[(0,.string bB),(7,.string (Utf8.encode ((c:Nat):Int))),(8,.int .i64 ↑((Utf8.encode ((c:Nat):Int)).size-1)),(9,.int .i64 ↑((Utf8.encode ((c:Nat):Int)).size-1))]) (ak:=[]) [o_,o_] [0,7,8,9] (λ_ _=>by kernel_rfl) trivial ?_
  refine af.nil (by kernel_rfl) (ah.next (ai.seq (ai.region ?_)))
  refine af.aq (k':=1) (fr':=[(0,.string bB),(7,.string (Utf8.encode ((c:Nat):Int))),(8,.int .i64 ↑((Utf8.encode ((c:Nat):Int)).size-1)),(9,.int .i64 ↑((Utf8.encode ((c:Nat):Int)).size-1))]) (ak:=[]) [o_] [0,7,8,9] (λ_ _=>by kernel_rfl) trivial ?_
  refine af.nil (by kernel_rfl) (ah.next (ai.seq (ai.block ?_)))
  refine ai.loop (ι:=Nat) (λ(i:Nat)=>(i=(Utf8.encode ((c:Nat):Int)).size-1)) (λ(i:Nat)=>0) (λ(i:Nat)=>[(0,.string bB),(7,.string (Utf8.encode ((c:Nat):Int))),(8,.int .i64 ↑((Utf8.encode ((c:Nat):Int)).size-1)),(9,.int .i64 ↑i)]) (λ(i:Nat)=>[.abs R]) (((Utf8.encode ((c:Nat):Int)).size-1)) (idx:=[0,7,8,9]) (pk:=[0]) (show ((((Utf8.encode ((c:Nat):Int)).size-1))=(Utf8.encode ((c:Nat):Int)).size-1) from rfl) (λ_=>by kernel_rfl) rfl (by kernel_rfl) ?_
  rintro i hi
  show ai _ _ _ _ [(0,.string bB),(7,.string (Utf8.encode ((c:Nat):Int))),(8,.int .i64 ↑((Utf8.encode ((c:Nat):Int)).size-1)),(9,.int .i64 ↑i)] [.abs R] _
  refine ai.seq (ai.seq (ai.region (af.aq (k':=4) (fr':=[(0,.string bB),(7,.string (Utf8.encode ((c:Nat):Int))),(8,.int .i64 ↑((Utf8.encode ((c:Nat):Int)).size-1)),(9,.int .i64 ↑i),(26,.bool (decide ((((i:Nat):Int):Int)<((((bB:ByteArray).size:Nat):Int):Int))))]) (ak:=[]) [o_,o_,o_,o_] [0,7,8,9,26] (λ_ _=>by kernel_rfl) trivial ?_)))
  refine af.nil (by kernel_rfl) (ah.next ?_)
  refine ai.aV (p:=(((i:Nat):Int):Int)<((((bB:ByteArray).size:Nat):Int):Int)) (λ_=>by kernel_rfl) (λkS=>?_) (λkS=>?_)
  ·refine ai.skip (ah.next (ai.block (ai.scope (ai.seq (ai.seq ?_)))))
   refine ai.ga (by kernel_rfl) (by kernel_rfl) ?_
   refine aN.seg (k':=7) (fr':=[(0,.string bB),(7,.string (Utf8.encode ((c:Nat):Int))),(8,.int .i64 ↑((Utf8.encode ((c:Nat):Int)).size-1)),(9,.int .i64 ↑i),(33,.bool (!(decide ((((((bB:ByteArray).data.getD (i) 0).toNat:Nat):Int):Int)=((((((Utf8.encode ((c:Nat):Int)):ByteArray).data.getD (((Utf8.encode ((c:Nat):Int)).size-1)) 0).toNat:Nat):Int):Int)))))]) (ak:=[((((Utf8.encode ((c:Nat):Int)).size-1):Nat):Int)=((((Utf8.encode ((c:Nat):Int)).size-1):Nat):Int),((Utf8.encode ((c:Nat):Int)).size-1)<((Utf8.encode ((c:Nat):Int)):ByteArray).size,((i:Nat):Int)=((i:Nat):Int),i<(bB:ByteArray).size]) [o_,o_,⟨[],some i,none,none,none⟩,o_,o_,⟨[],some ((Utf8.encode ((c:Nat):Int)).size-1),none,none,none⟩,o_] [0,7,8,9,33] (λ_ _=>by kernel_rfl) ⟨rfl,by omega,rfl,by omega,trivial⟩ ?_
   refine aN.nil (by kernel_rfl) (ah.next ?_)
   refine ai.cY (p:=(((((bB:ByteArray).data.getD (i) 0).toNat:Nat):Int):Int)=((((((Utf8.encode ((c:Nat):Int)):ByteArray).data.getD (((Utf8.encode ((c:Nat):Int)).size-1)) 0).toNat:Nat):Int):Int)) (λ_=>by kernel_rfl) (λDz=>?_) (λDz=>?_)
   ·refine ai.seq (ai.ga (by kernel_rfl) (by kernel_rfl) ?_)
    refine aN.seg (k':=7) (fr':=[(0,.string bB),(7,.string (Utf8.encode ((c:Nat):Int))),(8,.int .i64 ↑((Utf8.encode ((c:Nat):Int)).size-1)),(9,.int .i64 ↑i),(37,.string ((bB:ByteArray).extract (i+1) (bB:ByteArray).size)),(40,.int .u8 ((((((Utf8.encode ((c:Nat):Int)):ByteArray).data.getD (((Utf8.encode ((c:Nat):Int)).size-1)) 0).toNat:Nat):Int)))]) (ak:=[((((Utf8.encode ((c:Nat):Int)).size-1):Nat):Int)=((((Utf8.encode ((c:Nat):Int)).size-1):Nat):Int),((Utf8.encode ((c:Nat):Int)).size-1)<((Utf8.encode ((c:Nat):Int)):ByteArray).size,((i+1:Nat):Int)=((i+1:Nat):Int),i+1<=(bB:ByteArray).size,(Value.int .i64 (IntKind.wrap .i64 (((i:Nat):Int)+1)))=(.int .i64 ↑(i+1))]) [o_,o_,⟨[],none,none,none,some (.int .i64 ↑(i+1))⟩,⟨[],some (i+1),none,none,none⟩,o_,o_,⟨[],some ((Utf8.encode ((c:Nat):Int)).size-1),none,none,none⟩] [0,7,8,9,37,40] (λ_ _=>by kernel_rfl) ⟨rfl,by omega,rfl,by omega,aP (by omega) (by omega) (by omega),trivial⟩ ?_
    refine aN.call (f:=77) (args:=#[.string ((bB:ByteArray).extract (i+1) (bB:ByteArray).size),.int .u8 ((((((Utf8.encode ((c:Nat):Int)):ByteArray).data.getD (((Utf8.encode ((c:Nat):Int)).size-1)) 0).toNat:Nat):Int))]) (d:=(some 41)) (pre:=[]) (R:=[.abs R]) (pk:=[0]) (sE:=[0]) (v0:=.int .i64 (-1)) (λ_=>by kernel_rfl) (qc (i:=i) (by have:bB.size=2:=rfl;omega) (((((Utf8.encode ((c:Nat):Int)):ByteArray).data.getD (((Utf8.encode ((c:Nat):Int)).size-1)) 0).toNat:Nat):Int)) rfl (by kernel_rfl) rfl (by kernel_rfl) (λ_ _ h=>h) ?_
    refine aN.seg (k':=9) (fr':=[(0,.string bB),(7,.string (Utf8.encode ((c:Nat):Int))),(8,.int .i64 ↑((Utf8.encode ((c:Nat):Int)).size-1)),(9,.int .i64 ↑i),(11,.int .i64 (-1))]) (ak:=[]) [o_] [0,7,8,9,11] (λ_ _=>by kernel_rfl) trivial ?_
    refine aN.nil (by kernel_rfl) (ah.next (ai.seq (ai.seq (ai.region ?_))))
    refine af.aq (k':=2) (fr':=[(0,.string bB),(7,.string (Utf8.encode ((c:Nat):Int))),(8,.int .i64 ↑((Utf8.encode ((c:Nat):Int)).size-1)),(9,.int .i64 ↑i),(11,.int .i64 (-1)),(43,.bool true)]) (ak:=[]) [o_,o_] [0,7,8,9,11,43] (λ_ _=>by kernel_rfl) trivial ?_
    refine af.nil (by kernel_rfl) (ah.next ?_)
    refine ai.bL (λ_=>by kernel_rfl) ?_
    refine ai.seq (ai.region (af.aq (k':=1) (fr':=[(4,.int .i64 (-1))]) (ak:=[]) [o_] [4] (λ_ _=>by kernel_rfl) trivial ?_))
    refine af.nil (by kernel_rfl) (ah.next (ai.ret (ah.ay (ah.ay (ah.p8 (ah.aG (ah.ay (ah.aG (ah.ay (ah.p8 (ah.aG ?_)))))))))))
    exact ah.ret (v:=.int .i64 (-1)) (l:=[]) (ak:=[]) [] [0] (λ_=>by kernel_rfl) trivial rfl (by kernel_rfl) (⟨rfl,rfl⟩)
   exact absurd Dz (by have h1:=yC i;have h2:=he.2.2;unfold aW at h1 h2;omega)
  refine ai.exit (ah.aH (ah.aH (ah.bg (ah.next (ai.seq (ai.seq (ai.region ?_)))))))
  refine af.aq (k':=1) (fr':=[(4,.int .i64 (-1))]) (ak:=[]) [o_] [4] (λ_ _=>by kernel_rfl) trivial ?_
  refine af.nil (by kernel_rfl) (ah.next (ai.ret (ah.ay (ah.p8 (ah.aG ?_)))))
  exact ah.ret (v:=.int .i64 (-1)) (l:=[]) (ak:=[]) [] [0] (λ_=>by kernel_rfl) trivial rfl (by kernel_rfl) (⟨rfl,rfl⟩)
 exact absurd Cp (by omega)
theorem uz {β:Bs} (c:Nat) (hv:c<55296\/(57343<c/\c<=1114111)) :
 Spec Try.prog β 99 #[.string bB,.int .i32 ((c:Nat):Int)] [] (λv l=>v=.int .i64 (qP c)/\l=[]):=by
 rcases Nat.lt_or_ge c 128 with h|h
 ·exact qd h
 rw [zK h]
 exact o8 c h hv
theorem o9 {β:Bs} (s:ByteArray) (h8:s.size<=8) :
 Spec Try.prog β 91 #[.string s,.string bB] [] (λv l=>(∃x:Int,v=.int .i64 x/\(0<=x↔¬Clean s))/\l=[]):=by
 refine Spec.enter Try.func91 rfl Try.ntmps91 (Nat.le_of_ble_eq_true rfl) (λR=>?_)
 refine ai.seq (ai.region (af.aq (k':=1) (fr':=[(0,.string s),(1,.string bB)]) (ak:=[]) [o_] [0,1] (λ_ _=>by kernel_rfl) trivial ?_))
 refine af.nil (by kernel_rfl) (ah.next (ai.seq (ai.seq (ai.region ?_))))
 refine af.aq (k':=2) (fr':=[(0,.string s),(1,.string bB),(12,.bool (decide ((bB:ByteArray)=⟨#[]⟩)))]) (ak:=[(Value.bool ((bB:ByteArray).toList == (⟨#[]⟩:ByteArray).toList))=(.bool (decide ((bB:ByteArray)=⟨#[]⟩)))]) [o_,⟨[],none,none,none,some (.bool (decide ((bB:ByteArray)=⟨#[]⟩)))⟩] [0,1,12] (λ_ _=>by kernel_rfl) ⟨eH _ _,trivial⟩ ?_
 refine af.nil (by kernel_rfl) (ah.next ?_)
 refine ai.aV (p:=(bB:ByteArray)=⟨#[]⟩) (λ_=>by kernel_rfl) (λh12=>?_) (λh12=>?_)
 ·exact absurd h12 (by decide)
 refine ai.skip (ah.next (ai.seq (ai.seq (ai.region ?_))))
 refine af.aq (k':=3) (fr':=[(0,.string s),(1,.string bB),(15,.bool (decide (((((bB:ByteArray).size:Nat):Int):Int)=(1:Int))))]) (ak:=[]) [o_,o_,o_] [0,1,15] (λ_ _=>by kernel_rfl) trivial ?_
 refine af.nil (by kernel_rfl) (ah.next ?_)
 refine ai.aV (p:=((((bB:ByteArray).size:Nat):Int):Int)=(1:Int)) (λ_=>by kernel_rfl) (λDA=>?_) (λDA=>?_)
 ·exact absurd DA (by decide)
 refine ai.skip (ah.next (ai.seq (ai.seq (ai.region ?_))))
 refine af.aq (k':=2) (fr':=[(0,.string s),(1,.string bB),(25,.int .i64 ↑((s:ByteArray).size))]) (ak:=[]) [o_,o_] [0,1,25] (λ_ _=>by kernel_rfl) trivial ?_
 refine af.call (f:=100) (args:=#[.int .i64 ↑((s:ByteArray).size)]) (d:=(some 26)) (pre:=[]) (R:=[.abs R]) (pk:=[0]) (λ_=>by kernel_rfl) (Spec.quiet (λw=>Try.strings_shouldUseASCIISet ((s.size:Nat):Int) w)) rfl (by kernel_rfl) ?_
 rintro _ _ ⟨rfl,rfl⟩
 refine af.nil (by kernel_rfl) (ah.next ?_)
 refine ai.aV (p:=(8:Int)<((s.size:Nat):Int)) (λ_=>by kernel_rfl) (λkS=>?_) (λkS=>?_)
 ·exact absurd kS (by omega)
 refine ai.skip (ah.next (ai.seq (ai.seq (ai.region ?_))))
 refine af.aq (k':=1) (fr':=[(1,.string bB),(44,.string s)]) (ak:=[]) [o_] [1,44] (λ_ _=>by kernel_rfl) trivial ?_
 refine af.t6 (d:=(some 45)) (t:=9) (x:=(.tmp 44)) (s:=s) (λ_=>by kernel_rfl) (λ_=>by kernel_rfl) Try.underlying9 (λr2=>?_)
 refine af.nil (by kernel_rfl) (ah.next (ai.block ?_))
 refine ai.loop (ι:=Nat) (λ(pos:Nat)=>(pos<=s.size)/\(∀j,j<pos->¬aW s j=0/\¬aW s j=47)) (λ(pos:Nat)=>s.size-pos) (λ(pos:Nat)=>[(1,.string bB),(45,.pointer (some ⟨r2,0,none⟩))]) (λ(pos:Nat)=>[.abs (jU r2 s pos),.abs R]) 0 (idx:=[1,45]) (pk:=[1,0]) (show (0<=s.size)/\(∀j,j<0->¬aW s j=0/\¬aW s j=47) from ⟨Nat.zero_le _,λj hj=>absurd hj (Nat.not_lt_zero j)⟩) (λ_=>by kernel_rfl) rfl (by kernel_rfl) ?_
 rintro pos ⟨hp,hno⟩
 show ai _ _ _ _ [(1,.string bB),(45,.pointer (some ⟨r2,0,none⟩))] [.abs (jU r2 s pos),.abs R] _
 refine ai.seq (ai.region ?_)
 rcases Nat.lt_or_ge pos ((s:ByteArray).size) with hpos|hpos
 ·refine af.wk 0 (d:=(some 46)) (r:=r2) (s:=s) (pos:=pos) (x:=(.tmp 45)) (λ_=>by kernel_rfl) (by kernel_rfl) (λ_=>by kernel_rfl) hpos ?_
  refine af.aq (k':=2) (fr':=[(1,.string bB),(45,.pointer (some ⟨r2,0,none⟩)),(46,.tuple #[.bool true,.int .i64 ↑pos,.int .i32 ((((Utf8.decode s pos).1:Nat):Int))]),(47,.bool true)]) (ak:=[]) [o_] [1,45,46,47] (λ_ _=>by kernel_rfl) trivial ?_
  refine af.nil (by kernel_rfl) (ah.next (ai.seq ?_))
  refine ai.bL (λ_=>by kernel_rfl) ?_
  refine ai.skip (ah.next (ai.block (ai.seq (ai.region ?_))))
  refine af.aq (k':=4) (fr':=[(1,.string bB),(9,.int .i64 ↑pos),(10,.int .i32 ((((Utf8.decode s pos).1:Nat):Int))),(45,.pointer (some ⟨r2,0,none⟩))]) (ak:=[]) [o_,o_,o_,o_] [1,9,10,45] (λ_ _=>by kernel_rfl) trivial ?_
  refine af.nil (by kernel_rfl) (ah.next (ai.seq (ai.region ?_)))
  refine af.aq (k':=2) (fr':=[(1,.string bB),(9,.int .i64 ↑pos),(45,.pointer (some ⟨r2,0,none⟩)),(50,.string bB),(51,.int .i32 ((((Utf8.decode s pos).1:Nat):Int)))]) (ak:=[]) [o_,o_] [1,9,45,50,51] (λ_ _=>by kernel_rfl) trivial ?_
  refine af.call (f:=99) (args:=#[.string bB,.int .i32 ((((Utf8.decode s pos).1:Nat):Int))]) (d:=(some 52)) (pre:=[]) (R:=[.abs (jU r2 s (pos+(Utf8.decode s pos).2)),.abs R]) (pk:=[0,1]) (λ_=>by kernel_rfl) (uz (Utf8.decode s pos).1 (gU hpos).2.2.2.2) rfl (by kernel_rfl) ?_
  rintro _ _ ⟨rfl,rfl⟩
  refine af.aq (k':=4) (fr':=[(1,.string bB),(9,.int .i64 ↑pos),(45,.pointer (some ⟨r2,0,none⟩)),(53,.bool (decide ((qP (Utf8.decode s pos).1:Int)>=(0:Int))))]) (ak:=[]) [o_] [1,9,45,53] (λ_ _=>by kernel_rfl) trivial ?_
  refine af.nil (by kernel_rfl) (ah.next ?_)
  refine ai.aV (p:=(qP (Utf8.decode s pos).1:Int)>=(0:Int)) (λ_=>by kernel_rfl) (λwA=>?_) (λwA=>?_)
  ·refine ai.seq (ai.region (af.aq (k':=2) (fr':=[(4,.int .i64 ↑pos)]) (ak:=[]) [o_,o_] [4] (λ_ _=>by kernel_rfl) trivial ?_))
   refine af.nil (by kernel_rfl) (ah.next (ai.ret (ah.aG (ah.ay (ah.aG (ah.ay ?_))))))
   exact ah.ret (v:=.int .i64 ↑pos) (l:=[]) (ak:=[]) [] [1] (λ_=>by kernel_rfl) trivial rfl (by kernel_rfl) (⟨⟨_,rfl,⟨λ_ hc=>by have h1:=yA.1 wA;have h2:=(gU hpos).2.2.1.1 h1;have:=hc pos hpos;omega,λ_=>Int.natCast_nonneg _⟩⟩,rfl⟩)
  refine ai.skip (ah.aJ ?_)
  exact ah.turn (pos+(Utf8.decode s pos).2) (idx:=[1,45]) (pk:=[0,1]) (show ((pos+(Utf8.decode s pos).2)<=s.size)/\(∀j,j<(pos+(Utf8.decode s pos).2)->¬aW s j=0/\¬aW s j=47) from ⟨(gU hpos).2.1,λj hj=>by rcases Nat.lt_trichotomy j pos with h|h|h;exact hno j h;subst h;have h1:=mt yA.2 wA;have:=mt (gU hpos).2.2.1.2 h1;omega;have:=(gU hpos).2.2.2.1 j h hj;omega⟩) (by show s.size-(pos+(Utf8.decode s pos).2)<s.size-pos;have:=(gU hpos).1;omega) (λ_=>by kernel_rfl) rfl (by kernel_rfl)
 refine af.x6 0 (d:=(some 46)) (r:=r2) (s:=s) (pos:=pos) (x:=(.tmp 45)) (λ_=>by kernel_rfl) (by kernel_rfl) (λ_=>by kernel_rfl) (Nat.not_lt.2 hpos) ?_
 refine af.aq (k':=2) (fr':=[(1,.string bB),(45,.pointer (some ⟨r2,0,none⟩)),(46,.tuple #[.bool false]),(47,.bool false)]) (ak:=[]) [o_] [1,45,46,47] (λ_ _=>by kernel_rfl) trivial ?_
 refine af.nil (by kernel_rfl) (ah.next (ai.seq ?_))
 refine ai.cU (λ_=>by kernel_rfl) ?_
 refine ai.exit (ah.aH (ah.aH (ah.bg (ah.next (ai.seq (ai.region ?_))))))
 refine af.aq (k':=1) (fr':=[(4,.int .i64 (-1))]) (ak:=[]) [o_] [4] (λ_ _=>by kernel_rfl) trivial ?_
 refine af.nil (by kernel_rfl) (ah.next (ai.ret ?_))
 exact ah.ret (v:=.int .i64 (-1)) (l:=[]) (ak:=[]) [] [1] (λ_=>by kernel_rfl) trivial rfl (by kernel_rfl) (⟨⟨_,rfl,⟨λh=>absurd h (by decide),λh=>absurd (λj hj=>hno j (by omega)) h⟩⟩,rfl⟩)
theorem vN {β:Bs} (s:ByteArray) (hs:s.size<=1048576) :
 Spec Try.prog β 91 #[.string s,.string bB] [] (λv l=>(∃x:Int,v=.int .i64 x/\(0<=x↔¬Clean s))/\l=[]):=by
 rcases Nat.lt_or_ge 8 s.size with h|h
 ·exact qb s h hs
 exact o9 s h
theorem jK {β:Bs} (s:ByteArray) (hs:s.size<=1048576) :
 Spec Try.prog β 78 #[.string s,.string bB] [] (λv l=>v=.bool (decide (¬Clean s))/\l=[]):=by
 refine Spec.enter Try.func78 rfl Try.ntmps78 (Nat.le_of_ble_eq_true rfl) (λR=>?_)
 refine ai.seq (ai.region (af.aq (k':=1) (fr':=[(0,.string s),(1,.string bB)]) (ak:=[]) [o_] [0,1] (λ_ _=>by kernel_rfl) trivial ?_))
 refine af.nil (by kernel_rfl) (ah.next (ai.seq (ai.region ?_)))
 refine af.aq (k':=2) (fr':=[(5,.string s),(6,.string bB)]) (ak:=[]) [o_,o_] [5,6] (λ_ _=>by kernel_rfl) trivial ?_
 refine af.call (f:=91) (args:=#[.string s,.string bB]) (d:=(some 7)) (pre:=[]) (R:=[.abs R]) (pk:=[0]) (λ_=>by kernel_rfl) (vN s hs) rfl (by kernel_rfl) ?_
 rintro _ _ ⟨⟨x,rfl,hx⟩,rfl⟩
 refine af.aq (k':=5) (fr':=[(4,.bool (decide ((x:Int)>=(0:Int))))]) (ak:=[]) [o_,o_] [4] (λ_ _=>by kernel_rfl) trivial ?_
 refine af.nil (by kernel_rfl) (ah.next (ai.ret ?_))
 exact ah.ret (v:=.bool (decide ((x:Int)>=(0:Int)))) (l:=[]) (ak:=[]) [] [0] (λ_=>by kernel_rfl) trivial rfl (by kernel_rfl) (⟨congrArg Value.bool (decide_eq_decide.2 (by exact hx)),rfl⟩)
theorem uD {β:Bs} (s:ByteArray) (hs:s.size<=1048576) :
 Spec Try.prog β 72 #[.string s] [] (λv l=>v=.bool (decide (cZ s))/\l=[]):=by
 refine Spec.enter Try.func72 rfl Try.ntmps72 (Nat.le_of_ble_eq_true rfl) (λR=>?_)
 refine ai.seq (ai.region (af.aq (k':=1) (fr':=[(0,.string s)]) (ak:=[]) [o_] [0] (λ_ _=>by kernel_rfl) trivial ?_))
 refine af.nil (by kernel_rfl) (ah.next (ai.seq (ai.seq (ai.region ?_))))
 refine af.aq (k':=1) (fr':=[(0,.string s),(3,.string s)]) (ak:=[]) [o_] [0,3] (λ_ _=>by kernel_rfl) trivial ?_
 refine af.nil (by kernel_rfl) (ah.next (ai.block (ai.seq (ai.seq (ai.region ?_)))))
 refine af.aq (k':=2) (fr':=[(0,.string s),(3,.string s),(4,.bool (decide ((s:ByteArray)=⟨#[]⟩)))]) (ak:=[(Value.bool ((s:ByteArray).toList == (⟨#[]⟩:ByteArray).toList))=(.bool (decide ((s:ByteArray)=⟨#[]⟩)))]) [⟨[],none,none,none,some (.bool (decide ((s:ByteArray)=⟨#[]⟩)))⟩,o_] [0,3,4] (λ_ _=>by kernel_rfl) ⟨eH _ _,trivial⟩ ?_
 refine af.nil (by kernel_rfl) (ah.next ?_)
 refine ai.aV (p:=(s:ByteArray)=⟨#[]⟩) (λ_=>by kernel_rfl) (λh4=>?_) (λh4=>?_)
 ·refine ai.skip (ah.next ?_)
  refine ai.aV (p:=(s:ByteArray)=⟨#[]⟩) (λ_=>by kernel_rfl) (λh4=>?_) (λh4=>?_)
  ·refine ai.seq (ai.region (af.aq (k':=1) (fr':=[(2,.bool false)]) (ak:=[]) [o_] [2] (λ_ _=>by kernel_rfl) trivial ?_))
   refine af.nil (by kernel_rfl) (ah.next (ai.ret (ah.aG (ah.ay ?_))))
   exact ah.ret (v:=.bool false) (l:=[]) (ak:=[]) [] [0] (λ_=>by kernel_rfl) trivial rfl (by kernel_rfl) (⟨congrArg Value.bool (decide_eq_false (by have h0:=iq (s:=s);rw [fD];grind)).symm,rfl⟩)
  refine ai.skip (ah.aJ (ah.next (ai.seq (ai.region ?_))))
  refine af.aq (k':=4) (fr':=[(0,.string s),(11,.bool (decide (((((s:ByteArray).size:Nat):Int):Int)<=(255:Int))))]) (ak:=[]) [o_,o_,o_,o_] [0,11] (λ_ _=>by kernel_rfl) trivial ?_
  refine af.bO 11 (((((s:ByteArray).size:Nat):Int):Int)<=(255:Int)) (λ_=>by kernel_rfl) (λh11=>?_) (λh11=>?_)
  ·refine af.aq (k':=5) (fr':=[(11,.bool true),(12,.string s)]) (ak:=[]) [o_] [11,12] (λ_ _=>by kernel_rfl) trivial ?_
   refine af.call (f:=78) (args:=#[.string s,.string ⟨#[47,0]⟩]) (d:=(some 13)) (pre:=[]) (R:=[.abs R]) (pk:=[0]) (λ_=>by kernel_rfl) (jK s hs) rfl (by kernel_rfl) ?_
   rintro _ _ ⟨rfl,rfl⟩
   refine af.aq (k':=9) (fr':=[(2,.bool (!(decide (¬Clean s))))]) (ak:=[]) [o_,o_,o_] [2] (λ_ _=>by kernel_rfl) trivial ?_
   refine af.nil (by kernel_rfl) (ah.next (ai.ret ?_))
   exact ah.ret (v:=.bool (!(decide (¬Clean s)))) (l:=[]) (ak:=[]) [] [0] (λ_=>by kernel_rfl) trivial rfl (by kernel_rfl) (⟨congrArg Value.bool (oz (by have h0:=iq (s:=s);rw [fD];grind)),rfl⟩)
  refine af.aq (k':=9) (fr':=[(2,.bool false)]) (ak:=[]) [o_,o_,o_,o_,o_] [2] (λ_ _=>by kernel_rfl) trivial ?_
  refine af.nil (by kernel_rfl) (ah.next (ai.ret ?_))
  exact ah.ret (v:=.bool false) (l:=[]) (ak:=[]) [] [0] (λ_=>by kernel_rfl) trivial rfl (by kernel_rfl) (⟨congrArg Value.bool (decide_eq_false (by have h0:=iq (s:=s);rw [fD];grind)).symm,rfl⟩)
 refine ai.seq (ai.region (af.aq (k':=2) (fr':=[(0,.string s),(3,.string s),(4,.bool (decide ((s:ByteArray)=⟨#[46]⟩)))]) (ak:=[(Value.bool ((s:ByteArray).toList == (⟨#[46]⟩:ByteArray).toList))=(.bool (decide ((s:ByteArray)=⟨#[46]⟩)))]) [⟨[],none,none,none,some (.bool (decide ((s:ByteArray)=⟨#[46]⟩)))⟩,o_] [0,3,4] (λ_ _=>by kernel_rfl) ⟨eH _ _,trivial⟩ ?_))
 refine af.nil (by kernel_rfl) (ah.next ?_)
 refine ai.aV (p:=(s:ByteArray)=⟨#[46]⟩) (λ_=>by kernel_rfl) (λh4=>?_) (λh4=>?_)
 ·refine ai.skip (ah.next ?_)
  refine ai.aV (p:=(s:ByteArray)=⟨#[46]⟩) (λ_=>by kernel_rfl) (λh4=>?_) (λh4=>?_)
  ·refine ai.seq (ai.region (af.aq (k':=1) (fr':=[(2,.bool false)]) (ak:=[]) [o_] [2] (λ_ _=>by kernel_rfl) trivial ?_))
   refine af.nil (by kernel_rfl) (ah.next (ai.ret (ah.aG (ah.ay ?_))))
   exact ah.ret (v:=.bool false) (l:=[]) (ak:=[]) [] [0] (λ_=>by kernel_rfl) trivial rfl (by kernel_rfl) (⟨congrArg Value.bool (decide_eq_false (by have h0:=iq (s:=s);rw [fD];grind)).symm,rfl⟩)
  refine ai.skip (ah.aJ (ah.next (ai.seq (ai.region ?_))))
  refine af.aq (k':=4) (fr':=[(0,.string s),(11,.bool (decide (((((s:ByteArray).size:Nat):Int):Int)<=(255:Int))))]) (ak:=[]) [o_,o_,o_,o_] [0,11] (λ_ _=>by kernel_rfl) trivial ?_
  refine af.bO 11 (((((s:ByteArray).size:Nat):Int):Int)<=(255:Int)) (λ_=>by kernel_rfl) (λh11=>?_) (λh11=>?_)
  ·refine af.aq (k':=5) (fr':=[(11,.bool true),(12,.string s)]) (ak:=[]) [o_] [11,12] (λ_ _=>by kernel_rfl) trivial ?_
   refine af.call (f:=78) (args:=#[.string s,.string ⟨#[47,0]⟩]) (d:=(some 13)) (pre:=[]) (R:=[.abs R]) (pk:=[0]) (λ_=>by kernel_rfl) (jK s hs) rfl (by kernel_rfl) ?_
   rintro _ _ ⟨rfl,rfl⟩
   refine af.aq (k':=9) (fr':=[(2,.bool (!(decide (¬Clean s))))]) (ak:=[]) [o_,o_,o_] [2] (λ_ _=>by kernel_rfl) trivial ?_
   refine af.nil (by kernel_rfl) (ah.next (ai.ret ?_))
   exact ah.ret (v:=.bool (!(decide (¬Clean s)))) (l:=[]) (ak:=[]) [] [0] (λ_=>by kernel_rfl) trivial rfl (by kernel_rfl) (⟨congrArg Value.bool (oz (by have h0:=iq (s:=s);rw [fD];grind)),rfl⟩)
  refine af.aq (k':=9) (fr':=[(2,.bool false)]) (ak:=[]) [o_,o_,o_,o_,o_] [2] (λ_ _=>by kernel_rfl) trivial ?_
  refine af.nil (by kernel_rfl) (ah.next (ai.ret ?_))
  exact ah.ret (v:=.bool false) (l:=[]) (ak:=[]) [] [0] (λ_=>by kernel_rfl) trivial rfl (by kernel_rfl) (⟨congrArg Value.bool (decide_eq_false (by have h0:=iq (s:=s);rw [fD];grind)).symm,rfl⟩)
 refine ai.region (af.aq (k':=2) (fr':=[(0,.string s),(4,.bool (decide ((s:ByteArray)=⟨#[46,46]⟩)))]) (ak:=[(Value.bool ((s:ByteArray).toList == (⟨#[46,46]⟩:ByteArray).toList))=(.bool (decide ((s:ByteArray)=⟨#[46,46]⟩)))]) [⟨[],none,none,none,some (.bool (decide ((s:ByteArray)=⟨#[46,46]⟩)))⟩,o_] [0,4] (λ_ _=>by kernel_rfl) ⟨eH _ _,trivial⟩ ?_)
 refine af.nil (by kernel_rfl) (ah.next ?_)
 refine ai.aV (p:=(s:ByteArray)=⟨#[46,46]⟩) (λ_=>by kernel_rfl) (λh4=>?_) (λh4=>?_)
 ·refine ai.seq (ai.region (af.aq (k':=1) (fr':=[(2,.bool false)]) (ak:=[]) [o_] [2] (λ_ _=>by kernel_rfl) trivial ?_))
  refine af.nil (by kernel_rfl) (ah.next (ai.ret (ah.aG (ah.ay ?_))))
  exact ah.ret (v:=.bool false) (l:=[]) (ak:=[]) [] [0] (λ_=>by kernel_rfl) trivial rfl (by kernel_rfl) (⟨congrArg Value.bool (decide_eq_false (by have h0:=iq (s:=s);rw [fD];grind)).symm,rfl⟩)
 refine ai.skip (ah.aJ (ah.next (ai.seq (ai.region ?_))))
 refine af.aq (k':=4) (fr':=[(0,.string s),(11,.bool (decide (((((s:ByteArray).size:Nat):Int):Int)<=(255:Int))))]) (ak:=[]) [o_,o_,o_,o_] [0,11] (λ_ _=>by kernel_rfl) trivial ?_
 refine af.bO 11 (((((s:ByteArray).size:Nat):Int):Int)<=(255:Int)) (λ_=>by kernel_rfl) (λh11=>?_) (λh11=>?_)
 ·refine af.aq (k':=5) (fr':=[(11,.bool true),(12,.string s)]) (ak:=[]) [o_] [11,12] (λ_ _=>by kernel_rfl) trivial ?_
  refine af.call (f:=78) (args:=#[.string s,.string ⟨#[47,0]⟩]) (d:=(some 13)) (pre:=[]) (R:=[.abs R]) (pk:=[0]) (λ_=>by kernel_rfl) (jK s hs) rfl (by kernel_rfl) ?_
  rintro _ _ ⟨rfl,rfl⟩
  refine af.aq (k':=9) (fr':=[(2,.bool (!(decide (¬Clean s))))]) (ak:=[]) [o_,o_,o_] [2] (λ_ _=>by kernel_rfl) trivial ?_
  refine af.nil (by kernel_rfl) (ah.next (ai.ret ?_))
  exact ah.ret (v:=.bool (!(decide (¬Clean s)))) (l:=[]) (ak:=[]) [] [0] (λ_=>by kernel_rfl) trivial rfl (by kernel_rfl) (⟨congrArg Value.bool (oz (by have h0:=iq (s:=s);rw [fD];grind)),rfl⟩)
 refine af.aq (k':=9) (fr':=[(2,.bool false)]) (ak:=[]) [o_,o_,o_,o_,o_] [2] (λ_ _=>by kernel_rfl) trivial ?_
 refine af.nil (by kernel_rfl) (ah.next (ai.ret ?_))
 exact ah.ret (v:=.bool false) (l:=[]) (ak:=[]) [] [0] (λ_=>by kernel_rfl) trivial rfl (by kernel_rfl) (⟨congrArg Value.bool (decide_eq_false (by have h0:=iq (s:=s);rw [fD];grind)).symm,rfl⟩)
end
section
open Go.RowKit
attribute [local irreducible] af aN ai ah
theorem yD {β:Bs} (m:Nat) (ps:List (Int×Int)) (hl:ps.length<=1048576) (hw:∀z y,up ps z=some y->(-9223372036854775808<=z/\z<=9223372036854775807)/\(-9223372036854775808<=y/\y<=9223372036854775807)) :
 Spec Try.prog β 60 #[.map (some m)] [.abs (aE Try.prog 3 m (mf (pf ps)) ps.length)] (λv l=>v=.bool (decide (mQ ps))/\l=[]):=by
 refine Spec.enter Try.func60 rfl Try.ntmps60 (Nat.le_of_ble_eq_true rfl) (λR=>?_)
 refine ai.seq (ai.region (af.aq (k':=1) (fr':=[(0,.map (some m))]) (ak:=[]) [o_] [0] (λ_ _=>by kernel_rfl) trivial ?_))
 refine af.nil (by kernel_rfl) (ah.next (ai.seq (ai.region ?_)))
 refine af.kI (d:=(some 11)) (t:=107) (λ_=>by kernel_rfl) Try.prog rfl 3 (λm1=>?_)
 refine af.aq (k':=2) (fr':=[(0,.map (some m)),(3,.map (some m1))]) (ak:=[]) [o_] [0,3] (λ_ _=>by kernel_rfl) trivial ?_
 refine af.nil (by kernel_rfl) (ah.next (ai.seq (ai.seq (ai.region ?_))))
 refine af.aZ 2 (p:=.abs (aE Try.prog 3 m1 (λ_=>none) 0)) (p':=.abs (aE Try.prog 3 m1 (mf (ff [])) 0)) (by kernel_rfl) (by rw [Cm]) ?_
 refine af.aq (k':=1) (fr':=[(0,.map (some m)),(3,.map (some m1)),(12,.map (some m))]) (ak:=[]) [o_] [0,3,12] (λ_ _=>by kernel_rfl) trivial ?_
 refine af.mapRange 0 (d:=(some 13)) (t:=107) (K:=3) (E:=3) (b:=m) (n:=ps.length) (f:=(mf (pf ps))) (x:=(.tmp 12)) (λ_=>by kernel_rfl) (by kernel_rfl) (λ_=>by kernel_rfl) fC Try.underlying107 (λr2=>?_)
 refine af.nil (by kernel_rfl) (ah.next (ai.block ?_))
 refine ai.loop (ι:=(Lit->Bool)×Nat×(Option Value)×(List Int)×Nat) (λ((left,cnt,last,fs,fn):(Lit->Bool)×Nat×(Option Value)×(List Int)×Nat)=>(cnt<=ps.length)/\(∀x y,up ps x=some y->left (.int .i64 x)=false->Ends ps x)/\(∀x,x∈fs->Ends ps x)/\(fn<=(ps.length-cnt)*(ps.length+2))) (λ((left,cnt,last,fs,fn):(Lit->Bool)×Nat×(Option Value)×(List Int)×Nat)=>cnt) (λ((left,cnt,last,fs,fn):(Lit->Bool)×Nat×(Option Value)×(List Int)×Nat)=>[(0,.map (some m)),(3,.map (some m1)),(13,.pointer (some ⟨r2,0,none⟩))]) (λ((left,cnt,last,fs,fn):(Lit->Bool)×Nat×(Option Value)×(List Int)×Nat)=>[.abs (eT Try.prog 3 m r2 (mf (pf ps)) ps.length left cnt last),.abs (aE Try.prog 3 m1 (mf (ff fs)) fn),.abs R]) ((λkl=>((mf (pf ps)) kl).isSome),ps.length,none,[],0) (idx:=[0,3,13]) (pk:=[0,2,1]) (show (ps.length<=ps.length)/\(∀x y,up ps x=some y->((λkl=>((mf (pf ps)) kl).isSome)) (.int .i64 x)=false->Ends ps x)/\(∀x,x∈([])->Ends ps x)/\(0<=(ps.length-ps.length)*(ps.length+2)) from ⟨Nat.le_refl _,λx y hx h=>(by have h:((up ps x).map (Value.int .i64)).isSome=false:=h;rw [hx] at h;cases h),λx hx=>(by cases hx),Nat.zero_le _⟩) (λ_=>by kernel_rfl) rfl (by kernel_rfl) ?_
 rintro⟨left,cnt,last,fs,fn⟩ ⟨DJ,hdone,hfs,hfn⟩
 show ai _ _ _ _ [(0,.map (some m)),(3,.map (some m1)),(13,.pointer (some ⟨r2,0,none⟩))] [.abs (eT Try.prog 3 m r2 (mf (pf ps)) ps.length left cnt last),.abs (aE Try.prog 3 m1 (mf (ff fs)) fn),.abs R] _
 have Fa:fn<=1048576*1048578:=Nat.le_trans hfn (Nat.mul_le_mul (by omega) (by omega))
 refine ai.seq (ai.region (af.mapNext 0 (d:=(some 14)) (K:=3) (b:=m) (r:=r2) (f:=(mf (pf ps))) (n:=ps.length) (left:=left) (cnt:=cnt) (last:=last) (x:=(.tmp 13)) (λ_=>by kernel_rfl) (by kernel_rfl) (λ_=>by kernel_rfl) fC Try.underlying3 (λhc0 hl0=>?_) (λz u cnt' hlz hfz Fb DK=>?_)))
 ·refine af.aq (k':=2) (fr':=[(0,.map (some m)),(3,.map (some m1)),(13,.pointer (some ⟨r2,0,none⟩)),(15,.bool false)]) (ak:=[]) [o_] [0,3,13,15] (λ_ _=>by kernel_rfl) trivial ?_
  refine af.nil (by kernel_rfl) (ah.next (ai.seq ?_))
  refine ai.cU (λ_=>by kernel_rfl) ?_
  refine ai.exit (ah.aH (ah.aH (ah.bg (ah.next (ai.seq (ai.region ?_))))))
  refine af.aq (k':=1) (fr':=[(2,.bool true)]) (ak:=[]) [o_] [2] (λ_ _=>by kernel_rfl) trivial ?_
  refine af.nil (by kernel_rfl) (ah.next (ai.ret ?_))
  exact ah.ret (v:=.bool true) (l:=[]) (ak:=[]) [] [2] (λ_=>by kernel_rfl) trivial rfl (by kernel_rfl) (⟨congrArg Value.bool (decide_eq_true (p:=mQ ps) (λz=>by cases hu:up ps z with|none=>exact⟨0,hu⟩|some y=>exact hdone z y hu (hl0 _))).symm,rfl⟩)
 obtain⟨y,hy,rfl⟩:=Bv hfz
 refine af.aq (k':=2) (fr':=[(0,.map (some m)),(3,.map (some m1)),(13,.pointer (some ⟨r2,0,none⟩)),(15,.bool true)]) (ak:=[]) [o_] [0,3,13,15] (λ_ _=>by kernel_rfl) trivial ?_
 refine af.nil (by kernel_rfl) (ah.next (ai.seq ?_))
 refine ai.bL (λ_=>by kernel_rfl) ?_
 refine ai.skip (ah.next (ai.block (ai.seq (ai.region ?_))))
 refine af.mapEntry 0 (d:=(some 16)) (K:=3) (b:=m) (r:=r2) (f:=(mf (pf ps))) (n:=ps.length) (left:=(λkl=>left kl && !kl.sameKey (.int .i64 z))) (cnt:=cnt') (v:=.tuple #[.int .i64 (z),.int .i64 (y)]) (x:=(.tmp 13)) (λ_=>by kernel_rfl) (by kernel_rfl) (λ_=>by kernel_rfl) ?_
 refine af.aq (k':=3) (fr':=[(0,.map (some m)),(3,.map (some m1)),(4,.int .i64 (z)),(13,.pointer (some ⟨r2,0,none⟩))]) (ak:=[]) [o_,o_] [0,3,4,13] (λ_ _=>by kernel_rfl) trivial ?_
 refine af.nil (by kernel_rfl) (ah.next (ai.seq (ai.region ?_)))
 refine af.aq (k':=1) (fr':=[(0,.map (some m)),(3,.map (some m1)),(4,.int .i64 (z)),(5,.slice none (0) (0)),(13,.pointer (some ⟨r2,0,none⟩))]) (ak:=[]) [o_] [0,3,4,5,13] (λ_ _=>by kernel_rfl) trivial ?_
 refine af.nil (by kernel_rfl) (ah.next ?_)
 refine ai.join (ι:=(List Int)×(Option Addr)×Nat) (λ((w2,A2,c2):(List Int)×(Option Addr)×Nat)=>(Ends ps z)/\(∀x,x∈w2->Ends ps x)/\(w2.length<=ps.length+1)/\(∀x,x∈w2->-9223372036854775808<=x/\x<=9223372036854775807)) (λ((w2,A2,c2):(List Int)×(Option Addr)×Nat)=>[(0,.map (some m)),(3,.map (some m1)),(5,.slice A2 (w2.length) (c2)),(13,.pointer (some ⟨r2,0,none⟩))]) (λ((w2,A2,c2):(List Int)×(Option Addr)×Nat)=>[.abs (eT Try.prog 3 m r2 (mf (pf ps)) ps.length (λkl=>left kl && !kl.sameKey (.int .i64 z)) cnt' (some (.tuple #[.int .i64 (z),.int .i64 (y)]))),.abs (aE Try.prog 3 m1 (mf (ff fs)) fn),.abs (av 3 1 A2 w2.length c2 (cq w2)),.abs R]) ?_ ?_
 ·rintro⟨w2,A2,c2⟩ ⟨hend,Dj,ET,Cs⟩
  show ai _ _ _ _ [(0,.map (some m)),(3,.map (some m1)),(5,.slice A2 (w2.length) (c2)),(13,.pointer (some ⟨r2,0,none⟩))] [.abs (eT Try.prog 3 m r2 (mf (pf ps)) ps.length (λkl=>left kl && !kl.sameKey (.int .i64 z)) cnt' (some (.tuple #[.int .i64 (z),.int .i64 (y)]))),.abs (aE Try.prog 3 m1 (mf (ff fs)) fn),.abs (av 3 1 A2 w2.length c2 (cq w2)),.abs R] _
  refine ai.seq (ai.region (af.aq (k':=3) (fr':=[(0,.map (some m)),(3,.map (some m1)),(13,.pointer (some ⟨r2,0,none⟩)),(41,.slice A2 (w2.length) (c2)),(42,.int .i64 ↑w2.length),(43,.int .i64 0)]) (ak:=[]) [o_,o_,o_] [0,3,13,41,42,43] (λ_ _=>by kernel_rfl) trivial ?_))
  refine af.nil (by kernel_rfl) (ah.next (ai.block ?_))
  refine ai.loop (ι:=Nat×(List Int)×Nat) (λ((j,ku,jC):Nat×(List Int)×Nat)=>(j<=w2.length)/\(∀x,x∈ku->Ends ps x)/\(jC<=fn+j)) (λ((j,ku,jC):Nat×(List Int)×Nat)=>w2.length-j) (λ((j,ku,jC):Nat×(List Int)×Nat)=>[(0,.map (some m)),(3,.map (some m1)),(13,.pointer (some ⟨r2,0,none⟩)),(41,.slice A2 (w2.length) (c2)),(42,.int .i64 ↑w2.length),(43,.int .i64 ↑j)]) (λ((j,ku,jC):Nat×(List Int)×Nat)=>[.abs (eT Try.prog 3 m r2 (mf (pf ps)) ps.length (λkl=>left kl && !kl.sameKey (.int .i64 z)) cnt' (some (.tuple #[.int .i64 (z),.int .i64 (y)]))),.abs (aE Try.prog 3 m1 (mf (ff ku)) jC),.abs (av 3 1 A2 w2.length c2 (cq w2)),.abs R]) (0,fs,fn) (idx:=[0,3,13,41,42,43]) (pk:=[0,1,2,3]) (show (0<=w2.length)/\(∀x,x∈fs->Ends ps x)/\(fn<=fn+0) from ⟨Nat.zero_le _,hfs,Nat.le_refl _⟩) (λ_=>by kernel_rfl) rfl (by kernel_rfl) ?_
  rintro⟨j,ku,jC⟩ ⟨hj,Ct,DL⟩
  show ai _ _ _ _ [(0,.map (some m)),(3,.map (some m1)),(13,.pointer (some ⟨r2,0,none⟩)),(41,.slice A2 (w2.length) (c2)),(42,.int .i64 ↑w2.length),(43,.int .i64 ↑j)] [.abs (eT Try.prog 3 m r2 (mf (pf ps)) ps.length (λkl=>left kl && !kl.sameKey (.int .i64 z)) cnt' (some (.tuple #[.int .i64 (z),.int .i64 (y)]))),.abs (aE Try.prog 3 m1 (mf (ff ku)) jC),.abs (av 3 1 A2 w2.length c2 (cq w2)),.abs R] _
  refine ai.seq (ai.region (af.aq (k':=1) (fr':=[(0,.map (some m)),(3,.map (some m1)),(13,.pointer (some ⟨r2,0,none⟩)),(41,.slice A2 (w2.length) (c2)),(42,.int .i64 ↑w2.length),(43,.int .i64 ↑j),(44,.bool (decide ((((j:Nat):Int):Int)<(((w2.length:Nat):Int):Int))))]) (ak:=[]) [o_] [0,3,13,41,42,43,44] (λ_ _=>by kernel_rfl) trivial ?_))
  refine af.nil (by kernel_rfl) (ah.next (ai.seq ?_))
  refine ai.aV (p:=(((j:Nat):Int):Int)<(((w2.length:Nat):Int):Int)) (λ_=>by kernel_rfl) (λEe=>?_) (λEe=>?_)
  ·refine ai.skip (ah.next (ai.seq (ai.block (ai.seq (ai.region ?_)))))
   refine af.tell (λw hS=>let ⟨F,h⟩:=hS.get (i:=2) rfl;(av.tQ h (by omega)).1) (λum=>?_)
   refine af.aq (k':=3) (fr':=[(0,.map (some m)),(3,.map (some m1)),(10,.int .i64 ((w2.getD j 0))),(13,.pointer (some ⟨r2,0,none⟩)),(41,.slice A2 (w2.length) (c2)),(42,.int .i64 ↑w2.length),(43,.int .i64 ↑j)]) (ak:=[(∀F w,(av 3 1 A2 w2.length c2 (cq w2)).h F w->w.cell? ⟨(au A2),ar A2+j*1,none⟩=some (.int .i64 ((w2.getD j 0)))),((j:Nat):Int)=((j:Nat):Int),j<w2.length,(⟨(au A2),ar A2,none⟩:Addr).spot=none,(A2:Option Addr)=some ⟨(au A2),ar A2,none⟩]) [⟨[],some j,none,some ⟨(au A2),ar A2,none⟩,none⟩,⟨[.view 2 (.int .i64 ((w2.getD j 0)))],none,none,none,none⟩,o_] [0,3,10,13,41,42,43] (λ_ _=>by kernel_rfl) ⟨av.Di (by omega),rfl,by omega,rfl,um,trivial⟩ ?_
   refine af.nil (by kernel_rfl) (ah.next (ai.region ?_))
   refine af.aq (k':=2) (fr':=[(0,.map (some m)),(3,.map (some m1)),(13,.pointer (some ⟨r2,0,none⟩)),(41,.slice A2 (w2.length) (c2)),(42,.int .i64 ↑w2.length),(43,.int .i64 ↑j),(47,.map (some m1)),(48,.int .i64 ((w2.getD j 0)))]) (ak:=[]) [o_,o_] [0,3,13,41,42,43,47,48] (λ_ _=>by kernel_rfl) trivial ?_
   refine af.kQ 1 (d:=none) (t:=107) (K:=3) (E:=3) (b:=m1) (n:=jC) (f:=(mf (ff ku))) (x:=(.tmp 47)) (ix:=(.tmp 48)) (y:=(.const (.int .i64 1))) (key:=.int .i64 ((w2.getD j 0))) (u:=.int .i64 1) (kl:=(.int .i64 (w2.getD j 0))) (n':=(if (ff ku (w2.getD j 0)).isSome then jC else jC+1)) (f':=(mf (ff ((w2.getD j 0)::ku)))) (λ_=>by kernel_rfl) (by kernel_rfl) (λ_=>by kernel_rfl) (λ_=>by kernel_rfl) (λ_=>by kernel_rfl) fC Try.underlying107 (by unfold maxLen;omega) (fI (Cs _ (p6 (by omega))).1 (Cs _ (p6 (by omega))).2) (rfl) (Cn _ _) ?_
   refine af.nil (by kernel_rfl) (ah.aJ (ah.next (ai.region ?_)))
   refine af.aq (k':=2) (fr':=[(0,.map (some m)),(3,.map (some m1)),(13,.pointer (some ⟨r2,0,none⟩)),(41,.slice A2 (w2.length) (c2)),(42,.int .i64 ↑w2.length),(43,.int .i64 ↑(j+1))]) (ak:=[(Value.int .i64 (IntKind.wrap .i64 (((j:Nat):Int)+1)))=(.int .i64 ↑(j+1))]) [⟨[],none,none,none,some (.int .i64 ↑(j+1))⟩,o_] [0,3,13,41,42,43] (λ_ _=>by kernel_rfl) ⟨aP (by omega) (by omega) (by omega),trivial⟩ ?_
   refine af.nil (by kernel_rfl) ?_
   exact ah.turn ((j+1),((w2.getD j 0)::ku),(if (ff ku (w2.getD j 0)).isSome then jC else jC+1)) (idx:=[0,3,13,41,42,43]) (pk:=[0,1,2,3]) (show (((j+1))<=w2.length)/\(∀x,x∈(((w2.getD j 0)::ku))->Ends ps x)/\(((if (ff ku (w2.getD j 0)).isSome then jC else jC+1))<=fn+((j+1))) from ⟨by omega,λx hx=>(List.mem_cons.1 hx).elim (λe=>e ▸ Dj _ (p6 (by omega))) (Ct x),by split<;>omega⟩) (by show w2.length-((j+1))<w2.length-j;omega) (λ_=>by kernel_rfl) rfl (by kernel_rfl)
  refine ai.exit (ah.aH (ah.aH (ah.bg (ah.aJ ?_))))
  exact ah.turn ((λkl=>left kl && !kl.sameKey (.int .i64 z)),cnt',(some (.tuple #[.int .i64 (z),.int .i64 (y)])),ku,jC) (idx:=[0,3,13]) (pk:=[0,1,3]) (show (cnt'<=ps.length)/\(∀x y,up ps x=some y->((λkl=>left kl && !kl.sameKey (.int .i64 z))) (.int .i64 x)=false->Ends ps x)/\(∀x,x∈ku->Ends ps x)/\(jC<=(ps.length-cnt')*(ps.length+2)) from ⟨by omega,wV hdone hend,Ct,zH hfn DL (by omega) DK DJ⟩) (by show cnt'<cnt;omega) (λ_=>by kernel_rfl) rfl (by kernel_rfl)
 refine ai.seq (ai.region (af.mem (λw hS=>hS.fQ (e:=3) (size:=1)) ?_))
 refine af.aq (k':=2) (fr':=[(0,.map (some m)),(3,.map (some m1)),(5,.slice none (0) (0)),(6,.int .i64 (z)),(13,.pointer (some ⟨r2,0,none⟩))]) (ak:=[]) [o_,o_] [0,3,5,6,13] (λ_ _=>by kernel_rfl) trivial ?_
 refine af.nil (by kernel_rfl) (ah.next (ai.block ?_))
 refine ai.loop (ι:=Int×(List Int)×(Option Addr)×Nat) (λ((at_,w,Aw,cw):Int×(List Int)×(Option Addr)×Nat)=>(Way ps z w at_)/\(w.length<=ps.length)/\(∀x,x∈w->-9223372036854775808<=x/\x<=9223372036854775807)/\(-9223372036854775808<=at_/\at_<=9223372036854775807)) (λ((at_,w,Aw,cw):Int×(List Int)×(Option Addr)×Nat)=>ps.length+1-w.length) (λ((at_,w,Aw,cw):Int×(List Int)×(Option Addr)×Nat)=>[(0,.map (some m)),(3,.map (some m1)),(5,.slice Aw (w.length) (cw)),(6,.int .i64 (at_)),(13,.pointer (some ⟨r2,0,none⟩))]) (λ((at_,w,Aw,cw):Int×(List Int)×(Option Addr)×Nat)=>[.abs (eT Try.prog 3 m r2 (mf (pf ps)) ps.length (λkl=>left kl && !kl.sameKey (.int .i64 z)) cnt' (some (.tuple #[.int .i64 (z),.int .i64 (y)]))),.abs (aE Try.prog 3 m1 (mf (ff fs)) fn),.abs (av 3 1 Aw w.length cw (cq w)),.abs R]) (z,[],none,0) (idx:=[0,3,5,6,13]) (pk:=[0,1,3,2]) (show (Way ps z ([]) z)/\(([]).length<=ps.length)/\(∀x,x∈([])->-9223372036854775808<=x/\x<=9223372036854775807)/\(-9223372036854775808<=z/\z<=9223372036854775807) from ⟨.nil,Nat.zero_le _,λx hx=>(by cases hx),(hw z y hy).1⟩) (λ_=>by kernel_rfl) rfl (by kernel_rfl) ?_
 rintro⟨at_,w,Aw,cw⟩ ⟨rT,hwl,Cu,hab⟩
 show ai _ _ _ _ [(0,.map (some m)),(3,.map (some m1)),(5,.slice Aw (w.length) (cw)),(6,.int .i64 (at_)),(13,.pointer (some ⟨r2,0,none⟩))] [.abs (eT Try.prog 3 m r2 (mf (pf ps)) ps.length (λkl=>left kl && !kl.sameKey (.int .i64 z)) cnt' (some (.tuple #[.int .i64 (z),.int .i64 (y)]))),.abs (aE Try.prog 3 m1 (mf (ff fs)) fn),.abs (av 3 1 Aw w.length cw (cq w)),.abs R] _
 refine ai.seq (ai.seq (ai.region (af.aq (k':=2) (fr':=[(0,.map (some m)),(3,.map (some m1)),(5,.slice Aw (w.length) (cw)),(6,.int .i64 (at_)),(13,.pointer (some ⟨r2,0,none⟩)),(19,.map (some m1)),(20,.int .i64 (at_))]) (ak:=[]) [o_,o_] [0,3,5,6,13,19,20] (λ_ _=>by kernel_rfl) trivial ?_)))
 by_cases hfa:at_∈fs
 ·refine af.dO 1 (d:=(some 21)) (t:=107) (K:=3) (E:=3) (b:=m1) (n:=fn) (f:=(mf (ff fs))) (x:=(.tmp 19)) (ix:=(.tmp 20)) (key:=.int .i64 (at_)) (z:=.int .i64 0) (kl:=(.int .i64 at_)) (r:=(some (.int .i64 1))) (λ_=>by kernel_rfl) (by kernel_rfl) (λ_=>by kernel_rfl) (λ_=>by kernel_rfl) fC Try.underlying107 (λ_=>by kernel_rfl) (fI hab.1 hab.2) (if_pos hfa) ?_
  refine af.aq (k':=4) (fr':=[(0,.map (some m)),(3,.map (some m1)),(5,.slice Aw (w.length) (cw)),(6,.int .i64 (at_)),(13,.pointer (some ⟨r2,0,none⟩)),(22,.bool false)]) (ak:=[]) [o_] [0,3,5,6,13,22] (λ_ _=>by kernel_rfl) trivial ?_
  refine af.nil (by kernel_rfl) (ah.next ?_)
  refine ai.cU (λ_=>by kernel_rfl) ?_
  refine ai.exit (ah.aH (ah.aH (ah.bg ?_)))
  exact ah.meet (w,Aw,cw) (idx:=[0,3,5,13]) (pk:=[0,1,2,3]) (show (Ends ps z)/\(∀x,x∈w->Ends ps x)/\(w.length<=ps.length+1)/\(∀x,x∈w->-9223372036854775808<=x/\x<=9223372036854775807) from ⟨(rT.ends (hfs at_ hfa)).1,(rT.ends (hfs at_ hfa)).2,by omega,Cu⟩) (λ_=>by kernel_rfl) rfl (by kernel_rfl)
 refine af.dO 1 (d:=(some 21)) (t:=107) (K:=3) (E:=3) (b:=m1) (n:=fn) (f:=(mf (ff fs))) (x:=(.tmp 19)) (ix:=(.tmp 20)) (key:=.int .i64 (at_)) (z:=.int .i64 0) (kl:=(.int .i64 at_)) (r:=none) (λ_=>by kernel_rfl) (by kernel_rfl) (λ_=>by kernel_rfl) (λ_=>by kernel_rfl) fC Try.underlying107 (λ_=>by kernel_rfl) (fI hab.1 hab.2) (if_neg hfa) ?_
 refine af.aq (k':=4) (fr':=[(0,.map (some m)),(3,.map (some m1)),(5,.slice Aw (w.length) (cw)),(6,.int .i64 (at_)),(13,.pointer (some ⟨r2,0,none⟩)),(22,.bool true)]) (ak:=[]) [o_] [0,3,5,6,13,22] (λ_ _=>by kernel_rfl) trivial ?_
 refine af.nil (by kernel_rfl) (ah.next ?_)
 refine ai.bL (λ_=>by kernel_rfl) ?_
 refine ai.skip (ah.next (ai.block (ai.seq (ai.region ?_))))
 refine af.bD (k':=3) (fr':=λb3=>[(0,.map (some m)),(3,.map (some m1)),(6,.int .i64 (at_)),(13,.pointer (some ⟨r2,0,none⟩)),(23,.slice Aw (w.length) (cw)),(25,.slice (some ⟨b3,0,none⟩) (1) (1))]) (aL:=λb3=>[.abs (eT Try.prog 3 m r2 (mf (pf ps)) ps.length (λkl=>left kl && !kl.sameKey (.int .i64 z)) cnt' (some (.tuple #[.int .i64 (z),.int .i64 (y)]))),.abs (aE Try.prog 3 m1 (mf (ff fs)) fn),.abs (av 3 1 Aw w.length cw (cq w)),.abs R,.blk b3 [.int .i64 (at_)] 3]) (ak:=λb3=>[]) [o_,o_,o_] [0,3,6,13,23,25] [0,1,2,3,4] (λ_ _=>by kernel_rfl) (λb3=>trivial) (λb3=>?_)
 refine af.append 2 (d:=(some 26)) (t:=60) (e:=3) (z:=.int .i64 0) (size:=1) (bytes:=8) (n:=w.length) (cap:=cw) (A:=Aw) (xs:=(cq w)) (s:=(.tmp 23)) (x:=(.tmp 25)) (ats:=#[60,60]) (A':=some ⟨b3,0,none⟩) (m:=1) (c':=1) (news:=[.int .i64 (at_)]) (λ_=>by kernel_rfl) rfl (by kernel_rfl) (λ_=>by kernel_rfl) (λ_=>by kernel_rfl) Try.underlying60 (by kernel_rfl) rfl (by decide) (by simp) (by simp [Value.oneCell']) (dS (j:=4) rfl) (by unfold maxLen;omega) (by omega) (λA4 c5=>?_)
 refine af.aZ 2 (p:=.abs (av 3 1 A4 (w.length+1) c5 ((cq w)++[.int .i64 (at_)]))) (p':=.abs (av 3 1 A4 ((w++[at_]).length) c5 (cq (w++[at_])))) (by kernel_rfl) (by simp [cq]) ?_
 refine af.slot 26 (.slice A4 (w.length+1) (c5)) (.slice A4 ((w++[at_]).length) (c5)) (λ_=>by kernel_rfl) (by simp) ?_
 refine af.aq (k':=5) (fr':=[(0,.map (some m)),(3,.map (some m1)),(5,.slice A4 ((w++[at_]).length) (c5)),(6,.int .i64 (at_)),(13,.pointer (some ⟨r2,0,none⟩))]) (ak:=[]) [o_] [0,3,5,6,13] (λ_ _=>by kernel_rfl) trivial ?_
 refine af.nil (by kernel_rfl) (ah.next (ai.seq (ai.region ?_)))
 refine af.aq (k':=2) (fr':=[(0,.map (some m)),(3,.map (some m1)),(5,.slice A4 ((w++[at_]).length) (c5)),(13,.pointer (some ⟨r2,0,none⟩)),(28,.map (some m)),(29,.int .i64 (at_))]) (ak:=[]) [o_,o_] [0,3,5,13,28,29] (λ_ _=>by kernel_rfl) trivial ?_
 rcases hup:up ps at_ with _|y2
 ·refine af.pF 0 (d:=(some 30)) (t:=107) (K:=3) (E:=3) (b:=m) (n:=ps.length) (f:=(mf (pf ps))) (r:=r2) (left:=(λkl=>left kl && !kl.sameKey (.int .i64 z))) (cnt:=cnt') (last:=(some (.tuple #[.int .i64 (z),.int .i64 (y)]))) (x:=(.tmp 28)) (ix:=(.tmp 29)) (key:=.int .i64 (at_)) (z:=.int .i64 0) (kl:=(.int .i64 at_)) (u:=none) (λ_=>by kernel_rfl) (by kernel_rfl) (λ_=>by kernel_rfl) (λ_=>by kernel_rfl) fC Try.underlying107 (λ_=>by kernel_rfl) (fI hab.1 hab.2) (nH hup) ?_
  refine af.aq (k':=8) (fr':=[(0,.map (some m)),(3,.map (some m1)),(5,.slice A4 ((w++[at_]).length) (c5)),(7,.int .i64 0),(8,.bool false),(13,.pointer (some ⟨r2,0,none⟩))]) (ak:=[]) [o_,o_,o_,o_,o_] [0,3,5,7,8,13] (λ_ _=>by kernel_rfl) trivial ?_
  refine af.nil (by kernel_rfl) (ah.next (ai.seq (ai.seq (ai.region ?_))))
  refine af.aq (k':=2) (fr':=[(0,.map (some m)),(3,.map (some m1)),(5,.slice A4 ((w++[at_]).length) (c5)),(7,.int .i64 0),(13,.pointer (some ⟨r2,0,none⟩)),(34,.bool true)]) (ak:=[]) [o_,o_] [0,3,5,7,13,34] (λ_ _=>by kernel_rfl) trivial ?_
  refine af.nil (by kernel_rfl) (ah.next ?_)
  refine ai.bL (λ_=>by kernel_rfl) ?_
  refine ai.exit (ah.aH (ah.xZ (by decide) (ah.aH (ah.bg ?_))))
  exact ah.meet ((w++[at_]),A4,c5) (idx:=[0,3,5,13]) (pk:=[0,1,2,3]) (show (Ends ps z)/\(∀x,x∈((w++[at_]))->Ends ps x)/\(((w++[at_])).length<=ps.length+1)/\(∀x,x∈((w++[at_]))->-9223372036854775808<=x/\x<=9223372036854775807) from ⟨(ux rT hup).1,(ux rT hup).2,by simp;omega,wC Cu hab⟩) (λ_=>by kernel_rfl) rfl (by kernel_rfl)
 refine af.pF 0 (d:=(some 30)) (t:=107) (K:=3) (E:=3) (b:=m) (n:=ps.length) (f:=(mf (pf ps))) (r:=r2) (left:=(λkl=>left kl && !kl.sameKey (.int .i64 z))) (cnt:=cnt') (last:=(some (.tuple #[.int .i64 (z),.int .i64 (y)]))) (x:=(.tmp 28)) (ix:=(.tmp 29)) (key:=.int .i64 (at_)) (z:=.int .i64 0) (kl:=(.int .i64 at_)) (u:=(some (.int .i64 y2))) (λ_=>by kernel_rfl) (by kernel_rfl) (λ_=>by kernel_rfl) (λ_=>by kernel_rfl) fC Try.underlying107 (λ_=>by kernel_rfl) (fI hab.1 hab.2) (AR hup) ?_
 refine af.aq (k':=8) (fr':=[(0,.map (some m)),(3,.map (some m1)),(5,.slice A4 ((w++[at_]).length) (c5)),(7,.int .i64 (y2)),(8,.bool true),(13,.pointer (some ⟨r2,0,none⟩))]) (ak:=[]) [o_,o_,o_,o_,o_] [0,3,5,7,8,13] (λ_ _=>by kernel_rfl) trivial ?_
 refine af.nil (by kernel_rfl) (ah.next (ai.seq (ai.seq (ai.region ?_))))
 refine af.aq (k':=2) (fr':=[(0,.map (some m)),(3,.map (some m1)),(5,.slice A4 ((w++[at_]).length) (c5)),(7,.int .i64 (y2)),(13,.pointer (some ⟨r2,0,none⟩)),(34,.bool false)]) (ak:=[]) [o_,o_] [0,3,5,7,13,34] (λ_ _=>by kernel_rfl) trivial ?_
 refine af.nil (by kernel_rfl) (ah.next ?_)
 refine ai.cU (λ_=>by kernel_rfl) ?_
 refine ai.skip (ah.next (ai.seq (ai.seq (ai.region ?_))))
 refine af.aq (k':=3) (fr':=[(0,.map (some m)),(3,.map (some m1)),(5,.slice A4 ((w++[at_]).length) (c5)),(7,.int .i64 (y2)),(13,.pointer (some ⟨r2,0,none⟩)),(36,.int .i64 ↑((w++[at_]).length)),(37,.map (some m))]) (ak:=[]) [o_,o_,o_] [0,3,5,7,13,36,37] (λ_ _=>by kernel_rfl) trivial ?_
 refine af.zB 0 (d:=(some 38)) (t:=107) (K:=3) (E:=3) (b:=m) (n:=ps.length) (f:=(mf (pf ps))) (r:=r2) (left:=(λkl=>left kl && !kl.sameKey (.int .i64 z))) (cnt:=cnt') (last:=(some (.tuple #[.int .i64 (z),.int .i64 (y)]))) (x:=(.tmp 37)) (ats:=#[107]) (λ_=>by kernel_rfl) (by kernel_rfl) (λ_=>by kernel_rfl) rfl Try.underlying107 ?_
 refine af.aq (k':=5) (fr':=[(0,.map (some m)),(3,.map (some m1)),(5,.slice A4 ((w++[at_]).length) (c5)),(7,.int .i64 (y2)),(13,.pointer (some ⟨r2,0,none⟩)),(39,.bool (decide (((((w++[at_]).length:Nat):Int):Int)>(((ps.length:Nat):Int):Int))))]) (ak:=[]) [o_] [0,3,5,7,13,39] (λ_ _=>by kernel_rfl) trivial ?_
 refine af.nil (by kernel_rfl) (ah.next ?_)
 refine ai.aV (p:=((((w++[at_]).length:Nat):Int):Int)>(((ps.length:Nat):Int):Int)) (λ_=>by kernel_rfl) (λjA=>?_) (λjA=>?_)
 ·refine ai.seq (ai.region (af.aq (k':=1) (fr':=[(2,.bool false)]) (ak:=[]) [o_] [2] (λ_ _=>by kernel_rfl) trivial ?_))
  refine af.nil (by kernel_rfl) (ah.next (ai.ret (ah.ay (ah.aG (ah.ay (ah.aG (ah.ay (ah.aG (ah.ay (ah.aG (ah.ay ?_)))))))))))
  exact ah.ret (v:=.bool false) (l:=[]) (ak:=[]) [] [3] (λ_=>by kernel_rfl) trivial rfl (by kernel_rfl) (⟨congrArg Value.bool (decide_eq_false (p:=mQ ps) (λhall=>(rT.snoc hup).never (by simp at jA ⊢;omega) (hall z))).symm,rfl⟩)
 refine ai.skip (ah.next (ai.region ?_))
 refine af.aq (k':=2) (fr':=[(0,.map (some m)),(3,.map (some m1)),(5,.slice A4 ((w++[at_]).length) (c5)),(6,.int .i64 (y2)),(13,.pointer (some ⟨r2,0,none⟩))]) (ak:=[]) [o_,o_] [0,3,5,6,13] (λ_ _=>by kernel_rfl) trivial ?_
 refine af.nil (by kernel_rfl) (ah.aJ ?_)
 exact ah.turn (y2,(w++[at_]),A4,c5) (idx:=[0,3,5,6,13]) (pk:=[0,1,2,3]) (show (Way ps z ((w++[at_])) y2)/\(((w++[at_])).length<=ps.length)/\(∀x,x∈((w++[at_]))->-9223372036854775808<=x/\x<=9223372036854775807)/\(-9223372036854775808<=y2/\y2<=9223372036854775807) from ⟨rT.snoc hup,by simp at jA ⊢;omega,wC Cu hab,(hw at_ y2 hup).2⟩) (by show ps.length+1-((w++[at_])).length<ps.length+1-w.length;simp;omega) (λ_=>by kernel_rfl) rfl (by kernel_rfl)
end
section
open Go.RowKit
attribute [local irreducible] af aN ai ah
theorem lE {β:Bs} (a b c:Int) :
 Spec Try.prog β 69 #[.int .i64 (a),.int .i64 (b),.int .i64 (c)] [] (λv l=>v=.bool (decide (Within a b c))/\l=[]):=by
 refine Spec.enter Try.func69 rfl Try.ntmps69 (Nat.le_of_ble_eq_true rfl) (λR=>?_)
 refine ai.seq (ai.region (af.aq (k':=1) (fr':=[(0,.int .i64 (a)),(1,.int .i64 (b)),(2,.int .i64 (c))]) (ak:=[]) [o_] [0,1,2] (λ_ _=>by kernel_rfl) trivial ?_))
 refine af.nil (by kernel_rfl) (ah.next (ai.seq (ai.region ?_)))
 refine af.aq (k':=4) (fr':=[(0,.int .i64 (a)),(2,.int .i64 (c)),(10,.bool (decide ((a:Int)>=(b:Int))))]) (ak:=[]) [o_,o_,o_,o_] [0,2,10] (λ_ _=>by kernel_rfl) trivial ?_
 refine af.bO 10 ((a:Int)>=(b:Int)) (λ_=>by kernel_rfl) (λh10=>?_) (λh10=>?_)
 ·refine af.aq (k':=9) (fr':=[(6,.bool (decide ((a:Int)<=(c:Int))))]) (ak:=[]) [o_,o_,o_,o_,o_] [6] (λ_ _=>by kernel_rfl) trivial ?_
  refine af.nil (by kernel_rfl) (ah.next (ai.ret ?_))
  exact ah.ret (v:=.bool (decide ((a:Int)<=(c:Int)))) (l:=[]) (ak:=[]) [] [0] (λ_=>by kernel_rfl) trivial rfl (by kernel_rfl) (⟨congrArg Value.bool (decide_eq_decide.2 (by unfold Within;omega)),rfl⟩)
 refine af.aq (k':=9) (fr':=[(6,.bool false)]) (ak:=[]) [o_,o_,o_,o_,o_] [6] (λ_ _=>by kernel_rfl) trivial ?_
 refine af.nil (by kernel_rfl) (ah.next (ai.ret ?_))
 exact ah.ret (v:=.bool false) (l:=[]) (ak:=[]) [] [0] (λ_=>by kernel_rfl) trivial rfl (by kernel_rfl) (⟨congrArg Value.bool (decide_eq_false (by unfold Within;omega)).symm,rfl⟩)
theorem iT {β:Bs} (s n:Int) :
 Spec Try.prog β 70 #[.agg #[.int .i64 (s),.int .i64 (n)]] [] (λv l=>v=.bool (decide (dU s n))/\l=[]):=by
 refine Spec.enter Try.func70 rfl Try.ntmps70 (Nat.le_of_ble_eq_true rfl) (λR=>?_)
 refine ai.seq (ai.region (af.bD (k':=2) (fr':=λb1=>[(1,.pointer (some ⟨b1,0,none⟩))]) (aL:=λb1=>[.abs R,.blk b1 [.int .i64 (s),.int .i64 (n)] 28]) (ak:=λb1=>[]) [o_,o_] [1] [0,1] (λ_ _=>by kernel_rfl) (λb1=>trivial) (λb1=>?_)))
 refine af.nil (by kernel_rfl) (ah.next (ai.seq (ai.seq (ai.region ?_))))
 refine af.aq (k':=4) (fr':=[(1,.pointer (some ⟨b1,0,none⟩)),(6,.bool (decide ((n:Int)<(0:Int))))]) (ak:=[b1=b1]) [o_,⟨[.at 1],none,none,none,none⟩,o_,o_] [1,6] (λ_ _=>by kernel_rfl) ⟨rfl,trivial⟩ ?_
 refine af.bO 6 ((n:Int)<(0:Int)) (λ_=>by kernel_rfl) (λh6=>?_) (λh6=>?_)
 ·refine af.aq (k':=8) (fr':=[(1,.pointer (some ⟨b1,0,none⟩)),(10,.bool true)]) (ak:=[]) [o_,o_,o_,o_] [1,10] (λ_ _=>by kernel_rfl) trivial ?_
  refine af.nil (by kernel_rfl) (ah.next ?_)
  refine ai.bL (λ_=>by kernel_rfl) ?_
  refine ai.seq (ai.region (af.aq (k':=1) (fr':=[(2,.bool false)]) (ak:=[]) [o_] [2] (λ_ _=>by kernel_rfl) trivial ?_))
  refine af.nil (by kernel_rfl) (ah.next (ai.ret (ah.ay ?_)))
  exact ah.ret (v:=.bool false) (l:=[]) (ak:=[]) [] [0] (λ_=>by kernel_rfl) trivial rfl (by kernel_rfl) (⟨congrArg Value.bool (decide_eq_false (by unfold dU;omega)).symm,rfl⟩)
 refine af.aq (k':=8) (fr':=[(1,.pointer (some ⟨b1,0,none⟩)),(10,.bool (decide ((n:Int)>=(1000000000:Int))))]) (ak:=[b1=b1]) [o_,⟨[.at 1],none,none,none,none⟩,o_,o_] [1,10] (λ_ _=>by kernel_rfl) ⟨rfl,trivial⟩ ?_
 refine af.nil (by kernel_rfl) (ah.next ?_)
 refine ai.aV (p:=(n:Int)>=(1000000000:Int)) (λ_=>by kernel_rfl) (λh10=>?_) (λh10=>?_)
 ·refine ai.seq (ai.region (af.aq (k':=1) (fr':=[(2,.bool false)]) (ak:=[]) [o_] [2] (λ_ _=>by kernel_rfl) trivial ?_))
  refine af.nil (by kernel_rfl) (ah.next (ai.ret (ah.ay ?_)))
  exact ah.ret (v:=.bool false) (l:=[]) (ak:=[]) [] [0] (λ_=>by kernel_rfl) trivial rfl (by kernel_rfl) (⟨congrArg Value.bool (decide_eq_false (by unfold dU;omega)).symm,rfl⟩)
 refine ai.skip (ah.next (ai.seq (ai.seq (ai.region ?_))))
 refine af.aq (k':=3) (fr':=[(1,.pointer (some ⟨b1,0,none⟩)),(13,.bool (decide ((s:Int)=((-1099511627777):Int))))]) (ak:=[b1=b1]) [o_,⟨[.at 1],none,none,none,none⟩,o_] [1,13] (λ_ _=>by kernel_rfl) ⟨rfl,trivial⟩ ?_
 refine af.nil (by kernel_rfl) (ah.next ?_)
 refine ai.aV (p:=(s:Int)=((-1099511627777):Int)) (λ_=>by kernel_rfl) (λCv=>?_) (λCv=>?_)
 ·refine ai.seq (ai.region (af.aq (k':=4) (fr':=[(2,.bool (decide ((n:Int)>(0:Int))))]) (ak:=[b1=b1]) [o_,⟨[.at 1],none,none,none,none⟩,o_,o_] [2] (λ_ _=>by kernel_rfl) ⟨rfl,trivial⟩ ?_))
  refine af.nil (by kernel_rfl) (ah.next (ai.ret (ah.ay ?_)))
  exact ah.ret (v:=.bool (decide ((n:Int)>(0:Int)))) (l:=[]) (ak:=[]) [] [0] (λ_=>by kernel_rfl) trivial rfl (by kernel_rfl) (⟨congrArg Value.bool (decide_eq_decide.2 (by unfold dU;omega)),rfl⟩)
 refine ai.skip (ah.next (ai.seq (ai.region ?_)))
 refine af.aq (k':=4) (fr':=[(1,.pointer (some ⟨b1,0,none⟩)),(20,.bool (decide ((s:Int)>((-1099511627777):Int))))]) (ak:=[b1=b1]) [o_,⟨[.at 1],none,none,none,none⟩,o_,o_] [1,20] (λ_ _=>by kernel_rfl) ⟨rfl,trivial⟩ ?_
 refine af.bO 20 ((s:Int)>((-1099511627777):Int)) (λ_=>by kernel_rfl) (λyE=>?_) (λyE=>?_)
 ·refine af.aq (k':=9) (fr':=[(2,.bool (decide ((s:Int)<=(1099511627776:Int))))]) (ak:=[b1=b1]) [o_,⟨[.at 1],none,none,none,none⟩,o_,o_,o_] [2] (λ_ _=>by kernel_rfl) ⟨rfl,trivial⟩ ?_
  refine af.nil (by kernel_rfl) (ah.next (ai.ret ?_))
  exact ah.ret (v:=.bool (decide ((s:Int)<=(1099511627776:Int)))) (l:=[]) (ak:=[]) [] [0] (λ_=>by kernel_rfl) trivial rfl (by kernel_rfl) (⟨congrArg Value.bool (decide_eq_decide.2 (by unfold dU;omega)),rfl⟩)
 refine af.aq (k':=9) (fr':=[(2,.bool false)]) (ak:=[]) [o_,o_,o_,o_,o_] [2] (λ_ _=>by kernel_rfl) trivial ?_
 refine af.nil (by kernel_rfl) (ah.next (ai.ret ?_))
 exact ah.ret (v:=.bool false) (l:=[]) (ak:=[]) [] [0] (λ_=>by kernel_rfl) trivial rfl (by kernel_rfl) (⟨congrArg Value.bool (decide_eq_false (by unfold dU;omega)).symm,rfl⟩)
theorem vO {β:Bs} (s n:Int) :
 Spec Try.prog β 61 #[.agg #[.int .i64 (s),.int .i64 (n)]] [] (λv l=>v=.bool (decide (dU s n))/\l=[]):=by
 refine Spec.enter Try.func61 rfl Try.ntmps61 (Nat.le_of_ble_eq_true rfl) (λR=>?_)
 refine ai.seq (ai.region (af.bD (k':=2) (fr':=λb2=>[(1,.pointer (some ⟨b2,0,none⟩))]) (aL:=λb2=>[.abs R,.blk b2 [.int .i64 (s),.int .i64 (n)] 28]) (ak:=λb2=>[]) [o_,o_] [1] [0,1] (λ_ _=>by kernel_rfl) (λb2=>trivial) (λb2=>?_)))
 refine af.nil (by kernel_rfl) (ah.next (ai.seq (ai.seq (ai.region ?_))))
 refine af.aq (k':=4) (fr':=[(1,.pointer (some ⟨b2,0,none⟩)),(6,.bool (decide ((n:Int)<(0:Int))))]) (ak:=[b2=b2]) [o_,⟨[.at 1],none,none,none,none⟩,o_,o_] [1,6] (λ_ _=>by kernel_rfl) ⟨rfl,trivial⟩ ?_
 refine af.bO 6 ((n:Int)<(0:Int)) (λ_=>by kernel_rfl) (λh6=>?_) (λh6=>?_)
 ·refine af.aq (k':=18) (fr':=[(1,.pointer (some ⟨b2,0,none⟩)),(20,.bool true)]) (ak:=[]) [o_,o_,o_,o_,o_,o_,o_,o_,o_,o_,o_,o_,o_,o_] [1,20] (λ_ _=>by kernel_rfl) trivial ?_
  refine af.nil (by kernel_rfl) (ah.next ?_)
  refine ai.bL (λ_=>by kernel_rfl) ?_
  refine ai.seq (ai.region (af.aq (k':=1) (fr':=[(2,.bool false)]) (ak:=[]) [o_] [2] (λ_ _=>by kernel_rfl) trivial ?_))
  refine af.nil (by kernel_rfl) (ah.next (ai.ret (ah.ay ?_)))
  exact ah.ret (v:=.bool false) (l:=[]) (ak:=[]) [] [0] (λ_=>by kernel_rfl) trivial rfl (by kernel_rfl) (⟨congrArg Value.bool (decide_eq_false (by unfold dU;omega)).symm,rfl⟩)
 refine af.aq (k':=9) (fr':=[(1,.pointer (some ⟨b2,0,none⟩)),(11,.bool (decide ((n:Int)>=(1000000000:Int))))]) (ak:=[b2=b2]) [o_,⟨[.at 1],none,none,none,none⟩,o_,o_,o_] [1,11] (λ_ _=>by kernel_rfl) ⟨rfl,trivial⟩ ?_
 refine af.bO 11 ((n:Int)>=(1000000000:Int)) (λ_=>by kernel_rfl) (λh11=>?_) (λh11=>?_)
 ·refine af.aq (k':=18) (fr':=[(1,.pointer (some ⟨b2,0,none⟩)),(20,.bool true)]) (ak:=[]) [o_,o_,o_,o_,o_,o_,o_,o_,o_] [1,20] (λ_ _=>by kernel_rfl) trivial ?_
  refine af.nil (by kernel_rfl) (ah.next ?_)
  refine ai.bL (λ_=>by kernel_rfl) ?_
  refine ai.seq (ai.region (af.aq (k':=1) (fr':=[(2,.bool false)]) (ak:=[]) [o_] [2] (λ_ _=>by kernel_rfl) trivial ?_))
  refine af.nil (by kernel_rfl) (ah.next (ai.ret (ah.ay ?_)))
  exact ah.ret (v:=.bool false) (l:=[]) (ak:=[]) [] [0] (λ_=>by kernel_rfl) trivial rfl (by kernel_rfl) (⟨congrArg Value.bool (decide_eq_false (by unfold dU;omega)).symm,rfl⟩)
 refine af.aq (k':=14) (fr':=[(1,.pointer (some ⟨b2,0,none⟩)),(16,.bool (decide ((s:Int)>(1099511627776:Int))))]) (ak:=[b2=b2]) [o_,⟨[.at 1],none,none,none,none⟩,o_,o_,o_] [1,16] (λ_ _=>by kernel_rfl) ⟨rfl,trivial⟩ ?_
 refine af.bO 16 ((s:Int)>(1099511627776:Int)) (λ_=>by kernel_rfl) (λEf=>?_) (λEf=>?_)
 ·refine af.aq (k':=18) (fr':=[(1,.pointer (some ⟨b2,0,none⟩)),(20,.bool true)]) (ak:=[]) [o_,o_,o_,o_] [1,20] (λ_ _=>by kernel_rfl) trivial ?_
  refine af.nil (by kernel_rfl) (ah.next ?_)
  refine ai.bL (λ_=>by kernel_rfl) ?_
  refine ai.seq (ai.region (af.aq (k':=1) (fr':=[(2,.bool false)]) (ak:=[]) [o_] [2] (λ_ _=>by kernel_rfl) trivial ?_))
  refine af.nil (by kernel_rfl) (ah.next (ai.ret (ah.ay ?_)))
  exact ah.ret (v:=.bool false) (l:=[]) (ak:=[]) [] [0] (λ_=>by kernel_rfl) trivial rfl (by kernel_rfl) (⟨congrArg Value.bool (decide_eq_false (by unfold dU;omega)).symm,rfl⟩)
 refine af.aq (k':=18) (fr':=[(1,.pointer (some ⟨b2,0,none⟩)),(20,.bool (decide ((s:Int)<((-1099511627777):Int))))]) (ak:=[b2=b2]) [o_,⟨[.at 1],none,none,none,none⟩,o_,o_] [1,20] (λ_ _=>by kernel_rfl) ⟨rfl,trivial⟩ ?_
 refine af.nil (by kernel_rfl) (ah.next ?_)
 refine ai.aV (p:=(s:Int)<((-1099511627777):Int)) (λ_=>by kernel_rfl) (λyE=>?_) (λyE=>?_)
 ·refine ai.seq (ai.region (af.aq (k':=1) (fr':=[(2,.bool false)]) (ak:=[]) [o_] [2] (λ_ _=>by kernel_rfl) trivial ?_))
  refine af.nil (by kernel_rfl) (ah.next (ai.ret (ah.ay ?_)))
  exact ah.ret (v:=.bool false) (l:=[]) (ak:=[]) [] [0] (λ_=>by kernel_rfl) trivial rfl (by kernel_rfl) (⟨congrArg Value.bool (decide_eq_false (by unfold dU;omega)).symm,rfl⟩)
 refine ai.skip (ah.next (ai.seq (ai.region ?_)))
 refine af.aq (k':=4) (fr':=[(1,.pointer (some ⟨b2,0,none⟩)),(24,.bool (!(decide ((s:Int)=((-1099511627777):Int)))))]) (ak:=[b2=b2]) [o_,⟨[.at 1],none,none,none,none⟩,o_,o_] [1,24] (λ_ _=>by kernel_rfl) ⟨rfl,trivial⟩ ?_
 refine af.eO 24 ((s:Int)=((-1099511627777):Int)) (λ_=>by kernel_rfl) (λlF=>?_) (λlF=>?_)
 ·refine af.aq (k':=9) (fr':=[(2,.bool true)]) (ak:=[]) [o_,o_,o_,o_,o_] [2] (λ_ _=>by kernel_rfl) trivial ?_
  refine af.nil (by kernel_rfl) (ah.next (ai.ret ?_))
  exact ah.ret (v:=.bool true) (l:=[]) (ak:=[]) [] [0] (λ_=>by kernel_rfl) trivial rfl (by kernel_rfl) (⟨congrArg Value.bool (decide_eq_true (by unfold dU;omega)).symm,rfl⟩)
 refine af.aq (k':=9) (fr':=[(2,.bool (!(decide ((n:Int)=(0:Int)))))]) (ak:=[b2=b2]) [o_,⟨[.at 1],none,none,none,none⟩,o_,o_,o_] [2] (λ_ _=>by kernel_rfl) ⟨rfl,trivial⟩ ?_
 refine af.nil (by kernel_rfl) (ah.next (ai.ret ?_))
 exact ah.ret (v:=.bool (!(decide ((n:Int)=(0:Int))))) (l:=[]) (ak:=[]) [] [0] (λ_=>by kernel_rfl) trivial rfl (by kernel_rfl) (⟨congrArg Value.bool (oz (by unfold dU;omega)),rfl⟩)
theorem wW {β:Bs} (s:ByteArray) (hl:s.size<=1048576) :
 Spec Try.prog β 40 #[.string s] [] (λv l=>v=.bool (decide (cZ s))/\l=[]):=by
 refine Spec.enter Try.func40 rfl Try.ntmps40 (Nat.le_of_ble_eq_true rfl) (λR=>?_)
 refine ai.seq (ai.region (af.aq (k':=1) (fr':=[(0,.string s)]) (ak:=[]) [o_] [0] (λ_ _=>by kernel_rfl) trivial ?_))
 refine af.nil (by kernel_rfl) (ah.next (ai.seq (ai.seq (ai.region ?_))))
 refine af.aq (k':=1) (fr':=[(0,.string s),(3,.int .i64 0)]) (ak:=[]) [o_] [0,3] (λ_ _=>by kernel_rfl) trivial ?_
 refine af.nil (by kernel_rfl) (ah.next (ai.block ?_))
 refine ai.loop (ι:=Nat) (λ(i:Nat)=>(i<=s.size)/\(∀j,j<i->¬aW s j=0/\¬aW s j=47)) (λ(i:Nat)=>s.size-i) (λ(i:Nat)=>[(0,.string s),(3,.int .i64 ↑i)]) (λ(i:Nat)=>[.abs R]) 0 (idx:=[0,3]) (pk:=[0]) (show (0<=s.size)/\(∀j,j<0->¬aW s j=0/\¬aW s j=47) from ⟨Nat.zero_le _,λj hj=>absurd hj (Nat.not_lt_zero j)⟩) (λ_=>by kernel_rfl) rfl (by kernel_rfl) ?_
 rintro i ⟨hi,hall⟩
 show ai _ _ _ _ [(0,.string s),(3,.int .i64 ↑i)] [.abs R] _
 refine ai.seq (ai.seq (ai.region (af.aq (k':=4) (fr':=[(0,.string s),(3,.int .i64 ↑i),(7,.bool (decide ((((i:Nat):Int):Int)<((((s:ByteArray).size:Nat):Int):Int))))]) (ak:=[]) [o_,o_,o_,o_] [0,3,7] (λ_ _=>by kernel_rfl) trivial ?_)))
 refine af.nil (by kernel_rfl) (ah.next ?_)
 refine ai.aV (p:=(((i:Nat):Int):Int)<((((s:ByteArray).size:Nat):Int):Int)) (λ_=>by kernel_rfl) (λh7=>?_) (λh7=>?_)
 ·refine ai.skip (ah.next (ai.seq (ai.block (ai.seq (ai.region ?_)))))
  refine af.aq (k':=5) (fr':=[(0,.string s),(3,.int .i64 ↑i),(14,.bool (decide ((((((s:ByteArray).data.getD (i) 0).toNat:Nat):Int):Int)=(0:Int))))]) (ak:=[((i:Nat):Int)=((i:Nat):Int),i<(s:ByteArray).size]) [o_,o_,⟨[],some i,none,none,none⟩,o_,o_] [0,3,14] (λ_ _=>by kernel_rfl) ⟨rfl,by omega,trivial⟩ ?_
  refine af.bO 14 ((((((s:ByteArray).data.getD (i) 0).toNat:Nat):Int):Int)=(0:Int)) (λ_=>by kernel_rfl) (λkr=>?_) (λkr=>?_)
  ·refine af.aq (k':=10) (fr':=[(0,.string s),(3,.int .i64 ↑i),(19,.bool true)]) (ak:=[]) [o_,o_,o_,o_,o_] [0,3,19] (λ_ _=>by kernel_rfl) trivial ?_
   refine af.nil (by kernel_rfl) (ah.next ?_)
   refine ai.bL (λ_=>by kernel_rfl) ?_
   refine ai.seq (ai.region (af.aq (k':=1) (fr':=[(2,.bool false)]) (ak:=[]) [o_] [2] (λ_ _=>by kernel_rfl) trivial ?_))
   refine af.nil (by kernel_rfl) (ah.next (ai.ret (ah.aG (ah.ay (ah.ay (ah.aG (ah.ay ?_)))))))
   exact ah.ret (v:=.bool false) (l:=[]) (ak:=[]) [] [0] (λ_=>by kernel_rfl) trivial rfl (by kernel_rfl) (⟨congrArg Value.bool (decide_eq_false (by intro g;have:=g.2.2.2.2 i (by omega);unfold aW at this;omega)).symm,rfl⟩)
  refine af.aq (k':=10) (fr':=[(0,.string s),(3,.int .i64 ↑i),(19,.bool (decide ((((((s:ByteArray).data.getD (i) 0).toNat:Nat):Int):Int)=(47:Int))))]) (ak:=[((i:Nat):Int)=((i:Nat):Int),i<(s:ByteArray).size]) [o_,o_,⟨[],some i,none,none,none⟩,o_,o_] [0,3,19] (λ_ _=>by kernel_rfl) ⟨rfl,by omega,trivial⟩ ?_
  refine af.nil (by kernel_rfl) (ah.next ?_)
  refine ai.aV (p:=(((((s:ByteArray).data.getD (i) 0).toNat:Nat):Int):Int)=(47:Int)) (λ_=>by kernel_rfl) (λCw=>?_) (λCw=>?_)
  ·refine ai.seq (ai.region (af.aq (k':=1) (fr':=[(2,.bool false)]) (ak:=[]) [o_] [2] (λ_ _=>by kernel_rfl) trivial ?_))
   refine af.nil (by kernel_rfl) (ah.next (ai.ret (ah.aG (ah.ay (ah.ay (ah.aG (ah.ay ?_)))))))
   exact ah.ret (v:=.bool false) (l:=[]) (ak:=[]) [] [0] (λ_=>by kernel_rfl) trivial rfl (by kernel_rfl) (⟨congrArg Value.bool (decide_eq_false (by intro g;have:=g.2.2.2.2 i (by omega);unfold aW at this;omega)).symm,rfl⟩)
  refine ai.skip (ah.aJ (ah.next (ai.region ?_)))
  refine af.aq (k':=3) (fr':=[(0,.string s),(3,.int .i64 ↑(i+1))]) (ak:=[(Value.int .i64 (IntKind.wrap .i64 (((i:Nat):Int)+1)))=(.int .i64 ↑(i+1))]) [o_,⟨[],none,none,none,some (.int .i64 ↑(i+1))⟩,o_] [0,3] (λ_ _=>by kernel_rfl) ⟨aP (by omega) (by omega) (by omega),trivial⟩ ?_
  refine af.nil (by kernel_rfl) ?_
  exact ah.turn ((i+1)) (idx:=[0,3]) (pk:=[0]) (show (((i+1))<=s.size)/\(∀j,j<((i+1))->¬aW s j=0/\¬aW s j=47) from ⟨by omega,λj hj=>by rcases Nat.lt_succ_iff_lt_or_eq.1 hj with h|h;exact hall j h;subst h;unfold aW;omega⟩) (by show s.size-((i+1))<s.size-i;omega) (λ_=>by kernel_rfl) rfl (by kernel_rfl)
 refine ai.exit (ah.aH (ah.aH (ah.bg (ah.next (ai.seq (ai.region ?_))))))
 refine af.aq (k':=4) (fr':=[(0,.string s),(23,.bool (decide (((((s:ByteArray).size:Nat):Int):Int)>=(1:Int))))]) (ak:=[]) [o_,o_,o_,o_] [0,23] (λ_ _=>by kernel_rfl) trivial ?_
 refine af.bO 23 (((((s:ByteArray).size:Nat):Int):Int)>=(1:Int)) (λ_=>by kernel_rfl) (λh23=>?_) (λh23=>?_)
 ·refine af.aq (k':=9) (fr':=[(0,.string s),(28,.bool (decide (((((s:ByteArray).size:Nat):Int):Int)<=(255:Int))))]) (ak:=[]) [o_,o_,o_,o_,o_] [0,28] (λ_ _=>by kernel_rfl) trivial ?_
  refine af.bO 28 (((((s:ByteArray).size:Nat):Int):Int)<=(255:Int)) (λ_=>by kernel_rfl) (λCx=>?_) (λCx=>?_)
  ·refine af.aq (k':=13) (fr':=[(0,.string s),(32,.bool (!(decide ((s:ByteArray)=⟨#[46]⟩))))]) (ak:=[(Value.bool (!((s:ByteArray).toList == (⟨#[46]⟩:ByteArray).toList)))=(.bool (!(decide ((s:ByteArray)=⟨#[46]⟩))))]) [o_,⟨[],none,none,none,some (.bool (!(decide ((s:ByteArray)=⟨#[46]⟩))))⟩,o_,o_] [0,32] (λ_ _=>by kernel_rfl) ⟨mK _ _,trivial⟩ ?_
   refine af.eO 32 ((s:ByteArray)=⟨#[46]⟩) (λ_=>by kernel_rfl) (λpH=>?_) (λpH=>?_)
   ·refine af.aq (k':=17) (fr':=[(2,.bool (!(decide ((s:ByteArray)=⟨#[46,46]⟩))))]) (ak:=[(Value.bool (!((s:ByteArray).toList == (⟨#[46,46]⟩:ByteArray).toList)))=(.bool (!(decide ((s:ByteArray)=⟨#[46,46]⟩))))]) [o_,⟨[],none,none,none,some (.bool (!(decide ((s:ByteArray)=⟨#[46,46]⟩))))⟩,o_,o_] [2] (λ_ _=>by kernel_rfl) ⟨mK _ _,trivial⟩ ?_
    refine af.nil (by kernel_rfl) (ah.next (ai.ret ?_))
    exact ah.ret (v:=.bool (!(decide ((s:ByteArray)=⟨#[46,46]⟩)))) (l:=[]) (ak:=[]) [] [0] (λ_=>by kernel_rfl) trivial rfl (by kernel_rfl) (⟨congrArg Value.bool (oz (by have hA:∀j,j<s.size->¬aW s j=0/\¬aW s j=47:=λj hj=>hall j (by omega);unfold cZ;grind)),rfl⟩)
   refine af.aq (k':=17) (fr':=[(2,.bool false)]) (ak:=[]) [o_,o_,o_,o_] [2] (λ_ _=>by kernel_rfl) trivial ?_
   refine af.nil (by kernel_rfl) (ah.next (ai.ret ?_))
   exact ah.ret (v:=.bool false) (l:=[]) (ak:=[]) [] [0] (λ_=>by kernel_rfl) trivial rfl (by kernel_rfl) (⟨congrArg Value.bool (decide_eq_false (by have hA:∀j,j<s.size->¬aW s j=0/\¬aW s j=47:=λj hj=>hall j (by omega);unfold cZ;grind)).symm,rfl⟩)
  refine af.aq (k':=17) (fr':=[(2,.bool false)]) (ak:=[]) [o_,o_,o_,o_,o_,o_,o_,o_] [2] (λ_ _=>by kernel_rfl) trivial ?_
  refine af.nil (by kernel_rfl) (ah.next (ai.ret ?_))
  exact ah.ret (v:=.bool false) (l:=[]) (ak:=[]) [] [0] (λ_=>by kernel_rfl) trivial rfl (by kernel_rfl) (⟨congrArg Value.bool (decide_eq_false (by have hA:∀j,j<s.size->¬aW s j=0/\¬aW s j=47:=λj hj=>hall j (by omega);unfold cZ;grind)).symm,rfl⟩)
 refine af.aq (k':=17) (fr':=[(2,.bool false)]) (ak:=[]) [o_,o_,o_,o_,o_,o_,o_,o_,o_,o_,o_,o_,o_] [2] (λ_ _=>by kernel_rfl) trivial ?_
 refine af.nil (by kernel_rfl) (ah.next (ai.ret ?_))
 exact ah.ret (v:=.bool false) (l:=[]) (ak:=[]) [] [0] (λ_=>by kernel_rfl) trivial rfl (by kernel_rfl) (⟨congrArg Value.bool (decide_eq_false (by have hA:∀j,j<s.size->¬aW s j=0/\¬aW s j=47:=λj hj=>hall j (by omega);unfold cZ;grind)).symm,rfl⟩)
theorem uE {β:Bs} (n:aD) (dA eA:Option Addr) (dC eC:Nat) (ht:n.target.size<=1048576) :
 Spec Try.prog β 39 #[.agg #[.int .i64 (n.id),.int .i64 (n.kind),.int .i64 (n.mode),.int .i64 (n.uid),.int .i64 (n.gid),.int .i64 (n.sec),.int .i64 (n.nano),.slice dA (n.data.length) (dC),.string n.target,.slice eA (n.aj.length) (eC)]] [] (λv l=>v=.bool (decide (fV n))/\l=[]):=by
 refine Spec.enter Try.func39 rfl Try.ntmps39 (Nat.le_of_ble_eq_true rfl) (λR=>?_)
 refine ai.seq (ai.region (af.bD (k':=2) (fr':=λb3=>[(1,.pointer (some ⟨b3,0,none⟩))]) (aL:=λb3=>[.abs R,.blk b3 [.int .i64 (n.id),.int .i64 (n.kind),.int .i64 (n.mode),.int .i64 (n.uid),.int .i64 (n.gid),.int .i64 (n.sec),.int .i64 (n.nano),.slice dA (n.data.length) (dC),.string n.target,.slice eA (n.aj.length) (eC)] 32]) (ak:=λb3=>[]) [o_,o_] [1] [0,1] (λ_ _=>by kernel_rfl) (λb3=>trivial) (λb3=>?_)))
 refine af.nil (by kernel_rfl) (ah.next (ai.seq (ai.seq (ai.region ?_))))
 refine af.aq (k':=4) (fr':=[(1,.pointer (some ⟨b3,0,none⟩)),(7,.bool (decide ((n.kind:Int)<(1:Int))))]) (ak:=[b3=b3]) [o_,⟨[.at 1],none,none,none,none⟩,o_,o_] [1,7] (λ_ _=>by kernel_rfl) ⟨rfl,trivial⟩ ?_
 refine af.bO 7 ((n.kind:Int)<(1:Int)) (λ_=>by kernel_rfl) (λh7=>?_) (λh7=>?_)
 ·refine af.aq (k':=44) (fr':=[(1,.pointer (some ⟨b3,0,none⟩)),(47,.bool true)]) (ak:=[]) [o_,o_,o_,o_,o_,o_,o_,o_,o_,o_,o_,o_,o_,o_,o_,o_,o_,o_,o_,o_,o_,o_,o_,o_,o_,o_,o_,o_,o_,o_,o_,o_,o_,o_,o_,o_,o_,o_,o_,o_] [1,47] (λ_ _=>by kernel_rfl) trivial ?_
  refine af.nil (by kernel_rfl) (ah.next ?_)
  refine ai.bL (λ_=>by kernel_rfl) ?_
  refine ai.seq (ai.region (af.aq (k':=1) (fr':=[(2,.bool false)]) (ak:=[]) [o_] [2] (λ_ _=>by kernel_rfl) trivial ?_))
  refine af.nil (by kernel_rfl) (ah.next (ai.ret (ah.ay ?_)))
  exact ah.ret (v:=.bool false) (l:=[]) (ak:=[]) [] [0] (λ_=>by kernel_rfl) trivial rfl (by kernel_rfl) (⟨congrArg Value.bool (decide_eq_false (by rw [bA];grind [bF])).symm,rfl⟩)
 refine af.aq (k':=9) (fr':=[(1,.pointer (some ⟨b3,0,none⟩)),(12,.bool (decide ((n.kind:Int)>(3:Int))))]) (ak:=[b3=b3]) [o_,⟨[.at 1],none,none,none,none⟩,o_,o_,o_] [1,12] (λ_ _=>by kernel_rfl) ⟨rfl,trivial⟩ ?_
 refine af.bO 12 ((n.kind:Int)>(3:Int)) (λ_=>by kernel_rfl) (λh12=>?_) (λh12=>?_)
 ·refine af.aq (k':=44) (fr':=[(1,.pointer (some ⟨b3,0,none⟩)),(47,.bool true)]) (ak:=[]) [o_,o_,o_,o_,o_,o_,o_,o_,o_,o_,o_,o_,o_,o_,o_,o_,o_,o_,o_,o_,o_,o_,o_,o_,o_,o_,o_,o_,o_,o_,o_,o_,o_,o_,o_] [1,47] (λ_ _=>by kernel_rfl) trivial ?_
  refine af.nil (by kernel_rfl) (ah.next ?_)
  refine ai.bL (λ_=>by kernel_rfl) ?_
  refine ai.seq (ai.region (af.aq (k':=1) (fr':=[(2,.bool false)]) (ak:=[]) [o_] [2] (λ_ _=>by kernel_rfl) trivial ?_))
  refine af.nil (by kernel_rfl) (ah.next (ai.ret (ah.ay ?_)))
  exact ah.ret (v:=.bool false) (l:=[]) (ak:=[]) [] [0] (λ_=>by kernel_rfl) trivial rfl (by kernel_rfl) (⟨congrArg Value.bool (decide_eq_false (by rw [bA];grind [bF])).symm,rfl⟩)
 refine af.aq (k':=14) (fr':=[(1,.pointer (some ⟨b3,0,none⟩)),(17,.bool (decide ((n.mode:Int)<(0:Int))))]) (ak:=[b3=b3]) [o_,⟨[.at 1],none,none,none,none⟩,o_,o_,o_] [1,17] (λ_ _=>by kernel_rfl) ⟨rfl,trivial⟩ ?_
 refine af.bO 17 ((n.mode:Int)<(0:Int)) (λ_=>by kernel_rfl) (λmP=>?_) (λmP=>?_)
 ·refine af.aq (k':=44) (fr':=[(1,.pointer (some ⟨b3,0,none⟩)),(47,.bool true)]) (ak:=[]) [o_,o_,o_,o_,o_,o_,o_,o_,o_,o_,o_,o_,o_,o_,o_,o_,o_,o_,o_,o_,o_,o_,o_,o_,o_,o_,o_,o_,o_,o_] [1,47] (λ_ _=>by kernel_rfl) trivial ?_
  refine af.nil (by kernel_rfl) (ah.next ?_)
  refine ai.bL (λ_=>by kernel_rfl) ?_
  refine ai.seq (ai.region (af.aq (k':=1) (fr':=[(2,.bool false)]) (ak:=[]) [o_] [2] (λ_ _=>by kernel_rfl) trivial ?_))
  refine af.nil (by kernel_rfl) (ah.next (ai.ret (ah.ay ?_)))
  exact ah.ret (v:=.bool false) (l:=[]) (ak:=[]) [] [0] (λ_=>by kernel_rfl) trivial rfl (by kernel_rfl) (⟨congrArg Value.bool (decide_eq_false (by rw [bA];grind [bF])).symm,rfl⟩)
 refine af.aq (k':=19) (fr':=[(1,.pointer (some ⟨b3,0,none⟩)),(22,.bool (decide ((n.mode:Int)>(4095:Int))))]) (ak:=[b3=b3]) [o_,⟨[.at 1],none,none,none,none⟩,o_,o_,o_] [1,22] (λ_ _=>by kernel_rfl) ⟨rfl,trivial⟩ ?_
 refine af.bO 22 ((n.mode:Int)>(4095:Int)) (λ_=>by kernel_rfl) (λEg=>?_) (λEg=>?_)
 ·refine af.aq (k':=44) (fr':=[(1,.pointer (some ⟨b3,0,none⟩)),(47,.bool true)]) (ak:=[]) [o_,o_,o_,o_,o_,o_,o_,o_,o_,o_,o_,o_,o_,o_,o_,o_,o_,o_,o_,o_,o_,o_,o_,o_,o_] [1,47] (λ_ _=>by kernel_rfl) trivial ?_
  refine af.nil (by kernel_rfl) (ah.next ?_)
  refine ai.bL (λ_=>by kernel_rfl) ?_
  refine ai.seq (ai.region (af.aq (k':=1) (fr':=[(2,.bool false)]) (ak:=[]) [o_] [2] (λ_ _=>by kernel_rfl) trivial ?_))
  refine af.nil (by kernel_rfl) (ah.next (ai.ret (ah.ay ?_)))
  exact ah.ret (v:=.bool false) (l:=[]) (ak:=[]) [] [0] (λ_=>by kernel_rfl) trivial rfl (by kernel_rfl) (⟨congrArg Value.bool (decide_eq_false (by rw [bA];grind [bF])).symm,rfl⟩)
 refine af.aq (k':=24) (fr':=[(1,.pointer (some ⟨b3,0,none⟩)),(27,.bool (decide ((n.uid:Int)<(0:Int))))]) (ak:=[b3=b3]) [o_,⟨[.at 1],none,none,none,none⟩,o_,o_,o_] [1,27] (λ_ _=>by kernel_rfl) ⟨rfl,trivial⟩ ?_
 refine af.bO 27 ((n.uid:Int)<(0:Int)) (λ_=>by kernel_rfl) (λCy=>?_) (λCy=>?_)
 ·refine af.aq (k':=44) (fr':=[(1,.pointer (some ⟨b3,0,none⟩)),(47,.bool true)]) (ak:=[]) [o_,o_,o_,o_,o_,o_,o_,o_,o_,o_,o_,o_,o_,o_,o_,o_,o_,o_,o_,o_] [1,47] (λ_ _=>by kernel_rfl) trivial ?_
  refine af.nil (by kernel_rfl) (ah.next ?_)
  refine ai.bL (λ_=>by kernel_rfl) ?_
  refine ai.seq (ai.region (af.aq (k':=1) (fr':=[(2,.bool false)]) (ak:=[]) [o_] [2] (λ_ _=>by kernel_rfl) trivial ?_))
  refine af.nil (by kernel_rfl) (ah.next (ai.ret (ah.ay ?_)))
  exact ah.ret (v:=.bool false) (l:=[]) (ak:=[]) [] [0] (λ_=>by kernel_rfl) trivial rfl (by kernel_rfl) (⟨congrArg Value.bool (decide_eq_false (by rw [bA];grind [bF])).symm,rfl⟩)
 refine af.aq (k':=29) (fr':=[(1,.pointer (some ⟨b3,0,none⟩)),(32,.bool (decide ((n.uid:Int)>(2147483647:Int))))]) (ak:=[b3=b3]) [o_,⟨[.at 1],none,none,none,none⟩,o_,o_,o_] [1,32] (λ_ _=>by kernel_rfl) ⟨rfl,trivial⟩ ?_
 refine af.bO 32 ((n.uid:Int)>(2147483647:Int)) (λ_=>by kernel_rfl) (λpH=>?_) (λpH=>?_)
 ·refine af.aq (k':=44) (fr':=[(1,.pointer (some ⟨b3,0,none⟩)),(47,.bool true)]) (ak:=[]) [o_,o_,o_,o_,o_,o_,o_,o_,o_,o_,o_,o_,o_,o_,o_] [1,47] (λ_ _=>by kernel_rfl) trivial ?_
  refine af.nil (by kernel_rfl) (ah.next ?_)
  refine ai.bL (λ_=>by kernel_rfl) ?_
  refine ai.seq (ai.region (af.aq (k':=1) (fr':=[(2,.bool false)]) (ak:=[]) [o_] [2] (λ_ _=>by kernel_rfl) trivial ?_))
  refine af.nil (by kernel_rfl) (ah.next (ai.ret (ah.ay ?_)))
  exact ah.ret (v:=.bool false) (l:=[]) (ak:=[]) [] [0] (λ_=>by kernel_rfl) trivial rfl (by kernel_rfl) (⟨congrArg Value.bool (decide_eq_false (by rw [bA];grind [bF])).symm,rfl⟩)
 refine af.aq (k':=34) (fr':=[(1,.pointer (some ⟨b3,0,none⟩)),(37,.bool (decide ((n.gid:Int)<(0:Int))))]) (ak:=[b3=b3]) [o_,⟨[.at 1],none,none,none,none⟩,o_,o_,o_] [1,37] (λ_ _=>by kernel_rfl) ⟨rfl,trivial⟩ ?_
 refine af.bO 37 ((n.gid:Int)<(0:Int)) (λ_=>by kernel_rfl) (λwD=>?_) (λwD=>?_)
 ·refine af.aq (k':=44) (fr':=[(1,.pointer (some ⟨b3,0,none⟩)),(47,.bool true)]) (ak:=[]) [o_,o_,o_,o_,o_,o_,o_,o_,o_,o_] [1,47] (λ_ _=>by kernel_rfl) trivial ?_
  refine af.nil (by kernel_rfl) (ah.next ?_)
  refine ai.bL (λ_=>by kernel_rfl) ?_
  refine ai.seq (ai.region (af.aq (k':=1) (fr':=[(2,.bool false)]) (ak:=[]) [o_] [2] (λ_ _=>by kernel_rfl) trivial ?_))
  refine af.nil (by kernel_rfl) (ah.next (ai.ret (ah.ay ?_)))
  exact ah.ret (v:=.bool false) (l:=[]) (ak:=[]) [] [0] (λ_=>by kernel_rfl) trivial rfl (by kernel_rfl) (⟨congrArg Value.bool (decide_eq_false (by rw [bA];grind [bF])).symm,rfl⟩)
 refine af.aq (k':=39) (fr':=[(1,.pointer (some ⟨b3,0,none⟩)),(42,.bool (decide ((n.gid:Int)>(2147483647:Int))))]) (ak:=[b3=b3]) [o_,⟨[.at 1],none,none,none,none⟩,o_,o_,o_] [1,42] (λ_ _=>by kernel_rfl) ⟨rfl,trivial⟩ ?_
 refine af.bO 42 ((n.gid:Int)>(2147483647:Int)) (λ_=>by kernel_rfl) (λCz=>?_) (λCz=>?_)
 ·refine af.aq (k':=44) (fr':=[(1,.pointer (some ⟨b3,0,none⟩)),(47,.bool true)]) (ak:=[]) [o_,o_,o_,o_,o_] [1,47] (λ_ _=>by kernel_rfl) trivial ?_
  refine af.nil (by kernel_rfl) (ah.next ?_)
  refine ai.bL (λ_=>by kernel_rfl) ?_
  refine ai.seq (ai.region (af.aq (k':=1) (fr':=[(2,.bool false)]) (ak:=[]) [o_] [2] (λ_ _=>by kernel_rfl) trivial ?_))
  refine af.nil (by kernel_rfl) (ah.next (ai.ret (ah.ay ?_)))
  exact ah.ret (v:=.bool false) (l:=[]) (ak:=[]) [] [0] (λ_=>by kernel_rfl) trivial rfl (by kernel_rfl) (⟨congrArg Value.bool (decide_eq_false (by rw [bA];grind [bF])).symm,rfl⟩)
 refine af.aq (k':=41) (fr':=[(1,.pointer (some ⟨b3,0,none⟩)),(42,.bool false),(44,.agg #[.int .i64 (n.sec),.int .i64 (n.nano)])]) (ak:=[b3=b3,b3=b3]) [o_,⟨[.at 1,.at 1],none,none,none,none⟩] [1,42,44] (λ_ _=>by kernel_rfl) ⟨rfl,rfl,trivial⟩ ?_
 refine af.call (f:=61) (args:=#[.agg #[.int .i64 (n.sec),.int .i64 (n.nano)]]) (d:=(some 45)) (pre:=[]) (R:=[.abs R,.blk b3 [.int .i64 (n.id),.int .i64 (n.kind),.int .i64 (n.mode),.int .i64 (n.uid),.int .i64 (n.gid),.int .i64 (n.sec),.int .i64 (n.nano),.slice dA (n.data.length) (dC),.string n.target,.slice eA (n.aj.length) (eC)] 32]) (pk:=[0,1]) (λ_=>by kernel_rfl) (vO n.sec n.nano) rfl (by kernel_rfl) ?_
 rintro _ _ ⟨rfl,rfl⟩
 refine af.aq (k':=44) (fr':=[(1,.pointer (some ⟨b3,0,none⟩)),(47,.bool (!(decide (dU n.sec n.nano))))]) (ak:=[]) [o_,o_] [1,47] (λ_ _=>by kernel_rfl) trivial ?_
 refine af.nil (by kernel_rfl) (ah.next ?_)
 refine ai.cY (p:=dU n.sec n.nano) (λ_=>by kernel_rfl) (λjD=>?_) (λjD=>?_)
 ·refine ai.seq (ai.region (af.aq (k':=1) (fr':=[(2,.bool false)]) (ak:=[]) [o_] [2] (λ_ _=>by kernel_rfl) trivial ?_))
  refine af.nil (by kernel_rfl) (ah.next (ai.ret (ah.ay ?_)))
  exact ah.ret (v:=.bool false) (l:=[]) (ak:=[]) [] [0] (λ_=>by kernel_rfl) trivial rfl (by kernel_rfl) (⟨congrArg Value.bool (decide_eq_false (by rw [bA];grind [bF])).symm,rfl⟩)
 refine ai.skip (ah.next (ai.seq (ai.seq (ai.region ?_))))
 refine af.aq (k':=4) (fr':=[(1,.pointer (some ⟨b3,0,none⟩)),(51,.bool (!(decide ((n.kind:Int)=(1:Int)))))]) (ak:=[b3=b3]) [o_,⟨[.at 1],none,none,none,none⟩,o_,o_] [1,51] (λ_ _=>by kernel_rfl) ⟨rfl,trivial⟩ ?_
 refine af.eO 51 ((n.kind:Int)=(1:Int)) (λ_=>by kernel_rfl) (λEh=>?_) (λEh=>?_)
 ·refine af.aq (k':=10) (fr':=[(1,.pointer (some ⟨b3,0,none⟩)),(57,.bool (decide ((((n.data.length:Nat):Int):Int)>(0:Int))))]) (ak:=[b3=b3]) [o_,⟨[.at 1],none,none,none,none⟩,o_,o_,o_,o_] [1,57] (λ_ _=>by kernel_rfl) ⟨rfl,trivial⟩ ?_
  refine af.bO 57 ((((n.data.length:Nat):Int):Int)>(0:Int)) (λ_=>by kernel_rfl) (λEi=>?_) (λEi=>?_)
  ·refine af.aq (k':=20) (fr':=[(1,.pointer (some ⟨b3,0,none⟩)),(67,.bool true)]) (ak:=[]) [o_,o_,o_,o_,o_,o_,o_,o_,o_,o_] [1,67] (λ_ _=>by kernel_rfl) trivial ?_
   refine af.nil (by kernel_rfl) (ah.next ?_)
   refine ai.bL (λ_=>by kernel_rfl) ?_
   refine ai.seq (ai.region (af.aq (k':=1) (fr':=[(2,.bool false)]) (ak:=[]) [o_] [2] (λ_ _=>by kernel_rfl) trivial ?_))
   refine af.nil (by kernel_rfl) (ah.next (ai.ret (ah.ay ?_)))
   exact ah.ret (v:=.bool false) (l:=[]) (ak:=[]) [] [0] (λ_=>by kernel_rfl) trivial rfl (by kernel_rfl) (⟨congrArg Value.bool (decide_eq_false (by rw [bA];grind [bF])).symm,rfl⟩)
  refine af.aq (k':=14) (fr':=[(1,.pointer (some ⟨b3,0,none⟩)),(57,.bool false),(61,.bool (!(decide ((n.kind:Int)=(2:Int)))))]) (ak:=[b3=b3]) [o_,⟨[.at 1],none,none,none,none⟩,o_,o_] [1,57,61] (λ_ _=>by kernel_rfl) ⟨rfl,trivial⟩ ?_
  refine af.eO 61 ((n.kind:Int)=(2:Int)) (λ_=>by kernel_rfl) (λCA=>?_) (λCA=>?_)
  ·refine af.aq (k':=20) (fr':=[(1,.pointer (some ⟨b3,0,none⟩)),(67,.bool (decide ((((n.aj.length:Nat):Int):Int)>(0:Int))))]) (ak:=[b3=b3]) [o_,⟨[.at 1],none,none,none,none⟩,o_,o_,o_,o_] [1,67] (λ_ _=>by kernel_rfl) ⟨rfl,trivial⟩ ?_
   refine af.nil (by kernel_rfl) (ah.next ?_)
   refine ai.aV (p:=(((n.aj.length:Nat):Int):Int)>(0:Int)) (λ_=>by kernel_rfl) (λCB=>?_) (λCB=>?_)
   ·refine ai.seq (ai.region (af.aq (k':=1) (fr':=[(2,.bool false)]) (ak:=[]) [o_] [2] (λ_ _=>by kernel_rfl) trivial ?_))
    refine af.nil (by kernel_rfl) (ah.next (ai.ret (ah.ay ?_)))
    exact ah.ret (v:=.bool false) (l:=[]) (ak:=[]) [] [0] (λ_=>by kernel_rfl) trivial rfl (by kernel_rfl) (⟨congrArg Value.bool (decide_eq_false (by rw [bA];grind [bF])).symm,rfl⟩)
   refine ai.skip (ah.next (ai.seq (ai.seq (ai.region ?_))))
   refine af.aq (k':=3) (fr':=[(1,.pointer (some ⟨b3,0,none⟩)),(70,.bool (!(decide ((n.kind:Int)=(3:Int)))))]) (ak:=[b3=b3]) [o_,⟨[.at 1],none,none,none,none⟩,o_] [1,70] (λ_ _=>by kernel_rfl) ⟨rfl,trivial⟩ ?_
   refine af.nil (by kernel_rfl) (ah.next ?_)
   refine ai.cY (p:=(n.kind:Int)=(3:Int)) (λ_=>by kernel_rfl) (λuF=>?_) (λuF=>?_)
   ·refine ai.seq (ai.region (af.aq (k':=4) (fr':=[(2,.bool (decide ((n.target:ByteArray)=⟨#[]⟩)))]) (ak:=[(Value.bool ((n.target:ByteArray).toList == (⟨#[]⟩:ByteArray).toList))=(.bool (decide ((n.target:ByteArray)=⟨#[]⟩))),b3=b3]) [o_,⟨[.at 1],none,none,none,none⟩,⟨[],none,none,none,some (.bool (decide ((n.target:ByteArray)=⟨#[]⟩)))⟩,o_] [2] (λ_ _=>by kernel_rfl) ⟨eH _ _,rfl,trivial⟩ ?_))
    refine af.nil (by kernel_rfl) (ah.next (ai.ret (ah.ay ?_)))
    exact ah.ret (v:=.bool (decide ((n.target:ByteArray)=⟨#[]⟩))) (l:=[]) (ak:=[]) [] [0] (λ_=>by kernel_rfl) trivial rfl (by kernel_rfl) (⟨congrArg Value.bool (decide_eq_decide.2 (by rw [bA];grind [bF])),rfl⟩)
   refine ai.skip (ah.next (ai.seq (ai.seq (ai.region ?_))))
   refine af.aq (k':=1) (fr':=[(1,.pointer (some ⟨b3,0,none⟩)),(3,.int .i64 0)]) (ak:=[]) [o_] [1,3] (λ_ _=>by kernel_rfl) trivial ?_
   refine af.nil (by kernel_rfl) (ah.next (ai.block ?_))
   refine ai.loop (ι:=Nat) (λ(i:Nat)=>(i<=n.target.size)/\(∀j,j<i->¬aW n.target j=0)) (λ(i:Nat)=>n.target.size-i) (λ(i:Nat)=>[(1,.pointer (some ⟨b3,0,none⟩)),(3,.int .i64 ↑i)]) (λ(i:Nat)=>[.abs R,.blk b3 [.int .i64 (n.id),.int .i64 (n.kind),.int .i64 (n.mode),.int .i64 (n.uid),.int .i64 (n.gid),.int .i64 (n.sec),.int .i64 (n.nano),.slice dA (n.data.length) (dC),.string n.target,.slice eA (n.aj.length) (eC)] 32]) 0 (idx:=[1,3]) (pk:=[0,1]) (show (0<=n.target.size)/\(∀j,j<0->¬aW n.target j=0) from ⟨Nat.zero_le _,λj hj=>absurd hj (Nat.not_lt_zero j)⟩) (λ_=>by kernel_rfl) rfl (by kernel_rfl) ?_
   rintro i ⟨hi,hall⟩
   show ai _ _ _ _ [(1,.pointer (some ⟨b3,0,none⟩)),(3,.int .i64 ↑i)] [.abs R,.blk b3 [.int .i64 (n.id),.int .i64 (n.kind),.int .i64 (n.mode),.int .i64 (n.uid),.int .i64 (n.gid),.int .i64 (n.sec),.int .i64 (n.nano),.slice dA (n.data.length) (dC),.string n.target,.slice eA (n.aj.length) (eC)] 32] _
   refine ai.seq (ai.seq (ai.region (af.aq (k':=5) (fr':=[(1,.pointer (some ⟨b3,0,none⟩)),(3,.int .i64 ↑i),(78,.bool (decide ((((i:Nat):Int):Int)<((((n.target:ByteArray).size:Nat):Int):Int))))]) (ak:=[b3=b3]) [o_,o_,⟨[.at 1],none,none,none,none⟩,o_,o_] [1,3,78] (λ_ _=>by kernel_rfl) ⟨rfl,trivial⟩ ?_)))
   refine af.nil (by kernel_rfl) (ah.next ?_)
   refine ai.aV (p:=(((i:Nat):Int):Int)<((((n.target:ByteArray).size:Nat):Int):Int)) (λ_=>by kernel_rfl) (λqR=>?_) (λqR=>?_)
   ·refine ai.skip (ah.next (ai.seq (ai.block (ai.seq (ai.region ?_)))))
    refine af.aq (k':=5) (fr':=[(1,.pointer (some ⟨b3,0,none⟩)),(3,.int .i64 ↑i),(85,.bool (decide ((((((n.target:ByteArray).data.getD (i) 0).toNat:Nat):Int):Int)=(0:Int))))]) (ak:=[((i:Nat):Int)=((i:Nat):Int),i<(n.target:ByteArray).size,b3=b3]) [o_,⟨[.at 1],none,none,none,none⟩,o_,⟨[],some i,none,none,none⟩,o_] [1,3,85] (λ_ _=>by kernel_rfl) ⟨rfl,by omega,rfl,trivial⟩ ?_
    refine af.nil (by kernel_rfl) (ah.next ?_)
    refine ai.aV (p:=(((((n.target:ByteArray).data.getD (i) 0).toNat:Nat):Int):Int)=(0:Int)) (λ_=>by kernel_rfl) (λqT=>?_) (λqT=>?_)
    ·refine ai.seq (ai.region (af.aq (k':=1) (fr':=[(2,.bool false)]) (ak:=[]) [o_] [2] (λ_ _=>by kernel_rfl) trivial ?_))
     refine af.nil (by kernel_rfl) (ah.next (ai.ret (ah.aG (ah.ay (ah.ay (ah.aG (ah.ay ?_)))))))
     exact ah.ret (v:=.bool false) (l:=[]) (ak:=[]) [] [0] (λ_=>by kernel_rfl) trivial rfl (by kernel_rfl) (⟨congrArg Value.bool (decide_eq_false (by intro g;have:=(bF.sym g.target (by omega)).2.2 i (by omega);unfold aW at this;omega)).symm,rfl⟩)
    refine ai.skip (ah.aJ (ah.next (ai.region ?_)))
    refine af.aq (k':=3) (fr':=[(1,.pointer (some ⟨b3,0,none⟩)),(3,.int .i64 ↑(i+1))]) (ak:=[(Value.int .i64 (IntKind.wrap .i64 (((i:Nat):Int)+1)))=(.int .i64 ↑(i+1))]) [o_,⟨[],none,none,none,some (.int .i64 ↑(i+1))⟩,o_] [1,3] (λ_ _=>by kernel_rfl) ⟨aP (by omega) (by omega) (by omega),trivial⟩ ?_
    refine af.nil (by kernel_rfl) ?_
    exact ah.turn ((i+1)) (idx:=[1,3]) (pk:=[0,1]) (show (((i+1))<=n.target.size)/\(∀j,j<((i+1))->¬aW n.target j=0) from ⟨by omega,λj hj=>by rcases Nat.lt_succ_iff_lt_or_eq.1 hj with h|h;exact hall j h;subst h;unfold aW;omega⟩) (by show n.target.size-((i+1))<n.target.size-i;omega) (λ_=>by kernel_rfl) rfl (by kernel_rfl)
   refine ai.exit (ah.aH (ah.aH (ah.bg (ah.next (ai.seq (ai.region ?_))))))
   refine af.aq (k':=5) (fr':=[(1,.pointer (some ⟨b3,0,none⟩)),(90,.bool (decide (((((n.target:ByteArray).size:Nat):Int):Int)>=(1:Int))))]) (ak:=[b3=b3]) [o_,⟨[.at 1],none,none,none,none⟩,o_,o_,o_] [1,90] (λ_ _=>by kernel_rfl) ⟨rfl,trivial⟩ ?_
   refine af.bO 90 (((((n.target:ByteArray).size:Nat):Int):Int)>=(1:Int)) (λ_=>by kernel_rfl) (λuG=>?_) (λuG=>?_)
   ·refine af.aq (k':=11) (fr':=[(2,.bool (decide (((((n.target:ByteArray).size:Nat):Int):Int)<=(4096:Int))))]) (ak:=[b3=b3]) [o_,⟨[.at 1],none,none,none,none⟩,o_,o_,o_,o_] [2] (λ_ _=>by kernel_rfl) ⟨rfl,trivial⟩ ?_
    refine af.nil (by kernel_rfl) (ah.next (ai.ret ?_))
    exact ah.ret (v:=.bool (decide (((((n.target:ByteArray).size:Nat):Int):Int)<=(4096:Int)))) (l:=[]) (ak:=[]) [] [0] (λ_=>by kernel_rfl) trivial rfl (by kernel_rfl) (⟨congrArg Value.bool (decide_eq_decide.2 (by have hA:iR n.target:=λj hj=>hall j (by omega);rw [bA];grind [bF])),rfl⟩)
   refine af.aq (k':=11) (fr':=[(2,.bool false)]) (ak:=[]) [o_,o_,o_,o_,o_,o_] [2] (λ_ _=>by kernel_rfl) trivial ?_
   refine af.nil (by kernel_rfl) (ah.next (ai.ret ?_))
   exact ah.ret (v:=.bool false) (l:=[]) (ak:=[]) [] [0] (λ_=>by kernel_rfl) trivial rfl (by kernel_rfl) (⟨congrArg Value.bool (decide_eq_false (by have hA:iR n.target:=λj hj=>hall j (by omega);rw [bA];grind [bF])).symm,rfl⟩)
  refine af.aq (k':=20) (fr':=[(1,.pointer (some ⟨b3,0,none⟩)),(67,.bool false)]) (ak:=[]) [o_,o_,o_,o_,o_,o_] [1,67] (λ_ _=>by kernel_rfl) trivial ?_
  refine af.nil (by kernel_rfl) (ah.next ?_)
  refine ai.cU (λ_=>by kernel_rfl) ?_
  refine ai.skip (ah.next (ai.seq (ai.seq (ai.region ?_))))
  refine af.aq (k':=3) (fr':=[(1,.pointer (some ⟨b3,0,none⟩)),(70,.bool (!(decide ((n.kind:Int)=(3:Int)))))]) (ak:=[b3=b3]) [o_,⟨[.at 1],none,none,none,none⟩,o_] [1,70] (λ_ _=>by kernel_rfl) ⟨rfl,trivial⟩ ?_
  refine af.nil (by kernel_rfl) (ah.next ?_)
  refine ai.cY (p:=(n.kind:Int)=(3:Int)) (λ_=>by kernel_rfl) (λuF=>?_) (λuF=>?_)
  ·refine ai.seq (ai.region (af.aq (k':=4) (fr':=[(2,.bool (decide ((n.target:ByteArray)=⟨#[]⟩)))]) (ak:=[(Value.bool ((n.target:ByteArray).toList == (⟨#[]⟩:ByteArray).toList))=(.bool (decide ((n.target:ByteArray)=⟨#[]⟩))),b3=b3]) [o_,⟨[.at 1],none,none,none,none⟩,⟨[],none,none,none,some (.bool (decide ((n.target:ByteArray)=⟨#[]⟩)))⟩,o_] [2] (λ_ _=>by kernel_rfl) ⟨eH _ _,rfl,trivial⟩ ?_))
   refine af.nil (by kernel_rfl) (ah.next (ai.ret (ah.ay ?_)))
   exact ah.ret (v:=.bool (decide ((n.target:ByteArray)=⟨#[]⟩))) (l:=[]) (ak:=[]) [] [0] (λ_=>by kernel_rfl) trivial rfl (by kernel_rfl) (⟨congrArg Value.bool (decide_eq_decide.2 (by rw [bA];grind [bF])),rfl⟩)
  refine ai.skip (ah.next (ai.seq (ai.seq (ai.region ?_))))
  refine af.aq (k':=1) (fr':=[(1,.pointer (some ⟨b3,0,none⟩)),(3,.int .i64 0)]) (ak:=[]) [o_] [1,3] (λ_ _=>by kernel_rfl) trivial ?_
  refine af.nil (by kernel_rfl) (ah.next (ai.block ?_))
  refine ai.loop (ι:=Nat) (λ(i:Nat)=>(i<=n.target.size)/\(∀j,j<i->¬aW n.target j=0)) (λ(i:Nat)=>n.target.size-i) (λ(i:Nat)=>[(1,.pointer (some ⟨b3,0,none⟩)),(3,.int .i64 ↑i)]) (λ(i:Nat)=>[.abs R,.blk b3 [.int .i64 (n.id),.int .i64 (n.kind),.int .i64 (n.mode),.int .i64 (n.uid),.int .i64 (n.gid),.int .i64 (n.sec),.int .i64 (n.nano),.slice dA (n.data.length) (dC),.string n.target,.slice eA (n.aj.length) (eC)] 32]) 0 (idx:=[1,3]) (pk:=[0,1]) (show (0<=n.target.size)/\(∀j,j<0->¬aW n.target j=0) from ⟨Nat.zero_le _,λj hj=>absurd hj (Nat.not_lt_zero j)⟩) (λ_=>by kernel_rfl) rfl (by kernel_rfl) ?_
  rintro i ⟨hi,hall⟩
  show ai _ _ _ _ [(1,.pointer (some ⟨b3,0,none⟩)),(3,.int .i64 ↑i)] [.abs R,.blk b3 [.int .i64 (n.id),.int .i64 (n.kind),.int .i64 (n.mode),.int .i64 (n.uid),.int .i64 (n.gid),.int .i64 (n.sec),.int .i64 (n.nano),.slice dA (n.data.length) (dC),.string n.target,.slice eA (n.aj.length) (eC)] 32] _
  refine ai.seq (ai.seq (ai.region (af.aq (k':=5) (fr':=[(1,.pointer (some ⟨b3,0,none⟩)),(3,.int .i64 ↑i),(78,.bool (decide ((((i:Nat):Int):Int)<((((n.target:ByteArray).size:Nat):Int):Int))))]) (ak:=[b3=b3]) [o_,o_,⟨[.at 1],none,none,none,none⟩,o_,o_] [1,3,78] (λ_ _=>by kernel_rfl) ⟨rfl,trivial⟩ ?_)))
  refine af.nil (by kernel_rfl) (ah.next ?_)
  refine ai.aV (p:=(((i:Nat):Int):Int)<((((n.target:ByteArray).size:Nat):Int):Int)) (λ_=>by kernel_rfl) (λqR=>?_) (λqR=>?_)
  ·refine ai.skip (ah.next (ai.seq (ai.block (ai.seq (ai.region ?_)))))
   refine af.aq (k':=5) (fr':=[(1,.pointer (some ⟨b3,0,none⟩)),(3,.int .i64 ↑i),(85,.bool (decide ((((((n.target:ByteArray).data.getD (i) 0).toNat:Nat):Int):Int)=(0:Int))))]) (ak:=[((i:Nat):Int)=((i:Nat):Int),i<(n.target:ByteArray).size,b3=b3]) [o_,⟨[.at 1],none,none,none,none⟩,o_,⟨[],some i,none,none,none⟩,o_] [1,3,85] (λ_ _=>by kernel_rfl) ⟨rfl,by omega,rfl,trivial⟩ ?_
   refine af.nil (by kernel_rfl) (ah.next ?_)
   refine ai.aV (p:=(((((n.target:ByteArray).data.getD (i) 0).toNat:Nat):Int):Int)=(0:Int)) (λ_=>by kernel_rfl) (λqT=>?_) (λqT=>?_)
   ·refine ai.seq (ai.region (af.aq (k':=1) (fr':=[(2,.bool false)]) (ak:=[]) [o_] [2] (λ_ _=>by kernel_rfl) trivial ?_))
    refine af.nil (by kernel_rfl) (ah.next (ai.ret (ah.aG (ah.ay (ah.ay (ah.aG (ah.ay ?_)))))))
    exact ah.ret (v:=.bool false) (l:=[]) (ak:=[]) [] [0] (λ_=>by kernel_rfl) trivial rfl (by kernel_rfl) (⟨congrArg Value.bool (decide_eq_false (by intro g;have:=(bF.sym g.target (by omega)).2.2 i (by omega);unfold aW at this;omega)).symm,rfl⟩)
   refine ai.skip (ah.aJ (ah.next (ai.region ?_)))
   refine af.aq (k':=3) (fr':=[(1,.pointer (some ⟨b3,0,none⟩)),(3,.int .i64 ↑(i+1))]) (ak:=[(Value.int .i64 (IntKind.wrap .i64 (((i:Nat):Int)+1)))=(.int .i64 ↑(i+1))]) [o_,⟨[],none,none,none,some (.int .i64 ↑(i+1))⟩,o_] [1,3] (λ_ _=>by kernel_rfl) ⟨aP (by omega) (by omega) (by omega),trivial⟩ ?_
   refine af.nil (by kernel_rfl) ?_
   exact ah.turn ((i+1)) (idx:=[1,3]) (pk:=[0,1]) (show (((i+1))<=n.target.size)/\(∀j,j<((i+1))->¬aW n.target j=0) from ⟨by omega,λj hj=>by rcases Nat.lt_succ_iff_lt_or_eq.1 hj with h|h;exact hall j h;subst h;unfold aW;omega⟩) (by show n.target.size-((i+1))<n.target.size-i;omega) (λ_=>by kernel_rfl) rfl (by kernel_rfl)
  refine ai.exit (ah.aH (ah.aH (ah.bg (ah.next (ai.seq (ai.region ?_))))))
  refine af.aq (k':=5) (fr':=[(1,.pointer (some ⟨b3,0,none⟩)),(90,.bool (decide (((((n.target:ByteArray).size:Nat):Int):Int)>=(1:Int))))]) (ak:=[b3=b3]) [o_,⟨[.at 1],none,none,none,none⟩,o_,o_,o_] [1,90] (λ_ _=>by kernel_rfl) ⟨rfl,trivial⟩ ?_
  refine af.bO 90 (((((n.target:ByteArray).size:Nat):Int):Int)>=(1:Int)) (λ_=>by kernel_rfl) (λuG=>?_) (λuG=>?_)
  ·refine af.aq (k':=11) (fr':=[(2,.bool (decide (((((n.target:ByteArray).size:Nat):Int):Int)<=(4096:Int))))]) (ak:=[b3=b3]) [o_,⟨[.at 1],none,none,none,none⟩,o_,o_,o_,o_] [2] (λ_ _=>by kernel_rfl) ⟨rfl,trivial⟩ ?_
   refine af.nil (by kernel_rfl) (ah.next (ai.ret ?_))
   exact ah.ret (v:=.bool (decide (((((n.target:ByteArray).size:Nat):Int):Int)<=(4096:Int)))) (l:=[]) (ak:=[]) [] [0] (λ_=>by kernel_rfl) trivial rfl (by kernel_rfl) (⟨congrArg Value.bool (decide_eq_decide.2 (by have hA:iR n.target:=λj hj=>hall j (by omega);rw [bA];grind [bF])),rfl⟩)
  refine af.aq (k':=11) (fr':=[(2,.bool false)]) (ak:=[]) [o_,o_,o_,o_,o_,o_] [2] (λ_ _=>by kernel_rfl) trivial ?_
  refine af.nil (by kernel_rfl) (ah.next (ai.ret ?_))
  exact ah.ret (v:=.bool false) (l:=[]) (ak:=[]) [] [0] (λ_=>by kernel_rfl) trivial rfl (by kernel_rfl) (⟨congrArg Value.bool (decide_eq_false (by have hA:iR n.target:=λj hj=>hall j (by omega);rw [bA];grind [bF])).symm,rfl⟩)
 refine af.aq (k':=14) (fr':=[(1,.pointer (some ⟨b3,0,none⟩)),(57,.bool false),(61,.bool (!(decide ((n.kind:Int)=(2:Int)))))]) (ak:=[b3=b3]) [o_,o_,o_,o_,o_,o_,o_,⟨[.at 1],none,none,none,none⟩,o_,o_] [1,57,61] (λ_ _=>by kernel_rfl) ⟨rfl,trivial⟩ ?_
 refine af.eO 61 ((n.kind:Int)=(2:Int)) (λ_=>by kernel_rfl) (λCA=>?_) (λCA=>?_)
 ·refine af.aq (k':=20) (fr':=[(1,.pointer (some ⟨b3,0,none⟩)),(67,.bool (decide ((((n.aj.length:Nat):Int):Int)>(0:Int))))]) (ak:=[b3=b3]) [o_,⟨[.at 1],none,none,none,none⟩,o_,o_,o_,o_] [1,67] (λ_ _=>by kernel_rfl) ⟨rfl,trivial⟩ ?_
  refine af.nil (by kernel_rfl) (ah.next ?_)
  refine ai.aV (p:=(((n.aj.length:Nat):Int):Int)>(0:Int)) (λ_=>by kernel_rfl) (λCB=>?_) (λCB=>?_)
  ·refine ai.seq (ai.region (af.aq (k':=1) (fr':=[(2,.bool false)]) (ak:=[]) [o_] [2] (λ_ _=>by kernel_rfl) trivial ?_))
   refine af.nil (by kernel_rfl) (ah.next (ai.ret (ah.ay ?_)))
   exact ah.ret (v:=.bool false) (l:=[]) (ak:=[]) [] [0] (λ_=>by kernel_rfl) trivial rfl (by kernel_rfl) (⟨congrArg Value.bool (decide_eq_false (by rw [bA];grind [bF])).symm,rfl⟩)
  refine ai.skip (ah.next (ai.seq (ai.seq (ai.region ?_))))
  refine af.aq (k':=3) (fr':=[(1,.pointer (some ⟨b3,0,none⟩)),(70,.bool (!(decide ((n.kind:Int)=(3:Int)))))]) (ak:=[b3=b3]) [o_,⟨[.at 1],none,none,none,none⟩,o_] [1,70] (λ_ _=>by kernel_rfl) ⟨rfl,trivial⟩ ?_
  refine af.nil (by kernel_rfl) (ah.next ?_)
  refine ai.cY (p:=(n.kind:Int)=(3:Int)) (λ_=>by kernel_rfl) (λuF=>?_) (λuF=>?_)
  ·refine ai.seq (ai.region (af.aq (k':=4) (fr':=[(2,.bool (decide ((n.target:ByteArray)=⟨#[]⟩)))]) (ak:=[(Value.bool ((n.target:ByteArray).toList == (⟨#[]⟩:ByteArray).toList))=(.bool (decide ((n.target:ByteArray)=⟨#[]⟩))),b3=b3]) [o_,⟨[.at 1],none,none,none,none⟩,⟨[],none,none,none,some (.bool (decide ((n.target:ByteArray)=⟨#[]⟩)))⟩,o_] [2] (λ_ _=>by kernel_rfl) ⟨eH _ _,rfl,trivial⟩ ?_))
   refine af.nil (by kernel_rfl) (ah.next (ai.ret (ah.ay ?_)))
   exact ah.ret (v:=.bool (decide ((n.target:ByteArray)=⟨#[]⟩))) (l:=[]) (ak:=[]) [] [0] (λ_=>by kernel_rfl) trivial rfl (by kernel_rfl) (⟨congrArg Value.bool (decide_eq_decide.2 (by rw [bA];grind [bF])),rfl⟩)
  refine ai.skip (ah.next (ai.seq (ai.seq (ai.region ?_))))
  refine af.aq (k':=1) (fr':=[(1,.pointer (some ⟨b3,0,none⟩)),(3,.int .i64 0)]) (ak:=[]) [o_] [1,3] (λ_ _=>by kernel_rfl) trivial ?_
  refine af.nil (by kernel_rfl) (ah.next (ai.block ?_))
  refine ai.loop (ι:=Nat) (λ(i:Nat)=>(i<=n.target.size)/\(∀j,j<i->¬aW n.target j=0)) (λ(i:Nat)=>n.target.size-i) (λ(i:Nat)=>[(1,.pointer (some ⟨b3,0,none⟩)),(3,.int .i64 ↑i)]) (λ(i:Nat)=>[.abs R,.blk b3 [.int .i64 (n.id),.int .i64 (n.kind),.int .i64 (n.mode),.int .i64 (n.uid),.int .i64 (n.gid),.int .i64 (n.sec),.int .i64 (n.nano),.slice dA (n.data.length) (dC),.string n.target,.slice eA (n.aj.length) (eC)] 32]) 0 (idx:=[1,3]) (pk:=[0,1]) (show (0<=n.target.size)/\(∀j,j<0->¬aW n.target j=0) from ⟨Nat.zero_le _,λj hj=>absurd hj (Nat.not_lt_zero j)⟩) (λ_=>by kernel_rfl) rfl (by kernel_rfl) ?_
  rintro i ⟨hi,hall⟩
  show ai _ _ _ _ [(1,.pointer (some ⟨b3,0,none⟩)),(3,.int .i64 ↑i)] [.abs R,.blk b3 [.int .i64 (n.id),.int .i64 (n.kind),.int .i64 (n.mode),.int .i64 (n.uid),.int .i64 (n.gid),.int .i64 (n.sec),.int .i64 (n.nano),.slice dA (n.data.length) (dC),.string n.target,.slice eA (n.aj.length) (eC)] 32] _
  refine ai.seq (ai.seq (ai.region (af.aq (k':=5) (fr':=[(1,.pointer (some ⟨b3,0,none⟩)),(3,.int .i64 ↑i),(78,.bool (decide ((((i:Nat):Int):Int)<((((n.target:ByteArray).size:Nat):Int):Int))))]) (ak:=[b3=b3]) [o_,o_,⟨[.at 1],none,none,none,none⟩,o_,o_] [1,3,78] (λ_ _=>by kernel_rfl) ⟨rfl,trivial⟩ ?_)))
  refine af.nil (by kernel_rfl) (ah.next ?_)
  refine ai.aV (p:=(((i:Nat):Int):Int)<((((n.target:ByteArray).size:Nat):Int):Int)) (λ_=>by kernel_rfl) (λqR=>?_) (λqR=>?_)
  ·refine ai.skip (ah.next (ai.seq (ai.block (ai.seq (ai.region ?_)))))
   refine af.aq (k':=5) (fr':=[(1,.pointer (some ⟨b3,0,none⟩)),(3,.int .i64 ↑i),(85,.bool (decide ((((((n.target:ByteArray).data.getD (i) 0).toNat:Nat):Int):Int)=(0:Int))))]) (ak:=[((i:Nat):Int)=((i:Nat):Int),i<(n.target:ByteArray).size,b3=b3]) [o_,⟨[.at 1],none,none,none,none⟩,o_,⟨[],some i,none,none,none⟩,o_] [1,3,85] (λ_ _=>by kernel_rfl) ⟨rfl,by omega,rfl,trivial⟩ ?_
   refine af.nil (by kernel_rfl) (ah.next ?_)
   refine ai.aV (p:=(((((n.target:ByteArray).data.getD (i) 0).toNat:Nat):Int):Int)=(0:Int)) (λ_=>by kernel_rfl) (λqT=>?_) (λqT=>?_)
   ·refine ai.seq (ai.region (af.aq (k':=1) (fr':=[(2,.bool false)]) (ak:=[]) [o_] [2] (λ_ _=>by kernel_rfl) trivial ?_))
    refine af.nil (by kernel_rfl) (ah.next (ai.ret (ah.aG (ah.ay (ah.ay (ah.aG (ah.ay ?_)))))))
    exact ah.ret (v:=.bool false) (l:=[]) (ak:=[]) [] [0] (λ_=>by kernel_rfl) trivial rfl (by kernel_rfl) (⟨congrArg Value.bool (decide_eq_false (by intro g;have:=(bF.sym g.target (by omega)).2.2 i (by omega);unfold aW at this;omega)).symm,rfl⟩)
   refine ai.skip (ah.aJ (ah.next (ai.region ?_)))
   refine af.aq (k':=3) (fr':=[(1,.pointer (some ⟨b3,0,none⟩)),(3,.int .i64 ↑(i+1))]) (ak:=[(Value.int .i64 (IntKind.wrap .i64 (((i:Nat):Int)+1)))=(.int .i64 ↑(i+1))]) [o_,⟨[],none,none,none,some (.int .i64 ↑(i+1))⟩,o_] [1,3] (λ_ _=>by kernel_rfl) ⟨aP (by omega) (by omega) (by omega),trivial⟩ ?_
   refine af.nil (by kernel_rfl) ?_
   exact ah.turn ((i+1)) (idx:=[1,3]) (pk:=[0,1]) (show (((i+1))<=n.target.size)/\(∀j,j<((i+1))->¬aW n.target j=0) from ⟨by omega,λj hj=>by rcases Nat.lt_succ_iff_lt_or_eq.1 hj with h|h;exact hall j h;subst h;unfold aW;omega⟩) (by show n.target.size-((i+1))<n.target.size-i;omega) (λ_=>by kernel_rfl) rfl (by kernel_rfl)
  refine ai.exit (ah.aH (ah.aH (ah.bg (ah.next (ai.seq (ai.region ?_))))))
  refine af.aq (k':=5) (fr':=[(1,.pointer (some ⟨b3,0,none⟩)),(90,.bool (decide (((((n.target:ByteArray).size:Nat):Int):Int)>=(1:Int))))]) (ak:=[b3=b3]) [o_,⟨[.at 1],none,none,none,none⟩,o_,o_,o_] [1,90] (λ_ _=>by kernel_rfl) ⟨rfl,trivial⟩ ?_
  refine af.bO 90 (((((n.target:ByteArray).size:Nat):Int):Int)>=(1:Int)) (λ_=>by kernel_rfl) (λuG=>?_) (λuG=>?_)
  ·refine af.aq (k':=11) (fr':=[(2,.bool (decide (((((n.target:ByteArray).size:Nat):Int):Int)<=(4096:Int))))]) (ak:=[b3=b3]) [o_,⟨[.at 1],none,none,none,none⟩,o_,o_,o_,o_] [2] (λ_ _=>by kernel_rfl) ⟨rfl,trivial⟩ ?_
   refine af.nil (by kernel_rfl) (ah.next (ai.ret ?_))
   exact ah.ret (v:=.bool (decide (((((n.target:ByteArray).size:Nat):Int):Int)<=(4096:Int)))) (l:=[]) (ak:=[]) [] [0] (λ_=>by kernel_rfl) trivial rfl (by kernel_rfl) (⟨congrArg Value.bool (decide_eq_decide.2 (by have hA:iR n.target:=λj hj=>hall j (by omega);rw [bA];grind [bF])),rfl⟩)
  refine af.aq (k':=11) (fr':=[(2,.bool false)]) (ak:=[]) [o_,o_,o_,o_,o_,o_] [2] (λ_ _=>by kernel_rfl) trivial ?_
  refine af.nil (by kernel_rfl) (ah.next (ai.ret ?_))
  exact ah.ret (v:=.bool false) (l:=[]) (ak:=[]) [] [0] (λ_=>by kernel_rfl) trivial rfl (by kernel_rfl) (⟨congrArg Value.bool (decide_eq_false (by have hA:iR n.target:=λj hj=>hall j (by omega);rw [bA];grind [bF])).symm,rfl⟩)
 refine af.aq (k':=20) (fr':=[(1,.pointer (some ⟨b3,0,none⟩)),(67,.bool false)]) (ak:=[]) [o_,o_,o_,o_,o_,o_] [1,67] (λ_ _=>by kernel_rfl) trivial ?_
 refine af.nil (by kernel_rfl) (ah.next ?_)
 refine ai.cU (λ_=>by kernel_rfl) ?_
 refine ai.skip (ah.next (ai.seq (ai.seq (ai.region ?_))))
 refine af.aq (k':=3) (fr':=[(1,.pointer (some ⟨b3,0,none⟩)),(70,.bool (!(decide ((n.kind:Int)=(3:Int)))))]) (ak:=[b3=b3]) [o_,⟨[.at 1],none,none,none,none⟩,o_] [1,70] (λ_ _=>by kernel_rfl) ⟨rfl,trivial⟩ ?_
 refine af.nil (by kernel_rfl) (ah.next ?_)
 refine ai.cY (p:=(n.kind:Int)=(3:Int)) (λ_=>by kernel_rfl) (λuF=>?_) (λuF=>?_)
 ·refine ai.seq (ai.region (af.aq (k':=4) (fr':=[(2,.bool (decide ((n.target:ByteArray)=⟨#[]⟩)))]) (ak:=[(Value.bool ((n.target:ByteArray).toList == (⟨#[]⟩:ByteArray).toList))=(.bool (decide ((n.target:ByteArray)=⟨#[]⟩))),b3=b3]) [o_,⟨[.at 1],none,none,none,none⟩,⟨[],none,none,none,some (.bool (decide ((n.target:ByteArray)=⟨#[]⟩)))⟩,o_] [2] (λ_ _=>by kernel_rfl) ⟨eH _ _,rfl,trivial⟩ ?_))
  refine af.nil (by kernel_rfl) (ah.next (ai.ret (ah.ay ?_)))
  exact ah.ret (v:=.bool (decide ((n.target:ByteArray)=⟨#[]⟩))) (l:=[]) (ak:=[]) [] [0] (λ_=>by kernel_rfl) trivial rfl (by kernel_rfl) (⟨congrArg Value.bool (decide_eq_decide.2 (by rw [bA];grind [bF])),rfl⟩)
 refine ai.skip (ah.next (ai.seq (ai.seq (ai.region ?_))))
 refine af.aq (k':=1) (fr':=[(1,.pointer (some ⟨b3,0,none⟩)),(3,.int .i64 0)]) (ak:=[]) [o_] [1,3] (λ_ _=>by kernel_rfl) trivial ?_
 refine af.nil (by kernel_rfl) (ah.next (ai.block ?_))
 refine ai.loop (ι:=Nat) (λ(i:Nat)=>(i<=n.target.size)/\(∀j,j<i->¬aW n.target j=0)) (λ(i:Nat)=>n.target.size-i) (λ(i:Nat)=>[(1,.pointer (some ⟨b3,0,none⟩)),(3,.int .i64 ↑i)]) (λ(i:Nat)=>[.abs R,.blk b3 [.int .i64 (n.id),.int .i64 (n.kind),.int .i64 (n.mode),.int .i64 (n.uid),.int .i64 (n.gid),.int .i64 (n.sec),.int .i64 (n.nano),.slice dA (n.data.length) (dC),.string n.target,.slice eA (n.aj.length) (eC)] 32]) 0 (idx:=[1,3]) (pk:=[0,1]) (show (0<=n.target.size)/\(∀j,j<0->¬aW n.target j=0) from ⟨Nat.zero_le _,λj hj=>absurd hj (Nat.not_lt_zero j)⟩) (λ_=>by kernel_rfl) rfl (by kernel_rfl) ?_
 rintro i ⟨hi,hall⟩
 show ai _ _ _ _ [(1,.pointer (some ⟨b3,0,none⟩)),(3,.int .i64 ↑i)] [.abs R,.blk b3 [.int .i64 (n.id),.int .i64 (n.kind),.int .i64 (n.mode),.int .i64 (n.uid),.int .i64 (n.gid),.int .i64 (n.sec),.int .i64 (n.nano),.slice dA (n.data.length) (dC),.string n.target,.slice eA (n.aj.length) (eC)] 32] _
 refine ai.seq (ai.seq (ai.region (af.aq (k':=5) (fr':=[(1,.pointer (some ⟨b3,0,none⟩)),(3,.int .i64 ↑i),(78,.bool (decide ((((i:Nat):Int):Int)<((((n.target:ByteArray).size:Nat):Int):Int))))]) (ak:=[b3=b3]) [o_,o_,⟨[.at 1],none,none,none,none⟩,o_,o_] [1,3,78] (λ_ _=>by kernel_rfl) ⟨rfl,trivial⟩ ?_)))
 refine af.nil (by kernel_rfl) (ah.next ?_)
 refine ai.aV (p:=(((i:Nat):Int):Int)<((((n.target:ByteArray).size:Nat):Int):Int)) (λ_=>by kernel_rfl) (λqR=>?_) (λqR=>?_)
 ·refine ai.skip (ah.next (ai.seq (ai.block (ai.seq (ai.region ?_)))))
  refine af.aq (k':=5) (fr':=[(1,.pointer (some ⟨b3,0,none⟩)),(3,.int .i64 ↑i),(85,.bool (decide ((((((n.target:ByteArray).data.getD (i) 0).toNat:Nat):Int):Int)=(0:Int))))]) (ak:=[((i:Nat):Int)=((i:Nat):Int),i<(n.target:ByteArray).size,b3=b3]) [o_,⟨[.at 1],none,none,none,none⟩,o_,⟨[],some i,none,none,none⟩,o_] [1,3,85] (λ_ _=>by kernel_rfl) ⟨rfl,by omega,rfl,trivial⟩ ?_
  refine af.nil (by kernel_rfl) (ah.next ?_)
  refine ai.aV (p:=(((((n.target:ByteArray).data.getD (i) 0).toNat:Nat):Int):Int)=(0:Int)) (λ_=>by kernel_rfl) (λqT=>?_) (λqT=>?_)
  ·refine ai.seq (ai.region (af.aq (k':=1) (fr':=[(2,.bool false)]) (ak:=[]) [o_] [2] (λ_ _=>by kernel_rfl) trivial ?_))
   refine af.nil (by kernel_rfl) (ah.next (ai.ret (ah.aG (ah.ay (ah.ay (ah.aG (ah.ay ?_)))))))
   exact ah.ret (v:=.bool false) (l:=[]) (ak:=[]) [] [0] (λ_=>by kernel_rfl) trivial rfl (by kernel_rfl) (⟨congrArg Value.bool (decide_eq_false (by intro g;have:=(bF.sym g.target (by omega)).2.2 i (by omega);unfold aW at this;omega)).symm,rfl⟩)
  refine ai.skip (ah.aJ (ah.next (ai.region ?_)))
  refine af.aq (k':=3) (fr':=[(1,.pointer (some ⟨b3,0,none⟩)),(3,.int .i64 ↑(i+1))]) (ak:=[(Value.int .i64 (IntKind.wrap .i64 (((i:Nat):Int)+1)))=(.int .i64 ↑(i+1))]) [o_,⟨[],none,none,none,some (.int .i64 ↑(i+1))⟩,o_] [1,3] (λ_ _=>by kernel_rfl) ⟨aP (by omega) (by omega) (by omega),trivial⟩ ?_
  refine af.nil (by kernel_rfl) ?_
  exact ah.turn ((i+1)) (idx:=[1,3]) (pk:=[0,1]) (show (((i+1))<=n.target.size)/\(∀j,j<((i+1))->¬aW n.target j=0) from ⟨by omega,λj hj=>by rcases Nat.lt_succ_iff_lt_or_eq.1 hj with h|h;exact hall j h;subst h;unfold aW;omega⟩) (by show n.target.size-((i+1))<n.target.size-i;omega) (λ_=>by kernel_rfl) rfl (by kernel_rfl)
 refine ai.exit (ah.aH (ah.aH (ah.bg (ah.next (ai.seq (ai.region ?_))))))
 refine af.aq (k':=5) (fr':=[(1,.pointer (some ⟨b3,0,none⟩)),(90,.bool (decide (((((n.target:ByteArray).size:Nat):Int):Int)>=(1:Int))))]) (ak:=[b3=b3]) [o_,⟨[.at 1],none,none,none,none⟩,o_,o_,o_] [1,90] (λ_ _=>by kernel_rfl) ⟨rfl,trivial⟩ ?_
 refine af.bO 90 (((((n.target:ByteArray).size:Nat):Int):Int)>=(1:Int)) (λ_=>by kernel_rfl) (λuG=>?_) (λuG=>?_)
 ·refine af.aq (k':=11) (fr':=[(2,.bool (decide (((((n.target:ByteArray).size:Nat):Int):Int)<=(4096:Int))))]) (ak:=[b3=b3]) [o_,⟨[.at 1],none,none,none,none⟩,o_,o_,o_,o_] [2] (λ_ _=>by kernel_rfl) ⟨rfl,trivial⟩ ?_
  refine af.nil (by kernel_rfl) (ah.next (ai.ret ?_))
  exact ah.ret (v:=.bool (decide (((((n.target:ByteArray).size:Nat):Int):Int)<=(4096:Int)))) (l:=[]) (ak:=[]) [] [0] (λ_=>by kernel_rfl) trivial rfl (by kernel_rfl) (⟨congrArg Value.bool (decide_eq_decide.2 (by have hA:iR n.target:=λj hj=>hall j (by omega);rw [bA];grind [bF])),rfl⟩)
 refine af.aq (k':=11) (fr':=[(2,.bool false)]) (ak:=[]) [o_,o_,o_,o_,o_,o_] [2] (λ_ _=>by kernel_rfl) trivial ?_
 refine af.nil (by kernel_rfl) (ah.next (ai.ret ?_))
 exact ah.ret (v:=.bool false) (l:=[]) (ak:=[]) [] [0] (λ_=>by kernel_rfl) trivial rfl (by kernel_rfl) (⟨congrArg Value.bool (decide_eq_false (by have hA:iR n.target:=λj hj=>hall j (by omega);rw [bA];grind [bF])).symm,rfl⟩)
theorem lG {β:Bs} (A:Option Addr) (c:Nat) (ns:List aD) (L:Lay) (hG:aA β A ns L) (hr:d6 ns) (hl:ns.length<=1048576) (id:Int) :
 Spec Try.prog β 29 #[.agg #[.slice A ns.length c],.int .i64 id] [] (λv l=>v=.int .i64 (cL ns id)/\l=[]):=by
 refine Spec.enter Try.func29 rfl Try.ntmps29 (Nat.le_of_ble_eq_true rfl) (λR=>?_)
 refine ai.seq (ai.region (af.bD (k':=2) (fr':=λb4=>[(1,.int .i64 (id)),(2,.pointer (some ⟨b4,0,none⟩))]) (aL:=λb4=>[.abs R,.blk b4 [.slice A (ns.length) (c)] 24]) (ak:=λb4=>[]) [o_,o_] [1,2] [0,1] (λ_ _=>by kernel_rfl) (λb4=>trivial) (λb4=>?_)))
 refine af.nil (by kernel_rfl) (ah.next (ai.seq (ai.region ?_)))
 refine af.aq (k':=1) (fr':=[(1,.int .i64 (id)),(2,.pointer (some ⟨b4,0,none⟩)),(5,.int .i64 0)]) (ak:=[]) [o_] [1,2,5] (λ_ _=>by kernel_rfl) trivial ?_
 refine af.nil (by kernel_rfl) (ah.next (ai.seq (ai.region ?_)))
 refine af.aq (k':=4) (fr':=[(1,.int .i64 (id)),(2,.pointer (some ⟨b4,0,none⟩)),(5,.int .i64 0),(6,.int .i64 ↑ns.length)]) (ak:=[b4=b4]) [o_,⟨[.at 1],none,none,none,none⟩,o_,o_] [1,2,5,6] (λ_ _=>by kernel_rfl) ⟨rfl,trivial⟩ ?_
 refine af.nil (by kernel_rfl) (ah.next (ai.seq (ai.block ?_)))
 refine ai.loop (ι:=Nat×Nat) (λ((lo,hi):Nat×Nat)=>(lo<=hi)/\(hi<=ns.length)/\(∀j,j<lo->(nd ns j).id<id)/\(∀j,hi<=j->j<ns.length->id<=(nd ns j).id)) (λ((lo,hi):Nat×Nat)=>hi-lo) (λ((lo,hi):Nat×Nat)=>[(1,.int .i64 (id)),(2,.pointer (some ⟨b4,0,none⟩)),(5,.int .i64 ↑lo),(6,.int .i64 ↑hi)]) (λ((lo,hi):Nat×Nat)=>[.abs R,.blk b4 [.slice A (ns.length) (c)] 24]) (0,ns.length) (idx:=[1,2,5,6]) (pk:=[0,1]) (show (0<=ns.length)/\(ns.length<=ns.length)/\(∀j,j<0->(nd ns j).id<id)/\(∀j,ns.length<=j->j<ns.length->id<=(nd ns j).id) from ⟨Nat.zero_le _,Nat.le_refl _,λj hj=>absurd hj (Nat.not_lt_zero j),λj h1 h2=>absurd h2 (Nat.not_lt.2 h1)⟩) (λ_=>by kernel_rfl) rfl (by kernel_rfl) ?_
 rintro⟨lo,hi⟩ ⟨hlh,hhi,ha,hb⟩
 show ai _ _ _ _ [(1,.int .i64 (id)),(2,.pointer (some ⟨b4,0,none⟩)),(5,.int .i64 ↑lo),(6,.int .i64 ↑hi)] [.abs R,.blk b4 [.slice A (ns.length) (c)] 24] _
 refine ai.seq (ai.seq (ai.region (af.aq (k':=3) (fr':=[(1,.int .i64 (id)),(2,.pointer (some ⟨b4,0,none⟩)),(5,.int .i64 ↑lo),(6,.int .i64 ↑hi),(13,.bool (decide ((((lo:Nat):Int):Int)<(((hi:Nat):Int):Int))))]) (ak:=[]) [o_,o_,o_] [1,2,5,6,13] (λ_ _=>by kernel_rfl) trivial ?_)))
 refine af.nil (by kernel_rfl) (ah.next ?_)
 refine ai.aV (p:=(((lo:Nat):Int):Int)<(((hi:Nat):Int):Int)) (λ_=>by kernel_rfl) (λCv=>?_) (λCv=>?_)
 ·refine ai.skip (ah.next (ai.block (ai.seq (ai.region ?_))))
  refine af.aq (k':=7) (fr':=[(1,.int .i64 (id)),(2,.pointer (some ⟨b4,0,none⟩)),(5,.int .i64 ↑lo),(6,.int .i64 ↑hi),(7,.int .i64 ↑(lo+((hi-lo) / 2)))]) (ak:=[(Value.int .i64 (IntKind.wrap .i64 (((lo:Nat):Int)+(((hi-lo) / 2:Nat):Int))))=(.int .i64 ↑(lo+((hi-lo) / 2))),(Value.int .i64 (IntKind.wrap .i64 (Int.tdiv (((hi-lo):Nat):Int) 2)))=(.int .i64 ↑((hi-lo) / 2)),(Value.int .i64 (IntKind.wrap .i64 (((hi:Nat):Int)-((lo:Nat):Int))))=(.int .i64 ↑(hi-lo))]) [o_,o_,o_,⟨[],none,none,none,some (.int .i64 ↑(hi-lo))⟩,⟨[],none,none,none,some (.int .i64 ↑((hi-lo) / 2))⟩,⟨[],none,none,none,some (.int .i64 ↑(lo+((hi-lo) / 2)))⟩,o_] [1,2,5,6,7] (λ_ _=>by kernel_rfl) ⟨aP (by omega) (by omega) (by omega),aP (Int.ofNat_tdiv _ _).symm (by omega) (by omega),aP (by omega) (by omega) (by omega),trivial⟩ ?_
  refine af.nil (by kernel_rfl) (ah.next (ai.seq (ai.region ?_)))
  refine af.aq (k':=8) (fr':=[(1,.int .i64 (id)),(2,.pointer (some ⟨b4,0,none⟩)),(5,.int .i64 ↑lo),(6,.int .i64 ↑hi),(7,.int .i64 ↑(lo+((hi-lo) / 2))),(27,.bool (decide (((nd ns (lo+((hi-lo) / 2))).id:Int)<(id:Int))))]) (ak:=[(Rd β ⟨(au A),ar A+(lo+((hi-lo) / 2))*10,none⟩ (.int .i64 ((nd ns (lo+((hi-lo) / 2))).id))),((lo+((hi-lo) / 2):Nat):Int)=((lo+((hi-lo) / 2):Nat):Int),lo+((hi-lo) / 2)<ns.length,(⟨(au A),ar A,none⟩:Addr).spot=none,(A:Option Addr)=some ⟨(au A),ar A,none⟩,b4=b4]) [o_,⟨[.at 1],none,none,none,none⟩,o_,⟨[],some (lo+((hi-lo) / 2)),none,some ⟨(au A),ar A,none⟩,none⟩,o_,⟨[.old (.int .i64 ((nd ns (lo+((hi-lo) / 2))).id))],none,none,none,none⟩,o_,o_] [1,2,5,6,7,27] (λ_ _=>by kernel_rfl) ⟨aA.rd hG (i:=lo+((hi-lo) / 2)) (by omega) (j:=0) rfl,rfl,by omega,rfl,aA.hd hG (i:=lo+((hi-lo) / 2)) (by omega),rfl,trivial⟩ ?_
  refine af.nil (by kernel_rfl) (ah.next ?_)
  refine ai.aV (p:=((nd ns (lo+((hi-lo) / 2))).id:Int)<(id:Int)) (λ_=>by kernel_rfl) (λCy=>?_) (λCy=>?_)
  ·refine ai.region (af.aq (k':=3) (fr':=[(1,.int .i64 (id)),(2,.pointer (some ⟨b4,0,none⟩)),(5,.int .i64 ↑((lo+((hi-lo) / 2))+1)),(6,.int .i64 ↑hi)]) (ak:=[(Value.int .i64 (IntKind.wrap .i64 (((lo+((hi-lo) / 2):Nat):Int)+1)))=(.int .i64 ↑((lo+((hi-lo) / 2))+1))]) [o_,⟨[],none,none,none,some (.int .i64 ↑((lo+((hi-lo) / 2))+1))⟩,o_] [1,2,5,6] (λ_ _=>by kernel_rfl) ⟨aP (by omega) (by omega) (by omega),trivial⟩ ?_)
   refine af.nil (by kernel_rfl) (ah.aJ ?_)
   exact ah.turn (((lo+(hi-lo) / 2)+1),hi) (idx:=[1,2,5,6]) (pk:=[0,1]) (show ((((lo+(hi-lo) / 2)+1))<=hi)/\(hi<=ns.length)/\(∀j,j<(((lo+(hi-lo) / 2)+1))->(nd ns j).id<id)/\(∀j,hi<=j->j<ns.length->id<=(nd ns j).id) from ⟨by omega,by omega,λj hj=>by have:=hr.le (show j<=(lo+(hi-lo) / 2) by omega) (by omega);omega,hb⟩) (by show hi-(((lo+(hi-lo) / 2)+1))<hi-lo;omega) (λ_=>by kernel_rfl) rfl (by kernel_rfl)
  refine ai.region (af.aq (k':=2) (fr':=[(1,.int .i64 (id)),(2,.pointer (some ⟨b4,0,none⟩)),(5,.int .i64 ↑lo),(6,.int .i64 ↑(lo+((hi-lo) / 2)))]) (ak:=[]) [o_,o_] [1,2,5,6] (λ_ _=>by kernel_rfl) trivial ?_)
  refine af.nil (by kernel_rfl) (ah.aJ ?_)
  exact ah.turn (lo,(lo+(hi-lo) / 2)) (idx:=[1,2,5,6]) (pk:=[0,1]) (show (lo<=((lo+(hi-lo) / 2)))/\(((lo+(hi-lo) / 2))<=ns.length)/\(∀j,j<lo->(nd ns j).id<id)/\(∀j,((lo+(hi-lo) / 2))<=j->j<ns.length->id<=(nd ns j).id) from ⟨by omega,by omega,ha,λj hj hj2=>by have:=hr.le hj hj2;omega⟩) (by show ((lo+(hi-lo) / 2))-lo<hi-lo;omega) (λ_=>by kernel_rfl) rfl (by kernel_rfl)
 refine ai.exit (ah.aH (ah.aH (ah.bg (ah.next (ai.seq (ai.seq (ai.region ?_)))))))
 refine af.aq (k':=6) (fr':=[(1,.int .i64 (id)),(2,.pointer (some ⟨b4,0,none⟩)),(5,.int .i64 ↑lo),(36,.bool (decide ((((lo:Nat):Int):Int)<(((ns.length:Nat):Int):Int))))]) (ak:=[b4=b4]) [o_,o_,⟨[.at 1],none,none,none,none⟩,o_,o_,o_] [1,2,5,36] (λ_ _=>by kernel_rfl) ⟨rfl,trivial⟩ ?_
 refine af.bO 36 ((((lo:Nat):Int):Int)<(((ns.length:Nat):Int):Int)) (λ_=>by kernel_rfl) (λCC=>?_) (λCC=>?_)
 ·refine af.aq (k':=15) (fr':=[(5,.int .i64 ↑lo),(45,.bool (decide (((nd ns lo).id:Int)=(id:Int))))]) (ak:=[(Rd β ⟨(au A),ar A+lo*10,none⟩ (.int .i64 ((nd ns lo).id))),((lo:Nat):Int)=((lo:Nat):Int),lo<ns.length,(⟨(au A),ar A,none⟩:Addr).spot=none,(A:Option Addr)=some ⟨(au A),ar A,none⟩,b4=b4]) [o_,⟨[.at 1],none,none,none,none⟩,o_,⟨[],some lo,none,some ⟨(au A),ar A,none⟩,none⟩,o_,⟨[.old (.int .i64 ((nd ns lo).id))],none,none,none,none⟩,o_,o_,o_] [5,45] (λ_ _=>by kernel_rfl) ⟨aA.rd hG (i:=lo) (by omega) (j:=0) rfl,rfl,by omega,rfl,aA.hd hG (i:=lo) (by omega),rfl,trivial⟩ ?_
  refine af.nil (by kernel_rfl) (ah.next ?_)
  refine ai.aV (p:=((nd ns lo).id:Int)=(id:Int)) (λ_=>by kernel_rfl) (λsU=>?_) (λsU=>?_)
  ·refine ai.seq (ai.region (af.aq (k':=2) (fr':=[(4,.int .i64 ↑lo)]) (ak:=[]) [o_,o_] [4] (λ_ _=>by kernel_rfl) trivial ?_))
   refine af.nil (by kernel_rfl) (ah.next (ai.ret (ah.ay ?_)))
   exact ah.ret (v:=.int .i64 ↑lo) (l:=[]) (ak:=[]) [] [0] (λ_=>by kernel_rfl) trivial rfl (by kernel_rfl) (⟨congrArg (Value.int .i64) (p5 hr (by omega) sU).symm,rfl⟩)
  refine ai.skip (ah.next (ai.seq (ai.region ?_)))
  refine af.aq (k':=1) (fr':=[(4,.int .i64 (-1))]) (ak:=[]) [o_] [4] (λ_ _=>by kernel_rfl) trivial ?_
  refine af.nil (by kernel_rfl) (ah.next (ai.ret ?_))
  exact ah.ret (v:=.int .i64 (-1)) (l:=[]) (ak:=[]) [] [0] (λ_=>by kernel_rfl) trivial rfl (by kernel_rfl) (⟨congrArg (Value.int .i64) (ur (λj hj e=>by rcases Nat.lt_trichotomy j lo with h|h|h;have:=ha j h;omega;subst h;omega;have:=hr lo j h hj;have:=hb lo (by omega) (by omega);omega)).symm,rfl⟩)
 refine af.aq (k':=15) (fr':=[(5,.int .i64 ↑lo),(45,.bool false)]) (ak:=[]) [o_,o_,o_,o_,o_,o_,o_,o_,o_] [5,45] (λ_ _=>by kernel_rfl) trivial ?_
 refine af.nil (by kernel_rfl) (ah.next ?_)
 refine ai.cU (λ_=>by kernel_rfl) ?_
 refine ai.skip (ah.next (ai.seq (ai.region ?_)))
 refine af.aq (k':=1) (fr':=[(4,.int .i64 (-1))]) (ak:=[]) [o_] [4] (λ_ _=>by kernel_rfl) trivial ?_
 refine af.nil (by kernel_rfl) (ah.next (ai.ret ?_))
 exact ah.ret (v:=.int .i64 (-1)) (l:=[]) (ak:=[]) [] [0] (λ_=>by kernel_rfl) trivial rfl (by kernel_rfl) (⟨congrArg (Value.int .i64) (ur (λj hj e=>by rcases Nat.lt_trichotomy j lo with h|h|h;have:=ha j h;omega;subst h;omega;have:=hr lo j h hj;have:=hb lo (by omega) (by omega);omega)).symm,rfl⟩)
theorem oX {β:Bs} (A:Option Addr) (ns:List aD) (L:Lay) (hG:aA β A ns L) (i:Nat) (hi:i<ns.length) :
 Spec Try.prog β 71 #[.pointer (some ⟨(au A),ar A+i*10,none⟩)] [] (λv l=>v=.bool (decide (bF (nd ns i).kind (nd ns i).target))/\l=[]):=by
 refine Spec.enter Try.func71 rfl Try.ntmps71 (Nat.le_of_ble_eq_true rfl) (λR=>?_)
 refine ai.seq (ai.region (af.aq (k':=1) (fr':=[(0,.pointer (some ⟨(au A),ar A+i*10,none⟩))]) (ak:=[]) [o_] [0] (λ_ _=>by kernel_rfl) trivial ?_))
 refine af.nil (by kernel_rfl) (ah.next (ai.seq (ai.seq (ai.region ?_))))
 refine af.aq (k':=5) (fr':=[(0,.pointer (some ⟨(au A),ar A+i*10,none⟩)),(7,.bool (!(decide (((nd ns i).kind:Int)=(3:Int)))))]) (ak:=[(Rd β ⟨(au A),ar A+i*10+1,none⟩ (.int .i64 ((nd ns i).kind)))]) [o_,o_,o_,⟨[.old (.int .i64 ((nd ns i).kind))],none,none,none,none⟩,o_] [0,7] (λ_ _=>by kernel_rfl) ⟨aA.rd hG (i:=i) (by omega) (j:=1) rfl,trivial⟩ ?_
 refine af.nil (by kernel_rfl) (ah.next ?_)
 refine ai.cY (p:=((nd ns i).kind:Int)=(3:Int)) (λ_=>by kernel_rfl) (λh7=>?_) (λh7=>?_)
 ·refine ai.seq (ai.region (af.aq (k':=6) (fr':=[(2,.bool (decide (((nd ns i).target:ByteArray)=⟨#[]⟩)))]) (ak:=[(Value.bool (((nd ns i).target:ByteArray).toList == (⟨#[]⟩:ByteArray).toList))=(.bool (decide (((nd ns i).target:ByteArray)=⟨#[]⟩))),(Rd β ⟨(au A),ar A+i*10+8,none⟩ (.string (nd ns i).target))]) [o_,o_,o_,⟨[.old (.string (nd ns i).target)],none,none,none,none⟩,⟨[],none,none,none,some (.bool (decide (((nd ns i).target:ByteArray)=⟨#[]⟩)))⟩,o_] [2] (λ_ _=>by kernel_rfl) ⟨eH _ _,aA.rd hG (i:=i) (by omega) (j:=8) rfl,trivial⟩ ?_))
  refine af.nil (by kernel_rfl) (ah.next (ai.ret (ah.ay ?_)))
  exact ah.ret (v:=.bool (decide (((nd ns i).target:ByteArray)=⟨#[]⟩))) (l:=[]) (ak:=[]) [] [0] (λ_=>by kernel_rfl) trivial rfl (by kernel_rfl) (⟨congrArg Value.bool (decide_eq_decide.2 (by have h0:=iq (s:=(nd ns i).target);grind [bF])),rfl⟩)
 refine ai.skip (ah.next (ai.seq (ai.region ?_)))
 refine af.aq (k':=6) (fr':=[(0,.pointer (some ⟨(au A),ar A+i*10,none⟩)),(18,.bool (!(decide (((nd ns i).target:ByteArray)=⟨#[]⟩))))]) (ak:=[(Value.bool (!(((nd ns i).target:ByteArray).toList == (⟨#[]⟩:ByteArray).toList)))=(.bool (!(decide (((nd ns i).target:ByteArray)=⟨#[]⟩)))),(Rd β ⟨(au A),ar A+i*10+8,none⟩ (.string (nd ns i).target))]) [o_,o_,o_,⟨[.old (.string (nd ns i).target)],none,none,none,none⟩,⟨[],none,none,none,some (.bool (!(decide (((nd ns i).target:ByteArray)=⟨#[]⟩))))⟩,o_] [0,18] (λ_ _=>by kernel_rfl) ⟨mK _ _,aA.rd hG (i:=i) (by omega) (j:=8) rfl,trivial⟩ ?_
 refine af.eO 18 (((nd ns i).target:ByteArray)=⟨#[]⟩) (λ_=>by kernel_rfl) (λlD=>?_) (λlD=>?_)
 ·refine af.aq (k':=14) (fr':=[(0,.pointer (some ⟨(au A),ar A+i*10,none⟩)),(26,.bool (decide ((((((nd ns i).target:ByteArray).size:Nat):Int):Int)<=(4096:Int))))]) (ak:=[(Rd β ⟨(au A),ar A+i*10+8,none⟩ (.string (nd ns i).target))]) [o_,o_,o_,⟨[.old (.string (nd ns i).target)],none,none,none,none⟩,o_,o_,o_,o_] [0,26] (λ_ _=>by kernel_rfl) ⟨aA.rd hG (i:=i) (by omega) (j:=8) rfl,trivial⟩ ?_
  refine af.bO 26 ((((((nd ns i).target:ByteArray).size:Nat):Int):Int)<=(4096:Int)) (λ_=>by kernel_rfl) (λkS=>?_) (λkS=>?_)
  ·refine af.aq (k':=18) (fr':=[(26,.bool true),(30,.string (nd ns i).target)]) (ak:=[(Rd β ⟨(au A),ar A+i*10+8,none⟩ (.string (nd ns i).target))]) [o_,o_,o_,⟨[.old (.string (nd ns i).target)],none,none,none,none⟩] [26,30] (λ_ _=>by kernel_rfl) ⟨aA.rd hG (i:=i) (by omega) (j:=8) rfl,trivial⟩ ?_
   refine af.call (f:=77) (args:=#[.string (nd ns i).target,.int .u8 0]) (d:=(some 31)) (pre:=[]) (R:=[.abs R]) (pk:=[0]) (λ_=>by kernel_rfl) (Spec.quiet (λw=>Try.strings_IndexByte (nd ns i).target 0 w)) rfl (by kernel_rfl) ?_
   rintro _ _ ⟨rfl,rfl⟩
   refine af.aq (k':=22) (fr':=[(2,.bool (decide ((Lib.indexByte (nd ns i).target.data.toList (0:Int).toNat.toUInt8:Int)<(0:Int))))]) (ak:=[]) [o_,o_,o_] [2] (λ_ _=>by kernel_rfl) trivial ?_
   refine af.nil (by kernel_rfl) (ah.next (ai.ret ?_))
   exact ah.ret (v:=.bool (decide ((Lib.indexByte (nd ns i).target.data.toList (0:Int).toNat.toUInt8:Int)<(0:Int)))) (l:=[]) (ak:=[]) [] [0] (λ_=>by kernel_rfl) trivial rfl (by kernel_rfl) (⟨congrArg Value.bool (decide_eq_decide.2 (by have h0:=iq (s:=(nd ns i).target);rw [uw];grind [bF])),rfl⟩)
  refine af.aq (k':=22) (fr':=[(2,.bool false)]) (ak:=[]) [o_,o_,o_,o_,o_,o_,o_,o_] [2] (λ_ _=>by kernel_rfl) trivial ?_
  refine af.nil (by kernel_rfl) (ah.next (ai.ret ?_))
  exact ah.ret (v:=.bool false) (l:=[]) (ak:=[]) [] [0] (λ_=>by kernel_rfl) trivial rfl (by kernel_rfl) (⟨congrArg Value.bool (decide_eq_false (by have h0:=iq (s:=(nd ns i).target);grind [bF])).symm,rfl⟩)
 refine af.aq (k':=22) (fr':=[(2,.bool false)]) (ak:=[]) [o_,o_,o_,o_,o_,o_,o_,o_,o_,o_,o_,o_,o_,o_,o_,o_] [2] (λ_ _=>by kernel_rfl) trivial ?_
 refine af.nil (by kernel_rfl) (ah.next (ai.ret ?_))
 exact ah.ret (v:=.bool false) (l:=[]) (ak:=[]) [] [0] (λ_=>by kernel_rfl) trivial rfl (by kernel_rfl) (⟨congrArg Value.bool (decide_eq_false (by have h0:=iq (s:=(nd ns i).target);grind [bF])).symm,rfl⟩)
theorem zL {β:Bs} (A:Option Addr) (ns:List aD) (L:Lay) (hG:aA β A ns L) (i:Nat) (hi:i<ns.length) :
 Spec Try.prog β 58 #[.pointer (some ⟨(au A),ar A+i*10,none⟩)] [] (λv l=>v=.bool (decide (fV (nd ns i)))/\l=[]):=by
 refine Spec.enter Try.func58 rfl Try.ntmps58 (Nat.le_of_ble_eq_true rfl) (λR=>?_)
 refine ai.seq (ai.region (af.aq (k':=1) (fr':=[(0,.pointer (some ⟨(au A),ar A+i*10,none⟩))]) (ak:=[]) [o_] [0] (λ_ _=>by kernel_rfl) trivial ?_))
 refine af.nil (by kernel_rfl) (ah.next (ai.seq (ai.seq (ai.region ?_))))
 refine af.aq (k':=4) (fr':=[(0,.pointer (some ⟨(au A),ar A+i*10,none⟩)),(6,.int .i64 ((nd ns i).kind))]) (ak:=[(Rd β ⟨(au A),ar A+i*10+1,none⟩ (.int .i64 ((nd ns i).kind)))]) [o_,o_,o_,⟨[.old (.int .i64 ((nd ns i).kind))],none,none,none,none⟩] [0,6] (λ_ _=>by kernel_rfl) ⟨aA.rd hG (i:=i) (by omega) (j:=1) rfl,trivial⟩ ?_
 refine af.call (f:=69) (args:=#[.int .i64 ((nd ns i).kind),.int .i64 1,.int .i64 3]) (d:=(some 7)) (pre:=[]) (R:=[.abs R]) (pk:=[0]) (λ_=>by kernel_rfl) (lE ((nd ns i).kind) 1 3) rfl (by kernel_rfl) ?_
 rintro _ _ ⟨rfl,rfl⟩
 refine af.aq (k':=7) (fr':=[(0,.pointer (some ⟨(au A),ar A+i*10,none⟩)),(9,.bool (!(decide (Within ((nd ns i).kind) 1 3))))]) (ak:=[]) [o_,o_] [0,9] (λ_ _=>by kernel_rfl) trivial ?_
 refine af.eO 9 (Within ((nd ns i).kind) 1 3) (λ_=>by kernel_rfl) (λh9=>?_) (λh9=>?_)
 ·refine af.aq (k':=30) (fr':=[(0,.pointer (some ⟨(au A),ar A+i*10,none⟩)),(32,.bool true)]) (ak:=[]) [o_,o_,o_,o_,o_,o_,o_,o_,o_,o_,o_,o_,o_,o_,o_,o_,o_,o_,o_,o_,o_,o_,o_] [0,32] (λ_ _=>by kernel_rfl) trivial ?_
  refine af.nil (by kernel_rfl) (ah.next ?_)
  refine ai.bL (λ_=>by kernel_rfl) ?_
  refine ai.seq (ai.region (af.aq (k':=1) (fr':=[(2,.bool false)]) (ak:=[]) [o_] [2] (λ_ _=>by kernel_rfl) trivial ?_))
  refine af.nil (by kernel_rfl) (ah.next (ai.ret (ah.ay ?_)))
  exact ah.ret (v:=.bool false) (l:=[]) (ak:=[]) [] [0] (λ_=>by kernel_rfl) trivial rfl (by kernel_rfl) (⟨congrArg Value.bool (decide_eq_false (by rw [bA];unfold Within at *;grind)).symm,rfl⟩)
 refine af.aq (k':=11) (fr':=[(0,.pointer (some ⟨(au A),ar A+i*10,none⟩)),(9,.bool false),(13,.int .i64 ((nd ns i).mode))]) (ak:=[(Rd β ⟨(au A),ar A+i*10+2,none⟩ (.int .i64 ((nd ns i).mode)))]) [o_,o_,o_,⟨[.old (.int .i64 ((nd ns i).mode))],none,none,none,none⟩] [0,9,13] (λ_ _=>by kernel_rfl) ⟨aA.rd hG (i:=i) (by omega) (j:=2) rfl,trivial⟩ ?_
 refine af.call (f:=69) (args:=#[.int .i64 ((nd ns i).mode),.int .i64 0,.int .i64 4095]) (d:=(some 14)) (pre:=[]) (R:=[.abs R]) (pk:=[0]) (λ_=>by kernel_rfl) (lE ((nd ns i).mode) 0 4095) rfl (by kernel_rfl) ?_
 rintro _ _ ⟨rfl,rfl⟩
 refine af.aq (k':=15) (fr':=[(0,.pointer (some ⟨(au A),ar A+i*10,none⟩)),(17,.bool (!(decide (Within ((nd ns i).mode) 0 4095))))]) (ak:=[]) [o_,o_,o_] [0,17] (λ_ _=>by kernel_rfl) trivial ?_
 refine af.eO 17 (Within ((nd ns i).mode) 0 4095) (λ_=>by kernel_rfl) (λmP=>?_) (λmP=>?_)
 ·refine af.aq (k':=30) (fr':=[(0,.pointer (some ⟨(au A),ar A+i*10,none⟩)),(32,.bool true)]) (ak:=[]) [o_,o_,o_,o_,o_,o_,o_,o_,o_,o_,o_,o_,o_,o_,o_] [0,32] (λ_ _=>by kernel_rfl) trivial ?_
  refine af.nil (by kernel_rfl) (ah.next ?_)
  refine ai.bL (λ_=>by kernel_rfl) ?_
  refine ai.seq (ai.region (af.aq (k':=1) (fr':=[(2,.bool false)]) (ak:=[]) [o_] [2] (λ_ _=>by kernel_rfl) trivial ?_))
  refine af.nil (by kernel_rfl) (ah.next (ai.ret (ah.ay ?_)))
  exact ah.ret (v:=.bool false) (l:=[]) (ak:=[]) [] [0] (λ_=>by kernel_rfl) trivial rfl (by kernel_rfl) (⟨congrArg Value.bool (decide_eq_false (by rw [bA];unfold Within at *;grind)).symm,rfl⟩)
 refine af.aq (k':=19) (fr':=[(0,.pointer (some ⟨(au A),ar A+i*10,none⟩)),(17,.bool false),(21,.int .i64 ((nd ns i).uid))]) (ak:=[(Rd β ⟨(au A),ar A+i*10+3,none⟩ (.int .i64 ((nd ns i).uid)))]) [o_,o_,o_,⟨[.old (.int .i64 ((nd ns i).uid))],none,none,none,none⟩] [0,17,21] (λ_ _=>by kernel_rfl) ⟨aA.rd hG (i:=i) (by omega) (j:=3) rfl,trivial⟩ ?_
 refine af.call (f:=69) (args:=#[.int .i64 ((nd ns i).uid),.int .i64 0,.int .i64 2147483647]) (d:=(some 22)) (pre:=[]) (R:=[.abs R]) (pk:=[0]) (λ_=>by kernel_rfl) (lE ((nd ns i).uid) 0 2147483647) rfl (by kernel_rfl) ?_
 rintro _ _ ⟨rfl,rfl⟩
 refine af.aq (k':=23) (fr':=[(0,.pointer (some ⟨(au A),ar A+i*10,none⟩)),(25,.bool (!(decide (Within ((nd ns i).uid) 0 2147483647))))]) (ak:=[]) [o_,o_,o_] [0,25] (λ_ _=>by kernel_rfl) trivial ?_
 refine af.eO 25 (Within ((nd ns i).uid) 0 2147483647) (λ_=>by kernel_rfl) (λoe=>?_) (λoe=>?_)
 ·refine af.aq (k':=30) (fr':=[(0,.pointer (some ⟨(au A),ar A+i*10,none⟩)),(32,.bool true)]) (ak:=[]) [o_,o_,o_,o_,o_,o_,o_] [0,32] (λ_ _=>by kernel_rfl) trivial ?_
  refine af.nil (by kernel_rfl) (ah.next ?_)
  refine ai.bL (λ_=>by kernel_rfl) ?_
  refine ai.seq (ai.region (af.aq (k':=1) (fr':=[(2,.bool false)]) (ak:=[]) [o_] [2] (λ_ _=>by kernel_rfl) trivial ?_))
  refine af.nil (by kernel_rfl) (ah.next (ai.ret (ah.ay ?_)))
  exact ah.ret (v:=.bool false) (l:=[]) (ak:=[]) [] [0] (λ_=>by kernel_rfl) trivial rfl (by kernel_rfl) (⟨congrArg Value.bool (decide_eq_false (by rw [bA];unfold Within at *;grind)).symm,rfl⟩)
 refine af.aq (k':=27) (fr':=[(0,.pointer (some ⟨(au A),ar A+i*10,none⟩)),(25,.bool false),(29,.int .i64 ((nd ns i).gid))]) (ak:=[(Rd β ⟨(au A),ar A+i*10+4,none⟩ (.int .i64 ((nd ns i).gid)))]) [o_,o_,o_,⟨[.old (.int .i64 ((nd ns i).gid))],none,none,none,none⟩] [0,25,29] (λ_ _=>by kernel_rfl) ⟨aA.rd hG (i:=i) (by omega) (j:=4) rfl,trivial⟩ ?_
 refine af.call (f:=69) (args:=#[.int .i64 ((nd ns i).gid),.int .i64 0,.int .i64 2147483647]) (d:=(some 30)) (pre:=[]) (R:=[.abs R]) (pk:=[0]) (λ_=>by kernel_rfl) (lE ((nd ns i).gid) 0 2147483647) rfl (by kernel_rfl) ?_
 rintro _ _ ⟨rfl,rfl⟩
 refine af.aq (k':=30) (fr':=[(0,.pointer (some ⟨(au A),ar A+i*10,none⟩)),(32,.bool (!(decide (Within ((nd ns i).gid) 0 2147483647))))]) (ak:=[]) [o_,o_] [0,32] (λ_ _=>by kernel_rfl) trivial ?_
 refine af.nil (by kernel_rfl) (ah.next ?_)
 refine ai.cY (p:=Within ((nd ns i).gid) 0 2147483647) (λ_=>by kernel_rfl) (λpH=>?_) (λpH=>?_)
 ·refine ai.seq (ai.region (af.aq (k':=1) (fr':=[(2,.bool false)]) (ak:=[]) [o_] [2] (λ_ _=>by kernel_rfl) trivial ?_))
  refine af.nil (by kernel_rfl) (ah.next (ai.ret (ah.ay ?_)))
  exact ah.ret (v:=.bool false) (l:=[]) (ak:=[]) [] [0] (λ_=>by kernel_rfl) trivial rfl (by kernel_rfl) (⟨congrArg Value.bool (decide_eq_false (by rw [bA];unfold Within at *;grind)).symm,rfl⟩)
 refine ai.skip (ah.next (ai.seq (ai.seq (ai.region ?_))))
 refine af.aq (k':=6) (fr':=[(0,.pointer (some ⟨(au A),ar A+i*10,none⟩)),(38,.bool (!(decide (((nd ns i).kind:Int)=(1:Int)))))]) (ak:=[(Rd β ⟨(au A),ar A+i*10+1,none⟩ (.int .i64 ((nd ns i).kind)))]) [o_,o_,o_,⟨[.old (.int .i64 ((nd ns i).kind))],none,none,none,none⟩,o_,o_] [0,38] (λ_ _=>by kernel_rfl) ⟨aA.rd hG (i:=i) (by omega) (j:=1) rfl,trivial⟩ ?_
 refine af.eO 38 (((nd ns i).kind:Int)=(1:Int)) (λ_=>by kernel_rfl) (λuH=>?_) (λuH=>?_)
 ·refine af.aq (k':=14) (fr':=[(0,.pointer (some ⟨(au A),ar A+i*10,none⟩)),(46,.bool (decide (((((nd ns i).data.length:Nat):Int):Int)>(0:Int))))]) (ak:=[(Rd β ⟨(au A),ar A+i*10+7,none⟩ (.slice (L.dA i) ((nd ns i).data.length) ((L.dC i))))]) [o_,o_,o_,⟨[.old (.slice (L.dA i) ((nd ns i).data.length) ((L.dC i)))],none,none,none,none⟩,o_,o_,o_,o_] [0,46] (λ_ _=>by kernel_rfl) ⟨aA.rd hG (i:=i) (by omega) (j:=7) rfl,trivial⟩ ?_
  refine af.bO 46 (((((nd ns i).data.length:Nat):Int):Int)>(0:Int)) (λ_=>by kernel_rfl) (λh46=>?_) (λh46=>?_)
  ·refine af.aq (k':=28) (fr':=[(0,.pointer (some ⟨(au A),ar A+i*10,none⟩)),(60,.bool true)]) (ak:=[]) [o_,o_,o_,o_,o_,o_,o_,o_,o_,o_,o_,o_,o_,o_] [0,60] (λ_ _=>by kernel_rfl) trivial ?_
   refine af.nil (by kernel_rfl) (ah.next ?_)
   refine ai.bL (λ_=>by kernel_rfl) ?_
   refine ai.seq (ai.region (af.aq (k':=1) (fr':=[(2,.bool false)]) (ak:=[]) [o_] [2] (λ_ _=>by kernel_rfl) trivial ?_))
   refine af.nil (by kernel_rfl) (ah.next (ai.ret (ah.ay ?_)))
   exact ah.ret (v:=.bool false) (l:=[]) (ak:=[]) [] [0] (λ_=>by kernel_rfl) trivial rfl (by kernel_rfl) (⟨congrArg Value.bool (decide_eq_false (by rw [bA];unfold Within at *;grind)).symm,rfl⟩)
  refine af.aq (k':=20) (fr':=[(0,.pointer (some ⟨(au A),ar A+i*10,none⟩)),(46,.bool false),(52,.bool (!(decide (((nd ns i).kind:Int)=(2:Int)))))]) (ak:=[(Rd β ⟨(au A),ar A+i*10+1,none⟩ (.int .i64 ((nd ns i).kind)))]) [o_,o_,o_,⟨[.old (.int .i64 ((nd ns i).kind))],none,none,none,none⟩,o_,o_] [0,46,52] (λ_ _=>by kernel_rfl) ⟨aA.rd hG (i:=i) (by omega) (j:=1) rfl,trivial⟩ ?_
  refine af.eO 52 (((nd ns i).kind:Int)=(2:Int)) (λ_=>by kernel_rfl) (λqU=>?_) (λqU=>?_)
  ·refine af.aq (k':=28) (fr':=[(0,.pointer (some ⟨(au A),ar A+i*10,none⟩)),(60,.bool (decide (((((nd ns i).aj.length:Nat):Int):Int)>(0:Int))))]) (ak:=[(Rd β ⟨(au A),ar A+i*10+9,none⟩ (.slice (L.eA i) ((nd ns i).aj.length) ((L.eC i))))]) [o_,o_,o_,⟨[.old (.slice (L.eA i) ((nd ns i).aj.length) ((L.eC i)))],none,none,none,none⟩,o_,o_,o_,o_] [0,60] (λ_ _=>by kernel_rfl) ⟨aA.rd hG (i:=i) (by omega) (j:=9) rfl,trivial⟩ ?_
   refine af.nil (by kernel_rfl) (ah.next ?_)
   refine ai.aV (p:=((((nd ns i).aj.length:Nat):Int):Int)>(0:Int)) (λ_=>by kernel_rfl) (λoA=>?_) (λoA=>?_)
   ·refine ai.seq (ai.region (af.aq (k':=1) (fr':=[(2,.bool false)]) (ak:=[]) [o_] [2] (λ_ _=>by kernel_rfl) trivial ?_))
    refine af.nil (by kernel_rfl) (ah.next (ai.ret (ah.ay ?_)))
    exact ah.ret (v:=.bool false) (l:=[]) (ak:=[]) [] [0] (λ_=>by kernel_rfl) trivial rfl (by kernel_rfl) (⟨congrArg Value.bool (decide_eq_false (by rw [bA];unfold Within at *;grind)).symm,rfl⟩)
   refine ai.skip (ah.next (ai.seq (ai.region ?_)))
   refine af.aq (k':=4) (fr':=[(0,.pointer (some ⟨(au A),ar A+i*10,none⟩)),(64,.agg #[.int .i64 ((nd ns i).sec),.int .i64 ((nd ns i).nano)])]) (ak:=[(Rd β ⟨(au A),ar A+i*10+5+1,none⟩ (.int .i64 ((nd ns i).nano))),(Rd β ⟨(au A),ar A+i*10+5,none⟩ (.int .i64 ((nd ns i).sec)))]) [o_,o_,o_,⟨[.old (.int .i64 ((nd ns i).sec)),.old (.int .i64 ((nd ns i).nano))],none,none,none,none⟩] [0,64] (λ_ _=>by kernel_rfl) ⟨aA.rd hG (i:=i) (by omega) (j:=6) rfl,aA.rd hG (i:=i) (by omega) (j:=5) rfl,trivial⟩ ?_
   refine af.call (f:=70) (args:=#[.agg #[.int .i64 ((nd ns i).sec),.int .i64 ((nd ns i).nano)]]) (d:=(some 65)) (pre:=[]) (R:=[.abs R]) (pk:=[0]) (λ_=>by kernel_rfl) (iT (nd ns i).sec (nd ns i).nano) rfl (by kernel_rfl) ?_
   rintro _ _ ⟨rfl,rfl⟩
   refine af.aq (k':=6) (fr':=[(0,.pointer (some ⟨(au A),ar A+i*10,none⟩)),(66,.bool (decide (dU (nd ns i).sec (nd ns i).nano)))]) (ak:=[]) [o_] [0,66] (λ_ _=>by kernel_rfl) trivial ?_
   refine af.bO 66 (dU (nd ns i).sec (nd ns i).nano) (λ_=>by kernel_rfl) (λqV=>?_) (λqV=>?_)
   ·refine af.aq (k':=7) (fr':=[(66,.bool true),(67,.pointer (some ⟨(au A),ar A+i*10,none⟩))]) (ak:=[]) [o_] [66,67] (λ_ _=>by kernel_rfl) trivial ?_
    refine af.call (f:=71) (args:=#[.pointer (some ⟨(au A),ar A+i*10,none⟩)]) (d:=(some 68)) (pre:=[]) (R:=[.abs R]) (pk:=[0]) (λ_=>by kernel_rfl) (oX A ns L hG i hi) rfl (by kernel_rfl) ?_
    rintro _ _ ⟨rfl,rfl⟩
    refine af.aq (k':=10) (fr':=[(2,.bool (decide (bF (nd ns i).kind (nd ns i).target)))]) (ak:=[]) [o_,o_] [2] (λ_ _=>by kernel_rfl) trivial ?_
    refine af.nil (by kernel_rfl) (ah.next (ai.ret ?_))
    exact ah.ret (v:=.bool (decide (bF (nd ns i).kind (nd ns i).target))) (l:=[]) (ak:=[]) [] [0] (λ_=>by kernel_rfl) trivial rfl (by kernel_rfl) (⟨congrArg Value.bool (decide_eq_decide.2 (by rw [bA];unfold Within at *;grind)),rfl⟩)
   refine af.aq (k':=10) (fr':=[(2,.bool false)]) (ak:=[]) [o_,o_,o_,o_] [2] (λ_ _=>by kernel_rfl) trivial ?_
   refine af.nil (by kernel_rfl) (ah.next (ai.ret ?_))
   exact ah.ret (v:=.bool false) (l:=[]) (ak:=[]) [] [0] (λ_=>by kernel_rfl) trivial rfl (by kernel_rfl) (⟨congrArg Value.bool (decide_eq_false (by rw [bA];unfold Within at *;grind)).symm,rfl⟩)
  refine af.aq (k':=28) (fr':=[(0,.pointer (some ⟨(au A),ar A+i*10,none⟩)),(60,.bool false)]) (ak:=[]) [o_,o_,o_,o_,o_,o_,o_,o_] [0,60] (λ_ _=>by kernel_rfl) trivial ?_
  refine af.nil (by kernel_rfl) (ah.next ?_)
  refine ai.cU (λ_=>by kernel_rfl) ?_
  refine ai.skip (ah.next (ai.seq (ai.region ?_)))
  refine af.aq (k':=4) (fr':=[(0,.pointer (some ⟨(au A),ar A+i*10,none⟩)),(64,.agg #[.int .i64 ((nd ns i).sec),.int .i64 ((nd ns i).nano)])]) (ak:=[(Rd β ⟨(au A),ar A+i*10+5+1,none⟩ (.int .i64 ((nd ns i).nano))),(Rd β ⟨(au A),ar A+i*10+5,none⟩ (.int .i64 ((nd ns i).sec)))]) [o_,o_,o_,⟨[.old (.int .i64 ((nd ns i).sec)),.old (.int .i64 ((nd ns i).nano))],none,none,none,none⟩] [0,64] (λ_ _=>by kernel_rfl) ⟨aA.rd hG (i:=i) (by omega) (j:=6) rfl,aA.rd hG (i:=i) (by omega) (j:=5) rfl,trivial⟩ ?_
  refine af.call (f:=70) (args:=#[.agg #[.int .i64 ((nd ns i).sec),.int .i64 ((nd ns i).nano)]]) (d:=(some 65)) (pre:=[]) (R:=[.abs R]) (pk:=[0]) (λ_=>by kernel_rfl) (iT (nd ns i).sec (nd ns i).nano) rfl (by kernel_rfl) ?_
  rintro _ _ ⟨rfl,rfl⟩
  refine af.aq (k':=6) (fr':=[(0,.pointer (some ⟨(au A),ar A+i*10,none⟩)),(66,.bool (decide (dU (nd ns i).sec (nd ns i).nano)))]) (ak:=[]) [o_] [0,66] (λ_ _=>by kernel_rfl) trivial ?_
  refine af.bO 66 (dU (nd ns i).sec (nd ns i).nano) (λ_=>by kernel_rfl) (λqV=>?_) (λqV=>?_)
  ·refine af.aq (k':=7) (fr':=[(66,.bool true),(67,.pointer (some ⟨(au A),ar A+i*10,none⟩))]) (ak:=[]) [o_] [66,67] (λ_ _=>by kernel_rfl) trivial ?_
   refine af.call (f:=71) (args:=#[.pointer (some ⟨(au A),ar A+i*10,none⟩)]) (d:=(some 68)) (pre:=[]) (R:=[.abs R]) (pk:=[0]) (λ_=>by kernel_rfl) (oX A ns L hG i hi) rfl (by kernel_rfl) ?_
   rintro _ _ ⟨rfl,rfl⟩
   refine af.aq (k':=10) (fr':=[(2,.bool (decide (bF (nd ns i).kind (nd ns i).target)))]) (ak:=[]) [o_,o_] [2] (λ_ _=>by kernel_rfl) trivial ?_
   refine af.nil (by kernel_rfl) (ah.next (ai.ret ?_))
   exact ah.ret (v:=.bool (decide (bF (nd ns i).kind (nd ns i).target))) (l:=[]) (ak:=[]) [] [0] (λ_=>by kernel_rfl) trivial rfl (by kernel_rfl) (⟨congrArg Value.bool (decide_eq_decide.2 (by rw [bA];unfold Within at *;grind)),rfl⟩)
  refine af.aq (k':=10) (fr':=[(2,.bool false)]) (ak:=[]) [o_,o_,o_,o_] [2] (λ_ _=>by kernel_rfl) trivial ?_
  refine af.nil (by kernel_rfl) (ah.next (ai.ret ?_))
  exact ah.ret (v:=.bool false) (l:=[]) (ak:=[]) [] [0] (λ_=>by kernel_rfl) trivial rfl (by kernel_rfl) (⟨congrArg Value.bool (decide_eq_false (by rw [bA];unfold Within at *;grind)).symm,rfl⟩)
 refine af.aq (k':=20) (fr':=[(0,.pointer (some ⟨(au A),ar A+i*10,none⟩)),(46,.bool false),(52,.bool (!(decide (((nd ns i).kind:Int)=(2:Int)))))]) (ak:=[(Rd β ⟨(au A),ar A+i*10+1,none⟩ (.int .i64 ((nd ns i).kind)))]) [o_,o_,o_,o_,o_,o_,o_,o_,o_,o_,o_,⟨[.old (.int .i64 ((nd ns i).kind))],none,none,none,none⟩,o_,o_] [0,46,52] (λ_ _=>by kernel_rfl) ⟨aA.rd hG (i:=i) (by omega) (j:=1) rfl,trivial⟩ ?_
 refine af.eO 52 (((nd ns i).kind:Int)=(2:Int)) (λ_=>by kernel_rfl) (λqU=>?_) (λqU=>?_)
 ·refine af.aq (k':=28) (fr':=[(0,.pointer (some ⟨(au A),ar A+i*10,none⟩)),(60,.bool (decide (((((nd ns i).aj.length:Nat):Int):Int)>(0:Int))))]) (ak:=[(Rd β ⟨(au A),ar A+i*10+9,none⟩ (.slice (L.eA i) ((nd ns i).aj.length) ((L.eC i))))]) [o_,o_,o_,⟨[.old (.slice (L.eA i) ((nd ns i).aj.length) ((L.eC i)))],none,none,none,none⟩,o_,o_,o_,o_] [0,60] (λ_ _=>by kernel_rfl) ⟨aA.rd hG (i:=i) (by omega) (j:=9) rfl,trivial⟩ ?_
  refine af.nil (by kernel_rfl) (ah.next ?_)
  refine ai.aV (p:=((((nd ns i).aj.length:Nat):Int):Int)>(0:Int)) (λ_=>by kernel_rfl) (λoA=>?_) (λoA=>?_)
  ·refine ai.seq (ai.region (af.aq (k':=1) (fr':=[(2,.bool false)]) (ak:=[]) [o_] [2] (λ_ _=>by kernel_rfl) trivial ?_))
   refine af.nil (by kernel_rfl) (ah.next (ai.ret (ah.ay ?_)))
   exact ah.ret (v:=.bool false) (l:=[]) (ak:=[]) [] [0] (λ_=>by kernel_rfl) trivial rfl (by kernel_rfl) (⟨congrArg Value.bool (decide_eq_false (by rw [bA];unfold Within at *;grind)).symm,rfl⟩)
  refine ai.skip (ah.next (ai.seq (ai.region ?_)))
  refine af.aq (k':=4) (fr':=[(0,.pointer (some ⟨(au A),ar A+i*10,none⟩)),(64,.agg #[.int .i64 ((nd ns i).sec),.int .i64 ((nd ns i).nano)])]) (ak:=[(Rd β ⟨(au A),ar A+i*10+5+1,none⟩ (.int .i64 ((nd ns i).nano))),(Rd β ⟨(au A),ar A+i*10+5,none⟩ (.int .i64 ((nd ns i).sec)))]) [o_,o_,o_,⟨[.old (.int .i64 ((nd ns i).sec)),.old (.int .i64 ((nd ns i).nano))],none,none,none,none⟩] [0,64] (λ_ _=>by kernel_rfl) ⟨aA.rd hG (i:=i) (by omega) (j:=6) rfl,aA.rd hG (i:=i) (by omega) (j:=5) rfl,trivial⟩ ?_
  refine af.call (f:=70) (args:=#[.agg #[.int .i64 ((nd ns i).sec),.int .i64 ((nd ns i).nano)]]) (d:=(some 65)) (pre:=[]) (R:=[.abs R]) (pk:=[0]) (λ_=>by kernel_rfl) (iT (nd ns i).sec (nd ns i).nano) rfl (by kernel_rfl) ?_
  rintro _ _ ⟨rfl,rfl⟩
  refine af.aq (k':=6) (fr':=[(0,.pointer (some ⟨(au A),ar A+i*10,none⟩)),(66,.bool (decide (dU (nd ns i).sec (nd ns i).nano)))]) (ak:=[]) [o_] [0,66] (λ_ _=>by kernel_rfl) trivial ?_
  refine af.bO 66 (dU (nd ns i).sec (nd ns i).nano) (λ_=>by kernel_rfl) (λqV=>?_) (λqV=>?_)
  ·refine af.aq (k':=7) (fr':=[(66,.bool true),(67,.pointer (some ⟨(au A),ar A+i*10,none⟩))]) (ak:=[]) [o_] [66,67] (λ_ _=>by kernel_rfl) trivial ?_
   refine af.call (f:=71) (args:=#[.pointer (some ⟨(au A),ar A+i*10,none⟩)]) (d:=(some 68)) (pre:=[]) (R:=[.abs R]) (pk:=[0]) (λ_=>by kernel_rfl) (oX A ns L hG i hi) rfl (by kernel_rfl) ?_
   rintro _ _ ⟨rfl,rfl⟩
   refine af.aq (k':=10) (fr':=[(2,.bool (decide (bF (nd ns i).kind (nd ns i).target)))]) (ak:=[]) [o_,o_] [2] (λ_ _=>by kernel_rfl) trivial ?_
   refine af.nil (by kernel_rfl) (ah.next (ai.ret ?_))
   exact ah.ret (v:=.bool (decide (bF (nd ns i).kind (nd ns i).target))) (l:=[]) (ak:=[]) [] [0] (λ_=>by kernel_rfl) trivial rfl (by kernel_rfl) (⟨congrArg Value.bool (decide_eq_decide.2 (by rw [bA];unfold Within at *;grind)),rfl⟩)
  refine af.aq (k':=10) (fr':=[(2,.bool false)]) (ak:=[]) [o_,o_,o_,o_] [2] (λ_ _=>by kernel_rfl) trivial ?_
  refine af.nil (by kernel_rfl) (ah.next (ai.ret ?_))
  exact ah.ret (v:=.bool false) (l:=[]) (ak:=[]) [] [0] (λ_=>by kernel_rfl) trivial rfl (by kernel_rfl) (⟨congrArg Value.bool (decide_eq_false (by rw [bA];unfold Within at *;grind)).symm,rfl⟩)
 refine af.aq (k':=28) (fr':=[(0,.pointer (some ⟨(au A),ar A+i*10,none⟩)),(60,.bool false)]) (ak:=[]) [o_,o_,o_,o_,o_,o_,o_,o_] [0,60] (λ_ _=>by kernel_rfl) trivial ?_
 refine af.nil (by kernel_rfl) (ah.next ?_)
 refine ai.cU (λ_=>by kernel_rfl) ?_
 refine ai.skip (ah.next (ai.seq (ai.region ?_)))
 refine af.aq (k':=4) (fr':=[(0,.pointer (some ⟨(au A),ar A+i*10,none⟩)),(64,.agg #[.int .i64 ((nd ns i).sec),.int .i64 ((nd ns i).nano)])]) (ak:=[(Rd β ⟨(au A),ar A+i*10+5+1,none⟩ (.int .i64 ((nd ns i).nano))),(Rd β ⟨(au A),ar A+i*10+5,none⟩ (.int .i64 ((nd ns i).sec)))]) [o_,o_,o_,⟨[.old (.int .i64 ((nd ns i).sec)),.old (.int .i64 ((nd ns i).nano))],none,none,none,none⟩] [0,64] (λ_ _=>by kernel_rfl) ⟨aA.rd hG (i:=i) (by omega) (j:=6) rfl,aA.rd hG (i:=i) (by omega) (j:=5) rfl,trivial⟩ ?_
 refine af.call (f:=70) (args:=#[.agg #[.int .i64 ((nd ns i).sec),.int .i64 ((nd ns i).nano)]]) (d:=(some 65)) (pre:=[]) (R:=[.abs R]) (pk:=[0]) (λ_=>by kernel_rfl) (iT (nd ns i).sec (nd ns i).nano) rfl (by kernel_rfl) ?_
 rintro _ _ ⟨rfl,rfl⟩
 refine af.aq (k':=6) (fr':=[(0,.pointer (some ⟨(au A),ar A+i*10,none⟩)),(66,.bool (decide (dU (nd ns i).sec (nd ns i).nano)))]) (ak:=[]) [o_] [0,66] (λ_ _=>by kernel_rfl) trivial ?_
 refine af.bO 66 (dU (nd ns i).sec (nd ns i).nano) (λ_=>by kernel_rfl) (λqV=>?_) (λqV=>?_)
 ·refine af.aq (k':=7) (fr':=[(66,.bool true),(67,.pointer (some ⟨(au A),ar A+i*10,none⟩))]) (ak:=[]) [o_] [66,67] (λ_ _=>by kernel_rfl) trivial ?_
  refine af.call (f:=71) (args:=#[.pointer (some ⟨(au A),ar A+i*10,none⟩)]) (d:=(some 68)) (pre:=[]) (R:=[.abs R]) (pk:=[0]) (λ_=>by kernel_rfl) (oX A ns L hG i hi) rfl (by kernel_rfl) ?_
  rintro _ _ ⟨rfl,rfl⟩
  refine af.aq (k':=10) (fr':=[(2,.bool (decide (bF (nd ns i).kind (nd ns i).target)))]) (ak:=[]) [o_,o_] [2] (λ_ _=>by kernel_rfl) trivial ?_
  refine af.nil (by kernel_rfl) (ah.next (ai.ret ?_))
  exact ah.ret (v:=.bool (decide (bF (nd ns i).kind (nd ns i).target))) (l:=[]) (ak:=[]) [] [0] (λ_=>by kernel_rfl) trivial rfl (by kernel_rfl) (⟨congrArg Value.bool (decide_eq_decide.2 (by rw [bA];unfold Within at *;grind)),rfl⟩)
 refine af.aq (k':=10) (fr':=[(2,.bool false)]) (ak:=[]) [o_,o_,o_,o_] [2] (λ_ _=>by kernel_rfl) trivial ?_
 refine af.nil (by kernel_rfl) (ah.next (ai.ret ?_))
 exact ah.ret (v:=.bool false) (l:=[]) (ak:=[]) [] [0] (λ_=>by kernel_rfl) trivial rfl (by kernel_rfl) (⟨congrArg Value.bool (decide_eq_false (by rw [bA];unfold Within at *;grind)).symm,rfl⟩)
end
section
open Go.RowKit Go.Maps
def gD (x y:ByteArray):Prop:=(Op.bytesLess x.toList y.toList || (x.toList == y.toList))=true
instance (x y:ByteArray):Decidable (gD x y):=inferInstanceAs (Decidable (_=true))
theorem yG (x y:ByteArray):Value.bool (Op.bytesLess x.toList y.toList || (x.toList == y.toList))=Value.bool (decide (gD x y)):=by
 grind [gD]
theorem vP {x:ByteArray}:gD x ⟨#[]⟩↔x=⟨#[]⟩:=by
 unfold gD
 rw [oo]
 have h1:(⟨#[]⟩:ByteArray).toList=[]:=by rw [Lib.toList_data]
 have h2:Op.bytesLess x.toList (⟨#[]⟩:ByteArray).toList=false:=by
  rw [h1]
  cases x.toList<;>rfl
 rw [h2]
 simp
def tgt (ns:List aD) (z:Int):Nat:=(cL ns z).toNat
theorem cH {ns:List aD} {z:Int} (h:0<=cL ns z):tgt ns z<ns.length/\(nd ns (tgt ns z)).id=z/\cL ns z=(tgt ns z:Int):=by
 unfold tgt
 unfold cL at h ⊢
 cases hf:ns.findIdx? (λn=>n.id == z) with
 |none=>rw [hf] at h;simp at h
 |some k=>
   rw [List.findIdx?_eq_some_iff_getElem] at hf
   grind [nd]
def ent (ns:List aD) (i j:Nat):bV:=en (nd ns i).aj j
def d5 (ns:List aD) (i:Nat):Nat->ByteArray
 |0=>⟨#[]⟩
 |j+1=>(ent ns i j).name
structure eP (ns:List aD) (i j:Nat):Prop where
 at_:0<=cL ns (ent ns i j).id
 good:cZ (ent ns i j).name
 ord:¬gD (ent ns i j).name (d5 ns i j)
def wE (ns:List aD) (i j:Nat):List (Nat×Nat):=if (nd ns (tgt ns (ent ns i j).id)).kind=2 then [(tgt ns (ent ns i j).id,i)] else []
def bT (ns:List aD) (i:Nat):Nat->List (Nat×Nat)
 |0=>[]
 |j+1=>wE ns i j++bT ns i j
def bQ (ns:List aD):Nat->List (Nat×Nat)
 |0=>[]
 |i+1=>bT ns i (nd ns i).aj.length++bQ ns i
def dm (ns:List aD) (p:Nat×Nat):Int×Int:=((nd ns p.1).id,(nd ns p.2).id)
theorem yH {ns:List aD} {i j m:Nat} (h:j<=m):∃l,bT ns i m=l++bT ns i j:=by
 induction m with
 |zero=>exact⟨[],by rw [Nat.le_zero.1 h];rfl⟩
 |succ m ih=>
   rcases Nat.lt_or_ge m j with h1|h1
   ·have:j=m+1:=by omega
    subst this
    exact⟨[],rfl⟩
   grind [wE,bT]
theorem yI {ns:List aD} {i m:Nat} (h:i<=m):∃l,bQ ns m=l++bQ ns i:=by
 induction m with
 |zero=>exact⟨[],by rw [Nat.le_zero.1 h];rfl⟩
 |succ m ih=>
   rcases Nat.lt_or_ge m i with h1|h1
   ·have:i=m+1:=by omega
    subst this
    exact⟨[],rfl⟩
   grind [bT,nd,bQ]
theorem oB {l:List (Nat×Nat)} {k:List (Nat×Nat)} (h:((l++k).map Prod.fst).Nodup):(k.map Prod.fst).Nodup:=by
 grind
theorem d6.inj {ns:List aD} (hr:d6 ns) {a b:Nat} (ha:a<ns.length) (hb:b<ns.length) (h:(nd ns a).id=(nd ns b).id):a=b:=by
 rcases Nat.lt_trichotomy a b with h1|h1|h1
 all_goals grind [d6,nd]
theorem wF {ns:List aD} {ps:List (Nat×Nat)} {k:Nat} (h:up (ps.map (dm ns)) (nd ns k).id=none):k∉ps.map Prod.fst:=by
 unfold up at h
 induction ps with
 |nil=>simp
 |cons p ps ih=>
   grind [dm,nd]
theorem oY {ns:List aD} {ps:List (Nat×Nat)} {k:Nat} {y:Int} (hr:d6 ns) (hk:k<ns.length) (hp:∀p,p∈ps->p.1<ns.length) (h:up (ps.map (dm ns)) (nd ns k).id=some y):k∈ps.map Prod.fst/\∃p,p∈ps/\p.1=k/\y=(nd ns p.2).id:=by
 unfold up at h
 induction ps with
 |nil=>cases h
 |cons p ps ih=>
   obtain⟨a,b⟩:=p
   rw [List.map_cons,dm,List.lookup_cons] at h
   by_cases e:((nd ns k).id == (nd ns a).id)=true
   ·rw [e] at h
    cases h
    have:k=a:=hr.inj hk (hp (a,b) (List.mem_cons_self ..)) (by simpa using e)
    subst this
    exact⟨by simp,(k,b),List.mem_cons_self ..,rfl,rfl⟩
   grind
def bf (A:Option Addr) (ns:List aD) (k:Nat) (z:Int):Option Value:=if 0<=cL ns z/\cL ns z<k then some (.pointer (some ⟨au A,ar A+tgt ns z*10,none⟩)) else none
structure nI (ns:List aD) (i:Nat) (ps:List (Nat×Nat)):Prop where
 aj:∀j,j<(nd ns i).aj.length->eP ns i j
 nodup:((bT ns i (nd ns i).aj.length++ps).map Prod.fst).Nodup
theorem jE {A:Option Addr} {ns:List aD} {k:Nat} {z:Int} (h:0<=cL ns z) (hk:tgt ns z<k):mf (bf A ns k) (.int .i64 z)=some (.pointer (some ⟨au A,ar A+tgt ns z*10,none⟩)):=
 if_pos ⟨h,by rw [(cH h).2.2];omega⟩
theorem wG {A:Option Addr} {ns:List aD} {k:Nat} {z:Int} (h:¬0<=cL ns z):mf (bf A ns k) (.int .i64 z)=none:=if_neg (λe=>h e.1)
theorem uI (ns:List aD) (i j:Nat):(bT ns i j).length<=j:=by
 induction j with
 |zero=>exact Nat.le_refl _
 |succ j ih=>
   grind [bT,wE]
theorem gE {ns:List aD} {i j:Nat} (h:¬(nd ns (tgt ns (ent ns i j).id)).kind=2):bT ns i (j+1)=bT ns i j:=by
 rw [bT,wE,if_neg h];rfl
theorem gi {ns:List aD} {i j:Nat} (h:(nd ns (tgt ns (ent ns i j).id)).kind=2):bT ns i (j+1)=(tgt ns (ent ns i j).id,i)::bT ns i j:=by
 rw [bT,wE,if_pos h];rfl
theorem mB {ns:List aD} {i j:Nat} {ps:List (Nat×Nat)} (h:nI ns i ps) (hj:j<(nd ns i).aj.length) (hk:(nd ns (tgt ns (ent ns i j).id)).kind=2):tgt ns (ent ns i j).id∉(bT ns i j++ps).map Prod.fst:=by
 obtain⟨l,hl⟩:=yH (ns:=ns) (i:=i) (show j+1<=(nd ns i).aj.length from hj)
 have h1:=h.nodup
 grind [oB,gi]
theorem zM {ns:List aD} {i j:Nat} {ps:List (Nat×Nat)} (hat:0<=cL ns (ent ns i j).id) (hk:(nd ns (tgt ns (ent ns i j).id)).kind=2) :
 mI (mf (pf ((bT ns i j++ps).map (dm ns)))) (.int .i64 (ent ns i j).id) (some (.int .i64 (nd ns i).id))=mf (pf ((bT ns i (j+1)++ps).map (dm ns))):=by
 rw [qO,gi hk,List.cons_append,List.map_cons,dm,(cH hat).2.1,Bw]
theorem zN {ns:List aD} {i j:Nat} {ps:List (Nat×Nat)} {f:Lit->Option Value} {kl:Lit} (hf:f kl=none) (hk:(nd ns (tgt ns (ent ns i j).id)).kind=2) :
 (if (f kl).isSome then (bT ns i j++ps).length else (bT ns i j++ps).length+1)=(bT ns i (j+1)++ps).length:=by
 rw [hf,gi hk]
 rfl
theorem wX {ns:List aD} {i j:Nat} {ps:List (Nat×Nat)} (hat:0<=cL ns (ent ns i j).id) (hk:(nd ns (tgt ns (ent ns i j).id)).kind=2) (hup:up ((bT ns i j++ps).map (dm ns)) (ent ns i j).id=none) (h:((bT ns i j++ps).map Prod.fst).Nodup) :
 ((bT ns i (j+1)++ps).map Prod.fst).Nodup:=by
 grind [gi,wF,cH,cL,ent,nd,tgt,up,bT,dm]
theorem uJ {ns:List aD} {i j:Nat} (h:∀t,t<j->eP ns i t):∀p,p∈bT ns i j->p.1<ns.length/\p.2=i:=by
 induction j with
 |zero=>intro p hp;cases hp
 |succ j ih=>
   intro p hp
   rw [bT] at hp
   rcases List.mem_append.1 hp with hp|hp
   ·unfold wE at hp
    split at hp
    ·rw [List.mem_singleton.1 hp]
     exact⟨(cH (h j (Nat.lt_succ_self j)).at_).1,rfl⟩
    cases hp
   exact ih (λt ht=>h t (by omega)) p hp
theorem vQ {ns:List aD} {i j:Nat} {ps:List (Nat×Nat)} {y:Int} (hr:d6 ns) (hps:∀p,p∈ps->p.1<ns.length) (hok:∀t,t<j->eP ns i t) (hat:0<=cL ns (ent ns i j).id) (hk:(nd ns (tgt ns (ent ns i j).id)).kind=2)
 (hup:up ((bT ns i j++ps).map (dm ns)) (ent ns i j).id=some y) (hj:j<(nd ns i).aj.length):¬nI ns i ps:=λh=>by
 refine mB h hj hk ?_
 rw [←(cH hat).2.1] at hup
 refine (oY hr (cH hat).1 (λp hp=>?_) hup).1
 rcases List.mem_append.1 hp with hp|hp
 ·exact (uJ hok p hp).1
 exact hps p hp
end
section
open Go.RowKit
attribute [local irreducible] af aN ai ah
theorem zO {β:Bs} (A:Option Addr) (ns:List aD) (L:Lay) (hG:aA β A ns L) (hr:d6 ns) (i:Nat) (hi:i<ns.length) (hel:(nd ns i).aj.length<=1048576) (hwf:∀j,j<(nd ns i).aj.length->-9223372036854775808<=(ent ns i j).id/\(ent ns i j).id<=9223372036854775807) (hnm:∀j,j<(nd ns i).aj.length->(ent ns i j).name.size<=1048576)
 (mb mp:Nat) (ps:List (Nat×Nat)) (hpl:ps.length<=16777216) (hps:∀p,p∈ps->p.1<ns.length) (hnp:(ps.map Prod.fst).Nodup) :
 Spec Try.prog β 59 #[.pointer (some ⟨(au A),ar A+i*10,none⟩),.map (some mb),.map (some mp)] [.abs (aE Try.prog 3 mb (mf (bf A ns ns.length)) ns.length),.abs (aE Try.prog 3 mp (mf (pf ((ps).map (dm ns)))) ((ps).length))] (λv l=>(v=.bool true/\nI ns i ps/\l=[.abs (aE Try.prog 3 mb (mf (bf A ns ns.length)) ns.length),.abs (aE Try.prog 3 mp (mf (pf ((bT ns i (nd ns i).aj.length++ps).map (dm ns)))) ((bT ns i (nd ns i).aj.length++ps).length))])\/(v=.bool false/\¬nI ns i ps/\l=[])):=by
 refine Spec.enter Try.func59 rfl Try.ntmps59 (Nat.le_of_ble_eq_true rfl) (λR=>?_)
 refine ai.seq (ai.region (af.aq (k':=1) (fr':=[(0,.pointer (some ⟨(au A),ar A+i*10,none⟩)),(1,.map (some mb)),(2,.map (some mp))]) (ak:=[]) [o_] [0,1,2] (λ_ _=>by kernel_rfl) trivial ?_))
 refine af.nil (by kernel_rfl) (ah.next (ai.seq (ai.region ?_)))
 refine af.aq (k':=1) (fr':=[(0,.pointer (some ⟨(au A),ar A+i*10,none⟩)),(1,.map (some mb)),(2,.map (some mp)),(7,.string ⟨#[]⟩)]) (ak:=[]) [o_] [0,1,2,7] (λ_ _=>by kernel_rfl) trivial ?_
 refine af.nil (by kernel_rfl) (ah.next (ai.seq (ai.seq (ai.region ?_))))
 refine af.aq (k':=6) (fr':=[(0,.pointer (some ⟨(au A),ar A+i*10,none⟩)),(1,.map (some mb)),(2,.map (some mp)),(7,.string ⟨#[]⟩),(16,.slice (L.eA i) ((nd ns i).aj.length) ((L.eC i))),(17,.int .i64 ↑((nd ns i).aj.length)),(18,.int .i64 0)]) (ak:=[(Rd β ⟨(au A),ar A+i*10+9,none⟩ (.slice (L.eA i) ((nd ns i).aj.length) ((L.eC i))))]) [o_,o_,o_,⟨[.old (.slice (L.eA i) ((nd ns i).aj.length) ((L.eC i)))],none,none,none,none⟩,o_,o_] [0,1,2,7,16,17,18] (λ_ _=>by kernel_rfl) ⟨aA.rd hG (i:=i) (by omega) (j:=9) rfl,trivial⟩ ?_
 refine af.nil (by kernel_rfl) (ah.next (ai.block ?_))
 refine ai.loop (ι:=Nat) (λ(j:Nat)=>(j<=(nd ns i).aj.length)/\(∀t,t<j->eP ns i t)/\(((bT ns i j++ps).map Prod.fst).Nodup)) (λ(j:Nat)=>(nd ns i).aj.length-j) (λ(j:Nat)=>[(0,.pointer (some ⟨(au A),ar A+i*10,none⟩)),(1,.map (some mb)),(2,.map (some mp)),(7,.string (d5 ns i j)),(16,.slice (L.eA i) ((nd ns i).aj.length) ((L.eC i))),(17,.int .i64 ↑((nd ns i).aj.length)),(18,.int .i64 ↑j)]) (λ(j:Nat)=>[.abs (aE Try.prog 3 mb (mf (bf A ns ns.length)) ns.length),.abs (aE Try.prog 3 mp (mf (pf ((bT ns i j++ps).map (dm ns)))) ((bT ns i j++ps).length)),.abs R]) 0 (idx:=[0,1,2,7,16,17,18]) (pk:=[0,1,2]) (show (0<=(nd ns i).aj.length)/\(∀t,t<0->eP ns i t)/\(((bT ns i 0++ps).map Prod.fst).Nodup) from ⟨Nat.zero_le _,λt ht=>absurd ht (Nat.not_lt_zero t),hnp⟩) (λ_=>by kernel_rfl) rfl (by kernel_rfl) ?_
 rintro j ⟨hj,hok,hnd⟩
 show ai _ _ _ _ [(0,.pointer (some ⟨(au A),ar A+i*10,none⟩)),(1,.map (some mb)),(2,.map (some mp)),(7,.string (d5 ns i j)),(16,.slice (L.eA i) ((nd ns i).aj.length) ((L.eC i))),(17,.int .i64 ↑((nd ns i).aj.length)),(18,.int .i64 ↑j)] [.abs (aE Try.prog 3 mb (mf (bf A ns ns.length)) ns.length),.abs (aE Try.prog 3 mp (mf (pf ((bT ns i j++ps).map (dm ns)))) ((bT ns i j++ps).length)),.abs R] _
 refine ai.seq (ai.region (af.aq (k':=1) (fr':=[(0,.pointer (some ⟨(au A),ar A+i*10,none⟩)),(1,.map (some mb)),(2,.map (some mp)),(7,.string (d5 ns i j)),(16,.slice (L.eA i) ((nd ns i).aj.length) ((L.eC i))),(17,.int .i64 ↑((nd ns i).aj.length)),(18,.int .i64 ↑j),(19,.bool (decide ((((j:Nat):Int):Int)<((((nd ns i).aj.length:Nat):Int):Int))))]) (ak:=[]) [o_] [0,1,2,7,16,17,18,19] (λ_ _=>by kernel_rfl) trivial ?_))
 refine af.nil (by kernel_rfl) (ah.next (ai.seq ?_))
 refine ai.aV (p:=(((j:Nat):Int):Int)<((((nd ns i).aj.length:Nat):Int):Int)) (λ_=>by kernel_rfl) (λCw=>?_) (λCw=>?_)
 ·refine ai.skip (ah.next (ai.seq (ai.block (ai.seq (ai.region ?_)))))
  refine af.bD (k':=4) (fr':=λb1=>[(0,.pointer (some ⟨(au A),ar A+i*10,none⟩)),(1,.map (some mb)),(2,.map (some mp)),(7,.string (d5 ns i j)),(9,.pointer (some ⟨b1,0,none⟩)),(16,.slice (L.eA i) ((nd ns i).aj.length) ((L.eC i))),(17,.int .i64 ↑((nd ns i).aj.length)),(18,.int .i64 ↑j)]) (aL:=λb1=>[.abs (aE Try.prog 3 mb (mf (bf A ns ns.length)) ns.length),.abs (aE Try.prog 3 mp (mf (pf ((bT ns i j++ps).map (dm ns)))) ((bT ns i j++ps).length)),.abs R,.blk b1 [.string (en (nd ns i).aj j).name,.int .i64 ((en (nd ns i).aj j).id)] 72]) (ak:=λb1=>[b1=b1,b1=b1,(Rd β ⟨(au (L.eA i)),ar (L.eA i)+j*2+1,none⟩ (.int .i64 ((en (nd ns i).aj j).id))),(Rd β ⟨(au (L.eA i)),ar (L.eA i)+j*2,none⟩ (.string (en (nd ns i).aj j).name)),((j:Nat):Int)=((j:Nat):Int),j<(nd ns i).aj.length,(⟨(au (L.eA i)),ar (L.eA i),none⟩:Addr).spot=none,((L.eA i):Option Addr)=some ⟨(au (L.eA i)),ar (L.eA i),none⟩]) [⟨[],some j,none,some ⟨(au (L.eA i)),ar (L.eA i),none⟩,none⟩,⟨[.old (.string (en (nd ns i).aj j).name),.old (.int .i64 ((en (nd ns i).aj j).id))],none,none,none,none⟩,o_,⟨[.at 3,.at 3],none,none,none,none⟩] [0,1,2,7,9,16,17,18] [0,1,2,3] (λ_ _=>by kernel_rfl) (λb1=>⟨rfl,rfl,bh.rd (hG.aj i (by omega)) (i:=j) (by omega) (j:=1) rfl,bh.rd (hG.aj i (by omega)) (i:=j) (by omega) (j:=0) rfl,rfl,by omega,rfl,bh.hd (hG.aj i (by omega)) (i:=j) (by omega),trivial⟩) (λb1=>?_)
  refine af.nil (by kernel_rfl) (ah.next (ai.seq (ai.region ?_)))
  refine af.aq (k':=3) (fr':=[(0,.pointer (some ⟨(au A),ar A+i*10,none⟩)),(1,.map (some mb)),(2,.map (some mp)),(7,.string (d5 ns i j)),(9,.pointer (some ⟨b1,0,none⟩)),(16,.slice (L.eA i) ((nd ns i).aj.length) ((L.eC i))),(17,.int .i64 ↑((nd ns i).aj.length)),(18,.int .i64 ↑j),(22,.map (some mb)),(24,.int .i64 ((en (nd ns i).aj j).id))]) (ak:=[b1=b1]) [o_,o_,⟨[.at 3],none,none,none,none⟩] [0,1,2,7,9,16,17,18,22,24] (λ_ _=>by kernel_rfl) ⟨rfl,trivial⟩ ?_
  by_cases hat:0<=cL ns (en (nd ns i).aj j).id
  ·have htl:=cH hat
   refine af.dO 0 (d:=(some 25)) (t:=66) (K:=3) (E:=75) (b:=mb) (n:=ns.length) (f:=(mf (bf A ns ns.length))) (x:=(.tmp 22)) (ix:=(.tmp 24)) (key:=.int .i64 ((en (nd ns i).aj j).id)) (z:=.pointer none) (kl:=(.int .i64 (en (nd ns i).aj j).id)) (r:=(some (.pointer (some ⟨(au A),ar A+(tgt ns (en (nd ns i).aj j).id)*10,none⟩)))) (λ_=>by kernel_rfl) (by kernel_rfl) (λ_=>by kernel_rfl) (λ_=>by kernel_rfl) fC Try.underlying66 (λ_=>by kernel_rfl) (fI (hwf j (by omega)).1 (hwf j (by omega)).2) (jE hat htl.1) ?_
   refine af.aq (k':=5) (fr':=[(0,.pointer (some ⟨(au A),ar A+i*10,none⟩)),(1,.map (some mb)),(2,.map (some mp)),(7,.string (d5 ns i j)),(9,.pointer (some ⟨b1,0,none⟩)),(10,.pointer (some ⟨(au A),ar A+(tgt ns (en (nd ns i).aj j).id)*10,none⟩)),(16,.slice (L.eA i) ((nd ns i).aj.length) ((L.eC i))),(17,.int .i64 ↑((nd ns i).aj.length)),(18,.int .i64 ↑j)]) (ak:=[]) [o_] [0,1,2,7,9,10,16,17,18] (λ_ _=>by kernel_rfl) trivial ?_
   refine af.nil (by kernel_rfl) (ah.next (ai.seq (ai.seq (ai.region ?_))))
   refine af.aq (k':=5) (fr':=[(0,.pointer (some ⟨(au A),ar A+i*10,none⟩)),(1,.map (some mb)),(2,.map (some mp)),(7,.string (d5 ns i j)),(9,.pointer (some ⟨b1,0,none⟩)),(10,.pointer (some ⟨(au A),ar A+(tgt ns (en (nd ns i).aj j).id)*10,none⟩)),(16,.slice (L.eA i) ((nd ns i).aj.length) ((L.eC i))),(17,.int .i64 ↑((nd ns i).aj.length)),(18,.int .i64 ↑j),(28,.bool false),(30,.string (en (nd ns i).aj j).name)]) (ak:=[b1=b1]) [o_,o_,o_,o_,⟨[.at 3],none,none,none,none⟩] [0,1,2,7,9,10,16,17,18,28,30] (λ_ _=>by kernel_rfl) ⟨rfl,trivial⟩ ?_
   refine af.call (f:=72) (args:=#[.string (en (nd ns i).aj j).name]) (d:=(some 31)) (pre:=[]) (R:=[.abs (aE Try.prog 3 mb (mf (bf A ns ns.length)) ns.length),.abs (aE Try.prog 3 mp (mf (pf ((bT ns i j++ps).map (dm ns)))) ((bT ns i j++ps).length)),.abs R,.blk b1 [.string (en (nd ns i).aj j).name,.int .i64 ((en (nd ns i).aj j).id)] 72]) (pk:=[0,1,2,3]) (λ_=>by kernel_rfl) (uD (en (nd ns i).aj j).name (hnm j (by omega))) rfl (by kernel_rfl) ?_
   rintro _ _ ⟨rfl,rfl⟩
   refine af.aq (k':=9) (fr':=[(0,.pointer (some ⟨(au A),ar A+i*10,none⟩)),(1,.map (some mb)),(2,.map (some mp)),(7,.string (d5 ns i j)),(9,.pointer (some ⟨b1,0,none⟩)),(10,.pointer (some ⟨(au A),ar A+(tgt ns (en (nd ns i).aj j).id)*10,none⟩)),(16,.slice (L.eA i) ((nd ns i).aj.length) ((L.eC i))),(17,.int .i64 ↑((nd ns i).aj.length)),(18,.int .i64 ↑j),(34,.bool (!(decide (cZ (en (nd ns i).aj j).name))))]) (ak:=[]) [o_,o_,o_] [0,1,2,7,9,10,16,17,18,34] (λ_ _=>by kernel_rfl) trivial ?_
   refine af.eO 34 (cZ (en (nd ns i).aj j).name) (λ_=>by kernel_rfl) (λuK=>?_) (λuK=>?_)
   ·refine af.aq (k':=14) (fr':=[(0,.pointer (some ⟨(au A),ar A+i*10,none⟩)),(1,.map (some mb)),(2,.map (some mp)),(9,.pointer (some ⟨b1,0,none⟩)),(10,.pointer (some ⟨(au A),ar A+(tgt ns (en (nd ns i).aj j).id)*10,none⟩)),(16,.slice (L.eA i) ((nd ns i).aj.length) ((L.eC i))),(17,.int .i64 ↑((nd ns i).aj.length)),(18,.int .i64 ↑j),(39,.bool true)]) (ak:=[]) [o_,o_,o_,o_,o_] [0,1,2,9,10,16,17,18,39] (λ_ _=>by kernel_rfl) trivial ?_
    refine af.nil (by kernel_rfl) (ah.next ?_)
    refine ai.bL (λ_=>by kernel_rfl) ?_
    refine ai.seq (ai.region (af.aq (k':=1) (fr':=[(6,.bool false)]) (ak:=[]) [o_] [6] (λ_ _=>by kernel_rfl) trivial ?_))
    refine af.nil (by kernel_rfl) (ah.next (ai.ret (ah.ay (ah.aG (ah.ay (ah.ay (ah.aG (ah.ay ?_))))))))
    exact ah.ret (v:=.bool false) (l:=[]) (ak:=[]) [] [2] (λ_=>by kernel_rfl) trivial rfl (by kernel_rfl) (.inr ⟨rfl,λh=>uK (h.aj j (by omega)).good,rfl⟩)
   refine af.aq (k':=14) (fr':=[(0,.pointer (some ⟨(au A),ar A+i*10,none⟩)),(1,.map (some mb)),(2,.map (some mp)),(9,.pointer (some ⟨b1,0,none⟩)),(10,.pointer (some ⟨(au A),ar A+(tgt ns (en (nd ns i).aj j).id)*10,none⟩)),(16,.slice (L.eA i) ((nd ns i).aj.length) ((L.eC i))),(17,.int .i64 ↑((nd ns i).aj.length)),(18,.int .i64 ↑j),(39,.bool (decide (gD ((en (nd ns i).aj j).name) (d5 ns i j))))]) (ak:=[(Value.bool (Op.bytesLess (((en (nd ns i).aj j).name):ByteArray).toList (((d5 ns i j)):ByteArray).toList || (((en (nd ns i).aj j).name):ByteArray).toList == (((d5 ns i j)):ByteArray).toList))=(.bool (decide (gD ((en (nd ns i).aj j).name) (d5 ns i j)))),b1=b1]) [o_,⟨[.at 3],none,none,none,none⟩,o_,⟨[],none,none,none,some (.bool (decide (gD ((en (nd ns i).aj j).name) (d5 ns i j))))⟩,o_] [0,1,2,9,10,16,17,18,39] (λ_ _=>by kernel_rfl) ⟨yG _ _,rfl,trivial⟩ ?_
   refine af.nil (by kernel_rfl) (ah.next ?_)
   refine ai.aV (p:=gD ((en (nd ns i).aj j).name) (d5 ns i j)) (λ_=>by kernel_rfl) (λjA=>?_) (λjA=>?_)
   ·refine ai.seq (ai.region (af.aq (k':=1) (fr':=[(6,.bool false)]) (ak:=[]) [o_] [6] (λ_ _=>by kernel_rfl) trivial ?_))
    refine af.nil (by kernel_rfl) (ah.next (ai.ret (ah.ay (ah.aG (ah.ay (ah.ay (ah.aG (ah.ay ?_))))))))
    exact ah.ret (v:=.bool false) (l:=[]) (ak:=[]) [] [2] (λ_=>by kernel_rfl) trivial rfl (by kernel_rfl) (.inr ⟨rfl,λh=>(h.aj j (by omega)).ord jA,rfl⟩)
   refine ai.skip (ah.next (ai.seq (ai.region ?_)))
   refine af.aq (k':=3) (fr':=[(0,.pointer (some ⟨(au A),ar A+i*10,none⟩)),(1,.map (some mb)),(2,.map (some mp)),(7,.string (en (nd ns i).aj j).name),(9,.pointer (some ⟨b1,0,none⟩)),(10,.pointer (some ⟨(au A),ar A+(tgt ns (en (nd ns i).aj j).id)*10,none⟩)),(16,.slice (L.eA i) ((nd ns i).aj.length) ((L.eC i))),(17,.int .i64 ↑((nd ns i).aj.length)),(18,.int .i64 ↑j)]) (ak:=[b1=b1]) [o_,⟨[.at 3],none,none,none,none⟩,o_] [0,1,2,7,9,10,16,17,18] (λ_ _=>by kernel_rfl) ⟨rfl,trivial⟩ ?_
   refine af.nil (by kernel_rfl) (ah.next (ai.seq (ai.seq (ai.region ?_))))
   refine af.aq (k':=5) (fr':=[(0,.pointer (some ⟨(au A),ar A+i*10,none⟩)),(1,.map (some mb)),(2,.map (some mp)),(7,.string (en (nd ns i).aj j).name),(9,.pointer (some ⟨b1,0,none⟩)),(16,.slice (L.eA i) ((nd ns i).aj.length) ((L.eC i))),(17,.int .i64 ↑((nd ns i).aj.length)),(18,.int .i64 ↑j),(46,.bool (!(decide (((nd ns (tgt ns (en (nd ns i).aj j).id)).kind:Int)=(2:Int)))))]) (ak:=[(Rd β ⟨(au A),ar A+(tgt ns (en (nd ns i).aj j).id)*10+1,none⟩ (.int .i64 ((nd ns (tgt ns (en (nd ns i).aj j).id)).kind)))]) [o_,o_,o_,⟨[.old (.int .i64 ((nd ns (tgt ns (en (nd ns i).aj j).id)).kind))],none,none,none,none⟩,o_] [0,1,2,7,9,16,17,18,46] (λ_ _=>by kernel_rfl) ⟨aA.rd hG (i:=(tgt ns (en (nd ns i).aj j).id)) (by omega) (j:=1) rfl,trivial⟩ ?_
   refine af.nil (by kernel_rfl) (ah.next ?_)
   refine ai.cY (p:=((nd ns (tgt ns (en (nd ns i).aj j).id)).kind:Int)=(2:Int)) (λ_=>by kernel_rfl) (λh46=>?_) (λh46=>?_)
   ·refine ai.exit (ah.aH (ah.bg (ah.next (ai.region ?_))))
    refine af.aZ 1 (p:=.abs (aE Try.prog 3 mp (mf (pf ((bT ns i j++ps).map (dm ns)))) ((bT ns i j++ps).length))) (p':=.abs (aE Try.prog 3 mp (mf (pf ((bT ns i (j+1)++ps).map (dm ns)))) ((bT ns i (j+1)++ps).length))) (by kernel_rfl) (by rw [gE h46]) ?_
    refine af.aq (k':=2) (fr':=[(0,.pointer (some ⟨(au A),ar A+i*10,none⟩)),(1,.map (some mb)),(2,.map (some mp)),(7,.string (en (nd ns i).aj j).name),(16,.slice (L.eA i) ((nd ns i).aj.length) ((L.eC i))),(17,.int .i64 ↑((nd ns i).aj.length)),(18,.int .i64 ↑(j+1))]) (ak:=[(Value.int .i64 (IntKind.wrap .i64 (((j:Nat):Int)+1)))=(.int .i64 ↑(j+1))]) [⟨[],none,none,none,some (.int .i64 ↑(j+1))⟩,o_] [0,1,2,7,16,17,18] (λ_ _=>by kernel_rfl) ⟨aP (by omega) (by omega) (by omega),trivial⟩ ?_
    refine af.nil (by kernel_rfl) ?_
    exact ah.turn ((j+1)) (idx:=[0,1,2,7,16,17,18]) (pk:=[0,1,2]) (show (((j+1))<=(nd ns i).aj.length)/\(∀t,t<((j+1))->eP ns i t)/\(((bT ns i ((j+1))++ps).map Prod.fst).Nodup) from ⟨by omega,λt ht=>(by rcases Nat.lt_succ_iff_lt_or_eq.1 ht with h|h;exact hok t h;subst h;exact⟨hat,uK,jA⟩),(by rw [gE h46];exact hnd)⟩) (by show (nd ns i).aj.length-((j+1))<(nd ns i).aj.length-j;omega) (λ_=>by kernel_rfl) rfl (by kernel_rfl)
   refine ai.skip (ah.next (ai.seq (ai.seq (ai.region ?_))))
   refine af.aq (k':=3) (fr':=[(0,.pointer (some ⟨(au A),ar A+i*10,none⟩)),(1,.map (some mb)),(2,.map (some mp)),(7,.string (en (nd ns i).aj j).name),(9,.pointer (some ⟨b1,0,none⟩)),(16,.slice (L.eA i) ((nd ns i).aj.length) ((L.eC i))),(17,.int .i64 ↑((nd ns i).aj.length)),(18,.int .i64 ↑j),(48,.map (some mp)),(50,.int .i64 ((en (nd ns i).aj j).id))]) (ak:=[b1=b1]) [o_,o_,⟨[.at 3],none,none,none,none⟩] [0,1,2,7,9,16,17,18,48,50] (λ_ _=>by kernel_rfl) ⟨rfl,trivial⟩ ?_
   rcases hup:up ((bT ns i j++ps).map (dm ns)) (en (nd ns i).aj j).id with _|y
   ·refine af.lq 1 (d:=(some 51)) (t:=107) (K:=3) (E:=3) (b:=mp) (n:=(bT ns i j++ps).length) (f:=(mf (pf ((bT ns i j++ps).map (dm ns))))) (x:=(.tmp 48)) (ix:=(.tmp 50)) (key:=.int .i64 ((en (nd ns i).aj j).id)) (z:=.int .i64 0) (kl:=(.int .i64 (en (nd ns i).aj j).id)) (r:=none) (λ_=>by kernel_rfl) (by kernel_rfl) (λ_=>by kernel_rfl) (λ_=>by kernel_rfl) fC Try.underlying107 (λ_=>by kernel_rfl) (fI (hwf j (by omega)).1 (hwf j (by omega)).2) (nH hup) ?_
    refine af.aq (k':=9) (fr':=[(0,.pointer (some ⟨(au A),ar A+i*10,none⟩)),(1,.map (some mb)),(2,.map (some mp)),(7,.string (en (nd ns i).aj j).name),(9,.pointer (some ⟨b1,0,none⟩)),(12,.bool false),(16,.slice (L.eA i) ((nd ns i).aj.length) ((L.eC i))),(17,.int .i64 ↑((nd ns i).aj.length)),(18,.int .i64 ↑j)]) (ak:=[]) [o_,o_,o_,o_,o_] [0,1,2,7,9,12,16,17,18] (λ_ _=>by kernel_rfl) trivial ?_
    refine af.nil (by kernel_rfl) (ah.next (ai.seq (ai.region ?_)))
    refine af.aq (k':=1) (fr':=[(0,.pointer (some ⟨(au A),ar A+i*10,none⟩)),(1,.map (some mb)),(2,.map (some mp)),(7,.string (en (nd ns i).aj j).name),(9,.pointer (some ⟨b1,0,none⟩)),(16,.slice (L.eA i) ((nd ns i).aj.length) ((L.eC i))),(17,.int .i64 ↑((nd ns i).aj.length)),(18,.int .i64 ↑j),(54,.bool false)]) (ak:=[]) [o_] [0,1,2,7,9,16,17,18,54] (λ_ _=>by kernel_rfl) trivial ?_
    refine af.nil (by kernel_rfl) (ah.next ?_)
    refine ai.cU (λ_=>by kernel_rfl) ?_
    refine ai.skip (ah.next ?_)
    refine ai.eY 7 (by kernel_rfl) (by kernel_rfl) ?_
    refine cu.seg (k':=7) (fr':=[(0,.pointer (some ⟨(au A),ar A+i*10,none⟩)),(1,.map (some mb)),(2,.map (some mp)),(7,.string (en (nd ns i).aj j).name),(16,.slice (L.eA i) ((nd ns i).aj.length) ((L.eC i))),(17,.int .i64 ↑((nd ns i).aj.length)),(18,.int .i64 ↑j),(55,.map (some mp)),(57,.int .i64 ((en (nd ns i).aj j).id)),(61,.int .i64 ((nd ns i).id))]) (ak:=[(Rd β ⟨(au A),ar A+i*10,none⟩ (.int .i64 ((nd ns i).id))),b1=b1]) [o_,o_,⟨[.at 3],none,none,none,none⟩,o_,o_,o_,⟨[.old (.int .i64 ((nd ns i).id))],none,none,none,none⟩] [0,1,2,7,16,17,18,55,57,61] (λ_ _=>by kernel_rfl) ⟨aA.rd hG (i:=i) (by omega) (j:=0) rfl,rfl,trivial⟩ (by decide) ?_
    refine cu.done rfl ?_
    refine af.kQ 1 (d:=none) (t:=107) (K:=3) (E:=3) (b:=mp) (n:=(bT ns i j++ps).length) (f:=(mf (pf ((bT ns i j++ps).map (dm ns))))) (x:=(.tmp 55)) (ix:=(.tmp 57)) (y:=(.tmp 61)) (key:=.int .i64 ((en (nd ns i).aj j).id)) (u:=.int .i64 ((nd ns i).id)) (kl:=(.int .i64 (en (nd ns i).aj j).id)) (n':=(bT ns i (j+1)++ps).length) (f':=(mf (pf ((bT ns i (j+1)++ps).map (dm ns))))) (λ_=>by kernel_rfl) (by kernel_rfl) (λ_=>by kernel_rfl) (λ_=>by kernel_rfl) (λ_=>by kernel_rfl) fC Try.underlying107 (by have:=uI ns i j;rw [List.length_append];unfold maxLen;omega) (fI (hwf j (by omega)).1 (hwf j (by omega)).2) (zN (nH hup) h46) (zM hat h46) ?_
    refine af.nil (by kernel_rfl) (ah.aJ (ah.next (ai.region ?_)))
    refine af.aq (k':=2) (fr':=[(0,.pointer (some ⟨(au A),ar A+i*10,none⟩)),(1,.map (some mb)),(2,.map (some mp)),(7,.string (en (nd ns i).aj j).name),(16,.slice (L.eA i) ((nd ns i).aj.length) ((L.eC i))),(17,.int .i64 ↑((nd ns i).aj.length)),(18,.int .i64 ↑(j+1))]) (ak:=[(Value.int .i64 (IntKind.wrap .i64 (((j:Nat):Int)+1)))=(.int .i64 ↑(j+1))]) [⟨[],none,none,none,some (.int .i64 ↑(j+1))⟩,o_] [0,1,2,7,16,17,18] (λ_ _=>by kernel_rfl) ⟨aP (by omega) (by omega) (by omega),trivial⟩ ?_
    refine af.nil (by kernel_rfl) ?_
    exact ah.turn ((j+1)) (idx:=[0,1,2,7,16,17,18]) (pk:=[0,1,2]) (show (((j+1))<=(nd ns i).aj.length)/\(∀t,t<((j+1))->eP ns i t)/\(((bT ns i ((j+1))++ps).map Prod.fst).Nodup) from ⟨by omega,λt ht=>(by rcases Nat.lt_succ_iff_lt_or_eq.1 ht with h|h;exact hok t h;subst h;exact⟨hat,uK,jA⟩),(wX hat h46 hup hnd)⟩) (by show (nd ns i).aj.length-((j+1))<(nd ns i).aj.length-j;omega) (λ_=>by kernel_rfl) rfl (by kernel_rfl)
   refine af.lq 1 (d:=(some 51)) (t:=107) (K:=3) (E:=3) (b:=mp) (n:=(bT ns i j++ps).length) (f:=(mf (pf ((bT ns i j++ps).map (dm ns))))) (x:=(.tmp 48)) (ix:=(.tmp 50)) (key:=.int .i64 ((en (nd ns i).aj j).id)) (z:=.int .i64 0) (kl:=(.int .i64 (en (nd ns i).aj j).id)) (r:=(some (.int .i64 y))) (λ_=>by kernel_rfl) (by kernel_rfl) (λ_=>by kernel_rfl) (λ_=>by kernel_rfl) fC Try.underlying107 (λ_=>by kernel_rfl) (fI (hwf j (by omega)).1 (hwf j (by omega)).2) (AR hup) ?_
   refine af.aq (k':=9) (fr':=[(0,.pointer (some ⟨(au A),ar A+i*10,none⟩)),(1,.map (some mb)),(2,.map (some mp)),(7,.string (en (nd ns i).aj j).name),(9,.pointer (some ⟨b1,0,none⟩)),(12,.bool true),(16,.slice (L.eA i) ((nd ns i).aj.length) ((L.eC i))),(17,.int .i64 ↑((nd ns i).aj.length)),(18,.int .i64 ↑j)]) (ak:=[]) [o_,o_,o_,o_,o_] [0,1,2,7,9,12,16,17,18] (λ_ _=>by kernel_rfl) trivial ?_
   refine af.nil (by kernel_rfl) (ah.next (ai.seq (ai.region ?_)))
   refine af.aq (k':=1) (fr':=[(0,.pointer (some ⟨(au A),ar A+i*10,none⟩)),(1,.map (some mb)),(2,.map (some mp)),(7,.string (en (nd ns i).aj j).name),(9,.pointer (some ⟨b1,0,none⟩)),(16,.slice (L.eA i) ((nd ns i).aj.length) ((L.eC i))),(17,.int .i64 ↑((nd ns i).aj.length)),(18,.int .i64 ↑j),(54,.bool true)]) (ak:=[]) [o_] [0,1,2,7,9,16,17,18,54] (λ_ _=>by kernel_rfl) trivial ?_
   refine af.nil (by kernel_rfl) (ah.next ?_)
   refine ai.bL (λ_=>by kernel_rfl) ?_
   refine ai.seq (ai.region (af.aq (k':=1) (fr':=[(6,.bool false)]) (ak:=[]) [o_] [6] (λ_ _=>by kernel_rfl) trivial ?_))
   refine af.nil (by kernel_rfl) (ah.next (ai.ret (ah.ay (ah.aG (ah.ay (ah.ay (ah.aG (ah.ay ?_))))))))
   exact ah.ret (v:=.bool false) (l:=[]) (ak:=[]) [] [2] (λ_=>by kernel_rfl) trivial rfl (by kernel_rfl) (.inr ⟨rfl,vQ hr hps hok hat h46 hup (by omega),rfl⟩)
  refine af.dO 0 (d:=(some 25)) (t:=66) (K:=3) (E:=75) (b:=mb) (n:=ns.length) (f:=(mf (bf A ns ns.length))) (x:=(.tmp 22)) (ix:=(.tmp 24)) (key:=.int .i64 ((en (nd ns i).aj j).id)) (z:=.pointer none) (kl:=(.int .i64 (en (nd ns i).aj j).id)) (r:=none) (λ_=>by kernel_rfl) (by kernel_rfl) (λ_=>by kernel_rfl) (λ_=>by kernel_rfl) fC Try.underlying66 (λ_=>by kernel_rfl) (fI (hwf j (by omega)).1 (hwf j (by omega)).2) (wG hat) ?_
  refine af.aq (k':=5) (fr':=[(0,.pointer (some ⟨(au A),ar A+i*10,none⟩)),(1,.map (some mb)),(2,.map (some mp)),(7,.string (d5 ns i j)),(9,.pointer (some ⟨b1,0,none⟩)),(10,.pointer none),(16,.slice (L.eA i) ((nd ns i).aj.length) ((L.eC i))),(17,.int .i64 ↑((nd ns i).aj.length)),(18,.int .i64 ↑j)]) (ak:=[]) [o_] [0,1,2,7,9,10,16,17,18] (λ_ _=>by kernel_rfl) trivial ?_
  refine af.nil (by kernel_rfl) (ah.next (ai.seq (ai.seq (ai.region ?_))))
  refine af.aq (k':=14) (fr':=[(0,.pointer (some ⟨(au A),ar A+i*10,none⟩)),(1,.map (some mb)),(2,.map (some mp)),(9,.pointer (some ⟨b1,0,none⟩)),(10,.pointer none),(16,.slice (L.eA i) ((nd ns i).aj.length) ((L.eC i))),(17,.int .i64 ↑((nd ns i).aj.length)),(18,.int .i64 ↑j),(39,.bool true)]) (ak:=[]) [o_,o_,o_,o_,o_,o_,o_,o_,o_,o_,o_,o_,o_,o_] [0,1,2,9,10,16,17,18,39] (λ_ _=>by kernel_rfl) trivial ?_
  refine af.nil (by kernel_rfl) (ah.next ?_)
  refine ai.bL (λ_=>by kernel_rfl) ?_
  refine ai.seq (ai.region (af.aq (k':=1) (fr':=[(6,.bool false)]) (ak:=[]) [o_] [6] (λ_ _=>by kernel_rfl) trivial ?_))
  refine af.nil (by kernel_rfl) (ah.next (ai.ret (ah.ay (ah.aG (ah.ay (ah.ay (ah.aG (ah.ay ?_))))))))
  exact ah.ret (v:=.bool false) (l:=[]) (ak:=[]) [] [2] (λ_=>by kernel_rfl) trivial rfl (by kernel_rfl) (.inr ⟨rfl,λh=>hat (h.aj j (by omega)).at_,rfl⟩)
 refine ai.exit (ah.aH (ah.aH (ah.bg (ah.next (ai.seq (ai.region ?_))))))
 refine af.aq (k':=1) (fr':=[(6,.bool true)]) (ak:=[]) [o_] [6] (λ_ _=>by kernel_rfl) trivial ?_
 refine af.nil (by kernel_rfl) (ah.next (ai.ret ?_))
 exact ah.ret (v:=.bool true) (l:=[.abs (aE Try.prog 3 mb (mf (bf A ns ns.length)) ns.length),.abs (aE Try.prog 3 mp (mf (pf ((bT ns i j++ps).map (dm ns)))) ((bT ns i j++ps).length))]) (ak:=[]) [] [0,1,2] (λ_=>by kernel_rfl) trivial rfl (by kernel_rfl) (.inl ⟨rfl,⟨λt ht=>hok t (by omega),by have:=hnd;rwa [show j=(nd ns i).aj.length by omega] at this⟩,by rw [show j=(nd ns i).aj.length by omega]⟩)
end
section
open Go.RowKit Go.Maps
def bn (ns:List aD):Nat->Nat
 |0=>0
 |k+1=>bn ns k+(nd ns k).aj.length
def gL (ns:List aD):Nat->Int
 |0=>0
 |k+1=>(nd ns k).id
structure bw (ns:List aD):Prop where
 len:ns.length<=4096
 node:∀i,i<ns.length->fV (nd ns i)
 ids:∀i,i<ns.length->1<=(nd ns i).id/\(nd ns i).id<=1099511627776
 rise:d6 ns
 sum:bn ns ns.length<=8192
 aj:∀i,i<ns.length->∀j,j<(nd ns i).aj.length->eP ns i j
 nodup:((bQ ns ns.length).map Prod.fst).Nodup
 ends:mQ ((bQ ns ns.length).map (dm ns))
noncomputable instance (ns:List aD):Decidable (bw ns):=Classical.propDecidable _
theorem bw.last {ns:List aD} (h:bw ns) {k:Nat} (hk:k<ns.length):gL ns k<(nd ns k).id:=by
 cases k with
 |zero=>have:=(h.ids 0 hk).1;show (0:Int)<_;omega
 |succ k=>exact h.rise k (k+1) (Nat.lt_succ_self k) hk
structure ig (ns:List aD) (k:Nat):Prop where
 node:∀i,i<k->fV (nd ns i)
 ids:∀i,i<k->1<=(nd ns i).id/\(nd ns i).id<=1099511627776
 rise:∀i j,i<j->j<k->(nd ns i).id<(nd ns j).id
theorem ig.zero (ns:List aD):ig ns 0:=⟨λi h=>absurd h (Nat.not_lt_zero i),λi h=>absurd h (Nat.not_lt_zero i),λ_ j _ h=>absurd h (Nat.not_lt_zero j)⟩
theorem ig.last {ns:List aD} {k:Nat} (h:ig ns k):0<=gL ns k/\gL ns k<=1099511627776:=by
 cases k with
 |zero=>exact⟨Int.le_refl _,by show (0:Int)<=1099511627776;decide⟩
 |succ k=>have:=h.ids k (Nat.lt_succ_self k);exact⟨by show 0<=(nd ns k).id;omega,this.2⟩
theorem ig.step {ns:List aD} {k:Nat} (h:ig ns k) (h1:gL ns k<(nd ns k).id) (h2:(nd ns k).id<=1099511627776) (h3:fV (nd ns k)):ig ns (k+1):=by
 have hl:=h.last
 refine⟨λi hi=>?_,λi hi=>?_,λi j hij hj=>?_⟩
 ·rcases Nat.lt_succ_iff_lt_or_eq.1 hi with e|e
  ·exact h.node i e
  rw [e];exact h3
 ·rcases Nat.lt_succ_iff_lt_or_eq.1 hi with e|e
  ·exact h.ids i e
  rw [e];omega
 rcases Nat.lt_succ_iff_lt_or_eq.1 hj with e|e
 ·exact h.rise i j hij e
 subst e
 cases j with
 |zero=>omega
 |succ m=>
   have h4:(nd ns m).id<(nd ns (m+1)).id:=h1
   rcases Nat.lt_succ_iff_lt_or_eq.1 hij with e|e
   ·have:=h.rise i m e (Nat.lt_succ_self m);omega
   rw [e];exact h4
theorem uL {ns:List aD} {k:Nat} (h:∀i,i<k->(nd ns i).id<(nd ns k).id) (hk:k<ns.length):cL ns (nd ns k).id=(k:Int):=by
 unfold cL
 have hg:∀j (hj:j<ns.length),nd ns j=ns[j]:=λj hj=>by
  grind [nd]
 have:ns.findIdx? (λn=>n.id == (nd ns k).id)=some k:=by
  rw [List.findIdx?_eq_some_iff_getElem]
  grind
 rw [this]
theorem CD {A:Option Addr} {ns:List aD} {k:Nat} (h:∀i,i<k->(nd ns i).id<(nd ns k).id) (hk:k<ns.length) :
 mI (mf (bf A ns k)) (.int .i64 (nd ns k).id) (some (.pointer (some ⟨au A,ar A+k*10,none⟩)))=mf (bf A ns (k+1)):=by
 have ha:=uL h hk
 rw [qO]
 congr 1
 funext z
 unfold bf
 by_cases e:z=(nd ns k).id
 ·grind [tgt]
 rw [if_neg e]
 by_cases e1:0<=cL ns z/\cL ns z<(k:Int)
 ·rw [if_pos e1,if_pos ⟨e1.1,by omega⟩]
 rw [if_neg e1,if_neg (λe2=>?_)]
 have e3:cL ns z=(k:Int):=by omega
 have e4:=(cH e2.1).2
 grind
theorem zP {A:Option Addr} {ns:List aD} {k:Nat} (h:∀i,i<k->(nd ns i).id<(nd ns k).id) (hk:k<ns.length):(if ((mf (bf A ns k)) (.int .i64 (nd ns k).id)).isSome then k else k+1)=k+1:=by
 grind [uL,mf,bf,nd]
theorem ig.below {ns:List aD} {k:Nat} (h:ig ns k) (h1:gL ns k<(nd ns k).id):∀i,i<k->(nd ns i).id<(nd ns k).id:=by
 intro i hi
 cases k with
 |zero=>omega
 |succ m=>
   have h1:(nd ns m).id<(nd ns (m+1)).id:=h1
   rcases Nat.lt_succ_iff_lt_or_eq.1 hi with e|e
   ·have:=h.rise i m e (Nat.lt_succ_self m);omega
   rw [e];exact h1
theorem Bz {A:Option Addr} {ns:List aD}:mf (bf A ns 0)=λ_=>none:=by
 rw [←oW]
 congr 1
 funext z
 exact if_neg (λe=>by omega)
theorem BA {ns:List aD}:mf (pf ((bQ ns 0).map (dm ns)))=λ_=>none:=by
 rw [←oW]
 congr 1
theorem jL {ns:List aD} {i:Nat} (hi:i<=ns.length) (h:∀a,a<i->∀j,j<(nd ns a).aj.length->eP ns a j):∀p,p∈bQ ns i->p.1<ns.length/\p.2<ns.length:=by
 induction i with
 |zero=>intro p hp;cases hp
 |succ i ih=>
   intro p hp
   grind [bQ,uJ]
theorem uM (ns:List aD) (i:Nat):(bQ ns i).length<=bn ns i:=by
 induction i with
 |zero=>exact Nat.le_refl _
 |succ i ih=>
   grind [bQ,bn,uI,nd]
theorem mC {ns:List aD} {i m:Nat} (h:i<=m):bn ns i<=bn ns m:=by
 induction m with
 |zero=>rw [Nat.le_zero.1 h];exact Nat.le_refl _
 |succ m ih=>
   grind [bn]
theorem yJ {ns:List aD} {ps:List (Nat×Nat)} (hp:∀p,p∈ps->p.1<ns.length/\p.2<ns.length) (hid:∀i,i<ns.length->1<=(nd ns i).id/\(nd ns i).id<=1099511627776) :
 ∀z y,up (ps.map (dm ns)) z=some y->(-9223372036854775808<=z/\z<=9223372036854775807)/\(-9223372036854775808<=y/\y<=9223372036854775807):=by
 intro z y h
 unfold up at h
 induction ps with
 |nil=>cases h
 |cons p ps ih=>
   grind [dm,nd]
theorem CF {p:Prop} [Decidable p] {v:Value} {l:List HP} (h:v=.bool (decide p)/\l=[]):(v=.bool true/\p/\l=[])\/(v=.bool false/\¬p/\l=[]):=by
 by_cases hp:p
 all_goals grind
theorem nI.next {ns:List aD} {i:Nat} (h:nI ns i (bQ ns i)):((bQ ns (i+1)).map Prod.fst).Nodup:=h.nodup
theorem bw.row {ns:List aD} (h:bw ns) {i:Nat} (hi:i<ns.length):nI ns i (bQ ns i):=by
 refine⟨h.aj i hi,?_⟩
 obtain⟨l,hl⟩:=yI (ns:=ns) (show i+1<=ns.length from hi)
 have:=h.nodup
 rw [hl] at this
 exact oB this
end
section
open Go.RowKit
attribute [local irreducible] af aN ai ah
theorem BB {β:Bs} (A:Option Addr) (c:Nat) (ns:List aD) (L:Lay) (hG:aA β A ns L) (hl:ns.length<=1048576) (hd:∀i,i<ns.length->(nd ns i).data.length<=1048576/\(nd ns i).aj.length<=1048576) (hwf:∀i,i<ns.length->∀j,j<(nd ns i).aj.length->-9223372036854775808<=(ent ns i j).id/\(ent ns i j).id<=9223372036854775807) (hnm:∀i,i<ns.length->∀j,j<(nd ns i).aj.length->(ent ns i j).name.size<=1048576) :
 Spec Try.prog β 37 #[.agg #[.slice A ns.length c]] [] (λv l=>(∃mb,v=.tuple #[.map (some mb),.bool true]/\bw ns/\l=[.abs (aE Try.prog 3 mb (mf (bf A ns ns.length)) ns.length)])\/(∃m,v=.tuple #[m,.bool false]/\¬bw ns/\l=[])):=by
 refine Spec.enter Try.func37 rfl Try.ntmps37 (Nat.le_of_ble_eq_true rfl) (λR=>?_)
 refine ai.seq (ai.region (af.bD (k':=3) (fr':=λb1=>[(1,.pointer (some ⟨b1,0,none⟩))]) (aL:=λb1=>[.abs R,.blk b1 [.slice A (ns.length) (c)] 24]) (ak:=λb1=>[]) [o_,o_,o_] [1] [0,1] (λ_ _=>by kernel_rfl) (λb1=>trivial) (λb1=>?_)))
 refine af.nil (by kernel_rfl) (ah.next (ai.seq (ai.seq (ai.region ?_))))
 refine af.aq (k':=4) (fr':=[(1,.pointer (some ⟨b1,0,none⟩)),(14,.bool (decide ((((ns.length:Nat):Int):Int)>(4096:Int))))]) (ak:=[b1=b1]) [o_,⟨[.at 1],none,none,none,none⟩,o_,o_] [1,14] (λ_ _=>by kernel_rfl) ⟨rfl,trivial⟩ ?_
 refine af.nil (by kernel_rfl) (ah.next ?_)
 refine ai.aV (p:=(((ns.length:Nat):Int):Int)>(4096:Int)) (λ_=>by kernel_rfl) (λkr=>?_) (λkr=>?_)
 ·refine ai.seq (ai.region (af.aq (k':=2) (fr':=[(2,.map none),(3,.bool false)]) (ak:=[]) [o_,o_] [2,3] (λ_ _=>by kernel_rfl) trivial ?_))
  refine af.nil (by kernel_rfl) (ah.next (ai.ret (ah.ay ?_)))
  exact ah.ret (v:=.tuple #[.map none,.bool false]) (l:=[]) (ak:=[]) [] [0] (λ_=>by kernel_rfl) trivial rfl (by kernel_rfl) (.inr ⟨_,rfl,λh=>by have:=h.len;omega,rfl⟩)
 refine ai.skip (ah.next (ai.seq (ai.region ?_)))
 refine af.kI (d:=(some 15)) (t:=66) (λ_=>by kernel_rfl) Try.prog rfl 3 (λm2=>?_)
 refine af.aq (k':=2) (fr':=[(1,.pointer (some ⟨b1,0,none⟩)),(4,.map (some m2))]) (ak:=[]) [o_] [1,4] (λ_ _=>by kernel_rfl) trivial ?_
 refine af.nil (by kernel_rfl) (ah.next (ai.seq (ai.region ?_)))
 refine af.aZ 2 (p:=.abs (aE Try.prog 3 m2 (λ_=>none) 0)) (p':=.abs (aE Try.prog 3 m2 (mf (bf A ns 0)) 0)) (by kernel_rfl) (by rw [Bz]) ?_
 refine af.aq (k':=2) (fr':=[(1,.pointer (some ⟨b1,0,none⟩)),(4,.map (some m2)),(5,.int .i64 0),(6,.int .i64 0)]) (ak:=[]) [o_,o_] [1,4,5,6] (λ_ _=>by kernel_rfl) trivial ?_
 refine af.nil (by kernel_rfl) (ah.next (ai.seq (ai.seq (ai.region ?_))))
 refine af.aq (k':=4) (fr':=[(1,.pointer (some ⟨b1,0,none⟩)),(4,.map (some m2)),(5,.int .i64 0),(6,.int .i64 0),(18,.int .i64 ↑ns.length),(19,.int .i64 0)]) (ak:=[b1=b1]) [o_,⟨[.at 1],none,none,none,none⟩,o_,o_] [1,4,5,6,18,19] (λ_ _=>by kernel_rfl) ⟨rfl,trivial⟩ ?_
 refine af.nil (by kernel_rfl) (ah.next (ai.block ?_))
 refine ai.loop (ι:=Nat) (λ(k:Nat)=>(k<=ns.length)/\(ig ns k)/\(bn ns k<=k*1048576)) (λ(k:Nat)=>ns.length-k) (λ(k:Nat)=>[(1,.pointer (some ⟨b1,0,none⟩)),(4,.map (some m2)),(5,.int .i64 (gL ns k)),(6,.int .i64 ↑(bn ns k)),(18,.int .i64 ↑ns.length),(19,.int .i64 ↑k)]) (λ(k:Nat)=>[.blk b1 [.slice A (ns.length) (c)] 24,.abs (aE Try.prog 3 m2 (mf (bf A ns k)) k),.abs R]) 0 (idx:=[1,4,5,6,18,19]) (pk:=[1,2,0]) (show (0<=ns.length)/\(ig ns 0)/\(bn ns 0<=0*1048576) from ⟨Nat.zero_le _,ig.zero ns,Nat.zero_le _⟩) (λ_=>by kernel_rfl) rfl (by kernel_rfl) ?_
 rintro k ⟨hk,hu,hs⟩
 show ai _ _ _ _ [(1,.pointer (some ⟨b1,0,none⟩)),(4,.map (some m2)),(5,.int .i64 (gL ns k)),(6,.int .i64 ↑(bn ns k)),(18,.int .i64 ↑ns.length),(19,.int .i64 ↑k)] [.blk b1 [.slice A (ns.length) (c)] 24,.abs (aE Try.prog 3 m2 (mf (bf A ns k)) k),.abs R] _
 have hk4:=(hd k)
 refine ai.seq (ai.region (af.aq (k':=1) (fr':=[(1,.pointer (some ⟨b1,0,none⟩)),(4,.map (some m2)),(5,.int .i64 (gL ns k)),(6,.int .i64 ↑(bn ns k)),(18,.int .i64 ↑ns.length),(19,.int .i64 ↑k),(20,.bool (decide ((((k:Nat):Int):Int)<(((ns.length:Nat):Int):Int))))]) (ak:=[]) [o_] [1,4,5,6,18,19,20] (λ_ _=>by kernel_rfl) trivial ?_))
 refine af.nil (by kernel_rfl) (ah.next (ai.seq ?_))
 refine ai.aV (p:=(((k:Nat):Int):Int)<(((ns.length:Nat):Int):Int)) (λ_=>by kernel_rfl) (λyE=>?_) (λyE=>?_)
 ·refine ai.skip (ah.next (ai.seq (ai.block (ai.seq (ai.region ?_)))))
  refine af.aq (k':=2) (fr':=[(1,.pointer (some ⟨b1,0,none⟩)),(4,.map (some m2)),(5,.int .i64 (gL ns k)),(6,.int .i64 ↑(bn ns k)),(7,.int .i64 ↑k),(18,.int .i64 ↑ns.length),(19,.int .i64 ↑k)]) (ak:=[]) [o_,o_] [1,4,5,6,7,18,19] (λ_ _=>by kernel_rfl) trivial ?_
  refine af.nil (by kernel_rfl) (ah.next (ai.seq (ai.region ?_)))
  refine af.aq (k':=5) (fr':=[(1,.pointer (some ⟨b1,0,none⟩)),(4,.map (some m2)),(5,.int .i64 (gL ns k)),(6,.int .i64 ↑(bn ns k)),(8,.pointer (some ⟨(au A),ar A+k*10,none⟩)),(18,.int .i64 ↑ns.length),(19,.int .i64 ↑k)]) (ak:=[((k:Nat):Int)=((k:Nat):Int),k<ns.length,(⟨(au A),ar A,none⟩:Addr).spot=none,(A:Option Addr)=some ⟨(au A),ar A,none⟩,b1=b1]) [o_,⟨[.at 0],none,none,none,none⟩,o_,⟨[],some k,none,some ⟨(au A),ar A,none⟩,none⟩,o_] [1,4,5,6,8,18,19] (λ_ _=>by kernel_rfl) ⟨rfl,by omega,rfl,aA.hd hG (i:=k) (by omega),rfl,trivial⟩ ?_
  refine af.nil (by kernel_rfl) (ah.next (ai.seq (ai.seq (ai.region ?_))))
  refine af.aq (k':=7) (fr':=[(1,.pointer (some ⟨b1,0,none⟩)),(4,.map (some m2)),(6,.int .i64 ↑(bn ns k)),(8,.pointer (some ⟨(au A),ar A+k*10,none⟩)),(18,.int .i64 ↑ns.length),(19,.int .i64 ↑k),(32,.bool (decide (((nd ns k).id:Int)<=(gL ns k:Int))))]) (ak:=[(Rd β ⟨(au A),ar A+k*10,none⟩ (.int .i64 ((nd ns k).id)))]) [o_,o_,o_,⟨[.old (.int .i64 ((nd ns k).id))],none,none,none,none⟩,o_,o_,o_] [1,4,6,8,18,19,32] (λ_ _=>by kernel_rfl) ⟨aA.rd hG (i:=k) (by omega) (j:=0) rfl,trivial⟩ ?_
  refine af.bO 32 (((nd ns k).id:Int)<=(gL ns k:Int)) (λ_=>by kernel_rfl) (λpH=>?_) (λpH=>?_)
  ·refine af.aq (k':=18) (fr':=[(1,.pointer (some ⟨b1,0,none⟩)),(4,.map (some m2)),(6,.int .i64 ↑(bn ns k)),(8,.pointer (some ⟨(au A),ar A+k*10,none⟩)),(18,.int .i64 ↑ns.length),(19,.int .i64 ↑k),(43,.bool true)]) (ak:=[]) [o_,o_,o_,o_,o_,o_,o_,o_,o_,o_,o_] [1,4,6,8,18,19,43] (λ_ _=>by kernel_rfl) trivial ?_
   refine af.nil (by kernel_rfl) (ah.next ?_)
   refine ai.bL (λ_=>by kernel_rfl) ?_
   refine ai.seq (ai.region (af.aq (k':=2) (fr':=[(2,.map none),(3,.bool false)]) (ak:=[]) [o_,o_] [2,3] (λ_ _=>by kernel_rfl) trivial ?_))
   refine af.nil (by kernel_rfl) (ah.next (ai.ret (ah.ay (ah.aG (ah.ay (ah.ay (ah.aG (ah.ay ?_))))))))
   exact ah.ret (v:=.tuple #[.map none,.bool false]) (l:=[]) (ak:=[]) [] [2] (λ_=>by kernel_rfl) trivial rfl (by kernel_rfl) (.inr ⟨_,rfl,λh=>by have:=h.last (show k<ns.length by omega);omega,rfl⟩)
  refine af.aq (k':=14) (fr':=[(1,.pointer (some ⟨b1,0,none⟩)),(4,.map (some m2)),(6,.int .i64 ↑(bn ns k)),(8,.pointer (some ⟨(au A),ar A+k*10,none⟩)),(18,.int .i64 ↑ns.length),(19,.int .i64 ↑k),(39,.bool (decide (((nd ns k).id:Int)>(1099511627776:Int))))]) (ak:=[(Rd β ⟨(au A),ar A+k*10,none⟩ (.int .i64 ((nd ns k).id)))]) [o_,o_,o_,⟨[.old (.int .i64 ((nd ns k).id))],none,none,none,none⟩,o_,o_,o_] [1,4,6,8,18,19,39] (λ_ _=>by kernel_rfl) ⟨aA.rd hG (i:=k) (by omega) (j:=0) rfl,trivial⟩ ?_
  refine af.bO 39 (((nd ns k).id:Int)>(1099511627776:Int)) (λ_=>by kernel_rfl) (λjA=>?_) (λjA=>?_)
  ·refine af.aq (k':=18) (fr':=[(1,.pointer (some ⟨b1,0,none⟩)),(4,.map (some m2)),(6,.int .i64 ↑(bn ns k)),(8,.pointer (some ⟨(au A),ar A+k*10,none⟩)),(18,.int .i64 ↑ns.length),(19,.int .i64 ↑k),(43,.bool true)]) (ak:=[]) [o_,o_,o_,o_] [1,4,6,8,18,19,43] (λ_ _=>by kernel_rfl) trivial ?_
   refine af.nil (by kernel_rfl) (ah.next ?_)
   refine ai.bL (λ_=>by kernel_rfl) ?_
   refine ai.seq (ai.region (af.aq (k':=2) (fr':=[(2,.map none),(3,.bool false)]) (ak:=[]) [o_,o_] [2,3] (λ_ _=>by kernel_rfl) trivial ?_))
   refine af.nil (by kernel_rfl) (ah.next (ai.ret (ah.ay (ah.aG (ah.ay (ah.ay (ah.aG (ah.ay ?_))))))))
   exact ah.ret (v:=.tuple #[.map none,.bool false]) (l:=[]) (ak:=[]) [] [2] (λ_=>by kernel_rfl) trivial rfl (by kernel_rfl) (.inr ⟨_,rfl,λh=>by have:=(h.ids k (by omega)).2;omega,rfl⟩)
  refine af.aq (k':=15) (fr':=[(1,.pointer (some ⟨b1,0,none⟩)),(4,.map (some m2)),(6,.int .i64 ↑(bn ns k)),(8,.pointer (some ⟨(au A),ar A+k*10,none⟩)),(18,.int .i64 ↑ns.length),(19,.int .i64 ↑k),(39,.bool false),(40,.pointer (some ⟨(au A),ar A+k*10,none⟩))]) (ak:=[]) [o_] [1,4,6,8,18,19,39,40] (λ_ _=>by kernel_rfl) trivial ?_
  refine af.call (f:=58) (args:=#[.pointer (some ⟨(au A),ar A+k*10,none⟩)]) (d:=(some 41)) (pre:=[]) (R:=[.blk b1 [.slice A (ns.length) (c)] 24,.abs (aE Try.prog 3 m2 (mf (bf A ns k)) k),.abs R]) (pk:=[0,1,2]) (λ_=>by kernel_rfl) (zL A ns L hG k (by omega)) rfl (by kernel_rfl) ?_
  rintro _ _ ⟨rfl,rfl⟩
  refine af.aq (k':=18) (fr':=[(1,.pointer (some ⟨b1,0,none⟩)),(4,.map (some m2)),(6,.int .i64 ↑(bn ns k)),(8,.pointer (some ⟨(au A),ar A+k*10,none⟩)),(18,.int .i64 ↑ns.length),(19,.int .i64 ↑k),(43,.bool (!(decide (fV (nd ns k)))))]) (ak:=[]) [o_,o_] [1,4,6,8,18,19,43] (λ_ _=>by kernel_rfl) trivial ?_
  refine af.nil (by kernel_rfl) (ah.next ?_)
  refine ai.cY (p:=fV (nd ns k)) (λ_=>by kernel_rfl) (λCG=>?_) (λCG=>?_)
  ·refine ai.seq (ai.region (af.aq (k':=2) (fr':=[(2,.map none),(3,.bool false)]) (ak:=[]) [o_,o_] [2,3] (λ_ _=>by kernel_rfl) trivial ?_))
   refine af.nil (by kernel_rfl) (ah.next (ai.ret (ah.ay (ah.aG (ah.ay (ah.ay (ah.aG (ah.ay ?_))))))))
   exact ah.ret (v:=.tuple #[.map none,.bool false]) (l:=[]) (ak:=[]) [] [2] (λ_=>by kernel_rfl) trivial rfl (by kernel_rfl) (.inr ⟨_,rfl,λh=>CG (h.node k (by omega)),rfl⟩)
  refine ai.skip (ah.next (ai.seq (ai.region ?_)))
  refine af.aq (k':=5) (fr':=[(1,.pointer (some ⟨b1,0,none⟩)),(4,.map (some m2)),(5,.int .i64 ((nd ns k).id)),(6,.int .i64 ↑(bn ns k)),(8,.pointer (some ⟨(au A),ar A+k*10,none⟩)),(18,.int .i64 ↑ns.length),(19,.int .i64 ↑k)]) (ak:=[(Rd β ⟨(au A),ar A+k*10,none⟩ (.int .i64 ((nd ns k).id)))]) [o_,o_,o_,⟨[.old (.int .i64 ((nd ns k).id))],none,none,none,none⟩,o_] [1,4,5,6,8,18,19] (λ_ _=>by kernel_rfl) ⟨aA.rd hG (i:=k) (by omega) (j:=0) rfl,trivial⟩ ?_
  refine af.nil (by kernel_rfl) (ah.next (ai.seq (ai.region ?_)))
  refine af.aq (k':=6) (fr':=[(1,.pointer (some ⟨b1,0,none⟩)),(4,.map (some m2)),(5,.int .i64 ((nd ns k).id)),(6,.int .i64 ↑(bn ns k)),(8,.pointer (some ⟨(au A),ar A+k*10,none⟩)),(18,.int .i64 ↑ns.length),(19,.int .i64 ↑k),(48,.map (some m2)),(52,.int .i64 ((nd ns k).id)),(53,.pointer (some ⟨(au A),ar A+k*10,none⟩))]) (ak:=[(Rd β ⟨(au A),ar A+k*10,none⟩ (.int .i64 ((nd ns k).id)))]) [o_,o_,o_,o_,⟨[.old (.int .i64 ((nd ns k).id))],none,none,none,none⟩,o_] [1,4,5,6,8,18,19,48,52,53] (λ_ _=>by kernel_rfl) ⟨aA.rd hG (i:=k) (by omega) (j:=0) rfl,trivial⟩ ?_
  refine af.kQ 1 (d:=none) (t:=66) (K:=3) (E:=75) (b:=m2) (n:=k) (f:=(mf (bf A ns k))) (x:=(.tmp 48)) (ix:=(.tmp 52)) (y:=(.tmp 53)) (key:=.int .i64 ((nd ns k).id)) (u:=.pointer (some ⟨(au A),ar A+k*10,none⟩)) (kl:=(.int .i64 (nd ns k).id)) (n':=k+1) (f':=(mf (bf A ns (k+1)))) (λ_=>by kernel_rfl) (by kernel_rfl) (λ_=>by kernel_rfl) (λ_=>by kernel_rfl) (λ_=>by kernel_rfl) fC Try.underlying66 (by unfold maxLen;omega) (fI (by have:=hu.last;omega) (by omega)) (zP (hu.below (by omega)) (by omega)) (CD (hu.below (by omega)) (by omega)) ?_
  refine af.nil (by kernel_rfl) (ah.next (ai.region ?_))
  refine af.aq (k':=8) (fr':=[(1,.pointer (some ⟨b1,0,none⟩)),(4,.map (some m2)),(5,.int .i64 ((nd ns k).id)),(6,.int .i64 ↑((bn ns k)+((nd ns k).aj.length))),(18,.int .i64 ↑ns.length),(19,.int .i64 ↑k)]) (ak:=[(Value.int .i64 (IntKind.wrap .i64 (((bn ns k:Nat):Int)+(((nd ns k).aj.length:Nat):Int))))=(.int .i64 ↑((bn ns k)+((nd ns k).aj.length))),(Rd β ⟨(au A),ar A+k*10+9,none⟩ (.slice (L.eA k) ((nd ns k).aj.length) ((L.eC k))))]) [o_,o_,o_,o_,⟨[.old (.slice (L.eA k) ((nd ns k).aj.length) ((L.eC k)))],none,none,none,none⟩,o_,⟨[],none,none,none,some (.int .i64 ↑((bn ns k)+((nd ns k).aj.length)))⟩,o_] [1,4,5,6,18,19] (λ_ _=>by kernel_rfl) ⟨aP (by omega) (by omega) (by omega),aA.rd hG (i:=k) (by omega) (j:=9) rfl,trivial⟩ ?_
  refine af.nil (by kernel_rfl) (ah.aJ (ah.next (ai.region ?_)))
  refine af.aq (k':=2) (fr':=[(1,.pointer (some ⟨b1,0,none⟩)),(4,.map (some m2)),(5,.int .i64 ((nd ns k).id)),(6,.int .i64 ↑((bn ns k)+((nd ns k).aj.length))),(18,.int .i64 ↑ns.length),(19,.int .i64 ↑(k+1))]) (ak:=[(Value.int .i64 (IntKind.wrap .i64 (((k:Nat):Int)+1)))=(.int .i64 ↑(k+1))]) [⟨[],none,none,none,some (.int .i64 ↑(k+1))⟩,o_] [1,4,5,6,18,19] (λ_ _=>by kernel_rfl) ⟨aP (by omega) (by omega) (by omega),trivial⟩ ?_
  refine af.nil (by kernel_rfl) ?_
  exact ah.turn ((k+1)) (idx:=[1,4,5,6,18,19]) (pk:=[0,1,2]) (show (((k+1))<=ns.length)/\(ig ns ((k+1)))/\(bn ns ((k+1))<=((k+1))*1048576) from ⟨by omega,hu.step (by omega) (by omega) CG,by have:=(hd k (by omega)).2;show bn ns k+_<=_;omega⟩) (by show ns.length-((k+1))<ns.length-k;omega) (λ_=>by kernel_rfl) rfl (by kernel_rfl)
 refine ai.exit (ah.aH (ah.aH (ah.bg (ah.next (ai.seq (ai.seq (ai.region ?_)))))))
 refine af.aq (k':=2) (fr':=[(1,.pointer (some ⟨b1,0,none⟩)),(4,.map (some m2)),(63,.bool (decide ((((bn ns k:Nat):Int):Int)>(8192:Int))))]) (ak:=[]) [o_,o_] [1,4,63] (λ_ _=>by kernel_rfl) trivial ?_
 refine af.nil (by kernel_rfl) (ah.next ?_)
 refine ai.aV (p:=(((bn ns k:Nat):Int):Int)>(8192:Int)) (λ_=>by kernel_rfl) (λh63=>?_) (λh63=>?_)
 ·refine ai.seq (ai.region (af.aq (k':=2) (fr':=[(2,.map none),(3,.bool false)]) (ak:=[]) [o_,o_] [2,3] (λ_ _=>by kernel_rfl) trivial ?_))
  refine af.nil (by kernel_rfl) (ah.next (ai.ret (ah.ay ?_)))
  exact ah.ret (v:=.tuple #[.map none,.bool false]) (l:=[]) (ak:=[]) [] [2] (λ_=>by kernel_rfl) trivial rfl (by kernel_rfl) (.inr ⟨_,rfl,λh=>by have h1:=h.sum;rw [show ns.length=k by omega] at h1;omega,rfl⟩)
 refine ai.skip (ah.next (ai.seq (ai.region ?_)))
 refine af.kI (d:=(some 64)) (t:=107) (λ_=>by kernel_rfl) Try.prog rfl 3 (λm3=>?_)
 refine af.aq (k':=2) (fr':=[(1,.pointer (some ⟨b1,0,none⟩)),(4,.map (some m2)),(9,.map (some m3))]) (ak:=[]) [o_] [1,4,9] (λ_ _=>by kernel_rfl) trivial ?_
 refine af.nil (by kernel_rfl) (ah.next (ai.seq (ai.seq (ai.region ?_))))
 refine af.aZ 3 (p:=.abs (aE Try.prog 3 m3 (λ_=>none) 0)) (p':=.abs (aE Try.prog 3 m3 (mf (pf ((bQ ns 0).map (dm ns)))) ((bQ ns 0).length))) (by kernel_rfl) (by rw [BA];rfl) ?_
 refine af.aZ 1 (p:=.abs (aE Try.prog 3 m2 (mf (bf A ns k)) k)) (p':=.abs (aE Try.prog 3 m2 (mf (bf A ns ns.length)) ns.length)) (by kernel_rfl) (by rw [show k=ns.length by omega]) ?_
 refine af.aq (k':=4) (fr':=[(1,.pointer (some ⟨b1,0,none⟩)),(4,.map (some m2)),(9,.map (some m3)),(67,.int .i64 ↑ns.length),(68,.int .i64 0)]) (ak:=[b1=b1]) [o_,⟨[.at 0],none,none,none,none⟩,o_,o_] [1,4,9,67,68] (λ_ _=>by kernel_rfl) ⟨rfl,trivial⟩ ?_
 refine af.nil (by kernel_rfl) (ah.next (ai.block ?_))
 have nJ:d6 ns:=λa b hab hb=>hu.rise a b hab (by omega)
 have hsum:bn ns ns.length<=8192:=by rw [show ns.length=k by omega];omega
 refine ai.loop (ι:=Nat) (λ(i:Nat)=>(i<=ns.length)/\(∀a,a<i->∀j,j<(nd ns a).aj.length->eP ns a j)/\(((bQ ns i).map Prod.fst).Nodup)) (λ(i:Nat)=>ns.length-i) (λ(i:Nat)=>[(1,.pointer (some ⟨b1,0,none⟩)),(4,.map (some m2)),(9,.map (some m3)),(67,.int .i64 ↑ns.length),(68,.int .i64 ↑i)]) (λ(i:Nat)=>[.blk b1 [.slice A (ns.length) (c)] 24,.abs (aE Try.prog 3 m2 (mf (bf A ns ns.length)) ns.length),.abs (aE Try.prog 3 m3 (mf (pf ((bQ ns i).map (dm ns)))) ((bQ ns i).length)),.abs R]) 0 (idx:=[1,4,9,67,68]) (pk:=[0,1,3,2]) (show (0<=ns.length)/\(∀a,a<0->∀j,j<(nd ns a).aj.length->eP ns a j)/\(((bQ ns 0).map Prod.fst).Nodup) from ⟨Nat.zero_le _,λa ha=>absurd ha (Nat.not_lt_zero a),List.nodup_nil⟩) (λ_=>by kernel_rfl) rfl (by kernel_rfl) ?_
 rintro i ⟨hi,lH,hnd⟩
 show ai _ _ _ _ [(1,.pointer (some ⟨b1,0,none⟩)),(4,.map (some m2)),(9,.map (some m3)),(67,.int .i64 ↑ns.length),(68,.int .i64 ↑i)] [.blk b1 [.slice A (ns.length) (c)] 24,.abs (aE Try.prog 3 m2 (mf (bf A ns ns.length)) ns.length),.abs (aE Try.prog 3 m3 (mf (pf ((bQ ns i).map (dm ns)))) ((bQ ns i).length)),.abs R] _
 refine ai.seq (ai.region (af.aq (k':=1) (fr':=[(1,.pointer (some ⟨b1,0,none⟩)),(4,.map (some m2)),(9,.map (some m3)),(67,.int .i64 ↑ns.length),(68,.int .i64 ↑i),(69,.bool (decide ((((i:Nat):Int):Int)<(((ns.length:Nat):Int):Int))))]) (ak:=[]) [o_] [1,4,9,67,68,69] (λ_ _=>by kernel_rfl) trivial ?_))
 refine af.nil (by kernel_rfl) (ah.next (ai.seq ?_))
 refine ai.aV (p:=(((i:Nat):Int):Int)<(((ns.length:Nat):Int):Int)) (λ_=>by kernel_rfl) (λwB=>?_) (λwB=>?_)
 ·refine ai.skip (ah.next (ai.seq (ai.block (ai.seq (ai.region ?_)))))
  refine af.aq (k':=2) (fr':=[(1,.pointer (some ⟨b1,0,none⟩)),(4,.map (some m2)),(9,.map (some m3)),(10,.int .i64 ↑i),(67,.int .i64 ↑ns.length),(68,.int .i64 ↑i)]) (ak:=[]) [o_,o_] [1,4,9,10,67,68] (λ_ _=>by kernel_rfl) trivial ?_
  refine af.nil (by kernel_rfl) (ah.next (ai.seq (ai.region ?_)))
  refine af.aq (k':=6) (fr':=[(1,.pointer (some ⟨b1,0,none⟩)),(4,.map (some m2)),(9,.map (some m3)),(67,.int .i64 ↑ns.length),(68,.int .i64 ↑i),(74,.pointer (some ⟨(au A),ar A+i*10,none⟩)),(75,.map (some m2)),(76,.map (some m3))]) (ak:=[((i:Nat):Int)=((i:Nat):Int),i<ns.length,(⟨(au A),ar A,none⟩:Addr).spot=none,(A:Option Addr)=some ⟨(au A),ar A,none⟩,b1=b1]) [o_,⟨[.at 0],none,none,none,none⟩,o_,⟨[],some i,none,some ⟨(au A),ar A,none⟩,none⟩,o_,o_] [1,4,9,67,68,74,75,76] (λ_ _=>by kernel_rfl) ⟨rfl,by omega,rfl,aA.hd hG (i:=i) (by omega),rfl,trivial⟩ ?_
  refine af.call (f:=59) (args:=#[.pointer (some ⟨(au A),ar A+i*10,none⟩),.map (some m2),.map (some m3)]) (d:=(some 77)) (pre:=[.abs (aE Try.prog 3 m2 (mf (bf A ns ns.length)) ns.length),.abs (aE Try.prog 3 m3 (mf (pf ((bQ ns i).map (dm ns)))) ((bQ ns i).length))]) (R:=[.blk b1 [.slice A (ns.length) (c)] 24,.abs R]) (pk:=[1,2,0,3]) (λ_=>by kernel_rfl) (zO A ns L hG nJ i (by omega) (hd i (by omega)).2 (hwf i (by omega)) (hnm i (by omega)) m2 m3 (bQ ns i) (by have:=uM ns i;have:=mC (ns:=ns) (show i<=ns.length by omega);omega) (λp hp=>(jL (by omega) lH p hp).1) hnd) rfl (by kernel_rfl) ?_
  rintro _ _ (⟨rfl,hro,rfl⟩|⟨rfl,hro,rfl⟩)
  ·refine af.aq (k':=8) (fr':=[(1,.pointer (some ⟨b1,0,none⟩)),(4,.map (some m2)),(9,.map (some m3)),(67,.int .i64 ↑ns.length),(68,.int .i64 ↑i),(78,.bool false)]) (ak:=[]) [o_] [1,4,9,67,68,78] (λ_ _=>by kernel_rfl) trivial ?_
   refine af.nil (by kernel_rfl) (ah.next ?_)
   refine ai.cU (λ_=>by kernel_rfl) ?_
   refine ai.skip (ah.aJ (ah.next (ai.region ?_)))
   refine af.aq (k':=2) (fr':=[(1,.pointer (some ⟨b1,0,none⟩)),(4,.map (some m2)),(9,.map (some m3)),(67,.int .i64 ↑ns.length),(68,.int .i64 ↑(i+1))]) (ak:=[(Value.int .i64 (IntKind.wrap .i64 (((i:Nat):Int)+1)))=(.int .i64 ↑(i+1))]) [⟨[],none,none,none,some (.int .i64 ↑(i+1))⟩,o_] [1,4,9,67,68] (λ_ _=>by kernel_rfl) ⟨aP (by omega) (by omega) (by omega),trivial⟩ ?_
   refine af.nil (by kernel_rfl) ?_
   exact ah.turn ((i+1)) (idx:=[1,4,9,67,68]) (pk:=[2,0,1,3]) (show (((i+1))<=ns.length)/\(∀a,a<((i+1))->∀j,j<(nd ns a).aj.length->eP ns a j)/\(((bQ ns ((i+1))).map Prod.fst).Nodup) from ⟨by omega,λa ha=>(by rcases Nat.lt_succ_iff_lt_or_eq.1 ha with h|h;exact lH a h;subst h;exact hro.aj),hro.next⟩) (by show ns.length-((i+1))<ns.length-i;omega) (λ_=>by kernel_rfl) rfl (by kernel_rfl)
  refine af.aq (k':=8) (fr':=[(1,.pointer (some ⟨b1,0,none⟩)),(4,.map (some m2)),(9,.map (some m3)),(67,.int .i64 ↑ns.length),(68,.int .i64 ↑i),(78,.bool true)]) (ak:=[]) [o_] [1,4,9,67,68,78] (λ_ _=>by kernel_rfl) trivial ?_
  refine af.nil (by kernel_rfl) (ah.next ?_)
  refine ai.bL (λ_=>by kernel_rfl) ?_
  refine ai.seq (ai.region (af.aq (k':=2) (fr':=[(2,.map none),(3,.bool false)]) (ak:=[]) [o_,o_] [2,3] (λ_ _=>by kernel_rfl) trivial ?_))
  refine af.nil (by kernel_rfl) (ah.next (ai.ret (ah.aG (ah.ay (ah.ay (ah.aG (ah.ay ?_)))))))
  exact ah.ret (v:=.tuple #[.map none,.bool false]) (l:=[]) (ak:=[]) [] [1] (λ_=>by kernel_rfl) trivial rfl (by kernel_rfl) (.inr ⟨_,rfl,λh=>hro (h.row (by omega)),rfl⟩)
 refine ai.exit (ah.aH (ah.aH (ah.bg (ah.next (ai.seq (ai.region ?_))))))
 refine af.aq (k':=2) (fr':=[(80,.map (some m2)),(81,.map (some m3))]) (ak:=[]) [o_,o_] [80,81] (λ_ _=>by kernel_rfl) trivial ?_
 refine af.aZ 2 (p:=.abs (aE Try.prog 3 m3 (mf (pf ((bQ ns i).map (dm ns)))) ((bQ ns i).length))) (p':=.abs (aE Try.prog 3 m3 (mf (pf ((bQ ns i).map (dm ns)))) (((bQ ns i).map (dm ns)).length))) (by kernel_rfl) (by rw [List.length_map]) ?_
 refine af.call (f:=60) (args:=#[.map (some m3)]) (d:=(some 82)) (pre:=[.abs (aE Try.prog 3 m3 (mf (pf ((bQ ns i).map (dm ns)))) (((bQ ns i).map (dm ns)).length))]) (R:=[.blk b1 [.slice A (ns.length) (c)] 24,.abs (aE Try.prog 3 m2 (mf (bf A ns ns.length)) ns.length),.abs R]) (pk:=[2,0,1,3]) (λ_=>by kernel_rfl) ((yD m3 ((bQ ns i).map (dm ns)) (by rw [List.length_map];have:=uM ns i;have:=mC (ns:=ns) (show i<=ns.length by omega);omega) (yJ (jL (by omega) lH) (λa ha=>hu.ids a (by omega)))).mono (λv l h=>CF h)) rfl (by kernel_rfl) ?_
 rintro _ _ (⟨rfl,CH,rfl⟩|⟨rfl,CH,rfl⟩)
 ·refine af.aq (k':=5) (fr':=[(2,.map (some m2)),(3,.bool true)]) (ak:=[]) [o_,o_] [2,3] (λ_ _=>by kernel_rfl) trivial ?_
  refine af.nil (by kernel_rfl) (ah.next (ai.ret ?_))
  exact ah.ret (v:=.tuple #[.map (some m2),.bool true]) (l:=[.abs (aE Try.prog 3 m2 (mf (bf A ns ns.length)) ns.length)]) (ak:=[]) [] [1,2] (λ_=>by kernel_rfl) trivial rfl (by kernel_rfl) (.inl ⟨m2,rfl,⟨by omega,λa ha=>hu.node a (by omega),λa ha=>hu.ids a (by omega),nJ,by omega,λa ha=>lH a (by omega),by have:=hnd;rwa [show i=ns.length by omega] at this,by have:=CH;rwa [show i=ns.length by omega] at this⟩,rfl⟩)
 refine af.aq (k':=5) (fr':=[(2,.map (some m2)),(3,.bool false)]) (ak:=[]) [o_,o_] [2,3] (λ_ _=>by kernel_rfl) trivial ?_
 refine af.nil (by kernel_rfl) (ah.next (ai.ret ?_))
 exact ah.ret (v:=.tuple #[.map (some m2),.bool false]) (l:=[]) (ak:=[]) [] [2] (λ_=>by kernel_rfl) trivial rfl (by kernel_rfl) (.inr ⟨_,rfl,λh=>CH (by have:=h.ends;rwa [show ns.length=i by omega] at this),rfl⟩)
end
section
open Go.RowKit Go.Maps
def nK (ed:List (Nat×Nat)) (k:Nat):Int:=match ed.lookup k with|some a=>(a:Int)|none=>-1
structure lI (n:Nat) (pl:List Int) (ed:List (Nat×Nat)):Prop where
 len:pl.length=n
 at_:∀k,k<n->pl.getD k 0=nK ed k
theorem lJ {w:List Int} {j:Nat} (hj:j<w.length):(cq w)[j]?=some (.int .i64 (w.getD j 0)):=by
 grind [cq,getD_some]
theorem oC (pl:List Int) (k:Nat) (x:Int):(cq pl).set k (.int .i64 x)=cq (pl.set k x):=by
 unfold cq
 rw [List.map_set]
theorem uN {pl:List Int} {k j:Nat} {x:Int} (hk:k<pl.length):(pl.set k x).getD j 0=if j=k then x else pl.getD j 0:=by
 grind
theorem lI.put {n:Nat} {pl:List Int} {ed:List (Nat×Nat)} (h:lI n pl ed) {k a:Nat} (hk:k<n):lI n (pl.set k (a:Int)) ((k,a)::ed):=by
 refine⟨by rw [List.length_set];exact h.len,λj hj=>?_⟩
 rw [uN (by rw [h.len];exact hk)]
 unfold nK
 rw [List.lookup_cons]
 by_cases e:j=k
 ·subst e;simp
 have:(j == k)=false:=by simp [e]
 rw [if_neg e,this,h.at_ j hj]
 rfl
theorem lK {ed:List (Nat×Nat)} {k:Nat}:nK ed k<0↔k∉ed.map Prod.fst:=by
 grind [nK]
theorem BD {ns:List aD} {ed:List (Nat×Nat)} {k:Nat} (hr:d6 ns) (hk:k<ns.length) (hp:∀p,p∈ed->p.1<ns.length) :
 (nK ed k<0/\up (ed.map (dm ns)) (nd ns k).id=none)\/∃a:Nat,nK ed k=(a:Int)/\(k,a)∈ed/\up (ed.map (dm ns)) (nd ns k).id=some (nd ns a).id:=by
 unfold nK up
 induction ed with
 |nil=>exact .inl ⟨by simp,rfl⟩
 |cons p ed ih=>
   obtain⟨a,b⟩:=p
   rw [List.map_cons,dm,List.lookup_cons,List.lookup_cons]
   by_cases e:k=a
   ·grind
   have h1:(k == a)=false:=by simp [e]
   have h2:((nd ns k).id == (nd ns a).id)=false:=by
    simp
    exact λh=>e (hr.inj hk (hp (a,b) (List.mem_cons_self ..)) h)
   grind
theorem Way.back {ps:List (Int×Int)} {z0:Int} {w:List Int} (h:Way ps z0 w z0) (hl:0<w.length):¬Ends ps z0:=λ⟨k,hk⟩=>by
 obtain⟨j,hj,h2⟩:=h.long hk
 have:=fR.uniq hk h2
 omega
theorem nL:∀(n:Nat) (l:List Nat),l.Nodup->(∀x,x∈l->x<n)->l.length<=n
 |0,[],_,_=>Nat.le_refl _
 |0,a::l,_,h=>absurd (h a (List.mem_cons_self ..)) (Nat.not_lt_zero a)
 |n+1,l,hn,h=>by
   have h1:=nL n (l.erase n) (hn.erase n) (λx hx=>by
    have h2:=(List.Nodup.mem_erase_iff hn).1 hx
    have:=h x h2.2
    omega)
   by_cases hm:n∈l
   ·have:=List.length_erase_of_mem hm
    omega
   rw [List.erase_of_not_mem hm] at h1
   omega
theorem sV {ns:List aD} {ed:List (Nat×Nat)} (hp:∀p,p∈ed->p.1<ns.length) (h:∀i,i<ns.length->Ends (ed.map (dm ns)) (nd ns i).id):mQ (ed.map (dm ns)):=by
 intro z
 cases hu:up (ed.map (dm ns)) z with
 |none=>exact⟨0,hu⟩
 |some y=>
   have:∃p,p∈ed/\z=(nd ns p.1).id:=by
    unfold up at hu
    clear h
    induction ed with
    |nil=>cases hu
    |cons p ed ih=>
      grind [dm,nd]
   obtain⟨p,h1,rfl⟩:=this
   exact h p.1 (hp p h1)
theorem uO {ns:List aD} {ed:List (Nat×Nat)} {pl:List Int} {z:Int} {b m:Nat} {w:List Int} (hr:d6 ns) (hp:∀p,p∈ed->p.1<ns.length/\p.2<ns.length) (hpar:lI ns.length pl ed) (hb:b<ns.length) (hw:Way (ed.map (dm ns)) z w (nd ns b).id) (hm:w.length=m) :
 (pl.getD b 0<0/\Ends (ed.map (dm ns)) z)\/∃q:Nat,pl.getD b 0=(q:Int)/\q<ns.length/\Way (ed.map (dm ns)) z (w++[(nd ns b).id]) (nd ns q).id/\(w++[(nd ns b).id]).length=m+1:=by
 rw [hpar.at_ b hb]
 rcases BD hr hb (λp h=>(hp p h).1) with ⟨h1,h2⟩|⟨a,h1,h2,h3⟩
 ·exact .inl ⟨h1,(hw.ends ⟨0,h2⟩).1⟩
 exact .inr ⟨a,h1,(hp _ h2).2,hw.snoc h3,by simp;omega⟩
theorem nM {ns:List aD} {i j:Nat} (h1:0<=cL ns (ent ns i j).id) (h2:cZ (ent ns i j).name) (h3:0<j->¬gD (ent ns i j).name (ent ns i (j-1)).name):eP ns i j:=by
 refine⟨h1,h2,?_⟩
 cases j with
 |zero=>
   intro h
   have:=vP.1 h
   have h4:=h2.1
   rw [this] at h4
   exact absurd h4 (by decide)
 |succ j=>exact h3 (Nat.succ_pos j)
theorem wY {ns:List aD} {k:Nat} (h:0<k):gL ns k=(nd ns (k-1)).id:=by
 cases k with
 |zero=>omega
 |succ k=>rfl
theorem uP {ns:List aD} {i j:Nat} (h:0<j):d5 ns i j=(ent ns i (j-1)).name:=by
 cases j with
 |zero=>omega
 |succ j=>rfl
theorem bw.few {ns:List aD} (h:bw ns):((bQ ns ns.length).map (dm ns)).length<=ns.length:=by
 rw [List.length_map]
 have h1:=jL (ns:=ns) (Nat.le_refl _) h.aj
 have h2:=nL ns.length ((bQ ns ns.length).map Prod.fst) h.nodup (λx hx=>by
  obtain⟨p,hp,rfl⟩:=List.mem_map.1 hx
  exact (h1 p hp).1)
 rwa [List.length_map] at h2
end
section
open Go.RowKit
attribute [local irreducible] af aN ai ah
theorem vR {β:Bs} (A:Option Addr) (c:Nat) (ns:List aD) (L:Lay) (hG:aA β A ns L) (hl:ns.length<=1048576) (hd:∀i,i<ns.length->(nd ns i).data.length<=1048576/\(nd ns i).aj.length<=1048576) (_:∀i,i<ns.length->∀j,j<(nd ns i).aj.length->-9223372036854775808<=(ent ns i j).id/\(ent ns i j).id<=9223372036854775807) (hnm:∀i,i<ns.length->∀j,j<(nd ns i).aj.length->(ent ns i j).name.size<=1048576) (ht:∀i,i<ns.length->(nd ns i).target.size<=1048576) :
 Spec Try.prog β 16 #[.agg #[.slice A ns.length c]] [] (λv l=>v=.int .i64 (if bw ns then 0 else 140)/\l=[]):=by
 refine Spec.enter Try.func16 rfl Try.ntmps16 (Nat.le_of_ble_eq_true rfl) (λR=>?_)
 refine ai.seq (ai.region (af.bD (k':=2) (fr':=λb1=>[(1,.pointer (some ⟨b1,0,none⟩))]) (aL:=λb1=>[.abs R,.blk b1 [.slice A (ns.length) (c)] 24]) (ak:=λb1=>[]) [o_,o_] [1] [0,1] (λ_ _=>by kernel_rfl) (λb1=>trivial) (λb1=>?_)))
 refine af.nil (by kernel_rfl) (ah.next (ai.seq (ai.seq (ai.region ?_))))
 refine af.aq (k':=4) (fr':=[(1,.pointer (some ⟨b1,0,none⟩)),(18,.bool (decide ((((ns.length:Nat):Int):Int)>(4096:Int))))]) (ak:=[b1=b1]) [o_,⟨[.at 1],none,none,none,none⟩,o_,o_] [1,18] (λ_ _=>by kernel_rfl) ⟨rfl,trivial⟩ ?_
 refine af.nil (by kernel_rfl) (ah.next ?_)
 refine ai.aV (p:=(((ns.length:Nat):Int):Int)>(4096:Int)) (λ_=>by kernel_rfl) (λlD=>?_) (λlD=>?_)
 ·refine ai.seq (ai.region (af.aq (k':=1) (fr':=[(2,.int .i64 140)]) (ak:=[]) [o_] [2] (λ_ _=>by kernel_rfl) trivial ?_))
  refine af.nil (by kernel_rfl) (ah.next (ai.ret (ah.ay ?_)))
  exact ah.ret (v:=.int .i64 140) (l:=[]) (ak:=[]) [] [0] (λ_=>by kernel_rfl) trivial rfl (by kernel_rfl) (⟨congrArg (Value.int .i64) (if_neg (c:=bw ns) (λh=>by have:=h.len;omega)).symm,rfl⟩)
 refine ai.skip (ah.next (ai.seq (ai.region ?_)))
 refine af.aq (k':=1) (fr':=[(1,.pointer (some ⟨b1,0,none⟩)),(3,.int .i64 0)]) (ak:=[]) [o_] [1,3] (λ_ _=>by kernel_rfl) trivial ?_
 refine af.nil (by kernel_rfl) (ah.next (ai.seq (ai.seq (ai.region ?_))))
 refine af.aq (k':=1) (fr':=[(1,.pointer (some ⟨b1,0,none⟩)),(3,.int .i64 0),(4,.int .i64 0)]) (ak:=[]) [o_] [1,3,4] (λ_ _=>by kernel_rfl) trivial ?_
 refine af.nil (by kernel_rfl) (ah.next (ai.block ?_))
 refine ai.loop (ι:=Nat) (λ(k:Nat)=>(k<=ns.length)/\(ig ns k)/\(bn ns k<=k*1048576)) (λ(k:Nat)=>ns.length-k) (λ(k:Nat)=>[(1,.pointer (some ⟨b1,0,none⟩)),(3,.int .i64 ↑(bn ns k)),(4,.int .i64 ↑k)]) (λ(k:Nat)=>[.blk b1 [.slice A (ns.length) (c)] 24,.abs R]) 0 (idx:=[1,3,4]) (pk:=[1,0]) (show (0<=ns.length)/\(ig ns 0)/\(bn ns 0<=0*1048576) from ⟨Nat.zero_le _,ig.zero ns,Nat.zero_le _⟩) (λ_=>by kernel_rfl) rfl (by kernel_rfl) ?_
 rintro k ⟨hk,hu,hs⟩
 show ai _ _ _ _ [(1,.pointer (some ⟨b1,0,none⟩)),(3,.int .i64 ↑(bn ns k)),(4,.int .i64 ↑k)] [.blk b1 [.slice A (ns.length) (c)] 24,.abs R] _
 have hk4:=(hd k)
 refine ai.seq (ai.seq (ai.region (af.aq (k':=5) (fr':=[(1,.pointer (some ⟨b1,0,none⟩)),(3,.int .i64 ↑(bn ns k)),(4,.int .i64 ↑k),(23,.bool (decide ((((k:Nat):Int):Int)<(((ns.length:Nat):Int):Int))))]) (ak:=[b1=b1]) [o_,o_,⟨[.at 0],none,none,none,none⟩,o_,o_] [1,3,4,23] (λ_ _=>by kernel_rfl) ⟨rfl,trivial⟩ ?_)))
 refine af.nil (by kernel_rfl) (ah.next ?_)
 refine ai.aV (p:=(((k:Nat):Int):Int)<(((ns.length:Nat):Int):Int)) (λ_=>by kernel_rfl) (λh23=>?_) (λh23=>?_)
 ·refine ai.skip (ah.next (ai.seq (ai.block (ai.seq (ai.region ?_)))))
  refine af.bD (k':=7) (fr':=λb2=>[(1,.pointer (some ⟨b1,0,none⟩)),(3,.int .i64 ↑(bn ns k)),(4,.int .i64 ↑k),(5,.pointer (some ⟨b2,0,none⟩))]) (aL:=λb2=>[.blk b1 [.slice A (ns.length) (c)] 24,.abs R,.blk b2 [.int .i64 ((nd ns k).id),.int .i64 ((nd ns k).kind),.int .i64 ((nd ns k).mode),.int .i64 ((nd ns k).uid),.int .i64 ((nd ns k).gid),.int .i64 ((nd ns k).sec),.int .i64 ((nd ns k).nano),.slice (L.dA k) ((nd ns k).data.length) ((L.dC k)),.string (nd ns k).target,.slice (L.eA k) ((nd ns k).aj.length) ((L.eC k))] 32]) (ak:=λb2=>[b2=b2,b2=b2,b2=b2,b2=b2,b2=b2,b2=b2,b2=b2,b2=b2,b2=b2,b2=b2,(Rd β ⟨(au A),ar A+k*10+9,none⟩ (.slice (L.eA k) ((nd ns k).aj.length) ((L.eC k)))),(Rd β ⟨(au A),ar A+k*10+8,none⟩ (.string (nd ns k).target)),(Rd β ⟨(au A),ar A+k*10+7,none⟩ (.slice (L.dA k) ((nd ns k).data.length) ((L.dC k)))),(Rd β ⟨(au A),ar A+k*10+6,none⟩ (.int .i64 ((nd ns k).nano))),(Rd β ⟨(au A),ar A+k*10+5,none⟩ (.int .i64 ((nd ns k).sec))),(Rd β ⟨(au A),ar A+k*10+4,none⟩ (.int .i64 ((nd ns k).gid))),(Rd β ⟨(au A),ar A+k*10+3,none⟩ (.int .i64 ((nd ns k).uid))),(Rd β ⟨(au A),ar A+k*10+2,none⟩ (.int .i64 ((nd ns k).mode))),(Rd β ⟨(au A),ar A+k*10+1,none⟩ (.int .i64 ((nd ns k).kind))),(Rd β ⟨(au A),ar A+k*10,none⟩ (.int .i64 ((nd ns k).id))),((k:Nat):Int)=((k:Nat):Int),k<ns.length,(⟨(au A),ar A,none⟩:Addr).spot=none,(A:Option Addr)=some ⟨(au A),ar A,none⟩,b1=b1]) [o_,⟨[.at 0],none,none,none,none⟩,o_,⟨[],some k,none,some ⟨(au A),ar A,none⟩,none⟩,⟨[.old (.int .i64 ((nd ns k).id)),.old (.int .i64 ((nd ns k).kind)),.old (.int .i64 ((nd ns k).mode)),.old (.int .i64 ((nd ns k).uid)),.old (.int .i64 ((nd ns k).gid)),.old (.int .i64 ((nd ns k).sec)),.old (.int .i64 ((nd ns k).nano)),.old (.slice (L.dA k) ((nd ns k).data.length) ((L.dC k))),.old (.string (nd ns k).target),.old (.slice (L.eA k) ((nd ns k).aj.length) ((L.eC k)))],none,none,none,none⟩,o_,⟨[.at 2,.at 2,.at 2,.at 2,.at 2,.at 2,.at 2,.at 2,.at 2,.at 2],none,none,none,none⟩] [1,3,4,5] [0,1,2] (λ_ _=>by kernel_rfl) (λb2=>⟨rfl,rfl,rfl,rfl,rfl,rfl,rfl,rfl,rfl,rfl,aA.rd hG (i:=k) (by omega) (j:=9) rfl,aA.rd hG (i:=k) (by omega) (j:=8) rfl,aA.rd hG (i:=k) (by omega) (j:=7) rfl,aA.rd hG (i:=k) (by omega) (j:=6) rfl,aA.rd hG (i:=k) (by omega) (j:=5) rfl,aA.rd hG (i:=k) (by omega) (j:=4) rfl,aA.rd hG (i:=k) (by omega) (j:=3) rfl,aA.rd hG (i:=k) (by omega) (j:=2) rfl,aA.rd hG (i:=k) (by omega) (j:=1) rfl,aA.rd hG (i:=k) (by omega) (j:=0) rfl,rfl,by omega,rfl,aA.hd hG (i:=k) (by omega),rfl,trivial⟩) (λb2=>?_)
  refine af.nil (by kernel_rfl) (ah.next (ai.seq (ai.seq ?_)))
  refine ai.ga (by kernel_rfl) (by kernel_rfl) ?_
  refine aN.seg (k':=4) (fr':=[(1,.pointer (some ⟨b1,0,none⟩)),(3,.int .i64 ↑(bn ns k)),(4,.int .i64 ↑k),(5,.pointer (some ⟨b2,0,none⟩)),(34,.bool (decide (((nd ns k).id:Int)<(1:Int))))]) (ak:=[b2=b2]) [o_,⟨[.at 2],none,none,none,none⟩,o_,o_] [1,3,4,5,34] (λ_ _=>by kernel_rfl) ⟨rfl,trivial⟩ ?_
  refine aN.bO 34 (((nd ns k).id:Int)<(1:Int)) (λ_=>by kernel_rfl) (λuK=>?_) (λuK=>?_)
  ·refine aN.seg (k':=29) (fr':=[(1,.pointer (some ⟨b1,0,none⟩)),(3,.int .i64 ↑(bn ns k)),(4,.int .i64 ↑k),(5,.pointer (some ⟨b2,0,none⟩)),(59,.bool true)]) (ak:=[]) [o_,o_,o_,o_,o_,o_,o_,o_,o_,o_,o_,o_,o_,o_,o_,o_,o_,o_,o_,o_,o_,o_,o_,o_,o_] [1,3,4,5,59] (λ_ _=>by kernel_rfl) trivial ?_
   refine aN.nil (by kernel_rfl) (ah.next ?_)
   refine ai.bL (λ_=>by kernel_rfl) ?_
   refine ai.seq (ai.region (af.aq (k':=1) (fr':=[(2,.int .i64 140)]) (ak:=[]) [o_] [2] (λ_ _=>by kernel_rfl) trivial ?_))
   refine af.nil (by kernel_rfl) (ah.next (ai.ret (ah.ay (ah.aG (ah.ay (ah.ay (ah.aG (ah.ay ?_))))))))
   exact ah.ret (v:=.int .i64 140) (l:=[]) (ak:=[]) [] [1] (λ_=>by kernel_rfl) trivial rfl (by kernel_rfl) (⟨congrArg (Value.int .i64) (if_neg (c:=bw ns) (λh=>by have:=(h.ids k (by omega)).1;omega)).symm,rfl⟩)
  refine aN.seg (k':=9) (fr':=[(1,.pointer (some ⟨b1,0,none⟩)),(3,.int .i64 ↑(bn ns k)),(4,.int .i64 ↑k),(5,.pointer (some ⟨b2,0,none⟩)),(39,.bool (decide (((nd ns k).id:Int)>(1099511627776:Int))))]) (ak:=[b2=b2]) [o_,⟨[.at 2],none,none,none,none⟩,o_,o_,o_] [1,3,4,5,39] (λ_ _=>by kernel_rfl) ⟨rfl,trivial⟩ ?_
  refine aN.bO 39 (((nd ns k).id:Int)>(1099511627776:Int)) (λ_=>by kernel_rfl) (λjA=>?_) (λjA=>?_)
  ·refine aN.seg (k':=29) (fr':=[(1,.pointer (some ⟨b1,0,none⟩)),(3,.int .i64 ↑(bn ns k)),(4,.int .i64 ↑k),(5,.pointer (some ⟨b2,0,none⟩)),(59,.bool true)]) (ak:=[]) [o_,o_,o_,o_,o_,o_,o_,o_,o_,o_,o_,o_,o_,o_,o_,o_,o_,o_,o_,o_] [1,3,4,5,59] (λ_ _=>by kernel_rfl) trivial ?_
   refine aN.nil (by kernel_rfl) (ah.next ?_)
   refine ai.bL (λ_=>by kernel_rfl) ?_
   refine ai.seq (ai.region (af.aq (k':=1) (fr':=[(2,.int .i64 140)]) (ak:=[]) [o_] [2] (λ_ _=>by kernel_rfl) trivial ?_))
   refine af.nil (by kernel_rfl) (ah.next (ai.ret (ah.ay (ah.aG (ah.ay (ah.ay (ah.aG (ah.ay ?_))))))))
   exact ah.ret (v:=.int .i64 140) (l:=[]) (ak:=[]) [] [1] (λ_=>by kernel_rfl) trivial rfl (by kernel_rfl) (⟨congrArg (Value.int .i64) (if_neg (c:=bw ns) (λh=>by have:=(h.ids k (by omega)).2;omega)).symm,rfl⟩)
  refine aN.seg (k':=12) (fr':=[(1,.pointer (some ⟨b1,0,none⟩)),(3,.int .i64 ↑(bn ns k)),(4,.int .i64 ↑k),(5,.pointer (some ⟨b2,0,none⟩)),(39,.bool false),(42,.bool (decide ((((k:Nat):Int):Int)>(0:Int))))]) (ak:=[]) [o_,o_,o_] [1,3,4,5,39,42] (λ_ _=>by kernel_rfl) trivial ?_
  refine aN.bO 42 ((((k:Nat):Int):Int)>(0:Int)) (λ_=>by kernel_rfl) (λCz=>?_) (λCz=>?_)
  ·refine aN.seg (k':=25) (fr':=[(1,.pointer (some ⟨b1,0,none⟩)),(3,.int .i64 ↑(bn ns k)),(4,.int .i64 ↑k),(5,.pointer (some ⟨b2,0,none⟩)),(55,.bool (decide (((nd ns k).id:Int)<=((nd ns (k-1)).id:Int))))]) (ak:=[(Rd β ⟨(au A),ar A+(k-1)*10,none⟩ (.int .i64 ((nd ns (k-1)).id))),(((k-1):Nat):Int)=(((k-1):Nat):Int),(k-1)<ns.length,(⟨(au A),ar A,none⟩:Addr).spot=none,(A:Option Addr)=some ⟨(au A),ar A,none⟩,(Value.int .i64 (IntKind.wrap .i64 (((k:Nat):Int)-1)))=(.int .i64 ↑(k-1)),b1=b1,b2=b2]) [o_,⟨[.at 2],none,none,none,none⟩,o_,⟨[.at 0],none,none,none,none⟩,o_,⟨[],none,none,none,some (.int .i64 ↑(k-1))⟩,⟨[],some (k-1),none,some ⟨(au A),ar A,none⟩,none⟩,o_,⟨[.old (.int .i64 ((nd ns (k-1)).id))],none,none,none,none⟩,o_,o_,o_,o_] [1,3,4,5,55] (λ_ _=>by kernel_rfl) ⟨aA.rd hG (i:=(k-1)) (by omega) (j:=0) rfl,rfl,by omega,rfl,aA.hd hG (i:=(k-1)) (by omega),aP (by omega) (by omega) (by omega),rfl,rfl,trivial⟩ ?_
   refine aN.bO 55 (((nd ns k).id:Int)<=((nd ns (k-1)).id:Int)) (λ_=>by kernel_rfl) (λEj=>?_) (λEj=>?_)
   ·refine aN.seg (k':=29) (fr':=[(1,.pointer (some ⟨b1,0,none⟩)),(3,.int .i64 ↑(bn ns k)),(4,.int .i64 ↑k),(5,.pointer (some ⟨b2,0,none⟩)),(59,.bool true)]) (ak:=[]) [o_,o_,o_,o_] [1,3,4,5,59] (λ_ _=>by kernel_rfl) trivial ?_
    refine aN.nil (by kernel_rfl) (ah.next ?_)
    refine ai.bL (λ_=>by kernel_rfl) ?_
    refine ai.seq (ai.region (af.aq (k':=1) (fr':=[(2,.int .i64 140)]) (ak:=[]) [o_] [2] (λ_ _=>by kernel_rfl) trivial ?_))
    refine af.nil (by kernel_rfl) (ah.next (ai.ret (ah.ay (ah.aG (ah.ay (ah.ay (ah.aG (ah.ay ?_))))))))
    exact ah.ret (v:=.int .i64 140) (l:=[]) (ak:=[]) [] [1] (λ_=>by kernel_rfl) trivial rfl (by kernel_rfl) (⟨congrArg (Value.int .i64) (if_neg (c:=bw ns) (λh=>by have:=h.rise (k-1) k (by omega) (by omega);omega)).symm,rfl⟩)
   refine aN.seg (k':=26) (fr':=[(1,.pointer (some ⟨b1,0,none⟩)),(3,.int .i64 ↑(bn ns k)),(4,.int .i64 ↑k),(5,.pointer (some ⟨b2,0,none⟩)),(55,.bool false),(56,.agg #[.int .i64 ((nd ns k).id),.int .i64 ((nd ns k).kind),.int .i64 ((nd ns k).mode),.int .i64 ((nd ns k).uid),.int .i64 ((nd ns k).gid),.int .i64 ((nd ns k).sec),.int .i64 ((nd ns k).nano),.slice (L.dA k) ((nd ns k).data.length) ((L.dC k)),.string (nd ns k).target,.slice (L.eA k) ((nd ns k).aj.length) ((L.eC k))])]) (ak:=[b2=b2,b2=b2,b2=b2,b2=b2,b2=b2,b2=b2,b2=b2,b2=b2,b2=b2,b2=b2]) [⟨[.at 2,.at 2,.at 2,.at 2,.at 2,.at 2,.at 2,.at 2,.at 2,.at 2],none,none,none,none⟩] [1,3,4,5,55,56] (λ_ _=>by kernel_rfl) ⟨rfl,rfl,rfl,rfl,rfl,rfl,rfl,rfl,rfl,rfl,trivial⟩ ?_
   refine aN.call (f:=39) (args:=#[.agg #[.int .i64 ((nd ns k).id),.int .i64 ((nd ns k).kind),.int .i64 ((nd ns k).mode),.int .i64 ((nd ns k).uid),.int .i64 ((nd ns k).gid),.int .i64 ((nd ns k).sec),.int .i64 ((nd ns k).nano),.slice (L.dA k) ((nd ns k).data.length) ((L.dC k)),.string (nd ns k).target,.slice (L.eA k) ((nd ns k).aj.length) ((L.eC k))]]) (d:=(some 57)) (pre:=[]) (R:=[.blk b1 [.slice A (ns.length) (c)] 24,.abs R,.blk b2 [.int .i64 ((nd ns k).id),.int .i64 ((nd ns k).kind),.int .i64 ((nd ns k).mode),.int .i64 ((nd ns k).uid),.int .i64 ((nd ns k).gid),.int .i64 ((nd ns k).sec),.int .i64 ((nd ns k).nano),.slice (L.dA k) ((nd ns k).data.length) ((L.dC k)),.string (nd ns k).target,.slice (L.eA k) ((nd ns k).aj.length) ((L.eC k))] 32]) (pk:=[0,1,2]) (sE:=[0,1,2]) (v0:=.bool (decide (fV (nd ns k)))) (λ_=>by kernel_rfl) (uE (nd ns k) (L.dA k) (L.eA k) (L.dC k) (L.eC k) (ht k (by omega))) rfl (by kernel_rfl) rfl (by kernel_rfl) (λ_ _ h=>h) ?_
   refine aN.seg (k':=29) (fr':=[(1,.pointer (some ⟨b1,0,none⟩)),(3,.int .i64 ↑(bn ns k)),(4,.int .i64 ↑k),(5,.pointer (some ⟨b2,0,none⟩)),(59,.bool (!(decide (fV (nd ns k)))))]) (ak:=[]) [o_,o_] [1,3,4,5,59] (λ_ _=>by kernel_rfl) trivial ?_
   refine aN.nil (by kernel_rfl) (ah.next ?_)
   refine ai.cY (p:=fV (nd ns k)) (λ_=>by kernel_rfl) (λmR=>?_) (λmR=>?_)
   ·refine ai.seq (ai.region (af.aq (k':=1) (fr':=[(2,.int .i64 140)]) (ak:=[]) [o_] [2] (λ_ _=>by kernel_rfl) trivial ?_))
    refine af.nil (by kernel_rfl) (ah.next (ai.ret (ah.ay (ah.aG (ah.ay (ah.ay (ah.aG (ah.ay ?_))))))))
    exact ah.ret (v:=.int .i64 140) (l:=[]) (ak:=[]) [] [1] (λ_=>by kernel_rfl) trivial rfl (by kernel_rfl) (⟨congrArg (Value.int .i64) (if_neg (c:=bw ns) (λh=>by exact mR (h.node k (by omega)))).symm,rfl⟩)
   refine ai.skip (ah.next (ai.region ?_))
   refine af.aq (k':=6) (fr':=[(1,.pointer (some ⟨b1,0,none⟩)),(3,.int .i64 ↑((bn ns k)+((nd ns k).aj.length))),(4,.int .i64 ↑k)]) (ak:=[(Value.int .i64 (IntKind.wrap .i64 (((bn ns k:Nat):Int)+(((nd ns k).aj.length:Nat):Int))))=(.int .i64 ↑((bn ns k)+((nd ns k).aj.length))),b2=b2]) [o_,o_,⟨[.at 2],none,none,none,none⟩,o_,⟨[],none,none,none,some (.int .i64 ↑((bn ns k)+((nd ns k).aj.length)))⟩,o_] [1,3,4] (λ_ _=>by kernel_rfl) ⟨aP (by omega) (by omega) (by omega),rfl,trivial⟩ ?_
   refine af.nil (by kernel_rfl) (ah.aJ (ah.next (ai.region ?_)))
   refine af.aq (k':=3) (fr':=[(1,.pointer (some ⟨b1,0,none⟩)),(3,.int .i64 ↑((bn ns k)+((nd ns k).aj.length))),(4,.int .i64 ↑(k+1))]) (ak:=[(Value.int .i64 (IntKind.wrap .i64 (((k:Nat):Int)+1)))=(.int .i64 ↑(k+1))]) [o_,⟨[],none,none,none,some (.int .i64 ↑(k+1))⟩,o_] [1,3,4] (λ_ _=>by kernel_rfl) ⟨aP (by omega) (by omega) (by omega),trivial⟩ ?_
   refine af.nil (by kernel_rfl) ?_
   exact ah.turn ((k+1)) (idx:=[1,3,4]) (pk:=[0,1]) (show (((k+1))<=ns.length)/\(ig ns ((k+1)))/\(bn ns ((k+1))<=((k+1))*1048576) from ⟨by omega,hu.step (by rw [wY (by omega)];omega) (by omega) mR,by show bn ns k+_<=_;omega⟩) (by show ns.length-((k+1))<ns.length-k;omega) (λ_=>by kernel_rfl) rfl (by kernel_rfl)
  refine aN.seg (k':=26) (fr':=[(1,.pointer (some ⟨b1,0,none⟩)),(3,.int .i64 ↑(bn ns k)),(4,.int .i64 ↑k),(5,.pointer (some ⟨b2,0,none⟩)),(55,.bool false),(56,.agg #[.int .i64 ((nd ns k).id),.int .i64 ((nd ns k).kind),.int .i64 ((nd ns k).mode),.int .i64 ((nd ns k).uid),.int .i64 ((nd ns k).gid),.int .i64 ((nd ns k).sec),.int .i64 ((nd ns k).nano),.slice (L.dA k) ((nd ns k).data.length) ((L.dC k)),.string (nd ns k).target,.slice (L.eA k) ((nd ns k).aj.length) ((L.eC k))])]) (ak:=[b2=b2,b2=b2,b2=b2,b2=b2,b2=b2,b2=b2,b2=b2,b2=b2,b2=b2,b2=b2]) [o_,o_,o_,o_,o_,o_,o_,o_,o_,o_,o_,o_,o_,⟨[.at 2,.at 2,.at 2,.at 2,.at 2,.at 2,.at 2,.at 2,.at 2,.at 2],none,none,none,none⟩] [1,3,4,5,55,56] (λ_ _=>by kernel_rfl) ⟨rfl,rfl,rfl,rfl,rfl,rfl,rfl,rfl,rfl,rfl,trivial⟩ ?_
  refine aN.call (f:=39) (args:=#[.agg #[.int .i64 ((nd ns k).id),.int .i64 ((nd ns k).kind),.int .i64 ((nd ns k).mode),.int .i64 ((nd ns k).uid),.int .i64 ((nd ns k).gid),.int .i64 ((nd ns k).sec),.int .i64 ((nd ns k).nano),.slice (L.dA k) ((nd ns k).data.length) ((L.dC k)),.string (nd ns k).target,.slice (L.eA k) ((nd ns k).aj.length) ((L.eC k))]]) (d:=(some 57)) (pre:=[]) (R:=[.blk b1 [.slice A (ns.length) (c)] 24,.abs R,.blk b2 [.int .i64 ((nd ns k).id),.int .i64 ((nd ns k).kind),.int .i64 ((nd ns k).mode),.int .i64 ((nd ns k).uid),.int .i64 ((nd ns k).gid),.int .i64 ((nd ns k).sec),.int .i64 ((nd ns k).nano),.slice (L.dA k) ((nd ns k).data.length) ((L.dC k)),.string (nd ns k).target,.slice (L.eA k) ((nd ns k).aj.length) ((L.eC k))] 32]) (pk:=[0,1,2]) (sE:=[0,1,2]) (v0:=.bool (decide (fV (nd ns k)))) (λ_=>by kernel_rfl) (uE (nd ns k) (L.dA k) (L.eA k) (L.dC k) (L.eC k) (ht k (by omega))) rfl (by kernel_rfl) rfl (by kernel_rfl) (λ_ _ h=>h) ?_
  refine aN.seg (k':=29) (fr':=[(1,.pointer (some ⟨b1,0,none⟩)),(3,.int .i64 ↑(bn ns k)),(4,.int .i64 ↑k),(5,.pointer (some ⟨b2,0,none⟩)),(59,.bool (!(decide (fV (nd ns k)))))]) (ak:=[]) [o_,o_] [1,3,4,5,59] (λ_ _=>by kernel_rfl) trivial ?_
  refine aN.nil (by kernel_rfl) (ah.next ?_)
  refine ai.cY (p:=fV (nd ns k)) (λ_=>by kernel_rfl) (λmR=>?_) (λmR=>?_)
  ·refine ai.seq (ai.region (af.aq (k':=1) (fr':=[(2,.int .i64 140)]) (ak:=[]) [o_] [2] (λ_ _=>by kernel_rfl) trivial ?_))
   refine af.nil (by kernel_rfl) (ah.next (ai.ret (ah.ay (ah.aG (ah.ay (ah.ay (ah.aG (ah.ay ?_))))))))
   exact ah.ret (v:=.int .i64 140) (l:=[]) (ak:=[]) [] [1] (λ_=>by kernel_rfl) trivial rfl (by kernel_rfl) (⟨congrArg (Value.int .i64) (if_neg (c:=bw ns) (λh=>by exact mR (h.node k (by omega)))).symm,rfl⟩)
  refine ai.skip (ah.next (ai.region ?_))
  refine af.aq (k':=6) (fr':=[(1,.pointer (some ⟨b1,0,none⟩)),(3,.int .i64 ↑((bn ns k)+((nd ns k).aj.length))),(4,.int .i64 ↑k)]) (ak:=[(Value.int .i64 (IntKind.wrap .i64 (((bn ns k:Nat):Int)+(((nd ns k).aj.length:Nat):Int))))=(.int .i64 ↑((bn ns k)+((nd ns k).aj.length))),b2=b2]) [o_,o_,⟨[.at 2],none,none,none,none⟩,o_,⟨[],none,none,none,some (.int .i64 ↑((bn ns k)+((nd ns k).aj.length)))⟩,o_] [1,3,4] (λ_ _=>by kernel_rfl) ⟨aP (by omega) (by omega) (by omega),rfl,trivial⟩ ?_
  refine af.nil (by kernel_rfl) (ah.aJ (ah.next (ai.region ?_)))
  refine af.aq (k':=3) (fr':=[(1,.pointer (some ⟨b1,0,none⟩)),(3,.int .i64 ↑((bn ns k)+((nd ns k).aj.length))),(4,.int .i64 ↑(k+1))]) (ak:=[(Value.int .i64 (IntKind.wrap .i64 (((k:Nat):Int)+1)))=(.int .i64 ↑(k+1))]) [o_,⟨[],none,none,none,some (.int .i64 ↑(k+1))⟩,o_] [1,3,4] (λ_ _=>by kernel_rfl) ⟨aP (by omega) (by omega) (by omega),trivial⟩ ?_
  refine af.nil (by kernel_rfl) ?_
  exact ah.turn ((k+1)) (idx:=[1,3,4]) (pk:=[0,1]) (show (((k+1))<=ns.length)/\(ig ns ((k+1)))/\(bn ns ((k+1))<=((k+1))*1048576) from ⟨by omega,hu.step (by rw [show k=0 by omega];rw [show k=0 by omega] at uK;show (0:Int)<_;omega) (by omega) mR,by show bn ns k+_<=_;omega⟩) (by show ns.length-((k+1))<ns.length-k;omega) (λ_=>by kernel_rfl) rfl (by kernel_rfl)
 refine ai.exit (ah.aH (ah.aH (ah.bg (ah.next (ai.seq (ai.seq (ai.region ?_)))))))
 refine af.aq (k':=2) (fr':=[(1,.pointer (some ⟨b1,0,none⟩)),(66,.bool (decide ((((bn ns k:Nat):Int):Int)>(8192:Int))))]) (ak:=[]) [o_,o_] [1,66] (λ_ _=>by kernel_rfl) trivial ?_
 refine af.nil (by kernel_rfl) (ah.next ?_)
 refine ai.aV (p:=(((bn ns k:Nat):Int):Int)>(8192:Int)) (λ_=>by kernel_rfl) (λqV=>?_) (λqV=>?_)
 ·refine ai.seq (ai.region (af.aq (k':=1) (fr':=[(2,.int .i64 140)]) (ak:=[]) [o_] [2] (λ_ _=>by kernel_rfl) trivial ?_))
  refine af.nil (by kernel_rfl) (ah.next (ai.ret (ah.ay ?_)))
  exact ah.ret (v:=.int .i64 140) (l:=[]) (ak:=[]) [] [1] (λ_=>by kernel_rfl) trivial rfl (by kernel_rfl) (⟨congrArg (Value.int .i64) (if_neg (c:=bw ns) (λh=>by have h1:=h.sum;rw [show ns.length=k by omega] at h1;omega)).symm,rfl⟩)
 refine ai.skip (ah.next (ai.seq (ai.region ?_)))
 refine af.aq (k':=3) (fr':=[(1,.pointer (some ⟨b1,0,none⟩)),(69,.int .i64 ↑ns.length)]) (ak:=[b1=b1]) [o_,⟨[.at 0],none,none,none,none⟩,o_] [1,69] (λ_ _=>by kernel_rfl) ⟨rfl,trivial⟩ ?_
 refine af.pW (d:=(some 70)) (t:=60) (e:=3) (z:=.int .i64 0) (bytes:=8) (n:=ns.length) (l:=(.tmp 69)) (c:=(.tmp 69)) (λ_=>by kernel_rfl) (λ_=>by kernel_rfl) (λ_=>by kernel_rfl) Try.underlying60 (by kernel_rfl) rfl (by omega) (by omega) (λb3=>?_)
 refine af.aq (k':=5) (fr':=[(1,.pointer (some ⟨b1,0,none⟩)),(6,.slice (some ⟨b3,0,none⟩) (ns.length) (ns.length))]) (ak:=[]) [o_] [1,6] (λ_ _=>by kernel_rfl) trivial ?_
 refine af.nil (by kernel_rfl) (ah.next (ai.seq (ai.seq (ai.region ?_))))
 refine af.aZ 2 (p:=.abs (av 3 1 (some ⟨b3,0,none⟩) ns.length ns.length (List.replicate ns.length (.int .i64 0)))) (p':=.abs (av 3 1 (some ⟨b3,0,none⟩) ns.length ns.length (cq (List.replicate ns.length 0)))) (by kernel_rfl) (by rw [cq,List.map_replicate]) ?_
 refine af.aq (k':=1) (fr':=[(1,.pointer (some ⟨b1,0,none⟩)),(6,.slice (some ⟨b3,0,none⟩) (ns.length) (ns.length)),(7,.int .i64 0)]) (ak:=[]) [o_] [1,6,7] (λ_ _=>by kernel_rfl) trivial ?_
 refine af.nil (by kernel_rfl) (ah.next (ai.block ?_))
 refine ai.loop (ι:=Nat×(List Int)) (λ((t,pl):Nat×(List Int))=>(t<=ns.length)/\(pl.length=ns.length)/\(∀a,a<t->pl.getD a 0 = -1)) (λ((t,pl):Nat×(List Int))=>ns.length-t) (λ((t,pl):Nat×(List Int))=>[(1,.pointer (some ⟨b1,0,none⟩)),(6,.slice (some ⟨b3,0,none⟩) (ns.length) (ns.length)),(7,.int .i64 ↑t)]) (λ((t,pl):Nat×(List Int))=>[.blk b1 [.slice A (ns.length) (c)] 24,.abs (av 3 1 (some ⟨b3,0,none⟩) ns.length ns.length (cq pl)),.abs R]) (0,(List.replicate ns.length 0)) (idx:=[1,6,7]) (pk:=[0,2,1]) (show (0<=ns.length)/\(((List.replicate ns.length 0)).length=ns.length)/\(∀a,a<0->((List.replicate ns.length 0)).getD a 0 = -1) from ⟨Nat.zero_le _,by simp,λa ha=>absurd ha (Nat.not_lt_zero a)⟩) (λ_=>by kernel_rfl) rfl (by kernel_rfl) ?_
 rintro⟨t,pl⟩ ⟨ht2,hpl,hpa⟩
 show ai _ _ _ _ [(1,.pointer (some ⟨b1,0,none⟩)),(6,.slice (some ⟨b3,0,none⟩) (ns.length) (ns.length)),(7,.int .i64 ↑t)] [.blk b1 [.slice A (ns.length) (c)] 24,.abs (av 3 1 (some ⟨b3,0,none⟩) ns.length ns.length (cq pl)),.abs R] _
 refine ai.seq (ai.seq (ai.region (af.aq (k':=4) (fr':=[(1,.pointer (some ⟨b1,0,none⟩)),(6,.slice (some ⟨b3,0,none⟩) (ns.length) (ns.length)),(7,.int .i64 ↑t),(74,.bool (decide ((((t:Nat):Int):Int)<(((ns.length:Nat):Int):Int))))]) (ak:=[]) [o_,o_,o_,o_] [1,6,7,74] (λ_ _=>by kernel_rfl) trivial ?_)))
 refine af.nil (by kernel_rfl) (ah.next ?_)
 refine ai.aV (p:=(((t:Nat):Int):Int)<(((ns.length:Nat):Int):Int)) (λ_=>by kernel_rfl) (λCl=>?_) (λCl=>?_)
 ·refine ai.skip (ah.next (ai.seq (ai.block (ai.region ?_))))
  refine af.aq (k':=3) (fr':=[(1,.pointer (some ⟨b1,0,none⟩)),(6,.slice (some ⟨b3,0,none⟩) (ns.length) (ns.length)),(7,.int .i64 ↑t),(79,.pointer (some ⟨b3,t,none⟩))]) (ak:=[(Value.pointer (some ⟨b3,0+t*1,none⟩))=(.pointer (some ⟨b3,t,none⟩)),((t:Nat):Int)=((t:Nat):Int),t<ns.length,(⟨b3,0,none⟩:Addr).spot=none]) [o_,o_,⟨[],some t,none,none,some (.pointer (some ⟨b3,t,none⟩))⟩] [1,6,7,79] (λ_ _=>by kernel_rfl) ⟨by simp,rfl,by omega,rfl,trivial⟩ ?_
  refine af.j7 1 (t) (d:=none) (T:=3) (e:=3) (size:=1) (n:=ns.length) (cap:=ns.length) (g:=b3) (xs:=(cq pl)) (u:=.int .i64 (-1)) (a:=(.tmp 79)) (y:=(.const (.int .i64 (-1)))) (λ_=>by kernel_rfl) (by kernel_rfl) (λ_=>by kernel_rfl) (λ_=>by kernel_rfl) (by kernel_rfl) rfl (by rw [cq,List.length_map];omega) ?_
  refine af.aZ 1 (p:=.abs (av 3 1 (some ⟨b3,0,none⟩) ns.length ns.length ((cq pl).set (t) (.int .i64 (-1))))) (p':=.abs (av 3 1 (some ⟨b3,0,none⟩) ns.length ns.length (cq (pl.set t (-1))))) (by kernel_rfl) (by rw [oC]) ?_
  refine af.nil (by kernel_rfl) (ah.aJ (ah.next (ai.region ?_)))
  refine af.aq (k':=3) (fr':=[(1,.pointer (some ⟨b1,0,none⟩)),(6,.slice (some ⟨b3,0,none⟩) (ns.length) (ns.length)),(7,.int .i64 ↑(t+1))]) (ak:=[(Value.int .i64 (IntKind.wrap .i64 (((t:Nat):Int)+1)))=(.int .i64 ↑(t+1))]) [o_,⟨[],none,none,none,some (.int .i64 ↑(t+1))⟩,o_] [1,6,7] (λ_ _=>by kernel_rfl) ⟨aP (by omega) (by omega) (by omega),trivial⟩ ?_
  refine af.nil (by kernel_rfl) ?_
  exact ah.turn ((t+1),(pl.set t (-1))) (idx:=[1,6,7]) (pk:=[0,1,2]) (show (((t+1))<=ns.length)/\(((pl.set t (-1))).length=ns.length)/\(∀a,a<((t+1))->((pl.set t (-1))).getD a 0 = -1) from ⟨by omega,by rw [List.length_set];exact hpl,λa ha=>(by rw [uN (by omega)];by_cases e:a=t;simp [e];rw [if_neg e];exact hpa a (by omega))⟩) (by show ns.length-((t+1))<ns.length-t;omega) (λ_=>by kernel_rfl) rfl (by kernel_rfl)
 refine ai.exit (ah.aH (ah.aH (ah.bg (ah.next (ai.seq (ai.seq (ai.region ?_)))))))
 refine af.aq (k':=1) (fr':=[(1,.pointer (some ⟨b1,0,none⟩)),(6,.slice (some ⟨b3,0,none⟩) (ns.length) (ns.length)),(8,.int .i64 0)]) (ak:=[]) [o_] [1,6,8] (λ_ _=>by kernel_rfl) trivial ?_
 refine af.nil (by kernel_rfl) (ah.next (ai.block ?_))
 have nJ:d6 ns:=λa b hab hb=>hu.rise a b hab (by omega)
 have hsum:bn ns ns.length<=8192:=by rw [show ns.length=k by omega];omega
 refine ai.loop (ι:=Nat×(List Int)) (λ((i,gq):Nat×(List Int))=>(i<=ns.length)/\(∀a,a<i->∀j,j<(nd ns a).aj.length->eP ns a j)/\(((bQ ns i).map Prod.fst).Nodup)/\(lI ns.length gq (bQ ns i))) (λ((i,gq):Nat×(List Int))=>ns.length-i) (λ((i,gq):Nat×(List Int))=>[(1,.pointer (some ⟨b1,0,none⟩)),(6,.slice (some ⟨b3,0,none⟩) (ns.length) (ns.length)),(8,.int .i64 ↑i)]) (λ((i,gq):Nat×(List Int))=>[.blk b1 [.slice A (ns.length) (c)] 24,.abs (av 3 1 (some ⟨b3,0,none⟩) ns.length ns.length (cq gq)),.abs R]) (0,pl) (idx:=[1,6,8]) (pk:=[0,1,2]) (show (0<=ns.length)/\(∀a,a<0->∀j,j<(nd ns a).aj.length->eP ns a j)/\(((bQ ns 0).map Prod.fst).Nodup)/\(lI ns.length pl (bQ ns 0)) from ⟨Nat.zero_le _,λa ha=>absurd ha (Nat.not_lt_zero a),List.nodup_nil,⟨hpl,λa ha=>hpa a (by omega)⟩⟩) (λ_=>by kernel_rfl) rfl (by kernel_rfl) ?_
 rintro⟨i,gq⟩ ⟨hi,lH,hnd,hpar⟩
 show ai _ _ _ _ [(1,.pointer (some ⟨b1,0,none⟩)),(6,.slice (some ⟨b3,0,none⟩) (ns.length) (ns.length)),(8,.int .i64 ↑i)] [.blk b1 [.slice A (ns.length) (c)] 24,.abs (av 3 1 (some ⟨b3,0,none⟩) ns.length ns.length (cq gq)),.abs R] _
 refine ai.seq (ai.seq (ai.region (af.aq (k':=5) (fr':=[(1,.pointer (some ⟨b1,0,none⟩)),(6,.slice (some ⟨b3,0,none⟩) (ns.length) (ns.length)),(8,.int .i64 ↑i),(84,.bool (decide ((((i:Nat):Int):Int)<(((ns.length:Nat):Int):Int))))]) (ak:=[b1=b1]) [o_,o_,⟨[.at 0],none,none,none,none⟩,o_,o_] [1,6,8,84] (λ_ _=>by kernel_rfl) ⟨rfl,trivial⟩ ?_)))
 refine af.nil (by kernel_rfl) (ah.next ?_)
 refine ai.aV (p:=(((i:Nat):Int):Int)<(((ns.length:Nat):Int):Int)) (λ_=>by kernel_rfl) (λEk=>?_) (λEk=>?_)
 ·refine ai.skip (ah.next (ai.seq (ai.block (ai.seq (ai.region ?_)))))
  refine af.aq (k':=1) (fr':=[(1,.pointer (some ⟨b1,0,none⟩)),(6,.slice (some ⟨b3,0,none⟩) (ns.length) (ns.length)),(8,.int .i64 ↑i),(9,.int .i64 0)]) (ak:=[]) [o_] [1,6,8,9] (λ_ _=>by kernel_rfl) trivial ?_
  refine af.nil (by kernel_rfl) (ah.next (ai.block ?_))
  refine ai.loop (ι:=Nat×(List Int)) (λ((j,fP):Nat×(List Int))=>(j<=(nd ns i).aj.length)/\(∀t,t<j->eP ns i t)/\(((bT ns i j++bQ ns i).map Prod.fst).Nodup)/\(lI ns.length fP (bT ns i j++bQ ns i))) (λ((j,fP):Nat×(List Int))=>(nd ns i).aj.length-j) (λ((j,fP):Nat×(List Int))=>[(1,.pointer (some ⟨b1,0,none⟩)),(6,.slice (some ⟨b3,0,none⟩) (ns.length) (ns.length)),(8,.int .i64 ↑i),(9,.int .i64 ↑j)]) (λ((j,fP):Nat×(List Int))=>[.blk b1 [.slice A (ns.length) (c)] 24,.abs (av 3 1 (some ⟨b3,0,none⟩) ns.length ns.length (cq fP)),.abs R]) (0,gq) (idx:=[1,6,8,9]) (pk:=[0,1,2]) (show (0<=(nd ns i).aj.length)/\(∀t,t<0->eP ns i t)/\(((bT ns i 0++bQ ns i).map Prod.fst).Nodup)/\(lI ns.length gq (bT ns i 0++bQ ns i)) from ⟨Nat.zero_le _,λt ht=>absurd ht (Nat.not_lt_zero t),hnd,hpar⟩) (λ_=>by kernel_rfl) rfl (by kernel_rfl) ?_
  rintro⟨j,fP⟩ ⟨hj,hok,uQ,jW⟩
  show ai _ _ _ _ [(1,.pointer (some ⟨b1,0,none⟩)),(6,.slice (some ⟨b3,0,none⟩) (ns.length) (ns.length)),(8,.int .i64 ↑i),(9,.int .i64 ↑j)] [.blk b1 [.slice A (ns.length) (c)] 24,.abs (av 3 1 (some ⟨b3,0,none⟩) ns.length ns.length (cq fP)),.abs R] _
  have hd3:=(hd i (by omega)).2
  have El:=jW.len
  refine ai.seq (ai.seq (ai.region (af.aq (k':=9) (fr':=[(1,.pointer (some ⟨b1,0,none⟩)),(6,.slice (some ⟨b3,0,none⟩) (ns.length) (ns.length)),(8,.int .i64 ↑i),(9,.int .i64 ↑j),(95,.bool (decide ((((j:Nat):Int):Int)<((((nd ns i).aj.length:Nat):Int):Int))))]) (ak:=[(Rd β ⟨(au A),ar A+i*10+9,none⟩ (.slice (L.eA i) ((nd ns i).aj.length) ((L.eC i)))),((i:Nat):Int)=((i:Nat):Int),i<ns.length,(⟨(au A),ar A,none⟩:Addr).spot=none,(A:Option Addr)=some ⟨(au A),ar A,none⟩,b1=b1]) [o_,o_,⟨[.at 0],none,none,none,none⟩,o_,⟨[],some i,none,some ⟨(au A),ar A,none⟩,none⟩,o_,⟨[.old (.slice (L.eA i) ((nd ns i).aj.length) ((L.eC i)))],none,none,none,none⟩,o_,o_] [1,6,8,9,95] (λ_ _=>by kernel_rfl) ⟨aA.rd hG (i:=i) (by omega) (j:=9) rfl,rfl,by omega,rfl,aA.hd hG (i:=i) (by omega),rfl,trivial⟩ ?_)))
  refine af.nil (by kernel_rfl) (ah.next ?_)
  refine ai.aV (p:=(((j:Nat):Int):Int)<((((nd ns i).aj.length:Nat):Int):Int)) (λ_=>by kernel_rfl) (λEm=>?_) (λEm=>?_)
  ·refine ai.skip (ah.next (ai.seq (ai.block (ai.seq (ai.region ?_)))))
   refine af.bD (k':=11) (fr':=λb4=>[(1,.pointer (some ⟨b1,0,none⟩)),(6,.slice (some ⟨b3,0,none⟩) (ns.length) (ns.length)),(8,.int .i64 ↑i),(9,.int .i64 ↑j),(10,.pointer (some ⟨b4,0,none⟩))]) (aL:=λb4=>[.blk b1 [.slice A (ns.length) (c)] 24,.abs (av 3 1 (some ⟨b3,0,none⟩) ns.length ns.length (cq fP)),.abs R,.blk b4 [.string (en (nd ns i).aj j).name,.int .i64 ((en (nd ns i).aj j).id)] 72]) (ak:=λb4=>[b4=b4,b4=b4,(Rd β ⟨(au (L.eA i)),ar (L.eA i)+j*2+1,none⟩ (.int .i64 ((en (nd ns i).aj j).id))),(Rd β ⟨(au (L.eA i)),ar (L.eA i)+j*2,none⟩ (.string (en (nd ns i).aj j).name)),((j:Nat):Int)=((j:Nat):Int),j<(nd ns i).aj.length,(⟨(au (L.eA i)),ar (L.eA i),none⟩:Addr).spot=none,((L.eA i):Option Addr)=some ⟨(au (L.eA i)),ar (L.eA i),none⟩,(Rd β ⟨(au A),ar A+i*10+9,none⟩ (.slice (L.eA i) ((nd ns i).aj.length) ((L.eC i)))),((i:Nat):Int)=((i:Nat):Int),i<ns.length,(⟨(au A),ar A,none⟩:Addr).spot=none,(A:Option Addr)=some ⟨(au A),ar A,none⟩,b1=b1]) [o_,⟨[.at 0],none,none,none,none⟩,o_,⟨[],some i,none,some ⟨(au A),ar A,none⟩,none⟩,o_,⟨[.old (.slice (L.eA i) ((nd ns i).aj.length) ((L.eC i)))],none,none,none,none⟩,o_,⟨[],some j,none,some ⟨(au (L.eA i)),ar (L.eA i),none⟩,none⟩,⟨[.old (.string (en (nd ns i).aj j).name),.old (.int .i64 ((en (nd ns i).aj j).id))],none,none,none,none⟩,o_,⟨[.at 3,.at 3],none,none,none,none⟩] [1,6,8,9,10] [0,1,2,3] (λ_ _=>by kernel_rfl) (λb4=>⟨rfl,rfl,bh.rd (hG.aj i (by omega)) (i:=j) (by omega) (j:=1) rfl,bh.rd (hG.aj i (by omega)) (i:=j) (by omega) (j:=0) rfl,rfl,by omega,rfl,bh.hd (hG.aj i (by omega)) (i:=j) (by omega),aA.rd hG (i:=i) (by omega) (j:=9) rfl,rfl,by omega,rfl,aA.hd hG (i:=i) (by omega),rfl,trivial⟩) (λb4=>?_)
   refine af.nil (by kernel_rfl) (ah.next (ai.seq (ai.region ?_)))
   refine af.aq (k':=3) (fr':=[(1,.pointer (some ⟨b1,0,none⟩)),(6,.slice (some ⟨b3,0,none⟩) (ns.length) (ns.length)),(8,.int .i64 ↑i),(9,.int .i64 ↑j),(10,.pointer (some ⟨b4,0,none⟩)),(107,.agg #[.slice A (ns.length) (c)]),(109,.int .i64 ((en (nd ns i).aj j).id))]) (ak:=[b4=b4,b1=b1]) [⟨[.at 0],none,none,none,none⟩,o_,⟨[.at 3],none,none,none,none⟩] [1,6,8,9,10,107,109] (λ_ _=>by kernel_rfl) ⟨rfl,rfl,trivial⟩ ?_
   refine af.call (f:=29) (args:=#[.agg #[.slice A (ns.length) (c)],.int .i64 ((en (nd ns i).aj j).id)]) (d:=(some 110)) (pre:=[]) (R:=[.blk b1 [.slice A (ns.length) (c)] 24,.abs (av 3 1 (some ⟨b3,0,none⟩) ns.length ns.length (cq fP)),.abs R,.blk b4 [.string (en (nd ns i).aj j).name,.int .i64 ((en (nd ns i).aj j).id)] 72]) (pk:=[0,1,2,3]) (λ_=>by kernel_rfl) (lG A c ns L hG nJ hl (en (nd ns i).aj j).id) rfl (by kernel_rfl) ?_
   rintro _ _ ⟨rfl,rfl⟩
   refine af.aq (k':=5) (fr':=[(1,.pointer (some ⟨b1,0,none⟩)),(6,.slice (some ⟨b3,0,none⟩) (ns.length) (ns.length)),(8,.int .i64 ↑i),(9,.int .i64 ↑j),(10,.pointer (some ⟨b4,0,none⟩)),(11,.int .i64 (cL ns (en (nd ns i).aj j).id))]) (ak:=[]) [o_] [1,6,8,9,10,11] (λ_ _=>by kernel_rfl) trivial ?_
   refine af.nil (by kernel_rfl) (ah.next (ai.seq (ai.seq ?_)))
   refine ai.ga (by kernel_rfl) (by kernel_rfl) ?_
   refine aN.seg (k':=3) (fr':=[(1,.pointer (some ⟨b1,0,none⟩)),(6,.slice (some ⟨b3,0,none⟩) (ns.length) (ns.length)),(8,.int .i64 ↑i),(9,.int .i64 ↑j),(10,.pointer (some ⟨b4,0,none⟩)),(11,.int .i64 (cL ns (en (nd ns i).aj j).id)),(113,.bool (decide ((cL ns (en (nd ns i).aj j).id:Int)<(0:Int))))]) (ak:=[]) [o_,o_,o_] [1,6,8,9,10,11,113] (λ_ _=>by kernel_rfl) trivial ?_
   refine aN.bO 113 ((cL ns (en (nd ns i).aj j).id:Int)<(0:Int)) (λ_=>by kernel_rfl) (λmD=>?_) (λmD=>?_)
   ·refine aN.seg (k':=28) (fr':=[(1,.pointer (some ⟨b1,0,none⟩)),(6,.slice (some ⟨b3,0,none⟩) (ns.length) (ns.length)),(8,.int .i64 ↑i),(9,.int .i64 ↑j),(11,.int .i64 (cL ns (en (nd ns i).aj j).id)),(138,.bool true)]) (ak:=[]) [o_,o_,o_,o_,o_,o_,o_,o_,o_,o_,o_,o_,o_,o_,o_,o_,o_,o_,o_,o_,o_,o_,o_,o_,o_] [1,6,8,9,11,138] (λ_ _=>by kernel_rfl) trivial ?_
    refine aN.nil (by kernel_rfl) (ah.next ?_)
    refine ai.bL (λ_=>by kernel_rfl) ?_
    refine ai.seq (ai.region (af.aq (k':=1) (fr':=[(2,.int .i64 140)]) (ak:=[]) [o_] [2] (λ_ _=>by kernel_rfl) trivial ?_))
    refine af.nil (by kernel_rfl) (ah.next (ai.ret (ah.ay (ah.aG (ah.ay (ah.ay (ah.aG (ah.aG (ah.ay (ah.ay (ah.aG (ah.ay ?_))))))))))))
    exact ah.ret (v:=.int .i64 140) (l:=[]) (ak:=[]) [] [2] (λ_=>by kernel_rfl) trivial rfl (by kernel_rfl) (⟨congrArg (Value.int .i64) (if_neg (c:=bw ns) (λh=>by have h1:=(h.aj i (by omega) j (by omega)).at_;change 0<=cL ns (en (nd ns i).aj j).id at h1;omega)).symm,rfl⟩)
   have htl:=cH (Int.not_lt.1 mD)
   refine aN.seg (k':=5) (fr':=[(1,.pointer (some ⟨b1,0,none⟩)),(6,.slice (some ⟨b3,0,none⟩) (ns.length) (ns.length)),(8,.int .i64 ↑i),(9,.int .i64 ↑j),(10,.pointer (some ⟨b4,0,none⟩)),(11,.int .i64 (cL ns (en (nd ns i).aj j).id)),(113,.bool false),(115,.string (en (nd ns i).aj j).name)]) (ak:=[b4=b4]) [o_,⟨[.at 3],none,none,none,none⟩] [1,6,8,9,10,11,113,115] (λ_ _=>by kernel_rfl) ⟨rfl,trivial⟩ ?_
   refine aN.call (f:=40) (args:=#[.string (en (nd ns i).aj j).name]) (d:=(some 116)) (pre:=[]) (R:=[.blk b1 [.slice A (ns.length) (c)] 24,.abs (av 3 1 (some ⟨b3,0,none⟩) ns.length ns.length (cq fP)),.abs R,.blk b4 [.string (en (nd ns i).aj j).name,.int .i64 ((en (nd ns i).aj j).id)] 72]) (pk:=[0,1,2,3]) (sE:=[0,1,2,3]) (v0:=.bool (decide (cZ (en (nd ns i).aj j).name))) (λ_=>by kernel_rfl) (wW (en (nd ns i).aj j).name (hnm i (by omega) j (by omega))) rfl (by kernel_rfl) rfl (by kernel_rfl) (λ_ _ h=>h) ?_
   refine aN.seg (k':=9) (fr':=[(1,.pointer (some ⟨b1,0,none⟩)),(6,.slice (some ⟨b3,0,none⟩) (ns.length) (ns.length)),(8,.int .i64 ↑i),(9,.int .i64 ↑j),(10,.pointer (some ⟨b4,0,none⟩)),(11,.int .i64 (cL ns (en (nd ns i).aj j).id)),(119,.bool (!(decide (cZ (en (nd ns i).aj j).name))))]) (ak:=[]) [o_,o_,o_] [1,6,8,9,10,11,119] (λ_ _=>by kernel_rfl) trivial ?_
   refine aN.eO 119 (cZ (en (nd ns i).aj j).name) (λ_=>by kernel_rfl) (λrU=>?_) (λrU=>?_)
   ·refine aN.seg (k':=28) (fr':=[(1,.pointer (some ⟨b1,0,none⟩)),(6,.slice (some ⟨b3,0,none⟩) (ns.length) (ns.length)),(8,.int .i64 ↑i),(9,.int .i64 ↑j),(11,.int .i64 (cL ns (en (nd ns i).aj j).id)),(138,.bool true)]) (ak:=[]) [o_,o_,o_,o_,o_,o_,o_,o_,o_,o_,o_,o_,o_,o_,o_,o_,o_,o_,o_] [1,6,8,9,11,138] (λ_ _=>by kernel_rfl) trivial ?_
    refine aN.nil (by kernel_rfl) (ah.next ?_)
    refine ai.bL (λ_=>by kernel_rfl) ?_
    refine ai.seq (ai.region (af.aq (k':=1) (fr':=[(2,.int .i64 140)]) (ak:=[]) [o_] [2] (λ_ _=>by kernel_rfl) trivial ?_))
    refine af.nil (by kernel_rfl) (ah.next (ai.ret (ah.ay (ah.aG (ah.ay (ah.ay (ah.aG (ah.aG (ah.ay (ah.ay (ah.aG (ah.ay ?_))))))))))))
    exact ah.ret (v:=.int .i64 140) (l:=[]) (ak:=[]) [] [2] (λ_=>by kernel_rfl) trivial rfl (by kernel_rfl) (⟨congrArg (Value.int .i64) (if_neg (c:=bw ns) (λh=>by exact rU (h.aj i (by omega) j (by omega)).good)).symm,rfl⟩)
   refine aN.seg (k':=12) (fr':=[(1,.pointer (some ⟨b1,0,none⟩)),(6,.slice (some ⟨b3,0,none⟩) (ns.length) (ns.length)),(8,.int .i64 ↑i),(9,.int .i64 ↑j),(10,.pointer (some ⟨b4,0,none⟩)),(11,.int .i64 (cL ns (en (nd ns i).aj j).id)),(119,.bool false),(122,.bool (decide ((((j:Nat):Int):Int)>(0:Int))))]) (ak:=[]) [o_,o_,o_] [1,6,8,9,10,11,119,122] (λ_ _=>by kernel_rfl) trivial ?_
   refine aN.bO 122 ((((j:Nat):Int):Int)>(0:Int)) (λ_=>by kernel_rfl) (λqf=>?_) (λqf=>?_)
   ·refine aN.seg (k':=28) (fr':=[(1,.pointer (some ⟨b1,0,none⟩)),(6,.slice (some ⟨b3,0,none⟩) (ns.length) (ns.length)),(8,.int .i64 ↑i),(9,.int .i64 ↑j),(11,.int .i64 (cL ns (en (nd ns i).aj j).id)),(138,.bool (decide (gD ((en (nd ns i).aj j).name) ((en (nd ns i).aj (j-1)).name))))]) (ak:=[(Value.bool (Op.bytesLess (((en (nd ns i).aj j).name):ByteArray).toList (((en (nd ns i).aj (j-1)).name):ByteArray).toList || (((en (nd ns i).aj j).name):ByteArray).toList == (((en (nd ns i).aj (j-1)).name):ByteArray).toList))=(.bool (decide (gD ((en (nd ns i).aj j).name) ((en (nd ns i).aj (j-1)).name)))),(Rd β ⟨(au (L.eA i)),ar (L.eA i)+(j-1)*2,none⟩ (.string (en (nd ns i).aj (j-1)).name)),(((j-1):Nat):Int)=(((j-1):Nat):Int),(j-1)<(nd ns i).aj.length,(⟨(au (L.eA i)),ar (L.eA i),none⟩:Addr).spot=none,((L.eA i):Option Addr)=some ⟨(au (L.eA i)),ar (L.eA i),none⟩,(Value.int .i64 (IntKind.wrap .i64 (((j:Nat):Int)-1)))=(.int .i64 ↑(j-1)),(Rd β ⟨(au A),ar A+i*10+9,none⟩ (.slice (L.eA i) ((nd ns i).aj.length) ((L.eC i)))),((i:Nat):Int)=((i:Nat):Int),i<ns.length,(⟨(au A),ar A,none⟩:Addr).spot=none,(A:Option Addr)=some ⟨(au A),ar A,none⟩,b1=b1,b4=b4]) [o_,⟨[.at 3],none,none,none,none⟩,o_,⟨[.at 0],none,none,none,none⟩,o_,⟨[],some i,none,some ⟨(au A),ar A,none⟩,none⟩,o_,⟨[.old (.slice (L.eA i) ((nd ns i).aj.length) ((L.eC i)))],none,none,none,none⟩,o_,⟨[],none,none,none,some (.int .i64 ↑(j-1))⟩,⟨[],some (j-1),none,some ⟨(au (L.eA i)),ar (L.eA i),none⟩,none⟩,o_,⟨[.old (.string (en (nd ns i).aj (j-1)).name)],none,none,none,none⟩,⟨[],none,none,none,some (.bool (decide (gD ((en (nd ns i).aj j).name) ((en (nd ns i).aj (j-1)).name))))⟩,o_,o_] [1,6,8,9,11,138] (λ_ _=>by kernel_rfl) ⟨yG _ _,bh.rd (hG.aj i (by omega)) (i:=(j-1)) (by omega) (j:=0) rfl,rfl,by omega,rfl,bh.hd (hG.aj i (by omega)) (i:=(j-1)) (by omega),aP (by omega) (by omega) (by omega),aA.rd hG (i:=i) (by omega) (j:=9) rfl,rfl,by omega,rfl,aA.hd hG (i:=i) (by omega),rfl,rfl,trivial⟩ ?_
    refine aN.nil (by kernel_rfl) (ah.next ?_)
    refine ai.aV (p:=gD ((en (nd ns i).aj j).name) ((en (nd ns i).aj (j-1)).name)) (λ_=>by kernel_rfl) (λwZ=>?_) (λwZ=>?_)
    ·refine ai.seq (ai.region (af.aq (k':=1) (fr':=[(2,.int .i64 140)]) (ak:=[]) [o_] [2] (λ_ _=>by kernel_rfl) trivial ?_))
     refine af.nil (by kernel_rfl) (ah.next (ai.ret (ah.ay (ah.aG (ah.ay (ah.ay (ah.aG (ah.aG (ah.ay (ah.ay (ah.aG (ah.ay ?_))))))))))))
     exact ah.ret (v:=.int .i64 140) (l:=[]) (ak:=[]) [] [2] (λ_=>by kernel_rfl) trivial rfl (by kernel_rfl) (⟨congrArg (Value.int .i64) (if_neg (c:=bw ns) (λh=>by have h1:=(h.aj i (by omega) j (by omega)).ord;rw [uP (by omega)] at h1;exact h1 wZ)).symm,rfl⟩)
    refine ai.skip (ah.next (ai.seq (ai.region ?_)))
    refine af.aq (k':=7) (fr':=[(1,.pointer (some ⟨b1,0,none⟩)),(6,.slice (some ⟨b3,0,none⟩) (ns.length) (ns.length)),(8,.int .i64 ↑i),(9,.int .i64 ↑j),(11,.int .i64 (cL ns (en (nd ns i).aj j).id)),(145,.bool (decide (((nd ns (tgt ns (en (nd ns i).aj j).id)).kind:Int)=(2:Int))))]) (ak:=[(Rd β ⟨(au A),ar A+(tgt ns (en (nd ns i).aj j).id)*10+1,none⟩ (.int .i64 ((nd ns (tgt ns (en (nd ns i).aj j).id)).kind))),cL ns (en (nd ns i).aj j).id=(((tgt ns (en (nd ns i).aj j).id):Nat):Int),(tgt ns (en (nd ns i).aj j).id)<ns.length,(⟨(au A),ar A,none⟩:Addr).spot=none,(A:Option Addr)=some ⟨(au A),ar A,none⟩,b1=b1]) [o_,⟨[.at 0],none,none,none,none⟩,o_,⟨[],some (tgt ns (en (nd ns i).aj j).id),none,some ⟨(au A),ar A,none⟩,none⟩,o_,⟨[.old (.int .i64 ((nd ns (tgt ns (en (nd ns i).aj j).id)).kind))],none,none,none,none⟩,o_] [1,6,8,9,11,145] (λ_ _=>by kernel_rfl) ⟨aA.rd hG (i:=(tgt ns (en (nd ns i).aj j).id)) (by omega) (j:=1) rfl,htl.2.2,by omega,rfl,aA.hd hG (i:=(tgt ns (en (nd ns i).aj j).id)) (by omega),rfl,trivial⟩ ?_
    refine af.nil (by kernel_rfl) (ah.next ?_)
    refine ai.aV (p:=((nd ns (tgt ns (en (nd ns i).aj j).id)).kind:Int)=(2:Int)) (λ_=>by kernel_rfl) (λjM=>?_) (λjM=>?_)
    ·refine ai.seq (ai.seq (ai.region (af.aq (k':=5) (fr':=[(1,.pointer (some ⟨b1,0,none⟩)),(6,.slice (some ⟨b3,0,none⟩) (ns.length) (ns.length)),(8,.int .i64 ↑i),(9,.int .i64 ↑j),(11,.int .i64 (cL ns (en (nd ns i).aj j).id)),(150,.bool (decide (((fP.getD (tgt ns (en (nd ns i).aj j).id) 0):Int)>=(0:Int))))]) (ak:=[(∀F w,(av 3 1 (some ⟨b3,0,none⟩) ns.length ns.length (cq fP)).h F w->w.cell? ⟨b3,(tgt ns (en (nd ns i).aj j).id),none⟩=some (.int .i64 ((fP.getD (tgt ns (en (nd ns i).aj j).id) 0)))),(Value.pointer (some ⟨b3,0+(tgt ns (en (nd ns i).aj j).id)*1,none⟩))=(.pointer (some ⟨b3,(tgt ns (en (nd ns i).aj j).id),none⟩)),cL ns (en (nd ns i).aj j).id=(((tgt ns (en (nd ns i).aj j).id):Nat):Int),(tgt ns (en (nd ns i).aj j).id)<ns.length,(⟨b3,0,none⟩:Addr).spot=none]) [o_,o_,⟨[],some (tgt ns (en (nd ns i).aj j).id),none,none,some (.pointer (some ⟨b3,(tgt ns (en (nd ns i).aj j).id),none⟩))⟩,⟨[.view 1 (.int .i64 ((fP.getD (tgt ns (en (nd ns i).aj j).id) 0)))],none,none,none,none⟩,o_] [1,6,8,9,11,150] (λ_ _=>by kernel_rfl) ⟨av.cell (lJ (by omega)),by simp,htl.2.2,by omega,rfl,trivial⟩ ?_)))
     refine af.nil (by kernel_rfl) (ah.next ?_)
     refine ai.aV (p:=((fP.getD (tgt ns (en (nd ns i).aj j).id) 0):Int)>=(0:Int)) (λ_=>by kernel_rfl) (λzQ=>?_) (λzQ=>?_)
     ·refine ai.seq (ai.region (af.aq (k':=1) (fr':=[(2,.int .i64 140)]) (ak:=[]) [o_] [2] (λ_ _=>by kernel_rfl) trivial ?_))
      refine af.nil (by kernel_rfl) (ah.next (ai.ret (ah.ay (ah.aG (ah.ay (ah.ay (ah.aG (ah.aG (ah.ay (ah.ay (ah.aG (ah.ay ?_))))))))))))
      exact ah.ret (v:=.int .i64 140) (l:=[]) (ak:=[]) [] [2] (λ_=>by kernel_rfl) trivial rfl (by kernel_rfl) (⟨congrArg (Value.int .i64) (if_neg (c:=bw ns) (λh=>by have h1:nK (bT ns i j++bQ ns i) (tgt ns (en (nd ns i).aj j).id)<0:=lK.2 (mB (h.row (by omega)) (by omega) jM);rw [←jW.at_ (tgt ns (en (nd ns i).aj j).id) (by omega)] at h1;omega)).symm,rfl⟩)
     refine ai.skip (ah.next (ai.region ?_))
     refine af.aq (k':=4) (fr':=[(1,.pointer (some ⟨b1,0,none⟩)),(6,.slice (some ⟨b3,0,none⟩) (ns.length) (ns.length)),(8,.int .i64 ↑i),(9,.int .i64 ↑j),(153,.int .i64 ↑i),(154,.pointer (some ⟨b3,(tgt ns (en (nd ns i).aj j).id),none⟩))]) (ak:=[(Value.pointer (some ⟨b3,0+(tgt ns (en (nd ns i).aj j).id)*1,none⟩))=(.pointer (some ⟨b3,(tgt ns (en (nd ns i).aj j).id),none⟩)),cL ns (en (nd ns i).aj j).id=(((tgt ns (en (nd ns i).aj j).id):Nat):Int),(tgt ns (en (nd ns i).aj j).id)<ns.length,(⟨b3,0,none⟩:Addr).spot=none]) [o_,o_,o_,⟨[],some (tgt ns (en (nd ns i).aj j).id),none,none,some (.pointer (some ⟨b3,(tgt ns (en (nd ns i).aj j).id),none⟩))⟩] [1,6,8,9,153,154] (λ_ _=>by kernel_rfl) ⟨by simp,htl.2.2,by omega,rfl,trivial⟩ ?_
     refine af.j7 1 ((tgt ns (en (nd ns i).aj j).id)) (d:=none) (T:=3) (e:=3) (size:=1) (n:=ns.length) (cap:=ns.length) (g:=b3) (xs:=(cq fP)) (u:=.int .i64 ↑i) (a:=(.tmp 154)) (y:=(.tmp 153)) (λ_=>by kernel_rfl) (by kernel_rfl) (λ_=>by kernel_rfl) (λ_=>by kernel_rfl) (by kernel_rfl) rfl (by rw [cq,List.length_map];omega) ?_
     refine af.aZ 1 (p:=.abs (av 3 1 (some ⟨b3,0,none⟩) ns.length ns.length ((cq fP).set ((tgt ns (en (nd ns i).aj j).id)) (.int .i64 ↑i)))) (p':=.abs (av 3 1 (some ⟨b3,0,none⟩) ns.length ns.length (cq (fP.set (tgt ns (en (nd ns i).aj j).id) ((i:Nat):Int))))) (by kernel_rfl) (by rw [oC]) ?_
     refine af.nil (by kernel_rfl) (ah.aJ (ah.next (ai.region ?_)))
     refine af.aq (k':=3) (fr':=[(1,.pointer (some ⟨b1,0,none⟩)),(6,.slice (some ⟨b3,0,none⟩) (ns.length) (ns.length)),(8,.int .i64 ↑i),(9,.int .i64 ↑(j+1))]) (ak:=[(Value.int .i64 (IntKind.wrap .i64 (((j:Nat):Int)+1)))=(.int .i64 ↑(j+1))]) [o_,⟨[],none,none,none,some (.int .i64 ↑(j+1))⟩,o_] [1,6,8,9] (λ_ _=>by kernel_rfl) ⟨aP (by omega) (by omega) (by omega),trivial⟩ ?_
     refine af.nil (by kernel_rfl) ?_
     exact ah.turn ((j+1),(fP.set (tgt ns (en (nd ns i).aj j).id) ((i:Nat):Int))) (idx:=[1,6,8,9]) (pk:=[0,1,2]) (show (((j+1))<=(nd ns i).aj.length)/\(∀t,t<((j+1))->eP ns i t)/\(((bT ns i ((j+1))++bQ ns i).map Prod.fst).Nodup)/\(lI ns.length ((fP.set (tgt ns (en (nd ns i).aj j).id) ((i:Nat):Int))) (bT ns i ((j+1))++bQ ns i)) from ⟨by omega,λt ht=>(by rcases Nat.lt_succ_iff_lt_or_eq.1 ht with h|h;exact hok t h;subst h;exact nM (Int.not_lt.1 mD) rU (λ_=>wZ)),(by rw [gi jM,List.cons_append,List.map_cons];exact List.nodup_cons.2 ⟨show tgt ns (en (nd ns i).aj j).id∉_ from lK.1 (by rw [←jW.at_ (tgt ns (en (nd ns i).aj j).id) (by omega)];omega),uQ⟩),(by rw [gi jM];exact jW.put (by omega))⟩) (by show (nd ns i).aj.length-((j+1))<(nd ns i).aj.length-j;omega) (λ_=>by kernel_rfl) rfl (by kernel_rfl)
    refine ai.skip (ah.aJ (ah.next (ai.region ?_)))
    refine af.aq (k':=3) (fr':=[(1,.pointer (some ⟨b1,0,none⟩)),(6,.slice (some ⟨b3,0,none⟩) (ns.length) (ns.length)),(8,.int .i64 ↑i),(9,.int .i64 ↑(j+1))]) (ak:=[(Value.int .i64 (IntKind.wrap .i64 (((j:Nat):Int)+1)))=(.int .i64 ↑(j+1))]) [o_,⟨[],none,none,none,some (.int .i64 ↑(j+1))⟩,o_] [1,6,8,9] (λ_ _=>by kernel_rfl) ⟨aP (by omega) (by omega) (by omega),trivial⟩ ?_
    refine af.nil (by kernel_rfl) ?_
    exact ah.turn ((j+1),fP) (idx:=[1,6,8,9]) (pk:=[0,1,2]) (show (((j+1))<=(nd ns i).aj.length)/\(∀t,t<((j+1))->eP ns i t)/\(((bT ns i ((j+1))++bQ ns i).map Prod.fst).Nodup)/\(lI ns.length fP (bT ns i ((j+1))++bQ ns i)) from ⟨by omega,λt ht=>(by rcases Nat.lt_succ_iff_lt_or_eq.1 ht with h|h;exact hok t h;subst h;exact nM (Int.not_lt.1 mD) rU (λ_=>wZ)),(by rw [gE jM];exact uQ),(by rw [gE jM];exact jW)⟩) (by show (nd ns i).aj.length-((j+1))<(nd ns i).aj.length-j;omega) (λ_=>by kernel_rfl) rfl (by kernel_rfl)
   refine aN.seg (k':=28) (fr':=[(1,.pointer (some ⟨b1,0,none⟩)),(6,.slice (some ⟨b3,0,none⟩) (ns.length) (ns.length)),(8,.int .i64 ↑i),(9,.int .i64 ↑j),(11,.int .i64 (cL ns (en (nd ns i).aj j).id)),(138,.bool false)]) (ak:=[]) [o_,o_,o_,o_,o_,o_,o_,o_,o_,o_,o_,o_,o_,o_,o_,o_] [1,6,8,9,11,138] (λ_ _=>by kernel_rfl) trivial ?_
   refine aN.nil (by kernel_rfl) (ah.next ?_)
   refine ai.cU (λ_=>by kernel_rfl) ?_
   refine ai.skip (ah.next (ai.seq (ai.region ?_)))
   refine af.aq (k':=7) (fr':=[(1,.pointer (some ⟨b1,0,none⟩)),(6,.slice (some ⟨b3,0,none⟩) (ns.length) (ns.length)),(8,.int .i64 ↑i),(9,.int .i64 ↑j),(11,.int .i64 (cL ns (en (nd ns i).aj j).id)),(145,.bool (decide (((nd ns (tgt ns (en (nd ns i).aj j).id)).kind:Int)=(2:Int))))]) (ak:=[(Rd β ⟨(au A),ar A+(tgt ns (en (nd ns i).aj j).id)*10+1,none⟩ (.int .i64 ((nd ns (tgt ns (en (nd ns i).aj j).id)).kind))),cL ns (en (nd ns i).aj j).id=(((tgt ns (en (nd ns i).aj j).id):Nat):Int),(tgt ns (en (nd ns i).aj j).id)<ns.length,(⟨(au A),ar A,none⟩:Addr).spot=none,(A:Option Addr)=some ⟨(au A),ar A,none⟩,b1=b1]) [o_,⟨[.at 0],none,none,none,none⟩,o_,⟨[],some (tgt ns (en (nd ns i).aj j).id),none,some ⟨(au A),ar A,none⟩,none⟩,o_,⟨[.old (.int .i64 ((nd ns (tgt ns (en (nd ns i).aj j).id)).kind))],none,none,none,none⟩,o_] [1,6,8,9,11,145] (λ_ _=>by kernel_rfl) ⟨aA.rd hG (i:=(tgt ns (en (nd ns i).aj j).id)) (by omega) (j:=1) rfl,htl.2.2,by omega,rfl,aA.hd hG (i:=(tgt ns (en (nd ns i).aj j).id)) (by omega),rfl,trivial⟩ ?_
   refine af.nil (by kernel_rfl) (ah.next ?_)
   refine ai.aV (p:=((nd ns (tgt ns (en (nd ns i).aj j).id)).kind:Int)=(2:Int)) (λ_=>by kernel_rfl) (λjM=>?_) (λjM=>?_)
   ·refine ai.seq (ai.seq (ai.region (af.aq (k':=5) (fr':=[(1,.pointer (some ⟨b1,0,none⟩)),(6,.slice (some ⟨b3,0,none⟩) (ns.length) (ns.length)),(8,.int .i64 ↑i),(9,.int .i64 ↑j),(11,.int .i64 (cL ns (en (nd ns i).aj j).id)),(150,.bool (decide (((fP.getD (tgt ns (en (nd ns i).aj j).id) 0):Int)>=(0:Int))))]) (ak:=[(∀F w,(av 3 1 (some ⟨b3,0,none⟩) ns.length ns.length (cq fP)).h F w->w.cell? ⟨b3,(tgt ns (en (nd ns i).aj j).id),none⟩=some (.int .i64 ((fP.getD (tgt ns (en (nd ns i).aj j).id) 0)))),(Value.pointer (some ⟨b3,0+(tgt ns (en (nd ns i).aj j).id)*1,none⟩))=(.pointer (some ⟨b3,(tgt ns (en (nd ns i).aj j).id),none⟩)),cL ns (en (nd ns i).aj j).id=(((tgt ns (en (nd ns i).aj j).id):Nat):Int),(tgt ns (en (nd ns i).aj j).id)<ns.length,(⟨b3,0,none⟩:Addr).spot=none]) [o_,o_,⟨[],some (tgt ns (en (nd ns i).aj j).id),none,none,some (.pointer (some ⟨b3,(tgt ns (en (nd ns i).aj j).id),none⟩))⟩,⟨[.view 1 (.int .i64 ((fP.getD (tgt ns (en (nd ns i).aj j).id) 0)))],none,none,none,none⟩,o_] [1,6,8,9,11,150] (λ_ _=>by kernel_rfl) ⟨av.cell (lJ (by omega)),by simp,htl.2.2,by omega,rfl,trivial⟩ ?_)))
    refine af.nil (by kernel_rfl) (ah.next ?_)
    refine ai.aV (p:=((fP.getD (tgt ns (en (nd ns i).aj j).id) 0):Int)>=(0:Int)) (λ_=>by kernel_rfl) (λzQ=>?_) (λzQ=>?_)
    ·refine ai.seq (ai.region (af.aq (k':=1) (fr':=[(2,.int .i64 140)]) (ak:=[]) [o_] [2] (λ_ _=>by kernel_rfl) trivial ?_))
     refine af.nil (by kernel_rfl) (ah.next (ai.ret (ah.ay (ah.aG (ah.ay (ah.ay (ah.aG (ah.aG (ah.ay (ah.ay (ah.aG (ah.ay ?_))))))))))))
     exact ah.ret (v:=.int .i64 140) (l:=[]) (ak:=[]) [] [2] (λ_=>by kernel_rfl) trivial rfl (by kernel_rfl) (⟨congrArg (Value.int .i64) (if_neg (c:=bw ns) (λh=>by have h1:nK (bT ns i j++bQ ns i) (tgt ns (en (nd ns i).aj j).id)<0:=lK.2 (mB (h.row (by omega)) (by omega) jM);rw [←jW.at_ (tgt ns (en (nd ns i).aj j).id) (by omega)] at h1;omega)).symm,rfl⟩)
    refine ai.skip (ah.next (ai.region ?_))
    refine af.aq (k':=4) (fr':=[(1,.pointer (some ⟨b1,0,none⟩)),(6,.slice (some ⟨b3,0,none⟩) (ns.length) (ns.length)),(8,.int .i64 ↑i),(9,.int .i64 ↑j),(153,.int .i64 ↑i),(154,.pointer (some ⟨b3,(tgt ns (en (nd ns i).aj j).id),none⟩))]) (ak:=[(Value.pointer (some ⟨b3,0+(tgt ns (en (nd ns i).aj j).id)*1,none⟩))=(.pointer (some ⟨b3,(tgt ns (en (nd ns i).aj j).id),none⟩)),cL ns (en (nd ns i).aj j).id=(((tgt ns (en (nd ns i).aj j).id):Nat):Int),(tgt ns (en (nd ns i).aj j).id)<ns.length,(⟨b3,0,none⟩:Addr).spot=none]) [o_,o_,o_,⟨[],some (tgt ns (en (nd ns i).aj j).id),none,none,some (.pointer (some ⟨b3,(tgt ns (en (nd ns i).aj j).id),none⟩))⟩] [1,6,8,9,153,154] (λ_ _=>by kernel_rfl) ⟨by simp,htl.2.2,by omega,rfl,trivial⟩ ?_
    refine af.j7 1 ((tgt ns (en (nd ns i).aj j).id)) (d:=none) (T:=3) (e:=3) (size:=1) (n:=ns.length) (cap:=ns.length) (g:=b3) (xs:=(cq fP)) (u:=.int .i64 ↑i) (a:=(.tmp 154)) (y:=(.tmp 153)) (λ_=>by kernel_rfl) (by kernel_rfl) (λ_=>by kernel_rfl) (λ_=>by kernel_rfl) (by kernel_rfl) rfl (by rw [cq,List.length_map];omega) ?_
    refine af.aZ 1 (p:=.abs (av 3 1 (some ⟨b3,0,none⟩) ns.length ns.length ((cq fP).set ((tgt ns (en (nd ns i).aj j).id)) (.int .i64 ↑i)))) (p':=.abs (av 3 1 (some ⟨b3,0,none⟩) ns.length ns.length (cq (fP.set (tgt ns (en (nd ns i).aj j).id) ((i:Nat):Int))))) (by kernel_rfl) (by rw [oC]) ?_
    refine af.nil (by kernel_rfl) (ah.aJ (ah.next (ai.region ?_)))
    refine af.aq (k':=3) (fr':=[(1,.pointer (some ⟨b1,0,none⟩)),(6,.slice (some ⟨b3,0,none⟩) (ns.length) (ns.length)),(8,.int .i64 ↑i),(9,.int .i64 ↑(j+1))]) (ak:=[(Value.int .i64 (IntKind.wrap .i64 (((j:Nat):Int)+1)))=(.int .i64 ↑(j+1))]) [o_,⟨[],none,none,none,some (.int .i64 ↑(j+1))⟩,o_] [1,6,8,9] (λ_ _=>by kernel_rfl) ⟨aP (by omega) (by omega) (by omega),trivial⟩ ?_
    refine af.nil (by kernel_rfl) ?_
    exact ah.turn ((j+1),(fP.set (tgt ns (en (nd ns i).aj j).id) ((i:Nat):Int))) (idx:=[1,6,8,9]) (pk:=[0,1,2]) (show (((j+1))<=(nd ns i).aj.length)/\(∀t,t<((j+1))->eP ns i t)/\(((bT ns i ((j+1))++bQ ns i).map Prod.fst).Nodup)/\(lI ns.length ((fP.set (tgt ns (en (nd ns i).aj j).id) ((i:Nat):Int))) (bT ns i ((j+1))++bQ ns i)) from ⟨by omega,λt ht=>(by rcases Nat.lt_succ_iff_lt_or_eq.1 ht with h|h;exact hok t h;subst h;exact nM (Int.not_lt.1 mD) rU (λh=>absurd h (by omega))),(by rw [gi jM,List.cons_append,List.map_cons];exact List.nodup_cons.2 ⟨show tgt ns (en (nd ns i).aj j).id∉_ from lK.1 (by rw [←jW.at_ (tgt ns (en (nd ns i).aj j).id) (by omega)];omega),uQ⟩),(by rw [gi jM];exact jW.put (by omega))⟩) (by show (nd ns i).aj.length-((j+1))<(nd ns i).aj.length-j;omega) (λ_=>by kernel_rfl) rfl (by kernel_rfl)
   refine ai.skip (ah.aJ (ah.next (ai.region ?_)))
   refine af.aq (k':=3) (fr':=[(1,.pointer (some ⟨b1,0,none⟩)),(6,.slice (some ⟨b3,0,none⟩) (ns.length) (ns.length)),(8,.int .i64 ↑i),(9,.int .i64 ↑(j+1))]) (ak:=[(Value.int .i64 (IntKind.wrap .i64 (((j:Nat):Int)+1)))=(.int .i64 ↑(j+1))]) [o_,⟨[],none,none,none,some (.int .i64 ↑(j+1))⟩,o_] [1,6,8,9] (λ_ _=>by kernel_rfl) ⟨aP (by omega) (by omega) (by omega),trivial⟩ ?_
   refine af.nil (by kernel_rfl) ?_
   exact ah.turn ((j+1),fP) (idx:=[1,6,8,9]) (pk:=[0,1,2]) (show (((j+1))<=(nd ns i).aj.length)/\(∀t,t<((j+1))->eP ns i t)/\(((bT ns i ((j+1))++bQ ns i).map Prod.fst).Nodup)/\(lI ns.length fP (bT ns i ((j+1))++bQ ns i)) from ⟨by omega,λt ht=>(by rcases Nat.lt_succ_iff_lt_or_eq.1 ht with h|h;exact hok t h;subst h;exact nM (Int.not_lt.1 mD) rU (λh=>absurd h (by omega))),(by rw [gE jM];exact uQ),(by rw [gE jM];exact jW)⟩) (by show (nd ns i).aj.length-((j+1))<(nd ns i).aj.length-j;omega) (λ_=>by kernel_rfl) rfl (by kernel_rfl)
  refine ai.exit (ah.aH (ah.aH (ah.bg (ah.aJ (ah.next (ai.region ?_))))))
  refine af.aq (k':=3) (fr':=[(1,.pointer (some ⟨b1,0,none⟩)),(6,.slice (some ⟨b3,0,none⟩) (ns.length) (ns.length)),(8,.int .i64 ↑(i+1))]) (ak:=[(Value.int .i64 (IntKind.wrap .i64 (((i:Nat):Int)+1)))=(.int .i64 ↑(i+1))]) [o_,⟨[],none,none,none,some (.int .i64 ↑(i+1))⟩,o_] [1,6,8] (λ_ _=>by kernel_rfl) ⟨aP (by omega) (by omega) (by omega),trivial⟩ ?_
  refine af.nil (by kernel_rfl) ?_
  exact ah.turn ((i+1),fP) (idx:=[1,6,8]) (pk:=[0,1,2]) (show (((i+1))<=ns.length)/\(∀a,a<((i+1))->∀j,j<(nd ns a).aj.length->eP ns a j)/\(((bQ ns ((i+1))).map Prod.fst).Nodup)/\(lI ns.length fP (bQ ns ((i+1)))) from ⟨by omega,λa ha=>(by rcases Nat.lt_succ_iff_lt_or_eq.1 ha with h|h;exact lH a h;subst h;exact λj' hj'=>hok j' (by omega)),(by have:=uQ;rwa [show j=(nd ns i).aj.length by omega] at this),(by have:=jW;rwa [show j=(nd ns i).aj.length by omega] at this)⟩) (by show ns.length-((i+1))<ns.length-i;omega) (λ_=>by kernel_rfl) rfl (by kernel_rfl)
 refine ai.exit (ah.aH (ah.aH (ah.bg (ah.next (ai.seq (ai.seq (ai.region ?_)))))))
 refine af.aq (k':=1) (fr':=[(6,.slice (some ⟨b3,0,none⟩) (ns.length) (ns.length)),(12,.int .i64 0)]) (ak:=[]) [o_] [6,12] (λ_ _=>by kernel_rfl) trivial ?_
 refine af.nil (by kernel_rfl) (ah.next (ai.block ?_))
 have AU:lI ns.length gq (bQ ns ns.length):=by have:=hpar;rwa [show i=ns.length by omega] at this
 have hed:=jL (ns:=ns) (Nat.le_refl _) (λa ha=>lH a (by omega))
 refine ai.loop (ι:=Nat) (λ(a:Nat)=>(a<=ns.length)/\(∀b,b<a->Ends ((bQ ns ns.length).map (dm ns)) (nd ns b).id)) (λ(a:Nat)=>ns.length-a) (λ(a:Nat)=>[(6,.slice (some ⟨b3,0,none⟩) (ns.length) (ns.length)),(12,.int .i64 ↑a)]) (λ(a:Nat)=>[.abs (av 3 1 (some ⟨b3,0,none⟩) ns.length ns.length (cq gq)),.abs R]) 0 (idx:=[6,12]) (pk:=[1,2]) (show (0<=ns.length)/\(∀b,b<0->Ends ((bQ ns ns.length).map (dm ns)) (nd ns b).id) from ⟨Nat.zero_le _,λb hb=>absurd hb (Nat.not_lt_zero b)⟩) (λ_=>by kernel_rfl) rfl (by kernel_rfl) ?_
 rintro a ⟨ha,hend⟩
 show ai _ _ _ _ [(6,.slice (some ⟨b3,0,none⟩) (ns.length) (ns.length)),(12,.int .i64 ↑a)] [.abs (av 3 1 (some ⟨b3,0,none⟩) ns.length ns.length (cq gq)),.abs R] _
 have El:=hpar.len
 refine ai.seq (ai.seq (ai.region (af.aq (k':=4) (fr':=[(6,.slice (some ⟨b3,0,none⟩) (ns.length) (ns.length)),(12,.int .i64 ↑a),(158,.bool (decide ((((a:Nat):Int):Int)<(((ns.length:Nat):Int):Int))))]) (ak:=[]) [o_,o_,o_,o_] [6,12,158] (λ_ _=>by kernel_rfl) trivial ?_)))
 refine af.nil (by kernel_rfl) (ah.next ?_)
 refine ai.aV (p:=(((a:Nat):Int):Int)<(((ns.length:Nat):Int):Int)) (λ_=>by kernel_rfl) (λDM=>?_) (λDM=>?_)
 ·refine ai.skip (ah.next (ai.seq (ai.block (ai.seq (ai.region ?_)))))
  refine af.aq (k':=5) (fr':=[(6,.slice (some ⟨b3,0,none⟩) (ns.length) (ns.length)),(12,.int .i64 ↑a),(13,.int .i64 ((gq.getD a 0)))]) (ak:=[(∀F w,(av 3 1 (some ⟨b3,0,none⟩) ns.length ns.length (cq gq)).h F w->w.cell? ⟨b3,a,none⟩=some (.int .i64 ((gq.getD a 0)))),(Value.pointer (some ⟨b3,0+a*1,none⟩))=(.pointer (some ⟨b3,a,none⟩)),((a:Nat):Int)=((a:Nat):Int),a<ns.length,(⟨b3,0,none⟩:Addr).spot=none]) [o_,o_,⟨[],some a,none,none,some (.pointer (some ⟨b3,a,none⟩))⟩,⟨[.view 0 (.int .i64 ((gq.getD a 0)))],none,none,none,none⟩,o_] [6,12,13] (λ_ _=>by kernel_rfl) ⟨av.cell (lJ (by omega)),by simp,rfl,by omega,rfl,trivial⟩ ?_
  refine af.nil (by kernel_rfl) (ah.next (ai.seq (ai.region ?_)))
  refine af.aq (k':=1) (fr':=[(6,.slice (some ⟨b3,0,none⟩) (ns.length) (ns.length)),(12,.int .i64 ↑a),(13,.int .i64 ((gq.getD a 0))),(14,.int .i64 0)]) (ak:=[]) [o_] [6,12,13,14] (λ_ _=>by kernel_rfl) trivial ?_
  refine af.nil (by kernel_rfl) (ah.next (ai.block ?_))
  refine ai.loop (ι:=Int×Nat×(List Int)) (λ((at_,step,w):Int×Nat×(List Int))=>((at_<0/\Ends ((bQ ns ns.length).map (dm ns)) (nd ns a).id)\/∃q:Nat,at_=(q:Int)/\q<ns.length/\Way ((bQ ns ns.length).map (dm ns)) (nd ns a).id w (nd ns q).id/\w.length=step+1)) (λ((at_,step,w):Int×Nat×(List Int))=>ns.length+2-step) (λ((at_,step,w):Int×Nat×(List Int))=>[(6,.slice (some ⟨b3,0,none⟩) (ns.length) (ns.length)),(12,.int .i64 ↑a),(13,.int .i64 (at_)),(14,.int .i64 ↑step)]) (λ((at_,step,w):Int×Nat×(List Int))=>[.abs (av 3 1 (some ⟨b3,0,none⟩) ns.length ns.length (cq gq)),.abs R]) ((gq.getD a 0),0,[(nd ns a).id]) (idx:=[6,12,13,14]) (pk:=[0,1]) (show ((((gq.getD a 0))<0/\Ends ((bQ ns ns.length).map (dm ns)) (nd ns a).id)\/∃q:Nat,((gq.getD a 0))=(q:Int)/\q<ns.length/\Way ((bQ ns ns.length).map (dm ns)) (nd ns a).id ([(nd ns a).id]) (nd ns q).id/\([(nd ns a).id]).length=0+1) from uO nJ hed AU (by omega) .nil rfl) (λ_=>by kernel_rfl) rfl (by kernel_rfl) ?_
  rintro⟨at_,step,w⟩ hst
  show ai _ _ _ _ [(6,.slice (some ⟨b3,0,none⟩) (ns.length) (ns.length)),(12,.int .i64 ↑a),(13,.int .i64 (at_)),(14,.int .i64 ↑step)] [.abs (av 3 1 (some ⟨b3,0,none⟩) ns.length ns.length (cq gq)),.abs R] _
  refine ai.seq (ai.seq (ai.region (af.aq (k':=2) (fr':=[(6,.slice (some ⟨b3,0,none⟩) (ns.length) (ns.length)),(12,.int .i64 ↑a),(13,.int .i64 (at_)),(14,.int .i64 ↑step),(166,.bool (decide ((at_:Int)>=(0:Int))))]) (ak:=[]) [o_,o_] [6,12,13,14,166] (λ_ _=>by kernel_rfl) trivial ?_)))
  refine af.nil (by kernel_rfl) (ah.next ?_)
  refine ai.aV (p:=(at_:Int)>=(0:Int)) (λ_=>by kernel_rfl) (λDN=>?_) (λDN=>?_)
  ·obtain⟨b,hb0,hb1,hb2,hb3⟩:=hst.resolve_left (λh=>by omega)
   refine ai.skip (ah.next (ai.seq (ai.block (ai.seq (ai.seq (ai.region ?_))))))
   refine af.aq (k':=4) (fr':=[(6,.slice (some ⟨b3,0,none⟩) (ns.length) (ns.length)),(12,.int .i64 ↑a),(13,.int .i64 (at_)),(14,.int .i64 ↑step),(172,.bool (decide ((at_:Int)=(((a:Nat):Int):Int))))]) (ak:=[]) [o_,o_,o_,o_] [6,12,13,14,172] (λ_ _=>by kernel_rfl) trivial ?_
   refine af.bO 172 ((at_:Int)=(((a:Nat):Int):Int)) (λ_=>by kernel_rfl) (λqg=>?_) (λqg=>?_)
   ·refine af.aq (k':=9) (fr':=[(6,.slice (some ⟨b3,0,none⟩) (ns.length) (ns.length)),(12,.int .i64 ↑a),(13,.int .i64 (at_)),(14,.int .i64 ↑step),(177,.bool true)]) (ak:=[]) [o_,o_,o_,o_,o_] [6,12,13,14,177] (λ_ _=>by kernel_rfl) trivial ?_
    refine af.nil (by kernel_rfl) (ah.next ?_)
    refine ai.bL (λ_=>by kernel_rfl) ?_
    refine ai.seq (ai.region (af.aq (k':=1) (fr':=[(2,.int .i64 140)]) (ak:=[]) [o_] [2] (λ_ _=>by kernel_rfl) trivial ?_))
    refine af.nil (by kernel_rfl) (ah.next (ai.ret (ah.ay (ah.aG (ah.ay (ah.ay (ah.aG (ah.aG (ah.ay (ah.ay (ah.aG (ah.ay ?_))))))))))))
    exact ah.ret (v:=.int .i64 140) (l:=[]) (ak:=[]) [] [1] (λ_=>by kernel_rfl) trivial rfl (by kernel_rfl) (⟨congrArg (Value.int .i64) (if_neg (c:=bw ns) (λh=>by rw [show b=a by omega] at hb2;exact hb2.back (by omega) (h.ends _))).symm,rfl⟩)
   refine af.aq (k':=9) (fr':=[(6,.slice (some ⟨b3,0,none⟩) (ns.length) (ns.length)),(12,.int .i64 ↑a),(13,.int .i64 (at_)),(14,.int .i64 ↑step),(177,.bool (decide ((((step:Nat):Int):Int)>(((ns.length:Nat):Int):Int))))]) (ak:=[]) [o_,o_,o_,o_,o_] [6,12,13,14,177] (λ_ _=>by kernel_rfl) trivial ?_
   refine af.nil (by kernel_rfl) (ah.next ?_)
   refine ai.aV (p:=(((step:Nat):Int):Int)>(((ns.length:Nat):Int):Int)) (λ_=>by kernel_rfl) (λDP=>?_) (λDP=>?_)
   ·refine ai.seq (ai.region (af.aq (k':=1) (fr':=[(2,.int .i64 140)]) (ak:=[]) [o_] [2] (λ_ _=>by kernel_rfl) trivial ?_))
    refine af.nil (by kernel_rfl) (ah.next (ai.ret (ah.ay (ah.aG (ah.ay (ah.ay (ah.aG (ah.aG (ah.ay (ah.ay (ah.aG (ah.ay ?_))))))))))))
    exact ah.ret (v:=.int .i64 140) (l:=[]) (ak:=[]) [] [1] (λ_=>by kernel_rfl) trivial rfl (by kernel_rfl) (⟨congrArg (Value.int .i64) (if_neg (c:=bw ns) (λh=>by exact hb2.never (by have:=h.few;omega) (h.ends _))).symm,rfl⟩)
   refine ai.skip (ah.next (ai.region ?_))
   refine af.aq (k':=5) (fr':=[(6,.slice (some ⟨b3,0,none⟩) (ns.length) (ns.length)),(12,.int .i64 ↑a),(13,.int .i64 ((gq.getD b 0))),(14,.int .i64 ↑step)]) (ak:=[(∀F w,(av 3 1 (some ⟨b3,0,none⟩) ns.length ns.length (cq gq)).h F w->w.cell? ⟨b3,b,none⟩=some (.int .i64 ((gq.getD b 0)))),(Value.pointer (some ⟨b3,0+b*1,none⟩))=(.pointer (some ⟨b3,b,none⟩)),at_=((b:Nat):Int),b<ns.length,(⟨b3,0,none⟩:Addr).spot=none]) [o_,o_,⟨[],some b,none,none,some (.pointer (some ⟨b3,b,none⟩))⟩,⟨[.view 0 (.int .i64 ((gq.getD b 0)))],none,none,none,none⟩,o_] [6,12,13,14] (λ_ _=>by kernel_rfl) ⟨av.cell (lJ (by omega)),by simp,hb0,by omega,rfl,trivial⟩ ?_
   refine af.nil (by kernel_rfl) (ah.aJ (ah.next (ai.region ?_)))
   refine af.aq (k':=3) (fr':=[(6,.slice (some ⟨b3,0,none⟩) (ns.length) (ns.length)),(12,.int .i64 ↑a),(13,.int .i64 ((gq.getD b 0))),(14,.int .i64 ↑(step+1))]) (ak:=[(Value.int .i64 (IntKind.wrap .i64 (((step:Nat):Int)+1)))=(.int .i64 ↑(step+1))]) [o_,⟨[],none,none,none,some (.int .i64 ↑(step+1))⟩,o_] [6,12,13,14] (λ_ _=>by kernel_rfl) ⟨aP (by omega) (by omega) (by omega),trivial⟩ ?_
   refine af.nil (by kernel_rfl) ?_
   exact ah.turn ((gq.getD b 0),(step+1),(w++[(nd ns b).id])) (idx:=[6,12,13,14]) (pk:=[0,1]) (show ((((gq.getD b 0))<0/\Ends ((bQ ns ns.length).map (dm ns)) (nd ns a).id)\/∃q:Nat,((gq.getD b 0))=(q:Int)/\q<ns.length/\Way ((bQ ns ns.length).map (dm ns)) (nd ns a).id ((w++[(nd ns b).id])) (nd ns q).id/\((w++[(nd ns b).id])).length=((step+1))+1) from uO nJ hed AU hb1 hb2 hb3) (by show ns.length+2-((step+1))<ns.length+2-step;omega) (λ_=>by kernel_rfl) rfl (by kernel_rfl)
  refine ai.exit (ah.aH (ah.aH (ah.bg (ah.aJ (ah.next (ai.region ?_))))))
  refine af.aq (k':=3) (fr':=[(6,.slice (some ⟨b3,0,none⟩) (ns.length) (ns.length)),(12,.int .i64 ↑(a+1))]) (ak:=[(Value.int .i64 (IntKind.wrap .i64 (((a:Nat):Int)+1)))=(.int .i64 ↑(a+1))]) [o_,⟨[],none,none,none,some (.int .i64 ↑(a+1))⟩,o_] [6,12] (λ_ _=>by kernel_rfl) ⟨aP (by omega) (by omega) (by omega),trivial⟩ ?_
  refine af.nil (by kernel_rfl) ?_
  exact ah.turn ((a+1)) (idx:=[6,12]) (pk:=[0,1]) (show (((a+1))<=ns.length)/\(∀b,b<((a+1))->Ends ((bQ ns ns.length).map (dm ns)) (nd ns b).id) from ⟨by omega,λb hb=>by rcases Nat.lt_succ_iff_lt_or_eq.1 hb with h|h;exact hend b h;subst h;rcases hst with h2|⟨q,hq,_⟩;exact h2.2;omega⟩) (by show ns.length-((a+1))<ns.length-a;omega) (λ_=>by kernel_rfl) rfl (by kernel_rfl)
 refine ai.exit (ah.aH (ah.aH (ah.bg (ah.next (ai.seq (ai.region ?_))))))
 refine af.aq (k':=1) (fr':=[(2,.int .i64 0)]) (ak:=[]) [o_] [2] (λ_ _=>by kernel_rfl) trivial ?_
 refine af.nil (by kernel_rfl) (ah.next (ai.ret ?_))
 exact ah.ret (v:=.int .i64 0) (l:=[]) (ak:=[]) [] [1] (λ_=>by kernel_rfl) trivial rfl (by kernel_rfl) (⟨congrArg (Value.int .i64) (if_pos (c:=bw ns) ⟨by omega,λa ha=>hu.node a (by omega),λa ha=>hu.ids a (by omega),nJ,by omega,λa ha=>lH a (by omega),by have:=hnd;rwa [show i=ns.length by omega] at this,sV (λp hp=>(hed p hp).1) (λb hb=>hend b (by omega))⟩).symm,rfl⟩)
end
section
open Go.RowKit
theorem B0.refl (W:World):(B0 W).le (B0 W):=⟨λ_ h=>h,rfl,rfl,rfl,Nat.le_refl _,λ_ hk=>⟨hk,rfl⟩⟩
theorem Spec.val {P:Program} {β:Bs} {f:FuncId} {args:Array Value} {pre:List HP} {x y:Value} {l0:List HP} (h:Spec P β f args pre (λv l=>v=x/\l=l0)) (e:x=y):Spec P β f args pre (λv l=>v=y/\l=l0):=h.mono λ_ _ h=>⟨h.1.trans e,h.2⟩
section gb
variable {ns:List aD} {b:Nat}
theorem dM.mono {c:Nat} (h:dM ns b) (hb:b<=c):dM ns c:=
 ⟨Nat.le_trans h.len hb,λi hi=>⟨(h.node i hi).ids,Nat.le_trans (h.node i hi).data hb,Nat.le_trans (h.node i hi).target hb,Nat.le_trans (h.node i hi).aj hb,λj hj=>⟨((h.node i hi).ent j hj).id,Nat.le_trans ((h.node i hi).ent j hj).name hb⟩⟩⟩
variable (h:dM ns 1048576)
include h
theorem dM.hl:ns.length<=1048576:=by have:=h.len;omega
theorem dM.hd:∀i,i<ns.length->(nd ns i).data.length<=1048576/\(nd ns i).aj.length<=1048576:=λi hi=>by
 have h1:=(h.node i hi).data
 have h2:=(h.node i hi).aj
 omega
theorem dM.hwf:∀i,i<ns.length->∀j,j<(nd ns i).aj.length->-9223372036854775808<=(ent ns i j).id/\(ent ns i j).id<=9223372036854775807:=λi hi j hj=>((h.node i hi).ent j hj).id
theorem dM.hnm:∀i,i<ns.length->∀j,j<(nd ns i).aj.length->(ent ns i j).name.size<=1048576:=λi hi j hj=>by
 have h1:=((h.node i hi).ent j hj).name
 unfold ent
 omega
theorem dM.ht:∀i,i<ns.length->(nd ns i).target.size<=1048576:=λi hi=>by
 have h1:=(h.node i hi).target
 omega
end gb
structure En (ns:List aD):Prop where
 hl:ns.length<=1048576
 hd:∀i,i<ns.length->(nd ns i).data.length<=140737488355328/\(nd ns i).aj.length<=1048576
 hwf:∀i,i<ns.length->∀j,j<(nd ns i).aj.length->-9223372036854775808<=(ent ns i j).id/\(ent ns i j).id<=9223372036854775807
 hnm:∀i,i<ns.length->∀j,j<(nd ns i).aj.length->(ent ns i j).name.size<=1048576
 ids:∀i,i<ns.length->fO (nd ns i).id
def L0:Lay:=⟨λ_=>none,λ_=>none,λ_=>0,λ_=>0⟩
theorem cK.nil {β:Bs} {A:Option Addr}:cK β A []:=λj v hj=>by simp at hj
end
section
open Go.RowKit Go.Maps
noncomputable def bK (ns:List aD) (root:Int):Int:=
 if ¬bw ns then 140 else if ¬0<=cL ns root then 141 else if ¬(nd ns (tgt ns root)).kind=2 then 173 else 0
theorem kD {ns:List aD} {root:Int} (h:¬bw ns):bK ns root=140:=if_pos h
theorem jX {ns:List aD} {root:Int} (h:bw ns) (h1:¬0<=cL ns root):bK ns root=141:=by
 unfold bK;rw [if_neg (λe=>e h),if_pos h1]
theorem jY {ns:List aD} {root:Int} (h:bw ns) (h1:0<=cL ns root) (h2:¬(nd ns (tgt ns root)).kind=2):bK ns root=173:=by
 unfold bK;rw [if_neg (λe=>e h),if_neg (λe=>e h1),if_pos h2]
theorem lM {ns:List aD} {root:Int} (h:bw ns) (h1:0<=cL ns root) (h2:(nd ns (tgt ns root)).kind=2):bK ns root=0:=by
 unfold bK;rw [if_neg (λe=>e h),if_neg (λe=>e h1),if_neg (λe=>e h2)]
theorem fZ {ns:List aD} {root:Int} (h:bK ns root=0):bw ns/\0<=cL ns root/\(nd ns (tgt ns root)).kind=2:=by
 unfold bK at h
 grind
end
section
open Go.RowKit Go.Maps
def bt (l:List ByteArray):List Value:=l.map Value.string
def kx (l:List ByteArray) (i:Nat):ByteArray:=l.getD i ⟨#[]⟩
def iL (β:Bs) (A:Option Addr) (l:List ByteArray):Prop:=cK β A (bt l)
section strs
variable {β β':Bs} {A:Option Addr} {l:List ByteArray}
theorem iL.get (h:iL β A l) {j:Nat} (hj:j<l.length):A=some ⟨au A,ar A,none⟩/\Rd β ⟨au A,ar A+j*1,none⟩ (.string (kx l j)):=by
 have h1:(bt l)[j]?=some (.string (kx l j)):=by
  rw [bt,List.getElem?_map,getD_some (x:=⟨#[]⟩) hj];rfl
 have:=h j _ h1
 rw [Nat.mul_one]
 exact this
theorem iL.hd (h:iL β A l) {j:Nat} (hj:j<l.length):A=some ⟨au A,ar A,none⟩:=(h.get hj).1
theorem iL.rd (h:iL β A l) {j:Nat} (hj:j<l.length):Rd β ⟨au A,ar A+j*1,none⟩ (.string (kx l j)):=(h.get hj).2
end strs
theorem nN {l:List ByteArray} {i:Nat} (h:i<l.length):l.drop i=kx l i::l.drop (i+1):=by
 rw [List.drop_eq_getElem_cons h]
 grind [kx]
noncomputable def zR (ns:List aD) (root:Int):Value:=if bK ns root=0 then .tuple #[.int .i64 ((tgt ns root:Nat):Int),.int .i64 0] else .tuple #[.int .i64 0,.int .i64 (bK ns root)]
theorem wH {ns:List aD} {root:Int} (h:bK ns root=0):zR ns root=.tuple #[.int .i64 ((tgt ns root:Nat):Int),.int .i64 0]:=if_pos h
theorem nO {ns:List aD} {root:Int} (h:¬bK ns root=0):zR ns root=.tuple #[.int .i64 0,.int .i64 (bK ns root)]:=if_neg h
def Sorted (es:List bV):Prop:=∀i j,i<j->j<es.length->eG (en es i).name (en es j).name<0
theorem lN {x y:ByteArray}:¬gD x y↔eG y x<0:=by
 unfold gD
 rw [oo,Lib.toList_data,Lib.toList_data]
 have h1:=@sI x.data.toList y.data.toList
 grind [oq,x9,eG]
theorem oD {ns:List aD} {i:Nat} (h:∀j,j<(nd ns i).aj.length->eP ns i j):Sorted (nd ns i).aj:=by
 intro a b hab hb
 induction b with
 |zero=>omega
 |succ b ih=>
   have h1:eG (ent ns i b).name (ent ns i (b+1)).name<0:=lN.1 (h (b+1) hb).ord
   rcases Nat.lt_succ_iff_lt_or_eq.1 hab with e|e
   ·exact nE (ih e (by omega)) (by unfold ent at h1;omega)
   rw [e];exact h1
theorem Sorted.inj {es:List bV} (h:Sorted es) {i j:Nat} (hi:i<es.length) (hj:j<es.length) (e:(en es i).name=(en es j).name):i=j:=by
 rcases Nat.lt_trichotomy i j with h1|h1|h1
 all_goals grind [lu,Sorted,en]
def kE (es:List bV) (p:ByteArray):Option Nat:=es.findIdx? (λe=>decide (e.name=p))
theorem w9 {es:List bV} {p:ByteArray} {j:Nat} (hs:Sorted es) (hj:j<es.length) (e:(en es j).name=p):kE es p=some j:=by
 unfold kE
 rw [List.findIdx?_eq_some_iff_getElem]
 have hg:∀k (hk:k<es.length),en es k=es[k]:=λk hk=>by
  grind [en]
 refine⟨hj,by rw [←hg j hj];simpa using e,λk hk=>?_⟩
 rw [←hg k (by omega)]
 simp only [decide_eq_true_eq]
 intro e2
 have:=hs.inj (i:=k) (j:=j) (by omega) hj (e2.trans e.symm)
 omega
theorem xg {es:List bV} {p:ByteArray} (h:∀j,j<es.length->¬(en es j).name=p):kE es p=none:=by
 unfold kE
 rw [List.findIdx?_eq_none_iff]
 intro x hx
 obtain⟨j,hj,rfl⟩:=List.getElem_of_mem hx
 grind [en]
noncomputable def fJ (ns:List aD):Nat->List ByteArray->Int×Int
 |k,[]=>((nd ns k).id,0)
 |k,p::r=>if (nd ns k).kind=3 then (0,174) else if (nd ns k).kind=1 then (0,173) else
   match kE (nd ns k).aj p with
   |none=>(0,170)
   |some j=>fJ ns (tgt ns (en (nd ns k).aj j).id) r
noncomputable def kF (ns:List aD) (root:Int) (ps:List ByteArray):Int×Int:=if bK ns root=0 then fJ ns (tgt ns root) ps else (0,bK ns root)
section find
variable {ns:List aD} {k i:Nat} {ps:List ByteArray}
theorem yK (h:ps.length<=i):fJ ns k (ps.drop i)=((nd ns k).id,0):=by
 rw [List.drop_eq_nil_of_le h];rfl
theorem yL (h:i<ps.length) (h3:(nd ns k).kind=3):fJ ns k (ps.drop i)=(0,174):=by
 rw [nN h];unfold fJ;rw [if_pos h3]
theorem xh (h:i<ps.length) (h3:(nd ns k).kind=1):fJ ns k (ps.drop i)=(0,173):=by
 rw [nN h];unfold fJ;rw [if_neg (by omega),if_pos h3]
theorem xj (h:i<ps.length) (h3:¬(nd ns k).kind=3) (h1:¬(nd ns k).kind=1) (hf:kE (nd ns k).aj (kx ps i)=none):fJ ns k (ps.drop i)=(0,170):=by
 rw [nN h];unfold fJ;rw [if_neg h3,if_neg h1,hf]
theorem xk {j:Nat} (h:i<ps.length) (h3:¬(nd ns k).kind=3) (h1:¬(nd ns k).kind=1) (hf:kE (nd ns k).aj (kx ps i)=some j):fJ ns k (ps.drop i)=fJ ns (tgt ns (en (nd ns k).aj j).id) (ps.drop (i+1)):=by
 rw [nN h]
 conv=>lhs;unfold fJ
 rw [if_neg h3,if_neg h1,hf]
theorem uR {root:Int} (h:bK ns root=0):kF ns root ps=fJ ns (tgt ns root) ps:=if_pos h
theorem yM {root:Int} (h:¬bK ns root=0):kF ns root ps=(0,bK ns root):=if_neg h
end find
end
end Go.Proofs.Ytjpdcppdoonmdaa
