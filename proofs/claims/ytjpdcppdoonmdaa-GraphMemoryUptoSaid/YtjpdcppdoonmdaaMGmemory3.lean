/-
  PROVED HERE: lemmas and contracts of functions (texts of this repo, joined; what the claim does not use is left out): GF, GBegin, GK, GLine, GZ, GAdd, GX, GTree, GTm, GPt, GPu, GPlA, GPl, GPv, GPw, GPx, GPo.
  CONDITIONS: as the theorems say.
-/
import Derived.Test.YtjpdcppdoonmdaaMGmemory2
import Derived.Lib.LastIndexByte
set_option maxRecDepth 100000
set_option maxHeartbeats 4000000
namespace Go.Proofs.Ytjpdcppdoonmdaa
section
open Go.RowKit Go.Maps
theorem xq {β:Bs} (a b:ByteArray):Spec Try.prog β 45 #[.string a,.string b] [] (λv l=>v=.int .i64 (eG a b)/\l=[]):=
 Spec.Eb λw _=>(Try.strings_Compare a b w).mono λ_ _ ⟨he,hw⟩=>⟨_,he,⟨rfl,rfl⟩,hw ▸ Keeps.refl _ _⟩
def Found (es:List bV) (p:ByteArray) (v:Value):Prop:=(∃k:Nat,k<es.length/\(en es k).name=p/\v=.tuple #[.int .i64 (k:Int),.bool true])\/((∀j,j<es.length->¬(en es j).name=p)/\∃z,v=.tuple #[.int .i64 z,.bool false])
section search
variable {es:List bV} {p:ByteArray} {i:Nat}
theorem Sorted.low (hs:Sorted es) (hi:i<es.length) (hc:eG (en es i).name p<0):∀t,t<i+1->eG (en es t).name p<0:=λt ht=>by
 rcases Nat.lt_succ_iff_lt_or_eq.1 ht with h|h
 ·exact nE (hs t i h hi) (by omega)
 rw [h];exact hc
theorem Sorted.high (hs:Sorted es) (hc:¬eG (en es i).name p<0):∀t,i<=t->t<es.length->0<=eG (en es t).name p:=λt ht hl=>by
 rcases Nat.eq_or_lt_of_le ht with h|h
 ·rw [←h];omega
 have h1:=hs i t h hl
 apply Int.not_lt.1
 intro h2
 exact hc (nE h1 (by omega))
theorem BF (hlo:∀t,t<i->eG (en es t).name p<0) (hi:es.length<=i):Found es p (.tuple #[.int .i64 ((i:Nat):Int),.bool false]):=
 .inr ⟨λj hj e=>by have:=hlo j (by omega);rw [e,lu] at this;omega,i,rfl⟩
theorem BG (hs:Sorted es) (hi:i<es.length) (hlo:∀t,t<i->eG (en es t).name p<0) (hhi:∀t,i<=t->t<es.length->0<=eG (en es t).name p):Found es p (.tuple #[.int .i64 ((i:Nat):Int),.bool (decide (eG (en es i).name p=0))]):=by
 by_cases he:eG (en es i).name p=0
 ·exact .inl ⟨i,hi,oq.1 he,by rw [decide_eq_true he]⟩
 refine .inr ⟨λj hj e=>?_,i,by rw [decide_eq_false he]⟩
 rcases Nat.lt_trichotomy j i with h|h|h
 ·have:=hlo j h;rw [e,lu] at this;omega
 ·subst h;exact he (oq.2 e)
 have h1:=hs i j h hj
 rw [e] at h1
 have:=hhi i (Nat.le_refl _) hi
 omega
end search
end
section
open Go.RowKit
attribute [local irreducible] af aN ai ah
theorem qh {β:Bs} (A:Option Addr) (c:Nat) (ns:List aD) (L:Lay) (hG:aA β A ns L) (hB:dM ns 1048576) (root:Int) (hz:fO root) :
 Spec Try.prog β 42 #[.agg #[.slice A ns.length c],.int .i64 root] [] (λv l=>(∃mb,v=.tuple #[.map (some mb),.pointer (some ⟨(au A),ar A+(tgt ns root)*10,none⟩),.int .i64 0]/\bK ns root=0/\l=[.abs (aE Try.prog 3 mb (mf (bf A ns ns.length)) ns.length)])\/(∃x y,v=.tuple #[x,y,.int .i64 (bK ns root)]/\¬bK ns root=0/\l=[])):=by
 refine Spec.enter Try.func42 rfl Try.ntmps42 (Nat.le_of_ble_eq_true rfl) (λR=>?_)
 refine ai.seq (ai.region (af.bD (k':=4) (fr':=λb1=>[(1,.int .i64 (root)),(2,.pointer (some ⟨b1,0,none⟩))]) (aL:=λb1=>[.abs R,.blk b1 [.slice A (ns.length) (c)] 24]) (ak:=λb1=>[]) [o_,o_,o_,o_] [1,2] [0,1] (λ_ _=>by kernel_rfl) (λb1=>trivial) (λb1=>?_)))
 refine af.nil (by kernel_rfl) (ah.next (ai.seq (ai.region ?_)))
 refine af.aq (k':=1) (fr':=[(1,.int .i64 (root)),(11,.agg #[.slice A (ns.length) (c)])]) (ak:=[b1=b1]) [⟨[.at 1],none,none,none,none⟩] [1,11] (λ_ _=>by kernel_rfl) ⟨rfl,trivial⟩ ?_
 refine af.call (f:=37) (args:=#[.agg #[.slice A (ns.length) (c)]]) (d:=(some 12)) (pre:=[]) (R:=[.abs R,.blk b1 [.slice A (ns.length) (c)] 24]) (pk:=[0,1]) (λ_=>by kernel_rfl) (BB A c ns L hG hB.hl hB.hd hB.hwf hB.hnm) rfl (by kernel_rfl) ?_
 rintro _ _ (⟨mb,rfl,hok,rfl⟩|⟨m,rfl,hok,rfl⟩)
 ·refine af.aq (k':=7) (fr':=[(1,.int .i64 (root)),(7,.map (some mb)),(8,.bool true)]) (ak:=[]) [o_,o_,o_,o_,o_] [1,7,8] (λ_ _=>by kernel_rfl) trivial ?_
  refine af.nil (by kernel_rfl) (ah.next (ai.seq (ai.seq (ai.region ?_))))
  refine af.aq (k':=2) (fr':=[(1,.int .i64 (root)),(7,.map (some mb)),(16,.bool false)]) (ak:=[]) [o_,o_] [1,7,16] (λ_ _=>by kernel_rfl) trivial ?_
  refine af.nil (by kernel_rfl) (ah.next ?_)
  refine ai.cU (λ_=>by kernel_rfl) ?_
  refine ai.skip (ah.next (ai.seq (ai.region ?_)))
  refine af.aq (k':=2) (fr':=[(7,.map (some mb)),(17,.map (some mb)),(18,.int .i64 (root))]) (ak:=[]) [o_,o_] [7,17,18] (λ_ _=>by kernel_rfl) trivial ?_
  by_cases hat:0<=cL ns root
  ·have htl:=cH hat
   refine af.dO 0 (d:=(some 19)) (t:=66) (K:=3) (E:=75) (b:=mb) (n:=ns.length) (f:=(mf (bf A ns ns.length))) (x:=(.tmp 17)) (ix:=(.tmp 18)) (key:=.int .i64 (root)) (z:=.pointer none) (kl:=(.int .i64 root)) (r:=(some (.pointer (some ⟨(au A),ar A+(tgt ns root)*10,none⟩)))) (λ_=>by kernel_rfl) (by kernel_rfl) (λ_=>by kernel_rfl) (λ_=>by kernel_rfl) fC Try.underlying66 (λ_=>by kernel_rfl) (fI hz.1 hz.2) (jE hat htl.1) ?_
   refine af.aq (k':=4) (fr':=[(7,.map (some mb)),(9,.pointer (some ⟨(au A),ar A+(tgt ns root)*10,none⟩))]) (ak:=[]) [o_] [7,9] (λ_ _=>by kernel_rfl) trivial ?_
   refine af.nil (by kernel_rfl) (ah.next (ai.seq (ai.seq (ai.region ?_))))
   refine af.aq (k':=2) (fr':=[(7,.map (some mb)),(9,.pointer (some ⟨(au A),ar A+(tgt ns root)*10,none⟩)),(21,.bool false)]) (ak:=[]) [o_,o_] [7,9,21] (λ_ _=>by kernel_rfl) trivial ?_
   refine af.nil (by kernel_rfl) (ah.next ?_)
   refine ai.cU (λ_=>by kernel_rfl) ?_
   refine ai.skip (ah.next (ai.seq (ai.seq (ai.region ?_))))
   refine af.aq (k':=5) (fr':=[(7,.map (some mb)),(9,.pointer (some ⟨(au A),ar A+(tgt ns root)*10,none⟩)),(26,.bool (!(decide (((nd ns (tgt ns root)).kind:Int)=(2:Int)))))]) (ak:=[(Rd β ⟨(au A),ar A+(tgt ns root)*10+1,none⟩ (.int .i64 ((nd ns (tgt ns root)).kind)))]) [o_,o_,o_,⟨[.old (.int .i64 ((nd ns (tgt ns root)).kind))],none,none,none,none⟩,o_] [7,9,26] (λ_ _=>by kernel_rfl) ⟨aA.rd hG (i:=(tgt ns root)) (by omega) (j:=1) rfl,trivial⟩ ?_
   refine af.nil (by kernel_rfl) (ah.next ?_)
   refine ai.cY (p:=((nd ns (tgt ns root)).kind:Int)=(2:Int)) (λ_=>by kernel_rfl) (λkS=>?_) (λkS=>?_)
   ·refine ai.seq (ai.region (af.aq (k':=3) (fr':=[(4,.map none),(5,.pointer none),(6,.int .i64 173)]) (ak:=[]) [o_,o_,o_] [4,5,6] (λ_ _=>by kernel_rfl) trivial ?_))
    refine af.nil (by kernel_rfl) (ah.next (ai.ret (ah.ay ?_)))
    exact ah.ret (v:=.tuple #[.map none,.pointer none,.int .i64 173]) (l:=[]) (ak:=[]) [] [1] (λ_=>by kernel_rfl) trivial rfl (by kernel_rfl) (.inr ⟨_,_,by rw [jY hok hat kS],by rw [jY hok hat kS];decide,rfl⟩)
   refine ai.skip (ah.next (ai.seq (ai.region ?_)))
   refine af.aq (k':=5) (fr':=[(4,.map (some mb)),(5,.pointer (some ⟨(au A),ar A+(tgt ns root)*10,none⟩)),(6,.int .i64 0)]) (ak:=[]) [o_,o_,o_,o_,o_] [4,5,6] (λ_ _=>by kernel_rfl) trivial ?_
   refine af.nil (by kernel_rfl) (ah.next (ai.ret ?_))
   exact ah.ret (v:=.tuple #[.map (some mb),.pointer (some ⟨(au A),ar A+(tgt ns root)*10,none⟩),.int .i64 0]) (l:=[.abs (aE Try.prog 3 mb (mf (bf A ns ns.length)) ns.length)]) (ak:=[]) [] [0,1] (λ_=>by kernel_rfl) trivial rfl (by kernel_rfl) (.inl ⟨mb,rfl,lM hok hat kS,rfl⟩)
  refine af.dO 0 (d:=(some 19)) (t:=66) (K:=3) (E:=75) (b:=mb) (n:=ns.length) (f:=(mf (bf A ns ns.length))) (x:=(.tmp 17)) (ix:=(.tmp 18)) (key:=.int .i64 (root)) (z:=.pointer none) (kl:=(.int .i64 root)) (r:=none) (λ_=>by kernel_rfl) (by kernel_rfl) (λ_=>by kernel_rfl) (λ_=>by kernel_rfl) fC Try.underlying66 (λ_=>by kernel_rfl) (fI hz.1 hz.2) (wG hat) ?_
  refine af.aq (k':=4) (fr':=[(7,.map (some mb)),(9,.pointer none)]) (ak:=[]) [o_] [7,9] (λ_ _=>by kernel_rfl) trivial ?_
  refine af.nil (by kernel_rfl) (ah.next (ai.seq (ai.seq (ai.region ?_))))
  refine af.aq (k':=2) (fr':=[(7,.map (some mb)),(9,.pointer none),(21,.bool true)]) (ak:=[]) [o_,o_] [7,9,21] (λ_ _=>by kernel_rfl) trivial ?_
  refine af.nil (by kernel_rfl) (ah.next ?_)
  refine ai.bL (λ_=>by kernel_rfl) ?_
  refine ai.seq (ai.region (af.aq (k':=3) (fr':=[(4,.map none),(5,.pointer none),(6,.int .i64 141)]) (ak:=[]) [o_,o_,o_] [4,5,6] (λ_ _=>by kernel_rfl) trivial ?_))
  refine af.nil (by kernel_rfl) (ah.next (ai.ret (ah.ay ?_)))
  exact ah.ret (v:=.tuple #[.map none,.pointer none,.int .i64 141]) (l:=[]) (ak:=[]) [] [1] (λ_=>by kernel_rfl) trivial rfl (by kernel_rfl) (.inr ⟨_,_,by rw [jX hok hat],by rw [jX hok hat];decide,rfl⟩)
 refine af.aq (k':=7) (fr':=[(1,.int .i64 (root)),(7,m),(8,.bool false)]) (ak:=[]) [o_,o_,o_,o_,o_] [1,7,8] (λ_ _=>by kernel_rfl) trivial ?_
 refine af.nil (by kernel_rfl) (ah.next (ai.seq (ai.seq (ai.region ?_))))
 refine af.aq (k':=2) (fr':=[(1,.int .i64 (root)),(7,m),(16,.bool true)]) (ak:=[]) [o_,o_] [1,7,16] (λ_ _=>by kernel_rfl) trivial ?_
 refine af.nil (by kernel_rfl) (ah.next ?_)
 refine ai.bL (λ_=>by kernel_rfl) ?_
 refine ai.seq (ai.region (af.aq (k':=3) (fr':=[(4,.map none),(5,.pointer none),(6,.int .i64 140)]) (ak:=[]) [o_,o_,o_] [4,5,6] (λ_ _=>by kernel_rfl) trivial ?_))
 refine af.nil (by kernel_rfl) (ah.next (ai.ret (ah.ay ?_)))
 exact ah.ret (v:=.tuple #[.map none,.pointer none,.int .i64 140]) (l:=[]) (ak:=[]) [] [0] (λ_=>by kernel_rfl) trivial rfl (by kernel_rfl) (.inr ⟨_,_,by rw [kD hok],by rw [kD hok];decide,rfl⟩)
theorem pI {β:Bs} (A:Option Addr) (c:Nat) (ns:List aD) (L:Lay) (hG:aA β A ns L) (hB:dM ns 1048576) (root:Int) :
 Spec Try.prog β 46 #[.agg #[.slice A ns.length c],.int .i64 root] [] (λv l=>v=zR ns root/\l=[]):=by
 refine Spec.enter Try.func46 rfl Try.ntmps46 (Nat.le_of_ble_eq_true rfl) (λR=>?_)
 refine ai.seq (ai.region (af.bD (k':=3) (fr':=λb2=>[(1,.int .i64 (root)),(2,.pointer (some ⟨b2,0,none⟩))]) (aL:=λb2=>[.abs R,.blk b2 [.slice A (ns.length) (c)] 24]) (ak:=λb2=>[]) [o_,o_,o_] [1,2] [0,1] (λ_ _=>by kernel_rfl) (λb2=>trivial) (λb2=>?_)))
 refine af.nil (by kernel_rfl) (ah.next (ai.seq (ai.seq (ai.region ?_))))
 refine af.aq (k':=1) (fr':=[(1,.int .i64 (root)),(2,.pointer (some ⟨b2,0,none⟩)),(7,.agg #[.slice A (ns.length) (c)])]) (ak:=[b2=b2]) [⟨[.at 1],none,none,none,none⟩] [1,2,7] (λ_ _=>by kernel_rfl) ⟨rfl,trivial⟩ ?_
 refine af.call (f:=16) (args:=#[.agg #[.slice A (ns.length) (c)]]) (d:=(some 8)) (pre:=[]) (R:=[.abs R,.blk b2 [.slice A (ns.length) (c)] 24]) (pk:=[0,1]) (λ_=>by kernel_rfl) (vR A c ns L hG hB.hl hB.hd hB.hwf hB.hnm hB.ht) rfl (by kernel_rfl) ?_
 rintro _ _ ⟨rfl,rfl⟩
 refine af.aq (k':=3) (fr':=[(1,.int .i64 (root)),(2,.pointer (some ⟨b2,0,none⟩)),(9,.bool (!(decide (((if bw ns then 0 else 140):Int)=(0:Int)))))]) (ak:=[]) [o_] [1,2,9] (λ_ _=>by kernel_rfl) trivial ?_
 refine af.nil (by kernel_rfl) (ah.next ?_)
 refine ai.cY (p:=((if bw ns then 0 else 140):Int)=(0:Int)) (λ_=>by kernel_rfl) (λh9=>?_) (λh9=>?_)
 ·have hok:¬bw ns:=λhc=>h9 (if_pos hc)
  refine ai.seq (ai.region (af.aq (k':=2) (fr':=[(4,.int .i64 0),(5,.int .i64 140)]) (ak:=[]) [o_,o_] [4,5] (λ_ _=>by kernel_rfl) trivial ?_))
  refine af.nil (by kernel_rfl) (ah.next (ai.ret (ah.ay ?_)))
  exact ah.ret (v:=.tuple #[.int .i64 0,.int .i64 140]) (l:=[]) (ak:=[]) [] [0] (λ_=>by kernel_rfl) trivial rfl (by kernel_rfl) (⟨by rw [nO (ns:=ns) (root:=root) (by rw [kD hok];decide),kD hok],rfl⟩)
 have hok:bw ns:=Classical.byContradiction (λhc=>absurd (h9.symm.trans (if_neg hc)) (by decide))
 refine ai.skip (ah.next (ai.seq (ai.region ?_)))
 refine af.aq (k':=2) (fr':=[(2,.pointer (some ⟨b2,0,none⟩)),(10,.agg #[.slice A (ns.length) (c)]),(11,.int .i64 (root))]) (ak:=[b2=b2]) [⟨[.at 1],none,none,none,none⟩,o_] [2,10,11] (λ_ _=>by kernel_rfl) ⟨rfl,trivial⟩ ?_
 refine af.call (f:=29) (args:=#[.agg #[.slice A (ns.length) (c)],.int .i64 (root)]) (d:=(some 12)) (pre:=[]) (R:=[.abs R,.blk b2 [.slice A (ns.length) (c)] 24]) (pk:=[0,1]) (λ_=>by kernel_rfl) (lG A c ns L hG hok.rise hB.hl root) rfl (by kernel_rfl) ?_
 rintro _ _ ⟨rfl,rfl⟩
 refine af.aq (k':=4) (fr':=[(2,.pointer (some ⟨b2,0,none⟩)),(6,.int .i64 (cL ns root))]) (ak:=[]) [o_] [2,6] (λ_ _=>by kernel_rfl) trivial ?_
 refine af.nil (by kernel_rfl) (ah.next (ai.seq (ai.seq (ai.region ?_))))
 refine af.aq (k':=2) (fr':=[(2,.pointer (some ⟨b2,0,none⟩)),(6,.int .i64 (cL ns root)),(14,.bool (decide ((cL ns root:Int)<(0:Int))))]) (ak:=[]) [o_,o_] [2,6,14] (λ_ _=>by kernel_rfl) trivial ?_
 refine af.nil (by kernel_rfl) (ah.next ?_)
 refine ai.aV (p:=(cL ns root:Int)<(0:Int)) (λ_=>by kernel_rfl) (λkr=>?_) (λkr=>?_)
 ·have hat:¬0<=cL ns root:=by omega
  refine ai.seq (ai.region (af.aq (k':=2) (fr':=[(4,.int .i64 0),(5,.int .i64 141)]) (ak:=[]) [o_,o_] [4,5] (λ_ _=>by kernel_rfl) trivial ?_))
  refine af.nil (by kernel_rfl) (ah.next (ai.ret (ah.ay ?_)))
  exact ah.ret (v:=.tuple #[.int .i64 0,.int .i64 141]) (l:=[]) (ak:=[]) [] [0] (λ_=>by kernel_rfl) trivial rfl (by kernel_rfl) (⟨by rw [nO (ns:=ns) (root:=root) (by rw [jX hok hat];decide),jX hok hat],rfl⟩)
 have hat:0<=cL ns root:=by omega
 have htl:=cH hat
 refine ai.skip (ah.next (ai.seq (ai.seq (ai.region ?_))))
 refine af.aq (k':=7) (fr':=[(6,.int .i64 (cL ns root)),(21,.bool (!(decide (((nd ns (tgt ns root)).kind:Int)=(2:Int)))))]) (ak:=[(Rd β ⟨(au A),ar A+(tgt ns root)*10+1,none⟩ (.int .i64 ((nd ns (tgt ns root)).kind))),cL ns root=(((tgt ns root):Nat):Int),(tgt ns root)<ns.length,(⟨(au A),ar A,none⟩:Addr).spot=none,(A:Option Addr)=some ⟨(au A),ar A,none⟩,b2=b2]) [o_,⟨[.at 1],none,none,none,none⟩,o_,⟨[],some (tgt ns root),none,some ⟨(au A),ar A,none⟩,none⟩,o_,⟨[.old (.int .i64 ((nd ns (tgt ns root)).kind))],none,none,none,none⟩,o_] [6,21] (λ_ _=>by kernel_rfl) ⟨aA.rd hG (i:=(tgt ns root)) (by omega) (j:=1) rfl,htl.2.2,by omega,rfl,aA.hd hG (i:=(tgt ns root)) (by omega),rfl,trivial⟩ ?_
 refine af.nil (by kernel_rfl) (ah.next ?_)
 refine ai.cY (p:=((nd ns (tgt ns root)).kind:Int)=(2:Int)) (λ_=>by kernel_rfl) (λsW=>?_) (λsW=>?_)
 ·refine ai.seq (ai.region (af.aq (k':=2) (fr':=[(4,.int .i64 0),(5,.int .i64 173)]) (ak:=[]) [o_,o_] [4,5] (λ_ _=>by kernel_rfl) trivial ?_))
  refine af.nil (by kernel_rfl) (ah.next (ai.ret (ah.ay ?_)))
  exact ah.ret (v:=.tuple #[.int .i64 0,.int .i64 173]) (l:=[]) (ak:=[]) [] [0] (λ_=>by kernel_rfl) trivial rfl (by kernel_rfl) (⟨by rw [nO (ns:=ns) (root:=root) (by rw [jY hok hat sW];decide),jY hok hat sW],rfl⟩)
 refine ai.skip (ah.next (ai.seq (ai.region ?_)))
 refine af.aq (k':=3) (fr':=[(4,.int .i64 (cL ns root)),(5,.int .i64 0)]) (ak:=[]) [o_,o_,o_] [4,5] (λ_ _=>by kernel_rfl) trivial ?_
 refine af.nil (by kernel_rfl) (ah.next (ai.ret ?_))
 exact ah.ret (v:=.tuple #[.int .i64 (cL ns root),.int .i64 0]) (l:=[]) (ak:=[]) [] [0] (λ_=>by kernel_rfl) trivial rfl (by kernel_rfl) (⟨by rw [wH (lM hok hat sW),htl.2.2],rfl⟩)
end
section
open Go.RowKit Go.Maps
structure aR where
 path:ByteArray
 kind:Int
 mode:Int
 uid:Int
 gid:Int
 sec:Int
 nano:Int
 data:List UInt8
 target:ByteArray
 peer:ByteArray
deriving Inhabited,DecidableEq
structure cQ where
 dA:Nat->Option Addr
 dC:Nat->Nat
def ln (ls:List aR) (i:Nat):aR:=ls.getD i default
def bE (A:Option Addr) (c:Nat) (l:aR):List Value:=
 [.string l.path,.int .i64 l.kind,.int .i64 l.mode,.int .i64 l.uid,.int .i64 l.gid,.int .i64 l.sec,.int .i64 l.nano,.slice A l.data.length c,.string l.target,.string l.peer]
def cg (n:aD) (p:ByteArray) (A:Option Addr) (l c:Nat) (t q:ByteArray):List Value:=
 [.string p,.int .i64 n.kind,.int .i64 n.mode,.int .i64 n.uid,.int .i64 n.gid,.int .i64 n.sec,.int .i64 n.nano,.slice A l c,.string t,.string q]
def aI (M:cQ) (ls:List aR):List Value:=cP (λi l=>bE (M.dA i) (M.dC i) l) 0 ls
def cQ.put (M:cQ) (k:Nat) (A:Option Addr) (c:Nat):cQ:=⟨λi=>if i=k then A else M.dA i,λi=>if i=k then c else M.dC i⟩
def bJ (β:Bs) (ls:List aR) (M:cQ):Prop:=∀i,i<ls.length->bp β (M.dA i) (ln ls i).data
structure aM (β:Bs) (A:Option Addr) (ls:List aR) (M:cQ):Prop where
 row:cK β A (aI M ls)
 data:bJ β ls M
section lines
variable {β β':Bs} {A:Option Addr} {ls:List aR} {M:cQ}
theorem bJ.le (h:bJ β ls M) (hle:β.le β'):bJ β' ls M:=λi hi=>(h i hi).le hle
theorem aM.le (h:aM β A ls M) (hle:β.le β'):aM β' A ls M:=⟨h.row.le hle,bJ.le h.data hle⟩
theorem bJ.nil:bJ β [] M:=λi hi=>absurd hi (Nat.not_lt_zero i)
theorem rV (ls:List aR) (l:aR):ln (ls++[l]) ls.length=l:=by simp [ln]
theorem wI {i:Nat} (ls:List aR) (l:aR) (h:i<ls.length):ln (ls++[l]) i=ln ls i:=by
 unfold ln
 rw [List.getD_eq_getElem?_getD,List.getD_eq_getElem?_getD,List.getElem?_append_left h]
theorem bJ.snoc (h:bJ β ls M) {l:aR} {B:Option Addr} {c:Nat} (hB:bp β B l.data):bJ β (ls++[l]) (M.put ls.length B c):=λi hi=>by
 by_cases e:i=ls.length
 ·subst e;rw [rV];simpa [cQ.put] using hB
 have hi:i<ls.length:=by simp at hi;omega
 rw [wI _ _ hi]
 simpa [cQ.put,e] using h i hi
theorem ia (l:aR) (B:Option Addr) (c:Nat):aI M ls++bE B c l=aI (M.put ls.length B c) (ls++[l]):=by
 rw [aI,aI,jy,Nat.zero_add]
 have e:cP (λi l=>bE ((M.put ls.length B c).dA i) ((M.put ls.length B c).dC i) l) 0 ls=cP (λi l=>bE (M.dA i) (M.dC i) l) 0 ls:=jV _ _ (λi a hi=>by
  have:=bZ hi
  have hne:¬0+i=ls.length:=by omega
  simp only [cQ.put,if_neg hne])
 rw [e]
 simp [cQ.put]
theorem aM.get (h:aM β A ls M) {i:Nat} (hi:i<ls.length) {j:Nat} {v:Value} (hv:(bE (M.dA i) (M.dC i) (ln ls i))[j]?=some v):A=some ⟨au A,ar A,none⟩/\Rd β ⟨au A,ar A+i*10+j,none⟩ v:=by
 have hj:j<10:=bZ hv
 have h1:=jf (f:=λi l=>bE (M.dA i) (M.dC i) l) (s:=10) (λ_ _=>rfl) ls 0 i j _ (getD_some (x:=default) hi) hj
 rw [Nat.zero_add] at h1
 have:=h.row (i*10+j) v (h1.trans hv)
 rw [←Nat.add_assoc] at this
 exact this
theorem aM.hd (h:aM β A ls M) {i:Nat} (hi:i<ls.length):A=some ⟨au A,ar A,none⟩:=(h.get hi (j:=0) rfl).1
theorem aM.rd (h:aM β A ls M) {i:Nat} (hi:i<ls.length) {j:Nat} {v:Value} (hv:(bE (M.dA i) (M.dC i) (ln ls i))[j]?=some v):Rd β ⟨au A,ar A+i*10+j,none⟩ v:=(h.get hi hv).2
end lines
theorem qW {w:World} {o:Oper} {ev:Operand->Value} {x y:Operand} {a b c d:Int} (ho:o.op=.binOp .eql 28 x y 28) (hx:ev x=.agg #[.int .i64 a,.int .i64 b]) (hy:ev y=.agg #[.int .i64 c,.int .i64 d]) :
 jt Try.prog ev o w (.bool (decide (a=c/\b=d))) w:=by
 obtain⟨dst,op,type,pos,after,guard⟩:=o
 cases ho
 refine .inl ?_
 simp only [execOp,hx,hy]
 simp [go_sem]
 by_cases h1:a=c<;>by_cases h2:b=d<;>simp [h1,h2]
theorem lineEq {l m:aR} (h1:l.path=m.path) (h2:l.kind=m.kind) (h3:l.mode=m.mode) (h4:l.uid=m.uid) (h5:l.gid=m.gid) (h6:l.sec=m.sec/\l.nano=m.nano) (h7:l.target=m.target) (h8:l.peer=m.peer) (h9:l.data=m.data):l=m:=by
 cases l;cases m;simp_all
structure TS where
 out:List aR
 fst:Nat->ByteArray
 sum:Nat
 cnt:Nat
def ef (n:aD) (p peer:ByteArray):aR:=
 if peer=⟨#[]⟩ then ⟨p,n.kind,n.mode,n.uid,n.gid,n.sec,n.nano,n.data,n.target,⟨#[]⟩⟩ else ⟨p,n.kind,n.mode,n.uid,n.gid,n.sec,n.nano,[],⟨#[]⟩,peer⟩
def push (ns:List aD) (k:Nat) (p:ByteArray) (s:TS):TS:=
 if s.fst k=⟨#[]⟩ then ⟨s.out++[ef (nd ns k) p (s.fst k)],λj=>if j=k then p else s.fst j,s.sum+p.size,s.cnt+1⟩
 else ⟨s.out++[ef (nd ns k) p (s.fst k)],s.fst,s.sum+p.size,s.cnt⟩
theorem dc (ns:List aD) (k:Nat) (p:ByteArray) (s:TS):(push ns k p s).sum=s.sum+p.size:=by unfold push;split<;>rfl
theorem dH (ns:List aD) (k:Nat) (p:ByteArray) (s:TS):(push ns k p s).out=s.out++[ef (nd ns k) p (s.fst k)]:=by unfold push;split<;>rfl
theorem dr (ns:List aD) (k:Nat) (p:ByteArray) (s:TS):(push ns k p s).out.length=s.out.length+1:=by rw [dH];simp
def below (top:Nat) (p name:ByteArray):ByteArray:=if top=0 then name else p++⟨#[47]⟩++name
def bR {α:Type} (g:α->TS->Option TS):List α->TS->Option TS
 |[],s=>some s
 |e::r,s=>(g e s).bind (bR g r)
def bP (ns:List aD):Nat->Nat->ByteArray->TS->Option TS
 |0,_,_,_=>none
 |f+1,k,p,s=>if 4194304<s.sum+p.size then none else bR (λe s'=>bP ns f (tgt ns e.id) (below s.out.length p e.name) s') (nd ns k).aj (push ns k p s)
theorem oF {α:Type} {g:α->TS->Option TS}:∀{a b:List α} {s:TS},bR g (a++b) s=(bR g a s).bind (bR g b)
 |[],_,_=>rfl
 |e::r,b,s=>by
   rw [List.cons_append,bR,bR,Option.bind_assoc]
   congr 1
   funext s'
   exact oF
theorem oG {α γ:Type} {g:α->TS->Option TS} {h:γ->α}:∀{l:List γ} {s:TS},bR g (l.map h) s=bR (λe=>g (h e)) l s
 |[],_=>rfl
 |e::r,s=>by
   rw [List.map_cons,bR,bR]
   congr 1
   funext s'
   exact oG
structure og (s:TS):Prop where
 out:s.out.length<=s.sum
 cnt:s.cnt<=s.out.length
 sum:s.sum<=4194304
theorem og.push {ns:List aD} {k:Nat} {p:ByteArray} {s:TS} (h:og s) (hp:1<=p.size) (hs:¬4194304<s.sum+p.size):og (push ns k p s):=by
 refine⟨?_,?_,?_⟩
 ·rw [dr,dc];have:=h.out;omega
 ·rw [dr]
  have:=h.cnt
  unfold Go.Proofs.Ytjpdcppdoonmdaa.push
  split
  ·show s.cnt+1<=_;omega
  show s.cnt<=_;omega
 rw [dc];omega
theorem dw {top:Nat} {p n:ByteArray} (h:1<=n.size):1<=(below top p n).size:=by
 unfold below
 split
 ·exact h
 rw [ByteArray.size_append];omega
def Named (ns:List aD):Prop:=∀i,i<ns.length->∀j,j<(nd ns i).aj.length->1<=(ent ns i j).name.size/\(ent ns i j).name.size<=255/\tgt ns (ent ns i j).id<ns.length
theorem bw.named {ns:List aD} (h:bw ns):Named ns:=λi hi j hj=>⟨(h.aj i hi j hj).good.1,(h.aj i hi j hj).good.2.1,(cH (h.aj i hi j hj).at_).1⟩
theorem uS {es:List bV} {e:bV} (h:e∈es):∃j,j<es.length/\e=en es j:=by
 obtain⟨j,hj,rfl⟩:=List.getElem_of_mem h
 refine⟨j,hj,?_⟩
 unfold en
 rw [List.getD_eq_getElem?_getD,List.getElem?_eq_getElem hj]
 rfl
theorem lP {α:Type} {g:α->TS->Option TS} {I:TS->Prop}:∀{l:List α} {s s':TS},(∀e∈l,∀s s',I s->g e s=some s'->I s')->I s->bR g l s=some s'->I s'
 |[],s,s',_,hi,h=>by cases h;exact hi
 |e::r,s,s',hg,hi,h=>by
   rw [bR] at h
   cases h1:g e s with
   |none=>rw [h1] at h;cases h
   |some s1=>
     rw [h1] at h
     exact lP (λe' he'=>hg e' (List.mem_cons_of_mem _ he')) (hg e (List.mem_cons_self ..) s s1 hi h1) h
structure Behind (s s':TS):Prop where
 ok:og s'
 sum:s.sum<=s'.sum
 len:s.out.length<=s'.out.length
theorem Behind.trans {a b c:TS} (h:Behind a b) (g:Behind b c):Behind a c:=⟨g.ok,Nat.le_trans h.sum g.sum,Nat.le_trans h.len g.len⟩
theorem gV {top:Nat} {p n:ByteArray} (hp:p.size<=4194304) (hn:n.size<=255):(below top p n).size<=8388608:=by
 unfold below
 split
 ·omega
 rw [ByteArray.size_append,ByteArray.size_append]
 have:(⟨#[47]⟩:ByteArray).size=1:=rfl
 omega
theorem eZ {ns:List aD} (hn:Named ns):∀(f k:Nat) (p:ByteArray) (s s':TS),k<ns.length->1<=p.size->og s->bP ns f k p s=some s'->Behind s s'/\s.sum<s'.sum/\s.out.length<s'.out.length
 |0,_,_,_,_,_,_,_,h=>by cases h
 |f+1,k,p,s,s',hk,hp,hs,h=>by
   rw [bP] at h
   split at h
   ·cases h
   rename_i h0
   have Dk:=hs.push (ns:=ns) (k:=k) hp h0
   have key:=lP (I:=λx=>Behind (push ns k p s) x) (λe he a b ha hab=>by
    obtain⟨j,hj,rfl⟩:=uS he
    obtain⟨h1,h2,h3⟩:=hn k hk j hj
    obtain⟨h4,_,_⟩:=eZ hn f _ _ a b h3 (dw h1) ha.ok hab
    exact⟨h4.ok,Nat.le_trans ha.sum h4.sum,Nat.le_trans ha.len h4.len⟩) ⟨Dk,Nat.le_refl _,Nat.le_refl _⟩ h
   have h1:=key.sum
   have h2:=key.len
   rw [dc] at h1
   rw [dr] at h2
   exact⟨⟨key.ok,by omega,by omega⟩,by omega,by omega⟩
def fG:TS:=⟨[],λ_=>⟨#[]⟩,0,0⟩
def dot:ByteArray:=⟨#[46]⟩
theorem oH:og fG:=⟨Nat.le_refl _,Nat.le_refl _,Nat.zero_le _⟩
noncomputable def aB (ns:List aD) (root:Int):List aR×Int:=
 if bK ns root=0 then match bP ns 4194305 (tgt ns root) ⟨#[46]⟩ fG with
  |some s=>(s.out,0)
  |none=>([],142)
 else ([],bK ns root)
theorem gQ {ns:List aD} {root:Int} (h:¬bK ns root=0):aB ns root=([],bK ns root):=if_neg h
theorem fX {ns:List aD} {root:Int} {s:TS} (h:bK ns root=0) (h1:bP ns 4194305 (tgt ns root) ⟨#[46]⟩ fG=some s):aB ns root=(s.out,0):=by unfold aB;rw [if_pos h,h1]
theorem gF {ns:List aD} {root:Int} (h:bK ns root=0) (h1:bP ns 4194305 (tgt ns root) ⟨#[46]⟩ fG=none):aB ns root=([],142):=by unfold aB;rw [if_pos h,h1]
def aY (ns:List aD) (fs:Nat->ByteArray) (z:Int):Option Value:=if 0<=cL ns z/\¬fs (tgt ns z)=⟨#[]⟩ then some (.agg #[.string (fs (tgt ns z))]) else none
theorem qX {ns:List aD}:mf (aY ns fG.fst)=λ_=>none:=by
 rw [←oW]
 congr 1
 funext z
 exact if_neg (λe=>e.2 rfl)
theorem qi {ns:List aD} {k:Nat} (hr:d6 ns) (hk:k<ns.length):cL ns (nd ns k).id=(k:Int)/\tgt ns (nd ns k).id=k:=by
 have h:=p5 hr hk (rfl:(nd ns k).id=(nd ns k).id)
 refine⟨h,?_⟩
 unfold tgt
 rw [h]
 rfl
theorem uT {ns:List aD} {fs:Nat->ByteArray} {k:Nat} (hr:d6 ns) (hk:k<ns.length) (h:¬fs k=⟨#[]⟩):mf (aY ns fs) (.int .i64 (nd ns k).id)=some (.agg #[.string (fs k)]):=by
 obtain⟨h1,h2⟩:=qi hr hk
 show aY ns fs (nd ns k).id=_
 unfold aY
 rw [if_pos ⟨by omega,by rw [h2];exact h⟩,h2]
theorem nP {ns:List aD} {fs:Nat->ByteArray} {k:Nat} (hr:d6 ns) (hk:k<ns.length) (h:fs k=⟨#[]⟩):mf (aY ns fs) (.int .i64 (nd ns k).id)=none:=by
 obtain⟨h1,h2⟩:=qi hr hk
 show aY ns fs (nd ns k).id=_
 unfold aY
 rw [if_neg (λe=>e.2 (by rw [h2];exact h))]
theorem sX {ns:List aD} {s:TS} {k:Nat} {p:ByteArray} (hr:d6 ns) (hk:k<ns.length) (h:s.fst k=⟨#[]⟩) (hp:1<=p.size) :
 mI (mf (aY ns s.fst)) (.int .i64 (nd ns k).id) (some (.agg #[.string p]))=mf (aY ns (push ns k p s).fst):=by
 obtain⟨h1,h2⟩:=qi hr hk
 rw [qO]
 congr 1
 funext z
 have e:(push ns k p s).fst=λj=>if j=k then p else s.fst j:=by unfold push;rw [if_pos h]
 have ek:(push ns k p s).fst k=p:=by rw [e];exact if_pos rfl
 have ej:∀j,¬j=k->(push ns k p s).fst j=s.fst j:=λj hj=>by rw [e];exact if_neg hj
 unfold aY
 by_cases e1:z=(nd ns k).id
 ·subst e1
  rw [if_pos rfl,h2,ek,if_pos ⟨by omega,λe=>by rw [e] at hp;exact absurd hp (by decide)⟩]
 rw [if_neg e1]
 by_cases e2:0<=cL ns z
 ·have e3:¬tgt ns z=k:=λe3=>e1 (by rw [←(cH e2).2.1,e3])
  rw [ej _ e3]
 rw [if_neg (λe=>e2 e.1),if_neg (λe=>e2 e.1)]
theorem oI {ns:List aD} {s:TS} {k:Nat} {p:ByteArray} (hr:d6 ns) (hk:k<ns.length) (h:s.fst k=⟨#[]⟩):(if ((mf (aY ns s.fst)) (.int .i64 (nd ns k).id)).isSome then s.cnt else s.cnt+1)=(push ns k p s).cnt:=by
 rw [nP hr hk h]
 unfold push
 rw [if_pos h]
 rfl
theorem iX {ns:List aD} {s:TS} {k:Nat} {p:ByteArray} (h:¬s.fst k=⟨#[]⟩):(push ns k p s).fst=s.fst/\(push ns k p s).cnt=s.cnt:=by
 unfold push;rw [if_neg h];exact⟨rfl,rfl⟩
theorem iy (n:aD) (p:ByteArray) {x:ByteArray} (h:x=⟨#[]⟩):ef n p x=⟨p,n.kind,n.mode,n.uid,n.gid,n.sec,n.nano,n.data,n.target,⟨#[]⟩⟩:=if_pos h
theorem iY (n:aD) (p:ByteArray) {x:ByteArray} (h:¬x=⟨#[]⟩):ef n p x=⟨p,n.kind,n.mode,n.uid,n.gid,n.sec,n.nano,[],⟨#[]⟩,x⟩:=if_neg h
theorem dx {es:List bV} {j:Nat} {g:bV->TS->Option TS} {s:TS} (hj:j<es.length):bR g (es.drop j) s=(g (en es j) s).bind (bR g (es.drop (j+1))):=by
 rw [List.drop_eq_getElem_cons hj,bR]
 have:en es j=es[j]:=by
  unfold en
  rw [List.getD_eq_getElem?_getD,List.getElem?_eq_getElem hj]
  rfl
 rw [this]
theorem jg {es:List bV} {j:Nat} {g:bV->TS->Option TS} {s:TS} (hj:es.length<=j):bR g (es.drop j) s=some s:=by
 rw [List.drop_eq_nil_of_le hj];rfl
end
section
open Go.RowKit
attribute [local irreducible] af aN ai ah
theorem vS {β:Bs} (c:Nat):cO Try.prog β 50 #[.slice none 0 c] [] (λβ' v l=>∃B cap,v=.slice B 0 cap/\l=[]/\bp β' B []):=by
 refine cO.enter Try.func50 rfl Try.ntmps50 (Nat.le_of_ble_eq_true rfl) (λhle0 R=>?_)
 refine ai.seq (ai.region (af.aq (k':=1) (fr':=[(0,.slice none (0) (c))]) (ak:=[]) [o_] [0] (λ_ _=>by kernel_rfl) trivial ?_))
 refine af.nil (by kernel_rfl) (ah.next (ai.seq (ai.seq (ai.region ?_))))
 refine af.aq (k':=2) (fr':=[(0,.slice none (0) (c)),(4,.bool true)]) (ak:=[]) [o_,o_] [0,4] (λ_ _=>by kernel_rfl) trivial ?_
 refine af.nil (by kernel_rfl) (ah.next ?_)
 refine ai.bL (λ_=>by kernel_rfl) ?_
 refine ai.seq (ai.region (af.aq (k':=1) (fr':=[(2,.slice none (0) (0))]) (ak:=[]) [o_] [2] (λ_ _=>by kernel_rfl) trivial ?_))
 refine af.nil (by kernel_rfl) (ah.next (ai.ret (ah.ay ?_)))
 exact ah.eW (v:=.slice none (0) (0)) (l:=[]) (ak:=[]) [] [0] hle0 (λ_=>by kernel_rfl) trivial rfl (by kernel_rfl) (⟨none,0,rfl,rfl,cK.nil⟩)
theorem uU {β:Bs} (a:Addr) (c:Nat) (d:List UInt8) (hA:bp β (some a) d) (hl:d.length<=1048576):cO Try.prog β 50 #[.slice (some a) d.length c] [] (λβ' v l=>∃B cap,v=.slice B d.length cap/\l=[]/\bp β' B d):=by
 refine cO.enter Try.func50 rfl Try.ntmps50 (Nat.le_of_ble_eq_true rfl) (λhle0 R=>?_)
 refine ai.seq (ai.region (af.aq (k':=1) (fr':=[(0,.slice (some a) (d.length) (c))]) (ak:=[]) [o_] [0] (λ_ _=>by kernel_rfl) trivial ?_))
 refine af.nil (by kernel_rfl) (ah.next (ai.seq (ai.seq (ai.region ?_))))
 refine af.aq (k':=2) (fr':=[(0,.slice (some a) (d.length) (c)),(4,.bool false)]) (ak:=[]) [o_,o_] [0,4] (λ_ _=>by kernel_rfl) trivial ?_
 refine af.nil (by kernel_rfl) (ah.next ?_)
 refine ai.cU (λ_=>by kernel_rfl) ?_
 refine ai.skip (ah.next (ai.seq (ai.region ?_)))
 refine af.bD (k':=1) (fr':=λb1=>[(0,.slice (some a) (d.length) (c)),(5,.slice (some ⟨b1,0,none⟩) (0) (0))]) (aL:=λb1=>[.abs R,.blk b1 [] 5]) (ak:=λb1=>[]) [o_] [0,5] [0,1] (λ_ _=>by kernel_rfl) (λb1=>trivial) (λb1=>?_)
 refine af.mem (λw hS=>hS.gT (i:=1) (b:=b1) (cs:=[]) (e:=5) 1 0 (by kernel_rfl) rfl (by decide)) ?_
 refine af.aq (k':=2) (fr':=[(5,.slice (some ⟨b1,0,none⟩) (0) (0)),(6,.slice (some a) (d.length) (c))]) (ak:=[]) [o_] [5,6] (λ_ _=>by kernel_rfl) trivial ?_
 refine af.append 1 (d:=(some 7)) (t:=29) (e:=5) (z:=.int .u8 0) (size:=1) (bytes:=1) (n:=0) (cap:=0) (A:=some ⟨b1,0,none⟩) (xs:=[]) (s:=(.tmp 5)) (x:=(.tmp 6)) (ats:=#[29,29]) (A':=(some a)) (m:=d.length) (c':=c) (news:=(bX d)) (λ_=>by kernel_rfl) rfl (by kernel_rfl) (λ_=>by kernel_rfl) (λ_=>by kernel_rfl) Try.underlying29 (by kernel_rfl) rfl (by decide) (by rw [iF,Nat.mul_one]) (gu d) (hA.src) (by unfold maxLen;omega) (by omega) (λA2 c3=>?_)
 refine af.aZ 1 (p:=.abs (av 5 1 A2 (0+d.length) c3 ([]++(bX d)))) (p':=.abs (av 5 1 A2 d.length c3 (bX d))) (by kernel_rfl) (by rw [Nat.zero_add,List.nil_append]) ?_
 refine af.slot 7 (.slice A2 (0+d.length) (c3)) (.slice A2 (d.length) (c3)) (λ_=>by kernel_rfl) (by rw [Nat.zero_add]) ?_
 refine af.gy (Φ:=λβ'=>bp β' A2 d) 1 [0] (aL:=[.abs R]) rfl rfl (by kernel_rfl) (λF w h β' h1 h2=>cK.gh h h1 h2) (λβ1 fw hB=>?_)
 replace hA:=hA.le fw
 replace hle0:=hle0.trans fw
 refine af.aq (k':=4) (fr':=[(2,.slice A2 (d.length) (c3))]) (ak:=[]) [o_] [2] (λ_ _=>by kernel_rfl) trivial ?_
 refine af.nil (by kernel_rfl) (ah.next (ai.ret ?_))
 exact ah.eW (v:=.slice A2 (d.length) (c3)) (l:=[]) (ak:=[]) [] [0] hle0 (λ_=>by kernel_rfl) trivial rfl (by kernel_rfl) (⟨A2,c3,rfl,rfl,hB⟩)
theorem zS {β:Bs} (A:Option Addr) (c:Nat) (d:List UInt8) (hA:bp β A d) (hl:d.length<=1048576):cO Try.prog β 50 #[.slice A d.length c] [] (λβ' v l=>∃B cap,v=.slice B d.length cap/\l=[]/\bp β' B d):=by
 cases A with
 |some a=>exact uU a c d hA hl
 |none=>
   cases d with
   |nil=>exact vS c
   |cons b r=>have h:=bp.hd hA (j:=0) (by simp);cases h
theorem vT {β:Bs} (l m:aR) (dA dB:Option Addr) (dC dD:Nat) (hD:bp β dA l.data) (yx:bp β dB m.data) (hl1:l.data.length<=1048576) :
 Spec Try.prog β 49 #[.agg #[.string l.path,.int .i64 (l.kind),.int .i64 (l.mode),.int .i64 (l.uid),.int .i64 (l.gid),.int .i64 (l.sec),.int .i64 (l.nano),.slice dA (l.data.length) (dC),.string l.target,.string l.peer],.agg #[.string m.path,.int .i64 (m.kind),.int .i64 (m.mode),.int .i64 (m.uid),.int .i64 (m.gid),.int .i64 (m.sec),.int .i64 (m.nano),.slice dB (m.data.length) (dD),.string m.target,.string m.peer]] [] (λv k=>v=.bool (decide (l=m))/\k=[]):=by
 refine Spec.enter Try.func49 rfl Try.ntmps49 (Nat.le_of_ble_eq_true rfl) (λR=>?_)
 refine ai.seq (ai.region (af.bD (k':=1) (fr':=λb4=>[(1,.agg #[.string m.path,.int .i64 (m.kind),.int .i64 (m.mode),.int .i64 (m.uid),.int .i64 (m.gid),.int .i64 (m.sec),.int .i64 (m.nano),.slice dB (m.data.length) (dD),.string m.target,.string m.peer]),(2,.pointer (some ⟨b4,0,none⟩))]) (aL:=λb4=>[.abs R,.blk b4 [.string l.path,.int .i64 (l.kind),.int .i64 (l.mode),.int .i64 (l.uid),.int .i64 (l.gid),.int .i64 (l.sec),.int .i64 (l.nano),.slice dA (l.data.length) (dC),.string l.target,.string l.peer] 51]) (ak:=λb4=>[]) [o_] [1,2] [0,1] (λ_ _=>by kernel_rfl) (λb4=>trivial) (λb4=>?_)))
 refine af.bD (k':=3) (fr':=λb5=>[(2,.pointer (some ⟨b4,0,none⟩)),(3,.pointer (some ⟨b5,0,none⟩))]) (aL:=λb5=>[.abs R,.blk b4 [.string l.path,.int .i64 (l.kind),.int .i64 (l.mode),.int .i64 (l.uid),.int .i64 (l.gid),.int .i64 (l.sec),.int .i64 (l.nano),.slice dA (l.data.length) (dC),.string l.target,.string l.peer] 51,.blk b5 [.string m.path,.int .i64 (m.kind),.int .i64 (m.mode),.int .i64 (m.uid),.int .i64 (m.gid),.int .i64 (m.sec),.int .i64 (m.nano),.slice dB (m.data.length) (dD),.string m.target,.string m.peer] 51]) (ak:=λb5=>[]) [o_,o_] [2,3] [0,1,2] (λ_ _=>by kernel_rfl) (λb5=>trivial) (λb5=>?_)
 refine af.nil (by kernel_rfl) (ah.next (ai.seq (ai.region ?_)))
 refine af.aq (k':=6) (fr':=[(2,.pointer (some ⟨b4,0,none⟩)),(3,.pointer (some ⟨b5,0,none⟩)),(10,.bool (decide ((l.path:ByteArray)=m.path)))]) (ak:=[(Value.bool ((l.path:ByteArray).toList == (m.path:ByteArray).toList))=(.bool (decide ((l.path:ByteArray)=m.path))),b5=b5,b4=b4]) [o_,⟨[.at 1],none,none,none,none⟩,o_,⟨[.at 2],none,none,none,none⟩,⟨[],none,none,none,some (.bool (decide ((l.path:ByteArray)=m.path)))⟩,o_] [2,3,10] (λ_ _=>by kernel_rfl) ⟨eH _ _,rfl,rfl,trivial⟩ ?_
 refine af.bO 10 ((l.path:ByteArray)=m.path) (λ_=>by kernel_rfl) (λh10=>?_) (λh10=>?_)
 ·refine af.aq (k':=13) (fr':=[(2,.pointer (some ⟨b4,0,none⟩)),(3,.pointer (some ⟨b5,0,none⟩)),(17,.bool (decide ((l.kind:Int)=(m.kind:Int))))]) (ak:=[b5=b5,b4=b4]) [o_,⟨[.at 1],none,none,none,none⟩,o_,⟨[.at 2],none,none,none,none⟩,o_,o_,o_] [2,3,17] (λ_ _=>by kernel_rfl) ⟨rfl,rfl,trivial⟩ ?_
  refine af.bO 17 ((l.kind:Int)=(m.kind:Int)) (λ_=>by kernel_rfl) (λmP=>?_) (λmP=>?_)
  ·refine af.aq (k':=20) (fr':=[(2,.pointer (some ⟨b4,0,none⟩)),(3,.pointer (some ⟨b5,0,none⟩)),(24,.bool (decide ((l.mode:Int)=(m.mode:Int))))]) (ak:=[b5=b5,b4=b4]) [o_,⟨[.at 1],none,none,none,none⟩,o_,⟨[.at 2],none,none,none,none⟩,o_,o_,o_] [2,3,24] (λ_ _=>by kernel_rfl) ⟨rfl,rfl,trivial⟩ ?_
   refine af.bO 24 ((l.mode:Int)=(m.mode:Int)) (λ_=>by kernel_rfl) (λlF=>?_) (λlF=>?_)
   ·refine af.aq (k':=27) (fr':=[(2,.pointer (some ⟨b4,0,none⟩)),(3,.pointer (some ⟨b5,0,none⟩)),(31,.bool (decide ((l.uid:Int)=(m.uid:Int))))]) (ak:=[b5=b5,b4=b4]) [o_,⟨[.at 1],none,none,none,none⟩,o_,⟨[.at 2],none,none,none,none⟩,o_,o_,o_] [2,3,31] (λ_ _=>by kernel_rfl) ⟨rfl,rfl,trivial⟩ ?_
    refine af.bO 31 ((l.uid:Int)=(m.uid:Int)) (λ_=>by kernel_rfl) (λjB=>?_) (λjB=>?_)
    ·refine af.aq (k':=34) (fr':=[(2,.pointer (some ⟨b4,0,none⟩)),(3,.pointer (some ⟨b5,0,none⟩)),(38,.bool (decide ((l.gid:Int)=(m.gid:Int))))]) (ak:=[b5=b5,b4=b4]) [o_,⟨[.at 1],none,none,none,none⟩,o_,⟨[.at 2],none,none,none,none⟩,o_,o_,o_] [2,3,38] (λ_ _=>by kernel_rfl) ⟨rfl,rfl,trivial⟩ ?_
     refine af.bO 38 ((l.gid:Int)=(m.gid:Int)) (λ_=>by kernel_rfl) (λuH=>?_) (λuH=>?_)
     ·refine af.aq (k':=38) (fr':=[(2,.pointer (some ⟨b4,0,none⟩)),(3,.pointer (some ⟨b5,0,none⟩)),(38,.bool true),(40,.agg #[.int .i64 (l.sec),.int .i64 (l.nano)]),(42,.agg #[.int .i64 (m.sec),.int .i64 (m.nano)])]) (ak:=[b5=b5,b5=b5,b4=b4,b4=b4]) [o_,⟨[.at 1,.at 1],none,none,none,none⟩,o_,⟨[.at 2,.at 2],none,none,none,none⟩] [2,3,38,40,42] (λ_ _=>by kernel_rfl) ⟨rfl,rfl,rfl,rfl,trivial⟩ ?_
      refine af.gK (d:=(some 43)) (op:=.binOp .eql 28 (.tmp 40) (.tmp 42) 28) (v:=.bool (decide ((l.sec:Int)=(m.sec:Int)/\(l.nano:Int)=(m.nano:Int)))) (λ_=>by kernel_rfl) (λo junk w ho hS=>⟨w,qW ho (by kernel_rfl) (by kernel_rfl),hS⟩) ?_
      refine af.aq (k':=41) (fr':=[(2,.pointer (some ⟨b4,0,none⟩)),(3,.pointer (some ⟨b5,0,none⟩)),(45,.bool (decide ((l.sec:Int)=(m.sec:Int)/\(l.nano:Int)=(m.nano:Int))))]) (ak:=[]) [o_,o_] [2,3,45] (λ_ _=>by kernel_rfl) trivial ?_
      refine af.bO 45 ((l.sec:Int)=(m.sec:Int)/\(l.nano:Int)=(m.nano:Int)) (λ_=>by kernel_rfl) (λsU=>?_) (λsU=>?_)
      ·refine af.aq (k':=48) (fr':=[(2,.pointer (some ⟨b4,0,none⟩)),(3,.pointer (some ⟨b5,0,none⟩)),(52,.bool (decide ((l.target:ByteArray)=m.target)))]) (ak:=[(Value.bool ((l.target:ByteArray).toList == (m.target:ByteArray).toList))=(.bool (decide ((l.target:ByteArray)=m.target))),b5=b5,b4=b4]) [o_,⟨[.at 1],none,none,none,none⟩,o_,⟨[.at 2],none,none,none,none⟩,⟨[],none,none,none,some (.bool (decide ((l.target:ByteArray)=m.target)))⟩,o_,o_] [2,3,52] (λ_ _=>by kernel_rfl) ⟨eH _ _,rfl,rfl,trivial⟩ ?_
       refine af.bO 52 ((l.target:ByteArray)=m.target) (λ_=>by kernel_rfl) (λqU=>?_) (λqU=>?_)
       ·refine af.aq (k':=55) (fr':=[(2,.pointer (some ⟨b4,0,none⟩)),(3,.pointer (some ⟨b5,0,none⟩)),(59,.bool (decide ((l.peer:ByteArray)=m.peer)))]) (ak:=[(Value.bool ((l.peer:ByteArray).toList == (m.peer:ByteArray).toList))=(.bool (decide ((l.peer:ByteArray)=m.peer))),b5=b5,b4=b4]) [o_,⟨[.at 1],none,none,none,none⟩,o_,⟨[.at 2],none,none,none,none⟩,⟨[],none,none,none,some (.bool (decide ((l.peer:ByteArray)=m.peer)))⟩,o_,o_] [2,3,59] (λ_ _=>by kernel_rfl) ⟨eH _ _,rfl,rfl,trivial⟩ ?_
        refine af.bO 59 ((l.peer:ByteArray)=m.peer) (λ_=>by kernel_rfl) (λmR=>?_) (λmR=>?_)
        ·refine af.aq (k':=59) (fr':=[(59,.bool true),(61,.slice dA (l.data.length) (dC)),(63,.slice dB (m.data.length) (dD))]) (ak:=[b5=b5,b4=b4]) [o_,⟨[.at 1],none,none,none,none⟩,o_,⟨[.at 2],none,none,none,none⟩] [59,61,63] (λ_ _=>by kernel_rfl) ⟨rfl,rfl,trivial⟩ ?_
         refine af.call (f:=62) (args:=#[.slice dA (l.data.length) (dC),.slice dB (m.data.length) (dD)]) (d:=(some 64)) (pre:=[]) (R:=[.abs R,.blk b4 [.string l.path,.int .i64 (l.kind),.int .i64 (l.mode),.int .i64 (l.uid),.int .i64 (l.gid),.int .i64 (l.sec),.int .i64 (l.nano),.slice dA (l.data.length) (dC),.string l.target,.string l.peer] 51,.blk b5 [.string m.path,.int .i64 (m.kind),.int .i64 (m.mode),.int .i64 (m.uid),.int .i64 (m.gid),.int .i64 (m.sec),.int .i64 (m.nano),.slice dB (m.data.length) (dD),.string m.target,.string m.peer] 51]) (pk:=[0,1,2]) (λ_=>by kernel_rfl) (oy dA dB dC dD l.data m.data hD yx hl1) rfl (by kernel_rfl) ?_
         rintro _ _ ⟨rfl,rfl⟩
         refine af.aq (k':=62) (fr':=[(4,.bool (decide (l.data=m.data)))]) (ak:=[]) [o_,o_] [4] (λ_ _=>by kernel_rfl) trivial ?_
         refine af.nil (by kernel_rfl) (ah.next (ai.ret ?_))
         exact ah.ret (v:=.bool (decide (l.data=m.data))) (l:=[]) (ak:=[]) [] [0] (λ_=>by kernel_rfl) trivial rfl (by kernel_rfl) (⟨congrArg Value.bool (decide_eq_decide.2 ⟨λe=>lineEq (by assumption) (by assumption) (by assumption) (by assumption) (by assumption) (by assumption) (by assumption) (by assumption) e,λe=>by cases e;rfl⟩),rfl⟩)
        refine af.aq (k':=62) (fr':=[(4,.bool false)]) (ak:=[]) [o_,o_,o_,o_,o_,o_,o_] [4] (λ_ _=>by kernel_rfl) trivial ?_
        refine af.nil (by kernel_rfl) (ah.next (ai.ret ?_))
        exact ah.ret (v:=.bool false) (l:=[]) (ak:=[]) [] [0] (λ_=>by kernel_rfl) trivial rfl (by kernel_rfl) (⟨by rw [decide_eq_false (λe=>mR (by cases e;first|rfl|exact⟨rfl,rfl⟩))],rfl⟩)
       refine af.aq (k':=62) (fr':=[(4,.bool false)]) (ak:=[]) [o_,o_,o_,o_,o_,o_,o_,o_,o_,o_,o_,o_,o_,o_] [4] (λ_ _=>by kernel_rfl) trivial ?_
       refine af.nil (by kernel_rfl) (ah.next (ai.ret ?_))
       exact ah.ret (v:=.bool false) (l:=[]) (ak:=[]) [] [0] (λ_=>by kernel_rfl) trivial rfl (by kernel_rfl) (⟨by rw [decide_eq_false (λe=>qU (by cases e;first|rfl|exact⟨rfl,rfl⟩))],rfl⟩)
      refine af.aq (k':=62) (fr':=[(4,.bool false)]) (ak:=[]) [o_,o_,o_,o_,o_,o_,o_,o_,o_,o_,o_,o_,o_,o_,o_,o_,o_,o_,o_,o_,o_] [4] (λ_ _=>by kernel_rfl) trivial ?_
      refine af.nil (by kernel_rfl) (ah.next (ai.ret ?_))
      exact ah.ret (v:=.bool false) (l:=[]) (ak:=[]) [] [0] (λ_=>by kernel_rfl) trivial rfl (by kernel_rfl) (⟨by rw [decide_eq_false (λe=>sU (by cases e;first|rfl|exact⟨rfl,rfl⟩))],rfl⟩)
     refine af.aq (k':=62) (fr':=[(4,.bool false)]) (ak:=[]) [o_,o_,o_,o_,o_,o_,o_,o_,o_,o_,o_,o_,o_,o_,o_,o_,o_,o_,o_,o_,o_,o_,o_,o_,o_,o_,o_,o_] [4] (λ_ _=>by kernel_rfl) trivial ?_
     refine af.nil (by kernel_rfl) (ah.next (ai.ret ?_))
     exact ah.ret (v:=.bool false) (l:=[]) (ak:=[]) [] [0] (λ_=>by kernel_rfl) trivial rfl (by kernel_rfl) (⟨by rw [decide_eq_false (λe=>uH (by cases e;first|rfl|exact⟨rfl,rfl⟩))],rfl⟩)
    refine af.aq (k':=62) (fr':=[(4,.bool false)]) (ak:=[]) [o_,o_,o_,o_,o_,o_,o_,o_,o_,o_,o_,o_,o_,o_,o_,o_,o_,o_,o_,o_,o_,o_,o_,o_,o_,o_,o_,o_,o_,o_,o_,o_,o_,o_,o_] [4] (λ_ _=>by kernel_rfl) trivial ?_
    refine af.nil (by kernel_rfl) (ah.next (ai.ret ?_))
    exact ah.ret (v:=.bool false) (l:=[]) (ak:=[]) [] [0] (λ_=>by kernel_rfl) trivial rfl (by kernel_rfl) (⟨by rw [decide_eq_false (λe=>jB (by cases e;first|rfl|exact⟨rfl,rfl⟩))],rfl⟩)
   refine af.aq (k':=62) (fr':=[(4,.bool false)]) (ak:=[]) [o_,o_,o_,o_,o_,o_,o_,o_,o_,o_,o_,o_,o_,o_,o_,o_,o_,o_,o_,o_,o_,o_,o_,o_,o_,o_,o_,o_,o_,o_,o_,o_,o_,o_,o_,o_,o_,o_,o_,o_,o_,o_] [4] (λ_ _=>by kernel_rfl) trivial ?_
   refine af.nil (by kernel_rfl) (ah.next (ai.ret ?_))
   exact ah.ret (v:=.bool false) (l:=[]) (ak:=[]) [] [0] (λ_=>by kernel_rfl) trivial rfl (by kernel_rfl) (⟨by rw [decide_eq_false (λe=>lF (by cases e;first|rfl|exact⟨rfl,rfl⟩))],rfl⟩)
  refine af.aq (k':=62) (fr':=[(4,.bool false)]) (ak:=[]) [o_,o_,o_,o_,o_,o_,o_,o_,o_,o_,o_,o_,o_,o_,o_,o_,o_,o_,o_,o_,o_,o_,o_,o_,o_,o_,o_,o_,o_,o_,o_,o_,o_,o_,o_,o_,o_,o_,o_,o_,o_,o_,o_,o_,o_,o_,o_,o_,o_] [4] (λ_ _=>by kernel_rfl) trivial ?_
  refine af.nil (by kernel_rfl) (ah.next (ai.ret ?_))
  exact ah.ret (v:=.bool false) (l:=[]) (ak:=[]) [] [0] (λ_=>by kernel_rfl) trivial rfl (by kernel_rfl) (⟨by rw [decide_eq_false (λe=>mP (by cases e;first|rfl|exact⟨rfl,rfl⟩))],rfl⟩)
 refine af.aq (k':=62) (fr':=[(4,.bool false)]) (ak:=[]) [o_,o_,o_,o_,o_,o_,o_,o_,o_,o_,o_,o_,o_,o_,o_,o_,o_,o_,o_,o_,o_,o_,o_,o_,o_,o_,o_,o_,o_,o_,o_,o_,o_,o_,o_,o_,o_,o_,o_,o_,o_,o_,o_,o_,o_,o_,o_,o_,o_,o_,o_,o_,o_,o_,o_,o_] [4] (λ_ _=>by kernel_rfl) trivial ?_
 refine af.nil (by kernel_rfl) (ah.next (ai.ret ?_))
 exact ah.ret (v:=.bool false) (l:=[]) (ak:=[]) [] [0] (λ_=>by kernel_rfl) trivial rfl (by kernel_rfl) (⟨by rw [decide_eq_false (λe=>h10 (by cases e;first|rfl|exact⟨rfl,rfl⟩))],rfl⟩)
theorem kT {β:Bs} (A B:Option Addr) (c c':Nat) (ls ms:List aR) (M K:cQ) (hG:aM β A ls M) (hH:aM β B ms K) (hl:ls.length<=16777216) (hd:∀i,i<ls.length->(ln ls i).data.length<=1048576) :
 Spec Try.prog β 28 #[.slice A ls.length c,.slice B ms.length c'] [] (λv l=>v=.bool (decide (ls=ms))/\l=[]):=by
 refine Spec.enter Try.func28 rfl Try.ntmps28 (Nat.le_of_ble_eq_true rfl) (λR=>?_)
 refine ai.seq (ai.region (af.aq (k':=1) (fr':=[(0,.slice A (ls.length) (c)),(1,.slice B (ms.length) (c'))]) (ak:=[]) [o_] [0,1] (λ_ _=>by kernel_rfl) trivial ?_))
 refine af.nil (by kernel_rfl) (ah.next (ai.seq (ai.seq (ai.region ?_))))
 refine af.aq (k':=5) (fr':=[(0,.slice A (ls.length) (c)),(1,.slice B (ms.length) (c')),(10,.bool (!(decide ((((ls.length:Nat):Int):Int)=(((ms.length:Nat):Int):Int)))))]) (ak:=[]) [o_,o_,o_,o_,o_] [0,1,10] (λ_ _=>by kernel_rfl) trivial ?_
 refine af.nil (by kernel_rfl) (ah.next ?_)
 refine ai.cY (p:=(((ls.length:Nat):Int):Int)=(((ms.length:Nat):Int):Int)) (λ_=>by kernel_rfl) (λh10=>?_) (λh10=>?_)
 ·refine ai.seq (ai.region (af.aq (k':=1) (fr':=[(4,.bool false)]) (ak:=[]) [o_] [4] (λ_ _=>by kernel_rfl) trivial ?_))
  refine af.nil (by kernel_rfl) (ah.next (ai.ret (ah.ay ?_)))
  exact ah.ret (v:=.bool false) (l:=[]) (ak:=[]) [] [0] (λ_=>by kernel_rfl) trivial rfl (by kernel_rfl) (⟨by rw [decide_eq_false (λe=>h10 (by rw [e]))],rfl⟩)
 refine ai.skip (ah.next (ai.seq (ai.seq (ai.region ?_))))
 refine af.aq (k':=1) (fr':=[(0,.slice A (ls.length) (c)),(1,.slice B (ms.length) (c')),(5,.int .i64 0)]) (ak:=[]) [o_] [0,1,5] (λ_ _=>by kernel_rfl) trivial ?_
 refine af.nil (by kernel_rfl) (ah.next (ai.block ?_))
 refine ai.loop (ι:=Nat) (λ(i:Nat)=>(i<=ls.length)/\(∀j,j<i->ls.getD j default=ms.getD j default)) (λ(i:Nat)=>ls.length-i) (λ(i:Nat)=>[(0,.slice A (ls.length) (c)),(1,.slice B (ms.length) (c')),(5,.int .i64 ↑i)]) (λ(i:Nat)=>[.abs R]) 0 (idx:=[0,1,5]) (pk:=[0]) (show (0<=ls.length)/\(∀j,j<0->ls.getD j default=ms.getD j default) from ⟨Nat.zero_le _,λj hj=>absurd hj (Nat.not_lt_zero j)⟩) (λ_=>by kernel_rfl) rfl (by kernel_rfl) ?_
 rintro i ⟨hi,hall⟩
 show ai _ _ _ _ [(0,.slice A (ls.length) (c)),(1,.slice B (ms.length) (c')),(5,.int .i64 ↑i)] [.abs R] _
 refine ai.seq (ai.seq (ai.region (af.aq (k':=4) (fr':=[(0,.slice A (ls.length) (c)),(1,.slice B (ms.length) (c')),(5,.int .i64 ↑i),(14,.bool (decide ((((i:Nat):Int):Int)<(((ls.length:Nat):Int):Int))))]) (ak:=[]) [o_,o_,o_,o_] [0,1,5,14] (λ_ _=>by kernel_rfl) trivial ?_)))
 refine af.nil (by kernel_rfl) (ah.next ?_)
 refine ai.aV (p:=(((i:Nat):Int):Int)<(((ls.length:Nat):Int):Int)) (λ_=>by kernel_rfl) (λkr=>?_) (λkr=>?_)
 ·refine ai.skip (ah.next (ai.seq (ai.block (ai.seq ?_))))
  refine ai.ga (by kernel_rfl) (by kernel_rfl) ?_
  refine aN.seg (k':=8) (fr':=[(0,.slice A (ls.length) (c)),(1,.slice B (ms.length) (c')),(5,.int .i64 ↑i),(20,.agg #[.string (ln ls i).path,.int .i64 ((ln ls i).kind),.int .i64 ((ln ls i).mode),.int .i64 ((ln ls i).uid),.int .i64 ((ln ls i).gid),.int .i64 ((ln ls i).sec),.int .i64 ((ln ls i).nano),.slice (M.dA i) ((ln ls i).data.length) ((M.dC i)),.string (ln ls i).target,.string (ln ls i).peer]),(24,.agg #[.string (ln ms i).path,.int .i64 ((ln ms i).kind),.int .i64 ((ln ms i).mode),.int .i64 ((ln ms i).uid),.int .i64 ((ln ms i).gid),.int .i64 ((ln ms i).sec),.int .i64 ((ln ms i).nano),.slice (K.dA i) ((ln ms i).data.length) ((K.dC i)),.string (ln ms i).target,.string (ln ms i).peer])]) (ak:=[(Rd β ⟨(au B),ar B+i*10+9,none⟩ (.string (ln ms i).peer)),(Rd β ⟨(au B),ar B+i*10+8,none⟩ (.string (ln ms i).target)),(Rd β ⟨(au B),ar B+i*10+7,none⟩ (.slice (K.dA i) ((ln ms i).data.length) ((K.dC i)))),(Rd β ⟨(au B),ar B+i*10+6,none⟩ (.int .i64 ((ln ms i).nano))),(Rd β ⟨(au B),ar B+i*10+5,none⟩ (.int .i64 ((ln ms i).sec))),(Rd β ⟨(au B),ar B+i*10+4,none⟩ (.int .i64 ((ln ms i).gid))),(Rd β ⟨(au B),ar B+i*10+3,none⟩ (.int .i64 ((ln ms i).uid))),(Rd β ⟨(au B),ar B+i*10+2,none⟩ (.int .i64 ((ln ms i).mode))),(Rd β ⟨(au B),ar B+i*10+1,none⟩ (.int .i64 ((ln ms i).kind))),(Rd β ⟨(au B),ar B+i*10,none⟩ (.string (ln ms i).path)),((i:Nat):Int)=((i:Nat):Int),i<ms.length,(⟨(au B),ar B,none⟩:Addr).spot=none,(B:Option Addr)=some ⟨(au B),ar B,none⟩,(Rd β ⟨(au A),ar A+i*10+9,none⟩ (.string (ln ls i).peer)),(Rd β ⟨(au A),ar A+i*10+8,none⟩ (.string (ln ls i).target)),(Rd β ⟨(au A),ar A+i*10+7,none⟩ (.slice (M.dA i) ((ln ls i).data.length) ((M.dC i)))),(Rd β ⟨(au A),ar A+i*10+6,none⟩ (.int .i64 ((ln ls i).nano))),(Rd β ⟨(au A),ar A+i*10+5,none⟩ (.int .i64 ((ln ls i).sec))),(Rd β ⟨(au A),ar A+i*10+4,none⟩ (.int .i64 ((ln ls i).gid))),(Rd β ⟨(au A),ar A+i*10+3,none⟩ (.int .i64 ((ln ls i).uid))),(Rd β ⟨(au A),ar A+i*10+2,none⟩ (.int .i64 ((ln ls i).mode))),(Rd β ⟨(au A),ar A+i*10+1,none⟩ (.int .i64 ((ln ls i).kind))),(Rd β ⟨(au A),ar A+i*10,none⟩ (.string (ln ls i).path)),((i:Nat):Int)=((i:Nat):Int),i<ls.length,(⟨(au A),ar A,none⟩:Addr).spot=none,(A:Option Addr)=some ⟨(au A),ar A,none⟩]) [o_,o_,⟨[],some i,none,some ⟨(au A),ar A,none⟩,none⟩,⟨[.old (.string (ln ls i).path),.old (.int .i64 ((ln ls i).kind)),.old (.int .i64 ((ln ls i).mode)),.old (.int .i64 ((ln ls i).uid)),.old (.int .i64 ((ln ls i).gid)),.old (.int .i64 ((ln ls i).sec)),.old (.int .i64 ((ln ls i).nano)),.old (.slice (M.dA i) ((ln ls i).data.length) ((M.dC i))),.old (.string (ln ls i).target),.old (.string (ln ls i).peer)],none,none,none,none⟩,o_,o_,⟨[],some i,none,some ⟨(au B),ar B,none⟩,none⟩,⟨[.old (.string (ln ms i).path),.old (.int .i64 ((ln ms i).kind)),.old (.int .i64 ((ln ms i).mode)),.old (.int .i64 ((ln ms i).uid)),.old (.int .i64 ((ln ms i).gid)),.old (.int .i64 ((ln ms i).sec)),.old (.int .i64 ((ln ms i).nano)),.old (.slice (K.dA i) ((ln ms i).data.length) ((K.dC i))),.old (.string (ln ms i).target),.old (.string (ln ms i).peer)],none,none,none,none⟩] [0,1,5,20,24] (λ_ _=>by kernel_rfl) ⟨aM.rd hH (i:=i) (by omega) (j:=9) rfl,aM.rd hH (i:=i) (by omega) (j:=8) rfl,aM.rd hH (i:=i) (by omega) (j:=7) rfl,aM.rd hH (i:=i) (by omega) (j:=6) rfl,aM.rd hH (i:=i) (by omega) (j:=5) rfl,aM.rd hH (i:=i) (by omega) (j:=4) rfl,aM.rd hH (i:=i) (by omega) (j:=3) rfl,aM.rd hH (i:=i) (by omega) (j:=2) rfl,aM.rd hH (i:=i) (by omega) (j:=1) rfl,aM.rd hH (i:=i) (by omega) (j:=0) rfl,rfl,by omega,rfl,aM.hd hH (i:=i) (by omega),aM.rd hG (i:=i) (by omega) (j:=9) rfl,aM.rd hG (i:=i) (by omega) (j:=8) rfl,aM.rd hG (i:=i) (by omega) (j:=7) rfl,aM.rd hG (i:=i) (by omega) (j:=6) rfl,aM.rd hG (i:=i) (by omega) (j:=5) rfl,aM.rd hG (i:=i) (by omega) (j:=4) rfl,aM.rd hG (i:=i) (by omega) (j:=3) rfl,aM.rd hG (i:=i) (by omega) (j:=2) rfl,aM.rd hG (i:=i) (by omega) (j:=1) rfl,aM.rd hG (i:=i) (by omega) (j:=0) rfl,rfl,by omega,rfl,aM.hd hG (i:=i) (by omega),trivial⟩ ?_
  refine aN.call (f:=49) (args:=#[.agg #[.string (ln ls i).path,.int .i64 ((ln ls i).kind),.int .i64 ((ln ls i).mode),.int .i64 ((ln ls i).uid),.int .i64 ((ln ls i).gid),.int .i64 ((ln ls i).sec),.int .i64 ((ln ls i).nano),.slice (M.dA i) ((ln ls i).data.length) ((M.dC i)),.string (ln ls i).target,.string (ln ls i).peer],.agg #[.string (ln ms i).path,.int .i64 ((ln ms i).kind),.int .i64 ((ln ms i).mode),.int .i64 ((ln ms i).uid),.int .i64 ((ln ms i).gid),.int .i64 ((ln ms i).sec),.int .i64 ((ln ms i).nano),.slice (K.dA i) ((ln ms i).data.length) ((K.dC i)),.string (ln ms i).target,.string (ln ms i).peer]]) (d:=(some 25)) (pre:=[]) (R:=[.abs R]) (pk:=[0]) (sE:=[0]) (v0:=.bool (decide (ln ls i=ln ms i))) (λ_=>by kernel_rfl) (vT (ln ls i) (ln ms i) (M.dA i) (K.dA i) (M.dC i) (K.dC i) (hG.data i (by omega)) (hH.data i (by omega)) (hd i (by omega))) rfl (by kernel_rfl) rfl (by kernel_rfl) (λ_ _ h=>h) ?_
  refine aN.seg (k':=10) (fr':=[(0,.slice A (ls.length) (c)),(1,.slice B (ms.length) (c')),(5,.int .i64 ↑i),(26,.bool (!(decide (ln ls i=ln ms i))))]) (ak:=[]) [o_] [0,1,5,26] (λ_ _=>by kernel_rfl) trivial ?_
  refine aN.nil (by kernel_rfl) (ah.next ?_)
  refine ai.cY (p:=ln ls i=ln ms i) (λ_=>by kernel_rfl) (λkS=>?_) (λkS=>?_)
  ·refine ai.seq (ai.region (af.aq (k':=1) (fr':=[(4,.bool false)]) (ak:=[]) [o_] [4] (λ_ _=>by kernel_rfl) trivial ?_))
   refine af.nil (by kernel_rfl) (ah.next (ai.ret (ah.aG (ah.ay (ah.ay (ah.aG (ah.ay ?_)))))))
   exact ah.ret (v:=.bool false) (l:=[]) (ak:=[]) [] [0] (λ_=>by kernel_rfl) trivial rfl (by kernel_rfl) (⟨by rw [decide_eq_false (λe=>kS (by rw [e]))],rfl⟩)
  refine ai.skip (ah.aJ (ah.next (ai.region ?_)))
  refine af.aq (k':=3) (fr':=[(0,.slice A (ls.length) (c)),(1,.slice B (ms.length) (c')),(5,.int .i64 ↑(i+1))]) (ak:=[(Value.int .i64 (IntKind.wrap .i64 (((i:Nat):Int)+1)))=(.int .i64 ↑(i+1))]) [o_,⟨[],none,none,none,some (.int .i64 ↑(i+1))⟩,o_] [0,1,5] (λ_ _=>by kernel_rfl) ⟨aP (by omega) (by omega) (by omega),trivial⟩ ?_
  refine af.nil (by kernel_rfl) ?_
  exact ah.turn ((i+1)) (idx:=[0,1,5]) (pk:=[0]) (show (((i+1))<=ls.length)/\(∀j,j<((i+1))->ls.getD j default=ms.getD j default) from ⟨by omega,λj hj=>by rcases Nat.lt_succ_iff_lt_or_eq.1 hj with h|h;exact hall j h;subst h;exact kS⟩) (by show ls.length-((i+1))<ls.length-i;omega) (λ_=>by kernel_rfl) rfl (by kernel_rfl)
 refine ai.exit (ah.aH (ah.aH (ah.bg (ah.next (ai.seq (ai.region ?_))))))
 refine af.aq (k':=1) (fr':=[(4,.bool true)]) (ak:=[]) [o_] [4] (λ_ _=>by kernel_rfl) trivial ?_
 refine af.nil (by kernel_rfl) (ah.next (ai.ret ?_))
 exact ah.ret (v:=.bool true) (l:=[]) (ak:=[]) [] [0] (λ_=>by kernel_rfl) trivial rfl (by kernel_rfl) (⟨by rw [decide_eq_true (jJ (x:=default) (by omega) (λj hj=>hall j (by omega)))],rfl⟩)
end
section
open Go.RowKit
attribute [local irreducible] af aN ai ah
def xu (f:Nat):Prop:=∀(β:Bs) (A:Option Addr) (ns:List aD) (L:Lay) (M:cQ) (s:TS) (k:Nat) (p:ByteArray) (aF mb mp:Nat) (Ao:Option Addr) (co:Nat),aA β A ns L->dM ns 1048576->bw ns->bJ β s.out M->k<ns.length->1<=p.size->p.size<=8388608->og s->4194304-s.sum<f →
 cO Try.prog β 47 #[.pointer (some ⟨aF,0,none⟩),.pointer (some ⟨(au A),ar A+k*10,none⟩),.string p] [.blk aF [.map (some mb),.slice Ao (s.out.length) (co),.map (some mp),.int .i64 (((s.sum:Nat):Int))] 84,.abs (aE Try.prog 3 mb (mf (bf A ns ns.length)) ns.length),.abs (aE Try.prog 3 mp (mf (aY ns s.fst)) s.cnt),.abs (av 51 10 Ao s.out.length co (aI M s.out))] (λβ' v l=>(∃s' yN yO M',bP ns f k p s=some s'/\v=.bool true/\bJ β' s'.out M'/\l=[.blk aF [.map (some mb),.slice yN (s'.out.length) (yO),.map (some mp),.int .i64 (((s'.sum:Nat):Int))] 84,.abs (aE Try.prog 3 mb (mf (bf A ns ns.length)) ns.length),.abs (aE Try.prog 3 mp (mf (aY ns s'.fst)) s'.cnt),.abs (av 51 10 yN s'.out.length yO (aI M' s'.out))])\/(bP ns f k p s=none/\v=.bool false/\l=[]))
theorem xw (f:Nat) (IH:xu f):xu (f+1):=by
 intro β A ns L M s k p aF mb mp Ao co hG hB hok di hk hp hpl hs hf
 have DB:=hs.out
 have hsc:=hs.cnt
 have hss:=hs.sum
 refine cO.enter Try.func47 rfl Try.ntmps47 (Nat.le_of_ble_eq_true rfl) (λhle0 R=>?_)
 refine ai.seq (ai.region (af.aq (k':=1) (fr':=[(0,.pointer (some ⟨aF,0,none⟩)),(1,.pointer (some ⟨(au A),ar A+k*10,none⟩)),(2,.string p)]) (ak:=[]) [o_] [0,1,2] (λ_ _=>by kernel_rfl) trivial ?_))
 refine af.nil (by kernel_rfl) (ah.next (ai.seq (ai.region ?_)))
 refine af.seg (k':=10) (fr':=[(0,.pointer (some ⟨aF,0,none⟩)),(1,.pointer (some ⟨(au A),ar A+k*10,none⟩)),(2,.string p)]) (aL:=[.blk aF [.map (some mb),.slice Ao (s.out.length) (co),.map (some mp),.int .i64 ↑(s.sum+((p:ByteArray).size))] 84,.abs (aE Try.prog 3 mb (mf (bf A ns ns.length)) ns.length),.abs (aE Try.prog 3 mp (mf (aY ns s.fst)) s.cnt),.abs (av 51 10 Ao s.out.length co (aI M s.out)),.abs R]) (ak:=[aF=aF,(Value.int .i64 (IntKind.wrap .i64 (((s.sum:Nat):Int)+(((p:ByteArray).size:Nat):Int))))=(.int .i64 ↑(s.sum+((p:ByteArray).size))),aF=aF]) [o_,o_,o_,⟨[.at 0],none,none,none,none⟩,o_,o_,⟨[],none,none,none,some (.int .i64 ↑(s.sum+((p:ByteArray).size)))⟩,o_,o_,⟨[.at 0],none,none,none,none⟩] [0,1,2] [0,1,2,3,4] (λ_ _=>by kernel_rfl) ⟨rfl,aP (by omega) (by omega) (by omega),rfl,trivial⟩ ?_
 refine af.nil (by kernel_rfl) (ah.next (ai.seq (ai.seq (ai.region ?_))))
 refine af.aq (k':=5) (fr':=[(0,.pointer (some ⟨aF,0,none⟩)),(1,.pointer (some ⟨(au A),ar A+k*10,none⟩)),(2,.string p),(25,.bool (decide ((((s.sum+((p:ByteArray).size):Nat):Int):Int)>(4194304:Int))))]) (ak:=[aF=aF]) [o_,o_,o_,⟨[.at 0],none,none,none,none⟩,o_] [0,1,2,25] (λ_ _=>by kernel_rfl) ⟨rfl,trivial⟩ ?_
 refine af.nil (by kernel_rfl) (ah.next ?_)
 refine ai.aV (p:=(((s.sum+((p:ByteArray).size):Nat):Int):Int)>(4194304:Int)) (λ_=>by kernel_rfl) (λoe=>?_) (λoe=>?_)
 ·refine ai.seq (ai.region (af.aq (k':=1) (fr':=[(6,.bool false)]) (ak:=[]) [o_] [6] (λ_ _=>by kernel_rfl) trivial ?_))
  refine af.nil (by kernel_rfl) (ah.next (ai.ret (ah.ay ?_)))
  exact ah.eW (v:=.bool false) (l:=[]) (ak:=[]) [] [4] hle0 (λ_=>by kernel_rfl) trivial rfl (by kernel_rfl) (.inr ⟨by rw [bP,if_pos (by omega)],rfl,rfl⟩)
 have hst:bP ns (f+1) k p s=bR (λe s'=>bP ns f (tgt ns e.id) (below s.out.length p e.name) s') (nd ns k).aj (push ns k p s):=by rw [bP,if_neg (by omega)]
 refine ai.skip (ah.next (ai.seq ?_))
 by_cases fK:s.fst k=⟨#[]⟩
 ·refine ai.dL (S:=[.blk aF [.map (some mb),.slice Ao (s.out.length) (co),.map (some mp),.int .i64 ↑(s.sum+((p:ByteArray).size))] 84,.abs (aE Try.prog 3 mb (mf (bf A ns ns.length)) ns.length),.abs (aE Try.prog 3 mp (mf (aY ns s.fst)) s.cnt)]) [0,1,2,3,4,5,6,7,8,9,10,11,12,13,14,15,16,17,18,19,20,21,22,23,24,25,26,27,28,29,30,31,32,33] 32 [0,1,2] (by kernel_rfl) (by kernel_rfl) rfl (by kernel_rfl) ?_
  refine aX.reads (r:=3) (l:=[29,30,31,32,33]) (fr':=[(0,.pointer (some ⟨aF,0,none⟩)),(1,.pointer (some ⟨(au A),ar A+k*10,none⟩)),(2,.string p),(26,.string p),(30,.int .i64 ((nd ns k).kind)),(34,.int .i64 ((nd ns k).mode)),(38,.int .i64 ((nd ns k).uid)),(42,.int .i64 ((nd ns k).gid)),(46,.agg #[.int .i64 ((nd ns k).sec),.int .i64 ((nd ns k).nano)]),(50,.map (some mp)),(54,.int .i64 ((nd ns k).id))]) (ak:=[(Rd β ⟨(au A),ar A+k*10,none⟩ (.int .i64 ((nd ns k).id))),aF=aF,(Rd β ⟨(au A),ar A+k*10+5+1,none⟩ (.int .i64 ((nd ns k).nano))),(Rd β ⟨(au A),ar A+k*10+5,none⟩ (.int .i64 ((nd ns k).sec))),(Rd β ⟨(au A),ar A+k*10+4,none⟩ (.int .i64 ((nd ns k).gid))),(Rd β ⟨(au A),ar A+k*10+3,none⟩ (.int .i64 ((nd ns k).uid))),(Rd β ⟨(au A),ar A+k*10+2,none⟩ (.int .i64 ((nd ns k).mode))),(Rd β ⟨(au A),ar A+k*10+1,none⟩ (.int .i64 ((nd ns k).kind)))]) [0,1,2,3,4,5,6,7,8,9,10,11,12,13,14,15,16,17,18,19,20,21,22,23,24,25,26,27,28] [o_,o_,o_,o_,⟨[.old (.int .i64 ((nd ns k).kind))],none,none,none,none⟩,o_,o_,o_,⟨[.old (.int .i64 ((nd ns k).mode))],none,none,none,none⟩,o_,o_,o_,⟨[.old (.int .i64 ((nd ns k).uid))],none,none,none,none⟩,o_,o_,o_,⟨[.old (.int .i64 ((nd ns k).gid))],none,none,none,none⟩,o_,o_,o_,⟨[.old (.int .i64 ((nd ns k).sec)),.old (.int .i64 ((nd ns k).nano))],none,none,none,none⟩,o_,o_,o_,⟨[.at 0],none,none,none,none⟩,o_,o_,o_,⟨[.old (.int .i64 ((nd ns k).id))],none,none,none,none⟩] [0,1,2,26,30,34,38,42,46,50,54] (λ_=>by kernel_rfl) ⟨aA.rd hG (i:=k) (by omega) (j:=0) rfl,rfl,aA.rd hG (i:=k) (by omega) (j:=6) rfl,aA.rd hG (i:=k) (by omega) (j:=5) rfl,aA.rd hG (i:=k) (by omega) (j:=4) rfl,aA.rd hG (i:=k) (by omega) (j:=3) rfl,aA.rd hG (i:=k) (by omega) (j:=2) rfl,aA.rd hG (i:=k) (by omega) (j:=1) rfl,trivial⟩ rfl rfl ?_
  refine aX.dO 2 (d:=(some 55)) (t:=82) (K:=3) (E:=115) (b:=mp) (cnt:=s.cnt) (f:=(mf (aY ns s.fst))) (x:=(.tmp 50)) (ix:=(.tmp 54)) (key:=.int .i64 ((nd ns k).id)) (z:=.agg #[.string ⟨#[]⟩]) (kl:=(.int .i64 (nd ns k).id)) (q:=none) (by kernel_rfl) (by kernel_rfl) (λ_=>by kernel_rfl) (λ_=>by kernel_rfl) fC Try.underlying82 (λ_=>by kernel_rfl) (fI (hB.node k hk).ids.1.1 (hB.node k hk).ids.1.2) (nP hok.rise hk fK) (by kernel_rfl) ?_
  refine aX.reads (r:=0) (l:=[32,33]) (fr':=[(0,.pointer (some ⟨aF,0,none⟩)),(1,.pointer (some ⟨(au A),ar A+k*10,none⟩)),(2,.string p),(57,.agg #[.string p,.int .i64 ((nd ns k).kind),.int .i64 ((nd ns k).mode),.int .i64 ((nd ns k).uid),.int .i64 ((nd ns k).gid),.int .i64 ((nd ns k).sec),.int .i64 ((nd ns k).nano),.slice none (0) (0),.string ⟨#[]⟩,.string ⟨#[]⟩])]) (ak:=[]) [30,31] [o_,o_] [0,1,2,57] (λ_=>by kernel_rfl) trivial rfl rfl ?_
  refine aX.cut (ι:=Nat) (fr':=λ(b1:Nat)=>[(0,.pointer (some ⟨aF,0,none⟩)),(1,.pointer (some ⟨(au A),ar A+k*10,none⟩)),(2,.string p),(7,.pointer (some ⟨b1,0,none⟩)),(57,.agg #[.string p,.int .i64 ((nd ns k).kind),.int .i64 ((nd ns k).mode),.int .i64 ((nd ns k).uid),.int .i64 ((nd ns k).gid),.int .i64 ((nd ns k).sec),.int .i64 ((nd ns k).nano),.slice none (0) (0),.string ⟨#[]⟩,.string ⟨#[]⟩])]) (hp':=λ(b1:Nat)=>[.blk aF [.map (some mb),.slice Ao (s.out.length) (co),.map (some mp),.int .i64 ↑(s.sum+((p:ByteArray).size))] 84,.abs (aE Try.prog 3 mb (mf (bf A ns ns.length)) ns.length),.abs (aE Try.prog 3 mp (mf (aY ns s.fst)) s.cnt),.abs (av 51 10 Ao s.out.length co (aI M s.out)),.abs R,.blk b1 [.string ⟨#[]⟩,.int .i64 0,.int .i64 0,.int .i64 0,.int .i64 0,.int .i64 0,.int .i64 0,.slice none (0) (0),.string ⟨#[]⟩,.string ⟨#[]⟩] 51]) [0,1,2] rfl rfl ?_ rfl (λ_=>by kernel_rfl) ?_
  ·refine af.bD (k':=1) (fr':=λb1=>[(0,.pointer (some ⟨aF,0,none⟩)),(1,.pointer (some ⟨(au A),ar A+k*10,none⟩)),(2,.string p),(7,.pointer (some ⟨b1,0,none⟩)),(57,.agg #[.string p,.int .i64 ((nd ns k).kind),.int .i64 ((nd ns k).mode),.int .i64 ((nd ns k).uid),.int .i64 ((nd ns k).gid),.int .i64 ((nd ns k).sec),.int .i64 ((nd ns k).nano),.slice none (0) (0),.string ⟨#[]⟩,.string ⟨#[]⟩])]) (aL:=λb1=>[.blk aF [.map (some mb),.slice Ao (s.out.length) (co),.map (some mp),.int .i64 ↑(s.sum+((p:ByteArray).size))] 84,.abs (aE Try.prog 3 mb (mf (bf A ns ns.length)) ns.length),.abs (aE Try.prog 3 mp (mf (aY ns s.fst)) s.cnt),.abs (av 51 10 Ao s.out.length co (aI M s.out)),.abs R,.blk b1 [.string ⟨#[]⟩,.int .i64 0,.int .i64 0,.int .i64 0,.int .i64 0,.int .i64 0,.int .i64 0,.slice none (0) (0),.string ⟨#[]⟩,.string ⟨#[]⟩] 51]) (ak:=λb1=>[]) [o_] [0,1,2,7,57] [0,1,2,3,4,5] (λ_ _=>by kernel_rfl) (λb1=>trivial) (λb1=>?_)
   refine af.nil (by kernel_rfl) ?_
   exact ah.mid b1 (idx:=[0,1,2,7,57]) (pk:=[0,1,2,3,4,5]) (λ_=>by kernel_rfl) rfl (by kernel_rfl)
  rintro b1
  refine aX.last rfl rfl ?_
  refine af.seg (k':=1) (fr':=[(0,.pointer (some ⟨aF,0,none⟩)),(1,.pointer (some ⟨(au A),ar A+k*10,none⟩)),(2,.string p),(7,.pointer (some ⟨b1,0,none⟩))]) (aL:=[.blk aF [.map (some mb),.slice Ao (s.out.length) (co),.map (some mp),.int .i64 ↑(s.sum+((p:ByteArray).size))] 84,.abs (aE Try.prog 3 mb (mf (bf A ns ns.length)) ns.length),.abs (aE Try.prog 3 mp (mf (aY ns s.fst)) s.cnt),.abs (av 51 10 Ao s.out.length co (aI M s.out)),.abs R,.blk b1 (cg (nd ns k) p none (0) 0 (⟨#[]⟩) ⟨#[]⟩) 51]) (ak:=[b1=b1,b1=b1,b1=b1,b1=b1,b1=b1,b1=b1,b1=b1,b1=b1,b1=b1,b1=b1]) [⟨[.at 5,.at 5,.at 5,.at 5,.at 5,.at 5,.at 5,.at 5,.at 5,.at 5],none,none,none,none⟩] [0,1,2,7] [0,1,2,3,4,5] (λ_ _=>by kernel_rfl) ⟨rfl,rfl,rfl,rfl,rfl,rfl,rfl,rfl,rfl,rfl,trivial⟩ ?_
  refine af.nil (by kernel_rfl) (ah.np (ah.next (ai.seq (ai.seq (ai.region ?_)))))
  refine af.aq (k':=3) (fr':=[(0,.pointer (some ⟨aF,0,none⟩)),(1,.pointer (some ⟨(au A),ar A+k*10,none⟩)),(2,.string p),(7,.pointer (some ⟨b1,0,none⟩)),(60,.bool true)]) (ak:=[(Value.bool ((⟨#[]⟩:ByteArray).toList == (⟨#[]⟩:ByteArray).toList))=(.bool true),b1=b1]) [o_,⟨[.at 5],none,none,none,none⟩,⟨[],none,none,none,some (.bool true)⟩] [0,1,2,7,60] (λ_ _=>by kernel_rfl) ⟨by simp,rfl,trivial⟩ ?_
  refine af.nil (by kernel_rfl) (ah.next ?_)
  refine ai.bL (λ_=>by kernel_rfl) ?_
  refine ai.seq (ai.eY 10 (by kernel_rfl) (by kernel_rfl) ?_)
  refine cu.seg (k':=10) (fr':=[(0,.pointer (some ⟨aF,0,none⟩)),(1,.pointer (some ⟨(au A),ar A+k*10,none⟩)),(2,.string p),(7,.pointer (some ⟨b1,0,none⟩)),(64,.map (some mp)),(68,.int .i64 ((nd ns k).id)),(70,.agg #[.string p])]) (ak:=[(Rd β ⟨(au A),ar A+k*10,none⟩ (.int .i64 ((nd ns k).id))),aF=aF]) [o_,o_,o_,⟨[.at 0],none,none,none,none⟩,o_,o_,o_,⟨[.old (.int .i64 ((nd ns k).id))],none,none,none,none⟩,o_,o_] [0,1,2,7,64,68,70] (λ_ _=>by kernel_rfl) ⟨aA.rd hG (i:=k) (by omega) (j:=0) rfl,rfl,trivial⟩ (by decide) ?_
  refine cu.done rfl ?_
  refine af.kQ 2 (d:=none) (t:=82) (K:=3) (E:=115) (b:=mp) (n:=s.cnt) (f:=(mf (aY ns s.fst))) (x:=(.tmp 64)) (ix:=(.tmp 68)) (y:=(.tmp 70)) (key:=.int .i64 ((nd ns k).id)) (u:=.agg #[.string p]) (kl:=(.int .i64 (nd ns k).id)) (n':=(push ns k p s).cnt) (f':=(mf (aY ns (push ns k p s).fst))) (λ_=>by kernel_rfl) (by kernel_rfl) (λ_=>by kernel_rfl) (λ_=>by kernel_rfl) (λ_=>by kernel_rfl) fC Try.underlying82 (by unfold maxLen;omega) (fI (hB.node k hk).ids.1.1 (hB.node k hk).ids.1.2) (oI hok.rise hk fK) (sX hok.rise hk fK hp) ?_
  refine af.nil (by kernel_rfl) (ah.next (ai.seq (ai.region ?_)))
  refine af.aq (k':=4) (fr':=[(0,.pointer (some ⟨aF,0,none⟩)),(1,.pointer (some ⟨(au A),ar A+k*10,none⟩)),(2,.string p),(7,.pointer (some ⟨b1,0,none⟩)),(74,.slice (L.dA k) ((nd ns k).data.length) ((L.dC k)))]) (ak:=[(Rd β ⟨(au A),ar A+k*10+7,none⟩ (.slice (L.dA k) ((nd ns k).data.length) ((L.dC k))))]) [o_,o_,o_,⟨[.old (.slice (L.dA k) ((nd ns k).data.length) ((L.dC k)))],none,none,none,none⟩] [0,1,2,7,74] (λ_ _=>by kernel_rfl) ⟨aA.rd hG (i:=k) (by omega) (j:=7) rfl,trivial⟩ ?_
  refine af.fo (f:=50) (args:=#[.slice (L.dA k) ((nd ns k).data.length) ((L.dC k))]) (d:=(some 75)) (pre:=[]) (R:=[.blk aF [.map (some mb),.slice Ao (s.out.length) (co),.map (some mp),.int .i64 ↑(s.sum+((p:ByteArray).size))] 84,.abs (aE Try.prog 3 mb (mf (bf A ns ns.length)) ns.length),.abs (aE Try.prog 3 mp (mf (aY ns (push ns k p s).fst)) ((push ns k p s).cnt)),.abs (av 51 10 Ao s.out.length co (aI M s.out)),.abs R,.blk b1 (cg (nd ns k) p none (0) 0 (⟨#[]⟩) ⟨#[]⟩) 51]) (pk:=[0,1,2,3,4,5]) (λ_=>by kernel_rfl) (zS (L.dA k) (L.dC k) (nd ns k).data (hG.data k hk) (hB.hd k hk).1) rfl (by kernel_rfl) ?_
  rintro lQ _ _ jh ⟨dB,cD,rfl,rfl,uV⟩
  replace hG:=hG.le jh
  replace di:=di.le jh
  replace hle0:=hle0.trans jh
  refine af.seg (k':=7) (fr':=[(0,.pointer (some ⟨aF,0,none⟩)),(1,.pointer (some ⟨(au A),ar A+k*10,none⟩)),(2,.string p),(7,.pointer (some ⟨b1,0,none⟩))]) (aL:=[.blk aF [.map (some mb),.slice Ao (s.out.length) (co),.map (some mp),.int .i64 ↑(s.sum+((p:ByteArray).size))] 84,.abs (aE Try.prog 3 mb (mf (bf A ns ns.length)) ns.length),.abs (aE Try.prog 3 mp (mf (aY ns (push ns k p s).fst)) ((push ns k p s).cnt)),.abs (av 51 10 Ao s.out.length co (aI M s.out)),.abs R,.blk b1 (cg (nd ns k) p dB ((nd ns k).data.length) cD (⟨#[]⟩) ⟨#[]⟩) 51]) (ak:=[b1=b1]) [o_,⟨[.at 5],none,none,none,none⟩] [0,1,2,7] [0,1,2,3,4,5] (λ_ _=>by kernel_rfl) ⟨rfl,trivial⟩ ?_
  refine af.nil (by kernel_rfl) (ah.next (ai.region ?_))
  refine af.seg (k':=6) (fr':=[(0,.pointer (some ⟨aF,0,none⟩)),(1,.pointer (some ⟨(au A),ar A+k*10,none⟩)),(2,.string p),(7,.pointer (some ⟨b1,0,none⟩))]) (aL:=[.blk aF [.map (some mb),.slice Ao (s.out.length) (co),.map (some mp),.int .i64 ↑(s.sum+((p:ByteArray).size))] 84,.abs (aE Try.prog 3 mb (mf (bf A ns ns.length)) ns.length),.abs (aE Try.prog 3 mp (mf (aY ns (push ns k p s).fst)) ((push ns k p s).cnt)),.abs (av 51 10 Ao s.out.length co (aI M s.out)),.abs R,.blk b1 (cg (nd ns k) p dB ((nd ns k).data.length) cD ((nd ns k).target) ⟨#[]⟩) 51]) (ak:=[b1=b1,(Rd lQ ⟨(au A),ar A+k*10+8,none⟩ (.string (nd ns k).target))]) [o_,o_,o_,⟨[.old (.string (nd ns k).target)],none,none,none,none⟩,o_,⟨[.at 5],none,none,none,none⟩] [0,1,2,7] [0,1,2,3,4,5] (λ_ _=>by kernel_rfl) ⟨rfl,aA.rd hG (i:=k) (by omega) (j:=8) rfl,trivial⟩ ?_
  refine af.nil (by kernel_rfl) (ah.next (ai.seq (ai.region ?_)))
  refine af.aq (k':=7) (fr':=[(0,.pointer (some ⟨aF,0,none⟩)),(1,.pointer (some ⟨(au A),ar A+k*10,none⟩)),(2,.string p),(7,.pointer (some ⟨b1,0,none⟩)),(8,.bool (decide ((((s.out.length:Nat):Int):Int)=(0:Int))))]) (ak:=[aF=aF]) [o_,o_,o_,⟨[.at 0],none,none,none,none⟩,o_,o_,o_] [0,1,2,7,8] (λ_ _=>by kernel_rfl) ⟨rfl,trivial⟩ ?_
  refine af.nil (by kernel_rfl) (ah.next (ai.seq ?_))
  refine ai.dL (S:=[.blk aF [.map (some mb),.slice Ao (s.out.length) (co),.map (some mp),.int .i64 ↑(s.sum+((p:ByteArray).size))] 84,.blk b1 (cg (nd ns k) p dB ((nd ns k).data.length) cD ((nd ns k).target) ⟨#[]⟩) 51]) [0,1,2,3,4,5,6,7,8,9,10] 6 [0,5] (by kernel_rfl) (by kernel_rfl) rfl (by kernel_rfl) ?_
  refine aX.reads (r:=0) (l:=[6,7,8,9,10]) (fr':=[(0,.pointer (some ⟨aF,0,none⟩)),(1,.pointer (some ⟨(au A),ar A+k*10,none⟩)),(2,.string p),(8,.bool (decide ((((s.out.length:Nat):Int):Int)=(0:Int)))),(88,.pointer (some ⟨aF,0,none⟩)),(92,.slice Ao (s.out.length) (co)),(93,.agg #[.string p,.int .i64 ((nd ns k).kind),.int .i64 ((nd ns k).mode),.int .i64 ((nd ns k).uid),.int .i64 ((nd ns k).gid),.int .i64 ((nd ns k).sec),.int .i64 ((nd ns k).nano),.slice dB ((nd ns k).data.length) (cD),.string (nd ns k).target,.string ⟨#[]⟩])]) (ak:=[b1=b1,b1=b1,b1=b1,b1=b1,b1=b1,b1=b1,b1=b1,b1=b1,b1=b1,b1=b1,aF=aF]) [0,1,2,3,4,5] [o_,o_,o_,o_,⟨[.at 0],none,none,none,none⟩,⟨[.at 1,.at 1,.at 1,.at 1,.at 1,.at 1,.at 1,.at 1,.at 1,.at 1],none,none,none,none⟩] [0,1,2,8,88,92,93] (λ_=>by kernel_rfl) ⟨rfl,rfl,rfl,rfl,rfl,rfl,rfl,rfl,rfl,rfl,rfl,trivial⟩ rfl rfl ?_
  refine aX.cut (ι:=Nat) (fr':=λ(b2:Nat)=>[(0,.pointer (some ⟨aF,0,none⟩)),(1,.pointer (some ⟨(au A),ar A+k*10,none⟩)),(2,.string p),(8,.bool (decide ((((s.out.length:Nat):Int):Int)=(0:Int)))),(88,.pointer (some ⟨aF,0,none⟩)),(92,.slice Ao (s.out.length) (co)),(94,.slice (some ⟨b2,0,none⟩) (1) (1))]) (hp':=λ(b2:Nat)=>[.blk aF [.map (some mb),.slice Ao (s.out.length) (co),.map (some mp),.int .i64 ↑(s.sum+((p:ByteArray).size))] 84,.abs (aE Try.prog 3 mb (mf (bf A ns ns.length)) ns.length),.abs (aE Try.prog 3 mp (mf (aY ns (push ns k p s).fst)) ((push ns k p s).cnt)),.abs (av 51 10 Ao s.out.length co (aI M s.out)),.abs R,.blk b1 (cg (nd ns k) p dB ((nd ns k).data.length) cD ((nd ns k).target) ⟨#[]⟩) 51,.blk b2 (cg (nd ns k) p dB ((nd ns k).data.length) cD ((nd ns k).target) ⟨#[]⟩) 51]) [0,5] rfl rfl ?_ rfl (λ_=>by kernel_rfl) ?_
  ·refine af.bD (k':=1) (fr':=λb2=>[(0,.pointer (some ⟨aF,0,none⟩)),(1,.pointer (some ⟨(au A),ar A+k*10,none⟩)),(2,.string p),(8,.bool (decide ((((s.out.length:Nat):Int):Int)=(0:Int)))),(88,.pointer (some ⟨aF,0,none⟩)),(92,.slice Ao (s.out.length) (co)),(94,.slice (some ⟨b2,0,none⟩) (1) (1))]) (aL:=λb2=>[.blk aF [.map (some mb),.slice Ao (s.out.length) (co),.map (some mp),.int .i64 ↑(s.sum+((p:ByteArray).size))] 84,.abs (aE Try.prog 3 mb (mf (bf A ns ns.length)) ns.length),.abs (aE Try.prog 3 mp (mf (aY ns (push ns k p s).fst)) ((push ns k p s).cnt)),.abs (av 51 10 Ao s.out.length co (aI M s.out)),.abs R,.blk b1 (cg (nd ns k) p dB ((nd ns k).data.length) cD ((nd ns k).target) ⟨#[]⟩) 51,.blk b2 (cg (nd ns k) p dB ((nd ns k).data.length) cD ((nd ns k).target) ⟨#[]⟩) 51]) (ak:=λb2=>[]) [o_] [0,1,2,8,88,92,94] [0,1,2,3,4,5,6] (λ_ _=>by kernel_rfl) (λb2=>trivial) (λb2=>?_)
   refine af.nil (by kernel_rfl) ?_
   exact ah.mid b2 (idx:=[0,1,2,8,88,92,94]) (pk:=[0,1,2,3,4,5,6]) (λ_=>by kernel_rfl) rfl (by kernel_rfl)
  rintro b2
  refine aX.cut (ι:=(Option Addr)×Nat) (fr':=λ((A3,c4):(Option Addr)×Nat)=>[(0,.pointer (some ⟨aF,0,none⟩)),(1,.pointer (some ⟨(au A),ar A+k*10,none⟩)),(2,.string p),(8,.bool (decide ((((s.out.length:Nat):Int):Int)=(0:Int)))),(88,.pointer (some ⟨aF,0,none⟩)),(95,.slice A3 ((push ns k p s).out.length) (c4))]) (hp':=λ((A3,c4):(Option Addr)×Nat)=>[.blk aF [.map (some mb),.slice Ao (s.out.length) (co),.map (some mp),.int .i64 ↑(s.sum+((p:ByteArray).size))] 84,.abs (aE Try.prog 3 mb (mf (bf A ns ns.length)) ns.length),.abs (aE Try.prog 3 mp (mf (aY ns (push ns k p s).fst)) ((push ns k p s).cnt)),.abs (av 51 10 A3 ((push ns k p s).out.length) c4 (aI (M.put s.out.length dB cD) (push ns k p s).out)),.abs R,.blk b1 (cg (nd ns k) p dB ((nd ns k).data.length) cD ((nd ns k).target) ⟨#[]⟩) 51,.blk b2 (cg (nd ns k) p dB ((nd ns k).data.length) cD ((nd ns k).target) ⟨#[]⟩) 51]) [0,5] rfl rfl ?_ rfl (λ_=>by kernel_rfl) ?_
  ·refine af.append 3 (d:=(some 95)) (t:=46) (e:=51) (z:=.agg #[.string ⟨#[]⟩,.int .i64 0,.int .i64 0,.int .i64 0,.int .i64 0,.int .i64 0,.int .i64 0,.slice none (0) (0),.string ⟨#[]⟩,.string ⟨#[]⟩]) (size:=10) (bytes:=120) (n:=s.out.length) (cap:=co) (A:=Ao) (xs:=(aI M s.out)) (s:=(.tmp 92)) (x:=(.tmp 94)) (ats:=#[46,46]) (A':=some ⟨b2,0,none⟩) (m:=1) (c':=1) (news:=(cg (nd ns k) p dB ((nd ns k).data.length) cD ((nd ns k).target) ⟨#[]⟩)) (λ_=>by kernel_rfl) rfl (by kernel_rfl) (λ_=>by kernel_rfl) (λ_=>by kernel_rfl) Try.underlying46 (by kernel_rfl) rfl (by decide) (rfl) (by simp [cg,Value.oneCell']) (dS (j:=6) rfl) (by unfold maxLen;omega) (by omega) (λA3 c4=>?_)
   refine af.aZ 3 (p:=.abs (av 51 10 A3 (s.out.length+1) c4 ((aI M s.out)++(cg (nd ns k) p dB ((nd ns k).data.length) cD ((nd ns k).target) ⟨#[]⟩)))) (p':=.abs (av 51 10 A3 ((push ns k p s).out.length) c4 (aI (M.put s.out.length dB cD) (push ns k p s).out))) (by kernel_rfl) (by rw [dr,dH,←ia,iy _ _ fK];rfl) ?_
   refine af.slot 95 (.slice A3 (s.out.length+1) (c4)) (.slice A3 ((push ns k p s).out.length) (c4)) (λ_=>by kernel_rfl) (by rw [dr]) ?_
   refine af.nil (by kernel_rfl) ?_
   exact ah.mid (A3,c4) (idx:=[0,1,2,8,88,95]) (pk:=[0,1,2,3,4,5,6]) (λ_=>by kernel_rfl) rfl (by kernel_rfl)
  rintro⟨A3,c4⟩
  refine aX.cut (ι:=Unit) (fr':=λ(_:Unit)=>[(0,.pointer (some ⟨aF,0,none⟩)),(1,.pointer (some ⟨(au A),ar A+k*10,none⟩)),(2,.string p),(8,.bool (decide ((((s.out.length:Nat):Int):Int)=(0:Int)))),(95,.slice A3 ((push ns k p s).out.length) (c4)),(96,.pointer (some ⟨aF,0,none⟩))]) (hp':=λ(_:Unit)=>[.blk aF [.map (some mb),.slice Ao (s.out.length) (co),.map (some mp),.int .i64 ↑(s.sum+((p:ByteArray).size))] 84,.abs (aE Try.prog 3 mb (mf (bf A ns ns.length)) ns.length),.abs (aE Try.prog 3 mp (mf (aY ns (push ns k p s).fst)) ((push ns k p s).cnt)),.abs (av 51 10 A3 ((push ns k p s).out.length) c4 (aI (M.put s.out.length dB cD) (push ns k p s).out)),.abs R,.blk b1 (cg (nd ns k) p dB ((nd ns k).data.length) cD ((nd ns k).target) ⟨#[]⟩) 51,.blk b2 (cg (nd ns k) p dB ((nd ns k).data.length) cD ((nd ns k).target) ⟨#[]⟩) 51]) [0,5] rfl rfl ?_ rfl (λ_=>by kernel_rfl) ?_
  ·refine af.aq (k':=1) (fr':=[(0,.pointer (some ⟨aF,0,none⟩)),(1,.pointer (some ⟨(au A),ar A+k*10,none⟩)),(2,.string p),(8,.bool (decide ((((s.out.length:Nat):Int):Int)=(0:Int)))),(95,.slice A3 ((push ns k p s).out.length) (c4)),(96,.pointer (some ⟨aF,0,none⟩))]) (ak:=[]) [o_] [0,1,2,8,95,96] (λ_ _=>by kernel_rfl) trivial ?_
   refine af.nil (by kernel_rfl) ?_
   exact ah.mid () (idx:=[0,1,2,8,95,96]) (pk:=[0,1,2,3,4,5,6]) (λ_=>by kernel_rfl) rfl (by kernel_rfl)
  rintro _
  refine aX.cut (ι:=Unit) (fr':=λ(_:Unit)=>[(0,.pointer (some ⟨aF,0,none⟩)),(1,.pointer (some ⟨(au A),ar A+k*10,none⟩)),(2,.string p),(8,.bool (decide ((((s.out.length:Nat):Int):Int)=(0:Int)))),(95,.slice A3 ((push ns k p s).out.length) (c4)),(97,.pointer (some ⟨aF,1,none⟩))]) (hp':=λ(_:Unit)=>[.blk aF [.map (some mb),.slice Ao (s.out.length) (co),.map (some mp),.int .i64 ↑(s.sum+((p:ByteArray).size))] 84,.abs (aE Try.prog 3 mb (mf (bf A ns ns.length)) ns.length),.abs (aE Try.prog 3 mp (mf (aY ns (push ns k p s).fst)) ((push ns k p s).cnt)),.abs (av 51 10 A3 ((push ns k p s).out.length) c4 (aI (M.put s.out.length dB cD) (push ns k p s).out)),.abs R,.blk b1 (cg (nd ns k) p dB ((nd ns k).data.length) cD ((nd ns k).target) ⟨#[]⟩) 51,.blk b2 (cg (nd ns k) p dB ((nd ns k).data.length) cD ((nd ns k).target) ⟨#[]⟩) 51]) [0,5] rfl rfl ?_ rfl (λ_=>by kernel_rfl) ?_
  ·refine af.aq (k':=1) (fr':=[(0,.pointer (some ⟨aF,0,none⟩)),(1,.pointer (some ⟨(au A),ar A+k*10,none⟩)),(2,.string p),(8,.bool (decide ((((s.out.length:Nat):Int):Int)=(0:Int)))),(95,.slice A3 ((push ns k p s).out.length) (c4)),(97,.pointer (some ⟨aF,1,none⟩))]) (ak:=[]) [o_] [0,1,2,8,95,97] (λ_ _=>by kernel_rfl) trivial ?_
   refine af.nil (by kernel_rfl) ?_
   exact ah.mid () (idx:=[0,1,2,8,95,97]) (pk:=[0,1,2,3,4,5,6]) (λ_=>by kernel_rfl) rfl (by kernel_rfl)
  rintro _
  refine aX.last rfl rfl ?_
  refine af.seg (k':=1) (fr':=[(0,.pointer (some ⟨aF,0,none⟩)),(1,.pointer (some ⟨(au A),ar A+k*10,none⟩)),(2,.string p),(8,.bool (decide ((((s.out.length:Nat):Int):Int)=(0:Int))))]) (aL:=[.blk aF [.map (some mb),.slice A3 ((push ns k p s).out.length) (c4),.map (some mp),.int .i64 ↑(s.sum+((p:ByteArray).size))] 84,.abs (aE Try.prog 3 mb (mf (bf A ns ns.length)) ns.length),.abs (aE Try.prog 3 mp (mf (aY ns (push ns k p s).fst)) ((push ns k p s).cnt)),.abs (av 51 10 A3 ((push ns k p s).out.length) c4 (aI (M.put s.out.length dB cD) (push ns k p s).out)),.abs R,.blk b1 (cg (nd ns k) p dB ((nd ns k).data.length) cD ((nd ns k).target) ⟨#[]⟩) 51,.blk b2 (cg (nd ns k) p dB ((nd ns k).data.length) cD ((nd ns k).target) ⟨#[]⟩) 51]) (ak:=[aF=aF]) [⟨[.at 0],none,none,none,none⟩] [0,1,2,8] [0,1,2,3,4,5,6] (λ_ _=>by kernel_rfl) ⟨rfl,trivial⟩ ?_
  refine af.nil (by kernel_rfl) (ah.np (ah.next (ai.seq (ai.seq (ai.region ?_)))))
  refine af.aZ 0 (p:=.blk aF [.map (some mb),.slice A3 ((push ns k p s).out.length) (c4),.map (some mp),.int .i64 ↑(s.sum+((p:ByteArray).size))] 84) (p':=.blk aF [.map (some mb),.slice A3 ((push ns k p s).out.length) (c4),.map (some mp),.int .i64 ↑((push ns k p s).sum)] 84) (by kernel_rfl) (by rw [dc]) ?_
  refine af.aq (k':=6) (fr':=[(0,.pointer (some ⟨aF,0,none⟩)),(2,.string p),(8,.bool (decide ((((s.out.length:Nat):Int):Int)=(0:Int)))),(101,.slice (L.eA k) ((nd ns k).aj.length) ((L.eC k))),(102,.int .i64 ↑((nd ns k).aj.length)),(103,.int .i64 0)]) (ak:=[(Rd lQ ⟨(au A),ar A+k*10+9,none⟩ (.slice (L.eA k) ((nd ns k).aj.length) ((L.eC k))))]) [o_,o_,o_,⟨[.old (.slice (L.eA k) ((nd ns k).aj.length) ((L.eC k)))],none,none,none,none⟩,o_,o_] [0,2,8,101,102,103] (λ_ _=>by kernel_rfl) ⟨aA.rd hG (i:=k) (by omega) (j:=9) rfl,trivial⟩ ?_
  refine af.nil (by kernel_rfl) (ah.next (ai.block ?_))
  refine ai.oR (ι:=Nat×Bs×TS×(Option Addr)×Nat×cQ) (λ((j,b,s2,cV,cW,M2):Nat×Bs×TS×(Option Addr)×Nat×cQ)=>b) (λ((j,b,s2,cV,cW,M2):Nat×Bs×TS×(Option Addr)×Nat×cQ)=>(j<=(nd ns k).aj.length)/\(β.le b)/\(aA b A ns L)/\(bJ b s2.out M2)/\(Behind (push ns k p s) s2)/\(bR (λe s'=>bP ns f (tgt ns e.id) (below s.out.length p e.name) s') (nd ns k).aj (push ns k p s)=bR (λe s'=>bP ns f (tgt ns e.id) (below s.out.length p e.name) s') ((nd ns k).aj.drop j) s2)) (λ((j,b,s2,cV,cW,M2):Nat×Bs×TS×(Option Addr)×Nat×cQ)=>(nd ns k).aj.length-j) (λ((j,b,s2,cV,cW,M2):Nat×Bs×TS×(Option Addr)×Nat×cQ)=>[(0,.pointer (some ⟨aF,0,none⟩)),(2,.string p),(8,.bool (decide ((((s.out.length:Nat):Int):Int)=(0:Int)))),(101,.slice (L.eA k) ((nd ns k).aj.length) ((L.eC k))),(102,.int .i64 ↑((nd ns k).aj.length)),(103,.int .i64 ↑j)]) (λ((j,b,s2,cV,cW,M2):Nat×Bs×TS×(Option Addr)×Nat×cQ)=>[.blk aF [.map (some mb),.slice cV (s2.out.length) (cW),.map (some mp),.int .i64 ↑s2.sum] 84,.abs (aE Try.prog 3 mb (mf (bf A ns ns.length)) ns.length),.abs (aE Try.prog 3 mp (mf (aY ns s2.fst)) s2.cnt),.abs (av 51 10 cV s2.out.length cW (aI M2 s2.out)),.abs R]) (0,lQ,(push ns k p s),A3,c4,(M.put s.out.length dB cD)) rfl (idx:=[0,2,8,101,102,103]) (pk:=[0,1,2,3,4]) (show (0<=(nd ns k).aj.length)/\(β.le lQ)/\(aA lQ A ns L)/\(bJ lQ ((push ns k p s)).out ((M.put s.out.length dB cD)))/\(Behind (push ns k p s) ((push ns k p s)))/\(bR (λe s'=>bP ns f (tgt ns e.id) (below s.out.length p e.name) s') (nd ns k).aj (push ns k p s)=bR (λe s'=>bP ns f (tgt ns e.id) (below s.out.length p e.name) s') ((nd ns k).aj.drop 0) ((push ns k p s))) from ⟨Nat.zero_le _,hle0,hG,by rw [dH];exact bJ.snoc di (by rw [iy _ _ fK];exact uV),⟨hs.push hp (by omega),Nat.le_refl _,Nat.le_refl _⟩,rfl⟩) (λ_=>by kernel_rfl) rfl (by kernel_rfl) ?_
  rintro⟨j,b,s2,cV,cW,M2⟩ ⟨hj,hle0,hG,di,fH,fE⟩
  show ai _ b _ _ [(0,.pointer (some ⟨aF,0,none⟩)),(2,.string p),(8,.bool (decide ((((s.out.length:Nat):Int):Int)=(0:Int)))),(101,.slice (L.eA k) ((nd ns k).aj.length) ((L.eC k))),(102,.int .i64 ↑((nd ns k).aj.length)),(103,.int .i64 ↑j)] [.blk aF [.map (some mb),.slice cV (s2.out.length) (cW),.map (some mp),.int .i64 ↑s2.sum] 84,.abs (aE Try.prog 3 mb (mf (bf A ns ns.length)) ns.length),.abs (aE Try.prog 3 mp (mf (aY ns s2.fst)) s2.cnt),.abs (av 51 10 cV s2.out.length cW (aI M2 s2.out)),.abs R] _
  have hd3:=hB.hd k hk
  have hnl:=hok.named k hk
  refine ai.seq (ai.region (af.aq (k':=1) (fr':=[(0,.pointer (some ⟨aF,0,none⟩)),(2,.string p),(8,.bool (decide ((((s.out.length:Nat):Int):Int)=(0:Int)))),(101,.slice (L.eA k) ((nd ns k).aj.length) ((L.eC k))),(102,.int .i64 ↑((nd ns k).aj.length)),(103,.int .i64 ↑j),(104,.bool (decide ((((j:Nat):Int):Int)<((((nd ns k).aj.length:Nat):Int):Int))))]) (ak:=[]) [o_] [0,2,8,101,102,103,104] (λ_ _=>by kernel_rfl) trivial ?_))
  refine af.nil (by kernel_rfl) (ah.next (ai.seq ?_))
  refine ai.aV (p:=(((j:Nat):Int):Int)<((((nd ns k).aj.length:Nat):Int):Int)) (λ_=>by kernel_rfl) (λkU=>?_) (λkU=>?_)
  ·refine ai.skip (ah.next (ai.seq (ai.block (ai.seq (ai.region ?_)))))
   refine af.bD (k':=4) (fr':=λb5=>[(0,.pointer (some ⟨aF,0,none⟩)),(2,.string p),(8,.bool (decide ((((s.out.length:Nat):Int):Int)=(0:Int)))),(10,.pointer (some ⟨b5,0,none⟩)),(101,.slice (L.eA k) ((nd ns k).aj.length) ((L.eC k))),(102,.int .i64 ↑((nd ns k).aj.length)),(103,.int .i64 ↑j)]) (aL:=λb5=>[.blk aF [.map (some mb),.slice cV (s2.out.length) (cW),.map (some mp),.int .i64 ↑s2.sum] 84,.abs (aE Try.prog 3 mb (mf (bf A ns ns.length)) ns.length),.abs (aE Try.prog 3 mp (mf (aY ns s2.fst)) s2.cnt),.abs (av 51 10 cV s2.out.length cW (aI M2 s2.out)),.abs R,.blk b5 [.string (en (nd ns k).aj j).name,.int .i64 ((en (nd ns k).aj j).id)] 72]) (ak:=λb5=>[b5=b5,b5=b5,(Rd b ⟨(au (L.eA k)),ar (L.eA k)+j*2+1,none⟩ (.int .i64 ((en (nd ns k).aj j).id))),(Rd b ⟨(au (L.eA k)),ar (L.eA k)+j*2,none⟩ (.string (en (nd ns k).aj j).name)),((j:Nat):Int)=((j:Nat):Int),j<(nd ns k).aj.length,(⟨(au (L.eA k)),ar (L.eA k),none⟩:Addr).spot=none,((L.eA k):Option Addr)=some ⟨(au (L.eA k)),ar (L.eA k),none⟩]) [⟨[],some j,none,some ⟨(au (L.eA k)),ar (L.eA k),none⟩,none⟩,⟨[.old (.string (en (nd ns k).aj j).name),.old (.int .i64 ((en (nd ns k).aj j).id))],none,none,none,none⟩,o_,⟨[.at 5,.at 5],none,none,none,none⟩] [0,2,8,10,101,102,103] [0,1,2,3,4,5] (λ_ _=>by kernel_rfl) (λb5=>⟨rfl,rfl,bh.rd (hG.aj k (by omega)) (i:=j) (by omega) (j:=1) rfl,bh.rd (hG.aj k (by omega)) (i:=j) (by omega) (j:=0) rfl,rfl,by omega,rfl,bh.hd (hG.aj k (by omega)) (i:=j) (by omega),trivial⟩) (λb5=>?_)
   refine af.nil (by kernel_rfl) (ah.next (ai.seq (ai.region ?_)))
   refine af.aq (k':=3) (fr':=[(0,.pointer (some ⟨aF,0,none⟩)),(2,.string p),(8,.bool (decide ((((s.out.length:Nat):Int):Int)=(0:Int)))),(10,.pointer (some ⟨b5,0,none⟩)),(11,.string (en (nd ns k).aj j).name),(101,.slice (L.eA k) ((nd ns k).aj.length) ((L.eC k))),(102,.int .i64 ↑((nd ns k).aj.length)),(103,.int .i64 ↑j)]) (ak:=[b5=b5]) [o_,⟨[.at 5],none,none,none,none⟩,o_] [0,2,8,10,11,101,102,103] (λ_ _=>by kernel_rfl) ⟨rfl,trivial⟩ ?_
   refine af.nil (by kernel_rfl) (ah.next (ai.seq (ai.seq (ai.region ?_))))
   refine af.aq (k':=2) (fr':=[(0,.pointer (some ⟨aF,0,none⟩)),(2,.string p),(8,.bool (decide ((((s.out.length:Nat):Int):Int)=(0:Int)))),(10,.pointer (some ⟨b5,0,none⟩)),(11,.string (en (nd ns k).aj j).name),(101,.slice (L.eA k) ((nd ns k).aj.length) ((L.eC k))),(102,.int .i64 ↑((nd ns k).aj.length)),(103,.int .i64 ↑j),(110,.bool (!(decide ((((s.out.length:Nat):Int):Int)=(0:Int)))))]) (ak:=[]) [o_,o_] [0,2,8,10,11,101,102,103,110] (λ_ _=>by kernel_rfl) trivial ?_
   refine af.nil (by kernel_rfl) (ah.next ?_)
   refine ai.cY (p:=(((s.out.length:Nat):Int):Int)=(0:Int)) (λ_=>by kernel_rfl) (λqj=>?_) (λqj=>?_)
   ·have cI:below s.out.length p (en (nd ns k).aj j).name=p++⟨#[47]⟩++(en (nd ns k).aj j).name:=if_neg (by omega)
    refine ai.region (af.aq (k':=1) (fr':=[(0,.pointer (some ⟨aF,0,none⟩)),(2,.string p),(8,.bool (decide ((((s.out.length:Nat):Int):Int)=(0:Int)))),(10,.pointer (some ⟨b5,0,none⟩)),(101,.slice (L.eA k) ((nd ns k).aj.length) ((L.eC k))),(102,.int .i64 ↑((nd ns k).aj.length)),(103,.int .i64 ↑j),(111,.string p)]) (ak:=[]) [o_] [0,2,8,10,101,102,103,111] (λ_ _=>by kernel_rfl) trivial ?_)
    refine af.fU (d:=(some 112)) (t:=9) (t2:=9) (x:=(.tmp 111)) (y:=(.const (.string ⟨#[47]⟩))) (a:=p) (b:=⟨#[47]⟩) (λ_=>by kernel_rfl) (λ_=>by kernel_rfl) (λ_=>by kernel_rfl) (by have jD:(⟨#[47]⟩:ByteArray).size=1:=rfl;omega) ?_
    refine af.aq (k':=4) (fr':=[(0,.pointer (some ⟨aF,0,none⟩)),(2,.string p),(8,.bool (decide ((((s.out.length:Nat):Int):Int)=(0:Int)))),(10,.pointer (some ⟨b5,0,none⟩)),(101,.slice (L.eA k) ((nd ns k).aj.length) ((L.eC k))),(102,.int .i64 ↑((nd ns k).aj.length)),(103,.int .i64 ↑j),(112,.string (p++⟨#[47]⟩)),(114,.string (en (nd ns k).aj j).name)]) (ak:=[b5=b5]) [o_,⟨[.at 5],none,none,none,none⟩] [0,2,8,10,101,102,103,112,114] (λ_ _=>by kernel_rfl) ⟨rfl,trivial⟩ ?_
    refine af.fU (d:=(some 115)) (t:=9) (t2:=9) (x:=(.tmp 112)) (y:=(.tmp 114)) (a:=(p++⟨#[47]⟩)) (b:=(en (nd ns k).aj j).name) (λ_=>by kernel_rfl) (λ_=>by kernel_rfl) (λ_=>by kernel_rfl) (by have jD:(⟨#[47]⟩:ByteArray).size=1:=rfl;have hnz:(en (nd ns k).aj j).name.size<=255:=(hnl j (by omega)).2.1;rw [ByteArray.size_append];omega) ?_
    refine af.aq (k':=6) (fr':=[(0,.pointer (some ⟨aF,0,none⟩)),(2,.string p),(8,.bool (decide ((((s.out.length:Nat):Int):Int)=(0:Int)))),(10,.pointer (some ⟨b5,0,none⟩)),(11,.string ((p++⟨#[47]⟩)++(en (nd ns k).aj j).name)),(101,.slice (L.eA k) ((nd ns k).aj.length) ((L.eC k))),(102,.int .i64 ↑((nd ns k).aj.length)),(103,.int .i64 ↑j)]) (ak:=[]) [o_] [0,2,8,10,11,101,102,103] (λ_ _=>by kernel_rfl) trivial ?_
    refine af.nil (by kernel_rfl) (ah.next (ai.seq ?_))
    refine ai.eY 9 (by kernel_rfl) (by kernel_rfl) ?_
    refine cu.seg (k':=7) (fr':=[(0,.pointer (some ⟨aF,0,none⟩)),(2,.string p),(8,.bool (decide ((((s.out.length:Nat):Int):Int)=(0:Int)))),(11,.string ((p++⟨#[47]⟩)++(en (nd ns k).aj j).name)),(101,.slice (L.eA k) ((nd ns k).aj.length) ((L.eC k))),(102,.int .i64 ↑((nd ns k).aj.length)),(103,.int .i64 ↑j),(116,.pointer (some ⟨aF,0,none⟩)),(120,.map (some mb)),(122,.int .i64 ((en (nd ns k).aj j).id))]) (ak:=[b5=b5,aF=aF]) [o_,o_,o_,o_,⟨[.at 0],none,none,none,none⟩,o_,⟨[.at 5],none,none,none,none⟩] [0,2,8,11,101,102,103,116,120,122] (λ_ _=>by kernel_rfl) ⟨rfl,rfl,trivial⟩ (by decide) ?_
    have hat:=(hok.aj k hk j (by omega)).at_
    have htl:=cH hat
    have hnm:=hok.named k hk j (by omega)
    refine cu.dO 1 (d:=(some 123)) (t:=66) (K:=3) (E:=75) (b:=mb) (cnt:=ns.length) (f:=(mf (bf A ns ns.length))) (x:=(.tmp 120)) (ix:=(.tmp 122)) (key:=.int .i64 ((en (nd ns k).aj j).id)) (z:=.pointer none) (kl:=(.int .i64 (en (nd ns k).aj j).id)) (r:=(some (.pointer (some ⟨(au A),ar A+(tgt ns (en (nd ns k).aj j).id)*10,none⟩)))) (λ_=>by kernel_rfl) (by kernel_rfl) (λ_=>by kernel_rfl) (λ_=>by kernel_rfl) fC Try.underlying66 (λ_=>by kernel_rfl) (fI (hB.hwf k hk j (by omega)).1 (hB.hwf k hk j (by omega)).2) (jE hat htl.1) (by decide) ?_
    refine cu.seg (k':=9) (fr':=[(0,.pointer (some ⟨aF,0,none⟩)),(2,.string p),(8,.bool (decide ((((s.out.length:Nat):Int):Int)=(0:Int)))),(101,.slice (L.eA k) ((nd ns k).aj.length) ((L.eC k))),(102,.int .i64 ↑((nd ns k).aj.length)),(103,.int .i64 ↑j),(116,.pointer (some ⟨aF,0,none⟩)),(123,.pointer (some ⟨(au A),ar A+(tgt ns (en (nd ns k).aj j).id)*10,none⟩)),(124,.string ((p++⟨#[47]⟩)++(en (nd ns k).aj j).name))]) (ak:=[]) [o_] [0,2,8,101,102,103,116,123,124] (λ_ _=>by kernel_rfl) trivial (by decide) ?_
    refine cu.done rfl ?_
    have kz:(tgt ns (en (nd ns k).aj j).id)<ns.length:=htl.1
    have hq1:1<=(((p++⟨#[47]⟩)++(en (nd ns k).aj j).name):ByteArray).size:=by rw [←cI];exact dw hnm.1
    have kV:(((p++⟨#[47]⟩)++(en (nd ns k).aj j).name):ByteArray).size<=8388608:=by rw [←cI];exact gV (by omega) hnm.2.1
    have kW:4194304-s2.sum<f:=by have:=fH.sum;rw [dc] at this;omega
    have uW:=IH _ A ns L M2 s2 (tgt ns (en (nd ns k).aj j).id) ((p++⟨#[47]⟩)++(en (nd ns k).aj j).name) aF mb mp cV cW hG hB hok di kz hq1 kV fH.ok kW
    refine af.fo (d:=(some 125)) (R:=[.abs R,.blk b5 [.string (en (nd ns k).aj j).name,.int .i64 ((en (nd ns k).aj j).id)] 72]) (pk:=[0,1,2,3,4,5]) (λ_=>by kernel_rfl) uW rfl (by kernel_rfl) ?_
    rintro oh _ _ eS (⟨s3,gM,gX,M3,hadd,rfl,gj,rfl⟩|⟨hadd,rfl,rfl⟩)
    ·replace hG:=hG.le eS
     replace di:=di.le eS
     replace hle0:=hle0.trans eS
     refine af.aq (k':=11) (fr':=[(0,.pointer (some ⟨aF,0,none⟩)),(2,.string p),(8,.bool (decide ((((s.out.length:Nat):Int):Int)=(0:Int)))),(101,.slice (L.eA k) ((nd ns k).aj.length) ((L.eC k))),(102,.int .i64 ↑((nd ns k).aj.length)),(103,.int .i64 ↑j),(126,.bool false)]) (ak:=[]) [o_] [0,2,8,101,102,103,126] (λ_ _=>by kernel_rfl) trivial ?_
     refine af.nil (by kernel_rfl) (ah.next ?_)
     refine ai.cU (λ_=>by kernel_rfl) ?_
     refine ai.skip (ah.aJ (ah.next (ai.region ?_)))
     refine af.aq (k':=2) (fr':=[(0,.pointer (some ⟨aF,0,none⟩)),(2,.string p),(8,.bool (decide ((((s.out.length:Nat):Int):Int)=(0:Int)))),(101,.slice (L.eA k) ((nd ns k).aj.length) ((L.eC k))),(102,.int .i64 ↑((nd ns k).aj.length)),(103,.int .i64 ↑(j+1))]) (ak:=[(Value.int .i64 (IntKind.wrap .i64 (((j:Nat):Int)+1)))=(.int .i64 ↑(j+1))]) [⟨[],none,none,none,some (.int .i64 ↑(j+1))⟩,o_] [0,2,8,101,102,103] (λ_ _=>by kernel_rfl) ⟨aP (by omega) (by omega) (by omega),trivial⟩ ?_
     refine af.nil (by kernel_rfl) ?_
     exact ah.ju ((j+1),oh,s3,gM,gX,M3) (hb:=rfl) (idx:=[0,2,8,101,102,103]) (pk:=[0,1,2,3,4]) (show (((j+1))<=(nd ns k).aj.length)/\(β.le oh)/\(aA oh A ns L)/\(bJ oh s3.out M3)/\(Behind (push ns k p s) s3)/\(bR (λe s'=>bP ns f (tgt ns e.id) (below s.out.length p e.name) s') (nd ns k).aj (push ns k p s)=bR (λe s'=>bP ns f (tgt ns e.id) (below s.out.length p e.name) s') ((nd ns k).aj.drop ((j+1))) s3) from ⟨by omega,hle0,hG,gj,Behind.trans fH (eZ hok.named f _ _ _ _ htl.1 (by rw [←cI];exact dw hnm.1) fH.ok hadd).1,by rw [fE,dx (by omega),cI,hadd];rfl⟩) (by show (nd ns k).aj.length-((j+1))<(nd ns k).aj.length-j;omega) (λ_=>by kernel_rfl) rfl (by kernel_rfl)
    replace hG:=hG.le eS
    replace di:=di.le eS
    replace hle0:=hle0.trans eS
    refine af.aq (k':=11) (fr':=[(0,.pointer (some ⟨aF,0,none⟩)),(2,.string p),(8,.bool (decide ((((s.out.length:Nat):Int):Int)=(0:Int)))),(101,.slice (L.eA k) ((nd ns k).aj.length) ((L.eC k))),(102,.int .i64 ↑((nd ns k).aj.length)),(103,.int .i64 ↑j),(126,.bool true)]) (ak:=[]) [o_] [0,2,8,101,102,103,126] (λ_ _=>by kernel_rfl) trivial ?_
    refine af.nil (by kernel_rfl) (ah.next ?_)
    refine ai.bL (λ_=>by kernel_rfl) ?_
    refine ai.seq (ai.region (af.aq (k':=1) (fr':=[(6,.bool false)]) (ak:=[]) [o_] [6] (λ_ _=>by kernel_rfl) trivial ?_))
    refine af.nil (by kernel_rfl) (ah.next (ai.ret (ah.aG (ah.ay (ah.ay (ah.aG (ah.ay ?_)))))))
    exact ah.eW (v:=.bool false) (l:=[]) (ak:=[]) [] [0] hle0 (λ_=>by kernel_rfl) trivial rfl (by kernel_rfl) (.inr ⟨by rw [hst,fE,dx (by omega),cI,hadd];rfl,rfl,rfl⟩)
   have cI:below s.out.length p (en (nd ns k).aj j).name=(en (nd ns k).aj j).name:=if_pos (by omega)
   refine ai.skip (ah.next (ai.seq ?_))
   refine ai.eY 9 (by kernel_rfl) (by kernel_rfl) ?_
   refine cu.seg (k':=7) (fr':=[(0,.pointer (some ⟨aF,0,none⟩)),(2,.string p),(8,.bool (decide ((((s.out.length:Nat):Int):Int)=(0:Int)))),(11,.string (en (nd ns k).aj j).name),(101,.slice (L.eA k) ((nd ns k).aj.length) ((L.eC k))),(102,.int .i64 ↑((nd ns k).aj.length)),(103,.int .i64 ↑j),(116,.pointer (some ⟨aF,0,none⟩)),(120,.map (some mb)),(122,.int .i64 ((en (nd ns k).aj j).id))]) (ak:=[b5=b5,aF=aF]) [o_,o_,o_,o_,⟨[.at 0],none,none,none,none⟩,o_,⟨[.at 5],none,none,none,none⟩] [0,2,8,11,101,102,103,116,120,122] (λ_ _=>by kernel_rfl) ⟨rfl,rfl,trivial⟩ (by decide) ?_
   have hat:=(hok.aj k hk j (by omega)).at_
   have htl:=cH hat
   have hnm:=hok.named k hk j (by omega)
   refine cu.dO 1 (d:=(some 123)) (t:=66) (K:=3) (E:=75) (b:=mb) (cnt:=ns.length) (f:=(mf (bf A ns ns.length))) (x:=(.tmp 120)) (ix:=(.tmp 122)) (key:=.int .i64 ((en (nd ns k).aj j).id)) (z:=.pointer none) (kl:=(.int .i64 (en (nd ns k).aj j).id)) (r:=(some (.pointer (some ⟨(au A),ar A+(tgt ns (en (nd ns k).aj j).id)*10,none⟩)))) (λ_=>by kernel_rfl) (by kernel_rfl) (λ_=>by kernel_rfl) (λ_=>by kernel_rfl) fC Try.underlying66 (λ_=>by kernel_rfl) (fI (hB.hwf k hk j (by omega)).1 (hB.hwf k hk j (by omega)).2) (jE hat htl.1) (by decide) ?_
   refine cu.seg (k':=9) (fr':=[(0,.pointer (some ⟨aF,0,none⟩)),(2,.string p),(8,.bool (decide ((((s.out.length:Nat):Int):Int)=(0:Int)))),(101,.slice (L.eA k) ((nd ns k).aj.length) ((L.eC k))),(102,.int .i64 ↑((nd ns k).aj.length)),(103,.int .i64 ↑j),(116,.pointer (some ⟨aF,0,none⟩)),(123,.pointer (some ⟨(au A),ar A+(tgt ns (en (nd ns k).aj j).id)*10,none⟩)),(124,.string (en (nd ns k).aj j).name)]) (ak:=[]) [o_] [0,2,8,101,102,103,116,123,124] (λ_ _=>by kernel_rfl) trivial (by decide) ?_
   refine cu.done rfl ?_
   have kz:(tgt ns (en (nd ns k).aj j).id)<ns.length:=htl.1
   have hq1:1<=((en (nd ns k).aj j).name:ByteArray).size:=by rw [←cI];exact dw hnm.1
   have kV:((en (nd ns k).aj j).name:ByteArray).size<=8388608:=by rw [←cI];exact gV (by omega) hnm.2.1
   have kW:4194304-s2.sum<f:=by have:=fH.sum;rw [dc] at this;omega
   have uX:=IH _ A ns L M2 s2 (tgt ns (en (nd ns k).aj j).id) (en (nd ns k).aj j).name aF mb mp cV cW hG hB hok di kz hq1 kV fH.ok kW
   refine af.fo (d:=(some 125)) (R:=[.abs R,.blk b5 [.string (en (nd ns k).aj j).name,.int .i64 ((en (nd ns k).aj j).id)] 72]) (pk:=[0,1,2,3,4,5]) (λ_=>by kernel_rfl) uX rfl (by kernel_rfl) ?_
   rintro ji _ _ d8 (⟨s3,gM,gX,M3,hadd,rfl,gj,rfl⟩|⟨hadd,rfl,rfl⟩)
   ·replace hG:=hG.le d8
    replace di:=di.le d8
    replace hle0:=hle0.trans d8
    refine af.aq (k':=11) (fr':=[(0,.pointer (some ⟨aF,0,none⟩)),(2,.string p),(8,.bool (decide ((((s.out.length:Nat):Int):Int)=(0:Int)))),(101,.slice (L.eA k) ((nd ns k).aj.length) ((L.eC k))),(102,.int .i64 ↑((nd ns k).aj.length)),(103,.int .i64 ↑j),(126,.bool false)]) (ak:=[]) [o_] [0,2,8,101,102,103,126] (λ_ _=>by kernel_rfl) trivial ?_
    refine af.nil (by kernel_rfl) (ah.next ?_)
    refine ai.cU (λ_=>by kernel_rfl) ?_
    refine ai.skip (ah.aJ (ah.next (ai.region ?_)))
    refine af.aq (k':=2) (fr':=[(0,.pointer (some ⟨aF,0,none⟩)),(2,.string p),(8,.bool (decide ((((s.out.length:Nat):Int):Int)=(0:Int)))),(101,.slice (L.eA k) ((nd ns k).aj.length) ((L.eC k))),(102,.int .i64 ↑((nd ns k).aj.length)),(103,.int .i64 ↑(j+1))]) (ak:=[(Value.int .i64 (IntKind.wrap .i64 (((j:Nat):Int)+1)))=(.int .i64 ↑(j+1))]) [⟨[],none,none,none,some (.int .i64 ↑(j+1))⟩,o_] [0,2,8,101,102,103] (λ_ _=>by kernel_rfl) ⟨aP (by omega) (by omega) (by omega),trivial⟩ ?_
    refine af.nil (by kernel_rfl) ?_
    exact ah.ju ((j+1),ji,s3,gM,gX,M3) (hb:=rfl) (idx:=[0,2,8,101,102,103]) (pk:=[0,1,2,3,4]) (show (((j+1))<=(nd ns k).aj.length)/\(β.le ji)/\(aA ji A ns L)/\(bJ ji s3.out M3)/\(Behind (push ns k p s) s3)/\(bR (λe s'=>bP ns f (tgt ns e.id) (below s.out.length p e.name) s') (nd ns k).aj (push ns k p s)=bR (λe s'=>bP ns f (tgt ns e.id) (below s.out.length p e.name) s') ((nd ns k).aj.drop ((j+1))) s3) from ⟨by omega,hle0,hG,gj,Behind.trans fH (eZ hok.named f _ _ _ _ htl.1 (by rw [←cI];exact dw hnm.1) fH.ok hadd).1,by rw [fE,dx (by omega),cI,hadd];rfl⟩) (by show (nd ns k).aj.length-((j+1))<(nd ns k).aj.length-j;omega) (λ_=>by kernel_rfl) rfl (by kernel_rfl)
   replace hG:=hG.le d8
   replace di:=di.le d8
   replace hle0:=hle0.trans d8
   refine af.aq (k':=11) (fr':=[(0,.pointer (some ⟨aF,0,none⟩)),(2,.string p),(8,.bool (decide ((((s.out.length:Nat):Int):Int)=(0:Int)))),(101,.slice (L.eA k) ((nd ns k).aj.length) ((L.eC k))),(102,.int .i64 ↑((nd ns k).aj.length)),(103,.int .i64 ↑j),(126,.bool true)]) (ak:=[]) [o_] [0,2,8,101,102,103,126] (λ_ _=>by kernel_rfl) trivial ?_
   refine af.nil (by kernel_rfl) (ah.next ?_)
   refine ai.bL (λ_=>by kernel_rfl) ?_
   refine ai.seq (ai.region (af.aq (k':=1) (fr':=[(6,.bool false)]) (ak:=[]) [o_] [6] (λ_ _=>by kernel_rfl) trivial ?_))
   refine af.nil (by kernel_rfl) (ah.next (ai.ret (ah.aG (ah.ay (ah.ay (ah.aG (ah.ay ?_)))))))
   exact ah.eW (v:=.bool false) (l:=[]) (ak:=[]) [] [0] hle0 (λ_=>by kernel_rfl) trivial rfl (by kernel_rfl) (.inr ⟨by rw [hst,fE,dx (by omega),cI,hadd];rfl,rfl,rfl⟩)
  refine ai.exit (ah.aH (ah.aH (ah.bg (ah.next (ai.seq (ai.region ?_))))))
  refine af.aq (k':=1) (fr':=[(6,.bool true)]) (ak:=[]) [o_] [6] (λ_ _=>by kernel_rfl) trivial ?_
  refine af.nil (by kernel_rfl) (ah.next (ai.ret ?_))
  exact ah.eW (v:=.bool true) (l:=[.blk aF [.map (some mb),.slice cV (s2.out.length) (cW),.map (some mp),.int .i64 ↑s2.sum] 84,.abs (aE Try.prog 3 mb (mf (bf A ns ns.length)) ns.length),.abs (aE Try.prog 3 mp (mf (aY ns s2.fst)) s2.cnt),.abs (av 51 10 cV s2.out.length cW (aI M2 s2.out))]) (ak:=[]) [] [0,1,2,3,4] hle0 (λ_=>by kernel_rfl) trivial rfl (by kernel_rfl) (.inl ⟨s2,cV,cW,M2,by rw [hst,fE,jg (by omega)],rfl,di,rfl⟩)
 refine ai.dL (S:=[.blk aF [.map (some mb),.slice Ao (s.out.length) (co),.map (some mp),.int .i64 ↑(s.sum+((p:ByteArray).size))] 84,.abs (aE Try.prog 3 mb (mf (bf A ns ns.length)) ns.length),.abs (aE Try.prog 3 mp (mf (aY ns s.fst)) s.cnt)]) [0,1,2,3,4,5,6,7,8,9,10,11,12,13,14,15,16,17,18,19,20,21,22,23,24,25,26,27,28,29,30,31,32,33] 32 [0,1,2] (by kernel_rfl) (by kernel_rfl) rfl (by kernel_rfl) ?_
 refine aX.reads (r:=3) (l:=[29,30,31,32,33]) (fr':=[(0,.pointer (some ⟨aF,0,none⟩)),(1,.pointer (some ⟨(au A),ar A+k*10,none⟩)),(2,.string p),(26,.string p),(30,.int .i64 ((nd ns k).kind)),(34,.int .i64 ((nd ns k).mode)),(38,.int .i64 ((nd ns k).uid)),(42,.int .i64 ((nd ns k).gid)),(46,.agg #[.int .i64 ((nd ns k).sec),.int .i64 ((nd ns k).nano)]),(50,.map (some mp)),(54,.int .i64 ((nd ns k).id))]) (ak:=[(Rd β ⟨(au A),ar A+k*10,none⟩ (.int .i64 ((nd ns k).id))),aF=aF,(Rd β ⟨(au A),ar A+k*10+5+1,none⟩ (.int .i64 ((nd ns k).nano))),(Rd β ⟨(au A),ar A+k*10+5,none⟩ (.int .i64 ((nd ns k).sec))),(Rd β ⟨(au A),ar A+k*10+4,none⟩ (.int .i64 ((nd ns k).gid))),(Rd β ⟨(au A),ar A+k*10+3,none⟩ (.int .i64 ((nd ns k).uid))),(Rd β ⟨(au A),ar A+k*10+2,none⟩ (.int .i64 ((nd ns k).mode))),(Rd β ⟨(au A),ar A+k*10+1,none⟩ (.int .i64 ((nd ns k).kind)))]) [0,1,2,3,4,5,6,7,8,9,10,11,12,13,14,15,16,17,18,19,20,21,22,23,24,25,26,27,28] [o_,o_,o_,o_,⟨[.old (.int .i64 ((nd ns k).kind))],none,none,none,none⟩,o_,o_,o_,⟨[.old (.int .i64 ((nd ns k).mode))],none,none,none,none⟩,o_,o_,o_,⟨[.old (.int .i64 ((nd ns k).uid))],none,none,none,none⟩,o_,o_,o_,⟨[.old (.int .i64 ((nd ns k).gid))],none,none,none,none⟩,o_,o_,o_,⟨[.old (.int .i64 ((nd ns k).sec)),.old (.int .i64 ((nd ns k).nano))],none,none,none,none⟩,o_,o_,o_,⟨[.at 0],none,none,none,none⟩,o_,o_,o_,⟨[.old (.int .i64 ((nd ns k).id))],none,none,none,none⟩] [0,1,2,26,30,34,38,42,46,50,54] (λ_=>by kernel_rfl) ⟨aA.rd hG (i:=k) (by omega) (j:=0) rfl,rfl,aA.rd hG (i:=k) (by omega) (j:=6) rfl,aA.rd hG (i:=k) (by omega) (j:=5) rfl,aA.rd hG (i:=k) (by omega) (j:=4) rfl,aA.rd hG (i:=k) (by omega) (j:=3) rfl,aA.rd hG (i:=k) (by omega) (j:=2) rfl,aA.rd hG (i:=k) (by omega) (j:=1) rfl,trivial⟩ rfl rfl ?_
 refine aX.dO 2 (d:=(some 55)) (t:=82) (K:=3) (E:=115) (b:=mp) (cnt:=s.cnt) (f:=(mf (aY ns s.fst))) (x:=(.tmp 50)) (ix:=(.tmp 54)) (key:=.int .i64 ((nd ns k).id)) (z:=.agg #[.string ⟨#[]⟩]) (kl:=(.int .i64 (nd ns k).id)) (q:=(some (.agg #[.string (s.fst k)]))) (by kernel_rfl) (by kernel_rfl) (λ_=>by kernel_rfl) (λ_=>by kernel_rfl) fC Try.underlying82 (λ_=>by kernel_rfl) (fI (hB.node k hk).ids.1.1 (hB.node k hk).ids.1.2) (uT hok.rise hk fK) (by kernel_rfl) ?_
 refine aX.reads (r:=0) (l:=[32,33]) (fr':=[(0,.pointer (some ⟨aF,0,none⟩)),(1,.pointer (some ⟨(au A),ar A+k*10,none⟩)),(2,.string p),(57,.agg #[.string p,.int .i64 ((nd ns k).kind),.int .i64 ((nd ns k).mode),.int .i64 ((nd ns k).uid),.int .i64 ((nd ns k).gid),.int .i64 ((nd ns k).sec),.int .i64 ((nd ns k).nano),.slice none (0) (0),.string ⟨#[]⟩,.string (s.fst k)])]) (ak:=[]) [30,31] [o_,o_] [0,1,2,57] (λ_=>by kernel_rfl) trivial rfl rfl ?_
 refine aX.cut (ι:=Nat) (fr':=λ(b10:Nat)=>[(0,.pointer (some ⟨aF,0,none⟩)),(1,.pointer (some ⟨(au A),ar A+k*10,none⟩)),(2,.string p),(7,.pointer (some ⟨b10,0,none⟩)),(57,.agg #[.string p,.int .i64 ((nd ns k).kind),.int .i64 ((nd ns k).mode),.int .i64 ((nd ns k).uid),.int .i64 ((nd ns k).gid),.int .i64 ((nd ns k).sec),.int .i64 ((nd ns k).nano),.slice none (0) (0),.string ⟨#[]⟩,.string (s.fst k)])]) (hp':=λ(b10:Nat)=>[.blk aF [.map (some mb),.slice Ao (s.out.length) (co),.map (some mp),.int .i64 ↑(s.sum+((p:ByteArray).size))] 84,.abs (aE Try.prog 3 mb (mf (bf A ns ns.length)) ns.length),.abs (aE Try.prog 3 mp (mf (aY ns s.fst)) s.cnt),.abs (av 51 10 Ao s.out.length co (aI M s.out)),.abs R,.blk b10 [.string ⟨#[]⟩,.int .i64 0,.int .i64 0,.int .i64 0,.int .i64 0,.int .i64 0,.int .i64 0,.slice none (0) (0),.string ⟨#[]⟩,.string ⟨#[]⟩] 51]) [0,1,2] rfl rfl ?_ rfl (λ_=>by kernel_rfl) ?_
 ·refine af.bD (k':=1) (fr':=λb10=>[(0,.pointer (some ⟨aF,0,none⟩)),(1,.pointer (some ⟨(au A),ar A+k*10,none⟩)),(2,.string p),(7,.pointer (some ⟨b10,0,none⟩)),(57,.agg #[.string p,.int .i64 ((nd ns k).kind),.int .i64 ((nd ns k).mode),.int .i64 ((nd ns k).uid),.int .i64 ((nd ns k).gid),.int .i64 ((nd ns k).sec),.int .i64 ((nd ns k).nano),.slice none (0) (0),.string ⟨#[]⟩,.string (s.fst k)])]) (aL:=λb10=>[.blk aF [.map (some mb),.slice Ao (s.out.length) (co),.map (some mp),.int .i64 ↑(s.sum+((p:ByteArray).size))] 84,.abs (aE Try.prog 3 mb (mf (bf A ns ns.length)) ns.length),.abs (aE Try.prog 3 mp (mf (aY ns s.fst)) s.cnt),.abs (av 51 10 Ao s.out.length co (aI M s.out)),.abs R,.blk b10 [.string ⟨#[]⟩,.int .i64 0,.int .i64 0,.int .i64 0,.int .i64 0,.int .i64 0,.int .i64 0,.slice none (0) (0),.string ⟨#[]⟩,.string ⟨#[]⟩] 51]) (ak:=λb10=>[]) [o_] [0,1,2,7,57] [0,1,2,3,4,5] (λ_ _=>by kernel_rfl) (λb10=>trivial) (λb10=>?_)
  refine af.nil (by kernel_rfl) ?_
  exact ah.mid b10 (idx:=[0,1,2,7,57]) (pk:=[0,1,2,3,4,5]) (λ_=>by kernel_rfl) rfl (by kernel_rfl)
 rintro b10
 refine aX.last rfl rfl ?_
 refine af.seg (k':=1) (fr':=[(0,.pointer (some ⟨aF,0,none⟩)),(1,.pointer (some ⟨(au A),ar A+k*10,none⟩)),(2,.string p),(7,.pointer (some ⟨b10,0,none⟩))]) (aL:=[.blk aF [.map (some mb),.slice Ao (s.out.length) (co),.map (some mp),.int .i64 ↑(s.sum+((p:ByteArray).size))] 84,.abs (aE Try.prog 3 mb (mf (bf A ns ns.length)) ns.length),.abs (aE Try.prog 3 mp (mf (aY ns s.fst)) s.cnt),.abs (av 51 10 Ao s.out.length co (aI M s.out)),.abs R,.blk b10 (cg (nd ns k) p none (0) 0 (⟨#[]⟩) (s.fst k)) 51]) (ak:=[b10=b10,b10=b10,b10=b10,b10=b10,b10=b10,b10=b10,b10=b10,b10=b10,b10=b10,b10=b10]) [⟨[.at 5,.at 5,.at 5,.at 5,.at 5,.at 5,.at 5,.at 5,.at 5,.at 5],none,none,none,none⟩] [0,1,2,7] [0,1,2,3,4,5] (λ_ _=>by kernel_rfl) ⟨rfl,rfl,rfl,rfl,rfl,rfl,rfl,rfl,rfl,rfl,trivial⟩ ?_
 refine af.nil (by kernel_rfl) (ah.np (ah.next (ai.seq (ai.seq (ai.region ?_)))))
 refine af.aq (k':=3) (fr':=[(0,.pointer (some ⟨aF,0,none⟩)),(1,.pointer (some ⟨(au A),ar A+k*10,none⟩)),(2,.string p),(7,.pointer (some ⟨b10,0,none⟩)),(60,.bool (decide (((s.fst k):ByteArray)=⟨#[]⟩)))]) (ak:=[(Value.bool (((s.fst k):ByteArray).toList == (⟨#[]⟩:ByteArray).toList))=(.bool (decide (((s.fst k):ByteArray)=⟨#[]⟩))),b10=b10]) [o_,⟨[.at 5],none,none,none,none⟩,⟨[],none,none,none,some (.bool (decide (((s.fst k):ByteArray)=⟨#[]⟩)))⟩] [0,1,2,7,60] (λ_ _=>by kernel_rfl) ⟨eH _ _,rfl,trivial⟩ ?_
 refine af.nil (by kernel_rfl) (ah.next ?_)
 refine ai.aV (p:=((s.fst k):ByteArray)=⟨#[]⟩) (λ_=>by kernel_rfl) (λoA=>?_) (λoA=>?_)
 ·exact absurd oA fK
 refine ai.skip (ah.next (ai.seq (ai.region ?_)))
 refine af.aZ 2 (p:=.abs (aE Try.prog 3 mp (mf (aY ns s.fst)) s.cnt)) (p':=.abs (aE Try.prog 3 mp (mf (aY ns (push ns k p s).fst)) ((push ns k p s).cnt))) (by kernel_rfl) (by rw [(iX fK).1,(iX fK).2]) ?_
 refine af.aq (k':=7) (fr':=[(0,.pointer (some ⟨aF,0,none⟩)),(1,.pointer (some ⟨(au A),ar A+k*10,none⟩)),(2,.string p),(7,.pointer (some ⟨b10,0,none⟩)),(8,.bool (decide ((((s.out.length:Nat):Int):Int)=(0:Int))))]) (ak:=[aF=aF]) [o_,o_,o_,⟨[.at 0],none,none,none,none⟩,o_,o_,o_] [0,1,2,7,8] (λ_ _=>by kernel_rfl) ⟨rfl,trivial⟩ ?_
 refine af.nil (by kernel_rfl) (ah.next (ai.seq ?_))
 refine ai.dL (S:=[.blk aF [.map (some mb),.slice Ao (s.out.length) (co),.map (some mp),.int .i64 ↑(s.sum+((p:ByteArray).size))] 84,.blk b10 (cg (nd ns k) p none (0) 0 (⟨#[]⟩) (s.fst k)) 51]) [0,1,2,3,4,5,6,7,8,9,10] 6 [0,5] (by kernel_rfl) (by kernel_rfl) rfl (by kernel_rfl) ?_
 refine aX.reads (r:=0) (l:=[6,7,8,9,10]) (fr':=[(0,.pointer (some ⟨aF,0,none⟩)),(1,.pointer (some ⟨(au A),ar A+k*10,none⟩)),(2,.string p),(8,.bool (decide ((((s.out.length:Nat):Int):Int)=(0:Int)))),(88,.pointer (some ⟨aF,0,none⟩)),(92,.slice Ao (s.out.length) (co)),(93,.agg #[.string p,.int .i64 ((nd ns k).kind),.int .i64 ((nd ns k).mode),.int .i64 ((nd ns k).uid),.int .i64 ((nd ns k).gid),.int .i64 ((nd ns k).sec),.int .i64 ((nd ns k).nano),.slice none (0) (0),.string ⟨#[]⟩,.string (s.fst k)])]) (ak:=[b10=b10,b10=b10,b10=b10,b10=b10,b10=b10,b10=b10,b10=b10,b10=b10,b10=b10,b10=b10,aF=aF]) [0,1,2,3,4,5] [o_,o_,o_,o_,⟨[.at 0],none,none,none,none⟩,⟨[.at 1,.at 1,.at 1,.at 1,.at 1,.at 1,.at 1,.at 1,.at 1,.at 1],none,none,none,none⟩] [0,1,2,8,88,92,93] (λ_=>by kernel_rfl) ⟨rfl,rfl,rfl,rfl,rfl,rfl,rfl,rfl,rfl,rfl,rfl,trivial⟩ rfl rfl ?_
 refine aX.cut (ι:=Nat) (fr':=λ(b11:Nat)=>[(0,.pointer (some ⟨aF,0,none⟩)),(1,.pointer (some ⟨(au A),ar A+k*10,none⟩)),(2,.string p),(8,.bool (decide ((((s.out.length:Nat):Int):Int)=(0:Int)))),(88,.pointer (some ⟨aF,0,none⟩)),(92,.slice Ao (s.out.length) (co)),(94,.slice (some ⟨b11,0,none⟩) (1) (1))]) (hp':=λ(b11:Nat)=>[.blk aF [.map (some mb),.slice Ao (s.out.length) (co),.map (some mp),.int .i64 ↑(s.sum+((p:ByteArray).size))] 84,.abs (aE Try.prog 3 mb (mf (bf A ns ns.length)) ns.length),.abs (aE Try.prog 3 mp (mf (aY ns (push ns k p s).fst)) ((push ns k p s).cnt)),.abs (av 51 10 Ao s.out.length co (aI M s.out)),.abs R,.blk b10 (cg (nd ns k) p none (0) 0 (⟨#[]⟩) (s.fst k)) 51,.blk b11 (cg (nd ns k) p none (0) 0 (⟨#[]⟩) (s.fst k)) 51]) [0,5] rfl rfl ?_ rfl (λ_=>by kernel_rfl) ?_
 ·refine af.bD (k':=1) (fr':=λb11=>[(0,.pointer (some ⟨aF,0,none⟩)),(1,.pointer (some ⟨(au A),ar A+k*10,none⟩)),(2,.string p),(8,.bool (decide ((((s.out.length:Nat):Int):Int)=(0:Int)))),(88,.pointer (some ⟨aF,0,none⟩)),(92,.slice Ao (s.out.length) (co)),(94,.slice (some ⟨b11,0,none⟩) (1) (1))]) (aL:=λb11=>[.blk aF [.map (some mb),.slice Ao (s.out.length) (co),.map (some mp),.int .i64 ↑(s.sum+((p:ByteArray).size))] 84,.abs (aE Try.prog 3 mb (mf (bf A ns ns.length)) ns.length),.abs (aE Try.prog 3 mp (mf (aY ns (push ns k p s).fst)) ((push ns k p s).cnt)),.abs (av 51 10 Ao s.out.length co (aI M s.out)),.abs R,.blk b10 (cg (nd ns k) p none (0) 0 (⟨#[]⟩) (s.fst k)) 51,.blk b11 (cg (nd ns k) p none (0) 0 (⟨#[]⟩) (s.fst k)) 51]) (ak:=λb11=>[]) [o_] [0,1,2,8,88,92,94] [0,1,2,3,4,5,6] (λ_ _=>by kernel_rfl) (λb11=>trivial) (λb11=>?_)
  refine af.nil (by kernel_rfl) ?_
  exact ah.mid b11 (idx:=[0,1,2,8,88,92,94]) (pk:=[0,1,2,3,4,5,6]) (λ_=>by kernel_rfl) rfl (by kernel_rfl)
 rintro b11
 refine aX.cut (ι:=(Option Addr)×Nat) (fr':=λ((bq,br):(Option Addr)×Nat)=>[(0,.pointer (some ⟨aF,0,none⟩)),(1,.pointer (some ⟨(au A),ar A+k*10,none⟩)),(2,.string p),(8,.bool (decide ((((s.out.length:Nat):Int):Int)=(0:Int)))),(88,.pointer (some ⟨aF,0,none⟩)),(95,.slice bq ((push ns k p s).out.length) (br))]) (hp':=λ((bq,br):(Option Addr)×Nat)=>[.blk aF [.map (some mb),.slice Ao (s.out.length) (co),.map (some mp),.int .i64 ↑(s.sum+((p:ByteArray).size))] 84,.abs (aE Try.prog 3 mb (mf (bf A ns ns.length)) ns.length),.abs (aE Try.prog 3 mp (mf (aY ns (push ns k p s).fst)) ((push ns k p s).cnt)),.abs (av 51 10 bq ((push ns k p s).out.length) br (aI (M.put s.out.length none 0) (push ns k p s).out)),.abs R,.blk b10 (cg (nd ns k) p none (0) 0 (⟨#[]⟩) (s.fst k)) 51,.blk b11 (cg (nd ns k) p none (0) 0 (⟨#[]⟩) (s.fst k)) 51]) [0,5] rfl rfl ?_ rfl (λ_=>by kernel_rfl) ?_
 ·refine af.append 3 (d:=(some 95)) (t:=46) (e:=51) (z:=.agg #[.string ⟨#[]⟩,.int .i64 0,.int .i64 0,.int .i64 0,.int .i64 0,.int .i64 0,.int .i64 0,.slice none (0) (0),.string ⟨#[]⟩,.string ⟨#[]⟩]) (size:=10) (bytes:=120) (n:=s.out.length) (cap:=co) (A:=Ao) (xs:=(aI M s.out)) (s:=(.tmp 92)) (x:=(.tmp 94)) (ats:=#[46,46]) (A':=some ⟨b11,0,none⟩) (m:=1) (c':=1) (news:=(cg (nd ns k) p none (0) 0 (⟨#[]⟩) (s.fst k))) (λ_=>by kernel_rfl) rfl (by kernel_rfl) (λ_=>by kernel_rfl) (λ_=>by kernel_rfl) Try.underlying46 (by kernel_rfl) rfl (by decide) (rfl) (by simp [cg,Value.oneCell']) (dS (j:=6) rfl) (by unfold maxLen;omega) (by omega) (λbq br=>?_)
  refine af.aZ 3 (p:=.abs (av 51 10 bq (s.out.length+1) br ((aI M s.out)++(cg (nd ns k) p none (0) 0 (⟨#[]⟩) (s.fst k))))) (p':=.abs (av 51 10 bq ((push ns k p s).out.length) br (aI (M.put s.out.length none 0) (push ns k p s).out))) (by kernel_rfl) (by rw [dr,dH,←ia,iY _ _ fK];rfl) ?_
  refine af.slot 95 (.slice bq (s.out.length+1) (br)) (.slice bq ((push ns k p s).out.length) (br)) (λ_=>by kernel_rfl) (by rw [dr]) ?_
  refine af.nil (by kernel_rfl) ?_
  exact ah.mid (bq,br) (idx:=[0,1,2,8,88,95]) (pk:=[0,1,2,3,4,5,6]) (λ_=>by kernel_rfl) rfl (by kernel_rfl)
 rintro⟨bq,br⟩
 refine aX.cut (ι:=Unit) (fr':=λ(_:Unit)=>[(0,.pointer (some ⟨aF,0,none⟩)),(1,.pointer (some ⟨(au A),ar A+k*10,none⟩)),(2,.string p),(8,.bool (decide ((((s.out.length:Nat):Int):Int)=(0:Int)))),(95,.slice bq ((push ns k p s).out.length) (br)),(96,.pointer (some ⟨aF,0,none⟩))]) (hp':=λ(_:Unit)=>[.blk aF [.map (some mb),.slice Ao (s.out.length) (co),.map (some mp),.int .i64 ↑(s.sum+((p:ByteArray).size))] 84,.abs (aE Try.prog 3 mb (mf (bf A ns ns.length)) ns.length),.abs (aE Try.prog 3 mp (mf (aY ns (push ns k p s).fst)) ((push ns k p s).cnt)),.abs (av 51 10 bq ((push ns k p s).out.length) br (aI (M.put s.out.length none 0) (push ns k p s).out)),.abs R,.blk b10 (cg (nd ns k) p none (0) 0 (⟨#[]⟩) (s.fst k)) 51,.blk b11 (cg (nd ns k) p none (0) 0 (⟨#[]⟩) (s.fst k)) 51]) [0,5] rfl rfl ?_ rfl (λ_=>by kernel_rfl) ?_
 ·refine af.aq (k':=1) (fr':=[(0,.pointer (some ⟨aF,0,none⟩)),(1,.pointer (some ⟨(au A),ar A+k*10,none⟩)),(2,.string p),(8,.bool (decide ((((s.out.length:Nat):Int):Int)=(0:Int)))),(95,.slice bq ((push ns k p s).out.length) (br)),(96,.pointer (some ⟨aF,0,none⟩))]) (ak:=[]) [o_] [0,1,2,8,95,96] (λ_ _=>by kernel_rfl) trivial ?_
  refine af.nil (by kernel_rfl) ?_
  exact ah.mid () (idx:=[0,1,2,8,95,96]) (pk:=[0,1,2,3,4,5,6]) (λ_=>by kernel_rfl) rfl (by kernel_rfl)
 rintro _
 refine aX.cut (ι:=Unit) (fr':=λ(_:Unit)=>[(0,.pointer (some ⟨aF,0,none⟩)),(1,.pointer (some ⟨(au A),ar A+k*10,none⟩)),(2,.string p),(8,.bool (decide ((((s.out.length:Nat):Int):Int)=(0:Int)))),(95,.slice bq ((push ns k p s).out.length) (br)),(97,.pointer (some ⟨aF,1,none⟩))]) (hp':=λ(_:Unit)=>[.blk aF [.map (some mb),.slice Ao (s.out.length) (co),.map (some mp),.int .i64 ↑(s.sum+((p:ByteArray).size))] 84,.abs (aE Try.prog 3 mb (mf (bf A ns ns.length)) ns.length),.abs (aE Try.prog 3 mp (mf (aY ns (push ns k p s).fst)) ((push ns k p s).cnt)),.abs (av 51 10 bq ((push ns k p s).out.length) br (aI (M.put s.out.length none 0) (push ns k p s).out)),.abs R,.blk b10 (cg (nd ns k) p none (0) 0 (⟨#[]⟩) (s.fst k)) 51,.blk b11 (cg (nd ns k) p none (0) 0 (⟨#[]⟩) (s.fst k)) 51]) [0,5] rfl rfl ?_ rfl (λ_=>by kernel_rfl) ?_
 ·refine af.aq (k':=1) (fr':=[(0,.pointer (some ⟨aF,0,none⟩)),(1,.pointer (some ⟨(au A),ar A+k*10,none⟩)),(2,.string p),(8,.bool (decide ((((s.out.length:Nat):Int):Int)=(0:Int)))),(95,.slice bq ((push ns k p s).out.length) (br)),(97,.pointer (some ⟨aF,1,none⟩))]) (ak:=[]) [o_] [0,1,2,8,95,97] (λ_ _=>by kernel_rfl) trivial ?_
  refine af.nil (by kernel_rfl) ?_
  exact ah.mid () (idx:=[0,1,2,8,95,97]) (pk:=[0,1,2,3,4,5,6]) (λ_=>by kernel_rfl) rfl (by kernel_rfl)
 rintro _
 refine aX.last rfl rfl ?_
 refine af.seg (k':=1) (fr':=[(0,.pointer (some ⟨aF,0,none⟩)),(1,.pointer (some ⟨(au A),ar A+k*10,none⟩)),(2,.string p),(8,.bool (decide ((((s.out.length:Nat):Int):Int)=(0:Int))))]) (aL:=[.blk aF [.map (some mb),.slice bq ((push ns k p s).out.length) (br),.map (some mp),.int .i64 ↑(s.sum+((p:ByteArray).size))] 84,.abs (aE Try.prog 3 mb (mf (bf A ns ns.length)) ns.length),.abs (aE Try.prog 3 mp (mf (aY ns (push ns k p s).fst)) ((push ns k p s).cnt)),.abs (av 51 10 bq ((push ns k p s).out.length) br (aI (M.put s.out.length none 0) (push ns k p s).out)),.abs R,.blk b10 (cg (nd ns k) p none (0) 0 (⟨#[]⟩) (s.fst k)) 51,.blk b11 (cg (nd ns k) p none (0) 0 (⟨#[]⟩) (s.fst k)) 51]) (ak:=[aF=aF]) [⟨[.at 0],none,none,none,none⟩] [0,1,2,8] [0,1,2,3,4,5,6] (λ_ _=>by kernel_rfl) ⟨rfl,trivial⟩ ?_
 refine af.nil (by kernel_rfl) (ah.np (ah.next (ai.seq (ai.seq (ai.region ?_)))))
 refine af.aZ 0 (p:=.blk aF [.map (some mb),.slice bq ((push ns k p s).out.length) (br),.map (some mp),.int .i64 ↑(s.sum+((p:ByteArray).size))] 84) (p':=.blk aF [.map (some mb),.slice bq ((push ns k p s).out.length) (br),.map (some mp),.int .i64 ↑((push ns k p s).sum)] 84) (by kernel_rfl) (by rw [dc]) ?_
 refine af.aq (k':=6) (fr':=[(0,.pointer (some ⟨aF,0,none⟩)),(2,.string p),(8,.bool (decide ((((s.out.length:Nat):Int):Int)=(0:Int)))),(101,.slice (L.eA k) ((nd ns k).aj.length) ((L.eC k))),(102,.int .i64 ↑((nd ns k).aj.length)),(103,.int .i64 0)]) (ak:=[(Rd β ⟨(au A),ar A+k*10+9,none⟩ (.slice (L.eA k) ((nd ns k).aj.length) ((L.eC k))))]) [o_,o_,o_,⟨[.old (.slice (L.eA k) ((nd ns k).aj.length) ((L.eC k)))],none,none,none,none⟩,o_,o_] [0,2,8,101,102,103] (λ_ _=>by kernel_rfl) ⟨aA.rd hG (i:=k) (by omega) (j:=9) rfl,trivial⟩ ?_
 refine af.nil (by kernel_rfl) (ah.next (ai.block ?_))
 refine ai.oR (ι:=Nat×Bs×TS×(Option Addr)×Nat×cQ) (λ((j,b,s2,cV,cW,M2):Nat×Bs×TS×(Option Addr)×Nat×cQ)=>b) (λ((j,b,s2,cV,cW,M2):Nat×Bs×TS×(Option Addr)×Nat×cQ)=>(j<=(nd ns k).aj.length)/\(β.le b)/\(aA b A ns L)/\(bJ b s2.out M2)/\(Behind (push ns k p s) s2)/\(bR (λe s'=>bP ns f (tgt ns e.id) (below s.out.length p e.name) s') (nd ns k).aj (push ns k p s)=bR (λe s'=>bP ns f (tgt ns e.id) (below s.out.length p e.name) s') ((nd ns k).aj.drop j) s2)) (λ((j,b,s2,cV,cW,M2):Nat×Bs×TS×(Option Addr)×Nat×cQ)=>(nd ns k).aj.length-j) (λ((j,b,s2,cV,cW,M2):Nat×Bs×TS×(Option Addr)×Nat×cQ)=>[(0,.pointer (some ⟨aF,0,none⟩)),(2,.string p),(8,.bool (decide ((((s.out.length:Nat):Int):Int)=(0:Int)))),(101,.slice (L.eA k) ((nd ns k).aj.length) ((L.eC k))),(102,.int .i64 ↑((nd ns k).aj.length)),(103,.int .i64 ↑j)]) (λ((j,b,s2,cV,cW,M2):Nat×Bs×TS×(Option Addr)×Nat×cQ)=>[.blk aF [.map (some mb),.slice cV (s2.out.length) (cW),.map (some mp),.int .i64 ↑s2.sum] 84,.abs (aE Try.prog 3 mb (mf (bf A ns ns.length)) ns.length),.abs (aE Try.prog 3 mp (mf (aY ns s2.fst)) s2.cnt),.abs (av 51 10 cV s2.out.length cW (aI M2 s2.out)),.abs R]) (0,β,(push ns k p s),bq,br,(M.put s.out.length none 0)) rfl (idx:=[0,2,8,101,102,103]) (pk:=[0,1,2,3,4]) (show (0<=(nd ns k).aj.length)/\(β.le β)/\(aA β A ns L)/\(bJ β ((push ns k p s)).out ((M.put s.out.length none 0)))/\(Behind (push ns k p s) ((push ns k p s)))/\(bR (λe s'=>bP ns f (tgt ns e.id) (below s.out.length p e.name) s') (nd ns k).aj (push ns k p s)=bR (λe s'=>bP ns f (tgt ns e.id) (below s.out.length p e.name) s') ((nd ns k).aj.drop 0) ((push ns k p s))) from ⟨Nat.zero_le _,hle0,hG,by rw [dH];exact bJ.snoc di (by rw [iY _ _ fK];exact cK.nil),⟨hs.push hp (by omega),Nat.le_refl _,Nat.le_refl _⟩,rfl⟩) (λ_=>by kernel_rfl) rfl (by kernel_rfl) ?_
 rintro⟨j,b,s2,cV,cW,M2⟩ ⟨hj,hle0,hG,di,fH,fE⟩
 show ai _ b _ _ [(0,.pointer (some ⟨aF,0,none⟩)),(2,.string p),(8,.bool (decide ((((s.out.length:Nat):Int):Int)=(0:Int)))),(101,.slice (L.eA k) ((nd ns k).aj.length) ((L.eC k))),(102,.int .i64 ↑((nd ns k).aj.length)),(103,.int .i64 ↑j)] [.blk aF [.map (some mb),.slice cV (s2.out.length) (cW),.map (some mp),.int .i64 ↑s2.sum] 84,.abs (aE Try.prog 3 mb (mf (bf A ns ns.length)) ns.length),.abs (aE Try.prog 3 mp (mf (aY ns s2.fst)) s2.cnt),.abs (av 51 10 cV s2.out.length cW (aI M2 s2.out)),.abs R] _
 have hd3:=hB.hd k hk
 have hnl:=hok.named k hk
 refine ai.seq (ai.region (af.aq (k':=1) (fr':=[(0,.pointer (some ⟨aF,0,none⟩)),(2,.string p),(8,.bool (decide ((((s.out.length:Nat):Int):Int)=(0:Int)))),(101,.slice (L.eA k) ((nd ns k).aj.length) ((L.eC k))),(102,.int .i64 ↑((nd ns k).aj.length)),(103,.int .i64 ↑j),(104,.bool (decide ((((j:Nat):Int):Int)<((((nd ns k).aj.length:Nat):Int):Int))))]) (ak:=[]) [o_] [0,2,8,101,102,103,104] (λ_ _=>by kernel_rfl) trivial ?_))
 refine af.nil (by kernel_rfl) (ah.next (ai.seq ?_))
 refine ai.aV (p:=(((j:Nat):Int):Int)<((((nd ns k).aj.length:Nat):Int):Int)) (λ_=>by kernel_rfl) (λkU=>?_) (λkU=>?_)
 ·refine ai.skip (ah.next (ai.seq (ai.block (ai.seq (ai.region ?_)))))
  refine af.bD (k':=4) (fr':=λb14=>[(0,.pointer (some ⟨aF,0,none⟩)),(2,.string p),(8,.bool (decide ((((s.out.length:Nat):Int):Int)=(0:Int)))),(10,.pointer (some ⟨b14,0,none⟩)),(101,.slice (L.eA k) ((nd ns k).aj.length) ((L.eC k))),(102,.int .i64 ↑((nd ns k).aj.length)),(103,.int .i64 ↑j)]) (aL:=λb14=>[.blk aF [.map (some mb),.slice cV (s2.out.length) (cW),.map (some mp),.int .i64 ↑s2.sum] 84,.abs (aE Try.prog 3 mb (mf (bf A ns ns.length)) ns.length),.abs (aE Try.prog 3 mp (mf (aY ns s2.fst)) s2.cnt),.abs (av 51 10 cV s2.out.length cW (aI M2 s2.out)),.abs R,.blk b14 [.string (en (nd ns k).aj j).name,.int .i64 ((en (nd ns k).aj j).id)] 72]) (ak:=λb14=>[b14=b14,b14=b14,(Rd b ⟨(au (L.eA k)),ar (L.eA k)+j*2+1,none⟩ (.int .i64 ((en (nd ns k).aj j).id))),(Rd b ⟨(au (L.eA k)),ar (L.eA k)+j*2,none⟩ (.string (en (nd ns k).aj j).name)),((j:Nat):Int)=((j:Nat):Int),j<(nd ns k).aj.length,(⟨(au (L.eA k)),ar (L.eA k),none⟩:Addr).spot=none,((L.eA k):Option Addr)=some ⟨(au (L.eA k)),ar (L.eA k),none⟩]) [⟨[],some j,none,some ⟨(au (L.eA k)),ar (L.eA k),none⟩,none⟩,⟨[.old (.string (en (nd ns k).aj j).name),.old (.int .i64 ((en (nd ns k).aj j).id))],none,none,none,none⟩,o_,⟨[.at 5,.at 5],none,none,none,none⟩] [0,2,8,10,101,102,103] [0,1,2,3,4,5] (λ_ _=>by kernel_rfl) (λb14=>⟨rfl,rfl,bh.rd (hG.aj k (by omega)) (i:=j) (by omega) (j:=1) rfl,bh.rd (hG.aj k (by omega)) (i:=j) (by omega) (j:=0) rfl,rfl,by omega,rfl,bh.hd (hG.aj k (by omega)) (i:=j) (by omega),trivial⟩) (λb14=>?_)
  refine af.nil (by kernel_rfl) (ah.next (ai.seq (ai.region ?_)))
  refine af.aq (k':=3) (fr':=[(0,.pointer (some ⟨aF,0,none⟩)),(2,.string p),(8,.bool (decide ((((s.out.length:Nat):Int):Int)=(0:Int)))),(10,.pointer (some ⟨b14,0,none⟩)),(11,.string (en (nd ns k).aj j).name),(101,.slice (L.eA k) ((nd ns k).aj.length) ((L.eC k))),(102,.int .i64 ↑((nd ns k).aj.length)),(103,.int .i64 ↑j)]) (ak:=[b14=b14]) [o_,⟨[.at 5],none,none,none,none⟩,o_] [0,2,8,10,11,101,102,103] (λ_ _=>by kernel_rfl) ⟨rfl,trivial⟩ ?_
  refine af.nil (by kernel_rfl) (ah.next (ai.seq (ai.seq (ai.region ?_))))
  refine af.aq (k':=2) (fr':=[(0,.pointer (some ⟨aF,0,none⟩)),(2,.string p),(8,.bool (decide ((((s.out.length:Nat):Int):Int)=(0:Int)))),(10,.pointer (some ⟨b14,0,none⟩)),(11,.string (en (nd ns k).aj j).name),(101,.slice (L.eA k) ((nd ns k).aj.length) ((L.eC k))),(102,.int .i64 ↑((nd ns k).aj.length)),(103,.int .i64 ↑j),(110,.bool (!(decide ((((s.out.length:Nat):Int):Int)=(0:Int)))))]) (ak:=[]) [o_,o_] [0,2,8,10,11,101,102,103,110] (λ_ _=>by kernel_rfl) trivial ?_
  refine af.nil (by kernel_rfl) (ah.next ?_)
  refine ai.cY (p:=(((s.out.length:Nat):Int):Int)=(0:Int)) (λ_=>by kernel_rfl) (λqj=>?_) (λqj=>?_)
  ·have cI:below s.out.length p (en (nd ns k).aj j).name=p++⟨#[47]⟩++(en (nd ns k).aj j).name:=if_neg (by omega)
   refine ai.region (af.aq (k':=1) (fr':=[(0,.pointer (some ⟨aF,0,none⟩)),(2,.string p),(8,.bool (decide ((((s.out.length:Nat):Int):Int)=(0:Int)))),(10,.pointer (some ⟨b14,0,none⟩)),(101,.slice (L.eA k) ((nd ns k).aj.length) ((L.eC k))),(102,.int .i64 ↑((nd ns k).aj.length)),(103,.int .i64 ↑j),(111,.string p)]) (ak:=[]) [o_] [0,2,8,10,101,102,103,111] (λ_ _=>by kernel_rfl) trivial ?_)
   refine af.fU (d:=(some 112)) (t:=9) (t2:=9) (x:=(.tmp 111)) (y:=(.const (.string ⟨#[47]⟩))) (a:=p) (b:=⟨#[47]⟩) (λ_=>by kernel_rfl) (λ_=>by kernel_rfl) (λ_=>by kernel_rfl) (by have jD:(⟨#[47]⟩:ByteArray).size=1:=rfl;omega) ?_
   refine af.aq (k':=4) (fr':=[(0,.pointer (some ⟨aF,0,none⟩)),(2,.string p),(8,.bool (decide ((((s.out.length:Nat):Int):Int)=(0:Int)))),(10,.pointer (some ⟨b14,0,none⟩)),(101,.slice (L.eA k) ((nd ns k).aj.length) ((L.eC k))),(102,.int .i64 ↑((nd ns k).aj.length)),(103,.int .i64 ↑j),(112,.string (p++⟨#[47]⟩)),(114,.string (en (nd ns k).aj j).name)]) (ak:=[b14=b14]) [o_,⟨[.at 5],none,none,none,none⟩] [0,2,8,10,101,102,103,112,114] (λ_ _=>by kernel_rfl) ⟨rfl,trivial⟩ ?_
   refine af.fU (d:=(some 115)) (t:=9) (t2:=9) (x:=(.tmp 112)) (y:=(.tmp 114)) (a:=(p++⟨#[47]⟩)) (b:=(en (nd ns k).aj j).name) (λ_=>by kernel_rfl) (λ_=>by kernel_rfl) (λ_=>by kernel_rfl) (by have jD:(⟨#[47]⟩:ByteArray).size=1:=rfl;have hnz:(en (nd ns k).aj j).name.size<=255:=(hnl j (by omega)).2.1;rw [ByteArray.size_append];omega) ?_
   refine af.aq (k':=6) (fr':=[(0,.pointer (some ⟨aF,0,none⟩)),(2,.string p),(8,.bool (decide ((((s.out.length:Nat):Int):Int)=(0:Int)))),(10,.pointer (some ⟨b14,0,none⟩)),(11,.string ((p++⟨#[47]⟩)++(en (nd ns k).aj j).name)),(101,.slice (L.eA k) ((nd ns k).aj.length) ((L.eC k))),(102,.int .i64 ↑((nd ns k).aj.length)),(103,.int .i64 ↑j)]) (ak:=[]) [o_] [0,2,8,10,11,101,102,103] (λ_ _=>by kernel_rfl) trivial ?_
   refine af.nil (by kernel_rfl) (ah.next (ai.seq ?_))
   refine ai.eY 9 (by kernel_rfl) (by kernel_rfl) ?_
   refine cu.seg (k':=7) (fr':=[(0,.pointer (some ⟨aF,0,none⟩)),(2,.string p),(8,.bool (decide ((((s.out.length:Nat):Int):Int)=(0:Int)))),(11,.string ((p++⟨#[47]⟩)++(en (nd ns k).aj j).name)),(101,.slice (L.eA k) ((nd ns k).aj.length) ((L.eC k))),(102,.int .i64 ↑((nd ns k).aj.length)),(103,.int .i64 ↑j),(116,.pointer (some ⟨aF,0,none⟩)),(120,.map (some mb)),(122,.int .i64 ((en (nd ns k).aj j).id))]) (ak:=[b14=b14,aF=aF]) [o_,o_,o_,o_,⟨[.at 0],none,none,none,none⟩,o_,⟨[.at 5],none,none,none,none⟩] [0,2,8,11,101,102,103,116,120,122] (λ_ _=>by kernel_rfl) ⟨rfl,rfl,trivial⟩ (by decide) ?_
   have hat:=(hok.aj k hk j (by omega)).at_
   have htl:=cH hat
   have hnm:=hok.named k hk j (by omega)
   refine cu.dO 1 (d:=(some 123)) (t:=66) (K:=3) (E:=75) (b:=mb) (cnt:=ns.length) (f:=(mf (bf A ns ns.length))) (x:=(.tmp 120)) (ix:=(.tmp 122)) (key:=.int .i64 ((en (nd ns k).aj j).id)) (z:=.pointer none) (kl:=(.int .i64 (en (nd ns k).aj j).id)) (r:=(some (.pointer (some ⟨(au A),ar A+(tgt ns (en (nd ns k).aj j).id)*10,none⟩)))) (λ_=>by kernel_rfl) (by kernel_rfl) (λ_=>by kernel_rfl) (λ_=>by kernel_rfl) fC Try.underlying66 (λ_=>by kernel_rfl) (fI (hB.hwf k hk j (by omega)).1 (hB.hwf k hk j (by omega)).2) (jE hat htl.1) (by decide) ?_
   refine cu.seg (k':=9) (fr':=[(0,.pointer (some ⟨aF,0,none⟩)),(2,.string p),(8,.bool (decide ((((s.out.length:Nat):Int):Int)=(0:Int)))),(101,.slice (L.eA k) ((nd ns k).aj.length) ((L.eC k))),(102,.int .i64 ↑((nd ns k).aj.length)),(103,.int .i64 ↑j),(116,.pointer (some ⟨aF,0,none⟩)),(123,.pointer (some ⟨(au A),ar A+(tgt ns (en (nd ns k).aj j).id)*10,none⟩)),(124,.string ((p++⟨#[47]⟩)++(en (nd ns k).aj j).name))]) (ak:=[]) [o_] [0,2,8,101,102,103,116,123,124] (λ_ _=>by kernel_rfl) trivial (by decide) ?_
   refine cu.done rfl ?_
   have kz:(tgt ns (en (nd ns k).aj j).id)<ns.length:=htl.1
   have hq1:1<=(((p++⟨#[47]⟩)++(en (nd ns k).aj j).name):ByteArray).size:=by rw [←cI];exact dw hnm.1
   have kV:(((p++⟨#[47]⟩)++(en (nd ns k).aj j).name):ByteArray).size<=8388608:=by rw [←cI];exact gV (by omega) hnm.2.1
   have kW:4194304-s2.sum<f:=by have:=fH.sum;rw [dc] at this;omega
   have rW:=IH _ A ns L M2 s2 (tgt ns (en (nd ns k).aj j).id) ((p++⟨#[47]⟩)++(en (nd ns k).aj j).name) aF mb mp cV cW hG hB hok di kz hq1 kV fH.ok kW
   refine af.fo (d:=(some 125)) (R:=[.abs R,.blk b14 [.string (en (nd ns k).aj j).name,.int .i64 ((en (nd ns k).aj j).id)] 72]) (pk:=[0,1,2,3,4,5]) (λ_=>by kernel_rfl) rW rfl (by kernel_rfl) ?_
   rintro mE _ _ fM (⟨s3,gM,gX,M3,hadd,rfl,gj,rfl⟩|⟨hadd,rfl,rfl⟩)
   ·replace hG:=hG.le fM
    replace di:=di.le fM
    replace hle0:=hle0.trans fM
    refine af.aq (k':=11) (fr':=[(0,.pointer (some ⟨aF,0,none⟩)),(2,.string p),(8,.bool (decide ((((s.out.length:Nat):Int):Int)=(0:Int)))),(101,.slice (L.eA k) ((nd ns k).aj.length) ((L.eC k))),(102,.int .i64 ↑((nd ns k).aj.length)),(103,.int .i64 ↑j),(126,.bool false)]) (ak:=[]) [o_] [0,2,8,101,102,103,126] (λ_ _=>by kernel_rfl) trivial ?_
    refine af.nil (by kernel_rfl) (ah.next ?_)
    refine ai.cU (λ_=>by kernel_rfl) ?_
    refine ai.skip (ah.aJ (ah.next (ai.region ?_)))
    refine af.aq (k':=2) (fr':=[(0,.pointer (some ⟨aF,0,none⟩)),(2,.string p),(8,.bool (decide ((((s.out.length:Nat):Int):Int)=(0:Int)))),(101,.slice (L.eA k) ((nd ns k).aj.length) ((L.eC k))),(102,.int .i64 ↑((nd ns k).aj.length)),(103,.int .i64 ↑(j+1))]) (ak:=[(Value.int .i64 (IntKind.wrap .i64 (((j:Nat):Int)+1)))=(.int .i64 ↑(j+1))]) [⟨[],none,none,none,some (.int .i64 ↑(j+1))⟩,o_] [0,2,8,101,102,103] (λ_ _=>by kernel_rfl) ⟨aP (by omega) (by omega) (by omega),trivial⟩ ?_
    refine af.nil (by kernel_rfl) ?_
    exact ah.ju ((j+1),mE,s3,gM,gX,M3) (hb:=rfl) (idx:=[0,2,8,101,102,103]) (pk:=[0,1,2,3,4]) (show (((j+1))<=(nd ns k).aj.length)/\(β.le mE)/\(aA mE A ns L)/\(bJ mE s3.out M3)/\(Behind (push ns k p s) s3)/\(bR (λe s'=>bP ns f (tgt ns e.id) (below s.out.length p e.name) s') (nd ns k).aj (push ns k p s)=bR (λe s'=>bP ns f (tgt ns e.id) (below s.out.length p e.name) s') ((nd ns k).aj.drop ((j+1))) s3) from ⟨by omega,hle0,hG,gj,Behind.trans fH (eZ hok.named f _ _ _ _ htl.1 (by rw [←cI];exact dw hnm.1) fH.ok hadd).1,by rw [fE,dx (by omega),cI,hadd];rfl⟩) (by show (nd ns k).aj.length-((j+1))<(nd ns k).aj.length-j;omega) (λ_=>by kernel_rfl) rfl (by kernel_rfl)
   replace hG:=hG.le fM
   replace di:=di.le fM
   replace hle0:=hle0.trans fM
   refine af.aq (k':=11) (fr':=[(0,.pointer (some ⟨aF,0,none⟩)),(2,.string p),(8,.bool (decide ((((s.out.length:Nat):Int):Int)=(0:Int)))),(101,.slice (L.eA k) ((nd ns k).aj.length) ((L.eC k))),(102,.int .i64 ↑((nd ns k).aj.length)),(103,.int .i64 ↑j),(126,.bool true)]) (ak:=[]) [o_] [0,2,8,101,102,103,126] (λ_ _=>by kernel_rfl) trivial ?_
   refine af.nil (by kernel_rfl) (ah.next ?_)
   refine ai.bL (λ_=>by kernel_rfl) ?_
   refine ai.seq (ai.region (af.aq (k':=1) (fr':=[(6,.bool false)]) (ak:=[]) [o_] [6] (λ_ _=>by kernel_rfl) trivial ?_))
   refine af.nil (by kernel_rfl) (ah.next (ai.ret (ah.aG (ah.ay (ah.ay (ah.aG (ah.ay ?_)))))))
   exact ah.eW (v:=.bool false) (l:=[]) (ak:=[]) [] [0] hle0 (λ_=>by kernel_rfl) trivial rfl (by kernel_rfl) (.inr ⟨by rw [hst,fE,dx (by omega),cI,hadd];rfl,rfl,rfl⟩)
  have cI:below s.out.length p (en (nd ns k).aj j).name=(en (nd ns k).aj j).name:=if_pos (by omega)
  refine ai.skip (ah.next (ai.seq ?_))
  refine ai.eY 9 (by kernel_rfl) (by kernel_rfl) ?_
  refine cu.seg (k':=7) (fr':=[(0,.pointer (some ⟨aF,0,none⟩)),(2,.string p),(8,.bool (decide ((((s.out.length:Nat):Int):Int)=(0:Int)))),(11,.string (en (nd ns k).aj j).name),(101,.slice (L.eA k) ((nd ns k).aj.length) ((L.eC k))),(102,.int .i64 ↑((nd ns k).aj.length)),(103,.int .i64 ↑j),(116,.pointer (some ⟨aF,0,none⟩)),(120,.map (some mb)),(122,.int .i64 ((en (nd ns k).aj j).id))]) (ak:=[b14=b14,aF=aF]) [o_,o_,o_,o_,⟨[.at 0],none,none,none,none⟩,o_,⟨[.at 5],none,none,none,none⟩] [0,2,8,11,101,102,103,116,120,122] (λ_ _=>by kernel_rfl) ⟨rfl,rfl,trivial⟩ (by decide) ?_
  have hat:=(hok.aj k hk j (by omega)).at_
  have htl:=cH hat
  have hnm:=hok.named k hk j (by omega)
  refine cu.dO 1 (d:=(some 123)) (t:=66) (K:=3) (E:=75) (b:=mb) (cnt:=ns.length) (f:=(mf (bf A ns ns.length))) (x:=(.tmp 120)) (ix:=(.tmp 122)) (key:=.int .i64 ((en (nd ns k).aj j).id)) (z:=.pointer none) (kl:=(.int .i64 (en (nd ns k).aj j).id)) (r:=(some (.pointer (some ⟨(au A),ar A+(tgt ns (en (nd ns k).aj j).id)*10,none⟩)))) (λ_=>by kernel_rfl) (by kernel_rfl) (λ_=>by kernel_rfl) (λ_=>by kernel_rfl) fC Try.underlying66 (λ_=>by kernel_rfl) (fI (hB.hwf k hk j (by omega)).1 (hB.hwf k hk j (by omega)).2) (jE hat htl.1) (by decide) ?_
  refine cu.seg (k':=9) (fr':=[(0,.pointer (some ⟨aF,0,none⟩)),(2,.string p),(8,.bool (decide ((((s.out.length:Nat):Int):Int)=(0:Int)))),(101,.slice (L.eA k) ((nd ns k).aj.length) ((L.eC k))),(102,.int .i64 ↑((nd ns k).aj.length)),(103,.int .i64 ↑j),(116,.pointer (some ⟨aF,0,none⟩)),(123,.pointer (some ⟨(au A),ar A+(tgt ns (en (nd ns k).aj j).id)*10,none⟩)),(124,.string (en (nd ns k).aj j).name)]) (ak:=[]) [o_] [0,2,8,101,102,103,116,123,124] (λ_ _=>by kernel_rfl) trivial (by decide) ?_
  refine cu.done rfl ?_
  have kz:(tgt ns (en (nd ns k).aj j).id)<ns.length:=htl.1
  have hq1:1<=((en (nd ns k).aj j).name:ByteArray).size:=by rw [←cI];exact dw hnm.1
  have kV:((en (nd ns k).aj j).name:ByteArray).size<=8388608:=by rw [←cI];exact gV (by omega) hnm.2.1
  have kW:4194304-s2.sum<f:=by have:=fH.sum;rw [dc] at this;omega
  have rX:=IH _ A ns L M2 s2 (tgt ns (en (nd ns k).aj j).id) (en (nd ns k).aj j).name aF mb mp cV cW hG hB hok di kz hq1 kV fH.ok kW
  refine af.fo (d:=(some 125)) (R:=[.abs R,.blk b14 [.string (en (nd ns k).aj j).name,.int .i64 ((en (nd ns k).aj j).id)] 72]) (pk:=[0,1,2,3,4,5]) (λ_=>by kernel_rfl) rX rfl (by kernel_rfl) ?_
  rintro kg _ _ eN (⟨s3,gM,gX,M3,hadd,rfl,gj,rfl⟩|⟨hadd,rfl,rfl⟩)
  ·replace hG:=hG.le eN
   replace di:=di.le eN
   replace hle0:=hle0.trans eN
   refine af.aq (k':=11) (fr':=[(0,.pointer (some ⟨aF,0,none⟩)),(2,.string p),(8,.bool (decide ((((s.out.length:Nat):Int):Int)=(0:Int)))),(101,.slice (L.eA k) ((nd ns k).aj.length) ((L.eC k))),(102,.int .i64 ↑((nd ns k).aj.length)),(103,.int .i64 ↑j),(126,.bool false)]) (ak:=[]) [o_] [0,2,8,101,102,103,126] (λ_ _=>by kernel_rfl) trivial ?_
   refine af.nil (by kernel_rfl) (ah.next ?_)
   refine ai.cU (λ_=>by kernel_rfl) ?_
   refine ai.skip (ah.aJ (ah.next (ai.region ?_)))
   refine af.aq (k':=2) (fr':=[(0,.pointer (some ⟨aF,0,none⟩)),(2,.string p),(8,.bool (decide ((((s.out.length:Nat):Int):Int)=(0:Int)))),(101,.slice (L.eA k) ((nd ns k).aj.length) ((L.eC k))),(102,.int .i64 ↑((nd ns k).aj.length)),(103,.int .i64 ↑(j+1))]) (ak:=[(Value.int .i64 (IntKind.wrap .i64 (((j:Nat):Int)+1)))=(.int .i64 ↑(j+1))]) [⟨[],none,none,none,some (.int .i64 ↑(j+1))⟩,o_] [0,2,8,101,102,103] (λ_ _=>by kernel_rfl) ⟨aP (by omega) (by omega) (by omega),trivial⟩ ?_
   refine af.nil (by kernel_rfl) ?_
   exact ah.ju ((j+1),kg,s3,gM,gX,M3) (hb:=rfl) (idx:=[0,2,8,101,102,103]) (pk:=[0,1,2,3,4]) (show (((j+1))<=(nd ns k).aj.length)/\(β.le kg)/\(aA kg A ns L)/\(bJ kg s3.out M3)/\(Behind (push ns k p s) s3)/\(bR (λe s'=>bP ns f (tgt ns e.id) (below s.out.length p e.name) s') (nd ns k).aj (push ns k p s)=bR (λe s'=>bP ns f (tgt ns e.id) (below s.out.length p e.name) s') ((nd ns k).aj.drop ((j+1))) s3) from ⟨by omega,hle0,hG,gj,Behind.trans fH (eZ hok.named f _ _ _ _ htl.1 (by rw [←cI];exact dw hnm.1) fH.ok hadd).1,by rw [fE,dx (by omega),cI,hadd];rfl⟩) (by show (nd ns k).aj.length-((j+1))<(nd ns k).aj.length-j;omega) (λ_=>by kernel_rfl) rfl (by kernel_rfl)
  replace hG:=hG.le eN
  replace di:=di.le eN
  replace hle0:=hle0.trans eN
  refine af.aq (k':=11) (fr':=[(0,.pointer (some ⟨aF,0,none⟩)),(2,.string p),(8,.bool (decide ((((s.out.length:Nat):Int):Int)=(0:Int)))),(101,.slice (L.eA k) ((nd ns k).aj.length) ((L.eC k))),(102,.int .i64 ↑((nd ns k).aj.length)),(103,.int .i64 ↑j),(126,.bool true)]) (ak:=[]) [o_] [0,2,8,101,102,103,126] (λ_ _=>by kernel_rfl) trivial ?_
  refine af.nil (by kernel_rfl) (ah.next ?_)
  refine ai.bL (λ_=>by kernel_rfl) ?_
  refine ai.seq (ai.region (af.aq (k':=1) (fr':=[(6,.bool false)]) (ak:=[]) [o_] [6] (λ_ _=>by kernel_rfl) trivial ?_))
  refine af.nil (by kernel_rfl) (ah.next (ai.ret (ah.aG (ah.ay (ah.ay (ah.aG (ah.ay ?_)))))))
  exact ah.eW (v:=.bool false) (l:=[]) (ak:=[]) [] [0] hle0 (λ_=>by kernel_rfl) trivial rfl (by kernel_rfl) (.inr ⟨by rw [hst,fE,dx (by omega),cI,hadd];rfl,rfl,rfl⟩)
 refine ai.exit (ah.aH (ah.aH (ah.bg (ah.next (ai.seq (ai.region ?_))))))
 refine af.aq (k':=1) (fr':=[(6,.bool true)]) (ak:=[]) [o_] [6] (λ_ _=>by kernel_rfl) trivial ?_
 refine af.nil (by kernel_rfl) (ah.next (ai.ret ?_))
 exact ah.eW (v:=.bool true) (l:=[.blk aF [.map (some mb),.slice cV (s2.out.length) (cW),.map (some mp),.int .i64 ↑s2.sum] 84,.abs (aE Try.prog 3 mb (mf (bf A ns ns.length)) ns.length),.abs (aE Try.prog 3 mp (mf (aY ns s2.fst)) s2.cnt),.abs (av 51 10 cV s2.out.length cW (aI M2 s2.out))]) (ak:=[]) [] [0,1,2,3,4] hle0 (λ_=>by kernel_rfl) trivial rfl (by kernel_rfl) (.inl ⟨s2,cV,cW,M2,by rw [hst,fE,jg (by omega)],rfl,di,rfl⟩)
end
section
open Go.RowKit Go.Maps
theorem sY:∀f,xu f
 |0=>λ_ _ _ _ _ _ _ _ _ _ _ _ _ _ _ _ _ _ _ _ _ h=>absurd h (Nat.not_lt_zero _)
 |f+1=>xw f (sY f)
abbrev Item:=Nat×Nat×ByteArray
def mF (ns:List aD):List Item->TS->Option TS:=bR (λx s=>bP ns x.1 x.2.1 x.2.2 s)
def kids (ns:List aD) (f top:Nat) (p:ByteArray) (es:List bV):List Item:=es.map λe=>(f,tgt ns e.id,below top p e.name)
theorem zT {ns:List aD} {f k:Nat} {p:ByteArray} {g:List Item} {s:TS} (h:4194304<s.sum+p.size):mF ns ((f+1,k,p)::g) s=none:=by
 unfold mF
 rw [bR,bP,if_pos h]
 rfl
theorem uY {ns:List aD} {f k:Nat} {p:ByteArray} {g:List Item} {s:TS} (h:¬4194304<s.sum+p.size):mF ns ((f+1,k,p)::g) s=mF ns (kids ns f s.out.length p (nd ns k).aj++g) (push ns k p s):=by
 unfold mF kids
 rw [oF,oG,bR,bP,if_neg h]
structure jN (ns:List aD) (g:List Item) (s:TS):Prop where
 at_:∀x,x∈g->x.2.1<ns.length/\1<=x.2.2.size/\x.2.2.size<=8388608/\4194304-s.sum<x.1
 dot:s.out.length=0->∀x,x∈g->x.2.2=⟨#[46]⟩
theorem jN.pop {ns:List aD} {f k:Nat} {p:ByteArray} {g:List Item} {s:TS} (hn:Named ns) (h:jN ns ((f+1,k,p)::g) s) (hs:¬4194304<s.sum+p.size):jN ns (kids ns f s.out.length p (nd ns k).aj++g) (push ns k p s):=by
 have h0:=h.at_ _ (List.mem_cons_self ..)
 simp only at h0
 refine⟨λx hx=>?_,λh1=>by rw [dr] at h1;omega⟩
 rw [dc]
 rcases List.mem_append.1 hx with hx|hx
 ·obtain⟨e,he,rfl⟩:=List.mem_map.1 hx
  obtain⟨j,hj,rfl⟩:=uS he
  obtain⟨h1,h2,h3⟩:=hn k h0.1 j hj
  exact⟨h3,dw h1,gV (by omega) h2,by show _<f;omega⟩
 have:=h.at_ x (List.mem_cons_of_mem _ hx)
 exact⟨this.1,this.2.1,this.2.2.1,by omega⟩
def xA (x:Item):List Value:=[.int .i64 ((x.2.1:Nat):Int),.string x.2.2]
def aU (g:List Item):List Value:=cP (λ_ x=>xA x) 0 g.reverse
theorem f4 (x:Item) (g:List Item):aU (x::g)=aU g++xA x:=by
 unfold aU
 rw [List.reverse_cons,jy]
theorem kG (g:List Item):(aU g).length=g.length*2:=by
 unfold aU
 rw [j8 (s:=2) (λ_ _=>rfl),List.length_reverse]
theorem qY {g g2:List Item} {x:Item} (hg:g=x::g2) {j:Nat} {u:Value} (hu:(xA x)[j]?=some u):(aU g)[(g.length-1)*2+j]?=some u:=by
 subst hg
 rw [f4,List.length_cons,Nat.add_sub_cancel,List.getElem?_append_right (by rw [kG];omega),kG,Nat.add_sub_cancel_left]
 exact hu
theorem xB {g g2:List Item} {x:Item} (hg:g=x::g2):(aU g).take (g2.length*2)=aU g2:=by
 subst hg
 rw [f4,List.take_append_of_le_length (by rw [kG];omega),List.take_of_length_le (by rw [kG];omega)]
def bN (ns:List aD) (s:TS):List ByteArray:=(List.range ns.length).map s.fst
theorem kX (ns:List aD) (s:TS):(bt (bN ns s)).length=ns.length:=by simp [bt,bN]
theorem kY {ns:List aD} {s:TS} {k:Nat} (hk:k<ns.length):(bt (bN ns s))[k]?=some (.string (s.fst k)):=by simp [bt,bN,hk]
theorem yP (ns:List aD):List.replicate ns.length (Value.string ⟨#[]⟩)=bt (bN ns fG):=by
 apply List.ext_getElem?
 intro j
 by_cases h:j<ns.length
 ·rw [kY h,List.getElem?_replicate,if_pos h];rfl
 rw [List.getElem?_eq_none (by simp;omega),List.getElem?_eq_none (by rw [kX];omega)]
theorem zU {ns:List aD} {s:TS} {k:Nat} {p:ByteArray} (h:s.fst k=⟨#[]⟩):(bt (bN ns s)).set k (.string p)=bt (bN ns (push ns k p s)):=by
 have e:(push ns k p s).fst=λj=>if j=k then p else s.fst j:=by unfold push;rw [if_pos h]
 apply List.ext_getElem?
 intro j
 by_cases hj:j<ns.length
 ·rw [kY hj,List.getElem?_set]
  by_cases h1:k=j
  ·subst h1
   rw [if_pos rfl,if_pos (by rw [kX];exact hj),e]
   simp
  rw [if_neg h1,kY hj,e]
  have:¬j=k:=λe=>h1 e.symm
  simp [this]
 rw [List.getElem?_eq_none (by rw [List.length_set,kX];omega),List.getElem?_eq_none (by rw [kX];omega)]
theorem zV {ns:List aD} {s:TS} {k:Nat} {p:ByteArray} (h:¬s.fst k=⟨#[]⟩):bN ns s=bN ns (push ns k p s):=by
 unfold bN
 rw [(iX h).1]
theorem sZ {ns:List aD} {f top j:Nat} {p:ByteArray} {es:List bV} (hj:j<es.length):kids ns f top p (es.drop j)=(f,tgt ns (en es j).id,below top p (en es j).name)::kids ns f top p (es.drop (j+1)):=by
 unfold kids
 rw [List.drop_eq_getElem_cons hj,List.map_cons]
 have:en es j=es[j]:=by
  unfold en
  rw [List.getD_eq_getElem?_getD,List.getElem?_eq_getElem hj]
  rfl
 rw [this]
theorem BH {ns:List aD} {k:Nat} (h:bw ns) (hk:k<ns.length):(nd ns k).aj.length<=8192:=by
 have h1:=h.sum
 have h2:=mC (ns:=ns) (show k+1<=ns.length from hk)
 rw [bn] at h2
 omega
theorem fF {ns:List aD} {f top:Nat} {p:ByteArray} {es:List bV}:(kids ns f top p es).length=es.length:=by simp [kids]
end
section
open Go.RowKit
attribute [local irreducible] af aN ai ah
theorem BI {β:Bs} (A:Option Addr) (c:Nat) (ns:List aD) (L:Lay) (hG:aA β A ns L) (hB:dM ns 1048576) (root:Int) (hz:fO root) :
 cO Try.prog β 26 #[.agg #[.slice A ns.length c],.int .i64 root] [] (λβ' v l=>∃B cap M',v=.tuple #[.slice B (aB ns root).1.length cap,.int .i64 (aB ns root).2]/\l=[]/\aM β' B (aB ns root).1 M'):=by
 refine cO.enter Try.func26 rfl Try.ntmps26 (Nat.le_of_ble_eq_true rfl) (λhle0 R=>?_)
 refine ai.seq (ai.region (af.bD (k':=3) (fr':=λb1=>[(1,.int .i64 (root)),(2,.pointer (some ⟨b1,0,none⟩))]) (aL:=λb1=>[.abs R,.blk b1 [.slice A (ns.length) (c)] 24]) (ak:=λb1=>[]) [o_,o_,o_] [1,2] [0,1] (λ_ _=>by kernel_rfl) (λb1=>trivial) (λb1=>?_)))
 refine af.nil (by kernel_rfl) (ah.next (ai.seq (ai.region ?_)))
 refine af.aq (k':=2) (fr':=[(11,.agg #[.slice A (ns.length) (c)]),(12,.int .i64 (root))]) (ak:=[b1=b1]) [⟨[.at 1],none,none,none,none⟩,o_] [11,12] (λ_ _=>by kernel_rfl) ⟨rfl,trivial⟩ ?_
 refine af.call (f:=42) (args:=#[.agg #[.slice A (ns.length) (c)],.int .i64 (root)]) (d:=(some 13)) (pre:=[]) (R:=[.abs R,.blk b1 [.slice A (ns.length) (c)] 24]) (pk:=[0,1]) (λ_=>by kernel_rfl) (qh A c ns L hG hB root hz) rfl (by kernel_rfl) ?_
 rintro _ _ (⟨mb,rfl,hbg,rfl⟩|⟨x,y,rfl,hbg,rfl⟩)
 ·obtain⟨hok,hat,hkd⟩:=fZ hbg
  have htl:=cH hat
  refine af.aq (k':=10) (fr':=[(6,.map (some mb)),(7,.pointer (some ⟨(au A),ar A+(tgt ns root)*10,none⟩)),(8,.int .i64 0)]) (ak:=[]) [o_,o_,o_,o_,o_,o_,o_] [6,7,8] (λ_ _=>by kernel_rfl) trivial ?_
  refine af.nil (by kernel_rfl) (ah.next (ai.seq (ai.seq (ai.region ?_))))
  refine af.aq (k':=2) (fr':=[(6,.map (some mb)),(7,.pointer (some ⟨(au A),ar A+(tgt ns root)*10,none⟩)),(8,.int .i64 0),(18,.bool false)]) (ak:=[]) [o_,o_] [6,7,8,18] (λ_ _=>by kernel_rfl) trivial ?_
  refine af.nil (by kernel_rfl) (ah.next ?_)
  refine ai.cU (λ_=>by kernel_rfl) ?_
  refine ai.skip (ah.next (ai.seq (ai.region ?_)))
  refine af.aq (k':=1) (fr':=[(7,.pointer (some ⟨(au A),ar A+(tgt ns root)*10,none⟩)),(20,.map (some mb))]) (ak:=[]) [o_] [7,20] (λ_ _=>by kernel_rfl) trivial ?_
  refine af.kI (d:=(some 21)) (t:=82) (λ_=>by kernel_rfl) Try.prog rfl 3 (λm2=>?_)
  refine af.bD (k':=5) (fr':=λb3=>[(7,.pointer (some ⟨(au A),ar A+(tgt ns root)*10,none⟩)),(9,.pointer (some ⟨b3,0,none⟩))]) (aL:=λb3=>[.abs (aE Try.prog 3 mb (mf (bf A ns ns.length)) ns.length),.abs R,.blk b1 [.slice A (ns.length) (c)] 24,.abs (aE Try.prog 3 m2 (λ_=>none) 0),.blk b3 [.map (some mb),.slice none (0) (0),.map (some m2),.int .i64 0] 84]) (ak:=λb3=>[b3=b3,b3=b3,b3=b3,b3=b3]) [o_,o_,⟨[.at 4,.at 4,.at 4,.at 4],none,none,none,none⟩] [7,9] [0,1,2,3,4] (λ_ _=>by kernel_rfl) (λb3=>⟨rfl,rfl,rfl,rfl,trivial⟩) (λb3=>?_)
  refine af.nil (by kernel_rfl) (ah.next (ai.seq (ai.seq (ai.region ?_))))
  refine af.aq (k':=1) (fr':=[(9,.pointer (some ⟨b3,0,none⟩)),(23,.pointer (some ⟨(au A),ar A+(tgt ns root)*10,none⟩))]) (ak:=[]) [o_] [9,23] (λ_ _=>by kernel_rfl) trivial ?_
  refine af.aZ 3 (p:=.abs (aE Try.prog 3 m2 (λ_=>none) 0)) (p':=.abs (aE Try.prog 3 m2 (mf (aY ns fG.fst)) 0)) (by kernel_rfl) (by rw [qX]) ?_
  refine af.mem (λw hS=>hS.fQ (e:=51) (size:=10)) ?_
  have CI:=sY 4194305 _ A ns L ⟨λ_=>none,λ_=>0⟩ fG (tgt ns root) ⟨#[46]⟩ b3 mb m2 none 0 hG hB hok bJ.nil htl.1 (by decide) (by decide) oH (by decide)
  refine af.fo (d:=(some 24)) (R:=[.abs R,.blk b1 [.slice A (ns.length) (c)] 24]) (pk:=[4,0,3,5,1,2]) (λ_=>by kernel_rfl) CI rfl (by kernel_rfl) ?_
  rintro Fc _ _ oZ (⟨s3,gM,gX,M3,hadd,rfl,gj,rfl⟩|⟨hadd,rfl,rfl⟩)
  ·replace hG:=hG.le oZ
   replace hle0:=hle0.trans oZ
   refine af.aq (k':=3) (fr':=[(9,.pointer (some ⟨b3,0,none⟩)),(25,.bool false)]) (ak:=[]) [o_] [9,25] (λ_ _=>by kernel_rfl) trivial ?_
   refine af.nil (by kernel_rfl) (ah.next ?_)
   refine ai.cU (λ_=>by kernel_rfl) ?_
   refine ai.skip (ah.next (ai.seq (ai.region ?_)))
   refine af.gy (Φ:=λβ'=>cK β' gM (aI M3 s3.out)) 3 [0,1,2,4,5] (aL:=[.blk b3 [.map (some mb),.slice gM (s3.out.length) (gX),.map (some m2),.int .i64 ↑s3.sum] 84,.abs (aE Try.prog 3 mb (mf (bf A ns ns.length)) ns.length),.abs (aE Try.prog 3 m2 (mf (aY ns s3.fst)) s3.cnt),.abs R,.blk b1 [.slice A (ns.length) (c)] 24]) rfl rfl (by kernel_rfl) (λF w h β' h1 h2=>cK.gh h h1 h2) (λoh eS hR=>?_)
   replace hG:=hG.le eS
   replace gj:=gj.le eS
   replace hle0:=hle0.trans eS
   refine af.aq (k':=4) (fr':=[(4,.slice gM (s3.out.length) (gX)),(5,.int .i64 0)]) (ak:=[b3=b3]) [o_,⟨[.at 0],none,none,none,none⟩,o_,o_] [4,5] (λ_ _=>by kernel_rfl) ⟨rfl,trivial⟩ ?_
   refine af.nil (by kernel_rfl) (ah.next (ai.ret ?_))
   exact ah.eW (v:=.tuple #[.slice gM (s3.out.length) (gX),.int .i64 0]) (l:=[]) (ak:=[]) [] [3] hle0 (λ_=>by kernel_rfl) trivial rfl (by kernel_rfl) (⟨gM,gX,M3,by rw [fX hbg hadd],rfl,by rw [fX hbg hadd];exact⟨hR,gj⟩⟩)
  replace hG:=hG.le oZ
  replace hle0:=hle0.trans oZ
  refine af.aq (k':=3) (fr':=[(9,.pointer (some ⟨b3,0,none⟩)),(25,.bool true)]) (ak:=[]) [o_] [9,25] (λ_ _=>by kernel_rfl) trivial ?_
  refine af.nil (by kernel_rfl) (ah.next ?_)
  refine ai.bL (λ_=>by kernel_rfl) ?_
  refine ai.seq (ai.region (af.aq (k':=2) (fr':=[(4,.slice none (0) (0)),(5,.int .i64 142)]) (ak:=[]) [o_,o_] [4,5] (λ_ _=>by kernel_rfl) trivial ?_))
  refine af.nil (by kernel_rfl) (ah.next (ai.ret (ah.ay ?_)))
  exact ah.eW (v:=.tuple #[.slice none (0) (0),.int .i64 142]) (l:=[]) (ak:=[]) [] [0] hle0 (λ_=>by kernel_rfl) trivial rfl (by kernel_rfl) (⟨none,0,⟨λ_=>none,λ_=>0⟩,by rw [gF hbg hadd];rfl,rfl,by rw [gF hbg hadd];exact⟨cK.nil,bJ.nil⟩⟩)
 refine af.aq (k':=10) (fr':=[(6,x),(7,y),(8,.int .i64 ((bK ns root)))]) (ak:=[]) [o_,o_,o_,o_,o_,o_,o_] [6,7,8] (λ_ _=>by kernel_rfl) trivial ?_
 refine af.nil (by kernel_rfl) (ah.next (ai.seq (ai.seq (ai.region ?_))))
 refine af.aq (k':=2) (fr':=[(6,x),(7,y),(8,.int .i64 ((bK ns root))),(18,.bool (!(decide (((bK ns root):Int)=(0:Int)))))]) (ak:=[]) [o_,o_] [6,7,8,18] (λ_ _=>by kernel_rfl) trivial ?_
 refine af.nil (by kernel_rfl) (ah.next ?_)
 refine ai.cY (p:=((bK ns root):Int)=(0:Int)) (λ_=>by kernel_rfl) (λlD=>?_) (λlD=>?_)
 ·refine ai.seq (ai.region (af.aq (k':=3) (fr':=[(4,.slice none (0) (0)),(5,.int .i64 ((bK ns root)))]) (ak:=[]) [o_,o_,o_] [4,5] (λ_ _=>by kernel_rfl) trivial ?_))
  refine af.nil (by kernel_rfl) (ah.next (ai.ret (ah.ay ?_)))
  exact ah.eW (v:=.tuple #[.slice none (0) (0),.int .i64 ((bK ns root))]) (l:=[]) (ak:=[]) [] [0] hle0 (λ_=>by kernel_rfl) trivial rfl (by kernel_rfl) (⟨none,0,⟨λ_=>none,λ_=>0⟩,by rw [gQ hbg];rfl,rfl,by rw [gQ hbg];exact⟨cK.nil,bJ.nil⟩⟩)
 exact absurd lD hbg
end
section
open Go.RowKit
def kK (ls:List aR):Prop:=∀i,i<ls.length->(ln ls i).data.length<=1048576
theorem kK.push {ns:List aD} {k:Nat} {p:ByteArray} {s:TS} (hd:∀i,i<ns.length->(nd ns i).data.length<=1048576/\(nd ns i).aj.length<=1048576) (hk:k<ns.length) (h:kK s.out):kK (push ns k p s).out:=by
 intro i hi
 rw [dH] at hi ⊢
 by_cases e:i=s.out.length
 ·subst e
  rw [rV]
  unfold ef
  split
  ·exact (hd k hk).1
  exact Nat.zero_le _
 have hi:i<s.out.length:=by simp at hi;omega
 rw [wI _ _ hi]
 exact h i hi
theorem qZ {ns:List aD} (hn:Named ns) (hd:∀i,i<ns.length->(nd ns i).data.length<=1048576/\(nd ns i).aj.length<=1048576):∀(f k:Nat) (p:ByteArray) (s s':TS),k<ns.length->kK s.out->bP ns f k p s=some s'->kK s'.out
 |0,_,_,_,_,_,_,h=>by cases h
 |f+1,k,p,s,s',hk,hs,h=>by
   rw [bP] at h
   split at h
   ·cases h
   exact lP (I:=λx=>kK x.out) (λe he a b ha hab=>by
    obtain⟨j,hj,rfl⟩:=uS he
    exact qZ hn hd f _ _ a b (hn k hk j hj).2.2 ha hab) (hs.push hd hk) h
theorem fe {ns:List aD} {root:Int} (hB:dM ns 1048576):(aB ns root).1.length<=16777216/\∀i,i<(aB ns root).1.length->(ln (aB ns root).1 i).data.length<=1048576:=by
 by_cases hbg:bK ns root=0
 ·obtain⟨hok,hat,_⟩:=fZ hbg
  cases h:bP ns 4194305 (tgt ns root) ⟨#[46]⟩ fG with
  |none=>rw [gF hbg h];exact⟨Nat.zero_le _,λi hi=>absurd hi (Nat.not_lt_zero i)⟩
  |some s=>
    rw [fX hbg h]
    have h1:=(eZ hok.named 4194305 (tgt ns root) ⟨#[46]⟩ fG s (cH hat).1 (show (1:Nat)<=1 by decide) oH h).1.ok
    have h2:=h1.out
    have h3:=h1.sum
    exact⟨by show s.out.length<=_;omega,qZ hok.named hB.hd 4194305 (tgt ns root) ⟨#[46]⟩ fG s (cH hat).1 (λi hi=>absurd hi (Nat.not_lt_zero i)) h⟩
 rw [gQ hbg];exact⟨Nat.zero_le _,λi hi=>absurd hi (Nat.not_lt_zero i)⟩
end
section
open Go.RowKit Go.Maps
def cuts (p:ByteArray):Nat->List ByteArray×Nat
 |0=>([],0)
 |j+1=>if j=p.size\/aW p j=47 then ((cuts p j).1++[p.extract (cuts p j).2 j],j+1) else cuts p j
theorem kZ {p:ByteArray} {j:Nat} (h:j=p.size\/aW p j=47):cuts p (j+1)=((cuts p j).1++[p.extract (cuts p j).2 j],j+1):=if_pos h
theorem yQ {p:ByteArray} {j:Nat} (h:¬j=p.size) (h2:¬aW p j=47):cuts p (j+1)=cuts p j:=if_neg (λe=>e.elim h h2)
theorem rY (p:ByteArray):∀j,(cuts p j).2<=j/\(cuts p j).1.length<=j
 |0=>⟨Nat.le_refl _,Nat.le_refl _⟩
 |j+1=>by
   have:=rY p j
   rw [cuts]
   split
   ·exact⟨Nat.le_refl _,by simp;omega⟩
   omega
theorem jZ {a b:ByteArray} {j:Nat} (h:j<a.size):aW (a++b) j=aW a j:=by
 unfold aW
 rw [ByteArray.data_append,Array.getD_eq_getD_getElem?,Array.getD_eq_getD_getElem?,Array.getElem?_append_left h]
theorem gN {a b:ByteArray} {j:Nat} (h:a.size<=j):aW (a++b) j=aW b (j-a.size):=by
 unfold aW
 rw [ByteArray.data_append,Array.getD_eq_getD_getElem?,Array.getD_eq_getD_getElem?,Array.getElem?_append_right h]
 rfl
theorem s5 {a b:ByteArray}:∀{j:Nat},j<=a.size->b.size≠0->cuts (a++b) j=cuts a j
 |0,_,_=>rfl
 |j+1,h,hb=>by
   have e:=s5 (a:=a) (b:=b) (j:=j) (by omega) hb
   have hl:=rY a j
   rw [cuts,cuts,e,jZ h,ByteArray.size_append]
   have h1:¬j=a.size+b.size:=by omega
   have h2:¬j=a.size:=by omega
   have h3:(a++b).extract (cuts a j).2 j=a.extract (cuts a j).2 j:=by
    rw [ByteArray.extract_append,show j-a.size=0 by omega]
    apply ByteArray.ext
    simp
   rw [h3]
   simp only [h1,h2,false_or]
theorem oJ {p:ByteArray} {k:Nat}:∀{t:Nat},k+t<=p.size->(∀j,k<=j->j<p.size->¬aW p j=47)->cuts p (k+t)=cuts p k
 |0,_,_=>rfl
 |t+1,h,hb=>by
   rw [←Nat.add_assoc,yQ (by omega) (hb _ (by omega) (by omega))]
   exact oJ (by omega) hb
inductive Path:List ByteArray->ByteArray->Prop
 |one {n:ByteArray}:cZ n->Path [n] n
 |more {l:List ByteArray} {p n:ByteArray}:Path l p->cZ n->Path (l++[n]) (p++⟨#[47]⟩++n)
theorem Path.size {l:List ByteArray} {p:ByteArray} (h:Path l p):1<=p.size:=by
 cases h with
 |one h=>exact h.1
 |more h hn=>rw [ByteArray.size_append];have:=hn.1;omega
theorem Path.cuts {l:List ByteArray} {p:ByteArray} (h:Path l p):(cuts p (p.size+1)).1=l:=by
 induction h with
 | @one n h=>
   have h1:=oJ (p:=n) (k:=0) (t:=n.size) (by omega) (λj _ hj=>(h.2.2.2.2 j hj).2)
   rw [Nat.zero_add] at h1
   rw [kZ (.inl rfl),h1]
   show []++[n.extract 0 n.size]=[n]
   rw [List.nil_append]
   congr 1
   apply ByteArray.ext
   simp
 | @more l p n h hn ih=>
   have e1:(⟨#[47]⟩:ByteArray).size=1:=rfl
   have hs:(p++⟨#[47]⟩++n).size=p.size+1+n.size:=by rw [ByteArray.size_append,ByteArray.size_append,e1]
   have hb:aW (p++⟨#[47]⟩++n) p.size=47:=by
    rw [ByteArray.append_assoc,gN (Nat.le_refl _),Nat.sub_self,jZ (by rw [e1];decide)]
    rfl
   have h0:Proofs.Ytjpdcppdoonmdaa.cuts (p++⟨#[47]⟩++n) p.size=Proofs.Ytjpdcppdoonmdaa.cuts p p.size:=by
    rw [ByteArray.append_assoc]
    exact s5 (Nat.le_refl _) (by rw [ByteArray.size_append,e1];omega)
   have hx:∀a,a<=p.size->(p++⟨#[47]⟩++n).extract a p.size=p.extract a p.size:=λa _=>by
    rw [ByteArray.append_assoc,ByteArray.extract_append_size_left]
   have h1:Proofs.Ytjpdcppdoonmdaa.cuts (p++⟨#[47]⟩++n) (p.size+1)=Proofs.Ytjpdcppdoonmdaa.cuts p (p.size+1):=by
    rw [kZ (.inr hb),kZ (p:=p) (.inl rfl),h0,hx _ (rY p p.size).1]
   have h2:=oJ (p:=p++⟨#[47]⟩++n) (k:=p.size+1) (t:=n.size) (by omega) (λj h1 h2=>by
    rw [gN (by rw [ByteArray.size_append,e1];exact h1),ByteArray.size_append,e1]
    exact (hn.2.2.2.2 _ (by omega)).2)
   rw [kZ (.inl rfl),hs,h2,h1,ih]
   show l++[_]=_
   congr 2
   rw [kZ (p:=p) (.inl rfl)]
   exact ByteArray.extract_append_eq_right (by rw [ByteArray.size_append,e1]) (by rw [ByteArray.size_append,e1])
theorem Path.ne {l:List ByteArray} {p:ByteArray} (h:Path l p):¬l=[]:=by cases h<;>simp
theorem Path.good {l:List ByteArray} {p:ByteArray} (h:Path l p):∀n∈l,cZ n:=by
 induction h with
 |one h=>intro n hn;rw [List.mem_singleton.1 hn];exact h
 |more h hn ih=>
   intro n hm
   rcases List.mem_append.1 hm with hm|hm
   ·exact ih n hm
   rw [List.mem_singleton.1 hm];exact hn
theorem Path.inj {l m:List ByteArray} {p:ByteArray} (h:Path l p) (h2:Path m p):l=m:=by rw [←h.cuts,←h2.cuts]
theorem Path.rZ {l:List ByteArray} (h:Path l ⟨#[46]⟩):False:=by
 have h1:=h.cuts
 have h2:(Proofs.Ytjpdcppdoonmdaa.cuts ⟨#[46]⟩ ((⟨#[46]⟩:ByteArray).size+1)).1=[⟨#[46]⟩]:=by decide +kernel
 rw [h2] at h1
 exact (h.good _ (by rw [←h1];simp)).2.2.1 rfl
def fA (l:List ByteArray) (p:ByteArray):Prop:=(l=[]/\p=⟨#[46]⟩)\/Path l p
theorem fA.below {l:List ByteArray} {p n:ByteArray} {top:Nat} (h:fA l p) (ht:top=0↔l=[]) (hn:cZ n):Path (l++[n]) (below top p n):=by
 unfold Proofs.Ytjpdcppdoonmdaa.below
 rcases h with ⟨h1,h2⟩|h
 ·rw [if_pos (ht.2 h1),h1];exact .one hn
 rw [if_neg (λe=>h.ne (ht.1 e))];exact .more h hn
def Dl (ns:List aD) (r:Nat) (l:List ByteArray) (z:Nat):Prop:=∀rest,fJ ns r (l++rest)=fJ ns z rest
def EM (out:List aR):ByteArray:=(ln out (out.length-1)).path
structure CJ (ns:List aD) (r:Nat) (out:List aR) (i:Nat):Prop where
 way:∃l z,fA l (ln out i).path/\(l=[]↔i=0)/\Dl ns r l z/\z<ns.length/\(ln out i).kind=(nd ns z).kind/\(ln out i).mode=(nd ns z).mode
 size:(ln out i).path.size<=4194304
 new:0<i->¬(ln out i).path=(ln out (i-1)).path
def Told (ns:List aD) (r:Nat) (out:List aR):Prop:=∀i,i<out.length->CJ ns r out i
theorem ic (n:aD) (p x:ByteArray):(ef n p x).path=p/\(ef n p x).kind=n.kind/\(ef n p x).mode=n.mode:=by
 unfold ef;split<;>exact⟨rfl,rfl,rfl⟩
theorem ql {ns:List aD} {root:Int} (h:(aB ns root).2=0):bK ns root=0/\∃s,bP ns 4194305 (tgt ns root) ⟨#[46]⟩ fG=some s/\aB ns root=(s.out,0):=by
 by_cases hb:bK ns root=0
 ·cases h1:bP ns 4194305 (tgt ns root) ⟨#[46]⟩ fG with
  |none=>rw [gF hb h1] at h;exact absurd h (by decide)
  |some s=>exact⟨hb,s,rfl,fX hb h1⟩
 rw [gQ hb] at h;exact absurd h hb
def stop (i:Nat) (p:ByteArray):Nat:=if i=0 then 0 else p.size+1
structure EN (ns:List aD) (root:Int) (i:Nat) (l:aR) (z:Nat):Prop where
 at_:z<ns.length
 find:kF ns root (cuts l.path (stop i l.path)).1=((nd ns z).id,0)
 place:cL ns (nd ns z).id=(z:Int)
 kind:(nd ns z).kind=l.kind
 mode:(nd ns z).mode=l.mode
 first:i=0->(nd ns z).id=root/\l.path=⟨#[46]⟩
end
section
open Go.RowKit Go.Maps
theorem fA.inj {a b:List ByteArray} {p:ByteArray} (h:fA a p) (g:fA b p):a=b:=by
 rcases h with ⟨h1,h2⟩|h
 ·rcases g with ⟨g1,_⟩|g
  ·rw [h1,g1]
  rw [h2] at g;exact g.rZ.elim
 rcases g with ⟨_,g2⟩|g
 ·rw [g2] at h;exact h.rZ.elim
 exact h.inj g
structure zW (l:List ByteArray) (es:List bV) (j:Nat) (new:List aR):Prop where
 nodup:(new.map aR.path).Nodup
 below:∀x,x∈new->∃t,fA (l++t) x.path/\(t=[]\/∃i t',i<j/\t=(en es i).name::t')
theorem tf {ns:List aD} (hok:bw ns):∀(f k:Nat) (p:ByteArray) (l:List ByteArray) (s s':TS),k<ns.length->fA l p->(s.out.length=0↔l=[])->bP ns f k p s=some s' →
 ∃new,s'.out=s.out++ef (nd ns k) p (s.fst k)::new/\zW l (nd ns k).aj (nd ns k).aj.length (ef (nd ns k) p (s.fst k)::new)
 |0,_,_,_,_,_,_,_,_,h=>by cases h
 |f+1,k,p,l,s,s',hk,hp,ht,h=>by
   rw [bP] at h
   split at h
   ·cases h
   obtain⟨e1,_,_⟩:=ic (nd ns k) p (s.fst k)
   have key:∀n j,n+j=(nd ns k).aj.length->∀a new,a.out=s.out++ef (nd ns k) p (s.fst k)::new->zW l (nd ns k).aj j (ef (nd ns k) p (s.fst k)::new)->bR (λe s'=>bP ns f (tgt ns e.id) (below s.out.length p e.name) s') ((nd ns k).aj.drop j) a=some s' →
    ∃new,s'.out=s.out++ef (nd ns k) p (s.fst k)::new/\zW l (nd ns k).aj (nd ns k).aj.length (ef (nd ns k) p (s.fst k)::new):=by
    intro n
    induction n with
    |zero=>
      intro j hj a new ha hN hf
      rw [jg (by omega)] at hf
      cases hf
      rw [Nat.zero_add] at hj
      exact⟨new,ha,hj ▸ hN⟩
    |succ n ih=>
      intro j hj a new ha hN hf
      rw [dx (by omega)] at hf
      cases h4:bP ns f (tgt ns (en (nd ns k).aj j).id) (below s.out.length p (en (nd ns k).aj j).name) a with
      |none=>rw [h4] at hf;cases hf
      |some b=>
        rw [h4] at hf
        have hjl:j<(nd ns k).aj.length:=by omega
        have CK:=hp.below ht (hok.aj k hk j hjl).good
        obtain⟨new2,g1,g2⟩:=tf hok f _ _ (l++[(en (nd ns k).aj j).name]) a b (hok.named k hk j hjl).2.2 (.inr CK) ⟨λe=>by rw [ha] at e;simp at e,λe=>absurd e (by simp)⟩ h4
        have g3:∀x,x∈ef (nd ns (tgt ns (en (nd ns k).aj j).id)) (below s.out.length p (en (nd ns k).aj j).name) (a.fst (tgt ns (en (nd ns k).aj j).id))::new2->∃t,fA (l++(en (nd ns k).aj j).name::t) x.path:=λx hx=>by
         obtain⟨t,h5,_⟩:=g2.below x hx
         exact⟨t,by rw [List.append_assoc] at h5;exact h5⟩
        refine ih (j+1) (by omega) b (new++_::new2) (by rw [g1,ha,List.append_assoc];rfl) ⟨?_,λx hx=>?_⟩ hf
        ·rw [←List.cons_append,List.map_append]
         refine List.nodup_append.2 ⟨hN.nodup,g2.nodup,λy hy z hz e=>?_⟩
         obtain⟨x,hx,rfl⟩:=List.mem_map.1 hy
         obtain⟨x2,hx2,rfl⟩:=List.mem_map.1 hz
         obtain⟨t,h5,h6⟩:=hN.below x hx
         obtain⟨t2,h7⟩:=g3 x2 hx2
         rw [e] at h5
         have h8:=List.append_cancel_left (h5.inj h7)
         rcases h6 with h6|⟨i,t',hi,h6⟩
         ·rw [h6] at h8;cases h8
         rw [h6] at h8
         have:=(oD (hok.aj k hk)).inj (i:=i) (j:=j) (by omega) hjl (by injection h8)
         omega
        rw [←List.cons_append] at hx
        rcases List.mem_append.1 hx with hx|hx
        ·obtain⟨t,h5,h6⟩:=hN.below x hx
         exact⟨t,h5,h6.imp id λ⟨i,t',hi,h6⟩=>⟨i,t',by omega,h6⟩⟩
        obtain⟨t,h5⟩:=g3 x hx
        exact⟨_,h5,.inr ⟨j,t,Nat.lt_succ_self j,rfl⟩⟩
   have h3:=key _ 0 rfl (push ns k p s) [] (dH ns k p s) ⟨by simp,λx hx=>by rw [List.mem_singleton.1 hx];exact⟨[],by rw [List.append_nil,e1];exact hp,.inl rfl⟩⟩
   rw [List.drop_zero] at h3
   exact h3 h
structure dX (ls:List aR):Prop where
 nodup:∀i j,i<j->j<ls.length->¬(ln ls i).path=(ln ls j).path
 first:0<ls.length->(ln ls 0).path=⟨#[46]⟩
 path:∀i,0<i->i<ls.length->∃l,Path l (ln ls i).path
theorem lS {ns:List aD} {root:Int} (h:(aB ns root).2=0):dX (aB ns root).1:=by
 obtain⟨hb,s,h1,h2⟩:=ql h
 obtain⟨hok,hat,_⟩:=fZ hb
 have htl:=cH hat
 rw [h2]
 obtain⟨new,h3,h4⟩:=tf hok 4194305 (tgt ns root) ⟨#[46]⟩ [] fG s htl.1 (.inl ⟨rfl,rfl⟩) ⟨λ_=>rfl,λ_=>rfl⟩ h1
 have hout:s.out=ef (nd ns (tgt ns root)) ⟨#[46]⟩ (fG.fst (tgt ns root))::new:=h3
 obtain⟨e1,_,_⟩:=ic (nd ns (tgt ns root)) ⟨#[46]⟩ (fG.fst (tgt ns root))
 have hnd:∀i j,i<j->j<s.out.length->¬(ln s.out i).path=(ln s.out j).path:=λi j hij hj e=>by
  have h5:=h4.nodup
  rw [←hout] at h5
  have h6:=List.pairwise_iff_getElem.1 h5 i j (by simp;omega) (by simpa using hj) hij
  have hg:∀x (hx:x<s.out.length),ln s.out x=s.out[x]:=λx hx=>by
   unfold ln;rw [List.getD_eq_getElem?_getD,List.getElem?_eq_getElem hx];rfl
  rw [hg i (by omega),hg j hj] at e
  exact h6 (by simpa using e)
 have hf:(ln s.out 0).path=⟨#[46]⟩:=by rw [hout];exact e1
 refine⟨hnd,λ_=>hf,λi h0 hi=>?_⟩
 have hm:ln s.out i∈s.out:=by
  unfold ln;rw [List.getD_eq_getElem?_getD,List.getElem?_eq_getElem hi];exact List.getElem_mem hi
 rw [hout] at hm
 obtain⟨t,h5,_⟩:=h4.below _ hm
 rcases h5 with ⟨_,h5⟩|h5
 ·exact absurd (by rw [←hout] at h5;rw [hf,h5]) (hnd 0 i h0 hi)
 exact⟨_,by rw [←hout] at h5;exact h5⟩
end
section
open Go.RowKit
attribute [local irreducible] af aN ai ah
theorem xC {β:Bs} (A1 A2:Option Addr) (c1 c2:Nat) (d1 d2:List UInt8) (yw:bp β A1 d1) (um:bp β A2 d2) (hl:d1.length<=1048576) :
 Spec Try.prog β 65 #[.slice A1 d1.length c1,.slice A2 d2.length c2] [] (λv l=>v=.bool (decide (d1=d2))/\l=[]):=by
 refine Spec.enter Try.func65 rfl Try.ntmps65 (Nat.le_of_ble_eq_true rfl) (λR=>?_)
 refine ai.seq (ai.region (af.aq (k':=1) (fr':=[(0,.slice A1 (d1.length) (c1)),(1,.slice A2 (d2.length) (c2))]) (ak:=[]) [o_] [0,1] (λ_ _=>by kernel_rfl) trivial ?_))
 refine af.nil (by kernel_rfl) (ah.next (ai.seq (ai.seq (ai.region ?_))))
 refine af.aq (k':=5) (fr':=[(0,.slice A1 (d1.length) (c1)),(1,.slice A2 (d2.length) (c2)),(10,.bool (!(decide ((((d1.length:Nat):Int):Int)=(((d2.length:Nat):Int):Int)))))]) (ak:=[]) [o_,o_,o_,o_,o_] [0,1,10] (λ_ _=>by kernel_rfl) trivial ?_
 refine af.nil (by kernel_rfl) (ah.next ?_)
 refine ai.cY (p:=(((d1.length:Nat):Int):Int)=(((d2.length:Nat):Int):Int)) (λ_=>by kernel_rfl) (λh10=>?_) (λh10=>?_)
 ·refine ai.seq (ai.region (af.aq (k':=1) (fr':=[(4,.bool false)]) (ak:=[]) [o_] [4] (λ_ _=>by kernel_rfl) trivial ?_))
  refine af.nil (by kernel_rfl) (ah.next (ai.ret (ah.ay ?_)))
  exact ah.ret (v:=.bool false) (l:=[]) (ak:=[]) [] [0] (λ_=>by kernel_rfl) trivial rfl (by kernel_rfl) (⟨by rw [decide_eq_false (λe=>h10 (by rw [e]))],rfl⟩)
 refine ai.skip (ah.next (ai.seq (ai.seq (ai.region ?_))))
 refine af.aq (k':=3) (fr':=[(0,.slice A1 (d1.length) (c1)),(1,.slice A2 (d2.length) (c2)),(12,.int .i64 ↑d1.length),(13,.int .i64 0)]) (ak:=[]) [o_,o_,o_] [0,1,12,13] (λ_ _=>by kernel_rfl) trivial ?_
 refine af.nil (by kernel_rfl) (ah.next (ai.block ?_))
 refine ai.loop (ι:=Nat) (λ(i:Nat)=>(i<=d1.length)/\(∀j,j<i->d1.getD j 0=d2.getD j 0)) (λ(i:Nat)=>d1.length-i) (λ(i:Nat)=>[(0,.slice A1 (d1.length) (c1)),(1,.slice A2 (d2.length) (c2)),(12,.int .i64 ↑d1.length),(13,.int .i64 ↑i)]) (λ(i:Nat)=>[.abs R]) 0 (idx:=[0,1,12,13]) (pk:=[0]) (show (0<=d1.length)/\(∀j,j<0->d1.getD j 0=d2.getD j 0) from ⟨Nat.zero_le _,λj hj=>absurd hj (Nat.not_lt_zero j)⟩) (λ_=>by kernel_rfl) rfl (by kernel_rfl) ?_
 rintro i ⟨hi,hall⟩
 show ai _ _ _ _ [(0,.slice A1 (d1.length) (c1)),(1,.slice A2 (d2.length) (c2)),(12,.int .i64 ↑d1.length),(13,.int .i64 ↑i)] [.abs R] _
 refine ai.seq (ai.region (af.aq (k':=1) (fr':=[(0,.slice A1 (d1.length) (c1)),(1,.slice A2 (d2.length) (c2)),(12,.int .i64 ↑d1.length),(13,.int .i64 ↑i),(14,.bool (decide ((((i:Nat):Int):Int)<(((d1.length:Nat):Int):Int))))]) (ak:=[]) [o_] [0,1,12,13,14] (λ_ _=>by kernel_rfl) trivial ?_))
 refine af.nil (by kernel_rfl) (ah.next (ai.seq ?_))
 refine ai.aV (p:=(((i:Nat):Int):Int)<(((d1.length:Nat):Int):Int)) (λ_=>by kernel_rfl) (λkr=>?_) (λkr=>?_)
 ·refine ai.skip (ah.next (ai.seq (ai.block (ai.seq (ai.region ?_)))))
  refine af.aq (k':=2) (fr':=[(0,.slice A1 (d1.length) (c1)),(1,.slice A2 (d2.length) (c2)),(5,.int .i64 ↑i),(12,.int .i64 ↑d1.length),(13,.int .i64 ↑i)]) (ak:=[]) [o_,o_] [0,1,5,12,13] (λ_ _=>by kernel_rfl) trivial ?_
  refine af.nil (by kernel_rfl) (ah.next (ai.seq ?_))
  refine ai.ga (by kernel_rfl) (by kernel_rfl) ?_
  refine aN.seg (k':=9) (fr':=[(0,.slice A1 (d1.length) (c1)),(1,.slice A2 (d2.length) (c2)),(12,.int .i64 ↑d1.length),(13,.int .i64 ↑i),(24,.bool (!(decide (((((List.getD d1 i 0).toNat:Nat):Int):Int)=((((List.getD d2 i 0).toNat:Nat):Int):Int)))))]) (ak:=[(Rd β ⟨(au A2),ar A2+i*1,none⟩ (.int .u8 ((((List.getD d2 i 0).toNat:Nat):Int)))),((i:Nat):Int)=((i:Nat):Int),i<d2.length,(⟨(au A2),ar A2,none⟩:Addr).spot=none,(A2:Option Addr)=some ⟨(au A2),ar A2,none⟩,(Rd β ⟨(au A1),ar A1+i*1,none⟩ (.int .u8 ((((List.getD d1 i 0).toNat:Nat):Int)))),((i:Nat):Int)=((i:Nat):Int),i<d1.length,(⟨(au A1),ar A1,none⟩:Addr).spot=none,(A1:Option Addr)=some ⟨(au A1),ar A1,none⟩]) [o_,o_,⟨[],some i,none,some ⟨(au A1),ar A1,none⟩,none⟩,⟨[.old (.int .u8 ((((List.getD d1 i 0).toNat:Nat):Int)))],none,none,none,none⟩,o_,o_,⟨[],some i,none,some ⟨(au A2),ar A2,none⟩,none⟩,⟨[.old (.int .u8 ((((List.getD d2 i 0).toNat:Nat):Int)))],none,none,none,none⟩,o_] [0,1,12,13,24] (λ_ _=>by kernel_rfl) ⟨bp.rd um (by omega),rfl,by omega,rfl,bp.hd um (j:=i) (by omega),bp.rd yw (by omega),rfl,by omega,rfl,bp.hd yw (j:=i) (by omega),trivial⟩ ?_
  refine aN.nil (by kernel_rfl) (ah.next ?_)
  refine ai.cY (p:=((((List.getD d1 i 0).toNat:Nat):Int):Int)=((((List.getD d2 i 0).toNat:Nat):Int):Int)) (λ_=>by kernel_rfl) (λlF=>?_) (λlF=>?_)
  ·refine ai.seq (ai.region (af.aq (k':=1) (fr':=[(4,.bool false)]) (ak:=[]) [o_] [4] (λ_ _=>by kernel_rfl) trivial ?_))
   refine af.nil (by kernel_rfl) (ah.next (ai.ret (ah.aG (ah.ay (ah.ay (ah.aG (ah.ay ?_)))))))
   exact ah.ret (v:=.bool false) (l:=[]) (ak:=[]) [] [0] (λ_=>by kernel_rfl) trivial rfl (by kernel_rfl) (⟨by rw [decide_eq_false (λe=>lF (by rw [e]))],rfl⟩)
  refine ai.skip (ah.aJ (ah.next (ai.region ?_)))
  refine af.aq (k':=2) (fr':=[(0,.slice A1 (d1.length) (c1)),(1,.slice A2 (d2.length) (c2)),(12,.int .i64 ↑d1.length),(13,.int .i64 ↑(i+1))]) (ak:=[(Value.int .i64 (IntKind.wrap .i64 (((i:Nat):Int)+1)))=(.int .i64 ↑(i+1))]) [⟨[],none,none,none,some (.int .i64 ↑(i+1))⟩,o_] [0,1,12,13] (λ_ _=>by kernel_rfl) ⟨aP (by omega) (by omega) (by omega),trivial⟩ ?_
  refine af.nil (by kernel_rfl) ?_
  exact ah.turn ((i+1)) (idx:=[0,1,12,13]) (pk:=[0]) (show (((i+1))<=d1.length)/\(∀j,j<((i+1))->d1.getD j 0=d2.getD j 0) from ⟨by omega,λj hj=>by rcases Nat.lt_succ_iff_lt_or_eq.1 hj with h|h;exact hall j h;subst h;exact wz lF⟩) (by show d1.length-((i+1))<d1.length-i;omega) (λ_=>by kernel_rfl) rfl (by kernel_rfl)
 refine ai.exit (ah.aH (ah.aH (ah.bg (ah.next (ai.seq (ai.region ?_))))))
 refine af.aq (k':=1) (fr':=[(4,.bool true)]) (ak:=[]) [o_] [4] (λ_ _=>by kernel_rfl) trivial ?_
 refine af.nil (by kernel_rfl) (ah.next (ai.ret ?_))
 exact ah.ret (v:=.bool true) (l:=[]) (ak:=[]) [] [0] (λ_=>by kernel_rfl) trivial rfl (by kernel_rfl) (⟨by rw [decide_eq_true (jJ (x:=0) (by omega) (λj hj=>hall j (by omega)))],rfl⟩)
theorem uZ {β:Bs} (l m:aR) (dA dB:Option Addr) (dC dD:Nat) (hD:bp β dA l.data) (yx:bp β dB m.data) (hl1:l.data.length<=1048576) :
 Spec Try.prog β 53 #[.agg #[.string l.path,.int .i64 (l.kind),.int .i64 (l.mode),.int .i64 (l.uid),.int .i64 (l.gid),.int .i64 (l.sec),.int .i64 (l.nano),.slice dA (l.data.length) (dC),.string l.target,.string l.peer],.agg #[.string m.path,.int .i64 (m.kind),.int .i64 (m.mode),.int .i64 (m.uid),.int .i64 (m.gid),.int .i64 (m.sec),.int .i64 (m.nano),.slice dB (m.data.length) (dD),.string m.target,.string m.peer]] [] (λv k=>v=.bool (decide (l=m))/\k=[]):=by
 refine Spec.enter Try.func53 rfl Try.ntmps53 (Nat.le_of_ble_eq_true rfl) (λR=>?_)
 refine ai.seq (ai.region (af.bD (k':=1) (fr':=λb1=>[(1,.agg #[.string m.path,.int .i64 (m.kind),.int .i64 (m.mode),.int .i64 (m.uid),.int .i64 (m.gid),.int .i64 (m.sec),.int .i64 (m.nano),.slice dB (m.data.length) (dD),.string m.target,.string m.peer]),(2,.pointer (some ⟨b1,0,none⟩))]) (aL:=λb1=>[.abs R,.blk b1 [.string l.path,.int .i64 (l.kind),.int .i64 (l.mode),.int .i64 (l.uid),.int .i64 (l.gid),.int .i64 (l.sec),.int .i64 (l.nano),.slice dA (l.data.length) (dC),.string l.target,.string l.peer] 51]) (ak:=λb1=>[]) [o_] [1,2] [0,1] (λ_ _=>by kernel_rfl) (λb1=>trivial) (λb1=>?_)))
 refine af.bD (k':=3) (fr':=λb2=>[(2,.pointer (some ⟨b1,0,none⟩)),(3,.pointer (some ⟨b2,0,none⟩))]) (aL:=λb2=>[.abs R,.blk b1 [.string l.path,.int .i64 (l.kind),.int .i64 (l.mode),.int .i64 (l.uid),.int .i64 (l.gid),.int .i64 (l.sec),.int .i64 (l.nano),.slice dA (l.data.length) (dC),.string l.target,.string l.peer] 51,.blk b2 [.string m.path,.int .i64 (m.kind),.int .i64 (m.mode),.int .i64 (m.uid),.int .i64 (m.gid),.int .i64 (m.sec),.int .i64 (m.nano),.slice dB (m.data.length) (dD),.string m.target,.string m.peer] 51]) (ak:=λb2=>[]) [o_,o_] [2,3] [0,1,2] (λ_ _=>by kernel_rfl) (λb2=>trivial) (λb2=>?_)
 refine af.nil (by kernel_rfl) (ah.next (ai.seq (ai.region ?_)))
 refine af.aq (k':=6) (fr':=[(2,.pointer (some ⟨b1,0,none⟩)),(3,.pointer (some ⟨b2,0,none⟩)),(10,.bool (decide ((l.path:ByteArray)=m.path)))]) (ak:=[(Value.bool ((l.path:ByteArray).toList == (m.path:ByteArray).toList))=(.bool (decide ((l.path:ByteArray)=m.path))),b2=b2,b1=b1]) [o_,⟨[.at 1],none,none,none,none⟩,o_,⟨[.at 2],none,none,none,none⟩,⟨[],none,none,none,some (.bool (decide ((l.path:ByteArray)=m.path)))⟩,o_] [2,3,10] (λ_ _=>by kernel_rfl) ⟨eH _ _,rfl,rfl,trivial⟩ ?_
 refine af.bO 10 ((l.path:ByteArray)=m.path) (λ_=>by kernel_rfl) (λh10=>?_) (λh10=>?_)
 ·refine af.aq (k':=13) (fr':=[(2,.pointer (some ⟨b1,0,none⟩)),(3,.pointer (some ⟨b2,0,none⟩)),(17,.bool (decide ((l.kind:Int)=(m.kind:Int))))]) (ak:=[b2=b2,b1=b1]) [o_,⟨[.at 1],none,none,none,none⟩,o_,⟨[.at 2],none,none,none,none⟩,o_,o_,o_] [2,3,17] (λ_ _=>by kernel_rfl) ⟨rfl,rfl,trivial⟩ ?_
  refine af.bO 17 ((l.kind:Int)=(m.kind:Int)) (λ_=>by kernel_rfl) (λmP=>?_) (λmP=>?_)
  ·refine af.aq (k':=20) (fr':=[(2,.pointer (some ⟨b1,0,none⟩)),(3,.pointer (some ⟨b2,0,none⟩)),(24,.bool (decide ((l.mode:Int)=(m.mode:Int))))]) (ak:=[b2=b2,b1=b1]) [o_,⟨[.at 1],none,none,none,none⟩,o_,⟨[.at 2],none,none,none,none⟩,o_,o_,o_] [2,3,24] (λ_ _=>by kernel_rfl) ⟨rfl,rfl,trivial⟩ ?_
   refine af.bO 24 ((l.mode:Int)=(m.mode:Int)) (λ_=>by kernel_rfl) (λlF=>?_) (λlF=>?_)
   ·refine af.aq (k':=27) (fr':=[(2,.pointer (some ⟨b1,0,none⟩)),(3,.pointer (some ⟨b2,0,none⟩)),(31,.bool (decide ((l.uid:Int)=(m.uid:Int))))]) (ak:=[b2=b2,b1=b1]) [o_,⟨[.at 1],none,none,none,none⟩,o_,⟨[.at 2],none,none,none,none⟩,o_,o_,o_] [2,3,31] (λ_ _=>by kernel_rfl) ⟨rfl,rfl,trivial⟩ ?_
    refine af.bO 31 ((l.uid:Int)=(m.uid:Int)) (λ_=>by kernel_rfl) (λjB=>?_) (λjB=>?_)
    ·refine af.aq (k':=34) (fr':=[(2,.pointer (some ⟨b1,0,none⟩)),(3,.pointer (some ⟨b2,0,none⟩)),(38,.bool (decide ((l.gid:Int)=(m.gid:Int))))]) (ak:=[b2=b2,b1=b1]) [o_,⟨[.at 1],none,none,none,none⟩,o_,⟨[.at 2],none,none,none,none⟩,o_,o_,o_] [2,3,38] (λ_ _=>by kernel_rfl) ⟨rfl,rfl,trivial⟩ ?_
     refine af.bO 38 ((l.gid:Int)=(m.gid:Int)) (λ_=>by kernel_rfl) (λuH=>?_) (λuH=>?_)
     ·refine af.aq (k':=38) (fr':=[(2,.pointer (some ⟨b1,0,none⟩)),(3,.pointer (some ⟨b2,0,none⟩)),(38,.bool true),(40,.agg #[.int .i64 (l.sec),.int .i64 (l.nano)]),(42,.agg #[.int .i64 (m.sec),.int .i64 (m.nano)])]) (ak:=[b2=b2,b2=b2,b1=b1,b1=b1]) [o_,⟨[.at 1,.at 1],none,none,none,none⟩,o_,⟨[.at 2,.at 2],none,none,none,none⟩] [2,3,38,40,42] (λ_ _=>by kernel_rfl) ⟨rfl,rfl,rfl,rfl,trivial⟩ ?_
      refine af.gK (d:=(some 43)) (op:=.binOp .eql 28 (.tmp 40) (.tmp 42) 28) (v:=.bool (decide ((l.sec:Int)=(m.sec:Int)/\(l.nano:Int)=(m.nano:Int)))) (λ_=>by kernel_rfl) (λo junk w ho hS=>⟨w,qW ho (by kernel_rfl) (by kernel_rfl),hS⟩) ?_
      refine af.aq (k':=41) (fr':=[(2,.pointer (some ⟨b1,0,none⟩)),(3,.pointer (some ⟨b2,0,none⟩)),(45,.bool (decide ((l.sec:Int)=(m.sec:Int)/\(l.nano:Int)=(m.nano:Int))))]) (ak:=[]) [o_,o_] [2,3,45] (λ_ _=>by kernel_rfl) trivial ?_
      refine af.bO 45 ((l.sec:Int)=(m.sec:Int)/\(l.nano:Int)=(m.nano:Int)) (λ_=>by kernel_rfl) (λsU=>?_) (λsU=>?_)
      ·refine af.aq (k':=48) (fr':=[(2,.pointer (some ⟨b1,0,none⟩)),(3,.pointer (some ⟨b2,0,none⟩)),(52,.bool (decide ((l.target:ByteArray)=m.target)))]) (ak:=[(Value.bool ((l.target:ByteArray).toList == (m.target:ByteArray).toList))=(.bool (decide ((l.target:ByteArray)=m.target))),b2=b2,b1=b1]) [o_,⟨[.at 1],none,none,none,none⟩,o_,⟨[.at 2],none,none,none,none⟩,⟨[],none,none,none,some (.bool (decide ((l.target:ByteArray)=m.target)))⟩,o_,o_] [2,3,52] (λ_ _=>by kernel_rfl) ⟨eH _ _,rfl,rfl,trivial⟩ ?_
       refine af.bO 52 ((l.target:ByteArray)=m.target) (λ_=>by kernel_rfl) (λqU=>?_) (λqU=>?_)
       ·refine af.aq (k':=55) (fr':=[(2,.pointer (some ⟨b1,0,none⟩)),(3,.pointer (some ⟨b2,0,none⟩)),(59,.bool (decide ((l.peer:ByteArray)=m.peer)))]) (ak:=[(Value.bool ((l.peer:ByteArray).toList == (m.peer:ByteArray).toList))=(.bool (decide ((l.peer:ByteArray)=m.peer))),b2=b2,b1=b1]) [o_,⟨[.at 1],none,none,none,none⟩,o_,⟨[.at 2],none,none,none,none⟩,⟨[],none,none,none,some (.bool (decide ((l.peer:ByteArray)=m.peer)))⟩,o_,o_] [2,3,59] (λ_ _=>by kernel_rfl) ⟨eH _ _,rfl,rfl,trivial⟩ ?_
        refine af.bO 59 ((l.peer:ByteArray)=m.peer) (λ_=>by kernel_rfl) (λmR=>?_) (λmR=>?_)
        ·refine af.aq (k':=59) (fr':=[(59,.bool true),(61,.slice dA (l.data.length) (dC)),(63,.slice dB (m.data.length) (dD))]) (ak:=[b2=b2,b1=b1]) [o_,⟨[.at 1],none,none,none,none⟩,o_,⟨[.at 2],none,none,none,none⟩] [59,61,63] (λ_ _=>by kernel_rfl) ⟨rfl,rfl,trivial⟩ ?_
         refine af.call (f:=65) (args:=#[.slice dA (l.data.length) (dC),.slice dB (m.data.length) (dD)]) (d:=(some 64)) (pre:=[]) (R:=[.abs R,.blk b1 [.string l.path,.int .i64 (l.kind),.int .i64 (l.mode),.int .i64 (l.uid),.int .i64 (l.gid),.int .i64 (l.sec),.int .i64 (l.nano),.slice dA (l.data.length) (dC),.string l.target,.string l.peer] 51,.blk b2 [.string m.path,.int .i64 (m.kind),.int .i64 (m.mode),.int .i64 (m.uid),.int .i64 (m.gid),.int .i64 (m.sec),.int .i64 (m.nano),.slice dB (m.data.length) (dD),.string m.target,.string m.peer] 51]) (pk:=[0,1,2]) (λ_=>by kernel_rfl) (xC dA dB dC dD l.data m.data hD yx hl1) rfl (by kernel_rfl) ?_
         rintro _ _ ⟨rfl,rfl⟩
         refine af.aq (k':=62) (fr':=[(4,.bool (decide (l.data=m.data)))]) (ak:=[]) [o_,o_] [4] (λ_ _=>by kernel_rfl) trivial ?_
         refine af.nil (by kernel_rfl) (ah.next (ai.ret ?_))
         exact ah.ret (v:=.bool (decide (l.data=m.data))) (l:=[]) (ak:=[]) [] [0] (λ_=>by kernel_rfl) trivial rfl (by kernel_rfl) (⟨congrArg Value.bool (decide_eq_decide.2 ⟨λe=>lineEq (by assumption) (by assumption) (by assumption) (by assumption) (by assumption) (by assumption) (by assumption) (by assumption) e,λe=>by cases e;rfl⟩),rfl⟩)
        refine af.aq (k':=62) (fr':=[(4,.bool false)]) (ak:=[]) [o_,o_,o_,o_,o_,o_,o_] [4] (λ_ _=>by kernel_rfl) trivial ?_
        refine af.nil (by kernel_rfl) (ah.next (ai.ret ?_))
        exact ah.ret (v:=.bool false) (l:=[]) (ak:=[]) [] [0] (λ_=>by kernel_rfl) trivial rfl (by kernel_rfl) (⟨by rw [decide_eq_false (λe=>mR (by cases e;first|rfl|exact⟨rfl,rfl⟩))],rfl⟩)
       refine af.aq (k':=62) (fr':=[(4,.bool false)]) (ak:=[]) [o_,o_,o_,o_,o_,o_,o_,o_,o_,o_,o_,o_,o_,o_] [4] (λ_ _=>by kernel_rfl) trivial ?_
       refine af.nil (by kernel_rfl) (ah.next (ai.ret ?_))
       exact ah.ret (v:=.bool false) (l:=[]) (ak:=[]) [] [0] (λ_=>by kernel_rfl) trivial rfl (by kernel_rfl) (⟨by rw [decide_eq_false (λe=>qU (by cases e;first|rfl|exact⟨rfl,rfl⟩))],rfl⟩)
      refine af.aq (k':=62) (fr':=[(4,.bool false)]) (ak:=[]) [o_,o_,o_,o_,o_,o_,o_,o_,o_,o_,o_,o_,o_,o_,o_,o_,o_,o_,o_,o_,o_] [4] (λ_ _=>by kernel_rfl) trivial ?_
      refine af.nil (by kernel_rfl) (ah.next (ai.ret ?_))
      exact ah.ret (v:=.bool false) (l:=[]) (ak:=[]) [] [0] (λ_=>by kernel_rfl) trivial rfl (by kernel_rfl) (⟨by rw [decide_eq_false (λe=>sU (by cases e;first|rfl|exact⟨rfl,rfl⟩))],rfl⟩)
     refine af.aq (k':=62) (fr':=[(4,.bool false)]) (ak:=[]) [o_,o_,o_,o_,o_,o_,o_,o_,o_,o_,o_,o_,o_,o_,o_,o_,o_,o_,o_,o_,o_,o_,o_,o_,o_,o_,o_,o_] [4] (λ_ _=>by kernel_rfl) trivial ?_
     refine af.nil (by kernel_rfl) (ah.next (ai.ret ?_))
     exact ah.ret (v:=.bool false) (l:=[]) (ak:=[]) [] [0] (λ_=>by kernel_rfl) trivial rfl (by kernel_rfl) (⟨by rw [decide_eq_false (λe=>uH (by cases e;first|rfl|exact⟨rfl,rfl⟩))],rfl⟩)
    refine af.aq (k':=62) (fr':=[(4,.bool false)]) (ak:=[]) [o_,o_,o_,o_,o_,o_,o_,o_,o_,o_,o_,o_,o_,o_,o_,o_,o_,o_,o_,o_,o_,o_,o_,o_,o_,o_,o_,o_,o_,o_,o_,o_,o_,o_,o_] [4] (λ_ _=>by kernel_rfl) trivial ?_
    refine af.nil (by kernel_rfl) (ah.next (ai.ret ?_))
    exact ah.ret (v:=.bool false) (l:=[]) (ak:=[]) [] [0] (λ_=>by kernel_rfl) trivial rfl (by kernel_rfl) (⟨by rw [decide_eq_false (λe=>jB (by cases e;first|rfl|exact⟨rfl,rfl⟩))],rfl⟩)
   refine af.aq (k':=62) (fr':=[(4,.bool false)]) (ak:=[]) [o_,o_,o_,o_,o_,o_,o_,o_,o_,o_,o_,o_,o_,o_,o_,o_,o_,o_,o_,o_,o_,o_,o_,o_,o_,o_,o_,o_,o_,o_,o_,o_,o_,o_,o_,o_,o_,o_,o_,o_,o_,o_] [4] (λ_ _=>by kernel_rfl) trivial ?_
   refine af.nil (by kernel_rfl) (ah.next (ai.ret ?_))
   exact ah.ret (v:=.bool false) (l:=[]) (ak:=[]) [] [0] (λ_=>by kernel_rfl) trivial rfl (by kernel_rfl) (⟨by rw [decide_eq_false (λe=>lF (by cases e;first|rfl|exact⟨rfl,rfl⟩))],rfl⟩)
  refine af.aq (k':=62) (fr':=[(4,.bool false)]) (ak:=[]) [o_,o_,o_,o_,o_,o_,o_,o_,o_,o_,o_,o_,o_,o_,o_,o_,o_,o_,o_,o_,o_,o_,o_,o_,o_,o_,o_,o_,o_,o_,o_,o_,o_,o_,o_,o_,o_,o_,o_,o_,o_,o_,o_,o_,o_,o_,o_,o_,o_] [4] (λ_ _=>by kernel_rfl) trivial ?_
  refine af.nil (by kernel_rfl) (ah.next (ai.ret ?_))
  exact ah.ret (v:=.bool false) (l:=[]) (ak:=[]) [] [0] (λ_=>by kernel_rfl) trivial rfl (by kernel_rfl) (⟨by rw [decide_eq_false (λe=>mP (by cases e;first|rfl|exact⟨rfl,rfl⟩))],rfl⟩)
 refine af.aq (k':=62) (fr':=[(4,.bool false)]) (ak:=[]) [o_,o_,o_,o_,o_,o_,o_,o_,o_,o_,o_,o_,o_,o_,o_,o_,o_,o_,o_,o_,o_,o_,o_,o_,o_,o_,o_,o_,o_,o_,o_,o_,o_,o_,o_,o_,o_,o_,o_,o_,o_,o_,o_,o_,o_,o_,o_,o_,o_,o_,o_,o_,o_,o_,o_,o_] [4] (λ_ _=>by kernel_rfl) trivial ?_
 refine af.nil (by kernel_rfl) (ah.next (ai.ret ?_))
 exact ah.ret (v:=.bool false) (l:=[]) (ak:=[]) [] [0] (λ_=>by kernel_rfl) trivial rfl (by kernel_rfl) (⟨by rw [decide_eq_false (λe=>h10 (by cases e;first|rfl|exact⟨rfl,rfl⟩))],rfl⟩)
theorem xD {β:Bs} (A B:Option Addr) (c c':Nat) (ls ms:List aR) (M K:cQ) (hG:aM β A ls M) (hH:aM β B ms K) (hl:ls.length<=16777216) (hd:∀i,i<ls.length->(ln ls i).data.length<=1048576) :
 Spec Try.prog β 52 #[.slice A ls.length c,.slice B ms.length c',.func (.func 53) #[] #[]] [] (λv l=>v=.bool (decide (ls=ms))/\l=[]):=by
 refine Spec.enter Try.func52 rfl Try.ntmps52 (Nat.le_of_ble_eq_true rfl) (λR=>?_)
 refine ai.seq (ai.region (af.aq (k':=1) (fr':=[(0,.slice A (ls.length) (c)),(1,.slice B (ms.length) (c')),(2,.func (.func 53) #[] #[])]) (ak:=[]) [o_] [0,1,2] (λ_ _=>by kernel_rfl) trivial ?_))
 refine af.nil (by kernel_rfl) (ah.next (ai.seq (ai.seq (ai.region ?_))))
 refine af.aq (k':=5) (fr':=[(0,.slice A (ls.length) (c)),(1,.slice B (ms.length) (c')),(2,.func (.func 53) #[] #[]),(14,.bool (!(decide ((((ls.length:Nat):Int):Int)=(((ms.length:Nat):Int):Int)))))]) (ak:=[]) [o_,o_,o_,o_,o_] [0,1,2,14] (λ_ _=>by kernel_rfl) trivial ?_
 refine af.nil (by kernel_rfl) (ah.next ?_)
 refine ai.cY (p:=(((ls.length:Nat):Int):Int)=(((ms.length:Nat):Int):Int)) (λ_=>by kernel_rfl) (λkr=>?_) (λkr=>?_)
 ·refine ai.seq (ai.region (af.aq (k':=1) (fr':=[(6,.bool false)]) (ak:=[]) [o_] [6] (λ_ _=>by kernel_rfl) trivial ?_))
  refine af.nil (by kernel_rfl) (ah.next (ai.ret (ah.ay ?_)))
  exact ah.ret (v:=.bool false) (l:=[]) (ak:=[]) [] [0] (λ_=>by kernel_rfl) trivial rfl (by kernel_rfl) (⟨by rw [decide_eq_false (λe=>kr (by rw [e]))],rfl⟩)
 refine ai.skip (ah.next (ai.seq (ai.seq (ai.region ?_))))
 refine af.aq (k':=3) (fr':=[(1,.slice B (ms.length) (c')),(2,.func (.func 53) #[] #[]),(15,.slice A (ls.length) (c)),(16,.int .i64 ↑ls.length),(17,.int .i64 0)]) (ak:=[]) [o_,o_,o_] [1,2,15,16,17] (λ_ _=>by kernel_rfl) trivial ?_
 refine af.nil (by kernel_rfl) (ah.next (ai.block ?_))
 refine ai.loop (ι:=Nat) (λ(i:Nat)=>(i<=ls.length)/\(∀j,j<i->ls.getD j default=ms.getD j default)) (λ(i:Nat)=>ls.length-i) (λ(i:Nat)=>[(1,.slice B (ms.length) (c')),(2,.func (.func 53) #[] #[]),(15,.slice A (ls.length) (c)),(16,.int .i64 ↑ls.length),(17,.int .i64 ↑i)]) (λ(i:Nat)=>[.abs R]) 0 (idx:=[1,2,15,16,17]) (pk:=[0]) (show (0<=ls.length)/\(∀j,j<0->ls.getD j default=ms.getD j default) from ⟨Nat.zero_le _,λj hj=>absurd hj (Nat.not_lt_zero j)⟩) (λ_=>by kernel_rfl) rfl (by kernel_rfl) ?_
 rintro i ⟨hi,hall⟩
 show ai _ _ _ _ [(1,.slice B (ms.length) (c')),(2,.func (.func 53) #[] #[]),(15,.slice A (ls.length) (c)),(16,.int .i64 ↑ls.length),(17,.int .i64 ↑i)] [.abs R] _
 refine ai.seq (ai.region (af.aq (k':=1) (fr':=[(1,.slice B (ms.length) (c')),(2,.func (.func 53) #[] #[]),(15,.slice A (ls.length) (c)),(16,.int .i64 ↑ls.length),(17,.int .i64 ↑i),(18,.bool (decide ((((i:Nat):Int):Int)<(((ls.length:Nat):Int):Int))))]) (ak:=[]) [o_] [1,2,15,16,17,18] (λ_ _=>by kernel_rfl) trivial ?_))
 refine af.nil (by kernel_rfl) (ah.next (ai.seq ?_))
 refine ai.aV (p:=(((i:Nat):Int):Int)<(((ls.length:Nat):Int):Int)) (λ_=>by kernel_rfl) (λlD=>?_) (λlD=>?_)
 ·refine ai.skip (ah.next (ai.seq (ai.block (ai.seq (ai.region ?_)))))
  refine af.bD (k':=6) (fr':=λb3=>[(1,.slice B (ms.length) (c')),(2,.func (.func 53) #[] #[]),(7,.int .i64 ↑i),(8,.pointer (some ⟨b3,0,none⟩)),(15,.slice A (ls.length) (c)),(16,.int .i64 ↑ls.length),(17,.int .i64 ↑i)]) (aL:=λb3=>[.abs R,.blk b3 [.string (ln ls i).path,.int .i64 ((ln ls i).kind),.int .i64 ((ln ls i).mode),.int .i64 ((ln ls i).uid),.int .i64 ((ln ls i).gid),.int .i64 ((ln ls i).sec),.int .i64 ((ln ls i).nano),.slice (M.dA i) ((ln ls i).data.length) ((M.dC i)),.string (ln ls i).target,.string (ln ls i).peer] 51]) (ak:=λb3=>[b3=b3,b3=b3,b3=b3,b3=b3,b3=b3,b3=b3,b3=b3,b3=b3,b3=b3,b3=b3,(Rd β ⟨(au A),ar A+i*10+9,none⟩ (.string (ln ls i).peer)),(Rd β ⟨(au A),ar A+i*10+8,none⟩ (.string (ln ls i).target)),(Rd β ⟨(au A),ar A+i*10+7,none⟩ (.slice (M.dA i) ((ln ls i).data.length) ((M.dC i)))),(Rd β ⟨(au A),ar A+i*10+6,none⟩ (.int .i64 ((ln ls i).nano))),(Rd β ⟨(au A),ar A+i*10+5,none⟩ (.int .i64 ((ln ls i).sec))),(Rd β ⟨(au A),ar A+i*10+4,none⟩ (.int .i64 ((ln ls i).gid))),(Rd β ⟨(au A),ar A+i*10+3,none⟩ (.int .i64 ((ln ls i).uid))),(Rd β ⟨(au A),ar A+i*10+2,none⟩ (.int .i64 ((ln ls i).mode))),(Rd β ⟨(au A),ar A+i*10+1,none⟩ (.int .i64 ((ln ls i).kind))),(Rd β ⟨(au A),ar A+i*10,none⟩ (.string (ln ls i).path)),((i:Nat):Int)=((i:Nat):Int),i<ls.length,(⟨(au A),ar A,none⟩:Addr).spot=none,(A:Option Addr)=some ⟨(au A),ar A,none⟩]) [o_,⟨[],some i,none,some ⟨(au A),ar A,none⟩,none⟩,⟨[.old (.string (ln ls i).path),.old (.int .i64 ((ln ls i).kind)),.old (.int .i64 ((ln ls i).mode)),.old (.int .i64 ((ln ls i).uid)),.old (.int .i64 ((ln ls i).gid)),.old (.int .i64 ((ln ls i).sec)),.old (.int .i64 ((ln ls i).nano)),.old (.slice (M.dA i) ((ln ls i).data.length) ((M.dC i))),.old (.string (ln ls i).target),.old (.string (ln ls i).peer)],none,none,none,none⟩,o_,o_,⟨[.at 1,.at 1,.at 1,.at 1,.at 1,.at 1,.at 1,.at 1,.at 1,.at 1],none,none,none,none⟩] [1,2,7,8,15,16,17] [0,1] (λ_ _=>by kernel_rfl) (λb3=>⟨rfl,rfl,rfl,rfl,rfl,rfl,rfl,rfl,rfl,rfl,aM.rd hG (i:=i) (by omega) (j:=9) rfl,aM.rd hG (i:=i) (by omega) (j:=8) rfl,aM.rd hG (i:=i) (by omega) (j:=7) rfl,aM.rd hG (i:=i) (by omega) (j:=6) rfl,aM.rd hG (i:=i) (by omega) (j:=5) rfl,aM.rd hG (i:=i) (by omega) (j:=4) rfl,aM.rd hG (i:=i) (by omega) (j:=3) rfl,aM.rd hG (i:=i) (by omega) (j:=2) rfl,aM.rd hG (i:=i) (by omega) (j:=1) rfl,aM.rd hG (i:=i) (by omega) (j:=0) rfl,rfl,by omega,rfl,aM.hd hG (i:=i) (by omega),trivial⟩) (λb3=>?_)
  refine af.nil (by kernel_rfl) (ah.next (ai.seq (ai.region ?_)))
  refine af.bD (k':=6) (fr':=λb4=>[(1,.slice B (ms.length) (c')),(2,.func (.func 53) #[] #[]),(8,.pointer (some ⟨b3,0,none⟩)),(9,.pointer (some ⟨b4,0,none⟩)),(15,.slice A (ls.length) (c)),(16,.int .i64 ↑ls.length),(17,.int .i64 ↑i)]) (aL:=λb4=>[.abs R,.blk b3 [.string (ln ls i).path,.int .i64 ((ln ls i).kind),.int .i64 ((ln ls i).mode),.int .i64 ((ln ls i).uid),.int .i64 ((ln ls i).gid),.int .i64 ((ln ls i).sec),.int .i64 ((ln ls i).nano),.slice (M.dA i) ((ln ls i).data.length) ((M.dC i)),.string (ln ls i).target,.string (ln ls i).peer] 51,.blk b4 [.string (ln ms i).path,.int .i64 ((ln ms i).kind),.int .i64 ((ln ms i).mode),.int .i64 ((ln ms i).uid),.int .i64 ((ln ms i).gid),.int .i64 ((ln ms i).sec),.int .i64 ((ln ms i).nano),.slice (K.dA i) ((ln ms i).data.length) ((K.dC i)),.string (ln ms i).target,.string (ln ms i).peer] 51]) (ak:=λb4=>[b4=b4,b4=b4,b4=b4,b4=b4,b4=b4,b4=b4,b4=b4,b4=b4,b4=b4,b4=b4,(Rd β ⟨(au B),ar B+i*10+9,none⟩ (.string (ln ms i).peer)),(Rd β ⟨(au B),ar B+i*10+8,none⟩ (.string (ln ms i).target)),(Rd β ⟨(au B),ar B+i*10+7,none⟩ (.slice (K.dA i) ((ln ms i).data.length) ((K.dC i)))),(Rd β ⟨(au B),ar B+i*10+6,none⟩ (.int .i64 ((ln ms i).nano))),(Rd β ⟨(au B),ar B+i*10+5,none⟩ (.int .i64 ((ln ms i).sec))),(Rd β ⟨(au B),ar B+i*10+4,none⟩ (.int .i64 ((ln ms i).gid))),(Rd β ⟨(au B),ar B+i*10+3,none⟩ (.int .i64 ((ln ms i).uid))),(Rd β ⟨(au B),ar B+i*10+2,none⟩ (.int .i64 ((ln ms i).mode))),(Rd β ⟨(au B),ar B+i*10+1,none⟩ (.int .i64 ((ln ms i).kind))),(Rd β ⟨(au B),ar B+i*10,none⟩ (.string (ln ms i).path)),((i:Nat):Int)=((i:Nat):Int),i<ms.length,(⟨(au B),ar B,none⟩:Addr).spot=none,(B:Option Addr)=some ⟨(au B),ar B,none⟩]) [o_,o_,⟨[],some i,none,some ⟨(au B),ar B,none⟩,none⟩,⟨[.old (.string (ln ms i).path),.old (.int .i64 ((ln ms i).kind)),.old (.int .i64 ((ln ms i).mode)),.old (.int .i64 ((ln ms i).uid)),.old (.int .i64 ((ln ms i).gid)),.old (.int .i64 ((ln ms i).sec)),.old (.int .i64 ((ln ms i).nano)),.old (.slice (K.dA i) ((ln ms i).data.length) ((K.dC i))),.old (.string (ln ms i).target),.old (.string (ln ms i).peer)],none,none,none,none⟩,o_,⟨[.at 2,.at 2,.at 2,.at 2,.at 2,.at 2,.at 2,.at 2,.at 2,.at 2],none,none,none,none⟩] [1,2,8,9,15,16,17] [0,1,2] (λ_ _=>by kernel_rfl) (λb4=>⟨rfl,rfl,rfl,rfl,rfl,rfl,rfl,rfl,rfl,rfl,aM.rd hH (i:=i) (by omega) (j:=9) rfl,aM.rd hH (i:=i) (by omega) (j:=8) rfl,aM.rd hH (i:=i) (by omega) (j:=7) rfl,aM.rd hH (i:=i) (by omega) (j:=6) rfl,aM.rd hH (i:=i) (by omega) (j:=5) rfl,aM.rd hH (i:=i) (by omega) (j:=4) rfl,aM.rd hH (i:=i) (by omega) (j:=3) rfl,aM.rd hH (i:=i) (by omega) (j:=2) rfl,aM.rd hH (i:=i) (by omega) (j:=1) rfl,aM.rd hH (i:=i) (by omega) (j:=0) rfl,rfl,by omega,rfl,aM.hd hH (i:=i) (by omega),trivial⟩) (λb4=>?_)
  refine af.nil (by kernel_rfl) (ah.next (ai.seq (ai.region ?_)))
  refine af.aq (k':=3) (fr':=[(1,.slice B (ms.length) (c')),(2,.func (.func 53) #[] #[]),(15,.slice A (ls.length) (c)),(16,.int .i64 ↑ls.length),(17,.int .i64 ↑i),(26,.func (.func 53) #[] #[]),(27,.agg #[.string (ln ls i).path,.int .i64 ((ln ls i).kind),.int .i64 ((ln ls i).mode),.int .i64 ((ln ls i).uid),.int .i64 ((ln ls i).gid),.int .i64 ((ln ls i).sec),.int .i64 ((ln ls i).nano),.slice (M.dA i) ((ln ls i).data.length) ((M.dC i)),.string (ln ls i).target,.string (ln ls i).peer]),(28,.agg #[.string (ln ms i).path,.int .i64 ((ln ms i).kind),.int .i64 ((ln ms i).mode),.int .i64 ((ln ms i).uid),.int .i64 ((ln ms i).gid),.int .i64 ((ln ms i).sec),.int .i64 ((ln ms i).nano),.slice (K.dA i) ((ln ms i).data.length) ((K.dC i)),.string (ln ms i).target,.string (ln ms i).peer])]) (ak:=[b4=b4,b4=b4,b4=b4,b4=b4,b4=b4,b4=b4,b4=b4,b4=b4,b4=b4,b4=b4,b3=b3,b3=b3,b3=b3,b3=b3,b3=b3,b3=b3,b3=b3,b3=b3,b3=b3,b3=b3]) [o_,⟨[.at 1,.at 1,.at 1,.at 1,.at 1,.at 1,.at 1,.at 1,.at 1,.at 1],none,none,none,none⟩,⟨[.at 2,.at 2,.at 2,.at 2,.at 2,.at 2,.at 2,.at 2,.at 2,.at 2],none,none,none,none⟩] [1,2,15,16,17,26,27,28] (λ_ _=>by kernel_rfl) ⟨rfl,rfl,rfl,rfl,rfl,rfl,rfl,rfl,rfl,rfl,rfl,rfl,rfl,rfl,rfl,rfl,rfl,rfl,rfl,rfl,trivial⟩ ?_
  refine af.call (f:=53) (args:=#[.agg #[.string (ln ls i).path,.int .i64 ((ln ls i).kind),.int .i64 ((ln ls i).mode),.int .i64 ((ln ls i).uid),.int .i64 ((ln ls i).gid),.int .i64 ((ln ls i).sec),.int .i64 ((ln ls i).nano),.slice (M.dA i) ((ln ls i).data.length) ((M.dC i)),.string (ln ls i).target,.string (ln ls i).peer],.agg #[.string (ln ms i).path,.int .i64 ((ln ms i).kind),.int .i64 ((ln ms i).mode),.int .i64 ((ln ms i).uid),.int .i64 ((ln ms i).gid),.int .i64 ((ln ms i).sec),.int .i64 ((ln ms i).nano),.slice (K.dA i) ((ln ms i).data.length) ((K.dC i)),.string (ln ms i).target,.string (ln ms i).peer]]) (d:=(some 29)) (pre:=[]) (R:=[.abs R,.blk b3 [.string (ln ls i).path,.int .i64 ((ln ls i).kind),.int .i64 ((ln ls i).mode),.int .i64 ((ln ls i).uid),.int .i64 ((ln ls i).gid),.int .i64 ((ln ls i).sec),.int .i64 ((ln ls i).nano),.slice (M.dA i) ((ln ls i).data.length) ((M.dC i)),.string (ln ls i).target,.string (ln ls i).peer] 51,.blk b4 [.string (ln ms i).path,.int .i64 ((ln ms i).kind),.int .i64 ((ln ms i).mode),.int .i64 ((ln ms i).uid),.int .i64 ((ln ms i).gid),.int .i64 ((ln ms i).sec),.int .i64 ((ln ms i).nano),.slice (K.dA i) ((ln ms i).data.length) ((K.dC i)),.string (ln ms i).target,.string (ln ms i).peer] 51]) (pk:=[0,1,2]) (λ_=>by kernel_rfl) (uZ (ln ls i) (ln ms i) (M.dA i) (K.dA i) (M.dC i) (K.dC i) (hG.data i (by omega)) (hH.data i (by omega)) (hd i (by omega))) rfl (by kernel_rfl) ?_
  rintro _ _ ⟨rfl,rfl⟩
  refine af.aq (k':=5) (fr':=[(1,.slice B (ms.length) (c')),(2,.func (.func 53) #[] #[]),(15,.slice A (ls.length) (c)),(16,.int .i64 ↑ls.length),(17,.int .i64 ↑i),(30,.bool (!(decide (ln ls i=ln ms i))))]) (ak:=[]) [o_] [1,2,15,16,17,30] (λ_ _=>by kernel_rfl) trivial ?_
  refine af.nil (by kernel_rfl) (ah.next ?_)
  refine ai.cY (p:=ln ls i=ln ms i) (λ_=>by kernel_rfl) (λmT=>?_) (λmT=>?_)
  ·refine ai.seq (ai.region (af.aq (k':=1) (fr':=[(6,.bool false)]) (ak:=[]) [o_] [6] (λ_ _=>by kernel_rfl) trivial ?_))
   refine af.nil (by kernel_rfl) (ah.next (ai.ret (ah.aG (ah.ay (ah.ay (ah.aG (ah.ay ?_)))))))
   exact ah.ret (v:=.bool false) (l:=[]) (ak:=[]) [] [0] (λ_=>by kernel_rfl) trivial rfl (by kernel_rfl) (⟨by rw [decide_eq_false (λe=>mT (by rw [e]))],rfl⟩)
  refine ai.skip (ah.aJ (ah.next (ai.region ?_)))
  refine af.aq (k':=2) (fr':=[(1,.slice B (ms.length) (c')),(2,.func (.func 53) #[] #[]),(15,.slice A (ls.length) (c)),(16,.int .i64 ↑ls.length),(17,.int .i64 ↑(i+1))]) (ak:=[(Value.int .i64 (IntKind.wrap .i64 (((i:Nat):Int)+1)))=(.int .i64 ↑(i+1))]) [⟨[],none,none,none,some (.int .i64 ↑(i+1))⟩,o_] [1,2,15,16,17] (λ_ _=>by kernel_rfl) ⟨aP (by omega) (by omega) (by omega),trivial⟩ ?_
  refine af.nil (by kernel_rfl) ?_
  exact ah.turn ((i+1)) (idx:=[1,2,15,16,17]) (pk:=[0]) (show (((i+1))<=ls.length)/\(∀j,j<((i+1))->ls.getD j default=ms.getD j default) from ⟨by omega,λj hj=>by rcases Nat.lt_succ_iff_lt_or_eq.1 hj with h|h;exact hall j h;subst h;exact mT⟩) (by show ls.length-((i+1))<ls.length-i;omega) (λ_=>by kernel_rfl) rfl (by kernel_rfl)
 refine ai.exit (ah.aH (ah.aH (ah.bg (ah.next (ai.seq (ai.region ?_))))))
 refine af.aq (k':=1) (fr':=[(6,.bool true)]) (ak:=[]) [o_] [6] (λ_ _=>by kernel_rfl) trivial ?_
 refine af.nil (by kernel_rfl) (ah.next (ai.ret ?_))
 exact ah.ret (v:=.bool true) (l:=[]) (ak:=[]) [] [0] (λ_=>by kernel_rfl) trivial rfl (by kernel_rfl) (⟨by rw [decide_eq_true (jJ (x:=default) (by omega) (λj hj=>hall j (by omega)))],rfl⟩)
end
section
open Go.RowKit Go.Maps
structure PS where
 ns:List aD
 ids:List Nat
def kA:PS:=⟨[],[]⟩
def aS (l:aR) (k:Nat):aD:=⟨((k+1:Nat):Int),l.kind,l.mode,l.uid,l.gid,l.sec,l.nano,l.data,l.target,[]⟩
def cA (ns:List aD) (k:Nat) (e:bV):List aD:=ns.set k {nd ns k with aj:=(nd ns k).aj++[e]}
def bS (ls:List aR) (ids:List Nat) (p:ByteArray):Nat->Nat
 |0=>0
 |i+1=>if bS ls ids p i=0/\(ln ls i).path=p then ids.getD i 0 else bS ls ids p i
def dP (ls:List aR) (ids:List Nat) (p:ByteArray):Nat->Int
 |0=>-1
 |i+1=>if 1<=i/\(ln ls i).path=p then ((ids.getD i 0:Nat):Int)-1 else dP ls ids p i
def newId (ls:List aR) (s:PS) (i:Nat):Nat:=if (ln ls i).peer=⟨#[]⟩ then s.ns.length+1 else bS ls s.ids (ln ls i).peer i
def ax (ls:List aR) (s:PS) (i:Nat):List aD:=if (ln ls i).peer=⟨#[]⟩ then s.ns++[aS (ln ls i) s.ns.length] else s.ns
def cutAt (p:ByteArray):Int:=Lib.lastIndexByte p 47
def nameOf (p:ByteArray):ByteArray:=if 0<=cutAt p then p.extract ((cutAt p).toNat+1) p.size else p
def cC (p:ByteArray):ByteArray:=p.extract 0 (cutAt p).toNat
def bH (ls:List aR) (s:PS) (i:Nat):Nat:=if 0<=cutAt (ln ls i).path then bS ls s.ids (cC (ln ls i).path) i else 1
def bk (ls:List aR) (s:PS) (i:Nat):Int:=if 0<=cutAt (ln ls i).path then dP ls s.ids (cC (ln ls i).path) i else 0
def dW (ls:List aR) (s:PS) (i:Nat):Option PS:=
 if ¬bS ls s.ids (ln ls i).path i=0\/newId ls s i=0 then none
 else if i=0 then some ⟨ax ls s i,s.ids++[newId ls s i]⟩
 else if bH ls s i=0 then none
 else some ⟨cA (ax ls s i) (bH ls s i-1) ⟨nameOf (ln ls i).path,((newId ls s i:Nat):Int)⟩,s.ids++[newId ls s i]⟩
def fB (ls:List aR) (s:PS) (i:Nat):Option PS:=
 if newId ls s i=0 then none
 else if i=0 then some ⟨ax ls s i,s.ids++[newId ls s i]⟩
 else if bk ls s i<0 then none
 else some ⟨cA (ax ls s i) (bk ls s i).toNat ⟨nameOf (ln ls i).path,((newId ls s i:Nat):Int)⟩,s.ids++[newId ls s i]⟩
def dg (step:List aR->PS->Nat->Option PS) (ls:List aR):Nat->Option PS
 |0=>some kA
 |i+1=>(dg step ls i).bind λs=>step ls s i
structure gI (ls:List aR) (s:PS) (i:Nat):Prop where
 q8:s.ids.length=i
 CM:s.ns.length<=i
 CN:1<=i->1<=s.ns.length
 pJ:∀j,j<i->1<=s.ids.getD j 0/\s.ids.getD j 0<=s.ns.length
 num:∀k,k<s.ns.length->(nd s.ns k).id=((k+1:Nat):Int)
theorem gI.zero (ls:List aR):gI ls kA 0:=⟨rfl,Nat.le_refl _,λh=>absurd h (by decide),λj h=>absurd h (Nat.not_lt_zero j),λk h=>absurd h (Nat.not_lt_zero k)⟩
theorem r8 {ls:List aR} {ids:List Nat} {p:ByteArray} {b:Nat}:∀{i:Nat},(∀j,j<i->1<=ids.getD j 0/\ids.getD j 0<=b)->bS ls ids p i<=b
 |0,_=>Nat.zero_le _
 |i+1,h=>by
   rw [bS]
   split
   ·exact (h i (Nat.lt_succ_self i)).2
   exact r8 (λj hj=>h j (by omega))
theorem j9 {ls:List aR} {ids:List Nat} {p:ByteArray}:∀{i:Nat},(∀j,j<i->1<=ids.getD j 0)->(bS ls ids p i=0↔∀j,j<i->¬(ln ls j).path=p)
 |0,_=>⟨λ_ j hj=>absurd hj (Nat.not_lt_zero j),λ_=>rfl⟩
 |i+1,h=>by
   have ih:=j9 (ls:=ls) (p:=p) (i:=i) (λj hj=>h j (by omega))
   have hi:=h i (Nat.lt_succ_self i)
   rw [bS]
   split
   ·rename_i h1
    exact⟨λe=>by omega,λe=>absurd h1.2 (e i (Nat.lt_succ_self i))⟩
   rename_i h1
   refine⟨λe j hj=>?_,λe=>ih.2 λj hj=>e j (by omega)⟩
   rcases Nat.lt_succ_iff_lt_or_eq.1 hj with h2|h2
   ·exact ih.1 e j h2
   rw [h2];exact λh3=>h1 ⟨e,h3⟩
theorem lT {l:List Nat} {x:Nat} {j:Nat} (h:j<l.length):(l++[x]).getD j 0=l.getD j 0:=by
 rw [List.getD_eq_getElem?_getD,List.getD_eq_getElem?_getD,List.getElem?_append_left h]
theorem lU {l:List Nat} {x:Nat}:(l++[x]).getD l.length 0=x:=by
 rw [List.getD_eq_getElem?_getD,List.getElem?_append_right (Nat.le_refl _)];simp
theorem tg {ls:List aR} {ids:List Nat} {x:Nat} {p:ByteArray}:∀{i:Nat},i<=ids.length->bS ls (ids++[x]) p i=bS ls ids p i
 |0,_=>rfl
 |i+1,h=>by
   rw [bS,bS,tg (by omega),lT (by omega)]
end
section
open Go.RowKit Go.Maps
theorem zX {ls:List aR} {s:PS} {i:Nat} (h:gI ls s i):newId ls s i<=(ax ls s i).length:=by
 unfold newId ax
 split
 ·simp
 exact r8 (λj hj=>h.pJ j hj)
theorem jO {ls:List aR} {s:PS} {i:Nat}:s.ns.length<=(ax ls s i).length:=by
 unfold ax;split<;>simp
theorem zY {ls:List aR} {s:PS} {i:Nat}:(ax ls s i).length<=s.ns.length+1:=by
 unfold ax;split<;>simp
theorem mU {ns:List aD} {n:aD} {k:Nat} (h:k<ns.length):nd (ns++[n]) k=nd ns k:=by
 unfold nd;rw [List.getD_eq_getElem?_getD,List.getD_eq_getElem?_getD,List.getElem?_append_left h]
theorem kL {ns:List aD} {n:aD}:nd (ns++[n]) ns.length=n:=by
 unfold nd;rw [List.getD_eq_getElem?_getD,List.getElem?_append_right (Nat.le_refl _)];simp
theorem jk {ls:List aR} {s:PS} {i:Nat} (h:gI ls s i) {k:Nat} (hk:k<(ax ls s i).length):(nd (ax ls s i) k).id=((k+1:Nat):Int):=by
 unfold ax at hk ⊢
 split
 ·rename_i h1
  rw [if_pos h1] at hk
  simp only [List.length_append,List.length_singleton] at hk
  by_cases e:k=s.ns.length
  ·subst e;rw [kL];rfl
  rw [mU (by omega)];exact h.num k (by omega)
 rename_i h1
 rw [if_neg h1] at hk
 exact h.num k hk
theorem eu (ns:List aD) (k:Nat) (e:bV):(cA ns k e).length=ns.length:=List.length_set
theorem iz {ns:List aD} {k j:Nat} {e:bV} (hk:k<ns.length):nd (cA ns k e) j=if j=k then {nd ns k with aj:=(nd ns k).aj++[e]} else nd ns j:=by
 unfold cA
 by_cases h:j=k
 ·subst h
  rw [if_pos rfl]
  conv=>lhs;unfold nd
  rw [List.getD_eq_getElem?_getD,List.getElem?_set_self hk];rfl
 rw [if_neg h]
 conv=>lhs;unfold nd
 rw [List.getD_eq_getElem?_getD,List.getElem?_set_ne (λe=>h e.symm)]
 unfold nd
 rw [List.getD_eq_getElem?_getD]
theorem gI.step {ls:List aR} {s:PS} {i:Nat} (h:gI ls s i) (hn:¬newId ls s i=0) {ns:List aD} (hl:ns.length=(ax ls s i).length) (DQ:∀k,k<ns.length->(nd ns k).id=((k+1:Nat):Int)):gI ls ⟨ns,s.ids++[newId ls s i]⟩ (i+1):=by
 have h1:=zX h
 have h2:=jO (ls:=ls) (s:=s) (i:=i)
 have h3:=zY (ls:=ls) (s:=s) (i:=i)
 have h4:=h.CM
 refine⟨by simp [h.q8],by show ns.length<=_;omega,λ_=>by show 1<=ns.length;omega,λj hj=>?_,DQ⟩
 show 1<=(s.ids++[newId ls s i]).getD j 0/\(s.ids++[newId ls s i]).getD j 0<=ns.length
 rcases Nat.lt_succ_iff_lt_or_eq.1 hj with e|e
 ·rw [lT (by rw [h.q8];exact e)]
  have:=h.pJ j e
  omega
 have e2:j=s.ids.length:=by rw [h.q8];exact e
 rw [e2,lU]
 omega
theorem wJ {ls:List aR} {s:PS} {i:Nat} (h:gI ls s i) (hi:0<i):bH ls s i<=s.ns.length:=by
 unfold bH
 split
 ·exact r8 (λj hj=>h.pJ j hj)
 exact h.CN hi
theorem tj {ls:List aR} {s s':PS} {i:Nat} (h:gI ls s i) (hs:dW ls s i=some s'):gI ls s' (i+1):=by
 unfold dW at hs
 split at hs
 ·cases hs
 rename_i h1
 have hn:¬newId ls s i=0:=λe=>h1 (.inr e)
 split at hs
 ·cases hs
  exact h.step hn rfl (λk hk=>jk h hk)
 rename_i h2
 split at hs
 ·cases hs
 rename_i h3
 cases hs
 have h4:=wJ h (by omega)
 have h5:=jO (ls:=ls) (s:=s) (i:=i)
 refine h.step hn (eu _ _ _) (λk hk=>?_)
 rw [eu] at hk
 rw [iz (by omega)]
 split
 ·rename_i e;subst e;exact jk h hk
 exact jk h hk
theorem pK {ls:List aR} {ids:List Nat} {p:ByteArray}:∀{i:Nat},(∀j,1<=j->j<i->¬(ln ls j).path=p)->dP ls ids p i = -1
 |0,_=>rfl
 |i+1,h=>by
   rw [dP,if_neg (λe=>h i e.1 (Nat.lt_succ_self i) e.2)]
   exact pK (λj h1 h2=>h j h1 (by omega))
theorem tq {ls:List aR} {ids:List Nat} {p:ByteArray} {j:Nat} (iJ:1<=j) (hp:(ln ls j).path=p):∀{i:Nat},j<i->(∀t,1<=t->t<i->(ln ls t).path=p->t=j)->dP ls ids p i=((ids.getD j 0:Nat):Int)-1
 |0,h,_=>absurd h (Nat.not_lt_zero j)
 |i+1,h,hu=>by
   rw [dP]
   by_cases e:1<=i/\(ln ls i).path=p
   ·rw [if_pos e,hu i e.1 (Nat.lt_succ_self i) e.2]
   rw [if_neg e]
   rcases Nat.lt_succ_iff_lt_or_eq.1 h with h2|h2
   ·exact tq iJ hp h2 (λt h1 h2=>hu t h1 (by omega))
   subst h2;exact absurd ⟨iJ,hp⟩ e
theorem r9 {ls:List aR} {ids:List Nat} {p:ByteArray} {j:Nat} (hp:(ln ls j).path=p):∀{i:Nat},j<i->(∀t,t<i->1<=ids.getD t 0)->(∀t,t<i->(ln ls t).path=p->t=j)->bS ls ids p i=ids.getD j 0
 |0,h,_,_=>absurd h (Nat.not_lt_zero j)
 |i+1,h,hb,hu=>by
   rw [bS]
   by_cases e:bS ls ids p i=0/\(ln ls i).path=p
   ·rw [if_pos e,hu i (Nat.lt_succ_self i) e.2]
   rw [if_neg e]
   rcases Nat.lt_succ_iff_lt_or_eq.1 h with h2|h2
   ·exact r9 hp h2 (λt ht=>hb t (by omega)) (λt ht=>hu t (by omega))
   subst h2
   exfalso
   apply e
   refine⟨(j9 (λt ht=>hb t (by omega))).2 (λt ht e2=>?_),hp⟩
   have:=hu t (by omega) e2
   omega
def o3 (ls:List aR):Prop:=∀i,0<i->i<ls.length->0<=cutAt (ln ls i).path->¬cC (ln ls i).path=⟨#[46]⟩
theorem CO {ls:List aR} {s:PS} {i:Nat} (h:gI ls s i) (hg:dX ls) (ha:o3 ls) (h0:0<i) (hi:i<ls.length):bk ls s i=((bH ls s i:Nat):Int)-1:=by
 unfold bk bH
 by_cases hc:0<=cutAt (ln ls i).path
 ·rw [if_pos hc,if_pos hc]
  by_cases hx:∃j,j<i/\(ln ls j).path=cC (ln ls i).path
  ·obtain⟨j,hj,hp⟩:=hx
   have AV:∀t,t<i->(ln ls t).path=cC (ln ls i).path->t=j:=λt ht e=>by
    rcases Nat.lt_trichotomy t j with h1|h1|h1
    ·exact absurd (e.trans hp.symm) (hg.nodup t j h1 (by omega))
    ·exact h1
    exact absurd (hp.trans e.symm) (hg.nodup j t h1 (by omega))
   have iJ:1<=j:=by
    rcases Nat.eq_zero_or_pos j with e|e
    ·subst e
     exact absurd (by rw [←hp];exact hg.first (by omega)) (ha i h0 hi hc)
    exact e
   rw [tq iJ hp hj (λt _ h2 h3=>AV t h2 h3),r9 hp hj (λt ht=>(h.pJ t ht).1) AV]
  have hno:∀j,j<i->¬(ln ls j).path=cC (ln ls i).path:=λj hj e=>hx ⟨j,hj,e⟩
  rw [pK (λj _ h2=>hno j h2),(j9 (λj hj=>(h.pJ j hj).1)).2 hno]
  rfl
 rw [if_neg hc,if_neg hc];rfl
theorem step_eq {ls:List aR} {s:PS} {i:Nat} (h:gI ls s i) (hg:dX ls) (ha:o3 ls) (hi:i<ls.length):fB ls s i=dW ls s i:=by
 have hid:bS ls s.ids (ln ls i).path i=0:=(j9 (λj hj=>(h.pJ j hj).1)).2 (λj hj=>hg.nodup j i hj hi)
 unfold fB dW
 by_cases hn:newId ls s i=0
 ·rw [if_pos hn,if_pos (.inr hn)]
 rw [if_neg hn,if_neg (show ¬(¬bS ls s.ids (ln ls i).path i=0\/newId ls s i=0) from λe=>e.elim (λe=>e hid) hn)]
 by_cases h0:i=0
 ·rw [if_pos h0,if_pos h0]
 rw [if_neg h0,if_neg h0,CO h hg ha (by omega) hi]
 by_cases hp:bH ls s i=0
 ·rw [if_pos (by omega),if_pos hp]
 rw [if_neg (by omega),if_neg hp]
 congr 3
 omega
theorem ld {ls:List aR}:∀{i:Nat} {s:PS},dg dW ls i=some s->gI ls s i
 |0,s,h=>by cases h;exact gI.zero ls
 |i+1,s,h=>by
   rw [dg] at h
   cases h1:dg dW ls i with
   |none=>rw [h1] at h;cases h
   |some s1=>rw [h1] at h;exact tj (ld h1) h
theorem fold_eq {ls:List aR} (hg:dX ls) (ha:o3 ls):∀{i:Nat},i<=ls.length->dg fB ls i=dg dW ls i
 |0,_=>rfl
 |i+1,h=>by
   rw [dg,dg,fold_eq hg ha (by omega)]
   cases h1:dg dW ls i with
   |none=>rfl
   |some s=>exact step_eq (ld h1) hg ha (by omega)
theorem nQ {s:ByteArray} {j:Nat} (h:j<s.size):(s.data[j]!).toNat=aW s j:=by
 unfold aW
 rw [Array.getD_eq_getD_getElem?,Array.getElem!_eq_getD,Array.getD_eq_getD_getElem?]
 have:j<s.data.size:=h
 rw [Array.getElem?_eq_getElem this]
 rfl
theorem iG (p:ByteArray):(cutAt p = -1/\∀j,j<p.size->¬aW p j=47)\/∃i:Nat,i<p.size/\cutAt p=i/\aW p i=47/\∀j,i<j->j<p.size->¬aW p j=47:=by
 rcases Lib.lastIndexByte_spec p 47 with ⟨h1,h2⟩|⟨i,h1,h2,h3,h4⟩
 ·exact .inl ⟨h1,λj hj e=>h2 j hj (by rw [nQ hj,e];rfl)⟩
 exact .inr ⟨i,h1,h2,by rw [nQ h1] at h3;omega,λj h5 h6 e=>h4 j h5 h6 (by rw [nQ h6,e];rfl)⟩
theorem Path.above {l:List ByteArray} {p:ByteArray} (h:Path l p) (hc:0<=cutAt p):¬cC p=⟨#[46]⟩:=by
 cases h with
 |one h=>
   rcases iG p with ⟨h1,_⟩|⟨i,h1,_,h3,_⟩
   ·omega
   exact absurd h3 (h.2.2.2.2 i h1).2
 | @more l p n h hn=>
   have e1:(⟨#[47]⟩:ByteArray).size=1:=rfl
   have hs:(p++⟨#[47]⟩++n).size=p.size+1+n.size:=by rw [ByteArray.size_append,ByteArray.size_append,e1]
   have hb:aW (p++⟨#[47]⟩++n) p.size=47:=by
    rw [ByteArray.append_assoc,gN (Nat.le_refl _),Nat.sub_self,jZ (by rw [e1];decide)]
    rfl
   have hcut:cutAt (p++⟨#[47]⟩++n)=(p.size:Int):=by
    rcases iG (p++⟨#[47]⟩++n) with ⟨_,h2⟩|⟨i,h1,h2,h3,h4⟩
    ·exact absurd hb (h2 p.size (by omega))
    rcases Nat.lt_trichotomy i p.size with e|e|e
    ·exact absurd hb (h4 p.size e (by omega))
    ·rw [h2,e]
    exfalso
    rw [gN (by rw [ByteArray.size_append,e1];omega),ByteArray.size_append,e1] at h3
    exact (hn.2.2.2.2 (i-(p.size+1)) (by omega)).2 h3
   intro e
   unfold cC at e
   rw [hcut,Int.toNat_natCast,ByteArray.append_assoc,ByteArray.extract_append_eq_left rfl] at e
   rw [e] at h
   exact h.rZ
theorem dX.above {ls:List aR} (h:dX ls):o3 ls:=λi h0 hi hc=>by
 obtain⟨l,h1⟩:=h.path i h0 hi
 exact h1.above hc
noncomputable def aO (ls:List aR):List aD×Int:=
 match dg dW ls ls.length with
 |none=>([],151)
 |some s=>if aB s.ns 1=(ls,0) then (s.ns,0) else ([],151)
noncomputable def gP (ls:List aR):List aD×Int:=
 match dg fB ls ls.length with
 |none=>([],151)
 |some s=>if aB s.ns 1=(ls,0) then (s.ns,0) else ([],151)
theorem BJ {ls:List aR} {ns:List aD} (h:aB ns 1=(ls,0)):dX ls:=by
 have:=lS (ns:=ns) (root:=1) (by rw [h])
 rw [h] at this
 exact this
theorem zZ (ls:List aR):gP ls=aO ls:=by
 by_cases hg:dX ls
 ·unfold gP aO
  rw [fold_eq hg hg.above (Nat.le_refl _)]
 have hno:∀ns,¬aB ns 1=(ls,0):=λns e=>hg (BJ e)
 have e1:gP ls=([],151):=by
  unfold gP
  split
  ·rfl
  rw [if_neg (hno _)]
 have e2:aO ls=([],151):=by
  unfold aO
  split
  ·rfl
  rw [if_neg (hno _)]
 rw [e1,e2]
end
section
open Go.RowKit Go.Maps
theorem si:Keyed Try.prog 9:=string_keyed Try.underlying9
theorem sj {p:ByteArray} (h:p.size<=9223372036854775807):keyOf Try.prog 9 (.string p)=some (.string p.data.toList):=WideMaps.keyOf_string_mk Try.underlying9 (by unfold maxLen;omega)
def mS (g:ByteArray->Option Value):Lit->Option Value
 |.string l=>g ⟨l.toArray⟩
 |_=>none
theorem tS (g:ByteArray->Option Value) (p:ByteArray):mS g (.string p.data.toList)=g p:=by
 show g ⟨p.data.toList.toArray⟩=g p
 rw [Array.toArray_toList]
theorem CP (g:ByteArray->Option Value) (p:ByteArray) (v:Option Value):mI (mS g) (.string p.data.toList) v=mS (λq=>if q=p then v else g q):=by
 funext x
 unfold mI mS
 cases x with
 |string l=>
   by_cases e:l=p.data.toList
   ·subst e
    have e2:(⟨p.data.toList.toArray⟩:ByteArray)=p:=by rw [Array.toArray_toList]
    simp [Lit.sameKey]
   have e2:¬(⟨l.toArray⟩:ByteArray)=p:=λh=>e (by rw [←h])
   simp [Lit.sameKey,e,e2]
 |_=>rfl
theorem BK:mS (λ_=>none)=λ_=>none:=by
 funext x
 unfold mS
 split<;>rfl
def cX (ls:List aR) (ids:List Nat) (i:Nat) (p:ByteArray):Option Value:=if bS ls ids p i=0 then none else some (.int .i64 ((bS ls ids p i:Nat):Int))
theorem z7 (ls:List aR) (ids:List Nat):mS (cX ls ids 0)=λ_=>none:=by
 rw [←BK];rfl
theorem z8 {ls:List aR} {ids:List Nat} {i:Nat} {p:ByteArray} (h:¬bS ls ids p i=0):mS (cX ls ids i) (.string p.data.toList)=some (.int .i64 ((bS ls ids p i:Nat):Int)):=by
 rw [tS];exact if_neg h
theorem u6 {ls:List aR} {ids:List Nat} {i:Nat} {p:ByteArray} (h:bS ls ids p i=0):mS (cX ls ids i) (.string p.data.toList)=none:=by
 rw [tS];exact if_pos h
theorem wK {ls:List aR} {ids:List Nat} {i x:Nat} (hl:ids.length=i) (hx:¬x=0) (h:bS ls ids (ln ls i).path i=0) :
 mI (mS (cX ls ids i)) (.string (ln ls i).path.data.toList) (some (.int .i64 ((x:Nat):Int)))=mS (cX ls (ids++[x]) (i+1)):=by
 rw [CP]
 congr 1
 funext q
 unfold cX
 have e:(ids++[x]).getD i 0=x:=by rw [←hl];exact lU
 have e3:bS ls (ids++[x]) q (i+1)=if bS ls ids q i=0/\(ln ls i).path=q then x else bS ls ids q i:=by
  rw [bS,tg (by omega),e]
 by_cases hq:q=(ln ls i).path
 ·rw [if_pos hq,e3.trans (if_pos ⟨hq ▸ h,hq.symm⟩),if_neg hx]
 rw [if_neg hq,e3.trans (if_neg (λe=>hq e.2.symm))]
theorem wL {ls:List aR} {ids:List Nat} {i:Nat} (h:bS ls ids (ln ls i).path i=0):(if (mS (cX ls ids i) (.string (ln ls i).path.data.toList)).isSome then i else i+1)=i+1:=by
 rw [u6 h];rfl
def aQ (ns:List aD) (L:Lay) (k:Nat):dh:=av 72 2 (L.eA k) (nd ns k).aj.length (L.eC k) (gA (nd ns k).aj)
def Lay.ent (L:Lay) (k:Nat) (B:Option Addr) (c:Nat):Lay:=⟨L.dA,λi=>if i=k then B else L.eA i,L.dC,λi=>if i=k then c else L.eC i⟩
theorem tu {α:Type} {f g:Nat->α->List Value} {s:Nat} (hf:∀i a,(f i a).length=s) (hg:∀i a,(g i a).length=s):∀(xs:List α) (b k j:Nat) (a:α) (u:Value),k<xs.length->j<s →
 (∀i,i≠k->∀x,xs[i]?=some x->g (b+i) x=f (b+i) x)->(∀x,xs[k]?=some x->g (b+k) a=(f (b+k) x).set j u)->(cP f b xs).set (k*s+j) u=cP g b (xs.set k a)
 |[],_,k,_,_,_,h,_,_,_=>absurd h (Nat.not_lt_zero k)
 |x::r,b,0,j,a,u,_,hj,h1,h2=>by
   rw [cP,List.set_cons_zero,cP,Nat.zero_mul,Nat.zero_add,List.set_append_left _ _ (by rw [hf];exact hj)]
   have e:=h2 x rfl
   rw [Nat.add_zero] at e
   rw [e]
   congr 1
   exact jV _ _ (λi a hi=>by
    have:=h1 (i+1) (by omega) a (by simpa using hi)
    rw [show b+1+i=b+(i+1) by omega]
    exact this.symm)
 |x::r,b,k+1,j,a,u,h,hj,h1,h2=>by
   rw [cP,List.set_cons_succ,cP,List.set_append_right _ _ (by rw [hf,Nat.add_mul];omega),hf]
   have e0:=h1 0 (by omega) x rfl
   rw [Nat.add_zero] at e0
   rw [e0,show (k+1)*s+j-s=k*s+j by rw [Nat.add_mul];omega]
   congr 1
   refine tu hf hg r (b+1) k j a u (by simpa using h) hj (λi hi y hy=>?_) (λy hy=>?_)
   ·rw [show b+1+i=b+(i+1) by omega];exact h1 (i+1) (by omega) y (by simpa using hy)
   rw [show b+1+k=b+(k+1) by omega];exact h2 y (by simpa using hy)
theorem rf {L:Lay} {ns:List aD} {k:Nat} {e:bV} {B:Option Addr} {c:Nat} (hk:k<ns.length):(aK L ns).set (k*10+9) (.slice B ((nd ns k).aj.length+1) c)=aK (L.ent k B c) (cA ns k e):=by
 refine tu (s:=10) (λ_ _=>rfl) (λ_ _=>rfl) ns 0 k 9 _ _ hk (by decide) (λi hi x _=>?_) (λx hx=>?_)
 ·rw [Nat.zero_add]
  unfold bG Lay.ent
  simp [hi]
 rw [Nat.zero_add]
 have:x=nd ns k:=by
  unfold nd;rw [List.getD_eq_getElem?_getD,hx];rfl
 subst this
 unfold bG Lay.ent
 simp
theorem pN {L:Lay} {ns:List aD} {n:aD} {dA eA:Option Addr} {dC eC:Nat}:aK L ns++[.int .i64 n.id,.int .i64 n.kind,.int .i64 n.mode,.int .i64 n.uid,.int .i64 n.gid,.int .i64 n.sec,.int .i64 n.nano,.slice dA n.data.length dC,.string n.target,.slice eA n.aj.length eC]=aK (L.put ns.length dA dC eA eC) (ns++[n]):=by
 have h:=qJ (ns:=ns++[n]) (L:=L) (k:=ns.length) (by simp) dA dC eA eC
 rw [kL,List.take_left,List.take_of_length_le (by simp)] at h
 exact h
theorem nR {ns:List aD} {L:Lay} {k:Nat} {e:bV} {B:Option Addr} {c:Nat} (hk:k<ns.length):(∀x,x<ns.length->x≠k->aQ (cA ns k e) (L.ent k B c) x=fL (aQ ns L) k dh.none x)/\aQ (cA ns k e) (L.ent k B c) k=av 72 2 B ((nd ns k).aj.length+1) c (gA (nd ns k).aj++[.string e.name,.int .i64 e.id]):=by
 refine⟨λx _ hx=>?_,?_⟩
 ·unfold fL aQ Lay.ent
  rw [if_neg hx,iz hk,if_neg hx]
  simp [hx]
 unfold aQ Lay.ent
 rw [iz hk,if_pos rfl]
 simp only [if_true,List.length_append,List.length_singleton]
 congr 1
 exact jy e _ 0
theorem lV {ns:List aD} {L:Lay} {n:aD} {dA:Option Addr} {dC:Nat} (hn:n.aj=[]):(∀x,x<ns.length->aQ (ns++[n]) (L.put ns.length dA dC none 0) x=aQ ns L x)/\aQ (ns++[n]) (L.put ns.length dA dC none 0) ns.length=av 72 2 none 0 0 []:=by
 refine⟨λx hx=>?_,?_⟩
 ·unfold aQ Lay.put
  rw [mU hx]
  have:¬x=ns.length:=by omega
  simp [this]
 unfold aQ Lay.put
 rw [kL,hn]
 simp [gA,cP]
end
section
open Go.RowKit Go.Maps
structure EO (β:Bs) (ns:List aD) (L:Lay):Prop where
 at_:∀k,k<ns.length->bp β (L.dA k) (nd ns k).data
section
variable {β β':Bs} {ns:List aD} {L:Lay}
end
def dY (ns:List aD) (b:Nat):Prop:=∀k,k<ns.length->(nd ns k).aj.length<=b
theorem dY.more {ns:List aD} {b:Nat} (h:dY ns b) {n:aD} (hn:n.aj=[]):dY (ns++[n]) b:=λk hk=>by
 by_cases e:k=ns.length
 ·subst e;rw [kL,hn];exact Nat.zero_le _
 have:k<ns.length:=by simp at hk;omega
 rw [mU this];exact h k this
theorem dY.ent {ns:List aD} {b k:Nat} (h:dY ns b) {e:bV} (hk:k<ns.length):dY (cA ns k e) (b+1):=λj hj=>by
 rw [eu] at hj
 rw [iz hk]
 split
 ·simp only [List.length_append,List.length_singleton];have:=h k hk;omega
 have:=h j hj;omega
theorem dY.up {ns:List aD} {b:Nat} (h:dY ns b):dY ns (b+1):=λk hk=>Nat.le_succ_of_le (h k hk)
theorem dY.nil {b:Nat}:dY [] b:=λ_ h=>absurd h (Nat.not_lt_zero _)
structure iU (ls:List aR) (s:PS) (i:Nat):Prop where
 inv:gI ls s i
 fold:dg dW ls i=some s
 aj:dY s.ns i
theorem iU.zero (ls:List aR):iU ls kA 0:=⟨gI.zero ls,rfl,dY.nil⟩
theorem iU.stop {ls:List aR} {s:PS} {i:Nat} (h:iU ls s i) (hi:i<ls.length) (hs:dW ls s i=none):dg dW ls ls.length=none:=by
 have h1:dg dW ls (i+1)=none:=by rw [dg,h.fold];exact hs
 have h2:∀t,dg dW ls (i+1+t)=none:=by
  intro t
  induction t with
  |zero=>exact h1
  |succ t ih=>rw [←Nat.add_assoc,dg,ih];rfl
 have:=h2 (ls.length-(i+1))
 rw [show i+1+(ls.length-(i+1))=ls.length by omega] at this
 exact this
theorem iU.next {ls:List aR} {s s':PS} {i:Nat} (h:iU ls s i) (hs:dW ls s i=some s') (he:dY s'.ns (i+1)):iU ls s' (i+1):=⟨tj h.inv hs,by rw [dg,h.fold];exact hs,he⟩
structure oK (ls:List aR):Prop where
 len:ls.length<=8388608
 path:∀i,i<ls.length->(ln ls i).path.size<=8388608
 peer:∀i,i<ls.length->(ln ls i).peer.size<=8388608
 data:∀i,i<ls.length->(ln ls i).data.length<=1048576
def ru (ls:List aR):Prop:=∀s,dg dW ls ls.length=some s->dM s.ns 1048576
theorem gJ {ls:List aR} (h:dg dW ls ls.length=none):aO ls=([],151):=by unfold aO;rw [h]
theorem jF {ls:List aR} {s:PS} (h:dg dW ls ls.length=some s) (ht:¬aB s.ns 1=(ls,0)):aO ls=([],151):=by unfold aO;rw [h];exact if_neg ht
theorem mG {ls:List aR} {s:PS} (h:dg dW ls ls.length=some s) (ht:aB s.ns 1=(ls,0)):aO ls=(s.ns,0):=by unfold aO;rw [h];exact if_pos ht
theorem wM (ls:List aR) (ids:List Nat) (i:Nat) (p:ByteArray):(cX ls ids i p).getD (.int .i64 0)=.int .i64 ((bS ls ids p i:Nat):Int):=by
 unfold cX
 split
 ·rename_i h;rw [h];rfl
 rfl
end
section
open Go.RowKit Go.Maps
def bU:Lay:=⟨λ_=>none,λ_=>none,λ_=>0,λ_=>0⟩
def aT (ns:List aD) (L:Lay) (k:Nat):dh:=av 5 1 (L.dA k) (nd ns k).data.length (L.dC k) (bX (nd ns k).data)
theorem lW {ns:List aD} {L:Lay} {n:aD} {dA eA:Option Addr} {dC eC:Nat}:(∀x,x<ns.length->aT (ns++[n]) (L.put ns.length dA dC eA eC) x=aT ns L x)/\aT (ns++[n]) (L.put ns.length dA dC eA eC) ns.length=av 5 1 dA n.data.length dC (bX n.data):=by
 refine⟨λx hx=>?_,?_⟩
 ·unfold aT Lay.put
  rw [mU hx]
  have:¬x=ns.length:=by omega
  simp [this]
 unfold aT Lay.put
 rw [kL]
 simp
theorem u7 {ns:List aD} {L:Lay} {k:Nat} {e:bV} {B:Option Addr} {c:Nat} (hk:k<ns.length):aT (cA ns k e) (L.ent k B c)=aT ns L:=by
 funext x
 unfold aT Lay.ent
 rw [iz hk]
 split
 ·rename_i e;subst e;rfl
 rfl
def DR (A:Option Addr) (c:Nat) (ns:List aD) (L:Lay):HP:=.abs (av 32 10 A ns.length c (aK L ns))
def xE (A:Option Addr) (c:Nat) (ns:List aD) (L:Lay):List HP:=[DR A c ns L,.abs (aC (aQ ns L) ns.length),.abs (aC (aT ns L) ns.length)]
theorem iW.graph {β β':Bs} {A:Option Addr} {c:Nat} {ns:List aD} {L:Lay} (h:iW β (xE A c ns L) β'):aA β' A ns L:=by
 obtain⟨F,h1,h2⟩:=h.get 0 rfl
 obtain⟨G,g1,g2⟩:=h.get 1 rfl
 obtain⟨K,k1,k2⟩:=h.get 2 rfl
 exact⟨cK.gh h1 h2 rfl,
  aC.base k1 k2 rfl (Φ:=λi b=>bp b (L.dA i) (nd ns i).data) (λi _ F hF hO=>cK.gh (show (HP.abs (av 5 1 (L.dA i) (nd ns i).data.length (L.dC i) (bX (nd ns i).data))).h F _ from hF) hO rfl),
  aC.base g1 g2 rfl (Φ:=λi b=>bh b (L.eA i) (nd ns i).aj) (λi _ F hF hO=>cK.gh (show (HP.abs (av 72 2 (L.eA i) (nd ns i).aj.length (L.eC i) (gA (nd ns i).aj))).h F _ from hF) hO rfl)⟩
theorem rz {L:Lay} {ns:List aD} {k j:Nat} (hk:k<ns.length) {v:Value} (hv:(bG L k (nd ns k))[j]?=some v):(aK L ns)[k*10+j]?=some v:=by
 have hj:j<10:=bZ hv
 have h1:=jf (f:=bG L) (s:=10) (λ_ _=>rfl) ns 0 k j _ (getD_some (x:=default) hk) hj
 rw [Nat.zero_add] at h1
 exact h1.trans hv
theorem iZ (p:ByteArray):(cutAt p<0\/(cutAt p).toNat<p.size)/\-1<=cutAt p:=by
 rcases iG p with ⟨h,_⟩|⟨i,h1,h2,_⟩
 ·omega
 omega
section steps
variable {ls:List aR} {s:PS} {i:Nat}
theorem tv (h:¬bS ls s.ids (ln ls i).path i=0):dW ls s i=none:=if_pos (.inl h)
theorem rA (h:newId ls s i=0):dW ls s i=none:=if_pos (.inr h)
theorem pO (h1:bS ls s.ids (ln ls i).path i=0) (h2:¬newId ls s i=0) (h0:i=0):dW ls s i=some ⟨ax ls s i,s.ids++[newId ls s i]⟩:=by
 unfold dW;rw [if_neg (λe=>e.elim (λe=>e h1) h2),if_pos h0]
theorem mV (h1:bS ls s.ids (ln ls i).path i=0) (h2:¬newId ls s i=0) (h0:¬i=0) (h3:bH ls s i=0):dW ls s i=none:=by
 unfold dW;rw [if_neg (λe=>e.elim (λe=>e h1) h2),if_neg h0,if_pos h3]
theorem rB (h1:bS ls s.ids (ln ls i).path i=0) (h2:¬newId ls s i=0) (h0:¬i=0) (h3:¬bH ls s i=0) :
 dW ls s i=some ⟨cA (ax ls s i) (bH ls s i-1) ⟨nameOf (ln ls i).path,((newId ls s i:Nat):Int)⟩,s.ids++[newId ls s i]⟩:=by
 unfold dW;rw [if_neg (λe=>e.elim (λe=>e h1) h2),if_neg h0,if_neg h3]
theorem dY.new (h:dY s.ns i):dY (ax ls s i) i:=by
 unfold ax
 split
 ·exact h.more rfl
 exact h
end steps
theorem jP {ls:List aR} {s:PS} {i:Nat} (h:(ln ls i).peer=⟨#[]⟩):ax ls s i=s.ns++[aS (ln ls i) s.ns.length]/\newId ls s i=s.ns.length+1:=⟨if_pos h,if_pos h⟩
theorem iA {ls:List aR} {s:PS} {i:Nat} (h:¬(ln ls i).peer=⟨#[]⟩):ax ls s i=s.ns/\newId ls s i=bS ls s.ids (ln ls i).peer i:=⟨if_neg h,if_neg h⟩
theorem Ac {p:ByteArray}:(cC p).size<=p.size:=by
 unfold cC
 rw [ByteArray.size_extract]
 omega
end
end Go.Proofs.Ytjpdcppdoonmdaa
