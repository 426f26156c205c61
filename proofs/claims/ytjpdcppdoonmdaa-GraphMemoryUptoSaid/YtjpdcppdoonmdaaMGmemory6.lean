/-
  PROVED HERE: lemmas and contracts of functions (texts of this repo, joined; what the claim does not use is left out): MgB, MgC, MgD.
  CONDITIONS: as the theorems say.
-/
import Derived.Test.YtjpdcppdoonmdaaMGmemory5
set_option maxRecDepth 100000
set_option maxHeartbeats 4000000
namespace Go.Proofs.Ytjpdcppdoonmdaa
section
open Go.RowKit
attribute [local irreducible] af aN ai ah
def Az (f:Nat):Prop:=∀(dN β:Bs) (A:Option Addr) (ns:List aD) (L:Lay) (M:cQ) (s:TS) (k:Nat) (p:ByteArray) (aF mb mp:Nat) (Ao:Option Addr) (co:Nat),dN.le β->eF dN β s.out M->aA β A ns L->dM ns 1048576->bw ns->bJ β s.out M->k<ns.length->1<=p.size->p.size<=8388608->og s->4194304-s.sum<f →
 cO Try.prog β 47 #[.pointer (some ⟨aF,0,none⟩),.pointer (some ⟨(au A),ar A+k*10,none⟩),.string p] [.blk aF [.map (some mb),.slice Ao (s.out.length) (co),.map (some mp),.int .i64 (((s.sum:Nat):Int))] 84,.abs (aE Try.prog 3 mb (mf (bf A ns ns.length)) ns.length),.abs (aE Try.prog 3 mp (mf (aY ns s.fst)) s.cnt),.abs (av 51 10 Ao s.out.length co (aI M s.out))] (λβ' v l=>(∃s' yN yO M',bP ns f k p s=some s'/\v=.bool true/\bJ β' s'.out M'/\l=[.blk aF [.map (some mb),.slice yN (s'.out.length) (yO),.map (some mp),.int .i64 (((s'.sum:Nat):Int))] 84,.abs (aE Try.prog 3 mb (mf (bf A ns ns.length)) ns.length),.abs (aE Try.prog 3 mp (mf (aY ns s'.fst)) s'.cnt),.abs (av 51 10 yN s'.out.length yO (aI M' s'.out))]/\eF dN β' s'.out M')\/(bP ns f k p s=none/\v=.bool false/\l=[]))
theorem v7 (f:Nat) (IH:Az f):Az (f+1):=by
 intro dN β A ns L M s k p aF mb mp Ao co hl0 hJ hG hB hok di hk hp hpl hs hf
 have DB:=hs.out
 have hsc:=hs.cnt
 have hss:=hs.sum
 refine cO.enter Try.func47 rfl Try.ntmps47 (Nat.le_of_ble_eq_true rfl) (λhle0 R=>?_)
 refine ai.seq (ai.region (af.aq (k':=1) (fr':=[(0,.pointer (some ⟨aF,0,none⟩)),(1,.pointer (some ⟨(au A),ar A+k*10,none⟩)),(2,.string p)]) (ak:=[]) [o_] [0,1,2] (λ_ _=>by kernel_rfl) trivial ?_))
 refine af.nil (by kernel_rfl) (ah.next (ai.seq (ai.region ?_)))
 refine af.seg (k':=10) (fr':=[(0,.pointer (some ⟨aF,0,none⟩)),(1,.pointer (some ⟨(au A),ar A+k*10,none⟩)),(2,.string p)]) (aL:=[.blk aF [.map (some mb),.slice Ao (s.out.length) (co),.map (some mp),.int .i64 ↑(s.sum+((p:ByteArray).size))] 84,.abs (aE Try.prog 3 mb (mf (bf A ns ns.length)) ns.length),.abs (aE Try.prog 3 mp (mf (aY ns s.fst)) s.cnt),.abs (av 51 10 Ao s.out.length co (aI M s.out)),.abs R]) (ak:=[aF=aF,(Value.int .i64 (IntKind.wrap .i64 (((s.sum:Nat):Int)+(((p:ByteArray).size:Nat):Int))))=(.int .i64 ↑(s.sum+((p:ByteArray).size))),aF=aF]) [o_,o_,o_,⟨[.at 0],none,none,none,none⟩,o_,o_,⟨[],none,none,none,some (.int .i64 ↑(s.sum+((p:ByteArray).size)))⟩,o_,o_,⟨[.at 0],none,none,none,none⟩] [0,1,2] [0,1,2,3,4] (λ_ _=>by kernel_rfl) ⟨rfl,aP (by omega) (by omega) (by omega),rfl,trivial⟩ ?_
 refine af.nil (by kernel_rfl) (ah.next (ai.seq (ai.seq (ai.region ?_))))
 refine af.aq (k':=5) (fr':=[(0,.pointer (some ⟨aF,0,none⟩)),(1,.pointer (some ⟨(au A),ar A+k*10,none⟩)),(2,.string p),(25,.bool (decide ((((s.sum+((p:ByteArray).size):Nat):Int):Int)>(4194304:Int))))]) (ak:=[aF=aF]) [o_,o_,o_,⟨[.at 0],none,none,none,none⟩,o_] [0,1,2,25] (λ_ _=>by kernel_rfl) ⟨rfl,trivial⟩ ?_
 refine af.nil (by kernel_rfl) (ah.next ?_)
 refine ai.aV (p:=(((s.sum+((p:ByteArray).size):Nat):Int):Int)>(4194304:Int)) (λ_=>by kernel_rfl) (λoe=>?_) (λoe=>?_)
 ·refine ai.seq (ai.region (af.aq (k':=1) (fr':=[(6,.bool false)]) (ak:=[]) [o_] [6] (λ_ _=>by kernel_rfl) trivial ?_))
  refine af.nil (by kernel_rfl) (ah.next (ai.ret (ah.ay ?_)))
  exact ah.eW (v:=.bool false) (l:=[]) (ak:=[]) [] [4] hle0 (λ_=>by kernel_rfl) trivial rfl (by kernel_rfl) (.inr ⟨by rw [bP,if_pos (by omega)],rfl,rfl⟩)
 have hst:bP ns (f+1) k p s=bR (λe s'=>bP ns f (tgt ns e.id) (below s.out.length p e.name) s') (nd ns k).aj (push ns k p s):=by rw [bP,if_neg (by omega)]
 refine ai.skip (ah.next (ai.seq ?_))
 by_cases fK:s.fst k=⟨#[]⟩
 ·refine ai.dL (S:=[.blk aF [.map (some mb),.slice Ao (s.out.length) (co),.map (some mp),.int .i64 ↑(s.sum+((p:ByteArray).size))] 84,.abs (aE Try.prog 3 mb (mf (bf A ns ns.length)) ns.length),.abs (aE Try.prog 3 mp (mf (aY ns s.fst)) s.cnt)]) [0,1,2,3,4,5,6,7,8,9,10,11,12,13,14,15,16,17,18,19,20,21,22,23,24,25,26,27,28,29,30,31,32,33] 32 [0,1,2] (by kernel_rfl) (by kernel_rfl) rfl (by kernel_rfl) ?_
  refine aX.reads (r:=3) (l:=[29,30,31,32,33]) (fr':=[(0,.pointer (some ⟨aF,0,none⟩)),(1,.pointer (some ⟨(au A),ar A+k*10,none⟩)),(2,.string p),(26,.string p),(30,.int .i64 ((nd ns k).kind)),(34,.int .i64 ((nd ns k).mode)),(38,.int .i64 ((nd ns k).uid)),(42,.int .i64 ((nd ns k).gid)),(46,.agg #[.int .i64 ((nd ns k).sec),.int .i64 ((nd ns k).nano)]),(50,.map (some mp)),(54,.int .i64 ((nd ns k).id))]) (ak:=[(Rd β ⟨(au A),ar A+k*10,none⟩ (.int .i64 ((nd ns k).id))),aF=aF,(Rd β ⟨(au A),ar A+k*10+5+1,none⟩ (.int .i64 ((nd ns k).nano))),(Rd β ⟨(au A),ar A+k*10+5,none⟩ (.int .i64 ((nd ns k).sec))),(Rd β ⟨(au A),ar A+k*10+4,none⟩ (.int .i64 ((nd ns k).gid))),(Rd β ⟨(au A),ar A+k*10+3,none⟩ (.int .i64 ((nd ns k).uid))),(Rd β ⟨(au A),ar A+k*10+2,none⟩ (.int .i64 ((nd ns k).mode))),(Rd β ⟨(au A),ar A+k*10+1,none⟩ (.int .i64 ((nd ns k).kind)))]) [0,1,2,3,4,5,6,7,8,9,10,11,12,13,14,15,16,17,18,19,20,21,22,23,24,25,26,27,28] [o_,o_,o_,o_,⟨[.old (.int .i64 ((nd ns k).kind))],none,none,none,none⟩,o_,o_,o_,⟨[.old (.int .i64 ((nd ns k).mode))],none,none,none,none⟩,o_,o_,o_,⟨[.old (.int .i64 ((nd ns k).uid))],none,none,none,none⟩,o_,o_,o_,⟨[.old (.int .i64 ((nd ns k).gid))],none,none,none,none⟩,o_,o_,o_,⟨[.old (.int .i64 ((nd ns k).sec)),.old (.int .i64 ((nd ns k).nano))],none,none,none,none⟩,o_,o_,o_,⟨[.at 0],none,none,none,none⟩,o_,o_,o_,⟨[.old (.int .i64 ((nd ns k).id))],none,none,none,none⟩] [0,1,2,26,30,34,38,42,46,50,54] (λ_=>by kernel_rfl) ⟨aA.rd hG (i:=k) (by omega) (j:=0) rfl,rfl,aA.rd hG (i:=k) (by omega) (j:=6) rfl,aA.rd hG (i:=k) (by omega) (j:=5) rfl,aA.rd hG (i:=k) (by omega) (j:=4) rfl,aA.rd hG (i:=k) (by omega) (j:=3) rfl,aA.rd hG (i:=k) (by omega) (j:=2) rfl,aA.rd hG (i:=k) (by omega) (j:=1) rfl,trivial⟩ rfl rfl ?_
  refine aX.dO 2 (d:=(some 55)) (t:=82) (K:=3) (E:=115) (b:=mp) (cnt:=s.cnt) (f:=(mf (aY ns s.fst))) (x:=(.tmp 50)) (ix:=(.tmp 54)) (key:=.int .i64 ((nd ns k).id)) (z:=.agg #[.string ⟨#[]⟩]) (kl:=(.int .i64 (nd ns k).id)) (q:=none) (by kernel_rfl) (by kernel_rfl) (λ_=>by kernel_rfl) (λ_=>by kernel_rfl) fC Try.underlying82 (λ_=>by kernel_rfl) (fI (hB.node k hk).ids.1.1 (hB.node k hk).ids.1.2) (nP hok.rise hk fK) (by kernel_rfl) ?_
  refine aX.reads (r:=0) (l:=[32,33]) (fr':=[(0,.pointer (some ⟨aF,0,none⟩)),(1,.pointer (some ⟨(au A),ar A+k*10,none⟩)),(2,.string p),(57,.agg #[.string p,.int .i64 ((nd ns k).kind),.int .i64 ((nd ns k).mode),.int .i64 ((nd ns k).uid),.int .i64 ((nd ns k).gid),.int .i64 ((nd ns k).sec),.int .i64 ((nd ns k).nano),.slice none (0) (0),.string ⟨#[]⟩,.string ⟨#[]⟩])]) (ak:=[]) [30,31] [o_,o_] [0,1,2,57] (λ_=>by kernel_rfl) trivial rfl rfl ?_
  refine aX.cut (ι:=Nat) (fr':=λ(b1:Nat)=>[(0,.pointer (some ⟨aF,0,none⟩)),(1,.pointer (some ⟨(au A),ar A+k*10,none⟩)),(2,.string p),(7,.pointer (some ⟨b1,0,none⟩)),(57,.agg #[.string p,.int .i64 ((nd ns k).kind),.int .i64 ((nd ns k).mode),.int .i64 ((nd ns k).uid),.int .i64 ((nd ns k).gid),.int .i64 ((nd ns k).sec),.int .i64 ((nd ns k).nano),.slice none (0) (0),.string ⟨#[]⟩,.string ⟨#[]⟩])]) (hp':=λ(b1:Nat)=>[.blk aF [.map (some mb),.slice Ao (s.out.length) (co),.map (some mp),.int .i64 ↑(s.sum+((p:ByteArray).size))] 84,.abs (aE Try.prog 3 mb (mf (bf A ns ns.length)) ns.length),.abs (aE Try.prog 3 mp (mf (aY ns s.fst)) s.cnt),.abs (av 51 10 Ao s.out.length co (aI M s.out)),.abs R,.blk b1 [.string ⟨#[]⟩,.int .i64 0,.int .i64 0,.int .i64 0,.int .i64 0,.int .i64 0,.int .i64 0,.slice none (0) (0),.string ⟨#[]⟩,.string ⟨#[]⟩] 51]) [0,1,2] rfl rfl ?_ rfl (λ_=>by kernel_rfl) ?_
  ·refine af.bD (k':=1) (fr':=λb1=>[(0,.pointer (some ⟨aF,0,none⟩)),(1,.pointer (some ⟨(au A),ar A+k*10,none⟩)),(2,.string p),(7,.pointer (some ⟨b1,0,none⟩)),(57,.agg #[.string p,.int .i64 ((nd ns k).kind),.int .i64 ((nd ns k).mode),.int .i64 ((nd ns k).uid),.int .i64 ((nd ns k).gid),.int .i64 ((nd ns k).sec),.int .i64 ((nd ns k).nano),.slice none (0) (0),.string ⟨#[]⟩,.string ⟨#[]⟩])]) (aL:=λb1=>[.blk aF [.map (some mb),.slice Ao (s.out.length) (co),.map (some mp),.int .i64 ↑(s.sum+((p:ByteArray).size))] 84,.abs (aE Try.prog 3 mb (mf (bf A ns ns.length)) ns.length),.abs (aE Try.prog 3 mp (mf (aY ns s.fst)) s.cnt),.abs (av 51 10 Ao s.out.length co (aI M s.out)),.abs R,.blk b1 [.string ⟨#[]⟩,.int .i64 0,.int .i64 0,.int .i64 0,.int .i64 0,.int .i64 0,.int .i64 0,.slice none (0) (0),.string ⟨#[]⟩,.string ⟨#[]⟩] 51]) (ak:=λb1=>[]) [o_] [0,1,2,7,57] [0,1,2,3,4,5] (λ_ _=>by kernel_rfl) (λb1=>trivial) (λb1=>?_)
   refine af.nil (by kernel_rfl) ?_
   exact ah.mid b1 (idx:=[0,1,2,7,57]) (pk:=[0,1,2,3,4,5]) (λ_=>by kernel_rfl) rfl (by kernel_rfl)
  rintro b1
  refine aX.last rfl rfl ?_
  refine af.seg (k':=1) (fr':=[(0,.pointer (some ⟨aF,0,none⟩)),(1,.pointer (some ⟨(au A),ar A+k*10,none⟩)),(2,.string p),(7,.pointer (some ⟨b1,0,none⟩))]) (aL:=[.blk aF [.map (some mb),.slice Ao (s.out.length) (co),.map (some mp),.int .i64 ↑(s.sum+((p:ByteArray).size))] 84,.abs (aE Try.prog 3 mb (mf (bf A ns ns.length)) ns.length),.abs (aE Try.prog 3 mp (mf (aY ns s.fst)) s.cnt),.abs (av 51 10 Ao s.out.length co (aI M s.out)),.abs R,.blk b1 (cg (nd ns k) p none (0) 0 (⟨#[]⟩) ⟨#[]⟩) 51]) (ak:=[b1=b1,b1=b1,b1=b1,b1=b1,b1=b1,b1=b1,b1=b1,b1=b1,b1=b1,b1=b1]) [⟨[.at 5,.at 5,.at 5,.at 5,.at 5,.at 5,.at 5,.at 5,.at 5,.at 5],none,none,none,none⟩] [0,1,2,7] [0,1,2,3,4,5] (λ_ _=>by kernel_rfl) ⟨rfl,rfl,rfl,rfl,rfl,rfl,rfl,rfl,rfl,rfl,trivial⟩ ?_
  refine af.nil (by kernel_rfl) (ah.np (ah.next (ai.seq (ai.seq (ai.region ?_)))))
  refine af.aq (k':=3) (fr':=[(0,.pointer (some ⟨aF,0,none⟩)),(1,.pointer (some ⟨(au A),ar A+k*10,none⟩)),(2,.string p),(7,.pointer (some ⟨b1,0,none⟩)),(60,.bool true)]) (ak:=[(Value.bool ((⟨#[]⟩:ByteArray).toList == (⟨#[]⟩:ByteArray).toList))=(.bool true),b1=b1]) [o_,⟨[.at 5],none,none,none,none⟩,⟨[],none,none,none,some (.bool true)⟩] [0,1,2,7,60] (λ_ _=>by kernel_rfl) ⟨by simp,rfl,trivial⟩ ?_
  refine af.nil (by kernel_rfl) (ah.next ?_)
  refine ai.bL (λ_=>by kernel_rfl) ?_
  refine ai.seq (ai.eY 10 (by kernel_rfl) (by kernel_rfl) ?_)
  refine cu.seg (k':=10) (fr':=[(0,.pointer (some ⟨aF,0,none⟩)),(1,.pointer (some ⟨(au A),ar A+k*10,none⟩)),(2,.string p),(7,.pointer (some ⟨b1,0,none⟩)),(64,.map (some mp)),(68,.int .i64 ((nd ns k).id)),(70,.agg #[.string p])]) (ak:=[(Rd β ⟨(au A),ar A+k*10,none⟩ (.int .i64 ((nd ns k).id))),aF=aF]) [o_,o_,o_,⟨[.at 0],none,none,none,none⟩,o_,o_,o_,⟨[.old (.int .i64 ((nd ns k).id))],none,none,none,none⟩,o_,o_] [0,1,2,7,64,68,70] (λ_ _=>by kernel_rfl) ⟨aA.rd hG (i:=k) (by omega) (j:=0) rfl,rfl,trivial⟩ (by decide) ?_
  refine cu.done rfl ?_
  refine af.kQ 2 (d:=none) (t:=82) (K:=3) (E:=115) (b:=mp) (n:=s.cnt) (f:=(mf (aY ns s.fst))) (x:=(.tmp 64)) (ix:=(.tmp 68)) (y:=(.tmp 70)) (key:=.int .i64 ((nd ns k).id)) (u:=.agg #[.string p]) (kl:=(.int .i64 (nd ns k).id)) (n':=(push ns k p s).cnt) (f':=(mf (aY ns (push ns k p s).fst))) (λ_=>by kernel_rfl) (by kernel_rfl) (λ_=>by kernel_rfl) (λ_=>by kernel_rfl) (λ_=>by kernel_rfl) fC Try.underlying82 (by unfold maxLen;omega) (fI (hB.node k hk).ids.1.1 (hB.node k hk).ids.1.2) (oI hok.rise hk fK) (sX hok.rise hk fK hp) ?_
  refine af.nil (by kernel_rfl) (ah.next (ai.seq (ai.region ?_)))
  refine af.aq (k':=4) (fr':=[(0,.pointer (some ⟨aF,0,none⟩)),(1,.pointer (some ⟨(au A),ar A+k*10,none⟩)),(2,.string p),(7,.pointer (some ⟨b1,0,none⟩)),(74,.slice (L.dA k) ((nd ns k).data.length) ((L.dC k)))]) (ak:=[(Rd β ⟨(au A),ar A+k*10+7,none⟩ (.slice (L.dA k) ((nd ns k).data.length) ((L.dC k))))]) [o_,o_,o_,⟨[.old (.slice (L.dA k) ((nd ns k).data.length) ((L.dC k)))],none,none,none,none⟩] [0,1,2,7,74] (λ_ _=>by kernel_rfl) ⟨aA.rd hG (i:=k) (by omega) (j:=7) rfl,trivial⟩ ?_
  have hlb:=hle0
  refine af.fo (f:=50) (args:=#[.slice (L.dA k) ((nd ns k).data.length) ((L.dC k))]) (d:=(some 75)) (pre:=[]) (R:=[.blk aF [.map (some mb),.slice Ao (s.out.length) (co),.map (some mp),.int .i64 ↑(s.sum+((p:ByteArray).size))] 84,.abs (aE Try.prog 3 mb (mf (bf A ns ns.length)) ns.length),.abs (aE Try.prog 3 mp (mf (aY ns (push ns k p s).fst)) ((push ns k p s).cnt)),.abs (av 51 10 Ao s.out.length co (aI M s.out)),.abs R,.blk b1 (cg (nd ns k) p none (0) 0 (⟨#[]⟩) ⟨#[]⟩) 51]) (pk:=[0,1,2,3,4,5]) (λ_=>by kernel_rfl) (zq (L.dA k) (L.dC k) (nd ns k).data (hG.data k hk) (hB.hd k hk).1) rfl (by kernel_rfl) ?_
  rintro lQ _ _ jh ⟨dB,cD,rfl,rfl,uV,C6⟩
  replace hG:=hG.le jh
  replace di:=di.le jh
  replace hle0:=hle0.trans jh
  refine af.seg (k':=7) (fr':=[(0,.pointer (some ⟨aF,0,none⟩)),(1,.pointer (some ⟨(au A),ar A+k*10,none⟩)),(2,.string p),(7,.pointer (some ⟨b1,0,none⟩))]) (aL:=[.blk aF [.map (some mb),.slice Ao (s.out.length) (co),.map (some mp),.int .i64 ↑(s.sum+((p:ByteArray).size))] 84,.abs (aE Try.prog 3 mb (mf (bf A ns ns.length)) ns.length),.abs (aE Try.prog 3 mp (mf (aY ns (push ns k p s).fst)) ((push ns k p s).cnt)),.abs (av 51 10 Ao s.out.length co (aI M s.out)),.abs R,.blk b1 (cg (nd ns k) p dB ((nd ns k).data.length) cD (⟨#[]⟩) ⟨#[]⟩) 51]) (ak:=[b1=b1]) [o_,⟨[.at 5],none,none,none,none⟩] [0,1,2,7] [0,1,2,3,4,5] (λ_ _=>by kernel_rfl) ⟨rfl,trivial⟩ ?_
  refine af.nil (by kernel_rfl) (ah.next (ai.region ?_))
  refine af.seg (k':=6) (fr':=[(0,.pointer (some ⟨aF,0,none⟩)),(1,.pointer (some ⟨(au A),ar A+k*10,none⟩)),(2,.string p),(7,.pointer (some ⟨b1,0,none⟩))]) (aL:=[.blk aF [.map (some mb),.slice Ao (s.out.length) (co),.map (some mp),.int .i64 ↑(s.sum+((p:ByteArray).size))] 84,.abs (aE Try.prog 3 mb (mf (bf A ns ns.length)) ns.length),.abs (aE Try.prog 3 mp (mf (aY ns (push ns k p s).fst)) ((push ns k p s).cnt)),.abs (av 51 10 Ao s.out.length co (aI M s.out)),.abs R,.blk b1 (cg (nd ns k) p dB ((nd ns k).data.length) cD ((nd ns k).target) ⟨#[]⟩) 51]) (ak:=[b1=b1,(Rd lQ ⟨(au A),ar A+k*10+8,none⟩ (.string (nd ns k).target))]) [o_,o_,o_,⟨[.old (.string (nd ns k).target)],none,none,none,none⟩,o_,⟨[.at 5],none,none,none,none⟩] [0,1,2,7] [0,1,2,3,4,5] (λ_ _=>by kernel_rfl) ⟨rfl,aA.rd hG (i:=k) (by omega) (j:=8) rfl,trivial⟩ ?_
  refine af.nil (by kernel_rfl) (ah.next (ai.seq (ai.region ?_)))
  refine af.aq (k':=7) (fr':=[(0,.pointer (some ⟨aF,0,none⟩)),(1,.pointer (some ⟨(au A),ar A+k*10,none⟩)),(2,.string p),(7,.pointer (some ⟨b1,0,none⟩)),(8,.bool (decide ((((s.out.length:Nat):Int):Int)=(0:Int))))]) (ak:=[aF=aF]) [o_,o_,o_,⟨[.at 0],none,none,none,none⟩,o_,o_,o_] [0,1,2,7,8] (λ_ _=>by kernel_rfl) ⟨rfl,trivial⟩ ?_
  refine af.nil (by kernel_rfl) (ah.next (ai.seq ?_))
  refine ai.dL (S:=[.blk aF [.map (some mb),.slice Ao (s.out.length) (co),.map (some mp),.int .i64 ↑(s.sum+((p:ByteArray).size))] 84,.blk b1 (cg (nd ns k) p dB ((nd ns k).data.length) cD ((nd ns k).target) ⟨#[]⟩) 51]) [0,1,2,3,4,5,6,7,8,9,10] 6 [0,5] (by kernel_rfl) (by kernel_rfl) rfl (by kernel_rfl) ?_
  refine aX.reads (r:=0) (l:=[6,7,8,9,10]) (fr':=[(0,.pointer (some ⟨aF,0,none⟩)),(1,.pointer (some ⟨(au A),ar A+k*10,none⟩)),(2,.string p),(8,.bool (decide ((((s.out.length:Nat):Int):Int)=(0:Int)))),(88,.pointer (some ⟨aF,0,none⟩)),(92,.slice Ao (s.out.length) (co)),(93,.agg #[.string p,.int .i64 ((nd ns k).kind),.int .i64 ((nd ns k).mode),.int .i64 ((nd ns k).uid),.int .i64 ((nd ns k).gid),.int .i64 ((nd ns k).sec),.int .i64 ((nd ns k).nano),.slice dB ((nd ns k).data.length) (cD),.string (nd ns k).target,.string ⟨#[]⟩])]) (ak:=[b1=b1,b1=b1,b1=b1,b1=b1,b1=b1,b1=b1,b1=b1,b1=b1,b1=b1,b1=b1,aF=aF]) [0,1,2,3,4,5] [o_,o_,o_,o_,⟨[.at 0],none,none,none,none⟩,⟨[.at 1,.at 1,.at 1,.at 1,.at 1,.at 1,.at 1,.at 1,.at 1,.at 1],none,none,none,none⟩] [0,1,2,8,88,92,93] (λ_=>by kernel_rfl) ⟨rfl,rfl,rfl,rfl,rfl,rfl,rfl,rfl,rfl,rfl,rfl,trivial⟩ rfl rfl ?_
  refine aX.cut (ι:=Nat) (fr':=λ(b2:Nat)=>[(0,.pointer (some ⟨aF,0,none⟩)),(1,.pointer (some ⟨(au A),ar A+k*10,none⟩)),(2,.string p),(8,.bool (decide ((((s.out.length:Nat):Int):Int)=(0:Int)))),(88,.pointer (some ⟨aF,0,none⟩)),(92,.slice Ao (s.out.length) (co)),(94,.slice (some ⟨b2,0,none⟩) (1) (1))]) (hp':=λ(b2:Nat)=>[.blk aF [.map (some mb),.slice Ao (s.out.length) (co),.map (some mp),.int .i64 ↑(s.sum+((p:ByteArray).size))] 84,.abs (aE Try.prog 3 mb (mf (bf A ns ns.length)) ns.length),.abs (aE Try.prog 3 mp (mf (aY ns (push ns k p s).fst)) ((push ns k p s).cnt)),.abs (av 51 10 Ao s.out.length co (aI M s.out)),.abs R,.blk b1 (cg (nd ns k) p dB ((nd ns k).data.length) cD ((nd ns k).target) ⟨#[]⟩) 51,.blk b2 (cg (nd ns k) p dB ((nd ns k).data.length) cD ((nd ns k).target) ⟨#[]⟩) 51]) [0,5] rfl rfl ?_ rfl (λ_=>by kernel_rfl) ?_
  ·refine af.bD (k':=1) (fr':=λb2=>[(0,.pointer (some ⟨aF,0,none⟩)),(1,.pointer (some ⟨(au A),ar A+k*10,none⟩)),(2,.string p),(8,.bool (decide ((((s.out.length:Nat):Int):Int)=(0:Int)))),(88,.pointer (some ⟨aF,0,none⟩)),(92,.slice Ao (s.out.length) (co)),(94,.slice (some ⟨b2,0,none⟩) (1) (1))]) (aL:=λb2=>[.blk aF [.map (some mb),.slice Ao (s.out.length) (co),.map (some mp),.int .i64 ↑(s.sum+((p:ByteArray).size))] 84,.abs (aE Try.prog 3 mb (mf (bf A ns ns.length)) ns.length),.abs (aE Try.prog 3 mp (mf (aY ns (push ns k p s).fst)) ((push ns k p s).cnt)),.abs (av 51 10 Ao s.out.length co (aI M s.out)),.abs R,.blk b1 (cg (nd ns k) p dB ((nd ns k).data.length) cD ((nd ns k).target) ⟨#[]⟩) 51,.blk b2 (cg (nd ns k) p dB ((nd ns k).data.length) cD ((nd ns k).target) ⟨#[]⟩) 51]) (ak:=λb2=>[]) [o_] [0,1,2,8,88,92,94] [0,1,2,3,4,5,6] (λ_ _=>by kernel_rfl) (λb2=>trivial) (λb2=>?_)
   refine af.nil (by kernel_rfl) ?_
   exact ah.mid b2 (idx:=[0,1,2,8,88,92,94]) (pk:=[0,1,2,3,4,5,6]) (λ_=>by kernel_rfl) rfl (by kernel_rfl)
  rintro b2
  refine aX.cut (ι:=(Option Addr)×Nat) (fr':=λ((A3,c4):(Option Addr)×Nat)=>[(0,.pointer (some ⟨aF,0,none⟩)),(1,.pointer (some ⟨(au A),ar A+k*10,none⟩)),(2,.string p),(8,.bool (decide ((((s.out.length:Nat):Int):Int)=(0:Int)))),(88,.pointer (some ⟨aF,0,none⟩)),(95,.slice A3 ((push ns k p s).out.length) (c4))]) (hp':=λ((A3,c4):(Option Addr)×Nat)=>[.blk aF [.map (some mb),.slice Ao (s.out.length) (co),.map (some mp),.int .i64 ↑(s.sum+((p:ByteArray).size))] 84,.abs (aE Try.prog 3 mb (mf (bf A ns ns.length)) ns.length),.abs (aE Try.prog 3 mp (mf (aY ns (push ns k p s).fst)) ((push ns k p s).cnt)),.abs (av 51 10 A3 ((push ns k p s).out.length) c4 (aI (M.put s.out.length dB cD) (push ns k p s).out)),.abs R,.blk b1 (cg (nd ns k) p dB ((nd ns k).data.length) cD ((nd ns k).target) ⟨#[]⟩) 51,.blk b2 (cg (nd ns k) p dB ((nd ns k).data.length) cD ((nd ns k).target) ⟨#[]⟩) 51]) [0,5] rfl rfl ?_ rfl (λ_=>by kernel_rfl) ?_
  ·refine af.append 3 (d:=(some 95)) (t:=46) (e:=51) (z:=.agg #[.string ⟨#[]⟩,.int .i64 0,.int .i64 0,.int .i64 0,.int .i64 0,.int .i64 0,.int .i64 0,.slice none (0) (0),.string ⟨#[]⟩,.string ⟨#[]⟩]) (size:=10) (bytes:=120) (n:=s.out.length) (cap:=co) (A:=Ao) (xs:=(aI M s.out)) (s:=(.tmp 92)) (x:=(.tmp 94)) (ats:=#[46,46]) (A':=some ⟨b2,0,none⟩) (m:=1) (c':=1) (news:=(cg (nd ns k) p dB ((nd ns k).data.length) cD ((nd ns k).target) ⟨#[]⟩)) (λ_=>by kernel_rfl) rfl (by kernel_rfl) (λ_=>by kernel_rfl) (λ_=>by kernel_rfl) Try.underlying46 (by kernel_rfl) rfl (by decide) (rfl) (by simp [cg,Value.oneCell']) (dS (j:=6) rfl) (by unfold maxLen;omega) (by omega) (λA3 c4=>?_)
   refine af.aZ 3 (p:=.abs (av 51 10 A3 (s.out.length+1) c4 ((aI M s.out)++(cg (nd ns k) p dB ((nd ns k).data.length) cD ((nd ns k).target) ⟨#[]⟩)))) (p':=.abs (av 51 10 A3 ((push ns k p s).out.length) c4 (aI (M.put s.out.length dB cD) (push ns k p s).out))) (by kernel_rfl) (by rw [dr,dH,←ia,iy _ _ fK];rfl) ?_
   refine af.slot 95 (.slice A3 (s.out.length+1) (c4)) (.slice A3 ((push ns k p s).out.length) (c4)) (λ_=>by kernel_rfl) (by rw [dr]) ?_
   refine af.nil (by kernel_rfl) ?_
   exact ah.mid (A3,c4) (idx:=[0,1,2,8,88,95]) (pk:=[0,1,2,3,4,5,6]) (λ_=>by kernel_rfl) rfl (by kernel_rfl)
  rintro⟨A3,c4⟩
  refine aX.cut (ι:=Unit) (fr':=λ(_:Unit)=>[(0,.pointer (some ⟨aF,0,none⟩)),(1,.pointer (some ⟨(au A),ar A+k*10,none⟩)),(2,.string p),(8,.bool (decide ((((s.out.length:Nat):Int):Int)=(0:Int)))),(95,.slice A3 ((push ns k p s).out.length) (c4)),(96,.pointer (some ⟨aF,0,none⟩))]) (hp':=λ(_:Unit)=>[.blk aF [.map (some mb),.slice Ao (s.out.length) (co),.map (some mp),.int .i64 ↑(s.sum+((p:ByteArray).size))] 84,.abs (aE Try.prog 3 mb (mf (bf A ns ns.length)) ns.length),.abs (aE Try.prog 3 mp (mf (aY ns (push ns k p s).fst)) ((push ns k p s).cnt)),.abs (av 51 10 A3 ((push ns k p s).out.length) c4 (aI (M.put s.out.length dB cD) (push ns k p s).out)),.abs R,.blk b1 (cg (nd ns k) p dB ((nd ns k).data.length) cD ((nd ns k).target) ⟨#[]⟩) 51,.blk b2 (cg (nd ns k) p dB ((nd ns k).data.length) cD ((nd ns k).target) ⟨#[]⟩) 51]) [0,5] rfl rfl ?_ rfl (λ_=>by kernel_rfl) ?_
  ·refine af.aq (k':=1) (fr':=[(0,.pointer (some ⟨aF,0,none⟩)),(1,.pointer (some ⟨(au A),ar A+k*10,none⟩)),(2,.string p),(8,.bool (decide ((((s.out.length:Nat):Int):Int)=(0:Int)))),(95,.slice A3 ((push ns k p s).out.length) (c4)),(96,.pointer (some ⟨aF,0,none⟩))]) (ak:=[]) [o_] [0,1,2,8,95,96] (λ_ _=>by kernel_rfl) trivial ?_
   refine af.nil (by kernel_rfl) ?_
   exact ah.mid () (idx:=[0,1,2,8,95,96]) (pk:=[0,1,2,3,4,5,6]) (λ_=>by kernel_rfl) rfl (by kernel_rfl)
  rintro _
  refine aX.cut (ι:=Unit) (fr':=λ(_:Unit)=>[(0,.pointer (some ⟨aF,0,none⟩)),(1,.pointer (some ⟨(au A),ar A+k*10,none⟩)),(2,.string p),(8,.bool (decide ((((s.out.length:Nat):Int):Int)=(0:Int)))),(95,.slice A3 ((push ns k p s).out.length) (c4)),(97,.pointer (some ⟨aF,1,none⟩))]) (hp':=λ(_:Unit)=>[.blk aF [.map (some mb),.slice Ao (s.out.length) (co),.map (some mp),.int .i64 ↑(s.sum+((p:ByteArray).size))] 84,.abs (aE Try.prog 3 mb (mf (bf A ns ns.length)) ns.length),.abs (aE Try.prog 3 mp (mf (aY ns (push ns k p s).fst)) ((push ns k p s).cnt)),.abs (av 51 10 A3 ((push ns k p s).out.length) c4 (aI (M.put s.out.length dB cD) (push ns k p s).out)),.abs R,.blk b1 (cg (nd ns k) p dB ((nd ns k).data.length) cD ((nd ns k).target) ⟨#[]⟩) 51,.blk b2 (cg (nd ns k) p dB ((nd ns k).data.length) cD ((nd ns k).target) ⟨#[]⟩) 51]) [0,5] rfl rfl ?_ rfl (λ_=>by kernel_rfl) ?_
  ·refine af.aq (k':=1) (fr':=[(0,.pointer (some ⟨aF,0,none⟩)),(1,.pointer (some ⟨(au A),ar A+k*10,none⟩)),(2,.string p),(8,.bool (decide ((((s.out.length:Nat):Int):Int)=(0:Int)))),(95,.slice A3 ((push ns k p s).out.length) (c4)),(97,.pointer (some ⟨aF,1,none⟩))]) (ak:=[]) [o_] [0,1,2,8,95,97] (λ_ _=>by kernel_rfl) trivial ?_
   refine af.nil (by kernel_rfl) ?_
   exact ah.mid () (idx:=[0,1,2,8,95,97]) (pk:=[0,1,2,3,4,5,6]) (λ_=>by kernel_rfl) rfl (by kernel_rfl)
  rintro _
  refine aX.last rfl rfl ?_
  refine af.seg (k':=1) (fr':=[(0,.pointer (some ⟨aF,0,none⟩)),(1,.pointer (some ⟨(au A),ar A+k*10,none⟩)),(2,.string p),(8,.bool (decide ((((s.out.length:Nat):Int):Int)=(0:Int))))]) (aL:=[.blk aF [.map (some mb),.slice A3 ((push ns k p s).out.length) (c4),.map (some mp),.int .i64 ↑(s.sum+((p:ByteArray).size))] 84,.abs (aE Try.prog 3 mb (mf (bf A ns ns.length)) ns.length),.abs (aE Try.prog 3 mp (mf (aY ns (push ns k p s).fst)) ((push ns k p s).cnt)),.abs (av 51 10 A3 ((push ns k p s).out.length) c4 (aI (M.put s.out.length dB cD) (push ns k p s).out)),.abs R,.blk b1 (cg (nd ns k) p dB ((nd ns k).data.length) cD ((nd ns k).target) ⟨#[]⟩) 51,.blk b2 (cg (nd ns k) p dB ((nd ns k).data.length) cD ((nd ns k).target) ⟨#[]⟩) 51]) (ak:=[aF=aF]) [⟨[.at 0],none,none,none,none⟩] [0,1,2,8] [0,1,2,3,4,5,6] (λ_ _=>by kernel_rfl) ⟨rfl,trivial⟩ ?_
  refine af.nil (by kernel_rfl) (ah.np (ah.next (ai.seq (ai.seq (ai.region ?_)))))
  refine af.aZ 0 (p:=.blk aF [.map (some mb),.slice A3 ((push ns k p s).out.length) (c4),.map (some mp),.int .i64 ↑(s.sum+((p:ByteArray).size))] 84) (p':=.blk aF [.map (some mb),.slice A3 ((push ns k p s).out.length) (c4),.map (some mp),.int .i64 ↑((push ns k p s).sum)] 84) (by kernel_rfl) (by rw [dc]) ?_
  refine af.aq (k':=6) (fr':=[(0,.pointer (some ⟨aF,0,none⟩)),(2,.string p),(8,.bool (decide ((((s.out.length:Nat):Int):Int)=(0:Int)))),(101,.slice (L.eA k) ((nd ns k).aj.length) ((L.eC k))),(102,.int .i64 ↑((nd ns k).aj.length)),(103,.int .i64 0)]) (ak:=[(Rd lQ ⟨(au A),ar A+k*10+9,none⟩ (.slice (L.eA k) ((nd ns k).aj.length) ((L.eC k))))]) [o_,o_,o_,⟨[.old (.slice (L.eA k) ((nd ns k).aj.length) ((L.eC k)))],none,none,none,none⟩,o_,o_] [0,2,8,101,102,103] (λ_ _=>by kernel_rfl) ⟨aA.rd hG (i:=k) (by omega) (j:=9) rfl,trivial⟩ ?_
  refine af.nil (by kernel_rfl) (ah.next (ai.block ?_))
  refine ai.oR (ι:=Nat×Bs×TS×(Option Addr)×Nat×cQ) (λ((j,b,s2,cV,cW,M2):Nat×Bs×TS×(Option Addr)×Nat×cQ)=>b) (λ((j,b,s2,cV,cW,M2):Nat×Bs×TS×(Option Addr)×Nat×cQ)=>(j<=(nd ns k).aj.length)/\(β.le b)/\(aA b A ns L)/\(bJ b s2.out M2)/\(eF dN b s2.out M2)/\(Behind (push ns k p s) s2)/\(bR (λe s'=>bP ns f (tgt ns e.id) (below s.out.length p e.name) s') (nd ns k).aj (push ns k p s)=bR (λe s'=>bP ns f (tgt ns e.id) (below s.out.length p e.name) s') ((nd ns k).aj.drop j) s2)) (λ((j,b,s2,cV,cW,M2):Nat×Bs×TS×(Option Addr)×Nat×cQ)=>(nd ns k).aj.length-j) (λ((j,b,s2,cV,cW,M2):Nat×Bs×TS×(Option Addr)×Nat×cQ)=>[(0,.pointer (some ⟨aF,0,none⟩)),(2,.string p),(8,.bool (decide ((((s.out.length:Nat):Int):Int)=(0:Int)))),(101,.slice (L.eA k) ((nd ns k).aj.length) ((L.eC k))),(102,.int .i64 ↑((nd ns k).aj.length)),(103,.int .i64 ↑j)]) (λ((j,b,s2,cV,cW,M2):Nat×Bs×TS×(Option Addr)×Nat×cQ)=>[.blk aF [.map (some mb),.slice cV (s2.out.length) (cW),.map (some mp),.int .i64 ↑s2.sum] 84,.abs (aE Try.prog 3 mb (mf (bf A ns ns.length)) ns.length),.abs (aE Try.prog 3 mp (mf (aY ns s2.fst)) s2.cnt),.abs (av 51 10 cV s2.out.length cW (aI M2 s2.out)),.abs R]) (0,lQ,(push ns k p s),A3,c4,(M.put s.out.length dB cD)) rfl (idx:=[0,2,8,101,102,103]) (pk:=[0,1,2,3,4]) (show (0<=(nd ns k).aj.length)/\(β.le lQ)/\(aA lQ A ns L)/\(bJ lQ ((push ns k p s)).out ((M.put s.out.length dB cD)))/\(eF dN lQ ((push ns k p s)).out ((M.put s.out.length dB cD)))/\(Behind (push ns k p s) ((push ns k p s)))/\(bR (λe s'=>bP ns f (tgt ns e.id) (below s.out.length p e.name) s') (nd ns k).aj (push ns k p s)=bR (λe s'=>bP ns f (tgt ns e.id) (below s.out.length p e.name) s') ((nd ns k).aj.drop 0) ((push ns k p s))) from ⟨Nat.zero_le _,hle0,hG,by rw [dH];exact bJ.snoc di (by rw [iy _ _ fK];exact uV),by rw [dH];exact eF.snoc hJ hl0 jh (by rw [iy _ _ fK];exact C6),⟨hs.push hp (by omega),Nat.le_refl _,Nat.le_refl _⟩,rfl⟩) (λ_=>by kernel_rfl) rfl (by kernel_rfl) ?_
  rintro⟨j,b,s2,cV,cW,M2⟩ ⟨hj,hle0,hG,di,hJ,fH,fE⟩
  show ai _ b _ _ [(0,.pointer (some ⟨aF,0,none⟩)),(2,.string p),(8,.bool (decide ((((s.out.length:Nat):Int):Int)=(0:Int)))),(101,.slice (L.eA k) ((nd ns k).aj.length) ((L.eC k))),(102,.int .i64 ↑((nd ns k).aj.length)),(103,.int .i64 ↑j)] [.blk aF [.map (some mb),.slice cV (s2.out.length) (cW),.map (some mp),.int .i64 ↑s2.sum] 84,.abs (aE Try.prog 3 mb (mf (bf A ns ns.length)) ns.length),.abs (aE Try.prog 3 mp (mf (aY ns s2.fst)) s2.cnt),.abs (av 51 10 cV s2.out.length cW (aI M2 s2.out)),.abs R] _
  have hd3:=hB.hd k hk
  have hnl:=hok.named k hk
  refine ai.seq (ai.region (af.aq (k':=1) (fr':=[(0,.pointer (some ⟨aF,0,none⟩)),(2,.string p),(8,.bool (decide ((((s.out.length:Nat):Int):Int)=(0:Int)))),(101,.slice (L.eA k) ((nd ns k).aj.length) ((L.eC k))),(102,.int .i64 ↑((nd ns k).aj.length)),(103,.int .i64 ↑j),(104,.bool (decide ((((j:Nat):Int):Int)<((((nd ns k).aj.length:Nat):Int):Int))))]) (ak:=[]) [o_] [0,2,8,101,102,103,104] (λ_ _=>by kernel_rfl) trivial ?_))
  refine af.nil (by kernel_rfl) (ah.next (ai.seq ?_))
  refine ai.aV (p:=(((j:Nat):Int):Int)<((((nd ns k).aj.length:Nat):Int):Int)) (λ_=>by kernel_rfl) (λkU=>?_) (λkU=>?_)
  ·refine ai.skip (ah.next (ai.seq (ai.block (ai.seq (ai.region ?_)))))
   refine af.bD (k':=4) (fr':=λb5=>[(0,.pointer (some ⟨aF,0,none⟩)),(2,.string p),(8,.bool (decide ((((s.out.length:Nat):Int):Int)=(0:Int)))),(10,.pointer (some ⟨b5,0,none⟩)),(101,.slice (L.eA k) ((nd ns k).aj.length) ((L.eC k))),(102,.int .i64 ↑((nd ns k).aj.length)),(103,.int .i64 ↑j)]) (aL:=λb5=>[.blk aF [.map (some mb),.slice cV (s2.out.length) (cW),.map (some mp),.int .i64 ↑s2.sum] 84,.abs (aE Try.prog 3 mb (mf (bf A ns ns.length)) ns.length),.abs (aE Try.prog 3 mp (mf (aY ns s2.fst)) s2.cnt),.abs (av 51 10 cV s2.out.length cW (aI M2 s2.out)),.abs R,.blk b5 [.string (en (nd ns k).aj j).name,.int .i64 ((en (nd ns k).aj j).id)] 72]) (ak:=λb5=>[b5=b5,b5=b5,(Rd b ⟨(au (L.eA k)),ar (L.eA k)+j*2+1,none⟩ (.int .i64 ((en (nd ns k).aj j).id))),(Rd b ⟨(au (L.eA k)),ar (L.eA k)+j*2,none⟩ (.string (en (nd ns k).aj j).name)),((j:Nat):Int)=((j:Nat):Int),j<(nd ns k).aj.length,(⟨(au (L.eA k)),ar (L.eA k),none⟩:Addr).spot=none,((L.eA k):Option Addr)=some ⟨(au (L.eA k)),ar (L.eA k),none⟩]) [⟨[],some j,none,some ⟨(au (L.eA k)),ar (L.eA k),none⟩,none⟩,⟨[.old (.string (en (nd ns k).aj j).name),.old (.int .i64 ((en (nd ns k).aj j).id))],none,none,none,none⟩,o_,⟨[.at 5,.at 5],none,none,none,none⟩] [0,2,8,10,101,102,103] [0,1,2,3,4,5] (λ_ _=>by kernel_rfl) (λb5=>⟨rfl,rfl,bh.rd (hG.aj k (by omega)) (i:=j) (by omega) (j:=1) rfl,bh.rd (hG.aj k (by omega)) (i:=j) (by omega) (j:=0) rfl,rfl,by omega,rfl,bh.hd (hG.aj k (by omega)) (i:=j) (by omega),trivial⟩) (λb5=>?_)
   refine af.nil (by kernel_rfl) (ah.next (ai.seq (ai.region ?_)))
   refine af.aq (k':=3) (fr':=[(0,.pointer (some ⟨aF,0,none⟩)),(2,.string p),(8,.bool (decide ((((s.out.length:Nat):Int):Int)=(0:Int)))),(10,.pointer (some ⟨b5,0,none⟩)),(11,.string (en (nd ns k).aj j).name),(101,.slice (L.eA k) ((nd ns k).aj.length) ((L.eC k))),(102,.int .i64 ↑((nd ns k).aj.length)),(103,.int .i64 ↑j)]) (ak:=[b5=b5]) [o_,⟨[.at 5],none,none,none,none⟩,o_] [0,2,8,10,11,101,102,103] (λ_ _=>by kernel_rfl) ⟨rfl,trivial⟩ ?_
   refine af.nil (by kernel_rfl) (ah.next (ai.seq (ai.seq (ai.region ?_))))
   refine af.aq (k':=2) (fr':=[(0,.pointer (some ⟨aF,0,none⟩)),(2,.string p),(8,.bool (decide ((((s.out.length:Nat):Int):Int)=(0:Int)))),(10,.pointer (some ⟨b5,0,none⟩)),(11,.string (en (nd ns k).aj j).name),(101,.slice (L.eA k) ((nd ns k).aj.length) ((L.eC k))),(102,.int .i64 ↑((nd ns k).aj.length)),(103,.int .i64 ↑j),(110,.bool (!(decide ((((s.out.length:Nat):Int):Int)=(0:Int)))))]) (ak:=[]) [o_,o_] [0,2,8,10,11,101,102,103,110] (λ_ _=>by kernel_rfl) trivial ?_
   refine af.nil (by kernel_rfl) (ah.next ?_)
   refine ai.cY (p:=(((s.out.length:Nat):Int):Int)=(0:Int)) (λ_=>by kernel_rfl) (λqj=>?_) (λqj=>?_)
   ·have cI:below s.out.length p (en (nd ns k).aj j).name=p++⟨#[47]⟩++(en (nd ns k).aj j).name:=if_neg (by omega)
    refine ai.region (af.aq (k':=1) (fr':=[(0,.pointer (some ⟨aF,0,none⟩)),(2,.string p),(8,.bool (decide ((((s.out.length:Nat):Int):Int)=(0:Int)))),(10,.pointer (some ⟨b5,0,none⟩)),(101,.slice (L.eA k) ((nd ns k).aj.length) ((L.eC k))),(102,.int .i64 ↑((nd ns k).aj.length)),(103,.int .i64 ↑j),(111,.string p)]) (ak:=[]) [o_] [0,2,8,10,101,102,103,111] (λ_ _=>by kernel_rfl) trivial ?_)
    refine af.fU (d:=(some 112)) (t:=9) (t2:=9) (x:=(.tmp 111)) (y:=(.const (.string ⟨#[47]⟩))) (a:=p) (b:=⟨#[47]⟩) (λ_=>by kernel_rfl) (λ_=>by kernel_rfl) (λ_=>by kernel_rfl) (by have jD:(⟨#[47]⟩:ByteArray).size=1:=rfl;omega) ?_
    refine af.aq (k':=4) (fr':=[(0,.pointer (some ⟨aF,0,none⟩)),(2,.string p),(8,.bool (decide ((((s.out.length:Nat):Int):Int)=(0:Int)))),(10,.pointer (some ⟨b5,0,none⟩)),(101,.slice (L.eA k) ((nd ns k).aj.length) ((L.eC k))),(102,.int .i64 ↑((nd ns k).aj.length)),(103,.int .i64 ↑j),(112,.string (p++⟨#[47]⟩)),(114,.string (en (nd ns k).aj j).name)]) (ak:=[b5=b5]) [o_,⟨[.at 5],none,none,none,none⟩] [0,2,8,10,101,102,103,112,114] (λ_ _=>by kernel_rfl) ⟨rfl,trivial⟩ ?_
    refine af.fU (d:=(some 115)) (t:=9) (t2:=9) (x:=(.tmp 112)) (y:=(.tmp 114)) (a:=(p++⟨#[47]⟩)) (b:=(en (nd ns k).aj j).name) (λ_=>by kernel_rfl) (λ_=>by kernel_rfl) (λ_=>by kernel_rfl) (by have jD:(⟨#[47]⟩:ByteArray).size=1:=rfl;have hnz:(en (nd ns k).aj j).name.size<=255:=(hnl j (by omega)).2.1;rw [ByteArray.size_append];omega) ?_
    refine af.aq (k':=6) (fr':=[(0,.pointer (some ⟨aF,0,none⟩)),(2,.string p),(8,.bool (decide ((((s.out.length:Nat):Int):Int)=(0:Int)))),(10,.pointer (some ⟨b5,0,none⟩)),(11,.string ((p++⟨#[47]⟩)++(en (nd ns k).aj j).name)),(101,.slice (L.eA k) ((nd ns k).aj.length) ((L.eC k))),(102,.int .i64 ↑((nd ns k).aj.length)),(103,.int .i64 ↑j)]) (ak:=[]) [o_] [0,2,8,10,11,101,102,103] (λ_ _=>by kernel_rfl) trivial ?_
    refine af.nil (by kernel_rfl) (ah.next (ai.seq ?_))
    refine ai.eY 9 (by kernel_rfl) (by kernel_rfl) ?_
    refine cu.seg (k':=7) (fr':=[(0,.pointer (some ⟨aF,0,none⟩)),(2,.string p),(8,.bool (decide ((((s.out.length:Nat):Int):Int)=(0:Int)))),(11,.string ((p++⟨#[47]⟩)++(en (nd ns k).aj j).name)),(101,.slice (L.eA k) ((nd ns k).aj.length) ((L.eC k))),(102,.int .i64 ↑((nd ns k).aj.length)),(103,.int .i64 ↑j),(116,.pointer (some ⟨aF,0,none⟩)),(120,.map (some mb)),(122,.int .i64 ((en (nd ns k).aj j).id))]) (ak:=[b5=b5,aF=aF]) [o_,o_,o_,o_,⟨[.at 0],none,none,none,none⟩,o_,⟨[.at 5],none,none,none,none⟩] [0,2,8,11,101,102,103,116,120,122] (λ_ _=>by kernel_rfl) ⟨rfl,rfl,trivial⟩ (by decide) ?_
    have hat:=(hok.aj k hk j (by omega)).at_
    have htl:=cH hat
    have hnm:=hok.named k hk j (by omega)
    refine cu.dO 1 (d:=(some 123)) (t:=66) (K:=3) (E:=75) (b:=mb) (cnt:=ns.length) (f:=(mf (bf A ns ns.length))) (x:=(.tmp 120)) (ix:=(.tmp 122)) (key:=.int .i64 ((en (nd ns k).aj j).id)) (z:=.pointer none) (kl:=(.int .i64 (en (nd ns k).aj j).id)) (r:=(some (.pointer (some ⟨(au A),ar A+(tgt ns (en (nd ns k).aj j).id)*10,none⟩)))) (λ_=>by kernel_rfl) (by kernel_rfl) (λ_=>by kernel_rfl) (λ_=>by kernel_rfl) fC Try.underlying66 (λ_=>by kernel_rfl) (fI (hB.hwf k hk j (by omega)).1 (hB.hwf k hk j (by omega)).2) (jE hat htl.1) (by decide) ?_
    refine cu.seg (k':=9) (fr':=[(0,.pointer (some ⟨aF,0,none⟩)),(2,.string p),(8,.bool (decide ((((s.out.length:Nat):Int):Int)=(0:Int)))),(101,.slice (L.eA k) ((nd ns k).aj.length) ((L.eC k))),(102,.int .i64 ↑((nd ns k).aj.length)),(103,.int .i64 ↑j),(116,.pointer (some ⟨aF,0,none⟩)),(123,.pointer (some ⟨(au A),ar A+(tgt ns (en (nd ns k).aj j).id)*10,none⟩)),(124,.string ((p++⟨#[47]⟩)++(en (nd ns k).aj j).name))]) (ak:=[]) [o_] [0,2,8,101,102,103,116,123,124] (λ_ _=>by kernel_rfl) trivial (by decide) ?_
    refine cu.done rfl ?_
    have kz:(tgt ns (en (nd ns k).aj j).id)<ns.length:=htl.1
    have hq1:1<=(((p++⟨#[47]⟩)++(en (nd ns k).aj j).name):ByteArray).size:=by rw [←cI];exact dw hnm.1
    have kV:(((p++⟨#[47]⟩)++(en (nd ns k).aj j).name):ByteArray).size<=8388608:=by rw [←cI];exact gV (by omega) hnm.2.1
    have kW:4194304-s2.sum<f:=by have:=fH.sum;rw [dc] at this;omega
    have uW:=IH dN _ A ns L M2 s2 (tgt ns (en (nd ns k).aj j).id) ((p++⟨#[47]⟩)++(en (nd ns k).aj j).name) aF mb mp cV cW (hl0.trans hle0) hJ hG hB hok di kz hq1 kV fH.ok kW
    refine af.fo (d:=(some 125)) (R:=[.abs R,.blk b5 [.string (en (nd ns k).aj j).name,.int .i64 ((en (nd ns k).aj j).id)] 72]) (pk:=[0,1,2,3,4,5]) (λ_=>by kernel_rfl) uW rfl (by kernel_rfl) ?_
    rintro oh _ _ eS (⟨s3,gM,gX,M3,hadd,rfl,gj,rfl,hJ3⟩|⟨hadd,rfl,rfl⟩)
    ·replace hG:=hG.le eS
     replace di:=di.le eS
     replace hle0:=hle0.trans eS
     refine af.aq (k':=11) (fr':=[(0,.pointer (some ⟨aF,0,none⟩)),(2,.string p),(8,.bool (decide ((((s.out.length:Nat):Int):Int)=(0:Int)))),(101,.slice (L.eA k) ((nd ns k).aj.length) ((L.eC k))),(102,.int .i64 ↑((nd ns k).aj.length)),(103,.int .i64 ↑j),(126,.bool false)]) (ak:=[]) [o_] [0,2,8,101,102,103,126] (λ_ _=>by kernel_rfl) trivial ?_
     refine af.nil (by kernel_rfl) (ah.next ?_)
     refine ai.cU (λ_=>by kernel_rfl) ?_
     refine ai.skip (ah.aJ (ah.next (ai.region ?_)))
     refine af.aq (k':=2) (fr':=[(0,.pointer (some ⟨aF,0,none⟩)),(2,.string p),(8,.bool (decide ((((s.out.length:Nat):Int):Int)=(0:Int)))),(101,.slice (L.eA k) ((nd ns k).aj.length) ((L.eC k))),(102,.int .i64 ↑((nd ns k).aj.length)),(103,.int .i64 ↑(j+1))]) (ak:=[(Value.int .i64 (IntKind.wrap .i64 (((j:Nat):Int)+1)))=(.int .i64 ↑(j+1))]) [⟨[],none,none,none,some (.int .i64 ↑(j+1))⟩,o_] [0,2,8,101,102,103] (λ_ _=>by kernel_rfl) ⟨aP (by omega) (by omega) (by omega),trivial⟩ ?_
     refine af.nil (by kernel_rfl) ?_
     exact ah.ju ((j+1),oh,s3,gM,gX,M3) (hb:=rfl) (idx:=[0,2,8,101,102,103]) (pk:=[0,1,2,3,4]) (show (((j+1))<=(nd ns k).aj.length)/\(β.le oh)/\(aA oh A ns L)/\(bJ oh s3.out M3)/\(eF dN oh s3.out M3)/\(Behind (push ns k p s) s3)/\(bR (λe s'=>bP ns f (tgt ns e.id) (below s.out.length p e.name) s') (nd ns k).aj (push ns k p s)=bR (λe s'=>bP ns f (tgt ns e.id) (below s.out.length p e.name) s') ((nd ns k).aj.drop ((j+1))) s3) from ⟨by omega,hle0,hG,gj,hJ3,Behind.trans fH (eZ hok.named f _ _ _ _ htl.1 (by rw [←cI];exact dw hnm.1) fH.ok hadd).1,by rw [fE,dx (by omega),cI,hadd];rfl⟩) (by show (nd ns k).aj.length-((j+1))<(nd ns k).aj.length-j;omega) (λ_=>by kernel_rfl) rfl (by kernel_rfl)
    replace hG:=hG.le eS
    replace di:=di.le eS
    replace hle0:=hle0.trans eS
    refine af.aq (k':=11) (fr':=[(0,.pointer (some ⟨aF,0,none⟩)),(2,.string p),(8,.bool (decide ((((s.out.length:Nat):Int):Int)=(0:Int)))),(101,.slice (L.eA k) ((nd ns k).aj.length) ((L.eC k))),(102,.int .i64 ↑((nd ns k).aj.length)),(103,.int .i64 ↑j),(126,.bool true)]) (ak:=[]) [o_] [0,2,8,101,102,103,126] (λ_ _=>by kernel_rfl) trivial ?_
    refine af.nil (by kernel_rfl) (ah.next ?_)
    refine ai.bL (λ_=>by kernel_rfl) ?_
    refine ai.seq (ai.region (af.aq (k':=1) (fr':=[(6,.bool false)]) (ak:=[]) [o_] [6] (λ_ _=>by kernel_rfl) trivial ?_))
    refine af.nil (by kernel_rfl) (ah.next (ai.ret (ah.aG (ah.ay (ah.ay (ah.aG (ah.ay ?_)))))))
    exact ah.eW (v:=.bool false) (l:=[]) (ak:=[]) [] [0] hle0 (λ_=>by kernel_rfl) trivial rfl (by kernel_rfl) (.inr ⟨by rw [hst,fE,dx (by omega),cI,hadd];rfl,rfl,rfl⟩)
   have cI:below s.out.length p (en (nd ns k).aj j).name=(en (nd ns k).aj j).name:=if_pos (by omega)
   refine ai.skip (ah.next (ai.seq ?_))
   refine ai.eY 9 (by kernel_rfl) (by kernel_rfl) ?_
   refine cu.seg (k':=7) (fr':=[(0,.pointer (some ⟨aF,0,none⟩)),(2,.string p),(8,.bool (decide ((((s.out.length:Nat):Int):Int)=(0:Int)))),(11,.string (en (nd ns k).aj j).name),(101,.slice (L.eA k) ((nd ns k).aj.length) ((L.eC k))),(102,.int .i64 ↑((nd ns k).aj.length)),(103,.int .i64 ↑j),(116,.pointer (some ⟨aF,0,none⟩)),(120,.map (some mb)),(122,.int .i64 ((en (nd ns k).aj j).id))]) (ak:=[b5=b5,aF=aF]) [o_,o_,o_,o_,⟨[.at 0],none,none,none,none⟩,o_,⟨[.at 5],none,none,none,none⟩] [0,2,8,11,101,102,103,116,120,122] (λ_ _=>by kernel_rfl) ⟨rfl,rfl,trivial⟩ (by decide) ?_
   have hat:=(hok.aj k hk j (by omega)).at_
   have htl:=cH hat
   have hnm:=hok.named k hk j (by omega)
   refine cu.dO 1 (d:=(some 123)) (t:=66) (K:=3) (E:=75) (b:=mb) (cnt:=ns.length) (f:=(mf (bf A ns ns.length))) (x:=(.tmp 120)) (ix:=(.tmp 122)) (key:=.int .i64 ((en (nd ns k).aj j).id)) (z:=.pointer none) (kl:=(.int .i64 (en (nd ns k).aj j).id)) (r:=(some (.pointer (some ⟨(au A),ar A+(tgt ns (en (nd ns k).aj j).id)*10,none⟩)))) (λ_=>by kernel_rfl) (by kernel_rfl) (λ_=>by kernel_rfl) (λ_=>by kernel_rfl) fC Try.underlying66 (λ_=>by kernel_rfl) (fI (hB.hwf k hk j (by omega)).1 (hB.hwf k hk j (by omega)).2) (jE hat htl.1) (by decide) ?_
   refine cu.seg (k':=9) (fr':=[(0,.pointer (some ⟨aF,0,none⟩)),(2,.string p),(8,.bool (decide ((((s.out.length:Nat):Int):Int)=(0:Int)))),(101,.slice (L.eA k) ((nd ns k).aj.length) ((L.eC k))),(102,.int .i64 ↑((nd ns k).aj.length)),(103,.int .i64 ↑j),(116,.pointer (some ⟨aF,0,none⟩)),(123,.pointer (some ⟨(au A),ar A+(tgt ns (en (nd ns k).aj j).id)*10,none⟩)),(124,.string (en (nd ns k).aj j).name)]) (ak:=[]) [o_] [0,2,8,101,102,103,116,123,124] (λ_ _=>by kernel_rfl) trivial (by decide) ?_
   refine cu.done rfl ?_
   have kz:(tgt ns (en (nd ns k).aj j).id)<ns.length:=htl.1
   have hq1:1<=((en (nd ns k).aj j).name:ByteArray).size:=by rw [←cI];exact dw hnm.1
   have kV:((en (nd ns k).aj j).name:ByteArray).size<=8388608:=by rw [←cI];exact gV (by omega) hnm.2.1
   have kW:4194304-s2.sum<f:=by have:=fH.sum;rw [dc] at this;omega
   have uX:=IH dN _ A ns L M2 s2 (tgt ns (en (nd ns k).aj j).id) (en (nd ns k).aj j).name aF mb mp cV cW (hl0.trans hle0) hJ hG hB hok di kz hq1 kV fH.ok kW
   refine af.fo (d:=(some 125)) (R:=[.abs R,.blk b5 [.string (en (nd ns k).aj j).name,.int .i64 ((en (nd ns k).aj j).id)] 72]) (pk:=[0,1,2,3,4,5]) (λ_=>by kernel_rfl) uX rfl (by kernel_rfl) ?_
   rintro ji _ _ d8 (⟨s3,gM,gX,M3,hadd,rfl,gj,rfl,hJ3⟩|⟨hadd,rfl,rfl⟩)
   ·replace hG:=hG.le d8
    replace di:=di.le d8
    replace hle0:=hle0.trans d8
    refine af.aq (k':=11) (fr':=[(0,.pointer (some ⟨aF,0,none⟩)),(2,.string p),(8,.bool (decide ((((s.out.length:Nat):Int):Int)=(0:Int)))),(101,.slice (L.eA k) ((nd ns k).aj.length) ((L.eC k))),(102,.int .i64 ↑((nd ns k).aj.length)),(103,.int .i64 ↑j),(126,.bool false)]) (ak:=[]) [o_] [0,2,8,101,102,103,126] (λ_ _=>by kernel_rfl) trivial ?_
    refine af.nil (by kernel_rfl) (ah.next ?_)
    refine ai.cU (λ_=>by kernel_rfl) ?_
    refine ai.skip (ah.aJ (ah.next (ai.region ?_)))
    refine af.aq (k':=2) (fr':=[(0,.pointer (some ⟨aF,0,none⟩)),(2,.string p),(8,.bool (decide ((((s.out.length:Nat):Int):Int)=(0:Int)))),(101,.slice (L.eA k) ((nd ns k).aj.length) ((L.eC k))),(102,.int .i64 ↑((nd ns k).aj.length)),(103,.int .i64 ↑(j+1))]) (ak:=[(Value.int .i64 (IntKind.wrap .i64 (((j:Nat):Int)+1)))=(.int .i64 ↑(j+1))]) [⟨[],none,none,none,some (.int .i64 ↑(j+1))⟩,o_] [0,2,8,101,102,103] (λ_ _=>by kernel_rfl) ⟨aP (by omega) (by omega) (by omega),trivial⟩ ?_
    refine af.nil (by kernel_rfl) ?_
    exact ah.ju ((j+1),ji,s3,gM,gX,M3) (hb:=rfl) (idx:=[0,2,8,101,102,103]) (pk:=[0,1,2,3,4]) (show (((j+1))<=(nd ns k).aj.length)/\(β.le ji)/\(aA ji A ns L)/\(bJ ji s3.out M3)/\(eF dN ji s3.out M3)/\(Behind (push ns k p s) s3)/\(bR (λe s'=>bP ns f (tgt ns e.id) (below s.out.length p e.name) s') (nd ns k).aj (push ns k p s)=bR (λe s'=>bP ns f (tgt ns e.id) (below s.out.length p e.name) s') ((nd ns k).aj.drop ((j+1))) s3) from ⟨by omega,hle0,hG,gj,hJ3,Behind.trans fH (eZ hok.named f _ _ _ _ htl.1 (by rw [←cI];exact dw hnm.1) fH.ok hadd).1,by rw [fE,dx (by omega),cI,hadd];rfl⟩) (by show (nd ns k).aj.length-((j+1))<(nd ns k).aj.length-j;omega) (λ_=>by kernel_rfl) rfl (by kernel_rfl)
   replace hG:=hG.le d8
   replace di:=di.le d8
   replace hle0:=hle0.trans d8
   refine af.aq (k':=11) (fr':=[(0,.pointer (some ⟨aF,0,none⟩)),(2,.string p),(8,.bool (decide ((((s.out.length:Nat):Int):Int)=(0:Int)))),(101,.slice (L.eA k) ((nd ns k).aj.length) ((L.eC k))),(102,.int .i64 ↑((nd ns k).aj.length)),(103,.int .i64 ↑j),(126,.bool true)]) (ak:=[]) [o_] [0,2,8,101,102,103,126] (λ_ _=>by kernel_rfl) trivial ?_
   refine af.nil (by kernel_rfl) (ah.next ?_)
   refine ai.bL (λ_=>by kernel_rfl) ?_
   refine ai.seq (ai.region (af.aq (k':=1) (fr':=[(6,.bool false)]) (ak:=[]) [o_] [6] (λ_ _=>by kernel_rfl) trivial ?_))
   refine af.nil (by kernel_rfl) (ah.next (ai.ret (ah.aG (ah.ay (ah.ay (ah.aG (ah.ay ?_)))))))
   exact ah.eW (v:=.bool false) (l:=[]) (ak:=[]) [] [0] hle0 (λ_=>by kernel_rfl) trivial rfl (by kernel_rfl) (.inr ⟨by rw [hst,fE,dx (by omega),cI,hadd];rfl,rfl,rfl⟩)
  refine ai.exit (ah.aH (ah.aH (ah.bg (ah.next (ai.seq (ai.region ?_))))))
  refine af.aq (k':=1) (fr':=[(6,.bool true)]) (ak:=[]) [o_] [6] (λ_ _=>by kernel_rfl) trivial ?_
  refine af.nil (by kernel_rfl) (ah.next (ai.ret ?_))
  exact ah.eW (v:=.bool true) (l:=[.blk aF [.map (some mb),.slice cV (s2.out.length) (cW),.map (some mp),.int .i64 ↑s2.sum] 84,.abs (aE Try.prog 3 mb (mf (bf A ns ns.length)) ns.length),.abs (aE Try.prog 3 mp (mf (aY ns s2.fst)) s2.cnt),.abs (av 51 10 cV s2.out.length cW (aI M2 s2.out))]) (ak:=[]) [] [0,1,2,3,4] hle0 (λ_=>by kernel_rfl) trivial rfl (by kernel_rfl) (.inl ⟨s2,cV,cW,M2,by rw [hst,fE,jg (by omega)],rfl,di,rfl,hJ⟩)
 refine ai.dL (S:=[.blk aF [.map (some mb),.slice Ao (s.out.length) (co),.map (some mp),.int .i64 ↑(s.sum+((p:ByteArray).size))] 84,.abs (aE Try.prog 3 mb (mf (bf A ns ns.length)) ns.length),.abs (aE Try.prog 3 mp (mf (aY ns s.fst)) s.cnt)]) [0,1,2,3,4,5,6,7,8,9,10,11,12,13,14,15,16,17,18,19,20,21,22,23,24,25,26,27,28,29,30,31,32,33] 32 [0,1,2] (by kernel_rfl) (by kernel_rfl) rfl (by kernel_rfl) ?_
 refine aX.reads (r:=3) (l:=[29,30,31,32,33]) (fr':=[(0,.pointer (some ⟨aF,0,none⟩)),(1,.pointer (some ⟨(au A),ar A+k*10,none⟩)),(2,.string p),(26,.string p),(30,.int .i64 ((nd ns k).kind)),(34,.int .i64 ((nd ns k).mode)),(38,.int .i64 ((nd ns k).uid)),(42,.int .i64 ((nd ns k).gid)),(46,.agg #[.int .i64 ((nd ns k).sec),.int .i64 ((nd ns k).nano)]),(50,.map (some mp)),(54,.int .i64 ((nd ns k).id))]) (ak:=[(Rd β ⟨(au A),ar A+k*10,none⟩ (.int .i64 ((nd ns k).id))),aF=aF,(Rd β ⟨(au A),ar A+k*10+5+1,none⟩ (.int .i64 ((nd ns k).nano))),(Rd β ⟨(au A),ar A+k*10+5,none⟩ (.int .i64 ((nd ns k).sec))),(Rd β ⟨(au A),ar A+k*10+4,none⟩ (.int .i64 ((nd ns k).gid))),(Rd β ⟨(au A),ar A+k*10+3,none⟩ (.int .i64 ((nd ns k).uid))),(Rd β ⟨(au A),ar A+k*10+2,none⟩ (.int .i64 ((nd ns k).mode))),(Rd β ⟨(au A),ar A+k*10+1,none⟩ (.int .i64 ((nd ns k).kind)))]) [0,1,2,3,4,5,6,7,8,9,10,11,12,13,14,15,16,17,18,19,20,21,22,23,24,25,26,27,28] [o_,o_,o_,o_,⟨[.old (.int .i64 ((nd ns k).kind))],none,none,none,none⟩,o_,o_,o_,⟨[.old (.int .i64 ((nd ns k).mode))],none,none,none,none⟩,o_,o_,o_,⟨[.old (.int .i64 ((nd ns k).uid))],none,none,none,none⟩,o_,o_,o_,⟨[.old (.int .i64 ((nd ns k).gid))],none,none,none,none⟩,o_,o_,o_,⟨[.old (.int .i64 ((nd ns k).sec)),.old (.int .i64 ((nd ns k).nano))],none,none,none,none⟩,o_,o_,o_,⟨[.at 0],none,none,none,none⟩,o_,o_,o_,⟨[.old (.int .i64 ((nd ns k).id))],none,none,none,none⟩] [0,1,2,26,30,34,38,42,46,50,54] (λ_=>by kernel_rfl) ⟨aA.rd hG (i:=k) (by omega) (j:=0) rfl,rfl,aA.rd hG (i:=k) (by omega) (j:=6) rfl,aA.rd hG (i:=k) (by omega) (j:=5) rfl,aA.rd hG (i:=k) (by omega) (j:=4) rfl,aA.rd hG (i:=k) (by omega) (j:=3) rfl,aA.rd hG (i:=k) (by omega) (j:=2) rfl,aA.rd hG (i:=k) (by omega) (j:=1) rfl,trivial⟩ rfl rfl ?_
 refine aX.dO 2 (d:=(some 55)) (t:=82) (K:=3) (E:=115) (b:=mp) (cnt:=s.cnt) (f:=(mf (aY ns s.fst))) (x:=(.tmp 50)) (ix:=(.tmp 54)) (key:=.int .i64 ((nd ns k).id)) (z:=.agg #[.string ⟨#[]⟩]) (kl:=(.int .i64 (nd ns k).id)) (q:=(some (.agg #[.string (s.fst k)]))) (by kernel_rfl) (by kernel_rfl) (λ_=>by kernel_rfl) (λ_=>by kernel_rfl) fC Try.underlying82 (λ_=>by kernel_rfl) (fI (hB.node k hk).ids.1.1 (hB.node k hk).ids.1.2) (uT hok.rise hk fK) (by kernel_rfl) ?_
 refine aX.reads (r:=0) (l:=[32,33]) (fr':=[(0,.pointer (some ⟨aF,0,none⟩)),(1,.pointer (some ⟨(au A),ar A+k*10,none⟩)),(2,.string p),(57,.agg #[.string p,.int .i64 ((nd ns k).kind),.int .i64 ((nd ns k).mode),.int .i64 ((nd ns k).uid),.int .i64 ((nd ns k).gid),.int .i64 ((nd ns k).sec),.int .i64 ((nd ns k).nano),.slice none (0) (0),.string ⟨#[]⟩,.string (s.fst k)])]) (ak:=[]) [30,31] [o_,o_] [0,1,2,57] (λ_=>by kernel_rfl) trivial rfl rfl ?_
 refine aX.cut (ι:=Nat) (fr':=λ(b10:Nat)=>[(0,.pointer (some ⟨aF,0,none⟩)),(1,.pointer (some ⟨(au A),ar A+k*10,none⟩)),(2,.string p),(7,.pointer (some ⟨b10,0,none⟩)),(57,.agg #[.string p,.int .i64 ((nd ns k).kind),.int .i64 ((nd ns k).mode),.int .i64 ((nd ns k).uid),.int .i64 ((nd ns k).gid),.int .i64 ((nd ns k).sec),.int .i64 ((nd ns k).nano),.slice none (0) (0),.string ⟨#[]⟩,.string (s.fst k)])]) (hp':=λ(b10:Nat)=>[.blk aF [.map (some mb),.slice Ao (s.out.length) (co),.map (some mp),.int .i64 ↑(s.sum+((p:ByteArray).size))] 84,.abs (aE Try.prog 3 mb (mf (bf A ns ns.length)) ns.length),.abs (aE Try.prog 3 mp (mf (aY ns s.fst)) s.cnt),.abs (av 51 10 Ao s.out.length co (aI M s.out)),.abs R,.blk b10 [.string ⟨#[]⟩,.int .i64 0,.int .i64 0,.int .i64 0,.int .i64 0,.int .i64 0,.int .i64 0,.slice none (0) (0),.string ⟨#[]⟩,.string ⟨#[]⟩] 51]) [0,1,2] rfl rfl ?_ rfl (λ_=>by kernel_rfl) ?_
 ·refine af.bD (k':=1) (fr':=λb10=>[(0,.pointer (some ⟨aF,0,none⟩)),(1,.pointer (some ⟨(au A),ar A+k*10,none⟩)),(2,.string p),(7,.pointer (some ⟨b10,0,none⟩)),(57,.agg #[.string p,.int .i64 ((nd ns k).kind),.int .i64 ((nd ns k).mode),.int .i64 ((nd ns k).uid),.int .i64 ((nd ns k).gid),.int .i64 ((nd ns k).sec),.int .i64 ((nd ns k).nano),.slice none (0) (0),.string ⟨#[]⟩,.string (s.fst k)])]) (aL:=λb10=>[.blk aF [.map (some mb),.slice Ao (s.out.length) (co),.map (some mp),.int .i64 ↑(s.sum+((p:ByteArray).size))] 84,.abs (aE Try.prog 3 mb (mf (bf A ns ns.length)) ns.length),.abs (aE Try.prog 3 mp (mf (aY ns s.fst)) s.cnt),.abs (av 51 10 Ao s.out.length co (aI M s.out)),.abs R,.blk b10 [.string ⟨#[]⟩,.int .i64 0,.int .i64 0,.int .i64 0,.int .i64 0,.int .i64 0,.int .i64 0,.slice none (0) (0),.string ⟨#[]⟩,.string ⟨#[]⟩] 51]) (ak:=λb10=>[]) [o_] [0,1,2,7,57] [0,1,2,3,4,5] (λ_ _=>by kernel_rfl) (λb10=>trivial) (λb10=>?_)
  refine af.nil (by kernel_rfl) ?_
  exact ah.mid b10 (idx:=[0,1,2,7,57]) (pk:=[0,1,2,3,4,5]) (λ_=>by kernel_rfl) rfl (by kernel_rfl)
 rintro b10
 refine aX.last rfl rfl ?_
 refine af.seg (k':=1) (fr':=[(0,.pointer (some ⟨aF,0,none⟩)),(1,.pointer (some ⟨(au A),ar A+k*10,none⟩)),(2,.string p),(7,.pointer (some ⟨b10,0,none⟩))]) (aL:=[.blk aF [.map (some mb),.slice Ao (s.out.length) (co),.map (some mp),.int .i64 ↑(s.sum+((p:ByteArray).size))] 84,.abs (aE Try.prog 3 mb (mf (bf A ns ns.length)) ns.length),.abs (aE Try.prog 3 mp (mf (aY ns s.fst)) s.cnt),.abs (av 51 10 Ao s.out.length co (aI M s.out)),.abs R,.blk b10 (cg (nd ns k) p none (0) 0 (⟨#[]⟩) (s.fst k)) 51]) (ak:=[b10=b10,b10=b10,b10=b10,b10=b10,b10=b10,b10=b10,b10=b10,b10=b10,b10=b10,b10=b10]) [⟨[.at 5,.at 5,.at 5,.at 5,.at 5,.at 5,.at 5,.at 5,.at 5,.at 5],none,none,none,none⟩] [0,1,2,7] [0,1,2,3,4,5] (λ_ _=>by kernel_rfl) ⟨rfl,rfl,rfl,rfl,rfl,rfl,rfl,rfl,rfl,rfl,trivial⟩ ?_
 refine af.nil (by kernel_rfl) (ah.np (ah.next (ai.seq (ai.seq (ai.region ?_)))))
 refine af.aq (k':=3) (fr':=[(0,.pointer (some ⟨aF,0,none⟩)),(1,.pointer (some ⟨(au A),ar A+k*10,none⟩)),(2,.string p),(7,.pointer (some ⟨b10,0,none⟩)),(60,.bool (decide (((s.fst k):ByteArray)=⟨#[]⟩)))]) (ak:=[(Value.bool (((s.fst k):ByteArray).toList == (⟨#[]⟩:ByteArray).toList))=(.bool (decide (((s.fst k):ByteArray)=⟨#[]⟩))),b10=b10]) [o_,⟨[.at 5],none,none,none,none⟩,⟨[],none,none,none,some (.bool (decide (((s.fst k):ByteArray)=⟨#[]⟩)))⟩] [0,1,2,7,60] (λ_ _=>by kernel_rfl) ⟨eH _ _,rfl,trivial⟩ ?_
 refine af.nil (by kernel_rfl) (ah.next ?_)
 refine ai.aV (p:=((s.fst k):ByteArray)=⟨#[]⟩) (λ_=>by kernel_rfl) (λoA=>?_) (λoA=>?_)
 ·exact absurd oA fK
 refine ai.skip (ah.next (ai.seq (ai.region ?_)))
 refine af.aZ 2 (p:=.abs (aE Try.prog 3 mp (mf (aY ns s.fst)) s.cnt)) (p':=.abs (aE Try.prog 3 mp (mf (aY ns (push ns k p s).fst)) ((push ns k p s).cnt))) (by kernel_rfl) (by rw [(iX fK).1,(iX fK).2]) ?_
 refine af.aq (k':=7) (fr':=[(0,.pointer (some ⟨aF,0,none⟩)),(1,.pointer (some ⟨(au A),ar A+k*10,none⟩)),(2,.string p),(7,.pointer (some ⟨b10,0,none⟩)),(8,.bool (decide ((((s.out.length:Nat):Int):Int)=(0:Int))))]) (ak:=[aF=aF]) [o_,o_,o_,⟨[.at 0],none,none,none,none⟩,o_,o_,o_] [0,1,2,7,8] (λ_ _=>by kernel_rfl) ⟨rfl,trivial⟩ ?_
 refine af.nil (by kernel_rfl) (ah.next (ai.seq ?_))
 refine ai.dL (S:=[.blk aF [.map (some mb),.slice Ao (s.out.length) (co),.map (some mp),.int .i64 ↑(s.sum+((p:ByteArray).size))] 84,.blk b10 (cg (nd ns k) p none (0) 0 (⟨#[]⟩) (s.fst k)) 51]) [0,1,2,3,4,5,6,7,8,9,10] 6 [0,5] (by kernel_rfl) (by kernel_rfl) rfl (by kernel_rfl) ?_
 refine aX.reads (r:=0) (l:=[6,7,8,9,10]) (fr':=[(0,.pointer (some ⟨aF,0,none⟩)),(1,.pointer (some ⟨(au A),ar A+k*10,none⟩)),(2,.string p),(8,.bool (decide ((((s.out.length:Nat):Int):Int)=(0:Int)))),(88,.pointer (some ⟨aF,0,none⟩)),(92,.slice Ao (s.out.length) (co)),(93,.agg #[.string p,.int .i64 ((nd ns k).kind),.int .i64 ((nd ns k).mode),.int .i64 ((nd ns k).uid),.int .i64 ((nd ns k).gid),.int .i64 ((nd ns k).sec),.int .i64 ((nd ns k).nano),.slice none (0) (0),.string ⟨#[]⟩,.string (s.fst k)])]) (ak:=[b10=b10,b10=b10,b10=b10,b10=b10,b10=b10,b10=b10,b10=b10,b10=b10,b10=b10,b10=b10,aF=aF]) [0,1,2,3,4,5] [o_,o_,o_,o_,⟨[.at 0],none,none,none,none⟩,⟨[.at 1,.at 1,.at 1,.at 1,.at 1,.at 1,.at 1,.at 1,.at 1,.at 1],none,none,none,none⟩] [0,1,2,8,88,92,93] (λ_=>by kernel_rfl) ⟨rfl,rfl,rfl,rfl,rfl,rfl,rfl,rfl,rfl,rfl,rfl,trivial⟩ rfl rfl ?_
 refine aX.cut (ι:=Nat) (fr':=λ(b11:Nat)=>[(0,.pointer (some ⟨aF,0,none⟩)),(1,.pointer (some ⟨(au A),ar A+k*10,none⟩)),(2,.string p),(8,.bool (decide ((((s.out.length:Nat):Int):Int)=(0:Int)))),(88,.pointer (some ⟨aF,0,none⟩)),(92,.slice Ao (s.out.length) (co)),(94,.slice (some ⟨b11,0,none⟩) (1) (1))]) (hp':=λ(b11:Nat)=>[.blk aF [.map (some mb),.slice Ao (s.out.length) (co),.map (some mp),.int .i64 ↑(s.sum+((p:ByteArray).size))] 84,.abs (aE Try.prog 3 mb (mf (bf A ns ns.length)) ns.length),.abs (aE Try.prog 3 mp (mf (aY ns (push ns k p s).fst)) ((push ns k p s).cnt)),.abs (av 51 10 Ao s.out.length co (aI M s.out)),.abs R,.blk b10 (cg (nd ns k) p none (0) 0 (⟨#[]⟩) (s.fst k)) 51,.blk b11 (cg (nd ns k) p none (0) 0 (⟨#[]⟩) (s.fst k)) 51]) [0,5] rfl rfl ?_ rfl (λ_=>by kernel_rfl) ?_
 ·refine af.bD (k':=1) (fr':=λb11=>[(0,.pointer (some ⟨aF,0,none⟩)),(1,.pointer (some ⟨(au A),ar A+k*10,none⟩)),(2,.string p),(8,.bool (decide ((((s.out.length:Nat):Int):Int)=(0:Int)))),(88,.pointer (some ⟨aF,0,none⟩)),(92,.slice Ao (s.out.length) (co)),(94,.slice (some ⟨b11,0,none⟩) (1) (1))]) (aL:=λb11=>[.blk aF [.map (some mb),.slice Ao (s.out.length) (co),.map (some mp),.int .i64 ↑(s.sum+((p:ByteArray).size))] 84,.abs (aE Try.prog 3 mb (mf (bf A ns ns.length)) ns.length),.abs (aE Try.prog 3 mp (mf (aY ns (push ns k p s).fst)) ((push ns k p s).cnt)),.abs (av 51 10 Ao s.out.length co (aI M s.out)),.abs R,.blk b10 (cg (nd ns k) p none (0) 0 (⟨#[]⟩) (s.fst k)) 51,.blk b11 (cg (nd ns k) p none (0) 0 (⟨#[]⟩) (s.fst k)) 51]) (ak:=λb11=>[]) [o_] [0,1,2,8,88,92,94] [0,1,2,3,4,5,6] (λ_ _=>by kernel_rfl) (λb11=>trivial) (λb11=>?_)
  refine af.nil (by kernel_rfl) ?_
  exact ah.mid b11 (idx:=[0,1,2,8,88,92,94]) (pk:=[0,1,2,3,4,5,6]) (λ_=>by kernel_rfl) rfl (by kernel_rfl)
 rintro b11
 refine aX.cut (ι:=(Option Addr)×Nat) (fr':=λ((bq,br):(Option Addr)×Nat)=>[(0,.pointer (some ⟨aF,0,none⟩)),(1,.pointer (some ⟨(au A),ar A+k*10,none⟩)),(2,.string p),(8,.bool (decide ((((s.out.length:Nat):Int):Int)=(0:Int)))),(88,.pointer (some ⟨aF,0,none⟩)),(95,.slice bq ((push ns k p s).out.length) (br))]) (hp':=λ((bq,br):(Option Addr)×Nat)=>[.blk aF [.map (some mb),.slice Ao (s.out.length) (co),.map (some mp),.int .i64 ↑(s.sum+((p:ByteArray).size))] 84,.abs (aE Try.prog 3 mb (mf (bf A ns ns.length)) ns.length),.abs (aE Try.prog 3 mp (mf (aY ns (push ns k p s).fst)) ((push ns k p s).cnt)),.abs (av 51 10 bq ((push ns k p s).out.length) br (aI (M.put s.out.length none 0) (push ns k p s).out)),.abs R,.blk b10 (cg (nd ns k) p none (0) 0 (⟨#[]⟩) (s.fst k)) 51,.blk b11 (cg (nd ns k) p none (0) 0 (⟨#[]⟩) (s.fst k)) 51]) [0,5] rfl rfl ?_ rfl (λ_=>by kernel_rfl) ?_
 ·refine af.append 3 (d:=(some 95)) (t:=46) (e:=51) (z:=.agg #[.string ⟨#[]⟩,.int .i64 0,.int .i64 0,.int .i64 0,.int .i64 0,.int .i64 0,.int .i64 0,.slice none (0) (0),.string ⟨#[]⟩,.string ⟨#[]⟩]) (size:=10) (bytes:=120) (n:=s.out.length) (cap:=co) (A:=Ao) (xs:=(aI M s.out)) (s:=(.tmp 92)) (x:=(.tmp 94)) (ats:=#[46,46]) (A':=some ⟨b11,0,none⟩) (m:=1) (c':=1) (news:=(cg (nd ns k) p none (0) 0 (⟨#[]⟩) (s.fst k))) (λ_=>by kernel_rfl) rfl (by kernel_rfl) (λ_=>by kernel_rfl) (λ_=>by kernel_rfl) Try.underlying46 (by kernel_rfl) rfl (by decide) (rfl) (by simp [cg,Value.oneCell']) (dS (j:=6) rfl) (by unfold maxLen;omega) (by omega) (λbq br=>?_)
  refine af.aZ 3 (p:=.abs (av 51 10 bq (s.out.length+1) br ((aI M s.out)++(cg (nd ns k) p none (0) 0 (⟨#[]⟩) (s.fst k))))) (p':=.abs (av 51 10 bq ((push ns k p s).out.length) br (aI (M.put s.out.length none 0) (push ns k p s).out))) (by kernel_rfl) (by rw [dr,dH,←ia,iY _ _ fK];rfl) ?_
  refine af.slot 95 (.slice bq (s.out.length+1) (br)) (.slice bq ((push ns k p s).out.length) (br)) (λ_=>by kernel_rfl) (by rw [dr]) ?_
  refine af.nil (by kernel_rfl) ?_
  exact ah.mid (bq,br) (idx:=[0,1,2,8,88,95]) (pk:=[0,1,2,3,4,5,6]) (λ_=>by kernel_rfl) rfl (by kernel_rfl)
 rintro⟨bq,br⟩
 refine aX.cut (ι:=Unit) (fr':=λ(_:Unit)=>[(0,.pointer (some ⟨aF,0,none⟩)),(1,.pointer (some ⟨(au A),ar A+k*10,none⟩)),(2,.string p),(8,.bool (decide ((((s.out.length:Nat):Int):Int)=(0:Int)))),(95,.slice bq ((push ns k p s).out.length) (br)),(96,.pointer (some ⟨aF,0,none⟩))]) (hp':=λ(_:Unit)=>[.blk aF [.map (some mb),.slice Ao (s.out.length) (co),.map (some mp),.int .i64 ↑(s.sum+((p:ByteArray).size))] 84,.abs (aE Try.prog 3 mb (mf (bf A ns ns.length)) ns.length),.abs (aE Try.prog 3 mp (mf (aY ns (push ns k p s).fst)) ((push ns k p s).cnt)),.abs (av 51 10 bq ((push ns k p s).out.length) br (aI (M.put s.out.length none 0) (push ns k p s).out)),.abs R,.blk b10 (cg (nd ns k) p none (0) 0 (⟨#[]⟩) (s.fst k)) 51,.blk b11 (cg (nd ns k) p none (0) 0 (⟨#[]⟩) (s.fst k)) 51]) [0,5] rfl rfl ?_ rfl (λ_=>by kernel_rfl) ?_
 ·refine af.aq (k':=1) (fr':=[(0,.pointer (some ⟨aF,0,none⟩)),(1,.pointer (some ⟨(au A),ar A+k*10,none⟩)),(2,.string p),(8,.bool (decide ((((s.out.length:Nat):Int):Int)=(0:Int)))),(95,.slice bq ((push ns k p s).out.length) (br)),(96,.pointer (some ⟨aF,0,none⟩))]) (ak:=[]) [o_] [0,1,2,8,95,96] (λ_ _=>by kernel_rfl) trivial ?_
  refine af.nil (by kernel_rfl) ?_
  exact ah.mid () (idx:=[0,1,2,8,95,96]) (pk:=[0,1,2,3,4,5,6]) (λ_=>by kernel_rfl) rfl (by kernel_rfl)
 rintro _
 refine aX.cut (ι:=Unit) (fr':=λ(_:Unit)=>[(0,.pointer (some ⟨aF,0,none⟩)),(1,.pointer (some ⟨(au A),ar A+k*10,none⟩)),(2,.string p),(8,.bool (decide ((((s.out.length:Nat):Int):Int)=(0:Int)))),(95,.slice bq ((push ns k p s).out.length) (br)),(97,.pointer (some ⟨aF,1,none⟩))]) (hp':=λ(_:Unit)=>[.blk aF [.map (some mb),.slice Ao (s.out.length) (co),.map (some mp),.int .i64 ↑(s.sum+((p:ByteArray).size))] 84,.abs (aE Try.prog 3 mb (mf (bf A ns ns.length)) ns.length),.abs (aE Try.prog 3 mp (mf (aY ns (push ns k p s).fst)) ((push ns k p s).cnt)),.abs (av 51 10 bq ((push ns k p s).out.length) br (aI (M.put s.out.length none 0) (push ns k p s).out)),.abs R,.blk b10 (cg (nd ns k) p none (0) 0 (⟨#[]⟩) (s.fst k)) 51,.blk b11 (cg (nd ns k) p none (0) 0 (⟨#[]⟩) (s.fst k)) 51]) [0,5] rfl rfl ?_ rfl (λ_=>by kernel_rfl) ?_
 ·refine af.aq (k':=1) (fr':=[(0,.pointer (some ⟨aF,0,none⟩)),(1,.pointer (some ⟨(au A),ar A+k*10,none⟩)),(2,.string p),(8,.bool (decide ((((s.out.length:Nat):Int):Int)=(0:Int)))),(95,.slice bq ((push ns k p s).out.length) (br)),(97,.pointer (some ⟨aF,1,none⟩))]) (ak:=[]) [o_] [0,1,2,8,95,97] (λ_ _=>by kernel_rfl) trivial ?_
  refine af.nil (by kernel_rfl) ?_
  exact ah.mid () (idx:=[0,1,2,8,95,97]) (pk:=[0,1,2,3,4,5,6]) (λ_=>by kernel_rfl) rfl (by kernel_rfl)
 rintro _
 refine aX.last rfl rfl ?_
 refine af.seg (k':=1) (fr':=[(0,.pointer (some ⟨aF,0,none⟩)),(1,.pointer (some ⟨(au A),ar A+k*10,none⟩)),(2,.string p),(8,.bool (decide ((((s.out.length:Nat):Int):Int)=(0:Int))))]) (aL:=[.blk aF [.map (some mb),.slice bq ((push ns k p s).out.length) (br),.map (some mp),.int .i64 ↑(s.sum+((p:ByteArray).size))] 84,.abs (aE Try.prog 3 mb (mf (bf A ns ns.length)) ns.length),.abs (aE Try.prog 3 mp (mf (aY ns (push ns k p s).fst)) ((push ns k p s).cnt)),.abs (av 51 10 bq ((push ns k p s).out.length) br (aI (M.put s.out.length none 0) (push ns k p s).out)),.abs R,.blk b10 (cg (nd ns k) p none (0) 0 (⟨#[]⟩) (s.fst k)) 51,.blk b11 (cg (nd ns k) p none (0) 0 (⟨#[]⟩) (s.fst k)) 51]) (ak:=[aF=aF]) [⟨[.at 0],none,none,none,none⟩] [0,1,2,8] [0,1,2,3,4,5,6] (λ_ _=>by kernel_rfl) ⟨rfl,trivial⟩ ?_
 refine af.nil (by kernel_rfl) (ah.np (ah.next (ai.seq (ai.seq (ai.region ?_)))))
 refine af.aZ 0 (p:=.blk aF [.map (some mb),.slice bq ((push ns k p s).out.length) (br),.map (some mp),.int .i64 ↑(s.sum+((p:ByteArray).size))] 84) (p':=.blk aF [.map (some mb),.slice bq ((push ns k p s).out.length) (br),.map (some mp),.int .i64 ↑((push ns k p s).sum)] 84) (by kernel_rfl) (by rw [dc]) ?_
 refine af.aq (k':=6) (fr':=[(0,.pointer (some ⟨aF,0,none⟩)),(2,.string p),(8,.bool (decide ((((s.out.length:Nat):Int):Int)=(0:Int)))),(101,.slice (L.eA k) ((nd ns k).aj.length) ((L.eC k))),(102,.int .i64 ↑((nd ns k).aj.length)),(103,.int .i64 0)]) (ak:=[(Rd β ⟨(au A),ar A+k*10+9,none⟩ (.slice (L.eA k) ((nd ns k).aj.length) ((L.eC k))))]) [o_,o_,o_,⟨[.old (.slice (L.eA k) ((nd ns k).aj.length) ((L.eC k)))],none,none,none,none⟩,o_,o_] [0,2,8,101,102,103] (λ_ _=>by kernel_rfl) ⟨aA.rd hG (i:=k) (by omega) (j:=9) rfl,trivial⟩ ?_
 refine af.nil (by kernel_rfl) (ah.next (ai.block ?_))
 refine ai.oR (ι:=Nat×Bs×TS×(Option Addr)×Nat×cQ) (λ((j,b,s2,cV,cW,M2):Nat×Bs×TS×(Option Addr)×Nat×cQ)=>b) (λ((j,b,s2,cV,cW,M2):Nat×Bs×TS×(Option Addr)×Nat×cQ)=>(j<=(nd ns k).aj.length)/\(β.le b)/\(aA b A ns L)/\(bJ b s2.out M2)/\(eF dN b s2.out M2)/\(Behind (push ns k p s) s2)/\(bR (λe s'=>bP ns f (tgt ns e.id) (below s.out.length p e.name) s') (nd ns k).aj (push ns k p s)=bR (λe s'=>bP ns f (tgt ns e.id) (below s.out.length p e.name) s') ((nd ns k).aj.drop j) s2)) (λ((j,b,s2,cV,cW,M2):Nat×Bs×TS×(Option Addr)×Nat×cQ)=>(nd ns k).aj.length-j) (λ((j,b,s2,cV,cW,M2):Nat×Bs×TS×(Option Addr)×Nat×cQ)=>[(0,.pointer (some ⟨aF,0,none⟩)),(2,.string p),(8,.bool (decide ((((s.out.length:Nat):Int):Int)=(0:Int)))),(101,.slice (L.eA k) ((nd ns k).aj.length) ((L.eC k))),(102,.int .i64 ↑((nd ns k).aj.length)),(103,.int .i64 ↑j)]) (λ((j,b,s2,cV,cW,M2):Nat×Bs×TS×(Option Addr)×Nat×cQ)=>[.blk aF [.map (some mb),.slice cV (s2.out.length) (cW),.map (some mp),.int .i64 ↑s2.sum] 84,.abs (aE Try.prog 3 mb (mf (bf A ns ns.length)) ns.length),.abs (aE Try.prog 3 mp (mf (aY ns s2.fst)) s2.cnt),.abs (av 51 10 cV s2.out.length cW (aI M2 s2.out)),.abs R]) (0,β,(push ns k p s),bq,br,(M.put s.out.length none 0)) rfl (idx:=[0,2,8,101,102,103]) (pk:=[0,1,2,3,4]) (show (0<=(nd ns k).aj.length)/\(β.le β)/\(aA β A ns L)/\(bJ β ((push ns k p s)).out ((M.put s.out.length none 0)))/\(eF dN β ((push ns k p s)).out ((M.put s.out.length none 0)))/\(Behind (push ns k p s) ((push ns k p s)))/\(bR (λe s'=>bP ns f (tgt ns e.id) (below s.out.length p e.name) s') (nd ns k).aj (push ns k p s)=bR (λe s'=>bP ns f (tgt ns e.id) (below s.out.length p e.name) s') ((nd ns k).aj.drop 0) ((push ns k p s))) from ⟨Nat.zero_le _,hle0,hG,by rw [dH];exact bJ.snoc di (by rw [iY _ _ fK];exact cK.nil),by rw [dH];exact eF.snoc hJ hl0 hle0 (by rw [iY _ _ fK];exact jb.none),⟨hs.push hp (by omega),Nat.le_refl _,Nat.le_refl _⟩,rfl⟩) (λ_=>by kernel_rfl) rfl (by kernel_rfl) ?_
 rintro⟨j,b,s2,cV,cW,M2⟩ ⟨hj,hle0,hG,di,hJ,fH,fE⟩
 show ai _ b _ _ [(0,.pointer (some ⟨aF,0,none⟩)),(2,.string p),(8,.bool (decide ((((s.out.length:Nat):Int):Int)=(0:Int)))),(101,.slice (L.eA k) ((nd ns k).aj.length) ((L.eC k))),(102,.int .i64 ↑((nd ns k).aj.length)),(103,.int .i64 ↑j)] [.blk aF [.map (some mb),.slice cV (s2.out.length) (cW),.map (some mp),.int .i64 ↑s2.sum] 84,.abs (aE Try.prog 3 mb (mf (bf A ns ns.length)) ns.length),.abs (aE Try.prog 3 mp (mf (aY ns s2.fst)) s2.cnt),.abs (av 51 10 cV s2.out.length cW (aI M2 s2.out)),.abs R] _
 have hd3:=hB.hd k hk
 have hnl:=hok.named k hk
 refine ai.seq (ai.region (af.aq (k':=1) (fr':=[(0,.pointer (some ⟨aF,0,none⟩)),(2,.string p),(8,.bool (decide ((((s.out.length:Nat):Int):Int)=(0:Int)))),(101,.slice (L.eA k) ((nd ns k).aj.length) ((L.eC k))),(102,.int .i64 ↑((nd ns k).aj.length)),(103,.int .i64 ↑j),(104,.bool (decide ((((j:Nat):Int):Int)<((((nd ns k).aj.length:Nat):Int):Int))))]) (ak:=[]) [o_] [0,2,8,101,102,103,104] (λ_ _=>by kernel_rfl) trivial ?_))
 refine af.nil (by kernel_rfl) (ah.next (ai.seq ?_))
 refine ai.aV (p:=(((j:Nat):Int):Int)<((((nd ns k).aj.length:Nat):Int):Int)) (λ_=>by kernel_rfl) (λkU=>?_) (λkU=>?_)
 ·refine ai.skip (ah.next (ai.seq (ai.block (ai.seq (ai.region ?_)))))
  refine af.bD (k':=4) (fr':=λb14=>[(0,.pointer (some ⟨aF,0,none⟩)),(2,.string p),(8,.bool (decide ((((s.out.length:Nat):Int):Int)=(0:Int)))),(10,.pointer (some ⟨b14,0,none⟩)),(101,.slice (L.eA k) ((nd ns k).aj.length) ((L.eC k))),(102,.int .i64 ↑((nd ns k).aj.length)),(103,.int .i64 ↑j)]) (aL:=λb14=>[.blk aF [.map (some mb),.slice cV (s2.out.length) (cW),.map (some mp),.int .i64 ↑s2.sum] 84,.abs (aE Try.prog 3 mb (mf (bf A ns ns.length)) ns.length),.abs (aE Try.prog 3 mp (mf (aY ns s2.fst)) s2.cnt),.abs (av 51 10 cV s2.out.length cW (aI M2 s2.out)),.abs R,.blk b14 [.string (en (nd ns k).aj j).name,.int .i64 ((en (nd ns k).aj j).id)] 72]) (ak:=λb14=>[b14=b14,b14=b14,(Rd b ⟨(au (L.eA k)),ar (L.eA k)+j*2+1,none⟩ (.int .i64 ((en (nd ns k).aj j).id))),(Rd b ⟨(au (L.eA k)),ar (L.eA k)+j*2,none⟩ (.string (en (nd ns k).aj j).name)),((j:Nat):Int)=((j:Nat):Int),j<(nd ns k).aj.length,(⟨(au (L.eA k)),ar (L.eA k),none⟩:Addr).spot=none,((L.eA k):Option Addr)=some ⟨(au (L.eA k)),ar (L.eA k),none⟩]) [⟨[],some j,none,some ⟨(au (L.eA k)),ar (L.eA k),none⟩,none⟩,⟨[.old (.string (en (nd ns k).aj j).name),.old (.int .i64 ((en (nd ns k).aj j).id))],none,none,none,none⟩,o_,⟨[.at 5,.at 5],none,none,none,none⟩] [0,2,8,10,101,102,103] [0,1,2,3,4,5] (λ_ _=>by kernel_rfl) (λb14=>⟨rfl,rfl,bh.rd (hG.aj k (by omega)) (i:=j) (by omega) (j:=1) rfl,bh.rd (hG.aj k (by omega)) (i:=j) (by omega) (j:=0) rfl,rfl,by omega,rfl,bh.hd (hG.aj k (by omega)) (i:=j) (by omega),trivial⟩) (λb14=>?_)
  refine af.nil (by kernel_rfl) (ah.next (ai.seq (ai.region ?_)))
  refine af.aq (k':=3) (fr':=[(0,.pointer (some ⟨aF,0,none⟩)),(2,.string p),(8,.bool (decide ((((s.out.length:Nat):Int):Int)=(0:Int)))),(10,.pointer (some ⟨b14,0,none⟩)),(11,.string (en (nd ns k).aj j).name),(101,.slice (L.eA k) ((nd ns k).aj.length) ((L.eC k))),(102,.int .i64 ↑((nd ns k).aj.length)),(103,.int .i64 ↑j)]) (ak:=[b14=b14]) [o_,⟨[.at 5],none,none,none,none⟩,o_] [0,2,8,10,11,101,102,103] (λ_ _=>by kernel_rfl) ⟨rfl,trivial⟩ ?_
  refine af.nil (by kernel_rfl) (ah.next (ai.seq (ai.seq (ai.region ?_))))
  refine af.aq (k':=2) (fr':=[(0,.pointer (some ⟨aF,0,none⟩)),(2,.string p),(8,.bool (decide ((((s.out.length:Nat):Int):Int)=(0:Int)))),(10,.pointer (some ⟨b14,0,none⟩)),(11,.string (en (nd ns k).aj j).name),(101,.slice (L.eA k) ((nd ns k).aj.length) ((L.eC k))),(102,.int .i64 ↑((nd ns k).aj.length)),(103,.int .i64 ↑j),(110,.bool (!(decide ((((s.out.length:Nat):Int):Int)=(0:Int)))))]) (ak:=[]) [o_,o_] [0,2,8,10,11,101,102,103,110] (λ_ _=>by kernel_rfl) trivial ?_
  refine af.nil (by kernel_rfl) (ah.next ?_)
  refine ai.cY (p:=(((s.out.length:Nat):Int):Int)=(0:Int)) (λ_=>by kernel_rfl) (λqj=>?_) (λqj=>?_)
  ·have cI:below s.out.length p (en (nd ns k).aj j).name=p++⟨#[47]⟩++(en (nd ns k).aj j).name:=if_neg (by omega)
   refine ai.region (af.aq (k':=1) (fr':=[(0,.pointer (some ⟨aF,0,none⟩)),(2,.string p),(8,.bool (decide ((((s.out.length:Nat):Int):Int)=(0:Int)))),(10,.pointer (some ⟨b14,0,none⟩)),(101,.slice (L.eA k) ((nd ns k).aj.length) ((L.eC k))),(102,.int .i64 ↑((nd ns k).aj.length)),(103,.int .i64 ↑j),(111,.string p)]) (ak:=[]) [o_] [0,2,8,10,101,102,103,111] (λ_ _=>by kernel_rfl) trivial ?_)
   refine af.fU (d:=(some 112)) (t:=9) (t2:=9) (x:=(.tmp 111)) (y:=(.const (.string ⟨#[47]⟩))) (a:=p) (b:=⟨#[47]⟩) (λ_=>by kernel_rfl) (λ_=>by kernel_rfl) (λ_=>by kernel_rfl) (by have jD:(⟨#[47]⟩:ByteArray).size=1:=rfl;omega) ?_
   refine af.aq (k':=4) (fr':=[(0,.pointer (some ⟨aF,0,none⟩)),(2,.string p),(8,.bool (decide ((((s.out.length:Nat):Int):Int)=(0:Int)))),(10,.pointer (some ⟨b14,0,none⟩)),(101,.slice (L.eA k) ((nd ns k).aj.length) ((L.eC k))),(102,.int .i64 ↑((nd ns k).aj.length)),(103,.int .i64 ↑j),(112,.string (p++⟨#[47]⟩)),(114,.string (en (nd ns k).aj j).name)]) (ak:=[b14=b14]) [o_,⟨[.at 5],none,none,none,none⟩] [0,2,8,10,101,102,103,112,114] (λ_ _=>by kernel_rfl) ⟨rfl,trivial⟩ ?_
   refine af.fU (d:=(some 115)) (t:=9) (t2:=9) (x:=(.tmp 112)) (y:=(.tmp 114)) (a:=(p++⟨#[47]⟩)) (b:=(en (nd ns k).aj j).name) (λ_=>by kernel_rfl) (λ_=>by kernel_rfl) (λ_=>by kernel_rfl) (by have jD:(⟨#[47]⟩:ByteArray).size=1:=rfl;have hnz:(en (nd ns k).aj j).name.size<=255:=(hnl j (by omega)).2.1;rw [ByteArray.size_append];omega) ?_
   refine af.aq (k':=6) (fr':=[(0,.pointer (some ⟨aF,0,none⟩)),(2,.string p),(8,.bool (decide ((((s.out.length:Nat):Int):Int)=(0:Int)))),(10,.pointer (some ⟨b14,0,none⟩)),(11,.string ((p++⟨#[47]⟩)++(en (nd ns k).aj j).name)),(101,.slice (L.eA k) ((nd ns k).aj.length) ((L.eC k))),(102,.int .i64 ↑((nd ns k).aj.length)),(103,.int .i64 ↑j)]) (ak:=[]) [o_] [0,2,8,10,11,101,102,103] (λ_ _=>by kernel_rfl) trivial ?_
   refine af.nil (by kernel_rfl) (ah.next (ai.seq ?_))
   refine ai.eY 9 (by kernel_rfl) (by kernel_rfl) ?_
   refine cu.seg (k':=7) (fr':=[(0,.pointer (some ⟨aF,0,none⟩)),(2,.string p),(8,.bool (decide ((((s.out.length:Nat):Int):Int)=(0:Int)))),(11,.string ((p++⟨#[47]⟩)++(en (nd ns k).aj j).name)),(101,.slice (L.eA k) ((nd ns k).aj.length) ((L.eC k))),(102,.int .i64 ↑((nd ns k).aj.length)),(103,.int .i64 ↑j),(116,.pointer (some ⟨aF,0,none⟩)),(120,.map (some mb)),(122,.int .i64 ((en (nd ns k).aj j).id))]) (ak:=[b14=b14,aF=aF]) [o_,o_,o_,o_,⟨[.at 0],none,none,none,none⟩,o_,⟨[.at 5],none,none,none,none⟩] [0,2,8,11,101,102,103,116,120,122] (λ_ _=>by kernel_rfl) ⟨rfl,rfl,trivial⟩ (by decide) ?_
   have hat:=(hok.aj k hk j (by omega)).at_
   have htl:=cH hat
   have hnm:=hok.named k hk j (by omega)
   refine cu.dO 1 (d:=(some 123)) (t:=66) (K:=3) (E:=75) (b:=mb) (cnt:=ns.length) (f:=(mf (bf A ns ns.length))) (x:=(.tmp 120)) (ix:=(.tmp 122)) (key:=.int .i64 ((en (nd ns k).aj j).id)) (z:=.pointer none) (kl:=(.int .i64 (en (nd ns k).aj j).id)) (r:=(some (.pointer (some ⟨(au A),ar A+(tgt ns (en (nd ns k).aj j).id)*10,none⟩)))) (λ_=>by kernel_rfl) (by kernel_rfl) (λ_=>by kernel_rfl) (λ_=>by kernel_rfl) fC Try.underlying66 (λ_=>by kernel_rfl) (fI (hB.hwf k hk j (by omega)).1 (hB.hwf k hk j (by omega)).2) (jE hat htl.1) (by decide) ?_
   refine cu.seg (k':=9) (fr':=[(0,.pointer (some ⟨aF,0,none⟩)),(2,.string p),(8,.bool (decide ((((s.out.length:Nat):Int):Int)=(0:Int)))),(101,.slice (L.eA k) ((nd ns k).aj.length) ((L.eC k))),(102,.int .i64 ↑((nd ns k).aj.length)),(103,.int .i64 ↑j),(116,.pointer (some ⟨aF,0,none⟩)),(123,.pointer (some ⟨(au A),ar A+(tgt ns (en (nd ns k).aj j).id)*10,none⟩)),(124,.string ((p++⟨#[47]⟩)++(en (nd ns k).aj j).name))]) (ak:=[]) [o_] [0,2,8,101,102,103,116,123,124] (λ_ _=>by kernel_rfl) trivial (by decide) ?_
   refine cu.done rfl ?_
   have kz:(tgt ns (en (nd ns k).aj j).id)<ns.length:=htl.1
   have hq1:1<=(((p++⟨#[47]⟩)++(en (nd ns k).aj j).name):ByteArray).size:=by rw [←cI];exact dw hnm.1
   have kV:(((p++⟨#[47]⟩)++(en (nd ns k).aj j).name):ByteArray).size<=8388608:=by rw [←cI];exact gV (by omega) hnm.2.1
   have kW:4194304-s2.sum<f:=by have:=fH.sum;rw [dc] at this;omega
   have rW:=IH dN _ A ns L M2 s2 (tgt ns (en (nd ns k).aj j).id) ((p++⟨#[47]⟩)++(en (nd ns k).aj j).name) aF mb mp cV cW (hl0.trans hle0) hJ hG hB hok di kz hq1 kV fH.ok kW
   refine af.fo (d:=(some 125)) (R:=[.abs R,.blk b14 [.string (en (nd ns k).aj j).name,.int .i64 ((en (nd ns k).aj j).id)] 72]) (pk:=[0,1,2,3,4,5]) (λ_=>by kernel_rfl) rW rfl (by kernel_rfl) ?_
   rintro mE _ _ fM (⟨s3,gM,gX,M3,hadd,rfl,gj,rfl,hJ3⟩|⟨hadd,rfl,rfl⟩)
   ·replace hG:=hG.le fM
    replace di:=di.le fM
    replace hle0:=hle0.trans fM
    refine af.aq (k':=11) (fr':=[(0,.pointer (some ⟨aF,0,none⟩)),(2,.string p),(8,.bool (decide ((((s.out.length:Nat):Int):Int)=(0:Int)))),(101,.slice (L.eA k) ((nd ns k).aj.length) ((L.eC k))),(102,.int .i64 ↑((nd ns k).aj.length)),(103,.int .i64 ↑j),(126,.bool false)]) (ak:=[]) [o_] [0,2,8,101,102,103,126] (λ_ _=>by kernel_rfl) trivial ?_
    refine af.nil (by kernel_rfl) (ah.next ?_)
    refine ai.cU (λ_=>by kernel_rfl) ?_
    refine ai.skip (ah.aJ (ah.next (ai.region ?_)))
    refine af.aq (k':=2) (fr':=[(0,.pointer (some ⟨aF,0,none⟩)),(2,.string p),(8,.bool (decide ((((s.out.length:Nat):Int):Int)=(0:Int)))),(101,.slice (L.eA k) ((nd ns k).aj.length) ((L.eC k))),(102,.int .i64 ↑((nd ns k).aj.length)),(103,.int .i64 ↑(j+1))]) (ak:=[(Value.int .i64 (IntKind.wrap .i64 (((j:Nat):Int)+1)))=(.int .i64 ↑(j+1))]) [⟨[],none,none,none,some (.int .i64 ↑(j+1))⟩,o_] [0,2,8,101,102,103] (λ_ _=>by kernel_rfl) ⟨aP (by omega) (by omega) (by omega),trivial⟩ ?_
    refine af.nil (by kernel_rfl) ?_
    exact ah.ju ((j+1),mE,s3,gM,gX,M3) (hb:=rfl) (idx:=[0,2,8,101,102,103]) (pk:=[0,1,2,3,4]) (show (((j+1))<=(nd ns k).aj.length)/\(β.le mE)/\(aA mE A ns L)/\(bJ mE s3.out M3)/\(eF dN mE s3.out M3)/\(Behind (push ns k p s) s3)/\(bR (λe s'=>bP ns f (tgt ns e.id) (below s.out.length p e.name) s') (nd ns k).aj (push ns k p s)=bR (λe s'=>bP ns f (tgt ns e.id) (below s.out.length p e.name) s') ((nd ns k).aj.drop ((j+1))) s3) from ⟨by omega,hle0,hG,gj,hJ3,Behind.trans fH (eZ hok.named f _ _ _ _ htl.1 (by rw [←cI];exact dw hnm.1) fH.ok hadd).1,by rw [fE,dx (by omega),cI,hadd];rfl⟩) (by show (nd ns k).aj.length-((j+1))<(nd ns k).aj.length-j;omega) (λ_=>by kernel_rfl) rfl (by kernel_rfl)
   replace hG:=hG.le fM
   replace di:=di.le fM
   replace hle0:=hle0.trans fM
   refine af.aq (k':=11) (fr':=[(0,.pointer (some ⟨aF,0,none⟩)),(2,.string p),(8,.bool (decide ((((s.out.length:Nat):Int):Int)=(0:Int)))),(101,.slice (L.eA k) ((nd ns k).aj.length) ((L.eC k))),(102,.int .i64 ↑((nd ns k).aj.length)),(103,.int .i64 ↑j),(126,.bool true)]) (ak:=[]) [o_] [0,2,8,101,102,103,126] (λ_ _=>by kernel_rfl) trivial ?_
   refine af.nil (by kernel_rfl) (ah.next ?_)
   refine ai.bL (λ_=>by kernel_rfl) ?_
   refine ai.seq (ai.region (af.aq (k':=1) (fr':=[(6,.bool false)]) (ak:=[]) [o_] [6] (λ_ _=>by kernel_rfl) trivial ?_))
   refine af.nil (by kernel_rfl) (ah.next (ai.ret (ah.aG (ah.ay (ah.ay (ah.aG (ah.ay ?_)))))))
   exact ah.eW (v:=.bool false) (l:=[]) (ak:=[]) [] [0] hle0 (λ_=>by kernel_rfl) trivial rfl (by kernel_rfl) (.inr ⟨by rw [hst,fE,dx (by omega),cI,hadd];rfl,rfl,rfl⟩)
  have cI:below s.out.length p (en (nd ns k).aj j).name=(en (nd ns k).aj j).name:=if_pos (by omega)
  refine ai.skip (ah.next (ai.seq ?_))
  refine ai.eY 9 (by kernel_rfl) (by kernel_rfl) ?_
  refine cu.seg (k':=7) (fr':=[(0,.pointer (some ⟨aF,0,none⟩)),(2,.string p),(8,.bool (decide ((((s.out.length:Nat):Int):Int)=(0:Int)))),(11,.string (en (nd ns k).aj j).name),(101,.slice (L.eA k) ((nd ns k).aj.length) ((L.eC k))),(102,.int .i64 ↑((nd ns k).aj.length)),(103,.int .i64 ↑j),(116,.pointer (some ⟨aF,0,none⟩)),(120,.map (some mb)),(122,.int .i64 ((en (nd ns k).aj j).id))]) (ak:=[b14=b14,aF=aF]) [o_,o_,o_,o_,⟨[.at 0],none,none,none,none⟩,o_,⟨[.at 5],none,none,none,none⟩] [0,2,8,11,101,102,103,116,120,122] (λ_ _=>by kernel_rfl) ⟨rfl,rfl,trivial⟩ (by decide) ?_
  have hat:=(hok.aj k hk j (by omega)).at_
  have htl:=cH hat
  have hnm:=hok.named k hk j (by omega)
  refine cu.dO 1 (d:=(some 123)) (t:=66) (K:=3) (E:=75) (b:=mb) (cnt:=ns.length) (f:=(mf (bf A ns ns.length))) (x:=(.tmp 120)) (ix:=(.tmp 122)) (key:=.int .i64 ((en (nd ns k).aj j).id)) (z:=.pointer none) (kl:=(.int .i64 (en (nd ns k).aj j).id)) (r:=(some (.pointer (some ⟨(au A),ar A+(tgt ns (en (nd ns k).aj j).id)*10,none⟩)))) (λ_=>by kernel_rfl) (by kernel_rfl) (λ_=>by kernel_rfl) (λ_=>by kernel_rfl) fC Try.underlying66 (λ_=>by kernel_rfl) (fI (hB.hwf k hk j (by omega)).1 (hB.hwf k hk j (by omega)).2) (jE hat htl.1) (by decide) ?_
  refine cu.seg (k':=9) (fr':=[(0,.pointer (some ⟨aF,0,none⟩)),(2,.string p),(8,.bool (decide ((((s.out.length:Nat):Int):Int)=(0:Int)))),(101,.slice (L.eA k) ((nd ns k).aj.length) ((L.eC k))),(102,.int .i64 ↑((nd ns k).aj.length)),(103,.int .i64 ↑j),(116,.pointer (some ⟨aF,0,none⟩)),(123,.pointer (some ⟨(au A),ar A+(tgt ns (en (nd ns k).aj j).id)*10,none⟩)),(124,.string (en (nd ns k).aj j).name)]) (ak:=[]) [o_] [0,2,8,101,102,103,116,123,124] (λ_ _=>by kernel_rfl) trivial (by decide) ?_
  refine cu.done rfl ?_
  have kz:(tgt ns (en (nd ns k).aj j).id)<ns.length:=htl.1
  have hq1:1<=((en (nd ns k).aj j).name:ByteArray).size:=by rw [←cI];exact dw hnm.1
  have kV:((en (nd ns k).aj j).name:ByteArray).size<=8388608:=by rw [←cI];exact gV (by omega) hnm.2.1
  have kW:4194304-s2.sum<f:=by have:=fH.sum;rw [dc] at this;omega
  have rX:=IH dN _ A ns L M2 s2 (tgt ns (en (nd ns k).aj j).id) (en (nd ns k).aj j).name aF mb mp cV cW (hl0.trans hle0) hJ hG hB hok di kz hq1 kV fH.ok kW
  refine af.fo (d:=(some 125)) (R:=[.abs R,.blk b14 [.string (en (nd ns k).aj j).name,.int .i64 ((en (nd ns k).aj j).id)] 72]) (pk:=[0,1,2,3,4,5]) (λ_=>by kernel_rfl) rX rfl (by kernel_rfl) ?_
  rintro kg _ _ eN (⟨s3,gM,gX,M3,hadd,rfl,gj,rfl,hJ3⟩|⟨hadd,rfl,rfl⟩)
  ·replace hG:=hG.le eN
   replace di:=di.le eN
   replace hle0:=hle0.trans eN
   refine af.aq (k':=11) (fr':=[(0,.pointer (some ⟨aF,0,none⟩)),(2,.string p),(8,.bool (decide ((((s.out.length:Nat):Int):Int)=(0:Int)))),(101,.slice (L.eA k) ((nd ns k).aj.length) ((L.eC k))),(102,.int .i64 ↑((nd ns k).aj.length)),(103,.int .i64 ↑j),(126,.bool false)]) (ak:=[]) [o_] [0,2,8,101,102,103,126] (λ_ _=>by kernel_rfl) trivial ?_
   refine af.nil (by kernel_rfl) (ah.next ?_)
   refine ai.cU (λ_=>by kernel_rfl) ?_
   refine ai.skip (ah.aJ (ah.next (ai.region ?_)))
   refine af.aq (k':=2) (fr':=[(0,.pointer (some ⟨aF,0,none⟩)),(2,.string p),(8,.bool (decide ((((s.out.length:Nat):Int):Int)=(0:Int)))),(101,.slice (L.eA k) ((nd ns k).aj.length) ((L.eC k))),(102,.int .i64 ↑((nd ns k).aj.length)),(103,.int .i64 ↑(j+1))]) (ak:=[(Value.int .i64 (IntKind.wrap .i64 (((j:Nat):Int)+1)))=(.int .i64 ↑(j+1))]) [⟨[],none,none,none,some (.int .i64 ↑(j+1))⟩,o_] [0,2,8,101,102,103] (λ_ _=>by kernel_rfl) ⟨aP (by omega) (by omega) (by omega),trivial⟩ ?_
   refine af.nil (by kernel_rfl) ?_
   exact ah.ju ((j+1),kg,s3,gM,gX,M3) (hb:=rfl) (idx:=[0,2,8,101,102,103]) (pk:=[0,1,2,3,4]) (show (((j+1))<=(nd ns k).aj.length)/\(β.le kg)/\(aA kg A ns L)/\(bJ kg s3.out M3)/\(eF dN kg s3.out M3)/\(Behind (push ns k p s) s3)/\(bR (λe s'=>bP ns f (tgt ns e.id) (below s.out.length p e.name) s') (nd ns k).aj (push ns k p s)=bR (λe s'=>bP ns f (tgt ns e.id) (below s.out.length p e.name) s') ((nd ns k).aj.drop ((j+1))) s3) from ⟨by omega,hle0,hG,gj,hJ3,Behind.trans fH (eZ hok.named f _ _ _ _ htl.1 (by rw [←cI];exact dw hnm.1) fH.ok hadd).1,by rw [fE,dx (by omega),cI,hadd];rfl⟩) (by show (nd ns k).aj.length-((j+1))<(nd ns k).aj.length-j;omega) (λ_=>by kernel_rfl) rfl (by kernel_rfl)
  replace hG:=hG.le eN
  replace di:=di.le eN
  replace hle0:=hle0.trans eN
  refine af.aq (k':=11) (fr':=[(0,.pointer (some ⟨aF,0,none⟩)),(2,.string p),(8,.bool (decide ((((s.out.length:Nat):Int):Int)=(0:Int)))),(101,.slice (L.eA k) ((nd ns k).aj.length) ((L.eC k))),(102,.int .i64 ↑((nd ns k).aj.length)),(103,.int .i64 ↑j),(126,.bool true)]) (ak:=[]) [o_] [0,2,8,101,102,103,126] (λ_ _=>by kernel_rfl) trivial ?_
  refine af.nil (by kernel_rfl) (ah.next ?_)
  refine ai.bL (λ_=>by kernel_rfl) ?_
  refine ai.seq (ai.region (af.aq (k':=1) (fr':=[(6,.bool false)]) (ak:=[]) [o_] [6] (λ_ _=>by kernel_rfl) trivial ?_))
  refine af.nil (by kernel_rfl) (ah.next (ai.ret (ah.aG (ah.ay (ah.ay (ah.aG (ah.ay ?_)))))))
  exact ah.eW (v:=.bool false) (l:=[]) (ak:=[]) [] [0] hle0 (λ_=>by kernel_rfl) trivial rfl (by kernel_rfl) (.inr ⟨by rw [hst,fE,dx (by omega),cI,hadd];rfl,rfl,rfl⟩)
 refine ai.exit (ah.aH (ah.aH (ah.bg (ah.next (ai.seq (ai.region ?_))))))
 refine af.aq (k':=1) (fr':=[(6,.bool true)]) (ak:=[]) [o_] [6] (λ_ _=>by kernel_rfl) trivial ?_
 refine af.nil (by kernel_rfl) (ah.next (ai.ret ?_))
 exact ah.eW (v:=.bool true) (l:=[.blk aF [.map (some mb),.slice cV (s2.out.length) (cW),.map (some mp),.int .i64 ↑s2.sum] 84,.abs (aE Try.prog 3 mb (mf (bf A ns ns.length)) ns.length),.abs (aE Try.prog 3 mp (mf (aY ns s2.fst)) s2.cnt),.abs (av 51 10 cV s2.out.length cW (aI M2 s2.out))]) (ak:=[]) [] [0,1,2,3,4] hle0 (λ_=>by kernel_rfl) trivial rfl (by kernel_rfl) (.inl ⟨s2,cV,cW,M2,by rw [hst,fE,jg (by omega)],rfl,di,rfl,hJ⟩)
theorem xU (f:Nat):Az f:=by
 induction f with
 |zero=>intro dN β A ns L M s k p aF mb mp Ao co _ _ _ _ _ _ _ _ _ _ h;omega
 |succ f IH=>exact v7 f IH
theorem vI {β:Bs} (A:Option Addr) (c:Nat) (ns:List aD) (L:Lay) (hG:aA β A ns L) (hB:dM ns 1048576) (root:Int) (hz:fO root) :
 cO Try.prog β 26 #[.agg #[.slice A ns.length c],.int .i64 root] [] (λβ' v l=>∃B cap M',v=.tuple #[.slice B (aB ns root).1.length cap,.int .i64 (aB ns root).2]/\l=[]/\aM β' B (aB ns root).1 M'/\eF β β' (aB ns root).1 M'):=by
 refine cO.enter Try.func26 rfl Try.ntmps26 (Nat.le_of_ble_eq_true rfl) (λhle0 R=>?_)
 refine ai.seq (ai.region (af.bD (k':=3) (fr':=λb19=>[(1,.int .i64 (root)),(2,.pointer (some ⟨b19,0,none⟩))]) (aL:=λb19=>[.abs R,.blk b19 [.slice A (ns.length) (c)] 24]) (ak:=λb19=>[]) [o_,o_,o_] [1,2] [0,1] (λ_ _=>by kernel_rfl) (λb19=>trivial) (λb19=>?_)))
 refine af.nil (by kernel_rfl) (ah.next (ai.seq (ai.region ?_)))
 refine af.aq (k':=2) (fr':=[(11,.agg #[.slice A (ns.length) (c)]),(12,.int .i64 (root))]) (ak:=[b19=b19]) [⟨[.at 1],none,none,none,none⟩,o_] [11,12] (λ_ _=>by kernel_rfl) ⟨rfl,trivial⟩ ?_
 refine af.call (f:=42) (args:=#[.agg #[.slice A (ns.length) (c)],.int .i64 (root)]) (d:=(some 13)) (pre:=[]) (R:=[.abs R,.blk b19 [.slice A (ns.length) (c)] 24]) (pk:=[0,1]) (λ_=>by kernel_rfl) (qh A c ns L hG hB root hz) rfl (by kernel_rfl) ?_
 rintro _ _ (⟨mb,rfl,hbg,rfl⟩|⟨x,y,rfl,hbg,rfl⟩)
 ·obtain⟨hok,hat,hkd⟩:=fZ hbg
  have htl:=cH hat
  refine af.aq (k':=10) (fr':=[(6,.map (some mb)),(7,.pointer (some ⟨(au A),ar A+(tgt ns root)*10,none⟩)),(8,.int .i64 0)]) (ak:=[]) [o_,o_,o_,o_,o_,o_,o_] [6,7,8] (λ_ _=>by kernel_rfl) trivial ?_
  refine af.nil (by kernel_rfl) (ah.next (ai.seq (ai.seq (ai.region ?_))))
  refine af.aq (k':=2) (fr':=[(6,.map (some mb)),(7,.pointer (some ⟨(au A),ar A+(tgt ns root)*10,none⟩)),(8,.int .i64 0),(18,.bool false)]) (ak:=[]) [o_,o_] [6,7,8,18] (λ_ _=>by kernel_rfl) trivial ?_
  refine af.nil (by kernel_rfl) (ah.next ?_)
  refine ai.cU (λ_=>by kernel_rfl) ?_
  refine ai.skip (ah.next (ai.seq (ai.region ?_)))
  refine af.aq (k':=1) (fr':=[(7,.pointer (some ⟨(au A),ar A+(tgt ns root)*10,none⟩)),(20,.map (some mb))]) (ak:=[]) [o_] [7,20] (λ_ _=>by kernel_rfl) trivial ?_
  refine af.kI (d:=(some 21)) (t:=82) (λ_=>by kernel_rfl) Try.prog rfl 3 (λm20=>?_)
  refine af.bD (k':=5) (fr':=λcG=>[(7,.pointer (some ⟨(au A),ar A+(tgt ns root)*10,none⟩)),(9,.pointer (some ⟨cG,0,none⟩))]) (aL:=λcG=>[.abs (aE Try.prog 3 mb (mf (bf A ns ns.length)) ns.length),.abs R,.blk b19 [.slice A (ns.length) (c)] 24,.abs (aE Try.prog 3 m20 (λ_=>none) 0),.blk cG [.map (some mb),.slice none (0) (0),.map (some m20),.int .i64 0] 84]) (ak:=λcG=>[cG=cG,cG=cG,cG=cG,cG=cG]) [o_,o_,⟨[.at 4,.at 4,.at 4,.at 4],none,none,none,none⟩] [7,9] [0,1,2,3,4] (λ_ _=>by kernel_rfl) (λcG=>⟨rfl,rfl,rfl,rfl,trivial⟩) (λcG=>?_)
  refine af.nil (by kernel_rfl) (ah.next (ai.seq (ai.seq (ai.region ?_))))
  refine af.aq (k':=1) (fr':=[(9,.pointer (some ⟨cG,0,none⟩)),(23,.pointer (some ⟨(au A),ar A+(tgt ns root)*10,none⟩))]) (ak:=[]) [o_] [9,23] (λ_ _=>by kernel_rfl) trivial ?_
  refine af.aZ 3 (p:=.abs (aE Try.prog 3 m20 (λ_=>none) 0)) (p':=.abs (aE Try.prog 3 m20 (mf (aY ns fG.fst)) 0)) (by kernel_rfl) (by rw [qX]) ?_
  refine af.mem (λw hS=>hS.fQ (e:=51) (size:=10)) ?_
  have BO:=xU 4194305 _ _ A ns L ⟨λ_=>none,λ_=>0⟩ fG (tgt ns root) ⟨#[46]⟩ cG mb m20 none 0 hle0 eF.nil hG hB hok bJ.nil htl.1 (by decide) (by decide) oH (by decide)
  refine af.fo (d:=(some 24)) (R:=[.abs R,.blk b19 [.slice A (ns.length) (c)] 24]) (pk:=[4,0,3,5,1,2]) (λ_=>by kernel_rfl) BO rfl (by kernel_rfl) ?_
  rintro EZ _ _ nV (⟨s3,gM,gX,M3,hadd,rfl,gj,rfl,hJ3⟩|⟨hadd,rfl,rfl⟩)
  ·replace hG:=hG.le nV
   replace hle0:=hle0.trans nV
   refine af.aq (k':=3) (fr':=[(9,.pointer (some ⟨cG,0,none⟩)),(25,.bool false)]) (ak:=[]) [o_] [9,25] (λ_ _=>by kernel_rfl) trivial ?_
   refine af.nil (by kernel_rfl) (ah.next ?_)
   refine ai.cU (λ_=>by kernel_rfl) ?_
   refine ai.skip (ah.next (ai.seq (ai.region ?_)))
   refine af.gy (Φ:=λβ'=>cK β' gM (aI M3 s3.out)) 3 [0,1,2,4,5] (aL:=[.blk cG [.map (some mb),.slice gM (s3.out.length) (gX),.map (some m20),.int .i64 ↑s3.sum] 84,.abs (aE Try.prog 3 mb (mf (bf A ns ns.length)) ns.length),.abs (aE Try.prog 3 m20 (mf (aY ns s3.fst)) s3.cnt),.abs R,.blk b19 [.slice A (ns.length) (c)] 24]) rfl rfl (by kernel_rfl) (λF w h β' h1 h2=>cK.gh h h1 h2) (λE0 nW hR=>?_)
   replace hG:=hG.le nW
   replace gj:=gj.le nW
   replace hJ3:=hJ3.le nW
   replace hle0:=hle0.trans nW
   refine af.aq (k':=4) (fr':=[(4,.slice gM (s3.out.length) (gX)),(5,.int .i64 0)]) (ak:=[cG=cG]) [o_,⟨[.at 0],none,none,none,none⟩,o_,o_] [4,5] (λ_ _=>by kernel_rfl) ⟨rfl,trivial⟩ ?_
   refine af.nil (by kernel_rfl) (ah.next (ai.ret ?_))
   exact ah.eW (v:=.tuple #[.slice gM (s3.out.length) (gX),.int .i64 0]) (l:=[]) (ak:=[]) [] [3] hle0 (λ_=>by kernel_rfl) trivial rfl (by kernel_rfl) (⟨gM,gX,M3,by rw [fX hbg hadd],rfl,by rw [fX hbg hadd];exact⟨⟨hR,gj⟩,hJ3⟩⟩)
  replace hG:=hG.le nV
  replace hle0:=hle0.trans nV
  refine af.aq (k':=3) (fr':=[(9,.pointer (some ⟨cG,0,none⟩)),(25,.bool true)]) (ak:=[]) [o_] [9,25] (λ_ _=>by kernel_rfl) trivial ?_
  refine af.nil (by kernel_rfl) (ah.next ?_)
  refine ai.bL (λ_=>by kernel_rfl) ?_
  refine ai.seq (ai.region (af.aq (k':=2) (fr':=[(4,.slice none (0) (0)),(5,.int .i64 142)]) (ak:=[]) [o_,o_] [4,5] (λ_ _=>by kernel_rfl) trivial ?_))
  refine af.nil (by kernel_rfl) (ah.next (ai.ret (ah.ay ?_)))
  exact ah.eW (v:=.tuple #[.slice none (0) (0),.int .i64 142]) (l:=[]) (ak:=[]) [] [0] hle0 (λ_=>by kernel_rfl) trivial rfl (by kernel_rfl) (⟨none,0,⟨λ_=>none,λ_=>0⟩,by rw [gF hbg hadd];rfl,rfl,by rw [gF hbg hadd];exact⟨⟨cK.nil,bJ.nil⟩,eF.nil⟩⟩)
 refine af.aq (k':=10) (fr':=[(6,x),(7,y),(8,.int .i64 ((bK ns root)))]) (ak:=[]) [o_,o_,o_,o_,o_,o_,o_] [6,7,8] (λ_ _=>by kernel_rfl) trivial ?_
 refine af.nil (by kernel_rfl) (ah.next (ai.seq (ai.seq (ai.region ?_))))
 refine af.aq (k':=2) (fr':=[(6,x),(7,y),(8,.int .i64 ((bK ns root))),(18,.bool (!(decide (((bK ns root):Int)=(0:Int)))))]) (ak:=[]) [o_,o_] [6,7,8,18] (λ_ _=>by kernel_rfl) trivial ?_
 refine af.nil (by kernel_rfl) (ah.next ?_)
 refine ai.cY (p:=((bK ns root):Int)=(0:Int)) (λ_=>by kernel_rfl) (λlD=>?_) (λlD=>?_)
 ·refine ai.seq (ai.region (af.aq (k':=3) (fr':=[(4,.slice none (0) (0)),(5,.int .i64 ((bK ns root)))]) (ak:=[]) [o_,o_,o_] [4,5] (λ_ _=>by kernel_rfl) trivial ?_))
  refine af.nil (by kernel_rfl) (ah.next (ai.ret (ah.ay ?_)))
  exact ah.eW (v:=.tuple #[.slice none (0) (0),.int .i64 ((bK ns root))]) (l:=[]) (ak:=[]) [] [0] hle0 (λ_=>by kernel_rfl) trivial rfl (by kernel_rfl) (⟨none,0,⟨λ_=>none,λ_=>0⟩,by rw [gQ hbg];rfl,rfl,by rw [gQ hbg];exact⟨⟨cK.nil,bJ.nil⟩,eF.nil⟩⟩)
 exact absurd lD hbg
end
section
open Go.RowKit
attribute [local irreducible] af aN ai ah
theorem AA {β:Bs} (f:Nat->Hd) (m:Nat) (A:Option Addr) (c:Nat) (hm:m<=24) (hn:∀i,i<m->(f i).n<=1048576) :
 Spec Try.prog β 33 #[.slice A m c] [.abs (av 29 1 A m c (ct f m)),.abs (aC (λi=>vg (f i)) m)] (λv l=>v=.bool true/\l=[]):=by
 refine Spec.enter Try.func33 rfl Try.ntmps33 (Nat.le_of_ble_eq_true rfl) (λR=>?_)
 refine ai.seq (ai.region (af.aq (k':=1) (fr':=[(0,.slice A (m) (c))]) (ak:=[]) [o_] [0] (λ_ _=>by kernel_rfl) trivial ?_))
 refine af.nil (by kernel_rfl) (ah.next (ai.seq (ai.seq (ai.region ?_))))
 refine af.kJ 1 (iI f 0 0) rfl Dn ?_
 refine af.aq (k':=1) (fr':=[(0,.slice A (m) (c)),(3,.int .i64 0)]) (ak:=[]) [o_] [0,3] (λ_ _=>by kernel_rfl) trivial ?_
 refine af.nil (by kernel_rfl) (ah.next (ai.block ?_))
 refine ai.loop (ι:=Nat) (λ(i:Nat)=>(i<=m)) (λ(i:Nat)=>m-i) (λ(i:Nat)=>[(0,.slice A (m) (c)),(3,.int .i64 ↑i)]) (λ(i:Nat)=>[.abs (av 29 1 A m c (ct f m)),.abs (aC (iI f i 0) m),.abs R]) 0 (idx:=[0,3]) (pk:=[0,1,2]) (show (0<=m) from Nat.zero_le _) (λ_=>by kernel_rfl) rfl (by kernel_rfl) ?_
 rintro i hi
 show ai _ _ _ _ [(0,.slice A (m) (c)),(3,.int .i64 ↑i)] [.abs (av 29 1 A m c (ct f m)),.abs (aC (iI f i 0) m),.abs R] _
 refine ai.seq (ai.seq (ai.region (af.aq (k':=4) (fr':=[(0,.slice A (m) (c)),(3,.int .i64 ↑i),(14,.bool (decide ((((i:Nat):Int):Int)<(((m:Nat):Int):Int))))]) (ak:=[]) [o_,o_,o_,o_] [0,3,14] (λ_ _=>by kernel_rfl) trivial ?_)))
 refine af.nil (by kernel_rfl) (ah.next ?_)
 refine ai.aV (p:=(((i:Nat):Int):Int)<(((m:Nat):Int):Int)) (λ_=>by kernel_rfl) (λkr=>?_) (λkr=>?_)
 ·refine ai.skip (ah.next (ai.seq (ai.block (ai.seq (ai.region ?_)))))
  have hin:i<m:=by omega
  have hnn:=hn i hin
  refine af.wR 0 rfl (by omega) (λpR=>?_)
  refine af.aq (k':=1) (fr':=[(0,.slice A (m) (c)),(3,.int .i64 ↑i),(4,.int .i64 0)]) (ak:=[]) [o_] [0,3,4] (λ_ _=>by kernel_rfl) trivial ?_
  refine af.nil (by kernel_rfl) (ah.next (ai.block ?_))
  refine ai.loop (ι:=Nat) (λ(j:Nat)=>(j<=(f i).n)) (λ(j:Nat)=>(f i).n-j) (λ(j:Nat)=>[(0,.slice A (m) (c)),(3,.int .i64 ↑i),(4,.int .i64 ↑j)]) (λ(j:Nat)=>[.abs (av 29 1 A m c (ct f m)),.abs (aC (iI f i j) m),.abs R]) 0 (idx:=[0,3,4]) (pk:=[0,1,2]) (show (0<=(f i).n) from Nat.zero_le _) (λ_=>by kernel_rfl) rfl (by kernel_rfl) ?_
  rintro j hj
  show ai _ _ _ _ [(0,.slice A (m) (c)),(3,.int .i64 ↑i),(4,.int .i64 ↑j)] [.abs (av 29 1 A m c (ct f m)),.abs (aC (iI f i j) m),.abs R] _
  refine ai.seq (ai.seq (ai.region (af.aq (k':=7) (fr':=[(0,.slice A (m) (c)),(3,.int .i64 ↑i),(4,.int .i64 ↑j),(23,.bool (decide ((((j:Nat):Int):Int)<((((f i).n:Nat):Int):Int))))]) (ak:=[(∀F w,(av 29 1 A m c (ct f m)).h F w->w.cell? ⟨(au A),ar A+i*1,none⟩=some (.slice (f i).A ((f i).n) ((f i).c))),((i:Nat):Int)=((i:Nat):Int),i<m,(⟨(au A),ar A,none⟩:Addr).spot=none,(A:Option Addr)=some ⟨(au A),ar A,none⟩]) [o_,o_,o_,⟨[],some i,none,some ⟨(au A),ar A,none⟩,none⟩,⟨[.view 0 (.slice (f i).A ((f i).n) ((f i).c))],none,none,none,none⟩,o_,o_] [0,3,4,23] (λ_ _=>by kernel_rfl) ⟨oM (by omega),rfl,by omega,rfl,pR,trivial⟩ ?_)))
  refine af.nil (by kernel_rfl) (ah.next ?_)
  refine ai.aV (p:=(((j:Nat):Int):Int)<((((f i).n:Nat):Int):Int)) (λ_=>by kernel_rfl) (λh23=>?_) (λh23=>?_)
  ·refine ai.skip (ah.next (ai.seq (ai.block (ai.region ?_))))
   refine af.AO 1 i rfl hin yV (by omega) (λC8=>?_)
   refine af.aq (k':=10) (fr':=[(0,.slice A (m) (c)),(3,.int .i64 ↑i),(4,.int .i64 ↑j),(34,.int .u8 ((((7*i)+1:Nat):Int))),(35,.pointer (some ⟨(au ((f i).A)),ar ((f i).A)+j*1,none⟩))]) (ak:=[((j:Nat):Int)=((j:Nat):Int),j<(f i).n,(⟨(au ((f i).A)),ar ((f i).A),none⟩:Addr).spot=none,((f i).A:Option Addr)=some ⟨(au ((f i).A)),ar ((f i).A),none⟩,(Value.int .u8 (IntKind.wrap .u8 (((7*i)+1:Nat):Int)))=(.int .u8 ((((7*i)+1:Nat):Int))),(Value.int .i64 (IntKind.wrap .i64 (((7*i:Nat):Int)+1)))=(.int .i64 ↑((7*i)+1)),(Value.int .i64 (IntKind.wrap .i64 (7*((i:Nat):Int))))=(.int .i64 ↑(7*i)),(∀F w,(av 29 1 A m c (ct f m)).h F w->w.cell? ⟨(au A),ar A+i*1,none⟩=some (.slice (f i).A ((f i).n) ((f i).c))),((i:Nat):Int)=((i:Nat):Int),i<m,(⟨(au A),ar A,none⟩:Addr).spot=none,(A:Option Addr)=some ⟨(au A),ar A,none⟩]) [o_,o_,⟨[],some i,none,some ⟨(au A),ar A,none⟩,none⟩,⟨[.view 0 (.slice (f i).A ((f i).n) ((f i).c))],none,none,none,none⟩,o_,o_,⟨[],none,none,none,some (.int .i64 ↑(7*i))⟩,⟨[],none,none,none,some (.int .i64 ↑((7*i)+1))⟩,⟨[],none,none,none,some (.int .u8 ((((7*i)+1:Nat):Int)))⟩,⟨[],some j,none,some ⟨(au ((f i).A)),ar ((f i).A),none⟩,none⟩] [0,3,4,34,35] (λ_ _=>by kernel_rfl) ⟨rfl,by omega,rfl,C8,zC (by omega) (by omega),aP (by omega) (by omega) (by omega),aP (by omega) (by omega) (by omega),oM (by omega),rfl,by omega,rfl,pR,trivial⟩ ?_
   refine af.DH (X':=Mk (j+1) i) 1 i j 5 (mkV i) rfl hin yV (by omega) (λxs hl h=>Mk.set h (by omega)) ?_
   refine af.aZ 1 (p:=.abs (aC (fL (iI f i j) i (fT 5 1 (f i).A (f i).n (f i).c (Mk (j+1) i))) m)) (p':=.abs (aC (iI f i (j+1)) m)) (by kernel_rfl) (by rw [Af]) ?_
   refine af.nil (by kernel_rfl) (ah.aJ (ah.next (ai.region ?_)))
   refine af.aq (k':=3) (fr':=[(0,.slice A (m) (c)),(3,.int .i64 ↑i),(4,.int .i64 ↑(j+1))]) (ak:=[(Value.int .i64 (IntKind.wrap .i64 (((j:Nat):Int)+1)))=(.int .i64 ↑(j+1))]) [o_,⟨[],none,none,none,some (.int .i64 ↑(j+1))⟩,o_] [0,3,4] (λ_ _=>by kernel_rfl) ⟨aP (by omega) (by omega) (by omega),trivial⟩ ?_
   refine af.nil (by kernel_rfl) ?_
   exact ah.turn ((j+1)) (idx:=[0,3,4]) (pk:=[0,1,2]) (show (((j+1))<=(f i).n) from (by omega)) (by show (f i).n-((j+1))<(f i).n-j;omega) (λ_=>by kernel_rfl) rfl (by kernel_rfl)
  refine ai.exit (ah.aH (ah.aH (ah.bg (ah.aJ (ah.next (ai.region ?_))))))
  have y4:j=(f i).n:=by omega
  refine af.aZ 1 (p:=.abs (aC (iI f i j) m)) (p':=.abs (aC (iI f (i+1) 0) m)) (by kernel_rfl) (by rw [y4,Ag]) ?_
  refine af.aq (k':=3) (fr':=[(0,.slice A (m) (c)),(3,.int .i64 ↑(i+1))]) (ak:=[(Value.int .i64 (IntKind.wrap .i64 (((i:Nat):Int)+1)))=(.int .i64 ↑(i+1))]) [o_,⟨[],none,none,none,some (.int .i64 ↑(i+1))⟩,o_] [0,3] (λ_ _=>by kernel_rfl) ⟨aP (by omega) (by omega) (by omega),trivial⟩ ?_
  refine af.nil (by kernel_rfl) ?_
  exact ah.turn ((i+1)) (idx:=[0,3]) (pk:=[0,1,2]) (show (((i+1))<=m) from (by omega)) (by show m-((i+1))<m-i;omega) (λ_=>by kernel_rfl) rfl (by kernel_rfl)
 refine ai.exit (ah.aH (ah.aH (ah.bg (ah.next (ai.seq (ai.seq (ai.region ?_)))))))
 have hie:i=m:=by omega
 refine af.aZ 1 (p:=.abs (aC (iI f i 0) m)) (p':=.abs (aC (iI f m 0) m)) (by kernel_rfl) (by rw [hie]) ?_
 refine af.kJ 1 (lf f) rfl Dp ?_
 refine af.aq (k':=1) (fr':=[(0,.slice A (m) (c)),(5,.int .i64 0)]) (ak:=[]) [o_] [0,5] (λ_ _=>by kernel_rfl) trivial ?_
 refine af.nil (by kernel_rfl) (ah.next (ai.block ?_))
 refine ai.loop (ι:=Nat) (λ(i:Nat)=>(i<=m)) (λ(i:Nat)=>m-i) (λ(i:Nat)=>[(0,.slice A (m) (c)),(5,.int .i64 ↑i)]) (λ(i:Nat)=>[.abs (av 29 1 A m c (ct f m)),.abs (aC (lf f) m),.abs R]) 0 (idx:=[0,5]) (pk:=[0,1,2]) (show (0<=m) from Nat.zero_le _) (λ_=>by kernel_rfl) rfl (by kernel_rfl) ?_
 rintro i hi
 show ai _ _ _ _ [(0,.slice A (m) (c)),(5,.int .i64 ↑i)] [.abs (av 29 1 A m c (ct f m)),.abs (aC (lf f) m),.abs R] _
 refine ai.seq (ai.seq (ai.region (af.aq (k':=4) (fr':=[(0,.slice A (m) (c)),(5,.int .i64 ↑i),(39,.bool (decide ((((i:Nat):Int):Int)<(((m:Nat):Int):Int))))]) (ak:=[]) [o_,o_,o_,o_] [0,5,39] (λ_ _=>by kernel_rfl) trivial ?_)))
 refine af.nil (by kernel_rfl) (ah.next ?_)
 refine ai.aV (p:=(((i:Nat):Int):Int)<(((m:Nat):Int):Int)) (λ_=>by kernel_rfl) (λjA=>?_) (λjA=>?_)
 ·refine ai.skip (ah.next (ai.seq (ai.block (ai.seq (ai.region ?_)))))
  have hin:i<m:=by omega
  have hnn:=hn i hin
  refine af.wR 0 rfl (by omega) (λpR=>?_)
  refine af.kJ 1 (jI f i (f i).A (f i).n (f i).c) rfl AZ ?_
  refine af.aq (k':=5) (fr':=[(0,.slice A (m) (c)),(5,.int .i64 ↑i),(6,.slice (f i).A ((f i).n) ((f i).c))]) (ak:=[(∀F w,(av 29 1 A m c (ct f m)).h F w->w.cell? ⟨(au A),ar A+i*1,none⟩=some (.slice (f i).A ((f i).n) ((f i).c))),((i:Nat):Int)=((i:Nat):Int),i<m,(⟨(au A),ar A,none⟩:Addr).spot=none,(A:Option Addr)=some ⟨(au A),ar A,none⟩]) [o_,o_,⟨[],some i,none,some ⟨(au A),ar A,none⟩,none⟩,⟨[.view 0 (.slice (f i).A ((f i).n) ((f i).c))],none,none,none,none⟩,o_] [0,5,6] (λ_ _=>by kernel_rfl) ⟨oM (by omega),rfl,by omega,rfl,pR,trivial⟩ ?_
  refine af.nil (by kernel_rfl) (ah.next (ai.seq (ai.seq (ai.region ?_))))
  refine af.aq (k':=1) (fr':=[(0,.slice A (m) (c)),(5,.int .i64 ↑i),(6,.slice (f i).A ((f i).n) ((f i).c)),(7,.int .i64 0)]) (ak:=[]) [o_] [0,5,6,7] (λ_ _=>by kernel_rfl) trivial ?_
  refine af.nil (by kernel_rfl) (ah.next (ai.block ?_))
  refine ai.loop (ι:=Nat×(Option Addr)×Nat) (λ((j,A1,c1):Nat×(Option Addr)×Nat)=>(j<=16)) (λ((j,A1,c1):Nat×(Option Addr)×Nat)=>16-j) (λ((j,A1,c1):Nat×(Option Addr)×Nat)=>[(0,.slice A (m) (c)),(5,.int .i64 ↑i),(6,.slice A1 ((f i).n+j) (c1)),(7,.int .i64 ↑j)]) (λ((j,A1,c1):Nat×(Option Addr)×Nat)=>[.abs (av 29 1 A m c (ct f m)),.abs (aC (jI f i A1 ((f i).n+j) c1) m),.abs R]) (0,(f i).A,(f i).c) (idx:=[0,5,6,7]) (pk:=[0,1,2]) (show (0<=16) from Nat.zero_le _) (λ_=>by kernel_rfl) rfl (by kernel_rfl) ?_
  rintro⟨j,A1,c1⟩ hj
  show ai _ _ _ _ [(0,.slice A (m) (c)),(5,.int .i64 ↑i),(6,.slice A1 ((f i).n+j) (c1)),(7,.int .i64 ↑j)] [.abs (av 29 1 A m c (ct f m)),.abs (aC (jI f i A1 ((f i).n+j) c1) m),.abs R] _
  refine ai.seq (ai.seq (ai.region (af.aq (k':=2) (fr':=[(0,.slice A (m) (c)),(5,.int .i64 ↑i),(6,.slice A1 ((f i).n+j) (c1)),(7,.int .i64 ↑j),(47,.bool (decide ((((j:Nat):Int):Int)<(16:Int))))]) (ak:=[]) [o_,o_] [0,5,6,7,47] (λ_ _=>by kernel_rfl) trivial ?_)))
  refine af.nil (by kernel_rfl) (ah.next ?_)
  refine ai.aV (p:=(((j:Nat):Int):Int)<(16:Int)) (λ_=>by kernel_rfl) (λjD=>?_) (λjD=>?_)
  ·refine ai.skip (ah.next (ai.seq (ai.block (ai.region ?_))))
   refine af.bD (k':=5) (fr':=λb1=>[(0,.slice A (m) (c)),(5,.int .i64 ↑i),(7,.int .i64 ↑j),(50,.slice A1 ((f i).n+j) (c1)),(54,.slice (some ⟨b1,0,none⟩) (1) (1))]) (aL:=λb1=>[.abs (av 29 1 A m c (ct f m)),.abs (aC (jI f i A1 ((f i).n+j) c1) m),.abs R,.blk b1 [.int .u8 (((128+i:Nat):Int))] 5]) (ak:=λb1=>[(Value.int .u8 (IntKind.wrap .u8 ((128+i:Nat):Int)))=(.int .u8 (((128+i:Nat):Int))),(Value.int .i64 (IntKind.wrap .i64 (128+((i:Nat):Int))))=(.int .i64 ↑(128+i))]) [o_,o_,⟨[],none,none,none,some (.int .i64 ↑(128+i))⟩,⟨[],none,none,none,some (.int .u8 (((128+i:Nat):Int)))⟩,o_] [0,5,7,50,54] [0,1,2,3] (λ_ _=>by kernel_rfl) (λb1=>⟨zC (by omega) (by omega),aP (by omega) (by omega) (by omega),trivial⟩) (λb1=>?_)
   refine af.Bq 1 i 29 1 1 ⟨b1,0,none⟩ [.int .u8 (((128+i:Nat):Int))] rfl hin yX (Br (j:=3) rfl) (by omega) (λB2 C3=>?_)
   refine af.aZ 1 (p:=.abs (aC (fL (jI f i A1 ((f i).n+j) c1) i (eM 5 (f i).A (f i).n (f i).c (Mk (f i).n i) B2 ((f i).n+j+1) C3)) m)) (p':=.abs (aC (jI f i B2 ((f i).n+j+1) C3) m)) (by kernel_rfl) (by rw [vk]) ?_
   refine af.aq (k':=7) (fr':=[(0,.slice A (m) (c)),(5,.int .i64 ↑i),(6,.slice B2 ((f i).n+j+1) (C3)),(7,.int .i64 ↑j)]) (ak:=[]) [o_] [0,5,6,7] (λ_ _=>by kernel_rfl) trivial ?_
   refine af.nil (by kernel_rfl) (ah.aJ (ah.next (ai.region ?_)))
   refine af.aq (k':=3) (fr':=[(0,.slice A (m) (c)),(5,.int .i64 ↑i),(6,.slice B2 ((f i).n+j+1) (C3)),(7,.int .i64 ↑(j+1))]) (ak:=[(Value.int .i64 (IntKind.wrap .i64 (((j:Nat):Int)+1)))=(.int .i64 ↑(j+1))]) [o_,⟨[],none,none,none,some (.int .i64 ↑(j+1))⟩,o_] [0,5,6,7] (λ_ _=>by kernel_rfl) ⟨aP (by omega) (by omega) (by omega),trivial⟩ ?_
   refine af.nil (by kernel_rfl) ?_
   exact ah.turn ((j+1),B2,C3) (idx:=[0,5,6,7]) (pk:=[0,1,2]) (show (((j+1))<=16) from (by omega)) (by show 16-((j+1))<16-j;omega) (λ_=>by kernel_rfl) rfl (by kernel_rfl)
  refine ai.exit (ah.aH (ah.aH (ah.bg (ah.next (ai.seq (ai.region ?_))))))
  refine af.kJ 1 (lf f) rfl A6 ?_
  refine af.kJ 1 (jI f i (f i).A (f i).n (f i).c) rfl AZ ?_
  refine af.aq (k':=5) (fr':=[(0,.slice A (m) (c)),(5,.int .i64 ↑i),(6,.slice A1 ((f i).n+j) (c1)),(8,.slice (f i).A ((f i).n) ((f i).c))]) (ak:=[(∀F w,(av 29 1 A m c (ct f m)).h F w->w.cell? ⟨(au A),ar A+i*1,none⟩=some (.slice (f i).A ((f i).n) ((f i).c))),((i:Nat):Int)=((i:Nat):Int),i<m,(⟨(au A),ar A,none⟩:Addr).spot=none,(A:Option Addr)=some ⟨(au A),ar A,none⟩]) [o_,o_,⟨[],some i,none,some ⟨(au A),ar A,none⟩,none⟩,⟨[.view 0 (.slice (f i).A ((f i).n) ((f i).c))],none,none,none,none⟩,o_] [0,5,6,8] (λ_ _=>by kernel_rfl) ⟨oM (by omega),rfl,by omega,rfl,pR,trivial⟩ ?_
  refine af.nil (by kernel_rfl) (ah.next (ai.seq (ai.region ?_)))
  refine af.aq (k':=1) (fr':=[(0,.slice A (m) (c)),(5,.int .i64 ↑i),(6,.slice A1 ((f i).n+j) (c1)),(60,.slice (f i).A ((f i).n) ((f i).c))]) (ak:=[]) [o_] [0,5,6,60] (λ_ _=>by kernel_rfl) trivial ?_
  refine af.Ch 1 i 29 3 600 rfl hin yX (by omega) (λB4 C5=>?_)
  refine af.aZ 1 (p:=.abs (aC (fL (jI f i (f i).A (f i).n (f i).c) i (eM 5 (f i).A (f i).n (f i).c (Mk (f i).n i) B4 ((f i).n+600) C5)) m)) (p':=.abs (aC (jI f i B4 ((f i).n+600) C5) m)) (by kernel_rfl) (by rw [vk]) ?_
  refine af.aq (k':=3) (fr':=[(0,.slice A (m) (c)),(5,.int .i64 ↑i),(6,.slice A1 ((f i).n+j) (c1)),(8,.slice B4 ((f i).n+600) (C5))]) (ak:=[]) [o_] [0,5,6,8] (λ_ _=>by kernel_rfl) trivial ?_
  refine af.nil (by kernel_rfl) (ah.next (ai.seq (ai.region ?_)))
  refine af.kJ 1 (lf f) rfl A6 ?_
  refine af.aq (k':=20) (fr':=[(0,.slice A (m) (c)),(5,.int .i64 ↑i),(81,.bool false)]) (ak:=[((.bool (!(decide (((((f i).n+j:Nat):Int):Int)=(((((f i).n)+16:Nat):Int):Int)))):Value))=(.bool false),(Value.int .i64 (IntKind.wrap .i64 ((((f i).n:Nat):Int)+16)))=(.int .i64 ↑(((f i).n)+16)),(∀F w,(av 29 1 A m c (ct f m)).h F w->w.cell? ⟨(au A),ar A+i*1,none⟩=some (.slice (f i).A ((f i).n) ((f i).c))),((i:Nat):Int)=((i:Nat):Int),i<m,(⟨(au A),ar A,none⟩:Addr).spot=none,(A:Option Addr)=some ⟨(au A),ar A,none⟩,((.bool (!(decide (((((f i).n+600:Nat):Int):Int)=(((((f i).n)+600:Nat):Int):Int)))):Value))=(.bool false),(Value.int .i64 (IntKind.wrap .i64 ((((f i).n:Nat):Int)+600)))=(.int .i64 ↑(((f i).n)+600)),(∀F w,(av 29 1 A m c (ct f m)).h F w->w.cell? ⟨(au A),ar A+i*1,none⟩=some (.slice (f i).A ((f i).n) ((f i).c))),((i:Nat):Int)=((i:Nat):Int),i<m,(⟨(au A),ar A,none⟩:Addr).spot=none,(A:Option Addr)=some ⟨(au A),ar A,none⟩]) [o_,o_,o_,o_,⟨[],some i,none,some ⟨(au A),ar A,none⟩,none⟩,⟨[.view 0 (.slice (f i).A ((f i).n) ((f i).c))],none,none,none,none⟩,o_,⟨[],none,none,none,some (.int .i64 ↑(((f i).n)+600))⟩,⟨[],none,none,none,some (.bool false)⟩,o_,o_,o_,o_,o_,⟨[],some i,none,some ⟨(au A),ar A,none⟩,none⟩,⟨[.view 0 (.slice (f i).A ((f i).n) ((f i).c))],none,none,none,none⟩,o_,⟨[],none,none,none,some (.int .i64 ↑(((f i).n)+16))⟩,⟨[],none,none,none,some (.bool false)⟩,o_] [0,5,81] (λ_ _=>by kernel_rfl) ⟨congrArg (λb=>Value.bool !b) (decide_eq_true (by omega)),aP (by omega) (by omega) (by omega),oM (by omega),rfl,by omega,rfl,pR,congrArg (λb=>Value.bool !b) (decide_eq_true (by omega)),aP (by omega) (by omega) (by omega),oM (by omega),rfl,by omega,rfl,pR,trivial⟩ ?_
  refine af.nil (by kernel_rfl) (ah.next ?_)
  refine ai.cU (λ_=>by kernel_rfl) ?_
  refine ai.skip (ah.aJ (ah.next (ai.region ?_)))
  refine af.aq (k':=3) (fr':=[(0,.slice A (m) (c)),(5,.int .i64 ↑(i+1))]) (ak:=[(Value.int .i64 (IntKind.wrap .i64 (((i:Nat):Int)+1)))=(.int .i64 ↑(i+1))]) [o_,⟨[],none,none,none,some (.int .i64 ↑(i+1))⟩,o_] [0,5] (λ_ _=>by kernel_rfl) ⟨aP (by omega) (by omega) (by omega),trivial⟩ ?_
  refine af.nil (by kernel_rfl) ?_
  exact ah.turn ((i+1)) (idx:=[0,5]) (pk:=[0,1,2]) (show (((i+1))<=m) from (by omega)) (by show m-((i+1))<m-i;omega) (λ_=>by kernel_rfl) rfl (by kernel_rfl)
 refine ai.exit (ah.aH (ah.aH (ah.bg (ah.next (ai.seq (ai.seq (ai.region ?_)))))))
 refine af.aq (k':=1) (fr':=[(0,.slice A (m) (c)),(9,.int .i64 0)]) (ak:=[]) [o_] [0,9] (λ_ _=>by kernel_rfl) trivial ?_
 refine af.nil (by kernel_rfl) (ah.next (ai.block ?_))
 refine ai.loop (ι:=Nat) (λ(i:Nat)=>(i<=m)) (λ(i:Nat)=>m-i) (λ(i:Nat)=>[(0,.slice A (m) (c)),(9,.int .i64 ↑i)]) (λ(i:Nat)=>[.abs (av 29 1 A m c (ct f m)),.abs (aC (lf f) m),.abs R]) 0 (idx:=[0,9]) (pk:=[0,1,2]) (show (0<=m) from Nat.zero_le _) (λ_=>by kernel_rfl) rfl (by kernel_rfl) ?_
 rintro i hi
 show ai _ _ _ _ [(0,.slice A (m) (c)),(9,.int .i64 ↑i)] [.abs (av 29 1 A m c (ct f m)),.abs (aC (lf f) m),.abs R] _
 refine ai.seq (ai.seq (ai.region (af.aq (k':=4) (fr':=[(0,.slice A (m) (c)),(9,.int .i64 ↑i),(85,.bool (decide ((((i:Nat):Int):Int)<(((m:Nat):Int):Int))))]) (ak:=[]) [o_,o_,o_,o_] [0,9,85] (λ_ _=>by kernel_rfl) trivial ?_)))
 refine af.nil (by kernel_rfl) (ah.next ?_)
 refine ai.aV (p:=(((i:Nat):Int):Int)<(((m:Nat):Int):Int)) (λ_=>by kernel_rfl) (λqT=>?_) (λqT=>?_)
 ·refine ai.skip (ah.next (ai.seq (ai.block (ai.seq (ai.region ?_)))))
  have hin:i<m:=by omega
  have hnn:=hn i hin
  refine af.wR 0 rfl (by omega) (λpR=>?_)
  refine af.aq (k':=1) (fr':=[(0,.slice A (m) (c)),(9,.int .i64 ↑i),(10,.int .i64 0)]) (ak:=[]) [o_] [0,9,10] (λ_ _=>by kernel_rfl) trivial ?_
  refine af.nil (by kernel_rfl) (ah.next (ai.block ?_))
  refine ai.loop (ι:=Nat) (λ(j:Nat)=>(j<=(f i).n)) (λ(j:Nat)=>(f i).n-j) (λ(j:Nat)=>[(0,.slice A (m) (c)),(9,.int .i64 ↑i),(10,.int .i64 ↑j)]) (λ(j:Nat)=>[.abs (av 29 1 A m c (ct f m)),.abs (aC (lf f) m),.abs R]) 0 (idx:=[0,9,10]) (pk:=[0,1,2]) (show (0<=(f i).n) from Nat.zero_le _) (λ_=>by kernel_rfl) rfl (by kernel_rfl) ?_
  rintro j hj
  show ai _ _ _ _ [(0,.slice A (m) (c)),(9,.int .i64 ↑i),(10,.int .i64 ↑j)] [.abs (av 29 1 A m c (ct f m)),.abs (aC (lf f) m),.abs R] _
  refine ai.seq (ai.seq (ai.region (af.aq (k':=7) (fr':=[(0,.slice A (m) (c)),(9,.int .i64 ↑i),(10,.int .i64 ↑j),(94,.bool (decide ((((j:Nat):Int):Int)<((((f i).n:Nat):Int):Int))))]) (ak:=[(∀F w,(av 29 1 A m c (ct f m)).h F w->w.cell? ⟨(au A),ar A+i*1,none⟩=some (.slice (f i).A ((f i).n) ((f i).c))),((i:Nat):Int)=((i:Nat):Int),i<m,(⟨(au A),ar A,none⟩:Addr).spot=none,(A:Option Addr)=some ⟨(au A),ar A,none⟩]) [o_,o_,o_,⟨[],some i,none,some ⟨(au A),ar A,none⟩,none⟩,⟨[.view 0 (.slice (f i).A ((f i).n) ((f i).c))],none,none,none,none⟩,o_,o_] [0,9,10,94] (λ_ _=>by kernel_rfl) ⟨oM (by omega),rfl,by omega,rfl,pR,trivial⟩ ?_)))
  refine af.nil (by kernel_rfl) (ah.next ?_)
  refine ai.aV (p:=(((j:Nat):Int):Int)<((((f i).n:Nat):Int):Int)) (λ_=>by kernel_rfl) (λED=>?_) (λED=>?_)
  ·refine ai.skip (ah.next (ai.seq (ai.block (ai.seq (ai.region ?_)))))
   refine af.AO 1 i rfl hin rfl (by omega) (λC8=>?_)
   refine af.aq (k':=12) (fr':=[(0,.slice A (m) (c)),(9,.int .i64 ↑i),(10,.int .i64 ↑j),(108,.bool false)]) (ak:=[((.bool (!(decide ((7*(i:Int)+1:Int)=((((7*i)+1:Nat):Int):Int)))):Value))=(.bool false),(Value.int .u8 (IntKind.wrap .u8 (((7*i)+1:Nat):Int)))=(.int .u8 ((((7*i)+1:Nat):Int))),(Value.int .i64 (IntKind.wrap .i64 (((7*i:Nat):Int)+1)))=(.int .i64 ↑((7*i)+1)),(Value.int .i64 (IntKind.wrap .i64 (7*((i:Nat):Int))))=(.int .i64 ↑(7*i)),(∀F w,(aC (lf f) m).h F w->w.cell? ⟨(au ((f i).A)),ar ((f i).A)+j*1,none⟩=some (.int .u8 (7*(i:Int)+1))),((j:Nat):Int)=((j:Nat):Int),j<(f i).n,(⟨(au ((f i).A)),ar ((f i).A),none⟩:Addr).spot=none,((f i).A:Option Addr)=some ⟨(au ((f i).A)),ar ((f i).A),none⟩,(∀F w,(av 29 1 A m c (ct f m)).h F w->w.cell? ⟨(au A),ar A+i*1,none⟩=some (.slice (f i).A ((f i).n) ((f i).c))),((i:Nat):Int)=((i:Nat):Int),i<m,(⟨(au A),ar A,none⟩:Addr).spot=none,(A:Option Addr)=some ⟨(au A),ar A,none⟩]) [o_,o_,⟨[],some i,none,some ⟨(au A),ar A,none⟩,none⟩,⟨[.view 0 (.slice (f i).A ((f i).n) ((f i).c))],none,none,none,none⟩,o_,⟨[],some j,none,some ⟨(au ((f i).A)),ar ((f i).A),none⟩,none⟩,⟨[.view 1 (.int .u8 (7*(i:Int)+1))],none,none,none,none⟩,o_,⟨[],none,none,none,some (.int .i64 ↑(7*i))⟩,⟨[],none,none,none,some (.int .i64 ↑((7*i)+1))⟩,⟨[],none,none,none,some (.int .u8 ((((7*i)+1:Nat):Int)))⟩,⟨[],none,none,none,some (.bool false)⟩] [0,9,10,108] (λ_ _=>by kernel_rfl) ⟨congrArg (λb=>Value.bool !b) (decide_eq_true (by omega)),zC (by omega) (by omega),aP (by omega) (by omega) (by omega),aP (by omega) (by omega) (by omega),DT hin (by omega),rfl,by omega,rfl,C8,oM (by omega),rfl,by omega,rfl,pR,trivial⟩ ?_
   refine af.nil (by kernel_rfl) (ah.next ?_)
   refine ai.cU (λ_=>by kernel_rfl) ?_
   refine ai.skip (ah.aJ (ah.next (ai.region ?_)))
   refine af.aq (k':=3) (fr':=[(0,.slice A (m) (c)),(9,.int .i64 ↑i),(10,.int .i64 ↑(j+1))]) (ak:=[(Value.int .i64 (IntKind.wrap .i64 (((j:Nat):Int)+1)))=(.int .i64 ↑(j+1))]) [o_,⟨[],none,none,none,some (.int .i64 ↑(j+1))⟩,o_] [0,9,10] (λ_ _=>by kernel_rfl) ⟨aP (by omega) (by omega) (by omega),trivial⟩ ?_
   refine af.nil (by kernel_rfl) ?_
   exact ah.turn ((j+1)) (idx:=[0,9,10]) (pk:=[0,1,2]) (show (((j+1))<=(f i).n) from (by omega)) (by show (f i).n-((j+1))<(f i).n-j;omega) (λ_=>by kernel_rfl) rfl (by kernel_rfl)
  refine ai.exit (ah.aH (ah.aH (ah.bg (ah.aJ (ah.next (ai.region ?_))))))
  refine af.aq (k':=3) (fr':=[(0,.slice A (m) (c)),(9,.int .i64 ↑(i+1))]) (ak:=[(Value.int .i64 (IntKind.wrap .i64 (((i:Nat):Int)+1)))=(.int .i64 ↑(i+1))]) [o_,⟨[],none,none,none,some (.int .i64 ↑(i+1))⟩,o_] [0,9] (λ_ _=>by kernel_rfl) ⟨aP (by omega) (by omega) (by omega),trivial⟩ ?_
  refine af.nil (by kernel_rfl) ?_
  exact ah.turn ((i+1)) (idx:=[0,9]) (pk:=[0,1,2]) (show (((i+1))<=m) from (by omega)) (by show m-((i+1))<m-i;omega) (λ_=>by kernel_rfl) rfl (by kernel_rfl)
 refine ai.exit (ah.aH (ah.aH (ah.bg (ah.next (ai.seq (ai.region ?_))))))
 refine af.aq (k':=1) (fr':=[(2,.bool true)]) (ak:=[]) [o_] [2] (λ_ _=>by kernel_rfl) trivial ?_
 refine af.nil (by kernel_rfl) (ah.next (ai.ret ?_))
 exact ah.ret (v:=.bool true) (l:=[]) (ak:=[]) [] [2] (λ_=>by kernel_rfl) trivial rfl (by kernel_rfl) (⟨rfl,rfl⟩)
end
section
open Go.RowKit
attribute [local irreducible] af aN ai ah
theorem law_memory (W:World) (A:Option Addr) (c:Nat) (ns:List aD) (L:Lay) (hG:aA (B0 W) A ns L) (hB:dM ns 1048576) (root:Int) (hz:fO root) :
 Spec Try.prog (B0 W) 9 #[.agg #[.slice A (ns.length) (c)],.int .i64 (root)] [] (λv _=>v=.bool true):=by
 have hle0:=B0.refl W
 refine Spec.enter Try.func9 rfl Try.ntmps9 (Nat.le_of_ble_eq_true rfl) (λR=>?_)
 refine ai.seq (ai.region (af.bD (k':=2) (fr':=λb1=>[(1,.int .i64 (root)),(2,.pointer (some ⟨b1,0,none⟩))]) (aL:=λb1=>[.abs R,.blk b1 [.slice A (ns.length) (c)] 24]) (ak:=λb1=>[]) [o_,o_] [1,2] [0,1] (λ_ _=>by kernel_rfl) (λb1=>trivial) (λb1=>?_)))
 refine af.nil (by kernel_rfl) (ah.next (ai.seq (ai.seq (ai.region ?_))))
 refine af.fo (f:=21) (args:=#[]) (d:=(some 20)) (pre:=[]) (R:=[.abs R,.blk b1 [.slice A (ns.length) (c)] 24]) (pk:=[0,1]) (λ_=>by kernel_rfl) (Aq) rfl (by kernel_rfl) ?_
 rintro zm _ _ jo ⟨rfl,rfl⟩
 replace hG:=hG.le jo
 replace hle0:=hle0.trans jo
 refine af.aq (k':=2) (fr':=[(1,.int .i64 (root)),(2,.pointer (some ⟨b1,0,none⟩)),(21,.bool false)]) (ak:=[]) [o_] [1,2,21] (λ_ _=>by kernel_rfl) trivial ?_
 refine af.nil (by kernel_rfl) (ah.next ?_)
 refine ai.cU (λ_=>by kernel_rfl) ?_
 refine ai.skip (ah.next (ai.seq (ai.region ?_)))
 refine af.aq (k':=1) (fr':=[(1,.int .i64 (root)),(2,.pointer (some ⟨b1,0,none⟩)),(22,.agg #[.slice A (ns.length) (c)])]) (ak:=[b1=b1]) [⟨[.at 1],none,none,none,none⟩] [1,2,22] (λ_ _=>by kernel_rfl) ⟨rfl,trivial⟩ ?_
 refine af.fo (f:=15) (args:=#[.agg #[.slice A (ns.length) (c)]]) (d:=(some 23)) (pre:=[]) (R:=[.abs R,.blk b1 [.slice A (ns.length) (c)] 24]) (pk:=[0,1]) (λ_=>by kernel_rfl) (tO A c ns L hG hB.hl hB.hd) rfl (by kernel_rfl) ?_
 rintro zn _ _ sD ⟨Ao,co,Lo,rfl,rfl,mo,EF⟩
 replace hG:=hG.le sD
 replace hle0:=hle0.trans sD
 refine af.bD (k':=4) (fr':=λb2=>[(1,.int .i64 (root)),(2,.pointer (some ⟨b1,0,none⟩)),(5,.pointer (some ⟨b2,0,none⟩))]) (aL:=λb2=>[.abs R,.blk b1 [.slice A (ns.length) (c)] 24,.blk b2 [.slice Ao (ns.length) (co)] 24]) (ak:=λb2=>[b2=b2]) [o_,⟨[.at 2],none,none,none,none⟩] [1,2,5] [0,1,2] (λ_ _=>by kernel_rfl) (λb2=>⟨rfl,trivial⟩) (λb2=>?_)
 refine af.nil (by kernel_rfl) (ah.next (ai.seq (ai.region ?_)))
 refine af.aq (k':=2) (fr':=[(1,.int .i64 (root)),(2,.pointer (some ⟨b1,0,none⟩)),(5,.pointer (some ⟨b2,0,none⟩)),(25,.agg #[.slice Ao (ns.length) (co)]),(26,.int .i64 (root))]) (ak:=[b2=b2]) [⟨[.at 2],none,none,none,none⟩,o_] [1,2,5,25,26] (λ_ _=>by kernel_rfl) ⟨rfl,trivial⟩ ?_
 refine af.fo (f:=26) (args:=#[.agg #[.slice Ao (ns.length) (co)],.int .i64 (root)]) (d:=(some 27)) (pre:=[]) (R:=[.abs R,.blk b1 [.slice A (ns.length) (c)] 24,.blk b2 [.slice Ao (ns.length) (co)] 24]) (pk:=[0,1,2]) (λ_=>by kernel_rfl) (vI Ao co ns Lo mo hB root hz) rfl (by kernel_rfl) ?_
 rintro zo _ _ o7 ⟨Aa,ca,Ma,rfl,rfl,om,EG⟩
 replace hG:=hG.le o7
 replace mo:=mo.le o7
 replace hle0:=hle0.trans o7
 refine af.aq (k':=8) (fr':=[(1,.int .i64 (root)),(2,.pointer (some ⟨b1,0,none⟩)),(5,.pointer (some ⟨b2,0,none⟩)),(6,.slice Aa ((aB ns root).1.length) (ca)),(7,.int .i64 ((aB ns root).2))]) (ak:=[]) [o_,o_,o_,o_,o_] [1,2,5,6,7] (λ_ _=>by kernel_rfl) trivial ?_
 refine af.nil (by kernel_rfl) (ah.next (ai.seq (ai.region ?_)))
 refine af.aq (k':=2) (fr':=[(1,.int .i64 (root)),(2,.pointer (some ⟨b1,0,none⟩)),(5,.pointer (some ⟨b2,0,none⟩)),(6,.slice Aa ((aB ns root).1.length) (ca)),(7,.int .i64 ((aB ns root).2)),(31,.agg #[.slice Ao (ns.length) (co)]),(32,.int .i64 (root))]) (ak:=[b2=b2]) [⟨[.at 2],none,none,none,none⟩,o_] [1,2,5,6,7,31,32] (λ_ _=>by kernel_rfl) ⟨rfl,trivial⟩ ?_
 refine af.fo (f:=26) (args:=#[.agg #[.slice Ao (ns.length) (co)],.int .i64 (root)]) (d:=(some 33)) (pre:=[]) (R:=[.abs R,.blk b1 [.slice A (ns.length) (c)] 24,.blk b2 [.slice Ao (ns.length) (co)] 24]) (pk:=[0,1,2]) (λ_=>by kernel_rfl) (vI Ao co ns Lo mo hB root hz) rfl (by kernel_rfl) ?_
 rintro Bj _ _ ny ⟨Ab,cb,Mb,rfl,rfl,rM,EH⟩
 replace hG:=hG.le ny
 replace mo:=mo.le ny
 replace om:=om.le ny
 replace hle0:=hle0.trans ny
 refine af.aq (k':=8) (fr':=[(1,.int .i64 (root)),(2,.pointer (some ⟨b1,0,none⟩)),(5,.pointer (some ⟨b2,0,none⟩)),(6,.slice Aa ((aB ns root).1.length) (ca)),(7,.int .i64 ((aB ns root).2)),(8,.slice Ab ((aB ns root).1.length) (cb))]) (ak:=[]) [o_,o_,o_,o_,o_] [1,2,5,6,7,8] (λ_ _=>by kernel_rfl) trivial ?_
 refine af.nil (by kernel_rfl) (ah.next (ai.seq (ai.region ?_)))
 refine af.aq (k':=2) (fr':=[(5,.pointer (some ⟨b2,0,none⟩)),(6,.slice Aa ((aB ns root).1.length) (ca)),(7,.int .i64 ((aB ns root).2)),(8,.slice Ab ((aB ns root).1.length) (cb)),(37,.agg #[.slice A (ns.length) (c)]),(38,.int .i64 (root))]) (ak:=[b1=b1]) [⟨[.at 1],none,none,none,none⟩,o_] [5,6,7,8,37,38] (λ_ _=>by kernel_rfl) ⟨rfl,trivial⟩ ?_
 refine af.fo (f:=27) (args:=#[.agg #[.slice A (ns.length) (c)],.int .i64 (root)]) (d:=(some 39)) (pre:=[]) (R:=[.abs R,.blk b1 [.slice A (ns.length) (c)] 24,.blk b2 [.slice Ao (ns.length) (co)] 24]) (pk:=[0,1,2]) (λ_=>by kernel_rfl) (rK A c ns L hG hB root) rfl (by kernel_rfl) ?_
 rintro Bk _ _ kM ⟨Ar,cr,Mr,rfl,rfl,vJ⟩
 replace hG:=hG.le kM
 replace mo:=mo.le kM
 replace om:=om.le kM
 replace rM:=rM.le kM
 replace hle0:=hle0.trans kM
 refine af.aq (k':=8) (fr':=[(5,.pointer (some ⟨b2,0,none⟩)),(6,.slice Aa ((aB ns root).1.length) (ca)),(7,.int .i64 ((aB ns root).2)),(8,.slice Ab ((aB ns root).1.length) (cb)),(10,.slice Ar ((aB ns root).1.length) (cr)),(11,.int .i64 ((aB ns root).2))]) (ak:=[]) [o_,o_,o_,o_,o_] [5,6,7,8,10,11] (λ_ _=>by kernel_rfl) trivial ?_
 refine af.nil (by kernel_rfl) (ah.next (ai.seq (ai.seq (ai.region ?_))))
 refine af.aq (k':=6) (fr':=[(5,.pointer (some ⟨b2,0,none⟩)),(6,.slice Aa ((aB ns root).1.length) (ca)),(7,.int .i64 ((aB ns root).2)),(8,.slice Ab ((aB ns root).1.length) (cb)),(10,.slice Ar ((aB ns root).1.length) (cr)),(45,.bool false),(46,.slice Aa ((aB ns root).1.length) (ca)),(47,.slice Ar ((aB ns root).1.length) (cr))]) (ak:=[(Value.bool (!decide (((aB ns root).2:Int)=((aB ns root).2:Int))))=(.bool false)]) [o_,o_,⟨[],none,none,none,some (.bool false)⟩,o_,o_,o_] [5,6,7,8,10,45,46,47] (λ_ _=>by kernel_rfl) ⟨by simp,trivial⟩ ?_
 refine af.call (f:=28) (args:=#[.slice Aa ((aB ns root).1.length) (ca),.slice Ar ((aB ns root).1.length) (cr)]) (d:=(some 48)) (pre:=[]) (R:=[.abs R,.blk b1 [.slice A (ns.length) (c)] 24,.blk b2 [.slice Ao (ns.length) (co)] 24]) (pk:=[0,1,2]) (λ_=>by kernel_rfl) ((kT Aa Ar ca cr _ _ Ma Mr om vJ (fe (root:=root) hB).1 (fe (root:=root) hB).2).val (congrArg Value.bool (decide_eq_true rfl))) rfl (by kernel_rfl) ?_
 rintro _ _ ⟨rfl,rfl⟩
 refine af.aq (k':=12) (fr':=[(5,.pointer (some ⟨b2,0,none⟩)),(6,.slice Aa ((aB ns root).1.length) (ca)),(7,.int .i64 ((aB ns root).2)),(8,.slice Ab ((aB ns root).1.length) (cb)),(10,.slice Ar ((aB ns root).1.length) (cr)),(51,.bool false),(52,.slice Ab ((aB ns root).1.length) (cb)),(53,.slice Ar ((aB ns root).1.length) (cr))]) (ak:=[]) [o_,o_,o_,o_,o_] [5,6,7,8,10,51,52,53] (λ_ _=>by kernel_rfl) trivial ?_
 refine af.call (f:=28) (args:=#[.slice Ab ((aB ns root).1.length) (cb),.slice Ar ((aB ns root).1.length) (cr)]) (d:=(some 54)) (pre:=[]) (R:=[.abs R,.blk b1 [.slice A (ns.length) (c)] 24,.blk b2 [.slice Ao (ns.length) (co)] 24]) (pk:=[0,1,2]) (λ_=>by kernel_rfl) ((kT Ab Ar cb cr _ _ Mb Mr rM vJ (fe (root:=root) hB).1 (fe (root:=root) hB).2).val (congrArg Value.bool (decide_eq_true rfl))) rfl (by kernel_rfl) ?_
 rintro _ _ ⟨rfl,rfl⟩
 refine af.aq (k':=15) (fr':=[(5,.pointer (some ⟨b2,0,none⟩)),(6,.slice Aa ((aB ns root).1.length) (ca)),(7,.int .i64 ((aB ns root).2)),(8,.slice Ab ((aB ns root).1.length) (cb)),(10,.slice Ar ((aB ns root).1.length) (cr)),(56,.bool false)]) (ak:=[]) [o_,o_] [5,6,7,8,10,56] (λ_ _=>by kernel_rfl) trivial ?_
 refine af.nil (by kernel_rfl) (ah.next ?_)
 refine ai.cU (λ_=>by kernel_rfl) ?_
 refine ai.skip (ah.next (ai.seq (ai.seq (ai.region ?_))))
 refine af.aq (k':=2) (fr':=[(5,.pointer (some ⟨b2,0,none⟩)),(6,.slice Aa ((aB ns root).1.length) (ca)),(8,.slice Ab ((aB ns root).1.length) (cb)),(10,.slice Ar ((aB ns root).1.length) (cr)),(58,.bool (!(decide (((aB ns root).2:Int)=(0:Int)))))]) (ak:=[]) [o_,o_] [5,6,8,10,58] (λ_ _=>by kernel_rfl) trivial ?_
 refine af.nil (by kernel_rfl) (ah.next ?_)
 refine ai.cY (p:=((aB ns root).2:Int)=(0:Int)) (λ_=>by kernel_rfl) (λtI=>?_) (λtI=>?_)
 ·refine ai.seq (ai.region (af.aq (k':=1) (fr':=[(4,.bool true)]) (ak:=[]) [o_] [4] (λ_ _=>by kernel_rfl) trivial ?_))
  refine af.nil (by kernel_rfl) (ah.next (ai.ret (ah.ay ?_)))
  exact ah.BS (v:=.bool true) (l:=[]) (ak:=[]) [] [0] hle0 (λ_=>by kernel_rfl) trivial rfl (by kernel_rfl) (rfl)
 refine ai.skip (ah.next (ai.seq (ai.region ?_)))
 refine af.aq (k':=1) (fr':=[(5,.pointer (some ⟨b2,0,none⟩)),(6,.slice Aa ((aB ns root).1.length) (ca)),(8,.slice Ab ((aB ns root).1.length) (cb)),(10,.slice Ar ((aB ns root).1.length) (cr)),(60,.slice Aa ((aB ns root).1.length) (ca))]) (ak:=[]) [o_] [5,6,8,10,60] (λ_ _=>by kernel_rfl) trivial ?_
 refine af.fo (f:=30) (args:=#[.slice Aa ((aB ns root).1.length) (ca)]) (d:=(some 61)) (pre:=[]) (R:=[.abs R,.blk b1 [.slice A (ns.length) (c)] 24,.blk b2 [.slice Ao (ns.length) (co)] 24]) (pk:=[0,1,2]) (λ_=>by kernel_rfl) (yT Aa ca (aB ns root).1 Ma om (zi hB tI) (oP hB tI)) rfl (by kernel_rfl) ?_
 rintro Bl _ _ jT ⟨Ah,ch,Lh,rfl,rfl,zu,EI⟩
 replace hG:=hG.le jT
 replace mo:=mo.le jT
 replace om:=om.le jT
 replace rM:=rM.le jT
 replace vJ:=vJ.le jT
 replace hle0:=hle0.trans jT
 refine af.bD (k':=8) (fr':=λb3=>[(5,.pointer (some ⟨b2,0,none⟩)),(6,.slice Aa ((aB ns root).1.length) (ca)),(8,.slice Ab ((aB ns root).1.length) (cb)),(10,.slice Ar ((aB ns root).1.length) (cr)),(12,.pointer (some ⟨b3,0,none⟩))]) (aL:=λb3=>[.abs R,.blk b1 [.slice A (ns.length) (c)] 24,.blk b2 [.slice Ao (ns.length) (co)] 24,.blk b3 [.slice Ah ((aO (aB ns root).1).1.length) (ch)] 24]) (ak:=λb3=>[b3=b3]) [o_,o_,o_,o_,⟨[.at 3],none,none,none,none⟩,o_] [5,6,8,10,12] [0,1,2,3] (λ_ _=>by kernel_rfl) (λb3=>⟨rfl,trivial⟩) (λb3=>?_)
 refine af.nil (by kernel_rfl) (ah.next (ai.seq (ai.region ?_)))
 refine af.aq (k':=1) (fr':=[(5,.pointer (some ⟨b2,0,none⟩)),(6,.slice Aa ((aB ns root).1.length) (ca)),(8,.slice Ab ((aB ns root).1.length) (cb)),(12,.pointer (some ⟨b3,0,none⟩)),(65,.slice Ar ((aB ns root).1.length) (cr))]) (ak:=[]) [o_] [5,6,8,12,65] (λ_ _=>by kernel_rfl) trivial ?_
 refine af.fo (f:=32) (args:=#[.slice Ar ((aB ns root).1.length) (cr)]) (d:=(some 66)) (pre:=[]) (R:=[.abs R,.blk b1 [.slice A (ns.length) (c)] 24,.blk b2 [.slice Ao (ns.length) (co)] 24,.blk b3 [.slice Ah ((aO (aB ns root).1).1.length) (ch)] 24]) (pk:=[0,1,2,3]) (λ_=>by kernel_rfl) (vE Ar cr (aB ns root).1 Mr vJ (zi hB tI) (C2 hB tI)) rfl (by kernel_rfl) ?_
 rintro Bn _ _ jq ⟨Ak,ck,Lk,rfl,rfl,EJ⟩
 replace hG:=hG.le jq
 replace mo:=mo.le jq
 replace om:=om.le jq
 replace rM:=rM.le jq
 replace vJ:=vJ.le jq
 replace zu:=zu.le jq
 replace hle0:=hle0.trans jq
 refine af.bD (k':=8) (fr':=λb4=>[(5,.pointer (some ⟨b2,0,none⟩)),(6,.slice Aa ((aB ns root).1.length) (ca)),(8,.slice Ab ((aB ns root).1.length) (cb)),(12,.pointer (some ⟨b3,0,none⟩)),(14,.pointer (some ⟨b4,0,none⟩))]) (aL:=λb4=>[.abs R,.blk b1 [.slice A (ns.length) (c)] 24,.blk b2 [.slice Ao (ns.length) (co)] 24,.blk b3 [.slice Ah ((aO (aB ns root).1).1.length) (ch)] 24,.blk b4 [.slice Ak ((aO (aB ns root).1).1.length) (ck)] 24]) (ak:=λb4=>[b4=b4]) [o_,o_,o_,o_,⟨[.at 4],none,none,none,none⟩,o_] [5,6,8,12,14] [0,1,2,3,4] (λ_ _=>by kernel_rfl) (λb4=>⟨rfl,trivial⟩) (λb4=>?_)
 refine af.nil (by kernel_rfl) (ah.next (ai.seq (ai.seq (ai.region ?_))))
 refine af.aq (k':=2) (fr':=[(5,.pointer (some ⟨b2,0,none⟩)),(6,.slice Aa ((aB ns root).1.length) (ca)),(8,.slice Ab ((aB ns root).1.length) (cb)),(12,.pointer (some ⟨b3,0,none⟩)),(69,.agg #[.slice Ah ((aO (aB ns root).1).1.length) (ch)]),(70,.agg #[.slice Ak ((aO (aB ns root).1).1.length) (ck)])]) (ak:=[b4=b4,b3=b3]) [⟨[.at 3],none,none,none,none⟩,⟨[.at 4],none,none,none,none⟩] [5,6,8,12,69,70] (λ_ _=>by kernel_rfl) ⟨rfl,rfl,trivial⟩ ?_
 refine af.call (f:=17) (args:=#[.agg #[.slice Ah ((aO (aB ns root).1).1.length) (ch)],.agg #[.slice Ak ((aO (aB ns root).1).1.length) (ck)]]) (d:=(some 71)) (pre:=[]) (R:=[.abs R,.blk b1 [.slice A (ns.length) (c)] 24,.blk b2 [.slice Ao (ns.length) (co)] 24,.blk b3 [.slice Ah ((aO (aB ns root).1).1.length) (ch)] 24,.blk b4 [.slice Ak ((aO (aB ns root).1).1.length) (ck)] 24]) (pk:=[0,1,2,3,4]) (λ_=>by kernel_rfl) ((uq Ah Ak ch ck (aO (aB ns root).1).1 (aO (aB ns root).1).1 Lh Lk zu EJ (qo (oP hB tI)).hl (qo (oP hB tI)).hd).val (congrArg Value.bool (decide_eq_true rfl))) rfl (by kernel_rfl) ?_
 rintro _ _ ⟨rfl,rfl⟩
 refine af.aq (k':=4) (fr':=[(5,.pointer (some ⟨b2,0,none⟩)),(6,.slice Aa ((aB ns root).1.length) (ca)),(8,.slice Ab ((aB ns root).1.length) (cb)),(12,.pointer (some ⟨b3,0,none⟩)),(72,.bool false)]) (ak:=[]) [o_] [5,6,8,12,72] (λ_ _=>by kernel_rfl) trivial ?_
 refine af.nil (by kernel_rfl) (ah.next ?_)
 refine ai.cU (λ_=>by kernel_rfl) ?_
 refine ai.skip (ah.next (ai.seq (ai.region ?_)))
 obtain⟨k1,hk1⟩:∃k,k=min (aB ns root).1.length 8:=⟨_,rfl⟩
 obtain⟨k2,hk2⟩:∃k,k=min ns.length 4:=⟨_,rfl⟩
 obtain⟨k3,hk3⟩:∃k,k=min (aO (aB ns root).1).1.length 4:=⟨_,rfl⟩
 have fH:=qo (oP hB tI)
 have hl1:=hB.hl
 have hl2:=fH.hl
 have Fl:=(fe (root:=root) hB).1
 refine af.bD (k':=2) (fr':=λb5=>[(5,.pointer (some ⟨b2,0,none⟩)),(6,.slice Aa ((aB ns root).1.length) (ca)),(8,.slice Ab ((aB ns root).1.length) (cb)),(12,.pointer (some ⟨b3,0,none⟩)),(16,.slice (some ⟨b5,0,none⟩) (0) (0))]) (aL:=λb5=>[.abs R,.blk b1 [.slice A (ns.length) (c)] 24,.blk b2 [.slice Ao (ns.length) (co)] 24,.blk b3 [.slice Ah ((aO (aB ns root).1).1.length) (ch)] 24,.blk b4 [.slice Ak ((aO (aB ns root).1).1.length) (ck)] 24,.blk b5 [] 29]) (ak:=λb5=>[]) [o_,o_] [5,6,8,12,16] [0,1,2,3,4,5] (λ_ _=>by kernel_rfl) (λb5=>trivial) (λb5=>?_)
 refine af.nil (by kernel_rfl) (ah.next (ai.seq (ai.seq (ai.region ?_))))
 refine af.mem (λw hS=>hS.gT (i:=5) (b:=b5) (cs:=[]) (e:=29) 1 0 (by kernel_rfl) rfl (by decide)) ?_
 refine af.aq (k':=1) (fr':=[(5,.pointer (some ⟨b2,0,none⟩)),(6,.slice Aa ((aB ns root).1.length) (ca)),(8,.slice Ab ((aB ns root).1.length) (cb)),(12,.pointer (some ⟨b3,0,none⟩)),(16,.slice (some ⟨b5,0,none⟩) (0) (0)),(17,.int .i64 0)]) (ak:=[]) [o_] [5,6,8,12,16,17] (λ_ _=>by kernel_rfl) trivial ?_
 refine af.nil (by kernel_rfl) (ah.next (ai.block ?_))
 refine ai.loop (ι:=Nat×(Option Addr)×Nat) (λ((i,Al,cl):Nat×(Option Addr)×Nat)=>(i<=k1)) (λ((i,Al,cl):Nat×(Option Addr)×Nat)=>k1-i) (λ((i,Al,cl):Nat×(Option Addr)×Nat)=>[(5,.pointer (some ⟨b2,0,none⟩)),(6,.slice Aa ((aB ns root).1.length) (ca)),(8,.slice Ab ((aB ns root).1.length) (cb)),(12,.pointer (some ⟨b3,0,none⟩)),(16,.slice Al (2*i) (cl)),(17,.int .i64 ↑i)]) (λ((i,Al,cl):Nat×(Option Addr)×Nat)=>[.blk b2 [.slice Ao (ns.length) (co)] 24,.blk b3 [.slice Ah ((aO (aB ns root).1).1.length) (ch)] 24,.abs (av 29 1 Al (2*i) cl (ct (MF (aB ns root).1 Ma Mb ns (aO (aB ns root).1).1 Lo Lh k1 k2) (2*i))),.abs R]) (0,some ⟨b5,0,none⟩,0) (idx:=[5,6,8,12,16,17]) (pk:=[2,3,5,0]) (show (0<=k1) from Nat.zero_le _) (λ_=>by kernel_rfl) rfl (by kernel_rfl) ?_
 rintro⟨i,Al,cl⟩ hi
 show ai _ _ _ _ [(5,.pointer (some ⟨b2,0,none⟩)),(6,.slice Aa ((aB ns root).1.length) (ca)),(8,.slice Ab ((aB ns root).1.length) (cb)),(12,.pointer (some ⟨b3,0,none⟩)),(16,.slice Al (2*i) (cl)),(17,.int .i64 ↑i)] [.blk b2 [.slice Ao (ns.length) (co)] 24,.blk b3 [.slice Ah ((aO (aB ns root).1).1.length) (ch)] 24,.abs (av 29 1 Al (2*i) cl (ct (MF (aB ns root).1 Ma Mb ns (aO (aB ns root).1).1 Lo Lh k1 k2) (2*i))),.abs R] _
 refine ai.seq (ai.join (ι:=Bool) (λ(q:Bool)=>(q=decide (i<k1))) (λ(q:Bool)=>[(5,.pointer (some ⟨b2,0,none⟩)),(6,.slice Aa ((aB ns root).1.length) (ca)),(8,.slice Ab ((aB ns root).1.length) (cb)),(12,.pointer (some ⟨b3,0,none⟩)),(16,.slice Al (2*i) (cl)),(17,.int .i64 ↑i),(81,.bool q)]) (λ(q:Bool)=>[.blk b2 [.slice Ao (ns.length) (co)] 24,.blk b3 [.slice Ah ((aO (aB ns root).1).1.length) (ch)] 24,.abs (av 29 1 Al (2*i) cl (ct (MF (aB ns root).1 Ma Mb ns (aO (aB ns root).1).1 Lo Lh k1 k2) (2*i))),.abs R]) ?_ ?_)
 ·rintro q hq
  show ai _ _ _ _ [(5,.pointer (some ⟨b2,0,none⟩)),(6,.slice Aa ((aB ns root).1.length) (ca)),(8,.slice Ab ((aB ns root).1.length) (cb)),(12,.pointer (some ⟨b3,0,none⟩)),(16,.slice Al (2*i) (cl)),(17,.int .i64 ↑i),(81,.bool q)] [.blk b2 [.slice Ao (ns.length) (co)] 24,.blk b3 [.slice Ah ((aO (aB ns root).1).1.length) (ch)] 24,.abs (av 29 1 Al (2*i) cl (ct (MF (aB ns root).1 Ma Mb ns (aO (aB ns root).1).1 Lo Lh k1 k2) (2*i))),.abs R] _
  refine ai.cond (b:=q) (λ_=>by kernel_rfl) (λlZ=>?_) (λlZ=>?_)
  ·have hik:i<k1:=by rw [hq] at lZ;exact of_decide_eq_true lZ
   refine ai.skip (ah.next (ai.seq (ai.block (ai.seq (ai.region ?_)))))
   refine af.bD (k':=7) (fr':=λb6=>[(5,.pointer (some ⟨b2,0,none⟩)),(6,.slice Aa ((aB ns root).1.length) (ca)),(8,.slice Ab ((aB ns root).1.length) (cb)),(12,.pointer (some ⟨b3,0,none⟩)),(17,.int .i64 ↑i),(84,.slice Al (2*i) (cl)),(90,.slice (some ⟨b6,0,none⟩) (1) (1))]) (aL:=λb6=>[.blk b2 [.slice Ao (ns.length) (co)] 24,.blk b3 [.slice Ah ((aO (aB ns root).1).1.length) (ch)] 24,.abs (av 29 1 Al (2*i) cl (ct (MF (aB ns root).1 Ma Mb ns (aO (aB ns root).1).1 Lo Lh k1 k2) (2*i))),.abs R,.blk b6 [.slice (Ma.dA i) ((ln (aB ns root).1 i).data.length) ((Ma.dC i))] 29]) (ak:=λb6=>[(Rd Bn ⟨(au Aa),ar Aa+i*10+7,none⟩ (.slice (Ma.dA i) ((ln (aB ns root).1 i).data.length) ((Ma.dC i)))),((i:Nat):Int)=((i:Nat):Int),i<(aB ns root).1.length,(⟨(au Aa),ar Aa,none⟩:Addr).spot=none,(Aa:Option Addr)=some ⟨(au Aa),ar Aa,none⟩]) [o_,o_,o_,⟨[],some i,none,some ⟨(au Aa),ar Aa,none⟩,none⟩,o_,⟨[.old (.slice (Ma.dA i) ((ln (aB ns root).1 i).data.length) ((Ma.dC i)))],none,none,none,none⟩,o_] [5,6,8,12,17,84,90] [0,1,2,3,4] (λ_ _=>by kernel_rfl) (λb6=>⟨aM.rd om (i:=i) (by omega) (j:=7) rfl,rfl,by omega,rfl,aM.hd om (i:=i) (by omega),trivial⟩) (λb6=>?_)
   refine af.append 2 (d:=(some 91)) (t:=57) (e:=29) (z:=.slice none (0) (0)) (size:=1) (bytes:=24) (n:=2*i) (cap:=cl) (A:=Al) (xs:=(ct (MF (aB ns root).1 Ma Mb ns (aO (aB ns root).1).1 Lo Lh k1 k2) (2*i))) (s:=(.tmp 84)) (x:=(.tmp 90)) (ats:=#[57,57]) (A':=some ⟨b6,0,none⟩) (m:=1) (c':=1) (news:=[.slice (Ma.dA i) ((ln (aB ns root).1 i).data.length) ((Ma.dC i))]) (λ_=>by kernel_rfl) rfl (by kernel_rfl) (λ_=>by kernel_rfl) (λ_=>by kernel_rfl) Try.underlying57 (by kernel_rfl) rfl (by decide) (rfl) (by simp [Value.oneCell']) (dS (j:=4) rfl) (by unfold maxLen;omega) (by omega) (λA7 c8=>?_)
   refine af.aZ 2 (p:=.abs (av 29 1 A7 ((2*i)+1) c8 ((ct (MF (aB ns root).1 Ma Mb ns (aO (aB ns root).1).1 Lo Lh k1 k2) (2*i))++[.slice (Ma.dA i) ((ln (aB ns root).1 i).data.length) ((Ma.dC i))]))) (p':=.abs (av 29 1 A7 (2*i+1) c8 (ct (MF (aB ns root).1 Ma Mb ns (aO (aB ns root).1).1 Lo Lh k1 k2) (2*i+1)))) (by kernel_rfl) (by rw [nT (D1 hik)]) ?_
   refine af.slot 91 (.slice A7 ((2*i)+1) (c8)) (.slice A7 (2*i+1) (c8)) (λ_=>by kernel_rfl) (rfl) ?_
   refine af.aq (k':=9) (fr':=[(5,.pointer (some ⟨b2,0,none⟩)),(6,.slice Aa ((aB ns root).1.length) (ca)),(8,.slice Ab ((aB ns root).1.length) (cb)),(12,.pointer (some ⟨b3,0,none⟩)),(16,.slice A7 (2*i+1) (c8)),(17,.int .i64 ↑i)]) (ak:=[]) [o_] [5,6,8,12,16,17] (λ_ _=>by kernel_rfl) trivial ?_
   refine af.nil (by kernel_rfl) (ah.next (ai.region ?_))
   refine af.bD (k':=7) (fr':=λb9=>[(5,.pointer (some ⟨b2,0,none⟩)),(6,.slice Aa ((aB ns root).1.length) (ca)),(8,.slice Ab ((aB ns root).1.length) (cb)),(12,.pointer (some ⟨b3,0,none⟩)),(17,.int .i64 ↑i),(92,.slice A7 (2*i+1) (c8)),(98,.slice (some ⟨b9,0,none⟩) (1) (1))]) (aL:=λb9=>[.blk b2 [.slice Ao (ns.length) (co)] 24,.blk b3 [.slice Ah ((aO (aB ns root).1).1.length) (ch)] 24,.abs (av 29 1 A7 (2*i+1) c8 (ct (MF (aB ns root).1 Ma Mb ns (aO (aB ns root).1).1 Lo Lh k1 k2) (2*i+1))),.abs R,.blk b6 [.slice (Ma.dA i) ((ln (aB ns root).1 i).data.length) ((Ma.dC i))] 29,.blk b9 [.slice (Mb.dA i) ((ln (aB ns root).1 i).data.length) ((Mb.dC i))] 29]) (ak:=λb9=>[(Rd Bn ⟨(au Ab),ar Ab+i*10+7,none⟩ (.slice (Mb.dA i) ((ln (aB ns root).1 i).data.length) ((Mb.dC i)))),((i:Nat):Int)=((i:Nat):Int),i<(aB ns root).1.length,(⟨(au Ab),ar Ab,none⟩:Addr).spot=none,(Ab:Option Addr)=some ⟨(au Ab),ar Ab,none⟩]) [o_,o_,o_,⟨[],some i,none,some ⟨(au Ab),ar Ab,none⟩,none⟩,o_,⟨[.old (.slice (Mb.dA i) ((ln (aB ns root).1 i).data.length) ((Mb.dC i)))],none,none,none,none⟩,o_] [5,6,8,12,17,92,98] [0,1,2,3,4,5] (λ_ _=>by kernel_rfl) (λb9=>⟨aM.rd rM (i:=i) (by omega) (j:=7) rfl,rfl,by omega,rfl,aM.hd rM (i:=i) (by omega),trivial⟩) (λb9=>?_)
   refine af.append 2 (d:=(some 99)) (t:=57) (e:=29) (z:=.slice none (0) (0)) (size:=1) (bytes:=24) (n:=2*i+1) (cap:=c8) (A:=A7) (xs:=(ct (MF (aB ns root).1 Ma Mb ns (aO (aB ns root).1).1 Lo Lh k1 k2) (2*i+1))) (s:=(.tmp 92)) (x:=(.tmp 98)) (ats:=#[57,57]) (A':=some ⟨b9,0,none⟩) (m:=1) (c':=1) (news:=[.slice (Mb.dA i) ((ln (aB ns root).1 i).data.length) ((Mb.dC i))]) (λ_=>by kernel_rfl) rfl (by kernel_rfl) (λ_=>by kernel_rfl) (λ_=>by kernel_rfl) Try.underlying57 (by kernel_rfl) rfl (by decide) (rfl) (by simp [Value.oneCell']) (dS (j:=5) rfl) (by unfold maxLen;omega) (by omega) (λbM c11=>?_)
   refine af.aZ 2 (p:=.abs (av 29 1 bM ((2*i+1)+1) c11 ((ct (MF (aB ns root).1 Ma Mb ns (aO (aB ns root).1).1 Lo Lh k1 k2) (2*i+1))++[.slice (Mb.dA i) ((ln (aB ns root).1 i).data.length) ((Mb.dC i))]))) (p':=.abs (av 29 1 bM (2*i+1+1) c11 (ct (MF (aB ns root).1 Ma Mb ns (aO (aB ns root).1).1 Lo Lh k1 k2) (2*i+1+1)))) (by kernel_rfl) (by rw [nT (D2 hik)]) ?_
   refine af.slot 99 (.slice bM ((2*i+1)+1) (c11)) (.slice bM (2*i+1+1) (c11)) (λ_=>by kernel_rfl) (rfl) ?_
   refine af.aq (k':=9) (fr':=[(5,.pointer (some ⟨b2,0,none⟩)),(6,.slice Aa ((aB ns root).1.length) (ca)),(8,.slice Ab ((aB ns root).1.length) (cb)),(12,.pointer (some ⟨b3,0,none⟩)),(16,.slice bM (2*i+1+1) (c11)),(17,.int .i64 ↑i)]) (ak:=[]) [o_] [5,6,8,12,16,17] (λ_ _=>by kernel_rfl) trivial ?_
   refine af.nil (by kernel_rfl) (ah.aJ (ah.next (ai.region ?_)))
   refine af.aq (k':=3) (fr':=[(5,.pointer (some ⟨b2,0,none⟩)),(6,.slice Aa ((aB ns root).1.length) (ca)),(8,.slice Ab ((aB ns root).1.length) (cb)),(12,.pointer (some ⟨b3,0,none⟩)),(16,.slice bM (2*i+1+1) (c11)),(17,.int .i64 ↑(i+1))]) (ak:=[(Value.int .i64 (IntKind.wrap .i64 (((i:Nat):Int)+1)))=(.int .i64 ↑(i+1))]) [o_,⟨[],none,none,none,some (.int .i64 ↑(i+1))⟩,o_] [5,6,8,12,16,17] (λ_ _=>by kernel_rfl) ⟨aP (by omega) (by omega) (by omega),trivial⟩ ?_
   refine af.nil (by kernel_rfl) ?_
   exact ah.turn ((i+1),bM,c11) (idx:=[5,6,8,12,16,17]) (pk:=[0,1,2,3]) (show (((i+1))<=k1) from (by omega)) (by show k1-((i+1))<k1-i;omega) (λ_=>by kernel_rfl) rfl (by kernel_rfl)
  have hik:¬i<k1:=by rw [hq] at lZ;exact of_decide_eq_false lZ
  refine ai.exit (ah.aH (ah.aH (ah.bg (ah.next (ai.seq (ai.seq (ai.region ?_)))))))
  have hie:i=k1:=by omega
  refine af.aZ 2 (p:=.abs (av 29 1 Al (2*i) cl (ct (MF (aB ns root).1 Ma Mb ns (aO (aB ns root).1).1 Lo Lh k1 k2) (2*i)))) (p':=.abs (av 29 1 Al (2*k1) cl (ct (MF (aB ns root).1 Ma Mb ns (aO (aB ns root).1).1 Lo Lh k1 k2) (2*k1)))) (by kernel_rfl) (by rw [hie]) ?_
  refine af.slot 16 (.slice Al (2*i) (cl)) (.slice Al (2*k1) (cl)) (λ_=>by kernel_rfl) (by rw [hie]) ?_
  refine af.aq (k':=1) (fr':=[(5,.pointer (some ⟨b2,0,none⟩)),(12,.pointer (some ⟨b3,0,none⟩)),(16,.slice Al (2*k1) (cl)),(18,.int .i64 0)]) (ak:=[]) [o_] [5,12,16,18] (λ_ _=>by kernel_rfl) trivial ?_
  refine af.nil (by kernel_rfl) (ah.next (ai.block ?_))
  refine ai.loop (ι:=Nat×(Option Addr)×Nat) (λ((i,Al,cl):Nat×(Option Addr)×Nat)=>(i<=k2)) (λ((i,Al,cl):Nat×(Option Addr)×Nat)=>k2-i) (λ((i,Al,cl):Nat×(Option Addr)×Nat)=>[(5,.pointer (some ⟨b2,0,none⟩)),(12,.pointer (some ⟨b3,0,none⟩)),(16,.slice Al (2*k1+i) (cl)),(18,.int .i64 ↑i)]) (λ((i,Al,cl):Nat×(Option Addr)×Nat)=>[.blk b2 [.slice Ao (ns.length) (co)] 24,.blk b3 [.slice Ah ((aO (aB ns root).1).1.length) (ch)] 24,.abs (av 29 1 Al (2*k1+i) cl (ct (MF (aB ns root).1 Ma Mb ns (aO (aB ns root).1).1 Lo Lh k1 k2) (2*k1+i))),.abs R]) (0,Al,cl) (idx:=[5,12,16,18]) (pk:=[0,1,2,3]) (show (0<=k2) from Nat.zero_le _) (λ_=>by kernel_rfl) rfl (by kernel_rfl) ?_
  rintro⟨i,Al,cl⟩ hi
  show ai _ _ _ _ [(5,.pointer (some ⟨b2,0,none⟩)),(12,.pointer (some ⟨b3,0,none⟩)),(16,.slice Al (2*k1+i) (cl)),(18,.int .i64 ↑i)] [.blk b2 [.slice Ao (ns.length) (co)] 24,.blk b3 [.slice Ah ((aO (aB ns root).1).1.length) (ch)] 24,.abs (av 29 1 Al (2*k1+i) cl (ct (MF (aB ns root).1 Ma Mb ns (aO (aB ns root).1).1 Lo Lh k1 k2) (2*k1+i))),.abs R] _
  refine ai.seq (ai.join (ι:=Bool) (λ(q:Bool)=>(q=decide (i<k2))) (λ(q:Bool)=>[(5,.pointer (some ⟨b2,0,none⟩)),(12,.pointer (some ⟨b3,0,none⟩)),(16,.slice Al (2*k1+i) (cl)),(18,.int .i64 ↑i),(108,.bool q)]) (λ(q:Bool)=>[.blk b2 [.slice Ao (ns.length) (co)] 24,.blk b3 [.slice Ah ((aO (aB ns root).1).1.length) (ch)] 24,.abs (av 29 1 Al (2*k1+i) cl (ct (MF (aB ns root).1 Ma Mb ns (aO (aB ns root).1).1 Lo Lh k1 k2) (2*k1+i))),.abs R]) ?_ ?_)
  ·rintro q hq
   show ai _ _ _ _ [(5,.pointer (some ⟨b2,0,none⟩)),(12,.pointer (some ⟨b3,0,none⟩)),(16,.slice Al (2*k1+i) (cl)),(18,.int .i64 ↑i),(108,.bool q)] [.blk b2 [.slice Ao (ns.length) (co)] 24,.blk b3 [.slice Ah ((aO (aB ns root).1).1.length) (ch)] 24,.abs (av 29 1 Al (2*k1+i) cl (ct (MF (aB ns root).1 Ma Mb ns (aO (aB ns root).1).1 Lo Lh k1 k2) (2*k1+i))),.abs R] _
   refine ai.cond (b:=q) (λ_=>by kernel_rfl) (λvK=>?_) (λvK=>?_)
   ·have hik:i<k2:=by rw [hq] at vK;exact of_decide_eq_true vK
    refine ai.skip (ah.next (ai.seq (ai.block (ai.region ?_))))
    refine af.bD (k':=8) (fr':=λb12=>[(5,.pointer (some ⟨b2,0,none⟩)),(12,.pointer (some ⟨b3,0,none⟩)),(18,.int .i64 ↑i),(111,.slice Al (2*k1+i) (cl)),(118,.slice (some ⟨b12,0,none⟩) (1) (1))]) (aL:=λb12=>[.blk b2 [.slice Ao (ns.length) (co)] 24,.blk b3 [.slice Ah ((aO (aB ns root).1).1.length) (ch)] 24,.abs (av 29 1 Al (2*k1+i) cl (ct (MF (aB ns root).1 Ma Mb ns (aO (aB ns root).1).1 Lo Lh k1 k2) (2*k1+i))),.abs R,.blk b12 [.slice (Lo.dA i) ((nd ns i).data.length) ((Lo.dC i))] 29]) (ak:=λb12=>[(Rd Bn ⟨(au Ao),ar Ao+i*10+7,none⟩ (.slice (Lo.dA i) ((nd ns i).data.length) ((Lo.dC i)))),((i:Nat):Int)=((i:Nat):Int),i<ns.length,(⟨(au Ao),ar Ao,none⟩:Addr).spot=none,(Ao:Option Addr)=some ⟨(au Ao),ar Ao,none⟩,b2=b2]) [o_,o_,⟨[.at 0],none,none,none,none⟩,o_,⟨[],some i,none,some ⟨(au Ao),ar Ao,none⟩,none⟩,o_,⟨[.old (.slice (Lo.dA i) ((nd ns i).data.length) ((Lo.dC i)))],none,none,none,none⟩,o_] [5,12,18,111,118] [0,1,2,3,4] (λ_ _=>by kernel_rfl) (λb12=>⟨aA.rd mo (i:=i) (by omega) (j:=7) rfl,rfl,by omega,rfl,aA.hd mo (i:=i) (by omega),rfl,trivial⟩) (λb12=>?_)
    refine af.append 2 (d:=(some 119)) (t:=57) (e:=29) (z:=.slice none (0) (0)) (size:=1) (bytes:=24) (n:=2*k1+i) (cap:=cl) (A:=Al) (xs:=(ct (MF (aB ns root).1 Ma Mb ns (aO (aB ns root).1).1 Lo Lh k1 k2) (2*k1+i))) (s:=(.tmp 111)) (x:=(.tmp 118)) (ats:=#[57,57]) (A':=some ⟨b12,0,none⟩) (m:=1) (c':=1) (news:=[.slice (Lo.dA i) ((nd ns i).data.length) ((Lo.dC i))]) (λ_=>by kernel_rfl) rfl (by kernel_rfl) (λ_=>by kernel_rfl) (λ_=>by kernel_rfl) Try.underlying57 (by kernel_rfl) rfl (by decide) (rfl) (by simp [Value.oneCell']) (dS (j:=4) rfl) (by unfold maxLen;omega) (by omega) (λiN iO=>?_)
    refine af.aZ 2 (p:=.abs (av 29 1 iN ((2*k1+i)+1) iO ((ct (MF (aB ns root).1 Ma Mb ns (aO (aB ns root).1).1 Lo Lh k1 k2) (2*k1+i))++[.slice (Lo.dA i) ((nd ns i).data.length) ((Lo.dC i))]))) (p':=.abs (av 29 1 iN (2*k1+i+1) iO (ct (MF (aB ns root).1 Ma Mb ns (aO (aB ns root).1).1 Lo Lh k1 k2) (2*k1+i+1)))) (by kernel_rfl) (by rw [nT (D3 hik)]) ?_
    refine af.slot 119 (.slice iN ((2*k1+i)+1) (iO)) (.slice iN (2*k1+i+1) (iO)) (λ_=>by kernel_rfl) (rfl) ?_
    refine af.aq (k':=10) (fr':=[(5,.pointer (some ⟨b2,0,none⟩)),(12,.pointer (some ⟨b3,0,none⟩)),(16,.slice iN (2*k1+i+1) (iO)),(18,.int .i64 ↑i)]) (ak:=[]) [o_] [5,12,16,18] (λ_ _=>by kernel_rfl) trivial ?_
    refine af.nil (by kernel_rfl) (ah.aJ (ah.next (ai.region ?_)))
    refine af.aq (k':=3) (fr':=[(5,.pointer (some ⟨b2,0,none⟩)),(12,.pointer (some ⟨b3,0,none⟩)),(16,.slice iN (2*k1+i+1) (iO)),(18,.int .i64 ↑(i+1))]) (ak:=[(Value.int .i64 (IntKind.wrap .i64 (((i:Nat):Int)+1)))=(.int .i64 ↑(i+1))]) [o_,⟨[],none,none,none,some (.int .i64 ↑(i+1))⟩,o_] [5,12,16,18] (λ_ _=>by kernel_rfl) ⟨aP (by omega) (by omega) (by omega),trivial⟩ ?_
    refine af.nil (by kernel_rfl) ?_
    exact ah.turn ((i+1),iN,iO) (idx:=[5,12,16,18]) (pk:=[0,1,2,3]) (show (((i+1))<=k2) from (by omega)) (by show k2-((i+1))<k2-i;omega) (λ_=>by kernel_rfl) rfl (by kernel_rfl)
   have hik:¬i<k2:=by rw [hq] at vK;exact of_decide_eq_false vK
   refine ai.exit (ah.aH (ah.aH (ah.bg (ah.next (ai.seq (ai.seq (ai.region ?_)))))))
   have hie:i=k2:=by omega
   refine af.aZ 2 (p:=.abs (av 29 1 Al (2*k1+i) cl (ct (MF (aB ns root).1 Ma Mb ns (aO (aB ns root).1).1 Lo Lh k1 k2) (2*k1+i)))) (p':=.abs (av 29 1 Al (2*k1+k2) cl (ct (MF (aB ns root).1 Ma Mb ns (aO (aB ns root).1).1 Lo Lh k1 k2) (2*k1+k2)))) (by kernel_rfl) (by rw [hie]) ?_
   refine af.slot 16 (.slice Al (2*k1+i) (cl)) (.slice Al (2*k1+k2) (cl)) (λ_=>by kernel_rfl) (by rw [hie]) ?_
   refine af.aq (k':=1) (fr':=[(12,.pointer (some ⟨b3,0,none⟩)),(16,.slice Al (2*k1+k2) (cl)),(19,.int .i64 0)]) (ak:=[]) [o_] [12,16,19] (λ_ _=>by kernel_rfl) trivial ?_
   refine af.nil (by kernel_rfl) (ah.next (ai.block ?_))
   refine ai.loop (ι:=Nat×(Option Addr)×Nat) (λ((i,Al,cl):Nat×(Option Addr)×Nat)=>(i<=k3)) (λ((i,Al,cl):Nat×(Option Addr)×Nat)=>k3-i) (λ((i,Al,cl):Nat×(Option Addr)×Nat)=>[(12,.pointer (some ⟨b3,0,none⟩)),(16,.slice Al (2*k1+k2+i) (cl)),(19,.int .i64 ↑i)]) (λ((i,Al,cl):Nat×(Option Addr)×Nat)=>[.blk b3 [.slice Ah ((aO (aB ns root).1).1.length) (ch)] 24,.abs (av 29 1 Al (2*k1+k2+i) cl (ct (MF (aB ns root).1 Ma Mb ns (aO (aB ns root).1).1 Lo Lh k1 k2) (2*k1+k2+i))),.abs R]) (0,Al,cl) (idx:=[12,16,19]) (pk:=[1,2,3]) (show (0<=k3) from Nat.zero_le _) (λ_=>by kernel_rfl) rfl (by kernel_rfl) ?_
   rintro⟨i,Al,cl⟩ hi
   show ai _ _ _ _ [(12,.pointer (some ⟨b3,0,none⟩)),(16,.slice Al (2*k1+k2+i) (cl)),(19,.int .i64 ↑i)] [.blk b3 [.slice Ah ((aO (aB ns root).1).1.length) (ch)] 24,.abs (av 29 1 Al (2*k1+k2+i) cl (ct (MF (aB ns root).1 Ma Mb ns (aO (aB ns root).1).1 Lo Lh k1 k2) (2*k1+k2+i))),.abs R] _
   refine ai.seq (ai.join (ι:=Bool) (λ(q:Bool)=>(q=decide (i<k3))) (λ(q:Bool)=>[(12,.pointer (some ⟨b3,0,none⟩)),(16,.slice Al (2*k1+k2+i) (cl)),(19,.int .i64 ↑i),(128,.bool q)]) (λ(q:Bool)=>[.blk b3 [.slice Ah ((aO (aB ns root).1).1.length) (ch)] 24,.abs (av 29 1 Al (2*k1+k2+i) cl (ct (MF (aB ns root).1 Ma Mb ns (aO (aB ns root).1).1 Lo Lh k1 k2) (2*k1+k2+i))),.abs R]) ?_ ?_)
   ·rintro q hq
    show ai _ _ _ _ [(12,.pointer (some ⟨b3,0,none⟩)),(16,.slice Al (2*k1+k2+i) (cl)),(19,.int .i64 ↑i),(128,.bool q)] [.blk b3 [.slice Ah ((aO (aB ns root).1).1.length) (ch)] 24,.abs (av 29 1 Al (2*k1+k2+i) cl (ct (MF (aB ns root).1 Ma Mb ns (aO (aB ns root).1).1 Lo Lh k1 k2) (2*k1+k2+i))),.abs R] _
    refine ai.cond (b:=q) (λ_=>by kernel_rfl) (λh128=>?_) (λh128=>?_)
    ·have hik:i<k3:=by rw [hq] at h128;exact of_decide_eq_true h128
     refine ai.skip (ah.next (ai.seq (ai.block (ai.region ?_))))
     refine af.bD (k':=8) (fr':=λb15=>[(12,.pointer (some ⟨b3,0,none⟩)),(19,.int .i64 ↑i),(131,.slice Al (2*k1+k2+i) (cl)),(138,.slice (some ⟨b15,0,none⟩) (1) (1))]) (aL:=λb15=>[.blk b3 [.slice Ah ((aO (aB ns root).1).1.length) (ch)] 24,.abs (av 29 1 Al (2*k1+k2+i) cl (ct (MF (aB ns root).1 Ma Mb ns (aO (aB ns root).1).1 Lo Lh k1 k2) (2*k1+k2+i))),.abs R,.blk b15 [.slice (Lh.dA i) ((nd (aO (aB ns root).1).1 i).data.length) ((Lh.dC i))] 29]) (ak:=λb15=>[(Rd Bn ⟨(au Ah),ar Ah+i*10+7,none⟩ (.slice (Lh.dA i) ((nd (aO (aB ns root).1).1 i).data.length) ((Lh.dC i)))),((i:Nat):Int)=((i:Nat):Int),i<(aO (aB ns root).1).1.length,(⟨(au Ah),ar Ah,none⟩:Addr).spot=none,(Ah:Option Addr)=some ⟨(au Ah),ar Ah,none⟩,b3=b3]) [o_,o_,⟨[.at 0],none,none,none,none⟩,o_,⟨[],some i,none,some ⟨(au Ah),ar Ah,none⟩,none⟩,o_,⟨[.old (.slice (Lh.dA i) ((nd (aO (aB ns root).1).1 i).data.length) ((Lh.dC i)))],none,none,none,none⟩,o_] [12,19,131,138] [0,1,2,3] (λ_ _=>by kernel_rfl) (λb15=>⟨aA.rd zu (i:=i) (by omega) (j:=7) rfl,rfl,by omega,rfl,aA.hd zu (i:=i) (by omega),rfl,trivial⟩) (λb15=>?_)
     refine af.append 1 (d:=(some 139)) (t:=57) (e:=29) (z:=.slice none (0) (0)) (size:=1) (bytes:=24) (n:=2*k1+k2+i) (cap:=cl) (A:=Al) (xs:=(ct (MF (aB ns root).1 Ma Mb ns (aO (aB ns root).1).1 Lo Lh k1 k2) (2*k1+k2+i))) (s:=(.tmp 131)) (x:=(.tmp 138)) (ats:=#[57,57]) (A':=some ⟨b15,0,none⟩) (m:=1) (c':=1) (news:=[.slice (Lh.dA i) ((nd (aO (aB ns root).1).1 i).data.length) ((Lh.dC i))]) (λ_=>by kernel_rfl) rfl (by kernel_rfl) (λ_=>by kernel_rfl) (λ_=>by kernel_rfl) Try.underlying57 (by kernel_rfl) rfl (by decide) (rfl) (by simp [Value.oneCell']) (dS (j:=3) rfl) (by unfold maxLen;omega) (by omega) (λiP iQ=>?_)
     refine af.aZ 1 (p:=.abs (av 29 1 iP ((2*k1+k2+i)+1) iQ ((ct (MF (aB ns root).1 Ma Mb ns (aO (aB ns root).1).1 Lo Lh k1 k2) (2*k1+k2+i))++[.slice (Lh.dA i) ((nd (aO (aB ns root).1).1 i).data.length) ((Lh.dC i))]))) (p':=.abs (av 29 1 iP (2*k1+k2+i+1) iQ (ct (MF (aB ns root).1 Ma Mb ns (aO (aB ns root).1).1 Lo Lh k1 k2) (2*k1+k2+i+1)))) (by kernel_rfl) (by rw [nT (D4)]) ?_
     refine af.slot 139 (.slice iP ((2*k1+k2+i)+1) (iQ)) (.slice iP (2*k1+k2+i+1) (iQ)) (λ_=>by kernel_rfl) (rfl) ?_
     refine af.aq (k':=10) (fr':=[(12,.pointer (some ⟨b3,0,none⟩)),(16,.slice iP (2*k1+k2+i+1) (iQ)),(19,.int .i64 ↑i)]) (ak:=[]) [o_] [12,16,19] (λ_ _=>by kernel_rfl) trivial ?_
     refine af.nil (by kernel_rfl) (ah.aJ (ah.next (ai.region ?_)))
     refine af.aq (k':=3) (fr':=[(12,.pointer (some ⟨b3,0,none⟩)),(16,.slice iP (2*k1+k2+i+1) (iQ)),(19,.int .i64 ↑(i+1))]) (ak:=[(Value.int .i64 (IntKind.wrap .i64 (((i:Nat):Int)+1)))=(.int .i64 ↑(i+1))]) [o_,⟨[],none,none,none,some (.int .i64 ↑(i+1))⟩,o_] [12,16,19] (λ_ _=>by kernel_rfl) ⟨aP (by omega) (by omega) (by omega),trivial⟩ ?_
     refine af.nil (by kernel_rfl) ?_
     exact ah.turn ((i+1),iP,iQ) (idx:=[12,16,19]) (pk:=[0,1,2]) (show (((i+1))<=k3) from (by omega)) (by show k3-((i+1))<k3-i;omega) (λ_=>by kernel_rfl) rfl (by kernel_rfl)
    have hik:¬i<k3:=by rw [hq] at h128;exact of_decide_eq_false h128
    refine ai.exit (ah.aH (ah.aH (ah.bg (ah.next (ai.seq (ai.region ?_))))))
    have hie:i=k3:=by omega
    refine af.aZ 1 (p:=.abs (av 29 1 Al (2*k1+k2+i) cl (ct (MF (aB ns root).1 Ma Mb ns (aO (aB ns root).1).1 Lo Lh k1 k2) (2*k1+k2+i)))) (p':=.abs (av 29 1 Al (2*k1+k2+k3) cl (ct (MF (aB ns root).1 Ma Mb ns (aO (aB ns root).1).1 Lo Lh k1 k2) (2*k1+k2+k3)))) (by kernel_rfl) (by rw [hie]) ?_
    refine af.slot 16 (.slice Al (2*k1+k2+i) (cl)) (.slice Al (2*k1+k2+k3) (cl)) (λ_=>by kernel_rfl) (by rw [hie]) ?_
    have hmem:=(D5 (k1:=k1) (k2:=k2) (k3:=k3) EF sD EG o7 EH ny kM EI jT (by omega) (by omega) (by omega)).le jq
    have D6:=hle0
    refine af.Ca (hmem.down jo) D6 ?_
    have hle0:=B0.refl W
    refine af.aq (k':=1) (fr':=[(140,.slice Al (2*k1+k2+k3) (cl))]) (ak:=[]) [o_] [140] (λ_ _=>by kernel_rfl) trivial ?_
    refine af.call (f:=33) (args:=#[.slice Al (2*k1+k2+k3) (cl)]) (d:=(some 141)) (pre:=[.abs (av 29 1 Al (2*k1+k2+k3) cl (ct (MF (aB ns root).1 Ma Mb ns (aO (aB ns root).1).1 Lo Lh k1 k2) (2*k1+k2+k3))),.abs (aC (λj=>vg ((MF (aB ns root).1 Ma Mb ns (aO (aB ns root).1).1 Lo Lh k1 k2) j)) (2*k1+k2+k3))]) (R:=[.blk b3 [.slice Ah ((aO (aB ns root).1).1.length) (ch)] 24,.abs R]) (pk:=[1,3,0,2]) (λ_=>by kernel_rfl) (AA (MF (aB ns root).1 Ma Mb ns (aO (aB ns root).1).1 Lo Lh k1 k2) (2*k1+k2+k3) Al cl (by omega) (Dv (by omega) (by omega) (by omega) (fe (root:=root) hB).2 (λi hi=>(hB.hd i hi).1) (λi hi=>(fH.hd i hi).1))) rfl (by kernel_rfl) ?_
    rintro _ _ ⟨rfl,rfl⟩
    refine af.aq (k':=3) (fr':=[(4,.bool true)]) (ak:=[]) [o_] [4] (λ_ _=>by kernel_rfl) trivial ?_
    refine af.nil (by kernel_rfl) (ah.next (ai.ret ?_))
    exact ah.BS (v:=.bool true) (l:=[]) (ak:=[]) [] [1] hle0 (λ_=>by kernel_rfl) trivial rfl (by kernel_rfl) (rfl)
   refine ai.region (af.aq (k':=6) (fr':=[(12,.pointer (some ⟨b3,0,none⟩)),(16,.slice Al (2*k1+k2+i) (cl)),(19,.int .i64 ↑i),(125,.bool (decide ((((i:Nat):Int):Int)<((((aO (aB ns root).1).1.length:Nat):Int):Int))))]) (ak:=[b3=b3]) [o_,o_,⟨[.at 0],none,none,none,none⟩,o_,o_,o_] [12,16,19,125] (λ_ _=>by kernel_rfl) ⟨rfl,trivial⟩ ?_)
   refine af.bO 125 ((((i:Nat):Int):Int)<((((aO (aB ns root).1).1.length:Nat):Int):Int)) (λ_=>by kernel_rfl) (λD7=>?_) (λD7=>?_)
   ·refine af.aq (k':=9) (fr':=[(12,.pointer (some ⟨b3,0,none⟩)),(16,.slice Al (2*k1+k2+i) (cl)),(19,.int .i64 ↑i),(128,.bool (decide ((((i:Nat):Int):Int)<(4:Int))))]) (ak:=[]) [o_,o_,o_] [12,16,19,128] (λ_ _=>by kernel_rfl) trivial ?_
    refine af.nil (by kernel_rfl) ?_
    exact ah.meet ((decide ((((i:Nat):Int):Int)<(4:Int)))) (idx:=[12,16,19,128]) (pk:=[0,1,2]) (show (((decide ((((i:Nat):Int):Int)<(4:Int))))=decide (i<k3)) from (decide_eq_decide.2 ⟨λh=>by omega,λh=>by omega⟩)) (λ_=>by kernel_rfl) rfl (by kernel_rfl)
   refine af.aq (k':=9) (fr':=[(12,.pointer (some ⟨b3,0,none⟩)),(16,.slice Al (2*k1+k2+i) (cl)),(19,.int .i64 ↑i),(128,.bool false)]) (ak:=[]) [o_,o_,o_] [12,16,19,128] (λ_ _=>by kernel_rfl) trivial ?_
   refine af.nil (by kernel_rfl) ?_
   exact ah.meet false (idx:=[12,16,19,128]) (pk:=[0,1,2]) (show (false=decide (i<k3)) from (decide_eq_false (by omega)).symm) (λ_=>by kernel_rfl) rfl (by kernel_rfl)
  refine ai.region (af.aq (k':=6) (fr':=[(5,.pointer (some ⟨b2,0,none⟩)),(12,.pointer (some ⟨b3,0,none⟩)),(16,.slice Al (2*k1+i) (cl)),(18,.int .i64 ↑i),(105,.bool (decide ((((i:Nat):Int):Int)<(((ns.length:Nat):Int):Int))))]) (ak:=[b2=b2]) [o_,o_,⟨[.at 0],none,none,none,none⟩,o_,o_,o_] [5,12,16,18,105] (λ_ _=>by kernel_rfl) ⟨rfl,trivial⟩ ?_)
  refine af.bO 105 ((((i:Nat):Int):Int)<(((ns.length:Nat):Int):Int)) (λ_=>by kernel_rfl) (λD8=>?_) (λD8=>?_)
  ·refine af.aq (k':=9) (fr':=[(5,.pointer (some ⟨b2,0,none⟩)),(12,.pointer (some ⟨b3,0,none⟩)),(16,.slice Al (2*k1+i) (cl)),(18,.int .i64 ↑i),(108,.bool (decide ((((i:Nat):Int):Int)<(4:Int))))]) (ak:=[]) [o_,o_,o_] [5,12,16,18,108] (λ_ _=>by kernel_rfl) trivial ?_
   refine af.nil (by kernel_rfl) ?_
   exact ah.meet ((decide ((((i:Nat):Int):Int)<(4:Int)))) (idx:=[5,12,16,18,108]) (pk:=[0,1,2,3]) (show (((decide ((((i:Nat):Int):Int)<(4:Int))))=decide (i<k2)) from (decide_eq_decide.2 ⟨λh=>by omega,λh=>by omega⟩)) (λ_=>by kernel_rfl) rfl (by kernel_rfl)
  refine af.aq (k':=9) (fr':=[(5,.pointer (some ⟨b2,0,none⟩)),(12,.pointer (some ⟨b3,0,none⟩)),(16,.slice Al (2*k1+i) (cl)),(18,.int .i64 ↑i),(108,.bool false)]) (ak:=[]) [o_,o_,o_] [5,12,16,18,108] (λ_ _=>by kernel_rfl) trivial ?_
  refine af.nil (by kernel_rfl) ?_
  exact ah.meet false (idx:=[5,12,16,18,108]) (pk:=[0,1,2,3]) (show (false=decide (i<k2)) from (decide_eq_false (by omega)).symm) (λ_=>by kernel_rfl) rfl (by kernel_rfl)
 refine ai.region (af.aq (k':=5) (fr':=[(5,.pointer (some ⟨b2,0,none⟩)),(6,.slice Aa ((aB ns root).1.length) (ca)),(8,.slice Ab ((aB ns root).1.length) (cb)),(12,.pointer (some ⟨b3,0,none⟩)),(16,.slice Al (2*i) (cl)),(17,.int .i64 ↑i),(78,.bool (decide ((((i:Nat):Int):Int)<((((aB ns root).1.length:Nat):Int):Int))))]) (ak:=[]) [o_,o_,o_,o_,o_] [5,6,8,12,16,17,78] (λ_ _=>by kernel_rfl) trivial ?_)
 refine af.bO 78 ((((i:Nat):Int):Int)<((((aB ns root).1.length:Nat):Int):Int)) (λ_=>by kernel_rfl) (λqR=>?_) (λqR=>?_)
 ·refine af.aq (k':=8) (fr':=[(5,.pointer (some ⟨b2,0,none⟩)),(6,.slice Aa ((aB ns root).1.length) (ca)),(8,.slice Ab ((aB ns root).1.length) (cb)),(12,.pointer (some ⟨b3,0,none⟩)),(16,.slice Al (2*i) (cl)),(17,.int .i64 ↑i),(81,.bool (decide ((((i:Nat):Int):Int)<(8:Int))))]) (ak:=[]) [o_,o_,o_] [5,6,8,12,16,17,81] (λ_ _=>by kernel_rfl) trivial ?_
  refine af.nil (by kernel_rfl) ?_
  exact ah.meet ((decide ((((i:Nat):Int):Int)<(8:Int)))) (idx:=[5,6,8,12,16,17,81]) (pk:=[0,1,2,3]) (show (((decide ((((i:Nat):Int):Int)<(8:Int))))=decide (i<k1)) from (decide_eq_decide.2 ⟨λh=>by omega,λh=>by omega⟩)) (λ_=>by kernel_rfl) rfl (by kernel_rfl)
 refine af.aq (k':=8) (fr':=[(5,.pointer (some ⟨b2,0,none⟩)),(6,.slice Aa ((aB ns root).1.length) (ca)),(8,.slice Ab ((aB ns root).1.length) (cb)),(12,.pointer (some ⟨b3,0,none⟩)),(16,.slice Al (2*i) (cl)),(17,.int .i64 ↑i),(81,.bool false)]) (ak:=[]) [o_,o_,o_] [5,6,8,12,16,17,81] (λ_ _=>by kernel_rfl) trivial ?_
 refine af.nil (by kernel_rfl) ?_
 exact ah.meet false (idx:=[5,6,8,12,16,17,81]) (pk:=[0,1,2,3]) (show (false=decide (i<k1)) from (decide_eq_false (by omega)).symm) (λ_=>by kernel_rfl) rfl (by kernel_rfl)
end
end Go.Proofs.Ytjpdcppdoonmdaa
