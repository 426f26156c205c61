/-
  PROVED HERE: lemmas and contracts of functions (texts of this repo, joined; what the claim does not use is left out): GPlB, GYa, GPb, Mr, GOk, GSm, GSn, GSo, Vq0, ShelfK, GKs, GFind, GFindR, GY, GLit, GU, GSq, GRd, GPr.
  CONDITIONS: as the theorems say.
-/
import Derived.Test.YtjpdcppdoonmdaaMGmemory3
import Derived.ArgAppend
import Derived.Shelf.SlIterI.Nil
import Derived.Shelf.SortM.Plain
import Derived.Shelf.SortM.SortNone
import Derived.Ground.GgzProg
import Derived.Ground.SlgmProg
import Derived.Test.YtjpdcppdoonmdaaProg
set_option maxRecDepth 100000
set_option maxHeartbeats 4000000
namespace Go.Proofs.Ytjpdcppdoonmdaa
section
open Go.RowKit
attribute [local irreducible] af aN ai ah
theorem su {β:Bs} (c:Nat):Spec Try.prog β 50 #[.slice none 0 c] [] (λv l=>∃B cap,v=.slice B 0 cap/\l=[.abs (av 5 1 B 0 cap [])]):=by
 refine Spec.enter Try.func50 rfl Try.ntmps50 (Nat.le_of_ble_eq_true rfl) (λR=>?_)
 refine ai.seq (ai.region (af.aq (k':=1) (fr':=[(0,.slice none (0) (c))]) (ak:=[]) [o_] [0] (λ_ _=>by kernel_rfl) trivial ?_))
 refine af.nil (by kernel_rfl) (ah.next (ai.seq (ai.seq (ai.region ?_))))
 refine af.aq (k':=2) (fr':=[(0,.slice none (0) (c)),(4,.bool true)]) (ak:=[]) [o_,o_] [0,4] (λ_ _=>by kernel_rfl) trivial ?_
 refine af.nil (by kernel_rfl) (ah.next ?_)
 refine ai.bL (λ_=>by kernel_rfl) ?_
 refine ai.seq (ai.region (af.aq (k':=1) (fr':=[(2,.slice none (0) (0))]) (ak:=[]) [o_] [2] (λ_ _=>by kernel_rfl) trivial ?_))
 refine af.nil (by kernel_rfl) (ah.next (ai.ret (ah.ay ?_)))
 refine ah.mem (λw hS=>(hS.fQ (e:=5) (size:=1)).pick (idx:=[1,0]) (l':=[.abs (av 5 1 none 0 0 ([])),.abs R]) rfl (by kernel_rfl)) ?_
 exact ah.ret (v:=.slice none (0) (0)) (l:=[.abs (av 5 1 none 0 0 ([]))]) (ak:=[]) [] [0,1] (λ_=>by kernel_rfl) trivial rfl (by kernel_rfl) (⟨none,0,rfl,rfl⟩)
theorem rC {β:Bs} (a:Addr) (c:Nat) (d:List UInt8) (hA:bp β (some a) d) (hl:d.length<=1048576):Spec Try.prog β 50 #[.slice (some a) d.length c] [] (λv l=>∃B cap,v=.slice B d.length cap/\l=[.abs (av 5 1 B d.length cap (bX d))]):=by
 refine Spec.enter Try.func50 rfl Try.ntmps50 (Nat.le_of_ble_eq_true rfl) (λR=>?_)
 refine ai.seq (ai.region (af.aq (k':=1) (fr':=[(0,.slice (some a) (d.length) (c))]) (ak:=[]) [o_] [0] (λ_ _=>by kernel_rfl) trivial ?_))
 refine af.nil (by kernel_rfl) (ah.next (ai.seq (ai.seq (ai.region ?_))))
 refine af.aq (k':=2) (fr':=[(0,.slice (some a) (d.length) (c)),(4,.bool false)]) (ak:=[]) [o_,o_] [0,4] (λ_ _=>by kernel_rfl) trivial ?_
 refine af.nil (by kernel_rfl) (ah.next ?_)
 refine ai.cU (λ_=>by kernel_rfl) ?_
 refine ai.skip (ah.next (ai.seq (ai.region ?_)))
 refine af.bD (k':=1) (fr':=λb1=>[(0,.slice (some a) (d.length) (c)),(5,.slice (some ⟨b1,0,none⟩) (0) (0))]) (aL:=λb1=>[.abs R,.blk b1 [] 5]) (ak:=λb1=>[]) [o_] [0,5] [0,1] (λ_ _=>by kernel_rfl) (λb1=>trivial) (λb1=>?_)
 refine af.mem (λw hS=>hS.gT (i:=1) (b:=b1) (cs:=[]) (e:=5) 1 0 (by kernel_rfl) rfl (by decide)) ?_
 refine af.aq (k':=2) (fr':=[(5,.slice (some ⟨b1,0,none⟩) (0) (0)),(6,.slice (some a) (d.length) (c))]) (ak:=[]) [o_] [5,6] (λ_ _=>by kernel_rfl) trivial ?_
 refine af.append 1 (d:=(some 7)) (t:=29) (e:=5) (z:=.int .u8 0) (size:=1) (bytes:=1) (n:=0) (cap:=0) (A:=some ⟨b1,0,none⟩) (xs:=[]) (s:=(.tmp 5)) (x:=(.tmp 6)) (ats:=#[29,29]) (A':=(some a)) (m:=d.length) (c':=c) (news:=(bX d)) (λ_=>by kernel_rfl) rfl (by kernel_rfl) (λ_=>by kernel_rfl) (λ_=>by kernel_rfl) Try.underlying29 (by kernel_rfl) rfl (by decide) (by rw [iF,Nat.mul_one]) (gu d) (hA.src) (by unfold maxLen;omega) (by omega) (λA2 c3=>?_)
 refine af.aZ 1 (p:=.abs (av 5 1 A2 (0+d.length) c3 ([]++(bX d)))) (p':=.abs (av 5 1 A2 d.length c3 (bX d))) (by kernel_rfl) (by rw [Nat.zero_add,List.nil_append]) ?_
 refine af.slot 7 (.slice A2 (0+d.length) (c3)) (.slice A2 (d.length) (c3)) (λ_=>by kernel_rfl) (by rw [Nat.zero_add]) ?_
 refine af.aq (k':=4) (fr':=[(2,.slice A2 (d.length) (c3))]) (ak:=[]) [o_] [2] (λ_ _=>by kernel_rfl) trivial ?_
 refine af.nil (by kernel_rfl) (ah.next (ai.ret ?_))
 exact ah.ret (v:=.slice A2 (d.length) (c3)) (l:=[.abs (av 5 1 A2 d.length c3 (bX d))]) (ak:=[]) [] [1,0] (λ_=>by kernel_rfl) trivial rfl (by kernel_rfl) (⟨A2,c3,rfl,rfl⟩)
theorem vU {β:Bs} (A:Option Addr) (c:Nat) (d:List UInt8) (hA:bp β A d) (hl:d.length<=1048576):Spec Try.prog β 50 #[.slice A d.length c] [] (λv l=>∃B cap,v=.slice B d.length cap/\l=[.abs (av 5 1 B d.length cap (bX d))]):=by
 cases A with
 |some a=>exact rC a c d hA hl
 |none=>
   cases d with
   |nil=>exact su c
   |cons b r=>have h:=bp.hd hA (j:=0) (by simp);cases h
theorem Ad {β:Bs} (A:Option Addr) (c:Nat) (ls:List aR) (M:cQ) (hG:aM β A ls M) (hC:oK ls) (vf:ru ls) :
 Spec Try.prog β 30 #[.slice A ls.length c] [] (λv l=>∃B cp L,v=.tuple #[.agg #[.slice B (aO ls).1.length cp],.int .i64 (aO ls).2]/\l=xE B cp (aO ls).1 L):=by
 refine Spec.enter Try.func30 rfl Try.ntmps30 (Nat.le_of_ble_eq_true rfl) (λR=>?_)
 refine ai.seq (ai.region (af.bD (k':=2) (fr':=λb4=>[(0,.slice A (ls.length) (c)),(2,.pointer (some ⟨b4,0,none⟩))]) (aL:=λb4=>[.abs R,.blk b4 [.slice none (0) (0)] 24]) (ak:=λb4=>[]) [o_,o_] [0,2] [0,1] (λ_ _=>by kernel_rfl) (λb4=>trivial) (λb4=>?_)))
 refine af.nil (by kernel_rfl) (ah.next (ai.seq (ai.region ?_)))
 refine af.bD (k':=1) (fr':=λb5=>[(0,.slice A (ls.length) (c)),(2,.pointer (some ⟨b4,0,none⟩)),(4,.pointer (some ⟨b5,0,none⟩))]) (aL:=λb5=>[.abs R,.blk b4 [.slice none (0) (0)] 24,.blk b5 [.slice none (0) (0)] 24]) (ak:=λb5=>[]) [o_] [0,2,4] [0,1,2] (λ_ _=>by kernel_rfl) (λb5=>trivial) (λb5=>?_)
 refine af.nil (by kernel_rfl) (ah.next (ai.seq (ai.region ?_)))
 refine af.kI (d:=(some 17)) (t:=91) (λ_=>by kernel_rfl) Try.prog rfl 9 (λm6=>?_)
 refine af.aq (k':=2) (fr':=[(0,.slice A (ls.length) (c)),(2,.pointer (some ⟨b4,0,none⟩)),(4,.pointer (some ⟨b5,0,none⟩)),(5,.map (some m6))]) (ak:=[]) [o_] [0,2,4,5] (λ_ _=>by kernel_rfl) trivial ?_
 refine af.nil (by kernel_rfl) (ah.next (ai.seq (ai.seq (ai.region ?_))))
 refine af.mem (λw hS=>hS.fQ (e:=32) (size:=10)) ?_
 refine af.mem (aL:=[.abs R,.blk b4 [.slice none (0) (0)] 24,.blk b5 [.slice none (0) (0)] 24,.abs (aE Try.prog 9 m6 (λ_=>none) 0),.abs (av 32 10 none 0 0 ([])),.abs (aC (aQ [] bU) 0)]) (λw hS=>hS.eU (aQ [] bU)) ?_
 refine af.mem (aL:=[.abs R,.blk b4 [.slice none (0) (0)] 24,.blk b5 [.slice none (0) (0)] 24,.abs (aE Try.prog 9 m6 (λ_=>none) 0),.abs (av 32 10 none 0 0 ([])),.abs (aC (aQ [] bU) 0),.abs (aC (aT [] bU) 0)]) (λw hS=>hS.eU (aT [] bU)) ?_
 refine af.aZ 3 (p:=.abs (aE Try.prog 9 m6 (λ_=>none) 0)) (p':=.abs (aE Try.prog 9 m6 (mS (cX ls [] 0)) 0)) (by kernel_rfl) (by rw [z7]) ?_
 refine af.aq (k':=3) (fr':=[(0,.slice A (ls.length) (c)),(2,.pointer (some ⟨b4,0,none⟩)),(4,.pointer (some ⟨b5,0,none⟩)),(5,.map (some m6)),(18,.slice A (ls.length) (c)),(19,.int .i64 ↑ls.length),(20,.int .i64 0)]) (ak:=[]) [o_,o_,o_] [0,2,4,5,18,19,20] (λ_ _=>by kernel_rfl) trivial ?_
 refine af.nil (by kernel_rfl) (ah.next (ai.block ?_))
 refine ai.loop (ι:=Nat×PS×Lay×(Option Addr)×Nat) (λ((i,s,L,An,cn):Nat×PS×Lay×(Option Addr)×Nat)=>(i<=ls.length)/\(iU ls s i)) (λ((i,s,L,An,cn):Nat×PS×Lay×(Option Addr)×Nat)=>ls.length-i) (λ((i,s,L,An,cn):Nat×PS×Lay×(Option Addr)×Nat)=>[(0,.slice A (ls.length) (c)),(2,.pointer (some ⟨b4,0,none⟩)),(4,.pointer (some ⟨b5,0,none⟩)),(5,.map (some m6)),(18,.slice A (ls.length) (c)),(19,.int .i64 ↑ls.length),(20,.int .i64 ↑i)]) (λ((i,s,L,An,cn):Nat×PS×Lay×(Option Addr)×Nat)=>[.blk b5 [.slice An (s.ns.length) (cn)] 24,.abs (av 32 10 An s.ns.length cn (aK L s.ns)),.abs (aC (aQ s.ns L) s.ns.length),.abs (aC (aT s.ns L) s.ns.length),.abs (aE Try.prog 9 m6 (mS (cX ls s.ids i)) i),.blk b4 [.slice none (0) (0)] 24,.abs R]) (0,kA,bU,none,0) (idx:=[0,2,4,5,18,19,20]) (pk:=[2,4,5,6,3,1,0]) (show (0<=ls.length)/\(iU ls kA 0) from ⟨Nat.zero_le _,iU.zero ls⟩) (λ_=>by kernel_rfl) rfl (by kernel_rfl) ?_
 rintro⟨i,s,L,An,cn⟩ ⟨hi,hP⟩
 show ai _ _ _ _ [(0,.slice A (ls.length) (c)),(2,.pointer (some ⟨b4,0,none⟩)),(4,.pointer (some ⟨b5,0,none⟩)),(5,.map (some m6)),(18,.slice A (ls.length) (c)),(19,.int .i64 ↑ls.length),(20,.int .i64 ↑i)] [.blk b5 [.slice An (s.ns.length) (cn)] 24,.abs (av 32 10 An s.ns.length cn (aK L s.ns)),.abs (aC (aQ s.ns L) s.ns.length),.abs (aC (aT s.ns L) s.ns.length),.abs (aE Try.prog 9 m6 (mS (cX ls s.ids i)) i),.blk b4 [.slice none (0) (0)] 24,.abs R] _
 have hll:=hC.len
 have hnl:=hP.inv.CM
 refine ai.seq (ai.region (af.aq (k':=1) (fr':=[(0,.slice A (ls.length) (c)),(2,.pointer (some ⟨b4,0,none⟩)),(4,.pointer (some ⟨b5,0,none⟩)),(5,.map (some m6)),(18,.slice A (ls.length) (c)),(19,.int .i64 ↑ls.length),(20,.int .i64 ↑i),(21,.bool (decide ((((i:Nat):Int):Int)<(((ls.length:Nat):Int):Int))))]) (ak:=[]) [o_] [0,2,4,5,18,19,20,21] (λ_ _=>by kernel_rfl) trivial ?_))
 refine af.nil (by kernel_rfl) (ah.next (ai.seq ?_))
 refine ai.aV (p:=(((i:Nat):Int):Int)<(((ls.length:Nat):Int):Int)) (λ_=>by kernel_rfl) (λsW=>?_) (λsW=>?_)
 ·have hi2:i<ls.length:=by omega
  have hpa:=hC.path i hi2
  have hpe:=hC.peer i hi2
  refine ai.skip (ah.next (ai.seq (ai.block (ai.seq (ai.region ?_)))))
  refine af.bD (k':=6) (fr':=λb7=>[(0,.slice A (ls.length) (c)),(2,.pointer (some ⟨b4,0,none⟩)),(4,.pointer (some ⟨b5,0,none⟩)),(5,.map (some m6)),(6,.int .i64 ↑i),(7,.pointer (some ⟨b7,0,none⟩)),(18,.slice A (ls.length) (c)),(19,.int .i64 ↑ls.length),(20,.int .i64 ↑i)]) (aL:=λb7=>[.blk b5 [.slice An (s.ns.length) (cn)] 24,.abs (av 32 10 An s.ns.length cn (aK L s.ns)),.abs (aC (aQ s.ns L) s.ns.length),.abs (aC (aT s.ns L) s.ns.length),.abs (aE Try.prog 9 m6 (mS (cX ls s.ids i)) i),.blk b4 [.slice none (0) (0)] 24,.abs R,.blk b7 (bE (M.dA i) (M.dC i) (ln ls i)) 51]) (ak:=λb7=>[b7=b7,b7=b7,b7=b7,b7=b7,b7=b7,b7=b7,b7=b7,b7=b7,b7=b7,b7=b7,(Rd β ⟨(au A),ar A+i*10+9,none⟩ (.string (ln ls i).peer)),(Rd β ⟨(au A),ar A+i*10+8,none⟩ (.string (ln ls i).target)),(Rd β ⟨(au A),ar A+i*10+7,none⟩ (.slice (M.dA i) ((ln ls i).data.length) ((M.dC i)))),(Rd β ⟨(au A),ar A+i*10+6,none⟩ (.int .i64 ((ln ls i).nano))),(Rd β ⟨(au A),ar A+i*10+5,none⟩ (.int .i64 ((ln ls i).sec))),(Rd β ⟨(au A),ar A+i*10+4,none⟩ (.int .i64 ((ln ls i).gid))),(Rd β ⟨(au A),ar A+i*10+3,none⟩ (.int .i64 ((ln ls i).uid))),(Rd β ⟨(au A),ar A+i*10+2,none⟩ (.int .i64 ((ln ls i).mode))),(Rd β ⟨(au A),ar A+i*10+1,none⟩ (.int .i64 ((ln ls i).kind))),(Rd β ⟨(au A),ar A+i*10,none⟩ (.string (ln ls i).path)),((i:Nat):Int)=((i:Nat):Int),i<ls.length,(⟨(au A),ar A,none⟩:Addr).spot=none,(A:Option Addr)=some ⟨(au A),ar A,none⟩]) [o_,⟨[],some i,none,some ⟨(au A),ar A,none⟩,none⟩,⟨[.old (.string (ln ls i).path),.old (.int .i64 ((ln ls i).kind)),.old (.int .i64 ((ln ls i).mode)),.old (.int .i64 ((ln ls i).uid)),.old (.int .i64 ((ln ls i).gid)),.old (.int .i64 ((ln ls i).sec)),.old (.int .i64 ((ln ls i).nano)),.old (.slice (M.dA i) ((ln ls i).data.length) ((M.dC i))),.old (.string (ln ls i).target),.old (.string (ln ls i).peer)],none,none,none,none⟩,o_,o_,⟨[.at 7,.at 7,.at 7,.at 7,.at 7,.at 7,.at 7,.at 7,.at 7,.at 7],none,none,none,none⟩] [0,2,4,5,6,7,18,19,20] [0,1,2,3,4,5,6,7] (λ_ _=>by kernel_rfl) (λb7=>⟨rfl,rfl,rfl,rfl,rfl,rfl,rfl,rfl,rfl,rfl,aM.rd hG (i:=i) (by omega) (j:=9) rfl,aM.rd hG (i:=i) (by omega) (j:=8) rfl,aM.rd hG (i:=i) (by omega) (j:=7) rfl,aM.rd hG (i:=i) (by omega) (j:=6) rfl,aM.rd hG (i:=i) (by omega) (j:=5) rfl,aM.rd hG (i:=i) (by omega) (j:=4) rfl,aM.rd hG (i:=i) (by omega) (j:=3) rfl,aM.rd hG (i:=i) (by omega) (j:=2) rfl,aM.rd hG (i:=i) (by omega) (j:=1) rfl,aM.rd hG (i:=i) (by omega) (j:=0) rfl,rfl,by omega,rfl,aM.hd hG (i:=i) (by omega),trivial⟩) (λb7=>?_)
  refine af.nil (by kernel_rfl) (ah.next (ai.seq (ai.region ?_)))
  refine af.aq (k':=3) (fr':=[(0,.slice A (ls.length) (c)),(2,.pointer (some ⟨b4,0,none⟩)),(4,.pointer (some ⟨b5,0,none⟩)),(5,.map (some m6)),(6,.int .i64 ↑i),(7,.pointer (some ⟨b7,0,none⟩)),(18,.slice A (ls.length) (c)),(19,.int .i64 ↑ls.length),(20,.int .i64 ↑i),(25,.map (some m6)),(27,.string (ln ls i).peer)]) (ak:=[b7=b7]) [o_,o_,⟨[.at 7],none,none,none,none⟩] [0,2,4,5,6,7,18,19,20,25,27] (λ_ _=>by kernel_rfl) ⟨rfl,trivial⟩ ?_
  refine af.dO 4 (d:=(some 28)) (t:=91) (K:=9) (E:=3) (b:=m6) (n:=i) (f:=(mS (cX ls s.ids i))) (x:=(.tmp 25)) (ix:=(.tmp 27)) (key:=.string (ln ls i).peer) (z:=.int .i64 0) (kl:=(.string (ln ls i).peer.data.toList)) (r:=(cX ls s.ids i (ln ls i).peer)) (λ_=>by kernel_rfl) (by kernel_rfl) (λ_=>by kernel_rfl) (λ_=>by kernel_rfl) si Try.underlying91 (λ_=>by kernel_rfl) (sj (by omega)) (tS _ _) ?_
  refine af.slot 28 (((cX ls s.ids i (ln ls i).peer).getD (.int .i64 0))) (.int .i64 ↑(bS ls s.ids (ln ls i).peer i)) (λ_=>by kernel_rfl) (wM _ _ _ _) ?_
  refine af.aq (k':=5) (fr':=[(0,.slice A (ls.length) (c)),(2,.pointer (some ⟨b4,0,none⟩)),(4,.pointer (some ⟨b5,0,none⟩)),(5,.map (some m6)),(6,.int .i64 ↑i),(7,.pointer (some ⟨b7,0,none⟩)),(8,.int .i64 ↑(bS ls s.ids (ln ls i).peer i)),(18,.slice A (ls.length) (c)),(19,.int .i64 ↑ls.length),(20,.int .i64 ↑i)]) (ak:=[]) [o_] [0,2,4,5,6,7,8,18,19,20] (λ_ _=>by kernel_rfl) trivial ?_
  refine af.nil (by kernel_rfl) (ah.next ?_)
  refine ai.join (ι:=Lay×(Option Addr)×Nat) (λ((L2,dZ,bW):Lay×(Option Addr)×Nat)=>True) (λ((L2,dZ,bW):Lay×(Option Addr)×Nat)=>[(0,.slice A (ls.length) (c)),(2,.pointer (some ⟨b4,0,none⟩)),(4,.pointer (some ⟨b5,0,none⟩)),(5,.map (some m6)),(6,.int .i64 ↑i),(7,.pointer (some ⟨b7,0,none⟩)),(8,.int .i64 ↑(newId ls s i)),(18,.slice A (ls.length) (c)),(19,.int .i64 ↑ls.length),(20,.int .i64 ↑i)]) (λ((L2,dZ,bW):Lay×(Option Addr)×Nat)=>[.abs (aE Try.prog 9 m6 (mS (cX ls s.ids i)) i),.blk b4 [.slice none (0) (0)] 24,.blk b7 (bE (M.dA i) (M.dC i) (ln ls i)) 51,.blk b5 [.slice dZ ((ax ls s i).length) (bW)] 24,.abs (av 32 10 dZ ((ax ls s i).length) bW (aK L2 (ax ls s i))),.abs (aC (aQ (ax ls s i) L2) ((ax ls s i).length)),.abs (aC (aT (ax ls s i) L2) ((ax ls s i).length)),.abs R]) ?_ ?_
  ·rintro⟨L2,dZ,bW⟩ _
   show ai _ _ _ _ [(0,.slice A (ls.length) (c)),(2,.pointer (some ⟨b4,0,none⟩)),(4,.pointer (some ⟨b5,0,none⟩)),(5,.map (some m6)),(6,.int .i64 ↑i),(7,.pointer (some ⟨b7,0,none⟩)),(8,.int .i64 ↑(newId ls s i)),(18,.slice A (ls.length) (c)),(19,.int .i64 ↑ls.length),(20,.int .i64 ↑i)] [.abs (aE Try.prog 9 m6 (mS (cX ls s.ids i)) i),.blk b4 [.slice none (0) (0)] 24,.blk b7 (bE (M.dA i) (M.dC i) (ln ls i)) 51,.blk b5 [.slice dZ ((ax ls s i).length) (bW)] 24,.abs (av 32 10 dZ ((ax ls s i).length) bW (aK L2 (ax ls s i))),.abs (aC (aQ (ax ls s i) L2) ((ax ls s i).length)),.abs (aC (aT (ax ls s i) L2) ((ax ls s i).length)),.abs R] _
   refine ai.seq (ai.seq ?_)
   by_cases hid:bS ls s.ids (ln ls i).path i=0
   ·refine ai.region (af.aq (k':=3) (fr':=[(0,.slice A (ls.length) (c)),(2,.pointer (some ⟨b4,0,none⟩)),(4,.pointer (some ⟨b5,0,none⟩)),(5,.map (some m6)),(6,.int .i64 ↑i),(7,.pointer (some ⟨b7,0,none⟩)),(8,.int .i64 ↑(newId ls s i)),(18,.slice A (ls.length) (c)),(19,.int .i64 ↑ls.length),(20,.int .i64 ↑i),(59,.map (some m6)),(61,.string (ln ls i).path)]) (ak:=[b7=b7]) [o_,o_,⟨[.at 2],none,none,none,none⟩] [0,2,4,5,6,7,8,18,19,20,59,61] (λ_ _=>by kernel_rfl) ⟨rfl,trivial⟩ ?_)
    refine af.lq 0 (d:=(some 62)) (t:=91) (K:=9) (E:=3) (b:=m6) (n:=i) (f:=(mS (cX ls s.ids i))) (x:=(.tmp 59)) (ix:=(.tmp 61)) (key:=.string (ln ls i).path) (z:=.int .i64 0) (kl:=(.string (ln ls i).path.data.toList)) (r:=none) (λ_=>by kernel_rfl) (by kernel_rfl) (λ_=>by kernel_rfl) (λ_=>by kernel_rfl) si Try.underlying91 (λ_=>by kernel_rfl) (sj (by omega)) (u6 hid) ?_
    refine af.aq (k':=9) (fr':=[(0,.slice A (ls.length) (c)),(2,.pointer (some ⟨b4,0,none⟩)),(4,.pointer (some ⟨b5,0,none⟩)),(5,.map (some m6)),(6,.int .i64 ↑i),(7,.pointer (some ⟨b7,0,none⟩)),(8,.int .i64 ↑(newId ls s i)),(10,.bool false),(18,.slice A (ls.length) (c)),(19,.int .i64 ↑ls.length),(20,.int .i64 ↑i)]) (ak:=[]) [o_,o_,o_,o_,o_] [0,2,4,5,6,7,8,10,18,19,20] (λ_ _=>by kernel_rfl) trivial ?_
    refine af.nil (by kernel_rfl) (ah.next (ai.seq (ai.region ?_)))
    refine af.aq (k':=5) (fr':=[(0,.slice A (ls.length) (c)),(2,.pointer (some ⟨b4,0,none⟩)),(4,.pointer (some ⟨b5,0,none⟩)),(5,.map (some m6)),(6,.int .i64 ↑i),(7,.pointer (some ⟨b7,0,none⟩)),(8,.int .i64 ↑(newId ls s i)),(18,.slice A (ls.length) (c)),(19,.int .i64 ↑ls.length),(20,.int .i64 ↑i),(69,.bool (decide (((((newId ls s i):Nat):Int):Int)=(0:Int))))]) (ak:=[]) [o_,o_,o_,o_,o_] [0,2,4,5,6,7,8,18,19,20,69] (λ_ _=>by kernel_rfl) trivial ?_
    refine af.nil (by kernel_rfl) (ah.next ?_)
    refine ai.aV (p:=((((newId ls s i):Nat):Int):Int)=(0:Int)) (λ_=>by kernel_rfl) (λwB=>?_) (λwB=>?_)
    ·refine ai.seq (ai.region (af.seg (k':=3) (fr':=[(2,.pointer (some ⟨b4,0,none⟩)),(3,.int .i64 151)]) (aL:=[.abs (aE Try.prog 9 m6 (mS (cX ls s.ids i)) i),.blk b4 [.slice none (0) (0)] 24,.blk b7 (bE (M.dA i) (M.dC i) (ln ls i)) 51,.blk b5 [.slice dZ ((ax ls s i).length) (bW)] 24,.abs (av 32 10 dZ ((ax ls s i).length) bW (aK L2 (ax ls s i))),.abs (aC (aQ (ax ls s i) L2) ((ax ls s i).length)),.abs (aC (aT (ax ls s i) L2) ((ax ls s i).length)),.abs R]) (ak:=[b4=b4]) [o_,⟨[.at 1],none,none,none,none⟩,o_] [2,3] [0,1,2,3,4,5,6,7] (λ_ _=>by kernel_rfl) ⟨rfl,trivial⟩ ?_))
     refine af.nil (by kernel_rfl) (ah.next (ai.ret (ah.ay (ah.aG (ah.ay (ah.ay (ah.aG (ah.ay ?_))))))))
     refine ah.mem (aL:=[.abs (aE Try.prog 9 m6 (mS (cX ls s.ids i)) i),.blk b4 [.slice none (0) (0)] 24,.blk b7 (bE (M.dA i) (M.dC i) (ln ls i)) 51,.blk b5 [.slice dZ ((ax ls s i).length) (bW)] 24,.abs (av 32 10 dZ ((ax ls s i).length) bW (aK L2 (ax ls s i))),.abs (aC (aQ (ax ls s i) L2) ((ax ls s i).length)),.abs (aC (aT (ax ls s i) L2) ((ax ls s i).length)),.abs R,.abs (av 32 10 none 0 0 ([])),.abs (aC (aQ [] bU) 0),.abs (aC (aT [] bU) 0)]) (λw hS=>((hS.fQ (e:=32) (size:=10)).eU (aQ [] bU)).eU (aT [] bU)) ?_
     exact ah.ret (v:=.tuple #[.agg #[.slice none (0) (0)],.int .i64 151]) (l:=[.abs (av 32 10 none 0 0 ([])),.abs (aC (aQ [] bU) 0),.abs (aC (aT [] bU) 0)]) (ak:=[b4=b4]) [.at 1] [8,9,10,7] (λ_=>by kernel_rfl) ⟨rfl,trivial⟩ rfl (by kernel_rfl) (⟨none,0,bU,by rw [gJ (hP.stop hi2 (rA (by omega)))];rfl,by rw [gJ (hP.stop hi2 (rA (by omega)))];rfl⟩)
    refine ai.skip (ah.next (ai.seq (ai.seq (ai.region ?_))))
    refine af.aq (k':=2) (fr':=[(0,.slice A (ls.length) (c)),(2,.pointer (some ⟨b4,0,none⟩)),(4,.pointer (some ⟨b5,0,none⟩)),(5,.map (some m6)),(7,.pointer (some ⟨b7,0,none⟩)),(8,.int .i64 ↑(newId ls s i)),(18,.slice A (ls.length) (c)),(19,.int .i64 ↑ls.length),(20,.int .i64 ↑i),(72,.bool (decide ((((i:Nat):Int):Int)>(0:Int))))]) (ak:=[]) [o_,o_] [0,2,4,5,7,8,18,19,20,72] (λ_ _=>by kernel_rfl) trivial ?_
    refine af.nil (by kernel_rfl) (ah.next ?_)
    refine ai.aV (p:=(((i:Nat):Int):Int)>(0:Int)) (λ_=>by kernel_rfl) (λEo=>?_) (λEo=>?_)
    ·refine ai.seq (ai.ga (by kernel_rfl) (by kernel_rfl) ?_)
     refine aN.seg (k':=4) (fr':=[(0,.slice A (ls.length) (c)),(2,.pointer (some ⟨b4,0,none⟩)),(4,.pointer (some ⟨b5,0,none⟩)),(5,.map (some m6)),(7,.pointer (some ⟨b7,0,none⟩)),(8,.int .i64 ↑(newId ls s i)),(11,.int .i64 1),(12,.string (ln ls i).path),(18,.slice A (ls.length) (c)),(19,.int .i64 ↑ls.length),(20,.int .i64 ↑i)]) (ak:=[b7=b7]) [o_,⟨[.at 2],none,none,none,none⟩,o_,o_] [0,2,4,5,7,8,11,12,18,19,20] (λ_ _=>by kernel_rfl) ⟨rfl,trivial⟩ ?_
     refine aN.nil (by kernel_rfl) (ah.next ?_)
     refine ai.join (ι:=Unit) (λ(u:Unit)=>True) (λ(u:Unit)=>[(0,.slice A (ls.length) (c)),(2,.pointer (some ⟨b4,0,none⟩)),(4,.pointer (some ⟨b5,0,none⟩)),(5,.map (some m6)),(7,.pointer (some ⟨b7,0,none⟩)),(8,.int .i64 ↑(newId ls s i)),(11,.int .i64 ↑(bH ls s i)),(12,.string (nameOf (ln ls i).path)),(18,.slice A (ls.length) (c)),(19,.int .i64 ↑ls.length),(20,.int .i64 ↑i)]) (λ(u:Unit)=>[.abs (aE Try.prog 9 m6 (mS (cX ls s.ids i)) i),.blk b4 [.slice none (0) (0)] 24,.blk b7 (bE (M.dA i) (M.dC i) (ln ls i)) 51,.blk b5 [.slice dZ ((ax ls s i).length) (bW)] 24,.abs (av 32 10 dZ ((ax ls s i).length) bW (aK L2 (ax ls s i))),.abs (aC (aQ (ax ls s i) L2) ((ax ls s i).length)),.abs (aC (aT (ax ls s i) L2) ((ax ls s i).length)),.abs R]) ?_ ?_
     ·rintro u _
      show ai _ _ _ _ [(0,.slice A (ls.length) (c)),(2,.pointer (some ⟨b4,0,none⟩)),(4,.pointer (some ⟨b5,0,none⟩)),(5,.map (some m6)),(7,.pointer (some ⟨b7,0,none⟩)),(8,.int .i64 ↑(newId ls s i)),(11,.int .i64 ↑(bH ls s i)),(12,.string (nameOf (ln ls i).path)),(18,.slice A (ls.length) (c)),(19,.int .i64 ↑ls.length),(20,.int .i64 ↑i)] [.abs (aE Try.prog 9 m6 (mS (cX ls s.ids i)) i),.blk b4 [.slice none (0) (0)] 24,.blk b7 (bE (M.dA i) (M.dC i) (ln ls i)) 51,.blk b5 [.slice dZ ((ax ls s i).length) (bW)] 24,.abs (av 32 10 dZ ((ax ls s i).length) bW (aK L2 (ax ls s i))),.abs (aC (aQ (ax ls s i) L2) ((ax ls s i).length)),.abs (aC (aT (ax ls s i) L2) ((ax ls s i).length)),.abs R] _
      refine ai.seq (ai.seq (ai.region (af.aq (k':=2) (fr':=[(0,.slice A (ls.length) (c)),(2,.pointer (some ⟨b4,0,none⟩)),(4,.pointer (some ⟨b5,0,none⟩)),(5,.map (some m6)),(7,.pointer (some ⟨b7,0,none⟩)),(8,.int .i64 ↑(newId ls s i)),(11,.int .i64 ↑(bH ls s i)),(12,.string (nameOf (ln ls i).path)),(18,.slice A (ls.length) (c)),(19,.int .i64 ↑ls.length),(20,.int .i64 ↑i),(92,.bool (decide (((((bH ls s i):Nat):Int):Int)=(0:Int))))]) (ak:=[]) [o_,o_] [0,2,4,5,7,8,11,12,18,19,20,92] (λ_ _=>by kernel_rfl) trivial ?_)))
      refine af.nil (by kernel_rfl) (ah.next ?_)
      refine ai.aV (p:=((((bH ls s i):Nat):Int):Int)=(0:Int)) (λ_=>by kernel_rfl) (λEp=>?_) (λEp=>?_)
      ·refine ai.seq (ai.region (af.seg (k':=3) (fr':=[(2,.pointer (some ⟨b4,0,none⟩)),(3,.int .i64 151)]) (aL:=[.abs (aE Try.prog 9 m6 (mS (cX ls s.ids i)) i),.blk b4 [.slice none (0) (0)] 24,.blk b7 (bE (M.dA i) (M.dC i) (ln ls i)) 51,.blk b5 [.slice dZ ((ax ls s i).length) (bW)] 24,.abs (av 32 10 dZ ((ax ls s i).length) bW (aK L2 (ax ls s i))),.abs (aC (aQ (ax ls s i) L2) ((ax ls s i).length)),.abs (aC (aT (ax ls s i) L2) ((ax ls s i).length)),.abs R]) (ak:=[b4=b4]) [o_,⟨[.at 1],none,none,none,none⟩,o_] [2,3] [0,1,2,3,4,5,6,7] (λ_ _=>by kernel_rfl) ⟨rfl,trivial⟩ ?_))
       refine af.nil (by kernel_rfl) (ah.next (ai.ret (ah.ay (ah.ay (ah.aG (ah.ay (ah.ay (ah.aG (ah.ay ?_)))))))))
       refine ah.mem (aL:=[.abs (aE Try.prog 9 m6 (mS (cX ls s.ids i)) i),.blk b4 [.slice none (0) (0)] 24,.blk b7 (bE (M.dA i) (M.dC i) (ln ls i)) 51,.blk b5 [.slice dZ ((ax ls s i).length) (bW)] 24,.abs (av 32 10 dZ ((ax ls s i).length) bW (aK L2 (ax ls s i))),.abs (aC (aQ (ax ls s i) L2) ((ax ls s i).length)),.abs (aC (aT (ax ls s i) L2) ((ax ls s i).length)),.abs R,.abs (av 32 10 none 0 0 ([])),.abs (aC (aQ [] bU) 0),.abs (aC (aT [] bU) 0)]) (λw hS=>((hS.fQ (e:=32) (size:=10)).eU (aQ [] bU)).eU (aT [] bU)) ?_
       exact ah.ret (v:=.tuple #[.agg #[.slice none (0) (0)],.int .i64 151]) (l:=[.abs (av 32 10 none 0 0 ([])),.abs (aC (aQ [] bU) 0),.abs (aC (aT [] bU) 0)]) (ak:=[b4=b4]) [.at 1] [8,9,10,7] (λ_=>by kernel_rfl) ⟨rfl,trivial⟩ rfl (by kernel_rfl) (⟨none,0,bU,by rw [gJ (hP.stop hi2 (mV hid (by omega) (by omega) (by omega)))];rfl,by rw [gJ (hP.stop hi2 (mV hid (by omega) (by omega) (by omega)))];rfl⟩)
      refine ai.skip (ah.next (ai.seq (ai.region ?_)))
      have AX:0<i:=by omega
      have hp1:=wJ hP.inv AX
      have hp2:=jO (ls:=ls) (s:=s) (i:=i)
      have ke:((bH ls s i)-1)<(ax ls s i).length:=by omega
      have hel:=(dY.new (ls:=ls) hP.aj) ((bH ls s i)-1) ke
      refine af.tell (p:=∃g,dZ=some ⟨g,0,none⟩) (λw hS=>let ⟨F,h⟩:=hS.get (i:=4) rfl;av.head h (by omega)) (λ⟨g8,hg⟩=>?_)
      subst hg
      refine af.aq (k':=7) (fr':=[(0,.slice A (ls.length) (c)),(2,.pointer (some ⟨b4,0,none⟩)),(4,.pointer (some ⟨b5,0,none⟩)),(5,.map (some m6)),(7,.pointer (some ⟨b7,0,none⟩)),(8,.int .i64 ↑(newId ls s i)),(12,.string (nameOf (ln ls i).path)),(14,.pointer (some ⟨g8,((bH ls s i)-1)*10+9,none⟩)),(18,.slice A (ls.length) (c)),(19,.int .i64 ↑ls.length),(20,.int .i64 ↑i)]) (ak:=[(Value.pointer (some ⟨g8,0+((bH ls s i)-1)*10,none⟩))=(.pointer (some ⟨g8,((bH ls s i)-1)*10,none⟩)),((((bH ls s i)-1):Nat):Int)=((((bH ls s i)-1):Nat):Int),((bH ls s i)-1)<(ax ls s i).length,(⟨g8,0,none⟩:Addr).spot=none,(Value.int .i64 (IntKind.wrap .i64 ((((bH ls s i):Nat):Int)-1)))=(.int .i64 ↑((bH ls s i)-1)),b5=b5]) [o_,⟨[.at 3],none,none,none,none⟩,o_,⟨[],none,none,none,some (.int .i64 ↑((bH ls s i)-1))⟩,⟨[],some ((bH ls s i)-1),none,none,some (.pointer (some ⟨g8,((bH ls s i)-1)*10,none⟩))⟩,o_,o_] [0,2,4,5,7,8,12,14,18,19,20] (λ_ _=>by kernel_rfl) ⟨by simp,rfl,by omega,rfl,aP (by omega) (by omega) (by omega),rfl,trivial⟩ ?_
      refine af.nil (by kernel_rfl) (ah.next (ai.region ?_))
      refine af.bD (k':=8) (fr':=λb9=>[(0,.slice A (ls.length) (c)),(2,.pointer (some ⟨b4,0,none⟩)),(4,.pointer (some ⟨b5,0,none⟩)),(5,.map (some m6)),(7,.pointer (some ⟨b7,0,none⟩)),(8,.int .i64 ↑(newId ls s i)),(18,.slice A (ls.length) (c)),(19,.int .i64 ↑ls.length),(20,.int .i64 ↑i),(100,.pointer (some ⟨g8,((bH ls s i)-1)*10+9,none⟩)),(103,.slice (L2.eA ((bH ls s i)-1)) ((nd (ax ls s i) ((bH ls s i)-1)).aj.length) ((L2.eC ((bH ls s i)-1)))),(107,.slice (some ⟨b9,0,none⟩) (1) (1))]) (aL:=λb9=>[.abs (aE Try.prog 9 m6 (mS (cX ls s.ids i)) i),.blk b4 [.slice none (0) (0)] 24,.blk b7 (bE (M.dA i) (M.dC i) (ln ls i)) 51,.blk b5 [.slice (some ⟨g8,0,none⟩) ((ax ls s i).length) (bW)] 24,.abs (av 32 10 (some ⟨g8,0,none⟩) ((ax ls s i).length) bW (aK L2 (ax ls s i))),.abs (aC (aQ (ax ls s i) L2) ((ax ls s i).length)),.abs (aC (aT (ax ls s i) L2) ((ax ls s i).length)),.abs R,.blk b9 [.string (nameOf (ln ls i).path),.int .i64 ↑(newId ls s i)] 72]) (ak:=λb9=>[(∀F w,(av 32 10 (some ⟨g8,0,none⟩) ((ax ls s i).length) bW (aK L2 (ax ls s i))).h F w->w.cell? ⟨g8,((bH ls s i)-1)*10+9,none⟩=some (.slice (L2.eA ((bH ls s i)-1)) ((nd (ax ls s i) ((bH ls s i)-1)).aj.length) ((L2.eC ((bH ls s i)-1)))))]) [o_,o_,o_,⟨[.view 4 (.slice (L2.eA ((bH ls s i)-1)) ((nd (ax ls s i) ((bH ls s i)-1)).aj.length) ((L2.eC ((bH ls s i)-1))))],none,none,none,none⟩,o_,o_,o_,o_] [0,2,4,5,7,8,18,19,20,100,103,107] [0,1,2,3,4,5,6,7,8] (λ_ _=>by kernel_rfl) (λb9=>⟨av.cell (rz (k:=((bH ls s i)-1)) (j:=9) (by omega) rfl),trivial⟩) (λb9=>?_)
      refine af.mem (aL:=[.abs (aE Try.prog 9 m6 (mS (cX ls s.ids i)) i),.blk b4 [.slice none (0) (0)] 24,.blk b7 (bE (M.dA i) (M.dC i) (ln ls i)) 51,.blk b5 [.slice (some ⟨g8,0,none⟩) ((ax ls s i).length) (bW)] 24,.abs (av 32 10 (some ⟨g8,0,none⟩) ((ax ls s i).length) bW (aK L2 (ax ls s i))),.abs (aC (fL (aQ (ax ls s i) L2) ((bH ls s i)-1) dh.none) ((ax ls s i).length)),.abs (aC (aT (ax ls s i) L2) ((ax ls s i).length)),.abs R,.blk b9 [.string (nameOf (ln ls i).path),.int .i64 ↑(newId ls s i)] 72,.abs (av 72 2 (L2.eA ((bH ls s i)-1)) ((nd (ax ls s i) ((bH ls s i)-1)).aj.length) (L2.eC ((bH ls s i)-1)) (gA (nd (ax ls s i) ((bH ls s i)-1)).aj))]) (λw hS=>hS.wq (i:=5) (k:=((bH ls s i)-1)) rfl (ke)) ?_
      refine af.append 9 (d:=(some 108)) (t:=30) (e:=72) (z:=.agg #[.string ⟨#[]⟩,.int .i64 0]) (size:=2) (bytes:=24) (n:=(nd (ax ls s i) ((bH ls s i)-1)).aj.length) (cap:=(L2.eC ((bH ls s i)-1))) (A:=(L2.eA ((bH ls s i)-1))) (xs:=(gA (nd (ax ls s i) ((bH ls s i)-1)).aj)) (s:=(.tmp 103)) (x:=(.tmp 107)) (ats:=#[30,30]) (A':=some ⟨b9,0,none⟩) (m:=1) (c':=1) (news:=[.string (nameOf (ln ls i).path),.int .i64 ↑(newId ls s i)]) (λ_=>by kernel_rfl) rfl (by kernel_rfl) (λ_=>by kernel_rfl) (λ_=>by kernel_rfl) Try.underlying30 (by kernel_rfl) rfl (by decide) (by simp) (by simp [Value.oneCell']) (dS (j:=8) rfl) (by unfold maxLen;omega) (by omega) (λbM c11=>?_)
      refine af.mem (aL:=[.abs (aC (aQ (cA (ax ls s i) ((bH ls s i)-1) (⟨nameOf (ln ls i).path,(((newId ls s i):Nat):Int)⟩:bV)) (L2.ent ((bH ls s i)-1) bM c11)) ((ax ls s i).length)),.abs (aE Try.prog 9 m6 (mS (cX ls s.ids i)) i),.blk b4 [.slice none (0) (0)] 24,.blk b7 (bE (M.dA i) (M.dC i) (ln ls i)) 51,.blk b5 [.slice (some ⟨g8,0,none⟩) ((ax ls s i).length) (bW)] 24,.abs (av 32 10 (some ⟨g8,0,none⟩) ((ax ls s i).length) bW (aK L2 (ax ls s i))),.abs (aC (aT (ax ls s i) L2) ((ax ls s i).length)),.abs R,.blk b9 [.string (nameOf (ln ls i).path),.int .i64 ↑(newId ls s i)] 72]) (λw hS=>hS.yg (R':=(aQ (cA (ax ls s i) ((bH ls s i)-1) (⟨nameOf (ln ls i).path,(((newId ls s i):Nat):Int)⟩:bV)) (L2.ent ((bH ls s i)-1) bM c11))) (i:=5) (j:=9) (idx:=[0,1,2,3,4,6,7,8]) (k:=((bH ls s i)-1)) rfl rfl (by kernel_rfl) rfl (ke) ((nR ke).1) ((nR ke).2)) ?_
      refine af.aq (k':=10) (fr':=[(0,.slice A (ls.length) (c)),(2,.pointer (some ⟨b4,0,none⟩)),(4,.pointer (some ⟨b5,0,none⟩)),(5,.map (some m6)),(7,.pointer (some ⟨b7,0,none⟩)),(8,.int .i64 ↑(newId ls s i)),(18,.slice A (ls.length) (c)),(19,.int .i64 ↑ls.length),(20,.int .i64 ↑i),(108,.slice bM (((nd (ax ls s i) ((bH ls s i)-1)).aj.length)+1) (c11)),(109,.pointer (some ⟨g8,((bH ls s i)-1)*10+9,none⟩))]) (ak:=[]) [o_] [0,2,4,5,7,8,18,19,20,108,109] (λ_ _=>by kernel_rfl) trivial ?_
      refine af.j7 5 (((bH ls s i)-1)*10+9) (d:=none) (T:=30) (e:=32) (size:=10) (n:=(ax ls s i).length) (cap:=bW) (g:=g8) (xs:=(aK L2 (ax ls s i))) (u:=.slice bM (((nd (ax ls s i) ((bH ls s i)-1)).aj.length)+1) (c11)) (a:=(.tmp 109)) (y:=(.tmp 108)) (λ_=>by kernel_rfl) (by kernel_rfl) (λ_=>by kernel_rfl) (λ_=>by kernel_rfl) (by kernel_rfl) rfl (by rw [qI];omega) ?_
      refine af.aZ 5 (p:=.abs (av 32 10 (some ⟨g8,0,none⟩) ((ax ls s i).length) bW ((aK L2 (ax ls s i)).set (((bH ls s i)-1)*10+9) (.slice bM (((nd (ax ls s i) ((bH ls s i)-1)).aj.length)+1) (c11))))) (p':=.abs (av 32 10 (some ⟨g8,0,none⟩) ((ax ls s i).length) bW (aK (L2.ent ((bH ls s i)-1) bM c11) (cA (ax ls s i) ((bH ls s i)-1) (⟨nameOf (ln ls i).path,(((newId ls s i):Nat):Int)⟩:bV))))) (by kernel_rfl) (by rw [rf ke]) ?_
      refine af.nil (by kernel_rfl) (ah.next (ai.region ?_))
      refine af.aZ 5 (p:=.abs (av 32 10 (some ⟨g8,0,none⟩) ((ax ls s i).length) bW (aK (L2.ent ((bH ls s i)-1) bM c11) (cA (ax ls s i) ((bH ls s i)-1) (⟨nameOf (ln ls i).path,(((newId ls s i):Nat):Int)⟩:bV))))) (p':=.abs (av 32 10 (some ⟨g8,0,none⟩) ((cA (ax ls s i) ((bH ls s i)-1) (⟨nameOf (ln ls i).path,(((newId ls s i):Nat):Int)⟩:bV)).length) bW (aK (L2.ent ((bH ls s i)-1) bM c11) (cA (ax ls s i) ((bH ls s i)-1) (⟨nameOf (ln ls i).path,(((newId ls s i):Nat):Int)⟩:bV))))) (by kernel_rfl) (by rw [eu]) ?_
      refine af.aZ 0 (p:=.abs (aC (aQ (cA (ax ls s i) ((bH ls s i)-1) (⟨nameOf (ln ls i).path,(((newId ls s i):Nat):Int)⟩:bV)) (L2.ent ((bH ls s i)-1) bM c11)) ((ax ls s i).length))) (p':=.abs (aC (aQ (cA (ax ls s i) ((bH ls s i)-1) (⟨nameOf (ln ls i).path,(((newId ls s i):Nat):Int)⟩:bV)) (L2.ent ((bH ls s i)-1) bM c11)) ((cA (ax ls s i) ((bH ls s i)-1) (⟨nameOf (ln ls i).path,(((newId ls s i):Nat):Int)⟩:bV)).length))) (by kernel_rfl) (by rw [eu]) ?_
      refine af.aZ 6 (p:=.abs (aC (aT (ax ls s i) L2) ((ax ls s i).length))) (p':=.abs (aC (aT (cA (ax ls s i) ((bH ls s i)-1) (⟨nameOf (ln ls i).path,(((newId ls s i):Nat):Int)⟩:bV)) (L2.ent ((bH ls s i)-1) bM c11)) ((cA (ax ls s i) ((bH ls s i)-1) (⟨nameOf (ln ls i).path,(((newId ls s i):Nat):Int)⟩:bV)).length))) (by kernel_rfl) (by rw [u7 ke,eu]) ?_
      refine af.aZ 4 (p:=.blk b5 [.slice (some ⟨g8,0,none⟩) ((ax ls s i).length) (bW)] 24) (p':=.blk b5 [.slice (some ⟨g8,0,none⟩) ((cA (ax ls s i) ((bH ls s i)-1) (⟨nameOf (ln ls i).path,(((newId ls s i):Nat):Int)⟩:bV)).length) (bW)] 24) (by kernel_rfl) (by rw [eu]) ?_
      refine af.aq (k':=4) (fr':=[(0,.slice A (ls.length) (c)),(2,.pointer (some ⟨b4,0,none⟩)),(4,.pointer (some ⟨b5,0,none⟩)),(5,.map (some m6)),(18,.slice A (ls.length) (c)),(19,.int .i64 ↑ls.length),(20,.int .i64 ↑i),(110,.map (some m6)),(112,.string (ln ls i).path),(113,.int .i64 ↑(newId ls s i))]) (ak:=[b7=b7]) [o_,o_,⟨[.at 3],none,none,none,none⟩,o_] [0,2,4,5,18,19,20,110,112,113] (λ_ _=>by kernel_rfl) ⟨rfl,trivial⟩ ?_
      refine af.kQ 1 (d:=none) (t:=91) (K:=9) (E:=3) (b:=m6) (n:=i) (f:=(mS (cX ls s.ids i))) (x:=(.tmp 110)) (ix:=(.tmp 112)) (y:=(.tmp 113)) (key:=.string (ln ls i).path) (u:=.int .i64 ↑(newId ls s i)) (kl:=(.string (ln ls i).path.data.toList)) (n':=(i+1)) (f':=(mS (cX ls (s.ids++[newId ls s i]) (i+1)))) (λ_=>by kernel_rfl) (by kernel_rfl) (λ_=>by kernel_rfl) (λ_=>by kernel_rfl) (λ_=>by kernel_rfl) si Try.underlying91 (by unfold maxLen;omega) (sj (by omega)) (wL hid) (wK hP.inv.q8 (by omega) hid) ?_
      refine af.nil (by kernel_rfl) (ah.aJ (ah.next (ai.region ?_)))
      refine af.aq (k':=2) (fr':=[(0,.slice A (ls.length) (c)),(2,.pointer (some ⟨b4,0,none⟩)),(4,.pointer (some ⟨b5,0,none⟩)),(5,.map (some m6)),(18,.slice A (ls.length) (c)),(19,.int .i64 ↑ls.length),(20,.int .i64 ↑(i+1))]) (ak:=[(Value.int .i64 (IntKind.wrap .i64 (((i:Nat):Int)+1)))=(.int .i64 ↑(i+1))]) [⟨[],none,none,none,some (.int .i64 ↑(i+1))⟩,o_] [0,2,4,5,18,19,20] (λ_ _=>by kernel_rfl) ⟨aP (by omega) (by omega) (by omega),trivial⟩ ?_
      refine af.nil (by kernel_rfl) ?_
      exact ah.turn ((i+1),⟨(cA (ax ls s i) ((bH ls s i)-1) (⟨nameOf (ln ls i).path,(((newId ls s i):Nat):Int)⟩:bV)),(s.ids++[newId ls s i])⟩,(L2.ent ((bH ls s i)-1) bM c11),some ⟨g8,0,none⟩,bW) (idx:=[0,2,4,5,18,19,20]) (pk:=[4,5,0,6,1,2,7]) (show (((i+1))<=ls.length)/\(iU ls (⟨(cA (ax ls s i) ((bH ls s i)-1) (⟨nameOf (ln ls i).path,(((newId ls s i):Nat):Int)⟩:bV)),(s.ids++[newId ls s i])⟩) ((i+1))) from ⟨by omega,hP.next (rB hid (by omega) (by omega) (by omega)) ((dY.new hP.aj).ent ke)⟩) (by show ls.length-((i+1))<ls.length-i;omega) (λ_=>by kernel_rfl) rfl (by kernel_rfl)
     refine ai.seq (ai.region (af.aq (k':=2) (fr':=[(0,.slice A (ls.length) (c)),(2,.pointer (some ⟨b4,0,none⟩)),(4,.pointer (some ⟨b5,0,none⟩)),(5,.map (some m6)),(7,.pointer (some ⟨b7,0,none⟩)),(8,.int .i64 ↑(newId ls s i)),(11,.int .i64 1),(12,.string (ln ls i).path),(18,.slice A (ls.length) (c)),(19,.int .i64 ↑ls.length),(20,.int .i64 ↑i),(76,.string (ln ls i).path)]) (ak:=[b7=b7]) [o_,⟨[.at 2],none,none,none,none⟩] [0,2,4,5,7,8,11,12,18,19,20,76] (λ_ _=>by kernel_rfl) ⟨rfl,trivial⟩ ?_))
     refine af.call (f:=51) (args:=#[.string (ln ls i).path,.int .u8 47]) (d:=(some 77)) (pre:=[]) (R:=[.abs (aE Try.prog 9 m6 (mS (cX ls s.ids i)) i),.blk b4 [.slice none (0) (0)] 24,.blk b7 (bE (M.dA i) (M.dC i) (ln ls i)) 51,.blk b5 [.slice dZ ((ax ls s i).length) (bW)] 24,.abs (av 32 10 dZ ((ax ls s i).length) bW (aK L2 (ax ls s i))),.abs (aC (aQ (ax ls s i) L2) ((ax ls s i).length)),.abs (aC (aT (ax ls s i) L2) ((ax ls s i).length)),.abs R]) (pk:=[0,1,2,3,4,5,6,7]) (λ_=>by kernel_rfl) (Spec.quiet (λw=>Try.strings_LastIndexByte (ln ls i).path 47 (by omega) w)) rfl (by kernel_rfl) ?_
     rintro _ _ ⟨rfl,rfl⟩
     refine af.aq (k':=4) (fr':=[(0,.slice A (ls.length) (c)),(2,.pointer (some ⟨b4,0,none⟩)),(4,.pointer (some ⟨b5,0,none⟩)),(5,.map (some m6)),(7,.pointer (some ⟨b7,0,none⟩)),(8,.int .i64 ↑(newId ls s i)),(11,.int .i64 1),(12,.string (ln ls i).path),(13,.int .i64 ((cutAt (ln ls i).path))),(18,.slice A (ls.length) (c)),(19,.int .i64 ↑ls.length),(20,.int .i64 ↑i)]) (ak:=[]) [o_] [0,2,4,5,7,8,11,12,13,18,19,20] (λ_ _=>by kernel_rfl) trivial ?_
     refine af.nil (by kernel_rfl) (ah.next (ai.seq (ai.region ?_)))
     refine af.aq (k':=2) (fr':=[(0,.slice A (ls.length) (c)),(2,.pointer (some ⟨b4,0,none⟩)),(4,.pointer (some ⟨b5,0,none⟩)),(5,.map (some m6)),(7,.pointer (some ⟨b7,0,none⟩)),(8,.int .i64 ↑(newId ls s i)),(11,.int .i64 1),(12,.string (ln ls i).path),(13,.int .i64 ((cutAt (ln ls i).path))),(18,.slice A (ls.length) (c)),(19,.int .i64 ↑ls.length),(20,.int .i64 ↑i),(79,.bool (decide (((cutAt (ln ls i).path):Int)>=(0:Int))))]) (ak:=[]) [o_,o_] [0,2,4,5,7,8,11,12,13,18,19,20,79] (λ_ _=>by kernel_rfl) trivial ?_
     refine af.nil (by kernel_rfl) (ah.next ?_)
     refine ai.aV (p:=((cutAt (ln ls i).path):Int)>=(0:Int)) (λ_=>by kernel_rfl) (λyR=>?_) (λyR=>?_)
     ·refine ai.ga (by kernel_rfl) (by kernel_rfl) ?_
      refine aN.seg (k':=5) (fr':=[(0,.slice A (ls.length) (c)),(2,.pointer (some ⟨b4,0,none⟩)),(4,.pointer (some ⟨b5,0,none⟩)),(5,.map (some m6)),(7,.pointer (some ⟨b7,0,none⟩)),(8,.int .i64 ↑(newId ls s i)),(13,.int .i64 ((cutAt (ln ls i).path))),(18,.slice A (ls.length) (c)),(19,.int .i64 ↑ls.length),(20,.int .i64 ↑i),(80,.map (some m6)),(84,.string (((ln ls i).path:ByteArray).extract 0 ((cutAt (ln ls i).path).toNat)))]) (ak:=[(cutAt (ln ls i).path)=(((cutAt (ln ls i).path).toNat:Nat):Int),(cutAt (ln ls i).path).toNat<=((ln ls i).path:ByteArray).size,b7=b7]) [o_,o_,⟨[.at 2],none,none,none,none⟩,o_,⟨[],some ((cutAt (ln ls i).path).toNat),none,none,none⟩] [0,2,4,5,7,8,13,18,19,20,80,84] (λ_ _=>by kernel_rfl) ⟨by omega,by have:=(iZ (ln ls i).path).1;omega,rfl,trivial⟩ ?_
      refine aN.dO 0 (d:=(some 85)) (t:=91) (K:=9) (E:=3) (b:=m6) (n:=i) (f:=(mS (cX ls s.ids i))) (x:=(.tmp 80)) (ix:=(.tmp 84)) (key:=.string (((ln ls i).path:ByteArray).extract 0 ((cutAt (ln ls i).path).toNat))) (z:=.int .i64 0) (kl:=(.string (cC (ln ls i).path).data.toList)) (r:=(cX ls s.ids i (cC (ln ls i).path))) (λ_=>by kernel_rfl) (by kernel_rfl) (λ_=>by kernel_rfl) (λ_=>by kernel_rfl) si Try.underlying91 (λ_=>by kernel_rfl) (sj (p:=cC (ln ls i).path) (by have:=Ac (p:=(ln ls i).path);omega)) (tS _ _) ?_
      refine aN.slot 85 (((cX ls s.ids i (cC (ln ls i).path)).getD (.int .i64 0))) (.int .i64 ↑(bS ls s.ids (cC (ln ls i).path) i)) (λ_=>by kernel_rfl) (wM _ _ _ _) ?_
      refine aN.seg (k':=13) (fr':=[(0,.slice A (ls.length) (c)),(2,.pointer (some ⟨b4,0,none⟩)),(4,.pointer (some ⟨b5,0,none⟩)),(5,.map (some m6)),(7,.pointer (some ⟨b7,0,none⟩)),(8,.int .i64 ↑(newId ls s i)),(11,.int .i64 ↑(bS ls s.ids (cC (ln ls i).path) i)),(12,.string (((ln ls i).path:ByteArray).extract ((cutAt (ln ls i).path).toNat+1) ((ln ls i).path:ByteArray).size)),(18,.slice A (ls.length) (c)),(19,.int .i64 ↑ls.length),(20,.int .i64 ↑i)]) (ak:=[(cutAt (ln ls i).path+1)=((((cutAt (ln ls i).path).toNat+1):Nat):Int),((cutAt (ln ls i).path).toNat+1)<=((ln ls i).path:ByteArray).size,(Value.int .i64 (IntKind.wrap .i64 ((cutAt (ln ls i).path)+1)))=(.int .i64 ((cutAt (ln ls i).path+1))),b7=b7]) [o_,⟨[.at 2],none,none,none,none⟩,o_,⟨[],none,none,none,some (.int .i64 ((cutAt (ln ls i).path+1)))⟩,⟨[],some ((cutAt (ln ls i).path).toNat+1),none,none,none⟩,o_,o_] [0,2,4,5,7,8,11,12,18,19,20] (λ_ _=>by kernel_rfl) ⟨by omega,by have:=(iZ (ln ls i).path).1;omega,aP rfl (by have:=iZ (ln ls i).path;omega) (by have:=iZ (ln ls i).path;omega),rfl,trivial⟩ ?_
      refine aN.nil (by kernel_rfl) ?_
      refine ah.slot 11 (.int .i64 ↑(bS ls s.ids (cC (ln ls i).path) i)) (.int .i64 ↑(bH ls s i)) (λ_=>by kernel_rfl) (by unfold bH;rw [if_pos yR]<;>rfl) ?_
      refine ah.slot 12 (.string (((ln ls i).path:ByteArray).extract ((cutAt (ln ls i).path).toNat+1) ((ln ls i).path:ByteArray).size)) (.string (nameOf (ln ls i).path)) (λ_=>by kernel_rfl) (by unfold nameOf;rw [if_pos yR]) ?_
      exact ah.meet () (idx:=[0,2,4,5,7,8,11,12,18,19,20]) (pk:=[0,1,2,3,4,5,6,7]) (show True from trivial) (λ_=>by kernel_rfl) rfl (by kernel_rfl)
     refine ai.skip (ah.slot 11 (.int .i64 1) (.int .i64 ↑(bH ls s i)) (λ_=>by kernel_rfl) (by unfold bH;rw [if_neg yR]<;>rfl) ?_)
     refine ah.slot 12 (.string (ln ls i).path) (.string (nameOf (ln ls i).path)) (λ_=>by kernel_rfl) (by unfold nameOf;rw [if_neg yR]) ?_
     exact ah.meet () (idx:=[0,2,4,5,7,8,11,12,18,19,20]) (pk:=[0,1,2,3,4,5,6,7]) (show True from trivial) (λ_=>by kernel_rfl) rfl (by kernel_rfl)
    refine ai.skip (ah.next (ai.region ?_))
    refine af.aq (k':=4) (fr':=[(0,.slice A (ls.length) (c)),(2,.pointer (some ⟨b4,0,none⟩)),(4,.pointer (some ⟨b5,0,none⟩)),(5,.map (some m6)),(18,.slice A (ls.length) (c)),(19,.int .i64 ↑ls.length),(20,.int .i64 ↑i),(110,.map (some m6)),(112,.string (ln ls i).path),(113,.int .i64 ↑(newId ls s i))]) (ak:=[b7=b7]) [o_,o_,⟨[.at 2],none,none,none,none⟩,o_] [0,2,4,5,18,19,20,110,112,113] (λ_ _=>by kernel_rfl) ⟨rfl,trivial⟩ ?_
    refine af.kQ 0 (d:=none) (t:=91) (K:=9) (E:=3) (b:=m6) (n:=i) (f:=(mS (cX ls s.ids i))) (x:=(.tmp 110)) (ix:=(.tmp 112)) (y:=(.tmp 113)) (key:=.string (ln ls i).path) (u:=.int .i64 ↑(newId ls s i)) (kl:=(.string (ln ls i).path.data.toList)) (n':=(i+1)) (f':=(mS (cX ls (s.ids++[newId ls s i]) (i+1)))) (λ_=>by kernel_rfl) (by kernel_rfl) (λ_=>by kernel_rfl) (λ_=>by kernel_rfl) (λ_=>by kernel_rfl) si Try.underlying91 (by unfold maxLen;omega) (sj (by omega)) (wL hid) (wK hP.inv.q8 (by omega) hid) ?_
    refine af.nil (by kernel_rfl) (ah.aJ (ah.next (ai.region ?_)))
    refine af.aq (k':=2) (fr':=[(0,.slice A (ls.length) (c)),(2,.pointer (some ⟨b4,0,none⟩)),(4,.pointer (some ⟨b5,0,none⟩)),(5,.map (some m6)),(18,.slice A (ls.length) (c)),(19,.int .i64 ↑ls.length),(20,.int .i64 ↑(i+1))]) (ak:=[(Value.int .i64 (IntKind.wrap .i64 (((i:Nat):Int)+1)))=(.int .i64 ↑(i+1))]) [⟨[],none,none,none,some (.int .i64 ↑(i+1))⟩,o_] [0,2,4,5,18,19,20] (λ_ _=>by kernel_rfl) ⟨aP (by omega) (by omega) (by omega),trivial⟩ ?_
    refine af.nil (by kernel_rfl) ?_
    exact ah.turn ((i+1),⟨(ax ls s i),(s.ids++[newId ls s i])⟩,L2,dZ,bW) (idx:=[0,2,4,5,18,19,20]) (pk:=[3,4,5,6,0,1,7]) (show (((i+1))<=ls.length)/\(iU ls (⟨(ax ls s i),(s.ids++[newId ls s i])⟩) ((i+1))) from ⟨by omega,hP.next (pO hid (by omega) (by omega)) (dY.new hP.aj).up⟩) (by show ls.length-((i+1))<ls.length-i;omega) (λ_=>by kernel_rfl) rfl (by kernel_rfl)
   refine ai.region (af.aq (k':=3) (fr':=[(0,.slice A (ls.length) (c)),(2,.pointer (some ⟨b4,0,none⟩)),(4,.pointer (some ⟨b5,0,none⟩)),(5,.map (some m6)),(6,.int .i64 ↑i),(7,.pointer (some ⟨b7,0,none⟩)),(8,.int .i64 ↑(newId ls s i)),(18,.slice A (ls.length) (c)),(19,.int .i64 ↑ls.length),(20,.int .i64 ↑i),(59,.map (some m6)),(61,.string (ln ls i).path)]) (ak:=[b7=b7]) [o_,o_,⟨[.at 2],none,none,none,none⟩] [0,2,4,5,6,7,8,18,19,20,59,61] (λ_ _=>by kernel_rfl) ⟨rfl,trivial⟩ ?_)
   refine af.lq 0 (d:=(some 62)) (t:=91) (K:=9) (E:=3) (b:=m6) (n:=i) (f:=(mS (cX ls s.ids i))) (x:=(.tmp 59)) (ix:=(.tmp 61)) (key:=.string (ln ls i).path) (z:=.int .i64 0) (kl:=(.string (ln ls i).path.data.toList)) (r:=(some (.int .i64 ((bS ls s.ids (ln ls i).path i:Nat):Int)))) (λ_=>by kernel_rfl) (by kernel_rfl) (λ_=>by kernel_rfl) (λ_=>by kernel_rfl) si Try.underlying91 (λ_=>by kernel_rfl) (sj (by omega)) (z8 hid) ?_
   refine af.aq (k':=9) (fr':=[(0,.slice A (ls.length) (c)),(2,.pointer (some ⟨b4,0,none⟩)),(4,.pointer (some ⟨b5,0,none⟩)),(5,.map (some m6)),(6,.int .i64 ↑i),(7,.pointer (some ⟨b7,0,none⟩)),(8,.int .i64 ↑(newId ls s i)),(10,.bool true),(18,.slice A (ls.length) (c)),(19,.int .i64 ↑ls.length),(20,.int .i64 ↑i)]) (ak:=[]) [o_,o_,o_,o_,o_] [0,2,4,5,6,7,8,10,18,19,20] (λ_ _=>by kernel_rfl) trivial ?_
   refine af.nil (by kernel_rfl) (ah.next (ai.seq (ai.region ?_)))
   refine af.aq (k':=5) (fr':=[(0,.slice A (ls.length) (c)),(2,.pointer (some ⟨b4,0,none⟩)),(4,.pointer (some ⟨b5,0,none⟩)),(5,.map (some m6)),(6,.int .i64 ↑i),(7,.pointer (some ⟨b7,0,none⟩)),(8,.int .i64 ↑(newId ls s i)),(18,.slice A (ls.length) (c)),(19,.int .i64 ↑ls.length),(20,.int .i64 ↑i),(69,.bool true)]) (ak:=[]) [o_,o_,o_,o_,o_] [0,2,4,5,6,7,8,18,19,20,69] (λ_ _=>by kernel_rfl) trivial ?_
   refine af.nil (by kernel_rfl) (ah.next ?_)
   refine ai.bL (λ_=>by kernel_rfl) ?_
   refine ai.seq (ai.region (af.seg (k':=3) (fr':=[(2,.pointer (some ⟨b4,0,none⟩)),(3,.int .i64 151)]) (aL:=[.abs (aE Try.prog 9 m6 (mS (cX ls s.ids i)) i),.blk b4 [.slice none (0) (0)] 24,.blk b7 (bE (M.dA i) (M.dC i) (ln ls i)) 51,.blk b5 [.slice dZ ((ax ls s i).length) (bW)] 24,.abs (av 32 10 dZ ((ax ls s i).length) bW (aK L2 (ax ls s i))),.abs (aC (aQ (ax ls s i) L2) ((ax ls s i).length)),.abs (aC (aT (ax ls s i) L2) ((ax ls s i).length)),.abs R]) (ak:=[b4=b4]) [o_,⟨[.at 1],none,none,none,none⟩,o_] [2,3] [0,1,2,3,4,5,6,7] (λ_ _=>by kernel_rfl) ⟨rfl,trivial⟩ ?_))
   refine af.nil (by kernel_rfl) (ah.next (ai.ret (ah.ay (ah.aG (ah.ay (ah.ay (ah.aG (ah.ay ?_))))))))
   refine ah.mem (aL:=[.abs (aE Try.prog 9 m6 (mS (cX ls s.ids i)) i),.blk b4 [.slice none (0) (0)] 24,.blk b7 (bE (M.dA i) (M.dC i) (ln ls i)) 51,.blk b5 [.slice dZ ((ax ls s i).length) (bW)] 24,.abs (av 32 10 dZ ((ax ls s i).length) bW (aK L2 (ax ls s i))),.abs (aC (aQ (ax ls s i) L2) ((ax ls s i).length)),.abs (aC (aT (ax ls s i) L2) ((ax ls s i).length)),.abs R,.abs (av 32 10 none 0 0 ([])),.abs (aC (aQ [] bU) 0),.abs (aC (aT [] bU) 0)]) (λw hS=>((hS.fQ (e:=32) (size:=10)).eU (aQ [] bU)).eU (aT [] bU)) ?_
   exact ah.ret (v:=.tuple #[.agg #[.slice none (0) (0)],.int .i64 151]) (l:=[.abs (av 32 10 none 0 0 ([])),.abs (aC (aQ [] bU) 0),.abs (aC (aT [] bU) 0)]) (ak:=[b4=b4]) [.at 1] [8,9,10,7] (λ_=>by kernel_rfl) ⟨rfl,trivial⟩ rfl (by kernel_rfl) (⟨none,0,bU,by rw [gJ (hP.stop hi2 (tv hid))];rfl,by rw [gJ (hP.stop hi2 (tv hid))];rfl⟩)
  refine ai.seq (ai.region (af.aq (k':=3) (fr':=[(0,.slice A (ls.length) (c)),(2,.pointer (some ⟨b4,0,none⟩)),(4,.pointer (some ⟨b5,0,none⟩)),(5,.map (some m6)),(6,.int .i64 ↑i),(7,.pointer (some ⟨b7,0,none⟩)),(8,.int .i64 ↑(bS ls s.ids (ln ls i).peer i)),(18,.slice A (ls.length) (c)),(19,.int .i64 ↑ls.length),(20,.int .i64 ↑i),(31,.bool (decide (((ln ls i).peer:ByteArray)=⟨#[]⟩)))]) (ak:=[(Value.bool (((ln ls i).peer:ByteArray).toList == (⟨#[]⟩:ByteArray).toList))=(.bool (decide (((ln ls i).peer:ByteArray)=⟨#[]⟩))),b7=b7]) [o_,⟨[.at 7],none,none,none,none⟩,⟨[],none,none,none,some (.bool (decide (((ln ls i).peer:ByteArray)=⟨#[]⟩)))⟩] [0,2,4,5,6,7,8,18,19,20,31] (λ_ _=>by kernel_rfl) ⟨eH _ _,rfl,trivial⟩ ?_))
  refine af.nil (by kernel_rfl) (ah.next ?_)
  refine ai.aV (p:=((ln ls i).peer:ByteArray)=⟨#[]⟩) (λ_=>by kernel_rfl) (λjB=>?_) (λjB=>?_)
  ·refine ai.seq (ai.region (af.aq (k':=5) (fr':=[(0,.slice A (ls.length) (c)),(2,.pointer (some ⟨b4,0,none⟩)),(4,.pointer (some ⟨b5,0,none⟩)),(5,.map (some m6)),(6,.int .i64 ↑i),(7,.pointer (some ⟨b7,0,none⟩)),(8,.int .i64 ↑(s.ns.length+1)),(18,.slice A (ls.length) (c)),(19,.int .i64 ↑ls.length),(20,.int .i64 ↑i)]) (ak:=[(Value.int .i64 (IntKind.wrap .i64 (((s.ns.length:Nat):Int)+1)))=(.int .i64 ↑(s.ns.length+1)),b5=b5]) [o_,⟨[.at 0],none,none,none,none⟩,o_,⟨[],none,none,none,some (.int .i64 ↑(s.ns.length+1))⟩,o_] [0,2,4,5,6,7,8,18,19,20] (λ_ _=>by kernel_rfl) ⟨aP (by omega) (by omega) (by omega),rfl,trivial⟩ ?_))
   refine af.nil (by kernel_rfl) (ah.next ?_)
   refine ai.dL (S:=[.blk b5 [.slice An (s.ns.length) (cn)] 24,.abs (aC (aQ s.ns L) s.ns.length),.abs (aC (aT s.ns L) s.ns.length),.abs (aE Try.prog 9 m6 (mS (cX ls s.ids i)) i),.blk b4 [.slice none (0) (0)] 24,.abs R,.blk b7 (bE (M.dA i) (M.dC i) (ln ls i)) 51]) [0,1,2,3,4,5,6,7,8,9,10,11,12,13,14,16,17,15,18,19,20,21,22] 17 [0,2,3,4,5,6,7] (by kernel_rfl) (by kernel_rfl) rfl (by kernel_rfl) ?_
   refine aX.reads (r:=0) (l:=[15,18,19,20,21,22]) (fr':=[(0,.slice A (ls.length) (c)),(2,.pointer (some ⟨b4,0,none⟩)),(4,.pointer (some ⟨b5,0,none⟩)),(5,.map (some m6)),(6,.int .i64 ↑i),(7,.pointer (some ⟨b7,0,none⟩)),(8,.int .i64 ↑(s.ns.length+1)),(18,.slice A (ls.length) (c)),(19,.int .i64 ↑ls.length),(20,.int .i64 ↑i),(37,.slice An (s.ns.length) (cn)),(38,.int .i64 ↑(s.ns.length+1)),(40,.int .i64 ((ln ls i).kind)),(42,.int .i64 ((ln ls i).mode)),(44,.int .i64 ((ln ls i).uid)),(46,.int .i64 ((ln ls i).gid)),(48,.agg #[.int .i64 ((ln ls i).sec),.int .i64 ((ln ls i).nano)]),(50,.slice (M.dA i) ((ln ls i).data.length) ((M.dC i))),(53,.string (ln ls i).target)]) (ak:=[b7=b7,b7=b7,b7=b7,b7=b7,b7=b7,b7=b7,b7=b7,b7=b7,b5=b5]) [0,1,2,3,4,5,6,7,8,9,10,11,12,13,14,16,17] [o_,⟨[.at 0],none,none,none,none⟩,o_,o_,⟨[.at 6],none,none,none,none⟩,o_,⟨[.at 6],none,none,none,none⟩,o_,⟨[.at 6],none,none,none,none⟩,o_,⟨[.at 6],none,none,none,none⟩,o_,⟨[.at 6,.at 6],none,none,none,none⟩,o_,⟨[.at 6],none,none,none,none⟩,o_,⟨[.at 6],none,none,none,none⟩] [0,2,4,5,6,7,8,18,19,20,37,38,40,42,44,46,48,50,53] (λ_=>by kernel_rfl) ⟨rfl,rfl,rfl,rfl,rfl,rfl,rfl,rfl,rfl,trivial⟩ rfl rfl ?_
   refine aX.cut (ι:=(Option Addr)×Nat) (fr':=λ((bq,br):(Option Addr)×Nat)=>[(0,.slice A (ls.length) (c)),(2,.pointer (some ⟨b4,0,none⟩)),(4,.pointer (some ⟨b5,0,none⟩)),(5,.map (some m6)),(6,.int .i64 ↑i),(7,.pointer (some ⟨b7,0,none⟩)),(8,.int .i64 ↑(s.ns.length+1)),(18,.slice A (ls.length) (c)),(19,.int .i64 ↑ls.length),(20,.int .i64 ↑i),(37,.slice An (s.ns.length) (cn)),(38,.int .i64 ↑(s.ns.length+1)),(40,.int .i64 ((ln ls i).kind)),(42,.int .i64 ((ln ls i).mode)),(44,.int .i64 ((ln ls i).uid)),(46,.int .i64 ((ln ls i).gid)),(48,.agg #[.int .i64 ((ln ls i).sec),.int .i64 ((ln ls i).nano)]),(51,.slice bq ((ln ls i).data.length) (br)),(53,.string (ln ls i).target)]) (hp':=λ((bq,br):(Option Addr)×Nat)=>[.abs (av 5 1 bq ((ln ls i).data.length) br (bX (ln ls i).data)),.blk b5 [.slice An (s.ns.length) (cn)] 24,.abs (av 32 10 An s.ns.length cn (aK L s.ns)),.abs (aC (aQ s.ns L) s.ns.length),.abs (aC (aT s.ns L) s.ns.length),.abs (aE Try.prog 9 m6 (mS (cX ls s.ids i)) i),.blk b4 [.slice none (0) (0)] 24,.abs R,.blk b7 (bE (M.dA i) (M.dC i) (ln ls i)) 51]) [1,3,4,5,6,7,8] rfl rfl ?_ rfl (λ_=>by kernel_rfl) ?_
   ·refine af.call (f:=50) (args:=#[.slice (M.dA i) ((ln ls i).data.length) ((M.dC i))]) (d:=(some 51)) (pre:=[]) (R:=[.blk b5 [.slice An (s.ns.length) (cn)] 24,.abs (av 32 10 An s.ns.length cn (aK L s.ns)),.abs (aC (aQ s.ns L) s.ns.length),.abs (aC (aT s.ns L) s.ns.length),.abs (aE Try.prog 9 m6 (mS (cX ls s.ids i)) i),.blk b4 [.slice none (0) (0)] 24,.abs R,.blk b7 (bE (M.dA i) (M.dC i) (ln ls i)) 51]) (pk:=[0,1,2,3,4,5,6,7]) (λ_=>by kernel_rfl) (vU (M.dA i) (M.dC i) (ln ls i).data (hG.data i (by omega)) (hC.data i (by omega))) rfl (by kernel_rfl) ?_
    rintro _ _ ⟨bq,br,rfl,rfl⟩
    refine af.nil (by kernel_rfl) ?_
    exact ah.mid (bq,br) (idx:=[0,2,4,5,6,7,8,18,19,20,37,38,40,42,44,46,48,51,53]) (pk:=[0,1,2,3,4,5,6,7,8]) (λ_=>by kernel_rfl) rfl (by kernel_rfl)
   rintro⟨bq,br⟩
   refine aX.cut (ι:=Unit) (fr':=λ(_:Unit)=>[(0,.slice A (ls.length) (c)),(2,.pointer (some ⟨b4,0,none⟩)),(4,.pointer (some ⟨b5,0,none⟩)),(5,.map (some m6)),(6,.int .i64 ↑i),(7,.pointer (some ⟨b7,0,none⟩)),(8,.int .i64 ↑(s.ns.length+1)),(18,.slice A (ls.length) (c)),(19,.int .i64 ↑ls.length),(20,.int .i64 ↑i),(37,.slice An (s.ns.length) (cn)),(54,.agg #[.int .i64 ↑(s.ns.length+1),.int .i64 ((ln ls i).kind),.int .i64 ((ln ls i).mode),.int .i64 ((ln ls i).uid),.int .i64 ((ln ls i).gid),.int .i64 ((ln ls i).sec),.int .i64 ((ln ls i).nano),.slice bq ((ln ls i).data.length) (br),.string (ln ls i).target,.slice none (0) (0)])]) (hp':=λ(_:Unit)=>[.abs (av 5 1 bq ((ln ls i).data.length) br (bX (ln ls i).data)),.blk b5 [.slice An (s.ns.length) (cn)] 24,.abs (av 32 10 An s.ns.length cn (aK L s.ns)),.abs (aC (aQ s.ns L) s.ns.length),.abs (aC (aT s.ns L) s.ns.length),.abs (aE Try.prog 9 m6 (mS (cX ls s.ids i)) i),.blk b4 [.slice none (0) (0)] 24,.abs R,.blk b7 (bE (M.dA i) (M.dC i) (ln ls i)) 51]) [1,3,4,5,6,7,8] rfl rfl ?_ rfl (λ_=>by kernel_rfl) ?_
   ·refine af.aq (k':=1) (fr':=[(0,.slice A (ls.length) (c)),(2,.pointer (some ⟨b4,0,none⟩)),(4,.pointer (some ⟨b5,0,none⟩)),(5,.map (some m6)),(6,.int .i64 ↑i),(7,.pointer (some ⟨b7,0,none⟩)),(8,.int .i64 ↑(s.ns.length+1)),(18,.slice A (ls.length) (c)),(19,.int .i64 ↑ls.length),(20,.int .i64 ↑i),(37,.slice An (s.ns.length) (cn)),(54,.agg #[.int .i64 ↑(s.ns.length+1),.int .i64 ((ln ls i).kind),.int .i64 ((ln ls i).mode),.int .i64 ((ln ls i).uid),.int .i64 ((ln ls i).gid),.int .i64 ((ln ls i).sec),.int .i64 ((ln ls i).nano),.slice bq ((ln ls i).data.length) (br),.string (ln ls i).target,.slice none (0) (0)])]) (ak:=[]) [o_] [0,2,4,5,6,7,8,18,19,20,37,54] (λ_ _=>by kernel_rfl) trivial ?_
    refine af.nil (by kernel_rfl) ?_
    exact ah.mid () (idx:=[0,2,4,5,6,7,8,18,19,20,37,54]) (pk:=[0,1,2,3,4,5,6,7,8]) (λ_=>by kernel_rfl) rfl (by kernel_rfl)
   rintro _
   refine aX.cut (ι:=Nat) (fr':=λ(b14:Nat)=>[(0,.slice A (ls.length) (c)),(2,.pointer (some ⟨b4,0,none⟩)),(4,.pointer (some ⟨b5,0,none⟩)),(5,.map (some m6)),(6,.int .i64 ↑i),(7,.pointer (some ⟨b7,0,none⟩)),(8,.int .i64 ↑(s.ns.length+1)),(18,.slice A (ls.length) (c)),(19,.int .i64 ↑ls.length),(20,.int .i64 ↑i),(37,.slice An (s.ns.length) (cn)),(55,.slice (some ⟨b14,0,none⟩) (1) (1))]) (hp':=λ(b14:Nat)=>[.abs (av 5 1 bq ((ln ls i).data.length) br (bX (ln ls i).data)),.blk b5 [.slice An (s.ns.length) (cn)] 24,.abs (av 32 10 An s.ns.length cn (aK L s.ns)),.abs (aC (aQ s.ns L) s.ns.length),.abs (aC (aT s.ns L) s.ns.length),.abs (aE Try.prog 9 m6 (mS (cX ls s.ids i)) i),.blk b4 [.slice none (0) (0)] 24,.abs R,.blk b7 (bE (M.dA i) (M.dC i) (ln ls i)) 51,.blk b14 [.int .i64 ↑(s.ns.length+1),.int .i64 ((ln ls i).kind),.int .i64 ((ln ls i).mode),.int .i64 ((ln ls i).uid),.int .i64 ((ln ls i).gid),.int .i64 ((ln ls i).sec),.int .i64 ((ln ls i).nano),.slice bq ((ln ls i).data.length) (br),.string (ln ls i).target,.slice none (0) (0)] 32]) [1,3,4,5,6,7,8] rfl rfl ?_ rfl (λ_=>by kernel_rfl) ?_
   ·refine af.bD (k':=1) (fr':=λb14=>[(0,.slice A (ls.length) (c)),(2,.pointer (some ⟨b4,0,none⟩)),(4,.pointer (some ⟨b5,0,none⟩)),(5,.map (some m6)),(6,.int .i64 ↑i),(7,.pointer (some ⟨b7,0,none⟩)),(8,.int .i64 ↑(s.ns.length+1)),(18,.slice A (ls.length) (c)),(19,.int .i64 ↑ls.length),(20,.int .i64 ↑i),(37,.slice An (s.ns.length) (cn)),(55,.slice (some ⟨b14,0,none⟩) (1) (1))]) (aL:=λb14=>[.abs (av 5 1 bq ((ln ls i).data.length) br (bX (ln ls i).data)),.blk b5 [.slice An (s.ns.length) (cn)] 24,.abs (av 32 10 An s.ns.length cn (aK L s.ns)),.abs (aC (aQ s.ns L) s.ns.length),.abs (aC (aT s.ns L) s.ns.length),.abs (aE Try.prog 9 m6 (mS (cX ls s.ids i)) i),.blk b4 [.slice none (0) (0)] 24,.abs R,.blk b7 (bE (M.dA i) (M.dC i) (ln ls i)) 51,.blk b14 [.int .i64 ↑(s.ns.length+1),.int .i64 ((ln ls i).kind),.int .i64 ((ln ls i).mode),.int .i64 ((ln ls i).uid),.int .i64 ((ln ls i).gid),.int .i64 ((ln ls i).sec),.int .i64 ((ln ls i).nano),.slice bq ((ln ls i).data.length) (br),.string (ln ls i).target,.slice none (0) (0)] 32]) (ak:=λb14=>[]) [o_] [0,2,4,5,6,7,8,18,19,20,37,55] [0,1,2,3,4,5,6,7,8,9] (λ_ _=>by kernel_rfl) (λb14=>trivial) (λb14=>?_)
    refine af.nil (by kernel_rfl) ?_
    exact ah.mid b14 (idx:=[0,2,4,5,6,7,8,18,19,20,37,55]) (pk:=[0,1,2,3,4,5,6,7,8,9]) (λ_=>by kernel_rfl) rfl (by kernel_rfl)
   rintro b14
   refine aX.cut (ι:=(Option Addr)×Nat) (fr':=λ((ez,eE):(Option Addr)×Nat)=>[(0,.slice A (ls.length) (c)),(2,.pointer (some ⟨b4,0,none⟩)),(4,.pointer (some ⟨b5,0,none⟩)),(5,.map (some m6)),(6,.int .i64 ↑i),(7,.pointer (some ⟨b7,0,none⟩)),(8,.int .i64 ↑(s.ns.length+1)),(18,.slice A (ls.length) (c)),(19,.int .i64 ↑ls.length),(20,.int .i64 ↑i),(56,.slice ez ((s.ns++[aS (ln ls i) s.ns.length]).length) (eE))]) (hp':=λ((ez,eE):(Option Addr)×Nat)=>[.abs (av 5 1 bq ((ln ls i).data.length) br (bX (ln ls i).data)),.blk b5 [.slice An (s.ns.length) (cn)] 24,.abs (av 32 10 ez ((s.ns++[aS (ln ls i) s.ns.length]).length) eE (aK (L.put s.ns.length bq br none 0) (s.ns++[aS (ln ls i) s.ns.length]))),.abs (aC (aQ s.ns L) s.ns.length),.abs (aC (aT s.ns L) s.ns.length),.abs (aE Try.prog 9 m6 (mS (cX ls s.ids i)) i),.blk b4 [.slice none (0) (0)] 24,.abs R,.blk b7 (bE (M.dA i) (M.dC i) (ln ls i)) 51,.blk b14 [.int .i64 ↑(s.ns.length+1),.int .i64 ((ln ls i).kind),.int .i64 ((ln ls i).mode),.int .i64 ((ln ls i).uid),.int .i64 ((ln ls i).gid),.int .i64 ((ln ls i).sec),.int .i64 ((ln ls i).nano),.slice bq ((ln ls i).data.length) (br),.string (ln ls i).target,.slice none (0) (0)] 32]) [1,3,4,5,6,7,8] rfl rfl ?_ rfl (λ_=>by kernel_rfl) ?_
   ·refine af.append 2 (d:=(some 56)) (t:=22) (e:=32) (z:=.agg #[.int .i64 0,.int .i64 0,.int .i64 0,.int .i64 0,.int .i64 0,.int .i64 0,.int .i64 0,.slice none (0) (0),.string ⟨#[]⟩,.slice none (0) (0)]) (size:=10) (bytes:=120) (n:=s.ns.length) (cap:=cn) (A:=An) (xs:=(aK L s.ns)) (s:=(.tmp 37)) (x:=(.tmp 55)) (ats:=#[22,22]) (A':=some ⟨b14,0,none⟩) (m:=1) (c':=1) (news:=[.int .i64 ↑(s.ns.length+1),.int .i64 ((ln ls i).kind),.int .i64 ((ln ls i).mode),.int .i64 ((ln ls i).uid),.int .i64 ((ln ls i).gid),.int .i64 ((ln ls i).sec),.int .i64 ((ln ls i).nano),.slice bq ((ln ls i).data.length) (br),.string (ln ls i).target,.slice none (0) (0)]) (λ_=>by kernel_rfl) rfl (by kernel_rfl) (λ_=>by kernel_rfl) (λ_=>by kernel_rfl) Try.underlying22 (by kernel_rfl) rfl (by decide) (rfl) (by simp [Value.oneCell']) (dS (j:=9) rfl) (by unfold maxLen;omega) (by omega) (λez eE=>?_)
    refine af.aZ 2 (p:=.abs (av 32 10 ez (s.ns.length+1) eE ((aK L s.ns)++[.int .i64 ↑(s.ns.length+1),.int .i64 ((ln ls i).kind),.int .i64 ((ln ls i).mode),.int .i64 ((ln ls i).uid),.int .i64 ((ln ls i).gid),.int .i64 ((ln ls i).sec),.int .i64 ((ln ls i).nano),.slice bq ((ln ls i).data.length) (br),.string (ln ls i).target,.slice none (0) (0)]))) (p':=.abs (av 32 10 ez ((s.ns++[aS (ln ls i) s.ns.length]).length) eE (aK (L.put s.ns.length bq br none 0) (s.ns++[aS (ln ls i) s.ns.length])))) (by kernel_rfl) (by rw [List.length_append];exact congrArg (λx=>HP.abs (av 32 10 _ _ _ x)) (pN (ns:=s.ns) (n:=aS (ln ls i) s.ns.length))) ?_
    refine af.slot 56 (.slice ez (s.ns.length+1) (eE)) (.slice ez ((s.ns++[aS (ln ls i) s.ns.length]).length) (eE)) (λ_=>by kernel_rfl) (by rw [List.length_append];rfl) ?_
    refine af.nil (by kernel_rfl) ?_
    exact ah.mid (ez,eE) (idx:=[0,2,4,5,6,7,8,18,19,20,56]) (pk:=[0,1,2,3,4,5,6,7,8,9]) (λ_=>by kernel_rfl) rfl (by kernel_rfl)
   rintro⟨ez,eE⟩
   refine aX.cut (ι:=Unit) (fr':=λ(_:Unit)=>[(0,.slice A (ls.length) (c)),(2,.pointer (some ⟨b4,0,none⟩)),(4,.pointer (some ⟨b5,0,none⟩)),(5,.map (some m6)),(6,.int .i64 ↑i),(7,.pointer (some ⟨b7,0,none⟩)),(8,.int .i64 ↑(s.ns.length+1)),(18,.slice A (ls.length) (c)),(19,.int .i64 ↑ls.length),(20,.int .i64 ↑i),(56,.slice ez ((s.ns++[aS (ln ls i) s.ns.length]).length) (eE)),(57,.pointer (some ⟨b5,0,none⟩))]) (hp':=λ(_:Unit)=>[.abs (av 5 1 bq ((ln ls i).data.length) br (bX (ln ls i).data)),.blk b5 [.slice An (s.ns.length) (cn)] 24,.abs (av 32 10 ez ((s.ns++[aS (ln ls i) s.ns.length]).length) eE (aK (L.put s.ns.length bq br none 0) (s.ns++[aS (ln ls i) s.ns.length]))),.abs (aC (aQ s.ns L) s.ns.length),.abs (aC (aT s.ns L) s.ns.length),.abs (aE Try.prog 9 m6 (mS (cX ls s.ids i)) i),.blk b4 [.slice none (0) (0)] 24,.abs R,.blk b7 (bE (M.dA i) (M.dC i) (ln ls i)) 51,.blk b14 [.int .i64 ↑(s.ns.length+1),.int .i64 ((ln ls i).kind),.int .i64 ((ln ls i).mode),.int .i64 ((ln ls i).uid),.int .i64 ((ln ls i).gid),.int .i64 ((ln ls i).sec),.int .i64 ((ln ls i).nano),.slice bq ((ln ls i).data.length) (br),.string (ln ls i).target,.slice none (0) (0)] 32]) [1,3,4,5,6,7,8] rfl rfl ?_ rfl (λ_=>by kernel_rfl) ?_
   ·refine af.aq (k':=1) (fr':=[(0,.slice A (ls.length) (c)),(2,.pointer (some ⟨b4,0,none⟩)),(4,.pointer (some ⟨b5,0,none⟩)),(5,.map (some m6)),(6,.int .i64 ↑i),(7,.pointer (some ⟨b7,0,none⟩)),(8,.int .i64 ↑(s.ns.length+1)),(18,.slice A (ls.length) (c)),(19,.int .i64 ↑ls.length),(20,.int .i64 ↑i),(56,.slice ez ((s.ns++[aS (ln ls i) s.ns.length]).length) (eE)),(57,.pointer (some ⟨b5,0,none⟩))]) (ak:=[]) [o_] [0,2,4,5,6,7,8,18,19,20,56,57] (λ_ _=>by kernel_rfl) trivial ?_
    refine af.nil (by kernel_rfl) ?_
    exact ah.mid () (idx:=[0,2,4,5,6,7,8,18,19,20,56,57]) (pk:=[0,1,2,3,4,5,6,7,8,9]) (λ_=>by kernel_rfl) rfl (by kernel_rfl)
   rintro _
   refine aX.last rfl rfl ?_
   refine af.seg (k':=1) (fr':=[(0,.slice A (ls.length) (c)),(2,.pointer (some ⟨b4,0,none⟩)),(4,.pointer (some ⟨b5,0,none⟩)),(5,.map (some m6)),(6,.int .i64 ↑i),(7,.pointer (some ⟨b7,0,none⟩)),(8,.int .i64 ↑(s.ns.length+1)),(18,.slice A (ls.length) (c)),(19,.int .i64 ↑ls.length),(20,.int .i64 ↑i)]) (aL:=[.abs (av 5 1 bq ((ln ls i).data.length) br (bX (ln ls i).data)),.blk b5 [.slice ez ((s.ns++[aS (ln ls i) s.ns.length]).length) (eE)] 24,.abs (av 32 10 ez ((s.ns++[aS (ln ls i) s.ns.length]).length) eE (aK (L.put s.ns.length bq br none 0) (s.ns++[aS (ln ls i) s.ns.length]))),.abs (aC (aQ s.ns L) s.ns.length),.abs (aC (aT s.ns L) s.ns.length),.abs (aE Try.prog 9 m6 (mS (cX ls s.ids i)) i),.blk b4 [.slice none (0) (0)] 24,.abs R,.blk b7 (bE (M.dA i) (M.dC i) (ln ls i)) 51,.blk b14 [.int .i64 ↑(s.ns.length+1),.int .i64 ((ln ls i).kind),.int .i64 ((ln ls i).mode),.int .i64 ((ln ls i).uid),.int .i64 ((ln ls i).gid),.int .i64 ((ln ls i).sec),.int .i64 ((ln ls i).nano),.slice bq ((ln ls i).data.length) (br),.string (ln ls i).target,.slice none (0) (0)] 32]) (ak:=[b5=b5]) [⟨[.at 1],none,none,none,none⟩] [0,2,4,5,6,7,8,18,19,20] [0,1,2,3,4,5,6,7,8,9] (λ_ _=>by kernel_rfl) ⟨rfl,trivial⟩ ?_
   refine af.nil (by kernel_rfl) (ah.np ?_)
   refine ah.mem (aL:=[.abs (aC (aT (s.ns++[aS (ln ls i) s.ns.length]) (L.put s.ns.length bq br none 0)) (s.ns.length+1)),.blk b5 [.slice ez ((s.ns++[aS (ln ls i) s.ns.length]).length) (eE)] 24,.abs (av 32 10 ez ((s.ns++[aS (ln ls i) s.ns.length]).length) eE (aK (L.put s.ns.length bq br none 0) (s.ns++[aS (ln ls i) s.ns.length]))),.abs (aC (aQ s.ns L) s.ns.length),.abs (aE Try.prog 9 m6 (mS (cX ls s.ids i)) i),.blk b4 [.slice none (0) (0)] 24,.abs R,.blk b7 (bE (M.dA i) (M.dC i) (ln ls i)) 51,.blk b14 [.int .i64 ↑(s.ns.length+1),.int .i64 ((ln ls i).kind),.int .i64 ((ln ls i).mode),.int .i64 ((ln ls i).uid),.int .i64 ((ln ls i).gid),.int .i64 ((ln ls i).sec),.int .i64 ((ln ls i).nano),.slice bq ((ln ls i).data.length) (br),.string (ln ls i).target,.slice none (0) (0)] 32]) (λw hS=>hS.oT (R':=(aT (s.ns++[aS (ln ls i) s.ns.length]) (L.put s.ns.length bq br none 0))) (i:=4) (j:=0) (idx:=[1,2,3,5,6,7,8,9]) rfl rfl (by kernel_rfl) rfl (λx hx=>lW.1 x hx) (lW.2)) ?_
   refine ah.mem (aL:=[.abs (aC (aT (s.ns++[aS (ln ls i) s.ns.length]) (L.put s.ns.length bq br none 0)) (s.ns.length+1)),.blk b5 [.slice ez ((s.ns++[aS (ln ls i) s.ns.length]).length) (eE)] 24,.abs (av 32 10 ez ((s.ns++[aS (ln ls i) s.ns.length]).length) eE (aK (L.put s.ns.length bq br none 0) (s.ns++[aS (ln ls i) s.ns.length]))),.abs (aC (aQ s.ns L) s.ns.length),.abs (aE Try.prog 9 m6 (mS (cX ls s.ids i)) i),.blk b4 [.slice none (0) (0)] 24,.abs R,.blk b7 (bE (M.dA i) (M.dC i) (ln ls i)) 51,.blk b14 [.int .i64 ↑(s.ns.length+1),.int .i64 ((ln ls i).kind),.int .i64 ((ln ls i).mode),.int .i64 ((ln ls i).uid),.int .i64 ((ln ls i).gid),.int .i64 ((ln ls i).sec),.int .i64 ((ln ls i).nano),.slice bq ((ln ls i).data.length) (br),.string (ln ls i).target,.slice none (0) (0)] 32,.abs (av 72 2 none 0 0 ([]))]) (λw hS=>hS.fQ (e:=72) (size:=2)) ?_
   refine ah.mem (aL:=[.abs (aC (aQ (s.ns++[aS (ln ls i) s.ns.length]) (L.put s.ns.length bq br none 0)) (s.ns.length+1)),.abs (aC (aT (s.ns++[aS (ln ls i) s.ns.length]) (L.put s.ns.length bq br none 0)) (s.ns.length+1)),.blk b5 [.slice ez ((s.ns++[aS (ln ls i) s.ns.length]).length) (eE)] 24,.abs (av 32 10 ez ((s.ns++[aS (ln ls i) s.ns.length]).length) eE (aK (L.put s.ns.length bq br none 0) (s.ns++[aS (ln ls i) s.ns.length]))),.abs (aE Try.prog 9 m6 (mS (cX ls s.ids i)) i),.blk b4 [.slice none (0) (0)] 24,.abs R,.blk b7 (bE (M.dA i) (M.dC i) (ln ls i)) 51,.blk b14 [.int .i64 ↑(s.ns.length+1),.int .i64 ((ln ls i).kind),.int .i64 ((ln ls i).mode),.int .i64 ((ln ls i).uid),.int .i64 ((ln ls i).gid),.int .i64 ((ln ls i).sec),.int .i64 ((ln ls i).nano),.slice bq ((ln ls i).data.length) (br),.string (ln ls i).target,.slice none (0) (0)] 32]) (λw hS=>hS.oT (R':=(aQ (s.ns++[aS (ln ls i) s.ns.length]) (L.put s.ns.length bq br none 0))) (i:=3) (j:=9) (idx:=[0,1,2,4,5,6,7,8]) rfl rfl (by kernel_rfl) rfl (λx hx=>(lV rfl).1 x hx) ((lV rfl).2)) ?_
   refine ah.slot 8 (.int .i64 ↑(s.ns.length+1)) (.int .i64 ↑(newId ls s i)) (λ_=>by kernel_rfl) (by rw [(jP jB).2]) ?_
   refine ah.mem (aL:=[.abs (aC (aQ (ax ls s i) (L.put s.ns.length bq br none 0)) ((ax ls s i).length)),.abs (aC (aT (ax ls s i) (L.put s.ns.length bq br none 0)) ((ax ls s i).length)),.blk b5 [.slice ez ((ax ls s i).length) (eE)] 24,.abs (av 32 10 ez ((ax ls s i).length) eE (aK (L.put s.ns.length bq br none 0) (ax ls s i))),.abs (aE Try.prog 9 m6 (mS (cX ls s.ids i)) i),.blk b4 [.slice none (0) (0)] 24,.abs R,.blk b7 (bE (M.dA i) (M.dC i) (ln ls i)) 51,.blk b14 [.int .i64 ↑(s.ns.length+1),.int .i64 ((ln ls i).kind),.int .i64 ((ln ls i).mode),.int .i64 ((ln ls i).uid),.int .i64 ((ln ls i).gid),.int .i64 ((ln ls i).sec),.int .i64 ((ln ls i).nano),.slice bq ((ln ls i).data.length) (br),.string (ln ls i).target,.slice none (0) (0)] 32]) (λw hS=>by have e:(s.ns++[aS (ln ls i) s.ns.length]).length=s.ns.length+1:=List.length_append;rw [e] at hS;rw [(jP jB).1,e];exact hS) ?_
   exact ah.meet ((L.put s.ns.length bq br none 0),ez,eE) (idx:=[0,2,4,5,6,7,8,18,19,20]) (pk:=[4,5,7,2,3,0,1,6]) (show True from trivial) (λ_=>by kernel_rfl) rfl (by kernel_rfl)
  refine ai.skip (ah.slot 8 (.int .i64 ↑(bS ls s.ids (ln ls i).peer i)) (.int .i64 ↑(newId ls s i)) (λ_=>by kernel_rfl) (by rw [(iA jB).2]) ?_)
  refine ah.mem (aL:=[.blk b5 [.slice An ((ax ls s i).length) (cn)] 24,.abs (av 32 10 An ((ax ls s i).length) cn (aK L (ax ls s i))),.abs (aC (aQ (ax ls s i) L) ((ax ls s i).length)),.abs (aC (aT (ax ls s i) L) ((ax ls s i).length)),.abs (aE Try.prog 9 m6 (mS (cX ls s.ids i)) i),.blk b4 [.slice none (0) (0)] 24,.abs R,.blk b7 (bE (M.dA i) (M.dC i) (ln ls i)) 51]) (λw hS=>by rw [(iA jB).1];exact hS) ?_
  exact ah.meet (L,An,cn) (idx:=[0,2,4,5,6,7,8,18,19,20]) (pk:=[4,5,7,0,1,2,3,6]) (show True from trivial) (λ_=>by kernel_rfl) rfl (by kernel_rfl)
 refine ai.exit (ah.aH (ah.aH (ah.bg (ah.next (ai.seq (ai.region ?_))))))
 have hfo:dg dW ls ls.length=some s:=by have:=hP.fold;rwa [show i=ls.length by omega] at this
 have hgb:=vf s hfo
 have iB:=hG
 refine af.t8 (l:=[.blk b5 [.slice An (s.ns.length) (cn)] 24,.abs (aE Try.prog 9 m6 (mS (cX ls s.ids i)) i),.blk b4 [.slice none (0) (0)] 24,.abs R]) [.abs (av 32 10 An s.ns.length cn (aK L s.ns)),.abs (aC (aQ s.ns L) s.ns.length),.abs (aC (aT s.ns L) s.ns.length)] [0,4,5,6,1,2,3] rfl (by kernel_rfl) (λkg eN hle0 jG=>?_)
 replace hG:=hG.le eN
 have hg:=iW.graph (A:=An) (c:=cn) jG
 refine af.aq (k':=1) (fr':=[(0,.slice A (ls.length) (c)),(2,.pointer (some ⟨b4,0,none⟩)),(4,.pointer (some ⟨b5,0,none⟩)),(116,.agg #[.slice An (s.ns.length) (cn)])]) (ak:=[b5=b5]) [⟨[.at 0],none,none,none,none⟩] [0,2,4,116] (λ_ _=>by kernel_rfl) ⟨rfl,trivial⟩ ?_
 refine af.fo (f:=26) (args:=#[.agg #[.slice An (s.ns.length) (cn)],.int .i64 1]) (d:=(some 117)) (pre:=[]) (R:=[.blk b5 [.slice An (s.ns.length) (cn)] 24,.abs (aE Try.prog 9 m6 (mS (cX ls s.ids i)) i),.blk b4 [.slice none (0) (0)] 24,.abs R]) (pk:=[0,1,2,3]) (λ_=>by kernel_rfl) (BI An cn s.ns L hg hgb 1 (by unfold fO;decide)) rfl (by kernel_rfl) ?_
 rintro DS _ _ ja ⟨B,cB,MB,rfl,rfl,hT⟩
 replace hG:=hG.le ja
 replace hg:=hg.le ja
 replace hle0:=hle0.trans ja
 refine af.aq (k':=7) (fr':=[(0,.slice A (ls.length) (c)),(2,.pointer (some ⟨b4,0,none⟩)),(4,.pointer (some ⟨b5,0,none⟩)),(15,.slice B ((aB s.ns 1).1.length) (cB)),(16,.int .i64 ((aB s.ns 1).2))]) (ak:=[]) [o_,o_,o_,o_,o_] [0,2,4,15,16] (λ_ _=>by kernel_rfl) trivial ?_
 refine af.nil (by kernel_rfl) (ah.next (ai.seq (ai.seq (ai.region ?_))))
 refine af.aq (k':=3) (fr':=[(0,.slice A (ls.length) (c)),(2,.pointer (some ⟨b4,0,none⟩)),(4,.pointer (some ⟨b5,0,none⟩)),(15,.slice B ((aB s.ns 1).1.length) (cB)),(122,.bool (!(decide (((aB s.ns 1).2:Int)=(0:Int)))))]) (ak:=[]) [o_,o_,o_] [0,2,4,15,122] (λ_ _=>by kernel_rfl) trivial ?_
 refine af.eO 122 (((aB s.ns 1).2:Int)=(0:Int)) (λ_=>by kernel_rfl) (λqf=>?_) (λqf=>?_)
 ·refine af.aq (k':=8) (fr':=[(2,.pointer (some ⟨b4,0,none⟩)),(4,.pointer (some ⟨b5,0,none⟩)),(127,.bool true)]) (ak:=[]) [o_,o_,o_,o_,o_] [2,4,127] (λ_ _=>by kernel_rfl) trivial ?_
  refine af.nil (by kernel_rfl) (ah.next ?_)
  refine ai.bL (λ_=>by kernel_rfl) ?_
  refine ai.seq (ai.region (af.back (hps:=[.blk b5 [.slice An (s.ns.length) (cn)] 24,.abs (aE Try.prog 9 m6 (mS (cX ls s.ids i)) i),.blk b4 [.slice none (0) (0)] 24,.abs R]) jG hle0 ?_))
  show af _ _ _ _ _ _ [.blk b5 [.slice An (s.ns.length) (cn)] 24,.abs (aE Try.prog 9 m6 (mS (cX ls s.ids i)) i),.blk b4 [.slice none (0) (0)] 24,.abs R,.abs (av 32 10 An s.ns.length cn (aK L s.ns)),.abs (aC (aQ s.ns L) s.ns.length),.abs (aC (aT s.ns L) s.ns.length)] _
  have hG:=iB
  refine af.seg (k':=3) (fr':=[(2,.pointer (some ⟨b4,0,none⟩)),(3,.int .i64 151)]) (aL:=[.blk b5 [.slice An (s.ns.length) (cn)] 24,.abs (aE Try.prog 9 m6 (mS (cX ls s.ids i)) i),.blk b4 [.slice none (0) (0)] 24,.abs R,.abs (av 32 10 An s.ns.length cn (aK L s.ns)),.abs (aC (aQ s.ns L) s.ns.length),.abs (aC (aT s.ns L) s.ns.length)]) (ak:=[b4=b4]) [o_,⟨[.at 2],none,none,none,none⟩,o_] [2,3] [0,1,2,3,4,5,6] (λ_ _=>by kernel_rfl) ⟨rfl,trivial⟩ ?_
  refine af.nil (by kernel_rfl) (ah.next (ai.ret (ah.ay ?_)))
  refine ah.mem (aL:=[.blk b5 [.slice An (s.ns.length) (cn)] 24,.abs (aE Try.prog 9 m6 (mS (cX ls s.ids i)) i),.blk b4 [.slice none (0) (0)] 24,.abs R,.abs (av 32 10 An s.ns.length cn (aK L s.ns)),.abs (aC (aQ s.ns L) s.ns.length),.abs (aC (aT s.ns L) s.ns.length),.abs (av 32 10 none 0 0 ([])),.abs (aC (aQ [] bU) 0),.abs (aC (aT [] bU) 0)]) (λw hS=>((hS.fQ (e:=32) (size:=10)).eU (aQ [] bU)).eU (aT [] bU)) ?_
  exact ah.ret (v:=.tuple #[.agg #[.slice none (0) (0)],.int .i64 151]) (l:=[.abs (av 32 10 none 0 0 ([])),.abs (aC (aQ [] bU) 0),.abs (aC (aT [] bU) 0)]) (ak:=[b4=b4]) [.at 2] [7,8,9,3] (λ_=>by kernel_rfl) ⟨rfl,trivial⟩ rfl (by kernel_rfl) (⟨none,0,bU,by rw [jF hfo (λe=>qf (by rw [e]))];rfl,by rw [jF hfo (λe=>qf (by rw [e]))];rfl⟩)
 refine af.aq (k':=5) (fr':=[(2,.pointer (some ⟨b4,0,none⟩)),(4,.pointer (some ⟨b5,0,none⟩)),(122,.bool false),(123,.slice B ((aB s.ns 1).1.length) (cB)),(124,.slice A (ls.length) (c))]) (ak:=[]) [o_,o_] [2,4,122,123,124] (λ_ _=>by kernel_rfl) trivial ?_
 refine af.call (f:=52) (args:=#[.slice B ((aB s.ns 1).1.length) (cB),.slice A (ls.length) (c),.func (.func 53) #[] #[]]) (d:=(some 125)) (pre:=[]) (R:=[.blk b5 [.slice An (s.ns.length) (cn)] 24,.abs (aE Try.prog 9 m6 (mS (cX ls s.ids i)) i),.blk b4 [.slice none (0) (0)] 24,.abs R]) (pk:=[0,1,2,3]) (λ_=>by kernel_rfl) (xD B A cB c (aB s.ns 1).1 ls MB M hT hG (fe hgb).1 (fe hgb).2) rfl (by kernel_rfl) ?_
 rintro _ _ ⟨rfl,rfl⟩
 refine af.aq (k':=8) (fr':=[(2,.pointer (some ⟨b4,0,none⟩)),(4,.pointer (some ⟨b5,0,none⟩)),(127,.bool (!(decide ((aB s.ns 1).1=ls))))]) (ak:=[]) [o_,o_] [2,4,127] (λ_ _=>by kernel_rfl) trivial ?_
 refine af.nil (by kernel_rfl) (ah.next ?_)
 refine ai.cY (p:=(aB s.ns 1).1=ls) (λ_=>by kernel_rfl) (λh127=>?_) (λh127=>?_)
 ·refine ai.seq (ai.region (af.back (hps:=[.blk b5 [.slice An (s.ns.length) (cn)] 24,.abs (aE Try.prog 9 m6 (mS (cX ls s.ids i)) i),.blk b4 [.slice none (0) (0)] 24,.abs R]) jG hle0 ?_))
  show af _ _ _ _ _ _ [.blk b5 [.slice An (s.ns.length) (cn)] 24,.abs (aE Try.prog 9 m6 (mS (cX ls s.ids i)) i),.blk b4 [.slice none (0) (0)] 24,.abs R,.abs (av 32 10 An s.ns.length cn (aK L s.ns)),.abs (aC (aQ s.ns L) s.ns.length),.abs (aC (aT s.ns L) s.ns.length)] _
  have hG:=iB
  refine af.seg (k':=3) (fr':=[(2,.pointer (some ⟨b4,0,none⟩)),(3,.int .i64 151)]) (aL:=[.blk b5 [.slice An (s.ns.length) (cn)] 24,.abs (aE Try.prog 9 m6 (mS (cX ls s.ids i)) i),.blk b4 [.slice none (0) (0)] 24,.abs R,.abs (av 32 10 An s.ns.length cn (aK L s.ns)),.abs (aC (aQ s.ns L) s.ns.length),.abs (aC (aT s.ns L) s.ns.length)]) (ak:=[b4=b4]) [o_,⟨[.at 2],none,none,none,none⟩,o_] [2,3] [0,1,2,3,4,5,6] (λ_ _=>by kernel_rfl) ⟨rfl,trivial⟩ ?_
  refine af.nil (by kernel_rfl) (ah.next (ai.ret (ah.ay ?_)))
  refine ah.mem (aL:=[.blk b5 [.slice An (s.ns.length) (cn)] 24,.abs (aE Try.prog 9 m6 (mS (cX ls s.ids i)) i),.blk b4 [.slice none (0) (0)] 24,.abs R,.abs (av 32 10 An s.ns.length cn (aK L s.ns)),.abs (aC (aQ s.ns L) s.ns.length),.abs (aC (aT s.ns L) s.ns.length),.abs (av 32 10 none 0 0 ([])),.abs (aC (aQ [] bU) 0),.abs (aC (aT [] bU) 0)]) (λw hS=>((hS.fQ (e:=32) (size:=10)).eU (aQ [] bU)).eU (aT [] bU)) ?_
  exact ah.ret (v:=.tuple #[.agg #[.slice none (0) (0)],.int .i64 151]) (l:=[.abs (av 32 10 none 0 0 ([])),.abs (aC (aQ [] bU) 0),.abs (aC (aT [] bU) 0)]) (ak:=[b4=b4]) [.at 2] [7,8,9,3] (λ_=>by kernel_rfl) ⟨rfl,trivial⟩ rfl (by kernel_rfl) (⟨none,0,bU,by rw [jF hfo (λe=>h127 (by rw [e]))];rfl,by rw [jF hfo (λe=>h127 (by rw [e]))];rfl⟩)
 refine ai.skip (ah.next (ai.seq (ai.region ?_)))
 refine af.back (hps:=[.blk b5 [.slice An (s.ns.length) (cn)] 24,.abs (aE Try.prog 9 m6 (mS (cX ls s.ids i)) i),.blk b4 [.slice none (0) (0)] 24,.abs R]) jG hle0 ?_
 show af _ _ _ _ _ _ [.blk b5 [.slice An (s.ns.length) (cn)] 24,.abs (aE Try.prog 9 m6 (mS (cX ls s.ids i)) i),.blk b4 [.slice none (0) (0)] 24,.abs R,.abs (av 32 10 An s.ns.length cn (aK L s.ns)),.abs (aC (aQ s.ns L) s.ns.length),.abs (aC (aT s.ns L) s.ns.length)] _
 have hG:=iB
 refine af.seg (k':=3) (fr':=[(2,.pointer (some ⟨b4,0,none⟩)),(3,.int .i64 0)]) (aL:=[.blk b5 [.slice An (s.ns.length) (cn)] 24,.abs (aE Try.prog 9 m6 (mS (cX ls s.ids i)) i),.blk b4 [.slice An (s.ns.length) (cn)] 24,.abs R,.abs (av 32 10 An s.ns.length cn (aK L s.ns)),.abs (aC (aQ s.ns L) s.ns.length),.abs (aC (aT s.ns L) s.ns.length)]) (ak:=[b4=b4,b5=b5]) [⟨[.at 0],none,none,none,none⟩,⟨[.at 2],none,none,none,none⟩,o_] [2,3] [0,1,2,3,4,5,6] (λ_ _=>by kernel_rfl) ⟨rfl,rfl,trivial⟩ ?_
 refine af.nil (by kernel_rfl) (ah.next (ai.ret ?_))
 exact ah.ret (v:=.tuple #[.agg #[.slice An (s.ns.length) (cn)],.int .i64 0]) (l:=[.abs (av 32 10 An s.ns.length cn (aK L s.ns)),.abs (aC (aQ s.ns L) s.ns.length),.abs (aC (aT s.ns L) s.ns.length)]) (ak:=[b4=b4]) [.at 2] [4,5,6,3] (λ_=>by kernel_rfl) ⟨rfl,trivial⟩ rfl (by kernel_rfl) (⟨An,cn,L,by rw [mG hfo (Prod.ext h127 qf)],by rw [mG hfo (Prod.ext h127 qf)];rfl⟩)
end
section
open Go.RowKit
theorem cJ {z:Int} (h:0<=z/\z<=1000):fO z:=by unfold fO;omega
theorem qm {b:UInt8} (h0:¬b=0) (h1:¬b=47) (h2:¬b=46):cZ ⟨#[b]⟩:=by
 refine⟨Nat.le_refl _,(by show 1<=255;decide),λe=>h2 ?_,λe=>?_,λj hj=>?_⟩
 ·injection e with e
  have e:[b]=[46]:=congrArg Array.toList e
  injection e
 ·injection e with e
  have e:[b]=[46,46]:=congrArg Array.toList e
  injection e with _ e
  cases e
 have:j=0:=by have hj:j<1:=hj;omega
 subst this
 show ¬b.toNat=0/\¬b.toNat=47
 exact⟨λe=>h0 (UInt8.toNat_inj.1 e),λe=>h1 (UInt8.toNat_inj.1 e)⟩
theorem oL:dU 0 0:=⟨by decide,by decide,by decide,by decide,by decide⟩
end
section
open Go.RowKit Go.WideShapes Go.ChangeShapes Go.ChangeAt Go.Deep
structure AY (l:aR) (b:Nat):Prop where
 ids:fO l.kind/\fO l.mode/\fO l.uid/\fO l.gid/\fO l.sec/\fO l.nano
 path:l.path.size+1<=b
 data:l.data.length+1<=b
 target:l.target.size+1<=b
 peer:l.peer.size+1<=b
structure Er (ls:List aR) (b:Nat):Prop where
 len:ls.length+1<=b
 line:∀i,i<ls.length->AY (ln ls i) b
structure Dm where
 l:aR
 dA:Option Addr
 dC:Nat
deriving Inhabited
structure EP (W:World) (a:Dm) (b:Nat):Prop where
 nb:AY a.l b
 data:bp (B0 W) a.dA a.l.data
section open_
variable {H:Type} {enc:TypeId×Value->H} {W:World} {sp:Nat->Bool}
end open_
structure Fe (ns:List aD) (i b:Nat):Prop where
 ids:∀k,k<ns.length->fO (nd ns k).id/\fO (nd ns k).kind/\fO (nd ns k).mode/\fO (nd ns k).uid/\fO (nd ns k).gid/\fO (nd ns k).sec/\fO (nd ns k).nano
 data:∀k,k<ns.length->(nd ns k).data.length+1<=b/\(nd ns k).target.size+1<=b
 aj:∀k,k<ns.length->(nd ns k).aj.length<=i
 ent:∀k,k<ns.length->∀j,j<(nd ns k).aj.length->ul (en (nd ns k).aj j) b
section Es
variable {ns:List aD} {i b:Nat}
end Es
section folds
variable {ls:List aR}
theorem rE:dM [] 1048576:=⟨by decide,λ_ h=>absurd h (Nat.not_lt_zero _)⟩
theorem qo (h:ru ls):dM (aO ls).1 1048576:=by
 cases h1:dg dW ls ls.length with
 |none=>rw [gJ h1];exact rE
 |some s=>
   by_cases h2:aB s.ns 1=(ls,0)
   ·rw [mG h1 h2];exact h s h1
   rw [jF h1 h2];exact rE
end folds
end
section
open Go.RowKit
def jb (A:Option Addr) (n c:Nat):dh:=kR 5 1 A n c
def iM (dN β:Bs) (A:Option Addr) (c:Nat) (d:List UInt8):Prop:=bp β A d/\cE dN β (jb A d.length c)
def eF (dN β:Bs) (ls:List aR) (M:cQ):Prop:=cE dN β (aC (λi=>jb (M.dA i) (ln ls i).data.length (M.dC i)) ls.length)
def gG (dN β:Bs) (ns:List aD) (k:Nat) (L:Lay):Prop:=cE dN β (aC (λi=>jb (L.dA i) (nd ns i).data.length (L.dC i)) k)
section made
variable {dN β β':Bs} {A B:Option Addr} {c cd ce n:Nat} {d:List UInt8} {ls:List aR} {M:cQ} {ns:List aD} {L:Lay} {k:Nat}
theorem iM.of {F:Fp} {w:World} (h:(av 5 1 A d.length c (bX d)).h F w) (h1:∀k,F k->β'.O k) (h2:β'.w0=w) (h3:∀k,F k->¬β.O k):iM β β' A c d:=
 ⟨cK.gh h h1 h2,cE.of (Z:=jb A d.length c) ⟨_,trivial,h⟩ h1 h2 h3⟩
theorem jb.none:cE β β' (jb none 0 0):=cE.row _ _
theorem eF.nil:eF dN β [] M:=cE.BZ _
theorem CQ {l:aR} {i:Nat} (hi:i<ls.length):ln (ls++[l]) i=ln ls i:=by unfold ln;simp [List.getD_eq_getElem?_getD,List.getElem?_append_left hi]
theorem eF.snoc (h:eF dN β ls M) (g0:dN.le β) (g:β.le β') {l:aR} (hB:cE β β' (jb B l.data.length c)):eF dN β' (ls++[l]) (M.put ls.length B c):=by
 have h2:=cE.push (R':=λi=>jb ((M.put ls.length B c).dA i) (ln (ls++[l]) i).data.length ((M.put ls.length B c).dC i)) h g0 g (by simpa [cQ.put,rV] using hB) (λx hx=>by simp [cQ.put,show x≠ls.length by omega,CQ hx])
 unfold eF
 rw [List.length_append]
 exact h2
theorem gG.nil:gG dN β ns 0 L:=cE.BZ _
theorem gG.put (h:gG dN β ns k L) (g0:dN.le β) (g:β.le β') (hB:cE β β' (jb A (nd ns k).data.length cd)):gG dN β' ns (k+1) (L.put k A cd B ce):=
 cE.push (R':=λi=>jb ((L.put k A cd B ce).dA i) (nd ns i).data.length ((L.put k A cd B ce).dC i)) h g0 g (by simpa [Lay.put] using hB) (λx hx=>by simp [Lay.put,show x≠k by omega])
theorem iW.made {R:List HP} {i:Nat} {Z:dh} (h:iW β R β') (hp:R[i]?=some (.abs Z)):cE β β' Z:=by
 obtain⟨φ,h1,h2,_⟩:=h.fp
 exact⟨φ i,(h1 i _ hp).1,λk hk=>⟨(h1 i _ hp).2 k hk,h2 i (bZ hp) k hk⟩⟩
theorem yS:∀F w,(HP.abs (aC (aT ns L) n)).h F w->(aC (λi=>jb (L.dA i) (nd ns i).data.length (L.dC i)) n).h F w:=λ_ _ ⟨φ,h1,h2,h3⟩=>⟨φ,λi hi=>⟨_,trivial,h1 i hi⟩,h2,h3⟩
theorem yT (A:Option Addr) (c:Nat) (ls:List aR) (M:cQ) (hG:aM β A ls M) (hC:oK ls) (vf:ru ls) :
 cO Try.prog β 30 #[.slice A ls.length c] [] (λβ' v l=>∃B cp L,v=.tuple #[.agg #[.slice B (aO ls).1.length cp],.int .i64 (aO ls).2]/\l=[]/\aA β' B (aO ls).1 L/\gG β β' (aO ls).1 (aO ls).1.length L):=
 ((Ad A c ls M hG hC vf).base (Φ:=λβ' v=>∃B cp L,v=.tuple #[.agg #[.slice B (aO ls).1.length cp],.int .i64 (aO ls).2]/\aA β' B (aO ls).1 L/\gG β β' (aO ls).1 (aO ls).1.length L)
   (λ_ _ ⟨B,cp,L,h1,h2⟩ _ hL=>⟨B,cp,L,h1,(h2 ▸ hL).graph,((h2 ▸ hL:iW β (xE B cp (aO ls).1 L) _).made (i:=2) rfl).mono yS⟩)).mono λ_ _ _ _ ⟨h1,B,cp,L,h2,h3,h4⟩=>⟨B,cp,L,h2,h1,h3,h4⟩
end made
structure Hd where
 A:Option Addr
 n:Nat
 c:Nat
def Hd.v (h:Hd):Value:=.slice h.A h.n h.c
def ct (f:Nat->Hd) (m:Nat):List Value:=(List.range m).map (λi=>(f i).v)
def vg (h:Hd):dh:=jb h.A h.n h.c
section heads
variable {f:Nat->Hd} {m i:Nat} {A:Option Addr} {c:Nat}
theorem yU:ct f m++[(f m).v]=ct f (m+1):=by simp [ct,List.range_succ]
theorem Ae (h:i<m):(ct f m)[i]?=some (f i).v:=by simp [ct,h]
theorem oM (h:i<m) {e:TypeId}:∀F w,(av e 1 A m c (ct f m)).h F w->w.cell? ⟨au A,ar A+i*1,none⟩=some (.slice (f i).A (f i).n (f i).c):=λF w hr=>by
 obtain⟨g,rfl⟩:=av.head hr (by omega)
 have:=av.cell (Ae (f:=f) h) _ _ hr
 rwa [show (⟨au (some ⟨g,0,none⟩),ar (some ⟨g,0,none⟩)+i*1,none⟩:Addr)=⟨g,i,none⟩ from congrArg (λo=>(⟨g,o,none⟩:Addr)) (by show 0+i*1=i;omega)]
def mkV (i:Nat):Value:=.int .u8 (7*(i:Int)+1)
def Mk (k i:Nat) (xs:List Value):Prop:=∀j,j<k->xs[j]?=some (mkV i)
def xG (h:Hd) (k i:Nat):dh:=fT 5 1 h.A h.n h.c (Mk k i)
theorem Mk.set {k i:Nat} {xs:List Value} (h:Mk k i xs) (hk:k<xs.length):Mk (k+1) i (xs.set k (mkV i)):=λj hj=>by
 by_cases e:j=k
 ·subst e;simp [hk]
 rw [List.getElem?_set_ne (by omega)];exact h j (by omega)
def iI (f:Nat->Hd) (i j:Nat):Nat->dh:=λx=>xG (f x) (if x<i then (f x).n else if x=i then j else 0) x
def lf (f:Nat->Hd):Nat->dh:=λx=>xG (f x) (f x).n x
def jI (f:Nat->Hd) (i:Nat) (A1:Option Addr) (n1 c1:Nat):Nat->dh:=fL (lf f) i (eM 5 (f i).A (f i).n (f i).c (Mk (f i).n i) A1 n1 c1)
theorem yV {j:Nat}:iI f i j i=xG (f i) j i:=by simp [iI]
theorem Af {j:Nat}:fL (iI f i j) i (fT 5 1 (f i).A (f i).n (f i).c (Mk (j+1) i))=iI f i (j+1):=by
 funext x
 unfold fL iI
 by_cases e:x=i
 ·subst e;simp [xG]
 simp [e]
theorem Ag:iI f i (f i).n=iI f (i+1) 0:=by
 funext x
 unfold iI
 by_cases e:x=i
 ·subst e;simp
 by_cases h:x<i
 ·simp [h,show x<i+1 by omega]
 simp [h,e,show ¬x<i+1 by omega]
theorem vk {A1 B:Option Addr} {n1 c1 n2 c2:Nat}:fL (jI f i A1 n1 c1) i (eM 5 (f i).A (f i).n (f i).c (Mk (f i).n i) B n2 c2)=jI f i B n2 c2:=by
 funext x
 unfold jI fL
 by_cases e:x=i<;>simp [e]
theorem yX {A1:Option Addr} {n1 c1:Nat}:jI f i A1 n1 c1 i=eM 5 (f i).A (f i).n (f i).c (Mk (f i).n i) A1 n1 c1:=by simp [jI,fL]
section tell
variable {x:Nat} {F:Fp} {w:World}
theorem Dn:∀x,x<m->∀F w,(vg (f x)).h F w->∃F',(iI f 0 0 x).h F' w/\∀k,F' k->F k:=λx _ F w ⟨xs,_,h⟩=>⟨F,⟨xs,λj hj=>by simp at hj,h⟩,λ_ q=>q⟩
theorem Dp:∀x,x<m->∀F w,(iI f m 0 x).h F w->∃F',(lf f x).h F' w/\∀k,F' k->F k:=λx hx F w h=>⟨F,by unfold iI at h;rw [if_pos hx] at h;exact h,λ_ q=>q⟩
theorem AZ:∀x,x<m->∀F w,(lf f x).h F w->∃F',(jI f i (f i).A (f i).n (f i).c x).h F' w/\∀k,F' k->F k:=λx _ F w h=>by
 unfold jI fL
 by_cases e:x=i
 ·subst e;rw [if_pos rfl];exact⟨F,eM.start h,λ_ q=>q⟩
 rw [if_neg e];exact⟨F,h,λ_ q=>q⟩
theorem A6 {A1:Option Addr} {n1 c1:Nat}:∀x,x<m->∀F w,(jI f i A1 n1 c1 x).h F w->∃F',(lf f x).h F' w/\∀k,F' k->F k:=λx _ F w h=>by
 unfold jI fL at h
 by_cases e:x=i
 ·subst e;rw [if_pos rfl] at h;exact eM.stop h
 rw [if_neg e] at h;exact⟨F,h,λ_ q=>q⟩
end tell
theorem DT (hi:i<m) {j:Nat} (hj:j<(f i).n):∀F w,(aC (lf f) m).h F w->w.cell? ⟨au (f i).A,ar (f i).A+j*1,none⟩=some (.int .u8 (7*(i:Int)+1)):=
 aC.Dg hi rfl hj (λ_ h=>h j hj)
end heads
end
section
open Go.RowKit Go.Maps
structure qp (ns:List aD) (i j:Nat):Prop where
 mW:i<ns.length
 mX:j<(nd ns i).aj.length
 dir:(nd ns (tgt ns (ent ns i j).id)).kind=2
section
variable {ns:List aD}
theorem jc {i m:Nat} {p:Nat×Nat}:p∈bT ns i m↔∃j,j<m/\(nd ns (tgt ns (ent ns i j).id)).kind=2/\p=(tgt ns (ent ns i j).id,i):=by
 induction m with
 |zero=>simp [bT]
 |succ m ih=>
   grind [nd,tgt,ent,gi,gE]
theorem jd {m:Nat} {p:Nat×Nat}:p∈bQ ns m↔∃i j,i<m/\j<(nd ns i).aj.length/\(nd ns (tgt ns (ent ns i j).id)).kind=2/\p=(tgt ns (ent ns i j).id,i):=by
 induction m with
 |zero=>simp [bQ]
 |succ m ih=>
   grind [bQ,jc]
theorem qp.mem {i j:Nat} (h:qp ns i j):(tgt ns (ent ns i j).id,i)∈bQ ns ns.length:=jd.2 ⟨i,j,h.mW,h.mX,h.dir,rfl⟩
def tT (ns:List aD) (m:Nat):Prop:=∀i j i' j',qp ns i j->qp ns i' j'->i<m->i'<m->tgt ns (ent ns i j).id=tgt ns (ent ns i' j').id->i=i'/\j=j'
theorem xH {i m:Nat} (h:∀j j',j<m->j'<m->(nd ns (tgt ns (ent ns i j).id)).kind=2->(nd ns (tgt ns (ent ns i j').id)).kind=2->tgt ns (ent ns i j).id=tgt ns (ent ns i j').id->j=j'):((bT ns i m).map Prod.fst).Nodup:=by
 induction m with
 |zero=>simp [bT]
 |succ m ih=>
   grind [nd,tgt,ent,gi,jc,gE]
theorem yY {i m:Nat} (h:((bT ns i m).map Prod.fst).Nodup):∀j j',j<m->j'<m->(nd ns (tgt ns (ent ns i j).id)).kind=2->(nd ns (tgt ns (ent ns i j').id)).kind=2->tgt ns (ent ns i j).id=tgt ns (ent ns i j').id->j=j':=by
 induction m with
 |zero=>intro j j' hj;omega
 |succ m ih=>
   intro j j' hj hj' hk hk' e
   by_cases hm:(nd ns (tgt ns (ent ns i m).id)).kind=2
   ·rw [gi hm,List.map_cons,List.nodup_cons] at h
    rcases Nat.lt_succ_iff_lt_or_eq.1 hj with e1|e1
    ·rcases Nat.lt_succ_iff_lt_or_eq.1 hj' with e2|e2
     ·exact ih h.2 j j' e1 e2 hk hk' e
     subst e2;exact absurd (List.mem_map.2 ⟨_,jc.2 ⟨j,e1,hk,rfl⟩,e⟩) h.1
    rcases Nat.lt_succ_iff_lt_or_eq.1 hj' with e2|e2
    ·subst e1;exact absurd (List.mem_map.2 ⟨_,jc.2 ⟨j',e2,hk',rfl⟩,e.symm⟩) h.1
    omega
   grind [gE]
theorem xI {m:Nat} (hm:m<=ns.length) (h:tT ns m):((bQ ns m).map Prod.fst).Nodup:=by
 induction m with
 |zero=>simp [bQ]
 |succ m ih=>
   have ih:=ih (by omega) (λi j i' j' h1 h2 h3 h4=>h i j i' j' h1 h2 (by omega) (by omega))
   rw [bQ,List.map_append]
   refine List.nodup_append.2 ⟨xH λj j' hj hj' hk hk' e=>(h m j m j' ⟨by omega,hj,hk⟩ ⟨by omega,hj',hk'⟩ (by omega) (by omega) e).2,ih,λa ha b hb e=>?_⟩
   obtain⟨p,hp,rfl⟩:=List.mem_map.1 ha
   obtain⟨q,hq,rfl⟩:=List.mem_map.1 hb
   obtain⟨j,hj,hk,rfl⟩:=jc.1 hp
   obtain⟨i',j',hi',hj',hk',rfl⟩:=jd.1 hq
   have:=(h m j i' j' ⟨by omega,hj,hk⟩ ⟨by omega,hj',hk'⟩ (by omega) (by omega) e).1
   omega
theorem yZ {m:Nat} (h:((bQ ns m).map Prod.fst).Nodup):tT ns m:=by
 induction m with
 |zero=>intro i j i' j' _ _ hi;omega
 |succ m ih=>
   rw [bQ,List.map_append] at h
   obtain⟨h1,h2,h3⟩:=List.nodup_append.1 h
   intro i j i' j' g g' hi hi' e
   rcases Nat.lt_succ_iff_lt_or_eq.1 hi with e1|e1
   ·rcases Nat.lt_succ_iff_lt_or_eq.1 hi' with e2|e2
    ·exact ih h2 i j i' j' g g' e1 e2 e
    subst e2
    exact absurd e.symm (h3 _ (List.mem_map.2 ⟨_,jc.2 ⟨j',g'.mX,g'.dir,rfl⟩,rfl⟩) _ (List.mem_map.2 ⟨_,jd.2 ⟨i,j,e1,g.mX,g.dir,rfl⟩,rfl⟩))
   rcases Nat.lt_succ_iff_lt_or_eq.1 hi' with e2|e2
   ·subst e1
    exact absurd e (h3 _ (List.mem_map.2 ⟨_,jc.2 ⟨j,g.mX,g.dir,rfl⟩,rfl⟩) _ (List.mem_map.2 ⟨_,jd.2 ⟨i',j',e2,g'.mX,g'.dir,rfl⟩,rfl⟩))
   subst e1;subst e2
   exact⟨rfl,yY h1 j j' g.mX g'.mX g.dir g'.dir e⟩
def sw (ns:List aD) (d:Nat->Nat):Prop:=∀i j,qp ns i j->d i<d (tgt ns (ent ns i j).id)
theorem bw.BL (h1:ns.length<=4096) (h2:∀i,i<ns.length->fV (nd ns i)) (h3:∀i,i<ns.length->1<=(nd ns i).id/\(nd ns i).id<=1099511627776) (h4:d6 ns) (h5:bn ns ns.length<=8192)
 (h6:∀i,i<ns.length->∀j,j<(nd ns i).aj.length->eP ns i j) (h7:tT ns ns.length) {d:Nat->Nat} (h8:sw ns d):bw ns:=by
 refine⟨h1,h2,h3,h4,h5,h6,xI (Nat.le_refl _) h7,?_⟩
 have hp:=jL (ns:=ns) (Nat.le_refl _) h6
 refine sV (λp hp'=>(hp p hp').1) ?_
 have key:∀n i,d i<=n->i<ns.length->Ends ((bQ ns ns.length).map (dm ns)) (nd ns i).id:=by
  intro n
  induction n with
  |zero=>
    intro i hd hi
    cases hu:up ((bQ ns ns.length).map (dm ns)) (nd ns i).id with
    |none=>exact⟨0,hu⟩
    |some y=>
      obtain⟨_,p,g1,g2,_⟩:=oY h4 hi (λp hp'=>(hp p hp').1) hu
      obtain⟨a,j,ha,hj,hk,rfl⟩:=jd.1 g1
      have:=h8 a j ⟨ha,hj,hk⟩
      grind
  |succ n ih=>
    intro i hd hi
    cases hu:up ((bQ ns ns.length).map (dm ns)) (nd ns i).id with
    |none=>exact⟨0,hu⟩
    |some y=>
      obtain⟨_,p,g1,g2,g3⟩:=oY h4 hi (λp hp'=>(hp p hp').1) hu
      obtain⟨a,j,ha,hj,hk,rfl⟩:=jd.1 g1
      have:=h8 a j ⟨ha,hj,hk⟩
      have g2:tgt ns (ent ns a j).id=i:=g2
      rw [g2] at this
      obtain⟨m,hm⟩:=ih a (by omega) ha
      exact⟨m+1,y,hu,by rw [g3];exact hm⟩
 exact λi hi=>key (d i) i (Nat.le_refl _) hi
theorem bw.uniq (h:bw ns):tT ns ns.length:=yZ h.nodup
theorem bw.deep (h:bw ns):∃d,sw ns d:=by
 refine⟨λk=>Classical.choose (h.ends (nd ns k).id),λi j g=>?_⟩
 have hp:=jL (ns:=ns) (Nat.le_refl _) h.aj
 have hat:=(h.aj i g.mW j g.mX).at_
 have htl:=cH hat
 have e1:=Classical.choose_spec (h.ends (nd ns i).id)
 have e2:=Classical.choose_spec (h.ends (nd ns (tgt ns (ent ns i j).id)).id)
 show Classical.choose (h.ends (nd ns i).id)<Classical.choose (h.ends (nd ns (tgt ns (ent ns i j).id)).id)
 generalize Classical.choose (h.ends (nd ns i).id)=x at e1 ⊢
 generalize Classical.choose (h.ends (nd ns (tgt ns (ent ns i j).id)).id)=y at e2 ⊢
 cases hu:up ((bQ ns ns.length).map (dm ns)) (nd ns (tgt ns (ent ns i j).id)).id with
 |none=>
   have:=wF hu
   exact absurd (List.mem_map.2 ⟨_,g.mem,rfl⟩) this
 |some z=>
   obtain⟨_,p,g1,g2,g3⟩:=oY h.rise htl.1 (λp hp'=>(hp p hp').1) hu
   obtain⟨a,b,ha,hb,hk,rfl⟩:=jd.1 g1
   have g2:tgt ns (ent ns a b).id=tgt ns (ent ns i j).id:=g2
   obtain⟨rfl,rfl⟩:=h.uniq a b i j ⟨ha,hb,hk⟩ g ha g.mW g2
   have g3:z=(nd ns a).id:=g3
   cases y with
   |zero=>
     have e2:up _ _=none:=e2
     rw [hu] at e2;cases e2
   |succ y=>
     obtain⟨z',h1,h2⟩:=e2
     rw [hu] at h1
     cases h1
     rw [g3] at h2
     have:=e1.uniq h2
     show x<y+1
     omega
end
end
section
open Go.RowKit Go.Maps
inductive Steps (ns:List aD) (r:Nat):List ByteArray->Nat->Prop
 |nil:Steps ns r [] r
 |snoc {l:List ByteArray} {i j:Nat}:Steps ns r l i->i<ns.length->j<(nd ns i).aj.length->Steps ns r (l++[(ent ns i j).name]) (tgt ns (ent ns i j).id)
theorem bw.vl {ns:List aD} (h:bw ns) {i j:Nat} (hi:i<ns.length) (hj:j<(nd ns i).aj.length):(nd ns i).kind=2:=by
 apply Classical.byContradiction
 intro hk
 have:=(h.node i hi).aj hk
 omega
theorem Steps.deep {ns:List aD} {r k:Nat} {l:List ByteArray} {d:Nat->Nat} (hok:bw ns) (hd:sw ns d) (h:Steps ns r l k):(nd ns k).kind=2->d r+l.length<=d k:=by
 induction h with
 |nil=>intro _;exact Nat.le_refl _
 | @snoc l i j h hi hj ih=>
   intro hk
   have h1:=ih (hok.vl hi hj)
   have h2:=hd i j ⟨hi,hj,hk⟩
   rw [List.length_append,List.length_singleton]
   omega
theorem Steps.uniq {ns:List aD} {r:Nat} (hok:bw ns):∀{l m:List ByteArray} {k:Nat},Steps ns r l k->Steps ns r m k->(nd ns k).kind=2->l=m:=by
 obtain⟨d,hd⟩:=hok.deep
 intro l m k h
 induction h generalizing m with
 |nil=>
   intro g hk
   have:=g.deep hok hd hk
   exact (List.eq_nil_of_length_eq_zero (by omega)).symm
 | @snoc l i j h hi hj ih=>
   intro g hk
   generalize hz:tgt ns (ent ns i j).id=z at g hk
   cases g with
   |nil=>
     have h1:=(Steps.snoc h hi hj).deep hok hd (by rw [hz];exact hk)
     rw [hz,List.length_append,List.length_singleton] at h1
     omega
   | @snoc m i' j' g hi' hj'=>
     obtain⟨rfl,rfl⟩:=hok.uniq i j i' j' ⟨hi,hj,by rw [hz];exact hk⟩ ⟨hi',hj',hk⟩ hi hi' hz
     rw [ih g (hok.vl hi hj)]
theorem Path.CR {l:List ByteArray} {p:ByteArray} (h:Path l p):∀{q:ByteArray},Path l q->p=q:=by
 induction h with
 |one hn=>
   intro q g
   generalize hz:[_]=m at g
   cases g with
   |one _=>injection hz
   | @more m p' n' g' _=>
     have h1:=congrArg List.length hz
     rw [List.length_append,List.length_singleton,List.length_singleton] at h1
     exact absurd (List.eq_nil_of_length_eq_zero (by omega)) g'.ne
 | @more l p n h hn ih=>
   intro q g
   generalize hz:l++[n]=m at g
   cases g with
   |one _=>
     have h1:=congrArg List.length hz
     rw [List.length_append,List.length_singleton,List.length_singleton] at h1
     exact absurd (List.eq_nil_of_length_eq_zero (by omega)) h.ne
   | @more m p' n' g' _=>
     obtain⟨h1,h2⟩:=List.append_inj' hz rfl
     subst h1
     injection h2 with h2
     rw [ih g',h2]
theorem fA.CR {l:List ByteArray} {p q:ByteArray} (h:fA l p) (g:fA l q):p=q:=by
 rcases h with ⟨h1,h2⟩|h
 ·rcases g with ⟨_,g2⟩|g
  ·rw [h2,g2]
  exact absurd h1 g.ne
 rcases g with ⟨g1,_⟩|g
 ·exact absurd g1 h.ne
 exact h.CR g
def newNode (ns:List aD) (ρ:Nat->Nat) (k m:Nat):aD:=
 {nd ns k with id:=((ρ k:Nat):Int),aj:=((nd ns k).aj.take m).map λe=>⟨e.name,((ρ (tgt ns e.id):Nat):Int)⟩}
structure gn (ns:List aD) (r:Nat) (ls:List aR) (s:TS) (t:PS) (ρ dn:Nat->Nat):Prop where
 pre:∃tail,ls=s.out++tail
 fold:dg dW ls s.out.length=some t
 iC:∀k,ρ k=0↔s.fst k=⟨#[]⟩
 root:s.out.length≠0->ρ r=1
 lt:∀k,ρ k≠0->k<ns.length/\ρ k<=t.ns.length
 inj:∀k k',ρ k≠0->ρ k=ρ k'->k=k'
 A8:∀j,j<t.ns.length->∃k,ρ k=j+1
 path:∀k,ρ k≠0->(∃l,fA l (s.fst k)/\Steps ns r l k)/\∃i,i<s.out.length/\(ln ls i).path=s.fst k/\t.ids.getD i 0=ρ k
 node:∀k,ρ k≠0->nd t.ns (ρ k-1)=newNode ns ρ k (dn k)
 done:∀k,ρ k≠0->dn k<=(nd ns k).aj.length/\∀j,j<dn k->ρ (tgt ns (ent ns k j).id)≠0
theorem gn.zero (ns:List aD) (r:Nat) (ls:List aR):gn ns r ls fG kA (λ_=>0) (λ_=>0):=
 ⟨⟨ls,rfl⟩,rfl,λ_=>⟨λ_=>rfl,λ_=>rfl⟩,λh=>absurd rfl h,λ_ h=>absurd rfl h,λ_ _ h=>absurd rfl h,λ_ h=>absurd h (Nat.not_lt_zero _),λ_ h=>absurd rfl h,λ_ h=>absurd rfl h,λ_ h=>absurd rfl h⟩
structure Child (ns:List aD) (r:Nat) (s:TS) (ρ dn:Nat->Nat) (q k:Nat) (p:ByteArray):Prop where
 iC:ρ q≠0
 lt:dn q<(nd ns q).aj.length
 tgt:tgt ns (ent ns q (dn q)).id=k
 path:(q=r/\s.fst q=⟨#[46]⟩/\p=(ent ns q (dn q)).name)\/((∃l,Path l (s.fst q))/\p=s.fst q++⟨#[47]⟩++(ent ns q (dn q)).name)
 good:cZ (ent ns q (dn q)).name
def ko (f:Nat->Nat) (k x i:Nat):Nat:=if i=k then x else f i
def cT (t:PS) (ρ:Nat->Nat) (k x:Nat):Nat:=if ρ k=0 then ko ρ k (t.ns.length+1) x else ρ x
def o4 (ρ dn:Nat->Nat) (k x:Nat):Nat:=if ρ k=0 then ko dn k 0 x else dn x
theorem Ai {n:ByteArray} (h:cZ n):cutAt n = -1:=by
 rcases iG n with ⟨h1,_⟩|⟨i,h1,_,h3,_⟩
 ·exact h1
 exact absurd h3 (h.2.2.2.2 i h1).2
theorem Aj {p n:ByteArray} (h:cZ n):cutAt (p++⟨#[47]⟩++n)=(p.size:Int)/\cC (p++⟨#[47]⟩++n)=p/\nameOf (p++⟨#[47]⟩++n)=n:=by
 have e1:(⟨#[47]⟩:ByteArray).size=1:=rfl
 have hs:(p++⟨#[47]⟩++n).size=p.size+1+n.size:=by rw [ByteArray.size_append,ByteArray.size_append,e1]
 have hb:aW (p++⟨#[47]⟩++n) p.size=47:=by
  rw [ByteArray.append_assoc,gN (Nat.le_refl _),Nat.sub_self,jZ (by rw [e1];decide)]
  rfl
 have hcut:cutAt (p++⟨#[47]⟩++n)=(p.size:Int):=by
  rcases iG (p++⟨#[47]⟩++n) with ⟨_,h2⟩|⟨i,h1,h2,h3,h4⟩
  ·exact absurd hb (h2 p.size (by omega))
  rcases Nat.lt_trichotomy i p.size with e|e|e
  ·exact absurd hb (h4 p.size e (by omega))
  ·rw [h2,e]
  exfalso
  rw [gN (by rw [ByteArray.size_append,e1];omega),ByteArray.size_append,e1] at h3
  exact (h.2.2.2.2 (i-(p.size+1)) (by omega)).2 h3
 refine⟨hcut,?_,?_⟩
 ·unfold cC
  rw [hcut,Int.toNat_natCast,ByteArray.append_assoc,ByteArray.extract_append_eq_left rfl]
 unfold nameOf
 rw [hcut,if_pos (Int.natCast_nonneg _),Int.toNat_natCast]
 have:p.size+1=(p++⟨#[47]⟩).size:=by rw [ByteArray.size_append,e1]
 rw [this]
 exact ByteArray.extract_append_eq_right rfl ByteArray.size_append
section CS
variable {ns:List aD} {r:Nat} {ls:List aR} {s:TS} {t:PS} {ρ dn:Nat->Nat}
theorem gn.bS (h:gn ns r ls s t ρ dn) (hg:dX ls) {k:Nat} (hk:ρ k≠0):bS ls t.ids (s.fst k) s.out.length=ρ k:=by
 obtain⟨_,i,hi,hp,hid⟩:=h.path k hk
 have hinv:=ld h.fold
 obtain⟨tail,htl⟩:=h.pre
 have hlen:s.out.length<=ls.length:=by rw [htl];simp
 rw [r9 hp hi (λt ht=>(hinv.pJ t ht).1) (λj hj e=>?_),hid]
 rcases Nat.lt_trichotomy j i with h1|h1|h1
 ·exact absurd (e.trans hp.symm) (hg.nodup j i h1 (by omega))
 ·exact h1
 exact absurd (hp.trans e.symm) (hg.nodup i j h1 (by omega))
theorem dz (t:PS) {k x:Nat} (hx:ρ x≠0):cT t ρ k x=ρ x:=by
 unfold cT ko
 split
 ·rename_i h
  have:¬x=k:=λe=>hx (e ▸ h)
  rw [if_neg this]
 rfl
theorem lX (t:PS) (k:Nat):cT t ρ k k≠0:=by
 unfold cT ko
 split
 ·rw [if_pos rfl];exact Nat.succ_ne_zero _
 assumption
theorem fS (t:PS) {k x:Nat} (hx:cT t ρ k x≠0):ρ x≠0\/(x=k/\ρ k=0/\cT t ρ k x=t.ns.length+1):=by
 unfold cT ko at hx ⊢
 by_cases h:ρ k=0
 ·rw [if_pos h] at hx ⊢
  by_cases e:x=k
  ·right;rw [if_pos e];exact⟨e,h,rfl⟩
  rw [if_neg e] at hx;exact .inl hx
 rw [if_neg h] at hx;exact .inl hx
theorem oN {k x:Nat} (hx:ρ x≠0):o4 ρ dn k x=dn x:=by
 unfold o4 ko
 split
 ·rename_i h
  have:¬x=k:=λe=>hx (e ▸ h)
  rw [if_neg this]
 rfl
theorem jl {k:Nat} (hk:ρ k=0):o4 ρ dn k k=0:=by
 unfold o4 ko
 rw [if_pos hk,if_pos rfl]
theorem pP (h:gn ns r ls s t ρ dn) {k x:Nat} (hx:ρ x≠0):newNode ns (cT t ρ k) x (dn x)=newNode ns ρ x (dn x):=by
 unfold newNode
 rw [dz t hx]
 have hm:((nd ns x).aj.take (dn x)).map (λe=>(⟨e.name,((cT t ρ k (tgt ns e.id):Nat):Int)⟩:bV))=((nd ns x).aj.take (dn x)).map (λe=>(⟨e.name,((ρ (tgt ns e.id):Nat):Int)⟩:bV)):=?_
 ·rw [hm]
 refine List.map_congr_left (λe he=>?_)
 obtain⟨j,hj,y4⟩:=List.getElem_of_mem he
 have hj2:j<dn x/\j<(nd ns x).aj.length:=by simp at hj;omega
 have e2:e=ent ns x j:=by
  rw [←y4,List.getElem_take]
  unfold ent en
  rw [List.getD_eq_getElem?_getD,List.getElem?_eq_getElem hj2.2];rfl
 rw [dz t (by rw [e2];exact (h.done x hx).2 j hj2.1)]
end CS
end
section
open Go.RowKit Go.Maps
theorem mH (n:aD) (p x:ByteArray):(ef n p x).peer=x:=by
 unfold ef
 split
 ·rename_i h;exact h.symm
 rfl
theorem fA.pos {l:List ByteArray} {p:ByteArray} (h:fA l p):¬p=⟨#[]⟩:=by
 rcases h with ⟨_,h⟩|h
 ·rw [h];decide
 intro e
 have:=h.size
 rw [e] at this
 exact absurd this (by decide)
section CS
variable {ns:List aD} {r:Nat} {ls:List aR} {s:TS} {t:PS} {ρ dn:Nat->Nat}
theorem lg {k x:Nat} {p:ByteArray} (h:¬s.fst x=⟨#[]⟩):(push ns k p s).fst x=s.fst x:=by
 unfold push
 split
 ·rename_i h0
  have:¬x=k:=λe=>h (e ▸ h0)
  show (if x=k then p else s.fst x)=_
  rw [if_neg this]
 rfl
theorem iD {k:Nat} {p:ByteArray} (h:s.fst k=⟨#[]⟩):(push ns k p s).fst k=p:=by
 unfold push
 rw [if_pos h]
 show (if k=k then p else s.fst k)=_
 rw [if_pos rfl]
theorem jQ {k x:Nat} {p:ByteArray} (h:¬x=k):(push ns k p s).fst x=s.fst x:=by
 unfold push
 split
 ·show (if x=k then p else s.fst x)=_
  rw [if_neg h]
 rfl
structure jR (ns:List aD) (ls:List aR) (s:TS) (k:Nat) (p:ByteArray):Prop where
 lt:s.out.length<ls.length
 line:ln ls s.out.length=ef (nd ns k) p (s.fst k)
theorem nS {k:Nat} {p:ByteArray} (h:∃tail,ls=(push ns k p s).out++tail):jR ns ls s k p:=by
 obtain⟨tail,h⟩:=h
 rw [dH,List.append_assoc] at h
 refine⟨by rw [h];simp,?_⟩
 unfold ln
 rw [h,List.getD_eq_getElem?_getD,List.getElem?_append_right (Nat.le_refl _)]
 simp
theorem gn.fresh (h:gn ns r ls s t ρ dn) (hg:dX ls) {k:Nat} {p:ByteArray} (hn:jR ns ls s k p):Proofs.Ytjpdcppdoonmdaa.bS ls t.ids (ln ls s.out.length).path s.out.length=0:=
 (j9 (λj hj=>((ld h.fold).pJ j hj).1)).2 (λj hj=>hg.nodup j _ hj hn.lt)
theorem gn.newId (h:gn ns r ls s t ρ dn) (hg:dX ls) {k:Nat} {p:ByteArray} (hn:jR ns ls s k p):Proofs.Ytjpdcppdoonmdaa.newId ls t s.out.length=cT t ρ k k:=by
 have hpe:(ln ls s.out.length).peer=s.fst k:=by rw [hn.line,mH]
 unfold Proofs.Ytjpdcppdoonmdaa.newId cT
 by_cases hk:ρ k=0
 ·rw [if_pos (by rw [hpe];exact (h.iC k).1 hk),if_pos hk]
  unfold ko;rw [if_pos rfl]
 rw [if_neg (by rw [hpe];exact λe=>hk ((h.iC k).2 e)),if_neg hk,hpe]
 exact h.bS hg hk
theorem gn.next (h:gn ns r ls s t ρ dn) {k:Nat} {p:ByteArray} {l:List ByteArray} (hk:k<ns.length) (hp:fA l p) (hs:Steps ns r l k) (hpre:∃tail,ls=(push ns k p s).out++tail)
 {t':PS} (hstep:dW ls t s.out.length=some t') (CT:t'.ids=t.ids++[cT t ρ k k]) (hlen:t'.ns.length=if ρ k=0 then t.ns.length+1 else t.ns.length) {jH:Nat->Nat}
 (xJ:∀x,cT t ρ k x≠0->nd t'.ns (cT t ρ k x-1)=newNode ns (cT t ρ k) x (jH x)) (hdone:∀x,cT t ρ k x≠0->jH x<=(nd ns x).aj.length/\∀j,j<jH x->cT t ρ k (tgt ns (ent ns x j).id)≠0)
 (Dq:cT t ρ k r=1):gn ns r ls (push ns k p s) t' (cT t ρ k) jH:=by
 have CU:=(ld h.fold).q8
 have hn:=nS hpre
 have hle:∀x,ρ x≠0->ρ x<=t.ns.length:=λx hx=>(h.lt x hx).2
 refine⟨hpre,?_,λx=>?_,λ_=>Dq,λx hx=>?_,λx x' hx e=>?_,λj hj=>?_,λx hx=>?_,xJ,hdone⟩
 ·rw [dr,dg,h.fold];exact hstep
 ·by_cases e:x=k
  ·subst e
   refine⟨λh0=>absurd h0 (lX t x),λh0=>?_⟩
   by_cases hx:s.fst x=⟨#[]⟩
   ·rw [iD hx] at h0;exact absurd h0 hp.pos
   rw [lg hx] at h0;exact absurd h0 hx
  rw [jQ e,←h.iC x]
  unfold cT ko
  by_cases h0:ρ k=0
  ·rw [if_pos h0,if_neg e]
  rw [if_neg h0]
 ·rcases fS t hx with h1|⟨rfl,h1,h2⟩
  ·rw [dz t h1,hlen]
   have:=h.lt x h1
   split<;>omega
  rw [h2,hlen,if_pos h1];exact⟨hk,Nat.le_refl _⟩
 ·have hx':cT t ρ k x'≠0:=e ▸ hx
  rcases fS t hx with h1|⟨rfl,h1,h2⟩
  ·rcases fS t hx' with g1|⟨rfl,g1,g2⟩
   ·rw [dz t h1,dz t g1] at e;exact h.inj x x' h1 e
   rw [dz t h1,g2] at e;have:=hle x h1;omega
  rcases fS t hx' with g1|⟨rfl,g1,g2⟩
  ·rw [dz t g1,h2] at e;have:=hle x' g1;omega
  rfl
 ·rw [hlen] at hj
  by_cases hj2:j<t.ns.length
  ·obtain⟨x,hx⟩:=h.A8 j hj2
   exact⟨x,by rw [dz t (by omega)];exact hx⟩
  by_cases h0:ρ k=0
  ·rw [if_pos h0] at hj
   refine⟨k,?_⟩
   unfold cT ko
   rw [if_pos h0,if_pos rfl]
   omega
  rw [if_neg h0] at hj;omega
 rcases fS t hx with h1|⟨rfl,h1,h2⟩
 ·have hf:¬s.fst x=⟨#[]⟩:=λe=>h1 ((h.iC x).2 e)
  obtain⟨g1,i,g2,g3,g4⟩:=h.path x h1
  rw [lg hf,dz t h1,dr,CT]
  exact⟨g1,i,by omega,g3,by rw [lT (by omega)];exact g4⟩
 have hf:s.fst x=⟨#[]⟩:=(h.iC x).1 h1
 rw [iD hf,dr,CT]
 refine⟨⟨l,hp,hs⟩,s.out.length,Nat.lt_succ_self _,by rw [hn.line,(ic _ _ _).1],?_⟩
 rw [←CU,lU]
theorem gn.ax (h:gn ns r ls s t ρ dn) {k:Nat} {p:ByteArray} (hn:jR ns ls s k p):(ρ k=0->Proofs.Ytjpdcppdoonmdaa.ax ls t s.out.length=t.ns++[aS (ln ls s.out.length) t.ns.length]/\aS (ln ls s.out.length) t.ns.length=newNode ns (cT t ρ k) k 0)/\(¬ρ k=0->Proofs.Ytjpdcppdoonmdaa.ax ls t s.out.length=t.ns):=by
 have hpe:(ln ls s.out.length).peer=s.fst k:=by rw [hn.line,mH]
 refine⟨λhk=>⟨(jP (by rw [hpe];exact (h.iC k).1 hk)).1,?_⟩,λhk=>(iA (by rw [hpe];exact λe=>hk ((h.iC k).2 e))).1⟩
 rw [hn.line,iy _ _ ((h.iC k).1 hk)]
 unfold aS newNode cT ko
 rw [if_pos hk]
 simp
theorem gn.Ba (h:gn ns r ls s t ρ dn) (h0:s.out.length=0):t=kA/\∀x,ρ x=0:=by
 have h1:=h.fold
 rw [h0] at h1
 refine⟨by cases h1;rfl,λx=>?_⟩
 apply Classical.byContradiction
 intro hx
 obtain⟨_,i,hi,_⟩:=h.path x hx
 omega
theorem gn.Dr (h:gn ns r ls s t ρ dn) (hg:dX ls) {p:ByteArray} {l:List ByteArray} (hk:r<ns.length) (hp:fA l p) (hs:Steps ns r l r) (hpre:∃tail,ls=(push ns r p s).out++tail) (h0:s.out.length=0) :
 ∃t',gn ns r ls (push ns r p s) t' (cT t ρ r) (o4 ρ dn r):=by
 have hn:=nS hpre
 obtain⟨rfl,hz⟩:=h.Ba h0
 have hid:=h.newId hg hn
 have hns:=(h.ax hn).1 (hz r)
 have Am:cT kA ρ r r=1:=by unfold cT ko;rw [if_pos (hz r),if_pos rfl];rfl
 refine⟨_,h.next hk hp hs hpre (pO (h.fresh hg hn) (by rw [hid,Am];decide) h0) (by rw [←hid]) ?_ (λx hx=>?_) (λx hx=>?_) Am⟩
 ·show (Proofs.Ytjpdcppdoonmdaa.ax ls kA s.out.length).length=_
  rw [hns.1,if_pos (hz r)];rfl
 ·rcases fS kA hx with h1|⟨rfl,_,_⟩
  ·exact absurd (hz x) h1
  rw [Am,jl (hz x)]
  show nd (Proofs.Ytjpdcppdoonmdaa.ax ls kA s.out.length) 0=_
  rw [hns.1,←hns.2];rfl
 rcases fS kA hx with h1|⟨rfl,_,_⟩
 ·exact absurd (hz x) h1
 rw [jl (hz x)];exact⟨Nat.zero_le _,λj hj=>absurd hj (Nat.not_lt_zero j)⟩
theorem Child.names {q k:Nat} {p:ByteArray} (c:Child ns r s ρ dn q k p) (h:gn ns r ls s t ρ dn) (hg:dX ls) (hn:jR ns ls s k p):bH ls t s.out.length=ρ q/\nameOf (ln ls s.out.length).path=(ent ns q (dn q)).name:=by
 have hpa:(ln ls s.out.length).path=p:=by rw [hn.line,(ic _ _ _).1]
 rcases c.path with ⟨rfl,_,h2⟩|⟨_,h2⟩
 ·have hc:=Ai c.good
  have hne:s.out.length≠0:=by obtain⟨_,i,hi,_⟩:=h.path q c.iC;omega
  rw [hpa,h2]
  refine⟨?_,?_⟩
  ·unfold bH;rw [hpa,h2,hc,if_neg (by decide),h.root hne]
  unfold nameOf;rw [hc,if_neg (by decide)]
 obtain⟨h3,h4,h5⟩:=Aj (p:=s.fst q) c.good
 rw [hpa,h2]
 refine⟨?_,h5⟩
 unfold bH
 rw [hpa,h2,h3,if_pos (Int.natCast_nonneg _),h4]
 exact h.bS hg c.iC
theorem gn.Ds (h:gn ns r ls s t ρ dn) (hg:dX ls) {k q:Nat} {p:ByteArray} {l:List ByteArray} (hk:k<ns.length) (hp:fA l p) (hs:Steps ns r l k) (hpre:∃tail,ls=(push ns k p s).out++tail)
 (c:Child ns r s ρ dn q k p):∃t',gn ns r ls (push ns k p s) t' (cT t ρ k) (λx=>if x=q then dn q+1 else o4 ρ dn k x):=by
 have hn:=nS hpre
 have hid:=h.newId hg hn
 obtain⟨hpar,hname⟩:=c.names h hg hn
 have hne:s.out.length≠0:=by obtain⟨_,i,hi,_⟩:=h.path q c.iC;omega
 have hq:=h.lt q c.iC
 have kz:=c.iC
 have hqr:cT t ρ k q=ρ q:=dz t c.iC
 have EU:=jO (ls:=ls) (s:=t) (i:=s.out.length)
 have CV:ρ q-1<(Proofs.Ytjpdcppdoonmdaa.ax ls t s.out.length).length:=by omega
 have Bb:∀j,j<t.ns.length->nd (Proofs.Ytjpdcppdoonmdaa.ax ls t s.out.length) j=nd t.ns j:=λj hj=>by
  by_cases h0:ρ k=0
  ·rw [((h.ax hn).1 h0).1,mU hj]
  rw [(h.ax hn).2 h0]
 refine⟨_,h.next hk hp hs hpre (rB (h.fresh hg hn) (by rw [hid];exact lX t k) hne (by rw [hpar];exact c.iC)) (by rw [←hid]) ?_ (λx hx=>?_) (λx hx=>?_) (by
  have:=h.root hne
  rw [dz t (by omega)];exact this)⟩
 ·show (cA _ _ _).length=_
  rw [eu]
  by_cases h0:ρ k=0
  ·rw [((h.ax hn).1 h0).1,if_pos h0,List.length_append];rfl
  rw [(h.ax hn).2 h0,if_neg h0]
 ·show nd (cA (Proofs.Ytjpdcppdoonmdaa.ax ls t s.out.length) (bH ls t s.out.length-1) _) _=_
  rw [hpar,iz CV]
  by_cases e:x=q
  ·subst e
   rw [hqr,if_pos rfl,if_pos rfl,Bb _ (by omega),h.node x c.iC,←pP h (k:=k) c.iC,hname,hid]
   unfold newNode
   simp only
   have e1:(nd ns x).aj.take (dn x+1)=(nd ns x).aj.take (dn x)++[ent ns x (dn x)]:=by
    rw [List.take_add_one]
    congr 1
    unfold ent en
    rw [List.getD_eq_getElem?_getD,List.getElem?_eq_getElem c.lt];rfl
   rw [e1,List.map_append]
   simp only [List.map_cons,List.map_nil,c.tgt]
  rw [if_neg e]
  rcases fS t hx with h1|⟨rfl,h1,h2⟩
  ·rw [dz t h1,oN h1]
   have hlx:=h.lt x h1
   rw [if_neg (λe2=>e (h.inj x q h1 (by omega))),Bb _ (by omega),h.node x h1,pP h h1]
  rw [h2,jl h1,if_neg (by omega),Nat.add_sub_cancel,((h.ax hn).1 h1).1,kL,((h.ax hn).1 h1).2]
 by_cases e:x=q
 ·subst e
  simp only [if_true]
  refine⟨by have:=c.lt;omega,λj hj=>?_⟩
  rcases Nat.lt_succ_iff_lt_or_eq.1 hj with e|e
  ·have:=(h.done x c.iC).2 j e
   rw [dz t this];exact this
  rw [e,c.tgt];exact lX t k
 simp only [e,if_false]
 rcases fS t hx with h1|⟨rfl,h1,h2⟩
 ·rw [oN h1]
  refine⟨(h.done x h1).1,λj hj=>?_⟩
  have:=(h.done x h1).2 j hj
  rw [dz t this];exact this
 rw [jl h1];exact⟨Nat.zero_le _,λj hj=>absurd hj (Nat.not_lt_zero j)⟩
end CS
end
section
open Go.RowKit Go.Maps
theorem lY {α:Type} {g:α->TS->Option TS} (hg:∀e s s',g e s=some s'->∃new,s'.out=s.out++new):∀{l:List α} {s s':TS},bR g l s=some s'->∃new,s'.out=s.out++new
 |[],s,s',h=>by cases h;exact⟨[],(List.append_nil _).symm⟩
 |e::r,s,s',h=>by
   rw [bR] at h
   cases h1:g e s with
   |none=>rw [h1] at h;cases h
   |some a=>
     rw [h1] at h
     obtain⟨n1,e1⟩:=hg e s a h1
     obtain⟨n2,e2⟩:=lY hg h
     exact⟨n1++n2,by rw [e2,e1,List.append_assoc]⟩
theorem qq {ns:List aD}:∀(f k:Nat) (p:ByteArray) (s s':TS),bP ns f k p s=some s'->∃new,s'.out=s.out++new
 |0,_,_,_,_,h=>by cases h
 |f+1,k,p,s,s',h=>by
   rw [bP] at h
   split at h
   ·cases h
   obtain⟨new,e⟩:=lY (λe a b hab=>qq f _ _ a b hab) h
   rw [dH] at e
   exact⟨[ef (nd ns k) p (s.fst k)]++new,by rw [e,List.append_assoc]⟩
theorem y5 {ls a b:List aR} (h:∃tail,ls=b++tail) (g:∃new,b=a++new):∃tail,ls=a++tail:=by
 obtain⟨t,rfl⟩:=h
 obtain⟨n,rfl⟩:=g
 exact⟨n++t,by rw [List.append_assoc]⟩
structure Ext (ns:List aD) (s s':TS) (ρ dn ρ' jH:Nat->Nat) (q:Option Nat):Prop where
 old:∀x,ρ x≠0->ρ' x=ρ x
 fst:∀x,ρ x≠0->s'.fst x=s.fst x
 mY:∀x,ρ x≠0->jH x=if q=some x then dn x+1 else dn x
 oO:∀x,ρ x=0->ρ' x≠0->jH x=(nd ns x).aj.length
structure Bc (ns:List aD) (s a:TS) (ρ dn ρ' jH:Nat->Nat) (k j:Nat):Prop where
 old:∀x,ρ x≠0->ρ' x=ρ x
 fst:∀x,ρ x≠0->a.fst x=s.fst x
 mY:∀x,ρ x≠0->x≠k->jH x=dn x
 oO:∀x,ρ x=0->ρ' x≠0->jH x=(nd ns x).aj.length
 at_:jH k=j
section
variable {ns:List aD} {r:Nat} {ls:List aR}
theorem gn.BM {s:TS} {t:PS} {ρ dn:Nat->Nat} (h:gn ns r ls s t ρ dn) (hok:bw ns) (hg:dX ls) {k:Nat} {p:ByteArray} {l:List ByteArray} (hp:fA l p) (hs:Steps ns r l k) (hn:jR ns ls s k p) (hk:(nd ns k).kind=2):ρ k=0:=by
 apply Classical.byContradiction
 intro hx
 obtain⟨⟨l',h1,h2⟩,i,h3,h4,_⟩:=h.path k hx
 have e:=h2.uniq hok hs hk
 subst e
 have e2:=h1.CR hp
 refine hg.nodup i _ h3 hn.lt ?_
 rw [h4,e2,hn.line,(ic _ _ _).1]
def Dt (ns:List aD) (r:Nat) (s:TS) (ρ dn:Nat->Nat) (k:Nat) (p:ByteArray):Option Nat->Prop
 |none=>s.out.length=0/\k=r
 |some q=>Child ns r s ρ dn q k p
theorem vm (hok:bw ns) (hg:dX ls):∀(f k:Nat) (p:ByteArray) (l:List ByteArray) (s s':TS) (t:PS) (ρ dn:Nat->Nat) (q:Option Nat),bP ns f k p s=some s'->(∃tail,ls=s'.out++tail)->gn ns r ls s t ρ dn->k<ns.length->fA l p->Steps ns r l k →
 (s.out.length=0↔l=[])->Dt ns r s ρ dn k p q->∃t' ρ' jH,gn ns r ls s' t' ρ' jH/\Ext ns s s' ρ dn ρ' jH q/\ρ' k≠0
 |0,_,_,_,_,_,_,_,_,_,h,_,_,_,_,_,_,_=>by cases h
 |f+1,k,p,l,s,s',t,ρ,dn,q,h,hpre,hS,hk,hp,hst,Ap,hpar=>by
   rw [bP] at h
   split at h
   ·cases h
   have xK:∃tail,ls=(push ns k p s).out++tail:=y5 hpre (lY (λe a b hab=>qq f _ _ a b hab) h)
   have hn:=nS xK
   obtain⟨t1,tA,DC,hd1,hd2⟩:∃t1 tA,gn ns r ls (push ns k p s) t1 (cT t ρ k) tA/\(∀x,ρ x≠0->tA x=if q=some x then dn x+1 else dn x)/\(ρ k=0->tA k=0):=by
    cases q with
    |none=>
      obtain⟨h0,rfl⟩:=hpar
      obtain⟨t1,h1⟩:=hS.Dr hg hk hp hst xK h0
      exact⟨t1,_,h1,λx hx=>absurd ((hS.Ba h0).2 x) hx,λhz=>jl hz⟩
    |some q=>
      have c:Child ns r s ρ dn q k p:=hpar
      obtain⟨t1,h1⟩:=hS.Ds hg hk hp hst xK c
      refine⟨t1,_,h1,λx hx=>?_,λhz=>?_⟩
      ·by_cases e:x=q
       ·subst e;simp
       have:¬q=x:=λe2=>e e2.symm
       simp [e,this,oN hx]
      have:¬k=q:=λe=>c.iC (e ▸ hz)
      simp [this,jl hz]
   have hk1:cT t ρ k k≠0:=lX t k
   have hf1:∀x,ρ x≠0->(push ns k p s).fst x=s.fst x:=λx hx=>lg (λe=>hx ((hS.iC x).2 e))
   rcases Nat.eq_zero_or_pos (nd ns k).aj.length with hz|hz
   ·have he:(nd ns k).aj=[]:=List.eq_nil_of_length_eq_zero hz
    rw [he] at h
    cases h
    refine⟨t1,_,tA,DC,⟨λx hx=>dz t hx,hf1,hd1,λx hx hx'=>?_⟩,hk1⟩
    rcases fS t hx' with h1|⟨rfl,h1,_⟩
    ·exact absurd hx h1
    rw [hd2 h1,hz]
   have vn:=hok.vl hk hz
   have hk0:=hS.BM hok hg hp hst hn vn
   have fK:(push ns k p s).fst k=p:=iD ((hS.iC k).1 hk0)
   have key:∀n j,n+j=(nd ns k).aj.length->∀a ta rF vo,gn ns r ls a ta rF vo->Bc ns (push ns k p s) a (cT t ρ k) tA rF vo k j->bR (λe s'=>bP ns f (tgt ns e.id) (below s.out.length p e.name) s') ((nd ns k).aj.drop j) a=some s' →
    ∃t' ρ' jH,gn ns r ls s' t' ρ' jH/\Bc ns (push ns k p s) s' (cT t ρ k) tA ρ' jH k (nd ns k).aj.length:=by
    intro n
    induction n with
    |zero=>
      intro j hj a ta rF vo ha hm hf
      rw [jg (by omega)] at hf
      cases hf
      rw [Nat.zero_add] at hj
      exact⟨ta,rF,vo,ha,hj ▸ hm⟩
    |succ n ih=>
      intro j hj a ta rF vo ha hm hf
      have hjl:j<(nd ns k).aj.length:=by omega
      rw [dx hjl] at hf
      cases h4:bP ns f (tgt ns (en (nd ns k).aj j).id) (below s.out.length p (en (nd ns k).aj j).name) a with
      |none=>rw [h4] at hf;cases hf
      |some b=>
        rw [h4] at hf
        have Bd:cZ (en (nd ns k).aj j).name:=(hok.aj k hk j hjl).good
        have CK:=hp.below Ap Bd
        have hka:rF k≠0:=by rw [hm.old k hk1];exact hk1
        have Et:a.fst k=p:=by rw [hm.fst k hk1,fK]
        have DU:a.out.length≠0:=by obtain⟨_,i,hi,_⟩:=ha.path k hka;omega
        have hc:Child ns r a rF vo k (tgt ns (en (nd ns k).aj j).id) (below s.out.length p (en (nd ns k).aj j).name):=by
         refine⟨hka,by rw [hm.at_];exact hjl,by rw [hm.at_];rfl,?_,by rw [hm.at_];exact Bd⟩
         rw [hm.at_,Et]
         by_cases h0:s.out.length=0
         ·have hl0:=Ap.1 h0
          subst hl0
          left
          refine⟨?_,?_,if_pos h0⟩
          ·cases q with
           |none=>exact hpar.2
           |some q=>
             have c:Child ns r s ρ dn q k p:=hpar
             obtain⟨_,i,hi,_⟩:=hS.path q c.iC
             omega
          rcases hp with ⟨_,h⟩|h
          ·exact h
          exact absurd rfl h.ne
         right
         refine⟨?_,if_neg h0⟩
         rcases hp with ⟨h,_⟩|h
         ·exact absurd (Ap.2 h) h0
         exact⟨l,h⟩
        have hpb:∃tail,ls=b.out++tail:=y5 hpre (lY (λe a b hab=>qq f _ _ a b hab) hf)
        obtain⟨tb,Eu,Ev,hb,hx,_⟩:=vm hok hg f _ _ (l++[(en (nd ns k).aj j).name]) a b ta rF vo (some k) h4 hpb ha (cH (hok.aj k hk j hjl).at_).1 (.inr CK) (hst.snoc hk hjl) ⟨λe=>absurd e DU,λe=>absurd e (by simp)⟩ hc
        refine ih (j+1) (by omega) b tb Eu Ev hb ⟨λx h1=>?_,λx h1=>?_,λx h1 h2=>?_,λx h1 h2=>?_,?_⟩ hf
        ·have:=hm.old x h1
         rw [hx.old x (by rw [this];exact h1),this]
        ·have:=hm.old x h1
         rw [hx.fst x (by rw [this];exact h1),hm.fst x h1]
        ·have:=hm.old x h1
         have h3:¬(some k:Option Nat)=some x:=λe=>h2 (by cases e;rfl)
         rw [hx.mY x (by rw [this];exact h1),if_neg h3,hm.mY x h1 h2]
        ·by_cases h3:rF x=0
         ·exact hx.oO x h3 h2
         have h5:¬(some k:Option Nat)=some x:=λe=>by cases e;exact hk1 h1
         rw [hx.mY x h3,if_neg h5]
         exact hm.oO x h1 h3
        rw [hx.mY k hka,if_pos rfl,hm.at_]
   obtain⟨t',ρ',jH,g1,g2⟩:=key _ 0 rfl (push ns k p s) t1 (cT t ρ k) tA DC ⟨λ_ _=>rfl,λ_ _=>rfl,λ_ _ _=>rfl,λx h1 h2=>absurd h1 h2,hd2 hk0⟩ (by rw [List.drop_zero];exact h)
   refine⟨t',ρ',jH,g1,⟨λx hx=>?_,λx hx=>?_,λx hx=>?_,λx hx hx'=>?_⟩,by rw [g2.old k hk1];exact hk1⟩
   ·have:=dz t (k:=k) hx
    rw [g2.old x (by rw [this];exact hx),this]
   ·have:=dz t (k:=k) hx
    rw [g2.fst x (by rw [this];exact hx),hf1 x hx]
   ·have:=dz t (k:=k) hx
    rw [g2.mY x (by rw [this];exact hx) (λe=>hx (e ▸ hk0)),hd1 x hx]
   by_cases h1:cT t ρ k x=0
   ·exact g2.oO x h1 hx'
   rcases fS t h1 with h2|⟨rfl,_,_⟩
   ·exact absurd hx h2
   exact g2.at_
end
end
section
open Go.RowKit
def EQ (e:TypeId) (size:Nat) (A:Option Addr) (n cap:Nat) (xs:List Value):dh where
 h F w:=xs.length=n*size/\∃g off cur,A=some ⟨g,off,none⟩/\w.heap[g]?=some (.cells cur e (0,0))/\n<=cap/\cap<=maxLen/\off+cap*size<=cur.size/\(∀(j:Nat) u,xs[j]?=some u->cur[off+j]?=some u)/\∀k,F k↔k=g
 lt:=by
  rintro F w ⟨_,g,off,cur,_,h1,_,_,_,_,h2⟩ k hk
  rw [(h2 k).1 hk]
  exact lt_of_some h1
 st:=by
  rintro F w ⟨h0,g,off,cur,h3,h1,h4,h5,h6,h7,h2⟩ S w' hk hn
  exact⟨h0,g,off,cur,h3,(hk.block g (lt_of_some h1) (hn g ((h2 g).2 rfl))).trans h1,h4,h5,h6,h7,h2⟩
section tails
variable {e:TypeId} {size n m cap:Nat} {A:Option Addr} {xs news:List Value} {w:World}
end tails
section rules
variable {P:Program} {β:Bs} {N:dK} {ops:Array Oper} {k:Nat} {fr:Fr} {hps:List HP} {Q:Post} {d:Option Tmp}
end rules
end
section
open Go.RowKit Go.Maps Go.Sort Go.Shelf
structure KeysOf (f:Lit->Option Value) (ss:List Int):Prop where
 mem:∀z,z∈ss↔(f (.int .i64 z)).isSome=true
 sorted:ss.Pairwise (· < ·)
end
section
open Go.RowKit
attribute [local irreducible] af aN ai ah
theorem wN {β:Bs} (e:bV) (p:ByteArray):Spec Try.prog β 44 #[.agg #[.string e.name,.int .i64 (e.id)],.string p] [] (λv l=>v=.int .i64 (eG e.name p)/\l=[]):=by
 refine Spec.enter Try.func44 rfl Try.ntmps44 (Nat.le_of_ble_eq_true rfl) (λR=>?_)
 refine ai.seq (ai.region (af.bD (k':=2) (fr':=λb1=>[(1,.string p),(2,.pointer (some ⟨b1,0,none⟩))]) (aL:=λb1=>[.abs R,.blk b1 [.string e.name,.int .i64 (e.id)] 72]) (ak:=λb1=>[]) [o_,o_] [1,2] [0,1] (λ_ _=>by kernel_rfl) (λb1=>trivial) (λb1=>?_)))
 refine af.nil (by kernel_rfl) (ah.next (ai.seq (ai.region ?_)))
 refine af.aq (k':=3) (fr':=[(6,.string e.name),(7,.string p)]) (ak:=[b1=b1]) [o_,⟨[.at 1],none,none,none,none⟩,o_] [6,7] (λ_ _=>by kernel_rfl) ⟨rfl,trivial⟩ ?_
 refine af.call (f:=45) (args:=#[.string e.name,.string p]) (d:=(some 8)) (pre:=[]) (R:=[.abs R,.blk b1 [.string e.name,.int .i64 (e.id)] 72]) (pk:=[0,1]) (λ_=>by kernel_rfl) (xq e.name p) rfl (by kernel_rfl) ?_
 rintro _ _ ⟨rfl,rfl⟩
 refine af.aq (k':=5) (fr':=[(4,.int .i64 ((eG e.name p)))]) (ak:=[]) [o_] [4] (λ_ _=>by kernel_rfl) trivial ?_
 refine af.nil (by kernel_rfl) (ah.next (ai.ret ?_))
 exact ah.ret (v:=.int .i64 ((eG e.name p))) (l:=[]) (ak:=[]) [] [0] (λ_=>by kernel_rfl) trivial rfl (by kernel_rfl) (⟨rfl,rfl⟩)
theorem xL {β:Bs} (A:Option Addr) (c:Nat) (es:List bV) (p:ByteArray) (hE:bh β A es) (hl:es.length<=1048576) (hs:Sorted es) :
 Spec Try.prog β 43 #[.slice A es.length c,.string p,.func (.func 44) #[] #[]] [] (λv l=>Found es p v/\l=[]):=by
 refine Spec.enter Try.func43 rfl Try.ntmps43 (Nat.le_of_ble_eq_true rfl) (λR=>?_)
 refine ai.seq (ai.region (af.aq (k':=2) (fr':=[(0,.slice A (es.length) (c)),(1,.string p),(2,.func (.func 44) #[] #[])]) (ak:=[]) [o_,o_] [0,1,2] (λ_ _=>by kernel_rfl) trivial ?_))
 refine af.nil (by kernel_rfl) (ah.next (ai.seq (ai.region ?_)))
 refine af.aq (k':=3) (fr':=[(0,.slice A (es.length) (c)),(1,.string p),(2,.func (.func 44) #[] #[]),(8,.int .i64 ↑es.length)]) (ak:=[]) [o_,o_,o_] [0,1,2,8] (λ_ _=>by kernel_rfl) trivial ?_
 refine af.nil (by kernel_rfl) (ah.next (ai.seq (ai.region ?_)))
 refine af.aq (k':=3) (fr':=[(0,.slice A (es.length) (c)),(1,.string p),(2,.func (.func 44) #[] #[]),(8,.int .i64 ↑es.length),(9,.int .i64 0),(10,.int .i64 ↑es.length)]) (ak:=[]) [o_,o_,o_] [0,1,2,8,9,10] (λ_ _=>by kernel_rfl) trivial ?_
 refine af.nil (by kernel_rfl) (ah.next (ai.seq (ai.block ?_)))
 refine ai.loop (ι:=Nat×Nat) (λ((i,j):Nat×Nat)=>(i<=j)/\(j<=es.length)/\(∀t,t<i->eG (en es t).name p<0)/\(∀t,j<=t->t<es.length->0<=eG (en es t).name p)) (λ((i,j):Nat×Nat)=>j-i) (λ((i,j):Nat×Nat)=>[(0,.slice A (es.length) (c)),(1,.string p),(2,.func (.func 44) #[] #[]),(8,.int .i64 ↑es.length),(9,.int .i64 ↑i),(10,.int .i64 ↑j)]) (λ((i,j):Nat×Nat)=>[.abs R]) (0,es.length) (idx:=[0,1,2,8,9,10]) (pk:=[0]) (show (0<=es.length)/\(es.length<=es.length)/\(∀t,t<0->eG (en es t).name p<0)/\(∀t,es.length<=t->t<es.length->0<=eG (en es t).name p) from ⟨Nat.zero_le _,Nat.le_refl _,λt h=>absurd h (Nat.not_lt_zero t),λt h1 h2=>by omega⟩) (λ_=>by kernel_rfl) rfl (by kernel_rfl) ?_
 rintro⟨i,j⟩ ⟨hij,hj,hlo,hhi⟩
 show ai _ _ _ _ [(0,.slice A (es.length) (c)),(1,.string p),(2,.func (.func 44) #[] #[]),(8,.int .i64 ↑es.length),(9,.int .i64 ↑i),(10,.int .i64 ↑j)] [.abs R] _
 refine ai.seq (ai.seq (ai.region (af.aq (k':=3) (fr':=[(0,.slice A (es.length) (c)),(1,.string p),(2,.func (.func 44) #[] #[]),(8,.int .i64 ↑es.length),(9,.int .i64 ↑i),(10,.int .i64 ↑j),(17,.bool (decide ((((i:Nat):Int):Int)<(((j:Nat):Int):Int))))]) (ak:=[]) [o_,o_,o_] [0,1,2,8,9,10,17] (λ_ _=>by kernel_rfl) trivial ?_)))
 refine af.nil (by kernel_rfl) (ah.next ?_)
 refine ai.aV (p:=(((i:Nat):Int):Int)<(((j:Nat):Int):Int)) (λ_=>by kernel_rfl) (λmP=>?_) (λmP=>?_)
 ·refine ai.skip (ah.next (ai.block (ai.seq (ai.region ?_))))
  refine af.aq (k':=7) (fr':=[(0,.slice A (es.length) (c)),(1,.string p),(2,.func (.func 44) #[] #[]),(8,.int .i64 ↑es.length),(9,.int .i64 ↑i),(10,.int .i64 ↑j),(11,.int .i64 ↑((i+j) / 2))]) (ak:=[(Value.int .i64 (IntKind.wrap .i64 (((i+j) / 2:Nat):Int)))=(.int .i64 ↑((i+j) / 2)),(Value.int .u64 (Int.fdiv ((i+j:Nat):Int) (2 ^ 1)))=(.int .u64 ((((i+j) / 2:Nat):Int))),(Value.int .u64 (IntKind.wrap .u64 ((i+j:Nat):Int)))=(.int .u64 (((i+j:Nat):Int))),(Value.int .i64 (IntKind.wrap .i64 (((i:Nat):Int)+((j:Nat):Int))))=(.int .i64 ↑(i+j))]) [o_,o_,⟨[],none,none,none,some (.int .i64 ↑(i+j))⟩,⟨[],none,none,none,some (.int .u64 (((i+j:Nat):Int)))⟩,⟨[],none,none,none,some (.int .u64 ((((i+j) / 2:Nat):Int)))⟩,⟨[],none,none,none,some (.int .i64 ↑((i+j) / 2))⟩,o_] [0,1,2,8,9,10,11] (λ_ _=>by kernel_rfl) ⟨aP rfl (by omega) (by omega),BU,Dc (by omega) (by omega),aP (by omega) (by omega) (by omega),trivial⟩ ?_
  refine af.nil (by kernel_rfl) (ah.next (ai.seq (ai.region ?_)))
  refine af.aq (k':=6) (fr':=[(0,.slice A (es.length) (c)),(1,.string p),(2,.func (.func 44) #[] #[]),(8,.int .i64 ↑es.length),(9,.int .i64 ↑i),(10,.int .i64 ↑j),(11,.int .i64 ↑((i+j) / 2)),(24,.func (.func 44) #[] #[]),(28,.agg #[.string (en es ((i+j) / 2)).name,.int .i64 ((en es ((i+j) / 2)).id)]),(29,.string p)]) (ak:=[(Rd β ⟨(au A),ar A+((i+j) / 2)*2+1,none⟩ (.int .i64 ((en es ((i+j) / 2)).id))),(Rd β ⟨(au A),ar A+((i+j) / 2)*2,none⟩ (.string (en es ((i+j) / 2)).name)),(((i+j) / 2:Nat):Int)=(((i+j) / 2:Nat):Int),(i+j) / 2<es.length,(⟨(au A),ar A,none⟩:Addr).spot=none,(A:Option Addr)=some ⟨(au A),ar A,none⟩]) [o_,o_,o_,⟨[],some ((i+j) / 2),none,some ⟨(au A),ar A,none⟩,none⟩,⟨[.old (.string (en es ((i+j) / 2)).name),.old (.int .i64 ((en es ((i+j) / 2)).id))],none,none,none,none⟩,o_] [0,1,2,8,9,10,11,24,28,29] (λ_ _=>by kernel_rfl) ⟨bh.rd hE (i:=(i+j) / 2) (by omega) (j:=1) rfl,bh.rd hE (i:=(i+j) / 2) (by omega) (j:=0) rfl,rfl,by omega,rfl,bh.hd hE (i:=(i+j) / 2) (by omega),trivial⟩ ?_
  refine af.call (f:=44) (args:=#[.agg #[.string (en es ((i+j) / 2)).name,.int .i64 ((en es ((i+j) / 2)).id)],.string p]) (d:=(some 30)) (pre:=[]) (R:=[.abs R]) (pk:=[0]) (λ_=>by kernel_rfl) (wN (en es ((i+j) / 2)) p) rfl (by kernel_rfl) ?_
  rintro _ _ ⟨rfl,rfl⟩
  refine af.aq (k':=8) (fr':=[(0,.slice A (es.length) (c)),(1,.string p),(2,.func (.func 44) #[] #[]),(8,.int .i64 ↑es.length),(9,.int .i64 ↑i),(10,.int .i64 ↑j),(11,.int .i64 ↑((i+j) / 2)),(31,.bool (decide (((eG (en es ((i+j) / 2)).name p):Int)<(0:Int))))]) (ak:=[]) [o_] [0,1,2,8,9,10,11,31] (λ_ _=>by kernel_rfl) trivial ?_
  refine af.nil (by kernel_rfl) (ah.next ?_)
  refine ai.aV (p:=((eG (en es ((i+j) / 2)).name p):Int)<(0:Int)) (λ_=>by kernel_rfl) (λjB=>?_) (λjB=>?_)
  ·refine ai.region (af.aq (k':=3) (fr':=[(0,.slice A (es.length) (c)),(1,.string p),(2,.func (.func 44) #[] #[]),(8,.int .i64 ↑es.length),(9,.int .i64 ↑(((i+j) / 2)+1)),(10,.int .i64 ↑j)]) (ak:=[(Value.int .i64 (IntKind.wrap .i64 ((((i+j) / 2:Nat):Int)+1)))=(.int .i64 ↑(((i+j) / 2)+1))]) [o_,⟨[],none,none,none,some (.int .i64 ↑(((i+j) / 2)+1))⟩,o_] [0,1,2,8,9,10] (λ_ _=>by kernel_rfl) ⟨aP (by omega) (by omega) (by omega),trivial⟩ ?_)
   refine af.nil (by kernel_rfl) (ah.aJ ?_)
   exact ah.turn ((((i+j) / 2)+1),j) (idx:=[0,1,2,8,9,10]) (pk:=[0]) (show (((((i+j) / 2)+1))<=j)/\(j<=es.length)/\(∀t,t<((((i+j) / 2)+1))->eG (en es t).name p<0)/\(∀t,j<=t->t<es.length->0<=eG (en es t).name p) from ⟨by omega,by omega,hs.low (by omega) jB,hhi⟩) (by show j-((((i+j) / 2)+1))<j-i;omega) (λ_=>by kernel_rfl) rfl (by kernel_rfl)
  refine ai.region (af.aq (k':=2) (fr':=[(0,.slice A (es.length) (c)),(1,.string p),(2,.func (.func 44) #[] #[]),(8,.int .i64 ↑es.length),(9,.int .i64 ↑i),(10,.int .i64 ↑((i+j) / 2))]) (ak:=[]) [o_,o_] [0,1,2,8,9,10] (λ_ _=>by kernel_rfl) trivial ?_)
  refine af.nil (by kernel_rfl) (ah.aJ ?_)
  exact ah.turn (i,((i+j) / 2)) (idx:=[0,1,2,8,9,10]) (pk:=[0]) (show (i<=(((i+j) / 2)))/\((((i+j) / 2))<=es.length)/\(∀t,t<i->eG (en es t).name p<0)/\(∀t,(((i+j) / 2))<=t->t<es.length->0<=eG (en es t).name p) from ⟨by omega,by omega,hlo,hs.high jB⟩) (by show (((i+j) / 2))-i<j-i;omega) (λ_=>by kernel_rfl) rfl (by kernel_rfl)
 refine ai.exit (ah.aH (ah.aH (ah.bg (ah.next (ai.seq (ai.region ?_))))))
 refine af.aq (k':=5) (fr':=[(0,.slice A (es.length) (c)),(1,.string p),(2,.func (.func 44) #[] #[]),(9,.int .i64 ↑i),(35,.int .i64 ↑i),(39,.bool (decide ((((i:Nat):Int):Int)<(((es.length:Nat):Int):Int))))]) (ak:=[]) [o_,o_,o_,o_,o_] [0,1,2,9,35,39] (λ_ _=>by kernel_rfl) trivial ?_
 refine af.bO 39 ((((i:Nat):Int):Int)<(((es.length:Nat):Int):Int)) (λ_=>by kernel_rfl) (λjA=>?_) (λjA=>?_)
 ·refine af.aq (k':=11) (fr':=[(35,.int .i64 ↑i),(39,.bool true),(40,.func (.func 44) #[] #[]),(44,.agg #[.string (en es i).name,.int .i64 ((en es i).id)]),(45,.string p)]) (ak:=[(Rd β ⟨(au A),ar A+i*2+1,none⟩ (.int .i64 ((en es i).id))),(Rd β ⟨(au A),ar A+i*2,none⟩ (.string (en es i).name)),((i:Nat):Int)=((i:Nat):Int),i<es.length,(⟨(au A),ar A,none⟩:Addr).spot=none,(A:Option Addr)=some ⟨(au A),ar A,none⟩]) [o_,o_,o_,⟨[],some i,none,some ⟨(au A),ar A,none⟩,none⟩,⟨[.old (.string (en es i).name),.old (.int .i64 ((en es i).id))],none,none,none,none⟩,o_] [35,39,40,44,45] (λ_ _=>by kernel_rfl) ⟨bh.rd hE (i:=i) (by omega) (j:=1) rfl,bh.rd hE (i:=i) (by omega) (j:=0) rfl,rfl,by omega,rfl,bh.hd hE (i:=i) (by omega),trivial⟩ ?_
  refine af.call (f:=44) (args:=#[.agg #[.string (en es i).name,.int .i64 ((en es i).id)],.string p]) (d:=(some 46)) (pre:=[]) (R:=[.abs R]) (pk:=[0]) (λ_=>by kernel_rfl) (wN (en es i) p) rfl (by kernel_rfl) ?_
  rintro _ _ ⟨rfl,rfl⟩
  refine af.aq (k':=16) (fr':=[(6,.int .i64 ↑i),(7,.bool (decide (((eG (en es i).name p):Int)=(0:Int))))]) (ak:=[]) [o_,o_,o_,o_] [6,7] (λ_ _=>by kernel_rfl) trivial ?_
  refine af.nil (by kernel_rfl) (ah.next (ai.ret ?_))
  exact ah.ret (v:=.tuple #[.int .i64 ↑i,.bool (decide (((eG (en es i).name p):Int)=(0:Int)))]) (l:=[]) (ak:=[]) [] [0] (λ_=>by kernel_rfl) trivial rfl (by kernel_rfl) (⟨BG hs (by omega) hlo (λt h1 h2=>hhi t (by omega) h2),rfl⟩)
 refine af.aq (k':=16) (fr':=[(6,.int .i64 ↑i),(7,.bool false)]) (ak:=[]) [o_,o_,o_,o_,o_,o_,o_,o_,o_,o_,o_] [6,7] (λ_ _=>by kernel_rfl) trivial ?_
 refine af.nil (by kernel_rfl) (ah.next (ai.ret ?_))
 exact ah.ret (v:=.tuple #[.int .i64 ↑i,.bool false]) (l:=[]) (ak:=[]) [] [0] (λ_=>by kernel_rfl) trivial rfl (by kernel_rfl) (⟨BF hlo (by omega),rfl⟩)
theorem BN {β:Bs} (A:Option Addr) (c:Nat) (ns:List aD) (L:Lay) (hG:aA β A ns L) (hB:dM ns 1048576) (root:Int) (hz:fO root) (F:Option Addr) (cF:Nat) (ps:List ByteArray) (hP:iL β F ps) (Ff:ps.length<=8388608) :
 Spec Try.prog β 23 #[.agg #[.slice A ns.length c],.int .i64 root,.slice F ps.length cF] [] (λv l=>v=.tuple #[.int .i64 (kF ns root ps).1,.int .i64 (kF ns root ps).2]/\l=[]):=by
 refine Spec.enter Try.func23 rfl Try.ntmps23 (Nat.le_of_ble_eq_true rfl) (λR=>?_)
 refine ai.seq (ai.region (af.bD (k':=3) (fr':=λb2=>[(1,.int .i64 (root)),(2,.slice F (ps.length) (cF)),(3,.pointer (some ⟨b2,0,none⟩))]) (aL:=λb2=>[.abs R,.blk b2 [.slice A (ns.length) (c)] 24]) (ak:=λb2=>[]) [o_,o_,o_] [1,2,3] [0,1] (λ_ _=>by kernel_rfl) (λb2=>trivial) (λb2=>?_)))
 refine af.nil (by kernel_rfl) (ah.next (ai.seq (ai.region ?_)))
 refine af.aq (k':=2) (fr':=[(2,.slice F (ps.length) (cF)),(16,.agg #[.slice A (ns.length) (c)]),(17,.int .i64 (root))]) (ak:=[b2=b2]) [⟨[.at 1],none,none,none,none⟩,o_] [2,16,17] (λ_ _=>by kernel_rfl) ⟨rfl,trivial⟩ ?_
 refine af.call (f:=42) (args:=#[.agg #[.slice A (ns.length) (c)],.int .i64 (root)]) (d:=(some 18)) (pre:=[]) (R:=[.abs R,.blk b2 [.slice A (ns.length) (c)] 24]) (pk:=[0,1]) (λ_=>by kernel_rfl) (qh A c ns L hG hB root hz) rfl (by kernel_rfl) ?_
 rintro _ _ (⟨mb,rfl,hbg,rfl⟩|⟨x,y,rfl,hbg,rfl⟩)
 ·obtain⟨hok,hat,hkd⟩:=fZ hbg
  have htl:=cH hat
  refine af.aq (k':=10) (fr':=[(2,.slice F (ps.length) (cF)),(8,.map (some mb)),(9,.pointer (some ⟨(au A),ar A+(tgt ns root)*10,none⟩)),(10,.int .i64 0)]) (ak:=[]) [o_,o_,o_,o_,o_,o_,o_] [2,8,9,10] (λ_ _=>by kernel_rfl) trivial ?_
  refine af.nil (by kernel_rfl) (ah.next (ai.seq (ai.seq (ai.region ?_))))
  refine af.aq (k':=2) (fr':=[(2,.slice F (ps.length) (cF)),(8,.map (some mb)),(9,.pointer (some ⟨(au A),ar A+(tgt ns root)*10,none⟩)),(10,.int .i64 0),(23,.bool false)]) (ak:=[]) [o_,o_] [2,8,9,10,23] (λ_ _=>by kernel_rfl) trivial ?_
  refine af.nil (by kernel_rfl) (ah.next ?_)
  refine ai.cU (λ_=>by kernel_rfl) ?_
  refine ai.skip (ah.next (ai.seq (ai.seq (ai.region ?_))))
  refine af.aq (k':=3) (fr':=[(8,.map (some mb)),(9,.pointer (some ⟨(au A),ar A+(tgt ns root)*10,none⟩)),(25,.slice F (ps.length) (cF)),(26,.int .i64 ↑ps.length),(27,.int .i64 0)]) (ak:=[]) [o_,o_,o_] [8,9,25,26,27] (λ_ _=>by kernel_rfl) trivial ?_
  refine af.nil (by kernel_rfl) (ah.next (ai.block ?_))
  refine ai.loop (ι:=Nat×Nat) (λ((k,i):Nat×Nat)=>(k<ns.length)/\(i<=ps.length)/\(kF ns root ps=fJ ns k (ps.drop i))) (λ((k,i):Nat×Nat)=>ps.length-i) (λ((k,i):Nat×Nat)=>[(8,.map (some mb)),(9,.pointer (some ⟨(au A),ar A+k*10,none⟩)),(25,.slice F (ps.length) (cF)),(26,.int .i64 ↑ps.length),(27,.int .i64 ↑i)]) (λ((k,i):Nat×Nat)=>[.abs (aE Try.prog 3 mb (mf (bf A ns ns.length)) ns.length),.abs R]) ((tgt ns root),0) (idx:=[8,9,25,26,27]) (pk:=[0,1]) (show (((tgt ns root))<ns.length)/\(0<=ps.length)/\(kF ns root ps=fJ ns ((tgt ns root)) (ps.drop 0)) from ⟨htl.1,Nat.zero_le _,uR hbg⟩) (λ_=>by kernel_rfl) rfl (by kernel_rfl) ?_
  rintro⟨k,i⟩ ⟨hk,hi,hf⟩
  show ai _ _ _ _ [(8,.map (some mb)),(9,.pointer (some ⟨(au A),ar A+k*10,none⟩)),(25,.slice F (ps.length) (cF)),(26,.int .i64 ↑ps.length),(27,.int .i64 ↑i)] [.abs (aE Try.prog 3 mb (mf (bf A ns ns.length)) ns.length),.abs R] _
  refine ai.seq (ai.region (af.aq (k':=1) (fr':=[(8,.map (some mb)),(9,.pointer (some ⟨(au A),ar A+k*10,none⟩)),(25,.slice F (ps.length) (cF)),(26,.int .i64 ↑ps.length),(27,.int .i64 ↑i),(28,.bool (decide ((((i:Nat):Int):Int)<(((ps.length:Nat):Int):Int))))]) (ak:=[]) [o_] [8,9,25,26,27,28] (λ_ _=>by kernel_rfl) trivial ?_))
  refine af.nil (by kernel_rfl) (ah.next (ai.seq ?_))
  refine ai.aV (p:=(((i:Nat):Int):Int)<(((ps.length:Nat):Int):Int)) (λ_=>by kernel_rfl) (λCx=>?_) (λCx=>?_)
  ·refine ai.skip (ah.next (ai.seq (ai.block (ai.seq (ai.region ?_)))))
   refine af.aq (k':=3) (fr':=[(8,.map (some mb)),(9,.pointer (some ⟨(au A),ar A+k*10,none⟩)),(12,.string (kx ps i)),(25,.slice F (ps.length) (cF)),(26,.int .i64 ↑ps.length),(27,.int .i64 ↑i)]) (ak:=[(Rd β ⟨(au F),ar F+i*1,none⟩ (.string (kx ps i))),((i:Nat):Int)=((i:Nat):Int),i<ps.length,(⟨(au F),ar F,none⟩:Addr).spot=none,(F:Option Addr)=some ⟨(au F),ar F,none⟩]) [⟨[],some i,none,some ⟨(au F),ar F,none⟩,none⟩,⟨[.old (.string (kx ps i))],none,none,none,none⟩,o_] [8,9,12,25,26,27] (λ_ _=>by kernel_rfl) ⟨iL.rd hP (by omega),rfl,by omega,rfl,iL.hd hP (j:=i) (by omega),trivial⟩ ?_
   refine af.nil (by kernel_rfl) (ah.next (ai.seq (ai.seq (ai.region ?_))))
   refine af.aq (k':=4) (fr':=[(8,.map (some mb)),(9,.pointer (some ⟨(au A),ar A+k*10,none⟩)),(12,.string (kx ps i)),(25,.slice F (ps.length) (cF)),(26,.int .i64 ↑ps.length),(27,.int .i64 ↑i),(34,.int .i64 ((nd ns k).kind))]) (ak:=[(Rd β ⟨(au A),ar A+k*10+1,none⟩ (.int .i64 ((nd ns k).kind)))]) [o_,o_,o_,⟨[.old (.int .i64 ((nd ns k).kind))],none,none,none,none⟩] [8,9,12,25,26,27,34] (λ_ _=>by kernel_rfl) ⟨aA.rd hG (i:=k) (by omega) (j:=1) rfl,trivial⟩ ?_
   refine af.nil (by kernel_rfl) (ah.next (ai.block (ai.seq (ai.region ?_))))
   refine af.aq (k':=2) (fr':=[(8,.map (some mb)),(9,.pointer (some ⟨(au A),ar A+k*10,none⟩)),(12,.string (kx ps i)),(25,.slice F (ps.length) (cF)),(26,.int .i64 ↑ps.length),(27,.int .i64 ↑i),(34,.int .i64 ((nd ns k).kind)),(35,.bool (decide (((nd ns k).kind:Int)=(3:Int))))]) (ak:=[]) [o_,o_] [8,9,12,25,26,27,34,35] (λ_ _=>by kernel_rfl) trivial ?_
   refine af.nil (by kernel_rfl) (ah.next ?_)
   refine ai.aV (p:=((nd ns k).kind:Int)=(3:Int)) (λ_=>by kernel_rfl) (λBe=>?_) (λBe=>?_)
   ·refine ai.seq (ai.region (af.aq (k':=2) (fr':=[(6,.int .i64 0),(7,.int .i64 174)]) (ak:=[]) [o_,o_] [6,7] (λ_ _=>by kernel_rfl) trivial ?_))
    refine af.nil (by kernel_rfl) (ah.next (ai.ret (ah.aG (ah.ay (ah.aG (ah.ay (ah.ay (ah.aG (ah.ay ?_)))))))))
    exact ah.ret (v:=.tuple #[.int .i64 0,.int .i64 174]) (l:=[]) (ak:=[]) [] [1] (λ_=>by kernel_rfl) trivial rfl (by kernel_rfl) (⟨by rw [hf,yL (by omega) Be],rfl⟩)
   refine ai.seq (ai.region (af.aq (k':=2) (fr':=[(8,.map (some mb)),(9,.pointer (some ⟨(au A),ar A+k*10,none⟩)),(12,.string (kx ps i)),(25,.slice F (ps.length) (cF)),(26,.int .i64 ↑ps.length),(27,.int .i64 ↑i),(37,.bool (decide (((nd ns k).kind:Int)=(1:Int))))]) (ak:=[]) [o_,o_] [8,9,12,25,26,27,37] (λ_ _=>by kernel_rfl) trivial ?_))
   refine af.nil (by kernel_rfl) (ah.next ?_)
   refine ai.aV (p:=((nd ns k).kind:Int)=(1:Int)) (λ_=>by kernel_rfl) (λwD=>?_) (λwD=>?_)
   ·refine ai.seq (ai.region (af.aq (k':=2) (fr':=[(6,.int .i64 0),(7,.int .i64 173)]) (ak:=[]) [o_,o_] [6,7] (λ_ _=>by kernel_rfl) trivial ?_))
    refine af.nil (by kernel_rfl) (ah.next (ai.ret (ah.aG (ah.ay (ah.aG (ah.ay (ah.ay (ah.aG (ah.ay ?_)))))))))
    exact ah.ret (v:=.tuple #[.int .i64 0,.int .i64 173]) (l:=[]) (ak:=[]) [] [1] (λ_=>by kernel_rfl) trivial rfl (by kernel_rfl) (⟨by rw [hf,xh (by omega) wD],rfl⟩)
   refine ai.skip (ah.aJ (ah.next (ai.seq (ai.region ?_))))
   refine af.aq (k':=5) (fr':=[(8,.map (some mb)),(9,.pointer (some ⟨(au A),ar A+k*10,none⟩)),(25,.slice F (ps.length) (cF)),(26,.int .i64 ↑ps.length),(27,.int .i64 ↑i),(43,.slice (L.eA k) ((nd ns k).aj.length) ((L.eC k))),(44,.string (kx ps i))]) (ak:=[(Rd β ⟨(au A),ar A+k*10+9,none⟩ (.slice (L.eA k) ((nd ns k).aj.length) ((L.eC k))))]) [o_,o_,o_,⟨[.old (.slice (L.eA k) ((nd ns k).aj.length) ((L.eC k)))],none,none,none,none⟩,o_] [8,9,25,26,27,43,44] (λ_ _=>by kernel_rfl) ⟨aA.rd hG (i:=k) (by omega) (j:=9) rfl,trivial⟩ ?_
   refine af.call (f:=43) (args:=#[.slice (L.eA k) ((nd ns k).aj.length) ((L.eC k)),.string (kx ps i),.func (.func 44) #[] #[]]) (d:=(some 45)) (pre:=[]) (R:=[.abs (aE Try.prog 3 mb (mf (bf A ns ns.length)) ns.length),.abs R]) (pk:=[0,1]) (λ_=>by kernel_rfl) (xL (L.eA k) (L.eC k) (nd ns k).aj (kx ps i) (hG.aj k hk) (hB.hd k hk).2 (oD (hok.aj k hk))) rfl (by kernel_rfl) ?_
   rintro _ _ ⟨(⟨q,hq,CV,rfl⟩|⟨hno,z,rfl⟩),rfl⟩
   ·have CW:=(hok.aj k hk q hq).at_
    have CX:=cH CW
    refine af.aq (k':=11) (fr':=[(8,.map (some mb)),(9,.pointer (some ⟨(au A),ar A+k*10,none⟩)),(13,.int .i64 ↑q),(14,.bool true),(25,.slice F (ps.length) (cF)),(26,.int .i64 ↑ps.length),(27,.int .i64 ↑i)]) (ak:=[]) [o_,o_,o_,o_,o_] [8,9,13,14,25,26,27] (λ_ _=>by kernel_rfl) trivial ?_
    refine af.nil (by kernel_rfl) (ah.next (ai.seq (ai.seq (ai.region ?_))))
    refine af.aq (k':=2) (fr':=[(8,.map (some mb)),(9,.pointer (some ⟨(au A),ar A+k*10,none⟩)),(13,.int .i64 ↑q),(25,.slice F (ps.length) (cF)),(26,.int .i64 ↑ps.length),(27,.int .i64 ↑i),(49,.bool false)]) (ak:=[]) [o_,o_] [8,9,13,25,26,27,49] (λ_ _=>by kernel_rfl) trivial ?_
    refine af.nil (by kernel_rfl) (ah.next ?_)
    refine ai.cU (λ_=>by kernel_rfl) ?_
    refine ai.skip (ah.next (ai.region ?_))
    refine af.aq (k':=9) (fr':=[(8,.map (some mb)),(25,.slice F (ps.length) (cF)),(26,.int .i64 ↑ps.length),(27,.int .i64 ↑i),(50,.map (some mb)),(58,.int .i64 ((en (nd ns k).aj q).id))]) (ak:=[(Rd β ⟨(au (L.eA k)),ar (L.eA k)+q*2+1,none⟩ (.int .i64 ((en (nd ns k).aj q).id))),((q:Nat):Int)=((q:Nat):Int),q<(nd ns k).aj.length,(⟨(au (L.eA k)),ar (L.eA k),none⟩:Addr).spot=none,((L.eA k):Option Addr)=some ⟨(au (L.eA k)),ar (L.eA k),none⟩,(Rd β ⟨(au A),ar A+k*10+9,none⟩ (.slice (L.eA k) ((nd ns k).aj.length) ((L.eC k))))]) [o_,o_,o_,o_,⟨[.old (.slice (L.eA k) ((nd ns k).aj.length) ((L.eC k)))],none,none,none,none⟩,o_,⟨[],some q,none,some ⟨(au (L.eA k)),ar (L.eA k),none⟩,none⟩,o_,⟨[.old (.int .i64 ((en (nd ns k).aj q).id))],none,none,none,none⟩] [8,25,26,27,50,58] (λ_ _=>by kernel_rfl) ⟨bh.rd (hG.aj k (by omega)) (i:=q) (by omega) (j:=1) rfl,rfl,hq,rfl,bh.hd (hG.aj k (by omega)) (i:=q) (by omega),aA.rd hG (i:=k) (by omega) (j:=9) rfl,trivial⟩ ?_
    refine af.dO 0 (d:=(some 59)) (t:=66) (K:=3) (E:=75) (b:=mb) (n:=ns.length) (f:=(mf (bf A ns ns.length))) (x:=(.tmp 50)) (ix:=(.tmp 58)) (key:=.int .i64 ((en (nd ns k).aj q).id)) (z:=.pointer none) (kl:=(.int .i64 (en (nd ns k).aj q).id)) (r:=(some (.pointer (some ⟨(au A),ar A+(tgt ns (en (nd ns k).aj q).id)*10,none⟩)))) (λ_=>by kernel_rfl) (by kernel_rfl) (λ_=>by kernel_rfl) (λ_=>by kernel_rfl) fC Try.underlying66 (λ_=>by kernel_rfl) (fI (hB.hwf k hk q hq).1 (hB.hwf k hk q hq).2) (jE CW CX.1) ?_
    refine af.aq (k':=11) (fr':=[(8,.map (some mb)),(9,.pointer (some ⟨(au A),ar A+(tgt ns (en (nd ns k).aj q).id)*10,none⟩)),(25,.slice F (ps.length) (cF)),(26,.int .i64 ↑ps.length),(27,.int .i64 ↑i)]) (ak:=[]) [o_] [8,9,25,26,27] (λ_ _=>by kernel_rfl) trivial ?_
    refine af.nil (by kernel_rfl) (ah.aJ (ah.next (ai.region ?_)))
    refine af.aq (k':=2) (fr':=[(8,.map (some mb)),(9,.pointer (some ⟨(au A),ar A+(tgt ns (en (nd ns k).aj q).id)*10,none⟩)),(25,.slice F (ps.length) (cF)),(26,.int .i64 ↑ps.length),(27,.int .i64 ↑(i+1))]) (ak:=[(Value.int .i64 (IntKind.wrap .i64 (((i:Nat):Int)+1)))=(.int .i64 ↑(i+1))]) [⟨[],none,none,none,some (.int .i64 ↑(i+1))⟩,o_] [8,9,25,26,27] (λ_ _=>by kernel_rfl) ⟨aP (by omega) (by omega) (by omega),trivial⟩ ?_
    refine af.nil (by kernel_rfl) ?_
    exact ah.turn ((tgt ns (en (nd ns k).aj q).id),(i+1)) (idx:=[8,9,25,26,27]) (pk:=[0,1]) (show (((tgt ns (en (nd ns k).aj q).id))<ns.length)/\(((i+1))<=ps.length)/\(kF ns root ps=fJ ns ((tgt ns (en (nd ns k).aj q).id)) (ps.drop ((i+1)))) from ⟨CX.1,by omega,by rw [hf,xk (by omega) Be wD (w9 (oD (hok.aj k hk)) hq CV)]⟩) (by show ps.length-((i+1))<ps.length-i;omega) (λ_=>by kernel_rfl) rfl (by kernel_rfl)
   refine af.aq (k':=11) (fr':=[(8,.map (some mb)),(9,.pointer (some ⟨(au A),ar A+k*10,none⟩)),(13,.int .i64 (z)),(14,.bool false),(25,.slice F (ps.length) (cF)),(26,.int .i64 ↑ps.length),(27,.int .i64 ↑i)]) (ak:=[]) [o_,o_,o_,o_,o_] [8,9,13,14,25,26,27] (λ_ _=>by kernel_rfl) trivial ?_
   refine af.nil (by kernel_rfl) (ah.next (ai.seq (ai.seq (ai.region ?_))))
   refine af.aq (k':=2) (fr':=[(8,.map (some mb)),(9,.pointer (some ⟨(au A),ar A+k*10,none⟩)),(13,.int .i64 (z)),(25,.slice F (ps.length) (cF)),(26,.int .i64 ↑ps.length),(27,.int .i64 ↑i),(49,.bool true)]) (ak:=[]) [o_,o_] [8,9,13,25,26,27,49] (λ_ _=>by kernel_rfl) trivial ?_
   refine af.nil (by kernel_rfl) (ah.next ?_)
   refine ai.bL (λ_=>by kernel_rfl) ?_
   refine ai.seq (ai.region (af.aq (k':=2) (fr':=[(6,.int .i64 0),(7,.int .i64 170)]) (ak:=[]) [o_,o_] [6,7] (λ_ _=>by kernel_rfl) trivial ?_))
   refine af.nil (by kernel_rfl) (ah.next (ai.ret (ah.ay (ah.aG (ah.ay (ah.ay (ah.aG (ah.ay ?_))))))))
   exact ah.ret (v:=.tuple #[.int .i64 0,.int .i64 170]) (l:=[]) (ak:=[]) [] [1] (λ_=>by kernel_rfl) trivial rfl (by kernel_rfl) (⟨by rw [hf,xj (by omega) Be wD (xg hno)],rfl⟩)
  refine ai.exit (ah.aH (ah.aH (ah.bg (ah.next (ai.seq (ai.region ?_))))))
  refine af.aq (k':=6) (fr':=[(6,.int .i64 ((nd ns k).id)),(7,.int .i64 0)]) (ak:=[(Rd β ⟨(au A),ar A+k*10,none⟩ (.int .i64 ((nd ns k).id)))]) [o_,o_,o_,⟨[.old (.int .i64 ((nd ns k).id))],none,none,none,none⟩,o_,o_] [6,7] (λ_ _=>by kernel_rfl) ⟨aA.rd hG (i:=k) (by omega) (j:=0) rfl,trivial⟩ ?_
  refine af.nil (by kernel_rfl) (ah.next (ai.ret ?_))
  exact ah.ret (v:=.tuple #[.int .i64 ((nd ns k).id),.int .i64 0]) (l:=[]) (ak:=[]) [] [1] (λ_=>by kernel_rfl) trivial rfl (by kernel_rfl) (⟨by rw [hf,yK (by omega)],rfl⟩)
 refine af.aq (k':=10) (fr':=[(2,.slice F (ps.length) (cF)),(8,x),(9,y),(10,.int .i64 ((bK ns root)))]) (ak:=[]) [o_,o_,o_,o_,o_,o_,o_] [2,8,9,10] (λ_ _=>by kernel_rfl) trivial ?_
 refine af.nil (by kernel_rfl) (ah.next (ai.seq (ai.seq (ai.region ?_))))
 refine af.aq (k':=2) (fr':=[(2,.slice F (ps.length) (cF)),(8,x),(9,y),(10,.int .i64 ((bK ns root))),(23,.bool (!(decide (((bK ns root):Int)=(0:Int)))))]) (ak:=[]) [o_,o_] [2,8,9,10,23] (λ_ _=>by kernel_rfl) trivial ?_
 refine af.nil (by kernel_rfl) (ah.next ?_)
 refine ai.cY (p:=((bK ns root):Int)=(0:Int)) (λ_=>by kernel_rfl) (λh23=>?_) (λh23=>?_)
 ·refine ai.seq (ai.region (af.aq (k':=3) (fr':=[(6,.int .i64 0),(7,.int .i64 ((bK ns root)))]) (ak:=[]) [o_,o_,o_] [6,7] (λ_ _=>by kernel_rfl) trivial ?_))
  refine af.nil (by kernel_rfl) (ah.next (ai.ret (ah.ay ?_)))
  exact ah.ret (v:=.tuple #[.int .i64 0,.int .i64 ((bK ns root))]) (l:=[]) (ak:=[]) [] [0] (λ_=>by kernel_rfl) trivial rfl (by kernel_rfl) (⟨by rw [yM hbg],rfl⟩)
 exact absurd h23 hbg
end
section
open Go.RowKit Go.Maps
def Bf:ByteArray:=⟨#[97]⟩
def y6:ByteArray:=⟨#[99]⟩
def sx:aD:=⟨1,2,0,0,0,0,0,[],⟨#[]⟩,[⟨⟨#[97]⟩,5⟩,⟨⟨#[98]⟩,7⟩]⟩
def sy:aD:=⟨5,2,0,0,0,0,0,[],⟨#[]⟩,[⟨⟨#[99]⟩,7⟩]⟩
def sA:aD:=⟨7,1,0,0,0,0,0,[120],⟨#[]⟩,[]⟩
def cR:List aD:=[sx,sy,sA]
def o5 (b1 b2 b3:Nat):Lay:=
 ⟨λi=>if i=2 then some ⟨b3,0,none⟩ else none,λi=>if i=0 then some ⟨b1,0,none⟩ else if i=1 then some ⟨b2,0,none⟩ else none,λi=>if i=2 then 1 else 0,λi=>if i=0 then 2 else if i=1 then 1 else 0⟩
theorem three {i:Nat} (h:i<cR.length):i=0\/i=1\/i=2:=by
 have:i<3:=h
 omega
theorem aA.little {β:Bs} {B:Option Addr} {b1 b2 b3:Nat} (hR:cK β B (aK (o5 b1 b2 b3) cR)) (h1:bh β (some ⟨b1,0,none⟩) sx.aj) (h2:bh β (some ⟨b2,0,none⟩) sy.aj) (h3:bp β (some ⟨b3,0,none⟩) sA.data) :
 aA β B cR (o5 b1 b2 b3):=by
 refine⟨hR,λi hi=>?_,λi hi=>?_⟩
 ·rcases three hi with rfl|rfl|rfl
  ·exact cK.nil
  ·exact cK.nil
  exact h3
 rcases three hi with rfl|rfl|rfl
 ·exact h1
 ·exact h2
 exact cK.nil
theorem vr:dM cR 1048576:=by
 refine⟨by decide,λi hi=>?_⟩
 rcases three hi with rfl|rfl|rfl
 ·exact⟨⟨cJ (by decide),cJ (by decide),cJ (by decide),cJ (by decide),cJ (by decide),cJ (by decide),cJ (by decide)⟩,by decide,by decide,by decide,λj hj=>by
   have hj:j<2:=hj
   have:j=0\/j=1:=by omega
   rcases this with rfl|rfl
   ·exact⟨cJ (by decide),by decide⟩
   exact⟨cJ (by decide),by decide⟩⟩
 ·exact⟨⟨cJ (by decide),cJ (by decide),cJ (by decide),cJ (by decide),cJ (by decide),cJ (by decide),cJ (by decide)⟩,by decide,by decide,by decide,λj hj=>by
   have hj:j<1:=hj
   have:j=0:=by omega
   subst this
   exact⟨cJ (by decide),by decide⟩⟩
 exact⟨⟨cJ (by decide),cJ (by decide),cJ (by decide),cJ (by decide),cJ (by decide),cJ (by decide),cJ (by decide)⟩,by decide,by decide,by decide,λj hj=>absurd hj (Nat.not_lt_zero j)⟩
theorem y7:eP cR 0 0:=⟨by decide,qm (by decide) (by decide) (by decide),lN.2 (by decide)⟩
theorem y8:eP cR 0 1:=⟨by decide,qm (by decide) (by decide) (by decide),lN.2 (by decide)⟩
theorem y9:eP cR 1 0:=⟨by decide,qm (by decide) (by decide) (by decide),lN.2 (by decide)⟩
theorem vu:(bQ cR 3).map (dm cR)=[(5,1)]:=by decide
theorem za:bw cR:=by
 refine⟨by decide,λi hi=>?_,λi hi=>?_,λi j hij hj=>?_,by decide,λi hi j hj=>?_,by decide,λz=>?_⟩
 ·rcases three hi with rfl|rfl|rfl
  ·exact⟨by decide,by decide,by decide,by decide,oL,λ_=>rfl,λh=>absurd rfl h,.inl ⟨by decide,rfl⟩⟩
  ·exact⟨by decide,by decide,by decide,by decide,oL,λ_=>rfl,λh=>absurd rfl h,.inl ⟨by decide,rfl⟩⟩
  exact⟨by decide,by decide,by decide,by decide,oL,λh=>absurd rfl h,λ_=>rfl,.inl ⟨by decide,rfl⟩⟩
 ·rcases three hi with rfl|rfl|rfl<;>exact⟨by decide,by decide⟩
 ·rcases three hj with rfl|rfl|rfl
  ·omega
  ·have:i=0:=by omega
   subst this;decide
  have:i=0\/i=1:=by omega
  rcases this with rfl|rfl<;>decide
 ·rcases three hi with rfl|rfl|rfl
  ·have hj:j<2:=hj
   have:j=0\/j=1:=by omega
   rcases this with rfl|rfl
   ·exact y7
   exact y8
  ·have hj:j<1:=hj
   have:j=0:=by omega
   subst this
   exact y9
  exact absurd hj (Nat.not_lt_zero j)
 have e:(bQ cR cR.length).map (dm cR)=[(5,1)]:=vu
 rw [e]
 by_cases h:z=5
 ·subst h
  exact⟨1,1,rfl,rfl⟩
 refine⟨0,?_⟩
 show up _ z=none
 unfold up
 have:(z == 5)=false:=by simp [h]
 rw [List.lookup_cons,this]
 rfl
theorem vV:kF cR 1 [Bf,y6]=(7,0):=by
 rw [uR (lM za (by decide) (by decide))]
 have h0:tgt cR 1=0:=by decide
 have h1:kE (nd cR 0).aj Bf=some 0:=by decide
 have h2:tgt cR (en (nd cR 0).aj 0).id=1:=by decide
 have h3:kE (nd cR 1).aj y6=some 0:=by decide
 have h4:tgt cR (en (nd cR 1).aj 0).id=2:=by decide
 rw [h0,fJ,if_neg (by decide),if_neg (by decide),h1]
 show fJ cR (tgt cR (en (nd cR 0).aj 0).id) [y6]=_
 rw [h2,fJ,if_neg (by decide),if_neg (by decide),h3]
 show fJ cR (tgt cR (en (nd cR 1).aj 0).id) []=_
 rw [h4]
 rfl
end
section
open Go.RowKit
attribute [local irreducible] af aN ai ah
theorem ze {β:Bs}:cO Try.prog β 19 #[] [] (λβ' v l=>∃B L',v=.agg #[.slice B 3 3]/\l=[]/\aA β' B cR L'):=by
 refine cO.enter Try.func19 rfl Try.ntmps19 (Nat.le_of_ble_eq_true rfl) (λhle0 R=>?_)
 refine ai.seq (ai.region (af.bD (k':=1) (fr':=λb1=>[(0,.pointer (some ⟨b1,0,none⟩))]) (aL:=λb1=>[.abs R,.blk b1 [.slice none (0) (0)] 24]) (ak:=λb1=>[]) [o_] [0] [0,1] (λ_ _=>by kernel_rfl) (λb1=>trivial) (λb1=>?_)))
 refine af.nil (by kernel_rfl) (ah.next (ai.seq (ai.region ?_)))
 refine af.bD (k':=5) (fr':=λb2=>[(0,.pointer (some ⟨b1,0,none⟩)),(4,.agg #[.int .i64 1,.int .i64 2,.int .i64 0,.int .i64 0,.int .i64 0,.int .i64 0,.int .i64 0,.slice none (0) (0),.string ⟨#[]⟩,.slice (some ⟨b2,0,none⟩) (2) (2)]),(5,.agg #[.string ⟨#[99]⟩,.int .i64 7])]) (aL:=λb2=>[.abs R,.blk b1 [.slice none (0) (0)] 24,.blk b2 [.string ⟨#[97]⟩,.int .i64 5,.string ⟨#[98]⟩,.int .i64 7] 72]) (ak:=λb2=>[]) [o_,o_,o_,o_,o_] [0,4,5] [0,1,2] (λ_ _=>by kernel_rfl) (λb2=>trivial) (λb2=>?_)
 refine af.bD (k':=7) (fr':=λb3=>[(0,.pointer (some ⟨b1,0,none⟩)),(4,.agg #[.int .i64 1,.int .i64 2,.int .i64 0,.int .i64 0,.int .i64 0,.int .i64 0,.int .i64 0,.slice none (0) (0),.string ⟨#[]⟩,.slice (some ⟨b2,0,none⟩) (2) (2)]),(7,.agg #[.int .i64 5,.int .i64 2,.int .i64 0,.int .i64 0,.int .i64 0,.int .i64 0,.int .i64 0,.slice none (0) (0),.string ⟨#[]⟩,.slice (some ⟨b3,0,none⟩) (1) (1)])]) (aL:=λb3=>[.abs R,.blk b1 [.slice none (0) (0)] 24,.blk b2 [.string ⟨#[97]⟩,.int .i64 5,.string ⟨#[98]⟩,.int .i64 7] 72,.blk b3 [.string ⟨#[99]⟩,.int .i64 7] 72]) (ak:=λb3=>[]) [o_,o_] [0,4,7] [0,1,2,3] (λ_ _=>by kernel_rfl) (λb3=>trivial) (λb3=>?_)
 refine af.bD (k':=8) (fr':=λb4=>[(0,.pointer (some ⟨b1,0,none⟩)),(4,.agg #[.int .i64 1,.int .i64 2,.int .i64 0,.int .i64 0,.int .i64 0,.int .i64 0,.int .i64 0,.slice none (0) (0),.string ⟨#[]⟩,.slice (some ⟨b2,0,none⟩) (2) (2)]),(7,.agg #[.int .i64 5,.int .i64 2,.int .i64 0,.int .i64 0,.int .i64 0,.int .i64 0,.int .i64 0,.slice none (0) (0),.string ⟨#[]⟩,.slice (some ⟨b3,0,none⟩) (1) (1)]),(8,.slice (some ⟨b4,0,none⟩) (1) (1))]) (aL:=λb4=>[.abs R,.blk b1 [.slice none (0) (0)] 24,.blk b2 [.string ⟨#[97]⟩,.int .i64 5,.string ⟨#[98]⟩,.int .i64 7] 72,.blk b3 [.string ⟨#[99]⟩,.int .i64 7] 72,.blk b4 [.int .u8 120] 5]) (ak:=λb4=>[]) [o_] [0,4,7,8] [0,1,2,3,4] (λ_ _=>by kernel_rfl) (λb4=>trivial) (λb4=>?_)
 refine af.x7 4 (d:=(some 9)) (t:=29) (e:=5) (T:=5) (b:=b4) (o:=0) (n:=1) (c:=1) (cs:=[.int .u8 120]) (x:=(.tmp 8)) (λ_=>by kernel_rfl) (by kernel_rfl) (λ_=>by kernel_rfl) Try.underlying29 Try.underlying5 ?_
 refine af.bD (k':=11) (fr':=λb5=>[(0,.pointer (some ⟨b1,0,none⟩)),(11,.slice (some ⟨b5,0,none⟩) (3) (3))]) (aL:=λb5=>[.abs R,.blk b1 [.slice none (0) (0)] 24,.blk b2 [.string ⟨#[97]⟩,.int .i64 5,.string ⟨#[98]⟩,.int .i64 7] 72,.blk b3 [.string ⟨#[99]⟩,.int .i64 7] 72,.abs (qE b4 [.int .u8 120] 5),.blk b5 [.int .i64 1,.int .i64 2,.int .i64 0,.int .i64 0,.int .i64 0,.int .i64 0,.int .i64 0,.slice none (0) (0),.string ⟨#[]⟩,.slice (some ⟨b2,0,none⟩) (2) (2),.int .i64 5,.int .i64 2,.int .i64 0,.int .i64 0,.int .i64 0,.int .i64 0,.int .i64 0,.slice none (0) (0),.string ⟨#[]⟩,.slice (some ⟨b3,0,none⟩) (1) (1),.int .i64 7,.int .i64 1,.int .i64 0,.int .i64 0,.int .i64 0,.int .i64 0,.int .i64 0,.slice (some ⟨b4,0,none⟩) (1) (1),.string ⟨#[]⟩,.slice none (0) (0)] 32]) (ak:=λb5=>[]) [o_,o_] [0,11] [0,1,2,3,4,5] (λ_ _=>by kernel_rfl) (λb5=>trivial) (λb5=>?_)
 refine af.mem (λw hS=>hS.gT (i:=2) (b:=b2) (cs:=[.string ⟨#[97]⟩,.int .i64 5,.string ⟨#[98]⟩,.int .i64 7]) (e:=72) 2 2 (by kernel_rfl) rfl (by decide)) ?_
 refine af.gy (Φ:=λβ'=>bh β' (some ⟨b2,0,none⟩) sx.aj) 2 [0,1,3,4,5] (aL:=[.abs R,.blk b1 [.slice none (0) (0)] 24,.blk b3 [.string ⟨#[99]⟩,.int .i64 7] 72,.abs (qE b4 [.int .u8 120] 5),.blk b5 [.int .i64 1,.int .i64 2,.int .i64 0,.int .i64 0,.int .i64 0,.int .i64 0,.int .i64 0,.slice none (0) (0),.string ⟨#[]⟩,.slice (some ⟨b2,0,none⟩) (2) (2),.int .i64 5,.int .i64 2,.int .i64 0,.int .i64 0,.int .i64 0,.int .i64 0,.int .i64 0,.slice none (0) (0),.string ⟨#[]⟩,.slice (some ⟨b3,0,none⟩) (1) (1),.int .i64 7,.int .i64 1,.int .i64 0,.int .i64 0,.int .i64 0,.int .i64 0,.int .i64 0,.slice (some ⟨b4,0,none⟩) (1) (1),.string ⟨#[]⟩,.slice none (0) (0)] 32]) rfl rfl (by kernel_rfl) (λF w h β' h1 h2=>cK.gh h h1 h2) (λoh eS rG=>?_)
 replace hle0:=hle0.trans eS
 refine af.mem (λw hS=>hS.gT (i:=2) (b:=b3) (cs:=[.string ⟨#[99]⟩,.int .i64 7]) (e:=72) 2 1 (by kernel_rfl) rfl (by decide)) ?_
 refine af.gy (Φ:=λβ'=>bh β' (some ⟨b3,0,none⟩) sy.aj) 2 [0,1,3,4] (aL:=[.abs R,.blk b1 [.slice none (0) (0)] 24,.abs (qE b4 [.int .u8 120] 5),.blk b5 [.int .i64 1,.int .i64 2,.int .i64 0,.int .i64 0,.int .i64 0,.int .i64 0,.int .i64 0,.slice none (0) (0),.string ⟨#[]⟩,.slice (some ⟨b2,0,none⟩) (2) (2),.int .i64 5,.int .i64 2,.int .i64 0,.int .i64 0,.int .i64 0,.int .i64 0,.int .i64 0,.slice none (0) (0),.string ⟨#[]⟩,.slice (some ⟨b3,0,none⟩) (1) (1),.int .i64 7,.int .i64 1,.int .i64 0,.int .i64 0,.int .i64 0,.int .i64 0,.int .i64 0,.slice (some ⟨b4,0,none⟩) (1) (1),.string ⟨#[]⟩,.slice none (0) (0)] 32]) rfl rfl (by kernel_rfl) (λF w h β' h1 h2=>cK.gh h h1 h2) (λFg wO qN=>?_)
 replace rG:=rG.le wO
 replace hle0:=hle0.trans wO
 refine af.gy (Φ:=λβ'=>bp β' (some ⟨b4,0,none⟩) sA.data) 2 [0,1,3] (aL:=[.abs R,.blk b1 [.slice none (0) (0)] 24,.blk b5 [.int .i64 1,.int .i64 2,.int .i64 0,.int .i64 0,.int .i64 0,.int .i64 0,.int .i64 0,.slice none (0) (0),.string ⟨#[]⟩,.slice (some ⟨b2,0,none⟩) (2) (2),.int .i64 5,.int .i64 2,.int .i64 0,.int .i64 0,.int .i64 0,.int .i64 0,.int .i64 0,.slice none (0) (0),.string ⟨#[]⟩,.slice (some ⟨b3,0,none⟩) (1) (1),.int .i64 7,.int .i64 1,.int .i64 0,.int .i64 0,.int .i64 0,.int .i64 0,.int .i64 0,.slice (some ⟨b4,0,none⟩) (1) (1),.string ⟨#[]⟩,.slice none (0) (0)] 32]) rfl rfl (by kernel_rfl) (λF w h β' h1 h2=>cK.Bp (n:=1) h h1 h2) (λji d8 CY=>?_)
 replace rG:=rG.le d8
 replace qN:=qN.le d8
 replace hle0:=hle0.trans d8
 refine af.mem (λw hS=>hS.gT (i:=2) (b:=b5) (cs:=[.int .i64 1,.int .i64 2,.int .i64 0,.int .i64 0,.int .i64 0,.int .i64 0,.int .i64 0,.slice none (0) (0),.string ⟨#[]⟩,.slice (some ⟨b2,0,none⟩) (2) (2),.int .i64 5,.int .i64 2,.int .i64 0,.int .i64 0,.int .i64 0,.int .i64 0,.int .i64 0,.slice none (0) (0),.string ⟨#[]⟩,.slice (some ⟨b3,0,none⟩) (1) (1),.int .i64 7,.int .i64 1,.int .i64 0,.int .i64 0,.int .i64 0,.int .i64 0,.int .i64 0,.slice (some ⟨b4,0,none⟩) (1) (1),.string ⟨#[]⟩,.slice none (0) (0)]) (e:=32) 10 3 (by kernel_rfl) rfl (by decide)) ?_
 refine af.gy (Φ:=λβ'=>cK β' (some ⟨b5,0,none⟩) (aK (o5 b2 b3 b4) cR)) 2 [0,1] (aL:=[.abs R,.blk b1 [.slice none (0) (0)] 24]) rfl rfl (by kernel_rfl) (λF w h β' h1 h2=>cK.gh h h1 h2) (λFh o6 hR=>?_)
 replace rG:=rG.le o6
 replace qN:=qN.le o6
 replace CY:=CY.le o6
 replace hle0:=hle0.trans o6
 refine af.seg (k':=13) (fr':=[(0,.pointer (some ⟨b1,0,none⟩))]) (aL:=[.abs R,.blk b1 [.slice (some ⟨b5,0,none⟩) (3) (3)] 24]) (ak:=[b1=b1]) [o_,⟨[.at 1],none,none,none,none⟩] [0] [0,1] (λ_ _=>by kernel_rfl) ⟨rfl,trivial⟩ ?_
 refine af.nil (by kernel_rfl) (ah.next (ai.ret ?_))
 exact ah.eW (v:=.agg #[.slice (some ⟨b5,0,none⟩) (3) (3)]) (l:=[]) (ak:=[b1=b1]) [.at 1] [0] hle0 (λ_=>by kernel_rfl) ⟨rfl,trivial⟩ rfl (by kernel_rfl) (⟨_,o5 b2 b3 b4,rfl,rfl,aA.little hR rG qN CY⟩)
theorem Aq {β:Bs}:cO Try.prog β 21 #[] [] (λ_ v l=>v=.bool true/\l=[]):=by
 refine cO.enter Try.func21 rfl Try.ntmps21 (Nat.le_of_ble_eq_true rfl) (λhle0 R=>?_)
 refine ai.seq (ai.region (af.aq (k':=1) (fr':=[]) (ak:=[]) [o_] [] (λ_ _=>by kernel_rfl) trivial ?_))
 refine af.nil (by kernel_rfl) (ah.next (ai.seq (ai.region ?_)))
 refine af.fo (f:=19) (args:=#[]) (d:=(some 4)) (pre:=[]) (R:=[.abs R]) (pk:=[0]) (λ_=>by kernel_rfl) (ze) rfl (by kernel_rfl) ?_
 rintro β1 _ _ fw ⟨B,L,rfl,rfl,hG⟩
 replace hle0:=hle0.trans fw
 refine af.bD (k':=2) (fr':=λb10=>[(4,.agg #[.slice B (3) (3)]),(5,.slice (some ⟨b10,0,none⟩) (2) (2))]) (aL:=λb10=>[.abs R,.blk b10 [.string ⟨#[97]⟩,.string ⟨#[99]⟩] 9]) (ak:=λb10=>[]) [o_] [4,5] [0,1] (λ_ _=>by kernel_rfl) (λb10=>trivial) (λb10=>?_)
 refine af.mem (λw hS=>hS.gT (i:=1) (b:=b10) (cs:=[.string ⟨#[97]⟩,.string ⟨#[99]⟩]) (e:=9) 1 2 (by kernel_rfl) rfl (by decide)) ?_
 refine af.gy (Φ:=λβ'=>iL β' (some ⟨b10,0,none⟩) [Bf,y6]) 1 [0] (aL:=[.abs R]) rfl rfl (by kernel_rfl) (λF w h β' h1 h2=>cK.gh h h1 h2) (λpG jm hS=>?_)
 replace hG:=hG.le jm
 replace hle0:=hle0.trans jm
 refine af.call (f:=23) (args:=#[.agg #[.slice B (3) (3)],.int .i64 1,.slice (some ⟨b10,0,none⟩) (2) (2)]) (d:=(some 6)) (pre:=[]) (R:=[.abs R]) (pk:=[0]) (λ_=>by kernel_rfl) ((BN B 3 cR L hG vr 1 (cJ (by decide)) (some ⟨b10,0,none⟩) 2 [Bf,y6] hS (by decide)).val (congrArg (λz:Int×Int=>Value.tuple #[.int .i64 z.1,.int .i64 z.2]) vV)) rfl (by kernel_rfl) ?_
 rintro _ _ ⟨rfl,rfl⟩
 refine af.aq (k':=8) (fr':=[(1,.int .i64 7),(2,.int .i64 0)]) (ak:=[]) [o_,o_,o_,o_,o_] [1,2] (λ_ _=>by kernel_rfl) trivial ?_
 refine af.nil (by kernel_rfl) (ah.next (ai.seq (ai.region ?_)))
 refine af.aq (k':=7) (fr':=[(0,.bool true)]) (ak:=[]) [o_,o_,o_,o_,o_,o_,o_] [0] (λ_ _=>by kernel_rfl) trivial ?_
 refine af.nil (by kernel_rfl) (ah.next (ai.ret ?_))
 exact ah.eW (v:=.bool true) (l:=[]) (ak:=[]) [] [0] hle0 (λ_=>by kernel_rfl) trivial rfl (by kernel_rfl) (⟨rfl,rfl⟩)
end
section
open Go.RowKit Go.Maps
inductive Reach (ns:List aD) (k:Nat):Nat->Prop
 |refl:Reach ns k k
 |step {i:Nat} (j:Nat):Reach ns k i->j<(nd ns i).aj.length->Reach ns k (tgt ns (ent ns i j).id)
structure EV (ns:List aD) (k:Nat) (seen work:List Nat):Prop where
 start:k∈seen\/k∈work
 reach:∀i,i∈seen\/i∈work->Reach ns k i
 DV:∀i,i∈seen->∀j,j<(nd ns i).aj.length->tgt ns (ent ns i j).id∈seen\/tgt ns (ent ns i j).id∈work
def tgts (ns:List aD) (x j:Nat):List Nat:=(List.range j).map λt=>tgt ns (ent ns x t).id
def iH (ns:List aD) (seen:List Nat):Nat->Nat
 |0=>0
 |n+1=>iH ns seen n+(if n∈seen then 0 else (nd ns n).aj.length)
theorem tB {ns:List aD} {seen:List Nat} {x:Nat}:∀n,n<=x->iH ns (x::seen) n=iH ns seen n
 |0,_=>rfl
 |n+1,h=>by
   have:¬n=x:=by omega
   rw [iH,iH,tB n (by omega)]
   simp [this]
theorem tC {ns:List aD} {seen:List Nat} {x:Nat} (hx:x∉seen):∀n,x<n->iH ns (x::seen) n+(nd ns x).aj.length=iH ns seen n
 |0,h=>absurd h (Nat.not_lt_zero _)
 |n+1,h=>by
   rw [iH,iH]
   by_cases e:n=x
   ·subst e
    rw [tB n (Nat.le_refl _)]
    simp [hx]
   have:=tC (ns:=ns) hx n (by omega)
   have h1:(n∈x::seen)=(n∈seen):=by simp [e]
   simp only [h1]
   omega
theorem tD (ns:List aD) (seen:List Nat):∀n,iH ns seen n<=bn ns n
 |0=>Nat.le_refl _
 |n+1=>by
   have:=tD ns seen n
   rw [iH,bn]
   split<;>omega
theorem zf {ns:List aD} {k:Nat} (hr:d6 ns) (hk:k<ns.length):cL ns (nd ns k).id=(k:Int)/\tgt ns (nd ns k).id=k:=by
 have h:=p5 hr hk (rfl:(nd ns k).id=(nd ns k).id)
 refine⟨h,?_⟩
 unfold tgt
 rw [h]
 rfl
structure EW (ns:List aD) (k:Nat) (mk work:List Nat) (now:Option (Nat×Nat)):Prop where
 start:k∈mk
 reach:∀i,i∈mk->Reach ns k i
 lies:∀i,i∈work->i∈mk
 nodup:mk.Nodup
 DV:∀i,i∈mk->i∈work\/(∃j,now=some (i,j)/\∀t,t<j->tgt ns (ent ns i t).id∈mk)\/∀t,t<(nd ns i).aj.length->tgt ns (ent ns i t).id∈mk
end
section
open Go.RowKit Go.Maps
structure Ren (ns N:List aD) (r:Nat) (ρ:Nat->Nat):Prop where
 root:ρ r=1
 lt:∀k,ρ k≠0->k<ns.length/\ρ k<=N.length
 inj:∀k k',ρ k≠0->ρ k=ρ k'->k=k'
 A8:∀j,j<N.length->∃k,ρ k=j+1
 node:∀k,ρ k≠0->nd N (ρ k-1)=newNode ns ρ k (nd ns k).aj.length
 all:∀k,ρ k≠0->∀j,j<(nd ns k).aj.length->ρ (tgt ns (ent ns k j).id)≠0
section
variable {ns N:List aD} {r:Nat} {ρ:Nat->Nat}
theorem iE (k:Nat):(newNode ns ρ k (nd ns k).aj.length).aj=(nd ns k).aj.map λe=>⟨e.name,((ρ (tgt ns e.id):Nat):Int)⟩:=by
 unfold newNode
 rw [List.take_of_length_le (Nat.le_refl _)]
theorem Ren.at_ (h:Ren ns N r ρ) {j:Nat} (hj:j<N.length):∃k,ρ k=j+1/\k<ns.length/\nd N j=newNode ns ρ k (nd ns k).aj.length:=by
 obtain⟨k,hk⟩:=h.A8 j hj
 have h0:ρ k≠0:=by omega
 have:=h.node k h0
 rw [hk,Nat.add_sub_cancel] at this
 exact⟨k,hk,(h.lt k h0).1,this⟩
theorem Ren.id (h:Ren ns N r ρ) {j:Nat} (hj:j<N.length):(nd N j).id=((j+1:Nat):Int):=by
 obtain⟨k,hk,_,e⟩:=h.at_ hj
 rw [e]
 show ((ρ k:Nat):Int)=_
 rw [hk]
theorem Ren.rise (h:Ren ns N r ρ):d6 N:=λi j hij hj=>by
 rw [h.id hj,h.id (by omega)];omega
theorem Ren.tgt (h:Ren ns N r ρ) {x:Nat} (hx:ρ x≠0):cL N ((ρ x:Nat):Int)=((ρ x-1:Nat):Int)/\Proofs.Ytjpdcppdoonmdaa.tgt N ((ρ x:Nat):Int)=ρ x-1:=by
 have h1:=(h.lt x hx).2
 have h2:=zf h.rise (k:=ρ x-1) (by omega)
 rw [h.id (by omega),show ρ x-1+1=ρ x by omega] at h2
 exact h2
theorem Ren.aj (h:Ren ns N r ρ) {k:Nat} (hk:ρ k≠0):(nd N (ρ k-1)).aj=(nd ns k).aj.map λe=>⟨e.name,((ρ (Proofs.Ytjpdcppdoonmdaa.tgt ns e.id):Nat):Int)⟩:=by
 rw [h.node k hk,iE]
theorem Ren.ent (h:Ren ns N r ρ) {k j:Nat} (hk:ρ k≠0) (hj:j<(nd ns k).aj.length):Proofs.Ytjpdcppdoonmdaa.ent N (ρ k-1) j=⟨(Proofs.Ytjpdcppdoonmdaa.ent ns k j).name,((ρ (Proofs.Ytjpdcppdoonmdaa.tgt ns (Proofs.Ytjpdcppdoonmdaa.ent ns k j).id):Nat):Int)⟩:=by
 unfold Proofs.Ytjpdcppdoonmdaa.ent en
 rw [h.aj hk,List.getD_eq_getElem?_getD,List.getElem?_map,List.getD_eq_getElem?_getD,List.getElem?_eq_getElem hj]
 rfl
theorem Ren.len (h:Ren ns N r ρ) {k:Nat} (hk:ρ k≠0):(nd N (ρ k-1)).aj.length=(nd ns k).aj.length:=by
 rw [h.aj hk,List.length_map]
theorem vv (κ:Nat->Nat) (n:Nat):∀m,(∀j,j<m->κ j<n/\(nd N j).aj.length=(nd ns (κ j)).aj.length)->(∀i j,i<j->j<m->¬κ i=κ j) →
 ∃seen:List Nat,(∀x,x∈seen↔∃j,j<m/\κ j=x)/\bn N m+iH ns seen n=iH ns [] n
 |0,_,_=>⟨[],λx=>by simp,by rw [bn];omega⟩
 |m+1,h,hi=>by
   obtain⟨seen,h1,h2⟩:=vv κ n m (λj hj=>h j (by omega)) (λi j hij hj=>hi i j hij (by omega))
   have hm:=h m (Nat.lt_succ_self m)
   have hn:κ m∉seen:=λhs=>by
    obtain⟨j,hj,e⟩:=(h1 _).1 hs
    exact hi j m hj (Nat.lt_succ_self m) e
   refine⟨κ m::seen,λx=>?_,?_⟩
   ·rw [List.mem_cons,h1]
    refine⟨λhx=>?_,λ⟨j,hj,e⟩=>?_⟩
    ·rcases hx with rfl|⟨j,hj,e⟩
     ·exact⟨m,Nat.lt_succ_self m,rfl⟩
     exact⟨j,by omega,e⟩
    rcases Nat.lt_succ_iff_lt_or_eq.1 hj with e2|e2
    ·exact .inr ⟨j,e2,e⟩
    subst e2;exact .inl e.symm
   have:=tC (ns:=ns) hn n hm.1
   rw [bn,hm.2]
   omega
theorem Ren.ok (h:Ren ns N r ρ) (hok:bw ns):bw N:=by
 obtain⟨d,hd⟩:=hok.deep
 have hch:∀j,∃k,j<N.length->ρ k=j+1/\k<ns.length:=λj=>by
  by_cases hj:j<N.length
  ·obtain⟨k,h1,h2,_⟩:=h.at_ hj
   exact⟨k,λ_=>⟨h1,h2⟩⟩
  exact⟨0,λe=>absurd e hj⟩
 obtain⟨κ,ol⟩:∃κ:Nat->Nat,∀j,j<N.length->ρ (κ j)=j+1/\κ j<ns.length:=⟨λj=>Classical.choose (hch j),λj=>Classical.choose_spec (hch j)⟩
 have hne:∀j,j<N.length->ρ (κ j)≠0:=λj hj=>by have:=(ol j hj).1;omega
 have hpl:∀j,j<N.length->ρ (κ j)-1=j:=λj hj=>by have:=(ol j hj).1;omega
 have xJ:∀j,j<N.length->nd N j=newNode ns ρ (κ j) (nd ns (κ j)).aj.length:=λj hj=>by have:=h.node (κ j) (hne j hj);rwa [hpl j hj] at this
 have xM:∀j,j<N.length->(nd N j).aj.length=(nd ns (κ j)).aj.length:=λj hj=>by have:=h.len (hne j hj);rwa [hpl j hj] at this
 have xO:∀j i,j<N.length->i<(nd ns (κ j)).aj.length->Proofs.Ytjpdcppdoonmdaa.ent N j i=⟨(Proofs.Ytjpdcppdoonmdaa.ent ns (κ j) i).name,((ρ (Proofs.Ytjpdcppdoonmdaa.tgt ns (Proofs.Ytjpdcppdoonmdaa.ent ns (κ j) i).id):Nat):Int)⟩:=λj i hj hi=>by have:=h.ent (hne j hj) hi;rwa [hpl j hj] at this
 have hinj:∀i j,i<j->j<N.length->¬κ i=κ j:=λi j hij hj e=>by
  have h1:=(ol i (by omega)).1;have h2:=(ol j hj).1;rw [e] at h1;omega
 have zh:∀j i,j<N.length->i<(nd N j).aj.length->Proofs.Ytjpdcppdoonmdaa.tgt N (Proofs.Ytjpdcppdoonmdaa.ent N j i).id=ρ (Proofs.Ytjpdcppdoonmdaa.tgt ns (Proofs.Ytjpdcppdoonmdaa.ent ns (κ j) i).id)-1/\0<=cL N (Proofs.Ytjpdcppdoonmdaa.ent N j i).id/\ρ (Proofs.Ytjpdcppdoonmdaa.tgt ns (Proofs.Ytjpdcppdoonmdaa.ent ns (κ j) i).id)≠0:=λj i hj hi=>by
  rw [xM j hj] at hi
  have h1:=h.all (κ j) (hne j hj) i hi
  have h2:=h.tgt h1
  rw [xO j i hj hi]
  exact⟨h2.2,by show 0<=cL N ((ρ _:Nat):Int);rw [h2.1];omega,h1⟩
 have Du:∀x,ρ x≠0->(nd N (ρ x-1)).kind=(nd ns x).kind:=λx hx=>by rw [h.node x hx];rfl
 have vn:∀j i,qp N j i->qp ns (κ j) i:=λj i g=>by
  have h1:=zh j i g.mW g.mX
  have h2:=g.dir
  rw [h1.1,Du _ h1.2.2] at h2
  exact⟨(ol j g.mW).2,by have:=g.mX;rwa [xM j g.mW] at this,h2⟩
 have hlen:N.length<=ns.length:=by
  have:=nL ns.length ((List.range N.length).map κ) (by
   rw [List.nodup_iff_pairwise_ne,List.pairwise_map]
   exact (List.pairwise_lt_range (n:=N.length)).imp_of_mem (λha hb hab e=>hinj _ _ hab (List.mem_range.1 hb) e)) (λx hx=>by
   obtain⟨j,hj,rfl⟩:=List.mem_map.1 hx
   exact (ol j (List.mem_range.1 hj)).2)
  simpa using this
 refine bw.BL (d:=λj=>d (κ j)) (Nat.le_trans hlen hok.len) (λj hj=>?_) (λj hj=>?_) h.rise ?_ (λj hj i hi=>?_) (λj i j' i' g g' _ _ e=>?_) (λj i g=>?_)
 ·have hn:=hok.node (κ j) (ol j hj).2
  rw [xJ j hj]
  exact⟨hn.kind,hn.mode,hn.uid,hn.gid,hn.time,hn.data,λhk=>by rw [iE,List.length_map];exact hn.aj hk,hn.target⟩
 ·rw [h.id hj]
  have:=hok.len
  omega
 ·obtain⟨seen,_,h2⟩:=vv (ns:=ns) (N:=N) κ ns.length N.length (λj hj=>⟨(ol j hj).2,xM j hj⟩) hinj
  have h3:=tD ns [] ns.length
  have h4:=hok.sum
  omega
 ·have hi2:i<(nd ns (κ j)).aj.length:=by rwa [xM j hj] at hi
  have hE:=hok.aj (κ j) (ol j hj).2 i hi2
  refine⟨(zh j i hj hi).2.1,by rw [xO j i hj hi2];exact hE.good,?_⟩
  rw [xO j i hj hi2]
  have Ew:d5 N j i=d5 ns (κ j) i:=by
   cases i with
   |zero=>rfl
   |succ i=>
     show (Proofs.Ytjpdcppdoonmdaa.ent N j i).name=(Proofs.Ytjpdcppdoonmdaa.ent ns (κ j) i).name
     rw [xO j i hj (by omega)]
  rw [Ew]
  exact hE.ord
 ·have h1:=zh j i g.mW g.mX
  have h2:=zh j' i' g'.mW g'.mX
  rw [h1.1,h2.1] at e
  have h3:=h.inj (Proofs.Ytjpdcppdoonmdaa.tgt ns (Proofs.Ytjpdcppdoonmdaa.ent ns (κ j) i).id) (Proofs.Ytjpdcppdoonmdaa.tgt ns (Proofs.Ytjpdcppdoonmdaa.ent ns (κ j') i').id) h1.2.2 (by have:=h1.2.2;have:=h2.2.2;omega)
  obtain⟨e1,e2⟩:=hok.uniq _ _ _ _ (vn j i g) (vn j' i' g') (ol j g.mW).2 (ol j' g'.mW).2 h3
  refine⟨?_,e2⟩
  rcases Nat.lt_trichotomy j j' with h4|h4|h4
  ·exact absurd e1 (hinj _ _ h4 g'.mW)
  ·exact h4
  exact absurd e1.symm (hinj _ _ h4 g.mW)
 have h1:=zh j i g.mW g.mX
 have h2:=hd _ _ (vn j i g)
 have h3:κ (Proofs.Ytjpdcppdoonmdaa.tgt N (Proofs.Ytjpdcppdoonmdaa.ent N j i).id)=Proofs.Ytjpdcppdoonmdaa.tgt ns (Proofs.Ytjpdcppdoonmdaa.ent ns (κ j) i).id:=by
  rw [h1.1]
  have h4:=(h.lt _ h1.2.2).2
  have h5:=(ol (ρ (Proofs.Ytjpdcppdoonmdaa.tgt ns (Proofs.Ytjpdcppdoonmdaa.ent ns (κ j) i).id)-1) (by omega)).1
  exact h.inj _ _ (by omega) (by omega)
 show d (κ j)<d (κ _)
 rw [h3]
 exact h2
structure Same (ρ:Nat->Nat) (s a:TS):Prop where
 out:a.out=s.out
 sum:a.sum=s.sum
 fst:∀x,ρ x≠0->a.fst (ρ x-1)=s.fst x
theorem xP (k:Nat) (p x:ByteArray) (m:Nat):ef (newNode ns ρ k m) p x=ef (nd ns k) p x:=rfl
theorem Same.push (h:Ren ns N r ρ) {s a:TS} (hs:Same ρ s a) {k:Nat} {p:ByteArray} (hk:ρ k≠0):Same ρ (push ns k p s) (push N (ρ k-1) p a):=by
 refine⟨?_,?_,λx hx=>?_⟩
 ·rw [dH,dH,hs.out,hs.fst k hk,h.node k hk,xP]
 ·rw [dc,dc,hs.sum]
 have e:(ρ x-1=ρ k-1)↔x=k:=⟨λe=>h.inj x k hx (by omega),λe=>by rw [e]⟩
 by_cases hf:s.fst k=⟨#[]⟩
 ·have hf2:a.fst (ρ k-1)=⟨#[]⟩:=by rw [hs.fst k hk];exact hf
  by_cases e2:x=k
  ·subst e2;rw [iD hf,iD hf2]
  rw [jQ e2,jQ (λe3=>e2 (e.1 e3)),hs.fst x hx]
 have hf2:¬a.fst (ρ k-1)=⟨#[]⟩:=by rw [hs.fst k hk];exact hf
 have h1:(Proofs.Ytjpdcppdoonmdaa.push ns k p s).fst=s.fst:=(iX hf).1
 have h2:(Proofs.Ytjpdcppdoonmdaa.push N (ρ k-1) p a).fst=a.fst:=(iX hf2).1
 rw [h1,h2,hs.fst x hx]
theorem rH {α:Type} {g g':α->TS->Option TS}:∀{l:List α} {s s' a:TS},(∀e∈l,∀s s' a,Same ρ s a->g e s=some s'->∃a',g' e a=some a'/\Same ρ s' a')->Same ρ s a->bR g l s=some s'->∃a',bR g' l a=some a'/\Same ρ s' a'
 |[],s,s',a,_,hs,h=>by cases h;exact⟨a,rfl,hs⟩
 |e::l,s,s',a,hg,hs,h=>by
   rw [bR] at h
   cases h1:g e s with
   |none=>rw [h1] at h;cases h
   |some b=>
     rw [h1] at h
     obtain⟨a1,h2,h3⟩:=hg e (List.mem_cons_self ..) s b a hs h1
     obtain⟨a2,h4,h5⟩:=rH (λe he=>hg e (List.mem_cons_of_mem _ he)) h3 h
     exact⟨a2,by rw [bR,h2];exact h4,h5⟩
theorem tE (h:Ren ns N r ρ):∀(f k:Nat) (p:ByteArray) (s s' a:TS),ρ k≠0->bP ns f k p s=some s'->Same ρ s a->∃a',bP N f (ρ k-1) p a=some a'/\Same ρ s' a'
 |0,_,_,_,_,_,_,h,_=>by cases h
 |f+1,k,p,s,s',a,hk,hf,hs=>by
   rw [bP] at hf ⊢
   rw [hs.sum,hs.out,h.aj hk,oG]
   split at hf
   ·cases hf
   rename_i h0
   rw [if_neg h0]
   refine rH (λe he s1 s2 a1 h1 h2=>?_) (hs.push h hk) hf
   obtain⟨j,hj,y4⟩:=List.getElem_of_mem he
   have e2:e=Proofs.Ytjpdcppdoonmdaa.ent ns k j:=by
    unfold Proofs.Ytjpdcppdoonmdaa.ent en
    rw [List.getD_eq_getElem?_getD,List.getElem?_eq_getElem hj,←y4];rfl
   have hz:=h.all k hk j hj
   rw [←e2] at hz
   have h3:=tE h f _ _ s1 s2 a1 hz h2 h1
   have h4:=(h.tgt hz).2
   show ∃a',bP N f (Proofs.Ytjpdcppdoonmdaa.tgt N ((ρ (Proofs.Ytjpdcppdoonmdaa.tgt ns e.id):Nat):Int)) (below s.out.length p e.name) a1=some a'/\_
   rw [h4]
   exact h3
end
theorem vW {ns:List aD} {root:Int} {ls:List aR} (h:aB ns root=(ls,0)):∃t,dg dW ls ls.length=some t/\aB t.ns 1=(ls,0)/\t.ns.length<=ns.length ∧
 ∀j,j<t.ns.length->∃k ρ,k<ns.length/\nd t.ns j=newNode ns ρ k (nd ns k).aj.length/\(∀x,ρ x<=t.ns.length):=by
 have h2:(aB ns root).2=0:=by rw [h]
 have hg:dX ls:=by have:=lS h2;rwa [h] at this
 obtain⟨hb,s,h1,h3⟩:=ql h2
 have hout:s.out=ls:=by rw [h3] at h;injection h
 obtain⟨hok,hat,hkd⟩:=fZ hb
 have htl:=cH hat
 obtain⟨t,ρ,dn,hS,hx,hr⟩:=vm (r:=tgt ns root) (ls:=ls) hok hg 4194305 (tgt ns root) ⟨#[46]⟩ [] fG s kA (λ_=>0) (λ_=>0) none h1 ⟨[],by rw [hout,List.append_nil]⟩ (gn.zero _ _ _) htl.1 (.inl ⟨rfl,rfl⟩) .nil ⟨λ_=>rfl,λ_=>rfl⟩ ⟨rfl,rfl⟩
 have hne:s.out.length≠0:=by obtain⟨_,i,hi,_⟩:=hS.path _ hr;omega
 have hdn:∀x,ρ x≠0->dn x=(nd ns x).aj.length:=λx hx'=>hx.oO x rfl hx'
 have hR:Ren ns t.ns (tgt ns root) ρ:=⟨hS.root hne,hS.lt,hS.inj,hS.A8,λk hk=>by rw [←hdn k hk];exact hS.node k hk,λk hk j hj=>(hS.done k hk).2 j (by rw [hdn k hk];exact hj)⟩
 have hN:=hR.ok hok
 have hr1:ρ (tgt ns root)-1=0:=by rw [hR.root]
 have ht:=hR.tgt hr
 rw [hR.root] at ht
 have DW:0<=cL t.ns 1:=by have:=ht.1;show 0<=cL t.ns ((1:Nat):Int);rw [this];exact Int.natCast_nonneg _
 have CZ:tgt t.ns 1=0:=ht.2
 have hb1:bK t.ns 1=0:=lM hN DW (by
  rw [CZ,←hr1,hR.node _ hr];exact hkd)
 obtain⟨a,ha,hsa⟩:=tE hR 4194305 (tgt ns root) ⟨#[46]⟩ fG s fG hr h1 ⟨rfl,rfl,λ_ _=>rfl⟩
 rw [hr1] at ha
 refine⟨t,by have:=hS.fold;rwa [hout] at this,?_,?_,λj hj=>?_⟩
 ·rw [fX hb1 (by rw [CZ];exact ha),hsa.out,hout]
 ·have:=hN.len
  have hch:∀j,∃k,j<t.ns.length->ρ k=j+1/\k<ns.length:=λj=>by
   by_cases hj:j<t.ns.length
   ·obtain⟨k,h1,h2,_⟩:=hR.at_ hj
    exact⟨k,λ_=>⟨h1,h2⟩⟩
   exact⟨0,λe=>absurd e hj⟩
  have:=nL ns.length ((List.range t.ns.length).map λj=>Classical.choose (hch j)) (by
   rw [List.nodup_iff_pairwise_ne,List.pairwise_map]
   exact (List.pairwise_lt_range (n:=t.ns.length)).imp_of_mem (λ{i j} hi hj hij e=>by
    have g1:=(Classical.choose_spec (hch i) (List.mem_range.1 hi)).1
    have g2:=(Classical.choose_spec (hch j) (List.mem_range.1 hj)).1
    rw [e] at g1
    omega)) (λx hx=>by
   obtain⟨j,hj,rfl⟩:=List.mem_map.1 hx
   exact (Classical.choose_spec (hch j) (List.mem_range.1 hj)).2)
  simpa using this
 obtain⟨k,_,h4,h5⟩:=hR.at_ hj
 refine⟨k,ρ,h4,h5,λx=>?_⟩
 by_cases h0:ρ x=0
 ·omega
 exact (hR.lt x h0).2
end
section
open Go.RowKit Go.Maps
structure Short (s:TS):Prop where
 fst:∀k,(s.fst k).size<=4194304
 out:∀l,l∈s.out->l.path.size<=4194304/\l.peer.size<=4194304
theorem Short.push {ns:List aD} {k:Nat} {p:ByteArray} {s:TS} (h:Short s) (hp:p.size<=4194304):Short (push ns k p s):=by
 refine⟨λj=>?_,λl hl=>?_⟩
 ·unfold Proofs.Ytjpdcppdoonmdaa.push
  split
  ·show (if j=k then p else s.fst j).size<=_
   split
   ·exact hp
   exact h.fst j
  exact h.fst j
 rw [dH] at hl
 rcases List.mem_append.1 hl with hl|hl
 ·exact h.out l hl
 rw [List.mem_singleton.1 hl,(ic _ _ _).1,mH]
 exact⟨hp,h.fst k⟩
theorem rI {ns:List aD}:∀(f k:Nat) (p:ByteArray) (s s':TS),Short s->bP ns f k p s=some s'->Short s'
 |0,_,_,_,_,_,h=>by cases h
 |f+1,k,p,s,s',hs,h=>by
   rw [bP] at h
   split at h
   ·cases h
   exact lP (λe _ a b ha hab=>rI f _ _ a b ha hab) (hs.push (by omega)) h
theorem Short.zero:Short fG:=⟨λ_=>(by show (0:Nat)<=4194304;decide),λl hl=>by cases hl⟩
theorem zi {ns:List aD} {root:Int} (hB:dM ns 1048576) (h:(aB ns root).2=0):oK (aB ns root).1:=by
 obtain⟨hb,s,h1,h2⟩:=ql h
 obtain⟨hok,hat,_⟩:=fZ hb
 have htl:=cH hat
 have h3:=(eZ hok.named 4194305 (tgt ns root) ⟨#[46]⟩ fG s htl.1 (by decide) oH h1).1.ok
 have h4:=rI _ _ _ _ _ Short.zero h1
 have h5:=(fe (root:=root) hB).2
 have hm:∀i,i<s.out.length->ln s.out i∈s.out:=λi hi=>by
  unfold ln;rw [List.getD_eq_getElem?_getD,List.getElem?_eq_getElem hi];exact List.getElem_mem hi
 rw [h2] at h5 ⊢
 have:=h3.out;have:=h3.sum
 exact⟨by show s.out.length<=_;omega,λi hi=>Nat.le_trans (h4.out _ (hm i hi)).1 (by decide),λi hi=>Nat.le_trans (h4.out _ (hm i hi)).2 (by decide),h5⟩
theorem oP {ns:List aD} {root:Int} (hB:dM ns 1048576) (h:(aB ns root).2=0):ru (aB ns root).1:=by
 intro s hs
 obtain⟨t,h1,_,h3,h4⟩:=vW (ns:=ns) (root:=root) (ls:=(aB ns root).1) (by rw [←h])
 rw [h1] at hs
 cases hs
 have hl:=hB.len
 refine⟨by omega,λj hj=>?_⟩
 obtain⟨k,ρ,hk,e,hr⟩:=h4 j hj
 have hn:=hB.node k hk
 have hI:∀x,fO ((ρ x:Nat):Int):=λx=>by have:=hr x;unfold fO;omega
 rw [e]
 refine⟨⟨hI k,hn.ids.2⟩,hn.data,hn.target,by rw [iE,List.length_map];exact hn.aj,λi hi=>?_⟩
 rw [iE,List.length_map] at hi
 have h6:=hn.ent i hi
 have e2:en (newNode ns ρ k (nd ns k).aj.length).aj i=⟨(en (nd ns k).aj i).name,((ρ (tgt ns (en (nd ns k).aj i).id):Nat):Int)⟩:=by
  unfold en
  rw [iE,List.getD_eq_getElem?_getD,List.getElem?_map,List.getD_eq_getElem?_getD,List.getElem?_eq_getElem hi];rfl
 rw [e2]
 exact⟨hI _,h6.name⟩
end
section
open Go.RowKit Go.Maps
def bC (ids:List Nat) (x n:Nat):List Value:=(List.range n).map λj=>.int .i64 (((if j=ids.length then x else ids.getD j 0:Nat)):Int)
theorem vw (ids:List Nat) (x n:Nat):(bC ids x n).length=n:=by simp [bC]
theorem vz {ids:List Nat} {x n j:Nat} (h:j<n):(bC ids x n)[j]?=some (.int .i64 (((if j=ids.length then x else ids.getD j 0:Nat)):Int)):=by simp [bC,h]
theorem sB {ids:List Nat} {x n j:Nat} (h:j<n) (e:j=ids.length):(bC ids x n)[j]?=some (.int .i64 ((x:Nat):Int)):=by rw [vz h,if_pos e]
theorem vA {ids:List Nat} {x n j:Nat} (h:j<n) (e:j<ids.length):(bC ids x n)[j]?=some (.int .i64 ((ids.getD j 0:Nat):Int)):=by rw [vz h,if_neg (by omega)]
theorem zj (n:Nat):List.replicate n (Value.int .i64 0)=bC [] 0 n:=by
 apply List.ext_getElem
 ·simp [bC]
 intro j h1 h2;simp [bC]
theorem vB {ids:List Nat} {x y n j:Nat} (e:j=ids.length):(bC ids x n).set j (.int .i64 ((y:Nat):Int))=bC ids y n:=by
 apply List.ext_getElem
 ·simp [bC]
 intro i h1 h2
 rw [List.getElem_set]
 by_cases h:j=i
 ·rw [if_pos h];simp [bC,←h,e]
 rw [if_neg h]
 have:¬i=ids.length:=by omega
 simp [bC,this]
theorem tF (ids:List Nat) (x n:Nat):bC ids x n=bC (ids++[x]) 0 n:=by
 apply List.ext_getElem
 ·simp [bC]
 intro j h1 h2
 simp only [bC,List.getElem_map,List.getElem_range,List.length_append,List.length_singleton]
 congr 2
 by_cases h:j=ids.length
 ·subst h;rw [if_pos rfl,if_neg (by omega),lU]
 rw [if_neg h]
 by_cases h2:j=ids.length+1
 ·rw [if_pos h2,List.getD_eq_getElem?_getD,List.getElem?_eq_none (by omega)];rfl
 rw [if_neg h2]
 by_cases h3:j<ids.length
 ·rw [lT h3]
 rw [List.getD_eq_getElem?_getD,List.getD_eq_getElem?_getD,List.getElem?_eq_none (by omega),List.getElem?_eq_none (by simp;omega)]
theorem vC {p:ByteArray} {q:Nat} (h:∀j,q<=j->j<p.size->¬aW p j=47) (hq:q<=p.size) (he:q=0\/aW p (q-1)=47):cutAt p=((q:Nat):Int)-1:=by
 rcases iG p with ⟨h1,h2⟩|⟨i,h1,h2,h3,h4⟩
 ·rcases he with e|e
  ·subst e;omega
  rcases Nat.eq_zero_or_pos q with e0|e0
  ·subst e0;omega
  exact absurd e (h2 _ (by omega))
 rcases Nat.lt_or_ge i q with e|e
 ·rcases he with e2|e2
  ·omega
  rcases Nat.lt_or_ge i (q-1) with e3|e3
  ·exact absurd e2 (h4 _ e3 (by omega))
  omega
 exact absurd h3 (h i e h1)
theorem Au (p:ByteArray):p.extract (cutAt p+1).toNat p.size=nameOf p:=by
 unfold nameOf
 have:=(iZ p).2
 split
 ·rw [show (cutAt p+1).toNat=(cutAt p).toNat+1 by omega]
 rw [show (cutAt p+1).toNat=0 by omega]
 exact ByteArray.extract_zero_size
section steps
variable {ls:List aR} {s s':PS} {i:Nat}
theorem rJ (h:newId ls s i=0):fB ls s i=none:=if_pos h
theorem vX (h2:¬newId ls s i=0) (h0:i=0):fB ls s i=some ⟨ax ls s i,s.ids++[newId ls s i]⟩:=by
 unfold fB;rw [if_neg h2,if_pos h0]
theorem mZ (h2:¬newId ls s i=0) (h0:¬i=0) (h3:bk ls s i<0):fB ls s i=none:=by
 unfold fB;rw [if_neg h2,if_neg h0,if_pos h3]
theorem xQ (h2:¬newId ls s i=0) (h0:¬i=0) (h3:¬bk ls s i<0) :
 fB ls s i=some ⟨cA (ax ls s i) (bk ls s i).toNat ⟨nameOf (ln ls i).path,((newId ls s i:Nat):Int)⟩,s.ids++[newId ls s i]⟩:=by
 unfold fB;rw [if_neg h2,if_neg h0,if_neg h3]
theorem tG {ids:List Nat} {p:ByteArray} {b:Nat}:∀{i:Nat},(∀j,j<i->1<=ids.getD j 0/\ids.getD j 0<=b)->dP ls ids p i<(b:Int)/\-1<=dP ls ids p i
 |0,_=>by unfold dP;omega
 |i+1,h=>by
   rw [dP]
   split
   ·have:=h i (Nat.lt_succ_self i);omega
   exact tG (λj hj=>h j (by omega))
theorem wP (h:gI ls s i) (hi:0<i):bk ls s i<(s.ns.length:Int)/\-1<=bk ls s i:=by
 unfold bk
 split
 ·exact tG h.pJ
 have:=h.CN hi;omega
theorem zk (h:gI ls s i) (hs:fB ls s i=some s'):gI ls s' (i+1):=by
 unfold fB at hs
 split at hs
 ·cases hs
 rename_i hn
 split at hs
 ·cases hs
  exact h.step hn rfl (λk hk=>jk h hk)
 rename_i h2
 split at hs
 ·cases hs
 rename_i h3
 cases hs
 have h4:=(wP h (by omega)).1
 have h5:=jO (ls:=ls) (s:=s) (i:=i)
 refine h.step hn (eu _ _ _) (λk hk=>?_)
 rw [eu] at hk
 rw [iz (by omega)]
 split
 ·rename_i e;subst e;exact jk h hk
 exact jk h hk
structure gY (ls:List aR) (s:PS) (i:Nat):Prop where
 inv:gI ls s i
 fold:dg fB ls i=some s
 aj:dY s.ns i
theorem gY.zero (ls:List aR):gY ls kA 0:=⟨gI.zero ls,rfl,dY.nil⟩
theorem gY.stop (h:gY ls s i) (hi:i<ls.length) (hs:fB ls s i=none):dg fB ls ls.length=none:=by
 have h1:dg fB ls (i+1)=none:=by rw [dg,h.fold];exact hs
 have h2:∀t,dg fB ls (i+1+t)=none:=by
  intro t
  induction t with
  |zero=>exact h1
  |succ t ih=>rw [←Nat.add_assoc,dg,ih];rfl
 have:=h2 (ls.length-(i+1))
 rw [show i+1+(ls.length-(i+1))=ls.length by omega] at this
 exact this
theorem gY.next (h:gY ls s i) (hs:fB ls s i=some s') (he:dY s'.ns (i+1)):gY ls s' (i+1):=⟨zk h.inv hs,by rw [dg,h.fold];exact hs,he⟩
theorem Av {ids:List Nat} {p:ByteArray} {j:Nat} (h1:(ln ls j).path=p) (h2:bS ls ids p j=0):bS ls ids p (j+1)=ids.getD j 0:=if_pos ⟨h2,h1⟩
theorem tH {ids:List Nat} {p:ByteArray} {j:Nat} (h:¬(bS ls ids p j=0/\(ln ls j).path=p)):bS ls ids p (j+1)=bS ls ids p j:=if_neg h
theorem xR {ids:List Nat} {p:ByteArray} {j:Nat} (h1:1<=j) (h2:(ln ls j).path=p):dP ls ids p (j+1)=((ids.getD j 0:Nat):Int)-1:=if_pos ⟨h1,h2⟩
theorem vY {ids:List Nat} {p:ByteArray} {j:Nat} (h:¬(ln ls j).path=p):dP ls ids p (j+1)=dP ls ids p j:=if_neg (λe=>h e.2)
theorem xS {ids:List Nat} {p:ByteArray}:dP ls ids p 1 = -1:=if_neg (λe=>absurd e.1 (by decide))
end steps
def sC (ls:List aR):Prop:=∀s,dg fB ls ls.length=some s->dM s.ns 1048576
theorem j3 {ls:List aR} (h:dg fB ls ls.length=none):gP ls=([],151):=by unfold gP;rw [h]
theorem kH {ls:List aR} {s:PS} (h:dg fB ls ls.length=some s) (ht:¬aB s.ns 1=(ls,0)):gP ls=([],151):=by unfold gP;rw [h];exact if_neg ht
theorem pQ {ls:List aR} {s:PS} (h:dg fB ls ls.length=some s) (ht:aB s.ns 1=(ls,0)):gP ls=(s.ns,0):=by unfold gP;rw [h];exact if_pos ht
end
end Go.Proofs.Ytjpdcppdoonmdaa
