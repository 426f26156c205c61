/-
  PROVED HERE: lemmas and contracts of functions (texts of this repo, joined; what the claim does not use is left out): Ad, Pc, FP, FW, FA, Ae, FT, Dh, Aw, Ua, Ub, UA, UB, Ud, UC, UD, Ue, Rp, VA, VB, Rq, Rv, Rl, Ra, YA, YC, XR, VC, Zg, Ro, YZC.
  CONDITIONS: as the theorems say.
-/
import Derived.Test.YtfececghhgeapaaGreatDoorMRcalls5
import Derived.ChangeMaps5
import Derived.LaidLaws
import Derived.LaidHandle
import Derived.Lib.LaidTab
import Derived.Test.YtfececghhgeapaaGreatDoorRows
import Derived.Shelf.Vars
import Derived.Deep.DeepLaidRun
import Derived.Stop.Joined
set_option maxRecDepth 100000
set_option maxHeartbeats 4000000
namespace Go.Proofs.YtfececghhgeapaaGreatDoor
section
open Go.RowKit Go.Maps bw aH
abbrev nF:aO:=⟨0,1,420,0,0,0,0,[],⟨#[]⟩,[]⟩
abbrev nD:aO:=⟨0,2,493,0,0,0,0,[],⟨#[]⟩,[]⟩
abbrev nL (t:ByteArray):aO:=⟨0,3,511,0,0,0,0,[],t,[]⟩
section a
variable {R Z:RS} {Y:RL} {β:Bs} {d af k to n:Nat} {name aG:ByteArray} {a:cI} {e:Int} {x:aO}
theorem adH (h:(cG R d name x).2≠0):(cG R d name x).1=R:=by
 grind [cG]
theorem YA (h:(cG R d name x).2=0):cG R d name x=(kz R d name x,0):=by
 grind [lF,cG]
theorem LB:(kz R d name x).ns.length=R.ns.length+1:=by
 unfold kz
 simp [List.length_append,Gs]
theorem abn:(nd (kz R d name x).ns R.ns.length).data=x.data:=by
 grind [kz,nd,dW,Gs]
theorem mP.toK {L:fq} {H V:Option Addr} (h:mP β R L H V):CZ β R L H V k:=⟨λi hi _=>h.data i hi,h.aq,h.h,h.v⟩
theorem acv (h:a.op=1) (hm:(cG R d name nF).2≠0):fI R af d name a=(R,(cG R d name nF).2):=by unfold fI;rw [t8 h];exact nw hm
theorem acw (h:a.op=1) (hm:(cG R d name nF).2=0):fI R af d name a=((kZ (kz R d name nF) R.ns.length a.text.data.toList).1,0):=by
 grind [fI,YA,LB]
theorem afv (h:a.op=2):fI R af d name a=cG R d name nD:=by unfold fI;rw [nw d5,t8 h]
theorem afw (h:a.op=3):fI R af d name a=cG R d name (nL a.text):=by unfold fI;rw [nw d5,nw d5,t8 h]
theorem afx (h:a.op=4):fI R af d name a=jV R d name false:=by unfold fI;rw [nw d5,nw d5,nw d5,t8 h]
theorem afy (h:a.op=5):fI R af d name a=jV R d name true:=by unfold fI;rw [nw d5,nw d5,nw d5,nw d5,t8 h]
theorem acy (h:a.op=6) (hw:mM R af a.to=.error e):fI R af d name a=(R,e):=by unfold fI;rw [nw d5,nw d5,nw d5,nw d5,nw d5,t8 h,hw]
theorem acz (h:a.op=6) (hw:mM R af a.to=.ok (to,aG)):fI R af d name a=jW R d name to aG:=by unfold fI;rw [nw d5,nw d5,nw d5,nw d5,nw d5,t8 h,hw]
theorem afz (h:¬(1<=a.op/\a.op<=6)):fI R af d name a=if 0<=cQ R.ns d name then if (nd R.ns (cQ R.ns d name).toNat).kind=3 then (R,174) else if (nd R.ns (cQ R.ns d name).toNat).kind=2 then (R,172) else ((kZ R (cQ R.ns d name).toNat a.text.data.toList).1,(kZ R (cQ R.ns d name).toNat a.text.data.toList).2.2) else (R,170):=by
 grind [fI]
theorem acA (h:¬(1<=a.op/\a.op<=6)) (hl:cQ R.ns d name = -1):fI R af d name a=(R,170):=(afz h).trans (nw (by rw [hl];decide))
theorem GD (h:¬(1<=a.op/\a.op<=6)) (hl:cQ R.ns d name=(k:Int)):fI R af d name a=if (nd R.ns k).kind=3 then (R,174) else if (nd R.ns k).kind=2 then (R,172) else ((kZ R k a.text.data.toList).1,(kZ R k a.text.data.toList).2.2):=by
 rw [afz h,t8 (by rw [hl];omega),hl];rfl
theorem QM:∀{ps:List ByteArray} {d:Nat},oL R d ps=.error e->e≠0
 |[],d,h=>by cases h;decide
 |[p],d,h=>by
   unfold oL at h
   split at h<;>first|(cases h;done)|(cases h;decide)
 |p::q::r,d,h=>by
   unfold oL at h
   (repeat' split at h)<;>first|exact QM h|(cases h;done)|(cases h;decide)
theorem QN {p:ByteArray} (h:mM R af p=.error e):e≠0:=by
 grind [mM,QM]
theorem Tr:∀{ps:List ByteArray} {d:Nat},d<R.ns.length->oL R d ps=.ok (to,aG)->to<R.ns.length
 |[],d,_,h=>by cases h
 |[p],d,hd,h=>by
   unfold oL at h
   split at h
   ·cases h
   cases h;exact hd
 |p::q::r,d,hd,h=>by
   unfold oL at h
   split at h
   ·rename_i h0
    split at h
    ·cases h
    split at h
    ·cases h
    refine Tr ?_ h
    rcases nY R.ns d p with hl|⟨k,hl,hk⟩
    ·rw [hl] at h0;exact KB h0 (by decide)
    rw [hl];exact hk
   cases h
theorem Ts {p:ByteArray} (hr:af<R.ns.length) (h:mM R af p=.ok (to,aG)):to<R.ns.length:=by
 unfold mM at h
 split at h
 ·exact Tr hr h
 cases h
theorem Vz (hI:mP β Z Y.L Y.H Y.V) (hC:RC Z) (hD:RD n Z) (hn:n<=7) (d:Nat) (hd:d<Z.ns.length) (name:ByteArray) (x:aO) (hxd:x.data=[]) (ME:x.aq=[]) (Me:x.target.size<=1048576) (hm:(cG Z d name x).2≠0) :
 bK Tryz.prog β 112 #[.agg ⟨rV Z Y⟩,.int .i64 ((d:Nat):Int),.string name,.agg #[.int .i64 x.id,.int .i64 x.kind,.int .i64 x.mode,.int .i64 x.cM,.int .i64 x.cO,.int .i64 x.bH,.int .i64 x.bh,.slice none 0 0,.string x.target,.slice none 0 0]]
  [.abs (aI 102 10 Y.A Z.ns.length Y.c (bS Y.L Z.ns)),.abs (aI 3 1 Y.G Z.aJ.length Y.cg (bL Z.aJ))] (λ_ v l=>v=.tuple #[.agg ⟨rV Z Y⟩,.int .i64 (cG Z d name x).2]/\l=[.abs (aI 102 10 Y.A Z.ns.length Y.c (bS Y.L Z.ns)),.abs (aI 3 1 Y.G Z.aJ.length Y.cg (bL Z.aJ))]):=by
 refine (yC Z Y hI hC hD hn d hd name x hxd ME Me).mono ?_
 rintro β' v l _ ⟨A1,c1,L1,rfl,rfl,_,hmk⟩
 obtain⟨_,rfl,rfl,rfl⟩:=hmk.resolve_left (λh=>hm h.1)
 rw [adH hm]
 exact⟨rfl,rfl⟩
theorem VA (hI:mP β Z Y.L Y.H Y.V) (hC:RC Z) (hD:RD n Z) (hn:n<=7) (d:Nat) (hd:d<Z.ns.length) (name:ByteArray) (x:aO) (hxd:x.data=[]) (ME:x.aq=[]) (Me:x.target.size<=1048576) (hm:(cG Z d name x).2=0) :
 bK Tryz.prog β 112 #[.agg ⟨rV Z Y⟩,.int .i64 ((d:Nat):Int),.string name,.agg #[.int .i64 x.id,.int .i64 x.kind,.int .i64 x.mode,.int .i64 x.cM,.int .i64 x.cO,.int .i64 x.bH,.int .i64 x.bh,.slice none 0 0,.string x.target,.slice none 0 0]]
  [.abs (aI 102 10 Y.A Z.ns.length Y.c (bS Y.L Z.ns)),.abs (aI 3 1 Y.G Z.aJ.length Y.cg (bL Z.aJ))] (λβ' v l=>∃A' c' L',v=.tuple #[.agg ⟨rW (kz Z d name x) A' c' Y.G Y.cg Y.H Y.ch Y.V Y.cv⟩,.int .i64 0] ∧
   l=[.abs (aI 102 10 A' (kz Z d name x).ns.length c' (bS L' (kz Z d name x).ns)),.abs (aI 3 1 Y.G (kz Z d name x).aJ.length Y.cg (bL (kz Z d name x).aJ))]/\mP β' (kz Z d name x) L' Y.H Y.V/\L'.dA Z.ns.length=none/\L'.dC Z.ns.length=0):=by
 grind [yC,YA]
end a
theorem Tt {l:List UInt8} {c:UInt8} {j:Nat}:Lib.occAt l [c] j=(l[j]? == some c):=by
 unfold Lib.occAt
 rw [←List.head?_drop]
 cases l.drop j with
 |nil=>rfl
 |cons b r=>
   grind
theorem ext_get {s:ByteArray} {a b j:Nat} (hb:b<=s.size) (hj:a+j<b):(s.extract a b).data.toList[j]?=some (s.data.getD (a+j) 0):=by
 have h:a+j<s.data.size:=aiq hj hb
 simp only [ByteArray.data_extract,Array.getElem?_toList,Array.getElem?_extract]
 rw [t8 (by have:s.data.size=s.size:=rfl;omega)]
 have h2:s.data[a+j]?=some s.data[a+j]:=Array.getElem?_eq_getElem h
 rw [h2]
 simp only [Array.getD,h,dite_true];rfl
section p
variable {s:ByteArray} {a i:Nat}
theorem afA {j:Nat}:(s.data.getD j 0 == 47)=decide (dS s j=47):=by
 unfold dS
 generalize s.data.getD j 0=x
 by_cases h:x=47
 ·subst h;rfl
 have h2:¬x.toNat=47:=λe=>h (aiI.1 e)
 rw [Lk h2]
 simpa using h
theorem Tv {j:Nat} (hj:a+j<s.size):Lib.occAt (s.extract a s.size).data.toList slash.data.toList j=decide (dS s (a+j)=47):=by
 show Lib.occAt _ [47] j=_
 rw [Tt,ext_get (N6 _) hj,←afA]
 simp
theorem adI {j:Nat} (hj:s.size<=a+j):Lib.occAt (s.extract a s.size).data.toList slash.data.toList j=false:=by
 show Lib.occAt _ [47] j=_
 rw [Tt,ai3 (by simp only [Array.length_toList,ByteArray.size_data,aiU];omega)]
 rfl
theorem RN (jD:∀j,a<=j->j<s.size->¬dS s j=47):bQ (s.extract a s.size)=[s.extract a s.size]:=by
 refine Lib.splitB_miss _ _ _ _ (Lib.index_none (λj _=>?_))
 grind [Tv,adI]
theorem RO (ha:a<=i) (hi:i<s.size) (hb:dS s i=47) (jD:∀j,a<=j->j<i->¬dS s j=47):bQ (s.extract a s.size)=s.extract a i::bQ (s.extract (i+1) s.size):=by
 have fT:Lib.indexB (s.extract a s.size) slash=((i-a:Nat):Int):=by
  refine Lib.index_first (by simp only [Array.length_toList,ByteArray.size_data,aiU];omega) ?_ (λj hj=>?_)
  all_goals grind [Tv]
 have hc:=Lib.countB_hit (s.extract a s.size) slash (i-a) d8 fT
 have e:(s.extract a s.size).extract (i-a+slash.size) (s.extract a s.size).size=s.extract (i+1) s.size:=by
  rw [ByteArray.extract_extract,aiU]
  congr 1
  ·show a+(i-a+1)=i+1;omega
  omega
 unfold bQ
 rw [hc,ajb,Lib.splitB_hit _ _ _ _ _ fT,e]
 congr 1
 rw [ByteArray.extract_extract]
 congr 1
 omega
structure HB (s:ByteArray) (i a:Nat) (ps:List ByteArray):Prop where
 le:a<=i
 at_:i<=s.size->ps++bQ (s.extract a s.size)=bQ s/\∀j,a<=j->j<i->¬dS s j=47
 fin:s.size<i->ps=bQ s
 len:ps.length<=a
theorem HB.start:HB s 0 0 []:=⟨N6 _,λ_=>⟨by rw [ByteArray.extract_zero_size];rfl,λj _ h=>KB h (N5 j)⟩,λh=>KB h (N5 _),N6 _⟩
theorem HB.miss {ps:List ByteArray} (h:HB s i a ps) (hi:i<s.size) (hb:¬dS s i=47):HB s (i+1) a ps:=
 ⟨Nat.le_succ_of_le h.le,λ_=>⟨(h.at_ (aja hi)).1,λj h1 h2=>(Pd.1 h2).elim ((h.at_ (aja hi)).2 j h1) (λe=>e ▸ hb)⟩,λh=>d5,h.len⟩
theorem HB.hit {ps:List ByteArray} (h:HB s i a ps) (hi:i<=s.size) (hb:i=s.size\/dS s i=47):HB s (i+1) (i+1) (ps++[s.extract a i]):=by
 obtain⟨h1,h2⟩:=h.at_ hi
 have dP:=h.le
 have Wj:=h.len
 refine⟨N6 _,λh3=>⟨?_,λj h4 h5=>d5⟩,λh3=>?_,by rw [T3];show ps.length+1<=i+1;omega⟩
 all_goals grind [RO,RN]
theorem M8 {ps:List ByteArray} {x:ByteArray}:kx (ps++[x])=kx ps++[.string x]:=aiM
end p
end
section
open Go.RowKit Go.Maps bw aH
attribute [local irreducible] aB bJ av aF
theorem YB {β:Bs} (s:ByteArray) (hs:s.size<=1048576) :
 aU Tryz.prog β 110 #[.string s] [] (λv l=>∃B c,v=.slice B (bQ s).length c/\l=[.abs (aI 9 1 B ((bQ s).length) c (kx (bQ s)))]):=by
 refine SE Tryz.func110 Tryz.ntmps110 (λR=>SR (jK 1 [] [] (NS (jB 2 [3] (λb1=>.aD b1 [] 9) (λb1=>NS (aB.mem (λw hS=>hS.nW (i:=1) (b:=b1) (cs:=[]) (e:=9) 1 0 d6 rfl d8) (jK 1 [4] [] (NZ (jK 1 [5] [] (NN (av.block (lJ (λ(i,A8,c8,ps,a)=>(i<=s.size+1)/\(HB s i a ps)) (λ(i,A8,c8,ps,a)=>s.size+2-i) (λ(i,A8,c8,ps,a)=>[(0,.string s),(3,.slice A8 (ps.length) (c8)),(4,vI ↑a),(5,vI ↑i)]) (λ(i,A8,c8,ps,a)=>[.abs (aI 9 1 A8 ps.length c8 (kx ps)),.abs R]) (0,some ⟨b1,0,none⟩,0,[],0) [1,0] (⟨L4 _,HB.start⟩) ?_))))))))))))
 rintro⟨i,A8,c8,ps,a⟩ ⟨hi,hp⟩
 have dP:=hp.le
 have Wj:=hp.len
 exact SQ (jK 4 [10] [] (NN (cP ((((i:Nat):Int):Int)<=((((s:ByteArray).size:Nat):Int):Int)) (λh10=>KX (av.seq (av.block (SR (jK 5 [17] [] (sP 17 ((((i:Nat):Int):Int)=((((s:ByteArray).size:Nat):Int):Int)) (λJg=>jK 5 [22] [] (NT (SR (jN 6 [23,28] (λb2=>[(4,p_ ⟨[],some i,some a,none,none⟩ [((i:Nat):Int)=((i:Nat):Int),((a:Nat):Int)=((a:Nat):Int),i<=(s:ByteArray).size,a<=i] ⟨rfl,rfl,d5,d5,trivial⟩)]) (λ_=>[]) (λb2=>.aD b2 [.string ((s:ByteArray).extract a i)] 9) (λb2=>mO 0 67 (some ⟨b2,0,none⟩) 1 1 [.string ((s:ByteArray).extract a i)] rfl (gq (j:=2) rfl) (λA3 c4=>aB.cR 0 (p':=.abs (aI 9 1 A3 ((ps++[s.extract a i]).length) c4 (kx (ps++[s.extract a i])))) rfl (by rw [M8];simp) (sl 29 (.slice A3 (ps.length+1) (c4)) (.slice A3 ((ps++[s.extract a i]).length) (c4)) nh (jK 1 [3] [] (NN (av.region (jK 3 [4] [(1,wJ ((i:Int)+1) (↑(i+1)))] (LX (av.region (jK 3 [5] [(1,wJ ((i:Int)+1) (↑(i+1)))] (NL (tJ ((i+1),A3,c4,(ps++[s.extract a i]),(i+1)) [0,1] (⟨d5,hp.hit d5 (.inl d5)⟩))))))))))))))))) (λJg=>jK 5 [22] [(2,xP i (i<(s:ByteArray).size))] (NN (cP ((((((s:ByteArray).data.getD (i) 0).toNat:Nat):Int):Int)=(47:Int)) (λtH=>SR (jN 6 [23,28] (λb5=>[(4,p_ ⟨[],some i,some a,none,none⟩ [((i:Nat):Int)=((i:Nat):Int),((a:Nat):Int)=((a:Nat):Int),i<=(s:ByteArray).size,a<=i] ⟨rfl,rfl,d5,d5,trivial⟩)]) (λ_=>[]) (λb5=>.aD b5 [.string ((s:ByteArray).extract a i)] 9) (λb5=>mO 0 67 (some ⟨b5,0,none⟩) 1 1 [.string ((s:ByteArray).extract a i)] rfl (gq (j:=2) rfl) (λA6 c7=>aB.cR 0 (p':=.abs (aI 9 1 A6 ((ps++[s.extract a i]).length) c7 (kx (ps++[s.extract a i])))) rfl (by rw [M8];simp) (sl 29 (.slice A6 (ps.length+1) (c7)) (.slice A6 ((ps++[s.extract a i]).length) (c7)) nh (jK 1 [3] [] (NN (av.region (jK 3 [4] [(1,wJ ((i:Int)+1) (↑(i+1)))] (LX (av.region (jK 3 [5] [(1,wJ ((i:Int)+1) (↑(i+1)))] (NL (tJ ((i+1),A6,c7,(ps++[s.extract a i]),(i+1)) [0,1] (⟨d5,hp.hit d5 (.inr (by unfold dS;omega))⟩))))))))))))))) (λtH=>KX (av.region (jK 3 [5] [(1,wJ ((i:Int)+1) (↑(i+1)))] (NL (tJ ((i+1),A8,c8,ps,a) [0,1] (⟨d5,hp.miss d5 (by unfold dS;omega)⟩))))))))))))))) (λh10=>XX (zR ((by have e:=hp.fin d5;rw [←e];exact⟨A8,c8,rfl,rfl⟩)))))))
theorem GF {β:Bs} (Z:RS) (Y:RL) (hR:dJ β Z Y) (hC:RC Z) (af:Nat) (hroot:af<Z.ns.length) (path:ByteArray) (eV:path.size<=1048576) :
 aU Tryz.prog β 83 #[.agg ⟨rV Z Y⟩,vI (((af:Nat):Int)),.string path] [] (λv l=>v=Bb (mM Z af path)/\l=[]):=by
 have hpl:1<=(bQ path).length/\(bQ path).length<=1048577:=by rw [DJ];have:=Aj path;omega
 have hnl:=hC.toRB.ns
 refine SE Tryz.func83 Tryz.ntmps83 (λR=>SR (jN 4 [3] (λ_=>[]) (λ_=>[]) (λb1=>.aD b1 (rV Z Y) 45) (λb1=>NS (jK 1 [13] [] (gL [] (YB path eV) ?_)))))
 rintro _ _ ⟨B,c,rfl,rfl⟩
 refine jK 1 [9] [] (NN (av.seq (SR (aB.vZ 0 rfl d5 (λhgB=>jK 1 [10] [] (NN (av.block (lJ (λ(j:Nat)=>(j<=(bQ path).length)/\(∀q,q<j->bW (pc (bQ path) q))) (λ(j:Nat)=>(bQ path).length-j) (λ(j:Nat)=>[(1,vI ↑af),(3,vP b1),(9,.slice B ((bQ path).length) (c)),(10,vI ↑j)]) (λ(j:Nat)=>[.abs (aI 9 1 B ((bQ path).length) c (kx (bQ path))),.abs R,.aD b1 (rV Z Y) 45]) 0 [0,1,2] (⟨L4 _,λq h=>KB h (N5 q)⟩) ?_))))))))
 rintro j ⟨hj,hgd⟩
 refine av.seq (SR (jK 4 [18] [] (NN (cP ((((j:Nat):Int):Int)<((((bQ path).length:Nat):Int):Int)) (λpQ=>av.skip (NX (av.seq (av.block (SR (jK 4 [24] [(2,x_ j ((bQ path).length) (hgB)),(3,p_ ⟨[.view 0 (.string (pc (bQ path) j))],none,none,none,none⟩ [(∀F w,(aI 9 1 B ((bQ path).length) c (kx (bQ path))).h F w->w.cell? ⟨(bG B),bE B+j*1,none⟩=some (.string (pc (bQ path) j)))] ⟨Cd d5,trivial⟩)] (gE [] (Dl (pc (bQ path) j) (Pe (G5 (Pu d5)) eV)) (jK 1 [26] [] (NN (cN (bW (pc (bQ path) j)) (λwq=>SR (jK 3 [6,7,8] [] (NN (av.ret (aF.fM (aF.br (aF.br (aF.fM (aF.br (RT _ [1] (⟨zc Bb (aiL (show mM Z af path=.error 95 from nw (λh=>wq (DK.1 h j d5)))),rfl⟩))))))))))) (λwq=>av.skip (aF.j8 (NX (av.region (jK 3 [10] [(1,wJ ((j:Int)+1) (↑(j+1)))] (NL (tJ ((j+1)) [0,1,2] (⟨d5,λq hq=>(Pd.1 hq).elim (hgd q) (λe=>e ▸ wq)⟩)))))))))))))))))) (λpQ=>av.exit (aF.o7 (aF.o7 (aF.wL (NX (SR ?_))))))))))
 have j3:∀p∈(bQ path),bW p:=DK.2 (λq hq=>hgd q d5)
 refine jK 2 [11] [] (NN (av.seq (SR (jK 1 [12] [] (NN (av.block (lJ (λ(j,at_)=>(j<=(bQ path).length-1)/\(at_<Z.ns.length)/\(oL Z af (bQ path)=oL Z at_ ((bQ path).drop j))) (λ(j,at_)=>(bQ path).length-1-j) (λ(j,at_)=>[(3,vP b1),(9,.slice B ((bQ path).length) (c)),(11,vI ↑at_),(12,vI ↑j)]) (λ(j,at_)=>[.abs (aI 9 1 B ((bQ path).length) c (kx (bQ path))),.abs R,.aD b1 (rV Z Y) 45]) (0,af) [0,1,2] (⟨L4 _,hroot,rfl⟩) ?_)))))))
 rintro⟨j,at_⟩ ⟨hj,hat,hw⟩
 refine av.seq (SR (jK 5 [32] [(3,wJ ((((bQ path).length:Nat):Int)-1) (↑((bQ path).length-1)))] (NN (cP ((((j:Nat):Int):Int)<(((((bQ path).length-1):Nat):Int):Int)) (λr9=>av.skip (NX (av.seq (av.block (av.seq ?_))))) (λr9=>av.exit (aF.o7 (aF.o7 (aF.wL (NX (av.seq (av.seq (av.FQ d6 d6 (jQ 8 [60,67] [(0,A_ 2 b1 12),(3,a_ 2 b1),(5,x_ at_ Z.ns.length (aN.hd hR.n (i:=at_) d5)),(7,r_ (aN.rd hR.n (i:=at_) d5 (j:=0) rfl))] (zH [] [0,1,2] (.bool (decide ((nd Z.ns at_).id∈Z.aJ))) (AJ Z Y hR hC.toRB (nd Z.ns at_).id) (NQ (NX (cP ((nd Z.ns at_).id∈Z.aJ) (λh68=>SR (jK 3 [6,7,8] [] (NN (av.ret (aF.br (RT _ [1] (⟨zc Bb (aiL (show mM Z af path=.error 170 from (show mM Z af path=oL Z af (bQ path) from t8 j3).trans (hw.trans ((M7 d5).trans (t8 h68))))),rfl⟩))))))) (λh68=>av.skip (NX (av.seq (av.FQ d6 d6 (jQ 10 [6,7,8] [(4,wJ ((((bQ path).length:Nat):Int)-1) (↑((bQ path).length-1))),(5,x_ ((bQ path).length-1) ((bQ path).length) (hgB)),(6,p_ ⟨[.view 0 (.string (pc (bQ path) ((bQ path).length-1)))],none,none,none,none⟩ [(∀F w,(aI 9 1 B ((bQ path).length) c (kx (bQ path))).h F w->w.cell? ⟨(bG B),bE B+((bQ path).length-1)*1,none⟩=some (.string (pc (bQ path) ((bQ path).length-1))))] ⟨Cd d5,trivial⟩)] (NQ (NX (av.ret (RT _ [1] (⟨zc Bb (aiL (show mM Z af path=.ok (at_,pc (bQ path) ((bQ path).length-1)) from (show mM Z af path=oL Z af (bQ path) from t8 j3).trans (hw.trans ((M7 d5).trans ((nw h68).trans (by rw [show j=(bQ path).length-1 by omega])))))),rfl⟩)))))))))))))))))))))))))))
 rcases nY Z.ns at_ (pc (bQ path) j) with hl|⟨k,hl,hk⟩
 ·exact av.FQ d6 d6 (jQ 6 [35,36,40] [(0,A_ 2 b1 12),(4,x_ j ((bQ path).length) (hgB)),(5,p_ ⟨[.view 0 (.string (pc (bQ path) j))],none,none,none,none⟩ [(∀F w,(aI 9 1 B ((bQ path).length) c (kx (bQ path))).h F w->w.cell? ⟨(bG B),bE B+j*1,none⟩=some (.string (pc (bQ path) j)))] ⟨Cd d5,trivial⟩)] (zH [] [0,1,2] (.int .i64 (-1)) ((mz Z Y hR hC at_ hat (pc (bQ path) j)).val (zc (Value.int .i64) hl)) (jQ 1 [11] [] (NQ (NX (av.seq (SR (jK 2 [43] [] (NN (CT (zR ⟨zc Bb (aiL (show mM Z af path=.error 170 from (show mM Z af path=oL Z af (bQ path) from t8 j3).trans (hw.trans (Yz d5 hl)))),rfl⟩ [1])))))))))))
 exact rQ (jQ 6 [35,36,40] [(0,A_ 2 b1 12),(4,x_ j ((bQ path).length) (hgB)),(5,p_ ⟨[.view 0 (.string (pc (bQ path) j))],none,none,none,none⟩ [(∀F w,(aI 9 1 B ((bQ path).length) c (kx (bQ path))).h F w->w.cell? ⟨(bG B),bE B+j*1,none⟩=some (.string (pc (bQ path) j)))] ⟨Cd d5,trivial⟩)] (zH [] [0,1,2] (.int .i64 ↑k) ((mz Z Y hR hC at_ hat (pc (bQ path) j)).val (zc (Value.int .i64) hl)) (jQ 1 [11] [] (NQ (NX (SQ (jK 2 [43] [(1,wF (((k:Int):Int)<(0:Int)))] (NF (KX (SQ (jK 8 [51] [(2,a_ 2 b1),(4,x_ k Z.ns.length (aN.hd hR.n (i:=k) d5)),(6,r_ (aN.rd hR.n (i:=k) d5 (j:=1) rfl))] (NN (cP (((nd Z.ns k).kind:Int)=(3:Int)) (λwu=>zR ⟨zc Bb (aiL (show mM Z af path=.error 174 from (show mM Z af path=oL Z af (bQ path) from t8 j3).trans (hw.trans ((FN d5 hl).trans (t8 wu))))),rfl⟩ [1]) (λwu=>KX (SR (jK 8 [59] [(2,a_ 2 b1),(4,x_ k Z.ns.length (aN.hd hR.n (i:=k) d5)),(6,r_ (aN.rd hR.n (i:=k) d5 (j:=1) rfl))] (NN (cP (((nd Z.ns k).kind:Int)=(1:Int)) (λxV=>zR ⟨zc Bb (aiL (show mM Z af path=.error 173 from (show mM Z af path=oL Z af (bQ path) from t8 j3).trans (hw.trans ((FN d5 hl).trans ((nw wu).trans (t8 xV)))))),rfl⟩ [1]) (λxV=>KX (av.region (jK 3 [12] [(1,wJ ((j:Int)+1) (↑(j+1)))] (NL (tJ ((j+1),k) [0,1,2] (⟨d5,hk,hw.trans ((FN d5 hl).trans ((nw wu).trans (nw xV)))⟩))))))))))))))))))))))))
theorem abo {β:Bs} (Z:RS) (Y:RL) (hI:mP β Z Y.L Y.H Y.V) (hC:RC Z) (hD:RD 0 Z) (af:Nat) (hroot:af<Z.ns.length) (d:Nat) (hd:d<Z.ns.length) (name:ByteArray) (a:cI) (fw:a.to.size<=1048576) (tZ:a.text.size<=1048576) (YC:a.op=1->(cG Z d name nF).2=0->RC (kz Z d name nF)) (jD:¬(1<=a.op/\a.op<=6)->∀k:Nat,cQ Z.ns d name=(k:Int)->(nd Z.ns k).kind=3\/(nd Z.ns k).kind=2) :
 bK Tryz.prog β 84 #[.agg ⟨rV Z Y⟩,vI (((af:Nat):Int)),vI (((d:Nat):Int)),.string name,.agg #[vI (a.at_),vI (a.op),.string a.path,.string a.to,.string a.text]] [.abs (aI 102 10 Y.A Z.ns.length Y.c (bS Y.L Z.ns)),.abs (aI 3 1 Y.G Z.aJ.length Y.cg (bL Z.aJ))] (λβ' v l=>∃Y',v=.tuple #[.agg ⟨rV ((fI Z af d name a).1) Y'⟩,vI (fI Z af d name a).2]/\l=[]/\dJ β' (fI Z af d name a).1 Y'):=by
 refine lW Tryz.func84 Tryz.ntmps84 (λaE R=>SR (jB 1 [5] (λb1=>.aD b1 (rV Z Y) 45) (λb1=>jB 1 [9] (λb2=>.aD b2 [vI (a.at_),vI (a.op),.string a.path,.string a.to,.string a.text] 133) (λb2=>jB 2 [10] (λb3=>.aD b3 (rZ) 45) (λb3=>NZ (jK 2 [23] [(1,a_ 4 b2)] (NN (av.block (SR (jK 2 [24] [] (NN (cP ((a.op:Int)=(1:Int)) (λq6=>?_) (λq6=>?_)))))))))))))
 ·refine SR (jK 4 [27,28,29,30] [(0,A_ 3 b1 12)] ?_)
  by_cases hm:(cG Z d name nF).2=0
  ·refine ia [0,1] (VA hI hC hD d5 d hd name nF rfl rfl d8 hm) ?_
   rintro β1 _ _ cW ⟨A1,c1,L1,rfl,rfl,dz,hnA,PD⟩
   replace aE:=aE.trans cW
   refine jN 6 [12,13] (λb4=>[(4,A_ 6 b4 12)]) (λ_=>[]) (λb4=>.aD b4 (rW (kz Z d name nF) A1 c1 Y.G Y.cg Y.H Y.ch Y.V Y.cv) 45) (λb4=>NZ (jK 2 [35] [] (NF (KX (SR (jK 6 [14] [(2,a_ 6 b4),(4,p_ ⟨[],none,none,none,some (vI ↑Z.ns.length)⟩ [(Value.int .i64 (IntKind.wrap .i64 ((((kz Z d name nF).ns.length:Nat):Int)-1)))=(.int .i64 ↑Z.ns.length)] ⟨vw (by rw [LB];omega) d5 (by have:=hC.ns;omega),trivial⟩)] (NS (jK 4 [44,45,47] [(0,A_ 6 b4 12),(3,a_ 4 b2)] (aB.DL (d:=(some 48)) (t1:=9) (t2:=61) (e:=5) (x:=(.tmp 47)) (s:=a.text) (λ_=>d6) (λ_=>d6) Tryz.underlying9 Tryz.underlying61 Tryz.underlying5 (λb5 c6 aht=>aB.tL 7 [0,1,2,3,4,5,6] (gj:=[.abs (aI 102 10 A1 ((kz Z d name nF).ns.length) c1 (bS L1 (kz Z d name nF).ns)),.abs (aI 3 1 Y.G ((kz Z d name nF).aJ.length) Y.cg (bL (kz Z d name nF).aJ)),.abs R,.aD b1 (rV Z Y) 45,.aD b2 [vI (a.at_),vI (a.op),.string a.path,.string a.to,.string a.text] 133,.aD b3 (rZ) 45,.aD b4 (rW (kz Z d name nF) A1 c1 Y.G Y.cg Y.H Y.ch Y.V Y.cv) 45]) rfl rfl d6 (λC3 iX hbs=>?_)))))))))))
   replace dz:=dz.le iX
   replace aE:=aE.trans iX
   refine aB.mem (λw hS=>hS.nN (e:=5) (size:=1)) (aB.cR 7 (p':=.abs (aI 5 1 (L1.dA Z.ns.length) ((nd (kz Z d name nF).ns Z.ns.length).data.length) (L1.dC Z.ns.length) (d9 (nd (kz Z d name nF).ns Z.ns.length).data))) rfl (by rw [hnA,PD,abn];rfl) (ia [0,1,7] (Qe (kz Z d name nF) ⟨A1,c1,L1,Y.G,Y.cg,Y.H,Y.ch,Y.V,Y.cv⟩ Z.ns.length dz.toK (YC (by simpa using q6) hm) (by rw [LB];omega) (some ⟨b5,0,none⟩) c6 a.text.data.toList hbs (by rw [Array.length_toList];have:a.text.data.size=a.text.size:=rfl;omega) aht) ?_))
   rintro Ce _ _ eF ⟨Y3,rfl,rfl,nQ⟩
   replace aE:=aE.trans eF
   exact jC 5 [] [(4,A_ 4 b4 12)] [(4,(zC (rV ((kZ (kz Z d name nF) Z.ns.length a.text.data.toList).1) Y3)))] (NS (jC 3 [11] [(0,A_ 4 b4 12),(1,A_ 3 b3 12)] [(3,(zC (rV ((kZ (kz Z d name nF) Z.ns.length a.text.data.toList).1) Y3)))] (eO [A_ 3 b3 12] aE ⟨Y3,by rw [acw (by simpa using q6) hm]<;>rfl,rfl,by rw [acw (by simpa using q6) hm];exact nQ⟩)))
  refine ia [0,1] (Vz hI hC hD d5 d hd name nF rfl rfl d8 hm) ?_
  rintro β1 _ _ cW ⟨rfl,rfl⟩
  replace hI:=hI.le cW
  replace aE:=aE.trans cW
  refine jN 6 [12,13] (λb10=>[(4,A_ 6 b10 12)]) (λ_=>[]) (λb10=>.aD b10 (rV Z Y) 45) (λb10=>NZ (jK 2 [35] [] (NN (cN (((cG Z d name nF).2:Int)=(0:Int)) (λyR=>SR (jC 4 [11] [(0,A_ 3 b1 12),(2,A_ 5 b3 12)] [(5,(zC (rV Z Y)))] (NN (av.ret (aF.br (aF.fM (aF.br (aF.eP [0,1] [.abs (aI 102 10 Y.A Z.ns.length Y.c (bS Y.L Z.ns)),.abs (aI 3 1 Y.G Z.aJ.length Y.cg (bL Z.aJ))] (λLp oI hL=>?_))))))))) (λyR=>KB (by simpa using yR) hm)))))
  have kq:dJ Lp Z Y:=hI.at hL
  replace aE:=aE.trans oI
  exact rB _ [A_ 3 b3 12] [0] aE (⟨Y,by rw [acv (by simpa using q6) hm]<;>rfl,rfl,by rw [acv (by simpa using q6) hm];exact kq⟩)
 refine SR (jK 2 [54] [] (NN (cP ((a.op:Int)=(2:Int)) (λFu=>?_) (λFu=>?_))))
 ·refine SR (jK 4 [56,57,58,59] [(0,A_ 3 b1 12)] (ia [0,1] (yC Z Y hI hC hD d5 d hd name nD rfl rfl d8) ?_))
  rintro β1 _ _ cW ⟨A1,c1,L1,rfl,rfl,dz,_⟩
  replace aE:=aE.trans cW
  refine jC 4 [11] [(2,A_ 5 b3 12)] [(5,(zC (rW ((cG Z d name nD).1) A1 c1 Y.G Y.cg Y.H Y.ch Y.V Y.cv)))] (NN (av.ret (aF.fM (aF.br (aF.eP [0,1] [.abs (aI 102 10 A1 ((cG Z d name nD).1.ns.length) c1 (bS L1 (cG Z d name nD).1.ns)),.abs (aI 3 1 Y.G ((cG Z d name nD).1.aJ.length) Y.cg (bL (cG Z d name nD).1.aJ))] (λDY gA hL=>?_))))))
  have kq:dJ DY (cG Z d name nD).1 ⟨A1,c1,L1,Y.G,Y.cg,Y.H,Y.ch,Y.V,Y.cv⟩:=dz.at hL
  replace aE:=aE.trans gA
  exact rB _ [A_ 3 b3 12] [0] aE (⟨⟨A1,c1,L1,Y.G,Y.cg,Y.H,Y.ch,Y.V,Y.cv⟩,by rw [afv (by simpa using Fu)]<;>rfl,rfl,by rw [afv (by simpa using Fu)];exact kq⟩)
 refine SR (jK 2 [63] [] (NN (cP ((a.op:Int)=(3:Int)) (λh63=>?_) (λh63=>?_))))
 ·refine SR (jK 6 [65,66,67,70] [(0,A_ 3 b1 12),(4,a_ 4 b2)] (ia [0,1] (yC Z Y hI hC hD d5 d hd name (nL a.text) rfl rfl tZ) ?_))
  rintro β1 _ _ cW ⟨A1,c1,L1,rfl,rfl,dz,_⟩
  replace aE:=aE.trans cW
  refine jC 4 [11] [(2,A_ 5 b3 12)] [(5,(zC (rW ((cG Z d name (nL a.text)).1) A1 c1 Y.G Y.cg Y.H Y.ch Y.V Y.cv)))] (NN (av.ret (aF.fM (aF.br (aF.eP [0,1] [.abs (aI 102 10 A1 ((cG Z d name (nL a.text)).1.ns.length) c1 (bS L1 (cG Z d name (nL a.text)).1.ns)),.abs (aI 3 1 Y.G ((cG Z d name (nL a.text)).1.aJ.length) Y.cg (bL (cG Z d name (nL a.text)).1.aJ))] (λQf AR hL=>?_))))))
  have kq:dJ Qf (cG Z d name (nL a.text)).1 ⟨A1,c1,L1,Y.G,Y.cg,Y.H,Y.ch,Y.V,Y.cv⟩:=dz.at hL
  replace aE:=aE.trans AR
  exact rB _ [A_ 3 b3 12] [0] aE (⟨⟨A1,c1,L1,Y.G,Y.cg,Y.H,Y.ch,Y.V,Y.cv⟩,by rw [afw (by simpa using h63)]<;>rfl,rfl,by rw [afw (by simpa using h63)];exact kq⟩)
 refine SR (jK 2 [74] [] (NN (cP ((a.op:Int)=(4:Int)) (λGQ=>?_) (λGQ=>?_))))
 ·refine SR (jK 3 [76,77,78] [(0,A_ 3 b1 12)] (ia [0,1] (MT Z Y hI hC hD d5 d hd name false) ?_))
  rintro β1 _ _ cW ⟨Y3,rfl,rfl,nQ⟩
  replace aE:=aE.trans cW
  exact jC 4 [11] [(2,A_ 3 b3 12)] [(3,(zC (rV ((jV Z d name false).1) Y3)))] (eO [A_ 3 b3 12] aE ⟨Y3,by rw [afx (by simpa using GQ)]<;>rfl,rfl,by rw [afx (by simpa using GQ)];exact nQ⟩)
 refine SR (jK 2 [82] [] (NN (cP ((a.op:Int)=(5:Int)) (λMz=>?_) (λMz=>?_))))
 ·refine SR (jK 3 [84,85,86] [(0,A_ 3 b1 12)] (ia [0,1] (MT Z Y hI hC hD d5 d hd name true) ?_))
  rintro β1 _ _ cW ⟨Y3,rfl,rfl,nQ⟩
  replace aE:=aE.trans cW
  exact jC 4 [11] [(2,A_ 3 b3 12)] [(3,(zC (rV ((jV Z d name true).1) Y3)))] (eO [A_ 3 b3 12] aE ⟨Y3,by rw [afy (by simpa using Mz)]<;>rfl,rfl,by rw [afy (by simpa using Mz)];exact nQ⟩)
 refine SR (jK 2 [90] [] (NN (cP ((a.op:Int)=(6:Int)) (λwv=>?_) (λwv=>?_))))
 ·refine SR (jK 4 [93,94,96] [(0,A_ 3 b1 12),(3,a_ 4 b2)] ?_)
  rcases hw:mM Z af a.to with e|⟨to,aG⟩
  ·have he:=QN hw
   refine gE [0,1] ((jm hI (λ_ _ h=>GF Z Y h hC af hroot a.to fw)).val (zc Bb hw)) (jK 7 [15,16,17] [] (NZ (jK 2 [102] [] (NN (cN ((e:Int)=(0:Int)) (λafB=>SR (jC 4 [11] [(0,A_ 3 b1 12),(2,A_ 5 b3 12)] [(5,(zC (rV Z Y)))] (NN (av.ret (aF.br (aF.fM (aF.br (aF.eP [0,1] [.abs (aI 102 10 Y.A Z.ns.length Y.c (bS Y.L Z.ns)),.abs (aI 3 1 Y.G Z.aJ.length Y.cg (bL Z.aJ))] (λFv j7 hL=>?_))))))))) (λafB=>KB (by simpa using afB) he))))))
   have kq:dJ Fv Z Y:=hI.at hL
   replace aE:=aE.trans j7
   exact rB _ [A_ 3 b3 12] [0] aE (⟨Y,by rw [acy (by simpa using wv) hw]<;>rfl,rfl,by rw [acy (by simpa using wv) hw];exact kq⟩)
  have OY:=Ts hroot hw
  refine gE [0,1] ((jm hI (λ_ _ h=>GF Z Y h hC af hroot a.to fw)).val (zc Bb hw)) (jK 7 [15,16,17] [] (NZ (jK 2 [102] [] (NF (KX (SR (jK 5 [105,106,107,108,109] [(0,A_ 3 b1 12)] (ia [0,1] (XQ Z Y hI hC hD d5 d hd name to OY aG) ?_))))))))
  rintro β1 _ _ cW ⟨Y3,rfl,rfl,nQ⟩
  replace aE:=aE.trans cW
  exact jC 4 [11] [(2,A_ 3 b3 12)] [(3,(zC (rV ((jW Z d name to aG).1) Y3)))] (eO [A_ 3 b3 12] aE ⟨Y3,by rw [acz (by simpa using wv) hw]<;>rfl,rfl,by rw [acz (by simpa using wv) hw];exact nQ⟩)
 refine KX (SR ?_)
 have h7:¬(1<=a.op/\a.op<=6):=d5
 refine jK 3 [113,114,115] [(0,A_ 3 b1 12)] ?_
 rcases nY Z.ns d name with hl|⟨k,hl,hk⟩
 ·refine gE [0,1] ((jm hI (λ_ _ h=>mz Z Y h hC d hd name)).val (zc (Value.int .i64) hl)) (jK 1 [18] [] (NZ (jK 2 [118] [] (NT (SR (jC 3 [11] [(0,A_ 3 b1 12),(1,A_ 5 b3 12)] [(5,(zC (rV Z Y)))] (NN (av.ret (aF.br (aF.eP [0,1] [.abs (aI 102 10 Y.A Z.ns.length Y.c (bS Y.L Z.ns)),.abs (aI 3 1 Y.G Z.aJ.length Y.cg (bL Z.aJ))] (λCt gP hL=>?_)))))))))))
  have kq:dJ Ct Z Y:=hI.at hL
  replace aE:=aE.trans gP
  exact rB _ [A_ 3 b3 12] [0] aE (⟨Y,by rw [acA h7 hl]<;>rfl,rfl,by rw [acA h7 hl];exact kq⟩)
 refine aB.vZ 0 rfl d5 (λpR=>gE [0,1] ((jm hI (λ_ _ h=>mz Z Y h hC d hd name)).val (zc (Value.int .i64) hl)) (jK 1 [18] [] (NZ (jK 2 [118] [(1,wF (((k:Int):Int)<(0:Int)))] (NF (KX (SQ (jK 8 [127] [(2,a_ 3 b1),(4,x_ k Z.ns.length (pR)),(6,v_ 0 (nA Z.ns Y.L Y.A Y.c k 1 hk rfl))] (NN (cP (((nd Z.ns k).kind:Int)=(3:Int)) (λh127=>?_) (λh127=>?_)))))))))))
 ·refine SR (jC 3 [11] [(0,A_ 3 b1 12),(1,A_ 5 b3 12)] [(5,(zC (rV Z Y)))] (NN (av.ret (aF.br (aF.eP [0,1] [.abs (aI 102 10 Y.A Z.ns.length Y.c (bS Y.L Z.ns)),.abs (aI 3 1 Y.G Z.aJ.length Y.cg (bL Z.aJ))] (λFw iA hL=>?_))))))
  have kq:dJ Fw Z Y:=hI.at hL
  replace aE:=aE.trans iA
  exact rB _ [A_ 3 b3 12] [0] aE (⟨Y,by rw [(GD h7 hl).trans (t8 h127)]<;>rfl,rfl,by rw [(GD h7 hl).trans (t8 h127)];exact kq⟩)
 refine KX (SQ (jK 8 [136] [(2,a_ 3 b1),(4,x_ k Z.ns.length (pR)),(6,v_ 0 (nA Z.ns Y.L Y.A Y.c k 1 hk rfl))] (NN (cP (((nd Z.ns k).kind:Int)=(2:Int)) (λIX=>SR (jC 3 [11] [(0,A_ 3 b1 12),(1,A_ 5 b3 12)] [(5,(zC (rV Z Y)))] (NN (av.ret (aF.br (aF.eP [0,1] [.abs (aI 102 10 Y.A Z.ns.length Y.c (bS Y.L Z.ns)),.abs (aI 3 1 Y.G Z.aJ.length Y.cg (bL Z.aJ))] (λLC gI hL=>?_))))))) (λIX=>KB (jD h7 k hl) (λh=>h.elim h127 IX))))))
 have kq:dJ LC Z Y:=hI.at hL
 replace aE:=aE.trans gI
 exact rB _ [A_ 3 b3 12] [0] aE (⟨Y,by rw [(GD h7 hl).trans ((nw h127).trans (t8 IX))]<;>rfl,rfl,by rw [(GD h7 hl).trans ((nw h127).trans (t8 IX))];exact kq⟩)
theorem abp {β:Bs} (Z:RS) (Y:RL) (k:Nat) (hI:CZ β Z Y.L Y.H Y.V k) (hC:RC Z) (hk:k<Z.ns.length) (af:Nat) (_:af<Z.ns.length) (d:Nat) (hd:d<Z.ns.length) (name:ByteArray) (a:cI) (_:a.to.size<=1048576) (tZ:a.text.size<=1048576) (h7:¬(1<=a.op/\a.op<=6)) (hl:cQ Z.ns d name=(k:Int)) (hk3:¬(nd Z.ns k).kind=3) (hk2:¬(nd Z.ns k).kind=2) :
 bK Tryz.prog β 84 #[.agg ⟨rV Z Y⟩,vI (((af:Nat):Int)),vI (((d:Nat):Int)),.string name,.agg #[vI (a.at_),vI (a.op),.string a.path,.string a.to,.string a.text]] [.abs (aI 102 10 Y.A Z.ns.length Y.c (bS Y.L Z.ns)),.abs (aI 3 1 Y.G Z.aJ.length Y.cg (bL Z.aJ)),.abs (aI 5 1 (Y.L.dA k) ((nd Z.ns k).data.length) (Y.L.dC k) (d9 (nd Z.ns k).data))] (λβ' v l=>∃Y',v=.tuple #[.agg ⟨rV ((fI Z af d name a).1) Y'⟩,vI (fI Z af d name a).2]/\l=[]/\dJ β' (fI Z af d name a).1 Y'):=by
 refine lW Tryz.func84 Tryz.ntmps84 (λaE R=>SR (jB 1 [5] (λb18=>.aD b18 (rV Z Y) 45) (λb18=>jB 1 [9] (λb19=>.aD b19 [vI (a.at_),vI (a.op),.string a.path,.string a.to,.string a.text] 133) (λb19=>jB 2 [10] (λb20=>.aD b20 (rZ) 45) (λb20=>NZ (jK 2 [23] [(1,a_ 5 b19)] (NN (av.block (SR (jK 2 [24] [] (NN (cP ((a.op:Int)=(1:Int)) (λq6=>KB q6 (by omega)) (λq6=>SR (jK 2 [54] [] (NN (cP ((a.op:Int)=(2:Int)) (λFu=>KB Fu (by omega)) (λFu=>SR (jK 2 [63] [] (NN (cP ((a.op:Int)=(3:Int)) (λh63=>KB h63 (by omega)) (λh63=>SR (jK 2 [74] [] (NN (cP ((a.op:Int)=(4:Int)) (λGQ=>KB GQ (by omega)) (λGQ=>SR (jK 2 [82] [] (NN (cP ((a.op:Int)=(5:Int)) (λMz=>KB Mz (by omega)) (λMz=>SR (jK 2 [90] [] (NN (cP ((a.op:Int)=(6:Int)) (λwv=>KB wv (by omega)) (λwv=>KX (SR (jK 3 [113,114,115] [(0,A_ 4 b18 12)] (gE [0,1,2] (Qd (x:=.int .i64 ((k:Nat):Int)) (cb:=Y.L.dC k) hI rfl rfl (λ_ _ h=>(mz Z Y h hC d hd name).val (zc (Value.int .i64) hl))) (jK 1 [18] [] (NZ (jK 2 [118] [(1,wF (((k:Int):Int)<(0:Int)))] (NF (KX (SQ (aB.vZ 0 rfl d5 (λpR=>jK 8 [127] [(2,a_ 4 b18),(4,x_ k Z.ns.length (pR)),(6,v_ 0 (nA Z.ns Y.L Y.A Y.c k 1 hk rfl))] (NN (cP (((nd Z.ns k).kind:Int)=(3:Int)) (λh127=>KB h127 hk3) (λh127=>KX (SQ (jK 8 [136] [(2,a_ 4 b18),(4,x_ k Z.ns.length (pR)),(6,v_ 0 (nA Z.ns Y.L Y.A Y.c k 1 hk rfl))] (NN (cP (((nd Z.ns k).kind:Int)=(2:Int)) (λIX=>KB IX hk2) (λIX=>KX (SR (jK 4 [139,140,142] [(0,A_ 4 b18 12),(3,a_ 5 b19)] (aB.DL (d:=(some 143)) (t1:=9) (t2:=61) (e:=5) (x:=(.tmp 142)) (s:=a.text) (λ_=>d6) (λ_=>d6) Tryz.underlying9 Tryz.underlying61 Tryz.underlying5 (λHl c22 agA=>aB.tL 7 [0,1,2,3,4,5,6] (gj:=[.abs (aI 102 10 Y.A Z.ns.length Y.c (bS Y.L Z.ns)),.abs (aI 3 1 Y.G Z.aJ.length Y.cg (bL Z.aJ)),.abs (aI 5 1 (Y.L.dA k) ((nd Z.ns k).data.length) (Y.L.dC k) (d9 (nd Z.ns k).data)),.abs R,.aD b18 (rV Z Y) 45,.aD b19 [vI (a.at_),vI (a.op),.string a.path,.string a.to,.string a.text] 133,.aD b20 (rZ) 45]) rfl rfl d6 (λaff DZ hbs=>?_)))))))))))))))))))))))))))))))))))))))))))))))))))))))))
 replace hI:=hI.le DZ
 replace aE:=aE.trans DZ
 refine ia [0,1,2] (Qe Z Y k hI hC hk (some ⟨Hl,0,none⟩) c22 a.text.data.toList hbs (by rw [Array.length_toList];have:a.text.data.size=a.text.size:=rfl;omega) agA) ?_
 rintro afg _ _ IK ⟨Y3,rfl,rfl,nQ⟩
 replace aE:=aE.trans IK
 exact jN 8 [19,21] (λYD=>[(5,A_ 4 YD 12)]) (λ_=>[]) (λYD=>.aD YD (rV ((kZ Z k a.text.data.toList).1) Y3) 45) (λYD=>NS (jC 4 [11] [(0,A_ 4 YD 12),(2,A_ 3 b20 12)] [(3,(zC (rV ((kZ Z k a.text.data.toList).1) Y3)))] (eO [A_ 3 b20 12] aE ⟨Y3,by rw [(GD h7 hl).trans ((nw hk3).trans (nw hk2))]<;>rfl,rfl,by rw [(GD h7 hl).trans ((nw hk3).trans (nw hk2))];exact nQ⟩)))
end
section
open Go.RowKit Go.Maps bw aH
section s
variable {β:Bs} {Z:RS} {Y:RL} {af d:Nat} {name:ByteArray} {a:cI}
theorem abq {A1 G1:Option Addr} {c1 g1:Nat} {K:fq} (hR:dJ β Z Y) (hC:RC Z) (hD:RD 0 Z) (hroot:af<Z.ns.length) (hd:d<Z.ns.length) (fw:a.to.size<=1048576) (tZ:a.text.size<=1048576) (YC:a.op=1->(cG Z d name nF).2=0->RC (kz Z d name nF)) :
 aU Tryz.prog β 84 #[.agg ⟨rV Z ⟨A1,c1,K,G1,g1,Y.H,Y.ch,Y.V,Y.cv⟩⟩,.int .i64 ((af:Nat):Int),.int .i64 ((d:Nat):Int),.string name,.agg #[.int .i64 a.at_,.int .i64 a.op,.string a.path,.string a.to,.string a.text]]
  [.abs (jL β (C0 Z K)),.abs (aI 102 10 A1 Z.ns.length c1 (bS K Z.ns)),.abs (aI 3 1 G1 Z.aJ.length g1 (bL Z.aJ)),Lr Z K]
  (λv l=>∃Y',v=.tuple #[.agg ⟨rV (fI Z af d name a).1 Y'⟩,.int .i64 (fI Z af d name a).2]/\l=[.abs (jL β (λβ'=>dJ β' (fI Z af d name a).1 Y'))]):=by
 refine (bK.G0 (ι:=RL) (vv:=λY'=>.tuple #[.agg ⟨rV (fI Z af d name a).1 Y'⟩,.int .i64 (fI Z af d name a).2]) (ll:=λ_=>[]) (Φ:=λY' β'=>dJ β' (fI Z af d name a).1 Y') (bK.acp λβ' dP hE=>?_)).mono gn
 by_cases h9:∃k:Nat,¬(1<=a.op/\a.op<=6)/\cQ Z.ns d name=(k:Int)/\¬(nd Z.ns k).kind=3/\¬(nd Z.ns k).kind=2
 ·obtain⟨k,h1,h2,h3,h4⟩:=h9
  have hk:k<Z.ns.length:=by
   grind [nY]
  refine bK.ahp (pre':=[.abs (aI 102 10 A1 Z.ns.length c1 (bS K Z.ns)),.abs (aI 3 1 G1 Z.aJ.length g1 (bL Z.aJ)),.abs (mI Z.ns K k)]++[.abs (ld (pU (mI Z.ns K) k eG.none) Z.ns.length)]) (bK.Vm λoV hL=>?_) (λA w hS=>?_)
  ·have hd2:∀i,i<Z.ns.length->i≠k->bO oV (K.dA i) (nd Z.ns i).data:=by
    obtain⟨F,q1,q2⟩:=hL.get 0 rfl
    refine ld.base q1 q2 rfl (Φ:=λi b=>i≠k->bO b (K.dA i) (nd Z.ns i).data) (λi _ F hF hO cF=>?_)
    have hF:(HP.abs (mI Z.ns K i)).h F oV.w0:=by
     have e:pU (mI Z.ns K) k eG.none i=mI Z.ns K i:=nw cF
     rw [e] at hF;exact hF
    exact cq.gZ (show (HP.abs (aI 5 1 (K.dA i) (nd Z.ns i).data.length (K.dC i) (d9 (nd Z.ns i).data))).h F _ from hF) hO rfl
   have hI:CZ oV Z K Y.H Y.V k:=⟨hd2,λi hi=>(hE i hi).le hL.le,(hR.h.le dP).le hL.le,(hR.v.le dP).le hL.le⟩
   refine (abp Z ⟨A1,c1,K,G1,g1,Y.H,Y.ch,Y.V,Y.cv⟩ k hI hC hk af hroot d hd name a fw tZ h1 h2 h3 h4).mono ?_
   grind
  have:=hS.acG (i:=2) (k:=k) rfl hk
  exact this.pick (ax:=[0,1,4,2,3]) rfl rfl
 refine bK.Vm (pre:=[.abs (aI 102 10 A1 Z.ns.length c1 (bS K Z.ns)),.abs (aI 3 1 G1 Z.aJ.length g1 (bL Z.aJ))]) (R:=[Lr Z K]) λoV hL=>?_
 have hI:mP oV Z K Y.H Y.V:=by
  obtain⟨F,q1,q2⟩:=hL.get 0 rfl
  exact⟨aeS q1 q2 rfl,λi hi=>(hE i hi).le hL.le,(hR.h.le dP).le hL.le,(hR.v.le dP).le hL.le⟩
 refine (abo Z ⟨A1,c1,K,G1,g1,Y.H,Y.ch,Y.V,Y.cv⟩ hI hC hD af hroot d hd name a fw tZ YC (λh1 k h2=>aiy (λh3=>h9 ⟨k,h1,h2,λe=>h3 (.inl e),λe=>h3 (.inr e)⟩))).mono ?_
 grind
theorem NE {r:Int} (h:a.op<1\/a.op>7):mh Z r a=(Z,230):=t8 h
theorem acB {r:Int} (h:¬(a.op<1\/a.op>7)) (h1:¬0<=gU Z.ns r):mh Z r a=(Z,141):=by unfold mh;rw [nw h,nw h1]
theorem Tw {r:Int} (h:¬(a.op<1\/a.op>7)) (h1:0<=gU Z.ns r) (h2:¬(nd Z.ns (bZ Z.ns r)).kind=2):mh Z r a=(Z,173):=by unfold mh;rw [nw h,t8 h1,nw h2]
theorem YE {r e:Int} (h:¬(a.op<1\/a.op>7)) (h1:0<=gU Z.ns r) (h2:(nd Z.ns (bZ Z.ns r)).kind=2) (hw:mM Z (bZ Z.ns r) a.path=.error e):mh Z r a=(Z,e):=by unfold mh;rw [nw h,t8 h1,t8 h2,hw]
theorem acC {r:Int} (h:¬(a.op<1\/a.op>7)) (h1:0<=gU Z.ns r) (h2:(nd Z.ns (bZ Z.ns r)).kind=2) (hw:mM Z (bZ Z.ns r) a.path=.ok (d,name)) (h3:¬(fI Z (bZ Z.ns r) d name a).2=0):mh Z r a=(Z,(fI Z (bZ Z.ns r) d name a).2):=by
 grind [mh]
theorem acD {r:Int} (h:¬(a.op<1\/a.op>7)) (h1:0<=gU Z.ns r) (h2:(nd Z.ns (bZ Z.ns r)).kind=2) (hw:mM Z (bZ Z.ns r) a.path=.ok (d,name)) (h3:(fI Z (bZ Z.ns r) d name a).2=0):mh Z r a=((fI Z (bZ Z.ns r) d name a).1,0):=by
 grind [mh]
end s
end
section
open Go.RowKit Go.Maps bw aH
attribute [local irreducible] aB bJ av aF eH lX
theorem adJ {β:Bs} (Z:RS) (Y:RL) (hR:dJ β Z Y) (hC:RC Z) (hD:RD 0 Z) (af:Int) (a:cI) (hpa:a.path.size<=1048576) (fw:a.to.size<=1048576) (tZ:a.text.size<=1048576) (YC:0<=gU Z.ns af->(nd Z.ns (bZ Z.ns af)).kind=2->∀d name,mM Z (bZ Z.ns af) a.path=.ok (d,name)->a.op=1->(cG Z d name nF).2=0->RC (kz Z d name nF)) :
 bK Tryz.prog β 58 #[.agg ⟨rV Z Y⟩,vI (af),.agg #[vI (a.at_),vI (a.op),.string a.path,.string a.to,.string a.text]] [] (λβ' v l=>∃Y',v=.tuple #[.agg ⟨rV ((mh Z af a).1) Y'⟩,vI (mh Z af a).2]/\l=[]/\dJ β' (mh Z af a).1 Y'):=by
 refine lW Tryz.func58 Tryz.ntmps58 (λaE R=>SR (jB 1 [3] (λb1=>.aD b1 (rV Z Y) 45) (λb1=>jB 1 [5] (λb2=>.aD b2 [vI (a.at_),vI (a.op),.string a.path,.string a.to,.string a.text] 133) (λb2=>jB 2 [6] (λb3=>.aD b3 (rZ) 45) (λb3=>NZ (jK 4 [16] [(1,a_ 2 b2)] (sP 16 ((a.op:Int)<(1:Int)) (λpz=>jK 4 [20] [] (NT (SR (jC 3 [7] [(0,A_ 1 b1 12),(1,A_ 3 b3 12)] [(3,(zC (rV Z Y)))] (eO [A_ 3 b3 12] aE ⟨Y,by rw [NE d5]<;>rfl,rfl,by rw [NE d5];exact hR⟩))))) (λpz=>jK 4 [20] [(1,a_ 2 b2)] (NN (cP ((a.op:Int)>(7:Int)) (λlZ=>SR (jC 3 [7] [(0,A_ 1 b1 12),(1,A_ 3 b3 12)] [(3,(zC (rV Z Y)))] (eO [A_ 3 b3 12] aE ⟨Y,by rw [NE d5]<;>rfl,rfl,by rw [NE d5];exact hR⟩))) (λlZ=>KX (SR (jK 3 [23,24] [(1,a_ 1 b1)] ?_)))))))))))))
 by_cases h1:0<=gU Z.ns af
 ·have hk1:=(mR h1).1
  refine gE [] ((yV Y.A Y.c Z.ns Y.L hR.n hC.fU (by have:=hC.ns;omega) af).val (zc (Value.int .i64) (mR h1).2.2)) (jK 1 [8] [] (NZ (jK 2 [27] [(1,wF (((((bZ Z.ns af):Nat):Int):Int)<(0:Int)))] (NF (KX (SQ (jK 8 [36] [(2,a_ 1 b1),(4,x_ (bZ Z.ns af) Z.ns.length (aN.hd hR.n (i:=(bZ Z.ns af)) d5)),(6,r_ (aN.rd hR.n (i:=(bZ Z.ns af)) d5 (j:=1) rfl))] (NN (cN (((nd Z.ns (bZ Z.ns af)).kind:Int)=(2:Int)) (λEa=>SR (jC 3 [7] [(0,A_ 1 b1 12),(1,A_ 3 b3 12)] [(3,(zC (rV Z Y)))] (eO [A_ 3 b3 12] aE ⟨Y,by rw [Tw d5 h1 Ea]<;>rfl,rfl,by rw [Tw d5 h1 Ea];exact hR⟩))) (λEa=>KX (SR (jK 4 [39,40,42] [(0,A_ 1 b1 12),(3,a_ 2 b2)] ?_))))))))))))
  rcases hw:mM Z (bZ Z.ns af) a.path with e|⟨d,name⟩
  ·have he:=QN hw
   exact gE [] ((GF Z Y hR hC (bZ Z.ns af) hk1 a.path hpa).val (zc Bb hw)) (jK 7 [9,10,11] [] (NZ (jK 2 [48] [] (NN (cN ((e:Int)=(0:Int)) (λh48=>SR (jC 4 [7] [(0,A_ 1 b1 12),(2,A_ 3 b3 12)] [(3,(zC (rV Z Y)))] (eO [A_ 3 b3 12] aE ⟨Y,by rw [YE d5 h1 Ea hw]<;>rfl,rfl,by rw [YE d5 h1 Ea hw];exact hR⟩))) (λh48=>KB (by simpa using h48) he))))))
  have hd:=Ts hk1 hw
  refine gE [] ((GF Z Y hR hC (bZ Z.ns af) hk1 a.path hpa).val (zc Bb hw)) (jK 7 [9,10,11] [] (NZ (jK 2 [48] [] (NF (KX (av.seq (av.pW (S:=[.aD b1 (rV Z Y) 45,.aD b2 [vI (a.at_),vI (a.op),.string a.path,.string a.to,.string a.text] 133]) (wo [0,2,3,4,5] (oJ 10 [(false,11),(false,12)] [(false,1),(false,6),(true,7),(true,8),(true,9)])) [1,2] (gT (oJ 10 [(false,11),(false,12)] [(false,1),(false,6),(true,7),(true,8),(true,9)]) [(3,vP b1),(6,vP b3),(52,.agg ⟨rV Z Y⟩),(54,vI ↑(bZ Z.ns af)),(55,vI ↑d),(56,.string name),(57,.agg #[vI (a.at_),vI (a.op),.string a.path,.string a.to,.string a.text])] [0,2,3,4,5] [(0,A_ 0 b1 12),(4,A_ 1 b2 5)] (lX.one (j:=10) (dj:=12) (R:=λf_ l_=>∃A2:Option Addr,∃c2:Nat,∃K:fq,∃G2:Option Addr,∃g2:Nat,∃Y2:RL,f_=[(60,vI ((fI Z (bZ Z.ns af) d name a).2)),(59,.agg ⟨rV ((fI Z (bZ Z.ns af) d name a).1) Y2⟩),(51,.tuple #[.agg ⟨rV ((fI Z (bZ Z.ns af) d name a).1) Y2⟩,vI ((fI Z (bZ Z.ns af) d name a).2)]),(58,.tuple #[.agg ⟨rV ((fI Z (bZ Z.ns af) d name a).1) Y2⟩,vI ((fI Z (bZ Z.ns af) d name a).2)]),(53,.agg ⟨rW Z A2 c2 G2 g2 Y.H Y.ch Y.V Y.cv⟩),(3,vP b1),(6,vP b3),(52,.agg ⟨rV Z Y⟩),(54,vI ↑(bZ Z.ns af)),(55,vI ↑d),(56,.string name),(57,.agg #[vI (a.at_),vI (a.op),.string a.path,.string a.to,.string a.text])]/\l_=[.abs (jL β (λβ'=>dJ β' (fI Z (bZ Z.ns af) d name a).1 Y2))]) [1,2] [(false,1,53),(false,6,58),(true,7,51),(true,8,59),(true,9,60)] (iJ.of (ι:=Nat) (v:=λ(b4:Nat)=>vP b4) (l:=λ(b4:Nat)=>[.aD b4 (rZ) 45]) [53,58,51,59,60] rfl rfl rfl rfl ?_) ?_ ?_)))))))))
  ·intro u Aq
   exact jB 1 [12] (λb4=>.aD b4 (rZ) 45) (λb4=>NL (MD b4 [12,53,58,51,59,60,3,6,52,54,55,56,57] [1,0]))
  ·refine ef.step (iJ.of (ι:=(Option Addr)×Nat×fq×(Option Addr)×Nat) (v:=λ((A2,c2,K,G2,g2):(Option Addr)×Nat×fq×(Option Addr)×Nat)=>.agg ⟨rW Z A2 c2 G2 g2 Y.H Y.ch Y.V Y.cv⟩) (l:=λ((A2,c2,K,G2,g2):(Option Addr)×Nat×fq×(Option Addr)×Nat)=>[.abs (jL β (C0 Z K)),.abs (aI 102 10 A2 Z.ns.length c2 (bS K Z.ns)),.abs (aI 3 1 G2 Z.aJ.length g2 (bL Z.aJ)),.abs (ld (mI Z.ns K) Z.ns.length)]) [12] rfl rfl rfl rfl ?_) ?_
   ·intro u Aq
    refine gL [] (Ho hR hC.toRB) ?_
    rintro _ _ ⟨A2,c2,K,G2,g2,rfl,rfl⟩
    exact NL (MD (A2,c2,K,G2,g2) [53,12,3,6,52,54,55,56,57] [0,1,2,3,4])
   rintro _ _ ⟨⟨A2,c2,K,G2,g2⟩,rfl,rfl⟩
   refine (ef.step (iJ.of (ι:=RL) (v:=λ(Y2:RL)=>.tuple #[.agg ⟨rV ((fI Z (bZ Z.ns af) d name a).1) Y2⟩,vI ((fI Z (bZ Z.ns af) d name a).2)]) (l:=λ(Y2:RL)=>[.abs (jL β (λβ'=>dJ β' (fI Z (bZ Z.ns af) d name a).1 Y2))]) [12] rfl rfl rfl rfl ?_) ?_)
   ·intro u Aq
    exact gX [0,1,2,3] (abq (A1:=A2) (c1:=c2) (K:=K) (G1:=G2) (g1:=g2) hR hC hD hk1 hd fw tZ (YC h1 Ea d name hw)) (λY2=>NL (MD Y2 [58,12,53,3,6,52,54,55,56,57] [0,1]))
   rintro _ _ ⟨Y2,rfl,rfl⟩
   exact (ef.read (.tuple #[.agg ⟨rV ((fI Z (bZ Z.ns af) d name a).1) Y2⟩,vI ((fI Z (bZ Z.ns af) d name a).2)]) (ef.read (.agg ⟨rV ((fI Z (bZ Z.ns af) d name a).1) Y2⟩) (ef.read (.int .i64 ((fI Z (bZ Z.ns af) d name a).2)) ⟨A2,c2,K,G2,g2,Y2,rfl,rfl⟩)))
  rintro _ _ ⟨A2,c2,K,G2,g2,Y2,rfl,rfl⟩ _ _ ⟨b4,rfl,rfl⟩
  refine kC [3,4] [] [(0,A_ 1 b4 12)] [(1,(zC (rV ((fI Z (bZ Z.ns af) d name a).1) Y2)))] (eH.last d6 (jK 1 [11] [] (NL (aF.np (NX (SQ (aB.tL 0 [1,2,3,4,5] (gj:=[.aD b4 (rV ((fI Z (bZ Z.ns af) d name a).1) Y2) 45,.abs R,.aD b1 (rV Z Y) 45,.aD b2 [vI (a.at_),vI (a.op),.string a.path,.string a.to,.string a.text] 133,.aD b3 (rZ) 45]) rfl rfl d6 (λAU fQ t7=>?_))))))))
  replace hR:=hR.le fQ
  replace aE:=aE.trans fQ
  exact jK 2 [62] [] (NN (cN (((fI Z (bZ Z.ns af) d name a).2:Int)=(0:Int)) (λD8=>SR (jC 4 [7] [(0,A_ 2 b1 12),(2,A_ 4 b3 12)] [(4,(zC (rV Z Y)))] (eO [A_ 4 b3 12] aE ⟨Y,by rw [acC d5 h1 Ea hw D8]<;>rfl,rfl,by rw [acC d5 h1 Ea hw D8];exact hR⟩ [1]))) (λD8=>KX (SR (jC 3 [7] [(0,A_ 0 b4 12),(1,A_ 4 b3 12)] [(4,(zC (rV ((fI Z (bZ Z.ns af) d name a).1) Y2)))] (eO [A_ 4 b3 12] aE ⟨Y2,by rw [acD d5 h1 Ea hw D8]<;>rfl,rfl,by rw [acD d5 h1 Ea hw D8];exact t7⟩ [1]))))))
 exact gE [] ((yV Y.A Y.c Z.ns Y.L hR.n hC.fU (by have:=hC.ns;omega) af).val (zc (Value.int .i64) (CI h1))) (jK 1 [8] [] (NZ (jK 2 [27] [] (NT (SR (jC 3 [7] [(0,A_ 1 b1 12),(1,A_ 3 b3 12)] [(3,(zC (rV Z Y)))] (eO [A_ 3 b3 12] aE ⟨Y,by rw [acB d5 h1]<;>rfl,rfl,by rw [acB d5 h1];exact hR⟩)))))))
end
section
open Go.RowKit Go.Maps bw aH
section g
variable {R:RS} {d k to f:Nat} {name aG:ByteArray} {n:aO} {c:aK} {b:Bool} {id:Int}
theorem adK {top:Nat} {a:cI} (h:GL R) (hn:R.ns.length<=4096):GL (fI R top d name a).1:=by
 grind [fI,Tk,Qx,Qy,Qz]
theorem afC {af:Int} {a:cI} (h:GL R) (hn:R.ns.length<=4096):GL (mh R af a).1:=by
 grind [mh,adK,GL]
end g
section p
variable {S S2:aZ} {g:List Int} {β:Bs} {Y:RL}
theorem Pair.agB (h:Pair S g) {af:Int} {a:cI} {d:Nat} {name:ByteArray} (h1:0<=gU (toR S g).ns af) (hk:(nd (toR S g).ns (bZ (toR S g).ns af)).kind=2) (hw:mM (toR S g) (bZ (toR S g).ns af) a.path=.ok (d,name)) (hm:(cG (toR S g) d name nF).2=0):RC (kz (toR S g) d name nF):=by
 have hr:=h.toRelR
 have hI:=hr.inv.toInv0
 have ha:gU (toR S g).ns af=_:=Qp hI af
 cases e:aH.get S.ax af with
 |none=>
   grind
 |some t=>
   rw [e] at ha
   replace ha:gU (toR S g).ns af=(bT S t:Int):=ha
   obtain⟨hl,_⟩:=IQ hI e
   have Eg:bZ (toR S g).ns af=bT S t:=by unfold bZ;rw [ha];exact aiH _
   have h2:t.kind=2:=by rw [Eg,qo hI hl] at hk;exact hk
   have ht:t=⟨t.k,2⟩:=by rw [←h2]
   have hl2:aS S.ax ⟨t.k,2⟩:=by rw [←ht];exact hl
   rw [Eg,ht,IW hr hl2] at hw
   rcases yw hr.inv hl2 a.path with ⟨e,h,he⟩|⟨d',name',h',hd,nB,hgn⟩
   ·rw [h] at hw;cases hw
   rw [h'] at hw
   cases hw
   rcases Cu (n:=nF) hr hd name (λq=>KB (show (1:Int)=3 from q.1) d8) with ⟨q1,q2⟩|⟨q1,q2⟩
   ·obtain⟨hA,hG⟩:=Lv (name:=name) (o:=dN S.X 1 420) (n:=nF) hr hd ⟨rfl,rfl,rfl,rfl,rfl⟩ ⟨rfl,rfl,rfl,rfl,rfl,rfl,rfl⟩
    have dz:bB (iw S d' name (dN S.X 1 420)):=hr.inv.Gn hd nB hgn q1 (.inl rfl) ⟨d8,d8⟩ (.inl ⟨d8,rfl⟩)
    rw [hA]
    exact acq ⟨dz,hG⟩ h.gl
   rw [q2] at hm;exact KB hm q1
theorem Pair.act (h:Pair S g) (af:Int) (a:cI):∃g',mh (toR S g) af a=(toR (cK S af a).2 g',(cK S af a).1)/\Pair (cK S af a).2 g':=by
 obtain⟨g',h1,h2⟩:=adG h.toRelR af a
 have h3:GL (toR S g):=h.gl
 have h4:=afC (af:=af) (a:=a) h3 (by have h5:=h.inv.toInv0.len;grind [toR,iM])
 rw [h1] at h4
 exact⟨g',h1,h2,h4⟩
theorem abr (h:Pair S g) (hR:dJ β (toR S g) Y) (af:Int) (a:cI) (hpa:a.path.size<=1048576) (fw:a.to.size<=1048576) (tZ:a.text.size<=1048576) :
 bK Tryz.prog β 58 #[.agg ⟨rV (toR S g) Y⟩,.int .i64 af,.agg #[.int .i64 a.at_,.int .i64 a.op,.string a.path,.string a.to,.string a.text]] [] (λβ' v l=>∃g' Y',v=.tuple #[.agg ⟨rV (toR (cK S af a).2 g') Y'⟩,.int .i64 (cK S af a).1]/\l=[]/\Pair (cK S af a).2 g'/\dJ β' (toR (cK S af a).2 g') Y'):=by
 obtain⟨g',h1,h2⟩:=h.act af a
 refine (adJ (toR S g) Y hR h.rc h.rd af a hpa fw tZ (λq1 q2 d name hw _ hm=>h.agB q1 q2 hw hm)).mono ?_
 grind
end p
structure UL where
 A:Option Addr
 a:Nat
 B:Option Addr
 b:Nat
def uV (Z:RS) (Y:RL) (af:Int) (U:UL) (nf na:Nat) (n:Int):List Value:=rV Z Y++[.int .i64 af,.slice U.A nf U.a,.slice U.B na U.b,.int .i64 n]
def uZ:List Value:=rZ++[.int .i64 0,.slice none 0 0,.slice none 0 0,.int .i64 0]
structure Bc (β:Bs) (U:UL) (fs:List ck) (xs:List cI):Prop where
 f:cq β U.A (cJ jv fs)
 x:cq β U.B (cJ kr xs)
theorem Bc.le {β β':Bs} {U:UL} {fs:List ck} {xs:List cI} (h:Bc β U fs xs) (g:β.le β'):Bc β' U fs xs:=⟨h.f.le g,h.x.le g⟩
section u
variable {S S2:aZ} {g:List Int} {fs:List ck} {xs:List cI} {af z k:Int} {j n:Nat} {c c2:aK} {A:Option Addr} {p:Nat}
theorem VB (h:j<xs.length) (e:(act xs j).at_=z):jh af S (dm (xs.take (j+1)) z)=(cK (jh af S (dm (xs.take j) z)) af (act xs j)).2:=by
 rw [DE h,xG,t8 e,JH]
theorem VD (h:j<xs.length) (e:¬(act xs j).at_=z):jh af S (dm (xs.take (j+1)) z)=jh af S (dm (xs.take j) z):=by
 rw [DE h,xG,nw e]
theorem D3 (h:j<fs.length) (h0:jb (fs.take j) z=0) (e:¬((pG fs j).at_=z/\FK (pG fs j))):jb (fs.take (j+1)) z=0:=by
 rw [wY h,tD,t8 h0,nw e]
theorem VE (h:jb fs z≠0) (gs:List ck):jb (fs++gs) z=jb fs z:=by
 induction fs with
 |nil=>exact KB rfl h
 |cons f r ih=>
   show (if f.at_=z/\FK f then f.kind else jb (r++gs) z)=(if f.at_=z/\FK f then f.kind else jb r z)
   split
   ·rfl
   rename_i e
   exact ih (λq=>h ((nw e).trans q))
theorem YF (h:j<fs.length) (h0:jb (fs.take j) z=0) (e:(pG fs j).at_=z/\FK (pG fs j)):jb fs z=(pG fs j).kind:=by
 have h1:jb (fs.take (j+1)) z=(pG fs j).kind:=by rw [wY h,tD,t8 h0,t8 e]
 have h2:jb (fs.take (j+1)) z≠0:=by have:=e.2.1;omega
 have h3:=VE h2 (fs.drop (j+1))
 rw [List.take_append_drop] at h3
 rw [h3,h1]
theorem YG (h:¬j<fs.length) (h0:jb (fs.take j) z=0):jb fs z=0:=by
 rwa [aiP d5] at h0
end u
section p
variable {S S2:aZ} {g:List Int} {β:Bs} {Y:RL} {c c2:aK}
theorem abt (h:Pair S g) (hR:dJ β (toR S g) Y) (af:Int) (a:cI) (hpa:a.path.size<=1048576) (fw:a.to.size<=1048576) (tZ:a.text.size<=1048576) :
 aU Tryz.prog β 58 #[.agg ⟨rV (toR S g) Y⟩,.int .i64 af,.agg #[.int .i64 a.at_,.int .i64 a.op,.string a.path,.string a.to,.string a.text]] [] (λv l=>∃g' Y',v=.tuple #[.agg ⟨rV (toR (cK S af a).2 g') Y'⟩,.int .i64 (cK S af a).1]/\l=[.abs (jL β (λβ'=>Pair (cK S af a).2 g'/\dJ β' (toR (cK S af a).2 g') Y'))]):=
 (bK.G0 (ι:=List Int×RL) (vv:=λx=>.tuple #[.agg ⟨rV (toR (cK S af a).2 x.1) x.2⟩,.int .i64 (cK S af a).1]) (ll:=λ_=>[]) (Φ:=λx β'=>Pair (cK S af a).2 x.1/\dJ β' (toR (cK S af a).2 x.1) x.2)
  ((abr h hR af a hpa fw tZ).mono (by rintro β' v l _ ⟨g',Y',rfl,rfl,h1,h2⟩;exact⟨(g',Y'),rfl,rfl,h1,h2⟩))).mono (by rintro v l ⟨⟨g',Y'⟩,rfl,rfl⟩;exact⟨g',Y',rfl,rfl⟩)
theorem LD {xs:List cI} {j:Nat} (h:j<xs.length):act xs j∈xs:=by
 unfold act
 rw [aiw,T6 h]
 exact List.getElem_mem h
variable {af e k:Int} {A:Option Addr}
theorem VF:(cr af c).name=c.name:=by unfold cr;split<;>rfl
theorem abu:(cr af c).dA=c.dA:=by unfold cr;split<;>rfl
theorem abv:(cr af c).dC=c.dC:=by unfold cr;split<;>rfl
theorem abw {d:List UInt8} (h:c.data=d):({c with data:=d}:aK)=c:=by subst h;rfl
theorem VG (h:fF S c=(S2,c2)):c2.data=c.data:=by
 have h1:=O9 (S:=S) (c:=c)
 rwa [h] at h1
theorem oe.rowAt {β':Bs} {R:List HP} {T:TypeId} {s n cp:Nat} {xs:List Value} (h:oe β R β') (i:Nat) (hp:R[i]?=some (.abs (aI T s A n cp xs))):cq β' A xs:=by
 obtain⟨F,h1,h2⟩:=h.get i hp
 exact cq.gZ h1 h2 rfl
end p
end
section
open Go.RowKit Go.Maps bw aH
attribute [local irreducible] aB bJ av aF eH lX
noncomputable abbrev yR1 (c:aK) (B) (p) (e):=([(0,vI (c.op)),(1,vI (c.bA)),(3,.string c.name),(4,.string c.text),(5,.slice B (c.data.length) (p)),(11,vI (e))]:Fr)
theorem YH {β:Bs} (Z:RS) (Y:RL) (af:Int) (U:UL) (fs:List ck) (na k:Nat) (hk:k<=8388600) (hF:cq β U.A (cJ jv fs)) (hfl:fs.length<=2097152) {kf:Int} (BF:jb fs ((k+1:Nat):Int)=kf) :
 aU Tryz.prog β 33 #[.agg ⟨uV Z Y af U fs.length na ((k:Nat):Int)⟩] [] (λv l=>v=vI kf/\l=[]):=by
 subst BF
 refine SE Tryz.func33 Tryz.ntmps33 (λR=>SR (jB 2 [1] (λb1=>.aD b1 (uV Z Y af U fs.length na (↑k)) 47) (λb1=>NZ (jK 1 [3] [] (NN (av.block (lJ (ι:=Nat) (λ(j:Nat)=>(j<=fs.length)/\(jb (fs.take j) ((k+1:Nat):Int)=0)) (λ(j:Nat)=>fs.length-j) (λ(j:Nat)=>[(1,vP b1),(3,vI ↑j)]) (λ(j:Nat)=>[.abs R,.aD b1 (uV Z Y af U fs.length na (↑k)) 47]) 0 [0,1] (⟨L4 _,rfl⟩) ?_)))))))
 rintro j ⟨hj,h0⟩
 exact SQ (jK 6 [10] [(3,a_ 1 b1)] (NN (cP ((((j:Nat):Int):Int)<(((fs.length:Nat):Int):Int)) (λh10=>KX (av.seq (av.block (SR (jN 8 [4] (λb2=>[(2,a_ 1 b1),(4,x_ j fs.length (abT hF (i:=j) d5)),(5,r2 (Nx hF (i:=j) d5 (j:=0) rfl) (Nx hF (i:=j) d5 (j:=1) rfl)),(7,A_ 2 b2 2)]) (λ_=>[]) (λb2=>.aD b2 [vI ((pG fs j).at_),vI ((pG fs j).kind)] 136) (λb2=>NS (jK 7 [25] [(1,a_ 2 b2),(3,a_ 1 b1),(4,wJ ((k:Int)+1) (↑(k+1)))] (sP 25 (((pG fs j).at_:Int)=(((k+1:Nat):Int):Int)) (λqJ=>jK 5 [30] [(1,a_ 2 b2)] (sP 30 (((pG fs j).kind:Int)>=(1:Int)) (λrF=>jK 4 [34] [(1,a_ 2 b2)] (NN (cP (((pG fs j).kind:Int)<=(3:Int)) (λxU=>SR (jK 3 [2] [(1,a_ 2 b2)] (eN (v:=(vI ((pG fs j).kind))) ⟨zc (Value.int .i64) (YF d5 h0 ⟨d5,d5,d5⟩).symm,rfl⟩))) (λxU=>KX (av.region (jK 3 [3] [(1,wJ ((j:Int)+1) (↑(j+1)))] (NL (tJ ((j+1)) [0,1] (⟨d5,D3 d5 h0 (by unfold FK;omega)⟩))))))))) (λrF=>jK 4 [34] [] (NF (KX (av.region (jK 3 [3] [(1,wJ ((j:Int)+1) (↑(j+1)))] (NL (tJ ((j+1)) [0,1] (⟨d5,D3 d5 h0 (by unfold FK;omega)⟩)))))))))) (λqJ=>jK 9 [34] [] (NF (KX (av.region (jK 3 [3] [(1,wJ ((j:Int)+1) (↑(j+1)))] (NL (tJ ((j+1)) [0,1] (⟨d5,D3 d5 h0 (by unfold FK;omega)⟩)))))))))))))))) (λh10=>XX (zR (v:=(vI 0)) ⟨zc (Value.int .i64) (YG d5 h0).symm,rfl⟩)))))
theorem Cw {β:Bs} (c:aK) (hb:bO β c.dA c.data) (hl:c.data.length<=140737488355328) (e:Int) :
 aU Tryz.prog β 35 #[.agg ⟨aW c⟩,vI (e)] [] (λv l=>∃B p,v=.agg ⟨aW (iz (iI c e) B p)⟩/\l=[.abs (aI 5 1 B c.data.length p (d9 c.data))]):=by
 refine SE Tryz.func35 Tryz.ntmps35 (λR=>SR (jB 1 [2] (λb3=>.aD b3 (aW c) 63) (λb3=>jB 1 [4] (λb4=>.aD b4 [vI 0,vI 0,vI 0,.string ⟨#[]⟩,.string ⟨#[]⟩,.slice none (0) (0),vI 0,vI 0,vI 0,vI 0,vI 0,vI 0,vI 0] 63) (λb4=>NS (jK 2 [6] [(1,a_ 1 b3)] (gL [] (um c.dA c.dC c.data hb hl) ?_))))))
 rintro _ _ ⟨B,p,rfl,rfl⟩
 exact jC 2 [] [(1,a_ 2 b3)] [(2,[(5,.slice B (c.data.length) (p))])] (NS (jC 2 [] [(1,a_ 2 b3)] [(2,[(12,vI 0)])] (NS (jC 3 [] [(2,a_ 2 b3)] [(2,[(11,vI (e))])] (NZ (jK 4 [15] [(1,a_ 2 b3)] (sP 15 ((c.op:Int)=(11:Int)) (λR6=>jK 4 [19] [] (NT (SR (jC 8 [] [(1,a_ 2 b3),(3,a_ 2 b3),(5,a_ 2 b3),(7,a_ 2 b3)] [(2,[(2,vI 0),(6,vI 0),(7,vI 0),(8,vI 0)])] (NN (av.region (jC 3 [] [(2,A_ 2 b3 2)] [(2,[(9,vI 0),(10,vI 0)])] (NS (jC 2 [] [(0,A_ 2 b3 13),(1,A_ 3 b4 13)] [(3,(yR1 c B p e))] (eS (v:=(.agg ⟨aW (iz {c with other:=0,mode:=0,cM:=0,cO:=0,bH:=0,bh:=0,code:=e,answer:=0} B p)⟩)) [A_ 3 b4 13] ⟨B,p,zc (λx=>Value.agg ⟨aW x⟩) (show _=iz (iI c e) B p by unfold iI;rw [t8 d5]<;>rfl),rfl⟩)))))))))) (λR6=>jK 4 [19] [(1,a_ 2 b3)] (NN (cP ((c.op:Int)=(12:Int)) (λGS=>SR (jC 8 [] [(1,a_ 2 b3),(3,a_ 2 b3),(5,a_ 2 b3),(7,a_ 2 b3)] [(2,[(2,vI 0),(6,vI 0),(7,vI 0),(8,vI 0)])] (NN (av.region (jC 3 [] [(2,A_ 2 b3 2)] [(2,[(9,vI 0),(10,vI 0)])] (NS (jC 2 [] [(0,A_ 2 b3 13),(1,A_ 3 b4 13)] [(3,(yR1 c B p e))] (eS (v:=(.agg ⟨aW (iz {c with other:=0,mode:=0,cM:=0,cO:=0,bH:=0,bh:=0,code:=e,answer:=0} B p)⟩)) [A_ 3 b4 13] ⟨B,p,zc (λx=>Value.agg ⟨aW x⟩) (show _=iz (iI c e) B p by unfold iI;rw [t8 d5]<;>rfl),rfl⟩)))))))) (λGS=>KX (SR (jC 2 [] [(0,A_ 2 b3 13),(1,A_ 3 b4 13)] [(3,[(0,vI (c.op)),(1,vI (c.bA)),(2,vI (c.other)),(3,.string c.name),(4,.string c.text),(5,.slice B (c.data.length) (p)),(6,vI (c.mode)),(7,vI (c.cM)),(8,vI (c.cO)),(9,vI (c.bH)),(10,vI (c.bh)),(11,vI (e))])] (eS (v:=(.agg ⟨aW (iz {c with code:=e,answer:=0} B p)⟩)) [A_ 3 b4 13] ⟨B,p,zc (λx=>Value.agg ⟨aW x⟩) (show _=iz (iI c e) B p by unfold iI;rw [nw d5]<;>rfl),rfl⟩))))))))))))))
theorem YI {β:Bs} {S:aZ} {g:List Int} (hp:Pair S g) (Y:RL) (hR:dJ β (toR S g) Y) (af:Int) (U:UL) (nf:Nat) (xs:List cI) (k:Nat) (hk:k<=8388600) (hA:cq β U.B (cJ kr xs)) (hX:fS xs 1048576) {SW:aZ} (hSW:jh af S (dm xs ((k+1:Nat):Int))=SW) :
 bK Tryz.prog β 32 #[.agg ⟨uV (toR S g) Y af U nf xs.length ((k:Nat):Int)⟩] [] (λβ' v l=>∃g' Y',v=.agg ⟨uV (toR SW g') Y' af U nf xs.length ((k:Nat):Int)⟩/\l=[]/\Pair SW g'/\dJ β' (toR SW g') Y'):=by
 subst hSW
 have hxl:=hX.len
 refine lW Tryz.func32 Tryz.ntmps32 (λaE R=>SR (jB 1 [1] (λb5=>.aD b5 (uV (toR S g) Y af U nf xs.length (↑k)) 47) (λb5=>jB 1 [2] (λb6=>.aD b6 (uZ) 47) (λb6=>NZ (jK 1 [3] [] (NN (av.block (lB (ι:=Nat×Bs×aZ×(List Int)×RL) (λ(j,b,S2,g2,Y2)=>b) (λ(j,b,S2,g2,Y2)=>(j<=xs.length)/\(β.le b)/\(cq b U.B (cJ kr xs))/\(Pair S2 g2)/\(dJ b (toR S2 g2) Y2)/\(S2=jh af S (dm (xs.take j) ((k+1:Nat):Int)))) (λ(j,b,S2,g2,Y2)=>xs.length-j) (λ(j,b,S2,g2,Y2)=>[(1,vP b5),(2,vP b6),(3,vI ↑j)]) (λ(j,b,S2,g2,Y2)=>[.aD b5 (uV (toR S2 g2) Y2 af U nf xs.length (↑k)) 47,.aD b6 (uZ) 47,.abs R]) (0,β,S,g,Y) [1,2,0] (⟨L4 _,aE,hA,hp,hR,rfl⟩) ?_))))))))
 rintro⟨j,b,S2,g2,Y2⟩ ⟨hj,aE,hA,hp,hR,hS⟩
 refine SQ (jK 6 [11] [(3,a_ 0 b5)] (NN (cP ((((j:Nat):Int):Int)<(((xs.length:Nat):Int):Int)) (λh11=>KX (av.seq (av.block (av.seq (rQ (jQ 11 [24] [(2,a_ 0 b5),(4,x_ j xs.length (Nw hA (i:=j) d5)),(6,r_ (qF hA (i:=j) d5 (j:=0) rfl)),(8,a_ 0 b5),(9,wJ ((k:Int)+1) (↑(k+1)))] (NQ (NX (cP (((act xs j).at_:Int)=(((k+1:Nat):Int):Int)) (λq6=>av.seq (av.pW (S:=[.aD b5 (uV (toR S2 g2) Y2 af U nf xs.length (↑k)) 47,.aD b6 (uZ) 47]) (wo [0,1,2,3,4,5,6,7,8,9] (oJ 14 [(false,15),(false,16)] [(false,10),(true,11),(true,12),(true,13)])) [0,1] (gT (oJ 14 [(false,15),(false,16)] [(false,10),(true,11),(true,12),(true,13)]) [(1,vP b5),(2,vP b6),(3,vI ↑j),(27,.agg ⟨rV (toR S2 g2) Y2⟩),(29,vI (af)),(35,.agg #[vI ((act xs j).at_),vI ((act xs j).op),.string (act xs j).path,.string (act xs j).to,.string (act xs j).text])] [0,1,2,3,4,5,6,7,8,9] [(1,A_ 0 b5 12),(3,a_ 0 b5),(6,a_ 0 b5),(8,x_ j xs.length (Nw hA (i:=j) d5)),(9,p_ ⟨[.old (.int .i64 ((act xs j).at_)),.old (.int .i64 ((act xs j).op)),.old (.string (act xs j).path),.old (.string (act xs j).to),.old (.string (act xs j).text)],none,none,none,none⟩ [(Rd b ⟨(bG U.B),bE U.B+j*5+4,none⟩ (.string (act xs j).text)),(Rd b ⟨(bG U.B),bE U.B+j*5+3,none⟩ (.string (act xs j).to)),(Rd b ⟨(bG U.B),bE U.B+j*5+2,none⟩ (.string (act xs j).path)),(Rd b ⟨(bG U.B),bE U.B+j*5+1,none⟩ (vI ((act xs j).op))),(Rd b ⟨(bG U.B),bE U.B+j*5,none⟩ (vI ((act xs j).at_)))] ⟨qF hA (i:=j) d5 (j:=4) rfl,qF hA (i:=j) d5 (j:=3) rfl,qF hA (i:=j) d5 (j:=2) rfl,qF hA (i:=j) d5 (j:=1) rfl,qF hA (i:=j) d5 (j:=0) rfl,trivial⟩)] (lX.one (j:=14) (dj:=4) (R:=λf_ l_=>∃g3:List Int,∃Y3:RL,f_=[(38,vI ((cK S2 af (act xs j)).1)),(37,.agg ⟨rV (toR (cK S2 af (act xs j)).2 g3) Y3⟩),(25,.tuple #[.agg ⟨rV (toR (cK S2 af (act xs j)).2 g3) Y3⟩,vI ((cK S2 af (act xs j)).1)]),(36,.tuple #[.agg ⟨rV (toR (cK S2 af (act xs j)).2 g3) Y3⟩,vI ((cK S2 af (act xs j)).1)]),(1,vP b5),(2,vP b6),(3,vI ↑j),(27,.agg ⟨rV (toR S2 g2) Y2⟩),(29,vI (af)),(35,.agg #[vI ((act xs j).at_),vI ((act xs j).op),.string (act xs j).path,.string (act xs j).to,.string (act xs j).text])]/\l_=[.abs (jL b (λβ'=>Pair (cK S2 af (act xs j)).2 g3/\dJ β' (toR (cK S2 af (act xs j)).2 g3) Y3))]) [0,1] [(false,10,36),(true,11,25),(true,12,37),(true,13,38)] (iJ.of (ι:=Nat) (v:=λ(b7:Nat)=>vP b7) (l:=λ(b7:Nat)=>[.aD b7 (rZ) 45]) [36,25,37,38] rfl rfl rfl rfl ?_) ?_ ?_)))) (λq6=>KX (av.region (jK 3 [3] [(1,wJ ((j:Int)+1) (↑(j+1)))] (NL (tB ((j+1),b,S2,g2,Y2) [0,1,2] (⟨d5,aE,hA,hp,hR,by rw [hS,VD d5 d5]⟩))))))))))))))) (λh11=>XX (SR (jC 2 [] [(0,A_ 0 b5 16),(1,A_ 1 b6 16)] [(1,(zC (uV (toR S2 g2) Y2 af U nf xs.length (↑k))))] (eO (v:=(.agg ⟨uV (toR S2 g2) Y2 af U nf xs.length (↑k)⟩)) [A_ 1 b6 16] aE (by rw [aiP (show xs.length<=j by omega)] at hS;subst hS;exact⟨g2,Y2,rfl,rfl,hp,hR⟩) [2])))))))
 ·intro u Aq
  exact jB 1 [4] (λb7=>.aD b7 (rZ) 45) (λb7=>NL (MD b7 [4,36,25,37,38,1,2,3,27,29,35] [1,0]))
 ·refine ef.step (iJ.of (ι:=(List Int)×RL) (v:=λ((g3,Y3):(List Int)×RL)=>.tuple #[.agg ⟨rV (toR (cK S2 af (act xs j)).2 g3) Y3⟩,vI ((cK S2 af (act xs j)).1)]) (l:=λ((g3,Y3):(List Int)×RL)=>[.abs (jL b (λβ'=>Pair (cK S2 af (act xs j)).2 g3/\dJ β' (toR (cK S2 af (act xs j)).2 g3) Y3))]) [4] rfl rfl rfl rfl ?_) ?_
  ·intro u Aq
   refine gL [] (abt hp hR af (act xs j) (hX.q _ (LD (show j<xs.length by omega))).path (hX.q _ (LD (show j<xs.length by omega))).to (hX.q _ (LD (show j<xs.length by omega))).text) ?_
   rintro _ _ ⟨g3,Y3,rfl,rfl⟩
   exact NL (MD (g3,Y3) [36,4,1,2,3,27,29,35] [0,1])
  rintro _ _ ⟨⟨g3,Y3⟩,rfl,rfl⟩
  exact ef.read (.tuple #[.agg ⟨rV (toR (cK S2 af (act xs j)).2 g3) Y3⟩,vI ((cK S2 af (act xs j)).1)]) (ef.read (.agg ⟨rV (toR (cK S2 af (act xs j)).2 g3) Y3⟩) (ef.read (.int .i64 ((cK S2 af (act xs j)).1)) ⟨g3,Y3,rfl,rfl⟩))
 rintro _ _ ⟨g3,Y3,rfl,rfl⟩ _ _ ⟨b7,rfl,rfl⟩
 refine kC [2,3] [] [(0,A_ 1 b7 12)] [(1,(zC (rV (toR (cK S2 af (act xs j)).2 g3) Y3)))] (eH.last d6 (jK 1 [] [] (NL (aF.np (NX (av.region (aB.tL 0 [1,2,3,4] (gj:=[.aD b7 (rV (toR (cK S2 af (act xs j)).2 g3) Y3) 45,.aD b5 (uV (toR S2 g2) Y2 af U nf xs.length (↑k)) 47,.aD b6 (uZ) 47,.abs R]) rfl rfl d6 (λC3 iX ⟨hp3,nQ⟩=>?_))))))))
 replace hA:=hA.le iX
 replace aE:=aE.trans iX
 exact jC 3 [] [(0,A_ 0 b7 12),(2,A_ 1 b5 12)] [(1,(zC (rV (toR (cK S2 af (act xs j)).2 g3) Y3)))] (LX (av.region (jK 3 [3] [(1,wJ ((j:Int)+1) (↑(j+1)))] (NL (tB ((j+1),C3,(cK S2 af (act xs j)).2,g3,Y3) [1,2,3] (⟨d5,aE,hA,hp3,nQ,by rw [hS,VB d5 d5]⟩))))))
end
section
open Go.RowKit Go.Maps bw aH
attribute [local irreducible] aB bJ av aF cC
noncomputable abbrev yS1 (b4:Nat):=(.aD b4 [vI 0,vI 0,vI 0,.string ⟨#[]⟩,.string ⟨#[]⟩,.slice none (0) (0),vI 0,vI 0,vI 0,vI 0,vI 0,vI 0,vI 0] 63:HP)
noncomputable abbrev yS2 (B3)(af)(c)(p3):=(.abs (aI 5 1 B3 ((cr af c).data.length) p3 (d9 (cr af c).data)):HP)
noncomputable abbrev yS3 (cx:aK) (B3) (af) (c) (p3):=([(0,vI (cx.op)),(1,vI (cx.bA)),(2,vI (cx.other)),(3,.string cx.name),(4,.string cx.text),(5,.slice B3 ((cr af c).data.length) (p3)),(6,vI (cx.mode)),(7,vI (cx.cM)),(8,vI (cx.cO)),(9,vI (cx.bH)),(10,vI (cx.bh)),(11,vI (cx.code)),(12,vI (cx.answer))]:Fr)
noncomputable abbrev yS4 (b1:Nat) (b2:Nat) (b3:Nat) (b4:Nat):=([(2,vP b1),(3,vP b2),(4,vP b3),(5,vP b4)]:Fr)
theorem xA {β:Bs} {S S2:aZ} {g:List Int} {c c2:aK} (hp:Pair S g) (Y:RL) (hR:dJ β (toR S g) Y) (af:Int) (U:UL) (fs:List ck) (xs:List cI) (k:Nat) (hk:k<=8388600) (hF:cq β U.A (cJ jv fs)) (hfl:fs.length<=2097152) (hA:cq β U.B (cJ kr xs)) (hX:fS xs 1048576) (hD:bq fs xs af (k+1) S c=(S2,c2)) (wK:mE c.op) (hn:c.name.size<=1048576) (hb:bO β c.dA c.data) (hl:c.data.length<=140737488355328) (hc:c.data.length<=c.dC) :
 bK Tryz.prog β 9 #[.agg ⟨uV (toR S g) Y af U fs.length xs.length ((k:Nat):Int)⟩,.agg ⟨aW c⟩] [] (λβ' v l=>∃g' Y' B p,v=.tuple #[.agg ⟨uV (toR S2 g') Y' af U fs.length xs.length (((k+1):Nat):Int)⟩,.agg ⟨aW (iz c2 B p)⟩]/\l=[]/\Pair S2 g'/\dJ β' (toR S2 g') Y'/\bO β' B c2.data):=by
 have hwn:(cr af c).name.size<=1048576:=by rw [VF];exact hn
 have yM:bO β (cr af c).dA (cr af c).data:=by rw [abu,vQ];exact hb
 have hwl:(cr af c).data.length<=140737488355328:=by rw [vQ];exact hl
 have hwc:(cr af c).data.length<=(cr af c).dC:=by rw [vQ,abv];exact hc
 have abx:mE (cr af c).op:=by rw [show (cr af c).op=c.op from by unfold cr;split<;>rfl];exact wK
 obtain⟨SW,hSW⟩:∃q,jh af S (dm xs ((k+1:Nat):Int))=q:=⟨_,rfl⟩
 obtain⟨kf,BF⟩:∃q,jb fs ((k+1:Nat):Int)=q:=⟨_,rfl⟩
 replace hD:dY kf SW (cr af c)=(S2,c2):=by rw [←BF,←hSW];exact hD
 refine lW Tryz.func9 Tryz.ntmps9 (λaE R=>SR (jB 1 [2] (λb1=>.aD b1 (uV (toR S g) Y af U fs.length xs.length (↑k)) 47) (λb1=>jB 1 [3] (λb2=>.aD b2 (aW c) 63) (λb2=>jB 1 [4] (λb3=>.aD b3 (uZ) 47) (λb3=>jB 1 [5] (λb4=>.aD b4 [vI 0,vI 0,vI 0,.string ⟨#[]⟩,.string ⟨#[]⟩,.slice none (0) (0),vI 0,vI 0,vI 0,vI 0,vI 0,vI 0,vI 0] 63) (λb4=>NS (jK 1 [12] [(0,A_ 1 b1 16)] (ia [] (YI hp Y hR af U fs.length xs k hk hA hX hSW) ?_))))))))
 rintro AU _ _ fQ ⟨g1,Y1,rfl,rfl,hp1,wH⟩
 replace hF:=hF.le fQ
 replace yM:=yM.le fQ
 replace aE:=aE.trans fQ
 refine jC 1 [] [(0,A_ 1 b1 16)] [(1,(zC (rV (toR SW g1) Y1)))] (NS (jK 1 [14] [(0,A_ 1 b1 16)] (gE [] (YH (toR SW g1) Y1 af U fs xs.length k hk hF hfl BF) (jK 1 [6] [] (NS (jC 5 [] [(1,a_ 1 b1),(2,wJ ((k:Int)+1) (↑(k+1))),(4,a_ 1 b1)] [(1,[(15,vI ↑(k+1))])] (NN (av.join (ι:=Unit) (λ(u:Unit)=>True) (λ(u:Unit)=>(yS4 b1 b2 b3 b4++[(6,vI (kf))])) (λ(u:Unit)=>[.abs R,.aD b1 (uV (toR SW g1) Y1 af U fs.length xs.length (↑(k+1))) 47,pC b2 (cr af c),.aD b3 (uZ) 47,yS1 b4]) ?_ (SR (jK 3 [22] [(1,a_ 2 b2)] (NN (cP ((c.op:Int)=(1:Int)) (λtH=>av.region (jC 4 [] [(1,a_ 1 b1),(3,a_ 2 b2)] [(2,[(2,vI (af))])] (NL (aF.jq [(2,.aD b2 (aW (cr af c)) 63)] (λw hS=>by rw [show (cr af c)={c with other:=af} from t8 tH];exact hS) (mJ () [0,1,2,3,4] (trivial)))))) (λtH=>av.skip (aF.jq [(2,.aD b2 (aW (cr af c)) 63)] (λw hS=>by rw [show (cr af c)=c from nw tH];exact hS) (mJ () [0,1,2,3,4] (trivial))))))))))))))))
 rintro u _
 refine SQ (jK 2 [27] [] (NN (cP ((kf:Int)=(1:Int)) (λyN=>?_) (λyN=>?_))))
 ·refine SQ (jK 3 [30] [(1,a_ 2 b2)] (NN (cP (((cr af c).op:Int)=(13:Int)) (λrF=>?_) (λrF=>?_))))
  ·refine SR (jK 3 [33,34] [(1,A_ 1 b1 12),(2,A_ 2 b2 13)] ?_)
   obtain⟨Sx,cx,Tx⟩:∃S2 c2,fF SW (cr af c)=(S2,c2):=⟨_,_,rfl⟩
   refine ia [] (M0 hp1 wH Tx abx hwn yM hwl hwc) ?_
   rintro Fx _ _ lN ⟨g2,Y2,B2,p2,rfl,rfl,hp2,t7,hB2⟩
   replace yM:=yM.le lN
   replace aE:=aE.trans lN
   refine jB 4 [7,36,37] (λb7=>.aD b7 (rZ) 45) (λb7=>jN 3 [] (λb8=>[(1,A_ 5 b7 12),(2,A_ 6 b8 13)]) (λb8=>[(5,(zC (rV (toR Sx g2) Y2)))]) (λb8=>.aD b8 (aW (iz cx B2 p2)) 63) (λb8=>NN (av.region (jC 3 [] [(0,A_ 5 b7 12),(2,A_ 1 b1 12)] [(1,(zC (rV (toR Sx g2) Y2)))] (NN (av.seq (rM (List.range 5) 2 [1,2] (jR 2 [4,5,40,41] [(0,A_ 0 b1 16),(1,A_ 1 b2 13)] (mL [2,3] [] (Cw (cr af c) yM hwl 180) ?_ (by rintro _ _ ⟨B3,p3,rfl,rfl⟩;rfl))))))))))
   rintro _ _ ⟨B3,p3,rfl,rfl⟩
   refine nC [2,3] [] [(0,A_ 4 b3 16)] [(4,(zC (uV (toR Sx g2) Y2 af U fs.length xs.length (↑(k+1)))))] (cC.last rfl rfl (jC 1 [] [(0,A_ 5 b4 13)] [(5,(zC (aW (iz (iI (cr af c) 180) B3 p3))))] (NL (aF.np (NX (av.ret (aF.br (aF.eP [0] [yS2 B3 af c p3] (λCe eF hL=>?_)))))))))
   have QO:=hL.bytes
   replace t7:=t7.le eF
   replace aE:=aE.trans eF
   have D7:((Sx,iI (cr af c) 180):aZ×aK)=(S2,c2):=(show dY kf SW (cr af c)=_ from by unfold dY;rw [t8 yN,t8 rF,Tx]).symm.trans hD
   exact rB (.tuple #[.agg ⟨uV (toR Sx g2) Y2 af U fs.length xs.length (↑(k+1))⟩,.agg ⟨aW (iz (iI (cr af c) 180) B3 p3)⟩]) [A_ 3 b3 16,A_ 4 b4 13] [0] aE (by cases D7;exact⟨g2,Y2,B3,p3,rfl,rfl,hp2,t7,by rw [vO];exact QO⟩)
  refine KX (av.seq (rM (List.range 5) 2 [1,2] (jR 2 [4,5,40,41] [(0,A_ 0 b1 16),(1,A_ 1 b2 13)] (mL [2,3] [] (Cw (cr af c) yM hwl 180) ?_ (by rintro _ _ ⟨B3,p3,rfl,rfl⟩;rfl)))))
  rintro _ _ ⟨B3,p3,rfl,rfl⟩
  refine nC [2,3] [] [(0,A_ 4 b3 16)] [(4,(zC (uV (toR SW g1) Y1 af U fs.length xs.length (↑(k+1)))))] (cC.last rfl rfl (jC 1 [] [(0,A_ 5 b4 13)] [(5,(zC (aW (iz (iI (cr af c) 180) B3 p3))))] (NL (aF.np (NX (av.ret (aF.br (aF.eP [0] [yS2 B3 af c p3] (λLg iH hL=>?_)))))))))
  have QO:=hL.bytes
  replace wH:=wH.le iH
  replace aE:=aE.trans iH
  have D7:((SW,iI (cr af c) 180):aZ×aK)=(S2,c2):=(show dY kf SW (cr af c)=_ from by unfold dY;rw [t8 yN,nw rF]).symm.trans hD
  exact rB (.tuple #[.agg ⟨uV (toR SW g1) Y1 af U fs.length xs.length (↑(k+1))⟩,.agg ⟨aW (iz (iI (cr af c) 180) B3 p3)⟩]) [A_ 3 b3 16,A_ 4 b4 13] [0] aE (by cases D7;exact⟨g1,Y1,B3,p3,rfl,rfl,hp1,wH,by rw [vO];exact QO⟩)
 refine KX (av.seq (av.join (ι:=Bool) (λ(Ty:Bool)=>(Ty=decide (kf=2/\((cr af c).op=4\/(cr af c).op=5\/(cr af c).op=6\/(cr af c).op=7\/(cr af c).op=9)))) (λ(Ty:Bool)=>(yS4 b1 b2 b3 b4++[(6,vI (kf)),(59,.bool Ty)])) (λ(Ty:Bool)=>[.abs R,.aD b1 (uV (toR SW g1) Y1 af U fs.length xs.length (↑(k+1))) 47,pC b2 (cr af c),.aD b3 (uZ) 47,yS1 b4]) ?_ (av.region (jK 3 [45] [] (sP 45 ((kf:Int)=(2:Int)) (λvH=>jK 4 [49] [(1,a_ 2 b2)] (sP 49 (((cr af c).op:Int)>=(4:Int)) (λh49=>jK 5 [54] [(1,a_ 2 b2)] (sP 54 (((cr af c).op:Int)<=(7:Int)) (λFu=>jK 5 [59] [] (NL (mJ true [0,1,2,3,4] ((aio d5).symm)))) (λFu=>jK 5 [59] [(1,a_ 2 b2)] (NL (mJ ((decide (((cr af c).op:Int)=(9:Int)))) [0,1,2,3,4] ((aii.2 ⟨λh=>d5,λh=>d5⟩))))))) (λh49=>jK 10 [59] [(6,a_ 2 b2)] (NL (mJ ((decide (((cr af c).op:Int)=(9:Int)))) [0,1,2,3,4] ((aii.2 ⟨λh=>d5,λh=>d5⟩))))))) (λvH=>jK 14 [59] [] (NL (mJ false [0,1,2,3,4] ((Lk d5).symm)))))))))
 rintro Ty hq1
 refine av.cond (b:=Ty) (λ_=>d6) (λxV=>?_) (λxV=>?_)
 ·refine av.seq (rM (List.range 5) 2 [1,2] (jR 2 [4,5,60,61] [(0,A_ 0 b1 16),(1,A_ 1 b2 13)] (mL [2,3] [] (Cw (cr af c) yM hwl 176) ?_ (by rintro _ _ ⟨B3,p3,rfl,rfl⟩;rfl))))
  rintro _ _ ⟨B3,p3,rfl,rfl⟩
  refine nC [2,3] [] [(0,A_ 4 b3 16)] [(4,(zC (uV (toR SW g1) Y1 af U fs.length xs.length (↑(k+1)))))] (cC.last rfl rfl (jC 1 [] [(0,A_ 5 b4 13)] [(5,(zC (aW (iz (iI (cr af c) 176) B3 p3))))] (NL (aF.np (NX (av.ret (aF.br (aF.eP [0] [yS2 B3 af c p3] (λLp oI hL=>?_)))))))))
  have QO:=hL.bytes
  replace wH:=wH.le oI
  replace aE:=aE.trans oI
  have D7:((SW,iI (cr af c) 176):aZ×aK)=(S2,c2):=(show dY kf SW (cr af c)=_ from by unfold dY;rw [nw yN,t8 (aiQ (hq1.symm.trans xV))]).symm.trans hD
  exact rB (.tuple #[.agg ⟨uV (toR SW g1) Y1 af U fs.length xs.length (↑(k+1))⟩,.agg ⟨aW (iz (iI (cr af c) 176) B3 p3)⟩]) [A_ 3 b3 16,A_ 4 b4 13] [0] aE (by cases D7;exact⟨g1,Y1,B3,p3,rfl,rfl,hp1,wH,by rw [vO];exact QO⟩)
 refine KX (SR (jK 3 [9] [(1,a_ 2 b2)] (NN (av.seq (av.join (ι:=Bool) (λ(Tz:Bool)=>(Tz=decide (kf=3/\(cr af c).op=9/\2<=(cr af c).data.length))) (λ(Tz:Bool)=>(yS4 b1 b2 b3 b4++[(9,.slice (cr af c).dA ((cr af c).data.length) ((cr af c).dC)),(76,.bool Tz)])) (λ(Tz:Bool)=>[.abs R,.aD b1 (uV (toR SW g1) Y1 af U fs.length xs.length (↑(k+1))) 47,pC b2 (cr af c),.aD b3 (uZ) 47,yS1 b4]) ?_ (av.region (jK 3 [67] [] (sP 67 ((kf:Int)=(3:Int)) (λWd=>jK 5 [72] [(1,a_ 2 b2)] (sP 72 (((cr af c).op:Int)=(9:Int)) (λh72=>jK 4 [76] [] (NL (mJ ((decide (((((cr af c).data.length:Nat):Int):Int)>=(2:Int)))) [0,1,2,3,4] ((aii.2 ⟨λh=>d5,λh=>d5⟩))))) (λh72=>jK 4 [76] [] (NL (mJ false [0,1,2,3,4] ((Lk d5).symm)))))) (λWd=>jK 9 [76] [] (NL (mJ false [0,1,2,3,4] ((Lk d5).symm))))))))))))
 rintro Tz CY
 refine av.cond (b:=Tz) (λ_=>d6) (λh76=>KB (aiQ (CY.symm.trans h76)) (by unfold mE at abx;omega)) (λh76=>?_)
 refine KX (SR (jK 3 [85,86] [(1,A_ 1 b1 12),(2,A_ 2 b2 13)] ?_))
 obtain⟨Sx,cx,Tx⟩:∃S2 c2,fF SW (cr af c)=(S2,c2):=⟨_,_,rfl⟩
 refine ia [] (M0 hp1 wH Tx abx hwn yM hwl hwc) ?_
 rintro Fw _ _ iA ⟨g2,Y2,B2,p2,rfl,rfl,hp2,t7,hB2⟩
 replace yM:=yM.le iA
 replace aE:=aE.trans iA
 refine jB 4 [10,88,89] (λb17=>.aD b17 (rZ) 45) (λb17=>jN 3 [11] (λb18=>[(1,A_ 5 b17 12),(2,A_ 6 b18 13)]) (λb18=>[(5,(zC (rV (toR Sx g2) Y2)))]) (λb18=>.aD b18 (aW (iz cx B2 p2)) 63) (λb18=>NS (jC 3 [] [(0,A_ 5 b17 12),(2,A_ 1 b1 12)] [(1,(zC (rV (toR Sx g2) Y2)))] (NS (jK 1 [92] [] (gL [] (um (cr af c).dA (cr af c).dC (cr af c).data yM hwl) ?_))))))
 rintro _ _ ⟨B3,p3,rfl,rfl⟩
 refine jC 2 [] [(1,a_ 7 b18)] [(7,[(5,.slice B3 ((cr af c).data.length) (p3))])] (NN (av.seq (rM [0,1,2,3] 2 [2,7] (jR 2 [4,5,95,96] [(0,A_ 0 b1 16),(1,A_ 1 b18 13)] (nC [2,7] [] [(0,A_ 4 b3 16)] [(4,(zC (uV (toR Sx g2) Y2 af U fs.length xs.length (↑(k+1)))))] (cC.last rfl rfl (jC 1 [] [(0,A_ 5 b4 13)] [(5,(yS3 cx B3 af c p3))] (NL (aF.np (NX (av.ret (aF.eP [0] [yS2 B3 af c p3] (λahu sW hL=>?_)))))))))))))
 have QO:=hL.bytes
 replace t7:=t7.le sW
 replace aE:=aE.trans sW
 have D7:((Sx,{cx with data:=(cr af c).data}):aZ×aK)=(S2,c2):=(show dY kf SW (cr af c)=_ from by unfold dY;rw [nw yN,nw (of_decide_eq_false (hq1.symm.trans xV)),nw (of_decide_eq_false (CY.symm.trans h76)),Tx,abw (VG Tx)]).symm.trans hD
 exact rB (.tuple #[.agg ⟨uV (toR Sx g2) Y2 af U fs.length xs.length (↑(k+1))⟩,.agg #[vI (cx.op),vI (cx.bA),vI (cx.other),.string cx.name,.string cx.text,.slice B3 ((cr af c).data.length) (p3),vI (cx.mode),vI (cx.cM),vI (cx.cO),vI (cx.bH),vI (cx.bh),vI (cx.code),vI (cx.answer)]]) [A_ 3 b3 16,A_ 4 b4 13] [0] aE (by cases D7;exact⟨g2,Y2,B3,p3,rfl,rfl,hp2,t7,QO⟩)
end
section
open Go.RowKit Go.Maps bw aH
theorem RP {X:FM} {ns:List aO} {af:Int} (h:¬(kW X/\cE ns)):fN X ns af=FD X:=by
 by_cases h1:kW X
 ·rw [Az h1 (λh2=>h ⟨h1,h2⟩)];exact (t8 h1).symm
 rw [DR h1];exact (nw h1).symm
end
section
open Go.RowKit Go.Maps bw aH
attribute [local irreducible] aB bJ av aF cC
theorem TA {β:Bs} {X:FM} {ns:List aO} {Y:fq} {fs:List ck} {xs:List cI} {Af Aa:Option Addr} (A:Option Addr) (c:Nat) (hG:aN β A ns Y) (hB:kA ns 1048576) (af:Int) (cf:Nat) (hF:cq β Af (cJ jv fs)) (ox:lI fs 2097152) (ca:Nat) (hA:cq β Aa (cJ kr xs)) (gF:fS xs 1048576) :
 bK Tryz.prog β 7 #[.agg #[.slice A (ns.length) (c)],vI (af),.agg #[vI (X.cN),vI (X.cB),vI (X.cH),vI (X.cS),vI (X.cZ)],.agg #[.slice Af (fs.length) (cf),.slice Aa (xs.length) (ca)]] [] (λβ' v l=>(fN X ns af≠0/\v=.tuple #[.agg ⟨uZ⟩,vI (fN X ns af)]/\l=[])\/(fN X ns af=0/\∃B cp K U,v=.tuple #[.agg #[.slice B (ns.length) (cp),.slice none (0) (0),vI (X.cH),vI 0,.slice none (0) (0),.slice none (0) (0),vI (X.cN),vI (X.cB),vI (X.cH),vI (X.cS),vI (X.cZ),vI ((if ns.length=0 then 0 else (nd ns (ns.length-1)).id)),vI (af),.slice U.A (fs.length) (U.a),.slice U.B (xs.length) (U.b),vI 0],vI 0]/\l=[]/\aN β' B ns K/\Bc β' U fs xs)):=by
 have hnl:=vJ hB
 refine lW Tryz.func7 Tryz.ntmps7 (λaE R=>SR (jB 1 [4] (λb1=>.aD b1 [.slice A (ns.length) (c)] 24) (λb1=>jB 1 [6] (λb2=>.aD b2 [vI (X.cN),vI (X.cB),vI (X.cH),vI (X.cS),vI (X.cZ)] 28) (λb2=>jB 1 [7] (λb3=>.aD b3 [.slice Af (fs.length) (cf),.slice Aa (xs.length) (ca)] 32) (λb3=>jB 2 [8] (λb4=>.aD b4 (uZ) 47) (λb4=>NN (av.seq ?_)))))))
 by_cases lK:kW X/\cE ns
 ·refine av.region (jK 2 [14,15] [(0,a_ 1 b1),(1,A_ 2 b2 5)] (ia [] (aa9 lK.1 lK.2 A c hG hB) ?_))
  rintro AU _ _ fQ ⟨B,cp,K,rfl,rfl,hK⟩
  replace hG:=hG.le fQ
  replace hF:=hF.le fQ
  replace hA:=hA.le fQ
  replace aE:=aE.trans fQ
  refine jN 6 [10,11] (λb6=>[(4,A_ 5 b6 12)]) (λ_=>[]) (λb6=>.aD b6 [.slice B (ns.length) (cp),.slice none (0) (0),vI (X.cH),vI 0,.slice none (0) (0),.slice none (0) (0),vI (X.cN),vI (X.cB),vI (X.cH),vI (X.cS),vI (X.cZ),vI ((if ns.length=0 then 0 else (nd ns (ns.length-1)).id))] 45) (λb6=>NZ (jK 2 [20] [] (NF (KX (av.seq ?_)))))
  rcases PA ns af with ⟨r,hr⟩|jD
  ·have hr1:r<ns.length:=hr.1
   refine av.region (jK 2 [23,24] [(0,a_ 1 b1)] (gE [] (yV A c ns Y hG lK.2.fU (vJ hB) af) (jK 1 [12] [] (NZ (sl 12 (vI ((gU ns af))) (.int .i64 ↑r) (zc (Value.int .i64) (H7 lK.2.fU hr.1 hr.2.1)) (jK 2 [27] [(1,wF (((r:Int):Int)<(0:Int)))] (NF (KX (SQ (jK 7 [35] [(1,a_ 1 b1),(3,x_ r ns.length (aN.hd hG (i:=r) d5)),(5,r_ (aN.rd hG (i:=r) d5 (j:=1) rfl))] (NN (cN (((nd ns r).kind:Int)=(2:Int)) (λyR=>SR (jC 3 [9] [(1,A_ 4 b4 16)] [] (eO (v:=(.tuple #[.agg ⟨uZ⟩,vI 173])) [A_ 4 b4 16] aE (.inl ⟨by rw [y5 lK.1 lK.2 hr d5];decide,by rw [y5 lK.1 lK.2 hr d5],rfl⟩)))) (λyR=>KX (av.seq (rM (List.range 7) 3 [5,3] (jR 3 [8,37,38,39] [(0,A_ 0 b6 12),(2,A_ 1 b3 2)] (mL [7,5] [] (yJ Af cf fs hF (by have:=ox.len;omega) Aa ca xs hA (by have:=gF.len;omega)) ?_ (by rintro _ _ ⟨Bf,bf,Bx,bx,rfl,rfl⟩;rfl))))))))))))))))))
   rintro _ _ ⟨Bf,bf,Bx,bx,rfl,rfl⟩
   refine nC [7,5] [41] [] [] (nC [7,5] [] [(0,A_ 6 b4 16)] [(6,[(0,.slice B (ns.length) (cp)),(2,vI (X.cH)),(6,vI (X.cN)),(7,vI (X.cB)),(8,vI (X.cH)),(9,vI (X.cS)),(10,vI (X.cZ)),(11,vI ((if ns.length=0 then 0 else (nd ns (ns.length-1)).id))),(12,vI (af)),(13,.slice Bf (fs.length) (bf)),(14,.slice Bx (xs.length) (bx))])] (cC.last rfl rfl (jK 1 [9] [] (NL (aF.np (NX (av.ret (aF.eP [0,1] [.abs (aI 136 2 Bf fs.length bf (cJ jv fs)),.abs (aI 133 5 Bx xs.length bx (cJ kr xs))] (λql cU hL=>?_)))))))))
   have hU:Bc _ ⟨Bf,bf,Bx,bx⟩ fs xs:=⟨hL.rowAt 0 rfl,hL.rowAt 1 rfl⟩
   replace hK:=hK.le cU
   replace aE:=aE.trans cU
   exact rB (.tuple #[.agg #[.slice B (ns.length) (cp),.slice none (0) (0),vI (X.cH),vI 0,.slice none (0) (0),.slice none (0) (0),vI (X.cN),vI (X.cB),vI (X.cH),vI (X.cS),vI (X.cZ),vI ((if ns.length=0 then 0 else (nd ns (ns.length-1)).id)),vI (af),.slice Bf (fs.length) (bf),.slice Bx (xs.length) (bx),vI 0],vI 0]) [A_ 4 b4 16] [0] aE (.inr ⟨DS lK.1 lK.2 hr d5,B,cp,K,⟨Bf,bf,Bx,bx⟩,rfl,rfl,hK,hU⟩)
  exact av.region (jK 2 [23,24] [(0,a_ 1 b1)] (gE [] (yV A c ns Y hG lK.2.fU (vJ hB) af) (jK 1 [12] [] (NZ (sl 12 (vI ((gU ns af))) (.int .i64 (-1)) (zc (Value.int .i64) (Dj jD)) (jK 2 [27] [] (NT (SR (jC 3 [9] [(1,A_ 4 b4 16)] [] (eO (v:=(.tuple #[.agg ⟨uZ⟩,vI 141])) [A_ 4 b4 16] aE (.inl ⟨by rw [xI lK.1 lK.2 jD];decide,by rw [xI lK.1 lK.2 jD],rfl⟩)))))))))))
 refine av.region (jK 2 [14,15] [(0,a_ 1 b1),(1,A_ 2 b2 5)] (ia [] (abb lK A c hG hB) ?_))
 rintro C3 _ _ iX ⟨rfl,rfl⟩
 replace aE:=aE.trans iX
 exact jN 6 [10,11] (λb9=>[(4,A_ 5 b9 12)]) (λ_=>[]) (λb9=>.aD b9 (rZ) 45) (λb9=>NZ (jK 2 [20] [] (NN (cN (((FD X):Int)=(0:Int)) (λlZ=>SR (jC 4 [9] [(2,A_ 4 b4 16)] [] (eO (v:=(.tuple #[.agg ⟨uZ⟩,vI ((FD X))])) [A_ 4 b4 16] aE (.inl ⟨DV lK,by rw [RP lK],rfl⟩)))) (λlZ=>KB lZ (adA X))))))
end
section
open Go.RowKit Go.Maps bw aH
section n
variable {β:Bs} {X:FM} {ns:List aO} {Y:fq} {fs:List ck} {xs:List cI} {Af Aa:Option Addr} {af:Int}
theorem YJ (h0:¬fN X ns af=0) (A:Option Addr) (c:Nat) (hG:aN β A ns Y) (hB:kA ns 1048576) (cf:Nat) (hF:cq β Af (cJ jv fs)) (ox:lI fs 2097152) (ca:Nat) (hA:cq β Aa (cJ kr xs)) (gF:fS xs 1048576) :
 bK Tryz.prog β 7 #[.agg #[.slice A ns.length c],.int .i64 af,.agg #[.int .i64 X.cN,.int .i64 X.cB,.int .i64 X.cH,.int .i64 X.cS,.int .i64 X.cZ],.agg #[.slice Af fs.length cf,.slice Aa xs.length ca]] [] (λ_ v l=>v=.tuple #[.agg ⟨rZ++[.int .i64 0,.slice none 0 0,.slice none 0 0,.int .i64 0]⟩,.int .i64 (fN X ns af)]/\l=[]):=
 (TA A c hG hB af cf hF ox ca hA gF).mono (by
  rintro β' v l _ (⟨_,h1,h2⟩|⟨h,_⟩)
  ·exact⟨h1,h2⟩
  exact KB h h0)
theorem M9 (h0:fN X ns af=0) (N:DU X ns) (A:Option Addr) (c:Nat) (hG:aN β A ns Y) (hB:kA ns 1048576) (cf:Nat) (hF:cq β Af (cJ jv fs)) (ox:lI fs 2097152) (ca:Nat) (hA:cq β Aa (cJ kr xs)) (gF:fS xs 1048576) :
 bK Tryz.prog β 7 #[.agg #[.slice A ns.length c],.int .i64 af,.agg #[.int .i64 X.cN,.int .i64 X.cB,.int .i64 X.cH,.int .i64 X.cS,.int .i64 X.cZ],.agg #[.slice Af fs.length cf,.slice Aa xs.length ca]] [] (λβ' v l=>∃Y' U,v=.tuple #[.agg ⟨uV (toR N.1 []) Y' af U fs.length xs.length 0⟩,.int .i64 0]/\l=[]/\dJ β' (toR N.1 []) Y'/\Bc β' U fs xs):=by
 refine (TA A c hG hB af cf hF ox ca hA gF).mono ?_
 rintro β' v l _ (⟨h,_⟩|⟨_,B,cp,K,U,rfl,rfl,h1,h2⟩)
 ·exact KB h0 h
 have e:=(MZ N.2 (Fe h0).2).2
 rw [e]
 refine⟨⟨B,cp,K,none,0,none,0,none,0⟩,U,?_,rfl,⟨⟨cq.nil,cq.nil,cq.nil⟩,h1⟩,h2⟩
 have hl:(if ns.length=0 then 0 else (nd ns (ns.length-1)).id)=qK ns ns.length:=by cases ns.length<;>rfl
 rw [hl]
 rfl
end n
theorem YK {β:Bs} {S S2:aZ} {g:List Int} {c c2:aK} (hp:Pair S g) (Y:RL) (hR:dJ β (toR S g) Y) (af:Int) (U:UL) (fs:List ck) (xs:List cI) (k:Nat) (hk:k<=8388600) (hU:Bc β U fs xs) (hfl:fs.length<=2097152) (hX:fS xs 1048576) (hD:bq fs xs af (k+1) S c=(S2,c2)) (wK:mE c.op) (hn:c.name.size<=1048576) (hb:bO β c.dA c.data) (hl:c.data.length<=140737488355328) (hc:c.data.length<=c.dC) :
 aU Tryz.prog β 9 #[.agg ⟨uV (toR S g) Y af U fs.length xs.length k⟩,.agg ⟨aW c⟩] [] (λv l=>∃g' Y' B p,v=.tuple #[.agg ⟨uV (toR S2 g') Y' af U fs.length xs.length ((k+1:Nat):Int)⟩,.agg ⟨aW (iz c2 B p)⟩]/\l=[.abs (jL β (λβ'=>Pair S2 g'/\dJ β' (toR S2 g') Y'/\bO β' B c2.data))]):=
 (bK.G0 (ι:=List Int×RL×Option Addr×Nat) (vv:=λx=>.tuple #[.agg ⟨uV (toR S2 x.1) x.2.1 af U fs.length xs.length ((k+1:Nat):Int)⟩,.agg ⟨aW (iz c2 x.2.2.1 x.2.2.2)⟩]) (ll:=λ_=>[]) (Φ:=λx β'=>Pair S2 x.1/\dJ β' (toR S2 x.1) x.2.1/\bO β' x.2.2.1 c2.data)
  ((xA hp Y hR af U fs xs k hk hU.f hfl hU.x hX hD wK hn hb hl hc).mono (by rintro β' v l _ ⟨g',Y',B,p,rfl,rfl,h1,h2,h3⟩;exact⟨(g',Y',B,p),rfl,rfl,h1,h2,h3⟩))).mono (by rintro v l ⟨⟨g',Y',B,p⟩,rfl,rfl⟩;exact⟨g',Y',B,p,rfl,rfl⟩)
section p
variable {fs:List ck} {xs:List cI} {af:Int} {S S1 S2 S3:aZ} {c1 c2 c3:aK} {n:Nat} {cur mode made mk:Int} {p:ByteArray} {b:Bool}
theorem afD (e1:bq fs xs af (n+1) S (jT cur p)=(S1,c1)) (h:¬c1.code=170\/mode<0):∃nx,dK fs xs af S n cur p mode=⟨S1,n+1,nx,false,c1.code⟩/\(c1.code=0->c1.answer=nx):=by
 by_cases h0:c1.code=0
 ·exact⟨c1.answer,by rw [DM e1 h0,h0],λ_=>rfl⟩
 exact⟨0,yx e1 h0 h,λq=>KB q h0⟩
theorem afE (e1:bq fs xs af (n+1) S (jT cur p)=(S1,c1)) (h:¬(¬c1.code=170\/mode<0)) (e2:bq fs xs af (n+2) S1 (BK cur p mode)=(S2,c2)) (h3:¬c2.code=0/\¬c2.code=171):dK fs xs af S n cur p mode=⟨S2,n+2,0,false,c2.code⟩:=E9 e1 d5 h e2 h3
theorem afF (e1:bq fs xs af (n+1) S (jT cur p)=(S1,c1)) (h:¬(¬c1.code=170\/mode<0)) (e2:bq fs xs af (n+2) S1 (BK cur p mode)=(S2,c2)) (h3:¬(¬c2.code=0/\¬c2.code=171)) (e3:bq fs xs af (n+3) S2 (jT cur p)=(S3,c3)):∃nx,dK fs xs af S n cur p mode=⟨S3,n+3,nx,decide (c2.code=0),c3.code⟩/\(c3.code=0->c3.answer=nx):=by
 by_cases h0:c3.code=0
 ·exact⟨c3.answer,by rw [Am e1 d5 h e2 h3 e3 h0,h0],λ_=>rfl⟩
 exact⟨0,BL e1 d5 h e2 h3 e3 h0,λq=>KB q h0⟩
theorem aby (h:mk=if b=true then 1 else 0):made+mk=(if b=true then made+1 else made)/\0<=mk/\mk<=1:=by
 subst h;split<;>omega
theorem LF:∀(ps:List ByteArray) (i:Int) (S:aZ) (n:Nat) (cur:Int) (own:Bool) (made:Int),bB S->(Lit.int .i64 cur).wf=true->(Lit.int .i64 (jw fs xs af mode ps i S n cur own made).cur).wf=true/\bB (jw fs xs af mode ps i S n cur own made).S/\(jw fs xs af mode ps i S n cur own made).n<=n+4*ps.length+1
 |[],i,S,n,cur,own,made,hI,hw=>⟨hw,hI,by show n<=_;omega⟩
 |p::r,i,S,n,cur,own,made,hI,hw=>by
   have hs:=DN (fs:=fs) (xs:=xs) (af:=af) (n:=n) (cur:=cur) (p:=p) (mode:=mode) hI
   have hwn:=K9 (fs:=fs) (xs:=xs) (af:=af) (n:=n) (cur:=cur) (p:=p) (mode:=mode) hI
   have hn:=Fa (fs:=fs) (xs:=xs) (af:=af) (S:=S) (n:=n) (cur:=cur) (p:=p) (mode:=mode)
   have z:(Lit.int .i64 0).wf=true:=d8
   have hf:∀(S':aZ) (m:Nat) (c:Int) (o:Bool) (d e j:Int),bB S'->(Lit.int .i64 (mH fs xs af S' m c o d e j).cur).wf=true/\bB (mH fs xs af S' m c o d e j).S/\(mH fs xs af S' m c o d e j).n<=m+1:=by
    intro S' m c o d e j h
    unfold mH
    split
    ·exact⟨z,h.bq,N6 _⟩
    exact⟨z,h,Nat.le_succ _⟩
   rw [aix]
   by_cases h1:(dK fs xs af S n cur p mode).code=0
   ·by_cases h2:own=true
    ·have vX:=hs.bq (fs:=fs) (xs:=xs) (af:=af) (n:=(dK fs xs af S n cur p mode).n+1) (c:=fL cur)
     by_cases h3:(bq fs xs af ((dK fs xs af S n cur p mode).n+1) (dK fs xs af S n cur p mode).S (fL cur)).2.code=0
     ·rw [vl h1 h2 h3]
      have q:=LF r (i+1) _ ((dK fs xs af S n cur p mode).n+1) (dK fs xs af S n cur p mode).next true (if (dK fs xs af S n cur p mode).made=true then made+1 else made) vX hwn
      exact⟨q.1,q.2.1,by have:=q.2.2;omega⟩
     rw [vU h1 h2 h3]
     have q:=hf _ ((dK fs xs af S n cur p mode).n+1) (dK fs xs af S n cur p mode).next true (if (dK fs xs af S n cur p mode).made=true then made+1 else made) (bq fs xs af ((dK fs xs af S n cur p mode).n+1) (dK fs xs af S n cur p mode).S (fL cur)).2.code i vX
     exact⟨q.1,q.2.1,by have:=q.2.2;omega⟩
    rw [xq h1 h2]
    have q:=LF r (i+1) _ (dK fs xs af S n cur p mode).n (dK fs xs af S n cur p mode).next true (if (dK fs xs af S n cur p mode).made=true then made+1 else made) hs hwn
    exact⟨q.1,q.2.1,by have:=q.2.2;omega⟩
   rw [rG h1]
   have q:=hf _ (dK fs xs af S n cur p mode).n cur own (if (dK fs xs af S n cur p mode).made=true then made+1 else made) (dK fs xs af S n cur p mode).code i hs
   exact⟨q.1,q.2.1,by have:=q.2.2;omega⟩
end p
end
section
open Go.RowKit Go.Maps bw aH
attribute [local irreducible] aB bJ av aF cC
theorem Cg {β:Bs} {S S2:aZ} {g:List Int} {c2:aK} (hg:Pair S g) (Y:RL) (hY:dJ β (toR S g) Y) (af:Int) (U:UL) (fs:List ck) (xs:List cI) (k:Nat) (hk:k<=8388600) (hU:Bc β U fs xs) (hfl:fs.length<=2097152) (hX:fS xs 1048576) (h:Int) (hD:bq fs xs af (k+1) S (fL h)=(S2,c2)) :
 bK Tryz.prog β 41 #[.agg ⟨uV (toR S g) Y af U fs.length xs.length ((k:Nat):Int)⟩,vI (h)] [] (λβ' v l=>∃g' Y',v=.tuple #[.agg ⟨uV (toR S2 g') Y' af U fs.length xs.length (((k+1):Nat):Int)⟩,vI c2.code]/\l=[]/\Pair S2 g'/\dJ β' (toR S2 g') Y'):=by
 refine lW Tryz.func41 Tryz.ntmps41 (λaE R=>SR (jB 1 [2] (λb1=>.aD b1 (uV (toR S g) Y af U fs.length xs.length (↑k)) 47) (λb1=>jB 2 [4] (λb2=>.aD b2 (uZ) 47) (λb2=>NS (jK 3 [9,11] [(0,A_ 1 b1 16)] (ia [] (xA (β:=β) (S:=S) (g:=g) hg Y hY af U fs xs k d5 hU.f hfl hU.x hX hD (.inr (.inr (.inr rfl))) (L4 _) (λj v h=>by cases h) (L4 _) (N6 _)) ?_))))))
 rintro vn _ _ fY ⟨g2,Y2,B2,p2,rfl,rfl,hg2,Na,_⟩
 replace hY:=hY.le fY
 replace hU:=hU.le fY
 replace aE:=aE.trans fY
 exact jB 4 [6,13,14] (λb4=>.aD b4 (uZ) 47) (λb4=>jN 3 [7] (λb5=>[(1,A_ 3 b4 16),(2,A_ 4 b5 13)]) (λb5=>[(3,(zC (uV (toR S2 g2) Y2 af U fs.length xs.length (↑(k+1)))))]) (λb5=>.aD b5 (aW (iz c2 B2 p2)) 63) (λb5=>NN (av.seq (rM (List.range 5) 3 [3,4] (jR 3 [4,15,17] [(0,A_ 0 b4 16),(2,a_ 1 b5)] (nC [3,4] [] [(0,A_ 2 b2 16)] [(2,(zC (uV (toR S2 g2) Y2 af U fs.length xs.length (↑(k+1)))))] (cC.last rfl rfl (jK 1 [5] [] (NL (aF.np (NX (av.ret (rB (.tuple #[.agg ⟨uV (toR S2 g2) Y2 af U fs.length xs.length (↑(k+1))⟩,vI (c2.code)]) [A_ 2 b2 16] [0] aE (⟨g2,Y2,rfl,rfl,hg2,Na⟩))))))))))))))
theorem YL {β:Bs} {S S2:aZ} {g:List Int} {c2:aK} (hg:Pair S g) (Y:RL) (hY:dJ β (toR S g) Y) (af:Int) (U:UL) (fs:List ck) (xs:List cI) (k:Nat) (hk:k<=8388600) (hU:Bc β U fs xs) (hfl:fs.length<=2097152) (hX:fS xs 1048576) (cur made code at_:Int) (hD:bq fs xs af (k+1) S (fL cur)=(S2,c2)) :
 bK Tryz.prog β 22 #[.agg ⟨uV (toR S g) Y af U fs.length xs.length ((k:Nat):Int)⟩,.agg #[vI (cur),.bool true,vI (made),vI (code),vI (at_)]] [] (λβ' v l=>∃g' Y',v=.tuple #[.agg ⟨uV (toR S2 g') Y' af U fs.length xs.length (((k+1):Nat):Int)⟩,vI c2.code]/\l=[]/\Pair S2 g'/\dJ β' (toR S2 g') Y'):=by
 refine lW Tryz.func22 Tryz.ntmps22 (λaE R=>SR (jB 1 [2] (λb6=>.aD b6 (uV (toR S g) Y af U fs.length xs.length (↑k)) 47) (λb6=>jB 1 [3] (λb7=>.aD b7 [vI (cur),.bool true,vI (made),vI (code),vI (at_)] 78) (λb7=>jB 2 [4] (λb8=>.aD b8 (uZ) 47) (λb8=>NZ (jK 3 [8] [(1,a_ 2 b7)] (NF (KX (SR (jK 3 [10,12] [(0,A_ 1 b6 16),(2,a_ 2 b7)] (ia [] (Cg (β:=β) hg Y hY af U fs xs k hk hU hfl hX cur hD) ?_)))))))))))
 rintro Ce _ _ eF ⟨g2,Y2,rfl,rfl,hg2,Na⟩
 replace hY:=hY.le eF
 replace hU:=hU.le eF
 replace aE:=aE.trans eF
 exact jC 4 [5] [(2,A_ 3 b8 16)] [(3,(zC (uV (toR S2 g2) Y2 af U fs.length xs.length (↑(k+1)))))] (eO (v:=(.tuple #[.agg ⟨uV (toR S2 g2) Y2 af U fs.length xs.length (↑(k+1))⟩,vI (c2.code)])) [A_ 3 b8 16] aE ⟨g2,Y2,rfl,rfl,hg2,Na⟩)
theorem QS {β:Bs} {S:aZ} {g:List Int} (hg:Pair S g) (Y:RL) (hY:dJ β (toR S g) Y) (af:Int) (U:UL) (fs:List ck) (xs:List cI) (k:Nat) (cur made code at_:Int) :
 bK Tryz.prog β 22 #[.agg ⟨uV (toR S g) Y af U fs.length xs.length ((k:Nat):Int)⟩,.agg #[vI (cur),.bool false,vI (made),vI (code),vI (at_)]] [] (λβ' v l=>∃g' Y',v=.tuple #[.agg ⟨uV (toR S g') Y' af U fs.length xs.length ((k:Nat):Int)⟩,vI 0]/\l=[]/\Pair S g'/\dJ β' (toR S g') Y'):=by
 exact lW Tryz.func22 Tryz.ntmps22 (λaE R=>SR (jB 1 [2] (λb10=>.aD b10 (uV (toR S g) Y af U fs.length xs.length (↑k)) 47) (λb10=>jB 1 [3] (λb11=>.aD b11 [vI (cur),.bool false,vI (made),vI (code),vI (at_)] 78) (λb11=>jB 2 [4] (λb12=>.aD b12 (uZ) 47) (λb12=>NZ (jK 3 [8] [(1,a_ 2 b11)] (NT (SR (jC 3 [5] [(0,A_ 1 b10 16),(1,A_ 3 b12 16)] [(3,(zC (uV (toR S g) Y af U fs.length xs.length (↑k))))] (eO (v:=(.tuple #[.agg ⟨uV (toR S g) Y af U fs.length xs.length (↑k)⟩,vI 0])) [A_ 3 b12 16] aE ⟨g,Y,rfl,rfl,hg,hY⟩))))))))))
theorem abz {β:Bs} {S:aZ} {g:List Int} (hg:Pair S g) (Y:RL) (hY:dJ β (toR S g) Y) (af:Int) (U:UL) (fs:List ck) (xs:List cI) (k:Nat) (hk:k+3<=8388600) (hU:Bc β U fs xs) (hfl:fs.length<=2097152) (hX:fS xs 1048576) (cur:Int) (part:ByteArray) (hnm:part.size<=1048576) (mode:Int) {r:JQ} (hr:dK fs xs af S k cur part mode=r) :
 bK Tryz.prog β 40 #[.agg ⟨uV (toR S g) Y af U fs.length xs.length ((k:Nat):Int)⟩,vI (cur),.string part,vI (mode)] [] (λβ' v l=>∃ans mk g' Y',v=.tuple #[.agg ⟨uV (toR r.S g') Y' af U fs.length xs.length ((r.n:Nat):Int)⟩,vI ans,vI mk,vI r.code]/\l=[]/\(r.code=0->ans=r.next)/\mk=(if r.made=true then 1 else 0)/\Pair r.S g'/\dJ β' (toR r.S g') Y'):=by
 refine lW Tryz.func40 Tryz.ntmps40 (λaE R=>SR (jB 1 [4] (λb13=>.aD b13 (uV (toR S g) Y af U fs.length xs.length (↑k)) 47) (λb13=>jB 4 [8] (λb14=>.aD b14 (uZ) 47) (λb14=>NS (jK 4 [17,20] [(0,A_ 1 b13 16)] ?_)))))
 obtain⟨S1,c1,e1⟩:∃Sx cx,bq fs xs af (k+1) S (jT cur part)=(Sx,cx):=⟨_,_,rfl⟩
 refine ia [] (xA (β:=β) (S:=S) (g:=g) hg Y hY af U fs xs k d5 hU.f hfl hU.x hX e1 (.inr (.inl rfl)) hnm (λj v h=>by cases h) (L4 _) (N6 _)) ?_
 rintro Ct _ _ gP ⟨g1,Y1,B1,p1,rfl,rfl,hg1,TB,_⟩
 replace hY:=hY.le gP
 replace hU:=hU.le gP
 replace aE:=aE.trans gP
 refine jN 6 [12] (λb16=>[(4,A_ 1 b13 16),(5,A_ 3 b16 13)]) (λb16=>[(1,[(0,.slice Y1.A ((toR S1 g1).ns.length) (Y1.c)),(1,.slice Y1.G ((toR S1 g1).aJ.length) (Y1.cg)),(2,vI ((toR S1 g1).cH)),(3,vI ((toR S1 g1).aL)),(4,.slice Y1.H ((toR S1 g1).us.length) (Y1.ch)),(5,.slice Y1.V ((toR S1 g1).us.length) (Y1.cv)),(6,vI ((toR S1 g1).cN)),(7,vI ((toR S1 g1).cB)),(8,vI ((toR S1 g1).cH)),(9,vI ((toR S1 g1).cS)),(10,vI ((toR S1 g1).cZ)),(11,vI ((toR S1 g1).last)),(15,vI ↑(k+1))])]) (λb16=>.aD b16 (aW (iz c1 B1 p1)) 63) (λb16=>NN (av.seq (av.join (ι:=Bool) (λ(TD:Bool)=>(TD=decide (¬c1.code=170\/mode<0))) (λ(TD:Bool)=>[(1,vI (cur)),(2,.string part),(3,vI (mode)),(4,vP b13),(8,vP b14),(12,vP b16),(30,.bool TD)]) (λ(TD:Bool)=>[.abs R,.aD b13 (uV (toR S1 g1) Y1 af U fs.length xs.length (↑(k+1))) 47,.aD b14 (uZ) 47,.aD b16 (aW (iz c1 B1 p1)) 63]) ?_ (av.region (jK 4 [27] [(1,a_ 3 b16)] (sN 27 ((c1.code:Int)=(170:Int)) (λyN=>jK 3 [30] [] (NL (mJ true [0,1,2,3] ((aio d5).symm)))) (λyN=>jK 3 [30] [] (NL (mJ ((decide ((mode:Int)<(0:Int)))) [0,1,2,3] ((aii.2 ⟨λh=>d5,λh=>d5⟩)))))))))))
 rintro TD hq1
 refine av.cond (b:=TD) (λ_=>d6) (λrF=>?_) (λrF=>?_)
 ·refine av.seq (rM (List.range 9) 5 [1,3] (jR 5 [8,31,33,35] [(0,A_ 0 b13 16),(2,a_ 1 b16),(4,a_ 1 b16)] (nC [1,3] [] [(0,A_ 2 b14 16)] [(2,(zC (uV (toR S1 g1) Y1 af U fs.length xs.length (↑(k+1)))))] (nC [1,3] [9] [] [] (nC [1,3] [10] [] [] (cC.last rfl rfl (jK 1 [11] [] (NL (aF.np (NX (av.ret (aF.br ?_))))))))))))
  obtain⟨nx,hs,hx⟩:=afD (mode:=mode) e1 (aiQ (hq1.symm.trans rF))
  rw [hs] at hr
  subst hr
  exact rB (.tuple #[.agg ⟨uV (toR S1 g1) Y1 af U fs.length xs.length (↑(k+1))⟩,vI (c1.answer),vI 0,vI (c1.code)]) [A_ 2 b14 16] [0] aE (⟨c1.answer,0,g1,Y1,rfl,rfl,hx,rfl,hg1,TB⟩)
 have hn1:=of_decide_eq_false (hq1.symm.trans rF)
 refine KX (SR (jK 5 [37,41] [(0,A_ 1 b13 16)] ?_))
 obtain⟨S2,c2,e2⟩:∃Sx cx,bq fs xs af (k+2) S1 (BK cur part mode)=(Sx,cx):=⟨_,_,rfl⟩
 refine ia [] (xA (β:=Ct) (S:=S1) (g:=g1) hg1 Y1 TB af U fs xs (k+1) d5 hU.f hfl hU.x hX e2 (.inr (.inr (.inl rfl))) hnm (λj v h=>by cases h) (L4 _) (N6 _)) ?_
 rintro LC _ _ gI ⟨g2,Y2,B2,p2,rfl,rfl,hg2,Na,_⟩
 replace hY:=hY.le gI
 replace hU:=hU.le gI
 replace TB:=TB.le gI
 replace aE:=aE.trans gI
 refine jN 6 [13] (λb18=>[(4,A_ 1 b13 16),(5,A_ 4 b18 13)]) (λb18=>[(1,[(0,.slice Y2.A ((toR S2 g2).ns.length) (Y2.c)),(1,.slice Y2.G ((toR S2 g2).aJ.length) (Y2.cg)),(2,vI ((toR S2 g2).cH)),(3,vI ((toR S2 g2).aL)),(4,.slice Y2.H ((toR S2 g2).us.length) (Y2.ch)),(5,.slice Y2.V ((toR S2 g2).us.length) (Y2.cv)),(6,vI ((toR S2 g2).cN)),(7,vI ((toR S2 g2).cB)),(8,vI ((toR S2 g2).cH)),(9,vI ((toR S2 g2).cS)),(10,vI ((toR S2 g2).cZ)),(11,vI ((toR S2 g2).last)),(15,vI ↑((k+1)+1))])]) (λb18=>.aD b18 (aW (iz c2 B2 p2)) 63) (λb18=>NN (av.seq (av.join (ι:=Bool) (λ(TF:Bool)=>(TF=decide (¬c2.code=0/\¬c2.code=171))) (λ(TF:Bool)=>[(1,vI (cur)),(2,.string part),(4,vP b13),(8,vP b14),(13,vP b18),(52,.bool TF)]) (λ(TF:Bool)=>[.abs R,.aD b13 (uV (toR S2 g2) Y2 af U fs.length xs.length (↑((k+1)+1))) 47,.aD b14 (uZ) 47,.aD b16 (aW (iz c1 B1 p1)) 63,.aD b18 (aW (iz c2 B2 p2)) 63]) ?_ (av.region (jK 4 [48] [(1,a_ 4 b18)] (sN 48 ((c2.code:Int)=(0:Int)) (λh48=>jK 4 [52] [(1,a_ 4 b18)] (NL (mJ ((!(decide ((c2.code:Int)=(171:Int))))) [0,1,2,3,4] ((by simp [h48]))))) (λh48=>jK 4 [52] [] (NL (mJ false [0,1,2,3,4] ((Lk d5).symm))))))))))
 rintro TF CY
 refine av.cond (b:=TF) (λ_=>d6) (λuW=>?_) (λuW=>?_)
 ·refine av.seq (rM (List.range 7) 3 [1,4] (jR 3 [8,53,55] [(0,A_ 0 b13 16),(2,a_ 1 b18)] (nC [1,4] [] [(0,A_ 2 b14 16)] [(2,(zC (uV (toR S2 g2) Y2 af U fs.length xs.length (↑((k+1)+1)))))] (nC [1,4] [9] [] [] (nC [1,4] [10] [] [] (cC.last rfl rfl (jK 1 [11] [] (NL (aF.np (NX (av.ret (aF.br ?_))))))))))))
  rw [afE e1 hn1 e2 (aiQ (CY.symm.trans uW))] at hr
  subst hr
  exact rB (.tuple #[.agg ⟨uV (toR S2 g2) Y2 af U fs.length xs.length (↑((k+1)+1))⟩,vI 0,vI 0,vI (c2.code)]) [A_ 2 b14 16] [0] aE (⟨0,0,g2,Y2,rfl,rfl,λ_=>rfl,rfl,hg2,Na⟩)
 have hn2:=of_decide_eq_false (CY.symm.trans uW)
 refine KX (SR (jK 1 [14] [] (NN (av.join (ι:=Int) (λ(m2:Int)=>((if c2.code=0 then 1 else 0)=m2)) (λ(m2:Int)=>[(1,vI (cur)),(2,.string part),(4,vP b13),(8,vP b14),(14,vI (m2))]) (λ(m2:Int)=>[.abs R,.aD b13 (uV (toR S2 g2) Y2 af U fs.length xs.length (↑((k+1)+1))) 47,.aD b14 (uZ) 47,.aD b16 (aW (iz c1 B1 p1)) 63,.aD b18 (aW (iz c2 B2 p2)) 63]) ?_ (SR (jK 3 [58] [(1,a_ 4 b18)] (NN (cP ((c2.code:Int)=(0:Int)) (λXW=>av.region (jK 1 [14] [] (NL (mJ 1 [0,1,2,3,4] (t8 XW))))) (λXW=>av.skip (mJ 0 [0,1,2,3,4] (nw XW)))))))))))
 rintro m2 hm2
 refine SR (jK 4 [60,63] [(0,A_ 1 b13 16)] ?_)
 obtain⟨S3,c3,e3⟩:∃Sx cx,bq fs xs af (k+3) S2 (jT cur part)=(Sx,cx):=⟨_,_,rfl⟩
 refine ia [] (xA (β:=LC) (S:=S2) (g:=g2) hg2 Y2 Na af U fs xs (k+2) d5 hU.f hfl hU.x hX e3 (.inr (.inl rfl)) hnm (λj v h=>by cases h) (L4 _) (N6 _)) ?_
 rintro ahu _ _ sW ⟨g3,Y3,B3,p3,rfl,rfl,hg3,hY3,_⟩
 replace hY:=hY.le sW
 replace hU:=hU.le sW
 replace TB:=TB.le sW
 replace Na:=Na.le sW
 replace aE:=aE.trans sW
 refine jN 6 [15] (λb20=>[(4,A_ 1 b13 16),(5,A_ 5 b20 13)]) (λb20=>[(1,[(0,.slice Y3.A ((toR S3 g3).ns.length) (Y3.c)),(1,.slice Y3.G ((toR S3 g3).aJ.length) (Y3.cg)),(2,vI ((toR S3 g3).cH)),(3,vI ((toR S3 g3).aL)),(4,.slice Y3.H ((toR S3 g3).us.length) (Y3.ch)),(5,.slice Y3.V ((toR S3 g3).us.length) (Y3.cv)),(6,vI ((toR S3 g3).cN)),(7,vI ((toR S3 g3).cB)),(8,vI ((toR S3 g3).cH)),(9,vI ((toR S3 g3).cS)),(10,vI ((toR S3 g3).cZ)),(11,vI ((toR S3 g3).last)),(15,vI ↑((k+2)+1))])]) (λb20=>.aD b20 (aW (iz c3 B3 p3)) 63) (λb20=>NN (av.seq (rM (List.range 10) 6 [1,5] (jR 6 [8,67,69,70,72] [(0,A_ 0 b13 16),(2,a_ 1 b20),(5,a_ 1 b20)] (nC [1,5] [] [(0,A_ 2 b14 16)] [(2,(zC (uV (toR S3 g3) Y3 af U fs.length xs.length (↑((k+2)+1)))))] (nC [1,5] [9] [] [] (nC [1,5] [10] [] [] (cC.last rfl rfl (jK 1 [11] [] (NL (aF.np (NX (av.ret ?_)))))))))))))
 obtain⟨nx,hs,hx⟩:=afF e1 hn1 e2 hn2 e3
 rw [hs] at hr
 subst hr
 exact rB (.tuple #[.agg ⟨uV (toR S3 g3) Y3 af U fs.length xs.length (↑((k+2)+1))⟩,vI (c3.answer),vI (m2),vI (c3.code)]) [A_ 2 b14 16] [0] aE (⟨c3.answer,m2,g3,Y3,rfl,rfl,hx,(by rw [←hm2];simp),hg3,hY3⟩)
theorem YM {β:Bs} {S:aZ} {g:List Int} (hg:Pair S g) (Y:RL) (hY:dJ β (toR S g) Y) (af:Int) (U:UL) (fs:List ck) (xs:List cI) (k:Nat) (hk:k+3<=8388600) (hU:Bc β U fs xs) (hfl:fs.length<=2097152) (hX:fS xs 1048576) (cur:Int) (part:ByteArray) (hnm:part.size<=1048576) (mode:Int) {r:JQ} (hr:dK fs xs af S k cur part mode=r) :
 aU Tryz.prog β 40 #[.agg ⟨uV (toR S g) Y af U fs.length xs.length ((k:Nat):Int)⟩,vI (cur),.string part,vI (mode)] [] (λv l=>∃ans mk g' Y',v=.tuple #[.agg ⟨uV (toR r.S g') Y' af U fs.length xs.length ((r.n:Nat):Int)⟩,vI ans,vI mk,vI r.code]/\l=[.abs (jL β (λβ'=>(r.code=0->ans=r.next)/\mk=(if r.made=true then 1 else 0)/\Pair r.S g'/\dJ β' (toR r.S g') Y'))]):=
 (bK.G0 (ι:=Int×Int×List Int×RL) (vv:=λx=>.tuple #[.agg ⟨uV (toR r.S x.2.2.1) x.2.2.2 af U fs.length xs.length ((r.n:Nat):Int)⟩,vI x.1,vI x.2.1,vI r.code]) (ll:=λ_=>[]) (Φ:=λx β'=>(r.code=0->x.1=r.next)/\x.2.1=(if r.made=true then 1 else 0)/\Pair r.S x.2.2.1/\dJ β' (toR r.S x.2.2.1) x.2.2.2)
  ((abz hg Y hY af U fs xs k hk hU hfl hX cur part hnm mode hr).mono (by rintro β' v l _ ⟨ans,mk,g',Y',h1,h2,h3⟩;exact⟨(ans,mk,g',Y'),h1,h2,h3⟩))).mono (by rintro v l ⟨x,h1,h2⟩;exact⟨x.1,x.2.1,x.2.2.1,x.2.2.2,h1,h2⟩)
end
section
open Go.RowKit Go.Maps bw aH
attribute [local irreducible] aB bJ av aF eH cC lX
theorem abA {β:Bs} {S0:aZ} {g0:List Int} (hg0:Pair S0 g0) (Y0:RL) (hY0:dJ β (toR S0 g0) Y0) (af:Int) (U:UL) (fs:List ck) (xs:List cI) (k0:Nat) {np:Nat} (hk:k0+4*np+4<=8388600) (hU:Bc β U fs xs) (hfl:fs.length<=2097152) (hX:fS xs 1048576) (h:Int) (A:Option Addr) (oF:Nat) (ps:List ByteArray) (hP:jg β A ps) (hpl:ps.length=np) (ay:∀i,i<ps.length->(pc ps i).size<=1048576) (mode:Int) {r:Ms} (hr:jw fs xs af mode ps 0 S0 k0 h false 0=r) :
 bK Tryz.prog β 13 #[.agg ⟨uV (toR S0 g0) Y0 af U fs.length xs.length ((k0:Nat):Int)⟩,vI (h),.slice A (ps.length) (oF),vI (mode)] [] (λβ' v l=>∃g' Y',v=.tuple #[.agg ⟨uV (toR r.S g') Y' af U fs.length xs.length ((r.n:Nat):Int)⟩,.agg #[vI r.cur,.bool r.own,vI r.made,vI r.code,vI r.at_]]/\l=[]/\Pair r.S g'/\dJ β' (toR r.S g') Y'):=by
 refine lW Tryz.func13 Tryz.ntmps13 (λaE R=>SR (jB 1 [4] (λb1=>.aD b1 (uV (toR S0 g0) Y0 af U fs.length xs.length (↑k0)) 47) (λb1=>jB 1 [8] (λb2=>.aD b2 (uZ) 47) (λb2=>jB 1 [9] (λb3=>.aD b3 [vI 0,.bool false,vI 0,vI 0,vI 0] 78) (λb3=>NS (jN 4 [10] (λb4=>[(3,A_ 4 b4 5)]) (λ_=>[]) (λb4=>.aD b4 [vI (h),.bool false,vI 0,vI 0,vI 0] 78) (λb4=>NZ (jK 1 [11] [] (NN (av.block (lB (ι:=Nat×Bs×aZ×(List Int)×RL×Nat×Int×Bool×Int) (λ(i,b,S,g,Y,k,cur,own,made)=>b) (λ(i,b,S,g,Y,k,cur,own,made)=>(i<=ps.length)/\(β.le b)/\(jg b A ps)/\(Bc b U fs xs)/\(Pair S g)/\(dJ b (toR S g) Y)/\(k<=k0+4*i)/\(0<=made/\made<=i)/\(jw fs xs af mode (ps.drop i) (i:Int) S k cur own made=r)) (λ(i,b,S,g,Y,k,cur,own,made)=>ps.length-i) (λ(i,b,S,g,Y,k,cur,own,made)=>[(2,.slice A (ps.length) (oF)),(3,vI (mode)),(4,vP b1),(8,vP b2),(9,vP b3),(10,vP b4),(11,vI ↑i)]) (λ(i,b,S,g,Y,k,cur,own,made)=>[.aD b1 (uV (toR S g) Y af U fs.length xs.length (↑k)) 47,.aD b2 (uZ) 47,.aD b3 [vI 0,.bool false,vI 0,vI 0,vI 0] 78,.aD b4 [vI (cur),.bool own,vI (made),vI 0,vI 0] 78,.abs R]) (0,β,S0,g0,Y0,k0,h,false,0) [1,2,3,4,0] (⟨L4 _,aE,hP,hU,hg0,hY0,d5,d5,hr⟩) ?_)))))))))))
 rintro⟨i,b,S,g,Y,k,cur,own,made⟩ ⟨hi,aE,hP,hU,hg,hY,hn,hm,hr⟩
 obtain⟨a,ha⟩:∃a,dK fs xs af S k cur (pc ps i) mode=a:=⟨_,rfl⟩
 refine SQ (jK 4 [21] [] (NN (cP ((((i:Nat):Int):Int)<(((ps.length:Nat):Int):Int)) (λyQ=>?_) (λyQ=>?_))))
 ·refine KX (av.seq (av.block (av.seq (av.pW (S:=[.aD b1 (uV (toR S g) Y af U fs.length xs.length (↑k)) 47,.aD b4 [vI (cur),.bool own,vI (made),vI 0,vI 0] 78]) (wo [0,1,2,3,4,5,6,7] (oJ 14 [(false,15),(false,16),(false,17),(false,18)] [(false,8),(true,9),(true,10),(true,11),(true,12),(true,13)])) [0,3] (gT (oJ 14 [(false,15),(false,16),(false,17),(false,18)] [(false,8),(true,9),(true,10),(true,11),(true,12),(true,13)]) [(2,.slice A (ps.length) (oF)),(3,vI (mode)),(4,vP b1),(8,vP b2),(9,vP b3),(10,vP b4),(11,vI ↑i),(25,.agg ⟨uV (toR S g) Y af U fs.length xs.length (↑k)⟩),(27,vI (cur)),(31,.string (pc ps i)),(32,vI (mode))] [0,1,2,3,4,5,6,7] [(0,A_ 0 b1 16),(2,a_ 1 b4),(5,x_ i ps.length (jg.hd hP (j:=i) d5)),(6,p_ ⟨[.old (.string (pc ps i))],none,none,none,none⟩ [(Rd b ⟨(bG A),bE A+i*1,none⟩ (.string (pc ps i)))] ⟨jg.rd hP d5,trivial⟩)] (lX.one (j:=14) (dj:=12) (R:=λf_ l_=>∃ans:Int,∃mk:Int,∃ga:List Int,∃Ya:RL,f_=[(37,vI (a.code)),(36,vI (mk)),(35,vI (ans)),(34,.agg ⟨uV (toR a.S ga) Ya af U fs.length xs.length (↑a.n)⟩),(24,.tuple #[.agg ⟨uV (toR a.S ga) Ya af U fs.length xs.length (↑a.n)⟩,vI (ans),vI (mk),vI (a.code)]),(33,.tuple #[.agg ⟨uV (toR a.S ga) Ya af U fs.length xs.length (↑a.n)⟩,vI (ans),vI (mk),vI (a.code)]),(2,.slice A (ps.length) (oF)),(3,vI (mode)),(4,vP b1),(8,vP b2),(9,vP b3),(10,vP b4),(11,vI ↑i),(25,.agg ⟨uV (toR S g) Y af U fs.length xs.length (↑k)⟩),(27,vI (cur)),(31,.string (pc ps i)),(32,vI (mode))]/\l_=[.abs (jL b (λβ'=>(a.code=0->ans=a.next)/\mk=(if a.made=true then 1 else 0)/\Pair a.S ga/\dJ β' (toR a.S ga) Ya))]) [0,3] [(false,8,33),(true,9,24),(true,10,34),(true,11,35),(true,12,36),(true,13,37)] (iJ.of (ι:=Nat) (v:=λ(b5:Nat)=>vP b5) (l:=λ(b5:Nat)=>[.aD b5 (uZ) 47]) [33,24,34,35,36,37] rfl rfl rfl rfl ?_) ?_ ?_))))))
  ·intro u Aq
   exact jB 1 [12] (λb5=>.aD b5 (uZ) 47) (λb5=>NL (MD b5 [12,33,24,34,35,36,37,2,3,4,8,9,10,11,25,27,31,32] [1,0]))
  ·refine ef.step (iJ.of (ι:=Int×Int×(List Int)×RL) (v:=λ((ans,mk,ga,Ya):Int×Int×(List Int)×RL)=>.tuple #[.agg ⟨uV (toR a.S ga) Ya af U fs.length xs.length (↑a.n)⟩,vI (ans),vI (mk),vI (a.code)]) (l:=λ((ans,mk,ga,Ya):Int×Int×(List Int)×RL)=>[.abs (jL b (λβ'=>(a.code=0->ans=a.next)/\mk=(if a.made=true then 1 else 0)/\Pair a.S ga/\dJ β' (toR a.S ga) Ya))]) [12] rfl rfl rfl rfl ?_) ?_
   ·intro u Aq
    refine gL [] (YM (β:=b) hg Y hY af U fs xs k d5 hU hfl hX cur (pc ps i) (ay i d5) mode ha) ?_
    rintro _ _ ⟨ans,mk,ga,Ya,rfl,rfl⟩
    exact NL (MD (ans,mk,ga,Ya) [33,12,2,3,4,8,9,10,11,25,27,31,32] [0,1])
   rintro _ _ ⟨⟨ans,mk,ga,Ya⟩,rfl,rfl⟩
   exact ef.read (.tuple #[.agg ⟨uV (toR a.S ga) Ya af U fs.length xs.length (↑a.n)⟩,vI (ans),vI (mk),vI (a.code)]) (ef.read (.agg ⟨uV (toR a.S ga) Ya af U fs.length xs.length (↑a.n)⟩) (ef.read (.int .i64 (ans)) (ef.read (.int .i64 (mk)) (ef.read (.int .i64 (a.code)) ⟨ans,mk,ga,Ya,rfl,rfl⟩))))
  rintro _ _ ⟨ans,mk,ga,Ya,rfl,rfl⟩ _ _ ⟨b5,rfl,rfl⟩
  refine kC [2,5] [] [(0,A_ 1 b5 16)] [(1,(zC (uV (toR a.S ga) Ya af U fs.length xs.length (↑a.n))))] (eH.cut (ι:=Unit) (bN:=λ(_:Unit)=>[(2,.slice A (ps.length) (oF)),(3,vI (mode)),(4,vP b1),(8,vP b2),(9,vP b3),(10,vP b4),(11,vI ↑i),(12,vP b5),(13,vI (ans)),(36,vI (mk)),(37,vI (a.code))]) (dh:=λ(_:Unit)=>[.abs (jL b (λβ'=>(a.code=0->ans=a.next)/\mk=(if a.made=true then 1 else 0)/\Pair a.S ga/\dJ β' (toR a.S ga) Ya)),.aD b5 (uV (toR a.S ga) Ya af U fs.length xs.length (↑a.n)) 47,.aD b1 (uV (toR S g) Y af U fs.length xs.length (↑k)) 47,.aD b2 (uZ) 47,.aD b3 [vI 0,.bool false,vI 0,vI 0,vI 0] 78,.aD b4 [vI (cur),.bool own,vI (made),vI 0,vI 0] 78,.abs R]) [2,5] d6 ?_ rfl (λ_=>d6) ?_)
  ·exact jK 1 [13] [] (NL (MD () [2,3,4,8,9,10,11,12,13,36,37] [0,1,2,3,4,5,6]))
  rintro _
  refine eH.cut (ι:=Unit) (bN:=λ(_:Unit)=>[(2,.slice A (ps.length) (oF)),(3,vI (mode)),(4,vP b1),(8,vP b2),(9,vP b3),(10,vP b4),(11,vI ↑i),(12,vP b5),(13,vI (ans)),(14,vI (mk)),(37,vI (a.code))]) (dh:=λ(_:Unit)=>[.abs (jL b (λβ'=>(a.code=0->ans=a.next)/\mk=(if a.made=true then 1 else 0)/\Pair a.S ga/\dJ β' (toR a.S ga) Ya)),.aD b5 (uV (toR a.S ga) Ya af U fs.length xs.length (↑a.n)) 47,.aD b1 (uV (toR S g) Y af U fs.length xs.length (↑k)) 47,.aD b2 (uZ) 47,.aD b3 [vI 0,.bool false,vI 0,vI 0,vI 0] 78,.aD b4 [vI (cur),.bool own,vI (made),vI 0,vI 0] 78,.abs R]) [2,5] d6 ?_ rfl (λ_=>d6) ?_
  ·exact jK 1 [14] [] (NL (MD () [2,3,4,8,9,10,11,12,13,14,37] [0,1,2,3,4,5,6]))
  rintro _
  refine eH.last d6 (jK 1 [15] [] (NL (aF.np (NX (SR (aB.tL 0 [1,2,3,4,5,6] (gj:=[.aD b5 (uV (toR a.S ga) Ya af U fs.length xs.length (↑a.n)) 47,.aD b1 (uV (toR S g) Y af U fs.length xs.length (↑k)) 47,.aD b2 (uZ) 47,.aD b3 [vI 0,.bool false,vI 0,vI 0,vI 0] 78,.aD b4 [vI (cur),.bool own,vI (made),vI 0,vI 0] 78,.abs R]) rfl rfl d6 (λFx lN ⟨han,hmk,hga,HE⟩=>?_)))))))
  replace hU:=hU.le lN
  replace hP:=hP.le lN
  replace aE:=aE.trans lN
  obtain⟨m2,hm2⟩:∃m2,(if a.made=true then made+1 else made)=m2:=⟨_,rfl⟩
  obtain⟨Tn,Yw,hm5⟩:=aby (made:=made) hmk
  have hna:a.n<=k+3:=by rw [←ha];exact Fa
  refine jC 2 [] [(0,A_ 0 b5 16),(1,A_ 1 b1 16)] [(1,[(0,.slice Ya.A ((toR a.S ga).ns.length) (Ya.c)),(1,.slice Ya.G ((toR a.S ga).aJ.length) (Ya.cg)),(2,vI ((toR a.S ga).cH)),(3,vI ((toR a.S ga).aL)),(4,.slice Ya.H ((toR a.S ga).us.length) (Ya.ch)),(5,.slice Ya.V ((toR a.S ga).us.length) (Ya.cv)),(6,vI ((toR a.S ga).cN)),(7,vI ((toR a.S ga).cB)),(8,vI ((toR a.S ga).cH)),(9,vI ((toR a.S ga).cS)),(10,vI ((toR a.S ga).cZ)),(11,vI ((toR a.S ga).last)),(15,vI ↑a.n)])] (NS (jC 6 [] [(1,a_ 4 b4),(3,w_ (.int .i64 (m2)) (vw (Tn.trans hm2) d5 d5)),(5,a_ 4 b4)] [(4,[(2,vI (m2))])] (NZ (jK 2 [45] [] (NN (cN ((a.code:Int)=(0:Int)) (λvH=>?_) (λvH=>?_)))))))
  ·refine av.seq (av.seq ?_)
   rcases Bool.eq_false_or_eq_true own with rfl|rfl
   ·refine av.region (jK 2 [47] [(1,a_ 4 b4)] (NT (av.region (jK 3 [49,51] [(0,A_ 1 b1 16),(2,a_ 4 b4)] ?_))))
    obtain⟨Sc,cc,ec⟩:∃Sx cx,bq fs xs af (a.n+1) a.S (fL cur)=(Sx,cx):=⟨_,_,rfl⟩
    refine ia [] (Cg (β:=Fx) hga Ya HE af U fs xs a.n d5 hU hfl hX cur ec) ?_
    rintro ql _ _ cU ⟨gc,Yc,rfl,rfl,hgc,hYc⟩
    replace hU:=hU.le cU
    replace hP:=hP.le cU
    replace HE:=HE.le cU
    replace aE:=aE.trans cU
    refine jC 4 [] [(3,A_ 1 b1 16)] [(1,[(0,.slice Yc.A ((toR Sc gc).ns.length) (Yc.c)),(1,.slice Yc.G ((toR Sc gc).aJ.length) (Yc.cg)),(2,vI ((toR Sc gc).cH)),(3,vI ((toR Sc gc).aL)),(4,.slice Yc.H ((toR Sc gc).us.length) (Yc.ch)),(5,.slice Yc.V ((toR Sc gc).us.length) (Yc.cv)),(6,vI ((toR Sc gc).cN)),(7,vI ((toR Sc gc).cB)),(8,vI ((toR Sc gc).cH)),(9,vI ((toR Sc gc).cS)),(10,vI ((toR Sc gc).cZ)),(11,vI ((toR Sc gc).last)),(15,vI ↑(a.n+1))])] (NN (av.seq (rM (List.range 8) 6 [1,4] (jR 6 [8,9,55,60] [(0,A_ 0 b1 16),(2,a_ 1 b4)] (nC [1,4] [] [(0,A_ 2 b2 16)] [(2,(zC (uV (toR Sc gc) Yc af U fs.length xs.length (↑(a.n+1)))))] (cC.last rfl rfl (jC 1 [] [(0,A_ 3 b3 5)] [(3,[(2,vI (m2)),(3,vI (a.code)),(4,vI ↑i)])] (NL (aF.np (NX (av.ret (aF.br (aF.fM (aF.br (aF.br (aF.fM (aF.br ?_)))))))))))))))))
    have hr2:r=⟨Sc,a.n+1,0,false,m2,a.code,(i:Int)⟩:=by rw [←hr,mY d5,rG (by rw [ha];exact vH),ha,hm2];exact Ar ec
    subst hr2
    exact rB (.tuple #[.agg ⟨uV (toR Sc gc) Yc af U fs.length xs.length (↑(a.n+1))⟩,.agg #[vI 0,.bool false,vI (m2),vI (a.code),vI ↑i]]) [A_ 2 b2 16,A_ 3 b3 5] [5] aE (⟨gc,Yc,rfl,rfl,hgc,hYc⟩)
   refine av.region (jK 2 [47] [(1,a_ 4 b4)] (NF (KX (av.seq (rM (List.range 8) 6 [1,4] (jR 6 [8,9,55,60] [(0,A_ 0 b1 16),(2,a_ 1 b4)] (nC [1,4] [] [(0,A_ 2 b2 16)] [(2,(zC (uV (toR a.S ga) Ya af U fs.length xs.length (↑a.n))))] (cC.last rfl rfl (jC 1 [] [(0,A_ 3 b3 5)] [(3,[(2,vI (m2)),(3,vI (a.code)),(4,vI ↑i)])] (NL (aF.np (NX (av.ret (aF.br (aF.fM (aF.br (aF.br (aF.fM (aF.br ?_)))))))))))))))))))
   have hr2:r=⟨a.S,a.n,0,false,m2,a.code,(i:Int)⟩:=by rw [←hr,mY d5,rG (by rw [ha];exact vH),ha,hm2];exact IB
   subst hr2
   exact rB (.tuple #[.agg ⟨uV (toR a.S ga) Ya af U fs.length xs.length (↑a.n)⟩,.agg #[vI 0,.bool false,vI (m2),vI (a.code),vI ↑i]]) [A_ 2 b2 16,A_ 3 b3 5] [5] aE (⟨ga,Ya,rfl,rfl,hga,HE⟩)
  refine KX (SQ (jK 2 [62] [(1,a_ 4 b4)] (NN (av.cond (b:=own) (λ_=>d6) (λD8=>?_) (λD8=>?_)))))
  ·subst D8
   refine SR (jK 3 [64,66] [(0,A_ 1 b1 16),(2,a_ 4 b4)] ?_)
   obtain⟨Sb,cb,eb⟩:∃Sx cx,bq fs xs af (a.n+1) a.S (fL cur)=(Sx,cx):=⟨_,_,rfl⟩
   refine ia [] (Cg (β:=Fx) hga Ya HE af U fs xs a.n d5 hU hfl hX cur eb) ?_
   rintro C3 _ _ iX ⟨gb,Yb,rfl,rfl,hgb,hYb⟩
   replace hU:=hU.le iX
   replace hP:=hP.le iX
   replace HE:=HE.le iX
   replace aE:=aE.trans iX
   refine jC 5 [15] [(3,A_ 1 b1 16)] [(1,[(0,.slice Yb.A ((toR Sb gb).ns.length) (Yb.c)),(1,.slice Yb.G ((toR Sb gb).aJ.length) (Yb.cg)),(2,vI ((toR Sb gb).cH)),(3,vI ((toR Sb gb).aL)),(4,.slice Yb.H ((toR Sb gb).us.length) (Yb.ch)),(5,.slice Yb.V ((toR Sb gb).us.length) (Yb.cv)),(6,vI ((toR Sb gb).cN)),(7,vI ((toR Sb gb).cB)),(8,vI ((toR Sb gb).cH)),(9,vI ((toR Sb gb).cS)),(10,vI ((toR Sb gb).cZ)),(11,vI ((toR Sb gb).last)),(15,vI ↑(a.n+1))])] (NS (jK 2 [71] [] (NN (cN ((cb.code:Int)=(0:Int)) (λh71=>SR (jK 2 [73,74] [(0,A_ 1 b1 16)] ?_)) (λh71=>KX (SR (jC 3 [] [(2,a_ 4 b4)] [(4,[(0,vI (ans))])] (NN (av.region (jC 2 [] [(1,a_ 4 b4)] [] (LX (av.region (jK 3 [11] [(1,wJ ((i:Int)+1) (↑(i+1)))] (NL (tB ((i+1),C3,Sb,gb,Yb,(a.n+1),ans,true,m2) [1,2,3,4,5] (⟨d5,aE,hP,hU,hgb,hYb,d5,d5,by rw [←hr,mY (ps:=ps) (j:=i) d5,vl (by rw [ha];exact vH) rfl (by rw [ha,eb];exact h71),ha,eb,hm2,←han vH];rfl⟩))))))))))))))))
   obtain⟨Sc,cc,ec⟩:∃Sx cx,bq fs xs af (a.n+1+1) Sb (fL ans)=(Sx,cx):=⟨_,_,rfl⟩
   refine ia [] (Cg (β:=C3) hgb Yb hYb af U fs xs (a.n+1) d5 hU hfl hX ans ec) ?_
   rintro Ce _ _ eF ⟨gc,Yc,rfl,rfl,hgc,hYc⟩
   replace hU:=hU.le eF
   replace hP:=hP.le eF
   replace HE:=HE.le eF
   replace hYb:=hYb.le eF
   replace aE:=aE.trans eF
   refine jC 4 [] [(3,A_ 1 b1 16)] [(1,[(0,.slice Yc.A ((toR Sc gc).ns.length) (Yc.c)),(1,.slice Yc.G ((toR Sc gc).aJ.length) (Yc.cg)),(2,vI ((toR Sc gc).cH)),(3,vI ((toR Sc gc).aL)),(4,.slice Yc.H ((toR Sc gc).us.length) (Yc.ch)),(5,.slice Yc.V ((toR Sc gc).us.length) (Yc.cv)),(6,vI ((toR Sc gc).cN)),(7,vI ((toR Sc gc).cB)),(8,vI ((toR Sc gc).cH)),(9,vI ((toR Sc gc).cS)),(10,vI ((toR Sc gc).cZ)),(11,vI ((toR Sc gc).last)),(15,vI ↑(a.n+1+1))])] (NN (av.seq (rM (List.range 8) 6 [1,4] (jR 6 [8,9,78,83] [(0,A_ 0 b1 16),(2,a_ 1 b4)] (nC [1,4] [] [(0,A_ 2 b2 16)] [(2,(zC (uV (toR Sc gc) Yc af U fs.length xs.length (↑(a.n+1+1)))))] (cC.last rfl rfl (jC 1 [] [(0,A_ 3 b3 5)] [(3,[(2,vI (m2)),(3,vI (cb.code)),(4,vI ↑i)])] (NL (aF.np (NX (av.ret (aF.br (aF.fM (aF.br (aF.br (aF.fM (aF.br ?_)))))))))))))))))
   have hr2:r=⟨Sc,a.n+1+1,0,false,m2,cb.code,(i:Int)⟩:=by rw [←hr,mY d5,vU (by rw [ha];exact vH) rfl (by rw [ha,eb];exact h71),ha,eb,hm2,←han vH];exact Ar ec
   subst hr2
   exact rB (.tuple #[.agg ⟨uV (toR Sc gc) Yc af U fs.length xs.length (↑(a.n+1+1))⟩,.agg #[vI 0,.bool false,vI (m2),vI (cb.code),vI ↑i]]) [A_ 2 b2 16,A_ 3 b3 5] [5] aE (⟨gc,Yc,rfl,rfl,hgc,hYc⟩)
  subst D8
  exact KX (SR (jC 3 [] [(2,a_ 4 b4)] [(4,[(0,vI (ans))])] (NN (av.region (jC 2 [] [(1,a_ 4 b4)] [(4,[(1,.bool true)])] (LX (av.region (jK 3 [11] [(1,wJ ((i:Int)+1) (↑(i+1)))] (NL (tB ((i+1),Fx,a.S,ga,Ya,a.n,ans,true,m2) [1,2,3,4,5] (⟨d5,aE,hP,hU,hga,HE,d5,d5,by rw [←hr,mY (ps:=ps) (j:=i) d5,xq (by rw [ha];exact vH) d8,ha,hm2,←han vH];rfl⟩)))))))))))
 refine XX (av.seq (rM [0,1,2,3] 2 [0,3] (jR 2 [8,9,87,88] [(0,A_ 0 b1 16),(1,A_ 1 b4 5)] (nC [0,3] [] [(0,A_ 1 b2 16)] [(1,(zC (uV (toR S g) Y af U fs.length xs.length (↑k))))] (cC.last rfl rfl (jC 1 [] [(0,A_ 2 b3 5)] [(2,[(0,vI (cur)),(1,.bool own),(2,vI (made))])] (NL (aF.np (NX (av.ret ?_))))))))))
 have hi2:i=ps.length:=d5
 have hr2:r=⟨S,k,cur,own,made,0,0⟩:=by rw [←hr,hi2,List.drop_length,E8]
 subst hr2
 exact rB (.tuple #[.agg ⟨uV (toR S g) Y af U fs.length xs.length (↑k)⟩,.agg #[vI (cur),.bool own,vI (made),vI 0,vI 0]]) [A_ 1 b2 16,A_ 2 b3 5] [4] aE (⟨g,Y,rfl,rfl,hg,hY⟩)
end
section
open Go.RowKit Go.Maps bw aH
section q
variable {fs:List ck} {xs:List cI} {af:Int} {S S2:aZ} {c2:aK} {n:Nat} {mode:Int}
theorem YN:bq fs xs af n S (qq 0)=bq fs xs af n S (qq af):=by
 rw [←Hv (c:=qq 0),show cr af (qq 0)=qq af from t8 rfl]
theorem abB (hu:S.us=[]) (e:bq fs xs af n S (qq af)=(S2,c2)):(Lit.int .i64 c2.answer).wf=true:=by
 have qW:=(Al (af:=af) (S:=S) (xs:=dm xs n)).1
 unfold bq at e
 rw [show cr af (qq af)=qq af from rfl] at e
 unfold dY at e
 split at e
 ·cases e;rfl
 split at e
 ·cases e;rfl
 split at e
 ·rename_i q;exact KB q.2.1 (by show (1:Int)≠9;decide)
 obtain⟨A,hA⟩:∃A,A=jh af S (dm xs n):=⟨_,rfl⟩
 rw [←hA] at e qW
 unfold fF at e
 rw [vM (c:={qq af with answer:=0,code:=230}) rfl] at e
 unfold kP at e
 split at e
 ·cases e;rfl
 split at e
 ·by_cases hl:(A.us.length:Int)<A.X.cH
  ·rw [mB hl] at e
   cases e
   show (Lit.int .i64 (aR A.us)).wf=true
   rw [qW,hu]
   rfl
  rw [om hl] at e;cases e;rfl
 cases e;rfl
theorem D4:∀(ps:List ByteArray) (i:Int) (S:aZ) (n:Nat) (cur:Int) (own:Bool) (made:Int),((jw fs xs af mode ps i S n cur own made).code=0->(jw fs xs af mode ps i S n cur own made).at_=0)/\(¬(jw fs xs af mode ps i S n cur own made).code=0->(jw fs xs af mode ps i S n cur own made).cur=0/\(jw fs xs af mode ps i S n cur own made).own=false)
 |[],_,_,_,_,_,_=>⟨λ_=>rfl,λh=>KB rfl h⟩
 |p::r,i,S,n,cur,own,made=>by
   have hf:∀(S':aZ) (m:Nat) (c:Int) (o:Bool) (d e j:Int),¬e=0->((mH fs xs af S' m c o d e j).code=0->(mH fs xs af S' m c o d e j).at_=0)/\(¬(mH fs xs af S' m c o d e j).code=0->(mH fs xs af S' m c o d e j).cur=0/\(mH fs xs af S' m c o d e j).own=false):=by
    intro S' m c o d e j h
    unfold mH
    split
    ·exact⟨λq=>KB q h,λ_=>⟨rfl,rfl⟩⟩
    exact⟨λq=>KB q h,λ_=>⟨rfl,rfl⟩⟩
   by_cases h1:(dK fs xs af S n cur p mode).code=0
   ·by_cases h2:own=true
    ·by_cases h3:(bq fs xs af ((dK fs xs af S n cur p mode).n+1) (dK fs xs af S n cur p mode).S (fL cur)).2.code=0
     ·rw [vl h1 h2 h3]
      exact D4 r _ _ _ _ _ _
     rw [vU h1 h2 h3]
     exact hf _ _ _ _ _ _ _ h3
    rw [xq h1 h2]
    exact D4 r _ _ _ _ _ _
   rw [rG h1]
   exact hf _ _ _ _ _ _ _ h1
end q
structure LvR where
 S:aZ
 n:Nat
 code:Int
abbrev Kn:Type:={E:Value // E=.nilIface\/∃e,E=.iface 112 (vP e)}
section l
variable {β:Bs} {G:WG} {fs:List ck} {xs:List cI} {af:Int} {S SL:aZ} {V:WV} {tr os:List aK} {n i k:Nat} {h cur:Int} {r:Ms} {q:LvR} {A:Option Addr} {oF:Nat} {ps:List ByteArray} {mode:Int} {own:Bool} {g:List Int}
theorem abC (hrw:(Lit.int .i64 af).wf=true) (hI:bB S) (hn:tr.length=n) (hn2:n+4*ps.length+4<=8388607) (hZ:kK β G.Z xs) (hX:fS xs 1048576) (hg:iO β) (hE:oC β) (hw:(Lit.int .i64 h).wf=true) (hpl:ps.length<=1048576) (ay:∀i,i<ps.length->(pc ps i).size<=1048576) (hr:jw fs xs af mode ps 0 S n h false 0=r) :
 aU Tryz.prog β 12 (AY G h A ps.length oF mode) [wA G fs xs af S V tr,FL A ps.length oF ps] (λv l=>∃(V':WV) (q:{l:List aK // l.length=r.n/\lD fs xs af tr S l r.S}) (E:Kn),v=.tuple #[.agg #[.int .i64 r.cur,.bool r.own,.int .i64 r.made],E.1]/\l=[wA G fs xs af r.S V' q.1]):=by
 by_cases hc:r.code=0
 ·exact (Vx hc hrw hI hn hn2 hZ hX hg hE hw hpl ay hr).mono (by rintro v l ⟨V',q,rfl,rfl⟩;exact⟨V',q,⟨_,.inl rfl⟩,rfl,rfl⟩)
 intro A w hS
 refine (RM hc hrw hI hn hn2 hZ hX hg hE hw hpl ay hr A w hS).mono ?_
 rintro e w' ⟨v,l,he,⟨V',q,e1,nm,rfl,rfl⟩,gG⟩
 have hs:=D4 (fs:=fs) (xs:=xs) (af:=af) (mode:=mode) ps 0 S n h false 0
 rw [hr] at hs
 obtain⟨q1,q2⟩:=hs.2 hc
 exact⟨_,[wA G fs xs af r.S V' q.1],he,⟨V',q,⟨_,.inr ⟨e1,rfl⟩⟩,by rw [q1,q2],rfl⟩,gG.pick (ax:=[0,2]) rfl rfl⟩
noncomputable def FO (fs:List ck) (xs:List cI) (af:Int) (S:aZ) (n:Nat) (cur:Int) (own:Bool):LvR:=
 if own=true then ⟨(bq fs xs af (n+1) S (fL cur)).1,n+1,(bq fs xs af (n+1) S (fL cur)).2.code⟩ else ⟨S,n,0⟩
theorem abD:(FO fs xs af S n cur own).n<=n+1:=by unfold FO;split<;>simp
theorem YO (hrw:(Lit.int .i64 af).wf=true) (hI:bB S) (hn:tr.length=n) (hn2:n<=8388607) (hZ:kK β G.Z xs) (hX:fS xs 1048576) (hg:iO β) (cur made:Int) (hw:(Lit.int .i64 cur).wf=true) (own:Bool) (hr:FO fs xs af S n cur own=q) :
 bK Tryz.prog β 21 #[.agg #[.iface 37 (vP G.w)],.agg #[.int .i64 cur,.bool own,.int .i64 made]] [wA G fs xs af S V tr] (λ_ v l=>∃(V':WV) (p:{l:List aK // l.length=q.n/\lD fs xs af tr S l q.S}),v=.int .i64 q.code/\l=[wA G fs xs af q.S V' p.1]):=by
 subst hn
 subst hr
 cases own
 ·intro A w hS
  refine ((RJ G cur made).use (R:=[wA G fs xs af S V tr,.abs A]) hS).mono ?_
  rintro e w' ⟨v,l,he,⟨rfl,rfl⟩,gG⟩
  exact⟨β,_,_,hS.1.Cy,he,⟨V,⟨tr,rfl,lD.refl⟩,rfl,rfl⟩,gG⟩
 exact (abf (V:=V) (S2:=(bq fs xs af (tr.length+1) S (fL cur)).1) (c2:=(bq fs xs af (tr.length+1) S (fL cur)).2) hrw hI hn2 hZ hX hg cur made hw rfl).mono (by
  rintro _ v l _ ⟨V',p,h1,h2,h3⟩
  exact⟨V',⟨p.1,p.2,h3⟩,h1,h2⟩)
theorem VH (hg:Pair S g) (Y:RL) (hY:dJ β (toR S g) Y) (af:Int) (U:UL) (fs:List ck) (xs:List cI) (k:Nat) (hk:k<=8388600) (hU:Bc β U fs xs) (hfl:fs.length<=2097152) (hX:fS xs 1048576) (cur made code at_:Int) (own:Bool) (hr:FO fs xs af S k cur own=q) :
 bK Tryz.prog β 22 #[.agg ⟨uV (toR S g) Y af U fs.length xs.length k⟩,.agg #[.int .i64 cur,.bool own,.int .i64 made,.int .i64 code,.int .i64 at_]] [] (λβ' v l=>∃g' Y',v=.tuple #[.agg ⟨uV (toR q.S g') Y' af U fs.length xs.length q.n⟩,.int .i64 q.code]/\l=[]/\Pair q.S g'/\dJ β' (toR q.S g') Y'):=by
 subst hr
 cases own
 ·exact QS hg Y hY af U fs xs k cur made code at_
 exact YL (S2:=(bq fs xs af (k+1) S (fL cur)).1) (c2:=(bq fs xs af (k+1) S (fL cur)).2) hg Y hY af U fs xs k hk hU hfl hX cur made code at_ rfl
theorem rU.step (h:rU fs xs af i S (tr.drop i) SL) (hi:i<tr.length) (hm:os.map bare=tr.map bare):∃S1,bq fs xs af (i+1) S (ez os i)=(S1,ez os i)/\(mE (ez os i).op/\(ez os i).data=[])/\(ez os i).name.size<=1048576/\(ez os i).text.size<=1048576/\rU fs xs af (i+1) S1 (tr.drop (i+1)) SL:=by
 have hc:ez tr i=tr[i]:=by unfold ez;simp [hi]
 rw [aiR hi,←hc] at h
 obtain⟨S1,h1,h2,h3,h4,h5⟩:=h
 have e:=Tm (adC hm i).symm
 rw [e]
 exact⟨S1,Mi.trans (by rw [h1]),h2,h3,h4,h5⟩
end l
def abE:aO:=⟨1,2,493,0,0,0,0,[],⟨#[]⟩,[⟨⟨#[97]⟩,2⟩,⟨⟨#[115]⟩,3⟩]⟩
def ahv:aO:=⟨2,2,493,0,0,0,0,[],⟨#[]⟩,[]⟩
def ahw:aO:=⟨3,3,0,0,0,0,0,[],⟨#[97]⟩,[]⟩
def C4:List aO:=[abE,ahv,ahw]
theorem QT {i:Nat} (h:i<C4.length):i=0\/i=1\/i=2:=by
 have h:i<3:=h
 omega
theorem agC:cE C4:=by
 refine⟨d8,λi hi=>?_,λi hi=>?_,λi j hij hj=>?_,d8,λi hi j hj=>?_,d8,λz=>?_⟩
 ·rcases QT hi with rfl|rfl|rfl
  ·exact⟨d8,d8,d8,d8,BO,λ_=>rfl,λh=>KB rfl h,.inl ⟨d8,rfl⟩⟩
  ·exact⟨d8,d8,d8,d8,BO,λ_=>rfl,λh=>KB rfl h,.inl ⟨d8,rfl⟩⟩
  exact⟨d8,d8,d8,d8,BO,λ_=>rfl,λ_=>rfl,.inr ⟨rfl,d8,d8,λj hj=>by
   have:j=0:=by have hj:j<1:=hj;omega
   subst this;decide⟩⟩
 ·rcases QT hi with rfl|rfl|rfl<;>exact⟨d8,d8⟩
 ·rcases QT hj with rfl|rfl|rfl
  ·omega
  ·have:i=0:=d5
   subst this;decide
  have:i=0\/i=1:=d5
  rcases this with rfl|rfl<;>decide
 ·rcases QT hi with rfl|rfl|rfl
  ·have hj:j<2:=hj
   have:j=0\/j=1:=d5
   rcases this with rfl|rfl
   ·exact⟨d8,AF d8 d8 d8,by show ¬ja ⟨#[97]⟩ ⟨#[]⟩;unfold ja;decide +kernel⟩
   exact⟨d8,AF d8 d8 d8,by show ¬ja ⟨#[115]⟩ ⟨#[97]⟩;unfold ja;decide +kernel⟩
  ·exact KB hj (N5 j)
  exact KB hj (N5 j)
 have e:(jx C4 C4.length).map (lC C4)=[(2,1)]:=d8
 rw [e]
 by_cases h:z=2
 ·subst h;exact⟨1,1,rfl,rfl⟩
 exact⟨0,by show up [(2,1)] z=none;simp [up,h]⟩
theorem agD {β:Bs} {B:Option Addr} {e:Nat} (hR:cq β B (bS ⟨λ_=>none,λi=>if i=0 then some ⟨e,0,none⟩ else none,λ_=>0,λi=>if i=0 then 2 else 0⟩ C4)) (h1:cV β (some ⟨e,0,none⟩) abE.aq):aN β B C4 ⟨λ_=>none,λi=>if i=0 then some ⟨e,0,none⟩ else none,λ_=>0,λi=>if i=0 then 2 else 0⟩:=by
 have hn:∀{A:Option Addr},cq β A []:=λj v hj=>by simp at hj
 refine⟨hR,λi hi=>?_,λi hi=>?_⟩
 ·rcases QT hi with rfl|rfl|rfl<;>exact hn
 rcases QT hi with rfl|rfl|rfl
 ·exact h1
 ·exact hn
 exact hn
theorem ahx:kA C4 1048576:=⟨d8,λi hi=>by
 rcases QT hi with rfl|rfl|rfl
 ·refine⟨by unfold uU;decide,d8,d8,d8,λj hj=>?_⟩
  have hj:j<2:=hj
  have:j=0\/j=1:=d5
  rcases this with rfl|rfl<;>exact⟨by unfold uU;decide,d8⟩
 ·exact⟨by unfold uU;decide,d8,d8,d8,λj hj=>KB hj (N5 j)⟩
 exact⟨by unfold uU;decide,d8,d8,d8,λj hj=>KB hj (N5 j)⟩⟩
structure RlV (S:aZ):Prop where
 inv:bB S
 ax:S.ax=[(1,⟨1,2⟩),(2,⟨2,2⟩),(3,⟨3,3⟩)]
 us:S.us=[]
 X:S.X=⟨9,99,9,0,0,3,2,0⟩
 o1:∃l u,ah S.O 1=⟨1,493,0,0,0,0,l,0,false,2,[],⟨#[]⟩,[(⟨#[97]⟩,⟨2,2⟩),(⟨#[115]⟩,⟨3,3⟩)],u⟩
 o2:∃l u,ah S.O 2=⟨2,493,0,0,0,0,l,0,false,2,[],⟨#[]⟩,[],u⟩
section v
variable {S:aZ}
theorem afG (h:kV (PL 99) C4 C4.length 0 S):RlV S:=by
 obtain⟨l1,u1,h1⟩:=h.ob 0 d8
 obtain⟨l2,u2,h2⟩:=h.ob 1 d8
 exact⟨h.full,h.ax,h.us,h.cap,⟨l1,u1,h1⟩,⟨l2,u2,h2⟩⟩
theorem afH:bW ⟨#[97]⟩:=AF d8 d8 d8
theorem YP:bW ⟨#[98]⟩:=AF d8 d8 d8
theorem afI:bW ⟨#[115]⟩:=AF d8 d8 d8
theorem C5 {af:Int} {n:Nat} {c:aK} (h:c.op≠1):bq [] [] af n S c=fF S c:=by
 unfold bq cr
 rw [nw h]
 rfl
theorem QU {h:Int} {name:ByteArray} {d:Nat} (ha:ic S.O S.us h name 64=.ok d) {e:Int} (hl:(match bF name (ah S.O d).aq with|none=>170|some t=>if t.kind=3 then 174 else 0)=e) (he:e≠0):fF S (jT h name)=(S,{jT h name with code:=e}):=by
 unfold fF
 rw [uj (c:={jT h name with answer:=0,code:=230}) rfl]
 unfold gh jU
 simp only
 rw [ha]
 simp only
 cases hq:bF name (ah S.O d).aq with
 |none=>rw [hq] at hl;subst hl;rfl
 |some t=>
   rw [hq] at hl
   simp only at hl ⊢
   by_cases h3:t.kind=3
   ·rw [t8 h3] at hl
    subst hl
    rw [t8 h3]
   rw [nw h3] at hl
   exact KB hl.symm he
theorem TG (h:RlV S):bq [] [] 1 1 S (qq 1)=(S1 S,{qq 1 with answer:=1,code:=0}):=by
 have:=adh (S:=S) (c:=qq 1) (t:=⟨1,2⟩) rfl (by rw [h.ax];rfl) rfl (by rw [h.us,h.X];show (0:Int)<9;decide)
 rw [h.us] at this
 exact this
theorem abF (h:RlV S):∃S2,jw [] [] 1 448 [⟨#[97]⟩,⟨#[98]⟩] 0 (S1 S) 1 1 false 0=⟨S2,6,3,true,1,0,0⟩/\S2.ax.length=4/\jw [] [] 1 448 [⟨#[115]⟩,⟨#[120]⟩] 0 S2 6 1 false 0=⟨S2,7,0,false,0,174,0⟩:=by
 obtain⟨l1,u1,h1⟩:=h.o1
 obtain⟨l2,u2,h2⟩:=h.o2
 obtain⟨A,hA⟩:∃A,A=S1 S:=⟨_,rfl⟩
 have a1:ah A.O 1=⟨1,493,0,0,0,0,l1,1,false,2,[],⟨#[]⟩,[(⟨#[97]⟩,⟨2,2⟩),(⟨#[115]⟩,⟨3,3⟩)],u1⟩:=by rw [hA,ahb,h1];rfl
 have a2:ah A.O 2=⟨2,493,0,0,0,0,l2,0,false,2,[],⟨#[]⟩,[],u2⟩:=by rw [hA];exact ahc.trans h2
 have aX:A.X=⟨9,99,9,0,0,3,2,0⟩:=by rw [hA];exact h.X
 have ai:A.ax=[(1,⟨1,2⟩),(2,⟨2,2⟩),(3,⟨3,3⟩)]:=by rw [hA];exact h.ax
 have au:A.us=[(1,⟨1,2⟩)]:=by rw [hA];rfl
 rw [←hA]
 clear hA
 have e1:=JU (S:=A) (c:=jT 1 ⟨#[97]⟩) rfl (DT (t:=⟨1,2⟩) (by rw [au];rfl) rfl (by rw [a1]) afH (by rw [a1];exact JV)) (t:=⟨2,2⟩) (by rw [a1];rfl) rfl (by rw [au,aX];show (1:Int)<9;decide)
 rw [←C5 (af:=1) (n:=2) d8,show aR A.us=2 by rw [au];rfl] at e1
 obtain⟨B,hB⟩:∃B:aZ,B={A with O:=bD A.O 2 (λo=>{o with aQ:=o.aQ+1}),us:=ins 2 ⟨2,2⟩ A.us,aL:=max A.aL ((A.us.length:Int)+1)}:=⟨_,rfl⟩
 rw [←hB] at e1
 have b1:ah B.O 1=ah A.O 1:=by rw [hB];rfl
 have b2:ah B.O 2=⟨2,493,0,0,0,0,l2,1,false,2,[],⟨#[]⟩,[],u2⟩:=by rw [hB];show {ah A.O 2 with aQ:=(ah A.O 2).aQ+1}=_;rw [a2];rfl
 have bX:B.X=A.X:=by rw [hB]
 have bi:B.ax=A.ax:=by rw [hB]
 have bu:B.us=[(1,⟨1,2⟩),(2,⟨2,2⟩)]:=by rw [hB];show ins 2 ⟨2,2⟩ A.us=_;rw [au];rfl
 rw [a1] at b1;rw [aX] at bX;rw [ai] at bi
 clear hB a1 a2 aX ai au
 have gF:∀fH:Int,bits BinOp.and .i64 493 fH=fH->ic B.O B.us 2 ⟨#[98]⟩ fH=.ok 2:=λfH hn=>DT (t:=⟨2,2⟩) (by rw [bu];rfl) rfl (by rw [b2]) YP (by rw [b2];exact hn)
 have e2:=QU (S:=B) (gF 64 JV) (e:=170) (by rw [b2];rfl) d8
 rw [←C5 (af:=1) (n:=3) d8] at e2
 have e3:=aao (S:=B) (c:=BK 2 ⟨#[98]⟩ 448) rfl (gF 192 aeI) ⟨d8,d8⟩ (by rw [b2];rfl) ⟨by rw [bX,bi];show (3:Int)<9;decide,by rw [bX];show (3:Int)<1099511627776;decide,by rw [bX];show (2:Int)<8192;decide⟩
 rw [←C5 (af:=1) (n:=4) d8] at e3
 obtain⟨C,hC⟩:∃C,C=iw B 2 ⟨#[98]⟩ (dN B.X 2 448):=⟨_,rfl⟩
 rw [←hC] at e3
 have hn:dx B.X=4:=by rw [bX];rfl
 have c1:ah C.O 1=ah B.O 1:=by
  rw [hC]
  show ah (dV B.X (bD B.O (dx B.X) (λ_=>dN B.X 2 448)) 2 ⟨#[98]⟩ ⟨dx B.X,2⟩) 1=_
  rw [hn];rfl
 have c2:ah C.O 2=⟨2,493,0,0,0,0,l2,1,false,2,[],⟨#[]⟩,[(⟨#[98]⟩,⟨4,2⟩)],u2⟩:=by
  rw [hC]
  show ah (dV B.X (bD B.O (dx B.X) (λ_=>dN B.X 2 448)) 2 ⟨#[98]⟩ ⟨dx B.X,2⟩) 2=_
  rw [hn]
  show {ah B.O 2 with aq:=kT ⟨#[98]⟩ ⟨4,2⟩ (ah B.O 2).aq,bH:=B.X.cS,bh:=B.X.cZ}=_
  rw [b2,bX];rfl
 have cX:C.X.cH=9:=by rw [hC];show B.X.cH=9;rw [bX]
 have ci:C.ax.length=4:=by rw [hC];show (ins (B.X.last+1) ⟨dx B.X,2⟩ B.ax).length=4;rw [kR,bi];rfl
 have cu:C.us=B.us:=by rw [hC];rfl
 rw [b1] at c1;rw [bu] at cu
 clear hC b1 b2 bX bi bu gF
 have e4:=JU (S:=C) (c:=jT 2 ⟨#[98]⟩) rfl (DT (t:=⟨2,2⟩) (by rw [cu];rfl) rfl (by rw [c2]) YP (by rw [c2];exact JV)) (t:=⟨4,2⟩) (by rw [c2];rfl) rfl (by rw [cu,cX];show (2:Int)<9;decide)
 rw [←C5 (af:=1) (n:=5) d8,show aR C.us=3 by rw [cu];rfl] at e4
 obtain⟨D,hD⟩:∃D:aZ,D={C with O:=bD C.O 4 (λo=>{o with aQ:=o.aQ+1}),us:=ins 3 ⟨4,2⟩ C.us,aL:=max C.aL ((C.us.length:Int)+1)}:=⟨_,rfl⟩
 rw [←hD] at e4
 have d1:ah D.O 1=ah C.O 1:=by rw [hD];rfl
 have d2:ah D.O 2=ah C.O 2:=by rw [hD];rfl
 have di:D.ax.length=4:=by rw [hD];exact ci
 have du:D.us=[(1,⟨1,2⟩),(2,⟨2,2⟩),(3,⟨4,2⟩)]:=by rw [hD];show ins 3 ⟨4,2⟩ C.us=_;rw [cu];rfl
 rw [c1] at d1;rw [c2] at d2
 clear hD c1 c2 cX ci cu
 have e5:=aap (S:=D) (c:=fL 2) (t:=⟨2,2⟩) rfl (by rw [du];rfl)
 rw [←C5 (af:=1) (n:=6) d8] at e5
 obtain⟨F,hF⟩:∃F:aZ,F={D with X:={D.X with used:=oQ (mD D.O 2) D.X.used ⟨2,2⟩},O:=mD D.O 2,ax:=kg (mD D.O 2) D.ax ⟨2,2⟩,us:=del 2 D.us}:=⟨_,rfl⟩
 have e5:bq [] [] 1 6 D (fL 2)=(F,{fL 2 with answer:=0,code:=0}):=by rw [hF];exact e5
 have f1:ah F.O 1=ah D.O 1:=by rw [hF];rfl
 have fi:F.ax.length=4:=by
  rw [hF]
  show (kg (mD D.O 2) D.ax ⟨2,2⟩).length=4
  rw [show kg (mD D.O 2) D.ax ⟨2,2⟩=D.ax from nw (by
   show ¬((ah (mD D.O 2) 2).aJ=true/\_)
   rw [show ah (mD D.O 2) 2={ah D.O 2 with aQ:=(ah D.O 2).aQ-1} from rfl,d2]
   exact λh=>by cases h.1)]
  exact di
 have fu:F.us=[(1,⟨1,2⟩),(3,⟨4,2⟩)]:=by rw [hF];show del 2 D.us=_;rw [du];rfl
 rw [d1] at f1
 clear hF d1 d2 di du
 have e6:=QU (S:=F) (DT (h:=1) (name:=⟨#[115]⟩) (fH:=64) (t:=⟨1,2⟩) (by rw [fu];rfl) rfl (by rw [f1]) afI (by rw [f1];exact JV)) (e:=174) (by rw [f1];rfl) d8
 rw [←C5 (af:=1) (n:=7) d8] at e6
 refine⟨F,?_,fi,?_⟩
 ·have s1:=DM (mode:=448) e1 rfl
  have s2:=Am (mode:=448) e2 (by show (170:Int)≠0;decide) (λh=>h.elim (λh=>h rfl) (λh=>KB h (by decide))) e3 (λh=>h.1 rfl) e4 rfl
  rw [xq (by rw [s1]) d8,s1]
  show jw [] [] 1 448 [⟨#[98]⟩] 1 B 2 2 true 0=_
  rw [vl (by rw [s2]) rfl (by rw [s2];show (bq [] [] 1 6 D (fL 2)).2.code=0;rw [e5]),s2]
  show jw [] [] 1 448 [] 2 (bq [] [] 1 6 D (fL 2)).1 6 3 true 1=_
  rw [e5]
  rfl
 have s3:=yx (mode:=448) e6 (by show (174:Int)≠0;decide) (.inl (by show ¬(174:Int)=170;decide))
 rw [rG (by rw [s3];show (174:Int)≠0;decide),s3]
 rfl
end v
section a
variable {β:Bs} {G:WG} {fs:List ck} {xs:List cI} {af:Int} {S0:aZ} {V0:WV} {yT:List aK} {A:Option Addr} {oF:Nat} {ps:List ByteArray} {mode h:Int} {S:aZ} {n:Nat} {cur made code at_:Int} {own:Bool}
abbrev YQ (cur:Int) (own:Bool) (made:Int):Value:=.agg #[.int .i64 cur,.bool own,.int .i64 made]
theorem abG (hrw:(Lit.int .i64 af).wf=true) (hI:bB S0) (hn:yT.length+4*ps.length+4<=8388607) (hZ:kK β G.Z xs) (hX:fS xs 1048576) (hg:iO β) (hE:oC β) (hw:(Lit.int .i64 h).wf=true) (hP:jg β A ps) (hpl:ps.length<=1048576) (ay:∀i,i<ps.length->(pc ps i).size<=1048576) (hr:jw fs xs af mode ps 0 S0 yT.length h false 0=⟨S,n,cur,own,made,0,at_⟩) :
 bK Tryz.prog β 12 #[.agg #[.iface 37 (vP G.w)],.int .i64 h,.slice A ps.length oF,.int .i64 mode] [wA G fs xs af S0 V0 yT] (λ_ v l=>∃(V':WV) (jF:List aK),jF.length=n/\v=.tuple #[YQ cur own made,.nilIface]/\l=[wA G fs xs af S V' jF]):=
 (GA hrw hI hZ hX hg hE h hw A oF ps hP hpl ay hn mode hr).mono (by
  rintro β' v l _ ⟨V',jF,h1,_,⟨_,h2,h3⟩|⟨h2,_⟩⟩
  ·exact⟨V',jF,h1,h2,h3⟩
  exact KB rfl h2)
theorem abH (hrw:(Lit.int .i64 af).wf=true) (hI:bB S0) (hn:yT.length+4*ps.length+4<=8388607) (hZ:kK β G.Z xs) (hX:fS xs 1048576) (hg:iO β) (hE:oC β) (hw:(Lit.int .i64 h).wf=true) (hP:jg β A ps) (hpl:ps.length<=1048576) (ay:∀i,i<ps.length->(pc ps i).size<=1048576) (hr:jw fs xs af mode ps 0 S0 yT.length h false 0=⟨S,n,cur,own,made,code,at_⟩) (hc:¬code=0) :
 bK Tryz.prog β 12 #[.agg #[.iface 37 (vP G.w)],.int .i64 h,.slice A ps.length oF,.int .i64 mode] [wA G fs xs af S0 V0 yT] (λ_ v l=>∃(V':WV) (jF:List aK) (e:Nat) (nm:ByteArray),jF.length=n/\v=.tuple #[YQ 0 false made,.iface 112 (vP e)]/\l=[wA G fs xs af S V' jF,.aD e [.int .i64 at_,.string nm,.int .i64 code] 114]):=
 (GA hrw hI hZ hX hg hE h hw A oF ps hP hpl ay hn mode hr).mono (by
  rintro β' v l _ ⟨V',jF,h1,_,⟨h2,_⟩|⟨_,e,nm,h2,h3⟩⟩
  ·exact KB h2 hc
  exact⟨V',jF,e,nm,h1,h2,h3⟩)
theorem afJ:fN (PL 99) C4 1=0:=DS aft agC (i:=0) ⟨d8,rfl,λq h=>KB h (N5 q)⟩ rfl
theorem QV {ps:List ByteArray} {i:Nat} (h1:i<ps.length) (h2:ps=[⟨#[97]⟩,⟨#[98]⟩]\/ps=[⟨#[115]⟩,⟨#[120]⟩]):(pc ps i).size<=1048576:=by
 have h3:i<2:=by rcases h2 with rfl|rfl<;>exact h1
 have:i=0\/i=1:=d5
 rcases h2 with rfl|rfl<;>rcases this with rfl|rfl<;>decide
theorem afK {β:Bs}:cq β none (cJ jv []):=λj v hj=>by simp [cJ,fA] at hj
theorem afL {β:Bs}:cq β none (cJ kr []):=λj v hj=>by simp [cJ,fA] at hj
theorem agE {X:FM} {ns:List aO} (h:kV X ns ns.length 0 S):(S1 S).aL<=3:=by
 show max S.aL 1<=3
 rw [h.aL];decide
end a
end
section
open Go.RowKit Go.Maps bw aH
attribute [local irreducible] aB bJ av aF
theorem RQ {β:Bs}:bK Tryz.prog β 25 #[] [] (λβ' v l=>∃B Y,v=.agg #[.slice B 3 3,vI 1,vI 9,vI 99,vI 9,vI 0,vI 0,.slice none 0 0,.slice none 0 0]/\l=[]/\aN β' B C4 Y):=by
 refine lW Tryz.func25 Tryz.ntmps25 (λaE R=>SR (jB 1 [0] (λb1=>.aD b1 [.slice none (0) (0),vI 0,vI 0,vI 0,vI 0,vI 0,vI 0,.slice none (0) (0),.slice none (0) (0)] 34) (λb1=>NS (jB 6 [5,6,7] (λb2=>.aD b2 [.string ⟨#[97]⟩,vI 2,.string ⟨#[115]⟩,vI 3] 126) (λb2=>jB 2 [9] (λb3=>.aD b3 [vI 1,vI 2,vI 493,vI 0,vI 0,vI 0,vI 0,.slice none (0) (0),.string ⟨#[]⟩,.slice (some ⟨b2,0,none⟩) (2) (2),vI 2,vI 2,vI 493,vI 0,vI 0,vI 0,vI 0,.slice none (0) (0),.string ⟨#[]⟩,.slice none (0) (0),vI 3,vI 3,vI 0,vI 0,vI 0,vI 0,vI 0,.slice none (0) (0),.string ⟨#[97]⟩,.slice none (0) (0)] 102) (λb3=>jN 2 [1] (λb4=>[(1,a_ 4 b4)]) (λ_=>[]) (λb4=>.aD b4 [.slice (some ⟨b3,0,none⟩) (3) (3)] 24) (λb4=>NS (aB.mem (λw hS=>hS.nW (i:=2) (b:=b2) (cs:=[.string ⟨#[97]⟩,vI 2,.string ⟨#[115]⟩,vI 3]) (e:=126) 2 2 d6 rfl d8) (aB.mA (Φ:=λβ'=>cV β' (some ⟨b2,0,none⟩) abE.aq) 2 [0,1,3,4] (gj:=[.abs R,.aD b1 [.slice none (0) (0),vI 0,vI 0,vI 0,vI 0,vI 0,vI 0,.slice none (0) (0),.slice none (0) (0)] 34,.aD b3 [vI 1,vI 2,vI 493,vI 0,vI 0,vI 0,vI 0,.slice none (0) (0),.string ⟨#[]⟩,.slice (some ⟨b2,0,none⟩) (2) (2),vI 2,vI 2,vI 493,vI 0,vI 0,vI 0,vI 0,.slice none (0) (0),.string ⟨#[]⟩,.slice none (0) (0),vI 3,vI 3,vI 0,vI 0,vI 0,vI 0,vI 0,.slice none (0) (0),.string ⟨#[97]⟩,.slice none (0) (0)] 102,.aD b4 [.slice (some ⟨b3,0,none⟩) (3) (3)] 24]) rfl rfl d6 (λF w h β' h1 h2=>cq.gZ h h1 h2) (λAU fQ hE=>?_))))))))))
 replace aE:=aE.trans fQ
 refine aB.mem (λw hS=>hS.nW (i:=2) (b:=b3) (cs:=[vI 1,vI 2,vI 493,vI 0,vI 0,vI 0,vI 0,.slice none (0) (0),.string ⟨#[]⟩,.slice (some ⟨b2,0,none⟩) (2) (2),vI 2,vI 2,vI 493,vI 0,vI 0,vI 0,vI 0,.slice none (0) (0),.string ⟨#[]⟩,.slice none (0) (0),vI 3,vI 3,vI 0,vI 0,vI 0,vI 0,vI 0,.slice none (0) (0),.string ⟨#[97]⟩,.slice none (0) (0)]) (e:=102) 10 3 d6 rfl d8) (aB.mA (Φ:=λβ'=>cq β' (some ⟨b3,0,none⟩) (bS ⟨λ_=>none,λi=>if i=0 then some ⟨b2,0,none⟩ else none,λ_=>0,λi=>if i=0 then 2 else 0⟩ C4)) 2 [0,1,3] (gj:=[.abs R,.aD b1 [.slice none (0) (0),vI 0,vI 0,vI 0,vI 0,vI 0,vI 0,.slice none (0) (0),.slice none (0) (0)] 34,.aD b4 [.slice (some ⟨b3,0,none⟩) (3) (3)] 24]) rfl rfl d6 (λF w h β' h1 h2=>cq.gZ h h1 h2) (λFx lN hR=>?_))
 replace hE:=hE.le lN
 replace aE:=aE.trans lN
 exact jC 4 [] [(0,a_ 2 b4),(3,A_ 1 b1 9)] [(1,[(0,.slice (some ⟨b3,0,none⟩) (3) (3)),(1,vI 1),(2,vI 9),(3,vI 99),(4,vI 9)])] (eO (l:=[]) (v:=(.agg #[.slice (some ⟨b3,0,none⟩) (3) (3),vI 1,vI 9,vI 99,vI 9,vI 0,vI 0,.slice none (0) (0),.slice none (0) (0)])) [A_ 1 b1 9] aE ⟨_,_,rfl,rfl,agD hR hE⟩)
theorem VI {β:Bs} (hg:iO β) (hE:oC β):bK Tryz.prog β 5 #[] [] (λ_ v l=>v=.bool true/\l=[]):=by
 refine lW Tryz.func5 Tryz.ntmps5 (λaE R=>SR (jK 1 [] [] (NS (ia [] (RQ) ?_))))
 rintro ql _ _ cU ⟨B,Y,rfl,rfl,hG⟩
 replace hg:=hg.le cU
 replace hE:=hE.le cU
 replace aE:=aE.trans cU
 refine ia [] (Km (β:=ql) (X:=PL 99) afJ B 3 _ hG ahx none 0 [] afK ⟨d8,λa ha=>by cases ha⟩ none 0 [] afL ND) ?_
 rintro C3 _ _ iX ⟨N,G,V,rfl,rfl,mX⟩
 replace hg:=hg.le iX
 replace hE:=hE.le iX
 replace hG:=hG.le iX
 replace aE:=aE.trans iX
 refine jK 5 [1,2] [] (NN (av.seq (SR (jK 6 [19] [] (NN (CF (av.skip (NX (SR (jK 4 [24] [(3,p_ ⟨[.view 0 (.iface 37 (vP G.w))],none,none,none,none⟩ [(∀F w,(gy (wP G ([]) ([]) 1 N.1 V ([]))).h F w->w.cell? ⟨G.w,0,none⟩=some (.iface 37 (vP G.w)))] ⟨Cc,trivial⟩)] ?_))))))))))
 have hv:=afG N.2
 obtain⟨S2,w1,wi,w2⟩:=abF hv
 have dz:bB (S1 N.1):=by have h:=bB.bq (fs:=[]) (xs:=[]) (af:=1) (n:=1) (c:=qq 1) hv.inv;rw [TG hv] at h;exact h
 have Tp:Held (S1 N.1) 1 false:=⟨dz,rfl,λh=>KB h Bool.false_ne_true,agE N.2⟩
 have Ei:=FJ (mode:=448) (fs:=[]) (xs:=[]) (af:=1) (h0:=1) (n0:=1) (len:=2) [⟨#[97]⟩,⟨#[98]⟩] 0 (S1 N.1) 1 1 false 0 Tp d8 d8 (λ_=>rfl) (λh=>KB h Bool.false_ne_true) (λ_=>⟨rfl,rfl,rfl⟩)
 rw [w1] at Ei
 have vX:bB S2:=Ei.inv
 refine ia [0] (QF (β:=C3) (G:=G) (fs:=[]) (xs:=[]) (af:=1) (S:=N.1) (V:=V) (tr:=[]) (S2:=(S1 N.1)) (c2:={qq 1 with answer:=1,code:=0}) d8 hv.inv d8 mX ND hg 1 d8 (TG hv)) ?_
 rintro Ce _ _ eF ⟨V2,AX,rfl,rfl,acE,_⟩
 replace hg:=hg.le eF
 replace hE:=hE.le eF
 replace hG:=hG.le eF
 replace mX:=mX.le eF
 replace aE:=aE.trans eF
 refine jK 5 [3] [] (NS (jN 6 [32,33,34] (λb10=>[(3,p_ ⟨[.view 0 (.iface 37 (vP G.w))],none,none,none,none⟩ [(∀F w,(gy (wP G ([]) ([]) 1 (S1 N.1) V2 AX)).h F w->w.cell? ⟨G.w,0,none⟩=some (.iface 37 (vP G.w)))] ⟨Cc,trivial⟩)]) (λ_=>[]) (λb10=>.aD b10 [.string ⟨#[97]⟩,.string ⟨#[98]⟩] 9) (λb10=>aB.mem (λw hS=>hS.nW (i:=2) (b:=b10) (cs:=[.string ⟨#[97]⟩,.string ⟨#[98]⟩]) (e:=9) 1 2 d6 rfl d8) (aB.mA (Φ:=λβ'=>jg β' (some ⟨b10,0,none⟩) [(⟨#[97]⟩:ByteArray),⟨#[98]⟩]) 2 [0,1] (gj:=[wA G ([]) ([]) 1 (S1 N.1) V2 AX,.abs R]) rfl rfl d6 (λF w h β' h1 h2=>cq.gZ h h1 h2) (λLp oI wk=>?_)))))
 replace hg:=hg.le oI
 replace hE:=hE.le oI
 replace hG:=hG.le oI
 replace mX:=mX.le oI
 replace aE:=aE.trans oI
 have w1x:jw [] [] 1 448 [(⟨#[97]⟩:ByteArray),⟨#[98]⟩] 0 (S1 N.1) AX.length 1 false 0=⟨S2,6,3,true,1,0,0⟩:=by rw [acE];exact w1
 refine ia [0] (abG (β:=Lp) (oF:=2) (G:=G) (af:=1) (h:=1) (fs:=[]) (xs:=[]) (V0:=V2) (yT:=AX) d8 dz (by rw [acE];decide) mX ND hg hE d8 wk d8 (λi hi=>QV hi (.inl rfl)) w1x) ?_
 rintro DY _ _ gA ⟨V3,FI,acF,rfl,rfl⟩
 replace hg:=hg.le gA
 replace hE:=hE.le gA
 replace hG:=hG.le gA
 replace mX:=mX.le gA
 replace wk:=wk.le gA
 replace aE:=aE.trans gA
 refine jN 6 [5,6] (λb13=>[(4,A_ 2 b13 3)]) (λ_=>[]) (λb13=>.aD b13 [vI (3),.bool true,vI (1)] 72) (λb13=>NN (av.seq (SR (jK 14 [50,51] [(4,a_ 2 b13),(5,p_ ⟨[],none,none,none,some (.bool false)⟩ [(Value.bool (!decide ((1:Int)=(1:Int))))=(.bool false)] ⟨nh,trivial⟩),(9,a_ 2 b13)] (ia [0] (Vd (β:=DY) (G:=G) (fs:=[]) (xs:=[]) (af:=1) (S:=S2) (V:=V3) (tr:=FI) vX) ?_)))))
 rintro Fv _ _ j7 ⟨A4,c4,K4,rfl,rfl,_⟩
 replace hg:=hg.le j7
 replace hE:=hE.le j7
 replace hG:=hG.le j7
 replace mX:=mX.le j7
 replace wk:=wk.le j7
 replace aE:=aE.trans j7
 refine jK 4 [56] [(1,p_ ⟨[],none,none,none,some (vI (((4:Nat):Int)))⟩ [((.int .i64 ↑((aV S2).length):Value))=(.int .i64 (((4:Nat):Int)))] ⟨by rw [iM,wi],trivial⟩),(2,p_ ⟨[],none,none,none,some (.bool false)⟩ [((.bool (!(decide ((((4:Nat):Int):Int)=(4:Int)))):Value))=(.bool false)] ⟨rfl,trivial⟩)] (NN (CF (KX (SR (jN 6 [61,62,63] (λb15=>[(3,p_ ⟨[.view 0 (.iface 37 (vP G.w))],none,none,none,none⟩ [(∀F w,(gy (wP G ([]) ([]) 1 S2 V3 FI)).h F w->w.cell? ⟨G.w,0,none⟩=some (.iface 37 (vP G.w)))] ⟨Cc,trivial⟩)]) (λ_=>[]) (λb15=>.aD b15 [.string ⟨#[115]⟩,.string ⟨#[120]⟩] 9) (λb15=>aB.mem (λw hS=>hS.nW (i:=3) (b:=b15) (cs:=[.string ⟨#[115]⟩,.string ⟨#[120]⟩]) (e:=9) 1 2 d6 rfl d8) (aB.mA (Φ:=λβ'=>jg β' (some ⟨b15,0,none⟩) [(⟨#[115]⟩:ByteArray),⟨#[120]⟩]) 3 [0,1,2] (gj:=[wA G ([]) ([]) 1 S2 V3 FI,.abs R,.aD b13 [vI (3),.bool true,vI (1)] 72]) rfl rfl d6 (λF w h β' h1 h2=>cq.gZ h h1 h2) (λFw iA QW=>?_))))))))
 replace hg:=hg.le iA
 replace hE:=hE.le iA
 replace hG:=hG.le iA
 replace mX:=mX.le iA
 replace wk:=wk.le iA
 replace aE:=aE.trans iA
 have w2x:jw [] [] 1 448 [(⟨#[115]⟩:ByteArray),⟨#[120]⟩] 0 S2 FI.length 1 false 0=⟨S2,7,0,false,0,174,0⟩:=by rw [acF];exact w2
 refine ia [0] (abH (β:=Fw) (oF:=2) (G:=G) (af:=1) (h:=1) (fs:=[]) (xs:=[]) (V0:=V3) (yT:=FI) d8 vX (by rw [acF];decide) mX ND hg hE d8 QW d8 (λi hi=>QV hi (.inr rfl)) w2x d8) ?_
 rintro LC _ _ gI ⟨V4,tr4,e,nm,ahW,rfl,rfl⟩
 replace hg:=hg.le gI
 replace hE:=hE.le gI
 replace hG:=hG.le gI
 replace mX:=mX.le gI
 replace wk:=wk.le gI
 replace QW:=QW.le gI
 replace aE:=aE.trans gI
 exact jK 4 [6] [] (NS (jK 1 [68] [] (gE [1] (Nj hE e 0 nm 174) (jK 5 [7,8] [] (NS (jK 11 [0] [] (eO (v:=(.bool true)) [] aE ⟨rfl,rfl⟩ [2])))))))
theorem Nk {β:Bs} (A:Option Addr) (c:Nat) (d:List ByteArray) (hA:jg β A d) (hl:d.length<=1048576) :
 aU Tryz.prog β 11 #[.slice A d.length c] [] (λv l=>∃B cap,v=.slice B d.length cap/\l=[.abs (aI 9 1 B d.length cap (kx d))]):=by
 refine SE Tryz.func11 Tryz.ntmps11 (λR=>?_)
 refine SR (jK 1 [] [] ?_)
 refine NS (jN 2 [3] (λ_=>[]) (λ_=>[]) (λb1=>.aD b1 [] 9) (λb1=>?_))
 refine NS (aB.mem (λw hS=>hS.nW (i:=1) (b:=b1) (cs:=[]) (e:=9) 1 0 d6 rfl d8) ?_)
 refine jK 2 [5,6] [] ?_
 refine mO 1 67 A d.length c (kx d) rfl (hA.src) (λA2 c3=>?_) (hl:=by rw [W9,Nat.mul_one]) (h1:=aaf)
 refine aB.cR 1 (p:=.abs (aI 9 1 A2 (0+d.length) c3 ([]++(kx d)))) (p':=.abs (aI 9 1 A2 d.length c3 (kx d))) d6 (by rw [ain,List.nil_append]) ?_
 refine sl 7 (.slice A2 (0+d.length) (c3)) (.slice A2 (d.length) (c3)) (by rw [ain]) ?_
 refine jK 1 [3] [] ?_
 refine NS (jK 2 [2] [] ?_)
 refine NN (av.ret ?_)
 exact RT (.slice A2 (d.length) (c3)) [1,0] (⟨A2,c3,rfl,rfl⟩)
noncomputable abbrev yP1 (o)(q:Nat) (f:Nat) (af) (am) (tr:List aK):=(.aD o [.iface 138 (vP q),vP f,vI (af),.map (some am),vI ↑tr.length] 142:HP)
noncomputable abbrev yP2 (q:Nat) (f:Nat) (km) (tr:List aK):=(.aD q [.iface 56 (vP f),.map (some km),vI ↑tr.length] 140:HP)
theorem QX {β:Bs} (c:Nat):aU Tryz.prog β 47 #[.slice none 0 c] [] (λv l=>∃B cap,v=.slice B 0 cap/\l=[.abs (aI 63 13 B 0 cap [])]):=by
 exact SE Tryz.func47 Tryz.ntmps47 (λR=>SR (jK 1 [] [] (NZ (jK 2 [4] [] (NT (SR (jK 1 [2] [] (NN (av.ret (aF.br (aF.mem (λw hS=>(hS.nN (e:=63) (size:=13)).pick (ax:=[1,0]) (l':=[.abs (aI 63 13 none 0 0 ([])),.abs R]) rfl d6) (RT (.slice none (0) (0)) [0,1] (⟨none,0,rfl,rfl⟩)))))))))))))
theorem Nl {β:Bs} (a:Addr) (c:Nat) (d:List aK) (hA:cq β (some a) (cJ aW d)) (hl:d.length<=8388607):aU Tryz.prog β 47 #[.slice (some a) d.length c] [] (λv l=>∃B cap,v=.slice B d.length cap/\l=[SH B d cap]):=by
 exact SE Tryz.func47 Tryz.ntmps47 (λR=>SR (jK 1 [] [] (NZ (jK 2 [4] [] (NF (KX (SR (jB 1 [5] (λb1=>.aD b1 [] 63) (λb1=>aB.mem (λw hS=>hS.nW (i:=1) (b:=b1) (cs:=[]) (e:=63) 13 0 d6 rfl d8) (jK 1 [6] [] (aB.append 1 (d:=(some 7)) (t:=58) (e:=63) (z:=.agg #[vI 0,vI 0,vI 0,.string ⟨#[]⟩,.string ⟨#[]⟩,.slice none (0) (0),vI 0,vI 0,vI 0,vI 0,vI 0,vI 0,vI 0]) (size:=13) (bytes:=136) (n:=0) (cap:=0) (A:=some ⟨b1,0,none⟩) (xs:=[]) (s:=(.tmp 5)) (x:=(.tmp 6)) (ats:=#[58,58]) (A':=(some a)) (m:=d.length) (c':=c) (news:=(cJ aW d)) (λ_=>d6) rfl d6 (λ_=>d6) (λ_=>d6) Tryz.underlying58 d6 rfl d8 (yq (f:=aW) (s:=13) (λ_=>rfl) _) (xR (WO) _ _) (hA.src) (by unfold maxLen;omega) d5 (λA2 c3=>aB.cR 1 (p:=.abs (aI 63 13 A2 (0+d.length) c3 ([]++(cJ aW d)))) (p':=.abs (aI 63 13 A2 d.length c3 (cJ aW d))) d6 (by rw [ain,List.nil_append]) (sl 7 (.slice A2 (0+d.length) (c3)) (.slice A2 (d.length) (c3)) (by rw [ain]) (jK 1 [2] [] (eN (v:=(.slice A2 (d.length) (c3))) ⟨A2,c3,rfl,rfl⟩ [1,0])))))))))))))))
theorem Nn {β:Bs} (A:Option Addr) (c:Nat) (d:List aK) (hA:cq β A (cJ aW d)) (hl:d.length<=8388607):aU Tryz.prog β 47 #[.slice A d.length c] [] (λv l=>∃B cap,v=.slice B d.length cap/\l=[SH B d cap]):=by
 cases A with
 |some a=>exact Nl a c d hA hl
 |none=>
   cases d with
   |nil=>exact QX c
   |cons b r=>have h:=(Pb (s:=13) (i:=0) (j:=0) hA (λ_=>rfl) rfl rfl).1;cases h
theorem VJ {β:Bs} (A:Option Addr) (c:Nat) (d:List aK) (hl:d.length<=8388607):aU Tryz.prog β 47 #[.slice A d.length c] [tR A c d] (λv l=>∃B cap,v=.slice B d.length cap/\l=[.abs (aI 63 13 B d.length cap (cJ aW d)),tR A c d]):=
 (aU.sF (pre:=[]) (R:=[tR A c d]) (λ_ h=>Nn A c d (let ⟨_,h1,h2⟩:=h.get 0 rfl;cq.gZ h1 h2 rfl) hl)).mono (by rintro v l ⟨l0,⟨B,cap,rfl,rfl⟩,rfl⟩;exact⟨B,cap,rfl,rfl⟩)
theorem VK {β:Bs} (S:aZ) (L:HL) (w o q f m t am an km kn:Nat) (Z:AZ) (fs:List ck) (xs:List cI) (af:Int) (tr:List aK) (tA:Option Addr) (tC:Nat) (hn:tr.length<=8388607) (hT:wZ β tr) :
 bK Tryz.prog β 23 #[vP w] (SI w f o af tA tr tC q am km Z xs an fs kn m t S L) (λβ' v l=>∃A' c' os,v=.slice A' tr.length c'/\l=(SI w f o af tA tr tC q am km Z xs an fs kn m t S L)/\nG β' A' os/\os.map bare=tr.map bare):=by
 refine lW Tryz.func23 Tryz.ntmps23 (λaE R=>SR (jK 1 [] [] (NS (jK 4 [8] [(3,a_ 0 w)] (gL [5] (VJ tA tC tr d5) ?_)))))
 rintro _ _ ⟨B,cp,rfl,rfl⟩
 refine jK 1 [3] [] (NZ (jK 3 [11,12] [] (NN (av.block (lB (ι:=Nat×Bs×(List aK)) (λ(i,b,os)=>b) (λ(i,b,os)=>(i<=tr.length)/\(β.le b)/\(wZ b tr)/\(wZ b os)/\(os.map bare=(tr.take i).map bare)/\(os.length=i)) (λ(i,b,os)=>tr.length-i) (λ(i,b,os)=>[(3,.slice B (tr.length) (cp)),(11,vI ↑tr.length),(12,vI ↑i)]) (λ(i,b,os)=>[SH tA tr tC,zF1 w f o af tA tr tC,yP1 o q f af am tr,yP2 q f km tr,zF4 am Z xs an,zF5 km fs kn,pF f m t S.X,pI m L S.ax,zF7 t S L,pO S.O L,pD S.O L,pE S.O L,.abs (aI 63 13 B tr.length cp (cJ aW (os++tr.drop i))),.abs R]) (0,β,[]) [1,2,3,4,5,6,7,8,9,10,11,12,0,13] (⟨L4 _,aE,hT,λc hc=>(by cases hc),rfl,rfl⟩) ?_)))))
 rintro⟨i,b,os⟩ ⟨hi,aE,hT,hO,hm,hol⟩
 show av _ b _ _ [(3,.slice B (tr.length) (cp)),(11,vI ↑tr.length),(12,vI ↑i)] [SH tA tr tC,zF1 w f o af tA tr tC,yP1 o q f af am tr,yP2 q f km tr,zF4 am Z xs an,zF5 km fs kn,pF f m t S.X,pI m L S.ax,zF7 t S L,pO S.O L,pD S.O L,pE S.O L,.abs (aI 63 13 B tr.length cp (cJ aW (os++tr.drop i))),.abs R] _
 refine SR (jK 1 [13] [] (NN (av.seq (cP ((((i:Nat):Int):Int)<(((tr.length:Nat):Int):Int)) (λsH=>?_) (λsH=>?_)))))
 ·refine KX (av.seq (av.block (SR (jK 2 [4] [] (NN (av.region ?_))))))
  have hin:i<tr.length:=d5
  refine aB.tell (p:=∃g,B=some ⟨g,0,none⟩) (λw hS=>let ⟨F,h⟩:=hS.get (i:=12) rfl;aI.head h d5) (λ⟨g4,hg⟩=>?_)
  subst hg
  refine jK 7 [15,16,21] [(4,p_ ⟨[],some i,none,none,some (.pointer (some ⟨g4,i*13,none⟩))⟩ [(Value.pointer (some ⟨g4,0+i*13,none⟩))=(.pointer (some ⟨g4,i*13,none⟩)),((i:Nat):Int)=((i:Nat):Int),i<tr.length,(⟨g4,0,none⟩:Addr).spot=none] ⟨nh,rfl,hin,rfl,trivial⟩),(6,p_ ⟨[.view 12 (.slice (ez tr i).dA ((ez tr i).data.length) ((ez tr i).dC))],none,none,none,none⟩ [(∀F w,(aI 63 13 (some ⟨g4,0,none⟩) tr.length cp (cJ aW (os++tr.drop i))).h F w->w.cell? ⟨g4,i*13+5,none⟩=some (.slice (ez tr i).dA ((ez tr i).data.length) ((ez tr i).dC)))] ⟨aI.cell (afk hol hin d8 rfl),trivial⟩)] (ia [] (MG (ez tr i).dA (ez tr i).dC (ez tr i).data (hT _ (C2 hin)).1 (hT _ (C2 hin)).2) ?_)
  rintro ql _ _ cU ⟨B5,p6,rfl,rfl,hB5,_⟩
  replace hT:=hT.le cU
  replace hO:=hO.le cU
  replace aE:=aE.trans cU
  exact jK 2 [24] [(0,p_ ⟨[],some i,none,none,some (.pointer (some ⟨g4,i*13,none⟩))⟩ [(Value.pointer (some ⟨g4,0+i*13,none⟩))=(.pointer (some ⟨g4,i*13,none⟩)),((i:Nat):Int)=((i:Nat):Int),i<tr.length,(⟨g4,0,none⟩:Addr).spot=none] ⟨nh,rfl,hin,rfl,trivial⟩)] (aB.Em 12 (i*13+5) (d:=none) (T:=61) (e:=63) (size:=13) (n:=tr.length) (cap:=cp) (g:=g4) (xs:=(cJ aW (os++tr.drop i))) (u:=.slice B5 ((ez tr i).data.length) (p6)) (a:=(.tmp 24)) (y:=(.tmp 22)) (λ_=>d6) d6 (λ_=>d6) (λ_=>d6) d6 rfl (by rw [yq (f:=aW) (s:=13) (λ_=>rfl),afl hol d5];omega) (aB.cR 12 (p':=.abs (aI 63 13 (some ⟨g4,0,none⟩) tr.length cp (cJ aW ((os++[fB B5 p6 (ez tr i)])++tr.drop (i+1))))) rfl (zc (λx=>HP.abs (aI 63 13 _ _ _ x)) (afm hol hin)) (LX (av.region (jK 2 [12] [(0,wJ ((i:Int)+1) (↑(i+1)))] (NL (tB ((i+1),ql,(os++[(fB B5 p6 (ez tr i))])) [0,1,2,3,4,5,6,7,8,9,10,11,12,13] (⟨d5,aE,hT,hO.snoc (c:=(fB B5 p6 (ez tr i))) hB5 (hT _ (C2 hin)).2,afn hm hin adB,by rw [T3,hol];rfl⟩))))))))
 refine XX (SR ?_)
 have hos:os++tr.drop i=os:=by rw [show i=tr.length by omega,List.drop_length,List.append_nil]
 have hmt:os.map bare=tr.map bare:=by rw [hm,show i=tr.length by omega,aiu]
 refine aB.cR 12 (p:=.abs (aI 63 13 B tr.length cp (cJ aW (os++tr.drop i)))) (p':=.abs (aI 63 13 B tr.length cp (cJ aW os))) d6 (by rw [hos]) (aB.mA (Φ:=λβ'=>cq β' B (cJ aW os)) 12 [0,1,2,3,4,5,6,7,8,9,10,11,13] (gj:=[SH tA tr tC,zF1 w f o af tA tr tC,yP1 o q f af am tr,yP2 q f km tr,zF4 am Z xs an,zF5 km fs kn,pF f m t S.X,pI m L S.ax,zF7 t S L,pO S.O L,pD S.O L,pE S.O L,.abs R]) rfl rfl d6 (λF w h β' h1 h2=>cq.gZ h h1 h2) (λC3 iX hR=>?_))
 replace hO:=hO.le iX
 replace aE:=aE.trans iX
 exact jK 2 [2] [] (eO (v:=(.slice B (tr.length) (cp))) [] aE ⟨B,cp,os,rfl,rfl,⟨hR,hO⟩,hmt⟩ [1,2,3,4,5,0,6,7,8,9,10,11,12])
theorem YR {β:Bs} {fs:List ck} {xs:List cI} {af:Int} {S:aZ} {V:WV} {tr:List aK} {G:WG} (hn:tr.length<=8388607) (hT:wZ β tr):bK Tryz.prog β 23 #[vP G.w] [wA G fs xs af S V tr] (λβ' v l=>∃A' c' os,v=.slice A' tr.length c'/\l=[wA G fs xs af S V tr]/\nG β' A' os/\os.map bare=tr.map bare):=
 (VK S V.L G.w G.o G.q G.f G.m G.t G.am G.an G.km G.kn G.Z fs xs af tr V.A V.c hn hT).one.mono (by
  rintro β' v l _ ⟨l0,⟨A',c',os,rfl,rfl,h1,h2⟩,rfl⟩
  exact⟨A',c',os,rfl,rfl,h1,h2⟩)
end
section
open Go.RowKit Go.Maps bw aH
attribute [local irreducible] aB bJ av aF eH tI lX
theorem law_resolveCalls (W:World) (A:Option Addr) (c:Nat) (ns:List aO) (Y:fq) (hG:aN (B0 W) A ns Y) (hB:kA ns 1048576) (X:FM) (af:Int) (Af:Option Addr) (cf:Nat) (fs:List ck) (hF:cq (B0 W) Af (cJ jv fs)) (ox:lI fs 1048576) (Aa:Option Addr) (ca:Nat) (xs:List cI) (hA:cq (B0 W) Aa (cJ kr xs)) (gF:fS xs 1048576) (hrw:(Lit.int .i64 af).wf=true) (Ap:Option Addr) (cp:Nat) (ps:List ByteArray) (hP:jg (B0 W) Ap ps) (hpl:ps.length<=1048576) (ay:∀i,i<ps.length->(pc ps i).size<=1048576) (hg:iO (B0 W)) (hE:oC (B0 W)) (mode:Int) (far:Bool) :
 aU Tryz.prog (B0 W) 4 #[.agg #[.slice A (ns.length) (c),vI (af),vI (X.cN),vI (X.cB),vI (X.cH),vI (X.cS),vI (X.cZ),.slice Af (fs.length) (cf),.slice Aa (xs.length) (ca)],.agg #[.slice Ap (ps.length) (cp),vI (mode),.bool far]] [] (λv _=>v=.bool true):=by
 have aE:=B0.refl W
 have hfl:=ox.len
 have hxn:=gF.len
 refine SE Tryz.func4 Tryz.ntmps4 (λR=>SR (jB 1 [2] (λb1=>.aD b1 [.slice A (ns.length) (c),vI (af),vI (X.cN),vI (X.cB),vI (X.cH),vI (X.cS),vI (X.cZ),.slice Af (fs.length) (cf),.slice Aa (xs.length) (ca)] 34) (λb1=>jB 2 [3] (λb2=>.aD b2 [.slice Ap (ps.length) (cp),vI (mode),.bool far] 69) (λb2=>NZ (ia [] (VI hg hE) ?_)))))
 rintro vn _ _ fY ⟨rfl,rfl⟩
 replace hG:=hG.le fY
 replace hF:=hF.le fY
 replace hA:=hA.le fY
 replace hP:=hP.le fY
 replace hg:=hg.le fY
 replace hE:=hE.le fY
 replace aE:=aE.trans fY
 refine jK 1 [25] [] (NF (KX (av.seq ?_)))
 by_cases h0:fN X ns af=0
 ·have hok:=Fe h0
  refine av.region (jK 1 [27] [(0,A_ 1 b1 9)] (ia [] (Km (β:=vn) (X:=X) h0 A c Y hG hB Af cf fs hF (ox.wide d8) Aa ca xs hA gF) ?_))
  rintro BZ _ _ jH ⟨N,G,V,rfl,rfl,mX⟩
  replace hG:=hG.le jH
  replace hF:=hF.le jH
  replace hA:=hA.le jH
  replace hP:=hP.le jH
  replace hg:=hg.le jH
  replace hE:=hE.le jH
  replace aE:=aE.trans jH
  refine jK 5 [5,6] [] (NS (jK 8 [33,35,37,39] [(1,a_ 2 b1),(3,a_ 2 b1),(5,A_ 2 b1 5),(7,A_ 2 b1 2)] (ia [] (M9 (β:=BZ) h0 N A c hG hB cf hF (ox.wide d8) ca hA gF) ?_)))
  rintro AU _ _ fQ ⟨Yd,U,rfl,rfl,hR,hU⟩
  replace hG:=hG.le fQ
  replace hF:=hF.le fQ
  replace hA:=hA.le fQ
  replace hP:=hP.le fQ
  replace hg:=hg.le fQ
  replace hE:=hE.le fQ
  replace mX:=mX.le fQ
  replace aE:=aE.trans fQ
  refine jN 6 [7,8] (λb6=>[(4,A_ 4 b6 16)]) (λ_=>[]) (λb6=>.aD b6 (uV (toR N.1 []) Yd af U fs.length xs.length 0) 47) (λb6=>NZ (jK 7 [49] [] (NF (KX (av.seq ?_)))))
  obtain⟨S2,c2,eR⟩:∃Sx cx,bq fs xs af 1 N.1 (qq af)=(Sx,cx):=⟨_,_,rfl⟩
  have QI:=abB N.2.us eR
  have vX:bB S2:=by have h:=N.2.full.bq (fs:=fs) (xs:=xs) (af:=af) (n:=1) (c:=qq af);rw [eR] at h;exact h
  obtain⟨r,hr⟩:∃r,jw fs xs af mode ps 0 S2 1 c2.answer false 0=r:=⟨_,rfl⟩
  have hww:=LF (fs:=fs) (xs:=xs) (af:=af) (mode:=mode) ps 0 S2 1 c2.answer false 0 vX QI
  rw [hr] at hww
  have hcw:(Lit.int .i64 r.cur).wf=true:=hww.1
  have hIr:bB r.S:=hww.2.1
  have hnr:r.n<=1+4*ps.length+1:=hww.2.2
  obtain⟨q,hq⟩:∃q,FO fs xs af r.S r.n r.cur r.own=q:=⟨_,rfl⟩
  have hqn:q.n<=r.n+1:=by rw [←hq];exact abD
  refine av.Hz (S:=[.aD b1 [.slice A (ns.length) (c),vI (af),vI (X.cN),vI (X.cB),vI (X.cH),vI (X.cS),vI (X.cZ),.slice Af (fs.length) (cf),.slice Aa (xs.length) (ca)] 34,.abs (wj G)]) [(true,0),(true,1),(true,2),(true,3),(true,4),(true,5),(false,6),(true,7),(true,8),(true,9),(true,10),(false,11)] d6 d6 (λ_ h=>(h.QK (i:=0) rfl).pick (ax:=[2,0]) rfl rfl) (jG 6 [2,3,5,7,65,67] [(3,p_ ⟨[.view 1 (.iface 37 (vP G.w))],none,none,none,none⟩ [(∀F w,(wj G).h F w->w.cell? ⟨G.w,0,none⟩=some (.iface 37 (vP G.w)))] ⟨yK,trivial⟩),(5,a_ 0 b1)] (eH.toH ?_))
  have QY:Grown AU AU:=.inl rfl
  refine tI.acu (ι:=Bs×WV×({l:List aK // l.length=1/\lD fs xs af [] N.1 l S2})) (B:=λ((ql,V2,q2):Bs×WV×({l:List aK // l.length=1/\lD fs xs af [] N.1 l S2}))=>ql) (Φ:=λ((ql,V2,q2):Bs×WV×({l:List aK // l.length=1/\lD fs xs af [] N.1 l S2}))=>True) (bN:=λ((ql,V2,q2):Bs×WV×({l:List aK // l.length=1/\lD fs xs af [] N.1 l S2}))=>[(2,vP b1),(3,vP b2),(5,vP G.w),(7,vP b6),(68,.tuple #[vI (c2.answer),vI (c2.code)])]) (dh:=λ((ql,V2,q2):Bs×WV×({l:List aK // l.length=1/\lD fs xs af [] N.1 l S2}))=>[wA G fs xs af S2 V2 q2.1,.abs R,.aD b1 [.slice A (ns.length) (c),vI (af),vI (X.cN),vI (X.cB),vI (X.cH),vI (X.cS),vI (X.cZ),.slice Af (fs.length) (cf),.slice Aa (xs.length) (ca)] 34,.aD b2 [.slice Ap (ps.length) (cp),vI (mode),.bool far] 69,.aD b6 (uV (toR N.1 []) Yd af U fs.length xs.length 0) 47]) QY d6 ?_ (λ_ _ h=>(h.QK (i:=0) rfl).pick (ax:=[2,0]) rfl rfl) ?_
  ·refine ia [0] (abj (β:=AU) (G:=G) (fs:=fs) (xs:=xs) (S:=N.1) (V:=V) (S1:=S2) (c1:=c2) hrw N.2.full mX gF hg af hrw eR) ?_
   rintro ql _ _ cU ⟨V2,q2,rfl,rfl⟩
   replace hG:=hG.le cU
   replace hF:=hF.le cU
   replace hA:=hA.le cU
   replace hP:=hP.le cU
   replace hg:=hg.le cU
   replace hE:=hE.le cU
   replace mX:=mX.le cU
   replace hR:=hR.le cU
   replace hU:=hU.le cU
   replace aE:=aE.trans cU
   exact NL (aF.adT (ql,V2,q2) rfl cU (trivial) (ax:=[2,3,5,7,68]) (pk:=[0,1,2,3,4]) (λ_=>d6) rfl d6)
  rintro⟨ql,V2,q2⟩ cU _
  show tI _ ql _ _ _ _ _ [(2,vP b1),(3,vP b2),(5,vP G.w),(7,vP b6),(68,.tuple #[vI (c2.answer),vI (c2.code)])] [wA G fs xs af S2 V2 q2.1,.abs R,.aD b1 [.slice A (ns.length) (c),vI (af),vI (X.cN),vI (X.cB),vI (X.cH),vI (X.cS),vI (X.cZ),.slice Af (fs.length) (cf),.slice Aa (xs.length) (ca)] 34,.aD b2 [.slice Ap (ps.length) (cp),vI (mode),.bool far] 69,.aD b6 (uV (toR N.1 []) Yd af U fs.length xs.length 0) 47] _
  replace hG:=hG.le cU
  replace hF:=hF.le cU
  replace hA:=hA.le cU
  replace hP:=hP.le cU
  replace hg:=hg.le cU
  replace hE:=hE.le cU
  replace mX:=mX.le cU
  replace hR:=hR.le cU
  replace hU:=hU.le cU
  replace aE:=aE.trans cU
  replace QY:=QY.trans cU
  refine gH [(false,11)] [(2,vP b1),(3,vP b2),(5,vP G.w),(7,vP b6),(9,vI (c2.answer)),(70,vI (c2.code))] [7,8,9,10] [] (tI.last d6 (jK 1 [] [] (NL (aF.np (NX (av.seq (av.NV (S:=[.aD b2 [.slice Ap (ps.length) (cp),vI (mode),.bool far] 69,.abs (wj G)]) (wo [0,1,2,3,4,5,6,8,9] (oJ 14 [(false,15),(false,16)] [(false,7),(false,10),(true,11),(true,12),(true,13)])) (λ_ h=>(h.QK (i:=0) rfl).pick (ax:=[3,0]) rfl rfl) (gT (oJ 14 [(false,15),(false,16)] [(false,7),(false,10),(true,11),(true,12),(true,13)]) [(2,vP b1),(3,vP b2),(5,vP G.w),(7,vP b6),(75,.agg #[.iface 37 (vP G.w)]),(76,vI (c2.answer)),(78,.slice Ap (ps.length) (cp)),(81,vI (mode))] [0,1,2,3,4,5,6,8,9] [(3,p_ ⟨[.view 1 (.iface 37 (vP G.w))],none,none,none,none⟩ [(∀F w,(wj G).h F w->w.cell? ⟨G.w,0,none⟩=some (.iface 37 (vP G.w)))] ⟨yK,trivial⟩),(6,a_ 0 b2),(8,a_ 0 b2)] (lX.beside (j:=14) (dj:=11) (R:=λf_ l_=>∃B5:Option Addr,∃p5:Nat,∃V3:WV,∃q3:{l:List aK // l.length=r.n/\lD fs xs af q2.1 S2 l r.S},∃E3:Kn,f_=[(84,E3.1),(83,.agg #[vI (r.cur),.bool r.own,vI (r.made)]),(71,.tuple #[.agg #[vI (r.cur),.bool r.own,vI (r.made)],E3.1]),(82,.tuple #[.agg #[vI (r.cur),.bool r.own,vI (r.made)],E3.1]),(79,.slice B5 (ps.length) (p5)),(2,vP b1),(3,vP b2),(5,vP G.w),(7,vP b6),(75,.agg #[.iface 37 (vP G.w)]),(76,vI (c2.answer)),(78,.slice Ap (ps.length) (cp)),(81,vI (mode))]/\l_=[wA G fs xs af r.S V3 q3.1]) (pc:=[wA G fs xs af S2 V2 q2.1]) (Z:=[.abs R,.aD b1 [.slice A (ns.length) (c),vI (af),vI (X.cN),vI (X.cB),vI (X.cH),vI (X.cS),vI (X.cZ),.slice Af (fs.length) (cf),.slice Aa (xs.length) (ca)] 34,.aD b2 [.slice Ap (ps.length) (cp),vI (mode),.bool far] 69,.aD b6 (uV (toR N.1 []) Yd af U fs.length xs.length 0) 47]) (abk G) [0,1,2,3,4] [(false,7,79),(false,10,82),(true,11,71),(true,12,83),(true,13,84)] (afu (S1:=[.aD b2 [.slice Ap (ps.length) (cp),vI (mode),.bool far] 69]) (pS:=[2]) rfl rfl) (abl 0 rfl) (iJ.of (ι:=Nat) (v:=λ(b8:Nat)=>vP b8) (l:=λ(b8:Nat)=>[.aD b8 [vI 0,.bool false,vI 0] 72]) [79,82,71,83,84] rfl rfl rfl rfl ?_) ?_ ?_)))))))))
  ·intro u Aq
   exact jB 1 [11] (λb8=>.aD b8 [vI 0,.bool false,vI 0] 72) (λb8=>NL (MD b8 [11,79,82,71,83,84,2,3,5,7,75,76,78,81] [1,0]))
  ·refine o9.step (iJ.of (ι:=(Option Addr)×Nat) (v:=λ((B5,p5):(Option Addr)×Nat)=>.slice B5 (ps.length) (p5)) (l:=λ((B5,p5):(Option Addr)×Nat)=>[.abs (aI 9 1 B5 ps.length p5 (kx ps)),wA G fs xs af S2 V2 q2.1]) [11] rfl rfl rfl rfl ?_) ?_
   ·intro u Aq
    refine gL [] (Nk (β:=ql) Ap cp ps hP hpl) ?_
    rintro _ _ ⟨B5,p5,rfl,rfl⟩
    exact NL (MD (B5,p5) [79,11,2,3,5,7,75,76,78,81] [0,1,2])
   rintro _ _ ⟨⟨B5,p5⟩,rfl,rfl⟩
   refine⟨abl 1 rfl,(o9.step (iJ.of (ι:=WV×({l:List aK // l.length=r.n/\lD fs xs af q2.1 S2 l r.S})×Kn) (v:=λ((V3,q3,E3):WV×({l:List aK // l.length=r.n/\lD fs xs af q2.1 S2 l r.S})×Kn)=>.tuple #[.agg #[vI (r.cur),.bool r.own,vI (r.made)],E3.1]) (l:=λ((V3,q3,E3):WV×({l:List aK // l.length=r.n/\lD fs xs af q2.1 S2 l r.S})×Kn)=>[wA G fs xs af r.S V3 q3.1]) [11] rfl rfl rfl rfl ?_) ?_)⟩
   ·intro u Aq
    refine gL [1,0] (abC (β:=ql) (A:=B5) (oF:=p5) (G:=G) (V:=V2) (r:=r) hrw vX q2.2.1 d5 mX gF hg hE QI hpl ay hr) ?_
    rintro _ _ ⟨V3,q3,E3,rfl,rfl⟩
    exact NL (MD (V3,q3,E3) [82,11,79,2,3,5,7,75,76,78,81] [0,1])
   rintro _ _ ⟨⟨V3,q3,E3⟩,rfl,rfl⟩
   exact⟨abl 0 rfl,(ef.read (.tuple #[.agg #[vI (r.cur),.bool r.own,vI (r.made)],E3.1]) (ef.read (.agg #[vI (r.cur),.bool r.own,vI (r.made)]) (ef.read E3.1 ⟨B5,p5,V3,q3,E3,rfl,rfl⟩ (h:=λ_=>by obtain⟨E,rfl|⟨e,rfl⟩⟩:=E3<;>kernel_rfl))))⟩
  rintro _ _ ⟨B5,p5,V3,q3,E3,rfl,rfl⟩ _ _ ⟨b8,rfl,rfl⟩
  refine eH.ahs (ι:=Unit) (bN:=λ(_:Unit)=>[(2,vP b1),(3,vP b2),(5,vP G.w),(7,vP b6),(11,vP b8),(84,E3.1)]) (dh:=λ(_:Unit)=>[wA G fs xs af r.S V3 q3.1,.aD b8 [vI (r.cur),.bool r.own,vI (r.made)] 72,.abs R,.aD b1 [.slice A (ns.length) (c),vI (af),vI (X.cN),vI (X.cB),vI (X.cH),vI (X.cS),vI (X.cZ),.slice Af (fs.length) (cf),.slice Aa (xs.length) (ca)] 34,.aD b2 [.slice Ap (ps.length) (cp),vI (mode),.bool far] 69,.aD b6 (uV (toR N.1 []) Yd af U fs.length xs.length 0) 47]) d6 ?_ (λ_ _ h=>(h.QK (i:=0) rfl).pick (ax:=[4,0]) rfl rfl) ?_
  ·exact jC 1 [] [(0,A_ 1 b8 3)] [(1,[(0,vI (r.cur)),(1,.bool r.own),(2,vI (r.made))])] (NL (MD () [2,3,5,7,11,84] [0,1,2,3,4,5]))
  rintro _
  refine eH.last d6 (jK 1 [] [] (NL (aF.np (NX (av.seq (av.Hz (S:=[.aD b8 [vI (r.cur),.bool r.own,vI (r.made)] 72,.abs (wj G)]) [(true,0),(true,1),(true,2),(true,3),(true,4),(false,5),(false,6)] d6 d6 (λ_ h=>(h.QK (i:=0) rfl).pick (ax:=[1,0]) rfl rfl) (jG 5 [2,3,5,7,88,89] [(3,p_ ⟨[.view 1 (.iface 37 (vP G.w))],none,none,none,none⟩ [(∀F w,(wj G).h F w->w.cell? ⟨G.w,0,none⟩=some (.iface 37 (vP G.w)))] ⟨yK,trivial⟩),(4,A_ 0 b8 3)] (eH.toH ?_))))))))
  have QY:Grown ql ql:=.inl rfl
  refine tI.acu (ι:=Bs×WV×({l:List aK // l.length=q.n/\lD fs xs af q3.1 r.S l q.S})) (B:=λ((Ce,V4,q4):Bs×WV×({l:List aK // l.length=q.n/\lD fs xs af q3.1 r.S l q.S}))=>Ce) (Φ:=λ((Ce,V4,q4):Bs×WV×({l:List aK // l.length=q.n/\lD fs xs af q3.1 r.S l q.S}))=>True) (bN:=λ((Ce,V4,q4):Bs×WV×({l:List aK // l.length=q.n/\lD fs xs af q3.1 r.S l q.S}))=>[(2,vP b1),(3,vP b2),(5,vP G.w),(7,vP b6),(90,vI (q.code))]) (dh:=λ((Ce,V4,q4):Bs×WV×({l:List aK // l.length=q.n/\lD fs xs af q3.1 r.S l q.S}))=>[wA G fs xs af q.S V4 q4.1,.aD b8 [vI (r.cur),.bool r.own,vI (r.made)] 72,.abs R,.aD b1 [.slice A (ns.length) (c),vI (af),vI (X.cN),vI (X.cB),vI (X.cH),vI (X.cS),vI (X.cZ),.slice Af (fs.length) (cf),.slice Aa (xs.length) (ca)] 34,.aD b2 [.slice Ap (ps.length) (cp),vI (mode),.bool far] 69,.aD b6 (uV (toR N.1 []) Yd af U fs.length xs.length 0) 47]) QY d6 ?_ (λ_ _ h=>(h.QK (i:=0) rfl).pick (ax:=[1,0]) rfl rfl) ?_
  ·refine ia [0] (YO (β:=ql) (G:=G) (V:=V3) (q:=q) hrw hIr q3.2.1 d5 mX gF hg r.cur r.made hcw r.own hq) ?_
   rintro Ce _ _ eF ⟨V4,q4,rfl,rfl⟩
   replace hG:=hG.le eF
   replace hF:=hF.le eF
   replace hA:=hA.le eF
   replace hP:=hP.le eF
   replace hg:=hg.le eF
   replace hE:=hE.le eF
   replace mX:=mX.le eF
   replace hR:=hR.le eF
   replace hU:=hU.le eF
   replace aE:=aE.trans eF
   exact NL (aF.adT (Ce,V4,q4) rfl eF (trivial) (ax:=[2,3,5,7,90]) (pk:=[0,1,2,3,4,5]) (λ_=>d6) rfl d6)
  rintro⟨Ce,V4,q4⟩ eF _
  show tI _ Ce _ _ _ _ _ [(2,vP b1),(3,vP b2),(5,vP G.w),(7,vP b6),(90,vI (q.code))] [wA G fs xs af q.S V4 q4.1,.aD b8 [vI (r.cur),.bool r.own,vI (r.made)] 72,.abs R,.aD b1 [.slice A (ns.length) (c),vI (af),vI (X.cN),vI (X.cB),vI (X.cH),vI (X.cS),vI (X.cZ),.slice Af (fs.length) (cf),.slice Aa (xs.length) (ca)] 34,.aD b2 [.slice Ap (ps.length) (cp),vI (mode),.bool far] 69,.aD b6 (uV (toR N.1 []) Yd af U fs.length xs.length 0) 47] _
  replace hG:=hG.le eF
  replace hF:=hF.le eF
  replace hA:=hA.le eF
  replace hP:=hP.le eF
  replace hg:=hg.le eF
  replace hE:=hE.le eF
  replace mX:=mX.le eF
  replace hR:=hR.le eF
  replace hU:=hU.le eF
  replace aE:=aE.trans eF
  replace QY:=QY.trans eF
  refine tI.last d6 (jK 1 [13] [] (NL (aF.np (NX (SR (jK 2 [92,93] [(0,A_ 5 b6 16)] (ia [] (xA (β:=Ce) (S:=N.1) (g:=[]) (.start N hok.2) Yd hR af U fs xs 0 d5 hU.f d5 hU.x gF (YN.trans eR) (.inl rfl) (L4 _) (λj v h=>by cases h) (L4 _) (N6 _)) ?_)))))))
  rintro Lg _ _ iH ⟨g2,Y2,B2,p2,rfl,rfl,hp2,t7,_⟩
  replace hG:=hG.le iH
  replace hF:=hF.le iH
  replace hA:=hA.le iH
  replace hP:=hP.le iH
  replace hg:=hg.le iH
  replace hE:=hE.le iH
  replace mX:=mX.le iH
  replace hR:=hR.le iH
  replace hU:=hU.le iH
  replace aE:=aE.trans iH
  refine jN 6 [14] (λb11=>[(4,A_ 5 b6 16),(5,A_ 6 b11 13)]) (λb11=>[(5,[(0,.slice Y2.A ((toR S2 g2).ns.length) (Y2.c)),(1,.slice Y2.G ((toR S2 g2).aJ.length) (Y2.cg)),(2,vI ((toR S2 g2).cH)),(3,vI ((toR S2 g2).aL)),(4,.slice Y2.H ((toR S2 g2).us.length) (Y2.ch)),(5,.slice Y2.V ((toR S2 g2).us.length) (Y2.cv)),(6,vI ((toR S2 g2).cN)),(7,vI ((toR S2 g2).cB)),(8,vI ((toR S2 g2).cH)),(9,vI ((toR S2 g2).cS)),(10,vI ((toR S2 g2).cZ)),(11,vI ((toR S2 g2).last)),(15,vI (((1:Nat):Int)))])]) (λb11=>.aD b11 (aW (iz c2 B2 p2)) 63) (λb11=>NS (jK 7 [98,100,102,104] [(0,A_ 5 b6 16),(2,a_ 6 b11),(4,a_ 4 b2),(6,a_ 4 b2)] (ia [] (abA (β:=Lg) (r:=r) hp2 Y2 t7 af U fs xs 1 (np:=ps.length) d5 hU d5 gF c2.answer Ap cp ps hP rfl ay mode hr) ?_)))
  rintro DY _ _ gA ⟨g3,Y3,rfl,rfl,hp3,nQ⟩
  replace hG:=hG.le gA
  replace hF:=hF.le gA
  replace hA:=hA.le gA
  replace hP:=hP.le gA
  replace hg:=hg.le gA
  replace hE:=hE.le gA
  replace mX:=mX.le gA
  replace hR:=hR.le gA
  replace hU:=hU.le gA
  replace t7:=t7.le gA
  replace aE:=aE.trans gA
  refine jB 4 [15,106,107] (λb13=>.aD b13 (uZ) 47) (λb13=>jN 3 [16] (λb14=>[(1,A_ 7 b13 16),(2,A_ 8 b14 5)]) (λb14=>[(7,(zC (uV (toR r.S g3) Y3 af U fs.length xs.length (↑r.n))))]) (λb14=>.aD b14 [vI (r.cur),.bool r.own,vI (r.made),vI (r.code),vI (r.at_)] 78) (λb14=>NS (jK 2 [109,110] [(0,A_ 7 b13 16),(1,A_ 8 b14 5)] (ia [] (VH (β:=DY) (q:=q) hp3 Y3 nQ af U fs xs r.n d5 hU d5 gF r.cur r.made r.code r.at_ r.own hq) ?_))))
  rintro Ct _ _ gP ⟨g4,Y4,rfl,rfl,hp4,HF⟩
  replace hG:=hG.le gP
  replace hF:=hF.le gP
  replace hA:=hA.le gP
  replace hP:=hP.le gP
  replace hg:=hg.le gP
  replace hE:=hE.le gP
  replace mX:=mX.le gP
  replace hR:=hR.le gP
  replace hU:=hU.le gP
  replace t7:=t7.le gP
  replace nQ:=nQ.le gP
  replace aE:=aE.trans gP
  refine jC 5 [17] [(3,A_ 7 b13 16)] [(7,[(0,.slice Y4.A ((toR q.S g4).ns.length) (Y4.c)),(1,.slice Y4.G ((toR q.S g4).aJ.length) (Y4.cg)),(2,vI ((toR q.S g4).cH)),(3,vI ((toR q.S g4).aL)),(4,.slice Y4.H ((toR q.S g4).us.length) (Y4.ch)),(5,.slice Y4.V ((toR q.S g4).us.length) (Y4.cv)),(6,vI ((toR q.S g4).cN)),(7,vI ((toR q.S g4).cB)),(8,vI ((toR q.S g4).cH)),(9,vI ((toR q.S g4).cS)),(10,vI ((toR q.S g4).cZ)),(11,vI ((toR q.S g4).last)),(15,vI ↑q.n)])] (NS (jK 1 [114] [] (ia [0] (YR (β:=Ct) (G:=G) (fs:=fs) (xs:=xs) (af:=af) (S:=q.S) (V:=V4) (tr:=q4.1) (by have:=q4.2.1;omega) (((q2.2.2.trans q3.2.2).trans q4.2.2).ahr (λc hc=>by cases hc))) ?_)))
  rintro Fw _ _ iA ⟨At,ct,os,rfl,rfl,hO,hM⟩
  replace hG:=hG.le iA
  replace hF:=hF.le iA
  replace hA:=hA.le iA
  replace hP:=hP.le iA
  replace hg:=hg.le iA
  replace hE:=hE.le iA
  replace mX:=mX.le iA
  replace hR:=hR.le iA
  replace hU:=hU.le iA
  replace t7:=t7.le iA
  replace nQ:=nQ.le iA
  replace HF:=HF.le iA
  replace aE:=aE.trans iA
  refine jK 1 [18] [] (NN (av.seq (SR ?_)))
  have hol:os.length=q.n:=(adD hM).trans q4.2.1
  have ahy:rU fs xs af 0 N.1 q4.1 q.S:=by obtain⟨e,he,hpl⟩:=((q2.2.2.trans q3.2.2).trans q4.2.2);rw [show q4.1=e from he];exact hpl
  refine sl 18 (.slice At (q4.1.length) (ct)) (.slice At (q.n) (ct)) (zc (λn=>Value.slice _ n _) q4.2.1) (jK 10 [125] [(2,p_ ⟨[],none,none,none,some (.bool false)⟩ [(Value.bool (!decide ((q.code:Int)=(q.code:Int))))=(.bool false)] ⟨nh,trivial⟩),(7,a_ 7 b13),(8,p_ ⟨[],none,none,none,some (.bool false)⟩ [(Value.bool (!decide ((((q.n:Nat):Int):Int)=(((q.n:Nat):Int):Int))))=(.bool false)] ⟨nh,trivial⟩)] (NF (KX (SR (jK 8 [128,130,132,134] [(1,a_ 3 b1),(3,a_ 3 b1),(5,A_ 3 b1 5),(7,A_ 3 b1 2)] (ia [] (M9 (β:=Fw) h0 N A c hG hB cf hF (ox.wide d8) ca hA gF) ?_))))))
  rintro LC _ _ gI ⟨Y9,U9,rfl,rfl,hR9,TH⟩
  replace hG:=hG.le gI
  replace hF:=hF.le gI
  replace hA:=hA.le gI
  replace hP:=hP.le gI
  replace hg:=hg.le gI
  replace hE:=hE.le gI
  replace mX:=mX.le gI
  replace hR:=hR.le gI
  replace hU:=hU.le gI
  replace t7:=t7.le gI
  replace nQ:=nQ.le gI
  replace HF:=HF.le gI
  replace hO:=hO.le gI
  replace aE:=aE.trans gI
  refine jN 6 [19] (λb18=>[(4,A_ 9 b18 16)]) (λ_=>[]) (λb18=>.aD b18 (uV (toR N.1 []) Y9 af U9 fs.length xs.length 0) 47) (λb18=>NZ (jK 1 [21] [] (NN (av.block (lB (ι:=Nat×Bs×aZ×(List Int)×RL) (λ(i,b,S,g,Ej)=>b) (λ(i,b,S,g,Ej)=>(i<=q.n)/\((B0 W).le b)/\(nG b At os)/\(Bc b U9 fs xs)/\(dJ b (toR q.S g4) Y4)/\(Pair S g)/\(dJ b (toR S g) Ej)/\(rU fs xs af i S (q4.1.drop i) q.S)) (λ(i,b,S,g,Ej)=>q.n-i) (λ(i,b,S,g,Ej)=>[(5,vP G.w),(15,vP b13),(18,.slice At (q.n) (ct)),(19,vP b18),(21,vI ↑i)]) (λ(i,b,S,g,Ej)=>[.aD b13 (uV (toR q.S g4) Y4 af U fs.length xs.length (↑q.n)) 47,.aD b18 (uV (toR S g) Ej af U9 fs.length xs.length (↑i)) 47,wA G fs xs af q.S V4 q4.1,.abs R]) (0,LC,N.1,[],Y9) [7,9,0,2] (⟨L4 _,aE,hO,TH,HF,.start N hok.2,hR9,ahy⟩) ?_)))))
  rintro⟨i,b,S,g,Ej⟩ ⟨hi,aE,hO,TH,HF,hpp,hRR,hpy⟩
  refine SQ (jK 4 [141] [] (NN (cP ((((i:Nat):Int):Int)<(((q.n:Nat):Int):Int)) (λahz=>?_) (λahz=>?_))))
  ·refine KX (av.seq (av.block (av.seq ?_)))
   obtain⟨S1,e1,⟨ahA,CK⟩,ahB,_,hpx⟩:=hpy.step (by have:=q4.2.1;omega) hM
   refine av.pW (S:=[.aD b18 (uV (toR S g) Ej af U9 fs.length xs.length (↑i)) 47]) (wo [0,1,2,3,4] (oK 9 10 [(false,11),(false,12)] [(false,5),(true,6),(true,7),(true,8)])) [1] (gT (oK 9 10 [(false,11),(false,12)] [(false,5),(true,6),(true,7),(true,8)]) [(5,vP G.w),(15,vP b13),(18,.slice At (q.n) (ct)),(19,vP b18),(21,vI ↑i),(145,.agg ⟨uV (toR S g) Ej af U9 fs.length xs.length (↑i)⟩),(149,.agg ⟨aW (ez os i)⟩)] [0,1,2,3,4] [(0,A_ 0 b18 16),(3,x_ i q.n (nG.hd hO (i:=i) d5)),(4,p_ ⟨[.old (.int .i64 ((ez os i).op)),.old (.int .i64 ((ez os i).bA)),.old (.int .i64 ((ez os i).other)),.old (.string (ez os i).name),.old (.string (ez os i).text),.old (.slice (ez os i).dA ((ez os i).data.length) ((ez os i).dC)),.old (.int .i64 ((ez os i).mode)),.old (.int .i64 ((ez os i).cM)),.old (.int .i64 ((ez os i).cO)),.old (.int .i64 ((ez os i).bH)),.old (.int .i64 ((ez os i).bh)),.old (.int .i64 ((ez os i).code)),.old (.int .i64 ((ez os i).answer))],none,none,none,none⟩ [(Rd b ⟨(bG At),bE At+i*13+12,none⟩ (vI ((ez os i).answer))),(Rd b ⟨(bG At),bE At+i*13+11,none⟩ (vI ((ez os i).code))),(Rd b ⟨(bG At),bE At+i*13+10,none⟩ (vI ((ez os i).bh))),(Rd b ⟨(bG At),bE At+i*13+9,none⟩ (vI ((ez os i).bH))),(Rd b ⟨(bG At),bE At+i*13+8,none⟩ (vI ((ez os i).cO))),(Rd b ⟨(bG At),bE At+i*13+7,none⟩ (vI ((ez os i).cM))),(Rd b ⟨(bG At),bE At+i*13+6,none⟩ (vI ((ez os i).mode))),(Rd b ⟨(bG At),bE At+i*13+5,none⟩ (.slice (ez os i).dA ((ez os i).data.length) ((ez os i).dC))),(Rd b ⟨(bG At),bE At+i*13+4,none⟩ (.string (ez os i).text)),(Rd b ⟨(bG At),bE At+i*13+3,none⟩ (.string (ez os i).name)),(Rd b ⟨(bG At),bE At+i*13+2,none⟩ (vI ((ez os i).other))),(Rd b ⟨(bG At),bE At+i*13+1,none⟩ (vI ((ez os i).bA))),(Rd b ⟨(bG At),bE At+i*13,none⟩ (vI ((ez os i).op)))] ⟨nG.rd hO (i:=i) d5 (j:=12) rfl,nG.rd hO (i:=i) d5 (j:=11) rfl,nG.rd hO (i:=i) d5 (j:=10) rfl,nG.rd hO (i:=i) d5 (j:=9) rfl,nG.rd hO (i:=i) d5 (j:=8) rfl,nG.rd hO (i:=i) d5 (j:=7) rfl,nG.rd hO (i:=i) d5 (j:=6) rfl,nG.rd hO (i:=i) d5 (j:=5) rfl,nG.rd hO (i:=i) d5 (j:=4) rfl,nG.rd hO (i:=i) d5 (j:=3) rfl,nG.rd hO (i:=i) d5 (j:=2) rfl,nG.rd hO (i:=i) d5 (j:=1) rfl,nG.rd hO (i:=i) d5 (j:=0) rfl,trivial⟩)] (lX.both (j:=9) (dj:=22) (k:=10) (dk:=23) (R:=λf_ l_=>∃g5:List Int,∃Y5:RL,∃B5:Option Addr,∃p5:Nat,f_=[(152,.agg ⟨aW (iz (ez os i) B5 p5)⟩),(151,.agg ⟨uV (toR S1 g5) Y5 af U9 fs.length xs.length (↑(i+1))⟩),(144,.tuple #[.agg ⟨uV (toR S1 g5) Y5 af U9 fs.length xs.length (↑(i+1))⟩,.agg ⟨aW (iz (ez os i) B5 p5)⟩]),(150,.tuple #[.agg ⟨uV (toR S1 g5) Y5 af U9 fs.length xs.length (↑(i+1))⟩,.agg ⟨aW (iz (ez os i) B5 p5)⟩]),(5,vP G.w),(15,vP b13),(18,.slice At (q.n) (ct)),(19,vP b18),(21,vI ↑i),(145,.agg ⟨uV (toR S g) Ej af U9 fs.length xs.length (↑i)⟩),(149,.agg ⟨aW (ez os i)⟩)]/\l_=[.abs (jL b (λβ'=>Pair S1 g5/\dJ β' (toR S1 g5) Y5/\bO β' B5 (ez os i).data))]) [1] [(false,5,150),(true,6,144),(true,7,151),(true,8,152)] (iJ.of (ι:=Nat) (v:=λ(b19:Nat)=>vP b19) (l:=λ(b19:Nat)=>[.aD b19 (uZ) 47]) [150,144,151,152,23] rfl rfl rfl rfl ?_) (iJ.of (ι:=Nat) (v:=λ(b20:Nat)=>vP b20) (l:=λ(b20:Nat)=>[.aD b20 [vI 0,vI 0,vI 0,.string ⟨#[]⟩,.string ⟨#[]⟩,.slice none (0) (0),vI 0,vI 0,vI 0,vI 0,vI 0,vI 0,vI 0] 63]) [150,144,151,152,22] rfl rfl rfl rfl ?_) ?_ ?_))
   ·intro u Aq
    exact jB 1 [22] (λb19=>.aD b19 (uZ) 47) (λb19=>NL (MD b19 [22,150,144,151,152,23,5,15,18,19,21,145,149] [1,0]))
   ·intro u Aq
    exact jB 1 [23] (λb20=>.aD b20 [vI 0,vI 0,vI 0,.string ⟨#[]⟩,.string ⟨#[]⟩,.slice none (0) (0),vI 0,vI 0,vI 0,vI 0,vI 0,vI 0,vI 0] 63) (λb20=>NL (MD b20 [23,150,144,151,152,22,5,15,18,19,21,145,149] [1,0]))
   ·refine ef.step (iJ.of (ι:=(List Int)×RL×(Option Addr)×Nat) (v:=λ((g5,Y5,B5,p5):(List Int)×RL×(Option Addr)×Nat)=>.tuple #[.agg ⟨uV (toR S1 g5) Y5 af U9 fs.length xs.length (↑(i+1))⟩,.agg ⟨aW (iz (ez os i) B5 p5)⟩]) (l:=λ((g5,Y5,B5,p5):(List Int)×RL×(Option Addr)×Nat)=>[.abs (jL b (λβ'=>Pair S1 g5/\dJ β' (toR S1 g5) Y5/\bO β' B5 (ez os i).data))]) [22,23] rfl rfl rfl rfl ?_) ?_
    ·intro u Aq
     refine gL [] (YK hpp Ej hRR af U9 fs xs i d5 TH d5 gF e1 ahA ahB (hO.dat _ (C2 d5)).1 (by rw [CK];decide) (by rw [CK];exact L4 _)) ?_
     rintro _ _ ⟨g5,Y5,B5,p5,rfl,rfl⟩
     exact NL (MD (g5,Y5,B5,p5) [150,22,23,5,15,18,19,21,145,149] [0,1])
    rintro _ _ ⟨⟨g5,Y5,B5,p5⟩,rfl,rfl⟩
    exact ef.read (.tuple #[.agg ⟨uV (toR S1 g5) Y5 af U9 fs.length xs.length (↑(i+1))⟩,.agg ⟨aW (iz (ez os i) B5 p5)⟩]) (ef.read (.agg ⟨uV (toR S1 g5) Y5 af U9 fs.length xs.length (↑(i+1))⟩) (ef.read (.agg ⟨aW (iz (ez os i) B5 p5)⟩) ⟨g5,Y5,B5,p5,rfl,rfl⟩))
   rintro _ _ ⟨g5,Y5,B5,p5,rfl,rfl⟩ _ _ ⟨b19,rfl,rfl⟩ _ _ ⟨b20,rfl,rfl⟩
   refine kC [4] [] [(0,A_ 1 b19 16)] [(1,(zC (uV (toR S1 g5) Y5 af U9 fs.length xs.length (↑(i+1)))))] (eH.last d6 (jC 1 [] [(0,A_ 2 b20 13)] [(2,(zC (aW (iz (ez os i) B5 p5))))] (NL (aF.np (NX (SR (aB.tL 0 [1,2,3,4,5,6] (gj:=[.aD b19 (uV (toR S1 g5) Y5 af U9 fs.length xs.length (↑(i+1))) 47,.aD b20 (aW (iz (ez os i) B5 p5)) 63,.aD b13 (uV (toR q.S g4) Y4 af U fs.length xs.length (↑q.n)) 47,.aD b18 (uV (toR S g) Ej af U9 fs.length xs.length (↑i)) 47,wA G fs xs af q.S V4 q4.1,.abs R]) rfl rfl d6 (λwm D5 ⟨hp5,XT,hB5⟩=>?_))))))))
   replace HF:=HF.le D5
   replace hO:=hO.le D5
   replace TH:=TH.le D5
   replace aE:=aE.trans D5
   refine jC 2 [] [(0,A_ 0 b19 16),(1,A_ 3 b18 16)] [(3,[(0,.slice Y5.A ((toR S1 g5).ns.length) (Y5.c)),(1,.slice Y5.G ((toR S1 g5).aJ.length) (Y5.cg)),(2,vI ((toR S1 g5).cH)),(3,vI ((toR S1 g5).aL)),(4,.slice Y5.H ((toR S1 g5).us.length) (Y5.ch)),(5,.slice Y5.V ((toR S1 g5).us.length) (Y5.cv)),(6,vI ((toR S1 g5).cN)),(7,vI ((toR S1 g5).cB)),(8,vI ((toR S1 g5).cH)),(9,vI ((toR S1 g5).cS)),(10,vI ((toR S1 g5).cZ)),(11,vI ((toR S1 g5).last)),(15,vI ↑(i+1))])] (NN (av.seq (jM [0,1,2,3,4,505,506] [1] (jG 5 [5,15,18,19,21,157,158] [(2,x_ i q.n (nG.hd hO (i:=i) d5)),(3,p_ ⟨[.old (.int .i64 ((ez os i).op)),.old (.int .i64 ((ez os i).bA)),.old (.int .i64 ((ez os i).other)),.old (.string (ez os i).name),.old (.string (ez os i).text),.old (.slice (ez os i).dA ((ez os i).data.length) ((ez os i).dC)),.old (.int .i64 ((ez os i).mode)),.old (.int .i64 ((ez os i).cM)),.old (.int .i64 ((ez os i).cO)),.old (.int .i64 ((ez os i).bH)),.old (.int .i64 ((ez os i).bh)),.old (.int .i64 ((ez os i).code)),.old (.int .i64 ((ez os i).answer))],none,none,none,none⟩ [(Rd wm ⟨(bG At),bE At+i*13+12,none⟩ (vI ((ez os i).answer))),(Rd wm ⟨(bG At),bE At+i*13+11,none⟩ (vI ((ez os i).code))),(Rd wm ⟨(bG At),bE At+i*13+10,none⟩ (vI ((ez os i).bh))),(Rd wm ⟨(bG At),bE At+i*13+9,none⟩ (vI ((ez os i).bH))),(Rd wm ⟨(bG At),bE At+i*13+8,none⟩ (vI ((ez os i).cO))),(Rd wm ⟨(bG At),bE At+i*13+7,none⟩ (vI ((ez os i).cM))),(Rd wm ⟨(bG At),bE At+i*13+6,none⟩ (vI ((ez os i).mode))),(Rd wm ⟨(bG At),bE At+i*13+5,none⟩ (.slice (ez os i).dA ((ez os i).data.length) ((ez os i).dC))),(Rd wm ⟨(bG At),bE At+i*13+4,none⟩ (.string (ez os i).text)),(Rd wm ⟨(bG At),bE At+i*13+3,none⟩ (.string (ez os i).name)),(Rd wm ⟨(bG At),bE At+i*13+2,none⟩ (vI ((ez os i).other))),(Rd wm ⟨(bG At),bE At+i*13+1,none⟩ (vI ((ez os i).bA))),(Rd wm ⟨(bG At),bE At+i*13,none⟩ (vI ((ez os i).op)))] ⟨nG.rd hO (i:=i) d5 (j:=12) rfl,nG.rd hO (i:=i) d5 (j:=11) rfl,nG.rd hO (i:=i) d5 (j:=10) rfl,nG.rd hO (i:=i) d5 (j:=9) rfl,nG.rd hO (i:=i) d5 (j:=8) rfl,nG.rd hO (i:=i) d5 (j:=7) rfl,nG.rd hO (i:=i) d5 (j:=6) rfl,nG.rd hO (i:=i) d5 (j:=5) rfl,nG.rd hO (i:=i) d5 (j:=4) rfl,nG.rd hO (i:=i) d5 (j:=3) rfl,nG.rd hO (i:=i) d5 (j:=2) rfl,nG.rd hO (i:=i) d5 (j:=1) rfl,nG.rd hO (i:=i) d5 (j:=0) rfl,trivial⟩),(4,A_ 0 b20 13)] (kL [1] [] (QC (ez os i) (fB B5 p5 (ez os i)) rfl (hO.dat _ (C2 d5)).1 hB5 (by rw [CK];decide)) ?_ (by rintro _ _ ⟨rfl,rfl⟩;kernel_rfl))))))
   rintro _ _ ⟨rfl,rfl⟩
   exact eH.last d6 (jK 1 [160] [] (NL (aF.np (NX (CF (KX (av.region (jK 3 [21] [(1,wJ ((i:Int)+1) (↑(i+1)))] (NL (tB ((i+1),wm,S1,g5,Y5) [2,3,4,5] (⟨d5,aE,hO,TH,HF,hp5,XT,hpx⟩)))))))))))
  refine XX (av.seq (jM [0,2,3,4,501,505,6,7,9,10,11,12,13,508,14,15,516] [0] (jG 4 [5,15,161,165] [(3,a_ 0 b13)] (kL [4] [2] (MJ (G:=G) (fs:=fs) (xs:=xs) (af:=af) (S:=q.S) (V:=V4) (tr:=q4.1) hp4.inv) ?_ (by rintro _ _ ⟨Ao,co,Ko,rfl,rfl⟩;kernel_rfl)))))
  rintro _ _ ⟨Ao,co,Ko,rfl,rfl⟩
  refine kL [4] [1,2,3] (Ng Ao Y4.A co Y4.c (aV q.S) (aV q.S) Ko Y4.L HF.n (aar hp4.inv.toInv0) (aaq hp4.inv.toInv0) (aio rfl)) ?_ (by rintro _ _ ⟨rfl,rfl⟩;kernel_rfl)
  rintro _ _ ⟨rfl,rfl⟩
  refine jG 7 [167,168,174] [(5,a_ 0 b13)] (kL [4] [3] ((aaz (G:=G) (fs:=fs) (xs:=xs) (af:=af) (S:=q.S) (V:=V4) (tr:=q4.1)).val (zc (Value.int .i64) (show (q.S.us.length:Int)=((toR q.S g4).us.length:Int) from zc Nat.cast Gz.symm))) ?_ (by rintro _ _ ⟨rfl,rfl⟩;kernel_rfl))
  rintro _ _ ⟨rfl,rfl⟩
  exact jG 2 [176] [(0,p_ ⟨[],none,none,none,some (.bool true)⟩ [(Value.bool (decide (((((toR q.S g4).us.length:Nat):Int):Int)=((((toR q.S g4).us.length:Nat):Int):Int))))=(.bool true)] ⟨nh,trivial⟩)] (eH.last d6 (jK 1 [4] [] (NL (aF.np (NX (av.ret (aF.adM (v:=.bool true) (l:=[]) (eT:=[]) [] [6] aE (λ_=>d6) trivial rfl d6 (rfl))))))))
 refine av.region (jK 1 [27] [(0,A_ 1 b1 9)] (ia [] (Vv (β:=vn) (X:=X) h0 A c Y hG hB Af cf fs hF (ox.wide d8) Aa ca xs hA gF) ?_))
 rintro ahC _ _ uK ⟨rfl,rfl⟩
 replace hG:=hG.le uK
 replace hF:=hF.le uK
 replace hA:=hA.le uK
 replace hP:=hP.le uK
 replace hg:=hg.le uK
 replace hE:=hE.le uK
 replace aE:=aE.trans uK
 refine jK 5 [5,6] [] (NS (jK 8 [33,35,37,39] [(1,a_ 1 b1),(3,a_ 1 b1),(5,A_ 1 b1 5),(7,A_ 1 b1 2)] (ia [] (YJ (β:=ahC) (X:=X) h0 A c hG hB cf hF (ox.wide d8) ca hA gF) ?_)))
 rintro afe _ _ rS ⟨rfl,rfl⟩
 replace hG:=hG.le rS
 replace hF:=hF.le rS
 replace hA:=hA.le rS
 replace hP:=hP.le rS
 replace hg:=hg.le rS
 replace hE:=hE.le rS
 replace aE:=aE.trans rS
 exact jN 6 [7,8] (λKb=>[(4,A_ 3 Kb 16)]) (λ_=>[]) (λKb=>.aD Kb (uZ) 47) (λKb=>NZ (jK 7 [49] [(2,p_ ⟨[],none,none,none,some (.bool false)⟩ [(Value.bool (!decide (((fN X ns af):Int)=((fN X ns af):Int))))=(.bool false)] ⟨nh,trivial⟩)] (NT (SR (jK 12 [4] [(5,p_ ⟨[],none,none,none,some (.bool true)⟩ [(Value.bool (decide (((fN X ns af):Int)=((fN X ns af):Int))))=(.bool true)] ⟨nh,trivial⟩),(9,wNF (((fN X ns af):Int)=(0:Int)) h0)] (NN (av.ret (aF.br (aF.adM (v:=.bool true) (l:=[]) (eT:=[]) [] [0] aE (λ_=>d6) trivial rfl d6 (rfl))))))))))
end
section
open Go.RowKit
theorem glob_ok {W:World} (h:W.ShapedOpen Tryz.prog):iO (B0 W):=by
 obtain⟨m,hm⟩:=cell_of_shapedOpen_int (g:=1) (t:=3) (zero:=#[.int .i64 0]) (k:=.i64) h (ais d6) d6 rfl d6 d6 Tryz.underlying3
 exact⟨m,Kx hm,hm⟩
end
section
open Go.ChangeShapes Go.WideShapes Go.ChangeAt Go.RowKit
structure FP (l:List ByteArray) (b:Nat):Prop where
 len:l.length+1<=b
 size:∀i,i<l.length->(pc l i).size+1<=b
theorem FP.mono {l:List ByteArray} {b c:Nat} (h:FP l b) (hb:b<=c):FP l c:=⟨Pe h.len hb,λi hi=>Pe (h.size i hi) hb⟩
theorem Kp:∀(d:List ByteArray) (k:Nat),fA (λ_ s=>[Value.string s]) k d=kx d
 |[],_=>rfl
 |b::r,k=>by rw [fA,Kp r (k+1)];rfl
section
variable {H:Type} {enc:TypeId×Value->H} {W:World} {sp:Nat->Bool}
theorem VL {P:Program} {t:TypeId} {n:Nat} {cs:List Value} {x:DataW H×List MemPlace} (ht:P.underlying t=some .string) (h:DataW.trod enc P W 0 sp true n t cs=some x):∃s:ByteArray,cs=[Value.string s]/\s.size+1<=Rows.uptoBulk x.1:=by
 obtain⟨s,h1,h2,_⟩:=DataW.trod_string ht h
 refine⟨s,h1,?_⟩
 rw [h2]
 simp only [Rows.uptoBulk,Array.length_toList]
 exact N6 _
theorem RR {n:Nat} {c:Value} {x:DataW H×List MemPlace} (h:DataW.trod enc Tryz.prog W 0 sp true n 67 [c]=some x) :
 ∃A cp,∃ss:List ByteArray,c=.slice A ss.length cp/\jg (B0 W) A ss/\FP ss (Rows.uptoBulk x.1):=by
 obtain⟨A,cp,xs,D,h1,_,_,h2,h4,h3⟩:=wO (α:=ByteArray) (f:=λs=>[Value.string s]) (Q:=λs d=>s.size+1<=Rows.uptoBulk d) Tryz.underlying67 (size:=1) d6 d8 (λn cs x h=>VL Tryz.underlying9 h) (λ_=>rfl) h
 cases h1
 rw [Kp] at h2
 have h5:=wN ((List.range xs.length).map D)
 have h3:Rows.uptoBulkAll ((List.range xs.length).map D)+1<=Rows.uptoBulk x.1:=h3
 refine⟨_,_,xs,rfl,h2,by simp at h5;omega,λi hi=>?_⟩
 have h6:=h4 i hi
 have h7:=Di (D:=D) hi
 have e:pc xs i=xs.getD i default:=rfl
 rw [e]
 omega
theorem open_way {v:Value} {d:DataW H} {ps:List MemPlace} {r:Go.Reach} {b0:Nat} (hval:Value.okWide Tryz.prog W r b0 69 v) (h:DataW.Trod enc Tryz.prog W 0 sp true 69 v d ps) :
 ∃A cp,∃ss:List ByteArray,∃mode:Int,∃far:Bool,v=.agg #[.slice A ss.length cp,.int .i64 mode,.bool far]/\jg (B0 W) A ss/\FP ss (Rows.uptoBulk d):=by
 obtain⟨cs,rfl,hcs⟩:=okWide_struct Tryz.underlying69 hval
 obtain⟨fuel,h⟩:=h
 obtain⟨ys,m,_,hx,hl,tG,hf⟩:=DataW.trod_struct Tryz.underlying69 h
 have hC:Tryz.prog.cellsOf 69=3:=d6
 rw [hC] at hcs
 obtain⟨cs⟩:=cs
 match cs,hcs with
 |[c0,c1,c2],_=>
   obtain⟨h0,b0⟩:=dO (hf 0 _ rfl) (by rw [tG];decide)
   obtain⟨h1,_⟩:=dO (hf 1 _ rfl) (by rw [tG];decide)
   obtain⟨h2,_⟩:=dO (hf 2 _ rfl) (by rw [tG];decide)
   obtain⟨A,cp,ss,rfl,hP,hB⟩:=RR (c:=c0) h0
   obtain⟨z,rfl,_⟩:=zj (c:=c1) Tryz.underlying3 h1
   obtain⟨b,e,_⟩:=DataW.trod_bool Tryz.underlying4 h2
   cases e
   cases hx
   exact⟨A,cp,ss,z,b,rfl,hP,hB.mono b0⟩
end
end
section
open Go.RowKit
theorem et:Tryz.prog.globalNamed "errors.errorType" = some 0:=d6
theorem rtF:(Tryz.prog.cutTypes.find? (·.1 == "internal/reflectlite.rtype")).map (·.2)=some 219:=d6
theorem afM:((List.range 381).filter λt=>Tryz.prog.rowNamed t [101,114,114,111,114])=[74]:=d6
theorem agF:Tryz.prog.types.size=381:=d6
theorem err_laid {W:World} (h:laidMetH Tryz.prog Rows.resolveCallsUptoRow.laid W):oC (B0 W):=by
 have h':laidMet Tryz.prog [] W/\handlesMet Tryz.prog Rows.resolveCallsUptoRow.laid W:=h
 obtain⟨name,u,ty,e1,e2,e3,e4,e5⟩:=h'.2 _ (aiD.2 rfl)
 have en:name=[101,114,114,111,114]:=(ai2 e1).symm
 subst en
 obtain rfl:=ai2 (rtF.symm.trans e2)
 have hm:ty∈(List.range 381).filter λt=>Tryz.prog.rowNamed t [101,114,114,111,114]:=List.mem_filter.2 ⟨List.mem_range.2 (by rw [←agF];exact e3),e4⟩
 rw [afM] at hm
 obtain rfl:=aiD.1 hm
 have hh:typeHandle Tryz.prog 74=.pointer (some ⟨4,74,none⟩):=d6
 rw [hh] at e5
 have hc:W.cell? ⟨0,0,none⟩=some (.iface 219 (.agg #[.pointer (some ⟨4,74,none⟩)])):=by simpa using World.var?_cell et e5 0
 exact⟨Kx hc,hc⟩
noncomputable def laidWorld (os:Os):World:=
 {World.holding Tryz.prog os ⟨#[],#[],[]⟩ with heap:=(World.holding Tryz.prog os ⟨#[],#[],[]⟩).heap.modify 0 fun
  |.cells _ t frozen=>.cells #[.iface 219 (.agg #[.pointer (some ⟨4,74,none⟩)])] t frozen
  |o=>o}
theorem laidWorld_met (os:Os) (args:Array Value):laidMetH Tryz.prog Rows.resolveCallsUptoRow.laid ((laidWorld os).forCall (λ_ _=>0) ⟨#[],args,[]⟩).memory:=
 laidMetH_of_parts (laidMet_nil _ _) d6
end
end Go.Proofs.YtfececghhgeapaaGreatDoor
