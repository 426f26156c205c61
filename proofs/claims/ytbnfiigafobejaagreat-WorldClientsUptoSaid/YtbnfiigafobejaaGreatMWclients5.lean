/-
  PROVED HERE: lemmas and contracts of functions (texts of this repo, joined; what the claim does not use is left out): DP, Dm, Do, DC, Dq, DM, DN, DS, DO, DK, Dr, DU, Co, Ss, Sv, Sw, So, Sy, Sz, Sq, Sj, Sg, Dg, Db, Dn, St, LD, Ns, Ds, Dt, GTe, XS, Wt, We, WG.
  CONDITIONS: as the theorems say.
-/
import Derived.Test.YtbnfiigafobejaaGreatMWclients4
set_option maxRecDepth 100000
set_option maxHeartbeats 4000000
namespace Go.Proofs.YtbnfiigafobejaaGreat
section
open Go.RowKit Go.Maps bF aD
attribute [local irreducible] ar bN ak ay
noncomputable abbrev zQ1 (dc)(top)(b5:Nat) (st):=([(1,vI ↑dc),(2,vI ↑top),(3,vP b5),(7,vI ↑st)]:Fr)
theorem aaV {β:Bs} (Z:RS) (Y:RL) (hR:dF β Z Y) (hB:RB Z) :
 aU Tryz.prog β 116 #[.agg ⟨rV Z Y⟩] [] (λv l=>v=.bool (decide (wz Z))/\l=[]):=by
 exact SE Tryz.func116 Tryz.ntmps116 (λR=>SR (jB 2 [1] (λb1=>.ax b1 (rV Z Y) 45) (λb1=>NS (jK 9 [11] [(2,a_ 1 b1),(6,a_ 1 b1)] (sP 11 ((((Z.ns.length:Nat):Int):Int)<(Z.cN:Int)) (λh11=>jK 5 [16] [(1,a_ 1 b1)] (sP 16 ((Z.last:Int)<(1099511627776:Int)) (λpR=>jK 1 [17] [(0,A_ 1 b1 12)] (gE [] (QC Z Y hR hB) (jK 3 [2] [] (eN ⟨ail Value.bool (aeX h11 pR),rfl⟩)))) (λpR=>jK 5 [2] [] (eN ⟨ail Value.bool (aaQ pR),rfl⟩)))) (λh11=>jK 10 [2] [] (eN ⟨ail Value.bool (aaP h11),rfl⟩)))))))
theorem tU {β:Bs} (Z:RS) (Y:RL) (hR:dF β Z Y) (hC:RC Z) (hx:Int) :
 aU Tryz.prog β 74 #[.agg ⟨rV Z Y⟩,vI (hx)] [] (λv l=>v=exV (iG Z hx)/\l=[]):=by
 refine SE Tryz.func74 Tryz.ntmps74 (λR=>SR (jB 3 [2] (λb2=>.ax b2 (rV Z Y) 45) (λb2=>NN (ak.seq ?_))))
 by_cases hm:hx∈aY Z.us
 ·obtain⟨k,fC,hk,hh,hat⟩:=Ty hC hm
  exact ak.region (jK 3 [8,9] [(1,A_ 1 b2 4)] (gE [] ((FW Z.cH Z.aI Y.H Y.V Y.ch Y.cv Z.us hR.h (by have:=hC.us;omega) hx).val (ail (Value.int .i64) fC)) (jK 1 [6] [] (NZ (jK 2 [12] [(1,wF (((k:Int):Int)<(0:Int)))] (NF (KX (ak.seq (rQ (jQ 8 [14,20] [(1,a_ 1 b2),(4,a_ 1 b2),(6,x_ k Z.us.length (x3.hd (l:=(ja Z.us)) hR.v (j:=k) (by grind [j9,mV]))),(7,r_ (x3.rd (l:=(ja Z.us)) hR.v (j:=k) (by grind [j9,mV])))] (mY [] [0,1] (.int .i64 ↑(bY Z.ns ((ja Z.us).getD k 0))) ((zA Y.A Y.c Z.ns Y.L hR.n hC.fD (by have:=hC.ns;omega) ((ja Z.us).getD k 0)).val (ail (Value.int .i64) hat)) (jQ 2 [4,5] [] (NQ (NX (ak.ret (RT _ [0] (⟨(ail exV hh).symm,rfl⟩)))))))))))))))))
 obtain⟨fC,hh⟩:=Mb hm
 exact ak.region (jK 3 [8,9] [(1,A_ 1 b2 4)] (gE [] ((FW Z.cH Z.aI Y.H Y.V Y.ch Y.cv Z.us hR.h (by have:=hC.us;omega) hx).val (ail (Value.int .i64) fC)) (jK 1 [6] [] (NZ (jK 2 [12] [] (NT (zR ⟨(ail exV hh).symm,rfl⟩)))))))
theorem pH {β:Bs} (Z:RS) (Y:RL) (hR:dF β Z Y) (hC:RC Z) (hx:Int) (name:ByteArray) (hn:name.size<=1048576) (dX:Int) :
 aU Tryz.prog β 75 #[.agg ⟨rV Z Y⟩,vI (hx),.string name,vI (dX)] [] (λv l=>v=exV (ig Z hx name dX)/\l=[]):=by
 refine SE Tryz.func75 Tryz.ntmps75 (λR=>SR (jB 3 [4] (λb3=>.ax b3 (rV Z Y) 45) (λb3=>NS (jK 2 [14,15] [(0,A_ 1 b3 12)] ?_))))
 rcases ul hC hx with hh|⟨d,hh,hd⟩
 ·exact gE [] ((tU Z Y hR hC hx).val (ail exV hh)) (jK 5 [10,11] [] (NZ (jK 2 [20] [] (NT (zR ⟨(ail exV (XP hh)).symm,rfl⟩)))))
 exact gE [] ((tU Z Y hR hC hx).val (ail exV hh)) (jK 5 [10,11] [] (NZ (jK 2 [20] [] (NF (KX (SR (jN 8 [12] (λb4=>[(2,a_ 1 b3),(4,x_ d Z.ns.length (aN.hd hR.n (i:=d) zc)),(5,Ez (iy Y.L d (nd Z.ns d)) (λ_ _ h=>aN.rd hR.n zc h)),(7,A_ 2 b4 10)]) (λ_=>[]) (λb4=>.ax b4 (iy Y.L d (nd Z.ns d)) 95) (λb4=>NZ (jK 3 [30] [(1,a_ 2 b4)] (NN (cN (((nd Z.ns d).kind:Int)=(2:Int)) (λnX=>zR ⟨(ail exV (Tz hh nX)).symm,rfl⟩) (λnX=>KX (SQ (jK 3 [31,33] [(0,A_ 1 b3 12),(2,a_ 2 b4)] (gE [] (xI Z Y hR hC.toRB (nd Z.ns d).id) (NN (cP ((nd Z.ns d).id∈Z.aE) (λyw=>zR ⟨(ail exV (QE hh nX yw)).symm,rfl⟩) (λyw=>KX (SQ (jK 1 [35] [] (gE [] (DP name hn) (jK 1 [37] [] (NN (cN (ck name) (λzl=>zR ⟨(ail exV (QF hh nX yw zl)).symm,rfl⟩) (λzl=>KX (SQ (jK 6 [43] [(1,a_ 2 b4)] (NN (cN ((bits BinOp.and .i64 ((nd Z.ns d).mode) dX:Int)=(dX:Int)) (λJN=>zR ⟨(ail exV (QG hh nX yw zl JN)).symm,rfl⟩) (λJN=>KX (zR ⟨(ail exV (XQ hh nX yw zl JN)).symm,rfl⟩)))))))))))))))))))))))))))))))
theorem aaW {β:Bs} (name:ByteArray) (hn:name.size<=1048576) :
 aU Tryz.prog β 115 #[.string name] [] (λv l=>v=vI (lG name)/\l=[]):=by
 refine SE Tryz.func115 Tryz.ntmps115 (λR=>SR (jK 1 [] [] (NZ (jK 2 [5] [(1,w_ (.bool (decide ((name:ByteArray)=⟨#[]⟩))) (rE _ _))] (NN (cP ((name:ByteArray)=⟨#[]⟩) (λh5=>zR ⟨ail (Value.int .i64) (aaR h5),rfl⟩) (λh5=>KX (SQ (jK 3 [8] [] (NN (cP (((((name:ByteArray).size:Nat):Int):Int)>(4096:Int)) (λh8=>zR ⟨ail (Value.int .i64) (XU h5 h8),rfl⟩) (λh8=>KX (SQ (jK 1 [3] [] (NN (ak.block (lJ (λ(i:Nat)=>(i<=name.size)/\(∀q,q<i->¬dK name q=0)) (λ(i:Nat)=>name.size-i) (λ(i:Nat)=>[(0,.string name),(3,vI ↑i)]) (λ(i:Nat)=>[.abs R]) 0 [0] (⟨aio _,λq hq=>ain hq (aiq q)⟩) ?_)))))))))))))))))
 rintro i ⟨hi,iV⟩
 exact SQ (jK 4 [12] [] (NN (cP ((((i:Nat):Int):Int)<((((name:ByteArray).size:Nat):Int):Int)) (λh12=>KX (ak.seq (ak.block (SR (jK 4 [18] [(2,xP i (i<(name:ByteArray).size))] (NN (cP ((((((name:ByteArray).data.getD (i) 0).toNat:Nat):Int):Int)=(0:Int)) (λql=>zR ⟨ail (Value.int .i64) (aaS h5 h8 (q:=i) zc (by unfold dK;omega)),rfl⟩) (λql=>KX (ak.region (jK 3 [3] [(1,wJ ((i:Int)+1) (↑(i+1)))] (NL (tJ ((i+1)) [0] (⟨zc,λq hq=>by grind [dK]⟩))))))))))))) (λh12=>XX (zR ⟨ail (Value.int .i64) (XV h5 h8 (λq hq=>iV q zc)),rfl⟩)))))
theorem QI {β:Bs} (m:Int) :
 aU Tryz.prog β 103 #[vI m] [] (λv l=>v=.bool (decide (jX m))/\l=[]):=by
 exact SE Tryz.func103 Tryz.ntmps103 (λR=>SR (jK 1 [] [] (NS (jK 3 [5] [] (sP 5 ((m:Int)>=(0:Int)) (λh5=>jK 4 [2] [] (eN ⟨ail Value.bool (agv h5),rfl⟩)) (λh5=>jK 4 [2] [] (eN ⟨ail Value.bool (aeY h5),rfl⟩)))))))
theorem XW {β:Bs} (Z:RS) (Y:RL) (hR:dF β Z Y) (hB:RB Z) (d top:Nat) (hd:d<Z.ns.length) :
 aU Tryz.prog β 105 #[.agg ⟨rV Z Y⟩,vI (((d:Nat):Int)),vI (((top:Nat):Int))] [] (λv l=>v=.bool (jJ Z.ns top (Z.ns.length+1) d)/\l=[]):=by
 refine SE Tryz.func105 Tryz.ntmps105 (λR=>SR (jB 2 [3] (λb5=>.ax b5 (rV Z Y) 45) (λb5=>NZ (jK 1 [7] [] (NN (ak.block (lJ (λ(st,dc)=>(st<=Z.ns.length+1)/\(dc<Z.ns.length)/\(jJ Z.ns top (Z.ns.length+1-st) dc=(jJ Z.ns top (Z.ns.length+1) d))) (λ(st,dc)=>Z.ns.length+1-st) (λ(st,dc)=>(zQ1 dc top b5 st)) (λ(st,dc)=>[.abs R,.ax b5 (rV Z Y) 45]) (0,d) [0,1] (⟨aio _,hd,rfl⟩) ?_)))))))
 rintro⟨st,dc⟩ ⟨hst,hdc,hbl⟩
 have hbn:=hB.ns
 refine SQ (jK 6 [16] [(3,a_ 1 b5)] (NN (cP ((((st:Nat):Int):Int)<=(((Z.ns.length:Nat):Int):Int)) (λpR=>KX (ak.seq (ak.block (SQ (jK 3 [21] [] (NN (cP ((((dc:Nat):Int):Int)=(((top:Nat):Int):Int)) (λsX=>?_) (λsX=>?_)))))))) (λpR=>XX (zR (v:=(.bool false)) ⟨by rw [←hbl,show Z.ns.length+1-st=0 by omega];rfl,rfl⟩)))))
 ·replace sX:dc=top:=zc
  exact zR ⟨by rw [←hbl,show Z.ns.length+1-st=(Z.ns.length-st)+1 by omega,sX,XK],rfl⟩
 replace sX:¬dc=top:=zc
 refine KX (SR (jK 1 [8] [] (NZ (sl 8 (vI (-1)) (.int .i64 ((oV Z.ns (nd Z.ns dc).id 0))) (rfl) (jK 1 [9] [] (NN (ak.block (lJ (λ(i:Nat)=>(i<=Z.ns.length)) (λ(i:Nat)=>Z.ns.length-i) (λ(i:Nat)=>(zQ1 dc top b5 st++[(8,vI ((oV Z.ns (nd Z.ns dc).id i))),(9,vI ↑i)])) (λ(i:Nat)=>[.abs R,.ax b5 (rV Z Y) 45]) 0 [0,1] (aio _) ?_))))))))
 rintro i hi
 refine SQ (jK 6 [27] [(3,a_ 1 b5)] (NN (cP ((((i:Nat):Int):Int)<(((Z.ns.length:Nat):Int):Int)) (λyt=>KX (ak.seq (ak.block (SR (sl 8 (vI ((oV Z.ns (nd Z.ns dc).id i))) (.int .i64 ((Cw Z.ns (nd Z.ns dc).id i 0))) (ail (Value.int .i64) aaJ) (jK 1 [10] [] (NN (ak.block (lJ (λ(j:Nat)=>(j<=(nd Z.ns i).ah.length)) (λ(j:Nat)=>(nd Z.ns i).ah.length-j) (λ(j:Nat)=>(zQ1 dc top b5 st++[(8,vI ((Cw Z.ns (nd Z.ns dc).id i j))),(9,vI ↑i),(10,vI ↑j)])) (λ(j:Nat)=>[.abs R,.ax b5 (rV Z Y) 45]) 0 [0,1] (aio _) ?_))))))))) (λyt=>XX (SQ (sl 8 (vI ((oV Z.ns (nd Z.ns dc).id i))) (.int .i64 ((oV Z.ns (nd Z.ns dc).id Z.ns.length))) (by rw [show i=Z.ns.length by omega]) (jK 2 [63] [] (NN (cP (((oV Z.ns (nd Z.ns dc).id Z.ns.length):Int)<(0:Int)) (λh63=>zR ⟨by rw [←hbl,show Z.ns.length+1-st=(Z.ns.length-st)+1 by omega,Vs sX h63],rfl⟩) (λh63=>KX (ak.region (sl 8 (vI ((oV Z.ns (nd Z.ns dc).id Z.ns.length))) (.int .i64 ↑((oV Z.ns (nd Z.ns dc).id Z.ns.length).toNat)) (ail (Value.int .i64) zc) (jK 2 [1] [] (LX (ak.region (jK 3 [7] [(1,wJ ((st:Int)+1) (↑(st+1)))] (NL (tJ ((st+1),(oV Z.ns (nd Z.ns dc).id Z.ns.length).toNat) [0,1] (⟨zc,by have:=XJ (ns:=Z.ns) (id:=(nd Z.ns dc).id) Z.ns.length;omega,by rw [←hbl,show Z.ns.length+1-st=(Z.ns.length+1-(st+1))+1 by omega,aaL sX h63]⟩)))))))))))))))))))
 rintro j hj
 have hrw:=hB.row (i:=i) zc
 exact SQ (jK 10 [39] [(3,a_ 1 b5),(5,x_ i Z.ns.length (aN.hd hR.n (i:=i) zc)),(7,r_ (aN.rd hR.n (i:=i) zc (j:=9) rfl))] (NN (cP ((((j:Nat):Int):Int)<((((nd Z.ns i).ah.length:Nat):Int):Int)) (λnN=>KX (ak.seq (ak.block (ak.seq (rQ (jQ 19 [60] [(2,a_ 1 b5),(4,x_ i Z.ns.length (aN.hd hR.n (i:=i) zc)),(6,r_ (aN.rd hR.n (i:=i) zc (j:=9) rfl)),(8,x_ j ((nd Z.ns i).ah.length) (cT.hd (hR.n.ah i zc) (i:=j) zc)),(10,r_ (cT.rd (hR.n.ah i zc) (i:=j) zc (j:=1) rfl)),(13,a_ 1 b5),(15,x_ dc Z.ns.length (aN.hd hR.n (i:=dc) zc)),(17,r_ (aN.rd hR.n (i:=dc) zc (j:=0) rfl))] (NQ (NX (cP (((en (nd Z.ns i).ah j).id:Int)=((nd Z.ns dc).id:Int)) (λO9=>ak.region (jK 2 [8] [] (LX (ak.region (sl 8 (vI ↑i) (.int .i64 ((Cw Z.ns (nd Z.ns dc).id i (j+1)))) (ail (Value.int .i64) (adA O9)) (jK 3 [10] [(1,wJ ((j:Int)+1) (↑(j+1)))] (NL (tJ ((j+1)) [0,1] (zc))))))))) (λO9=>KX (ak.region (sl 8 (vI ((Cw Z.ns (nd Z.ns dc).id i j))) (.int .i64 ((Cw Z.ns (nd Z.ns dc).id i (j+1)))) (ail (Value.int .i64) (aaK O9)) (jK 3 [10] [(1,wJ ((j:Int)+1) (↑(j+1)))] (NL (tJ ((j+1)) [0,1] (zc)))))))))))))))) (λnN=>XX (ak.region (sl 8 (vI ((Cw Z.ns (nd Z.ns dc).id i j))) (.int .i64 ((oV Z.ns (nd Z.ns dc).id (i+1)))) (by rw [←adz,show j=(nd Z.ns i).ah.length by omega]) (jK 3 [9] [(1,wJ ((i:Int)+1) (↑(i+1)))] (NL (tJ ((i+1)) [0,1] (zc))))))))))
theorem GK {β:Bs} (Z:RS) (Y:RL) (hR:dF β Z Y) (hC:RC Z) (c:aH) (hn:c.name.size<=1048576) (ht:c.text.size<=1048576) (dX:Int) :
 aU Tryz.prog β 80 #[.agg ⟨rV Z Y⟩,.agg ⟨aO c⟩,vI (dX)] [] (λv l=>v=El Z c dX/\l=[]):=by
 refine SE Tryz.func80 Tryz.ntmps80 (λR=>SR (jB 1 [3] (λb6=>.ax b6 (rV Z Y) 45) (λb6=>jB 4 [4] (λb7=>.ax b7 (aO c) 53) (λb7=>NS (jK 6 [13,15,17,18] [(0,A_ 1 b6 12),(2,a_ 2 b7),(4,a_ 2 b7)] ?_)))))
 rcases si hC c.aG c.name dX with ⟨e,h1,FX⟩|⟨f,h1,hf⟩
 ·exact gE [] ((pH Z Y hR hC c.aG c.name hn dX).val (ail exV h1)) (jK 5 [9,10] [] (NZ (jK 2 [23] [(1,OL ((e:Int)=(0:Int)) FX)] (NT (zR ⟨(XR h1).symm,rfl⟩)))))
 refine gE [] ((pH Z Y hR hC c.aG c.name hn dX).val (ail exV h1)) (jK 5 [9,10] [] (NZ (jK 2 [23] [(1,w_ (.bool false) rfl)] (NF (KX (SR (jK 5 [26,28,30] [(0,A_ 1 b6 12),(2,a_ 2 b7),(4,a_ 2 b7)] ?_)))))))
 rcases si hC c.other c.text 192 with ⟨e,h2,h2e⟩|⟨to,h2,dY⟩
 ·exact gE [] ((pH Z Y hR hC c.other c.text ht 192).val (ail exV h2)) (jK 5 [10,11] [] (NS (jK 6 [6,7,8] [] (eN ⟨(XS h1 h2).symm,rfl⟩))))
 exact gE [] ((pH Z Y hR hC c.other c.text ht 192).val (ail exV h2)) (jK 5 [10,11] [] (NS (jK 6 [6,7,8] [] (eN ⟨(XT h1 h2).symm,rfl⟩))))
theorem QJ {β:Bs} (Z:RS) (Y:RL) (hR:dF β Z Y) (hC:RC Z) (c:aH) (hn:c.name.size<=1048576) (A:Option Addr) (cc:Nat) (an:Int) :
 aU Tryz.prog β 55 #[.agg ⟨rV Z Y⟩,.agg ⟨aO (gP {c with answer:=an} A cc)⟩,.agg ⟨aO {c with answer:=0}⟩] [] (λv l=>v=.agg ⟨aO (rA Z c)⟩/\l=[]):=by
 refine SE Tryz.func55 Tryz.ntmps55 (λR=>SR (jB 1 [3] (λb8=>.ax b8 (rV Z Y) 45) (λb8=>jB 1 [4] (λb9=>.ax b9 (aO (gP {c with answer:=an} A cc)) 53) (λb9=>jB 1 [5] (λb10=>.ax b10 (aO {c with answer:=0}) 53) (λb10=>jB 1 [6] (λb11=>.ax b11 [vI 0,vI 0,vI 0,.string ⟨#[]⟩,.string ⟨#[]⟩,.slice none (0) (0),vI 0,vI 0,vI 0,vI 0,vI 0,vI 0,vI 0] 53) (λb11=>NS (jC 8 [] [(1,a_ 3 b10),(3,a_ 3 b10),(5,a_ 3 b10),(7,a_ 3 b10)] [(3,[(2,vI 0),(6,vI 0),(7,vI 0),(8,vI 0)])] (NS (jC 3 [] [(2,A_ 3 b10 2)] [(3,[(9,vI 0),(10,vI 0)])] (NS (jK 3 [19,21] [(0,A_ 1 b8 12),(2,a_ 2 b9)] (gE [] ((tU Z Y hR hC c.aG).val (aeZ _)) (jK 5 [7,8] [] (NN (ak.join (λ(x,a)=>(x=(qM Z c))/\(∀z:Nat,x=.ok z->a=(z:Int))) (λ(x,a)=>[(3,vP b8),(5,vP b10),(6,vP b11),(7,vI (a)),(8,vI ((exE x)))]) (λ(x,a)=>[.abs R,.ax b8 (rV Z Y) 45,.ax b9 (aO (gP {c with answer:=an} A cc)) 53,pC b10 {c with other:=0,mode:=0,bg:=0,bh:=0,aT:=0,aJ:=0,answer:=0},.ax b11 [vI 0,vI 0,vI 0,.string ⟨#[]⟩,.string ⟨#[]⟩,.slice none (0) (0),vI 0,vI 0,vI 0,vI 0,vI 0,vI 0,vI 0] 53]) ?_ ?_)))))))))))))))
 ·rintro⟨x,a⟩ ⟨hx2,ha2⟩
  refine ak.seq ?_
  subst hx2
  rcases Sk hC c with ⟨e,hs,hse⟩|⟨k,hs,hk⟩
  ·exact ak.region (sl 8 (vI ((exE (qM Z c)))) (.int .i64 (e)) (by rw [hs];rfl) (jC 3 [] [(2,a_ 3 b10)] [(3,[(11,vI (e))])] (NZ (jK 2 [50] [(1,OL ((e:Int)=(0:Int)) hse)] (NT (SR (jC 2 [] [(0,A_ 3 b10 13),(1,A_ 4 b11 13)] [(4,[(0,vI (c.op)),(1,vI (c.aG)),(3,.string c.name),(4,.string c.text),(5,.slice c.dA (c.data.length) (c.dC)),(11,vI (e))])] (eS (v:=(.agg ⟨aO {c with other:=0,mode:=0,bg:=0,bh:=0,aT:=0,aJ:=0,code:=e,answer:=0}⟩)) [A_ 4 b11 13] ⟨by rw [aaT hs];rfl,rfl⟩))))))))
  exact ak.region (sl 7 (vI (a)) (.int .i64 ↑k) (ail (Value.int .i64) (ha2 k hs)) (sl 8 (vI ((exE (qM Z c)))) (.int .i64 0) (by rw [hs];rfl) (jC 3 [] [(2,a_ 3 b10)] [(3,[(11,vI 0)])] (NZ (jK 2 [50] [(1,w_ (.bool false) rfl)] (NF (KX (SR (jN 8 [11] (λb12=>[(2,a_ 1 b8),(4,x_ k Z.ns.length (aN.hd hR.n (i:=k) zc)),(5,Ez (iy Y.L k (nd Z.ns k)) (λ_ _ h=>aN.rd hR.n zc h)),(7,A_ 5 b12 10)]) (λ_=>[]) (λb12=>.ax b12 (iy Y.L k (nd Z.ns k)) 95) (λb12=>NS (jC 4 [] [(1,a_ 5 b12),(3,a_ 3 b10)] [(3,[(12,vI ((nd Z.ns k).id))])] (NS (jC 4 [] [(1,a_ 5 b12),(3,a_ 3 b10)] [(3,[(2,vI ((nd Z.ns k).kind))])] (NS (jC 4 [] [(1,a_ 5 b12),(3,a_ 3 b10)] [(3,[(6,vI ((nd Z.ns k).mode))])] (NS (jC 4 [] [(1,a_ 5 b12),(3,a_ 3 b10)] [(3,[(7,vI ((nd Z.ns k).bg))])] (NS (jC 4 [] [(1,a_ 5 b12),(3,a_ 3 b10)] [(3,[(8,vI ((nd Z.ns k).bh))])] (NS (jC 4 [] [(1,A_ 5 b12 2),(3,A_ 3 b10 2)] [(3,[(9,vI ((nd Z.ns k).aT)),(10,vI ((nd Z.ns k).aJ))])] (NS (jC 2 [] [(0,A_ 3 b10 13),(1,A_ 4 b11 13)] [(4,[(0,vI (c.op)),(1,vI (c.aG)),(2,vI ((nd Z.ns k).kind)),(3,.string c.name),(4,.string c.text),(5,.slice c.dA (c.data.length) (c.dC)),(6,vI ((nd Z.ns k).mode)),(7,vI ((nd Z.ns k).bg)),(8,vI ((nd Z.ns k).bh)),(9,vI ((nd Z.ns k).aT)),(10,vI ((nd Z.ns k).aJ)),(12,vI ((nd Z.ns k).id))])] (eS (v:=(.agg ⟨aO {c with other:=(nd Z.ns k).kind,mode:=(nd Z.ns k).mode,bg:=(nd Z.ns k).bg,bh:=(nd Z.ns k).bh,aT:=(nd Z.ns k).aT,aJ:=(nd Z.ns k).aJ,code:=0,answer:=(nd Z.ns k).id}⟩)) [A_ 4 b11 13] ⟨by rw [aaU hs];rfl,rfl⟩))))))))))))))))))))))))
 refine SR (jK 3 [27] [(1,a_ 2 b9)] (NN (cP ((c.op:Int)=(12:Int)) (λyt=>SR (jK 5 [29,31,33] [(0,A_ 1 b8 12),(2,a_ 2 b9),(4,a_ 2 b9)] ?_)) (λyt=>ak.skip (mJ ((iG Z c.aG),(exA (iG Z c.aG))) [0,1,2,3,4] (⟨KF zc,λk e=>by rw [e];rfl⟩))))))
 rcases si hC c.aG c.name 64 with ⟨e,h1,FX⟩|⟨f,h1,hf⟩
 ·exact gE [] ((pH Z Y hR hC c.aG c.name hn 64).val (ail exV h1)) (jK 5 [9,10] [] (NS (jK 2 [8] [] (NS (jK 2 [39] [(1,wF ((e:Int)=(0:Int)) FX)] (NF (ak.skip (mJ ((.error e:Except Int Nat),(exA (iG Z c.aG))) [0,1,2,3,4] (⟨Ns zc h1,λk e=>by cases e⟩)))))))))
 refine gE [] ((pH Z Y hR hC c.aG c.name hn 64).val (ail exV h1)) (jK 5 [9,10] [] (NS (jK 2 [8] [] (NS (jK 2 [39] [(1,w_ (.bool true) rfl)] (NT (SR (jK 4 [40,41,43] [(0,A_ 1 b8 12),(3,a_ 2 b9)] ?_))))))))
 rcases kO Z.ns f c.name with hl|⟨k,hl,hk⟩
 ·exact gE [] ((jL Z Y hR hC f hf c.name).val (ail (Value.int .i64) hl)) (jK 1 [7] [] (NS (jK 2 [46] [] (NT (ak.region (jK 1 [8] [] (NL (mJ ((.error 170:Except Int Nat),(-1)) [0,1,2,3,4] (⟨KG zc h1 hl,λk e=>by cases e⟩)))))))))
 exact gE [] ((jL Z Y hR hC f hf c.name).val (ail (Value.int .i64) hl)) (jK 1 [7] [] (NS (jK 2 [46] [(1,wF (((k:Int):Int)<(0:Int)))] (NF (ak.skip (mJ ((.ok k:Except Int Nat),(k:Int)) [0,1,2,3,4] (⟨KH zc h1 hl,λk e=>by cases e;rfl⟩)))))))
end
section
open Go.RowKit Go.Maps bF aD
section m
variable {ns:List aL} {es l:List fA} {name:ByteArray} {id z:Int} {i j d k:Nat} {R:RS} {x:fA}
theorem Nt:∀{l:List fA},(∀e∈l,jF e.name name)->mW name id l=l++[⟨name,id⟩]
 |[],_=>rfl
 |e::r,h=>by
   unfold mW
   rw [aij (λq=>q (h e (aiw ..))),Nt (λy hy=>h y (aiv _ hy))];rfl
theorem KI:∀{l:List fA},(∀e∈l,jF e.name name)->¬jF x.name name->mW name id (l++[x])=l++[⟨name,id⟩,x]
 |[],_,hx=>by grind [mW]
 |e::r,h,hx=>by
   show mW name id (e::(r++[x]))=_
   unfold mW
   rw [aij (λq=>q (h e (aiw ..))),KI (λy hy=>h y (aiv _ hy)) hx];rfl
theorem Nu:∀{l:List fA},(∃e∈l,¬jF e.name name)->mW name id (l++[x])=mW name id l++[x]
 |[],h=>by obtain⟨_,h,_⟩:=h;cases h
 |e::r,h=>by
   show mW name id (e::(r++[x]))=mW name id (e::r)++[x]
   unfold mW
   by_cases he:¬jF e.name name
   ·rw [aik he,aik he];rfl
   rw [aij he,aij he]
   obtain⟨y,hy,hny⟩:=h
   rcases aiA.1 hy with rfl|hy
   ·exact ain hny he
   rw [Nu ⟨y,hy,hny⟩];rfl
theorem xJ (hj:j<es.length):es.take (j+1)=es.take j++[en es j]:=by
 rw [aiQ,aiy hj]
 grind [en]
def gG (es:List fA) (name:ByteArray) (id:Int) (j:Nat) (put:Bool) (out:List fA):Prop:=
 (put=false/\out=es.take j/\∀e∈es.take j,jF e.name name)\/(put=true/\out=mW name id (es.take j)/\∃e∈es.take j,¬jF e.name name)
theorem gG.start:gG es name id 0 false []:=.inl ⟨rfl,rfl,λe he=>by cases he⟩
theorem gG.put (h:gG es name id j false l) (hj:j<es.length) (hx:¬jF (en es j).name name):gG es name id (j+1) true (l++[⟨name,id⟩]++[en es j]):=by
 grind [en,xJ,KI,gG,jF]
theorem gG.more (h:gG es name id j true l) (hj:j<es.length):gG es name id (j+1) true (l++[en es j]):=by
 grind [xJ,Nu,gG,en]
theorem gG.miss (h:gG es name id j false l) (hj:j<es.length) (hx:jF (en es j).name name):gG es name id (j+1) false (l++[en es j]):=by
 grind [xJ,gG,jF,en]
theorem gG.last (h:gG es name id es.length false l):l++[⟨name,id⟩]=mW name id es:=by
 grind [Nt,gG,mW]
theorem gG.end_ (h:gG es name id es.length true l):l=mW name id es:=by
 grind [gG,mW]
theorem gG.len {b:Bool} (h:gG es name id j b l) (hj:j<=es.length):l.length<=j+1:=by
 have hl:∀q:List fA,(mW name id q).length=q.length+1:=λq=>by
  induction q with
  |nil=>rfl
  |cons e r ih=>
    grind [mW]
 grind [gG]
theorem Ob (hj:j<es.length) (h:(en es j).name=name):sH name (es.take j)=sH name (es.take (j+1)):=by
 grind [sH,xJ]
theorem Mc (hj:j<es.length) (h:¬(en es j).name=name):sH name (es.take j)++[en es j]=sH name (es.take (j+1)):=by
 grind [sH,xJ]
theorem Md:∀(l:List fA) (z:Int),rX name (l++[x]) z=if x.name=name then x.id else rX name l z
 |[],z=>rfl
 |e::r,z=>by
   show rX name (r++[x]) _=_
   rw [Md r]
   split<;>rfl
theorem adC (hj:j<es.length) (h:(en es j).name=name):(en es j).id=rX name (es.take (j+1)) z:=by rw [xJ hj,Md,aik h]
theorem aaX (hj:j<es.length) (h:¬(en es j).name=name):rX name (es.take j) z=rX name (es.take (j+1)) z:=by rw [xJ hj,Md,aij h]
theorem aaY:(sH name (es.take j)).length<=j:=air (ai7 ..) (by rw [aiH];omega)
theorem vw (hj:j<ns.length):ns.take (j+1)=ns.take j++[nd ns j]:=by
 rw [aiQ,aiy hj]
 grind [nd]
def um (R:RS) (i:Nat):List aL:=(R.ns.take i).filter (sI R)
def qg (R:RS) (i:Nat):List Int:=((um R i).filter (λn=>decide (n.id∈R.aE))).map aL.id
theorem Cx (hi:i<R.ns.length) (h:sI R (nd R.ns i)=true):um R (i+1)=um R i++[nd R.ns i]:=by
 grind [um,vw]
theorem QK (hi:i<R.ns.length) (h:¬sI R (nd R.ns i)=true):um R (i+1)=um R i:=by
 grind [um,vw]
theorem Nv (hi:i<R.ns.length) (h:sI R (nd R.ns i)=true) (hg:(nd R.ns i).id∈R.aE):qg R (i+1)=qg R i++[(nd R.ns i).id]:=by
 unfold qg;rw [Cx hi h,List.filter_append,ai1];simp [hg]
theorem QL (hi:i<R.ns.length) (h:sI R (nd R.ns i)=true) (hg:¬(nd R.ns i).id∈R.aE):qg R (i+1)=qg R i:=by
 grind [qg,Cx]
theorem Vu (hi:i<R.ns.length) (h:¬sI R (nd R.ns i)=true):qg R (i+1)=qg R i:=by
 unfold qg;rw [QK hi h]
theorem I8 {n:aL}:sI R n=true↔(n.id∈R.aE->n.id∈ja R.us):=by unfold sI;exact decide_eq_true_iff
theorem Nw:fV R={R with ns:=um R R.ns.length,aE:=qg R R.ns.length}:=by
 unfold fV qg um
 rw [aiK]
theorem Nx:(um R i).length<=i:=air (ai7 ..) (by rw [aiH];omega)
theorem XY:(qg R i).length<=i:=by
 grind [qg,Nx]
end m
section fl
theorem Ny {α:Type} {f g:Nat->α->List Value} {s:Nat} (hf:∀i a,(f i a).length=s) (hg:∀i a,(g i a).length=s):∀(xs:List α) (b k j:Nat) (a:α) (u:Value),k<xs.length->j<s →
 (∀i,i≠k->∀x,xs[i]?=some x->g (b+i) x=f (b+i) x)->(∀x,xs[k]?=some x->g (b+k) a=(f (b+k) x).set j u)->(fk f b xs).set (k*s+j) u=fk g b (xs.set k a)
 |[],_,k,_,_,_,h,_,_,_=>ain h (aiq k)
 |x::r,b,0,j,a,u,_,hj,h1,h2=>by
   rw [fk,List.set_cons_zero,fk,Nat.zero_mul,aiE,List.set_append_left _ _ (by rw [hf];exact hj)]
   have e:=h2 x rfl
   rw [Nat.add_zero] at e
   rw [e]
   congr 1
   exact CO _ _ (λi a hi=>by
    have:=h1 (i+1) zc a (by simpa using hi)
    rw [show b+1+i=b+(i+1) by omega]
    exact this.symm)
 |x::r,b,k+1,j,a,u,h,hj,h1,h2=>by
   rw [fk,List.set_cons_succ,fk,List.set_append_right _ _ (by rw [hf,Nat.add_mul];omega),hf]
   have e0:=h1 0 zc x rfl
   rw [Nat.add_zero] at e0
   rw [e0,show (k+1)*s+j-s=k*s+j by rw [Nat.add_mul];omega]
   congr 1
   refine Ny hf hg r (b+1) k j a u (by simpa using h) hj (λi hi y hy=>?_) (λy hy=>?_)
   ·rw [show b+1+i=b+(i+1) by omega];exact h1 (i+1) zc y (by simpa using hy)
   rw [show b+1+k=b+(k+1) by omega];exact h2 y (by simpa using hy)
end fl
section st
variable {P:Program} {β:Bs} {N:fL} {ops:Array Oper} {k:Nat} {fr:Fr} {au:List HP} {Q:Post} {d:Option Tmp}
theorem ar.adD (i j:Nat) {T e:TypeId} {size n cap g:Nat} {xs:List Value} {u u2:Value} {a y:Operand} (bW:∀ai,iY N ai ops fr k=some (.store T a y,d)) (hp:au[i]?=some (.abs (aF e size (some ⟨g,0,none⟩) n cap xs)))
 (ha:∀ai,eW N fr ai a=.pointer (some ⟨g,j,none⟩)) (hy:∀ai,eW N fr ai y=.agg #[u,u2]) (hT:(P.info? T).map (·.size)=some 2) (hu:u.oneCell'=true) (TA:u2.oneCell'=true) (hj:j+1<xs.length)
 (K':ar P β N ops (k+1) (eT fr d undef) (au.set i (.abs (aF e size (some ⟨g,0,none⟩) n cap ((xs.set j u).set (j+1) u2)))) Q):ar P β N ops k fr au Q:=by
 refine ar.oh bW (λo ai w ho hS=>?_) K'
 have vA:j<xs.length:=zc
 have hi:=dO hp
 have zn:=hS.set hp (CN (u:=u) vA)
 have hp2:(au.set i (.abs (aF e size (some ⟨g,0,none⟩) n cap (xs.set j u))))[i]?=some (.abs (aF e size (some ⟨g,0,none⟩) n cap (xs.set j u))):=List.getElem?_set_self hi
 have hS3:=zn.set hp2 (CN (u:=u2) (by rw [aix];exact hj))
 rw [List.set_set] at hS3
 refine⟨_,.inr ⟨rfl,?_⟩,hS3⟩
 have key:∀(w:World) (l:List HP) (ys:List Value) (q:Nat),aR β l w->l[i]?=some (.abs (aF e size (some ⟨g,0,none⟩) n cap ys))->q<ys.length->(∃x,w.cell? ⟨g,q,none⟩=some x)/\w.frozen? ⟨g,q,none⟩=false:=λw l ys q hS hp hq=>by
  obtain⟨F,hF⟩:=hS.get hp
  obtain⟨x,hx⟩:=nj hq
  refine⟨⟨x,aF.cell hx F w hF⟩,?_⟩
  obtain⟨⟨_,h2⟩,_⟩:=hF
  rcases h2 with ⟨e,_⟩|⟨g',cp,cur,e,_,hb,_⟩
  ·cases e
  cases e;simp [World.frozen?,hb]
 obtain⟨⟨x1,hc1⟩,hf1⟩:=key w au xs j hS hp vA
 obtain⟨⟨x2,hc2⟩,hf2⟩:=key _ _ _ (j+1) zn hp2 (by rw [aix];exact hj)
 obtain⟨inf,hi,eG⟩:∃inf,P.info? T=some inf/\inf.size=2:=by
  cases h:P.info? T with
  |none=>rw [h] at hT;cases hT
  |some inf=>rw [h] at hT;exact⟨inf,rfl,by simpa using hT⟩
 have h3:=s5 hi w
 rw [eG] at h3
 obtain⟨dst,op,type,pos,after,guard⟩:=o
 cases ho
 have st:∀(u x:Value) (a:Addr) (w:World),u.oneCell'=true->w.cell? a=some x->w.frozen? a=false->Sem.run P (Sem.store Mode.plain a u (Sem.pure ())) w=.ok () (w.setCell a u):=λu x a w hu hc hf=>by
  cases u<;>first
   |(simp [Value.oneCell'] at hu;done)
   |simp [Sem.run,hc,hf]
 simp only [execOp,ha ai,hy ai]
 simp [go_sem,Instr.storeAt,Instr.sureAddr,storeVar,h3,Value.cells,storeCells,store,Addr.add,st u x1 _ _ hu hc1 hf1,st u2 x2 _ _ TA hc2 hf2]
theorem ar.Aj (i j:Nat) {T e:TypeId} {size n cap:Nat} {A:Option Addr} {xs:List Value} {u:Value} {a y:Operand} (bW:∀ai,iY N ai ops fr k=some (.store T a y,d)) (hp:au[i]?=some (.abs (aF e size A n cap xs)))
 (ha:∀ai,eW N fr ai a=.pointer (some ⟨bG A,bE A+j,none⟩)) (hy:∀ai,eW N fr ai y=u) (hT:(P.info? T).map (·.size)=some 1) (hu:u.oneCell'=true) (hn:0<n) (hj:j<xs.length)
 (K':ar P β N ops (k+1) (eT fr d undef) (au.set i (.abs (aF e size A n cap (xs.set j u)))) Q):ar P β N ops k fr au Q:=by
 refine ar.tell (p:=∃g,A=some ⟨g,0,none⟩) (λ_ hS=>let ⟨_,h⟩:=hS.get hp;aF.head h hn) ?_
 rintro⟨g,rfl⟩
 exact ar.ER i j bW hp (λai=>(ha ai).trans (ail (λo=>Value.pointer (some ⟨g,o,none⟩)) (aiE j))) hy hT hu hj K'
theorem ar.Em (i j:Nat) {T e:TypeId} {size n cap:Nat} {A:Option Addr} {xs:List Value} {u u2:Value} {a y:Operand} (bW:∀ai,iY N ai ops fr k=some (.store T a y,d)) (hp:au[i]?=some (.abs (aF e size A n cap xs)))
 (ha:∀ai,eW N fr ai a=.pointer (some ⟨bG A,bE A+j,none⟩)) (hy:∀ai,eW N fr ai y=.agg #[u,u2]) (hT:(P.info? T).map (·.size)=some 2) (hu:u.oneCell'=true) (TA:u2.oneCell'=true) (hn:0<n) (hj:j+1<xs.length)
 (K':ar P β N ops (k+1) (eT fr d undef) (au.set i (.abs (aF e size A n cap ((xs.set j u).set (j+1) u2)))) Q):ar P β N ops k fr au Q:=by
 refine ar.tell (p:=∃g,A=some ⟨g,0,none⟩) (λ_ hS=>let ⟨_,h⟩:=hS.get hp;aF.head h hn) ?_
 rintro⟨g,rfl⟩
 exact ar.adD i j bW hp (λai=>(ha ai).trans (ail (λo=>Value.pointer (some ⟨g,o,none⟩)) (aiE j))) hy hT hu TA hj K'
theorem ar.sK (i:Nat) {e:TypeId} {size n cap:Nat} {A:Option Addr} {xs:List Value} (hp:au[i]?=some (.abs (aF e size A n cap xs))) (hn:0<n) (K:A=some ⟨bG A,bE A,none⟩->ar P β N ops k fr au Q):ar P β N ops k fr au Q:=
 ar.tell (λ_ hS=>let ⟨_,h⟩:=hS.get hp;(aF.Jy h hn).1) K
end st
theorem ae0 (x y:ByteArray):Value.bool (!(Op.bytesLess x.toList y.toList || (x.toList == y.toList)))=Value.bool (!(decide (jF x y))):=ail (λv=>match v with|Value.bool b=>Value.bool (!b)|v=>v) (Pa x y)
theorem gG.keep {es l:List fA} {name:ByteArray} {id:Int} {j:Nat} {p:Bool} (h:gG es name id j p l) (hj:j<es.length) (hx:p=false->jF (en es j).name name):gG es name id (j+1) p (l++[en es j]):=by
 cases p with
 |true=>exact h.more hj
 |false=>exact h.miss hj (hx rfl)
theorem En {q:List fA} {e:fA} {B:Option Addr} {c:Nat}:HP.abs (aF 149 2 B (q.length+1) c (nB q++[.string e.name,.int .i64 e.id]))=HP.abs (aF 149 2 B (q++[e]).length c (nB (q++[e]))):=by
 rw [Kc,ait];rfl
theorem oM {α:Type} {q:List α} {e:α}:q.length+1=(q++[e]).length:=by rw [ait];rfl
section o
variable {P:Program} {β β':Bs} {R:RS} {Y:RL} {f:FuncId} {args:Array Value} {x u:Value} {d k i j:Nat} {ns:List aL} {L L':eP} {n:aL} {es:List fA} {B:Option Addr} {c:Nat}
theorem sM (hk:k<ns.length) (hj:j<10) (hL:∀i,i≠k->∀x,iy L' i x=iy L i x) (h:iy L' k n=(iy L k (nd ns k)).set j u):(bD L ns).set (k*10+j) u=bD L' (ns.set k n):=by
 refine Ny (s:=10) (λ_ _=>rfl) (λ_ _=>rfl) ns 0 k j _ _ hk hj (λi hi x _=>?_) (λx hx=>?_)
 all_goals grind [nd]
theorem Vv (hk:k<ns.length) {v:Value} (hv:(iy L k (nd ns k))[j]?=some v):(bD L ns)[k*10+j]?=some v:=by
 have hj:j<10:=dO hv
 have h1:=vG (f:=iy L) (s:=10) (λ_ _=>rfl) ns 0 k j _ (getD_some (x:=default) hk) hj
 rw [aiE] at h1
 exact h1.trans hv
theorem qN (hk:k<ns.length):nd (ns.set k n) i=if i=k then n else nd ns i:=by
 grind [nd]
def eP.bS (L:eP) (k:Nat) (B:Option Addr) (c:Nat):eP:=⟨L.dA,λi=>if i=k then B else L.eA i,L.dC,λi=>if i=k then c else L.eC i⟩
def eP.dat (L:eP) (k:Nat) (B:Option Addr) (c:Nat):eP:=⟨λi=>if i=k then B else L.dA i,L.eA,λi=>if i=k then c else L.dC i,L.eC⟩
structure mA (β:Bs) (R:RS) (L:eP) (H V:Option Addr):Prop where
 data:∀i,i<R.ns.length->bp β (L.dA i) (nd R.ns i).data
 ah:∀i,i<R.ns.length->cT β (L.eA i) (nd R.ns i).ah
 h:cA β H (bH (aY R.us))
 v:cA β V (bH (ja R.us))
theorem mA.le {H V:Option Addr} (h:mA β R L H V) (dL:β.le β'):mA β' R L H V:=⟨λi hi=>(h.data i hi).le dL,λi hi=>(h.ah i hi).le dL,h.h.le dL,h.v.le dL⟩
theorem mA.at {A G H V:Option Addr} {c cg ch cv:Nat} (h:mA β R L H V) (g:qq β [.abs (aF 95 10 A R.ns.length c (bD L R.ns)),.abs (aF 3 1 G R.aE.length cg (bH R.aE))] β'):dF β' R ⟨A,c,L,G,cg,H,ch,V,cv⟩:=by
 obtain⟨F,h1,h2⟩:=g.get 0 rfl
 obtain⟨G,g1,g2⟩:=g.get 1 rfl
 have h':=h.le g.le
 exact⟨⟨cA.iM g1 g2 rfl,h'.h,h'.v⟩,cA.iM h1 h2 rfl,h'.data,h'.ah⟩
theorem eF {A G H V:Option Addr} {c cg ch cv:Nat} (h:mA β R L H V) (hs:∀β',β.le β'->dF β' R ⟨A,c,L,G,cg,H,ch,V,cv⟩->aU P β' f args [] (λv l=>v=x/\l=[])) :
 aU P β f args [.abs (aF 95 10 A R.ns.length c (bD L R.ns)),.abs (aF 3 1 G R.aE.length cg (bH R.aE))] (λv l=>v=x/\l=[.abs (aF 95 10 A R.ns.length c (bD L R.ns)),.abs (aF 3 1 G R.aE.length cg (bH R.aE))]):=
 (aU.wY (pre:=[]) (R:=[.abs (aF 95 10 A R.ns.length c (bD L R.ns)),.abs (aF 3 1 G R.aE.length cg (bH R.aE))]) (λβ' g=>hs β' g.le (h.at g))).mono (by rintro v l ⟨l0,⟨rfl,rfl⟩,rfl⟩;exact⟨rfl,rfl⟩)
theorem nA (ns:List aL) (L:eP) (A:Option Addr) (cap i j:Nat) (hi:i<ns.length) {v:Value} (hv:(iy L i (nd ns i))[j]?=some v):∀F w,(aF 95 10 A ns.length cap (bD L ns)).h F w->w.cell? ⟨bG A,bE A+i*10+j,none⟩=some v:=aF.cellAt hi (Vv hi hv)
theorem Sl (hk:k<ns.length):(bD L ns).set (k*10+9) (.slice B es.length c)=bD (L.bS k B c) (ns.set k {nd ns k with ah:=es}):=
 sM hk Pd (λi hi x=>by unfold iy eP.bS;simp [hi]) (by unfold iy eP.bS;simp)
theorem Vw (hk:k<ns.length) {bs:List UInt8}:(bD L ns).set (k*10+7) (.slice B bs.length c)=bD (L.dat k B c) (ns.set k {nd ns k with data:=bs}):=
 sM hk Pd (λi hi x=>by unfold iy eP.dat;simp [hi]) (by unfold iy eP.dat;simp)
theorem CW (hk:k<ns.length) {s z:Int}:((bD L ns).set (k*10+5) (.int .i64 s)).set (k*10+5+1) (.int .i64 z)=bD L (ns.set k {nd ns k with aT:=s,aJ:=z}):=by
 rw [sM (n:={nd ns k with aT:=s}) hk Pd (λ_ _ _=>rfl) rfl]
 have:=sM (ns:=ns.set k {nd ns k with aT:=s}) (L:=L) (L':=L) (k:=k) (j:=6) (n:={nd ns k with aT:=s,aJ:=z}) (u:=.int .i64 z) (by rw [aix];exact hk) Pd (λ_ _ _=>rfl) (by rw [qN hk,aik rfl];rfl)
 rw [List.set_set] at this
 exact this
theorem Sm (hk:k<ns.length) {s z:Int}:(((bD L ns).set (k*10+9) (.slice B es.length c)).set (k*10+5) (.int .i64 s)).set (k*10+5+1) (.int .i64 z)=bD (L.bS k B c) (nT s z ns k es):=by
 rw [Sl hk,CW (by rw [aix];exact hk),qN hk,aik rfl,List.set_set];rfl
theorem BB {s z:Int}:(nT s z ns k es).length=ns.length:=aix ..
theorem TB {s z:Int} (hk:k<ns.length):nd (nT s z ns k es) i=if i=k then {nd ns k with ah:=es,aT:=s,aJ:=z} else nd ns i:=qN hk
theorem TD {A:Option Addr} {cN:Nat} {ns':List aL} {s z:Int} (hk:k<ns.length) (h:ns'=nT s z ns k es) :
 HP.abs (aF 95 10 A ns.length cN ((((bD L ns).set (k*10+9) (.slice B es.length c)).set (k*10+5) (.int .i64 s)).set (k*10+5+1) (.int .i64 z)))=HP.abs (aF 95 10 A ns'.length cN (bD (L.bS k B c) ns')):=by
 rw [Sm hk,h,BB]
theorem mA.nT {H V:Option Addr} (h:mA β R L H V) (hk:k<R.ns.length) (he:cT β B es) {R':RS} (hn:R'.ns=nT R.cS R.cZ R.ns k es) (hu:R'.us=R.us):mA β R' (L.bS k B c) H V:=by
 refine⟨λi hi=>?_,λi hi=>?_,by rw [hu];exact h.h,by rw [hu];exact h.v⟩
 ·rw [hn,BB] at hi
  rw [hn,TB hk]
  by_cases e:i=k
  ·rw [aik e];subst e;exact h.data i hi
  rw [aij e];exact h.data i hi
 rw [hn,BB] at hi
 rw [hn,TB hk]
 show cT β (if i=k then B else L.eA i) _
 by_cases e:i=k
 ·rw [aik e,aik e];exact he
 rw [aij e,aij e];exact h.ah i hi
theorem Dv {name:ByteArray} {id:Int}:(dm R d name id).ns.length=R.ns.length:=aix ..
theorem vT {name:ByteArray} {b:Bool}:(cW R d name b).ns.length=R.ns.length:=aix ..
theorem ahh {L:eP} {F:Fp} {w:World} {m:Nat} (h:(HP.abs (kR (rO ns L) m)).h F w) (h1:∀k,F k->β'.O k) (h2:β'.w0=w):∀i,i<m->cT β' (L.eA i) (nd ns i).ah:=
 kR.base h h1 h2 (Φ:=λi b=>cT b (L.eA i) (nd ns i).ah) (λi _ F hF hO=>cA.iM (show (HP.abs (aF 149 2 (L.eA i) (nd ns i).ah.length (L.eC i) (nB (nd ns i).ah))).h F _ from hF) hO h2)
theorem ae1 {L:eP} {F:Fp} {w:World} {m:Nat} (h:(HP.abs (kR (lI ns L) m)).h F w) (h1:∀k,F k->β'.O k) (h2:β'.w0=w):∀i,i<m->bp β' (L.dA i) (nd ns i).data:=
 kR.base h h1 h2 (Φ:=λi b=>bp b (L.dA i) (nd ns i).data) (λi _ F hF hO=>cA.iM (show (HP.abs (aF 5 1 (L.dA i) (nd ns i).data.length (L.dC i) (dQ (nd ns i).data))).h F _ from hF) hO h2)
theorem QM:∀m,i<m->(nd ns i).data.length<=fM ns m
 |0,h=>ain h (aiq _)
 |m+1,h=>by
   show _<=fM ns m+(nd ns m).data.length
   by_cases e:i=m
   ·subst e;omega
   have:=QM m zc;omega
theorem RB.hd (h:RB R):∀i,i<R.ns.length->(nd R.ns i).data.length<=140737488355328/\(nd R.ns i).ah.length<=1048576:=λi hi=>⟨air (QM _ hi) h.dat,air (h.row hi) Pd⟩
structure RD (q:Nat) (R:RS):Prop where
 ns:R.ns.length<=4097
 aE:R.aE.length<=4096+q
 us:R.us.length<=1024
 ah:dI R.ns R.ns.length<=8192+q
 dat:fM R.ns R.ns.length<=140737488355328
theorem RD.rb {q:Nat} (h:RD q R) (hq:q<=8):RB R:=⟨h.ns,by have:=h.aE;omega,h.us,by have:=h.ah;omega,h.dat⟩
theorem RD.up {q m:Nat} (h:RD q R) (hm:q<=m):RD m R:=⟨h.ns,by have:=h.aE;omega,h.us,by have:=h.ah;omega,h.dat⟩
theorem KJ (hk:k<ns.length):∀m:Nat,dI (ns.set k n) m+(if k<m then (nd ns k).ah.length else 0)=dI ns m+(if k<m then n.ah.length else 0)
 |0=>rfl
 |m+1=>by
   have h:=KJ hk m
   show dI (ns.set k n) m+(nd (ns.set k n) m).ah.length+_=dI ns m+(nd ns m).ah.length+_
   rw [qN hk]
   by_cases e:m=k
   ·subst e
    rw [aij (aje _),aij (aje _)] at h
    rw [aik rfl,aik (aiM _),aik (aiM _)]
    omega
   rw [aij e]
   by_cases e2:k<m
   ·rw [aik e2,aik e2] at h;rw [aik zc,aik zc];omega
   rw [aij e2,aij e2] at h;rw [aij zc,aij zc];omega
theorem KL (hk:k<ns.length):∀m:Nat,fM (ns.set k n) m+(if k<m then (nd ns k).data.length else 0)=fM ns m+(if k<m then n.data.length else 0)
 |0=>rfl
 |m+1=>by
   have h:=KL hk m
   show fM (ns.set k n) m+(nd (ns.set k n) m).data.length+_=fM ns m+(nd ns m).data.length+_
   rw [qN hk]
   by_cases e:m=k
   ·subst e
    rw [aij (aje _),aij (aje _)] at h
    rw [aik rfl,aik (aiM _),aik (aiM _)]
    omega
   rw [aij e]
   by_cases e2:k<m
   ·rw [aik e2,aik e2] at h;rw [aik zc,aik zc];omega
   rw [aij e2,aij e2] at h;rw [aij zc,aij zc];omega
theorem XZ {s z:Int} (hk:k<ns.length) (he:es.length<=(nd ns k).ah.length+1):dI (nT s z ns k es) (nT s z ns k es).length<=dI ns ns.length+1/\fM (nT s z ns k es) (nT s z ns k es).length=fM ns ns.length:=by
 grind [BB,KJ,nd,KL,nT]
theorem RD.nT {q:Nat} (h:RD q R) (hk:k<R.ns.length) (he:es.length<=(nd R.ns k).ah.length+1) {R':RS} (hn:R'.ns=nT R.cS R.cZ R.ns k es) (hu:R'.us=R.us) (hg:R'.aE.length<=R.aE.length+1):RD (q+1) R':=by
 have h1:=XZ (s:=R.cS) (z:=R.cZ) hk he
 have h2:R'.ns.length=R.ns.length:=by rw [hn,BB]
 refine⟨by rw [h2];exact h.ns,by have:=h.aE;omega,by rw [hu];exact h.us,?_,?_⟩
 ·rw [hn];have:=h.ah;omega
 rw [hn];have:=h.dat;omega
def Eo (R:RS) (d:Nat) (name:ByteArray):RS:={R with ns:=nT R.cS R.cZ R.ns d (sH name (nd R.ns d).ah)}
theorem adE {name:ByteArray}:(Eo R d name).ns.length=R.ns.length:=aix ..
theorem TF {name:ByteArray} {b:Bool} (hf:b=true) (h:uN (Eo R d name).ns (rX name (nd R.ns d).ah 0)=0):(cW R d name b).aE=R.aE++[rX name (nd R.ns d).ah 0]:=aik ⟨hf,h⟩
theorem KM {name:ByteArray} {b:Bool} (h:b=true->¬uN (Eo R d name).ns (rX name (nd R.ns d).ah 0)=0):(cW R d name b).aE=R.aE:=aij (λq=>h q.1 q.2)
theorem X3 {name:ByteArray}:(sH name es).length<=es.length:=ai7 ..
theorem RD.del {q:Nat} {name:ByteArray} (h:RD q R) (hk:d<R.ns.length):RD (q+1) (Eo R d name):=h.nT hk (Nat.le_succ_of_le X3) rfl rfl (Nat.le_succ _)
theorem RD.TG {q:Nat} {name:ByteArray} {b:Bool} (h:RD q R) (hk:d<R.ns.length):RD (q+1) (cW R d name b):=by
 refine h.nT hk (Nat.le_succ_of_le X3) rfl rfl ?_
 grind [cW]
theorem TH {name:ByteArray} {id:Int}:∀l:List fA,(mW name id l).length=l.length+1
 |[]=>rfl
 |e::r=>by
   unfold mW
   split
   ·rfl
   rw [aiV,TH r];rfl
theorem RD.bS {q:Nat} {name:ByteArray} {id:Int} (h:RD q R) (hk:d<R.ns.length):RD (q+1) (dm R d name id):=h.nT hk (Nat.le_of_eq (TH _)) rfl rfl (Nat.le_succ _)
theorem FY {q:List Int} {z:Int} {B:Option Addr} {c:Nat}:HP.abs (aF 3 1 B (q.length+1) c (bH q++[.int .i64 z]))=HP.abs (aF 3 1 B (q++[z]).length c (bH (q++[z]))):=by
 rw [He,ait];rfl
theorem QN (l:List Int):∀u∈bH l,u.oneCell'=true:=by
 intro u hu
 obtain⟨b,_,rfl⟩:=aiC.1 hu
 rfl
theorem mA.same {H V:Option Addr} (h:mA β R L H V) {R':RS} (hn:R'.ns=R.ns) (hu:R'.us=R.us):mA β R' L H V:=⟨by rw [hn];exact h.data,by rw [hn];exact h.ah,by rw [hu];exact h.h,by rw [hu];exact h.v⟩
theorem mA.snoc {H V:Option Addr} (h:mA β R L H V) {R':RS} (hn:R'.ns=R.ns++[n]) (hd:n.data=[]) (he:n.ah=[]) (hu:R'.us=R.us):mA β R' (L.put R.ns.length none 0 none 0) H V:=by
 have h0:∀{xs:List Value},xs=[]->cA β none xs:=λe j v hj=>by rw [e] at hj;cases hj
 have hl:R'.ns.length=R.ns.length+1:=by rw [hn,ait];rfl
 refine⟨λi hi=>?_,λi hi=>?_,by rw [hu];exact h.h,by rw [hu];exact h.v⟩
 ·rw [hn]
  show bp β (if i=R.ns.length then none else L.dA i) _
  by_cases e:i=R.ns.length
  ·subst e;rw [aik rfl,xu,hd];exact h0 rfl
  rw [aij e,zZ zc];exact h.data i zc
 rw [hn]
 show cT β (if i=R.ns.length then none else L.eA i) _
 by_cases e:i=R.ns.length
 ·subst e;rw [aik rfl,xu,he];exact h0 rfl
 rw [aij e,zZ zc];exact h.ah i zc
theorem RD.last {q:Nat} (h:RD q R) (z:Int):RD q {R with last:=z}:=⟨h.ns,h.aE,h.us,h.ah,h.dat⟩
theorem QO (h:(R.us.length:Int)<R.cH):lE R k=({R with us:=ins (aP R.us) (nd R.ns k).id R.us,aI:=max R.aI ((R.us.length:Int)+1)},aP R.us,0):=aik h
theorem TJ (h:¬(R.us.length:Int)<R.cH):lE R k=(R,0,130):=aij h
structure RU (R:RS):Prop where
 us:R.us.length<=1024
 usr:aD.dH (aY R.us)
 yE:∀z∈aY R.us,1<=z
theorem RC.ru (h:RC R):RU R:=⟨h.us,h.usr,h.yE⟩
theorem RU.same {R':RS} (h:RU R) (hu:R'.us=R.us):RU R':=⟨by rw [hu];exact h.us,by rw [hu];exact h.usr,by rw [hu];exact h.yE⟩
theorem ahi {z:Int}:z∈ja R.us↔∃q,q<R.us.length/\(ja R.us).getD q 0=z:=by
 have hl:=mV R.us
 refine⟨λh=>?_,λ⟨q,h1,h2⟩=>h2 ▸ Ct zc⟩
 obtain⟨q,hq,e⟩:=ai5 h
 exact⟨q,zc,Pe⟩
theorem QS {p:List aL} (h:p=um R R.ns.length):(fV R).ns=p:=by rw [Nw,h]
theorem KN {l:List Int} (h:l=qg R R.ns.length):(fV R).aE=l:=by rw [Nw,h]
theorem aaZ {An Ag:Option Addr} {cn cg:Nat} {p:List aL} {l:List Int} {K:eP} (hR:dF β R Y) (hN:cA β An (bD K p)) (hG:cA β Ag (bH l)) (hp:p=um R R.ns.length) (hl:l=qg R R.ns.length) (hK:oP β p p.length K):dF β (fV R) ⟨An,cn,K,Ag,cg,Y.H,Y.ch,Y.V,Y.cv⟩:=by
 have e1:=QS hp
 have e2:=KN hl
 exact⟨⟨by rw [e2];exact hG,hR.h,hR.v⟩,⟨by rw [e1];exact hN,by rw [e1];exact hK.data,by rw [e1];exact hK.ah⟩⟩
theorem oP.snoc {p:List aL} {K:eP} {dA eA:Option Addr} {dC eC:Nat} (h:oP β p p.length K) (hd:bp β dA n.data) (he:cT β eA n.ah):oP β (p++[n]) (p++[n]).length (K.put p.length dA dC eA eC):=by
 have e:(p++[n]).length=p.length+1:=by rw [ait];rfl
 rw [e]
 refine oP.put (k:=p.length) ⟨λi hi=>?_,λi hi=>?_⟩ (by rw [xu];exact hd) (by rw [xu];exact he)
 ·rw [zZ hi];exact h.data i hi
 rw [zZ hi];exact h.ah i hi
theorem I9 {p:List aL} {K:eP} {dA eA A:Option Addr} {dC eC cN:Nat} {dn en:Nat} (hd:n.data.length=dn) (he:n.ah.length=en) :
 HP.abs (aF 95 10 A (p.length+1) cN (bD K p++[.int .i64 n.id,.int .i64 n.kind,.int .i64 n.mode,.int .i64 n.bg,.int .i64 n.bh,.int .i64 n.aT,.int .i64 n.aJ,.slice dA dn dC,.string n.target,.slice eA en eC]))=HP.abs (aF 95 10 A (p++[n]).length cN (bD (K.put p.length dA dC eA eC) (p++[n]))):=by
 grind [wo]
end o
end
section
open Go.RowKit Go.Maps bF aD
attribute [local irreducible] ar bN ak ay eH qu
noncomputable abbrev gZ (Y:RL) (Z:RS):=(.abs (aF 95 10 Y.A Z.ns.length Y.c (bD Y.L Z.ns)):HP)
noncomputable abbrev gI (Y:RL) (Z:RS):=(.abs (aF 3 1 Y.G Z.aE.length Y.cg (bH Z.aE)):HP)
noncomputable abbrev X4 (Ag)(l:List Int) (cg):=(.abs (aF 3 1 Ag l.length cg (bH l)):HP)
noncomputable abbrev zT4 (A1:Option Addr) (Z:RS) (k:Nat) (c1:Nat):=(.abs (aF 3 1 A1 ((ins (aD.aP Z.us) (nd Z.ns k).id Z.us).length) c1 (bH (aY (ins (aD.aP Z.us) (nd Z.ns k).id Z.us)))):HP)
noncomputable abbrev zT5 (B1)(Z:RS) (k:Nat) (d1):=(.abs (aF 3 1 B1 ((ins (aD.aP Z.us) (nd Z.ns k).id Z.us).length) d1 (bH (ja (ins (aD.aP Z.us) (nd Z.ns k).id Z.us)))):HP)
noncomputable abbrev zT6 (uP:Nat) (Z:RS) (A1:Option Addr) (k:Nat) (c1:Nat) (B1) (d1):=(.ax uP [vI (Z.cH),vI ((max Z.aI ((Z.us.length:Int)+1))),.slice A1 ((ins (aD.aP Z.us) (nd Z.ns k).id Z.us).length) (c1),.slice B1 ((ins (aD.aP Z.us) (nd Z.ns k).id Z.us).length) (d1)] 43:HP)
noncomputable abbrev zT7 (jh:Nat) (zu:Nat) (An:Option Addr) (p:List aL) (cn:Nat) (Ag) (l:List Int) (cg) (i:Nat):=([(1,vP jh),(2,vP zu),(3,.slice An (p.length) (cn)),(4,.slice Ag (l.length) (cg)),(5,vI ↑i)]:Fr)
noncomputable abbrev zT8 (Z:RS):=([(6,vI (Z.cN)),(7,vI (Z.cB)),(8,vI (Z.cH)),(9,vI (Z.cS)),(10,vI (Z.cZ)),(11,vI (Z.last))]:Fr)
noncomputable abbrev zT9 (b1:Nat) (b2:Nat) (Ao) (q:List fA) (ca):=([(4,vP b1),(8,vP b2),(9,.slice Ao (q.length) (ca))]:Fr)
noncomputable abbrev qX (b1:Nat) (Z) (Y:RL) (b2:Nat):=([.ax b1 (rV Z Y) 45,.ax b2 (rZ) 45]:List HP)
noncomputable abbrev ae2 (tH:Nat) (wQ:Nat) (Z:RS) (Y:RL) (k:Nat):=([(2,vP tH),(4,vP wQ),(12,.agg #[vI (Z.cH),vI (Z.aI),.slice Y.H (Z.us.length) (Y.ch),.slice Y.V (Z.us.length) (Y.cv)]),(19,vI ((nd Z.ns k).id))]:Fr)
noncomputable abbrev ae3 (Z:RS) (A1:Option Addr) (k:Nat) (c1:Nat) (B1) (d1):=([(3,vI ((max Z.aI ((Z.us.length:Int)+1)))),(4,.slice A1 ((ins (aD.aP Z.us) (nd Z.ns k).id Z.us).length) (c1)),(5,.slice B1 ((ins (aD.aP Z.us) (nd Z.ns k).id Z.us).length) (d1))]:Fr)
noncomputable abbrev ae4 (Z:RS) (Y:RL):=([(2,vI (Z.cH)),(3,vI (Z.aI)),(4,.slice Y.H (Z.us.length) (Y.ch)),(5,.slice Y.V (Z.us.length) (Y.cv))]:Fr)
theorem Cy {β:Bs} (Z:RS) (Y:RL) (hI:mA β Z Y.L Y.H Y.V) (hB:RB Z) (d:Nat) (hd:d<Z.ns.length) (name:ByteArray) (id:Int) :
 bU Tryz.prog β 82 #[.agg ⟨rV Z Y⟩,vI (((d:Nat):Int)),.string name,vI (id)] [gZ Y Z,gI Y Z] (λβ' v l=>∃L',v=.agg ⟨rV (dm Z d name id) Y⟩/\l=[.abs (aF 95 10 Y.A ((dm Z d name id).ns.length) Y.c (bD L' (dm Z d name id).ns)),.abs (aF 3 1 Y.G ((dm Z d name id).aE.length) Y.cg (bH (dm Z d name id).aE))]/\mA β' (dm Z d name id) L' Y.H Y.V):=by
 refine mM Tryz.func82 Tryz.ntmps82 (λav R=>SR (jB 1 [4] (λb1=>.ax b1 (rV Z Y) 45) (λb1=>jB 1 [8] (λb2=>.ax b2 (rZ) 45) (λb2=>NS (jB 2 [9] (λb3=>.ax b3 [] 149) (λb3=>NS (ar.mem (λw hS=>hS.o9 (i:=5) (b:=b3) (cs:=[]) (e:=149) 2 0 KB rfl Pd) (jK 1 [10] [] (NS (ar.sK 0 rfl zc (λmg=>jK 8 [11] [(2,a_ 3 b1),(4,x_ d Z.ns.length (mg)),(6,v_ 0 (nA Z.ns Y.L Y.A Y.c d 9 hd rfl))] (NZ (jK 1 [12] [] (NN (ak.block (lJ (ι:=Nat×Bool×(List fA)×(Option Addr)×Nat) (λ(j,put,q,Ao,ca)=>(j<=(nd Z.ns d).ah.length)/\(gG (nd Z.ns d).ah name id j put q)) (λ(j,put,q,Ao,ca)=>(nd Z.ns d).ah.length-j) (λ(j,put,q,Ao,ca)=>([(1,vI ↑d),(2,.string name),(3,vI (id))]++zT9 b1 b2 Ao q ca++[(10,.bool put),(11,.slice (Y.L.eA d) ((nd Z.ns d).ah.length) ((Y.L.eC d))),(12,vI ↑j)])) (λ(j,put,q,Ao,ca)=>(qX b1 Z Y b2++[gZ Y Z,gI Y Z,.abs (aF 149 2 Ao q.length ca (nB q)),.abs R])) (0,false,[],some ⟨b3,0,none⟩,0) [3,4,0,1,5,2] (⟨aio _,gG.start⟩) ?_))))))))))))))))
 rintro⟨j,put,q,Ao,ca⟩ ⟨hj,he⟩
 have wO:=he.len hj
 have hrw:=hB.row hd
 refine SQ (jK 4 [24] [] (NN (cP ((((j:Nat):Int):Int)<((((nd Z.ns d).ah.length:Nat):Int):Int)) (λrY=>?_) (λrY=>?_))))
 ·refine KX (ak.seq (ak.block (ak.join (ι:=Bool×(List fA)×(Option Addr)×Nat) (λ(p1,q1,A1,c1)=>(gG (nd Z.ns d).ah name id (j+1) p1 (q1++[en (nd Z.ns d).ah j]))/\(q1.length<=j+2)) (λ(p1,q1,A1,c1)=>([(1,vI ↑d),(2,.string name),(3,vI (id))]++zT9 b1 b2 A1 q1 c1++[(10,.bool p1),(11,.slice (Y.L.eA d) ((nd Z.ns d).ah.length) ((Y.L.eC d))),(12,vI ↑j)])) (λ(p1,q1,A1,c1)=>(qX b1 Z Y b2++[gZ Y Z,gI Y Z,.abs (aF 149 2 A1 q1.length c1 (nB q1)),.abs R])) ?_ ?_)))
  ·rintro⟨p1,q1,A1,c1⟩ ⟨he1,hl1⟩
   exact ak.region (jN 6 [44,49] (λb4=>[(3,x_ j ((nd Z.ns d).ah.length) (cT.hd (hI.ah d hd) (i:=j) zc)),(4,r2 (cT.rd (hI.ah d hd) (i:=j) zc (j:=0) rfl) (cT.rd (hI.ah d hd) (i:=j) zc (j:=1) rfl))]) (λ_=>[]) (λb4=>.ax b4 [.string (en (nd Z.ns d).ah j).name,vI ((en (nd Z.ns d).ah j).id)] 149) (λb4=>ny 4 93 (some ⟨b4,0,none⟩) 1 1 [.string (en (nd Z.ns d).ah j).name,vI ((en (nd Z.ns d).ah j).id)] rfl (fQ (j:=6) rfl) (λA5 c6=>ar.cJ 4 rfl (En (e:=(en (nd Z.ns d).ah j))) (sl 50 (.slice A5 (q1.length+1) (c6)) (.slice A5 ((q1++[(en (nd Z.ns d).ah j)]).length) (c6)) (by rw [←oM]) (jK 1 [9] [] (LX (ak.region (jK 3 [12] [(1,wJ ((j:Int)+1) (↑(j+1)))] (NL (tJ ((j+1),p1,(q1++[(en (nd Z.ns d).ah j)]),A5,c6) [0,1,2,3,4,5] (⟨zc,he1⟩)))))))))))
  refine SR (jK 3 [29] [] (ar.qb 29 (!put) (λ_=>KB) (λDt=>jK 8 [37] [(2,x_ j ((nd Z.ns d).ah.length) (cT.hd (hI.ah d hd) (i:=j) zc)),(4,r_ (cT.rd (hI.ah d hd) (i:=j) zc (j:=0) rfl)),(6,w_ (.bool (!(decide (jF ((en (nd Z.ns d).ah j).name) name)))) (ae0 _ _))] (NN (cN (jF ((en (nd Z.ns d).ah j).name) name) (λzl=>SR ?_) (λzl=>ak.skip (mJ (put,q,Ao,ca) [0,1,2,3,4,5] (⟨he.keep zc (λ_=>zl),zc⟩)))))) (λDt=>jK 8 [37] [] (NF (ak.skip (mJ (put,q,Ao,ca) [0,1,2,3,4,5] (⟨he.keep zc (λe=>by rw [e] at Dt;cases Dt),zc⟩)))))))
  have hl1:=oM (q:=q) (e:=(⟨name,id⟩:fA))
  exact jB 5 [38,42] (λb7=>.ax b7 [.string name,vI (id)] 149) (λb7=>ny 4 93 (some ⟨b7,0,none⟩) 1 1 [.string name,vI (id)] rfl (fQ (j:=6) rfl) (λA8 c9=>ar.cJ 4 rfl (En (e:=(⟨name,id⟩:fA))) (sl 43 (.slice A8 (q.length+1) (c9)) (.slice A8 ((q++[(⟨name,id⟩:fA)]).length) (c9)) (by rw [←oM]) (jK 1 [9] [] (NN (ak.region (jK 1 [10] [] (NL (mJ (true,(q++[(⟨name,id⟩:fA)]),A8,c9) [0,1,2,3,4,5] (⟨gG.put ((show put=false by simpa using Dt) ▸ he) zc zl,zc⟩))))))))))
 refine XX (ak.join (ι:=(List fA)×(Option Addr)×Nat) (λ(q2,A2,c2)=>(q2=(mW name id (nd Z.ns d).ah))) (λ(q2,A2,c2)=>([(1,vI ↑d)]++zT9 b1 b2 A2 q2 c2)) (λ(q2,A2,c2)=>(qX b1 Z Y b2++[gZ Y Z,gI Y Z,.abs (aF 149 2 A2 q2.length c2 (nB q2)),.abs R])) ?_ (SR (jK 2 [52] [] (NN (ak.cond (b:=(!put)) (λ_=>KB) (λzm=>ak.region (jB 5 [53,57] (λb10=>.ax b10 [.string name,vI (id)] 149) (λb10=>ny 4 93 (some ⟨b10,0,none⟩) 1 1 [.string name,vI (id)] rfl (fQ (j:=6) rfl) (λnK Bd=>ar.cJ 4 rfl (En (e:=(⟨name,id⟩:fA))) (sl 58 (.slice nK (q.length+1) (Bd)) (.slice nK ((q++[(⟨name,id⟩:fA)]).length) (Bd)) (by rw [←oM]) (jK 1 [9] [] (NL (mJ ((q++[(⟨name,id⟩:fA)]),nK,Bd) [0,1,2,3,4,5] (gG.last Pe))))))))) (λzm=>ak.skip (mJ (q,Ao,ca) [0,1,2,3,4,5] (gG.end_ Pe))))))))
 rintro⟨q2,A2,c2⟩ KE
 refine SR ?_
 subst KE
 refine ar.nw (Φ:=λβ'=>cT β' A2 (mW name id (nd Z.ns d).ah)) 4 [0,1,2,3,5] (eX:=(qX b1 Z Y b2++[gZ Y Z,gI Y Z,.abs R])) rfl rfl KB (λF w h β' h1 h2=>cA.iM h h1 h2) (λβ1 cD hE=>?_)
 replace hI:=hI.le cD
 replace av:=av.trans cD
 exact jK 7 [63,65] [(2,a_ 0 b1),(5,x_ d Z.ns.length (mg))] (ar.Aj 2 (d*10+9) (d:=none) (T:=93) (e:=95) (size:=10) (n:=Z.ns.length) (cap:=Y.c) (A:=Y.A) (xs:=(bD Y.L Z.ns)) (u:=.slice A2 ((mW name id (nd Z.ns d).ah).length) (c2)) (a:=(.tmp 65)) (y:=(.tmp 63)) (λ_=>KB) KB (λ_=>KB) (λ_=>KB) KB rfl zc (by rw [oz];omega) (NS (jK 9 [72,74] [(2,a_ 0 b1),(6,A_ 0 b1 2),(7,x_ d Z.ns.length (mg))] (ar.Em 2 (d*10+5) (d:=none) (T:=26) (e:=95) (size:=10) (n:=Z.ns.length) (cap:=Y.c) (A:=Y.A) (xs:=((bD Y.L Z.ns).set (d*10+9) (.slice A2 ((mW name id (nd Z.ns d).ah).length) (c2)))) (u:=.int .i64 (Z.cS)) (u2:=.int .i64 (Z.cZ)) (a:=(.tmp 74)) (y:=(.tmp 72)) (λ_=>KB) KB (λ_=>KB) (λ_=>KB) KB rfl rfl zc (by rw [aix,oz];omega) (ar.cJ 2 rfl (TD hd rfl) (NS (jC 2 [] [(0,A_ 0 b1 12),(1,A_ 1 b2 12)] [(1,(zC (rV Z Y)))] (eO (l:=[.abs (aF 95 10 Y.A ((dm Z d name id).ns.length) Y.c (bD (Y.L.bS d A2 c2) (dm Z d name id).ns)),gI Y Z]) (v:=(.agg ⟨rV Z Y⟩)) [A_ 1 b2 12] av ⟨_,by simp only [rV];rw [Dv];rfl,rfl,hI.nT hd hE rfl rfl⟩ [2,3,4]))))))))
theorem Cz {β:Bs} (Z:RS) (Y:RL) (hI:mA β Z Y.L Y.H Y.V) {n:Nat} (hD:RD n Z) (hn:n<=7) (d:Nat) (hd:d<Z.ns.length) (name:ByteArray) (free:Bool) :
 bU Tryz.prog β 106 #[.agg ⟨rV Z Y⟩,vI (((d:Nat):Int)),.string name,.bool free] [gZ Y Z,gI Y Z] (λβ' v l=>∃L' G' cg',v=.agg ⟨rW (cW Z d name free) Y.A Y.c G' cg' Y.H Y.ch Y.V Y.cv⟩/\l=[.abs (aF 95 10 Y.A ((cW Z d name free).ns.length) Y.c (bD L' (cW Z d name free).ns)),.abs (aF 3 1 G' ((cW Z d name free).aE.length) cg' (bH (cW Z d name free).aE))]/\mA β' (cW Z d name free) L' Y.H Y.V):=by
 refine mM Tryz.func106 Tryz.ntmps106 (λav R=>SR (jB 1 [4] (λb13=>.ax b13 (rV Z Y) 45) (λb13=>jB 1 [8] (λb14=>.ax b14 (rZ) 45) (λb14=>NS (jB 2 [9] (λb15=>.ax b15 [] 149) (λb15=>NS (ar.mem (λw hS=>hS.o9 (i:=5) (b:=b15) (cs:=[]) (e:=149) 2 0 KB rfl Pd) (ar.sK 0 rfl zc (λmg=>jK 8 [10] [(2,a_ 3 b13),(4,x_ d Z.ns.length (mg)),(6,v_ 0 (nA Z.ns Y.L Y.A Y.c d 9 hd rfl))] (NS (jK 1 [11] [] (NZ (jK 1 [12] [] (NN (ak.block (lJ (ι:=Nat×(List fA)×Int×(Option Addr)×Nat) (λ(j,q,z,Ao,ca)=>(j<=(nd Z.ns d).ah.length)/\(q=sH name ((nd Z.ns d).ah.take j))/\(z=rX name ((nd Z.ns d).ah.take j) 0)) (λ(j,q,z,Ao,ca)=>(nd Z.ns d).ah.length-j) (λ(j,q,z,Ao,ca)=>([(1,vI ↑d),(2,.string name),(3,.bool free)]++zT9 b13 b14 Ao q ca++[(10,.slice (Y.L.eA d) ((nd Z.ns d).ah.length) ((Y.L.eC d))),(11,vI (z)),(12,vI ↑j)])) (λ(j,q,z,Ao,ca)=>(qX b13 Z Y b14++[gZ Y Z,gI Y Z,.abs (aF 149 2 Ao q.length ca (nB q)),.abs R])) (0,[],0,some ⟨b15,0,none⟩,0) [3,4,0,1,5,2] (⟨aio _,rfl,rfl⟩) ?_))))))))))))))))
 rintro⟨j,q,z,Ao,ca⟩ ⟨hj,hq,hz⟩
 have wO:q.length<=j:=by rw [hq];exact aaY
 have hrw:=(hD.rb zc).row hd
 refine SQ (jK 4 [24] [] (NN (cP ((((j:Nat):Int):Int)<((((nd Z.ns d).ah.length:Nat):Int):Int)) (λrY=>KX (ak.seq (ak.block (SR (jK 7 [33] [(2,x_ j ((nd Z.ns d).ah.length) (cT.hd (hI.ah d hd) (i:=j) zc)),(4,r_ (cT.rd (hI.ah d hd) (i:=j) zc (j:=0) rfl)),(6,w_ (.bool (decide (((en (nd Z.ns d).ah j).name:ByteArray)=name))) (rE _ _))] (NN (cP (((en (nd Z.ns d).ah j).name:ByteArray)=name) (λMG=>ak.region (jK 6 [11] [(2,x_ j ((nd Z.ns d).ah.length) (cT.hd (hI.ah d hd) (i:=j) zc)),(4,r_ (cT.rd (hI.ah d hd) (i:=j) zc (j:=1) rfl))] (LX (ak.region (jK 3 [12] [(1,wJ ((j:Int)+1) (↑(j+1)))] (NL (tJ ((j+1),q,(en (nd Z.ns d).ah j).id,Ao,ca) [0,1,2,3,4,5] (⟨zc,by grind [Ob],adC zc MG⟩)))))))) (λMG=>ak.region (jN 6 [39,44] (λb16=>[(3,x_ j ((nd Z.ns d).ah.length) (cT.hd (hI.ah d hd) (i:=j) zc)),(4,r2 (cT.rd (hI.ah d hd) (i:=j) zc (j:=0) rfl) (cT.rd (hI.ah d hd) (i:=j) zc (j:=1) rfl))]) (λ_=>[]) (λb16=>.ax b16 [.string (en (nd Z.ns d).ah j).name,vI ((en (nd Z.ns d).ah j).id)] 149) (λb16=>ny 4 93 (some ⟨b16,0,none⟩) 1 1 [.string (en (nd Z.ns d).ah j).name,vI ((en (nd Z.ns d).ah j).id)] rfl (fQ (j:=6) rfl) (λo7 q8=>ar.cJ 4 rfl (En (e:=(en (nd Z.ns d).ah j))) (sl 45 (.slice o7 (q.length+1) (q8)) (.slice o7 ((q++[(en (nd Z.ns d).ah j)]).length) (q8)) (by rw [←oM]) (jK 1 [9] [] (LX (ak.region (jK 3 [12] [(1,wJ ((j:Int)+1) (↑(j+1)))] (NL (tJ ((j+1),(q++[(en (nd Z.ns d).ah j)]),z,o7,q8) [0,1,2,3,4,5] (⟨zc,by grind [Mc],by rw [hz];exact aaX zc MG⟩))))))))))))))))))) (λrY=>XX (SR ?_)))))
 have hje:j=(nd Z.ns d).ah.length:=zc
 rw [hje,aiK] at hq hz
 subst hq
 subst hz
 refine ar.nw (Φ:=λβ'=>cT β' Ao (sH name (nd Z.ns d).ah)) 4 [0,1,2,3,5] (eX:=(qX b13 Z Y b14++[gZ Y Z,gI Y Z,.abs R])) rfl rfl KB (λF w h β' h1 h2=>cA.iM h h1 h2) (λβ1 cD hE=>?_)
 replace hI:=hI.le cD
 replace av:=av.trans cD
 refine jK 7 [50,52] [(2,a_ 0 b13),(5,x_ d Z.ns.length (mg))] (ar.Aj 2 (d*10+9) (d:=none) (T:=93) (e:=95) (size:=10) (n:=Z.ns.length) (cap:=Y.c) (A:=Y.A) (xs:=(bD Y.L Z.ns)) (u:=.slice Ao ((sH name (nd Z.ns d).ah).length) (ca)) (a:=(.tmp 52)) (y:=(.tmp 50)) (λ_=>KB) KB (λ_=>KB) (λ_=>KB) KB rfl zc (by rw [oz];omega) (NS (jK 9 [59,61] [(2,a_ 0 b13),(6,A_ 0 b13 2),(7,x_ d Z.ns.length (mg))] (ar.Em 2 (d*10+5) (d:=none) (T:=26) (e:=95) (size:=10) (n:=Z.ns.length) (cap:=Y.c) (A:=Y.A) (xs:=((bD Y.L Z.ns).set (d*10+9) (.slice Ao ((sH name (nd Z.ns d).ah).length) (ca)))) (u:=.int .i64 (Z.cS)) (u2:=.int .i64 (Z.cZ)) (a:=(.tmp 61)) (y:=(.tmp 59)) (λ_=>KB) KB (λ_=>KB) (λ_=>KB) KB rfl rfl zc (by rw [aix,oz];omega) (ar.cJ 2 rfl (TD hd rfl) (NN (ak.seq (SR ?_))))))))
 have di:mA β1 (Eo Z d name) (Y.L.bS d Ao ca) Y.H Y.V:=hI.nT hd hE rfl rfl
 have Dd:RD (n+1) (Eo Z d name):=hD.del hd
 refine jK 2 [63] [] (ar.qb 63 free (λ_=>KB) (λh63=>jK 2 [64,65] [(0,A_ 0 b13 12)] ?_) (λh63=>jK 5 [68] [] (NF (KX (SR (jC 2 [] [(0,A_ 0 b13 12),(1,A_ 1 b14 12)] [(1,(zC (rV Z Y)))] (eO [A_ 1 b14 12] av ⟨(Y.L.bS d Ao ca),Y.G,Y.cg,by simp only [rV,rW];rw [KM (λe=>by rw [e] at h63;cases h63),vT]<;>rfl,by rw [KM (λe=>by rw [e] at h63;cases h63)]<;>rfl,di.same rfl rfl⟩ [2,3,4])))))))
 have q2:=λox (h:dF ox (Eo Z d name) ⟨Y.A,Y.c,(Y.L.bS d Ao ca),Y.G,Y.cg,Y.H,Y.ch,Y.V,Y.cv⟩)=>XL (Eo Z d name) ⟨Y.A,Y.c,(Y.L.bS d Ao ca),Y.G,Y.cg,Y.H,Y.ch,Y.V,Y.cv⟩ h (Dd.rb zc) (rX name (nd Z.ns d).ah 0)
 simp only [rV,adE] at q2
 exact gE [2,3] (eF di (λ_ _ h=>q2 _ h)) (jK 2 [68] [] (NN (cP (((uN (Eo Z d name).ns (rX name (nd Z.ns d).ah 0)):Int)=(0:Int)) (λh68=>ak.region (jN 4 [70,72] (λb19=>[(1,a_ 2 b13)]) (λ_=>[]) (λb19=>.ax b19 [vI ((rX name (nd Z.ns d).ah 0))] 3) (λb19=>ny 1 41 (some ⟨b19,0,none⟩) 1 1 [vI ((rX name (nd Z.ns d).ah 0))] rfl (fQ (j:=5) rfl) (λoH oI=>ar.cJ 1 rfl (FY) (sl 73 (.slice oH (Z.aE.length+1) (oI)) (.slice oH ((Z.aE++[(rX name (nd Z.ns d).ah 0)]).length) (oI)) (by rw [←oM]) (jC 2 [] [(1,a_ 2 b13)] [(2,[(1,.slice oH ((Z.aE++[(rX name (nd Z.ns d).ah 0)]).length) (oI))])] (NS (jC 2 [] [(0,A_ 2 b13 12),(1,A_ 3 b14 12)] [(3,([(0,.slice Y.A (Z.ns.length) (Y.c)),(1,.slice oH ((Z.aE++[(rX name (nd Z.ns d).ah 0)]).length) (oI))]++ae4 Z Y++zT8 Z))] (eO [A_ 3 b14 12] av ⟨(Y.L.bS d Ao ca),oH,oI,by simp only [rV,rW];rw [TF h63 h68,vT]<;>rfl,by rw [TF h63 h68]<;>rfl,di.same rfl rfl⟩ [0,1,4])))))) (n:=Z.aE.length) (hb:=by have:=hD.aE;omega)))) (λh68=>KX (SR (jC 2 [] [(0,A_ 2 b13 12),(1,A_ 3 b14 12)] [(3,(zC (rV Z Y)))] (eO [A_ 3 b14 12] av ⟨(Y.L.bS d Ao ca),Y.G,Y.cg,by simp only [rV,rW];rw [KM (λ_=>h68),vT]<;>rfl,by rw [KM (λ_=>h68)]<;>rfl,di.same rfl rfl⟩ [0,1,4])))))))
theorem adF {β:Bs} (Z:RS) (Y:RL) (hI:mA β Z Y.L Y.H Y.V) {n:Nat} (hD:RD n Z) (hn:n<=8) (hl:0<=Z.last/\Z.last<1099511627776) (d:Nat) (hd:d<Z.ns.length) (name:ByteArray) (x:aL) (hxd:x.data=[]) (Nb:x.ah=[]) :
 bU Tryz.prog β 117 #[.agg ⟨rV Z Y⟩,vI (((d:Nat):Int)),.string name,.agg #[vI (x.id),vI (x.kind),vI (x.mode),vI (x.bg),vI (x.bh),vI (x.aT),vI (x.aJ),.slice none (0) (0),.string x.target,.slice none (0) (0)]] [gZ Y Z,gI Y Z] (λβ' v l=>∃A' c' L',v=.agg ⟨rW (j3 Z d name x) A' c' Y.G Y.cg Y.H Y.ch Y.V Y.cv⟩/\l=[.abs (aF 95 10 A' ((j3 Z d name x).ns.length) c' (bD L' (j3 Z d name x).ns)),.abs (aF 3 1 Y.G ((j3 Z d name x).aE.length) Y.cg (bH (j3 Z d name x).aE))]/\mA β' (j3 Z d name x) L' Y.H Y.V/\L'.dA Z.ns.length=none/\L'.dC Z.ns.length=0):=by
 refine mM Tryz.func117 Tryz.ntmps117 (λav R=>SR (jB 1 [4] (λnh=>.ax nh (rV Z Y) 45) (λnh=>jB 1 [7] (λFZ=>.ax FZ [vI (x.id),vI (x.kind),vI (x.mode),vI (x.bg),vI (x.bh),vI (x.aT),vI (x.aJ),.slice none (0) (0),.string x.target,.slice none (0) (0)] 95) (λFZ=>jB 1 [8] (λb24=>.ax b24 (rZ) 45) (λb24=>NS (jC 5 [] [(1,a_ 3 nh),(2,wJ (Z.last+1) (Z.last+1)),(4,a_ 3 nh)] [(3,[(11,vI (Z.last+1))])] (NS (jC 4 [] [(1,a_ 3 nh),(3,a_ 4 FZ)] [(4,[(0,vI (Z.last+1))])] (NS (jC 5 [] [(2,A_ 3 nh 2),(4,A_ 4 FZ 2)] [(4,[(5,vI (Z.cS)),(6,vI (Z.cZ))])] (NS ?_)))))))))))
 have hI0:mA β ({Z with last:=Z.last+1}:RS) Y.L Y.H Y.V:=hI.same rfl rfl
 refine jK 5 [20,21,22,24] [(0,A_ 3 nh 12),(4,a_ 4 FZ)] (gu [0,1] (Cy ({Z with last:=Z.last+1}:RS) Y hI0 (RD.rb (hD.last _) hn) d hd name (Z.last+1)) ?_)
 rintro β1 _ _ cD ⟨L1,rfl,rfl,di⟩
 replace av:=av.trans cD
 refine jC 1 [] [(0,A_ 3 nh 12)] [(3,(zC (rV (dm ({Z with last:=Z.last+1}:RS) d name (Z.last+1)) Y)))] (NS ?_)
 have hl1:(dm ({Z with last:=Z.last+1}:RS) d name (Z.last+1)).ns.length=Z.ns.length:=Dv
 exact jN 5 [28,30] (λsY=>[(2,a_ 3 nh),(3,A_ 4 FZ 10)]) (λ_=>[]) (λsY=>.ax sY [vI (Z.last+1),vI (x.kind),vI (x.mode),vI (x.bg),vI (x.bh),vI (Z.cS),vI (Z.cZ),.slice none (0) (0),.string x.target,.slice none (0) (0)] 95) (λsY=>ny 0 22 (some ⟨sY,0,none⟩) 1 1 [vI (Z.last+1),vI (x.kind),vI (x.mode),vI (x.bg),vI (x.bh),vI (Z.cS),vI (Z.cZ),.slice none (0) (0),.string x.target,.slice none (0) (0)] rfl (fQ (j:=6) rfl) (λqK qL=>ar.cJ 0 rfl (I9 (n:=({x with id:=Z.last+1,aT:=Z.cS,aJ:=Z.cZ}:aL)) (by show x.data.length=0;rw [hxd];rfl) (by show x.ah.length=0;rw [Nb];rfl)) (sl 31 (.slice qK (((dm ({Z with last:=Z.last+1}:RS) d name (Z.last+1)).ns.length)+1) (qL)) (.slice qK (((dm ({Z with last:=Z.last+1}:RS) d name (Z.last+1)).ns++[({x with id:=Z.last+1,aT:=Z.cS,aJ:=Z.cZ}:aL)]).length) (qL)) (by rw [←oM]) (jC 3 [] [(2,a_ 3 nh)] [(3,[(0,.slice qK (((dm ({Z with last:=Z.last+1}:RS) d name (Z.last+1)).ns++[({x with id:=Z.last+1,aT:=Z.cS,aJ:=Z.cZ}:aL)]).length) (qL))])] (NS (jC 2 [] [(0,A_ 3 nh 12),(1,A_ 5 b24 12)] [(5,[(0,.slice qK (((dm ({Z with last:=Z.last+1}:RS) d name (Z.last+1)).ns++[({x with id:=Z.last+1,aT:=Z.cS,aJ:=Z.cZ}:aL)]).length) (qL)),(1,.slice Y.G ((dm ({Z with last:=Z.last+1}:RS) d name (Z.last+1)).aE.length) (Y.cg)),(2,vI ((dm ({Z with last:=Z.last+1}:RS) d name (Z.last+1)).cH)),(3,vI ((dm ({Z with last:=Z.last+1}:RS) d name (Z.last+1)).aI)),(4,.slice Y.H ((dm ({Z with last:=Z.last+1}:RS) d name (Z.last+1)).us.length) (Y.ch)),(5,.slice Y.V ((dm ({Z with last:=Z.last+1}:RS) d name (Z.last+1)).us.length) (Y.cv)),(6,vI ((dm ({Z with last:=Z.last+1}:RS) d name (Z.last+1)).cN)),(7,vI ((dm ({Z with last:=Z.last+1}:RS) d name (Z.last+1)).cB)),(8,vI ((dm ({Z with last:=Z.last+1}:RS) d name (Z.last+1)).cH)),(9,vI ((dm ({Z with last:=Z.last+1}:RS) d name (Z.last+1)).cS)),(10,vI ((dm ({Z with last:=Z.last+1}:RS) d name (Z.last+1)).cZ)),(11,vI ((dm ({Z with last:=Z.last+1}:RS) d name (Z.last+1)).last))])] (eO [A_ 5 b24 12] av ⟨qK,qL,_,rfl,rfl,di.snoc (n:=({x with id:=Z.last+1,aT:=Z.cS,aJ:=Z.cZ}:aL)) rfl hxd Nb rfl,by rw [←hl1];exact⟨aik rfl,aik rfl⟩⟩)))))) (n:=(dm ({Z with last:=Z.last+1}:RS) d name (Z.last+1)).ns.length) (hb:=by have:=hD.ns;omega))
theorem yY {β:Bs} (Z:RS) (Y:RL) (hR:dF β Z Y) (hB:RB Z) :
 bU Tryz.prog β 86 #[.agg ⟨rV Z Y⟩] [] (λβ' v l=>∃Y',v=.agg ⟨rV (fV Z) Y'⟩/\l=[]/\dF β' (fV Z) Y'):=by
 refine mM Tryz.func86 Tryz.ntmps86 (λav R=>SR (jB 1 [1] (λjh=>.ax jh (rV Z Y) 45) (λjh=>jB 1 [2] (λzu=>.ax zu (rZ) 45) (λzu=>NS (jB 2 [3] (λb30=>.ax b30 [] 95) (λb30=>NS (ar.mem (λw hS=>hS.o9 (i:=3) (b:=b30) (cs:=[]) (e:=95) 10 0 KB rfl Pd) (jB 2 [4] (λuL=>.ax uL [] 3) (λuL=>NZ (ar.mem (λw hS=>hS.o9 (i:=4) (b:=uL) (cs:=[]) (e:=3) 1 0 KB rfl Pd) (jK 1 [5] [] (NN (ak.block (lJ (λ(i,p,K,An,cn,l,Ag,cg)=>(i<=Z.ns.length)/\(p=um Z i)/\(l=qg Z i)/\(oP β p p.length K)) (λ(i,p,K,An,cn,l,Ag,cg)=>Z.ns.length-i) (λ(i,p,K,An,cn,l,Ag,cg)=>(zT7 jh zu An p cn Ag l cg i)) (λ(i,p,K,An,cn,l,Ag,cg)=>(qX jh Z Y zu++[.abs (aF 95 10 An p.length cn (bD K p)),X4 Ag l cg,.abs R])) (0,[],IU,some ⟨b30,0,none⟩,0,[],some ⟨uL,0,none⟩,0) [1,2,3,4,0] (⟨aio _,rfl,rfl,⟨λi hi=>ain hi (aiq i),λi hi=>ain hi (aiq i)⟩⟩) ?_))))))))))))))
 rintro⟨i,p,K,An,cn,l,Ag,cg⟩ ⟨hi,hp,hl,hK⟩
 have hbn:=hB.ns
 have hpl:p.length<=i:=by rw [hp];exact Nx
 have hll:l.length<=i:=by rw [hl];exact XY
 refine SQ (jK 6 [16] [(3,a_ 0 jh)] (NN (cP ((((i:Nat):Int):Int)<(((Z.ns.length:Nat):Int):Int)) (λpR=>?_) (λpR=>?_))))
 ·refine KX (ak.seq (ak.block (SR (jK 8 [6] [(2,a_ 0 jh),(4,x_ i Z.ns.length (aN.hd hR.n (i:=i) zc)),(6,r_ (aN.rd hR.n (i:=i) zc (j:=0) rfl))] (NS (jK 1 [7] [] (NZ (jK 1 [8] [] (NN (ak.block (lJ (λ(k,op)=>(k<=Z.us.length)/\(op=true↔∃q,q<k/\(ja Z.us).getD q 0=(nd Z.ns i).id)) (λ(k,op)=>Z.us.length-k) (λ(k,op)=>(zT7 jh zu An p cn Ag l cg i++[(6,vI ((nd Z.ns i).id)),(7,.bool op),(8,vI ↑k)])) (λ(k,op)=>(qX jh Z Y zu++[.abs (aF 95 10 An p.length cn (bD K p)),X4 Ag l cg,.abs R])) (0,false) [0,1,2,3,4] (⟨aio _,⟨λe=>(by cases e),λ⟨q,h,_⟩=>ain h (aiq q)⟩⟩) ?_)))))))))))
  rintro⟨k,op⟩ ⟨hk,bW⟩
  have hbu:=hB.us
  refine SQ (jK 6 [31] [(3,a_ 0 jh)] (NN (cP ((((k:Nat):Int):Int)<(((Z.us.length:Nat):Int):Int)) (λWg=>KX (ak.seq (ak.block (SR (jK 8 [41] [(2,a_ 0 jh),(4,x_ k Z.us.length (x3.hd (l:=(ja Z.us)) hR.v (j:=k) (by grind [j9,mV]))),(5,r_ (x3.rd (l:=(ja Z.us)) hR.v (j:=k) (by grind [j9,mV])))] (NN (cP ((((ja Z.us).getD k 0):Int)=((nd Z.ns i).id:Int)) (λBr=>ak.region (jK 1 [7] [] (LX (ak.region (jK 3 [8] [(1,wJ ((k:Int)+1) (↑(k+1)))] (NL (tJ ((k+1),true) [0,1,2,3,4] (⟨zc,⟨λ_=>⟨k,zc,Br⟩,λ_=>rfl⟩⟩)))))))) (λBr=>KX (ak.region (jK 3 [8] [(1,wJ ((k:Int)+1) (↑(k+1)))] (NL (tJ ((k+1),op) [0,1,2,3,4] (⟨zc,⟨λe=>let ⟨q,h1,h2⟩:=bW.1 e;⟨q,zc,h2⟩,λ⟨q,h1,h2⟩=>bW.2 Pe⟩⟩))))))))))))) (λWg=>XX (ak.seq (SR ?_))))))
  replace bW:op=true↔(nd Z.ns i).id∈ja Z.us:=bW.trans (by rw [show k=Z.us.length by omega];exact ahi.symm)
  refine jK 2 [42,43] [(0,A_ 0 jh 12)] (gE [] (xI Z Y hR hB (nd Z.ns i).id) (jK 1 [45] [] (sP 45 ((nd Z.ns i).id∈Z.aE) (λO8=>?_) (λO8=>?_))))
  ·refine jK 2 [47] [] (jK 1 [48] [] (NN (ak.cond (b:=(!op)) (λ_=>KB) (λh48=>?_) (λh48=>?_))))
   ·refine XX (ak.region (jK 3 [5] [(1,wJ ((i:Int)+1) (↑(i+1)))] (NL ?_)))
    have hnk:¬sI Z (nd Z.ns i)=true:=λe=>by grind [I8]
    exact tJ ((i+1),p,K,An,cn,l,Ag,cg) [0,1,2,3,4] (⟨zc,by rw [hp,QK zc hnk],by rw [hl,Vu zc hnk],hK⟩)
   have hkp:sI Z (nd Z.ns i)=true:=I8.2 (λhg=>bW.1 (by simpa using h48))
   refine KX (ak.join (λ(l2,A2,c2)=>(l2=qg Z (i+1))) (λ(l2,A2,c2)=>(zT7 jh zu An p cn A2 l2 c2 i)) (λ(l2,A2,c2)=>(qX jh Z Y zu++[.abs (aF 95 10 An p.length cn (bD K p)),X4 A2 l2 c2,.abs R])) ?_ (SR (jK 2 [49,50] [(0,A_ 0 jh 12)] (gE [] (xI Z Y hR hB (nd Z.ns i).id) (NN (cP ((nd Z.ns i).id∈Z.aE) (λyu=>ak.region (jB 3 [52,54] (λE0=>.ax E0 [vI ((nd Z.ns i).id)] 3) (λE0=>ny 3 41 (some ⟨E0,0,none⟩) 1 1 [vI ((nd Z.ns i).id)] rfl (fQ (j:=5) rfl) (λA36 c37=>ar.cJ 3 rfl (FY) (sl 55 (.slice A36 (l.length+1) (c37)) (.slice A36 ((l++[(nd Z.ns i).id]).length) (c37)) (by rw [←oM]) (jK 1 [4] [] (NL (mJ ((l++[(nd Z.ns i).id]),A36,c37) [0,1,2,3,4] (by rw [hl,Nv zc hkp yu]))))))))) (λyu=>ak.skip (mJ (l,Ag,cg) [0,1,2,3,4] (by rw [hl,QL zc hkp yu])))))))))
   rintro⟨l2,A2,c2⟩ hl2
   exact ak.region (jN 8 [56,63] (λb32=>[(3,a_ 0 jh),(5,x_ i Z.ns.length (aN.hd hR.n (i:=i) zc)),(6,Ez (iy Y.L i (nd Z.ns i)) (λ_ _ h=>aN.rd hR.n zc h))]) (λ_=>[]) (λb32=>.ax b32 (iy Y.L i (nd Z.ns i)) 95) (λb32=>ny 2 22 (some ⟨b32,0,none⟩) 1 1 (iy Y.L i (nd Z.ns i)) rfl (fQ (j:=5) rfl) (λM9 Na=>ar.cJ 2 rfl (I9 (n:=nd Z.ns i) rfl rfl) (sl 64 (.slice M9 (p.length+1) (Na)) (.slice M9 ((p++[nd Z.ns i]).length) (Na)) (by rw [←oM]) (jK 1 [3] [] (LX (ak.region (jK 3 [5] [(1,wJ ((i:Int)+1) (↑(i+1)))] (NL (tJ ((i+1),(p++[nd Z.ns i]),(K.put p.length (Y.L.dA i) (Y.L.dC i) (Y.L.eA i) (Y.L.eC i)),M9,Na,l2,A2,c2) [0,1,2,3,4] (⟨zc,by rw [hp,Cx zc hkp],hl2,hK.snoc (hR.n.data i zc) (hR.n.ah i zc)⟩)))))))))))
  refine jK 2 [47] [] ?_
  have hkp:sI Z (nd Z.ns i)=true:=I8.2 (λhg=>ain hg O8)
  refine jK 1 [48] [] (NF (KX (ak.join (λ(l2,A2,c2)=>(l2=qg Z (i+1))) (λ(l2,A2,c2)=>(zT7 jh zu An p cn A2 l2 c2 i)) (λ(l2,A2,c2)=>(qX jh Z Y zu++[.abs (aF 95 10 An p.length cn (bD K p)),X4 A2 l2 c2,.abs R])) ?_ (SR (jK 2 [49,50] [(0,A_ 0 jh 12)] (gE [] (xI Z Y hR hB (nd Z.ns i).id) (NN (cP ((nd Z.ns i).id∈Z.aE) (λyu=>ak.region (jB 3 [52,54] (λb41=>.ax b41 [vI ((nd Z.ns i).id)] 3) (λb41=>ny 3 41 (some ⟨b41,0,none⟩) 1 1 [vI ((nd Z.ns i).id)] rfl (fQ (j:=5) rfl) (λA42 c43=>ar.cJ 3 rfl (FY) (sl 55 (.slice A42 (l.length+1) (c43)) (.slice A42 ((l++[(nd Z.ns i).id]).length) (c43)) (by rw [←oM]) (jK 1 [4] [] (NL (mJ ((l++[(nd Z.ns i).id]),A42,c43) [0,1,2,3,4] (by rw [hl,Nv zc hkp yu]))))))))) (λyu=>ak.skip (mJ (l,Ag,cg) [0,1,2,3,4] (by rw [hl,QL zc hkp yu])))))))))))
  rintro⟨l2,A2,c2⟩ hl2
  exact ak.region (jN 8 [56,63] (λBz=>[(3,a_ 0 jh),(5,x_ i Z.ns.length (aN.hd hR.n (i:=i) zc)),(6,Ez (iy Y.L i (nd Z.ns i)) (λ_ _ h=>aN.rd hR.n zc h))]) (λ_=>[]) (λBz=>.ax Bz (iy Y.L i (nd Z.ns i)) 95) (λBz=>ny 2 22 (some ⟨Bz,0,none⟩) 1 1 (iy Y.L i (nd Z.ns i)) rfl (fQ (j:=5) rfl) (λA39 c40=>ar.cJ 2 rfl (I9 (n:=nd Z.ns i) rfl rfl) (sl 64 (.slice A39 (p.length+1) (c40)) (.slice A39 ((p++[nd Z.ns i]).length) (c40)) (by rw [←oM]) (jK 1 [3] [] (LX (ak.region (jK 3 [5] [(1,wJ ((i:Int)+1) (↑(i+1)))] (NL (tJ ((i+1),(p++[nd Z.ns i]),(K.put p.length (Y.L.dA i) (Y.L.dC i) (Y.L.eA i) (Y.L.eC i)),A39,c40,l2,A2,c2) [0,1,2,3,4] (⟨zc,by rw [hp,Cx zc hkp],hl2,hK.snoc (hR.n.data i zc) (hR.n.ah i zc)⟩)))))))))))
 refine XX (SR ?_)
 have hie:i=Z.ns.length:=zc
 rw [hie] at hp hl
 refine ar.nw (Φ:=λβ'=>cA β' An (bD K p)) 2 [0,1,3,4] (eX:=(qX jh Z Y zu++[X4 Ag l cg,.abs R])) rfl rfl KB (λF w h β' h1 h2=>cA.iM h h1 h2) (λβ1 cD hN=>?_)
 replace hR:=hR.le cD
 replace hK:=hK.le cD
 replace av:=av.trans cD
 refine ar.nw (Φ:=λβ'=>cA β' Ag (bH l)) 2 [0,1,3] (eX:=(qX jh Z Y zu++[.abs R])) rfl rfl KB (λF w h β' h1 h2=>cA.iM h h1 h2) (λox fo hG=>?_)
 replace hR:=hR.le fo
 replace hK:=hK.le fo
 replace hN:=hN.le fo
 replace av:=av.trans fo
 exact jC 4 [] [(3,a_ 0 jh)] [(0,[(0,.slice An (p.length) (cn))])] (NS (jC 3 [] [(2,a_ 0 jh)] [(0,[(1,.slice Ag (l.length) (cg))])] (NS (jC 2 [] [(0,A_ 0 jh 12),(1,A_ 1 zu 12)] [(1,([(0,.slice An (p.length) (cn)),(1,.slice Ag (l.length) (cg))]++ae4 Z Y++zT8 Z))] (eO [A_ 1 zu 12] av ⟨⟨An,cn,K,Ag,cg,Y.H,Y.ch,Y.V,Y.cv⟩,by simp only [rV];rw [QS hp,KN hl]<;>rfl,rfl,aaZ hR hN hG hp hl hK⟩ [2])))))
theorem Ja {β:Bs} (Z:RS) (Y:RL) (hR:dF β Z Y) (hC:RU Z) (k:Nat) (hk:k<Z.ns.length) :
 bU Tryz.prog β 77 #[.agg ⟨rV Z Y⟩,vI (((k:Nat):Int))] [] (λβ' v l=>∃Y',v=.tuple #[.agg ⟨rV ((lE Z k).1) Y'⟩,vI (lE Z k).2.1,vI (lE Z k).2.2]/\l=[]/\dF β' (lE Z k).1 Y'):=by
 refine mM Tryz.func77 Tryz.ntmps77 (λav R=>SR (jB 1 [2] (λtH=>.ax tH (rV Z Y) 45) (λtH=>jB 3 [4] (λwQ=>.ax wQ (rZ) 45) (λwQ=>NN (ak.seq ?_)))))
 by_cases hf:(Z.us.length:Int)<Z.cH
 ·refine ak.tj (S:=[.ax tH (rV Z Y) 45]) (Bg [0,1,2,3,4,5,6,7,8] (oJ 14 [(false,15),(false,16),(false,17)] [(false,9),(true,10),(true,11),(true,12),(true,13)])) [1] (gT (oJ 14 [(false,15),(false,16),(false,17)] [(false,9),(true,10),(true,11),(true,12),(true,13)]) (ae2 tH wQ Z Y k) [0,1,2,3,4,5,6,7,8] [(1,A_ 0 tH 4),(4,a_ 0 tH),(6,x_ k Z.ns.length (aN.hd hR.n (i:=k) zc)),(8,r_ (aN.rd hR.n (i:=k) zc (j:=0) rfl))] (qu.one (j:=14) (dj:=7) (R:=λf_ l_=>∃A1:Option Addr,∃c1:Nat,∃B1:Option Addr,∃d1:Nat,f_=[(23,vI 0),(22,vI ((aD.aP Z.us))),(21,.agg #[vI (Z.cH),vI ((max Z.aI ((Z.us.length:Int)+1))),.slice A1 ((ins (aD.aP Z.us) (nd Z.ns k).id Z.us).length) (c1),.slice B1 ((ins (aD.aP Z.us) (nd Z.ns k).id Z.us).length) (d1)]),(10,.tuple #[.agg #[vI (Z.cH),vI ((max Z.aI ((Z.us.length:Int)+1))),.slice A1 ((ins (aD.aP Z.us) (nd Z.ns k).id Z.us).length) (c1),.slice B1 ((ins (aD.aP Z.us) (nd Z.ns k).id Z.us).length) (d1)],vI ((aD.aP Z.us)),vI 0]),(20,.tuple #[.agg #[vI (Z.cH),vI ((max Z.aI ((Z.us.length:Int)+1))),.slice A1 ((ins (aD.aP Z.us) (nd Z.ns k).id Z.us).length) (c1),.slice B1 ((ins (aD.aP Z.us) (nd Z.ns k).id Z.us).length) (d1)],vI ((aD.aP Z.us)),vI 0]),(2,vP tH),(4,vP wQ),(12,.agg #[vI (Z.cH),vI (Z.aI),.slice Y.H (Z.us.length) (Y.ch),.slice Y.V (Z.us.length) (Y.cv)]),(19,vI ((nd Z.ns k).id))]/\l_=[zT4 A1 Z k c1,zT5 B1 Z k d1]) [1] [(false,9,20),(true,10,10),(true,11,21),(true,12,22),(true,13,23)] (kG.of (ι:=Nat) (v:=λ(uP:Nat)=>vP uP) (l:=λ(uP:Nat)=>[.ax uP [vI 0,vI 0,.slice none (0) (0),.slice none (0) (0)] 43]) [20,10,21,22,23] rfl rfl rfl rfl ?_) ?_ ?_))
  ·intro u Aq
   exact jB 1 [7] (λuP=>.ax uP [vI 0,vI 0,.slice none (0) (0),.slice none (0) (0)] 43) (λuP=>NL (MD uP [7,20,10,21,22,23,2,4,12,19] [1,0]))
  ·refine eY.step (kG.of (ι:=(Option Addr)×Nat×(Option Addr)×Nat) (v:=λ((A1,c1,B1,d1):(Option Addr)×Nat×(Option Addr)×Nat)=>.tuple #[.agg #[vI (Z.cH),vI ((max Z.aI ((Z.us.length:Int)+1))),.slice A1 ((ins (aD.aP Z.us) (nd Z.ns k).id Z.us).length) (c1),.slice B1 ((ins (aD.aP Z.us) (nd Z.ns k).id Z.us).length) (d1)],vI ((aD.aP Z.us)),vI 0]) (l:=λ((A1,c1,B1,d1):(Option Addr)×Nat×(Option Addr)×Nat)=>[zT4 A1 Z k c1,zT5 B1 Z k d1]) [7] rfl rfl rfl rfl ?_) ?_
   ·intro u Aq
    refine gL [] (adB Z.cH Z.aI Y.H Y.V Y.ch Y.cv Z.us hR.h hR.v (by have:=hC.us;omega) hC.usr hC.yE (nd Z.ns k).id hf) ?_
    rintro _ _ ⟨A1,c1,B1,d1,rfl,rfl⟩
    exact NL (MD (A1,c1,B1,d1) [20,7,2,4,12,19] [0,1,2])
   rintro _ _ ⟨⟨A1,c1,B1,d1⟩,rfl,rfl⟩
   exact (eY.read (.tuple #[.agg #[vI (Z.cH),vI ((max Z.aI ((Z.us.length:Int)+1))),.slice A1 ((ins (aD.aP Z.us) (nd Z.ns k).id Z.us).length) (c1),.slice B1 ((ins (aD.aP Z.us) (nd Z.ns k).id Z.us).length) (d1)],vI ((aD.aP Z.us)),vI 0]) (eY.read (.agg #[vI (Z.cH),vI ((max Z.aI ((Z.us.length:Int)+1))),.slice A1 ((ins (aD.aP Z.us) (nd Z.ns k).id Z.us).length) (c1),.slice B1 ((ins (aD.aP Z.us) (nd Z.ns k).id Z.us).length) (d1)]) (eY.read (.int .i64 ((aD.aP Z.us))) (eY.read (.int .i64 0) ⟨A1,c1,B1,d1,rfl,rfl⟩))))
  rintro _ _ ⟨A1,c1,B1,d1,rfl,rfl⟩ _ _ ⟨uP,rfl,rfl⟩
  refine kC [4] [] [(0,A_ 2 uP 4)] [(2,[(0,vI (Z.cH)),(1,vI ((max Z.aI ((Z.us.length:Int)+1)))),(2,.slice A1 ((ins (aD.aP Z.us) (nd Z.ns k).id Z.us).length) (c1)),(3,.slice B1 ((ins (aD.aP Z.us) (nd Z.ns k).id Z.us).length) (d1))])] (eH.cut (ι:=Unit) (bL:=λ(_:Unit)=>[(2,vP tH),(4,vP wQ),(7,vP uP),(8,vI (aD.aP Z.us)),(23,vI 0)]) (cR:=λ(_:Unit)=>([zT4 A1 Z k c1,zT5 B1 Z k d1,zT6 uP Z A1 k c1 B1 d1,.abs R]++qX tH Z Y wQ)) [4] KB ?_ rfl (λ_=>KB) ?_)
  ·exact jK 1 [8] [] (NL (MD () [2,4,7,8,23] [0,1,2,3,4,5]))
  rintro _
  refine eH.last KB (jK 1 [9] [] (NL (ay.np (NX (SR (ar.nw (Φ:=λβ'=>cA β' A1 (bH (aY (ins (aD.aP Z.us) (nd Z.ns k).id Z.us)))) 0 [1,2,3,4,5] (eX:=([zT5 B1 Z k d1,zT6 uP Z A1 k c1 B1 d1,.abs R]++qX tH Z Y wQ)) rfl rfl KB (λF w h β' h1 h2=>cA.iM h h1 h2) (λβ1 cD hH=>?_)))))))
  replace hR:=hR.le cD
  replace av:=av.trans cD
  refine ar.nw (Φ:=λβ'=>cA β' B1 (bH (ja (ins (aD.aP Z.us) (nd Z.ns k).id Z.us)))) 0 [1,2,3,4] (eX:=([zT6 uP Z A1 k c1 B1 d1,.abs R]++qX tH Z Y wQ)) rfl rfl KB (λF w h β' h1 h2=>cA.iM h h1 h2) (λox fo hV=>?_)
  replace hR:=hR.le fo
  replace hH:=hH.le fo
  replace av:=av.trans fo
  exact jC 3 [] [(0,A_ 0 uP 4),(2,A_ 2 tH 4)] [(2,(ae3 Z A1 k c1 B1 d1))] (NS (jC 6 [5,6] [(0,A_ 2 tH 12),(3,A_ 3 wQ 12)] [(3,([(0,.slice Y.A (Z.ns.length) (Y.c)),(1,.slice Y.G (Z.aE.length) (Y.cg)),(2,vI (Z.cH))]++ae3 Z A1 k c1 B1 d1++zT8 Z))] (eO [A_ 3 wQ 12] av ⟨⟨Y.A,Y.c,Y.L,Y.G,Y.cg,A1,c1,B1,d1⟩,by rw [QO hf]<;>rfl,rfl,by rw [QO hf];exact⟨⟨hR.g,hH,hV⟩,hR.n⟩⟩ [1])))
 refine ak.tj (S:=[.ax tH (rV Z Y) 45]) (Bg [0,1,2,3,4,5,6,7,8] (oJ 14 [(false,15),(false,16),(false,17)] [(false,9),(true,10),(true,11),(true,12),(true,13)])) [1] (gT (oJ 14 [(false,15),(false,16),(false,17)] [(false,9),(true,10),(true,11),(true,12),(true,13)]) (ae2 tH wQ Z Y k) [0,1,2,3,4,5,6,7,8] [(1,A_ 0 tH 4),(4,a_ 0 tH),(6,x_ k Z.ns.length (aN.hd hR.n (i:=k) zc)),(8,r_ (aN.rd hR.n (i:=k) zc (j:=0) rfl))] (qu.one (j:=14) (dj:=7) (R:=λf_ l_=>f_=[(23,vI 130),(22,vI 0),(21,.agg #[vI (Z.cH),vI (Z.aI),.slice Y.H (Z.us.length) (Y.ch),.slice Y.V (Z.us.length) (Y.cv)]),(10,.tuple #[.agg #[vI (Z.cH),vI (Z.aI),.slice Y.H (Z.us.length) (Y.ch),.slice Y.V (Z.us.length) (Y.cv)],vI 0,vI 130]),(20,.tuple #[.agg #[vI (Z.cH),vI (Z.aI),.slice Y.H (Z.us.length) (Y.ch),.slice Y.V (Z.us.length) (Y.cv)],vI 0,vI 130]),(2,vP tH),(4,vP wQ),(12,.agg #[vI (Z.cH),vI (Z.aI),.slice Y.H (Z.us.length) (Y.ch),.slice Y.V (Z.us.length) (Y.cv)]),(19,vI ((nd Z.ns k).id))]/\l_=[]) [1] [(false,9,20),(true,10,10),(true,11,21),(true,12,22),(true,13,23)] (kG.of (ι:=Nat) (v:=λ(yX:Nat)=>vP yX) (l:=λ(yX:Nat)=>[.ax yX [vI 0,vI 0,.slice none (0) (0),.slice none (0) (0)] 43]) [20,10,21,22,23] rfl rfl rfl rfl ?_) ?_ ?_))
 ·intro u Aq
  exact jB 1 [7] (λyX=>.ax yX [vI 0,vI 0,.slice none (0) (0),.slice none (0) (0)] 43) (λyX=>NL (MD yX [7,20,10,21,22,23,2,4,12,19] [1,0]))
 ·refine eY.step (kG.of (ι:=Unit) (v:=λ(_:Unit)=>.tuple #[.agg #[vI (Z.cH),vI (Z.aI),.slice Y.H (Z.us.length) (Y.ch),.slice Y.V (Z.us.length) (Y.cv)],vI 0,vI 130]) (l:=λ(_:Unit)=>[]) [7] rfl rfl rfl rfl ?_) ?_
  ·intro u Aq
   exact gE [] (aaN Z.cH Z.aI Y.H Y.V Y.ch Y.cv Z.us (nd Z.ns k).id zc) (NL (MD () [20,7,2,4,12,19] [0]))
  rintro _ _ ⟨_,rfl,rfl⟩
  exact (eY.read (.tuple #[.agg #[vI (Z.cH),vI (Z.aI),.slice Y.H (Z.us.length) (Y.ch),.slice Y.V (Z.us.length) (Y.cv)],vI 0,vI 130]) (eY.read (.agg #[vI (Z.cH),vI (Z.aI),.slice Y.H (Z.us.length) (Y.ch),.slice Y.V (Z.us.length) (Y.cv)]) (eY.read (.int .i64 0) (eY.read (.int .i64 130) ⟨rfl,rfl⟩))))
 rintro _ _ ⟨rfl,rfl⟩ _ _ ⟨yX,rfl,rfl⟩
 refine kC [2] [] [(0,A_ 0 yX 4)] [(0,[(0,vI (Z.cH)),(1,vI (Z.aI)),(2,.slice Y.H (Z.us.length) (Y.ch)),(3,.slice Y.V (Z.us.length) (Y.cv))])] (eH.cut (ι:=Unit) (bL:=λ(_:Unit)=>[(2,vP tH),(4,vP wQ),(7,vP yX),(8,vI 0),(23,vI 130)]) (cR:=λ(_:Unit)=>([.ax yX [vI (Z.cH),vI (Z.aI),.slice Y.H (Z.us.length) (Y.ch),.slice Y.V (Z.us.length) (Y.cv)] 43,.abs R]++qX tH Z Y wQ)) [2] KB ?_ rfl (λ_=>KB) ?_)
 ·exact jK 1 [8] [] (NL (MD () [2,4,7,8,23] [0,1,2,3]))
 rintro _
 exact eH.last KB (jK 1 [9] [] (NL (ay.np (NX (SR (jC 3 [] [(0,A_ 0 yX 4),(2,A_ 2 tH 4)] [] (NS (jC 6 [5,6] [(0,A_ 2 tH 12),(3,A_ 3 wQ 12)] [(3,(zC (rV Z Y)))] (eO [A_ 3 wQ 12] av ⟨Y,by rw [TJ hf]<;>rfl,rfl,by rw [TJ hf];exact hR⟩ [1])))))))))
end
section
open Go.RowKit Go.Maps bF aD
section q
variable {β β':Bs} {N:fL} {Q:Post} {e:Exit} {fr:Fr} {au l:List HP}
theorem ay.freeze (R:List HP) (pk:List Nat) (hn:cC pk=true) (hp:cU au pk=some (l++R)) (K:∀β':Bs,β.le β'->qq β R β'->ay β' N Q e fr l):ay β N Q e fr au:=λai w hS=>by
 obtain⟨β',h,_,iA⟩:=(hS.pick hn hp).wY
 exact K β' h.le h ai w iA
variable {P:Program} {ops:Array Oper} {k:Nat}
theorem ar.freeze (R:List HP) (pk:List Nat) (hn:cC pk=true) (hp:cU au pk=some (l++R)) (K:∀β':Bs,β.le β'->qq β R β'->ar P β' N ops k fr l Q):ar P β N ops k fr au Q:=λai w hS=>by
 obtain⟨β',h,_,iA⟩:=(hS.pick hn hp).wY
 exact K β' h.le h ai w iA
theorem ay.cO (ix:List Nat) (R:List HP) (K:∀β':Bs,β.le β'->qq β R β'->ay β' N Q e fr (mo ix au 0)) (hn:cC (oO ix au.length 0++ix)=true:=by kernel_rfl) (hp:cU au (oO ix au.length 0++ix)=some (mo ix au 0++R):=by kernel_rfl):ay β N Q e fr au:=ay.freeze R _ hn hp K
theorem ar.cO (ix:List Nat) (R:List HP) (K:∀β':Bs,β.le β'->qq β R β'->ar P β' N ops k fr (mo ix au 0) Q) (hn:cC (oO ix au.length 0++ix)=true:=by kernel_rfl) (hp:cU au (oO ix au.length 0++ix)=some (mo ix au 0++R):=by kernel_rfl):ar P β N ops k fr au Q:=ar.freeze R _ hn hp K
variable {c:Code}
theorem ak.sK (i:Nat) {e:TypeId} {size n cap:Nat} {A:Option Addr} {xs:List Value} (hp:au[i]?=some (.abs (aF e size A n cap xs))) (hn:0<n) (K:A=some ⟨bG A,bE A,none⟩->ak P β N c fr au Q):ak P β N c fr au Q:=λai w hS=>
 let ⟨_,h⟩:=hS.get hp;K (aF.Jy h hn).1 ai w hS
def acp (N:fL) {ι:Type} (B:ι->Bs) (bO:ι->Prop) (fr:ι->Fr) (hp:ι->List HP):Act->World->Prop:=λa w=>∃i,bO i/\∃ai,a=fB N (fr i) ai/\aR (B i) (hp i) w
theorem ak.Vx {x y:Code} {ι:Type} (B:ι->Bs) (bO:ι->Prop) (bL:ι->Fr) (cR:ι->List HP) (hr:∀i,bO i->ak P (B i) N y (bL i) (cR i) Q) (hf:ak P β N x fr au (Exit.then (acp N B bO bL cR) Q)):ak P β N (.seq x y) fr au Q:=by
 intro ai w hS
 refine wp_seq (ajb (λe a w q=>?_) (hf ai w hS))
 cases e with
 |normal=>
   obtain⟨i,hi,oy,rfl,iA⟩:=q
   exact hr i hi oy w iA
 |exit id=>exact q
 |goto l=>exact q
 |ret=>exact q
 |panic ch=>exact q
 |outgrown=>exact q
theorem ay.zQ {ι:Type} {B:ι->Bs} {bO:ι->Prop} {bL:ι->Fr} {cR:ι->List HP} (i:ι) (hb:B i=β) {aq pk:List Nat} (hi:bO i) (hf:∀ai,kJ fr ai aq=bL i) (hn:cC pk=true) (hp:cU au pk=some (cR i)) :
 ay β N (Exit.then (acp N B bO bL cR) Q) .normal fr au:=λai _ hS=>⟨i,hi,lk fr ai,by rw [og N fr ai aq,hf ai],hb ▸ hS.pick hn hp⟩
end q
section k
variable {P:Program} {β β':Bs} {R R':RS} {f:FuncId} {args:Array Value} {x:Value} {ns ns':List aL} {L:eP} {A B G H V:Option Addr} {c cb cg ch cv d k to:Nat} {n:aL} {bs ds:List UInt8} {name aB:ByteArray} {c0:aH}
structure BD (β:Bs) (R:RS) (L:eP) (H V:Option Addr) (k:Nat):Prop where
 data:∀i,i<R.ns.length->i≠k->bp β (L.dA i) (nd R.ns i).data
 ah:∀i,i<R.ns.length->cT β (L.eA i) (nd R.ns i).ah
 h:cA β H (bH (aY R.us))
 v:cA β V (bH (ja R.us))
theorem BD.le (h:BD β R L H V k) (dL:β.le β'):BD β' R L H V k:=⟨λi hi hk=>(h.data i hi hk).le dL,λi hi=>(h.ah i hi).le dL,h.h.le dL,h.v.le dL⟩
theorem BD.at (h:BD β R L H V k) (hA:B=L.dA k) (hd:ds=(nd R.ns k).data) (g:qq β [.abs (aF 95 10 A R.ns.length c (bD L R.ns)),.abs (aF 3 1 G R.aE.length cg (bH R.aE)),.abs (aF 5 1 B ds.length cb (dQ ds))] β'):dF β' R ⟨A,c,L,G,cg,H,ch,V,cv⟩:=by
 obtain⟨F,h1,h2⟩:=g.get 0 rfl
 obtain⟨F2,g1,g2⟩:=g.get 1 rfl
 obtain⟨F3,k1,k2⟩:=g.get 2 rfl
 have h':=h.le g.le
 refine⟨⟨cA.iM g1 g2 rfl,h'.h,h'.v⟩,cA.iM h1 h2 rfl,λi hi=>?_,h'.ah⟩
 by_cases e:i=k
 ·subst e;rw [←hA,←hd];exact cA.iM k1 k2 rfl
 exact h'.data i hi e
theorem Jb (h:BD β R L H V k) (hA:B=L.dA k) (hd:ds=(nd R.ns k).data) (hs:∀β',β.le β'->dF β' R ⟨A,c,L,G,cg,H,ch,V,cv⟩->aU P β' f args [] (λv l=>v=x/\l=[])) :
 aU P β f args [.abs (aF 95 10 A R.ns.length c (bD L R.ns)),.abs (aF 3 1 G R.aE.length cg (bH R.aE)),.abs (aF 5 1 B ds.length cb (dQ ds))] (λv l=>v=x/\l=[.abs (aF 95 10 A R.ns.length c (bD L R.ns)),.abs (aF 3 1 G R.aE.length cg (bH R.aE)),.abs (aF 5 1 B ds.length cb (dQ ds))]):=
 (aU.wY (pre:=[]) (R:=[.abs (aF 95 10 A R.ns.length c (bD L R.ns)),.abs (aF 3 1 G R.aE.length cg (bH R.aE)),.abs (aF 5 1 B ds.length cb (dQ ds))]) (λβ' g=>hs β' g.le (h.at hA hd g))).mono (by rintro v l ⟨l0,⟨rfl,rfl⟩,rfl⟩;exact⟨rfl,rfl⟩)
theorem BD.set (h:BD β R L H V k) (hk:k<R.ns.length) (hn:R'.ns=R.ns.set k n) (he:n.ah=(nd R.ns k).ah) (hu:R'.us=R.us):BD β R' (L.dat k B c) H V k:=by
 refine⟨λi hi hk2=>?_,λi hi=>?_,by rw [hu];exact h.h,by rw [hu];exact h.v⟩
 ·rw [hn,aix] at hi
  rw [hn,qN hk,aij hk2]
  show bp β (if i=k then B else L.dA i) _
  rw [aij hk2];exact h.data i hi hk2
 rw [hn,aix] at hi
 rw [hn,qN hk]
 by_cases e:i=k
 ·rw [aik e,he];subst e;exact h.ah i hi
 rw [aij e];exact h.ah i hi
theorem TK {m:Nat} (h:ds.length=m):bs.length+m=(bs++ds).length:=by rw [ait,h]
theorem X5 {m:Nat} (h:ds.length=m):HP.abs (aF 5 1 B (bs.length+m) c (dQ bs++dQ ds))=HP.abs (aF 5 1 B (bs++ds).length c (dQ (bs++ds))):=by
 grind [TK,dQ]
theorem aa0:(L.dat k B c).dA k=B:=aik rfl
theorem adG {s z:Int} (hk:k<ns.length) (h:ns'=ns.set k {nd ns k with data:=ds,aT:=s,aJ:=z}) :
 HP.abs (aF 95 10 A ns.length c ((((bD L ns).set (k*10+7) (.slice B ds.length cb)).set (k*10+5) (.int .i64 s)).set (k*10+5+1) (.int .i64 z)))=HP.abs (aF 95 10 A ns'.length c (bD (L.dat k B cb) ns')):=by
 rw [Vw hk,CW (by rw [aix];exact hk),qN hk,aik rfl,List.set_set,h,aix]
def kB (R:RS) (bs:List UInt8):Nat:=(min (bs.length:Int) (R.cB-(fM R.ns R.ns.length:Int))).toNat
def GN (R:RS) (k:Nat) (bs:List UInt8):RS:={R with ns:=R.ns.set k {nd R.ns k with data:=(nd R.ns k).data++bs.take (kB R bs),aT:=R.cS,aJ:=R.cZ}}
theorem X6 (h:(bs.length:Int)=0):jV R k bs=(R,0,0):=aik (aiZ zc)
theorem X7 (h:¬(bs.length:Int)=0) (h2:R.cB-(fM R.ns R.ns.length:Int)<=0):jV R k bs=(R,0,176):=(aij (λe=>h (by rw [e];rfl))).trans (aik h2)
theorem X8 (h:¬(bs.length:Int)=0) (h2:¬R.cB-(fM R.ns R.ns.length:Int)<=0):jV R k bs=(GN R k bs,(kB R bs:Int),0):=(aij (λe=>h (by rw [e];rfl))).trans (aij h2)
theorem agw:(bQ R d name n).1.us=R.us:=by unfold bQ;(repeat' split)<;>rfl
theorem Sn (hk:k<ns.length) {m u g s z:Int}:(((((bD L ns).set (k*10+2) (.int .i64 m)).set (k*10+3) (.int .i64 u)).set (k*10+4) (.int .i64 g)).set (k*10+5) (.int .i64 s)).set (k*10+5+1) (.int .i64 z)=bD L (ns.set k {nd ns k with mode:=m,bg:=u,bh:=g,aT:=s,aJ:=z}):=by
 have e:∀a:aL,k<(ns.set k a).length:=Pe
 rw [sM (n:={nd ns k with mode:=m}) hk Pd (λ_ _ _=>rfl) rfl,
  sM (n:={nd ns k with mode:=m,bg:=u}) (e _) Pd (λ_ _ _=>rfl) (by rw [qN hk,aik rfl];rfl),List.set_set,
  sM (n:={nd ns k with mode:=m,bg:=u,bh:=g}) (e _) Pd (λ_ _ _=>rfl) (by rw [qN hk,aik rfl];rfl),List.set_set,
  CW (e _),qN hk,aik rfl,List.set_set]
def zS (R:RS) (k:Nat) (c:aH):RS:={R with ns:=R.ns.set k {nd R.ns k with mode:=c.mode,bg:=c.bg,bh:=c.bh,aT:=c.aT,aJ:=c.aJ}}
theorem aa1 (hk:k<R.ns.length):HP.abs (aF 95 10 A R.ns.length c ((((((bD L R.ns).set (k*10+2) (.int .i64 c0.mode)).set (k*10+3) (.int .i64 c0.bg)).set (k*10+4) (.int .i64 c0.bh)).set (k*10+5) (.int .i64 c0.aT)).set (k*10+5+1) (.int .i64 c0.aJ)))=HP.abs (aF 95 10 A (zS R k c0).ns.length c (bD L (zS R k c0).ns)):=by
 grind [Sn,zS]
theorem Jc:(zS R k c0).ns.length=R.ns.length:=aix ..
theorem mA.meta (h:mA β R L H V) (hk:k<R.ns.length):mA β (zS R k c0) L H V:=by
 refine⟨λi hi=>?_,λi hi=>?_,h.h,h.v⟩
 ·rw [Jc] at hi
  show bp β _ (nd (R.ns.set k _) i).data
  rw [qN hk]
  by_cases e:i=k
  ·rw [aik e];subst e;exact h.data i hi
  rw [aij e];exact h.data i hi
 rw [Jc] at hi
 show cT β _ (nd (R.ns.set k _) i).ah
 rw [qN hk]
 by_cases e:i=k
 ·rw [aik e];subst e;exact h.ah i hi
 rw [aij e];exact h.ah i hi
theorem X9 {z:Int} (h:iG R c0.aG=.error z):mH R c0=(R,0,z):=by unfold mH;rw [h]
theorem Ya (h:iG R c0.aG=.ok k) (h1:(nd R.ns k).kind=2/\(nd R.ns k).id∈R.aE):mH R c0=(R,0,170):=by unfold mH;rw [h];exact aik h1
theorem Yb (h:iG R c0.aG=.ok k) (h1:¬((nd R.ns k).kind=2/\(nd R.ns k).id∈R.aE)) (h2:¬jX c0.mode):mH R c0=(R,0,120):=by unfold mH;rw [h];exact (aij h1).trans (aij h2)
theorem yZ (h:iG R c0.aG=.ok k) (h1:¬((nd R.ns k).kind=2/\(nd R.ns k).id∈R.aE)) (h2:jX c0.mode) (h3:¬(qH c0.bg/\qH c0.bh)):mH R c0=(R,0,11):=by unfold mH;rw [h];exact (aij h1).trans ((aik h2).trans (aij h3))
theorem Yc (h:iG R c0.aG=.ok k) (h1:¬((nd R.ns k).kind=2/\(nd R.ns k).id∈R.aE)) (h2:jX c0.mode) (h3:qH c0.bg/\qH c0.bh) (h4:¬fU c0.aT c0.aJ):mH R c0=(R,0,20):=by unfold mH;rw [h];exact (aij h1).trans ((aik h2).trans ((aik h3).trans (aij h4)))
theorem Ye (h:iG R c0.aG=.ok k) (h1:¬((nd R.ns k).kind=2/\(nd R.ns k).id∈R.aE)) (h2:jX c0.mode) (h3:qH c0.bg/\qH c0.bh) (h4:fU c0.aT c0.aJ):mH R c0=(zS R k c0,0,0):=by unfold mH;rw [h];exact (aij h1).trans ((aik h2).trans ((aik h3).trans (aik h4)))
theorem KO (h:n.kind=3) (h1:¬lG n.target=0):bQ R d name n=(R,lG n.target):=aik ⟨h,h1⟩
theorem Ow (h:¬(n.kind=3/\lG n.target≠0)) (h1:bV R.ns d name=(k:Int)):bQ R d name n=(R,171):=(aij h).trans (aik (by rw [h1];omega))
theorem GP (h:¬(n.kind=3/\lG n.target≠0)) (h1:bV R.ns d name = -1) (h2:¬wz R):bQ R d name n=(R,177):=(aij h).trans ((aij (by rw [h1];decide)).trans (aij h2))
theorem Ox (h:¬(n.kind=3/\lG n.target≠0)) (h1:bV R.ns d name = -1) (h2:wz R):bQ R d name n=(j3 R d name n,0):=(aij h).trans ((aij (by rw [h1];decide)).trans (aik h2))
variable {b:Bool}
theorem acq (h:bV R.ns d name = -1):iH R d name b=(R,170):=aij (by rw [h];decide)
theorem GQ (h:bV R.ns d name=(k:Int)):iH R d name b=if b=false/\(nd R.ns k).kind=2 then (R,172) else if b=true/\(nd R.ns k).kind≠2 then (R,173) else if b=true/\0<(nd R.ns k).ah.length then (R,178) else (fV (cW R d name true),0):=by
 grind [iH]
theorem ae5 (h:bV R.ns d name=(k:Int)) (h1:b=false/\(nd R.ns k).kind=2):iH R d name b=(R,172):=(GQ h).trans (aik h1)
theorem ae6 (h:bV R.ns d name=(k:Int)) (h1:¬(b=false/\(nd R.ns k).kind=2)) (h2:b=true/\(nd R.ns k).kind≠2):iH R d name b=(R,173):=(GQ h).trans ((aij h1).trans (aik h2))
theorem ae7 (h:bV R.ns d name=(k:Int)) (h1:¬(b=false/\(nd R.ns k).kind=2)) (h2:¬(b=true/\(nd R.ns k).kind≠2)) (h3:b=true/\0<(nd R.ns k).ah.length):iH R d name b=(R,178):=(GQ h).trans ((aij h1).trans ((aij h2).trans (aik h3)))
theorem ae8 (h:bV R.ns d name=(k:Int)) (h1:¬(b=false/\(nd R.ns k).kind=2)) (h2:¬(b=true/\(nd R.ns k).kind≠2)) (h3:¬(b=true/\0<(nd R.ns k).ah.length)):iH R d name b=(fV (cW R d name true),0):=(GQ h).trans ((aij h1).trans ((aij h2).trans (aij h3)))
variable {w:Int}
theorem ae9 {z:Int} (h:ig R c0.aG c0.name 64=.error z):jo R c0 w=(R,0,z):=by unfold jo;rw [h]
theorem afa (h:ig R c0.aG c0.name 64=.ok d) (h1:bV R.ns d c0.name = -1):jo R c0 w=(R,0,170):=by unfold jo;rw [h];exact aij (by rw [h1];decide)
theorem GR (h:ig R c0.aG c0.name 64=.ok d) (h1:bV R.ns d c0.name=(k:Int)):jo R c0 w=if (nd R.ns k).kind=3 then (R,0,174) else if (nd R.ns k).kind≠w then (R,0,if (nd R.ns k).kind=1 then 173 else 172) else lE R k:=by
 grind [jo]
theorem afb (h:ig R c0.aG c0.name 64=.ok d) (h1:bV R.ns d c0.name=(k:Int)) (h2:(nd R.ns k).kind=3):jo R c0 w=(R,0,174):=(GR h h1).trans (aik h2)
theorem afc (h:ig R c0.aG c0.name 64=.ok d) (h1:bV R.ns d c0.name=(k:Int)) (h2:¬(nd R.ns k).kind=3) (h3:¬(nd R.ns k).kind=w) (h4:(nd R.ns k).kind=1):jo R c0 w=(R,0,173):=(GR h h1).trans ((aij h2).trans ((aik h3).trans (by rw [aik h4])))
theorem afd (h:ig R c0.aG c0.name 64=.ok d) (h1:bV R.ns d c0.name=(k:Int)) (h2:¬(nd R.ns k).kind=3) (h3:¬(nd R.ns k).kind=w) (h4:¬(nd R.ns k).kind=1):jo R c0 w=(R,0,172):=(GR h h1).trans ((aij h2).trans ((aik h3).trans (by rw [aij h4])))
theorem afe (h:ig R c0.aG c0.name 64=.ok d) (h1:bV R.ns d c0.name=(k:Int)) (h2:¬(nd R.ns k).kind=3) (h3:(nd R.ns k).kind=w):jo R c0 w=lE R k:=(GR h h1).trans ((aij h2).trans (aij (λq=>q h3)))
theorem aff (h:bV R.ns d name = -1):gY R d name to aB=(R,170):=aij (by rw [h];decide)
def BF (R:RS) (d:Nat) (name:ByteArray) (to:Nat) (aB:ByteArray) (k:Nat) (R1:RS):RS:=fV (dm (cW R1 d name false) to aB (nd R.ns k).id)
theorem GS (h:bV R.ns d name=(k:Int)):gY R d name to aB=if (nd R.ns k).kind=2/\jJ R.ns k (R.ns.length+1) to=true then (R,174) else if bV R.ns to aB=(k:Int) then (R,0) else if 0<=bV R.ns to aB then (if (nd R.ns (bV R.ns to aB).toNat).kind=2 then (R,172) else if (nd R.ns k).kind=2 then (R,173) else (BF R d name to aB k (cW R to aB true),0)) else (BF R d name to aB k R,0):=by
 unfold gY
 rw [aik (by rw [h];omega),h];rfl
variable {t:Nat}
theorem afg (h:bV R.ns d name=(k:Int)) (h1:(nd R.ns k).kind=2/\jJ R.ns k (R.ns.length+1) to=true):gY R d name to aB=(R,174):=(GS h).trans (aik h1)
theorem afh (h:bV R.ns d name=(k:Int)) (h1:¬((nd R.ns k).kind=2/\jJ R.ns k (R.ns.length+1) to=true)) (h2:bV R.ns to aB=(k:Int)):gY R d name to aB=(R,0):=(GS h).trans ((aij h1).trans (aik h2))
theorem ahj (h:bV R.ns d name=(k:Int)) (h1:¬((nd R.ns k).kind=2/\jJ R.ns k (R.ns.length+1) to=true)) (h2:bV R.ns to aB = -1):gY R d name to aB=(BF R d name to aB k R,0):=(GS h).trans ((aij h1).trans ((aij (by rw [h2];omega)).trans (aij (by rw [h2];decide))))
theorem aa2 (h:bV R.ns d name=(k:Int)) (h1:¬((nd R.ns k).kind=2/\jJ R.ns k (R.ns.length+1) to=true)) (h2:bV R.ns to aB=(t:Int)) (h3:¬(t:Int)=(k:Int)):gY R d name to aB=if (nd R.ns t).kind=2 then (R,172) else if (nd R.ns k).kind=2 then (R,173) else (BF R d name to aB k (cW R to aB true),0):=by
 grind [GS]
theorem afi (h:bV R.ns d name=(k:Int)) (h1:¬((nd R.ns k).kind=2/\jJ R.ns k (R.ns.length+1) to=true)) (h2:bV R.ns to aB=(t:Int)) (h3:¬(t:Int)=(k:Int)) (h4:(nd R.ns t).kind=2):gY R d name to aB=(R,172):=(aa2 h h1 h2 h3).trans (aik h4)
theorem afj (h:bV R.ns d name=(k:Int)) (h1:¬((nd R.ns k).kind=2/\jJ R.ns k (R.ns.length+1) to=true)) (h2:bV R.ns to aB=(t:Int)) (h3:¬(t:Int)=(k:Int)) (h4:¬(nd R.ns t).kind=2) (h5:(nd R.ns k).kind=2):gY R d name to aB=(R,173):=(aa2 h h1 h2 h3).trans ((aij h4).trans (aik h5))
theorem ahk (h:bV R.ns d name=(k:Int)) (h1:¬((nd R.ns k).kind=2/\jJ R.ns k (R.ns.length+1) to=true)) (h2:bV R.ns to aB=(t:Int)) (h3:¬(t:Int)=(k:Int)) (h4:¬(nd R.ns t).kind=2) (h5:¬(nd R.ns k).kind=2):gY R d name to aB=(BF R d name to aB k (cW R to aB true),0):=(aa2 h h1 h2 h3).trans ((aij h4).trans (aij h5))
noncomputable def Jd (R:RS) (c:aH) (d:Nat) (n:aL):xH:=if (bQ R d c.name n).2=0/\c.op=5 then lE (bQ R d c.name n).1 ((bQ R d c.name n).1.ns.length-1) else ((bQ R d c.name n).1,0,(bQ R d c.name n).2)
theorem Vy (h:c0.op=8\/c0.op=14):iI R c0 d=((iH R d c0.name (decide (c0.op=14))).1,0,(iH R d c0.name (decide (c0.op=14))).2):=aik h
theorem ahl (h:¬(c0.op=8\/c0.op=14)) (h1:c0.op=6):iI R c0 d=Jd R c0 d ⟨0,3,511,0,0,0,0,[],c0.text,[]⟩:=((aij h).trans (aik h1)).trans (aij (λq=>by have:=q.2;omega)).symm
theorem afk (h:¬(c0.op=8\/c0.op=14)) (h1:¬c0.op=6) (h2:¬jX c0.mode):iI R c0 d=(R,0,120):=(aij h).trans ((aij h1).trans (aij h2))
theorem ahm (h:¬(c0.op=8\/c0.op=14)) (h1:¬c0.op=6) (h2:jX c0.mode) (h3:c0.op=5):iI R c0 d=Jd R c0 d ⟨0,1,c0.mode,0,0,0,0,[],⟨#[]⟩,[]⟩:=by
 refine ((aij h).trans ((aij h1).trans ((aik h2).trans (aik h3)))).trans ?_
 unfold Jd
 grind
theorem ahn (h:¬(c0.op=8\/c0.op=14)) (h1:¬c0.op=6) (h2:jX c0.mode) (h3:¬c0.op=5):iI R c0 d=Jd R c0 d ⟨0,2,c0.mode,0,0,0,0,[],⟨#[]⟩,[]⟩:=((aij h).trans ((aij h1).trans ((aik h2).trans (aij h3)))).trans (aij (λq=>h3 q.2)).symm
theorem KP (h:¬((bQ R d c0.name n).2=0/\c0.op=5)):Jd R c0 d n=((bQ R d c0.name n).1,0,(bQ R d c0.name n).2):=aij h
theorem TL (h:(bQ R d c0.name n).2=0) (h1:c0.op=5):Jd R c0 d n=lE (bQ R d c0.name n).1 ((bQ R d c0.name n).1.ns.length-1):=aik ⟨h,h1⟩
theorem Yf (h:(bQ R d name n).2=0):(bQ R d name n).1.ns.length=R.ns.length+1:=by
 unfold bQ at h ⊢
 split
 ·grind
 rename_i q
 rw [aij q] at h
 split
 ·grind
 rename_i q2
 rw [aij q2] at h
 split
 ·show (_++_:List aL).length=_
  grind [Dv]
 grind
theorem aa3 (h:c0.op=1):cq R c0=if 0<=gF R.ns c0.other then (if (nd R.ns (bY R.ns c0.other)).kind=2 then lE R (bY R.ns c0.other) else (R,0,173)) else (R,0,141):=aik h
theorem acr (h:c0.op=1) (h1:gF R.ns c0.other = -1):cq R c0=(R,0,141):=(aa3 h).trans (aij (by rw [h1];decide))
theorem acs (h:c0.op=1) (h1:0<=gF R.ns c0.other) (h2:¬(nd R.ns (bY R.ns c0.other)).kind=2):cq R c0=(R,0,173):=(aa3 h).trans ((aik h1).trans (aij h2))
theorem acu (h:c0.op=1) (h1:0<=gF R.ns c0.other) (h2:(nd R.ns (bY R.ns c0.other)).kind=2):cq R c0=lE R (bY R.ns c0.other):=(aa3 h).trans ((aik h1).trans (aik h2))
theorem afl (h:c0.op=2):cq R c0=jo R c0 2:=by unfold cq;rw [aij zc,aik h]
theorem afm (h:c0.op=3):cq R c0=jo R c0 1:=by unfold cq;rw [aij zc,aij zc,aik h]
abbrev KQ (n:Int):Prop:=n=4\/n=5\/n=6\/n=8\/n=14
theorem afn (h:KQ c0.op):cq R c0=match ig R c0.aG c0.name 192 with|.error e=>(R,0,e)|.ok d=>iI R c0 d:=by unfold cq;rw [aij zc,aij zc,aij zc,aik h];rfl
theorem acv {z:Int} (h:KQ c0.op) (h1:ig R c0.aG c0.name 192=.error z):cq R c0=(R,0,z):=by rw [afn h,h1]
theorem acw (h:KQ c0.op) (h1:ig R c0.aG c0.name 192=.ok d):cq R c0=iI R c0 d:=by rw [afn h,h1]
theorem afo (h:c0.op=7):cq R c0=wC R c0:=by unfold cq;rw [aij zc,aij zc,aij zc,aij zc,aik h]
theorem acy {z:Int} (h:c0.op=7) (h1:qV R c0 64=.error z):cq R c0=(R,0,z):=by rw [afo h];unfold wC;rw [h1]
theorem acz (h:c0.op=7) (h1:qV R c0 64=.ok (d,to)):cq R c0=if 0<=bV R.ns d c0.name then (if (nd R.ns (bV R.ns d c0.name).toNat).kind=2 then (R,0,172) else if 0<=bV R.ns to c0.text then (R,0,171) else if (dI R.ns R.ns.length:Int)<8192 then (dm R to c0.text (nd R.ns (bV R.ns d c0.name).toNat).id,0,0) else (R,0,177)) else (R,0,170):=by rw [afo h];unfold wC;rw [h1]
theorem acA (h:c0.op=7) (h1:qV R c0 64=.ok (d,to)) (h2:bV R.ns d c0.name = -1):cq R c0=(R,0,170):=(acz h h1).trans (aij (by rw [h2];decide))
theorem Oy (h:c0.op=7) (h1:qV R c0 64=.ok (d,to)) (h2:bV R.ns d c0.name=(k:Int)):cq R c0=if (nd R.ns k).kind=2 then (R,0,172) else if 0<=bV R.ns to c0.text then (R,0,171) else if (dI R.ns R.ns.length:Int)<8192 then (dm R to c0.text (nd R.ns k).id,0,0) else (R,0,177):=by
 refine (acz h h1).trans ((aik (by rw [h2];omega)).trans ?_)
 rw [h2];rfl
theorem acB (h:c0.op=7) (h1:qV R c0 64=.ok (d,to)) (h2:bV R.ns d c0.name=(k:Int)) (h3:(nd R.ns k).kind=2):cq R c0=(R,0,172):=(Oy h h1 h2).trans (aik h3)
theorem acC (h:c0.op=7) (h1:qV R c0 64=.ok (d,to)) (h2:bV R.ns d c0.name=(k:Int)) (h3:¬(nd R.ns k).kind=2) (h4:bV R.ns to c0.text=(t:Int)):cq R c0=(R,0,171):=(Oy h h1 h2).trans ((aij h3).trans (aik (by rw [h4];omega)))
theorem acD (h:c0.op=7) (h1:qV R c0 64=.ok (d,to)) (h2:bV R.ns d c0.name=(k:Int)) (h3:¬(nd R.ns k).kind=2) (h4:bV R.ns to c0.text = -1) (h5:¬(dI R.ns R.ns.length:Int)<8192):cq R c0=(R,0,177):=(Oy h h1 h2).trans ((aij h3).trans ((aij (by rw [h4];decide)).trans (aij h5)))
theorem acE (h:c0.op=7) (h1:qV R c0 64=.ok (d,to)) (h2:bV R.ns d c0.name=(k:Int)) (h3:¬(nd R.ns k).kind=2) (h4:bV R.ns to c0.text = -1) (h5:(dI R.ns R.ns.length:Int)<8192):cq R c0=(dm R to c0.text (nd R.ns k).id,0,0):=(Oy h h1 h2).trans ((aij h3).trans ((aij (by rw [h4];decide)).trans (aik h5)))
theorem aa4 (h:c0.op=9):cq R c0=match iG R c0.aG with|.error e=>(R,0,e)|.ok k=>if (nd R.ns k).kind=2 then (R,0,172) else jV R k c0.data:=by unfold cq;rw [aij zc,aij zc,aij zc,aij zc,aij zc,aik h];rfl
theorem acF {z:Int} (h:c0.op=9) (h1:iG R c0.aG=.error z):cq R c0=(R,0,z):=by rw [aa4 h,h1]
theorem acG (h:c0.op=9) (h1:iG R c0.aG=.ok k) (h2:(nd R.ns k).kind=2):cq R c0=(R,0,172):=by rw [aa4 h,h1];exact aik h2
theorem acH (h:c0.op=9) (h1:iG R c0.aG=.ok k) (h2:¬(nd R.ns k).kind=2):cq R c0=jV R k c0.data:=by rw [aa4 h,h1];exact aij h2
theorem acI (h:c0.op=10):cq R c0=mH R c0:=by unfold cq;rw [aij zc,aij zc,aij zc,aij zc,aij zc,aij zc,aik h]
theorem acJ (h:c0.op=13):cq R c0=if c0.aG∈aY R.us then (fV {R with us:=del c0.aG R.us},0,0) else (fV R,0,131):=by unfold cq;rw [aij zc,aij zc,aij zc,aij zc,aij zc,aij zc,aij zc,aik h]
theorem Yg (h:c0.op=13) (h1:c0.aG∈aY R.us):cq R c0=(fV {R with us:=del c0.aG R.us},0,0):=(acJ h).trans (aik h1)
theorem Yh (h:c0.op=13) (h1:c0.aG∉aY R.us):cq R c0=(fV R,0,131):=(acJ h).trans (aij h1)
theorem acK (h:c0.op=15):cq R c0=match qV R c0 192 with|.error e=>(R,0,e)|.ok (f,to)=>((gY R f c0.name to c0.text).1,0,(gY R f c0.name to c0.text).2):=by unfold cq;rw [aij zc,aij zc,aij zc,aij zc,aij zc,aij zc,aij zc,aij zc,aik h];rfl
theorem Yi {z:Int} (h:c0.op=15) (h1:qV R c0 192=.error z):cq R c0=(R,0,z):=by rw [acK h,h1]
theorem Yj (h:c0.op=15) (h1:qV R c0 192=.ok (d,to)):cq R c0=((gY R d c0.name to c0.text).1,0,(gY R d c0.name to c0.text).2):=by rw [acK h,h1]
theorem acL (h:¬(1<=c0.op/\c0.op<=10\/13<=c0.op/\c0.op<=15)):cq R c0=(R,0,230):=by unfold cq;rw [aij zc,aij zc,aij zc,aij zc,aij zc,aij zc,aij zc,aij zc,aij zc]
end k
end
section
open Go.RowKit Go.Maps bF aD
attribute [local irreducible] ar bN ak ay eH
noncomputable abbrev TM (Y:RL) (k:Nat) (Z:RS):=(.abs (aF 5 1 (Y.L.dA k) ((nd Z.ns k).data.length) (Y.L.dC k) (dQ (nd Z.ns k).data)):HP)
noncomputable abbrev zU2 (b11:Nat) (b12:Nat):=([(4,vP b11),(8,vP b12)]:Fr)
theorem Je {β:Bs} (Z:RS) (Y:RL) (k:Nat) (hI:BD β Z Y.L Y.H Y.V k) (hC:RC Z) (hk:k<Z.ns.length) (dA:Option Addr) (dC:Nat) (bs:List UInt8) (hbs:bp β dA bs) (hbl:bs.length<=140737488355328) (hbc:bs.length<=dC) :
 bU Tryz.prog β 83 #[.agg ⟨rV Z Y⟩,vI (((k:Nat):Int)),.slice dA (bs.length) (dC)] [gZ Y Z,gI Y Z,TM Y k Z] (λβ' v l=>∃Y',v=.tuple #[.agg ⟨rV ((jV Z k bs).1) Y'⟩,vI (jV Z k bs).2.1,vI (jV Z k bs).2.2]/\l=[]/\dF β' (jV Z k bs).1 Y'):=by
 refine mM Tryz.func83 Tryz.ntmps83 (λav R=>SR (jB 1 [3] (λb1=>.ax b1 (rV Z Y) 45) (λb1=>jB 3 [6] (λb2=>.ax b2 (rZ) 45) (λb2=>NZ (jK 3 [13] [] (NN (cP ((((bs.length:Nat):Int):Int)=(0:Int)) (λtL=>?_) (λtL=>?_))))))))
 ·refine SR (jC 4 [7,8] [(0,A_ 4 b1 12),(1,A_ 5 b2 12)] [(5,(zC (rV Z Y)))] (NN (ak.ret (ay.bB (ay.cO [0,1,2] [gZ Y Z,gI Y Z,TM Y k Z] (λyV iq hL=>?_))))))
  have fH:dF yV Z Y:=hI.at rfl rfl hL
  replace av:=av.trans iq
  exact rB _ [A_ 2 b2 12] [0] av (⟨Y,by rw [X6 tL]<;>rfl,rfl,by rw [X6 tL];exact fH⟩)
 refine KX (ak.seq (rQ (jQ 4 [17,18] [(2,a_ 4 b1),(3,A_ 4 b1 12)] (mY (pre:=[gZ Y Z,gI Y Z,TM Y k Z]) [0,1,2] [0,1,2,3,4,5] (.int .i64 ↑(fM Z.ns Z.ns.length)) (Jb hI rfl rfl (λ_ _ h=>aaM Z Y h hC.toRB)) (jQ 2 [9] [(0,w_ (.int .i64 ((Z.cB-((fM Z.ns Z.ns.length):Int)))) (vV rfl (by have:=hC.cap;have:=hC.dat;omega) (by have:=hC.cap;omega)))] (NQ (NX (SQ (jK 2 [22] [] (NN (cP (((Z.cB-((fM Z.ns Z.ns.length):Int)):Int)<=(0:Int)) (λsU=>?_) (λsU=>?_))))))))))))
 ·refine SR (jC 4 [7,8] [(0,A_ 4 b1 12),(1,A_ 5 b2 12)] [(5,(zC (rV Z Y)))] (NN (ak.ret (ay.bB (ay.cO [0,1,2] [gZ Y Z,gI Y Z,TM Y k Z] (λDw kP hL=>?_))))))
  have fH:dF Dw Z Y:=hI.at rfl rfl hL
  replace av:=av.trans kP
  exact rB _ [A_ 2 b2 12] [0] av (⟨Y,by rw [X7 tL sU]<;>rfl,rfl,by rw [X7 tL sU];exact fH⟩)
 refine KX (SR (jK 3 [10] [] (NN (ak.join (λ(u:Unit)=>True) (λ(u:Unit)=>[(1,vI ↑k),(2,.slice dA (bs.length) (dC)),(3,vP b1),(6,vP b2),(10,vI ↑(kB Z bs))]) (λ(u:Unit)=>([gZ Y Z,gI Y Z,TM Y k Z,.abs R]++qX b1 Z Y b2)) ?_ (SR (jK 3 [28] [] (NN (cP ((((bs.length:Nat):Int):Int)>((Z.cB-((fM Z.ns Z.ns.length):Int)):Int)) (λwH=>ak.region (jK 2 [10] [] (NL (ay.slot 10 (vI ((Z.cB-((fM Z.ns Z.ns.length):Int)))) (.int .i64 ↑(kB Z bs)) (λ_=>KB) (ail (Value.int .i64) (by unfold kB;omega)) (mJ () [0,1,2,3,4,5] (trivial)))))) (λwH=>ak.skip (ay.slot 10 (vI ↑bs.length) (.int .i64 ↑(kB Z bs)) (λ_=>KB) (ail (Value.int .i64) (by unfold kB;omega)) (mJ () [0,1,2,3,4,5] (trivial))))))))))))
 rintro u _
 refine ak.seq ?_
 have hml:(bs.take (kB Z bs)).length=kB Z bs:=by grind [kB]
 have hdk:=QM (ns:=Z.ns) Z.ns.length hk
 have hmb:kB Z bs<=bs.length:=by unfold kB;omega
 have hmr:(kB Z bs:Int)<=Z.cB-(fM Z.ns Z.ns.length:Int):=by unfold kB;omega
 have hcb:=hC.cap
 refine ak.sK 0 rfl zc (λmg=>?_)
 refine jM [0,1,2,3,4,5,6,7,8,9,10,11,12,13,514,15,16,517] [4,0] (jG 14 [1,3,6,10,32,33,40,43] [(2,a_ 0 b1),(6,a_ 0 b1),(8,x_ k Z.ns.length (mg)),(10,v_ 1 (nA Z.ns Y.L Y.A Y.c k 7 hk rfl)),(13,xP (kB Z bs) ((kB Z bs)<=dC))] (eH.cut (ι:=(Option Addr)×Nat) (bL:=λ((A5,c6):(Option Addr)×Nat)=>[(1,vI ↑k),(3,vP b1),(6,vP b2),(10,vI ↑(kB Z bs)),(32,.slice Y.A (Z.ns.length) (Y.c)),(33,vI ↑k),(44,.slice A5 (((nd Z.ns k).data++bs.take (kB Z bs)).length) (c6))]) (cR:=λ((A5,c6):(Option Addr)×Nat)=>([gZ Y Z,gI Y Z,.abs (aF 5 1 A5 (((nd Z.ns k).data++bs.take (kB Z bs)).length) c6 (dQ ((nd Z.ns k).data++bs.take (kB Z bs)))),.abs R]++qX b1 Z Y b2)) [4,0] KB ?_ rfl (λ_=>KB) ?_))
 ·exact SH 2 51 dA (kB Z bs) dC (dQ (bs.take (kB Z bs))) rfl ((bp.take hbs (kB Z bs)).src) (λA5 c6=>ar.cJ 2 rfl (X5 hml) (sl 44 (.slice A5 (((nd Z.ns k).data.length)+(kB Z bs)) (c6)) (.slice A5 (((nd Z.ns k).data++bs.take (kB Z bs)).length) (c6)) (by rw [TK hml]) (NL (MD (A5,c6) [1,3,6,10,32,33,44] [0,1,2,3,4,5])))) (hl:=by rw [t6,hml,Nat.mul_one]) (h1:=qw _)
 rintro⟨A5,c6⟩
 refine jG 2 [1,3,6,10,44,46] [(0,x_ k Z.ns.length (mg))] (eH.last KB (ar.Aj 0 (k*10+7) (d:=none) (T:=51) (e:=95) (size:=10) (n:=Z.ns.length) (cap:=Y.c) (A:=Y.A) (xs:=(bD Y.L Z.ns)) (u:=.slice A5 (((nd Z.ns k).data++bs.take (kB Z bs)).length) (c6)) (a:=(.tmp 46)) (y:=(.tmp 44)) (λ_=>KB) KB (λ_=>KB) (λ_=>KB) KB rfl zc (by rw [oz];omega) (NL (ay.np (NX (SR (jK 9 [53,55] [(2,a_ 4 b1),(6,A_ 4 b1 2),(7,x_ k Z.ns.length (mg))] (ar.Em 0 (k*10+5) (d:=none) (T:=26) (e:=95) (size:=10) (n:=Z.ns.length) (cap:=Y.c) (A:=Y.A) (xs:=((bD Y.L Z.ns).set (k*10+7) (.slice A5 (((nd Z.ns k).data++bs.take (kB Z bs)).length) (c6)))) (u:=.int .i64 (Z.cS)) (u2:=.int .i64 (Z.cZ)) (a:=(.tmp 55)) (y:=(.tmp 53)) (λ_=>KB) KB (λ_=>KB) (λ_=>KB) KB rfl rfl zc (by rw [aix,oz];omega) (ar.cJ 0 rfl (adG hk rfl) (NS (jC 5 [7,8] [(0,A_ 4 b1 12),(2,A_ 5 b2 12)] [(5,(zC (rV Z Y)))] (NN (ak.ret (ay.cO [0,1,2] [.abs (aF 95 10 Y.A ((GN Z k bs).ns.length) Y.c (bD (Y.L.dat k A5 c6) (GN Z k bs).ns)),gI Y Z,.abs (aF 5 1 A5 (((nd Z.ns k).data++bs.take (kB Z bs)).length) c6 (dQ ((nd Z.ns k).data++bs.take (kB Z bs))))] (λFV kN hL=>?_)))))))))))))))
 have fH:dF FV (GN Z k bs) ⟨Y.A,Y.c,(Y.L.dat k A5 c6),Y.G,Y.cg,Y.H,Y.ch,Y.V,Y.cv⟩:=(hI.set (R':=GN Z k bs) hk rfl rfl rfl).at aa0.symm (by show _=(nd (Z.ns.set k _) k).data;rw [qN hk,aik rfl]) hL
 replace av:=av.trans kN
 exact rB (.tuple #[.agg ⟨rV Z Y⟩,vI ↑(kB Z bs),vI 0]) [A_ 2 b2 12] [0] av (⟨⟨Y.A,Y.c,(Y.L.dat k A5 c6),Y.G,Y.cg,Y.H,Y.ch,Y.V,Y.cv⟩,by grind [rV,X8,GN,kB],rfl,by rw [X8 tL sU];exact fH⟩)
theorem y4 {β:Bs} (Z:RS) (Y:RL) (hI:mA β Z Y.L Y.H Y.V) (hC:RC Z) {n:Nat} (hD:RD n Z) (hn:n<=7) (d:Nat) (hd:d<Z.ns.length) (name:ByteArray) (x:aL) (hxd:x.data=[]) (Nb:x.ah=[]) (MN:x.target.size<=1048576) :
 bU Tryz.prog β 99 #[.agg ⟨rV Z Y⟩,vI (((d:Nat):Int)),.string name,.agg #[vI (x.id),vI (x.kind),vI (x.mode),vI (x.bg),vI (x.bh),vI (x.aT),vI (x.aJ),.slice none (0) (0),.string x.target,.slice none (0) (0)]] [gZ Y Z,gI Y Z] (λβ' v l=>∃A' c' L',v=.tuple #[.agg ⟨rW ((bQ Z d name x).1) A' c' Y.G Y.cg Y.H Y.ch Y.V Y.cv⟩,vI (bQ Z d name x).2]/\l=[.abs (aF 95 10 A' ((bQ Z d name x).1.ns.length) c' (bD L' (bQ Z d name x).1.ns)),.abs (aF 3 1 Y.G ((bQ Z d name x).1.aE.length) Y.cg (bH (bQ Z d name x).1.aE))]/\mA β' (bQ Z d name x).1 L' Y.H Y.V/\(((bQ Z d name x).2=0/\L'.dA Z.ns.length=none/\L'.dC Z.ns.length=0)\/((bQ Z d name x).2≠0/\A'=Y.A/\c'=Y.c/\L'=Y.L))):=by
 refine mM Tryz.func99 Tryz.ntmps99 (λav R=>SR (jB 1 [4] (λb8=>.ax b8 (rV Z Y) 45) (λb8=>jB 1 [7] (λb9=>.ax b9 [vI (x.id),vI (x.kind),vI (x.mode),vI (x.bg),vI (x.bh),vI (x.aT),vI (x.aJ),.slice none (0) (0),.string x.target,.slice none (0) (0)] 95) (λb9=>jB 2 [8] (λb10=>.ax b10 (rZ) 45) (λb10=>NN (ak.join (λ(u:Unit)=>(¬(x.kind=3/\lG x.target≠0))) (λ(u:Unit)=>[(1,vI ↑d),(2,.string name),(4,vP b8),(7,vP b9),(8,vP b10)]) (λ(u:Unit)=>[gZ Y Z,gI Y Z,.abs R,.ax b8 (rV Z Y) 45,.ax b9 [vI (x.id),vI (x.kind),vI (x.mode),vI (x.bg),vI (x.bh),vI (x.aT),vI (x.aJ),.slice none (0) (0),.string x.target,.slice none (0) (0)] 95,.ax b10 (rZ) 45]) ?_ (SR (jK 3 [13] [(1,a_ 4 b9)] (NN (cP ((x.kind:Int)=(3:Int)) (λtL=>SR (jK 2 [15] [(1,a_ 4 b9)] (gE [] (aaW x.target MN) (jK 1 [10] [] (NS (jK 2 [18] [] (NN (cN (((lG x.target):Int)=(0:Int)) (λql=>SR (jC 4 [9] [(0,A_ 3 b8 12),(2,A_ 5 b10 12)] [(5,(zC (rV Z Y)))] (eO [A_ 5 b10 12] av ⟨Y.A,Y.c,Y.L,by rw [KO tL ql]<;>rfl,by rw [KO tL ql],by rw [KO tL ql];exact hI,.inr (by rw [KO tL ql];exact⟨ql,rfl,rfl,rfl⟩)⟩))) (λql=>ak.skip (mJ () [0,1,2,3,4,5] (λq=>q.2 zc))))))))))) (λtL=>ak.skip (mJ () [0,1,2,3,4,5] (λq=>tL q.1)))))))))))))
 rintro u hb
 refine SQ (jK 3 [21,22,23] [(0,A_ 3 b8 12)] ?_)
 rcases kO Z.ns d name with hl|⟨k,hl,hk⟩
 ·refine gE [0,1] ((eF hI (λ_ _ h=>jL Z Y h hC d hd name)).val (ail (Value.int .i64) hl)) (jK 1 [25] [] (NF (KX (SQ (jK 1 [27] [(0,A_ 3 b8 12)] (gE [0,1] (eF hI (λ_ _ h=>aaV Z Y h hC.toRB)) (jK 1 [29] [] (NN (cN (wz Z) (λwH=>SR (jC 3 [9] [(0,A_ 3 b8 12),(1,A_ 5 b10 12)] [(5,(zC (rV Z Y)))] (eO [A_ 5 b10 12] av ⟨Y.A,Y.c,Y.L,by rw [GP hb hl wH]<;>rfl,by rw [GP hb hl wH],by rw [GP hb hl wH];exact hI,.inr (by rw [GP hb hl wH];exact⟨(show (177:Int)≠0 by decide),rfl,rfl,rfl⟩)⟩))) (λwH=>KX (SR (jK 4 [31,32,33,34] [(0,A_ 3 b8 12),(3,A_ 4 b9 10)] (gu [0,1] (adF Z Y hI hD zc ⟨hC.cap.2.2.2.2.2.2.1,wH.2.1⟩ d hd name x hxd Nb) ?_)))))))))))))
  rintro β1 _ _ cD ⟨A1,c1,L1,rfl,rfl,di,hnd⟩
  replace av:=av.trans cD
  exact jC 2 [9] [(0,A_ 5 b10 12)] [(5,(zC (rW (j3 Z d name x) A1 c1 Y.G Y.cg Y.H Y.ch Y.V Y.cv)))] (eO [A_ 5 b10 12] av ⟨A1,c1,L1,by rw [Ox hb hl wH]<;>rfl,by rw [Ox hb hl wH],by rw [Ox hb hl wH];exact di,.inl (by rw [Ox hb hl wH];exact⟨rfl,hnd⟩)⟩)
 exact gE [0,1] ((eF hI (λ_ _ h=>jL Z Y h hC d hd name)).val (ail (Value.int .i64) hl)) (jK 1 [25] [(0,wT (((k:Int):Int)>=(0:Int)))] (NT (SR (jC 3 [9] [(0,A_ 3 b8 12),(1,A_ 5 b10 12)] [(5,(zC (rV Z Y)))] (eO [A_ 5 b10 12] av ⟨Y.A,Y.c,Y.L,by rw [Ow hb hl]<;>rfl,by rw [Ow hb hl],by rw [Ow hb hl];exact hI,.inr (by rw [Ow hb hl];exact⟨(show (171:Int)≠0 by decide),rfl,rfl,rfl⟩)⟩)))))
theorem CA {β:Bs} (Z:RS) (Y:RL) (hI:mA β Z Y.L Y.H Y.V) (hC:RC Z) {n:Nat} (hD:RD n Z) (hn:n<=7) (d:Nat) (hd:d<Z.ns.length) (name:ByteArray) (dir:Bool) :
 bU Tryz.prog β 100 #[.agg ⟨rV Z Y⟩,vI (((d:Nat):Int)),.string name,.bool dir] [gZ Y Z,gI Y Z] (λβ' v l=>∃Y',v=.tuple #[.agg ⟨rV ((iH Z d name dir).1) Y'⟩,vI (iH Z d name dir).2]/\l=[]/\dF β' (iH Z d name dir).1 Y'):=by
 refine mM Tryz.func100 Tryz.ntmps100 (λav R=>SR (jB 1 [4] (λb11=>.ax b11 (rV Z Y) 45) (λb11=>jB 2 [8] (λb12=>.ax b12 (rZ) 45) (λb12=>NS (jK 3 [11,12,13] [(0,A_ 3 b11 12)] ?_)))))
 rcases kO Z.ns d name with hl|⟨k,hl,hk⟩
 ·refine gE [0,1] ((eF hI (λ_ _ h=>jL Z Y h hC d hd name)).val (ail (Value.int .i64) hl)) (jK 1 [10] [] (NZ (jK 2 [16] [] (NT (SR (jC 3 [9] [(0,A_ 3 b11 12),(1,A_ 4 b12 12)] [(4,(zC (rV Z Y)))] (NN (ak.ret (ay.bB (ay.cO [0,1] [gZ Y Z,gI Y Z] (λpZ j4 hL=>?_)))))))))))
  have fH:dF pZ Z Y:=hI.at hL
  replace av:=av.trans j4
  exact rB _ [A_ 2 b12 12] [0] av (⟨Y,by rw [acq hl]<;>rfl,rfl,by rw [acq hl];exact fH⟩)
 refine ar.sK 0 rfl zc (λmg=>gE [0,1] ((eF hI (λ_ _ h=>jL Z Y h hC d hd name)).val (ail (Value.int .i64) hl)) (jK 1 [10] [] (NZ (jK 2 [16] [(1,wF (((k:Int):Int)<(0:Int)))] (NF (KX (ak.join (λ(u:Unit)=>(¬(dir=false/\(nd Z.ns k).kind=2))) (λ(u:Unit)=>([(1,vI ↑d),(2,.string name),(3,.bool dir)]++zU2 b11 b12++[(10,vI ↑k)])) (λ(u:Unit)=>([gZ Y Z,gI Y Z,.abs R]++qX b11 Z Y b12)) ?_ ?_)))))))
 ·rintro u n1
  refine ak.join (λ(u:Unit)=>(¬(dir=true/\(nd Z.ns k).kind≠2))) (λ(u:Unit)=>([(1,vI ↑d),(2,.string name),(3,.bool dir)]++zU2 b11 b12++[(10,vI ↑k)])) (λ(u:Unit)=>([gZ Y Z,gI Y Z,.abs R]++qX b11 Z Y b12)) ?_ ?_
  ·rintro u n2
   refine ak.join (λ(u:Unit)=>(¬(dir=true/\0<(nd Z.ns k).ah.length))) (λ(u:Unit)=>([(1,vI ↑d),(2,.string name)]++zU2 b11 b12)) (λ(u:Unit)=>([gZ Y Z,gI Y Z,.abs R]++qX b11 Z Y b12)) ?_ ?_
   ·rintro u n3
    refine SR (jK 3 [56,57,58] [(0,A_ 3 b11 12)] (gu [0,1] (Cz Z Y hI hD zc d hd name true) ?_))
    rintro β1 _ _ cD ⟨L1,G1,g1,rfl,rfl,di⟩
    replace av:=av.trans cD
    refine ar.cO [0,1] [.abs (aF 95 10 Y.A ((cW Z d name true).ns.length) Y.c (bD L1 (cW Z d name true).ns)),.abs (aF 3 1 G1 ((cW Z d name true).aE.length) g1 (bH (cW Z d name true).aE))] (λox fo hL=>?_)
    have uQ:dF ox (cW Z d name true) ⟨Y.A,Y.c,L1,G1,g1,Y.H,Y.ch,Y.V,Y.cv⟩:=di.at hL
    replace av:=av.trans fo
    refine gu [] (yY (cW Z d name true) ⟨Y.A,Y.c,L1,G1,g1,Y.H,Y.ch,Y.V,Y.cv⟩ uQ ((hD.TG hd).rb zc)) ?_
    rintro yV _ _ iq ⟨Y3,rfl,rfl,mF⟩
    replace av:=av.trans iq
    exact jC 2 [9] [(0,A_ 2 b12 12)] [(2,(zC (rV (fV (cW Z d name true)) Y3)))] (eO [A_ 2 b12 12] av ⟨Y3,by rw [ae8 hl n1 n2 n3]<;>rfl,rfl,by rw [ae8 hl n1 n2 n3];exact mF⟩)
   refine SR (jK 2 [44] [] (ar.qb 44 dir (λ_=>KB) (λzk=>jK 10 [54] [(2,a_ 3 b11),(4,x_ k Z.ns.length (mg)),(6,v_ 0 (nA Z.ns Y.L Y.A Y.c k 9 hk rfl))] (NN (cP (((((nd Z.ns k).ah.length:Nat):Int):Int)>(0:Int)) (λF5=>SR (jC 3 [9] [(0,A_ 3 b11 12),(1,A_ 4 b12 12)] [(4,(zC (rV Z Y)))] (NN (ak.ret (ay.bB (ay.cO [0,1] [gZ Y Z,gI Y Z] (λsJ gV hL=>?_))))))) (λF5=>ak.skip (mJ () [0,1,2,3,4] ((λq=>F5 zc))))))) (λzk=>jK 10 [54] [] (NF (ak.skip (mJ () [0,1,2,3,4] ((λq=>by rw [q.1] at zk;cases zk))))))))
   have fH:dF sJ Z Y:=hI.at hL
   replace av:=av.trans gV
   exact rB (.tuple #[.agg ⟨rV Z Y⟩,vI 178]) [A_ 2 b12 12] [0] av (⟨Y,by grind [ae7],rfl,by grind [ae7]⟩)
  refine SR (jK 2 [32] [] (ar.qb 32 dir (λ_=>KB) (λsR=>jK 9 [41] [(2,a_ 3 b11),(4,x_ k Z.ns.length (mg)),(6,v_ 0 (nA Z.ns Y.L Y.A Y.c k 1 hk rfl))] (NN (cN (((nd Z.ns k).kind:Int)=(2:Int)) (λBr=>SR (jC 3 [9] [(0,A_ 3 b11 12),(1,A_ 4 b12 12)] [(4,(zC (rV Z Y)))] (NN (ak.ret (ay.bB (ay.cO [0,1] [gZ Y Z,gI Y Z] (λF6 qY hL=>?_))))))) (λBr=>ak.skip (mJ () [0,1,2,3,4] ((λq=>q.2 Br))))))) (λsR=>jK 9 [41] [] (NF (ak.skip (mJ () [0,1,2,3,4] ((λq=>by rw [q.1] at sR;cases sR))))))))
  have fH:dF F6 Z Y:=hI.at hL
  replace av:=av.trans qY
  exact rB _ [A_ 2 b12 12] [0] av (⟨Y,by rw [ae6 hl n1 ⟨sR,Br⟩]<;>rfl,rfl,by grind [ae6]⟩)
 refine SR (jK 3 [20] [] (ar.qb 20 (!dir) (λ_=>KB) (λpQ=>jK 9 [29] [(2,a_ 3 b11),(4,x_ k Z.ns.length (mg)),(6,v_ 0 (nA Z.ns Y.L Y.A Y.c k 1 hk rfl))] (NN (cP (((nd Z.ns k).kind:Int)=(2:Int)) (λDt=>SR (jC 3 [9] [(0,A_ 3 b11 12),(1,A_ 4 b12 12)] [(4,(zC (rV Z Y)))] (NN (ak.ret (ay.bB (ay.cO [0,1] [gZ Y Z,gI Y Z] (λQB tT hL=>?_))))))) (λDt=>ak.skip (mJ () [0,1,2,3,4] ((λq=>Dt q.2))))))) (λpQ=>jK 9 [29] [] (NF (ak.skip (mJ () [0,1,2,3,4] ((λq=>by rw [q.1] at pQ;cases pQ))))))))
 have fH:dF QB Z Y:=hI.at hL
 replace av:=av.trans tT
 exact rB (.tuple #[.agg ⟨rV Z Y⟩,vI 172]) [A_ 2 b12 12] [0] av (⟨Y,by grind [ae5],rfl,by grind [ae5]⟩)
noncomputable abbrev zV1 (A1:Option Addr) (Z) (d:Nat) (c:aH) (x:aL) (c1:Nat) (L1):=(.abs (aF 95 10 A1 ((bQ Z d c.name x).1.ns.length) c1 (bD L1 (bQ Z d c.name x).1.ns)):HP)
noncomputable abbrev zV2 (Y:RL) (Z) (d:Nat) (c:aH) (x:aL):=(.abs (aF 3 1 Y.G ((bQ Z d c.name x).1.aE.length) Y.cg (bH (bQ Z d c.name x).1.aE)):HP)
noncomputable abbrev zV3 (f:Nat) (name) (to:Nat) (aB) (b1:Nat) (b2:Nat):=([(1,vI ↑f),(2,.string name),(3,vI ↑to),(4,.string aB),(5,vP b1),(10,vP b2)]:Fr)
noncomputable abbrev zV4 (Y:RL) (Z1) (f:Nat) (name) (to:Nat) (aB) (Z:RS) (k:Nat) (L3) (G2) (g2):=([.abs (aF 95 10 Y.A ((dm (cW Z1 f name false) to aB (nd Z.ns k).id).ns.length) Y.c (bD L3 (dm (cW Z1 f name false) to aB (nd Z.ns k).id).ns)),.abs (aF 3 1 G2 ((dm (cW Z1 f name false) to aB (nd Z.ns k).id).aE.length) g2 (bH (dm (cW Z1 f name false) to aB (nd Z.ns k).id).aE))]:List HP)
noncomputable abbrev zV5 (b1:Nat) (Z1:RS) (Y:RL) (G1) (g1) (b2:Nat) (L1):=([.ax b1 (rW Z1 Y.A Y.c G1 g1 Y.H Y.ch Y.V Y.cv) 45,.ax b2 (rZ) 45,.abs (aF 95 10 Y.A Z1.ns.length Y.c (bD L1 Z1.ns)),.abs (aF 3 1 G1 Z1.aE.length g1 (bH Z1.aE))]:List HP)
theorem Nz {β:Bs} (Z:RS) (Y:RL) (hI:mA β Z Y.L Y.H Y.V) (hC:RC Z) {n:Nat} (hD:RD n Z) (hn:n<=4) (f:Nat) (hf:f<Z.ns.length) (name:ByteArray) (to:Nat) (dY:to<Z.ns.length) (aB:ByteArray) :
 bU Tryz.prog β 87 #[.agg ⟨rV Z Y⟩,vI (((f:Nat):Int)),.string name,vI (((to:Nat):Int)),.string aB] [gZ Y Z,gI Y Z] (λβ' v l=>∃Y',v=.tuple #[.agg ⟨rV ((gY Z f name to aB).1) Y'⟩,vI (gY Z f name to aB).2]/\l=[]/\dF β' (gY Z f name to aB).1 Y'):=by
 refine mM Tryz.func87 Tryz.ntmps87 (λav R=>SR (jB 1 [5] (λb1=>.ax b1 (rV Z Y) 45) (λb1=>jB 2 [10] (λb2=>.ax b2 (rZ) 45) (λb2=>NS (jK 3 [16,17,18] [(0,A_ 3 b1 12)] ?_)))))
 rcases kO Z.ns f name with hl|⟨k,hl,hk⟩
 ·refine gE [0,1] ((eF hI (λ_ _ h=>jL Z Y h hC f hf name)).val (ail (Value.int .i64) hl)) (jK 1 [12] [] (NZ (jK 2 [21] [] (NT (SR (jC 3 [11] [(0,A_ 3 b1 12),(1,A_ 4 b2 12)] [(4,(zC (rV Z Y)))] (NN (ak.ret (ay.bB (ay.cO [0,1] [gZ Y Z,gI Y Z] (λyV iq hL=>?_)))))))))))
  have fH:dF yV Z Y:=hI.at hL
  replace av:=av.trans iq
  exact rB _ [A_ 2 b2 12] [0] av (⟨Y,by rw [aff hl]<;>rfl,rfl,by rw [aff hl];exact fH⟩)
 refine ar.sK 0 rfl zc (λmg=>gE [0,1] ((eF hI (λ_ _ h=>jL Z Y h hC f hf name)).val (ail (Value.int .i64) hl)) (jK 1 [12] [] (NZ (jK 2 [21] [(1,wF (((k:Int):Int)<(0:Int)))] (NF (KX (SR (jK 9 [13] [(2,a_ 3 b1),(4,x_ k Z.ns.length (mg)),(6,v_ 0 (nA Z.ns Y.L Y.A Y.c k 1 hk rfl))] (NN (ak.join (λ(u:Unit)=>(¬((nd Z.ns k).kind=2/\jJ Z.ns k (Z.ns.length+1) to=true))) (λ(u:Unit)=>(zV3 f name to aB b1 b2++[(12,vI ↑k),(13,.bool (decide (((nd Z.ns k).kind:Int)=(2:Int))))])) (λ(u:Unit)=>[gZ Y Z,gI Y Z,.abs R,.ax b1 (rV Z Y) 45,.ax b2 (rZ) 45]) ?_ ?_))))))))))
 ·rintro u n1
  refine SR (jK 3 [39,40,41] [(0,A_ 3 b1 12)] ?_)
  rcases kO Z.ns to aB with hl2|⟨t,hl2,ht⟩
  ·refine gE [0,1] ((eF hI (λ_ _ h=>jL Z Y h hC to dY aB)).val (ail (Value.int .i64) hl2)) (jK 1 [14] [] (NS (jK 8 [15] [(2,a_ 3 b1),(4,x_ k Z.ns.length (mg)),(6,v_ 0 (nA Z.ns Y.L Y.A Y.c k 0 hk rfl))] (NZ (jK 3 [52] [] (NN (cP (((-1):Int)=(((k:Nat):Int):Int)) (λzm=>ain zm (by omega)) (λzm=>KX (ak.Vx (ι:=Bs×RS×eP×(Option Addr)×Nat) (λ(b,Z1,L1,G1,g1)=>b) (λ(b,Z1,L1,G1,g1)=>(β.le b)/\(mA b Z1 L1 Y.H Y.V)/\(RD (n+1) Z1)/\(Z1.ns.length=Z.ns.length)/\((gY Z f name to aB)=(BF Z f name to aB k Z1,0))) (λ(b,Z1,L1,G1,g1)=>(zV3 f name to aB b1 b2++[(15,vI ((nd Z.ns k).id))])) (λ(b,Z1,L1,G1,g1)=>(zV5 b1 Z1 Y G1 g1 b2 L1++[.abs R])) ?_ (SR (jK 2 [55] [] (NF (ak.skip (ay.zQ (β,Z,Y.L,Y.G,Y.cg) rfl (aq:=[1,2,3,4,5,10,15]) (pk:=[3,4,0,1,2]) (⟨av,hI,(hD.up zc),rfl,ahj hl n1 hl2⟩) (λ_=>KB) rfl KB))))))))))))))
   rintro⟨b,Z1,L1,G1,g1⟩ ⟨av,di,Dd,hz1,Yk⟩
   refine SR (jK 3 [71,72,73] [(0,A_ 0 b1 12)] (gu [2,3] (Cz Z1 ⟨Y.A,Y.c,L1,G1,g1,Y.H,Y.ch,Y.V,Y.cv⟩ di Dd zc f zc name false) ?_))
   rintro ox _ _ fo ⟨L2,G2,g2,rfl,rfl,XA⟩
   replace av:=av.trans fo
   refine jC 1 [] [(0,A_ 2 b1 12)] [(2,(zC (rW (cW Z1 f name false) Y.A Y.c G2 g2 Y.H Y.ch Y.V Y.cv)))] (NS (jK 4 [75,76,77,78] [(0,A_ 2 b1 12)] (gu [0,1] (Cy (cW Z1 f name false) ⟨Y.A,Y.c,L2,G2,g2,Y.H,Y.ch,Y.V,Y.cv⟩ XA ((Dd.TG zc).rb zc) to (by rw [vT];omega) aB (nd Z.ns k).id) ?_)))
   rintro yV _ _ iq ⟨L3,rfl,rfl,Yl⟩
   replace av:=av.trans iq
   refine jC 1 [] [(0,A_ 2 b1 12)] [(2,(zC (rW (dm (cW Z1 f name false) to aB (nd Z.ns k).id) Y.A Y.c G2 g2 Y.H Y.ch Y.V Y.cv)))] (NS (ar.cO [0,1] (zV4 Y Z1 f name to aB Z k L3 G2 g2) (λDw kP hL=>?_)))
   have mF:dF Dw (dm (cW Z1 f name false) to aB (nd Z.ns k).id) ⟨Y.A,Y.c,L3,G2,g2,Y.H,Y.ch,Y.V,Y.cv⟩:=Yl.at hL
   replace av:=av.trans kP
   refine jK 1 [80] [(0,A_ 0 b1 12)] (gu [] (yY (dm (cW Z1 f name false) to aB (nd Z.ns k).id) ⟨Y.A,Y.c,L3,G2,g2,Y.H,Y.ch,Y.V,Y.cv⟩ mF (((Dd.TG zc).bS (by rw [vT];omega)).rb zc)) ?_)
   rintro KR _ _ kg ⟨Y5,rfl,rfl,hR5⟩
   replace av:=av.trans kg
   exact jC 2 [11] [(0,A_ 1 b2 12)] [(1,(zC (rV (fV (dm (cW Z1 f name false) to aB (nd Z.ns k).id)) Y5)))] (eO [A_ 1 b2 12] av ⟨Y5,by rw [Yk]<;>rfl,rfl,by rw [Yk];exact hR5⟩ [2])
  refine gE [0,1] ((eF hI (λ_ _ h=>jL Z Y h hC to dY aB)).val (ail (Value.int .i64) hl2)) (jK 1 [14] [] (NS (jK 8 [15] [(2,a_ 3 b1),(4,x_ k Z.ns.length (mg)),(6,v_ 0 (nA Z.ns Y.L Y.A Y.c k 0 hk rfl))] (NZ (jK 3 [52] [] (NN (cP ((((t:Nat):Int):Int)=(((k:Nat):Int):Int)) (λzm=>?_) (λzm=>?_))))))))
  ·refine SR (jC 3 [11] [(0,A_ 3 b1 12),(1,A_ 4 b2 12)] [(4,(zC (rV Z Y)))] (NN (ak.ret (ay.bB (ay.cO [0,1] [gZ Y Z,gI Y Z] (λDw kP hL=>?_))))))
   have fH:dF Dw Z Y:=hI.at hL
   replace av:=av.trans kP
   exact rB (.tuple #[.agg ⟨rV Z Y⟩,vI 0]) [A_ 2 b2 12] [0] av (⟨Y,by grind [afh],rfl,by grind [afh]⟩)
  refine KX (ak.Vx (ι:=Bs×RS×eP×(Option Addr)×Nat) (λ(b,Z1,L1,G1,g1)=>b) (λ(b,Z1,L1,G1,g1)=>(β.le b)/\(mA b Z1 L1 Y.H Y.V)/\(RD (n+1) Z1)/\(Z1.ns.length=Z.ns.length)/\((gY Z f name to aB)=(BF Z f name to aB k Z1,0))) (λ(b,Z1,L1,G1,g1)=>(zV3 f name to aB b1 b2++[(15,vI ((nd Z.ns k).id))])) (λ(b,Z1,L1,G1,g1)=>(zV5 b1 Z1 Y G1 g1 b2 L1++[.abs R])) ?_ ?_)
  ·rintro⟨b,Z1,L1,G1,g1⟩ ⟨av,di,Dd,hz1,Yk⟩
   refine SR (jK 3 [71,72,73] [(0,A_ 0 b1 12)] (gu [2,3] (Cz Z1 ⟨Y.A,Y.c,L1,G1,g1,Y.H,Y.ch,Y.V,Y.cv⟩ di Dd zc f zc name false) ?_))
   rintro ox _ _ fo ⟨L2,G2,g2,rfl,rfl,XA⟩
   replace av:=av.trans fo
   refine jC 1 [] [(0,A_ 2 b1 12)] [(2,(zC (rW (cW Z1 f name false) Y.A Y.c G2 g2 Y.H Y.ch Y.V Y.cv)))] (NS (jK 4 [75,76,77,78] [(0,A_ 2 b1 12)] (gu [0,1] (Cy (cW Z1 f name false) ⟨Y.A,Y.c,L2,G2,g2,Y.H,Y.ch,Y.V,Y.cv⟩ XA ((Dd.TG zc).rb zc) to (by rw [vT];omega) aB (nd Z.ns k).id) ?_)))
   rintro yV _ _ iq ⟨L3,rfl,rfl,Yl⟩
   replace av:=av.trans iq
   refine jC 1 [] [(0,A_ 2 b1 12)] [(2,(zC (rW (dm (cW Z1 f name false) to aB (nd Z.ns k).id) Y.A Y.c G2 g2 Y.H Y.ch Y.V Y.cv)))] (NS (ar.cO [0,1] (zV4 Y Z1 f name to aB Z k L3 G2 g2) (λDw kP hL=>?_)))
   have mF:dF Dw (dm (cW Z1 f name false) to aB (nd Z.ns k).id) ⟨Y.A,Y.c,L3,G2,g2,Y.H,Y.ch,Y.V,Y.cv⟩:=Yl.at hL
   replace av:=av.trans kP
   refine jK 1 [80] [(0,A_ 0 b1 12)] (gu [] (yY (dm (cW Z1 f name false) to aB (nd Z.ns k).id) ⟨Y.A,Y.c,L3,G2,g2,Y.H,Y.ch,Y.V,Y.cv⟩ mF (((Dd.TG zc).bS (by rw [vT];omega)).rb zc)) ?_)
   rintro KR _ _ kg ⟨Y5,rfl,rfl,hR5⟩
   replace av:=av.trans kg
   exact jC 2 [11] [(0,A_ 1 b2 12)] [(1,(zC (rV (fV (dm (cW Z1 f name false) to aB (nd Z.ns k).id)) Y5)))] (eO [A_ 1 b2 12] av ⟨Y5,by rw [Yk]<;>rfl,rfl,by rw [Yk];exact hR5⟩ [2])
  refine SR (jK 2 [55] [(1,wT (((t:Int):Int)>=(0:Int)))] (NT (SQ (jK 8 [63] [(2,a_ 3 b1),(4,x_ t Z.ns.length (mg)),(6,v_ 0 (nA Z.ns Y.L Y.A Y.c t 1 ht rfl))] (NN (cP (((nd Z.ns t).kind:Int)=(2:Int)) (λh63=>?_) (λh63=>?_)))))))
  ·refine SR (jC 3 [11] [(0,A_ 3 b1 12),(1,A_ 4 b2 12)] [(4,(zC (rV Z Y)))] (NN (ak.ret (ay.bB (ay.bB (ay.cO [0,1] [gZ Y Z,gI Y Z] (λKR kg hL=>?_)))))))
   have fH:dF KR Z Y:=hI.at hL
   replace av:=av.trans kg
   exact rB _ [A_ 2 b2 12] [0] av (⟨Y,by rw [afi hl n1 hl2 zm h63]<;>rfl,rfl,by rw [afi hl n1 hl2 zm h63];exact fH⟩)
  refine KX (SQ (jK 1 [65] [] (NN (cP (((nd Z.ns k).kind:Int)=(2:Int)) (λh65=>?_) (λh65=>?_)))))
  ·refine SR (jC 3 [11] [(0,A_ 3 b1 12),(1,A_ 4 b2 12)] [(4,(zC (rV Z Y)))] (NN (ak.ret (ay.bB (ay.bB (ay.cO [0,1] [gZ Y Z,gI Y Z] (λXD vS hL=>?_)))))))
   have fH:dF XD Z Y:=hI.at hL
   replace av:=av.trans vS
   exact rB _ [A_ 2 b2 12] [0] av (⟨Y,by rw [afj hl n1 hl2 zm h63 h65]<;>rfl,rfl,by grind [afj]⟩)
  refine KX (ak.region (jK 3 [67,68,69] [(0,A_ 3 b1 12)] (gu [0,1] (Cz Z Y hI hD zc to dY aB true) ?_)))
  rintro β1 _ _ cD ⟨L1,G1,g1,rfl,rfl,di⟩
  replace av:=av.trans cD
  exact jC 1 [] [(0,A_ 3 b1 12)] [(3,(zC (rW (cW Z to aB true) Y.A Y.c G1 g1 Y.H Y.ch Y.V Y.cv)))] (NL (ay.zQ (β1,(cW Z to aB true),L1,G1,g1) rfl (aq:=[1,2,3,4,5,10,15]) (pk:=[3,4,0,1,2]) (⟨av,di,hD.TG dY,vT,ahk hl n1 hl2 zm h63 h65⟩) (λ_=>KB) rfl KB))
 refine SR (jK 2 [32] [] (sP 32 (((nd Z.ns k).kind:Int)=(2:Int)) (λsR=>jK 3 [33,34,35] [(0,A_ 3 b1 12)] (gE [0,1] (eF hI (λ_ _ h=>XW Z Y h hC.toRB to k dY)) (jK 1 [37] [] (NN (ak.cond (b:=(jJ Z.ns k (Z.ns.length+1) to)) (λ_=>KB) (λzl=>SR (jC 3 [11] [(0,A_ 3 b1 12),(1,A_ 4 b2 12)] [(4,(zC (rV Z Y)))] (NN (ak.ret (ay.bB (ay.cO [0,1] [gZ Y Z,gI Y Z] (λFV kN hL=>?_))))))) (λzl=>ak.skip (mJ () [0,1,2,3,4] ((λq=>by rw [q.2] at zl;cases zl))))))))) (λsR=>jK 5 [37] [] (NF (ak.skip (mJ () [0,1,2,3,4] ((λq=>sR q.1))))))))
 have fH:dF FV Z Y:=hI.at hL
 replace av:=av.trans kN
 exact rB _ [A_ 2 b2 12] [0] av (⟨Y,by rw [afg hl ⟨sR,zl⟩]<;>rfl,rfl,by rw [afg hl ⟨sR,zl⟩];exact fH⟩)
theorem NA {β:Bs} (Z:RS) (Y:RL) (hI:mA β Z Y.L Y.H Y.V) (hC:RC Z) (c:aH) (hn:c.name.size<=1048576) (want:Int) :
 bU Tryz.prog β 78 #[.agg ⟨rV Z Y⟩,.agg ⟨aO c⟩,vI (want)] [gZ Y Z,gI Y Z] (λβ' v l=>∃Y',v=.tuple #[.agg ⟨rV ((jo Z c want).1) Y'⟩,vI (jo Z c want).2.1,vI (jo Z c want).2.2]/\l=[]/\dF β' (jo Z c want).1 Y'):=by
 refine mM Tryz.func78 Tryz.ntmps78 (λav R=>SR (jB 1 [3] (λb8=>.ax b8 (rV Z Y) 45) (λb8=>jB 1 [4] (λb9=>.ax b9 (aO c) 53) (λb9=>jB 3 [6] (λb10=>.ax b10 (rZ) 45) (λb10=>NS (jK 5 [14,16,18] [(0,A_ 3 b8 12),(2,a_ 4 b9),(4,a_ 4 b9)] ?_))))))
 rcases si hC c.aG c.name 64 with ⟨e,h1,FX⟩|⟨d,h1,hd⟩
 ·refine gE [0,1] ((eF hI (λ_ _ h=>pH Z Y h hC c.aG c.name hn 64)).val (ail exV h1)) (jK 5 [9,10] [] (NZ (jK 2 [23] [(1,OL ((e:Int)=(0:Int)) FX)] (NT (SR (jC 5 [7,8] [(0,A_ 3 b8 12),(2,A_ 5 b10 12)] [(5,(zC (rV Z Y)))] (NN (ak.ret (ay.bB (ay.cO [0,1] [gZ Y Z,gI Y Z] (λJf p4 hL=>?_)))))))))))
  have fH:dF Jf Z Y:=hI.at hL
  replace av:=av.trans p4
  exact rB _ [A_ 3 b10 12] [0] av (⟨Y,by rw [ae9 h1]<;>rfl,rfl,by rw [ae9 h1];exact fH⟩)
 refine gE [0,1] ((eF hI (λ_ _ h=>pH Z Y h hC c.aG c.name hn 64)).val (ail exV h1)) (jK 5 [9,10] [] (NZ (jK 2 [23] [(1,w_ (.bool false) rfl)] (NF (KX (SR (jK 4 [26,27,29] [(0,A_ 3 b8 12),(3,a_ 4 b9)] ?_)))))))
 rcases kO Z.ns d c.name with hl|⟨k,hl,hk⟩
 ·refine gE [0,1] ((eF hI (λ_ _ h=>jL Z Y h hC d hd c.name)).val (ail (Value.int .i64) hl)) (jK 1 [11] [] (NZ (jK 2 [32] [] (NT (SR (jC 4 [7,8] [(0,A_ 3 b8 12),(1,A_ 5 b10 12)] [(5,(zC (rV Z Y)))] (NN (ak.ret (ay.bB (ay.cO [0,1] [gZ Y Z,gI Y Z] (λI6 qW hL=>?_)))))))))))
  have fH:dF I6 Z Y:=hI.at hL
  replace av:=av.trans qW
  exact rB _ [A_ 3 b10 12] [0] av (⟨Y,by rw [afa h1 hl]<;>rfl,rfl,by rw [afa h1 hl];exact fH⟩)
 refine ar.sK 0 rfl zc (λmg=>gE [0,1] ((eF hI (λ_ _ h=>jL Z Y h hC d hd c.name)).val (ail (Value.int .i64) hl)) (jK 1 [11] [] (NZ (jK 2 [32] [(1,wF (((k:Int):Int)<(0:Int)))] (NF (KX (SR (jK 8 [12] [(2,a_ 3 b8),(4,x_ k Z.ns.length (mg)),(6,v_ 0 (nA Z.ns Y.L Y.A Y.c k 1 hk rfl))] (NZ (jK 2 [42] [] (NN (cP (((nd Z.ns k).kind:Int)=(3:Int)) (λlf=>?_) (λlf=>?_)))))))))))))
 ·refine SR (jC 4 [7,8] [(0,A_ 3 b8 12),(1,A_ 5 b10 12)] [(5,(zC (rV Z Y)))] (NN (ak.ret (ay.bB (ay.cO [0,1] [gZ Y Z,gI Y Z] (λpZ j4 hL=>?_))))))
  have fH:dF pZ Z Y:=hI.at hL
  replace av:=av.trans j4
  exact rB _ [A_ 3 b10 12] [0] av (⟨Y,by rw [afb h1 hl lf]<;>rfl,rfl,by rw [afb h1 hl lf];exact fH⟩)
 refine KX (SQ (jK 3 [46] [] (NN (cN (((nd Z.ns k).kind:Int)=(want:Int)) (λh46=>?_) (λh46=>?_)))))
 ·refine SQ (jK 2 [48] [] (NN (cP (((nd Z.ns k).kind:Int)=(1:Int)) (λh48=>?_) (λh48=>?_))))
  ·refine SR (jC 4 [7,8] [(0,A_ 3 b8 12),(1,A_ 5 b10 12)] [(5,(zC (rV Z Y)))] (NN (ak.ret (ay.bB (ay.bB (ay.cO [0,1] [gZ Y Z,gI Y Z] (λsJ gV hL=>?_)))))))
   have fH:dF sJ Z Y:=hI.at hL
   replace av:=av.trans gV
   exact rB _ [A_ 3 b10 12] [0] av (⟨Y,by rw [afc h1 hl lf h46 h48]<;>rfl,rfl,by rw [afc h1 hl lf h46 h48];exact fH⟩)
  refine KX (SR (jC 4 [7,8] [(0,A_ 3 b8 12),(1,A_ 5 b10 12)] [(5,(zC (rV Z Y)))] (NN (ak.ret (ay.bB (ay.cO [0,1] [gZ Y Z,gI Y Z] (λF6 qY hL=>?_)))))))
  have fH:dF F6 Z Y:=hI.at hL
  replace av:=av.trans qY
  exact rB _ [A_ 3 b10 12] [0] av (⟨Y,by rw [afd h1 hl lf h46 h48]<;>rfl,rfl,by rw [afd h1 hl lf h46 h48];exact fH⟩)
 refine KX (SR (jK 2 [51,52] [(0,A_ 3 b8 12)] (ar.cO [0,1] [gZ Y Z,gI Y Z] (λβ1 cD hL=>?_))))
 have uQ:dF β1 Z Y:=hI.at hL
 replace av:=av.trans cD
 refine gu [] (Ja Z Y uQ hC.ru k hk) ?_
 rintro ox _ _ fo ⟨Y3,rfl,rfl,mF⟩
 replace av:=av.trans fo
 exact jC 6 [7,8] [(3,A_ 3 b10 12)] [(3,(zC (rV ((lE Z k).1) Y3)))] (eO [A_ 3 b10 12] av ⟨Y3,by rw [afe h1 hl lf h46]<;>rfl,rfl,by rw [afe h1 hl lf h46];exact mF⟩)
theorem Vz {β:Bs} (Z:RS) (Y:RL) (hI:mA β Z Y.L Y.H Y.V) (hC:RC Z) {n:Nat} (hD:RD n Z) (hn:n<=7) (c:aH) (uO:c.text.size<=1048576) (d:Nat) (hd:d<Z.ns.length) :
 bU Tryz.prog β 79 #[.agg ⟨rV Z Y⟩,.agg ⟨aO c⟩,vI (((d:Nat):Int))] [gZ Y Z,gI Y Z] (λβ' v l=>∃Y',v=.tuple #[.agg ⟨rV ((iI Z c d).1) Y'⟩,vI (iI Z c d).2.1,vI (iI Z c d).2.2]/\l=[]/\dF β' (iI Z c d).1 Y'):=by
 refine mM Tryz.func79 Tryz.ntmps79 (λav R=>SR (jB 1 [3] (λb16=>.ax b16 (rV Z Y) 45) (λb16=>jB 1 [4] (λb17=>.ax b17 (aO c) 53) (λb17=>jB 3 [6] (λb18=>.ax b18 (rZ) 45) (λb18=>NN (ak.seq (ak.seq ?_)))))))
 by_cases n8:c.op=8\/c.op=14
 ·refine ak.region (jK 4 [17] [(1,a_ 4 b17),(2,w_ (.bool (decide ((c.op:Int)=(8:Int)))) rfl)] (sP 17 ((c.op:Int)=(8:Int)) (λE4=>?_) (λE4=>?_)))
  ·refine jK 4 [21] [] (NT (SR (jK 7 [23,24,26,29] [(0,A_ 3 b16 12),(3,a_ 4 b17),(5,a_ 4 b17)] (gu [0,1] (CA Z Y hI hC hD zc d hd c.name (decide (c.op=14))) ?_))))
   rintro β1 _ _ cD ⟨Y3,rfl,rfl,mF⟩
   replace av:=av.trans cD
   exact jN 6 [9,10] (λb19=>[(4,A_ 4 b19 12)]) (λ_=>[]) (λb19=>.ax b19 (rV ((iH Z d c.name (decide (c.op=14))).1) Y3) 45) (λb19=>NS (jC 5 [7,8] [(0,A_ 4 b19 12),(2,A_ 3 b18 12)] [(3,(zC (rV ((iH Z d c.name (decide (c.op=14))).1) Y3)))] (eO [A_ 3 b18 12] av ⟨Y3,by rw [Vy n8]<;>rfl,rfl,by rw [Vy n8];exact mF⟩)))
  refine jK 4 [21] [(1,a_ 4 b17),(2,w_ (.bool (decide ((c.op:Int)=(14:Int)))) rfl)] (NN (cP ((c.op:Int)=(14:Int)) (λsX=>SR (jK 7 [23,24,26,29] [(0,A_ 3 b16 12),(3,a_ 4 b17),(5,a_ 4 b17)] (gu [0,1] (CA Z Y hI hC hD zc d hd c.name (decide (c.op=14))) ?_))) (λsX=>ain n8 (by omega))))
  rintro β1 _ _ cD ⟨Y3,rfl,rfl,mF⟩
  replace av:=av.trans cD
  exact jN 6 [9,10] (λb20=>[(4,A_ 4 b20 12)]) (λ_=>[]) (λb20=>.ax b20 (rV ((iH Z d c.name (decide (c.op=14))).1) Y3) 45) (λb20=>NS (jC 5 [7,8] [(0,A_ 4 b20 12),(2,A_ 3 b18 12)] [(3,(zC (rV ((iH Z d c.name (decide (c.op=14))).1) Y3)))] (eO [A_ 3 b18 12] av ⟨Y3,by rw [Vy n8]<;>rfl,rfl,by rw [Vy n8];exact mF⟩)))
 refine ak.region (jK 8 [21] [(1,a_ 4 b17),(2,wF ((c.op:Int)=(8:Int))),(5,a_ 4 b17),(6,wF ((c.op:Int)=(14:Int)))] (NF (KX (SR (jN 5 [11] (λy5=>[(1,a_ 4 b17),(4,A_ 6 y5 10)]) (λ_=>[]) (λy5=>.ax y5 [vI 0,vI 3,vI 511,vI 0,vI 0,vI 0,vI 0,.slice none (0) (0),.string c.text,.slice none (0) (0)] 95) (λy5=>NN (ak.join (λ(x:aL)=>(x.data=[]/\x.ah=[]/\x.target.size<=1048576)/\((iI Z c d)=Jd Z c d x)) (λ(x:aL)=>[(2,vI ↑d),(3,vP b16),(4,vP b17),(6,vP b18),(11,vP y5)]) (λ(x:aL)=>[.ax b16 (rV Z Y) 45,pC b17 c,.ax b18 (rZ) 45,.ax y5 [vI (x.id),vI (x.kind),vI (x.mode),vI (x.bg),vI (x.bh),vI (x.aT),vI (x.aJ),.slice none (0) (0),.string x.target,.slice none (0) (0)] 95,gZ Y Z,gI Y Z,.abs R]) ?_ ?_)))))))
 ·rintro x ⟨hx,hch⟩
  refine SR (jK 5 [54,55,57,58] [(0,A_ 0 b16 12),(3,a_ 1 b17),(4,A_ 3 y5 10)] (gu [4,5] (y4 Z Y hI hC hD zc d hd c.name x hx.1 hx.2.1 hx.2.2) ?_))
  rintro β1 _ _ cD ⟨A1,c1,L1,rfl,rfl,di,_⟩
  replace av:=av.trans cD
  refine jN 6 [12,13] (λnh=>[(4,A_ 7 nh 12)]) (λ_=>[]) (λnh=>.ax nh (rW ((bQ Z d c.name x).1) A1 c1 Y.G Y.cg Y.H Y.ch Y.V Y.cv) 45) (λnh=>NN (ak.seq (ak.seq ?_)))
  by_cases iV:(bQ Z d c.name x).2=0/\c.op=5
  ·obtain⟨hm0,hm5⟩:=iV
   have hml:=Yf hm0
   have hbz:=hD.ns
   refine ak.region (jK 7 [68] [(1,wNT (((bQ Z d c.name x).2:Int)=(0:Int)) hm0),(4,a_ 3 b17),(5,wNT ((c.op:Int)=(5:Int)) hm5)] (NF (KX (SR (jK 6 [71,76] [(0,A_ 7 nh 12),(3,a_ 7 nh),(5,wJ ((((bQ Z d c.name x).1.ns.length:Nat):Int)-1) (↑((bQ Z d c.name x).1.ns.length-1)))] (ar.cO [0,1] [zV1 A1 Z d c x c1 L1,zV2 Y Z d c x] (λox fo hL=>?_)))))))
   have uQ:dF ox (bQ Z d c.name x).1 ⟨A1,c1,L1,Y.G,Y.cg,Y.H,Y.ch,Y.V,Y.cv⟩:=di.at hL
   replace av:=av.trans fo
   refine gu [] (Ja (bQ Z d c.name x).1 ⟨A1,c1,L1,Y.G,Y.cg,Y.H,Y.ch,Y.V,Y.cv⟩ uQ (hC.ru.same agw) ((bQ Z d c.name x).1.ns.length-1) (by have:=Yf hm0;omega)) ?_
   rintro yV _ _ iq ⟨Y3,rfl,rfl,mF⟩
   replace av:=av.trans iq
   exact jC 6 [7,8] [(3,A_ 2 b18 12)] [(2,(zC (rV ((lE (bQ Z d c.name x).1 ((bQ Z d c.name x).1.ns.length-1)).1) Y3)))] (eO [A_ 2 b18 12] av ⟨Y3,by rw [hch,TL hm0 hm5]<;>rfl,rfl,by rw [hch,TL hm0 hm5];exact mF⟩ [4])
  refine ak.region (jK 3 [64] [(1,w_ (.bool (!(decide (((bQ Z d c.name x).2:Int)=(0:Int))))) rfl)] (sN 64 (((bQ Z d c.name x).2:Int)=(0:Int)) (λXz=>?_) (λXz=>?_)))
  ·refine jK 4 [68] [] (NT (SR (jC 5 [7,8] [(0,A_ 7 nh 12),(2,A_ 4 b18 12)] [(4,(zC (rW ((bQ Z d c.name x).1) A1 c1 Y.G Y.cg Y.H Y.ch Y.V Y.cv)))] (NN (ak.ret (ay.bB (ay.cO [0,1] [zV1 A1 Z d c x c1 L1,zV2 Y Z d c x] (λaho aa5 hL=>?_))))))))
   have fH:dF aho (bQ Z d c.name x).1 ⟨A1,c1,L1,Y.G,Y.cg,Y.H,Y.ch,Y.V,Y.cv⟩:=di.at hL
   replace av:=av.trans aa5
   exact rB _ [A_ 2 b18 12] [4] av (⟨⟨A1,c1,L1,Y.G,Y.cg,Y.H,Y.ch,Y.V,Y.cv⟩,by rw [hch,KP iV]<;>rfl,rfl,by rw [hch,KP iV];exact fH⟩)
  refine jK 4 [68] [(1,a_ 3 b17),(2,w_ (.bool (!(decide ((c.op:Int)=(5:Int))))) rfl)] (NN (cN ((c.op:Int)=(5:Int)) (λh68=>SR (jC 5 [7,8] [(0,A_ 7 nh 12),(2,A_ 4 b18 12)] [(4,(zC (rW ((bQ Z d c.name x).1) A1 c1 Y.G Y.cg Y.H Y.ch Y.V Y.cv)))] (NN (ak.ret (ay.bB (ay.cO [0,1] [zV1 A1 Z d c x c1 L1,zV2 Y Z d c x] (λVA tV hL=>?_))))))) (λh68=>ain ⟨zc,zc⟩ iV)))
  have fH:dF VA (bQ Z d c.name x).1 ⟨A1,c1,L1,Y.G,Y.cg,Y.H,Y.ch,Y.V,Y.cv⟩:=di.at hL
  replace av:=av.trans tV
  exact rB _ [A_ 2 b18 12] [4] av (⟨⟨A1,c1,L1,Y.G,Y.cg,Y.H,Y.ch,Y.V,Y.cv⟩,by rw [hch,KP iV]<;>rfl,rfl,by rw [hch,KP iV];exact fH⟩)
 refine SR (jK 3 [40] [(1,a_ 4 b17)] (NN (cN ((c.op:Int)=(6:Int)) (λuI=>SQ (jK 2 [42] [(1,a_ 4 b17)] (gE [] (QI c.mode) (jK 1 [44] [] (NN (cN (jX c.mode) (λzk=>SR (jC 4 [7,8] [(0,A_ 3 b16 12),(1,A_ 5 b18 12)] [(5,(zC (rV Z Y)))] (NN (ak.ret (ay.bB (ay.bB (ay.cO [0,1] [gZ Y Z,gI Y Z] (λafp Jg hL=>?_)))))))) (λzk=>KX (SR (jC 4 [] [(1,a_ 4 b17),(3,A_ 6 y5 10)] [(6,[(1,vI 2),(2,vI (c.mode)),(8,.string ⟨#[]⟩)])] (NS (jK 3 [51] [(1,a_ 4 b17)] (NN (cP ((c.op:Int)=(5:Int)) (λyu=>ak.region (jC 2 [] [(1,a_ 6 y5)] [(6,[(1,vI 1)])] (NL (mJ ((⟨0,1,c.mode,0,0,0,0,[],⟨#[]⟩,[]⟩:aL)) [3,4,5,6,0,1,2] (⟨⟨rfl,rfl,aio _⟩,ahm n8 uI zk zc⟩))))) (λyu=>ak.skip (mJ ((⟨0,2,c.mode,0,0,0,0,[],⟨#[]⟩,[]⟩:aL)) [3,4,5,6,0,1,2] (⟨⟨rfl,rfl,aio _⟩,ahn n8 uI zk yu⟩)))))))))))))))) (λuI=>ak.skip (mJ ((⟨0,3,511,0,0,0,0,[],c.text,[]⟩:aL)) [3,4,5,6,0,1,2] (⟨⟨rfl,rfl,uO⟩,ahl n8 zc⟩))))))
 have fH:dF afp Z Y:=hI.at hL
 replace av:=av.trans Jg
 exact rB _ [A_ 3 b18 12] [0] av (⟨Y,by rw [afk n8 uI zk]<;>rfl,rfl,by rw [afk n8 uI zk];exact fH⟩)
theorem aa6 {β:Bs} (Z:RS) (Y:RL) (hI:mA β Z Y.L Y.H Y.V) (hC:RC Z) (c:aH) :
 bU Tryz.prog β 84 #[.agg ⟨rV Z Y⟩,.agg ⟨aO c⟩] [gZ Y Z,gI Y Z] (λβ' v l=>∃Y',v=.tuple #[.agg ⟨rV ((mH Z c).1) Y'⟩,vI (mH Z c).2.1,vI (mH Z c).2.2]/\l=[]/\dF β' (mH Z c).1 Y'):=by
 refine mM Tryz.func84 Tryz.ntmps84 (λav R=>SR (jB 1 [2] (λqo=>.ax qo (rV Z Y) 45) (λqo=>jB 1 [3] (λuR=>.ax uR (aO c) 53) (λuR=>jB 3 [4] (λjh=>.ax jh (rZ) 45) (λjh=>NS (jK 3 [10,12] [(0,A_ 3 qo 12),(2,a_ 4 uR)] ?_))))))
 rcases ul hC c.aG with hh|⟨k,hh,hk⟩
 ·refine gE [0,1] ((eF hI (λ_ _ h=>tU Z Y h hC c.aG)).val (ail exV hh)) (jK 5 [7,8] [] (NZ (jK 2 [17] [] (NT (SR (jC 5 [5,6] [(0,A_ 3 qo 12),(2,A_ 5 jh 12)] [(5,(zC (rV Z Y)))] (NN (ak.ret (ay.bB (ay.cO [0,1] [gZ Y Z,gI Y Z] (λahp aa7 hL=>?_)))))))))))
  have fH:dF ahp Z Y:=hI.at hL
  replace av:=av.trans aa7
  exact rB _ [A_ 3 jh 12] [0] av (⟨Y,by rw [X9 hh]<;>rfl,rfl,by rw [X9 hh];exact fH⟩)
 refine ar.sK 0 rfl zc (λmg=>gE [0,1] ((eF hI (λ_ _ h=>tU Z Y h hC c.aG)).val (ail exV hh)) (jK 5 [7,8] [] (NZ (jK 2 [17] [] (NF (KX (ak.join (λ(u:Unit)=>(¬((nd Z.ns k).kind=2/\(nd Z.ns k).id∈Z.aE))) (λ(u:Unit)=>[(2,vP qo),(3,vP uR),(4,vP jh),(7,vI ↑k)]) (λ(u:Unit)=>[gZ Y Z,gI Y Z,.abs R,.ax qo (rV Z Y) 45,pC uR c,.ax jh (rZ) 45]) ?_ ?_)))))))
 ·rintro u n1
  refine SQ (jK 2 [41] [(1,a_ 4 uR)] (gE [] (QI c.mode) (jK 1 [43] [] (NN (cN (jX c.mode) (λlf=>?_) (λlf=>?_))))))
  ·refine SR (jC 4 [5,6] [(0,A_ 3 qo 12),(1,A_ 5 jh 12)] [(5,(zC (rV Z Y)))] (NN (ak.ret (ay.bB (ay.cO [0,1] [gZ Y Z,gI Y Z] (λzf kD hL=>?_))))))
   have fH:dF zf Z Y:=hI.at hL
   replace av:=av.trans kD
   exact rB _ [A_ 3 jh 12] [0] av (⟨Y,by rw [Yb hh n1 lf]<;>rfl,rfl,by rw [Yb hh n1 lf];exact fH⟩)
  refine KX (ak.seq (ak.seq ?_))
  by_cases kQ:qH c.bg/\qH c.bh
  ·have hw1:=kQ.1.1
   have hw2:=kQ.1.2
   have hw3:=kQ.2.1
   have hw4:=kQ.2.2
   refine ak.region (jK 18 [62] [(1,a_ 4 uR),(2,wF ((c.bg:Int)<(0:Int))),(5,a_ 4 uR),(6,wF ((c.bg:Int)>(2147483647:Int))),(10,a_ 4 uR),(11,wF ((c.bh:Int)<(0:Int))),(15,a_ 4 uR),(16,wF ((c.bh:Int)>(2147483647:Int)))] (NF (KX (SQ (jK 2 [65] [(1,A_ 4 uR 2)] (gE [] (CP c.aT c.aJ) (jK 1 [67] [] (NN (cN (fU c.aT c.aJ) (λJM=>?_) (λJM=>?_))))))))))
   ·refine SR (jC 4 [5,6] [(0,A_ 3 qo 12),(1,A_ 5 jh 12)] [(5,(zC (rV Z Y)))] (NN (ak.ret (ay.bB (ay.cO [0,1] [gZ Y Z,gI Y Z] (λVB Jh hL=>?_))))))
    have fH:dF VB Z Y:=hI.at hL
    replace av:=av.trans Jh
    exact rB _ [A_ 3 jh 12] [0] av (⟨Y,by rw [Yc hh n1 lf kQ JM]<;>rfl,rfl,by grind [Yc]⟩)
   refine KX (SR (jK 8 [74,76] [(2,a_ 3 qo),(5,a_ 4 uR),(6,x_ k Z.ns.length (mg))] (ar.Aj 0 (k*10+2) (d:=none) (T:=3) (e:=95) (size:=10) (n:=Z.ns.length) (cap:=Y.c) (A:=Y.A) (xs:=(bD Y.L Z.ns)) (u:=.int .i64 (c.mode)) (a:=(.tmp 76)) (y:=(.tmp 74)) (λ_=>KB) KB (λ_=>KB) (λ_=>KB) KB rfl zc (by rw [oz];omega) (NS (jK 8 [82,84] [(2,a_ 3 qo),(5,a_ 4 uR),(6,x_ k Z.ns.length (mg))] (ar.Aj 0 (k*10+3) (d:=none) (T:=3) (e:=95) (size:=10) (n:=Z.ns.length) (cap:=Y.c) (A:=Y.A) (xs:=((bD Y.L Z.ns).set (k*10+2) (.int .i64 (c.mode)))) (u:=.int .i64 (c.bg)) (a:=(.tmp 84)) (y:=(.tmp 82)) (λ_=>KB) KB (λ_=>KB) (λ_=>KB) KB rfl zc (by rw [aix,oz];omega) (NS (jK 8 [90,92] [(2,a_ 3 qo),(5,a_ 4 uR),(6,x_ k Z.ns.length (mg))] (ar.Aj 0 (k*10+4) (d:=none) (T:=3) (e:=95) (size:=10) (n:=Z.ns.length) (cap:=Y.c) (A:=Y.A) (xs:=(((bD Y.L Z.ns).set (k*10+2) (.int .i64 (c.mode))).set (k*10+3) (.int .i64 (c.bg)))) (u:=.int .i64 (c.bh)) (a:=(.tmp 92)) (y:=(.tmp 90)) (λ_=>KB) KB (λ_=>KB) (λ_=>KB) KB rfl zc (by rw [aix,aix,oz];omega) (NS (jK 8 [98,100] [(2,a_ 3 qo),(5,A_ 4 uR 2),(6,x_ k Z.ns.length (mg))] (ar.Em 0 (k*10+5) (d:=none) (T:=26) (e:=95) (size:=10) (n:=Z.ns.length) (cap:=Y.c) (A:=Y.A) (xs:=((((bD Y.L Z.ns).set (k*10+2) (.int .i64 (c.mode))).set (k*10+3) (.int .i64 (c.bg))).set (k*10+4) (.int .i64 (c.bh)))) (u:=.int .i64 (c.aT)) (u2:=.int .i64 (c.aJ)) (a:=(.tmp 100)) (y:=(.tmp 98)) (λ_=>KB) KB (λ_=>KB) (λ_=>KB) KB rfl rfl zc (by rw [aix,aix,aix,oz];omega) (ar.cJ 0 rfl (aa1 hk) (NS (jC 4 [5,6] [(0,A_ 3 qo 12),(1,A_ 5 jh 12)] [(5,(zC (rV Z Y)))] (NN (ak.ret (ay.cO [0,1] [.abs (aF 95 10 Y.A ((zS Z k c).ns.length) Y.c (bD Y.L (zS Z k c).ns)),gI Y Z] (λahq aa8 hL=>?_)))))))))))))))))))
   have fH:dF ahq (zS Z k c) Y:=(hI.meta hk).at hL
   replace av:=av.trans aa8
   exact rB (.tuple #[.agg ⟨rV Z Y⟩,vI 0,vI 0]) [A_ 3 jh 12] [0] av (⟨Y,by simp only [rV];rw [Ye hh n1 lf kQ JM];show _=_;rw [Jc]<;>rfl,rfl,by grind [Ye]⟩)
  refine ak.region (jK 4 [48] [(1,a_ 4 uR),(2,w_ (.bool (decide ((c.bg:Int)<(0:Int)))) rfl)] (sP 48 ((c.bg:Int)<(0:Int)) (λh48=>?_) (λh48=>?_)))
  ·refine jK 14 [62] [] (NT (SR (jC 4 [5,6] [(0,A_ 3 qo 12),(1,A_ 5 jh 12)] [(5,(zC (rV Z Y)))] (NN (ak.ret (ay.bB (ay.cO [0,1] [gZ Y Z,gI Y Z] (λafq Ji hL=>?_))))))))
   have fH:dF afq Z Y:=hI.at hL
   replace av:=av.trans Ji
   exact rB _ [A_ 3 jh 12] [0] av (⟨Y,by rw [yZ hh n1 lf kQ]<;>rfl,rfl,by rw [yZ hh n1 lf kQ];exact fH⟩)
  refine jK 5 [53] [(1,a_ 4 uR),(2,w_ (.bool (decide ((c.bg:Int)>(2147483647:Int)))) rfl)] (sP 53 ((c.bg:Int)>(2147483647:Int)) (λMC=>?_) (λMC=>?_))
  ·refine jK 9 [62] [] (NT (SR (jC 4 [5,6] [(0,A_ 3 qo 12),(1,A_ 5 jh 12)] [(5,(zC (rV Z Y)))] (NN (ak.ret (ay.bB (ay.cO [0,1] [gZ Y Z,gI Y Z] (λahr aa9 hL=>?_))))))))
   have fH:dF ahr Z Y:=hI.at hL
   replace av:=av.trans aa9
   exact rB _ [A_ 3 jh 12] [0] av (⟨Y,by rw [yZ hh n1 lf kQ]<;>rfl,rfl,by rw [yZ hh n1 lf kQ];exact fH⟩)
  refine jK 5 [58] [(1,a_ 4 uR),(2,w_ (.bool (decide ((c.bh:Int)<(0:Int)))) rfl)] (sP 58 ((c.bh:Int)<(0:Int)) (λNC=>?_) (λNC=>?_))
  ·refine jK 4 [62] [] (NT (SR (jC 4 [5,6] [(0,A_ 3 qo 12),(1,A_ 5 jh 12)] [(5,(zC (rV Z Y)))] (NN (ak.ret (ay.bB (ay.cO [0,1] [gZ Y Z,gI Y Z] (λahs abb hL=>?_))))))))
   have fH:dF ahs Z Y:=hI.at hL
   replace av:=av.trans abb
   exact rB _ [A_ 3 jh 12] [0] av (⟨Y,by rw [yZ hh n1 lf kQ]<;>rfl,rfl,by rw [yZ hh n1 lf kQ];exact fH⟩)
  refine jK 4 [62] [(1,a_ 4 uR),(2,w_ (.bool (decide ((c.bh:Int)>(2147483647:Int)))) rfl)] (NN (cP ((c.bh:Int)>(2147483647:Int)) (λG7=>SR (jC 4 [5,6] [(0,A_ 3 qo 12),(1,A_ 5 jh 12)] [(5,(zC (rV Z Y)))] (NN (ak.ret (ay.bB (ay.cO [0,1] [gZ Y Z,gI Y Z] (λxK kE hL=>?_))))))) (λG7=>ain ⟨⟨zc,zc⟩,⟨zc,zc⟩⟩ kQ)))
  have fH:dF xK Z Y:=hI.at hL
  replace av:=av.trans kE
  exact rB _ [A_ 3 jh 12] [0] av (⟨Y,by rw [yZ hh n1 lf kQ]<;>rfl,rfl,by rw [yZ hh n1 lf kQ];exact fH⟩)
 refine ak.seq ?_
 by_cases hk2:(nd Z.ns k).kind=2
 ·refine jM [0,1,2,3,4,5,6,7,8,9,10,11,12,13,14,15,16,517,518] [3,0] (jG 17 [2,3,4,7,28,29,36] [(2,a_ 0 qo),(4,x_ k Z.ns.length (mg)),(6,v_ 1 (nA Z.ns Y.L Y.A Y.c k 1 hk rfl)),(7,wT (((nd Z.ns k).kind:Int)=(2:Int)) hk2),(9,A_ 0 qo 12),(12,a_ 0 qo),(14,x_ k Z.ns.length (mg)),(16,v_ 1 (nA Z.ns Y.L Y.A Y.c k 0 hk rfl))] (kL [3,0] [0,1] (eF hI (λ_ _ h=>xI Z Y h hC.toRB (nd Z.ns k).id)) ?_ (by rintro _ _ ⟨rfl,rfl⟩;kernel_rfl)))
  rintro _ _ ⟨rfl,rfl⟩
  refine eH.last KB (jK 1 [38] [] (NL (ay.np (NX (cP ((nd Z.ns k).id∈Z.aE) (λE7=>SR (jC 4 [5,6] [(0,A_ 3 qo 12),(1,A_ 5 jh 12)] [(5,(zC (rV Z Y)))] (NN (ak.ret (ay.bB (ay.cO [0,1] [gZ Y Z,gI Y Z] (λaht abd hL=>?_))))))) (λE7=>ak.skip (mJ () [0,1,2,3,4,5] ((λq=>E7 q.2)))))))))
  have fH:dF aht Z Y:=hI.at hL
  replace av:=av.trans abd
  exact rB _ [A_ 3 jh 12] [0] av (⟨Y,by rw [Ya hh ⟨hk2,E7⟩]<;>rfl,rfl,by grind [Ya]⟩)
 refine jM [0,1,2,3,4,5,6,7,8,9,10,11,12,13,14,15,16,517,518] [3,0] (jG 17 [2,3,4,7,28,29,36] [(2,a_ 0 qo),(4,x_ k Z.ns.length (mg)),(6,v_ 1 (nA Z.ns Y.L Y.A Y.c k 1 hk rfl)),(7,wF (((nd Z.ns k).kind:Int)=(2:Int)) hk2)] (eH.cut (ι:=Unit) (bL:=λ(_:Unit)=>[(2,vP qo),(3,vP uR),(4,vP jh),(7,vI ↑k),(28,.bool false),(37,undef)]) (cR:=λ(_:Unit)=>[gZ Y Z,gI Y Z,.abs R,.ax qo (rV Z Y) 45,.ax uR (aO c) 53,.ax jh (rZ) 45]) [3,0] KB ?_ rfl (λ_=>KB) ?_))
 ·exact jK 1 [37] [] (NL (MD () [2,3,4,7,28,37] [0,1,2,3,4,5]))
 rintro _
 exact eH.last KB (jK 1 [38] [] (NL (ay.np (NX (CF (ak.skip (mJ () [0,1,2,3,4,5] ((λq=>hk2 q.1)))))))))
end
section
open Go.RowKit Go.Maps bF aD
attribute [local irreducible] ar bN ak ay lq
noncomputable abbrev zW1 (b1:Nat) (Y:RL) (Z:RS) (A1:Option Addr) (c:aH) (c1:Nat) (B1) (d1):=(.ax b1 [.slice Y.A (Z.ns.length) (Y.c),.slice Y.G (Z.aE.length) (Y.cg),vI (Z.cH),vI (Z.aI),.slice A1 ((del c.aG Z.us).length) (c1),.slice B1 ((del c.aG Z.us).length) (d1),vI (Z.cN),vI (Z.cB),vI (Z.cH),vI (Z.cS),vI (Z.cZ),vI (Z.last)] 45:HP)
theorem Ym {β:Bs} (Z:RS) (Y:RL) (hI:mA β Z Y.L Y.H Y.V) (hC:RC Z) (hD:RD 0 Z) (c:aH) (hn:c.name.size<=1048576) (ht:c.text.size<=1048576) (iV:c.op=9->∀k,iG Z c.aG=.ok k->(nd Z.ns k).kind=2) :
 bU Tryz.prog β 57 #[.agg ⟨rV Z Y⟩,.agg ⟨aO c⟩] [gZ Y Z,gI Y Z] (λβ' v l=>∃Y',v=.tuple #[.agg ⟨rV ((cq Z c).1) Y'⟩,vI (cq Z c).2.1,vI (cq Z c).2.2]/\l=[]/\dF β' (cq Z c).1 Y'):=by
 refine mM Tryz.func57 Tryz.ntmps57 (λav R=>SR (jB 1 [2] (λb1=>.ax b1 (rV Z Y) 45) (λb1=>jB 1 [3] (λb2=>.ax b2 (aO c) 53) (λb2=>jB 3 [4] (λb3=>.ax b3 (rZ) 45) (λb3=>NZ (jK 2 [24] [(1,a_ 4 b2)] (NN (ak.block (SR (jK 2 [25] [] (NN (cP ((c.op:Int)=(1:Int)) (λqi=>?_) (λqi=>?_)))))))))))))
 ·refine SR (jK 4 [28,30] [(1,a_ 3 b1),(3,a_ 4 b2)] ?_)
  by_cases h1:0<=gF Z.ns c.other
  ·have hk1:=(nE h1).1
   refine ar.sK 0 rfl zc (λmg=>gE [0,1] ((eF hI (λ_ _ h=>zA Y.A Y.c Z.ns Y.L h.n hC.fD (by have:=hC.ns;omega) c.other)).val (ail (Value.int .i64) (nE h1).2.2)) (jK 1 [7] [] (NZ (jK 2 [33] [(1,wF (((((bY Z.ns c.other):Nat):Int):Int)<(0:Int)))] (NF (KX (SQ (jK 8 [42] [(2,a_ 3 b1),(4,x_ (bY Z.ns c.other) Z.ns.length (mg)),(6,v_ 0 (nA Z.ns Y.L Y.A Y.c (bY Z.ns c.other) 1 hk1 rfl))] (NN (cN (((nd Z.ns (bY Z.ns c.other)).kind:Int)=(2:Int)) (λlf=>?_) (λlf=>?_)))))))))))
   ·refine SR (jC 4 [5,6] [(0,A_ 3 b1 12),(1,A_ 5 b3 12)] [(5,(zC (rV Z Y)))] (NN (ak.ret (ay.bB (ay.fT (ay.bB (ay.cO [0,1] [gZ Y Z,gI Y Z] (λDw kP hL=>?_))))))))
    have fH:dF Dw Z Y:=hI.at hL
    replace av:=av.trans kP
    exact rB _ [A_ 3 b3 12] [0] av (⟨Y,by rw [acs qi h1 lf]<;>rfl,rfl,by rw [acs qi h1 lf];exact fH⟩)
   refine KX (SR (jK 2 [44,45] [(0,A_ 3 b1 12)] (ar.cO [0,1] [gZ Y Z,gI Y Z] (λβ1 cD hL=>?_))))
   have uQ:dF β1 Z Y:=hI.at hL
   replace av:=av.trans cD
   refine gu [] (Ja Z Y uQ hC.ru (bY Z.ns c.other) hk1) ?_
   rintro ox _ _ fo ⟨Y3,rfl,rfl,mF⟩
   replace av:=av.trans fo
   exact jC 6 [5,6] [(3,A_ 3 b3 12)] [(3,(zC (rV ((lE Z (bY Z.ns c.other)).1) Y3)))] (eO [A_ 3 b3 12] av ⟨Y3,by rw [acu qi h1 lf]<;>rfl,rfl,by rw [acu qi h1 lf];exact mF⟩)
  refine gE [0,1] ((eF hI (λ_ _ h=>zA Y.A Y.c Z.ns Y.L h.n hC.fD (by have:=hC.ns;omega) c.other)).val (ail (Value.int .i64) (Dg h1))) (jK 1 [7] [] (NZ (jK 2 [33] [] (NT (SR (jC 4 [5,6] [(0,A_ 3 b1 12),(1,A_ 5 b3 12)] [(5,(zC (rV Z Y)))] (NN (ak.ret (ay.bB (ay.fT (ay.bB (ay.cO [0,1] [gZ Y Z,gI Y Z] (λKR kg hL=>?_)))))))))))))
  have fH:dF KR Z Y:=hI.at hL
  replace av:=av.trans kg
  exact rB _ [A_ 3 b3 12] [0] av (⟨Y,by rw [acr qi (Dg h1)]<;>rfl,rfl,by rw [acr qi (Dg h1)];exact fH⟩)
 refine SR (jK 2 [50] [] (NN (cP ((c.op:Int)=(2:Int)) (λh50=>?_) (λh50=>?_))))
 ·refine SR (jK 2 [52,53] [(0,A_ 3 b1 12),(1,A_ 4 b2 13)] (gu [0,1] (NA Z Y hI hC c hn 2) ?_))
  rintro β1 _ _ cD ⟨Y3,rfl,rfl,mF⟩
  replace av:=av.trans cD
  exact jC 6 [5,6] [(3,A_ 3 b3 12)] [(3,(zC (rV ((jo Z c 2).1) Y3)))] (eO [A_ 3 b3 12] av ⟨Y3,by rw [afl h50]<;>rfl,rfl,by rw [afl h50];exact mF⟩)
 refine SR (jK 2 [58] [] (NN (cP ((c.op:Int)=(3:Int)) (λNC=>?_) (λNC=>?_))))
 ·refine SR (jK 2 [60,61] [(0,A_ 3 b1 12),(1,A_ 4 b2 13)] (gu [0,1] (NA Z Y hI hC c hn 1) ?_))
  rintro β1 _ _ cD ⟨Y3,rfl,rfl,mF⟩
  replace av:=av.trans cD
  exact jC 6 [5,6] [(3,A_ 3 b3 12)] [(3,(zC (rV ((jo Z c 1).1) Y3)))] (eO [A_ 3 b3 12] av ⟨Y3,by rw [afm NC]<;>rfl,rfl,by rw [afm NC];exact mF⟩)
 refine ak.join (λ(q:Bool)=>(q=true↔KQ c.op)) (λ(q:Bool)=>[(2,vP b1),(3,vP b2),(4,vP b3),(24,vI (c.op)),(66,.bool q)]) (λ(q:Bool)=>[gZ Y Z,gI Y Z,.abs R,.ax b1 (rV Z Y) 45,pC b2 c,.ax b3 (rZ) 45]) ?_ (SR (jK 2 [66] [] (NN (cP ((c.op:Int)=(4:Int)) (λmE=>ak.skip (mJ ((decide ((c.op:Int)=(4:Int)))) [0,1,2,3,4,5] (⟨λe=>Pe,λe=>aiD (by unfold KQ at e;omega)⟩))) (λmE=>SR (jK 2 [66] [] (NN (cP ((c.op:Int)=(5:Int)) (λmE=>ak.skip (mJ ((decide ((c.op:Int)=(5:Int)))) [0,1,2,3,4,5] (⟨λe=>Pe,λe=>aiD (by unfold KQ at e;omega)⟩))) (λmE=>SR (jK 2 [66] [] (NN (cP ((c.op:Int)=(6:Int)) (λmE=>ak.skip (mJ ((decide ((c.op:Int)=(6:Int)))) [0,1,2,3,4,5] (⟨λe=>Pe,λe=>aiD (by unfold KQ at e;omega)⟩))) (λmE=>SR (jK 2 [66] [] (NN (cP ((c.op:Int)=(8:Int)) (λmE=>ak.skip (mJ ((decide ((c.op:Int)=(8:Int)))) [0,1,2,3,4,5] (⟨λe=>Pe,λe=>aiD (by unfold KQ at e;omega)⟩))) (λmE=>ak.region (jK 2 [66] [] (NL (mJ ((decide ((c.op:Int)=(14:Int)))) [0,1,2,3,4,5] (⟨λe=>Pe,λe=>aiD (by unfold KQ at e;omega)⟩)))))))))))))))))))))
 rintro q hq
 refine ak.cond (b:=q) (λ_=>KB) (λmE=>?_) (λmE=>?_)
 ·have KE:=hq.1 mE
  refine SR (jK 5 [73,75,77] [(0,A_ 3 b1 12),(2,a_ 4 b2),(4,a_ 4 b2)] ?_)
  rcases si hC c.aG c.name 192 with ⟨e,h1,FX⟩|⟨d,h1,hd⟩
  ·refine gE [0,1] ((eF hI (λ_ _ h=>pH Z Y h hC c.aG c.name hn 192)).val (ail exV h1)) (jK 5 [8,9] [] (NZ (jK 2 [82] [(1,OL ((e:Int)=(0:Int)) FX)] (NT (SR (jC 5 [5,6] [(0,A_ 3 b1 12),(2,A_ 5 b3 12)] [(5,(zC (rV Z Y)))] (NN (ak.ret (ay.bB (ay.fT (ay.bB (ay.cO [0,1] [gZ Y Z,gI Y Z] (λXD vS hL=>?_)))))))))))))
   have fH:dF XD Z Y:=hI.at hL
   replace av:=av.trans vS
   exact rB _ [A_ 3 b3 12] [0] av (⟨Y,by rw [acv (hq.1 mE) h1]<;>rfl,rfl,by rw [acv (hq.1 mE) h1];exact fH⟩)
  refine gE [0,1] ((eF hI (λ_ _ h=>pH Z Y h hC c.aG c.name hn 192)).val (ail exV h1)) (jK 5 [8,9] [] (NZ (jK 2 [82] [(1,w_ (.bool false) rfl)] (NF (KX (SR (jK 3 [85,86,87] [(0,A_ 3 b1 12),(1,A_ 4 b2 13)] (gu [0,1] (Vz Z Y hI hC hD zc c ht d hd) ?_))))))))
  rintro β1 _ _ cD ⟨Y3,rfl,rfl,mF⟩
  replace av:=av.trans cD
  exact jC 6 [5,6] [(3,A_ 3 b3 12)] [(3,(zC (rV ((iI Z c d).1) Y3)))] (eO [A_ 3 b3 12] av ⟨Y3,by rw [acw (hq.1 mE) h1]<;>rfl,rfl,by rw [acw (hq.1 mE) h1];exact mF⟩)
 have KE:¬(c.op=4\/c.op=5\/c.op=6\/c.op=8\/c.op=14):=λe=>by rw [hq.2 e] at mE;cases mE
 refine SR (jK 2 [92] [] (NN (cP ((c.op:Int)=(7:Int)) (λEL=>?_) (λEL=>?_))))
 ·refine SR (jK 2 [95,96] [(0,A_ 3 b1 12),(1,A_ 4 b2 13)] ?_)
  rcases Nr hC c 64 with ⟨a,e,h1,FX,QT⟩|⟨f,to,h1,hf,dY,QT⟩
  ·refine gE [0,1] ((eF hI (λ_ _ h=>GK Z Y h hC c hn ht 64)).val QT) (jK 7 [10,11,12] [] (NZ (jK 2 [102] [(1,OL ((e:Int)=(0:Int)) FX)] (NT (SR (jC 5 [5,6] [(0,A_ 3 b1 12),(2,A_ 5 b3 12)] [(5,(zC (rV Z Y)))] (NN (ak.ret (ay.bB (ay.fT (ay.bB (ay.cO [0,1] [gZ Y Z,gI Y Z] (λFV kN hL=>?_)))))))))))))
   have fH:dF FV Z Y:=hI.at hL
   replace av:=av.trans kN
   exact rB _ [A_ 3 b3 12] [0] av (⟨Y,by rw [acy EL h1]<;>rfl,rfl,by rw [acy EL h1];exact fH⟩)
  refine gE [0,1] ((eF hI (λ_ _ h=>GK Z Y h hC c hn ht 64)).val QT) (jK 7 [10,11,12] [] (NZ (jK 2 [102] [(1,w_ (.bool false) rfl)] (NF (KX (SR (jK 4 [105,106,108] [(0,A_ 3 b1 12),(3,a_ 4 b2)] ?_)))))))
  rcases kO Z.ns f c.name with hl|⟨k,hl,hk⟩
  ·refine gE [0,1] ((eF hI (λ_ _ h=>jL Z Y h hC f hf c.name)).val (ail (Value.int .i64) hl)) (jK 1 [13] [] (NZ (jK 2 [111] [] (NT (SR (jC 4 [5,6] [(0,A_ 3 b1 12),(1,A_ 5 b3 12)] [(5,(zC (rV Z Y)))] (NN (ak.ret (ay.bB (ay.fT (ay.bB (ay.cO [0,1] [gZ Y Z,gI Y Z] (λQA oW hL=>?_)))))))))))))
   have fH:dF QA Z Y:=hI.at hL
   replace av:=av.trans oW
   exact rB _ [A_ 3 b3 12] [0] av (⟨Y,by rw [acA EL h1 hl]<;>rfl,rfl,by rw [acA EL h1 hl];exact fH⟩)
  refine ar.sK 0 rfl zc (λmg=>gE [0,1] ((eF hI (λ_ _ h=>jL Z Y h hC f hf c.name)).val (ail (Value.int .i64) hl)) (jK 1 [13] [] (NZ (jK 2 [111] [(1,wF (((k:Int):Int)<(0:Int)))] (NF (KX (SQ (jK 8 [120] [(2,a_ 3 b1),(4,x_ k Z.ns.length (mg)),(6,v_ 0 (nA Z.ns Y.L Y.A Y.c k 1 hk rfl))] (NN (cP (((nd Z.ns k).kind:Int)=(2:Int)) (λQU=>?_) (λQU=>?_)))))))))))
  ·refine SR (jC 4 [5,6] [(0,A_ 3 b1 12),(1,A_ 5 b3 12)] [(5,(zC (rV Z Y)))] (NN (ak.ret (ay.bB (ay.fT (ay.bB (ay.cO [0,1] [gZ Y Z,gI Y Z] (λβ9 uo hL=>?_))))))))
   have fH:dF β9 Z Y:=hI.at hL
   replace av:=av.trans uo
   exact rB _ [A_ 3 b3 12] [0] av (⟨Y,by rw [acB EL h1 hl QU]<;>rfl,rfl,by rw [acB EL h1 hl QU];exact fH⟩)
  refine KX (SQ (jK 4 [122,123,125] [(0,A_ 3 b1 12),(3,a_ 4 b2)] ?_))
  rcases kO Z.ns to c.text with hl2|⟨t,hl2,ht⟩
  ·refine gE [0,1] ((eF hI (λ_ _ h=>jL Z Y h hC to dY c.text)).val (ail (Value.int .i64) hl2)) (jK 1 [127] [] (NF (KX (SQ (jK 1 [129] [(0,A_ 3 b1 12)] (gE [0,1] (eF hI (λ_ _ h=>QC Z Y h hC.toRB)) (jK 1 [131] [] (NN (cP (((((dI Z.ns Z.ns.length):Nat):Int):Int)>=(8192:Int)) (λahu=>?_) (λahu=>?_))))))))))
   ·refine SR (jC 4 [5,6] [(0,A_ 3 b1 12),(1,A_ 5 b3 12)] [(5,(zC (rV Z Y)))] (NN (ak.ret (ay.bB (ay.fT (ay.bB (ay.cO [0,1] [gZ Y Z,gI Y Z] (λFR ji hL=>?_))))))))
    have fH:dF FR Z Y:=hI.at hL
    replace av:=av.trans ji
    exact rB (.tuple #[.agg ⟨rV Z Y⟩,vI 0,vI 177]) [A_ 3 b3 12] [0] av (⟨Y,by grind [acD],rfl,by grind [acD]⟩)
   refine KX (ak.seq (ak.xQ 11 KB KB (lq.seg (k':=11) (bL:=[(4,vP b3),(133,.agg #[.slice Y.A (Z.ns.length) (Y.c),.slice Y.G (Z.aE.length) (Y.cg),vI (Z.cH),vI (Z.aI),.slice Y.H (Z.us.length) (Y.ch),.slice Y.V (Z.us.length) (Y.cv),vI (Z.cN),vI (Z.cB),vI (Z.cH),vI (Z.cS),vI (Z.cZ),vI (Z.last)]),(134,vI ↑to),(136,.string c.text),(143,vI ((nd Z.ns k).id))]) (eV:=[(∀F w,(aF 95 10 Y.A Z.ns.length Y.c (bD Y.L Z.ns)).h F w->w.cell? ⟨(bG Y.A),bE Y.A+k*10,none⟩=some (vI ((nd Z.ns k).id))),((k:Nat):Int)=((k:Nat):Int),k<Z.ns.length,(⟨(bG Y.A),bE Y.A,none⟩:Addr).spot=none,(Y.A:Option Addr)=some ⟨(bG Y.A),bE Y.A,none⟩,b1=b1,b2=b2,b1=b1,b1=b1,b1=b1,b1=b1,b1=b1,b1=b1,b1=b1,b1=b1,b1=b1,b1=b1,b1=b1,b1=b1]) [⟨[.at 3,.at 3,.at 3,.at 3,.at 3,.at 3,.at 3,.at 3,.at 3,.at 3,.at 3,.at 3],none,none,none,none⟩,o_,o_,⟨[.at 4],none,none,none,none⟩,o_,o_,⟨[.at 3],none,none,none,none⟩,o_,⟨[],some k,none,some ⟨(bG Y.A),bE Y.A,none⟩,none⟩,o_,⟨[.view 0 (.int .i64 ((nd Z.ns k).id))],none,none,none,none⟩] [4,133,134,136,143] (λ_ _=>KB) ⟨nA Z.ns Y.L Y.A Y.c k 0 hk rfl,rfl,zc,rfl,mg,rfl,rfl,rfl,rfl,rfl,rfl,rfl,rfl,rfl,rfl,rfl,rfl,rfl,rfl,trivial⟩ Pd (lq.done rfl (gu [0,1] (Cy Z Y hI hC.toRB to dY c.text (nd Z.ns k).id) ?_)))))
   rintro Jf _ _ p4 ⟨L1,rfl,rfl,di⟩
   replace av:=av.trans p4
   refine jC 3 [5,6] [(0,A_ 5 b3 12)] [(5,(zC (rV (dm Z to c.text (nd Z.ns k).id) Y)))] (NN (ak.ret (ay.fT (ay.bB (ay.cO [0,1] [.abs (aF 95 10 Y.A ((dm Z to c.text (nd Z.ns k).id).ns.length) Y.c (bD L1 (dm Z to c.text (nd Z.ns k).id).ns)),.abs (aF 3 1 Y.G ((dm Z to c.text (nd Z.ns k).id).aE.length) Y.cg (bH (dm Z to c.text (nd Z.ns k).id).aE))] (λI6 qW hL=>?_))))))
   have fH:dF I6 (dm Z to c.text (nd Z.ns k).id) ⟨Y.A,Y.c,L1,Y.G,Y.cg,Y.H,Y.ch,Y.V,Y.cv⟩:=di.at hL
   replace av:=av.trans qW
   exact rB _ [A_ 3 b3 12] [0] av (⟨⟨Y.A,Y.c,L1,Y.G,Y.cg,Y.H,Y.ch,Y.V,Y.cv⟩,by rw [acE EL h1 hl QU hl2 zc]<;>rfl,rfl,by grind [acE]⟩)
  refine gE [0,1] ((eF hI (λ_ _ h=>jL Z Y h hC to dY c.text)).val (ail (Value.int .i64) hl2)) (jK 1 [127] [(0,wT (((t:Int):Int)>=(0:Int)))] (NT (SR (jC 4 [5,6] [(0,A_ 3 b1 12),(1,A_ 5 b3 12)] [(5,(zC (rV Z Y)))] (NN (ak.ret (ay.bB (ay.fT (ay.bB (ay.cO [0,1] [gZ Y Z,gI Y Z] (λpZ j4 hL=>?_)))))))))))
  have fH:dF pZ Z Y:=hI.at hL
  replace av:=av.trans j4
  exact rB _ [A_ 3 b3 12] [0] av (⟨Y,by rw [acC EL h1 hl QU hl2]<;>rfl,rfl,by grind [acC]⟩)
 refine SR (jK 2 [145] [] (NN (cP ((c.op:Int)=(9:Int)) (λpU=>?_) (λpU=>?_))))
 ·refine SR (jK 3 [148,150] [(0,A_ 3 b1 12),(2,a_ 4 b2)] ?_)
  rcases ul hC c.aG with hh|⟨k,hh,hk⟩
  ·refine gE [0,1] ((eF hI (λ_ _ h=>tU Z Y h hC c.aG)).val (ail exV hh)) (jK 5 [14,15] [] (NZ (jK 2 [155] [] (NT (SR (jC 5 [5,6] [(0,A_ 3 b1 12),(2,A_ 5 b3 12)] [(5,(zC (rV Z Y)))] (NN (ak.ret (ay.bB (ay.fT (ay.bB (ay.cO [0,1] [gZ Y Z,gI Y Z] (λsJ gV hL=>?_)))))))))))))
   have fH:dF sJ Z Y:=hI.at hL
   replace av:=av.trans gV
   exact rB _ [A_ 3 b3 12] [0] av (⟨Y,by rw [acF pU hh]<;>rfl,rfl,by rw [acF pU hh];exact fH⟩)
  refine ar.sK 0 rfl zc (λmg=>gE [0,1] ((eF hI (λ_ _ h=>tU Z Y h hC c.aG)).val (ail exV hh)) (jK 5 [14,15] [] (NZ (jK 2 [155] [] (NF (KX (SQ (jK 8 [165] [(2,a_ 3 b1),(4,x_ k Z.ns.length (mg)),(6,v_ 0 (nA Z.ns Y.L Y.A Y.c k 1 hk rfl))] (NN (cP (((nd Z.ns k).kind:Int)=(2:Int)) (λCX=>SR (jC 4 [5,6] [(0,A_ 3 b1 12),(1,A_ 5 b3 12)] [(5,(zC (rV Z Y)))] (NN (ak.ret (ay.bB (ay.fT (ay.bB (ay.cO [0,1] [gZ Y Z,gI Y Z] (λF6 qY hL=>?_))))))))) (λCX=>ain (iV pU k hh) CX)))))))))))
  have fH:dF F6 Z Y:=hI.at hL
  replace av:=av.trans qY
  exact rB _ [A_ 3 b3 12] [0] av (⟨Y,by rw [acG pU hh CX]<;>rfl,rfl,by rw [acG pU hh CX];exact fH⟩)
 refine SR (jK 2 [175] [] (NN (cP ((c.op:Int)=(10:Int)) (λabe=>?_) (λabe=>?_))))
 ·refine SR (jK 2 [177,178] [(0,A_ 3 b1 12),(1,A_ 4 b2 13)] (gu [0,1] (aa6 Z Y hI hC c) ?_))
  rintro β1 _ _ cD ⟨Y3,rfl,rfl,mF⟩
  replace av:=av.trans cD
  exact jC 6 [5,6] [(3,A_ 3 b3 12)] [(3,(zC (rV ((mH Z c).1) Y3)))] (eO [A_ 3 b3 12] av ⟨Y3,by rw [acI abe]<;>rfl,rfl,by rw [acI abe];exact mF⟩)
 refine SR (jK 2 [183] [] (NN (cP ((c.op:Int)=(13:Int)) (λQV=>?_) (λQV=>?_))))
 ·refine SR (jK 4 [187,189] [(1,A_ 3 b1 4),(3,a_ 4 b2)] ?_)
  by_cases hm:c.aG∈aY Z.us
  ·obtain⟨k,fC,hk,hx,_⟩:=XO hC.usr hm
   refine gL [] (aaO Z.cH Z.aI Y.H Y.V Y.ch Y.cv Z.us hI.h hI.v (by have:=hC.us;omega) c.aG hC.usr k hk fC hx) ?_
   rintro _ _ ⟨A1,c1,B1,d1,rfl,rfl⟩
   refine jN 8 [16,18] (λb16=>[(5,A_ 8 b16 4)]) (λ_=>[]) (λb16=>.ax b16 [vI (Z.cH),vI (Z.aI),.slice A1 ((del c.aG Z.us).length) (c1),.slice B1 ((del c.aG Z.us).length) (d1)] 43) (λb16=>NS (jC 3 [] [(0,A_ 8 b16 4),(2,A_ 5 b1 4)] [(5,[(4,.slice A1 ((del c.aG Z.us).length) (c1)),(5,.slice B1 ((del c.aG Z.us).length) (d1))])] (NS (jK 1 [196] [(0,A_ 5 b1 12)] (ar.nw (Φ:=λβ'=>cA β' A1 (bH (aY (del c.aG Z.us)))) 0 [1,2,3,4,5,6,7,8] (eX:=[.abs (aF 3 1 B1 ((del c.aG Z.us).length) d1 (bH (ja (del c.aG Z.us)))),gZ Y Z,gI Y Z,.abs R,zW1 b1 Y Z A1 c c1 B1 d1,.ax b2 (aO c) 53,.ax b3 (rZ) 45,.ax b16 [vI (Z.cH),vI (Z.aI),.slice A1 ((del c.aG Z.us).length) (c1),.slice B1 ((del c.aG Z.us).length) (d1)] 43]) rfl rfl KB (λF w h β' h1 h2=>cA.iM h h1 h2) (λβ1 cD hH=>?_))))))
   replace hI:=hI.le cD
   replace av:=av.trans cD
   refine ar.nw (Φ:=λβ'=>cA β' B1 (bH (ja (del c.aG Z.us)))) 0 [1,2,3,4,5,6,7] (eX:=[gZ Y Z,gI Y Z,.abs R,zW1 b1 Y Z A1 c c1 B1 d1,.ax b2 (aO c) 53,.ax b3 (rZ) 45,.ax b16 [vI (Z.cH),vI (Z.aI),.slice A1 ((del c.aG Z.us).length) (c1),.slice B1 ((del c.aG Z.us).length) (d1)] 43]) rfl rfl KB (λF w h β' h1 h2=>cA.iM h h1 h2) (λox fo hV=>?_)
   replace hI:=hI.le fo
   replace hH:=hH.le fo
   replace av:=av.trans fo
   refine ar.cO [0,1] [gZ Y Z,gI Y Z] (λyV iq hL=>?_)
   have uQ:dF yV ({Z with us:=(del c.aG Z.us)}:RS) ⟨Y.A,Y.c,Y.L,Y.G,Y.cg,A1,c1,B1,d1⟩:=have q:=hI.at (ch:=Y.ch) (cv:=Y.cv) hL;⟨⟨q.g,hH.le hL.le,hV.le hL.le⟩,q.n⟩
   replace av:=av.trans iq
   refine gu [] (yY ({Z with us:=(del c.aG Z.us)}:RS) ⟨Y.A,Y.c,Y.L,Y.G,Y.cg,A1,c1,B1,d1⟩ uQ ⟨hC.ns,hC.aE,air Vn hC.us,hC.ah,hC.dat⟩) ?_
   rintro Dw _ _ kP ⟨Y3,rfl,rfl,mF⟩
   replace av:=av.trans kP
   exact jC 4 [5,6] [(1,A_ 3 b3 12)] [(3,(zC (rV (fV ({Z with us:=(del c.aG Z.us)}:RS)) Y3)))] (eO [A_ 3 b3 12] av ⟨Y3,by rw [Yg QV hm]<;>rfl,rfl,by rw [Yg QV hm];exact mF⟩)
  refine gE [] (Vt Z.cH Z.aI Y.H Y.V Y.ch Y.cv Z.us hI.h (by have:=hC.us;omega) c.aG (Mb hm).1) (jN 8 [16,18] (λb17=>[(5,A_ 6 b17 4)]) (λ_=>[]) (λb17=>.ax b17 [vI (Z.cH),vI (Z.aI),.slice Y.H (Z.us.length) (Y.ch),.slice Y.V (Z.us.length) (Y.cv)] 43) (λb17=>NS (jC 3 [] [(0,A_ 6 b17 4),(2,A_ 3 b1 4)] [] (NS (jK 1 [196] [(0,A_ 3 b1 12)] (ar.cO [0,1] [gZ Y Z,gI Y Z] (λyV iq hL=>?_)))))))
  have uQ:dF yV Z Y:=hI.at hL
  replace av:=av.trans iq
  refine gu [] (yY Z Y uQ hC.toRB) ?_
  rintro Dw _ _ kP ⟨Y3,rfl,rfl,mF⟩
  replace av:=av.trans kP
  exact jC 4 [5,6] [(1,A_ 3 b3 12)] [(3,(zC (rV (fV Z) Y3)))] (eO [A_ 3 b3 12] av ⟨Y3,by rw [Yh QV hm]<;>rfl,rfl,by rw [Yh QV hm];exact mF⟩)
 refine SR (jK 2 [199] [] (NN (cP ((c.op:Int)=(15:Int)) (λQW=>?_) (λQW=>?_))))
 ·refine SR (jK 2 [202,203] [(0,A_ 3 b1 12),(1,A_ 4 b2 13)] ?_)
  rcases Nr hC c 192 with ⟨a,e,h1,FX,QT⟩|⟨f,to,h1,hf,dY,QT⟩
  ·refine gE [0,1] ((eF hI (λ_ _ h=>GK Z Y h hC c hn ht 192)).val QT) (jK 7 [19,20,21] [] (NZ (jK 2 [209] [(1,OL ((e:Int)=(0:Int)) FX)] (NT (SR (jC 5 [5,6] [(0,A_ 3 b1 12),(2,A_ 5 b3 12)] [(5,(zC (rV Z Y)))] (NN (ak.ret (ay.bB (ay.fT (ay.bB (ay.cO [0,1] [gZ Y Z,gI Y Z] (λvg iJ hL=>?_)))))))))))))
   have fH:dF vg Z Y:=hI.at hL
   replace av:=av.trans iJ
   exact rB _ [A_ 3 b3 12] [0] av (⟨Y,by rw [Yi QW h1]<;>rfl,rfl,by rw [Yi QW h1];exact fH⟩)
  refine gE [0,1] ((eF hI (λ_ _ h=>GK Z Y h hC c hn ht 192)).val QT) (jK 7 [19,20,21] [] (NZ (jK 2 [209] [(1,w_ (.bool false) rfl)] (NF (KX (SR (jK 7 [213,214,216,217,219] [(0,A_ 3 b1 12),(3,a_ 4 b2),(6,a_ 4 b2)] (gu [0,1] (Nz Z Y hI hC hD zc f hf c.name to dY c.text) ?_))))))))
  rintro β1 _ _ cD ⟨Y3,rfl,rfl,mF⟩
  replace av:=av.trans cD
  exact jN 6 [21,22] (λb19=>[(4,A_ 4 b19 12)]) (λ_=>[]) (λb19=>.ax b19 (rV ((gY Z f c.name to c.text).1) Y3) 45) (λb19=>NS (jC 5 [5,6] [(0,A_ 4 b19 12),(2,A_ 3 b3 12)] [(3,(zC (rV ((gY Z f c.name to c.text).1) Y3)))] (eO [A_ 3 b3 12] av ⟨Y3,by rw [Yj QW h1]<;>rfl,rfl,by rw [Yj QW h1];exact mF⟩)))
 refine KX (SR (jC 4 [5,6] [(0,A_ 3 b1 12),(1,A_ 5 b3 12)] [(5,(zC (rV Z Y)))] (NN (ak.ret (ay.cO [0,1] [gZ Y Z,gI Y Z] (λaeW I7 hL=>?_))))))
 have fH:dF aeW Z Y:=hI.at hL
 replace av:=av.trans I7
 exact rB _ [A_ 3 b3 12] [0] av (⟨Y,by rw [acL zc]<;>rfl,rfl,by rw [acL zc];exact fH⟩)
theorem Yn {β:Bs} (Z:RS) (Y:RL) (k:Nat) (hI:BD β Z Y.L Y.H Y.V k) (hC:RC Z) (hk:k<Z.ns.length) (c:aH) (h9:c.op=9) (hh:iG Z c.aG=.ok k) (hk2:¬(nd Z.ns k).kind=2) (hb:bp β c.dA c.data) (hl:c.data.length<=140737488355328) (hc:c.data.length<=c.dC) :
 bU Tryz.prog β 57 #[.agg ⟨rV Z Y⟩,.agg ⟨aO c⟩] [gZ Y Z,gI Y Z,TM Y k Z] (λβ' v l=>∃Y',v=.tuple #[.agg ⟨rV ((cq Z c).1) Y'⟩,vI (cq Z c).2.1,vI (cq Z c).2.2]/\l=[]/\dF β' (cq Z c).1 Y'):=by
 refine mM Tryz.func57 Tryz.ntmps57 (λav R=>SR (jB 1 [2] (λy5=>.ax y5 (rV Z Y) 45) (λy5=>jB 1 [3] (λnh=>.ax nh (aO c) 53) (λnh=>jB 3 [4] (λFZ=>.ax FZ (rZ) 45) (λFZ=>NZ (jK 2 [24] [(1,a_ 5 nh)] (NN (ak.block (SR (jK 2 [25] [] (NN (cP ((c.op:Int)=(1:Int)) (λqi=>ain qi (by omega)) (λqi=>SR (jK 2 [50] [] (NN (cP ((c.op:Int)=(2:Int)) (λh50=>ain h50 (by omega)) (λh50=>SR (jK 2 [58] [] (NN (cP ((c.op:Int)=(3:Int)) (λNC=>ain NC (by omega)) (λNC=>SQ (jK 2 [66] [] (NN (cP ((c.op:Int)=(4:Int)) (λmE=>ain mE (by omega)) (λmE=>SR (jK 2 [66] [] (NN (cP ((c.op:Int)=(5:Int)) (λmE=>ain mE (by omega)) (λmE=>SR (jK 2 [66] [] (NN (cP ((c.op:Int)=(6:Int)) (λmE=>ain mE (by omega)) (λmE=>SR (jK 2 [66] [] (NN (cP ((c.op:Int)=(8:Int)) (λmE=>ain mE (by omega)) (λmE=>ak.region (jK 2 [66] [] (NN (cP ((c.op:Int)=(14:Int)) (λmE=>ain mE (by omega)) (λmE=>SR (jK 2 [92] [] (NN (cP ((c.op:Int)=(7:Int)) (λEL=>ain EL (by omega)) (λEL=>SR (jK 2 [145] [] (NN (cP ((c.op:Int)=(9:Int)) (λpU=>SR (jK 3 [148,150] [(0,A_ 4 y5 12),(2,a_ 5 nh)] (gE [0,1,2] (Jb (x:=exV (.ok k)) (cb:=Y.L.dC k) hI rfl rfl (λ_ _ h=>(tU Z Y h hC c.aG).val (ail exV hh))) (jK 5 [14,15] [] (NZ (jK 2 [155] [] (NF (KX (SQ (ar.sK 0 rfl zc (λmg=>jK 8 [165] [(2,a_ 4 y5),(4,x_ k Z.ns.length (mg)),(6,v_ 0 (nA Z.ns Y.L Y.A Y.c k 1 hk rfl))] (NN (cP (((nd Z.ns k).kind:Int)=(2:Int)) (λCX=>ain CX hk2) (λCX=>KX (SR (jK 4 [167,168,170] [(0,A_ 4 y5 12),(3,a_ 5 nh)] (gu [0,1,2] (Je Z Y k hI hC hk c.dA c.dC c.data hb hl hc) ?_))))))))))))))))) (λpU=>ain h9 pU)))))))))))))))))))))))))))))))))))))))))))))))))
 rintro β1 _ _ cD ⟨Y3,rfl,rfl,mF⟩
 replace av:=av.trans cD
 exact jC 6 [5,6] [(3,A_ 3 FZ 12)] [(3,(zC (rV ((jV Z k c.data).1) Y3)))] (eO [A_ 3 FZ 12] av ⟨Y3,by rw [acH h9 hh hk2]<;>rfl,rfl,by rw [acH h9 hh hk2];exact mF⟩)
end
section
open Go.RowKit Go.Maps bF aD
attribute [local irreducible] ar bN ak ay
theorem sZ {β:Bs} (A:Option Addr) (c:Nat) (d:List UInt8) (hA:bp β A d) (hl:d.length<=140737488355328) :
 aU Tryz.prog β 25 #[.slice A d.length c] [] (λv l=>∃B cap,v=.slice B d.length cap/\l=[.abs (aF 5 1 B d.length cap (dQ d))]):=by
 exact SE Tryz.func25 Tryz.ntmps25 (λR=>SR (jK 1 [] [] (NS (jB 2 [3] (λb1=>.ax b1 [] 5) (λb1=>NS (ar.mem (λw hS=>hS.o9 (i:=1) (b:=b1) (cs:=[]) (e:=5) 1 0 KB rfl Pd) (jK 2 [5,6] [] (SH 1 51 A d.length c (dQ d) rfl (hA.src) (λA2 c3=>ar.cJ 1 rfl (by rw [aiE,List.nil_append]) (sl 7 (.slice A2 (0+d.length) (c3)) (.slice A2 (d.length) (c3)) (by rw [aiE]) (jK 1 [3] [] (NS (jK 2 [2] [] (eN ⟨A2,c3,rfl,rfl⟩ [1,0])))))) (hl:=by rw [t6,Nat.mul_one]) (h1:=qw d)))))))))
theorem QX {β:Bs} (n:aL) (dA eA:Option Addr) (dC eC:Nat) (hD:bp β dA n.data) (hE:cT β eA n.ah) (hl1:n.data.length<=140737488355328) (hl2:n.ah.length<=1048576) :
 aU Tryz.prog β 47 #[.agg #[vI (n.id),vI (n.kind),vI (n.mode),vI (n.bg),vI (n.bh),vI (n.aT),vI (n.aJ),.slice dA (n.data.length) (dC),.string n.target,.slice eA (n.ah.length) (eC)]] [] (λv l=>∃dB cd eB ce,v=.agg #[vI (n.id),vI (n.kind),vI (n.mode),vI (n.bg),vI (n.bh),vI (n.aT),vI (n.aJ),.slice dB (n.data.length) (cd),.string n.target,.slice eB (n.ah.length) (ce)]/\l=[.abs (aF 5 1 dB n.data.length cd (dQ n.data)),.abs (aF 149 2 eB n.ah.length ce (nB n.ah))]):=by
 refine SE Tryz.func47 Tryz.ntmps47 (λR=>SR (jB 1 [1] (λb4=>.ax b4 [vI (n.id),vI (n.kind),vI (n.mode),vI (n.bg),vI (n.bh),vI (n.aT),vI (n.aJ),.slice dA (n.data.length) (dC),.string n.target,.slice eA (n.ah.length) (eC)] 95) (λb4=>jB 1 [2] (λb5=>.ax b5 [vI 0,vI 0,vI 0,vI 0,vI 0,vI 0,vI 0,.slice none (0) (0),.string ⟨#[]⟩,.slice none (0) (0)] 95) (λb5=>NS (jK 2 [5] [(1,a_ 1 b4)] (gL [] (sZ dA dC n.data hD hl1) ?_))))))
 rintro _ _ ⟨dB,cd,rfl,rfl⟩
 exact jC 2 [] [(1,a_ 2 b4)] [(2,[(7,.slice dB (n.data.length) (cd))])] (NS (jB 2 [3] (λb6=>.ax b6 [] 149) (λb6=>NS (ar.mem (λw hS=>hS.o9 (i:=4) (b:=b6) (cs:=[]) (e:=149) 2 0 KB rfl Pd) (jK 3 [9,11] [(2,a_ 2 b4)] (ny 4 93 eA n.ah.length eC (nB n.ah) rfl (hE.src) (λA7 c8=>ar.cJ 4 rfl (by rw [aiE,List.nil_append]) (sl 12 (.slice A7 (0+n.ah.length) (c8)) (.slice A7 (n.ah.length) (c8)) (by rw [aiE]) (jK 1 [3] [] (NS (jC 3 [] [(2,a_ 2 b4)] [(2,[(9,.slice A7 (n.ah.length) (c8))])] (NS (jC 2 [] [(0,A_ 2 b4 10),(1,A_ 3 b5 10)] [(3,[(0,vI (n.id)),(1,vI (n.kind)),(2,vI (n.mode)),(3,vI (n.bg)),(4,vI (n.bh)),(5,vI (n.aT)),(6,vI (n.aJ)),(7,.slice dB (n.data.length) (cd)),(8,.string n.target),(9,.slice A7 (n.ah.length) (c8))])] (eS [A_ 3 b5 10] ⟨dB,cd,A7,c8,rfl,rfl⟩ [0,4,1])))))))) (hl:=by rw [MB]) (h1:=EY n.ah)))))))
theorem hkl {ns:List aL} {k:Nat} (hk:k<=ns.length):(ns.take k).length=k:=by rw [aiH];omega
theorem Oc {β:Bs} (A:Option Addr) (c:Nat) (ns:List aL) (L:eP) (hG:aN β A ns L) (hl:ns.length<=1048576) (hd:∀i,i<ns.length->(nd ns i).data.length<=140737488355328/\(nd ns i).ah.length<=1048576) :
 aU Tryz.prog β 19 #[.agg #[.slice A ns.length c]] [] (λv l=>∃B cap K,v=.agg #[.slice B ns.length cap]/\l=LK B cap ns K):=by
 refine SE Tryz.func19 Tryz.ntmps19 (λR=>SR (jB 1 [1] (λb9=>.ax b9 [.slice A (ns.length) (c)] 24) (λb9=>jB 1 [2] (λb10=>.ax b10 [.slice none (0) (0)] 24) (λb10=>NS (jB 2 [3] (λb11=>.ax b11 [] 95) (λb11=>NZ (ar.mem (λw hS=>hS.o9 (i:=3) (b:=b11) (cs:=[]) (e:=95) 10 0 KB rfl Pd) (ar.mem (λw hS=>hS.JF (rO [] IU)) (ar.mem (λw hS=>hS.JF (lI [] IU)) (jK 1 [4] [] (NN (ak.block (lJ (λ(k,Ao,cp,K)=>(k<=ns.length)) (λ(k,Ao,cp,K)=>ns.length-k) (λ(k,Ao,cp,K)=>[(1,vP b9),(2,vP b10),(3,.slice Ao (k) (cp)),(4,vI ↑k)]) (λ(k,Ao,cp,K)=>[.ax b9 [.slice A (ns.length) (c)] 24,.ax b10 [.slice none (0) (0)] 24,.abs (aF 95 10 Ao k cp (bD K (ns.take k))),.abs (kR (rO (ns.take k) K) k),.abs (kR (lI (ns.take k) K) k),.abs R]) (0,some ⟨b11,0,none⟩,0,IU) [1,2,3,4,5,0] (aio _) ?_)))))))))))))
 rintro⟨k,Ao,cp,K⟩ hk
 refine SQ (jK 5 [10] [(2,a_ 0 b9)] (NN (cP ((((k:Nat):Int):Int)<(((ns.length:Nat):Int):Int)) (λh10=>?_) (λh10=>?_))))
 ·refine KX (ak.seq (ak.block (ak.region (jK 6 [13,18] [(2,a_ 0 b9),(4,x_ k ns.length (aN.hd hG (i:=k) zc)),(5,Ez (iy L k (nd ns k)) (λ_ _ h=>aN.rd hG zc h))] (gL [] (QX (nd ns k) (L.dA k) (L.eA k) (L.dC k) (L.eC k) (hG.data k zc) (hG.ah k zc) (hd k zc).1 (hd k zc).2) ?_)))))
  rintro _ _ ⟨dB,cd,eB,ce,rfl,rfl⟩
  exact jB 1 [20] (λb12=>.ax b12 [vI ((nd ns k).id),vI ((nd ns k).kind),vI ((nd ns k).mode),vI ((nd ns k).bg),vI ((nd ns k).bh),vI ((nd ns k).aT),vI ((nd ns k).aJ),.slice dB ((nd ns k).data.length) (cd),.string (nd ns k).target,.slice eB ((nd ns k).ah.length) (ce)] 95) (λb12=>ny 4 22 (some ⟨b12,0,none⟩) 1 1 [vI ((nd ns k).id),vI ((nd ns k).kind),vI ((nd ns k).mode),vI ((nd ns k).bg),vI ((nd ns k).bh),vI ((nd ns k).aT),vI ((nd ns k).aJ),.slice dB ((nd ns k).data.length) (cd),.string (nd ns k).target,.slice eB ((nd ns k).ah.length) (ce)] rfl (fQ (j:=8) rfl) (λM6 M7=>ar.cJ 4 rfl (ail (λx=>HP.abs (aF 95 10 _ _ _ x)) (wo (hkl hk) (vw zc) rfl rfl)) (sl 21 (.slice M6 (k+1) (M7)) (.slice M6 ((k+1)) (M7)) (rfl) (jK 1 [3] [] (LX (ak.region (jK 3 [4] [(1,wJ ((k:Int)+1) (↑(k+1)))] (NL (ay.mem (λw hS=>hS.vF (R':=(lI (ns.take (k+1)) (K.put k dB cd eB ce))) (i:=6) (j:=0) (aq:=[1,2,3,4,5,7,8]) rfl rfl KB rfl (D2 (hkl hk) (vw zc)) (Ch (hkl hk) (vw zc) rfl)) (ay.mem (λw hS=>hS.vF (R':=(rO (ns.take (k+1)) (K.put k dB cd eB ce))) (i:=5) (j:=1) (aq:=[0,2,3,4,6,7]) rfl rfl KB rfl (D3 (hkl hk) (vw zc)) (Ci (hkl hk) (vw zc) rfl)) (tJ ((k+1),M6,M7,(K.put k dB cd eB ce)) [2,3,4,0,1,5] (zc))))))))))))
 refine XX (SR ?_)
 have hkn:k=ns.length:=zc
 have hgt:ns.take k=ns:=by rw [hkn,aiK]
 exact ar.cJ 2 rfl (by rw [hgt,hkn]) (ar.cJ 3 rfl (by rw [hgt,hkn]) (ar.cJ 4 rfl (by rw [hgt,hkn]) (sl 3 (.slice Ao (k) (cp)) (.slice Ao (ns.length) (cp)) (by rw [hkn]) (jC 3 [] [(2,a_ 1 b10)] [(1,[(0,.slice Ao (ns.length) (cp))])] (eS [a_ 1 b10] ⟨Ao,cp,K,rfl,rfl⟩ [2,3,4,5])))))
theorem VD {β:Bs} (Z:RS) (Y:RL) (hR:dF β Z Y) (hB:RB Z) :
 bU Tryz.prog β 56 #[.agg ⟨rV Z Y⟩] [] (λβ' v l=>∃A1 c1 K G1 g1,v=.agg ⟨rW Z A1 c1 G1 g1 Y.H Y.ch Y.V Y.cv⟩/\l=[.abs (aF 95 10 A1 Z.ns.length c1 (bD K Z.ns)),.abs (aF 3 1 G1 Z.aE.length g1 (bH Z.aE)),.abs (kR (lI Z.ns K) Z.ns.length)]/\∀i,i<Z.ns.length->cT β' (K.eA i) (nd Z.ns i).ah):=by
 have hbg:=hB.aE
 refine mM Tryz.func56 Tryz.ntmps56 (λav R=>SR (jB 1 [1] (λb1=>.ax b1 (rV Z Y) 45) (λb1=>jB 1 [2] (λb2=>.ax b2 (rZ) 45) (λb2=>NS (jK 2 [5] [(1,a_ 1 b1)] (gL [] (Oc Y.A Y.c Z.ns Y.L hR.n (by have:=hB.ns;omega) hB.hd) ?_))))))
 rintro _ _ ⟨A1,c1,K,rfl,rfl⟩
 refine jC 2 [] [(1,a_ 4 b1)] [(4,[(0,.slice A1 (Z.ns.length) (c1))])] (NS (jB 2 [3] (λb3=>.ax b3 [] 3) (λb3=>NS (ar.mem (λw hS=>hS.o9 (i:=6) (b:=b3) (cs:=[]) (e:=3) 1 0 KB rfl Pd) (jK 3 [9,11] [(2,a_ 4 b1)] (ny 6 41 Y.G Z.aE.length Y.cg (bH Z.aE) rfl (hR.g.src) (λA4 c5=>ar.cJ 6 rfl (by rw [aiE,List.nil_append]) (sl 12 (.slice A4 (0+Z.aE.length) (c5)) (.slice A4 (Z.aE.length) (c5)) (by rw [aiE]) (jK 1 [3] [] (NS (ar.nw (Φ:=λβ'=>∀i,i<Z.ns.length->cT β' (K.eA i) (nd Z.ns i).ah) 1 [0,2,3,4,5,6] (eX:=[.abs (aF 95 10 A1 Z.ns.length c1 (bD K Z.ns)),.abs (kR (lI Z.ns K) Z.ns.length),.abs R,.ax b1 (rW Z A1 c1 Y.G Y.cg Y.H Y.ch Y.V Y.cv) 45,.ax b2 (rZ) 45,.abs (aF 3 1 A4 Z.aE.length c5 (bH Z.aE))]) rfl rfl KB (λF w h β' h1 h2=>ahh h h1 h2) (λβ1 cD hE=>?_)))))) (hl:=by rw [show (bH Z.aE).length=Z.aE.length from aiF ..];omega) (h1:=QN _)))))))
 replace av:=av.trans cD
 exact jC 3 [] [(2,a_ 3 b1)] [(3,[(1,.slice A4 (Z.aE.length) (c5))])] (NS (jC 2 [] [(0,A_ 3 b1 12),(1,A_ 4 b2 12)] [(4,(zC (rW Z A1 c1 A4 c5 Y.H Y.ch Y.V Y.cv)))] (eO [A_ 4 b2 12] av ⟨A1,c1,K,A4,c5,rfl,rfl,hE⟩ [0,5,1,2])))
end
section
open Go.RowKit Go.Maps bF aD
section b
variable {P:Program} {β:Bs} {f:FuncId} {args:Array Value} {pre pre' R:List HP} {post:Bs->Value->List HP->Prop}
theorem bU.Oz (h:∀β':Bs,qq β R β'->bU P β' f args pre post):bU P β f args (pre++R) post:=by
 intro A w hS
 have h1:=aR.turn hS
 rw [←aiN] at h1
 obtain⟨β',g1,_,g3⟩:=h1.wY
 refine (h β' g1 A w (aR.turn g3)).mono ?_
 rintro e w' ⟨ox,v,l,dL,h2⟩
 exact⟨ox,v,l,g1.le.trans dL,h2⟩
theorem bU.acM {Φ:Bs->Prop} (h:∀β':Bs,β.le β'->Φ β'->bU P β' f args pre post):bU P β f args (.abs (kT β Φ)::pre) post:=by
 intro A w hS
 obtain⟨β',g1,g2,g3⟩:=aR.ux (l:=pre++[.abs A]) hS
 refine (h β' g1 g2 A w g3).mono ?_
 rintro e w' ⟨ox,v,l,dL,h2⟩
 exact⟨ox,v,l,g1.trans dL,h2⟩
theorem bU.afr (h:bU P β f args pre' post) (hp:∀A w,aR β (pre++[.abs A]) w->aR β (pre'++[.abs A]) w):bU P β f args pre post:=λA w hS=>h A w (hp A w hS)
end b
section s
variable {β:Bs} {R Z:RS} {Y:RL} {c:aH} {e:Int} {k:Nat}
theorem ND {A:Option Addr} {p:Nat}:rA R (gP c A p)=gP (rA R c) A p:=by
 unfold rA
 show (if c.op=12 then _ else _:aH)=gP (if c.op=12 then _ else _) A p
 by_cases h:c.op=12
 ·rw [aik h,aik h]
  show (match ig R c.aG c.name 64 with|.error e=>_|.ok d=>_:aH)=_
  cases ig R c.aG c.name 64 with
  |error e=>rfl
  |ok d=>
    simp only
    split<;>rfl
 rw [aij h,aij h]
 show (match iG R c.aG with|.error e=>_|.ok d=>_:aH)=_
 cases iG R c.aG<;>rfl
theorem Ep (h:c.op=11\/c.op=12):uj R c=(R,rA R c):=aik h
theorem Yo (h:¬(c.op=11\/c.op=12)) (h1:(cq R c).2.2=0):uj R c=((cq R c).1,{c with answer:=(cq R c).2.1,code:=0}):=(aij h).trans (aik h1)
theorem Yp (h:¬(c.op=11\/c.op=12)) (h1:¬(cq R c).2.2=0):uj R c=(R,{c with answer:=0,code:=(cq R c).2.2}):=(aij h).trans (aij h1)
abbrev Me (R:RS) (K:eP):HP:=.abs (kR (lI R.ns K) R.ns.length)
abbrev Dx (R:RS) (K:eP) (β:Bs):Prop:=∀i,i<R.ns.length->cT β (K.eA i) (nd R.ns i).ah
theorem HE (hR:dF β Z Y) (hB:RB Z):aU Tryz.prog β 56 #[.agg ⟨rV Z Y⟩] [] (λv l=>∃A1 c1 K G1 g1,v=.agg ⟨rV Z ⟨A1,c1,K,G1,g1,Y.H,Y.ch,Y.V,Y.cv⟩⟩/\l=[.abs (kT β (Dx Z K)),.abs (aF 95 10 A1 Z.ns.length c1 (bD K Z.ns)),.abs (aF 3 1 G1 Z.aE.length g1 (bH Z.aE)),Me Z K]):=
 (bU.Ke (ι:=Option Addr×Nat×eP×Option Addr×Nat) (vv:=λx=>.agg ⟨rV Z ⟨x.1,x.2.1,x.2.2.1,x.2.2.2.1,x.2.2.2.2,Y.H,Y.ch,Y.V,Y.cv⟩⟩) (ll:=λx=>[.abs (aF 95 10 x.1 Z.ns.length x.2.1 (bD x.2.2.1 Z.ns)),.abs (aF 3 1 x.2.2.2.1 Z.aE.length x.2.2.2.2 (bH Z.aE)),Me Z x.2.2.1]) (Φ:=λx=>Dx Z x.2.2.1)
  ((VD Z Y hR hB).mono (by rintro β' v l _ ⟨A1,c1,K,G1,g1,rfl,rfl,h⟩;exact⟨(A1,c1,K,G1,g1),rfl,rfl,h⟩))).mono Pe
theorem Yq {A1 G1:Option Addr} {c1 g1:Nat} {K:eP} (hR:dF β Z Y) (hC:RC Z) (hD:RD 0 Z) (hn:c.name.size<=1048576) (ht:c.text.size<=1048576) (hb:bp β c.dA c.data) (hl:c.data.length<=140737488355328) (hc:c.data.length<=c.dC) :
 aU Tryz.prog β 57 #[.agg ⟨rV Z ⟨A1,c1,K,G1,g1,Y.H,Y.ch,Y.V,Y.cv⟩⟩,.agg ⟨aO c⟩] [.abs (kT β (Dx Z K)),.abs (aF 95 10 A1 Z.ns.length c1 (bD K Z.ns)),.abs (aF 3 1 G1 Z.aE.length g1 (bH Z.aE)),Me Z K]
  (λv l=>∃Y',v=.tuple #[.agg ⟨rV (cq Z c).1 Y'⟩,.int .i64 (cq Z c).2.1,.int .i64 (cq Z c).2.2]/\l=[.abs (kT β (λβ'=>dF β' (cq Z c).1 Y'))]):=by
 refine (bU.Ke (ι:=RL) (vv:=λY'=>.tuple #[.agg ⟨rV (cq Z c).1 Y'⟩,.int .i64 (cq Z c).2.1,.int .i64 (cq Z c).2.2]) (ll:=λ_=>[]) (Φ:=λY' β'=>dF β' (cq Z c).1 Y') (bU.acM λβ' dL hE=>?_)).mono Pe
 by_cases h9:∃k,c.op=9/\iG Z c.aG=.ok k/\¬(nd Z.ns k).kind=2
 ·obtain⟨k,h1,h2,h3⟩:=h9
  have hk:k<Z.ns.length:=by
   grind [ul]
  refine bU.afr (pre':=[.abs (aF 95 10 A1 Z.ns.length c1 (bD K Z.ns)),.abs (aF 3 1 G1 Z.aE.length g1 (bH Z.aE)),.abs (lI Z.ns K k)]++[.abs (kR (ol (lI Z.ns K) k d9.none) Z.ns.length)]) (bU.Oz λox hL=>?_) (λA w hS=>?_)
  ·have hd:∀i,i<Z.ns.length->i≠k->bp ox (K.dA i) (nd Z.ns i).data:=by
    obtain⟨F,q1,q2⟩:=hL.get 0 rfl
    refine kR.base q1 q2 rfl (Φ:=λi b=>i≠k->bp b (K.dA i) (nd Z.ns i).data) (λi _ F hF hO cu=>?_)
    have hF:(HP.abs (lI Z.ns K i)).h F ox.w0:=by
     have e:ol (lI Z.ns K) k d9.none i=lI Z.ns K i:=aij cu
     rw [e] at hF;exact hF
    exact cA.iM (show (HP.abs (aF 5 1 (K.dA i) (nd Z.ns i).data.length (K.dC i) (dQ (nd Z.ns i).data))).h F _ from hF) hO rfl
   have hI:BD ox Z K Y.H Y.V k:=⟨hd,λi hi=>(hE i hi).le hL.le,(hR.h.le dL).le hL.le,(hR.v.le dL).le hL.le⟩
   refine (Yn Z ⟨A1,c1,K,G1,g1,Y.H,Y.ch,Y.V,Y.cv⟩ k hI hC hk c h1 h2 h3 ((hb.le dL).le hL.le) hl hc).mono ?_
   grind
  have:=hS.SI (i:=2) (k:=k) rfl hk
  exact this.pick (aq:=[0,1,4,2,3]) rfl rfl
 refine bU.Oz (pre:=[.abs (aF 95 10 A1 Z.ns.length c1 (bD K Z.ns)),.abs (aF 3 1 G1 Z.aE.length g1 (bH Z.aE))]) (R:=[Me Z K]) λox hL=>?_
 have hI:mA ox Z K Y.H Y.V:=by
  obtain⟨F,q1,q2⟩:=hL.get 0 rfl
  exact⟨ae1 q1 q2 rfl,λi hi=>(hE i hi).le hL.le,(hR.h.le dL).le hL.le,(hR.v.le dL).le hL.le⟩
 refine (Ym Z ⟨A1,c1,K,G1,g1,Y.H,Y.ch,Y.V,Y.cv⟩ hI hC hD c hn ht (λh1 k h2=>aiI (λh3=>h9 ⟨k,h1,h2,h3⟩))).mono ?_
 grind
end s
end
section
open Go.RowKit Go.Maps bF aD
attribute [local irreducible] ar bN ak ay eH bZ qu
noncomputable abbrev zX1 (b4:Nat):=(.ax b4 [vI 0,vI 0,vI 0,.string ⟨#[]⟩,.string ⟨#[]⟩,.slice none (0) (0),vI 0,vI 0,vI 0,vI 0,vI 0,vI 0,vI 0] 53:HP)
noncomputable abbrev zX2 (R:d9) (b1:Nat) (Z) (Y:RL) (b2:Nat) (c:aH) (b3:Nat) (b4:Nat) (b5:Nat) (B1) (p1):=([.abs R,.ax b1 (rV Z Y) 45,.ax b2 (aO c) 53,.ax b3 (rZ) 45,zX1 b4,.ax b5 (aO (gP {c with answer:=0} B1 p1)) 53]:List HP)
theorem abf {β:Bs} (Z:RS) (Y:RL) (hR:dF β Z Y) (hC:RC Z) (hD:RD 0 Z) (c:aH) (hn:c.name.size<=1048576) (ht:c.text.size<=1048576) (hb:bp β c.dA c.data) (hl:c.data.length<=140737488355328) (hc:c.data.length<=c.dC) :
 bU Tryz.prog β 35 #[.agg ⟨rV Z Y⟩,.agg ⟨aO c⟩] [] (λβ' v l=>∃Y' B p,v=.tuple #[.agg ⟨rV ((uj Z c).1) Y'⟩,.agg ⟨aO (gP (uj Z c).2 B p)⟩]/\l=[]/\dF β' (uj Z c).1 Y'/\bp β' B c.data):=by
 refine mM Tryz.func35 Tryz.ntmps35 (λav R=>SR (jB 1 [2] (λb1=>.ax b1 (rV Z Y) 45) (λb1=>jB 1 [3] (λb2=>.ax b2 (aO c) 53) (λb2=>jB 1 [4] (λb3=>.ax b3 (rZ) 45) (λb3=>jB 1 [5] (λb4=>.ax b4 [vI 0,vI 0,vI 0,.string ⟨#[]⟩,.string ⟨#[]⟩,.slice none (0) (0),vI 0,vI 0,vI 0,vI 0,vI 0,vI 0,vI 0] 53) (λb4=>NS (jN 3 [6] (λb5=>[(0,A_ 2 b2 13),(2,A_ 5 b5 13)]) (λ_=>[]) (λb5=>.ax b5 (aO c) 53) (λb5=>NS (jK 2 [12] [(1,a_ 2 b2)] (gL [] (sZ c.dA c.dC c.data hb hl) ?_))))))))))
 rintro _ _ ⟨B1,p1,rfl,rfl⟩
 refine jC 2 [] [(1,a_ 6 b5)] [(6,[(5,.slice B1 (c.data.length) (p1))])] (NS (ar.nw (Φ:=λβ'=>bp β' B1 c.data) 0 [1,2,3,4,5,6] (eX:=[.abs R,.ax b1 (rV Z Y) 45,.ax b2 (aO c) 53,.ax b3 (rZ) 45,zX1 b4,.ax b5 (aO (gP c B1 p1)) 53]) rfl rfl KB (λF w h β' h1 h2=>cA.iM h h1 h2) (λβ1 cD qm=>?_)))
 replace hR:=hR.le cD
 replace hb:=hb.le cD
 replace av:=av.trans cD
 refine jC 2 [] [(1,a_ 5 b5)] [(5,[(12,vI 0)])] (NN (ak.seq (ak.seq ?_)))
 by_cases bW:c.op=11\/c.op=12
 ·refine ak.region (jK 4 [19] [(1,a_ 2 b2),(2,w_ (.bool (decide ((c.op:Int)=(11:Int)))) rfl)] (sP 19 ((c.op:Int)=(11:Int)) (λG9=>?_) (λG9=>?_)))
  ·refine jK 4 [23] [] (NT (ak.seq (rM (List.range 7) 4 [1,2,5] (jR 4 [4,5,24,25,26,27] [(0,A_ 0 b1 12),(1,A_ 0 b1 12),(2,A_ 1 b2 13),(3,A_ 2 b5 13)] (mL [1,2,5] [] (QJ Z Y hR hC (gP c B1 p1) hn c.dA c.dC c.answer) ?_ (by rintro _ _ ⟨rfl,rfl⟩;rfl))))))
   rintro _ _ ⟨rfl,rfl⟩
   exact nC [1,2,5] [] [(0,A_ 3 b3 12)] [(3,(zC (rV Z Y)))] (bZ.last rfl rfl (jC 1 [] [(0,A_ 4 b4 13)] [(4,(zC (aO (rA Z (gP c B1 p1)))))] (NL (ay.np (NX (ak.ret (ay.bB (rB (.tuple #[.agg ⟨rV Z Y⟩,.agg ⟨aO (rA Z (gP c B1 p1))⟩]) [A_ 3 b3 12,A_ 4 b4 13] [0] av (⟨Y,B1,p1,by rw [Ep bW,ND]<;>rfl,rfl,by rw [Ep bW];exact hR,qm⟩)))))))))
  refine jK 4 [23] [(1,a_ 2 b2),(2,w_ (.bool (decide ((c.op:Int)=(12:Int)))) rfl)] (NN (cP ((c.op:Int)=(12:Int)) (λh23=>ak.seq (rM (List.range 7) 4 [1,2,5] (jR 4 [4,5,24,25,26,27] [(0,A_ 0 b1 12),(1,A_ 0 b1 12),(2,A_ 1 b2 13),(3,A_ 2 b5 13)] (mL [1,2,5] [] (QJ Z Y hR hC (gP c B1 p1) hn c.dA c.dC c.answer) ?_ (by rintro _ _ ⟨rfl,rfl⟩;rfl))))) (λh23=>ain bW (by omega))))
  rintro _ _ ⟨rfl,rfl⟩
  exact nC [1,2,5] [] [(0,A_ 3 b3 12)] [(3,(zC (rV Z Y)))] (bZ.last rfl rfl (jC 1 [] [(0,A_ 4 b4 13)] [(4,(zC (aO (rA Z (gP c B1 p1)))))] (NL (ay.np (NX (ak.ret (ay.bB (rB (.tuple #[.agg ⟨rV Z Y⟩,.agg ⟨aO (rA Z (gP c B1 p1))⟩]) [A_ 3 b3 12,A_ 4 b4 13] [0] av (⟨Y,B1,p1,by rw [Ep bW,ND]<;>rfl,rfl,by rw [Ep bW];exact hR,qm⟩)))))))))
 refine ak.region (jK 8 [23] [(1,a_ 2 b2),(2,wF ((c.op:Int)=(11:Int))),(5,a_ 2 b2),(6,wF ((c.op:Int)=(12:Int)))] (NF (KX (ak.seq (ak.tj (S:=[.ax b1 (rV Z Y) 45,.ax b2 (aO c) 53]) (Bg [0,2] (oJ 8 [(false,9),(false,10),(false,11)] [(false,1),(false,3),(true,4),(true,5),(true,6),(true,7)])) [1,2] (gT (oJ 8 [(false,9),(false,10),(false,11)] [(false,1),(false,3),(true,4),(true,5),(true,6),(true,7)]) [(2,vP b1),(4,vP b3),(5,vP b4),(6,vP b5),(30,.agg ⟨rV Z Y⟩),(32,.agg ⟨aO c⟩)] [0,2] [(0,A_ 0 b1 12),(1,A_ 1 b2 13)] (qu.one (j:=8) (dj:=7) (R:=λf_ l_=>∃A2:Option Addr,∃c2:Nat,∃K:eP,∃G2:Option Addr,∃g2:Nat,∃Y2:RL,f_=[(36,vI ((cq Z c).2.2)),(35,vI ((cq Z c).2.1)),(34,.agg ⟨rV ((cq Z c).1) Y2⟩),(29,.tuple #[.agg ⟨rV ((cq Z c).1) Y2⟩,vI ((cq Z c).2.1),vI ((cq Z c).2.2)]),(33,.tuple #[.agg ⟨rV ((cq Z c).1) Y2⟩,vI ((cq Z c).2.1),vI ((cq Z c).2.2)]),(31,.agg ⟨rW Z A2 c2 G2 g2 Y.H Y.ch Y.V Y.cv⟩),(2,vP b1),(4,vP b3),(5,vP b4),(6,vP b5),(30,.agg ⟨rV Z Y⟩),(32,.agg ⟨aO c⟩)]/\l_=[.abs (kT β1 (λβ'=>dF β' (cq Z c).1 Y2))]) [1,2] [(false,1,31),(false,3,33),(true,4,29),(true,5,34),(true,6,35),(true,7,36)] (kG.of (ι:=Nat) (v:=λ(b6:Nat)=>vP b6) (l:=λ(b6:Nat)=>[.ax b6 (rZ) 45]) [31,33,29,34,35,36] rfl rfl rfl rfl ?_) ?_ ?_)))))))
 ·intro u Aq
  exact jB 1 [7] (λb6=>.ax b6 (rZ) 45) (λb6=>NL (MD b6 [7,31,33,29,34,35,36,2,4,5,6,30,32] [1,0]))
 ·refine eY.step (kG.of (ι:=(Option Addr)×Nat×eP×(Option Addr)×Nat) (v:=λ((A2,c2,K,G2,g2):(Option Addr)×Nat×eP×(Option Addr)×Nat)=>.agg ⟨rW Z A2 c2 G2 g2 Y.H Y.ch Y.V Y.cv⟩) (l:=λ((A2,c2,K,G2,g2):(Option Addr)×Nat×eP×(Option Addr)×Nat)=>[.abs (kT β1 (Dx Z K)),.abs (aF 95 10 A2 Z.ns.length c2 (bD K Z.ns)),.abs (aF 3 1 G2 Z.aE.length g2 (bH Z.aE)),.abs (kR (lI Z.ns K) Z.ns.length)]) [7] rfl rfl rfl rfl ?_) ?_
  ·intro u Aq
   refine gL [] (HE hR hC.toRB) ?_
   rintro _ _ ⟨A2,c2,K,G2,g2,rfl,rfl⟩
   exact NL (MD (A2,c2,K,G2,g2) [31,7,2,4,5,6,30,32] [0,1,2,3,4])
  rintro _ _ ⟨⟨A2,c2,K,G2,g2⟩,rfl,rfl⟩
  refine (eY.step (kG.of (ι:=RL) (v:=λ(Y2:RL)=>.tuple #[.agg ⟨rV ((cq Z c).1) Y2⟩,vI ((cq Z c).2.1),vI ((cq Z c).2.2)]) (l:=λ(Y2:RL)=>[.abs (kT β1 (λβ'=>dF β' (cq Z c).1 Y2))]) [7] rfl rfl rfl rfl ?_) ?_)
  ·intro u Aq
   exact gX [0,1,2,3] (Yq (A1:=A2) (c1:=c2) (K:=K) (G1:=G2) (g1:=g2) hR hC hD hn ht hb hl hc) (λY2=>NL (MD Y2 [33,7,31,2,4,5,6,30,32] [0,1]))
  rintro _ _ ⟨Y2,rfl,rfl⟩
  exact (eY.read (.tuple #[.agg ⟨rV ((cq Z c).1) Y2⟩,vI ((cq Z c).2.1),vI ((cq Z c).2.2)]) (eY.read (.agg ⟨rV ((cq Z c).1) Y2⟩) (eY.read (.int .i64 ((cq Z c).2.1)) (eY.read (.int .i64 ((cq Z c).2.2)) ⟨A2,c2,K,G2,g2,Y2,rfl,rfl⟩))))
 rintro _ _ ⟨A2,c2,K,G2,g2,Y2,rfl,rfl⟩ _ _ ⟨b6,rfl,rfl⟩
 refine kC [3,4] [] [(0,A_ 1 b6 12)] [(1,(zC (rV ((cq Z c).1) Y2)))] (eH.cut (ι:=Unit) (bL:=λ(_:Unit)=>[(2,vP b1),(4,vP b3),(5,vP b4),(6,vP b5),(7,vP b6),(8,vI ((cq Z c).2.1)),(36,vI ((cq Z c).2.2))]) (cR:=λ(_:Unit)=>([.abs (kT β1 (λβ'=>dF β' (cq Z c).1 Y2)),.ax b6 (rV ((cq Z c).1) Y2) 45]++zX2 R b1 Z Y b2 c b3 b4 b5 B1 p1)) [3,4] KB ?_ rfl (λ_=>KB) ?_)
 ·exact jK 1 [8] [] (NL (MD () [2,4,5,6,7,8,36] [0,1,2,3,4,5,6,7]))
 rintro _
 refine eH.last KB (jK 1 [9] [] (NL (ay.np (NX (SR (ar.ux 0 [1,2,3,4,5,6,7] (eX:=([.ax b6 (rV ((cq Z c).1) Y2) 45]++zX2 R b1 Z Y b2 c b3 b4 b5 B1 p1)) rfl rfl KB (λFV kN uq=>?_)))))))
 replace hR:=hR.le kN
 replace qm:=qm.le kN
 replace av:=av.trans kN
 exact jC 3 [] [(2,a_ 6 b5)] [(6,[(11,vI ((cq Z c).2.2))])] (NZ (jK 2 [40] [] (NN (cN (((cq Z c).2.2:Int)=(0:Int)) (λuI=>ak.seq (rM [0,1,2,3] 2 [2,6] (jR 2 [4,5,41,42] [(0,A_ 0 b1 12),(1,A_ 1 b5 13)] (nC [2,6] [] [(0,A_ 4 b3 12)] [(4,(zC (rV Z Y)))] (bZ.last rfl rfl (jC 1 [] [(0,A_ 5 b4 13)] [(5,[(0,vI (c.op)),(1,vI (c.aG)),(2,vI (c.other)),(3,.string c.name),(4,.string c.text),(5,.slice B1 (c.data.length) (p1)),(6,vI (c.mode)),(7,vI (c.bg)),(8,vI (c.bh)),(9,vI (c.aT)),(10,vI (c.aJ)),(11,vI ((cq Z c).2.2))])] (NL (ay.np (NX (ak.ret (ay.bB (rB (.tuple #[.agg ⟨rV Z Y⟩,.agg ⟨aO (gP {c with code:=(cq Z c).2.2,answer:=0} B1 p1)⟩]) [A_ 4 b3 12,A_ 5 b4 13] [1] av (⟨Y,B1,p1,by rw [Yp bW uI]<;>rfl,rfl,by rw [Yp bW uI];exact hR,qm⟩))))))))))))) (λuI=>KX (SR (jC 3 [] [(2,a_ 6 b5)] [(6,[(12,vI ((cq Z c).2.1))])] (NN (ak.seq (rM [0,1,2,3] 2 [0,6] (jR 2 [4,5,45,46] [(0,A_ 0 b6 12),(1,A_ 1 b5 13)] (nC [0,6] [] [(0,A_ 4 b3 12)] [(4,(zC (rV ((cq Z c).1) Y2)))] (bZ.last rfl rfl (jC 1 [] [(0,A_ 5 b4 13)] [(5,(zC (aO (gP {c with code:=(cq Z c).2.2,answer:=(cq Z c).2.1} B1 p1))))] (NL (ay.np (NX (ak.ret (rB (.tuple #[.agg ⟨rV ((cq Z c).1) Y2⟩,.agg ⟨aO (gP {c with code:=(cq Z c).2.2,answer:=(cq Z c).2.1} B1 p1)⟩]) [A_ 4 b3 12,A_ 5 b4 13] [1] av (⟨Y2,B1,p1,by rw [Yo bW uI,uI]<;>rfl,rfl,by rw [Yo bW uI];exact uq,qm⟩))))))))))))))))))))
end
section
def core (o:bJ):bJ:={o with aS:=0,aK:=0,aE:=false,up:=none}
end
section
open Go.RowKit Go.Maps bF aD
noncomputable section
def ur (us:bC Th):bC Int:=us.map (λp=>(p.1,(p.2.k:Int)))
def bT (S:br) (t:Th):Nat:=bY (aV S) (t.k:Int)
def toR (S:br) (g:List Int):RS:=⟨aV S,g,ur S.us,S.aI,S.X.cN,S.X.cB,S.X.cH,S.X.cS,S.X.cZ,S.X.last⟩
structure x5 (aq:bC Th) (O:dZ) (g:List Int):Prop where
 CY:∀t,aQ aq t->((t.k:Int)∈g↔(af O t.k).aE=true)
 live:∀z∈g,∃t,aQ aq t/\(t.k:Int)=z
structure qO (aq:bC Th):Prop where
 fD:aD.dH (aY aq)
 key:∀p∈aq,p.1=(p.2.k:Int)
end
section p
variable {S:br} {g:List Int} {t u:Th} {d k i j:Nat} {name:ByteArray} {O O':dZ} {h dX id:Int} {es:jc Th} {X:FM}
theorem Inv0.ix (h:Inv0 S):qO S.aq:=⟨h.fD,λ_ hp=>h.key (oR h.fD hp)⟩
theorem GU (hx:qO S.aq) (hi:i<S.aq.length):aQ S.aq (ju S i)/\gD S i=((ju S i).k:Int):=by
 have hm:=aiU (yP hi)
 have hk:=hx.key _ hm
 have hg:=oR hx.fD hm
 grind [gD,ju,aQ]
theorem Mf (hx:qO S.aq) (hij:i<j) (hj:j<S.aq.length):gD S i<gD S j:=by
 have h1:=P0 (S:=S) (show i<S.aq.length by omega)
 have h2:=P0 hj
 obtain⟨g1,e1⟩:=List.getElem?_eq_some_iff.1 h1
 obtain⟨g2,e2⟩:=List.getElem?_eq_some_iff.1 h2
 have:=ajg.1 hx.fD i j g1 g2 hij
 rw [e1,e2] at this
 exact this
theorem QY (hx:qO S.aq):dH (aV S):=λi j hij hj=>by
 rw [ic] at hj
 rw [pY zc,pY hj]
 exact Mf hx hij hj
theorem KS (hx:qO S.aq) (hi:i<S.aq.length) (hj:j<S.aq.length) (e:gD S i=gD S j):i=j:=by
 rcases ai9 i j with h1|h1|h1
 ·have:=Mf hx h1 hj;omega
 ·exact h1
 have:=Mf hx h1 hi;omega
theorem oe (hI:qO S.aq) (hl:aQ S.aq t):bT S t<(aV S).length/\bT S t<S.aq.length/\ju S (bT S t)=t/\gD S (bT S t)=(t.k:Int)/\gF (aV S) (t.k:Int)=(bT S t:Int)/\nd (aV S) (bT S t)=jU S.O (t.k:Int) t:=by
 grind [aeR,nd,aV,pY,Il,QY,ic,bT,bY,aQ,ju,gD,gF,jU]
theorem TN (hI:qO S.aq) (hl:aQ S.aq t) (hu:aQ S.aq u) (e:bT S t=bT S u):t=u:=by
 have h1:=(oe hI hl).2.2.1
 rw [e,(oe hI hu).2.2.1] at h1
 exact h1.symm
theorem adH {us:bC Th}:aD.get (ur us) h=(aD.get us h).map (λt=>(t.k:Int)):=get_map (λt:Th=>(t.k:Int)) us h
theorem Dy {us:bC Th}:(ur us).length=us.length:=aiF ..
theorem Jj {us:bC Th}:aY (ur us)=aY us:=keys_map (λt:Th=>(t.k:Int)) us
theorem F7 {us:bC Th}:aD.aP (ur us)=aD.aP us:=by unfold aD.aP;rw [Jj]
theorem TP {us:bC Th}:ur (ins h t us)=ins h (t.k:Int) (ur us):=Lu (λt:Th=>(t.k:Int)) h t us
theorem TQ {us:bC Th}:ur (del h us)=del h (ur us):=Lv (λt:Th=>(t.k:Int)) h us
theorem adI {us:bC Th}:(k:Int)∈ja (ur us)↔0<hnd us k:=by
 unfold ja ur hnd
 rw [List.map_map]
 induction us with
 |nil=>simp [gJ]
 |cons p r ih=>
   grind [gJ]
theorem Yr (n:ByteArray):∀es:jc Th,Cv (es.map (gn O)) n=es.findIdx? (λe=>decide (e.1=n)):=λes=>by
 unfold Cv
 rw [List.findIdx?_map];rfl
theorem QZ (n:ByteArray):∀es:jc Th,bK n es=(es.findIdx? (λe=>decide (e.1=n))).map (uw es)
 |[]=>rfl
 |e::r=>by
   rw [qF,List.findIdx?_cons]
   by_cases hn:e.1=n
   ·rw [aik hn];simp [hn,uw]
   rw [aij hn,QZ n r]
   simp only [hn,decide_false,Bool.false_eq_true,if_false,Option.map_map]
   congr 1
theorem Q0 (hid:∀x,(af O' x).id=(af O x).id) (ht:(af O t.k).id=id):∀es:jc Th,(kZ name t es).map (gn O')=mW name id (es.map (gn O))
 |[]=>by
   show [gn O' (name,t)]=[⟨name,id⟩]
   unfold gn;rw [hid,ht]
 |e::r=>by
   have he:gn O' e=gn O e:=by unfold gn;rw [hid]
   have hr:r.map (gn O')=r.map (gn O):=aiW (λx _=>by unfold gn;rw [hid])
   unfold kZ
   rw [aiP]
   unfold mW
   show _=if ¬jF e.1 name then _ else _
   split
   ·rw [aiP,aiP,he,hr]
    congr 1
    unfold gn;rw [hid,ht]
   rw [aiP,he,Q0 hid ht r]
theorem abg (hid:∀x,(af O' x).id=(af O x).id):(kS name es).map (gn O')=sH name (es.map (gn O)):=by
 unfold kS sH
 rw [List.filter_map]
 have:es.map (gn O')=es.map (gn O):=aiW (λx _=>by unfold gn;rw [hid])
 have h2:(es.filter (λe=>decide (e.1≠name))).map (gn O')=(es.filter (λe=>decide (e.1≠name))).map (gn O):=aiW (λx _=>by unfold gn;rw [hid])
 rw [h2];rfl
theorem Q5 {z:Int}:∀es:List fA,(∀e∈es,e.name≠name)->rX name es z=z
 |[],_=>rfl
 |e::r,hn=>by
   unfold rX
   rw [aij (hn e (aiw ..)),Q5 r (λx hx=>hn x (aiv _ hx))]
theorem TR {z:Int}:∀es:jc Th,qx es->bK name es=some t->rX name (es.map (gn O)) z=(af O t.k).id
 |[],_,h=>by cases h
 |e::r,hd,h=>by
   rw [qF] at h
   rw [aiP]
   unfold rX
   show rX name (r.map (gn O)) (if e.1=name then (af O e.2.k).id else z)=_
   by_cases hn:e.1=name
   ·rw [aik hn] at h ⊢
    injection h with h
    rw [h]
    refine Q5 _ (λx hx=>?_)
    obtain⟨y,hy,rfl⟩:=aiC.1 hx
    exact λq=>(aiB.1 hd).1 y hy (hn.trans q.symm)
   rw [aij hn] at h ⊢
   exact TR r (aiB.1 hd).2 h
theorem F8 (hc:core (af O' t.k)=core (af O t.k)) (hid:∀x,(af O' x).id=(af O x).id):jU O' id t=jU O id t:=by
 have f:∀{α:Type} (g:bJ->α),(∀o,g (core o)=g o)->g (af O' t.k)=g (af O t.k):=λg hg=>by rw [←hg,hc,hg]
 have he:gn O'=gn O:=by grind [gn]
 grind [jU,core,af]
theorem Er {S':br} (hi:S'.aq=S.aq) (hc:∀x,core (af S'.O x)=core (af S.O x)):aV S'=aV S:=by
 grind [aV,F8,core,af]
theorem F9 (hI:qO S.aq) (hl:aQ S.aq t) {S':br} (hi:S'.aq=S.aq) (hc:∀x,x≠t.k->core (af S'.O x)=core (af S.O x)) (hid:(af S'.O t.k).id=(af S.O t.k).id):aV S'=(aV S).set (bT S t) (jU S'.O (t.k:Int) t):=by
 have aia:∀x,(af S'.O x).id=(af S.O x).id:=λx=>by
  grind [aQ,core,af,aV,bT,jU]
 obtain⟨h1,h2,h3,h4,_⟩:=oe hI hl
 apply List.ext_getElem?
 grind [aV,bT,yP,F8,GU,jy,oe,KS]
theorem Ys {aq:bC Th} {f:Int×Th->aL} (hr:aD.dH (aY aq)) (hk:∀p∈aq,p.1=(p.2.k:Int)) {q:aL->Bool} {b:Bool} (hq:∀p∈aq,q (f p)=true↔¬(p.2=t/\b=true)) (hl:aQ aq t):(aq.map f).filter q=(if b=true then del (t.k:Int) aq else aq).map f:=by
 rw [List.filter_map]
 by_cases hb:b=true
 ·rw [aik hb]
  unfold del
  refine ail (List.map f) (List.filter_congr (λp hp=>?_))
  have h1:=hq p hp
  have h2:(q ∘ f) p=true↔decide (p.1≠(t.k:Int))=true:=by
   show q (f p)=true↔_
   rw [h1,decide_eq_true_iff]
   refine not_congr ⟨λh=>by rw [hk p hp,h.1],λh=>⟨?_,hb⟩⟩
   have h3:aD.get aq p.1=some p.2:=oR hr hp
   grind [aY,aQ,del]
  exact Bool.eq_iff_iff.2 (h2.trans aii)
 rw [aij hb]
 exact ail (List.map f) (List.filter_eq_self.2 (λp hp=>(hq p hp).2 (λh=>hb h.2)))
end p
section v
variable {S S':br} {g:List Int} {t u:Th} {d to k i j:Nat} {name aB:ByteArray} {O O':dZ} {h dX id:Int} {es:jc Th}
structure RelR (S:br) (g:List Int):Prop where
 inv:bO S
 aE:x5 S.aq S.O g
theorem Es:iG (toR S g) h=match aD.get S.us h with|none=>.error 131|some t=>.ok (bT S t):=by
 grind [iG,ur,adH,toR,bT]
theorem qz (hr:RelR S g):ig (toR S g) h name dX=match iO S.O S.us h name dX with|.error e=>.error e|.ok d=>.ok (bT S ⟨d,2⟩):=by
 unfold ig iO
 rw [Es]
 cases e:aD.get S.us h with
 |none=>rfl
 |some t=>
   have hl:=(hr.inv.us _ _ e).1
   have hp:=(oe hr.inv.ix hl).2.2.2.2.2
   simp only
   have hp2:nd (toR S g).ns (bT S t)=jU S.O (t.k:Int) t:=hp
   rw [hp2]
   show (if t.kind=2 then if (t.k:Int)∈g then _ else if ck name then if bits BinOp.and .i64 (af S.O t.k).mode dX=dX then Except.ok (bT S t) else _ else _ else _)=_
   by_cases h2:t.kind=2
   ·have ht:t=⟨t.k,2⟩:=by rw [←h2]
    rw [aik h2,aik h2]
    by_cases hg:(t.k:Int)∈g
    ·rw [aik hg,aik ((hr.aE.CY t hl).1 hg)]
    rw [aij hg,aij (λq=>hg ((hr.aE.CY t hl).2 q))]
    grind
   rw [aij h2,aij h2]
theorem Yt {es:jc Th} (hj:j<es.length):en (es.map (gn O)) j=⟨ou es j,(af O (uw es j).k).id⟩:=by
 grind [en,D4,gn,ou,af,uw]
theorem abh (hI:Inv0 S) (hd:aQ S.aq ⟨d,2⟩):bV (aV S) (bT S ⟨d,2⟩) name=match bK name (af S.O d).ah with|none=>-1|some t=>(bT S t:Int):=by
 unfold bV
 rw [(oe hI.ix hd).2.2.2.2.2]
 show (match Cv ((af S.O d).ah.map (gn S.O)) name with|none=>_|some j=>gF (aV S) (en ((af S.O d).ah.map (gn S.O)) j).id)=_
 rw [Yr,QZ]
 cases e:(af S.O d).ah.findIdx? (λe=>decide (e.1=name)) with
 |none=>rfl
 |some j=>
   have hj:j<(af S.O d).ah.length:=by
    rw [ai2] at e
    exact e.1
   show gF (aV S) (en ((af S.O d).ah.map (gn S.O)) j).id=(bT S (uw (af S.O d).ah j):Int)
   have hl:aQ S.aq (uw (af S.O d).ah j):=(hI.ah _ hd _ (aiU (D4 hj))).2
   rw [Yt hj,(hI.ob _ hl).1,(oe hI.ix hl).2.2.2.2.1]
theorem Q6 (hI:Inv0 S):wz (toR S g)↔Room S.X S.aq:=by
 have h1:(dI (aV S) (aV S).length:Int)=S.X.ah:=by rw [ic,FP];exact hI.total.1.symm
 grind [aV,dI,ic,wz,toR,Room]
theorem Q7 (hI:Inv0 S):(fM (toR S g).ns (toR S g).ns.length:Int)=S.X.used:=by
 show (fM (aV S) (aV S).length:Int)=_
 rw [ic,Qs];exact hI.used.1.symm
theorem Et (hx:qO S.aq) (hd:aQ S.aq ⟨d,2⟩) (htd:t.k≠d) (hid:(af S.O t.k).id=id) (hS:S'={S with X:=S'.X,O:=dg S.X S.O d name t,us:=S'.us,aI:=S'.aI}):aV S'=nT S.X.cS S.X.cZ (aV S) (bT S ⟨d,2⟩) (mW name id (nd (aV S) (bT S ⟨d,2⟩)).ah):=by
 have hO:S'.O=dg S.X S.O d name t:=by rw [hS]
 have y8:∀x,(af (dg S.X S.O d name t) x).id=(af S.O x).id:=λx=>mG (g:=bJ.id) (λ_ _=>rfl) (λ_ _=>rfl) (λ_ _ _=>rfl) (λ_ _=>rfl)
 rw [F9 hx hd (S':=S') (by rw [hS]) (λx cu=>by rw [hO,tM htd,aij cu];split<;>rfl) (by rw [hO];exact y8 d)]
 unfold nT
 rw [(oe hx hd).2.2.2.2.2,hO]
 congr 1
 show (⟨(d:Int),2,(af (dg S.X S.O d name t) d).mode,(af (dg S.X S.O d name t) d).bg,(af (dg S.X S.O d name t) d).bh,(af (dg S.X S.O d name t) d).aT,(af (dg S.X S.O d name t) d).aJ,(af (dg S.X S.O d name t) d).data,(af (dg S.X S.O d name t) d).target,(af (dg S.X S.O d name t) d).ah.map (gn (dg S.X S.O d name t))⟩:aL)=_
 have h1:(af (dg S.X S.O d name t) d)={af S.O d with ah:=kZ name t (af S.O d).ah,aT:=S.X.cS,aJ:=S.X.cZ}:=by rw [tM htd,aik rfl]
 rw [h1]
 show (⟨_,_,_,_,_,_,_,_,_,(kZ name t (af S.O d).ah).map (gn (dg S.X S.O d name t))⟩:aL)=_
 rw [Q0 (O:=S.O) y8 hid];rfl
theorem zT (hx:qO S.aq) (hd:aQ S.aq ⟨d,2⟩) (htd:t.k≠d) (hi:S'.aq=S.aq) (hO:∀x,core (af S'.O x)=core (af (bn S.X S.O d name t) x)):aV S'=nT S.X.cS S.X.cZ (aV S) (bT S ⟨d,2⟩) (sH name (nd (aV S) (bT S ⟨d,2⟩)).ah):=by
 have y8:∀x,(af (bn S.X S.O d name t) x).id=(af S.O x).id:=λx=>eM (g:=bJ.id) (λ_ _=>rfl) (λ_ _=>rfl) (λ_ _ _=>rfl)
 have e1:aV S'=aV {S with O:=bn S.X S.O d name t}:=Er (S:={S with O:=bn S.X S.O d name t}) hi hO
 rw [e1,F9 hx hd (S':={S with O:=bn S.X S.O d name t}) rfl (λx cu=>by
  show core (af (bn S.X S.O d name t) x)=_
  rw [lH htd,aij cu];split<;>rfl) (y8 d)]
 unfold nT
 rw [(oe hx hd).2.2.2.2.2]
 congr 1
 show (⟨(d:Int),2,(af (bn S.X S.O d name t) d).mode,(af (bn S.X S.O d name t) d).bg,(af (bn S.X S.O d name t) d).bh,(af (bn S.X S.O d name t) d).aT,(af (bn S.X S.O d name t) d).aJ,(af (bn S.X S.O d name t) d).data,(af (bn S.X S.O d name t) d).target,(af (bn S.X S.O d name t) d).ah.map (gn (bn S.X S.O d name t))⟩:aL)=_
 have h1:(af (bn S.X S.O d name t) d)={af S.O d with ah:=kS name (af S.O d).ah,aT:=S.X.cS,aJ:=S.X.cZ}:=by rw [lH htd,aik rfl]
 rw [h1]
 show (⟨_,_,_,_,_,_,_,_,_,(kS name (af S.O d).ah).map (gn (bn S.X S.O d name t))⟩:aL)=_
 rw [abg (O:=S.O) y8];rfl
theorem Eu {es:jc Th} (hid:∀e∈es,(af O e.2.k).id=(e.2.k:Int)):∀j,j<=es.length->iX (es.map (gn O)) (k:Int) j=(es.take j).countP (λe=>decide (e.2.k=k))
 |0,_=>rfl
 |j+1,hj=>by
   rw [iX,Eu hid j zc,aiQ,D4 (show j<es.length by omega),List.countP_append,Yt zc]
   congr 1
   have:=hid _ (aiU (D4 (show j<es.length by omega)))
   have h2:(af O (uw es j).k).id=((uw es j).k:Int):=this
   simp only [h2,Option.toList,List.countP_cons,List.countP_nil]
   by_cases hk:(uw es j).k=k
   ·simp [hk]
   simp [hk]
   omega
theorem Yu (hid:∀i,i<S.aq.length->∀e∈(af S.O (ju S i).k).ah,(af S.O e.2.k).id=(e.2.k:Int)):uN (aV S) (k:Int)=(nP S.aq S.O k:Int):=by
 unfold uN
 rw [ic]
 have h:=Cs (S:=S) (λo=>o.ah.countP (λe=>decide (e.2.k=k))) (λns n=>nZ ns (k:Int) n) (λ_=>rfl) (λi hi=>by
  show nZ (aV S) _ i+iX (nd (aV S) i).ah _ (nd (aV S) i).ah.length=_
  rw [pY hi]
  show _+iX ((af S.O (ju S i).k).ah.map (gn S.O)) _ ((af S.O (ju S i).k).ah.map (gn S.O)).length=_
  rw [aiF,Eu (hid i hi) _ (aiu _),aiK]) S.aq.length (aiu _)
 rw [aiK] at h
 exact ail Nat.cast h
theorem Sp (hI:Inv0 S) (hd:aQ S.aq ⟨d,2⟩) (hl:bK name (af S.O d).ah=some t) (hi:S'.aq=S.aq) (hO:∀x,core (af S'.O x)=core (af (bn S.X S.O d name t) x)):uN (aV S') (t.k:Int)=(af S.O t.k).aS-1:=by
 have htd:=hI.ne hd hl
 have y8:∀x,(af S'.O x).id=(af S.O x).id:=λx=>(show (af S'.O x).id=(af (bn S.X S.O d name t) x).id by have h:=ail bJ.id (hO x);exact h).trans (eM (g:=bJ.id) (λ_ _=>rfl) (λ_ _=>rfl) (λ_ _ _=>rfl))
 have BQ:∀x,(af S'.O x).ah=(af (bn S.X S.O d name t) x).ah:=λx=>by have h:=ail bJ.ah (hO x);exact h
 have he:∀x,(af S'.O x).ah=if x=d then kS name (af S.O d).ah else (af S.O x).ah:=λx=>by
  grind [lH]
 rw [Yu (λi hi2 e hem=>by
  rw [y8]
  rw [hi] at hi2
  have q4:ju S' i=ju S i:=by unfold ju;rw [hi]
  rw [q4,he] at hem
  have bX:=(GU hI.ix hi2).1
  have:e∈(af S.O (ju S i).k).ah:=by
   grind [PD]
  exact (hI.ob _ (hI.ah _ bX _ this).2).1),hi]
 have h1:=PE (q:=λe=>decide (e.2.k=t.k)) (O':=S'.O) hI.fD hd (λ_ _ e=>hI.key e) (λx hx=>by rw [he,aij hx]) (by rw [he,aik rfl]) (hI.qf hd) hl
 have h2:=hI.aS t (hI.bS hd hl).2
 grind [nP]
theorem abj {V:Type} {z:Int} {p:Int×V} {us:bC V}:p∈del z us↔p∈us/\p.1≠z:=by
 unfold del
 rw [List.mem_filter]
 simp
theorem CB {S1 S2:br} {O2:dZ} {Q8:bC Th} {R:RS} (hx:qO S1.aq) (hns:R.ns=aV S1) (iD:R.us=ur Q8) (hg:x5 S1.aq O2 R.aE) (hl:aQ S1.aq t)
 (hfull:∀u,aQ S1.aq u->u≠t->(af O2 u.k).aE=true->0<hnd Q8 u.k) (bW:(af O2 t.k).aK=(hnd Q8 t.k:Int)) (hid:(af O2 t.k).id=(t.k:Int))
 (hi:S2.aq=lC O2 S1.aq t) (hc:∀x,core (af S2.O x)=core (af S1.O x)) (hgo:∀x,(af S2.O x).aE=(af O2 x).aE) :
 (fV R).ns=aV S2/\x5 S2.aq S2.O (fV R).aE:=by
 have y8:∀x,(af S2.O x).id=(af S1.O x).id:=λx=>by have h:=ail bJ.id (hc x);exact h
 have kK:∀p∈S1.aq,aQ S1.aq p.2:=λp hp=>by
  unfold aQ;rw [←hx.key p hp];exact oR hx.fD hp
 have hkept:∀p∈S1.aq,sI R (jU S1.O p.1 p.2)=true↔¬(p.2=t/\decide (uT O2 t)=true):=λp hp=>by
  have hlp:=kK p hp
  show decide (p.1∈R.aE->p.1∈ja R.us)=true↔_
  rw [decide_eq_true_iff,hx.key p hp,hg.CY _ hlp,iD,adI,decide_eq_true_iff]
  constructor
  ·rintro h ⟨h1,h2⟩
   rw [h1] at h
   have:=h h2.1
   have h3:=h2.2
   rw [bW] at h3
   omega
  intro h j7
  by_cases hpt:p.2=t
  ·rw [hpt] at j7 ⊢
   have:¬(af O2 t.k).aK=0:=λq=>h ⟨hpt,j7,q⟩
   rw [bW] at this
   omega
  exact hfull _ hlp hpt j7
 have afs:(fV R).ns=aV S2:=by
  show R.ns.filter (sI R)=aV S2
  rw [hns]
  unfold aV
  rw [Ys hx.fD hx.key hkept hl,hi]
  grind [lC,jU,F8,uT]
 refine⟨afs,?_⟩
 have hsub:∀u,aQ S2.aq u->aQ S1.aq u:=λu hu=>by
  grind [lC,aQ,zW]
 have hx2:qO S2.aq:=by
  rw [hi]
  unfold lC
  split
  ·refine⟨?_,λp hp=>hx.key p (abj.1 hp).1⟩
   unfold aY del
   exact hx.fD.sublist (List.Sublist.map _ List.filter_sublist)
  exact hx
 have hmem:∀z,z∈(fV R).aE↔(z∈R.aE/\∃p∈S2.aq,p.1=z):=λz=>by
  show z∈((fV R).ns.filter (λn=>decide (n.id∈R.aE))).map aL.id↔_
  rw [afs]
  simp only [aiC,List.mem_filter,decide_eq_true_iff]
  constructor
  ·rintro⟨n,⟨h1,h2⟩,h3⟩
   obtain⟨p,hp,rfl⟩:=aiC.1 h1
   exact⟨by rw [←h3];exact h2,p,hp,h3⟩
  rintro⟨h1,p,hp,h2⟩
  exact⟨jU S2.O p.1 p.2,⟨aiC.2 ⟨p,hp,rfl⟩,by show p.1∈_;rw [h2];exact h1⟩,h2⟩
 refine⟨λu hu=>?_,λz hz=>?_⟩
 ·rw [hmem,hg.CY u (hsub u hu),hgo]
  exact⟨λh=>h.1,λh=>⟨h,_,get_mem hu,rfl⟩⟩
 obtain⟨_,p,hp,h1⟩:=(hmem z).1 hz
 refine⟨p.2,?_,(hx2.key p hp).symm.trans h1⟩
 unfold aQ;rw [←hx2.key p hp];exact oR hx2.fD hp
end v
def d8 (a:xH) (code:Int) (S':br) (an:Int):Prop:=a.2.2=code/\(code=0->∃g',a.1=toR S' g'/\x5 S'.aq S'.O g'/\a.2.1=an)
section w
variable {S S':br} {g:List Int} {t u:Th} {d to k i j:Nat} {name aB:ByteArray} {O O':dZ} {h dX id z:Int} {c:aH} {R:RS}
theorem d8.bad {a:xH} {e an:Int} {S':br} (h:a.2.2=e) (he:e≠0):d8 a e S' an:=⟨h,λq=>ain q he⟩
theorem Yv (h1:R.ns=aV S') (h3:R.us=ur S'.us) (h4:R.aI=S'.aI) (h5:R.cN=S'.X.cN/\R.cB=S'.X.cB/\R.cH=S'.X.cH/\R.cS=S'.X.cS/\R.cZ=S'.X.cZ/\R.last=S'.X.last):R=toR S' R.aE:=by
 obtain⟨ns,aE,us,aI,cN,cB,cH,cS,cZ,last⟩:=R
 grind [aV,ur,toR]
theorem x5.same {aq:bC Th} (h:x5 aq O g) (hg:∀x,(af O' x).aE=(af O x).aE):x5 aq O' g:=⟨λt ht=>(h.CY t ht).trans (by rw [hg]),h.live⟩
theorem Q9 (hI:Inv0 S) (z:Int):gF (aV S) z=match aD.get S.aq z with|none=>-1|some t=>(bT S t:Int):=by
 cases e:aD.get S.aq z with
 |none=>
   refine DM (λj hj he=>?_)
   rw [ic] at hj
   rw [pY hj] at he
   have h1:gD S j=z:=he
   have h2:=(LM hI hj)
   have h3:aD.get S.aq ((ju S j).k:Int)=some (ju S j):=h2.1
   rw [←h2.2,h1,e] at h3
   cases h3
 |some t=>
   have hk:=(hI.aq _ _ e).1
   have hl:aQ S.aq t:=by show aD.get S.aq (t.k:Int)=some t;rw [←hk];exact e
   show gF (aV S) z=_
   rw [hk];exact (oe hI.ix hl).2.2.2.2.1
theorem Jk (hI:Inv0 S) (e:aD.get S.aq z=some t):aQ S.aq t/\z=(t.k:Int):=by
 have hk:=(hI.aq _ _ e).1
 grind [aQ]
theorem nM (hI:Inv0 S) (hl:aQ S.aq t):nd (toR S g).ns (bT S t)=jU S.O (t.k:Int) t:=(oe hI.ix hl).2.2.2.2.2
theorem d8.ok {a:xH} {an:Int} (hc:a.2.2=0) (h1:a.1.ns=aV S') (h3:a.1.us=ur S'.us) (h4:a.1.aI=S'.aI) (h5:a.1.cN=S'.X.cN/\a.1.cB=S'.X.cB/\a.1.cH=S'.X.cH/\a.1.cS=S'.X.cS/\a.1.cZ=S'.X.cZ/\a.1.last=S'.X.last) (hg:x5 S'.aq S'.O a.1.aE) (ha:a.2.1=an):d8 a 0 S' an:=
 ⟨hc,λ_=>⟨_,Yv h1 h3 h4 h5,hg,ha⟩⟩
theorem d8.same {an:Int} (hr:RelR S g) (ha:an=0):d8 (toR S g,0,0) 0 S an:=⟨rfl,λ_=>⟨g,rfl,hr.aE,ha.symm⟩⟩
theorem Jl (hr:RelR S g) (hl:aQ S.aq t):d8 (lE (toR S g) (bT S t)) (ef S t).2.1 (ef S t).2.2 (ef S t).1:=by
 have jD:(toR S g).us.length=S.us.length:=Dy
 unfold lE
 by_cases hc:(S.us.length:Int)<S.X.cH
 ·rw [oL hc,aik (by rw [jD];exact hc)]
  refine .ok rfl ?_ ?_ ?_ ⟨rfl,rfl,rfl,rfl,rfl,rfl⟩ (hr.aE.same (λx=>ez (g:=bJ.aE) (λ_=>rfl))) F7
  ·show aV S=aV _
   exact (Er (S:=S) (S':={S with O:=aX S.O t.k (λo=>{o with aK:=o.aK+1}),us:=ins (aP S.us) t S.us,aI:=max S.aI ((S.us.length:Int)+1)}) rfl (λx=>ez (g:=core) (f:=λo=>{o with aK:=o.aK+1}) (λ_=>rfl))).symm
  ·show ins (aP (ur S.us)) (nd (toR S g).ns (bT S t)).id (ur S.us)=ur (ins (aP S.us) t S.us)
   rw [nM hr.inv.toInv0 hl,TP,F7];rfl
  grind [ur,Dy,aQ,d8,lE,toR,bT,ef]
 grind [pu,aQ,d8,lE,toR,bT,ef]
theorem abk (hr:RelR S g) (c:aH):d8 (if 0<=gF (toR S g).ns c.other then if (nd (toR S g).ns (bY (toR S g).ns c.other)).kind=2 then lE (toR S g) (bY (toR S g).ns c.other) else (toR S g,0,173) else (toR S g,0,141)) (lD S c).1 (lD S c).2.1 (lD S c).2.2.answer:=by
 have hI:=hr.inv.toInv0
 have ha:gF (toR S g).ns c.other=_:=Q9 hI c.other
 unfold lD
 cases e:aD.get S.aq c.other with
 |none=>
   grind [gF,toR,d8,nd,bY,lE,lD]
 |some t=>
   rw [e] at ha
   replace ha:gF (toR S g).ns c.other=(bT S t:Int):=ha
   obtain⟨hl,_⟩:=Jk hI e
   have ht:bY (toR S g).ns c.other=bT S t:=by grind [bY]
   rw [aik (by rw [ha];omega),ht,nM hI hl]
   show d8 (if t.kind=2 then _ else _) _ _ _
   grind [Jl,d8,gF,toR,nd,bY,lE,lD]
theorem mI (hr:RelR S g) (hd:aQ S.aq ⟨d,2⟩) (name:ByteArray):(bK name (af S.O d).ah=none/\bV (toR S g).ns (bT S ⟨d,2⟩) name = -1)\/∃t,bK name (af S.O d).ah=some t/\bV (toR S g).ns (bT S ⟨d,2⟩) name=(bT S t:Int)/\aQ S.aq t/\(t.kind=1\/t.kind=2\/t.kind=3)/\t.k≠d:=by
 have hI:=hr.inv.toInv0
 have hl:bV (toR S g).ns (bT S ⟨d,2⟩) name=_:=abh (name:=name) hI hd
 cases e:bK name (af S.O d).ah with
 |none=>rw [e] at hl;exact .inl ⟨rfl,hl⟩
 |some t=>
   rw [e] at hl
   have h1:=(hr.inv.bS hd e).2
   exact .inr ⟨t,rfl,hl,h1,(hI.ob t h1).2.2,hr.inv.ne hd e⟩
theorem Sq (hr:RelR S g) (c:aH):d8 (jo (toR S g) c 2) (gU S c).1 (gU S c).2.1 (gU S c).2.2.answer:=by
 have hI:=hr.inv.toInv0
 unfold jo gU jP
 rw [qz hr]
 rcases kV hI c.aG c.name 64 with ⟨e,h,he⟩|⟨d,h,hd,-⟩
 ·rw [h];exact .bad rfl he
 rw [h]
 simp only
 rcases mI hr hd c.name with ⟨h1,h2⟩|⟨t,h1,h2,hl,hk,-⟩
 ·grind [d8,jo,toR,gU]
 rw [h1,aik (by rw [h2];omega),h2,aiO,nM hI hl]
 show d8 (if t.kind=3 then _ else if t.kind≠2 then (_,_,if t.kind=1 then _ else _) else _) _ _ _
 grind [Jl,d8,jo,toR,gU]
theorem Ra (hr:RelR S g) (c:aH):d8 (jo (toR S g) c 1) (fS S c).1 (fS S c).2.1 (fS S c).2.2.answer:=by
 have hI:=hr.inv.toInv0
 unfold jo fS jP
 rw [qz hr]
 rcases kV hI c.aG c.name 64 with ⟨e,h,he⟩|⟨d,h,hd,-⟩
 ·rw [h];exact .bad rfl he
 rw [h]
 simp only
 rcases mI hr hd c.name with ⟨h1,h2⟩|⟨t,h1,h2,hl,hk,-⟩
 ·grind [d8,jo,toR,fS]
 rw [h1,aik (by rw [h2];omega),h2,aiO,nM hI hl]
 show d8 (if t.kind=3 then _ else if t.kind≠1 then (_,_,if t.kind=1 then _ else _) else _) _ _ _
 grind [Jl,d8,jo,toR,fS]
theorem Rb (hI:Inv0 S) (hl:aQ S.aq t) (c:aH):GJ (toR S g) c (bT S t)={oA S.O (c0 c) (some t) with code:=0}:=by
 unfold GJ
 rw [nM hI hl]
 unfold oA
 simp only
 rw [(hI.ob t hl).1];rfl
theorem abl (hr:RelR S g) (c:aH) (bW:c.op=11\/c.op=12):gj S c=(S,rA (toR S g) c):=by
 have hI:=hr.inv.toInv0
 show ((iC S (c0 c)).2.1,{ (iC S (c0 c)).2.2 with code:=(iC S (c0 c)).1})=_
 unfold rA
 rcases bW with h|h
 ·rw [yK (c:=c0 c) h,aij zc,Es]
  cases e:aD.get S.us c.aG with
  |none=>rw [show oC S (c0 c)=(131,S,oA S.O (c0 c) none) by grind [oC]];rfl
  |some t=>rw [show oC S (c0 c)=(0,S,oA S.O (c0 c) (some t)) by grind [oC]];exact ail (Prod.mk S) (Rb hI (hr.inv.us _ _ e).1 c).symm
 rw [yL (c:=c0 c) h,aik h,qz hr]
 rcases kV hI c.aG c.name 64 with ⟨e,h,he⟩|⟨d,h,hd,-⟩
 ·rw [show jx S (c0 c)=(e,S,oA S.O (c0 c) none) by unfold jx jP;grind,h];rfl
 rw [h]
 simp only
 rcases mI hr hd c.name with ⟨h1,h2⟩|⟨t,h1,h2,hl,hk,-⟩
 ·rw [show jx S (c0 c)=(170,S,oA S.O (c0 c) none) by unfold jx jP;grind,aij (by rw [h2];decide)];rfl
 rw [show jx S (c0 c)=(0,S,oA S.O (c0 c) (some t)) by unfold jx jP;grind,aik (by rw [h2];omega),h2,aiO]
 grind [Rb]
theorem Rc {f:bJ->bJ} (hid:∀o,(f o).id=o.id):jU (aX O t.k f) z t=⟨z,t.kind,(f (af O t.k)).mode,(f (af O t.k)).bg,(f (af O t.k)).bh,(f (af O t.k)).aT,(f (af O t.k)).aJ,(f (af O t.k)).data,(f (af O t.k)).target,(f (af O t.k)).ah.map (gn O)⟩:=by
 have h1:af (aX O t.k f) t.k=f (af O t.k):=by rw [kx,aik rfl]
 have h2:gn (aX O t.k f)=gn O:=funext λe=>by unfold gn;rw [ez (g:=bJ.id) hid]
 unfold jU
 rw [h1,h2]
theorem NE (hI:Inv0 S) (hl:aQ S.aq t) {f:bJ->bJ} (hid:∀o,(f o).id=o.id) (hi:S'.aq=S.aq) (hO:S'.O=aX S.O t.k f):aV S'=(aV S).set (bT S t) (jU (aX S.O t.k f) (t.k:Int) t):=by
 rw [F9 hI.ix hl (S':=S') hi (λx hx=>by rw [hO,kx,aij hx]) (by rw [hO];exact ez (g:=bJ.id) hid),hO]
theorem abm (hr:RelR S g) (c:aH):d8 (mH (toR S g) c) (cX S c).1 (cX S c).2.1 0:=by
 have hI:=hr.inv.toInv0
 unfold mH cX
 rw [Es]
 cases e:aD.get S.us c.aG with
 |none=>exact .bad rfl (show (131:Int)≠0 by decide)
 |some t=>
   have hl:=(hr.inv.us _ _ e).1
   simp only
   rw [nM hI hl]
   show d8 (if t.kind=2/\(t.k:Int)∈g then _ else _) _ _ _
   by_cases hg:(af S.O t.k).aE=true/\t.kind=2
   ·rw [aik ⟨hg.2,(hr.aE.CY t hl).2 hg.1⟩,aik hg];exact .bad rfl (show (170:Int)≠0 by decide)
   rw [aij (λq=>hg ⟨(hr.aE.CY t hl).1 q.2,q.1⟩),aij hg]
   by_cases h1:jX c.mode
   ·by_cases h2:qH c.bg/\qH c.bh
    ·by_cases h3:fU c.aT c.aJ
     ·rw [aik h1,aik h1,aik h2,aik h2,aik h3,aik h3]
      refine .ok rfl ?_ rfl rfl ⟨rfl,rfl,rfl,rfl,rfl,rfl⟩ (hr.aE.same (λx=>ez (g:=bJ.aE) (f:=λo=>{o with mode:=c.mode,bg:=c.bg,bh:=c.bh,aT:=c.aT,aJ:=c.aJ}) (λ_=>rfl))) rfl
      refine ajn ?_ (NE (S:=S) (S':={S with O:=aX S.O t.k (λo=>{o with mode:=c.mode,bg:=c.bg,bh:=c.bh,aT:=c.aT,aJ:=c.aJ})}) (t:=t) hI hl (f:=λo=>{o with mode:=c.mode,bg:=c.bg,bh:=c.bh,aT:=c.aT,aJ:=c.aJ}) (λ_=>rfl) rfl rfl).symm
      rw [Rc (f:=λo=>{o with mode:=c.mode,bg:=c.bg,bh:=c.bh,aT:=c.aT,aJ:=c.aJ}) (λ_=>rfl)]
      rfl
     grind [d8,mH,toR,cX]
    grind [d8,mH,toR,cX]
   grind [d8,mH,toR,cX]
theorem Ga (hr:RelR S g) (hl:aQ S.aq t) (bs:List UInt8):d8 (jV (toR S g) (bT S t) bs) (gy S t.k bs).2.1 (gy S t.k bs).2.2 (gy S t.k bs).1:=by
 have hI:=hr.inv.toInv0
 unfold jV gy
 by_cases hb:bs=[]
 ·rw [aik hb,aik hb];exact .same hr rfl
 rw [aij hb,aij hb,Q7 hI]
 show d8 (if S.X.cB-S.X.used<=0 then _ else _) _ _ _
 by_cases hu:S.X.cB-S.X.used<=0
 ·grind [aQ,d8,jV,toR,bT,gy]
 rw [aij hu,aij hu]
 refine .ok rfl (ajn ?_ (NE (S:=S) (S':={S with X:={S.X with used:=S.X.used+(dM S.X bs.length:Int)},O:=aX S.O t.k (λo=>{o with data:=o.data++bs.take (dM S.X bs.length),aT:=S.X.cS,aJ:=S.X.cZ})}) (t:=t) hI hl (f:=λo=>{o with data:=o.data++bs.take (dM S.X bs.length),aT:=S.X.cS,aJ:=S.X.cZ}) (λ_=>rfl) rfl rfl).symm) rfl rfl ⟨rfl,rfl,rfl,rfl,rfl,rfl⟩ (hr.aE.same (λx=>ez (g:=bJ.aE) (f:=λo=>{o with data:=o.data++bs.take (dM S.X bs.length),aT:=S.X.cS,aJ:=S.X.cZ}) (λ_=>rfl))) rfl
 rw [Rc (f:=λo=>{o with data:=o.data++bs.take (dM S.X bs.length),aT:=S.X.cS,aJ:=S.X.cZ}) (λ_=>rfl)]
 simp only
 rw [nM hI hl]
 rfl
theorem abn (hr:RelR S g) (c:aH):d8 (match iG (toR S g) c.aG with|.error e=>(toR S g,0,e)|.ok k=>if (nd (toR S g).ns k).kind=2 then (toR S g,0,172) else jV (toR S g) k c.data) (iw S c).1 (iw S c).2.1 (if (iw S c).1=0 then (iw S c).2.2.answer else 0):=by
 have hI:=hr.inv.toInv0
 unfold iw
 rw [Es]
 cases e:aD.get S.us c.aG with
 |none=>exact .bad rfl (show (131:Int)≠0 by decide)
 |some t=>
   obtain⟨hl,h3⟩:=hr.inv.us _ _ e
   have hk:=(hI.ob t hl).2.2
   simp only
   rw [nM hI hl]
   show d8 (if t.kind=2 then _ else _) _ _ _
   grind [Ga,d8,iG,toR,nd,jV,iw]
theorem Yw (hr:RelR S g) (c:aH):d8 (if c.aG∈aY (toR S g).us then (fV {toR S g with us:=del c.aG (toR S g).us},0,0) else (fV (toR S g),0,131)) (jS S c).1 (jS S c).2.1 0:=by
 have hI:=hr.inv.toInv0
 have hk:aY (toR S g).us=aY S.us:=Jj
 unfold jS
 cases e:aD.get S.us c.aG with
 |none=>
   grind [get_none,d8,aY,toR,fV,del,jS]
 |some t=>
   have hl:=(hr.inv.us _ _ e).1
   rw [aik (by rw [hk];exact aiC.2 ⟨_,get_mem e,rfl⟩)]
   have hdel:=λk=>Tb (k:=k) hI.usr e
   have hsw:=CB (S1:=S) (S2:=(jS S c).2.1) (O2:=uG S.O t.k) (Q8:=del c.aG S.us) (R:={toR S g with us:=del c.aG (toR S g).us}) (t:=t) hI.ix rfl TQ.symm
    (hr.aE.same (λx=>ez (g:=bJ.aE) (f:=λo=>{o with aK:=o.aK-1}) (λ_=>rfl))) hl
    (λu hu cu NG=>by
     have h1:(af S.O u.k).aE=true:=ajn (ez (g:=bJ.aE) (f:=λo=>{o with aK:=o.aK-1}) (λ_=>rfl)).symm NG
     have h2:=hr.inv.full u hu h1
     rw [hI.aK u hu] at h2
     have h3:=hdel u.k
     rw [aij (λq=>cu (jy hu hl q.symm))] at h3
     omega)
    (by
     show (af (aX S.O t.k _) t.k).aK=_
     rw [kx,aik rfl]
     show (af S.O t.k).aK-1=_
     rw [hI.aK t hl]
     have h3:=hdel t.k
     rw [aik rfl] at h3
     omega)
    (by rw [show (af (uG S.O t.k) t.k).id=(af S.O t.k).id from ez (g:=bJ.id) (f:=λo=>{o with aK:=o.aK-1}) (λ_=>rfl)];exact (hI.ob t hl).1)
    (by unfold jS;rw [e]) (λx=>by unfold jS;rw [e];exact ez (g:=core) (f:=λo=>{o with aK:=o.aK-1}) (λ_=>rfl)) (λx=>by unfold jS;rw [e])
   unfold jS at hsw
   rw [e] at hsw
   refine .ok rfl hsw.1 ?_ rfl ⟨rfl,rfl,rfl,rfl,rfl,rfl⟩ hsw.2 rfl
   exact TQ.symm
end w
section x
variable {S S':br} {g:List Int} {t u:Th} {d to k i j:Nat} {name aB:ByteArray} {O O':dZ} {h dX id z:Int} {c:aH} {R:RS} {o:bJ} {n:aL}
theorem abo (hx:qO S.aq) (hl:aQ S.aq t) (hi:S'.aq=S.aq):bT S' t=bT S t:=by
 have hl':aQ S'.aq t:=by rw [hi];exact hl
 have hx':qO S'.aq:=by rw [hi];exact hx
 have h1:=oe hx hl
 have h2:=oe hx' hl'
 grind [KS,gD]
theorem Yx (hr:RelR S g) (hd:aQ S.aq ⟨d,2⟩) (hl:aQ S.aq t) (htd:t.k≠d) {e:Int}:d8 (dm (toR S g) (bT S ⟨d,2⟩) name (t.k:Int),0,0) 0 {S with X:={S.X with ah:=e},O:=dg S.X S.O d name t} 0:=by
 exact .ok rfl ((Et (S':={S with X:={S.X with ah:=e},O:=dg S.X S.O d name t}) hr.inv.ix hd htd (hr.inv.ob t hl).1 rfl).symm) rfl rfl ⟨rfl,rfl,rfl,rfl,rfl,rfl⟩ (hr.aE.same (λx=>mG (g:=bJ.aE) (λ_ _=>rfl) (λ_ _=>rfl) (λ_ _ _=>rfl) (λ_ _=>rfl))) rfl
theorem Jm (hI:Inv0 S):(dI (toR S g).ns (toR S g).ns.length:Int)=S.X.ah:=by
 show (dI (aV S) (aV S).length:Int)=S.X.ah
 rw [ic,FP];exact hI.total.1.symm
theorem abp (hr:RelR S g) (c:aH):d8 (wC (toR S g) c) (dV S c).1 (dV S c).2.1 0:=by
 have hI:=hr.inv.toInv0
 unfold wC qV dV
 rw [qz hr,qz hr]
 rcases kV hI c.aG c.name 64 with ⟨e,h,he⟩|⟨d,h,hd,-⟩
 ·rw [h];exact .bad rfl he
 rw [h]
 simp only
 rcases kV hI c.other c.text 192 with ⟨e,h,he⟩|⟨to,h,dY,-⟩
 ·rw [h];exact .bad rfl he
 rw [h]
 simp only
 unfold nU
 rcases mI hr hd c.name with ⟨h1,h2⟩|⟨t,h1,h2,hl,hk,htd⟩
 ·grind [d8,wC,toR,dV]
 rw [h1,aik (by rw [h2];omega),h2,aiO,nM hI hl]
 show d8 (if t.kind=2 then _ else _) _ _ _
 simp only
 by_cases h3:t.kind=2
 ·grind [d8,wC,toR,dV]
 rw [aij h3,aij h3]
 have CC:t.k≠to:=by grind [jy]
 rcases mI hr dY c.text with ⟨h4,h5⟩|⟨u,h4,h5,-⟩
 ·rw [aij (by rw [h5];decide),aik h4,Jm hI]
  by_cases h6:S.X.ah<8192
  ·rw [aik h6,aik h6];exact Yx hr dY hl CC
  grind [d8,wC,toR,dV]
 grind [d8,wC,toR,dV]
theorem HF (hI:Inv0 S):aV {S with O:=aX S.O (bw S.X) (λ_=>o)}=aV S:=by
 refine aiW (λp hp=>?_)
 have h1:af (aX S.O (bw S.X) (λ_=>o)) p.2.k=af S.O p.2.k:=by rw [kx,aij (hI.fresh.aq p hp)]
 have h2:(af S.O p.2.k).ah.map (gn (aX S.O (bw S.X) (λ_=>o)))=(af S.O p.2.k).ah.map (gn S.O):=aiW (λe he=>by
  unfold gn;rw [kx,aij (hI.fresh.ah _ e he)])
 unfold jU
 rw [h1,h2]
theorem Yy (hI:Inv0 S):∀x∈aY S.aq,x<S.X.last+1:=λx hx=>by
 cases e:aD.get S.aq x with
 |none=>exact ain hx (get_none.1 e)
 |some t=>have:=(hI.aq _ _ e).2.2;omega
theorem GV (hI:Inv0 S):(fY S d name o).aq=S.aq++[(S.X.last+1,⟨bw S.X,o.kind⟩)]:=Pv (Yy hI)
theorem Rf (hI:Inv0 S):qO (fY S d name o).aq/\aQ (fY S d name o).aq ⟨bw S.X,o.kind⟩/\∀u,aQ (fY S d name o).aq u↔u=⟨bw S.X,o.kind⟩\/aQ S.aq u:=by
 have hn:S.X.last+1∉aY S.aq:=λh=>by have:=Yy hI _ h;omega
 have hk:=rN hI
 have hg:∀x,aD.get (fY S d name o).aq x=if x=S.X.last+1 then some ⟨bw S.X,o.kind⟩ else aD.get S.aq x:=λx=>by
  show aD.get (ins _ _ _) x=_
  rw [wZ hn]
 have hl:aQ (fY S d name o).aq ⟨bw S.X,o.kind⟩:=by show aD.get _ ((bw S.X:Nat):Int)=_;rw [hg,aik hk]
 refine⟨⟨AV hI.fD hn,λp hp=>?_⟩,hl,λu=>?_⟩
 ·rw [GV hI] at hp
  rcases aiL.1 hp with h|h
  ·exact hI.ix.key p h
  grind
 constructor
 ·grind [fY,aQ,bw]
 rintro (rfl|hu)
 ·exact hl
 show aD.get _ (u.k:Int)=some u
 rw [hg,aij (λq=>hn (by rw [←q];exact aiC.2 ⟨_,get_mem hu,rfl⟩))];exact hu
theorem GW (hr:RelR S g) (hd:aQ S.aq ⟨d,2⟩) (ho:o.id=S.X.last+1/\o.aT=S.X.cS/\o.aJ=S.X.cZ/\o.aE=false/\o.ah=[]) (hn:n.kind=o.kind/\n.mode=o.mode/\n.bg=o.bg/\n.bh=o.bh/\n.data=o.data/\n.target=o.target/\n.ah=[]) :
 j3 (toR S g) (bT S ⟨d,2⟩) name n=toR (fY S d name o) g/\x5 (fY S d name o).aq (fY S d name o).O g:=by
 have hI:=hr.inv.toInv0
 have hk:=rN hI
 have htd:bw S.X≠d:=λe=>hI.fresh.aq _ (get_mem hd) e.symm
 have hat:=λx=>tM (X:=S.X) (O:=aX S.O (bw S.X) (λ_=>o)) (d:=d) (name:=name) (t:=⟨bw S.X,o.kind⟩) (k:=x) htd
 obtain⟨h1,h2,h3,h4,h5⟩:=ho
 have hnew:af (fY S d name o).O (bw S.X)={o with aS:=o.aS+1,up:=if o.kind=2 then some d else o.up}:=by
  show af (dg _ _ _ _ _) _=_
  rw [hat,aij htd,aik rfl,kx,aik rfl]
 refine⟨Yv (R:=j3 (toR S g) (bT S ⟨d,2⟩) name n) ?_ rfl rfl ⟨rfl,rfl,rfl,rfl,rfl,rfl⟩,⟨λu hu=>?_,λz hz=>?_⟩⟩
 ·have hg2:=Et (S:={S with O:=aX S.O (bw S.X) (λ_=>o)}) (S':={S with X:=(fY S d name o).X,O:=(fY S d name o).O}) (d:=d) (name:=name) (t:=⟨bw S.X,o.kind⟩) (id:=S.X.last+1) hI.ix hd htd (by
   show (af (aX _ _ _) (bw S.X)).id=_
   rw [kx,aik rfl];exact h1) rfl
  rw [HF hI,show bT {S with O:=aX S.O (bw S.X) (λ_=>o)} ⟨d,2⟩=bT S ⟨d,2⟩ by unfold bT;rw [HF hI]] at hg2
  have hg3:aV (fY S d name o)=aV {S with X:=(fY S d name o).X,O:=(fY S d name o).O}++[jU (fY S d name o).O (S.X.last+1) ⟨bw S.X,o.kind⟩]:=by
   unfold aV
   rw [GV hI,ai1];rfl
  have hN:({n with id:=S.X.last+1,aT:=S.X.cS,aJ:=S.X.cZ}:aL)=jU (fY S d name o).O (S.X.last+1) ⟨bw S.X,o.kind⟩:=by
   unfold jU
   simp only
   rw [hnew,h5]
   obtain⟨ni,nk,nm,nu,ng,ns,nn,nda,nt,ne⟩:=n
   obtain⟨g1,g2,g3,g4,g5,g6,g7⟩:=hn
   simp only at g1 g2 g3 g4 g5 g6 g7 ⊢
   rw [g1,g2,g3,g4,g5,g6,g7,h2,h3];rfl
  rw [hg3,hg2,←hN];rfl
 ·rcases ((Rf hI).2.2 u).1 hu with rfl|TA
  ·constructor
   ·intro hz
    obtain⟨v,hv,e⟩:=hr.aE.live _ hz
    exact ain (show v.k=bw S.X by exact Int.ofNat.inj e) (hI.fresh.aq _ (get_mem hv))
   intro h
   rw [hnew] at h
   have h:o.aE=true:=h
   rw [h4] at h;cases h
  refine (hr.aE.CY u TA).trans ?_
  have:(af (fY S d name o).O u.k).aE=(af S.O u.k).aE:=by
   refine ajn (mG (g:=bJ.aE) (λ_ _=>rfl) (λ_ _=>rfl) (λ_ _ _=>rfl) (λ_ _=>rfl)) ?_
   rw [kx,aij (hI.fresh.aq _ (get_mem TA))]
  rw [this]
 obtain⟨v,hv,e⟩:=hr.aE.live z hz
 exact⟨v,((Rf hI).2.2 v).2 (.inr hv),e⟩
end x
section y
variable {S S' S2:br} {g:List Int} {t u:Th} {d to k i j:Nat} {name aB:ByteArray} {O O':dZ} {h dX id z:Int} {c:aH} {R:RS} {o:bJ} {n:aL}
theorem x6 (hr:RelR S g) (hd:aQ S.aq ⟨d,2⟩) (name:ByteArray) (hb:¬(n.kind=3/\lG n.target≠0)):(gi S.X S.O S.aq d name=0/\bQ (toR S g) (bT S ⟨d,2⟩) name n=(j3 (toR S g) (bT S ⟨d,2⟩) name n,0))\/(gi S.X S.O S.aq d name≠0/\bQ (toR S g) (bT S ⟨d,2⟩) name n=(toR S g,gi S.X S.O S.aq d name)):=by
 unfold bQ gi
 rw [aij hb]
 rcases mI hr hd name with ⟨h1,h2⟩|⟨t,h1,h2,-⟩
 ·rw [aik h1,aij (show ¬0<=bV (toR S g).ns (bT S ⟨d,2⟩) name by rw [h2];decide)]
  by_cases h3:Room S.X S.aq
  ·rw [aik ((Q6 hr.inv.toInv0).2 h3),aik h3];exact .inl ⟨rfl,rfl⟩
  rw [aij (λq=>h3 ((Q6 hr.inv.toInv0).1 q)),aij h3];exact .inr ⟨Pd,rfl⟩
 grind
theorem Ev (hr:RelR S g) (hd:aQ S.aq ⟨d,2⟩) (name:ByteArray) (hb:¬(n.kind=3/\lG n.target≠0)) (ho:o.id=S.X.last+1/\o.aT=S.X.cS/\o.aJ=S.X.cZ/\o.aE=false/\o.ah=[]) (hn:n.kind=o.kind/\n.mode=o.mode/\n.bg=o.bg/\n.bh=o.bh/\n.data=o.data/\n.target=o.target/\n.ah=[]) :
 d8 ((bQ (toR S g) (bT S ⟨d,2⟩) name n).1,0,(bQ (toR S g) (bT S ⟨d,2⟩) name n).2) (if gi S.X S.O S.aq d name=0 then (0,fY S d name o) else (gi S.X S.O S.aq d name,S)).1 (if gi S.X S.O S.aq d name=0 then ((0:Int),fY S d name o) else (gi S.X S.O S.aq d name,S)).2 0:=by
 grind [x6,GW,aQ,lG,d8,bQ,toR,bT,gi,fY]
theorem Yz (hr:RelR S g) (c:aH) (bW:c.op=4):d8 (match ig (toR S g) c.aG c.name 192 with|.error e=>(toR S g,0,e)|.ok d=>iI (toR S g) c d) (iP S c).1 (iP S c).2.1 0:=by
 unfold iP
 rw [qz hr]
 rcases kV hr.inv.toInv0 c.aG c.name 192 with ⟨e,h,he⟩|⟨d,h,hd,-⟩
 ·rw [h];exact .bad rfl he
 rw [h]
 simp only
 unfold iI
 rw [aij zc,aij zc]
 by_cases hm:jX c.mode
 ·rw [aik hm,aik hm,aij zc]
  exact Ev (o:=cM S.X 2 c.mode) hr hd c.name (λq=>ain (show (2:Int)=3 from q.1) Pd) ⟨rfl,rfl,rfl,rfl,rfl⟩ ⟨rfl,rfl,rfl,rfl,rfl,rfl,rfl⟩
 grind [d8,ig,toR,iI,iP]
theorem Sr (hr:RelR S g) (c:aH) (bW:c.op=6):d8 (match ig (toR S g) c.aG c.name 192 with|.error e=>(toR S g,0,e)|.ok d=>iI (toR S g) c d) (iF S c).1 (iF S c).2.1 0:=by
 unfold iF
 rw [qz hr]
 rcases kV hr.inv.toInv0 c.aG c.name 192 with ⟨e,h,he⟩|⟨d,h,hd,-⟩
 all_goals grind [iI,jt,lG,Ev,cM,bQ,d8,ig,toR,iF]
theorem adJ (hr:RelR S g) (hd:aQ S.aq ⟨d,2⟩) (hl:bK name (af S.O d).ah=some t):rX name (nd (aV S) (bT S ⟨d,2⟩)).ah 0=(t.k:Int):=by
 have hI:=hr.inv.toInv0
 rw [(oe hI.ix hd).2.2.2.2.2]
 show rX name ((af S.O d).ah.map (gn S.O)) 0=_
 exact (TR _ (hI.qf hd) hl).trans (hI.ob _ (hr.inv.bS hd hl).2).1
theorem YA (hr:RelR S g) (hd:aQ S.aq ⟨d,2⟩) (hl:bK name (af S.O d).ah=some t):(cW (toR S g) (bT S ⟨d,2⟩) name true).aE=if (af S.O t.k).aS-1=0 then g++[(t.k:Int)] else g:=by
 have hI:=hr.inv.toInv0
 have h2:uN (nT S.X.cS S.X.cZ (aV S) (bT S ⟨d,2⟩) (sH name (nd (aV S) (bT S ⟨d,2⟩)).ah)) (t.k:Int)=(af S.O t.k).aS-1:=by
  rw [←zT (S:=S) (S':={S with O:=bn S.X S.O d name t}) hI.ix hd (hr.inv.ne hd hl) rfl (λ_=>rfl)]
  grind [Sp,bn]
 grind [uN,nT,aV,bT,sH,nd,rX,adJ,af,aQ,bK,cW,toR]
structure agx (S:br) (d:Nat) (name:ByteArray) (t:Th) (g':List Int):Prop where
 aE:x5 S.aq (aZ S d name t).O g'
 aq:(aZ S d name t).aq=lC (aZ S d name t).O S.aq t
 core:∀x,Proofs.YtbnfiigafobejaaGreat.core (af (aZ S d name t).O x)=Proofs.YtbnfiigafobejaaGreat.core (af (bn S.X S.O d name t) x)
 aK:∀x,(af (aZ S d name t).O x).aK=(af S.O x).aK
 others:∀x,x≠t.k->(af (aZ S d name t).O x).aE=(af S.O x).aE
theorem Rg (hr:RelR S g) (hd:aQ S.aq ⟨d,2⟩) (hl:bK name (af S.O d).ah=some t):agx S d name t (cW (toR S g) (bT S ⟨d,2⟩) name true).aE:=by
 have hI:=hr.inv.toInv0
 have fP:=(hr.inv.bS hd hl).2
 have htd:=hr.inv.ne hd hl
 have eu:(af (bn S.X S.O d name t) t.k).aS=(af S.O t.k).aS-1:=by grind [lH]
 have hgo:∀x,(af (bn S.X S.O d name t) x).aE=(af S.O x).aE:=λx=>eM (g:=bJ.aE) (λ_ _=>rfl) (λ_ _=>rfl) (λ_ _ _=>rfl)
 have bW:∀x,(af (bn S.X S.O d name t) x).aK=(af S.O x).aK:=λx=>eM (g:=bJ.aK) (λ_ _=>rfl) (λ_ _=>rfl) (λ_ _ _=>rfl)
 rw [YA hr hd hl]
 by_cases h0:(af S.O t.k).aS-1=0
 ·have hm:=yC (S:=S) (d:=d) (name:=name) (t:=t) (eu.trans h0)
  have hO:(aZ S d name t).O=uf (bn S.X S.O d name t) t.k:=by rw [hm]
  have hat:∀x,(af (uf (bn S.X S.O d name t) t.k) x).aE=if x=t.k then true else (af S.O x).aE:=λx=>by
   grind [uf,kx]
  rw [aik h0]
  refine⟨⟨λu hu=>?_,λz hz=>?_⟩,by rw [hO,hm],λx=>?_,λx=>?_,λx hx=>?_⟩
  ·rw [hO,hat,aiL,ai3]
   by_cases hx:u.k=t.k
   ·grind
   rw [aij hx,←hr.aE.CY u hu]
   grind
  ·rcases aiL.1 hz with hz|hz
   ·exact hr.aE.live z hz
   grind
  ·rw [hO];exact ez (g:=Proofs.YtbnfiigafobejaaGreat.core) (f:=λo=>{o with aE:=true}) (λ_=>rfl)
  ·rw [hO];exact ajn (ez (g:=bJ.aK) (f:=λo=>{o with aE:=true}) (λ_=>rfl)) (bW x)
  rw [hO,hat,aij hx]
 have hm:=yD (S:=S) (d:=d) (name:=name) (t:=t) (λq=>h0 (eu.symm.trans q))
 have hO:(aZ S d name t).O=bn S.X S.O d name t:=by rw [hm]
 rw [aij h0]
 refine⟨by rw [hO];exact hr.aE.same hgo,?_,λx=>by rw [hO],λx=>by rw [hO];exact bW x,λx _=>by rw [hO];exact hgo x⟩
 rw [hO,hm]
 unfold lC
 rw [aij]
 rintro⟨h1,_⟩
 rw [hgo] at h1
 have h2:=hI.aE t fP h1
 have h3:=hI.aS t fP
 have h4:=rL (aq:=S.aq) hd hl
 omega
theorem Mg (hr:RelR S g) (hu:aQ S.aq u) (h:(af S.O u.k).aE=true):0<hnd S.us u.k:=by
 have h1:=hr.inv.full u hu h
 rw [hr.inv.aK u hu] at h1;omega
theorem Rh (hr:RelR S g) (hd:aQ S.aq ⟨d,2⟩) (hl:bK name (af S.O d).ah=some t) (h1:S2={aZ S d name t with O:=S2.O}) (hc:∀x,core (af S2.O x)=core (af (aZ S d name t).O x)) (hgo:∀x,(af S2.O x).aE=(af (aZ S d name t).O x).aE) :
 d8 (fV (cW (toR S g) (bT S ⟨d,2⟩) name true),0,0) 0 S2 0:=by
 have hI:=hr.inv.toInv0
 have fP:=(hr.inv.bS hd hl).2
 have TS:=Rg hr hd hl
 have hX:S2.X=(aZ S d name t).X:=by rw [h1]
 have hsw:=CB (S1:={S with O:=bn S.X S.O d name t}) (S2:=S2) (O2:=(aZ S d name t).O) (Q8:=S.us) (R:=cW (toR S g) (bT S ⟨d,2⟩) name true) (t:=t) hI.ix
  (zT (S:=S) (S':={S with O:=bn S.X S.O d name t}) hI.ix hd (hr.inv.ne hd hl) rfl (λ_=>rfl)).symm rfl TS.aE fP
  (λu hu cu NG=>by
   rw [TS.others u.k (λe=>cu (jy hu fP e))] at NG
   exact Mg hr hu NG)
  (by rw [TS.aK];exact hI.aK t fP)
  (by have h:=ail bJ.id (TS.core t.k);exact h.trans ((eM (g:=bJ.id) (λ_ _=>rfl) (λ_ _=>rfl) (λ_ _ _=>rfl)).trans (hI.ob t fP).1))
  (by rw [h1];exact TS.aq) (λx=>(hc x).trans (TS.core x)) hgo
 grind [aQ,bK,af,aZ,core,d8,fV,cW,toR,bT]
end y
section z
variable {S S' S2:br} {g:List Int} {t u:Th} {d to k i j:Nat} {name aB:ByteArray} {O O':dZ} {h dX id z:Int} {c:aH} {R:RS} {o:bJ} {n:aL}
theorem VE (hr:RelR S g) (c:aH) (bW:c.op=5):d8 (match ig (toR S g) c.aG c.name 192 with|.error e=>(toR S g,0,e)|.ok d=>iI (toR S g) c d) (fe S c).1 (fe S c).2.1 (fe S c).2.2.answer:=by
 have hI:=hr.inv.toInv0
 unfold fe
 rw [qz hr]
 rcases kV hI c.aG c.name 192 with ⟨e,h,he⟩|⟨d,h,hd,-⟩
 ·rw [h];exact .bad rfl he
 rw [h]
 simp only
 unfold iI
 rw [aij zc,aij zc]
 by_cases hm:jX c.mode
 rotate_left
 ·grind [d8,ig,toR,iI,fe]
 rw [aik hm,aik hm,aik bW]
 rcases x6 (n:=⟨0,1,c.mode,0,0,0,0,[],⟨#[]⟩,[]⟩) hr hd c.name (λq=>ain (show (1:Int)=3 from q.1) Pd) with ⟨h1,h2⟩|⟨h1,h2⟩
 rotate_left
 ·simp only
  rw [h2,aij h1,aij h1];exact .bad rfl h1
 simp only
 rw [h2,aik h1,aik (show (j3 (toR S g) (bT S ⟨d,2⟩) c.name ⟨0,1,c.mode,0,0,0,0,[],⟨#[]⟩,[]⟩,(0:Int)).2=0 from rfl)]
 obtain⟨hA,hG⟩:=GW (name:=c.name) (o:=cM S.X 1 c.mode) (n:=⟨0,1,c.mode,0,0,0,0,[],⟨#[]⟩,[]⟩) hr hd ⟨rfl,rfl,rfl,rfl,rfl⟩ ⟨rfl,rfl,rfl,rfl,rfl,rfl,rfl⟩
 rw [hA]
 obtain⟨S1,hS1⟩:∃S1,S1=fY S d c.name (cM S.X 1 c.mode):=⟨_,rfl⟩
 rw [←hS1] at hG ⊢
 have hk:=rN hI
 have htd:bw S.X≠d:=λe=>hI.fresh.aq _ (get_mem hd) e.symm
 have hidx:S1.aq=S.aq++[(S.X.last+1,⟨bw S.X,1⟩)]:=by rw [hS1];exact GV hI
 have jD:(toR S1 g).ns.length-1=S.aq.length:=by
  show (aV S1).length-1=_
  rw [ic,hidx,ait];rfl
 have hnd:(nd (toR S1 g).ns S.aq.length).id=(bw S.X:Int):=by
  show (nd (aV S1) S.aq.length).id=_
  rw [pY Pe,hk]
  show gD S1 S.aq.length=_
  grind [gD]
 unfold oQ
 rw [aik h1]
 unfold lE
 have iD:(toR S1 g).us=ur S.us:=by rw [hS1];rfl
 have hcH:(toR S1 g).cH=S.X.cH:=by rw [hS1];rfl
 have hpk:(toR S1 g).aI=S.aI:=by rw [hS1];rfl
 rw [jD,hnd,iD,hcH,hpk,Dy,F7]
 by_cases hc:(S.us.length:Int)<S.X.cH
 rotate_left
 ·grind [d8,ig,toR,iI,fe]
 rw [aik hc,aik hc]
 have hat:∀(o:bJ) x,af (dg S.X (aX S.O (bw S.X) (λ_=>o)) d c.name ⟨bw S.X,1⟩) x=_:=λo x=>tM (X:=S.X) (O:=aX S.O (bw S.X) (λ_=>o)) (d:=d) (name:=c.name) (t:=⟨bw S.X,1⟩) (k:=x) htd
 have hO1:S1.O=dg S.X (aX S.O (bw S.X) (λ_=>cM S.X 1 c.mode)) d c.name ⟨bw S.X,1⟩:=by rw [hS1];rfl
 have hboth:∀x,core (af (dg S.X (aX S.O (bw S.X) (λ_=>{cM S.X 1 c.mode with aK:=1})) d c.name ⟨bw S.X,1⟩) x)=core (af S1.O x)/\(af (dg S.X (aX S.O (bw S.X) (λ_=>{cM S.X 1 c.mode with aK:=1})) d c.name ⟨bw S.X,1⟩) x).aE=(af S1.O x).aE:=λx=>by
  rw [hO1,hat,hat]
  by_cases hx:x=d
  ·grind [kx]
  rw [aij hx,aij hx]
  by_cases hx2:x=bw S.X
  ·rw [aik hx2,aik hx2,kx,kx,aik hx2,aik hx2];exact⟨rfl,rfl⟩
  grind [kx]
 refine .ok rfl ?_ (TP (t:=⟨bw S.X,1⟩)).symm rfl ?_ ?_ rfl
 ·show aV S1=aV _
  grind [Er,fY,ins,bw,cM]
 ·rw [hS1];exact⟨rfl,rfl,rfl,rfl,rfl,rfl⟩
 rw [hS1] at hG
 exact hG.same (λx=>by have h:=(hboth x).2;rw [hS1] at h;exact h)
theorem NH (hr:RelR S g) (hd:aQ S.aq ⟨d,2⟩) (name:ByteArray):d8 ((iH (toR S g) (bT S ⟨d,2⟩) name false).1,0,(iH (toR S g) (bT S ⟨d,2⟩) name false).2) (iE S d name).1 (iE S d name).2 0:=by
 have hI:=hr.inv.toInv0
 unfold iH iE
 rcases mI hr hd name with ⟨h1,h2⟩|⟨t,h1,h2,hl,hk,htd⟩
 ·grind [bV,toR,bT,aQ,d8,iH,iE]
 rw [h1,aik (show 0<=bV (toR S g).ns (bT S ⟨d,2⟩) name by rw [h2];omega),h2,aiO]
 simp only
 rw [nM hI hl]
 by_cases h3:t.kind=2
 ·rw [aik ⟨trivial,h3⟩,aik h3];exact .bad rfl (show (172:Int)≠0 by decide)
 rw [aij (λq=>h3 q.2),aij (λq=>by cases q.1),aij (λq=>by cases q.1),aij h3]
 exact Rh hr hd h1 rfl (λ_=>rfl) (λ_=>rfl)
theorem NI (hr:RelR S g) (hd:aQ S.aq ⟨d,2⟩) (name:ByteArray):d8 ((iH (toR S g) (bT S ⟨d,2⟩) name true).1,0,(iH (toR S g) (bT S ⟨d,2⟩) name true).2) (jf S d name).1 (jf S d name).2 0:=by
 have hI:=hr.inv.toInv0
 unfold iH jf
 rcases mI hr hd name with ⟨h1,h2⟩|⟨t,h1,h2,hl,hk,htd⟩
 ·grind [bV,toR,bT,aQ,d8,iH,jf]
 rw [h1,aik (show 0<=bV (toR S g).ns (bT S ⟨d,2⟩) name by rw [h2];omega),h2,aiO]
 simp only
 rw [nM hI hl,aij (λq=>by cases q.1)]
 by_cases h3:t.kind=2
 rotate_left
 ·rw [aik ⟨trivial,h3⟩,aij h3];exact .bad rfl (show (173:Int)≠0 by decide)
 rw [aij (λq=>q.2 h3),aik h3]
 have hel:(jU S.O (t.k:Int) t).ah.length=(af S.O t.k).ah.length:=aiF ..
 rw [hel]
 by_cases h4:(af S.O t.k).ah=[]
 ·rw [aij Pe,aik h4]
  exact Rh hr hd h1 (S2:={aZ S d name t with O:=jm (aZ S d name t).O t.k}) rfl (λx=>ez (g:=core) (f:=λo=>{o with up:=none}) (λ_=>rfl)) (λx=>ez (g:=bJ.aE) (f:=λo=>{o with up:=none}) (λ_=>rfl))
 rw [aik ⟨trivial,List.length_pos_iff.2 h4⟩,aij h4];exact .bad rfl (show (178:Int)≠0 by decide)
theorem VF (hr:RelR S g) (c:aH) (bW:c.op=8):d8 (match ig (toR S g) c.aG c.name 192 with|.error e=>(toR S g,0,e)|.ok d=>iI (toR S g) c d) (jk S c).1 (jk S c).2.1 0:=by
 unfold jk
 rw [qz hr]
 rcases kV hr.inv.toInv0 c.aG c.name 192 with ⟨e,h,he⟩|⟨d,h,hd,-⟩
 ·rw [h];exact .bad rfl he
 rw [h]
 simp only
 unfold iI
 rw [aik (.inl bW),show decide (c.op=14)=false from aip zc]
 exact NH hr hd c.name
theorem YB (hr:RelR S g) (c:aH) (bW:c.op=14):d8 (match ig (toR S g) c.aG c.name 192 with|.error e=>(toR S g,0,e)|.ok d=>iI (toR S g) c d) (kz S c).1 (kz S c).2.1 0:=by
 unfold kz
 rw [qz hr]
 rcases kV hr.inv.toInv0 c.aG c.name 192 with ⟨e,h,he⟩|⟨d,h,hd,-⟩
 ·rw [h];exact .bad rfl he
 grind [iI,NI]
end z
theorem HM {α:Type} {p q:α->Bool} (h:∀x,p x=true->q x=true):∀{l:List α} {a:α},a∈l->q a=true->p a=false->l.countP p<l.countP q
 |b::r,a,ha,hq,hp=>by
   rw [List.countP_cons,List.countP_cons]
   have hm:r.countP p<=r.countP q:=List.countP_mono_left (λx _ hx=>h x hx)
   rcases aiA.1 ha with rfl|ha
   ·rw [aik hq,aij (by rw [hp];decide)];omega
   have:=HM h ha hq hp
   by_cases hb:p b=true
   ·rw [aik hb,aik (h b hb)];omega
   rw [aij hb];omega
theorem Ri {ns:List aL} {id:Int}:∀n,(∀i,i<n->¬0<iX (nd ns i).ah id (nd ns i).ah.length)->oV ns id n = -1
 |0,_=>rfl
 |n+1,h=>by
   unfold oV
   rw [aij (h n (aiM n))];exact Ri n (λi hi=>h i zc)
theorem Rj {ns:List aL} {id:Int} {z:Nat} (hp:0<iX (nd ns z).ah id (nd ns z).ah.length):∀n,z<n->(∀i,i<n->0<iX (nd ns i).ah id (nd ns i).ah.length->i=z)->oV ns id n=(z:Int)
 |n+1,hz,hu=>by
   unfold oV
   by_cases h:0<iX (nd ns n).ah id (nd ns n).ah.length
   ·rw [aik h,hu n (aiM n) h]
   rw [aij h]
   exact Rj hp n Pe (λi hi=>hu i zc)
section q
variable {S S' S2:br} {g:List Int} {t u:Th} {d to k i j:Nat} {name aB:ByteArray} {O O':dZ} {h dX id z:Int} {c:aH} {R:RS} {o:bJ} {n:aL}
theorem TU (hI:Inv0 S) (hi:i<S.aq.length):0<iX (nd (aV S) i).ah (k:Int) (nd (aV S) i).ah.length↔∃e∈(af S.O (ju S i).k).ah,e.2.k=k:=by
 have hl:=(GU hI.ix hi).1
 rw [pY hi]
 show 0<iX ((af S.O (ju S i).k).ah.map (gn S.O)) _ ((af S.O (ju S i).k).ah.map (gn S.O)).length↔_
 rw [aiF,Eu (λe he=>(hI.ob _ (hI.ah _ hl e he).2).1) _ (aiu _),aiK,List.countP_pos_iff]
 grind
theorem aft (hI:Inv0 S) (hu:aQ S.aq u) (h2:u.kind=2):oV (aV S) (u.k:Int) (aV S).length=match (af S.O u.k).up with|none=>-1|some j=>(bT S ⟨j,2⟩:Int):=by
 have key:∀i,i<S.aq.length->0<iX (nd (aV S) i).ah (u.k:Int) (nd (aV S) i).ah.length->(af S.O u.k).up=some (ju S i).k/\ju S i=⟨(ju S i).k,2⟩:=λi hi hp=>by
  obtain⟨e,he,hek⟩:=(TU hI hi).1 hp
  have hl:=(GU hI.ix hi).1
  have hk2:(ju S i).kind=2:=by
   apply aiI
   intro hn
   have h3:=(hI.mt _ hl).ah (by rw [(hI.ob _ hl).2.1];exact hn)
   rw [h3] at he;cases he
  have ht:ju S i=⟨(ju S i).k,2⟩:=by rw [←hk2]
  have heu:e.2=u:=jy (hI.ah _ hl e he).2 hu hek
  refine⟨(hI.up u hu _).2 ⟨h2,by rw [←ht];exact hl,e.1,?_⟩,ht⟩
  exact AY (hI.qf hl) (by rw [←heu];exact he)
 rw [ic]
 cases e:(af S.O u.k).up with
 |none=>
   grind [Ri]
 |some j=>
   obtain⟨_,hj,nm,hnm⟩:=(hI.up u hu j).1 e
   have hp:=oe hI.ix hj
   refine Rj ((TU hI hp.2.1).2 ⟨(nm,u),?_,rfl⟩) _ hp.2.1 (λi hi hq=>?_)
   ·rw [hp.2.2.1];exact r9 hnm
   obtain⟨h3,h4⟩:=key i hi hq
   rw [e] at h3
   injection h3 with h3
   refine KS hI.ix hi hp.2.1 ?_
   rw [(GU hI.ix hi).2,hp.2.2.2.1,←h3]
theorem YC (hI:Inv0 S) (ht:aQ S.aq t) (h2:t.kind=2) (dY:aQ S.aq ⟨to,2⟩):jJ (aV S) (bT S t) ((aV S).length+1) (bT S ⟨to,2⟩)=true↔sV S.O t.k to:=by
 obtain⟨dp,hdp⟩:=hI.deep
 have main:∀(f d:Nat),aQ S.aq ⟨d,2⟩->S.aq.countP (λp=>decide (dp p.2.k<dp d))<f->(jJ (aV S) (bT S t) f (bT S ⟨d,2⟩)=true↔sV S.O t.k d):=by
  intro f
  induction f with
  |zero=>intro d _ h;omega
  |succ f ih=>
    intro d hd hm
    have hp:=oe hI.ix hd
    unfold jJ
    by_cases hdt:bT S ⟨d,2⟩=bT S t
    ·rw [aik hdt]
     have:=TN hI.ix hd ht hdt
     rw [←this]
     exact⟨λ_=>.here,λ_=>rfl⟩
    rw [aij hdt,hp.2.2.2.2.2]
    show (if oV (aV S) (d:Int) (aV S).length<0 then false else jJ (aV S) (bT S t) f (oV (aV S) (d:Int) (aV S).length).toNat)=true↔_
    have hu:oV (aV S) (d:Int) (aV S).length=_:=aft hI hd rfl
    have hdk:d≠t.k:=λe=>hdt (by rw [show (⟨d,2⟩:Th)=t by rw [e,←h2]])
    cases e:(af S.O d).up with
    |none=>
      rw [show (af S.O (⟨d,2⟩:Th).k).up=none from e] at hu
      replace hu:oV (aV S) (d:Int) (aV S).length = -1:=hu
      rw [hu,aik Pd]
      refine⟨λq=>ain q (by decide),λq=>?_⟩
      cases q with
      |here=>exact ain rfl hdk
      |up h3 _=>rw [e] at h3;cases h3
    |some j=>
      rw [show (af S.O (⟨d,2⟩:Th).k).up=some j from e] at hu
      replace hu:oV (aV S) (d:Int) (aV S).length=(bT S ⟨j,2⟩:Int):=hu
      obtain⟨_,hj,_⟩:=(hI.up _ hd j).1 e
      have fP:=hdp d j e
      rw [hu,aij zc,aiO,ih j hj (aiG (HM (p:=λp:Int×Th=>decide (dp p.2.k<dp j)) (q:=λp=>decide (dp p.2.k<dp d)) (λx hx=>aiD (by have:=aja hx;omega)) (get_mem hj) (aiD fP) (aip (aje _))) (Nat.lt_succ_iff.1 hm))]
      refine⟨λq=>.up e q,λq=>?_⟩
      cases q with
      |here=>exact ain rfl hdk
      |up h3 h4=>rw [e] at h3;injection h3 with h3;rw [h3];exact h4
 grind [ic]
end q
section j
variable {S S' S2:br} {g:List Int} {t u:Th} {d to k i j:Nat} {name aB:ByteArray} {O O':dZ} {h dX id z:Int} {c:aH} {R:RS} {o:Th} {n:aL}
theorem HT {X:FM} {x:Nat}:(af (bn X O d name t) x).aE=(af O x).aE:=eM (g:=bJ.aE) (λ_ _=>rfl) (λ_ _=>rfl) (λ_ _ _=>rfl)
theorem Gb {X:FM} {x:Nat}:(af (bn X O d name t) x).aK=(af O x).aK:=eM (g:=bJ.aK) (λ_ _=>rfl) (λ_ _=>rfl) (λ_ _ _=>rfl)
theorem CD {X:FM} {x:Nat}:(af (bn X O d name t) x).id=(af O x).id:=eM (g:=bJ.id) (λ_ _=>rfl) (λ_ _=>rfl) (λ_ _ _=>rfl)
theorem HV {X:FM} {x:Nat}:(af (dg X O d name t) x).aE=(af O x).aE:=mG (g:=bJ.aE) (λ_ _=>rfl) (λ_ _=>rfl) (λ_ _ _=>rfl) (λ_ _=>rfl)
theorem Gc {X:FM} {x:Nat}:(af (dg X O d name t) x).aK=(af O x).aK:=mG (g:=bJ.aK) (λ_ _=>rfl) (λ_ _=>rfl) (λ_ _ _=>rfl) (λ_ _=>rfl)
theorem NJ {X:FM} {x:Nat}:(af (dg X O d name t) x).id=(af O x).id:=mG (g:=bJ.id) (λ_ _=>rfl) (λ_ _=>rfl) (λ_ _ _=>rfl) (λ_ _=>rfl)
theorem abq (hr:RelR S g) (hd:aQ S.aq ⟨d,2⟩) (hl:bK name (af S.O d).ah=some t):(af S.O t.k).aE≠true:=λh=>by
 have hI:=hr.inv.toInv0
 have fP:=(hr.inv.bS hd hl).2
 have h2:=hI.aE t fP h
 have h3:=hI.aS t fP
 have h4:=rL (aq:=S.aq) hd hl
 omega
theorem HX (R:RS) (d:Nat) (name:ByteArray):(cW R d name false).aE=R.aE:=by
 grind [cW]
theorem TV {S1:br} (hx:qO S.aq) (hi:S1.aq=S.aq) (hX:S1.X.cS=S.X.cS/\S1.X.cZ=S.X.cZ) (hns:R.ns=aV S1) (hRs:R.cS=S.X.cS/\R.cZ=S.X.cZ) (hd:aQ S.aq ⟨d,2⟩) (dY:aQ S.aq ⟨to,2⟩) (htd:t.k≠d) (CC:t.k≠to) (hid:(af S1.O t.k).id=(t.k:Int))
 (hi2:S2.aq=S.aq) (hO:S2.O=dg S1.X (bn S1.X S1.O d name t) to aB t) :
 (dm (cW R (bT S ⟨d,2⟩) name false) (bT S ⟨to,2⟩) aB (t.k:Int)).ns=aV S2:=by
 have hx1:qO S1.aq:=by rw [hi];exact hx
 have jH:aQ S1.aq ⟨d,2⟩:=by rw [hi];exact hd
 have pq:aQ S1.aq ⟨to,2⟩:=by rw [hi];exact dY
 have hl:=zT (S:=S1) (S':={S1 with O:=bn S1.X S1.O d name t}) (name:=name) hx1 jH htd rfl (λ_=>rfl)
 have he:=Et (S:={S1 with O:=bn S1.X S1.O d name t}) (S':={S1 with O:=dg S1.X (bn S1.X S1.O d name t) to aB t}) (name:=aB) (id:=(t.k:Int)) hx1 pq CC (CD.trans hid) rfl
 grind [aV,dg,bn,bT,abo,nT,mW,nd,aQ,af,dm,cW]
theorem YD (hr:RelR S g) (hd:aQ S.aq ⟨d,2⟩) (hl:bK name (af S.O d).ah=some t) (dY:aQ S.aq ⟨to,2⟩) (CC:t.k≠to) :
 d8 (fV (dm (cW (toR S g) (bT S ⟨d,2⟩) name false) (bT S ⟨to,2⟩) aB (t.k:Int)),0,0) 0 (qc S d name to aB t) 0:=by
 have hI:=hr.inv.toInv0
 have fP:=(hr.inv.bS hd hl).2
 have htd:=hr.inv.ne hd hl
 obtain⟨S2,zn⟩:∃S2,S2=qc S d name to aB t:=⟨_,rfl⟩
 have hi2:S2.aq=S.aq:=by rw [zn];rfl
 have KT:S2.O=dg S.X (bn S.X S.O d name t) to aB t:=by rw [zn];rfl
 have hgo:∀x,(af S2.O x).aE=(af S.O x).aE:=λx=>by rw [KT];exact HV.trans HT
 have hns:(dm (cW (toR S g) (bT S ⟨d,2⟩) name false) (bT S ⟨to,2⟩) aB (t.k:Int)).ns=aV S2:=TV (S1:=S) hI.ix rfl ⟨rfl,rfl⟩ rfl ⟨rfl,rfl⟩ hd dY htd CC (hI.ob t fP).1 hi2 KT
 have j7:(dm (cW (toR S g) (bT S ⟨d,2⟩) name false) (bT S ⟨to,2⟩) aB (t.k:Int)).aE=g:=HX (toR S g) (bT S ⟨d,2⟩) name
 have hsw:=CB (S1:=S2) (S2:=S2) (O2:=S2.O) (Q8:=S.us) (R:=dm (cW (toR S g) (bT S ⟨d,2⟩) name false) (bT S ⟨to,2⟩) aB (t.k:Int)) (t:=t) (by rw [hi2];exact hI.ix) hns rfl
  (by rw [j7,hi2];exact hr.aE.same hgo) (by rw [hi2];exact fP)
  (λu hu _ NG=>by grind [Mg])
  (by rw [KT,Gc,Gb];exact hI.aK t fP) (by rw [KT,NJ,CD];exact (hI.ob t fP).1)
  (by unfold lC;rw [aij];exact λq=>abq hr hd hl ((hgo _).symm.trans q.1)) (λ_=>rfl) (λ_=>rfl)
 grind [aQ,bK,af,d8,fV,dm,cW,toR,bT,qc]
theorem VG {aq:bC Th} (h1:(af O' o.k).aE=(af O o.k).aE) (h2:(af O' o.k).aK=(af O o.k).aK) (h3:(af O' o.k).id=(af O o.k).id):lC O' aq o=lC O aq o:=by
 grind [uT,lC]
theorem YE (hr:RelR S g) (hd:aQ S.aq ⟨d,2⟩) (hl:bK name (af S.O d).ah=some t) (dY:aQ S.aq ⟨to,2⟩) (CC:t.k≠to) (ho:bK aB (af S.O to).ah=some o) :
 d8 (fV (dm (cW (cW (toR S g) (bT S ⟨to,2⟩) aB true) (bT S ⟨d,2⟩) name false) (bT S ⟨to,2⟩) aB (t.k:Int)),0,0) 0 (qc (aZ S to aB o) d name to aB t) 0:=by
 have hI:=hr.inv.toInv0
 have fP:=(hr.inv.bS hd hl).2
 have hlo:=(hr.inv.bS dY ho).2
 have htd:=hr.inv.ne hd hl
 obtain⟨e1,e2,e3,e4,e5⟩:=Rg hr dY ho
 obtain⟨D,hD⟩:∃D,D=aZ S to aB o:=⟨_,rfl⟩
 rw [←hD] at e1 e2 e3 e4 e5 ⊢
 obtain⟨g1,hg1⟩:∃g1,g1=(cW (toR S g) (bT S ⟨to,2⟩) aB true).aE:=⟨_,rfl⟩
 rw [←hg1] at e1
 have hDX:D.X.cS=S.X.cS/\D.X.cZ=S.X.cZ:=by rw [hD];exact⟨rfl,rfl⟩
 obtain⟨R,hR⟩:∃R,R=dm (cW (cW (toR S g) (bT S ⟨to,2⟩) aB true) (bT S ⟨d,2⟩) name false) (bT S ⟨to,2⟩) aB (t.k:Int):=⟨_,rfl⟩
 obtain⟨S2,zn⟩:∃S2,S2=qc D d name to aB t:=⟨_,rfl⟩
 have KT:S2.O=dg D.X (bn D.X D.O d name t) to aB t:=by rw [zn];rfl
 have hi2:S2.aq=D.aq:=by rw [zn];rfl
 have hgo:∀x,(af S2.O x).aE=(af D.O x).aE:=λx=>by rw [KT];exact HV.trans HT
 have bW:∀x,(af S2.O x).aK=(af S.O x).aK:=λx=>by rw [KT];exact (Gc.trans Gb).trans (e4 x)
 have afu:∀x,(af D.O x).id=(af S.O x).id:=λx=>by
  have h:=ail bJ.id (e3 x)
  have h:(af D.O x).id=(af (bn S.X S.O to aB o) x).id:=h
  exact h.trans CD
 have hid:∀x,(af S2.O x).id=(af D.O x).id:=λx=>by rw [KT];exact NJ.trans CD
 have hn1:(cW (toR S g) (bT S ⟨to,2⟩) aB true).ns=aV {S with O:=D.O,X:=D.X}:=
  (zT (S:=S) (S':={S with O:=D.O,X:=D.X}) hI.ix dY (hr.inv.ne dY ho) rfl e3).symm
 have hns:R.ns=aV {S2 with aq:=S.aq}:=by
  rw [hR]
  exact TV (S:=S) (S1:={S with O:=D.O,X:=D.X}) (S2:={S2 with aq:=S.aq}) hI.ix rfl hDX hn1 ⟨rfl,rfl⟩ hd dY htd CC ((afu _).trans (hI.ob t fP).1) rfl KT
 have j7:R.aE=g1:=by rw [hR,hg1];exact HX (cW (toR S g) (bT S ⟨to,2⟩) aB true) (bT S ⟨d,2⟩) name
 have hsw:=CB (S1:={S2 with aq:=S.aq}) (S2:=S2) (O2:=S2.O) (Q8:=S.us) (R:=R) (t:=o) hI.ix hns (by rw [hR];rfl)
  (by rw [j7];exact e1.same hgo) hlo
  (λu hu cu NG=>by
   rw [hgo,e5 u.k (λe=>cu (jy hu hlo e))] at NG
   exact Mg hr hu NG)
  (by rw [bW];exact hI.aK o hlo) (by rw [hid,afu];exact (hI.ob o hlo).1)
  (by
   rw [hi2,e2]
   exact (VG (hgo _) ((bW _).trans (e4 _).symm) (hid _)).symm) (λ_=>rfl) (λ_=>rfl)
 grind [aQ,bK,af,d8,fV,dm,cW,toR,bT,qc,aZ]
theorem NK (hr:RelR S g) (hd:aQ S.aq ⟨d,2⟩) (dY:aQ S.aq ⟨to,2⟩) (name aB:ByteArray):d8 ((gY (toR S g) (bT S ⟨d,2⟩) name (bT S ⟨to,2⟩) aB).1,0,(gY (toR S g) (bT S ⟨d,2⟩) name (bT S ⟨to,2⟩) aB).2) (dw S d name to aB).1 (dw S d name to aB).2 0:=by
 have hI:=hr.inv.toInv0
 unfold gY dw
 rcases mI hr hd name with ⟨h1,h2⟩|⟨t,h1,h2,hl,hk,htd⟩
 ·grind [bV,toR,bT,aQ,d8,gY,dw]
 rw [h1,aik (show 0<=bV (toR S g).ns (bT S ⟨d,2⟩) name by rw [h2];omega),h2,aiO]
 simp only
 rw [nM hI hl]
 have hb:t.kind=2->(jJ (toR S g).ns (bT S t) ((toR S g).ns.length+1) (bT S ⟨to,2⟩)=true↔sV S.O t.k to):=λq=>YC hI hl q dY
 simp only [show (jU S.O (t.k:Int) t).kind=t.kind from rfl,show (jU S.O (t.k:Int) t).id=(t.k:Int) from rfl]
 by_cases h3:t.kind=2/\sV S.O t.k to
 ·grind [jJ,toR,bT,aQ,d8,gY,dw]
 rw [aij (show ¬(t.kind=2/\jJ (toR S g).ns (bT S t) ((toR S g).ns.length+1) (bT S ⟨to,2⟩)=true) from λq=>h3 ⟨q.1,(hb q.1).1 q.2⟩),aij h3]
 have CC:t.k≠to:=λe=>by
  have h4:t=⟨to,2⟩:=jy hl dY e
  exact h3 ⟨by rw [h4],by rw [e];exact .here⟩
 rcases mI hr dY aB with ⟨h4,h5⟩|⟨o,h4,h5,hlo,hko,hot⟩
 ·grind [bV,toR,bT,YD]
 rw [h4,h5]
 simp only
 by_cases h6:o=t
 ·rw [aik (by rw [h6]),aik h6];exact .same hr rfl
 rw [aij (λq=>h6 (TN hI.ix hlo hl zc)),aij h6,aik zc,aiO,nM hI hlo]
 grind [jU,YE,aQ,d8,gY,toR,bT,dw]
theorem VH (hr:RelR S g) (c:aH):d8 (match qV (toR S g) c 192 with|.error e=>(toR S g,0,e)|.ok (f,to)=>((gY (toR S g) f c.name to c.text).1,0,(gY (toR S g) f c.name to c.text).2)) (iW S c).1 (iW S c).2.1 0:=by
 unfold qV iW
 rw [qz hr,qz hr]
 rcases kV hr.inv.toInv0 c.aG c.name 192 with ⟨e,h,he⟩|⟨d,h,hd,-⟩
 ·rw [h];exact .bad rfl he
 rw [h]
 simp only
 rcases kV hr.inv.toInv0 c.other c.text 192 with ⟨e,h,he⟩|⟨to,h,dY,-⟩
 ·rw [h];exact .bad rfl he
 grind [NK]
end j
section g
variable {S S' S2:br} {g:List Int} {t u:Th} {d to k i j:Nat} {c:aH}
theorem d8.an {a:xH} {code an an':Int} (h:d8 a code S' an) (h2:code=0->an=an'):d8 a code S' an':=⟨h.1,λq=>by obtain⟨g',h3,h4,h5⟩:=h.2 q;exact⟨g',h3,h4,h5.trans (h2 q)⟩⟩
theorem abr (h:(ef S t).2.1≠0):(ef S t).1=0:=by
 grind [oL,pu]
def Told (c:aH) (m:wj):Prop:=m.2.2={c with answer:=m.2.2.answer}/\(m.1≠0->m.2.2.answer=c.answer)
theorem Told.plain {m:wj} (h:m.2.2=c):Told c m:=⟨by rw [h],λ_=>by rw [h]⟩
theorem Gd (h0:c.answer=0):Told c ((ef S t).2.1,(ef S t).2.2,{c with answer:=(ef S t).1}):=⟨rfl,λh=>ajn (abr (S:=S) (t:=t) h) h0.symm⟩
theorem YF (h0:c.answer=0):Told c (lD S c):=by
 unfold lD
 split
 ·exact .plain rfl
 split
 ·exact Gd h0
 exact .plain rfl
theorem abt (h0:c.answer=0):Told c (gU S c):=by
 unfold gU
 split
 ·exact .plain rfl
 split
 ·exact .plain rfl
 split
 ·exact .plain rfl
 exact Gd h0
theorem YG (h0:c.answer=0):Told c (fS S c):=by
 unfold fS
 split
 ·exact .plain rfl
 split
 ·exact .plain rfl
 split
 ·exact .plain rfl
 exact Gd h0
theorem St (h0:c.answer=0):Told c (fe S c):=by
 unfold fe
 split
 ·exact .plain rfl
 split
 ·split
  all_goals grind [oQ,Told,fe]
 exact .plain rfl
theorem VI (h0:c.answer=0):Told c (iw S c):=by
 unfold iw
 split
 ·exact .plain rfl
 split
 all_goals grind [gy,Told,iw]
theorem YH (hr:RelR S g) (c:aH) (bW:¬(c.op=11\/c.op=12)):d8 (cq (toR S g) c) (iC S (c0 c)).1 (iC S (c0 c)).2.1 (iC S (c0 c)).2.2.answer/\Told (c0 c) (iC S (c0 c)):=by
 have plain:∀{a:xH} {m:wj},m.2.2=c0 c->d8 a m.1 m.2.1 0->d8 a m.1 m.2.1 m.2.2.answer/\Told (c0 c) m:=λ{a m} h1 h2=>⟨h2.an (λ_=>by rw [h1]),.plain h1⟩
 unfold cq
 by_cases h1:c.op=1
 ·rw [aik h1,zH (c:=c0 c) h1];exact⟨abk hr (c0 c),YF rfl⟩
 rw [aij h1]
 by_cases h2:c.op=2
 ·rw [aik h2,Ca (c:=c0 c) h2];exact⟨Sq hr (c0 c),abt rfl⟩
 rw [aij h2]
 by_cases h3:c.op=3
 ·rw [aik h3,Cb (c:=c0 c) h3];exact⟨Ra hr (c0 c),YG rfl⟩
 rw [aij h3]
 by_cases h4:c.op=4\/c.op=5\/c.op=6\/c.op=8\/c.op=14
 ·rw [aik h4]
  rcases h4 with h|h|h|h|h
  ·grind [xW,iP,Yz]
  ·rw [Cc (c:=c0 c) h];exact⟨VE hr (c0 c) h,St rfl⟩
  ·grind [Cd,iF,Sr]
  ·grind [zJ,jk,VF]
  grind [yM,kz,YB]
 rw [aij h4]
 by_cases h7:c.op=7
 ·grind [Ce,dV,abp]
 rw [aij h7]
 by_cases h9:c.op=9
 ·rw [aik h9,Cg (c:=c0 c) h9]
  exact⟨(abn hr (c0 c)).an (λq=>aik q),VI rfl⟩
 rw [aij h9]
 by_cases h10:c.op=10
 ·grind [yJ,cX,abm]
 rw [aij h10]
 by_cases tL:c.op=13
 ·grind [wk,jS,Yw]
 rw [aij tL]
 by_cases O3:c.op=15
 ·grind [yN,iW,VH]
 grind [iC,d8,cq,toR,Told]
theorem abu (hr:RelR S g) (c:aH):∃g',uj (toR S g) c=(toR (gj S c).1 g',(gj S c).2)/\RelR (gj S c).1 g':=by
 unfold uj
 by_cases bW:c.op=11\/c.op=12
 ·rw [aik bW,abl hr c bW];exact⟨g,rfl,hr⟩
 rw [aij bW]
 obtain⟨h1,h2,h3⟩:=YH hr c bW
 by_cases h0:(iC S (c0 c)).1=0
 ·rw [aik (h1.1.trans h0)]
  obtain⟨g',e1,e2,e3⟩:=h1.2 h0
  refine⟨g',?_,hr.inv.gj c,e2⟩
  grind [toR,iC,uj,gj]
 rw [aij (λq=>h0 (h1.1.symm.trans q))]
 have hS:(gj S c).1=S:=adl (c:=c) h0
 refine⟨g,?_,by rw [hS];exact hr⟩
 rw [hS,h1.1]
 grind [iC,uj,toR,gj]
end g
section g
variable {R:RS} {d k to f:Nat} {name aB:ByteArray} {n:aL} {c:aH} {b:Bool} {id:Int}
def GL (R:RS):Prop:=R.aE.length<=4096
theorem Jo (h:R.ns.length<=4096):GL (fV R):=by
 grind [GL,fV]
theorem KU:(cW R d name b).ns.length=R.ns.length:=aix ..
theorem VJ:(dm R d name id).ns.length=R.ns.length:=aix ..
theorem Mh (h:GL R):GL (lE R k).1:=by unfold lE;split<;>exact h
theorem TW {bs:List UInt8} (h:GL R):GL (jV R k bs).1:=by unfold jV;(repeat' split)<;>exact h
theorem Rk (h:GL R):GL (bQ R d name n).1:=by unfold bQ;(repeat' split)<;>exact h
theorem Rl (h:GL R) (hn:R.ns.length<=4096):GL (iH R d name b).1:=by
 grind [iH,Jo,KU]
theorem Rm (h:GL R) (hn:R.ns.length<=4096):GL (gY R f name to aB).1:=by
 grind [gY,Jo,VJ,KU]
theorem Rn {w:Int} (h:GL R):GL (jo R c w).1:=by
 grind [jo,Mh]
theorem YI (h:GL R) (hn:R.ns.length<=4096):GL (iI R c d).1:=by
 grind [iI,Rl,Rk,Mh]
theorem abv (h:GL R) (hn:R.ns.length<=4096):GL (cq R c).1:=by
 unfold cq
 split
 ·grind [Mh]
 split
 ·exact Rn h
 split
 ·exact Rn h
 split
 ·split
  ·exact h
  exact YI h hn
 split
 ·unfold wC
  (repeat' split)<;>exact h
 grind [TW,mH,Jo,Rm,GL,cq]
theorem adK (h:GL R) (hn:R.ns.length<=4096):GL (uj R c).1:=by
 grind [uj,abv,GL]
end g
section b
variable {S:br} {g:List Int}
theorem acN (hr:RelR S g) (hg:g.length<=4096):RC (toR S g):=by
 have hI:=hr.inv.toInv0
 have jD:(toR S g).ns.length=S.aq.length:=ic
 have iD:(toR S g).us.length=S.us.length:=Dy
 have hk:aY (toR S g).us=aY S.us:=Jj
 have h1:=hI.len
 have h2:=hI.Hf
 have h3:=hI.cH
 have h4:=hI.cN
 have h5:=hI.cB
 have h6:=hI.last
 have h7:=hI.aI
 refine⟨⟨zc,by show g.length<=8200;omega,zc,?_,?_⟩,QY hI.ix,λid hid=>?_,λi hi=>?_,⟨h4.1,h4.2,h5.1,h5.2,h3.1,h3.2,h6.1,h6.2,h7.1,h7.2⟩,by rw [hk];exact hI.usr,λz hz=>(hI.yE z (by rw [←hk];exact hz)).1,by rw [iD];exact h2⟩
 ·have h8:=Jm (g:=g) hI
  have h9:=hI.total.2
  omega
 ·have h8:=Q7 (g:=g) hI
  have h9:=hI.used.2
  omega
 ·have hid:id∈(ur S.us).map Prod.snd:=hid
  obtain⟨p,hp,rfl⟩:=aiC.1 hid
  obtain⟨q,hq,rfl⟩:=aiC.1 hp
  have hl:=(hr.inv.us q.1 q.2 (oR hI.usr hq)).1
  show 0<=gF (aV S) (q.2.k:Int)
  rw [(oe hI.ix hl).2.2.2.2.1];omega
 rw [jD] at hi
 rw [show nd (toR S g).ns i=jU S.O (gD S i) (ju S i) from pY hi]
 exact (hI.ob _ (GU hI.ix hi).1).2.2
end b
theorem NM {X:FM} {ns:List aL} {S:br} (h:ld X ns ns.length 0 S) (hok:cr ns):RelR S []/\toR S []=⟨ns,[],[],0,X.cN,X.cB,X.cH,X.cS,X.cZ,rH ns ns.length⟩:=by
 refine⟨⟨h.full,⟨λt ht=>?_,λz hz=>by cases hz⟩⟩,?_⟩
 ·obtain⟨a,ha,e⟩:=h.of ht
  obtain⟨l,u,h1⟩:=h.ob a ha
  have hk:t.k=jY (nd ns a):=by rw [e];rfl
  rw [hk,h1]
  exact Iff.intro (λq=>ain q (List.not_mem_nil)) (λq=>ain (show false=true from q) Pd)
 unfold toR
 rw [h.graph hok,h.us,h.aI,h.cap];rfl
end
section
open Go.RowKit Go.Maps bF aD
attribute [local irreducible] ar bN ak ay qu
theorem TY {β:Bs} (A:Option Addr) (c:Nat) (ns:List aL) (Y:eP) (hG:aN β A ns Y) (hl:ns.length<=1048576) (hd:∀i,i<ns.length->(nd ns i).data.length<=1048576/\(nd ns i).ah.length<=1048576) (hwf:∀i,i<ns.length->∀j,j<(nd ns i).ah.length->-9223372036854775808<=(bS ns i j).id/\(bS ns i j).id<=9223372036854775807) (hnm:∀i,i<ns.length->∀j,j<(nd ns i).ah.length->(bS ns i j).name.size<=1048576) (ht:∀i,i<ns.length->(nd ns i).target.size<=1048576) (X:FM) :
 bU Tryz.prog β 31 #[.agg #[.slice A (ns.length) (c)],.agg #[vI (X.cN),vI (X.cB),vI (X.cH),vI (X.cS),vI (X.cZ)]] [] (λβ' v l=>(¬kX X/\v=.tuple #[.agg ⟨rZ⟩,vI 179]/\l=[])\/(kX X/\¬cr ns/\v=.tuple #[.agg ⟨rZ⟩,vI 140]/\l=[])\/(kX X/\cr ns/\∃B cp K,v=.tuple #[.agg #[.slice B (ns.length) (cp),.slice none (0) (0),vI (X.cH),vI 0,.slice none (0) (0),.slice none (0) (0),vI (X.cN),vI (X.cB),vI (X.cH),vI (X.cS),vI (X.cZ),vI ((if ns.length=0 then 0 else (nd ns (ns.length-1)).id))],vI 0]/\l=[]/\aN β' B ns K)):=by
 refine mM Tryz.func31 Tryz.ntmps31 (λav R=>SR (jB 1 [2] (λb1=>.ax b1 [.slice A (ns.length) (c)] 24) (λb1=>jB 1 [3] (λb2=>.ax b2 [vI (X.cN),vI (X.cB),vI (X.cH),vI (X.cS),vI (X.cZ)] 28) (λb2=>jB 2 [4] (λb3=>.ax b3 (rZ) 45) (λb3=>NZ (jK 4 [10] [(1,a_ 2 b2)] (sP 10 ((X.cN:Int)<(0:Int)) (λh10=>jK 30 [40] [] (NT (SR (jC 3 [5] [(1,A_ 3 b3 12)] [] (eO [A_ 3 b3 12] av (.inl ⟨λh=>by first|(have:=h.cN;omega)|(have:=h.cB;omega)|(have:=h.cH;omega)|exact ain h.now (by assumption),rfl,rfl⟩)))))) (λh10=>jK 5 [15] [(1,a_ 2 b2)] (sP 15 ((X.cN:Int)>(4096:Int)) (λO3=>jK 25 [40] [] (NT (SR (jC 3 [5] [(1,A_ 3 b3 12)] [] (eO [A_ 3 b3 12] av (.inl ⟨λh=>by first|(have:=h.cN;omega)|(have:=h.cB;omega)|(have:=h.cH;omega)|exact ain h.now (by assumption),rfl,rfl⟩)))))) (λO3=>jK 5 [20] [(1,a_ 2 b2)] (sP 20 ((X.cB:Int)<(0:Int)) (λpQ=>jK 20 [40] [] (NT (SR (jC 3 [5] [(1,A_ 3 b3 12)] [] (eO [A_ 3 b3 12] av (.inl ⟨λh=>by first|(have:=h.cN;omega)|(have:=h.cB;omega)|(have:=h.cH;omega)|exact ain h.now (by assumption),rfl,rfl⟩)))))) (λpQ=>jK 5 [25] [(1,a_ 2 b2)] (sP 25 ((X.cB:Int)>(1099511627776:Int)) (λqi=>jK 15 [40] [] (NT (SR (jC 3 [5] [(1,A_ 3 b3 12)] [] (eO [A_ 3 b3 12] av (.inl ⟨λh=>by first|(have:=h.cN;omega)|(have:=h.cB;omega)|(have:=h.cH;omega)|exact ain h.now (by assumption),rfl,rfl⟩)))))) (λqi=>jK 5 [30] [(1,a_ 2 b2)] (sP 30 ((X.cH:Int)<(0:Int)) (λnX=>jK 10 [40] [] (NT (SR (jC 3 [5] [(1,A_ 3 b3 12)] [] (eO [A_ 3 b3 12] av (.inl ⟨λh=>by first|(have:=h.cN;omega)|(have:=h.cB;omega)|(have:=h.cH;omega)|exact ain h.now (by assumption),rfl,rfl⟩)))))) (λnX=>jK 5 [35] [(1,a_ 2 b2)] (sP 35 ((X.cH:Int)>(1024:Int)) (λnY=>jK 5 [40] [] (NT (SR (jC 3 [5] [(1,A_ 3 b3 12)] [] (eO [A_ 3 b3 12] av (.inl ⟨λh=>by first|(have:=h.cN;omega)|(have:=h.cB;omega)|(have:=h.cH;omega)|exact ain h.now (by assumption),rfl,rfl⟩)))))) (λnY=>jK 2 [37] [(1,A_ 2 b2 2)] (gE [] (CP X.cS X.cZ) (jK 2 [40] [] (NN (cN (fU X.cS X.cZ) (λuI=>SR (jC 3 [5] [(1,A_ 3 b3 12)] [] (eO [A_ 3 b3 12] av (.inl ⟨λh=>by first|(have:=h.cN;omega)|(have:=h.cB;omega)|(have:=h.cH;omega)|exact ain h.now (by assumption),rfl,rfl⟩)))) (λuI=>?_)))))))))))))))))))))))
 have hcap:kX X:=⟨⟨zc,zc⟩,⟨zc,zc⟩,⟨zc,zc⟩,uI⟩
 refine KX (SQ (jK 1 [42] [(0,a_ 1 b1)] (gE [] (RN A c ns Y hG hl hd hwf hnm ht) (jK 1 [44] [] (NN (cN (((if cr ns then 0 else 140):Int)=(0:Int)) (λzk=>?_) (λzk=>?_)))))))
 ·have hng:¬cr ns:=λh=>zk (aik h)
  exact SR (jC 3 [5] [(1,A_ 3 b3 12)] [] (eO [A_ 3 b3 12] av (.inr (.inl ⟨hcap,hng,rfl,rfl⟩))))
 have hok:cr ns:=aiI (λh=>Pe)
 refine KX (ak.seq (ak.tj (S:=[.ax b1 [.slice A (ns.length) (c)] 24,.ax b2 [vI (X.cN),vI (X.cB),vI (X.cH),vI (X.cS),vI (X.cZ)] 28]) (Bg [0,2,3,5] (oJ 7 [(false,8)] [(false,1),(false,4),(false,6)])) [1,2] (gT (oJ 7 [(false,8)] [(false,1),(false,4),(false,6)]) [(2,vP b1),(4,vP b3),(46,.agg #[.slice A (ns.length) (c)]),(49,vI (X.cH)),(51,.agg #[vI (X.cN),vI (X.cB),vI (X.cH),vI (X.cS),vI (X.cZ)])] [0,2,3,5] [(0,a_ 0 b1),(2,a_ 1 b2),(3,A_ 1 b2 5)] (qu.one (j:=7) (dj:=6) (R:=λf_ l_=>∃B:Option Addr,∃cp:Nat,f_=[(52,.agg #[.slice B (ns.length) (cp),.slice none (0) (0),vI (X.cH),vI 0,.slice none (0) (0),.slice none (0) (0),vI (X.cN),vI (X.cB),vI (X.cH),vI (X.cS),vI (X.cZ),vI 0]),(50,.agg #[vI (X.cH),vI 0,.slice none (0) (0),.slice none (0) (0)]),(47,.agg #[.slice B (ns.length) (cp)]),(2,vP b1),(4,vP b3),(46,.agg #[.slice A (ns.length) (c)]),(49,vI (X.cH)),(51,.agg #[vI (X.cN),vI (X.cB),vI (X.cH),vI (X.cS),vI (X.cZ)])]/\l_=[.abs (kT β (λβ'=>∃K,aN β' B ns K))]) [1,2] [(false,1,47),(false,4,50),(false,6,52)] (kG.of (ι:=Nat) (v:=λ(b4:Nat)=>vP b4) (l:=λ(b4:Nat)=>[.ax b4 (rZ) 45]) [47,50,52] rfl rfl rfl rfl ?_) ?_ ?_))))
 ·intro u Aq
  exact jB 1 [6] (λb4=>.ax b4 (rZ) 45) (λb4=>NL (MD b4 [6,47,50,52,2,4,46,49,51] [1,0]))
 ·refine eY.step (kG.of (ι:=(Option Addr)×Nat) (v:=λ((B,cp):(Option Addr)×Nat)=>.agg #[.slice B (ns.length) (cp)]) (l:=λ((B,cp):(Option Addr)×Nat)=>[.abs (kT β (λβ'=>∃K,aN β' B ns K))]) [6] rfl rfl rfl rfl ?_) ?_
  ·intro u Aq
   refine gL [] (za (β:=β) A c ns Y hG hl hd) ?_
   rintro _ _ ⟨B,cp,rfl,rfl⟩
   exact NL (MD (B,cp) [47,6,2,4,46,49,51] [0,1])
  rintro _ _ ⟨⟨B,cp⟩,rfl,rfl⟩
  refine eY.step (kG.of (ι:=Unit) (v:=λ(_:Unit)=>.agg #[vI (X.cH),vI 0,.slice none (0) (0),.slice none (0) (0)]) (l:=λ(_:Unit)=>[.abs (kT β (λβ'=>∃K,aN β' B ns K))]) [6] rfl rfl rfl rfl ?_) ?_
  ·intro u Aq
   exact gE [] (Xq X.cH hcap.cH) (NL (MD () [50,6,47,2,4,46,49,51] [0,1]))
  rintro _ _ ⟨_,rfl,rfl⟩
  refine eY.step (kG.of (ι:=Unit) (v:=λ(_:Unit)=>.agg #[.slice B (ns.length) (cp),.slice none (0) (0),vI (X.cH),vI 0,.slice none (0) (0),.slice none (0) (0),vI (X.cN),vI (X.cB),vI (X.cH),vI (X.cS),vI (X.cZ),vI 0]) (l:=λ(_:Unit)=>[.abs (kT β (λβ'=>∃K,aN β' B ns K))]) [6] rfl rfl rfl rfl ?_) ?_
  ·intro u Aq
   exact jK 1 [52] [] (NL (MD () [52,6,50,47,2,4,46,49,51] [0,1]))
  rintro _ _ ⟨_,rfl,rfl⟩
  exact⟨B,cp,rfl,rfl⟩
 rintro _ _ ⟨B,cp,rfl,rfl⟩ _ _ ⟨b4,rfl,rfl⟩
 refine eH.last KB (jC 1 [] [(0,A_ 1 b4 12)] [(1,[(0,.slice B (ns.length) (cp)),(2,vI (X.cH)),(6,vI (X.cN)),(7,vI (X.cB)),(8,vI (X.cH)),(9,vI (X.cS)),(10,vI (X.cZ))])] (NL (ay.np (NX (SQ (ar.ux 0 [1,2,3,4,5] (eX:=[.ax b4 [.slice B (ns.length) (cp),.slice none (0) (0),vI (X.cH),vI 0,.slice none (0) (0),.slice none (0) (0),vI (X.cN),vI (X.cB),vI (X.cH),vI (X.cS),vI (X.cZ),vI 0] 45,.abs R,.ax b1 [.slice A (ns.length) (c)] 24,.ax b2 [vI (X.cN),vI (X.cB),vI (X.cH),vI (X.cS),vI (X.cZ)] 28,.ax b3 (rZ) 45]) rfl rfl KB (λKR kg ⟨K,hH⟩=>?_)))))))
 replace hG:=hG.le kg
 replace av:=av.trans kg
 exact jK 4 [56] [(1,a_ 2 b1)] (NN (cP ((((ns.length:Nat):Int):Int)>(0:Int)) (λh56=>ak.region (jC 11 [] [(1,a_ 2 b1),(3,a_ 2 b1),(5,wJ ((ns.length:Int)-1) (((ns.length:Nat):Int)-1)),(6,p_ ⟨[],some (ns.length-1),none,some ⟨(bG A),bE A,none⟩,none⟩ [((ns.length:Nat):Int)-1=(((ns.length-1):Nat):Int),(ns.length-1)<ns.length,(⟨(bG A),bE A,none⟩:Addr).spot=none,(A:Option Addr)=some ⟨(bG A),bE A,none⟩] ⟨zc,zc,rfl,aN.hd hG (i:=(ns.length-1)) zc,trivial⟩),(8,r_ (aN.rd hG (i:=(ns.length-1)) zc (j:=0) rfl)),(10,a_ 0 b4)] [(0,[(11,vI ((nd ns (ns.length-1)).id))])] (NS (jC 3 [5] [(0,A_ 0 b4 12),(1,A_ 4 b3 12)] [(4,[(0,.slice B (ns.length) (cp)),(2,vI (X.cH)),(6,vI (X.cN)),(7,vI (X.cB)),(8,vI (X.cH)),(9,vI (X.cS)),(10,vI (X.cZ)),(11,vI ((nd ns (ns.length-1)).id))])] (eO [A_ 4 b3 12] av (.inr (.inr ⟨hcap,hok,B,cp,K,by rw [aij zc],rfl,hH⟩)) [1]))))) (λh56=>KX (SR (jC 3 [5] [(0,A_ 0 b4 12),(1,A_ 4 b3 12)] [(4,[(0,.slice B (ns.length) (cp)),(2,vI (X.cH)),(6,vI (X.cN)),(7,vI (X.cB)),(8,vI (X.cH)),(9,vI (X.cS)),(10,vI (X.cZ))])] (eO [A_ 4 b3 12] av (.inr (.inr ⟨hcap,hok,B,cp,K,by rw [aik zc],rfl,hH⟩)) [1]))))))
end
section
open Go.RowKit Go.Maps bF aD
noncomputable def Ge (X:FM):Int:=open Classical in if kX X then 140 else 179
theorem adL (X:FM):Ge X≠0:=by
 unfold Ge
 split<;>decide
def ahv (X:FM) (ns:List aL):Type:={S:br // ld X ns ns.length 0 S}
section m
variable {β:Bs} {ns:List aL} {Y:eP} {X:FM}
theorem abw (hcap:kX X) (hok:cr ns) (A:Option Addr) (c:Nat) (hG:aN β A ns Y) (hB:j6 ns 1048576) :
 bU Tryz.prog β 31 #[.agg #[.slice A ns.length c],.agg #[.int .i64 X.cN,.int .i64 X.cB,.int .i64 X.cH,.int .i64 X.cS,.int .i64 X.cZ]] [] (λβ' v l=>∃B cp K,v=.tuple #[.agg #[.slice B ns.length cp,.slice none 0 0,.int .i64 X.cH,.int .i64 0,.slice none 0 0,.slice none 0 0,.int .i64 X.cN,.int .i64 X.cB,.int .i64 X.cH,.int .i64 X.cS,.int .i64 X.cZ,.int .i64 (if ns.length=0 then 0 else (nd ns (ns.length-1)).id)],.int .i64 0]/\l=[]/\aN β' B ns K):=
 (TY A c ns Y hG (wi hB) (Gu hB) (JR hB) (JS hB) (ab3 hB) X).mono (by
  rintro β' v l _ (⟨h,_⟩|⟨_,h,_⟩|⟨_,_,h⟩)
  ·exact ain hcap h
  ·exact ain hok h
  exact h)
theorem abx (FQ:¬(kX X/\cr ns)) (A:Option Addr) (c:Nat) (hG:aN β A ns Y) (hB:j6 ns 1048576) :
 bU Tryz.prog β 31 #[.agg #[.slice A ns.length c],.agg #[.int .i64 X.cN,.int .i64 X.cB,.int .i64 X.cH,.int .i64 X.cS,.int .i64 X.cZ]] [] (λ_ v l=>v=.tuple #[.agg #[.slice none 0 0,.slice none 0 0,.int .i64 0,.int .i64 0,.slice none 0 0,.slice none 0 0,.int .i64 0,.int .i64 0,.int .i64 0,.int .i64 0,.int .i64 0,.int .i64 0],.int .i64 (Ge X)]/\l=[]):=
 (TY A c ns Y hG (wi hB) (Gu hB) (JR hB) (JS hB) (ab3 hB) X).mono (by
  rintro β' v l _ (⟨h,h1,h2⟩|⟨h,h',h1,h2⟩|⟨h1,h2,_⟩)
  ·exact⟨by rw [show Ge X=179 from aij h];exact h1,h2⟩
  ·exact⟨by rw [show Ge X=140 from aik h];exact h1,h2⟩
  exact ain ⟨h1,h2⟩ FQ)
end m
section p
variable {S:br} {g:List Int} {X:FM} {ns:List aL} {Y:eP} {β:Bs}
structure Pair (S:br) (g:List Int):Prop extends RelR S g where
 gl:g.length<=4096
theorem Pair.rc (h:Pair S g):RC (toR S g):=acN h.toRelR h.gl
theorem Pair.rd (h:Pair S g):RD 0 (toR S g):=by
 have hI:=h.inv.toInv0
 have h1:=hI.len
 have h2:(toR S g).ns.length=S.aq.length:=ic
 have h8:=Jm (g:=g) hI
 have h9:=hI.total.2
 exact⟨zc,h.gl,h.rc.us,zc,h.rc.dat⟩
theorem Pair.step (h:Pair S g) (c:aH):∃g',uj (toR S g) c=(toR (gj S c).1 g',(gj S c).2)/\Pair (gj S c).1 g':=by
 obtain⟨g',h1,h2⟩:=abu h.toRelR c
 have h3:GL (toR S g):=h.gl
 have h4:=adK (c:=c) h3 (by have h5:=h.inv.toInv0.len;grind [toR,ic])
 rw [h1] at h4
 exact⟨g',h1,h2,h4⟩
theorem Gf (h:Pair S g) {Y:RL} (hR:dF β (toR S g) Y) {c c2:aH} {S2:br} (hD:gj S c=(S2,c2)) (hn:c.name.size<=1048576) (ht:c.text.size<=1048576) (hb:bp β c.dA c.data) (hl:c.data.length<=140737488355328) (hc:c.data.length<=c.dC) :
 bU Tryz.prog β 35 #[.agg ⟨rV (toR S g) Y⟩,.agg ⟨aO c⟩] [] (λβ' v l=>∃g' Y' B p,v=.tuple #[.agg ⟨rV (toR S2 g') Y'⟩,.agg ⟨aO (gP c2 B p)⟩]/\l=[]/\Pair S2 g'/\dF β' (toR S2 g') Y'/\bp β' B c.data):=by
 obtain⟨g',h1,h2⟩:=h.step c
 rw [hD] at h1 h2
 refine (abf (toR S g) Y hR h.rc h.rd c hn ht hb hl hc).mono ?_
 grind
theorem Pair.start (N:ahv X ns) (hok:cr ns):Pair N.1 []:=⟨(NM N.2 hok).1,aio _⟩
end p
section c
variable {S S2:br} {β:Bs} {c c2 x q out:aH} {f m t:Nat} {L:HL}
structure ahT (β:Bs) (c:aH):Prop where
 hw:(Lit.int .i64 c.aG).wf=true
 ow:(Lit.int .i64 c.other).wf=true
 nm:c.name.size<=1048576
 tx:c.text.size<=1048576
 da:bp β c.dA c.data
structure ByR (β:Bs) (S:br) (op:Int) (S2:br) (q c2 out:aH):Prop where
 did:gj S q=(S2,c2)
 ok:kU β q
 dl:q.data.length<=1048576
 Ro:out.answer=c2.answer
 code:out.code=c2.code
 st:op=11\/op=12->out.other=c2.other/\out.mode=c2.mode/\out.bg=c2.bg/\out.bh=c2.bh/\out.aT=c2.aT/\out.aJ=c2.aJ
end c
end
section
open Go.RowKit
theorem VK {w:World} {o:Oper} {ev:Operand->Value} {x y:Operand} {a b c d:Int} (ho:o.op=.binOp .eql 26 x y 26) (hx:ev x=.agg #[.int .i64 a,.int .i64 b]) (hy:ev y=.agg #[.int .i64 c,.int .i64 d]) :
 tv Tryz.prog ev o w (.bool (decide (a=c/\b=d))) w:=by
 obtain⟨dst,op,type,pos,after,guard⟩:=o
 cases ho
 refine .inl ?_
 simp only [execOp,hx,hy]
 simp [go_sem]
 by_cases h1:a=c<;>by_cases h2:b=d<;>simp [h1,h2]
end
section
open Go.RowKit Go.Maps bF aD
attribute [local irreducible] ar bN ak ay
theorem Rp {β:Bs} (c:aH) (A1 A2:Option Addr) (p1 p2:Nat) (h1:bp β A1 c.data) (h2:bp β A2 c.data) (hl:c.data.length<=140737488355328) :
 aU Tryz.prog β 13 #[.agg ⟨aO (gP c A1 p1)⟩,.agg ⟨aO (gP c A2 p2)⟩] [] (λv l=>v=.bool true/\l=[]):=by
 exact SE Tryz.func13 Tryz.ntmps13 (λR=>SR (jB 1 [2] (λb1=>.ax b1 (aO (gP c A1 p1)) 53) (λb1=>jB 2 [3] (λb2=>.ax b2 (aO (gP c A2 p2)) 53) (λb2=>NS (jK 59 [59,61,63] [(1,a_ 1 b1),(3,a_ 2 b2),(4,p_ ⟨[],none,none,none,some (.bool true)⟩ [(Value.bool (decide ((c.op:Int)=(c.op:Int))))=(.bool true)] ⟨aii,trivial⟩),(7,a_ 1 b1),(9,a_ 2 b2),(10,p_ ⟨[],none,none,none,some (.bool true)⟩ [(Value.bool (decide ((c.aG:Int)=(c.aG:Int))))=(.bool true)] ⟨aii,trivial⟩),(14,a_ 1 b1),(16,a_ 2 b2),(17,p_ ⟨[],none,none,none,some (.bool true)⟩ [(Value.bool (decide ((c.other:Int)=(c.other:Int))))=(.bool true)] ⟨aii,trivial⟩),(21,a_ 1 b1),(23,a_ 2 b2),(24,p_ ⟨[],none,none,none,some (.bool true)⟩ [(Value.bool ((c.name:ByteArray).toList == (c.name:ByteArray).toList))=(.bool true)] ⟨aii,trivial⟩),(28,a_ 1 b1),(30,a_ 2 b2),(31,p_ ⟨[],none,none,none,some (.bool true)⟩ [(Value.bool ((c.text:ByteArray).toList == (c.text:ByteArray).toList))=(.bool true)] ⟨aii,trivial⟩),(35,a_ 1 b1),(37,a_ 2 b2),(38,p_ ⟨[],none,none,none,some (.bool true)⟩ [(Value.bool (decide ((c.mode:Int)=(c.mode:Int))))=(.bool true)] ⟨aii,trivial⟩),(42,a_ 1 b1),(44,a_ 2 b2),(45,p_ ⟨[],none,none,none,some (.bool true)⟩ [(Value.bool (decide ((c.bg:Int)=(c.bg:Int))))=(.bool true)] ⟨aii,trivial⟩),(49,a_ 1 b1),(51,a_ 2 b2),(52,p_ ⟨[],none,none,none,some (.bool true)⟩ [(Value.bool (decide ((c.bh:Int)=(c.bh:Int))))=(.bool true)] ⟨aii,trivial⟩),(56,A_ 1 b1 2),(58,A_ 2 b2 2)] (ar.oh (d:=(some 64)) (op:=.binOp .eql 26 (.tmp 61) (.tmp 63) 26) (v:=.bool (decide ((c.aT:Int)=(c.aT:Int)/\(c.aJ:Int)=(c.aJ:Int)))) (λ_=>KB) (λo ai w ho hS=>⟨w,VK ho KB KB,hS⟩) (sl 64 (.bool (decide ((c.aT:Int)=(c.aT:Int)/\(c.aJ:Int)=(c.aJ:Int)))) (.bool true) (ail Value.bool aii) (jK 20 [80,82,84] [(3,a_ 1 b1),(5,a_ 2 b2),(6,p_ ⟨[],none,none,none,some (.bool true)⟩ [(Value.bool (decide ((c.code:Int)=(c.code:Int))))=(.bool true)] ⟨aii,trivial⟩),(10,a_ 1 b1),(12,a_ 2 b2),(13,p_ ⟨[],none,none,none,some (.bool true)⟩ [(Value.bool (decide ((c.answer:Int)=(c.answer:Int))))=(.bool true)] ⟨aii,trivial⟩),(17,a_ 1 b1),(19,a_ 2 b2)] (gE [] (EZ A1 A2 p1 p2 c.data c.data h1 h2 hl) (jK 2 [4] [] (eN (v:=(.bool (decide (c.data=c.data)))) ⟨ail Value.bool (aiD rfl),rfl⟩ [0])))))))))))
end
section
open Go.RowKit Go.Maps bF aD
def bare (c:aH):aH:=cY none 0 c
theorem adM {A:Option Addr} {m:Nat} {c:aH}:bare (cY A m c)=bare c:=rfl
theorem YJ {c d:aH} (h:bare c=bare d):c.data=d.data:=by
 have e:(bare c).data=(bare d).data:=by rw [h]
 exact e
theorem adN {c d:aH} (h:bare c=bare d):d=cY d.dA d.dC c:=by
 show cY d.dA d.dC (bare d)=cY d.dA d.dC (bare c)
 rw [h]
theorem Gg {α:Type} (f:α->List Value) (ys:List α):∀xs:List α,cI f (xs++ys)=cI f xs++cI f ys
 |[]=>rfl
 |a::r=>by
   rw [aiT,Ek,Ek,Gg f ys r,aiN]
theorem adO {os tr:List aH} (h:os.map bare=tr.map bare) (i:Nat):bare (bq os i)=bare (bq tr i):=by
 have h1:=ail (λl=>l[i]?) h
 simp only [List.getElem?_map] at h1
 unfold bq
 rw [aiS,aiS]
 cases e1:os[i]?<;>cases e2:tr[i]?<;>rw [e1,e2] at h1<;>simp at h1 ⊢
 exact h1
theorem adP {os tr:List aH} (h:os.map bare=tr.map bare):os.length=tr.length:=by
 have:=ail List.length h
 simpa using this
structure vU (β:Bs) (A:Option Addr) (os:List aH):Prop where
 row:cA β A (cI aO os)
 dat:xA β os
section t
variable {β β':Bs} {A:Option Addr} {os tr:List aH} {i j:Nat} {v:Value} {B:Option Addr} {p:Nat}
theorem vU.hd (h:vU β A os) (hi:i<os.length):A=some ⟨bG A,bE A,none⟩:=(Kb (s:=13) (j:=0) h.row (λ_=>rfl) (vN hi) rfl).1
theorem vU.rd (h:vU β A os) (hi:i<os.length) (hv:(aO (bq os i))[j]?=some v):Rd β ⟨bG A,bE A+i*13+j,none⟩ v:=(Kb h.row (λ_=>rfl) (vN hi) hv).2
theorem Dz (hi:i<os.length):bq os i∈os:=aiU (vN hi)
theorem agy (ho:os.length=i) (hi:i<tr.length):(os++tr.drop i)[i]?=some (bq tr i):=by
 rw [ajf zc,ho,Nat.sub_self,List.getElem?_drop,Nat.add_zero]
 exact vN hi
theorem afv (ho:os.length=i) (hi:i<tr.length) {v:Value} (hj:j<13) (hv:(aO (bq tr i))[j]?=some v):(cI aO (os++tr.drop i))[i*13+j]?=some v:=(MS (f:=aO) (s:=13) (λ_=>rfl) (agy ho hi) hj).trans hv
theorem afw (ho:os.length=i) (hi:i<=tr.length):(os++tr.drop i).length=tr.length:=by
 rw [ait,List.length_drop];omega
theorem afx (ho:os.length=i) (hi:i<tr.length):(cI aO (os++tr.drop i)).set (i*13+5) (.slice B (bq tr i).data.length p)=cI aO ((os++[cY B p (bq tr i)])++tr.drop (i+1)):=by
 have e:tr.drop i=bq tr i::tr.drop (i+1):=by
  rw [ai8 hi]
  have:=vN hi
  rw [aiy hi] at this
  injection this with this
  rw [this]
 have hl:(cI aO os).length=i*13:=by rw [yS (f:=aO) (s:=13) (λ_=>rfl),ho]
 rw [e,Gg,Ek,List.set_append_right _ _ zc,hl,Nat.add_sub_cancel_left,List.set_append_left _ _ (by show 5<13;decide),Gg,D6,aiN]
 rfl
theorem afy {c:aH} (hm:os.map bare=(tr.take i).map bare) (hi:i<tr.length) (hc:bare c=bare (bq tr i)):(os++[c]).map bare=(tr.take (i+1)).map bare:=by
 rw [aiQ,vN hi,ai1,ai1,hm]
 show _++[bare c]=_++[bare (bq tr i)]
 rw [hc]
theorem Rq (c d:aH) (h:bare c=bare d) (h1:bp β c.dA c.data) (h2:bp β d.dA d.data) (hl:c.data.length<=140737488355328):aU Tryz.prog β 13 #[.agg ⟨aO c⟩,.agg ⟨aO d⟩] [] (λv l=>v=.bool true/\l=[]):=by
 have e:=adN h
 rw [←YJ h] at h2
 rw [e]
 exact Rp c c.dA d.dA c.dC d.dC h1 h2 hl
end t
section e
variable {β:Bs} {fs:List cL} {xs:List dh} {aj:Int} {ns:List aL} {X:FM}
abbrev newP (β:Bs) (B:Option Addr) (ns:List aL) (Bf:Option Addr) (bf:Nat) (fs:List cL) (Ba:Option Addr) (ba:Nat) (xs:List dh):List HP:=[.abs (kT β (λβ'=>∃K,aN β' B ns K)),.abs (aF 66 2 Bf fs.length bf (cI jg fs)),.abs (aF 68 5 Ba xs.length ba (cI kA xs))]
abbrev aby (B:Option Addr) (n cp:Nat) (aj:Int) (X:FM) (Bf:Option Addr) (nf bf:Nat) (Ba:Option Addr) (na ba:Nat):Array Value:=#[.agg #[.slice B n cp],.int .i64 aj,.agg #[.int .i64 X.cN,.int .i64 X.cB,.int .i64 X.cH,.int .i64 X.cS,.int .i64 X.cZ],.agg #[.slice Bf nf bf,.slice Ba na ba]]
theorem Rs {Bf Ba:Option Addr} (B:Option Addr) (cp:Nat) (hB:j6 ns 1048576) (bf ba:Nat) (o5:lg fs 2097152) (dR:jq xs 1048576) :
 bU Tryz.prog β 18 (aby B ns.length cp aj X Bf fs.length bf Ba xs.length ba) (newP β B ns Bf bf fs Ba ba xs) (λβ' v l=>(fw X ns aj≠0/\v=.tuple #[.pointer none,.int .i64 (fw X ns aj)]/\l=[])\/(fw X ns aj=0/\∃(N:Ee X ns) (G:WG) (V:WV),v=.tuple #[vP G.w,.int .i64 0]/\l=[wA G fs xs aj N.1 V []]/\nH β' G.Z xs)):=
 bU.UX λβ1 _ ⟨K,hG⟩=>bU.aeF λox hL=>by
  obtain⟨F,h1,h2⟩:=hL.get 0 rfl
  obtain⟨F',h1',h2'⟩:=hL.get 1 rfl
  exact adx B cp (hG.le hL.le) hB bf ba (cA.iM h1 h2 rfl) o5 (cA.iM h1' h2' rfl) dR
theorem abz (h0:fw X ns aj=0) {Bf Ba:Option Addr} (B:Option Addr) (cp:Nat) (hB:j6 ns 1048576) (bf ba:Nat) (o5:lg fs 2097152) (dR:jq xs 1048576) :
 aU Tryz.prog β 18 (aby B ns.length cp aj X Bf fs.length bf Ba xs.length ba) (newP β B ns Bf bf fs Ba ba xs) (λv l=>∃(N:Ee X ns) (G:WG) (V:WV),v=.tuple #[vP G.w,.int .i64 0]/\l=[.abs (kT β (λβ'=>nH β' G.Z xs)),wA G fs xs aj N.1 V []]):=
 (bU.Ke (ι:=Ee X ns×WG×WV) (vv:=λx=>.tuple #[vP x.2.1.w,.int .i64 0]) (ll:=λx=>[wA x.2.1 fs xs aj x.1.1 x.2.2 []]) (Φ:=λx β'=>nH β' x.2.1.Z xs)
  ((Rs (X:=X) B cp hB bf ba o5 dR).mono (by
    rintro β' v l _ (⟨h,_⟩|⟨_,N,G,V,h1,h2,h3⟩)
    ·exact ain h0 h
    exact⟨(N,G,V),h1,h2,h3⟩))).mono (by rintro v l ⟨⟨N,G,V⟩,h1,h2⟩;exact⟨N,G,V,h1,h2⟩)
theorem YK (h0:¬fw X ns aj=0) {Bf Ba:Option Addr} (B:Option Addr) (cp:Nat) (hB:j6 ns 1048576) (bf ba:Nat) (o5:lg fs 2097152) (dR:jq xs 1048576) :
 aU Tryz.prog β 18 (aby B ns.length cp aj X Bf fs.length bf Ba xs.length ba) (newP β B ns Bf bf fs Ba ba xs) (λv l=>v=.tuple #[.pointer none,.int .i64 (fw X ns aj)]/\l=[]):=
 ((Rs (X:=X) B cp hB bf ba o5 dR).mono (by
  rintro β' v l _ (⟨_,h1,h2⟩|⟨h,_⟩)
  ·exact⟨h1,h2⟩
  exact ain h h0)).aeG
end e
end
section
open Go.RowKit Go.Maps bF aD
attribute [local irreducible] ar bN ak ay eH
theorem NR {β:Bs} (A:Option Addr) (c:Nat) (ns:List aL) (Y:eP) (hG:aN β A ns Y) (hB:j6 ns 1048576) (X:FM) (aj:Int) (Af:Option Addr) (cf:Nat) (fs:List cL) (hF:cA β Af (cI jg fs)) (o5:lg fs 2097152) (Aa:Option Addr) (ca:Nat) (xs:List dh) (hA:cA β Aa (cI kA xs)) (dR:jq xs 1048576) :
 bU Tryz.prog β 7 #[.agg #[.slice A (ns.length) (c),vI (aj),vI (X.cN),vI (X.cB),vI (X.cH),vI (X.cS),vI (X.cZ),.slice Af (fs.length) (cf),.slice Aa (xs.length) (ca)]] [] (λβ' v l=>(fw X ns aj≠0/\v=.tuple #[.pointer none,vI (fw X ns aj)]/\l=[])\/(fw X ns aj=0/\∃(N:Ee X ns) (G:WG) (V:WV),v=.tuple #[vP G.w,vI 0]/\l=[wA G fs xs aj N.1 V []]/\nH β' G.Z xs)):=by
 refine mM Tryz.func7 Tryz.ntmps7 (λav R=>SR (jB 3 [1] (λb1=>.ax b1 [.slice A (ns.length) (c),vI (aj),vI (X.cN),vI (X.cB),vI (X.cH),vI (X.cS),vI (X.cZ),.slice Af (fs.length) (cf),.slice Aa (xs.length) (ca)] 34) (λb1=>NN (ak.seq ?_))))
 by_cases h0:fw X ns aj=0
 ·refine jM [0,1,3,4,5,6,7,8,502,509,510,11,12,13,514] [1] (jG 8 [5,8,10,12] [(1,a_ 0 b1),(3,a_ 0 b1),(5,A_ 0 b1 5),(7,A_ 0 b1 2)] (kL [2] [] (za (β:=β) A c ns Y hG (wi hB) (Gu hB)) ?_ (by rintro _ _ ⟨B,cp,rfl,rfl⟩;kernel_rfl)))
  rintro _ _ ⟨B,cp,rfl,rfl⟩
  refine kL [4] [] (ze (β:=β) Af cf fs hF o5.len Aa ca xs hA (air dR.len Pd)) ?_ (by rintro _ _ ⟨Bf,bf,Ba,ba,rfl,rfl⟩;kernel_rfl)
  rintro _ _ ⟨Bf,bf,Ba,ba,rfl,rfl⟩
  refine kL [3] [2,0,1] (abz (β:=β) (X:=X) (Bf:=Bf) (Ba:=Ba) h0 B cp hB bf ba o5 dR) ?_ (by rintro _ _ ⟨N,G,V,rfl,rfl⟩;kernel_rfl)
  rintro _ _ ⟨N,G,V,rfl,rfl⟩
  refine jG 3 [2,16] [] (eH.last KB (jK 1 [3] [] (NL (ay.np (NX (ak.ret (ay.ux 0 [1,2,3] (eX:=[wA G fs xs aj N.1 V ([]),.abs R,.ax b1 [.slice A (ns.length) (c),vI (aj),vI (X.cN),vI (X.cB),vI (X.cH),vI (X.cS),vI (X.cZ),.slice Af (fs.length) (cf),.slice Aa (xs.length) (ca)] 34]) rfl KB rfl (λox fo hz=>?_))))))))
  replace av:=av.trans fo
  exact rB (.tuple #[vP G.w,vI 0]) [] [0,1] av (.inr ⟨h0,N,G,V,rfl,rfl,hz⟩)
 refine jM [0,1,3,4,5,6,7,8,502,509,510,11,12,13,514] [1] (jG 8 [5,8,10,12] [(1,a_ 0 b1),(3,a_ 0 b1),(5,A_ 0 b1 5),(7,A_ 0 b1 2)] (kL [2] [] (za (β:=β) A c ns Y hG (wi hB) (Gu hB)) ?_ (by rintro _ _ ⟨B,cp,rfl,rfl⟩;kernel_rfl)))
 rintro _ _ ⟨B,cp,rfl,rfl⟩
 refine kL [4] [] (ze (β:=β) Af cf fs hF o5.len Aa ca xs hA (air dR.len Pd)) ?_ (by rintro _ _ ⟨Bf,bf,Ba,ba,rfl,rfl⟩;kernel_rfl)
 rintro _ _ ⟨Bf,bf,Ba,ba,rfl,rfl⟩
 refine kL [1] [2,0,1] (YK (β:=β) (X:=X) (Bf:=Bf) (Ba:=Ba) h0 B cp hB bf ba o5 dR) ?_ (by rintro _ _ ⟨rfl,rfl⟩;kernel_rfl)
 rintro _ _ ⟨rfl,rfl⟩
 exact jG 3 [2,16] [] (eH.last KB (jK 1 [3] [] (NL (ay.np (NX (ak.ret (rB (.tuple #[.pointer none,vI ((fw X ns aj))]) [] [0] av (.inl ⟨h0,rfl,rfl⟩))))))))
end
end Go.Proofs.YtbnfiigafobejaaGreat
