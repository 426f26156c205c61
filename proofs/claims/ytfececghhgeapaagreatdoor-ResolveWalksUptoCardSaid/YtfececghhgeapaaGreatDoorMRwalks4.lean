/-
  PROVED HERE: lemmas and contracts of functions (texts of this repo, joined; what the claim does not use is left out): DR, DT, Dp, DP, Dm, Do, DC, Dq, DM, DN, Co, Ss, Sv, Sw, So, Sy, Sz, Sq, Sj, Sg, Si, Pw, Ad, Pc, FP, FW, FA, DS, DO, DK, Dr.
  CONDITIONS: as the theorems say.
-/
import Derived.Test.YtfececghhgeapaaGreatDoorMRwalks3
set_option maxRecDepth 100000
set_option maxHeartbeats 4000000
namespace Go.Proofs.YtfececghhgeapaaGreatDoor
section
open Go.RowKit Go.Maps bw aI
attribute [local irreducible] aE bH ax aF eu
theorem Aj {β:Bs} (Z:RS) (Y:RL) (hR:dP β Z Y) (hB:RB Z) (id:Int) :
 aW Tryz.prog β 111 #[.agg ⟨rV Z Y⟩,vI (id)] [] (λv l=>v=.bool (decide (id∈Z.aJ))/\l=[]):=by
 refine SE Tryz.func111 Tryz.ntmps111 (λR=>SR (jB 2 [2] (λb1=>.aD b1 (rV Z Y) 45) (λb1=>NZ (jK 1 [5] [] (NN (ax.block (lJ (λ(i:Nat)=>(i<=Z.aJ.length)/\(∀q,q<i->¬Z.aJ.getD q 0=id)) (λ(i:Nat)=>Z.aJ.length-i) (λ(i:Nat)=>[(1,vI (id)),(2,vP b1),(5,vI ↑i)]) (λ(i:Nat)=>[.abs R,.aD b1 (rV Z Y) 45]) 0 [0,1] (⟨L4 _,λq hq=>KB hq (N5 q)⟩) ?_)))))))
 rintro i ⟨hi,jx⟩
 have hbg:=hB.aJ
 exact SQ (jK 5 [10] [(2,a_ 1 b1)] (NN (cP ((((i:Nat):Int):Int)<(((Z.aJ.length:Nat):Int):Int)) (λh10=>KX (ax.seq (ax.block (SR (jK 7 [19] [(1,a_ 1 b1),(3,x_ i Z.aJ.length (xu.hd (l:=Z.aJ) hR.g (j:=i) gn)),(4,r_ (xu.rd (l:=Z.aJ) hR.g (j:=i) gn))] (NN (cP (((Z.aJ.getD i 0):Int)=(id:Int)) (λhhit=>zR ⟨zc Value.bool (acY (j:=i) d5 hhit),rfl⟩) (λhhit=>KX (ax.region (jK 3 [5] [(1,wJ ((i:Int)+1) (↑(i+1)))] (NL (tJ ((i+1)) [0,1] (⟨d5,λq hq=>gn⟩))))))))))))) (λh10=>XX (zR ⟨zc Value.bool (Z7 (λq hq=>jx q d5)),rfl⟩)))))
theorem aad {β:Bs} (Z:RS) (Y:RL) (hR:dP β Z Y) (hB:RB Z) :
 aW Tryz.prog β 117 #[.agg ⟨rV Z Y⟩] [] (λv l=>v=vI ((fX Z.ns Z.ns.length:Nat):Int)/\l=[]):=by
 refine SE Tryz.func117 Tryz.ntmps117 (λR=>SR (jB 2 [1] (λb2=>.aD b2 (rV Z Y) 45) (λb2=>NS (jK 1 [3] [] (NZ (jK 1 [4] [] (NN (ax.block (lJ (λ(i:Nat)=>(i<=Z.ns.length)) (λ(i:Nat)=>Z.ns.length-i) (λ(i:Nat)=>[(1,vP b2),(3,vI ↑(fX Z.ns i)),(4,vI ↑i)]) (λ(i:Nat)=>[.abs R,.aD b2 (rV Z Y) 45]) 0 [0,1] (L4 _) ?_)))))))))
 rintro i hi
 have hbn:=hB.ns
 have hbd:=hB.dat
 have hdt:=JH (ns:=Z.ns) (i:=i) hi
 exact SQ (jK 6 [10] [(3,a_ 1 b2)] (NN (cP ((((i:Nat):Int):Int)<(((Z.ns.length:Nat):Int):Int)) (λh10=>KX (ax.seq (ax.block (ax.region (jK 11 [3] [(3,a_ 1 b2),(5,x_ i Z.ns.length (aO.hd hR.n (i:=i) d5)),(7,r_ (aO.rd hR.n (i:=i) d5 (j:=7) rfl)),(9,w_ (.int .i64 ↑(fX Z.ns (i+1))) (vk (Int.natCast_add _ _).symm d5 (by grind [JH])))] (LX (ax.region (jK 3 [4] [(1,wJ ((i:Int)+1) (↑(i+1)))] (NL (tJ ((i+1)) [0,1] d5)))))))))) (λh10=>XX (zR (v:=(vI ↑(fX Z.ns i))) ⟨by rw [show i=Z.ns.length by omega],rfl⟩)))))
theorem aae {β:Bs} (Z:RS) (Y:RL) (hR:dP β Z Y) (hB:RB Z) :
 aW Tryz.prog β 92 #[.agg ⟨rV Z Y⟩] [] (λv l=>v=vI ((dY Z.ns Z.ns.length:Nat):Int)/\l=[]):=by
 refine SE Tryz.func92 Tryz.ntmps92 (λR=>SR (jB 2 [1] (λb3=>.aD b3 (rV Z Y) 45) (λb3=>NS (jK 1 [3] [] (NZ (jK 1 [4] [] (NN (ax.block (lJ (λ(i:Nat)=>(i<=Z.ns.length)) (λ(i:Nat)=>Z.ns.length-i) (λ(i:Nat)=>[(1,vP b3),(3,vI ↑(dY Z.ns i)),(4,vI ↑i)]) (λ(i:Nat)=>[.abs R,.aD b3 (rV Z Y) 45]) 0 [0,1] (L4 _) ?_)))))))))
 rintro i hi
 have hbn:=hB.ns
 have hbe:=hB.aq
 have hmo:=qp (ns:=Z.ns) hi
 exact SQ (jK 6 [10] [(3,a_ 1 b3)] (NN (cP ((((i:Nat):Int):Int)<(((Z.ns.length:Nat):Int):Int)) (λh10=>KX (ax.seq (ax.block (ax.region (jK 11 [3] [(3,a_ 1 b3),(5,x_ i Z.ns.length (aO.hd hR.n (i:=i) d5)),(7,r_ (aO.rd hR.n (i:=i) d5 (j:=9) rfl)),(9,w_ (.int .i64 ↑(dY Z.ns (i+1))) (vk (Int.natCast_add _ _).symm d5 (by have:=qp (ns:=Z.ns) (show i+1<=Z.ns.length by omega);have:=hB.aq;omega)))] (LX (ax.region (jK 3 [4] [(1,wJ ((i:Int)+1) (↑(i+1)))] (NL (tJ ((i+1)) [0,1] d5)))))))))) (λh10=>XX (zR (v:=(vI ↑(dY Z.ns i))) ⟨by rw [show i=Z.ns.length by omega],rfl⟩)))))
theorem W9 {β:Bs} (Z:RS) (Y:RL) (hR:dP β Z Y) (hB:RB Z) (id:Int) :
 aW Tryz.prog β 131 #[.agg ⟨rV Z Y⟩,vI (id)] [] (λv l=>v=vI (tL Z.ns id)/\l=[]):=by
 refine SE Tryz.func131 Tryz.ntmps131 (λR=>SR (jB 2 [2] (λb4=>.aD b4 (rV Z Y) 45) (λb4=>NS (jK 1 [5] [] (NZ (jK 1 [6] [] (NN (ax.block (lJ (λ(i:Nat)=>(i<=Z.ns.length)) (λ(i:Nat)=>Z.ns.length-i) (λ(i:Nat)=>[(1,vI (id)),(2,vP b4),(5,vI ↑(nN Z.ns id i)),(6,vI ↑i)]) (λ(i:Nat)=>[.abs R,.aD b4 (rV Z Y) 45]) 0 [0,1] (L4 _) ?_)))))))))
 rintro i hi
 have hbn:=hB.ns
 have hbe:=hB.aq
 have hcs:=UC Z.ns id i
 have hmo:=qp (ns:=Z.ns) hi
 refine SQ (jK 6 [13] [(3,a_ 1 b4)] (NN (cP ((((i:Nat):Int):Int)<(((Z.ns.length:Nat):Int):Int)) (λtv=>KX (ax.seq (ax.block (SR (jK 1 [7] [] (NN (ax.block (lJ (λ(j:Nat)=>(j<=(nd Z.ns i).aq.length)) (λ(j:Nat)=>(nd Z.ns i).aq.length-j) (λ(j:Nat)=>[(1,vI (id)),(2,vP b4),(5,vI ↑(nN Z.ns id i+iY (nd Z.ns i).aq id j)),(6,vI ↑i),(7,vI ↑j)]) (λ(j:Nat)=>[.abs R,.aD b4 (rV Z Y) 45]) 0 [0,1] (L4 _) ?_)))))))) (λtv=>XX (zR (v:=(vI ↑(nN Z.ns id i))) ⟨by rw [show i=Z.ns.length by omega];rfl,rfl⟩)))))
 rintro j hj
 have hrl:=Mb (nd Z.ns i).aq id j
 have hrw:=hB.row (i:=i) d5
 exact SQ (jK 10 [25] [(3,a_ 1 b4),(5,x_ i Z.ns.length (aO.hd hR.n (i:=i) d5)),(7,r_ (aO.rd hR.n (i:=i) d5 (j:=9) rfl))] (NN (cP ((((j:Nat):Int):Int)<((((nd Z.ns i).aq.length:Nat):Int):Int)) (λqH=>KX (ax.seq (ax.block (SR (jK 13 [40] [(2,a_ 1 b4),(4,x_ i Z.ns.length (aO.hd hR.n (i:=i) d5)),(6,r_ (aO.rd hR.n (i:=i) d5 (j:=9) rfl)),(8,x_ j ((nd Z.ns i).aq.length) (cU.hd (hR.n.aq i d5) (i:=j) d5)),(10,r_ (cU.rd (hR.n.aq i d5) (i:=j) d5 (j:=1) rfl))] (NN (cP (((en (nd Z.ns i).aq j).id:Int)=(id:Int)) (λtI=>ax.region (jK 3 [5] [(1,wJ (((nN Z.ns id i+iY (nd Z.ns i).aq id j:Nat):Int)+1) (↑((nN Z.ns id i+iY (nd Z.ns i).aq id j)+1)))] (LX (ax.region (sl 5 (vI ↑((nN Z.ns id i+iY (nd Z.ns i).aq id j)+1)) (.int .i64 ↑(nN Z.ns id i+iY (nd Z.ns i).aq id (j+1))) (by rw [←JD tI,aiD]) (jK 3 [7] [(1,wJ ((j:Int)+1) (↑(j+1)))] (NL (tJ ((j+1)) [0,1] (d5))))))))) (λtI=>KX (ax.region (sl 5 (vI ↑(nN Z.ns id i+iY (nd Z.ns i).aq id j)) (.int .i64 ↑(nN Z.ns id i+iY (nd Z.ns i).aq id (j+1))) (by rw [←GK tI]) (jK 3 [7] [(1,wJ ((j:Int)+1) (↑(j+1)))] (NL (tJ ((j+1)) [0,1] (d5)))))))))))))) (λqH=>XX (ax.region (sl 5 (vI ↑(nN Z.ns id i+iY (nd Z.ns i).aq id j)) (.int .i64 ↑(nN Z.ns id (i+1))) (by rw [nN,show j=(nd Z.ns i).aq.length by omega]) (jK 3 [6] [(1,wJ ((i:Int)+1) (↑(i+1)))] (NL (tJ ((i+1)) [0,1] (d5))))))))))
theorem mw {β:Bs} (Z:RS) (Y:RL) (hR:dP β Z Y) (hB:RC Z) (d:Nat) (hd:d<Z.ns.length) (name:ByteArray) :
 aW Tryz.prog β 87 #[.agg ⟨rV Z Y⟩,vI (((d:Nat):Int)),.string name] [] (λv l=>v=vI (cL Z.ns d name)/\l=[]):=by
 refine SE Tryz.func87 Tryz.ntmps87 (λR=>SR (jB 2 [3] (λb5=>.aD b5 (rV Z Y) 45) (λb5=>NZ (jK 1 [7] [] (NN (ax.block (lJ (λ(j:Nat)=>(j<=(nd Z.ns d).aq.length)/\(∀q,q<j->¬(en (nd Z.ns d).aq q).name=name)) (λ(j:Nat)=>(nd Z.ns d).aq.length-j) (λ(j:Nat)=>[(1,vI ↑d),(2,.string name),(3,vP b5),(7,vI ↑j)]) (λ(j:Nat)=>[.abs R,.aD b5 (rV Z Y) 45]) 0 [0,1] (⟨L4 _,λq hq=>KB hq (N5 q)⟩) ?_)))))))
 rintro j ⟨hj,jx⟩
 have hrw:=hB.toRB.row hd
 refine SQ (jK 10 [17] [(3,a_ 1 b5),(5,x_ d Z.ns.length (aO.hd hR.n (i:=d) d5)),(7,r_ (aO.rd hR.n (i:=d) d5 (j:=9) rfl))] (NN (cP ((((j:Nat):Int):Int)<((((nd Z.ns d).aq.length:Nat):Int):Int)) (λIX=>KX (ax.seq (ax.block (SR (jK 13 [32] [(2,a_ 1 b5),(4,x_ d Z.ns.length (aO.hd hR.n (i:=d) d5)),(6,r_ (aO.rd hR.n (i:=d) d5 (j:=9) rfl)),(8,x_ j ((nd Z.ns d).aq.length) (cU.hd (hR.n.aq d d5) (i:=j) d5)),(10,r_ (cU.rd (hR.n.aq d d5) (i:=j) d5 (j:=0) rfl)),(12,w_ (.bool (decide (((en (nd Z.ns d).aq j).name:ByteArray)=name))) (qE _ _))] (NN (cP (((en (nd Z.ns d).aq j).name:ByteArray)=name) (λrS=>ax.seq (jM [0,1,2,3,4,5,6,7,8,9,10,11,12,513,514] [1] (jG 13 [34,45] [(1,a_ 0 b5),(4,a_ 0 b5),(6,x_ d Z.ns.length (aO.hd hR.n (i:=d) d5)),(8,r_ (aO.rd hR.n (i:=d) d5 (j:=9) rfl)),(10,x_ j ((nd Z.ns d).aq.length) (cU.hd (hR.n.aq d d5) (i:=j) d5)),(12,r_ (cU.rd (hR.n.aq d d5) (i:=j) d5 (j:=1) rfl))] (kL [1] [] (yO Y.A Y.c Z.ns Y.L hR.n hB.fP (by have:=hB.ns;omega) (en (nd Z.ns d).aq j).id) ?_ (by rintro _ _ ⟨rfl,rfl⟩;kernel_rfl))))) (λrS=>KX (ax.region (jK 3 [7] [(1,wJ ((j:Int)+1) (↑(j+1)))] (NL (tJ ((j+1)) [0,1] (⟨d5,λq hq=>gn⟩))))))))))))) (λIX=>XX (zR ⟨zc (Value.int .i64) (UG (λq hq=>jx q d5)),rfl⟩)))))
 rintro _ _ ⟨rfl,rfl⟩
 exact eu.last d6 (jK 1 [6] [] (NL (aF.np (NX (ax.ret (aF.fI (aF.bq (aF.bq (aF.fI (aF.bq (RT _ [0] (⟨zc (Value.int .i64) (W6 d5 rS jx),rfl⟩))))))))))))
end
section
open Go.RowKit Go.Maps bw aI
attribute [local irreducible] aE bH ax aF ct
theorem Mg (l:List Int) (x:Int):bG l++[vI x]=bG (l++[x]):=by simp [bG]
theorem iU (q:bB Int) (x:Int×Int):(q++[x]).length=q.length+1:=T3
theorem KW {q:bB Int} {x:Int×Int} {B:Option Addr} {c:Nat} {k:Int} (h:k=x.1):HP.abs (aK 3 1 B (q.length+1) c (bG (aY q)++[vI k]))=HP.abs (aK 3 1 B (q++[x]).length c (bG (aY (q++[x])))):=by
 rw [LR,←Mg,iU,h]
theorem KY {q:bB Int} {x:Int×Int} {B:Option Addr} {c:Nat} {k:Int} (h:k=x.2):HP.abs (aK 3 1 B (q.length+1) c (bG (jc q)++[vI k]))=HP.abs (aK 3 1 B (q++[x]).length c (bG (jc (q++[x])))):=by
 rw [Z6,←Mg,iU,h]
theorem lU.keep {us q:bB Int} {h v:Int} {i:Nat} {d:Bool} (hp:lU us h v i d q) (hi:i<us.length) (hk:¬h<(pr us i).1):lU us h v (i+1) d (q++[pr us i]):=by
 cases d with
 |false=>exact hp.miss hi hk
 |true=>exact hp.more hi
theorem EZ {β:Bs} (M p:Int) (A B:Option Addr) (c d:Nat) (us:bB Int) (hA:cE β A (bG (aY us))) (hl:us.length<=16777216) (h:Int) :
 aW Tryz.prog β 114 #[.agg #[vI (M),vI (p),.slice A (us.length) (c),.slice B (us.length) (d)],vI h] [] (λv l=>v=vI (tK (aY us) h)/\l=[]):=by
 refine SE Tryz.func114 Tryz.ntmps114 (λR=>SR (jB 2 [2] (λb1=>.aD b1 [vI (M),vI (p),.slice A (us.length) (c),.slice B (us.length) (d)] 43) (λb1=>NZ (jK 1 [5] [] (NN (ax.block (lJ (λ(i:Nat)=>(i<=us.length)/\(∀j,j<i->¬(aY us).getD j 0=h)) (λ(i:Nat)=>us.length-i) (λ(i:Nat)=>[(1,vI (h)),(2,vP b1),(5,vI ↑i)]) (λ(i:Nat)=>[.abs R,.aD b1 [vI (M),vI (p),.slice A (us.length) (c),.slice B (us.length) (d)] 43]) 0 [0,1] (⟨L4 _,λj hj=>KB hj (N5 j)⟩) ?_)))))))
 rintro i ⟨hi,jx⟩
 exact SQ (jK 5 [10] [(2,a_ 1 b1)] (NN (cP ((((i:Nat):Int):Int)<(((us.length:Nat):Int):Int)) (λh10=>KX (ax.seq (ax.block (SR (jK 7 [19] [(1,a_ 1 b1),(3,x_ i us.length (lT.hd hA (j:=i) (by rw [kz];omega))),(4,r_ (lT.rd hA (j:=i) (by rw [kz];omega)))] (NN (cP ((((aY us).getD i 0):Int)=(h:Int)) (λGt=>zR (v:=(vI ↑i)) ⟨by grind [W4,kz],rfl⟩) (λGt=>KX (ax.region (jK 3 [5] [(1,wJ ((i:Int)+1) (↑(i+1)))] (NL (tJ ((i+1)) [0,1] (⟨d5,λj hj=>(Pe.1 hj).elim (jx j) (λe=>e ▸ Gt)⟩))))))))))))) (λh10=>XX (zR (v:=(vI (-1))) ⟨by grind [Pg,kz],rfl⟩)))))
theorem aaf {β:Bs} (M p:Int) (A B:Option Addr) (c d:Nat) (us:bB Int) (x:Int) (hf:M<=(us.length:Int)) :
 aW Tryz.prog β 115 #[.agg #[vI (M),vI (p),.slice A (us.length) (c),.slice B (us.length) (d)],vI x] [] (λv l=>v=.tuple #[.agg #[vI (M),vI (p),.slice A (us.length) (c),.slice B (us.length) (d)],vI 0,vI 130]/\l=[]):=by
 exact SE Tryz.func115 Tryz.ntmps115 (λR=>SR (jB 1 [2] (λb2=>.aD b2 [vI (M),vI (p),.slice A (us.length) (c),.slice B (us.length) (d)] 43) (λb2=>jB 3 [4] (λb3=>.aD b3 [vI 0,vI 0,.slice none (0) (0),.slice none (0) (0)] 43) (λb3=>NZ (jK 6 [16] [(1,a_ 1 b2),(4,a_ 1 b2)] (NN (cP ((((us.length:Nat):Int):Int)>=(M:Int)) (λpz=>SR (jC 4 [5,6] [(0,A_ 1 b2 4),(1,A_ 2 b3 4)] [(2,[(0,vI (M)),(1,vI (p)),(2,.slice A (us.length) (c)),(3,.slice B (us.length) (d))])] (eS [A_ 2 b3 4] ⟨rfl,rfl⟩))) (λpz=>KB pz (by omega)))))))))
theorem ac1 {β:Bs} (M p:Int) (A B:Option Addr) (c d:Nat) (us:bB Int) (hA:cE β A (bG (aY us))) (hB:cE β B (bG (jc us))) (hl:us.length<=16777216) (hr:aI.dK (aY us)) (hp:∀z∈aY us,1<=z) (x:Int) (hf:(us.length:Int)<M) :
 aW Tryz.prog β 115 #[.agg #[vI (M),vI (p),.slice A (us.length) (c),.slice B (us.length) (d)],vI x] [] (λv l=>∃A' c' B' d',v=.tuple #[.agg #[vI (M),vI (max p ((us.length:Int)+1)),.slice A' (ins (aI.aS us) x us).length c',.slice B' (ins (aI.aS us) x us).length d'],vI (aI.aS us),vI 0]/\l=[.abs (aK 3 1 A' (ins (aI.aS us) x us).length c' (bG (aY (ins (aI.aS us) x us)))),.abs (aK 3 1 B' (ins (aI.aS us) x us).length d' (bG (jc (ins (aI.aS us) x us))))]):=by
 have hls:=UD hr hp
 have dV:=Z5 us
 refine SE Tryz.func115 Tryz.ntmps115 (λR=>SR (jB 1 [2] (λb4=>.aD b4 [vI (M),vI (p),.slice A (us.length) (c),.slice B (us.length) (d)] 43) (λb4=>jB 3 [4] (λb5=>.aD b5 [vI 0,vI 0,.slice none (0) (0),.slice none (0) (0)] 43) (λb5=>NZ (jK 6 [16] [(1,a_ 1 b4),(4,a_ 1 b4)] (NN (cP ((((us.length:Nat):Int):Int)>=(M:Int)) (λpz=>KB pz (by omega)) (λpz=>KX (SR (jK 1 [7] [] (NN (ax.seq (ax.block (lJ (λ(g:Int)=>(1<=g)/\(g<=aI.aS us)) (λ(g:Int)=>(aI.aS us+1-g).toNat) (λ(g:Int)=>[(1,vI (x)),(2,vP b4),(4,vP b5),(7,vI (g))]) (λ(g:Int)=>[.abs R,.aD b4 [vI (M),vI (p),.slice A (us.length) (c),.slice B (us.length) (d)] 43,.aD b5 [vI 0,vI 0,.slice none (0) (0),.slice none (0) (0)] 43]) 1 [0,1,2] (⟨d5,hls.1⟩) ?_))))))))))))))
 rintro g ⟨hg1,hg2⟩
 refine SQ (jK 2 [18,19] [(0,A_ 1 b4 4)] (gE [] (EZ M p A B c d us hA hl g) (jK 1 [21] [] (NN (cP (((tK (aY us) g):Int)>=(0:Int)) (λyE=>KX (ax.block (ax.region (jK 3 [7] [(1,wJ (g+1) (g+1))] (NL (aF.j5 (tJ ((g+1)) [0,1,2] (⟨d5,by grind [aY,Sk]⟩)))))))) (λyE=>XX (SR (sl 7 (vI (g)) (.int .i64 ((aI.aS us))) (abt (by rcases Int.lt_or_le g (aI.aS us) with h0|h0;exact KB (Sk.2 (hls.2.2 g d5 h0)) yE;omega)) (jN 7 [8] (λb6=>[(1,a_ 1 b4),(3,a_ 1 b4),(6,A_ 3 b6 4)]) (λ_=>[]) (λb6=>.aD b6 [vI (M),vI (p),.slice none (0) (0),.slice none (0) (0)] 43) (λb6=>NS (aE.mem (λw hS=>(hS.nW (e:=3) (size:=1)).nW (e:=3) (size:=1)) (jK 1 [9] [] (NZ (jK 1 [10] [] (NN (ax.block (lJ (λ(i,dn,q,Ah,ch,Av,cv)=>(i<=us.length)/\(lU us (aI.aS us) x i dn q)) (λ(i,dn,q,Ah,ch,Av,cv)=>us.length-i) (λ(i,dn,q,Ah,ch,Av,cv)=>[(1,vI (x)),(2,vP b4),(4,vP b5),(7,vI ((aI.aS us))),(8,vP b6),(9,.bool dn),(10,vI ↑i)]) (λ(i,dn,q,Ah,ch,Av,cv)=>[.aD b4 [vI (M),vI (p),.slice A (us.length) (c),.slice B (us.length) (d)] 43,.aD b6 [vI (M),vI (p),.slice Ah (q.length) (ch),.slice Av (q.length) (cv)] 43,.abs (aK 3 1 Ah q.length ch (bG (aY q))),.abs (aK 3 1 Av q.length cv (bG (jc q))),.aD b5 [vI 0,vI 0,.slice none (0) (0),.slice none (0) (0)] 43,.abs R]) (0,false,[],none,0,none,0) [1,3,4,5,2,0] (⟨L4 _,lU.zero⟩) ?_)))))))))))))))))
 rintro⟨i,dn,q,Ah,ch,Av,cv⟩ ⟨hi,hpt⟩
 refine SQ (jK 5 [33] [(2,a_ 0 b4)] (NN (cP ((((i:Nat):Int):Int)<(((us.length:Nat):Int):Int)) (λLF=>?_) (λLF=>?_))))
 ·refine KX (ax.seq (ax.block (ax.seq (SR ?_))))
  have hpi:=zf (us:=us) (i:=i) d5
  have wm:q.length<=i+1:=by have:=hpt.len;cases dn<;>simp at this<;>omega
  refine jK 8 [43] [(1,a_ 0 b4),(3,x_ i us.length (lT.hd hA (j:=i) (by rw [kz];omega))),(4,r_ (lT.rd hA (j:=i) (by rw [kz];omega)))] (sP 43 ((((aY us).getD i 0):Int)>((aI.aS us):Int)) (λIZ=>?_) (λIZ=>?_))
  ·refine jK 3 [46] [] (NN (ax.cond (b:=(!dn)) (λ_=>d6) (λh46=>?_) (λh46=>?_)))
   ·refine SR (jN 4 [48,50] (λb7=>[(1,a_ 1 b6)]) (λ_=>[]) (λb7=>.aD b7 [vI ((aI.aS us))] 3) (λb7=>mM 2 41 (some ⟨b7,0,none⟩) 1 1 [vI ((aI.aS us))] rfl (gi (j:=6) rfl) (λA8 c9=>aE.cT 2 rfl (KW (x:=(aI.aS us,x)) rfl) (sl 51 (.slice A8 (q.length+1) (c9)) (.slice A8 ((q++[(aI.aS us,x)]).length) (c9)) (by rw [iU q (aI.aS us,x)]) (jC 2 [] [(1,a_ 1 b6)] [(1,[(2,.slice A8 ((q++[(aI.aS us,x)]).length) (c9))])] (NS (jN 4 [54,56] (λb10=>[(1,a_ 1 b6)]) (λ_=>[]) (λb10=>.aD b10 [vI (x)] 3) (λb10=>mM 3 41 (some ⟨b10,0,none⟩) 1 1 [vI (x)] rfl (gi (j:=7) rfl) (λGN c12=>aE.cT 3 rfl (KY (x:=(aI.aS us,x)) rfl) (sl 57 (.slice GN (q.length+1) (c12)) (.slice GN ((q++[(aI.aS us,x)]).length) (c12)) (by rw [iU q (aI.aS us,x)]) (jC 2 [] [(1,a_ 1 b6)] [(1,[(3,.slice GN ((q++[(aI.aS us,x)]).length) (c12))])] (NN (ax.region (jK 1 [9] [] (NN (ax.seq (rM (List.range 11) 7 [0,1,4,5,6,7] (jR 7 [1,2,4,7,8,9,10,60,65] [(1,a_ 1 b6),(3,a_ 0 b4),(5,x_ i us.length (lT.hd hA (j:=i) (by rw [kz];omega))),(6,r_ (lT.rd hA (j:=i) (by rw [kz];omega)))] (mN [0,1,4,5,6,7] (λb13=>[(66,.slice (some ⟨b13,0,none⟩) (1) (1))]) (λ_=>[]) (λb13=>.aD b13 [vI (((aY us).getD i 0))] 3) (λb13=>ct.cut (ι:=(Option Addr)×Nat) (bQ:=λ((D1,c15):(Option Addr)×Nat)=>[(1,vI (x)),(2,vP b4),(4,vP b5),(7,vI (aI.aS us)),(8,vP b6),(9,.bool true),(10,vI ↑i),(67,.slice D1 (((q++[(aI.aS us,x)])++[(pr us i)]).length) (c15))]) (dz:=λ((D1,c15):(Option Addr)×Nat)=>[.aD b4 [vI (M),vI (p),.slice A (us.length) (c),.slice B (us.length) (d)] 43,.aD b6 [vI (M),vI (p),.slice A8 ((q++[(aI.aS us,x)]).length) (c9),.slice GN ((q++[(aI.aS us,x)]).length) (c12)] 43,.abs (aK 3 1 D1 (((q++[(aI.aS us,x)])++[(pr us i)]).length) c15 (bG (aY ((q++[(aI.aS us,x)])++[(pr us i)])))),.abs (aK 3 1 GN ((q++[(aI.aS us,x)]).length) c12 (bG (jc (q++[(aI.aS us,x)])))),.aD b5 [vI 0,vI 0,.slice none (0) (0),.slice none (0) (0)] 43,.abs R,.aD b7 [vI ((aI.aS us))] 3,.aD b10 [vI (x)] 3,.aD b13 [vI (((aY us).getD i 0))] 3]) [0,1,4,5,6,7] rfl rfl ?_ rfl (λ_=>d6) ?_)))))))))))) (n:=q.length) (hb:=by have:=wm;have:=iU q (aI.aS us,x);omega))))))) (n:=q.length) (hb:=by have:=wm;have:=iU q (aI.aS us,x);omega)))
    ·exact mM 2 41 (some ⟨b13,0,none⟩) 1 1 [vI (((aY us).getD i 0))] rfl (gi (j:=8) rfl) (λD1 c15=>aE.cT 2 rfl (KW (x:=(pr us i)) hpi.1) (sl 67 (.slice D1 (((q++[(aI.aS us,x)]).length)+1) (c15)) (.slice D1 (((q++[(aI.aS us,x)])++[(pr us i)]).length) (c15)) (by rw [iU (q++[(aI.aS us,x)]) (pr us i)]) (NL (MD (D1,c15) [1,2,4,7,8,9,10,67] [0,1,2,3,4,5,6,7,8])))) (n:=(q++[(aI.aS us,x)]).length) (hb:=by have:=wm;have:=iU q (aI.aS us,x);omega)
    rintro⟨D1,c15⟩
    refine nC [0,1,4,5,6,7] [68] [] [] (ct.last rfl rfl (jC 1 [] [(0,a_ 1 b6)] [(1,[(2,.slice D1 (((q++[(aI.aS us,x)])++[(pr us i)]).length) (c15))])] (NL (aF.np (NX (rM (List.range 11) 7 [0,1,4,5,6,7,8] (jR 7 [1,2,4,7,8,9,10,70,75] [(1,a_ 1 b6),(3,a_ 0 b4),(5,x_ i us.length (lT.hd hB (j:=i) (by rw [mE];omega))),(6,r_ (lT.rd hB (j:=i) (by rw [mE];omega)))] (mN [0,1,4,5,6,7,8] (λb16=>[(76,.slice (some ⟨b16,0,none⟩) (1) (1))]) (λ_=>[]) (λb16=>.aD b16 [vI (((jc us).getD i 0))] 3) (λb16=>ct.cut (ι:=(Option Addr)×Nat) (bQ:=λ((oP,c18):(Option Addr)×Nat)=>[(1,vI (x)),(2,vP b4),(4,vP b5),(7,vI (aI.aS us)),(8,vP b6),(9,.bool true),(10,vI ↑i),(77,.slice oP (((q++[(aI.aS us,x)])++[(pr us i)]).length) (c18))]) (dz:=λ((oP,c18):(Option Addr)×Nat)=>[.aD b4 [vI (M),vI (p),.slice A (us.length) (c),.slice B (us.length) (d)] 43,.aD b6 [vI (M),vI (p),.slice D1 (((q++[(aI.aS us,x)])++[(pr us i)]).length) (c15),.slice GN ((q++[(aI.aS us,x)]).length) (c12)] 43,.abs (aK 3 1 D1 (((q++[(aI.aS us,x)])++[(pr us i)]).length) c15 (bG (aY ((q++[(aI.aS us,x)])++[(pr us i)])))),.abs (aK 3 1 oP (((q++[(aI.aS us,x)])++[(pr us i)]).length) c18 (bG (jc ((q++[(aI.aS us,x)])++[(pr us i)])))),.aD b5 [vI 0,vI 0,.slice none (0) (0),.slice none (0) (0)] 43,.abs R,.aD b7 [vI ((aI.aS us))] 3,.aD b10 [vI (x)] 3,.aD b13 [vI (((aY us).getD i 0))] 3,.aD b16 [vI (((jc us).getD i 0))] 3]) [0,1,4,5,6,7,8] rfl rfl ?_ rfl (λ_=>d6) ?_)))))))))
    ·exact mM 3 41 (some ⟨b16,0,none⟩) 1 1 [vI (((jc us).getD i 0))] rfl (gi (j:=9) rfl) (λoP c18=>aE.cT 3 rfl (KY (x:=(pr us i)) hpi.2) (sl 77 (.slice oP (((q++[(aI.aS us,x)]).length)+1) (c18)) (.slice oP (((q++[(aI.aS us,x)])++[(pr us i)]).length) (c18)) (by rw [iU (q++[(aI.aS us,x)]) (pr us i)]) (NL (MD (oP,c18) [1,2,4,7,8,9,10,77] [0,1,2,3,4,5,6,7,8,9])))) (n:=(q++[(aI.aS us,x)]).length) (hb:=by have:=wm;have:=iU q (aI.aS us,x);omega)
    rintro⟨oP,c18⟩
    exact nC [0,1,4,5,6,7,8] [78] [] [] (ct.last rfl rfl (jC 1 [] [(0,a_ 1 b6)] [(1,[(3,.slice oP (((q++[(aI.aS us,x)])++[(pr us i)]).length) (c18))])] (NL (aF.np (BX (ax.region (jK 3 [10] [(1,wJ ((i:Int)+1) (↑(i+1)))] (NL (tJ ((i+1),true,((q++[(aI.aS us,x)])++[(pr us i)]),D1,c15,oP,c18) [0,1,2,3,4,5] (⟨d5,lU.hit ((show dn=false by simpa using h46) ▸ hpt) d5 (by rw [←hpi.1];omega)⟩))))))))))
   refine KX (ax.seq (rM (List.range 11) 7 [0,1,4,5] (jR 7 [1,2,4,7,8,9,10,60,65] [(1,a_ 1 b6),(3,a_ 0 b4),(5,x_ i us.length (lT.hd hA (j:=i) (by rw [kz];omega))),(6,r_ (lT.rd hA (j:=i) (by rw [kz];omega)))] (mN [0,1,4,5] (λb19=>[(66,.slice (some ⟨b19,0,none⟩) (1) (1))]) (λ_=>[]) (λb19=>.aD b19 [vI (((aY us).getD i 0))] 3) (λb19=>ct.cut (ι:=(Option Addr)×Nat) (bQ:=λ((nY,nZ):(Option Addr)×Nat)=>[(1,vI (x)),(2,vP b4),(4,vP b5),(7,vI (aI.aS us)),(8,vP b6),(9,.bool dn),(10,vI ↑i),(67,.slice nY ((q++[(pr us i)]).length) (nZ))]) (dz:=λ((nY,nZ):(Option Addr)×Nat)=>[.aD b4 [vI (M),vI (p),.slice A (us.length) (c),.slice B (us.length) (d)] 43,.aD b6 [vI (M),vI (p),.slice Ah (q.length) (ch),.slice Av (q.length) (cv)] 43,.abs (aK 3 1 nY ((q++[(pr us i)]).length) nZ (bG (aY (q++[(pr us i)])))),.abs (aK 3 1 Av q.length cv (bG (jc q))),.aD b5 [vI 0,vI 0,.slice none (0) (0),.slice none (0) (0)] 43,.abs R,.aD b19 [vI (((aY us).getD i 0))] 3]) [0,1,4,5] rfl rfl ?_ rfl (λ_=>d6) ?_)))))
   ·exact mM 2 41 (some ⟨b19,0,none⟩) 1 1 [vI (((aY us).getD i 0))] rfl (gi (j:=6) rfl) (λnY nZ=>aE.cT 2 rfl (KW (x:=(pr us i)) hpi.1) (sl 67 (.slice nY (q.length+1) (nZ)) (.slice nY ((q++[(pr us i)]).length) (nZ)) (by rw [iU q (pr us i)]) (NL (MD (nY,nZ) [1,2,4,7,8,9,10,67] [0,1,2,3,4,5,6])))) (n:=q.length) (hb:=by have:=wm;have:=iU q (aI.aS us,x);omega)
   rintro⟨nY,nZ⟩
   refine nC [0,1,4,5] [68] [] [] (ct.last rfl rfl (jC 1 [] [(0,a_ 1 b6)] [(1,[(2,.slice nY ((q++[(pr us i)]).length) (nZ))])] (NL (aF.np (NX (rM (List.range 11) 7 [0,1,4,5,6] (jR 7 [1,2,4,7,8,9,10,70,75] [(1,a_ 1 b6),(3,a_ 0 b4),(5,x_ i us.length (lT.hd hB (j:=i) (by rw [mE];omega))),(6,r_ (lT.rd hB (j:=i) (by rw [mE];omega)))] (mN [0,1,4,5,6] (λnO=>[(76,.slice (some ⟨nO,0,none⟩) (1) (1))]) (λ_=>[]) (λnO=>.aD nO [vI (((jc us).getD i 0))] 3) (λnO=>ct.cut (ι:=(Option Addr)×Nat) (bQ:=λ((tM,tN):(Option Addr)×Nat)=>[(1,vI (x)),(2,vP b4),(4,vP b5),(7,vI (aI.aS us)),(8,vP b6),(9,.bool dn),(10,vI ↑i),(77,.slice tM ((q++[(pr us i)]).length) (tN))]) (dz:=λ((tM,tN):(Option Addr)×Nat)=>[.aD b4 [vI (M),vI (p),.slice A (us.length) (c),.slice B (us.length) (d)] 43,.aD b6 [vI (M),vI (p),.slice nY ((q++[(pr us i)]).length) (nZ),.slice Av (q.length) (cv)] 43,.abs (aK 3 1 nY ((q++[(pr us i)]).length) nZ (bG (aY (q++[(pr us i)])))),.abs (aK 3 1 tM ((q++[(pr us i)]).length) tN (bG (jc (q++[(pr us i)])))),.aD b5 [vI 0,vI 0,.slice none (0) (0),.slice none (0) (0)] 43,.abs R,.aD b19 [vI (((aY us).getD i 0))] 3,.aD nO [vI (((jc us).getD i 0))] 3]) [0,1,4,5,6] rfl rfl ?_ rfl (λ_=>d6) ?_)))))))))
   ·exact mM 3 41 (some ⟨nO,0,none⟩) 1 1 [vI (((jc us).getD i 0))] rfl (gi (j:=7) rfl) (λtM tN=>aE.cT 3 rfl (KY (x:=(pr us i)) hpi.2) (sl 77 (.slice tM (q.length+1) (tN)) (.slice tM ((q++[(pr us i)]).length) (tN)) (by rw [iU q (pr us i)]) (NL (MD (tM,tN) [1,2,4,7,8,9,10,77] [0,1,2,3,4,5,6,7])))) (n:=q.length) (hb:=by have:=wm;have:=iU q (aI.aS us,x);omega)
   rintro⟨tM,tN⟩
   exact nC [0,1,4,5,6] [78] [] [] (ct.last rfl rfl (jC 1 [] [(0,a_ 1 b6)] [(1,[(3,.slice tM ((q++[(pr us i)]).length) (tN))])] (NL (aF.np (BX (ax.region (jK 3 [10] [(1,wJ ((i:Int)+1) (↑(i+1)))] (NL (tJ ((i+1),dn,(q++[(pr us i)]),nY,nZ,tM,tN) [0,1,2,3,4,5] (⟨d5,(show dn=true by simpa using h46) ▸ lU.more ((show dn=true by simpa using h46) ▸ hpt) d5⟩))))))))))
  refine jK 3 [46] [] (NF (KX (ax.seq (rM (List.range 11) 7 [0,1,4,5] (jR 7 [1,2,4,7,8,9,10,60,65] [(1,a_ 1 b6),(3,a_ 0 b4),(5,x_ i us.length (lT.hd hA (j:=i) (by rw [kz];omega))),(6,r_ (lT.rd hA (j:=i) (by rw [kz];omega)))] (mN [0,1,4,5] (λvQ=>[(66,.slice (some ⟨vQ,0,none⟩) (1) (1))]) (λ_=>[]) (λvQ=>.aD vQ [vI (((aY us).getD i 0))] 3) (λvQ=>ct.cut (ι:=(Option Addr)×Nat) (bQ:=λ((qf,qg):(Option Addr)×Nat)=>[(1,vI (x)),(2,vP b4),(4,vP b5),(7,vI (aI.aS us)),(8,vP b6),(9,.bool dn),(10,vI ↑i),(67,.slice qf ((q++[(pr us i)]).length) (qg))]) (dz:=λ((qf,qg):(Option Addr)×Nat)=>[.aD b4 [vI (M),vI (p),.slice A (us.length) (c),.slice B (us.length) (d)] 43,.aD b6 [vI (M),vI (p),.slice Ah (q.length) (ch),.slice Av (q.length) (cv)] 43,.abs (aK 3 1 qf ((q++[(pr us i)]).length) qg (bG (aY (q++[(pr us i)])))),.abs (aK 3 1 Av q.length cv (bG (jc q))),.aD b5 [vI 0,vI 0,.slice none (0) (0),.slice none (0) (0)] 43,.abs R,.aD vQ [vI (((aY us).getD i 0))] 3]) [0,1,4,5] rfl rfl ?_ rfl (λ_=>d6) ?_)))))))
  ·exact mM 2 41 (some ⟨vQ,0,none⟩) 1 1 [vI (((aY us).getD i 0))] rfl (gi (j:=6) rfl) (λqf qg=>aE.cT 2 rfl (KW (x:=(pr us i)) hpi.1) (sl 67 (.slice qf (q.length+1) (qg)) (.slice qf ((q++[(pr us i)]).length) (qg)) (by rw [iU q (pr us i)]) (NL (MD (qf,qg) [1,2,4,7,8,9,10,67] [0,1,2,3,4,5,6])))) (n:=q.length) (hb:=by have:=wm;have:=iU q (aI.aS us,x);omega)
  rintro⟨qf,qg⟩
  refine nC [0,1,4,5] [68] [] [] (ct.last rfl rfl (jC 1 [] [(0,a_ 1 b6)] [(1,[(2,.slice qf ((q++[(pr us i)]).length) (qg))])] (NL (aF.np (NX (rM (List.range 11) 7 [0,1,4,5,6] (jR 7 [1,2,4,7,8,9,10,70,75] [(1,a_ 1 b6),(3,a_ 0 b4),(5,x_ i us.length (lT.hd hB (j:=i) (by rw [mE];omega))),(6,r_ (lT.rd hB (j:=i) (by rw [mE];omega)))] (mN [0,1,4,5,6] (λnH=>[(76,.slice (some ⟨nH,0,none⟩) (1) (1))]) (λ_=>[]) (λnH=>.aD nH [vI (((jc us).getD i 0))] 3) (λnH=>ct.cut (ι:=(Option Addr)×Nat) (bQ:=λ((Ak,Al):(Option Addr)×Nat)=>[(1,vI (x)),(2,vP b4),(4,vP b5),(7,vI (aI.aS us)),(8,vP b6),(9,.bool dn),(10,vI ↑i),(77,.slice Ak ((q++[(pr us i)]).length) (Al))]) (dz:=λ((Ak,Al):(Option Addr)×Nat)=>[.aD b4 [vI (M),vI (p),.slice A (us.length) (c),.slice B (us.length) (d)] 43,.aD b6 [vI (M),vI (p),.slice qf ((q++[(pr us i)]).length) (qg),.slice Av (q.length) (cv)] 43,.abs (aK 3 1 qf ((q++[(pr us i)]).length) qg (bG (aY (q++[(pr us i)])))),.abs (aK 3 1 Ak ((q++[(pr us i)]).length) Al (bG (jc (q++[(pr us i)])))),.aD b5 [vI 0,vI 0,.slice none (0) (0),.slice none (0) (0)] 43,.abs R,.aD vQ [vI (((aY us).getD i 0))] 3,.aD nH [vI (((jc us).getD i 0))] 3]) [0,1,4,5,6] rfl rfl ?_ rfl (λ_=>d6) ?_)))))))))
  ·exact mM 3 41 (some ⟨nH,0,none⟩) 1 1 [vI (((jc us).getD i 0))] rfl (gi (j:=7) rfl) (λAk Al=>aE.cT 3 rfl (KY (x:=(pr us i)) hpi.2) (sl 77 (.slice Ak (q.length+1) (Al)) (.slice Ak ((q++[(pr us i)]).length) (Al)) (by rw [iU q (pr us i)]) (NL (MD (Ak,Al) [1,2,4,7,8,9,10,77] [0,1,2,3,4,5,6,7])))) (n:=q.length) (hb:=by have:=wm;have:=iU q (aI.aS us,x);omega)
  rintro⟨Ak,Al⟩
  exact nC [0,1,4,5,6] [78] [] [] (ct.last rfl rfl (jC 1 [] [(0,a_ 1 b6)] [(1,[(3,.slice Ak ((q++[(pr us i)]).length) (Al))])] (NL (aF.np (BX (ax.region (jK 3 [10] [(1,wJ ((i:Int)+1) (↑(i+1)))] (NL (tJ ((i+1),dn,(q++[(pr us i)]),qf,qg,Ak,Al) [0,1,2,3,4,5] (⟨d5,hpt.keep d5 (by rw [←hpi.1];omega)⟩))))))))))
 refine XX (ax.seq (SR ?_))
 have hiu:i=us.length:=d5
 subst hiu
 have wm:q.length<=us.length+1:=by have:=hpt.len;cases dn<;>simp at this<;>omega
 refine jK 2 [80] [] (NN (ax.cond (b:=(!dn)) (λ_=>d6) (λXa=>?_) (λXa=>?_)))
 ·refine SR (jN 4 [82,84] (λtO=>[(1,a_ 1 b6)]) (λ_=>[]) (λtO=>.aD tO [vI ((aI.aS us))] 3) (λtO=>mM 2 41 (some ⟨tO,0,none⟩) 1 1 [vI ((aI.aS us))] rfl (gi (j:=6) rfl) (λJI JJ=>aE.cT 2 rfl (KW (x:=(aI.aS us,x)) rfl) (sl 85 (.slice JI (q.length+1) (JJ)) (.slice JI ((q++[(aI.aS us,x)]).length) (JJ)) (by rw [iU q (aI.aS us,x)]) (jC 2 [] [(1,a_ 1 b6)] [(1,[(2,.slice JI ((q++[(aI.aS us,x)]).length) (JJ))])] (NN (ax.region (jN 4 [88,90] (λvw=>[(1,a_ 1 b6)]) (λ_=>[]) (λvw=>.aD vw [vI (x)] 3) (λvw=>mM 3 41 (some ⟨vw,0,none⟩) 1 1 [vI (x)] rfl (gi (j:=7) rfl) (λJK JL=>aE.cT 3 rfl (KY (x:=(aI.aS us,x)) rfl) (sl 91 (.slice JK (q.length+1) (JL)) (.slice JK ((q++[(aI.aS us,x)]).length) (JL)) (by rw [iU q (aI.aS us,x)]) (jC 2 [] [(1,a_ 1 b6)] [(1,[(3,.slice JK ((q++[(aI.aS us,x)]).length) (JL))])] (NZ (jK 6 [98] [(1,a_ 1 b6),(4,a_ 1 b6)] (NN (cP (((((q++[(aI.aS us,x)]).length:Nat):Int):Int)>(p:Int)) (λXb=>?_) (λXb=>?_)))))))) (n:=q.length) (hb:=by have:=wm;have:=iU q (aI.aS us,x);omega)))))))) (n:=q.length) (hb:=by have:=wm;have:=iU q (aI.aS us,x);omega)))
  ·refine ax.region (jC 5 [] [(1,a_ 1 b6),(4,a_ 1 b6)] [(1,[(1,vI ↑((q++[(aI.aS us,x)]).length))])] (NS (jC 5 [5,6] [(0,A_ 1 b6 4),(2,A_ 4 b5 4)] [(4,[(0,vI (M)),(1,vI ↑((q++[(aI.aS us,x)]).length)),(2,.slice JI ((q++[(aI.aS us,x)]).length) (JJ)),(3,.slice JK ((q++[(aI.aS us,x)]).length) (JL))])] (NN (ax.ret ?_)))))
   have hq:(q++[(aI.aS us,x)])=ins (aI.aS us) x us:=lU.last ((show dn=false by simpa using Xa) ▸ hpt)
   have hql:((q++[(aI.aS us,x)])).length=us.length+1:=by rw [hq,kK]
   skip
   exact rT (.tuple #[.agg #[vI (M),vI ↑((q++[(aI.aS us,x)]).length),.slice JI ((q++[(aI.aS us,x)]).length) (JJ),.slice JK ((q++[(aI.aS us,x)]).length) (JL)],vI ((aI.aS us)),vI 0]) [A_ 4 b5 4] [2,3,5] (⟨JI,JJ,JK,JL,gn,by rw [←hq]⟩)
  refine KX (SR (jC 5 [5,6] [(0,A_ 1 b6 4),(2,A_ 4 b5 4)] [(4,[(0,vI (M)),(1,vI (p)),(2,.slice JI ((q++[(aI.aS us,x)]).length) (JJ)),(3,.slice JK ((q++[(aI.aS us,x)]).length) (JL))])] (NN (ax.ret ?_))))
  have hq:(q++[(aI.aS us,x)])=ins (aI.aS us) x us:=lU.last ((show dn=false by simpa using Xa) ▸ hpt)
  have hql:((q++[(aI.aS us,x)])).length=us.length+1:=by rw [hq,kK]
  skip
  exact rT (.tuple #[.agg #[vI (M),vI (p),.slice JI ((q++[(aI.aS us,x)]).length) (JJ),.slice JK ((q++[(aI.aS us,x)]).length) (JL)],vI ((aI.aS us)),vI 0]) [A_ 4 b5 4] [2,3,5] (⟨JI,JJ,JK,JL,gn,by rw [←hq]⟩)
 refine KX (SQ (jK 6 [98] [(1,a_ 1 b6),(4,a_ 1 b6)] (NN (cP ((((q.length:Nat):Int):Int)>(p:Int)) (λXb=>?_) (λXb=>?_)))))
 ·refine ax.region (jC 5 [] [(1,a_ 1 b6),(4,a_ 1 b6)] [(1,[(1,vI ↑q.length)])] (NS (jC 5 [5,6] [(0,A_ 1 b6 4),(2,A_ 4 b5 4)] [(4,[(0,vI (M)),(1,vI ↑q.length),(2,.slice Ah (q.length) (ch)),(3,.slice Av (q.length) (cv))])] (NN (ax.ret ?_)))))
  have hq:q=ins (aI.aS us) x us:=lU.end_ ((show dn=true by simpa using Xa) ▸ hpt)
  have hql:(q).length=us.length+1:=by rw [hq,kK]
  skip
  exact rT (.tuple #[.agg #[vI (M),vI ↑q.length,.slice Ah (q.length) (ch),.slice Av (q.length) (cv)],vI ((aI.aS us)),vI 0]) [A_ 4 b5 4] [2,3,5] (⟨Ah,ch,Av,cv,gn,by rw [←hq]⟩)
 refine KX (SR (jC 5 [5,6] [(0,A_ 1 b6 4),(2,A_ 4 b5 4)] [(4,[(0,vI (M)),(1,vI (p)),(2,.slice Ah (q.length) (ch)),(3,.slice Av (q.length) (cv))])] (NN (ax.ret ?_))))
 have hq:q=ins (aI.aS us) x us:=lU.end_ ((show dn=true by simpa using Xa) ▸ hpt)
 have hql:(q).length=us.length+1:=by rw [hq,kK]
 skip
 exact rT (.tuple #[.agg #[vI (M),vI (p),.slice Ah (q.length) (ch),.slice Av (q.length) (cv)],vI ((aI.aS us)),vI 0]) [A_ 4 b5 4] [2,3,5] (⟨Ah,ch,Av,cv,gn,by rw [←hq]⟩)
theorem aag {β:Bs} (M p:Int) (A B:Option Addr) (c d:Nat) (us:bB Int) (hA:cE β A (bG (aY us))) (hB:cE β B (bG (jc us))) (hl:us.length<=16777216) (h:Int) (hr:aI.dK (aY us)) (k:Nat) (hk:k<us.length) (fO:tK (aY us) h=(k:Int)) (hx:(aY us).getD k 0=h) :
 aW Tryz.prog β 96 #[.agg #[vI (M),vI (p),.slice A (us.length) (c),.slice B (us.length) (d)],vI h] [] (λv l=>∃A' c' B' d',v=.tuple #[.agg #[vI (M),vI (p),.slice A' (del h us).length c',.slice B' (del h us).length d'],vI ((jc us).getD k 0),vI 0]/\l=[.abs (aK 3 1 A' (del h us).length c' (bG (aY (del h us)))),.abs (aK 3 1 B' (del h us).length d' (bG (jc (del h us))))]):=by
 have hkp:=zf hk
 refine SE Tryz.func96 Tryz.ntmps96 (λR=>SR (jB 1 [2] (λAm=>.aD Am [vI (M),vI (p),.slice A (us.length) (c),.slice B (us.length) (d)] 43) (λAm=>jB 3 [4] (λAp=>.aD Ap [vI 0,vI 0,.slice none (0) (0),.slice none (0) (0)] 43) (λAp=>NS (jK 2 [10,11] [(0,A_ 1 Am 4)] (gE [] (EZ M p A B c d us hA hl h) (sl 12 (vI ((tK (aY us) h))) (.int .i64 ↑k) (abt fO) (jK 1 [7] [] (NZ (jK 2 [14] [(1,wF (((k:Int):Int)<(0:Int)))] (NF (KX (SR (jN 7 [8] (λAr=>[(1,a_ 1 Am),(3,a_ 1 Am),(6,A_ 3 Ar 4)]) (λ_=>[]) (λAr=>.aD Ar [vI (M),vI (p),.slice none (0) (0),.slice none (0) (0)] 43) (λAr=>NZ (aE.mem (λw hS=>(hS.nW (e:=3) (size:=1)).nW (e:=3) (size:=1)) (jK 1 [9] [] (NN (ax.block (lJ (λ(i,q,Ah,ch,Av,cv)=>(i<=us.length)/\(q=del h (us.take i))/\(q.length<=i)) (λ(i,q,Ah,ch,Av,cv)=>us.length-i) (λ(i,q,Ah,ch,Av,cv)=>[(2,vP Am),(4,vP Ap),(7,vI ↑k),(8,vP Ar),(9,vI ↑i)]) (λ(i,q,Ah,ch,Av,cv)=>[.aD Am [vI (M),vI (p),.slice A (us.length) (c),.slice B (us.length) (d)] 43,.aD Ar [vI (M),vI (p),.slice Ah (q.length) (ch),.slice Av (q.length) (cv)] 43,.abs (aK 3 1 Ah q.length ch (bG (aY q))),.abs (aK 3 1 Av q.length cv (bG (jc q))),.aD Ap [vI 0,vI 0,.slice none (0) (0),.slice none (0) (0)] 43,.abs R]) (0,[],none,0,none,0) [1,3,4,5,2,0] (⟨L4 _,by rw [List.take_zero];rfl,N6 _⟩) ?_))))))))))))))))))))
 rintro⟨i,q,Ah,ch,Av,cv⟩ ⟨hi,hq,wm⟩
 refine SQ (jK 5 [25] [(2,a_ 0 Am)] (NN (cP ((((i:Nat):Int):Int)<(((us.length:Nat):Int):Int)) (λqH=>?_) (λqH=>?_))))
 ·refine KX (ax.seq (ax.block (SR ?_)))
  have hpi:=zf (us:=us) (i:=i) d5
  refine jK 3 [30] [] (NN (cN ((((i:Nat):Int):Int)=(((k:Nat):Int):Int)) (λrA=>ax.seq (rM (List.range 11) 7 [0,1,4,5] (jR 7 [2,4,7,8,9,32,37] [(1,a_ 1 Ar),(3,a_ 0 Am),(5,x_ i us.length (lT.hd hA (j:=i) (by rw [kz];omega))),(6,r_ (lT.rd hA (j:=i) (by rw [kz];omega)))] (mN [0,1,4,5] (λPo=>[(38,.slice (some ⟨Po,0,none⟩) (1) (1))]) (λ_=>[]) (λPo=>.aD Po [vI (((aY us).getD i 0))] 3) (λPo=>ct.cut (ι:=(Option Addr)×Nat) (bQ:=λ((D2,D3):(Option Addr)×Nat)=>[(2,vP Am),(4,vP Ap),(7,vI ↑k),(8,vP Ar),(9,vI ↑i),(39,.slice D2 ((q++[(pr us i)]).length) (D3))]) (dz:=λ((D2,D3):(Option Addr)×Nat)=>[.aD Am [vI (M),vI (p),.slice A (us.length) (c),.slice B (us.length) (d)] 43,.aD Ar [vI (M),vI (p),.slice Ah (q.length) (ch),.slice Av (q.length) (cv)] 43,.abs (aK 3 1 D2 ((q++[(pr us i)]).length) D3 (bG (aY (q++[(pr us i)])))),.abs (aK 3 1 Av q.length cv (bG (jc q))),.aD Ap [vI 0,vI 0,.slice none (0) (0),.slice none (0) (0)] 43,.abs R,.aD Po [vI (((aY us).getD i 0))] 3]) [0,1,4,5] rfl rfl ?_ rfl (λ_=>d6) ?_))))) (λrA=>KX (ax.region (jK 3 [9] [(1,wJ ((i:Int)+1) (↑(i+1)))] (NL (tJ ((i+1),q,Ah,ch,Av,cv) [0,1,2,3,4,5] (⟨d5,by grind [Pk],gn⟩))))))))
  ·exact mM 2 41 (some ⟨Po,0,none⟩) 1 1 [vI (((aY us).getD i 0))] rfl (gi (j:=6) rfl) (λD2 D3=>aE.cT 2 rfl (KW (x:=(pr us i)) hpi.1) (sl 39 (.slice D2 (q.length+1) (D3)) (.slice D2 ((q++[(pr us i)]).length) (D3)) (by rw [iU q (pr us i)]) (NL (MD (D2,D3) [2,4,7,8,9,39] [0,1,2,3,4,5,6])))) (n:=q.length) (hb:=by have:=wm;have:=wm;omega)
  rintro⟨D2,D3⟩
  refine nC [0,1,4,5] [40] [] [] (ct.last rfl rfl (jC 1 [] [(0,a_ 1 Ar)] [(1,[(2,.slice D2 ((q++[(pr us i)]).length) (D3))])] (NL (aF.np (NX (rM (List.range 11) 7 [0,1,4,5,6] (jR 7 [2,4,7,8,9,42,47] [(1,a_ 1 Ar),(3,a_ 0 Am),(5,x_ i us.length (lT.hd hB (j:=i) (by rw [mE];omega))),(6,r_ (lT.rd hB (j:=i) (by rw [mE];omega)))] (mN [0,1,4,5,6] (λSl=>[(48,.slice (some ⟨Sl,0,none⟩) (1) (1))]) (λ_=>[]) (λSl=>.aD Sl [vI (((jc us).getD i 0))] 3) (λSl=>ct.cut (ι:=(Option Addr)×Nat) (bQ:=λ((GP,GQ):(Option Addr)×Nat)=>[(2,vP Am),(4,vP Ap),(7,vI ↑k),(8,vP Ar),(9,vI ↑i),(49,.slice GP ((q++[(pr us i)]).length) (GQ))]) (dz:=λ((GP,GQ):(Option Addr)×Nat)=>[.aD Am [vI (M),vI (p),.slice A (us.length) (c),.slice B (us.length) (d)] 43,.aD Ar [vI (M),vI (p),.slice D2 ((q++[(pr us i)]).length) (D3),.slice Av (q.length) (cv)] 43,.abs (aK 3 1 D2 ((q++[(pr us i)]).length) D3 (bG (aY (q++[(pr us i)])))),.abs (aK 3 1 GP ((q++[(pr us i)]).length) GQ (bG (jc (q++[(pr us i)])))),.aD Ap [vI 0,vI 0,.slice none (0) (0),.slice none (0) (0)] 43,.abs R,.aD Po [vI (((aY us).getD i 0))] 3,.aD Sl [vI (((jc us).getD i 0))] 3]) [0,1,4,5,6] rfl rfl ?_ rfl (λ_=>d6) ?_)))))))))
  ·exact mM 3 41 (some ⟨Sl,0,none⟩) 1 1 [vI (((jc us).getD i 0))] rfl (gi (j:=7) rfl) (λGP GQ=>aE.cT 3 rfl (KY (x:=(pr us i)) hpi.2) (sl 49 (.slice GP (q.length+1) (GQ)) (.slice GP ((q++[(pr us i)]).length) (GQ)) (by rw [iU q (pr us i)]) (NL (MD (GP,GQ) [2,4,7,8,9,49] [0,1,2,3,4,5,6,7])))) (n:=q.length) (hb:=by have:=wm;have:=wm;omega)
  rintro⟨GP,GQ⟩
  exact nC [0,1,4,5,6] [50] [] [] (ct.last rfl rfl (jC 1 [] [(0,a_ 1 Ar)] [(1,[(3,.slice GP ((q++[(pr us i)]).length) (GQ))])] (NL (aF.np (BX (ax.region (jK 3 [9] [(1,wJ ((i:Int)+1) (↑(i+1)))] (NL (tJ ((i+1),(q++[(pr us i)]),D2,D3,GP,GQ) [0,1,2,3,4,5] (⟨d5,(by grind [Pk,JG]),gn⟩))))))))))
 refine XX (ax.seq (rM (List.range 9) 6 [0,1] (jR 6 [4,51,56] [(0,A_ 1 Ar 4),(2,a_ 0 Am),(4,x_ k us.length (lT.hd hB (j:=k) (by rw [mE];omega))),(5,r_ (lT.rd hB (j:=k) (by rw [mE];omega)))] (nC [0,1] [] [(0,A_ 4 Ap 4)] [(4,[(0,vI (M)),(1,vI (p)),(2,.slice Ah (q.length) (ch)),(3,.slice Av (q.length) (cv))])] (nC [0,1] [5] [] [] (ct.last rfl rfl (jK 1 [6] [] (NL (aF.np (NX (ax.ret ?_)))))))))))
 have CJ:q=del h us:=gn
 exact rT _ [A_ 4 Ap 4] [2,3,5] (⟨Ah,ch,Av,cv,by rw [←CJ],by rw [←CJ]⟩)
theorem UI {β:Bs} (M p:Int) (A B:Option Addr) (c d:Nat) (us:bB Int) (hA:cE β A (bG (aY us))) (hl:us.length<=16777216) (h:Int) (fO:tK (aY us) h = -1) :
 aW Tryz.prog β 96 #[.agg #[vI (M),vI (p),.slice A (us.length) (c),.slice B (us.length) (d)],vI h] [] (λv l=>v=.tuple #[.agg #[vI (M),vI (p),.slice A (us.length) (c),.slice B (us.length) (d)],vI 0,vI 131]/\l=[]):=by
 exact SE Tryz.func96 Tryz.ntmps96 (λR=>SR (jB 1 [2] (λtP=>.aD tP [vI (M),vI (p),.slice A (us.length) (c),.slice B (us.length) (d)] 43) (λtP=>jB 3 [4] (λx9=>.aD x9 [vI 0,vI 0,.slice none (0) (0),.slice none (0) (0)] 43) (λx9=>NS (jK 2 [10,11] [(0,A_ 1 tP 4)] (gE [] (EZ M p A B c d us hA hl h) (jK 1 [7] [] (NZ (jK 2 [14] [] (NN (cP (((tK (aY us) h):Int)<(0:Int)) (λmQ=>SR (jC 4 [5,6] [(0,A_ 1 tP 4),(1,A_ 2 x9 4)] [(2,[(0,vI (M)),(1,vI (p)),(2,.slice A (us.length) (c)),(3,.slice B (us.length) (d))])] (eS [A_ 2 x9 4] ⟨rfl,rfl⟩))) (λmQ=>KB mQ (by omega)))))))))))))
end
section
open Go.RowKit Go.Maps bw aI
section p
variable {R:RS} {h fD e id:Int} {name:ByteArray} {d k to:Nat} {c:aN} {n:aP}
def exV:Except Int Nat->Value
 |.error e=>.tuple #[.int .i64 0,.int .i64 e]
 |.ok k=>.tuple #[.int .i64 k,.int .i64 0]
theorem Xc {us:bB Int} (hr:aI.dK (aY us)) {h:Int} (hm:h∈aY us):∃k:Nat,tK (aY us) h=(k:Int)/\k<us.length/\(aY us).getD k 0=h/\aI.get us h=some ((jc us).getD k 0):=by
 grind [Si,kz,zf,aek]
theorem KZ (hm:h∉aY R.us):tK (aY R.us) h = -1/\oW R h=.error 131:=⟨Sj hm,by unfold oW;rw [get_none.2 hm]⟩
theorem Sm (hC:RC R) (hm:h∈aY R.us):∃k:Nat,tK (aY R.us) h=(k:Int)/\k<R.us.length/\oW R h=.ok (bV R.ns ((jc R.us).getD k 0))/\gF R.ns ((jc R.us).getD k 0)=(bV R.ns ((jc R.us).getD k 0):Int):=by
 obtain⟨k,h1,h2,h3,h4⟩:=Xc hC.usr hm
 exact⟨k,h1,h2,by unfold oW;rw [h4],(mR (hC.hand _ (BF (by rw [mE];exact h2)))).2.2⟩
theorem JM (hC:RC R) (h:Int):oW R h=.error 131\/∃k,oW R h=.ok k/\k<R.ns.length:=by
 by_cases hm:h∈aY R.us
 ·obtain⟨k,_,h2,h3,_⟩:=Sm hC hm
  exact .inr ⟨_,h3,(mR (hC.hand _ (BF (by rw [mE];exact h2)))).1⟩
 exact .inl (KZ hm).2
theorem Xd (hh:oW R h=.error e):lM R h name fD=.error e:=by unfold lM;rw [hh]
theorem Sn (hh:oW R h=.ok d) (hk:¬(nd R.ns d).kind=2):lM R h name fD=.error 173:=by unfold lM;rw [hh];exact nw hk
theorem Pp (hh:oW R h=.ok d) (hk:(nd R.ns d).kind=2) (hg:(nd R.ns d).id∈R.aJ):lM R h name fD=.error 170:=by unfold lM;rw [hh];exact (t8 hk).trans (t8 hg)
theorem Pq (hh:oW R h=.ok d) (hk:(nd R.ns d).kind=2) (hg:¬(nd R.ns d).id∈R.aJ) (hn:¬bU name):lM R h name fD=.error 95:=by unfold lM;rw [hh];exact (t8 hk).trans ((nw hg).trans (nw hn))
theorem Pr (hh:oW R h=.ok d) (hk:(nd R.ns d).kind=2) (hg:¬(nd R.ns d).id∈R.aJ) (hn:bU name) (hb:¬bits BinOp.and .i64 (nd R.ns d).mode fD=fD):lM R h name fD=.error 175:=by unfold lM;rw [hh];exact (t8 hk).trans ((nw hg).trans ((t8 hn).trans (nw hb)))
theorem Xe (hh:oW R h=.ok d) (hk:(nd R.ns d).kind=2) (hg:¬(nd R.ns d).id∈R.aJ) (hn:bU name) (hb:bits BinOp.and .i64 (nd R.ns d).mode fD=fD):lM R h name fD=.ok d:=by unfold lM;rw [hh];exact (t8 hk).trans ((nw hg).trans ((t8 hn).trans (t8 hb)))
theorem Mh (hC:RC R) (h:Int) (name:ByteArray) (fD:Int):(∃e,lM R h name fD=.error e/\¬e=0)\/∃d,lM R h name fD=.ok d/\d<R.ns.length:=by
 rcases JM hC h with hh|⟨k,hh,hk⟩
 all_goals grind [Xd,nd,Pp,bU,Xe,Pr,Pq,Sn]
theorem nV (ns:List aP) (d:Nat) (name:ByteArray):cL ns d name = -1\/∃k:Nat,cL ns d name=(k:Int)/\k<ns.length:=by
 unfold cL
 split
 ·exact .inl rfl
 rename_i j _
 by_cases h:0<=gF ns (en (nd ns d).aq j).id
 ·exact .inr ⟨_,(mR h).2.2,(mR h).1⟩
 exact .inl (Cv h)
theorem aah (h:¬(R.ns.length:Int)<R.cN):false=decide (vO R):=(Lk (λq=>h q.1)).symm
theorem aai (h:¬R.last<1099511627776):false=decide (vO R):=(Lk (λq=>h q.2.1)).symm
theorem aen (h:(R.ns.length:Int)<R.cN) (h2:R.last<1099511627776):decide ((dY R.ns R.ns.length:Int)<8192)=decide (vO R):=T8.2 ⟨λq=>⟨h,h2,q⟩,λq=>q.2.2⟩
theorem aeo (h:¬0<=id):false=decide (mT id):=(Lk (λq=>h q.1)).symm
theorem af0 (h:0<=id):decide (id<=4095)=decide (mT id):=T8.2 ⟨λq=>⟨h,q⟩,λq=>q.2⟩
theorem aaj (h:name=⟨#[]⟩):90=lF name:=by unfold lF;rw [t8 h]
theorem Xf (h:¬name=⟨#[]⟩) (h2:4096<(name.size:Int)):93=lF name:=by unfold lF;rw [nw h,t8 d5]
theorem Xg (h:¬name=⟨#[]⟩) (h2:¬4096<(name.size:Int)) (h3:∀q,q<name.size->¬dR name q=0):0=lF name:=by unfold lF;rw [nw h,nw d5,t8 (show qz name from h3)]
theorem aak (h:¬name=⟨#[]⟩) (h2:¬4096<(name.size:Int)) {q:Nat} (hq:q<name.size) (h3:dR name q=0):91=lF name:=by unfold lF;rw [nw h,nw d5,nw (λg=>g q hq h3)]
end p
end
section
open Go.RowKit Go.Maps bw aI
attribute [local irreducible] aE bH ax aF
noncomputable abbrev zQ1 (dc)(top)(b5:Nat) (st):=([(1,vI ↑dc),(2,vI ↑top),(3,vP b5),(7,vI ↑st)]:Fr)
theorem aal {β:Bs} (Z:RS) (Y:RL) (hR:dP β Z Y) (hB:RB Z) :
 aW Tryz.prog β 129 #[.agg ⟨rV Z Y⟩] [] (λv l=>v=.bool (decide (vO Z))/\l=[]):=by
 exact SE Tryz.func129 Tryz.ntmps129 (λR=>SR (jB 2 [1] (λb1=>.aD b1 (rV Z Y) 45) (λb1=>NS (jK 9 [11] [(2,a_ 1 b1),(6,a_ 1 b1)] (sP 11 ((((Z.ns.length:Nat):Int):Int)<(Z.cN:Int)) (λh11=>jK 5 [16] [(1,a_ 1 b1)] (sP 16 ((Z.last:Int)<(1099511627776:Int)) (λpz=>jK 1 [17] [(0,A_ 1 b1 12)] (gE [] (aae Z Y hR hB) (jK 3 [2] [] (eN ⟨zc Value.bool (aen h11 pz),rfl⟩)))) (λpz=>jK 5 [2] [] (eN ⟨zc Value.bool (aai pz),rfl⟩)))) (λh11=>jK 10 [2] [] (eN ⟨zc Value.bool (aah h11),rfl⟩)))))))
theorem Pt {β:Bs} (Z:RS) (Y:RL) (hR:dP β Z Y) (hC:RC Z) (hx:Int) :
 aW Tryz.prog β 85 #[.agg ⟨rV Z Y⟩,vI (hx)] [] (λv l=>v=exV (oW Z hx)/\l=[]):=by
 refine SE Tryz.func85 Tryz.ntmps85 (λR=>SR (jB 3 [2] (λb2=>.aD b2 (rV Z Y) 45) (λb2=>NN (ax.seq ?_))))
 by_cases hm:hx∈aY Z.us
 ·obtain⟨k,fO,hk,hh,hat⟩:=Sm hC hm
  exact ax.region (jK 3 [8,9] [(1,A_ 1 b2 4)] (gE [] ((EZ Z.cH Z.aL Y.H Y.V Y.ch Y.cv Z.us hR.h (by have:=hC.us;omega) hx).val (zc (Value.int .i64) fO)) (jK 1 [6] [] (NZ (jK 2 [12] [(1,wF (((k:Int):Int)<(0:Int)))] (NF (KX (ax.seq (rQ (jQ 8 [14,20] [(1,a_ 1 b2),(4,a_ 1 b2),(6,x_ k Z.us.length (xu.hd (l:=(jc Z.us)) hR.v (j:=k) (by grind [kz,mE]))),(7,r_ (xu.rd (l:=(jc Z.us)) hR.v (j:=k) (by grind [kz,mE])))] (zy [] [0,1] (.int .i64 ↑(bV Z.ns ((jc Z.us).getD k 0))) ((yO Y.A Y.c Z.ns Y.L hR.n hC.fP (by have:=hC.ns;omega) ((jc Z.us).getD k 0)).val (zc (Value.int .i64) hat)) (jQ 2 [4,5] [] (NQ (NX (ax.ret (RT _ [0] (⟨(zc exV hh).symm,rfl⟩)))))))))))))))))
 obtain⟨fO,hh⟩:=KZ hm
 exact ax.region (jK 3 [8,9] [(1,A_ 1 b2 4)] (gE [] ((EZ Z.cH Z.aL Y.H Y.V Y.ch Y.cv Z.us hR.h (by have:=hC.us;omega) hx).val (zc (Value.int .i64) fO)) (jK 1 [6] [] (NZ (jK 2 [12] [] (NT (zR ⟨(zc exV hh).symm,rfl⟩)))))))
theorem BI {β:Bs} (Z:RS) (Y:RL) (hR:dP β Z Y) (hC:RC Z) (hx:Int) (name:ByteArray) (hn:name.size<=1048576) (fD:Int) :
 aW Tryz.prog β 86 #[.agg ⟨rV Z Y⟩,vI (hx),.string name,vI (fD)] [] (λv l=>v=exV (lM Z hx name fD)/\l=[]):=by
 refine SE Tryz.func86 Tryz.ntmps86 (λR=>SR (jB 3 [4] (λb3=>.aD b3 (rV Z Y) 45) (λb3=>NS (jK 2 [14,15] [(0,A_ 1 b3 12)] ?_))))
 rcases JM hC hx with hh|⟨d,hh,hd⟩
 ·exact gE [] ((Pt Z Y hR hC hx).val (zc exV hh)) (jK 5 [10,11] [] (NZ (jK 2 [20] [] (NT (zR ⟨(zc exV (Xd hh)).symm,rfl⟩)))))
 exact gE [] ((Pt Z Y hR hC hx).val (zc exV hh)) (jK 5 [10,11] [] (NZ (jK 2 [20] [] (NF (KX (SR (jN 8 [12] (λb4=>[(2,a_ 1 b3),(4,x_ d Z.ns.length (aO.hd hR.n (i:=d) d5)),(5,Eh (iL Y.L d (nd Z.ns d)) (λ_ _ h=>aO.rd hR.n d5 h)),(7,A_ 2 b4 10)]) (λ_=>[]) (λb4=>.aD b4 (iL Y.L d (nd Z.ns d)) 102) (λb4=>NZ (jK 3 [30] [(1,a_ 2 b4)] (NN (cN (((nd Z.ns d).kind:Int)=(2:Int)) (λrA=>zR ⟨(zc exV (Sn hh rA)).symm,rfl⟩) (λrA=>KX (SQ (jK 3 [31,33] [(0,A_ 1 b3 12),(2,a_ 2 b4)] (gE [] (Aj Z Y hR hC.toRB (nd Z.ns d).id) (NN (cP ((nd Z.ns d).id∈Z.aJ) (λxG=>zR ⟨(zc exV (Pp hh rA xG)).symm,rfl⟩) (λxG=>KX (SQ (jK 1 [35] [] (gE [] (Db name hn) (jK 1 [37] [] (NN (cN (bU name) (λyC=>zR ⟨(zc exV (Pq hh rA xG yC)).symm,rfl⟩) (λyC=>KX (SQ (jK 6 [43] [(1,a_ 2 b4)] (NN (cN ((bits BinOp.and .i64 ((nd Z.ns d).mode) fD:Int)=(fD:Int)) (λIZ=>zR ⟨(zc exV (Pr hh rA xG yC IZ)).symm,rfl⟩) (λIZ=>KX (zR ⟨(zc exV (Xe hh rA xG yC IZ)).symm,rfl⟩)))))))))))))))))))))))))))))))
theorem aam {β:Bs} (name:ByteArray) (hn:name.size<=1048576) :
 aW Tryz.prog β 128 #[.string name] [] (λv l=>v=vI (lF name)/\l=[]):=by
 refine SE Tryz.func128 Tryz.ntmps128 (λR=>SR (jK 1 [] [] (NZ (jK 2 [5] [(1,w_ (.bool (decide ((name:ByteArray)=⟨#[]⟩))) (qE _ _))] (NN (cP ((name:ByteArray)=⟨#[]⟩) (λh5=>zR ⟨zc (Value.int .i64) (aaj h5),rfl⟩) (λh5=>KX (SQ (jK 3 [8] [] (NN (cP (((((name:ByteArray).size:Nat):Int):Int)>(4096:Int)) (λh8=>zR ⟨zc (Value.int .i64) (Xf h5 h8),rfl⟩) (λh8=>KX (SQ (jK 1 [3] [] (NN (ax.block (lJ (λ(i:Nat)=>(i<=name.size)/\(∀q,q<i->¬dR name q=0)) (λ(i:Nat)=>name.size-i) (λ(i:Nat)=>[(0,.string name),(3,vI ↑i)]) (λ(i:Nat)=>[.abs R]) 0 [0] (⟨L4 _,λq hq=>KB hq (N5 q)⟩) ?_)))))))))))))))))
 rintro i ⟨hi,jx⟩
 exact SQ (jK 4 [12] [] (NN (cP ((((i:Nat):Int):Int)<((((name:ByteArray).size:Nat):Int):Int)) (λh12=>KX (ax.seq (ax.block (SR (jK 4 [18] [(2,xP i (i<(name:ByteArray).size))] (NN (cP ((((((name:ByteArray).data.getD (i) 0).toNat:Nat):Int):Int)=(0:Int)) (λpU=>zR ⟨zc (Value.int .i64) (aak h5 h8 (q:=i) d5 (by unfold dR;omega)),rfl⟩) (λpU=>KX (ax.region (jK 3 [3] [(1,wJ ((i:Int)+1) (↑(i+1)))] (NL (tJ ((i+1)) [0] (⟨d5,λq hq=>by grind [dR]⟩))))))))))))) (λh12=>XX (zR ⟨zc (Value.int .i64) (Xg h5 h8 (λq hq=>jx q d5)),rfl⟩)))))
theorem aan {β:Bs} (m:Int) :
 aW Tryz.prog β 116 #[vI m] [] (λv l=>v=.bool (decide (mT m))/\l=[]):=by
 exact SE Tryz.func116 Tryz.ntmps116 (λR=>SR (jK 1 [] [] (NS (jK 3 [5] [] (sP 5 ((m:Int)>=(0:Int)) (λh5=>jK 4 [2] [] (eN ⟨zc Value.bool (af0 h5),rfl⟩)) (λh5=>jK 4 [2] [] (eN ⟨zc Value.bool (aeo h5),rfl⟩)))))))
theorem Xh {β:Bs} (Z:RS) (Y:RL) (hR:dP β Z Y) (hB:RB Z) (d top:Nat) (hd:d<Z.ns.length) :
 aW Tryz.prog β 118 #[.agg ⟨rV Z Y⟩,vI (((d:Nat):Int)),vI (((top:Nat):Int))] [] (λv l=>v=.bool (jH Z.ns top (Z.ns.length+1) d)/\l=[]):=by
 refine SE Tryz.func118 Tryz.ntmps118 (λR=>SR (jB 2 [3] (λb5=>.aD b5 (rV Z Y) 45) (λb5=>NZ (jK 1 [7] [] (NN (ax.block (lJ (λ(st,dc)=>(st<=Z.ns.length+1)/\(dc<Z.ns.length)/\(jH Z.ns top (Z.ns.length+1-st) dc=(jH Z.ns top (Z.ns.length+1) d))) (λ(st,dc)=>Z.ns.length+1-st) (λ(st,dc)=>(zQ1 dc top b5 st)) (λ(st,dc)=>[.abs R,.aD b5 (rV Z Y) 45]) (0,d) [0,1] (⟨L4 _,hd,rfl⟩) ?_)))))))
 rintro⟨st,dc⟩ ⟨hst,hdc,hbl⟩
 have hbn:=hB.ns
 refine SQ (jK 6 [16] [(3,a_ 1 b5)] (NN (cP ((((st:Nat):Int):Int)<=(((Z.ns.length:Nat):Int):Int)) (λpz=>KX (ax.seq (ax.block (SQ (jK 3 [21] [] (NN (cP ((((dc:Nat):Int):Int)=(((top:Nat):Int):Int)) (λyE=>?_) (λyE=>?_)))))))) (λpz=>XX (zR (v:=(.bool false)) ⟨by rw [←hbl,show Z.ns.length+1-st=0 by omega];rfl,rfl⟩)))))
 ·replace yE:dc=top:=d5
  exact zR ⟨by rw [←hbl,show Z.ns.length+1-st=(Z.ns.length-st)+1 by omega,yE,W8],rfl⟩
 replace yE:¬dc=top:=d5
 refine KX (SR (jK 1 [8] [] (NZ (sl 8 (vI (-1)) (.int .i64 ((oz Z.ns (nd Z.ns dc).id 0))) (rfl) (jK 1 [9] [] (NN (ax.block (lJ (λ(i:Nat)=>(i<=Z.ns.length)) (λ(i:Nat)=>Z.ns.length-i) (λ(i:Nat)=>(zQ1 dc top b5 st++[(8,vI ((oz Z.ns (nd Z.ns dc).id i))),(9,vI ↑i)])) (λ(i:Nat)=>[.abs R,.aD b5 (rV Z Y) 45]) 0 [0,1] (L4 _) ?_))))))))
 rintro i hi
 refine SQ (jK 6 [27] [(3,a_ 1 b5)] (NN (cP ((((i:Nat):Int):Int)<(((Z.ns.length:Nat):Int):Int)) (λyB=>KX (ax.seq (ax.block (SR (sl 8 (vI ((oz Z.ns (nd Z.ns dc).id i))) (.int .i64 ((BG Z.ns (nd Z.ns dc).id i 0))) (zc (Value.int .i64) Z8) (jK 1 [10] [] (NN (ax.block (lJ (λ(j:Nat)=>(j<=(nd Z.ns i).aq.length)) (λ(j:Nat)=>(nd Z.ns i).aq.length-j) (λ(j:Nat)=>(zQ1 dc top b5 st++[(8,vI ((BG Z.ns (nd Z.ns dc).id i j))),(9,vI ↑i),(10,vI ↑j)])) (λ(j:Nat)=>[.abs R,.aD b5 (rV Z Y) 45]) 0 [0,1] (L4 _) ?_))))))))) (λyB=>XX (SQ (sl 8 (vI ((oz Z.ns (nd Z.ns dc).id i))) (.int .i64 ((oz Z.ns (nd Z.ns dc).id Z.ns.length))) (by rw [show i=Z.ns.length by omega]) (jK 2 [63] [] (NN (cP (((oz Z.ns (nd Z.ns dc).id Z.ns.length):Int)<(0:Int)) (λh63=>zR ⟨by rw [←hbl,show Z.ns.length+1-st=(Z.ns.length-st)+1 by omega,UH yE h63],rfl⟩) (λh63=>KX (ax.region (sl 8 (vI ((oz Z.ns (nd Z.ns dc).id Z.ns.length))) (.int .i64 ↑((oz Z.ns (nd Z.ns dc).id Z.ns.length).toNat)) (zc (Value.int .i64) d5) (jK 2 [1] [] (LX (ax.region (jK 3 [7] [(1,wJ ((st:Int)+1) (↑(st+1)))] (NL (tJ ((st+1),(oz Z.ns (nd Z.ns dc).id Z.ns.length).toNat) [0,1] (⟨d5,by have:=W7 (ns:=Z.ns) (id:=(nd Z.ns dc).id) Z.ns.length;omega,by rw [←hbl,show Z.ns.length+1-st=(Z.ns.length+1-(st+1))+1 by omega,aac yE h63]⟩)))))))))))))))))))
 rintro j hj
 have hrw:=hB.row (i:=i) d5
 exact SQ (jK 10 [39] [(3,a_ 1 b5),(5,x_ i Z.ns.length (aO.hd hR.n (i:=i) d5)),(7,r_ (aO.rd hR.n (i:=i) d5 (j:=9) rfl))] (NN (cP ((((j:Nat):Int):Int)<((((nd Z.ns i).aq.length:Nat):Int):Int)) (λlW=>KX (ax.seq (ax.block (ax.seq (rQ (jQ 19 [60] [(2,a_ 1 b5),(4,x_ i Z.ns.length (aO.hd hR.n (i:=i) d5)),(6,r_ (aO.rd hR.n (i:=i) d5 (j:=9) rfl)),(8,x_ j ((nd Z.ns i).aq.length) (cU.hd (hR.n.aq i d5) (i:=j) d5)),(10,r_ (cU.rd (hR.n.aq i d5) (i:=j) d5 (j:=1) rfl)),(13,a_ 1 b5),(15,x_ dc Z.ns.length (aO.hd hR.n (i:=dc) d5)),(17,r_ (aO.rd hR.n (i:=dc) d5 (j:=0) rfl))] (NQ (NX (cP (((en (nd Z.ns i).aq j).id:Int)=((nd Z.ns dc).id:Int)) (λNI=>ax.region (jK 2 [8] [] (LX (ax.region (sl 8 (vI ↑i) (.int .i64 ((BG Z.ns (nd Z.ns dc).id i (j+1)))) (zc (Value.int .i64) (ac0 NI)) (jK 3 [10] [(1,wJ ((j:Int)+1) (↑(j+1)))] (NL (tJ ((j+1)) [0,1] (d5))))))))) (λNI=>KX (ax.region (sl 8 (vI ((BG Z.ns (nd Z.ns dc).id i j))) (.int .i64 ((BG Z.ns (nd Z.ns dc).id i (j+1)))) (zc (Value.int .i64) (Z9 NI)) (jK 3 [10] [(1,wJ ((j:Int)+1) (↑(j+1)))] (NL (tJ ((j+1)) [0,1] (d5)))))))))))))))) (λlW=>XX (ax.region (sl 8 (vI ((BG Z.ns (nd Z.ns dc).id i j))) (.int .i64 ((oz Z.ns (nd Z.ns dc).id (i+1)))) (by rw [←acZ,show j=(nd Z.ns i).aq.length by omega]) (jK 3 [9] [(1,wJ ((i:Int)+1) (↑(i+1)))] (NL (tJ ((i+1)) [0,1] (d5))))))))))
end
section
open Go.RowKit Go.Maps bw aI
section m
variable {ns:List aP} {es l:List fM} {name:ByteArray} {id z:Int} {i j d k:Nat} {R:RS} {x:fM}
theorem Mi:∀{l:List fM},(∀e∈l,iR e.name name)->mH name id l=l++[⟨name,id⟩]
 |[],_=>rfl
 |e::r,h=>by
   unfold mH
   rw [nw (λq=>q (h e (T5 ..))),Mi (λy hy=>h y (T4 _ hy))];rfl
theorem JN:∀{l:List fM},(∀e∈l,iR e.name name)->¬iR x.name name->mH name id (l++[x])=l++[⟨name,id⟩,x]
 |[],_,hx=>by grind [mH]
 |e::r,h,hx=>by
   show mH name id (e::(r++[x]))=_
   unfold mH
   rw [nw (λq=>q (h e (T5 ..))),JN (λy hy=>h y (T4 _ hy)) hx];rfl
theorem Mj:∀{l:List fM},(∃e∈l,¬iR e.name name)->mH name id (l++[x])=mH name id l++[x]
 |[],h=>by obtain⟨_,h,_⟩:=h;cases h
 |e::r,h=>by
   show mH name id (e::(r++[x]))=mH name id (e::r)++[x]
   unfold mH
   by_cases he:¬iR e.name name
   ·rw [t8 he,t8 he];rfl
   rw [nw he,nw he]
   obtain⟨y,hy,hny⟩:=h
   rcases ahK.1 hy with rfl|hy
   ·exact KB hny he
   rw [Mj ⟨y,hy,hny⟩];rfl
theorem wY (hj:j<es.length):es.take (j+1)=es.take j++[en es j]:=by
 rw [ah4,T6 hj]
 grind [en]
def gG (es:List fM) (name:ByteArray) (id:Int) (j:Nat) (put:Bool) (out:List fM):Prop:=
 (put=false/\out=es.take j/\∀e∈es.take j,iR e.name name)\/(put=true/\out=mH name id (es.take j)/\∃e∈es.take j,¬iR e.name name)
theorem gG.start:gG es name id 0 false []:=.inl ⟨rfl,rfl,λe he=>by cases he⟩
theorem gG.put (h:gG es name id j false l) (hj:j<es.length) (hx:¬iR (en es j).name name):gG es name id (j+1) true (l++[⟨name,id⟩]++[en es j]):=by
 grind [en,wY,JN,gG,iR]
theorem gG.more (h:gG es name id j true l) (hj:j<es.length):gG es name id (j+1) true (l++[en es j]):=by
 grind [wY,Mj,gG,en]
theorem gG.miss (h:gG es name id j false l) (hj:j<es.length) (hx:iR (en es j).name name):gG es name id (j+1) false (l++[en es j]):=by
 grind [wY,gG,iR,en]
theorem gG.last (h:gG es name id es.length false l):l++[⟨name,id⟩]=mH name id es:=by
 grind [Mi,gG,mH]
theorem gG.end_ (h:gG es name id es.length true l):l=mH name id es:=by
 grind [gG,mH]
theorem gG.len {b:Bool} (h:gG es name id j b l) (hj:j<=es.length):l.length<=j+1:=by
 have hl:∀q:List fM,(mH name id q).length=q.length+1:=λq=>by
  induction q with
  |nil=>rfl
  |cons e r ih=>
    grind [mH]
 grind [gG]
theorem MW (hj:j<es.length) (h:(en es j).name=name):rN name (es.take j)=rN name (es.take (j+1)):=by
 grind [rN,wY]
theorem K1 (hj:j<es.length) (h:¬(en es j).name=name):rN name (es.take j)++[en es j]=rN name (es.take (j+1)):=by
 grind [rN,wY]
theorem K2:∀(l:List fM) (z:Int),qY name (l++[x]) z=if x.name=name then x.id else qY name l z
 |[],z=>rfl
 |e::r,z=>by
   show qY name (r++[x]) _=_
   rw [K2 r]
   split<;>rfl
theorem ac2 (hj:j<es.length) (h:(en es j).name=name):(en es j).id=qY name (es.take (j+1)) z:=by rw [wY hj,K2,t8 h]
theorem aao (hj:j<es.length) (h:¬(en es j).name=name):qY name (es.take j) z=qY name (es.take (j+1)) z:=by rw [wY hj,K2,nw h]
theorem aap:(rN name (es.take j)).length<=j:=Pd (aiq ..) (by rw [ahZ];omega)
theorem ux (hj:j<ns.length):ns.take (j+1)=ns.take j++[nd ns j]:=by
 rw [ah4,T6 hj]
 grind [nd]
def s5 (R:RS) (i:Nat):List aP:=(R.ns.take i).filter (rO R)
def pR (R:RS) (i:Nat):List Int:=((s5 R i).filter (λn=>decide (n.id∈R.aJ))).map aP.id
theorem BJ (hi:i<R.ns.length) (h:rO R (nd R.ns i)=true):s5 R (i+1)=s5 R i++[nd R.ns i]:=by
 grind [s5,ux]
theorem Pu (hi:i<R.ns.length) (h:¬rO R (nd R.ns i)=true):s5 R (i+1)=s5 R i:=by
 grind [s5,ux]
theorem Mk (hi:i<R.ns.length) (h:rO R (nd R.ns i)=true) (hg:(nd R.ns i).id∈R.aJ):pR R (i+1)=pR R i++[(nd R.ns i).id]:=by
 unfold pR;rw [BJ hi h,List.filter_append,aik];simp [hg]
theorem Pv (hi:i<R.ns.length) (h:rO R (nd R.ns i)=true) (hg:¬(nd R.ns i).id∈R.aJ):pR R (i+1)=pR R i:=by
 grind [pR,BJ]
theorem UJ (hi:i<R.ns.length) (h:¬rO R (nd R.ns i)=true):pR R (i+1)=pR R i:=by
 unfold pR;rw [Pu hi h]
theorem Ii {n:aP}:rO R n=true↔(n.id∈R.aJ->n.id∈jc R.us):=by unfold rO;exact decide_eq_true_iff
theorem Ml:gu R={R with ns:=s5 R R.ns.length,aJ:=pR R R.ns.length}:=by
 unfold gu pR s5
 rw [ahW]
theorem Mn:(s5 R i).length<=i:=Pd (aiq ..) (by rw [ahZ];omega)
theorem Xi:(pR R i).length<=i:=by
 grind [pR,Mn]
end m
section fl
theorem Mp {α:Type} {f g:Nat->α->List Value} {s:Nat} (hf:∀i a,(f i a).length=s) (hg:∀i a,(g i a).length=s):∀(xs:List α) (b k j:Nat) (a:α) (u:Value),k<xs.length->j<s →
 (∀i,i≠k->∀x,xs[i]?=some x->g (b+i) x=f (b+i) x)->(∀x,xs[k]?=some x->g (b+k) a=(f (b+k) x).set j u)->(fV f b xs).set (k*s+j) u=fV g b (xs.set k a)
 |[],_,k,_,_,_,h,_,_,_=>KB h (N5 k)
 |x::r,b,0,j,a,u,_,hj,h1,h2=>by
   rw [fV,List.set_cons_zero,fV,Nat.zero_mul,ahS,List.set_append_left _ _ (by rw [hf];exact hj)]
   have e:=h2 x rfl
   rw [Nat.add_zero] at e
   rw [e]
   congr 1
   exact Cb _ _ (λi a hi=>by
    have:=h1 (i+1) d5 a (by simpa using hi)
    rw [show b+1+i=b+(i+1) by omega]
    exact this.symm)
 |x::r,b,k+1,j,a,u,h,hj,h1,h2=>by
   rw [fV,List.set_cons_succ,fV,List.set_append_right _ _ (by rw [hf,Nat.add_mul];omega),hf]
   have e0:=h1 0 d5 x rfl
   rw [Nat.add_zero] at e0
   rw [e0,show (k+1)*s+j-s=k*s+j by rw [Nat.add_mul];omega]
   congr 1
   refine Mp hf hg r (b+1) k j a u (by simpa using h) hj (λi hi y hy=>?_) (λy hy=>?_)
   ·rw [show b+1+i=b+(i+1) by omega];exact h1 (i+1) d5 y (by simpa using hy)
   rw [show b+1+k=b+(k+1) by omega];exact h2 y (by simpa using hy)
end fl
section st
variable {P:Program} {β:Bs} {N:fN} {ops:Array Oper} {k:Nat} {fr:Fr} {aB:List HP} {Q:Post} {d:Option Tmp}
theorem aE.ac3 (i j:Nat) {T e:TypeId} {size n cap g:Nat} {xs:List Value} {u u2:Value} {a y:Operand} (cA:∀av,iQ N av ops fr k=some (.store T a y,d)) (hp:aB[i]?=some (.abs (aK e size (some ⟨g,0,none⟩) n cap xs)))
 (ha:∀av,fe N fr av a=.pointer (some ⟨g,j,none⟩)) (hy:∀av,fe N fr av y=.agg #[u,u2]) (hT:(P.info? T).map (·.size)=some 2) (hu:u.oneCell'=true) (Sp:u2.oneCell'=true) (hj:j+1<xs.length)
 (K':aE P β N ops (k+1) (eU fr d undef) (aB.set i (.abs (aK e size (some ⟨g,0,none⟩) n cap ((xs.set j u).set (j+1) u2)))) Q):aE P β N ops k fr aB Q:=by
 refine aE.nQ cA (λo av w ho hS=>?_) K'
 have uF:j<xs.length:=d5
 have hi:=dG hp
 have yD:=hS.set hp (BZ (u:=u) uF)
 have hp2:(aB.set i (.abs (aK e size (some ⟨g,0,none⟩) n cap (xs.set j u))))[i]?=some (.abs (aK e size (some ⟨g,0,none⟩) n cap (xs.set j u))):=aiE hi
 have hS3:=yD.set hp2 (BZ (u:=u2) (by rw [T7];exact hj))
 rw [List.set_set] at hS3
 refine⟨_,.inr ⟨rfl,?_⟩,hS3⟩
 have key:∀(w:World) (l:List HP) (ys:List Value) (q:Nat),aQ β l w->l[i]?=some (.abs (aK e size (some ⟨g,0,none⟩) n cap ys))->q<ys.length->(∃x,w.cell? ⟨g,q,none⟩=some x)/\w.frozen? ⟨g,q,none⟩=false:=λw l ys q hS hp hq=>by
  obtain⟨F,hF⟩:=hS.get hp
  obtain⟨x,hx⟩:=lg hq
  refine⟨⟨x,aK.cell hx F w hF⟩,?_⟩
  obtain⟨⟨_,h2⟩,_⟩:=hF
  rcases h2 with ⟨e,_⟩|⟨g',cp,cur,e,_,hb,_⟩
  ·cases e
  cases e;simp [World.frozen?,hb]
 obtain⟨⟨x1,hc1⟩,hf1⟩:=key w aB xs j hS hp uF
 obtain⟨⟨x2,hc2⟩,hf2⟩:=key _ _ _ (j+1) yD hp2 (by rw [T7];exact hj)
 obtain⟨inf,hi,eT⟩:∃inf,P.info? T=some inf/\inf.size=2:=by
  cases h:P.info? T with
  |none=>rw [h] at hT;cases hT
  |some inf=>rw [h] at hT;exact⟨inf,rfl,by simpa using hT⟩
 have h3:=r8 hi w
 rw [eT] at h3
 obtain⟨dst,op,type,pos,after,guard⟩:=o
 cases ho
 have st:∀(u x:Value) (a:Addr) (w:World),u.oneCell'=true->w.cell? a=some x->w.frozen? a=false->Sem.run P (Sem.store Mode.plain a u (Sem.pure ())) w=.ok () (w.setCell a u):=λu x a w hu hc hf=>by
  cases u<;>first
   |(simp [Value.oneCell'] at hu;done)
   |simp [Sem.run,hc,hf]
 simp only [execOp,ha av,hy av]
 simp [go_sem,Instr.storeAt,Instr.sureAddr,storeVar,h3,Value.cells,storeCells,store,Addr.add,st u x1 _ _ hu hc1 hf1,st u2 x2 _ _ Sp hc2 hf2]
theorem aE.K3 (i j:Nat) {T e:TypeId} {size n cap:Nat} {A:Option Addr} {xs:List Value} {u:Value} {a y:Operand} (cA:∀av,iQ N av ops fr k=some (.store T a y,d)) (hp:aB[i]?=some (.abs (aK e size A n cap xs)))
 (ha:∀av,fe N fr av a=.pointer (some ⟨cC A,cq A+j,none⟩)) (hy:∀av,fe N fr av y=u) (hT:(P.info? T).map (·.size)=some 1) (hu:u.oneCell'=true) (hn:0<n) (hj:j<xs.length)
 (K':aE P β N ops (k+1) (eU fr d undef) (aB.set i (.abs (aK e size A n cap (xs.set j u)))) Q):aE P β N ops k fr aB Q:=by
 refine aE.tell (p:=∃g,A=some ⟨g,0,none⟩) (λ_ hS=>let ⟨_,h⟩:=hS.get hp;aK.head h hn) ?_
 rintro⟨g,rfl⟩
 exact aE.IE i j cA hp (λav=>(ha av).trans (zc (λo=>Value.pointer (some ⟨g,o,none⟩)) (ahS j))) hy hT hu hj K'
theorem aE.Ij (i j:Nat) {T e:TypeId} {size n cap:Nat} {A:Option Addr} {xs:List Value} {u u2:Value} {a y:Operand} (cA:∀av,iQ N av ops fr k=some (.store T a y,d)) (hp:aB[i]?=some (.abs (aK e size A n cap xs)))
 (ha:∀av,fe N fr av a=.pointer (some ⟨cC A,cq A+j,none⟩)) (hy:∀av,fe N fr av y=.agg #[u,u2]) (hT:(P.info? T).map (·.size)=some 2) (hu:u.oneCell'=true) (Sp:u2.oneCell'=true) (hn:0<n) (hj:j+1<xs.length)
 (K':aE P β N ops (k+1) (eU fr d undef) (aB.set i (.abs (aK e size A n cap ((xs.set j u).set (j+1) u2)))) Q):aE P β N ops k fr aB Q:=by
 refine aE.tell (p:=∃g,A=some ⟨g,0,none⟩) (λ_ hS=>let ⟨_,h⟩:=hS.get hp;aK.head h hn) ?_
 rintro⟨g,rfl⟩
 exact aE.ac3 i j cA hp (λav=>(ha av).trans (zc (λo=>Value.pointer (some ⟨g,o,none⟩)) (ahS j))) hy hT hu Sp hj K'
theorem aE.vR (i:Nat) {e:TypeId} {size n cap:Nat} {A:Option Addr} {xs:List Value} (hp:aB[i]?=some (.abs (aK e size A n cap xs))) (hn:0<n) (K:A=some ⟨cC A,cq A,none⟩->aE P β N ops k fr aB Q):aE P β N ops k fr aB Q:=
 aE.tell (λ_ hS=>let ⟨_,h⟩:=hS.get hp;(aK.IC h hn).1) K
end st
theorem aep (x y:ByteArray):Value.bool (!(Op.bytesLess x.toList y.toList || (x.toList == y.toList)))=Value.bool (!(decide (iR x y))):=zc (λv=>match v with|Value.bool b=>Value.bool (!b)|v=>v) (NJ x y)
theorem gG.keep {es l:List fM} {name:ByteArray} {id:Int} {j:Nat} {p:Bool} (h:gG es name id j p l) (hj:j<es.length) (hx:p=false->iR (en es j).name name):gG es name id (j+1) p (l++[en es j]):=by
 cases p with
 |true=>exact h.more hj
 |false=>exact h.miss hj (hx rfl)
theorem DG {q:List fM} {e:fM} {B:Option Addr} {c:Nat}:HP.abs (aK 126 2 B (q.length+1) c (mP q++[.string e.name,.int .i64 e.id]))=HP.abs (aK 126 2 B (q++[e]).length c (mP (q++[e]))):=by
 rw [Jt,T3];rfl
theorem oh {α:Type} {q:List α} {e:α}:q.length+1=(q++[e]).length:=by rw [T3];rfl
section o
variable {P:Program} {β β':Bs} {R:RS} {Y:RL} {f:FuncId} {args:Array Value} {x u:Value} {d k i j:Nat} {ns:List aP} {L L':fk} {n:aP} {es:List fM} {B:Option Addr} {c:Nat}
theorem yX (hk:k<ns.length) (hj:j<10) (hL:∀i,i≠k->∀x,iL L' i x=iL L i x) (h:iL L' k n=(iL L k (nd ns k)).set j u):(bP L ns).set (k*10+j) u=bP L' (ns.set k n):=by
 refine Mp (s:=10) (λ_ _=>rfl) (λ_ _=>rfl) ns 0 k j _ _ hk hj (λi hi x _=>?_) (λx hx=>?_)
 all_goals grind [nd]
theorem UK (hk:k<ns.length) {v:Value} (hv:(iL L k (nd ns k))[j]?=some v):(bP L ns)[k*10+j]?=some v:=by
 have hj:j<10:=dG hv
 have h1:=uJ (f:=iL L) (s:=10) (λ_ _=>rfl) ns 0 k j _ (getD_some (x:=default) hk) hj
 rw [ahS] at h1
 exact h1.trans hv
theorem vS (hk:k<ns.length):nd (ns.set k n) i=if i=k then n else nd ns i:=by
 grind [nd]
def fk.bO (L:fk) (k:Nat) (B:Option Addr) (c:Nat):fk:=⟨L.dA,λi=>if i=k then B else L.eA i,L.dC,λi=>if i=k then c else L.eC i⟩
def fk.dat (L:fk) (k:Nat) (B:Option Addr) (c:Nat):fk:=⟨λi=>if i=k then B else L.dA i,L.eA,λi=>if i=k then c else L.dC i,L.eC⟩
structure mO (β:Bs) (R:RS) (L:fk) (H V:Option Addr):Prop where
 data:∀i,i<R.ns.length->ck β (L.dA i) (nd R.ns i).data
 aq:∀i,i<R.ns.length->cU β (L.eA i) (nd R.ns i).aq
 h:cE β H (bG (aY R.us))
 v:cE β V (bG (jc R.us))
theorem mO.le {H V:Option Addr} (h:mO β R L H V) (dV:β.le β'):mO β' R L H V:=⟨λi hi=>(h.data i hi).le dV,λi hi=>(h.aq i hi).le dV,h.h.le dV,h.v.le dV⟩
theorem mO.at {A G H V:Option Addr} {c cg ch cv:Nat} (h:mO β R L H V) (g:oF β [.abs (aK 102 10 A R.ns.length c (bP L R.ns)),.abs (aK 3 1 G R.aJ.length cg (bG R.aJ))] β'):dP β' R ⟨A,c,L,G,cg,H,ch,V,cv⟩:=by
 obtain⟨F,h1,h2⟩:=g.get 0 rfl
 obtain⟨G,g1,g2⟩:=g.get 1 rfl
 have h':=h.le g.le
 exact⟨⟨cE.iD g1 g2 rfl,h'.h,h'.v⟩,cE.iD h1 h2 rfl,h'.data,h'.aq⟩
theorem jh {A G H V:Option Addr} {c cg ch cv:Nat} (h:mO β R L H V) (hs:∀β',β.le β'->dP β' R ⟨A,c,L,G,cg,H,ch,V,cv⟩->aW P β' f args [] (λv l=>v=x/\l=[])) :
 aW P β f args [.abs (aK 102 10 A R.ns.length c (bP L R.ns)),.abs (aK 3 1 G R.aJ.length cg (bG R.aJ))] (λv l=>v=x/\l=[.abs (aK 102 10 A R.ns.length c (bP L R.ns)),.abs (aK 3 1 G R.aJ.length cg (bG R.aJ))]):=
 (aW.uf (pre:=[]) (R:=[.abs (aK 102 10 A R.ns.length c (bP L R.ns)),.abs (aK 3 1 G R.aJ.length cg (bG R.aJ))]) (λβ' g=>hs β' g.le (h.at g))).mono (by rintro v l ⟨l0,⟨rfl,rfl⟩,rfl⟩;exact⟨rfl,rfl⟩)
theorem nA (ns:List aP) (L:fk) (A:Option Addr) (cap i j:Nat) (hi:i<ns.length) {v:Value} (hv:(iL L i (nd ns i))[j]?=some v):∀F w,(aK 102 10 A ns.length cap (bP L ns)).h F w->w.cell? ⟨cC A,cq A+i*10+j,none⟩=some v:=aK.cellAt hi (UK hi hv)
theorem Rf (hk:k<ns.length):(bP L ns).set (k*10+9) (.slice B es.length c)=bP (L.bO k B c) (ns.set k {nd ns k with aq:=es}):=
 yX hk d8 (λi hi x=>by unfold iL fk.bO;simp [hi]) (by unfold iL fk.bO;simp)
theorem UM (hk:k<ns.length) {bs:List UInt8}:(bP L ns).set (k*10+7) (.slice B bs.length c)=bP (L.dat k B c) (ns.set k {nd ns k with data:=bs}):=
 yX hk d8 (λi hi x=>by unfold iL fk.dat;simp [hi]) (by unfold iL fk.dat;simp)
theorem GR (hk:k<ns.length) {s z:Int}:((bP L ns).set (k*10+5) (.int .i64 s)).set (k*10+5+1) (.int .i64 z)=bP L (ns.set k {nd ns k with bJ:=s,bh:=z}):=by
 rw [yX (n:={nd ns k with bJ:=s}) hk d8 (λ_ _ _=>rfl) rfl]
 have:=yX (ns:=ns.set k {nd ns k with bJ:=s}) (L:=L) (L':=L) (k:=k) (j:=6) (n:={nd ns k with bJ:=s,bh:=z}) (u:=.int .i64 z) (by rw [T7];exact hk) d8 (λ_ _ _=>rfl) (by rw [vS hk,t8 rfl];rfl)
 rw [List.set_set] at this
 exact this
theorem Rg (hk:k<ns.length) {s z:Int}:(((bP L ns).set (k*10+9) (.slice B es.length c)).set (k*10+5) (.int .i64 s)).set (k*10+5+1) (.int .i64 z)=bP (L.bO k B c) (nK s z ns k es):=by
 rw [Rf hk,GR (by rw [T7];exact hk),vS hk,t8 rfl,List.set_set];rfl
theorem Au {s z:Int}:(nK s z ns k es).length=ns.length:=T7 ..
theorem Sq {s z:Int} (hk:k<ns.length):nd (nK s z ns k es) i=if i=k then {nd ns k with aq:=es,bJ:=s,bh:=z} else nd ns i:=vS hk
theorem St {A:Option Addr} {cN:Nat} {ns':List aP} {s z:Int} (hk:k<ns.length) (h:ns'=nK s z ns k es) :
 HP.abs (aK 102 10 A ns.length cN ((((bP L ns).set (k*10+9) (.slice B es.length c)).set (k*10+5) (.int .i64 s)).set (k*10+5+1) (.int .i64 z)))=HP.abs (aK 102 10 A ns'.length cN (bP (L.bO k B c) ns')):=by
 rw [Rg hk,h,Au]
theorem mO.nK {H V:Option Addr} (h:mO β R L H V) (hk:k<R.ns.length) (he:cU β B es) {R':RS} (hn:R'.ns=nK R.cS R.cZ R.ns k es) (hu:R'.us=R.us):mO β R' (L.bO k B c) H V:=by
 refine⟨λi hi=>?_,λi hi=>?_,by rw [hu];exact h.h,by rw [hu];exact h.v⟩
 ·rw [hn,Au] at hi
  rw [hn,Sq hk]
  by_cases e:i=k
  ·rw [t8 e];subst e;exact h.data i hi
  rw [nw e];exact h.data i hi
 rw [hn,Au] at hi
 rw [hn,Sq hk]
 show cU β (if i=k then B else L.eA i) _
 by_cases e:i=k
 ·rw [t8 e,t8 e];exact he
 rw [nw e,nw e];exact h.aq i hi
theorem Ga {name:ByteArray} {id:Int}:(dX R d name id).ns.length=R.ns.length:=T7 ..
theorem uY {name:ByteArray} {b:Bool}:(cY R d name b).ns.length=R.ns.length:=T7 ..
theorem agI {L:fk} {F:Fp} {w:World} {m:Nat} (h:(HP.abs (kY (qP ns L) m)).h F w) (h1:∀k,F k->β'.O k) (h2:β'.w0=w):∀i,i<m->cU β' (L.eA i) (nd ns i).aq:=
 kY.base h h1 h2 (Φ:=λi b=>cU b (L.eA i) (nd ns i).aq) (λi _ F hF hO=>cE.iD (show (HP.abs (aK 126 2 (L.eA i) (nd ns i).aq.length (L.eC i) (mP (nd ns i).aq))).h F _ from hF) hO h2)
theorem aer {L:fk} {F:Fp} {w:World} {m:Nat} (h:(HP.abs (kY (mG ns L) m)).h F w) (h1:∀k,F k->β'.O k) (h2:β'.w0=w):∀i,i<m->ck β' (L.dA i) (nd ns i).data:=
 kY.base h h1 h2 (Φ:=λi b=>ck b (L.dA i) (nd ns i).data) (λi _ F hF hO=>cE.iD (show (HP.abs (aK 5 1 (L.dA i) (nd ns i).data.length (L.dC i) (ez (nd ns i).data))).h F _ from hF) hO h2)
theorem Pw:∀m,i<m->(nd ns i).data.length<=fX ns m
 |0,h=>KB h (N5 _)
 |m+1,h=>by
   show _<=fX ns m+(nd ns m).data.length
   by_cases e:i=m
   ·subst e;omega
   have:=Pw m d5;omega
theorem RB.hd (h:RB R):∀i,i<R.ns.length->(nd R.ns i).data.length<=140737488355328/\(nd R.ns i).aq.length<=1048576:=λi hi=>⟨Pd (Pw _ hi) h.dat,Pd (h.row hi) d8⟩
structure RD (q:Nat) (R:RS):Prop where
 ns:R.ns.length<=4097
 aJ:R.aJ.length<=4096+q
 us:R.us.length<=1024
 aq:dY R.ns R.ns.length<=8192+q
 dat:fX R.ns R.ns.length<=140737488355328
theorem RD.rb {q:Nat} (h:RD q R) (hq:q<=8):RB R:=⟨h.ns,by have:=h.aJ;omega,h.us,by have:=h.aq;omega,h.dat⟩
theorem RD.up {q m:Nat} (h:RD q R) (hm:q<=m):RD m R:=⟨h.ns,by have:=h.aJ;omega,h.us,by have:=h.aq;omega,h.dat⟩
theorem JO (hk:k<ns.length):∀m:Nat,dY (ns.set k n) m+(if k<m then (nd ns k).aq.length else 0)=dY ns m+(if k<m then n.aq.length else 0)
 |0=>rfl
 |m+1=>by
   have h:=JO hk m
   show dY (ns.set k n) m+(nd (ns.set k n) m).aq.length+_=dY ns m+(nd ns m).aq.length+_
   rw [vS hk]
   by_cases e:m=k
   ·subst e
    rw [nw (aix _),nw (aix _)] at h
    rw [t8 rfl,t8 (ah0 _),t8 (ah0 _)]
    omega
   rw [nw e]
   by_cases e2:k<m
   ·rw [t8 e2,t8 e2] at h;rw [t8 d5,t8 d5];omega
   rw [nw e2,nw e2] at h;rw [nw d5,nw d5];omega
theorem JQ (hk:k<ns.length):∀m:Nat,fX (ns.set k n) m+(if k<m then (nd ns k).data.length else 0)=fX ns m+(if k<m then n.data.length else 0)
 |0=>rfl
 |m+1=>by
   have h:=JQ hk m
   show fX (ns.set k n) m+(nd (ns.set k n) m).data.length+_=fX ns m+(nd ns m).data.length+_
   rw [vS hk]
   by_cases e:m=k
   ·subst e
    rw [nw (aix _),nw (aix _)] at h
    rw [t8 rfl,t8 (ah0 _),t8 (ah0 _)]
    omega
   rw [nw e]
   by_cases e2:k<m
   ·rw [t8 e2,t8 e2] at h;rw [t8 d5,t8 d5];omega
   rw [nw e2,nw e2] at h;rw [nw d5,nw d5];omega
theorem Xj {s z:Int} (hk:k<ns.length) (he:es.length<=(nd ns k).aq.length+1):dY (nK s z ns k es) (nK s z ns k es).length<=dY ns ns.length+1/\fX (nK s z ns k es) (nK s z ns k es).length=fX ns ns.length:=by
 grind [Au,JO,nd,JQ,nK]
theorem RD.nK {q:Nat} (h:RD q R) (hk:k<R.ns.length) (he:es.length<=(nd R.ns k).aq.length+1) {R':RS} (hn:R'.ns=nK R.cS R.cZ R.ns k es) (hu:R'.us=R.us) (hg:R'.aJ.length<=R.aJ.length+1):RD (q+1) R':=by
 have h1:=Xj (s:=R.cS) (z:=R.cZ) hk he
 have h2:R'.ns.length=R.ns.length:=by rw [hn,Au]
 refine⟨by rw [h2];exact h.ns,by have:=h.aJ;omega,by rw [hu];exact h.us,?_,?_⟩
 ·rw [hn];have:=h.aq;omega
 rw [hn];have:=h.dat;omega
def DH (R:RS) (d:Nat) (name:ByteArray):RS:={R with ns:=nK R.cS R.cZ R.ns d (rN name (nd R.ns d).aq)}
theorem ac4 {name:ByteArray}:(DH R d name).ns.length=R.ns.length:=T7 ..
theorem Sv {name:ByteArray} {b:Bool} (hf:b=true) (h:tL (DH R d name).ns (qY name (nd R.ns d).aq 0)=0):(cY R d name b).aJ=R.aJ++[qY name (nd R.ns d).aq 0]:=t8 ⟨hf,h⟩
theorem JR {name:ByteArray} {b:Bool} (h:b=true->¬tL (DH R d name).ns (qY name (nd R.ns d).aq 0)=0):(cY R d name b).aJ=R.aJ:=nw (λq=>h q.1 q.2)
theorem Xk {name:ByteArray}:(rN name es).length<=es.length:=aiq ..
theorem RD.del {q:Nat} {name:ByteArray} (h:RD q R) (hk:d<R.ns.length):RD (q+1) (DH R d name):=h.nK hk (Nat.le_succ_of_le Xk) rfl rfl (Nat.le_succ _)
theorem RD.Sw {q:Nat} {name:ByteArray} {b:Bool} (h:RD q R) (hk:d<R.ns.length):RD (q+1) (cY R d name b):=by
 refine h.nK hk (Nat.le_succ_of_le Xk) rfl rfl ?_
 grind [cY]
theorem Sy {name:ByteArray} {id:Int}:∀l:List fM,(mH name id l).length=l.length+1
 |[]=>rfl
 |e::r=>by
   unfold mH
   split
   ·rfl
   rw [ahX,Sy r];rfl
theorem RD.bO {q:Nat} {name:ByteArray} {id:Int} (h:RD q R) (hk:d<R.ns.length):RD (q+1) (dX R d name id):=h.nK hk (Nat.le_of_eq (Sy _)) rfl rfl (Nat.le_succ _)
theorem E0 {q:List Int} {z:Int} {B:Option Addr} {c:Nat}:HP.abs (aK 3 1 B (q.length+1) c (bG q++[.int .i64 z]))=HP.abs (aK 3 1 B (q++[z]).length c (bG (q++[z]))):=by
 rw [Gu,T3];rfl
theorem Px (l:List Int):∀u∈bG l,u.oneCell'=true:=by
 intro u hu
 obtain⟨b,_,rfl⟩:=ahN.1 hu
 rfl
theorem mO.same {H V:Option Addr} (h:mO β R L H V) {R':RS} (hn:R'.ns=R.ns) (hu:R'.us=R.us):mO β R' L H V:=⟨by rw [hn];exact h.data,by rw [hn];exact h.aq,by rw [hu];exact h.h,by rw [hu];exact h.v⟩
theorem mO.snoc {H V:Option Addr} (h:mO β R L H V) {R':RS} (hn:R'.ns=R.ns++[n]) (hd:n.data=[]) (he:n.aq=[]) (hu:R'.us=R.us):mO β R' (L.put R.ns.length none 0 none 0) H V:=by
 have h0:∀{xs:List Value},xs=[]->cE β none xs:=λe j v hj=>by rw [e] at hj;cases hj
 have hl:R'.ns.length=R.ns.length+1:=by rw [hn,T3];rfl
 refine⟨λi hi=>?_,λi hi=>?_,by rw [hu];exact h.h,by rw [hu];exact h.v⟩
 ·rw [hn]
  show ck β (if i=R.ns.length then none else L.dA i) _
  by_cases e:i=R.ns.length
  ·subst e;rw [t8 rfl,wM,hd];exact h0 rfl
  rw [nw e,y9 d5];exact h.data i d5
 rw [hn]
 show cU β (if i=R.ns.length then none else L.eA i) _
 by_cases e:i=R.ns.length
 ·subst e;rw [t8 rfl,wM,he];exact h0 rfl
 rw [nw e,y9 d5];exact h.aq i d5
theorem RD.last {q:Nat} (h:RD q R) (z:Int):RD q {R with last:=z}:=⟨h.ns,h.aJ,h.us,h.aq,h.dat⟩
theorem Py (h:(R.us.length:Int)<R.cH):l5 R k=({R with us:=ins (aS R.us) (nd R.ns k).id R.us,aL:=max R.aL ((R.us.length:Int)+1)},aS R.us,0):=t8 h
theorem Sz (h:¬(R.us.length:Int)<R.cH):l5 R k=(R,0,130):=nw h
structure RU (R:RS):Prop where
 us:R.us.length<=1024
 usr:aI.dK (aY R.us)
 wj:∀z∈aY R.us,1<=z
theorem RC.ru (h:RC R):RU R:=⟨h.us,h.usr,h.wj⟩
theorem agJ {z:Int}:z∈jc R.us↔∃q,q<R.us.length/\(jc R.us).getD q 0=z:=by
 have hl:=mE R.us
 refine⟨λh=>?_,λ⟨q,h1,h2⟩=>h2 ▸ BF d5⟩
 obtain⟨q,hq,e⟩:=ain h
 exact⟨q,d5,gn⟩
theorem Pz {p:List aP} (h:p=s5 R R.ns.length):(gu R).ns=p:=by rw [Ml,h]
theorem JS {l:List Int} (h:l=pR R R.ns.length):(gu R).aJ=l:=by rw [Ml,h]
theorem aaq {An Ag:Option Addr} {cn cg:Nat} {p:List aP} {l:List Int} {K:fk} (hR:dP β R Y) (hN:cE β An (bP K p)) (hG:cE β Ag (bG l)) (hp:p=s5 R R.ns.length) (hl:l=pR R R.ns.length) (hK:ou β p p.length K):dP β (gu R) ⟨An,cn,K,Ag,cg,Y.H,Y.ch,Y.V,Y.cv⟩:=by
 have e1:=Pz hp
 have e2:=JS hl
 exact⟨⟨by rw [e2];exact hG,hR.h,hR.v⟩,⟨by rw [e1];exact hN,by rw [e1];exact hK.data,by rw [e1];exact hK.aq⟩⟩
theorem ou.snoc {p:List aP} {K:fk} {dA eA:Option Addr} {dC eC:Nat} (h:ou β p p.length K) (hd:ck β dA n.data) (he:cU β eA n.aq):ou β (p++[n]) (p++[n]).length (K.put p.length dA dC eA eC):=by
 have e:(p++[n]).length=p.length+1:=by rw [T3];rfl
 rw [e]
 refine ou.put (k:=p.length) ⟨λi hi=>?_,λi hi=>?_⟩ (by rw [wM];exact hd) (by rw [wM];exact he)
 ·rw [y9 hi];exact h.data i hi
 rw [y9 hi];exact h.aq i hi
theorem Ik {p:List aP} {K:fk} {dA eA A:Option Addr} {dC eC cN:Nat} {dn en:Nat} (hd:n.data.length=dn) (he:n.aq.length=en) :
 HP.abs (aK 102 10 A (p.length+1) cN (bP K p++[.int .i64 n.id,.int .i64 n.kind,.int .i64 n.mode,.int .i64 n.cO,.int .i64 n.cQ,.int .i64 n.bJ,.int .i64 n.bh,.slice dA dn dC,.string n.target,.slice eA en eC]))=HP.abs (aK 102 10 A (p++[n]).length cN (bP (K.put p.length dA dC eA eC) (p++[n]))):=by
 grind [vH]
end o
end
section
open Go.RowKit Go.Maps bw aI
attribute [local irreducible] aE bH ax aF eu lK
noncomputable abbrev kF (Y:RL) (Z:RS):=(.abs (aK 102 10 Y.A Z.ns.length Y.c (bP Y.L Z.ns)):HP)
noncomputable abbrev j8 (Y:RL) (Z:RS):=(.abs (aK 3 1 Y.G Z.aJ.length Y.cg (bG Z.aJ)):HP)
noncomputable abbrev Xl (Ag)(l:List Int) (cg):=(.abs (aK 3 1 Ag l.length cg (bG l)):HP)
noncomputable abbrev zT4 (A1:Option Addr) (Z:RS) (k:Nat) (c1:Nat):=(.abs (aK 3 1 A1 ((ins (aI.aS Z.us) (nd Z.ns k).id Z.us).length) c1 (bG (aY (ins (aI.aS Z.us) (nd Z.ns k).id Z.us)))):HP)
noncomputable abbrev zT5 (B1)(Z:RS) (k:Nat) (d1):=(.abs (aK 3 1 B1 ((ins (aI.aS Z.us) (nd Z.ns k).id Z.us).length) d1 (bG (jc (ins (aI.aS Z.us) (nd Z.ns k).id Z.us)))):HP)
noncomputable abbrev zT6 (tP:Nat) (Z:RS) (A1:Option Addr) (k:Nat) (c1:Nat) (B1) (d1):=(.aD tP [vI (Z.cH),vI ((max Z.aL ((Z.us.length:Int)+1))),.slice A1 ((ins (aI.aS Z.us) (nd Z.ns k).id Z.us).length) (c1),.slice B1 ((ins (aI.aS Z.us) (nd Z.ns k).id Z.us).length) (d1)] 43:HP)
noncomputable abbrev zT7 (nH:Nat) (yH:Nat) (An:Option Addr) (p:List aP) (cn:Nat) (Ag) (l:List Int) (cg) (i:Nat):=([(1,vP nH),(2,vP yH),(3,.slice An (p.length) (cn)),(4,.slice Ag (l.length) (cg)),(5,vI ↑i)]:Fr)
noncomputable abbrev zT8 (Z:RS):=([(6,vI (Z.cN)),(7,vI (Z.cB)),(8,vI (Z.cH)),(9,vI (Z.cS)),(10,vI (Z.cZ)),(11,vI (Z.last))]:Fr)
noncomputable abbrev zT9 (b1:Nat) (b2:Nat) (Ao) (q:List fM) (ca):=([(4,vP b1),(8,vP b2),(9,.slice Ao (q.length) (ca))]:Fr)
noncomputable abbrev qu (b1:Nat) (Z) (Y:RL) (b2:Nat):=([.aD b1 (rV Z Y) 45,.aD b2 (rZ) 45]:List HP)
noncomputable abbrev aes (su:Nat) (wo:Nat) (Z:RS) (Y:RL) (k:Nat):=([(2,vP su),(4,vP wo),(12,.agg #[vI (Z.cH),vI (Z.aL),.slice Y.H (Z.us.length) (Y.ch),.slice Y.V (Z.us.length) (Y.cv)]),(19,vI ((nd Z.ns k).id))]:Fr)
noncomputable abbrev aeu (Z:RS) (A1:Option Addr) (k:Nat) (c1:Nat) (B1) (d1):=([(3,vI ((max Z.aL ((Z.us.length:Int)+1)))),(4,.slice A1 ((ins (aI.aS Z.us) (nd Z.ns k).id Z.us).length) (c1)),(5,.slice B1 ((ins (aI.aS Z.us) (nd Z.ns k).id Z.us).length) (d1))]:Fr)
noncomputable abbrev aev (Z:RS) (Y:RL):=([(2,vI (Z.cH)),(3,vI (Z.aL)),(4,.slice Y.H (Z.us.length) (Y.ch)),(5,.slice Y.V (Z.us.length) (Y.cv))]:Fr)
theorem E4 {β:Bs} (Z:RS) (Y:RL) (hI:mO β Z Y.L Y.H Y.V) (hB:RB Z) (d:Nat) (hd:d<Z.ns.length) (name:ByteArray) (id:Int) :
 bN Tryz.prog β 93 #[.agg ⟨rV Z Y⟩,vI (((d:Nat):Int)),.string name,vI (id)] [kF Y Z,j8 Y Z] (λβ' v l=>∃L',v=.agg ⟨rV (dX Z d name id) Y⟩/\l=[.abs (aK 102 10 Y.A ((dX Z d name id).ns.length) Y.c (bP L' (dX Z d name id).ns)),.abs (aK 3 1 Y.G ((dX Z d name id).aJ.length) Y.cg (bG (dX Z d name id).aJ))]/\mO β' (dX Z d name id) L' Y.H Y.V):=by
 refine mK Tryz.func93 Tryz.ntmps93 (λaH R=>SR (jB 1 [4] (λb1=>.aD b1 (rV Z Y) 45) (λb1=>jB 1 [8] (λb2=>.aD b2 (rZ) 45) (λb2=>NS (jB 2 [9] (λb3=>.aD b3 [] 126) (λb3=>NS (aE.mem (λw hS=>hS.oo (i:=5) (b:=b3) (cs:=[]) (e:=126) 2 0 d6 rfl d8) (jK 1 [10] [] (NS (aE.vR 0 rfl d5 (λpV=>jK 8 [11] [(2,a_ 3 b1),(4,x_ d Z.ns.length (pV)),(6,v_ 0 (nA Z.ns Y.L Y.A Y.c d 9 hd rfl))] (NZ (jK 1 [12] [] (NN (ax.block (lJ (ι:=Nat×Bool×(List fM)×(Option Addr)×Nat) (λ(j,put,q,Ao,ca)=>(j<=(nd Z.ns d).aq.length)/\(gG (nd Z.ns d).aq name id j put q)) (λ(j,put,q,Ao,ca)=>(nd Z.ns d).aq.length-j) (λ(j,put,q,Ao,ca)=>([(1,vI ↑d),(2,.string name),(3,vI (id))]++zT9 b1 b2 Ao q ca++[(10,.bool put),(11,.slice (Y.L.eA d) ((nd Z.ns d).aq.length) ((Y.L.eC d))),(12,vI ↑j)])) (λ(j,put,q,Ao,ca)=>(qu b1 Z Y b2++[kF Y Z,j8 Y Z,.abs (aK 126 2 Ao q.length ca (mP q)),.abs R])) (0,false,[],some ⟨b3,0,none⟩,0) [3,4,0,1,5,2] (⟨L4 _,gG.start⟩) ?_))))))))))))))))
 rintro⟨j,put,q,Ao,ca⟩ ⟨hj,he⟩
 have wm:=he.len hj
 have hrw:=hB.row hd
 refine SQ (jK 4 [24] [] (NN (cP ((((j:Nat):Int):Int)<((((nd Z.ns d).aq.length:Nat):Int):Int)) (λqZ=>?_) (λqZ=>?_))))
 ·refine KX (ax.seq (ax.block (ax.join (ι:=Bool×(List fM)×(Option Addr)×Nat) (λ(p1,q1,A1,c1)=>(gG (nd Z.ns d).aq name id (j+1) p1 (q1++[en (nd Z.ns d).aq j]))/\(q1.length<=j+2)) (λ(p1,q1,A1,c1)=>([(1,vI ↑d),(2,.string name),(3,vI (id))]++zT9 b1 b2 A1 q1 c1++[(10,.bool p1),(11,.slice (Y.L.eA d) ((nd Z.ns d).aq.length) ((Y.L.eC d))),(12,vI ↑j)])) (λ(p1,q1,A1,c1)=>(qu b1 Z Y b2++[kF Y Z,j8 Y Z,.abs (aK 126 2 A1 q1.length c1 (mP q1)),.abs R])) ?_ ?_)))
  ·rintro⟨p1,q1,A1,c1⟩ ⟨he1,hl1⟩
   exact ax.region (jN 6 [44,49] (λb4=>[(3,x_ j ((nd Z.ns d).aq.length) (cU.hd (hI.aq d hd) (i:=j) d5)),(4,r2 (cU.rd (hI.aq d hd) (i:=j) d5 (j:=0) rfl) (cU.rd (hI.aq d hd) (i:=j) d5 (j:=1) rfl))]) (λ_=>[]) (λb4=>.aD b4 [.string (en (nd Z.ns d).aq j).name,vI ((en (nd Z.ns d).aq j).id)] 126) (λb4=>mM 4 100 (some ⟨b4,0,none⟩) 1 1 [.string (en (nd Z.ns d).aq j).name,vI ((en (nd Z.ns d).aq j).id)] rfl (gi (j:=6) rfl) (λA5 c6=>aE.cT 4 rfl (DG (e:=(en (nd Z.ns d).aq j))) (sl 50 (.slice A5 (q1.length+1) (c6)) (.slice A5 ((q1++[(en (nd Z.ns d).aq j)]).length) (c6)) (by rw [←oh]) (jK 1 [9] [] (LX (ax.region (jK 3 [12] [(1,wJ ((j:Int)+1) (↑(j+1)))] (NL (tJ ((j+1),p1,(q1++[(en (nd Z.ns d).aq j)]),A5,c6) [0,1,2,3,4,5] (⟨d5,he1⟩)))))))))))
  refine SR (jK 3 [29] [] (aE.qy 29 (!put) (λ_=>d6) (λCK=>jK 8 [37] [(2,x_ j ((nd Z.ns d).aq.length) (cU.hd (hI.aq d hd) (i:=j) d5)),(4,r_ (cU.rd (hI.aq d hd) (i:=j) d5 (j:=0) rfl)),(6,w_ (.bool (!(decide (iR ((en (nd Z.ns d).aq j).name) name)))) (aep _ _))] (NN (cN (iR ((en (nd Z.ns d).aq j).name) name) (λyC=>SR ?_) (λyC=>ax.skip (mJ (put,q,Ao,ca) [0,1,2,3,4,5] (⟨he.keep d5 (λ_=>yC),d5⟩)))))) (λCK=>jK 8 [37] [] (NF (ax.skip (mJ (put,q,Ao,ca) [0,1,2,3,4,5] (⟨he.keep d5 (λe=>by rw [e] at CK;cases CK),d5⟩)))))))
  have hl1:=oh (q:=q) (e:=(⟨name,id⟩:fM))
  exact jB 5 [38,42] (λb7=>.aD b7 [.string name,vI (id)] 126) (λb7=>mM 4 100 (some ⟨b7,0,none⟩) 1 1 [.string name,vI (id)] rfl (gi (j:=6) rfl) (λA8 c9=>aE.cT 4 rfl (DG (e:=(⟨name,id⟩:fM))) (sl 43 (.slice A8 (q.length+1) (c9)) (.slice A8 ((q++[(⟨name,id⟩:fM)]).length) (c9)) (by rw [←oh]) (jK 1 [9] [] (NN (ax.region (jK 1 [10] [] (NL (mJ (true,(q++[(⟨name,id⟩:fM)]),A8,c9) [0,1,2,3,4,5] (⟨gG.put ((show put=false by simpa using CK) ▸ he) d5 yC,d5⟩))))))))))
 refine XX (ax.join (ι:=(List fM)×(Option Addr)×Nat) (λ(q2,A2,c2)=>(q2=(mH name id (nd Z.ns d).aq))) (λ(q2,A2,c2)=>([(1,vI ↑d)]++zT9 b1 b2 A2 q2 c2)) (λ(q2,A2,c2)=>(qu b1 Z Y b2++[kF Y Z,j8 Y Z,.abs (aK 126 2 A2 q2.length c2 (mP q2)),.abs R])) ?_ (SR (jK 2 [52] [] (NN (ax.cond (b:=(!put)) (λ_=>d6) (λuL=>ax.region (jB 5 [53,57] (λb10=>.aD b10 [.string name,vI (id)] 126) (λb10=>mM 4 100 (some ⟨b10,0,none⟩) 1 1 [.string name,vI (id)] rfl (gi (j:=6) rfl) (λGN c12=>aE.cT 4 rfl (DG (e:=(⟨name,id⟩:fM))) (sl 58 (.slice GN (q.length+1) (c12)) (.slice GN ((q++[(⟨name,id⟩:fM)]).length) (c12)) (by rw [←oh]) (jK 1 [9] [] (NL (mJ ((q++[(⟨name,id⟩:fM)]),GN,c12) [0,1,2,3,4,5] (gG.last gn))))))))) (λuL=>ax.skip (mJ (q,Ao,ca) [0,1,2,3,4,5] (gG.end_ gn))))))))
 rintro⟨q2,A2,c2⟩ CJ
 refine SR ?_
 subst CJ
 refine aE.mA (Φ:=λβ'=>cU β' A2 (mH name id (nd Z.ns d).aq)) 4 [0,1,2,3,5] (fY:=(qu b1 Z Y b2++[kF Y Z,j8 Y Z,.abs R])) rfl rfl d6 (λF w h β' h1 h2=>cE.iD h h1 h2) (λβ1 cV hE=>?_)
 replace hI:=hI.le cV
 replace aH:=aH.trans cV
 exact jK 7 [63,65] [(2,a_ 0 b1),(5,x_ d Z.ns.length (pV))] (aE.K3 2 (d*10+9) (d:=none) (T:=100) (e:=102) (size:=10) (n:=Z.ns.length) (cap:=Y.c) (A:=Y.A) (xs:=(bP Y.L Z.ns)) (u:=.slice A2 ((mH name id (nd Z.ns d).aq).length) (c2)) (a:=(.tmp 65)) (y:=(.tmp 63)) (λ_=>d6) d6 (λ_=>d6) (λ_=>d6) d6 rfl d5 (by rw [sR];omega) (NS (jK 9 [72,74] [(2,a_ 0 b1),(6,A_ 0 b1 2),(7,x_ d Z.ns.length (pV))] (aE.Ij 2 (d*10+5) (d:=none) (T:=26) (e:=102) (size:=10) (n:=Z.ns.length) (cap:=Y.c) (A:=Y.A) (xs:=((bP Y.L Z.ns).set (d*10+9) (.slice A2 ((mH name id (nd Z.ns d).aq).length) (c2)))) (u:=.int .i64 (Z.cS)) (u2:=.int .i64 (Z.cZ)) (a:=(.tmp 74)) (y:=(.tmp 72)) (λ_=>d6) d6 (λ_=>d6) (λ_=>d6) d6 rfl rfl d5 (by rw [T7,sR];omega) (aE.cT 2 rfl (St hd rfl) (NS (jC 2 [] [(0,A_ 0 b1 12),(1,A_ 1 b2 12)] [(1,(zC (rV Z Y)))] (eO (l:=[.abs (aK 102 10 Y.A ((dX Z d name id).ns.length) Y.c (bP (Y.L.bO d A2 c2) (dX Z d name id).ns)),j8 Y Z]) (v:=(.agg ⟨rV Z Y⟩)) [A_ 1 b2 12] aH ⟨_,by simp only [rV];rw [Ga];rfl,rfl,hI.nK hd hE rfl rfl⟩ [2,3,4]))))))))
theorem BK {β:Bs} (Z:RS) (Y:RL) (hI:mO β Z Y.L Y.H Y.V) {n:Nat} (hD:RD n Z) (hn:n<=7) (d:Nat) (hd:d<Z.ns.length) (name:ByteArray) (free:Bool) :
 bN Tryz.prog β 119 #[.agg ⟨rV Z Y⟩,vI (((d:Nat):Int)),.string name,.bool free] [kF Y Z,j8 Y Z] (λβ' v l=>∃L' G' cg',v=.agg ⟨rW (cY Z d name free) Y.A Y.c G' cg' Y.H Y.ch Y.V Y.cv⟩/\l=[.abs (aK 102 10 Y.A ((cY Z d name free).ns.length) Y.c (bP L' (cY Z d name free).ns)),.abs (aK 3 1 G' ((cY Z d name free).aJ.length) cg' (bG (cY Z d name free).aJ))]/\mO β' (cY Z d name free) L' Y.H Y.V):=by
 refine mK Tryz.func119 Tryz.ntmps119 (λaH R=>SR (jB 1 [4] (λb13=>.aD b13 (rV Z Y) 45) (λb13=>jB 1 [8] (λb14=>.aD b14 (rZ) 45) (λb14=>NS (jB 2 [9] (λb15=>.aD b15 [] 126) (λb15=>NS (aE.mem (λw hS=>hS.oo (i:=5) (b:=b15) (cs:=[]) (e:=126) 2 0 d6 rfl d8) (aE.vR 0 rfl d5 (λpV=>jK 8 [10] [(2,a_ 3 b13),(4,x_ d Z.ns.length (pV)),(6,v_ 0 (nA Z.ns Y.L Y.A Y.c d 9 hd rfl))] (NS (jK 1 [11] [] (NZ (jK 1 [12] [] (NN (ax.block (lJ (ι:=Nat×(List fM)×Int×(Option Addr)×Nat) (λ(j,q,z,Ao,ca)=>(j<=(nd Z.ns d).aq.length)/\(q=rN name ((nd Z.ns d).aq.take j))/\(z=qY name ((nd Z.ns d).aq.take j) 0)) (λ(j,q,z,Ao,ca)=>(nd Z.ns d).aq.length-j) (λ(j,q,z,Ao,ca)=>([(1,vI ↑d),(2,.string name),(3,.bool free)]++zT9 b13 b14 Ao q ca++[(10,.slice (Y.L.eA d) ((nd Z.ns d).aq.length) ((Y.L.eC d))),(11,vI (z)),(12,vI ↑j)])) (λ(j,q,z,Ao,ca)=>(qu b13 Z Y b14++[kF Y Z,j8 Y Z,.abs (aK 126 2 Ao q.length ca (mP q)),.abs R])) (0,[],0,some ⟨b15,0,none⟩,0) [3,4,0,1,5,2] (⟨L4 _,rfl,rfl⟩) ?_))))))))))))))))
 rintro⟨j,q,z,Ao,ca⟩ ⟨hj,hq,hz⟩
 have wm:q.length<=j:=by rw [hq];exact aap
 have hrw:=(hD.rb d5).row hd
 refine SQ (jK 4 [24] [] (NN (cP ((((j:Nat):Int):Int)<((((nd Z.ns d).aq.length:Nat):Int):Int)) (λqZ=>KX (ax.seq (ax.block (SR (jK 7 [33] [(2,x_ j ((nd Z.ns d).aq.length) (cU.hd (hI.aq d hd) (i:=j) d5)),(4,r_ (cU.rd (hI.aq d hd) (i:=j) d5 (j:=0) rfl)),(6,w_ (.bool (decide (((en (nd Z.ns d).aq j).name:ByteArray)=name))) (qE _ _))] (NN (cP (((en (nd Z.ns d).aq j).name:ByteArray)=name) (λLF=>ax.region (jK 6 [11] [(2,x_ j ((nd Z.ns d).aq.length) (cU.hd (hI.aq d hd) (i:=j) d5)),(4,r_ (cU.rd (hI.aq d hd) (i:=j) d5 (j:=1) rfl))] (LX (ax.region (jK 3 [12] [(1,wJ ((j:Int)+1) (↑(j+1)))] (NL (tJ ((j+1),q,(en (nd Z.ns d).aq j).id,Ao,ca) [0,1,2,3,4,5] (⟨d5,by grind [MW],ac2 d5 LF⟩)))))))) (λLF=>ax.region (jN 6 [39,44] (λb16=>[(3,x_ j ((nd Z.ns d).aq.length) (cU.hd (hI.aq d hd) (i:=j) d5)),(4,r2 (cU.rd (hI.aq d hd) (i:=j) d5 (j:=0) rfl) (cU.rd (hI.aq d hd) (i:=j) d5 (j:=1) rfl))]) (λ_=>[]) (λb16=>.aD b16 [.string (en (nd Z.ns d).aq j).name,vI ((en (nd Z.ns d).aq j).id)] 126) (λb16=>mM 4 100 (some ⟨b16,0,none⟩) 1 1 [.string (en (nd Z.ns d).aq j).name,vI ((en (nd Z.ns d).aq j).id)] rfl (gi (j:=6) rfl) (λoP c18=>aE.cT 4 rfl (DG (e:=(en (nd Z.ns d).aq j))) (sl 45 (.slice oP (q.length+1) (c18)) (.slice oP ((q++[(en (nd Z.ns d).aq j)]).length) (c18)) (by rw [←oh]) (jK 1 [9] [] (LX (ax.region (jK 3 [12] [(1,wJ ((j:Int)+1) (↑(j+1)))] (NL (tJ ((j+1),(q++[(en (nd Z.ns d).aq j)]),z,oP,c18) [0,1,2,3,4,5] (⟨d5,by grind [K1],by rw [hz];exact aao d5 LF⟩))))))))))))))))))) (λqZ=>XX (SR ?_)))))
 have hje:j=(nd Z.ns d).aq.length:=d5
 rw [hje,ahW] at hq hz
 subst hq
 subst hz
 refine aE.mA (Φ:=λβ'=>cU β' Ao (rN name (nd Z.ns d).aq)) 4 [0,1,2,3,5] (fY:=(qu b13 Z Y b14++[kF Y Z,j8 Y Z,.abs R])) rfl rfl d6 (λF w h β' h1 h2=>cE.iD h h1 h2) (λβ1 cV hE=>?_)
 replace hI:=hI.le cV
 replace aH:=aH.trans cV
 refine jK 7 [50,52] [(2,a_ 0 b13),(5,x_ d Z.ns.length (pV))] (aE.K3 2 (d*10+9) (d:=none) (T:=100) (e:=102) (size:=10) (n:=Z.ns.length) (cap:=Y.c) (A:=Y.A) (xs:=(bP Y.L Z.ns)) (u:=.slice Ao ((rN name (nd Z.ns d).aq).length) (ca)) (a:=(.tmp 52)) (y:=(.tmp 50)) (λ_=>d6) d6 (λ_=>d6) (λ_=>d6) d6 rfl d5 (by rw [sR];omega) (NS (jK 9 [59,61] [(2,a_ 0 b13),(6,A_ 0 b13 2),(7,x_ d Z.ns.length (pV))] (aE.Ij 2 (d*10+5) (d:=none) (T:=26) (e:=102) (size:=10) (n:=Z.ns.length) (cap:=Y.c) (A:=Y.A) (xs:=((bP Y.L Z.ns).set (d*10+9) (.slice Ao ((rN name (nd Z.ns d).aq).length) (ca)))) (u:=.int .i64 (Z.cS)) (u2:=.int .i64 (Z.cZ)) (a:=(.tmp 61)) (y:=(.tmp 59)) (λ_=>d6) d6 (λ_=>d6) (λ_=>d6) d6 rfl rfl d5 (by rw [T7,sR];omega) (aE.cT 2 rfl (St hd rfl) (NN (ax.seq (SR ?_))))))))
 have dw:mO β1 (DH Z d name) (Y.L.bO d Ao ca) Y.H Y.V:=hI.nK hd hE rfl rfl
 have Ct:RD (n+1) (DH Z d name):=hD.del hd
 refine jK 2 [63] [] (aE.qy 63 free (λ_=>d6) (λh63=>jK 2 [64,65] [(0,A_ 0 b13 12)] ?_) (λh63=>jK 5 [68] [] (NF (KX (SR (jC 2 [] [(0,A_ 0 b13 12),(1,A_ 1 b14 12)] [(1,(zC (rV Z Y)))] (eO [A_ 1 b14 12] aH ⟨(Y.L.bO d Ao ca),Y.G,Y.cg,by simp only [rV,rW];rw [JR (λe=>by rw [e] at h63;cases h63),uY]<;>rfl,by rw [JR (λe=>by rw [e] at h63;cases h63)]<;>rfl,dw.same rfl rfl⟩ [2,3,4])))))))
 have q2:=λoL (h:dP oL (DH Z d name) ⟨Y.A,Y.c,(Y.L.bO d Ao ca),Y.G,Y.cg,Y.H,Y.ch,Y.V,Y.cv⟩)=>W9 (DH Z d name) ⟨Y.A,Y.c,(Y.L.bO d Ao ca),Y.G,Y.cg,Y.H,Y.ch,Y.V,Y.cv⟩ h (Ct.rb d5) (qY name (nd Z.ns d).aq 0)
 simp only [rV,ac4] at q2
 exact gE [2,3] (jh dw (λ_ _ h=>q2 _ h)) (jK 2 [68] [] (NN (cP (((tL (DH Z d name).ns (qY name (nd Z.ns d).aq 0)):Int)=(0:Int)) (λh68=>ax.region (jN 4 [70,72] (λb19=>[(1,a_ 2 b13)]) (λ_=>[]) (λb19=>.aD b19 [vI ((qY name (nd Z.ns d).aq 0))] 3) (λb19=>mM 1 41 (some ⟨b19,0,none⟩) 1 1 [vI ((qY name (nd Z.ns d).aq 0))] rfl (gi (j:=5) rfl) (λnY nZ=>aE.cT 1 rfl (E0) (sl 73 (.slice nY (Z.aJ.length+1) (nZ)) (.slice nY ((Z.aJ++[(qY name (nd Z.ns d).aq 0)]).length) (nZ)) (by rw [←oh]) (jC 2 [] [(1,a_ 2 b13)] [(2,[(1,.slice nY ((Z.aJ++[(qY name (nd Z.ns d).aq 0)]).length) (nZ))])] (NS (jC 2 [] [(0,A_ 2 b13 12),(1,A_ 3 b14 12)] [(3,([(0,.slice Y.A (Z.ns.length) (Y.c)),(1,.slice nY ((Z.aJ++[(qY name (nd Z.ns d).aq 0)]).length) (nZ))]++aev Z Y++zT8 Z))] (eO [A_ 3 b14 12] aH ⟨(Y.L.bO d Ao ca),nY,nZ,by simp only [rV,rW];rw [Sv h63 h68,uY]<;>rfl,by rw [Sv h63 h68]<;>rfl,dw.same rfl rfl⟩ [0,1,4])))))) (n:=Z.aJ.length) (hb:=by have:=hD.aJ;omega)))) (λh68=>KX (SR (jC 2 [] [(0,A_ 2 b13 12),(1,A_ 3 b14 12)] [(3,(zC (rV Z Y)))] (eO [A_ 3 b14 12] aH ⟨(Y.L.bO d Ao ca),Y.G,Y.cg,by simp only [rV,rW];rw [JR (λ_=>h68),uY]<;>rfl,by rw [JR (λ_=>h68)]<;>rfl,dw.same rfl rfl⟩ [0,1,4])))))))
theorem ac5 {β:Bs} (Z:RS) (Y:RL) (hI:mO β Z Y.L Y.H Y.V) {n:Nat} (hD:RD n Z) (hn:n<=8) (hl:0<=Z.last/\Z.last<1099511627776) (d:Nat) (hd:d<Z.ns.length) (name:ByteArray) (x:aP) (hxd:x.data=[]) (Mq:x.aq=[]) :
 bN Tryz.prog β 130 #[.agg ⟨rV Z Y⟩,vI (((d:Nat):Int)),.string name,.agg #[vI (x.id),vI (x.kind),vI (x.mode),vI (x.cO),vI (x.cQ),vI (x.bJ),vI (x.bh),.slice none (0) (0),.string x.target,.slice none (0) (0)]] [kF Y Z,j8 Y Z] (λβ' v l=>∃A' c' L',v=.agg ⟨rW (ko Z d name x) A' c' Y.G Y.cg Y.H Y.ch Y.V Y.cv⟩/\l=[.abs (aK 102 10 A' ((ko Z d name x).ns.length) c' (bP L' (ko Z d name x).ns)),.abs (aK 3 1 Y.G ((ko Z d name x).aJ.length) Y.cg (bG (ko Z d name x).aJ))]/\mO β' (ko Z d name x) L' Y.H Y.V/\L'.dA Z.ns.length=none/\L'.dC Z.ns.length=0):=by
 refine mK Tryz.func130 Tryz.ntmps130 (λaH R=>SR (jB 1 [4] (λnO=>.aD nO (rV Z Y) 45) (λnO=>jB 1 [7] (λSB=>.aD SB [vI (x.id),vI (x.kind),vI (x.mode),vI (x.cO),vI (x.cQ),vI (x.bJ),vI (x.bh),.slice none (0) (0),.string x.target,.slice none (0) (0)] 102) (λSB=>jB 1 [8] (λb24=>.aD b24 (rZ) 45) (λb24=>NS (jC 5 [] [(1,a_ 3 nO),(2,wJ (Z.last+1) (Z.last+1)),(4,a_ 3 nO)] [(3,[(11,vI (Z.last+1))])] (NS (jC 4 [] [(1,a_ 3 nO),(3,a_ 4 SB)] [(4,[(0,vI (Z.last+1))])] (NS (jC 5 [] [(2,A_ 3 nO 2),(4,A_ 4 SB 2)] [(4,[(5,vI (Z.cS)),(6,vI (Z.cZ))])] (NS ?_)))))))))))
 have hI0:mO β ({Z with last:=Z.last+1}:RS) Y.L Y.H Y.V:=hI.same rfl rfl
 refine jK 5 [20,21,22,24] [(0,A_ 3 nO 12),(4,a_ 4 SB)] (iK [0,1] (E4 ({Z with last:=Z.last+1}:RS) Y hI0 (RD.rb (hD.last _) hn) d hd name (Z.last+1)) ?_)
 rintro β1 _ _ cV ⟨L1,rfl,rfl,dw⟩
 replace aH:=aH.trans cV
 refine jC 1 [] [(0,A_ 3 nO 12)] [(3,(zC (rV (dX ({Z with last:=Z.last+1}:RS) d name (Z.last+1)) Y)))] (NS ?_)
 have hl1:(dX ({Z with last:=Z.last+1}:RS) d name (Z.last+1)).ns.length=Z.ns.length:=Ga
 exact jN 5 [28,30] (λvQ=>[(2,a_ 3 nO),(3,A_ 4 SB 10)]) (λ_=>[]) (λvQ=>.aD vQ [vI (Z.last+1),vI (x.kind),vI (x.mode),vI (x.cO),vI (x.cQ),vI (Z.cS),vI (Z.cZ),.slice none (0) (0),.string x.target,.slice none (0) (0)] 102) (λvQ=>mM 0 22 (some ⟨vQ,0,none⟩) 1 1 [vI (Z.last+1),vI (x.kind),vI (x.mode),vI (x.cO),vI (x.cQ),vI (Z.cS),vI (Z.cZ),.slice none (0) (0),.string x.target,.slice none (0) (0)] rfl (gi (j:=6) rfl) (λqf qg=>aE.cT 0 rfl (Ik (n:=({x with id:=Z.last+1,bJ:=Z.cS,bh:=Z.cZ}:aP)) (by show x.data.length=0;rw [hxd];rfl) (by show x.aq.length=0;rw [Mq];rfl)) (sl 31 (.slice qf (((dX ({Z with last:=Z.last+1}:RS) d name (Z.last+1)).ns.length)+1) (qg)) (.slice qf (((dX ({Z with last:=Z.last+1}:RS) d name (Z.last+1)).ns++[({x with id:=Z.last+1,bJ:=Z.cS,bh:=Z.cZ}:aP)]).length) (qg)) (by rw [←oh]) (jC 3 [] [(2,a_ 3 nO)] [(3,[(0,.slice qf (((dX ({Z with last:=Z.last+1}:RS) d name (Z.last+1)).ns++[({x with id:=Z.last+1,bJ:=Z.cS,bh:=Z.cZ}:aP)]).length) (qg))])] (NS (jC 2 [] [(0,A_ 3 nO 12),(1,A_ 5 b24 12)] [(5,[(0,.slice qf (((dX ({Z with last:=Z.last+1}:RS) d name (Z.last+1)).ns++[({x with id:=Z.last+1,bJ:=Z.cS,bh:=Z.cZ}:aP)]).length) (qg)),(1,.slice Y.G ((dX ({Z with last:=Z.last+1}:RS) d name (Z.last+1)).aJ.length) (Y.cg)),(2,vI ((dX ({Z with last:=Z.last+1}:RS) d name (Z.last+1)).cH)),(3,vI ((dX ({Z with last:=Z.last+1}:RS) d name (Z.last+1)).aL)),(4,.slice Y.H ((dX ({Z with last:=Z.last+1}:RS) d name (Z.last+1)).us.length) (Y.ch)),(5,.slice Y.V ((dX ({Z with last:=Z.last+1}:RS) d name (Z.last+1)).us.length) (Y.cv)),(6,vI ((dX ({Z with last:=Z.last+1}:RS) d name (Z.last+1)).cN)),(7,vI ((dX ({Z with last:=Z.last+1}:RS) d name (Z.last+1)).cB)),(8,vI ((dX ({Z with last:=Z.last+1}:RS) d name (Z.last+1)).cH)),(9,vI ((dX ({Z with last:=Z.last+1}:RS) d name (Z.last+1)).cS)),(10,vI ((dX ({Z with last:=Z.last+1}:RS) d name (Z.last+1)).cZ)),(11,vI ((dX ({Z with last:=Z.last+1}:RS) d name (Z.last+1)).last))])] (eO [A_ 5 b24 12] aH ⟨qf,qg,_,rfl,rfl,dw.snoc (n:=({x with id:=Z.last+1,bJ:=Z.cS,bh:=Z.cZ}:aP)) rfl hxd Mq rfl,by rw [←hl1];exact⟨t8 rfl,t8 rfl⟩⟩)))))) (n:=(dX ({Z with last:=Z.last+1}:RS) d name (Z.last+1)).ns.length) (hb:=by have:=hD.ns;omega))
theorem yc {β:Bs} (Z:RS) (Y:RL) (hR:dP β Z Y) (hB:RB Z) :
 bN Tryz.prog β 97 #[.agg ⟨rV Z Y⟩] [] (λβ' v l=>∃Y',v=.agg ⟨rV (gu Z) Y'⟩/\l=[]/\dP β' (gu Z) Y'):=by
 refine mK Tryz.func97 Tryz.ntmps97 (λaH R=>SR (jB 1 [1] (λnH=>.aD nH (rV Z Y) 45) (λnH=>jB 1 [2] (λyH=>.aD yH (rZ) 45) (λyH=>NS (jB 2 [3] (λb30=>.aD b30 [] 102) (λb30=>NS (aE.mem (λw hS=>hS.oo (i:=3) (b:=b30) (cs:=[]) (e:=102) 10 0 d6 rfl d8) (jB 2 [4] (λtO=>.aD tO [] 3) (λtO=>NZ (aE.mem (λw hS=>hS.oo (i:=4) (b:=tO) (cs:=[]) (e:=3) 1 0 d6 rfl d8) (jK 1 [5] [] (NN (ax.block (lJ (λ(i,p,K,An,cn,l,Ag,cg)=>(i<=Z.ns.length)/\(p=s5 Z i)/\(l=pR Z i)/\(ou β p p.length K)) (λ(i,p,K,An,cn,l,Ag,cg)=>Z.ns.length-i) (λ(i,p,K,An,cn,l,Ag,cg)=>(zT7 nH yH An p cn Ag l cg i)) (λ(i,p,K,An,cn,l,Ag,cg)=>(qu nH Z Y yH++[.abs (aK 102 10 An p.length cn (bP K p)),Xl Ag l cg,.abs R])) (0,[],H7,some ⟨b30,0,none⟩,0,[],some ⟨tO,0,none⟩,0) [1,2,3,4,0] (⟨L4 _,rfl,rfl,⟨λi hi=>KB hi (N5 i),λi hi=>KB hi (N5 i)⟩⟩) ?_))))))))))))))
 rintro⟨i,p,K,An,cn,l,Ag,cg⟩ ⟨hi,hp,hl,hK⟩
 have hbn:=hB.ns
 have hpl:p.length<=i:=by rw [hp];exact Mn
 have hll:l.length<=i:=by rw [hl];exact Xi
 refine SQ (jK 6 [16] [(3,a_ 0 nH)] (NN (cP ((((i:Nat):Int):Int)<(((Z.ns.length:Nat):Int):Int)) (λpz=>?_) (λpz=>?_))))
 ·refine KX (ax.seq (ax.block (SR (jK 8 [6] [(2,a_ 0 nH),(4,x_ i Z.ns.length (aO.hd hR.n (i:=i) d5)),(6,r_ (aO.rd hR.n (i:=i) d5 (j:=0) rfl))] (NS (jK 1 [7] [] (NZ (jK 1 [8] [] (NN (ax.block (lJ (λ(k,op)=>(k<=Z.us.length)/\(op=true↔∃q,q<k/\(jc Z.us).getD q 0=(nd Z.ns i).id)) (λ(k,op)=>Z.us.length-k) (λ(k,op)=>(zT7 nH yH An p cn Ag l cg i++[(6,vI ((nd Z.ns i).id)),(7,.bool op),(8,vI ↑k)])) (λ(k,op)=>(qu nH Z Y yH++[.abs (aK 102 10 An p.length cn (bP K p)),Xl Ag l cg,.abs R])) (0,false) [0,1,2,3,4] (⟨L4 _,⟨λe=>(by cases e),λ⟨q,h,_⟩=>KB h (N5 q)⟩⟩) ?_)))))))))))
  rintro⟨k,op⟩ ⟨hk,cA⟩
  have hbu:=hB.us
  refine SQ (jK 6 [31] [(3,a_ 0 nH)] (NN (cP ((((k:Nat):Int):Int)<(((Z.us.length:Nat):Int):Int)) (λLB=>KX (ax.seq (ax.block (SR (jK 8 [41] [(2,a_ 0 nH),(4,x_ k Z.us.length (xu.hd (l:=(jc Z.us)) hR.v (j:=k) (by grind [kz,mE]))),(5,r_ (xu.rd (l:=(jc Z.us)) hR.v (j:=k) (by grind [kz,mE])))] (NN (cP ((((jc Z.us).getD k 0):Int)=((nd Z.ns i).id:Int)) (λzY=>ax.region (jK 1 [7] [] (LX (ax.region (jK 3 [8] [(1,wJ ((k:Int)+1) (↑(k+1)))] (NL (tJ ((k+1),true) [0,1,2,3,4] (⟨d5,⟨λ_=>⟨k,d5,zY⟩,λ_=>rfl⟩⟩)))))))) (λzY=>KX (ax.region (jK 3 [8] [(1,wJ ((k:Int)+1) (↑(k+1)))] (NL (tJ ((k+1),op) [0,1,2,3,4] (⟨d5,⟨λe=>let ⟨q,h1,h2⟩:=cA.1 e;⟨q,d5,h2⟩,λ⟨q,h1,h2⟩=>cA.2 gn⟩⟩))))))))))))) (λLB=>XX (ax.seq (SR ?_))))))
  replace cA:op=true↔(nd Z.ns i).id∈jc Z.us:=cA.trans (by rw [show k=Z.us.length by omega];exact agJ.symm)
  refine jK 2 [42,43] [(0,A_ 0 nH 12)] (gE [] (Aj Z Y hR hB (nd Z.ns i).id) (jK 1 [45] [] (sP 45 ((nd Z.ns i).id∈Z.aJ) (λvz=>?_) (λvz=>?_))))
  ·refine jK 2 [47] [] (jK 1 [48] [] (NN (ax.cond (b:=(!op)) (λ_=>d6) (λh48=>?_) (λh48=>?_))))
   ·refine XX (ax.region (jK 3 [5] [(1,wJ ((i:Int)+1) (↑(i+1)))] (NL ?_)))
    have hnk:¬rO Z (nd Z.ns i)=true:=λe=>by grind [Ii]
    exact tJ ((i+1),p,K,An,cn,l,Ag,cg) [0,1,2,3,4] (⟨d5,by rw [hp,Pu d5 hnk],by rw [hl,UJ d5 hnk],hK⟩)
   have hkp:rO Z (nd Z.ns i)=true:=Ii.2 (λhg=>cA.1 (by simpa using h48))
   refine KX (ax.join (λ(l2,A2,c2)=>(l2=pR Z (i+1))) (λ(l2,A2,c2)=>(zT7 nH yH An p cn A2 l2 c2 i)) (λ(l2,A2,c2)=>(qu nH Z Y yH++[.abs (aK 102 10 An p.length cn (bP K p)),Xl A2 l2 c2,.abs R])) ?_ (SR (jK 2 [49,50] [(0,A_ 0 nH 12)] (gE [] (Aj Z Y hR hB (nd Z.ns i).id) (NN (cP ((nd Z.ns i).id∈Z.aJ) (λvZ=>ax.region (jB 3 [52,54] (λEk=>.aD Ek [vI ((nd Z.ns i).id)] 3) (λEk=>mM 3 41 (some ⟨Ek,0,none⟩) 1 1 [vI ((nd Z.ns i).id)] rfl (gi (j:=5) rfl) (λA36 c37=>aE.cT 3 rfl (E0) (sl 55 (.slice A36 (l.length+1) (c37)) (.slice A36 ((l++[(nd Z.ns i).id]).length) (c37)) (by rw [←oh]) (jK 1 [4] [] (NL (mJ ((l++[(nd Z.ns i).id]),A36,c37) [0,1,2,3,4] (by rw [hl,Mk d5 hkp vZ]))))))))) (λvZ=>ax.skip (mJ (l,Ag,cg) [0,1,2,3,4] (by rw [hl,Pv d5 hkp vZ])))))))))
   rintro⟨l2,A2,c2⟩ hl2
   exact ax.region (jN 8 [56,63] (λb32=>[(3,a_ 0 nH),(5,x_ i Z.ns.length (aO.hd hR.n (i:=i) d5)),(6,Eh (iL Y.L i (nd Z.ns i)) (λ_ _ h=>aO.rd hR.n d5 h))]) (λ_=>[]) (λb32=>.aD b32 (iL Y.L i (nd Z.ns i)) 102) (λb32=>mM 2 22 (some ⟨b32,0,none⟩) 1 1 (iL Y.L i (nd Z.ns i)) rfl (gi (j:=5) rfl) (λMr Ms=>aE.cT 2 rfl (Ik (n:=nd Z.ns i) rfl rfl) (sl 64 (.slice Mr (p.length+1) (Ms)) (.slice Mr ((p++[nd Z.ns i]).length) (Ms)) (by rw [←oh]) (jK 1 [3] [] (LX (ax.region (jK 3 [5] [(1,wJ ((i:Int)+1) (↑(i+1)))] (NL (tJ ((i+1),(p++[nd Z.ns i]),(K.put p.length (Y.L.dA i) (Y.L.dC i) (Y.L.eA i) (Y.L.eC i)),Mr,Ms,l2,A2,c2) [0,1,2,3,4] (⟨d5,by rw [hp,BJ d5 hkp],hl2,hK.snoc (hR.n.data i d5) (hR.n.aq i d5)⟩)))))))))))
  refine jK 2 [47] [] ?_
  have hkp:rO Z (nd Z.ns i)=true:=Ii.2 (λhg=>KB hg vz)
  refine jK 1 [48] [] (NF (KX (ax.join (λ(l2,A2,c2)=>(l2=pR Z (i+1))) (λ(l2,A2,c2)=>(zT7 nH yH An p cn A2 l2 c2 i)) (λ(l2,A2,c2)=>(qu nH Z Y yH++[.abs (aK 102 10 An p.length cn (bP K p)),Xl A2 l2 c2,.abs R])) ?_ (SR (jK 2 [49,50] [(0,A_ 0 nH 12)] (gE [] (Aj Z Y hR hB (nd Z.ns i).id) (NN (cP ((nd Z.ns i).id∈Z.aJ) (λvZ=>ax.region (jB 3 [52,54] (λb41=>.aD b41 [vI ((nd Z.ns i).id)] 3) (λb41=>mM 3 41 (some ⟨b41,0,none⟩) 1 1 [vI ((nd Z.ns i).id)] rfl (gi (j:=5) rfl) (λA42 c43=>aE.cT 3 rfl (E0) (sl 55 (.slice A42 (l.length+1) (c43)) (.slice A42 ((l++[(nd Z.ns i).id]).length) (c43)) (by rw [←oh]) (jK 1 [4] [] (NL (mJ ((l++[(nd Z.ns i).id]),A42,c43) [0,1,2,3,4] (by rw [hl,Mk d5 hkp vZ]))))))))) (λvZ=>ax.skip (mJ (l,Ag,cg) [0,1,2,3,4] (by rw [hl,Pv d5 hkp vZ])))))))))))
  rintro⟨l2,A2,c2⟩ hl2
  exact ax.region (jN 8 [56,63] (λAp=>[(3,a_ 0 nH),(5,x_ i Z.ns.length (aO.hd hR.n (i:=i) d5)),(6,Eh (iL Y.L i (nd Z.ns i)) (λ_ _ h=>aO.rd hR.n d5 h))]) (λ_=>[]) (λAp=>.aD Ap (iL Y.L i (nd Z.ns i)) 102) (λAp=>mM 2 22 (some ⟨Ap,0,none⟩) 1 1 (iL Y.L i (nd Z.ns i)) rfl (gi (j:=5) rfl) (λA39 c40=>aE.cT 2 rfl (Ik (n:=nd Z.ns i) rfl rfl) (sl 64 (.slice A39 (p.length+1) (c40)) (.slice A39 ((p++[nd Z.ns i]).length) (c40)) (by rw [←oh]) (jK 1 [3] [] (LX (ax.region (jK 3 [5] [(1,wJ ((i:Int)+1) (↑(i+1)))] (NL (tJ ((i+1),(p++[nd Z.ns i]),(K.put p.length (Y.L.dA i) (Y.L.dC i) (Y.L.eA i) (Y.L.eC i)),A39,c40,l2,A2,c2) [0,1,2,3,4] (⟨d5,by rw [hp,BJ d5 hkp],hl2,hK.snoc (hR.n.data i d5) (hR.n.aq i d5)⟩)))))))))))
 refine XX (SR ?_)
 have hie:i=Z.ns.length:=d5
 rw [hie] at hp hl
 refine aE.mA (Φ:=λβ'=>cE β' An (bP K p)) 2 [0,1,3,4] (fY:=(qu nH Z Y yH++[Xl Ag l cg,.abs R])) rfl rfl d6 (λF w h β' h1 h2=>cE.iD h h1 h2) (λβ1 cV hN=>?_)
 replace hR:=hR.le cV
 replace hK:=hK.le cV
 replace aH:=aH.trans cV
 refine aE.mA (Φ:=λβ'=>cE β' Ag (bG l)) 2 [0,1,3] (fY:=(qu nH Z Y yH++[.abs R])) rfl rfl d6 (λF w h β' h1 h2=>cE.iD h h1 h2) (λoL fo hG=>?_)
 replace hR:=hR.le fo
 replace hK:=hK.le fo
 replace hN:=hN.le fo
 replace aH:=aH.trans fo
 exact jC 4 [] [(3,a_ 0 nH)] [(0,[(0,.slice An (p.length) (cn))])] (NS (jC 3 [] [(2,a_ 0 nH)] [(0,[(1,.slice Ag (l.length) (cg))])] (NS (jC 2 [] [(0,A_ 0 nH 12),(1,A_ 1 yH 12)] [(1,([(0,.slice An (p.length) (cn)),(1,.slice Ag (l.length) (cg))]++aev Z Y++zT8 Z))] (eO [A_ 1 yH 12] aH ⟨⟨An,cn,K,Ag,cg,Y.H,Y.ch,Y.V,Y.cv⟩,by simp only [rV];rw [Pz hp,JS hl]<;>rfl,rfl,aaq hR hN hG hp hl hK⟩ [2])))))
theorem PA {β:Bs} (Z:RS) (Y:RL) (hR:dP β Z Y) (hC:RU Z) (k:Nat) (hk:k<Z.ns.length) :
 bN Tryz.prog β 88 #[.agg ⟨rV Z Y⟩,vI (((k:Nat):Int))] [] (λβ' v l=>∃Y',v=.tuple #[.agg ⟨rV ((l5 Z k).1) Y'⟩,vI (l5 Z k).2.1,vI (l5 Z k).2.2]/\l=[]/\dP β' (l5 Z k).1 Y'):=by
 refine mK Tryz.func88 Tryz.ntmps88 (λaH R=>SR (jB 1 [2] (λsu=>.aD su (rV Z Y) 45) (λsu=>jB 3 [4] (λwo=>.aD wo (rZ) 45) (λwo=>NN (ax.seq ?_)))))
 by_cases hf:(Z.us.length:Int)<Z.cH
 ·refine ax.o7 (S:=[.aD su (rV Z Y) 45]) (uR [0,1,2,3,4,5,6,7,8] (oJ 14 [(false,15),(false,16),(false,17)] [(false,9),(true,10),(true,11),(true,12),(true,13)])) [1] (gT (oJ 14 [(false,15),(false,16),(false,17)] [(false,9),(true,10),(true,11),(true,12),(true,13)]) (aes su wo Z Y k) [0,1,2,3,4,5,6,7,8] [(1,A_ 0 su 4),(4,a_ 0 su),(6,x_ k Z.ns.length (aO.hd hR.n (i:=k) d5)),(8,r_ (aO.rd hR.n (i:=k) d5 (j:=0) rfl))] (lK.one (j:=14) (dj:=7) (R:=λf_ l_=>∃A1:Option Addr,∃c1:Nat,∃B1:Option Addr,∃d1:Nat,f_=[(23,vI 0),(22,vI ((aI.aS Z.us))),(21,.agg #[vI (Z.cH),vI ((max Z.aL ((Z.us.length:Int)+1))),.slice A1 ((ins (aI.aS Z.us) (nd Z.ns k).id Z.us).length) (c1),.slice B1 ((ins (aI.aS Z.us) (nd Z.ns k).id Z.us).length) (d1)]),(10,.tuple #[.agg #[vI (Z.cH),vI ((max Z.aL ((Z.us.length:Int)+1))),.slice A1 ((ins (aI.aS Z.us) (nd Z.ns k).id Z.us).length) (c1),.slice B1 ((ins (aI.aS Z.us) (nd Z.ns k).id Z.us).length) (d1)],vI ((aI.aS Z.us)),vI 0]),(20,.tuple #[.agg #[vI (Z.cH),vI ((max Z.aL ((Z.us.length:Int)+1))),.slice A1 ((ins (aI.aS Z.us) (nd Z.ns k).id Z.us).length) (c1),.slice B1 ((ins (aI.aS Z.us) (nd Z.ns k).id Z.us).length) (d1)],vI ((aI.aS Z.us)),vI 0]),(2,vP su),(4,vP wo),(12,.agg #[vI (Z.cH),vI (Z.aL),.slice Y.H (Z.us.length) (Y.ch),.slice Y.V (Z.us.length) (Y.cv)]),(19,vI ((nd Z.ns k).id))]/\l_=[zT4 A1 Z k c1,zT5 B1 Z k d1]) [1] [(false,9,20),(true,10,10),(true,11,21),(true,12,22),(true,13,23)] (gJ.of (ι:=Nat) (v:=λ(tP:Nat)=>vP tP) (l:=λ(tP:Nat)=>[.aD tP [vI 0,vI 0,.slice none (0) (0),.slice none (0) (0)] 43]) [20,10,21,22,23] rfl rfl rfl rfl ?_) ?_ ?_))
  ·intro u Aq
   exact jB 1 [7] (λtP=>.aD tP [vI 0,vI 0,.slice none (0) (0),.slice none (0) (0)] 43) (λtP=>NL (MD tP [7,20,10,21,22,23,2,4,12,19] [1,0]))
  ·refine dO.step (gJ.of (ι:=(Option Addr)×Nat×(Option Addr)×Nat) (v:=λ((A1,c1,B1,d1):(Option Addr)×Nat×(Option Addr)×Nat)=>.tuple #[.agg #[vI (Z.cH),vI ((max Z.aL ((Z.us.length:Int)+1))),.slice A1 ((ins (aI.aS Z.us) (nd Z.ns k).id Z.us).length) (c1),.slice B1 ((ins (aI.aS Z.us) (nd Z.ns k).id Z.us).length) (d1)],vI ((aI.aS Z.us)),vI 0]) (l:=λ((A1,c1,B1,d1):(Option Addr)×Nat×(Option Addr)×Nat)=>[zT4 A1 Z k c1,zT5 B1 Z k d1]) [7] rfl rfl rfl rfl ?_) ?_
   ·intro u Aq
    refine gL [] (ac1 Z.cH Z.aL Y.H Y.V Y.ch Y.cv Z.us hR.h hR.v (by have:=hC.us;omega) hC.usr hC.wj (nd Z.ns k).id hf) ?_
    rintro _ _ ⟨A1,c1,B1,d1,rfl,rfl⟩
    exact NL (MD (A1,c1,B1,d1) [20,7,2,4,12,19] [0,1,2])
   rintro _ _ ⟨⟨A1,c1,B1,d1⟩,rfl,rfl⟩
   exact (dO.read (.tuple #[.agg #[vI (Z.cH),vI ((max Z.aL ((Z.us.length:Int)+1))),.slice A1 ((ins (aI.aS Z.us) (nd Z.ns k).id Z.us).length) (c1),.slice B1 ((ins (aI.aS Z.us) (nd Z.ns k).id Z.us).length) (d1)],vI ((aI.aS Z.us)),vI 0]) (dO.read (.agg #[vI (Z.cH),vI ((max Z.aL ((Z.us.length:Int)+1))),.slice A1 ((ins (aI.aS Z.us) (nd Z.ns k).id Z.us).length) (c1),.slice B1 ((ins (aI.aS Z.us) (nd Z.ns k).id Z.us).length) (d1)]) (dO.read (.int .i64 ((aI.aS Z.us))) (dO.read (.int .i64 0) ⟨A1,c1,B1,d1,rfl,rfl⟩))))
  rintro _ _ ⟨A1,c1,B1,d1,rfl,rfl⟩ _ _ ⟨tP,rfl,rfl⟩
  refine kC [4] [] [(0,A_ 2 tP 4)] [(2,[(0,vI (Z.cH)),(1,vI ((max Z.aL ((Z.us.length:Int)+1)))),(2,.slice A1 ((ins (aI.aS Z.us) (nd Z.ns k).id Z.us).length) (c1)),(3,.slice B1 ((ins (aI.aS Z.us) (nd Z.ns k).id Z.us).length) (d1))])] (eu.cut (ι:=Unit) (bQ:=λ(_:Unit)=>[(2,vP su),(4,vP wo),(7,vP tP),(8,vI (aI.aS Z.us)),(23,vI 0)]) (dz:=λ(_:Unit)=>([zT4 A1 Z k c1,zT5 B1 Z k d1,zT6 tP Z A1 k c1 B1 d1,.abs R]++qu su Z Y wo)) [4] d6 ?_ rfl (λ_=>d6) ?_)
  ·exact jK 1 [8] [] (NL (MD () [2,4,7,8,23] [0,1,2,3,4,5]))
  rintro _
  refine eu.last d6 (jK 1 [9] [] (NL (aF.np (NX (SR (aE.mA (Φ:=λβ'=>cE β' A1 (bG (aY (ins (aI.aS Z.us) (nd Z.ns k).id Z.us)))) 0 [1,2,3,4,5] (fY:=([zT5 B1 Z k d1,zT6 tP Z A1 k c1 B1 d1,.abs R]++qu su Z Y wo)) rfl rfl d6 (λF w h β' h1 h2=>cE.iD h h1 h2) (λβ1 cV hH=>?_)))))))
  replace hR:=hR.le cV
  replace aH:=aH.trans cV
  refine aE.mA (Φ:=λβ'=>cE β' B1 (bG (jc (ins (aI.aS Z.us) (nd Z.ns k).id Z.us)))) 0 [1,2,3,4] (fY:=([zT6 tP Z A1 k c1 B1 d1,.abs R]++qu su Z Y wo)) rfl rfl d6 (λF w h β' h1 h2=>cE.iD h h1 h2) (λoL fo hV=>?_)
  replace hR:=hR.le fo
  replace hH:=hH.le fo
  replace aH:=aH.trans fo
  exact jC 3 [] [(0,A_ 0 tP 4),(2,A_ 2 su 4)] [(2,(aeu Z A1 k c1 B1 d1))] (NS (jC 6 [5,6] [(0,A_ 2 su 12),(3,A_ 3 wo 12)] [(3,([(0,.slice Y.A (Z.ns.length) (Y.c)),(1,.slice Y.G (Z.aJ.length) (Y.cg)),(2,vI (Z.cH))]++aeu Z A1 k c1 B1 d1++zT8 Z))] (eO [A_ 3 wo 12] aH ⟨⟨Y.A,Y.c,Y.L,Y.G,Y.cg,A1,c1,B1,d1⟩,by rw [Py hf]<;>rfl,rfl,by rw [Py hf];exact⟨⟨hR.g,hH,hV⟩,hR.n⟩⟩ [1])))
 refine ax.o7 (S:=[.aD su (rV Z Y) 45]) (uR [0,1,2,3,4,5,6,7,8] (oJ 14 [(false,15),(false,16),(false,17)] [(false,9),(true,10),(true,11),(true,12),(true,13)])) [1] (gT (oJ 14 [(false,15),(false,16),(false,17)] [(false,9),(true,10),(true,11),(true,12),(true,13)]) (aes su wo Z Y k) [0,1,2,3,4,5,6,7,8] [(1,A_ 0 su 4),(4,a_ 0 su),(6,x_ k Z.ns.length (aO.hd hR.n (i:=k) d5)),(8,r_ (aO.rd hR.n (i:=k) d5 (j:=0) rfl))] (lK.one (j:=14) (dj:=7) (R:=λf_ l_=>f_=[(23,vI 130),(22,vI 0),(21,.agg #[vI (Z.cH),vI (Z.aL),.slice Y.H (Z.us.length) (Y.ch),.slice Y.V (Z.us.length) (Y.cv)]),(10,.tuple #[.agg #[vI (Z.cH),vI (Z.aL),.slice Y.H (Z.us.length) (Y.ch),.slice Y.V (Z.us.length) (Y.cv)],vI 0,vI 130]),(20,.tuple #[.agg #[vI (Z.cH),vI (Z.aL),.slice Y.H (Z.us.length) (Y.ch),.slice Y.V (Z.us.length) (Y.cv)],vI 0,vI 130]),(2,vP su),(4,vP wo),(12,.agg #[vI (Z.cH),vI (Z.aL),.slice Y.H (Z.us.length) (Y.ch),.slice Y.V (Z.us.length) (Y.cv)]),(19,vI ((nd Z.ns k).id))]/\l_=[]) [1] [(false,9,20),(true,10,10),(true,11,21),(true,12,22),(true,13,23)] (gJ.of (ι:=Nat) (v:=λ(x9:Nat)=>vP x9) (l:=λ(x9:Nat)=>[.aD x9 [vI 0,vI 0,.slice none (0) (0),.slice none (0) (0)] 43]) [20,10,21,22,23] rfl rfl rfl rfl ?_) ?_ ?_))
 ·intro u Aq
  exact jB 1 [7] (λx9=>.aD x9 [vI 0,vI 0,.slice none (0) (0),.slice none (0) (0)] 43) (λx9=>NL (MD x9 [7,20,10,21,22,23,2,4,12,19] [1,0]))
 ·refine dO.step (gJ.of (ι:=Unit) (v:=λ(_:Unit)=>.tuple #[.agg #[vI (Z.cH),vI (Z.aL),.slice Y.H (Z.us.length) (Y.ch),.slice Y.V (Z.us.length) (Y.cv)],vI 0,vI 130]) (l:=λ(_:Unit)=>[]) [7] rfl rfl rfl rfl ?_) ?_
  ·intro u Aq
   exact gE [] (aaf Z.cH Z.aL Y.H Y.V Y.ch Y.cv Z.us (nd Z.ns k).id d5) (NL (MD () [20,7,2,4,12,19] [0]))
  rintro _ _ ⟨_,rfl,rfl⟩
  exact (dO.read (.tuple #[.agg #[vI (Z.cH),vI (Z.aL),.slice Y.H (Z.us.length) (Y.ch),.slice Y.V (Z.us.length) (Y.cv)],vI 0,vI 130]) (dO.read (.agg #[vI (Z.cH),vI (Z.aL),.slice Y.H (Z.us.length) (Y.ch),.slice Y.V (Z.us.length) (Y.cv)]) (dO.read (.int .i64 0) (dO.read (.int .i64 130) ⟨rfl,rfl⟩))))
 rintro _ _ ⟨rfl,rfl⟩ _ _ ⟨x9,rfl,rfl⟩
 refine kC [2] [] [(0,A_ 0 x9 4)] [(0,[(0,vI (Z.cH)),(1,vI (Z.aL)),(2,.slice Y.H (Z.us.length) (Y.ch)),(3,.slice Y.V (Z.us.length) (Y.cv))])] (eu.cut (ι:=Unit) (bQ:=λ(_:Unit)=>[(2,vP su),(4,vP wo),(7,vP x9),(8,vI 0),(23,vI 130)]) (dz:=λ(_:Unit)=>([.aD x9 [vI (Z.cH),vI (Z.aL),.slice Y.H (Z.us.length) (Y.ch),.slice Y.V (Z.us.length) (Y.cv)] 43,.abs R]++qu su Z Y wo)) [2] d6 ?_ rfl (λ_=>d6) ?_)
 ·exact jK 1 [8] [] (NL (MD () [2,4,7,8,23] [0,1,2,3]))
 rintro _
 exact eu.last d6 (jK 1 [9] [] (NL (aF.np (NX (SR (jC 3 [] [(0,A_ 0 x9 4),(2,A_ 2 su 4)] [] (NS (jC 6 [5,6] [(0,A_ 2 su 12),(3,A_ 3 wo 12)] [(3,(zC (rV Z Y)))] (eO [A_ 3 wo 12] aH ⟨Y,by rw [Sz hf]<;>rfl,rfl,by rw [Sz hf];exact hR⟩ [1])))))))))
end
section
open Go.RowKit Go.Maps bw aI
section q
variable {β β':Bs} {N:fN} {Q:Post} {e:Exit} {fr:Fr} {aB l:List HP}
theorem aF.freeze (R:List HP) (pk:List Nat) (hn:bS pk=true) (hp:cR aB pk=some (l++R)) (K:∀β':Bs,β.le β'->oF β R β'->aF β' N Q e fr l):aF β N Q e fr aB:=λav w hS=>by
 obtain⟨β',h,_,iA⟩:=(hS.pick hn hp).uf
 exact K β' h.le h av w iA
variable {P:Program} {ops:Array Oper} {k:Nat}
theorem aE.freeze (R:List HP) (pk:List Nat) (hn:bS pk=true) (hp:cR aB pk=some (l++R)) (K:∀β':Bs,β.le β'->oF β R β'->aE P β' N ops k fr l Q):aE P β N ops k fr aB Q:=λav w hS=>by
 obtain⟨β',h,_,iA⟩:=(hS.pick hn hp).uf
 exact K β' h.le h av w iA
theorem aF.eM (ix:List Nat) (R:List HP) (K:∀β':Bs,β.le β'->oF β R β'->aF β' N Q e fr (lS ix aB 0)) (hn:bS (oq ix aB.length 0++ix)=true:=by kernel_rfl) (hp:cR aB (oq ix aB.length 0++ix)=some (lS ix aB 0++R):=by kernel_rfl):aF β N Q e fr aB:=aF.freeze R _ hn hp K
theorem aE.eM (ix:List Nat) (R:List HP) (K:∀β':Bs,β.le β'->oF β R β'->aE P β' N ops k fr (lS ix aB 0) Q) (hn:bS (oq ix aB.length 0++ix)=true:=by kernel_rfl) (hp:cR aB (oq ix aB.length 0++ix)=some (lS ix aB 0++R):=by kernel_rfl):aE P β N ops k fr aB Q:=aE.freeze R _ hn hp K
variable {c:Code}
theorem ax.vR (i:Nat) {e:TypeId} {size n cap:Nat} {A:Option Addr} {xs:List Value} (hp:aB[i]?=some (.abs (aK e size A n cap xs))) (hn:0<n) (K:A=some ⟨cC A,cq A,none⟩->ax P β N c fr aB Q):ax P β N c fr aB Q:=λav w hS=>
 let ⟨_,h⟩:=hS.get hp;K (aK.IC h hn).1 av w hS
def abU (N:fN) {ι:Type} (B:ι->Bs) (bC:ι->Prop) (fr:ι->Fr) (hp:ι->List HP):Act->World->Prop:=λa w=>∃i,bC i/\∃av,a=fw N (fr i) av/\aQ (B i) (hp i) w
theorem ax.abV {x y:Code} {ι:Type} (B:ι->Bs) (bC:ι->Prop) (bQ:ι->Fr) (dz:ι->List HP) (hr:∀i,bC i->ax P (B i) N y (bQ i) (dz i) Q) (hf:ax P β N x fr aB (Exit.then (abU N B bC bQ dz) Q)):ax P β N (.seq x y) fr aB Q:=by
 intro av w hS
 refine wp_seq (ait (λe a w q=>?_) (hf av w hS))
 cases e with
 |normal=>
   obtain⟨i,hi,oR,rfl,iA⟩:=q
   exact hr i hi oR w iA
 |exit id=>exact q
 |goto l=>exact q
 |ret=>exact q
 |panic ch=>exact q
 |outgrown=>exact q
theorem aF.abW {ι:Type} {B:ι->Bs} {bC:ι->Prop} {bQ:ι->Fr} {dz:ι->List HP} (i:ι) (hb:B i=β) {ay pk:List Nat} (hi:bC i) (hf:∀av,kT fr av ay=bQ i) (hn:bS pk=true) (hp:cR aB pk=some (dz i)) :
 aF β N (Exit.then (abU N B bC bQ dz) Q) .normal fr aB:=λav _ hS=>⟨i,hi,lk fr av,by rw [o8 N fr av ay,hf av],hb ▸ hS.pick hn hp⟩
end q
section k
variable {P:Program} {β β':Bs} {R R':RS} {f:FuncId} {args:Array Value} {x:Value} {ns ns':List aP} {L:fk} {A B G H V:Option Addr} {c cb cg ch cv d k to:Nat} {n:aP} {bs ds:List UInt8} {name aG:ByteArray} {c0:aN}
structure CM (β:Bs) (R:RS) (L:fk) (H V:Option Addr) (k:Nat):Prop where
 data:∀i,i<R.ns.length->i≠k->ck β (L.dA i) (nd R.ns i).data
 aq:∀i,i<R.ns.length->cU β (L.eA i) (nd R.ns i).aq
 h:cE β H (bG (aY R.us))
 v:cE β V (bG (jc R.us))
theorem CM.le (h:CM β R L H V k) (dV:β.le β'):CM β' R L H V k:=⟨λi hi hk=>(h.data i hi hk).le dV,λi hi=>(h.aq i hi).le dV,h.h.le dV,h.v.le dV⟩
theorem CM.at (h:CM β R L H V k) (hA:B=L.dA k) (hd:ds=(nd R.ns k).data) (g:oF β [.abs (aK 102 10 A R.ns.length c (bP L R.ns)),.abs (aK 3 1 G R.aJ.length cg (bG R.aJ)),.abs (aK 5 1 B ds.length cb (ez ds))] β'):dP β' R ⟨A,c,L,G,cg,H,ch,V,cv⟩:=by
 obtain⟨F,h1,h2⟩:=g.get 0 rfl
 obtain⟨F2,g1,g2⟩:=g.get 1 rfl
 obtain⟨F3,k1,k2⟩:=g.get 2 rfl
 have h':=h.le g.le
 refine⟨⟨cE.iD g1 g2 rfl,h'.h,h'.v⟩,cE.iD h1 h2 rfl,λi hi=>?_,h'.aq⟩
 by_cases e:i=k
 ·subst e;rw [←hA,←hd];exact cE.iD k1 k2 rfl
 exact h'.data i hi e
theorem PB (h:CM β R L H V k) (hA:B=L.dA k) (hd:ds=(nd R.ns k).data) (hs:∀β',β.le β'->dP β' R ⟨A,c,L,G,cg,H,ch,V,cv⟩->aW P β' f args [] (λv l=>v=x/\l=[])) :
 aW P β f args [.abs (aK 102 10 A R.ns.length c (bP L R.ns)),.abs (aK 3 1 G R.aJ.length cg (bG R.aJ)),.abs (aK 5 1 B ds.length cb (ez ds))] (λv l=>v=x/\l=[.abs (aK 102 10 A R.ns.length c (bP L R.ns)),.abs (aK 3 1 G R.aJ.length cg (bG R.aJ)),.abs (aK 5 1 B ds.length cb (ez ds))]):=
 (aW.uf (pre:=[]) (R:=[.abs (aK 102 10 A R.ns.length c (bP L R.ns)),.abs (aK 3 1 G R.aJ.length cg (bG R.aJ)),.abs (aK 5 1 B ds.length cb (ez ds))]) (λβ' g=>hs β' g.le (h.at hA hd g))).mono (by rintro v l ⟨l0,⟨rfl,rfl⟩,rfl⟩;exact⟨rfl,rfl⟩)
theorem CM.set (h:CM β R L H V k) (hk:k<R.ns.length) (hn:R'.ns=R.ns.set k n) (he:n.aq=(nd R.ns k).aq) (hu:R'.us=R.us):CM β R' (L.dat k B c) H V k:=by
 refine⟨λi hi hk2=>?_,λi hi=>?_,by rw [hu];exact h.h,by rw [hu];exact h.v⟩
 ·rw [hn,T7] at hi
  rw [hn,vS hk,nw hk2]
  show ck β (if i=k then B else L.dA i) _
  rw [nw hk2];exact h.data i hi hk2
 rw [hn,T7] at hi
 rw [hn,vS hk]
 by_cases e:i=k
 ·rw [t8 e,he];subst e;exact h.aq i hi
 rw [nw e];exact h.aq i hi
theorem SC {m:Nat} (h:ds.length=m):bs.length+m=(bs++ds).length:=by rw [T3,h]
theorem Xm {m:Nat} (h:ds.length=m):HP.abs (aK 5 1 B (bs.length+m) c (ez bs++ez ds))=HP.abs (aK 5 1 B (bs++ds).length c (ez (bs++ds))):=by
 grind [SC,ez]
theorem aar:(L.dat k B c).dA k=B:=t8 rfl
theorem ac6 {s z:Int} (hk:k<ns.length) (h:ns'=ns.set k {nd ns k with data:=ds,bJ:=s,bh:=z}) :
 HP.abs (aK 102 10 A ns.length c ((((bP L ns).set (k*10+7) (.slice B ds.length cb)).set (k*10+5) (.int .i64 s)).set (k*10+5+1) (.int .i64 z)))=HP.abs (aK 102 10 A ns'.length c (bP (L.dat k B cb) ns')):=by
 rw [UM hk,GR (by rw [T7];exact hk),vS hk,t8 rfl,List.set_set,h,T7]
def kE (R:RS) (bs:List UInt8):Nat:=(min (bs.length:Int) (R.cB-(fX R.ns R.ns.length:Int))).toNat
def Gb (R:RS) (k:Nat) (bs:List UInt8):RS:={R with ns:=R.ns.set k {nd R.ns k with data:=(nd R.ns k).data++bs.take (kE R bs),bJ:=R.cS,bh:=R.cZ}}
theorem Xn (h:(bs.length:Int)=0):kX R k bs=(R,0,0):=t8 (aic d5)
theorem Xo (h:¬(bs.length:Int)=0) (h2:R.cB-(fX R.ns R.ns.length:Int)<=0):kX R k bs=(R,0,176):=(nw (λe=>h (by rw [e];rfl))).trans (t8 h2)
theorem Xp (h:¬(bs.length:Int)=0) (h2:¬R.cB-(fX R.ns R.ns.length:Int)<=0):kX R k bs=(Gb R k bs,(kE R bs:Int),0):=(nw (λe=>h (by rw [e];rfl))).trans (nw h2)
theorem JT (h:n.kind=3) (h1:¬lF n.target=0):cI R d name n=(R,lF n.target):=t8 ⟨h,h1⟩
theorem Nd (h:¬(n.kind=3/\lF n.target≠0)) (h1:cL R.ns d name=(k:Int)):cI R d name n=(R,171):=(nw h).trans (t8 (by rw [h1];omega))
theorem Gc (h:¬(n.kind=3/\lF n.target≠0)) (h1:cL R.ns d name = -1) (h2:¬vO R):cI R d name n=(R,177):=(nw h).trans ((nw (by rw [h1];decide)).trans (nw h2))
theorem Nf (h:¬(n.kind=3/\lF n.target≠0)) (h1:cL R.ns d name = -1) (h2:vO R):cI R d name n=(ko R d name n,0):=(nw h).trans ((nw (by rw [h1];decide)).trans (t8 h2))
variable {b:Bool}
theorem abX (h:cL R.ns d name = -1):jP R d name b=(R,170):=nw (by rw [h];decide)
theorem Gd (h:cL R.ns d name=(k:Int)):jP R d name b=if b=false/\(nd R.ns k).kind=2 then (R,172) else if b=true/\(nd R.ns k).kind≠2 then (R,173) else if b=true/\0<(nd R.ns k).aq.length then (R,178) else (gu (cY R d name true),0):=by
 grind [jP]
theorem aew (h:cL R.ns d name=(k:Int)) (h1:b=false/\(nd R.ns k).kind=2):jP R d name b=(R,172):=(Gd h).trans (t8 h1)
theorem aex (h:cL R.ns d name=(k:Int)) (h1:¬(b=false/\(nd R.ns k).kind=2)) (h2:b=true/\(nd R.ns k).kind≠2):jP R d name b=(R,173):=(Gd h).trans ((nw h1).trans (t8 h2))
theorem aey (h:cL R.ns d name=(k:Int)) (h1:¬(b=false/\(nd R.ns k).kind=2)) (h2:¬(b=true/\(nd R.ns k).kind≠2)) (h3:b=true/\0<(nd R.ns k).aq.length):jP R d name b=(R,178):=(Gd h).trans ((nw h1).trans ((nw h2).trans (t8 h3)))
theorem aez (h:cL R.ns d name=(k:Int)) (h1:¬(b=false/\(nd R.ns k).kind=2)) (h2:¬(b=true/\(nd R.ns k).kind≠2)) (h3:¬(b=true/\0<(nd R.ns k).aq.length)):jP R d name b=(gu (cY R d name true),0):=(Gd h).trans ((nw h1).trans ((nw h2).trans (nw h3)))
variable {w:Int}
theorem aeA {z:Int} (h:lM R c0.bD c0.name 64=.error z):kV R c0 w=(R,0,z):=by unfold kV;rw [h]
theorem aeB (h:lM R c0.bD c0.name 64=.ok d) (h1:cL R.ns d c0.name = -1):kV R c0 w=(R,0,170):=by unfold kV;rw [h];exact nw (by rw [h1];decide)
theorem Ge (h:lM R c0.bD c0.name 64=.ok d) (h1:cL R.ns d c0.name=(k:Int)):kV R c0 w=if (nd R.ns k).kind=3 then (R,0,174) else if (nd R.ns k).kind≠w then (R,0,if (nd R.ns k).kind=1 then 173 else 172) else l5 R k:=by
 grind [kV]
theorem aeC (h:lM R c0.bD c0.name 64=.ok d) (h1:cL R.ns d c0.name=(k:Int)) (h2:(nd R.ns k).kind=3):kV R c0 w=(R,0,174):=(Ge h h1).trans (t8 h2)
theorem aeD (h:lM R c0.bD c0.name 64=.ok d) (h1:cL R.ns d c0.name=(k:Int)) (h2:¬(nd R.ns k).kind=3) (h3:¬(nd R.ns k).kind=w) (h4:(nd R.ns k).kind=1):kV R c0 w=(R,0,173):=(Ge h h1).trans ((nw h2).trans ((t8 h3).trans (by rw [t8 h4])))
theorem aeE (h:lM R c0.bD c0.name 64=.ok d) (h1:cL R.ns d c0.name=(k:Int)) (h2:¬(nd R.ns k).kind=3) (h3:¬(nd R.ns k).kind=w) (h4:¬(nd R.ns k).kind=1):kV R c0 w=(R,0,172):=(Ge h h1).trans ((nw h2).trans ((t8 h3).trans (by rw [nw h4])))
theorem aeF (h:lM R c0.bD c0.name 64=.ok d) (h1:cL R.ns d c0.name=(k:Int)) (h2:¬(nd R.ns k).kind=3) (h3:(nd R.ns k).kind=w):kV R c0 w=l5 R k:=(Ge h h1).trans ((nw h2).trans (nw (λq=>q h3)))
theorem aeG (h:cL R.ns d name = -1):jS R d name to aG=(R,170):=nw (by rw [h];decide)
def Ax (R:RS) (d:Nat) (name:ByteArray) (to:Nat) (aG:ByteArray) (k:Nat) (R1:RS):RS:=gu (dX (cY R1 d name false) to aG (nd R.ns k).id)
theorem Gf (h:cL R.ns d name=(k:Int)):jS R d name to aG=if (nd R.ns k).kind=2/\jH R.ns k (R.ns.length+1) to=true then (R,174) else if cL R.ns to aG=(k:Int) then (R,0) else if 0<=cL R.ns to aG then (if (nd R.ns (cL R.ns to aG).toNat).kind=2 then (R,172) else if (nd R.ns k).kind=2 then (R,173) else (Ax R d name to aG k (cY R to aG true),0)) else (Ax R d name to aG k R,0):=by
 unfold jS
 rw [t8 (by rw [h];omega),h];rfl
variable {t:Nat}
theorem aeH (h:cL R.ns d name=(k:Int)) (h1:(nd R.ns k).kind=2/\jH R.ns k (R.ns.length+1) to=true):jS R d name to aG=(R,174):=(Gf h).trans (t8 h1)
theorem aeI (h:cL R.ns d name=(k:Int)) (h1:¬((nd R.ns k).kind=2/\jH R.ns k (R.ns.length+1) to=true)) (h2:cL R.ns to aG=(k:Int)):jS R d name to aG=(R,0):=(Gf h).trans ((nw h1).trans (t8 h2))
theorem agK (h:cL R.ns d name=(k:Int)) (h1:¬((nd R.ns k).kind=2/\jH R.ns k (R.ns.length+1) to=true)) (h2:cL R.ns to aG = -1):jS R d name to aG=(Ax R d name to aG k R,0):=(Gf h).trans ((nw h1).trans ((nw (by rw [h2];omega)).trans (nw (by rw [h2];decide))))
theorem aas (h:cL R.ns d name=(k:Int)) (h1:¬((nd R.ns k).kind=2/\jH R.ns k (R.ns.length+1) to=true)) (h2:cL R.ns to aG=(t:Int)) (h3:¬(t:Int)=(k:Int)):jS R d name to aG=if (nd R.ns t).kind=2 then (R,172) else if (nd R.ns k).kind=2 then (R,173) else (Ax R d name to aG k (cY R to aG true),0):=by
 grind [Gf]
theorem aeJ (h:cL R.ns d name=(k:Int)) (h1:¬((nd R.ns k).kind=2/\jH R.ns k (R.ns.length+1) to=true)) (h2:cL R.ns to aG=(t:Int)) (h3:¬(t:Int)=(k:Int)) (h4:(nd R.ns t).kind=2):jS R d name to aG=(R,172):=(aas h h1 h2 h3).trans (t8 h4)
theorem aeK (h:cL R.ns d name=(k:Int)) (h1:¬((nd R.ns k).kind=2/\jH R.ns k (R.ns.length+1) to=true)) (h2:cL R.ns to aG=(t:Int)) (h3:¬(t:Int)=(k:Int)) (h4:¬(nd R.ns t).kind=2) (h5:(nd R.ns k).kind=2):jS R d name to aG=(R,173):=(aas h h1 h2 h3).trans ((nw h4).trans (t8 h5))
theorem agL (h:cL R.ns d name=(k:Int)) (h1:¬((nd R.ns k).kind=2/\jH R.ns k (R.ns.length+1) to=true)) (h2:cL R.ns to aG=(t:Int)) (h3:¬(t:Int)=(k:Int)) (h4:¬(nd R.ns t).kind=2) (h5:¬(nd R.ns k).kind=2):jS R d name to aG=(Ax R d name to aG k (cY R to aG true),0):=(aas h h1 h2 h3).trans ((nw h4).trans (nw h5))
noncomputable def aat (R:RS) (c:aN) (d:Nat) (n:aP):wX:=if (cI R d c.name n).2=0/\c.op=5 then l5 (cI R d c.name n).1 ((cI R d c.name n).1.ns.length-1) else ((cI R d c.name n).1,0,(cI R d c.name n).2)
theorem aeL (h:¬(c0.op=8\/c0.op=14)) (h1:¬c0.op=6) (h2:¬mT c0.mode):nj R c0 d=(R,0,120):=(nw h).trans ((nw h1).trans (nw h2))
theorem agM (h:¬(c0.op=8\/c0.op=14)) (h1:¬c0.op=6) (h2:mT c0.mode) (h3:¬c0.op=5):nj R c0 d=aat R c0 d ⟨0,2,c0.mode,0,0,0,0,[],⟨#[]⟩,[]⟩:=((nw h).trans ((nw h1).trans ((t8 h2).trans (nw h3)))).trans (nw (λq=>h3 q.2)).symm
theorem JU (h:¬((cI R d c0.name n).2=0/\c0.op=5)):aat R c0 d n=((cI R d c0.name n).1,0,(cI R d c0.name n).2):=nw h
theorem aau (h:c0.op=1):dH R c0=if 0<=gF R.ns c0.other then (if (nd R.ns (bV R.ns c0.other)).kind=2 then l5 R (bV R.ns c0.other) else (R,0,173)) else (R,0,141):=t8 h
theorem abY (h:c0.op=1) (h1:gF R.ns c0.other = -1):dH R c0=(R,0,141):=(aau h).trans (nw (by rw [h1];decide))
theorem abZ (h:c0.op=1) (h1:0<=gF R.ns c0.other) (h2:¬(nd R.ns (bV R.ns c0.other)).kind=2):dH R c0=(R,0,173):=(aau h).trans ((t8 h1).trans (nw h2))
theorem ab0 (h:c0.op=1) (h1:0<=gF R.ns c0.other) (h2:(nd R.ns (bV R.ns c0.other)).kind=2):dH R c0=l5 R (bV R.ns c0.other):=(aau h).trans ((t8 h1).trans (t8 h2))
theorem aeM (h:c0.op=2):dH R c0=kV R c0 2:=by unfold dH;rw [nw d5,t8 h]
abbrev GS (n:Int):Prop:=n=4\/n=5\/n=6\/n=8\/n=14
theorem aeN (h:GS c0.op):dH R c0=match lM R c0.bD c0.name 192 with|.error e=>(R,0,e)|.ok d=>nj R c0 d:=by unfold dH;rw [nw d5,nw d5,nw d5,t8 h];rfl
theorem ab1 {z:Int} (h:GS c0.op) (h1:lM R c0.bD c0.name 192=.error z):dH R c0=(R,0,z):=by rw [aeN h,h1]
theorem ab2 (h:GS c0.op) (h1:lM R c0.bD c0.name 192=.ok d):dH R c0=nj R c0 d:=by rw [aeN h,h1]
theorem ab3 (h:c0.op=13):dH R c0=if c0.bD∈aY R.us then (gu {R with us:=del c0.bD R.us},0,0) else (gu R,0,131):=by unfold dH;rw [nw d5,nw d5,nw d5,nw d5,nw d5,nw d5,nw d5,t8 h]
theorem Xq (h:c0.op=13) (h1:c0.bD∈aY R.us):dH R c0=(gu {R with us:=del c0.bD R.us},0,0):=(ab3 h).trans (t8 h1)
theorem Xr (h:c0.op=13) (h1:c0.bD∉aY R.us):dH R c0=(gu R,0,131):=(ab3 h).trans (nw h1)
end k
end
section
open Go.RowKit Go.Maps bw aI
attribute [local irreducible] aE bH ax aF eu
noncomputable abbrev Xs (Y:RL) (k:Nat) (Z:RS):=(.abs (aK 5 1 (Y.L.dA k) ((nd Z.ns k).data.length) (Y.L.dC k) (ez (nd Z.ns k).data)):HP)
noncomputable abbrev zU2 (b11:Nat) (b12:Nat):=([(4,vP b11),(8,vP b12)]:Fr)
theorem PD {β:Bs} (Z:RS) (Y:RL) (k:Nat) (hI:CM β Z Y.L Y.H Y.V k) (hC:RC Z) (hk:k<Z.ns.length) (dA:Option Addr) (dC:Nat) (bs:List UInt8) (hbs:ck β dA bs) (hbl:bs.length<=140737488355328) (hbc:bs.length<=dC) :
 bN Tryz.prog β 94 #[.agg ⟨rV Z Y⟩,vI (((k:Nat):Int)),.slice dA (bs.length) (dC)] [kF Y Z,j8 Y Z,Xs Y k Z] (λβ' v l=>∃Y',v=.tuple #[.agg ⟨rV ((kX Z k bs).1) Y'⟩,vI (kX Z k bs).2.1,vI (kX Z k bs).2.2]/\l=[]/\dP β' (kX Z k bs).1 Y'):=by
 refine mK Tryz.func94 Tryz.ntmps94 (λaH R=>SR (jB 1 [3] (λb1=>.aD b1 (rV Z Y) 45) (λb1=>jB 3 [6] (λb2=>.aD b2 (rZ) 45) (λb2=>NZ (jK 3 [13] [] (NN (cP ((((bs.length:Nat):Int):Int)=(0:Int)) (λtv=>?_) (λtv=>?_))))))))
 ·refine SR (jC 4 [7,8] [(0,A_ 4 b1 12),(1,A_ 5 b2 12)] [(5,(zC (rV Z Y)))] (NN (ax.ret (aF.bq (aF.eM [0,1,2] [kF Y Z,j8 Y Z,Xs Y k Z] (λvT fW hL=>?_))))))
  have j9:dP vT Z Y:=hI.at rfl rfl hL
  replace aH:=aH.trans fW
  exact rB _ [A_ 2 b2 12] [0] aH (⟨Y,by rw [Xn tv]<;>rfl,rfl,by rw [Xn tv];exact j9⟩)
 refine KX (ax.seq (rQ (jQ 4 [17,18] [(2,a_ 4 b1),(3,A_ 4 b1 12)] (zy (pre:=[kF Y Z,j8 Y Z,Xs Y k Z]) [0,1,2] [0,1,2,3,4,5] (.int .i64 ↑(fX Z.ns Z.ns.length)) (PB hI rfl rfl (λ_ _ h=>aad Z Y h hC.toRB)) (jQ 2 [9] [(0,w_ (.int .i64 ((Z.cB-((fX Z.ns Z.ns.length):Int)))) (vk rfl (by have:=hC.cap;have:=hC.dat;omega) (by have:=hC.cap;omega)))] (NQ (NX (SQ (jK 2 [22] [] (NN (cP (((Z.cB-((fX Z.ns Z.ns.length):Int)):Int)<=(0:Int)) (λtj=>?_) (λtj=>?_))))))))))))
 ·refine SR (jC 4 [7,8] [(0,A_ 4 b1 12),(1,A_ 5 b2 12)] [(5,(zC (rV Z Y)))] (NN (ax.ret (aF.bq (aF.eM [0,1,2] [kF Y Z,j8 Y Z,Xs Y k Z] (λyI jj hL=>?_))))))
  have j9:dP yI Z Y:=hI.at rfl rfl hL
  replace aH:=aH.trans jj
  exact rB _ [A_ 2 b2 12] [0] aH (⟨Y,by rw [Xo tv tj]<;>rfl,rfl,by rw [Xo tv tj];exact j9⟩)
 refine KX (SR (jK 3 [10] [] (NN (ax.join (λ(u:Unit)=>True) (λ(u:Unit)=>[(1,vI ↑k),(2,.slice dA (bs.length) (dC)),(3,vP b1),(6,vP b2),(10,vI ↑(kE Z bs))]) (λ(u:Unit)=>([kF Y Z,j8 Y Z,Xs Y k Z,.abs R]++qu b1 Z Y b2)) ?_ (SR (jK 3 [28] [] (NN (cP ((((bs.length:Nat):Int):Int)>((Z.cB-((fX Z.ns Z.ns.length):Int)):Int)) (λtD=>ax.region (jK 2 [10] [] (NL (aF.slot 10 (vI ((Z.cB-((fX Z.ns Z.ns.length):Int)))) (.int .i64 ↑(kE Z bs)) (λ_=>d6) (zc (Value.int .i64) (by unfold kE;omega)) (mJ () [0,1,2,3,4,5] (trivial)))))) (λtD=>ax.skip (aF.slot 10 (vI ↑bs.length) (.int .i64 ↑(kE Z bs)) (λ_=>d6) (zc (Value.int .i64) (by unfold kE;omega)) (mJ () [0,1,2,3,4,5] (trivial))))))))))))
 rintro u _
 refine ax.seq ?_
 have hml:(bs.take (kE Z bs)).length=kE Z bs:=by grind [kE]
 have hdk:=Pw (ns:=Z.ns) Z.ns.length hk
 have hmb:kE Z bs<=bs.length:=by unfold kE;omega
 have hmr:(kE Z bs:Int)<=Z.cB-(fX Z.ns Z.ns.length:Int):=by unfold kE;omega
 have hcb:=hC.cap
 refine ax.vR 0 rfl d5 (λpV=>?_)
 refine jM [0,1,2,3,4,5,6,7,8,9,10,11,12,13,514,15,16,517] [4,0] (jG 14 [1,3,6,10,32,33,40,43] [(2,a_ 0 b1),(6,a_ 0 b1),(8,x_ k Z.ns.length (pV)),(10,v_ 1 (nA Z.ns Y.L Y.A Y.c k 7 hk rfl)),(13,xP (kE Z bs) ((kE Z bs)<=dC))] (eu.cut (ι:=(Option Addr)×Nat) (bQ:=λ((A5,c6):(Option Addr)×Nat)=>[(1,vI ↑k),(3,vP b1),(6,vP b2),(10,vI ↑(kE Z bs)),(32,.slice Y.A (Z.ns.length) (Y.c)),(33,vI ↑k),(44,.slice A5 (((nd Z.ns k).data++bs.take (kE Z bs)).length) (c6))]) (dz:=λ((A5,c6):(Option Addr)×Nat)=>([kF Y Z,j8 Y Z,.abs (aK 5 1 A5 (((nd Z.ns k).data++bs.take (kE Z bs)).length) c6 (ez ((nd Z.ns k).data++bs.take (kE Z bs)))),.abs R]++qu b1 Z Y b2)) [4,0] d6 ?_ rfl (λ_=>d6) ?_))
 ·exact VH 2 61 dA (kE Z bs) dC (ez (bs.take (kE Z bs))) rfl ((ck.take hbs (kE Z bs)).src) (λA5 c6=>aE.cT 2 rfl (Xm hml) (sl 44 (.slice A5 (((nd Z.ns k).data.length)+(kE Z bs)) (c6)) (.slice A5 (((nd Z.ns k).data++bs.take (kE Z bs)).length) (c6)) (by rw [SC hml]) (NL (MD (A5,c6) [1,3,6,10,32,33,44] [0,1,2,3,4,5])))) (hl:=by rw [vu,hml,Nat.mul_one]) (h1:=rR _)
 rintro⟨A5,c6⟩
 refine jG 2 [1,3,6,10,44,46] [(0,x_ k Z.ns.length (pV))] (eu.last d6 (aE.K3 0 (k*10+7) (d:=none) (T:=61) (e:=102) (size:=10) (n:=Z.ns.length) (cap:=Y.c) (A:=Y.A) (xs:=(bP Y.L Z.ns)) (u:=.slice A5 (((nd Z.ns k).data++bs.take (kE Z bs)).length) (c6)) (a:=(.tmp 46)) (y:=(.tmp 44)) (λ_=>d6) d6 (λ_=>d6) (λ_=>d6) d6 rfl d5 (by rw [sR];omega) (NL (aF.np (NX (SR (jK 9 [53,55] [(2,a_ 4 b1),(6,A_ 4 b1 2),(7,x_ k Z.ns.length (pV))] (aE.Ij 0 (k*10+5) (d:=none) (T:=26) (e:=102) (size:=10) (n:=Z.ns.length) (cap:=Y.c) (A:=Y.A) (xs:=((bP Y.L Z.ns).set (k*10+7) (.slice A5 (((nd Z.ns k).data++bs.take (kE Z bs)).length) (c6)))) (u:=.int .i64 (Z.cS)) (u2:=.int .i64 (Z.cZ)) (a:=(.tmp 55)) (y:=(.tmp 53)) (λ_=>d6) d6 (λ_=>d6) (λ_=>d6) d6 rfl rfl d5 (by rw [T7,sR];omega) (aE.cT 0 rfl (ac6 hk rfl) (NS (jC 5 [7,8] [(0,A_ 4 b1 12),(2,A_ 5 b2 12)] [(5,(zC (rV Z Y)))] (NN (ax.ret (aF.eM [0,1,2] [.abs (aK 102 10 Y.A ((Gb Z k bs).ns.length) Y.c (bP (Y.L.dat k A5 c6) (Gb Z k bs).ns)),j8 Y Z,.abs (aK 5 1 A5 (((nd Z.ns k).data++bs.take (kE Z bs)).length) c6 (ez ((nd Z.ns k).data++bs.take (kE Z bs))))] (λAy d9 hL=>?_)))))))))))))))
 have j9:dP Ay (Gb Z k bs) ⟨Y.A,Y.c,(Y.L.dat k A5 c6),Y.G,Y.cg,Y.H,Y.ch,Y.V,Y.cv⟩:=(hI.set (R':=Gb Z k bs) hk rfl rfl rfl).at aar.symm (by show _=(nd (Z.ns.set k _) k).data;rw [vS hk,t8 rfl]) hL
 replace aH:=aH.trans d9
 exact rB (.tuple #[.agg ⟨rV Z Y⟩,vI ↑(kE Z bs),vI 0]) [A_ 2 b2 12] [0] aH (⟨⟨Y.A,Y.c,(Y.L.dat k A5 c6),Y.G,Y.cg,Y.H,Y.ch,Y.V,Y.cv⟩,by grind [rV,Xp,Gb,kE],rfl,by rw [Xp tv tj];exact j9⟩)
theorem ye {β:Bs} (Z:RS) (Y:RL) (hI:mO β Z Y.L Y.H Y.V) (hC:RC Z) {n:Nat} (hD:RD n Z) (hn:n<=7) (d:Nat) (hd:d<Z.ns.length) (name:ByteArray) (x:aP) (hxd:x.data=[]) (Mq:x.aq=[]) (LP:x.target.size<=1048576) :
 bN Tryz.prog β 112 #[.agg ⟨rV Z Y⟩,vI (((d:Nat):Int)),.string name,.agg #[vI (x.id),vI (x.kind),vI (x.mode),vI (x.cO),vI (x.cQ),vI (x.bJ),vI (x.bh),.slice none (0) (0),.string x.target,.slice none (0) (0)]] [kF Y Z,j8 Y Z] (λβ' v l=>∃A' c' L',v=.tuple #[.agg ⟨rW ((cI Z d name x).1) A' c' Y.G Y.cg Y.H Y.ch Y.V Y.cv⟩,vI (cI Z d name x).2]/\l=[.abs (aK 102 10 A' ((cI Z d name x).1.ns.length) c' (bP L' (cI Z d name x).1.ns)),.abs (aK 3 1 Y.G ((cI Z d name x).1.aJ.length) Y.cg (bG (cI Z d name x).1.aJ))]/\mO β' (cI Z d name x).1 L' Y.H Y.V/\(((cI Z d name x).2=0/\L'.dA Z.ns.length=none/\L'.dC Z.ns.length=0)\/((cI Z d name x).2≠0/\A'=Y.A/\c'=Y.c/\L'=Y.L))):=by
 refine mK Tryz.func112 Tryz.ntmps112 (λaH R=>SR (jB 1 [4] (λb8=>.aD b8 (rV Z Y) 45) (λb8=>jB 1 [7] (λb9=>.aD b9 [vI (x.id),vI (x.kind),vI (x.mode),vI (x.cO),vI (x.cQ),vI (x.bJ),vI (x.bh),.slice none (0) (0),.string x.target,.slice none (0) (0)] 102) (λb9=>jB 2 [8] (λb10=>.aD b10 (rZ) 45) (λb10=>NN (ax.join (λ(u:Unit)=>(¬(x.kind=3/\lF x.target≠0))) (λ(u:Unit)=>[(1,vI ↑d),(2,.string name),(4,vP b8),(7,vP b9),(8,vP b10)]) (λ(u:Unit)=>[kF Y Z,j8 Y Z,.abs R,.aD b8 (rV Z Y) 45,.aD b9 [vI (x.id),vI (x.kind),vI (x.mode),vI (x.cO),vI (x.cQ),vI (x.bJ),vI (x.bh),.slice none (0) (0),.string x.target,.slice none (0) (0)] 102,.aD b10 (rZ) 45]) ?_ (SR (jK 3 [13] [(1,a_ 4 b9)] (NN (cP ((x.kind:Int)=(3:Int)) (λtv=>SR (jK 2 [15] [(1,a_ 4 b9)] (gE [] (aam x.target LP) (jK 1 [10] [] (NS (jK 2 [18] [] (NN (cN (((lF x.target):Int)=(0:Int)) (λpU=>SR (jC 4 [9] [(0,A_ 3 b8 12),(2,A_ 5 b10 12)] [(5,(zC (rV Z Y)))] (eO [A_ 5 b10 12] aH ⟨Y.A,Y.c,Y.L,by rw [JT tv pU]<;>rfl,by rw [JT tv pU],by rw [JT tv pU];exact hI,.inr (by rw [JT tv pU];exact⟨pU,rfl,rfl,rfl⟩)⟩))) (λpU=>ax.skip (mJ () [0,1,2,3,4,5] (λq=>q.2 d5))))))))))) (λtv=>ax.skip (mJ () [0,1,2,3,4,5] (λq=>tv q.1)))))))))))))
 rintro u hb
 refine SQ (jK 3 [21,22,23] [(0,A_ 3 b8 12)] ?_)
 rcases nV Z.ns d name with hl|⟨k,hl,hk⟩
 ·refine gE [0,1] ((jh hI (λ_ _ h=>mw Z Y h hC d hd name)).val (zc (Value.int .i64) hl)) (jK 1 [25] [] (NF (KX (SQ (jK 1 [27] [(0,A_ 3 b8 12)] (gE [0,1] (jh hI (λ_ _ h=>aal Z Y h hC.toRB)) (jK 1 [29] [] (NN (cN (vO Z) (λtD=>SR (jC 3 [9] [(0,A_ 3 b8 12),(1,A_ 5 b10 12)] [(5,(zC (rV Z Y)))] (eO [A_ 5 b10 12] aH ⟨Y.A,Y.c,Y.L,by rw [Gc hb hl tD]<;>rfl,by rw [Gc hb hl tD],by rw [Gc hb hl tD];exact hI,.inr (by rw [Gc hb hl tD];exact⟨(show (177:Int)≠0 by decide),rfl,rfl,rfl⟩)⟩))) (λtD=>KX (SR (jK 4 [31,32,33,34] [(0,A_ 3 b8 12),(3,A_ 4 b9 10)] (iK [0,1] (ac5 Z Y hI hD d5 ⟨hC.cap.2.2.2.2.2.2.1,tD.2.1⟩ d hd name x hxd Mq) ?_)))))))))))))
  rintro β1 _ _ cV ⟨A1,c1,L1,rfl,rfl,dw,hnd⟩
  replace aH:=aH.trans cV
  exact jC 2 [9] [(0,A_ 5 b10 12)] [(5,(zC (rW (ko Z d name x) A1 c1 Y.G Y.cg Y.H Y.ch Y.V Y.cv)))] (eO [A_ 5 b10 12] aH ⟨A1,c1,L1,by rw [Nf hb hl tD]<;>rfl,by rw [Nf hb hl tD],by rw [Nf hb hl tD];exact dw,.inl (by rw [Nf hb hl tD];exact⟨rfl,hnd⟩)⟩)
 exact gE [0,1] ((jh hI (λ_ _ h=>mw Z Y h hC d hd name)).val (zc (Value.int .i64) hl)) (jK 1 [25] [(0,wT (((k:Int):Int)>=(0:Int)))] (NT (SR (jC 3 [9] [(0,A_ 3 b8 12),(1,A_ 5 b10 12)] [(5,(zC (rV Z Y)))] (eO [A_ 5 b10 12] aH ⟨Y.A,Y.c,Y.L,by rw [Nd hb hl]<;>rfl,by rw [Nd hb hl],by rw [Nd hb hl];exact hI,.inr (by rw [Nd hb hl];exact⟨(show (171:Int)≠0 by decide),rfl,rfl,rfl⟩)⟩)))))
theorem Mt {β:Bs} (Z:RS) (Y:RL) (hI:mO β Z Y.L Y.H Y.V) (hC:RC Z) {n:Nat} (hD:RD n Z) (hn:n<=7) (d:Nat) (hd:d<Z.ns.length) (name:ByteArray) (dir:Bool) :
 bN Tryz.prog β 113 #[.agg ⟨rV Z Y⟩,vI (((d:Nat):Int)),.string name,.bool dir] [kF Y Z,j8 Y Z] (λβ' v l=>∃Y',v=.tuple #[.agg ⟨rV ((jP Z d name dir).1) Y'⟩,vI (jP Z d name dir).2]/\l=[]/\dP β' (jP Z d name dir).1 Y'):=by
 refine mK Tryz.func113 Tryz.ntmps113 (λaH R=>SR (jB 1 [4] (λb11=>.aD b11 (rV Z Y) 45) (λb11=>jB 2 [8] (λb12=>.aD b12 (rZ) 45) (λb12=>NS (jK 3 [11,12,13] [(0,A_ 3 b11 12)] ?_)))))
 rcases nV Z.ns d name with hl|⟨k,hl,hk⟩
 ·refine gE [0,1] ((jh hI (λ_ _ h=>mw Z Y h hC d hd name)).val (zc (Value.int .i64) hl)) (jK 1 [10] [] (NZ (jK 2 [16] [] (NT (SR (jC 3 [9] [(0,A_ 3 b11 12),(1,A_ 4 b12 12)] [(4,(zC (rV Z Y)))] (NN (ax.ret (aF.bq (aF.eM [0,1] [kF Y Z,j8 Y Z] (λPE Az hL=>?_)))))))))))
  have j9:dP PE Z Y:=hI.at hL
  replace aH:=aH.trans Az
  exact rB _ [A_ 2 b12 12] [0] aH (⟨Y,by rw [abX hl]<;>rfl,rfl,by rw [abX hl];exact j9⟩)
 refine aE.vR 0 rfl d5 (λpV=>gE [0,1] ((jh hI (λ_ _ h=>mw Z Y h hC d hd name)).val (zc (Value.int .i64) hl)) (jK 1 [10] [] (NZ (jK 2 [16] [(1,wF (((k:Int):Int)<(0:Int)))] (NF (KX (ax.join (λ(u:Unit)=>(¬(dir=false/\(nd Z.ns k).kind=2))) (λ(u:Unit)=>([(1,vI ↑d),(2,.string name),(3,.bool dir)]++zU2 b11 b12++[(10,vI ↑k)])) (λ(u:Unit)=>([kF Y Z,j8 Y Z,.abs R]++qu b11 Z Y b12)) ?_ ?_)))))))
 ·rintro u n1
  refine ax.join (λ(u:Unit)=>(¬(dir=true/\(nd Z.ns k).kind≠2))) (λ(u:Unit)=>([(1,vI ↑d),(2,.string name),(3,.bool dir)]++zU2 b11 b12++[(10,vI ↑k)])) (λ(u:Unit)=>([kF Y Z,j8 Y Z,.abs R]++qu b11 Z Y b12)) ?_ ?_
  ·rintro u n2
   refine ax.join (λ(u:Unit)=>(¬(dir=true/\0<(nd Z.ns k).aq.length))) (λ(u:Unit)=>([(1,vI ↑d),(2,.string name)]++zU2 b11 b12)) (λ(u:Unit)=>([kF Y Z,j8 Y Z,.abs R]++qu b11 Z Y b12)) ?_ ?_
   ·rintro u n3
    refine SR (jK 3 [56,57,58] [(0,A_ 3 b11 12)] (iK [0,1] (BK Z Y hI hD d5 d hd name true) ?_))
    rintro β1 _ _ cV ⟨L1,G1,g1,rfl,rfl,dw⟩
    replace aH:=aH.trans cV
    refine aE.eM [0,1] [.abs (aK 102 10 Y.A ((cY Z d name true).ns.length) Y.c (bP L1 (cY Z d name true).ns)),.abs (aK 3 1 G1 ((cY Z d name true).aJ.length) g1 (bG (cY Z d name true).aJ))] (λoL fo hL=>?_)
    have wq:dP oL (cY Z d name true) ⟨Y.A,Y.c,L1,G1,g1,Y.H,Y.ch,Y.V,Y.cv⟩:=dw.at hL
    replace aH:=aH.trans fo
    refine iK [] (yc (cY Z d name true) ⟨Y.A,Y.c,L1,G1,g1,Y.H,Y.ch,Y.V,Y.cv⟩ wq ((hD.Sw hd).rb d5)) ?_
    rintro vT _ _ fW ⟨Y3,rfl,rfl,ol⟩
    replace aH:=aH.trans fW
    exact jC 2 [9] [(0,A_ 2 b12 12)] [(2,(zC (rV (gu (cY Z d name true)) Y3)))] (eO [A_ 2 b12 12] aH ⟨Y3,by rw [aez hl n1 n2 n3]<;>rfl,rfl,by rw [aez hl n1 n2 n3];exact ol⟩)
   refine SR (jK 2 [44] [] (aE.qy 44 dir (λ_=>d6) (λzG=>jK 10 [54] [(2,a_ 3 b11),(4,x_ k Z.ns.length (pV)),(6,v_ 0 (nA Z.ns Y.L Y.A Y.c k 9 hk rfl))] (NN (cP (((((nd Z.ns k).aq.length:Nat):Int):Int)>(0:Int)) (λE5=>SR (jC 3 [9] [(0,A_ 3 b11 12),(1,A_ 4 b12 12)] [(4,(zC (rV Z Y)))] (NN (ax.ret (aF.bq (aF.eM [0,1] [kF Y Z,j8 Y Z] (λE6 j3 hL=>?_))))))) (λE5=>ax.skip (mJ () [0,1,2,3,4] ((λq=>E5 d5))))))) (λzG=>jK 10 [54] [] (NF (ax.skip (mJ () [0,1,2,3,4] ((λq=>by rw [q.1] at zG;cases zG))))))))
   have j9:dP E6 Z Y:=hI.at hL
   replace aH:=aH.trans j3
   exact rB (.tuple #[.agg ⟨rV Z Y⟩,vI 178]) [A_ 2 b12 12] [0] aH (⟨Y,by grind [aey],rfl,by grind [aey]⟩)
  refine SR (jK 2 [32] [] (aE.qy 32 dir (λ_=>d6) (λrS=>jK 9 [41] [(2,a_ 3 b11),(4,x_ k Z.ns.length (pV)),(6,v_ 0 (nA Z.ns Y.L Y.A Y.c k 1 hk rfl))] (NN (cN (((nd Z.ns k).kind:Int)=(2:Int)) (λzY=>SR (jC 3 [9] [(0,A_ 3 b11 12),(1,A_ 4 b12 12)] [(4,(zC (rV Z Y)))] (NN (ax.ret (aF.bq (aF.eM [0,1] [kF Y Z,j8 Y Z] (λCh iV hL=>?_))))))) (λzY=>ax.skip (mJ () [0,1,2,3,4] ((λq=>q.2 zY))))))) (λrS=>jK 9 [41] [] (NF (ax.skip (mJ () [0,1,2,3,4] ((λq=>by rw [q.1] at rS;cases rS))))))))
  have j9:dP Ch Z Y:=hI.at hL
  replace aH:=aH.trans iV
  exact rB _ [A_ 2 b12 12] [0] aH (⟨Y,by rw [aex hl n1 ⟨rS,zY⟩]<;>rfl,rfl,by grind [aex]⟩)
 refine SR (jK 3 [20] [] (aE.qy 20 (!dir) (λ_=>d6) (λlX=>jK 9 [29] [(2,a_ 3 b11),(4,x_ k Z.ns.length (pV)),(6,v_ 0 (nA Z.ns Y.L Y.A Y.c k 1 hk rfl))] (NN (cP (((nd Z.ns k).kind:Int)=(2:Int)) (λCK=>SR (jC 3 [9] [(0,A_ 3 b11 12),(1,A_ 4 b12 12)] [(4,(zC (rV Z Y)))] (NN (ax.ret (aF.bq (aF.eM [0,1] [kF Y Z,j8 Y Z] (λK5 nT hL=>?_))))))) (λCK=>ax.skip (mJ () [0,1,2,3,4] ((λq=>CK q.2))))))) (λlX=>jK 9 [29] [] (NF (ax.skip (mJ () [0,1,2,3,4] ((λq=>by rw [q.1] at lX;cases lX))))))))
 have j9:dP K5 Z Y:=hI.at hL
 replace aH:=aH.trans nT
 exact rB (.tuple #[.agg ⟨rV Z Y⟩,vI 172]) [A_ 2 b12 12] [0] aH (⟨Y,by grind [aew],rfl,by grind [aew]⟩)
noncomputable abbrev zV1 (A1:Option Addr) (Z) (d:Nat) (c:aN) (x:aP) (c1:Nat) (L1):=(.abs (aK 102 10 A1 ((cI Z d c.name x).1.ns.length) c1 (bP L1 (cI Z d c.name x).1.ns)):HP)
noncomputable abbrev zV2 (Y:RL) (Z) (d:Nat) (c:aN) (x:aP):=(.abs (aK 3 1 Y.G ((cI Z d c.name x).1.aJ.length) Y.cg (bG (cI Z d c.name x).1.aJ)):HP)
noncomputable abbrev zV3 (f:Nat) (name) (to:Nat) (aG) (b1:Nat) (b2:Nat):=([(1,vI ↑f),(2,.string name),(3,vI ↑to),(4,.string aG),(5,vP b1),(10,vP b2)]:Fr)
noncomputable abbrev zV4 (Y:RL) (Z1) (f:Nat) (name) (to:Nat) (aG) (Z:RS) (k:Nat) (L3) (G2) (g2):=([.abs (aK 102 10 Y.A ((dX (cY Z1 f name false) to aG (nd Z.ns k).id).ns.length) Y.c (bP L3 (dX (cY Z1 f name false) to aG (nd Z.ns k).id).ns)),.abs (aK 3 1 G2 ((dX (cY Z1 f name false) to aG (nd Z.ns k).id).aJ.length) g2 (bG (dX (cY Z1 f name false) to aG (nd Z.ns k).id).aJ))]:List HP)
noncomputable abbrev zV5 (b1:Nat) (Z1:RS) (Y:RL) (G1) (g1) (b2:Nat) (L1):=([.aD b1 (rW Z1 Y.A Y.c G1 g1 Y.H Y.ch Y.V Y.cv) 45,.aD b2 (rZ) 45,.abs (aK 102 10 Y.A Z1.ns.length Y.c (bP L1 Z1.ns)),.abs (aK 3 1 G1 Z1.aJ.length g1 (bG Z1.aJ))]:List HP)
theorem Xt {β:Bs} (Z:RS) (Y:RL) (hI:mO β Z Y.L Y.H Y.V) (hC:RC Z) {n:Nat} (hD:RD n Z) (hn:n<=4) (f:Nat) (hf:f<Z.ns.length) (name:ByteArray) (to:Nat) (fq:to<Z.ns.length) (aG:ByteArray) :
 bN Tryz.prog β 98 #[.agg ⟨rV Z Y⟩,vI (((f:Nat):Int)),.string name,vI (((to:Nat):Int)),.string aG] [kF Y Z,j8 Y Z] (λβ' v l=>∃Y',v=.tuple #[.agg ⟨rV ((jS Z f name to aG).1) Y'⟩,vI (jS Z f name to aG).2]/\l=[]/\dP β' (jS Z f name to aG).1 Y'):=by
 refine mK Tryz.func98 Tryz.ntmps98 (λaH R=>SR (jB 1 [5] (λb1=>.aD b1 (rV Z Y) 45) (λb1=>jB 2 [10] (λb2=>.aD b2 (rZ) 45) (λb2=>NS (jK 3 [16,17,18] [(0,A_ 3 b1 12)] ?_)))))
 rcases nV Z.ns f name with hl|⟨k,hl,hk⟩
 ·refine gE [0,1] ((jh hI (λ_ _ h=>mw Z Y h hC f hf name)).val (zc (Value.int .i64) hl)) (jK 1 [12] [] (NZ (jK 2 [21] [] (NT (SR (jC 3 [11] [(0,A_ 3 b1 12),(1,A_ 4 b2 12)] [(4,(zC (rV Z Y)))] (NN (ax.ret (aF.bq (aF.eM [0,1] [kF Y Z,j8 Y Z] (λvT fW hL=>?_)))))))))))
  have j9:dP vT Z Y:=hI.at hL
  replace aH:=aH.trans fW
  exact rB _ [A_ 2 b2 12] [0] aH (⟨Y,by rw [aeG hl]<;>rfl,rfl,by rw [aeG hl];exact j9⟩)
 refine aE.vR 0 rfl d5 (λpV=>gE [0,1] ((jh hI (λ_ _ h=>mw Z Y h hC f hf name)).val (zc (Value.int .i64) hl)) (jK 1 [12] [] (NZ (jK 2 [21] [(1,wF (((k:Int):Int)<(0:Int)))] (NF (KX (SR (jK 9 [13] [(2,a_ 3 b1),(4,x_ k Z.ns.length (pV)),(6,v_ 0 (nA Z.ns Y.L Y.A Y.c k 1 hk rfl))] (NN (ax.join (λ(u:Unit)=>(¬((nd Z.ns k).kind=2/\jH Z.ns k (Z.ns.length+1) to=true))) (λ(u:Unit)=>(zV3 f name to aG b1 b2++[(12,vI ↑k),(13,.bool (decide (((nd Z.ns k).kind:Int)=(2:Int))))])) (λ(u:Unit)=>[kF Y Z,j8 Y Z,.abs R,.aD b1 (rV Z Y) 45,.aD b2 (rZ) 45]) ?_ ?_))))))))))
 ·rintro u n1
  refine SR (jK 3 [39,40,41] [(0,A_ 3 b1 12)] ?_)
  rcases nV Z.ns to aG with hl2|⟨t,hl2,ht⟩
  ·refine gE [0,1] ((jh hI (λ_ _ h=>mw Z Y h hC to fq aG)).val (zc (Value.int .i64) hl2)) (jK 1 [14] [] (NS (jK 8 [15] [(2,a_ 3 b1),(4,x_ k Z.ns.length (pV)),(6,v_ 0 (nA Z.ns Y.L Y.A Y.c k 0 hk rfl))] (NZ (jK 3 [52] [] (NN (cP (((-1):Int)=(((k:Nat):Int):Int)) (λuL=>KB uL (by omega)) (λuL=>KX (ax.abV (ι:=Bs×RS×fk×(Option Addr)×Nat) (λ(b,Z1,L1,G1,g1)=>b) (λ(b,Z1,L1,G1,g1)=>(β.le b)/\(mO b Z1 L1 Y.H Y.V)/\(RD (n+1) Z1)/\(Z1.ns.length=Z.ns.length)/\((jS Z f name to aG)=(Ax Z f name to aG k Z1,0))) (λ(b,Z1,L1,G1,g1)=>(zV3 f name to aG b1 b2++[(15,vI ((nd Z.ns k).id))])) (λ(b,Z1,L1,G1,g1)=>(zV5 b1 Z1 Y G1 g1 b2 L1++[.abs R])) ?_ (SR (jK 2 [55] [] (NF (ax.skip (aF.abW (β,Z,Y.L,Y.G,Y.cg) rfl (ay:=[1,2,3,4,5,10,15]) (pk:=[3,4,0,1,2]) (⟨aH,hI,(hD.up d5),rfl,agK hl n1 hl2⟩) (λ_=>d6) rfl d6))))))))))))))
   rintro⟨b,Z1,L1,G1,g1⟩ ⟨aH,dw,Ct,hz1,Xu⟩
   refine SR (jK 3 [71,72,73] [(0,A_ 0 b1 12)] (iK [2,3] (BK Z1 ⟨Y.A,Y.c,L1,G1,g1,Y.H,Y.ch,Y.V,Y.cv⟩ dw Ct d5 f d5 name false) ?_))
   rintro oL _ _ fo ⟨L2,G2,g2,rfl,rfl,yG⟩
   replace aH:=aH.trans fo
   refine jC 1 [] [(0,A_ 2 b1 12)] [(2,(zC (rW (cY Z1 f name false) Y.A Y.c G2 g2 Y.H Y.ch Y.V Y.cv)))] (NS (jK 4 [75,76,77,78] [(0,A_ 2 b1 12)] (iK [0,1] (E4 (cY Z1 f name false) ⟨Y.A,Y.c,L2,G2,g2,Y.H,Y.ch,Y.V,Y.cv⟩ yG ((Ct.Sw d5).rb d5) to (by rw [uY];omega) aG (nd Z.ns k).id) ?_)))
   rintro vT _ _ fW ⟨L3,rfl,rfl,Xv⟩
   replace aH:=aH.trans fW
   refine jC 1 [] [(0,A_ 2 b1 12)] [(2,(zC (rW (dX (cY Z1 f name false) to aG (nd Z.ns k).id) Y.A Y.c G2 g2 Y.H Y.ch Y.V Y.cv)))] (NS (aE.eM [0,1] (zV4 Y Z1 f name to aG Z k L3 G2 g2) (λyI jj hL=>?_)))
   have ol:dP yI (dX (cY Z1 f name false) to aG (nd Z.ns k).id) ⟨Y.A,Y.c,L3,G2,g2,Y.H,Y.ch,Y.V,Y.cv⟩:=Xv.at hL
   replace aH:=aH.trans jj
   refine jK 1 [80] [(0,A_ 0 b1 12)] (iK [] (yc (dX (cY Z1 f name false) to aG (nd Z.ns k).id) ⟨Y.A,Y.c,L3,G2,g2,Y.H,Y.ch,Y.V,Y.cv⟩ ol (((Ct.Sw d5).bO (by rw [uY];omega)).rb d5)) ?_)
   rintro E7 _ _ iP ⟨Y5,rfl,rfl,hR5⟩
   replace aH:=aH.trans iP
   exact jC 2 [11] [(0,A_ 1 b2 12)] [(1,(zC (rV (gu (dX (cY Z1 f name false) to aG (nd Z.ns k).id)) Y5)))] (eO [A_ 1 b2 12] aH ⟨Y5,by rw [Xu]<;>rfl,rfl,by rw [Xu];exact hR5⟩ [2])
  refine gE [0,1] ((jh hI (λ_ _ h=>mw Z Y h hC to fq aG)).val (zc (Value.int .i64) hl2)) (jK 1 [14] [] (NS (jK 8 [15] [(2,a_ 3 b1),(4,x_ k Z.ns.length (pV)),(6,v_ 0 (nA Z.ns Y.L Y.A Y.c k 0 hk rfl))] (NZ (jK 3 [52] [] (NN (cP ((((t:Nat):Int):Int)=(((k:Nat):Int):Int)) (λuL=>?_) (λuL=>?_))))))))
  ·refine SR (jC 3 [11] [(0,A_ 3 b1 12),(1,A_ 4 b2 12)] [(4,(zC (rV Z Y)))] (NN (ax.ret (aF.bq (aF.eM [0,1] [kF Y Z,j8 Y Z] (λyI jj hL=>?_))))))
   have j9:dP yI Z Y:=hI.at hL
   replace aH:=aH.trans jj
   exact rB (.tuple #[.agg ⟨rV Z Y⟩,vI 0]) [A_ 2 b2 12] [0] aH (⟨Y,by grind [aeI],rfl,by grind [aeI]⟩)
  refine KX (ax.abV (ι:=Bs×RS×fk×(Option Addr)×Nat) (λ(b,Z1,L1,G1,g1)=>b) (λ(b,Z1,L1,G1,g1)=>(β.le b)/\(mO b Z1 L1 Y.H Y.V)/\(RD (n+1) Z1)/\(Z1.ns.length=Z.ns.length)/\((jS Z f name to aG)=(Ax Z f name to aG k Z1,0))) (λ(b,Z1,L1,G1,g1)=>(zV3 f name to aG b1 b2++[(15,vI ((nd Z.ns k).id))])) (λ(b,Z1,L1,G1,g1)=>(zV5 b1 Z1 Y G1 g1 b2 L1++[.abs R])) ?_ ?_)
  ·rintro⟨b,Z1,L1,G1,g1⟩ ⟨aH,dw,Ct,hz1,Xu⟩
   refine SR (jK 3 [71,72,73] [(0,A_ 0 b1 12)] (iK [2,3] (BK Z1 ⟨Y.A,Y.c,L1,G1,g1,Y.H,Y.ch,Y.V,Y.cv⟩ dw Ct d5 f d5 name false) ?_))
   rintro oL _ _ fo ⟨L2,G2,g2,rfl,rfl,yG⟩
   replace aH:=aH.trans fo
   refine jC 1 [] [(0,A_ 2 b1 12)] [(2,(zC (rW (cY Z1 f name false) Y.A Y.c G2 g2 Y.H Y.ch Y.V Y.cv)))] (NS (jK 4 [75,76,77,78] [(0,A_ 2 b1 12)] (iK [0,1] (E4 (cY Z1 f name false) ⟨Y.A,Y.c,L2,G2,g2,Y.H,Y.ch,Y.V,Y.cv⟩ yG ((Ct.Sw d5).rb d5) to (by rw [uY];omega) aG (nd Z.ns k).id) ?_)))
   rintro vT _ _ fW ⟨L3,rfl,rfl,Xv⟩
   replace aH:=aH.trans fW
   refine jC 1 [] [(0,A_ 2 b1 12)] [(2,(zC (rW (dX (cY Z1 f name false) to aG (nd Z.ns k).id) Y.A Y.c G2 g2 Y.H Y.ch Y.V Y.cv)))] (NS (aE.eM [0,1] (zV4 Y Z1 f name to aG Z k L3 G2 g2) (λyI jj hL=>?_)))
   have ol:dP yI (dX (cY Z1 f name false) to aG (nd Z.ns k).id) ⟨Y.A,Y.c,L3,G2,g2,Y.H,Y.ch,Y.V,Y.cv⟩:=Xv.at hL
   replace aH:=aH.trans jj
   refine jK 1 [80] [(0,A_ 0 b1 12)] (iK [] (yc (dX (cY Z1 f name false) to aG (nd Z.ns k).id) ⟨Y.A,Y.c,L3,G2,g2,Y.H,Y.ch,Y.V,Y.cv⟩ ol (((Ct.Sw d5).bO (by rw [uY];omega)).rb d5)) ?_)
   rintro E7 _ _ iP ⟨Y5,rfl,rfl,hR5⟩
   replace aH:=aH.trans iP
   exact jC 2 [11] [(0,A_ 1 b2 12)] [(1,(zC (rV (gu (dX (cY Z1 f name false) to aG (nd Z.ns k).id)) Y5)))] (eO [A_ 1 b2 12] aH ⟨Y5,by rw [Xu]<;>rfl,rfl,by rw [Xu];exact hR5⟩ [2])
  refine SR (jK 2 [55] [(1,wT (((t:Int):Int)>=(0:Int)))] (NT (SQ (jK 8 [63] [(2,a_ 3 b1),(4,x_ t Z.ns.length (pV)),(6,v_ 0 (nA Z.ns Y.L Y.A Y.c t 1 ht rfl))] (NN (cP (((nd Z.ns t).kind:Int)=(2:Int)) (λh63=>?_) (λh63=>?_)))))))
  ·refine SR (jC 3 [11] [(0,A_ 3 b1 12),(1,A_ 4 b2 12)] [(4,(zC (rV Z Y)))] (NN (ax.ret (aF.bq (aF.bq (aF.eM [0,1] [kF Y Z,j8 Y Z] (λE7 iP hL=>?_)))))))
   have j9:dP E7 Z Y:=hI.at hL
   replace aH:=aH.trans iP
   exact rB _ [A_ 2 b2 12] [0] aH (⟨Y,by rw [aeJ hl n1 hl2 uL h63]<;>rfl,rfl,by rw [aeJ hl n1 hl2 uL h63];exact j9⟩)
  refine KX (SQ (jK 1 [65] [] (NN (cP (((nd Z.ns k).kind:Int)=(2:Int)) (λh65=>?_) (λh65=>?_)))))
  ·refine SR (jC 3 [11] [(0,A_ 3 b1 12),(1,A_ 4 b2 12)] [(4,(zC (rV Z Y)))] (NN (ax.ret (aF.bq (aF.bq (aF.eM [0,1] [kF Y Z,j8 Y Z] (λCN iw hL=>?_)))))))
   have j9:dP CN Z Y:=hI.at hL
   replace aH:=aH.trans iw
   exact rB _ [A_ 2 b2 12] [0] aH (⟨Y,by rw [aeK hl n1 hl2 uL h63 h65]<;>rfl,rfl,by grind [aeK]⟩)
  refine KX (ax.region (jK 3 [67,68,69] [(0,A_ 3 b1 12)] (iK [0,1] (BK Z Y hI hD d5 to fq aG true) ?_)))
  rintro β1 _ _ cV ⟨L1,G1,g1,rfl,rfl,dw⟩
  replace aH:=aH.trans cV
  exact jC 1 [] [(0,A_ 3 b1 12)] [(3,(zC (rW (cY Z to aG true) Y.A Y.c G1 g1 Y.H Y.ch Y.V Y.cv)))] (NL (aF.abW (β1,(cY Z to aG true),L1,G1,g1) rfl (ay:=[1,2,3,4,5,10,15]) (pk:=[3,4,0,1,2]) (⟨aH,dw,hD.Sw fq,uY,agL hl n1 hl2 uL h63 h65⟩) (λ_=>d6) rfl d6))
 refine SR (jK 2 [32] [] (sP 32 (((nd Z.ns k).kind:Int)=(2:Int)) (λrS=>jK 3 [33,34,35] [(0,A_ 3 b1 12)] (gE [0,1] (jh hI (λ_ _ h=>Xh Z Y h hC.toRB to k fq)) (jK 1 [37] [] (NN (ax.cond (b:=(jH Z.ns k (Z.ns.length+1) to)) (λ_=>d6) (λyC=>SR (jC 3 [11] [(0,A_ 3 b1 12),(1,A_ 4 b2 12)] [(4,(zC (rV Z Y)))] (NN (ax.ret (aF.bq (aF.eM [0,1] [kF Y Z,j8 Y Z] (λAy d9 hL=>?_))))))) (λyC=>ax.skip (mJ () [0,1,2,3,4] ((λq=>by rw [q.2] at yC;cases yC))))))))) (λrS=>jK 5 [37] [] (NF (ax.skip (mJ () [0,1,2,3,4] ((λq=>rS q.1))))))))
 have j9:dP Ay Z Y:=hI.at hL
 replace aH:=aH.trans d9
 exact rB _ [A_ 2 b2 12] [0] aH (⟨Y,by rw [aeH hl ⟨rS,yC⟩]<;>rfl,rfl,by rw [aeH hl ⟨rS,yC⟩];exact j9⟩)
theorem Xw {β:Bs} (Z:RS) (Y:RL) (hI:mO β Z Y.L Y.H Y.V) (hC:RC Z) (c:aN) (hn:c.name.size<=1048576) (want:Int) :
 bN Tryz.prog β 89 #[.agg ⟨rV Z Y⟩,.agg ⟨bA c⟩,vI (want)] [kF Y Z,j8 Y Z] (λβ' v l=>∃Y',v=.tuple #[.agg ⟨rV ((kV Z c want).1) Y'⟩,vI (kV Z c want).2.1,vI (kV Z c want).2.2]/\l=[]/\dP β' (kV Z c want).1 Y'):=by
 refine mK Tryz.func89 Tryz.ntmps89 (λaH R=>SR (jB 1 [3] (λb8=>.aD b8 (rV Z Y) 45) (λb8=>jB 1 [4] (λb9=>.aD b9 (bA c) 63) (λb9=>jB 3 [6] (λb10=>.aD b10 (rZ) 45) (λb10=>NS (jK 5 [14,16,18] [(0,A_ 3 b8 12),(2,a_ 4 b9),(4,a_ 4 b9)] ?_))))))
 rcases Mh hC c.bD c.name 64 with ⟨e,h1,h1e⟩|⟨d,h1,hd⟩
 ·refine gE [0,1] ((jh hI (λ_ _ h=>BI Z Y h hC c.bD c.name hn 64)).val (zc exV h1)) (jK 5 [9,10] [] (NZ (jK 2 [23] [(1,wNF ((e:Int)=(0:Int)) h1e)] (NT (SR (jC 5 [7,8] [(0,A_ 3 b8 12),(2,A_ 5 b10 12)] [(5,(zC (rV Z Y)))] (NN (ax.ret (aF.bq (aF.eM [0,1] [kF Y Z,j8 Y Z] (λuy j4 hL=>?_)))))))))))
  have j9:dP uy Z Y:=hI.at hL
  replace aH:=aH.trans j4
  exact rB _ [A_ 3 b10 12] [0] aH (⟨Y,by rw [aeA h1]<;>rfl,rfl,by rw [aeA h1];exact j9⟩)
 refine gE [0,1] ((jh hI (λ_ _ h=>BI Z Y h hC c.bD c.name hn 64)).val (zc exV h1)) (jK 5 [9,10] [] (NZ (jK 2 [23] [(1,w_ (.bool false) rfl)] (NF (KX (SR (jK 4 [26,27,29] [(0,A_ 3 b8 12),(3,a_ 4 b9)] ?_)))))))
 rcases nV Z.ns d c.name with hl|⟨k,hl,hk⟩
 ·refine gE [0,1] ((jh hI (λ_ _ h=>mw Z Y h hC d hd c.name)).val (zc (Value.int .i64) hl)) (jK 1 [11] [] (NZ (jK 2 [32] [] (NT (SR (jC 4 [7,8] [(0,A_ 3 b8 12),(1,A_ 5 b10 12)] [(5,(zC (rV Z Y)))] (NN (ax.ret (aF.bq (aF.eM [0,1] [kF Y Z,j8 Y Z] (λIl kS hL=>?_)))))))))))
  have j9:dP Il Z Y:=hI.at hL
  replace aH:=aH.trans kS
  exact rB _ [A_ 3 b10 12] [0] aH (⟨Y,by rw [aeB h1 hl]<;>rfl,rfl,by rw [aeB h1 hl];exact j9⟩)
 refine aE.vR 0 rfl d5 (λpV=>gE [0,1] ((jh hI (λ_ _ h=>mw Z Y h hC d hd c.name)).val (zc (Value.int .i64) hl)) (jK 1 [11] [] (NZ (jK 2 [32] [(1,wF (((k:Int):Int)<(0:Int)))] (NF (KX (SR (jK 8 [12] [(2,a_ 3 b8),(4,x_ k Z.ns.length (pV)),(6,v_ 0 (nA Z.ns Y.L Y.A Y.c k 1 hk rfl))] (NZ (jK 2 [42] [] (NN (cP (((nd Z.ns k).kind:Int)=(3:Int)) (λtE=>?_) (λtE=>?_)))))))))))))
 ·refine SR (jC 4 [7,8] [(0,A_ 3 b8 12),(1,A_ 5 b10 12)] [(5,(zC (rV Z Y)))] (NN (ax.ret (aF.bq (aF.eM [0,1] [kF Y Z,j8 Y Z] (λPE Az hL=>?_))))))
  have j9:dP PE Z Y:=hI.at hL
  replace aH:=aH.trans Az
  exact rB _ [A_ 3 b10 12] [0] aH (⟨Y,by rw [aeC h1 hl tE]<;>rfl,rfl,by rw [aeC h1 hl tE];exact j9⟩)
 refine KX (SQ (jK 3 [46] [] (NN (cN (((nd Z.ns k).kind:Int)=(want:Int)) (λh46=>?_) (λh46=>?_)))))
 ·refine SQ (jK 2 [48] [] (NN (cP (((nd Z.ns k).kind:Int)=(1:Int)) (λh48=>?_) (λh48=>?_))))
  ·refine SR (jC 4 [7,8] [(0,A_ 3 b8 12),(1,A_ 5 b10 12)] [(5,(zC (rV Z Y)))] (NN (ax.ret (aF.bq (aF.bq (aF.eM [0,1] [kF Y Z,j8 Y Z] (λE6 j3 hL=>?_)))))))
   have j9:dP E6 Z Y:=hI.at hL
   replace aH:=aH.trans j3
   exact rB _ [A_ 3 b10 12] [0] aH (⟨Y,by rw [aeD h1 hl tE h46 h48]<;>rfl,rfl,by rw [aeD h1 hl tE h46 h48];exact j9⟩)
  refine KX (SR (jC 4 [7,8] [(0,A_ 3 b8 12),(1,A_ 5 b10 12)] [(5,(zC (rV Z Y)))] (NN (ax.ret (aF.bq (aF.eM [0,1] [kF Y Z,j8 Y Z] (λCh iV hL=>?_)))))))
  have j9:dP Ch Z Y:=hI.at hL
  replace aH:=aH.trans iV
  exact rB _ [A_ 3 b10 12] [0] aH (⟨Y,by rw [aeE h1 hl tE h46 h48]<;>rfl,rfl,by rw [aeE h1 hl tE h46 h48];exact j9⟩)
 refine KX (SR (jK 2 [51,52] [(0,A_ 3 b8 12)] (aE.eM [0,1] [kF Y Z,j8 Y Z] (λβ1 cV hL=>?_))))
 have wq:dP β1 Z Y:=hI.at hL
 replace aH:=aH.trans cV
 refine iK [] (PA Z Y wq hC.ru k hk) ?_
 rintro oL _ _ fo ⟨Y3,rfl,rfl,ol⟩
 replace aH:=aH.trans fo
 exact jC 6 [7,8] [(3,A_ 3 b10 12)] [(3,(zC (rV ((l5 Z k).1) Y3)))] (eO [A_ 3 b10 12] aH ⟨Y3,by rw [aeF h1 hl tE h46]<;>rfl,rfl,by rw [aeF h1 hl tE h46];exact ol⟩)
theorem UN {β:Bs} (Z:RS) (Y:RL) (hI:mO β Z Y.L Y.H Y.V) (hC:RC Z) {n:Nat} (hD:RD n Z) (hn:n<=7) (c:aN) (h4:c.op=4) (d:Nat) (hd:d<Z.ns.length) :
 bN Tryz.prog β 90 #[.agg ⟨rV Z Y⟩,.agg ⟨bA c⟩,vI (((d:Nat):Int))] [kF Y Z,j8 Y Z] (λβ' v l=>∃Y',v=.tuple #[.agg ⟨rV ((nj Z c d).1) Y'⟩,vI (nj Z c d).2.1,vI (nj Z c d).2.2]/\l=[]/\dP β' (nj Z c d).1 Y'):=by
 refine mK Tryz.func90 Tryz.ntmps90 (λaH R=>SR (jB 1 [3] (λb16=>.aD b16 (rV Z Y) 45) (λb16=>jB 1 [4] (λb17=>.aD b17 (bA c) 63) (λb17=>jB 3 [6] (λb18=>.aD b18 (rZ) 45) (λb18=>NN (ax.seq (ax.seq ?_)))))))
 have n8:¬(c.op=8\/c.op=14):=d5
 refine ax.region (jK 8 [21] [(1,a_ 4 b17),(2,wF ((c.op:Int)=(8:Int))),(5,a_ 4 b17),(6,wF ((c.op:Int)=(14:Int)))] (NF (KX (SR (jN 5 [11] (λBL=>[(1,a_ 4 b17),(4,A_ 6 BL 10)]) (λ_=>[]) (λBL=>.aD BL [vI 0,vI 3,vI 511,vI 0,vI 0,vI 0,vI 0,.slice none (0) (0),.string c.text,.slice none (0) (0)] 102) (λBL=>NN (ax.join (λ(x:aP)=>(x.data=[]/\x.aq=[]/\x.target.size<=1048576)/\((nj Z c d)=aat Z c d x)) (λ(x:aP)=>[(2,vI ↑d),(3,vP b16),(4,vP b17),(6,vP b18),(11,vP BL)]) (λ(x:aP)=>[.aD b16 (rV Z Y) 45,pC b17 c,.aD b18 (rZ) 45,.aD BL [vI (x.id),vI (x.kind),vI (x.mode),vI (x.cO),vI (x.cQ),vI (x.bJ),vI (x.bh),.slice none (0) (0),.string x.target,.slice none (0) (0)] 102,kF Y Z,j8 Y Z,.abs R]) ?_ ?_)))))))
 ·rintro x ⟨hx,hch⟩
  refine SR (jK 5 [54,55,57,58] [(0,A_ 0 b16 12),(3,a_ 1 b17),(4,A_ 3 BL 10)] (iK [4,5] (ye Z Y hI hC hD d5 d hd c.name x hx.1 hx.2.1 hx.2.2) ?_))
  rintro β1 _ _ cV ⟨A1,c1,L1,rfl,rfl,dw,_⟩
  replace aH:=aH.trans cV
  refine jN 6 [12,13] (λnO=>[(4,A_ 7 nO 12)]) (λ_=>[]) (λnO=>.aD nO (rW ((cI Z d c.name x).1) A1 c1 Y.G Y.cg Y.H Y.ch Y.V Y.cv) 45) (λnO=>NN (ax.seq (ax.seq ?_)))
  have jx:¬((cI Z d c.name x).2=0/\c.op=5):=d5
  refine ax.region (jK 3 [64] [(1,w_ (.bool (!(decide (((cI Z d c.name x).2:Int)=(0:Int))))) rfl)] (sN 64 (((cI Z d c.name x).2:Int)=(0:Int)) (λXx=>?_) (λXx=>?_)))
  ·refine jK 4 [68] [] (NT (SR (jC 5 [7,8] [(0,A_ 7 nO 12),(2,A_ 4 b18 12)] [(4,(zC (rW ((cI Z d c.name x).1) A1 c1 Y.G Y.cg Y.H Y.ch Y.V Y.cv)))] (NN (ax.ret (aF.bq (aF.eM [0,1] [zV1 A1 Z d c x c1 L1,zV2 Y Z d c x] (λagN aav hL=>?_))))))))
   have j9:dP agN (cI Z d c.name x).1 ⟨A1,c1,L1,Y.G,Y.cg,Y.H,Y.ch,Y.V,Y.cv⟩:=dw.at hL
   replace aH:=aH.trans aav
   exact rB _ [A_ 2 b18 12] [4] aH (⟨⟨A1,c1,L1,Y.G,Y.cg,Y.H,Y.ch,Y.V,Y.cv⟩,by rw [hch,JU jx]<;>rfl,rfl,by rw [hch,JU jx];exact j9⟩)
  refine jK 4 [68] [(1,a_ 3 b17),(2,w_ (.bool (!(decide ((c.op:Int)=(5:Int))))) rfl)] (NN (cN ((c.op:Int)=(5:Int)) (λh68=>SR (jC 5 [7,8] [(0,A_ 7 nO 12),(2,A_ 4 b18 12)] [(4,(zC (rW ((cI Z d c.name x).1) A1 c1 Y.G Y.cg Y.H Y.ch Y.V Y.cv)))] (NN (ax.ret (aF.bq (aF.eM [0,1] [zV1 A1 Z d c x c1 L1,zV2 Y Z d c x] (λaaw uz hL=>?_))))))) (λh68=>KB ⟨d5,d5⟩ jx)))
  have j9:dP aaw (cI Z d c.name x).1 ⟨A1,c1,L1,Y.G,Y.cg,Y.H,Y.ch,Y.V,Y.cv⟩:=dw.at hL
  replace aH:=aH.trans uz
  exact rB _ [A_ 2 b18 12] [4] aH (⟨⟨A1,c1,L1,Y.G,Y.cg,Y.H,Y.ch,Y.V,Y.cv⟩,by rw [hch,JU jx]<;>rfl,rfl,by rw [hch,JU jx];exact j9⟩)
 refine SR (jK 3 [40] [(1,a_ 4 b17)] (NN (cN ((c.op:Int)=(6:Int)) (λtI=>SQ (jK 2 [42] [(1,a_ 4 b17)] (gE [] (aan c.mode) (jK 1 [44] [] (NN (cN (mT c.mode) (λzG=>SR (jC 4 [7,8] [(0,A_ 3 b16 12),(1,A_ 5 b18 12)] [(5,(zC (rV Z Y)))] (NN (ax.ret (aF.bq (aF.bq (aF.eM [0,1] [kF Y Z,j8 Y Z] (λaeO Im hL=>?_)))))))) (λzG=>KX (SR (jC 4 [] [(1,a_ 4 b17),(3,A_ 6 BL 10)] [(6,[(1,vI 2),(2,vI (c.mode)),(8,.string ⟨#[]⟩)])] (NS (jK 3 [51] [(1,a_ 4 b17)] (NN (cP ((c.op:Int)=(5:Int)) (λvZ=>KB vZ (by omega)) (λvZ=>ax.skip (mJ ((⟨0,2,c.mode,0,0,0,0,[],⟨#[]⟩,[]⟩:aP)) [3,4,5,6,0,1,2] (⟨⟨rfl,rfl,L4 _⟩,agM n8 tI zG vZ⟩)))))))))))))))) (λtI=>KB tI (by omega)))))
 have j9:dP aeO Z Y:=hI.at hL
 replace aH:=aH.trans Im
 exact rB _ [A_ 3 b18 12] [0] aH (⟨Y,by rw [aeL n8 tI zG]<;>rfl,rfl,by rw [aeL n8 tI zG];exact j9⟩)
end
section
def core (o:bT):bT:={o with aU:=0,aR:=0,aJ:=false,up:=none}
end
section
open Go.RowKit Go.Maps bw aI
noncomputable section
def tQ (us:bB Th):bB Int:=us.map (λp=>(p.1,(p.2.k:Int)))
def bR (S:bg) (t:Th):Nat:=bV (aV S) (t.k:Int)
def toR (S:bg) (g:List Int):RS:=⟨aV S,g,tQ S.us,S.aL,S.X.cN,S.X.cB,S.X.cH,S.X.cS,S.X.cZ,S.X.last⟩
structure xw (ay:bB Th) (O:eE) (g:List Int):Prop where
 E8:∀t,aT ay t->((t.k:Int)∈g↔(ah O t.k).aJ=true)
 live:∀z∈g,∃t,aT ay t/\(t.k:Int)=z
structure qh (ay:bB Th):Prop where
 fP:aI.dK (aY ay)
 key:∀p∈ay,p.1=(p.2.k:Int)
end
section p
variable {S:bg} {g:List Int} {t u:Th} {d k i j:Nat} {name:ByteArray} {O O':eE} {h fD id:Int} {es:je Th} {X:FM}
theorem Inv0.ix (h:Inv0 S):qh S.ay:=⟨h.fP,λ_ hp=>h.key (ox h.fP hp)⟩
theorem Gg (hx:qh S.ay) (hi:i<S.ay.length):aT S.ay (jv S i)/\gV S i=((jv S i).k:Int):=by
 have hm:=ah8 (xV hi)
 have hk:=hx.key _ hm
 have hg:=ox hx.fP hm
 grind [gV,jv,aT]
theorem K6 (hx:qh S.ay) (hij:i<j) (hj:j<S.ay.length):gV S i<gV S j:=by
 have h1:=OQ (S:=S) (show i<S.ay.length by omega)
 have h2:=OQ hj
 obtain⟨g1,e1⟩:=List.getElem?_eq_some_iff.1 h1
 obtain⟨g2,e2⟩:=List.getElem?_eq_some_iff.1 h2
 have:=aiv.1 hx.fP i j g1 g2 hij
 rw [e1,e2] at this
 exact this
theorem PF (hx:qh S.ay):dK (aV S):=λi j hij hj=>by
 rw [iF] at hj
 rw [qt d5,qt hj]
 exact K6 hx hij hj
theorem JV (hx:qh S.ay) (hi:i<S.ay.length) (hj:j<S.ay.length) (e:gV S i=gV S j):i=j:=by
 rcases ail i j with h1|h1|h1
 ·have:=K6 hx h1 hj;omega
 ·exact h1
 have:=K6 hx h1 hi;omega
theorem nP (hI:qh S.ay) (hl:aT S.ay t):bR S t<(aV S).length/\bR S t<S.ay.length/\jv S (bR S t)=t/\gV S (bR S t)=(t.k:Int)/\gF (aV S) (t.k:Int)=(bR S t:Int)/\nd (aV S) (bR S t)=jV S.O (t.k:Int) t:=by
 grind [aem,nd,aV,qt,Hq,PF,iF,bR,bV,aT,jv,gV,gF,jV]
theorem SD (hI:qh S.ay) (hl:aT S.ay t) (hu:aT S.ay u) (e:bR S t=bR S u):t=u:=by
 have h1:=(nP hI hl).2.2.1
 rw [e,(nP hI hu).2.2.1] at h1
 exact h1.symm
theorem ac7 {us:bB Th}:aI.get (tQ us) h=(aI.get us h).map (λt=>(t.k:Int)):=get_map (λt:Th=>(t.k:Int)) us h
theorem CO {us:bB Th}:(tQ us).length=us.length:=ahQ ..
theorem Io {us:bB Th}:aY (tQ us)=aY us:=keys_map (λt:Th=>(t.k:Int)) us
theorem Mu {us:bB Th}:aI.aS (tQ us)=aI.aS us:=by unfold aI.aS;rw [Io]
theorem ac8 {us:bB Th}:tQ (ins h t us)=ins h (t.k:Int) (tQ us):=Kr (λt:Th=>(t.k:Int)) h t us
theorem SF {us:bB Th}:tQ (del h us)=del h (tQ us):=Kt (λt:Th=>(t.k:Int)) h us
theorem ac9 {us:bB Th}:(k:Int)∈jc (tQ us)↔0<hnd us k:=by
 unfold jc tQ hnd
 rw [List.map_map]
 induction us with
 |nil=>simp [gI]
 |cons p r ih=>
   grind [gI]
theorem Xy (n:ByteArray):∀es:je Th,BB (es.map (gD O)) n=es.findIdx? (λe=>decide (e.1=n)):=λes=>by
 unfold BB
 rw [List.findIdx?_map];rfl
theorem PG (n:ByteArray):∀es:je Th,bF n es=(es.findIdx? (λe=>decide (e.1=n))).map (tq es)
 |[]=>rfl
 |e::r=>by
   rw [p8,List.findIdx?_cons]
   by_cases hn:e.1=n
   ·rw [t8 hn];simp [hn,tq]
   rw [nw hn,PG n r]
   simp only [hn,decide_false,Bool.false_eq_true,if_false,Option.map_map]
   congr 1
theorem PI (hid:∀x,(ah O' x).id=(ah O x).id) (ht:(ah O t.k).id=id):∀es:je Th,(kO name t es).map (gD O')=mH name id (es.map (gD O))
 |[]=>by
   show [gD O' (name,t)]=[⟨name,id⟩]
   unfold gD;rw [hid,ht]
 |e::r=>by
   have he:gD O' e=gD O e:=by unfold gD;rw [hid]
   have hr:r.map (gD O')=r.map (gD O):=ah6 (λx _=>by unfold gD;rw [hid])
   unfold kO
   rw [ah2]
   unfold mH
   show _=if ¬iR e.1 name then _ else _
   split
   ·rw [ah2,ah2,he,hr]
    congr 1
    unfold gD;rw [hid,ht]
   rw [ah2,he,PI hid ht r]
theorem aax (hid:∀x,(ah O' x).id=(ah O x).id):(kP name es).map (gD O')=rN name (es.map (gD O)):=by
 unfold kP rN
 rw [List.filter_map]
 have:es.map (gD O')=es.map (gD O):=ah6 (λx _=>by unfold gD;rw [hid])
 have h2:(es.filter (λe=>decide (e.1≠name))).map (gD O')=(es.filter (λe=>decide (e.1≠name))).map (gD O):=ah6 (λx _=>by unfold gD;rw [hid])
 rw [h2];rfl
theorem PJ {z:Int}:∀es:List fM,(∀e∈es,e.name≠name)->qY name es z=z
 |[],_=>rfl
 |e::r,hn=>by
   unfold qY
   rw [nw (hn e (T5 ..)),PJ r (λx hx=>hn x (T4 _ hx))]
theorem SG {z:Int}:∀es:je Th,pY es->bF name es=some t->qY name (es.map (gD O)) z=(ah O t.k).id
 |[],_,h=>by cases h
 |e::r,hd,h=>by
   rw [p8] at h
   rw [ah2]
   unfold qY
   show qY name (r.map (gD O)) (if e.1=name then (ah O e.2.k).id else z)=_
   by_cases hn:e.1=name
   ·rw [t8 hn] at h ⊢
    injection h with h
    rw [h]
    refine PJ _ (λx hx=>?_)
    obtain⟨y,hy,rfl⟩:=ahN.1 hx
    exact λq=>(ahP.1 hd).1 y hy (hn.trans q.symm)
   rw [nw hn] at h ⊢
   exact SG r (ahP.1 hd).2 h
theorem E9 (hc:core (ah O' t.k)=core (ah O t.k)) (hid:∀x,(ah O' x).id=(ah O x).id):jV O' id t=jV O id t:=by
 have f:∀{α:Type} (g:bT->α),(∀o,g (core o)=g o)->g (ah O' t.k)=g (ah O t.k):=λg hg=>by rw [←hg,hc,hg]
 have he:gD O'=gD O:=by grind [gD]
 grind [jV,core,ah]
theorem JW {S':bg} (hi:S'.ay=S.ay) (hc:∀x,core (ah S'.O x)=core (ah S.O x)):aV S'=aV S:=by
 grind [aV,E9,core,ah]
theorem Fa (hI:qh S.ay) (hl:aT S.ay t) {S':bg} (hi:S'.ay=S.ay) (hc:∀x,x≠t.k->core (ah S'.O x)=core (ah S.O x)) (hid:(ah S'.O t.k).id=(ah S.O t.k).id):aV S'=(aV S).set (bR S t) (jV S'.O (t.k:Int) t):=by
 have ahG:∀x,(ah S'.O x).id=(ah S.O x).id:=λx=>by
  grind [aT,core,ah,aV,bR,jV]
 obtain⟨h1,h2,h3,h4,_⟩:=nP hI hl
 apply List.ext_getElem?
 grind [aV,bR,xV,E9,Gg,jJ,nP,JV]
theorem Xz {ay:bB Th} {f:Int×Th->aP} (hr:aI.dK (aY ay)) (hk:∀p∈ay,p.1=(p.2.k:Int)) {q:aP->Bool} {b:Bool} (hq:∀p∈ay,q (f p)=true↔¬(p.2=t/\b=true)) (hl:aT ay t):(ay.map f).filter q=(if b=true then del (t.k:Int) ay else ay).map f:=by
 rw [List.filter_map]
 by_cases hb:b=true
 ·rw [t8 hb]
  unfold del
  refine zc (List.map f) (List.filter_congr (λp hp=>?_))
  have h1:=hq p hp
  have h2:(q ∘ f) p=true↔decide (p.1≠(t.k:Int))=true:=by
   show q (f p)=true↔_
   rw [h1,decide_eq_true_iff]
   refine not_congr ⟨λh=>by rw [hk p hp,h.1],λh=>⟨?_,hb⟩⟩
   have h3:aI.get ay p.1=some p.2:=ox hr hp
   grind [aY,aT,del]
  exact Bool.eq_iff_iff.2 (h2.trans nh)
 rw [nw hb]
 exact zc (List.map f) (List.filter_eq_self.2 (λp hp=>(hq p hp).2 (λh=>hb h.2)))
end p
section v
variable {S S':bg} {g:List Int} {t u:Th} {d to k i j:Nat} {name aG:ByteArray} {O O':eE} {h fD id:Int} {es:je Th}
structure RelR (S:bg) (g:List Int):Prop where
 inv:bC S
 aJ:xw S.ay S.O g
theorem aay:oW (toR S g) h=match aI.get S.us h with|none=>.error 131|some t=>.ok (bR S t):=by
 grind [oW,tQ,ac7,toR,bR]
theorem SH (hr:RelR S g):lM (toR S g) h name fD=match gH S.O S.us h name fD with|.error e=>.error e|.ok d=>.ok (bR S ⟨d,2⟩):=by
 unfold lM gH
 rw [aay]
 cases e:aI.get S.us h with
 |none=>rfl
 |some t=>
   have hl:=(hr.inv.us _ _ e).1
   have hp:=(nP hr.inv.ix hl).2.2.2.2.2
   simp only
   have hp2:nd (toR S g).ns (bR S t)=jV S.O (t.k:Int) t:=hp
   rw [hp2]
   show (if t.kind=2 then if (t.k:Int)∈g then _ else if bU name then if bits BinOp.and .i64 (ah S.O t.k).mode fD=fD then Except.ok (bR S t) else _ else _ else _)=_
   by_cases h2:t.kind=2
   ·have ht:t=⟨t.k,2⟩:=by rw [←h2]
    rw [t8 h2,t8 h2]
    by_cases hg:(t.k:Int)∈g
    ·rw [t8 hg,t8 ((hr.aJ.E8 t hl).1 hg)]
    rw [nw hg,nw (λq=>hg ((hr.aJ.E8 t hl).2 q))]
    grind
   rw [nw h2,nw h2]
theorem XA {es:je Th} (hj:j<es.length):en (es.map (gD O)) j=⟨nS es j,(ah O (tq es j).k).id⟩:=by
 grind [en,Dr,gD,nS,ah,tq]
theorem aaz (hI:Inv0 S) (hd:aT S.ay ⟨d,2⟩):cL (aV S) (bR S ⟨d,2⟩) name=match bF name (ah S.O d).aq with|none=>-1|some t=>(bR S t:Int):=by
 unfold cL
 rw [(nP hI.ix hd).2.2.2.2.2]
 show (match BB ((ah S.O d).aq.map (gD S.O)) name with|none=>_|some j=>gF (aV S) (en ((ah S.O d).aq.map (gD S.O)) j).id)=_
 rw [Xy,PG]
 cases e:(ah S.O d).aq.findIdx? (λe=>decide (e.1=name)) with
 |none=>rfl
 |some j=>
   have hj:j<(ah S.O d).aq.length:=by
    rw [aif] at e
    exact e.1
   show gF (aV S) (en ((ah S.O d).aq.map (gD S.O)) j).id=(bR S (tq (ah S.O d).aq j):Int)
   have hl:aT S.ay (tq (ah S.O d).aq j):=(hI.aq _ hd _ (ah8 (Dr hj))).2
   rw [XA hj,(hI.ob _ hl).1,(nP hI.ix hl).2.2.2.2.1]
theorem PK (hI:Inv0 S):vO (toR S g)↔Room S.X S.ay:=by
 have h1:(dY (aV S) (aV S).length:Int)=S.X.aq:=by rw [iF,EY];exact hI.total.1.symm
 grind [aV,dY,iF,vO,toR,Room]
theorem PL (hI:Inv0 S):(fX (toR S g).ns (toR S g).ns.length:Int)=S.X.used:=by
 show (fX (aV S) (aV S).length:Int)=_
 rw [iF,Pn];exact hI.used.1.symm
theorem JX (hx:qh S.ay) (hd:aT S.ay ⟨d,2⟩) (htd:t.k≠d) (hid:(ah S.O t.k).id=id) (hS:S'={S with X:=S'.X,O:=dW S.X S.O d name t,us:=S'.us,aL:=S'.aL}):aV S'=nK S.X.cS S.X.cZ (aV S) (bR S ⟨d,2⟩) (mH name id (nd (aV S) (bR S ⟨d,2⟩)).aq):=by
 have hO:S'.O=dW S.X S.O d name t:=by rw [hS]
 have yq:∀x,(ah (dW S.X S.O d name t) x).id=(ah S.O x).id:=λx=>mU (g:=bT.id) (λ_ _=>rfl) (λ_ _=>rfl) (λ_ _ _=>rfl) (λ_ _=>rfl)
 rw [Fa hx hd (S':=S') (by rw [hS]) (λx cG=>by rw [hO,uQ htd,nw cG];split<;>rfl) (by rw [hO];exact yq d)]
 unfold nK
 rw [(nP hx hd).2.2.2.2.2,hO]
 congr 1
 show (⟨(d:Int),2,(ah (dW S.X S.O d name t) d).mode,(ah (dW S.X S.O d name t) d).cO,(ah (dW S.X S.O d name t) d).cQ,(ah (dW S.X S.O d name t) d).bJ,(ah (dW S.X S.O d name t) d).bh,(ah (dW S.X S.O d name t) d).data,(ah (dW S.X S.O d name t) d).target,(ah (dW S.X S.O d name t) d).aq.map (gD (dW S.X S.O d name t))⟩:aP)=_
 have h1:(ah (dW S.X S.O d name t) d)={ah S.O d with aq:=kO name t (ah S.O d).aq,bJ:=S.X.cS,bh:=S.X.cZ}:=by rw [uQ htd,t8 rfl]
 rw [h1]
 show (⟨_,_,_,_,_,_,_,_,_,(kO name t (ah S.O d).aq).map (gD (dW S.X S.O d name t))⟩:aP)=_
 rw [PI (O:=S.O) yq hid];rfl
theorem yY (hx:qh S.ay) (hd:aT S.ay ⟨d,2⟩) (htd:t.k≠d) (hi:S'.ay=S.ay) (hO:∀x,core (ah S'.O x)=core (ah (bn S.X S.O d name t) x)):aV S'=nK S.X.cS S.X.cZ (aV S) (bR S ⟨d,2⟩) (rN name (nd (aV S) (bR S ⟨d,2⟩)).aq):=by
 have yq:∀x,(ah (bn S.X S.O d name t) x).id=(ah S.O x).id:=λx=>eY (g:=bT.id) (λ_ _=>rfl) (λ_ _=>rfl) (λ_ _ _=>rfl)
 have e1:aV S'=aV {S with O:=bn S.X S.O d name t}:=JW (S:={S with O:=bn S.X S.O d name t}) hi hO
 rw [e1,Fa hx hd (S':={S with O:=bn S.X S.O d name t}) rfl (λx cG=>by
  show core (ah (bn S.X S.O d name t) x)=_
  rw [ld htd,nw cG];split<;>rfl) (yq d)]
 unfold nK
 rw [(nP hx hd).2.2.2.2.2]
 congr 1
 show (⟨(d:Int),2,(ah (bn S.X S.O d name t) d).mode,(ah (bn S.X S.O d name t) d).cO,(ah (bn S.X S.O d name t) d).cQ,(ah (bn S.X S.O d name t) d).bJ,(ah (bn S.X S.O d name t) d).bh,(ah (bn S.X S.O d name t) d).data,(ah (bn S.X S.O d name t) d).target,(ah (bn S.X S.O d name t) d).aq.map (gD (bn S.X S.O d name t))⟩:aP)=_
 have h1:(ah (bn S.X S.O d name t) d)={ah S.O d with aq:=kP name (ah S.O d).aq,bJ:=S.X.cS,bh:=S.X.cZ}:=by rw [ld htd,t8 rfl]
 rw [h1]
 show (⟨_,_,_,_,_,_,_,_,_,(kP name (ah S.O d).aq).map (gD (bn S.X S.O d name t))⟩:aP)=_
 rw [aax (O:=S.O) yq];rfl
theorem DI {es:je Th} (hid:∀e∈es,(ah O e.2.k).id=(e.2.k:Int)):∀j,j<=es.length->iY (es.map (gD O)) (k:Int) j=(es.take j).countP (λe=>decide (e.2.k=k))
 |0,_=>rfl
 |j+1,hj=>by
   rw [iY,DI hid j d5,ah4,Dr (show j<es.length by omega),List.countP_append,XA d5]
   congr 1
   have:=hid _ (ah8 (Dr (show j<es.length by omega)))
   have h2:(ah O (tq es j).k).id=((tq es j).k:Int):=this
   simp only [h2,Option.toList,List.countP_cons,List.countP_nil]
   by_cases hk:(tq es j).k=k
   ·simp [hk]
   simp [hk]
   omega
theorem XB (hid:∀i,i<S.ay.length->∀e∈(ah S.O (jv S i).k).aq,(ah S.O e.2.k).id=(e.2.k:Int)):tL (aV S) (k:Int)=(nE S.ay S.O k:Int):=by
 unfold tL
 rw [iF]
 have h:=BH (S:=S) (λo=>o.aq.countP (λe=>decide (e.2.k=k))) (λns n=>nN ns (k:Int) n) (λ_=>rfl) (λi hi=>by
  show nN (aV S) _ i+iY (nd (aV S) i).aq _ (nd (aV S) i).aq.length=_
  rw [qt hi]
  show _+iY ((ah S.O (jv S i).k).aq.map (gD S.O)) _ ((ah S.O (jv S i).k).aq.map (gD S.O)).length=_
  rw [ahQ,DI (hid i hi) _ (N6 _),ahW]) S.ay.length (N6 _)
 rw [ahW] at h
 exact zc Nat.cast h
theorem Rh (hI:Inv0 S) (hd:aT S.ay ⟨d,2⟩) (hl:bF name (ah S.O d).aq=some t) (hi:S'.ay=S.ay) (hO:∀x,core (ah S'.O x)=core (ah (bn S.X S.O d name t) x)):tL (aV S') (t.k:Int)=(ah S.O t.k).aU-1:=by
 have htd:=hI.ne hd hl
 have yq:∀x,(ah S'.O x).id=(ah S.O x).id:=λx=>(show (ah S'.O x).id=(ah (bn S.X S.O d name t) x).id by have h:=zc bT.id (hO x);exact h).trans (eY (g:=bT.id) (λ_ _=>rfl) (λ_ _=>rfl) (λ_ _ _=>rfl))
 have Bb:∀x,(ah S'.O x).aq=(ah (bn S.X S.O d name t) x).aq:=λx=>by have h:=zc bT.aq (hO x);exact h
 have he:∀x,(ah S'.O x).aq=if x=d then kP name (ah S.O d).aq else (ah S.O x).aq:=λx=>by
  grind [ld]
 rw [XB (λi hi2 e hem=>by
  rw [yq]
  rw [hi] at hi2
  have qw:jv S' i=jv S i:=by unfold jv;rw [hi]
  rw [qw,he] at hem
  have cW:=(Gg hI.ix hi2).1
  have:e∈(ah S.O (jv S i).k).aq:=by
   grind [Oo]
  exact (hI.ob _ (hI.aq _ cW _ this).2).1),hi]
 have h1:=Oq (q:=λe=>decide (e.2.k=t.k)) (O':=S'.O) hI.fP hd (λ_ _ e=>hI.key e) (λx hx=>by rw [he,nw hx]) (by rw [he,t8 rfl]) (hI.pQ hd) hl
 have h2:=hI.aU t (hI.bO hd hl).2
 grind [nE]
theorem aaA {V:Type} {z:Int} {p:Int×V} {us:bB V}:p∈del z us↔p∈us/\p.1≠z:=by
 unfold del
 rw [List.mem_filter]
 simp
theorem BM {S1 S2:bg} {O2:eE} {PN:bB Th} {R:RS} (hx:qh S1.ay) (hns:R.ns=aV S1) (qU:R.us=tQ PN) (hg:xw S1.ay O2 R.aJ) (hl:aT S1.ay t)
 (hfull:∀u,aT S1.ay u->u≠t->(ah O2 u.k).aJ=true->0<hnd PN u.k) (cA:(ah O2 t.k).aR=(hnd PN t.k:Int)) (hid:(ah O2 t.k).id=(t.k:Int))
 (hi:S2.ay=j7 O2 S1.ay t) (hc:∀x,core (ah S2.O x)=core (ah S1.O x)) (hgo:∀x,(ah S2.O x).aJ=(ah O2 x).aJ) :
 (gu R).ns=aV S2/\xw S2.ay S2.O (gu R).aJ:=by
 have yq:∀x,(ah S2.O x).id=(ah S1.O x).id:=λx=>by have h:=zc bT.id (hc x);exact h
 have kJ:∀p∈S1.ay,aT S1.ay p.2:=λp hp=>by
  unfold aT;rw [←hx.key p hp];exact ox hx.fP hp
 have hkept:∀p∈S1.ay,rO R (jV S1.O p.1 p.2)=true↔¬(p.2=t/\decide (tV O2 t)=true):=λp hp=>by
  have hlp:=kJ p hp
  show decide (p.1∈R.aJ->p.1∈jc R.us)=true↔_
  rw [decide_eq_true_iff,hx.key p hp,hg.E8 _ hlp,qU,ac9,decide_eq_true_iff]
  constructor
  ·rintro h ⟨h1,h2⟩
   rw [h1] at h
   have:=h h2.1
   have h3:=h2.2
   rw [cA] at h3
   omega
  intro h hgn
  by_cases hpt:p.2=t
  ·rw [hpt] at hgn ⊢
   have:¬(ah O2 t.k).aR=0:=λq=>h ⟨hpt,hgn,q⟩
   rw [cA] at this
   omega
  exact hfull _ hlp hpt hgn
 have aeP:(gu R).ns=aV S2:=by
  show R.ns.filter (rO R)=aV S2
  rw [hns]
  unfold aV
  rw [Xz hx.fP hx.key hkept hl,hi]
  grind [j7,jV,E9,tV]
 refine⟨aeP,?_⟩
 have hsub:∀u,aT S2.ay u->aT S1.ay u:=λu hu=>by
  grind [j7,aT,wG]
 have hx2:qh S2.ay:=by
  rw [hi]
  unfold j7
  split
  ·refine⟨?_,λp hp=>hx.key p (aaA.1 hp).1⟩
   unfold aY del
   exact hx.fP.sublist (List.Sublist.map _ List.filter_sublist)
  exact hx
 have hmem:∀z,z∈(gu R).aJ↔(z∈R.aJ/\∃p∈S2.ay,p.1=z):=λz=>by
  show z∈((gu R).ns.filter (λn=>decide (n.id∈R.aJ))).map aP.id↔_
  rw [aeP]
  simp only [ahN,List.mem_filter,decide_eq_true_iff]
  constructor
  ·rintro⟨n,⟨h1,h2⟩,h3⟩
   obtain⟨p,hp,rfl⟩:=ahN.1 h1
   exact⟨by rw [←h3];exact h2,p,hp,h3⟩
  rintro⟨h1,p,hp,h2⟩
  exact⟨jV S2.O p.1 p.2,⟨ahN.2 ⟨p,hp,rfl⟩,by show p.1∈_;rw [h2];exact h1⟩,h2⟩
 refine⟨λu hu=>?_,λz hz=>?_⟩
 ·rw [hmem,hg.E8 u (hsub u hu),hgo]
  exact⟨λh=>h.1,λh=>⟨h,_,get_mem hu,rfl⟩⟩
 obtain⟨_,p,hp,h1⟩:=(hmem z).1 hz
 refine⟨p.2,?_,(hx2.key p hp).symm.trans h1⟩
 unfold aT;rw [←hx2.key p hp];exact ox hx2.fP hp
end v
def iB (a:wX) (code:Int) (S':bg) (an:Int):Prop:=a.2.2=code/\(code=0->∃g',a.1=toR S' g'/\xw S'.ay S'.O g'/\a.2.1=an)
section w
variable {S S':bg} {g:List Int} {t u:Th} {d to k i j:Nat} {name aG:ByteArray} {O O':eE} {h fD id z:Int} {c:aN} {R:RS}
theorem iB.bad {a:wX} {e an:Int} {S':bg} (h:a.2.2=e) (he:e≠0):iB a e S' an:=⟨h,λq=>KB q he⟩
theorem XC (h1:R.ns=aV S') (h3:R.us=tQ S'.us) (h4:R.aL=S'.aL) (h5:R.cN=S'.X.cN/\R.cB=S'.X.cB/\R.cH=S'.X.cH/\R.cS=S'.X.cS/\R.cZ=S'.X.cZ/\R.last=S'.X.last):R=toR S' R.aJ:=by
 obtain⟨ns,aJ,us,aL,cN,cB,cH,cS,cZ,last⟩:=R
 grind [aV,tQ,toR]
theorem xw.same {ay:bB Th} (h:xw ay O g) (hg:∀x,(ah O' x).aJ=(ah O x).aJ):xw ay O' g:=⟨λt ht=>(h.E8 t ht).trans (by rw [hg]),h.live⟩
theorem PO (hI:Inv0 S) (z:Int):gF (aV S) z=match aI.get S.ay z with|none=>-1|some t=>(bR S t:Int):=by
 cases e:aI.get S.ay z with
 |none=>
   refine C9 (λj hj he=>?_)
   rw [iF] at hj
   rw [qt hj] at he
   have h1:gV S j=z:=he
   have h2:=(KI hI hj)
   have h3:aI.get S.ay ((jv S j).k:Int)=some (jv S j):=h2.1
   rw [←h2.2,h1,e] at h3
   cases h3
 |some t=>
   have hk:=(hI.ay _ _ e).1
   have hl:aT S.ay t:=by show aI.get S.ay (t.k:Int)=some t;rw [←hk];exact e
   show gF (aV S) z=_
   rw [hk];exact (nP hI.ix hl).2.2.2.2.1
theorem Ip (hI:Inv0 S) (e:aI.get S.ay z=some t):aT S.ay t/\z=(t.k:Int):=by
 have hk:=(hI.ay _ _ e).1
 grind [aT]
theorem qi (hI:Inv0 S) (hl:aT S.ay t):nd (toR S g).ns (bR S t)=jV S.O (t.k:Int) t:=(nP hI.ix hl).2.2.2.2.2
theorem iB.ok {a:wX} {an:Int} (hc:a.2.2=0) (h1:a.1.ns=aV S') (h3:a.1.us=tQ S'.us) (h4:a.1.aL=S'.aL) (h5:a.1.cN=S'.X.cN/\a.1.cB=S'.X.cB/\a.1.cH=S'.X.cH/\a.1.cS=S'.X.cS/\a.1.cZ=S'.X.cZ/\a.1.last=S'.X.last) (hg:xw S'.ay S'.O a.1.aJ) (ha:a.2.1=an):iB a 0 S' an:=
 ⟨hc,λ_=>⟨_,XC h1 h3 h4 h5,hg,ha⟩⟩
theorem iB.same {an:Int} (hr:RelR S g) (ha:an=0):iB (toR S g,0,0) 0 S an:=⟨rfl,λ_=>⟨g,rfl,hr.aJ,ha.symm⟩⟩
theorem PS (hr:RelR S g) (hl:aT S.ay t):iB (l5 (toR S g) (bR S t)) (fB S t).2.1 (fB S t).2.2 (fB S t).1:=by
 have jT:(toR S g).us.length=S.us.length:=CO
 unfold l5
 by_cases hc:(S.us.length:Int)<S.X.cH
 ·rw [mB hc,t8 (by rw [jT];exact hc)]
  refine .ok rfl ?_ ?_ ?_ ⟨rfl,rfl,rfl,rfl,rfl,rfl⟩ (hr.aJ.same (λx=>eP (g:=bT.aJ) (λ_=>rfl))) Mu
  ·show aV S=aV _
   exact (JW (S:=S) (S':={S with O:=bE S.O t.k (λo=>{o with aR:=o.aR+1}),us:=ins (aS S.us) t S.us,aL:=max S.aL ((S.us.length:Int)+1)}) rfl (λx=>eP (g:=core) (f:=λo=>{o with aR:=o.aR+1}) (λ_=>rfl))).symm
  ·show ins (aS (tQ S.us)) (nd (toR S g).ns (bR S t)).id (tQ S.us)=tQ (ins (aS S.us) t S.us)
   rw [qi hr.inv.toInv0 hl,ac8,Mu];rfl
  grind [tQ,CO,aT,iB,l5,toR,bR,fB]
 grind [og,aT,iB,l5,toR,bR,fB]
theorem aaB (hr:RelR S g) (c:aN):iB (if 0<=gF (toR S g).ns c.other then if (nd (toR S g).ns (bV (toR S g).ns c.other)).kind=2 then l5 (toR S g) (bV (toR S g).ns c.other) else (toR S g,0,173) else (toR S g,0,141)) (kI S c).1 (kI S c).2.1 (kI S c).2.2.answer:=by
 have hI:=hr.inv.toInv0
 have ha:gF (toR S g).ns c.other=_:=PO hI c.other
 unfold kI
 cases e:aI.get S.ay c.other with
 |none=>
   grind [gF,toR,iB,nd,bV,l5,kI]
 |some t=>
   rw [e] at ha
   replace ha:gF (toR S g).ns c.other=(bR S t:Int):=ha
   obtain⟨hl,_⟩:=Ip hI e
   have ht:bV (toR S g).ns c.other=bR S t:=by grind [bV]
   rw [t8 (by rw [ha];omega),ht,qi hI hl]
   show iB (if t.kind=2 then _ else _) _ _ _
   grind [PS,iB,gF,toR,nd,bV,l5,kI]
theorem ql (hr:RelR S g) (hd:aT S.ay ⟨d,2⟩) (name:ByteArray):(bF name (ah S.O d).aq=none/\cL (toR S g).ns (bR S ⟨d,2⟩) name = -1)\/∃t,bF name (ah S.O d).aq=some t/\cL (toR S g).ns (bR S ⟨d,2⟩) name=(bR S t:Int)/\aT S.ay t/\(t.kind=1\/t.kind=2\/t.kind=3)/\t.k≠d:=by
 have hI:=hr.inv.toInv0
 have hl:cL (toR S g).ns (bR S ⟨d,2⟩) name=_:=aaz (name:=name) hI hd
 cases e:bF name (ah S.O d).aq with
 |none=>rw [e] at hl;exact .inl ⟨rfl,hl⟩
 |some t=>
   rw [e] at hl
   have h1:=(hr.inv.bO hd e).2
   exact .inr ⟨t,rfl,hl,h1,(hI.ob t h1).2.2,hr.inv.ne hd e⟩
theorem Ri (hr:RelR S g) (c:aN):iB (kV (toR S g) c 2) (fZ S c).1 (fZ S c).2.1 (fZ S c).2.2.answer:=by
 have hI:=hr.inv.toInv0
 unfold kV fZ jO
 rw [SH hr]
 rcases Cx hI c.bD c.name 64 with ⟨e,h,he⟩|⟨d,h,hd,-⟩
 ·rw [h];exact .bad rfl he
 rw [h]
 simp only
 rcases ql hr hd c.name with ⟨h1,h2⟩|⟨t,h1,h2,hl,hk,-⟩
 ·grind [iB,kV,toR,fZ]
 rw [h1,t8 (by rw [h2];omega),h2,ah7,qi hI hl]
 show iB (if t.kind=3 then _ else if t.kind≠2 then (_,_,if t.kind=1 then _ else _) else _) _ _ _
 grind [PS,iB,kV,toR,fZ]
theorem aaC {f:bT->bT} (hid:∀o,(f o).id=o.id):jV (bE O t.k f) z t=⟨z,t.kind,(f (ah O t.k)).mode,(f (ah O t.k)).cO,(f (ah O t.k)).cQ,(f (ah O t.k)).bJ,(f (ah O t.k)).bh,(f (ah O t.k)).data,(f (ah O t.k)).target,(f (ah O t.k)).aq.map (gD O)⟩:=by
 have h1:ah (bE O t.k f) t.k=f (ah O t.k):=by rw [mh,t8 rfl]
 have h2:gD (bE O t.k f)=gD O:=funext λe=>by unfold gD;rw [eP (g:=bT.id) hid]
 unfold jV
 rw [h1,h2]
theorem XD (hI:Inv0 S) (hl:aT S.ay t) {f:bT->bT} (hid:∀o,(f o).id=o.id) (hi:S'.ay=S.ay) (hO:S'.O=bE S.O t.k f):aV S'=(aV S).set (bR S t) (jV (bE S.O t.k f) (t.k:Int) t):=by
 rw [Fa hI.ix hl (S':=S') hi (λx hx=>by rw [hO,mh,nw hx]) (by rw [hO];exact eP (g:=bT.id) hid),hO]
theorem Mv (hr:RelR S g) (hl:aT S.ay t) (bs:List UInt8):iB (kX (toR S g) (bR S t) bs) (gZ S t.k bs).2.1 (gZ S t.k bs).2.2 (gZ S t.k bs).1:=by
 have hI:=hr.inv.toInv0
 unfold kX gZ
 by_cases hb:bs=[]
 ·rw [t8 hb,t8 hb];exact .same hr rfl
 rw [nw hb,nw hb,PL hI]
 show iB (if S.X.cB-S.X.used<=0 then _ else _) _ _ _
 by_cases hu:S.X.cB-S.X.used<=0
 ·grind [aT,iB,kX,toR,bR,gZ]
 rw [nw hu,nw hu]
 refine .ok rfl (aiF ?_ (XD (S:=S) (S':={S with X:={S.X with used:=S.X.used+(dU S.X bs.length:Int)},O:=bE S.O t.k (λo=>{o with data:=o.data++bs.take (dU S.X bs.length),bJ:=S.X.cS,bh:=S.X.cZ})}) (t:=t) hI hl (f:=λo=>{o with data:=o.data++bs.take (dU S.X bs.length),bJ:=S.X.cS,bh:=S.X.cZ}) (λ_=>rfl) rfl rfl).symm) rfl rfl ⟨rfl,rfl,rfl,rfl,rfl,rfl⟩ (hr.aJ.same (λx=>eP (g:=bT.aJ) (f:=λo=>{o with data:=o.data++bs.take (dU S.X bs.length),bJ:=S.X.cS,bh:=S.X.cZ}) (λ_=>rfl))) rfl
 rw [aaC (f:=λo=>{o with data:=o.data++bs.take (dU S.X bs.length),bJ:=S.X.cS,bh:=S.X.cZ}) (λ_=>rfl)]
 simp only
 rw [qi hI hl]
 rfl
theorem XE (hr:RelR S g) (c:aN):iB (if c.bD∈aY (toR S g).us then (gu {toR S g with us:=del c.bD (toR S g).us},0,0) else (gu (toR S g),0,131)) (jq S c).1 (jq S c).2.1 0:=by
 have hI:=hr.inv.toInv0
 have hk:aY (toR S g).us=aY S.us:=Io
 unfold jq
 cases e:aI.get S.us c.bD with
 |none=>
   grind [get_none,iB,aY,toR,gu,del,jq]
 |some t=>
   have hl:=(hr.inv.us _ _ e).1
   rw [t8 (by rw [hk];exact ahN.2 ⟨_,get_mem e,rfl⟩)]
   have hdel:=λk=>RY (k:=k) hI.usr e
   have hsw:=BM (S1:=S) (S2:=(jq S c).2.1) (O2:=mD S.O t.k) (PN:=del c.bD S.us) (R:={toR S g with us:=del c.bD (toR S g).us}) (t:=t) hI.ix rfl SF.symm
    (hr.aJ.same (λx=>eP (g:=bT.aJ) (f:=λo=>{o with aR:=o.aR-1}) (λ_=>rfl))) hl
    (λu hu cG Mw=>by
     have h1:(ah S.O u.k).aJ=true:=aiF (eP (g:=bT.aJ) (f:=λo=>{o with aR:=o.aR-1}) (λ_=>rfl)).symm Mw
     have h2:=hr.inv.full u hu h1
     rw [hI.aR u hu] at h2
     have h3:=hdel u.k
     rw [nw (λq=>cG (jJ hu hl q.symm))] at h3
     omega)
    (by
     show (ah (bE S.O t.k _) t.k).aR=_
     rw [mh,t8 rfl]
     show (ah S.O t.k).aR-1=_
     rw [hI.aR t hl]
     have h3:=hdel t.k
     rw [t8 rfl] at h3
     omega)
    (by rw [show (ah (mD S.O t.k) t.k).id=(ah S.O t.k).id from eP (g:=bT.id) (f:=λo=>{o with aR:=o.aR-1}) (λ_=>rfl)];exact (hI.ob t hl).1)
    (by unfold jq;rw [e]) (λx=>by unfold jq;rw [e];exact eP (g:=core) (f:=λo=>{o with aR:=o.aR-1}) (λ_=>rfl)) (λx=>by unfold jq;rw [e])
   unfold jq at hsw
   rw [e] at hsw
   refine .ok rfl hsw.1 ?_ rfl ⟨rfl,rfl,rfl,rfl,rfl,rfl⟩ hsw.2 rfl
   exact SF.symm
end w
section x
variable {S S':bg} {g:List Int} {t u:Th} {d to k i j:Nat} {name aG:ByteArray} {O O':eE} {h fD id z:Int} {c:aN} {R:RS} {o:bT} {n:aP}
theorem aaD (hx:qh S.ay) (hl:aT S.ay t) (hi:S'.ay=S.ay):bR S' t=bR S t:=by
 have hl':aT S'.ay t:=by rw [hi];exact hl
 have hx':qh S'.ay:=by rw [hi];exact hx
 have h1:=nP hx hl
 have h2:=nP hx' hl'
 grind [JV,gV]
theorem PU (hI:Inv0 S):(dY (toR S g).ns (toR S g).ns.length:Int)=S.X.aq:=by
 show (dY (aV S) (aV S).length:Int)=S.X.aq
 rw [iF,EY];exact hI.total.1.symm
theorem GU (hI:Inv0 S):aV {S with O:=bE S.O (dm S.X) (λ_=>o)}=aV S:=by
 refine ah6 (λp hp=>?_)
 have h1:ah (bE S.O (dm S.X) (λ_=>o)) p.2.k=ah S.O p.2.k:=by rw [mh,nw (hI.fresh.ay p hp)]
 have h2:(ah S.O p.2.k).aq.map (gD (bE S.O (dm S.X) (λ_=>o)))=(ah S.O p.2.k).aq.map (gD S.O):=ah6 (λe he=>by
  unfold gD;rw [mh,nw (hI.fresh.aq _ e he)])
 unfold jV
 rw [h1,h2]
theorem XF (hI:Inv0 S):∀x∈aY S.ay,x<S.X.last+1:=λx hx=>by
 cases e:aI.get S.ay x with
 |none=>exact KB hx (get_none.1 e)
 |some t=>have:=(hI.ay _ _ e).2.2;omega
theorem K7 (hI:Inv0 S):(gU S d name o).ay=S.ay++[(S.X.last+1,⟨dm S.X,o.kind⟩)]:=Oe (XF hI)
theorem PV (hI:Inv0 S):qh (gU S d name o).ay/\aT (gU S d name o).ay ⟨dm S.X,o.kind⟩/\∀u,aT (gU S d name o).ay u↔u=⟨dm S.X,o.kind⟩\/aT S.ay u:=by
 have hn:S.X.last+1∉aY S.ay:=λh=>by have:=XF hI _ h;omega
 have hk:=sX hI
 have hg:∀x,aI.get (gU S d name o).ay x=if x=S.X.last+1 then some ⟨dm S.X,o.kind⟩ else aI.get S.ay x:=λx=>by
  show aI.get (ins _ _ _) x=_
  rw [sU hn]
 have hl:aT (gU S d name o).ay ⟨dm S.X,o.kind⟩:=by show aI.get _ ((dm S.X:Nat):Int)=_;rw [hg,t8 hk]
 refine⟨⟨zM hI.fP hn,λp hp=>?_⟩,hl,λu=>?_⟩
 ·rw [K7 hI] at hp
  rcases ahV.1 hp with h|h
  ·exact hI.ix.key p h
  grind
 constructor
 ·grind [gU,aT,dm]
 rintro (rfl|hu)
 ·exact hl
 show aI.get _ (u.k:Int)=some u
 rw [hg,nw (λq=>hn (by rw [←q];exact ahN.2 ⟨_,get_mem hu,rfl⟩))];exact hu
theorem K8 (hr:RelR S g) (hd:aT S.ay ⟨d,2⟩) (ho:o.id=S.X.last+1/\o.bJ=S.X.cS/\o.bh=S.X.cZ/\o.aJ=false/\o.aq=[]) (hn:n.kind=o.kind/\n.mode=o.mode/\n.cO=o.cO/\n.cQ=o.cQ/\n.data=o.data/\n.target=o.target/\n.aq=[]) :
 ko (toR S g) (bR S ⟨d,2⟩) name n=toR (gU S d name o) g/\xw (gU S d name o).ay (gU S d name o).O g:=by
 have hI:=hr.inv.toInv0
 have hk:=sX hI
 have htd:dm S.X≠d:=λe=>hI.fresh.ay _ (get_mem hd) e.symm
 have hat:=λx=>uQ (X:=S.X) (O:=bE S.O (dm S.X) (λ_=>o)) (d:=d) (name:=name) (t:=⟨dm S.X,o.kind⟩) (k:=x) htd
 obtain⟨h1,h2,h3,h4,h5⟩:=ho
 have hnew:ah (gU S d name o).O (dm S.X)={o with aU:=o.aU+1,up:=if o.kind=2 then some d else o.up}:=by
  show ah (dW _ _ _ _ _) _=_
  rw [hat,nw htd,t8 rfl,mh,t8 rfl]
 refine⟨XC (R:=ko (toR S g) (bR S ⟨d,2⟩) name n) ?_ rfl rfl ⟨rfl,rfl,rfl,rfl,rfl,rfl⟩,⟨λu hu=>?_,λz hz=>?_⟩⟩
 ·have hg2:=JX (S:={S with O:=bE S.O (dm S.X) (λ_=>o)}) (S':={S with X:=(gU S d name o).X,O:=(gU S d name o).O}) (d:=d) (name:=name) (t:=⟨dm S.X,o.kind⟩) (id:=S.X.last+1) hI.ix hd htd (by
   show (ah (bE _ _ _) (dm S.X)).id=_
   rw [mh,t8 rfl];exact h1) rfl
  rw [GU hI,show bR {S with O:=bE S.O (dm S.X) (λ_=>o)} ⟨d,2⟩=bR S ⟨d,2⟩ by unfold bR;rw [GU hI]] at hg2
  have hg3:aV (gU S d name o)=aV {S with X:=(gU S d name o).X,O:=(gU S d name o).O}++[jV (gU S d name o).O (S.X.last+1) ⟨dm S.X,o.kind⟩]:=by
   unfold aV
   rw [K7 hI,aik];rfl
  have hN:({n with id:=S.X.last+1,bJ:=S.X.cS,bh:=S.X.cZ}:aP)=jV (gU S d name o).O (S.X.last+1) ⟨dm S.X,o.kind⟩:=by
   unfold jV
   simp only
   rw [hnew,h5]
   obtain⟨ni,nk,nm,nu,ng,ns,nn,nda,nt,ne⟩:=n
   obtain⟨g1,g2,g3,g4,g5,g6,g7⟩:=hn
   simp only at g1 g2 g3 g4 g5 g6 g7 ⊢
   rw [g1,g2,g3,g4,g5,g6,g7,h2,h3];rfl
  rw [hg3,hg2,←hN];rfl
 ·rcases ((PV hI).2.2 u).1 hu with rfl|Sp
  ·constructor
   ·intro hz
    obtain⟨v,hv,e⟩:=hr.aJ.live _ hz
    exact KB (show v.k=dm S.X by exact Int.ofNat.inj e) (hI.fresh.ay _ (get_mem hv))
   intro h
   rw [hnew] at h
   have h:o.aJ=true:=h
   rw [h4] at h;cases h
  refine (hr.aJ.E8 u Sp).trans ?_
  have:(ah (gU S d name o).O u.k).aJ=(ah S.O u.k).aJ:=by
   refine aiF (mU (g:=bT.aJ) (λ_ _=>rfl) (λ_ _=>rfl) (λ_ _ _=>rfl) (λ_ _=>rfl)) ?_
   rw [mh,nw (hI.fresh.ay _ (get_mem Sp))]
  rw [this]
 obtain⟨v,hv,e⟩:=hr.aJ.live z hz
 exact⟨v,((PV hI).2.2 v).2 (.inr hv),e⟩
end x
section y
variable {S S' S2:bg} {g:List Int} {t u:Th} {d to k i j:Nat} {name aG:ByteArray} {O O':eE} {h fD id z:Int} {c:aN} {R:RS} {o:bT} {n:aP}
theorem Ci (hr:RelR S g) (hd:aT S.ay ⟨d,2⟩) (name:ByteArray) (hb:¬(n.kind=3/\lF n.target≠0)):(gY S.X S.O S.ay d name=0/\cI (toR S g) (bR S ⟨d,2⟩) name n=(ko (toR S g) (bR S ⟨d,2⟩) name n,0))\/(gY S.X S.O S.ay d name≠0/\cI (toR S g) (bR S ⟨d,2⟩) name n=(toR S g,gY S.X S.O S.ay d name)):=by
 unfold cI gY
 rw [nw hb]
 rcases ql hr hd name with ⟨h1,h2⟩|⟨t,h1,h2,-⟩
 ·rw [t8 h1,nw (show ¬0<=cL (toR S g).ns (bR S ⟨d,2⟩) name by rw [h2];decide)]
  by_cases h3:Room S.X S.ay
  ·rw [t8 ((PK hr.inv.toInv0).2 h3),t8 h3];exact .inl ⟨rfl,rfl⟩
  rw [nw (λq=>h3 ((PK hr.inv.toInv0).1 q)),nw h3];exact .inr ⟨d8,rfl⟩
 grind
theorem Iq (hr:RelR S g) (hd:aT S.ay ⟨d,2⟩) (name:ByteArray) (hb:¬(n.kind=3/\lF n.target≠0)) (ho:o.id=S.X.last+1/\o.bJ=S.X.cS/\o.bh=S.X.cZ/\o.aJ=false/\o.aq=[]) (hn:n.kind=o.kind/\n.mode=o.mode/\n.cO=o.cO/\n.cQ=o.cQ/\n.data=o.data/\n.target=o.target/\n.aq=[]) :
 iB ((cI (toR S g) (bR S ⟨d,2⟩) name n).1,0,(cI (toR S g) (bR S ⟨d,2⟩) name n).2) (if gY S.X S.O S.ay d name=0 then (0,gU S d name o) else (gY S.X S.O S.ay d name,S)).1 (if gY S.X S.O S.ay d name=0 then ((0:Int),gU S d name o) else (gY S.X S.O S.ay d name,S)).2 0:=by
 grind [Ci,K8,aT,lF,iB,cI,toR,bR,gY,gU]
theorem XG (hr:RelR S g) (c:aN) (cA:c.op=4):iB (match lM (toR S g) c.bD c.name 192 with|.error e=>(toR S g,0,e)|.ok d=>nj (toR S g) c d) (iH S c).1 (iH S c).2.1 0:=by
 unfold iH
 rw [SH hr]
 rcases Cx hr.inv.toInv0 c.bD c.name 192 with ⟨e,h,he⟩|⟨d,h,hd,-⟩
 ·rw [h];exact .bad rfl he
 rw [h]
 simp only
 unfold nj
 rw [nw d5,nw d5]
 by_cases hm:mT c.mode
 ·rw [t8 hm,t8 hm,nw d5]
  exact Iq (o:=dN S.X 2 c.mode) hr hd c.name (λq=>KB (show (2:Int)=3 from q.1) d8) ⟨rfl,rfl,rfl,rfl,rfl⟩ ⟨rfl,rfl,rfl,rfl,rfl,rfl,rfl⟩
 grind [iB,lM,toR,nj,iH]
theorem ada (hr:RelR S g) (hd:aT S.ay ⟨d,2⟩) (hl:bF name (ah S.O d).aq=some t):qY name (nd (aV S) (bR S ⟨d,2⟩)).aq 0=(t.k:Int):=by
 have hI:=hr.inv.toInv0
 rw [(nP hI.ix hd).2.2.2.2.2]
 show qY name ((ah S.O d).aq.map (gD S.O)) 0=_
 exact (SG _ (hI.pQ hd) hl).trans (hI.ob _ (hr.inv.bO hd hl).2).1
theorem XH (hr:RelR S g) (hd:aT S.ay ⟨d,2⟩) (hl:bF name (ah S.O d).aq=some t):(cY (toR S g) (bR S ⟨d,2⟩) name true).aJ=if (ah S.O t.k).aU-1=0 then g++[(t.k:Int)] else g:=by
 have hI:=hr.inv.toInv0
 have h2:tL (nK S.X.cS S.X.cZ (aV S) (bR S ⟨d,2⟩) (rN name (nd (aV S) (bR S ⟨d,2⟩)).aq)) (t.k:Int)=(ah S.O t.k).aU-1:=by
  rw [←yY (S:=S) (S':={S with O:=bn S.X S.O d name t}) hI.ix hd (hr.inv.ne hd hl) rfl (λ_=>rfl)]
  grind [Rh,bn]
 grind [tL,nK,aV,bR,rN,nd,qY,ada,ah,aT,bF,cY,toR]
structure af2 (S:bg) (d:Nat) (name:ByteArray) (t:Th) (g':List Int):Prop where
 aJ:xw S.ay (aZ S d name t).O g'
 ay:(aZ S d name t).ay=j7 (aZ S d name t).O S.ay t
 core:∀x,Proofs.YtfececghhgeapaaGreatDoor.core (ah (aZ S d name t).O x)=Proofs.YtfececghhgeapaaGreatDoor.core (ah (bn S.X S.O d name t) x)
 aR:∀x,(ah (aZ S d name t).O x).aR=(ah S.O x).aR
 others:∀x,x≠t.k->(ah (aZ S d name t).O x).aJ=(ah S.O x).aJ
theorem PW (hr:RelR S g) (hd:aT S.ay ⟨d,2⟩) (hl:bF name (ah S.O d).aq=some t):af2 S d name t (cY (toR S g) (bR S ⟨d,2⟩) name true).aJ:=by
 have hI:=hr.inv.toInv0
 have fT:=(hr.inv.bO hd hl).2
 have htd:=hr.inv.ne hd hl
 have fA:(ah (bn S.X S.O d name t) t.k).aU=(ah S.O t.k).aU-1:=by grind [ld]
 have hgo:∀x,(ah (bn S.X S.O d name t) x).aJ=(ah S.O x).aJ:=λx=>eY (g:=bT.aJ) (λ_ _=>rfl) (λ_ _=>rfl) (λ_ _ _=>rfl)
 have cA:∀x,(ah (bn S.X S.O d name t) x).aR=(ah S.O x).aR:=λx=>eY (g:=bT.aR) (λ_ _=>rfl) (λ_ _=>rfl) (λ_ _ _=>rfl)
 rw [XH hr hd hl]
 by_cases h0:(ah S.O t.k).aU-1=0
 ·have hm:=xL (S:=S) (d:=d) (name:=name) (t:=t) (fA.trans h0)
  have hO:(aZ S d name t).O=sW (bn S.X S.O d name t) t.k:=by rw [hm]
  have hat:∀x,(ah (sW (bn S.X S.O d name t) t.k) x).aJ=if x=t.k then true else (ah S.O x).aJ:=λx=>by
   grind [sW,mh]
  rw [t8 h0]
  refine⟨⟨λu hu=>?_,λz hz=>?_⟩,by rw [hO,hm],λx=>?_,λx=>?_,λx hx=>?_⟩
  ·rw [hO,hat,ahV,ah5]
   by_cases hx:u.k=t.k
   ·grind
   rw [nw hx,←hr.aJ.E8 u hu]
   grind
  ·rcases ahV.1 hz with hz|hz
   ·exact hr.aJ.live z hz
   grind
  ·rw [hO];exact eP (g:=Proofs.YtfececghhgeapaaGreatDoor.core) (f:=λo=>{o with aJ:=true}) (λ_=>rfl)
  ·rw [hO];exact aiF (eP (g:=bT.aR) (f:=λo=>{o with aJ:=true}) (λ_=>rfl)) (cA x)
  rw [hO,hat,nw hx]
 have hm:=xM (S:=S) (d:=d) (name:=name) (t:=t) (λq=>h0 (fA.symm.trans q))
 have hO:(aZ S d name t).O=bn S.X S.O d name t:=by rw [hm]
 rw [nw h0]
 refine⟨by rw [hO];exact hr.aJ.same hgo,?_,λx=>by rw [hO],λx=>by rw [hO];exact cA x,λx _=>by rw [hO];exact hgo x⟩
 rw [hO,hm]
 unfold j7
 rw [nw]
 rintro⟨h1,_⟩
 rw [hgo] at h1
 have h2:=hI.aJ t fT h1
 have h3:=hI.aU t fT
 have h4:=qM (ay:=S.ay) hd hl
 omega
theorem K9 (hr:RelR S g) (hu:aT S.ay u) (h:(ah S.O u.k).aJ=true):0<hnd S.us u.k:=by
 have h1:=hr.inv.full u hu h
 rw [hr.inv.aR u hu] at h1;omega
theorem PX (hr:RelR S g) (hd:aT S.ay ⟨d,2⟩) (hl:bF name (ah S.O d).aq=some t) (h1:S2={aZ S d name t with O:=S2.O}) (hc:∀x,core (ah S2.O x)=core (ah (aZ S d name t).O x)) (hgo:∀x,(ah S2.O x).aJ=(ah (aZ S d name t).O x).aJ) :
 iB (gu (cY (toR S g) (bR S ⟨d,2⟩) name true),0,0) 0 S2 0:=by
 have hI:=hr.inv.toInv0
 have fT:=(hr.inv.bO hd hl).2
 have SI:=PW hr hd hl
 have hX:S2.X=(aZ S d name t).X:=by rw [h1]
 have hsw:=BM (S1:={S with O:=bn S.X S.O d name t}) (S2:=S2) (O2:=(aZ S d name t).O) (PN:=S.us) (R:=cY (toR S g) (bR S ⟨d,2⟩) name true) (t:=t) hI.ix
  (yY (S:=S) (S':={S with O:=bn S.X S.O d name t}) hI.ix hd (hr.inv.ne hd hl) rfl (λ_=>rfl)).symm rfl SI.aJ fT
  (λu hu cG Mw=>by
   rw [SI.others u.k (λe=>cG (jJ hu fT e))] at Mw
   exact K9 hr hu Mw)
  (by rw [SI.aR];exact hI.aR t fT)
  (by have h:=zc bT.id (SI.core t.k);exact h.trans ((eY (g:=bT.id) (λ_ _=>rfl) (λ_ _=>rfl) (λ_ _ _=>rfl)).trans (hI.ob t fT).1))
  (by rw [h1];exact SI.ay) (λx=>(hc x).trans (SI.core x)) hgo
 grind [aT,bF,ah,aZ,core,iB,gu,cY,toR,bR]
end y
section z
variable {S S' S2:bg} {g:List Int} {t u:Th} {d to k i j:Nat} {name aG:ByteArray} {O O':eE} {h fD id z:Int} {c:aN} {R:RS} {o:bT} {n:aP}
theorem XI (hr:RelR S g) (hd:aT S.ay ⟨d,2⟩) (name:ByteArray):iB ((jP (toR S g) (bR S ⟨d,2⟩) name false).1,0,(jP (toR S g) (bR S ⟨d,2⟩) name false).2) (iO S d name).1 (iO S d name).2 0:=by
 have hI:=hr.inv.toInv0
 unfold jP iO
 rcases ql hr hd name with ⟨h1,h2⟩|⟨t,h1,h2,hl,hk,htd⟩
 ·grind [cL,toR,bR,aT,iB,jP,iO]
 rw [h1,t8 (show 0<=cL (toR S g).ns (bR S ⟨d,2⟩) name by rw [h2];omega),h2,ah7]
 simp only
 rw [qi hI hl]
 by_cases h3:t.kind=2
 ·rw [t8 ⟨trivial,h3⟩,t8 h3];exact .bad rfl (show (172:Int)≠0 by decide)
 rw [nw (λq=>h3 q.2),nw (λq=>by cases q.1),nw (λq=>by cases q.1),nw h3]
 exact PX hr hd h1 rfl (λ_=>rfl) (λ_=>rfl)
theorem XJ (hr:RelR S g) (hd:aT S.ay ⟨d,2⟩) (name:ByteArray):iB ((jP (toR S g) (bR S ⟨d,2⟩) name true).1,0,(jP (toR S g) (bR S ⟨d,2⟩) name true).2) (jo S d name).1 (jo S d name).2 0:=by
 have hI:=hr.inv.toInv0
 unfold jP jo
 rcases ql hr hd name with ⟨h1,h2⟩|⟨t,h1,h2,hl,hk,htd⟩
 ·grind [cL,toR,bR,aT,iB,jP,jo]
 rw [h1,t8 (show 0<=cL (toR S g).ns (bR S ⟨d,2⟩) name by rw [h2];omega),h2,ah7]
 simp only
 rw [qi hI hl,nw (λq=>by cases q.1)]
 by_cases h3:t.kind=2
 rotate_left
 ·rw [t8 ⟨trivial,h3⟩,nw h3];exact .bad rfl (show (173:Int)≠0 by decide)
 rw [nw (λq=>q.2 h3),t8 h3]
 have hel:(jV S.O (t.k:Int) t).aq.length=(ah S.O t.k).aq.length:=ahQ ..
 rw [hel]
 by_cases h4:(ah S.O t.k).aq=[]
 ·rw [nw gn,t8 h4]
  exact PX hr hd h1 (S2:={aZ S d name t with O:=jm (aZ S d name t).O t.k}) rfl (λx=>eP (g:=core) (f:=λo=>{o with up:=none}) (λ_=>rfl)) (λx=>eP (g:=bT.aJ) (f:=λo=>{o with up:=none}) (λ_=>rfl))
 rw [t8 ⟨trivial,List.length_pos_iff.2 h4⟩,nw h4];exact .bad rfl (show (178:Int)≠0 by decide)
end z
theorem GV {α:Type} {p q:α->Bool} (h:∀x,p x=true->q x=true):∀{l:List α} {a:α},a∈l->q a=true->p a=false->l.countP p<l.countP q
 |b::r,a,ha,hq,hp=>by
   rw [List.countP_cons,List.countP_cons]
   have hm:r.countP p<=r.countP q:=List.countP_mono_left (λx _ hx=>h x hx)
   rcases ahK.1 ha with rfl|ha
   ·rw [t8 hq,nw (by rw [hp];decide)];omega
   have:=GV h ha hq hp
   by_cases hb:p b=true
   ·rw [t8 hb,t8 (h b hb)];omega
   rw [nw hb];omega
theorem PY {ns:List aP} {id:Int}:∀n,(∀i,i<n->¬0<iY (nd ns i).aq id (nd ns i).aq.length)->oz ns id n = -1
 |0,_=>rfl
 |n+1,h=>by
   unfold oz
   rw [nw (h n (ah0 n))];exact PY n (λi hi=>h i d5)
theorem PZ {ns:List aP} {id:Int} {z:Nat} (hp:0<iY (nd ns z).aq id (nd ns z).aq.length):∀n,z<n->(∀i,i<n->0<iY (nd ns i).aq id (nd ns i).aq.length->i=z)->oz ns id n=(z:Int)
 |n+1,hz,hu=>by
   unfold oz
   by_cases h:0<iY (nd ns n).aq id (nd ns n).aq.length
   ·rw [t8 h,hu n (ah0 n) h]
   rw [nw h]
   exact PZ hp n gn (λi hi=>hu i d5)
section q
variable {S S' S2:bg} {g:List Int} {t u:Th} {d to k i j:Nat} {name aG:ByteArray} {O O':eE} {h fD id z:Int} {c:aN} {R:RS} {o:bT} {n:aP}
theorem SJ (hI:Inv0 S) (hi:i<S.ay.length):0<iY (nd (aV S) i).aq (k:Int) (nd (aV S) i).aq.length↔∃e∈(ah S.O (jv S i).k).aq,e.2.k=k:=by
 have hl:=(Gg hI.ix hi).1
 rw [qt hi]
 show 0<iY ((ah S.O (jv S i).k).aq.map (gD S.O)) _ ((ah S.O (jv S i).k).aq.map (gD S.O)).length↔_
 rw [ahQ,DI (λe he=>(hI.ob _ (hI.aq _ hl e he).2).1) _ (N6 _),ahW,List.countP_pos_iff]
 grind
theorem aeQ (hI:Inv0 S) (hu:aT S.ay u) (h2:u.kind=2):oz (aV S) (u.k:Int) (aV S).length=match (ah S.O u.k).up with|none=>-1|some j=>(bR S ⟨j,2⟩:Int):=by
 have key:∀i,i<S.ay.length->0<iY (nd (aV S) i).aq (u.k:Int) (nd (aV S) i).aq.length->(ah S.O u.k).up=some (jv S i).k/\jv S i=⟨(jv S i).k,2⟩:=λi hi hp=>by
  obtain⟨e,he,hek⟩:=(SJ hI hi).1 hp
  have hl:=(Gg hI.ix hi).1
  have hk2:(jv S i).kind=2:=by
   apply ahY
   intro hn
   have h3:=(hI.mt _ hl).aq (by rw [(hI.ob _ hl).2.1];exact hn)
   rw [h3] at he;cases he
  have ht:jv S i=⟨(jv S i).k,2⟩:=by rw [←hk2]
  have heu:e.2=u:=jJ (hI.aq _ hl e he).2 hu hek
  refine⟨(hI.up u hu _).2 ⟨h2,by rw [←ht];exact hl,e.1,?_⟩,ht⟩
  exact zP (hI.pQ hl) (by rw [←heu];exact he)
 rw [iF]
 cases e:(ah S.O u.k).up with
 |none=>
   grind [PY]
 |some j=>
   obtain⟨_,hj,nm,hnm⟩:=(hI.up u hu j).1 e
   have hp:=nP hI.ix hj
   refine PZ ((SJ hI hp.2.1).2 ⟨(nm,u),?_,rfl⟩) _ hp.2.1 (λi hi hq=>?_)
   ·rw [hp.2.2.1];exact q5 hnm
   obtain⟨h3,h4⟩:=key i hi hq
   rw [e] at h3
   injection h3 with h3
   refine JV hI.ix hi hp.2.1 ?_
   rw [(Gg hI.ix hi).2,hp.2.2.2.1,←h3]
theorem XK (hI:Inv0 S) (ht:aT S.ay t) (h2:t.kind=2) (fq:aT S.ay ⟨to,2⟩):jH (aV S) (bR S t) ((aV S).length+1) (bR S ⟨to,2⟩)=true↔rY S.O t.k to:=by
 obtain⟨dp,hdp⟩:=hI.deep
 have main:∀(f d:Nat),aT S.ay ⟨d,2⟩->S.ay.countP (λp=>decide (dp p.2.k<dp d))<f->(jH (aV S) (bR S t) f (bR S ⟨d,2⟩)=true↔rY S.O t.k d):=by
  intro f
  induction f with
  |zero=>intro d _ h;omega
  |succ f ih=>
    intro d hd hm
    have hp:=nP hI.ix hd
    unfold jH
    by_cases hdt:bR S ⟨d,2⟩=bR S t
    ·rw [t8 hdt]
     have:=SD hI.ix hd ht hdt
     rw [←this]
     exact⟨λ_=>.here,λ_=>rfl⟩
    rw [nw hdt,hp.2.2.2.2.2]
    show (if oz (aV S) (d:Int) (aV S).length<0 then false else jH (aV S) (bR S t) f (oz (aV S) (d:Int) (aV S).length).toNat)=true↔_
    have hu:oz (aV S) (d:Int) (aV S).length=_:=aeQ hI hd rfl
    have hdk:d≠t.k:=λe=>hdt (by rw [show (⟨d,2⟩:Th)=t by rw [e,←h2]])
    cases e:(ah S.O d).up with
    |none=>
      rw [show (ah S.O (⟨d,2⟩:Th).k).up=none from e] at hu
      replace hu:oz (aV S) (d:Int) (aV S).length = -1:=hu
      rw [hu,t8 d8]
      refine⟨λq=>KB q (by decide),λq=>?_⟩
      cases q with
      |here=>exact KB rfl hdk
      |up h3 _=>rw [e] at h3;cases h3
    |some j=>
      rw [show (ah S.O (⟨d,2⟩:Th).k).up=some j from e] at hu
      replace hu:oz (aV S) (d:Int) (aV S).length=(bR S ⟨j,2⟩:Int):=hu
      obtain⟨_,hj,_⟩:=(hI.up _ hd j).1 e
      have fT:=hdp d j e
      rw [hu,nw d5,ah7,ih j hj (ahR (GV (p:=λp:Int×Th=>decide (dp p.2.k<dp j)) (q:=λp=>decide (dp p.2.k<dp d)) (λx hx=>ahO (by have:=aij hx;omega)) (get_mem hj) (ahO fT) (Lk (aix _))) (Nat.lt_succ_iff.1 hm))]
      refine⟨λq=>.up e q,λq=>?_⟩
      cases q with
      |here=>exact KB rfl hdk
      |up h3 h4=>rw [e] at h3;injection h3 with h3;rw [h3];exact h4
 grind [iF]
end q
section j
variable {S S' S2:bg} {g:List Int} {t u:Th} {d to k i j:Nat} {name aG:ByteArray} {O O':eE} {h fD id z:Int} {c:aN} {R:RS} {o:Th} {n:aP}
theorem GW {X:FM} {x:Nat}:(ah (bn X O d name t) x).aJ=(ah O x).aJ:=eY (g:=bT.aJ) (λ_ _=>rfl) (λ_ _=>rfl) (λ_ _ _=>rfl)
theorem Fb {X:FM} {x:Nat}:(ah (bn X O d name t) x).aR=(ah O x).aR:=eY (g:=bT.aR) (λ_ _=>rfl) (λ_ _=>rfl) (λ_ _ _=>rfl)
theorem BN {X:FM} {x:Nat}:(ah (bn X O d name t) x).id=(ah O x).id:=eY (g:=bT.id) (λ_ _=>rfl) (λ_ _=>rfl) (λ_ _ _=>rfl)
theorem GX {X:FM} {x:Nat}:(ah (dW X O d name t) x).aJ=(ah O x).aJ:=mU (g:=bT.aJ) (λ_ _=>rfl) (λ_ _=>rfl) (λ_ _ _=>rfl) (λ_ _=>rfl)
theorem Fc {X:FM} {x:Nat}:(ah (dW X O d name t) x).aR=(ah O x).aR:=mU (g:=bT.aR) (λ_ _=>rfl) (λ_ _=>rfl) (λ_ _ _=>rfl) (λ_ _=>rfl)
theorem Mx {X:FM} {x:Nat}:(ah (dW X O d name t) x).id=(ah O x).id:=mU (g:=bT.id) (λ_ _=>rfl) (λ_ _=>rfl) (λ_ _ _=>rfl) (λ_ _=>rfl)
theorem aaE (hr:RelR S g) (hd:aT S.ay ⟨d,2⟩) (hl:bF name (ah S.O d).aq=some t):(ah S.O t.k).aJ≠true:=λh=>by
 have hI:=hr.inv.toInv0
 have fT:=(hr.inv.bO hd hl).2
 have h2:=hI.aJ t fT h
 have h3:=hI.aU t fT
 have h4:=qM (ay:=S.ay) hd hl
 omega
theorem GY (R:RS) (d:Nat) (name:ByteArray):(cY R d name false).aJ=R.aJ:=by
 grind [cY]
theorem SK {S1:bg} (hx:qh S.ay) (hi:S1.ay=S.ay) (hX:S1.X.cS=S.X.cS/\S1.X.cZ=S.X.cZ) (hns:R.ns=aV S1) (hRs:R.cS=S.X.cS/\R.cZ=S.X.cZ) (hd:aT S.ay ⟨d,2⟩) (fq:aT S.ay ⟨to,2⟩) (htd:t.k≠d) (D4:t.k≠to) (hid:(ah S1.O t.k).id=(t.k:Int))
 (hi2:S2.ay=S.ay) (hO:S2.O=dW S1.X (bn S1.X S1.O d name t) to aG t) :
 (dX (cY R (bR S ⟨d,2⟩) name false) (bR S ⟨to,2⟩) aG (t.k:Int)).ns=aV S2:=by
 have hx1:qh S1.ay:=by rw [hi];exact hx
 have jF:aT S1.ay ⟨d,2⟩:=by rw [hi];exact hd
 have oV:aT S1.ay ⟨to,2⟩:=by rw [hi];exact fq
 have hl:=yY (S:=S1) (S':={S1 with O:=bn S1.X S1.O d name t}) (name:=name) hx1 jF htd rfl (λ_=>rfl)
 have he:=JX (S:={S1 with O:=bn S1.X S1.O d name t}) (S':={S1 with O:=dW S1.X (bn S1.X S1.O d name t) to aG t}) (name:=aG) (id:=(t.k:Int)) hx1 oV D4 (BN.trans hid) rfl
 grind [aV,dW,bn,bR,aaD,nK,mH,nd,aT,ah,dX,cY]
theorem XL (hr:RelR S g) (hd:aT S.ay ⟨d,2⟩) (hl:bF name (ah S.O d).aq=some t) (fq:aT S.ay ⟨to,2⟩) (D4:t.k≠to) :
 iB (gu (dX (cY (toR S g) (bR S ⟨d,2⟩) name false) (bR S ⟨to,2⟩) aG (t.k:Int)),0,0) 0 (pN S d name to aG t) 0:=by
 have hI:=hr.inv.toInv0
 have fT:=(hr.inv.bO hd hl).2
 have htd:=hr.inv.ne hd hl
 obtain⟨S2,yD⟩:∃S2,S2=pN S d name to aG t:=⟨_,rfl⟩
 have hi2:S2.ay=S.ay:=by rw [yD];rfl
 have JY:S2.O=dW S.X (bn S.X S.O d name t) to aG t:=by rw [yD];rfl
 have hgo:∀x,(ah S2.O x).aJ=(ah S.O x).aJ:=λx=>by rw [JY];exact GX.trans GW
 have hns:(dX (cY (toR S g) (bR S ⟨d,2⟩) name false) (bR S ⟨to,2⟩) aG (t.k:Int)).ns=aV S2:=SK (S1:=S) hI.ix rfl ⟨rfl,rfl⟩ rfl ⟨rfl,rfl⟩ hd fq htd D4 (hI.ob t fT).1 hi2 JY
 have hgn:(dX (cY (toR S g) (bR S ⟨d,2⟩) name false) (bR S ⟨to,2⟩) aG (t.k:Int)).aJ=g:=GY (toR S g) (bR S ⟨d,2⟩) name
 have hsw:=BM (S1:=S2) (S2:=S2) (O2:=S2.O) (PN:=S.us) (R:=dX (cY (toR S g) (bR S ⟨d,2⟩) name false) (bR S ⟨to,2⟩) aG (t.k:Int)) (t:=t) (by rw [hi2];exact hI.ix) hns rfl
  (by rw [hgn,hi2];exact hr.aJ.same hgo) (by rw [hi2];exact fT)
  (λu hu _ Mw=>by grind [K9])
  (by rw [JY,Fc,Fb];exact hI.aR t fT) (by rw [JY,Mx,BN];exact (hI.ob t fT).1)
  (by unfold j7;rw [nw];exact λq=>aaE hr hd hl ((hgo _).symm.trans q.1)) (λ_=>rfl) (λ_=>rfl)
 grind [aT,bF,ah,iB,gu,dX,cY,toR,bR,pN]
theorem UO {ay:bB Th} (h1:(ah O' o.k).aJ=(ah O o.k).aJ) (h2:(ah O' o.k).aR=(ah O o.k).aR) (h3:(ah O' o.k).id=(ah O o.k).id):j7 O' ay o=j7 O ay o:=by
 grind [tV,j7]
theorem XM (hr:RelR S g) (hd:aT S.ay ⟨d,2⟩) (hl:bF name (ah S.O d).aq=some t) (fq:aT S.ay ⟨to,2⟩) (D4:t.k≠to) (ho:bF aG (ah S.O to).aq=some o) :
 iB (gu (dX (cY (cY (toR S g) (bR S ⟨to,2⟩) aG true) (bR S ⟨d,2⟩) name false) (bR S ⟨to,2⟩) aG (t.k:Int)),0,0) 0 (pN (aZ S to aG o) d name to aG t) 0:=by
 have hI:=hr.inv.toInv0
 have fT:=(hr.inv.bO hd hl).2
 have hlo:=(hr.inv.bO fq ho).2
 have htd:=hr.inv.ne hd hl
 obtain⟨e1,e2,e3,e4,e5⟩:=PW hr fq ho
 obtain⟨D,hD⟩:∃D,D=aZ S to aG o:=⟨_,rfl⟩
 rw [←hD] at e1 e2 e3 e4 e5 ⊢
 obtain⟨g1,hg1⟩:∃g1,g1=(cY (toR S g) (bR S ⟨to,2⟩) aG true).aJ:=⟨_,rfl⟩
 rw [←hg1] at e1
 have hDX:D.X.cS=S.X.cS/\D.X.cZ=S.X.cZ:=by rw [hD];exact⟨rfl,rfl⟩
 obtain⟨R,hR⟩:∃R,R=dX (cY (cY (toR S g) (bR S ⟨to,2⟩) aG true) (bR S ⟨d,2⟩) name false) (bR S ⟨to,2⟩) aG (t.k:Int):=⟨_,rfl⟩
 obtain⟨S2,yD⟩:∃S2,S2=pN D d name to aG t:=⟨_,rfl⟩
 have JY:S2.O=dW D.X (bn D.X D.O d name t) to aG t:=by rw [yD];rfl
 have hi2:S2.ay=D.ay:=by rw [yD];rfl
 have hgo:∀x,(ah S2.O x).aJ=(ah D.O x).aJ:=λx=>by rw [JY];exact GX.trans GW
 have cA:∀x,(ah S2.O x).aR=(ah S.O x).aR:=λx=>by rw [JY];exact (Fc.trans Fb).trans (e4 x)
 have aeR:∀x,(ah D.O x).id=(ah S.O x).id:=λx=>by
  have h:=zc bT.id (e3 x)
  have h:(ah D.O x).id=(ah (bn S.X S.O to aG o) x).id:=h
  exact h.trans BN
 have hid:∀x,(ah S2.O x).id=(ah D.O x).id:=λx=>by rw [JY];exact Mx.trans BN
 have hn1:(cY (toR S g) (bR S ⟨to,2⟩) aG true).ns=aV {S with O:=D.O,X:=D.X}:=
  (yY (S:=S) (S':={S with O:=D.O,X:=D.X}) hI.ix fq (hr.inv.ne fq ho) rfl e3).symm
 have hns:R.ns=aV {S2 with ay:=S.ay}:=by
  rw [hR]
  exact SK (S:=S) (S1:={S with O:=D.O,X:=D.X}) (S2:={S2 with ay:=S.ay}) hI.ix rfl hDX hn1 ⟨rfl,rfl⟩ hd fq htd D4 ((aeR _).trans (hI.ob t fT).1) rfl JY
 have hgn:R.aJ=g1:=by rw [hR,hg1];exact GY (cY (toR S g) (bR S ⟨to,2⟩) aG true) (bR S ⟨d,2⟩) name
 have hsw:=BM (S1:={S2 with ay:=S.ay}) (S2:=S2) (O2:=S2.O) (PN:=S.us) (R:=R) (t:=o) hI.ix hns (by rw [hR];rfl)
  (by rw [hgn];exact e1.same hgo) hlo
  (λu hu cG Mw=>by
   rw [hgo,e5 u.k (λe=>cG (jJ hu hlo e))] at Mw
   exact K9 hr hu Mw)
  (by rw [cA];exact hI.aR o hlo) (by rw [hid,aeR];exact (hI.ob o hlo).1)
  (by
   rw [hi2,e2]
   exact (UO (hgo _) ((cA _).trans (e4 _).symm) (hid _)).symm) (λ_=>rfl) (λ_=>rfl)
 grind [aT,bF,ah,iB,gu,dX,cY,toR,bR,pN,aZ]
theorem XO (hr:RelR S g) (hd:aT S.ay ⟨d,2⟩) (fq:aT S.ay ⟨to,2⟩) (name aG:ByteArray):iB ((jS (toR S g) (bR S ⟨d,2⟩) name (bR S ⟨to,2⟩) aG).1,0,(jS (toR S g) (bR S ⟨d,2⟩) name (bR S ⟨to,2⟩) aG).2) (dF S d name to aG).1 (dF S d name to aG).2 0:=by
 have hI:=hr.inv.toInv0
 unfold jS dF
 rcases ql hr hd name with ⟨h1,h2⟩|⟨t,h1,h2,hl,hk,htd⟩
 ·grind [cL,toR,bR,aT,iB,jS,dF]
 rw [h1,t8 (show 0<=cL (toR S g).ns (bR S ⟨d,2⟩) name by rw [h2];omega),h2,ah7]
 simp only
 rw [qi hI hl]
 have hb:t.kind=2->(jH (toR S g).ns (bR S t) ((toR S g).ns.length+1) (bR S ⟨to,2⟩)=true↔rY S.O t.k to):=λq=>XK hI hl q fq
 simp only [show (jV S.O (t.k:Int) t).kind=t.kind from rfl,show (jV S.O (t.k:Int) t).id=(t.k:Int) from rfl]
 by_cases h3:t.kind=2/\rY S.O t.k to
 ·grind [jH,toR,bR,aT,iB,jS,dF]
 rw [nw (show ¬(t.kind=2/\jH (toR S g).ns (bR S t) ((toR S g).ns.length+1) (bR S ⟨to,2⟩)=true) from λq=>h3 ⟨q.1,(hb q.1).1 q.2⟩),nw h3]
 have D4:t.k≠to:=λe=>by
  have h4:t=⟨to,2⟩:=jJ hl fq e
  exact h3 ⟨by rw [h4],by rw [e];exact .here⟩
 rcases ql hr fq aG with ⟨h4,h5⟩|⟨o,h4,h5,hlo,hko,hot⟩
 ·grind [cL,toR,bR,XL]
 rw [h4,h5]
 simp only
 by_cases h6:o=t
 ·rw [t8 (by rw [h6]),t8 h6];exact .same hr rfl
 rw [nw (λq=>h6 (SD hI.ix hlo hl d5)),nw h6,t8 d5,ah7,qi hI hlo]
 grind [jV,XM,aT,iB,jS,toR,bR,dF]
end j
section g
variable {S S' S2:bg} {g:List Int} {t u:Th} {d to k i j:Nat} {c:aN}
theorem iB.an {a:wX} {code an an':Int} (h:iB a code S' an) (h2:code=0->an=an'):iB a code S' an':=⟨h.1,λq=>by obtain⟨g',h3,h4,h5⟩:=h.2 q;exact⟨g',h3,h4,h5.trans (h2 q)⟩⟩
theorem aaF (h:(fB S t).2.1≠0):(fB S t).1=0:=by
 grind [mB,og]
def Told (c:aN) (m:vB):Prop:=m.2.2={c with answer:=m.2.2.answer}/\(m.1≠0->m.2.2.answer=c.answer)
theorem Told.plain {m:vB} (h:m.2.2=c):Told c m:=⟨by rw [h],λ_=>by rw [h]⟩
theorem Mz (h0:c.answer=0):Told c ((fB S t).2.1,(fB S t).2.2,{c with answer:=(fB S t).1}):=⟨rfl,λh=>aiF (aaF (S:=S) (t:=t) h) h0.symm⟩
theorem XP (h0:c.answer=0):Told c (kI S c):=by
 unfold kI
 split
 ·exact .plain rfl
 split
 ·exact Mz h0
 exact .plain rfl
theorem aaG (h0:c.answer=0):Told c (fZ S c):=by
 unfold fZ
 split
 ·exact .plain rfl
 split
 ·exact .plain rfl
 split
 ·exact .plain rfl
 exact Mz h0
theorem XQ (hr:RelR S g) (c:aN) (cA:mV c.op):iB (dH (toR S g) c) (iE S (c0 c)).1 (iE S (c0 c)).2.1 (iE S (c0 c)).2.2.answer/\Told (c0 c) (iE S (c0 c)):=by
 have plain:∀{a:wX} {m:vB},m.2.2=c0 c->iB a m.1 m.2.1 0->iB a m.1 m.2.1 m.2.2.answer/\Told (c0 c) m:=λ{a m} h1 h2=>⟨h2.an (λ_=>by rw [h1]),.plain h1⟩
 unfold dH
 rcases cA with h|h|h|h
 ·rw [t8 h,vD (c:=c0 c) h];exact⟨aaB hr (c0 c),XP rfl⟩
 ·rw [nw d5,t8 h,tW (c:=c0 c) h];exact⟨Ri hr (c0 c),aaG rfl⟩
 ·rw [nw d5,nw d5,nw d5,t8 (.inl h)];grind [vE,iH,XG]
 rw [nw d5,nw d5,nw d5,nw d5,nw d5,nw d5,nw d5,t8 h]
 grind [sG,jq,XE]
theorem aaH (hr:RelR S g) (c:aN) (cA:mV c.op):∃g',tX (toR S g) c=(toR (fC S c).1 g',(fC S c).2)/\RelR (fC S c).1 g':=by
 unfold tX
 rw [nw (by unfold mV at cA;omega)]
 obtain⟨h1,h2,h3⟩:=XQ hr c cA
 by_cases h0:(iE S (c0 c)).1=0
 ·rw [t8 (h1.1.trans h0)]
  obtain⟨g',e1,e2,e3⟩:=h1.2 h0
  refine⟨g',?_,hr.inv.fC c,e2⟩
  grind [toR,iE,tX,fC]
 rw [nw (λq=>h0 (h1.1.symm.trans q))]
 have hS:(fC S c).1=S:=acP (c:=c) h0
 refine⟨g,?_,by rw [hS];exact hr⟩
 rw [hS,h1.1]
 grind [iE,tX,toR,fC]
end g
noncomputable section
def oI (R:RS):Nat->List ByteArray->Except Int (Nat×ByteArray)
 |_,[]=>.error 170
 |d,[p]=>if (nd R.ns d).id∈R.aJ then .error 170 else .ok (d,p)
 |d,p::q::r=>
   if 0<=cL R.ns d p then
    if (nd R.ns (cL R.ns d p).toNat).kind=3 then .error 174
    else if (nd R.ns (cL R.ns d p).toNat).kind=1 then .error 173
    else oI R (cL R.ns d p).toNat (q::r)
   else .error 170
def mI (R:RS) (d:Nat) (path:ByteArray):Except Int (Nat×ByteArray):=if ∀p∈bM path,bU p then oI R d (bM path) else .error 95
def fH (R:RS) (top d:Nat) (name:ByteArray) (a:cM):RS×Int:=
 if a.op=1 then
  let m:=cI R d name ⟨0,1,420,0,0,0,0,[],⟨#[]⟩,[]⟩
  if m.2=0 then ((kX m.1 (m.1.ns.length-1) a.text.data.toList).1,0) else (R,m.2)
 else if a.op=2 then cI R d name ⟨0,2,493,0,0,0,0,[],⟨#[]⟩,[]⟩
 else if a.op=3 then cI R d name ⟨0,3,511,0,0,0,0,[],a.text,[]⟩
 else if a.op=4 then jP R d name false
 else if a.op=5 then jP R d name true
 else if a.op=6 then match mI R top a.to with
  |.error e=>(R,e)
  |.ok (to,aG)=>jS R d name to aG
 else if 0<=cL R.ns d name then
  if (nd R.ns (cL R.ns d name).toNat).kind=3 then (R,174)
  else if (nd R.ns (cL R.ns d name).toNat).kind=2 then (R,172)
  else ((kX R (cL R.ns d name).toNat a.text.data.toList).1,(kX R (cL R.ns d name).toNat a.text.data.toList).2.2)
 else (R,170)
def l6 (R:RS) (af:Int) (a:cM):RS×Int:=
 if a.op<1\/a.op>7 then (R,230)
 else if 0<=gF R.ns af then
  if (nd R.ns (bV R.ns af)).kind=2 then
   match mI R (bV R.ns af) a.path with
   |.error e=>(R,e)
   |.ok (d,name)=>if (fH R (bV R.ns af) d name a).2=0 then ((fH R (bV R.ns af) d name a).1,0) else (R,(fH R (bV R.ns af) d name a).2)
  else (R,173)
 else (R,141)
end
section i
variable {S S' S2:bg} {g:List Int} {t u:Th} {d top k i j:Nat} {name:ByteArray} {a:cM}
theorem P0 (hr:RelR S g):∀(ps:List ByteArray) (d:Nat),aT S.ay ⟨d,2⟩->oI (toR S g) (bR S ⟨d,2⟩) ps=match pX S.O d ps with|.error e=>.error e|.ok (d',n)=>.ok (bR S ⟨d',2⟩,n)
 |[],d,hd=>rfl
 |[p],d,hd=>by
   have hI:=hr.inv.toInv0
   unfold oI pX
   rw [qi hI hd]
   show (if (d:Int)∈g then _ else _)=_
   have hiff:=hr.aJ.E8 ⟨d,2⟩ hd
   by_cases h:(ah S.O d).aJ=true
   ·rw [t8 (hiff.2 h),t8 h]
   rw [nw (λq=>h (hiff.1 q)),nw h]
 |p::q::r,d,hd=>by
   have hI:=hr.inv.toInv0
   unfold oI pX
   rcases ql hr hd p with ⟨h1,h2⟩|⟨t,h1,h2,hl,hk,-⟩
   ·rw [h1,nw (by rw [h2];decide)]
   rw [h1,t8 (by rw [h2];omega),h2,ah7,qi hI hl]
   show (if t.kind=3 then _ else if t.kind=1 then _ else _)=_
   simp only
   by_cases h3:t.kind=3
   ·rw [t8 h3,t8 h3]
   rw [nw h3,nw h3]
   by_cases h4:t.kind=1
   ·rw [t8 h4,t8 h4]
   rw [nw h4,nw h4]
   have ht:t=⟨t.k,2⟩:=by
    have:t.kind=2:=d5
    rw [←this]
   rw [ht] at hl
   rw [show bR S t=bR S ⟨t.k,2⟩ by rw [←ht]]
   exact P0 hr (q::r) t.k hl
theorem Ir (hr:RelR S g) (hd:aT S.ay ⟨d,2⟩) (path:ByteArray):mI (toR S g) (bR S ⟨d,2⟩) path=match mW S.O d path with|.error e=>.error e|.ok (d',n)=>.ok (bR S ⟨d',2⟩,n):=by
 grind [mI,mW,bM,bU,P0]
theorem UQ (hr:RelR S g) (hd:aT S.ay ⟨d,2⟩) (nG:(ah S.O d).aJ=false) (hgn:bU name) (text:ByteArray):∃m,m=cI (toR S g) (bR S ⟨d,2⟩) name ⟨0,1,420,0,0,0,0,[],⟨#[]⟩,[]⟩ ∧
 iB ((if m.2=0 then ((kX m.1 (m.1.ns.length-1) text.data.toList).1,0) else (toR S g,m.2)).1,0,(if m.2=0 then ((kX m.1 (m.1.ns.length-1) text.data.toList).1,0) else (toR S g,m.2)).2) (qO S d name text).1 (qO S d name text).2 0:=by
 refine⟨_,rfl,?_⟩
 have hI:=hr.inv.toInv0
 unfold qO
 rcases Ci (n:=⟨0,1,420,0,0,0,0,[],⟨#[]⟩,[]⟩) hr hd name (λq=>KB (show (1:Int)=3 from q.1) d8) with ⟨h1,h2⟩|⟨h1,h2⟩
 rotate_left
 ·rw [h2,nw h1,nw h1];exact .bad rfl h1
 rw [h2,t8 h1]
 obtain⟨hA,hG⟩:=K8 (name:=name) (o:=dN S.X 1 420) (n:=⟨0,1,420,0,0,0,0,[],⟨#[]⟩,[]⟩) hr hd ⟨rfl,rfl,rfl,rfl,rfl⟩ ⟨rfl,rfl,rfl,rfl,rfl,rfl,rfl⟩
 have dw:bC (gU S d name (dN S.X 1 420)):=hr.inv.F7 hd nG hgn h1 (.inl rfl) ⟨d8,d8⟩ (.inl ⟨d8,rfl⟩)
 have hl1:aT (gU S d name (dN S.X 1 420)).ay ⟨dm S.X,1⟩:=(PV hI).2.1
 rw [t8 rfl,hA]
 have hidx:(gU S d name (dN S.X 1 420)).ay=_:=K7 hI
 have hp:=nP dw.ix hl1
 have jT:(toR (gU S d name (dN S.X 1 420)) g).ns.length-1=bR (gU S d name (dN S.X 1 420)) ⟨dm S.X,1⟩:=by
  show (aV _).length-1=_
  rw [iF,hidx,T3]
  refine JV dw.ix (by rw [hidx,T3];exact ah0 _) hp.2.1 ?_
  grind [gV,sX]
 rw [jT]
 have hg:=Mv (t:=⟨dm S.X,1⟩) ⟨dw,hG⟩ hl1 text.data.toList
 grind [gZ,gU,dN,dm,kX,toR,bR,aT,ah,bU,cI,iB,qO]
theorem aaI (hr:RelR S g) (ht:aT S.ay ⟨top,2⟩) (hd:aT S.ay ⟨d,2⟩) (nG:(ah S.O d).aJ=false) (hgn:bU name) (a:cM):iB ((fH (toR S g) (bR S ⟨top,2⟩) (bR S ⟨d,2⟩) name a).1,0,(fH (toR S g) (bR S ⟨top,2⟩) (bR S ⟨d,2⟩) name a).2) (nJ S top a d name).1 (nJ S top a d name).2 0:=by
 have hI:=hr.inv.toInv0
 unfold fH nJ
 by_cases h1:a.op=1
 ·rw [t8 h1,t8 h1]
  obtain⟨m,hm,h⟩:=UQ hr hd nG hgn a.text
  rw [hm] at h;exact h
 rw [nw h1,nw h1]
 by_cases h2:a.op=2
 ·rw [t8 h2,t8 h2]
  exact Iq (o:=dN S.X 2 493) hr hd name (λq=>KB (show (2:Int)=3 from q.1) d8) ⟨rfl,rfl,rfl,rfl,rfl⟩ ⟨rfl,rfl,rfl,rfl,rfl,rfl,rfl⟩
 rw [nw h2,nw h2]
 by_cases h3:a.op=3
 ·grind [jX,lF,Iq,dN,cI,aT,ah,bU,iB,fH,toR,bR,nJ]
 rw [nw h3,nw h3]
 by_cases h4:a.op=4
 ·grind [XI]
 rw [nw h4,nw h4]
 by_cases h5:a.op=5
 ·grind [XJ]
 rw [nw h5,nw h5]
 by_cases h6:a.op=6
 ·rw [t8 h6,t8 h6,Ir hr ht]
  rcases x6 hr.inv ht a.to with ⟨e,h,he⟩|⟨to,aG,h,fq,-⟩
  ·rw [h];exact .bad rfl he
  rw [h];exact XO hr hd fq name aG
 rw [nw h6,nw h6]
 unfold oG
 rcases ql hr hd name with ⟨h7,h8⟩|⟨t,h7,h8,hl,hk,-⟩
 ·grind [aT,ah,bU,iB,fH,toR,bR,nJ]
 rw [h7,t8 (by rw [h8];omega),h8,ah7,qi hI hl]
 grind [jV,Mv,aT,ah,bU,iB,fH,toR,bR,nJ]
theorem adb (hr:RelR S g) (af:Int) (a:cM):∃g',l6 (toR S g) af a=(toR (cJ S af a).2 g',(cJ S af a).1)/\RelR (cJ S af a).2 g':=by
 have hI:=hr.inv.toInv0
 have GZ:bC (cJ S af a).2:=hr.inv.cJ
 have Fe:∀{e:Int},(cJ S af a).1=e->e≠0->l6 (toR S g) af a=(toR S g,e)->∃g',l6 (toR S g) af a=(toR (cJ S af a).2 g',(cJ S af a).1)/\RelR (cJ S af a).2 g':=λ{e} h1 h2 h3=>by
  grind [ZI]
 by_cases h0:a.op<1\/a.op>7
 ·grind [cJ,l6]
 have ha:gF (toR S g).ns af=_:=PO hI af
 cases e:aI.get S.ay af with
 |none=>
   grind [gF,toR,cJ,l6]
 |some t=>
   rw [e] at ha
   replace ha:gF (toR S g).ns af=(bR S t:Int):=ha
   obtain⟨hl,_⟩:=Ip hI e
   have D4:bV (toR S g).ns af=bR S t:=by unfold bV;rw [ha];exact ah7 _
   by_cases h2:t.kind=2
   rotate_left
   ·exact Fe (by unfold cJ;rw [nw h0,e];exact zc Prod.fst (nw h2)) (show (173:Int)≠0 by decide) (by unfold l6;rw [nw h0,t8 (by rw [ha];omega),D4,qi hI hl];exact nw h2)
   have ht:t=⟨t.k,2⟩:=by rw [←h2]
   have hl2:aT S.ay ⟨t.k,2⟩:=by rw [←ht];exact hl
   have hA:cJ S af a=match mW S.O t.k a.path with|.error e=>(e,S)|.ok (d,name)=>nJ S t.k a d name:=by
    unfold cJ;rw [nw h0,e];exact t8 h2
   have hB:l6 (toR S g) af a=match mI (toR S g) (bR S ⟨t.k,2⟩) a.path with|.error e=>(toR S g,e)|.ok (d,name)=>if (fH (toR S g) (bR S ⟨t.k,2⟩) d name a).2=0 then ((fH (toR S g) (bR S ⟨t.k,2⟩) d name a).1,0) else (toR S g,(fH (toR S g) (bR S ⟨t.k,2⟩) d name a).2):=by
    unfold l6;rw [nw h0,t8 (by rw [ha];omega),D4,qi hI hl,←ht];exact t8 h2
   rw [Ir hr hl2] at hB
   rcases x6 hr.inv hl2 a.path with ⟨e,h,he⟩|⟨d,name,h,hd,nG,hgn⟩
   ·rw [h] at hA hB
    exact Fe (by rw [hA]) he hB
   rw [h] at hA hB
   replace hA:cJ S af a=nJ S t.k a d name:=hA
   obtain⟨e1,e2⟩:=aaI hr hl2 hd nG hgn a
   by_cases hc:(nJ S t.k a d name).1=0
   ·obtain⟨g',q1,q2,_⟩:=e2 hc
    have e3:(fH (toR S g) (bR S ⟨t.k,2⟩) (bR S ⟨d,2⟩) name a).2=0:=e1.trans hc
    refine⟨g',?_,GZ,by rw [hA];exact q2⟩
    grind
   grind
end i
def AA:Except Int (Nat×ByteArray)->Value
 |.error e=>.tuple #[.int .i64 0,.string ⟨#[]⟩,.int .i64 e]
 |.ok x=>.tuple #[.int .i64 ((x.1:Nat):Int),.string x.2,.int .i64 0]
section w
variable {R:RS} {ps:List ByteArray} {d j k:Nat}
theorem BO {B:Option Addr} {c:Nat} (hj:j<ps.length):∀F w,(aK 9 1 B ps.length c (kQ ps)).h F w->w.cell? ⟨cC B,cq B+j*1,none⟩=some (.string (pc ps j)):=
 aK.cellAt (size:=1) (j:=0) hj (by rw [Nat.mul_one];exact z7 hj)
theorem XR (hj:j+1<ps.length) (hl:cL R.ns d (pc ps j) = -1):oI R d (ps.drop j)=.error 170:=by
 grind [mZ,cL,pc,oI]
theorem Ff (hj:j+1<ps.length) (hl:cL R.ns d (pc ps j)=(k:Int)):oI R d (ps.drop j)=if (nd R.ns k).kind=3 then .error 174 else if (nd R.ns k).kind=1 then .error 173 else oI R k (ps.drop (j+1)):=by
 have e:(cL R.ns d (pc ps j)).toNat=k:=by rw [hl];rfl
 grind [mZ,cL,pc,oI,nd]
theorem MB (hj:j+1=ps.length):oI R d (ps.drop j)=if (nd R.ns d).id∈R.aJ then .error 170 else .ok (d,pc ps j):=by
 grind [mZ,oI,nd,pc]
end w
abbrev nF:aP:=⟨0,1,420,0,0,0,0,[],⟨#[]⟩,[]⟩
abbrev nD:aP:=⟨0,2,493,0,0,0,0,[],⟨#[]⟩,[]⟩
abbrev nL (t:ByteArray):aP:=⟨0,3,511,0,0,0,0,[],t,[]⟩
section a
variable {R Z:RS} {Y:RL} {β:Bs} {d af k to n:Nat} {name aG:ByteArray} {a:cM} {e:Int} {x:aP}
theorem ade (h:(cI R d name x).2≠0):(cI R d name x).1=R:=by
 grind [cI]
theorem XS (h:(cI R d name x).2=0):cI R d name x=(ko R d name x,0):=by
 grind [lF,cI]
theorem La:(ko R d name x).ns.length=R.ns.length+1:=by
 unfold ko
 simp [List.length_append,Ga]
theorem aaJ:(nd (ko R d name x).ns R.ns.length).data=x.data:=by
 grind [ko,nd,dX,Ga]
theorem mO.toK {L:fk} {H V:Option Addr} (h:mO β R L H V):CM β R L H V k:=⟨λi hi _=>h.data i hi,h.aq,h.h,h.v⟩
theorem ab4 (h:a.op=1) (hm:(cI R d name nF).2≠0):fH R af d name a=(R,(cI R d name nF).2):=by unfold fH;rw [t8 h];exact nw hm
theorem ab5 (h:a.op=1) (hm:(cI R d name nF).2=0):fH R af d name a=((kX (ko R d name nF) R.ns.length a.text.data.toList).1,0):=by
 grind [fH,XS,La]
theorem aeS (h:a.op=2):fH R af d name a=cI R d name nD:=by unfold fH;rw [nw d5,t8 h]
theorem aeT (h:a.op=3):fH R af d name a=cI R d name (nL a.text):=by unfold fH;rw [nw d5,nw d5,t8 h]
theorem aeU (h:a.op=4):fH R af d name a=jP R d name false:=by unfold fH;rw [nw d5,nw d5,nw d5,t8 h]
theorem aeV (h:a.op=5):fH R af d name a=jP R d name true:=by unfold fH;rw [nw d5,nw d5,nw d5,nw d5,t8 h]
theorem ab6 (h:a.op=6) (hw:mI R af a.to=.error e):fH R af d name a=(R,e):=by unfold fH;rw [nw d5,nw d5,nw d5,nw d5,nw d5,t8 h,hw]
theorem ab7 (h:a.op=6) (hw:mI R af a.to=.ok (to,aG)):fH R af d name a=jS R d name to aG:=by unfold fH;rw [nw d5,nw d5,nw d5,nw d5,nw d5,t8 h,hw]
theorem aeW (h:¬(1<=a.op/\a.op<=6)):fH R af d name a=if 0<=cL R.ns d name then if (nd R.ns (cL R.ns d name).toNat).kind=3 then (R,174) else if (nd R.ns (cL R.ns d name).toNat).kind=2 then (R,172) else ((kX R (cL R.ns d name).toNat a.text.data.toList).1,(kX R (cL R.ns d name).toNat a.text.data.toList).2.2) else (R,170):=by
 grind [fH]
theorem ab8 (h:¬(1<=a.op/\a.op<=6)) (hl:cL R.ns d name = -1):fH R af d name a=(R,170):=(aeW h).trans (nw (by rw [hl];decide))
theorem Gh (h:¬(1<=a.op/\a.op<=6)) (hl:cL R.ns d name=(k:Int)):fH R af d name a=if (nd R.ns k).kind=3 then (R,174) else if (nd R.ns k).kind=2 then (R,172) else ((kX R k a.text.data.toList).1,(kX R k a.text.data.toList).2.2):=by
 rw [aeW h,t8 (by rw [hl];omega),hl];rfl
theorem P4:∀{ps:List ByteArray} {d:Nat},oI R d ps=.error e->e≠0
 |[],d,h=>by cases h;decide
 |[p],d,h=>by
   unfold oI at h
   split at h<;>first|(cases h;done)|(cases h;decide)
 |p::q::r,d,h=>by
   unfold oI at h
   (repeat' split at h)<;>first|exact P4 h|(cases h;done)|(cases h;decide)
theorem P5 {p:ByteArray} (h:mI R af p=.error e):e≠0:=by
 grind [mI,P4]
theorem SL:∀{ps:List ByteArray} {d:Nat},d<R.ns.length->oI R d ps=.ok (to,aG)->to<R.ns.length
 |[],d,_,h=>by cases h
 |[p],d,hd,h=>by
   unfold oI at h
   split at h
   ·cases h
   cases h;exact hd
 |p::q::r,d,hd,h=>by
   unfold oI at h
   split at h
   ·rename_i h0
    split at h
    ·cases h
    split at h
    ·cases h
    refine SL ?_ h
    rcases nV R.ns d p with hl|⟨k,hl,hk⟩
    ·rw [hl] at h0;exact KB h0 (by decide)
    rw [hl];exact hk
   cases h
theorem SM {p:ByteArray} (hr:af<R.ns.length) (h:mI R af p=.ok (to,aG)):to<R.ns.length:=by
 unfold mI at h
 split at h
 ·exact SL hr h
 cases h
theorem UR (hI:mO β Z Y.L Y.H Y.V) (hC:RC Z) (hD:RD n Z) (hn:n<=7) (d:Nat) (hd:d<Z.ns.length) (name:ByteArray) (x:aP) (hxd:x.data=[]) (Mq:x.aq=[]) (LP:x.target.size<=1048576) (hm:(cI Z d name x).2≠0) :
 bN Tryz.prog β 112 #[.agg ⟨rV Z Y⟩,.int .i64 ((d:Nat):Int),.string name,.agg #[.int .i64 x.id,.int .i64 x.kind,.int .i64 x.mode,.int .i64 x.cO,.int .i64 x.cQ,.int .i64 x.bJ,.int .i64 x.bh,.slice none 0 0,.string x.target,.slice none 0 0]]
  [.abs (aK 102 10 Y.A Z.ns.length Y.c (bP Y.L Z.ns)),.abs (aK 3 1 Y.G Z.aJ.length Y.cg (bG Z.aJ))] (λ_ v l=>v=.tuple #[.agg ⟨rV Z Y⟩,.int .i64 (cI Z d name x).2]/\l=[.abs (aK 102 10 Y.A Z.ns.length Y.c (bP Y.L Z.ns)),.abs (aK 3 1 Y.G Z.aJ.length Y.cg (bG Z.aJ))]):=by
 refine (ye Z Y hI hC hD hn d hd name x hxd Mq LP).mono ?_
 rintro β' v l _ ⟨A1,c1,L1,rfl,rfl,_,hmk⟩
 obtain⟨_,rfl,rfl,rfl⟩:=hmk.resolve_left (λh=>hm h.1)
 rw [ade hm]
 exact⟨rfl,rfl⟩
theorem UU (hI:mO β Z Y.L Y.H Y.V) (hC:RC Z) (hD:RD n Z) (hn:n<=7) (d:Nat) (hd:d<Z.ns.length) (name:ByteArray) (x:aP) (hxd:x.data=[]) (Mq:x.aq=[]) (LP:x.target.size<=1048576) (hm:(cI Z d name x).2=0) :
 bN Tryz.prog β 112 #[.agg ⟨rV Z Y⟩,.int .i64 ((d:Nat):Int),.string name,.agg #[.int .i64 x.id,.int .i64 x.kind,.int .i64 x.mode,.int .i64 x.cO,.int .i64 x.cQ,.int .i64 x.bJ,.int .i64 x.bh,.slice none 0 0,.string x.target,.slice none 0 0]]
  [.abs (aK 102 10 Y.A Z.ns.length Y.c (bP Y.L Z.ns)),.abs (aK 3 1 Y.G Z.aJ.length Y.cg (bG Z.aJ))] (λβ' v l=>∃A' c' L',v=.tuple #[.agg ⟨rW (ko Z d name x) A' c' Y.G Y.cg Y.H Y.ch Y.V Y.cv⟩,.int .i64 0] ∧
   l=[.abs (aK 102 10 A' (ko Z d name x).ns.length c' (bP L' (ko Z d name x).ns)),.abs (aK 3 1 Y.G (ko Z d name x).aJ.length Y.cg (bG (ko Z d name x).aJ))]/\mO β' (ko Z d name x) L' Y.H Y.V/\L'.dA Z.ns.length=none/\L'.dC Z.ns.length=0):=by
 grind [ye,XS]
end a
theorem SN {l:List UInt8} {c:UInt8} {j:Nat}:Lib.occAt l [c] j=(l[j]? == some c):=by
 unfold Lib.occAt
 rw [←List.head?_drop]
 cases l.drop j with
 |nil=>rfl
 |cons b r=>
   grind
theorem ext_get {s:ByteArray} {a b j:Nat} (hb:b<=s.size) (hj:a+j<b):(s.extract a b).data.toList[j]?=some (s.data.getD (a+j) 0):=by
 have h:a+j<s.data.size:=ahR hj hb
 simp only [ByteArray.data_extract,Array.getElem?_toList,Array.getElem?_extract]
 rw [t8 (by have:s.data.size=s.size:=rfl;omega)]
 have h2:s.data[a+j]?=some s.data[a+j]:=Array.getElem?_eq_getElem h
 rw [h2]
 simp only [Array.getD,h,dite_true];rfl
section p
variable {s:ByteArray} {a i:Nat}
theorem aeX {j:Nat}:(s.data.getD j 0 == 47)=decide (dR s j=47):=by
 unfold dR
 generalize s.data.getD j 0=x
 by_cases h:x=47
 ·subst h;rfl
 have h2:¬x.toNat=47:=λe=>h (aia.1 e)
 rw [Lk h2]
 simpa using h
theorem SV {j:Nat} (hj:a+j<s.size):Lib.occAt (s.extract a s.size).data.toList slash.data.toList j=decide (dR s (a+j)=47):=by
 show Lib.occAt _ [47] j=_
 rw [SN,ext_get (N6 _) hj,←aeX]
 simp
theorem adf {j:Nat} (hj:s.size<=a+j):Lib.occAt (s.extract a s.size).data.toList slash.data.toList j=false:=by
 show Lib.occAt _ [47] j=_
 rw [SN,aiz (by simp only [Array.length_toList,ByteArray.size_data,aio];omega)]
 rfl
theorem Rj (jx:∀j,a<=j->j<s.size->¬dR s j=47):bM (s.extract a s.size)=[s.extract a s.size]:=by
 refine Lib.splitB_miss _ _ _ _ (Lib.index_none (λj _=>?_))
 grind [SV,adf]
theorem Rk (ha:a<=i) (hi:i<s.size) (hb:dR s i=47) (jx:∀j,a<=j->j<i->¬dR s j=47):bM (s.extract a s.size)=s.extract a i::bM (s.extract (i+1) s.size):=by
 have fO:Lib.indexB (s.extract a s.size) slash=((i-a:Nat):Int):=by
  refine Lib.index_first (by simp only [Array.length_toList,ByteArray.size_data,aio];omega) ?_ (λj hj=>?_)
  all_goals grind [SV]
 have hc:=Lib.countB_hit (s.extract a s.size) slash (i-a) d8 fO
 have e:(s.extract a s.size).extract (i-a+slash.size) (s.extract a s.size).size=s.extract (i+1) s.size:=by
  rw [ByteArray.extract_extract,aio]
  congr 1
  ·show a+(i-a+1)=i+1;omega
  omega
 unfold bM
 rw [hc,aiG,Lib.splitB_hit _ _ _ _ _ fO,e]
 congr 1
 rw [ByteArray.extract_extract]
 congr 1
 omega
structure G0 (s:ByteArray) (i a:Nat) (ps:List ByteArray):Prop where
 le:a<=i
 at_:i<=s.size->ps++bM (s.extract a s.size)=bM s/\∀j,a<=j->j<i->¬dR s j=47
 fin:s.size<i->ps=bM s
 len:ps.length<=a
theorem G0.start:G0 s 0 0 []:=⟨N6 _,λ_=>⟨by rw [ByteArray.extract_zero_size];rfl,λj _ h=>KB h (N5 j)⟩,λh=>KB h (N5 _),N6 _⟩
theorem G0.miss {ps:List ByteArray} (h:G0 s i a ps) (hi:i<s.size) (hb:¬dR s i=47):G0 s (i+1) a ps:=
 ⟨Nat.le_succ_of_le h.le,λ_=>⟨(h.at_ (aiH hi)).1,λj h1 h2=>(Pe.1 h2).elim ((h.at_ (aiH hi)).2 j h1) (λe=>e ▸ hb)⟩,λh=>d5,h.len⟩
theorem G0.hit {ps:List ByteArray} (h:G0 s i a ps) (hi:i<=s.size) (hb:i=s.size\/dR s i=47):G0 s (i+1) (i+1) (ps++[s.extract a i]):=by
 obtain⟨h1,h2⟩:=h.at_ hi
 have dV:=h.le
 have VW:=h.len
 refine⟨N6 _,λh3=>⟨?_,λj h4 h5=>d5⟩,λh3=>?_,by rw [T3];show ps.length+1<=i+1;omega⟩
 all_goals grind [Rk,Rj]
theorem MC {ps:List ByteArray} {x:ByteArray}:kQ (ps++[x])=kQ ps++[.string x]:=aik
end p
end
section
open Go.RowKit Go.Maps bw aI
attribute [local irreducible] aE bH ax aF
theorem XT {β:Bs} (s:ByteArray) (hs:s.size<=1048576) :
 aW Tryz.prog β 110 #[.string s] [] (λv l=>∃B c,v=.slice B (bM s).length c/\l=[.abs (aK 9 1 B ((bM s).length) c (kQ (bM s)))]):=by
 refine SE Tryz.func110 Tryz.ntmps110 (λR=>SR (jK 1 [] [] (NS (jB 2 [3] (λb1=>.aD b1 [] 9) (λb1=>NS (aE.mem (λw hS=>hS.oo (i:=1) (b:=b1) (cs:=[]) (e:=9) 1 0 d6 rfl d8) (jK 1 [4] [] (NZ (jK 1 [5] [] (NN (ax.block (lJ (λ(i,A8,c8,ps,a)=>(i<=s.size+1)/\(G0 s i a ps)) (λ(i,A8,c8,ps,a)=>s.size+2-i) (λ(i,A8,c8,ps,a)=>[(0,.string s),(3,.slice A8 (ps.length) (c8)),(4,vI ↑a),(5,vI ↑i)]) (λ(i,A8,c8,ps,a)=>[.abs (aK 9 1 A8 ps.length c8 (kQ ps)),.abs R]) (0,some ⟨b1,0,none⟩,0,[],0) [1,0] (⟨L4 _,G0.start⟩) ?_))))))))))))
 rintro⟨i,A8,c8,ps,a⟩ ⟨hi,hp⟩
 have dV:=hp.le
 have VW:=hp.len
 exact SQ (jK 4 [10] [] (NN (cP ((((i:Nat):Int):Int)<=((((s:ByteArray).size:Nat):Int):Int)) (λh10=>KX (ax.seq (ax.block (SR (jK 5 [17] [] (sP 17 ((((i:Nat):Int):Int)=((((s:ByteArray).size:Nat):Int):Int)) (λIX=>jK 5 [22] [] (NT (SR (jN 6 [23,28] (λb2=>[(4,p_ ⟨[],some i,some a,none,none⟩ [((i:Nat):Int)=((i:Nat):Int),((a:Nat):Int)=((a:Nat):Int),i<=(s:ByteArray).size,a<=i] ⟨rfl,rfl,d5,d5,trivial⟩)]) (λ_=>[]) (λb2=>.aD b2 [.string ((s:ByteArray).extract a i)] 9) (λb2=>mM 0 67 (some ⟨b2,0,none⟩) 1 1 [.string ((s:ByteArray).extract a i)] rfl (gi (j:=2) rfl) (λA3 c4=>aE.cT 0 (p':=.abs (aK 9 1 A3 ((ps++[s.extract a i]).length) c4 (kQ (ps++[s.extract a i])))) rfl (by rw [MC];simp) (sl 29 (.slice A3 (ps.length+1) (c4)) (.slice A3 ((ps++[s.extract a i]).length) (c4)) nh (jK 1 [3] [] (NN (ax.region (jK 3 [4] [(1,wJ ((i:Int)+1) (↑(i+1)))] (LX (ax.region (jK 3 [5] [(1,wJ ((i:Int)+1) (↑(i+1)))] (NL (tJ ((i+1),A3,c4,(ps++[s.extract a i]),(i+1)) [0,1] (⟨d5,hp.hit d5 (.inl d5)⟩))))))))))))))))) (λIX=>jK 5 [22] [(2,xP i (i<(s:ByteArray).size))] (NN (cP ((((((s:ByteArray).data.getD (i) 0).toNat:Nat):Int):Int)=(47:Int)) (λtj=>SR (jN 6 [23,28] (λb5=>[(4,p_ ⟨[],some i,some a,none,none⟩ [((i:Nat):Int)=((i:Nat):Int),((a:Nat):Int)=((a:Nat):Int),i<=(s:ByteArray).size,a<=i] ⟨rfl,rfl,d5,d5,trivial⟩)]) (λ_=>[]) (λb5=>.aD b5 [.string ((s:ByteArray).extract a i)] 9) (λb5=>mM 0 67 (some ⟨b5,0,none⟩) 1 1 [.string ((s:ByteArray).extract a i)] rfl (gi (j:=2) rfl) (λA6 c7=>aE.cT 0 (p':=.abs (aK 9 1 A6 ((ps++[s.extract a i]).length) c7 (kQ (ps++[s.extract a i])))) rfl (by rw [MC];simp) (sl 29 (.slice A6 (ps.length+1) (c7)) (.slice A6 ((ps++[s.extract a i]).length) (c7)) nh (jK 1 [3] [] (NN (ax.region (jK 3 [4] [(1,wJ ((i:Int)+1) (↑(i+1)))] (LX (ax.region (jK 3 [5] [(1,wJ ((i:Int)+1) (↑(i+1)))] (NL (tJ ((i+1),A6,c7,(ps++[s.extract a i]),(i+1)) [0,1] (⟨d5,hp.hit d5 (.inr (by unfold dR;omega))⟩))))))))))))))) (λtj=>KX (ax.region (jK 3 [5] [(1,wJ ((i:Int)+1) (↑(i+1)))] (NL (tJ ((i+1),A8,c8,ps,a) [0,1] (⟨d5,hp.miss d5 (by unfold dR;omega)⟩))))))))))))))) (λh10=>XX (zR ((by have e:=hp.fin d5;rw [←e];exact⟨A8,c8,rfl,rfl⟩)))))))
theorem Gi {β:Bs} (Z:RS) (Y:RL) (hR:dP β Z Y) (hC:RC Z) (af:Nat) (hroot:af<Z.ns.length) (path:ByteArray) (eT:path.size<=1048576) :
 aW Tryz.prog β 83 #[.agg ⟨rV Z Y⟩,vI (((af:Nat):Int)),.string path] [] (λv l=>v=AA (mI Z af path)/\l=[]):=by
 have hpl:1<=(bM path).length/\(bM path).length<=1048577:=by rw [Dy];have:=zZ path;omega
 have hnl:=hC.toRB.ns
 refine SE Tryz.func83 Tryz.ntmps83 (λR=>SR (jN 4 [3] (λ_=>[]) (λ_=>[]) (λb1=>.aD b1 (rV Z Y) 45) (λb1=>NS (jK 1 [13] [] (gL [] (XT path eT) ?_)))))
 rintro _ _ ⟨B,c,rfl,rfl⟩
 refine jK 1 [9] [] (NN (ax.seq (SR (aE.vR 0 rfl d5 (λhgB=>jK 1 [10] [] (NN (ax.block (lJ (λ(j:Nat)=>(j<=(bM path).length)/\(∀q,q<j->bU (pc (bM path) q))) (λ(j:Nat)=>(bM path).length-j) (λ(j:Nat)=>[(1,vI ↑af),(3,vP b1),(9,.slice B ((bM path).length) (c)),(10,vI ↑j)]) (λ(j:Nat)=>[.abs (aK 9 1 B ((bM path).length) c (kQ (bM path))),.abs R,.aD b1 (rV Z Y) 45]) 0 [0,1,2] (⟨L4 _,λq h=>KB h (N5 q)⟩) ?_))))))))
 rintro j ⟨hj,hgd⟩
 refine ax.seq (SR (jK 4 [18] [] (NN (cP ((((j:Nat):Int):Int)<((((bM path).length:Nat):Int):Int)) (λpU=>ax.skip (NX (ax.seq (ax.block (SR (jK 4 [24] [(2,x_ j ((bM path).length) (hgB)),(3,p_ ⟨[.view 0 (.string (pc (bM path) j))],none,none,none,none⟩ [(∀F w,(aK 9 1 B ((bM path).length) c (kQ (bM path))).h F w->w.cell? ⟨(cC B),cq B+j*1,none⟩=some (.string (pc (bM path) j)))] ⟨BO d5,trivial⟩)] (gE [] (Db (pc (bM path) j) (Pd (GI (O8 d5)) eT)) (jK 1 [26] [] (NN (cN (bU (pc (bM path) j)) (λvY=>SR (jK 3 [6,7,8] [] (NN (ax.ret (aF.fI (aF.bq (aF.bq (aF.fI (aF.bq (RT _ [1] (⟨zc AA (aie (show mI Z af path=.error 95 from nw (λh=>vY (Dz.1 h j d5)))),rfl⟩))))))))))) (λvY=>ax.skip (aF.j5 (NX (ax.region (jK 3 [10] [(1,wJ ((j:Int)+1) (↑(j+1)))] (NL (tJ ((j+1)) [0,1,2] (⟨d5,λq hq=>(Pe.1 hq).elim (hgd q) (λe=>e ▸ vY)⟩)))))))))))))))))) (λpU=>ax.exit (aF.o9 (aF.o9 (aF.wu (NX (SR ?_))))))))))
 have jW:∀p∈(bM path),bU p:=Dz.2 (λq hq=>hgd q d5)
 refine jK 2 [11] [] (NN (ax.seq (SR (jK 1 [12] [] (NN (ax.block (lJ (λ(j,at_)=>(j<=(bM path).length-1)/\(at_<Z.ns.length)/\(oI Z af (bM path)=oI Z at_ ((bM path).drop j))) (λ(j,at_)=>(bM path).length-1-j) (λ(j,at_)=>[(3,vP b1),(9,.slice B ((bM path).length) (c)),(11,vI ↑at_),(12,vI ↑j)]) (λ(j,at_)=>[.abs (aK 9 1 B ((bM path).length) c (kQ (bM path))),.abs R,.aD b1 (rV Z Y) 45]) (0,af) [0,1,2] (⟨L4 _,hroot,rfl⟩) ?_)))))))
 rintro⟨j,at_⟩ ⟨hj,hat,hw⟩
 refine ax.seq (SR (jK 5 [32] [(3,wJ ((((bM path).length:Nat):Int)-1) (↑((bM path).length-1)))] (NN (cP ((((j:Nat):Int):Int)<(((((bM path).length-1):Nat):Int):Int)) (λrS=>ax.skip (NX (ax.seq (ax.block (ax.seq ?_))))) (λrS=>ax.exit (aF.o9 (aF.o9 (aF.wu (NX (ax.seq (ax.seq (ax.Fx d6 d6 (jQ 8 [60,67] [(0,A_ 2 b1 12),(3,a_ 2 b1),(5,x_ at_ Z.ns.length (aO.hd hR.n (i:=at_) d5)),(7,r_ (aO.rd hR.n (i:=at_) d5 (j:=0) rfl))] (zy [] [0,1,2] (.bool (decide ((nd Z.ns at_).id∈Z.aJ))) (Aj Z Y hR hC.toRB (nd Z.ns at_).id) (NQ (NX (cP ((nd Z.ns at_).id∈Z.aJ) (λh68=>SR (jK 3 [6,7,8] [] (NN (ax.ret (aF.bq (RT _ [1] (⟨zc AA (aie (show mI Z af path=.error 170 from (show mI Z af path=oI Z af (bM path) from t8 jW).trans (hw.trans ((MB d5).trans (t8 h68))))),rfl⟩))))))) (λh68=>ax.skip (NX (ax.seq (ax.Fx d6 d6 (jQ 10 [6,7,8] [(4,wJ ((((bM path).length:Nat):Int)-1) (↑((bM path).length-1))),(5,x_ ((bM path).length-1) ((bM path).length) (hgB)),(6,p_ ⟨[.view 0 (.string (pc (bM path) ((bM path).length-1)))],none,none,none,none⟩ [(∀F w,(aK 9 1 B ((bM path).length) c (kQ (bM path))).h F w->w.cell? ⟨(cC B),cq B+((bM path).length-1)*1,none⟩=some (.string (pc (bM path) ((bM path).length-1))))] ⟨BO d5,trivial⟩)] (NQ (NX (ax.ret (RT _ [1] (⟨zc AA (aie (show mI Z af path=.ok (at_,pc (bM path) ((bM path).length-1)) from (show mI Z af path=oI Z af (bM path) from t8 jW).trans (hw.trans ((MB d5).trans ((nw h68).trans (by rw [show j=(bM path).length-1 by omega])))))),rfl⟩)))))))))))))))))))))))))))
 rcases nV Z.ns at_ (pc (bM path) j) with hl|⟨k,hl,hk⟩
 ·exact ax.Fx d6 d6 (jQ 6 [35,36,40] [(0,A_ 2 b1 12),(4,x_ j ((bM path).length) (hgB)),(5,p_ ⟨[.view 0 (.string (pc (bM path) j))],none,none,none,none⟩ [(∀F w,(aK 9 1 B ((bM path).length) c (kQ (bM path))).h F w->w.cell? ⟨(cC B),cq B+j*1,none⟩=some (.string (pc (bM path) j)))] ⟨BO d5,trivial⟩)] (zy [] [0,1,2] (.int .i64 (-1)) ((mw Z Y hR hC at_ hat (pc (bM path) j)).val (zc (Value.int .i64) hl)) (jQ 1 [11] [] (NQ (NX (ax.seq (SR (jK 2 [43] [] (NN (CT (zR ⟨zc AA (aie (show mI Z af path=.error 170 from (show mI Z af path=oI Z af (bM path) from t8 jW).trans (hw.trans (XR d5 hl)))),rfl⟩ [1])))))))))))
 exact rQ (jQ 6 [35,36,40] [(0,A_ 2 b1 12),(4,x_ j ((bM path).length) (hgB)),(5,p_ ⟨[.view 0 (.string (pc (bM path) j))],none,none,none,none⟩ [(∀F w,(aK 9 1 B ((bM path).length) c (kQ (bM path))).h F w->w.cell? ⟨(cC B),cq B+j*1,none⟩=some (.string (pc (bM path) j)))] ⟨BO d5,trivial⟩)] (zy [] [0,1,2] (.int .i64 ↑k) ((mw Z Y hR hC at_ hat (pc (bM path) j)).val (zc (Value.int .i64) hl)) (jQ 1 [11] [] (NQ (NX (SQ (jK 2 [43] [(1,wF (((k:Int):Int)<(0:Int)))] (NF (KX (SQ (jK 8 [51] [(2,a_ 2 b1),(4,x_ k Z.ns.length (aO.hd hR.n (i:=k) d5)),(6,r_ (aO.rd hR.n (i:=k) d5 (j:=1) rfl))] (NN (cP (((nd Z.ns k).kind:Int)=(3:Int)) (λvZ=>zR ⟨zc AA (aie (show mI Z af path=.error 174 from (show mI Z af path=oI Z af (bM path) from t8 jW).trans (hw.trans ((Ff d5 hl).trans (t8 vZ))))),rfl⟩ [1]) (λvZ=>KX (SR (jK 8 [59] [(2,a_ 2 b1),(4,x_ k Z.ns.length (aO.hd hR.n (i:=k) d5)),(6,r_ (aO.rd hR.n (i:=k) d5 (j:=1) rfl))] (NN (cP (((nd Z.ns k).kind:Int)=(1:Int)) (λxH=>zR ⟨zc AA (aie (show mI Z af path=.error 173 from (show mI Z af path=oI Z af (bM path) from t8 jW).trans (hw.trans ((Ff d5 hl).trans ((nw vZ).trans (t8 xH)))))),rfl⟩ [1]) (λxH=>KX (ax.region (jK 3 [12] [(1,wJ ((j:Int)+1) (↑(j+1)))] (NL (tJ ((j+1),k) [0,1,2] (⟨d5,hk,hw.trans ((Ff d5 hl).trans ((nw vZ).trans (nw xH)))⟩))))))))))))))))))))))))
theorem aaK {β:Bs} (Z:RS) (Y:RL) (hI:mO β Z Y.L Y.H Y.V) (hC:RC Z) (hD:RD 0 Z) (af:Nat) (hroot:af<Z.ns.length) (d:Nat) (hd:d<Z.ns.length) (name:ByteArray) (a:cM) (fq:a.to.size<=1048576) (tS:a.text.size<=1048576) (XU:a.op=1->(cI Z d name nF).2=0->RC (ko Z d name nF)) (jx:¬(1<=a.op/\a.op<=6)->∀k:Nat,cL Z.ns d name=(k:Int)->(nd Z.ns k).kind=3\/(nd Z.ns k).kind=2) :
 bN Tryz.prog β 84 #[.agg ⟨rV Z Y⟩,vI (((af:Nat):Int)),vI (((d:Nat):Int)),.string name,.agg #[vI (a.at_),vI (a.op),.string a.path,.string a.to,.string a.text]] [.abs (aK 102 10 Y.A Z.ns.length Y.c (bP Y.L Z.ns)),.abs (aK 3 1 Y.G Z.aJ.length Y.cg (bG Z.aJ))] (λβ' v l=>∃Y',v=.tuple #[.agg ⟨rV ((fH Z af d name a).1) Y'⟩,vI (fH Z af d name a).2]/\l=[]/\dP β' (fH Z af d name a).1 Y'):=by
 refine mK Tryz.func84 Tryz.ntmps84 (λaH R=>SR (jB 1 [5] (λb1=>.aD b1 (rV Z Y) 45) (λb1=>jB 1 [9] (λb2=>.aD b2 [vI (a.at_),vI (a.op),.string a.path,.string a.to,.string a.text] 133) (λb2=>jB 2 [10] (λb3=>.aD b3 (rZ) 45) (λb3=>NZ (jK 2 [23] [(1,a_ 4 b2)] (NN (ax.block (SR (jK 2 [24] [] (NN (cP ((a.op:Int)=(1:Int)) (λqZ=>?_) (λqZ=>?_)))))))))))))
 ·refine SR (jK 4 [27,28,29,30] [(0,A_ 3 b1 12)] ?_)
  by_cases hm:(cI Z d name nF).2=0
  ·refine iK [0,1] (UU hI hC hD d5 d hd name nF rfl rfl d8 hm) ?_
   rintro β1 _ _ cV ⟨A1,c1,L1,rfl,rfl,dw,hnA,P6⟩
   replace aH:=aH.trans cV
   refine jN 6 [12,13] (λb4=>[(4,A_ 6 b4 12)]) (λ_=>[]) (λb4=>.aD b4 (rW (ko Z d name nF) A1 c1 Y.G Y.cg Y.H Y.ch Y.V Y.cv) 45) (λb4=>NZ (jK 2 [35] [] (NF (KX (SR (jK 6 [14] [(2,a_ 6 b4),(4,p_ ⟨[],none,none,none,some (vI ↑Z.ns.length)⟩ [(Value.int .i64 (IntKind.wrap .i64 ((((ko Z d name nF).ns.length:Nat):Int)-1)))=(.int .i64 ↑Z.ns.length)] ⟨vk (by rw [La];omega) d5 (by have:=hC.ns;omega),trivial⟩)] (NS (jK 4 [44,45,47] [(0,A_ 6 b4 12),(3,a_ 4 b2)] (aE.DA (d:=(some 48)) (t1:=9) (t2:=61) (e:=5) (x:=(.tmp 47)) (s:=a.text) (λ_=>d6) (λ_=>d6) Tryz.underlying9 Tryz.underlying61 Tryz.underlying5 (λb5 c6 agO=>aE.sI 7 [0,1,2,3,4,5,6] (fY:=[.abs (aK 102 10 A1 ((ko Z d name nF).ns.length) c1 (bP L1 (ko Z d name nF).ns)),.abs (aK 3 1 Y.G ((ko Z d name nF).aJ.length) Y.cg (bG (ko Z d name nF).aJ)),.abs R,.aD b1 (rV Z Y) 45,.aD b2 [vI (a.at_),vI (a.op),.string a.path,.string a.to,.string a.text] 133,.aD b3 (rZ) 45,.aD b4 (rW (ko Z d name nF) A1 c1 Y.G Y.cg Y.H Y.ch Y.V Y.cv) 45]) rfl rfl d6 (λD5 jD hbs=>?_)))))))))))
   replace dw:=dw.le jD
   replace aH:=aH.trans jD
   refine aE.mem (λw hS=>hS.nW (e:=5) (size:=1)) (aE.cT 7 (p':=.abs (aK 5 1 (L1.dA Z.ns.length) ((nd (ko Z d name nF).ns Z.ns.length).data.length) (L1.dC Z.ns.length) (ez (nd (ko Z d name nF).ns Z.ns.length).data))) rfl (by rw [hnA,P6,aaJ];rfl) (iK [0,1,7] (PD (ko Z d name nF) ⟨A1,c1,L1,Y.G,Y.cg,Y.H,Y.ch,Y.V,Y.cv⟩ Z.ns.length dw.toK (XU (by simpa using qZ) hm) (by rw [La];omega) (some ⟨b5,0,none⟩) c6 a.text.data.toList hbs (by rw [Array.length_toList];have:a.text.data.size=a.text.size:=rfl;omega) agO) ?_))
   rintro β9 _ _ ny ⟨Y3,rfl,rfl,ol⟩
   replace aH:=aH.trans ny
   exact jC 5 [] [(4,A_ 4 b4 12)] [(4,(zC (rV ((kX (ko Z d name nF) Z.ns.length a.text.data.toList).1) Y3)))] (NS (jC 3 [11] [(0,A_ 4 b4 12),(1,A_ 3 b3 12)] [(3,(zC (rV ((kX (ko Z d name nF) Z.ns.length a.text.data.toList).1) Y3)))] (eO [A_ 3 b3 12] aH ⟨Y3,by rw [ab5 (by simpa using qZ) hm]<;>rfl,rfl,by rw [ab5 (by simpa using qZ) hm];exact ol⟩)))
  refine iK [0,1] (UR hI hC hD d5 d hd name nF rfl rfl d8 hm) ?_
  rintro β1 _ _ cV ⟨rfl,rfl⟩
  replace hI:=hI.le cV
  replace aH:=aH.trans cV
  refine jN 6 [12,13] (λb10=>[(4,A_ 6 b10 12)]) (λ_=>[]) (λb10=>.aD b10 (rV Z Y) 45) (λb10=>NZ (jK 2 [35] [] (NN (cN (((cI Z d name nF).2:Int)=(0:Int)) (λyJ=>SR (jC 4 [11] [(0,A_ 3 b1 12),(2,A_ 5 b3 12)] [(5,(zC (rV Z Y)))] (NN (ax.ret (aF.bq (aF.fI (aF.bq (aF.eM [0,1] [.abs (aK 102 10 Y.A Z.ns.length Y.c (bP Y.L Z.ns)),.abs (aK 3 1 Y.G Z.aJ.length Y.cg (bG Z.aJ))] (λuy j4 hL=>?_))))))))) (λyJ=>KB (by simpa using yJ) hm)))))
  have j9:dP uy Z Y:=hI.at hL
  replace aH:=aH.trans j4
  exact rB _ [A_ 3 b3 12] [0] aH (⟨Y,by rw [ab4 (by simpa using qZ) hm]<;>rfl,rfl,by rw [ab4 (by simpa using qZ) hm];exact j9⟩)
 refine SR (jK 2 [54] [] (NN (cP ((a.op:Int)=(2:Int)) (λE5=>?_) (λE5=>?_))))
 ·refine SR (jK 4 [56,57,58,59] [(0,A_ 3 b1 12)] (iK [0,1] (ye Z Y hI hC hD d5 d hd name nD rfl rfl d8) ?_))
  rintro β1 _ _ cV ⟨A1,c1,L1,rfl,rfl,dw,_⟩
  replace aH:=aH.trans cV
  refine jC 4 [11] [(2,A_ 5 b3 12)] [(5,(zC (rW ((cI Z d name nD).1) A1 c1 Y.G Y.cg Y.H Y.ch Y.V Y.cv)))] (NN (ax.ret (aF.fI (aF.bq (aF.eM [0,1] [.abs (aK 102 10 A1 ((cI Z d name nD).1.ns.length) c1 (bP L1 (cI Z d name nD).1.ns)),.abs (aK 3 1 Y.G ((cI Z d name nD).1.aJ.length) Y.cg (bG (cI Z d name nD).1.aJ))] (λIl kS hL=>?_))))))
  have j9:dP Il (cI Z d name nD).1 ⟨A1,c1,L1,Y.G,Y.cg,Y.H,Y.ch,Y.V,Y.cv⟩:=dw.at hL
  replace aH:=aH.trans kS
  exact rB _ [A_ 3 b3 12] [0] aH (⟨⟨A1,c1,L1,Y.G,Y.cg,Y.H,Y.ch,Y.V,Y.cv⟩,by rw [aeS (by simpa using E5)]<;>rfl,rfl,by rw [aeS (by simpa using E5)];exact j9⟩)
 refine SR (jK 2 [63] [] (NN (cP ((a.op:Int)=(3:Int)) (λh63=>?_) (λh63=>?_))))
 ·refine SR (jK 6 [65,66,67,70] [(0,A_ 3 b1 12),(4,a_ 4 b2)] (iK [0,1] (ye Z Y hI hC hD d5 d hd name (nL a.text) rfl rfl tS) ?_))
  rintro β1 _ _ cV ⟨A1,c1,L1,rfl,rfl,dw,_⟩
  replace aH:=aH.trans cV
  refine jC 4 [11] [(2,A_ 5 b3 12)] [(5,(zC (rW ((cI Z d name (nL a.text)).1) A1 c1 Y.G Y.cg Y.H Y.ch Y.V Y.cv)))] (NN (ax.ret (aF.fI (aF.bq (aF.eM [0,1] [.abs (aK 102 10 A1 ((cI Z d name (nL a.text)).1.ns.length) c1 (bP L1 (cI Z d name (nL a.text)).1.ns)),.abs (aK 3 1 Y.G ((cI Z d name (nL a.text)).1.aJ.length) Y.cg (bG (cI Z d name (nL a.text)).1.aJ))] (λPE Az hL=>?_))))))
  have j9:dP PE (cI Z d name (nL a.text)).1 ⟨A1,c1,L1,Y.G,Y.cg,Y.H,Y.ch,Y.V,Y.cv⟩:=dw.at hL
  replace aH:=aH.trans Az
  exact rB _ [A_ 3 b3 12] [0] aH (⟨⟨A1,c1,L1,Y.G,Y.cg,Y.H,Y.ch,Y.V,Y.cv⟩,by rw [aeT (by simpa using h63)]<;>rfl,rfl,by rw [aeT (by simpa using h63)];exact j9⟩)
 refine SR (jK 2 [74] [] (NN (cP ((a.op:Int)=(4:Int)) (λGr=>?_) (λGr=>?_))))
 ·refine SR (jK 3 [76,77,78] [(0,A_ 3 b1 12)] (iK [0,1] (Mt Z Y hI hC hD d5 d hd name false) ?_))
  rintro β1 _ _ cV ⟨Y3,rfl,rfl,ol⟩
  replace aH:=aH.trans cV
  exact jC 4 [11] [(2,A_ 3 b3 12)] [(3,(zC (rV ((jP Z d name false).1) Y3)))] (eO [A_ 3 b3 12] aH ⟨Y3,by rw [aeU (by simpa using Gr)]<;>rfl,rfl,by rw [aeU (by simpa using Gr)];exact ol⟩)
 refine SR (jK 2 [82] [] (NN (cP ((a.op:Int)=(5:Int)) (λME=>?_) (λME=>?_))))
 ·refine SR (jK 3 [84,85,86] [(0,A_ 3 b1 12)] (iK [0,1] (Mt Z Y hI hC hD d5 d hd name true) ?_))
  rintro β1 _ _ cV ⟨Y3,rfl,rfl,ol⟩
  replace aH:=aH.trans cV
  exact jC 4 [11] [(2,A_ 3 b3 12)] [(3,(zC (rV ((jP Z d name true).1) Y3)))] (eO [A_ 3 b3 12] aH ⟨Y3,by rw [aeV (by simpa using ME)]<;>rfl,rfl,by rw [aeV (by simpa using ME)];exact ol⟩)
 refine SR (jK 2 [90] [] (NN (cP ((a.op:Int)=(6:Int)) (λwg=>?_) (λwg=>?_))))
 ·refine SR (jK 4 [93,94,96] [(0,A_ 3 b1 12),(3,a_ 4 b2)] ?_)
  rcases hw:mI Z af a.to with e|⟨to,aG⟩
  ·have he:=P5 hw
   refine gE [0,1] ((jh hI (λ_ _ h=>Gi Z Y h hC af hroot a.to fq)).val (zc AA hw)) (jK 7 [15,16,17] [] (NZ (jK 2 [102] [] (NN (cN ((e:Int)=(0:Int)) (λaeY=>SR (jC 4 [11] [(0,A_ 3 b1 12),(2,A_ 5 b3 12)] [(5,(zC (rV Z Y)))] (NN (ax.ret (aF.bq (aF.fI (aF.bq (aF.eM [0,1] [.abs (aK 102 10 Y.A Z.ns.length Y.c (bP Y.L Z.ns)),.abs (aK 3 1 Y.G Z.aJ.length Y.cg (bG Z.aJ))] (λE6 j3 hL=>?_))))))))) (λaeY=>KB (by simpa using aeY) he))))))
   have j9:dP E6 Z Y:=hI.at hL
   replace aH:=aH.trans j3
   exact rB _ [A_ 3 b3 12] [0] aH (⟨Y,by rw [ab6 (by simpa using wg) hw]<;>rfl,rfl,by rw [ab6 (by simpa using wg) hw];exact j9⟩)
  have Oz:=SM hroot hw
  refine gE [0,1] ((jh hI (λ_ _ h=>Gi Z Y h hC af hroot a.to fq)).val (zc AA hw)) (jK 7 [15,16,17] [] (NZ (jK 2 [102] [] (NF (KX (SR (jK 5 [105,106,107,108,109] [(0,A_ 3 b1 12)] (iK [0,1] (Xt Z Y hI hC hD d5 d hd name to Oz aG) ?_))))))))
  rintro β1 _ _ cV ⟨Y3,rfl,rfl,ol⟩
  replace aH:=aH.trans cV
  exact jC 4 [11] [(2,A_ 3 b3 12)] [(3,(zC (rV ((jS Z d name to aG).1) Y3)))] (eO [A_ 3 b3 12] aH ⟨Y3,by rw [ab7 (by simpa using wg) hw]<;>rfl,rfl,by rw [ab7 (by simpa using wg) hw];exact ol⟩)
 refine KX (SR ?_)
 have h7:¬(1<=a.op/\a.op<=6):=d5
 refine jK 3 [113,114,115] [(0,A_ 3 b1 12)] ?_
 rcases nV Z.ns d name with hl|⟨k,hl,hk⟩
 ·refine gE [0,1] ((jh hI (λ_ _ h=>mw Z Y h hC d hd name)).val (zc (Value.int .i64) hl)) (jK 1 [18] [] (NZ (jK 2 [118] [] (NT (SR (jC 3 [11] [(0,A_ 3 b1 12),(1,A_ 5 b3 12)] [(5,(zC (rV Z Y)))] (NN (ax.ret (aF.bq (aF.eM [0,1] [.abs (aK 102 10 Y.A Z.ns.length Y.c (bP Y.L Z.ns)),.abs (aK 3 1 Y.G Z.aJ.length Y.cg (bG Z.aJ))] (λCh iV hL=>?_)))))))))))
  have j9:dP Ch Z Y:=hI.at hL
  replace aH:=aH.trans iV
  exact rB _ [A_ 3 b3 12] [0] aH (⟨Y,by rw [ab8 h7 hl]<;>rfl,rfl,by rw [ab8 h7 hl];exact j9⟩)
 refine aE.vR 0 rfl d5 (λpV=>gE [0,1] ((jh hI (λ_ _ h=>mw Z Y h hC d hd name)).val (zc (Value.int .i64) hl)) (jK 1 [18] [] (NZ (jK 2 [118] [(1,wF (((k:Int):Int)<(0:Int)))] (NF (KX (SQ (jK 8 [127] [(2,a_ 3 b1),(4,x_ k Z.ns.length (pV)),(6,v_ 0 (nA Z.ns Y.L Y.A Y.c k 1 hk rfl))] (NN (cP (((nd Z.ns k).kind:Int)=(3:Int)) (λh127=>?_) (λh127=>?_)))))))))))
 ·refine SR (jC 3 [11] [(0,A_ 3 b1 12),(1,A_ 5 b3 12)] [(5,(zC (rV Z Y)))] (NN (ax.ret (aF.bq (aF.eM [0,1] [.abs (aK 102 10 Y.A Z.ns.length Y.c (bP Y.L Z.ns)),.abs (aK 3 1 Y.G Z.aJ.length Y.cg (bG Z.aJ))] (λK5 nT hL=>?_))))))
  have j9:dP K5 Z Y:=hI.at hL
  replace aH:=aH.trans nT
  exact rB _ [A_ 3 b3 12] [0] aH (⟨Y,by rw [(Gh h7 hl).trans (t8 h127)]<;>rfl,rfl,by rw [(Gh h7 hl).trans (t8 h127)];exact j9⟩)
 refine KX (SQ (jK 8 [136] [(2,a_ 3 b1),(4,x_ k Z.ns.length (pV)),(6,v_ 0 (nA Z.ns Y.L Y.A Y.c k 1 hk rfl))] (NN (cP (((nd Z.ns k).kind:Int)=(2:Int)) (λIu=>SR (jC 3 [11] [(0,A_ 3 b1 12),(1,A_ 5 b3 12)] [(5,(zC (rV Z Y)))] (NN (ax.ret (aF.bq (aF.eM [0,1] [.abs (aK 102 10 Y.A Z.ns.length Y.c (bP Y.L Z.ns)),.abs (aK 3 1 Y.G Z.aJ.length Y.cg (bG Z.aJ))] (λUW mY hL=>?_))))))) (λIu=>KB (jx h7 k hl) (λh=>h.elim h127 Iu))))))
 have j9:dP UW Z Y:=hI.at hL
 replace aH:=aH.trans mY
 exact rB _ [A_ 3 b3 12] [0] aH (⟨Y,by rw [(Gh h7 hl).trans ((nw h127).trans (t8 Iu))]<;>rfl,rfl,by rw [(Gh h7 hl).trans ((nw h127).trans (t8 Iu))];exact j9⟩)
theorem aaL {β:Bs} (Z:RS) (Y:RL) (k:Nat) (hI:CM β Z Y.L Y.H Y.V k) (hC:RC Z) (hk:k<Z.ns.length) (af:Nat) (_:af<Z.ns.length) (d:Nat) (hd:d<Z.ns.length) (name:ByteArray) (a:cM) (_:a.to.size<=1048576) (tS:a.text.size<=1048576) (h7:¬(1<=a.op/\a.op<=6)) (hl:cL Z.ns d name=(k:Int)) (hk3:¬(nd Z.ns k).kind=3) (hk2:¬(nd Z.ns k).kind=2) :
 bN Tryz.prog β 84 #[.agg ⟨rV Z Y⟩,vI (((af:Nat):Int)),vI (((d:Nat):Int)),.string name,.agg #[vI (a.at_),vI (a.op),.string a.path,.string a.to,.string a.text]] [.abs (aK 102 10 Y.A Z.ns.length Y.c (bP Y.L Z.ns)),.abs (aK 3 1 Y.G Z.aJ.length Y.cg (bG Z.aJ)),.abs (aK 5 1 (Y.L.dA k) ((nd Z.ns k).data.length) (Y.L.dC k) (ez (nd Z.ns k).data))] (λβ' v l=>∃Y',v=.tuple #[.agg ⟨rV ((fH Z af d name a).1) Y'⟩,vI (fH Z af d name a).2]/\l=[]/\dP β' (fH Z af d name a).1 Y'):=by
 refine mK Tryz.func84 Tryz.ntmps84 (λaH R=>SR (jB 1 [5] (λb18=>.aD b18 (rV Z Y) 45) (λb18=>jB 1 [9] (λb19=>.aD b19 [vI (a.at_),vI (a.op),.string a.path,.string a.to,.string a.text] 133) (λb19=>jB 2 [10] (λb20=>.aD b20 (rZ) 45) (λb20=>NZ (jK 2 [23] [(1,a_ 5 b19)] (NN (ax.block (SR (jK 2 [24] [] (NN (cP ((a.op:Int)=(1:Int)) (λqZ=>KB qZ (by omega)) (λqZ=>SR (jK 2 [54] [] (NN (cP ((a.op:Int)=(2:Int)) (λE5=>KB E5 (by omega)) (λE5=>SR (jK 2 [63] [] (NN (cP ((a.op:Int)=(3:Int)) (λh63=>KB h63 (by omega)) (λh63=>SR (jK 2 [74] [] (NN (cP ((a.op:Int)=(4:Int)) (λGr=>KB Gr (by omega)) (λGr=>SR (jK 2 [82] [] (NN (cP ((a.op:Int)=(5:Int)) (λME=>KB ME (by omega)) (λME=>SR (jK 2 [90] [] (NN (cP ((a.op:Int)=(6:Int)) (λwg=>KB wg (by omega)) (λwg=>KX (SR (jK 3 [113,114,115] [(0,A_ 4 b18 12)] (gE [0,1,2] (PB (x:=.int .i64 ((k:Nat):Int)) (cb:=Y.L.dC k) hI rfl rfl (λ_ _ h=>(mw Z Y h hC d hd name).val (zc (Value.int .i64) hl))) (jK 1 [18] [] (NZ (jK 2 [118] [(1,wF (((k:Int):Int)<(0:Int)))] (NF (KX (SQ (aE.vR 0 rfl d5 (λpV=>jK 8 [127] [(2,a_ 4 b18),(4,x_ k Z.ns.length (pV)),(6,v_ 0 (nA Z.ns Y.L Y.A Y.c k 1 hk rfl))] (NN (cP (((nd Z.ns k).kind:Int)=(3:Int)) (λh127=>KB h127 hk3) (λh127=>KX (SQ (jK 8 [136] [(2,a_ 4 b18),(4,x_ k Z.ns.length (pV)),(6,v_ 0 (nA Z.ns Y.L Y.A Y.c k 1 hk rfl))] (NN (cP (((nd Z.ns k).kind:Int)=(2:Int)) (λIu=>KB Iu hk2) (λIu=>KX (SR (jK 4 [139,140,142] [(0,A_ 4 b18 12),(3,a_ 5 b19)] (aE.DA (d:=(some 143)) (t1:=9) (t2:=61) (e:=5) (x:=(.tmp 142)) (s:=a.text) (λ_=>d6) (λ_=>d6) Tryz.underlying9 Tryz.underlying61 Tryz.underlying5 (λBL c22 af3=>aE.sI 7 [0,1,2,3,4,5,6] (fY:=[.abs (aK 102 10 Y.A Z.ns.length Y.c (bP Y.L Z.ns)),.abs (aK 3 1 Y.G Z.aJ.length Y.cg (bG Z.aJ)),.abs (aK 5 1 (Y.L.dA k) ((nd Z.ns k).data.length) (Y.L.dC k) (ez (nd Z.ns k).data)),.abs R,.aD b18 (rV Z Y) 45,.aD b19 [vI (a.at_),vI (a.op),.string a.path,.string a.to,.string a.text] 133,.aD b20 (rZ) 45]) rfl rfl d6 (λaaw uz hbs=>?_)))))))))))))))))))))))))))))))))))))))))))))))))))))))))
 replace hI:=hI.le uz
 replace aH:=aH.trans uz
 refine iK [0,1,2] (PD Z Y k hI hC hk (some ⟨BL,0,none⟩) c22 a.text.data.toList hbs (by rw [Array.length_toList];have:a.text.data.size=a.text.size:=rfl;omega) af3) ?_
 rintro aeO _ _ Im ⟨Y3,rfl,rfl,ol⟩
 replace aH:=aH.trans Im
 exact jN 8 [19,21] (λXV=>[(5,A_ 4 XV 12)]) (λ_=>[]) (λXV=>.aD XV (rV ((kX Z k a.text.data.toList).1) Y3) 45) (λXV=>NS (jC 4 [11] [(0,A_ 4 XV 12),(2,A_ 3 b20 12)] [(3,(zC (rV ((kX Z k a.text.data.toList).1) Y3)))] (eO [A_ 3 b20 12] aH ⟨Y3,by rw [(Gh h7 hl).trans ((nw hk3).trans (nw hk2))]<;>rfl,rfl,by rw [(Gh h7 hl).trans ((nw hk3).trans (nw hk2))];exact ol⟩)))
end
section
open Go.RowKit Go.Maps bw aI
attribute [local irreducible] aE bH ax aF lQ
noncomputable abbrev zW1 (b1:Nat) (Y:RL) (Z:RS) (A1:Option Addr) (c:aN) (c1:Nat) (B1) (d1):=(.aD b1 [.slice Y.A (Z.ns.length) (Y.c),.slice Y.G (Z.aJ.length) (Y.cg),vI (Z.cH),vI (Z.aL),.slice A1 ((del c.bD Z.us).length) (c1),.slice B1 ((del c.bD Z.us).length) (d1),vI (Z.cN),vI (Z.cB),vI (Z.cH),vI (Z.cS),vI (Z.cZ),vI (Z.last)] 45:HP)
theorem XW {β:Bs} (Z:RS) (Y:RL) (hI:mO β Z Y.L Y.H Y.V) (hC:RC Z) (hD:RD 0 Z) (c:aN) (hn:c.name.size<=1048576) (yK:mV c.op) :
 bN Tryz.prog β 61 #[.agg ⟨rV Z Y⟩,.agg ⟨bA c⟩] [kF Y Z,j8 Y Z] (λβ' v l=>∃Y',v=.tuple #[.agg ⟨rV ((dH Z c).1) Y'⟩,vI (dH Z c).2.1,vI (dH Z c).2.2]/\l=[]/\dP β' (dH Z c).1 Y'):=by
 unfold mV at yK
 refine mK Tryz.func61 Tryz.ntmps61 (λaH R=>SR (jB 1 [2] (λb1=>.aD b1 (rV Z Y) 45) (λb1=>jB 1 [3] (λb2=>.aD b2 (bA c) 63) (λb2=>jB 3 [4] (λb3=>.aD b3 (rZ) 45) (λb3=>NZ (jK 2 [24] [(1,a_ 4 b2)] (NN (ax.block (SR (jK 2 [25] [] (NN (cP ((c.op:Int)=(1:Int)) (λqH=>?_) (λqH=>?_)))))))))))))
 ·refine SR (jK 4 [28,30] [(1,a_ 3 b1),(3,a_ 4 b2)] ?_)
  by_cases h1:0<=gF Z.ns c.other
  ·have hk1:=(mR h1).1
   refine aE.vR 0 rfl d5 (λpV=>gE [0,1] ((jh hI (λ_ _ h=>yO Y.A Y.c Z.ns Y.L h.n hC.fP (by have:=hC.ns;omega) c.other)).val (zc (Value.int .i64) (mR h1).2.2)) (jK 1 [7] [] (NZ (jK 2 [33] [(1,wF (((((bV Z.ns c.other):Nat):Int):Int)<(0:Int)))] (NF (KX (SQ (jK 8 [42] [(2,a_ 3 b1),(4,x_ (bV Z.ns c.other) Z.ns.length (pV)),(6,v_ 0 (nA Z.ns Y.L Y.A Y.c (bV Z.ns c.other) 1 hk1 rfl))] (NN (cN (((nd Z.ns (bV Z.ns c.other)).kind:Int)=(2:Int)) (λtE=>?_) (λtE=>?_)))))))))))
   ·refine SR (jC 4 [5,6] [(0,A_ 3 b1 12),(1,A_ 5 b3 12)] [(5,(zC (rV Z Y)))] (NN (ax.ret (aF.bq (aF.fI (aF.bq (aF.eM [0,1] [kF Y Z,j8 Y Z] (λyI jj hL=>?_))))))))
    have j9:dP yI Z Y:=hI.at hL
    replace aH:=aH.trans jj
    exact rB _ [A_ 3 b3 12] [0] aH (⟨Y,by rw [abZ qH h1 tE]<;>rfl,rfl,by rw [abZ qH h1 tE];exact j9⟩)
   refine KX (SR (jK 2 [44,45] [(0,A_ 3 b1 12)] (aE.eM [0,1] [kF Y Z,j8 Y Z] (λβ1 cV hL=>?_))))
   have wq:dP β1 Z Y:=hI.at hL
   replace aH:=aH.trans cV
   refine iK [] (PA Z Y wq hC.ru (bV Z.ns c.other) hk1) ?_
   rintro oL _ _ fo ⟨Y3,rfl,rfl,ol⟩
   replace aH:=aH.trans fo
   exact jC 6 [5,6] [(3,A_ 3 b3 12)] [(3,(zC (rV ((l5 Z (bV Z.ns c.other)).1) Y3)))] (eO [A_ 3 b3 12] aH ⟨Y3,by rw [ab0 qH h1 tE]<;>rfl,rfl,by rw [ab0 qH h1 tE];exact ol⟩)
  refine gE [0,1] ((jh hI (λ_ _ h=>yO Y.A Y.c Z.ns Y.L h.n hC.fP (by have:=hC.ns;omega) c.other)).val (zc (Value.int .i64) (Cv h1))) (jK 1 [7] [] (NZ (jK 2 [33] [] (NT (SR (jC 4 [5,6] [(0,A_ 3 b1 12),(1,A_ 5 b3 12)] [(5,(zC (rV Z Y)))] (NN (ax.ret (aF.bq (aF.fI (aF.bq (aF.eM [0,1] [kF Y Z,j8 Y Z] (λE7 iP hL=>?_)))))))))))))
  have j9:dP E7 Z Y:=hI.at hL
  replace aH:=aH.trans iP
  exact rB _ [A_ 3 b3 12] [0] aH (⟨Y,by rw [abY qH (Cv h1)]<;>rfl,rfl,by rw [abY qH (Cv h1)];exact j9⟩)
 refine SR (jK 2 [50] [] (NN (cP ((c.op:Int)=(2:Int)) (λh50=>?_) (λh50=>?_))))
 ·refine SR (jK 2 [52,53] [(0,A_ 3 b1 12),(1,A_ 4 b2 13)] (iK [0,1] (Xw Z Y hI hC c hn 2) ?_))
  rintro β1 _ _ cV ⟨Y3,rfl,rfl,ol⟩
  replace aH:=aH.trans cV
  exact jC 6 [5,6] [(3,A_ 3 b3 12)] [(3,(zC (rV ((kV Z c 2).1) Y3)))] (eO [A_ 3 b3 12] aH ⟨Y3,by rw [aeM h50]<;>rfl,rfl,by rw [aeM h50];exact ol⟩)
 refine SR (jK 2 [58] [] (NN (cP ((c.op:Int)=(3:Int)) (λXY=>KB yK (by omega)) (λXY=>?_))))
 refine ax.join (λ(q:Bool)=>(q=true↔GS c.op)) (λ(q:Bool)=>[(2,vP b1),(3,vP b2),(4,vP b3),(24,vI (c.op)),(66,.bool q)]) (λ(q:Bool)=>[kF Y Z,j8 Y Z,.abs R,.aD b1 (rV Z Y) 45,pC b2 c,.aD b3 (rZ) 45]) ?_ (SR (jK 2 [66] [] (NN (cP ((c.op:Int)=(4:Int)) (λqv=>ax.skip (mJ ((decide ((c.op:Int)=(4:Int)))) [0,1,2,3,4,5] (⟨λe=>gn,λe=>ahO (by unfold GS at e;omega)⟩))) (λqv=>SR (jK 2 [66] [] (NN (cP ((c.op:Int)=(5:Int)) (λqv=>ax.skip (mJ ((decide ((c.op:Int)=(5:Int)))) [0,1,2,3,4,5] (⟨λe=>gn,λe=>ahO (by unfold GS at e;omega)⟩))) (λqv=>SR (jK 2 [66] [] (NN (cP ((c.op:Int)=(6:Int)) (λqv=>ax.skip (mJ ((decide ((c.op:Int)=(6:Int)))) [0,1,2,3,4,5] (⟨λe=>gn,λe=>ahO (by unfold GS at e;omega)⟩))) (λqv=>SR (jK 2 [66] [] (NN (cP ((c.op:Int)=(8:Int)) (λqv=>ax.skip (mJ ((decide ((c.op:Int)=(8:Int)))) [0,1,2,3,4,5] (⟨λe=>gn,λe=>ahO (by unfold GS at e;omega)⟩))) (λqv=>ax.region (jK 2 [66] [] (NL (mJ ((decide ((c.op:Int)=(14:Int)))) [0,1,2,3,4,5] (⟨λe=>gn,λe=>ahO (by unfold GS at e;omega)⟩)))))))))))))))))))))
 rintro q hq
 refine ax.cond (b:=q) (λ_=>d6) (λqv=>?_) (λqv=>?_)
 ·have CJ:=hq.1 qv
  refine SR (jK 5 [73,75,77] [(0,A_ 3 b1 12),(2,a_ 4 b2),(4,a_ 4 b2)] ?_)
  rcases Mh hC c.bD c.name 192 with ⟨e,h1,h1e⟩|⟨d,h1,hd⟩
  ·refine gE [0,1] ((jh hI (λ_ _ h=>BI Z Y h hC c.bD c.name hn 192)).val (zc exV h1)) (jK 5 [8,9] [] (NZ (jK 2 [82] [(1,wNF ((e:Int)=(0:Int)) h1e)] (NT (SR (jC 5 [5,6] [(0,A_ 3 b1 12),(2,A_ 5 b3 12)] [(5,(zC (rV Z Y)))] (NN (ax.ret (aF.bq (aF.fI (aF.bq (aF.eM [0,1] [kF Y Z,j8 Y Z] (λCN iw hL=>?_)))))))))))))
   have j9:dP CN Z Y:=hI.at hL
   replace aH:=aH.trans iw
   exact rB _ [A_ 3 b3 12] [0] aH (⟨Y,by rw [ab1 (hq.1 qv) h1]<;>rfl,rfl,by rw [ab1 (hq.1 qv) h1];exact j9⟩)
  refine gE [0,1] ((jh hI (λ_ _ h=>BI Z Y h hC c.bD c.name hn 192)).val (zc exV h1)) (jK 5 [8,9] [] (NZ (jK 2 [82] [(1,w_ (.bool false) rfl)] (NF (KX (SR (jK 3 [85,86,87] [(0,A_ 3 b1 12),(1,A_ 4 b2 13)] (iK [0,1] (UN Z Y hI hC hD d5 c (by unfold GS at CJ;omega) d hd) ?_))))))))
  rintro β1 _ _ cV ⟨Y3,rfl,rfl,ol⟩
  replace aH:=aH.trans cV
  exact jC 6 [5,6] [(3,A_ 3 b3 12)] [(3,(zC (rV ((nj Z c d).1) Y3)))] (eO [A_ 3 b3 12] aH ⟨Y3,by rw [ab2 (hq.1 qv) h1]<;>rfl,rfl,by rw [ab2 (hq.1 qv) h1];exact ol⟩)
 have CJ:¬(c.op=4\/c.op=5\/c.op=6\/c.op=8\/c.op=14):=λe=>by rw [hq.2 e] at qv;cases qv
 refine SR (jK 2 [92] [] (NN (cP ((c.op:Int)=(7:Int)) (λh92=>KB yK (by omega)) (λh92=>?_))))
 refine SR (jK 2 [145] [] (NN (cP ((c.op:Int)=(9:Int)) (λud=>KB yK (by omega)) (λud=>?_))))
 refine SR (jK 2 [175] [] (NN (cP ((c.op:Int)=(10:Int)) (λagP=>KB yK (by omega)) (λagP=>?_))))
 refine SR (jK 2 [183] [] (NN (cP ((c.op:Int)=(13:Int)) (λP7=>?_) (λP7=>KB yK (by omega)))))
 refine SR (jK 4 [187,189] [(1,A_ 3 b1 4),(3,a_ 4 b2)] ?_)
 by_cases hm:c.bD∈aY Z.us
 ·obtain⟨k,fO,hk,hx,_⟩:=Xc hC.usr hm
  refine gL [] (aag Z.cH Z.aL Y.H Y.V Y.ch Y.cv Z.us hI.h hI.v (by have:=hC.us;omega) c.bD hC.usr k hk fO hx) ?_
  rintro _ _ ⟨A1,c1,B1,d1,rfl,rfl⟩
  refine jN 8 [16,18] (λb16=>[(5,A_ 8 b16 4)]) (λ_=>[]) (λb16=>.aD b16 [vI (Z.cH),vI (Z.aL),.slice A1 ((del c.bD Z.us).length) (c1),.slice B1 ((del c.bD Z.us).length) (d1)] 43) (λb16=>NS (jC 3 [] [(0,A_ 8 b16 4),(2,A_ 5 b1 4)] [(5,[(4,.slice A1 ((del c.bD Z.us).length) (c1)),(5,.slice B1 ((del c.bD Z.us).length) (d1))])] (NS (jK 1 [196] [(0,A_ 5 b1 12)] (aE.mA (Φ:=λβ'=>cE β' A1 (bG (aY (del c.bD Z.us)))) 0 [1,2,3,4,5,6,7,8] (fY:=[.abs (aK 3 1 B1 ((del c.bD Z.us).length) d1 (bG (jc (del c.bD Z.us)))),kF Y Z,j8 Y Z,.abs R,zW1 b1 Y Z A1 c c1 B1 d1,.aD b2 (bA c) 63,.aD b3 (rZ) 45,.aD b16 [vI (Z.cH),vI (Z.aL),.slice A1 ((del c.bD Z.us).length) (c1),.slice B1 ((del c.bD Z.us).length) (d1)] 43]) rfl rfl d6 (λF w h β' h1 h2=>cE.iD h h1 h2) (λβ1 cV hH=>?_))))))
  replace hI:=hI.le cV
  replace aH:=aH.trans cV
  refine aE.mA (Φ:=λβ'=>cE β' B1 (bG (jc (del c.bD Z.us)))) 0 [1,2,3,4,5,6,7] (fY:=[kF Y Z,j8 Y Z,.abs R,zW1 b1 Y Z A1 c c1 B1 d1,.aD b2 (bA c) 63,.aD b3 (rZ) 45,.aD b16 [vI (Z.cH),vI (Z.aL),.slice A1 ((del c.bD Z.us).length) (c1),.slice B1 ((del c.bD Z.us).length) (d1)] 43]) rfl rfl d6 (λF w h β' h1 h2=>cE.iD h h1 h2) (λoL fo hV=>?_)
  replace hI:=hI.le fo
  replace hH:=hH.le fo
  replace aH:=aH.trans fo
  refine aE.eM [0,1] [kF Y Z,j8 Y Z] (λvT fW hL=>?_)
  have wq:dP vT ({Z with us:=(del c.bD Z.us)}:RS) ⟨Y.A,Y.c,Y.L,Y.G,Y.cg,A1,c1,B1,d1⟩:=have q:=hI.at (ch:=Y.ch) (cv:=Y.cv) hL;⟨⟨q.g,hH.le hL.le,hV.le hL.le⟩,q.n⟩
  replace aH:=aH.trans fW
  refine iK [] (yc ({Z with us:=(del c.bD Z.us)}:RS) ⟨Y.A,Y.c,Y.L,Y.G,Y.cg,A1,c1,B1,d1⟩ wq ⟨hC.ns,hC.aJ,Pd UE hC.us,hC.aq,hC.dat⟩) ?_
  rintro yI _ _ jj ⟨Y3,rfl,rfl,ol⟩
  replace aH:=aH.trans jj
  exact jC 4 [5,6] [(1,A_ 3 b3 12)] [(3,(zC (rV (gu ({Z with us:=(del c.bD Z.us)}:RS)) Y3)))] (eO [A_ 3 b3 12] aH ⟨Y3,by rw [Xq P7 hm]<;>rfl,rfl,by rw [Xq P7 hm];exact ol⟩)
 refine gE [] (UI Z.cH Z.aL Y.H Y.V Y.ch Y.cv Z.us hI.h (by have:=hC.us;omega) c.bD (KZ hm).1) (jN 8 [16,18] (λb17=>[(5,A_ 6 b17 4)]) (λ_=>[]) (λb17=>.aD b17 [vI (Z.cH),vI (Z.aL),.slice Y.H (Z.us.length) (Y.ch),.slice Y.V (Z.us.length) (Y.cv)] 43) (λb17=>NS (jC 3 [] [(0,A_ 6 b17 4),(2,A_ 3 b1 4)] [] (NS (jK 1 [196] [(0,A_ 3 b1 12)] (aE.eM [0,1] [kF Y Z,j8 Y Z] (λvT fW hL=>?_)))))))
 have wq:dP vT Z Y:=hI.at hL
 replace aH:=aH.trans fW
 refine iK [] (yc Z Y wq hC.toRB) ?_
 rintro yI _ _ jj ⟨Y3,rfl,rfl,ol⟩
 replace aH:=aH.trans jj
 exact jC 4 [5,6] [(1,A_ 3 b3 12)] [(3,(zC (rV (gu Z) Y3)))] (eO [A_ 3 b3 12] aH ⟨Y3,by rw [Xr P7 hm]<;>rfl,rfl,by rw [Xr P7 hm];exact ol⟩)
end
section
open Go.RowKit Go.Maps bw aI
attribute [local irreducible] aE bH ax aF
theorem tY {β:Bs} (A:Option Addr) (c:Nat) (d:List UInt8) (hA:ck β A d) (hl:d.length<=140737488355328) :
 aW Tryz.prog β 36 #[.slice A d.length c] [] (λv l=>∃B cap,v=.slice B d.length cap/\l=[.abs (aK 5 1 B d.length cap (ez d))]):=by
 exact SE Tryz.func36 Tryz.ntmps36 (λR=>SR (jK 1 [] [] (NS (jB 2 [3] (λb1=>.aD b1 [] 5) (λb1=>NS (aE.mem (λw hS=>hS.oo (i:=1) (b:=b1) (cs:=[]) (e:=5) 1 0 d6 rfl d8) (jK 2 [5,6] [] (VH 1 61 A d.length c (ez d) rfl (hA.src) (λA2 c3=>aE.cT 1 rfl (by rw [ahS,List.nil_append]) (sl 7 (.slice A2 (0+d.length) (c3)) (.slice A2 (d.length) (c3)) (by rw [ahS]) (jK 1 [3] [] (NS (jK 2 [2] [] (eN ⟨A2,c3,rfl,rfl⟩ [1,0])))))) (hl:=by rw [vu,Nat.mul_one]) (h1:=rR d)))))))))
theorem P8 {β:Bs} (n:aP) (dA eA:Option Addr) (dC eC:Nat) (hD:ck β dA n.data) (hE:cU β eA n.aq) (hl1:n.data.length<=140737488355328) (hl2:n.aq.length<=1048576) :
 aW Tryz.prog β 54 #[.agg #[vI (n.id),vI (n.kind),vI (n.mode),vI (n.cO),vI (n.cQ),vI (n.bJ),vI (n.bh),.slice dA (n.data.length) (dC),.string n.target,.slice eA (n.aq.length) (eC)]] [] (λv l=>∃dB cd eB ce,v=.agg #[vI (n.id),vI (n.kind),vI (n.mode),vI (n.cO),vI (n.cQ),vI (n.bJ),vI (n.bh),.slice dB (n.data.length) (cd),.string n.target,.slice eB (n.aq.length) (ce)]/\l=[.abs (aK 5 1 dB n.data.length cd (ez n.data)),.abs (aK 126 2 eB n.aq.length ce (mP n.aq))]):=by
 refine SE Tryz.func54 Tryz.ntmps54 (λR=>SR (jB 1 [1] (λb4=>.aD b4 [vI (n.id),vI (n.kind),vI (n.mode),vI (n.cO),vI (n.cQ),vI (n.bJ),vI (n.bh),.slice dA (n.data.length) (dC),.string n.target,.slice eA (n.aq.length) (eC)] 102) (λb4=>jB 1 [2] (λb5=>.aD b5 [vI 0,vI 0,vI 0,vI 0,vI 0,vI 0,vI 0,.slice none (0) (0),.string ⟨#[]⟩,.slice none (0) (0)] 102) (λb5=>NS (jK 2 [5] [(1,a_ 1 b4)] (gL [] (tY dA dC n.data hD hl1) ?_))))))
 rintro _ _ ⟨dB,cd,rfl,rfl⟩
 exact jC 2 [] [(1,a_ 2 b4)] [(2,[(7,.slice dB (n.data.length) (cd))])] (NS (jB 2 [3] (λb6=>.aD b6 [] 126) (λb6=>NS (aE.mem (λw hS=>hS.oo (i:=4) (b:=b6) (cs:=[]) (e:=126) 2 0 d6 rfl d8) (jK 3 [9,11] [(2,a_ 2 b4)] (mM 4 100 eA n.aq.length eC (mP n.aq) rfl (hE.src) (λA7 c8=>aE.cT 4 rfl (by rw [ahS,List.nil_append]) (sl 12 (.slice A7 (0+n.aq.length) (c8)) (.slice A7 (n.aq.length) (c8)) (by rw [ahS]) (jK 1 [3] [] (NS (jC 3 [] [(2,a_ 2 b4)] [(2,[(9,.slice A7 (n.aq.length) (c8))])] (NS (jC 2 [] [(0,A_ 2 b4 10),(1,A_ 3 b5 10)] [(3,[(0,vI (n.id)),(1,vI (n.kind)),(2,vI (n.mode)),(3,vI (n.cO)),(4,vI (n.cQ)),(5,vI (n.bJ)),(6,vI (n.bh)),(7,.slice dB (n.data.length) (cd)),(8,.string n.target),(9,.slice A7 (n.aq.length) (c8))])] (eS [A_ 3 b5 10] ⟨dB,cd,A7,c8,rfl,rfl⟩ [0,4,1])))))))) (hl:=by rw [LA]) (h1:=Ej n.aq)))))))
theorem hkl {ns:List aP} {k:Nat} (hk:k<=ns.length):(ns.take k).length=k:=by rw [ahZ];omega
theorem MX {β:Bs} (A:Option Addr) (c:Nat) (ns:List aP) (L:fk) (hG:aO β A ns L) (hl:ns.length<=1048576) (hd:∀i,i<ns.length->(nd ns i).data.length<=140737488355328/\(nd ns i).aq.length<=1048576) :
 aW Tryz.prog β 27 #[.agg #[.slice A ns.length c]] [] (λv l=>∃B cap K,v=.agg #[.slice B ns.length cap]/\l=KH B cap ns K):=by
 refine SE Tryz.func27 Tryz.ntmps27 (λR=>SR (jB 1 [1] (λb9=>.aD b9 [.slice A (ns.length) (c)] 24) (λb9=>jB 1 [2] (λb10=>.aD b10 [.slice none (0) (0)] 24) (λb10=>NS (jB 2 [3] (λb11=>.aD b11 [] 102) (λb11=>NZ (aE.mem (λw hS=>hS.oo (i:=3) (b:=b11) (cs:=[]) (e:=102) 10 0 d6 rfl d8) (aE.mem (λw hS=>hS.I0 (qP [] H7)) (aE.mem (λw hS=>hS.I0 (mG [] H7)) (jK 1 [4] [] (NN (ax.block (lJ (λ(k,Ao,cp,K)=>(k<=ns.length)) (λ(k,Ao,cp,K)=>ns.length-k) (λ(k,Ao,cp,K)=>[(1,vP b9),(2,vP b10),(3,.slice Ao (k) (cp)),(4,vI ↑k)]) (λ(k,Ao,cp,K)=>[.aD b9 [.slice A (ns.length) (c)] 24,.aD b10 [.slice none (0) (0)] 24,.abs (aK 102 10 Ao k cp (bP K (ns.take k))),.abs (kY (qP (ns.take k) K) k),.abs (kY (mG (ns.take k) K) k),.abs R]) (0,some ⟨b11,0,none⟩,0,H7) [1,2,3,4,5,0] (L4 _) ?_)))))))))))))
 rintro⟨k,Ao,cp,K⟩ hk
 refine SQ (jK 5 [10] [(2,a_ 0 b9)] (NN (cP ((((k:Nat):Int):Int)<(((ns.length:Nat):Int):Int)) (λh10=>?_) (λh10=>?_))))
 ·refine KX (ax.seq (ax.block (ax.region (jK 6 [13,18] [(2,a_ 0 b9),(4,x_ k ns.length (aO.hd hG (i:=k) d5)),(5,Eh (iL L k (nd ns k)) (λ_ _ h=>aO.rd hG d5 h))] (gL [] (P8 (nd ns k) (L.dA k) (L.eA k) (L.dC k) (L.eC k) (hG.data k d5) (hG.aq k d5) (hd k d5).1 (hd k d5).2) ?_)))))
  rintro _ _ ⟨dB,cd,eB,ce,rfl,rfl⟩
  exact jB 1 [20] (λb12=>.aD b12 [vI ((nd ns k).id),vI ((nd ns k).kind),vI ((nd ns k).mode),vI ((nd ns k).cO),vI ((nd ns k).cQ),vI ((nd ns k).bJ),vI ((nd ns k).bh),.slice dB ((nd ns k).data.length) (cd),.string (nd ns k).target,.slice eB ((nd ns k).aq.length) (ce)] 102) (λb12=>mM 4 22 (some ⟨b12,0,none⟩) 1 1 [vI ((nd ns k).id),vI ((nd ns k).kind),vI ((nd ns k).mode),vI ((nd ns k).cO),vI ((nd ns k).cQ),vI ((nd ns k).bJ),vI ((nd ns k).bh),.slice dB ((nd ns k).data.length) (cd),.string (nd ns k).target,.slice eB ((nd ns k).aq.length) (ce)] rfl (gi (j:=8) rfl) (λMF c14=>aE.cT 4 rfl (zc (λx=>HP.abs (aK 102 10 _ _ _ x)) (vH (hkl hk) (ux d5) rfl rfl)) (sl 21 (.slice MF (k+1) (c14)) (.slice MF ((k+1)) (c14)) (rfl) (jK 1 [3] [] (LX (ax.region (jK 3 [4] [(1,wJ ((k:Int)+1) (↑(k+1)))] (NL (aF.mem (λw hS=>hS.uM (R':=(mG (ns.take (k+1)) (K.put k dB cd eB ce))) (i:=6) (j:=0) (ay:=[1,2,3,4,5,7,8]) rfl rfl d6 rfl (Dp (hkl hk) (ux d5)) (Bk (hkl hk) (ux d5) rfl)) (aF.mem (λw hS=>hS.uM (R':=(qP (ns.take (k+1)) (K.put k dB cd eB ce))) (i:=5) (j:=1) (ay:=[0,2,3,4,6,7]) rfl rfl d6 rfl (Dq (hkl hk) (ux d5)) (Bl (hkl hk) (ux d5) rfl)) (tJ ((k+1),MF,c14,(K.put k dB cd eB ce)) [2,3,4,0,1,5] (d5))))))))))))
 refine XX (SR ?_)
 have hkn:k=ns.length:=d5
 have hgt:ns.take k=ns:=by rw [hkn,ahW]
 exact aE.cT 2 rfl (by rw [hgt,hkn]) (aE.cT 3 rfl (by rw [hgt,hkn]) (aE.cT 4 rfl (by rw [hgt,hkn]) (sl 3 (.slice Ao (k) (cp)) (.slice Ao (ns.length) (cp)) (by rw [hkn]) (jC 3 [] [(2,a_ 1 b10)] [(1,[(0,.slice Ao (ns.length) (cp))])] (eS [a_ 1 b10] ⟨Ao,cp,K,rfl,rfl⟩ [2,3,4,5])))))
theorem UX {β:Bs} (Z:RS) (Y:RL) (hR:dP β Z Y) (hB:RB Z) :
 bN Tryz.prog β 60 #[.agg ⟨rV Z Y⟩] [] (λβ' v l=>∃A1 c1 K G1 g1,v=.agg ⟨rW Z A1 c1 G1 g1 Y.H Y.ch Y.V Y.cv⟩/\l=[.abs (aK 102 10 A1 Z.ns.length c1 (bP K Z.ns)),.abs (aK 3 1 G1 Z.aJ.length g1 (bG Z.aJ)),.abs (kY (mG Z.ns K) Z.ns.length)]/\∀i,i<Z.ns.length->cU β' (K.eA i) (nd Z.ns i).aq):=by
 have hbg:=hB.aJ
 refine mK Tryz.func60 Tryz.ntmps60 (λaH R=>SR (jB 1 [1] (λb1=>.aD b1 (rV Z Y) 45) (λb1=>jB 1 [2] (λb2=>.aD b2 (rZ) 45) (λb2=>NS (jK 2 [5] [(1,a_ 1 b1)] (gL [] (MX Y.A Y.c Z.ns Y.L hR.n (by have:=hB.ns;omega) hB.hd) ?_))))))
 rintro _ _ ⟨A1,c1,K,rfl,rfl⟩
 refine jC 2 [] [(1,a_ 4 b1)] [(4,[(0,.slice A1 (Z.ns.length) (c1))])] (NS (jB 2 [3] (λb3=>.aD b3 [] 3) (λb3=>NS (aE.mem (λw hS=>hS.oo (i:=6) (b:=b3) (cs:=[]) (e:=3) 1 0 d6 rfl d8) (jK 3 [9,11] [(2,a_ 4 b1)] (mM 6 41 Y.G Z.aJ.length Y.cg (bG Z.aJ) rfl (hR.g.src) (λA4 c5=>aE.cT 6 rfl (by rw [ahS,List.nil_append]) (sl 12 (.slice A4 (0+Z.aJ.length) (c5)) (.slice A4 (Z.aJ.length) (c5)) (by rw [ahS]) (jK 1 [3] [] (NS (aE.mA (Φ:=λβ'=>∀i,i<Z.ns.length->cU β' (K.eA i) (nd Z.ns i).aq) 1 [0,2,3,4,5,6] (fY:=[.abs (aK 102 10 A1 Z.ns.length c1 (bP K Z.ns)),.abs (kY (mG Z.ns K) Z.ns.length),.abs R,.aD b1 (rW Z A1 c1 Y.G Y.cg Y.H Y.ch Y.V Y.cv) 45,.aD b2 (rZ) 45,.abs (aK 3 1 A4 Z.aJ.length c5 (bG Z.aJ))]) rfl rfl d6 (λF w h β' h1 h2=>agI h h1 h2) (λβ1 cV hE=>?_)))))) (hl:=by rw [show (bG Z.aJ).length=Z.aJ.length from ahQ ..];omega) (h1:=Px _)))))))
 replace aH:=aH.trans cV
 exact jC 3 [] [(2,a_ 3 b1)] [(3,[(1,.slice A4 (Z.aJ.length) (c5))])] (NS (jC 2 [] [(0,A_ 3 b1 12),(1,A_ 4 b2 12)] [(4,(zC (rW Z A1 c1 A4 c5 Y.H Y.ch Y.V Y.cv)))] (eO [A_ 4 b2 12] aH ⟨A1,c1,K,A4,c5,rfl,rfl,hE⟩ [0,5,1,2])))
end
section
open Go.RowKit Go.Maps bw aI
section b
variable {P:Program} {β:Bs} {f:FuncId} {args:Array Value} {pre pre' R:List HP} {post:Bs->Value->List HP->Prop}
theorem bN.UY (h:∀β':Bs,oF β R β'->bN P β' f args pre post):bN P β f args (pre++R) post:=by
 intro A w hS
 have h1:=aQ.turn hS
 rw [←ah1] at h1
 obtain⟨β',g1,_,g3⟩:=h1.uf
 refine (h β' g1 A w (aQ.turn g3)).mono ?_
 rintro e w' ⟨oL,v,l,dV,h2⟩
 exact⟨oL,v,l,g1.le.trans dV,h2⟩
theorem bN.ab9 {Φ:Bs->Prop} (h:∀β':Bs,β.le β'->Φ β'->bN P β' f args pre post):bN P β f args (.abs (jl β Φ)::pre) post:=by
 intro A w hS
 obtain⟨β',g1,g2,g3⟩:=aQ.sI (l:=pre++[.abs A]) hS
 refine (h β' g1 g2 A w g3).mono ?_
 rintro e w' ⟨oL,v,l,dV,h2⟩
 exact⟨oL,v,l,g1.trans dV,h2⟩
theorem bN.agQ (h:bN P β f args pre' post) (hp:∀A w,aQ β (pre++[.abs A]) w->aQ β (pre'++[.abs A]) w):bN P β f args pre post:=λA w hS=>h A w (hp A w hS)
end b
section s
variable {β:Bs} {R Z:RS} {Y:RL} {c:aN} {e:Int} {k:Nat}
theorem XZ (h:¬(c.op=11\/c.op=12)) (h1:(dH R c).2.2=0):tX R c=((dH R c).1,{c with answer:=(dH R c).2.1,code:=0}):=(nw h).trans (t8 h1)
theorem X1 (h:¬(c.op=11\/c.op=12)) (h1:¬(dH R c).2.2=0):tX R c=(R,{c with answer:=0,code:=(dH R c).2.2}):=(nw h).trans (nw h1)
abbrev Lb (R:RS) (K:fk):HP:=.abs (kY (mG R.ns K) R.ns.length)
abbrev CP (R:RS) (K:fk) (β:Bs):Prop:=∀i,i<R.ns.length->cU β (K.eA i) (nd R.ns i).aq
theorem G3 (hR:dP β Z Y) (hB:RB Z):aW Tryz.prog β 60 #[.agg ⟨rV Z Y⟩] [] (λv l=>∃A1 c1 K G1 g1,v=.agg ⟨rV Z ⟨A1,c1,K,G1,g1,Y.H,Y.ch,Y.V,Y.cv⟩⟩/\l=[.abs (jl β (CP Z K)),.abs (aK 102 10 A1 Z.ns.length c1 (bP K Z.ns)),.abs (aK 3 1 G1 Z.aJ.length g1 (bG Z.aJ)),Lb Z K]):=
 (bN.GD (ι:=Option Addr×Nat×fk×Option Addr×Nat) (vv:=λx=>.agg ⟨rV Z ⟨x.1,x.2.1,x.2.2.1,x.2.2.2.1,x.2.2.2.2,Y.H,Y.ch,Y.V,Y.cv⟩⟩) (ll:=λx=>[.abs (aK 102 10 x.1 Z.ns.length x.2.1 (bP x.2.2.1 Z.ns)),.abs (aK 3 1 x.2.2.2.1 Z.aJ.length x.2.2.2.2 (bG Z.aJ)),Lb Z x.2.2.1]) (Φ:=λx=>CP Z x.2.2.1)
  ((UX Z Y hR hB).mono (by rintro β' v l _ ⟨A1,c1,K,G1,g1,rfl,rfl,h⟩;exact⟨(A1,c1,K,G1,g1),rfl,rfl,h⟩))).mono gn
theorem X2 {A1 G1:Option Addr} {c1 g1:Nat} {K:fk} (hR:dP β Z Y) (hC:RC Z) (hD:RD 0 Z) (yK:mV c.op) (hn:c.name.size<=1048576) :
 aW Tryz.prog β 61 #[.agg ⟨rV Z ⟨A1,c1,K,G1,g1,Y.H,Y.ch,Y.V,Y.cv⟩⟩,.agg ⟨bA c⟩] [.abs (jl β (CP Z K)),.abs (aK 102 10 A1 Z.ns.length c1 (bP K Z.ns)),.abs (aK 3 1 G1 Z.aJ.length g1 (bG Z.aJ)),Lb Z K]
  (λv l=>∃Y',v=.tuple #[.agg ⟨rV (dH Z c).1 Y'⟩,.int .i64 (dH Z c).2.1,.int .i64 (dH Z c).2.2]/\l=[.abs (jl β (λβ'=>dP β' (dH Z c).1 Y'))]):=by
 refine (bN.GD (ι:=RL) (vv:=λY'=>.tuple #[.agg ⟨rV (dH Z c).1 Y'⟩,.int .i64 (dH Z c).2.1,.int .i64 (dH Z c).2.2]) (ll:=λ_=>[]) (Φ:=λY' β'=>dP β' (dH Z c).1 Y') (bN.ab9 λβ' dV hE=>?_)).mono gn
 refine bN.UY (pre:=[.abs (aK 102 10 A1 Z.ns.length c1 (bP K Z.ns)),.abs (aK 3 1 G1 Z.aJ.length g1 (bG Z.aJ))]) (R:=[Lb Z K]) λoL hL=>?_
 have hI:mO oL Z K Y.H Y.V:=by
  obtain⟨F,q1,q2⟩:=hL.get 0 rfl
  exact⟨aer q1 q2 rfl,λi hi=>(hE i hi).le hL.le,(hR.h.le dV).le hL.le,(hR.v.le dV).le hL.le⟩
 refine (XW Z ⟨A1,c1,K,G1,g1,Y.H,Y.ch,Y.V,Y.cv⟩ hI hC hD c hn yK).mono ?_
 grind
end s
end
end Go.Proofs.YtfececghhgeapaaGreatDoor
