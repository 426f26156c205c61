/-
  PROVED HERE: lemmas and contracts of functions (texts of this repo, joined; what the claim does not use is left out): GRef, GW, GFb, GFc, Cn, ShelfS, SK, HG, GOk, Nw, Il, Rt, Sr, Sd, Dl, Dm, Ib, Do, Mx, Sb, Wo, Wx, Vv, Vf, Fz, Ws, Wk, HW, DR, DT, Dp, DP, DC.
  CONDITIONS: as the theorems say.
-/
import Derived.Test.YtbnfiigafobejaaGreatMWmemory2
import Derived.Shelf.SlGeneric
import Derived.Shelf.SlIter.Nil
import Derived.Shelf.SortM.Plain
import Derived.Shelf.SortM.SortNone
import Derived.Ground.GgzProg
import Derived.Ground.SlgmProg
import Derived.Test.YtbnfiigafobejaaGreatProg
set_option maxRecDepth 100000
set_option maxHeartbeats 4000000
namespace Go.Proofs.YtbnfiigafobejaaGreat
section
open Go.RowKit
attribute [local irreducible] av bP aq aB
theorem QK {β:Bs} (A:Option Addr) (c:Nat) (ns:List aO) (L:eP) (hG:aQ β A ns L) (hl:ns.length<=1048576) (hd:∀i,i<ns.length->(nd ns i).data.length<=1048576/\(nd ns i).ah.length<=1048576) (_:∀i,i<ns.length->∀j,j<(nd ns i).ah.length->-9223372036854775808<=(bU ns i j).id/\(bU ns i j).id<=9223372036854775807) (hnm:∀i,i<ns.length->∀j,j<(nd ns i).ah.length->(bU ns i j).name.size<=1048576) (ht:∀i,i<ns.length->(nd ns i).target.size<=1048576) :
 aX Tryz.prog β 52 #[.agg #[.slice A ns.length c]] [] (λv l=>v=vI (if cG ns then 0 else 140)/\l=[]):=by
 refine SE Tryz.func52 Tryz.ntmps52 (λR=>SR (jB 2 [1] (λb1=>.ay b1 [.slice A (ns.length) (c)] 24) (λb1=>NZ (jK 4 [18] [(1,a_ 1 b1)] (NN (cP ((((ns.length:Nat):Int):Int)>(4096:Int)) (λp4=>zR ⟨ahg (Value.int .i64) (ahe (c:=cG ns) (λh=>by have:=h.len;omega)).symm,rfl⟩) (λp4=>KX (SR (jK 1 [3] [] (NZ (jK 1 [4] [] (NN (aq.block (lJ (λ(k:Nat)=>(k<=ns.length)/\(wL ns k)/\(dM ns k<=k*1048576)) (λ(k:Nat)=>ns.length-k) (λ(k:Nat)=>[(1,vP b1),(3,vI ↑(dM ns k)),(4,vI ↑k)]) (λ(k:Nat)=>[.ay b1 [.slice A (ns.length) (c)] 24,.abs R]) 0 [1,0] (⟨ahj _,wL.zero ns,ahj _⟩) ?_))))))))))))))
 rintro k ⟨hk,hu,hs⟩
 have hk4:=(hd k)
 refine SQ (jK 5 [23] [(2,a_ 0 b1)] (NN (cP ((((k:Nat):Int):Int)<(((ns.length:Nat):Int):Int)) (λh23=>KX (aq.seq (aq.block (SR (jN 7 [5] (λb2=>[(1,a_ 0 b1),(3,x_ k ns.length (aQ.hd hG (i:=k) zc)),(4,D2 (iy L k (nd ns k)) (λ_ _ h=>aQ.rd hG zc h)),(6,A_ 2 b2 10)]) (λ_=>[]) (λb2=>.ay b2 (iy L k (nd ns k)) 95) (λb2=>NN (aq.seq (aq.seq (rQ (jQ 4 [34] [(1,a_ 2 b2)] (bP.xg 34 (((nd ns k).id:Int)<(1:Int)) (λ_=>KB) (λyj=>jQ 25 [59] [] (NQ (NX (CT (zR ⟨ahg (Value.int .i64) (ahe (c:=cG ns) (λh=>by have:=(h.ids k zc).1;omega)).symm,rfl⟩ [1]))))) (λyj=>jQ 5 [39] [(1,a_ 2 b2)] (bP.xg 39 (((nd ns k).id:Int)>(1099511627776:Int)) (λ_=>KB) (λnB=>jQ 20 [59] [] (NQ (NX (CT (zR ⟨ahg (Value.int .i64) (ahe (c:=cG ns) (λh=>by have:=(h.ids k zc).2;omega)).symm,rfl⟩ [1]))))) (λnB=>jQ 3 [42] [] (bP.xg 42 ((((k:Nat):Int):Int)>(0:Int)) (λ_=>KB) (λkQ=>jQ 13 [55] [(1,a_ 2 b2),(3,a_ 0 b1),(5,wJ ((k:Int)-1) (↑(k-1))),(6,x_ (k-1) ns.length (aQ.hd hG (i:=(k-1)) zc)),(8,r_ (aQ.rd hG (i:=(k-1)) zc (j:=0) rfl))] (bP.xg 55 (((nd ns k).id:Int)<=((nd ns (k-1)).id:Int)) (λ_=>KB) (λh55=>jQ 4 [59] [] (NQ (NX (CT (zR ⟨ahg (Value.int .i64) (ahe (c:=cG ns) (λh=>by have:=h.fO (k-1) k zc zc;omega)).symm,rfl⟩ [1]))))) (λh55=>jQ 1 [56] [(0,A_ 2 b2 10)] (mG [] [0,1,2] (.bool (decide (sA (nd ns k)))) (NH (nd ns k) (L.dA k) (L.eA k) (L.dC k) (L.eC k) (ht k zc)) (jQ 2 [59] [] (NQ (NX (cN (sA (nd ns k)) (λwi=>zR ⟨ahg (Value.int .i64) (ahe (c:=cG ns) (λh=>by exact wi (h.node k zc))).symm,rfl⟩ [1]) (λwi=>KX (aq.region (jK 6 [3] [(2,a_ 2 b2),(4,wJ (((dM ns k:Nat):Int)+(((nd ns k).ah.length:Nat):Int)) (↑((dM ns k)+((nd ns k).ah.length))))] (LX (aq.region (jK 3 [4] [(1,wJ ((k:Int)+1) (↑(k+1)))] (NL (tJ ((k+1)) [0,1] (⟨zc,hu.step (by rw [TA zc];omega) zc wi,by show dM ns k+_<=_;omega⟩))))))))))))))))) (λkQ=>jQ 14 [55,56] [(13,A_ 2 b2 10)] (mG [] [0,1,2] (.bool (decide (sA (nd ns k)))) (NH (nd ns k) (L.dA k) (L.eA k) (L.dC k) (L.eC k) (ht k zc)) (jQ 2 [59] [] (NQ (NX (cN (sA (nd ns k)) (λwi=>zR ⟨ahg (Value.int .i64) (ahe (c:=cG ns) (λh=>by exact wi (h.node k zc))).symm,rfl⟩ [1]) (λwi=>KX (aq.region (jK 6 [3] [(2,a_ 2 b2),(4,wJ (((dM ns k:Nat):Int)+(((nd ns k).ah.length:Nat):Int)) (↑((dM ns k)+((nd ns k).ah.length))))] (LX (aq.region (jK 3 [4] [(1,wJ ((k:Int)+1) (↑(k+1)))] (NL (tJ ((k+1)) [0,1] (⟨zc,hu.step (by rw [show k=0 by omega];rw [show k=0 by omega] at yj;show (0:Int)<_;omega) zc wi,by show dM ns k+_<=_;omega⟩)))))))))))))))))))))))))))))) (λh23=>XX (SQ (jK 2 [66] [] (NN (cP ((((dM ns k:Nat):Int):Int)>(8192:Int)) (λmg=>zR ⟨ahg (Value.int .i64) (ahe (c:=cG ns) (λh=>by have h1:=h.sum;grind)).symm,rfl⟩ [1]) (λmg=>KX (SR (jK 3 [69] [(1,a_ 0 b1)] (av.XV (d:=(some 70)) (t:=41) (e:=3) (z:=.int .i64 0) (bytes:=8) (n:=ns.length) (l:=(.tmp 69)) (c:=(.tmp 69)) (λ_=>KB) (λ_=>KB) (λ_=>KB) Tryz.underlying41 KB rfl zc zc (λb3=>jK 1 [6] [] (NZ (av.cO 2 (p':=.abs (aG 3 1 (some ⟨b3,0,none⟩) ns.length ns.length (j4 (List.replicate ns.length 0)))) rfl (by rw [j4,List.map_replicate]) (jK 1 [7] [] (NN (aq.block (lJ (λ(t,pl)=>(t<=ns.length)/\(pl.length=ns.length)/\(∀a,a<t->pl.getD a 0 = -1)) (λ(t,pl)=>ns.length-t) (λ(t,pl)=>[(1,vP b1),(6,.slice (some ⟨b3,0,none⟩) (ns.length) (ns.length)),(7,vI ↑t)]) (λ(t,pl)=>[.ay b1 [.slice A (ns.length) (c)] 24,.abs (aG 3 1 (some ⟨b3,0,none⟩) ns.length ns.length (j4 pl)),.abs R]) (0,(List.replicate ns.length 0)) [0,2,1] (⟨ahj _,ahd,λa ha=>ahh ha (ahm a)⟩) ?_)))))))))))))))))))
 rintro⟨t,pl⟩ ⟨ht2,hpl,hpa⟩
 refine SQ (jK 4 [74] [] (NN (cP ((((t:Nat):Int):Int)<(((ns.length:Nat):Int):Int)) (λD3=>KX (aq.seq (aq.block (aq.region (jK 3 [79] [(2,p_ ⟨[],some t,none,none,some (.pointer (some ⟨b3,t,none⟩))⟩ [(Value.pointer (some ⟨b3,0+t*1,none⟩))=(.pointer (some ⟨b3,t,none⟩)),((t:Nat):Int)=((t:Nat):Int),t<ns.length,(⟨b3,0,none⟩:Addr).spot=none] ⟨ahd,rfl,zc,rfl,trivial⟩)] (av.Ei 1 (t) (d:=none) (T:=3) (e:=3) (size:=1) (n:=ns.length) (cap:=ns.length) (g:=b3) (xs:=(j4 pl)) (u:=.int .i64 (-1)) (a:=(.tmp 79)) (y:=(.const (.int .i64 (-1)))) (λ_=>KB) KB (λ_=>KB) (λ_=>KB) KB rfl (by rw [j4,ahz];omega) (av.cO 1 rfl (by rw [EQ]) (LX (aq.region (jK 3 [7] [(1,wJ ((t:Int)+1) (↑(t+1)))] (NL (tJ ((t+1),(pl.set t (-1))) [0,1,2] (⟨zc,by rw [ahp];exact hpl,λa ha=>(by grind [OB])⟩))))))))))))) (λD3=>XX (SQ (jK 1 [8] [] (NN (aq.block ?_))))))))
 have Ds:dH ns:=λa b ef hb=>hu.fO a b ef zc
 have hsum:dM ns ns.length<=8192:=by rw [show ns.length=k by omega];omega
 refine lJ (λ(i,wj)=>(i<=ns.length)/\(∀a,a<i->∀j,j<(nd ns a).ah.length->xq ns a j)/\(((jo ns i).map Prod.fst).Nodup)/\(OA ns.length wj (jo ns i))) (λ(i,wj)=>ns.length-i) (λ(i,wj)=>[(1,vP b1),(6,.slice (some ⟨b3,0,none⟩) (ns.length) (ns.length)),(8,vI ↑i)]) (λ(i,wj)=>[.ay b1 [.slice A (ns.length) (c)] 24,.abs (aG 3 1 (some ⟨b3,0,none⟩) ns.length ns.length (j4 wj)),.abs R]) (0,pl) [0,1,2] (⟨ahj _,λa ha=>ahh ha (ahm a),List.nodup_nil,⟨hpl,λa ha=>hpa a zc⟩⟩) ?_
 rintro⟨i,wj⟩ ⟨hi,BK,hnd,hpar⟩
 refine SQ (jK 5 [84] [(2,a_ 0 b1)] (NN (cP ((((i:Nat):Int):Int)<(((ns.length:Nat):Int):Int)) (λh84=>?_) (λh84=>?_))))
 ·refine KX (aq.seq (aq.block (SR (jK 1 [9] [] (NN (aq.block (lJ (λ(j,uf)=>(j<=(nd ns i).ah.length)/\(∀t,t<j->xq ns i t)/\(((iu ns i j++jo ns i).map Prod.fst).Nodup)/\(OA ns.length uf (iu ns i j++jo ns i))) (λ(j,uf)=>(nd ns i).ah.length-j) (λ(j,uf)=>[(1,vP b1),(6,.slice (some ⟨b3,0,none⟩) (ns.length) (ns.length)),(8,vI ↑i),(9,vI ↑j)]) (λ(j,uf)=>[.ay b1 [.slice A (ns.length) (c)] 24,.abs (aG 3 1 (some ⟨b3,0,none⟩) ns.length ns.length (j4 uf)),.abs R]) (0,wj) [0,1,2] (⟨ahj _,λt ht=>ahh ht (ahm t),hnd,hpar⟩) ?_)))))))
  rintro⟨j,uf⟩ ⟨hj,hok,OG,xA⟩
  have hd3:=(hd i zc).2
  have VO:=xA.len
  refine SQ (jK 9 [95] [(2,a_ 0 b1),(4,x_ i ns.length (aQ.hd hG (i:=i) zc)),(6,r_ (aQ.rd hG (i:=i) zc (j:=9) rfl))] (NN (cP ((((j:Nat):Int):Int)<((((nd ns i).ah.length:Nat):Int):Int)) (λh95=>KX (aq.seq (aq.block (SR (jN 11 [10] (λb4=>[(1,a_ 0 b1),(3,x_ i ns.length (aQ.hd hG (i:=i) zc)),(5,r_ (aQ.rd hG (i:=i) zc (j:=9) rfl)),(7,x_ j ((nd ns i).ah.length) (cV.hd (hG.ah i zc) (i:=j) zc)),(8,r2 (cV.rd (hG.ah i zc) (i:=j) zc (j:=0) rfl) (cV.rd (hG.ah i zc) (i:=j) zc (j:=1) rfl)),(10,A_ 3 b4 2)]) (λ_=>[]) (λb4=>.ay b4 [.string (en (nd ns i).ah j).name,vI ((en (nd ns i).ah j).id)] 149) (λb4=>NS (jK 3 [107,109] [(0,a_ 0 b1),(2,a_ 3 b4)] (gE [] (ze A c ns L hG Ds hl (en (nd ns i).ah j).id) (jK 1 [11] [] (NN (aq.seq (aq.seq (rQ (jQ 3 [113] [] (bP.xg 113 ((gJ ns (en (nd ns i).ah j).id:Int)<(0:Int)) (λ_=>KB) (λKH=>jQ 25 [138] [] (NQ (NX (CT (zR ⟨ahg (Value.int .i64) (ahe (c:=cG ns) (λh=>by have h1:=(h.ah i zc j zc).at_;change 0<=gJ ns (en (nd ns i).ah j).id at h1;omega)).symm,rfl⟩ [2]))))) (λKH=>?_)))))))))))))))) (λh95=>XX (aq.region (jK 3 [8] [(1,wJ ((i:Int)+1) (↑(i+1)))] (NL (tJ ((i+1),uf) [0,1,2] (⟨zc,λa ha=>Pe,(by have:=OG;rwa [show j=(nd ns i).ah.length by omega] at this),(by have:=xA;rwa [show j=(nd ns i).ah.length by omega] at this)⟩)))))))))
  have htl:=mW (Int.not_lt.1 KH)
  refine jQ 2 [115] [(1,a_ 3 b4)] (mG [] [0,1,2,3] (.bool (decide (cA (en (nd ns i).ah j).name))) (Dj (en (nd ns i).ah j).name (hnm i zc j zc)) (jQ 3 [119] [] (bP.SZ 119 (cA (en (nd ns i).ah j).name) (λ_=>KB) (λKI=>jQ 19 [138] [] (NQ (NX (CT (zR ⟨ahg (Value.int .i64) (ahe (c:=cG ns) (λh=>by exact KI (h.ah i zc j zc).good)).symm,rfl⟩ [2]))))) (λKI=>?_))))
  refine jQ 3 [122] [] (bP.xg 122 ((((j:Nat):Int):Int)>(0:Int)) (λ_=>KB) (λTB=>jQ 16 [138] [(1,a_ 3 b4),(3,a_ 0 b1),(5,x_ i ns.length (aQ.hd hG (i:=i) zc)),(7,r_ (aQ.rd hG (i:=i) zc (j:=9) rfl)),(9,wJ ((j:Int)-1) (↑(j-1))),(10,x_ (j-1) ((nd ns i).ah.length) (cV.hd (hG.ah i zc) (i:=(j-1)) zc)),(12,r_ (cV.rd (hG.ah i zc) (i:=(j-1)) zc (j:=0) rfl)),(13,w_ (.bool (decide (jA ((en (nd ns i).ah j).name) ((en (nd ns i).ah (j-1)).name)))) (NU _ _))] (NQ (NX (cP (jA ((en (nd ns i).ah j).name) ((en (nd ns i).ah (j-1)).name)) (λTD=>zR ⟨ahg (Value.int .i64) (ahe (c:=cG ns) (λh=>by have h1:=(h.ah i zc j zc).ord;rw [OE zc] at h1;exact h1 TD)).symm,rfl⟩ [2]) (λTD=>KX (SR (jK 7 [145] [(1,a_ 0 b1),(3,p_ ⟨[],some (cq ns (en (nd ns i).ah j).id),none,some ⟨(br A),bq A,none⟩,none⟩ [gJ ns (en (nd ns i).ah j).id=(((cq ns (en (nd ns i).ah j).id):Nat):Int),(cq ns (en (nd ns i).ah j).id)<ns.length,(⟨(br A),bq A,none⟩:Addr).spot=none,(A:Option Addr)=some ⟨(br A),bq A,none⟩] ⟨htl.2.2,zc,rfl,aQ.hd hG (i:=(cq ns (en (nd ns i).ah j).id)) zc,trivial⟩),(5,r_ (aQ.rd hG (i:=(cq ns (en (nd ns i).ah j).id)) zc (j:=1) rfl))] (NN (cP (((nd ns (cq ns (en (nd ns i).ah j).id)).kind:Int)=(2:Int)) (λpJ=>SQ (jK 5 [150] [(2,p_ ⟨[],some (cq ns (en (nd ns i).ah j).id),none,none,some (.pointer (some ⟨b3,(cq ns (en (nd ns i).ah j).id),none⟩))⟩ [(Value.pointer (some ⟨b3,0+(cq ns (en (nd ns i).ah j).id)*1,none⟩))=(.pointer (some ⟨b3,(cq ns (en (nd ns i).ah j).id),none⟩)),gJ ns (en (nd ns i).ah j).id=(((cq ns (en (nd ns i).ah j).id):Nat):Int),(cq ns (en (nd ns i).ah j).id)<ns.length,(⟨b3,0,none⟩:Addr).spot=none] ⟨ahd,htl.2.2,zc,rfl,trivial⟩),(3,p_ ⟨[.view 1 (.int .i64 ((uf.getD (cq ns (en (nd ns i).ah j).id) 0)))],none,none,none,none⟩ [(∀F w,(aG 3 1 (some ⟨b3,0,none⟩) ns.length ns.length (j4 uf)).h F w->w.cell? ⟨b3,(cq ns (en (nd ns i).ah j).id),none⟩=some (vI ((uf.getD (cq ns (en (nd ns i).ah j).id) 0))))] ⟨aG.cell (BL zc),trivial⟩)] (NN (cP (((uf.getD (cq ns (en (nd ns i).ah j).id) 0):Int)>=(0:Int)) (λYO=>zR ⟨ahg (Value.int .i64) (ahe (c:=cG ns) (λh=>by have h1:Dt (iu ns i j++jo ns i) (cq ns (en (nd ns i).ah j).id)<0:=BM.2 (Cw (h.row zc) zc pJ);rw [←xA.at_ (cq ns (en (nd ns i).ah j).id) zc] at h1;omega)).symm,rfl⟩ [2]) (λYO=>KX (aq.region (jK 4 [153,154] [(3,p_ ⟨[],some (cq ns (en (nd ns i).ah j).id),none,none,some (.pointer (some ⟨b3,(cq ns (en (nd ns i).ah j).id),none⟩))⟩ [(Value.pointer (some ⟨b3,0+(cq ns (en (nd ns i).ah j).id)*1,none⟩))=(.pointer (some ⟨b3,(cq ns (en (nd ns i).ah j).id),none⟩)),gJ ns (en (nd ns i).ah j).id=(((cq ns (en (nd ns i).ah j).id):Nat):Int),(cq ns (en (nd ns i).ah j).id)<ns.length,(⟨b3,0,none⟩:Addr).spot=none] ⟨ahd,htl.2.2,zc,rfl,trivial⟩)] (av.Ei 1 ((cq ns (en (nd ns i).ah j).id)) (d:=none) (T:=3) (e:=3) (size:=1) (n:=ns.length) (cap:=ns.length) (g:=b3) (xs:=(j4 uf)) (u:=.int .i64 ↑i) (a:=(.tmp 154)) (y:=(.tmp 153)) (λ_=>KB) KB (λ_=>KB) (λ_=>KB) KB rfl (by rw [j4,ahz];omega) (av.cO 1 rfl (by rw [EQ]) (LX (aq.region (jK 3 [9] [(1,wJ ((j:Int)+1) (↑(j+1)))] (NL (tJ ((j+1),(uf.set (cq ns (en (nd ns i).ah j).id) ((i:Nat):Int))) [0,1,2] (⟨zc,λt ht=>(by rcases ahn.1 ht with h|h;exact hok t h;subst h;exact Du (Int.not_lt.1 KH) KI (λ_=>TD)),(by rw [qD pJ,ahU,ahM];exact aij.2 ⟨show cq ns (en (nd ns i).ah j).id∉_ from BM.1 (by rw [←xA.at_ (cq ns (en (nd ns i).ah j).id) zc];omega),OG⟩),(by rw [qD pJ];exact xA.put zc)⟩))))))))))))))) (λpJ=>KX (aq.region (jK 3 [9] [(1,wJ ((j:Int)+1) (↑(j+1)))] (NL (tJ ((j+1),uf) [0,1,2] (⟨zc,λt ht=>(by rcases ahn.1 ht with h|h;exact hok t h;subst h;exact Du (Int.not_lt.1 KH) KI (λ_=>TD)),(by rw [rH pJ];exact OG),(by rw [rH pJ];exact xA)⟩))))))))))))))) (λTB=>?_))
  exact jQ 16 [138] [] (NQ (NX (CF (KX (SR (jK 7 [145] [(1,a_ 0 b1),(3,p_ ⟨[],some (cq ns (en (nd ns i).ah j).id),none,some ⟨(br A),bq A,none⟩,none⟩ [gJ ns (en (nd ns i).ah j).id=(((cq ns (en (nd ns i).ah j).id):Nat):Int),(cq ns (en (nd ns i).ah j).id)<ns.length,(⟨(br A),bq A,none⟩:Addr).spot=none,(A:Option Addr)=some ⟨(br A),bq A,none⟩] ⟨htl.2.2,zc,rfl,aQ.hd hG (i:=(cq ns (en (nd ns i).ah j).id)) zc,trivial⟩),(5,r_ (aQ.rd hG (i:=(cq ns (en (nd ns i).ah j).id)) zc (j:=1) rfl))] (NN (cP (((nd ns (cq ns (en (nd ns i).ah j).id)).kind:Int)=(2:Int)) (λpJ=>SQ (jK 5 [150] [(2,p_ ⟨[],some (cq ns (en (nd ns i).ah j).id),none,none,some (.pointer (some ⟨b3,(cq ns (en (nd ns i).ah j).id),none⟩))⟩ [(Value.pointer (some ⟨b3,0+(cq ns (en (nd ns i).ah j).id)*1,none⟩))=(.pointer (some ⟨b3,(cq ns (en (nd ns i).ah j).id),none⟩)),gJ ns (en (nd ns i).ah j).id=(((cq ns (en (nd ns i).ah j).id):Nat):Int),(cq ns (en (nd ns i).ah j).id)<ns.length,(⟨b3,0,none⟩:Addr).spot=none] ⟨ahd,htl.2.2,zc,rfl,trivial⟩),(3,p_ ⟨[.view 1 (.int .i64 ((uf.getD (cq ns (en (nd ns i).ah j).id) 0)))],none,none,none,none⟩ [(∀F w,(aG 3 1 (some ⟨b3,0,none⟩) ns.length ns.length (j4 uf)).h F w->w.cell? ⟨b3,(cq ns (en (nd ns i).ah j).id),none⟩=some (vI ((uf.getD (cq ns (en (nd ns i).ah j).id) 0))))] ⟨aG.cell (BL zc),trivial⟩)] (NN (cP (((uf.getD (cq ns (en (nd ns i).ah j).id) 0):Int)>=(0:Int)) (λYO=>zR ⟨ahg (Value.int .i64) (ahe (c:=cG ns) (λh=>by have h1:Dt (iu ns i j++jo ns i) (cq ns (en (nd ns i).ah j).id)<0:=BM.2 (Cw (h.row zc) zc pJ);rw [←xA.at_ (cq ns (en (nd ns i).ah j).id) zc] at h1;omega)).symm,rfl⟩ [2]) (λYO=>KX (aq.region (jK 4 [153,154] [(3,p_ ⟨[],some (cq ns (en (nd ns i).ah j).id),none,none,some (.pointer (some ⟨b3,(cq ns (en (nd ns i).ah j).id),none⟩))⟩ [(Value.pointer (some ⟨b3,0+(cq ns (en (nd ns i).ah j).id)*1,none⟩))=(.pointer (some ⟨b3,(cq ns (en (nd ns i).ah j).id),none⟩)),gJ ns (en (nd ns i).ah j).id=(((cq ns (en (nd ns i).ah j).id):Nat):Int),(cq ns (en (nd ns i).ah j).id)<ns.length,(⟨b3,0,none⟩:Addr).spot=none] ⟨ahd,htl.2.2,zc,rfl,trivial⟩)] (av.Ei 1 ((cq ns (en (nd ns i).ah j).id)) (d:=none) (T:=3) (e:=3) (size:=1) (n:=ns.length) (cap:=ns.length) (g:=b3) (xs:=(j4 uf)) (u:=.int .i64 ↑i) (a:=(.tmp 154)) (y:=(.tmp 153)) (λ_=>KB) KB (λ_=>KB) (λ_=>KB) KB rfl (by rw [j4,ahz];omega) (av.cO 1 rfl (by rw [EQ]) (LX (aq.region (jK 3 [9] [(1,wJ ((j:Int)+1) (↑(j+1)))] (NL (tJ ((j+1),(uf.set (cq ns (en (nd ns i).ah j).id) ((i:Nat):Int))) [0,1,2] (⟨zc,λt ht=>(by rcases ahn.1 ht with h|h;exact hok t h;subst h;exact Du (Int.not_lt.1 KH) KI (λh=>ahh h (by omega))),(by rw [qD pJ,ahU,ahM];exact aij.2 ⟨show cq ns (en (nd ns i).ah j).id∉_ from BM.1 (by rw [←xA.at_ (cq ns (en (nd ns i).ah j).id) zc];omega),OG⟩),(by rw [qD pJ];exact xA.put zc)⟩))))))))))))))) (λpJ=>KX (aq.region (jK 3 [9] [(1,wJ ((j:Int)+1) (↑(j+1)))] (NL (tJ ((j+1),uf) [0,1,2] (⟨zc,λt ht=>(by rcases ahn.1 ht with h|h;exact hok t h;subst h;exact Du (Int.not_lt.1 KH) KI (λh=>ahh h (by omega))),(by rw [rH pJ];exact OG),(by rw [rH pJ];exact xA)⟩))))))))))))))
 refine XX (SQ (jK 1 [12] [] (NN (aq.block ?_))))
 have aaS:OA ns.length wj (jo ns ns.length):=Pe
 have hed:=AF (ns:=ns) (aho _) (λa ha=>BK a zc)
 refine lJ (λ(a:Nat)=>(a<=ns.length)/\(∀b,b<a->Ends ((jo ns ns.length).map (lu ns)) (nd ns b).id)) (λ(a:Nat)=>ns.length-a) (λ(a:Nat)=>[(6,.slice (some ⟨b3,0,none⟩) (ns.length) (ns.length)),(12,vI ↑a)]) (λ(a:Nat)=>[.abs (aG 3 1 (some ⟨b3,0,none⟩) ns.length ns.length (j4 wj)),.abs R]) 0 [1,2] (⟨ahj _,λb hb=>ahh hb (ahm b)⟩) ?_
 rintro a ⟨ha,hend⟩
 have VO:=hpar.len
 refine SQ (jK 4 [158] [] (NN (cP ((((a:Nat):Int):Int)<(((ns.length:Nat):Int):Int)) (λafI=>KX (aq.seq (aq.block (SR (jK 5 [13] [(2,p_ ⟨[],some a,none,none,some (.pointer (some ⟨b3,a,none⟩))⟩ [(Value.pointer (some ⟨b3,0+a*1,none⟩))=(.pointer (some ⟨b3,a,none⟩)),((a:Nat):Int)=((a:Nat):Int),a<ns.length,(⟨b3,0,none⟩:Addr).spot=none] ⟨ahd,rfl,zc,rfl,trivial⟩),(3,p_ ⟨[.view 0 (.int .i64 ((wj.getD a 0)))],none,none,none,none⟩ [(∀F w,(aG 3 1 (some ⟨b3,0,none⟩) ns.length ns.length (j4 wj)).h F w->w.cell? ⟨b3,a,none⟩=some (vI ((wj.getD a 0))))] ⟨aG.cell (BL zc),trivial⟩)] (NS (jK 1 [14] [] (NN (aq.block (lJ (λ(at_,step,w)=>((at_<0/\Ends ((jo ns ns.length).map (lu ns)) (nd ns a).id)\/∃q:Nat,at_=(q:Int)/\q<ns.length/\Way ((jo ns ns.length).map (lu ns)) (nd ns a).id w (nd ns q).id/\w.length=step+1)) (λ(at_,step,w)=>ns.length+2-step) (λ(at_,step,w)=>[(6,.slice (some ⟨b3,0,none⟩) (ns.length) (ns.length)),(12,vI ↑a),(13,vI (at_)),(14,vI ↑step)]) (λ(at_,step,w)=>[.abs (aG 3 1 (some ⟨b3,0,none⟩) ns.length ns.length (j4 wj)),.abs R]) ((wj.getD a 0),0,[(nd ns a).id]) [0,1] (OD Ds hed aaS zc .nil rfl) ?_)))))))))) (λafI=>XX (zR ⟨ahg (Value.int .i64) (ahf (c:=cG ns) ⟨zc,λa ha=>hu.node a zc,λa ha=>hu.ids a zc,Ds,zc,λa ha=>BK a zc,Pe,VN (λp hp=>(hed p hp).1) (λb hb=>hend b zc)⟩).symm,rfl⟩ [1])))))
 rintro⟨at_,step,w⟩ hst
 refine SQ (jK 2 [166] [] (NN (cP ((at_:Int)>=(0:Int)) (λafJ=>?_) (λafJ=>XX (aq.region (jK 3 [12] [(1,wJ ((a:Int)+1) (↑(a+1)))] (NL (tJ ((a+1)) [0,1] (⟨zc,λb hb=>Pe⟩)))))))))
 obtain⟨b,hb0,hb1,hb2,hb3⟩:=hst.resolve_left (λh=>zc)
 exact KX (aq.seq (aq.block (SQ (jK 4 [172] [] (sP 172 ((at_:Int)=(((a:Nat):Int):Int)) (λafK=>jK 5 [177] [] (NT (zR ⟨ahg (Value.int .i64) (ahe (c:=cG ns) (λh=>by rw [show b=a by omega] at hb2;exact hb2.back zc (h.ends _))).symm,rfl⟩ [1]))) (λafK=>jK 5 [177] [] (NN (cP ((((step:Nat):Int):Int)>(((ns.length:Nat):Int):Int)) (λafL=>zR ⟨ahg (Value.int .i64) (ahe (c:=cG ns) (λh=>by exact hb2.never (by have:=h.few;omega) (h.ends _))).symm,rfl⟩ [1]) (λafL=>KX (aq.region (jK 5 [13] [(2,p_ ⟨[],some b,none,none,some (.pointer (some ⟨b3,b,none⟩))⟩ [(Value.pointer (some ⟨b3,0+b*1,none⟩))=(.pointer (some ⟨b3,b,none⟩)),at_=((b:Nat):Int),b<ns.length,(⟨b3,0,none⟩:Addr).spot=none] ⟨ahd,hb0,zc,rfl,trivial⟩),(3,p_ ⟨[.view 0 (.int .i64 ((wj.getD b 0)))],none,none,none,none⟩ [(∀F w,(aG 3 1 (some ⟨b3,0,none⟩) ns.length ns.length (j4 wj)).h F w->w.cell? ⟨b3,b,none⟩=some (vI ((wj.getD b 0))))] ⟨aG.cell (BL zc),trivial⟩)] (LX (aq.region (jK 3 [14] [(1,wJ ((step:Int)+1) (↑(step+1)))] (NL (tJ ((wj.getD b 0),(step+1),(w++[(nd ns b).id])) [0,1] (OD Ds hed aaS hb1 hb2 hb3)))))))))))))))))
end
section
open Go.RowKit
theorem B0.refl (W:World):(B0 W).le (B0 W):=⟨λ_ h=>h,rfl,rfl,rfl,aho _,λ_ hk=>⟨hk,rfl⟩⟩
theorem aX.val {P:Program} {β:Bs} {f:FuncId} {args:Array Value} {pre:List HP} {x y:Value} {l0:List HP} (h:aX P β f args pre (λv l=>v=x/\l=l0)) (e:x=y):aX P β f args pre (λv l=>v=y/\l=l0):=h.mono λ_ _ h=>⟨h.1.trans e,h.2⟩
section gb
variable {ns:List aO} {b:Nat}
variable (h:j7 ns 1048576)
include h
end gb
structure agD (ns:List aO):Prop where
 hl:ns.length<=1048576
 hd:∀i,i<ns.length->(nd ns i).data.length<=140737488355328/\(nd ns i).ah.length<=1048576
 hwf:∀i,i<ns.length->∀j,j<(nd ns i).ah.length->-9223372036854775808<=(bU ns i j).id/\(bU ns i j).id<=9223372036854775807
 hnm:∀i,i<ns.length->∀j,j<(nd ns i).ah.length->(bU ns i j).name.size<=1048576
 ids:∀i,i<ns.length->yg (nd ns i).id
def L0:eP:=⟨λ_=>none,λ_=>none,λ_=>0,λ_=>0⟩
theorem cD.nil {β:Bs} {A:Option Addr}:cD β A []:=λj v hj=>by simp at hj
end
section
open Go.RowKit Go.Maps
def ae5 (l:List ByteArray):List Value:=l.map Value.string
def sAt (l:List ByteArray) (i:Nat):ByteArray:=l.getD i ⟨#[]⟩
def agE (β:Bs) (A:Option Addr) (l:List ByteArray):Prop:=cD β A (ae5 l)
section strs
variable {β β':Bs} {A:Option Addr} {l:List ByteArray}
end strs
def Sorted (es:List fH):Prop:=∀i j,i<j->j<es.length->vD (en es i).name (en es j).name<0
def BN (es:List fH) (p:ByteArray):Option Nat:=es.findIdx? (λe=>decide (e.name=p))
theorem TF {es:List fH} {p:ByteArray} (h:∀j,j<es.length->¬(en es j).name=p):BN es p=none:=by
 unfold BN
 rw [List.findIdx?_eq_none_iff]
 intro x hx
 obtain⟨j,hj,rfl⟩:=ahW hx
 grind [en]
section find
variable {ns:List aO} {k i:Nat} {ps:List ByteArray}
end find
end
section
open Go.RowKit
def iW (es:List fH) (id:Int):Nat->Nat
 |0=>0
 |j+1=>iW es id j+(if (en es j).id=id then 1 else 0)
def nP (ns:List aO) (id:Int):Nat->Nat
 |0=>0
 |i+1=>nP ns id i+iW (nd ns i).ah id (nd ns i).ah.length
theorem LK (es:List fH) (id:Int) (j:Nat):iW es id j<=j:=by
 induction j with
 |zero=>exact aho _
 |succ j ih=>
   rw [iW]
   split<;>omega
theorem Js {es:List fH} {id:Int} {j:Nat} (h:(en es j).id=id):iW es id j+1=iW es id (j+1):=by rw [iW,ahf h]
theorem GH {es:List fH} {id:Int} {j:Nat} (h:¬(en es j).id=id):iW es id j=iW es id (j+1):=by rw [iW,ahe h];rfl
theorem TG (ns:List aO) (id:Int) (i:Nat):nP ns id i<=dM ns i:=by
 induction i with
 |zero=>exact aho _
 |succ i ih=>
   grind [nP,dM,LK,nd]
end
end Go.Proofs.YtbnfiigafobejaaGreat
section
namespace Go.Proofs
open Go.Shelf
def Tryz.keysS_ren:Go.Shelf.Ren:=⟨fun|7=>69|10=>96|n=>n,fun|23=>145|26=>9|3=>133|28=>160|0=>0|27=>159|33=>162|4=>4|n=>n,fun|n=>n⟩
theorem Tryz.keysS:Go.Proofs.SlLaysZ.n7 Tryz.prog Tryz.keysS_ren:={
 mixed:=by kernel_rfl
 f7:=⟨Tryz.f69.name,by decide,Tryz.func69.trans (congrArg some (by kernel_rfl))⟩
 f10:=⟨Tryz.f96.name,by decide,Tryz.func96.trans (congrArg some (by kernel_rfl))⟩
 t0:=Tryz.underlying0
 a0:=Tryz.isAgg0
 z0:=Tryz.sizeOf0
 v0:=Tryz.zeroValue0
 t4:=Tryz.underlying4
 a4:=Tryz.isAgg4
 z4:=Tryz.sizeOf4
 v4:=Tryz.zeroValue4
 t23:=Tryz.underlying145
 a23:=Tryz.isAgg145
 z23:=Tryz.sizeOf145
 v23:=Tryz.zeroValue145
 t26:=Tryz.underlying9
 a26:=Tryz.isAgg9
 z26:=Tryz.sizeOf9
 v26:=Tryz.zeroValue9
 t27:=Tryz.underlying159
 a27:=Tryz.isAgg159
 z27:=Tryz.sizeOf159
 v27:=Tryz.zeroValue159
 t28:=Tryz.underlying160
 a28:=Tryz.isAgg160
 z28:=Tryz.sizeOf160
 v28:=Tryz.zeroValue160
 t33:=Tryz.underlying162
 a33:=Tryz.isAgg162
 z33:=Tryz.sizeOf162
 v33:=Tryz.zeroValue162}
def Tryz.sortedS_ren:Go.Shelf.Ren:=⟨fun|6=>68|8=>94|9=>95|11=>113|13=>112|12=>114|23=>131|24=>132|14=>133|15=>134|16=>135|17=>136|18=>137|19=>138|20=>139|21=>140|22=>141|25=>150|26=>145|27=>146|28=>151|29=>152|30=>153|31=>157|n=>n,fun|26=>9|28=>160|24=>157|0=>0|3=>3|37=>199|48=>214|50=>216|4=>4|40=>208|39=>207|45=>205|5=>5|9=>9|51=>224|55=>228|57=>233|58=>234|33=>162|n=>n,fun|n=>n⟩
theorem Tryz.sortedS:Go.Proofs.SlLaysZ.n6 Tryz.prog Tryz.sortedS_ren:={
 mixed:=by kernel_rfl
 f6:=⟨Tryz.f68.name,by decide,Tryz.func68.trans (congrArg some (by kernel_rfl))⟩
 f8:=⟨Tryz.f94.name,by decide,Tryz.func94.trans (congrArg some (by kernel_rfl))⟩
 f11:=⟨Tryz.f113.name,by decide,Tryz.func113.trans (congrArg some (by kernel_rfl))⟩
 t0:=Tryz.underlying0
 a0:=Tryz.isAgg0
 z0:=Tryz.sizeOf0
 v0:=Tryz.zeroValue0
 t24:=Tryz.underlying157
 a24:=Tryz.isAgg157
 z24:=Tryz.sizeOf157
 v24:=Tryz.zeroValue157
 t26:=Tryz.underlying9
 a26:=Tryz.isAgg9
 z26:=Tryz.sizeOf9
 v26:=Tryz.zeroValue9
 t28:=Tryz.underlying160
 a28:=Tryz.isAgg160
 z28:=Tryz.sizeOf160
 v28:=Tryz.zeroValue160
 i26:=by kernel_rfl}
def Tryz.sortS_ren:Go.Shelf.Ren:=⟨fun|6=>95|8=>112|9=>114|19=>131|20=>132|21=>133|22=>134|23=>135|24=>136|25=>137|26=>138|27=>139|28=>140|29=>141|36=>150|31=>145|32=>146|37=>151|38=>152|39=>153|41=>157|n=>n,fun|27=>157|29=>9|3=>3|32=>199|26=>157|0=>0|44=>214|46=>216|4=>4|36=>208|35=>207|41=>205|5=>5|9=>9|53=>224|57=>228|63=>233|64=>234|n=>n,fun|n=>n⟩
theorem Tryz.sortS:Go.Proofs.SlLaysM.n6 Tryz.prog Tryz.sortS_ren:={
 mixed:=by kernel_rfl
 f6:=⟨Tryz.f95.name,by decide,Tryz.func95.trans (congrArg some (by kernel_rfl))⟩
 f8:=Tryz.func112.trans (congrArg some (by kernel_rfl))
 f9:=⟨Tryz.f114.name,by decide,Tryz.func114.trans (congrArg some (by kernel_rfl))⟩
 f19:=Tryz.func131.trans (congrArg some (by kernel_rfl))
 f20:=Tryz.func132.trans (congrArg some (by kernel_rfl))
 f21:=⟨Tryz.f133.name,by decide,Tryz.func133.trans (congrArg some (by kernel_rfl))⟩
 f22:=⟨Tryz.f134.name,by decide,Tryz.func134.trans (congrArg some (by kernel_rfl))⟩
 f23:=⟨Tryz.f135.name,by decide,Tryz.func135.trans (congrArg some (by kernel_rfl))⟩
 f24:=⟨Tryz.f136.name,by decide,Tryz.func136.trans (congrArg some (by kernel_rfl))⟩
 f25:=⟨Tryz.f137.name,by decide,Tryz.func137.trans (congrArg some (by kernel_rfl))⟩
 f26:=⟨Tryz.f138.name,by decide,Tryz.func138.trans (congrArg some (by kernel_rfl))⟩
 f27:=⟨Tryz.f139.name,by decide,Tryz.func139.trans (congrArg some (by kernel_rfl))⟩
 f28:=⟨Tryz.f140.name,by decide,Tryz.func140.trans (congrArg some (by kernel_rfl))⟩
 f29:=⟨Tryz.f141.name,by decide,Tryz.func141.trans (congrArg some (by kernel_rfl))⟩
 f31:=Tryz.func145.trans (congrArg some (by kernel_rfl))
 f32:=Tryz.func146.trans (congrArg some (by kernel_rfl))
 f36:=⟨Tryz.f150.name,by decide,Tryz.func150.trans (congrArg some (by kernel_rfl))⟩
 f37:=⟨Tryz.f151.name,by decide,Tryz.func151.trans (congrArg some (by kernel_rfl))⟩
 f38:=⟨Tryz.f152.name,by decide,Tryz.func152.trans (congrArg some (by kernel_rfl))⟩
 f39:=⟨Tryz.f153.name,by decide,Tryz.func153.trans (congrArg some (by kernel_rfl))⟩
 f41:=⟨Tryz.f157.name,by decide,Tryz.func157.trans (congrArg some (by kernel_rfl))⟩
 t0:=Tryz.underlying0
 a0:=Tryz.isAgg0
 z0:=Tryz.sizeOf0
 v0:=Tryz.zeroValue0
 t3:=Tryz.underlying3
 a3:=Tryz.isAgg3
 z3:=Tryz.sizeOf3
 v3:=Tryz.zeroValue3
 t4:=Tryz.underlying4
 a4:=Tryz.isAgg4
 z4:=Tryz.sizeOf4
 v4:=Tryz.zeroValue4
 t5:=Tryz.underlying5
 a5:=Tryz.isAgg5
 z5:=Tryz.sizeOf5
 v5:=Tryz.zeroValue5
 t9:=Tryz.underlying9
 a9:=Tryz.isAgg9
 z9:=Tryz.sizeOf9
 v9:=Tryz.zeroValue9
 t26:=Tryz.underlying157
 a26:=Tryz.isAgg157
 z26:=Tryz.sizeOf157
 v26:=Tryz.zeroValue157
 t27:=Tryz.underlying157
 a27:=Tryz.isAgg157
 z27:=Tryz.sizeOf157
 v27:=Tryz.zeroValue157
 t29:=Tryz.underlying9
 a29:=Tryz.isAgg9
 z29:=Tryz.sizeOf9
 v29:=Tryz.zeroValue9
 t32:=Tryz.underlying199
 a32:=Tryz.isAgg199
 z32:=Tryz.sizeOf199
 v32:=Tryz.zeroValue199
 t35:=Tryz.underlying207
 a35:=Tryz.isAgg207
 z35:=Tryz.sizeOf207
 v35:=Tryz.zeroValue207
 t36:=Tryz.underlying208
 a36:=Tryz.isAgg208
 z36:=Tryz.sizeOf208
 v36:=Tryz.zeroValue208
 t41:=Tryz.underlying205
 a41:=Tryz.isAgg205
 z41:=Tryz.sizeOf205
 v41:=Tryz.zeroValue205
 t44:=Tryz.underlying214
 a44:=Tryz.isAgg214
 z44:=Tryz.sizeOf214
 v44:=Tryz.zeroValue214
 t46:=Tryz.underlying216
 a46:=Tryz.isAgg216
 z46:=Tryz.sizeOf216
 v46:=Tryz.zeroValue216
 t53:=Tryz.underlying224
 a53:=Tryz.isAgg224
 z53:=Tryz.sizeOf224
 v53:=Tryz.zeroValue224
 t57:=Tryz.underlying228
 a57:=Tryz.isAgg228
 z57:=Tryz.sizeOf228
 v57:=Tryz.zeroValue228
 t63:=Tryz.underlying233
 a63:=Tryz.isAgg233
 z63:=Tryz.sizeOf233
 v63:=Tryz.zeroValue233
 t64:=Tryz.underlying234
 a64:=Tryz.isAgg234
 z64:=Tryz.sizeOf234
 v64:=Tryz.zeroValue234}
end Go.Proofs
end
namespace Go.Proofs.YtbnfiigafobejaaGreat
section
open Go.RowKit Go.Maps Go.Sort Go.Shelf
theorem adp (m:Nat):AnyZ.SortsIn Tryz.prog Tryz.sortedS_ren Fence.wide m:=
 ⟨λay off cap ss W hH hblk eG=>callsIn_wide.2 (AnyM.slices_Sort_string Tryz.sortS ay off cap ss W hH hblk eG),
  λp cap W=>callsIn_wide.2 (AnyM.slices_Sort_string_none Tryz.sortS p cap W)⟩
def KJ (bk:Nat):Value:=.func (.func 96) #[] #[.pointer (some ⟨bk,0,none⟩)]
theorem YP {β:Bs} (mb:Option Nat):aX Tryz.prog β 69 #[.map mb] [] (λv l=>∃bk,v=KJ bk/\l=[.ay bk [.map mb] 145]):=
 aX.Nk λW _=>by
  have h:CallsIn Fence.wide 5 Tryz.prog 69 #[.map mb] W λe w'=>e=.returned (KJ W.heap.size)/\w'=W.alloc (.cells #[.map mb] 145):=AnyZ.keys_in Tryz.keysS Fence.wide 5 trivial rfl mb W
  refine ((callsIn_wide (n:=5)).1 h).mono ?_
  rintro e w' ⟨rfl,rfl⟩
  refine⟨_,_,rfl,⟨W.heap.size,rfl,rfl⟩,(cK.refl _ _).alloc _,λk=>k=W.heap.size,⟨?_,λk=>Iff.rfl⟩,λk hk=>Nat.le_of_eq hk.symm⟩
  show (W.heap.push _)[W.heap.size]?=_
  simp
def yq (es:ja Th):List Value:=es.map (λe=>.string e.1)
theorem QL {es:ja Th} (h:pW es):(es.map (λe=>e.1.data.toList)).Pairwise (· < ·):=by
 refine List.pairwise_map.2 (h.imp (λ{a b} ef=>?_))
 unfold jA at ef
 have h1:¬Op.bytesLess b.1.toList a.1.toList=true:=λe=>ef (by rw [e];rfl)
 have h2:¬b.1.toList=a.1.toList:=λe=>ef (by rw [e];simp)
 rw [bytesLess_eq,Lib.toList_data,Lib.toList_data] at h1
 rw [Lib.toList_data,Lib.toList_data] at h2
 grind
theorem YQ {w:World} {b n:Nat} {L:HL} {es:ja Th} {D:DataW Value} (hr:pW es) (kD:w.ownsMap Tryz.prog 9 y6 b n D) (hf:∀kl,Maps.has D kl=(nJ L es kl).isSome) {ss:List (List UInt8)} (hp:ss.Perm (strKeys D)) :
 ss.mergeSort (λx y=>decide (x<=y))=es.map (λe=>e.1.data.toList):=by
 have hsort:=QL hr
 obtain⟨es',hD,hpw,_⟩:=kD.entries Hs
 obtain⟨es2,Bt,hko⟩:=kD.keysOf
 obtain rfl:es'=es2:=by rw [hD] at Bt;simpa using Bt
 have hp2:(es.map (λe=>e.1.data.toList)).Perm (strKeys D):=by
  rw [hD]
  refine perm_strKeys hpw (λp hp=>?_) (hsort.imp (λ{a b} h e=>by subst e;exact ahh h (List.lt_irrefl a))) (λx=>?_)
  ·obtain⟨v,hv⟩:=hko p hp
   obtain⟨x,_,h,_⟩:=keyOf_str Tryz.underlying9 hv
   exact⟨x,h⟩
  rw [←hD,hf]
  show _↔((bN ⟨x.toArray⟩ es).map (iz L)).isSome=true
  rw [Option.isSome_map]
  constructor
  ·intro hx
   obtain⟨e,he,rfl⟩:=ahx.1 hx
   have h1:(⟨e.1.data.toList.toArray⟩:ByteArray)=e.1:=by rw [Array.toArray_toList]
   rw [h1,Ay (t:=e.2) (pW.pX hr) he];rfl
  intro hx
  obtain⟨t,ht⟩:=Option.isSome_iff_exists.1 hx
  exact ahx.2 ⟨_,rI ht,ahd⟩
 have h3:=mergeSort_of_perm (hp.trans hp2.symm)
 have h4:(es.map (λe=>e.1.data.toList)).mergeSort leB=es.map (λe=>e.1.data.toList):=List.mergeSort_of_pairwise (hsort.imp (λ{a b} h=>by simp only [leB,decide_eq_true_eq];exact List.le_of_lt h))
 exact h3.trans h4
theorem TH {β:Bs} (L:HL) (b bk n:Nat) (es:ja Th) (hr:pW es) (hn:n<=8192) :
 aX Tryz.prog β 68 #[KJ bk] [.abs (bD Tryz.prog 9 b (nJ L es) n),.ay bk [.map (some b)] 145] (λv l=>∃A cap,v=.slice A es.length cap ∧
  l=[.abs (bD Tryz.prog 9 b (nJ L es) n),.ay bk [.map (some b)] 145,.abs (aG 9 1 A es.length cap (yq es))]):=by
 intro R w hS
 obtain⟨F1,h1⟩:=hS.get (i:=0) (p:=.abs (bD Tryz.prog 9 b (nJ L es) n)) rfl
 obtain⟨F2,h2⟩:=hS.get (i:=1) (p:=.ay bk [.map (some b)] 145) rfl
 obtain⟨D,kD,eG,hhas,_⟩:=h1.1
 have hcell:w.cell? ⟨bk,0,none⟩=some (.map (some b)):=(lZ h2.1 rfl rfl rfl).1
 have hseq:SeqGives Fence.wide 2 Tryz.prog 96 #[.pointer (some ⟨bk,0,none⟩)] encStr (λss=>ss.Perm (strKeys D)) (Maps.size D) w:=
  AnyZ.keys_gives (ρ:=Tryz.keysS_ren) {Tryz.keysS with} Fence.wide _ trivial rfl zc bk b n D w (lt_of_some h2.1) hcell kD
 have cS:=AnyZ.sorted_in Tryz.sortedS Fence.wide 5 trivial trivial trivial trivial rfl zc (adp _) (enters_of Tryz.func95 KB rfl) 96 #[.pointer (some ⟨bk,0,none⟩)] trivial (enters_of Tryz.func96 KB rfl)
  (λss=>ss.Perm (strKeys D)) (Maps.size D) (by rw [eG];unfold maxLen;omega) (by rw [eG];omega) w hseq
 change CallsIn _ _ Tryz.prog 68 _ _ _ at cS
 refine ((callsIn_wide (n:=5)).1 cS).mono ?_
 rintro e w' ⟨v,ss,rfl,hp,hrow,hnil,hb⟩
 have hkeys:=YQ hr kD hhas hp
 have hl2:ss.length=es.length:=by
  have h3:(ss.mergeSort (λx y=>decide (x<=y))).length=ss.length:=List.length_mergeSort ss
  rw [hkeys,ahz] at h3
  exact h3.symm
 rw [hkeys,hl2] at hrow
 have Eh:∃A cap,v=.slice A es.length cap:=by
  rcases hrow.2 with ⟨e1,e2⟩|⟨g,cp,cur,e1,_⟩
  all_goals grind
 obtain⟨A,cap,rfl⟩:=Eh
 have hnv:(es.map (λe=>e.1.data.toList)).map encStr=yq es:=by
  rw [List.map_map]
  refine ahR (λe _=>?_)
  grind
 rw [hnv] at hrow
 have hq:aR β ([.abs (bD Tryz.prog 9 b (nJ L es) n),.ay bk [.map (some b)] 145,.abs R]++[.abs (aG 9 1 A es.length cap (yq es))]) w':=by
  refine aR.new (F:=λk=>(Value.slice A es.length cap).ownBlock=some k) hS ⟨?_,λk=>Iff.rfl⟩ ⟨hb.os,hb.tape,hb.output,hb.size,λk hk _=>hb.block k hk⟩ (λk hk=>(hrow.lt k hk).1)
  refine⟨hrow.1,?_⟩
  rcases hrow.2 with h|⟨g,cp,cur,e1,_,h3,h4⟩
  ·exact .inl h
  exact .inr ⟨g,cp,cur,e1,ahj _,h3,h4⟩
 exact⟨_,[.abs (bD Tryz.prog 9 b (nJ L es) n),.ay bk [.map (some b)] 145,.abs (aG 9 1 A es.length cap (yq es))],rfl,⟨A,cap,rfl,rfl⟩,hq.pick (ar:=[0,1,3,2]) rfl rfl⟩
end
section
open Go.RowKit Go.Maps bG aF
theorem zE {ns:List aO} {n:aO} {k:Nat} (h:k<ns.length):nd (ns++[n]) k=nd ns k:=by
 grind [nd]
theorem wM {ns:List aO} {n:aO}:nd (ns++[n]) ns.length=n:=by
 grind [nd]
def HX:eP:=⟨λ_=>none,λ_=>none,λ_=>0,λ_=>0⟩
def q8 (ns:List aO) (L:eP) (k:Nat):dV:=aG 149 2 (L.eA k) (nd ns k).ah.length (L.eC k) (mV (nd ns k).ah)
def lg (ns:List aO) (L:eP) (k:Nat):dV:=aG 5 1 (L.dA k) (nd ns k).data.length (L.dC k) (dL (nd ns k).data)
def afM (A:Option Addr) (c:Nat) (ns:List aO) (L:eP):HP:=.abs (aG 95 10 A ns.length c (bH L ns))
def KL (A:Option Addr) (c:Nat) (ns:List aO) (L:eP):List HP:=[afM A c ns L,.abs (iL (q8 ns L) ns.length),.abs (iL (lg ns L) ns.length)]
theorem mX.graph {β β':Bs} {A:Option Addr} {c:Nat} {ns:List aO} {L:eP} (h:mX β (KL A c ns L) β'):aQ β' A ns L:=by
 obtain⟨F,h1,h2⟩:=h.get 0 rfl
 obtain⟨G,g1,g2⟩:=h.get 1 rfl
 obtain⟨K,k1,k2⟩:=h.get 2 rfl
 exact⟨cD.gU h1 h2 rfl,
  iL.base k1 k2 rfl (Φ:=λi b=>bJ b (L.dA i) (nd ns i).data) (λi _ F hF hO=>cD.gU (show (HP.abs (aG 5 1 (L.dA i) (nd ns i).data.length (L.dC i) (dL (nd ns i).data))).h F _ from hF) hO rfl),
  iL.base g1 g2 rfl (Φ:=λi b=>cV b (L.eA i) (nd ns i).ah) (λi _ F hF hO=>cD.gU (show (HP.abs (aG 149 2 (L.eA i) (nd ns i).ah.length (L.eC i) (mV (nd ns i).ah))).h F _ from hF) hO rfl)⟩
theorem QM {L:eP} {ns:List aO} {n:aO} {dA eA:Option Addr} {dC eC:Nat}:bH L ns++[.int .i64 n.id,.int .i64 n.kind,.int .i64 n.mode,.int .i64 n.bg,.int .i64 n.bh,.int .i64 n.aU,.int .i64 n.aJ,.slice dA n.data.length dC,.string n.target,.slice eA n.ah.length eC]=bH (L.put ns.length dA dC eA eC) (ns++[n]):=by
 have h:=IZ (ns:=ns++[n]) (L:=L) (k:=ns.length) ahd dA dC eA eC
 grind [wM]
theorem LM {ns:List aO} {L:eP} {n:aO} {dA eA:Option Addr} {dC eC:Nat}:(∀x,x<ns.length->lg (ns++[n]) (L.put ns.length dA dC eA eC) x=lg ns L x)/\lg (ns++[n]) (L.put ns.length dA dC eA eC) ns.length=aG 5 1 dA n.data.length dC (dL n.data):=by
 grind [lg,eP.put,zE,wM]
theorem LO {ns:List aO} {L:eP} {n:aO} {dA eA:Option Addr} {dC eC:Nat}:(∀x,x<ns.length->q8 (ns++[n]) (L.put ns.length dA dC eA eC) x=q8 ns L x)/\q8 (ns++[n]) (L.put ns.length dA dC eA eC) ns.length=aG 149 2 eA n.ah.length eC (mV n.ah):=by
 grind [q8,eP.put,zE,wM]
def gA (O:eu) (e:ByteArray×Th):fH:=⟨e.1,(af O e.2.k).id⟩
def jS (O:eu) (id:Int) (t:Th):aO:=⟨id,t.kind,(af O t.k).mode,(af O t.k).bg,(af O t.k).bh,(af O t.k).aU,(af O t.k).aJ,(af O t.k).data,(af O t.k).target,(af O t.k).ah.map (gA O)⟩
def aY (S:bB):List aO:=S.ar.map (λp=>jS S.O p.1 p.2)
theorem ig {S:bB}:(aY S).length=S.ar.length:=ahz ..
def jr (S:bB) (i:Nat):Th:=(S.ar.getD i (0,⟨0,0⟩)).2
def gI (S:bB) (i:Nat):Int:=(S.ar.getD i (0,⟨0,0⟩)).1
section at_
variable {S:bB} {i:Nat}
theorem yt (hi:i<S.ar.length):S.ar[i]?=some (gI S i,jr S i):=by
 grind [gI,jr]
theorem get_at (h:Inv0 S) (hi:i<S.ar.length):aF.get S.ar (gI S i)=some (jr S i):=oI h.fO (ahN (yt hi))
theorem KM (h:Inv0 S) (hi:i<S.ar.length):aT S.ar (jr S i)/\gI S i=((jr S i).k:Int):=⟨h.live (get_at h hi),h.key (get_at h hi)⟩
theorem OI (hi:i<S.ar.length):(bn S.ar)[i]?=some (gI S i):=by
 grind [bn,yt]
theorem Dv (hi:i<S.ar.length):(aY S).take (i+1)=(aY S).take i++[jS S.O (gI S i) (jr S i)]:=by
 rw [ahK]
 grind [aY,yt]
theorem iM (hi:i<=S.ar.length):((aY S).take i).length=i:=by rw [ahC,ig];omega
end at_
section sat
variable {β:Bs} {l l':List HP} {w:World} {i j k:Nat} {O:eu} {L:HL} {ix:List Nat}
theorem aR.adq (h:aR β l w) (hp:l[i]?=some (.abs (aW (nU (dN O L) k dV.none)))) (hq:l[j]?=some (.abs (aG 5 1 (L.dA k) (af O k).data.length (L.dC k) (dL (af O k).data)))) (hd:cC (i::j::ix)=true) (hl:cW l ix=some l') (h2:(af O k).kind=1):aR β (.abs (aW (dN O L))::l') w:=
 h.xu hp hq (λ_ _ h=>h) hd hl k (λ_ hx=>(vm hx).symm) (Ap h2)
end sat
theorem Jt {es:List fH} {e:fH}:mV es++[.string e.name,.int .i64 e.id]=mV (es++[e]):=(Dg e es 0).symm
section grow
variable {ns G':List aO} {n:aO} {L:eP} {i dn en:Nat} {dA eA:Option Addr} {dC eC:Nat}
theorem vM (hl:ns.length=i) (hG:G'=ns++[n]) (hd:n.data.length=dn) (he:n.ah.length=en):bH L ns++[.int .i64 n.id,.int .i64 n.kind,.int .i64 n.mode,.int .i64 n.bg,.int .i64 n.bh,.int .i64 n.aU,.int .i64 n.aJ,.slice dA dn dC,.string n.target,.slice eA en eC]=bH (L.put i dA dC eA eC) G':=by
 subst hl hG hd he;exact QM
theorem Dw (hl:ns.length=i) (hG:G'=ns++[n]):∀x,x<i->lg G' (L.put i dA dC eA eC) x=lg ns L x:=by
 subst hl hG;exact LM.1
theorem BO (hl:ns.length=i) (hG:G'=ns++[n]) (hd:n.data.length=dn):lg G' (L.put i dA dC eA eC) i=aG 5 1 dA dn dC (dL n.data):=by
 subst hl hG hd;exact LM.2
theorem Dx (hl:ns.length=i) (hG:G'=ns++[n]):∀x,x<i->q8 G' (L.put i dA dC eA eC) x=q8 ns L x:=by
 subst hl hG;exact LO.1
theorem BP (hl:ns.length=i) (hG:G'=ns++[n]) (he:n.ah.length=en):q8 G' (L.put i dA dC eA eC) i=aG 149 2 eA en eC (mV n.ah):=by
 subst hl hG he;exact LO.2
end grow
section more
variable {S:bB} {i j k:Nat}
theorem ae6 (h:Inv0 S) (hi:i<S.ar.length):(∃k,jr S i=⟨k,1⟩/\aT S.ar ⟨k,1⟩)\/(∃k,jr S i=⟨k,2⟩/\aT S.ar ⟨k,2⟩)\/∃k,jr S i=⟨k,3⟩/\aT S.ar ⟨k,3⟩:=by
 have h1:=(KM h hi).1
 generalize jr S i=t at h1 ⊢
 obtain⟨k,kd⟩:=t
 rcases (h.ob _ h1).2.2 with e|e|e<;>simp only at e<;>subst e
 all_goals grind
theorem KN (h:Inv0 S) (hi:i<S.ar.length):(Lit.int .i64 (gI S i)).wf=true:=by
 have h1:=h.ar _ _ (get_at h hi)
 have h2:=h.last
 exact WalkArith.wf_i64 zc
theorem YR (hi:i<S.ar.length):(bL (bn S.ar))[i*1+0]?=some (.int .i64 (gI S i)):=by
 grind [bL,OI]
theorem OJ (h:Inv0 S) {t:Th} (hl:aT S.ar t) (hk:t.kind≠3):(af S.O t.k).target=⟨#[]⟩:=by
 rcases (h.mt t hl).target with e|e
 ·exact e.2
 exact ahh (h.kind hl ▸ e.1) hk
theorem yu (h:Inv0 S) (hi:i<S.ar.length) (qK:jr S i=⟨k,1⟩) (hl:aT S.ar ⟨k,1⟩):(aY S).take (i+1)=(aY S).take i++[⟨gI S i,1,(af S.O k).mode,(af S.O k).bg,(af S.O k).bh,(af S.O k).aU,(af S.O k).aJ,(af S.O k).data,⟨#[]⟩,[]⟩]:=by
 rw [Dv hi,qK]
 unfold jS
 rw [show (af S.O k).target=⟨#[]⟩ from OJ h hl ahd,show (af S.O k).ah=[] from (h.mt _ hl).ah (by rw [h.kind hl];simp)];rfl
theorem yw (h:Inv0 S) (hi:i<S.ar.length) (qK:jr S i=⟨k,3⟩) (hl:aT S.ar ⟨k,3⟩):(aY S).take (i+1)=(aY S).take i++[⟨gI S i,3,(af S.O k).mode,(af S.O k).bg,(af S.O k).bh,(af S.O k).aU,(af S.O k).aJ,[],(af S.O k).target,[]⟩]:=by
 rw [Dv hi,qK]
 unfold jS
 rw [show (af S.O k).data=[] from (h.mt _ hl).data (by rw [h.kind hl];simp),show (af S.O k).ah=[] from (h.mt _ hl).ah (by rw [h.kind hl];simp)];rfl
theorem AJ (h:Inv0 S) (hi:i<S.ar.length) (qK:jr S i=⟨k,2⟩) (hl:aT S.ar ⟨k,2⟩):(aY S).take (i+1)=(aY S).take i++[⟨gI S i,2,(af S.O k).mode,(af S.O k).bg,(af S.O k).bh,(af S.O k).aU,(af S.O k).aJ,[],⟨#[]⟩,(af S.O k).ah.map (gA S.O)⟩]:=by
 rw [Dv hi,qK]
 unfold jS
 rw [show (af S.O k).target=⟨#[]⟩ from OJ h hl ahd,show (af S.O k).data=[] from (h.mt _ hl).data (by rw [h.kind hl];simp)]
def nX (es:ja Th) (j:Nat):ByteArray:=(es.getD j (⟨#[]⟩,⟨0,0⟩)).1
def tY (es:ja Th) (j:Nat):Th:=(es.getD j (⟨#[]⟩,⟨0,0⟩)).2
theorem Dy {es:ja Th} (hj:j<es.length):es[j]?=some (nX es j,tY es j):=by
 grind [nX,tY]
theorem TJ {es:ja Th} (hj:j<es.length):(yq es)[j*1+0]?=some (.string (nX es j)):=by
 grind [yq,Dy]
theorem afN (h:Inv0 S) {t:Th} (hl:aT S.ar t) (hj:j<(af S.O t.k).ah.length):cA (nX (af S.O t.k).ah j)/\((∃k,bN (nX (af S.O t.k).ah j) (af S.O t.k).ah=some ⟨k,1⟩/\aT S.ar ⟨k,1⟩/\tY (af S.O t.k).ah j=⟨k,1⟩)\/(∃k,bN (nX (af S.O t.k).ah j) (af S.O t.k).ah=some ⟨k,2⟩/\aT S.ar ⟨k,2⟩/\tY (af S.O t.k).ah j=⟨k,2⟩)\/∃k,bN (nX (af S.O t.k).ah j) (af S.O t.k).ah=some ⟨k,3⟩/\aT S.ar ⟨k,3⟩/\tY (af S.O t.k).ah j=⟨k,3⟩):=by
 have hm:=ahN (Dy hj)
 have h1:=h.ah t hl _ hm
 have h2:=Ay (h.pX hl) hm
 refine⟨h1.1,?_⟩
 have h3:=h1.2
 generalize tY (af S.O t.k).ah j=u at h2 h3 ⊢
 obtain⟨k,kd⟩:=u
 rcases (h.ob _ h3).2.2 with e|e|e<;>simp only at e<;>subst e
 all_goals grind
theorem ER {O:eu} {es:ja Th} {kd:Int} (hj:j<es.length) (he:tY es j=⟨k,kd⟩):mV ((es.take j).map (gA O))++[.string (nX es j),.int .i64 (af O k).id]=mV ((es.take (j+1)).map (gA O)):=by
 rw [ahK,Dy hj,he,ahP]
 exact Jt (es:=(es.take j).map (gA O)) (e:=⟨nX es j,(af O k).id⟩)
end more
theorem mX.bytes {β β':Bs} {A:Option Addr} {n c:Nat} {d:List UInt8} (h:mX β [.abs (aG 5 1 A n c (dL d))] β'):bJ β' A d:=by
 obtain⟨F,h1,h2⟩:=h.get 0 rfl
 exact cD.gU h1 h2 rfl
end
section
open Go.RowKit Go.Maps
structure KO (ns:List aO) (i j:Nat):Prop where
 lti:i<ns.length
 LP:j<(nd ns i).ah.length
 dir:(nd ns (cq ns (bU ns i j).id)).kind=2
section
variable {ns:List aO}
theorem AK {i m:Nat} {p:Nat×Nat}:p∈iu ns i m↔∃j,j<m/\(nd ns (cq ns (bU ns i j).id)).kind=2/\p=(cq ns (bU ns i j).id,i):=by
 induction m with
 |zero=>simp [iu]
 |succ m ih=>
   grind [nd,cq,bU,qD,rH]
theorem Dz {m:Nat} {p:Nat×Nat}:p∈jo ns m↔∃i j,i<m/\j<(nd ns i).ah.length/\(nd ns (cq ns (bU ns i j).id)).kind=2/\p=(cq ns (bU ns i j).id,i):=by
 induction m with
 |zero=>simp [jo]
 |succ m ih=>
   grind [jo,AK]
theorem KO.mem {i j:Nat} (h:KO ns i j):(cq ns (bU ns i j).id,i)∈jo ns ns.length:=Dz.2 ⟨i,j,h.lti,h.LP,h.dir,rfl⟩
def aaT (ns:List aO) (m:Nat):Prop:=∀i j i' j',KO ns i j->KO ns i' j'->i<m->i'<m->cq ns (bU ns i j).id=cq ns (bU ns i' j').id->i=i'/\j=j'
theorem VP {i m:Nat} (h:((iu ns i m).map Prod.fst).Nodup):∀j j',j<m->j'<m->(nd ns (cq ns (bU ns i j).id)).kind=2->(nd ns (cq ns (bU ns i j').id)).kind=2->cq ns (bU ns i j).id=cq ns (bU ns i j').id->j=j':=by
 induction m with
 |zero=>intro j j' hj;omega
 |succ m ih=>
   intro j j' hj hj' hk iB e
   by_cases hm:(nd ns (cq ns (bU ns i m).id)).kind=2
   ·rw [qD hm,ahM,aij] at h
    rcases ahn.1 hj with e1|e1
    ·rcases ahn.1 hj' with e2|e2
     ·exact ih h.2 j j' e1 e2 hk iB e
     subst e2;exact ahh (ahx.2 ⟨_,AK.2 ⟨j,e1,hk,rfl⟩,e⟩) h.1
    rcases ahn.1 hj' with e2|e2
    ·subst e1;exact ahh (ahx.2 ⟨_,AK.2 ⟨j',e2,iB,rfl⟩,e.symm⟩) h.1
    omega
   grind [rH]
theorem VQ {m:Nat} (h:((jo ns m).map Prod.fst).Nodup):aaT ns m:=by
 induction m with
 |zero=>intro i j i' j' _ _ hi;omega
 |succ m ih=>
   rw [jo,ahP] at h
   obtain⟨h1,h2,h3⟩:=List.nodup_append.1 h
   intro i j i' j' g g' hi hi' e
   rcases ahn.1 hi with e1|e1
   ·rcases ahn.1 hi' with e2|e2
    ·exact ih h2 i j i' j' g g' e1 e2 e
    subst e2
    exact ahh e.symm (h3 _ (ahx.2 ⟨_,AK.2 ⟨j',g'.LP,g'.dir,rfl⟩,rfl⟩) _ (ahx.2 ⟨_,Dz.2 ⟨i,j,e1,g.LP,g.dir,rfl⟩,rfl⟩))
   rcases ahn.1 hi' with e2|e2
   ·subst e1
    exact ahh e (h3 _ (ahx.2 ⟨_,AK.2 ⟨j,g.LP,g.dir,rfl⟩,rfl⟩) _ (ahx.2 ⟨_,Dz.2 ⟨i',j',e2,g'.LP,g'.dir,rfl⟩,rfl⟩))
   subst e1;subst e2
   exact⟨rfl,VP h1 j j' g.LP g'.LP g.dir g'.dir e⟩
def KP (ns:List aO) (d:Nat->Nat):Prop:=∀i j,KO ns i j->d i<d (cq ns (bU ns i j).id)
theorem cG.uniq (h:cG ns):aaT ns ns.length:=VQ h.nodup
theorem cG.deep (h:cG ns):∃d,KP ns d:=by
 refine⟨λk=>Classical.choose (h.ends (nd ns k).id),λi j g=>?_⟩
 have hp:=AF (ns:=ns) (aho _) h.ah
 have hat:=(h.ah i g.lti j g.LP).at_
 have htl:=mW hat
 have e1:=Classical.choose_spec (h.ends (nd ns i).id)
 have e2:=Classical.choose_spec (h.ends (nd ns (cq ns (bU ns i j).id)).id)
 show Classical.choose (h.ends (nd ns i).id)<Classical.choose (h.ends (nd ns (cq ns (bU ns i j).id)).id)
 generalize Classical.choose (h.ends (nd ns i).id)=x at e1 ⊢
 generalize Classical.choose (h.ends (nd ns (cq ns (bU ns i j).id)).id)=y at e2 ⊢
 cases hu:up ((jo ns ns.length).map (lu ns)) (nd ns (cq ns (bU ns i j).id)).id with
 |none=>
   have:=Rs hu
   exact ahh (ahx.2 ⟨_,g.mem,rfl⟩) this
 |some z=>
   obtain⟨_,p,g1,g2,g3⟩:=Rt h.fO htl.1 (λp dK=>(hp p dK).1) hu
   obtain⟨a,b,ha,hb,hk,rfl⟩:=Dz.1 g1
   have g2:cq ns (bU ns a b).id=cq ns (bU ns i j).id:=g2
   obtain⟨rfl,rfl⟩:=h.uniq a b i j ⟨ha,hb,hk⟩ g ha g.lti g2
   have g3:z=(nd ns a).id:=g3
   cases y with
   |zero=>
     have e2:up _ _=none:=e2
     rw [hu] at e2;cases e2
   |succ y=>
     obtain⟨z',h1,h2⟩:=e2
     rw [hu] at h1
     cases h1
     rw [g3] at h2
     have:=e1.uniq h2
     show x<y+1
     omega
end
end
section
open Go.RowKit Go.Maps bG aF
structure kJ (X:FM):Prop where
 cN:0<=X.cN/\X.cN<=4096
 cB:0<=X.cB/\X.cB<=1099511627776
 cH:0<=X.cH/\X.cH<=1024
 now:gj X.cS X.cZ
def jX (n:aO):Nat:=n.id.toNat
def vr (n:aO):Th:=⟨jX n,n.kind⟩
def wk (n:aO):bM:=⟨n.id,n.mode,n.bg,n.bh,n.aU,n.aJ,0,0,false,n.kind,n.data,n.target,[],none⟩
def M8:bM:=⟨0,0,0,0,0,0,0,0,false,0,[],⟨#[]⟩,[],none⟩
def BQ (X:FM):bB:=⟨{X with last:=0,ah:=0,used:=0},λ_=>M8,[],[],0⟩
def fY (S:bB) (n:aO):bB:={S with X:={S.X with last:=n.id,used:=S.X.used+n.data.length},O:=aZ S.O (jX n) (λ_=>wk n),ar:=ins n.id (vr n) S.ar}
def qL (ns:List aO) (e:fH):Th:=vr (nd ns (cq ns e.id))
def rX (ns:List aO) (S:bB) (n:aO) (e:fH):bB:={S with X:={S.X with ah:=S.X.ah+1},O:=uI S.O (jX n) e.name (qL ns e)}
def fW (ns:List aO):Nat->Nat
 |0=>0
 |k+1=>fW ns k+(nd ns k).data.length
def HY (ns:List aO):bF Th:=ns.map (λn=>(n.id,vr n))
structure xB (X:FM) (ns:List aO) (k:Nat) (S:bB):Prop where
 inv:Inv0 S
 ar:S.ar=HY (ns.take k)
 us:S.us=[]
 aI:S.aI=0
 cap:S.X={X with last:=q6 ns k,ah:=0,used:=(fW ns k:Int)}
 ob:∀a,a<k->af S.O (jX (nd ns a))=wk (nd ns a)
 free:∀x,(∀a,a<k->x≠jX (nd ns a))->af S.O x=M8
section base
variable {X:FM} {ns:List aO} {i j k a b:Nat} {S:bB}
theorem Ju (h:cG ns) (hk:k<ns.length):(jX (nd ns k):Int)=(nd ns k).id:=by
 have:=h.ids k hk
 unfold jX;omega
theorem zF (h:cG ns) (ha:a<ns.length) (hb:b<ns.length) (e:jX (nd ns a)=jX (nd ns b)):a=b:=
 h.fO.inj ha hb (by grind [Ju])
theorem ES (hk:k<ns.length):ns[k]?=some (nd ns k):=getD_some hk
theorem ab6 (hk:k<ns.length):ns.take (k+1)=ns.take k++[nd ns k]:=by
 rw [ahK,ES hk];rfl
theorem VR (hX:kJ X):xB X ns 0 (BQ X):=by
 refine⟨?_,rfl,rfl,rfl,rfl,λa h=>ahh h (ahm a),λ_ _=>rfl⟩
 have hn:∀t,¬aT ([]:bF Th) t:=λt h=>by cases h
 exact⟨hX.cN,hX.cB,hX.cH,hX.now,by show (0:Int)<=0/\(0:Int)<=_;omega,.nil,ahj _,λ_ _ e=>(by cases e),λt h=>ahh h (hn t),λt h=>ahh h (hn t),λt h=>ahh h (hn t),λt h=>ahh h (hn t),
  λ_ _=>⟨rfl,rfl⟩,λ_ _=>rfl,⟨rfl,by show (0:Int)<=8192;omega⟩,λt h=>ahh h (hn t),λt h=>ahh h (hn t),λt h=>ahh h (hn t),.nil,λx hx=>(by cases hx),(by show ((0:Nat):Int)<=X.cH;have:=hX.cH;omega),⟨Int.le_refl _,hX.cH.1⟩,λ_ _ e=>(by cases e),λt h=>ahh h (hn t),λt h=>ahh h (hn t),⟨λ_=>0,λk d e=>(by cases e)⟩,⟨rfl,by show (0:Int)<=_;omega⟩⟩
theorem RR (h:cG ns) (hk:k<ns.length):∀x∈bn (HY (ns.take k)),x<(nd ns k).id:=by
 intro x hx
 obtain⟨p,hp,rfl⟩:=ahx.1 hx
 obtain⟨n,hn,rfl⟩:=ahx.1 hp
 obtain⟨a,ha,e⟩:=ahT.1 hn
 rw [ahC] at ha
 rw [List.getElem_take] at e
 have e2:nd ns a=n:=by
  grind [ES,bn,HY,nd]
 rw [←e2]
 exact h.fO a k zc hk
theorem LQ (hd:∀i,i<ns.length->(nd ns i).data.length<=1048576) (hk:k<=ns.length):fW ns k<=1048576*k:=by
 induction k with
 |zero=>exact aho _
 |succ k ih=>
   grind [fW,nd]
theorem ET (h:cG ns) (hd:∀i,i<ns.length->(nd ns i).data.length<=1048576) (hk:k<ns.length) (hB:xB X ns k S):xB X ns (k+1) (fY S (nd ns k)):=by
 have hs:=LQ hd (aiq hk)
 have hn:=h.node k hk
 have hid:=Ju h hk
 have yM:=h.ids k hk
 have hu:S.X.used=(fW ns k:Int):=by rw [hB.cap]
 have hl:S.X.last=q6 ns k:=by rw [hB.cap]
 have jy:=h.len
 have hdk:=hd k hk
 have agI:S.ar.length=k:=by
  rw [hB.ar];unfold HY;rw [ahz,ahC];omega
 have h1:=hB.inv.newAt (k0:=jX (nd ns k)) (o:=wk (nd ns k)) (sS:=S.X.used+(nd ns k).data.length) (us':=S.us) (lH:=S.aI) (by rw [hid,hl];exact h.last hk) (by rw [hid];exact yM.2) ⟨rfl,by rw [hu];omega⟩ hid.symm
  (by have:=hn.kind;show (nd ns k).kind=1\/(nd ns k).kind=2\/(nd ns k).kind=3;omega) rfl rfl rfl rfl
  ⟨hn.mode,hn.bg,hn.bh,hn.time,λe=>ahV (hn.data e),λ_=>rfl,hn.target⟩ zc
  hB.inv.usr hB.inv.xX hB.inv.Gx hB.inv.aI (λh t e=>⟨.inl (hB.inv.us h t e).1,(hB.inv.us h t e).2⟩) (λ_ _=>rfl) (by rw [hB.us];rfl)
 rw [hid] at h1
 refine⟨h1,?_,hB.us,hB.aI,?_,λa ha=>?_,λx hx=>(show af (aZ S.O (jX (nd ns k)) λ_=>wk (nd ns k)) x=M8 from (jb (hx k (ahI k))).trans (hB.free x λa ha=>hx a (Nat.lt_succ_of_lt ha)))⟩
 ·show ins (nd ns k).id (vr (nd ns k)) S.ar=_
  rw [hB.ar,N9 (RR h hk),ab6 hk]
  unfold HY;rw [ahP];rfl
 ·show ({S.X with last:=(nd ns k).id,used:=S.X.used+((nd ns k).data.length:Int)}:FM)=_
  rw [hu,hB.cap]
  show (⟨_,_,_,_,_,_,_,_⟩:FM)=⟨_,_,_,_,_,_,_,_⟩
  congr 1
 show af (aZ S.O (jX (nd ns k)) (λ_=>wk (nd ns k))) (jX (nd ns a))=_
 rcases ahn.1 ha with e|e
 ·rw [jb (λe2=>by grind [zF])]
  exact hB.ob a e
 subst e;exact fB
theorem xB.fresh (h:cG ns) (hk:k<ns.length) (hB:xB X ns k S):Bz S.O S.ar S.us (jX (nd ns k)):=hB.inv.KD (by rw [Ju h hk,hB.cap];exact h.last hk)
theorem xB.new (h:cG ns) (hk:k<ns.length) (hB:xB X ns k S):aF.get S.ar (nd ns k).id=none:=get_none.2 (λhm=>by
 rw [hB.ar] at hm
 exact ahh (RR h hk _ hm) zc)
theorem HZ (X:FM) (L:HL):(∀k,d8 (BQ X).O L k=dV.none)/\(∀k,dN (BQ X).O L k=dV.none)/\∀k,fM (BQ X).O L k=dV.none:=⟨λ_=>ahf rfl,λ_=>ahe (by show ¬(0:Int)=1;omega),λ_=>ahe (by show ¬(0:Int)=2;omega)⟩
theorem aR.ae7 {β:Bs} {l l':List HP} {w:World} {i j b m c:Nat} {ix:List Nat} {O:eu} {L L':HL} {A:Option Addr} {o:bM} (h:aR β l w) (hL:L'=L.put k b m A c) (hp:l[i]?=some (.abs (aW (dN O L)))) (hq:l[j]?=some (.abs (aG 5 1 A o.data.length c (dL o.data)))) (hd:cC (i::j::ix)=true) (hl:cW l ix=some l') (h1:o.kind=1):aR β (.abs (aW (dN (aZ O k (λ_=>o)) L'))::l') w:=by
 refine h.xu hp hq (λ_ _ h=>h) hd hl k (λx hx=>by rw [EC hx,FW hL hx]) ?_
 grind [Ap,fB,HL.put]
end base
theorem ab7 {O:eu} {L:HL} {d:Nat} {name:ByteArray} {t:Th}:dN (uI O d name t) L=dN O L:=
 AA (λ_=>Hu (g:=bM.data) (λ_ _=>rfl) (λ_ _=>rfl) (λ_ _=>rfl)) (λ_=>EF)
def vN (ns:List aO) (i j a:Nat):Nat:=if a<i then (nd ns a).ah.length else if a=i then j else 0
def uN (ns:List aO) (a m:Nat):ja Th:=((nd ns a).ah.take m).map (λe=>(e.name,qL ns e))
structure kP (X:FM) (ns:List aO) (i j:Nat) (S:bB):Prop where
 inv:Inv0 S
 ar:S.ar=HY ns
 us:S.us=[]
 aI:S.aI=0
 cap:S.X={X with last:=q6 ns ns.length,ah:=((dM ns i+j:Nat):Int),used:=(fW ns ns.length:Int)}
 ob:∀a,a<ns.length->∃l u,af S.O (jX (nd ns a))={wk (nd ns a) with aV:=l,ah:=uN ns a (vN ns i j a),up:=u}
 free:∀x,(∀a,a<ns.length->x≠jX (nd ns a))->af S.O x=M8
section ah
variable {X:FM} {ns:List aO} {i j k a b m:Nat} {S:bB} {t:Th}
theorem xB.ah (h:xB X ns ns.length S):kP X ns 0 0 S:=by
 refine⟨h.inv,by rw [h.ar,ahZ (aho _)],h.us,h.aI,h.cap,λa ha=>⟨0,none,?_⟩,h.free⟩
 rw [h.ob a ha]
 have:vN ns 0 0 a=0:=by
  grind [vN]
 rw [this];rfl
theorem kP.get (h:kP X ns i j S) (ha:a<ns.length):aF.get S.ar (nd ns a).id=some (vr (nd ns a)):=by
 refine oI h.inv.fO ?_
 rw [h.ar]
 exact ahx.2 ⟨nd ns a,ahN (ES ha),rfl⟩
theorem kP.live (hG:cG ns) (h:kP X ns i j S) (ha:a<ns.length):aT S.ar (vr (nd ns a)):=by
 have:=h.get ha
 rw [←Ju hG ha] at this
 exact this
theorem kP.of (h:kP X ns i j S) {x:Int} (e:aF.get S.ar x=some t):∃a,a<ns.length/\t=vr (nd ns a):=by
 have hm:=get_mem e
 rw [h.ar] at hm
 obtain⟨n,hn,e2⟩:=ahx.1 hm
 obtain⟨a,ha,e3⟩:=ahT.1 hn
 have e4:nd ns a=n:=by
  grind [ES,vr,nd]
 cases e2
 exact⟨a,ha,by rw [e4]⟩
theorem OL {es:List fH} {q:Nat} (hq:q<es.length):es[q]?=some (en es q):=getD_some hq
theorem DA {e:ByteArray×Th} (h:e∈uN ns a m):∃q,q<m/\q<(nd ns a).ah.length/\e.1=(bU ns a q).name/\e.2=qL ns (bU ns a q):=by
 obtain⟨x,hx,rfl⟩:=ahx.1 h
 obtain⟨q,hq,e⟩:=ahT.1 hx
 rw [ahC] at hq
 rw [List.getElem_take] at e
 have e2:bU ns a q=x:=by
  have:=OL (es:=(nd ns a).ah) (q:=q) zc
  grind [uN,nd,bU,qL]
 grind
theorem VS (hj:j<(nd ns i).ah.length):uN ns i (j+1)=uN ns i j++[((bU ns i j).name,qL ns (bU ns i j))]:=by
 unfold uN
 rw [ahK,OL hj,ahP];rfl
theorem KQ (hG:cG ns) (hi:i<ns.length) {q:Nat}:∀{j},q<j->j<(nd ns i).ah.length->vD (bU ns i q).name (bU ns i j).name<0
 |0,h,_=>ahh h (ahm q)
 |j+1,h,hj=>by
   have h1:=Je.1 (hG.ah i hi (j+1) hj).ord
   have h1:vD (bU ns i j).name (bU ns i (j+1)).name<0:=h1
   rcases ahn.1 h with e|e
   ·exact IV (KQ hG hi e zc) (Int.le_of_lt h1)
   rw [e];exact h1
theorem YS (hG:cG ns) (hi:i<ns.length) (hj:j<(nd ns i).ah.length):bN (bU ns i j).name (uN ns i j)=none:=by
 refine Dl.2 (λe he e1=>?_)
 obtain⟨q,h1,h2,h3,_⟩:=DA he
 have:=KQ hG hi h1 hj
 grind [Ln,bU]
theorem LR {n:ByteArray}:∀{es:ja Th},(∀e∈es,vD e.1 n<0)->kO n t es=es++[(n,t)]
 |[],_=>rfl
 |e::r,h=>by
   have h1:=h e (ahr ..)
   unfold kO
   rw [ahe (λhc=>by grind [Je,Ej]),LR (λx hx=>h x (ahq _ hx))];rfl
theorem YT (hG:cG ns) (hi:i<ns.length) (hj:j<(nd ns i).ah.length):kO (bU ns i j).name (qL ns (bU ns i j)) (uN ns i j)=uN ns i (j+1):=by
 grind [VS,LR,DA,KQ]
theorem AL (hG:cG ns) (hi:i<ns.length) (hj:j<(nd ns i).ah.length):cq ns (bU ns i j).id<ns.length/\(nd ns (cq ns (bU ns i j).id)).id=(bU ns i j).id:=by
 have:=mW (hG.ah i hi j hj).at_
 exact⟨this.1,this.2.1⟩
theorem KR {O:eu} {d x:Nat} {name:ByteArray} (h:t.k≠d):af (uI O d name t) x=if x=d then {af O d with ah:=kO name t (af O d).ah} else if x=t.k then {af O x with aV:=(af O x).aV+1,up:=if t.kind=2 then some d else (af O x).up} else af O x:=by
 grind [aZ,kO,af,up,ko,uI]
theorem kP.afO (hG:cG ns) (h:kP X ns i j S) {d:Nat} (hd:aT S.ar ⟨d,2⟩) {n:ByteArray} (ha:a<ns.length) (hk:(nd ns a).kind=2) (hl:bN n (af S.O d).ah=some (vr (nd ns a))):∃b q,b<ns.length/\d=jX (nd ns b)/\KO ns b q/\cq ns (bU ns b q).id=a:=by
 obtain⟨b,hb,e⟩:=h.of hd
 have e:(⟨d,2⟩:Th)=⟨jX (nd ns b),(nd ns b).kind⟩:=e
 have e1:d=jX (nd ns b):=ahg Th.k e
 subst e1
 obtain⟨l,u,ho⟩:=h.ob b hb
 have hm:=rI hl
 rw [ho] at hm
 obtain⟨q,h1,h2,_,h4⟩:=DA hm
 have ht:=AL hG hb h2
 have h5:jX (nd ns a)=jX (nd ns (cq ns (bU ns b q).id)):=ahg Th.k h4
 have h6:=zF hG ha ht.1 h5
 exact⟨b,q,hb,rfl,⟨hb,h2,by rw [←h6];exact hk⟩,h6.symm⟩
theorem kP.below (hG:cG ns) (h:kP X ns i j S) {dp:Nat->Nat} (hdp:KP ns dp) {s k:Nat} (hb:sD S.O s k):∀{a b},a<ns.length->k=jX (nd ns a)->b<ns.length->s=jX (nd ns b)->dp b<=dp a:=by
 induction hb with
 |here=>
   grind [zF]
 |up hup _ ih=>
   intro a b ha e1 hb e2
   subst e1
   have ck:=h.live hG ha
   obtain⟨h1,h2,n,h3⟩:=(h.inv.up _ ck _).1 hup
   obtain⟨c,q,hc,e3,hD,e4⟩:=h.afO hG h2 ha h1 h3
   grind [KP,jX,nd]
theorem kP.aV (hG:cG ns) (h:kP X ns i j S) (hi:i<ns.length) (hj:j<(nd ns i).ah.length) (hk:(qL ns (bU ns i j)).kind=2):(af S.O (qL ns (bU ns i j)).k).aV=0:=by
 have ht:=AL hG hi hj
 have ck:aT S.ar (qL ns (bU ns i j)):=h.live hG ht.1
 rw [h.inv.aV _ ck]
 cases hz:nG S.ar S.O (qL ns (bU ns i j)).k with
 |zero=>rfl
 |succ z=>
   exfalso
   obtain⟨x,u,hu,e,he,e1⟩:=Ja h.inv.fO (show 0<nG S.ar S.O (qL ns (bU ns i j)).k by omega)
   obtain⟨b,hb,rfl⟩:=h.of hu
   obtain⟨l,u,ho⟩:=h.ob b hb
   have he:e∈(af S.O (jX (nd ns b))).ah:=he
   rw [ho] at he
   obtain⟨q,h1,h2,_,h4⟩:=DA he
   have ht2:=AL hG hb h2
   have h5:jX (nd ns (cq ns (bU ns b q).id))=jX (nd ns (cq ns (bU ns i j).id)):=by
    rw [h4] at e1;exact e1
   have h6:=zF hG ht2.1 ht.1 h5
   obtain⟨rfl,rfl⟩:=hG.uniq b q i j ⟨hb,h2,by rw [h6];exact hk⟩ ⟨hi,hj,hk⟩ hb hi h6
   grind [vN]
theorem kP.look (hG:cG ns) (h:kP X ns i j S) (hi:i<ns.length) (hj:j<(nd ns i).ah.length):(af S.O (jX (nd ns i))).ah=uN ns i j/\bN (bU ns i j).name (af S.O (jX (nd ns i))).ah=none/\(nd ns i).kind=2:=by
 obtain⟨l,u,ho⟩:=h.ob i hi
 have e1:(af S.O (jX (nd ns i))).ah=uN ns i j:=by
  grind [uN,vN]
 refine⟨e1,by rw [e1];exact YS hG hi hj,?_⟩
 cases Decidable.em ((nd ns i).kind=2) with
 |inl h=>exact h
 |inr h=>have:=(hG.node i hi).ah h;omega
theorem kP.aH (h:kP X ns i j S) (ha:a<ns.length):(af S.O (jX (nd ns a))).aH=false:=by
 obtain⟨l,u,ho⟩:=h.ob a ha
 rw [ho];rfl
theorem kP.ne (hG:cG ns) (hi:i<ns.length) (hj:j<(nd ns i).ah.length) (hk:(nd ns i).kind=2):(qL ns (bU ns i j)).k≠jX (nd ns i):=λe=>by
 have ht:=AL hG hi hj
 have h1:=zF hG ht.1 hi e
 obtain⟨dp,hdp⟩:=hG.deep
 have:=hdp i j ⟨hi,hj,by rw [h1];exact hk⟩
 rw [h1] at this
 exact ah9 _ this
theorem kP.step (hG:cG ns) (h:kP X ns i j S) (hi:i<ns.length) (hj:j<(nd ns i).ah.length):kP X ns i (j+1) (rX ns S (nd ns i) (bU ns i j)):=by
 obtain⟨l1,l2,l3⟩:=h.look hG hi hj
 have ht:=AL hG hi hj
 have bV:=kP.ne hG hi hj l3
 have hld:aT S.ar ⟨jX (nd ns i),2⟩:=by
  have:=h.live hG hi
  unfold vr at this
  rw [l3] at this
  exact this
 have fV:aT S.ar (qL ns (bU ns i j)):=h.live hG ht.1
 have hX:S.X.ah=((dM ns i+j:Nat):Int):=by rw [h.cap]
 have hsum:dM ns i+j<8192:=by
  have h1:dM ns (i+1)<=dM ns ns.length:=qG hi
  have h2:dM ns (i+1)=dM ns i+(nd ns i).ah.length:=rfl
  have h3:=hG.sum
  omega
 have h1:=h.inv.put (O':=uI S.O (jX (nd ns i)) (bU ns i j).name (qL ns (bU ns i j))) (ta:=(af S.O (jX (nd ns i))).aU) (tb:=(af S.O (jX (nd ns i))).aJ) hld (h.aH hi) l2 (hG.ah i hi j hj).good fV (h.aH ht.1) (λhk=>⟨h.aV hG hi hj hk,λhb=>by
  obtain⟨dp,hdp⟩:=hG.deep
  have h2:=h.below hG hdp hb hi rfl ht.1 rfl
  have h3:=hdp i j ⟨hi,hj,hk⟩
  omega⟩) bV (by rw [hX];omega) (h.inv.mt _ hld).time (λx=>KR bV)
 refine⟨h1,h.ar,h.us,h.aI,?_,λa ha=>?_,λx hx=>(KR bV).trans (by rw [ahe (hx i hi),ahe (show ¬x=(qL ns (bU ns i j)).k from hx _ ht.1)];exact h.free x hx)⟩
 ·show ({S.X with ah:=S.X.ah+1}:FM)=_
  rw [hX,h.cap]
  show (⟨_,_,_,_,_,_,_,_⟩:FM)=⟨_,_,_,_,_,_,_,_⟩
  congr 1
 obtain⟨l,u,ho⟩:=h.ob a ha
 show ∃l u,af (uI S.O (jX (nd ns i)) (bU ns i j).name (qL ns (bU ns i j))) (jX (nd ns a))=_
 rw [KR bV]
 by_cases e:a=i
 ·subst e
  refine⟨l,u,?_⟩
  rw [ahf rfl,l1,YT hG hi hj,ho]
  have hc:vN ns a (j+1) a=j+1:=by grind [vN]
  rw [hc]
 have hc:vN ns i (j+1) a=vN ns i j a:=by
  unfold vN;rw [ahe e,ahe e]
 rw [ahe (λe2=>e (zF hG ha hi e2)),hc]
 split
 ·rw [ho];exact⟨_,_,rfl⟩
 exact⟨l,u,ho⟩
theorem kP.next (h:kP X ns i (nd ns i).ah.length S):kP X ns (i+1) 0 S:=by
 refine⟨h.inv,h.ar,h.us,h.aI,h.cap,λa ha=>?_,h.free⟩
 obtain⟨l,u,ho⟩:=h.ob a ha
 grind [vN,nd]
theorem kP.full (h:kP X ns i j S):bT S:=by
 refine⟨h.inv,λt ht hg=>?_⟩
 obtain⟨a,ha,rfl⟩:=h.of ht
 have:(af S.O (jX (nd ns a))).aH=true:=hg
 rw [h.aH ha] at this
 cases this
theorem kP.graph (hG:cG ns) (h:kP X ns ns.length 0 S):aY S=ns:=by
 unfold aY
 rw [h.ar]
 unfold HY
 rw [List.map_map]
 refine List.ext_getElem? (λa=>?_)
 rw [List.getElem?_map]
 by_cases ha:a<ns.length
 ·rw [ES ha]
  refine ahg some ?_
  show jS S.O (nd ns a).id ⟨jX (nd ns a),(nd ns a).kind⟩=nd ns a
  unfold jS
  obtain⟨l,u,ho⟩:=h.ob a ha
  rw [ho]
  have he:(uN ns a (vN ns ns.length 0 a)).map (gA S.O)=(nd ns a).ah:=by
   unfold vN
   rw [ahf ha]
   unfold uN
   rw [ahZ (aho _),List.map_map]
   refine List.ext_getElem? (λq=>?_)
   rw [List.getElem?_map]
   by_cases hq:q<(nd ns a).ah.length
   ·rw [OL hq]
    refine ahg some ?_
    have ht:=AL hG ha hq
    obtain⟨l,u,ho⟩:=h.ob _ ht.1
    have e1:(af S.O (qL ns (en (nd ns a).ah q)).k).id=(en (nd ns a).ah q).id:=by
     show (af S.O (jX (nd ns (cq ns (bU ns a q).id)))).id=(bU ns a q).id
     rw [ho];exact ht.2
    show (⟨(en (nd ns a).ah q).name,(af S.O (qL ns (en (nd ns a).ah q)).k).id⟩:fH)=_
    rw [e1]
   rw [aif zc];rfl
  show (⟨_,_,_,_,_,_,_,_,_,List.map (gA S.O) (uN ns a (vN ns ns.length 0 a))⟩:aO)=_
  rw [he]
  rfl
 rw [aif zc];rfl
end ah
end
section
open Go.RowKit bG aF Go.Maps
theorem VT {l:List Int} {j:Nat} (h:j<l.length):(bL l)[j]?=some (.int .i64 (l.getD j 0)):=by
 simp [bL,List.getD_eq_getElem?_getD,h]
theorem Jv {ks:List Int} (h:aF.dH ks) {i j:Nat} (hij:i<j) (hj:j<ks.length):ks.getD i 0<ks.getD j 0:=by
 have:=aib.1 h i j zc hj hij
 grind
theorem BR {ks:List Int} {j:Nat} (h:j<ks.length):ks.getD j 0∈ks:=by
 grind
theorem lT.get {β:Bs} {A:Option Addr} {l:List Int} (h:cD β A (bL l)) {j:Nat} (hj:j<l.length):A=some ⟨br A,bq A,none⟩/\Rd β ⟨br A,bq A+j*1,none⟩ (.int .i64 (l.getD j 0)):=by
 have:=h j _ (VT hj)
 rw [Nat.mul_one];exact this
theorem lT.hd {β:Bs} {A:Option Addr} {l:List Int} (h:cD β A (bL l)) {j:Nat} (hj:j<l.length):A=some ⟨br A,bq A,none⟩:=(lT.get h hj).1
theorem lT.rd {β:Bs} {A:Option Addr} {l:List Int} (h:cD β A (bL l)) {j:Nat} (hj:j<l.length):Rd β ⟨br A,bq A+j*1,none⟩ (.int .i64 (l.getD j 0)):=(lT.get h hj).2
def iZ (us:bF Int):List Int:=us.map (·.2)
theorem mM (us:bF Int):(iZ us).length=us.length:=by simp [iZ]
theorem j9 {V:Type} (us:bF V):(bn us).length=us.length:=by simp [bn]
def ug:List Int->Int->Int
 |[],_=>-1
 |k::r,h=>if k=h then 0 else if ug r h<0 then -1 else ug r h+1
theorem OM {ks:List Int} {h:Int}:(∀j,j<ks.length->¬ks.getD j 0=h)->ug ks h = -1:=by
 induction ks with
 |nil=>intro _;rfl
 |cons k r ih=>
   intro hn
   have h0:¬k=h:=hn 0 ahd
   have:=ih (λj hj=>by have:=hn (j+1) (by simpa using hj);simpa using this)
   rw [ug,ahe h0,this];rfl
theorem VU:∀{ks:List Int} {h:Int} {i:Nat},i<ks.length->ks.getD i 0=h->(∀j,j<i->¬ks.getD j 0=h)->ug ks h=i
 |k::r,h,0,_,e,_=>by
   have e:k=h:=e
   rw [ug,ahf e];rfl
 |k::r,h,i+1,hi,e,hn=>by
   have h0:¬k=h:=hn 0 zc
   have:=VU (ks:=r) (h:=h) (i:=i) (by simpa using hi) (by simpa using e) (λj hj=>Pe)
   rw [ug,ahe h0,this,ahe zc]
   omega
theorem RV {ks:List Int} {h:Int} (hm:h∈ks):∃i:Nat,ug ks h=i/\i<ks.length/\ks.getD i 0=h:=by
 induction ks with
 |nil=>cases hm
 |cons k r ih=>
   by_cases e:k=h
   ·exact⟨0,by rw [ug,ahf e];rfl,ahd,e⟩
   rcases aht.1 hm with e2|hm
   ·exact ahh e2.symm e
   obtain⟨i,h1,h2,h3⟩:=ih hm
   exact⟨i+1,by grind [ug],by simpa using h2,by simpa using h3⟩
theorem RW {ks:List Int} {h:Int} (hm:h∉ks):ug ks h = -1:=OM (λ_ hj e=>hm (e ▸ BR hj))
theorem RX {ks:List Int} {h:Int}:0<=ug ks h↔h∈ks:=by
 grind [RV,RW]
theorem tf:∀(ks:List Int) (h:Int),lQ h ks<=h+ks.length
 |[],h=>by simp [lQ]
 |k::r,h=>by
   rw [lQ]
   split
   ·have:=tf r (h+1);simp only [ahQ];omega
   simp only [ahQ];omega
theorem least_le {V:Type} (us:bF V):aF.aS us<=1+us.length:=by
 have:=tf (bn us) 1
 rw [j9] at this
 exact this
theorem TK {V:Type} {us:bF V} (hr:aF.dH (bn us)) (hp:∀x∈bn us,1<=x):1<=aF.aS us/\aF.aS us∉bn us/\∀x,1<=x->x<aF.aS us->x∈bn us:=qX (bn us) 1 hr hp
section ins
variable {h v:Int}
theorem OO:∀{l:bF Int},(∀p∈l,¬h<p.1)->ins h v l=l++[(h,v)]
 |[],_=>rfl
 |p::r,hn=>by
   rw [ins,ahe (hn p (ahr ..)),OO (λq hq=>hn q (ahq _ hq))];rfl
theorem LU:∀{l:bF Int} {x:Int×Int},(∀p∈l,¬h<p.1)->h<x.1->ins h v (l++[x])=l++[(h,v),x]
 |[],x,_,hx=>by grind [ins]
 |p::r,x,hn,hx=>by
   rw [ahU,ins,ahe (hn p (ahr ..)),LU (λq hq=>hn q (ahq _ hq)) hx];rfl
theorem OQ:∀{l:bF Int} {x:Int×Int},(∃p∈l,h<p.1)->ins h v (l++[x])=ins h v l++[x]
 |[],_,hd=>by obtain⟨p,hp,_⟩:=hd;cases hp
 |p::r,x,hd=>by
   rw [ahU,ins,ins]
   split
   ·rfl
   rename_i hp
   obtain⟨q,hq,fV⟩:=hd
   rcases aht.1 hq with e|hq
   ·exact ahh (e ▸ fV) hp
   rw [OQ ⟨q,hq,fV⟩];rfl
end ins
def pr (us:bF Int) (i:Nat):Int×Int:=us.getD i (0,0)
theorem zG {us:bF Int} {i:Nat} (hi:i<us.length):us.take (i+1)=us.take i++[pr us i]:=by
 rw [ahK]
 grind [pr]
theorem zH {us:bF Int} {i:Nat} (hi:i<us.length):(bn us).getD i 0=(pr us i).1/\(iZ us).getD i 0=(pr us i).2:=by
 grind [bn,iZ,pr]
structure lU (us:bF Int) (h v:Int) (i:Nat) (d:Bool) (q:bF Int):Prop where
 yes:d=true->(∃p∈us.take i,h<p.1)/\q=ins h v (us.take i)
 no:d=false->(∀p∈us.take i,¬h<p.1)/\q=us.take i
 len:q.length=i+(if d then 1 else 0)
section put
variable {us q:bF Int} {h v:Int} {i:Nat} {d:Bool}
theorem lU.zero:lU us h v 0 false []:=⟨λe=>(by cases e),λ_=>⟨λp hp=>(by simp at hp),ahd⟩,rfl⟩
theorem lU.hit (hp:lU us h v i false q) (hi:i<us.length) (hk:h<(pr us i).1):lU us h v (i+1) true (q++[(h,v)]++[pr us i]):=by
 obtain⟨h1,rfl⟩:=hp.no rfl
 refine⟨λ_=>⟨⟨pr us i,by rw [zG hi];simp,hk⟩,by rw [zG hi,LU h1 hk];simp⟩,λe=>(by cases e),?_⟩
 simp
 omega
theorem lU.miss (hp:lU us h v i false q) (hi:i<us.length) (hk:¬h<(pr us i).1):lU us h v (i+1) false (q++[pr us i]):=by
 obtain⟨h1,rfl⟩:=hp.no rfl
 refine⟨λe=>(by cases e),λ_=>⟨λp hpm=>?_,(zG hi).symm⟩,by simp;omega⟩
 grind [zG]
theorem lU.more (hp:lU us h v i true q) (hi:i<us.length):lU us h v (i+1) true (q++[pr us i]):=by
 obtain⟨⟨p,h1,h2⟩,rfl⟩:=hp.yes rfl
 refine⟨λ_=>⟨⟨p,Pe,h2⟩,by grind [zG,OQ]⟩,λe=>(by cases e),?_⟩
 have:=hp.len
 simp at this ⊢
 omega
theorem lU.last (hp:lU us h v us.length false q):q++[(h,v)]=ins h v us:=by
 obtain⟨h1,rfl⟩:=hp.no rfl
 grind [OO]
theorem lU.end_ (hp:lU us h v us.length true q):q=ins h v us:=by
 obtain⟨_,rfl⟩:=hp.yes rfl
 rw [ahG]
end put
theorem YU (q:bF Int) (x:Int×Int):iZ (q++[x])=iZ q++[x.2]:=by simp [iZ]
theorem LJ (q:bF Int) (x:Int×Int):bn (q++[x])=bn q++[x.1]:=by simp [bn]
theorem OU {us:bF Int} {h:Int} {i:Nat} (hi:i<us.length):del h (us.take (i+1))=if (pr us i).1=h then del h (us.take i) else del h (us.take i)++[pr us i]:=by
 grind [zG,del,pr]
theorem TL {us:bF Int} {h:Int}:(del h us).length<=us.length:=ah1 ..
theorem Jw {us:bF Int} (hr:aF.dH (bn us)) {i j:Nat} (hi:i<us.length) (hj:j<us.length) (e:(pr us i).1=(pr us j).1):i=j:=by
 rw [←(zH hi).1,←(zH hj).1] at e
 rcases ah4 i j with h|h|h
 ·have:=Jv hr h (by rw [j9];exact hj);omega
 ·exact h
 have:=Jv hr h (by rw [j9];exact hi);omega
theorem adr {us:bF Int} (hr:aF.dH (bn us)) {i:Nat} (hi:i<us.length) {h:Int} (e:(pr us i).1=h):aF.get us h=some (pr us i).2:=by
 have hm:pr us i∈us:=by grind [pr]
 unfold aF.get
 cases hf:us.find? (λp=>p.1 == h) with
 |none=>
   grind
 |some p=>
   have h1:=List.mem_of_find?_eq_some hf
   have h2:=List.find?_some hf
   obtain⟨j,hj,rfl⟩:=ahW h1
   grind [pr,Jw]
end
section
open Go.RowKit Go.Maps bG aF
noncomputable section
structure RS where
 ns:List aO
 aH:List Int
 us:bF Int
 aI:Int
 cN:Int
 cB:Int
 cH:Int
 cS:Int
 cZ:Int
 last:Int
def mP (name:ByteArray) (id:Int):List fH->List fH
 |[]=>[⟨name,id⟩]
 |e::r=>if ¬jA e.name name then ⟨name,id⟩::e::r else e::mP name id r
def rY (name:ByteArray) (es:List fH):List fH:=es.filter (λe=>decide (e.name≠name))
def nK (s z:Int) (ns:List aO) (d:Nat) (es:List fH):List aO:=ns.set d {nd ns d with ah:=es,aU:=s,aJ:=z}
def bZ (ns:List aO) (d:Nat) (name:ByteArray):Int:=match BN (nd ns d).ah name with|none=>-1|some j=>gJ ns (en (nd ns d).ah j).id
def uh (ns:List aO) (id:Int):Int:=(nP ns id ns.length:Int)
def rf (name:ByteArray):List fH->Int->Int
 |[],z=>z
 |e::r,z=>rf name r (if e.name=name then e.id else z)
variable (R:RS)
def iG (h:Int):Except Int Nat:=match aF.get R.us h with|none=>.error 131|some id=>.ok (cq R.ns id)
def ij (h:Int) (name:ByteArray) (d6:Int):Except Int Nat:=
 match iG R h with
 |.error e=>.error e
 |.ok d=>
   if (nd R.ns d).kind=2 then
    if (nd R.ns d).id∈R.aH then .error 170
    else if cA name then if bits BinOp.and .i64 (nd R.ns d).mode d6=d6 then .ok d else .error 175
    else .error 95
   else .error 173
def dh (d:Nat) (name:ByteArray) (id:Int):RS:={R with ns:=nK R.cS R.cZ R.ns d (mP name id (nd R.ns d).ah)}
def cX (d:Nat) (name:ByteArray) (free:Bool):RS:=
 let ns:=nK R.cS R.cZ R.ns d (rY name (nd R.ns d).ah)
 let id:=rf name (nd R.ns d).ah 0
 {R with ns:=ns,aH:=if free=true/\uh ns id=0 then R.aH++[id] else R.aH}
def r8 (n:aO):Bool:=decide (n.id∈R.aH->n.id∈iZ R.us)
def gn:RS:={R with ns:=R.ns.filter (r8 R),aH:=((R.ns.filter (r8 R)).filter (λn=>decide (n.id∈R.aH))).map aO.id}
def jY (d:Nat) (name:ByteArray) (n:aO):RS:=
 let id:=R.last+1
 let R1:=dh {R with last:=id} d name id
 {R1 with ns:=R1.ns++[{n with id:=id,aU:=R.cS,aJ:=R.cZ}]}
def vO:Prop:=(R.ns.length:Int)<R.cN/\R.last<1099511627776/\(dM R.ns R.ns.length:Int)<8192
instance:Decidable (vO R):=inferInstanceAs (Decidable (_/\_/\_))
abbrev wN:=RS×Int×Int
def kY (k:Nat):wN:=
 if (R.us.length:Int)<R.cH then ({R with us:=ins (aS R.us) (nd R.ns k).id R.us,aI:=max R.aI ((R.us.length:Int)+1)},aS R.us,0) else (R,0,130)
def jT (k:Nat) (bs:List UInt8):wN:=
 if bs=[] then (R,0,0)
 else if R.cB-(fW R.ns R.ns.length:Int)<=0 then (R,0,176)
 else
  let n:=(min (bs.length:Int) (R.cB-(fW R.ns R.ns.length:Int))).toNat
  ({R with ns:=R.ns.set k {nd R.ns k with data:=(nd R.ns k).data++bs.take n,aU:=R.cS,aJ:=R.cZ}},(n:Int),0)
def bR (d:Nat) (name:ByteArray) (n:aO):RS×Int:=
 if n.kind=3/\ld n.target≠0 then (R,ld n.target)
 else if 0<=bZ R.ns d name then (R,171)
 else if vO R then (jY R d name n,0) else (R,177)
def iH (d:Nat) (name:ByteArray) (dir:Bool):RS×Int:=
 if 0<=bZ R.ns d name then
  let k:=(bZ R.ns d name).toNat
  if dir=false/\(nd R.ns k).kind=2 then (R,172)
  else if dir=true/\(nd R.ns k).kind≠2 then (R,173)
  else if dir=true/\0<(nd R.ns k).ah.length then (R,178)
  else (gn (cX R d name true),0)
 else (R,170)
def oM (ns:List aO) (id:Int):Nat->Int
 |0=>-1
 |i+1=>if 0<iW (nd ns i).ah id (nd ns i).ah.length then (i:Int) else oM ns id i
def jF (ns:List aO) (top:Nat):Nat->Nat->Bool
 |0,_=>false
 |k+1,d=>if d=top then true else if oM ns (nd ns d).id ns.length<0 then false else jF ns top k (oM ns (nd ns d).id ns.length).toNat
def ia (f:Nat) (name:ByteArray) (to:Nat) (aD:ByteArray):RS×Int:=
 if 0<=bZ R.ns f name then
  let k:=(bZ R.ns f name).toNat
  if (nd R.ns k).kind=2/\jF R.ns k (R.ns.length+1) to=true then (R,174)
  else if bZ R.ns to aD=(k:Int) then (R,0)
  else if 0<=bZ R.ns to aD then
   if (nd R.ns (bZ R.ns to aD).toNat).kind=2 then (R,172)
   else if (nd R.ns k).kind=2 then (R,173)
   else (gn (dh (cX (cX R to aD true) f name false) to aD (nd R.ns k).id),0)
  else (gn (dh (cX R f name false) to aD (nd R.ns k).id),0)
 else (R,170)
def jl (c:aP) (want:Int):wN:=
 match ij R c.aN c.name 64 with
 |.error e=>(R,0,e)
 |.ok d=>
   if 0<=bZ R.ns d c.name then
    let k:=(bZ R.ns d c.name).toNat
    if (nd R.ns k).kind=3 then (R,0,174)
    else if (nd R.ns k).kind≠want then (R,0,if (nd R.ns k).kind=1 then 173 else 172)
    else kY R k
   else (R,0,170)
def qH (c:aP) (d6:Int):Except Int (Nat×Nat):=
 match ij R c.aN c.name d6 with
 |.error e=>.error e
 |.ok f=>match ij R c.other c.text 192 with
   |.error e=>.error e
   |.ok to=>.ok (f,to)
def mq (c:aP):wN:=
 match iG R c.aN with
 |.error e=>(R,0,e)
 |.ok k=>
   if (nd R.ns k).kind=2/\(nd R.ns k).id∈R.aH then (R,0,170)
   else if jV c.mode then
    if qu c.bg/\qu c.bh then
     if gj c.aU c.aJ then ({R with ns:=R.ns.set k {nd R.ns k with mode:=c.mode,bg:=c.bg,bh:=c.bh,aU:=c.aU,aJ:=c.aJ}},0,0)
     else (R,0,20)
    else (R,0,11)
   else (R,0,120)
def iI (c:aP) (d:Nat):wN:=
 if c.op=8\/c.op=14 then ((iH R d c.name (decide (c.op=14))).1,0,(iH R d c.name (decide (c.op=14))).2)
 else if c.op=6 then ((bR R d c.name ⟨0,3,511,0,0,0,0,[],c.text,[]⟩).1,0,(bR R d c.name ⟨0,3,511,0,0,0,0,[],c.text,[]⟩).2)
 else if jV c.mode then
  if c.op=5 then
   let m:=bR R d c.name ⟨0,1,c.mode,0,0,0,0,[],⟨#[]⟩,[]⟩
   if m.2=0 then kY m.1 (m.1.ns.length-1) else (m.1,0,m.2)
  else ((bR R d c.name ⟨0,2,c.mode,0,0,0,0,[],⟨#[]⟩,[]⟩).1,0,(bR R d c.name ⟨0,2,c.mode,0,0,0,0,[],⟨#[]⟩,[]⟩).2)
 else (R,0,120)
def vQ (c:aP):wN:=
 match qH R c 64 with
 |.error e=>(R,0,e)
 |.ok (f,to)=>
   if 0<=bZ R.ns f c.name then
    if (nd R.ns (bZ R.ns f c.name).toNat).kind=2 then (R,0,172)
    else if 0<=bZ R.ns to c.text then (R,0,171)
    else if (dM R.ns R.ns.length:Int)<8192 then (dh R to c.text (nd R.ns (bZ R.ns f c.name).toNat).id,0,0)
    else (R,0,177)
   else (R,0,170)
def cF (c:aP):wN:=
 if c.op=1 then
  if 0<=gJ R.ns c.other then if (nd R.ns (cq R.ns c.other)).kind=2 then kY R (cq R.ns c.other) else (R,0,173)
  else (R,0,141)
 else if c.op=2 then jl R c 2
 else if c.op=3 then jl R c 1
 else if c.op=4\/c.op=5\/c.op=6\/c.op=8\/c.op=14 then
  match ij R c.aN c.name 192 with
  |.error e=>(R,0,e)
  |.ok d=>iI R c d
 else if c.op=7 then vQ R c
 else if c.op=9 then
  match iG R c.aN with
  |.error e=>(R,0,e)
  |.ok k=>if (nd R.ns k).kind=2 then (R,0,172) else jT R k c.data
 else if c.op=10 then mq R c
 else if c.op=13 then
  if c.aN∈bn R.us then (gn {R with us:=del c.aN R.us},0,0) else (gn R,0,131)
 else if c.op=15 then
  match qH R c 192 with
  |.error e=>(R,0,e)
  |.ok (f,to)=>((ia R f c.name to c.text).1,0,(ia R f c.name to c.text).2)
 else (R,0,230)
def FZ (c:aP) (k:Nat):aP:={c with answer:=(nd R.ns k).id,other:=(nd R.ns k).kind,mode:=(nd R.ns k).mode,bg:=(nd R.ns k).bg,bh:=(nd R.ns k).bh,aU:=(nd R.ns k).aU,aJ:=(nd R.ns k).aJ,code:=0}
def Jx (c:aP) (e:Int):aP:={c with answer:=0,other:=0,mode:=0,bg:=0,bh:=0,aU:=0,aJ:=0,code:=e}
def qO (c:aP):aP:=
 if c.op=12 then
  match ij R c.aN c.name 64 with
  |.error e=>Jx c e
  |.ok d=>if 0<=bZ R.ns d c.name then FZ R c (bZ R.ns d c.name).toNat else Jx c 170
 else match iG R c.aN with
  |.error e=>Jx c e
  |.ok k=>FZ R c k
def tO (c:aP):RS×aP:=
 if c.op=11\/c.op=12 then (R,qO R c)
 else if (cF R c).2.2=0 then ((cF R c).1,{c with answer:=(cF R c).2.1,code:=0}) else (R,{c with answer:=0,code:=(cF R c).2.2})
end
structure RL where
 A:Option Addr
 c:Nat
 L:eP
 G:Option Addr
 cg:Nat
 H:Option Addr
 ch:Nat
 V:Option Addr
 cv:Nat
def rV (R:RS) (Y:RL):List Value:=[.slice Y.A R.ns.length Y.c,.slice Y.G R.aH.length Y.cg,.int .i64 R.cH,.int .i64 R.aI,.slice Y.H R.us.length Y.ch,.slice Y.V R.us.length Y.cv,.int .i64 R.cN,.int .i64 R.cB,.int .i64 R.cH,.int .i64 R.cS,.int .i64 R.cZ,.int .i64 R.last]
abbrev fk (c:aP) (A:Option Addr) (p:Nat):aP:={c with dA:=A,dC:=p}
def rW (R:RS) (A:Option Addr) (c:Nat) (G:Option Addr) (cg:Nat) (H:Option Addr) (ch:Nat) (V:Option Addr) (cv:Nat):List Value:=rV R ⟨A,c,⟨λ_=>none,λ_=>none,λ_=>0,λ_=>0⟩,G,cg,H,ch,V,cv⟩
def rZ:List Value:=[.slice none 0 0,.slice none 0 0,.int .i64 0,.int .i64 0,.slice none 0 0,.slice none 0 0,.int .i64 0,.int .i64 0,.int .i64 0,.int .i64 0,.int .i64 0,.int .i64 0]
structure RowsAt (β:Bs) (R:RS) (Y:RL):Prop where
 g:cD β Y.G (bL R.aH)
 h:cD β Y.H (bL (bn R.us))
 v:cD β Y.V (bL (iZ R.us))
structure dz (β:Bs) (R:RS) (Y:RL):Prop extends RowsAt β R Y where
 n:aQ β Y.A R.ns Y.L
structure RB (R:RS):Prop where
 ns:R.ns.length<=4097
 aH:R.aH.length<=8200
 us:R.us.length<=1024
 ah:dM R.ns R.ns.length<=8200
 dat:fW R.ns R.ns.length<=140737488355328
structure RC (R:RS):Prop extends RB R where
 fO:dH R.ns
 hand:∀id∈iZ R.us,0<=gJ R.ns id
 kind:∀i,i<R.ns.length->(nd R.ns i).kind=1\/(nd R.ns i).kind=2\/(nd R.ns i).kind=3
 cap:0<=R.cN/\R.cN<=4096/\0<=R.cB/\R.cB<=1099511627776/\0<=R.cH/\R.cH<=1024/\0<=R.last/\R.last<=1099511627776/\0<=R.aI/\R.aI<=R.cH
 usr:aF.dH (bn R.us)
 xX:∀z∈bn R.us,1<=z
 Gx:(R.us.length:Int)<=R.cH
section d
variable {β β':Bs} {R:RS} {Y:RL} {i:Nat}
theorem RowsAt.le (h:RowsAt β R Y) (dW:β.le β'):RowsAt β' R Y:=⟨h.g.le dW,h.h.le dW,h.v.le dW⟩
theorem dz.le (h:dz β R Y) (dW:β.le β'):dz β' R Y:=⟨h.toRowsAt.le dW,h.n.le dW⟩
theorem RB.row (h:RB R) (hi:i<R.ns.length):(nd R.ns i).ah.length<=8200:=by
 have h1:=qG (ns:=R.ns) (show i+1<=R.ns.length by omega)
 have h2:=h.ah
 grind [dM,nd]
end d
section l
variable {ns:List aO} {es:List fH} {name:ByteArray} {id:Int} {i j d top k:Nat} {R:RS} {l:List Int}
theorem VW (hj:j<es.length) (e:(en es j).name=name) (iU:∀q,q<j->¬(en es q).name=name):BN es name=some j:=by
 unfold BN
 rw [ahY]
 have hg:∀k (hk:k<es.length),en es k=es[k]:=λk hk=>by
  grind [en]
 grind
theorem VX (hj:j<(nd ns d).ah.length) (e:(en (nd ns d).ah j).name=name) (iU:∀q,q<j->¬(en (nd ns d).ah q).name=name):gJ ns (en (nd ns d).ah j).id=bZ ns d name:=by
 unfold bZ;rw [VW hj e iU]
theorem TM (iU:∀q,q<(nd ns d).ah.length->¬(en (nd ns d).ah q).name=name):(-1:Int)=bZ ns d name:=by
 unfold bZ;rw [TF iU]
theorem ab8 (hj:j<l.length) (e:l.getD j 0=id):true=decide (id∈l):=by
 grind
theorem YV (iU:∀q,q<l.length->¬l.getD q 0=id):false=decide (id∈l):=by
 refine (ahi (λh=>?_)).symm
 obtain⟨j,hj,e⟩:=ahW h
 grind
def BS (ns:List aO) (id:Int) (i j:Nat):Int:=if 0<iW (nd ns i).ah id j then (i:Int) else oM ns id i
theorem YW:oM ns id i=BS ns id i 0:=by unfold BS;rw [ahe (by unfold iW;omega)]
theorem ab9:BS ns id i (nd ns i).ah.length=oM ns id (i+1):=rfl
theorem acd (e:(en (nd ns i).ah j).id=id):(i:Int)=BS ns id i (j+1):=by unfold BS;rw [ahf (by have:=Js e;omega)]
theorem YX (e:¬(en (nd ns i).ah j).id=id):BS ns id i j=BS ns id i (j+1):=by unfold BS;rw [GH e]
theorem VY:∀n:Nat,-1<=oM ns id n/\oM ns id n<n
 |0=>⟨by unfold oM;omega,by unfold oM;omega⟩
 |n+1=>by
   have:=VY n
   unfold oM
   split<;>omega
theorem VZ:jF ns d (k+1) d=true:=by unfold jF;rw [ahf rfl]
theorem TN (h:¬d=top) (hu:oM ns (nd ns d).id ns.length<0):jF ns top (k+1) d=false:=by unfold jF;rw [ahe h,ahf hu]
theorem YZ (h:¬d=top) (hu:¬oM ns (nd ns d).id ns.length<0):jF ns top (k+1) d=jF ns top k (oM ns (nd ns d).id ns.length).toNat:=by
 grind [jF]
end l
section m
variable {ns:List aO} {es l:List fH} {name:ByteArray} {id z:Int} {i j d k:Nat} {R:RS} {x:fH}
theorem LV:∀{l:List fH},(∀e∈l,jA e.name name)->mP name id l=l++[⟨name,id⟩]
 |[],_=>rfl
 |e::r,h=>by
   unfold mP
   rw [ahe (λq=>q (h e (ahr ..))),LV (λy hy=>h y (ahq _ hy))];rfl
theorem Jy:∀{l:List fH},(∀e∈l,jA e.name name)->¬jA x.name name->mP name id (l++[x])=l++[⟨name,id⟩,x]
 |[],_,hx=>by grind [mP]
 |e::r,h,hx=>by
   show mP name id (e::(r++[x]))=_
   unfold mP
   rw [ahe (λq=>q (h e (ahr ..))),Jy (λy hy=>h y (ahq _ hy)) hx];rfl
theorem LW:∀{l:List fH},(∃e∈l,¬jA e.name name)->mP name id (l++[x])=mP name id l++[x]
 |[],h=>by obtain⟨_,h,_⟩:=h;cases h
 |e::r,h=>by
   show mP name id (e::(r++[x]))=mP name id (e::r)++[x]
   unfold mP
   by_cases he:¬jA e.name name
   ·rw [ahf he,ahf he];rfl
   rw [ahe he,ahe he]
   obtain⟨y,hy,hny⟩:=h
   rcases aht.1 hy with rfl|hy
   ·exact ahh hny he
   rw [LW ⟨y,hy,hny⟩];rfl
theorem wO (hj:j<es.length):es.take (j+1)=es.take j++[en es j]:=by
 rw [ahK,ahs hj]
 grind [en]
def gM (es:List fH) (name:ByteArray) (id:Int) (j:Nat) (put:Bool) (out:List fH):Prop:=
 (put=false/\out=es.take j/\∀e∈es.take j,jA e.name name)\/(put=true/\out=mP name id (es.take j)/\∃e∈es.take j,¬jA e.name name)
theorem gM.start:gM es name id 0 false []:=.inl ⟨rfl,rfl,λe he=>by cases he⟩
theorem gM.put (h:gM es name id j false l) (hj:j<es.length) (hx:¬jA (en es j).name name):gM es name id (j+1) true (l++[⟨name,id⟩]++[en es j]):=by
 grind [en,wO,Jy,gM,jA]
theorem gM.more (h:gM es name id j true l) (hj:j<es.length):gM es name id (j+1) true (l++[en es j]):=by
 grind [wO,LW,gM,en]
theorem gM.miss (h:gM es name id j false l) (hj:j<es.length) (hx:jA (en es j).name name):gM es name id (j+1) false (l++[en es j]):=by
 grind [wO,gM,jA,en]
theorem gM.last (h:gM es name id es.length false l):l++[⟨name,id⟩]=mP name id es:=by
 grind [LV,gM,mP]
theorem gM.end_ (h:gM es name id es.length true l):l=mP name id es:=by
 grind [gM,mP]
theorem gM.len {b:Bool} (h:gM es name id j b l) (hj:j<=es.length):l.length<=j+1:=by
 have hl:∀q:List fH,(mP name id q).length=q.length+1:=λq=>by
  induction q with
  |nil=>rfl
  |cons e r ih=>
    grind [mP]
 grind [gM]
theorem MP (hj:j<es.length) (h:(en es j).name=name):rY name (es.take j)=rY name (es.take (j+1)):=by
 grind [rY,wO]
theorem KS (hj:j<es.length) (h:¬(en es j).name=name):rY name (es.take j)++[en es j]=rY name (es.take (j+1)):=by
 grind [rY,wO]
theorem KT:∀(l:List fH) (z:Int),rf name (l++[x]) z=if x.name=name then x.id else rf name l z
 |[],z=>rfl
 |e::r,z=>by
   show rf name (r++[x]) _=_
   rw [KT r]
   split<;>rfl
theorem ace (hj:j<es.length) (h:(en es j).name=name):(en es j).id=rf name (es.take (j+1)) z:=by rw [wO hj,KT,ahf h]
theorem Y0 (hj:j<es.length) (h:¬(en es j).name=name):rf name (es.take j) z=rf name (es.take (j+1)) z:=by rw [wO hj,KT,ahe h]
theorem Y4:(rY name (es.take j)).length<=j:=ahk (ah1 ..) (by rw [ahC];omega)
theorem uO (hj:j<ns.length):ns.take (j+1)=ns.take j++[nd ns j]:=by
 rw [ahK,ahs hj]
 grind [nd]
def tP (R:RS) (i:Nat):List aO:=(R.ns.take i).filter (r8 R)
def pY (R:RS) (i:Nat):List Int:=((tP R i).filter (λn=>decide (n.id∈R.aH))).map aO.id
theorem BU (hi:i<R.ns.length) (h:r8 R (nd R.ns i)=true):tP R (i+1)=tP R i++[nd R.ns i]:=by
 grind [tP,uO]
theorem OV (hi:i<R.ns.length) (h:¬r8 R (nd R.ns i)=true):tP R (i+1)=tP R i:=by
 grind [tP,uO]
theorem LY (hi:i<R.ns.length) (h:r8 R (nd R.ns i)=true) (hg:(nd R.ns i).id∈R.aH):pY R (i+1)=pY R i++[(nd R.ns i).id]:=by
 unfold pY;rw [BU hi h,List.filter_append,ahP];simp [hg]
theorem OW (hi:i<R.ns.length) (h:r8 R (nd R.ns i)=true) (hg:¬(nd R.ns i).id∈R.aH):pY R (i+1)=pY R i:=by
 grind [pY,BU]
theorem TP (hi:i<R.ns.length) (h:¬r8 R (nd R.ns i)=true):pY R (i+1)=pY R i:=by
 unfold pY;rw [OV hi h]
theorem H6 {n:aO}:r8 R n=true↔(n.id∈R.aH->n.id∈iZ R.us):=by unfold r8;exact decide_eq_true_iff
theorem LZ:gn R={R with ns:=tP R R.ns.length,aH:=pY R R.ns.length}:=by
 unfold gn pY tP
 rw [ahG]
theorem L4:(tP R i).length<=i:=ahk (ah1 ..) (by rw [ahC];omega)
theorem V0:(pY R i).length<=i:=by
 grind [pY,L4]
end m
end
section
open Go.RowKit bG aF Go.Maps
section bL
variable {β:Bs} {A:Option Addr} {l:List Int} {j:Nat}
theorem xC.get (h:cD β A (bL l)) (hj:j<l.length):A=some ⟨br A,bq A,none⟩/\Rd β ⟨br A,bq A+j*1,none⟩ (.int .i64 (l.getD j 0)):=by
 grind [bL,cD,br,bq,Rd]
theorem xC.hd (h:cD β A (bL l)) (hj:j<l.length):A=some ⟨br A,bq A,none⟩:=(xC.get h hj).1
theorem xC.rd (h:cD β A (bL l)) (hj:j<l.length):Rd β ⟨br A,bq A+j*1,none⟩ (.int .i64 (l.getD j 0)):=(xC.get h hj).2
end bL
end
section
open Go.RowKit Go.Maps bG aF
section fl
theorem EU {α:Type} {f g:Nat->α->List Value} {s:Nat} (hf:∀i a,(f i a).length=s) (hg:∀i a,(g i a).length=s):∀(xs:List α) (b k j:Nat) (a:α) (u:Value),k<xs.length->j<s →
 (∀i,i≠k->∀x,xs[i]?=some x->g (b+i) x=f (b+i) x)->(∀x,xs[k]?=some x->g (b+k) a=(f (b+k) x).set j u)->(fw f b xs).set (k*s+j) u=fw g b (xs.set k a)
 |[],_,k,_,_,_,h,_,_,_=>ahh h (ahm k)
 |x::r,b,0,j,a,u,_,hj,h1,h2=>by
   rw [fw,List.set_cons_zero,fw,Nat.zero_mul,ahy,List.set_append_left _ _ (by rw [hf];exact hj)]
   have e:=h2 x rfl
   rw [Nat.add_zero] at e
   rw [e]
   congr 1
   exact Cu _ _ (λi a hi=>by
    have:=h1 (i+1) zc a (by simpa using hi)
    rw [show b+1+i=b+(i+1) by omega]
    exact this.symm)
 |x::r,b,k+1,j,a,u,h,hj,h1,h2=>by
   rw [fw,List.set_cons_succ,fw,List.set_append_right _ _ (by rw [hf,Nat.add_mul];omega),hf]
   have e0:=h1 0 zc x rfl
   rw [Nat.add_zero] at e0
   rw [e0,show (k+1)*s+j-s=k*s+j by rw [Nat.add_mul];omega]
   congr 1
   refine EU hf hg r (b+1) k j a u (by simpa using h) hj (λi hi y hy=>?_) (λy hy=>?_)
   ·rw [show b+1+i=b+(i+1) by omega];exact h1 (i+1) zc y (by simpa using hy)
   rw [show b+1+k=b+(k+1) by omega];exact h2 y (by simpa using hy)
end fl
section st
variable {P:Program} {β:Bs} {N:fQ} {ops:Array Oper} {k:Nat} {fr:Fr} {ax:List HP} {Q:Post} {d:Option Tmp}
theorem av.acf (i j:Nat) {T e:TypeId} {size n cap g:Nat} {xs:List Value} {u u2:Value} {a y:Operand} (bX:∀ai,iK N ai ops fr k=some (.store T a y,d)) (hp:ax[i]?=some (.abs (aG e size (some ⟨g,0,none⟩) n cap xs)))
 (ha:∀ai,eX N fr ai a=.pointer (some ⟨g,j,none⟩)) (hy:∀ai,eX N fr ai y=.agg #[u,u2]) (hT:(P.info? T).map (·.size)=some 2) (hu:u.oneCell'=true) (RY:u2.oneCell'=true) (hj:j+1<xs.length)
 (K':av P β N ops (k+1) (eV fr d undef) (ax.set i (.abs (aG e size (some ⟨g,0,none⟩) n cap ((xs.set j u).set (j+1) u2)))) Q):av P β N ops k fr ax Q:=by
 refine av.mT bX (λo ai w ho hS=>?_) K'
 have uW:j<xs.length:=zc
 have hi:=dF hp
 have yX:=hS.set hp (xh (u:=u) uW)
 have hp2:(ax.set i (.abs (aG e size (some ⟨g,0,none⟩) n cap (xs.set j u))))[i]?=some (.abs (aG e size (some ⟨g,0,none⟩) n cap (xs.set j u))):=aie hi
 have hS3:=yX.set hp2 (xh (u:=u2) (by rw [ahp];exact hj))
 rw [List.set_set] at hS3
 refine⟨_,.inr ⟨rfl,?_⟩,hS3⟩
 have key:∀(w:World) (l:List HP) (ys:List Value) (q:Nat),aR β l w->l[i]?=some (.abs (aG e size (some ⟨g,0,none⟩) n cap ys))->q<ys.length->(∃x,w.cell? ⟨g,q,none⟩=some x)/\w.frozen? ⟨g,q,none⟩=false:=λw l ys q hS hp hq=>by
  obtain⟨F,hF⟩:=hS.get hp
  obtain⟨x,hx⟩:=lq hq
  refine⟨⟨x,aG.cell hx F w hF⟩,?_⟩
  obtain⟨⟨_,h2⟩,_⟩:=hF
  rcases h2 with ⟨e,_⟩|⟨g',cp,cur,e,_,hb,_⟩
  ·cases e
  cases e;simp [World.frozen?,hb]
 obtain⟨⟨x1,hc1⟩,hf1⟩:=key w ax xs j hS hp uW
 obtain⟨⟨x2,hc2⟩,hf2⟩:=key _ _ _ (j+1) yX hp2 (by rw [ahp];exact hj)
 obtain⟨inf,hi,eG⟩:∃inf,P.info? T=some inf/\inf.size=2:=by
  cases h:P.info? T with
  |none=>rw [h] at hT;cases hT
  |some inf=>rw [h] at hT;exact⟨inf,rfl,by simpa using hT⟩
 have h3:=qd hi w
 rw [eG] at h3
 obtain⟨dst,op,type,pos,after,guard⟩:=o
 cases ho
 have st:∀(u x:Value) (a:Addr) (w:World),u.oneCell'=true->w.cell? a=some x->w.frozen? a=false->Sem.run P (Sem.store Mode.plain a u (Sem.pure ())) w=.ok () (w.setCell a u):=λu x a w hu hc hf=>by
  cases u<;>first
   |(simp [Value.oneCell'] at hu;done)
   |simp [Sem.run,hc,hf]
 simp only [execOp,ha ai,hy ai]
 simp [go_sem,Instr.storeAt,Instr.sureAddr,storeVar,h3,Value.cells,storeCells,store,Addr.add,st u x1 _ _ hu hc1 hf1,st u2 x2 _ _ RY hc2 hf2]
theorem av.zJ (i j:Nat) {T e:TypeId} {size n cap:Nat} {A:Option Addr} {xs:List Value} {u:Value} {a y:Operand} (bX:∀ai,iK N ai ops fr k=some (.store T a y,d)) (hp:ax[i]?=some (.abs (aG e size A n cap xs)))
 (ha:∀ai,eX N fr ai a=.pointer (some ⟨br A,bq A+j,none⟩)) (hy:∀ai,eX N fr ai y=u) (hT:(P.info? T).map (·.size)=some 1) (hu:u.oneCell'=true) (hn:0<n) (hj:j<xs.length)
 (K':av P β N ops (k+1) (eV fr d undef) (ax.set i (.abs (aG e size A n cap (xs.set j u)))) Q):av P β N ops k fr ax Q:=by
 refine av.tell (p:=∃g,A=some ⟨g,0,none⟩) (λ_ hS=>let ⟨_,h⟩:=hS.get hp;aG.head h hn) ?_
 rintro⟨g,rfl⟩
 exact av.Ei i j bX hp (λai=>(ha ai).trans (ahg (λo=>Value.pointer (some ⟨g,o,none⟩)) (ahy j))) hy hT hu hj K'
theorem av.DB (i j:Nat) {T e:TypeId} {size n cap:Nat} {A:Option Addr} {xs:List Value} {u u2:Value} {a y:Operand} (bX:∀ai,iK N ai ops fr k=some (.store T a y,d)) (hp:ax[i]?=some (.abs (aG e size A n cap xs)))
 (ha:∀ai,eX N fr ai a=.pointer (some ⟨br A,bq A+j,none⟩)) (hy:∀ai,eX N fr ai y=.agg #[u,u2]) (hT:(P.info? T).map (·.size)=some 2) (hu:u.oneCell'=true) (RY:u2.oneCell'=true) (hn:0<n) (hj:j+1<xs.length)
 (K':av P β N ops (k+1) (eV fr d undef) (ax.set i (.abs (aG e size A n cap ((xs.set j u).set (j+1) u2)))) Q):av P β N ops k fr ax Q:=by
 refine av.tell (p:=∃g,A=some ⟨g,0,none⟩) (λ_ hS=>let ⟨_,h⟩:=hS.get hp;aG.head h hn) ?_
 rintro⟨g,rfl⟩
 exact av.acf i j bX hp (λai=>(ha ai).trans (ahg (λo=>Value.pointer (some ⟨g,o,none⟩)) (ahy j))) hy hT hu RY hj K'
theorem av.r9 (i:Nat) {e:TypeId} {size n cap:Nat} {A:Option Addr} {xs:List Value} (hp:ax[i]?=some (.abs (aG e size A n cap xs))) (hn:0<n) (K:A=some ⟨br A,bq A,none⟩->av P β N ops k fr ax Q):av P β N ops k fr ax Q:=
 av.tell (λ_ hS=>let ⟨_,h⟩:=hS.get hp;(aG.Bo h hn).1) K
end st
theorem ads (x y:ByteArray):Value.bool (!(Op.bytesLess x.toList y.toList || (x.toList == y.toList)))=Value.bool (!(decide (jA x y))):=ahg (λv=>match v with|Value.bool b=>Value.bool (!b)|v=>v) (NU x y)
theorem gM.keep {es l:List fH} {name:ByteArray} {id:Int} {j:Nat} {p:Bool} (h:gM es name id j p l) (hj:j<es.length) (hx:p=false->jA (en es j).name name):gM es name id (j+1) p (l++[en es j]):=by
 cases p with
 |true=>exact h.more hj
 |false=>exact h.miss hj (hx rfl)
theorem DC {q:List fH} {e:fH} {B:Option Addr} {c:Nat}:HP.abs (aG 149 2 B (q.length+1) c (mV q++[.string e.name,.int .i64 e.id]))=HP.abs (aG 149 2 B (q++[e]).length c (mV (q++[e]))):=by
 rw [Jt,ahl];rfl
theorem oy {α:Type} {q:List α} {e:α}:q.length+1=(q++[e]).length:=by rw [ahl];rfl
section o
variable {P:Program} {β β':Bs} {R:RS} {Y:RL} {f:FuncId} {args:Array Value} {x u:Value} {d k i j:Nat} {ns:List aO} {L L':eP} {n:aO} {es:List fH} {B:Option Addr} {c:Nat}
theorem si (hk:k<ns.length) (hj:j<10) (hL:∀i,i≠k->∀x,iy L' i x=iy L i x) (h:iy L' k n=(iy L k (nd ns k)).set j u):(bH L ns).set (k*10+j) u=bH L' (ns.set k n):=by
 refine EU (s:=10) (λ_ _=>rfl) (λ_ _=>rfl) ns 0 k j _ _ hk hj (λi hi x _=>?_) (λx hx=>?_)
 all_goals grind [nd]
theorem TQ (hk:k<ns.length) {v:Value} (hv:(iy L k (nd ns k))[j]?=some v):(bH L ns)[k*10+j]?=some v:=by
 have hj:j<10:=dF hv
 have h1:=vg (f:=iy L) (s:=10) (λ_ _=>rfl) ns 0 k j _ (getD_some (x:=default) hk) hj
 rw [ahy] at h1
 exact h1.trans hv
theorem qx (hk:k<ns.length):nd (ns.set k n) i=if i=k then n else nd ns i:=by
 grind [nd]
def eP.bU (L:eP) (k:Nat) (B:Option Addr) (c:Nat):eP:=⟨L.dA,λi=>if i=k then B else L.eA i,L.dC,λi=>if i=k then c else L.eC i⟩
def eP.dat (L:eP) (k:Nat) (B:Option Addr) (c:Nat):eP:=⟨λi=>if i=k then B else L.dA i,L.eA,λi=>if i=k then c else L.dC i,L.eC⟩
structure lV (β:Bs) (R:RS) (L:eP) (H V:Option Addr):Prop where
 data:∀i,i<R.ns.length->bJ β (L.dA i) (nd R.ns i).data
 ah:∀i,i<R.ns.length->cV β (L.eA i) (nd R.ns i).ah
 h:cD β H (bL (bn R.us))
 v:cD β V (bL (iZ R.us))
theorem lV.le {H V:Option Addr} (h:lV β R L H V) (dW:β.le β'):lV β' R L H V:=⟨λi hi=>(h.data i hi).le dW,λi hi=>(h.ah i hi).le dW,h.h.le dW,h.v.le dW⟩
theorem lV.at {A G H V:Option Addr} {c cg ch cv:Nat} (h:lV β R L H V) (g:mX β [.abs (aG 95 10 A R.ns.length c (bH L R.ns)),.abs (aG 3 1 G R.aH.length cg (bL R.aH))] β'):dz β' R ⟨A,c,L,G,cg,H,ch,V,cv⟩:=by
 obtain⟨F,h1,h2⟩:=g.get 0 rfl
 obtain⟨G,g1,g2⟩:=g.get 1 rfl
 have h':=h.le g.le
 exact⟨⟨cD.gU g1 g2 rfl,h'.h,h'.v⟩,cD.gU h1 h2 rfl,h'.data,h'.ah⟩
theorem eU {A G H V:Option Addr} {c cg ch cv:Nat} (h:lV β R L H V) (hs:∀β',β.le β'->dz β' R ⟨A,c,L,G,cg,H,ch,V,cv⟩->aX P β' f args [] (λv l=>v=x/\l=[])) :
 aX P β f args [.abs (aG 95 10 A R.ns.length c (bH L R.ns)),.abs (aG 3 1 G R.aH.length cg (bL R.aH))] (λv l=>v=x/\l=[.abs (aG 95 10 A R.ns.length c (bH L R.ns)),.abs (aG 3 1 G R.aH.length cg (bL R.aH))]):=
 (aX.sZ (pre:=[]) (R:=[.abs (aG 95 10 A R.ns.length c (bH L R.ns)),.abs (aG 3 1 G R.aH.length cg (bL R.aH))]) (λβ' g=>hs β' g.le (h.at g))).mono (by rintro v l ⟨l0,⟨rfl,rfl⟩,rfl⟩;exact⟨rfl,rfl⟩)
theorem nA (ns:List aO) (L:eP) (A:Option Addr) (cap i j:Nat) (hi:i<ns.length) {v:Value} (hv:(iy L i (nd ns i))[j]?=some v):∀F w,(aG 95 10 A ns.length cap (bH L ns)).h F w->w.cell? ⟨br A,bq A+i*10+j,none⟩=some v:=aG.cellAt hi (TQ hi hv)
theorem QN (hk:k<ns.length):(bH L ns).set (k*10+9) (.slice B es.length c)=bH (L.bU k B c) (ns.set k {nd ns k with ah:=es}):=
 si hk Pd (λi hi x=>by unfold iy eP.bU;simp [hi]) (by unfold iy eP.bU;simp)
theorem TR (hk:k<ns.length) {bs:List UInt8}:(bH L ns).set (k*10+7) (.slice B bs.length c)=bH (L.dat k B c) (ns.set k {nd ns k with data:=bs}):=
 si hk Pd (λi hi x=>by unfold iy eP.dat;simp [hi]) (by unfold iy eP.dat;simp)
theorem Cy (hk:k<ns.length) {s z:Int}:((bH L ns).set (k*10+5) (.int .i64 s)).set (k*10+5+1) (.int .i64 z)=bH L (ns.set k {nd ns k with aU:=s,aJ:=z}):=by
 rw [si (n:={nd ns k with aU:=s}) hk Pd (λ_ _ _=>rfl) rfl]
 have:=si (ns:=ns.set k {nd ns k with aU:=s}) (L:=L) (L':=L) (k:=k) (j:=6) (n:={nd ns k with aU:=s,aJ:=z}) (u:=.int .i64 z) (by rw [ahp];exact hk) Pd (λ_ _ _=>rfl) (by rw [qx hk,ahf rfl];rfl)
 rw [List.set_set] at this
 exact this
theorem QO (hk:k<ns.length) {s z:Int}:(((bH L ns).set (k*10+9) (.slice B es.length c)).set (k*10+5) (.int .i64 s)).set (k*10+5+1) (.int .i64 z)=bH (L.bU k B c) (nK s z ns k es):=by
 rw [QN hk,Cy (by rw [ahp];exact hk),qx hk,ahf rfl,List.set_set];rfl
theorem AO {s z:Int}:(nK s z ns k es).length=ns.length:=ahp ..
theorem RZ {s z:Int} (hk:k<ns.length):nd (nK s z ns k es) i=if i=k then {nd ns k with ah:=es,aU:=s,aJ:=z} else nd ns i:=qx hk
theorem R3 {A:Option Addr} {cN:Nat} {ns':List aO} {s z:Int} (hk:k<ns.length) (h:ns'=nK s z ns k es) :
 HP.abs (aG 95 10 A ns.length cN ((((bH L ns).set (k*10+9) (.slice B es.length c)).set (k*10+5) (.int .i64 s)).set (k*10+5+1) (.int .i64 z)))=HP.abs (aG 95 10 A ns'.length cN (bH (L.bU k B c) ns')):=by
 rw [QO hk,h,AO]
theorem lV.nK {H V:Option Addr} (h:lV β R L H V) (hk:k<R.ns.length) (he:cV β B es) {R':RS} (hn:R'.ns=nK R.cS R.cZ R.ns k es) (hu:R'.us=R.us):lV β R' (L.bU k B c) H V:=by
 refine⟨λi hi=>?_,λi hi=>?_,by rw [hu];exact h.h,by rw [hu];exact h.v⟩
 ·rw [hn,AO] at hi
  rw [hn,RZ hk]
  by_cases e:i=k
  ·rw [ahf e];subst e;exact h.data i hi
  rw [ahe e];exact h.data i hi
 rw [hn,AO] at hi
 rw [hn,RZ hk]
 show cV β (if i=k then B else L.eA i) _
 by_cases e:i=k
 ·rw [ahf e,ahf e];exact he
 rw [ahe e,ahe e];exact h.ah i hi
theorem CS {name:ByteArray} {id:Int}:(dh R d name id).ns.length=R.ns.length:=ahp ..
theorem vu {name:ByteArray} {b:Bool}:(cX R d name b).ns.length=R.ns.length:=ahp ..
theorem afP {L:eP} {F:Fp} {w:World} {m:Nat} (h:(HP.abs (iL (q8 ns L) m)).h F w) (h1:∀k,F k->β'.O k) (h2:β'.w0=w):∀i,i<m->cV β' (L.eA i) (nd ns i).ah:=
 iL.base h h1 h2 (Φ:=λi b=>cV b (L.eA i) (nd ns i).ah) (λi _ F hF hO=>cD.gU (show (HP.abs (aG 149 2 (L.eA i) (nd ns i).ah.length (L.eC i) (mV (nd ns i).ah))).h F _ from hF) hO h2)
theorem adt {L:eP} {F:Fp} {w:World} {m:Nat} (h:(HP.abs (iL (lg ns L) m)).h F w) (h1:∀k,F k->β'.O k) (h2:β'.w0=w):∀i,i<m->bJ β' (L.dA i) (nd ns i).data:=
 iL.base h h1 h2 (Φ:=λi b=>bJ b (L.dA i) (nd ns i).data) (λi _ F hF hO=>cD.gU (show (HP.abs (aG 5 1 (L.dA i) (nd ns i).data.length (L.dC i) (dL (nd ns i).data))).h F _ from hF) hO h2)
theorem OX:∀m,i<m->(nd ns i).data.length<=fW ns m
 |0,h=>ahh h (ahm _)
 |m+1,h=>by
   show _<=fW ns m+(nd ns m).data.length
   by_cases e:i=m
   ·subst e;omega
   have:=OX m zc;omega
theorem RB.hd (h:RB R):∀i,i<R.ns.length->(nd R.ns i).data.length<=140737488355328/\(nd R.ns i).ah.length<=1048576:=λi hi=>⟨ahk (OX _ hi) h.dat,ahk (h.row hi) Pd⟩
structure RD (q:Nat) (R:RS):Prop where
 ns:R.ns.length<=4097
 aH:R.aH.length<=4096+q
 us:R.us.length<=1024
 ah:dM R.ns R.ns.length<=8192+q
 dat:fW R.ns R.ns.length<=140737488355328
theorem RD.rb {q:Nat} (h:RD q R) (hq:q<=8):RB R:=⟨h.ns,by have:=h.aH;omega,h.us,by have:=h.ah;omega,h.dat⟩
theorem RD.up {q m:Nat} (h:RD q R) (hm:q<=m):RD m R:=⟨h.ns,by have:=h.aH;omega,h.us,by have:=h.ah;omega,h.dat⟩
theorem Jz (hk:k<ns.length):∀m:Nat,dM (ns.set k n) m+(if k<m then (nd ns k).ah.length else 0)=dM ns m+(if k<m then n.ah.length else 0)
 |0=>rfl
 |m+1=>by
   have h:=Jz hk m
   show dM (ns.set k n) m+(nd (ns.set k n) m).ah.length+_=dM ns m+(nd ns m).ah.length+_
   rw [qx hk]
   by_cases e:m=k
   ·subst e
    rw [ahe (ah9 _),ahe (ah9 _)] at h
    rw [ahf rfl,ahf (ahI _),ahf (ahI _)]
    omega
   rw [ahe e]
   by_cases e2:k<m
   ·rw [ahf e2,ahf e2] at h;rw [ahf zc,ahf zc];omega
   rw [ahe e2,ahe e2] at h;rw [ahe zc,ahe zc];omega
theorem JA (hk:k<ns.length):∀m:Nat,fW (ns.set k n) m+(if k<m then (nd ns k).data.length else 0)=fW ns m+(if k<m then n.data.length else 0)
 |0=>rfl
 |m+1=>by
   have h:=JA hk m
   show fW (ns.set k n) m+(nd (ns.set k n) m).data.length+_=fW ns m+(nd ns m).data.length+_
   rw [qx hk]
   by_cases e:m=k
   ·subst e
    rw [ahe (ah9 _),ahe (ah9 _)] at h
    rw [ahf rfl,ahf (ahI _),ahf (ahI _)]
    omega
   rw [ahe e]
   by_cases e2:k<m
   ·rw [ahf e2,ahf e2] at h;rw [ahf zc,ahf zc];omega
   rw [ahe e2,ahe e2] at h;rw [ahe zc,ahe zc];omega
theorem V1 {s z:Int} (hk:k<ns.length) (he:es.length<=(nd ns k).ah.length+1):dM (nK s z ns k es) (nK s z ns k es).length<=dM ns ns.length+1/\fW (nK s z ns k es) (nK s z ns k es).length=fW ns ns.length:=by
 grind [AO,Jz,nd,JA,nK]
theorem RD.nK {q:Nat} (h:RD q R) (hk:k<R.ns.length) (he:es.length<=(nd R.ns k).ah.length+1) {R':RS} (hn:R'.ns=nK R.cS R.cZ R.ns k es) (hu:R'.us=R.us) (hg:R'.aH.length<=R.aH.length+1):RD (q+1) R':=by
 have h1:=V1 (s:=R.cS) (z:=R.cZ) hk he
 have h2:R'.ns.length=R.ns.length:=by rw [hn,AO]
 refine⟨by rw [h2];exact h.ns,by have:=h.aH;omega,by rw [hu];exact h.us,?_,?_⟩
 ·rw [hn];have:=h.ah;omega
 rw [hn];have:=h.dat;omega
def DE (R:RS) (d:Nat) (name:ByteArray):RS:={R with ns:=nK R.cS R.cZ R.ns d (rY name (nd R.ns d).ah)}
theorem acg {name:ByteArray}:(DE R d name).ns.length=R.ns.length:=ahp ..
theorem R4 {name:ByteArray} {b:Bool} (hf:b=true) (h:uh (DE R d name).ns (rf name (nd R.ns d).ah 0)=0):(cX R d name b).aH=R.aH++[rf name (nd R.ns d).ah 0]:=ahf ⟨hf,h⟩
theorem JB {name:ByteArray} {b:Bool} (h:b=true->¬uh (DE R d name).ns (rf name (nd R.ns d).ah 0)=0):(cX R d name b).aH=R.aH:=ahe (λq=>h q.1 q.2)
theorem V3 {name:ByteArray}:(rY name es).length<=es.length:=ah1 ..
theorem RD.del {q:Nat} {name:ByteArray} (h:RD q R) (hk:d<R.ns.length):RD (q+1) (DE R d name):=h.nK hk (Nat.le_succ_of_le V3) rfl rfl (Nat.le_succ _)
theorem RD.R5 {q:Nat} {name:ByteArray} {b:Bool} (h:RD q R) (hk:d<R.ns.length):RD (q+1) (cX R d name b):=by
 refine h.nK hk (Nat.le_succ_of_le V3) rfl rfl ?_
 grind [cX]
theorem R6 {name:ByteArray} {id:Int}:∀l:List fH,(mP name id l).length=l.length+1
 |[]=>rfl
 |e::r=>by
   unfold mP
   split
   ·rfl
   rw [ahQ,R6 r];rfl
theorem RD.bU {q:Nat} {name:ByteArray} {id:Int} (h:RD q R) (hk:d<R.ns.length):RD (q+1) (dh R d name id):=h.nK hk (Nat.le_of_eq (R6 _)) rfl rfl (Nat.le_succ _)
theorem EV {q:List Int} {z:Int} {B:Option Addr} {c:Nat}:HP.abs (aG 3 1 B (q.length+1) c (bL q++[.int .i64 z]))=HP.abs (aG 3 1 B (q++[z]).length c (bL (q++[z]))):=by
 rw [Gw,ahl];rfl
theorem OY (l:List Int):∀u∈bL l,u.oneCell'=true:=by
 intro u hu
 obtain⟨b,_,rfl⟩:=ahx.1 hu
 rfl
theorem lV.same {H V:Option Addr} (h:lV β R L H V) {R':RS} (hn:R'.ns=R.ns) (hu:R'.us=R.us):lV β R' L H V:=⟨by rw [hn];exact h.data,by rw [hn];exact h.ah,by rw [hu];exact h.h,by rw [hu];exact h.v⟩
theorem lV.snoc {H V:Option Addr} (h:lV β R L H V) {R':RS} (hn:R'.ns=R.ns++[n]) (hd:n.data=[]) (he:n.ah=[]) (hu:R'.us=R.us):lV β R' (L.put R.ns.length none 0 none 0) H V:=by
 have h0:∀{xs:List Value},xs=[]->cD β none xs:=λe j v hj=>by rw [e] at hj;cases hj
 have hl:R'.ns.length=R.ns.length+1:=by rw [hn,ahl];rfl
 refine⟨λi hi=>?_,λi hi=>?_,by rw [hu];exact h.h,by rw [hu];exact h.v⟩
 ·rw [hn]
  show bJ β (if i=R.ns.length then none else L.dA i) _
  by_cases e:i=R.ns.length
  ·subst e;rw [ahf rfl,wM,hd];exact h0 rfl
  rw [ahe e,zE zc];exact h.data i zc
 rw [hn]
 show cV β (if i=R.ns.length then none else L.eA i) _
 by_cases e:i=R.ns.length
 ·subst e;rw [ahf rfl,wM,he];exact h0 rfl
 rw [ahe e,zE zc];exact h.ah i zc
theorem RD.last {q:Nat} (h:RD q R) (z:Int):RD q {R with last:=z}:=⟨h.ns,h.aH,h.us,h.ah,h.dat⟩
theorem OZ (h:(R.us.length:Int)<R.cH):kY R k=({R with us:=ins (aS R.us) (nd R.ns k).id R.us,aI:=max R.aI ((R.us.length:Int)+1)},aS R.us,0):=ahf h
theorem R7 (h:¬(R.us.length:Int)<R.cH):kY R k=(R,0,130):=ahe h
structure RU (R:RS):Prop where
 us:R.us.length<=1024
 usr:aF.dH (bn R.us)
 xX:∀z∈bn R.us,1<=z
theorem RC.ru (h:RC R):RU R:=⟨h.us,h.usr,h.xX⟩
theorem RU.same {R':RS} (h:RU R) (hu:R'.us=R.us):RU R':=⟨by rw [hu];exact h.us,by rw [hu];exact h.usr,by rw [hu];exact h.xX⟩
theorem afQ {z:Int}:z∈iZ R.us↔∃q,q<R.us.length/\(iZ R.us).getD q 0=z:=by
 have hl:=mM R.us
 refine⟨λh=>?_,λ⟨q,h1,h2⟩=>h2 ▸ BR zc⟩
 obtain⟨q,hq,e⟩:=ahW h
 exact⟨q,zc,Pe⟩
theorem O0 {p:List aO} (h:p=tP R R.ns.length):(gn R).ns=p:=by rw [LZ,h]
theorem JC {l:List Int} (h:l=pY R R.ns.length):(gn R).aH=l:=by rw [LZ,h]
theorem Y6 {An Ag:Option Addr} {cn cg:Nat} {p:List aO} {l:List Int} {K:eP} (hR:dz β R Y) (hN:cD β An (bH K p)) (hG:cD β Ag (bL l)) (hp:p=tP R R.ns.length) (hl:l=pY R R.ns.length) (hK:oG β p p.length K):dz β (gn R) ⟨An,cn,K,Ag,cg,Y.H,Y.ch,Y.V,Y.cv⟩:=by
 have e1:=O0 hp
 have e2:=JC hl
 exact⟨⟨by rw [e2];exact hG,hR.h,hR.v⟩,⟨by rw [e1];exact hN,by rw [e1];exact hK.data,by rw [e1];exact hK.ah⟩⟩
theorem oG.snoc {p:List aO} {K:eP} {dA eA:Option Addr} {dC eC:Nat} (h:oG β p p.length K) (hd:bJ β dA n.data) (he:cV β eA n.ah):oG β (p++[n]) (p++[n]).length (K.put p.length dA dC eA eC):=by
 have e:(p++[n]).length=p.length+1:=by rw [ahl];rfl
 rw [e]
 refine oG.put (k:=p.length) ⟨λi hi=>?_,λi hi=>?_⟩ (by rw [wM];exact hd) (by rw [wM];exact he)
 ·rw [zE hi];exact h.data i hi
 rw [zE hi];exact h.ah i hi
theorem H7 {p:List aO} {K:eP} {dA eA A:Option Addr} {dC eC cN:Nat} {dn en:Nat} (hd:n.data.length=dn) (he:n.ah.length=en) :
 HP.abs (aG 95 10 A (p.length+1) cN (bH K p++[.int .i64 n.id,.int .i64 n.kind,.int .i64 n.mode,.int .i64 n.bg,.int .i64 n.bh,.int .i64 n.aU,.int .i64 n.aJ,.slice dA dn dC,.string n.target,.slice eA en eC]))=HP.abs (aG 95 10 A (p++[n]).length cN (bH (K.put p.length dA dC eA eC) (p++[n]))):=by
 grind [vM]
end o
def nM (e:TypeId) (size:Nat) (A:Option Addr) (n cap:Nat):dV where
 h F w:=∃xs,(aG e size A n cap xs).h F w
 lt:=λ⟨xs,h⟩=>(aG e size A n cap xs).lt h
 st:=λ⟨xs,h⟩ _ _ hk hn=>⟨xs,(aG e size A n cap xs).st h hk hn⟩
def ae8 (ns ms:List aO):Prop:=ms.length=ns.length/\∀k,(nd ms k).data.length=(nd ns k).data.length/\(nd ms k).ah.length=(nd ns k).ah.length
def ag0 (A:Option Addr) (c:Nat) (ns:List aO) (K:eP):dV where
 h F w:=∃ms,ae8 ns ms/\(aG 95 10 A ms.length c (bH K ms)).h F w
 lt:=λ⟨_,_,h⟩=>(aG _ _ _ _ _ _).lt h
 st:=λ⟨ms,h',h⟩ _ _ hk hn=>⟨ms,h',(aG _ _ _ _ _ _).st h hk hn⟩
def Wr (Z:dV) (a:Addr) (u:Value):Prop:=∀F w,Z.h F w->(∃x,w.cell? a=some x)/\w.frozen? a=false/\∃F',Z.h F' (w.setCell a u)/\Step F w F' (w.setCell a u)
section wr
variable {e:TypeId} {size n cap c j k i:Nat} {A:Option Addr} {u:Value} {ns:List aO} {K:eP} {R R':Nat->dV} {a:Addr}
theorem Wr.adu {xs:List Value} (hn:0<n) (hj:j<n*size) {F:Fp} {w:World} (h:(aG e size A n cap xs).h F w) :
 (∃x,w.cell? ⟨br A,bq A+j,none⟩=some x)/\w.frozen? ⟨br A,bq A+j,none⟩=false/\∃F',(aG e size A n cap (xs.set j u)).h F' (w.setCell ⟨br A,bq A+j,none⟩ u)/\Step F w F' (w.setCell ⟨br A,bq A+j,none⟩ u):=by
 obtain⟨g,rfl⟩:=aG.head h hn
 have hl:=(aG.len h).1
 have hj':j<xs.length:=zc
 rw [show (⟨br (some ⟨g,0,none⟩),bq (some ⟨g,0,none⟩)+j,none⟩:Addr)=⟨g,j,none⟩ from ahg (λo=>(⟨g,o,none⟩:Addr)) (ahy j)]
 obtain⟨x,hx⟩:=lq hj'
 refine⟨⟨x,aG.cell hx F w h⟩,?_,xh hj' F h⟩
 obtain⟨⟨_,h2⟩,_⟩:=h
 rcases h2 with ⟨e,_⟩|⟨g',cp,cur,e,_,hb,_⟩
 ·cases e
 cases e;simp [World.frozen?,hb]
theorem Wr.row (hn:0<n) (hj:j<n*size):Wr (nM e size A n cap) ⟨br A,bq A+j,none⟩ u:=λ_ _ ⟨_,h⟩=>
 let ⟨h1,h2,F',h3,h4⟩:=Wr.adu (u:=u) hn hj h
 ⟨h1,h2,F',⟨_,h3⟩,h4⟩
theorem Wr.N0 (hk:k<n) (hR:R k=R' k) (hW:Wr (R' k) a u):Wr (iL R n) a u:=λF w ⟨φ,h1,h2,h3⟩=>by
 obtain⟨hc,hf,F',g1,g2⟩:=hW _ _ (hR ▸ h1 k hk)
 have fr:∀i,i<n->i≠k->(R i).h (φ i) (w.setCell a u)/\Apart (φ i) F':=λi hi bV=>dV.frame (h1 i hi) g2 (h2 i k hi hk bV)
 refine⟨hc,hf,λy=>F' y\/∃i,i<n/\i≠k/\φ i y,⟨λi=>if i=k then F' else φ i,λi hi=>?_,λi j hi hj bV=>?_,λy=>?_⟩,?_⟩
 ·by_cases e:i=k
  ·simp only [e,if_true];exact hR ▸ g1
  simp only [e,if_false];exact (fr i hi e).1
 ·intro y hy hy'
  by_cases e:i=k
  ·by_cases e2:j=k
   ·exact bV (e.trans e2.symm)
   simp only [e,if_true] at hy;simp only [e2,if_false] at hy';exact (fr j hj e2).2 y hy' hy
  simp only [e,if_false] at hy
  by_cases e2:j=k
  ·simp only [e2,if_true] at hy';exact (fr i hi e).2 y hy hy'
  simp only [e2,if_false] at hy';exact h2 i j hi hj bV y hy hy'
 ·constructor
  ·rintro (hy|⟨i,hi,bV,hy⟩)
   ·exact⟨k,hk,by simpa using hy⟩
   exact⟨i,hi,by simpa [bV] using hy⟩
  rintro⟨i,hi,hy⟩
  by_cases e:i=k
  ·simp only [e,if_true] at hy;exact .inl hy
  simp only [e,if_false] at hy;exact .inr ⟨i,hi,e,hy⟩
 obtain⟨q1,q2⟩:=g2
 refine⟨q1.mono (λy _ hy=>(h3 y).2 ⟨k,hk,hy⟩),λy hy=>?_⟩
 rcases hy with hy|⟨i,hi,_,hy⟩
 ·exact (q2 y hy).imp (λhy=>(h3 y).2 ⟨k,hk,hy⟩) id
 exact .inl ((h3 y).2 ⟨i,hi,hy⟩)
variable {P:Program} {β:Bs} {N:fQ} {ops:Array Oper} {fr:Fr} {ax:List HP} {Q:Post}
def D8 (N:fQ) (ops:Array Oper) (fr:Fr) (k:Nat):Operand×Operand:=
 match iK N (λ_=>undef) ops fr k with
 |some (.store _ a y,_)=>(a,y)
 |_=>(.tmp 0,.tmp 0)
theorem wS (i:Nat) (T:TypeId) (u:Value) {Z:dV} {a:Addr} (hp:ax[i]?=some (.abs Z)) (hW:Wr Z a u) (K':av P β N ops (k+1) (eV fr (iX ops k) undef) ax Q)
 (bX:∀ai,iK N ai ops fr k=some (.store T (D8 N ops fr k).1 (D8 N ops fr k).2,iX ops k):=by intro _;kernel_rfl) (ha:∀ai,eX N fr ai (D8 N ops fr k).1=.pointer (some a):=by intro _;kernel_rfl)
 (hy:∀ai,eX N fr ai (D8 N ops fr k).2=u:=by intro _;kernel_rfl) (hT:(P.info? T).map (·.size)=some 1:=by kernel_rfl) (hu:u.oneCell'=true:=by rfl):av P β N ops k fr ax Q:=by
 refine av.mT bX (λo ai w ho hS=>?_) K'
 obtain⟨F,hF⟩:=hS.get hp
 obtain⟨⟨x,hc⟩,hf,_⟩:=hW F w hF
 have e:ax.set i (.abs Z)=ax:=by
  apply List.ext_getElem?
  intro q
  by_cases e:i=q
  ·subst e;rw [aie (dF hp),hp]
  rw [aik e]
 refine⟨w.setCell a u,.inr ⟨rfl,?_⟩,e ▸ hS.set (p':=.abs Z) hp (λF hF=>(hW F w hF).2.2)⟩
 obtain⟨inf,hi,eG⟩:∃inf,P.info? T=some inf/\inf.size=1:=by
  cases h:P.info? T with
  |none=>rw [h] at hT;cases hT
  |some inf=>rw [h] at hT;exact⟨inf,rfl,by simpa using hT⟩
 have h3:=qd hi w
 rw [eG] at h3
 have ha:=ha ai
 have hy:=hy ai
 generalize (D8 N ops fr k).1=a1 at ha ho
 generalize (D8 N ops fr k).2=y1 at hy ho
 obtain⟨dst,op,type,pos,after,guard⟩:=o
 cases ho
 obtain⟨b,q,s⟩:=a
 cases u<;>first
  |(simp [Value.oneCell'] at hu;done)
  |(simp only [execOp,ha,hy];simp [go_sem,Instr.storeAt,Instr.sureAddr,storeVar,h3,Value.cells,storeCells,store,Addr.add,Sem.run,hc,hf])
end wr
def enX (ns:List aO) (K:eP) (i:Nat):dV:=nM 149 2 (K.eA i) (nd ns i).ah.length (K.eC i)
def daX (ns:List aO) (K:eP) (i:Nat):dV:=nM 5 1 (K.dA i) (nd ns i).data.length (K.dC i)
section parts
variable {A:Option Addr} {c i k n m cap size:Nat} {e:TypeId} {ns:List aO} {K:eP} {R:Nat->dV} {F:Fp} {w:World}
theorem nM.of {xs:List Value}:∀F w,(HP.abs (aG e size A n cap xs)).h F w->(HP.abs (nM e size A n cap)).h F w:=λ_ _ h=>⟨_,h⟩
variable {P:Program} {β:Bs} {N:fQ} {ops:Array Oper} {fr:Fr} {ax:List HP} {Q:Post}
theorem av.TS (i:Nat) (hp:ax[i]?=some (.abs (nM e size A n cap))) (hn:0<n) (H:A=some ⟨br A,bq A,none⟩->av P β N ops k fr ax Q):av P β N ops k fr ax Q:=
 av.tell (λ_ hS=>let ⟨_,_,h⟩:=hS.get hp;(aG.Bo h hn).1) H
theorem av.ae9 (i x:Nat) (hp:ax[i]?=some (.abs (iL R n))) (hx:x<n) (hR:R x=nM e size A m cap) (hm:0<m) (H:A=some ⟨br A,bq A,none⟩->av P β N ops k fr ax Q):av P β N ops k fr ax Q:=
 av.tell (λ_ hS=>by
  obtain⟨F,φ,h1,_,_⟩:=hS.get hp
  obtain⟨xs,h⟩:(nM e size A m cap).h (φ x) _:=hR ▸ h1 x hx
  exact (aG.Bo h hm).1) H
end parts
end
section
open Go.RowKit
theorem j7.wide {ns:List aO} {b b':Nat} (h:j7 ns b) (hb:b<=b'):j7 ns b':=⟨ahk h.len hb,λi hi=>by
 have:=h.node i hi
 exact⟨this.ids,ahk this.data hb,ahk this.target hb,ahk this.ah hb,λj hj=>⟨(this.bU j hj).id,ahk (this.bU j hj).name hb⟩⟩⟩
section gb
variable {ns:List aO} (h:j7 ns 1048576)
include h
theorem tQ:ns.length<=1048576:=by have:=h.len;omega
theorem BV:∀i,i<ns.length->(nd ns i).data.length<=1048576/\(nd ns i).ah.length<=1048576:=λi hi=>by
 have h1:=(h.node i hi).data
 have h2:=(h.node i hi).ah
 omega
theorem JD:∀i,i<ns.length->∀j,j<(nd ns i).ah.length->-9223372036854775808<=(bU ns i j).id/\(bU ns i j).id<=9223372036854775807:=λi hi j hj=>((h.node i hi).bU j hj).id
theorem JE:∀i,i<ns.length->∀j,j<(nd ns i).ah.length->(bU ns i j).name.size<=1048576:=λi hi j hj=>by
 have h1:=((h.node i hi).bU j hj).name
 unfold bU
 omega
theorem aaU:∀i,i<ns.length->(nd ns i).target.size<=1048576:=λi hi=>by
 have h1:=(h.node i hi).target
 omega
end gb
structure afR (X:FM):Prop where
 cN:yg X.cN
 cB:yg X.cB
 cH:yg X.cH
 cS:yg X.cS
 cZ:yg X.cZ
end
section
open Go.RowKit Go.Maps bG aF
noncomputable section
structure dI where
 at_:Int
 kind:Int
def iJ (f:dI):List Value:=[.int .i64 f.at_,.int .i64 f.kind]
instance:Inhabited dI:=⟨⟨0,0⟩⟩
instance:Inhabited dO:=⟨⟨0,0,⟨#[]⟩,⟨#[]⟩,⟨#[]⟩⟩⟩
def pK (fs:List dI) (i:Nat):dI:=fs.getD i default
def act (xs:List dO) (i:Nat):dO:=xs.getD i default
def FK (f:dI):Prop:=1<=f.kind/\f.kind<=3
instance (f:dI):Decidable (FK f):=inferInstanceAs (Decidable (_/\_))
def iQ:List dI->Int->Int
 |[],_=>0
 |f::r,n=>if f.at_=n/\FK f then f.kind else iQ r n
def dS (xs:List dO) (n:Int):List dO:=xs.filter (λa=>decide (a.at_=n))
def kK (au:Int) (S:bB) (xs:List dO):bB:=xs.foldl (λS a=>(cR S au a).2) S
def jg (c:aP) (e:Int):aP:=if c.op=11\/c.op=12 then ⟨c.op,c.aN,0,c.name,c.text,c.dA,c.dC,c.data,0,0,0,0,0,e,0⟩ else {c with answer:=0,code:=e}
def dZ (k:Int) (S:bB) (c:aP):bB×aP:=
 if k=1 then (if c.op=13 then (gG S c).1 else S,jg c 180)
 else if k=2/\(c.op=4\/c.op=5\/c.op=6\/c.op=7\/c.op=9) then (S,jg c 176)
 else if k=3/\c.op=9/\2<=c.data.length then ((gG S {c with data:=c.data.take (c.data.length / 2)}).1,{ (gG S {c with data:=c.data.take (c.data.length / 2)}).2 with dA:=c.dA,dC:=c.dC,data:=c.data})
 else gG S c
def cI (au:Int) (c:aP):aP:=if c.op=1 then {c with other:=au} else c
def mZ (fs:List dI) (xs:List dO) (au:Int) (n:Nat) (S:bB) (c:aP):bB×aP:=dZ (iQ fs n) (kK au S (dS xs n)) (cI au c)
section p
variable {S:bB} {c:aP} {fs gs:List dI} {xs ys:List dO} {au k:Int} {n:Nat} {A:Option Addr} {m:Nat}
theorem tS (f:dI) (x:Int):∀fs:List dI,iQ (fs++[f]) x=if iQ fs x=0 then (if f.at_=x/\FK f then f.kind else 0) else iQ fs x
 |[]=>rfl
 |g::r=>by
   show (if g.at_=x/\FK g then g.kind else iQ (r++[f]) x)=if (if g.at_=x/\FK g then g.kind else iQ r x)=0 then _ else (if g.at_=x/\FK g then g.kind else iQ r x)
   by_cases h:g.at_=x/\FK g
   ·have:¬g.kind=0:=by have:=h.2.1;omega
    rw [ahf h,ahf h,ahe this]
   rw [ahe h,ahe h,tS f x r]
theorem xD (a:dO) (x:Int):dS (xs++[a]) x=if a.at_=x then dS xs x++[a] else dS xs x:=by
 unfold dS
 rw [List.filter_append]
 by_cases h:a.at_=x
 ·rw [ahf h,List.filter_cons_of_pos (by simpa using h),List.filter_nil]
 rw [ahe h,List.filter_cons_of_neg (by simpa using h),List.filter_nil,List.append_nil]
theorem JF (x:Int):(dS xs x).length<=xs.length:=ah1 ..
theorem TU {x:Int} {a:dO} (h:a∈dS xs x):a∈xs:=(List.mem_filter.1 h).1
theorem JG (a:dO):kK au S (xs++[a])=(cR (kK au S xs) au a).2:=by
 unfold kK;rw [List.foldl_append];rfl
theorem zK {i:Nat} (h:i<xs.length):xs[i]?=some (act xs i):=getD_some h
theorem F5 {i:Nat} (h:i<fs.length):fs[i]?=some (pK fs i):=getD_some h
theorem TV {i:Nat} (h:i<xs.length):kK au S (xs.take (i+1))=(cR (kK au S (xs.take i)) au (act xs i)).2:=by
 rw [ahK,zK h];exact JG _
theorem bT.kK (h:bT S):∀xs:List dO,bT (Proofs.YtbnfiigafobejaaGreat.kK au S xs):=λxs=>by
 induction xs generalizing S with
 |nil=>exact h
 |cons a r ih=>exact ih h.cR
theorem bT.dZ (h:bT S):bT (Proofs.YtbnfiigafobejaaGreat.dZ k S c).1:=by
 unfold Proofs.YtbnfiigafobejaaGreat.dZ
 split
 ·show bT (if c.op=13 then _ else _)
  split
  ·exact h.gG _
  exact h
 split
 ·exact h
 split
 ·exact h.gG _
 exact h.gG _
theorem bT.mZ (h:bT S):bT (Proofs.YtbnfiigafobejaaGreat.mZ fs xs au n S c).1:=(h.kK _).dZ
def dJ (A:Option Addr) (m:Nat) (c:aP):aP:={c with dA:=A,dC:=m}
theorem adv:iF S (dJ A m c)=((iF S c).1,(iF S c).2.1,dJ A m (iF S c).2.2):=by
 by_cases bX:1<=c.op/\c.op<=15
 case neg=>rw [AB bX,AB (c:=dJ A m c) bX]
 have bX:c.op=1\/c.op=2\/c.op=3\/c.op=4\/c.op=5\/c.op=6\/c.op=7\/c.op=8\/c.op=9\/c.op=10\/c.op=11\/c.op=12\/c.op=13\/c.op=14\/c.op=15:=zc
 rcases bX with q|q|q|q|q|q|q|q|q|q|q|q|q|q|q
 ·rw [zl q,zl (c:=dJ A m c) q];unfold kX dJ;simp only;cases aF.get S.ar c.other<;>(try simp only)<;>(repeat' split)<;>rfl
 ·rw [BB q,BB (c:=dJ A m c) q];unfold gZ jL dJ;simp only;split<;>(repeat' split)<;>rfl
 ·rw [BD q,BD (c:=dJ A m c) q];unfold fZ jL dJ;simp only;split<;>(repeat' split)<;>rfl
 ·rw [zm q,zm (c:=dJ A m c) q];unfold je dJ;simp only;split<;>(repeat' split)<;>rfl
 ·rw [BF q,BF (c:=dJ A m c) q];unfold fq dJ;simp only;split<;>(repeat' split)<;>rfl
 ·rw [BG q,BG (c:=dJ A m c) q];unfold iE dJ;simp only;split<;>(repeat' split)<;>rfl
 ·rw [BH q,BH (c:=dJ A m c) q];unfold dX dJ;simp only;split<;>(repeat' split)<;>rfl
 ·rw [BI q,BI (c:=dJ A m c) q];unfold jD dJ;simp only;split<;>(repeat' split)<;>rfl
 ·rw [BJ q,BJ (c:=dJ A m c) q];unfold iw dJ;simp only;split<;>(repeat' split)<;>rfl
 ·rw [x5 q,x5 (c:=dJ A m c) q];unfold cY dJ;simp only;split<;>(repeat' split)<;>rfl
 ·rw [x6 q,x6 (c:=dJ A m c) q];unfold og dJ;simp only;split<;>(repeat' split)<;>rfl
 ·rw [x7 q,x7 (c:=dJ A m c) q];unfold jw jL dJ;simp only;split<;>(repeat' split)<;>rfl
 ·rw [x9 q,x9 (c:=dJ A m c) q];unfold jW dJ;simp only;split<;>(repeat' split)<;>rfl
 ·rw [yc q,yc (c:=dJ A m c) q];unfold kq dJ;simp only;split<;>(repeat' split)<;>rfl
 rw [ye q,ye (c:=dJ A m c) q];unfold iV dJ;simp only;split<;>(repeat' split)<;>rfl
theorem Y7:(iF S c).2.2.data=c.data:=by
 by_cases bX:1<=c.op/\c.op<=15
 case neg=>rw [AB bX]
 have bX:c.op=1\/c.op=2\/c.op=3\/c.op=4\/c.op=5\/c.op=6\/c.op=7\/c.op=8\/c.op=9\/c.op=10\/c.op=11\/c.op=12\/c.op=13\/c.op=14\/c.op=15:=zc
 rcases bX with q|q|q|q|q|q|q|q|q|q|q|q|q|q|q
 ·rw [zl q];unfold kX;(repeat' split)<;>rfl
 ·rw [BB q];unfold gZ;(repeat' split)<;>rfl
 ·rw [BD q];unfold fZ;(repeat' split)<;>rfl
 ·rw [zm q];unfold je;(repeat' split)<;>rfl
 ·rw [BF q];unfold fq;(repeat' split)<;>rfl
 ·rw [BG q];unfold iE;(repeat' split)<;>rfl
 ·rw [BH q];unfold dX;(repeat' split)<;>rfl
 ·rw [BI q];unfold jD;(repeat' split)<;>rfl
 ·rw [BJ q];unfold iw;(repeat' split)<;>rfl
 ·rw [x5 q];unfold cY;(repeat' split)<;>rfl
 ·rw [x6 q];unfold og oe;(repeat' split)<;>rfl
 ·rw [x7 q];unfold jw oe;(repeat' split)<;>rfl
 ·rw [x9 q];unfold jW;(repeat' split)<;>rfl
 ·rw [yc q];unfold kq;(repeat' split)<;>rfl
 rw [ye q];unfold iV;(repeat' split)<;>rfl
theorem O3:gG S (dJ A m c)=((gG S c).1,dJ A m (gG S c).2):=by
 have h:=adv (S:=S) (A:=A) (m:=m) (c:={c with answer:=0,code:=230})
 unfold gG
 rw [show ({dJ A m c with answer:=0,code:=230}:aP)=dJ A m {c with answer:=0,code:=230} from rfl,h]
 rfl
theorem O4:(gG S c).2.data=c.data:=Y7 (c:={c with answer:=0,code:=230})
theorem O5 {e:Int}:jg (dJ A m c) e=dJ A m (jg c e):=by
 unfold jg
 by_cases h:c.op=11\/c.op=12
 ·rw [ahf h,ahf (show (dJ A m c).op=11\/(dJ A m c).op=12 from h)];rfl
 rw [ahe h,ahe (show ¬((dJ A m c).op=11\/(dJ A m c).op=12) from h)];rfl
theorem vR {e:Int}:(jg c e).data=c.data:=by
 unfold jg;split<;>rfl
theorem QS:(dZ k S c).2.data=c.data:=by
 unfold dZ
 split
 ·exact vR
 split
 ·exact vR
 split
 ·rfl
 exact O4
theorem L5:dZ k S (dJ A m c)=((dZ k S c).1,dJ A m (dZ k S c).2):=by
 unfold dZ
 by_cases h1:k=1
 ·rw [ahf h1,ahf h1]
  show (if c.op=13 then (gG S (dJ A m c)).1 else S,jg (dJ A m c) 180)=_
  rw [O3,O5]
 rw [ahe h1,ahe h1]
 by_cases h2:k=2/\(c.op=4\/c.op=5\/c.op=6\/c.op=7\/c.op=9)
 ·rw [ahf h2,ahf (show k=2/\((dJ A m c).op=4\/(dJ A m c).op=5\/(dJ A m c).op=6\/(dJ A m c).op=7\/(dJ A m c).op=9) from h2),O5]
 rw [ahe h2,ahe (show ¬(k=2/\((dJ A m c).op=4\/(dJ A m c).op=5\/(dJ A m c).op=6\/(dJ A m c).op=7\/(dJ A m c).op=9)) from h2)]
 by_cases h3:k=3/\c.op=9/\2<=c.data.length
 ·rw [ahf h3,ahf (show k=3/\(dJ A m c).op=9/\2<=(dJ A m c).data.length from h3)]
  show ((gG S (dJ A m {c with data:=c.data.take (c.data.length / 2)})).1,{ (gG S (dJ A m {c with data:=c.data.take (c.data.length / 2)})).2 with dA:=A,dC:=m,data:=c.data})=_
  rw [O3];rfl
 rw [ahe h3,ahe (show ¬(k=3/\(dJ A m c).op=9/\2<=(dJ A m c).data.length) from h3)]
 exact O3
theorem Y8:cI au (dJ A m c)=dJ A m (cI au c):=by
 unfold cI
 by_cases h:c.op=1
 ·rw [ahf h,ahf (show (dJ A m c).op=1 from h)];rfl
 rw [ahe h,ahe (show ¬(dJ A m c).op=1 from h)]
theorem V4:mZ fs xs au n S (dJ A m c)=((mZ fs xs au n S c).1,dJ A m (mZ fs xs au n S c).2):=by
 unfold mZ
 rw [Y8,L5]
theorem zn:(cI au c).data=c.data:=by
 unfold cI;split<;>rfl
theorem GI:(mZ fs xs au n S c).2.data=c.data:=QS.trans zn
theorem QT {sV:Int} (h:sV=if c.op=1 then au else c.other):cI au c={c with other:=sV}:=by
 unfold cI
 by_cases e:c.op=1
 ·rw [ahf e] at h ⊢;rw [h]
 rw [ahe e] at h ⊢;rw [h]
end p
end
end
section
open Go.RowKit Go.WideShapes Go.ChangeShapes Go.ChangeAt Go.Deep
def bO {α:Type} (f:α->List Value) (xs:List α):List Value:=fw (λ_ x=>f x) 0 xs
theorem EW {α:Type} {f:α->List Value} {s:Nat} (hf:∀a,(f a).length=s) {xs:List α} {i j:Nat} {a:α} (h:xs[i]?=some a) (hj:j<s):(bO f xs)[i*s+j]?=(f a)[j]?:=vg (f:=λ_ x=>f x) (s:=s) (λ_ a=>hf a) xs 0 i j _ h hj
def jP (a:dO):List Value:=[.int .i64 a.at_,.int .i64 a.op,.string a.path,.string a.to,.string a.text]
structure EX (a:dO) (b:Nat):Prop where
 aw:(Lit.int .i64 a.at_).wf=true
 path:a.path.size<=b
 to:a.to.size<=b
 text:a.text.size<=b
theorem EX.wide {a:dO} {b b':Nat} (h:EX a b) (g:b<=b'):EX a b':=⟨h.aw,ahk h.path g,ahk h.to g,ahk h.text g⟩
structure zo (β:Bs) (c:aP) (b:Nat):Prop where
 data:bJ β c.dA c.data
 len:c.data.length<=b
 name:c.name.size<=b
 text:c.text.size<=b
 hw:(Lit.int .i64 c.aN).wf=true
 ow:(Lit.int .i64 c.other).wf=true
 cap:c.data.length<=c.dC
theorem zo.le {β β':Bs} {c:aP} {b:Nat} (h:zo β c b) (g:β.le β'):zo β' c b:=⟨h.data.le g,h.len,h.name,h.text,h.hw,h.ow,h.cap⟩
theorem zo.wide {β:Bs} {c:aP} {b b':Nat} (h:zo β c b) (g:b<=b'):zo β c b':=⟨h.data,ahk h.len g,ahk h.name g,ahk h.text g,h.hw,h.ow,h.cap⟩
instance:Inhabited aP:=⟨⟨0,0,0,⟨#[]⟩,⟨#[]⟩,none,0,[],0,0,0,0,0,0,0⟩⟩
def bK (xs:List aP) (i:Nat):aP:=xs.getD i default
structure kZ (xs:List dO) (b:Nat):Prop where
 len:xs.length<=b
 q:∀a∈xs,EX a b
structure kR (xs:List dI) (b:Nat):Prop where
 len:xs.length<=b
 q:∀a∈xs,(Lit.int .i64 a.at_).wf=true
theorem kZ.wide {xs:List dO} {b b':Nat} (h:kZ xs b) (g:b<=b'):kZ xs b':=⟨ahk h.len g,λa ha=>(h.q a ha).wide g⟩
theorem kR.wide {xs:List dI} {b b':Nat} (h:kR xs b) (g:b<=b'):kR xs b':=⟨ahk h.len g,h.q⟩
structure fC (β:Bs) (A:Option Addr) (xs:List aP):Prop where
 row:cD β A (bO aL xs)
 q:∀i,i<xs.length->zo β (bK xs i) 1048576
section s
variable {β β':Bs} {A:Option Addr} {i j:Nat} {v:Value}
theorem JH {α:Type} {f:α->List Value} {s:Nat} {xs:List α} {a:α} (h:cD β A (bO f xs)) (hf:∀a,(f a).length=s) (hi:xs[i]?=some a) (hv:(f a)[j]?=some v):A=some ⟨br A,bq A,none⟩/\Rd β ⟨br A,bq A+i*s+j,none⟩ v:=by
 have hj:j<s:=by rw [←hf a];exact dF hv
 have:=h (i*s+j) v ((EW hf hi hj).trans hv)
 rw [←ail] at this
 exact this
theorem fC.le {xs:List aP} (h:fC β A xs) (g:β.le β'):fC β' A xs:=⟨h.row.le g,λi hi=>(h.q i hi).le g⟩
theorem sK {xs:List aP} (h:i<xs.length):xs[i]?=some (bK xs i):=getD_some h
theorem fC.hd {xs:List aP} (h:fC β A xs) (hi:i<xs.length):A=some ⟨br A,bq A,none⟩:=(JH (s:=13) (j:=0) h.row (λ_=>rfl) (sK hi) rfl).1
theorem fC.rd {xs:List aP} (h:fC β A xs) (hi:i<xs.length) (hv:(aL (bK xs i))[j]?=some v):Rd β ⟨br A,bq A+i*13+j,none⟩ v:=(JH h.row (λ_=>rfl) (sK hi) hv).2
theorem M9 {xs:List dO} (h:cD β A (bO jP xs)) (hi:i<xs.length):A=some ⟨br A,bq A,none⟩:=(JH (s:=5) (j:=0) h (λ_=>rfl) (zK hi) rfl).1
theorem qP {xs:List dO} (h:cD β A (bO jP xs)) (hi:i<xs.length) (hv:(jP (act xs i))[j]?=some v):Rd β ⟨br A,bq A+i*5+j,none⟩ v:=(JH h (λ_=>rfl) (zK hi) hv).2
theorem aaV {xs:List dI} (h:cD β A (bO iJ xs)) (hi:i<xs.length):A=some ⟨br A,bq A,none⟩:=(JH (s:=2) (j:=0) h (λ_=>rfl) (F5 hi) rfl).1
theorem Na {xs:List dI} (h:cD β A (bO iJ xs)) (hi:i<xs.length) (hv:(iJ (pK xs i))[j]?=some v):Rd β ⟨br A,bq A+i*2+j,none⟩ v:=(JH h (λ_=>rfl) (F5 hi) hv).2
theorem kR.at {xs:List dI} {b:Nat} (h:kR xs b) (hi:i<xs.length):(Lit.int .i64 (pK xs i).at_).wf=true:=h.q _ (ahN (F5 hi))
theorem kZ.at {xs:List dO} {b:Nat} (h:kZ xs b) (hi:i<xs.length):EX (act xs i) b:=h.q _ (ahN (zK hi))
end s
section a
variable {H:Type} {enc:TypeId×Value->H} {W:World} {sp:Nat->Bool}
theorem nY {t:TypeId} {n:Nat} {c:Value} {x:DataW H×List MemPlace} (ht:Tryz.prog.underlying t=some (.int .i64)) (h:DataW.trod enc Tryz.prog W 0 sp true n t [c]=some x):∃z,c=.int .i64 z/\(Lit.int .i64 z).wf=true:=by
 obtain⟨z,h1,_,h3⟩:=DataW.trod_int ht h
 cases h1
 exact⟨z,rfl,h3⟩
theorem Y9 {n:Nat} {cs:List Value} {x:DataW H×List MemPlace} (h:DataW.trod enc Tryz.prog W 0 sp true n 68 cs=some x):∃a:dO,cs=jP a/\EX a (Rows.uptoBulk x.1):=by
 obtain⟨vs,m,_,hx,hl,hvl,hv⟩:=DataW.trod_struct Tryz.underlying68 h
 have hC:Tryz.prog.cellsOf 68=5:=KB
 rw [hC] at hl
 match cs,hl with
 |[c0,c1,c2,c3,c4],_=>
   obtain⟨a0,_⟩:=cL (hv 0 _ rfl) (by rw [hvl];decide)
   obtain⟨a1,_⟩:=cL (hv 1 _ rfl) (by rw [hvl];decide)
   obtain⟨a2,e2⟩:=cL (hv 2 _ rfl) (by rw [hvl];decide)
   obtain⟨a3,e3⟩:=cL (hv 3 _ rfl) (by rw [hvl];decide)
   obtain⟨a4,e4⟩:=cL (hv 4 _ rfl) (by rw [hvl];decide)
   obtain⟨z0,rfl,w0⟩:=nY (c:=c0) Tryz.underlying3 a0
   obtain⟨z1,rfl,_⟩:=nY (c:=c1) Tryz.underlying3 a1
   obtain⟨s2,rfl,l2⟩:=uM (c:=c2) Tryz.underlying9 a2
   obtain⟨s3,rfl,l3⟩:=uM (c:=c3) Tryz.underlying9 a3
   obtain⟨s4,rfl,l4⟩:=uM (c:=c4) Tryz.underlying9 a4
   have hb:Rows.uptoBulk x.1=Rows.uptoBulk (.agg (vs.map (·.1))):=by rw [hx]
   exact⟨⟨z0,z1,s2,s3,s4⟩,rfl,⟨w0,by show s2.size<=_;omega,by show s3.size<=_;omega,by show s4.size<=_;omega⟩⟩
theorem TW {n:Nat} {cs:List Value} {x:DataW H×List MemPlace} (h:DataW.trod enc Tryz.prog W 0 sp true n 66 cs=some x):∃a:dI,cs=iJ a/\(Lit.int .i64 a.at_).wf=true:=by
 obtain⟨vs,m,_,hx,hl,hvl,hv⟩:=DataW.trod_struct Tryz.underlying66 h
 have hC:Tryz.prog.cellsOf 66=2:=KB
 rw [hC] at hl
 match cs,hl with
 |[c0,c1],_=>
   obtain⟨a0,_⟩:=cL (hv 0 _ rfl) (by rw [hvl];decide)
   obtain⟨a1,_⟩:=cL (hv 1 _ rfl) (by rw [hvl];decide)
   obtain⟨z0,rfl,w0⟩:=nY (c:=c0) Tryz.underlying3 a0
   obtain⟨z1,rfl,_⟩:=nY (c:=c1) Tryz.underlying3 a1
   exact⟨⟨z0,z1⟩,rfl,w0⟩
theorem QU {n:Nat} {c:Value} {x:DataW H×List MemPlace} (h:DataW.trod enc Tryz.prog W 0 sp true n 51 [c]=some x) :
 ∃A cp,∃d:List UInt8,c=.slice A d.length cp/\bJ (B0 W) A d/\d.length+1<=Rows.uptoBulk x.1/\d.length<=cp:=by
 obtain⟨A,cp,d,rfl,h2,h3⟩:=Jo h
 obtain⟨A',c',xs,D,h1,hc,_⟩:=uL (α:=UInt8) (f:=λb=>[Bq b]) (Q:=λ_ _=>True) Tryz.underlying51 (size:=1) KB Pd (λn cs x h=>RQ Tryz.underlying5 h) (λ_=>rfl) h
 have h4:=(List.cons.inj h1).1
 injection h4 with _ e1 e2
 exact⟨A,cp,d,rfl,h2,h3,zc⟩
theorem V5 {n:Nat} {cs:List Value} {x:DataW H×List MemPlace} (h:DataW.trod enc Tryz.prog W 0 sp true n 53 cs=some x):∃c:aP,cs=aL c/\zo (B0 W) c (Rows.uptoBulk x.1):=by
 obtain⟨us,_,_,hux,hl,yh,hu⟩:=DataW.trod_struct Tryz.underlying53 h
 have hC:Tryz.prog.cellsOf 53=13:=KB
 rw [hC] at hl
 match cs,hl with
 |[c0,c1,c2,c3,c4,c5,c6,c7,c8,c9,c10,c11,D9],_=>
   obtain⟨h0,_⟩:=cL (hu 0 _ rfl) (by rw [yh];decide)
   obtain⟨h1,_⟩:=cL (hu 1 _ rfl) (by rw [yh];decide)
   obtain⟨h2,_⟩:=cL (hu 2 _ rfl) (by rw [yh];decide)
   obtain⟨h3,b3⟩:=cL (hu 3 _ rfl) (by rw [yh];decide)
   obtain⟨h4,b4⟩:=cL (hu 4 _ rfl) (by rw [yh];decide)
   obtain⟨h5,b5⟩:=cL (hu 5 _ rfl) (by rw [yh];decide)
   obtain⟨h6,_⟩:=cL (hu 6 _ rfl) (by rw [yh];decide)
   obtain⟨h7,_⟩:=cL (hu 7 _ rfl) (by rw [yh];decide)
   obtain⟨h8,_⟩:=cL (hu 8 _ rfl) (by rw [yh];decide)
   obtain⟨h9,_⟩:=cL (hu 9 _ rfl) (by rw [yh];decide)
   obtain⟨h10,_⟩:=cL (hu 10 _ rfl) (by rw [yh];decide)
   obtain⟨h11,_⟩:=cL (hu 11 _ rfl) (by rw [yh];decide)
   obtain⟨ts,_,_,_,_,htl,ht⟩:=DataW.trod_struct Tryz.underlying26 h9
   obtain⟨t0,_⟩:=cL (ht 0 _ rfl) (by rw [htl];decide)
   obtain⟨t1,_⟩:=cL (ht 1 _ rfl) (by rw [htl];decide)
   obtain⟨z0,rfl,w0⟩:=nY (c:=c0) Tryz.underlying3 h0
   obtain⟨z1,rfl,w1⟩:=nY (c:=c1) Tryz.underlying3 h1
   obtain⟨z2,rfl,w2⟩:=nY (c:=c2) Tryz.underlying3 h2
   obtain⟨s3,rfl,l3⟩:=uM (c:=c3) Tryz.underlying9 h3
   obtain⟨s4,rfl,l4⟩:=uM (c:=c4) Tryz.underlying9 h4
   obtain⟨A5,p5,d5,rfl,q5,l5,k5⟩:=QU (c:=c5) h5
   obtain⟨z6,rfl,w6⟩:=nY (c:=c6) Tryz.underlying3 h6
   obtain⟨z7,rfl,w7⟩:=nY (c:=c7) Tryz.underlying3 h7
   obtain⟨z8,rfl,w8⟩:=nY (c:=c8) Tryz.underlying3 h8
   obtain⟨z9,rfl,w9⟩:=nY (c:=c9) Tryz.underlying3 t0
   obtain⟨z10,rfl,w10⟩:=nY (c:=c10) Tryz.underlying3 t1
   obtain⟨z11,rfl,w11⟩:=nY (c:=c11) Tryz.underlying38 h10
   obtain⟨z12,rfl,w12⟩:=nY (c:=D9) Tryz.underlying3 h11
   have hb:Rows.uptoBulk x.1=Rows.uptoBulk (.agg (us.map (·.1))):=by rw [hux]
   exact⟨⟨z0,z1,z2,s3,s4,A5,p5,d5,z6,z7,z8,z9,z10,z11,z12⟩,rfl,⟨q5,by show d5.length<=_;omega,by show s3.size<=_;omega,by show s4.size<=_;omega,w1,w2,k5⟩⟩
theorem TY {n:Nat} {c:Value} {x:DataW H×List MemPlace} (h:DataW.trod enc Tryz.prog W 0 sp true n 30 [c]=some x):∃A cp,∃xs:List dO,c=.slice A xs.length cp/\cD (B0 W) A (bO jP xs)/\kZ xs (Rows.uptoBulk x.1)/\xs.length<=cp:=by
 obtain⟨A,cp,xs,D,h1,V6,_,h2,h4,h3⟩:=uL (α:=dO) (f:=jP) (Q:=λa d=>EX a (Rows.uptoBulk d)) Tryz.underlying30 (size:=5) KB Pd (λn cs x h=>Y9 h) (λ_=>rfl) h
 cases h1
 have h5:=wK ((List.range xs.length).map D)
 refine⟨A,cp,xs,rfl,h2,⟨by simp at h5;omega,λa ha=>?_⟩,V6⟩
 obtain⟨i,hi,e⟩:=ahT.1 ha
 have h6:=h4 i hi
 rw [show xs.getD i default=a by rw [←e];simp [hi]] at h6
 exact h6.wide (by have:=Dr (D:=D) hi;omega)
theorem O6 {n:Nat} {c:Value} {x:DataW H×List MemPlace} (h:DataW.trod enc Tryz.prog W 0 sp true n 29 [c]=some x):∃A cp,∃xs:List dI,c=.slice A xs.length cp/\cD (B0 W) A (bO iJ xs)/\kR xs (Rows.uptoBulk x.1)/\xs.length<=cp:=by
 obtain⟨A,cp,xs,D,h1,V6,_,h2,h4,h3⟩:=uL (α:=dI) (f:=iJ) (Q:=λa _=>(Lit.int .i64 a.at_).wf=true) Tryz.underlying29 (size:=2) KB Pd (λn cs x h=>TW h) (λ_=>rfl) h
 cases h1
 have h5:=wK ((List.range xs.length).map D)
 refine⟨A,cp,xs,rfl,h2,⟨by simp at h5;omega,λa ha=>?_⟩,V6⟩
 obtain⟨i,hi,e⟩:=ahT.1 ha
 have h6:=h4 i hi
 rw [show xs.getD i default=a by rw [←e];simp [hi]] at h6
 exact h6
theorem open_calls {v:Value} {d:DataW H} {ps:List MemPlace} {r:Go.Reach} {b0:Nat} (hval:Value.okWide Tryz.prog W r b0 35 v) (h:DataW.Trod enc Tryz.prog W 0 sp true 35 v d ps) (hb:Rows.uptoBulk d<=1048576) :
 ∃A cp,∃xs:List aP,v=.slice A xs.length cp/\fC (B0 W) A xs/\xs.length<=1048576/\xs.length<=cp:=by
 obtain⟨a,n,c,rfl⟩:=okWide_slice Tryz.underlying35 hval
 obtain⟨fuel,h⟩:=h
 obtain⟨A,cp,xs,D,h1,V6,_,h2,h4,h3⟩:=uL (α:=aP) (f:=aL) (Q:=λa d=>zo (B0 W) a (Rows.uptoBulk d)) Tryz.underlying35 (size:=13) KB Pd (λn cs x h=>V5 h) (λ_=>rfl) h
 cases h1
 have h5:=wK ((List.range xs.length).map D)
 have h3:Rows.uptoBulkAll ((List.range xs.length).map D)+1<=Rows.uptoBulk d:=h3
 refine⟨a,c,xs,rfl,⟨h2,λi hi=>(h4 i hi).wide ?_⟩,by simp at h5;omega,V6⟩
 have h7:=Dr (D:=D) hi
 omega
def R8 (A:Option Addr) (n cp:Nat) (au:Int) (X:FM) (Af:Option Addr) (nf cf:Nat) (Aa:Option Addr) (na ca:Nat):Value:=.agg #[.slice A n cp,.int .i64 au,.int .i64 X.cN,.int .i64 X.cB,.int .i64 X.cH,.int .i64 X.cS,.int .i64 X.cZ,.slice Af nf cf,.slice Aa na ca]
theorem open_wstart {v:Value} {d:DataW H} {ps:List MemPlace} {r:Go.Reach} {b0:Nat} (hval:Value.okWide Tryz.prog W r b0 34 v) (h:DataW.Trod enc Tryz.prog W 0 sp true 34 v d ps) :
 ∃A cp,∃ns:List aO,∃L:eP,∃au:Int,∃X:FM,∃Af cf,∃fs:List dI,∃Aa ca,∃xs:List dO,v=R8 A ns.length cp au X Af fs.length cf Aa xs.length ca/\aQ (B0 W) A ns L/\j7 ns (Rows.uptoBulk d)/\afR X/\(Lit.int .i64 au).wf=true ∧
   cD (B0 W) Af (bO iJ fs)/\kR fs (Rows.uptoBulk d)/\fs.length<=cf/\cD (B0 W) Aa (bO jP xs)/\kZ xs (Rows.uptoBulk d)/\xs.length<=ca:=by
 obtain⟨cs,rfl,hcs⟩:=okWide_struct Tryz.underlying34 hval
 obtain⟨fuel,h⟩:=h
 obtain⟨ys,m,_,hx,hl,wh,hf⟩:=DataW.trod_struct Tryz.underlying34 h
 have hC:Tryz.prog.cellsOf 34=9:=KB
 rw [hC] at hcs
 obtain⟨cs⟩:=cs
 match cs,hcs with
 |[c0,c1,c2,c3,c4,c5,c6,c7,c8],_=>
   obtain⟨h0,b0⟩:=cL (hf 0 _ rfl) (by rw [wh];decide)
   obtain⟨hr,_⟩:=cL (hf 1 _ rfl) (by rw [wh];decide)
   obtain⟨h1,_⟩:=cL (hf 2 _ rfl) (by rw [wh];decide)
   obtain⟨h3,b3⟩:=cL (hf 3 _ rfl) (by rw [wh];decide)
   obtain⟨us,_,_,hux,_,yh,hu⟩:=DataW.trod_struct Tryz.underlying24 h0
   obtain⟨g0,e0⟩:=cL (hu 0 _ rfl) (by rw [yh];decide)
   obtain⟨A,cp,ns,L,rfl,hG,hB⟩:=Tz (c:=c0) g0
   obtain⟨vs,_,_,_,_,hvl,hv⟩:=DataW.trod_struct Tryz.underlying28 h1
   obtain⟨k0,_⟩:=cL (hv 0 _ rfl) (by rw [hvl];decide)
   obtain⟨k1,_⟩:=cL (hv 1 _ rfl) (by rw [hvl];decide)
   obtain⟨k2,_⟩:=cL (hv 2 _ rfl) (by rw [hvl];decide)
   obtain⟨k3,_⟩:=cL (hv 3 _ rfl) (by rw [hvl];decide)
   obtain⟨ts,_,_,_,_,htl,ht⟩:=DataW.trod_struct Tryz.underlying26 k3
   obtain⟨t0,_⟩:=cL (ht 0 _ rfl) (by rw [htl];decide)
   obtain⟨t1,_⟩:=cL (ht 1 _ rfl) (by rw [htl];decide)
   obtain⟨zr,rfl,wr⟩:=nY (c:=c1) Tryz.underlying3 hr
   obtain⟨z0,rfl,w0⟩:=nW (c:=c2) Tryz.underlying3 k0
   obtain⟨z1,rfl,w1⟩:=nW (c:=c3) Tryz.underlying3 k1
   obtain⟨z2,rfl,w2⟩:=nW (c:=c4) Tryz.underlying3 k2
   obtain⟨z3,rfl,w3⟩:=nW (c:=c5) Tryz.underlying3 t0
   obtain⟨z4,rfl,w4⟩:=nW (c:=c6) Tryz.underlying3 t1
   obtain⟨ws,_,_,hwx,_,hwl,hw⟩:=DataW.trod_struct Tryz.underlying32 h3
   obtain⟨q0,d0⟩:=cL (hw 0 _ rfl) (by rw [hwl];decide)
   obtain⟨q1,d1⟩:=cL (hw 1 _ rfl) (by rw [hwl];decide)
   obtain⟨Af,cf,fs,rfl,hF,hFl,hFc⟩:=O6 (c:=c7) q0
   obtain⟨Aa,ca,xs,rfl,hA,hAb,hAc⟩:=TY (c:=c8) q1
   cases hx
   rw [hux] at b0
   rw [hwx] at b3
   exact⟨A,cp,ns,L,zr,⟨z0,z1,z2,z3,z4,0,0,0⟩,Af,cf,fs,Aa,ca,xs,rfl,hG,hB.wide (ahk e0 b0),⟨w0,w1,w2,w3,w4⟩,wr,hF,⟨ahk hFl.len (ahk d0 b3),hFl.q⟩,hFc,hA,⟨ahk hAb.len (ahk d1 b3),λa ha=>(hAb.q a ha).wide (ahk d1 b3)⟩,hAc⟩
end a
end
section
open Go.RowKit
inductive OT
 |lin (l:List (Bool×Nat))
 |rd (i:Nat) (t:OT)
 |two (i:Nat) (a:OT) (j:Nat) (b:OT)
 |three (i:Nat) (a:OT) (j:Nat) (b:OT) (k:Nat) (c:OT)
section order
variable {P:Program} {ops:Array Oper} {Q:Post} {n:Nat} {S:World->Prop}
def yx (P:Program) (ops:Array Oper) (Q:Post) (S:World->Prop):OT->Act->World->Prop
 |.lin l,a,w=>l6 P ops Q S l a w
 |.rd i t,a,w=>∃o v,ops[i]?=some o/\YieldsIf P ops S o v a/\yx P ops Q S t (a.put o.dst v) w
 |.two i x j y,a,w=>wpOp P ops Q i (λa' w'=>S w'/\yx P ops Q S x a' w') a w/\wpOp P ops Q j (λa' w'=>S w'/\yx P ops Q S y a' w') a w
 |.three i x j y k z,a,w=>wpOp P ops Q i (λa' w'=>S w'/\yx P ops Q S x a' w') a w/\wpOp P ops Q j (λa' w'=>S w'/\yx P ops Q S y a' w') a w/\wpOp P ops Q k (λa' w'=>S w'/\yx P ops Q S z a' w') a w
def yN:OT->Nat
 |.lin l=>l.length
 |.rd _ t=>yN t+1
 |.two _ x _ _=>yN x+1
 |.three _ x _ _ _ _=>yN x+1
def vS (ops:Array Oper) (n:Nat):OT->Array Bool->Bool
 |.lin l,bQ=>Dd ops n l bQ
 |.rd i t,bQ=>decide (i<n) && Region.free .any ops bQ i && (Region.ready .any ops bQ).contains i && vS ops n t (bQ.setIfInBounds i true)
 |.two i x j y,bQ=>(Region.ready .any ops bQ == [i,j]) && (yN x == yN y) && vS ops n x (bQ.setIfInBounds i true) && vS ops n y (bQ.setIfInBounds j true)
 |.three i x j y k z,bQ=>(Region.ready .any ops bQ == [i,j,k]) && (yN x == yN y) && (yN x == yN z) && vS ops n x (bQ.setIfInBounds i true) && vS ops n y (bQ.setIfInBounds j true) && vS ops n z (bQ.setIfInBounds k true)
theorem DF (hsel:Region.noSelect ops=true) (qp:Region.sinkB .any ops n=true):∀(t:OT) (bQ:Array Bool) (a:Act) (w:World),vS ops n t bQ=true->Closed ops bQ->S w->yx P ops (NP Q) S t a w->xK P ops (NP Q) n S (yN t) bQ a w
 |.lin l,bQ,a,w,hb,hc,hS,h=>Df hsel qp l bQ a w hb hc (.inr hS) h
 |.rd i t,bQ,a,w,hb,hc,hS,h=>by
   unfold vS at hb
   simp only [ahH,decide_eq_true_iff] at hb
   obtain⟨⟨⟨h1,h2⟩,h3⟩,h4⟩:=hb
   obtain⟨o,v,ho,hy,hk⟩:=h
   have hr:i∈Region.ready .any ops bQ:=by simpa using h3
   exact zW ho hsel qp h1 (yN t) bQ a w hc (Region.free_spec ho h2) hr hy hS (DF hsel qp t _ _ w h4 (hc.set hr) hS hk)
 |.two i x j y,bQ,a,w,hb,hc,_,h=>by
   unfold vS at hb
   simp only [ahH,aia] at hb
   obtain⟨⟨⟨h1,h2⟩,h3⟩,h4⟩:=hb
   refine⟨λh0=>(by rw [h1] at h0;cases h0),λm hm=>?_⟩
   have hr:=hm
   rw [h1] at hm
   have hm:m=i\/m=j:=by simpa using hm
   rcases hm with rfl|rfl
   ·exact wpOp_mono (λa' w' g=>⟨.inr g.1,DF hsel qp x _ a' w' h3 (hc.set hr) g.1 g.2⟩) h.1
   exact wpOp_mono (λa' w' g=>⟨.inr g.1,by rw [h2];exact DF hsel qp y _ a' w' h4 (hc.set hr) g.1 g.2⟩) h.2
 |.three i x j y k z,bQ,a,w,hb,hc,_,h=>by
   unfold vS at hb
   simp only [ahH,aia] at hb
   obtain⟨⟨⟨⟨⟨h1,h2⟩,h3⟩,h4⟩,h5⟩,h6⟩:=hb
   refine⟨λh0=>(by rw [h1] at h0;cases h0),λm hm=>?_⟩
   have hr:=hm
   rw [h1] at hm
   have hm:m=i\/m=j\/m=k:=by simpa using hm
   rcases hm with rfl|rfl|rfl
   ·exact wpOp_mono (λa' w' g=>⟨.inr g.1,DF hsel qp x _ a' w' h4 (hc.set hr) g.1 g.2⟩) h.1
   ·exact wpOp_mono (λa' w' g=>⟨.inr g.1,by rw [h2];exact DF hsel qp y _ a' w' h5 (hc.set hr) g.1 g.2⟩) h.2.1
   exact wpOp_mono (λa' w' g=>⟨.inr g.1,by rw [h3];exact DF hsel qp z _ a' w' h6 (hc.set hr) g.1 g.2⟩) h.2.2
def R9 (ops:Array Oper) (t:OT):Bool:=Region.noSelect ops && Region.sinkB .any ops (ops.size-1) && (yN t == ops.size) && vS ops (ops.size-1) t (Array.replicate ops.size false)
def yY:List Nat->OT->OT
 |[],t=>t
 |i::l,t=>.rd i (yY l t)
end order
section mix
variable {P:Program} {β:Bs} {N:fQ} {ops:Array Oper} {S:List HP} {t t' x y z:OT} {fr bY:Fr} {ax:List HP} {Q:Post} {fe:List Prop} {i j k:Nat}
def oA (P:Program) (β:Bs) (N:fQ) (ops:Array Oper) (S:List HP) (t:OT) (fr:Fr) (ax:List HP) (Q:Post):Prop:=∀ai w,aR β ax w->yx P ops (NP Q) (aR β S) t (fI N fr ai) w
def ag1 (P:Program) (β:Bs) (N:fQ) (ops:Array Oper) (S:List HP) (i:Nat) (t:OT) (fr:Fr) (ax:List HP) (Q:Post):Prop:=∀ai w,aR β ax w->wpOp P ops (NP Q) i (λa' w'=>aR β S w'/\yx P ops (NP Q) (aR β S) t a' w') (fI N fr ai) w
theorem aq.rz {id:Nat} (t:OT) (pk:List Nat) (h:oA P β N ops S t fr ax Q) (hp:cW ax pk=some S:=by kernel_rfl) (hm:P.follows .mixedOrders=true:=by kernel_rfl) (hB:R9 ops t=true:=by kernel_rfl) (hn:cC pk=true:=by kernel_rfl):aq P β N (.region id ops true) fr ax Q:=by
 intro ai w hS
 unfold R9 at hB
 simp only [ahH,aia] at hB
 obtain⟨⟨⟨h1,h2⟩,h3⟩,h4⟩:=hB
 have jh:=hS.drewN 1
 have h5:=DF (Q:=Q) h1 h2 t _ _ _ h4 (λj oj _ hl=>by simp [Array.getD_eq_getD_getElem?,Array.getElem?_replicate] at hl;split at hl<;>simp at hl) (jh.pick hn hp) (h ai (w.drewN 1) jh)
 rw [h3] at h5
 refine ah8 (λe a w q=>?_) (wp_region_any hm (vG _ _ _ _ h5))
 cases e with
 |normal=>exact q
 |exit id=>exact q.elim
 |goto l=>exact q.elim
 |ret=>exact q.elim
 |panic ch=>exact q.elim
 |outgrown=>exact q.elim
theorem AP {ai:Nat->Value} {w:World}:∀{hs:List OH} {is:List Nat} {fr bY:Fr} {T T':SS},qV P β N ai ops hs is fr T=some (bY,T')->(∀p,p∈T'.fe->p)->T.used=true->T.ax=S →
 yx P ops (NP Q) (aR β S) t (fI N bY ai) w->yx P ops (NP Q) (aR β S) (yY is t) (fI N fr ai) w
 |[],[],fr,bY,T,T',h,ho,hu,hT,hK=>by cases h;exact hK
 |h::hs,i::is,fr,bY,T,T',hr,ho,hu,hT,hK=>by
   unfold qV at hr
   repeat' split at hr
   all_goals first|(cases hr;done)|skip
   ·rename_i o hget _ vH _ v T1 h0 _ hv
    obtain⟨e1,e2⟩:=CC h0
    unfold yY yx
    refine⟨o,v,hget,.inl ⟨by rw [iP];exact vH,λw' jh=>?_⟩,?_⟩
    ·rw [jm]
     obtain⟨w2,h1,_,_,h4⟩:=rK h0 (λp hp=>ho p (za hr p hp)) (by rw [hT];exact jh) (λe=>by rw [hu] at e;cases e)
     obtain⟨ew,_⟩:=h4 rfl
     rw [ew] at h1
     rcases h1 with h1|⟨h1,_⟩
     ·exact h1
     exact ahh h1 (xL hv)
    rw [iC]
    exact AP hr ho (e2.trans hu) (e1.trans hT) hK
   rename_i o hget _ vH
   unfold yY yx
   refine⟨o,undef,hget,.inr ⟨by rw [iP];exact vH,rfl⟩,?_⟩
   rw [iC]
   exact AP hr ho hu hT hK
 |[],_::_,_,_,_,_,h,_,_,_,_=>by cases h
 |_::_,[],_,_,_,_,h,_,_,_,_=>by cases h
theorem gT (t:OT) (O7:Fr) (is:List Nat) (os:List (Nat×OP)) (K:oA P β N ops S t O7 ax Q)
 (h:∀ai,uH P β N ai ops (dQ (dY is.length os 0)) is fr S (cE O7)=some (O7,owed (dY is.length os 0)):=by intro _;kernel_rfl) (hl:t'=yY is t:=by rfl):oA P β N ops S t' fr ax Q:=by
 intro ai w hS
 subst hl
 have h0:=h ai
 unfold uH at h0
 split at h0
 ·rename_i sX S1 h1
  injection h0 with h0
  injection h0 with ha hb
  have hK:=K (lk sX ai) w hS
  rw [←ha,←o6] at hK
  refine AP h1 (λp hp=>?_) rfl rfl hK
  rw [hb] at hp
  exact (wq _).mem hp
 cases h0
end mix
def oJ (j:Nat) (l2:List (Bool×Nat)):List (Bool×Nat)->OT
 |[]=>.lin ((false,j)::l2)
 |(false,i)::l=>.two i (oJ j l2 l) j (.lin ((false,i)::(l++l2)))
 |(true,i)::l=>.rd i (oJ j l2 l)
def oK (j k:Nat) (l2:List (Bool×Nat)):List (Bool×Nat)->OT
 |[]=>.two j (oJ k l2 []) k (oJ j l2 [])
 |(false,i)::l=>.three i (oK j k l2 l) j (oJ k l2 ((false,i)::l)) k (oJ j l2 ((false,i)::l))
 |(true,i)::l=>.rd i (oK j k l2 l)
section mix
variable {P:Program} {β:Bs} {N:fQ} {ops:Array Oper} {S:List HP} {l l' l2:List (Bool×Nat)} {fr bY:Fr} {ax:List HP} {Q:Post} {fe:List Prop} {i j k:Nat}
theorem aR.left {a b:List HP} {w:World} (h:aR β (a++b) w):aR β a w:=by
 obtain⟨h0,φ,h1,h2,h3⟩:=h
 have jy:a.length<=(a++b).length:=ahd
 exact⟨h0,φ,λi p hp=>h1 i p Pe,λi hi=>h2 i zc,λi j hi hj=>h3 i j zc zc⟩
def jt (P:Program) (β:Bs) (N:fQ) (ops:Array Oper) (Q:Post) (i d:Nat) (ds:List Nat) (fr:Fr) (pre:List HP) (post:Value->List HP->Prop):Prop:=
 ∀ai w (A:dV),aR β (pre++[.abs A]) w->wpOp P ops (NP Q) i (λa' w'=>∃v l qo,post v l/\a'=fI N fr qo/\qo d=v/\(∀t∈ds,t≠d->qo t=ai t)/\aR β (l++[.abs A]) w') (fI N fr ai) w
def sV (vw:List Nat) (u:Nat->Value):Fr:=vw.map λt=>(t,u t)
theorem L6 {vw:List Nat} {u:Nat->Value}:cE (sV vw u)=vw:=by
 induction vw with
 |nil=>rfl
 |cons a r ih=>exact ahg (a::·) ih
theorem V7 {vw:List Nat} {u ai:Nat->Value} {t:Nat} (h:t∈vw):lk (sV vw u) ai t=u t:=by
 induction vw with
 |nil=>cases h
 |cons a r ih=>
   grind [lk,sV,lW]
theorem CU {fr O7:Fr} {ai T3:Nat->Value} (h:∀t,lk fr ai t=lk O7 T3 t):fI N fr ai=fI N O7 T3:=by
 unfold fI
 rw [show lk fr ai=lk O7 T3 from funext h]
theorem jt.of {ι:Type} {v:ι->Value} {l:ι->List HP} {o:Oper} {d:Nat} {pre:List HP} (vw:List Nat) (bX:ops[i]?=some o) (hg:o.guard=none) (ag2:(d::vw).all (λt=>!oC t (cE fr))=true) (hd:oC d vw=false)
 (h:∀(u:Nat->Value) (A:dV),av P β N #[o] 0 (sV vw u++fr) (pre++[.abs A]) (NP (Gt β N (λx=>(d,v x)::(sV vw u++fr)) (λx=>l x++[.abs A])))):jt P β N ops Q i d (d::vw) fr pre (λv' l'=>∃x,v'=v x/\l'=l x):=by
 intro ai w A hS
 have hout:∀t∈d::vw,t∉cE fr:=λt ht hm=>by
  grind [t6]
 have hdo:d∉vw:=by grind [t6]
 have e1:fI N fr ai=fI N (sV vw ai++fr) ai:=CU λt=>by
  grind [IX,L6,V7,zX]
 rw [e1]
 refine vF bX hg (Bp (λa w ⟨x,afa,ha,jh⟩=>⟨v x,l x,lk ((d,v x)::(sV vw ai++fr)) afa,⟨x,rfl,rfl⟩,?_,by rw [lW,ahf rfl],λt ht hn=>?_,jh⟩) (show wpList P #[o] (NP (Gt β N _ _)) [o] (fI N (sV vw ai++fr) ai) w from h ai A ai w hS))
 all_goals grind [CU,cE,lW,IX,L6,M4,zX,V7]
theorem jt.at_ {d:Nat} {ds:List Nat} {pre X Y:List HP} {post:Value->List HP->Prop} {ai:Nat->Value} {w:World} {K:Act->World->Prop} (h:jt P β N ops Q i d ds fr pre post) (hS:aR β (X++(pre++Y)) w)
 (hK:∀v l qo w',post v l->qo d=v->(∀t∈ds,t≠d->qo t=ai t)->aR β (X++(l++Y)) w'->K (fI N fr qo) w'):wpOp P ops (NP Q) i K (fI N fr ai) w:=by
 have h1:=aR.turn hS
 rw [ahD] at h1
 refine wpOp_mono (λa' w' ⟨v,l,j2,g1,g2,g3,g4,g5⟩=>?_) (h ai w _ h1.gS)
 rw [g2]
 refine hK v l j2 w' g1 g3 g4 ?_
 have h2:=g5.su
 rw [←ahD] at h2
 exact aR.turn h2
theorem jt.grow {d d1:Nat} {ds:List Nat} {pre:List HP} {q:Value->List HP->Prop} (h:jt P β N ops Q i d (d::d1::ds) fr pre q) (h1:d1∉cE fr) (hd:d1≠d) (hn:d1∉ds) (v1:Value):jt P β N ops Q i d (d::ds) ((d1,v1)::fr) pre q:=by
 intro ai w A hS
 have e:fI N ((d1,v1)::fr) ai=fI N fr (λt=>if t=d1 then v1 else ai t):=CU λt=>by
  grind [lW,zX,cE,M4]
 rw [e]
 refine wpOp_mono (λa' w' ⟨v,l,j2,g1,g2,g3,g4,g5⟩=>?_) (h _ w A hS)
 have k1:j2 d1=v1:=Pe
 refine⟨v,l,j2,g1,?_,g3,λt ht bV=>?_,g5⟩
 ·rw [g2]
  refine CU λt=>?_
  grind [lW,zX]
 grind
abbrev JI (c:List (Bool×Nat×Nat)):List (Bool×Nat):=c.map (λx=>(x.1,x.2.1))
abbrev Ea (c:List (Bool×Nat×Nat)):List Nat:=c.map (·.2.2)
def eF (P:Program) (β:Bs) (N:fQ) (ops:Array Oper) (Q:Post) (S:List HP) (ds:List Nat):List (Bool×Nat×Nat)->Fr->List HP->(Fr->List HP->Prop)->Prop
 |[],fr,ax,R=>R fr ax
 |(false,i,d)::c,fr,ax,R=>(d∉cE fr/\d∉ds)/\∃q:Value->List HP->Prop,jt P β N ops Q i d (d::ds) fr ax q/\∀v l,q v l->eF P β N ops Q S ds c ((d,v)::fr) l R
 |(true,i,d)::c,fr,ax,R=>(d∉cE fr/\d∉ds)/\∃o v,ops[i]?=some o/\o.dst=some d/\(∀ai,YieldsIf P ops (aR β S) o v (fI N fr ai))/\eF P β N ops Q S ds c ((d,v)::fr) ax R
theorem V8 {d:Nat} {a b:List Nat} (h:(!oC d a && !oC d b)=true):d∉a/\d∉b:=by
 simp only [ahH,Bool.not_eq_true'] at h
 exact⟨λe=>by rw [t6.2 e] at h;exact ahh h.1 (by decide),λe=>by rw [t6.2 e] at h;exact ahh h.2 (by decide)⟩
theorem eF.step {ds:List Nat} {d:Nat} {c:List (Bool×Nat×Nat)} {R:Fr->List HP->Prop} {q:Value->List HP->Prop} (h:jt P β N ops Q i d (d::ds) fr ax q) (K:∀v l,q v l->eF P β N ops Q S ds c ((d,v)::fr) l R) (h1:(!oC d (cE fr) && !oC d ds)=true:=by rfl):eF P β N ops Q S ds ((false,i,d)::c) fr ax R:=
 ⟨V8 h1,q,h,K⟩
theorem eF.read {ds:List Nat} {d:Nat} {c:List (Bool×Nat×Nat)} {R:Fr->List HP->Prop} (v:Value) (K:eF P β N ops Q S ds c ((d,v)::fr) ax R) (h:∀ai,uH P β N ai ops [o_] [i] fr S (d::cE fr)=some ((d,v)::fr,[]):=by intro _;kernel_rfl) (hd:(ops[i]?).map Oper.dst=some (some d):=by rfl) (h1:(!oC d (cE fr) && !oC d ds)=true:=by rfl):eF P β N ops Q S ds ((true,i,d)::c) fr ax R:=by
 obtain⟨o,ho,hod⟩:=Option.map_eq_some_iff.1 hd
 refine⟨V8 h1,o,v,ho,hod,λai=>?_,K⟩
 have h0:=h ai
 unfold uH at h0
 split at h0
 ·rename_i sX S1 hr
  injection h0 with h0
  injection h0 with ha hb
  unfold qV at hr
  rw [ho] at hr
  simp only at hr
  repeat' split at hr
  all_goals first|(cases hr;done)|skip
  ·rename_i _ vH _ v1 T1 hrun _ hv
   unfold qV at hr
   injection hr with hr
   injection hr with hr1 hr2
   have hv1:v1=v:=by
    grind [lk,kG,eV,cE,lW]
   refine .inl ⟨by rw [iP];exact vH,λw' jh=>?_⟩
   rw [jm]
   obtain⟨w2,g1,_,_,g4⟩:=rK hrun (λp hp=>by rw [hr2,hb] at hp;cases hp) (by exact jh) (λe=>by cases e)
   obtain⟨ew,_⟩:=g4 rfl
   rw [ew] at g1
   rcases g1 with g1|⟨g1,_⟩
   all_goals grind [xL]
  rename_i _ vH
  unfold qV at hr
  injection hr with hr
  injection hr with hr1 hr2
  have hv1:undef=v:=by
   grind [lk,kG,eV,cE,lW]
  exact .inr ⟨by rw [iP];exact vH,hv1.symm⟩
 cases h0
theorem Za {h a b Z:List HP} {w:World} (hS:aR β (h++(a++(b++Z))) w):aR β (h++(b++(a++Z))) w:=by
 have h1:aR β ((b++Z++h)++a) w:=by have:=aR.turn (a:=h++a) (b:=b++Z) (by simpa using hS);simpa using this
 have h3:aR β ((Z++h++[.abs (gS a)])++b) w:=by have:=aR.turn (a:=b) (b:=Z++h++[.abs (gS a)]) (by simpa using h1.gS);simpa using this
 have h5:aR β ([.abs (gS a),.abs (gS b)]++(Z++h)) w:=by have:=aR.turn (a:=Z++h) (b:=[.abs (gS a),.abs (gS b)]) (by simpa using h3.gS);simpa using this
 have h7:aR β ([.abs (gS b),.abs (gS a)]++[.abs (gS (Z++h))]) w:=aR.pick (ar:=[1,0,2]) h5.gS rfl rfl
 have h9:aR β ((Z++h++[.abs (gS b)])++[.abs (gS a)]) w:=by have:=aR.turn (a:=[.abs (gS b),.abs (gS a)]) (b:=Z++h) (by simpa using h7.su);simpa using this
 have h11:aR β ((a++(Z++h))++[.abs (gS b)]) w:=by have:=aR.turn (a:=Z++h++[.abs (gS b)]) (b:=a) (by simpa using h9.su);simpa using this
 have sB:=aR.turn (a:=a++Z) (b:=h++b) (by simpa using h11.su)
 simpa using sB
theorem zL {d:Nat} {v:Value} {ai:Nat->Value} (hv:ai d=v) (hd:d∉cE fr):fI N fr ai=fI N ((d,v)::fr) ai:=CU λt=>by
 rw [lW]
 by_cases e1:d=t
 ·subst e1;rw [ahf rfl,zX hd,hv]
 rw [ahe e1]
section bes
variable {ds:List Nat} {Z:List HP} {R:Fr->List HP->Prop}
theorem kept {d:Nat} {v:Value} (h:d∉ds) (ho:∀t∈ds,t∉cE fr):∀t∈ds,t∉cE ((d,v)::fr):=λt ht hm=>by
 rcases aht.1 (show t∈d::cE fr from hm) with e|e
 ·exact h (e ▸ ht)
 exact ho t ht e
theorem EY {D:List Nat} {u:Nat->Value} (hD:∀t∈D,t∈ds) (hG:∀X w,aR β (X++Z) w->aR β S w) (hK:∀f1 h1,R f1 h1->∀ai w,(∀t∈D,ai t=u t)->(∀t∈ds,t∉cE f1)->aR β (h1++Z) w->l6 P ops (NP Q) (aR β S) l2 (fI N f1 ai) w) :
 ∀(c:List (Bool×Nat×Nat)) (fr:Fr) (ax:List HP) (ai:Nat->Value) (w:World),(∀t∈ds,t∉cE fr)->eF P β N ops Q S ds c fr ax R->(∀t∈D,ai t=u t)->aR β (ax++Z) w->l6 P ops (NP Q) (aR β S) (JI c++l2) (fI N fr ai) w
 |[],fr,ax,ai,w,ho,hc,hu,hS=>hK fr ax hc ai w hu ho hS
 |(false,i,d)::c,fr,ax,ai,w,ho,⟨⟨h1,h2⟩,q,h3,h4⟩,hu,hS=>by
   show l6 _ _ _ _ ((false,i)::(JI c++l2)) _ _
   unfold l6
   refine h3.at_ (X:=[]) hS (λv' l j2 w' g1 g2 g3 g4=>⟨.inr (hG l w' g4),?_⟩)
   rw [zL g2 h1]
   exact EY hD hG hK c _ l j2 w' (kept h2 ho) (h4 v' l g1) (λt ht=>(g3 t (ahq _ (hD t ht)) (λe=>h2 (e ▸ hD t ht))).trans (hu t ht)) g4
 |(true,i,d)::c,fr,ax,ai,w,ho,⟨⟨h1,h2⟩,o,v',h3,h4,h5,h6⟩,hu,hS=>by
   show l6 _ _ _ _ ((true,i)::(JI c++l2)) _ _
   unfold l6
   refine⟨o,v',h3,h5 ai,?_⟩
   rw [h4,iC]
   exact EY hD hG hK c _ ax ai w (kept h2 ho) h6 hu hS
theorem JJ {d:Nat} {c:List Nat} (hnd:cC (d::c)=true):d∉c/\cC c=true:=by
 unfold cC at hnd
 simp only [ahH] at hnd
 exact⟨λhm=>by have h:=hnd.1;simp_all,hnd.2⟩
theorem yA {r dr:Nat} {D:List Nat} {u:Nat->Value} {qr:Value->List HP->Prop} (hr:dr∈ds) (hD:∀t∈D,t∈ds) (hn:dr∉D) (hG:∀X w,aR β (X++Z) w->aR β S w)
 (hK:∀f1 h1,R f1 h1->∀v lp,qr v lp->∀ai w,ai dr=v->(∀t∈D,ai t=u t)->(∀t∈ds,t∉cE f1)->aR β (h1++(lp++Z)) w->l6 P ops (NP Q) (aR β S) l2 (fI N f1 ai) w) :
 ∀(c:List (Bool×Nat×Nat)) (fr:Fr) (ax:List HP) (ai:Nat->Value) (w:World),cC (Ea c)=true->(∀t∈ds,t∉cE fr)->jt P β N ops Q r dr (dr::(Ea c++D)) fr [] qr->eF P β N ops Q S ds c fr ax R->(∀t∈D,ai t=u t)->aR β (ax++Z) w->yx P ops (NP Q) (aR β S) (oJ r l2 (JI c)) (fI N fr ai) w
 |[],fr,ax,ai,w,_,ho,hj,hc,hu,hS=>by
   show l6 _ _ _ _ ((false,r)::l2) _ _
   unfold l6
   exact hj.at_ (X:=ax) hS (λv l j2 w' g1 g2 g3 g4=>⟨.inr (hG (ax++l) w' (by simpa using g4)),hK fr ax hc v l g1 j2 w' g2 (λt ht=>(g3 t (by simp [ht]) (λe=>hn (e ▸ ht))).trans (hu t ht)) ho g4⟩)
 |(false,i,d)::c,fr,ax,ai,w,hnd,ho,hj,hc,hu,hS=>by
   have hc0:=hc
   obtain⟨⟨h1,h2⟩,q,h3,h4⟩:=hc
   obtain⟨n1,n2⟩:=JJ hnd
   refine⟨h3.at_ (X:=[]) hS (λv' l j2 w' g1 g2 g3 g4=>⟨hG l w' g4,?_⟩),hj.at_ (X:=ax) hS (λv l j2 w' g1 g2 g3 g4=>⟨hG (ax++l) w' (by simpa using g4),?_⟩)⟩
   ·rw [zL g2 h1]
    exact yA hr hD hn hG hK c _ l j2 w' n2 (kept h2 ho) (hj.grow h1 (show d≠dr from λe=>h2 (e ▸ hr)) (λe=>(ahE.1 e).elim n1 (λe=>h2 (hD d e))) v') (h4 v' l g1) (λt ht=>(g3 t (ahq _ (hD t ht)) (λe=>h2 (e ▸ hD t ht))).trans (hu t ht)) g4
   exact EY (Z:=l++Z) (D:=dr::D) (u:=j2) (λt ht=>(aht.1 ht).elim (λe=>e ▸ hr) (hD t)) (λX w h=>hG (X++l) w (by simpa using h))
    (λf1 h1 k1 ai w k2 k3 k4=>hK f1 h1 k1 v l g1 ai w ((k2 dr ahd).trans g2) (λt ht=>(k2 t (by simp [ht])).trans ((g3 t (by simp [ht]) (λe=>hn (e ▸ ht))).trans (hu t ht))) k3 k4)
    ((false,i,d)::c) fr ax j2 w' ho hc0 (λ_ _=>rfl) g4
 |(true,i,d)::c,fr,ax,ai,w,hnd,ho,hj,⟨⟨h1,h2⟩,o,v',h3,h4,h5,h6⟩,hu,hS=>by
   obtain⟨n1,n2⟩:=JJ hnd
   refine⟨o,v',h3,h5 ai,?_⟩
   rw [h4,iC]
   exact yA hr hD hn hG hK c _ ax ai w n2 (kept h2 ho) (hj.grow h1 (show d≠dr from λe=>h2 (e ▸ hr)) (λe=>(ahE.1 e).elim n1 (λe=>h2 (hD d e))) v') h6 hu hS
theorem EZ {dj dk:Nat} {qj qk:Value->List HP->Prop} (bV:dj≠dk) (hG:∀X w,aR β (X++Z) w->aR β S w)
 (hK:∀f1 h1,R f1 h1->∀va la,qj va la->∀vb lb,qk vb lb->∀ai w,ai dj=va->ai dk=vb->(∀t∈[dj,dk],t∉cE f1)->aR β (h1++(la++(lb++Z))) w->l6 P ops (NP Q) (aR β S) l2 (fI N f1 ai) w)
 (c:List (Bool×Nat×Nat)) (fr:Fr) (ax:List HP) (ai:Nat->Value) (w:World) (hnd:cC (Ea c)=true) (ho:∀t∈[dj,dk],t∉cE fr) (hj:jt P β N ops Q j dj (dj::(Ea c++[dk])) fr [] qj) (hk:jt P β N ops Q k dk (dk::(Ea c++[dj])) fr [] qk) (hc:eF P β N ops Q S [dj,dk] c fr ax R) (hS:aR β (ax++Z) w):yx P ops (NP Q) (aR β S) (oK j k l2 (JI c)) (fI N fr ai) w:=by
 have aj:wpOp P ops (NP Q) j (λa' w'=>aR β S w'/\yx P ops (NP Q) (aR β S) (oJ k l2 (JI c)) a' w') (fI N fr ai) w:=
  hj.at_ (X:=ax) hS (λv l j2 w' g1 g2 g3 g4=>⟨hG (ax++l) w' (by simpa using g4),yA (D:=[dj]) (u:=j2) (Z:=l++Z) ahd ahd (by simpa using bV.symm) (λX w h=>hG (X++l) w (by simpa using h))
   (λf1 h1 k1 vb lb k2 ai w k3 k4 k5 k6=>hK f1 h1 k1 v l g1 vb lb k2 ai w ((k4 dj ahd).trans g2) k3 k5 (Za k6)) c fr ax j2 w' hnd ho hk hc (λ_ _=>rfl) g4⟩)
 have ak:wpOp P ops (NP Q) k (λa' w'=>aR β S w'/\yx P ops (NP Q) (aR β S) (oJ j l2 (JI c)) a' w') (fI N fr ai) w:=
  hk.at_ (X:=ax) hS (λv l j2 w' g1 g2 g3 g4=>⟨hG (ax++l) w' (by simpa using g4),yA (D:=[dk]) (u:=j2) (Z:=l++Z) ahd ahd (by simpa using bV) (λX w h=>hG (X++l) w (by simpa using h))
   (λf1 h1 k1 va la k2 ai w k3 k4 k5 k6=>hK f1 h1 k1 va la k2 v l g1 ai w k3 ((k4 dk ahd).trans g2) k5 k6) c fr ax j2 w' hnd ho hj hc (λ_ _=>rfl) g4⟩)
 match c,hc with
 |[],_=>exact⟨aj,ak⟩
 |(false,i,d)::c,⟨⟨h1,h2⟩,q,h3,h4⟩=>
   obtain⟨n1,n2⟩:=JJ hnd
   have hm:∀x∈[dj,dk],d∉Ea c++[x]:=λx hx e=>(ahE.1 e).elim n1 (λe=>h2 (ahO.1 e ▸ hx))
   refine⟨h3.at_ (X:=[]) hS (λv' l j2 w' g1 g2 g3 g4=>⟨hG l w' g4,?_⟩),aj,ak⟩
   rw [zL g2 h1]
   exact EZ bV hG hK c _ l j2 w' n2 (kept h2 ho) (hj.grow h1 (show d≠dj from λe=>h2 (by simp [e])) (hm dk ahd) v') (hk.grow h1 (show d≠dk from λe=>h2 (by simp [e])) (hm dj ahd) v') (h4 v' l g1) g4
 |(true,i,d)::c,⟨⟨h1,h2⟩,o,v',h3,h4,h5,h6⟩=>
   obtain⟨n1,n2⟩:=JJ hnd
   have hm:∀x∈[dj,dk],d∉Ea c++[x]:=λx hx e=>(ahE.1 e).elim n1 (λe=>h2 (ahO.1 e ▸ hx))
   refine⟨o,v',h3,h5 ai,?_⟩
   rw [h4,iC]
   exact EZ bV hG hK c _ ax ai w n2 (kept h2 ho) (hj.grow h1 (show d≠dj from λe=>h2 (by simp [e])) (hm dk ahd) v') (hk.grow h1 (show d≠dk from λe=>h2 (by simp [e])) (hm dj ahd) v') h6 hS
termination_by c.length
theorem adw {pS:List Nat} (hn:cC pS=true) (hp:cW Z pS=some S) (X:List HP) (w:World) (h:aR β (X++Z) w):aR β S w:=aR.pick (ar:=pS) (l:=Z) (aR.left (aR.turn h)) hn hp
theorem oA.one {t:OT} {dj:Nat} {qj:Value->List HP->Prop} (pS:List Nat) (c:List (Bool×Nat×Nat)) (hj:jt P β N ops Q j dj (dj::(Ea c++[])) fr [] qj) (hc:eF P β N ops Q S [dj] c fr [] R)
 (K:∀f1 h1,R f1 h1->∀v lp,qj v lp->fF P β N ops S l2 ((dj,v)::f1) (h1++(lp++ax)) Q)
 (hl:t=oJ j l2 (JI c):=by rfl) (hn:cC pS=true:=by rfl) (hp:cW ax pS=some S:=by rfl) (hnd:cC (Ea c)=true:=by rfl) (hd:(!oC dj (cE fr) && !oC dj [])=true:=by rfl):oA P β N ops S t fr ax Q:=by
 intro ai w hS
 subst hl
 refine yA (D:=[]) (u:=ai) ahd ahd ahd (adw hn hp) (λf1 h1 hr v lp hv ai w a1 _ a3 a4=>?_) c fr [] ai w hnd (by simpa using (V8 hd).1) hj hc ahd hS
 rw [zL a1 (a3 dj ahd)]
 exact K f1 h1 hr v lp hv ai w a4
theorem oA.both {t:OT} {dj dk:Nat} {qj qk:Value->List HP->Prop} (pS:List Nat) (c:List (Bool×Nat×Nat)) (hj:jt P β N ops Q j dj (dj::(Ea c++[dk])) fr [] qj) (hk:jt P β N ops Q k dk (dk::(Ea c++[dj])) fr [] qk) (hc:eF P β N ops Q S [dj,dk] c fr [] R)
 (K:∀f1 h1,R f1 h1->∀va la,qj va la->∀vb lb,qk vb lb->fF P β N ops S l2 ((dj,va)::(dk,vb)::f1) (h1++(la++(lb++ax))) Q)
 (hl:t=oK j k l2 (JI c):=by rfl) (hn:cC pS=true:=by rfl) (hp:cW ax pS=some S:=by rfl) (hnd:cC (Ea c)=true:=by rfl) (hd:(!oC dj (cE fr) && !oC dj [dk])=true:=by rfl) (hd2:(!oC dk (cE fr) && !oC dk [])=true:=by rfl):oA P β N ops S t fr ax Q:=by
 intro ai w hS
 subst hl
 obtain⟨n1,n2⟩:=V8 hd
 have n3:=(V8 hd2).1
 have bV:dj≠dk:=by simpa using n2
 refine EZ bV (adw hn hp) (λf1 h1 hr va la ha vb lb hb ai w a1 a2 a3 a4=>?_) c fr [] ai w hnd (by simp [n1,n3]) hj hk hc hS
 rw [zL a2 (a3 dk ahd),zL a1 (fr:=(dk,vb)::f1) (λhm=>(aht.1 (show dj∈dk::cE f1 from hm)).elim bV (a3 dj ahd))]
 exact K f1 h1 hr va la ha vb lb hb ai w a4
end bes
end mix
def j5 (β:Bs) (Φ:Bs->Prop):dV where
 h F w:=∃β':Bs,β.le β'/\(∀k,β'.O k->β.O k\/F k)/\(∀k,F k->β'.O k)/\β'.w0.heap.size<=w.heap.size/\(∀k,F k->k<β'.w0.heap.size/\w.heap[k]?=β'.w0.heap[k]?)/\Φ β'
 lt:=λ⟨_,_,_,_,h4,h5,_⟩ k hk=>ahA (h5 k hk).1 h4
 st:=λ⟨β',h1,h2,h3,h4,h5,h6⟩ _ _ hk hs=>⟨β',h1,h2,h3,ahk h4 hk.size,λk hF=>⟨(h5 k hF).1,(hk.block k (ahA (h5 k hF).1 h4) (hs k hF)).trans (h5 k hF).2⟩,h6⟩
section GJ
variable {P:Program} {β:Bs} {N:fQ} {ops:Array Oper} {k:Nat} {fr:Fr} {ax eZ:List HP} {Q:Post} {f:FuncId} {args:Array Value} {pre:List HP}
theorem cr.GJ {ι:Type} {vv:ι->Value} {ll:ι->List HP} {Φ:ι->Bs->Prop} (h:cr P β f args pre (λβ' v l=>∃x,v=vv x/\l=ll x/\Φ x β')):aX P β f args pre (λv l=>∃x,v=vv x/\l=.abs (j5 β (Φ x))::ll x):=by
 intro R w hS
 refine (h R w hS).mono ?_
 rintro e w' ⟨β',v,l,dW,he,⟨x,rfl,rfl,Li⟩,ho,φ,h1,h2,h3⟩
 refine⟨vv x,_,he,⟨x,rfl,rfl⟩,ho.le dW,λi=>match i with
  |0=>λk=>β'.O k/\¬β.O k
  |i+1=>φ i,λi p hp=>?_,λi hi k hk hO=>?_,λi j hi hj bV k hk iB=>?_⟩
 ·cases i with
  |zero=>
    have hp:some (HP.abs (j5 β (Φ x)))=some p:=hp
    cases hp
    exact⟨β',dW,λk hk=>(Classical.em (β.O k)).elim .inl (λhn=>.inr ⟨hk,hn⟩),λk hk=>hk.1,ho.size,λk hk=>ho.old k hk.1,Li⟩
  |succ i=>exact h1 i p (by simpa using hp)
 ·cases i with
  |zero=>exact hk.2 hO
  |succ i=>exact h2 i (by simp at hi ⊢;omega) k hk (dW.O k hO)
 cases i with
 |zero=>
   cases j with
   |zero=>exact bV rfl
   |succ j=>exact h2 j (by simp at hj ⊢;omega) k iB hk.1
 |succ i=>
   cases j with
   |zero=>exact h2 i (by simp at hi ⊢;omega) k hk iB.1
   |succ j=>exact h3 i j (by simp at hi ⊢;omega) (by simp at hj ⊢;omega) zc k hk iB
theorem aR.tZ {Φ:Bs->Prop} {l:List HP} {w:World} (h:aR β (.abs (j5 β Φ)::l) w):∃β':Bs,β.le β'/\Φ β'/\aR β' l w:=by
 obtain⟨ho,φ,h1,h2,h3⟩:=h
 have hF:(j5 β Φ).h (φ 0) w:=h1 0 _ rfl
 obtain⟨β',g1,g2,g3,g4,g5,g6⟩:=hF
 refine⟨β',g1,g6,⟨ho.os.trans g1.os.symm,ho.tape.trans g1.tape.symm,ho.output.trans g1.output.symm,g4,λk hk=>?_⟩,λj=>φ (j+1),λj p hp=>h1 (j+1) p (by simpa using hp),λj hj k hk hO=>?_,λa b ha hb bV=>h3 (a+1) (b+1) (by simp;omega) (by simp;omega) zc⟩
 ·rcases g2 k hk with hb|hb
  ·have e1:=g1.old k hb
   have e2:=ho.old k hb
   grind
  exact g5 k hb
 rcases g2 k hO with hb|hb
 ·exact h2 (j+1) (by simp;omega) k hk hb
 exact h3 (j+1) 0 (by simp;omega) ahd zc k hk hb
theorem av.tZ {Φ:Bs->Prop} (i:Nat) (ar:List Nat) (hp:ax[i]?=some (.abs (j5 β Φ))) (hn:cC (i::ar)=true) (hl:cW ax ar=some eZ)
 (K:∀β':Bs,β.le β'->Φ β'->av P β' N ops k fr eZ Q):av P β N ops k fr ax Q:=λai w hS=>by
 obtain⟨β',g1,g2,g3⟩:=(hS.pick (ar:=i::ar) (l':=.abs (j5 β Φ)::eZ) hn (by simp only [cW,hp,hl])).tZ
 exact K β' g1 g2 ai w g3
theorem aX.Nb {Φ:Bs->Prop} {post:Value->List HP->Prop} (h:∀β':Bs,β.le β'->Φ β'->aX P β' f args pre post):aX P β f args (.abs (j5 β Φ)::pre) post:=by
 intro R w hS
 obtain⟨β',g1,g2,g3⟩:=aR.tZ (l:=pre++[.abs R]) hS
 refine (h β' g1 g2 R w g3).mono ?_
 rintro e w' ⟨v,l,h1,h2,h3⟩
 exact⟨v,l,h1,h2,h3.Nl g1⟩
end GJ
end
section
open Go.RowKit Go.Maps bG aF
theorem T4 (_:Nat) (f:dI):∀u∈iJ f,u.oneCell'=true:=by
 intro u hu
 simp only [iJ,aht,List.not_mem_nil,or_false] at hu
 rcases hu with rfl|rfl<;>rfl
theorem Zb (_:Nat) (a:dO):∀u∈jP a,u.oneCell'=true:=by
 intro u hu
 simp only [jP,aht,List.not_mem_nil,or_false] at hu
 rcases hu with rfl|rfl|rfl|rfl|rfl<;>rfl
theorem V9 (_:Nat) (a:aP):∀u∈aL a,u.oneCell'=true:=by
 intro u hu
 simp only [aL,aht,List.not_mem_nil,or_false] at hu
 rcases hu with rfl|rfl|rfl|rfl|rfl|rfl|rfl|rfl|rfl|rfl|rfl|rfl|rfl<;>rfl
theorem zq {α:Type} (f:α->List Value) (a:α) (ys:List α):bO f (ys++[a])=bO f ys++f a:=by
 have:∀(k:Nat) (ys:List α),fw (λ_ x=>f x) k (ys++[a])=fw (λ_ x=>f x) k ys++f a:=λk ys=>by
  induction ys generalizing k with
  |nil=>exact List.append_nil _
  |cons y r ih=>show f y++fw _ (k+1) (r++[a])=(f y++fw _ (k+1) r)++f a;rw [ih,ahD]
 exact this 0 ys
theorem yB {α:Type} {f:α->List Value} {s:Nat} (hf:∀a,(f a).length=s):∀xs:List α,(bO f xs).length=xs.length*s:=λxs=>by
 have:∀(k:Nat) (xs:List α),(fw (λ_ x=>f x) k xs).length=xs.length*s:=λk xs=>by
  induction xs generalizing k with
  |nil=>simp [fw]
  |cons y r ih=>show (f y++fw _ (k+1) r).length=_;rw [ahl,ih,hf,ahQ,Nat.succ_mul,air]
 exact this 0 xs
structure AZ where
 A:Int->Option Addr
 c:Int->Nat
def AZ.none:AZ:=⟨λ_=>Option.none,λ_=>0⟩
def AZ.put (Z:AZ) (n:Int) (B:Option Addr) (k:Nat):AZ:=⟨λx=>if x=n then B else Z.A x,λx=>if x=n then k else Z.c x⟩
def aA (Z:AZ) (xs:List dO) (n:Int):Option Addr:=if dS xs n=[] then .none else Z.A n
def aC (Z:AZ) (xs:List dO) (n:Int):Nat:=if dS xs n=[] then 0 else Z.c n
def zz:Int->Nat
 |.ofNat n=>2*n
 |.negSucc n=>2*n+1
def GK (k:Nat):Int:=if k % 2=0 then .ofNat (k / 2) else .negSucc (k / 2)
def ju (Z:AZ) (xs:List dO):Lit->Option Value
 |.int .i64 n=>if dS xs n=[] then .none else some (.slice (aA Z xs n) (dS xs n).length (aC Z xs n))
 |_=>.none
def gh (fs:List dI):Lit->Option Value
 |.int .i64 n=>if iQ fs n=0 then .none else some (.int .i64 (iQ fs n))
 |_=>.none
abbrev H8 (Z:AZ) (xs:List dO) (n:Int):dV:=aG 68 5 (aA Z xs n) (dS xs n).length (aC Z xs n) (bO jP (dS xs n))
def tq (Z:AZ) (xs:List dO) (k:Nat):dV:=if dS xs (GK k)=[] then dV.none else H8 Z xs (GK k)
def pN (β:Bs) (Z:AZ) (xs:List dO):Prop:=∀n,cD β (aA Z xs n) (bO jP (dS xs n))
section z
variable {Z:AZ} {xs:List dO} {n x:Int} {k c:Nat} {B:Option Addr} {a:dO} {β β':Bs} {l l':List HP} {w:World} {i j:Nat}
theorem O8:∀n,GK (zz n)=n
 |.ofNat n=>by show GK (2*n)=_;unfold GK;rw [ahf zc];exact ahg Int.ofNat zc
 |.negSucc n=>by show GK (2*n+1)=_;unfold GK;rw [ahe zc];exact ahg Int.negSucc zc
theorem adx (k:Nat):zz (GK k)=k:=by
 unfold GK
 split
 ·show 2*(k / 2)=k;omega
 show 2*(k / 2)+1=k;omega
theorem pN.le (h:pN β Z xs) (g:β.le β'):pN β' Z xs:=λn=>(h n).le g
theorem H9:(ju Z xs (.int .i64 n)).getD (.slice .none 0 0)=.slice (aA Z xs n) (dS xs n).length (aC Z xs n):=by
 unfold ju
 by_cases h:dS xs n=[]
 ·simp only
  rw [ahf h]
  unfold aA aC
  rw [ahf h,ahf h,h];rfl
 simp only
 rw [ahe h];rfl
theorem L7 {fs:List dI}:(gh fs (.int .i64 n)).getD (.int .i64 0)=.int .i64 (iQ fs n):=by
 unfold gh
 simp only
 split
 ·rename_i h;rw [h];rfl
 rfl
theorem Zc:ju Z []=λ_=>.none:=funext λl=>by
 unfold ju
 split<;>rfl
theorem Wa:gh []=λ_=>.none:=funext λl=>by
 unfold gh
 split<;>rfl
theorem BW {m:Int} (h:m≠a.at_):dS (xs++[a]) m=dS xs m:=by
 rw [xD,ahe (λe=>h e.symm)]
theorem BZ:dS (xs++[a]) a.at_=dS xs a.at_++[a]:=by
 rw [xD,ahf rfl]
theorem aaW {m:Int} (h:m≠a.at_):aA (Z.put a.at_ B c) (xs++[a]) m=aA Z xs m:=by
 unfold aA AZ.put
 rw [BW h]
 simp only
 rw [ahe h]
theorem aaX {m:Int} (h:m≠a.at_):aC (Z.put a.at_ B c) (xs++[a]) m=aC Z xs m:=by
 unfold aC AZ.put
 rw [BW h]
 simp only
 rw [ahe h]
theorem aaY:aA (Z.put a.at_ B c) (xs++[a]) a.at_=B:=by
 unfold aA AZ.put
 rw [BZ,ahe ahd]
 simp
theorem aaZ:aC (Z.put a.at_ B c) (xs++[a]) a.at_=c:=by
 unfold aC AZ.put
 rw [BZ,ahe ahd]
 simp
theorem Sb {f g:Lit->Option Value} {v:Option Value} (hv:g (.int .i64 n)=v) (ho:∀l,l≠.int .i64 n->g l=f l):ql f (.int .i64 n) v=g:=funext λl=>by
 unfold ql
 by_cases h:l.sameKey (.int .i64 n)=true
 ·rw [ahf h]
  have:l=.int .i64 n:=by
   cases l with
   |int q a=>simp [Lit.sameKey] at h;obtain⟨rfl,rfl⟩:=h;rfl
   |_=>simp [Lit.sameKey] at h
  rw [this,hv]
 rw [ahe h,ho l (λe=>h (by rw [e];simp [Lit.sameKey]))]
theorem Zd:ql (ju Z xs) (.int .i64 a.at_) (some (.slice B ((dS xs a.at_).length+1) c))=ju (Z.put a.at_ B c) (xs++[a]):=by
 refine Sb ?_ (λl h=>?_)
 ·unfold ju
  simp only
  rw [BZ,ahe ahd,aaY,aaZ,ahl];rfl
 unfold ju
 split
 ·rename_i m
  have hm:m≠a.at_:=λe=>h (by rw [e])
  rw [BW hm,aaW hm,aaX hm]
 rfl
theorem Wb {fs:List dI} {f:dI} (h:FK f) (h0:iQ fs f.at_=0):ql (gh fs) (.int .i64 f.at_) (some (.int .i64 f.kind))=gh (fs++[f]):=by
 have hk:¬f.kind=0:=by have:=h.1;omega
 refine Sb ?_ (λl hl=>?_)
 ·unfold gh
  simp only
  have e:iQ (fs++[f]) f.at_=f.kind:=by rw [tS,ahf h0,ahf (show f.at_=f.at_/\FK f from ⟨rfl,h⟩)]
  rw [e,ahe hk]
 unfold gh
 split
 ·rename_i m
  have hm:¬(f.at_=m/\FK f):=λe=>hl (by rw [e.1])
  rw [tS,ahe hm]
  by_cases h2:iQ fs m=0
  ·rw [ahf h2,h2]
  rw [ahe h2]
 rfl
theorem DG {fs:List dI} {f:dI} (h:¬FK f\/iQ fs f.at_≠0):gh (fs++[f])=gh fs:=funext λl=>by
 unfold gh
 split
 ·rename_i m
  have:iQ (fs++[f]) m=iQ fs m:=by
   rw [tS]
   by_cases h2:iQ fs m=0
   ·rw [ahf h2,ahe (λe=>?_),h2]
    rcases h with h|h
    ·exact h e.2
    exact h (by rw [e.1];exact h2)
   rw [ahe h2]
  rw [this]
 rfl
theorem aR.ady (h:aR β l w):aR β (l++[.abs (aW (tq AZ.none []))]) w:=h.M5 _ (λ_=>ahf rfl)
theorem aR.ach (h:aR β l w) (hp:l[i]?=some (.abs (aW (tq Z xs)))) (n:Int):aR β (l.set i (.abs (aW (nU (tq Z xs) (zz n) dV.none)))++[.abs (H8 Z xs n)]) w:=by
 have h1:=h.I4 hp (zz n)
 by_cases e:dS xs n=[]
 ·have e2:H8 Z xs n=aG 68 5 .none 0 0 []:=by
   unfold H8 aA aC
   rw [ahf e,ahf e,e];rfl
  rw [e2]
  exact (aR.left h1).mF (e:=68) (size:=5)
 have e2:tq Z xs (zz n)=H8 Z xs n:=by
  unfold tq
  rw [O8,ahe e]
 rw [e2] at h1
 exact h1
theorem aR.adz {ar:List Nat} (h:aR β l w) (hp:l[i]?=some (.abs (aW (nU (tq Z xs) (zz a.at_) dV.none)))) (hq:l[j]?=some (.abs (aG 68 5 B ((dS xs a.at_).length+1) c (bO jP (dS xs a.at_)++jP a)))) (hn:cC (i::j::ar)=true) (hl:cW l ar=some l') :
 aR β (.abs (aW (tq (Z.put a.at_ B c) (xs++[a])))::l') w:=by
 refine h.xu hp hq (λ_ _ h=>h) hn hl (zz a.at_) (λx hx=>?_) ?_
 ·have bV:GK x≠a.at_:=λe=>hx (by rw [←e,adx])
  unfold nU
  rw [ahe hx]
  unfold tq H8
  rw [BW bV,aaW bV,aaX bV]
 unfold tq H8
 rw [O8,BZ,ahe ahd,aaY,aaZ]
 rw [zq,ahl];rfl
theorem pN.of {F:Fp} (h:(HP.abs (aW (tq Z xs))).h F w) (h1:∀k,F k->β.O k) (h2:β.w0=w):pN β Z xs:=λn=>by
 by_cases e:dS xs n=[]
 ·rw [e];exact λj v hj=>by simp [bO,fw] at hj
 obtain⟨φ,g1,_,g3⟩:=h
 have h3:=g1 (zz n)
 unfold tq at h3
 rw [O8,ahe e] at h3
 exact cD.gU h3 (λk hk=>h1 k ((g3 k).2 ⟨_,hk⟩)) h2
end z
theorem DH {xs:List dO} {i:Nat} (h:i<xs.length):xs.take (i+1)=xs.take i++[act xs i]:=by
 rw [ahK,zK h];rfl
theorem wQ {fs:List dI} {i:Nat} (h:i<fs.length):fs.take (i+1)=fs.take i++[pK fs i]:=by
 rw [ahK,F5 h];rfl
theorem Wd {n:Nat} (h:n<=9223372036854775807):(Lit.int .i64 (n:Int)).wf=true:=by
 simp [Lit.wf,IntKind.min,IntKind.max,IntKind.signed,IntKind.bits]
 omega
theorem Ze {d:List UInt8} {m j:Nat} {v:Value} (h:(dL (d.take m))[j]?=some v):(dL d)[j]?=some v:=by
 unfold dL at h ⊢
 rw [List.getElem?_map] at h ⊢
 rw [List.getElem?_take] at h
 split at h
 ·exact h
 cases h
theorem QV {β:Bs} {c:aP} (h:kH β c):kH β {c with data:=c.data.take (c.data.length / 2)}:=⟨h.hw,h.ow,h.nm,h.tx,λj v hj=>h.da j v (Ze hj),by
 show (c.data.take _).length<=_
 rw [ahC];have:=h.dl;omega,by
 show (c.data.take _).length<=c.dC
 rw [ahC];have:=h.dc;omega,h.op⟩
structure WG where
 w:Nat
 o:Nat
 q:Nat
 am:Nat
 km:Nat
 an:Nat
 kn:Nat
 f:Nat
 m:Nat
 t:Nat
 Z:AZ
structure WV where
 L:HL
 A:Option Addr
 c:Nat
abbrev wB (w o f:Nat) (au:Int) (A:Option Addr) (n c:Nat):HP:=.ay w [.iface 37 (vP w),vP f,.iface 108 (vP o),.int .i64 au,.slice A n c] 79
abbrev oB (o q f:Nat) (au:Int) (am n:Nat):HP:=.ay o [.iface 109 (vP q),vP f,.int .i64 au,.map (some am),.int .i64 n] 113
abbrev qB (q f km n:Nat):HP:=.ay q [.iface 76 (vP f),.map (some km),.int .i64 n] 111
abbrev aM (am an:Nat) (Z:AZ) (xs:List dO):HP:=.abs (bD Tryz.prog 3 am (ju Z xs) an)
abbrev kM (km kn:Nat) (fs:List dI):HP:=.abs (bD Tryz.prog 3 km (gh fs) kn)
abbrev tR (A:Option Addr) (c:Nat) (tr:List aP):HP:=.abs (aG 53 13 A tr.length c (bO aL tr))
abbrev wP (G:WG) (fs:List dI) (xs:List dO) (au:Int) (S:bB) (V:WV) (tr:List aP):List HP:=[wB G.w G.o G.f au V.A tr.length V.c,oB G.o G.q G.f au G.am tr.length,qB G.q G.f G.km tr.length,aM G.am G.an G.Z xs,kM G.km G.kn fs,tR V.A V.c tr]++pA G.f G.m G.t V.L S
def wA (G:WG) (fs:List dI) (xs:List dO) (au:Int) (S:bB) (V:WV) (tr:List aP):HP:=.abs (gS (wP G fs xs au S V tr))
def yO (β:Bs) (tr:List aP):Prop:=∀c∈tr,bJ β c.dA c.data/\c.data.length<=1048576
theorem yO.le {β β':Bs} {tr:List aP} (h:yO β tr) (g:β.le β'):yO β' tr:=λc hc=>⟨(h c hc).1.le g,(h c hc).2⟩
theorem yO.snoc {β:Bs} {tr:List aP} {c:aP} (h:yO β tr) (g:bJ β c.dA c.data) (g2:c.data.length<=1048576):yO β (tr++[c]):=λx hx=>by
 rcases ahE.1 hx with hx|hx
 ·exact h x hx
 obtain rfl:=ahO.1 hx;exact⟨g,g2⟩
theorem aX.one {P:Program} {β:Bs} {f:FuncId} {args:Array Value} {pre:List HP} {post:Value->List HP->Prop} (h:aX P β f args pre post):aX P β f args [.abs (gS pre)] (λv l=>∃l0,post v l0/\l=[.abs (gS l0)]):=by
 intro R w hS
 have h1:aR β ([.abs R]++[.abs (gS pre)]) w:=aR.turn hS
 refine (h R w (aR.turn h1.su)).mono ?_
 rintro e w' ⟨v,l,h2,h3,h4⟩
 exact⟨v,[.abs (gS l)],h2,⟨l,h3,rfl⟩,aR.turn (aR.gS (aR.turn h4))⟩
theorem cr.one {P:Program} {β:Bs} {f:FuncId} {args:Array Value} {pre:List HP} {post:Bs->Value->List HP->Prop} (h:cr P β f args pre post):cr P β f args [.abs (gS pre)] (λβ' v l=>∃l0,post β' v l0/\l=[.abs (gS l0)]):=by
 intro R w hS
 have h1:aR β ([.abs R]++[.abs (gS pre)]) w:=aR.turn hS
 refine (h R w (aR.turn h1.su)).mono ?_
 rintro e w' ⟨β',v,l,dW,h2,h3,h4⟩
 exact⟨β',v,[.abs (gS l)],dW,h2,⟨l,h3,rfl⟩,aR.turn (aR.gS (aR.turn h4))⟩
theorem aB.tZ {β:Bs} {N:fQ} {Q:Post} {e:Exit} {fr:Fr} {ax eZ:List HP} {Φ:Bs->Prop} (i:Nat) (ar:List Nat) (hp:ax[i]?=some (.abs (j5 β Φ))) (hn:cC (i::ar)=true) (hl:cW ax ar=some eZ) (K:∀β':Bs,β.le β'->Φ β'->aB β' N Q e fr eZ):aB β N Q e fr ax:=λai w hS=>by
 obtain⟨β',g1,g2,g3⟩:=(hS.pick (ar:=i::ar) (l':=.abs (j5 β Φ)::eZ) hn (by simp only [cW,hp,hl])).tZ
 exact K β' g1 g2 ai w g3
theorem cr.Nb {P:Program} {β:Bs} {f:FuncId} {args:Array Value} {pre:List HP} {Φ:Bs->Prop} {post:Bs->Value->List HP->Prop} (h:∀β':Bs,β.le β'->Φ β'->cr P β' f args pre post):cr P β f args (.abs (j5 β Φ)::pre) post:=by
 intro A w hS
 obtain⟨β',g1,g2,g3⟩:=aR.tZ (l:=pre++[.abs A]) hS
 refine (h β' g1 g2 A w g3).mono ?_
 rintro e w' ⟨β'',v,l,dW,h2⟩
 exact⟨β'',v,l,g1.trans dW,h2⟩
theorem cr.adA {P:Program} {β:Bs} {f:FuncId} {args:Array Value} {R:List HP} {post:Bs->Value->List HP->Prop} (h:∀β':Bs,mX β R β'->cr P β' f args [] post):cr P β f args R post:=by
 intro A w hS
 have h4:aR β ([.abs A]++R) w:=aR.turn hS
 obtain⟨β',g1,_,g3⟩:=h4.sZ
 refine (h β' g1 A w g3).mono ?_
 rintro e w' ⟨β'',v,l,dW,h2⟩
 exact⟨β'',v,l,g1.le.trans dW,h2⟩
theorem cr.adB {P:Program} {β:Bs} {f:FuncId} {args:Array Value} {pre:List HP} {post:Value->List HP->Prop} (h:cr P β f args pre (λ_ v l=>post v l)):aX P β f args pre post:=by
 intro A w hS
 refine (h A w hS).mono ?_
 rintro e w' ⟨β',v,l,dW,h2,h3,h4⟩
 exact⟨v,l,h2,h3,h4.Nl dW⟩
theorem cr.adC {P:Program} {β:Bs} {f:FuncId} {args:Array Value} {pre:List HP} {post post':Bs->Value->List HP->Prop} (h:cr P β f args pre post) (hp:∀β' v l,post β' v l->(l=[]/\post' β' v [])\/post' β' v [.abs (gS l)]):cr P β f args pre post':=by
 intro R w hS
 refine (h R w hS).mono ?_
 rintro e w' ⟨β',v,l,dW,h2,h3,h4⟩
 rcases hp β' v l h3 with ⟨rfl,h5⟩|h5
 ·exact⟨β',v,[],dW,h2,h5,h4⟩
 exact⟨β',v,[.abs (gS l)],dW,h2,h5,aR.turn (aR.gS (aR.turn h4))⟩
theorem DI {α:Type} (f:α->List Value) (a:α) (r:List α):bO f (a::r)=f a++bO f r:=by
 have:∀(k k':Nat) (r:List α),fw (λ_ x=>f x) k r=fw (λ_ x=>f x) k' r:=λk k' r=>by
  induction r generalizing k k' with
  |nil=>rfl
  |cons y r ih=>show f y++fw _ (k+1) r=f y++fw _ (k'+1) r;rw [ih]
 show f a++fw _ 1 r=f a++fw _ 0 r
 rw [this]
section k
variable {xs:List dO} {z au:Int} {j n:Nat} {fs:List dI} {S:bB} {c:aP} {k:Int}
end k
theorem O9 {V:Type} {g:Int×V->Nat}:∀{a b:bF V},gV g (a++b)=gV g a+gV g b
 |[],b=>(ahy _).symm
 |p::r,b=>by
   show g p+gV g (r++b)=g p+gV g r+gV g b
   rw [O9];omega
theorem QW {ns:List aO} {i j:Nat} (h:i<=j):fW ns i<=fW ns j:=by
 induction j with
 |zero=>rw [Nat.le_zero.1 h];exact aho _
 |succ j ih=>
   grind [fW]
theorem JK {ns:List aO} {i:Nat} (h:i<=ns.length):fW ns i<=fW ns ns.length:=QW h
section at_
variable {S:bB} {i j:Nat}
theorem pP (hi:i<S.ar.length):nd (aY S) i=jS S.O (gI S i) (jr S i):=by
 grind [nd,aY,yt]
theorem adD {t:Th} (hl:aT S.ar t):∃i,i<S.ar.length/\jr S i=t/\gI S i=(t.k:Int):=by
 obtain⟨i,hi,e⟩:=ahW (get_mem hl)
 have h1:=yt hi
 grind
theorem Ca (f:bM->Nat) (s:List aO->Nat->Nat) (h0:∀ns,s ns 0=0) (hs:∀k,k<S.ar.length->s (aY S) (k+1)=s (aY S) k+f (af S.O (jr S k).k)):∀k,k<=S.ar.length->s (aY S) k=gV (λp=>f (af S.O p.2.k)) (S.ar.take k)
 |0,_=>by rw [h0];rfl
 |k+1,hk=>by
   rw [hs k hk,Ca f s h0 hs k zc,ahK,yt hk,O9]
   rfl
theorem Pa:fW (aY S) S.ar.length=bytes S.ar S.O:=by
 have h:=Ca (S:=S) (λo=>o.data.length) fW (λ_=>rfl) (λk hk=>by show fW (aY S) k+_=_;rw [pP hk];rfl) S.ar.length (aho _)
 rw [ahG] at h
 exact h
theorem E0:dM (aY S) S.ar.length=tot S.ar S.O:=by
 have h:=Ca (S:=S) (λo=>o.ah.length) dM (λ_=>rfl) (λk hk=>by
  show dM (aY S) k+_=_
  rw [pP hk]
  show _+((af S.O (jr S k).k).ah.map _).length=_
  rw [ahz]) S.ar.length (aho _)
 rw [ahG] at h
 exact h
end at_
end
section
open Go.RowKit Go.Maps bG aF
attribute [local irreducible] av bP aq aB fF
theorem wR {β:Bs} (Z:RS) (Y:RL) (hR:dz β Z Y) (hB:RB Z) (id:Int) :
 aX Tryz.prog β 98 #[.agg ⟨rV Z Y⟩,vI (id)] [] (λv l=>v=.bool (decide (id∈Z.aH))/\l=[]):=by
 refine SE Tryz.func98 Tryz.ntmps98 (λR=>SR (jB 2 [2] (λb1=>.ay b1 (rV Z Y) 45) (λb1=>NZ (jK 1 [5] [] (NN (aq.block (lJ (λ(i:Nat)=>(i<=Z.aH.length)/\(∀q,q<i->¬Z.aH.getD q 0=id)) (λ(i:Nat)=>Z.aH.length-i) (λ(i:Nat)=>[(1,vI (id)),(2,vP b1),(5,vI ↑i)]) (λ(i:Nat)=>[.abs R,.ay b1 (rV Z Y) 45]) 0 [0,1] (⟨ahj _,λq hq=>ahh hq (ahm q)⟩) ?_)))))))
 rintro i ⟨hi,iU⟩
 have hbg:=hB.aH
 exact SQ (jK 5 [10] [(2,a_ 1 b1)] (NN (cP ((((i:Nat):Int):Int)<(((Z.aH.length:Nat):Int):Int)) (λh10=>KX (aq.seq (aq.block (SR (jK 7 [19] [(1,a_ 1 b1),(3,x_ i Z.aH.length (xC.hd (l:=Z.aH) hR.g (j:=i) Pe)),(4,r_ (xC.rd (l:=Z.aH) hR.g (j:=i) Pe))] (NN (cP (((Z.aH.getD i 0):Int)=(id:Int)) (λhhit=>zR ⟨ahg Value.bool (ab8 (j:=i) zc hhit),rfl⟩) (λhhit=>KX (aq.region (jK 3 [5] [(1,wJ ((i:Int)+1) (↑(i+1)))] (NL (tJ ((i+1)) [0,1] (⟨zc,λq hq=>Pe⟩))))))))))))) (λh10=>XX (zR ⟨ahg Value.bool (YV (λq hq=>iU q zc)),rfl⟩)))))
theorem Zf {β:Bs} (Z:RS) (Y:RL) (hR:dz β Z Y) (hB:RB Z) :
 aX Tryz.prog β 104 #[.agg ⟨rV Z Y⟩] [] (λv l=>v=vI ((fW Z.ns Z.ns.length:Nat):Int)/\l=[]):=by
 refine SE Tryz.func104 Tryz.ntmps104 (λR=>SR (jB 2 [1] (λb2=>.ay b2 (rV Z Y) 45) (λb2=>NS (jK 1 [3] [] (NZ (jK 1 [4] [] (NN (aq.block (lJ (λ(i:Nat)=>(i<=Z.ns.length)) (λ(i:Nat)=>Z.ns.length-i) (λ(i:Nat)=>[(1,vP b2),(3,vI ↑(fW Z.ns i)),(4,vI ↑i)]) (λ(i:Nat)=>[.abs R,.ay b2 (rV Z Y) 45]) 0 [0,1] (ahj _) ?_)))))))))
 rintro i hi
 have hbn:=hB.ns
 have hbd:=hB.dat
 have hdt:=JK (ns:=Z.ns) (i:=i) hi
 exact SQ (jK 6 [10] [(3,a_ 1 b2)] (NN (cP ((((i:Nat):Int):Int)<(((Z.ns.length:Nat):Int):Int)) (λh10=>KX (aq.seq (aq.block (aq.region (jK 11 [3] [(3,a_ 1 b2),(5,x_ i Z.ns.length (aQ.hd hR.n (i:=i) zc)),(7,r_ (aQ.rd hR.n (i:=i) zc (j:=7) rfl)),(9,w_ (.int .i64 ↑(fW Z.ns (i+1))) (vB (Int.natCast_add _ _).symm zc (by grind [JK])))] (LX (aq.region (jK 3 [4] [(1,wJ ((i:Int)+1) (↑(i+1)))] (NL (tJ ((i+1)) [0,1] zc)))))))))) (λh10=>XX (zR (v:=(vI ↑(fW Z.ns i))) ⟨by rw [show i=Z.ns.length by omega],rfl⟩)))))
theorem Pb {β:Bs} (Z:RS) (Y:RL) (hR:dz β Z Y) (hB:RB Z) :
 aX Tryz.prog β 81 #[.agg ⟨rV Z Y⟩] [] (λv l=>v=vI ((dM Z.ns Z.ns.length:Nat):Int)/\l=[]):=by
 refine SE Tryz.func81 Tryz.ntmps81 (λR=>SR (jB 2 [1] (λb3=>.ay b3 (rV Z Y) 45) (λb3=>NS (jK 1 [3] [] (NZ (jK 1 [4] [] (NN (aq.block (lJ (λ(i:Nat)=>(i<=Z.ns.length)) (λ(i:Nat)=>Z.ns.length-i) (λ(i:Nat)=>[(1,vP b3),(3,vI ↑(dM Z.ns i)),(4,vI ↑i)]) (λ(i:Nat)=>[.abs R,.ay b3 (rV Z Y) 45]) 0 [0,1] (ahj _) ?_)))))))))
 rintro i hi
 have hbn:=hB.ns
 have hbe:=hB.ah
 have hmo:=qG (ns:=Z.ns) hi
 exact SQ (jK 6 [10] [(3,a_ 1 b3)] (NN (cP ((((i:Nat):Int):Int)<(((Z.ns.length:Nat):Int):Int)) (λh10=>KX (aq.seq (aq.block (aq.region (jK 11 [3] [(3,a_ 1 b3),(5,x_ i Z.ns.length (aQ.hd hR.n (i:=i) zc)),(7,r_ (aQ.rd hR.n (i:=i) zc (j:=9) rfl)),(9,w_ (.int .i64 ↑(dM Z.ns (i+1))) (vB (Int.natCast_add _ _).symm zc (by have:=qG (ns:=Z.ns) (show i+1<=Z.ns.length by omega);have:=hB.ah;omega)))] (LX (aq.region (jK 3 [4] [(1,wJ ((i:Int)+1) (↑(i+1)))] (NL (tJ ((i+1)) [0,1] zc)))))))))) (λh10=>XX (zR (v:=(vI ↑(dM Z.ns i))) ⟨by rw [show i=Z.ns.length by omega],rfl⟩)))))
theorem Wf {β:Bs} (Z:RS) (Y:RL) (hR:dz β Z Y) (hB:RB Z) (id:Int) :
 aX Tryz.prog β 118 #[.agg ⟨rV Z Y⟩,vI (id)] [] (λv l=>v=vI (uh Z.ns id)/\l=[]):=by
 refine SE Tryz.func118 Tryz.ntmps118 (λR=>SR (jB 2 [2] (λb4=>.ay b4 (rV Z Y) 45) (λb4=>NS (jK 1 [5] [] (NZ (jK 1 [6] [] (NN (aq.block (lJ (λ(i:Nat)=>(i<=Z.ns.length)) (λ(i:Nat)=>Z.ns.length-i) (λ(i:Nat)=>[(1,vI (id)),(2,vP b4),(5,vI ↑(nP Z.ns id i)),(6,vI ↑i)]) (λ(i:Nat)=>[.abs R,.ay b4 (rV Z Y) 45]) 0 [0,1] (ahj _) ?_)))))))))
 rintro i hi
 have hbn:=hB.ns
 have hbe:=hB.ah
 have hcs:=TG Z.ns id i
 have hmo:=qG (ns:=Z.ns) hi
 refine SQ (jK 6 [13] [(3,a_ 1 b4)] (NN (cP ((((i:Nat):Int):Int)<(((Z.ns.length:Nat):Int):Int)) (λsB=>KX (aq.seq (aq.block (SR (jK 1 [7] [] (NN (aq.block (lJ (λ(j:Nat)=>(j<=(nd Z.ns i).ah.length)) (λ(j:Nat)=>(nd Z.ns i).ah.length-j) (λ(j:Nat)=>[(1,vI (id)),(2,vP b4),(5,vI ↑(nP Z.ns id i+iW (nd Z.ns i).ah id j)),(6,vI ↑i),(7,vI ↑j)]) (λ(j:Nat)=>[.abs R,.ay b4 (rV Z Y) 45]) 0 [0,1] (ahj _) ?_)))))))) (λsB=>XX (zR (v:=(vI ↑(nP Z.ns id i))) ⟨by rw [show i=Z.ns.length by omega];rfl,rfl⟩)))))
 rintro j hj
 have hrl:=LK (nd Z.ns i).ah id j
 have hrw:=hB.row (i:=i) zc
 exact SQ (jK 10 [25] [(3,a_ 1 b4),(5,x_ i Z.ns.length (aQ.hd hR.n (i:=i) zc)),(7,r_ (aQ.rd hR.n (i:=i) zc (j:=9) rfl))] (NN (cP ((((j:Nat):Int):Int)<((((nd Z.ns i).ah.length:Nat):Int):Int)) (λpZ=>KX (aq.seq (aq.block (SR (jK 13 [40] [(2,a_ 1 b4),(4,x_ i Z.ns.length (aQ.hd hR.n (i:=i) zc)),(6,r_ (aQ.rd hR.n (i:=i) zc (j:=9) rfl)),(8,x_ j ((nd Z.ns i).ah.length) (cV.hd (hR.n.ah i zc) (i:=j) zc)),(10,r_ (cV.rd (hR.n.ah i zc) (i:=j) zc (j:=1) rfl))] (NN (cP (((en (nd Z.ns i).ah j).id:Int)=(id:Int)) (λuj=>aq.region (jK 3 [5] [(1,wJ (((nP Z.ns id i+iW (nd Z.ns i).ah id j:Nat):Int)+1) (↑((nP Z.ns id i+iW (nd Z.ns i).ah id j)+1)))] (LX (aq.region (sl 5 (vI ↑((nP Z.ns id i+iW (nd Z.ns i).ah id j)+1)) (.int .i64 ↑(nP Z.ns id i+iW (nd Z.ns i).ah id (j+1))) (by rw [←Js uj,ail]) (jK 3 [7] [(1,wJ ((j:Int)+1) (↑(j+1)))] (NL (tJ ((j+1)) [0,1] (zc))))))))) (λuj=>KX (aq.region (sl 5 (vI ↑(nP Z.ns id i+iW (nd Z.ns i).ah id j)) (.int .i64 ↑(nP Z.ns id i+iW (nd Z.ns i).ah id (j+1))) (by rw [←GH uj]) (jK 3 [7] [(1,wJ ((j:Int)+1) (↑(j+1)))] (NL (tJ ((j+1)) [0,1] (zc)))))))))))))) (λpZ=>XX (aq.region (sl 5 (vI ↑(nP Z.ns id i+iW (nd Z.ns i).ah id j)) (.int .i64 ↑(nP Z.ns id (i+1))) (by rw [nP,show j=(nd Z.ns i).ah.length by omega]) (jK 3 [6] [(1,wJ ((i:Int)+1) (↑(i+1)))] (NL (tJ ((i+1)) [0,1] (zc))))))))))
theorem jJ {β:Bs} (Z:RS) (Y:RL) (hR:dz β Z Y) (hB:RC Z) (d:Nat) (hd:d<Z.ns.length) (name:ByteArray) :
 aX Tryz.prog β 76 #[.agg ⟨rV Z Y⟩,vI (((d:Nat):Int)),.string name] [] (λv l=>v=vI (bZ Z.ns d name)/\l=[]):=by
 refine SE Tryz.func76 Tryz.ntmps76 (λR=>SR (jB 2 [3] (λb5=>.ay b5 (rV Z Y) 45) (λb5=>NZ (jK 1 [7] [] (NN (aq.block (lJ (λ(j:Nat)=>(j<=(nd Z.ns d).ah.length)/\(∀q,q<j->¬(en (nd Z.ns d).ah q).name=name)) (λ(j:Nat)=>(nd Z.ns d).ah.length-j) (λ(j:Nat)=>[(1,vI ↑d),(2,.string name),(3,vP b5),(7,vI ↑j)]) (λ(j:Nat)=>[.abs R,.ay b5 (rV Z Y) 45]) 0 [0,1] (⟨ahj _,λq hq=>ahh hq (ahm q)⟩) ?_)))))))
 rintro j ⟨hj,iU⟩
 have hrw:=hB.toRB.row hd
 refine SQ (jK 10 [17] [(3,a_ 1 b5),(5,x_ d Z.ns.length (aQ.hd hR.n (i:=d) zc)),(7,r_ (aQ.rd hR.n (i:=d) zc (j:=9) rfl))] (NN (cP ((((j:Nat):Int):Int)<((((nd Z.ns d).ah.length:Nat):Int):Int)) (λEt=>KX (aq.seq (aq.block (SR (jK 13 [32] [(2,a_ 1 b5),(4,x_ d Z.ns.length (aQ.hd hR.n (i:=d) zc)),(6,r_ (aQ.rd hR.n (i:=d) zc (j:=9) rfl)),(8,x_ j ((nd Z.ns d).ah.length) (cV.hd (hR.n.ah d zc) (i:=j) zc)),(10,r_ (cV.rd (hR.n.ah d zc) (i:=j) zc (j:=0) rfl)),(12,w_ (.bool (decide (((en (nd Z.ns d).ah j).name:ByteArray)=name))) (qR _ _))] (NN (cP (((en (nd Z.ns d).ah j).name:ByteArray)=name) (λsy=>aq.seq (jM [0,1,2,3,4,5,6,7,8,9,10,11,12,513,514] [1] (jG 13 [34,45] [(1,a_ 0 b5),(4,a_ 0 b5),(6,x_ d Z.ns.length (aQ.hd hR.n (i:=d) zc)),(8,r_ (aQ.rd hR.n (i:=d) zc (j:=9) rfl)),(10,x_ j ((nd Z.ns d).ah.length) (cV.hd (hR.n.ah d zc) (i:=j) zc)),(12,r_ (cV.rd (hR.n.ah d zc) (i:=j) zc (j:=1) rfl))] (kL [1] [] (ze Y.A Y.c Z.ns Y.L hR.n hB.fO (by have:=hB.ns;omega) (en (nd Z.ns d).ah j).id) ?_ (by rintro _ _ ⟨rfl,rfl⟩;kernel_rfl))))) (λsy=>KX (aq.region (jK 3 [7] [(1,wJ ((j:Int)+1) (↑(j+1)))] (NL (tJ ((j+1)) [0,1] (⟨zc,λq hq=>Pe⟩))))))))))))) (λEt=>XX (zR ⟨ahg (Value.int .i64) (TM (λq hq=>iU q zc)),rfl⟩)))))
 rintro _ _ ⟨rfl,rfl⟩
 exact fF.last KB (jK 1 [6] [] (NL (aB.np (NX (aq.ret (aB.gi (aB.bE (aB.bE (aB.gi (aB.bE (RT _ [0] (⟨ahg (Value.int .i64) (VX zc sy iU),rfl⟩))))))))))))
end
section
open Go.RowKit Go.Maps bG aF
attribute [local irreducible] av bP aq aB cu
theorem L8 (l:List Int) (x:Int):bL l++[vI x]=bL (l++[x]):=by simp [bL]
theorem iR (q:bF Int) (x:Int×Int):(q++[x]).length=q.length+1:=ahl
theorem KU {q:bF Int} {x:Int×Int} {B:Option Addr} {c:Nat} {k:Int} (h:k=x.1):HP.abs (aG 3 1 B (q.length+1) c (bL (bn q)++[vI k]))=HP.abs (aG 3 1 B (q++[x]).length c (bL (bn (q++[x])))):=by
 rw [LJ,←L8,iR,h]
theorem KV {q:bF Int} {x:Int×Int} {B:Option Addr} {c:Nat} {k:Int} (h:k=x.2):HP.abs (aG 3 1 B (q.length+1) c (bL (iZ q)++[vI k]))=HP.abs (aG 3 1 B (q++[x]).length c (bL (iZ (q++[x])))):=by
 rw [YU,←L8,iR,h]
theorem lU.keep {us q:bF Int} {h v:Int} {i:Nat} {d:Bool} (hp:lU us h v i d q) (hi:i<us.length) (hk:¬h<(pr us i).1):lU us h v (i+1) d (q++[pr us i]):=by
 cases d with
 |false=>exact hp.miss hi hk
 |true=>exact hp.more hi
theorem E4 {β:Bs} (M p:Int) (A B:Option Addr) (c d:Nat) (us:bF Int) (hA:cD β A (bL (bn us))) (hl:us.length<=16777216) (h:Int) :
 aX Tryz.prog β 101 #[.agg #[vI (M),vI (p),.slice A (us.length) (c),.slice B (us.length) (d)],vI h] [] (λv l=>v=vI (ug (bn us) h)/\l=[]):=by
 refine SE Tryz.func101 Tryz.ntmps101 (λR=>SR (jB 2 [2] (λb1=>.ay b1 [vI (M),vI (p),.slice A (us.length) (c),.slice B (us.length) (d)] 43) (λb1=>NZ (jK 1 [5] [] (NN (aq.block (lJ (λ(i:Nat)=>(i<=us.length)/\(∀j,j<i->¬(bn us).getD j 0=h)) (λ(i:Nat)=>us.length-i) (λ(i:Nat)=>[(1,vI (h)),(2,vP b1),(5,vI ↑i)]) (λ(i:Nat)=>[.abs R,.ay b1 [vI (M),vI (p),.slice A (us.length) (c),.slice B (us.length) (d)] 43]) 0 [0,1] (⟨ahj _,λj hj=>ahh hj (ahm j)⟩) ?_)))))))
 rintro i ⟨hi,iU⟩
 exact SQ (jK 5 [10] [(2,a_ 1 b1)] (NN (cP ((((i:Nat):Int):Int)<(((us.length:Nat):Int):Int)) (λh10=>KX (aq.seq (aq.block (SR (jK 7 [19] [(1,a_ 1 b1),(3,x_ i us.length (lT.hd hA (j:=i) (by rw [j9];omega))),(4,r_ (lT.rd hA (j:=i) (by rw [j9];omega)))] (NN (cP ((((bn us).getD i 0):Int)=(h:Int)) (λGv=>zR (v:=(vI ↑i)) ⟨by grind [VU,j9],rfl⟩) (λGv=>KX (aq.region (jK 3 [5] [(1,wJ ((i:Int)+1) (↑(i+1)))] (NL (tJ ((i+1)) [0,1] (⟨zc,λj hj=>(ahn.1 hj).elim (iU j) (λe=>e ▸ Gv)⟩))))))))))))) (λh10=>XX (zR (v:=(vI (-1))) ⟨by grind [OM,j9],rfl⟩)))))
theorem Zg {β:Bs} (M p:Int) (A B:Option Addr) (c d:Nat) (us:bF Int) (x:Int) (hf:M<=(us.length:Int)) :
 aX Tryz.prog β 102 #[.agg #[vI (M),vI (p),.slice A (us.length) (c),.slice B (us.length) (d)],vI x] [] (λv l=>v=.tuple #[.agg #[vI (M),vI (p),.slice A (us.length) (c),.slice B (us.length) (d)],vI 0,vI 130]/\l=[]):=by
 exact SE Tryz.func102 Tryz.ntmps102 (λR=>SR (jB 1 [2] (λb2=>.ay b2 [vI (M),vI (p),.slice A (us.length) (c),.slice B (us.length) (d)] 43) (λb2=>jB 3 [4] (λb3=>.ay b3 [vI 0,vI 0,.slice none (0) (0),.slice none (0) (0)] 43) (λb3=>NZ (jK 6 [16] [(1,a_ 1 b2),(4,a_ 1 b2)] (NN (cP ((((us.length:Nat):Int):Int)>=(M:Int)) (λpz=>SR (jC 4 [5,6] [(0,A_ 1 b2 4),(1,A_ 2 b3 4)] [(2,[(0,vI (M)),(1,vI (p)),(2,.slice A (us.length) (c)),(3,.slice B (us.length) (d))])] (eS [A_ 2 b3 4] ⟨rfl,rfl⟩))) (λpz=>ahh pz (by omega)))))))))
theorem aci {β:Bs} (M p:Int) (A B:Option Addr) (c d:Nat) (us:bF Int) (hA:cD β A (bL (bn us))) (hB:cD β B (bL (iZ us))) (hl:us.length<=16777216) (hr:aF.dH (bn us)) (hp:∀z∈bn us,1<=z) (x:Int) (hf:(us.length:Int)<M) :
 aX Tryz.prog β 102 #[.agg #[vI (M),vI (p),.slice A (us.length) (c),.slice B (us.length) (d)],vI x] [] (λv l=>∃A' c' B' d',v=.tuple #[.agg #[vI (M),vI (max p ((us.length:Int)+1)),.slice A' (ins (aF.aS us) x us).length c',.slice B' (ins (aF.aS us) x us).length d'],vI (aF.aS us),vI 0]/\l=[.abs (aG 3 1 A' (ins (aF.aS us) x us).length c' (bL (bn (ins (aF.aS us) x us)))),.abs (aG 3 1 B' (ins (aF.aS us) x us).length d' (bL (iZ (ins (aF.aS us) x us))))]):=by
 have hls:=TK hr hp
 have dW:=least_le us
 refine SE Tryz.func102 Tryz.ntmps102 (λR=>SR (jB 1 [2] (λb4=>.ay b4 [vI (M),vI (p),.slice A (us.length) (c),.slice B (us.length) (d)] 43) (λb4=>jB 3 [4] (λb5=>.ay b5 [vI 0,vI 0,.slice none (0) (0),.slice none (0) (0)] 43) (λb5=>NZ (jK 6 [16] [(1,a_ 1 b4),(4,a_ 1 b4)] (NN (cP ((((us.length:Nat):Int):Int)>=(M:Int)) (λpz=>ahh pz (by omega)) (λpz=>KX (SR (jK 1 [7] [] (NN (aq.seq (aq.block (lJ (λ(g:Int)=>(1<=g)/\(g<=aF.aS us)) (λ(g:Int)=>(aF.aS us+1-g).toNat) (λ(g:Int)=>[(1,vI (x)),(2,vP b4),(4,vP b5),(7,vI (g))]) (λ(g:Int)=>[.abs R,.ay b4 [vI (M),vI (p),.slice A (us.length) (c),.slice B (us.length) (d)] 43,.ay b5 [vI 0,vI 0,.slice none (0) (0),.slice none (0) (0)] 43]) 1 [0,1,2] (⟨zc,hls.1⟩) ?_))))))))))))))
 rintro g ⟨hg1,hg2⟩
 refine SQ (jK 2 [18,19] [(0,A_ 1 b4 4)] (gE [] (E4 M p A B c d us hA hl g) (jK 1 [21] [] (NN (cP (((ug (bn us) g):Int)>=(0:Int)) (λsF=>KX (aq.block (aq.region (jK 3 [7] [(1,wJ (g+1) (g+1))] (NL (aB.jI (tJ ((g+1)) [0,1,2] (⟨zc,by grind [bn,RX]⟩)))))))) (λsF=>XX (SR (sl 7 (vI (g)) (.int .i64 ((aF.aS us))) (aaJ (by rcases Int.lt_or_le g (aF.aS us) with h0|h0;exact ahh (RX.2 (hls.2.2 g zc h0)) sF;omega)) (jN 7 [8] (λb6=>[(1,a_ 1 b4),(3,a_ 1 b4),(6,A_ 3 b6 4)]) (λ_=>[]) (λb6=>.ay b6 [vI (M),vI (p),.slice none (0) (0),.slice none (0) (0)] 43) (λb6=>NS (av.mem (λw hS=>(hS.mF (e:=3) (size:=1)).mF (e:=3) (size:=1)) (jK 1 [9] [] (NZ (jK 1 [10] [] (NN (aq.block (lJ (λ(i,dn,q,Ah,ch,Av,cv)=>(i<=us.length)/\(lU us (aF.aS us) x i dn q)) (λ(i,dn,q,Ah,ch,Av,cv)=>us.length-i) (λ(i,dn,q,Ah,ch,Av,cv)=>[(1,vI (x)),(2,vP b4),(4,vP b5),(7,vI ((aF.aS us))),(8,vP b6),(9,.bool dn),(10,vI ↑i)]) (λ(i,dn,q,Ah,ch,Av,cv)=>[.ay b4 [vI (M),vI (p),.slice A (us.length) (c),.slice B (us.length) (d)] 43,.ay b6 [vI (M),vI (p),.slice Ah (q.length) (ch),.slice Av (q.length) (cv)] 43,.abs (aG 3 1 Ah q.length ch (bL (bn q))),.abs (aG 3 1 Av q.length cv (bL (iZ q))),.ay b5 [vI 0,vI 0,.slice none (0) (0),.slice none (0) (0)] 43,.abs R]) (0,false,[],none,0,none,0) [1,3,4,5,2,0] (⟨ahj _,lU.zero⟩) ?_)))))))))))))))))
 rintro⟨i,dn,q,Ah,ch,Av,cv⟩ ⟨hi,hpt⟩
 refine SQ (jK 5 [33] [(2,a_ 0 b4)] (NN (cP ((((i:Nat):Int):Int)<(((us.length:Nat):Int):Int)) (λLA=>?_) (λLA=>?_))))
 ·refine KX (aq.seq (aq.block (aq.seq (SR ?_))))
  have hpi:=zH (us:=us) (i:=i) zc
  have wm:q.length<=i+1:=by have:=hpt.len;cases dn<;>simp at this<;>omega
  refine jK 8 [43] [(1,a_ 0 b4),(3,x_ i us.length (lT.hd hA (j:=i) (by rw [j9];omega))),(4,r_ (lT.rd hA (j:=i) (by rw [j9];omega)))] (sP 43 ((((bn us).getD i 0):Int)>((aF.aS us):Int)) (λJr=>?_) (λJr=>?_))
  ·refine jK 3 [46] [] (NN (aq.cond (b:=(!dn)) (λ_=>KB) (λh46=>?_) (λh46=>?_)))
   ·refine SR (jN 4 [48,50] (λb7=>[(1,a_ 1 b6)]) (λ_=>[]) (λb7=>.ay b7 [vI ((aF.aS us))] 3) (λb7=>mU 2 41 (some ⟨b7,0,none⟩) 1 1 [vI ((aF.aS us))] rfl (fU (j:=6) rfl) (λA8 c9=>av.cO 2 rfl (KU (x:=(aF.aS us,x)) rfl) (sl 51 (.slice A8 (q.length+1) (c9)) (.slice A8 ((q++[(aF.aS us,x)]).length) (c9)) (by rw [iR q (aF.aS us,x)]) (jC 2 [] [(1,a_ 1 b6)] [(1,[(2,.slice A8 ((q++[(aF.aS us,x)]).length) (c9))])] (NS (jN 4 [54,56] (λb10=>[(1,a_ 1 b6)]) (λ_=>[]) (λb10=>.ay b10 [vI (x)] 3) (λb10=>mU 3 41 (some ⟨b10,0,none⟩) 1 1 [vI (x)] rfl (fU (j:=7) rfl) (λGN D9=>av.cO 3 rfl (KV (x:=(aF.aS us,x)) rfl) (sl 57 (.slice GN (q.length+1) (D9)) (.slice GN ((q++[(aF.aS us,x)]).length) (D9)) (by rw [iR q (aF.aS us,x)]) (jC 2 [] [(1,a_ 1 b6)] [(1,[(3,.slice GN ((q++[(aF.aS us,x)]).length) (D9))])] (NN (aq.region (jK 1 [9] [] (NN (aq.seq (rM (List.range 11) 7 [0,1,4,5,6,7] (jR 7 [1,2,4,7,8,9,10,60,65] [(1,a_ 1 b6),(3,a_ 0 b4),(5,x_ i us.length (lT.hd hA (j:=i) (by rw [j9];omega))),(6,r_ (lT.rd hA (j:=i) (by rw [j9];omega)))] (mN [0,1,4,5,6,7] (λb13=>[(66,.slice (some ⟨b13,0,none⟩) (1) (1))]) (λ_=>[]) (λb13=>.ay b13 [vI (((bn us).getD i 0))] 3) (λb13=>cu.cut (ι:=(Option Addr)×Nat) (bY:=λ((ul,um):(Option Addr)×Nat)=>[(1,vI (x)),(2,vP b4),(4,vP b5),(7,vI (aF.aS us)),(8,vP b6),(9,.bool true),(10,vI ↑i),(67,.slice ul (((q++[(aF.aS us,x)])++[(pr us i)]).length) (um))]) (dK:=λ((ul,um):(Option Addr)×Nat)=>[.ay b4 [vI (M),vI (p),.slice A (us.length) (c),.slice B (us.length) (d)] 43,.ay b6 [vI (M),vI (p),.slice A8 ((q++[(aF.aS us,x)]).length) (c9),.slice GN ((q++[(aF.aS us,x)]).length) (D9)] 43,.abs (aG 3 1 ul (((q++[(aF.aS us,x)])++[(pr us i)]).length) um (bL (bn ((q++[(aF.aS us,x)])++[(pr us i)])))),.abs (aG 3 1 GN ((q++[(aF.aS us,x)]).length) D9 (bL (iZ (q++[(aF.aS us,x)])))),.ay b5 [vI 0,vI 0,.slice none (0) (0),.slice none (0) (0)] 43,.abs R,.ay b7 [vI ((aF.aS us))] 3,.ay b10 [vI (x)] 3,.ay b13 [vI (((bn us).getD i 0))] 3]) [0,1,4,5,6,7] rfl rfl ?_ rfl (λ_=>KB) ?_)))))))))))) (n:=q.length) (hb:=by have:=wm;have:=iR q (aF.aS us,x);omega))))))) (n:=q.length) (hb:=by have:=wm;have:=iR q (aF.aS us,x);omega)))
    ·exact mU 2 41 (some ⟨b13,0,none⟩) 1 1 [vI (((bn us).getD i 0))] rfl (fU (j:=8) rfl) (λul um=>av.cO 2 rfl (KU (x:=(pr us i)) hpi.1) (sl 67 (.slice ul (((q++[(aF.aS us,x)]).length)+1) (um)) (.slice ul (((q++[(aF.aS us,x)])++[(pr us i)]).length) (um)) (by rw [iR (q++[(aF.aS us,x)]) (pr us i)]) (NL (MD (ul,um) [1,2,4,7,8,9,10,67] [0,1,2,3,4,5,6,7,8])))) (n:=(q++[(aF.aS us,x)]).length) (hb:=by have:=wm;have:=iR q (aF.aS us,x);omega)
    rintro⟨ul,um⟩
    refine nC [0,1,4,5,6,7] [68] [] [] (cu.last rfl rfl (jC 1 [] [(0,a_ 1 b6)] [(1,[(2,.slice ul (((q++[(aF.aS us,x)])++[(pr us i)]).length) (um))])] (NL (aB.np (NX (rM (List.range 11) 7 [0,1,4,5,6,7,8] (jR 7 [1,2,4,7,8,9,10,70,75] [(1,a_ 1 b6),(3,a_ 0 b4),(5,x_ i us.length (lT.hd hB (j:=i) (by rw [mM];omega))),(6,r_ (lT.rd hB (j:=i) (by rw [mM];omega)))] (mN [0,1,4,5,6,7,8] (λb16=>[(76,.slice (some ⟨b16,0,none⟩) (1) (1))]) (λ_=>[]) (λb16=>.ay b16 [vI (((iZ us).getD i 0))] 3) (λb16=>cu.cut (ι:=(Option Addr)×Nat) (bY:=λ((oU,qM):(Option Addr)×Nat)=>[(1,vI (x)),(2,vP b4),(4,vP b5),(7,vI (aF.aS us)),(8,vP b6),(9,.bool true),(10,vI ↑i),(77,.slice oU (((q++[(aF.aS us,x)])++[(pr us i)]).length) (qM))]) (dK:=λ((oU,qM):(Option Addr)×Nat)=>[.ay b4 [vI (M),vI (p),.slice A (us.length) (c),.slice B (us.length) (d)] 43,.ay b6 [vI (M),vI (p),.slice ul (((q++[(aF.aS us,x)])++[(pr us i)]).length) (um),.slice GN ((q++[(aF.aS us,x)]).length) (D9)] 43,.abs (aG 3 1 ul (((q++[(aF.aS us,x)])++[(pr us i)]).length) um (bL (bn ((q++[(aF.aS us,x)])++[(pr us i)])))),.abs (aG 3 1 oU (((q++[(aF.aS us,x)])++[(pr us i)]).length) qM (bL (iZ ((q++[(aF.aS us,x)])++[(pr us i)])))),.ay b5 [vI 0,vI 0,.slice none (0) (0),.slice none (0) (0)] 43,.abs R,.ay b7 [vI ((aF.aS us))] 3,.ay b10 [vI (x)] 3,.ay b13 [vI (((bn us).getD i 0))] 3,.ay b16 [vI (((iZ us).getD i 0))] 3]) [0,1,4,5,6,7,8] rfl rfl ?_ rfl (λ_=>KB) ?_)))))))))
    ·exact mU 3 41 (some ⟨b16,0,none⟩) 1 1 [vI (((iZ us).getD i 0))] rfl (fU (j:=9) rfl) (λoU qM=>av.cO 3 rfl (KV (x:=(pr us i)) hpi.2) (sl 77 (.slice oU (((q++[(aF.aS us,x)]).length)+1) (qM)) (.slice oU (((q++[(aF.aS us,x)])++[(pr us i)]).length) (qM)) (by rw [iR (q++[(aF.aS us,x)]) (pr us i)]) (NL (MD (oU,qM) [1,2,4,7,8,9,10,77] [0,1,2,3,4,5,6,7,8,9])))) (n:=(q++[(aF.aS us,x)]).length) (hb:=by have:=wm;have:=iR q (aF.aS us,x);omega)
    rintro⟨oU,qM⟩
    exact nC [0,1,4,5,6,7,8] [78] [] [] (cu.last rfl rfl (jC 1 [] [(0,a_ 1 b6)] [(1,[(3,.slice oU (((q++[(aF.aS us,x)])++[(pr us i)]).length) (qM))])] (NL (aB.np (BX (aq.region (jK 3 [10] [(1,wJ ((i:Int)+1) (↑(i+1)))] (NL (tJ ((i+1),true,((q++[(aF.aS us,x)])++[(pr us i)]),ul,um,oU,qM) [0,1,2,3,4,5] (⟨zc,lU.hit ((show dn=false by simpa using h46) ▸ hpt) zc (by rw [←hpi.1];omega)⟩))))))))))
   refine KX (aq.seq (rM (List.range 11) 7 [0,1,4,5] (jR 7 [1,2,4,7,8,9,10,60,65] [(1,a_ 1 b6),(3,a_ 0 b4),(5,x_ i us.length (lT.hd hA (j:=i) (by rw [j9];omega))),(6,r_ (lT.rd hA (j:=i) (by rw [j9];omega)))] (mN [0,1,4,5] (λb19=>[(66,.slice (some ⟨b19,0,none⟩) (1) (1))]) (λ_=>[]) (λb19=>.ay b19 [vI (((bn us).getD i 0))] 3) (λb19=>cu.cut (ι:=(Option Addr)×Nat) (bY:=λ((oo,oq):(Option Addr)×Nat)=>[(1,vI (x)),(2,vP b4),(4,vP b5),(7,vI (aF.aS us)),(8,vP b6),(9,.bool dn),(10,vI ↑i),(67,.slice oo ((q++[(pr us i)]).length) (oq))]) (dK:=λ((oo,oq):(Option Addr)×Nat)=>[.ay b4 [vI (M),vI (p),.slice A (us.length) (c),.slice B (us.length) (d)] 43,.ay b6 [vI (M),vI (p),.slice Ah (q.length) (ch),.slice Av (q.length) (cv)] 43,.abs (aG 3 1 oo ((q++[(pr us i)]).length) oq (bL (bn (q++[(pr us i)])))),.abs (aG 3 1 Av q.length cv (bL (iZ q))),.ay b5 [vI 0,vI 0,.slice none (0) (0),.slice none (0) (0)] 43,.abs R,.ay b19 [vI (((bn us).getD i 0))] 3]) [0,1,4,5] rfl rfl ?_ rfl (λ_=>KB) ?_)))))
   ·exact mU 2 41 (some ⟨b19,0,none⟩) 1 1 [vI (((bn us).getD i 0))] rfl (fU (j:=6) rfl) (λoo oq=>av.cO 2 rfl (KU (x:=(pr us i)) hpi.1) (sl 67 (.slice oo (q.length+1) (oq)) (.slice oo ((q++[(pr us i)]).length) (oq)) (by rw [iR q (pr us i)]) (NL (MD (oo,oq) [1,2,4,7,8,9,10,67] [0,1,2,3,4,5,6])))) (n:=q.length) (hb:=by have:=wm;have:=iR q (aF.aS us,x);omega)
   rintro⟨oo,oq⟩
   refine nC [0,1,4,5] [68] [] [] (cu.last rfl rfl (jC 1 [] [(0,a_ 1 b6)] [(1,[(2,.slice oo ((q++[(pr us i)]).length) (oq))])] (NL (aB.np (NX (rM (List.range 11) 7 [0,1,4,5,6] (jR 7 [1,2,4,7,8,9,10,70,75] [(1,a_ 1 b6),(3,a_ 0 b4),(5,x_ i us.length (lT.hd hB (j:=i) (by rw [mM];omega))),(6,r_ (lT.rd hB (j:=i) (by rw [mM];omega)))] (mN [0,1,4,5,6] (λmR=>[(76,.slice (some ⟨mR,0,none⟩) (1) (1))]) (λ_=>[]) (λmR=>.ay mR [vI (((iZ us).getD i 0))] 3) (λmR=>cu.cut (ι:=(Option Addr)×Nat) (bY:=λ((uo,uq):(Option Addr)×Nat)=>[(1,vI (x)),(2,vP b4),(4,vP b5),(7,vI (aF.aS us)),(8,vP b6),(9,.bool dn),(10,vI ↑i),(77,.slice uo ((q++[(pr us i)]).length) (uq))]) (dK:=λ((uo,uq):(Option Addr)×Nat)=>[.ay b4 [vI (M),vI (p),.slice A (us.length) (c),.slice B (us.length) (d)] 43,.ay b6 [vI (M),vI (p),.slice oo ((q++[(pr us i)]).length) (oq),.slice Av (q.length) (cv)] 43,.abs (aG 3 1 oo ((q++[(pr us i)]).length) oq (bL (bn (q++[(pr us i)])))),.abs (aG 3 1 uo ((q++[(pr us i)]).length) uq (bL (iZ (q++[(pr us i)])))),.ay b5 [vI 0,vI 0,.slice none (0) (0),.slice none (0) (0)] 43,.abs R,.ay b19 [vI (((bn us).getD i 0))] 3,.ay mR [vI (((iZ us).getD i 0))] 3]) [0,1,4,5,6] rfl rfl ?_ rfl (λ_=>KB) ?_)))))))))
   ·exact mU 3 41 (some ⟨mR,0,none⟩) 1 1 [vI (((iZ us).getD i 0))] rfl (fU (j:=7) rfl) (λuo uq=>av.cO 3 rfl (KV (x:=(pr us i)) hpi.2) (sl 77 (.slice uo (q.length+1) (uq)) (.slice uo ((q++[(pr us i)]).length) (uq)) (by rw [iR q (pr us i)]) (NL (MD (uo,uq) [1,2,4,7,8,9,10,77] [0,1,2,3,4,5,6,7])))) (n:=q.length) (hb:=by have:=wm;have:=iR q (aF.aS us,x);omega)
   rintro⟨uo,uq⟩
   exact nC [0,1,4,5,6] [78] [] [] (cu.last rfl rfl (jC 1 [] [(0,a_ 1 b6)] [(1,[(3,.slice uo ((q++[(pr us i)]).length) (uq))])] (NL (aB.np (BX (aq.region (jK 3 [10] [(1,wJ ((i:Int)+1) (↑(i+1)))] (NL (tJ ((i+1),dn,(q++[(pr us i)]),oo,oq,uo,uq) [0,1,2,3,4,5] (⟨zc,(show dn=true by simpa using h46) ▸ lU.more ((show dn=true by simpa using h46) ▸ hpt) zc⟩))))))))))
  refine jK 3 [46] [] (NF (KX (aq.seq (rM (List.range 11) 7 [0,1,4,5] (jR 7 [1,2,4,7,8,9,10,60,65] [(1,a_ 1 b6),(3,a_ 0 b4),(5,x_ i us.length (lT.hd hA (j:=i) (by rw [j9];omega))),(6,r_ (lT.rd hA (j:=i) (by rw [j9];omega)))] (mN [0,1,4,5] (λsG=>[(66,.slice (some ⟨sG,0,none⟩) (1) (1))]) (λ_=>[]) (λsG=>.ay sG [vI (((bn us).getD i 0))] 3) (λsG=>cu.cut (ι:=(Option Addr)×Nat) (bY:=λ((qy,qz):(Option Addr)×Nat)=>[(1,vI (x)),(2,vP b4),(4,vP b5),(7,vI (aF.aS us)),(8,vP b6),(9,.bool dn),(10,vI ↑i),(67,.slice qy ((q++[(pr us i)]).length) (qz))]) (dK:=λ((qy,qz):(Option Addr)×Nat)=>[.ay b4 [vI (M),vI (p),.slice A (us.length) (c),.slice B (us.length) (d)] 43,.ay b6 [vI (M),vI (p),.slice Ah (q.length) (ch),.slice Av (q.length) (cv)] 43,.abs (aG 3 1 qy ((q++[(pr us i)]).length) qz (bL (bn (q++[(pr us i)])))),.abs (aG 3 1 Av q.length cv (bL (iZ q))),.ay b5 [vI 0,vI 0,.slice none (0) (0),.slice none (0) (0)] 43,.abs R,.ay sG [vI (((bn us).getD i 0))] 3]) [0,1,4,5] rfl rfl ?_ rfl (λ_=>KB) ?_)))))))
  ·exact mU 2 41 (some ⟨sG,0,none⟩) 1 1 [vI (((bn us).getD i 0))] rfl (fU (j:=6) rfl) (λqy qz=>av.cO 2 rfl (KU (x:=(pr us i)) hpi.1) (sl 67 (.slice qy (q.length+1) (qz)) (.slice qy ((q++[(pr us i)]).length) (qz)) (by rw [iR q (pr us i)]) (NL (MD (qy,qz) [1,2,4,7,8,9,10,67] [0,1,2,3,4,5,6])))) (n:=q.length) (hb:=by have:=wm;have:=iR q (aF.aS us,x);omega)
  rintro⟨qy,qz⟩
  refine nC [0,1,4,5] [68] [] [] (cu.last rfl rfl (jC 1 [] [(0,a_ 1 b6)] [(1,[(2,.slice qy ((q++[(pr us i)]).length) (qz))])] (NL (aB.np (NX (rM (List.range 11) 7 [0,1,4,5,6] (jR 7 [1,2,4,7,8,9,10,70,75] [(1,a_ 1 b6),(3,a_ 0 b4),(5,x_ i us.length (lT.hd hB (j:=i) (by rw [mM];omega))),(6,r_ (lT.rd hB (j:=i) (by rw [mM];omega)))] (mN [0,1,4,5,6] (λjf=>[(76,.slice (some ⟨jf,0,none⟩) (1) (1))]) (λ_=>[]) (λjf=>.ay jf [vI (((iZ us).getD i 0))] 3) (λjf=>cu.cut (ι:=(Option Addr)×Nat) (bY:=λ((AQ,AR):(Option Addr)×Nat)=>[(1,vI (x)),(2,vP b4),(4,vP b5),(7,vI (aF.aS us)),(8,vP b6),(9,.bool dn),(10,vI ↑i),(77,.slice AQ ((q++[(pr us i)]).length) (AR))]) (dK:=λ((AQ,AR):(Option Addr)×Nat)=>[.ay b4 [vI (M),vI (p),.slice A (us.length) (c),.slice B (us.length) (d)] 43,.ay b6 [vI (M),vI (p),.slice qy ((q++[(pr us i)]).length) (qz),.slice Av (q.length) (cv)] 43,.abs (aG 3 1 qy ((q++[(pr us i)]).length) qz (bL (bn (q++[(pr us i)])))),.abs (aG 3 1 AQ ((q++[(pr us i)]).length) AR (bL (iZ (q++[(pr us i)])))),.ay b5 [vI 0,vI 0,.slice none (0) (0),.slice none (0) (0)] 43,.abs R,.ay sG [vI (((bn us).getD i 0))] 3,.ay jf [vI (((iZ us).getD i 0))] 3]) [0,1,4,5,6] rfl rfl ?_ rfl (λ_=>KB) ?_)))))))))
  ·exact mU 3 41 (some ⟨jf,0,none⟩) 1 1 [vI (((iZ us).getD i 0))] rfl (fU (j:=7) rfl) (λAQ AR=>av.cO 3 rfl (KV (x:=(pr us i)) hpi.2) (sl 77 (.slice AQ (q.length+1) (AR)) (.slice AQ ((q++[(pr us i)]).length) (AR)) (by rw [iR q (pr us i)]) (NL (MD (AQ,AR) [1,2,4,7,8,9,10,77] [0,1,2,3,4,5,6,7])))) (n:=q.length) (hb:=by have:=wm;have:=iR q (aF.aS us,x);omega)
  rintro⟨AQ,AR⟩
  exact nC [0,1,4,5,6] [78] [] [] (cu.last rfl rfl (jC 1 [] [(0,a_ 1 b6)] [(1,[(3,.slice AQ ((q++[(pr us i)]).length) (AR))])] (NL (aB.np (BX (aq.region (jK 3 [10] [(1,wJ ((i:Int)+1) (↑(i+1)))] (NL (tJ ((i+1),dn,(q++[(pr us i)]),qy,qz,AQ,AR) [0,1,2,3,4,5] (⟨zc,hpt.keep zc (by rw [←hpi.1];omega)⟩))))))))))
 refine XX (aq.seq (SR ?_))
 have hiu:i=us.length:=zc
 subst hiu
 have wm:q.length<=us.length+1:=by have:=hpt.len;cases dn<;>simp at this<;>omega
 refine jK 2 [80] [] (NN (aq.cond (b:=(!dn)) (λ_=>KB) (λWg=>?_) (λWg=>?_)))
 ·refine SR (jN 4 [82,84] (λur=>[(1,a_ 1 b6)]) (λ_=>[]) (λur=>.ay ur [vI ((aF.aS us))] 3) (λur=>mU 2 41 (some ⟨ur,0,none⟩) 1 1 [vI ((aF.aS us))] rfl (fU (j:=6) rfl) (λJL JM=>av.cO 2 rfl (KU (x:=(aF.aS us,x)) rfl) (sl 85 (.slice JL (q.length+1) (JM)) (.slice JL ((q++[(aF.aS us,x)]).length) (JM)) (by rw [iR q (aF.aS us,x)]) (jC 2 [] [(1,a_ 1 b6)] [(1,[(2,.slice JL ((q++[(aF.aS us,x)]).length) (JM))])] (NN (aq.region (jN 4 [88,90] (λvK=>[(1,a_ 1 b6)]) (λ_=>[]) (λvK=>.ay vK [vI (x)] 3) (λvK=>mU 3 41 (some ⟨vK,0,none⟩) 1 1 [vI (x)] rfl (fU (j:=7) rfl) (λJN JO=>av.cO 3 rfl (KV (x:=(aF.aS us,x)) rfl) (sl 91 (.slice JN (q.length+1) (JO)) (.slice JN ((q++[(aF.aS us,x)]).length) (JO)) (by rw [iR q (aF.aS us,x)]) (jC 2 [] [(1,a_ 1 b6)] [(1,[(3,.slice JN ((q++[(aF.aS us,x)]).length) (JO))])] (NZ (jK 6 [98] [(1,a_ 1 b6),(4,a_ 1 b6)] (NN (cP (((((q++[(aF.aS us,x)]).length:Nat):Int):Int)>(p:Int)) (λWh=>?_) (λWh=>?_)))))))) (n:=q.length) (hb:=by have:=wm;have:=iR q (aF.aS us,x);omega)))))))) (n:=q.length) (hb:=by have:=wm;have:=iR q (aF.aS us,x);omega)))
  ·refine aq.region (jC 5 [] [(1,a_ 1 b6),(4,a_ 1 b6)] [(1,[(1,vI ↑((q++[(aF.aS us,x)]).length))])] (NS (jC 5 [5,6] [(0,A_ 1 b6 4),(2,A_ 4 b5 4)] [(4,[(0,vI (M)),(1,vI ↑((q++[(aF.aS us,x)]).length)),(2,.slice JL ((q++[(aF.aS us,x)]).length) (JM)),(3,.slice JN ((q++[(aF.aS us,x)]).length) (JO))])] (NN (aq.ret ?_)))))
   have hq:(q++[(aF.aS us,x)])=ins (aF.aS us) x us:=lU.last ((show dn=false by simpa using Wg) ▸ hpt)
   have hql:((q++[(aF.aS us,x)])).length=us.length+1:=by rw [hq,lE]
   skip
   exact rT (.tuple #[.agg #[vI (M),vI ↑((q++[(aF.aS us,x)]).length),.slice JL ((q++[(aF.aS us,x)]).length) (JM),.slice JN ((q++[(aF.aS us,x)]).length) (JO)],vI ((aF.aS us)),vI 0]) [A_ 4 b5 4] [2,3,5] (⟨JL,JM,JN,JO,Pe,by rw [←hq]⟩)
  refine KX (SR (jC 5 [5,6] [(0,A_ 1 b6 4),(2,A_ 4 b5 4)] [(4,[(0,vI (M)),(1,vI (p)),(2,.slice JL ((q++[(aF.aS us,x)]).length) (JM)),(3,.slice JN ((q++[(aF.aS us,x)]).length) (JO))])] (NN (aq.ret ?_))))
  have hq:(q++[(aF.aS us,x)])=ins (aF.aS us) x us:=lU.last ((show dn=false by simpa using Wg) ▸ hpt)
  have hql:((q++[(aF.aS us,x)])).length=us.length+1:=by rw [hq,lE]
  skip
  exact rT (.tuple #[.agg #[vI (M),vI (p),.slice JL ((q++[(aF.aS us,x)]).length) (JM),.slice JN ((q++[(aF.aS us,x)]).length) (JO)],vI ((aF.aS us)),vI 0]) [A_ 4 b5 4] [2,3,5] (⟨JL,JM,JN,JO,Pe,by rw [←hq]⟩)
 refine KX (SQ (jK 6 [98] [(1,a_ 1 b6),(4,a_ 1 b6)] (NN (cP ((((q.length:Nat):Int):Int)>(p:Int)) (λWh=>?_) (λWh=>?_)))))
 ·refine aq.region (jC 5 [] [(1,a_ 1 b6),(4,a_ 1 b6)] [(1,[(1,vI ↑q.length)])] (NS (jC 5 [5,6] [(0,A_ 1 b6 4),(2,A_ 4 b5 4)] [(4,[(0,vI (M)),(1,vI ↑q.length),(2,.slice Ah (q.length) (ch)),(3,.slice Av (q.length) (cv))])] (NN (aq.ret ?_)))))
  have hq:q=ins (aF.aS us) x us:=lU.end_ ((show dn=true by simpa using Wg) ▸ hpt)
  have hql:(q).length=us.length+1:=by rw [hq,lE]
  skip
  exact rT (.tuple #[.agg #[vI (M),vI ↑q.length,.slice Ah (q.length) (ch),.slice Av (q.length) (cv)],vI ((aF.aS us)),vI 0]) [A_ 4 b5 4] [2,3,5] (⟨Ah,ch,Av,cv,Pe,by rw [←hq]⟩)
 refine KX (SR (jC 5 [5,6] [(0,A_ 1 b6 4),(2,A_ 4 b5 4)] [(4,[(0,vI (M)),(1,vI (p)),(2,.slice Ah (q.length) (ch)),(3,.slice Av (q.length) (cv))])] (NN (aq.ret ?_))))
 have hq:q=ins (aF.aS us) x us:=lU.end_ ((show dn=true by simpa using Wg) ▸ hpt)
 have hql:(q).length=us.length+1:=by rw [hq,lE]
 skip
 exact rT (.tuple #[.agg #[vI (M),vI (p),.slice Ah (q.length) (ch),.slice Av (q.length) (cv)],vI ((aF.aS us)),vI 0]) [A_ 4 b5 4] [2,3,5] (⟨Ah,ch,Av,cv,Pe,by rw [←hq]⟩)
theorem Zh {β:Bs} (M p:Int) (A B:Option Addr) (c d:Nat) (us:bF Int) (hA:cD β A (bL (bn us))) (hB:cD β B (bL (iZ us))) (hl:us.length<=16777216) (h:Int) (hr:aF.dH (bn us)) (k:Nat) (hk:k<us.length) (fL:ug (bn us) h=(k:Int)) (hx:(bn us).getD k 0=h) :
 aX Tryz.prog β 85 #[.agg #[vI (M),vI (p),.slice A (us.length) (c),.slice B (us.length) (d)],vI h] [] (λv l=>∃A' c' B' d',v=.tuple #[.agg #[vI (M),vI (p),.slice A' (del h us).length c',.slice B' (del h us).length d'],vI ((iZ us).getD k 0),vI 0]/\l=[.abs (aG 3 1 A' (del h us).length c' (bL (bn (del h us)))),.abs (aG 3 1 B' (del h us).length d' (bL (iZ (del h us))))]):=by
 have hkp:=zH hk
 refine SE Tryz.func85 Tryz.ntmps85 (λR=>SR (jB 1 [2] (λAU=>.ay AU [vI (M),vI (p),.slice A (us.length) (c),.slice B (us.length) (d)] 43) (λAU=>jB 3 [4] (λAV=>.ay AV [vI 0,vI 0,.slice none (0) (0),.slice none (0) (0)] 43) (λAV=>NS (jK 2 [10,11] [(0,A_ 1 AU 4)] (gE [] (E4 M p A B c d us hA hl h) (sl 12 (vI ((ug (bn us) h))) (.int .i64 ↑k) (aaJ fL) (jK 1 [7] [] (NZ (jK 2 [14] [(1,wF (((k:Int):Int)<(0:Int)))] (NF (KX (SR (jN 7 [8] (λAX=>[(1,a_ 1 AU),(3,a_ 1 AU),(6,A_ 3 AX 4)]) (λ_=>[]) (λAX=>.ay AX [vI (M),vI (p),.slice none (0) (0),.slice none (0) (0)] 43) (λAX=>NZ (av.mem (λw hS=>(hS.mF (e:=3) (size:=1)).mF (e:=3) (size:=1)) (jK 1 [9] [] (NN (aq.block (lJ (λ(i,q,Ah,ch,Av,cv)=>(i<=us.length)/\(q=del h (us.take i))/\(q.length<=i)) (λ(i,q,Ah,ch,Av,cv)=>us.length-i) (λ(i,q,Ah,ch,Av,cv)=>[(2,vP AU),(4,vP AV),(7,vI ↑k),(8,vP AX),(9,vI ↑i)]) (λ(i,q,Ah,ch,Av,cv)=>[.ay AU [vI (M),vI (p),.slice A (us.length) (c),.slice B (us.length) (d)] 43,.ay AX [vI (M),vI (p),.slice Ah (q.length) (ch),.slice Av (q.length) (cv)] 43,.abs (aG 3 1 Ah q.length ch (bL (bn q))),.abs (aG 3 1 Av q.length cv (bL (iZ q))),.ay AV [vI 0,vI 0,.slice none (0) (0),.slice none (0) (0)] 43,.abs R]) (0,[],none,0,none,0) [1,3,4,5,2,0] (⟨ahj _,by rw [List.take_zero];rfl,aho _⟩) ?_))))))))))))))))))))
 rintro⟨i,q,Ah,ch,Av,cv⟩ ⟨hi,hq,wm⟩
 refine SQ (jK 5 [25] [(2,a_ 0 AU)] (NN (cP ((((i:Nat):Int):Int)<(((us.length:Nat):Int):Int)) (λpZ=>?_) (λpZ=>?_))))
 ·refine KX (aq.seq (aq.block (SR ?_)))
  have hpi:=zH (us:=us) (i:=i) zc
  refine jK 3 [30] [] (NN (cN ((((i:Nat):Int):Int)=(((k:Nat):Int):Int)) (λnQ=>aq.seq (rM (List.range 11) 7 [0,1,4,5] (jR 7 [2,4,7,8,9,32,37] [(1,a_ 1 AX),(3,a_ 0 AU),(5,x_ i us.length (lT.hd hA (j:=i) (by rw [j9];omega))),(6,r_ (lT.rd hA (j:=i) (by rw [j9];omega)))] (mN [0,1,4,5] (λPc=>[(38,.slice (some ⟨Pc,0,none⟩) (1) (1))]) (λ_=>[]) (λPc=>.ay Pc [vI (((bn us).getD i 0))] 3) (λPc=>cu.cut (ι:=(Option Addr)×Nat) (bY:=λ((Eb,Ec):(Option Addr)×Nat)=>[(2,vP AU),(4,vP AV),(7,vI ↑k),(8,vP AX),(9,vI ↑i),(39,.slice Eb ((q++[(pr us i)]).length) (Ec))]) (dK:=λ((Eb,Ec):(Option Addr)×Nat)=>[.ay AU [vI (M),vI (p),.slice A (us.length) (c),.slice B (us.length) (d)] 43,.ay AX [vI (M),vI (p),.slice Ah (q.length) (ch),.slice Av (q.length) (cv)] 43,.abs (aG 3 1 Eb ((q++[(pr us i)]).length) Ec (bL (bn (q++[(pr us i)])))),.abs (aG 3 1 Av q.length cv (bL (iZ q))),.ay AV [vI 0,vI 0,.slice none (0) (0),.slice none (0) (0)] 43,.abs R,.ay Pc [vI (((bn us).getD i 0))] 3]) [0,1,4,5] rfl rfl ?_ rfl (λ_=>KB) ?_))))) (λnQ=>KX (aq.region (jK 3 [9] [(1,wJ ((i:Int)+1) (↑(i+1)))] (NL (tJ ((i+1),q,Ah,ch,Av,cv) [0,1,2,3,4,5] (⟨zc,by grind [OU],Pe⟩))))))))
  ·exact mU 2 41 (some ⟨Pc,0,none⟩) 1 1 [vI (((bn us).getD i 0))] rfl (fU (j:=6) rfl) (λEb Ec=>av.cO 2 rfl (KU (x:=(pr us i)) hpi.1) (sl 39 (.slice Eb (q.length+1) (Ec)) (.slice Eb ((q++[(pr us i)]).length) (Ec)) (by rw [iR q (pr us i)]) (NL (MD (Eb,Ec) [2,4,7,8,9,39] [0,1,2,3,4,5,6])))) (n:=q.length) (hb:=by have:=wm;have:=wm;omega)
  rintro⟨Eb,Ec⟩
  refine nC [0,1,4,5] [40] [] [] (cu.last rfl rfl (jC 1 [] [(0,a_ 1 AX)] [(1,[(2,.slice Eb ((q++[(pr us i)]).length) (Ec))])] (NL (aB.np (NX (rM (List.range 11) 7 [0,1,4,5,6] (jR 7 [2,4,7,8,9,42,47] [(1,a_ 1 AX),(3,a_ 0 AU),(5,x_ i us.length (lT.hd hB (j:=i) (by rw [mM];omega))),(6,r_ (lT.rd hB (j:=i) (by rw [mM];omega)))] (mN [0,1,4,5,6] (λSc=>[(48,.slice (some ⟨Sc,0,none⟩) (1) (1))]) (λ_=>[]) (λSc=>.ay Sc [vI (((iZ us).getD i 0))] 3) (λSc=>cu.cut (ι:=(Option Addr)×Nat) (bY:=λ((GP,GQ):(Option Addr)×Nat)=>[(2,vP AU),(4,vP AV),(7,vI ↑k),(8,vP AX),(9,vI ↑i),(49,.slice GP ((q++[(pr us i)]).length) (GQ))]) (dK:=λ((GP,GQ):(Option Addr)×Nat)=>[.ay AU [vI (M),vI (p),.slice A (us.length) (c),.slice B (us.length) (d)] 43,.ay AX [vI (M),vI (p),.slice Eb ((q++[(pr us i)]).length) (Ec),.slice Av (q.length) (cv)] 43,.abs (aG 3 1 Eb ((q++[(pr us i)]).length) Ec (bL (bn (q++[(pr us i)])))),.abs (aG 3 1 GP ((q++[(pr us i)]).length) GQ (bL (iZ (q++[(pr us i)])))),.ay AV [vI 0,vI 0,.slice none (0) (0),.slice none (0) (0)] 43,.abs R,.ay Pc [vI (((bn us).getD i 0))] 3,.ay Sc [vI (((iZ us).getD i 0))] 3]) [0,1,4,5,6] rfl rfl ?_ rfl (λ_=>KB) ?_)))))))))
  ·exact mU 3 41 (some ⟨Sc,0,none⟩) 1 1 [vI (((iZ us).getD i 0))] rfl (fU (j:=7) rfl) (λGP GQ=>av.cO 3 rfl (KV (x:=(pr us i)) hpi.2) (sl 49 (.slice GP (q.length+1) (GQ)) (.slice GP ((q++[(pr us i)]).length) (GQ)) (by rw [iR q (pr us i)]) (NL (MD (GP,GQ) [2,4,7,8,9,49] [0,1,2,3,4,5,6,7])))) (n:=q.length) (hb:=by have:=wm;have:=wm;omega)
  rintro⟨GP,GQ⟩
  exact nC [0,1,4,5,6] [50] [] [] (cu.last rfl rfl (jC 1 [] [(0,a_ 1 AX)] [(1,[(3,.slice GP ((q++[(pr us i)]).length) (GQ))])] (NL (aB.np (BX (aq.region (jK 3 [9] [(1,wJ ((i:Int)+1) (↑(i+1)))] (NL (tJ ((i+1),(q++[(pr us i)]),Eb,Ec,GP,GQ) [0,1,2,3,4,5] (⟨zc,(by grind [OU,Jw]),Pe⟩))))))))))
 refine XX (aq.seq (rM (List.range 9) 6 [0,1] (jR 6 [4,51,56] [(0,A_ 1 AX 4),(2,a_ 0 AU),(4,x_ k us.length (lT.hd hB (j:=k) (by rw [mM];omega))),(5,r_ (lT.rd hB (j:=k) (by rw [mM];omega)))] (nC [0,1] [] [(0,A_ 4 AV 4)] [(4,[(0,vI (M)),(1,vI (p)),(2,.slice Ah (q.length) (ch)),(3,.slice Av (q.length) (cv))])] (nC [0,1] [5] [] [] (cu.last rfl rfl (jK 1 [6] [] (NL (aB.np (NX (aq.ret ?_)))))))))))
 have JQ:q=del h us:=Pe
 exact rT _ [A_ 4 AV 4] [2,3,5] (⟨Ah,ch,Av,cv,by rw [←JQ],by rw [←JQ]⟩)
theorem T5 {β:Bs} (M p:Int) (A B:Option Addr) (c d:Nat) (us:bF Int) (hA:cD β A (bL (bn us))) (hl:us.length<=16777216) (h:Int) (fL:ug (bn us) h = -1) :
 aX Tryz.prog β 85 #[.agg #[vI (M),vI (p),.slice A (us.length) (c),.slice B (us.length) (d)],vI h] [] (λv l=>v=.tuple #[.agg #[vI (M),vI (p),.slice A (us.length) (c),.slice B (us.length) (d)],vI 0,vI 131]/\l=[]):=by
 exact SE Tryz.func85 Tryz.ntmps85 (λR=>SR (jB 1 [2] (λuw=>.ay uw [vI (M),vI (p),.slice A (us.length) (c),.slice B (us.length) (d)] 43) (λuw=>jB 3 [4] (λyC=>.ay yC [vI 0,vI 0,.slice none (0) (0),.slice none (0) (0)] 43) (λyC=>NS (jK 2 [10,11] [(0,A_ 1 uw 4)] (gE [] (E4 M p A B c d us hA hl h) (jK 1 [7] [] (NZ (jK 2 [14] [] (NN (cP (((ug (bn us) h):Int)<(0:Int)) (λmz=>SR (jC 4 [5,6] [(0,A_ 1 uw 4),(1,A_ 2 yC 4)] [(2,[(0,vI (M)),(1,vI (p)),(2,.slice A (us.length) (c)),(3,.slice B (us.length) (d))])] (eS [A_ 2 yC 4] ⟨rfl,rfl⟩))) (λmz=>ahh mz (by omega)))))))))))))
end
section
open Go.RowKit Go.Maps bG aF
section p
variable {R:RS} {h d6 e id:Int} {name:ByteArray} {d k to:Nat} {c:aP} {n:aO}
def exV:Except Int Nat->Value
 |.error e=>.tuple #[.int .i64 0,.int .i64 e]
 |.ok k=>.tuple #[.int .i64 k,.int .i64 0]
theorem Wi {us:bF Int} (hr:aF.dH (bn us)) {h:Int} (hm:h∈bn us):∃k:Nat,ug (bn us) h=(k:Int)/\k<us.length/\(bn us).getD k 0=h/\aF.get us h=some ((iZ us).getD k 0):=by
 grind [RV,j9,zH,adr]
theorem KW (hm:h∉bn R.us):ug (bn R.us) h = -1/\iG R h=.error 131:=⟨RW hm,by unfold iG;rw [get_none.2 hm]⟩
theorem Sd (hC:RC R) (hm:h∈bn R.us):∃k:Nat,ug (bn R.us) h=(k:Int)/\k<R.us.length/\iG R h=.ok (cq R.ns ((iZ R.us).getD k 0))/\gJ R.ns ((iZ R.us).getD k 0)=(cq R.ns ((iZ R.us).getD k 0):Int):=by
 obtain⟨k,h1,h2,h3,h4⟩:=Wi hC.usr hm
 exact⟨k,h1,h2,by unfold iG;rw [h4],(mW (hC.hand _ (BR (by rw [mM];exact h2)))).2.2⟩
theorem tT (hC:RC R) (h:Int):iG R h=.error 131\/∃k,iG R h=.ok k/\k<R.ns.length:=by
 by_cases hm:h∈bn R.us
 ·obtain⟨k,_,h2,h3,_⟩:=Sd hC hm
  exact .inr ⟨_,h3,(mW (hC.hand _ (BR (by rw [mM];exact h2)))).1⟩
 exact .inl (KW hm).2
theorem Wj (hh:iG R h=.error e):ij R h name d6=.error e:=by unfold ij;rw [hh]
theorem Sg (hh:iG R h=.ok d) (hk:¬(nd R.ns d).kind=2):ij R h name d6=.error 173:=by unfold ij;rw [hh];exact ahe hk
theorem Pf (hh:iG R h=.ok d) (hk:(nd R.ns d).kind=2) (hg:(nd R.ns d).id∈R.aH):ij R h name d6=.error 170:=by unfold ij;rw [hh];exact (ahf hk).trans (ahf hg)
theorem Pg (hh:iG R h=.ok d) (hk:(nd R.ns d).kind=2) (hg:¬(nd R.ns d).id∈R.aH) (hn:¬cA name):ij R h name d6=.error 95:=by unfold ij;rw [hh];exact (ahf hk).trans ((ahe hg).trans (ahe hn))
theorem Ph (hh:iG R h=.ok d) (hk:(nd R.ns d).kind=2) (hg:¬(nd R.ns d).id∈R.aH) (hn:cA name) (hb:¬bits BinOp.and .i64 (nd R.ns d).mode d6=d6):ij R h name d6=.error 175:=by unfold ij;rw [hh];exact (ahf hk).trans ((ahe hg).trans ((ahf hn).trans (ahe hb)))
theorem Wk (hh:iG R h=.ok d) (hk:(nd R.ns d).kind=2) (hg:¬(nd R.ns d).id∈R.aH) (hn:cA name) (hb:bits BinOp.and .i64 (nd R.ns d).mode d6=d6):ij R h name d6=.ok d:=by unfold ij;rw [hh];exact (ahf hk).trans ((ahe hg).trans ((ahf hn).trans (ahf hb)))
theorem rJ (hC:RC R) (h:Int) (name:ByteArray) (d6:Int):(∃e,ij R h name d6=.error e/\¬e=0)\/∃d,ij R h name d6=.ok d/\d<R.ns.length:=by
 rcases tT hC h with hh|⟨k,hh,hk⟩
 all_goals grind [Wj,nd,Pf,cA,Wk,Ph,Pg,Sg]
noncomputable def DJ (R:RS) (c:aP) (d6:Int):Value:=match ij R c.aN c.name d6 with
 |.error e=>.tuple #[.int .i64 0,.int .i64 0,.int .i64 e]
 |.ok f=>match ij R c.other c.text 192 with
   |.error e=>.tuple #[.int .i64 f,.int .i64 0,.int .i64 e]
   |.ok to=>.tuple #[.int .i64 f,.int .i64 to,.int .i64 0]
theorem Wl (h:ij R c.aN c.name d6=.error e):DJ R c d6=.tuple #[.int .i64 0,.int .i64 0,.int .i64 e]:=by unfold DJ;rw [h]
theorem Wm (h:ij R c.aN c.name d6=.ok d) (h2:ij R c.other c.text 192=.error e):DJ R c d6=.tuple #[.int .i64 d,.int .i64 0,.int .i64 e]:=by unfold DJ;rw [h];simp only [h2]
theorem Wn (h:ij R c.aN c.name d6=.ok d) (h2:ij R c.other c.text 192=.ok to):DJ R c d6=.tuple #[.int .i64 d,.int .i64 to,.int .i64 0]:=by unfold DJ;rw [h];simp only [h2]
theorem L9 (hC:RC R) (c:aP) (d6:Int):(∃a e,qH R c d6=.error e/\¬e=0/\DJ R c d6=.tuple #[.int .i64 a,.int .i64 0,.int .i64 e])\/∃f to,qH R c d6=.ok (f,to)/\f<R.ns.length/\to<R.ns.length/\DJ R c d6=.tuple #[.int .i64 f,.int .i64 to,.int .i64 0]:=by
 rcases rJ hC c.aN c.name d6 with ⟨e,h1,h2⟩|⟨f,h1,h2⟩
 ·exact .inl ⟨0,e,by unfold qH;rw [h1],h2,Wl h1⟩
 rcases rJ hC c.other c.text 192 with ⟨e,h3,h4⟩|⟨to,h3,h4⟩
 ·exact .inl ⟨f,e,by unfold qH;rw [h1];simp only [h3],h4,Wm h1 h3⟩
 exact .inr ⟨f,to,by unfold qH;rw [h1];simp only [h3],h2,h4,Wn h1 h3⟩
theorem kB (ns:List aO) (d:Nat) (name:ByteArray):bZ ns d name = -1\/∃k:Nat,bZ ns d name=(k:Int)/\k<ns.length:=by
 unfold bZ
 split
 ·exact .inl rfl
 rename_i j _
 by_cases h:0<=gJ ns (en (nd ns d).ah j).id
 ·exact .inr ⟨_,(mW h).2.2,(mW h).1⟩
 exact .inl (CM h)
theorem Zi (h:¬(R.ns.length:Int)<R.cN):false=decide (vO R):=(ahi (λq=>h q.1)).symm
theorem Zj (h:¬R.last<1099511627776):false=decide (vO R):=(ahi (λq=>h q.2.1)).symm
theorem adE (h:(R.ns.length:Int)<R.cN) (h2:R.last<1099511627776):decide ((dM R.ns R.ns.length:Int)<8192)=decide (vO R):=ahu.2 ⟨λq=>⟨h,h2,q⟩,λq=>q.2.2⟩
theorem adF (h:¬0<=id):false=decide (jV id):=(ahi (λq=>h q.1)).symm
theorem afb (h:0<=id):decide (id<=4095)=decide (jV id):=ahu.2 ⟨λq=>⟨h,q⟩,λq=>q.2⟩
theorem Zk (h:name=⟨#[]⟩):90=ld name:=by unfold ld;rw [ahf h]
theorem Wo (h:¬name=⟨#[]⟩) (h2:4096<(name.size:Int)):93=ld name:=by unfold ld;rw [ahe h,ahf zc]
theorem Wp (h:¬name=⟨#[]⟩) (h2:¬4096<(name.size:Int)) (h3:∀q,q<name.size->¬dP name q=0):0=ld name:=by unfold ld;rw [ahe h,ahe zc,ahf (show qN name from h3)]
theorem Zl (h:¬name=⟨#[]⟩) (h2:¬4096<(name.size:Int)) {q:Nat} (hq:q<name.size) (h3:dP name q=0):91=ld name:=by unfold ld;rw [ahe h,ahe zc,ahe (λg=>g q hq h3)]
def exA:Except Int Nat->Int
 |.error _=>0
 |.ok k=>k
def exE:Except Int Nat->Int
 |.error e=>e
 |.ok _=>0
theorem adG (x:Except Int Nat):exV x=.tuple #[.int .i64 (exA x),.int .i64 (exE x)]:=by cases x<;>rfl
noncomputable def qA (R:RS) (c:aP):Except Int Nat:=if c.op=12 then (match ij R c.aN c.name 64 with|.error e=>.error e|.ok d=>if 0<=bZ R.ns d c.name then .ok (bZ R.ns d c.name).toNat else .error 170) else iG R c.aN
theorem Pj:qO R c=match qA R c with|.error e=>Jx c e|.ok k=>FZ R c k:=by
 unfold qO qA
 grind
theorem Zm (h:qA R c=.error e):qO R c=Jx c e:=by rw [Pj,h]
theorem Zn (h:qA R c=.ok k):qO R c=FZ R c k:=by rw [Pj,h]
theorem JR (h:¬c.op=12):iG R c.aN=qA R c:=by unfold qA;rw [ahe h]
theorem Ma (h:c.op=12) (ha:ij R c.aN c.name 64=.error e):.error e=qA R c:=by unfold qA;rw [ahf h,ha]
theorem JS (h:c.op=12) (ha:ij R c.aN c.name 64=.ok d) (hl:bZ R.ns d c.name = -1):.error 170=qA R c:=by unfold qA;rw [ahf h,ha];simp only;rw [ahe (by rw [hl];decide)]
theorem JT (h:c.op=12) (ha:ij R c.aN c.name 64=.ok d) (hl:bZ R.ns d c.name=(k:Int)):.ok k=qA R c:=by unfold qA;rw [ahf h,ha];simp only;rw [ahf (by rw [hl];omega),hl];rfl
theorem QX (hC:RC R) (c:aP):(∃e,qA R c=.error e/\¬e=0)\/∃k,qA R c=.ok k/\k<R.ns.length:=by
 by_cases h:c.op=12
 ·rcases rJ hC c.aN c.name 64 with ⟨e,h1,h2⟩|⟨d,h1,_⟩
  ·exact .inl ⟨e,(Ma h h1).symm,h2⟩
  rcases kB R.ns d c.name with h2|⟨k,h2,h3⟩
  ·grind [JS]
  exact .inr ⟨k,(JT h h1 h2).symm,h3⟩
 rw [←JR h]
 rcases tT hC c.aN with h1|h1
 ·exact .inl ⟨_,h1,Pd⟩
 exact .inr h1
end p
end
section
open Go.RowKit Go.Maps bG aF
attribute [local irreducible] av bP aq aB
noncomputable abbrev zQ1 (dc)(top)(b5:Nat) (st):=([(1,vI ↑dc),(2,vI ↑top),(3,vP b5),(7,vI ↑st)]:Fr)
theorem Zo {β:Bs} (Z:RS) (Y:RL) (hR:dz β Z Y) (hB:RB Z) :
 aX Tryz.prog β 116 #[.agg ⟨rV Z Y⟩] [] (λv l=>v=.bool (decide (vO Z))/\l=[]):=by
 exact SE Tryz.func116 Tryz.ntmps116 (λR=>SR (jB 2 [1] (λb1=>.ay b1 (rV Z Y) 45) (λb1=>NS (jK 9 [11] [(2,a_ 1 b1),(6,a_ 1 b1)] (sP 11 ((((Z.ns.length:Nat):Int):Int)<(Z.cN:Int)) (λh11=>jK 5 [16] [(1,a_ 1 b1)] (sP 16 ((Z.last:Int)<(1099511627776:Int)) (λpz=>jK 1 [17] [(0,A_ 1 b1 12)] (gE [] (Pb Z Y hR hB) (jK 3 [2] [] (eN ⟨ahg Value.bool (adE h11 pz),rfl⟩)))) (λpz=>jK 5 [2] [] (eN ⟨ahg Value.bool (Zj pz),rfl⟩)))) (λh11=>jK 10 [2] [] (eN ⟨ahg Value.bool (Zi h11),rfl⟩)))))))
theorem tu {β:Bs} (Z:RS) (Y:RL) (hR:dz β Z Y) (hC:RC Z) (hx:Int) :
 aX Tryz.prog β 74 #[.agg ⟨rV Z Y⟩,vI (hx)] [] (λv l=>v=exV (iG Z hx)/\l=[]):=by
 refine SE Tryz.func74 Tryz.ntmps74 (λR=>SR (jB 3 [2] (λb2=>.ay b2 (rV Z Y) 45) (λb2=>NN (aq.seq ?_))))
 by_cases hm:hx∈bn Z.us
 ·obtain⟨k,fL,hk,hh,hat⟩:=Sd hC hm
  exact aq.region (jK 3 [8,9] [(1,A_ 1 b2 4)] (gE [] ((E4 Z.cH Z.aI Y.H Y.V Y.ch Y.cv Z.us hR.h (by have:=hC.us;omega) hx).val (ahg (Value.int .i64) fL)) (jK 1 [6] [] (NZ (jK 2 [12] [(1,wF (((k:Int):Int)<(0:Int)))] (NF (KX (aq.seq (rQ (jQ 8 [14,20] [(1,a_ 1 b2),(4,a_ 1 b2),(6,x_ k Z.us.length (xC.hd (l:=(iZ Z.us)) hR.v (j:=k) (by grind [j9,mM]))),(7,r_ (xC.rd (l:=(iZ Z.us)) hR.v (j:=k) (by grind [j9,mM])))] (mG [] [0,1] (.int .i64 ↑(cq Z.ns ((iZ Z.us).getD k 0))) ((ze Y.A Y.c Z.ns Y.L hR.n hC.fO (by have:=hC.ns;omega) ((iZ Z.us).getD k 0)).val (ahg (Value.int .i64) hat)) (jQ 2 [4,5] [] (NQ (NX (aq.ret (RT _ [0] (⟨(ahg exV hh).symm,rfl⟩)))))))))))))))))
 obtain⟨fL,hh⟩:=KW hm
 exact aq.region (jK 3 [8,9] [(1,A_ 1 b2 4)] (gE [] ((E4 Z.cH Z.aI Y.H Y.V Y.ch Y.cv Z.us hR.h (by have:=hC.us;omega) hx).val (ahg (Value.int .i64) fL)) (jK 1 [6] [] (NZ (jK 2 [12] [] (NT (zR ⟨(ahg exV hh).symm,rfl⟩)))))))
theorem o4 {β:Bs} (Z:RS) (Y:RL) (hR:dz β Z Y) (hC:RC Z) (hx:Int) (name:ByteArray) (hn:name.size<=1048576) (d6:Int) :
 aX Tryz.prog β 75 #[.agg ⟨rV Z Y⟩,vI (hx),.string name,vI (d6)] [] (λv l=>v=exV (ij Z hx name d6)/\l=[]):=by
 refine SE Tryz.func75 Tryz.ntmps75 (λR=>SR (jB 3 [4] (λb3=>.ay b3 (rV Z Y) 45) (λb3=>NS (jK 2 [14,15] [(0,A_ 1 b3 12)] ?_))))
 rcases tT hC hx with hh|⟨d,hh,hd⟩
 ·exact gE [] ((tu Z Y hR hC hx).val (ahg exV hh)) (jK 5 [10,11] [] (NZ (jK 2 [20] [] (NT (zR ⟨(ahg exV (Wj hh)).symm,rfl⟩)))))
 exact gE [] ((tu Z Y hR hC hx).val (ahg exV hh)) (jK 5 [10,11] [] (NZ (jK 2 [20] [] (NF (KX (SR (jN 8 [12] (λb4=>[(2,a_ 1 b3),(4,x_ d Z.ns.length (aQ.hd hR.n (i:=d) zc)),(5,D2 (iy Y.L d (nd Z.ns d)) (λ_ _ h=>aQ.rd hR.n zc h)),(7,A_ 2 b4 10)]) (λ_=>[]) (λb4=>.ay b4 (iy Y.L d (nd Z.ns d)) 95) (λb4=>NZ (jK 3 [30] [(1,a_ 2 b4)] (NN (cN (((nd Z.ns d).kind:Int)=(2:Int)) (λnQ=>zR ⟨(ahg exV (Sg hh nQ)).symm,rfl⟩) (λnQ=>KX (SQ (jK 3 [31,33] [(0,A_ 1 b3 12),(2,a_ 2 b4)] (gE [] (wR Z Y hR hC.toRB (nd Z.ns d).id) (NN (cP ((nd Z.ns d).id∈Z.aH) (λyj=>zR ⟨(ahg exV (Pf hh nQ yj)).symm,rfl⟩) (λyj=>KX (SQ (jK 1 [35] [] (gE [] (Dj name hn) (jK 1 [37] [] (NN (cN (cA name) (λyU=>zR ⟨(ahg exV (Pg hh nQ yj yU)).symm,rfl⟩) (λyU=>KX (SQ (jK 6 [43] [(1,a_ 2 b4)] (NN (cN ((bits BinOp.and .i64 ((nd Z.ns d).mode) d6:Int)=(d6:Int)) (λJr=>zR ⟨(ahg exV (Ph hh nQ yj yU Jr)).symm,rfl⟩) (λJr=>KX (zR ⟨(ahg exV (Wk hh nQ yj yU Jr)).symm,rfl⟩)))))))))))))))))))))))))))))))
theorem Zp {β:Bs} (name:ByteArray) (hn:name.size<=1048576) :
 aX Tryz.prog β 115 #[.string name] [] (λv l=>v=vI (ld name)/\l=[]):=by
 refine SE Tryz.func115 Tryz.ntmps115 (λR=>SR (jK 1 [] [] (NZ (jK 2 [5] [(1,w_ (.bool (decide ((name:ByteArray)=⟨#[]⟩))) (qR _ _))] (NN (cP ((name:ByteArray)=⟨#[]⟩) (λh5=>zR ⟨ahg (Value.int .i64) (Zk h5),rfl⟩) (λh5=>KX (SQ (jK 3 [8] [] (NN (cP (((((name:ByteArray).size:Nat):Int):Int)>(4096:Int)) (λh8=>zR ⟨ahg (Value.int .i64) (Wo h5 h8),rfl⟩) (λh8=>KX (SQ (jK 1 [3] [] (NN (aq.block (lJ (λ(i:Nat)=>(i<=name.size)/\(∀q,q<i->¬dP name q=0)) (λ(i:Nat)=>name.size-i) (λ(i:Nat)=>[(0,.string name),(3,vI ↑i)]) (λ(i:Nat)=>[.abs R]) 0 [0] (⟨ahj _,λq hq=>ahh hq (ahm q)⟩) ?_)))))))))))))))))
 rintro i ⟨hi,iU⟩
 exact SQ (jK 4 [12] [] (NN (cP ((((i:Nat):Int):Int)<((((name:ByteArray).size:Nat):Int):Int)) (λh12=>KX (aq.seq (aq.block (SR (jK 4 [18] [(2,xP i (i<(name:ByteArray).size))] (NN (cP ((((((name:ByteArray).data.getD (i) 0).toNat:Nat):Int):Int)=(0:Int)) (λp4=>zR ⟨ahg (Value.int .i64) (Zl h5 h8 (q:=i) zc (by unfold dP;omega)),rfl⟩) (λp4=>KX (aq.region (jK 3 [3] [(1,wJ ((i:Int)+1) (↑(i+1)))] (NL (tJ ((i+1)) [0] (⟨zc,λq hq=>by grind [dP]⟩))))))))))))) (λh12=>XX (zR ⟨ahg (Value.int .i64) (Wp h5 h8 (λq hq=>iU q zc)),rfl⟩)))))
theorem Pk {β:Bs} (m:Int) :
 aX Tryz.prog β 103 #[vI m] [] (λv l=>v=.bool (decide (jV m))/\l=[]):=by
 exact SE Tryz.func103 Tryz.ntmps103 (λR=>SR (jK 1 [] [] (NS (jK 3 [5] [] (sP 5 ((m:Int)>=(0:Int)) (λh5=>jK 4 [2] [] (eN ⟨ahg Value.bool (afb h5),rfl⟩)) (λh5=>jK 4 [2] [] (eN ⟨ahg Value.bool (adF h5),rfl⟩)))))))
theorem Wq {β:Bs} (Z:RS) (Y:RL) (hR:dz β Z Y) (hB:RB Z) (d top:Nat) (hd:d<Z.ns.length) :
 aX Tryz.prog β 105 #[.agg ⟨rV Z Y⟩,vI (((d:Nat):Int)),vI (((top:Nat):Int))] [] (λv l=>v=.bool (jF Z.ns top (Z.ns.length+1) d)/\l=[]):=by
 refine SE Tryz.func105 Tryz.ntmps105 (λR=>SR (jB 2 [3] (λb5=>.ay b5 (rV Z Y) 45) (λb5=>NZ (jK 1 [7] [] (NN (aq.block (lJ (λ(st,dc)=>(st<=Z.ns.length+1)/\(dc<Z.ns.length)/\(jF Z.ns top (Z.ns.length+1-st) dc=(jF Z.ns top (Z.ns.length+1) d))) (λ(st,dc)=>Z.ns.length+1-st) (λ(st,dc)=>(zQ1 dc top b5 st)) (λ(st,dc)=>[.abs R,.ay b5 (rV Z Y) 45]) (0,d) [0,1] (⟨ahj _,hd,rfl⟩) ?_)))))))
 rintro⟨st,dc⟩ ⟨hst,hdc,hbl⟩
 have hbn:=hB.ns
 refine SQ (jK 6 [16] [(3,a_ 1 b5)] (NN (cP ((((st:Nat):Int):Int)<=(((Z.ns.length:Nat):Int):Int)) (λpz=>KX (aq.seq (aq.block (SQ (jK 3 [21] [] (NN (cP ((((dc:Nat):Int):Int)=(((top:Nat):Int):Int)) (λsF=>?_) (λsF=>?_)))))))) (λpz=>XX (zR (v:=(.bool false)) ⟨by rw [←hbl,show Z.ns.length+1-st=0 by omega];rfl,rfl⟩)))))
 ·replace sF:dc=top:=zc
  exact zR ⟨by rw [←hbl,show Z.ns.length+1-st=(Z.ns.length-st)+1 by omega,sF,VZ],rfl⟩
 replace sF:¬dc=top:=zc
 refine KX (SR (jK 1 [8] [] (NZ (sl 8 (vI (-1)) (.int .i64 ((oM Z.ns (nd Z.ns dc).id 0))) (rfl) (jK 1 [9] [] (NN (aq.block (lJ (λ(i:Nat)=>(i<=Z.ns.length)) (λ(i:Nat)=>Z.ns.length-i) (λ(i:Nat)=>(zQ1 dc top b5 st++[(8,vI ((oM Z.ns (nd Z.ns dc).id i))),(9,vI ↑i)])) (λ(i:Nat)=>[.abs R,.ay b5 (rV Z Y) 45]) 0 [0,1] (ahj _) ?_))))))))
 rintro i hi
 refine SQ (jK 6 [27] [(3,a_ 1 b5)] (NN (cP ((((i:Nat):Int):Int)<(((Z.ns.length:Nat):Int):Int)) (λxQ=>KX (aq.seq (aq.block (SR (sl 8 (vI ((oM Z.ns (nd Z.ns dc).id i))) (.int .i64 ((BS Z.ns (nd Z.ns dc).id i 0))) (ahg (Value.int .i64) YW) (jK 1 [10] [] (NN (aq.block (lJ (λ(j:Nat)=>(j<=(nd Z.ns i).ah.length)) (λ(j:Nat)=>(nd Z.ns i).ah.length-j) (λ(j:Nat)=>(zQ1 dc top b5 st++[(8,vI ((BS Z.ns (nd Z.ns dc).id i j))),(9,vI ↑i),(10,vI ↑j)])) (λ(j:Nat)=>[.abs R,.ay b5 (rV Z Y) 45]) 0 [0,1] (ahj _) ?_))))))))) (λxQ=>XX (SQ (sl 8 (vI ((oM Z.ns (nd Z.ns dc).id i))) (.int .i64 ((oM Z.ns (nd Z.ns dc).id Z.ns.length))) (by rw [show i=Z.ns.length by omega]) (jK 2 [63] [] (NN (cP (((oM Z.ns (nd Z.ns dc).id Z.ns.length):Int)<(0:Int)) (λh63=>zR ⟨by rw [←hbl,show Z.ns.length+1-st=(Z.ns.length-st)+1 by omega,TN sF h63],rfl⟩) (λh63=>KX (aq.region (sl 8 (vI ((oM Z.ns (nd Z.ns dc).id Z.ns.length))) (.int .i64 ↑((oM Z.ns (nd Z.ns dc).id Z.ns.length).toNat)) (ahg (Value.int .i64) zc) (jK 2 [1] [] (LX (aq.region (jK 3 [7] [(1,wJ ((st:Int)+1) (↑(st+1)))] (NL (tJ ((st+1),(oM Z.ns (nd Z.ns dc).id Z.ns.length).toNat) [0,1] (⟨zc,by have:=VY (ns:=Z.ns) (id:=(nd Z.ns dc).id) Z.ns.length;omega,by rw [←hbl,show Z.ns.length+1-st=(Z.ns.length+1-(st+1))+1 by omega,YZ sF h63]⟩)))))))))))))))))))
 rintro j hj
 have hrw:=hB.row (i:=i) zc
 exact SQ (jK 10 [39] [(3,a_ 1 b5),(5,x_ i Z.ns.length (aQ.hd hR.n (i:=i) zc)),(7,r_ (aQ.rd hR.n (i:=i) zc (j:=9) rfl))] (NN (cP ((((j:Nat):Int):Int)<((((nd Z.ns i).ah.length:Nat):Int):Int)) (λnB=>KX (aq.seq (aq.block (aq.seq (rQ (jQ 19 [60] [(2,a_ 1 b5),(4,x_ i Z.ns.length (aQ.hd hR.n (i:=i) zc)),(6,r_ (aQ.rd hR.n (i:=i) zc (j:=9) rfl)),(8,x_ j ((nd Z.ns i).ah.length) (cV.hd (hR.n.ah i zc) (i:=j) zc)),(10,r_ (cV.rd (hR.n.ah i zc) (i:=j) zc (j:=1) rfl)),(13,a_ 1 b5),(15,x_ dc Z.ns.length (aQ.hd hR.n (i:=dc) zc)),(17,r_ (aQ.rd hR.n (i:=dc) zc (j:=0) rfl))] (NQ (NX (cP (((en (nd Z.ns i).ah j).id:Int)=((nd Z.ns dc).id:Int)) (λNR=>aq.region (jK 2 [8] [] (LX (aq.region (sl 8 (vI ↑i) (.int .i64 ((BS Z.ns (nd Z.ns dc).id i (j+1)))) (ahg (Value.int .i64) (acd NR)) (jK 3 [10] [(1,wJ ((j:Int)+1) (↑(j+1)))] (NL (tJ ((j+1)) [0,1] (zc))))))))) (λNR=>KX (aq.region (sl 8 (vI ((BS Z.ns (nd Z.ns dc).id i j))) (.int .i64 ((BS Z.ns (nd Z.ns dc).id i (j+1)))) (ahg (Value.int .i64) (YX NR)) (jK 3 [10] [(1,wJ ((j:Int)+1) (↑(j+1)))] (NL (tJ ((j+1)) [0,1] (zc)))))))))))))))) (λnB=>XX (aq.region (sl 8 (vI ((BS Z.ns (nd Z.ns dc).id i j))) (.int .i64 ((oM Z.ns (nd Z.ns dc).id (i+1)))) (by rw [←ab9,show j=(nd Z.ns i).ah.length by omega]) (jK 3 [9] [(1,wJ ((i:Int)+1) (↑(i+1)))] (NL (tJ ((i+1)) [0,1] (zc))))))))))
theorem F6 {β:Bs} (Z:RS) (Y:RL) (hR:dz β Z Y) (hC:RC Z) (c:aP) (hn:c.name.size<=1048576) (ht:c.text.size<=1048576) (d6:Int) :
 aX Tryz.prog β 80 #[.agg ⟨rV Z Y⟩,.agg ⟨aL c⟩,vI (d6)] [] (λv l=>v=DJ Z c d6/\l=[]):=by
 refine SE Tryz.func80 Tryz.ntmps80 (λR=>SR (jB 1 [3] (λb6=>.ay b6 (rV Z Y) 45) (λb6=>jB 4 [4] (λb7=>.ay b7 (aL c) 53) (λb7=>NS (jK 6 [13,15,17,18] [(0,A_ 1 b6 12),(2,a_ 2 b7),(4,a_ 2 b7)] ?_)))))
 rcases rJ hC c.aN c.name d6 with ⟨e,h1,E5⟩|⟨f,h1,hf⟩
 ·exact gE [] ((o4 Z Y hR hC c.aN c.name hn d6).val (ahg exV h1)) (jK 5 [9,10] [] (NZ (jK 2 [23] [(1,Nt ((e:Int)=(0:Int)) E5)] (NT (zR ⟨(Wl h1).symm,rfl⟩)))))
 refine gE [] ((o4 Z Y hR hC c.aN c.name hn d6).val (ahg exV h1)) (jK 5 [9,10] [] (NZ (jK 2 [23] [(1,w_ (.bool false) rfl)] (NF (KX (SR (jK 5 [26,28,30] [(0,A_ 1 b6 12),(2,a_ 2 b7),(4,a_ 2 b7)] ?_)))))))
 rcases rJ hC c.other c.text 192 with ⟨e,h2,h2e⟩|⟨to,h2,d9⟩
 ·exact gE [] ((o4 Z Y hR hC c.other c.text ht 192).val (ahg exV h2)) (jK 5 [10,11] [] (NS (jK 6 [6,7,8] [] (eN ⟨(Wm h1 h2).symm,rfl⟩))))
 exact gE [] ((o4 Z Y hR hC c.other c.text ht 192).val (ahg exV h2)) (jK 5 [10,11] [] (NS (jK 6 [6,7,8] [] (eN ⟨(Wn h1 h2).symm,rfl⟩))))
theorem Pm {β:Bs} (Z:RS) (Y:RL) (hR:dz β Z Y) (hC:RC Z) (c:aP) (hn:c.name.size<=1048576) (A:Option Addr) (cc:Nat) (an:Int) :
 aX Tryz.prog β 55 #[.agg ⟨rV Z Y⟩,.agg ⟨aL (fk {c with answer:=an} A cc)⟩,.agg ⟨aL {c with answer:=0}⟩] [] (λv l=>v=.agg ⟨aL (qO Z c)⟩/\l=[]):=by
 refine SE Tryz.func55 Tryz.ntmps55 (λR=>SR (jB 1 [3] (λb8=>.ay b8 (rV Z Y) 45) (λb8=>jB 1 [4] (λb9=>.ay b9 (aL (fk {c with answer:=an} A cc)) 53) (λb9=>jB 1 [5] (λb10=>.ay b10 (aL {c with answer:=0}) 53) (λb10=>jB 1 [6] (λb11=>.ay b11 [vI 0,vI 0,vI 0,.string ⟨#[]⟩,.string ⟨#[]⟩,.slice none (0) (0),vI 0,vI 0,vI 0,vI 0,vI 0,vI 0,vI 0] 53) (λb11=>NS (jC 8 [] [(1,a_ 3 b10),(3,a_ 3 b10),(5,a_ 3 b10),(7,a_ 3 b10)] [(3,[(2,vI 0),(6,vI 0),(7,vI 0),(8,vI 0)])] (NS (jC 3 [] [(2,A_ 3 b10 2)] [(3,[(9,vI 0),(10,vI 0)])] (NS (jK 3 [19,21] [(0,A_ 1 b8 12),(2,a_ 2 b9)] (gE [] ((tu Z Y hR hC c.aN).val (adG _)) (jK 5 [7,8] [] (NN (aq.join (λ(x,a)=>(x=(qA Z c))/\(∀z:Nat,x=.ok z->a=(z:Int))) (λ(x,a)=>[(3,vP b8),(5,vP b10),(6,vP b11),(7,vI (a)),(8,vI ((exE x)))]) (λ(x,a)=>[.abs R,.ay b8 (rV Z Y) 45,.ay b9 (aL (fk {c with answer:=an} A cc)) 53,pC b10 {c with other:=0,mode:=0,bg:=0,bh:=0,aU:=0,aJ:=0,answer:=0},.ay b11 [vI 0,vI 0,vI 0,.string ⟨#[]⟩,.string ⟨#[]⟩,.slice none (0) (0),vI 0,vI 0,vI 0,vI 0,vI 0,vI 0,vI 0] 53]) ?_ ?_)))))))))))))))
 ·rintro⟨x,a⟩ ⟨hx2,ha2⟩
  refine aq.seq ?_
  subst hx2
  rcases QX hC c with ⟨e,hs,hse⟩|⟨k,hs,hk⟩
  ·exact aq.region (sl 8 (vI ((exE (qA Z c)))) (.int .i64 (e)) (by rw [hs];rfl) (jC 3 [] [(2,a_ 3 b10)] [(3,[(11,vI (e))])] (NZ (jK 2 [50] [(1,Nt ((e:Int)=(0:Int)) hse)] (NT (SR (jC 2 [] [(0,A_ 3 b10 13),(1,A_ 4 b11 13)] [(4,[(0,vI (c.op)),(1,vI (c.aN)),(3,.string c.name),(4,.string c.text),(5,.slice c.dA (c.data.length) (c.dC)),(11,vI (e))])] (eS (v:=(.agg ⟨aL {c with other:=0,mode:=0,bg:=0,bh:=0,aU:=0,aJ:=0,code:=e,answer:=0}⟩)) [A_ 4 b11 13] ⟨by rw [Zm hs];rfl,rfl⟩))))))))
  exact aq.region (sl 7 (vI (a)) (.int .i64 ↑k) (ahg (Value.int .i64) (ha2 k hs)) (sl 8 (vI ((exE (qA Z c)))) (.int .i64 0) (by rw [hs];rfl) (jC 3 [] [(2,a_ 3 b10)] [(3,[(11,vI 0)])] (NZ (jK 2 [50] [(1,w_ (.bool false) rfl)] (NF (KX (SR (jN 8 [11] (λb12=>[(2,a_ 1 b8),(4,x_ k Z.ns.length (aQ.hd hR.n (i:=k) zc)),(5,D2 (iy Y.L k (nd Z.ns k)) (λ_ _ h=>aQ.rd hR.n zc h)),(7,A_ 5 b12 10)]) (λ_=>[]) (λb12=>.ay b12 (iy Y.L k (nd Z.ns k)) 95) (λb12=>NS (jC 4 [] [(1,a_ 5 b12),(3,a_ 3 b10)] [(3,[(12,vI ((nd Z.ns k).id))])] (NS (jC 4 [] [(1,a_ 5 b12),(3,a_ 3 b10)] [(3,[(2,vI ((nd Z.ns k).kind))])] (NS (jC 4 [] [(1,a_ 5 b12),(3,a_ 3 b10)] [(3,[(6,vI ((nd Z.ns k).mode))])] (NS (jC 4 [] [(1,a_ 5 b12),(3,a_ 3 b10)] [(3,[(7,vI ((nd Z.ns k).bg))])] (NS (jC 4 [] [(1,a_ 5 b12),(3,a_ 3 b10)] [(3,[(8,vI ((nd Z.ns k).bh))])] (NS (jC 4 [] [(1,A_ 5 b12 2),(3,A_ 3 b10 2)] [(3,[(9,vI ((nd Z.ns k).aU)),(10,vI ((nd Z.ns k).aJ))])] (NS (jC 2 [] [(0,A_ 3 b10 13),(1,A_ 4 b11 13)] [(4,[(0,vI (c.op)),(1,vI (c.aN)),(2,vI ((nd Z.ns k).kind)),(3,.string c.name),(4,.string c.text),(5,.slice c.dA (c.data.length) (c.dC)),(6,vI ((nd Z.ns k).mode)),(7,vI ((nd Z.ns k).bg)),(8,vI ((nd Z.ns k).bh)),(9,vI ((nd Z.ns k).aU)),(10,vI ((nd Z.ns k).aJ)),(12,vI ((nd Z.ns k).id))])] (eS (v:=(.agg ⟨aL {c with other:=(nd Z.ns k).kind,mode:=(nd Z.ns k).mode,bg:=(nd Z.ns k).bg,bh:=(nd Z.ns k).bh,aU:=(nd Z.ns k).aU,aJ:=(nd Z.ns k).aJ,code:=0,answer:=(nd Z.ns k).id}⟩)) [A_ 4 b11 13] ⟨by rw [Zn hs];rfl,rfl⟩))))))))))))))))))))))))
 refine SR (jK 3 [27] [(1,a_ 2 b9)] (NN (cP ((c.op:Int)=(12:Int)) (λxQ=>SR (jK 5 [29,31,33] [(0,A_ 1 b8 12),(2,a_ 2 b9),(4,a_ 2 b9)] ?_)) (λxQ=>aq.skip (mJ ((iG Z c.aN),(exA (iG Z c.aN))) [0,1,2,3,4] (⟨JR zc,λk e=>by rw [e];rfl⟩))))))
 rcases rJ hC c.aN c.name 64 with ⟨e,h1,E5⟩|⟨f,h1,hf⟩
 ·exact gE [] ((o4 Z Y hR hC c.aN c.name hn 64).val (ahg exV h1)) (jK 5 [9,10] [] (NS (jK 2 [8] [] (NS (jK 2 [39] [(1,wF ((e:Int)=(0:Int)) E5)] (NF (aq.skip (mJ ((.error e:Except Int Nat),(exA (iG Z c.aN))) [0,1,2,3,4] (⟨Ma zc h1,λk e=>by cases e⟩)))))))))
 refine gE [] ((o4 Z Y hR hC c.aN c.name hn 64).val (ahg exV h1)) (jK 5 [9,10] [] (NS (jK 2 [8] [] (NS (jK 2 [39] [(1,w_ (.bool true) rfl)] (NT (SR (jK 4 [40,41,43] [(0,A_ 1 b8 12),(3,a_ 2 b9)] ?_))))))))
 rcases kB Z.ns f c.name with hl|⟨k,hl,hk⟩
 ·exact gE [] ((jJ Z Y hR hC f hf c.name).val (ahg (Value.int .i64) hl)) (jK 1 [7] [] (NS (jK 2 [46] [] (NT (aq.region (jK 1 [8] [] (NL (mJ ((.error 170:Except Int Nat),(-1)) [0,1,2,3,4] (⟨JS zc h1 hl,λk e=>by cases e⟩)))))))))
 exact gE [] ((jJ Z Y hR hC f hf c.name).val (ahg (Value.int .i64) hl)) (jK 1 [7] [] (NS (jK 2 [46] [(1,wF (((k:Int):Int)<(0:Int)))] (NF (aq.skip (mJ ((.ok k:Except Int Nat),(k:Int)) [0,1,2,3,4] (⟨JT zc h1 hl,λk e=>by cases e;rfl⟩)))))))
end
section
open Go.RowKit Go.Maps bG aF
attribute [local irreducible] av bP aq aB fF oA
noncomputable abbrev ic (Y:RL) (Z:RS):=(.abs (aG 95 10 Y.A Z.ns.length Y.c (bH Y.L Z.ns)):HP)
noncomputable abbrev gP (Y:RL) (Z:RS):=(.abs (aG 3 1 Y.G Z.aH.length Y.cg (bL Z.aH)):HP)
noncomputable abbrev Ws (Ag)(l:List Int) (cg):=(.abs (aG 3 1 Ag l.length cg (bL l)):HP)
noncomputable abbrev zT4 (A1:Option Addr) (Z:RS) (k:Nat) (c1:Nat):=(.abs (aG 3 1 A1 ((ins (aF.aS Z.us) (nd Z.ns k).id Z.us).length) c1 (bL (bn (ins (aF.aS Z.us) (nd Z.ns k).id Z.us)))):HP)
noncomputable abbrev zT5 (B1)(Z:RS) (k:Nat) (d1):=(.abs (aG 3 1 B1 ((ins (aF.aS Z.us) (nd Z.ns k).id Z.us).length) d1 (bL (iZ (ins (aF.aS Z.us) (nd Z.ns k).id Z.us)))):HP)
noncomputable abbrev zT6 (uw:Nat) (Z:RS) (A1:Option Addr) (k:Nat) (c1:Nat) (B1) (d1):=(.ay uw [vI (Z.cH),vI ((max Z.aI ((Z.us.length:Int)+1))),.slice A1 ((ins (aF.aS Z.us) (nd Z.ns k).id Z.us).length) (c1),.slice B1 ((ins (aF.aS Z.us) (nd Z.ns k).id Z.us).length) (d1)] 43:HP)
noncomputable abbrev zT7 (jf:Nat) (yZ:Nat) (An:Option Addr) (p:List aO) (cn:Nat) (Ag) (l:List Int) (cg) (i:Nat):=([(1,vP jf),(2,vP yZ),(3,.slice An (p.length) (cn)),(4,.slice Ag (l.length) (cg)),(5,vI ↑i)]:Fr)
noncomputable abbrev zT8 (Z:RS):=([(6,vI (Z.cN)),(7,vI (Z.cB)),(8,vI (Z.cH)),(9,vI (Z.cS)),(10,vI (Z.cZ)),(11,vI (Z.last))]:Fr)
noncomputable abbrev zT9 (b1:Nat) (b2:Nat) (Ao) (q:List fH) (ca):=([(4,vP b1),(8,vP b2),(9,.slice Ao (q.length) (ca))]:Fr)
noncomputable abbrev qI (b1:Nat) (Z) (Y:RL) (b2:Nat):=([.ay b1 (rV Z Y) 45,.ay b2 (rZ) 45]:List HP)
noncomputable abbrev adH (sW:Nat) (wo:Nat) (Z:RS) (Y:RL) (k:Nat):=([(2,vP sW),(4,vP wo),(12,.agg #[vI (Z.cH),vI (Z.aI),.slice Y.H (Z.us.length) (Y.ch),.slice Y.V (Z.us.length) (Y.cv)]),(19,vI ((nd Z.ns k).id))]:Fr)
noncomputable abbrev adI (Z:RS) (A1:Option Addr) (k:Nat) (c1:Nat) (B1) (d1):=([(3,vI ((max Z.aI ((Z.us.length:Int)+1)))),(4,.slice A1 ((ins (aF.aS Z.us) (nd Z.ns k).id Z.us).length) (c1)),(5,.slice B1 ((ins (aF.aS Z.us) (nd Z.ns k).id Z.us).length) (d1))]:Fr)
noncomputable abbrev adJ (Z:RS) (Y:RL):=([(2,vI (Z.cH)),(3,vI (Z.aI)),(4,.slice Y.H (Z.us.length) (Y.ch)),(5,.slice Y.V (Z.us.length) (Y.cv))]:Fr)
theorem Cb {β:Bs} (Z:RS) (Y:RL) (hI:lV β Z Y.L Y.H Y.V) (hB:RB Z) (d:Nat) (hd:d<Z.ns.length) (name:ByteArray) (id:Int) :
 cr Tryz.prog β 82 #[.agg ⟨rV Z Y⟩,vI (((d:Nat):Int)),.string name,vI (id)] [ic Y Z,gP Y Z] (λβ' v l=>∃L',v=.agg ⟨rV (dh Z d name id) Y⟩/\l=[.abs (aG 95 10 Y.A ((dh Z d name id).ns.length) Y.c (bH L' (dh Z d name id).ns)),.abs (aG 3 1 Y.G ((dh Z d name id).aH.length) Y.cg (bL (dh Z d name id).aH))]/\lV β' (dh Z d name id) L' Y.H Y.V):=by
 refine o8 Tryz.func82 Tryz.ntmps82 (λaE R=>SR (jB 1 [4] (λb1=>.ay b1 (rV Z Y) 45) (λb1=>jB 1 [8] (λb2=>.ay b2 (rZ) 45) (λb2=>NS (jB 2 [9] (λb3=>.ay b3 [] 149) (λb3=>NS (av.mem (λw hS=>hS.oW (i:=5) (b:=b3) (cs:=[]) (e:=149) 2 0 KB rfl Pd) (jK 1 [10] [] (NS (av.r9 0 rfl zc (λlM=>jK 8 [11] [(2,a_ 3 b1),(4,x_ d Z.ns.length (lM)),(6,v_ 0 (nA Z.ns Y.L Y.A Y.c d 9 hd rfl))] (NZ (jK 1 [12] [] (NN (aq.block (lJ (ι:=Nat×Bool×(List fH)×(Option Addr)×Nat) (λ(j,put,q,Ao,ca)=>(j<=(nd Z.ns d).ah.length)/\(gM (nd Z.ns d).ah name id j put q)) (λ(j,put,q,Ao,ca)=>(nd Z.ns d).ah.length-j) (λ(j,put,q,Ao,ca)=>([(1,vI ↑d),(2,.string name),(3,vI (id))]++zT9 b1 b2 Ao q ca++[(10,.bool put),(11,.slice (Y.L.eA d) ((nd Z.ns d).ah.length) ((Y.L.eC d))),(12,vI ↑j)])) (λ(j,put,q,Ao,ca)=>(qI b1 Z Y b2++[ic Y Z,gP Y Z,.abs (aG 149 2 Ao q.length ca (mV q)),.abs R])) (0,false,[],some ⟨b3,0,none⟩,0) [3,4,0,1,5,2] (⟨ahj _,gM.start⟩) ?_))))))))))))))))
 rintro⟨j,put,q,Ao,ca⟩ ⟨hj,he⟩
 have wm:=he.len hj
 have hrw:=hB.row hd
 refine SQ (jK 4 [24] [] (NN (cP ((((j:Nat):Int):Int)<((((nd Z.ns d).ah.length:Nat):Int):Int)) (λrG=>?_) (λrG=>?_))))
 ·refine KX (aq.seq (aq.block (aq.join (ι:=Bool×(List fH)×(Option Addr)×Nat) (λ(p1,q1,A1,c1)=>(gM (nd Z.ns d).ah name id (j+1) p1 (q1++[en (nd Z.ns d).ah j]))/\(q1.length<=j+2)) (λ(p1,q1,A1,c1)=>([(1,vI ↑d),(2,.string name),(3,vI (id))]++zT9 b1 b2 A1 q1 c1++[(10,.bool p1),(11,.slice (Y.L.eA d) ((nd Z.ns d).ah.length) ((Y.L.eC d))),(12,vI ↑j)])) (λ(p1,q1,A1,c1)=>(qI b1 Z Y b2++[ic Y Z,gP Y Z,.abs (aG 149 2 A1 q1.length c1 (mV q1)),.abs R])) ?_ ?_)))
  ·rintro⟨p1,q1,A1,c1⟩ ⟨he1,hl1⟩
   exact aq.region (jN 6 [44,49] (λb4=>[(3,x_ j ((nd Z.ns d).ah.length) (cV.hd (hI.ah d hd) (i:=j) zc)),(4,r2 (cV.rd (hI.ah d hd) (i:=j) zc (j:=0) rfl) (cV.rd (hI.ah d hd) (i:=j) zc (j:=1) rfl))]) (λ_=>[]) (λb4=>.ay b4 [.string (en (nd Z.ns d).ah j).name,vI ((en (nd Z.ns d).ah j).id)] 149) (λb4=>mU 4 93 (some ⟨b4,0,none⟩) 1 1 [.string (en (nd Z.ns d).ah j).name,vI ((en (nd Z.ns d).ah j).id)] rfl (fU (j:=6) rfl) (λA5 c6=>av.cO 4 rfl (DC (e:=(en (nd Z.ns d).ah j))) (sl 50 (.slice A5 (q1.length+1) (c6)) (.slice A5 ((q1++[(en (nd Z.ns d).ah j)]).length) (c6)) (by rw [←oy]) (jK 1 [9] [] (LX (aq.region (jK 3 [12] [(1,wJ ((j:Int)+1) (↑(j+1)))] (NL (tJ ((j+1),p1,(q1++[(en (nd Z.ns d).ah j)]),A5,c6) [0,1,2,3,4,5] (⟨zc,he1⟩)))))))))))
  refine SR (jK 3 [29] [] (av.pU 29 (!put) (λ_=>KB) (λCV=>jK 8 [37] [(2,x_ j ((nd Z.ns d).ah.length) (cV.hd (hI.ah d hd) (i:=j) zc)),(4,r_ (cV.rd (hI.ah d hd) (i:=j) zc (j:=0) rfl)),(6,w_ (.bool (!(decide (jA ((en (nd Z.ns d).ah j).name) name)))) (ads _ _))] (NN (cN (jA ((en (nd Z.ns d).ah j).name) name) (λyU=>SR ?_) (λyU=>aq.skip (mJ (put,q,Ao,ca) [0,1,2,3,4,5] (⟨he.keep zc (λ_=>yU),zc⟩)))))) (λCV=>jK 8 [37] [] (NF (aq.skip (mJ (put,q,Ao,ca) [0,1,2,3,4,5] (⟨he.keep zc (λe=>by rw [e] at CV;cases CV),zc⟩)))))))
  have hl1:=oy (q:=q) (e:=(⟨name,id⟩:fH))
  exact jB 5 [38,42] (λb7=>.ay b7 [.string name,vI (id)] 149) (λb7=>mU 4 93 (some ⟨b7,0,none⟩) 1 1 [.string name,vI (id)] rfl (fU (j:=6) rfl) (λA8 c9=>av.cO 4 rfl (DC (e:=(⟨name,id⟩:fH))) (sl 43 (.slice A8 (q.length+1) (c9)) (.slice A8 ((q++[(⟨name,id⟩:fH)]).length) (c9)) (by rw [←oy]) (jK 1 [9] [] (NN (aq.region (jK 1 [10] [] (NL (mJ (true,(q++[(⟨name,id⟩:fH)]),A8,c9) [0,1,2,3,4,5] (⟨gM.put ((show put=false by simpa using CV) ▸ he) zc yU,zc⟩))))))))))
 refine XX (aq.join (ι:=(List fH)×(Option Addr)×Nat) (λ(q2,A2,c2)=>(q2=(mP name id (nd Z.ns d).ah))) (λ(q2,A2,c2)=>([(1,vI ↑d)]++zT9 b1 b2 A2 q2 c2)) (λ(q2,A2,c2)=>(qI b1 Z Y b2++[ic Y Z,gP Y Z,.abs (aG 149 2 A2 q2.length c2 (mV q2)),.abs R])) ?_ (SR (jK 2 [52] [] (NN (aq.cond (b:=(!put)) (λ_=>KB) (λyV=>aq.region (jB 5 [53,57] (λb10=>.ay b10 [.string name,vI (id)] 149) (λb10=>mU 4 93 (some ⟨b10,0,none⟩) 1 1 [.string name,vI (id)] rfl (fU (j:=6) rfl) (λGN D9=>av.cO 4 rfl (DC (e:=(⟨name,id⟩:fH))) (sl 58 (.slice GN (q.length+1) (D9)) (.slice GN ((q++[(⟨name,id⟩:fH)]).length) (D9)) (by rw [←oy]) (jK 1 [9] [] (NL (mJ ((q++[(⟨name,id⟩:fH)]),GN,D9) [0,1,2,3,4,5] (gM.last Pe))))))))) (λyV=>aq.skip (mJ (q,Ao,ca) [0,1,2,3,4,5] (gM.end_ Pe))))))))
 rintro⟨q2,A2,c2⟩ JQ
 refine SR ?_
 subst JQ
 refine av.ol (Φ:=λβ'=>cV β' A2 (mP name id (nd Z.ns d).ah)) 4 [0,1,2,3,5] (eZ:=(qI b1 Z Y b2++[ic Y Z,gP Y Z,.abs R])) rfl rfl KB (λF w h β' h1 h2=>cD.gU h h1 h2) (λβ1 cJ hE=>?_)
 replace hI:=hI.le cJ
 replace aE:=aE.trans cJ
 exact jK 7 [63,65] [(2,a_ 0 b1),(5,x_ d Z.ns.length (lM))] (av.zJ 2 (d*10+9) (d:=none) (T:=93) (e:=95) (size:=10) (n:=Z.ns.length) (cap:=Y.c) (A:=Y.A) (xs:=(bH Y.L Z.ns)) (u:=.slice A2 ((mP name id (nd Z.ns d).ah).length) (c2)) (a:=(.tmp 65)) (y:=(.tmp 63)) (λ_=>KB) KB (λ_=>KB) (λ_=>KB) KB rfl zc (by rw [nZ];omega) (NS (jK 9 [72,74] [(2,a_ 0 b1),(6,A_ 0 b1 2),(7,x_ d Z.ns.length (lM))] (av.DB 2 (d*10+5) (d:=none) (T:=26) (e:=95) (size:=10) (n:=Z.ns.length) (cap:=Y.c) (A:=Y.A) (xs:=((bH Y.L Z.ns).set (d*10+9) (.slice A2 ((mP name id (nd Z.ns d).ah).length) (c2)))) (u:=.int .i64 (Z.cS)) (u2:=.int .i64 (Z.cZ)) (a:=(.tmp 74)) (y:=(.tmp 72)) (λ_=>KB) KB (λ_=>KB) (λ_=>KB) KB rfl rfl zc (by rw [ahp,nZ];omega) (av.cO 2 rfl (R3 hd rfl) (NS (jC 2 [] [(0,A_ 0 b1 12),(1,A_ 1 b2 12)] [(1,(zC (rV Z Y)))] (eO (l:=[.abs (aG 95 10 Y.A ((dh Z d name id).ns.length) Y.c (bH (Y.L.bU d A2 c2) (dh Z d name id).ns)),gP Y Z]) (v:=(.agg ⟨rV Z Y⟩)) [A_ 1 b2 12] aE ⟨_,by simp only [rV];rw [CS];rfl,rfl,hI.nK hd hE rfl rfl⟩ [2,3,4]))))))))
theorem Cc {β:Bs} (Z:RS) (Y:RL) (hI:lV β Z Y.L Y.H Y.V) {n:Nat} (hD:RD n Z) (hn:n<=7) (d:Nat) (hd:d<Z.ns.length) (name:ByteArray) (free:Bool) :
 cr Tryz.prog β 106 #[.agg ⟨rV Z Y⟩,vI (((d:Nat):Int)),.string name,.bool free] [ic Y Z,gP Y Z] (λβ' v l=>∃L' G' cg',v=.agg ⟨rW (cX Z d name free) Y.A Y.c G' cg' Y.H Y.ch Y.V Y.cv⟩/\l=[.abs (aG 95 10 Y.A ((cX Z d name free).ns.length) Y.c (bH L' (cX Z d name free).ns)),.abs (aG 3 1 G' ((cX Z d name free).aH.length) cg' (bL (cX Z d name free).aH))]/\lV β' (cX Z d name free) L' Y.H Y.V):=by
 refine o8 Tryz.func106 Tryz.ntmps106 (λaE R=>SR (jB 1 [4] (λb13=>.ay b13 (rV Z Y) 45) (λb13=>jB 1 [8] (λb14=>.ay b14 (rZ) 45) (λb14=>NS (jB 2 [9] (λb15=>.ay b15 [] 149) (λb15=>NS (av.mem (λw hS=>hS.oW (i:=5) (b:=b15) (cs:=[]) (e:=149) 2 0 KB rfl Pd) (av.r9 0 rfl zc (λlM=>jK 8 [10] [(2,a_ 3 b13),(4,x_ d Z.ns.length (lM)),(6,v_ 0 (nA Z.ns Y.L Y.A Y.c d 9 hd rfl))] (NS (jK 1 [11] [] (NZ (jK 1 [12] [] (NN (aq.block (lJ (ι:=Nat×(List fH)×Int×(Option Addr)×Nat) (λ(j,q,z,Ao,ca)=>(j<=(nd Z.ns d).ah.length)/\(q=rY name ((nd Z.ns d).ah.take j))/\(z=rf name ((nd Z.ns d).ah.take j) 0)) (λ(j,q,z,Ao,ca)=>(nd Z.ns d).ah.length-j) (λ(j,q,z,Ao,ca)=>([(1,vI ↑d),(2,.string name),(3,.bool free)]++zT9 b13 b14 Ao q ca++[(10,.slice (Y.L.eA d) ((nd Z.ns d).ah.length) ((Y.L.eC d))),(11,vI (z)),(12,vI ↑j)])) (λ(j,q,z,Ao,ca)=>(qI b13 Z Y b14++[ic Y Z,gP Y Z,.abs (aG 149 2 Ao q.length ca (mV q)),.abs R])) (0,[],0,some ⟨b15,0,none⟩,0) [3,4,0,1,5,2] (⟨ahj _,rfl,rfl⟩) ?_))))))))))))))))
 rintro⟨j,q,z,Ao,ca⟩ ⟨hj,hq,hz⟩
 have wm:q.length<=j:=by rw [hq];exact Y4
 have hrw:=(hD.rb zc).row hd
 refine SQ (jK 4 [24] [] (NN (cP ((((j:Nat):Int):Int)<((((nd Z.ns d).ah.length:Nat):Int):Int)) (λrG=>KX (aq.seq (aq.block (SR (jK 7 [33] [(2,x_ j ((nd Z.ns d).ah.length) (cV.hd (hI.ah d hd) (i:=j) zc)),(4,r_ (cV.rd (hI.ah d hd) (i:=j) zc (j:=0) rfl)),(6,w_ (.bool (decide (((en (nd Z.ns d).ah j).name:ByteArray)=name))) (qR _ _))] (NN (cP (((en (nd Z.ns d).ah j).name:ByteArray)=name) (λLA=>aq.region (jK 6 [11] [(2,x_ j ((nd Z.ns d).ah.length) (cV.hd (hI.ah d hd) (i:=j) zc)),(4,r_ (cV.rd (hI.ah d hd) (i:=j) zc (j:=1) rfl))] (LX (aq.region (jK 3 [12] [(1,wJ ((j:Int)+1) (↑(j+1)))] (NL (tJ ((j+1),q,(en (nd Z.ns d).ah j).id,Ao,ca) [0,1,2,3,4,5] (⟨zc,by grind [MP],ace zc LA⟩)))))))) (λLA=>aq.region (jN 6 [39,44] (λb16=>[(3,x_ j ((nd Z.ns d).ah.length) (cV.hd (hI.ah d hd) (i:=j) zc)),(4,r2 (cV.rd (hI.ah d hd) (i:=j) zc (j:=0) rfl) (cV.rd (hI.ah d hd) (i:=j) zc (j:=1) rfl))]) (λ_=>[]) (λb16=>.ay b16 [.string (en (nd Z.ns d).ah j).name,vI ((en (nd Z.ns d).ah j).id)] 149) (λb16=>mU 4 93 (some ⟨b16,0,none⟩) 1 1 [.string (en (nd Z.ns d).ah j).name,vI ((en (nd Z.ns d).ah j).id)] rfl (fU (j:=6) rfl) (λoU qM=>av.cO 4 rfl (DC (e:=(en (nd Z.ns d).ah j))) (sl 45 (.slice oU (q.length+1) (qM)) (.slice oU ((q++[(en (nd Z.ns d).ah j)]).length) (qM)) (by rw [←oy]) (jK 1 [9] [] (LX (aq.region (jK 3 [12] [(1,wJ ((j:Int)+1) (↑(j+1)))] (NL (tJ ((j+1),(q++[(en (nd Z.ns d).ah j)]),z,oU,qM) [0,1,2,3,4,5] (⟨zc,by grind [KS],by rw [hz];exact Y0 zc LA⟩))))))))))))))))))) (λrG=>XX (SR ?_)))))
 have hje:j=(nd Z.ns d).ah.length:=zc
 rw [hje,ahG] at hq hz
 subst hq
 subst hz
 refine av.ol (Φ:=λβ'=>cV β' Ao (rY name (nd Z.ns d).ah)) 4 [0,1,2,3,5] (eZ:=(qI b13 Z Y b14++[ic Y Z,gP Y Z,.abs R])) rfl rfl KB (λF w h β' h1 h2=>cD.gU h h1 h2) (λβ1 cJ hE=>?_)
 replace hI:=hI.le cJ
 replace aE:=aE.trans cJ
 refine jK 7 [50,52] [(2,a_ 0 b13),(5,x_ d Z.ns.length (lM))] (av.zJ 2 (d*10+9) (d:=none) (T:=93) (e:=95) (size:=10) (n:=Z.ns.length) (cap:=Y.c) (A:=Y.A) (xs:=(bH Y.L Z.ns)) (u:=.slice Ao ((rY name (nd Z.ns d).ah).length) (ca)) (a:=(.tmp 52)) (y:=(.tmp 50)) (λ_=>KB) KB (λ_=>KB) (λ_=>KB) KB rfl zc (by rw [nZ];omega) (NS (jK 9 [59,61] [(2,a_ 0 b13),(6,A_ 0 b13 2),(7,x_ d Z.ns.length (lM))] (av.DB 2 (d*10+5) (d:=none) (T:=26) (e:=95) (size:=10) (n:=Z.ns.length) (cap:=Y.c) (A:=Y.A) (xs:=((bH Y.L Z.ns).set (d*10+9) (.slice Ao ((rY name (nd Z.ns d).ah).length) (ca)))) (u:=.int .i64 (Z.cS)) (u2:=.int .i64 (Z.cZ)) (a:=(.tmp 61)) (y:=(.tmp 59)) (λ_=>KB) KB (λ_=>KB) (λ_=>KB) KB rfl rfl zc (by rw [ahp,nZ];omega) (av.cO 2 rfl (R3 hd rfl) (NN (aq.seq (SR ?_))))))))
 have di:lV β1 (DE Z d name) (Y.L.bU d Ao ca) Y.H Y.V:=hI.nK hd hE rfl rfl
 have CJ:RD (n+1) (DE Z d name):=hD.del hd
 refine jK 2 [63] [] (av.pU 63 free (λ_=>KB) (λh63=>jK 2 [64,65] [(0,A_ 0 b13 12)] ?_) (λh63=>jK 5 [68] [] (NF (KX (SR (jC 2 [] [(0,A_ 0 b13 12),(1,A_ 1 b14 12)] [(1,(zC (rV Z Y)))] (eO [A_ 1 b14 12] aE ⟨(Y.L.bU d Ao ca),Y.G,Y.cg,by simp only [rV,rW];rw [JB (λe=>by rw [e] at h63;cases h63),vu]<;>rfl,by rw [JB (λe=>by rw [e] at h63;cases h63)]<;>rfl,di.same rfl rfl⟩ [2,3,4])))))))
 have q2:=λkx (h:dz kx (DE Z d name) ⟨Y.A,Y.c,(Y.L.bU d Ao ca),Y.G,Y.cg,Y.H,Y.ch,Y.V,Y.cv⟩)=>Wf (DE Z d name) ⟨Y.A,Y.c,(Y.L.bU d Ao ca),Y.G,Y.cg,Y.H,Y.ch,Y.V,Y.cv⟩ h (CJ.rb zc) (rf name (nd Z.ns d).ah 0)
 simp only [rV,acg] at q2
 exact gE [2,3] (eU di (λ_ _ h=>q2 _ h)) (jK 2 [68] [] (NN (cP (((uh (DE Z d name).ns (rf name (nd Z.ns d).ah 0)):Int)=(0:Int)) (λh68=>aq.region (jN 4 [70,72] (λb19=>[(1,a_ 2 b13)]) (λ_=>[]) (λb19=>.ay b19 [vI ((rf name (nd Z.ns d).ah 0))] 3) (λb19=>mU 1 41 (some ⟨b19,0,none⟩) 1 1 [vI ((rf name (nd Z.ns d).ah 0))] rfl (fU (j:=5) rfl) (λoo oq=>av.cO 1 rfl (EV) (sl 73 (.slice oo (Z.aH.length+1) (oq)) (.slice oo ((Z.aH++[(rf name (nd Z.ns d).ah 0)]).length) (oq)) (by rw [←oy]) (jC 2 [] [(1,a_ 2 b13)] [(2,[(1,.slice oo ((Z.aH++[(rf name (nd Z.ns d).ah 0)]).length) (oq))])] (NS (jC 2 [] [(0,A_ 2 b13 12),(1,A_ 3 b14 12)] [(3,([(0,.slice Y.A (Z.ns.length) (Y.c)),(1,.slice oo ((Z.aH++[(rf name (nd Z.ns d).ah 0)]).length) (oq))]++adJ Z Y++zT8 Z))] (eO [A_ 3 b14 12] aE ⟨(Y.L.bU d Ao ca),oo,oq,by simp only [rV,rW];rw [R4 h63 h68,vu]<;>rfl,by rw [R4 h63 h68]<;>rfl,di.same rfl rfl⟩ [0,1,4])))))) (n:=Z.aH.length) (hb:=by have:=hD.aH;omega)))) (λh68=>KX (SR (jC 2 [] [(0,A_ 2 b13 12),(1,A_ 3 b14 12)] [(3,(zC (rV Z Y)))] (eO [A_ 3 b14 12] aE ⟨(Y.L.bU d Ao ca),Y.G,Y.cg,by simp only [rV,rW];rw [JB (λ_=>h68),vu]<;>rfl,by rw [JB (λ_=>h68)]<;>rfl,di.same rfl rfl⟩ [0,1,4])))))))
theorem acj {β:Bs} (Z:RS) (Y:RL) (hI:lV β Z Y.L Y.H Y.V) {n:Nat} (hD:RD n Z) (hn:n<=8) (hl:0<=Z.last/\Z.last<1099511627776) (d:Nat) (hd:d<Z.ns.length) (name:ByteArray) (x:aO) (hxd:x.data=[]) (Mb:x.ah=[]) :
 cr Tryz.prog β 117 #[.agg ⟨rV Z Y⟩,vI (((d:Nat):Int)),.string name,.agg #[vI (x.id),vI (x.kind),vI (x.mode),vI (x.bg),vI (x.bh),vI (x.aU),vI (x.aJ),.slice none (0) (0),.string x.target,.slice none (0) (0)]] [ic Y Z,gP Y Z] (λβ' v l=>∃A' c' L',v=.agg ⟨rW (jY Z d name x) A' c' Y.G Y.cg Y.H Y.ch Y.V Y.cv⟩/\l=[.abs (aG 95 10 A' ((jY Z d name x).ns.length) c' (bH L' (jY Z d name x).ns)),.abs (aG 3 1 Y.G ((jY Z d name x).aH.length) Y.cg (bL (jY Z d name x).aH))]/\lV β' (jY Z d name x) L' Y.H Y.V/\L'.dA Z.ns.length=none/\L'.dC Z.ns.length=0):=by
 refine o8 Tryz.func117 Tryz.ntmps117 (λaE R=>SR (jB 1 [4] (λmR=>.ay mR (rV Z Y) 45) (λmR=>jB 1 [7] (λE6=>.ay E6 [vI (x.id),vI (x.kind),vI (x.mode),vI (x.bg),vI (x.bh),vI (x.aU),vI (x.aJ),.slice none (0) (0),.string x.target,.slice none (0) (0)] 95) (λE6=>jB 1 [8] (λb24=>.ay b24 (rZ) 45) (λb24=>NS (jC 5 [] [(1,a_ 3 mR),(2,wJ (Z.last+1) (Z.last+1)),(4,a_ 3 mR)] [(3,[(11,vI (Z.last+1))])] (NS (jC 4 [] [(1,a_ 3 mR),(3,a_ 4 E6)] [(4,[(0,vI (Z.last+1))])] (NS (jC 5 [] [(2,A_ 3 mR 2),(4,A_ 4 E6 2)] [(4,[(5,vI (Z.cS)),(6,vI (Z.cZ))])] (NS ?_)))))))))))
 have hI0:lV β ({Z with last:=Z.last+1}:RS) Y.L Y.H Y.V:=hI.same rfl rfl
 refine jK 5 [20,21,22,24] [(0,A_ 3 mR 12),(4,a_ 4 E6)] (j3 [0,1] (Cb ({Z with last:=Z.last+1}:RS) Y hI0 (RD.rb (hD.last _) hn) d hd name (Z.last+1)) ?_)
 rintro β1 _ _ cJ ⟨L1,rfl,rfl,di⟩
 replace aE:=aE.trans cJ
 refine jC 1 [] [(0,A_ 3 mR 12)] [(3,(zC (rV (dh ({Z with last:=Z.last+1}:RS) d name (Z.last+1)) Y)))] (NS ?_)
 have hl1:(dh ({Z with last:=Z.last+1}:RS) d name (Z.last+1)).ns.length=Z.ns.length:=CS
 exact jN 5 [28,30] (λsG=>[(2,a_ 3 mR),(3,A_ 4 E6 10)]) (λ_=>[]) (λsG=>.ay sG [vI (Z.last+1),vI (x.kind),vI (x.mode),vI (x.bg),vI (x.bh),vI (Z.cS),vI (Z.cZ),.slice none (0) (0),.string x.target,.slice none (0) (0)] 95) (λsG=>mU 0 22 (some ⟨sG,0,none⟩) 1 1 [vI (Z.last+1),vI (x.kind),vI (x.mode),vI (x.bg),vI (x.bh),vI (Z.cS),vI (Z.cZ),.slice none (0) (0),.string x.target,.slice none (0) (0)] rfl (fU (j:=6) rfl) (λqy qz=>av.cO 0 rfl (H7 (n:=({x with id:=Z.last+1,aU:=Z.cS,aJ:=Z.cZ}:aO)) (by show x.data.length=0;rw [hxd];rfl) (by show x.ah.length=0;rw [Mb];rfl)) (sl 31 (.slice qy (((dh ({Z with last:=Z.last+1}:RS) d name (Z.last+1)).ns.length)+1) (qz)) (.slice qy (((dh ({Z with last:=Z.last+1}:RS) d name (Z.last+1)).ns++[({x with id:=Z.last+1,aU:=Z.cS,aJ:=Z.cZ}:aO)]).length) (qz)) (by rw [←oy]) (jC 3 [] [(2,a_ 3 mR)] [(3,[(0,.slice qy (((dh ({Z with last:=Z.last+1}:RS) d name (Z.last+1)).ns++[({x with id:=Z.last+1,aU:=Z.cS,aJ:=Z.cZ}:aO)]).length) (qz))])] (NS (jC 2 [] [(0,A_ 3 mR 12),(1,A_ 5 b24 12)] [(5,[(0,.slice qy (((dh ({Z with last:=Z.last+1}:RS) d name (Z.last+1)).ns++[({x with id:=Z.last+1,aU:=Z.cS,aJ:=Z.cZ}:aO)]).length) (qz)),(1,.slice Y.G ((dh ({Z with last:=Z.last+1}:RS) d name (Z.last+1)).aH.length) (Y.cg)),(2,vI ((dh ({Z with last:=Z.last+1}:RS) d name (Z.last+1)).cH)),(3,vI ((dh ({Z with last:=Z.last+1}:RS) d name (Z.last+1)).aI)),(4,.slice Y.H ((dh ({Z with last:=Z.last+1}:RS) d name (Z.last+1)).us.length) (Y.ch)),(5,.slice Y.V ((dh ({Z with last:=Z.last+1}:RS) d name (Z.last+1)).us.length) (Y.cv)),(6,vI ((dh ({Z with last:=Z.last+1}:RS) d name (Z.last+1)).cN)),(7,vI ((dh ({Z with last:=Z.last+1}:RS) d name (Z.last+1)).cB)),(8,vI ((dh ({Z with last:=Z.last+1}:RS) d name (Z.last+1)).cH)),(9,vI ((dh ({Z with last:=Z.last+1}:RS) d name (Z.last+1)).cS)),(10,vI ((dh ({Z with last:=Z.last+1}:RS) d name (Z.last+1)).cZ)),(11,vI ((dh ({Z with last:=Z.last+1}:RS) d name (Z.last+1)).last))])] (eO [A_ 5 b24 12] aE ⟨qy,qz,_,rfl,rfl,di.snoc (n:=({x with id:=Z.last+1,aU:=Z.cS,aJ:=Z.cZ}:aO)) rfl hxd Mb rfl,by rw [←hl1];exact⟨ahf rfl,ahf rfl⟩⟩)))))) (n:=(dh ({Z with last:=Z.last+1}:RS) d name (Z.last+1)).ns.length) (hb:=by have:=hD.ns;omega))
theorem yD {β:Bs} (Z:RS) (Y:RL) (hR:dz β Z Y) (hB:RB Z) :
 cr Tryz.prog β 86 #[.agg ⟨rV Z Y⟩] [] (λβ' v l=>∃Y',v=.agg ⟨rV (gn Z) Y'⟩/\l=[]/\dz β' (gn Z) Y'):=by
 refine o8 Tryz.func86 Tryz.ntmps86 (λaE R=>SR (jB 1 [1] (λjf=>.ay jf (rV Z Y) 45) (λjf=>jB 1 [2] (λyZ=>.ay yZ (rZ) 45) (λyZ=>NS (jB 2 [3] (λb30=>.ay b30 [] 95) (λb30=>NS (av.mem (λw hS=>hS.oW (i:=3) (b:=b30) (cs:=[]) (e:=95) 10 0 KB rfl Pd) (jB 2 [4] (λur=>.ay ur [] 3) (λur=>NZ (av.mem (λw hS=>hS.oW (i:=4) (b:=ur) (cs:=[]) (e:=3) 1 0 KB rfl Pd) (jK 1 [5] [] (NN (aq.block (lJ (λ(i,p,K,An,cn,l,Ag,cg)=>(i<=Z.ns.length)/\(p=tP Z i)/\(l=pY Z i)/\(oG β p p.length K)) (λ(i,p,K,An,cn,l,Ag,cg)=>Z.ns.length-i) (λ(i,p,K,An,cn,l,Ag,cg)=>(zT7 jf yZ An p cn Ag l cg i)) (λ(i,p,K,An,cn,l,Ag,cg)=>(qI jf Z Y yZ++[.abs (aG 95 10 An p.length cn (bH K p)),Ws Ag l cg,.abs R])) (0,[],HX,some ⟨b30,0,none⟩,0,[],some ⟨ur,0,none⟩,0) [1,2,3,4,0] (⟨ahj _,rfl,rfl,⟨λi hi=>ahh hi (ahm i),λi hi=>ahh hi (ahm i)⟩⟩) ?_))))))))))))))
 rintro⟨i,p,K,An,cn,l,Ag,cg⟩ ⟨hi,hp,hl,hK⟩
 have hbn:=hB.ns
 have hpl:p.length<=i:=by rw [hp];exact L4
 have hll:l.length<=i:=by rw [hl];exact V0
 refine SQ (jK 6 [16] [(3,a_ 0 jf)] (NN (cP ((((i:Nat):Int):Int)<(((Z.ns.length:Nat):Int):Int)) (λpz=>?_) (λpz=>?_))))
 ·refine KX (aq.seq (aq.block (SR (jK 8 [6] [(2,a_ 0 jf),(4,x_ i Z.ns.length (aQ.hd hR.n (i:=i) zc)),(6,r_ (aQ.rd hR.n (i:=i) zc (j:=0) rfl))] (NS (jK 1 [7] [] (NZ (jK 1 [8] [] (NN (aq.block (lJ (λ(k,op)=>(k<=Z.us.length)/\(op=true↔∃q,q<k/\(iZ Z.us).getD q 0=(nd Z.ns i).id)) (λ(k,op)=>Z.us.length-k) (λ(k,op)=>(zT7 jf yZ An p cn Ag l cg i++[(6,vI ((nd Z.ns i).id)),(7,.bool op),(8,vI ↑k)])) (λ(k,op)=>(qI jf Z Y yZ++[.abs (aG 95 10 An p.length cn (bH K p)),Ws Ag l cg,.abs R])) (0,false) [0,1,2,3,4] (⟨ahj _,⟨λe=>(by cases e),λ⟨q,h,_⟩=>ahh h (ahm q)⟩⟩) ?_)))))))))))
  rintro⟨k,op⟩ ⟨hk,bX⟩
  have hbu:=hB.us
  refine SQ (jK 6 [31] [(3,a_ 0 jf)] (NN (cP ((((k:Nat):Int):Int)<(((Z.us.length:Nat):Int):Int)) (λU8=>KX (aq.seq (aq.block (SR (jK 8 [41] [(2,a_ 0 jf),(4,x_ k Z.us.length (xC.hd (l:=(iZ Z.us)) hR.v (j:=k) (by grind [j9,mM]))),(5,r_ (xC.rd (l:=(iZ Z.us)) hR.v (j:=k) (by grind [j9,mM])))] (NN (cP ((((iZ Z.us).getD k 0):Int)=((nd Z.ns i).id:Int)) (λAY=>aq.region (jK 1 [7] [] (LX (aq.region (jK 3 [8] [(1,wJ ((k:Int)+1) (↑(k+1)))] (NL (tJ ((k+1),true) [0,1,2,3,4] (⟨zc,⟨λ_=>⟨k,zc,AY⟩,λ_=>rfl⟩⟩)))))))) (λAY=>KX (aq.region (jK 3 [8] [(1,wJ ((k:Int)+1) (↑(k+1)))] (NL (tJ ((k+1),op) [0,1,2,3,4] (⟨zc,⟨λe=>let ⟨q,h1,h2⟩:=bX.1 e;⟨q,zc,h2⟩,λ⟨q,h1,h2⟩=>bX.2 Pe⟩⟩))))))))))))) (λU8=>XX (aq.seq (SR ?_))))))
  replace bX:op=true↔(nd Z.ns i).id∈iZ Z.us:=bX.trans (by rw [show k=Z.us.length by omega];exact afQ.symm)
  refine jK 2 [42,43] [(0,A_ 0 jf 12)] (gE [] (wR Z Y hR hB (nd Z.ns i).id) (jK 1 [45] [] (sP 45 ((nd Z.ns i).id∈Z.aH) (λNM=>?_) (λNM=>?_))))
  ·refine jK 2 [47] [] (jK 1 [48] [] (NN (aq.cond (b:=(!op)) (λ_=>KB) (λh48=>?_) (λh48=>?_))))
   ·refine XX (aq.region (jK 3 [5] [(1,wJ ((i:Int)+1) (↑(i+1)))] (NL ?_)))
    have hnk:¬r8 Z (nd Z.ns i)=true:=λe=>by grind [H6]
    exact tJ ((i+1),p,K,An,cn,l,Ag,cg) [0,1,2,3,4] (⟨zc,by rw [hp,OV zc hnk],by rw [hl,TP zc hnk],hK⟩)
   have hkp:r8 Z (nd Z.ns i)=true:=H6.2 (λhg=>bX.1 (by simpa using h48))
   refine KX (aq.join (λ(l2,A2,c2)=>(l2=pY Z (i+1))) (λ(l2,A2,c2)=>(zT7 jf yZ An p cn A2 l2 c2 i)) (λ(l2,A2,c2)=>(qI jf Z Y yZ++[.abs (aG 95 10 An p.length cn (bH K p)),Ws A2 l2 c2,.abs R])) ?_ (SR (jK 2 [49,50] [(0,A_ 0 jf 12)] (gE [] (wR Z Y hR hB (nd Z.ns i).id) (NN (cP ((nd Z.ns i).id∈Z.aH) (λxR=>aq.region (jB 3 [52,54] (λEs=>.ay Es [vI ((nd Z.ns i).id)] 3) (λEs=>mU 3 41 (some ⟨Es,0,none⟩) 1 1 [vI ((nd Z.ns i).id)] rfl (fU (j:=5) rfl) (λA36 c37=>av.cO 3 rfl (EV) (sl 55 (.slice A36 (l.length+1) (c37)) (.slice A36 ((l++[(nd Z.ns i).id]).length) (c37)) (by rw [←oy]) (jK 1 [4] [] (NL (mJ ((l++[(nd Z.ns i).id]),A36,c37) [0,1,2,3,4] (by rw [hl,LY zc hkp xR]))))))))) (λxR=>aq.skip (mJ (l,Ag,cg) [0,1,2,3,4] (by rw [hl,OW zc hkp xR])))))))))
   rintro⟨l2,A2,c2⟩ hl2
   exact aq.region (jN 8 [56,63] (λb32=>[(3,a_ 0 jf),(5,x_ i Z.ns.length (aQ.hd hR.n (i:=i) zc)),(6,D2 (iy Y.L i (nd Z.ns i)) (λ_ _ h=>aQ.rd hR.n zc h))]) (λ_=>[]) (λb32=>.ay b32 (iy Y.L i (nd Z.ns i)) 95) (λb32=>mU 2 22 (some ⟨b32,0,none⟩) 1 1 (iy Y.L i (nd Z.ns i)) rfl (fU (j:=5) rfl) (λMc Md=>av.cO 2 rfl (H7 (n:=nd Z.ns i) rfl rfl) (sl 64 (.slice Mc (p.length+1) (Md)) (.slice Mc ((p++[nd Z.ns i]).length) (Md)) (by rw [←oy]) (jK 1 [3] [] (LX (aq.region (jK 3 [5] [(1,wJ ((i:Int)+1) (↑(i+1)))] (NL (tJ ((i+1),(p++[nd Z.ns i]),(K.put p.length (Y.L.dA i) (Y.L.dC i) (Y.L.eA i) (Y.L.eC i)),Mc,Md,l2,A2,c2) [0,1,2,3,4] (⟨zc,by rw [hp,BU zc hkp],hl2,hK.snoc (hR.n.data i zc) (hR.n.ah i zc)⟩)))))))))))
  refine jK 2 [47] [] ?_
  have hkp:r8 Z (nd Z.ns i)=true:=H6.2 (λhg=>ahh hg NM)
  refine jK 1 [48] [] (NF (KX (aq.join (λ(l2,A2,c2)=>(l2=pY Z (i+1))) (λ(l2,A2,c2)=>(zT7 jf yZ An p cn A2 l2 c2 i)) (λ(l2,A2,c2)=>(qI jf Z Y yZ++[.abs (aG 95 10 An p.length cn (bH K p)),Ws A2 l2 c2,.abs R])) ?_ (SR (jK 2 [49,50] [(0,A_ 0 jf 12)] (gE [] (wR Z Y hR hB (nd Z.ns i).id) (NN (cP ((nd Z.ns i).id∈Z.aH) (λxR=>aq.region (jB 3 [52,54] (λb41=>.ay b41 [vI ((nd Z.ns i).id)] 3) (λb41=>mU 3 41 (some ⟨b41,0,none⟩) 1 1 [vI ((nd Z.ns i).id)] rfl (fU (j:=5) rfl) (λA42 c43=>av.cO 3 rfl (EV) (sl 55 (.slice A42 (l.length+1) (c43)) (.slice A42 ((l++[(nd Z.ns i).id]).length) (c43)) (by rw [←oy]) (jK 1 [4] [] (NL (mJ ((l++[(nd Z.ns i).id]),A42,c43) [0,1,2,3,4] (by rw [hl,LY zc hkp xR]))))))))) (λxR=>aq.skip (mJ (l,Ag,cg) [0,1,2,3,4] (by rw [hl,OW zc hkp xR])))))))))))
  rintro⟨l2,A2,c2⟩ hl2
  exact aq.region (jN 8 [56,63] (λAV=>[(3,a_ 0 jf),(5,x_ i Z.ns.length (aQ.hd hR.n (i:=i) zc)),(6,D2 (iy Y.L i (nd Z.ns i)) (λ_ _ h=>aQ.rd hR.n zc h))]) (λ_=>[]) (λAV=>.ay AV (iy Y.L i (nd Z.ns i)) 95) (λAV=>mU 2 22 (some ⟨AV,0,none⟩) 1 1 (iy Y.L i (nd Z.ns i)) rfl (fU (j:=5) rfl) (λA39 c40=>av.cO 2 rfl (H7 (n:=nd Z.ns i) rfl rfl) (sl 64 (.slice A39 (p.length+1) (c40)) (.slice A39 ((p++[nd Z.ns i]).length) (c40)) (by rw [←oy]) (jK 1 [3] [] (LX (aq.region (jK 3 [5] [(1,wJ ((i:Int)+1) (↑(i+1)))] (NL (tJ ((i+1),(p++[nd Z.ns i]),(K.put p.length (Y.L.dA i) (Y.L.dC i) (Y.L.eA i) (Y.L.eC i)),A39,c40,l2,A2,c2) [0,1,2,3,4] (⟨zc,by rw [hp,BU zc hkp],hl2,hK.snoc (hR.n.data i zc) (hR.n.ah i zc)⟩)))))))))))
 refine XX (SR ?_)
 have hie:i=Z.ns.length:=zc
 rw [hie] at hp hl
 refine av.ol (Φ:=λβ'=>cD β' An (bH K p)) 2 [0,1,3,4] (eZ:=(qI jf Z Y yZ++[Ws Ag l cg,.abs R])) rfl rfl KB (λF w h β' h1 h2=>cD.gU h h1 h2) (λβ1 cJ hN=>?_)
 replace hR:=hR.le cJ
 replace hK:=hK.le cJ
 replace aE:=aE.trans cJ
 refine av.ol (Φ:=λβ'=>cD β' Ag (bL l)) 2 [0,1,3] (eZ:=(qI jf Z Y yZ++[.abs R])) rfl rfl KB (λF w h β' h1 h2=>cD.gU h h1 h2) (λkx fA hG=>?_)
 replace hR:=hR.le fA
 replace hK:=hK.le fA
 replace hN:=hN.le fA
 replace aE:=aE.trans fA
 exact jC 4 [] [(3,a_ 0 jf)] [(0,[(0,.slice An (p.length) (cn))])] (NS (jC 3 [] [(2,a_ 0 jf)] [(0,[(1,.slice Ag (l.length) (cg))])] (NS (jC 2 [] [(0,A_ 0 jf 12),(1,A_ 1 yZ 12)] [(1,([(0,.slice An (p.length) (cn)),(1,.slice Ag (l.length) (cg))]++adJ Z Y++zT8 Z))] (eO [A_ 1 yZ 12] aE ⟨⟨An,cn,K,Ag,cg,Y.H,Y.ch,Y.V,Y.cv⟩,by simp only [rV];rw [O0 hp,JC hl]<;>rfl,rfl,Y6 hR hN hG hp hl hK⟩ [2])))))
theorem Ia {β:Bs} (Z:RS) (Y:RL) (hR:dz β Z Y) (hC:RU Z) (k:Nat) (hk:k<Z.ns.length) :
 cr Tryz.prog β 77 #[.agg ⟨rV Z Y⟩,vI (((k:Nat):Int))] [] (λβ' v l=>∃Y',v=.tuple #[.agg ⟨rV ((kY Z k).1) Y'⟩,vI (kY Z k).2.1,vI (kY Z k).2.2]/\l=[]/\dz β' (kY Z k).1 Y'):=by
 refine o8 Tryz.func77 Tryz.ntmps77 (λaE R=>SR (jB 1 [2] (λsW=>.ay sW (rV Z Y) 45) (λsW=>jB 3 [4] (λwo=>.ay wo (rZ) 45) (λwo=>NN (aq.seq ?_)))))
 by_cases hf:(Z.us.length:Int)<Z.cH
 ·refine aq.rz (S:=[.ay sW (rV Z Y) 45]) (yY [0,1,2,3,4,5,6,7,8] (oJ 14 [(false,15),(false,16),(false,17)] [(false,9),(true,10),(true,11),(true,12),(true,13)])) [1] (gT (oJ 14 [(false,15),(false,16),(false,17)] [(false,9),(true,10),(true,11),(true,12),(true,13)]) (adH sW wo Z Y k) [0,1,2,3,4,5,6,7,8] [(1,A_ 0 sW 4),(4,a_ 0 sW),(6,x_ k Z.ns.length (aQ.hd hR.n (i:=k) zc)),(8,r_ (aQ.rd hR.n (i:=k) zc (j:=0) rfl))] (oA.one (j:=14) (dj:=7) (R:=λf_ l_=>∃A1:Option Addr,∃c1:Nat,∃B1:Option Addr,∃d1:Nat,f_=[(23,vI 0),(22,vI ((aF.aS Z.us))),(21,.agg #[vI (Z.cH),vI ((max Z.aI ((Z.us.length:Int)+1))),.slice A1 ((ins (aF.aS Z.us) (nd Z.ns k).id Z.us).length) (c1),.slice B1 ((ins (aF.aS Z.us) (nd Z.ns k).id Z.us).length) (d1)]),(10,.tuple #[.agg #[vI (Z.cH),vI ((max Z.aI ((Z.us.length:Int)+1))),.slice A1 ((ins (aF.aS Z.us) (nd Z.ns k).id Z.us).length) (c1),.slice B1 ((ins (aF.aS Z.us) (nd Z.ns k).id Z.us).length) (d1)],vI ((aF.aS Z.us)),vI 0]),(20,.tuple #[.agg #[vI (Z.cH),vI ((max Z.aI ((Z.us.length:Int)+1))),.slice A1 ((ins (aF.aS Z.us) (nd Z.ns k).id Z.us).length) (c1),.slice B1 ((ins (aF.aS Z.us) (nd Z.ns k).id Z.us).length) (d1)],vI ((aF.aS Z.us)),vI 0]),(2,vP sW),(4,vP wo),(12,.agg #[vI (Z.cH),vI (Z.aI),.slice Y.H (Z.us.length) (Y.ch),.slice Y.V (Z.us.length) (Y.cv)]),(19,vI ((nd Z.ns k).id))]/\l_=[zT4 A1 Z k c1,zT5 B1 Z k d1]) [1] [(false,9,20),(true,10,10),(true,11,21),(true,12,22),(true,13,23)] (jt.of (ι:=Nat) (v:=λ(uw:Nat)=>vP uw) (l:=λ(uw:Nat)=>[.ay uw [vI 0,vI 0,.slice none (0) (0),.slice none (0) (0)] 43]) [20,10,21,22,23] rfl rfl rfl rfl ?_) ?_ ?_))
  ·intro u Aq
   exact jB 1 [7] (λuw=>.ay uw [vI 0,vI 0,.slice none (0) (0),.slice none (0) (0)] 43) (λuw=>NL (MD uw [7,20,10,21,22,23,2,4,12,19] [1,0]))
  ·refine eF.step (jt.of (ι:=(Option Addr)×Nat×(Option Addr)×Nat) (v:=λ((A1,c1,B1,d1):(Option Addr)×Nat×(Option Addr)×Nat)=>.tuple #[.agg #[vI (Z.cH),vI ((max Z.aI ((Z.us.length:Int)+1))),.slice A1 ((ins (aF.aS Z.us) (nd Z.ns k).id Z.us).length) (c1),.slice B1 ((ins (aF.aS Z.us) (nd Z.ns k).id Z.us).length) (d1)],vI ((aF.aS Z.us)),vI 0]) (l:=λ((A1,c1,B1,d1):(Option Addr)×Nat×(Option Addr)×Nat)=>[zT4 A1 Z k c1,zT5 B1 Z k d1]) [7] rfl rfl rfl rfl ?_) ?_
   ·intro u Aq
    refine gL [] (aci Z.cH Z.aI Y.H Y.V Y.ch Y.cv Z.us hR.h hR.v (by have:=hC.us;omega) hC.usr hC.xX (nd Z.ns k).id hf) ?_
    rintro _ _ ⟨A1,c1,B1,d1,rfl,rfl⟩
    exact NL (MD (A1,c1,B1,d1) [20,7,2,4,12,19] [0,1,2])
   rintro _ _ ⟨⟨A1,c1,B1,d1⟩,rfl,rfl⟩
   exact (eF.read (.tuple #[.agg #[vI (Z.cH),vI ((max Z.aI ((Z.us.length:Int)+1))),.slice A1 ((ins (aF.aS Z.us) (nd Z.ns k).id Z.us).length) (c1),.slice B1 ((ins (aF.aS Z.us) (nd Z.ns k).id Z.us).length) (d1)],vI ((aF.aS Z.us)),vI 0]) (eF.read (.agg #[vI (Z.cH),vI ((max Z.aI ((Z.us.length:Int)+1))),.slice A1 ((ins (aF.aS Z.us) (nd Z.ns k).id Z.us).length) (c1),.slice B1 ((ins (aF.aS Z.us) (nd Z.ns k).id Z.us).length) (d1)]) (eF.read (.int .i64 ((aF.aS Z.us))) (eF.read (.int .i64 0) ⟨A1,c1,B1,d1,rfl,rfl⟩))))
  rintro _ _ ⟨A1,c1,B1,d1,rfl,rfl⟩ _ _ ⟨uw,rfl,rfl⟩
  refine kC [4] [] [(0,A_ 2 uw 4)] [(2,[(0,vI (Z.cH)),(1,vI ((max Z.aI ((Z.us.length:Int)+1)))),(2,.slice A1 ((ins (aF.aS Z.us) (nd Z.ns k).id Z.us).length) (c1)),(3,.slice B1 ((ins (aF.aS Z.us) (nd Z.ns k).id Z.us).length) (d1))])] (fF.cut (ι:=Unit) (bY:=λ(_:Unit)=>[(2,vP sW),(4,vP wo),(7,vP uw),(8,vI (aF.aS Z.us)),(23,vI 0)]) (dK:=λ(_:Unit)=>([zT4 A1 Z k c1,zT5 B1 Z k d1,zT6 uw Z A1 k c1 B1 d1,.abs R]++qI sW Z Y wo)) [4] KB ?_ rfl (λ_=>KB) ?_)
  ·exact jK 1 [8] [] (NL (MD () [2,4,7,8,23] [0,1,2,3,4,5]))
  rintro _
  refine fF.last KB (jK 1 [9] [] (NL (aB.np (NX (SR (av.ol (Φ:=λβ'=>cD β' A1 (bL (bn (ins (aF.aS Z.us) (nd Z.ns k).id Z.us)))) 0 [1,2,3,4,5] (eZ:=([zT5 B1 Z k d1,zT6 uw Z A1 k c1 B1 d1,.abs R]++qI sW Z Y wo)) rfl rfl KB (λF w h β' h1 h2=>cD.gU h h1 h2) (λβ1 cJ hH=>?_)))))))
  replace hR:=hR.le cJ
  replace aE:=aE.trans cJ
  refine av.ol (Φ:=λβ'=>cD β' B1 (bL (iZ (ins (aF.aS Z.us) (nd Z.ns k).id Z.us)))) 0 [1,2,3,4] (eZ:=([zT6 uw Z A1 k c1 B1 d1,.abs R]++qI sW Z Y wo)) rfl rfl KB (λF w h β' h1 h2=>cD.gU h h1 h2) (λkx fA hV=>?_)
  replace hR:=hR.le fA
  replace hH:=hH.le fA
  replace aE:=aE.trans fA
  exact jC 3 [] [(0,A_ 0 uw 4),(2,A_ 2 sW 4)] [(2,(adI Z A1 k c1 B1 d1))] (NS (jC 6 [5,6] [(0,A_ 2 sW 12),(3,A_ 3 wo 12)] [(3,([(0,.slice Y.A (Z.ns.length) (Y.c)),(1,.slice Y.G (Z.aH.length) (Y.cg)),(2,vI (Z.cH))]++adI Z A1 k c1 B1 d1++zT8 Z))] (eO [A_ 3 wo 12] aE ⟨⟨Y.A,Y.c,Y.L,Y.G,Y.cg,A1,c1,B1,d1⟩,by rw [OZ hf]<;>rfl,rfl,by rw [OZ hf];exact⟨⟨hR.g,hH,hV⟩,hR.n⟩⟩ [1])))
 refine aq.rz (S:=[.ay sW (rV Z Y) 45]) (yY [0,1,2,3,4,5,6,7,8] (oJ 14 [(false,15),(false,16),(false,17)] [(false,9),(true,10),(true,11),(true,12),(true,13)])) [1] (gT (oJ 14 [(false,15),(false,16),(false,17)] [(false,9),(true,10),(true,11),(true,12),(true,13)]) (adH sW wo Z Y k) [0,1,2,3,4,5,6,7,8] [(1,A_ 0 sW 4),(4,a_ 0 sW),(6,x_ k Z.ns.length (aQ.hd hR.n (i:=k) zc)),(8,r_ (aQ.rd hR.n (i:=k) zc (j:=0) rfl))] (oA.one (j:=14) (dj:=7) (R:=λf_ l_=>f_=[(23,vI 130),(22,vI 0),(21,.agg #[vI (Z.cH),vI (Z.aI),.slice Y.H (Z.us.length) (Y.ch),.slice Y.V (Z.us.length) (Y.cv)]),(10,.tuple #[.agg #[vI (Z.cH),vI (Z.aI),.slice Y.H (Z.us.length) (Y.ch),.slice Y.V (Z.us.length) (Y.cv)],vI 0,vI 130]),(20,.tuple #[.agg #[vI (Z.cH),vI (Z.aI),.slice Y.H (Z.us.length) (Y.ch),.slice Y.V (Z.us.length) (Y.cv)],vI 0,vI 130]),(2,vP sW),(4,vP wo),(12,.agg #[vI (Z.cH),vI (Z.aI),.slice Y.H (Z.us.length) (Y.ch),.slice Y.V (Z.us.length) (Y.cv)]),(19,vI ((nd Z.ns k).id))]/\l_=[]) [1] [(false,9,20),(true,10,10),(true,11,21),(true,12,22),(true,13,23)] (jt.of (ι:=Nat) (v:=λ(yC:Nat)=>vP yC) (l:=λ(yC:Nat)=>[.ay yC [vI 0,vI 0,.slice none (0) (0),.slice none (0) (0)] 43]) [20,10,21,22,23] rfl rfl rfl rfl ?_) ?_ ?_))
 ·intro u Aq
  exact jB 1 [7] (λyC=>.ay yC [vI 0,vI 0,.slice none (0) (0),.slice none (0) (0)] 43) (λyC=>NL (MD yC [7,20,10,21,22,23,2,4,12,19] [1,0]))
 ·refine eF.step (jt.of (ι:=Unit) (v:=λ(_:Unit)=>.tuple #[.agg #[vI (Z.cH),vI (Z.aI),.slice Y.H (Z.us.length) (Y.ch),.slice Y.V (Z.us.length) (Y.cv)],vI 0,vI 130]) (l:=λ(_:Unit)=>[]) [7] rfl rfl rfl rfl ?_) ?_
  ·intro u Aq
   exact gE [] (Zg Z.cH Z.aI Y.H Y.V Y.ch Y.cv Z.us (nd Z.ns k).id zc) (NL (MD () [20,7,2,4,12,19] [0]))
  rintro _ _ ⟨_,rfl,rfl⟩
  exact (eF.read (.tuple #[.agg #[vI (Z.cH),vI (Z.aI),.slice Y.H (Z.us.length) (Y.ch),.slice Y.V (Z.us.length) (Y.cv)],vI 0,vI 130]) (eF.read (.agg #[vI (Z.cH),vI (Z.aI),.slice Y.H (Z.us.length) (Y.ch),.slice Y.V (Z.us.length) (Y.cv)]) (eF.read (.int .i64 0) (eF.read (.int .i64 130) ⟨rfl,rfl⟩))))
 rintro _ _ ⟨rfl,rfl⟩ _ _ ⟨yC,rfl,rfl⟩
 refine kC [2] [] [(0,A_ 0 yC 4)] [(0,[(0,vI (Z.cH)),(1,vI (Z.aI)),(2,.slice Y.H (Z.us.length) (Y.ch)),(3,.slice Y.V (Z.us.length) (Y.cv))])] (fF.cut (ι:=Unit) (bY:=λ(_:Unit)=>[(2,vP sW),(4,vP wo),(7,vP yC),(8,vI 0),(23,vI 130)]) (dK:=λ(_:Unit)=>([.ay yC [vI (Z.cH),vI (Z.aI),.slice Y.H (Z.us.length) (Y.ch),.slice Y.V (Z.us.length) (Y.cv)] 43,.abs R]++qI sW Z Y wo)) [2] KB ?_ rfl (λ_=>KB) ?_)
 ·exact jK 1 [8] [] (NL (MD () [2,4,7,8,23] [0,1,2,3]))
 rintro _
 exact fF.last KB (jK 1 [9] [] (NL (aB.np (NX (SR (jC 3 [] [(0,A_ 0 yC 4),(2,A_ 2 sW 4)] [] (NS (jC 6 [5,6] [(0,A_ 2 sW 12),(3,A_ 3 wo 12)] [(3,(zC (rV Z Y)))] (eO [A_ 3 wo 12] aE ⟨Y,by rw [R7 hf]<;>rfl,rfl,by rw [R7 hf];exact hR⟩ [1])))))))))
end
end Go.Proofs.YtbnfiigafobejaaGreat
