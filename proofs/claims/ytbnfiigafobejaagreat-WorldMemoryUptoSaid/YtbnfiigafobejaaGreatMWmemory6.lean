/-
  PROVED HERE: lemmas and contracts of functions (texts of this repo, joined; what the claim does not use is left out): XN, We, Mc, XQ, Si, Pw, Ad, Pc, FP, FW, FA, Ae, FT, Dh, Aw, Ua, Ub, UA, UB, Ud, UC, UD, Ue, WG, Wl, Wf, WH, Wq, XM, Zg.
  CONDITIONS: as the theorems say.
-/
import Derived.Test.YtbnfiigafobejaaGreatMWmemory5
import Derived.ChangeMaps5
set_option maxRecDepth 100000
set_option maxHeartbeats 4000000
namespace Go.Proofs.YtbnfiigafobejaaGreat
section
open Go.RowKit Go.Maps bG aF
attribute [local irreducible] av bP aq aB
theorem Qo {β:Bs} (c:Nat):aX Tryz.prog β 42 #[.slice none 0 c] [] (λv l=>∃B cap,v=.slice B 0 cap/\l=[.abs (aG 53 13 B 0 cap [])]):=by
 exact SE Tryz.func42 Tryz.ntmps42 (λR=>SR (jK 1 [] [] (NZ (jK 2 [4] [] (NT (SR (jK 1 [2] [] (NN (aq.ret (aB.bE (aB.mem (λw hS=>(hS.mF (e:=53) (size:=13)).pick (ar:=[1,0]) (l':=[.abs (aG 53 13 none 0 0 ([])),.abs R]) rfl KB) (RT (.slice none (0) (0)) [0,1] (⟨none,0,rfl,rfl⟩)))))))))))))
theorem MV {β:Bs} (a:Addr) (c:Nat) (d:List aP) (hA:cD β (some a) (bO aL d)) (hl:d.length<=1048576):aX Tryz.prog β 42 #[.slice (some a) d.length c] [] (λv l=>∃B cap,v=.slice B d.length cap/\l=[.abs (aG 53 13 B d.length cap (bO aL d))]):=by
 exact SE Tryz.func42 Tryz.ntmps42 (λR=>SR (jK 1 [] [] (NZ (jK 2 [4] [] (NF (KX (SR (jB 1 [5] (λb1=>.ay b1 [] 53) (λb1=>av.mem (λw hS=>hS.oW (i:=1) (b:=b1) (cs:=[]) (e:=53) 13 0 KB rfl Pd) (jK 1 [6] [] (av.append 1 (d:=(some 7)) (t:=35) (e:=53) (z:=.agg #[vI 0,vI 0,vI 0,.string ⟨#[]⟩,.string ⟨#[]⟩,.slice none (0) (0),vI 0,vI 0,vI 0,vI 0,vI 0,vI 0,vI 0]) (size:=13) (bytes:=136) (n:=0) (cap:=0) (A:=some ⟨b1,0,none⟩) (xs:=[]) (s:=(.tmp 5)) (x:=(.tmp 6)) (ats:=#[35,35]) (A':=(some a)) (m:=d.length) (c':=c) (news:=(bO aL d)) (λ_=>KB) rfl KB (λ_=>KB) (λ_=>KB) Tryz.underlying35 KB rfl Pd (yB (f:=aL) (s:=13) (λ_=>rfl) _) (xM (V9) _ _) (hA.src) (by unfold maxLen;omega) zc (λA2 c3=>av.cO 1 (p:=.abs (aG 53 13 A2 (0+d.length) c3 ([]++(bO aL d)))) (p':=.abs (aG 53 13 A2 d.length c3 (bO aL d))) KB (by rw [ahy,List.nil_append]) (sl 7 (.slice A2 (0+d.length) (c3)) (.slice A2 (d.length) (c3)) (by rw [ahy]) (jK 1 [2] [] (eN (v:=(.slice A2 (d.length) (c3))) ⟨A2,c3,rfl,rfl⟩ [1,0])))))))))))))))
theorem MW {β:Bs} (A:Option Addr) (c:Nat) (d:List aP) (hA:cD β A (bO aL d)) (hl:d.length<=1048576):aX Tryz.prog β 42 #[.slice A d.length c] [] (λv l=>∃B cap,v=.slice B d.length cap/\l=[.abs (aG 53 13 B d.length cap (bO aL d))]):=by
 cases A with
 |some a=>exact MV a c d hA hl
 |none=>
   cases d with
   |nil=>exact Qo c
   |cons b r=>have h:=(JH (s:=13) (i:=0) (j:=0) hA (λ_=>rfl) rfl rfl).1;cases h
theorem UF {β:Bs} (A:Option Addr) (c:Nat) (d:List aP) (hl:d.length<=1048576):aX Tryz.prog β 42 #[.slice A d.length c] [tR A c d] (λv l=>∃B cap,v=.slice B d.length cap/\l=[.abs (aG 53 13 B d.length cap (bO aL d)),tR A c d]):=
 (aX.sZ (pre:=[]) (R:=[tR A c d]) (λ_ h=>MW A c d (let ⟨_,h1,h2⟩:=h.get 0 rfl;cD.gU h1 h2 rfl) hl)).mono (by rintro v l ⟨l0,⟨B,cap,rfl,rfl⟩,rfl⟩;exact⟨B,cap,rfl,rfl⟩)
theorem UG {β:Bs} (S:bB) (L:HL) (w o q f m t am an km kn:Nat) (Z:AZ) (fs:List dI) (xs:List dO) (au:Int) (tr:List aP) (tA:Option Addr) (tC:Nat) (hn:tr.length<=1048576) (hT:yO β tr) :
 aX Tryz.prog β 16 #[vP w] [.ay w [.iface 37 (vP w),vP f,.iface 108 (vP o),vI (au),.slice tA (tr.length) (tC)] 79,.ay o [.iface 109 (vP q),vP f,vI (au),.map (some am),vI (((tr.length:Nat):Int))] 113,.ay q [.iface 76 (vP f),.map (some km),vI (((tr.length:Nat):Int))] 111,.abs (bD Tryz.prog 3 am (ju Z xs) an),.abs (bD Tryz.prog 3 km (gh fs) kn),.abs (aG 53 13 tA tr.length tC (bO aL tr)),.ay f [vI (S.X.cN),vI (S.X.cB),vI (S.X.cH),vI (S.X.cS),vI (S.X.cZ),.map (some m),vP t,vI (S.X.last),vI (S.X.ah),vI (S.X.used)] 135,.abs (bD Tryz.prog 3 m (cQ (cM L S.ar)) S.ar.length),.abs (fD 182 t S.X.cH S.aI (cM L S.us)),.abs (aW (d8 S.O L)),.abs (aW (dN S.O L)),.abs (aW (fM S.O L))] (λv l=>∃A' c' os,v=.slice A' tr.length c'/\l=[.ay w [.iface 37 (vP w),vP f,.iface 108 (vP o),vI (au),.slice tA (tr.length) (tC)] 79,.ay o [.iface 109 (vP q),vP f,vI (au),.map (some am),vI (((tr.length:Nat):Int))] 113,.ay q [.iface 76 (vP f),.map (some km),vI (((tr.length:Nat):Int))] 111,.abs (bD Tryz.prog 3 am (ju Z xs) an),.abs (bD Tryz.prog 3 km (gh fs) kn),.abs (aG 53 13 tA tr.length tC (bO aL tr)),.ay f [vI (S.X.cN),vI (S.X.cB),vI (S.X.cH),vI (S.X.cS),vI (S.X.cZ),.map (some m),vP t,vI (S.X.last),vI (S.X.ah),vI (S.X.used)] 135,.abs (bD Tryz.prog 3 m (cQ (cM L S.ar)) S.ar.length),.abs (fD 182 t S.X.cH S.aI (cM L S.us)),.abs (aW (d8 S.O L)),.abs (aW (dN S.O L)),.abs (aW (fM S.O L))]++trO A' c' os/\os.map bare=tr.map bare):=by
 refine SE Tryz.func16 Tryz.ntmps16 (λR=>SR (jK 1 [] [] (NS (jK 4 [8] [(3,a_ 0 w)] (gL [5] (UF tA tC tr zc) ?_)))))
 rintro _ _ ⟨B,cp,rfl,rfl⟩
 refine jK 1 [3] [] (NZ (av.mem (eZ:=[.abs (aG 53 13 B tr.length cp (bO aL tr)),.abs (aG 53 13 tA tr.length tC (bO aL tr)),.ay w [.iface 37 (vP w),vP f,.iface 108 (vP o),vI (au),.slice tA (tr.length) (tC)] 79,.ay o [.iface 109 (vP q),vP f,vI (au),.map (some am),vI ↑tr.length] 113,.ay q [.iface 76 (vP f),.map (some km),vI ↑tr.length] 111,.abs (bD Tryz.prog 3 am (ju Z xs) an),.abs (bD Tryz.prog 3 km (gh fs) kn),pF f m t S.X,pI m L S.ar,pT t S.X.cH S.aI L S.us,pO S.O L,pD S.O L,pE S.O L,.abs R,.abs (iL (uU []) 0)]) (λw hS=>hS.EA (uU [])) (jK 3 [11,12] [] (NN (aq.block (lJ (ι:=Nat×(List aP)) (λ(i,os)=>(i<=tr.length)/\(os.map bare=(tr.take i).map bare)/\(os.length=i)) (λ(i,os)=>tr.length-i) (λ(i,os)=>[(3,.slice B (tr.length) (cp)),(11,vI ↑tr.length),(12,vI ↑i)]) (λ(i,os)=>[.abs (aG 53 13 tA tr.length tC (bO aL tr)),.ay w [.iface 37 (vP w),vP f,.iface 108 (vP o),vI (au),.slice tA (tr.length) (tC)] 79,.ay o [.iface 109 (vP q),vP f,vI (au),.map (some am),vI ↑tr.length] 113,.ay q [.iface 76 (vP f),.map (some km),vI ↑tr.length] 111,.abs (bD Tryz.prog 3 am (ju Z xs) an),.abs (bD Tryz.prog 3 km (gh fs) kn),pF f m t S.X,pI m L S.ar,pT t S.X.cH S.aI L S.us,pO S.O L,pD S.O L,pE S.O L,.abs (aG 53 13 B tr.length cp (bO aL (os++tr.drop i))),.abs (iL (uU os) i),.abs R]) (0,[]) [1,2,3,4,5,6,7,8,9,10,11,12,0,14,13] (⟨ahj _,rfl,rfl⟩) ?_))))))
 rintro⟨i,os⟩ ⟨hi,hm,hol⟩
 show aq _ _ _ _ [(3,.slice B (tr.length) (cp)),(11,vI ↑tr.length),(12,vI ↑i)] [.abs (aG 53 13 tA tr.length tC (bO aL tr)),.ay w [.iface 37 (vP w),vP f,.iface 108 (vP o),vI (au),.slice tA (tr.length) (tC)] 79,.ay o [.iface 109 (vP q),vP f,vI (au),.map (some am),vI ↑tr.length] 113,.ay q [.iface 76 (vP f),.map (some km),vI ↑tr.length] 111,.abs (bD Tryz.prog 3 am (ju Z xs) an),.abs (bD Tryz.prog 3 km (gh fs) kn),pF f m t S.X,pI m L S.ar,pT t S.X.cH S.aI L S.us,pO S.O L,pD S.O L,pE S.O L,.abs (aG 53 13 B tr.length cp (bO aL (os++tr.drop i))),.abs (iL (uU os) i),.abs R] _
 refine SR (jK 1 [13] [] (NN (aq.seq (cP ((((i:Nat):Int):Int)<(((tr.length:Nat):Int):Int)) (λsB=>?_) (λsB=>?_)))))
 ·refine KX (aq.seq (aq.block (SR (jK 2 [4] [] (NN (aq.region ?_))))))
  have hin:i<tr.length:=zc
  refine av.tell (p:=∃g,B=some ⟨g,0,none⟩) (λw hS=>let ⟨F,h⟩:=hS.get (i:=12) rfl;aG.head h zc) (λ⟨g4,hg⟩=>?_)
  subst hg
  refine jK 7 [15,16,21] [(4,p_ ⟨[],some i,none,none,some (.pointer (some ⟨g4,i*13,none⟩))⟩ [(Value.pointer (some ⟨g4,0+i*13,none⟩))=(.pointer (some ⟨g4,i*13,none⟩)),((i:Nat):Int)=((i:Nat):Int),i<tr.length,(⟨g4,0,none⟩:Addr).spot=none] ⟨ahd,rfl,hin,rfl,trivial⟩),(6,p_ ⟨[.view 12 (.slice (bK tr i).dA ((bK tr i).data.length) ((bK tr i).dC))],none,none,none,none⟩ [(∀F w,(aG 53 13 (some ⟨g4,0,none⟩) tr.length cp (bO aL (os++tr.drop i))).h F w->w.cell? ⟨g4,i*13+5,none⟩=some (.slice (bK tr i).dA ((bK tr i).data.length) ((bK tr i).dC)))] ⟨aG.cell (aei hol hin Pd rfl),trivial⟩)] (gL [] (xH (bK tr i).dA (bK tr i).dC (bK tr i).data (hT _ (wZ hin)).1 (ahk (hT _ (wZ hin)).2 Pd)) ?_)
  rintro _ _ ⟨B5,p6,rfl,rfl⟩
  exact jK 2 [24] [(0,p_ ⟨[],some i,none,none,some (.pointer (some ⟨g4,i*13,none⟩))⟩ [(Value.pointer (some ⟨g4,0+i*13,none⟩))=(.pointer (some ⟨g4,i*13,none⟩)),((i:Nat):Int)=((i:Nat):Int),i<tr.length,(⟨g4,0,none⟩:Addr).spot=none] ⟨ahd,rfl,hin,rfl,trivial⟩)] (av.Ei 13 (i*13+5) (d:=none) (T:=51) (e:=53) (size:=13) (n:=tr.length) (cap:=cp) (g:=g4) (xs:=(bO aL (os++tr.drop i))) (u:=.slice B5 ((bK tr i).data.length) (p6)) (a:=(.tmp 24)) (y:=(.tmp 22)) (λ_=>KB) KB (λ_=>KB) (λ_=>KB) KB rfl (by rw [yB (f:=aL) (s:=13) (λ_=>rfl),aej hol zc];omega) (av.cO 13 (p':=.abs (aG 53 13 (some ⟨g4,0,none⟩) tr.length cp (bO aL ((os++[(dJ B5 p6 (bK tr i))])++tr.drop (i+1))))) rfl (ahg (λx=>HP.abs (aG 53 13 _ _ _ x)) (aek hol hin)) (LX (aq.region (av.mem (eZ:=[.abs (iL (uU (os++[(dJ B5 p6 (bK tr i))])) (i+1)),.abs (aG 53 13 tA tr.length tC (bO aL tr)),.ay w [.iface 37 (vP w),vP f,.iface 108 (vP o),vI (au),.slice tA (tr.length) (tC)] 79,.ay o [.iface 109 (vP q),vP f,vI (au),.map (some am),vI ↑tr.length] 113,.ay q [.iface 76 (vP f),.map (some km),vI ↑tr.length] 111,.abs (bD Tryz.prog 3 am (ju Z xs) an),.abs (bD Tryz.prog 3 km (gh fs) kn),pF f m t S.X,pI m L S.ar,pT t S.X.cH S.aI L S.us,pO S.O L,pD S.O L,pE S.O L,.abs (aG 53 13 (some ⟨g4,0,none⟩) tr.length cp (bO aL ((os++[(dJ B5 p6 (bK tr i))])++tr.drop (i+1)))),.abs R]) (λw hS=>hS.tK (R':=(uU (os++[(dJ B5 p6 (bK tr i))]))) (i:=14) (j:=0) (ar:=[1,2,3,4,5,6,7,8,9,10,11,12,13,15]) rfl rfl KB rfl (λx hx=>aai hol hx) ((aaj hol).symm)) (jK 2 [12] [(0,wJ ((i:Int)+1) (↑(i+1)))] (NL (tJ ((i+1),(os++[(dJ B5 p6 (bK tr i))])) [1,2,3,4,5,6,7,8,9,10,11,12,13,0,14] (⟨zc,ael hm hin acy,by rw [ahl,hol];rfl⟩)))))))))
 refine XX (SR ?_)
 have hos:os++tr.drop i=os:=by rw [show i=tr.length by omega,List.drop_length,List.append_nil]
 have hmt:os.map bare=tr.map bare:=by rw [hm,show i=tr.length by omega,ahG]
 have fV:os.length=tr.length:=zc
 exact av.cO 12 (p:=.abs (aG 53 13 B tr.length cp (bO aL (os++tr.drop i)))) (p':=.abs (aG 53 13 B os.length cp (bO aL os))) KB (by rw [hos,fV]) (av.cO 13 (p:=.abs (iL (uU os) i)) (p':=.abs (iL (uU os) os.length)) KB (by rw [hol]) (jK 2 [2] [] (eN (v:=(.slice B (tr.length) (cp))) ⟨B,cp,os,rfl,rfl,hmt⟩ [1,2,3,4,5,0,6,7,8,9,10,11,12,13,14])))
theorem MX {β:Bs} (A1 A2:Option Addr) (c1 c2 n:Nat) (os ms tr:List aP) (h1:nw β A1 os) (h2:nw β A2 ms) (h1m:os.map bare=tr.map bare) (h2m:ms.map bare=tr.map bare) (hn:tr.length=n) (hn2:n<=1048576) :
 aX Tryz.prog β 15 #[.slice A1 (n) (c1),.slice A2 (n) (c2)] [] (λv l=>v=.bool true/\l=[]):=by
 have ho1:=zO h1m
 have ho2:=zO h2m
 refine SE Tryz.func15 Tryz.ntmps15 (λR=>SR (jK 1 [] [] (NZ (jK 5 [10] [(4,p_ ⟨[],none,none,none,some (.bool false)⟩ [(Value.bool (!decide ((((n:Nat):Int):Int)=(((n:Nat):Int):Int))))=(.bool false)] ⟨ahd,trivial⟩)] (NF (KX (SQ (jK 1 [5] [] (NN (aq.block (lJ (ι:=Nat) (λ(i:Nat)=>(i<=n)) (λ(i:Nat)=>n-i) (λ(i:Nat)=>[(0,.slice A1 (n) (c1)),(1,.slice A2 (n) (c2)),(5,vI ↑i)]) (λ(i:Nat)=>[.abs R]) 0 [0] (ahj _) ?_)))))))))))
 rintro i hi
 show aq _ _ _ _ [(0,.slice A1 (n) (c1)),(1,.slice A2 (n) (c2)),(5,vI ↑i)] [.abs R] _
 exact SQ (jK 4 [14] [] (NN (cP ((((i:Nat):Int):Int)<(((n:Nat):Int):Int)) (λmz=>KX (aq.seq (aq.block (aq.seq (rQ (jQ 8 [20,24] [(2,x_ i n (nw.hd h1 (i:=i) zc)),(3,p_ ⟨[.old (.int .i64 ((bK os i).op)),.old (.int .i64 ((bK os i).aN)),.old (.int .i64 ((bK os i).other)),.old (.string (bK os i).name),.old (.string (bK os i).text),.old (.slice (bK os i).dA ((bK os i).data.length) ((bK os i).dC)),.old (.int .i64 ((bK os i).mode)),.old (.int .i64 ((bK os i).bg)),.old (.int .i64 ((bK os i).bh)),.old (.int .i64 ((bK os i).aU)),.old (.int .i64 ((bK os i).aJ)),.old (.int .i64 ((bK os i).code)),.old (.int .i64 ((bK os i).answer))],none,none,none,none⟩ [(Rd β ⟨(br A1),bq A1+i*13+12,none⟩ (vI ((bK os i).answer))),(Rd β ⟨(br A1),bq A1+i*13+11,none⟩ (vI ((bK os i).code))),(Rd β ⟨(br A1),bq A1+i*13+10,none⟩ (vI ((bK os i).aJ))),(Rd β ⟨(br A1),bq A1+i*13+9,none⟩ (vI ((bK os i).aU))),(Rd β ⟨(br A1),bq A1+i*13+8,none⟩ (vI ((bK os i).bh))),(Rd β ⟨(br A1),bq A1+i*13+7,none⟩ (vI ((bK os i).bg))),(Rd β ⟨(br A1),bq A1+i*13+6,none⟩ (vI ((bK os i).mode))),(Rd β ⟨(br A1),bq A1+i*13+5,none⟩ (.slice (bK os i).dA ((bK os i).data.length) ((bK os i).dC))),(Rd β ⟨(br A1),bq A1+i*13+4,none⟩ (.string (bK os i).text)),(Rd β ⟨(br A1),bq A1+i*13+3,none⟩ (.string (bK os i).name)),(Rd β ⟨(br A1),bq A1+i*13+2,none⟩ (vI ((bK os i).other))),(Rd β ⟨(br A1),bq A1+i*13+1,none⟩ (vI ((bK os i).aN))),(Rd β ⟨(br A1),bq A1+i*13,none⟩ (vI ((bK os i).op)))] ⟨nw.rd h1 (i:=i) zc (j:=12) rfl,nw.rd h1 (i:=i) zc (j:=11) rfl,nw.rd h1 (i:=i) zc (j:=10) rfl,nw.rd h1 (i:=i) zc (j:=9) rfl,nw.rd h1 (i:=i) zc (j:=8) rfl,nw.rd h1 (i:=i) zc (j:=7) rfl,nw.rd h1 (i:=i) zc (j:=6) rfl,nw.rd h1 (i:=i) zc (j:=5) rfl,nw.rd h1 (i:=i) zc (j:=4) rfl,nw.rd h1 (i:=i) zc (j:=3) rfl,nw.rd h1 (i:=i) zc (j:=2) rfl,nw.rd h1 (i:=i) zc (j:=1) rfl,nw.rd h1 (i:=i) zc (j:=0) rfl,trivial⟩),(6,x_ i n (nw.hd h2 (i:=i) zc)),(7,p_ ⟨[.old (.int .i64 ((bK ms i).op)),.old (.int .i64 ((bK ms i).aN)),.old (.int .i64 ((bK ms i).other)),.old (.string (bK ms i).name),.old (.string (bK ms i).text),.old (.slice (bK ms i).dA ((bK ms i).data.length) ((bK ms i).dC)),.old (.int .i64 ((bK ms i).mode)),.old (.int .i64 ((bK ms i).bg)),.old (.int .i64 ((bK ms i).bh)),.old (.int .i64 ((bK ms i).aU)),.old (.int .i64 ((bK ms i).aJ)),.old (.int .i64 ((bK ms i).code)),.old (.int .i64 ((bK ms i).answer))],none,none,none,none⟩ [(Rd β ⟨(br A2),bq A2+i*13+12,none⟩ (vI ((bK ms i).answer))),(Rd β ⟨(br A2),bq A2+i*13+11,none⟩ (vI ((bK ms i).code))),(Rd β ⟨(br A2),bq A2+i*13+10,none⟩ (vI ((bK ms i).aJ))),(Rd β ⟨(br A2),bq A2+i*13+9,none⟩ (vI ((bK ms i).aU))),(Rd β ⟨(br A2),bq A2+i*13+8,none⟩ (vI ((bK ms i).bh))),(Rd β ⟨(br A2),bq A2+i*13+7,none⟩ (vI ((bK ms i).bg))),(Rd β ⟨(br A2),bq A2+i*13+6,none⟩ (vI ((bK ms i).mode))),(Rd β ⟨(br A2),bq A2+i*13+5,none⟩ (.slice (bK ms i).dA ((bK ms i).data.length) ((bK ms i).dC))),(Rd β ⟨(br A2),bq A2+i*13+4,none⟩ (.string (bK ms i).text)),(Rd β ⟨(br A2),bq A2+i*13+3,none⟩ (.string (bK ms i).name)),(Rd β ⟨(br A2),bq A2+i*13+2,none⟩ (vI ((bK ms i).other))),(Rd β ⟨(br A2),bq A2+i*13+1,none⟩ (vI ((bK ms i).aN))),(Rd β ⟨(br A2),bq A2+i*13,none⟩ (vI ((bK ms i).op)))] ⟨nw.rd h2 (i:=i) zc (j:=12) rfl,nw.rd h2 (i:=i) zc (j:=11) rfl,nw.rd h2 (i:=i) zc (j:=10) rfl,nw.rd h2 (i:=i) zc (j:=9) rfl,nw.rd h2 (i:=i) zc (j:=8) rfl,nw.rd h2 (i:=i) zc (j:=7) rfl,nw.rd h2 (i:=i) zc (j:=6) rfl,nw.rd h2 (i:=i) zc (j:=5) rfl,nw.rd h2 (i:=i) zc (j:=4) rfl,nw.rd h2 (i:=i) zc (j:=3) rfl,nw.rd h2 (i:=i) zc (j:=2) rfl,nw.rd h2 (i:=i) zc (j:=1) rfl,nw.rd h2 (i:=i) zc (j:=0) rfl,trivial⟩)] (mG [] [0] (.bool true) (Qi (bK os i) (bK ms i) ((Gi h1m i).trans (Gi h2m i).symm) (h1.dat _ (wZ zc)).1 (h2.dat _ (wZ zc)).1 (ahk (h1.dat _ (wZ zc)).2 Pd)) (jQ 1 [26] [] (NQ (NX (CF (KX (aq.region (jK 3 [5] [(1,wJ ((i:Int)+1) (↑(i+1)))] (NL (tJ ((i+1)) [0] zc)))))))))))))))) (λmz=>XX (zR (v:=(.bool true)) ⟨rfl,rfl⟩ [0])))))
end
section
open Go.RowKit Go.Maps bG aF
section e
variable {β:Bs} {fs:List dI} {xs:List dO} {au:Int} {ns:List aO} {X:FM}
abbrev newP (β:Bs) (B:Option Addr) (ns:List aO) (Bf:Option Addr) (bf:Nat) (fs:List dI) (Ba:Option Addr) (ba:Nat) (xs:List dO):List HP:=[.abs (j5 β (λβ'=>∃K,aQ β' B ns K)),.abs (aG 66 2 Bf fs.length bf (bO iJ fs)),.abs (aG 68 5 Ba xs.length ba (bO jP xs))]
abbrev UH (B:Option Addr) (n cp:Nat) (au:Int) (X:FM) (Bf:Option Addr) (nf bf:Nat) (Ba:Option Addr) (na ba:Nat):Array Value:=#[.agg #[.slice B n cp],.int .i64 au,.agg #[.int .i64 X.cN,.int .i64 X.cB,.int .i64 X.cH,.int .i64 X.cS,.int .i64 X.cZ],.agg #[.slice Bf nf bf,.slice Ba na ba]]
theorem Qp {Bf Ba:Option Addr} (B:Option Addr) (cp:Nat) (hB:j7 ns 1048576) (bf ba:Nat) (oQ:kR fs 2097152) (ef:kZ xs 1048576) :
 cr Tryz.prog β 18 (UH B ns.length cp au X Bf fs.length bf Ba xs.length ba) (newP β B ns Bf bf fs Ba ba xs) (λβ' v l=>(fP X ns au≠0/\v=.tuple #[.pointer none,.int .i64 (fP X ns au)]/\l=[])\/(fP X ns au=0/\∃(N:yQ X ns) (G:WG) (V:WV),v=.tuple #[vP G.w,.int .i64 0]/\l=[wA G fs xs au N.1 V []]/\pN β' G.Z xs)):=
 cr.Nb λβ1 _ ⟨K,hG⟩=>cr.adA λkx hL=>by
  obtain⟨F,h1,h2⟩:=hL.get 0 rfl
  obtain⟨F',h1',h2'⟩:=hL.get 1 rfl
  exact (SH B cp (hG.le hL.le) hB bf ba (cD.gU h1 h2 rfl) oQ (cD.gU h1' h2' rfl) ef).mono (by
   rintro β' v l _ (h|⟨h,N,G,V,q1,q2,q3⟩)
   ·exact .inl h
   exact .inr ⟨h,N,G,V,q1,q2,q3.at_⟩)
theorem aau (h0:fP X ns au=0) {Bf Ba:Option Addr} (B:Option Addr) (cp:Nat) (hB:j7 ns 1048576) (bf ba:Nat) (oQ:kR fs 2097152) (ef:kZ xs 1048576) :
 aX Tryz.prog β 18 (UH B ns.length cp au X Bf fs.length bf Ba xs.length ba) (newP β B ns Bf bf fs Ba ba xs) (λv l=>∃(N:yQ X ns) (G:WG) (V:WV),v=.tuple #[vP G.w,.int .i64 0]/\l=[.abs (j5 β (λβ'=>pN β' G.Z xs)),wA G fs xs au N.1 V []]):=
 (cr.GJ (ι:=yQ X ns×WG×WV) (vv:=λx=>.tuple #[vP x.2.1.w,.int .i64 0]) (ll:=λx=>[wA x.2.1 fs xs au x.1.1 x.2.2 []]) (Φ:=λx β'=>pN β' x.2.1.Z xs)
  ((Qp (X:=X) B cp hB bf ba oQ ef).mono (by
    rintro β' v l _ (⟨h,_⟩|⟨_,N,G,V,h1,h2,h3⟩)
    ·exact ahh h0 h
    exact⟨(N,G,V),h1,h2,h3⟩))).mono (by rintro v l ⟨⟨N,G,V⟩,h1,h2⟩;exact⟨N,G,V,h1,h2⟩)
theorem MH (h0:¬fP X ns au=0) {Bf Ba:Option Addr} (B:Option Addr) (cp:Nat) (hB:j7 ns 1048576) (bf ba:Nat) (oQ:kR fs 2097152) (ef:kZ xs 1048576) :
 aX Tryz.prog β 18 (UH B ns.length cp au X Bf fs.length bf Ba xs.length ba) (newP β B ns Bf bf fs Ba ba xs) (λv l=>v=.tuple #[.pointer none,.int .i64 (fP X ns au)]/\l=[]):=
 ((Qp (X:=X) B cp hB bf ba oQ ef).mono (by
  rintro β' v l _ (⟨_,h1,h2⟩|⟨h,_⟩)
  ·exact⟨h1,h2⟩
  exact ahh h h0)).adB
end e
section tr
variable {os tr:List aP} {A:Option Addr} {cp:Nat} {β:Bs} {fs:List dI} {xs:List dO} {au:Int} {S:bB} {V:WV} {G:WG} {ns:List aO} {X:FM}
theorem Kb (hn:tr.length<=1048576) (hT:yO β tr):aX Tryz.prog β 16 #[vP G.w] [wA G fs xs au S V tr] (λv l=>∃A' c' os,v=.slice A' tr.length c'/\l=[wA G fs xs au S V tr]++trO A' c' os/\os.map bare=tr.map bare):=by
 intro R w hS
 have h1:aR β ([.abs R]++[wA G fs xs au S V tr]) w:=aR.turn hS
 refine (UG S V.L G.w G.o G.q G.f G.m G.t G.am G.an G.km G.kn G.Z fs xs au tr V.A V.c hn hT R w (aR.turn (aR.su h1))).mono ?_
 rintro e w' ⟨v,l,h2,⟨A,cp,os,h3,rfl,h6⟩,h4⟩
 refine⟨v,_,h2,⟨A,cp,os,h3,rfl,h6⟩,?_⟩
 rw [ahD] at h4
 have h5:=(aR.turn h4).gS
 rw [ahD] at h5 ⊢
 exact aR.turn h5
theorem mX.trB {β':Bs} (h:mX β (trO A cp os) β') (hl:∀c∈os,c.data.length<=1048576):nw β' A os:=by
 obtain⟨F,h1,h2⟩:=h.get 0 rfl
 obtain⟨F',⟨φ,k1,_,k3⟩,h4⟩:=h.get 1 rfl
 refine⟨cD.gU h1 h2 rfl,λc hc=>⟨?_,hl c hc⟩⟩
 obtain⟨i,hi,e⟩:=ahW hc
 have e2:bK os i=c:=by unfold bK;rw [ahv,ahs hi];exact e
 rw [←e2]
 exact cD.gU (k1 i hi) (λk hk=>h4 k ((k3 k).2 ⟨i,hi,hk⟩)) rfl
theorem XA (hn:tr.length<=1048576) (hT:yO β tr):cr Tryz.prog β 16 #[vP G.w] [wA G fs xs au S V tr] (λβ' v l=>∃A' c' os,v=.slice A' tr.length c'/\l=[wA G fs xs au S V tr]/\nw β' A' os/\os.map bare=tr.map bare):=
 (Kb hn hT).UA (by
  rintro v l ⟨A',c',os,rfl,rfl,hm⟩
  refine⟨_,_,rfl,λβ' h=>⟨A',c',os,rfl,rfl,h.trB (λc hc=>?_),hm⟩⟩
  obtain⟨i,hi,e⟩:=ahW hc
  have e2:bK os i=c:=by unfold bK;rw [ahv,ahs hi];exact e
  rw [←e2,Fz (Gi hm i)]
  exact (hT _ (wZ (by rw [←zO hm];exact hi))).2)
theorem aav (h0:fP X ns au=0) {Bf Ba:Option Addr} (B:Option Addr) (cp:Nat) (hB:j7 ns 1048576) (bf ba:Nat) (oQ:kR fs 2097152) (ef:kZ xs 1048576) :
 aX Tryz.prog β 18 (UH B ns.length cp au X Bf fs.length bf Ba xs.length ba) (newP β B ns Bf bf fs Ba ba xs) (λv l=>∃(N:yQ X ns) (G:WG) (V:WV),v=.tuple #[vP G.w,.int .i64 0]/\l=[.abs (j5 β (λβ'=>pN β' G.Z xs)),wA G fs xs au N.1 V [],.abs (aG 66 2 Bf fs.length bf (bO iJ fs)),.abs (aG 68 5 Ba xs.length ba (bO jP xs))]):=
 (cr.GJ (ι:=yQ X ns×WG×WV) (vv:=λx=>.tuple #[vP x.2.1.w,.int .i64 0]) (ll:=λx=>[wA x.2.1 fs xs au x.1.1 x.2.2 [],.abs (aG 66 2 Bf fs.length bf (bO iJ fs)),.abs (aG 68 5 Ba xs.length ba (bO jP xs))]) (Φ:=λx β'=>pN β' x.2.1.Z xs)
  (cr.Nb λβ1 _ ⟨K,hG⟩=>(cr.abA (pre:=[]) (R:=[.abs (aG 66 2 Bf fs.length bf (bO iJ fs)),.abs (aG 68 5 Ba xs.length ba (bO jP xs))]) (Φ:=λγ v l=>∃(N:yQ X ns) (G:WG) (V:WV),v=.tuple #[vP G.w,.int .i64 0]/\l=[wA G fs xs au N.1 V []]/\pN γ G.Z xs) (λkx hL=>by
   obtain⟨F,h1,h2⟩:=hL.get 0 rfl
   obtain⟨F',h1',h2'⟩:=hL.get 1 rfl
   refine (SH B cp (hG.le hL.le) hB bf ba (cD.gU h1 h2 rfl) oQ (cD.gU h1' h2' rfl) ef).mono ?_
   rintro β' v l _ (⟨h,_⟩|⟨_,N,G,V,q1,q2,q3⟩)
   ·exact ahh h0 h
   ·exact⟨N,G,V,q1,q2,q3.nb⟩) (by
   rintro a b v l g ⟨N,G,V,q1,q2,q3⟩
   exact⟨N,G,V,q1,q2,q3.le g⟩)).mono (by
    rintro β' v l _ ⟨l0,⟨N,G,V,q1,rfl,q3⟩,rfl⟩
    exact⟨(N,G,V),q1,rfl,q3⟩))).mono (by rintro v l ⟨⟨N,G,V⟩,h1,h2⟩;exact⟨N,G,V,h1,h2⟩)
end tr
end
section
open Go.RowKit Go.Maps bG aF
attribute [local irreducible] av bP aq aB
theorem Qq {β:Bs} (c:aP) (hD:bJ β c.dA c.data) (hl:c.data.length<=1048576) :
 aX Tryz.prog β 12 #[.agg ⟨aL c⟩] [] (λv l=>∃B p,v=.agg ⟨aL (dJ B p c)⟩/\l=[.abs (aG 5 1 B c.data.length p (dL c.data))]):=by
 refine SE Tryz.func12 Tryz.ntmps12 (λR=>SR (jB 1 [1] (λb1=>.ay b1 (aL c) 53) (λb1=>jB 1 [2] (λb2=>.ay b2 [vI 0,vI 0,vI 0,.string ⟨#[]⟩,.string ⟨#[]⟩,.slice none (0) (0),vI 0,vI 0,vI 0,vI 0,vI 0,vI 0,vI 0] 53) (λb2=>NS (jK 2 [4] [(1,a_ 1 b1)] (gL [] (qg c.dA c.dC c.data hD (ahk hl Pd)) ?_))))))
 rintro _ _ ⟨B,p,rfl,rfl⟩
 exact jC 2 [] [(1,a_ 2 b1)] [(2,[(5,.slice B (c.data.length) (p))])] (NS (jC 2 [] [(0,A_ 2 b1 13),(1,A_ 3 b2 13)] [(3,(zC (aL (fk c B p))))] (eS (v:=(.agg ⟨aL (fk c B p)⟩)) [A_ 3 b2 13] ⟨B,p,rfl,rfl⟩)))
end
section
open Go.RowKit Go.Maps bG aF
noncomputable section
def oP (R:RS):Nat->List ByteArray->Except Int (Nat×ByteArray)
 |_,[]=>.error 170
 |d,[p]=>if (nd R.ns d).id∈R.aH then .error 170 else .ok (d,p)
 |d,p::q::r=>
   if 0<=bZ R.ns d p then
    if (nd R.ns (bZ R.ns d p).toNat).kind=3 then .error 174
    else if (nd R.ns (bZ R.ns d p).toNat).kind=1 then .error 173
    else oP R (bZ R.ns d p).toNat (q::r)
   else .error 170
def mQ (R:RS) (d:Nat) (path:ByteArray):Except Int (Nat×ByteArray):=if ∀p∈bS path,cA p then oP R d (bS path) else .error 95
def fo (R:RS) (top d:Nat) (name:ByteArray) (a:dO):RS×Int:=
 if a.op=1 then
  let m:=bR R d name ⟨0,1,420,0,0,0,0,[],⟨#[]⟩,[]⟩
  if m.2=0 then ((jT m.1 (m.1.ns.length-1) a.text.data.toList).1,0) else (R,m.2)
 else if a.op=2 then bR R d name ⟨0,2,493,0,0,0,0,[],⟨#[]⟩,[]⟩
 else if a.op=3 then bR R d name ⟨0,3,511,0,0,0,0,[],a.text,[]⟩
 else if a.op=4 then iH R d name false
 else if a.op=5 then iH R d name true
 else if a.op=6 then match mQ R top a.to with
  |.error e=>(R,e)
  |.ok (to,aD)=>ia R d name to aD
 else if 0<=bZ R.ns d name then
  if (nd R.ns (bZ R.ns d name).toNat).kind=3 then (R,174)
  else if (nd R.ns (bZ R.ns d name).toNat).kind=2 then (R,172)
  else ((jT R (bZ R.ns d name).toNat a.text.data.toList).1,(jT R (bZ R.ns d name).toNat a.text.data.toList).2.2)
 else (R,170)
def mw (R:RS) (au:Int) (a:dO):RS×Int:=
 if a.op<1\/a.op>7 then (R,230)
 else if 0<=gJ R.ns au then
  if (nd R.ns (cq R.ns au)).kind=2 then
   match mQ R (cq R.ns au) a.path with
   |.error e=>(R,e)
   |.ok (d,name)=>if (fo R (cq R.ns au) d name a).2=0 then ((fo R (cq R.ns au) d name a).1,0) else (R,(fo R (cq R.ns au) d name a).2)
  else (R,173)
 else (R,141)
end
section i
variable {S S' S2:bB} {g:List Int} {t u:Th} {d top k i j:Nat} {name:ByteArray} {a:dO}
theorem Qr (hr:RelR S g):∀(ps:List ByteArray) (d:Nat),aT S.ar ⟨d,2⟩->oP (toR S g) (bW S ⟨d,2⟩) ps=match qb S.O d ps with|.error e=>.error e|.ok (d',n)=>.ok (bW S ⟨d',2⟩,n)
 |[],d,hd=>rfl
 |[p],d,hd=>by
   have hI:=hr.inv.toInv0
   unfold oP qb
   rw [nh hI hd]
   show (if (d:Int)∈g then _ else _)=_
   have hiff:=hr.aH.Cz ⟨d,2⟩ hd
   by_cases h:(af S.O d).aH=true
   ·rw [ahf (hiff.2 h),ahf h]
   rw [ahe (λq=>h (hiff.1 q)),ahe h]
 |p::q::r,d,hd=>by
   have hI:=hr.inv.toInv0
   unfold oP qb
   rcases mr hr hd p with ⟨h1,h2⟩|⟨t,h1,h2,hl,hk,-⟩
   ·rw [h1,ahe (by rw [h2];decide)]
   rw [h1,ahf (by rw [h2];omega),h2,ahJ,nh hI hl]
   show (if t.kind=3 then _ else if t.kind=1 then _ else _)=_
   simp only
   by_cases h3:t.kind=3
   ·rw [ahf h3,ahf h3]
   rw [ahe h3,ahe h3]
   by_cases h4:t.kind=1
   ·rw [ahf h4,ahf h4]
   rw [ahe h4,ahe h4]
   have ht:t=⟨t.k,2⟩:=by
    have:t.kind=2:=zc
    rw [←this]
   rw [ht] at hl
   rw [show bW S t=bW S ⟨t.k,2⟩ by rw [←ht]]
   exact Qr hr (q::r) t.k hl
theorem IC (hr:RelR S g) (hd:aT S.ar ⟨d,2⟩) (path:ByteArray):mQ (toR S g) (bW S ⟨d,2⟩) path=match mY S.O d path with|.error e=>.error e|.ok (d',n)=>.ok (bW S ⟨d',2⟩,n):=by
 grind [mQ,mY,bS,cA,Qr]
theorem UI (hr:RelR S g) (hd:aT S.ar ⟨d,2⟩) (lS:(af S.O d).aH=false) (j6:cA name) (text:ByteArray):∃m,m=bR (toR S g) (bW S ⟨d,2⟩) name ⟨0,1,420,0,0,0,0,[],⟨#[]⟩,[]⟩ ∧
 ez ((if m.2=0 then ((jT m.1 (m.1.ns.length-1) text.data.toList).1,0) else (toR S g,m.2)).1,0,(if m.2=0 then ((jT m.1 (m.1.ns.length-1) text.data.toList).1,0) else (toR S g,m.2)).2) (sE S d name text).1 (sE S d name text).2 0:=by
 refine⟨_,rfl,?_⟩
 have hI:=hr.inv.toInv0
 unfold sE
 rcases xG (n:=⟨0,1,420,0,0,0,0,[],⟨#[]⟩,[]⟩) hr hd name (λq=>ahh (show (1:Int)=3 from q.1) Pd) with ⟨h1,h2⟩|⟨h1,h2⟩
 rotate_left
 ·rw [h2,ahe h1,ahe h1];exact .bad rfl h1
 rw [h2,ahf h1]
 obtain⟨hA,hG⟩:=Ge (name:=name) (o:=cU S.X 1 420) (n:=⟨0,1,420,0,0,0,0,[],⟨#[]⟩,[]⟩) hr hd ⟨rfl,rfl,rfl,rfl,rfl⟩ ⟨rfl,rfl,rfl,rfl,rfl,rfl,rfl⟩
 have di:bT (gu S d name (cU S.X 1 420)):=hr.inv.FY hd lS j6 h1 (.inl rfl) ⟨Pd,Pd⟩ (.inl ⟨Pd,rfl⟩)
 have hl1:aT (gu S d name (cU S.X 1 420)).ar ⟨bA S.X,1⟩:=(PG hI).2.1
 rw [ahf rfl,hA]
 have hidx:(gu S d name (cU S.X 1 420)).ar=_:=Gd hI
 have hp:=nR di.ix hl1
 have jy:(toR (gu S d name (cU S.X 1 420)) g).ns.length-1=bW (gu S d name (cU S.X 1 420)) ⟨bA S.X,1⟩:=by
  show (aY _).length-1=_
  rw [ig,hidx,ahl]
  refine JY di.ix (by rw [hidx,ahl];exact ahI _) hp.2.1 ?_
  grind [gI,q4]
 rw [jy]
 have hg:=Fe (t:=⟨bA S.X,1⟩) ⟨di,hG⟩ hl1 text.data.toList
 grind [gF,gu,cU,bA,jT,toR,bW,aT,af,cA,bR,ez,sE]
theorem aaw (hr:RelR S g) (ht:aT S.ar ⟨top,2⟩) (hd:aT S.ar ⟨d,2⟩) (lS:(af S.O d).aH=false) (j6:cA name) (a:dO):ez ((fo (toR S g) (bW S ⟨top,2⟩) (bW S ⟨d,2⟩) name a).1,0,(fo (toR S g) (bW S ⟨top,2⟩) (bW S ⟨d,2⟩) name a).2) (nV S top a d name).1 (nV S top a d name).2 0:=by
 have hI:=hr.inv.toInv0
 unfold fo nV
 by_cases h1:a.op=1
 ·rw [ahf h1,ahf h1]
  obtain⟨m,hm,h⟩:=UI hr hd lS j6 a.text
  rw [hm] at h;exact h
 rw [ahe h1,ahe h1]
 by_cases h2:a.op=2
 ·rw [ahf h2,ahf h2]
  exact DR (o:=cU S.X 2 493) hr hd name (λq=>ahh (show (2:Int)=3 from q.1) Pd) ⟨rfl,rfl,rfl,rfl,rfl⟩ ⟨rfl,rfl,rfl,rfl,rfl,rfl,rfl⟩
 rw [ahe h2,ahe h2]
 by_cases h3:a.op=3
 ·grind [jq,ld,DR,cU,bR,aT,af,cA,ez,fo,toR,bW,nV]
 rw [ahe h3,ahe h3]
 by_cases h4:a.op=4
 ·grind [Mn]
 rw [ahe h4,ahe h4]
 by_cases h5:a.op=5
 ·grind [Mp]
 rw [ahe h5,ahe h5]
 by_cases h6:a.op=6
 ·rw [ahf h6,ahf h6,IC hr ht]
  rcases yK hr.inv ht a.to with ⟨e,h,he⟩|⟨to,aD,h,d9,-⟩
  ·rw [h];exact .bad rfl he
  rw [h];exact Mr hr hd d9 name aD
 rw [ahe h6,ahe h6]
 unfold pH
 rcases mr hr hd name with ⟨h7,h8⟩|⟨t,h7,h8,hl,hk,-⟩
 ·grind [aT,af,cA,ez,fo,toR,bW,nV]
 rw [h7,ahf (by rw [h8];omega),h8,ahJ,nh hI hl]
 grind [jS,Fe,aT,af,cA,ez,fo,toR,bW,nV]
theorem acH (hr:RelR S g) (au:Int) (a:dO):∃g',mw (toR S g) au a=(toR (cR S au a).2 g',(cR S au a).1)/\RelR (cR S au a).2 g':=by
 have hI:=hr.inv.toInv0
 have hIa:bT (cR S au a).2:=hr.inv.cR
 have Fx:∀{e:Int},(cR S au a).1=e->e≠0->mw (toR S g) au a=(toR S g,e)->∃g',mw (toR S g) au a=(toR (cR S au a).2 g',(cR S au a).1)/\RelR (cR S au a).2 g':=λ{e} h1 h2 h3=>by
  grind [YI]
 by_cases h0:a.op<1\/a.op>7
 ·grind [cR,mw]
 have ha:gJ (toR S g).ns au=_:=PB hI au
 cases e:aF.get S.ar au with
 |none=>
   grind [gJ,toR,cR,mw]
 |some t=>
   rw [e] at ha
   replace ha:gJ (toR S g).ns au=(bW S t:Int):=ha
   obtain⟨hl,_⟩:=Iq hI e
   have Cg:cq (toR S g).ns au=bW S t:=by unfold cq;rw [ha];exact ahJ _
   by_cases h2:t.kind=2
   rotate_left
   ·exact Fx (by unfold cR;rw [ahe h0,e];exact ahg Prod.fst (ahe h2)) (show (173:Int)≠0 by decide) (by unfold mw;rw [ahe h0,ahf (by rw [ha];omega),Cg,nh hI hl];exact ahe h2)
   have ht:t=⟨t.k,2⟩:=by rw [←h2]
   have hl2:aT S.ar ⟨t.k,2⟩:=by rw [←ht];exact hl
   have hA:cR S au a=match mY S.O t.k a.path with|.error e=>(e,S)|.ok (d,name)=>nV S t.k a d name:=by
    unfold cR;rw [ahe h0,e];exact ahf h2
   have hB:mw (toR S g) au a=match mQ (toR S g) (bW S ⟨t.k,2⟩) a.path with|.error e=>(toR S g,e)|.ok (d,name)=>if (fo (toR S g) (bW S ⟨t.k,2⟩) d name a).2=0 then ((fo (toR S g) (bW S ⟨t.k,2⟩) d name a).1,0) else (toR S g,(fo (toR S g) (bW S ⟨t.k,2⟩) d name a).2):=by
    unfold mw;rw [ahe h0,ahf (by rw [ha];omega),Cg,nh hI hl,←ht];exact ahf h2
   rw [IC hr hl2] at hB
   rcases yK hr.inv hl2 a.path with ⟨e,h,he⟩|⟨d,name,h,hd,lS,j6⟩
   ·rw [h] at hA hB
    exact Fx (by rw [hA]) he hB
   rw [h] at hA hB
   replace hA:cR S au a=nV S t.k a d name:=hA
   obtain⟨e1,e2⟩:=aaw hr hl2 hd lS j6 a
   by_cases hc:(nV S t.k a d name).1=0
   ·obtain⟨g',q1,q2,_⟩:=e2 hc
    have e3:(fo (toR S g) (bW S ⟨t.k,2⟩) (bW S ⟨d,2⟩) name a).2=0:=e1.trans hc
    refine⟨g',?_,hIa,by rw [hA];exact q2⟩
    grind
   grind
end i
def Bl:Except Int (Nat×ByteArray)->Value
 |.error e=>.tuple #[.int .i64 0,.string ⟨#[]⟩,.int .i64 e]
 |.ok x=>.tuple #[.int .i64 ((x.1:Nat):Int),.string x.2,.int .i64 0]
section w
variable {R:RS} {ps:List ByteArray} {d j k:Nat}
theorem Co {B:Option Addr} {c:Nat} (hj:j<ps.length):∀F w,(aG 9 1 B ps.length c (ny ps)).h F w->w.cell? ⟨br B,bq B+j*1,none⟩=some (.string (pc ps j)):=
 aG.cellAt (size:=1) (j:=0) hj (by rw [Nat.mul_one];exact DX hj)
theorem XB (hj:j+1<ps.length) (hl:bZ R.ns d (pc ps j) = -1):oP R d (ps.drop j)=.error 170:=by
 grind [zP,bZ,pc,oP]
theorem FE (hj:j+1<ps.length) (hl:bZ R.ns d (pc ps j)=(k:Int)):oP R d (ps.drop j)=if (nd R.ns k).kind=3 then .error 174 else if (nd R.ns k).kind=1 then .error 173 else oP R k (ps.drop (j+1)):=by
 have e:(bZ R.ns d (pc ps j)).toNat=k:=by rw [hl];rfl
 grind [zP,bZ,pc,oP,nd]
theorem MI (hj:j+1=ps.length):oP R d (ps.drop j)=if (nd R.ns d).id∈R.aH then .error 170 else .ok (d,pc ps j):=by
 grind [zP,oP,nd,pc]
end w
abbrev nF:aO:=⟨0,1,420,0,0,0,0,[],⟨#[]⟩,[]⟩
abbrev nD:aO:=⟨0,2,493,0,0,0,0,[],⟨#[]⟩,[]⟩
abbrev nL (t:ByteArray):aO:=⟨0,3,511,0,0,0,0,[],t,[]⟩
section a
variable {R Z:RS} {Y:RL} {β:Bs} {d au k to n:Nat} {name aD:ByteArray} {a:dO} {e:Int} {x:aO}
theorem acI (h:(bR R d name x).2≠0):(bR R d name x).1=R:=by
 grind [bR]
theorem XC (h:(bR R d name x).2=0):bR R d name x=(jY R d name x,0):=by
 grind [ld,bR]
theorem Ld:(jY R d name x).ns.length=R.ns.length+1:=by
 unfold jY
 simp [List.length_append,CS]
theorem aax:(nd (jY R d name x).ns R.ns.length).data=x.data:=by
 grind [jY,nd,dh,CS]
theorem lV.toK {L:eP} {H V:Option Addr} (h:lV β R L H V):Bb β R L H V k:=⟨λi hi _=>h.data i hi,h.ah,h.h,h.v⟩
theorem abB (h:a.op=1) (hm:(bR R d name nF).2≠0):fo R au d name a=(R,(bR R d name nF).2):=by unfold fo;rw [ahf h];exact ahe hm
theorem abC (h:a.op=1) (hm:(bR R d name nF).2=0):fo R au d name a=((jT (jY R d name nF) R.ns.length a.text.data.toList).1,0):=by
 grind [fo,XC,Ld]
theorem aeu (h:a.op=2):fo R au d name a=bR R d name nD:=by unfold fo;rw [ahe zc,ahf h]
theorem aev (h:a.op=3):fo R au d name a=bR R d name (nL a.text):=by unfold fo;rw [ahe zc,ahe zc,ahf h]
theorem aew (h:a.op=4):fo R au d name a=iH R d name false:=by unfold fo;rw [ahe zc,ahe zc,ahe zc,ahf h]
theorem aex (h:a.op=5):fo R au d name a=iH R d name true:=by unfold fo;rw [ahe zc,ahe zc,ahe zc,ahe zc,ahf h]
theorem abD (h:a.op=6) (hw:mQ R au a.to=.error e):fo R au d name a=(R,e):=by unfold fo;rw [ahe zc,ahe zc,ahe zc,ahe zc,ahe zc,ahf h,hw]
theorem abE (h:a.op=6) (hw:mQ R au a.to=.ok (to,aD)):fo R au d name a=ia R d name to aD:=by unfold fo;rw [ahe zc,ahe zc,ahe zc,ahe zc,ahe zc,ahf h,hw]
theorem aey (h:¬(1<=a.op/\a.op<=6)):fo R au d name a=if 0<=bZ R.ns d name then if (nd R.ns (bZ R.ns d name).toNat).kind=3 then (R,174) else if (nd R.ns (bZ R.ns d name).toNat).kind=2 then (R,172) else ((jT R (bZ R.ns d name).toNat a.text.data.toList).1,(jT R (bZ R.ns d name).toNat a.text.data.toList).2.2) else (R,170):=by
 grind [fo]
theorem abF (h:¬(1<=a.op/\a.op<=6)) (hl:bZ R.ns d name = -1):fo R au d name a=(R,170):=(aey h).trans (ahe (by rw [hl];decide))
theorem Gl (h:¬(1<=a.op/\a.op<=6)) (hl:bZ R.ns d name=(k:Int)):fo R au d name a=if (nd R.ns k).kind=3 then (R,174) else if (nd R.ns k).kind=2 then (R,172) else ((jT R k a.text.data.toList).1,(jT R k a.text.data.toList).2.2):=by
 rw [aey h,ahf (by rw [hl];omega),hl];rfl
theorem Qs:∀{ps:List ByteArray} {d:Nat},oP R d ps=.error e->e≠0
 |[],d,h=>by cases h;decide
 |[p],d,h=>by
   unfold oP at h
   split at h<;>first|(cases h;done)|(cases h;decide)
 |p::q::r,d,h=>by
   unfold oP at h
   (repeat' split at h)<;>first|exact Qs h|(cases h;done)|(cases h;decide)
theorem Qt {p:ByteArray} (h:mQ R au p=.error e):e≠0:=by
 grind [mQ,Qs]
theorem SI:∀{ps:List ByteArray} {d:Nat},d<R.ns.length->oP R d ps=.ok (to,aD)->to<R.ns.length
 |[],d,_,h=>by cases h
 |[p],d,hd,h=>by
   unfold oP at h
   split at h
   ·cases h
   cases h;exact hd
 |p::q::r,d,hd,h=>by
   unfold oP at h
   split at h
   ·rename_i h0
    split at h
    ·cases h
    split at h
    ·cases h
    refine SI ?_ h
    rcases kB R.ns d p with hl|⟨k,hl,hk⟩
    ·rw [hl] at h0;exact ahh h0 (by decide)
    rw [hl];exact hk
   cases h
theorem SJ {p:ByteArray} (hr:au<R.ns.length) (h:mQ R au p=.ok (to,aD)):to<R.ns.length:=by
 unfold mQ at h
 split at h
 ·exact SI hr h
 cases h
theorem UJ (hI:lV β Z Y.L Y.H Y.V) (hC:RC Z) (hD:RD n Z) (hn:n<=7) (d:Nat) (hd:d<Z.ns.length) (name:ByteArray) (x:aO) (hxd:x.data=[]) (Mb:x.ah=[]) (LH:x.target.size<=1048576) (hm:(bR Z d name x).2≠0) :
 cr Tryz.prog β 99 #[.agg ⟨rV Z Y⟩,.int .i64 ((d:Nat):Int),.string name,.agg #[.int .i64 x.id,.int .i64 x.kind,.int .i64 x.mode,.int .i64 x.bg,.int .i64 x.bh,.int .i64 x.aU,.int .i64 x.aJ,.slice none 0 0,.string x.target,.slice none 0 0]]
  [.abs (aG 95 10 Y.A Z.ns.length Y.c (bH Y.L Z.ns)),.abs (aG 3 1 Y.G Z.aH.length Y.cg (bL Z.aH))] (λ_ v l=>v=.tuple #[.agg ⟨rV Z Y⟩,.int .i64 (bR Z d name x).2]/\l=[.abs (aG 95 10 Y.A Z.ns.length Y.c (bH Y.L Z.ns)),.abs (aG 3 1 Y.G Z.aH.length Y.cg (bL Z.aH))]):=by
 refine (yG Z Y hI hC hD hn d hd name x hxd Mb LH).mono ?_
 rintro β' v l _ ⟨A1,c1,L1,rfl,rfl,_,hmk⟩
 obtain⟨_,rfl,rfl,rfl⟩:=hmk.resolve_left (λh=>hm h.1)
 rw [acI hm]
 exact⟨rfl,rfl⟩
theorem UK (hI:lV β Z Y.L Y.H Y.V) (hC:RC Z) (hD:RD n Z) (hn:n<=7) (d:Nat) (hd:d<Z.ns.length) (name:ByteArray) (x:aO) (hxd:x.data=[]) (Mb:x.ah=[]) (LH:x.target.size<=1048576) (hm:(bR Z d name x).2=0) :
 cr Tryz.prog β 99 #[.agg ⟨rV Z Y⟩,.int .i64 ((d:Nat):Int),.string name,.agg #[.int .i64 x.id,.int .i64 x.kind,.int .i64 x.mode,.int .i64 x.bg,.int .i64 x.bh,.int .i64 x.aU,.int .i64 x.aJ,.slice none 0 0,.string x.target,.slice none 0 0]]
  [.abs (aG 95 10 Y.A Z.ns.length Y.c (bH Y.L Z.ns)),.abs (aG 3 1 Y.G Z.aH.length Y.cg (bL Z.aH))] (λβ' v l=>∃A' c' L',v=.tuple #[.agg ⟨rW (jY Z d name x) A' c' Y.G Y.cg Y.H Y.ch Y.V Y.cv⟩,.int .i64 0] ∧
   l=[.abs (aG 95 10 A' (jY Z d name x).ns.length c' (bH L' (jY Z d name x).ns)),.abs (aG 3 1 Y.G (jY Z d name x).aH.length Y.cg (bL (jY Z d name x).aH))]/\lV β' (jY Z d name x) L' Y.H Y.V/\L'.dA Z.ns.length=none/\L'.dC Z.ns.length=0):=by
 grind [yG,XC]
end a
theorem SK {l:List UInt8} {c:UInt8} {j:Nat}:Lib.occAt l [c] j=(l[j]? == some c):=by
 unfold Lib.occAt
 rw [←List.head?_drop]
 cases l.drop j with
 |nil=>rfl
 |cons b r=>
   grind
theorem ext_get {s:ByteArray} {a b j:Nat} (hb:b<=s.size) (hj:a+j<b):(s.extract a b).data.toList[j]?=some (s.data.getD (a+j) 0):=by
 have h:a+j<s.data.size:=ahA hj hb
 simp only [ByteArray.data_extract,Array.getElem?_toList,Array.getElem?_extract]
 rw [ahf (by have:s.data.size=s.size:=rfl;omega)]
 have h2:s.data[a+j]?=some s.data[a+j]:=Array.getElem?_eq_getElem h
 rw [h2]
 simp only [Array.getD,h,dite_true];rfl
section p
variable {s:ByteArray} {a i:Nat}
theorem aez {j:Nat}:(s.data.getD j 0 == 47)=decide (dP s j=47):=by
 unfold dP
 generalize s.data.getD j 0=x
 by_cases h:x=47
 ·subst h;rfl
 have h2:¬x.toNat=47:=λe=>h (ahS.1 e)
 rw [ahi h2]
 simpa using h
theorem SL {j:Nat} (hj:a+j<s.size):Lib.occAt (s.extract a s.size).data.toList slash.data.toList j=decide (dP s (a+j)=47):=by
 show Lib.occAt _ [47] j=_
 rw [SK,ext_get (aho _) hj,←aez]
 simp
theorem acJ {j:Nat} (hj:s.size<=a+j):Lib.occAt (s.extract a s.size).data.toList slash.data.toList j=false:=by
 show Lib.occAt _ [47] j=_
 rw [SK,aif (by simp only [Array.length_toList,ByteArray.size_data,ah0];omega)]
 rfl
theorem Rc (iU:∀j,a<=j->j<s.size->¬dP s j=47):bS (s.extract a s.size)=[s.extract a s.size]:=by
 refine Lib.splitB_miss _ _ _ _ (Lib.index_none (λj _=>?_))
 grind [SL,acJ]
theorem Rf (ha:a<=i) (hi:i<s.size) (hb:dP s i=47) (iU:∀j,a<=j->j<i->¬dP s j=47):bS (s.extract a s.size)=s.extract a i::bS (s.extract (i+1) s.size):=by
 have fL:Lib.indexB (s.extract a s.size) slash=((i-a:Nat):Int):=by
  refine Lib.index_first (by simp only [Array.length_toList,ByteArray.size_data,ah0];omega) ?_ (λj hj=>?_)
  all_goals grind [SL]
 have hc:=Lib.countB_hit (s.extract a s.size) slash (i-a) Pd fL
 have e:(s.extract a s.size).extract (i-a+slash.size) (s.extract a s.size).size=s.extract (i+1) s.size:=by
  rw [ByteArray.extract_extract,ah0]
  congr 1
  ·show a+(i-a+1)=i+1;omega
  omega
 unfold bS
 rw [hc,air,Lib.splitB_hit _ _ _ _ _ fL,e]
 congr 1
 rw [ByteArray.extract_extract]
 congr 1
 omega
structure G4 (s:ByteArray) (i a:Nat) (ps:List ByteArray):Prop where
 le:a<=i
 at_:i<=s.size->ps++bS (s.extract a s.size)=bS s/\∀j,a<=j->j<i->¬dP s j=47
 fin:s.size<i->ps=bS s
 len:ps.length<=a
theorem G4.start:G4 s 0 0 []:=⟨aho _,λ_=>⟨by rw [ByteArray.extract_zero_size];rfl,λj _ h=>ahh h (ahm j)⟩,λh=>ahh h (ahm _),aho _⟩
theorem G4.miss {ps:List ByteArray} (h:G4 s i a ps) (hi:i<s.size) (hb:¬dP s i=47):G4 s (i+1) a ps:=
 ⟨Nat.le_succ_of_le h.le,λ_=>⟨(h.at_ (aiq hi)).1,λj h1 h2=>(ahn.1 h2).elim ((h.at_ (aiq hi)).2 j h1) (λe=>e ▸ hb)⟩,λh=>zc,h.len⟩
theorem G4.hit {ps:List ByteArray} (h:G4 s i a ps) (hi:i<=s.size) (hb:i=s.size\/dP s i=47):G4 s (i+1) (i+1) (ps++[s.extract a i]):=by
 obtain⟨h1,h2⟩:=h.at_ hi
 have dW:=h.le
 have VO:=h.len
 refine⟨aho _,λh3=>⟨?_,λj h4 h5=>zc⟩,λh3=>?_,by rw [ahl];show ps.length+1<=i+1;omega⟩
 all_goals grind [Rf,Rc]
theorem MJ {ps:List ByteArray} {x:ByteArray}:ny (ps++[x])=ny ps++[.string x]:=ahP
end p
end
section
open Go.RowKit Go.Maps bG aF
attribute [local irreducible] av bP aq aB
theorem XD {β:Bs} (s:ByteArray) (hs:s.size<=1048576) :
 aX Tryz.prog β 97 #[.string s] [] (λv l=>∃B c,v=.slice B (bS s).length c/\l=[.abs (aG 9 1 B ((bS s).length) c (ny (bS s)))]):=by
 refine SE Tryz.func97 Tryz.ntmps97 (λR=>SR (jK 1 [] [] (NS (jB 2 [3] (λb1=>.ay b1 [] 9) (λb1=>NS (av.mem (λw hS=>hS.oW (i:=1) (b:=b1) (cs:=[]) (e:=9) 1 0 KB rfl Pd) (jK 1 [4] [] (NZ (jK 1 [5] [] (NN (aq.block (lJ (λ(i,A8,c8,ps,a)=>(i<=s.size+1)/\(G4 s i a ps)) (λ(i,A8,c8,ps,a)=>s.size+2-i) (λ(i,A8,c8,ps,a)=>[(0,.string s),(3,.slice A8 (ps.length) (c8)),(4,vI ↑a),(5,vI ↑i)]) (λ(i,A8,c8,ps,a)=>[.abs (aG 9 1 A8 ps.length c8 (ny ps)),.abs R]) (0,some ⟨b1,0,none⟩,0,[],0) [1,0] (⟨ahj _,G4.start⟩) ?_))))))))))))
 rintro⟨i,A8,c8,ps,a⟩ ⟨hi,hp⟩
 have dW:=hp.le
 have VO:=hp.len
 exact SQ (jK 4 [10] [] (NN (cP ((((i:Nat):Int):Int)<=((((s:ByteArray).size:Nat):Int):Int)) (λh10=>KX (aq.seq (aq.block (SR (jK 5 [17] [] (sP 17 ((((i:Nat):Int):Int)=((((s:ByteArray).size:Nat):Int):Int)) (λEt=>jK 5 [22] [] (NT (SR (jN 6 [23,28] (λb2=>[(4,p_ ⟨[],some i,some a,none,none⟩ [((i:Nat):Int)=((i:Nat):Int),((a:Nat):Int)=((a:Nat):Int),i<=(s:ByteArray).size,a<=i] ⟨rfl,rfl,zc,zc,trivial⟩)]) (λ_=>[]) (λb2=>.ay b2 [.string ((s:ByteArray).extract a i)] 9) (λb2=>mU 0 157 (some ⟨b2,0,none⟩) 1 1 [.string ((s:ByteArray).extract a i)] rfl (fU (j:=2) rfl) (λA3 c4=>av.cO 0 (p':=.abs (aG 9 1 A3 ((ps++[s.extract a i]).length) c4 (ny (ps++[s.extract a i])))) rfl (by rw [MJ];simp) (sl 29 (.slice A3 (ps.length+1) (c4)) (.slice A3 ((ps++[s.extract a i]).length) (c4)) ahd (jK 1 [3] [] (NN (aq.region (jK 3 [4] [(1,wJ ((i:Int)+1) (↑(i+1)))] (LX (aq.region (jK 3 [5] [(1,wJ ((i:Int)+1) (↑(i+1)))] (NL (tJ ((i+1),A3,c4,(ps++[s.extract a i]),(i+1)) [0,1] (⟨zc,hp.hit zc (.inl zc)⟩))))))))))))))))) (λEt=>jK 5 [22] [(2,xP i (i<(s:ByteArray).size))] (NN (cP ((((((s:ByteArray).data.getD (i) 0).toNat:Nat):Int):Int)=(47:Int)) (λsC=>SR (jN 6 [23,28] (λb5=>[(4,p_ ⟨[],some i,some a,none,none⟩ [((i:Nat):Int)=((i:Nat):Int),((a:Nat):Int)=((a:Nat):Int),i<=(s:ByteArray).size,a<=i] ⟨rfl,rfl,zc,zc,trivial⟩)]) (λ_=>[]) (λb5=>.ay b5 [.string ((s:ByteArray).extract a i)] 9) (λb5=>mU 0 157 (some ⟨b5,0,none⟩) 1 1 [.string ((s:ByteArray).extract a i)] rfl (fU (j:=2) rfl) (λA6 c7=>av.cO 0 (p':=.abs (aG 9 1 A6 ((ps++[s.extract a i]).length) c7 (ny (ps++[s.extract a i])))) rfl (by rw [MJ];simp) (sl 29 (.slice A6 (ps.length+1) (c7)) (.slice A6 ((ps++[s.extract a i]).length) (c7)) ahd (jK 1 [3] [] (NN (aq.region (jK 3 [4] [(1,wJ ((i:Int)+1) (↑(i+1)))] (LX (aq.region (jK 3 [5] [(1,wJ ((i:Int)+1) (↑(i+1)))] (NL (tJ ((i+1),A6,c7,(ps++[s.extract a i]),(i+1)) [0,1] (⟨zc,hp.hit zc (.inr (by unfold dP;omega))⟩))))))))))))))) (λsC=>KX (aq.region (jK 3 [5] [(1,wJ ((i:Int)+1) (↑(i+1)))] (NL (tJ ((i+1),A8,c8,ps,a) [0,1] (⟨zc,hp.miss zc (by unfold dP;omega)⟩))))))))))))))) (λh10=>XX (zR ((by have e:=hp.fin zc;rw [←e];exact⟨A8,c8,rfl,rfl⟩)))))))
theorem Gm {β:Bs} (Z:RS) (Y:RL) (hR:dz β Z Y) (hC:RC Z) (au:Nat) (Cp:au<Z.ns.length) (path:ByteArray) (eG:path.size<=1048576) :
 aX Tryz.prog β 72 #[.agg ⟨rV Z Y⟩,vI (((au:Nat):Int)),.string path] [] (λv l=>v=Bl (mQ Z au path)/\l=[]):=by
 have hpl:1<=(bS path).length/\(bS path).length<=1048577:=by rw [DW];have:=Bk path;omega
 have hnl:=hC.toRB.ns
 refine SE Tryz.func72 Tryz.ntmps72 (λR=>SR (jN 4 [3] (λ_=>[]) (λ_=>[]) (λb1=>.ay b1 (rV Z Y) 45) (λb1=>NS (jK 1 [13] [] (gL [] (XD path eG) ?_)))))
 rintro _ _ ⟨B,c,rfl,rfl⟩
 refine jK 1 [9] [] (NN (aq.seq (SR (av.r9 0 rfl zc (λhgB=>jK 1 [10] [] (NN (aq.block (lJ (λ(j:Nat)=>(j<=(bS path).length)/\(∀q,q<j->cA (pc (bS path) q))) (λ(j:Nat)=>(bS path).length-j) (λ(j:Nat)=>[(1,vI ↑au),(3,vP b1),(9,.slice B ((bS path).length) (c)),(10,vI ↑j)]) (λ(j:Nat)=>[.abs (aG 9 1 B ((bS path).length) c (ny (bS path))),.abs R,.ay b1 (rV Z Y) 45]) 0 [0,1,2] (⟨ahj _,λq h=>ahh h (ahm q)⟩) ?_))))))))
 rintro j ⟨hj,hgd⟩
 refine aq.seq (SR (jK 4 [18] [] (NN (cP ((((j:Nat):Int):Int)<((((bS path).length:Nat):Int):Int)) (λp4=>aq.skip (NX (aq.seq (aq.block (SR (jK 4 [24] [(2,x_ j ((bS path).length) (hgB)),(3,p_ ⟨[.view 0 (.string (pc (bS path) j))],none,none,none,none⟩ [(∀F w,(aG 9 1 B ((bS path).length) c (ny (bS path))).h F w->w.cell? ⟨(br B),bq B+j*1,none⟩=some (.string (pc (bS path) j)))] ⟨Co zc,trivial⟩)] (gE [] (Dj (pc (bS path) j) (ahk (G3 (Ql zc)) eG)) (jK 1 [26] [] (NN (cN (cA (pc (bS path) j)) (λyS=>SR (jK 3 [6,7,8] [] (NN (aq.ret (aB.gi (aB.bE (aB.bE (aB.gi (aB.bE (RT _ [1] (⟨ahg Bl (ahX (show mQ Z au path=.error 95 from ahe (λh=>yS (DY.1 h j zc)))),rfl⟩))))))))))) (λyS=>aq.skip (aB.jI (NX (aq.region (jK 3 [10] [(1,wJ ((j:Int)+1) (↑(j+1)))] (NL (tJ ((j+1)) [0,1,2] (⟨zc,λq hq=>(ahn.1 hq).elim (hgd q) (λe=>e ▸ yS)⟩)))))))))))))))))) (λp4=>aq.exit (aB.nT (aB.nT (aB.uG (NX (SR ?_))))))))))
 have jU:∀p∈(bS path),cA p:=DY.2 (λq hq=>hgd q zc)
 refine jK 2 [11] [] (NN (aq.seq (SR (jK 1 [12] [] (NN (aq.block (lJ (λ(j,at_)=>(j<=(bS path).length-1)/\(at_<Z.ns.length)/\(oP Z au (bS path)=oP Z at_ ((bS path).drop j))) (λ(j,at_)=>(bS path).length-1-j) (λ(j,at_)=>[(3,vP b1),(9,.slice B ((bS path).length) (c)),(11,vI ↑at_),(12,vI ↑j)]) (λ(j,at_)=>[.abs (aG 9 1 B ((bS path).length) c (ny (bS path))),.abs R,.ay b1 (rV Z Y) 45]) (0,au) [0,1,2] (⟨ahj _,Cp,rfl⟩) ?_)))))))
 rintro⟨j,at_⟩ ⟨hj,hat,hw⟩
 refine aq.seq (SR (jK 5 [32] [(3,wJ ((((bS path).length:Nat):Int)-1) (↑((bS path).length-1)))] (NN (cP ((((j:Nat):Int):Int)<(((((bS path).length-1):Nat):Int):Int)) (λsy=>aq.skip (NX (aq.seq (aq.block (aq.seq ?_))))) (λsy=>aq.exit (aB.nT (aB.nT (aB.uG (NX (aq.seq (aq.seq (aq.FI KB KB (jQ 8 [60,67] [(0,A_ 2 b1 12),(3,a_ 2 b1),(5,x_ at_ Z.ns.length (aQ.hd hR.n (i:=at_) zc)),(7,r_ (aQ.rd hR.n (i:=at_) zc (j:=0) rfl))] (mG [] [0,1,2] (.bool (decide ((nd Z.ns at_).id∈Z.aH))) (wR Z Y hR hC.toRB (nd Z.ns at_).id) (NQ (NX (cP ((nd Z.ns at_).id∈Z.aH) (λh68=>SR (jK 3 [6,7,8] [] (NN (aq.ret (aB.bE (RT _ [1] (⟨ahg Bl (ahX (show mQ Z au path=.error 170 from (show mQ Z au path=oP Z au (bS path) from ahf jU).trans (hw.trans ((MI zc).trans (ahf h68))))),rfl⟩))))))) (λh68=>aq.skip (NX (aq.seq (aq.FI KB KB (jQ 10 [6,7,8] [(4,wJ ((((bS path).length:Nat):Int)-1) (↑((bS path).length-1))),(5,x_ ((bS path).length-1) ((bS path).length) (hgB)),(6,p_ ⟨[.view 0 (.string (pc (bS path) ((bS path).length-1)))],none,none,none,none⟩ [(∀F w,(aG 9 1 B ((bS path).length) c (ny (bS path))).h F w->w.cell? ⟨(br B),bq B+((bS path).length-1)*1,none⟩=some (.string (pc (bS path) ((bS path).length-1))))] ⟨Co zc,trivial⟩)] (NQ (NX (aq.ret (RT _ [1] (⟨ahg Bl (ahX (show mQ Z au path=.ok (at_,pc (bS path) ((bS path).length-1)) from (show mQ Z au path=oP Z au (bS path) from ahf jU).trans (hw.trans ((MI zc).trans ((ahe h68).trans (by rw [show j=(bS path).length-1 by omega])))))),rfl⟩)))))))))))))))))))))))))))
 rcases kB Z.ns at_ (pc (bS path) j) with hl|⟨k,hl,hk⟩
 ·exact aq.FI KB KB (jQ 6 [35,36,40] [(0,A_ 2 b1 12),(4,x_ j ((bS path).length) (hgB)),(5,p_ ⟨[.view 0 (.string (pc (bS path) j))],none,none,none,none⟩ [(∀F w,(aG 9 1 B ((bS path).length) c (ny (bS path))).h F w->w.cell? ⟨(br B),bq B+j*1,none⟩=some (.string (pc (bS path) j)))] ⟨Co zc,trivial⟩)] (mG [] [0,1,2] (.int .i64 (-1)) ((jJ Z Y hR hC at_ hat (pc (bS path) j)).val (ahg (Value.int .i64) hl)) (jQ 1 [11] [] (NQ (NX (aq.seq (SR (jK 2 [43] [] (NN (CT (zR ⟨ahg Bl (ahX (show mQ Z au path=.error 170 from (show mQ Z au path=oP Z au (bS path) from ahf jU).trans (hw.trans (XB zc hl)))),rfl⟩ [1])))))))))))
 exact rQ (jQ 6 [35,36,40] [(0,A_ 2 b1 12),(4,x_ j ((bS path).length) (hgB)),(5,p_ ⟨[.view 0 (.string (pc (bS path) j))],none,none,none,none⟩ [(∀F w,(aG 9 1 B ((bS path).length) c (ny (bS path))).h F w->w.cell? ⟨(br B),bq B+j*1,none⟩=some (.string (pc (bS path) j)))] ⟨Co zc,trivial⟩)] (mG [] [0,1,2] (.int .i64 ↑k) ((jJ Z Y hR hC at_ hat (pc (bS path) j)).val (ahg (Value.int .i64) hl)) (jQ 1 [11] [] (NQ (NX (SQ (jK 2 [43] [(1,wF (((k:Int):Int)<(0:Int)))] (NF (KX (SQ (jK 8 [51] [(2,a_ 2 b1),(4,x_ k Z.ns.length (aQ.hd hR.n (i:=k) zc)),(6,r_ (aQ.rd hR.n (i:=k) zc (j:=1) rfl))] (NN (cP (((nd Z.ns k).kind:Int)=(3:Int)) (λxR=>zR ⟨ahg Bl (ahX (show mQ Z au path=.error 174 from (show mQ Z au path=oP Z au (bS path) from ahf jU).trans (hw.trans ((FE zc hl).trans (ahf xR))))),rfl⟩ [1]) (λxR=>KX (SR (jK 8 [59] [(2,a_ 2 b1),(4,x_ k Z.ns.length (aQ.hd hR.n (i:=k) zc)),(6,r_ (aQ.rd hR.n (i:=k) zc (j:=1) rfl))] (NN (cP (((nd Z.ns k).kind:Int)=(1:Int)) (λwi=>zR ⟨ahg Bl (ahX (show mQ Z au path=.error 173 from (show mQ Z au path=oP Z au (bS path) from ahf jU).trans (hw.trans ((FE zc hl).trans ((ahe xR).trans (ahf wi)))))),rfl⟩ [1]) (λwi=>KX (aq.region (jK 3 [12] [(1,wJ ((j:Int)+1) (↑(j+1)))] (NL (tJ ((j+1),k) [0,1,2] (⟨zc,hk,hw.trans ((FE zc hl).trans ((ahe xR).trans (ahe wi)))⟩))))))))))))))))))))))))
theorem aay {β:Bs} (Z:RS) (Y:RL) (hI:lV β Z Y.L Y.H Y.V) (hC:RC Z) (hD:RD 0 Z) (au:Nat) (Cp:au<Z.ns.length) (d:Nat) (hd:d<Z.ns.length) (name:ByteArray) (a:dO) (d9:a.to.size<=1048576) (vU:a.text.size<=1048576) (XE:a.op=1->(bR Z d name nF).2=0->RC (jY Z d name nF)) (iU:¬(1<=a.op/\a.op<=6)->∀k:Nat,bZ Z.ns d name=(k:Int)->(nd Z.ns k).kind=3\/(nd Z.ns k).kind=2) :
 cr Tryz.prog β 73 #[.agg ⟨rV Z Y⟩,vI (((au:Nat):Int)),vI (((d:Nat):Int)),.string name,.agg #[vI (a.at_),vI (a.op),.string a.path,.string a.to,.string a.text]] [.abs (aG 95 10 Y.A Z.ns.length Y.c (bH Y.L Z.ns)),.abs (aG 3 1 Y.G Z.aH.length Y.cg (bL Z.aH))] (λβ' v l=>∃Y',v=.tuple #[.agg ⟨rV ((fo Z au d name a).1) Y'⟩,vI (fo Z au d name a).2]/\l=[]/\dz β' (fo Z au d name a).1 Y'):=by
 refine o8 Tryz.func73 Tryz.ntmps73 (λaE R=>SR (jB 1 [5] (λb1=>.ay b1 (rV Z Y) 45) (λb1=>jB 1 [9] (λb2=>.ay b2 [vI (a.at_),vI (a.op),.string a.path,.string a.to,.string a.text] 68) (λb2=>jB 2 [10] (λb3=>.ay b3 (rZ) 45) (λb3=>NZ (jK 2 [23] [(1,a_ 4 b2)] (NN (aq.block (SR (jK 2 [24] [] (NN (cP ((a.op:Int)=(1:Int)) (λrG=>?_) (λrG=>?_)))))))))))))
 ·refine SR (jK 4 [27,28,29,30] [(0,A_ 3 b1 12)] ?_)
  by_cases hm:(bR Z d name nF).2=0
  ·refine j3 [0,1] (UK hI hC hD zc d hd name nF rfl rfl Pd hm) ?_
   rintro β1 _ _ cJ ⟨A1,c1,L1,rfl,rfl,di,hnA,P9⟩
   replace aE:=aE.trans cJ
   refine jN 6 [12,13] (λb4=>[(4,A_ 6 b4 12)]) (λ_=>[]) (λb4=>.ay b4 (rW (jY Z d name nF) A1 c1 Y.G Y.cg Y.H Y.ch Y.V Y.cv) 45) (λb4=>NZ (jK 2 [35] [] (NF (KX (SR (jK 6 [14] [(2,a_ 6 b4),(4,p_ ⟨[],none,none,none,some (vI ↑Z.ns.length)⟩ [(Value.int .i64 (IntKind.wrap .i64 ((((jY Z d name nF).ns.length:Nat):Int)-1)))=(.int .i64 ↑Z.ns.length)] ⟨vB (by rw [Ld];omega) zc (by have:=hC.ns;omega),trivial⟩)] (NS (jK 4 [44,45,47] [(0,A_ 6 b4 12),(3,a_ 4 b2)] (av.DZ (d:=(some 48)) (t1:=9) (t2:=51) (e:=5) (x:=(.tmp 47)) (s:=a.text) (λ_=>KB) (λ_=>KB) Tryz.underlying9 Tryz.underlying51 Tryz.underlying5 (λb5 c6 agt=>av.tZ 7 [0,1,2,3,4,5,6] (eZ:=[.abs (aG 95 10 A1 ((jY Z d name nF).ns.length) c1 (bH L1 (jY Z d name nF).ns)),.abs (aG 3 1 Y.G ((jY Z d name nF).aH.length) Y.cg (bL (jY Z d name nF).aH)),.abs R,.ay b1 (rV Z Y) 45,.ay b2 [vI (a.at_),vI (a.op),.string a.path,.string a.to,.string a.text] 68,.ay b3 (rZ) 45,.ay b4 (rW (jY Z d name nF) A1 c1 Y.G Y.cg Y.H Y.ch Y.V Y.cv) 45]) rfl rfl KB (λWO tU hbs=>?_)))))))))))
   replace di:=di.le tU
   replace aE:=aE.trans tU
   refine av.mem (λw hS=>hS.mF (e:=5) (size:=1)) (av.cO 7 (p':=.abs (aG 5 1 (L1.dA Z.ns.length) ((nd (jY Z d name nF).ns Z.ns.length).data.length) (L1.dC Z.ns.length) (dL (nd (jY Z d name nF).ns Z.ns.length).data))) rfl (by rw [hnA,P9,aax];rfl) (j3 [0,1,7] (Ig (jY Z d name nF) ⟨A1,c1,L1,Y.G,Y.cg,Y.H,Y.ch,Y.V,Y.cv⟩ Z.ns.length di.toK (XE (by simpa using rG) hm) (by rw [Ld];omega) (some ⟨b5,0,none⟩) c6 a.text.data.toList hbs (by rw [Array.length_toList];have:a.text.data.size=a.text.size:=rfl;omega) agt) ?_))
   rintro vz _ _ lY ⟨Y3,rfl,rfl,mh⟩
   replace aE:=aE.trans lY
   exact jC 5 [] [(4,A_ 4 b4 12)] [(4,(zC (rV ((jT (jY Z d name nF) Z.ns.length a.text.data.toList).1) Y3)))] (NS (jC 3 [11] [(0,A_ 4 b4 12),(1,A_ 3 b3 12)] [(3,(zC (rV ((jT (jY Z d name nF) Z.ns.length a.text.data.toList).1) Y3)))] (eO [A_ 3 b3 12] aE ⟨Y3,by rw [abC (by simpa using rG) hm]<;>rfl,rfl,by rw [abC (by simpa using rG) hm];exact mh⟩)))
  refine j3 [0,1] (UJ hI hC hD zc d hd name nF rfl rfl Pd hm) ?_
  rintro β1 _ _ cJ ⟨rfl,rfl⟩
  replace hI:=hI.le cJ
  replace aE:=aE.trans cJ
  refine jN 6 [12,13] (λb10=>[(4,A_ 6 b10 12)]) (λ_=>[]) (λb10=>.ay b10 (rV Z Y) 45) (λb10=>NZ (jK 2 [35] [] (NN (cN (((bR Z d name nF).2:Int)=(0:Int)) (λnS=>SR (jC 4 [11] [(0,A_ 3 b1 12),(2,A_ 5 b3 12)] [(5,(zC (rV Z Y)))] (NN (aq.ret (aB.bE (aB.gi (aB.bE (aB.cT [0,1] [.abs (aG 95 10 Y.A Z.ns.length Y.c (bH Y.L Z.ns)),.abs (aG 3 1 Y.G Z.aH.length Y.cg (bL Z.aH))] (λIj pQ hL=>?_))))))))) (λnS=>ahh (by simpa using nS) hm)))))
  have fS:dz Ij Z Y:=hI.at hL
  replace aE:=aE.trans pQ
  exact rB _ [A_ 3 b3 12] [0] aE (⟨Y,by rw [abB (by simpa using rG) hm]<;>rfl,rfl,by rw [abB (by simpa using rG) hm];exact fS⟩)
 refine SR (jK 2 [54] [] (NN (cP ((a.op:Int)=(2:Int)) (λE7=>?_) (λE7=>?_))))
 ·refine SR (jK 4 [56,57,58,59] [(0,A_ 3 b1 12)] (j3 [0,1] (yG Z Y hI hC hD zc d hd name nD rfl rfl Pd) ?_))
  rintro β1 _ _ cJ ⟨A1,c1,L1,rfl,rfl,di,_⟩
  replace aE:=aE.trans cJ
  refine jC 4 [11] [(2,A_ 5 b3 12)] [(5,(zC (rW ((bR Z d name nD).1) A1 c1 Y.G Y.cg Y.H Y.ch Y.V Y.cv)))] (NN (aq.ret (aB.gi (aB.bE (aB.cT [0,1] [.abs (aG 95 10 A1 ((bR Z d name nD).1.ns.length) c1 (bH L1 (bR Z d name nD).1.ns)),.abs (aG 3 1 Y.G ((bR Z d name nD).1.aH.length) Y.cg (bL (bR Z d name nD).1.aH))] (λDK kF hL=>?_))))))
  have fS:dz DK (bR Z d name nD).1 ⟨A1,c1,L1,Y.G,Y.cg,Y.H,Y.ch,Y.V,Y.cv⟩:=di.at hL
  replace aE:=aE.trans kF
  exact rB _ [A_ 3 b3 12] [0] aE (⟨⟨A1,c1,L1,Y.G,Y.cg,Y.H,Y.ch,Y.V,Y.cv⟩,by rw [aeu (by simpa using E7)]<;>rfl,rfl,by rw [aeu (by simpa using E7)];exact fS⟩)
 refine SR (jK 2 [63] [] (NN (cP ((a.op:Int)=(3:Int)) (λh63=>?_) (λh63=>?_))))
 ·refine SR (jK 6 [65,66,67,70] [(0,A_ 3 b1 12),(4,a_ 4 b2)] (j3 [0,1] (yG Z Y hI hC hD zc d hd name (nL a.text) rfl rfl vU) ?_))
  rintro β1 _ _ cJ ⟨A1,c1,L1,rfl,rfl,di,_⟩
  replace aE:=aE.trans cJ
  refine jC 4 [11] [(2,A_ 5 b3 12)] [(5,(zC (rW ((bR Z d name (nL a.text)).1) A1 c1 Y.G Y.cg Y.H Y.ch Y.V Y.cv)))] (NN (aq.ret (aB.gi (aB.bE (aB.cT [0,1] [.abs (aG 95 10 A1 ((bR Z d name (nL a.text)).1.ns.length) c1 (bH L1 (bR Z d name (nL a.text)).1.ns)),.abs (aG 3 1 Y.G ((bR Z d name (nL a.text)).1.aH.length) Y.cg (bL (bR Z d name (nL a.text)).1.aH))] (λIh uP hL=>?_))))))
  have fS:dz Ih (bR Z d name (nL a.text)).1 ⟨A1,c1,L1,Y.G,Y.cg,Y.H,Y.ch,Y.V,Y.cv⟩:=di.at hL
  replace aE:=aE.trans uP
  exact rB _ [A_ 3 b3 12] [0] aE (⟨⟨A1,c1,L1,Y.G,Y.cg,Y.H,Y.ch,Y.V,Y.cv⟩,by rw [aev (by simpa using h63)]<;>rfl,rfl,by rw [aev (by simpa using h63)];exact fS⟩)
 refine SR (jK 2 [74] [] (NN (cP ((a.op:Int)=(4:Int)) (λD3=>?_) (λD3=>?_))))
 ·refine SR (jK 3 [76,77,78] [(0,A_ 3 b1 12)] (j3 [0,1] (Cd Z Y hI hC hD zc d hd name false) ?_))
  rintro β1 _ _ cJ ⟨Y3,rfl,rfl,mh⟩
  replace aE:=aE.trans cJ
  exact jC 4 [11] [(2,A_ 3 b3 12)] [(3,(zC (rV ((iH Z d name false).1) Y3)))] (eO [A_ 3 b3 12] aE ⟨Y3,by rw [aew (by simpa using D3)]<;>rfl,rfl,by rw [aew (by simpa using D3)];exact mh⟩)
 refine SR (jK 2 [82] [] (NN (cP ((a.op:Int)=(5:Int)) (λMw=>?_) (λMw=>?_))))
 ·refine SR (jK 3 [84,85,86] [(0,A_ 3 b1 12)] (j3 [0,1] (Cd Z Y hI hC hD zc d hd name true) ?_))
  rintro β1 _ _ cJ ⟨Y3,rfl,rfl,mh⟩
  replace aE:=aE.trans cJ
  exact jC 4 [11] [(2,A_ 3 b3 12)] [(3,(zC (rV ((iH Z d name true).1) Y3)))] (eO [A_ 3 b3 12] aE ⟨Y3,by rw [aex (by simpa using Mw)]<;>rfl,rfl,by rw [aex (by simpa using Mw)];exact mh⟩)
 refine SR (jK 2 [90] [] (NN (cP ((a.op:Int)=(6:Int)) (λwg=>?_) (λwg=>?_))))
 ·refine SR (jK 4 [93,94,96] [(0,A_ 3 b1 12),(3,a_ 4 b2)] ?_)
  rcases hw:mQ Z au a.to with e|⟨to,aD⟩
  ·have he:=Qt hw
   refine gE [0,1] ((eU hI (λ_ _ h=>Gm Z Y h hC au Cp a.to d9)).val (ahg Bl hw)) (jK 7 [15,16,17] [] (NZ (jK 2 [102] [] (NN (cN ((e:Int)=(0:Int)) (λaeA=>SR (jC 4 [11] [(0,A_ 3 b1 12),(2,A_ 5 b3 12)] [(5,(zC (rV Z Y)))] (NN (aq.ret (aB.bE (aB.gi (aB.bE (aB.cT [0,1] [.abs (aG 95 10 Y.A Z.ns.length Y.c (bH Y.L Z.ns)),.abs (aG 3 1 Y.G Z.aH.length Y.cg (bL Z.aH))] (λIi uQ hL=>?_))))))))) (λaeA=>ahh (by simpa using aeA) he))))))
   have fS:dz Ii Z Y:=hI.at hL
   replace aE:=aE.trans uQ
   exact rB _ [A_ 3 b3 12] [0] aE (⟨Y,by rw [abD (by simpa using wg) hw]<;>rfl,rfl,by rw [abD (by simpa using wg) hw];exact fS⟩)
  have Oq:=SJ Cp hw
  refine gE [0,1] ((eU hI (λ_ _ h=>Gm Z Y h hC au Cp a.to d9)).val (ahg Bl hw)) (jK 7 [15,16,17] [] (NZ (jK 2 [102] [] (NF (KX (SR (jK 5 [105,106,107,108,109] [(0,A_ 3 b1 12)] (j3 [0,1] (Me Z Y hI hC hD zc d hd name to Oq aD) ?_))))))))
  rintro β1 _ _ cJ ⟨Y3,rfl,rfl,mh⟩
  replace aE:=aE.trans cJ
  exact jC 4 [11] [(2,A_ 3 b3 12)] [(3,(zC (rV ((ia Z d name to aD).1) Y3)))] (eO [A_ 3 b3 12] aE ⟨Y3,by rw [abE (by simpa using wg) hw]<;>rfl,rfl,by rw [abE (by simpa using wg) hw];exact mh⟩)
 refine KX (SR ?_)
 have h7:¬(1<=a.op/\a.op<=6):=zc
 refine jK 3 [113,114,115] [(0,A_ 3 b1 12)] ?_
 rcases kB Z.ns d name with hl|⟨k,hl,hk⟩
 ·refine gE [0,1] ((eU hI (λ_ _ h=>jJ Z Y h hC d hd name)).val (ahg (Value.int .i64) hl)) (jK 1 [18] [] (NZ (jK 2 [118] [] (NT (SR (jC 3 [11] [(0,A_ 3 b1 12),(1,A_ 5 b3 12)] [(5,(zC (rV Z Y)))] (NN (aq.ret (aB.bE (aB.cT [0,1] [.abs (aG 95 10 Y.A Z.ns.length Y.c (bH Y.L Z.ns)),.abs (aG 3 1 Y.G Z.aH.length Y.cg (bL Z.aH))] (λE8 qJ hL=>?_)))))))))))
  have fS:dz E8 Z Y:=hI.at hL
  replace aE:=aE.trans qJ
  exact rB _ [A_ 3 b3 12] [0] aE (⟨Y,by rw [abF h7 hl]<;>rfl,rfl,by rw [abF h7 hl];exact fS⟩)
 refine av.r9 0 rfl zc (λlM=>gE [0,1] ((eU hI (λ_ _ h=>jJ Z Y h hC d hd name)).val (ahg (Value.int .i64) hl)) (jK 1 [18] [] (NZ (jK 2 [118] [(1,wF (((k:Int):Int)<(0:Int)))] (NF (KX (SQ (jK 8 [127] [(2,a_ 3 b1),(4,x_ k Z.ns.length (lM)),(6,v_ 0 (nA Z.ns Y.L Y.A Y.c k 1 hk rfl))] (NN (cP (((nd Z.ns k).kind:Int)=(3:Int)) (λh127=>?_) (λh127=>?_)))))))))))
 ·refine SR (jC 3 [11] [(0,A_ 3 b1 12),(1,A_ 5 b3 12)] [(5,(zC (rV Z Y)))] (NN (aq.ret (aB.bE (aB.cT [0,1] [.abs (aG 95 10 Y.A Z.ns.length Y.c (bH Y.L Z.ns)),.abs (aG 3 1 Y.G Z.aH.length Y.cg (bL Z.aH))] (λPn mD hL=>?_))))))
  have fS:dz Pn Z Y:=hI.at hL
  replace aE:=aE.trans mD
  exact rB _ [A_ 3 b3 12] [0] aE (⟨Y,by rw [(Gl h7 hl).trans (ahf h127)]<;>rfl,rfl,by rw [(Gl h7 hl).trans (ahf h127)];exact fS⟩)
 refine KX (SQ (jK 8 [136] [(2,a_ 3 b1),(4,x_ k Z.ns.length (lM)),(6,v_ 0 (nA Z.ns Y.L Y.A Y.c k 1 hk rfl))] (NN (cP (((nd Z.ns k).kind:Int)=(2:Int)) (λIE=>SR (jC 3 [11] [(0,A_ 3 b1 12),(1,A_ 5 b3 12)] [(5,(zC (rV Z Y)))] (NN (aq.ret (aB.bE (aB.cT [0,1] [.abs (aG 95 10 Y.A Z.ns.length Y.c (bH Y.L Z.ns)),.abs (aG 3 1 Y.G Z.aH.length Y.cg (bL Z.aH))] (λLe mE hL=>?_))))))) (λIE=>ahh (iU h7 k hl) (λh=>h.elim h127 IE))))))
 have fS:dz Le Z Y:=hI.at hL
 replace aE:=aE.trans mE
 exact rB _ [A_ 3 b3 12] [0] aE (⟨Y,by rw [(Gl h7 hl).trans ((ahe h127).trans (ahf IE))]<;>rfl,rfl,by rw [(Gl h7 hl).trans ((ahe h127).trans (ahf IE))];exact fS⟩)
theorem aaz {β:Bs} (Z:RS) (Y:RL) (k:Nat) (hI:Bb β Z Y.L Y.H Y.V k) (hC:RC Z) (hk:k<Z.ns.length) (au:Nat) (_:au<Z.ns.length) (d:Nat) (hd:d<Z.ns.length) (name:ByteArray) (a:dO) (_:a.to.size<=1048576) (vU:a.text.size<=1048576) (h7:¬(1<=a.op/\a.op<=6)) (hl:bZ Z.ns d name=(k:Int)) (hk3:¬(nd Z.ns k).kind=3) (hk2:¬(nd Z.ns k).kind=2) :
 cr Tryz.prog β 73 #[.agg ⟨rV Z Y⟩,vI (((au:Nat):Int)),vI (((d:Nat):Int)),.string name,.agg #[vI (a.at_),vI (a.op),.string a.path,.string a.to,.string a.text]] [.abs (aG 95 10 Y.A Z.ns.length Y.c (bH Y.L Z.ns)),.abs (aG 3 1 Y.G Z.aH.length Y.cg (bL Z.aH)),.abs (aG 5 1 (Y.L.dA k) ((nd Z.ns k).data.length) (Y.L.dC k) (dL (nd Z.ns k).data))] (λβ' v l=>∃Y',v=.tuple #[.agg ⟨rV ((fo Z au d name a).1) Y'⟩,vI (fo Z au d name a).2]/\l=[]/\dz β' (fo Z au d name a).1 Y'):=by
 refine o8 Tryz.func73 Tryz.ntmps73 (λaE R=>SR (jB 1 [5] (λb18=>.ay b18 (rV Z Y) 45) (λb18=>jB 1 [9] (λb19=>.ay b19 [vI (a.at_),vI (a.op),.string a.path,.string a.to,.string a.text] 68) (λb19=>jB 2 [10] (λb20=>.ay b20 (rZ) 45) (λb20=>NZ (jK 2 [23] [(1,a_ 5 b19)] (NN (aq.block (SR (jK 2 [24] [] (NN (cP ((a.op:Int)=(1:Int)) (λrG=>ahh rG (by omega)) (λrG=>SR (jK 2 [54] [] (NN (cP ((a.op:Int)=(2:Int)) (λE7=>ahh E7 (by omega)) (λE7=>SR (jK 2 [63] [] (NN (cP ((a.op:Int)=(3:Int)) (λh63=>ahh h63 (by omega)) (λh63=>SR (jK 2 [74] [] (NN (cP ((a.op:Int)=(4:Int)) (λD3=>ahh D3 (by omega)) (λD3=>SR (jK 2 [82] [] (NN (cP ((a.op:Int)=(5:Int)) (λMw=>ahh Mw (by omega)) (λMw=>SR (jK 2 [90] [] (NN (cP ((a.op:Int)=(6:Int)) (λwg=>ahh wg (by omega)) (λwg=>KX (SR (jK 3 [113,114,115] [(0,A_ 4 b18 12)] (gE [0,1,2] (Ib (x:=.int .i64 ((k:Nat):Int)) (cb:=Y.L.dC k) hI rfl rfl (λ_ _ h=>(jJ Z Y h hC d hd name).val (ahg (Value.int .i64) hl))) (jK 1 [18] [] (NZ (jK 2 [118] [(1,wF (((k:Int):Int)<(0:Int)))] (NF (KX (SQ (av.r9 0 rfl zc (λlM=>jK 8 [127] [(2,a_ 4 b18),(4,x_ k Z.ns.length (lM)),(6,v_ 0 (nA Z.ns Y.L Y.A Y.c k 1 hk rfl))] (NN (cP (((nd Z.ns k).kind:Int)=(3:Int)) (λh127=>ahh h127 hk3) (λh127=>KX (SQ (jK 8 [136] [(2,a_ 4 b18),(4,x_ k Z.ns.length (lM)),(6,v_ 0 (nA Z.ns Y.L Y.A Y.c k 1 hk rfl))] (NN (cP (((nd Z.ns k).kind:Int)=(2:Int)) (λIE=>ahh IE hk2) (λIE=>KX (SR (jK 4 [139,140,142] [(0,A_ 4 b18 12),(3,a_ 5 b19)] (av.DZ (d:=(some 143)) (t1:=9) (t2:=51) (e:=5) (x:=(.tmp 142)) (s:=a.text) (λ_=>KB) (λ_=>KB) Tryz.underlying9 Tryz.underlying51 Tryz.underlying5 (λyH c22 afr=>av.tZ 7 [0,1,2,3,4,5,6] (eZ:=[.abs (aG 95 10 Y.A Z.ns.length Y.c (bH Y.L Z.ns)),.abs (aG 3 1 Y.G Z.aH.length Y.cg (bL Z.aH)),.abs (aG 5 1 (Y.L.dA k) ((nd Z.ns k).data.length) (Y.L.dC k) (dL (nd Z.ns k).data)),.abs R,.ay b18 (rV Z Y) 45,.ay b19 [vI (a.at_),vI (a.op),.string a.path,.string a.to,.string a.text] 68,.ay b20 (rZ) 45]) rfl rfl KB (λT8 tv hbs=>?_)))))))))))))))))))))))))))))))))))))))))))))))))))))))))
 replace hI:=hI.le tv
 replace aE:=aE.trans tv
 refine j3 [0,1,2] (Ig Z Y k hI hC hk (some ⟨yH,0,none⟩) c22 a.text.data.toList hbs (by rw [Array.length_toList];have:a.text.data.size=a.text.size:=rfl;omega) afr) ?_
 rintro ad4 _ _ Ik ⟨Y3,rfl,rfl,mh⟩
 replace aE:=aE.trans Ik
 exact jN 8 [19,21] (λp8=>[(5,A_ 4 p8 12)]) (λ_=>[]) (λp8=>.ay p8 (rV ((jT Z k a.text.data.toList).1) Y3) 45) (λp8=>NS (jC 4 [11] [(0,A_ 4 p8 12),(2,A_ 3 b20 12)] [(3,(zC (rV ((jT Z k a.text.data.toList).1) Y3)))] (eO [A_ 3 b20 12] aE ⟨Y3,by rw [(Gl h7 hl).trans ((ahe hk3).trans (ahe hk2))]<;>rfl,rfl,by rw [(Gl h7 hl).trans ((ahe hk3).trans (ahe hk2))];exact mh⟩)))
end
section
open Go.RowKit Go.Maps bG aF
section s
variable {β:Bs} {Z:RS} {Y:RL} {au d:Nat} {name:ByteArray} {a:dO}
theorem aaA {A1 G1:Option Addr} {c1 g1:Nat} {K:eP} (hR:dz β Z Y) (hC:RC Z) (hD:RD 0 Z) (Cp:au<Z.ns.length) (hd:d<Z.ns.length) (d9:a.to.size<=1048576) (vU:a.text.size<=1048576) (XE:a.op=1->(bR Z d name nF).2=0->RC (jY Z d name nF)) :
 aX Tryz.prog β 73 #[.agg ⟨rV Z ⟨A1,c1,K,G1,g1,Y.H,Y.ch,Y.V,Y.cv⟩⟩,.int .i64 ((au:Nat):Int),.int .i64 ((d:Nat):Int),.string name,.agg #[.int .i64 a.at_,.int .i64 a.op,.string a.path,.string a.to,.string a.text]]
  [.abs (j5 β (CX Z K)),.abs (aG 95 10 A1 Z.ns.length c1 (bH K Z.ns)),.abs (aG 3 1 G1 Z.aH.length g1 (bL Z.aH)),KZ Z K]
  (λv l=>∃Y',v=.tuple #[.agg ⟨rV (fo Z au d name a).1 Y'⟩,.int .i64 (fo Z au d name a).2]/\l=[.abs (j5 β (λβ'=>dz β' (fo Z au d name a).1 Y'))]):=by
 refine (cr.GJ (ι:=RL) (vv:=λY'=>.tuple #[.agg ⟨rV (fo Z au d name a).1 Y'⟩,.int .i64 (fo Z au d name a).2]) (ll:=λ_=>[]) (Φ:=λY' β'=>dz β' (fo Z au d name a).1 Y') (cr.abq λβ' dW hE=>?_)).mono Pe
 by_cases h9:∃k:Nat,¬(1<=a.op/\a.op<=6)/\bZ Z.ns d name=(k:Int)/\¬(nd Z.ns k).kind=3/\¬(nd Z.ns k).kind=2
 ·obtain⟨k,h1,h2,h3,h4⟩:=h9
  have hk:k<Z.ns.length:=by
   grind [kB]
  refine cr.ad6 (pre':=[.abs (aG 95 10 A1 Z.ns.length c1 (bH K Z.ns)),.abs (aG 3 1 G1 Z.aH.length g1 (bL Z.aH)),.abs (lg Z.ns K k)]++[.abs (iL (nU (lg Z.ns K) k dV.none) Z.ns.length)]) (cr.Ng λkx hL=>?_) (λA w hS=>?_)
  ·have hd2:∀i,i<Z.ns.length->i≠k->bJ kx (K.dA i) (nd Z.ns i).data:=by
    obtain⟨F,q1,q2⟩:=hL.get 0 rfl
    refine iL.base q1 q2 rfl (Φ:=λi b=>i≠k->bJ b (K.dA i) (nd Z.ns i).data) (λi _ F hF hO bV=>?_)
    have hF:(HP.abs (lg Z.ns K i)).h F kx.w0:=by
     have e:nU (lg Z.ns K) k dV.none i=lg Z.ns K i:=ahe bV
     rw [e] at hF;exact hF
    exact cD.gU (show (HP.abs (aG 5 1 (K.dA i) (nd Z.ns i).data.length (K.dC i) (dL (nd Z.ns i).data))).h F _ from hF) hO rfl
   have hI:Bb kx Z K Y.H Y.V k:=⟨hd2,λi hi=>(hE i hi).le hL.le,(hR.h.le dW).le hL.le,(hR.v.le dW).le hL.le⟩
   refine (aaz Z ⟨A1,c1,K,G1,g1,Y.H,Y.ch,Y.V,Y.cv⟩ k hI hC hk au Cp d hd name a d9 vU h1 h2 h3 h4).mono ?_
   grind
  have:=hS.Ru (i:=2) (k:=k) rfl hk
  exact this.pick (ar:=[0,1,4,2,3]) rfl rfl
 refine cr.Ng (pre:=[.abs (aG 95 10 A1 Z.ns.length c1 (bH K Z.ns)),.abs (aG 3 1 G1 Z.aH.length g1 (bL Z.aH))]) (R:=[KZ Z K]) λkx hL=>?_
 have hI:lV kx Z K Y.H Y.V:=by
  obtain⟨F,q1,q2⟩:=hL.get 0 rfl
  exact⟨adt q1 q2 rfl,λi hi=>(hE i hi).le hL.le,(hR.h.le dW).le hL.le,(hR.v.le dW).le hL.le⟩
 refine (aay Z ⟨A1,c1,K,G1,g1,Y.H,Y.ch,Y.V,Y.cv⟩ hI hC hD au Cp d hd name a d9 vU XE (λh1 k h2=>ahF (λh3=>h9 ⟨k,h1,h2,λe=>h3 (.inl e),λe=>h3 (.inr e)⟩))).mono ?_
 grind
theorem Ni {r:Int} (h:a.op<1\/a.op>7):mw Z r a=(Z,230):=ahf h
theorem abG {r:Int} (h:¬(a.op<1\/a.op>7)) (h1:¬0<=gJ Z.ns r):mw Z r a=(Z,141):=by unfold mw;rw [ahe h,ahe h1]
theorem SM {r:Int} (h:¬(a.op<1\/a.op>7)) (h1:0<=gJ Z.ns r) (h2:¬(nd Z.ns (cq Z.ns r)).kind=2):mw Z r a=(Z,173):=by unfold mw;rw [ahe h,ahf h1,ahe h2]
theorem XF {r e:Int} (h:¬(a.op<1\/a.op>7)) (h1:0<=gJ Z.ns r) (h2:(nd Z.ns (cq Z.ns r)).kind=2) (hw:mQ Z (cq Z.ns r) a.path=.error e):mw Z r a=(Z,e):=by unfold mw;rw [ahe h,ahf h1,ahf h2,hw]
theorem abH {r:Int} (h:¬(a.op<1\/a.op>7)) (h1:0<=gJ Z.ns r) (h2:(nd Z.ns (cq Z.ns r)).kind=2) (hw:mQ Z (cq Z.ns r) a.path=.ok (d,name)) (h3:¬(fo Z (cq Z.ns r) d name a).2=0):mw Z r a=(Z,(fo Z (cq Z.ns r) d name a).2):=by
 grind [mw]
theorem abI {r:Int} (h:¬(a.op<1\/a.op>7)) (h1:0<=gJ Z.ns r) (h2:(nd Z.ns (cq Z.ns r)).kind=2) (hw:mQ Z (cq Z.ns r) a.path=.ok (d,name)) (h3:(fo Z (cq Z.ns r) d name a).2=0):mw Z r a=((fo Z (cq Z.ns r) d name a).1,0):=by
 grind [mw]
end s
end
section
open Go.RowKit Go.Maps bG aF
attribute [local irreducible] av bP aq aB fF oA
theorem acK {β:Bs} (Z:RS) (Y:RL) (hR:dz β Z Y) (hC:RC Z) (hD:RD 0 Z) (au:Int) (a:dO) (hpa:a.path.size<=1048576) (d9:a.to.size<=1048576) (vU:a.text.size<=1048576) (XE:0<=gJ Z.ns au->(nd Z.ns (cq Z.ns au)).kind=2->∀d name,mQ Z (cq Z.ns au) a.path=.ok (d,name)->a.op=1->(bR Z d name nF).2=0->RC (jY Z d name nF)) :
 cr Tryz.prog β 54 #[.agg ⟨rV Z Y⟩,vI (au),.agg #[vI (a.at_),vI (a.op),.string a.path,.string a.to,.string a.text]] [] (λβ' v l=>∃Y',v=.tuple #[.agg ⟨rV ((mw Z au a).1) Y'⟩,vI (mw Z au a).2]/\l=[]/\dz β' (mw Z au a).1 Y'):=by
 refine o8 Tryz.func54 Tryz.ntmps54 (λaE R=>SR (jB 1 [3] (λb1=>.ay b1 (rV Z Y) 45) (λb1=>jB 1 [5] (λb2=>.ay b2 [vI (a.at_),vI (a.op),.string a.path,.string a.to,.string a.text] 68) (λb2=>jB 2 [6] (λb3=>.ay b3 (rZ) 45) (λb3=>NZ (jK 4 [16] [(1,a_ 2 b2)] (sP 16 ((a.op:Int)<(1:Int)) (λpz=>jK 4 [20] [] (NT (SR (jC 3 [7] [(0,A_ 1 b1 12),(1,A_ 3 b3 12)] [(3,(zC (rV Z Y)))] (eO [A_ 3 b3 12] aE ⟨Y,by rw [Ni zc]<;>rfl,rfl,by rw [Ni zc];exact hR⟩))))) (λpz=>jK 4 [20] [(1,a_ 2 b2)] (NN (cP ((a.op:Int)>(7:Int)) (λpu=>SR (jC 3 [7] [(0,A_ 1 b1 12),(1,A_ 3 b3 12)] [(3,(zC (rV Z Y)))] (eO [A_ 3 b3 12] aE ⟨Y,by rw [Ni zc]<;>rfl,rfl,by rw [Ni zc];exact hR⟩))) (λpu=>KX (SR (jK 3 [23,24] [(1,a_ 1 b1)] ?_)))))))))))))
 by_cases h1:0<=gJ Z.ns au
 ·have hk1:=(mW h1).1
  refine gE [] ((ze Y.A Y.c Z.ns Y.L hR.n hC.fO (by have:=hC.ns;omega) au).val (ahg (Value.int .i64) (mW h1).2.2)) (jK 1 [8] [] (NZ (jK 2 [27] [(1,wF (((((cq Z.ns au):Nat):Int):Int)<(0:Int)))] (NF (KX (SQ (jK 8 [36] [(2,a_ 1 b1),(4,x_ (cq Z.ns au) Z.ns.length (aQ.hd hR.n (i:=(cq Z.ns au)) zc)),(6,r_ (aQ.rd hR.n (i:=(cq Z.ns au)) zc (j:=1) rfl))] (NN (cN (((nd Z.ns (cq Z.ns au)).kind:Int)=(2:Int)) (λD5=>SR (jC 3 [7] [(0,A_ 1 b1 12),(1,A_ 3 b3 12)] [(3,(zC (rV Z Y)))] (eO [A_ 3 b3 12] aE ⟨Y,by rw [SM zc h1 D5]<;>rfl,rfl,by rw [SM zc h1 D5];exact hR⟩))) (λD5=>KX (SR (jK 4 [39,40,42] [(0,A_ 1 b1 12),(3,a_ 2 b2)] ?_))))))))))))
  rcases hw:mQ Z (cq Z.ns au) a.path with e|⟨d,name⟩
  ·have he:=Qt hw
   exact gE [] ((Gm Z Y hR hC (cq Z.ns au) hk1 a.path hpa).val (ahg Bl hw)) (jK 7 [9,10,11] [] (NZ (jK 2 [48] [] (NN (cN ((e:Int)=(0:Int)) (λh48=>SR (jC 4 [7] [(0,A_ 1 b1 12),(2,A_ 3 b3 12)] [(3,(zC (rV Z Y)))] (eO [A_ 3 b3 12] aE ⟨Y,by rw [XF zc h1 D5 hw]<;>rfl,rfl,by rw [XF zc h1 D5 hw];exact hR⟩))) (λh48=>ahh (by simpa using h48) he))))))
  have hd:=SJ hk1 hw
  refine gE [] ((Gm Z Y hR hC (cq Z.ns au) hk1 a.path hpa).val (ahg Bl hw)) (jK 7 [9,10,11] [] (NZ (jK 2 [48] [] (NF (KX (aq.seq (aq.rz (S:=[.ay b1 (rV Z Y) 45,.ay b2 [vI (a.at_),vI (a.op),.string a.path,.string a.to,.string a.text] 68]) (yY [0,2,3,4,5] (oJ 10 [(false,11),(false,12)] [(false,1),(false,6),(true,7),(true,8),(true,9)])) [1,2] (gT (oJ 10 [(false,11),(false,12)] [(false,1),(false,6),(true,7),(true,8),(true,9)]) [(3,vP b1),(6,vP b3),(52,.agg ⟨rV Z Y⟩),(54,vI ↑(cq Z.ns au)),(55,vI ↑d),(56,.string name),(57,.agg #[vI (a.at_),vI (a.op),.string a.path,.string a.to,.string a.text])] [0,2,3,4,5] [(0,A_ 0 b1 12),(4,A_ 1 b2 5)] (oA.one (j:=10) (dj:=12) (R:=λf_ l_=>∃A2:Option Addr,∃c2:Nat,∃K:eP,∃G2:Option Addr,∃g2:Nat,∃Y2:RL,f_=[(60,vI ((fo Z (cq Z.ns au) d name a).2)),(59,.agg ⟨rV ((fo Z (cq Z.ns au) d name a).1) Y2⟩),(51,.tuple #[.agg ⟨rV ((fo Z (cq Z.ns au) d name a).1) Y2⟩,vI ((fo Z (cq Z.ns au) d name a).2)]),(58,.tuple #[.agg ⟨rV ((fo Z (cq Z.ns au) d name a).1) Y2⟩,vI ((fo Z (cq Z.ns au) d name a).2)]),(53,.agg ⟨rW Z A2 c2 G2 g2 Y.H Y.ch Y.V Y.cv⟩),(3,vP b1),(6,vP b3),(52,.agg ⟨rV Z Y⟩),(54,vI ↑(cq Z.ns au)),(55,vI ↑d),(56,.string name),(57,.agg #[vI (a.at_),vI (a.op),.string a.path,.string a.to,.string a.text])]/\l_=[.abs (j5 β (λβ'=>dz β' (fo Z (cq Z.ns au) d name a).1 Y2))]) [1,2] [(false,1,53),(false,6,58),(true,7,51),(true,8,59),(true,9,60)] (jt.of (ι:=Nat) (v:=λ(b4:Nat)=>vP b4) (l:=λ(b4:Nat)=>[.ay b4 (rZ) 45]) [53,58,51,59,60] rfl rfl rfl rfl ?_) ?_ ?_)))))))))
  ·intro u Aq
   exact jB 1 [12] (λb4=>.ay b4 (rZ) 45) (λb4=>NL (MD b4 [12,53,58,51,59,60,3,6,52,54,55,56,57] [1,0]))
  ·refine eF.step (jt.of (ι:=(Option Addr)×Nat×eP×(Option Addr)×Nat) (v:=λ((A2,c2,K,G2,g2):(Option Addr)×Nat×eP×(Option Addr)×Nat)=>.agg ⟨rW Z A2 c2 G2 g2 Y.H Y.ch Y.V Y.cv⟩) (l:=λ((A2,c2,K,G2,g2):(Option Addr)×Nat×eP×(Option Addr)×Nat)=>[.abs (j5 β (CX Z K)),.abs (aG 95 10 A2 Z.ns.length c2 (bH K Z.ns)),.abs (aG 3 1 G2 Z.aH.length g2 (bL Z.aH)),.abs (iL (lg Z.ns K) Z.ns.length)]) [12] rfl rfl rfl rfl ?_) ?_
   ·intro u Aq
    refine gL [] (GR hR hC.toRB) ?_
    rintro _ _ ⟨A2,c2,K,G2,g2,rfl,rfl⟩
    exact NL (MD (A2,c2,K,G2,g2) [53,12,3,6,52,54,55,56,57] [0,1,2,3,4])
   rintro _ _ ⟨⟨A2,c2,K,G2,g2⟩,rfl,rfl⟩
   refine (eF.step (jt.of (ι:=RL) (v:=λ(Y2:RL)=>.tuple #[.agg ⟨rV ((fo Z (cq Z.ns au) d name a).1) Y2⟩,vI ((fo Z (cq Z.ns au) d name a).2)]) (l:=λ(Y2:RL)=>[.abs (j5 β (λβ'=>dz β' (fo Z (cq Z.ns au) d name a).1 Y2))]) [12] rfl rfl rfl rfl ?_) ?_)
   ·intro u Aq
    exact gX [0,1,2,3] (aaA (A1:=A2) (c1:=c2) (K:=K) (G1:=G2) (g1:=g2) hR hC hD hk1 hd d9 vU (XE h1 D5 d name hw)) (λY2=>NL (MD Y2 [58,12,53,3,6,52,54,55,56,57] [0,1]))
   rintro _ _ ⟨Y2,rfl,rfl⟩
   exact (eF.read (.tuple #[.agg ⟨rV ((fo Z (cq Z.ns au) d name a).1) Y2⟩,vI ((fo Z (cq Z.ns au) d name a).2)]) (eF.read (.agg ⟨rV ((fo Z (cq Z.ns au) d name a).1) Y2⟩) (eF.read (.int .i64 ((fo Z (cq Z.ns au) d name a).2)) ⟨A2,c2,K,G2,g2,Y2,rfl,rfl⟩)))
  rintro _ _ ⟨A2,c2,K,G2,g2,Y2,rfl,rfl⟩ _ _ ⟨b4,rfl,rfl⟩
  refine kC [3,4] [] [(0,A_ 1 b4 12)] [(1,(zC (rV ((fo Z (cq Z.ns au) d name a).1) Y2)))] (fF.last KB (jK 1 [11] [] (NL (aB.np (NX (SQ (av.tZ 0 [1,2,3,4,5] (eZ:=[.ay b4 (rV ((fo Z (cq Z.ns au) d name a).1) Y2) 45,.abs R,.ay b1 (rV Z Y) 45,.ay b2 [vI (a.at_),vI (a.op),.string a.path,.string a.to,.string a.text] 68,.ay b3 (rZ) 45]) rfl rfl KB (λE9 iq yI=>?_))))))))
  replace hR:=hR.le iq
  replace aE:=aE.trans iq
  exact jK 2 [62] [] (NN (cN (((fo Z (cq Z.ns au) d name a).2:Int)=(0:Int)) (λGu=>SR (jC 4 [7] [(0,A_ 2 b1 12),(2,A_ 4 b3 12)] [(4,(zC (rV Z Y)))] (eO [A_ 4 b3 12] aE ⟨Y,by rw [abH zc h1 D5 hw Gu]<;>rfl,rfl,by rw [abH zc h1 D5 hw Gu];exact hR⟩ [1]))) (λGu=>KX (SR (jC 3 [7] [(0,A_ 0 b4 12),(1,A_ 4 b3 12)] [(4,(zC (rV ((fo Z (cq Z.ns au) d name a).1) Y2)))] (eO [A_ 4 b3 12] aE ⟨Y2,by rw [abI zc h1 D5 hw Gu]<;>rfl,rfl,by rw [abI zc h1 D5 hw Gu];exact yI⟩ [1]))))))
 exact gE [] ((ze Y.A Y.c Z.ns Y.L hR.n hC.fO (by have:=hC.ns;omega) au).val (ahg (Value.int .i64) (CM h1))) (jK 1 [8] [] (NZ (jK 2 [27] [] (NT (SR (jC 3 [7] [(0,A_ 1 b1 12),(1,A_ 3 b3 12)] [(3,(zC (rV Z Y)))] (eO [A_ 3 b3 12] aE ⟨Y,by rw [abG zc h1]<;>rfl,rfl,by rw [abG zc h1];exact hR⟩)))))))
end
section
open Go.RowKit Go.Maps bG aF
section g
variable {R:RS} {d k to f:Nat} {name aD:ByteArray} {n:aO} {c:aP} {b:Bool} {id:Int}
theorem acL {top:Nat} {a:dO} (h:GL R) (hn:R.ns.length<=4096):GL (fo R top d name a).1:=by
 grind [fo,St,PN,PO,PS]
theorem aeB {au:Int} {a:dO} (h:GL R) (hn:R.ns.length<=4096):GL (mw R au a).1:=by
 grind [mw,acL,GL]
end g
section p
variable {S S2:bB} {g:List Int} {β:Bs} {Y:RL}
theorem Pair.afs (h:Pair S g) {au:Int} {a:dO} {d:Nat} {name:ByteArray} (h1:0<=gJ (toR S g).ns au) (hk:(nd (toR S g).ns (cq (toR S g).ns au)).kind=2) (hw:mQ (toR S g) (cq (toR S g).ns au) a.path=.ok (d,name)) (hm:(bR (toR S g) d name nF).2=0):RC (jY (toR S g) d name nF):=by
 have hr:=h.toRelR
 have hI:=hr.inv.toInv0
 have ha:gJ (toR S g).ns au=_:=PB hI au
 cases e:aF.get S.ar au with
 |none=>
   grind
 |some t=>
   rw [e] at ha
   replace ha:gJ (toR S g).ns au=(bW S t:Int):=ha
   obtain⟨hl,_⟩:=Iq hI e
   have Cg:cq (toR S g).ns au=bW S t:=by unfold cq;rw [ha];exact ahJ _
   have h2:t.kind=2:=by rw [Cg,nh hI hl] at hk;exact hk
   have ht:t=⟨t.k,2⟩:=by rw [←h2]
   have hl2:aT S.ar ⟨t.k,2⟩:=by rw [←ht];exact hl
   rw [Cg,ht,IC hr hl2] at hw
   rcases yK hr.inv hl2 a.path with ⟨e,h,he⟩|⟨d',name',h',hd,lS,j6⟩
   ·rw [h] at hw;cases hw
   rw [h'] at hw
   cases hw
   rcases xG (n:=nF) hr hd name (λq=>ahh (show (1:Int)=3 from q.1) Pd) with ⟨q1,q2⟩|⟨q1,q2⟩
   ·obtain⟨hA,hG⟩:=Ge (name:=name) (o:=cU S.X 1 420) (n:=nF) hr hd ⟨rfl,rfl,rfl,rfl,rfl⟩ ⟨rfl,rfl,rfl,rfl,rfl,rfl,rfl⟩
    have di:bT (gu S d' name (cU S.X 1 420)):=hr.inv.FY hd lS j6 q1 (.inl rfl) ⟨Pd,Pd⟩ (.inl ⟨Pd,rfl⟩)
    rw [hA]
    exact abr ⟨di,hG⟩ h.gl
   rw [q2] at hm;exact ahh hm q1
theorem Pair.act (h:Pair S g) (au:Int) (a:dO):∃g',mw (toR S g) au a=(toR (cR S au a).2 g',(cR S au a).1)/\Pair (cR S au a).2 g':=by
 obtain⟨g',h1,h2⟩:=acH h.toRelR au a
 have h3:GL (toR S g):=h.gl
 have h4:=aeB (au:=au) (a:=a) h3 (by have h5:=h.inv.toInv0.len;grind [toR,ig])
 rw [h1] at h4
 exact⟨g',h1,h2,h4⟩
theorem aaB (h:Pair S g) (hR:dz β (toR S g) Y) (au:Int) (a:dO) (hpa:a.path.size<=1048576) (d9:a.to.size<=1048576) (vU:a.text.size<=1048576) :
 cr Tryz.prog β 54 #[.agg ⟨rV (toR S g) Y⟩,.int .i64 au,.agg #[.int .i64 a.at_,.int .i64 a.op,.string a.path,.string a.to,.string a.text]] [] (λβ' v l=>∃g' Y',v=.tuple #[.agg ⟨rV (toR (cR S au a).2 g') Y'⟩,.int .i64 (cR S au a).1]/\l=[]/\Pair (cR S au a).2 g'/\dz β' (toR (cR S au a).2 g') Y'):=by
 obtain⟨g',h1,h2⟩:=h.act au a
 refine (acK (toR S g) Y hR h.rc h.rd au a hpa d9 vU (λq1 q2 d name hw _ hm=>h.afs q1 q2 hw hm)).mono ?_
 grind
end p
structure UL where
 A:Option Addr
 a:Nat
 B:Option Addr
 b:Nat
def uV (Z:RS) (Y:RL) (au:Int) (U:UL) (nf na:Nat) (n:Int):List Value:=rV Z Y++[.int .i64 au,.slice U.A nf U.a,.slice U.B na U.b,.int .i64 n]
def uZ:List Value:=rZ++[.int .i64 0,.slice none 0 0,.slice none 0 0,.int .i64 0]
structure MK (β:Bs) (U:UL) (fs:List dI) (xs:List dO):Prop where
 f:cD β U.A (bO iJ fs)
 x:cD β U.B (bO jP xs)
theorem MK.le {β β':Bs} {U:UL} {fs:List dI} {xs:List dO} (h:MK β U fs xs) (g:β.le β'):MK β' U fs xs:=⟨h.f.le g,h.x.le g⟩
section u
variable {S S2:bB} {g:List Int} {fs:List dI} {xs:List dO} {au z k:Int} {j n:Nat} {c c2:aP} {A:Option Addr} {p:Nat}
theorem UM (h:j<xs.length) (e:(act xs j).at_=z):kK au S (dS (xs.take (j+1)) z)=(cR (kK au S (dS (xs.take j) z)) au (act xs j)).2:=by
 rw [DH h,xD,ahf e,JG]
theorem UN (h:j<xs.length) (e:¬(act xs j).at_=z):kK au S (dS (xs.take (j+1)) z)=kK au S (dS (xs.take j) z):=by
 rw [DH h,xD,ahe e]
theorem D1 (h:j<fs.length) (h0:iQ (fs.take j) z=0) (e:¬((pK fs j).at_=z/\FK (pK fs j))):iQ (fs.take (j+1)) z=0:=by
 rw [wQ h,tS,ahf h0,ahe e]
theorem UO (h:iQ fs z≠0) (gs:List dI):iQ (fs++gs) z=iQ fs z:=by
 induction fs with
 |nil=>exact ahh rfl h
 |cons f r ih=>
   show (if f.at_=z/\FK f then f.kind else iQ (r++gs) z)=(if f.at_=z/\FK f then f.kind else iQ r z)
   split
   ·rfl
   rename_i e
   exact ih (λq=>h ((ahe e).trans q))
theorem XG (h:j<fs.length) (h0:iQ (fs.take j) z=0) (e:(pK fs j).at_=z/\FK (pK fs j)):iQ fs z=(pK fs j).kind:=by
 have h1:iQ (fs.take (j+1)) z=(pK fs j).kind:=by rw [wQ h,tS,ahf h0,ahf e]
 have h2:iQ (fs.take (j+1)) z≠0:=by have:=e.2.1;omega
 have h3:=UO h2 (fs.drop (j+1))
 rw [List.take_append_drop] at h3
 rw [h3,h1]
theorem XH (h:¬j<fs.length) (h0:iQ (fs.take j) z=0):iQ fs z=0:=by
 rwa [ahZ zc] at h0
end u
section p
variable {S S2:bB} {g:List Int} {β:Bs} {Y:RL} {c c2:aP}
theorem aaC (h:Pair S g) (hR:dz β (toR S g) Y) (au:Int) (a:dO) (hpa:a.path.size<=1048576) (d9:a.to.size<=1048576) (vU:a.text.size<=1048576) :
 aX Tryz.prog β 54 #[.agg ⟨rV (toR S g) Y⟩,.int .i64 au,.agg #[.int .i64 a.at_,.int .i64 a.op,.string a.path,.string a.to,.string a.text]] [] (λv l=>∃g' Y',v=.tuple #[.agg ⟨rV (toR (cR S au a).2 g') Y'⟩,.int .i64 (cR S au a).1]/\l=[.abs (j5 β (λβ'=>Pair (cR S au a).2 g'/\dz β' (toR (cR S au a).2 g') Y'))]):=
 (cr.GJ (ι:=List Int×RL) (vv:=λx=>.tuple #[.agg ⟨rV (toR (cR S au a).2 x.1) x.2⟩,.int .i64 (cR S au a).1]) (ll:=λ_=>[]) (Φ:=λx β'=>Pair (cR S au a).2 x.1/\dz β' (toR (cR S au a).2 x.1) x.2)
  ((aaB h hR au a hpa d9 vU).mono (by rintro β' v l _ ⟨g',Y',rfl,rfl,h1,h2⟩;exact⟨(g',Y'),rfl,rfl,h1,h2⟩))).mono (by rintro v l ⟨⟨g',Y'⟩,rfl,rfl⟩;exact⟨g',Y',rfl,rfl⟩)
theorem Lf {xs:List dO} {j:Nat} (h:j<xs.length):act xs j∈xs:=by
 unfold act
 rw [ahv,ahs h]
 exact List.getElem_mem h
variable {au e k:Int} {A:Option Addr}
theorem UQ:(cI au c).name=c.name:=by unfold cI;split<;>rfl
theorem UR:(cI au c).text=c.text:=by unfold cI;split<;>rfl
theorem aaD:(cI au c).dA=c.dA:=by unfold cI;split<;>rfl
theorem aaE:(cI au c).dC=c.dC:=by unfold cI;split<;>rfl
theorem aaF {d:List UInt8} (h:c.data=d):({c with data:=d}:aP)=c:=by subst h;rfl
theorem UU (h:gG S c=(S2,c2)):c2.data=c.data:=by
 have h1:=O4 (S:=S) (c:=c)
 rwa [h] at h1
theorem mX.rowAt {β':Bs} {R:List HP} {T:TypeId} {s n cp:Nat} {xs:List Value} (h:mX β R β') (i:Nat) (hp:R[i]?=some (.abs (aG T s A n cp xs))):cD β' A xs:=by
 obtain⟨F,h1,h2⟩:=h.get i hp
 exact cD.gU h1 h2 rfl
end p
end
section
open Go.RowKit Go.Maps bG aF
attribute [local irreducible] av bP aq aB fF oA
noncomputable abbrev yR1 (c:aP) (B) (p) (e):=([(0,vI (c.op)),(1,vI (c.aN)),(3,.string c.name),(4,.string c.text),(5,.slice B (c.data.length) (p)),(11,vI (e))]:Fr)
theorem XI {β:Bs} (Z:RS) (Y:RL) (au:Int) (U:UL) (fs:List dI) (na k:Nat) (hk:k<=1048576) (hF:cD β U.A (bO iJ fs)) (hfl:fs.length<=2097152) {kf:Int} (Cj:iQ fs ((k+1:Nat):Int)=kf) :
 aX Tryz.prog β 34 #[.agg ⟨uV Z Y au U fs.length na ((k:Nat):Int)⟩] [] (λv l=>v=vI kf/\l=[]):=by
 subst Cj
 refine SE Tryz.func34 Tryz.ntmps34 (λR=>SR (jB 2 [1] (λb1=>.ay b1 (uV Z Y au U fs.length na (↑k)) 47) (λb1=>NZ (jK 1 [3] [] (NN (aq.block (lJ (ι:=Nat) (λ(j:Nat)=>(j<=fs.length)/\(iQ (fs.take j) ((k+1:Nat):Int)=0)) (λ(j:Nat)=>fs.length-j) (λ(j:Nat)=>[(1,vP b1),(3,vI ↑j)]) (λ(j:Nat)=>[.abs R,.ay b1 (uV Z Y au U fs.length na (↑k)) 47]) 0 [0,1] (⟨ahj _,rfl⟩) ?_)))))))
 rintro j ⟨hj,h0⟩
 exact SQ (jK 6 [10] [(3,a_ 1 b1)] (NN (cP ((((j:Nat):Int):Int)<(((fs.length:Nat):Int):Int)) (λh10=>KX (aq.seq (aq.block (SR (jN 8 [4] (λb2=>[(2,a_ 1 b1),(4,x_ j fs.length (aaV hF (i:=j) zc)),(5,r2 (Na hF (i:=j) zc (j:=0) rfl) (Na hF (i:=j) zc (j:=1) rfl)),(7,A_ 2 b2 2)]) (λ_=>[]) (λb2=>.ay b2 [vI ((pK fs j).at_),vI ((pK fs j).kind)] 66) (λb2=>NS (jK 7 [25] [(1,a_ 2 b2),(3,a_ 1 b1),(4,wJ ((k:Int)+1) (↑(k+1)))] (sP 25 (((pK fs j).at_:Int)=(((k+1:Nat):Int):Int)) (λpZ=>jK 5 [30] [(1,a_ 2 b2)] (sP 30 (((pK fs j).kind:Int)>=(1:Int)) (λnQ=>jK 4 [34] [(1,a_ 2 b2)] (NN (cP (((pK fs j).kind:Int)<=(3:Int)) (λyj=>SR (jK 3 [2] [(1,a_ 2 b2)] (eN (v:=(vI ((pK fs j).kind))) ⟨ahg (Value.int .i64) (XG zc h0 ⟨zc,zc,zc⟩).symm,rfl⟩))) (λyj=>KX (aq.region (jK 3 [3] [(1,wJ ((j:Int)+1) (↑(j+1)))] (NL (tJ ((j+1)) [0,1] (⟨zc,D1 zc h0 (by unfold FK;omega)⟩))))))))) (λnQ=>jK 4 [34] [] (NF (KX (aq.region (jK 3 [3] [(1,wJ ((j:Int)+1) (↑(j+1)))] (NL (tJ ((j+1)) [0,1] (⟨zc,D1 zc h0 (by unfold FK;omega)⟩)))))))))) (λpZ=>jK 9 [34] [] (NF (KX (aq.region (jK 3 [3] [(1,wJ ((j:Int)+1) (↑(j+1)))] (NL (tJ ((j+1)) [0,1] (⟨zc,D1 zc h0 (by unfold FK;omega)⟩)))))))))))))))) (λh10=>XX (zR (v:=(vI 0)) ⟨ahg (Value.int .i64) (XH zc h0).symm,rfl⟩)))))
theorem CB {β:Bs} (c:aP) (hb:bJ β c.dA c.data) (hl:c.data.length<=140737488355328) (e:Int) :
 aX Tryz.prog β 36 #[.agg ⟨aL c⟩,vI (e)] [] (λv l=>∃B p,v=.agg ⟨aL (fk (jg c e) B p)⟩/\l=[.abs (aG 5 1 B c.data.length p (dL c.data))]):=by
 refine SE Tryz.func36 Tryz.ntmps36 (λR=>SR (jB 1 [2] (λb3=>.ay b3 (aL c) 53) (λb3=>jB 1 [4] (λb4=>.ay b4 [vI 0,vI 0,vI 0,.string ⟨#[]⟩,.string ⟨#[]⟩,.slice none (0) (0),vI 0,vI 0,vI 0,vI 0,vI 0,vI 0,vI 0] 53) (λb4=>NS (jK 2 [6] [(1,a_ 1 b3)] (gL [] (qg c.dA c.dC c.data hb hl) ?_))))))
 rintro _ _ ⟨B,p,rfl,rfl⟩
 exact jC 2 [] [(1,a_ 2 b3)] [(2,[(5,.slice B (c.data.length) (p))])] (NS (jC 2 [] [(1,a_ 2 b3)] [(2,[(12,vI 0)])] (NS (jC 3 [] [(2,a_ 2 b3)] [(2,[(11,vI (e))])] (NZ (jK 4 [15] [(1,a_ 2 b3)] (sP 15 ((c.op:Int)=(11:Int)) (λNG=>jK 4 [19] [] (NT (SR (jC 8 [] [(1,a_ 2 b3),(3,a_ 2 b3),(5,a_ 2 b3),(7,a_ 2 b3)] [(2,[(2,vI 0),(6,vI 0),(7,vI 0),(8,vI 0)])] (NN (aq.region (jC 3 [] [(2,A_ 2 b3 2)] [(2,[(9,vI 0),(10,vI 0)])] (NS (jC 2 [] [(0,A_ 2 b3 13),(1,A_ 3 b4 13)] [(3,(yR1 c B p e))] (eS (v:=(.agg ⟨aL (fk {c with other:=0,mode:=0,bg:=0,bh:=0,aU:=0,aJ:=0,code:=e,answer:=0} B p)⟩)) [A_ 3 b4 13] ⟨B,p,ahg (λx=>Value.agg ⟨aL x⟩) (show _=fk (jg c e) B p by unfold jg;rw [ahf zc]<;>rfl),rfl⟩)))))))))) (λNG=>jK 4 [19] [(1,a_ 2 b3)] (NN (cP ((c.op:Int)=(12:Int)) (λGv=>SR (jC 8 [] [(1,a_ 2 b3),(3,a_ 2 b3),(5,a_ 2 b3),(7,a_ 2 b3)] [(2,[(2,vI 0),(6,vI 0),(7,vI 0),(8,vI 0)])] (NN (aq.region (jC 3 [] [(2,A_ 2 b3 2)] [(2,[(9,vI 0),(10,vI 0)])] (NS (jC 2 [] [(0,A_ 2 b3 13),(1,A_ 3 b4 13)] [(3,(yR1 c B p e))] (eS (v:=(.agg ⟨aL (fk {c with other:=0,mode:=0,bg:=0,bh:=0,aU:=0,aJ:=0,code:=e,answer:=0} B p)⟩)) [A_ 3 b4 13] ⟨B,p,ahg (λx=>Value.agg ⟨aL x⟩) (show _=fk (jg c e) B p by unfold jg;rw [ahf zc]<;>rfl),rfl⟩)))))))) (λGv=>KX (SR (jC 2 [] [(0,A_ 2 b3 13),(1,A_ 3 b4 13)] [(3,[(0,vI (c.op)),(1,vI (c.aN)),(2,vI (c.other)),(3,.string c.name),(4,.string c.text),(5,.slice B (c.data.length) (p)),(6,vI (c.mode)),(7,vI (c.bg)),(8,vI (c.bh)),(9,vI (c.aU)),(10,vI (c.aJ)),(11,vI (e))])] (eS (v:=(.agg ⟨aL (fk {c with code:=e,answer:=0} B p)⟩)) [A_ 3 b4 13] ⟨B,p,ahg (λx=>Value.agg ⟨aL x⟩) (show _=fk (jg c e) B p by unfold jg;rw [ahe zc]<;>rfl),rfl⟩))))))))))))))
theorem XJ {β:Bs} {S:bB} {g:List Int} (hp:Pair S g) (Y:RL) (hR:dz β (toR S g) Y) (au:Int) (U:UL) (nf:Nat) (xs:List dO) (k:Nat) (hk:k<=1048576) (hA:cD β U.B (bO jP xs)) (hX:kZ xs 1048576) {SW:bB} (hSW:kK au S (dS xs ((k+1:Nat):Int))=SW) :
 cr Tryz.prog β 33 #[.agg ⟨uV (toR S g) Y au U nf xs.length ((k:Nat):Int)⟩] [] (λβ' v l=>∃g' Y',v=.agg ⟨uV (toR SW g') Y' au U nf xs.length ((k:Nat):Int)⟩/\l=[]/\Pair SW g'/\dz β' (toR SW g') Y'):=by
 subst hSW
 have hxl:=hX.len
 refine o8 Tryz.func33 Tryz.ntmps33 (λaE R=>SR (jB 1 [1] (λb5=>.ay b5 (uV (toR S g) Y au U nf xs.length (↑k)) 47) (λb5=>jB 1 [2] (λb6=>.ay b6 (uZ) 47) (λb6=>NZ (jK 1 [3] [] (NN (aq.block (lB (ι:=Nat×Bs×bB×(List Int)×RL) (λ(j,b,S2,g2,Y2)=>b) (λ(j,b,S2,g2,Y2)=>(j<=xs.length)/\(β.le b)/\(cD b U.B (bO jP xs))/\(Pair S2 g2)/\(dz b (toR S2 g2) Y2)/\(S2=kK au S (dS (xs.take j) ((k+1:Nat):Int)))) (λ(j,b,S2,g2,Y2)=>xs.length-j) (λ(j,b,S2,g2,Y2)=>[(1,vP b5),(2,vP b6),(3,vI ↑j)]) (λ(j,b,S2,g2,Y2)=>[.ay b5 (uV (toR S2 g2) Y2 au U nf xs.length (↑k)) 47,.ay b6 (uZ) 47,.abs R]) (0,β,S,g,Y) [1,2,0] (⟨ahj _,aE,hA,hp,hR,rfl⟩) ?_))))))))
 rintro⟨j,b,S2,g2,Y2⟩ ⟨hj,aE,hA,hp,hR,hS⟩
 refine SQ (jK 6 [11] [(3,a_ 0 b5)] (NN (cP ((((j:Nat):Int):Int)<(((xs.length:Nat):Int):Int)) (λh11=>KX (aq.seq (aq.block (aq.seq (rQ (jQ 11 [24] [(2,a_ 0 b5),(4,x_ j xs.length (M9 hA (i:=j) zc)),(6,r_ (qP hA (i:=j) zc (j:=0) rfl)),(8,a_ 0 b5),(9,wJ ((k:Int)+1) (↑(k+1)))] (NQ (NX (cP (((act xs j).at_:Int)=(((k+1:Nat):Int):Int)) (λrG=>aq.seq (aq.rz (S:=[.ay b5 (uV (toR S2 g2) Y2 au U nf xs.length (↑k)) 47,.ay b6 (uZ) 47]) (yY [0,1,2,3,4,5,6,7,8,9] (oJ 14 [(false,15),(false,16)] [(false,10),(true,11),(true,12),(true,13)])) [0,1] (gT (oJ 14 [(false,15),(false,16)] [(false,10),(true,11),(true,12),(true,13)]) [(1,vP b5),(2,vP b6),(3,vI ↑j),(27,.agg ⟨rV (toR S2 g2) Y2⟩),(29,vI (au)),(35,.agg #[vI ((act xs j).at_),vI ((act xs j).op),.string (act xs j).path,.string (act xs j).to,.string (act xs j).text])] [0,1,2,3,4,5,6,7,8,9] [(1,A_ 0 b5 12),(3,a_ 0 b5),(6,a_ 0 b5),(8,x_ j xs.length (M9 hA (i:=j) zc)),(9,p_ ⟨[.old (.int .i64 ((act xs j).at_)),.old (.int .i64 ((act xs j).op)),.old (.string (act xs j).path),.old (.string (act xs j).to),.old (.string (act xs j).text)],none,none,none,none⟩ [(Rd b ⟨(br U.B),bq U.B+j*5+4,none⟩ (.string (act xs j).text)),(Rd b ⟨(br U.B),bq U.B+j*5+3,none⟩ (.string (act xs j).to)),(Rd b ⟨(br U.B),bq U.B+j*5+2,none⟩ (.string (act xs j).path)),(Rd b ⟨(br U.B),bq U.B+j*5+1,none⟩ (vI ((act xs j).op))),(Rd b ⟨(br U.B),bq U.B+j*5,none⟩ (vI ((act xs j).at_)))] ⟨qP hA (i:=j) zc (j:=4) rfl,qP hA (i:=j) zc (j:=3) rfl,qP hA (i:=j) zc (j:=2) rfl,qP hA (i:=j) zc (j:=1) rfl,qP hA (i:=j) zc (j:=0) rfl,trivial⟩)] (oA.one (j:=14) (dj:=4) (R:=λf_ l_=>∃g3:List Int,∃Y3:RL,f_=[(38,vI ((cR S2 au (act xs j)).1)),(37,.agg ⟨rV (toR (cR S2 au (act xs j)).2 g3) Y3⟩),(25,.tuple #[.agg ⟨rV (toR (cR S2 au (act xs j)).2 g3) Y3⟩,vI ((cR S2 au (act xs j)).1)]),(36,.tuple #[.agg ⟨rV (toR (cR S2 au (act xs j)).2 g3) Y3⟩,vI ((cR S2 au (act xs j)).1)]),(1,vP b5),(2,vP b6),(3,vI ↑j),(27,.agg ⟨rV (toR S2 g2) Y2⟩),(29,vI (au)),(35,.agg #[vI ((act xs j).at_),vI ((act xs j).op),.string (act xs j).path,.string (act xs j).to,.string (act xs j).text])]/\l_=[.abs (j5 b (λβ'=>Pair (cR S2 au (act xs j)).2 g3/\dz β' (toR (cR S2 au (act xs j)).2 g3) Y3))]) [0,1] [(false,10,36),(true,11,25),(true,12,37),(true,13,38)] (jt.of (ι:=Nat) (v:=λ(b7:Nat)=>vP b7) (l:=λ(b7:Nat)=>[.ay b7 (rZ) 45]) [36,25,37,38] rfl rfl rfl rfl ?_) ?_ ?_)))) (λrG=>KX (aq.region (jK 3 [3] [(1,wJ ((j:Int)+1) (↑(j+1)))] (NL (tB ((j+1),b,S2,g2,Y2) [0,1,2] (⟨zc,aE,hA,hp,hR,by rw [hS,UN zc zc]⟩))))))))))))))) (λh11=>XX (SR (jC 2 [] [(0,A_ 0 b5 16),(1,A_ 1 b6 16)] [(1,(zC (uV (toR S2 g2) Y2 au U nf xs.length (↑k))))] (eO (v:=(.agg ⟨uV (toR S2 g2) Y2 au U nf xs.length (↑k)⟩)) [A_ 1 b6 16] aE (by rw [ahZ (show xs.length<=j by omega)] at hS;subst hS;exact⟨g2,Y2,rfl,rfl,hp,hR⟩) [2])))))))
 ·intro u Aq
  exact jB 1 [4] (λb7=>.ay b7 (rZ) 45) (λb7=>NL (MD b7 [4,36,25,37,38,1,2,3,27,29,35] [1,0]))
 ·refine eF.step (jt.of (ι:=(List Int)×RL) (v:=λ((g3,Y3):(List Int)×RL)=>.tuple #[.agg ⟨rV (toR (cR S2 au (act xs j)).2 g3) Y3⟩,vI ((cR S2 au (act xs j)).1)]) (l:=λ((g3,Y3):(List Int)×RL)=>[.abs (j5 b (λβ'=>Pair (cR S2 au (act xs j)).2 g3/\dz β' (toR (cR S2 au (act xs j)).2 g3) Y3))]) [4] rfl rfl rfl rfl ?_) ?_
  ·intro u Aq
   refine gL [] (aaC hp hR au (act xs j) (hX.q _ (Lf (show j<xs.length by omega))).path (hX.q _ (Lf (show j<xs.length by omega))).to (hX.q _ (Lf (show j<xs.length by omega))).text) ?_
   rintro _ _ ⟨g3,Y3,rfl,rfl⟩
   exact NL (MD (g3,Y3) [36,4,1,2,3,27,29,35] [0,1])
  rintro _ _ ⟨⟨g3,Y3⟩,rfl,rfl⟩
  exact eF.read (.tuple #[.agg ⟨rV (toR (cR S2 au (act xs j)).2 g3) Y3⟩,vI ((cR S2 au (act xs j)).1)]) (eF.read (.agg ⟨rV (toR (cR S2 au (act xs j)).2 g3) Y3⟩) (eF.read (.int .i64 ((cR S2 au (act xs j)).1)) ⟨g3,Y3,rfl,rfl⟩))
 rintro _ _ ⟨g3,Y3,rfl,rfl⟩ _ _ ⟨b7,rfl,rfl⟩
 refine kC [2,3] [] [(0,A_ 1 b7 12)] [(1,(zC (rV (toR (cR S2 au (act xs j)).2 g3) Y3)))] (fF.last KB (jK 1 [] [] (NL (aB.np (NX (aq.region (av.tZ 0 [1,2,3,4] (eZ:=[.ay b7 (rV (toR (cR S2 au (act xs j)).2 g3) Y3) 45,.ay b5 (uV (toR S2 g2) Y2 au U nf xs.length (↑k)) 47,.ay b6 (uZ) 47,.abs R]) rfl rfl KB (λWO tU ⟨hp3,mh⟩=>?_))))))))
 replace hA:=hA.le tU
 replace aE:=aE.trans tU
 exact jC 3 [] [(0,A_ 0 b7 12),(2,A_ 1 b5 12)] [(1,(zC (rV (toR (cR S2 au (act xs j)).2 g3) Y3)))] (LX (aq.region (jK 3 [3] [(1,wJ ((j:Int)+1) (↑(j+1)))] (NL (tB ((j+1),WO,(cR S2 au (act xs j)).2,g3,Y3) [1,2,3] (⟨zc,aE,hA,hp3,mh,by rw [hS,UM zc zc]⟩))))))
end
section
open Go.RowKit Go.Maps bG aF
attribute [local irreducible] av bP aq aB cu
noncomputable abbrev yS1 (b4:Nat):=(.ay b4 [vI 0,vI 0,vI 0,.string ⟨#[]⟩,.string ⟨#[]⟩,.slice none (0) (0),vI 0,vI 0,vI 0,vI 0,vI 0,vI 0,vI 0] 53:HP)
noncomputable abbrev XK (B3)(au)(c)(p3):=(.abs (aG 5 1 B3 ((cI au c).data.length) p3 (dL (cI au c).data)):HP)
noncomputable abbrev yS3 (cx:aP) (B3) (au) (c) (p3):=([(0,vI (cx.op)),(1,vI (cx.aN)),(2,vI (cx.other)),(3,.string cx.name),(4,.string cx.text),(5,.slice B3 ((cI au c).data.length) (p3)),(6,vI (cx.mode)),(7,vI (cx.bg)),(8,vI (cx.bh)),(9,vI (cx.aU)),(10,vI (cx.aJ)),(11,vI (cx.code)),(12,vI (cx.answer))]:Fr)
noncomputable abbrev yS4 (b1:Nat) (b2:Nat) (b3:Nat) (b4:Nat):=([(2,vP b1),(3,vP b2),(4,vP b3),(5,vP b4)]:Fr)
theorem aaG {β:Bs} {S S2:bB} {g:List Int} {c c2:aP} (hp:Pair S g) (Y:RL) (hR:dz β (toR S g) Y) (au:Int) (U:UL) (fs:List dI) (xs:List dO) (k:Nat) (hk:k<=1048576) (hF:cD β U.A (bO iJ fs)) (hfl:fs.length<=2097152) (hA:cD β U.B (bO jP xs)) (hX:kZ xs 1048576) (hD:mZ fs xs au (k+1) S c=(S2,c2)) (hn:c.name.size<=1048576) (ht:c.text.size<=1048576) (hb:bJ β c.dA c.data) (hl:c.data.length<=140737488355328) (hc:c.data.length<=c.dC) :
 cr Tryz.prog β 10 #[.agg ⟨uV (toR S g) Y au U fs.length xs.length ((k:Nat):Int)⟩,.agg ⟨aL c⟩] [] (λβ' v l=>∃g' Y' B p,v=.tuple #[.agg ⟨uV (toR S2 g') Y' au U fs.length xs.length (((k+1):Nat):Int)⟩,.agg ⟨aL (fk c2 B p)⟩]/\l=[]/\Pair S2 g'/\dz β' (toR S2 g') Y'/\bJ β' B c2.data):=by
 have hwn:(cI au c).name.size<=1048576:=by rw [UQ];exact hn
 have II:(cI au c).text.size<=1048576:=by rw [UR];exact ht
 have vk:bJ β (cI au c).dA (cI au c).data:=by rw [aaD,zn];exact hb
 have hwl:(cI au c).data.length<=140737488355328:=by rw [zn];exact hl
 have hwc:(cI au c).data.length<=(cI au c).dC:=by rw [zn,aaE];exact hc
 obtain⟨SW,hSW⟩:∃q,kK au S (dS xs ((k+1:Nat):Int))=q:=⟨_,rfl⟩
 obtain⟨kf,Cj⟩:∃q,iQ fs ((k+1:Nat):Int)=q:=⟨_,rfl⟩
 replace hD:dZ kf SW (cI au c)=(S2,c2):=by rw [←Cj,←hSW];exact hD
 refine o8 Tryz.func10 Tryz.ntmps10 (λaE R=>SR (jB 1 [2] (λb1=>.ay b1 (uV (toR S g) Y au U fs.length xs.length (↑k)) 47) (λb1=>jB 1 [3] (λb2=>.ay b2 (aL c) 53) (λb2=>jB 1 [4] (λb3=>.ay b3 (uZ) 47) (λb3=>jB 1 [5] (λb4=>.ay b4 [vI 0,vI 0,vI 0,.string ⟨#[]⟩,.string ⟨#[]⟩,.slice none (0) (0),vI 0,vI 0,vI 0,vI 0,vI 0,vI 0,vI 0] 53) (λb4=>NS (jK 1 [12] [(0,A_ 1 b1 16)] (j3 [] (XJ hp Y hR au U fs.length xs k hk hA hX hSW) ?_))))))))
 rintro E9 _ _ iq ⟨g1,Y1,rfl,rfl,hp1,ux⟩
 replace hF:=hF.le iq
 replace vk:=vk.le iq
 replace aE:=aE.trans iq
 refine jC 1 [] [(0,A_ 1 b1 16)] [(1,(zC (rV (toR SW g1) Y1)))] (NS (jK 1 [14] [(0,A_ 1 b1 16)] (gE [] (XI (toR SW g1) Y1 au U fs xs.length k hk hF hfl Cj) (jK 1 [6] [] (NS (jC 5 [] [(1,a_ 1 b1),(2,wJ ((k:Int)+1) (↑(k+1))),(4,a_ 1 b1)] [(1,[(15,vI ↑(k+1))])] (NN (aq.join (ι:=Unit) (λ(u:Unit)=>True) (λ(u:Unit)=>(yS4 b1 b2 b3 b4++[(6,vI (kf))])) (λ(u:Unit)=>[.abs R,.ay b1 (uV (toR SW g1) Y1 au U fs.length xs.length (↑(k+1))) 47,pC b2 (cI au c),.ay b3 (uZ) 47,yS1 b4]) ?_ (SR (jK 3 [22] [(1,a_ 2 b2)] (NN (cP ((c.op:Int)=(1:Int)) (λsC=>aq.region (jC 4 [] [(1,a_ 1 b1),(3,a_ 2 b2)] [(2,[(2,vI (au))])] (NL (aB.gH [(2,.ay b2 (aL (cI au c)) 53)] (λw hS=>by rw [show (cI au c)={c with other:=au} from ahf sC];exact hS) (mJ () [0,1,2,3,4] (trivial)))))) (λsC=>aq.skip (aB.gH [(2,.ay b2 (aL (cI au c)) 53)] (λw hS=>by rw [show (cI au c)=c from ahe sC];exact hS) (mJ () [0,1,2,3,4] (trivial))))))))))))))))
 rintro u _
 refine SQ (jK 2 [27] [] (NN (cP ((kf:Int)=(1:Int)) (λxQ=>?_) (λxQ=>?_))))
 ·refine SQ (jK 3 [30] [(1,a_ 2 b2)] (NN (cP (((cI au c).op:Int)=(13:Int)) (λnQ=>?_) (λnQ=>?_))))
  ·refine SR (jK 3 [33,34] [(1,A_ 1 b1 12),(2,A_ 2 b2 13)] ?_)
   obtain⟨Sx,cx,Kc⟩:∃S2 c2,gG SW (cI au c)=(S2,c2):=⟨_,_,rfl⟩
   refine j3 [] (Fy hp1 ux Kc hwn II vk hwl hwc) ?_
   rintro β6 _ _ zM ⟨g2,Y2,B2,p2,rfl,rfl,hp2,yI,SG⟩
   replace vk:=vk.le zM
   replace aE:=aE.trans zM
   refine jB 4 [7,36,37] (λb7=>.ay b7 (rZ) 45) (λb7=>jN 3 [] (λb8=>[(1,A_ 5 b7 12),(2,A_ 6 b8 13)]) (λb8=>[(5,(zC (rV (toR Sx g2) Y2)))]) (λb8=>.ay b8 (aL (fk cx B2 p2)) 53) (λb8=>NN (aq.region (jC 3 [] [(0,A_ 5 b7 12),(2,A_ 1 b1 12)] [(1,(zC (rV (toR Sx g2) Y2)))] (NN (aq.seq (rM (List.range 5) 2 [1,2] (jR 2 [4,5,40,41] [(0,A_ 0 b1 16),(1,A_ 1 b2 13)] (mL [2,3] [] (CB (cI au c) vk hwl 180) ?_ (by rintro _ _ ⟨B3,p3,rfl,rfl⟩;rfl))))))))))
   rintro _ _ ⟨B3,p3,rfl,rfl⟩
   refine nC [2,3] [] [(0,A_ 4 b3 16)] [(4,(zC (uV (toR Sx g2) Y2 au U fs.length xs.length (↑(k+1)))))] (cu.last rfl rfl (jC 1 [] [(0,A_ 5 b4 13)] [(5,(zC (aL (fk (jg (cI au c) 180) B3 p3))))] (NL (aB.np (NX (aq.ret (aB.bE (aB.cT [0] [XK B3 au c p3] (λvz lY hL=>?_)))))))))
   have Ke:=hL.bytes
   replace yI:=yI.le lY
   replace aE:=aE.trans lY
   have Bt:((Sx,jg (cI au c) 180):bB×aP)=(S2,c2):=(show dZ kf SW (cI au c)=_ from by unfold dZ;rw [ahf xQ,ahf nQ,Kc]).symm.trans hD
   exact rB (.tuple #[.agg ⟨uV (toR Sx g2) Y2 au U fs.length xs.length (↑(k+1))⟩,.agg ⟨aL (fk (jg (cI au c) 180) B3 p3)⟩]) [A_ 3 b3 16,A_ 4 b4 13] [0] aE (by cases Bt;exact⟨g2,Y2,B3,p3,rfl,rfl,hp2,yI,by rw [vR];exact Ke⟩)
  refine KX (aq.seq (rM (List.range 5) 2 [1,2] (jR 2 [4,5,40,41] [(0,A_ 0 b1 16),(1,A_ 1 b2 13)] (mL [2,3] [] (CB (cI au c) vk hwl 180) ?_ (by rintro _ _ ⟨B3,p3,rfl,rfl⟩;rfl)))))
  rintro _ _ ⟨B3,p3,rfl,rfl⟩
  refine nC [2,3] [] [(0,A_ 4 b3 16)] [(4,(zC (uV (toR SW g1) Y1 au U fs.length xs.length (↑(k+1)))))] (cu.last rfl rfl (jC 1 [] [(0,A_ 5 b4 13)] [(5,(zC (aL (fk (jg (cI au c) 180) B3 p3))))] (NL (aB.np (NX (aq.ret (aB.bE (aB.cT [0] [XK B3 au c p3] (λKY oO hL=>?_)))))))))
  have Ke:=hL.bytes
  replace ux:=ux.le oO
  replace aE:=aE.trans oO
  have Bt:((SW,jg (cI au c) 180):bB×aP)=(S2,c2):=(show dZ kf SW (cI au c)=_ from by unfold dZ;rw [ahf xQ,ahe nQ]).symm.trans hD
  exact rB (.tuple #[.agg ⟨uV (toR SW g1) Y1 au U fs.length xs.length (↑(k+1))⟩,.agg ⟨aL (fk (jg (cI au c) 180) B3 p3)⟩]) [A_ 3 b3 16,A_ 4 b4 13] [0] aE (by cases Bt;exact⟨g1,Y1,B3,p3,rfl,rfl,hp1,ux,by rw [vR];exact Ke⟩)
 refine KX (aq.seq (aq.join (ι:=Bool) (λ(SN:Bool)=>(SN=decide (kf=2/\((cI au c).op=4\/(cI au c).op=5\/(cI au c).op=6\/(cI au c).op=7\/(cI au c).op=9)))) (λ(SN:Bool)=>(yS4 b1 b2 b3 b4++[(6,vI (kf)),(59,.bool SN)])) (λ(SN:Bool)=>[.abs R,.ay b1 (uV (toR SW g1) Y1 au U fs.length xs.length (↑(k+1))) 47,pC b2 (cI au c),.ay b3 (uZ) 47,yS1 b4]) ?_ (aq.region (jK 3 [45] [] (sP 45 ((kf:Int)=(2:Int)) (λNM=>jK 4 [49] [(1,a_ 2 b2)] (sP 49 (((cI au c).op:Int)>=(4:Int)) (λy5=>jK 5 [54] [(1,a_ 2 b2)] (sP 54 (((cI au c).op:Int)<=(7:Int)) (λE7=>jK 5 [59] [] (NL (mJ true [0,1,2,3,4] ((ahB zc).symm)))) (λE7=>jK 5 [59] [(1,a_ 2 b2)] (NL (mJ ((decide (((cI au c).op:Int)=(9:Int)))) [0,1,2,3,4] ((ahu.2 ⟨λh=>zc,λh=>zc⟩))))))) (λy5=>jK 10 [59] [(6,a_ 2 b2)] (NL (mJ ((decide (((cI au c).op:Int)=(9:Int)))) [0,1,2,3,4] ((ahu.2 ⟨λh=>zc,λh=>zc⟩))))))) (λNM=>jK 14 [59] [] (NL (mJ false [0,1,2,3,4] ((ahi zc).symm)))))))))
 rintro SN hq1
 refine aq.cond (b:=SN) (λ_=>KB) (λwi=>?_) (λwi=>?_)
 ·refine aq.seq (rM (List.range 5) 2 [1,2] (jR 2 [4,5,60,61] [(0,A_ 0 b1 16),(1,A_ 1 b2 13)] (mL [2,3] [] (CB (cI au c) vk hwl 176) ?_ (by rintro _ _ ⟨B3,p3,rfl,rfl⟩;rfl))))
  rintro _ _ ⟨B3,p3,rfl,rfl⟩
  refine nC [2,3] [] [(0,A_ 4 b3 16)] [(4,(zC (uV (toR SW g1) Y1 au U fs.length xs.length (↑(k+1)))))] (cu.last rfl rfl (jC 1 [] [(0,A_ 5 b4 13)] [(5,(zC (aL (fk (jg (cI au c) 176) B3 p3))))] (NL (aB.np (NX (aq.ret (aB.bE (aB.cT [0] [XK B3 au c p3] (λIj pQ hL=>?_)))))))))
  have Ke:=hL.bytes
  replace ux:=ux.le pQ
  replace aE:=aE.trans pQ
  have Bt:((SW,jg (cI au c) 176):bB×aP)=(S2,c2):=(show dZ kf SW (cI au c)=_ from by unfold dZ;rw [ahe xQ,ahf (ah3 (hq1.symm.trans wi))]).symm.trans hD
  exact rB (.tuple #[.agg ⟨uV (toR SW g1) Y1 au U fs.length xs.length (↑(k+1))⟩,.agg ⟨aL (fk (jg (cI au c) 176) B3 p3)⟩]) [A_ 3 b3 16,A_ 4 b4 13] [0] aE (by cases Bt;exact⟨g1,Y1,B3,p3,rfl,rfl,hp1,ux,by rw [vR];exact Ke⟩)
 refine KX (SR (jK 3 [9] [(1,a_ 2 b2)] (NN (aq.seq (aq.join (ι:=Bool) (λ(SV:Bool)=>(SV=decide (kf=3/\(cI au c).op=9/\2<=(cI au c).data.length))) (λ(SV:Bool)=>(yS4 b1 b2 b3 b4++[(9,.slice (cI au c).dA ((cI au c).data.length) ((cI au c).dC)),(76,.bool SV)])) (λ(SV:Bool)=>[.abs R,.ay b1 (uV (toR SW g1) Y1 au U fs.length xs.length (↑(k+1))) 47,pC b2 (cI au c),.ay b3 (uZ) 47,yS1 b4]) ?_ (aq.region (jK 3 [67] [] (sP 67 ((kf:Int)=(3:Int)) (λI3=>jK 5 [72] [(1,a_ 2 b2)] (sP 72 (((cI au c).op:Int)=(9:Int)) (λh72=>jK 4 [76] [] (NL (mJ ((decide (((((cI au c).data.length:Nat):Int):Int)>=(2:Int)))) [0,1,2,3,4] ((ahu.2 ⟨λh=>zc,λh=>zc⟩))))) (λh72=>jK 4 [76] [] (NL (mJ false [0,1,2,3,4] ((ahi zc).symm)))))) (λI3=>jK 9 [76] [] (NL (mJ false [0,1,2,3,4] ((ahi zc).symm))))))))))))
 rintro SV JQ
 refine aq.cond (b:=SV) (λ_=>KB) (λh76=>?_) (λh76=>?_)
 ·refine aq.region (jK 5 [81] [(3,w_ (.int .i64 ↑(((cI au c).data.length) / 2)) (vB (Int.ofNat_tdiv _ _).symm zc zc)),(4,xP ((cI au c).data.length / 2) (((cI au c).data.length / 2)<=(cI au c).dC))] (sl 81 (.slice (cI au c).dA (((cI au c).data.length / 2)) ((cI au c).dC)) (.slice (cI au c).dA (((cI au c).data.take ((cI au c).data.length / 2)).length) ((cI au c).dC)) (by rw [ahC,aic zc]) (jC 2 [] [(1,a_ 2 b2)] [(2,[(5,.slice (cI au c).dA (((cI au c).data.take ((cI au c).data.length / 2)).length) ((cI au c).dC))])] (NS (jK 3 [85,86] [(1,A_ 1 b1 12),(2,A_ 2 b2 13)] ?_)))))
  obtain⟨Sx,cx,Kc⟩:∃S2 c2,gG SW { (cI au c) with data:=(cI au c).data.take ((cI au c).data.length / 2)}=(S2,c2):=⟨_,_,rfl⟩
  refine j3 [] (Fy hp1 ux Kc hwn II (vk.take _) (by simp only [ahC];omega) (by simp only [ahC];omega)) ?_
  rintro DK _ _ kF ⟨g2,Y2,B2,p2,rfl,rfl,hp2,yI,SG⟩
  replace vk:=vk.le kF
  replace aE:=aE.trans kF
  refine jB 4 [10,88,89] (λb13=>.ay b13 (rZ) 45) (λb13=>jN 3 [11] (λb14=>[(1,A_ 5 b13 12),(2,A_ 6 b14 13)]) (λb14=>[(5,(zC (rV (toR Sx g2) Y2)))]) (λb14=>.ay b14 (aL (fk cx B2 p2)) 53) (λb14=>NS (jC 3 [] [(0,A_ 5 b13 12),(2,A_ 1 b1 12)] [(1,(zC (rV (toR Sx g2) Y2)))] (NS (jK 1 [92] [] (gL [] (qg (cI au c).dA (cI au c).dC (cI au c).data vk hwl) ?_))))))
  rintro _ _ ⟨B3,p3,rfl,rfl⟩
  refine jC 2 [] [(1,a_ 7 b14)] [(7,[(5,.slice B3 ((cI au c).data.length) (p3))])] (NN (aq.seq (rM [0,1,2,3] 2 [2,7] (jR 2 [4,5,95,96] [(0,A_ 0 b1 16),(1,A_ 1 b14 13)] (nC [2,7] [] [(0,A_ 4 b3 16)] [(4,(zC (uV (toR Sx g2) Y2 au U fs.length xs.length (↑(k+1)))))] (cu.last rfl rfl (jC 1 [] [(0,A_ 5 b4 13)] [(5,(yS3 cx B3 au c p3))] (NL (aB.np (NX (aq.ret (aB.cT [0] [XK B3 au c p3] (λE8 qJ hL=>?_)))))))))))))
  have Ke:=hL.bytes
  replace yI:=yI.le qJ
  replace aE:=aE.trans qJ
  have Bt:((Sx,{cx with dA:=(cI au c).dA,dC:=(cI au c).dC,data:=(cI au c).data}):bB×aP)=(S2,c2):=(show dZ kf SW (cI au c)=_ from by unfold dZ;rw [ahe xQ,ahe (of_decide_eq_false (hq1.symm.trans wi)),ahf (ah3 (JQ.symm.trans h76)),Kc]).symm.trans hD
  exact rB (.tuple #[.agg ⟨uV (toR Sx g2) Y2 au U fs.length xs.length (↑(k+1))⟩,.agg #[vI (cx.op),vI (cx.aN),vI (cx.other),.string cx.name,.string cx.text,.slice B3 ((cI au c).data.length) (p3),vI (cx.mode),vI (cx.bg),vI (cx.bh),vI (cx.aU),vI (cx.aJ),vI (cx.code),vI (cx.answer)]]) [A_ 3 b3 16,A_ 4 b4 13] [0] aE (by cases Bt;exact⟨g2,Y2,B3,p3,rfl,rfl,hp2,yI,Ke⟩)
 refine KX (SR (jK 3 [85,86] [(1,A_ 1 b1 12),(2,A_ 2 b2 13)] ?_))
 obtain⟨Sx,cx,Kc⟩:∃S2 c2,gG SW (cI au c)=(S2,c2):=⟨_,_,rfl⟩
 refine j3 [] (Fy hp1 ux Kc hwn II vk hwl hwc) ?_
 rintro Pn _ _ mD ⟨g2,Y2,B2,p2,rfl,rfl,hp2,yI,SG⟩
 replace vk:=vk.le mD
 replace aE:=aE.trans mD
 refine jB 4 [10,88,89] (λb17=>.ay b17 (rZ) 45) (λb17=>jN 3 [11] (λb18=>[(1,A_ 5 b17 12),(2,A_ 6 b18 13)]) (λb18=>[(5,(zC (rV (toR Sx g2) Y2)))]) (λb18=>.ay b18 (aL (fk cx B2 p2)) 53) (λb18=>NS (jC 3 [] [(0,A_ 5 b17 12),(2,A_ 1 b1 12)] [(1,(zC (rV (toR Sx g2) Y2)))] (NS (jK 1 [92] [] (gL [] (qg (cI au c).dA (cI au c).dC (cI au c).data vk hwl) ?_))))))
 rintro _ _ ⟨B3,p3,rfl,rfl⟩
 refine jC 2 [] [(1,a_ 7 b18)] [(7,[(5,.slice B3 ((cI au c).data.length) (p3))])] (NN (aq.seq (rM [0,1,2,3] 2 [2,7] (jR 2 [4,5,95,96] [(0,A_ 0 b1 16),(1,A_ 1 b18 13)] (nC [2,7] [] [(0,A_ 4 b3 16)] [(4,(zC (uV (toR Sx g2) Y2 au U fs.length xs.length (↑(k+1)))))] (cu.last rfl rfl (jC 1 [] [(0,A_ 5 b4 13)] [(5,(yS3 cx B3 au c p3))] (NL (aB.np (NX (aq.ret (aB.cT [0] [XK B3 au c p3] (λagu sj hL=>?_)))))))))))))
 have Ke:=hL.bytes
 replace yI:=yI.le sj
 replace aE:=aE.trans sj
 have Bt:((Sx,{cx with data:=(cI au c).data}):bB×aP)=(S2,c2):=(show dZ kf SW (cI au c)=_ from by unfold dZ;rw [ahe xQ,ahe (of_decide_eq_false (hq1.symm.trans wi)),ahe (of_decide_eq_false (JQ.symm.trans h76)),Kc,aaF (UU Kc)]).symm.trans hD
 exact rB (.tuple #[.agg ⟨uV (toR Sx g2) Y2 au U fs.length xs.length (↑(k+1))⟩,.agg #[vI (cx.op),vI (cx.aN),vI (cx.other),.string cx.name,.string cx.text,.slice B3 ((cI au c).data.length) (p3),vI (cx.mode),vI (cx.bg),vI (cx.bh),vI (cx.aU),vI (cx.aJ),vI (cx.code),vI (cx.answer)]]) [A_ 3 b3 16,A_ 4 b4 13] [0] aE (by cases Bt;exact⟨g2,Y2,B3,p3,rfl,rfl,hp2,yI,Ke⟩)
end
section
open Go.RowKit Go.Maps bG aF
theorem Rg {X:FM} {ns:List aO} {au:Int} (h:¬(kJ X/\cG ns)):fP X ns au=Fw X:=by
 by_cases h1:kJ X
 ·rw [Bj h1 (λh2=>h ⟨h1,h2⟩)];exact (ahf h1).symm
 rw [DT h1];exact (ahe h1).symm
end
section
open Go.RowKit Go.Maps bG aF
attribute [local irreducible] av bP aq aB cu
theorem SX {β:Bs} {X:FM} {ns:List aO} {Y:eP} {fs:List dI} {xs:List dO} {Af Aa:Option Addr} (A:Option Addr) (c:Nat) (hG:aQ β A ns Y) (hB:j7 ns 1048576) (au:Int) (cf:Nat) (hF:cD β Af (bO iJ fs)) (oQ:kR fs 2097152) (ca:Nat) (hA:cD β Aa (bO jP xs)) (ef:kZ xs 1048576) :
 cr Tryz.prog β 8 #[.agg #[.slice A (ns.length) (c)],vI (au),.agg #[vI (X.cN),vI (X.cB),vI (X.cH),vI (X.cS),vI (X.cZ)],.agg #[.slice Af (fs.length) (cf),.slice Aa (xs.length) (ca)]] [] (λβ' v l=>(fP X ns au≠0/\v=.tuple #[.agg ⟨uZ⟩,vI (fP X ns au)]/\l=[])\/(fP X ns au=0/\∃B cp K U,v=.tuple #[.agg #[.slice B (ns.length) (cp),.slice none (0) (0),vI (X.cH),vI 0,.slice none (0) (0),.slice none (0) (0),vI (X.cN),vI (X.cB),vI (X.cH),vI (X.cS),vI (X.cZ),vI ((if ns.length=0 then 0 else (nd ns (ns.length-1)).id)),vI (au),.slice U.A (fs.length) (U.a),.slice U.B (xs.length) (U.b),vI 0],vI 0]/\l=[]/\aQ β' B ns K/\MK β' U fs xs)):=by
 have hnl:=tQ hB
 refine o8 Tryz.func8 Tryz.ntmps8 (λaE R=>SR (jB 1 [4] (λb1=>.ay b1 [.slice A (ns.length) (c)] 24) (λb1=>jB 1 [6] (λb2=>.ay b2 [vI (X.cN),vI (X.cB),vI (X.cH),vI (X.cS),vI (X.cZ)] 28) (λb2=>jB 1 [7] (λb3=>.ay b3 [.slice Af (fs.length) (cf),.slice Aa (xs.length) (ca)] 32) (λb3=>jB 2 [8] (λb4=>.ay b4 (uZ) 47) (λb4=>NN (aq.seq ?_)))))))
 by_cases lK:kJ X/\cG ns
 ·refine aq.region (jK 2 [14,15] [(0,a_ 1 b1),(1,A_ 2 b2 5)] (j3 [] (aag lK.1 lK.2 A c hG hB) ?_))
  rintro E9 _ _ iq ⟨B,cp,K,rfl,rfl,hK⟩
  replace hG:=hG.le iq
  replace hF:=hF.le iq
  replace hA:=hA.le iq
  replace aE:=aE.trans iq
  refine jN 6 [10,11] (λb6=>[(4,A_ 5 b6 12)]) (λ_=>[]) (λb6=>.ay b6 [.slice B (ns.length) (cp),.slice none (0) (0),vI (X.cH),vI 0,.slice none (0) (0),.slice none (0) (0),vI (X.cN),vI (X.cB),vI (X.cH),vI (X.cS),vI (X.cZ),vI ((if ns.length=0 then 0 else (nd ns (ns.length-1)).id))] 45) (λb6=>NZ (jK 2 [20] [] (NF (KX (aq.seq ?_)))))
  rcases Qj ns au with ⟨r,hr⟩|iU
  ·have hr1:r<ns.length:=hr.1
   refine aq.region (jK 2 [23,24] [(0,a_ 1 b1)] (gE [] (ze A c ns Y hG lK.2.fO (tQ hB) au) (jK 1 [12] [] (NZ (sl 12 (vI ((gJ ns au))) (.int .i64 ↑r) (ahg (Value.int .i64) (Hf lK.2.fO hr.1 hr.2.1)) (jK 2 [27] [(1,wF (((r:Int):Int)<(0:Int)))] (NF (KX (SQ (jK 7 [35] [(1,a_ 1 b1),(3,x_ r ns.length (aQ.hd hG (i:=r) zc)),(5,r_ (aQ.rd hG (i:=r) zc (j:=1) rfl))] (NN (cN (((nd ns r).kind:Int)=(2:Int)) (λnS=>SR (jC 3 [9] [(1,A_ 4 b4 16)] [] (eO (v:=(.tuple #[.agg ⟨uZ⟩,vI 173])) [A_ 4 b4 16] aE (.inl ⟨by rw [zy lK.1 lK.2 hr zc];decide,by rw [zy lK.1 lK.2 hr zc],rfl⟩)))) (λnS=>KX (aq.seq (rM (List.range 7) 3 [5,3] (jR 3 [8,37,38,39] [(0,A_ 0 b6 12),(2,A_ 1 b3 2)] (mL [7,5] [] (sI Af cf fs hF (by have:=oQ.len;omega) Aa ca xs hA (by have:=ef.len;omega)) ?_ (by rintro _ _ ⟨Bf,bf,Bx,bx,rfl,rfl⟩;rfl))))))))))))))))))
   rintro _ _ ⟨Bf,bf,Bx,bx,rfl,rfl⟩
   refine nC [7,5] [41] [] [] (nC [7,5] [] [(0,A_ 6 b4 16)] [(6,[(0,.slice B (ns.length) (cp)),(2,vI (X.cH)),(6,vI (X.cN)),(7,vI (X.cB)),(8,vI (X.cH)),(9,vI (X.cS)),(10,vI (X.cZ)),(11,vI ((if ns.length=0 then 0 else (nd ns (ns.length-1)).id))),(12,vI (au)),(13,.slice Bf (fs.length) (bf)),(14,.slice Bx (xs.length) (bx))])] (cu.last rfl rfl (jK 1 [9] [] (NL (aB.np (NX (aq.ret (aB.cT [0,1] [.abs (aG 66 2 Bf fs.length bf (bO iJ fs)),.abs (aG 68 5 Bx xs.length bx (bO jP xs))] (λJX kU hL=>?_)))))))))
   have hU:MK _ ⟨Bf,bf,Bx,bx⟩ fs xs:=⟨hL.rowAt 0 rfl,hL.rowAt 1 rfl⟩
   replace hK:=hK.le kU
   replace aE:=aE.trans kU
   exact rB (.tuple #[.agg #[.slice B (ns.length) (cp),.slice none (0) (0),vI (X.cH),vI 0,.slice none (0) (0),.slice none (0) (0),vI (X.cN),vI (X.cB),vI (X.cH),vI (X.cS),vI (X.cZ),vI ((if ns.length=0 then 0 else (nd ns (ns.length-1)).id)),vI (au),.slice Bf (fs.length) (bf),.slice Bx (xs.length) (bx),vI 0],vI 0]) [A_ 4 b4 16] [0] aE (.inr ⟨DU lK.1 lK.2 hr zc,B,cp,K,⟨Bf,bf,Bx,bx⟩,rfl,rfl,hK,hU⟩)
  exact aq.region (jK 2 [23,24] [(0,a_ 1 b1)] (gE [] (ze A c ns Y hG lK.2.fO (tQ hB) au) (jK 1 [12] [] (NZ (sl 12 (vI ((gJ ns au))) (.int .i64 (-1)) (ahg (Value.int .i64) (Dh iU)) (jK 2 [27] [] (NT (SR (jC 3 [9] [(1,A_ 4 b4 16)] [] (eO (v:=(.tuple #[.agg ⟨uZ⟩,vI 141])) [A_ 4 b4 16] aE (.inl ⟨by rw [xI lK.1 lK.2 iU];decide,by rw [xI lK.1 lK.2 iU],rfl⟩)))))))))))
 refine aq.region (jK 2 [14,15] [(0,a_ 1 b1),(1,A_ 2 b2 5)] (j3 [] (aah lK A c hG hB) ?_))
 rintro WO _ _ tU ⟨rfl,rfl⟩
 replace aE:=aE.trans tU
 exact jN 6 [10,11] (λb9=>[(4,A_ 5 b9 12)]) (λ_=>[]) (λb9=>.ay b9 (rZ) 45) (λb9=>NZ (jK 2 [20] [] (NN (cN (((Fw X):Int)=(0:Int)) (λpu=>SR (jC 4 [9] [(2,A_ 4 b4 16)] [] (eO (v:=(.tuple #[.agg ⟨uZ⟩,vI ((Fw X))])) [A_ 4 b4 16] aE (.inl ⟨DV lK,by rw [Rg lK],rfl⟩)))) (λpu=>ahh pu (acw X))))))
end
section
open Go.RowKit Go.Maps bG aF
attribute [local irreducible] av bP aq aB fF
theorem UW {β:Bs} {S:bB} {g:List Int} (hp:Pair S g) (Y:RL) (hR:dz β (toR S g) Y) (G:WG) (fs:List dI) (xs:List dO) (au:Int) (V:WV) (tr:List aP) (U:UL) (nf na:Nat) {n:Nat} (hn:(tr.length:Int)=(n:Int)) :
 aX Tryz.prog β 14 #[vP G.w,.agg ⟨uV (toR S g) Y au U nf na ((n:Nat):Int)⟩] [wA G fs xs au S V tr] (λv l=>v=.bool true/\l=[wA G fs xs au S V tr]):=by
 have hI:bT S:=hp.inv
 refine SE Tryz.func14 Tryz.ntmps14 (λR=>SR (jN 2 [3] (λ_=>[]) (λ_=>[]) (λb1=>.ay b1 (uV (toR S g) Y au U nf na (↑n)) 47) (λb1=>NN (aq.seq (jM [0,2,3,4,501,505,6,7,9,10,11,12,13,508,14,15,16,17,19,20,21,22,518,23,24,25,26,28,29,527,30,31,532] [2] (jG 4 [0,3,5,9] [(3,a_ 0 b1)] (kL [5] [0] (MG (G:=G) (fs:=fs) (xs:=xs) (au:=au) (S:=S) (V:=V) (tr:=tr) hI) ?_ (by rintro _ _ ⟨Ao,co,Ko,rfl,rfl⟩;kernel_rfl))))))))
 rintro _ _ ⟨Ao,co,Ko,rfl,rfl⟩
 refine kL [5] [1,2,3] (MU Ao Y.A co Y.c (aY S) (aY S) Ko Y.L hR.n (aal hI.toInv0) (aae hI.toInv0) (ahB rfl)) ?_ (by rintro _ _ ⟨rfl,rfl⟩;kernel_rfl)
 rintro _ _ ⟨rfl,rfl⟩
 refine jG 7 [0,3,11,12,18] [(5,a_ 0 b1)] (kL [5] [3] ((aas (G:=G) (fs:=fs) (xs:=xs) (au:=au) (S:=S) (V:=V) (tr:=tr)).val (ahg (Value.int .i64) (show (S.us.length:Int)=((toR S g).us.length:Int) from ahg Nat.cast CY.symm))) ?_ (by rintro _ _ ⟨rfl,rfl⟩;kernel_rfl))
 rintro _ _ ⟨rfl,rfl⟩
 refine jG 8 [0,3,21,22,27] [(0,p_ ⟨[],none,none,none,some (.bool true)⟩ [(Value.bool (decide (((((toR S g).us.length:Nat):Int):Int)=((((toR S g).us.length:Nat):Int):Int))))=(.bool true)] ⟨ahd,trivial⟩),(7,a_ 0 b1)] (kL [5] [0] ((aat (G:=G) (fs:=fs) (xs:=xs) (au:=au) (S:=S) (V:=V) (tr:=tr)).val (ahg (Value.int .i64) (show S.aI=(toR S g).aI from rfl))) ?_ (by rintro _ _ ⟨rfl,rfl⟩;kernel_rfl))
 rintro _ _ ⟨rfl,rfl⟩
 refine jG 6 [30,31,34] [(0,p_ ⟨[],none,none,none,some (.bool true)⟩ [(Value.bool (decide (((toR S g).aI:Int)=((toR S g).aI:Int))))=(.bool true)] ⟨ahd,trivial⟩),(5,a_ 0 b1)] (kL [5] [0] ((MF (G:=G) (fs:=fs) (xs:=xs) (au:=au) (S:=S) (V:=V) (tr:=tr)).val (ahg (Value.int .i64) hn)) ?_ (by rintro _ _ ⟨rfl,rfl⟩;kernel_rfl))
 rintro _ _ ⟨rfl,rfl⟩
 exact jG 2 [36] [(0,p_ ⟨[],none,none,none,some (.bool true)⟩ [(Value.bool (decide ((((n:Nat):Int):Int)=(((n:Nat):Int):Int))))=(.bool true)] ⟨ahd,trivial⟩)] (fF.last KB (jK 1 [4] [] (NL (aB.np (NX (aq.ret (RT (.bool true) [0,4] (⟨rfl,rfl⟩))))))))
end
section
open Go.RowKit Go.Maps bG aF
section n
variable {β:Bs} {X:FM} {ns:List aO} {Y:eP} {fs:List dI} {xs:List dO} {Af Aa:Option Addr} {au:Int}
theorem XL (h0:¬fP X ns au=0) (A:Option Addr) (c:Nat) (hG:aQ β A ns Y) (hB:j7 ns 1048576) (cf:Nat) (hF:cD β Af (bO iJ fs)) (oQ:kR fs 2097152) (ca:Nat) (hA:cD β Aa (bO jP xs)) (ef:kZ xs 1048576) :
 cr Tryz.prog β 8 #[.agg #[.slice A ns.length c],.int .i64 au,.agg #[.int .i64 X.cN,.int .i64 X.cB,.int .i64 X.cH,.int .i64 X.cS,.int .i64 X.cZ],.agg #[.slice Af fs.length cf,.slice Aa xs.length ca]] [] (λ_ v l=>v=.tuple #[.agg ⟨rZ++[.int .i64 0,.slice none 0 0,.slice none 0 0,.int .i64 0]⟩,.int .i64 (fP X ns au)]/\l=[]):=
 (SX A c hG hB au cf hF oQ ca hA ef).mono (by
  rintro β' v l _ (⟨_,h1,h2⟩|⟨h,_⟩)
  ·exact⟨h1,h2⟩
  exact ahh h h0)
theorem XM (h0:fP X ns au=0) (N:yQ X ns) (A:Option Addr) (c:Nat) (hG:aQ β A ns Y) (hB:j7 ns 1048576) (cf:Nat) (hF:cD β Af (bO iJ fs)) (oQ:kR fs 2097152) (ca:Nat) (hA:cD β Aa (bO jP xs)) (ef:kZ xs 1048576) :
 cr Tryz.prog β 8 #[.agg #[.slice A ns.length c],.int .i64 au,.agg #[.int .i64 X.cN,.int .i64 X.cB,.int .i64 X.cH,.int .i64 X.cS,.int .i64 X.cZ],.agg #[.slice Af fs.length cf,.slice Aa xs.length ca]] [] (λβ' v l=>∃Y' U,v=.tuple #[.agg ⟨uV (toR N.1 []) Y' au U fs.length xs.length 0⟩,.int .i64 0]/\l=[]/\dz β' (toR N.1 []) Y'/\MK β' U fs xs):=by
 refine (SX A c hG hB au cf hF oQ ca hA ef).mono ?_
 rintro β' v l _ (⟨h,_⟩|⟨_,B,cp,K,U,rfl,rfl,h1,h2⟩)
 ·exact ahh h0 h
 have e:=(Ms N.2 (FB h0).2).2
 rw [e]
 refine⟨⟨B,cp,K,none,0,none,0,none,0⟩,U,?_,rfl,⟨⟨cD.nil,cD.nil,cD.nil⟩,h1⟩,h2⟩
 have hl:(if ns.length=0 then 0 else (nd ns (ns.length-1)).id)=q6 ns ns.length:=by cases ns.length<;>rfl
 rw [hl]
 rfl
end n
theorem XO {β:Bs} {S S2:bB} {g:List Int} {c c2:aP} (hp:Pair S g) (Y:RL) (hR:dz β (toR S g) Y) (au:Int) (U:UL) (fs:List dI) (xs:List dO) (k:Nat) (hk:k<=1048576) (hU:MK β U fs xs) (hfl:fs.length<=2097152) (hX:kZ xs 1048576) (hD:mZ fs xs au (k+1) S c=(S2,c2)) (hn:c.name.size<=1048576) (ht:c.text.size<=1048576) (hb:bJ β c.dA c.data) (hl:c.data.length<=140737488355328) (hc:c.data.length<=c.dC) :
 aX Tryz.prog β 10 #[.agg ⟨uV (toR S g) Y au U fs.length xs.length k⟩,.agg ⟨aL c⟩] [] (λv l=>∃g' Y' B p,v=.tuple #[.agg ⟨uV (toR S2 g') Y' au U fs.length xs.length ((k+1:Nat):Int)⟩,.agg ⟨aL (fk c2 B p)⟩]/\l=[.abs (j5 β (λβ'=>Pair S2 g'/\dz β' (toR S2 g') Y'/\bJ β' B c2.data))]):=
 (cr.GJ (ι:=List Int×RL×Option Addr×Nat) (vv:=λx=>.tuple #[.agg ⟨uV (toR S2 x.1) x.2.1 au U fs.length xs.length ((k+1:Nat):Int)⟩,.agg ⟨aL (fk c2 x.2.2.1 x.2.2.2)⟩]) (ll:=λ_=>[]) (Φ:=λx β'=>Pair S2 x.1/\dz β' (toR S2 x.1) x.2.1/\bJ β' x.2.2.1 c2.data)
  ((aaG hp Y hR au U fs xs k hk hU.f hfl hU.x hX hD hn ht hb hl hc).mono (by rintro β' v l _ ⟨g',Y',B,p,rfl,rfl,h1,h2,h3⟩;exact⟨(g',Y',B,p),rfl,rfl,h1,h2,h3⟩))).mono (by rintro v l ⟨⟨g',Y',B,p⟩,rfl,rfl⟩;exact⟨g',Y',B,p,rfl,rfl⟩)
end
section
open Go.RowKit Go.Maps bG aF
attribute [local irreducible] av bP aq aB fF
theorem XP {β:Bs} (A:Option Addr) (c:Nat) (ns:List aO) (Y:eP) (hG:aQ β A ns Y) (hB:j7 ns 1048576) (X:FM) (au:Int) (Af:Option Addr) (cf:Nat) (fs:List dI) (hF:cD β Af (bO iJ fs)) (oQ:kR fs 2097152) (Aa:Option Addr) (ca:Nat) (xs:List dO) (hA:cD β Aa (bO jP xs)) (ef:kZ xs 1048576) :
 cr Tryz.prog β 7 #[.agg #[.slice A (ns.length) (c),vI (au),vI (X.cN),vI (X.cB),vI (X.cH),vI (X.cS),vI (X.cZ),.slice Af (fs.length) (cf),.slice Aa (xs.length) (ca)]] [] (λβ' v l=>(fP X ns au≠0/\v=.tuple #[.pointer none,vI (fP X ns au)]/\l=[])\/(fP X ns au=0/\∃(N:yQ X ns) (G:WG) (V:WV),v=.tuple #[vP G.w,vI 0]/\l=[wA G fs xs au N.1 V []]/\pN β' G.Z xs)):=by
 refine o8 Tryz.func7 Tryz.ntmps7 (λaE R=>SR (jB 3 [1] (λb1=>.ay b1 [.slice A (ns.length) (c),vI (au),vI (X.cN),vI (X.cB),vI (X.cH),vI (X.cS),vI (X.cZ),.slice Af (fs.length) (cf),.slice Aa (xs.length) (ca)] 34) (λb1=>NN (aq.seq ?_))))
 by_cases h0:fP X ns au=0
 ·refine jM [0,1,3,4,5,6,7,8,502,509,510,11,12,13,514] [1] (jG 8 [5,8,10,12] [(1,a_ 0 b1),(3,a_ 0 b1),(5,A_ 0 b1 5),(7,A_ 0 b1 2)] (kL [2] [] (sH (β:=β) A c ns Y hG (tQ hB) (BV hB)) ?_ (by rintro _ _ ⟨B,cp,rfl,rfl⟩;kernel_rfl)))
  rintro _ _ ⟨B,cp,rfl,rfl⟩
  refine kL [4] [] (sI (β:=β) Af cf fs hF oQ.len Aa ca xs hA (ahk ef.len Pd)) ?_ (by rintro _ _ ⟨Bf,bf,Ba,ba,rfl,rfl⟩;kernel_rfl)
  rintro _ _ ⟨Bf,bf,Ba,ba,rfl,rfl⟩
  refine kL [3] [2,0,1] (aau (β:=β) (X:=X) (Bf:=Bf) (Ba:=Ba) h0 B cp hB bf ba oQ ef) ?_ (by rintro _ _ ⟨N,G,V,rfl,rfl⟩;kernel_rfl)
  rintro _ _ ⟨N,G,V,rfl,rfl⟩
  refine jG 3 [2,16] [] (fF.last KB (jK 1 [3] [] (NL (aB.np (NX (aq.ret (aB.tZ 0 [1,2,3] (eZ:=[wA G fs xs au N.1 V ([]),.abs R,.ay b1 [.slice A (ns.length) (c),vI (au),vI (X.cN),vI (X.cB),vI (X.cH),vI (X.cS),vI (X.cZ),.slice Af (fs.length) (cf),.slice Aa (xs.length) (ca)] 34]) rfl KB rfl (λkx fA hz=>?_))))))))
  replace aE:=aE.trans fA
  exact rB (.tuple #[vP G.w,vI 0]) [] [0,1] aE (.inr ⟨h0,N,G,V,rfl,rfl,hz⟩)
 refine jM [0,1,3,4,5,6,7,8,502,509,510,11,12,13,514] [1] (jG 8 [5,8,10,12] [(1,a_ 0 b1),(3,a_ 0 b1),(5,A_ 0 b1 5),(7,A_ 0 b1 2)] (kL [2] [] (sH (β:=β) A c ns Y hG (tQ hB) (BV hB)) ?_ (by rintro _ _ ⟨B,cp,rfl,rfl⟩;kernel_rfl)))
 rintro _ _ ⟨B,cp,rfl,rfl⟩
 refine kL [4] [] (sI (β:=β) Af cf fs hF oQ.len Aa ca xs hA (ahk ef.len Pd)) ?_ (by rintro _ _ ⟨Bf,bf,Ba,ba,rfl,rfl⟩;kernel_rfl)
 rintro _ _ ⟨Bf,bf,Ba,ba,rfl,rfl⟩
 refine kL [1] [2,0,1] (MH (β:=β) (X:=X) (Bf:=Bf) (Ba:=Ba) h0 B cp hB bf ba oQ ef) ?_ (by rintro _ _ ⟨rfl,rfl⟩;kernel_rfl)
 rintro _ _ ⟨rfl,rfl⟩
 exact jG 3 [2,16] [] (fF.last KB (jK 1 [3] [] (NL (aB.np (NX (aq.ret (rB (.tuple #[.pointer none,vI ((fP X ns au))]) [] [0] aE (.inl ⟨h0,rfl,rfl⟩))))))))
end
section
open Go.RowKit Go.Maps bG aF
def lwN:aO:=⟨1,2,493,0,0,0,0,[],⟨#[]⟩,[]⟩
def C5:List aO:=[lwN]
def FH:List dI:=[⟨2,1⟩]
theorem SY {i:Nat} (h:i<C5.length):i=0:=by
 have h:i<1:=h
 omega
theorem aft:cG C5:=by
 refine⟨Pd,λi hi=>?_,λi hi=>?_,λi j hij hj=>?_,Pd,λi hi j hj=>?_,Pd,λz=>?_⟩
 ·obtain rfl:=SY hi
  exact⟨Pd,Pd,Pd,Pd,Mx,λ_=>rfl,λh=>ahh rfl h,.inl ⟨Pd,rfl⟩⟩
 ·obtain rfl:=SY hi
  exact⟨Pd,Pd⟩
 ·have:=SY hj;omega
 ·obtain rfl:=SY hi
  exact ahh hj (ahm j)
 have e:(jo C5 C5.length).map (lu C5)=[]:=Pd
 rw [e]
 exact⟨0,rfl⟩
theorem aeC:kJ (Qf 99):=acu Pd
theorem afu {β:Bs} {B:Option Addr} (hR:cD β B (bH ⟨λ_=>none,λ_=>none,λ_=>0,λ_=>0⟩ C5)):aQ β B C5 ⟨λ_=>none,λ_=>none,λ_=>0,λ_=>0⟩:=by
 have hn:∀{A:Option Addr},cD β A []:=λj v hj=>by simp at hj
 refine⟨hR,λi hi=>?_,λi hi=>?_⟩<;>(obtain rfl:=SY hi;exact hn)
structure aaH (S:bB):Prop where
 inv:bT S
 ar:S.ar=[(1,⟨1,2⟩)]
 us:S.us=[]
 X:S.X=⟨9,99,9,0,0,1,0,0⟩
 o1:∃l u,af S.O 1=⟨1,493,0,0,0,0,l,0,false,2,[],⟨#[]⟩,[],u⟩
section v
variable {S:bB}
theorem aeD (h:kP (Qf 99) C5 C5.length 0 S):aaH S:=by
 obtain⟨l1,u1,h1⟩:=h.ob 0 Pd
 exact⟨h.full,h.ar,h.us,h.cap,⟨l1,u1,h1⟩⟩
def vX:aP:=⟨1,0,0,⟨#[]⟩,⟨#[]⟩,none,0,[],0,0,0,0,0,0,0⟩
def vY:aP:=⟨4,1,0,⟨#[100]⟩,⟨#[]⟩,none,0,[],0,0,0,0,0,0,0⟩
theorem agv (h:aaH S):mZ FH [] 1 1 S vX=(S1 S,{vX with other:=1,answer:=1,code:=0}):=by
 have:=acv (S:=S) (c:={vX with other:=1}) (t:=⟨1,2⟩) rfl (by rw [h.ar];rfl) rfl (by rw [h.us,h.X];show (0:Int)<9;decide)
 rw [h.us] at this
 exact this
theorem agw:mZ FH [] 1 2 S vY=(S,{vY with code:=180}):=rfl
theorem agx (h:aaH S):∃S2,mZ FH [] 1 3 (S1 S) vY=(S2,{vY with answer:=0,code:=0})/\S2.ar.length=2:=by
 obtain⟨l,u,h1⟩:=h.o1
 have e1:af (S1 S).O 1=⟨1,493,0,0,0,0,l,1,false,2,[],⟨#[]⟩,[],u⟩:=by
  rw [agm,h1];rfl
 have hX:(S1 S).X=⟨9,99,9,0,0,1,0,0⟩:=h.X
 have hi:(S1 S).ar=[(1,⟨1,2⟩)]:=h.ar
 have ha:iO (S1 S).O (S1 S).us 1 ⟨#[100]⟩ 192=.ok 1:=aac (t:=⟨1,2⟩) rfl rfl (by rw [e1]) aeg (by rw [e1];exact aeh)
 refine⟨_,show gG (S1 S) vY=_ from aad (S:=S1 S) (c:=vY) rfl ha ⟨Pd,Pd⟩ (by rw [e1];rfl) ⟨by rw [hX,hi];show (1:Int)<9;decide,by rw [hX];show (1:Int)<1099511627776;decide,by rw [hX];show (0:Int)<8192;decide⟩,?_⟩
 show (ins _ _ (S1 S).ar).length=2
 rw [hX,hi];rfl
end v
section f
variable {β:Bs} {fs:List dI} {xs:List dO} {au:Int} {ns:List aO} {X:FM}
theorem UX {ns:List aO} (h0:fP X ns au=0) (A:Option Addr) (c:Nat) (Y:eP) (hG:aQ β A ns Y) (hB:j7 ns 1048576) (Af:Option Addr) (cf:Nat) (fs:List dI) (hF:cD β Af (bO iJ fs)) (oQ:kR fs 2097152) (Aa:Option Addr) (ca:Nat) (xs:List dO) (hA:cD β Aa (bO jP xs)) (ef:kZ xs 1048576) :
 cr Tryz.prog β 7 #[R8 A ns.length c au X Af fs.length cf Aa xs.length ca] [] (λβ' v l=>∃(N:yQ X ns) (G:WG) (V:WV),v=.tuple #[vP G.w,.int .i64 0]/\l=[wA G fs xs au N.1 V []]/\pN β' G.Z xs):=
 (XP A c ns Y hG hB X au Af cf fs hF oQ Aa ca xs hA ef).mono (by
  rintro β' v l _ (⟨h,_⟩|⟨_,h⟩)
  ·exact ahh h0 h
  exact h)
theorem aeE:fP (Qf 99) C5 1=0:=DU aeC aft (i:=0) ⟨Pd,rfl,λq h=>ahh h (ahm q)⟩ rfl
theorem agy:j7 C5 1048576:=⟨Pd,λi hi=>by
 obtain rfl:=SY hi
 exact⟨by unfold yg;decide,Pd,Pd,Pd,λj hj=>ahh hj (ahm j)⟩⟩
theorem afv:kR FH 2097152:=⟨Pd,λa ha=>by
 obtain rfl:=ahO.1 ha
 decide⟩
theorem Nj:kZ [] 1048576:=⟨Pd,λa ha=>by cases ha⟩
end f
end
section
open Go.RowKit Go.Maps bG aF
attribute [local irreducible] av bP aq aB
noncomputable abbrev zH1 (b4:Nat):=(.ay b4 [.slice none (0) (0),vI 0,vI 0,vI 0,vI 0,vI 0,vI 0,.slice none (0) (0),.slice none (0) (0)] 34:HP)
theorem Rh {β:Bs}:cr Tryz.prog β 28 #[] [] (λβ' v l=>∃B Bf,v=.agg #[.slice B 1 1,vI 1,vI 9,vI 99,vI 9,vI 0,vI 0,.slice Bf 1 1,.slice none 0 0]/\l=[]/\cD β' B (bH ⟨λ_=>none,λ_=>none,λ_=>0,λ_=>0⟩ C5)/\cD β' Bf (bO iJ FH)):=by
 refine o8 Tryz.func28 Tryz.ntmps28 (λaE R=>SR (jB 1 [0] (λb4=>.ay b4 [.slice none (0) (0),vI 0,vI 0,vI 0,vI 0,vI 0,vI 0,.slice none (0) (0),.slice none (0) (0)] 34) (λb4=>NS (jB 3 [4] (λb5=>.ay b5 [vI 1,vI 2,vI 493,vI 0,vI 0,vI 0,vI 0,.slice none (0) (0),.string ⟨#[]⟩,.slice none (0) (0)] 95) (λb5=>jN 2 [1] (λb6=>[(1,a_ 3 b6)]) (λ_=>[]) (λb6=>.ay b6 [.slice (some ⟨b5,0,none⟩) (1) (1)] 24) (λb6=>NS (av.mem (λw hS=>hS.oW (i:=2) (b:=b5) (cs:=[vI 1,vI 2,vI 493,vI 0,vI 0,vI 0,vI 0,.slice none (0) (0),.string ⟨#[]⟩,.slice none (0) (0)]) (e:=95) 10 1 KB rfl Pd) (av.ol (Φ:=λβ'=>cD β' (some ⟨b5,0,none⟩) (bH ⟨λ_=>none,λ_=>none,λ_=>0,λ_=>0⟩ C5)) 2 [0,1,3] (eZ:=[.abs R,zH1 b4,.ay b6 [.slice (some ⟨b5,0,none⟩) (1) (1)] 24]) rfl rfl KB (λF w h β' h1 h2=>cD.gU h h1 h2) (λJX kU hR=>?_)))))))))
 replace aE:=aE.trans kU
 refine jN 4 [5,6,8] (λb8=>[(0,a_ 2 b6)]) (λ_=>[]) (λb8=>.ay b8 [vI 2,vI 1] 66) (λb8=>av.mem (λw hS=>hS.oW (i:=3) (b:=b8) (cs:=[vI 2,vI 1]) (e:=66) 2 1 KB rfl Pd) (av.ol (Φ:=λβ'=>cD β' (some ⟨b8,0,none⟩) (bO iJ FH)) 3 [0,1,2] (eZ:=[.abs R,zH1 b4,.ay b6 [.slice (some ⟨b5,0,none⟩) (1) (1)] 24]) rfl rfl KB (λF w h β' h1 h2=>cD.gU h h1 h2) (λvz lY hQ=>?_)))
 replace hR:=hR.le lY
 replace aE:=aE.trans lY
 exact jC 3 [] [(2,A_ 1 b4 9)] [(1,[(0,.slice (some ⟨b5,0,none⟩) (1) (1)),(1,vI 1),(2,vI 9),(3,vI 99),(4,vI 9),(7,.slice (some ⟨b8,0,none⟩) (1) (1))])] (eO (l:=[]) (v:=(.agg #[.slice (some ⟨b5,0,none⟩) (1) (1),vI 1,vI 9,vI 99,vI 9,vI 0,vI 0,.slice (some ⟨b8,0,none⟩) (1) (1),.slice none (0) (0)])) [A_ 1 b4 9] aE ⟨_,_,rfl,rfl,hR,hQ⟩)
theorem aaI {β:Bs} (hg:oV β):cr Tryz.prog β 6 #[] [] (λ_ v l=>v=.bool true/\l=[]):=by
 refine o8 Tryz.func6 Tryz.ntmps6 (λaE R=>SR (jK 1 [] [] (NS (j3 [] (Rh) ?_))))
 rintro KY _ _ oO ⟨B,Bf,rfl,rfl,hR,hQ⟩
 replace hg:=hg.le oO
 replace aE:=aE.trans oO
 refine j3 [] (UX (β:=KY) (X:=Qf 99) aeE B 1 _ (afu hR) agy Bf 1 FH hQ afv none 0 [] (λj v hj=>by simp [bO,fw] at hj) Nj) ?_
 rintro Ij _ _ pQ ⟨N,G,V,rfl,rfl,hZ⟩
 replace hg:=hg.le pQ
 replace aE:=aE.trans pQ
 refine jK 5 [1,2] [] (NN (aq.seq (SR (jK 6 [16] [] (NN (CF (KX (SR (jK 2 [17,18] [] ?_)))))))))
 have hv:=aeD N.2
 have e1:=agv hv
 have di:bT (S1 N.1):=by have h:=bT.mZ (fs:=FH) (xs:=[]) (au:=1) (n:=1) (c:=vX) hv.inv;rw [e1] at h;exact h
 obtain⟨S3,e3,hx3⟩:=agx hv
 have WL:bT S3:=by have h:=bT.mZ (fs:=FH) (xs:=[]) (au:=1) (n:=3) (c:=vY) di;rw [e3] at h;exact h
 refine j3 [0] (Qn (β:=Ij) (G:=G) (V:=V) (tr:=[]) (c:=vX) Pd hv.inv (by show 0<=8388607;decide) hZ Nj hg (λj v hj=>by cases hj) Pd Pd Pd Pd Pd (by first|exact rfl|(unfold tW;decide)) e1) ?_
 rintro Le _ _ mE ⟨V12,B13,p14,B15,p16,rfl,rfl,_,_,_⟩
 replace hg:=hg.le mE
 replace hZ:=hZ.le mE
 replace aE:=aE.trans mE
 refine jN 2 [3] (λb18=>[(1,A_ 2 b18 13)]) (λ_=>[]) (λb18=>.ay b18 [vI 1,vI 0,vI 1,.string ⟨#[]⟩,.string ⟨#[]⟩,.slice B15 (0) (p16),vI 0,vI 0,vI 0,vI 0,vI 0,vI 0,vI 1] 53) (λb18=>NS (jK 2 [20,21] [] (j3 [0] (Qn (β:=Le) (G:=G) (V:=V12) (tr:=([]++[dJ B13 p14 ({vX with other:=1,answer:=1,code:=0})])) (c:=vY) Pd di (by show 1<=8388607;decide) hZ Nj hg (λj v hj=>by cases hj) Pd Pd Pd Pd Pd (by first|exact rfl|(unfold tW;decide)) agw) ?_)))
 rintro T8 _ _ tv ⟨V19,B20,p21,B22,p23,rfl,rfl,_,_,_⟩
 replace hg:=hg.le tv
 replace hZ:=hZ.le tv
 replace aE:=aE.trans tv
 refine jN 2 [4] (λsG=>[(1,A_ 3 sG 13)]) (λ_=>[]) (λsG=>.ay sG [vI 4,vI 1,vI 0,.string ⟨#[100]⟩,.string ⟨#[]⟩,.slice B22 (0) (p23),vI 0,vI 0,vI 0,vI 0,vI 0,vI 180,vI 0] 53) (λsG=>NS (jK 2 [23,24] [] (j3 [0] (Qn (β:=T8) (G:=G) (V:=V19) (tr:=(([]++[dJ B13 p14 ({vX with other:=1,answer:=1,code:=0})])++[dJ B20 p21 ({vY with code:=180})])) (c:=vY) Pd di (by show 2<=8388607;decide) hZ Nj hg (λj v hj=>by cases hj) Pd Pd Pd Pd Pd (by first|exact rfl|(unfold tW;decide)) e3) ?_)))
 rintro T9 _ _ Il ⟨V26,B27,p28,B29,p30,rfl,rfl,_,_,_⟩
 replace aE:=aE.trans Il
 refine jN 2 [5] (λb32=>[(1,A_ 4 b32 13)]) (λ_=>[]) (λb32=>.ay b32 [vI 4,vI 1,vI 0,.string ⟨#[100]⟩,.string ⟨#[]⟩,.slice B29 (0) (p30),vI 0,vI 0,vI 0,vI 0,vI 0,vI 0,vI 0] 53) (λb32=>NS (jK 20 [44,45] [(1,a_ 2 b18),(5,a_ 2 b18),(10,a_ 3 sG),(15,a_ 4 b32)] (gE [0] (MF (β:=T9) (G:=G) (fs:=FH) (xs:=[]) (au:=1) (S:=S3) (V:=V26) (tr:=((([]++[dJ B13 p14 ({vX with other:=1,answer:=1,code:=0})])++[dJ B20 p21 ({vY with code:=180})])++[dJ B27 p28 ({vY with answer:=0,code:=0})]))) (jK 4 [49,50] [(0,w_ (.bool true) rfl)] (j3 [0] (UE (β:=T9) (G:=G) (fs:=FH) (xs:=[]) (au:=1) (S:=S3) (V:=V26) (tr:=((([]++[dJ B13 p14 ({vX with other:=1,answer:=1,code:=0})])++[dJ B20 p21 ({vY with code:=180})])++[dJ B27 p28 ({vY with answer:=0,code:=0})])) WL) ?_)))))
 rintro ad5 _ _ Im ⟨A4,c4,K4,rfl,rfl,_⟩
 replace aE:=aE.trans Im
 exact jK 5 [0] [(1,p_ ⟨[],none,none,none,some (vI (((2:Nat):Int)))⟩ [((.int .i64 ↑((aY S3).length):Value))=(.int .i64 (((2:Nat):Int)))] ⟨by rw [ig,hx3],trivial⟩)] (eO (v:=(.bool (decide ((((2:Nat):Int):Int)=(2:Int))))) [] aE ⟨rfl,rfl⟩ [1])
end
section
open Go.RowKit Go.Maps bG aF
section q
variable {β:Bs} {ns:List aO} {Y:eP} {X:FM} {au sV:Int} {S S2:bB} {c c2:aP} {n:Nat} {A:Option Addr} {p:Nat}
structure agF (β:Bs) (B:Option Addr) (p:Nat) (d:List UInt8):Prop where
 b:bJ β B d
 l:d.length<=p
end q
end
section
open Go.RowKit Go.Maps bG aF
attribute [local irreducible] av bP aq aB fF oA
theorem law_worldMemory (W:World) (A:Option Addr) (c:Nat) (ns:List aO) (Y:eP) (hG:aQ (B0 W) A ns Y) (hB:j7 ns 1048576) (X:FM) (au:Int) (Af:Option Addr) (cf:Nat) (fs:List dI) (hF:cD (B0 W) Af (bO iJ fs)) (oQ:kR fs 1048576) (Aa:Option Addr) (ca:Nat) (xs:List dO) (hA:cD (B0 W) Aa (bO jP xs)) (ef:kZ xs 1048576) (hrw:(Lit.int .i64 au).wf=true) (A1:Option Addr) (c1:Nat) (cs:List aP) (hS:fC (B0 W) A1 cs) (_ahc:cs.length<=1048576) (hxc:cs.length<=c1) (hg:oV (B0 W)) (mark:Int) :
 aX Tryz.prog (B0 W) 4 #[.agg #[.slice A (ns.length) (c),vI (au),vI (X.cN),vI (X.cB),vI (X.cH),vI (X.cS),vI (X.cZ),.slice Af (fs.length) (cf),.slice Aa (xs.length) (ca)],.slice A1 (cs.length) (c1),.int .u8 (mark)] [] (λv _=>v=.bool true):=by
 have aE:=B0.refl W
 have hfl:=oQ.len
 have hxn:=ef.len
 refine SE Tryz.func4 Tryz.ntmps4 (λR=>SR (jB 2 [3] (λb1=>.ay b1 [.slice A (ns.length) (c),vI (au),vI (X.cN),vI (X.cB),vI (X.cH),vI (X.cS),vI (X.cZ),.slice Af (fs.length) (cf),.slice Aa (xs.length) (ca)] 34) (λb1=>NZ (j3 [] (aaI hg) ?_))))
 rintro kx _ _ fA ⟨rfl,rfl⟩
 replace hG:=hG.le fA
 replace hF:=hF.le fA
 replace hA:=hA.le fA
 replace hS:=hS.le fA
 replace hg:=hg.le fA
 replace aE:=aE.trans fA
 refine jK 1 [24] [] (NF (KX (aq.seq ?_)))
 by_cases h0:fP X ns au=0
 ·have hok:=FB h0
  refine aq.region (jK 2 [26] [(1,A_ 1 b1 2)] (gL [] (sI Af cf fs hF zc Aa ca xs hA zc) ?_))
  rintro _ _ ⟨Bf,bf,Ba,ba,rfl,rfl⟩
  refine jN 2 [7] (λb3=>[(1,A_ 4 b3 2)]) (λ_=>[]) (λb3=>.ay b3 [.slice Bf (fs.length) (bf),.slice Ba (xs.length) (ba)] 32) (λb3=>NN (aq.seq (jM [0,1,3,4,5,6,7,502,508,9,10,11,12,513] [3,4] (jG 7 [1,2,3,7,30,33,35,36] [(1,a_ 0 b1),(3,a_ 0 b1),(5,A_ 0 b1 5),(6,A_ 1 b3 2)] (kL [4,5] [] (sH (β:=kx) A c ns Y hG (tQ hB) (BV hB)) ?_ (by rintro _ _ ⟨B,cp,rfl,rfl⟩;kernel_rfl))))))
  rintro _ _ ⟨B,cp,rfl,rfl⟩
  refine kL [5,6] [0,1,2] (aav (β:=kx) (X:=X) (Bf:=Bf) (Ba:=Ba) h0 B cp hB bf ba (oQ.wide Pd) ef) ?_ (by rintro _ _ ⟨N,G,V,rfl,rfl⟩;kernel_rfl)
  rintro _ _ ⟨N,G,V,rfl,rfl⟩
  refine jG 4 [1,2,3,7,8,39] [] (fF.last KB (jK 1 [9] [] (NL (aB.np (NX (SR (av.tZ 0 [1,2,3,4,5,6] (eZ:=[wA G fs xs au N.1 V ([]),.abs (aG 66 2 Bf fs.length bf (bO iJ fs)),.abs (aG 68 5 Ba xs.length ba (bO jP xs)),.abs R,.ay b1 [.slice A (ns.length) (c),vI (au),vI (X.cN),vI (X.cB),vI (X.cH),vI (X.cS),vI (X.cZ),.slice Af (fs.length) (cf),.slice Aa (xs.length) (ca)] 34,.ay b3 [.slice Bf (fs.length) (bf),.slice Ba (xs.length) (ba)] 32]) rfl rfl KB (λCW kT Cq=>?_))))))))
  replace hG:=hG.le kT
  replace hF:=hF.le kT
  replace hA:=hA.le kT
  replace hS:=hS.le kT
  replace hg:=hg.le kT
  replace aE:=aE.trans kT
  refine jK 8 [42,44,46,48] [(1,a_ 4 b1),(3,a_ 4 b1),(5,A_ 4 b1 5),(7,A_ 4 b1 2)] (j3 [] (XM (β:=CW) h0 N A c hG hB cf hF (oQ.wide Pd) ca hA ef) ?_)
  rintro E9 _ _ iq ⟨Yd,U,rfl,rfl,hR,hU⟩
  replace hG:=hG.le iq
  replace hF:=hF.le iq
  replace hA:=hA.le iq
  replace hS:=hS.le iq
  replace hg:=hg.le iq
  replace Cq:=Cq.le iq
  replace aE:=aE.trans iq
  refine jN 6 [10,11] (λb6=>[(4,A_ 6 b6 16)]) (λ_=>[]) (λb6=>.ay b6 (uV (toR N.1 []) Yd au U fs.length xs.length 0) 47) (λb6=>NZ (jK 7 [58] [] (NF (KX (SQ (av.mem (λw hS=>hS.same (i:=1) (p':=.abs (nM 66 2 Bf fs.length bf)) rfl nM.of) (av.mem (λw hS=>hS.same (i:=2) (p':=.abs (nM 68 5 Ba xs.length ba)) rfl nM.of) (jK 1 [12] [] (NN (aq.block (lJ (ι:=Nat) (λ(i:Nat)=>(i<=fs.length)) (λ(i:Nat)=>fs.length-i) (λ(i:Nat)=>[(1,.slice A1 (cs.length) (c1)),(2,.int .u8 (mark)),(7,vP b3),(8,vP G.w),(10,vP b6),(12,vI ↑i)]) (λ(i:Nat)=>[wA G fs xs au N.1 V ([]),.abs (nM 66 2 Bf fs.length bf),.abs (nM 68 5 Ba xs.length ba),.abs R,.ay b1 [.slice A (ns.length) (c),vI (au),vI (X.cN),vI (X.cB),vI (X.cH),vI (X.cS),vI (X.cZ),.slice Af (fs.length) (cf),.slice Aa (xs.length) (ca)] 34,.ay b3 [.slice Bf (fs.length) (bf),.slice Ba (xs.length) (ba)] 32,.ay b6 (uV (toR N.1 []) Yd au U fs.length xs.length 0) 47]) 0 [0,1,2,3,4,5,6] (ahj _) ?_)))))))))))
  rintro i hi
  refine SQ (jK 5 [74] [(2,a_ 5 b3)] (NN (cP ((((i:Nat):Int):Int)<(((fs.length:Nat):Int):Int)) (λD3=>KX (aq.seq (aq.block (aq.region (av.TS 1 rfl zc (λhBf=>jK 5 [80,81] [(1,a_ 5 b3),(4,x_ i fs.length (hBf))] (wSA (j:=i*2) 1 66 [vI 1,vI 1] rfl zc (by show _+2<=_;omega) (LX (aq.region (jK 3 [12] [(1,wJ ((i:Int)+1) (↑(i+1)))] (NL (tJ ((i+1)) [0,1,2,3,4,5,6] (zc))))))))))))) (λD3=>XX (SQ (jK 1 [13] [] (NN (aq.block (lJ (ι:=Nat) (λ(i:Nat)=>(i<=xs.length)) (λ(i:Nat)=>xs.length-i) (λ(i:Nat)=>[(1,.slice A1 (cs.length) (c1)),(2,.int .u8 (mark)),(7,vP b3),(8,vP G.w),(10,vP b6),(13,vI ↑i)]) (λ(i:Nat)=>[wA G fs xs au N.1 V ([]),.abs (nM 66 2 Bf fs.length bf),.abs (nM 68 5 Ba xs.length ba),.abs R,.ay b1 [.slice A (ns.length) (c),vI (au),vI (X.cN),vI (X.cB),vI (X.cH),vI (X.cS),vI (X.cZ),.slice Af (fs.length) (cf),.slice Aa (xs.length) (ca)] 34,.ay b3 [.slice Bf (fs.length) (bf),.slice Ba (xs.length) (ba)] 32,.ay b6 (uV (toR N.1 []) Yd au U fs.length xs.length 0) 47]) 0 [0,1,2,3,4,5,6] (ahj _) ?_)))))))))
  rintro i hi
  refine SQ (jK 5 [86] [(2,a_ 5 b3)] (NN (cP ((((i:Nat):Int):Int)<(((xs.length:Nat):Int):Int)) (λh86=>KX (aq.seq (aq.block (aq.region (av.TS 2 rfl zc (λhBa=>jK 5 [92,93] [(1,a_ 5 b3),(4,x_ i xs.length (hBa))] (wSA (j:=i*5) 2 68 [vI 1,vI 2,.string ⟨#[111,119,110]⟩,.string ⟨#[]⟩,.string ⟨#[]⟩] rfl zc (by show _+5<=_;omega) (LX (aq.region (jK 3 [13] [(1,wJ ((i:Int)+1) (↑(i+1)))] (NL (tJ ((i+1)) [0,1,2,3,4,5,6] (zc))))))))))))) (λh86=>XX (SR (jK 1 [94] [] (gL [] (aep A1 c1 cs hxc) ?_)))))))
  rintro _ _ ⟨n,hn,hn3,rfl,rfl⟩
  refine jK 1 [1] [] (NS (jB 2 [14] (λb7=>.ay b7 [] 53) (λb7=>NZ (av.mem (eZ:=[wA G fs xs au N.1 V ([]),.abs (nM 66 2 Bf fs.length bf),.abs (nM 68 5 Ba xs.length ba),.abs R,.ay b1 [.slice A (ns.length) (c),vI (au),vI (X.cN),vI (X.cB),vI (X.cH),vI (X.cS),vI (X.cZ),.slice Af (fs.length) (cf),.slice Aa (xs.length) (ca)] 34,.ay b3 [.slice Bf (fs.length) (bf),.slice Ba (xs.length) (ba)] 32,.ay b6 (uV (toR N.1 []) Yd au U fs.length xs.length 0) 47,.abs (aG 53 13 (some ⟨b7,0,none⟩) 0 0 (bO aL []))]) (λw hS=>hS.oW (i:=7) (b:=b7) (cs:=[]) (e:=53) 13 0 rfl rfl (ahj _)) (jK 1 [15] [] (NN (aq.block (lB (ι:=Nat×Bs×bB×(List Int)×RL×WV×(List aP)×(Option Addr)×Nat×(List aP)) (λ(i,b,S,g,Yd,V,tr,Am,cm,ms)=>b) (λ(i,b,S,g,Yd,V,tr,Am,cm,ms)=>(i<=n)/\((B0 W).le b)/\(fC b A1 cs)/\(oV b)/\(Pair S g)/\(dz b (toR S g) Yd)/\(pN b G.Z xs)/\(MK b U fs xs)/\(tr.length=i)/\(yO b tr)/\(yO b ms)/\(ms.map bare=tr.map bare)) (λ(i,b,S,g,Yd,V,tr,Am,cm,ms)=>n-i) (λ(i,b,S,g,Yd,V,tr,Am,cm,ms)=>[(1,.slice A1 (n) (c1)),(2,.int .u8 (mark)),(8,vP G.w),(10,vP b6),(14,.slice Am (i) (cm)),(15,vI ↑i)]) (λ(i,b,S,g,Yd,V,tr,Am,cm,ms)=>[.ay b6 (uV (toR S g) Yd au U fs.length xs.length (↑i)) 47,wA G fs xs au S V tr,.abs (aG 53 13 Am i cm (bO aL ms)),.abs R]) (0,E9,N.1,[],Yd,V,[],(some ⟨b7,0,none⟩),0,[]) [6,0,7,3] (⟨ahj _,aE,hS,hg,.start N hok.2,hR,Cq,hU,rfl,λc hc=>(by cases hc),λc hc=>(by cases hc),rfl⟩) ?_))))))))
  rintro⟨i,b,S,g,Yd,V,tr,Am,cm,ms⟩ ⟨hi,aE,hS,hg,hp,hR,Cq,hU,htr,hT,hM,hmm⟩
  obtain⟨⟨S2,c2⟩,hWx⟩:∃q,mZ fs xs au (i+1) S (bK cs i)=q:=⟨_,rfl⟩
  have hd2:c2.data=(bK cs i).data:=by have h:=GI (fs:=fs) (xs:=xs) (au:=au) (n:=i+1) (S:=S) (c:=(bK cs i));rw [hWx] at h;exact h
  refine SQ (jK 4 [100] [] (NN (cP ((((i:Nat):Int):Int)<(((n:Nat):Int):Int)) (λagz=>?_) (λagz=>?_))))
  ·refine KX (aq.seq (aq.block (SR (jK 4 [106] [(2,x_ i n (fC.hd hS (i:=i) zc)),(3,p_ ⟨[.old (.int .i64 ((bK cs i).op)),.old (.int .i64 ((bK cs i).aN)),.old (.int .i64 ((bK cs i).other)),.old (.string (bK cs i).name),.old (.string (bK cs i).text),.old (.slice (bK cs i).dA ((bK cs i).data.length) ((bK cs i).dC)),.old (.int .i64 ((bK cs i).mode)),.old (.int .i64 ((bK cs i).bg)),.old (.int .i64 ((bK cs i).bh)),.old (.int .i64 ((bK cs i).aU)),.old (.int .i64 ((bK cs i).aJ)),.old (.int .i64 ((bK cs i).code)),.old (.int .i64 ((bK cs i).answer))],none,none,none,none⟩ [(Rd b ⟨(br A1),bq A1+i*13+12,none⟩ (vI ((bK cs i).answer))),(Rd b ⟨(br A1),bq A1+i*13+11,none⟩ (vI ((bK cs i).code))),(Rd b ⟨(br A1),bq A1+i*13+10,none⟩ (vI ((bK cs i).aJ))),(Rd b ⟨(br A1),bq A1+i*13+9,none⟩ (vI ((bK cs i).aU))),(Rd b ⟨(br A1),bq A1+i*13+8,none⟩ (vI ((bK cs i).bh))),(Rd b ⟨(br A1),bq A1+i*13+7,none⟩ (vI ((bK cs i).bg))),(Rd b ⟨(br A1),bq A1+i*13+6,none⟩ (vI ((bK cs i).mode))),(Rd b ⟨(br A1),bq A1+i*13+5,none⟩ (.slice (bK cs i).dA ((bK cs i).data.length) ((bK cs i).dC))),(Rd b ⟨(br A1),bq A1+i*13+4,none⟩ (.string (bK cs i).text)),(Rd b ⟨(br A1),bq A1+i*13+3,none⟩ (.string (bK cs i).name)),(Rd b ⟨(br A1),bq A1+i*13+2,none⟩ (vI ((bK cs i).other))),(Rd b ⟨(br A1),bq A1+i*13+1,none⟩ (vI ((bK cs i).aN))),(Rd b ⟨(br A1),bq A1+i*13,none⟩ (vI ((bK cs i).op)))] ⟨fC.rd hS (i:=i) zc (j:=12) rfl,fC.rd hS (i:=i) zc (j:=11) rfl,fC.rd hS (i:=i) zc (j:=10) rfl,fC.rd hS (i:=i) zc (j:=9) rfl,fC.rd hS (i:=i) zc (j:=8) rfl,fC.rd hS (i:=i) zc (j:=7) rfl,fC.rd hS (i:=i) zc (j:=6) rfl,fC.rd hS (i:=i) zc (j:=5) rfl,fC.rd hS (i:=i) zc (j:=4) rfl,fC.rd hS (i:=i) zc (j:=3) rfl,fC.rd hS (i:=i) zc (j:=2) rfl,fC.rd hS (i:=i) zc (j:=1) rfl,fC.rd hS (i:=i) zc (j:=0) rfl,trivial⟩)] (gL [] (Qq (bK cs i) (hS.q i zc).data (hS.q i zc).len) ?_)))))
   rintro _ _ ⟨Bx,px,rfl,rfl⟩
   refine jN 2 [16] (λb8=>[(1,A_ 5 b8 13)]) (λ_=>[]) (λb8=>.ay b8 (aL (fk (bK cs i) Bx px)) 53) (λb8=>NS (jK 2 [108,109] [(1,A_ 5 b8 13)] (j3 [2,0] (acG (β:=b) (G:=G) (fs:=fs) (xs:=xs) (S:=S) (V:=V) (tr:=tr) (c:=(bK cs i)) (c2:=c2) (S2:=S2) hrw hp.inv zc Cq ef hg (B:=Bx) (p:=px) (hS.q i zc).len (hS.q i zc).hw (hS.q i zc).ow (hS.q i zc).name (hS.q i zc).text rfl (by rw [htr];exact hWx)) ?_)))
   rintro vz _ _ lY ⟨V2,X1,x1,X2,x2,rfl,rfl,hX1⟩
   replace hS:=hS.le lY
   replace hg:=hg.le lY
   replace Cq:=Cq.le lY
   replace hR:=hR.le lY
   replace hU:=hU.le lY
   replace hT:=hT.le lY
   replace hM:=hM.le lY
   replace aE:=aE.trans lY
   refine NN (aq.seq (SR ?_))
   have hxl:=(hS.q i zc).len
   refine av.mem (λw hS=>hS.same (i:=1) (p':=.abs (nM 5 1 Bx (bK cs i).data.length px)) rfl nM.of) (jK 1 [17] [] (NN (aq.block (lJ (ι:=Nat) (λ(j:Nat)=>(j<=(bK cs i).data.length)) (λ(j:Nat)=>(bK cs i).data.length-j) (λ(j:Nat)=>[(1,.slice A1 (n) (c1)),(2,.int .u8 (mark)),(8,vP G.w),(10,vP b6),(14,.slice Am (i) (cm)),(15,vI ↑i),(16,vP b8),(17,vI ↑j)]) (λ(j:Nat)=>[wA G fs xs au S2 V2 (tr++[dJ X1 x1 c2]),.abs (nM 5 1 Bx (bK cs i).data.length px),.ay b6 (uV (toR S g) Yd au U fs.length xs.length (↑i)) 47,.abs (aG 53 13 Am i cm (bO aL ms)),.abs R,.ay b8 (aL (fk (bK cs i) Bx px)) 53]) 0 [0,1,2,3,4,5] (ahj _) ?_))))
   rintro j hj
   refine SQ (jK 5 [115] [(2,a_ 5 b8)] (NN (cP ((((j:Nat):Int):Int)<((((bK cs i).data.length:Nat):Int):Int)) (λagA=>KX (aq.seq (aq.block (aq.region (av.TS 1 rfl zc (λhBx=>jK 5 [121,122] [(1,a_ 5 b8),(4,x_ j ((bK cs i).data.length) (hBx))] (wS 1 5 (.int .u8 (mark)) rfl (Wr.row (j:=j*1) zc zc) (LX (aq.region (jK 3 [17] [(1,wJ ((j:Int)+1) (↑(j+1)))] (NL (tJ ((j+1)) [0,1,2,3,4,5] (zc))))))))))))) (λagA=>XX (aq.seq (aq.rz (S:=[.ay b6 (uV (toR S g) Yd au U fs.length xs.length (↑i)) 47]) (yY [0,1,2,3,4] (oK 9 10 [(false,11),(false,12)] [(false,5),(true,6),(true,7),(true,8)])) [2] (gT (oK 9 10 [(false,11),(false,12)] [(false,5),(true,6),(true,7),(true,8)]) [(1,.slice A1 (n) (c1)),(2,.int .u8 (mark)),(8,vP G.w),(10,vP b6),(14,.slice Am (i) (cm)),(15,vI ↑i),(124,.agg ⟨uV (toR S g) Yd au U fs.length xs.length (↑i)⟩),(128,.agg ⟨aL (bK cs i)⟩)] [0,1,2,3,4] [(0,A_ 0 b6 16),(3,x_ i n (fC.hd hS (i:=i) zc)),(4,p_ ⟨[.old (.int .i64 ((bK cs i).op)),.old (.int .i64 ((bK cs i).aN)),.old (.int .i64 ((bK cs i).other)),.old (.string (bK cs i).name),.old (.string (bK cs i).text),.old (.slice (bK cs i).dA ((bK cs i).data.length) ((bK cs i).dC)),.old (.int .i64 ((bK cs i).mode)),.old (.int .i64 ((bK cs i).bg)),.old (.int .i64 ((bK cs i).bh)),.old (.int .i64 ((bK cs i).aU)),.old (.int .i64 ((bK cs i).aJ)),.old (.int .i64 ((bK cs i).code)),.old (.int .i64 ((bK cs i).answer))],none,none,none,none⟩ [(Rd vz ⟨(br A1),bq A1+i*13+12,none⟩ (vI ((bK cs i).answer))),(Rd vz ⟨(br A1),bq A1+i*13+11,none⟩ (vI ((bK cs i).code))),(Rd vz ⟨(br A1),bq A1+i*13+10,none⟩ (vI ((bK cs i).aJ))),(Rd vz ⟨(br A1),bq A1+i*13+9,none⟩ (vI ((bK cs i).aU))),(Rd vz ⟨(br A1),bq A1+i*13+8,none⟩ (vI ((bK cs i).bh))),(Rd vz ⟨(br A1),bq A1+i*13+7,none⟩ (vI ((bK cs i).bg))),(Rd vz ⟨(br A1),bq A1+i*13+6,none⟩ (vI ((bK cs i).mode))),(Rd vz ⟨(br A1),bq A1+i*13+5,none⟩ (.slice (bK cs i).dA ((bK cs i).data.length) ((bK cs i).dC))),(Rd vz ⟨(br A1),bq A1+i*13+4,none⟩ (.string (bK cs i).text)),(Rd vz ⟨(br A1),bq A1+i*13+3,none⟩ (.string (bK cs i).name)),(Rd vz ⟨(br A1),bq A1+i*13+2,none⟩ (vI ((bK cs i).other))),(Rd vz ⟨(br A1),bq A1+i*13+1,none⟩ (vI ((bK cs i).aN))),(Rd vz ⟨(br A1),bq A1+i*13,none⟩ (vI ((bK cs i).op)))] ⟨fC.rd hS (i:=i) zc (j:=12) rfl,fC.rd hS (i:=i) zc (j:=11) rfl,fC.rd hS (i:=i) zc (j:=10) rfl,fC.rd hS (i:=i) zc (j:=9) rfl,fC.rd hS (i:=i) zc (j:=8) rfl,fC.rd hS (i:=i) zc (j:=7) rfl,fC.rd hS (i:=i) zc (j:=6) rfl,fC.rd hS (i:=i) zc (j:=5) rfl,fC.rd hS (i:=i) zc (j:=4) rfl,fC.rd hS (i:=i) zc (j:=3) rfl,fC.rd hS (i:=i) zc (j:=2) rfl,fC.rd hS (i:=i) zc (j:=1) rfl,fC.rd hS (i:=i) zc (j:=0) rfl,trivial⟩)] (oA.both (j:=9) (dj:=18) (k:=10) (dk:=19) (R:=λf_ l_=>∃g2:List Int,∃Y2:RL,∃B2:Option Addr,∃p2:Nat,f_=[(131,.agg ⟨aL (fk c2 B2 p2)⟩),(130,.agg ⟨uV (toR S2 g2) Y2 au U fs.length xs.length (↑(i+1))⟩),(123,.tuple #[.agg ⟨uV (toR S2 g2) Y2 au U fs.length xs.length (↑(i+1))⟩,.agg ⟨aL (fk c2 B2 p2)⟩]),(129,.tuple #[.agg ⟨uV (toR S2 g2) Y2 au U fs.length xs.length (↑(i+1))⟩,.agg ⟨aL (fk c2 B2 p2)⟩]),(1,.slice A1 (n) (c1)),(2,.int .u8 (mark)),(8,vP G.w),(10,vP b6),(14,.slice Am (i) (cm)),(15,vI ↑i),(124,.agg ⟨uV (toR S g) Yd au U fs.length xs.length (↑i)⟩),(128,.agg ⟨aL (bK cs i)⟩)]/\l_=[.abs (j5 vz (λβ'=>Pair S2 g2/\dz β' (toR S2 g2) Y2/\bJ β' B2 c2.data))]) [2] [(false,5,129),(true,6,123),(true,7,130),(true,8,131)] (jt.of (ι:=Nat) (v:=λ(b10:Nat)=>vP b10) (l:=λ(b10:Nat)=>[.ay b10 (uZ) 47]) [129,123,130,131,19] rfl rfl rfl rfl ?_) (jt.of (ι:=Nat) (v:=λ(b11:Nat)=>vP b11) (l:=λ(b11:Nat)=>[.ay b11 [vI 0,vI 0,vI 0,.string ⟨#[]⟩,.string ⟨#[]⟩,.slice none (0) (0),vI 0,vI 0,vI 0,vI 0,vI 0,vI 0,vI 0] 53]) [129,123,130,131,18] rfl rfl rfl rfl ?_) ?_ ?_))))))))
   ·intro u Aq
    exact jB 1 [18] (λb10=>.ay b10 (uZ) 47) (λb10=>NL (MD b10 [18,129,123,130,131,19,1,2,8,10,14,15,124,128] [1,0]))
   ·intro u Aq
    exact jB 1 [19] (λb11=>.ay b11 [vI 0,vI 0,vI 0,.string ⟨#[]⟩,.string ⟨#[]⟩,.slice none (0) (0),vI 0,vI 0,vI 0,vI 0,vI 0,vI 0,vI 0] 53) (λb11=>NL (MD b11 [19,129,123,130,131,18,1,2,8,10,14,15,124,128] [1,0]))
   ·refine eF.step (jt.of (ι:=(List Int)×RL×(Option Addr)×Nat) (v:=λ((g2,Y2,B2,p2):(List Int)×RL×(Option Addr)×Nat)=>.tuple #[.agg ⟨uV (toR S2 g2) Y2 au U fs.length xs.length (↑(i+1))⟩,.agg ⟨aL (fk c2 B2 p2)⟩]) (l:=λ((g2,Y2,B2,p2):(List Int)×RL×(Option Addr)×Nat)=>[.abs (j5 vz (λβ'=>Pair S2 g2/\dz β' (toR S2 g2) Y2/\bJ β' B2 c2.data))]) [18,19] rfl rfl rfl rfl ?_) ?_
    ·intro u Aq
     refine gL [] (XO hp Yd hR au U fs xs i zc hU zc ef hWx (hS.q i zc).name (hS.q i zc).text (hS.q i zc).data (ahk (hS.q i zc).len Pd) (hS.q i zc).cap) ?_
     rintro _ _ ⟨g2,Y2,B2,p2,rfl,rfl⟩
     exact NL (MD (g2,Y2,B2,p2) [129,18,19,1,2,8,10,14,15,124,128] [0,1])
    rintro _ _ ⟨⟨g2,Y2,B2,p2⟩,rfl,rfl⟩
    exact eF.read (.tuple #[.agg ⟨uV (toR S2 g2) Y2 au U fs.length xs.length (↑(i+1))⟩,.agg ⟨aL (fk c2 B2 p2)⟩]) (eF.read (.agg ⟨uV (toR S2 g2) Y2 au U fs.length xs.length (↑(i+1))⟩) (eF.read (.agg ⟨aL (fk c2 B2 p2)⟩) ⟨g2,Y2,B2,p2,rfl,rfl⟩))
   rintro _ _ ⟨g2,Y2,B2,p2,rfl,rfl⟩ _ _ ⟨b10,rfl,rfl⟩ _ _ ⟨b11,rfl,rfl⟩
   refine kC [5] [] [(0,A_ 1 b10 16)] [(1,(zC (uV (toR S2 g2) Y2 au U fs.length xs.length (↑(i+1)))))] (fF.last KB (jC 1 [] [(0,A_ 2 b11 13)] [(2,(zC (aL (fk c2 B2 p2))))] (NL (aB.np (NX (SR (av.tZ 0 [1,2,3,4,5,6,7,8] (eZ:=[.ay b10 (uV (toR S2 g2) Y2 au U fs.length xs.length (↑(i+1))) 47,.ay b11 (aL (fk c2 B2 p2)) 53,wA G fs xs au S2 V2 (tr++[dJ X1 x1 c2]),.abs (nM 5 1 Bx (bK cs i).data.length px),.ay b6 (uV (toR S g) Yd au U fs.length xs.length (↑i)) 47,.abs (aG 53 13 Am i cm (bO aL ms)),.abs R,.ay b8 (aL (fk (bK cs i) Bx px)) 53]) rfl rfl KB (λDK kF ⟨hp2,yI,SG⟩=>?_))))))))
   replace hS:=hS.le kF
   replace hg:=hg.le kF
   replace Cq:=Cq.le kF
   replace hR:=hR.le kF
   replace hU:=hU.le kF
   replace hT:=hT.le kF
   replace hM:=hM.le kF
   replace hX1:=hX1.le kF
   replace aE:=aE.trans kF
   have hT2:=hT.snoc (c:=dJ X1 x1 c2) hX1 (by show c2.data.length<=_;rw [hd2];exact (hS.q i zc).len)
   have aeF:(tr++[dJ X1 x1 c2]).length=i+1:=by rw [ahl,htr];rfl
   refine jC 2 [] [(0,A_ 0 b10 16),(1,A_ 4 b6 16)] [(4,[(0,.slice Y2.A ((toR S2 g2).ns.length) (Y2.c)),(1,.slice Y2.G ((toR S2 g2).aH.length) (Y2.cg)),(2,vI ((toR S2 g2).cH)),(3,vI ((toR S2 g2).aI)),(4,.slice Y2.H ((toR S2 g2).us.length) (Y2.ch)),(5,.slice Y2.V ((toR S2 g2).us.length) (Y2.cv)),(6,vI ((toR S2 g2).cN)),(7,vI ((toR S2 g2).cB)),(8,vI ((toR S2 g2).cH)),(9,vI ((toR S2 g2).cS)),(10,vI ((toR S2 g2).cZ)),(11,vI ((toR S2 g2).last)),(15,vI ↑(i+1))])] (NS (jN 3 [133,135] (λb13=>[(1,A_ 1 b11 13)]) (λ_=>[]) (λb13=>.ay b13 (aL (fk c2 B2 p2)) 53) (λb13=>av.append 5 (d:=(some 136)) (t:=35) (e:=53) (z:=.agg #[vI 0,vI 0,vI 0,.string ⟨#[]⟩,.string ⟨#[]⟩,.slice none (0) (0),vI 0,vI 0,vI 0,vI 0,vI 0,vI 0,vI 0]) (size:=13) (bytes:=136) (n:=i) (cap:=cm) (A:=Am) (xs:=(bO aL ms)) (s:=(.tmp 133)) (x:=(.tmp 135)) (ats:=#[35,35]) (A':=some ⟨b13,0,none⟩) (m:=1) (c':=1) (news:=[vI (c2.op),vI (c2.aN),vI (c2.other),.string c2.name,.string c2.text,.slice B2 (c2.data.length) (p2),vI (c2.mode),vI (c2.bg),vI (c2.bh),vI (c2.aU),vI (c2.aJ),vI (c2.code),vI (c2.answer)]) (λ_=>KB) rfl KB (λ_=>KB) (λ_=>KB) Tryz.underlying35 KB rfl Pd (rfl) (by simp [Value.oneCell']) (fU (j:=8) rfl) (by unfold maxLen;omega) zc (λul um=>av.cO 5 (p':=.abs (aG 53 13 ul (i+1) um (bO aL (ms++[dJ B2 p2 c2])))) rfl (ahg (λx=>HP.abs (aG 53 13 _ _ _ x)) (zq aL (dJ B2 p2 c2) ms).symm) (sl 136 (.slice ul (i+1) (um)) (.slice ul ((i+1)) (um)) (rfl) (jK 1 [14] [] (NS (jK 1 [137] [] (gL [2] (Kb (β:=DK) (G:=G) (fs:=fs) (xs:=xs) (au:=au) (S:=S2) (V:=V2) (tr:=(tr++[dJ X1 x1 c2])) zc hT2) ?_)))))))))
   rintro _ _ ⟨At,ct,os,rfl,rfl,hM1⟩
   have hol:os.length=i+1:=(zO hM1).trans aeF
   refine sl 138 (.slice At ((tr++[dJ X1 x1 c2]).length) (ct)) (.slice At (os.length) (ct)) (ahg (λn=>Value.slice _ n _) (zO hM1).symm) (jK 1 [20] [] (NS (av.mem (λw hS=>hS.same (i:=1) (p':=.abs (vW At ct os)) rfl (vW.of rfl)) (av.mem (λw hS=>hS.same (i:=2) (p':=.abs (iL (SD os) os.length)) rfl SD.of) (jK 1 [21] [] (NN (aq.block (lJ (ι:=Nat) (λ(k:Nat)=>(k<=os.length)) (λ(k:Nat)=>os.length-k) (λ(k:Nat)=>[(1,.slice A1 (n) (c1)),(2,.int .u8 (mark)),(8,vP G.w),(10,vP b6),(14,.slice ul ((i+1)) (um)),(15,vI ↑i),(20,.slice At (os.length) (ct)),(21,vI ↑k)]) (λ(k:Nat)=>[wA G fs xs au S2 V2 (tr++[dJ X1 x1 c2]),.abs (vW At ct os),.abs (iL (SD os) os.length),.ay b10 (uV (toR S2 g2) Y2 au U fs.length xs.length (↑(i+1))) 47,.ay b11 (aL (fk c2 B2 p2)) 53,.abs (nM 5 1 Bx (bK cs i).data.length px),.ay b6 (uV (toR S2 g2) Y2 au U fs.length xs.length (↑(i+1))) 47,.abs (aG 53 13 ul (i+1) um (bO aL (ms++[dJ B2 p2 c2]))),.abs R,.ay b8 (aL (fk (bK cs i) Bx px)) 53,.ay b13 (aL (fk c2 B2 p2)) 53]) 0 [0,1,2,3,4,5,6,7,8,9,10] (ahj _) ?_))))))))
   rintro k hk
   refine SQ (jK 4 [142] [] (NN (cP ((((k:Nat):Int):Int)<(((os.length:Nat):Int):Int)) (λagB=>KX (aq.seq (aq.block (aq.seq (SR ?_))))) (λagB=>XX (aq.region (jK 3 [15] [(1,wJ ((i:Int)+1) (↑(i+1)))] (NL (tB ((i+1),DK,S2,g2,Y2,V2,(tr++[dJ X1 x1 c2]),ul,um,(ms++[dJ B2 p2 c2])) [6,0,7,8] (⟨zc,aE,hS,hg,hp2,yI,Cq,hU,aeF,hT2,hM.snoc (c:=dJ B2 p2 c2) SG (by show c2.data.length<=_;rw [hd2];exact (hS.q i zc).len),by rw [ahP,ahP,hmm];rfl⟩)))))))))
   have hin:k<os.length:=zc
   have hkl:(bK os k).data.length<=1048576:=by rw [Fz (Gi hM1 k)];exact (hT2 _ (wZ (by have:=zO hM1;omega))).2
   refine av.afq 1 rfl zc (λhAt=>jK 1 [22] [] (NN (aq.block (lJ (ι:=Nat) (λ(j:Nat)=>(j<=(bK os k).data.length)) (λ(j:Nat)=>(bK os k).data.length-j) (λ(j:Nat)=>[(1,.slice A1 (n) (c1)),(2,.int .u8 (mark)),(8,vP G.w),(10,vP b6),(14,.slice ul ((i+1)) (um)),(15,vI ↑i),(20,.slice At (os.length) (ct)),(21,vI ↑k),(22,vI ↑j)]) (λ(j:Nat)=>[wA G fs xs au S2 V2 (tr++[dJ X1 x1 c2]),.abs (vW At ct os),.abs (iL (SD os) os.length),.ay b10 (uV (toR S2 g2) Y2 au U fs.length xs.length (↑(i+1))) 47,.ay b11 (aL (fk c2 B2 p2)) 53,.abs (nM 5 1 Bx (bK cs i).data.length px),.ay b6 (uV (toR S2 g2) Y2 au U fs.length xs.length (↑(i+1))) 47,.abs (aG 53 13 ul (i+1) um (bO aL (ms++[dJ B2 p2 c2]))),.abs R,.ay b8 (aL (fk (bK cs i) Bx px)) 53,.ay b13 (aL (fk c2 B2 p2)) 53]) 0 [0,1,2,3,4,5,6,7,8,9,10] (ahj _) ?_))))
   rintro j hj
   exact SQ (jK 8 [152] [(3,x_ k os.length (hAt)),(5,p_ ⟨[.view 1 (.slice (bK os k).dA ((bK os k).data.length) ((bK os k).dC))],none,none,none,none⟩ [(∀F w,(vW At ct os).h F w->w.cell? ⟨(br At),bq At+k*13+5,none⟩=some (.slice (bK os k).dA ((bK os k).data.length) ((bK os k).dC)))] ⟨vW.dat hin,trivial⟩)] (NN (cP ((((j:Nat):Int):Int)<((((bK os k).data.length:Nat):Int):Int)) (λagC=>aq.skip (NX (aq.seq (aq.block (aq.region (av.ae9 2 k rfl hin rfl zc (λhdA=>jK 8 [161,162] [(2,x_ k os.length (hAt)),(4,p_ ⟨[.view 1 (.slice (bK os k).dA ((bK os k).data.length) ((bK os k).dC))],none,none,none,none⟩ [(∀F w,(vW At ct os).h F w->w.cell? ⟨(br At),bq At+k*13+5,none⟩=some (.slice (bK os k).dA ((bK os k).data.length) ((bK os k).dC)))] ⟨vW.dat hin,trivial⟩),(7,x_ j ((bK os k).data.length) (hdA))] (wS 2 5 (.int .u8 (mark)) rfl (Wr.N0 (k:=k) hin rfl (Wr.row (j:=j*1) zc zc)) (NL (aB.jI (NX (aq.region (jK 3 [22] [(1,wJ ((j:Int)+1) (↑(j+1)))] (NL (tJ ((j+1)) [0,1,2,3,4,5,6,7,8,9,10] (zc)))))))))))))))) (λagC=>aq.exit (aB.nT (aB.nT (aB.uG (NX (aq.region (jK 4 [166] [(2,x_ k os.length (hAt))] (wS 1 9 (.string ⟨#[109,97,114,107]⟩) rfl (Wr.name (i:=k) hin) (LX (aq.region (jK 3 [21] [(1,wJ ((k:Int)+1) (↑(k+1)))] (NL (tJ ((k+1)) [0,1,2,3,4,5,6,7,8,9,10] (zc)))))))))))))))))
  refine XX (SR (jK 1 [167] [] (j3 [1] (XA (β:=b) (G:=G) (fs:=fs) (xs:=xs) (au:=au) (S:=S) (V:=V) (tr:=tr) zc hT) ?_)))
  rintro Pn _ _ mD ⟨Az,cz,oz,rfl,rfl,hO,hM1⟩
  replace hS:=hS.le mD
  replace hg:=hg.le mD
  replace Cq:=Cq.le mD
  replace hR:=hR.le mD
  replace hU:=hU.le mD
  replace hT:=hT.le mD
  replace hM:=hM.le mD
  replace aE:=aE.trans mD
  refine jK 1 [169] [] (av.cT [2] [.abs (aG 53 13 Am i cm (bO aL ms))] (λLe mE hL=>?_))
  have hMr:cD Le Am (bO aL ms):=hL.rowAt 0 rfl
  replace hS:=hS.le mE
  replace hg:=hg.le mE
  replace Cq:=Cq.le mE
  replace hR:=hR.le mE
  replace hU:=hU.le mE
  replace hT:=hT.le mE
  replace hM:=hM.le mE
  replace hO:=hO.le mE
  replace aE:=aE.trans mE
  exact sl 168 (.slice Az (tr.length) (cz)) (.slice Az (i) (cz)) (ahg (λn=>Value.slice _ n _) htr) (gE [] (MX Az Am cz cm i oz ms tr hO ⟨hMr,hM⟩ hM1 hmm htr zc) (jK 3 [171,172,173] [(2,A_ 1 b6 16)] (gE [0] ((UW (β:=Le) hp Yd hR G fs xs au V tr U fs.length xs.length (n:=i) (by rw [htr]))) (jK 2 [6] [] (NN (aq.ret (aB.acN (v:=.bool true) (l:=[]) (fe:=[]) [] [2] aE (λ_=>KB) trivial rfl KB (rfl))))))))
 refine aq.region (jK 2 [26] [(1,A_ 1 b1 2)] (gL [] (sI Af cf fs hF zc Aa ca xs hA zc) ?_))
 rintro _ _ ⟨Bf,bf,Ba,ba,rfl,rfl⟩
 refine jN 2 [7] (λb18=>[(1,A_ 4 b18 2)]) (λ_=>[]) (λb18=>.ay b18 [.slice Bf (fs.length) (bf),.slice Ba (xs.length) (ba)] 32) (λb18=>NN (aq.seq (jM [0,1,3,4,5,6,7,502,508,9,10,11,12,513] [3,4] (jG 7 [1,2,3,7,30,33,35,36] [(1,a_ 0 b1),(3,a_ 0 b1),(5,A_ 0 b1 5),(6,A_ 1 b18 2)] (kL [4,5] [] (sH (β:=kx) A c ns Y hG (tQ hB) (BV hB)) ?_ (by rintro _ _ ⟨B,cp,rfl,rfl⟩;kernel_rfl))))))
 rintro _ _ ⟨B,cp,rfl,rfl⟩
 refine kL [1,2] [0,1,2] (MH (β:=kx) (X:=X) (Bf:=Bf) (Ba:=Ba) h0 B cp hB bf ba (oQ.wide Pd) ef) ?_ (by rintro _ _ ⟨rfl,rfl⟩;kernel_rfl)
 rintro _ _ ⟨rfl,rfl⟩
 refine jG 4 [1,2,3,7,8,39] [] (fF.last KB (jK 1 [9] [] (NL (aB.np (NX (SR (jK 8 [42,44,46,48] [(1,a_ 1 b1),(3,a_ 1 b1),(5,A_ 1 b1 5),(7,A_ 1 b1 2)] (j3 [] (XL (β:=kx) (X:=X) h0 A c hG hB cf hF (oQ.wide Pd) ca hA ef) ?_))))))))
 rintro agu _ _ sj ⟨rfl,rfl⟩
 replace hG:=hG.le sj
 replace hF:=hF.le sj
 replace hA:=hA.le sj
 replace hS:=hS.le sj
 replace hg:=hg.le sj
 replace aE:=aE.trans sj
 exact jN 6 [10,11] (λb20=>[(4,A_ 3 b20 16)]) (λ_=>[]) (λb20=>.ay b20 (uZ) 47) (λb20=>NZ (jK 7 [58] [(2,p_ ⟨[],none,none,none,some (.bool false)⟩ [(Value.bool (!decide (((fP X ns au):Int)=((fP X ns au):Int))))=(.bool false)] ⟨ahd,trivial⟩)] (NT (SR (jK 12 [6] [(5,p_ ⟨[],none,none,none,some (.bool true)⟩ [(Value.bool (decide (((fP X ns au):Int)=((fP X ns au):Int))))=(.bool true)] ⟨ahd,trivial⟩),(9,Nt (((fP X ns au):Int)=(0:Int)) h0)] (NN (aq.ret (aB.bE (aB.acN (v:=.bool true) (l:=[]) (fe:=[]) [] [0] aE (λ_=>KB) trivial rfl KB (rfl))))))))))
end
section
open Go.RowKit
theorem glob_ok {W:World} (h:W.ShapedOpen Tryz.prog):oV (B0 W):=by
 obtain⟨m,hm⟩:=cell_of_shapedOpen_int (g:=0) (t:=3) (zero:=#[.int .i64 0]) (k:=.i64) h (ahL KB) KB rfl KB KB Tryz.underlying3
 exact⟨m,RP hm,hm⟩
end
end Go.Proofs.YtbnfiigafobejaaGreat
