/-
  PROVED HERE: lemmas and contracts of functions (texts of this repo, joined; what the claim does not use is left out): Wl, Wf, WH, Wq, Uw, Si, Pw, Ad, Pc, FP, FW, FA, Ae, FT, Dh, Aw, Ua, Ub, UA, UB, Ud, UC, UD, Ue, XR, XC, Zg.
  CONDITIONS: as the theorems say.
-/
import Derived.Test.YtbnfiigafobejaaGreatMWclients5
import Derived.ChangeMaps5
set_option maxRecDepth 100000
set_option maxHeartbeats 4000000
namespace Go.Proofs.YtbnfiigafobejaaGreat
section
open Go.RowKit Go.Maps bF aD
def lwN:aL:=⟨1,2,493,0,0,0,0,[],⟨#[]⟩,[]⟩
def DA:List aL:=[lwN]
def Gh:List cL:=[⟨2,1⟩]
theorem T3 {i:Nat} (h:i<DA.length):i=0:=by
 have h:i<1:=h
 omega
theorem agz:cr DA:=by
 refine⟨Pd,λi hi=>?_,λi hi=>?_,λi j hij hj=>?_,Pd,λi hi j hj=>?_,Pd,λz=>?_⟩
 ·obtain rfl:=T3 hi
  exact⟨Pd,Pd,Pd,Pd,Nc,λ_=>rfl,λh=>ain rfl h,.inl ⟨Pd,rfl⟩⟩
 ·obtain rfl:=T3 hi
  exact⟨Pd,Pd⟩
 ·have:=T3 hj;omega
 ·obtain rfl:=T3 hi
  exact ain hj (aiq j)
 have e:(jr DA DA.length).map (lS DA)=[]:=Pd
 rw [e]
 exact⟨0,rfl⟩
theorem afz:kX (Qq 99):=adr Pd
theorem agA {β:Bs} {B:Option Addr} (hR:cA β B (bD ⟨λ_=>none,λ_=>none,λ_=>0,λ_=>0⟩ DA)):aN β B DA ⟨λ_=>none,λ_=>none,λ_=>0,λ_=>0⟩:=by
 have hn:∀{A:Option Addr},cA β A []:=λj v hj=>by simp at hj
 refine⟨hR,λi hi=>?_,λi hi=>?_⟩<;>(obtain rfl:=T3 hi;exact hn)
structure abA (S:br):Prop where
 inv:bO S
 aq:S.aq=[(1,⟨1,2⟩)]
 us:S.us=[]
 X:S.X=⟨9,99,9,0,0,1,0,0⟩
 o1:∃l u,af S.O 1=⟨1,493,0,0,0,0,l,0,false,2,[],⟨#[]⟩,[],u⟩
section v
variable {S:br}
theorem afA (h:ld (Qq 99) DA DA.length 0 S):abA S:=by
 obtain⟨l1,u1,h1⟩:=h.ob 0 Pd
 exact⟨h.full,h.aq,h.us,h.cap,⟨l1,u1,h1⟩⟩
def wD:aH:=⟨1,0,0,⟨#[]⟩,⟨#[]⟩,none,0,[],0,0,0,0,0,0,0⟩
def wE:aH:=⟨4,1,0,⟨#[100]⟩,⟨#[]⟩,none,0,[],0,0,0,0,0,0,0⟩
theorem ahw (h:abA S):gM Gh [] 1 1 S wD=(S1 S,{wD with other:=1,answer:=1,code:=0}):=by
 have:=ads (S:=S) (c:={wD with other:=1}) (t:=⟨1,2⟩) rfl (by rw [h.aq];rfl) rfl (by rw [h.us,h.X];show (0:Int)<9;decide)
 rw [h.us] at this
 exact this
theorem ahx:gM Gh [] 1 2 S wE=(S,{wE with code:=180}):=rfl
theorem ahy (h:abA S):∃S2,gM Gh [] 1 3 (S1 S) wE=(S2,{wE with answer:=0,code:=0})/\S2.aq.length=2:=by
 obtain⟨l,u,h1⟩:=h.o1
 have e1:af (S1 S).O 1=⟨1,493,0,0,0,0,l,1,false,2,[],⟨#[]⟩,[],u⟩:=by
  rw [ahc,h1];rfl
 have hX:(S1 S).X=⟨9,99,9,0,0,1,0,0⟩:=h.X
 have hi:(S1 S).aq=[(1,⟨1,2⟩)]:=h.aq
 have ha:iO (S1 S).O (S1 S).us 1 ⟨#[100]⟩ 192=.ok 1:=aau (t:=⟨1,2⟩) rfl rfl (by rw [e1]) aeP (by rw [e1];exact aeQ)
 refine⟨_,show gj (S1 S) wE=_ from aav (S:=S1 S) (c:=wE) rfl ha ⟨Pd,Pd⟩ (by rw [e1];rfl) ⟨by rw [hX,hi];show (1:Int)<9;decide,by rw [hX];show (1:Int)<1099511627776;decide,by rw [hX];show (0:Int)<8192;decide⟩,?_⟩
 show (ins _ _ (S1 S).aq).length=2
 rw [hX,hi];rfl
end v
section f
variable {β:Bs} {fs:List cL} {xs:List dh} {aj:Int} {ns:List aL} {X:FM}
theorem KV {ns:List aL} (h0:fw X ns aj=0) (A:Option Addr) (c:Nat) (Y:eP) (hG:aN β A ns Y) (hB:j6 ns 1048576) (Af:Option Addr) (cf:Nat) (fs:List cL) (hF:cA β Af (cI jg fs)) (o5:lg fs 2097152) (Aa:Option Addr) (ca:Nat) (xs:List dh) (hA:cA β Aa (cI kA xs)) (dR:jq xs 1048576) :
 bU Tryz.prog β 7 #[LI A ns.length c aj X Af fs.length cf Aa xs.length ca] [] (λβ' v l=>∃(N:Ee X ns) (G:WG) (V:WV),v=.tuple #[vP G.w,.int .i64 0]/\l=[wA G fs xs aj N.1 V []]/\nH β' G.Z xs):=
 (NR A c ns Y hG hB X aj Af cf fs hF o5 Aa ca xs hA dR).mono (by
  rintro β' v l _ (⟨h,_⟩|⟨_,h⟩)
  ·exact ain h0 h
  exact h)
theorem VL {ns:List aL} (h0:¬fw X ns aj=0) (A:Option Addr) (c:Nat) (Y:eP) (hG:aN β A ns Y) (hB:j6 ns 1048576) (Af:Option Addr) (cf:Nat) (fs:List cL) (hF:cA β Af (cI jg fs)) (o5:lg fs 2097152) (Aa:Option Addr) (ca:Nat) (xs:List dh) (hA:cA β Aa (cI kA xs)) (dR:jq xs 1048576) :
 bU Tryz.prog β 7 #[LI A ns.length c aj X Af fs.length cf Aa xs.length ca] [] (λ_ v l=>v=.tuple #[.pointer none,.int .i64 (fw X ns aj)]/\l=[]):=
 (NR A c ns Y hG hB X aj Af cf fs hF o5 Aa ca xs hA dR).mono (by
  rintro β' v l _ (⟨_,h1,h2⟩|⟨h,_⟩)
  ·exact⟨h1,h2⟩
  exact ain h h0)
theorem afB:fw (Qq 99) DA 1=0:=Ec afz agz (i:=0) ⟨Pd,rfl,λq h=>ain h (aiq q)⟩ rfl
theorem ahz:j6 DA 1048576:=⟨Pd,λi hi=>by
 obtain rfl:=T3 hi
 exact⟨by unfold yh;decide,Pd,Pd,Pd,λj hj=>ain hj (aiq j)⟩⟩
theorem agB:lg Gh 2097152:=⟨Pd,λa ha=>by
 obtain rfl:=ai3.1 ha
 decide⟩
theorem OA:jq [] 1048576:=⟨Pd,λa ha=>by cases ha⟩
end f
end
section
open Go.RowKit Go.Maps bF aD
attribute [local irreducible] ar bN ak ay
noncomputable abbrev zH1 (b4:Nat):=(.ax b4 [.slice none (0) (0),vI 0,vI 0,vI 0,vI 0,vI 0,vI 0,.slice none (0) (0),.slice none (0) (0)] 34:HP)
theorem Sv {β:Bs} (c:aH) (hD:bp β c.dA c.data) (hl:c.data.length<=1048576) :
 bU Tryz.prog β 12 #[.agg ⟨aO c⟩] [] (λβ' v l=>∃B cp,v=.agg ⟨aO {c with dA:=B,dC:=cp}⟩/\l=[]/\bp β' B c.data/\c.data.length<=cp):=by
 refine mM Tryz.func12 Tryz.ntmps12 (λav R=>SR (jB 1 [1] (λb1=>.ax b1 (aO c) 53) (λb1=>jB 1 [2] (λb2=>.ax b2 [vI 0,vI 0,vI 0,.string ⟨#[]⟩,.string ⟨#[]⟩,.slice none (0) (0),vI 0,vI 0,vI 0,vI 0,vI 0,vI 0,vI 0] 53) (λb2=>NS (jK 2 [4] [(1,a_ 1 b1)] (gu [] (EF c.dA c.dC c.data hD hl) ?_))))))
 rintro yV _ _ iq ⟨B,cp,rfl,rfl,hB,PY⟩
 replace av:=av.trans iq
 exact jC 2 [] [(1,a_ 1 b1)] [(1,[(5,.slice B (c.data.length) (cp))])] (NS (jC 2 [] [(0,A_ 1 b1 13),(1,A_ 2 b2 13)] [(2,(zC (aO (gP c B cp))))] (eO (v:=(.agg ⟨aO (gP c B cp)⟩)) [A_ 2 b2 13] av ⟨B,cp,rfl,rfl,hB,PY⟩)))
theorem Sw {β:Bs}:bU Tryz.prog β 28 #[] [] (λβ' v l=>∃B Bf,v=.agg #[.slice B 1 1,vI 1,vI 9,vI 99,vI 9,vI 0,vI 0,.slice Bf 1 1,.slice none 0 0]/\l=[]/\cA β' B (bD ⟨λ_=>none,λ_=>none,λ_=>0,λ_=>0⟩ DA)/\cA β' Bf (cI jg Gh)):=by
 refine mM Tryz.func28 Tryz.ntmps28 (λav R=>SR (jB 1 [0] (λb4=>.ax b4 [.slice none (0) (0),vI 0,vI 0,vI 0,vI 0,vI 0,vI 0,.slice none (0) (0),.slice none (0) (0)] 34) (λb4=>NS (jB 3 [4] (λb5=>.ax b5 [vI 1,vI 2,vI 493,vI 0,vI 0,vI 0,vI 0,.slice none (0) (0),.string ⟨#[]⟩,.slice none (0) (0)] 95) (λb5=>jN 2 [1] (λb6=>[(1,a_ 3 b6)]) (λ_=>[]) (λb6=>.ax b6 [.slice (some ⟨b5,0,none⟩) (1) (1)] 24) (λb6=>NS (ar.mem (λw hS=>hS.o9 (i:=2) (b:=b5) (cs:=[vI 1,vI 2,vI 493,vI 0,vI 0,vI 0,vI 0,.slice none (0) (0),.string ⟨#[]⟩,.slice none (0) (0)]) (e:=95) 10 1 KB rfl Pd) (ar.nw (Φ:=λβ'=>cA β' (some ⟨b5,0,none⟩) (bD ⟨λ_=>none,λ_=>none,λ_=>0,λ_=>0⟩ DA)) 2 [0,1,3] (eX:=[.abs R,zH1 b4,.ax b6 [.slice (some ⟨b5,0,none⟩) (1) (1)] 24]) rfl rfl KB (λF w h β' h1 h2=>cA.iM h h1 h2) (λFV kN hR=>?_)))))))))
 replace av:=av.trans kN
 refine jN 4 [5,6,8] (λb8=>[(0,a_ 2 b6)]) (λ_=>[]) (λb8=>.ax b8 [vI 2,vI 1] 66) (λb8=>ar.mem (λw hS=>hS.o9 (i:=3) (b:=b8) (cs:=[vI 2,vI 1]) (e:=66) 2 1 KB rfl Pd) (ar.nw (Φ:=λβ'=>cA β' (some ⟨b8,0,none⟩) (cI jg Gh)) 3 [0,1,2] (eX:=[.abs R,zH1 b4,.ax b6 [.slice (some ⟨b5,0,none⟩) (1) (1)] 24]) rfl rfl KB (λF w h β' h1 h2=>cA.iM h h1 h2) (λβ9 uo hQ=>?_)))
 replace hR:=hR.le uo
 replace av:=av.trans uo
 exact jC 3 [] [(2,A_ 1 b4 9)] [(1,[(0,.slice (some ⟨b5,0,none⟩) (1) (1)),(1,vI 1),(2,vI 9),(3,vI 99),(4,vI 9),(7,.slice (some ⟨b8,0,none⟩) (1) (1))])] (eO (l:=[]) (v:=(.agg #[.slice (some ⟨b5,0,none⟩) (1) (1),vI 1,vI 9,vI 99,vI 9,vI 0,vI 0,.slice (some ⟨b8,0,none⟩) (1) (1),.slice none (0) (0)])) [A_ 1 b4 9] av ⟨_,_,rfl,rfl,hR,hQ⟩)
theorem abB {β:Bs} (hg:kH β):bU Tryz.prog β 6 #[] [] (λ_ v l=>v=.bool true/\l=[]):=by
 refine mM Tryz.func6 Tryz.ntmps6 (λav R=>SR (jK 1 [] [] (NS (gu [] (Sw) ?_))))
 rintro FR _ _ ji ⟨B,Bf,rfl,rfl,hR,hQ⟩
 replace hg:=hg.le ji
 replace av:=av.trans ji
 refine gu [] (KV (β:=FR) (X:=Qq 99) afB B 1 _ (agA hR) ahz Bf 1 Gh hQ agB none 0 [] (λj v hj=>by simp [cI,fk] at hj) OA) ?_
 rintro Jf _ _ p4 ⟨N,G,V,rfl,rfl,hZ⟩
 replace hg:=hg.le p4
 replace av:=av.trans p4
 refine jK 5 [1,2] [] (NN (ak.seq (SR (jK 6 [16] [] (NN (CF (KX (SR (jK 2 [17,18] [] ?_)))))))))
 have hv:=afA N.2
 have e1:=ahw hv
 have di:bO (S1 N.1):=by have h:=bO.gM (fs:=Gh) (xs:=[]) (aj:=1) (n:=1) (c:=wD) hv.inv;rw [e1] at h;exact h
 obtain⟨S3,e3,hx3⟩:=ahy hv
 have Yl:bO S3:=by have h:=bO.gM (fs:=Gh) (xs:=[]) (aj:=1) (n:=3) (c:=wE) di;rw [e3] at h;exact h
 refine gu [0] (Du (β:=Jf) (G:=G) (V:=V) (tr:=[]) (c:=wD) Pd hv.inv (by show 0<=8388607;decide) hZ OA hg (λj v hj=>by cases hj) Pd Pd Pd Pd Pd (by first|exact rfl|(unfold nW;decide)) e1) ?_
 rintro abC _ _ BG ⟨V12,B13,p14,B15,p16,rfl,rfl,_,_,_⟩
 replace hg:=hg.le BG
 replace hZ:=hZ.le BG
 replace av:=av.trans BG
 refine jN 2 [3] (λb18=>[(1,A_ 2 b18 13)]) (λ_=>[]) (λb18=>.ax b18 [vI 1,vI 0,vI 1,.string ⟨#[]⟩,.string ⟨#[]⟩,.slice B15 (0) (p16),vI 0,vI 0,vI 0,vI 0,vI 0,vI 0,vI 1] 53) (λb18=>NS (jK 2 [20,21] [] (gu [0] (Du (β:=abC) (G:=G) (V:=V12) (tr:=([]++[cY B13 p14 ({wD with other:=1,answer:=1,code:=0})])) (c:=wE) Pd di (by show 1<=8388607;decide) hZ OA hg (λj v hj=>by cases hj) Pd Pd Pd Pd Pd (by first|exact rfl|(unfold nW;decide)) ahx) ?_)))
 rintro VA _ _ tV ⟨V19,B20,p21,B22,p23,rfl,rfl,_,_,_⟩
 replace hg:=hg.le tV
 replace hZ:=hZ.le tV
 replace av:=av.trans tV
 refine jN 2 [4] (λsY=>[(1,A_ 3 sY 13)]) (λ_=>[]) (λsY=>.ax sY [vI 4,vI 1,vI 0,.string ⟨#[100]⟩,.string ⟨#[]⟩,.slice B22 (0) (p23),vI 0,vI 0,vI 0,vI 0,vI 0,vI 180,vI 0] 53) (λsY=>NS (jK 2 [23,24] [] (gu [0] (Du (β:=VA) (G:=G) (V:=V19) (tr:=(([]++[cY B13 p14 ({wD with other:=1,answer:=1,code:=0})])++[cY B20 p21 ({wE with code:=180})])) (c:=wE) Pd di (by show 2<=8388607;decide) hZ OA hg (λj v hj=>by cases hj) Pd Pd Pd Pd Pd (by first|exact rfl|(unfold nW;decide)) e3) ?_)))
 rintro VB _ _ Jh ⟨V26,B27,p28,B29,p30,rfl,rfl,_,_,_⟩
 replace av:=av.trans Jh
 refine jN 2 [5] (λb32=>[(1,A_ 4 b32 13)]) (λ_=>[]) (λb32=>.ax b32 [vI 4,vI 1,vI 0,.string ⟨#[100]⟩,.string ⟨#[]⟩,.slice B29 (0) (p30),vI 0,vI 0,vI 0,vI 0,vI 0,vI 0,vI 0] 53) (λb32=>NS (jK 20 [44,45] [(1,a_ 2 b18),(5,a_ 2 b18),(10,a_ 3 sY),(15,a_ 4 b32)] (gE [0] (Nn (β:=VB) (G:=G) (fs:=Gh) (xs:=[]) (aj:=1) (S:=S3) (V:=V26) (tr:=((([]++[cY B13 p14 ({wD with other:=1,answer:=1,code:=0})])++[cY B20 p21 ({wE with code:=180})])++[cY B27 p28 ({wE with answer:=0,code:=0})]))) (jK 4 [49,50] [(0,w_ (.bool true) rfl)] (gu [0] (Vo (β:=VB) (G:=G) (fs:=Gh) (xs:=[]) (aj:=1) (S:=S3) (V:=V26) (tr:=((([]++[cY B13 p14 ({wD with other:=1,answer:=1,code:=0})])++[cY B20 p21 ({wE with code:=180})])++[cY B27 p28 ({wE with answer:=0,code:=0})])) Yl) ?_)))))
 rintro afq _ _ Ji ⟨A4,c4,K4,rfl,rfl,_⟩
 replace av:=av.trans Ji
 exact jK 5 [0] [(1,p_ ⟨[],none,none,none,some (vI (((2:Nat):Int)))⟩ [((.int .i64 ↑((aV S3).length):Value))=(.int .i64 (((2:Nat):Int)))] ⟨by rw [ic,hx3],trivial⟩)] (eO (v:=(.bool (decide ((((2:Nat):Int):Int)=(2:Int))))) [] av ⟨rfl,rfl⟩ [1])
end
section
open Go.RowKit Go.Maps bF aD
section q
variable {β:Bs} {ns:List aL} {Y:eP} {X:FM} {aj tG:Int} {S S2:br} {c c2:aH} {n:Nat} {A:Option Addr} {p:Nat}
structure BH (β:Bs) (B:Option Addr) (p:Nat) (d:List UInt8):Prop where
 b:bp β B d
 l:d.length<=p
theorem BH.le {β':Bs} {d:List UInt8} (h:BH β A p d) (g:β.le β'):BH β' A p d:=⟨h.b.le g,h.l⟩
theorem Rt (c:aH) (hD:bp β c.dA c.data) (hl:c.data.length<=1048576):bU Tryz.prog β 12 #[.agg ⟨aO c⟩] [] (λβ' v l=>∃B p,v=.agg ⟨aO (cY B p c)⟩/\l=[]/\BH β' B p c.data):=
 (Sv c hD hl).mono (by
  rintro β' v l _ ⟨B,p,rfl,rfl,h1,h2⟩
  exact⟨B,p,rfl,rfl,h1,h2⟩)
end q
theorem YL {G:WG} {fs:List cL} {xs:List dh} {aj:Int} {S:br} {V:WV} {tr:List aH}:∀F w,(ko (wP G fs xs aj S V tr)).h F w->w.cell? ⟨G.w,0,none⟩=some (.iface 37 (vP G.w)):=by
 rintro F w ⟨φ,h1,_,_⟩
 exact (lQ (h1 0 _ rfl).1 rfl rfl rfl).1
def o8 (G:WG):d9 where
 h F w:=∃fs xs aj S V tr,(ko (wP G fs xs aj S V tr)).h F w
 lt:=λ⟨_,_,_,_,_,_,h⟩=>d9.lt _ h
 st:=λ⟨fs,xs,aj,S,V,tr,h⟩ _ _ hk hd=>⟨fs,xs,aj,S,V,tr,d9.st _ h hk hd⟩
theorem o3 {G:WG}:∀F w,(o8 G).h F w->w.cell? ⟨G.w,0,none⟩=some (.iface 37 (vP G.w)):=by
 rintro F w ⟨fs,xs,aj,S,V,tr,h⟩
 exact YL F w h
theorem aR.BI {β:Bs} {l:List HP} {w:World} {i:Nat} {G:WG} {fs:List cL} {xs:List dh} {aj:Int} {S:br} {V:WV} {tr:List aH} (h:aR β l w) (hp:l[i]?=some (wA G fs xs aj S V tr)):aR β (l.set i (.abs (o8 G))) w:=by
 refine h.set hp (λF hF=>⟨F,⟨fs,xs,aj,S,V,tr,hF⟩,?_⟩)
 exact Step.refl _ _
section rules
variable {P:Program} {β ye:Bs} {N:fL} {ops:Array Oper} {S:List HP} {l:List (Bool×Nat)} {fr:Fr} {au:List HP} {Q:Post} {i:Nat}
theorem ak.qZ {id:Nat} (l:List (Bool×Nat)) (hm:P.follows .mixedOrders=true) (hB:Dc ops l=true) (hp:∀w,aR β au w->aR β S w) (h:eH P β N ops S l fr au Q):ak P β N (.region id ops true) fr au Q:=by
 intro ai w hS
 unfold Dc at hB
 simp only [aiJ,ajd] at hB
 obtain⟨⟨⟨h1,h2⟩,h3⟩,h4⟩:=hB
 have iA:=hS.drewN 1
 have h5:=Az (Q:=Q) h1 h2 l _ _ _ h4 (λj oj _ hl=>by simp [Array.getD_eq_getD_getElem?,Array.getElem?_replicate] at hl;split at hl<;>simp at hl) (.inr (hp _ iA)) (h ai (w.drewN 1) iA)
 rw [h3] at h5
 refine ajb (λe a w q=>?_) (wp_region_any hm (tY _ _ _ _ h5))
 cases e with
 |normal=>exact q
 |exit id=>exact q.elim
 |goto l=>exact q.elim
 |ret=>exact q.elim
 |panic ch=>exact q.elim
 |outgrown=>exact q.elim
theorem kr.CG {ι:Type} {B:ι->Bs} {Φ:ι->Prop} {bL:ι->Fr} {cR:ι->List HP} (dL:Grown ye β) (hg:gB ops i=true) (h:ar P β N (lu ops i) i fr au (NP (Ze β N B Φ bL cR))) (hp:∀j w,aR (B j) (cR j) w->aR (B j) S w)
 (K:∀j,β.le (B j)->Φ j->kr P (B j) ye N ops S l (bL j) (cR j) Q):kr P β ye N ops S ((false,i)::l) fr au Q:=by
 intro ai w hS
 unfold rG
 refine tI hg (su (Q':=_) (λa w ⟨j,oy,hle2,Ey,ha,iA⟩=>?_) _ (h ai w hS))
 subst ha
 exact⟨.inr ((dL.trans hle2).sat (hp j _ iA)),K j hle2 Ey oy w iA⟩
end rules
theorem EM {β:Bs} (A:Option Addr) (cp:Nat) (d:List UInt8) (hA:bp β A d) (hl:d.length<=1048576):bU Tryz.prog β 25 #[.slice A d.length cp] [] (λβ' v l=>∃B p,v=.slice B d.length p/\l=[]/\BH β' B p d):=
 (EF A cp d hA hl).mono (by
  rintro β' v l _ ⟨B,p,rfl,rfl,h1,h2⟩
  exact⟨B,p,rfl,rfl,h1,h2⟩)
section q
variable {c d:aH} {S:br} {fs:List cL} {xs:List dh} {aj:Int} {n i:Nat} {os tr:List aH}
theorem NU {e:Int}:(iR c e).answer=0:=by unfold iR;split<;>rfl
theorem abD (h:c.op=4\/c.op=8\/c.op=13):(gj S c).2.answer=0:=by
 show (iC S {c with answer:=0,code:=230}).2.2.answer=0
 have e:({c with answer:=0,code:=230}:aH).answer=0:=rfl
 have e2:({c with answer:=0,code:=230}:aH).op=c.op:=rfl
 generalize ({c with answer:=0,code:=230}:aH)=d at e e2
 rw [←e2] at h
 rcases h with h|h|h
 ·rw [xW h];unfold iP;split
  ·exact e
  split<;>exact e
 ·rw [zJ h];unfold jk;split<;>exact e
 rw [wk h];unfold jS;split<;>exact e
theorem CZ (h:c.op=4\/c.op=8\/c.op=13):(gM fs xs aj n S c).2.answer=0:=by
 unfold gM
 rw [show ct aj c=c from aij zc]
 unfold dW
 split
 ·exact NU
 split
 ·exact NU
 rw [aij zc];exact abD h
theorem adQ (hm:os.map bare=(tr++[d]).map bare) (hn:tr.length=i):bare (bq os i)=bare d:=(adO hm i).trans (by unfold bq;rw [aiS,←hn];simp)
end q
noncomputable section
def o4 (R:RS):Nat->List ByteArray->Except Int (Nat×ByteArray)
 |_,[]=>.error 170
 |d,[p]=>if (nd R.ns d).id∈R.aE then .error 170 else .ok (d,p)
 |d,p::q::r=>
   if 0<=bV R.ns d p then
    if (nd R.ns (bV R.ns d p).toNat).kind=3 then .error 174
    else if (nd R.ns (bV R.ns d p).toNat).kind=1 then .error 173
    else o4 R (bV R.ns d p).toNat (q::r)
   else .error 170
def mX (R:RS) (d:Nat) (path:ByteArray):Except Int (Nat×ByteArray):=if ∀p∈bR path,ck p then o4 R d (bR path) else .error 95
def eZ (R:RS) (top d:Nat) (name:ByteArray) (a:dh):RS×Int:=
 if a.op=1 then
  let m:=bQ R d name ⟨0,1,420,0,0,0,0,[],⟨#[]⟩,[]⟩
  if m.2=0 then ((jV m.1 (m.1.ns.length-1) a.text.data.toList).1,0) else (R,m.2)
 else if a.op=2 then bQ R d name ⟨0,2,493,0,0,0,0,[],⟨#[]⟩,[]⟩
 else if a.op=3 then bQ R d name ⟨0,3,511,0,0,0,0,[],a.text,[]⟩
 else if a.op=4 then iH R d name false
 else if a.op=5 then iH R d name true
 else if a.op=6 then match mX R top a.to with
  |.error e=>(R,e)
  |.ok (to,aB)=>gY R d name to aB
 else if 0<=bV R.ns d name then
  if (nd R.ns (bV R.ns d name).toNat).kind=3 then (R,174)
  else if (nd R.ns (bV R.ns d name).toNat).kind=2 then (R,172)
  else ((jV R (bV R.ns d name).toNat a.text.data.toList).1,(jV R (bV R.ns d name).toNat a.text.data.toList).2.2)
 else (R,170)
def mK (R:RS) (aj:Int) (a:dh):RS×Int:=
 if a.op<1\/a.op>7 then (R,230)
 else if 0<=gF R.ns aj then
  if (nd R.ns (bY R.ns aj)).kind=2 then
   match mX R (bY R.ns aj) a.path with
   |.error e=>(R,e)
   |.ok (d,name)=>if (eZ R (bY R.ns aj) d name a).2=0 then ((eZ R (bY R.ns aj) d name a).1,0) else (R,(eZ R (bY R.ns aj) d name a).2)
  else (R,173)
 else (R,141)
end
section i
variable {S S' S2:br} {g:List Int} {t u:Th} {d top k i j:Nat} {name:ByteArray} {a:dh}
theorem Ru (hr:RelR S g):∀(ps:List ByteArray) (d:Nat),aQ S.aq ⟨d,2⟩->o4 (toR S g) (bT S ⟨d,2⟩) ps=match qt S.O d ps with|.error e=>.error e|.ok (d',n)=>.ok (bT S ⟨d',2⟩,n)
 |[],d,hd=>rfl
 |[p],d,hd=>by
   have hI:=hr.inv.toInv0
   unfold o4 qt
   rw [nM hI hd]
   show (if (d:Int)∈g then _ else _)=_
   have hiff:=hr.aE.CY ⟨d,2⟩ hd
   by_cases h:(af S.O d).aE=true
   ·rw [aik (hiff.2 h),aik h]
   rw [aij (λq=>h (hiff.1 q)),aij h]
 |p::q::r,d,hd=>by
   have hI:=hr.inv.toInv0
   unfold o4 qt
   rcases mI hr hd p with ⟨h1,h2⟩|⟨t,h1,h2,hl,hk,-⟩
   ·rw [h1,aij (by rw [h2];decide)]
   rw [h1,aik (by rw [h2];omega),h2,aiO,nM hI hl]
   show (if t.kind=3 then _ else if t.kind=1 then _ else _)=_
   simp only
   by_cases h3:t.kind=3
   ·rw [aik h3,aik h3]
   rw [aij h3,aij h3]
   by_cases h4:t.kind=1
   ·rw [aik h4,aik h4]
   rw [aij h4,aij h4]
   have ht:t=⟨t.k,2⟩:=by
    have:t.kind=2:=zc
    rw [←this]
   rw [ht] at hl
   rw [show bT S t=bT S ⟨t.k,2⟩ by rw [←ht]]
   exact Ru hr (q::r) t.k hl
theorem Jp (hr:RelR S g) (hd:aQ S.aq ⟨d,2⟩) (path:ByteArray):mX (toR S g) (bT S ⟨d,2⟩) path=match nG S.O d path with|.error e=>.error e|.ok (d',n)=>.ok (bT S ⟨d',2⟩,n):=by
 grind [mX,nG,bR,ck,Ru]
theorem VN (hr:RelR S g) (hd:aQ S.aq ⟨d,2⟩) (mr:(af S.O d).aE=false) (j7:ck name) (text:ByteArray):∃m,m=bQ (toR S g) (bT S ⟨d,2⟩) name ⟨0,1,420,0,0,0,0,[],⟨#[]⟩,[]⟩ ∧
 d8 ((if m.2=0 then ((jV m.1 (m.1.ns.length-1) text.data.toList).1,0) else (toR S g,m.2)).1,0,(if m.2=0 then ((jV m.1 (m.1.ns.length-1) text.data.toList).1,0) else (toR S g,m.2)).2) (sW S d name text).1 (sW S d name text).2 0:=by
 refine⟨_,rfl,?_⟩
 have hI:=hr.inv.toInv0
 unfold sW
 rcases x6 (n:=⟨0,1,420,0,0,0,0,[],⟨#[]⟩,[]⟩) hr hd name (λq=>ain (show (1:Int)=3 from q.1) Pd) with ⟨h1,h2⟩|⟨h1,h2⟩
 rotate_left
 ·rw [h2,aij h1,aij h1];exact .bad rfl h1
 rw [h2,aik h1]
 obtain⟨hA,hG⟩:=GW (name:=name) (o:=cM S.X 1 420) (n:=⟨0,1,420,0,0,0,0,[],⟨#[]⟩,[]⟩) hr hd ⟨rfl,rfl,rfl,rfl,rfl⟩ ⟨rfl,rfl,rfl,rfl,rfl,rfl,rfl⟩
 have di:bO (fY S d name (cM S.X 1 420)):=hr.inv.Gz hd mr j7 h1 (.inl rfl) ⟨Pd,Pd⟩ (.inl ⟨Pd,rfl⟩)
 have hl1:aQ (fY S d name (cM S.X 1 420)).aq ⟨bw S.X,1⟩:=(Rf hI).2.1
 rw [aik rfl,hA]
 have hidx:(fY S d name (cM S.X 1 420)).aq=_:=GV hI
 have hp:=oe di.ix hl1
 have jD:(toR (fY S d name (cM S.X 1 420)) g).ns.length-1=bT (fY S d name (cM S.X 1 420)) ⟨bw S.X,1⟩:=by
  show (aV _).length-1=_
  rw [ic,hidx,ait]
  refine KS di.ix (by rw [hidx,ait];exact aiM _) hp.2.1 ?_
  grind [gD,rN]
 rw [jD]
 have hg:=Ga (t:=⟨bw S.X,1⟩) ⟨di,hG⟩ hl1 text.data.toList
 grind [gy,fY,cM,bw,jV,toR,bT,aQ,af,ck,bQ,d8,sW]
theorem abE (hr:RelR S g) (ht:aQ S.aq ⟨top,2⟩) (hd:aQ S.aq ⟨d,2⟩) (mr:(af S.O d).aE=false) (j7:ck name) (a:dh):d8 ((eZ (toR S g) (bT S ⟨top,2⟩) (bT S ⟨d,2⟩) name a).1,0,(eZ (toR S g) (bT S ⟨top,2⟩) (bT S ⟨d,2⟩) name a).2) (oo S top a d name).1 (oo S top a d name).2 0:=by
 have hI:=hr.inv.toInv0
 unfold eZ oo
 by_cases h1:a.op=1
 ·rw [aik h1,aik h1]
  obtain⟨m,hm,h⟩:=VN hr hd mr j7 a.text
  rw [hm] at h;exact h
 rw [aij h1,aij h1]
 by_cases h2:a.op=2
 ·rw [aik h2,aik h2]
  exact Ev (o:=cM S.X 2 493) hr hd name (λq=>ain (show (2:Int)=3 from q.1) Pd) ⟨rfl,rfl,rfl,rfl,rfl⟩ ⟨rfl,rfl,rfl,rfl,rfl,rfl,rfl⟩
 rw [aij h2,aij h2]
 by_cases h3:a.op=3
 ·grind [jt,lG,Ev,cM,bQ,aQ,af,ck,d8,eZ,toR,bT,oo]
 rw [aij h3,aij h3]
 by_cases h4:a.op=4
 ·grind [NH]
 rw [aij h4,aij h4]
 by_cases h5:a.op=5
 ·grind [NI]
 rw [aij h5,aij h5]
 by_cases h6:a.op=6
 ·rw [aik h6,aik h6,Jp hr ht]
  rcases yU hr.inv ht a.to with ⟨e,h,he⟩|⟨to,aB,h,dY,-⟩
  ·rw [h];exact .bad rfl he
  rw [h];exact NK hr hd dY name aB
 rw [aij h6,aij h6]
 unfold pW
 rcases mI hr hd name with ⟨h7,h8⟩|⟨t,h7,h8,hl,hk,-⟩
 ·grind [aQ,af,ck,d8,eZ,toR,bT,oo]
 rw [h7,aik (by rw [h8];omega),h8,aiO,nM hI hl]
 grind [jU,Ga,aQ,af,ck,d8,eZ,toR,bT,oo]
theorem adR (hr:RelR S g) (aj:Int) (a:dh):∃g',mK (toR S g) aj a=(toR (cK S aj a).2 g',(cK S aj a).1)/\RelR (cK S aj a).2 g':=by
 have hI:=hr.inv.toInv0
 have hIa:bO (cK S aj a).2:=hr.inv.cK
 have FQ:∀{e:Int},(cK S aj a).1=e->e≠0->mK (toR S g) aj a=(toR S g,e)->∃g',mK (toR S g) aj a=(toR (cK S aj a).2 g',(cK S aj a).1)/\RelR (cK S aj a).2 g':=λ{e} h1 h2 h3=>by
  grind [Z2]
 by_cases h0:a.op<1\/a.op>7
 ·grind [cK,mK]
 have ha:gF (toR S g).ns aj=_:=Q9 hI aj
 cases e:aD.get S.aq aj with
 |none=>
   grind [gF,toR,cK,mK]
 |some t=>
   rw [e] at ha
   replace ha:gF (toR S g).ns aj=(bT S t:Int):=ha
   obtain⟨hl,_⟩:=Jk hI e
   have CC:bY (toR S g).ns aj=bT S t:=by unfold bY;rw [ha];exact aiO _
   by_cases h2:t.kind=2
   rotate_left
   ·exact FQ (by unfold cK;rw [aij h0,e];exact ail Prod.fst (aij h2)) (show (173:Int)≠0 by decide) (by unfold mK;rw [aij h0,aik (by rw [ha];omega),CC,nM hI hl];exact aij h2)
   have ht:t=⟨t.k,2⟩:=by rw [←h2]
   have hl2:aQ S.aq ⟨t.k,2⟩:=by rw [←ht];exact hl
   have hA:cK S aj a=match nG S.O t.k a.path with|.error e=>(e,S)|.ok (d,name)=>oo S t.k a d name:=by
    unfold cK;rw [aij h0,e];exact aik h2
   have hB:mK (toR S g) aj a=match mX (toR S g) (bT S ⟨t.k,2⟩) a.path with|.error e=>(toR S g,e)|.ok (d,name)=>if (eZ (toR S g) (bT S ⟨t.k,2⟩) d name a).2=0 then ((eZ (toR S g) (bT S ⟨t.k,2⟩) d name a).1,0) else (toR S g,(eZ (toR S g) (bT S ⟨t.k,2⟩) d name a).2):=by
    unfold mK;rw [aij h0,aik (by rw [ha];omega),CC,nM hI hl,←ht];exact aik h2
   rw [Jp hr hl2] at hB
   rcases yU hr.inv hl2 a.path with ⟨e,h,he⟩|⟨d,name,h,hd,mr,j7⟩
   ·rw [h] at hA hB
    exact FQ (by rw [hA]) he hB
   rw [h] at hA hB
   replace hA:cK S aj a=oo S t.k a d name:=hA
   obtain⟨e1,e2⟩:=abE hr hl2 hd mr j7 a
   by_cases hc:(oo S t.k a d name).1=0
   ·obtain⟨g',q1,q2,_⟩:=e2 hc
    have e3:(eZ (toR S g) (bT S ⟨t.k,2⟩) (bT S ⟨d,2⟩) name a).2=0:=e1.trans hc
    refine⟨g',?_,hIa,by rw [hA];exact q2⟩
    grind
   grind
end i
def BJ:Except Int (Nat×ByteArray)->Value
 |.error e=>.tuple #[.int .i64 0,.string ⟨#[]⟩,.int .i64 e]
 |.ok x=>.tuple #[.int .i64 ((x.1:Nat):Int),.string x.2,.int .i64 0]
section w
variable {R:RS} {ps:List ByteArray} {d j k:Nat}
theorem CH {B:Option Addr} {c:Nat} (hj:j<ps.length):∀F w,(aF 9 1 B ps.length c (nJ ps)).h F w->w.cell? ⟨bG B,bE B+j*1,none⟩=some (.string (pc ps j)):=
 aF.cellAt (size:=1) (j:=0) hj (by rw [Nat.mul_one];exact Eh hj)
theorem YM (hj:j+1<ps.length) (hl:bV R.ns d (pc ps j) = -1):o4 R d (ps.drop j)=.error 170:=by
 grind [Ac,bV,pc,o4]
theorem Gi (hj:j+1<ps.length) (hl:bV R.ns d (pc ps j)=(k:Int)):o4 R d (ps.drop j)=if (nd R.ns k).kind=3 then .error 174 else if (nd R.ns k).kind=1 then .error 173 else o4 R k (ps.drop (j+1)):=by
 have e:(bV R.ns d (pc ps j)).toNat=k:=by rw [hl];rfl
 grind [Ac,bV,pc,o4,nd]
theorem NV (hj:j+1=ps.length):o4 R d (ps.drop j)=if (nd R.ns d).id∈R.aE then .error 170 else .ok (d,pc ps j):=by
 grind [Ac,o4,nd,pc]
end w
abbrev nF:aL:=⟨0,1,420,0,0,0,0,[],⟨#[]⟩,[]⟩
abbrev nD:aL:=⟨0,2,493,0,0,0,0,[],⟨#[]⟩,[]⟩
abbrev nL (t:ByteArray):aL:=⟨0,3,511,0,0,0,0,[],t,[]⟩
section a
variable {R Z:RS} {Y:RL} {β:Bs} {d aj k to n:Nat} {name aB:ByteArray} {a:dh} {e:Int} {x:aL}
theorem adS (h:(bQ R d name x).2≠0):(bQ R d name x).1=R:=by
 grind [bQ]
theorem YN (h:(bQ R d name x).2=0):bQ R d name x=(j3 R d name x,0):=by
 grind [lG,bQ]
theorem Mi:(j3 R d name x).ns.length=R.ns.length+1:=by
 unfold j3
 simp [List.length_append,Dv]
theorem abF:(nd (j3 R d name x).ns R.ns.length).data=x.data:=by
 grind [j3,nd,dm,Dv]
theorem mA.toK {L:eP} {H V:Option Addr} (h:mA β R L H V):BD β R L H V k:=⟨λi hi _=>h.data i hi,h.ah,h.h,h.v⟩
theorem acO (h:a.op=1) (hm:(bQ R d name nF).2≠0):eZ R aj d name a=(R,(bQ R d name nF).2):=by unfold eZ;rw [aik h];exact aij hm
theorem acP (h:a.op=1) (hm:(bQ R d name nF).2=0):eZ R aj d name a=((jV (j3 R d name nF) R.ns.length a.text.data.toList).1,0):=by
 grind [eZ,YN,Mi]
theorem afC (h:a.op=2):eZ R aj d name a=bQ R d name nD:=by unfold eZ;rw [aij zc,aik h]
theorem afD (h:a.op=3):eZ R aj d name a=bQ R d name (nL a.text):=by unfold eZ;rw [aij zc,aij zc,aik h]
theorem afE (h:a.op=4):eZ R aj d name a=iH R d name false:=by unfold eZ;rw [aij zc,aij zc,aij zc,aik h]
theorem afF (h:a.op=5):eZ R aj d name a=iH R d name true:=by unfold eZ;rw [aij zc,aij zc,aij zc,aij zc,aik h]
theorem acQ (h:a.op=6) (hw:mX R aj a.to=.error e):eZ R aj d name a=(R,e):=by unfold eZ;rw [aij zc,aij zc,aij zc,aij zc,aij zc,aik h,hw]
theorem acR (h:a.op=6) (hw:mX R aj a.to=.ok (to,aB)):eZ R aj d name a=gY R d name to aB:=by unfold eZ;rw [aij zc,aij zc,aij zc,aij zc,aij zc,aik h,hw]
theorem afG (h:¬(1<=a.op/\a.op<=6)):eZ R aj d name a=if 0<=bV R.ns d name then if (nd R.ns (bV R.ns d name).toNat).kind=3 then (R,174) else if (nd R.ns (bV R.ns d name).toNat).kind=2 then (R,172) else ((jV R (bV R.ns d name).toNat a.text.data.toList).1,(jV R (bV R.ns d name).toNat a.text.data.toList).2.2) else (R,170):=by
 grind [eZ]
theorem acS (h:¬(1<=a.op/\a.op<=6)) (hl:bV R.ns d name = -1):eZ R aj d name a=(R,170):=(afG h).trans (aij (by rw [hl];decide))
theorem GX (h:¬(1<=a.op/\a.op<=6)) (hl:bV R.ns d name=(k:Int)):eZ R aj d name a=if (nd R.ns k).kind=3 then (R,174) else if (nd R.ns k).kind=2 then (R,172) else ((jV R k a.text.data.toList).1,(jV R k a.text.data.toList).2.2):=by
 rw [afG h,aik (by rw [hl];omega),hl];rfl
theorem Rv:∀{ps:List ByteArray} {d:Nat},o4 R d ps=.error e->e≠0
 |[],d,h=>by cases h;decide
 |[p],d,h=>by
   unfold o4 at h
   split at h<;>first|(cases h;done)|(cases h;decide)
 |p::q::r,d,h=>by
   unfold o4 at h
   (repeat' split at h)<;>first|exact Rv h|(cases h;done)|(cases h;decide)
theorem Rw {p:ByteArray} (h:mX R aj p=.error e):e≠0:=by
 grind [mX,Rv]
theorem T4:∀{ps:List ByteArray} {d:Nat},d<R.ns.length->o4 R d ps=.ok (to,aB)->to<R.ns.length
 |[],d,_,h=>by cases h
 |[p],d,hd,h=>by
   unfold o4 at h
   split at h
   ·cases h
   cases h;exact hd
 |p::q::r,d,hd,h=>by
   unfold o4 at h
   split at h
   ·rename_i h0
    split at h
    ·cases h
    split at h
    ·cases h
    refine T4 ?_ h
    rcases kO R.ns d p with hl|⟨k,hl,hk⟩
    ·rw [hl] at h0;exact ain h0 (by decide)
    rw [hl];exact hk
   cases h
theorem T5 {p:ByteArray} (hr:aj<R.ns.length) (h:mX R aj p=.ok (to,aB)):to<R.ns.length:=by
 unfold mX at h
 split at h
 ·exact T4 hr h
 cases h
theorem VO (hI:mA β Z Y.L Y.H Y.V) (hC:RC Z) (hD:RD n Z) (hn:n<=7) (d:Nat) (hd:d<Z.ns.length) (name:ByteArray) (x:aL) (hxd:x.data=[]) (Nb:x.ah=[]) (MN:x.target.size<=1048576) (hm:(bQ Z d name x).2≠0) :
 bU Tryz.prog β 99 #[.agg ⟨rV Z Y⟩,.int .i64 ((d:Nat):Int),.string name,.agg #[.int .i64 x.id,.int .i64 x.kind,.int .i64 x.mode,.int .i64 x.bg,.int .i64 x.bh,.int .i64 x.aT,.int .i64 x.aJ,.slice none 0 0,.string x.target,.slice none 0 0]]
  [.abs (aF 95 10 Y.A Z.ns.length Y.c (bD Y.L Z.ns)),.abs (aF 3 1 Y.G Z.aE.length Y.cg (bH Z.aE))] (λ_ v l=>v=.tuple #[.agg ⟨rV Z Y⟩,.int .i64 (bQ Z d name x).2]/\l=[.abs (aF 95 10 Y.A Z.ns.length Y.c (bD Y.L Z.ns)),.abs (aF 3 1 Y.G Z.aE.length Y.cg (bH Z.aE))]):=by
 refine (y4 Z Y hI hC hD hn d hd name x hxd Nb MN).mono ?_
 rintro β' v l _ ⟨A1,c1,L1,rfl,rfl,_,hmk⟩
 obtain⟨_,rfl,rfl,rfl⟩:=hmk.resolve_left (λh=>hm h.1)
 rw [adS hm]
 exact⟨rfl,rfl⟩
theorem VP (hI:mA β Z Y.L Y.H Y.V) (hC:RC Z) (hD:RD n Z) (hn:n<=7) (d:Nat) (hd:d<Z.ns.length) (name:ByteArray) (x:aL) (hxd:x.data=[]) (Nb:x.ah=[]) (MN:x.target.size<=1048576) (hm:(bQ Z d name x).2=0) :
 bU Tryz.prog β 99 #[.agg ⟨rV Z Y⟩,.int .i64 ((d:Nat):Int),.string name,.agg #[.int .i64 x.id,.int .i64 x.kind,.int .i64 x.mode,.int .i64 x.bg,.int .i64 x.bh,.int .i64 x.aT,.int .i64 x.aJ,.slice none 0 0,.string x.target,.slice none 0 0]]
  [.abs (aF 95 10 Y.A Z.ns.length Y.c (bD Y.L Z.ns)),.abs (aF 3 1 Y.G Z.aE.length Y.cg (bH Z.aE))] (λβ' v l=>∃A' c' L',v=.tuple #[.agg ⟨rW (j3 Z d name x) A' c' Y.G Y.cg Y.H Y.ch Y.V Y.cv⟩,.int .i64 0] ∧
   l=[.abs (aF 95 10 A' (j3 Z d name x).ns.length c' (bD L' (j3 Z d name x).ns)),.abs (aF 3 1 Y.G (j3 Z d name x).aE.length Y.cg (bH (j3 Z d name x).aE))]/\mA β' (j3 Z d name x) L' Y.H Y.V/\L'.dA Z.ns.length=none/\L'.dC Z.ns.length=0):=by
 grind [y4,YN]
end a
theorem T6 {l:List UInt8} {c:UInt8} {j:Nat}:Lib.occAt l [c] j=(l[j]? == some c):=by
 unfold Lib.occAt
 rw [←List.head?_drop]
 cases l.drop j with
 |nil=>rfl
 |cons b r=>
   grind
theorem ext_get {s:ByteArray} {a b j:Nat} (hb:b<=s.size) (hj:a+j<b):(s.extract a b).data.toList[j]?=some (s.data.getD (a+j) 0):=by
 have h:a+j<s.data.size:=aiG hj hb
 simp only [ByteArray.data_extract,Array.getElem?_toList,Array.getElem?_extract]
 rw [aik (by have:s.data.size=s.size:=rfl;omega)]
 have h2:s.data[a+j]?=some s.data[a+j]:=Array.getElem?_eq_getElem h
 rw [h2]
 simp only [Array.getD,h,dite_true];rfl
section p
variable {s:ByteArray} {a i:Nat}
theorem afH {j:Nat}:(s.data.getD j 0 == 47)=decide (dK s j=47):=by
 unfold dK
 generalize s.data.getD j 0=x
 by_cases h:x=47
 ·subst h;rfl
 have h2:¬x.toNat=47:=λe=>h (aiX.1 e)
 rw [aip h2]
 simpa using h
theorem T7 {j:Nat} (hj:a+j<s.size):Lib.occAt (s.extract a s.size).data.toList slash.data.toList j=decide (dK s (a+j)=47):=by
 show Lib.occAt _ [47] j=_
 rw [T6,ext_get (aiu _) hj,←afH]
 simp
theorem adT {j:Nat} (hj:s.size<=a+j):Lib.occAt (s.extract a s.size).data.toList slash.data.toList j=false:=by
 show Lib.occAt _ [47] j=_
 rw [T6,aji (by simp only [Array.length_toList,ByteArray.size_data,ai6];omega)]
 rfl
theorem Sy (iV:∀j,a<=j->j<s.size->¬dK s j=47):bR (s.extract a s.size)=[s.extract a s.size]:=by
 refine Lib.splitB_miss _ _ _ _ (Lib.index_none (λj _=>?_))
 grind [T7,adT]
theorem Sz (ha:a<=i) (hi:i<s.size) (hb:dK s i=47) (iV:∀j,a<=j->j<i->¬dK s j=47):bR (s.extract a s.size)=s.extract a i::bR (s.extract (i+1) s.size):=by
 have fC:Lib.indexB (s.extract a s.size) slash=((i-a:Nat):Int):=by
  refine Lib.index_first (by simp only [Array.length_toList,ByteArray.size_data,ai6];omega) ?_ (λj hj=>?_)
  all_goals grind [T7]
 have hc:=Lib.countB_hit (s.extract a s.size) slash (i-a) Pd fC
 have e:(s.extract a s.size).extract (i-a+slash.size) (s.extract a s.size).size=s.extract (i+1) s.size:=by
  rw [ByteArray.extract_extract,ai6]
  congr 1
  ·show a+(i-a+1)=i+1;omega
  omega
 unfold bR
 rw [hc,ajq,Lib.splitB_hit _ _ _ _ _ fC,e]
 congr 1
 rw [ByteArray.extract_extract]
 congr 1
 omega
structure HY (s:ByteArray) (i a:Nat) (ps:List ByteArray):Prop where
 le:a<=i
 at_:i<=s.size->ps++bR (s.extract a s.size)=bR s/\∀j,a<=j->j<i->¬dK s j=47
 fin:s.size<i->ps=bR s
 len:ps.length<=a
theorem HY.start:HY s 0 0 []:=⟨aiu _,λ_=>⟨by rw [ByteArray.extract_zero_size];rfl,λj _ h=>ain h (aiq j)⟩,λh=>ain h (aiq _),aiu _⟩
theorem HY.miss {ps:List ByteArray} (h:HY s i a ps) (hi:i<s.size) (hb:¬dK s i=47):HY s (i+1) a ps:=
 ⟨Nat.le_succ_of_le h.le,λ_=>⟨(h.at_ (ajp hi)).1,λj h1 h2=>(ais.1 h2).elim ((h.at_ (ajp hi)).2 j h1) (λe=>e ▸ hb)⟩,λh=>zc,h.len⟩
theorem HY.hit {ps:List ByteArray} (h:HY s i a ps) (hi:i<=s.size) (hb:i=s.size\/dK s i=47):HY s (i+1) (i+1) (ps++[s.extract a i]):=by
 obtain⟨h1,h2⟩:=h.at_ hi
 have dL:=h.le
 have Wq:=h.len
 refine⟨aiu _,λh3=>⟨?_,λj h4 h5=>zc⟩,λh3=>?_,by rw [ait];show ps.length+1<=i+1;omega⟩
 all_goals grind [Sz,Sy]
theorem NW {ps:List ByteArray} {x:ByteArray}:nJ (ps++[x])=nJ ps++[.string x]:=ai1
end p
end
section
open Go.RowKit Go.Maps bF aD
attribute [local irreducible] ar bN ak ay
theorem YO {β:Bs} (s:ByteArray) (hs:s.size<=1048576) :
 aU Tryz.prog β 97 #[.string s] [] (λv l=>∃B c,v=.slice B (bR s).length c/\l=[.abs (aF 9 1 B ((bR s).length) c (nJ (bR s)))]):=by
 refine SE Tryz.func97 Tryz.ntmps97 (λR=>SR (jK 1 [] [] (NS (jB 2 [3] (λb1=>.ax b1 [] 9) (λb1=>NS (ar.mem (λw hS=>hS.o9 (i:=1) (b:=b1) (cs:=[]) (e:=9) 1 0 KB rfl Pd) (jK 1 [4] [] (NZ (jK 1 [5] [] (NN (ak.block (lJ (λ(i,A8,c8,ps,a)=>(i<=s.size+1)/\(HY s i a ps)) (λ(i,A8,c8,ps,a)=>s.size+2-i) (λ(i,A8,c8,ps,a)=>[(0,.string s),(3,.slice A8 (ps.length) (c8)),(4,vI ↑a),(5,vI ↑i)]) (λ(i,A8,c8,ps,a)=>[.abs (aF 9 1 A8 ps.length c8 (nJ ps)),.abs R]) (0,some ⟨b1,0,none⟩,0,[],0) [1,0] (⟨aio _,HY.start⟩) ?_))))))))))))
 rintro⟨i,A8,c8,ps,a⟩ ⟨hi,hp⟩
 have dL:=hp.le
 have Wq:=hp.len
 exact SQ (jK 4 [10] [] (NN (cP ((((i:Nat):Int):Int)<=((((s:ByteArray).size:Nat):Int):Int)) (λh10=>KX (ak.seq (ak.block (SR (jK 5 [17] [] (sP 17 ((((i:Nat):Int):Int)=((((s:ByteArray).size:Nat):Int):Int)) (λE4=>jK 5 [22] [] (NT (SR (jN 6 [23,28] (λb2=>[(4,p_ ⟨[],some i,some a,none,none⟩ [((i:Nat):Int)=((i:Nat):Int),((a:Nat):Int)=((a:Nat):Int),i<=(s:ByteArray).size,a<=i] ⟨rfl,rfl,zc,zc,trivial⟩)]) (λ_=>[]) (λb2=>.ax b2 [.string ((s:ByteArray).extract a i)] 9) (λb2=>ny 0 157 (some ⟨b2,0,none⟩) 1 1 [.string ((s:ByteArray).extract a i)] rfl (fQ (j:=2) rfl) (λA3 c4=>ar.cJ 0 (p':=.abs (aF 9 1 A3 ((ps++[s.extract a i]).length) c4 (nJ (ps++[s.extract a i])))) rfl (by rw [NW];simp) (sl 29 (.slice A3 (ps.length+1) (c4)) (.slice A3 ((ps++[s.extract a i]).length) (c4)) aii (jK 1 [3] [] (NN (ak.region (jK 3 [4] [(1,wJ ((i:Int)+1) (↑(i+1)))] (LX (ak.region (jK 3 [5] [(1,wJ ((i:Int)+1) (↑(i+1)))] (NL (tJ ((i+1),A3,c4,(ps++[s.extract a i]),(i+1)) [0,1] (⟨zc,hp.hit zc (.inl zc)⟩))))))))))))))))) (λE4=>jK 5 [22] [(2,xP i (i<(s:ByteArray).size))] (NN (cP ((((((s:ByteArray).data.getD (i) 0).toNat:Nat):Int):Int)=(47:Int)) (λsU=>SR (jN 6 [23,28] (λb5=>[(4,p_ ⟨[],some i,some a,none,none⟩ [((i:Nat):Int)=((i:Nat):Int),((a:Nat):Int)=((a:Nat):Int),i<=(s:ByteArray).size,a<=i] ⟨rfl,rfl,zc,zc,trivial⟩)]) (λ_=>[]) (λb5=>.ax b5 [.string ((s:ByteArray).extract a i)] 9) (λb5=>ny 0 157 (some ⟨b5,0,none⟩) 1 1 [.string ((s:ByteArray).extract a i)] rfl (fQ (j:=2) rfl) (λA6 c7=>ar.cJ 0 (p':=.abs (aF 9 1 A6 ((ps++[s.extract a i]).length) c7 (nJ (ps++[s.extract a i])))) rfl (by rw [NW];simp) (sl 29 (.slice A6 (ps.length+1) (c7)) (.slice A6 ((ps++[s.extract a i]).length) (c7)) aii (jK 1 [3] [] (NN (ak.region (jK 3 [4] [(1,wJ ((i:Int)+1) (↑(i+1)))] (LX (ak.region (jK 3 [5] [(1,wJ ((i:Int)+1) (↑(i+1)))] (NL (tJ ((i+1),A6,c7,(ps++[s.extract a i]),(i+1)) [0,1] (⟨zc,hp.hit zc (.inr (by unfold dK;omega))⟩))))))))))))))) (λsU=>KX (ak.region (jK 3 [5] [(1,wJ ((i:Int)+1) (↑(i+1)))] (NL (tJ ((i+1),A8,c8,ps,a) [0,1] (⟨zc,hp.miss zc (by unfold dK;omega)⟩))))))))))))))) (λh10=>XX (zR ((by have e:=hp.fin zc;rw [←e];exact⟨A8,c8,rfl,rfl⟩)))))))
theorem GY {β:Bs} (Z:RS) (Y:RL) (hR:dF β Z Y) (hC:RC Z) (aj:Nat) (CI:aj<Z.ns.length) (path:ByteArray) (eG:path.size<=1048576) :
 aU Tryz.prog β 72 #[.agg ⟨rV Z Y⟩,vI (((aj:Nat):Int)),.string path] [] (λv l=>v=BJ (mX Z aj path)/\l=[]):=by
 have hpl:1<=(bR path).length/\(bR path).length<=1048577:=by rw [Eg];have:=Bv path;omega
 have hnl:=hC.toRB.ns
 refine SE Tryz.func72 Tryz.ntmps72 (λR=>SR (jN 4 [3] (λ_=>[]) (λ_=>[]) (λb1=>.ax b1 (rV Z Y) 45) (λb1=>NS (jK 1 [13] [] (gL [] (YO path eG) ?_)))))
 rintro _ _ ⟨B,c,rfl,rfl⟩
 refine jK 1 [9] [] (NN (ak.seq (SR (ar.sK 0 rfl zc (λhgB=>jK 1 [10] [] (NN (ak.block (lJ (λ(j:Nat)=>(j<=(bR path).length)/\(∀q,q<j->ck (pc (bR path) q))) (λ(j:Nat)=>(bR path).length-j) (λ(j:Nat)=>[(1,vI ↑aj),(3,vP b1),(9,.slice B ((bR path).length) (c)),(10,vI ↑j)]) (λ(j:Nat)=>[.abs (aF 9 1 B ((bR path).length) c (nJ (bR path))),.abs R,.ax b1 (rV Z Y) 45]) 0 [0,1,2] (⟨aio _,λq h=>ain h (aiq q)⟩) ?_))))))))
 rintro j ⟨hj,hgd⟩
 refine ak.seq (SR (jK 4 [18] [] (NN (cP ((((j:Nat):Int):Int)<((((bR path).length:Nat):Int):Int)) (λql=>ak.skip (NX (ak.seq (ak.block (SR (jK 4 [24] [(2,x_ j ((bR path).length) (hgB)),(3,p_ ⟨[.view 0 (.string (pc (bR path) j))],none,none,none,none⟩ [(∀F w,(aF 9 1 B ((bR path).length) c (nJ (bR path))).h F w->w.cell? ⟨(bG B),bE B+j*1,none⟩=some (.string (pc (bR path) j)))] ⟨CH zc,trivial⟩)] (gE [] (DP (pc (bR path) j) (air (Hw (Qu zc)) eG)) (jK 1 [26] [] (NN (cN (ck (pc (bR path) j)) (λzj=>SR (jK 3 [6,7,8] [] (NN (ak.ret (ay.fT (ay.bB (ay.bB (ay.fT (ay.bB (RT _ [1] (⟨ail BJ (ai0 (show mX Z aj path=.error 95 from aij (λh=>zj (Ei.1 h j zc)))),rfl⟩))))))))))) (λzj=>ak.skip (ay.gh (NX (ak.region (jK 3 [10] [(1,wJ ((j:Int)+1) (↑(j+1)))] (NL (tJ ((j+1)) [0,1,2] (⟨zc,λq hq=>(ais.1 hq).elim (hgd q) (λe=>e ▸ zj)⟩)))))))))))))))))) (λql=>ak.exit (ay.oZ (ay.oZ (ay.uW (NX (SR ?_))))))))))
 have jW:∀p∈(bR path),ck p:=Ei.2 (λq hq=>hgd q zc)
 refine jK 2 [11] [] (NN (ak.seq (SR (jK 1 [12] [] (NN (ak.block (lJ (λ(j,at_)=>(j<=(bR path).length-1)/\(at_<Z.ns.length)/\(o4 Z aj (bR path)=o4 Z at_ ((bR path).drop j))) (λ(j,at_)=>(bR path).length-1-j) (λ(j,at_)=>[(3,vP b1),(9,.slice B ((bR path).length) (c)),(11,vI ↑at_),(12,vI ↑j)]) (λ(j,at_)=>[.abs (aF 9 1 B ((bR path).length) c (nJ (bR path))),.abs R,.ax b1 (rV Z Y) 45]) (0,aj) [0,1,2] (⟨aio _,CI,rfl⟩) ?_)))))))
 rintro⟨j,at_⟩ ⟨hj,hat,hw⟩
 refine ak.seq (SR (jK 5 [32] [(3,wJ ((((bR path).length:Nat):Int)-1) (↑((bR path).length-1)))] (NN (cP ((((j:Nat):Int):Int)<(((((bR path).length-1):Nat):Int):Int)) (λsR=>ak.skip (NX (ak.seq (ak.block (ak.seq ?_))))) (λsR=>ak.exit (ay.oZ (ay.oZ (ay.uW (NX (ak.seq (ak.seq (ak.Gj KB KB (jQ 8 [60,67] [(0,A_ 2 b1 12),(3,a_ 2 b1),(5,x_ at_ Z.ns.length (aN.hd hR.n (i:=at_) zc)),(7,r_ (aN.rd hR.n (i:=at_) zc (j:=0) rfl))] (mY [] [0,1,2] (.bool (decide ((nd Z.ns at_).id∈Z.aE))) (xI Z Y hR hC.toRB (nd Z.ns at_).id) (NQ (NX (cP ((nd Z.ns at_).id∈Z.aE) (λh68=>SR (jK 3 [6,7,8] [] (NN (ak.ret (ay.bB (RT _ [1] (⟨ail BJ (ai0 (show mX Z aj path=.error 170 from (show mX Z aj path=o4 Z aj (bR path) from aik jW).trans (hw.trans ((NV zc).trans (aik h68))))),rfl⟩))))))) (λh68=>ak.skip (NX (ak.seq (ak.Gj KB KB (jQ 10 [6,7,8] [(4,wJ ((((bR path).length:Nat):Int)-1) (↑((bR path).length-1))),(5,x_ ((bR path).length-1) ((bR path).length) (hgB)),(6,p_ ⟨[.view 0 (.string (pc (bR path) ((bR path).length-1)))],none,none,none,none⟩ [(∀F w,(aF 9 1 B ((bR path).length) c (nJ (bR path))).h F w->w.cell? ⟨(bG B),bE B+((bR path).length-1)*1,none⟩=some (.string (pc (bR path) ((bR path).length-1))))] ⟨CH zc,trivial⟩)] (NQ (NX (ak.ret (RT _ [1] (⟨ail BJ (ai0 (show mX Z aj path=.ok (at_,pc (bR path) ((bR path).length-1)) from (show mX Z aj path=o4 Z aj (bR path) from aik jW).trans (hw.trans ((NV zc).trans ((aij h68).trans (by rw [show j=(bR path).length-1 by omega])))))),rfl⟩)))))))))))))))))))))))))))
 rcases kO Z.ns at_ (pc (bR path) j) with hl|⟨k,hl,hk⟩
 ·exact ak.Gj KB KB (jQ 6 [35,36,40] [(0,A_ 2 b1 12),(4,x_ j ((bR path).length) (hgB)),(5,p_ ⟨[.view 0 (.string (pc (bR path) j))],none,none,none,none⟩ [(∀F w,(aF 9 1 B ((bR path).length) c (nJ (bR path))).h F w->w.cell? ⟨(bG B),bE B+j*1,none⟩=some (.string (pc (bR path) j)))] ⟨CH zc,trivial⟩)] (mY [] [0,1,2] (.int .i64 (-1)) ((jL Z Y hR hC at_ hat (pc (bR path) j)).val (ail (Value.int .i64) hl)) (jQ 1 [11] [] (NQ (NX (ak.seq (SR (jK 2 [43] [] (NN (CT (zR ⟨ail BJ (ai0 (show mX Z aj path=.error 170 from (show mX Z aj path=o4 Z aj (bR path) from aik jW).trans (hw.trans (YM zc hl)))),rfl⟩ [1])))))))))))
 exact rQ (jQ 6 [35,36,40] [(0,A_ 2 b1 12),(4,x_ j ((bR path).length) (hgB)),(5,p_ ⟨[.view 0 (.string (pc (bR path) j))],none,none,none,none⟩ [(∀F w,(aF 9 1 B ((bR path).length) c (nJ (bR path))).h F w->w.cell? ⟨(bG B),bE B+j*1,none⟩=some (.string (pc (bR path) j)))] ⟨CH zc,trivial⟩)] (mY [] [0,1,2] (.int .i64 ↑k) ((jL Z Y hR hC at_ hat (pc (bR path) j)).val (ail (Value.int .i64) hl)) (jQ 1 [11] [] (NQ (NX (SQ (jK 2 [43] [(1,wF (((k:Int):Int)<(0:Int)))] (NF (KX (SQ (jK 8 [51] [(2,a_ 2 b1),(4,x_ k Z.ns.length (aN.hd hR.n (i:=k) zc)),(6,r_ (aN.rd hR.n (i:=k) zc (j:=1) rfl))] (NN (cP (((nd Z.ns k).kind:Int)=(3:Int)) (λyu=>zR ⟨ail BJ (ai0 (show mX Z aj path=.error 174 from (show mX Z aj path=o4 Z aj (bR path) from aik jW).trans (hw.trans ((Gi zc hl).trans (aik yu))))),rfl⟩ [1]) (λyu=>KX (SR (jK 8 [59] [(2,a_ 2 b1),(4,x_ k Z.ns.length (aN.hd hR.n (i:=k) zc)),(6,r_ (aN.rd hR.n (i:=k) zc (j:=1) rfl))] (NN (cP (((nd Z.ns k).kind:Int)=(1:Int)) (λwL=>zR ⟨ail BJ (ai0 (show mX Z aj path=.error 173 from (show mX Z aj path=o4 Z aj (bR path) from aik jW).trans (hw.trans ((Gi zc hl).trans ((aij yu).trans (aik wL)))))),rfl⟩ [1]) (λwL=>KX (ak.region (jK 3 [12] [(1,wJ ((j:Int)+1) (↑(j+1)))] (NL (tJ ((j+1),k) [0,1,2] (⟨zc,hk,hw.trans ((Gi zc hl).trans ((aij yu).trans (aij wL)))⟩))))))))))))))))))))))))
theorem abG {β:Bs} (Z:RS) (Y:RL) (hI:mA β Z Y.L Y.H Y.V) (hC:RC Z) (hD:RD 0 Z) (aj:Nat) (CI:aj<Z.ns.length) (d:Nat) (hd:d<Z.ns.length) (name:ByteArray) (a:dh) (dY:a.to.size<=1048576) (uO:a.text.size<=1048576) (YP:a.op=1->(bQ Z d name nF).2=0->RC (j3 Z d name nF)) (iV:¬(1<=a.op/\a.op<=6)->∀k:Nat,bV Z.ns d name=(k:Int)->(nd Z.ns k).kind=3\/(nd Z.ns k).kind=2) :
 bU Tryz.prog β 73 #[.agg ⟨rV Z Y⟩,vI (((aj:Nat):Int)),vI (((d:Nat):Int)),.string name,.agg #[vI (a.at_),vI (a.op),.string a.path,.string a.to,.string a.text]] [.abs (aF 95 10 Y.A Z.ns.length Y.c (bD Y.L Z.ns)),.abs (aF 3 1 Y.G Z.aE.length Y.cg (bH Z.aE))] (λβ' v l=>∃Y',v=.tuple #[.agg ⟨rV ((eZ Z aj d name a).1) Y'⟩,vI (eZ Z aj d name a).2]/\l=[]/\dF β' (eZ Z aj d name a).1 Y'):=by
 refine mM Tryz.func73 Tryz.ntmps73 (λav R=>SR (jB 1 [5] (λb1=>.ax b1 (rV Z Y) 45) (λb1=>jB 1 [9] (λb2=>.ax b2 [vI (a.at_),vI (a.op),.string a.path,.string a.to,.string a.text] 68) (λb2=>jB 2 [10] (λb3=>.ax b3 (rZ) 45) (λb3=>NZ (jK 2 [23] [(1,a_ 4 b2)] (NN (ak.block (SR (jK 2 [24] [] (NN (cP ((a.op:Int)=(1:Int)) (λrY=>?_) (λrY=>?_)))))))))))))
 ·refine SR (jK 4 [27,28,29,30] [(0,A_ 3 b1 12)] ?_)
  by_cases hm:(bQ Z d name nF).2=0
  ·refine gu [0,1] (VP hI hC hD zc d hd name nF rfl rfl Pd hm) ?_
   rintro β1 _ _ cD ⟨A1,c1,L1,rfl,rfl,di,hnA,Qk⟩
   replace av:=av.trans cD
   refine jN 6 [12,13] (λb4=>[(4,A_ 6 b4 12)]) (λ_=>[]) (λb4=>.ax b4 (rW (j3 Z d name nF) A1 c1 Y.G Y.cg Y.H Y.ch Y.V Y.cv) 45) (λb4=>NZ (jK 2 [35] [] (NF (KX (SR (jK 6 [14] [(2,a_ 6 b4),(4,p_ ⟨[],none,none,none,some (vI ↑Z.ns.length)⟩ [(Value.int .i64 (IntKind.wrap .i64 ((((j3 Z d name nF).ns.length:Nat):Int)-1)))=(.int .i64 ↑Z.ns.length)] ⟨vV (by rw [Mi];omega) zc (by have:=hC.ns;omega),trivial⟩)] (NS (jK 4 [44,45,47] [(0,A_ 6 b4 12),(3,a_ 4 b2)] (ar.Ej (d:=(some 48)) (t1:=9) (t2:=51) (e:=5) (x:=(.tmp 47)) (s:=a.text) (λ_=>KB) (λ_=>KB) Tryz.underlying9 Tryz.underlying51 Tryz.underlying5 (λb5 c6 ahA=>ar.ux 7 [0,1,2,3,4,5,6] (eX:=[.abs (aF 95 10 A1 ((j3 Z d name nF).ns.length) c1 (bD L1 (j3 Z d name nF).ns)),.abs (aF 3 1 Y.G ((j3 Z d name nF).aE.length) Y.cg (bH (j3 Z d name nF).aE)),.abs R,.ax b1 (rV Z Y) 45,.ax b2 [vI (a.at_),vI (a.op),.string a.path,.string a.to,.string a.text] 68,.ax b3 (rZ) 45,.ax b4 (rW (j3 Z d name nF) A1 c1 Y.G Y.cg Y.H Y.ch Y.V Y.cv) 45]) rfl rfl KB (λQA oW hbs=>?_)))))))))))
   replace di:=di.le oW
   replace av:=av.trans oW
   refine ar.mem (λw hS=>hS.mQ (e:=5) (size:=1)) (ar.cJ 7 (p':=.abs (aF 5 1 (L1.dA Z.ns.length) ((nd (j3 Z d name nF).ns Z.ns.length).data.length) (L1.dC Z.ns.length) (dQ (nd (j3 Z d name nF).ns Z.ns.length).data))) rfl (by rw [hnA,Qk,abF];rfl) (gu [0,1,7] (Je (j3 Z d name nF) ⟨A1,c1,L1,Y.G,Y.cg,Y.H,Y.ch,Y.V,Y.cv⟩ Z.ns.length di.toK (YP (by simpa using rY) hm) (by rw [Mi];omega) (some ⟨b5,0,none⟩) c6 a.text.data.toList hbs (by rw [Array.length_toList];have:a.text.data.size=a.text.size:=rfl;omega) ahA) ?_))
   rintro β9 _ _ uo ⟨Y3,rfl,rfl,mF⟩
   replace av:=av.trans uo
   exact jC 5 [] [(4,A_ 4 b4 12)] [(4,(zC (rV ((jV (j3 Z d name nF) Z.ns.length a.text.data.toList).1) Y3)))] (NS (jC 3 [11] [(0,A_ 4 b4 12),(1,A_ 3 b3 12)] [(3,(zC (rV ((jV (j3 Z d name nF) Z.ns.length a.text.data.toList).1) Y3)))] (eO [A_ 3 b3 12] av ⟨Y3,by rw [acP (by simpa using rY) hm]<;>rfl,rfl,by rw [acP (by simpa using rY) hm];exact mF⟩)))
  refine gu [0,1] (VO hI hC hD zc d hd name nF rfl rfl Pd hm) ?_
  rintro β1 _ _ cD ⟨rfl,rfl⟩
  replace hI:=hI.le cD
  replace av:=av.trans cD
  refine jN 6 [12,13] (λb10=>[(4,A_ 6 b10 12)]) (λ_=>[]) (λb10=>.ax b10 (rV Z Y) 45) (λb10=>NZ (jK 2 [35] [] (NN (cN (((bQ Z d name nF).2:Int)=(0:Int)) (λnY=>SR (jC 4 [11] [(0,A_ 3 b1 12),(2,A_ 5 b3 12)] [(5,(zC (rV Z Y)))] (NN (ak.ret (ay.bB (ay.fT (ay.bB (ay.cO [0,1] [.abs (aF 95 10 Y.A Z.ns.length Y.c (bD Y.L Z.ns)),.abs (aF 3 1 Y.G Z.aE.length Y.cg (bH Z.aE))] (λJf p4 hL=>?_))))))))) (λnY=>ain (by simpa using nY) hm)))))
  have fH:dF Jf Z Y:=hI.at hL
  replace av:=av.trans p4
  exact rB _ [A_ 3 b3 12] [0] av (⟨Y,by rw [acO (by simpa using rY) hm]<;>rfl,rfl,by rw [acO (by simpa using rY) hm];exact fH⟩)
 refine SR (jK 2 [54] [] (NN (cP ((a.op:Int)=(2:Int)) (λF5=>?_) (λF5=>?_))))
 ·refine SR (jK 4 [56,57,58,59] [(0,A_ 3 b1 12)] (gu [0,1] (y4 Z Y hI hC hD zc d hd name nD rfl rfl Pd) ?_))
  rintro β1 _ _ cD ⟨A1,c1,L1,rfl,rfl,di,_⟩
  replace av:=av.trans cD
  refine jC 4 [11] [(2,A_ 5 b3 12)] [(5,(zC (rW ((bQ Z d name nD).1) A1 c1 Y.G Y.cg Y.H Y.ch Y.V Y.cv)))] (NN (ak.ret (ay.fT (ay.bB (ay.cO [0,1] [.abs (aF 95 10 A1 ((bQ Z d name nD).1.ns.length) c1 (bD L1 (bQ Z d name nD).1.ns)),.abs (aF 3 1 Y.G ((bQ Z d name nD).1.aE.length) Y.cg (bH (bQ Z d name nD).1.aE))] (λI6 qW hL=>?_))))))
  have fH:dF I6 (bQ Z d name nD).1 ⟨A1,c1,L1,Y.G,Y.cg,Y.H,Y.ch,Y.V,Y.cv⟩:=di.at hL
  replace av:=av.trans qW
  exact rB _ [A_ 3 b3 12] [0] av (⟨⟨A1,c1,L1,Y.G,Y.cg,Y.H,Y.ch,Y.V,Y.cv⟩,by rw [afC (by simpa using F5)]<;>rfl,rfl,by rw [afC (by simpa using F5)];exact fH⟩)
 refine SR (jK 2 [63] [] (NN (cP ((a.op:Int)=(3:Int)) (λh63=>?_) (λh63=>?_))))
 ·refine SR (jK 6 [65,66,67,70] [(0,A_ 3 b1 12),(4,a_ 4 b2)] (gu [0,1] (y4 Z Y hI hC hD zc d hd name (nL a.text) rfl rfl uO) ?_))
  rintro β1 _ _ cD ⟨A1,c1,L1,rfl,rfl,di,_⟩
  replace av:=av.trans cD
  refine jC 4 [11] [(2,A_ 5 b3 12)] [(5,(zC (rW ((bQ Z d name (nL a.text)).1) A1 c1 Y.G Y.cg Y.H Y.ch Y.V Y.cv)))] (NN (ak.ret (ay.fT (ay.bB (ay.cO [0,1] [.abs (aF 95 10 A1 ((bQ Z d name (nL a.text)).1.ns.length) c1 (bD L1 (bQ Z d name (nL a.text)).1.ns)),.abs (aF 3 1 Y.G ((bQ Z d name (nL a.text)).1.aE.length) Y.cg (bH (bQ Z d name (nL a.text)).1.aE))] (λpZ j4 hL=>?_))))))
  have fH:dF pZ (bQ Z d name (nL a.text)).1 ⟨A1,c1,L1,Y.G,Y.cg,Y.H,Y.ch,Y.V,Y.cv⟩:=di.at hL
  replace av:=av.trans j4
  exact rB _ [A_ 3 b3 12] [0] av (⟨⟨A1,c1,L1,Y.G,Y.cg,Y.H,Y.ch,Y.V,Y.cv⟩,by rw [afD (by simpa using h63)]<;>rfl,rfl,by rw [afD (by simpa using h63)];exact fH⟩)
 refine SR (jK 2 [74] [] (NN (cP ((a.op:Int)=(4:Int)) (λG8=>?_) (λG8=>?_))))
 ·refine SR (jK 3 [76,77,78] [(0,A_ 3 b1 12)] (gu [0,1] (CA Z Y hI hC hD zc d hd name false) ?_))
  rintro β1 _ _ cD ⟨Y3,rfl,rfl,mF⟩
  replace av:=av.trans cD
  exact jC 4 [11] [(2,A_ 3 b3 12)] [(3,(zC (rV ((iH Z d name false).1) Y3)))] (eO [A_ 3 b3 12] av ⟨Y3,by rw [afE (by simpa using G8)]<;>rfl,rfl,by rw [afE (by simpa using G8)];exact mF⟩)
 refine SR (jK 2 [82] [] (NN (cP ((a.op:Int)=(5:Int)) (λM8=>?_) (λM8=>?_))))
 ·refine SR (jK 3 [84,85,86] [(0,A_ 3 b1 12)] (gu [0,1] (CA Z Y hI hC hD zc d hd name true) ?_))
  rintro β1 _ _ cD ⟨Y3,rfl,rfl,mF⟩
  replace av:=av.trans cD
  exact jC 4 [11] [(2,A_ 3 b3 12)] [(3,(zC (rV ((iH Z d name true).1) Y3)))] (eO [A_ 3 b3 12] av ⟨Y3,by rw [afF (by simpa using M8)]<;>rfl,rfl,by rw [afF (by simpa using M8)];exact mF⟩)
 refine SR (jK 2 [90] [] (NN (cP ((a.op:Int)=(6:Int)) (λwK=>?_) (λwK=>?_))))
 ·refine SR (jK 4 [93,94,96] [(0,A_ 3 b1 12),(3,a_ 4 b2)] ?_)
  rcases hw:mX Z aj a.to with e|⟨to,aB⟩
  ·have he:=Rw hw
   refine gE [0,1] ((eF hI (λ_ _ h=>GY Z Y h hC aj CI a.to dY)).val (ail BJ hw)) (jK 7 [15,16,17] [] (NZ (jK 2 [102] [] (NN (cN ((e:Int)=(0:Int)) (λafI=>SR (jC 4 [11] [(0,A_ 3 b1 12),(2,A_ 5 b3 12)] [(5,(zC (rV Z Y)))] (NN (ak.ret (ay.bB (ay.fT (ay.bB (ay.cO [0,1] [.abs (aF 95 10 Y.A Z.ns.length Y.c (bD Y.L Z.ns)),.abs (aF 3 1 Y.G Z.aE.length Y.cg (bH Z.aE))] (λsJ gV hL=>?_))))))))) (λafI=>ain (by simpa using afI) he))))))
   have fH:dF sJ Z Y:=hI.at hL
   replace av:=av.trans gV
   exact rB _ [A_ 3 b3 12] [0] av (⟨Y,by rw [acQ (by simpa using wK) hw]<;>rfl,rfl,by rw [acQ (by simpa using wK) hw];exact fH⟩)
  have PK:=T5 CI hw
  refine gE [0,1] ((eF hI (λ_ _ h=>GY Z Y h hC aj CI a.to dY)).val (ail BJ hw)) (jK 7 [15,16,17] [] (NZ (jK 2 [102] [] (NF (KX (SR (jK 5 [105,106,107,108,109] [(0,A_ 3 b1 12)] (gu [0,1] (Nz Z Y hI hC hD zc d hd name to PK aB) ?_))))))))
  rintro β1 _ _ cD ⟨Y3,rfl,rfl,mF⟩
  replace av:=av.trans cD
  exact jC 4 [11] [(2,A_ 3 b3 12)] [(3,(zC (rV ((gY Z d name to aB).1) Y3)))] (eO [A_ 3 b3 12] av ⟨Y3,by rw [acR (by simpa using wK) hw]<;>rfl,rfl,by rw [acR (by simpa using wK) hw];exact mF⟩)
 refine KX (SR ?_)
 have h7:¬(1<=a.op/\a.op<=6):=zc
 refine jK 3 [113,114,115] [(0,A_ 3 b1 12)] ?_
 rcases kO Z.ns d name with hl|⟨k,hl,hk⟩
 ·refine gE [0,1] ((eF hI (λ_ _ h=>jL Z Y h hC d hd name)).val (ail (Value.int .i64) hl)) (jK 1 [18] [] (NZ (jK 2 [118] [] (NT (SR (jC 3 [11] [(0,A_ 3 b1 12),(1,A_ 5 b3 12)] [(5,(zC (rV Z Y)))] (NN (ak.ret (ay.bB (ay.cO [0,1] [.abs (aF 95 10 Y.A Z.ns.length Y.c (bD Y.L Z.ns)),.abs (aF 3 1 Y.G Z.aE.length Y.cg (bH Z.aE))] (λF6 qY hL=>?_)))))))))))
  have fH:dF F6 Z Y:=hI.at hL
  replace av:=av.trans qY
  exact rB _ [A_ 3 b3 12] [0] av (⟨Y,by rw [acS h7 hl]<;>rfl,rfl,by rw [acS h7 hl];exact fH⟩)
 refine ar.sK 0 rfl zc (λmg=>gE [0,1] ((eF hI (λ_ _ h=>jL Z Y h hC d hd name)).val (ail (Value.int .i64) hl)) (jK 1 [18] [] (NZ (jK 2 [118] [(1,wF (((k:Int):Int)<(0:Int)))] (NF (KX (SQ (jK 8 [127] [(2,a_ 3 b1),(4,x_ k Z.ns.length (mg)),(6,v_ 0 (nA Z.ns Y.L Y.A Y.c k 1 hk rfl))] (NN (cP (((nd Z.ns k).kind:Int)=(3:Int)) (λh127=>?_) (λh127=>?_)))))))))))
 ·refine SR (jC 3 [11] [(0,A_ 3 b1 12),(1,A_ 5 b3 12)] [(5,(zC (rV Z Y)))] (NN (ak.ret (ay.bB (ay.cO [0,1] [.abs (aF 95 10 Y.A Z.ns.length Y.c (bD Y.L Z.ns)),.abs (aF 3 1 Y.G Z.aE.length Y.cg (bH Z.aE))] (λQB tT hL=>?_))))))
  have fH:dF QB Z Y:=hI.at hL
  replace av:=av.trans tT
  exact rB _ [A_ 3 b3 12] [0] av (⟨Y,by rw [(GX h7 hl).trans (aik h127)]<;>rfl,rfl,by rw [(GX h7 hl).trans (aik h127)];exact fH⟩)
 refine KX (SQ (jK 8 [136] [(2,a_ 3 b1),(4,x_ k Z.ns.length (mg)),(6,v_ 0 (nA Z.ns Y.L Y.A Y.c k 1 hk rfl))] (NN (cP (((nd Z.ns k).kind:Int)=(2:Int)) (λJq=>SR (jC 3 [11] [(0,A_ 3 b1 12),(1,A_ 5 b3 12)] [(5,(zC (rV Z Y)))] (NN (ak.ret (ay.bB (ay.cO [0,1] [.abs (aF 95 10 Y.A Z.ns.length Y.c (bD Y.L Z.ns)),.abs (aF 3 1 Y.G Z.aE.length Y.cg (bH Z.aE))] (λabC BG hL=>?_))))))) (λJq=>ain (iV h7 k hl) (λh=>h.elim h127 Jq))))))
 have fH:dF abC Z Y:=hI.at hL
 replace av:=av.trans BG
 exact rB _ [A_ 3 b3 12] [0] av (⟨Y,by rw [(GX h7 hl).trans ((aij h127).trans (aik Jq))]<;>rfl,rfl,by rw [(GX h7 hl).trans ((aij h127).trans (aik Jq))];exact fH⟩)
theorem abH {β:Bs} (Z:RS) (Y:RL) (k:Nat) (hI:BD β Z Y.L Y.H Y.V k) (hC:RC Z) (hk:k<Z.ns.length) (aj:Nat) (_:aj<Z.ns.length) (d:Nat) (hd:d<Z.ns.length) (name:ByteArray) (a:dh) (_:a.to.size<=1048576) (uO:a.text.size<=1048576) (h7:¬(1<=a.op/\a.op<=6)) (hl:bV Z.ns d name=(k:Int)) (hk3:¬(nd Z.ns k).kind=3) (hk2:¬(nd Z.ns k).kind=2) :
 bU Tryz.prog β 73 #[.agg ⟨rV Z Y⟩,vI (((aj:Nat):Int)),vI (((d:Nat):Int)),.string name,.agg #[vI (a.at_),vI (a.op),.string a.path,.string a.to,.string a.text]] [.abs (aF 95 10 Y.A Z.ns.length Y.c (bD Y.L Z.ns)),.abs (aF 3 1 Y.G Z.aE.length Y.cg (bH Z.aE)),.abs (aF 5 1 (Y.L.dA k) ((nd Z.ns k).data.length) (Y.L.dC k) (dQ (nd Z.ns k).data))] (λβ' v l=>∃Y',v=.tuple #[.agg ⟨rV ((eZ Z aj d name a).1) Y'⟩,vI (eZ Z aj d name a).2]/\l=[]/\dF β' (eZ Z aj d name a).1 Y'):=by
 refine mM Tryz.func73 Tryz.ntmps73 (λav R=>SR (jB 1 [5] (λb18=>.ax b18 (rV Z Y) 45) (λb18=>jB 1 [9] (λb19=>.ax b19 [vI (a.at_),vI (a.op),.string a.path,.string a.to,.string a.text] 68) (λb19=>jB 2 [10] (λb20=>.ax b20 (rZ) 45) (λb20=>NZ (jK 2 [23] [(1,a_ 5 b19)] (NN (ak.block (SR (jK 2 [24] [] (NN (cP ((a.op:Int)=(1:Int)) (λrY=>ain rY (by omega)) (λrY=>SR (jK 2 [54] [] (NN (cP ((a.op:Int)=(2:Int)) (λF5=>ain F5 (by omega)) (λF5=>SR (jK 2 [63] [] (NN (cP ((a.op:Int)=(3:Int)) (λh63=>ain h63 (by omega)) (λh63=>SR (jK 2 [74] [] (NN (cP ((a.op:Int)=(4:Int)) (λG8=>ain G8 (by omega)) (λG8=>SR (jK 2 [82] [] (NN (cP ((a.op:Int)=(5:Int)) (λM8=>ain M8 (by omega)) (λM8=>SR (jK 2 [90] [] (NN (cP ((a.op:Int)=(6:Int)) (λwK=>ain wK (by omega)) (λwK=>KX (SR (jK 3 [113,114,115] [(0,A_ 4 b18 12)] (gE [0,1,2] (Jb (x:=.int .i64 ((k:Nat):Int)) (cb:=Y.L.dC k) hI rfl rfl (λ_ _ h=>(jL Z Y h hC d hd name).val (ail (Value.int .i64) hl))) (jK 1 [18] [] (NZ (jK 2 [118] [(1,wF (((k:Int):Int)<(0:Int)))] (NF (KX (SQ (ar.sK 0 rfl zc (λmg=>jK 8 [127] [(2,a_ 4 b18),(4,x_ k Z.ns.length (mg)),(6,v_ 0 (nA Z.ns Y.L Y.A Y.c k 1 hk rfl))] (NN (cP (((nd Z.ns k).kind:Int)=(3:Int)) (λh127=>ain h127 hk3) (λh127=>KX (SQ (jK 8 [136] [(2,a_ 4 b18),(4,x_ k Z.ns.length (mg)),(6,v_ 0 (nA Z.ns Y.L Y.A Y.c k 1 hk rfl))] (NN (cP (((nd Z.ns k).kind:Int)=(2:Int)) (λJq=>ain Jq hk2) (λJq=>KX (SR (jK 4 [139,140,142] [(0,A_ 4 b18 12),(3,a_ 5 b19)] (ar.Ej (d:=(some 143)) (t1:=9) (t2:=51) (e:=5) (x:=(.tmp 142)) (s:=a.text) (λ_=>KB) (λ_=>KB) Tryz.underlying9 Tryz.underlying51 Tryz.underlying5 (λy5 c22 agC=>ar.ux 7 [0,1,2,3,4,5,6] (eX:=[.abs (aF 95 10 Y.A Z.ns.length Y.c (bD Y.L Z.ns)),.abs (aF 3 1 Y.G Z.aE.length Y.cg (bH Z.aE)),.abs (aF 5 1 (Y.L.dA k) ((nd Z.ns k).data.length) (Y.L.dC k) (dQ (nd Z.ns k).data)),.abs R,.ax b18 (rV Z Y) 45,.ax b19 [vI (a.at_),vI (a.op),.string a.path,.string a.to,.string a.text] 68,.ax b20 (rZ) 45]) rfl rfl KB (λVA tV hbs=>?_)))))))))))))))))))))))))))))))))))))))))))))))))))))))))
 replace hI:=hI.le tV
 replace av:=av.trans tV
 refine gu [0,1,2] (Je Z Y k hI hC hk (some ⟨y5,0,none⟩) c22 a.text.data.toList hbs (by rw [Array.length_toList];have:a.text.data.size=a.text.size:=rfl;omega) agC) ?_
 rintro afp _ _ Jg ⟨Y3,rfl,rfl,mF⟩
 replace av:=av.trans Jg
 exact jN 8 [19,21] (λqo=>[(5,A_ 4 qo 12)]) (λ_=>[]) (λqo=>.ax qo (rV ((jV Z k a.text.data.toList).1) Y3) 45) (λqo=>NS (jC 4 [11] [(0,A_ 4 qo 12),(2,A_ 3 b20 12)] [(3,(zC (rV ((jV Z k a.text.data.toList).1) Y3)))] (eO [A_ 3 b20 12] av ⟨Y3,by rw [(GX h7 hl).trans ((aij hk3).trans (aij hk2))]<;>rfl,rfl,by rw [(GX h7 hl).trans ((aij hk3).trans (aij hk2))];exact mF⟩)))
end
section
open Go.RowKit Go.Maps bF aD
section s
variable {β:Bs} {Z:RS} {Y:RL} {aj d:Nat} {name:ByteArray} {a:dh}
theorem abI {A1 G1:Option Addr} {c1 g1:Nat} {K:eP} (hR:dF β Z Y) (hC:RC Z) (hD:RD 0 Z) (CI:aj<Z.ns.length) (hd:d<Z.ns.length) (dY:a.to.size<=1048576) (uO:a.text.size<=1048576) (YP:a.op=1->(bQ Z d name nF).2=0->RC (j3 Z d name nF)) :
 aU Tryz.prog β 73 #[.agg ⟨rV Z ⟨A1,c1,K,G1,g1,Y.H,Y.ch,Y.V,Y.cv⟩⟩,.int .i64 ((aj:Nat):Int),.int .i64 ((d:Nat):Int),.string name,.agg #[.int .i64 a.at_,.int .i64 a.op,.string a.path,.string a.to,.string a.text]]
  [.abs (kT β (Dx Z K)),.abs (aF 95 10 A1 Z.ns.length c1 (bD K Z.ns)),.abs (aF 3 1 G1 Z.aE.length g1 (bH Z.aE)),Me Z K]
  (λv l=>∃Y',v=.tuple #[.agg ⟨rV (eZ Z aj d name a).1 Y'⟩,.int .i64 (eZ Z aj d name a).2]/\l=[.abs (kT β (λβ'=>dF β' (eZ Z aj d name a).1 Y'))]):=by
 refine (bU.Ke (ι:=RL) (vv:=λY'=>.tuple #[.agg ⟨rV (eZ Z aj d name a).1 Y'⟩,.int .i64 (eZ Z aj d name a).2]) (ll:=λ_=>[]) (Φ:=λY' β'=>dF β' (eZ Z aj d name a).1 Y') (bU.acM λβ' dL hE=>?_)).mono Pe
 by_cases h9:∃k:Nat,¬(1<=a.op/\a.op<=6)/\bV Z.ns d name=(k:Int)/\¬(nd Z.ns k).kind=3/\¬(nd Z.ns k).kind=2
 ·obtain⟨k,h1,h2,h3,h4⟩:=h9
  have hk:k<Z.ns.length:=by
   grind [kO]
  refine bU.afr (pre':=[.abs (aF 95 10 A1 Z.ns.length c1 (bD K Z.ns)),.abs (aF 3 1 G1 Z.aE.length g1 (bH Z.aE)),.abs (lI Z.ns K k)]++[.abs (kR (ol (lI Z.ns K) k d9.none) Z.ns.length)]) (bU.Oz λox hL=>?_) (λA w hS=>?_)
  ·have hd2:∀i,i<Z.ns.length->i≠k->bp ox (K.dA i) (nd Z.ns i).data:=by
    obtain⟨F,q1,q2⟩:=hL.get 0 rfl
    refine kR.base q1 q2 rfl (Φ:=λi b=>i≠k->bp b (K.dA i) (nd Z.ns i).data) (λi _ F hF hO cu=>?_)
    have hF:(HP.abs (lI Z.ns K i)).h F ox.w0:=by
     have e:ol (lI Z.ns K) k d9.none i=lI Z.ns K i:=aij cu
     rw [e] at hF;exact hF
    exact cA.iM (show (HP.abs (aF 5 1 (K.dA i) (nd Z.ns i).data.length (K.dC i) (dQ (nd Z.ns i).data))).h F _ from hF) hO rfl
   have hI:BD ox Z K Y.H Y.V k:=⟨hd2,λi hi=>(hE i hi).le hL.le,(hR.h.le dL).le hL.le,(hR.v.le dL).le hL.le⟩
   refine (abH Z ⟨A1,c1,K,G1,g1,Y.H,Y.ch,Y.V,Y.cv⟩ k hI hC hk aj CI d hd name a dY uO h1 h2 h3 h4).mono ?_
   grind
  have:=hS.SI (i:=2) (k:=k) rfl hk
  exact this.pick (aq:=[0,1,4,2,3]) rfl rfl
 refine bU.Oz (pre:=[.abs (aF 95 10 A1 Z.ns.length c1 (bD K Z.ns)),.abs (aF 3 1 G1 Z.aE.length g1 (bH Z.aE))]) (R:=[Me Z K]) λox hL=>?_
 have hI:mA ox Z K Y.H Y.V:=by
  obtain⟨F,q1,q2⟩:=hL.get 0 rfl
  exact⟨ae1 q1 q2 rfl,λi hi=>(hE i hi).le hL.le,(hR.h.le dL).le hL.le,(hR.v.le dL).le hL.le⟩
 refine (abG Z ⟨A1,c1,K,G1,g1,Y.H,Y.ch,Y.V,Y.cv⟩ hI hC hD aj CI d hd name a dY uO YP (λh1 k h2=>aiI (λh3=>h9 ⟨k,h1,h2,λe=>h3 (.inl e),λe=>h3 (.inr e)⟩))).mono ?_
 grind
theorem OB {r:Int} (h:a.op<1\/a.op>7):mK Z r a=(Z,230):=aik h
theorem acT {r:Int} (h:¬(a.op<1\/a.op>7)) (h1:¬0<=gF Z.ns r):mK Z r a=(Z,141):=by unfold mK;rw [aij h,aij h1]
theorem T8 {r:Int} (h:¬(a.op<1\/a.op>7)) (h1:0<=gF Z.ns r) (h2:¬(nd Z.ns (bY Z.ns r)).kind=2):mK Z r a=(Z,173):=by unfold mK;rw [aij h,aik h1,aij h2]
theorem YQ {r e:Int} (h:¬(a.op<1\/a.op>7)) (h1:0<=gF Z.ns r) (h2:(nd Z.ns (bY Z.ns r)).kind=2) (hw:mX Z (bY Z.ns r) a.path=.error e):mK Z r a=(Z,e):=by unfold mK;rw [aij h,aik h1,aik h2,hw]
theorem acU {r:Int} (h:¬(a.op<1\/a.op>7)) (h1:0<=gF Z.ns r) (h2:(nd Z.ns (bY Z.ns r)).kind=2) (hw:mX Z (bY Z.ns r) a.path=.ok (d,name)) (h3:¬(eZ Z (bY Z.ns r) d name a).2=0):mK Z r a=(Z,(eZ Z (bY Z.ns r) d name a).2):=by
 grind [mK]
theorem acV {r:Int} (h:¬(a.op<1\/a.op>7)) (h1:0<=gF Z.ns r) (h2:(nd Z.ns (bY Z.ns r)).kind=2) (hw:mX Z (bY Z.ns r) a.path=.ok (d,name)) (h3:(eZ Z (bY Z.ns r) d name a).2=0):mK Z r a=((eZ Z (bY Z.ns r) d name a).1,0):=by
 grind [mK]
end s
end
section
open Go.RowKit Go.Maps bF aD
attribute [local irreducible] ar bN ak ay eH qu
theorem adU {β:Bs} (Z:RS) (Y:RL) (hR:dF β Z Y) (hC:RC Z) (hD:RD 0 Z) (aj:Int) (a:dh) (hpa:a.path.size<=1048576) (dY:a.to.size<=1048576) (uO:a.text.size<=1048576) (YP:0<=gF Z.ns aj->(nd Z.ns (bY Z.ns aj)).kind=2->∀d name,mX Z (bY Z.ns aj) a.path=.ok (d,name)->a.op=1->(bQ Z d name nF).2=0->RC (j3 Z d name nF)) :
 bU Tryz.prog β 54 #[.agg ⟨rV Z Y⟩,vI (aj),.agg #[vI (a.at_),vI (a.op),.string a.path,.string a.to,.string a.text]] [] (λβ' v l=>∃Y',v=.tuple #[.agg ⟨rV ((mK Z aj a).1) Y'⟩,vI (mK Z aj a).2]/\l=[]/\dF β' (mK Z aj a).1 Y'):=by
 refine mM Tryz.func54 Tryz.ntmps54 (λav R=>SR (jB 1 [3] (λb1=>.ax b1 (rV Z Y) 45) (λb1=>jB 1 [5] (λb2=>.ax b2 [vI (a.at_),vI (a.op),.string a.path,.string a.to,.string a.text] 68) (λb2=>jB 2 [6] (λb3=>.ax b3 (rZ) 45) (λb3=>NZ (jK 4 [16] [(1,a_ 2 b2)] (sP 16 ((a.op:Int)<(1:Int)) (λpR=>jK 4 [20] [] (NT (SR (jC 3 [7] [(0,A_ 1 b1 12),(1,A_ 3 b3 12)] [(3,(zC (rV Z Y)))] (eO [A_ 3 b3 12] av ⟨Y,by rw [OB zc]<;>rfl,rfl,by rw [OB zc];exact hR⟩))))) (λpR=>jK 4 [20] [(1,a_ 2 b2)] (NN (cP ((a.op:Int)>(7:Int)) (λpQ=>SR (jC 3 [7] [(0,A_ 1 b1 12),(1,A_ 3 b3 12)] [(3,(zC (rV Z Y)))] (eO [A_ 3 b3 12] av ⟨Y,by rw [OB zc]<;>rfl,rfl,by rw [OB zc];exact hR⟩))) (λpQ=>KX (SR (jK 3 [23,24] [(1,a_ 1 b1)] ?_)))))))))))))
 by_cases h1:0<=gF Z.ns aj
 ·have hk1:=(nE h1).1
  refine gE [] ((zA Y.A Y.c Z.ns Y.L hR.n hC.fD (by have:=hC.ns;omega) aj).val (ail (Value.int .i64) (nE h1).2.2)) (jK 1 [8] [] (NZ (jK 2 [27] [(1,wF (((((bY Z.ns aj):Nat):Int):Int)<(0:Int)))] (NF (KX (SQ (jK 8 [36] [(2,a_ 1 b1),(4,x_ (bY Z.ns aj) Z.ns.length (aN.hd hR.n (i:=(bY Z.ns aj)) zc)),(6,r_ (aN.rd hR.n (i:=(bY Z.ns aj)) zc (j:=1) rfl))] (NN (cN (((nd Z.ns (bY Z.ns aj)).kind:Int)=(2:Int)) (λEC=>SR (jC 3 [7] [(0,A_ 1 b1 12),(1,A_ 3 b3 12)] [(3,(zC (rV Z Y)))] (eO [A_ 3 b3 12] av ⟨Y,by rw [T8 zc h1 EC]<;>rfl,rfl,by rw [T8 zc h1 EC];exact hR⟩))) (λEC=>KX (SR (jK 4 [39,40,42] [(0,A_ 1 b1 12),(3,a_ 2 b2)] ?_))))))))))))
  rcases hw:mX Z (bY Z.ns aj) a.path with e|⟨d,name⟩
  ·have he:=Rw hw
   exact gE [] ((GY Z Y hR hC (bY Z.ns aj) hk1 a.path hpa).val (ail BJ hw)) (jK 7 [9,10,11] [] (NZ (jK 2 [48] [] (NN (cN ((e:Int)=(0:Int)) (λh48=>SR (jC 4 [7] [(0,A_ 1 b1 12),(2,A_ 3 b3 12)] [(3,(zC (rV Z Y)))] (eO [A_ 3 b3 12] av ⟨Y,by rw [YQ zc h1 EC hw]<;>rfl,rfl,by rw [YQ zc h1 EC hw];exact hR⟩))) (λh48=>ain (by simpa using h48) he))))))
  have hd:=T5 hk1 hw
  refine gE [] ((GY Z Y hR hC (bY Z.ns aj) hk1 a.path hpa).val (ail BJ hw)) (jK 7 [9,10,11] [] (NZ (jK 2 [48] [] (NF (KX (ak.seq (ak.tj (S:=[.ax b1 (rV Z Y) 45,.ax b2 [vI (a.at_),vI (a.op),.string a.path,.string a.to,.string a.text] 68]) (Bg [0,2,3,4,5] (oJ 10 [(false,11),(false,12)] [(false,1),(false,6),(true,7),(true,8),(true,9)])) [1,2] (gT (oJ 10 [(false,11),(false,12)] [(false,1),(false,6),(true,7),(true,8),(true,9)]) [(3,vP b1),(6,vP b3),(52,.agg ⟨rV Z Y⟩),(54,vI ↑(bY Z.ns aj)),(55,vI ↑d),(56,.string name),(57,.agg #[vI (a.at_),vI (a.op),.string a.path,.string a.to,.string a.text])] [0,2,3,4,5] [(0,A_ 0 b1 12),(4,A_ 1 b2 5)] (qu.one (j:=10) (dj:=12) (R:=λf_ l_=>∃A2:Option Addr,∃c2:Nat,∃K:eP,∃G2:Option Addr,∃g2:Nat,∃Y2:RL,f_=[(60,vI ((eZ Z (bY Z.ns aj) d name a).2)),(59,.agg ⟨rV ((eZ Z (bY Z.ns aj) d name a).1) Y2⟩),(51,.tuple #[.agg ⟨rV ((eZ Z (bY Z.ns aj) d name a).1) Y2⟩,vI ((eZ Z (bY Z.ns aj) d name a).2)]),(58,.tuple #[.agg ⟨rV ((eZ Z (bY Z.ns aj) d name a).1) Y2⟩,vI ((eZ Z (bY Z.ns aj) d name a).2)]),(53,.agg ⟨rW Z A2 c2 G2 g2 Y.H Y.ch Y.V Y.cv⟩),(3,vP b1),(6,vP b3),(52,.agg ⟨rV Z Y⟩),(54,vI ↑(bY Z.ns aj)),(55,vI ↑d),(56,.string name),(57,.agg #[vI (a.at_),vI (a.op),.string a.path,.string a.to,.string a.text])]/\l_=[.abs (kT β (λβ'=>dF β' (eZ Z (bY Z.ns aj) d name a).1 Y2))]) [1,2] [(false,1,53),(false,6,58),(true,7,51),(true,8,59),(true,9,60)] (kG.of (ι:=Nat) (v:=λ(b4:Nat)=>vP b4) (l:=λ(b4:Nat)=>[.ax b4 (rZ) 45]) [53,58,51,59,60] rfl rfl rfl rfl ?_) ?_ ?_)))))))))
  ·intro u Aq
   exact jB 1 [12] (λb4=>.ax b4 (rZ) 45) (λb4=>NL (MD b4 [12,53,58,51,59,60,3,6,52,54,55,56,57] [1,0]))
  ·refine eY.step (kG.of (ι:=(Option Addr)×Nat×eP×(Option Addr)×Nat) (v:=λ((A2,c2,K,G2,g2):(Option Addr)×Nat×eP×(Option Addr)×Nat)=>.agg ⟨rW Z A2 c2 G2 g2 Y.H Y.ch Y.V Y.cv⟩) (l:=λ((A2,c2,K,G2,g2):(Option Addr)×Nat×eP×(Option Addr)×Nat)=>[.abs (kT β (Dx Z K)),.abs (aF 95 10 A2 Z.ns.length c2 (bD K Z.ns)),.abs (aF 3 1 G2 Z.aE.length g2 (bH Z.aE)),.abs (kR (lI Z.ns K) Z.ns.length)]) [12] rfl rfl rfl rfl ?_) ?_
   ·intro u Aq
    refine gL [] (HE hR hC.toRB) ?_
    rintro _ _ ⟨A2,c2,K,G2,g2,rfl,rfl⟩
    exact NL (MD (A2,c2,K,G2,g2) [53,12,3,6,52,54,55,56,57] [0,1,2,3,4])
   rintro _ _ ⟨⟨A2,c2,K,G2,g2⟩,rfl,rfl⟩
   refine (eY.step (kG.of (ι:=RL) (v:=λ(Y2:RL)=>.tuple #[.agg ⟨rV ((eZ Z (bY Z.ns aj) d name a).1) Y2⟩,vI ((eZ Z (bY Z.ns aj) d name a).2)]) (l:=λ(Y2:RL)=>[.abs (kT β (λβ'=>dF β' (eZ Z (bY Z.ns aj) d name a).1 Y2))]) [12] rfl rfl rfl rfl ?_) ?_)
   ·intro u Aq
    exact gX [0,1,2,3] (abI (A1:=A2) (c1:=c2) (K:=K) (G1:=G2) (g1:=g2) hR hC hD hk1 hd dY uO (YP h1 EC d name hw)) (λY2=>NL (MD Y2 [58,12,53,3,6,52,54,55,56,57] [0,1]))
   rintro _ _ ⟨Y2,rfl,rfl⟩
   exact (eY.read (.tuple #[.agg ⟨rV ((eZ Z (bY Z.ns aj) d name a).1) Y2⟩,vI ((eZ Z (bY Z.ns aj) d name a).2)]) (eY.read (.agg ⟨rV ((eZ Z (bY Z.ns aj) d name a).1) Y2⟩) (eY.read (.int .i64 ((eZ Z (bY Z.ns aj) d name a).2)) ⟨A2,c2,K,G2,g2,Y2,rfl,rfl⟩)))
  rintro _ _ ⟨A2,c2,K,G2,g2,Y2,rfl,rfl⟩ _ _ ⟨b4,rfl,rfl⟩
  refine kC [3,4] [] [(0,A_ 1 b4 12)] [(1,(zC (rV ((eZ Z (bY Z.ns aj) d name a).1) Y2)))] (eH.last KB (jK 1 [11] [] (NL (ay.np (NX (SQ (ar.ux 0 [1,2,3,4,5] (eX:=[.ax b4 (rV ((eZ Z (bY Z.ns aj) d name a).1) Y2) 45,.abs R,.ax b1 (rV Z Y) 45,.ax b2 [vI (a.at_),vI (a.op),.string a.path,.string a.to,.string a.text] 68,.ax b3 (rZ) 45]) rfl rfl KB (λKR kg uq=>?_))))))))
  replace hR:=hR.le kg
  replace av:=av.trans kg
  exact jK 2 [62] [] (NN (cN (((eZ Z (bY Z.ns aj) d name a).2:Int)=(0:Int)) (λG7=>SR (jC 4 [7] [(0,A_ 2 b1 12),(2,A_ 4 b3 12)] [(4,(zC (rV Z Y)))] (eO [A_ 4 b3 12] av ⟨Y,by rw [acU zc h1 EC hw G7]<;>rfl,rfl,by rw [acU zc h1 EC hw G7];exact hR⟩ [1]))) (λG7=>KX (SR (jC 3 [7] [(0,A_ 0 b4 12),(1,A_ 4 b3 12)] [(4,(zC (rV ((eZ Z (bY Z.ns aj) d name a).1) Y2)))] (eO [A_ 4 b3 12] av ⟨Y2,by rw [acV zc h1 EC hw G7]<;>rfl,rfl,by rw [acV zc h1 EC hw G7];exact uq⟩ [1]))))))
 exact gE [] ((zA Y.A Y.c Z.ns Y.L hR.n hC.fD (by have:=hC.ns;omega) aj).val (ail (Value.int .i64) (Dg h1))) (jK 1 [8] [] (NZ (jK 2 [27] [] (NT (SR (jC 3 [7] [(0,A_ 1 b1 12),(1,A_ 3 b3 12)] [(3,(zC (rV Z Y)))] (eO [A_ 3 b3 12] av ⟨Y,by rw [acT zc h1]<;>rfl,rfl,by rw [acT zc h1];exact hR⟩)))))))
end
section
open Go.RowKit Go.Maps bF aD
section g
variable {R:RS} {d k to f:Nat} {name aB:ByteArray} {n:aL} {c:aH} {b:Bool} {id:Int}
theorem adV {top:Nat} {a:dh} (h:GL R) (hn:R.ns.length<=4096):GL (eZ R top d name a).1:=by
 grind [eZ,TW,Rk,Rl,Rm]
theorem afJ {aj:Int} {a:dh} (h:GL R) (hn:R.ns.length<=4096):GL (mK R aj a).1:=by
 grind [mK,adV,GL]
end g
section p
variable {S S2:br} {g:List Int} {β:Bs} {Y:RL}
theorem Pair.agD (h:Pair S g) {aj:Int} {a:dh} {d:Nat} {name:ByteArray} (h1:0<=gF (toR S g).ns aj) (hk:(nd (toR S g).ns (bY (toR S g).ns aj)).kind=2) (hw:mX (toR S g) (bY (toR S g).ns aj) a.path=.ok (d,name)) (hm:(bQ (toR S g) d name nF).2=0):RC (j3 (toR S g) d name nF):=by
 have hr:=h.toRelR
 have hI:=hr.inv.toInv0
 have ha:gF (toR S g).ns aj=_:=Q9 hI aj
 cases e:aD.get S.aq aj with
 |none=>
   grind
 |some t=>
   rw [e] at ha
   replace ha:gF (toR S g).ns aj=(bT S t:Int):=ha
   obtain⟨hl,_⟩:=Jk hI e
   have CC:bY (toR S g).ns aj=bT S t:=by unfold bY;rw [ha];exact aiO _
   have h2:t.kind=2:=by rw [CC,nM hI hl] at hk;exact hk
   have ht:t=⟨t.k,2⟩:=by rw [←h2]
   have hl2:aQ S.aq ⟨t.k,2⟩:=by rw [←ht];exact hl
   rw [CC,ht,Jp hr hl2] at hw
   rcases yU hr.inv hl2 a.path with ⟨e,h,he⟩|⟨d',name',h',hd,mr,j7⟩
   ·rw [h] at hw;cases hw
   rw [h'] at hw
   cases hw
   rcases x6 (n:=nF) hr hd name (λq=>ain (show (1:Int)=3 from q.1) Pd) with ⟨q1,q2⟩|⟨q1,q2⟩
   ·obtain⟨hA,hG⟩:=GW (name:=name) (o:=cM S.X 1 420) (n:=nF) hr hd ⟨rfl,rfl,rfl,rfl,rfl⟩ ⟨rfl,rfl,rfl,rfl,rfl,rfl,rfl⟩
    have di:bO (fY S d' name (cM S.X 1 420)):=hr.inv.Gz hd mr j7 q1 (.inl rfl) ⟨Pd,Pd⟩ (.inl ⟨Pd,rfl⟩)
    rw [hA]
    exact acN ⟨di,hG⟩ h.gl
   rw [q2] at hm;exact ain hm q1
theorem Pair.act (h:Pair S g) (aj:Int) (a:dh):∃g',mK (toR S g) aj a=(toR (cK S aj a).2 g',(cK S aj a).1)/\Pair (cK S aj a).2 g':=by
 obtain⟨g',h1,h2⟩:=adR h.toRelR aj a
 have h3:GL (toR S g):=h.gl
 have h4:=afJ (aj:=aj) (a:=a) h3 (by have h5:=h.inv.toInv0.len;grind [toR,ic])
 rw [h1] at h4
 exact⟨g',h1,h2,h4⟩
theorem abJ (h:Pair S g) (hR:dF β (toR S g) Y) (aj:Int) (a:dh) (hpa:a.path.size<=1048576) (dY:a.to.size<=1048576) (uO:a.text.size<=1048576) :
 bU Tryz.prog β 54 #[.agg ⟨rV (toR S g) Y⟩,.int .i64 aj,.agg #[.int .i64 a.at_,.int .i64 a.op,.string a.path,.string a.to,.string a.text]] [] (λβ' v l=>∃g' Y',v=.tuple #[.agg ⟨rV (toR (cK S aj a).2 g') Y'⟩,.int .i64 (cK S aj a).1]/\l=[]/\Pair (cK S aj a).2 g'/\dF β' (toR (cK S aj a).2 g') Y'):=by
 obtain⟨g',h1,h2⟩:=h.act aj a
 refine (adU (toR S g) Y hR h.rc h.rd aj a hpa dY uO (λq1 q2 d name hw _ hm=>h.agD q1 q2 hw hm)).mono ?_
 grind
end p
structure UL where
 A:Option Addr
 a:Nat
 B:Option Addr
 b:Nat
def uV (Z:RS) (Y:RL) (aj:Int) (U:UL) (nf na:Nat) (n:Int):List Value:=rV Z Y++[.int .i64 aj,.slice U.A nf U.a,.slice U.B na U.b,.int .i64 n]
def uZ:List Value:=rZ++[.int .i64 0,.slice none 0 0,.slice none 0 0,.int .i64 0]
structure KW (β:Bs) (U:UL) (fs:List cL) (xs:List dh):Prop where
 f:cA β U.A (cI jg fs)
 x:cA β U.B (cI kA xs)
theorem KW.le {β β':Bs} {U:UL} {fs:List cL} {xs:List dh} (h:KW β U fs xs) (g:β.le β'):KW β' U fs xs:=⟨h.f.le g,h.x.le g⟩
section u
variable {S S2:br} {g:List Int} {fs:List cL} {xs:List dh} {aj z k:Int} {j n:Nat} {c c2:aH} {A:Option Addr} {p:Nat}
theorem VQ (h:j<xs.length) (e:(act xs j).at_=z):kW aj S (dN (xs.take (j+1)) z)=(cK (kW aj S (dN (xs.take j) z)) aj (act xs j)).2:=by
 rw [D8 h,xX,aik e,Ka]
theorem VR (h:j<xs.length) (e:¬(act xs j).at_=z):kW aj S (dN (xs.take (j+1)) z)=kW aj S (dN (xs.take j) z):=by
 rw [D8 h,xX,aij e]
theorem Ew (h:j<fs.length) (h0:iQ (fs.take j) z=0) (e:¬((pX fs j).at_=z/\FK (pX fs j))):iQ (fs.take (j+1)) z=0:=by
 rw [xw h,ug,aik h0,aij e]
theorem VS (h:iQ fs z≠0) (gs:List cL):iQ (fs++gs) z=iQ fs z:=by
 induction fs with
 |nil=>exact ain rfl h
 |cons f r ih=>
   show (if f.at_=z/\FK f then f.kind else iQ (r++gs) z)=(if f.at_=z/\FK f then f.kind else iQ r z)
   split
   ·rfl
   rename_i e
   exact ih (λq=>h ((aij e).trans q))
theorem YR (h:j<fs.length) (h0:iQ (fs.take j) z=0) (e:(pX fs j).at_=z/\FK (pX fs j)):iQ fs z=(pX fs j).kind:=by
 have h1:iQ (fs.take (j+1)) z=(pX fs j).kind:=by rw [xw h,ug,aik h0,aik e]
 have h2:iQ (fs.take (j+1)) z≠0:=by have:=e.2.1;omega
 have h3:=VS h2 (fs.drop (j+1))
 rw [List.take_append_drop] at h3
 rw [h3,h1]
theorem YS (h:¬j<fs.length) (h0:iQ (fs.take j) z=0):iQ fs z=0:=by
 rwa [ai4 zc] at h0
end u
section p
variable {S S2:br} {g:List Int} {β:Bs} {Y:RL} {c c2:aH}
theorem abK (h:Pair S g) (hR:dF β (toR S g) Y) (aj:Int) (a:dh) (hpa:a.path.size<=1048576) (dY:a.to.size<=1048576) (uO:a.text.size<=1048576) :
 aU Tryz.prog β 54 #[.agg ⟨rV (toR S g) Y⟩,.int .i64 aj,.agg #[.int .i64 a.at_,.int .i64 a.op,.string a.path,.string a.to,.string a.text]] [] (λv l=>∃g' Y',v=.tuple #[.agg ⟨rV (toR (cK S aj a).2 g') Y'⟩,.int .i64 (cK S aj a).1]/\l=[.abs (kT β (λβ'=>Pair (cK S aj a).2 g'/\dF β' (toR (cK S aj a).2 g') Y'))]):=
 (bU.Ke (ι:=List Int×RL) (vv:=λx=>.tuple #[.agg ⟨rV (toR (cK S aj a).2 x.1) x.2⟩,.int .i64 (cK S aj a).1]) (ll:=λ_=>[]) (Φ:=λx β'=>Pair (cK S aj a).2 x.1/\dF β' (toR (cK S aj a).2 x.1) x.2)
  ((abJ h hR aj a hpa dY uO).mono (by rintro β' v l _ ⟨g',Y',rfl,rfl,h1,h2⟩;exact⟨(g',Y'),rfl,rfl,h1,h2⟩))).mono (by rintro v l ⟨⟨g',Y'⟩,rfl,rfl⟩;exact⟨g',Y',rfl,rfl⟩)
theorem Mj {xs:List dh} {j:Nat} (h:j<xs.length):act xs j∈xs:=by
 unfold act
 rw [aiS,aiy h]
 exact List.getElem_mem h
variable {aj e k:Int} {A:Option Addr}
theorem VT:(ct aj c).name=c.name:=by unfold ct;split<;>rfl
theorem VU:(ct aj c).text=c.text:=by unfold ct;split<;>rfl
theorem abL:(ct aj c).dA=c.dA:=by unfold ct;split<;>rfl
theorem abM:(ct aj c).dC=c.dC:=by unfold ct;split<;>rfl
theorem abN {d:List UInt8} (h:c.data=d):({c with data:=d}:aH)=c:=by subst h;rfl
theorem VW (h:gj S c=(S2,c2)):c2.data=c.data:=by
 have h1:=PW (S:=S) (c:=c)
 rwa [h] at h1
theorem qq.rowAt {β':Bs} {R:List HP} {T:TypeId} {s n cp:Nat} {xs:List Value} (h:qq β R β') (i:Nat) (hp:R[i]?=some (.abs (aF T s A n cp xs))):cA β' A xs:=by
 obtain⟨F,h1,h2⟩:=h.get i hp
 exact cA.iM h1 h2 rfl
end p
end
section
open Go.RowKit Go.Maps bF aD
attribute [local irreducible] ar bN ak ay eH qu
noncomputable abbrev yR1 (c:aH) (B) (p) (e):=([(0,vI (c.op)),(1,vI (c.aG)),(3,.string c.name),(4,.string c.text),(5,.slice B (c.data.length) (p)),(11,vI (e))]:Fr)
theorem YT {β:Bs} (Z:RS) (Y:RL) (aj:Int) (U:UL) (fs:List cL) (na k:Nat) (hk:k<=1048576) (hF:cA β U.A (cI jg fs)) (hfl:fs.length<=2097152) {kf:Int} (Co:iQ fs ((k+1:Nat):Int)=kf) :
 aU Tryz.prog β 34 #[.agg ⟨uV Z Y aj U fs.length na ((k:Nat):Int)⟩] [] (λv l=>v=vI kf/\l=[]):=by
 subst Co
 refine SE Tryz.func34 Tryz.ntmps34 (λR=>SR (jB 2 [1] (λb1=>.ax b1 (uV Z Y aj U fs.length na (↑k)) 47) (λb1=>NZ (jK 1 [3] [] (NN (ak.block (lJ (ι:=Nat) (λ(j:Nat)=>(j<=fs.length)/\(iQ (fs.take j) ((k+1:Nat):Int)=0)) (λ(j:Nat)=>fs.length-j) (λ(j:Nat)=>[(1,vP b1),(3,vI ↑j)]) (λ(j:Nat)=>[.abs R,.ax b1 (uV Z Y aj U fs.length na (↑k)) 47]) 0 [0,1] (⟨aio _,rfl⟩) ?_)))))))
 rintro j ⟨hj,h0⟩
 exact SQ (jK 6 [10] [(3,a_ 1 b1)] (NN (cP ((((j:Nat):Int):Int)<(((fs.length:Nat):Int):Int)) (λh10=>KX (ak.seq (ak.block (SR (jN 8 [4] (λb2=>[(2,a_ 1 b1),(4,x_ j fs.length (ab7 hF (i:=j) zc)),(5,r2 (Ot hF (i:=j) zc (j:=0) rfl) (Ot hF (i:=j) zc (j:=1) rfl)),(7,A_ 2 b2 2)]) (λ_=>[]) (λb2=>.ax b2 [vI ((pX fs j).at_),vI ((pX fs j).kind)] 66) (λb2=>NS (jK 7 [25] [(1,a_ 2 b2),(3,a_ 1 b1),(4,wJ ((k:Int)+1) (↑(k+1)))] (sP 25 (((pX fs j).at_:Int)=(((k+1:Nat):Int):Int)) (λqi=>jK 5 [30] [(1,a_ 2 b2)] (sP 30 (((pX fs j).kind:Int)>=(1:Int)) (λnX=>jK 4 [34] [(1,a_ 2 b2)] (NN (cP (((pX fs j).kind:Int)<=(3:Int)) (λyw=>SR (jK 3 [2] [(1,a_ 2 b2)] (eN (v:=(vI ((pX fs j).kind))) ⟨ail (Value.int .i64) (YR zc h0 ⟨zc,zc,zc⟩).symm,rfl⟩))) (λyw=>KX (ak.region (jK 3 [3] [(1,wJ ((j:Int)+1) (↑(j+1)))] (NL (tJ ((j+1)) [0,1] (⟨zc,Ew zc h0 (by unfold FK;omega)⟩))))))))) (λnX=>jK 4 [34] [] (NF (KX (ak.region (jK 3 [3] [(1,wJ ((j:Int)+1) (↑(j+1)))] (NL (tJ ((j+1)) [0,1] (⟨zc,Ew zc h0 (by unfold FK;omega)⟩)))))))))) (λqi=>jK 9 [34] [] (NF (KX (ak.region (jK 3 [3] [(1,wJ ((j:Int)+1) (↑(j+1)))] (NL (tJ ((j+1)) [0,1] (⟨zc,Ew zc h0 (by unfold FK;omega)⟩)))))))))))))))) (λh10=>XX (zR (v:=(vI 0)) ⟨ail (Value.int .i64) (YS zc h0).symm,rfl⟩)))))
theorem C0 {β:Bs} (c:aH) (hb:bp β c.dA c.data) (hl:c.data.length<=140737488355328) (e:Int) :
 aU Tryz.prog β 36 #[.agg ⟨aO c⟩,vI (e)] [] (λv l=>∃B p,v=.agg ⟨aO (gP (iR c e) B p)⟩/\l=[.abs (aF 5 1 B c.data.length p (dQ c.data))]):=by
 refine SE Tryz.func36 Tryz.ntmps36 (λR=>SR (jB 1 [2] (λb3=>.ax b3 (aO c) 53) (λb3=>jB 1 [4] (λb4=>.ax b4 [vI 0,vI 0,vI 0,.string ⟨#[]⟩,.string ⟨#[]⟩,.slice none (0) (0),vI 0,vI 0,vI 0,vI 0,vI 0,vI 0,vI 0] 53) (λb4=>NS (jK 2 [6] [(1,a_ 1 b3)] (gL [] (sZ c.dA c.dC c.data hb hl) ?_))))))
 rintro _ _ ⟨B,p,rfl,rfl⟩
 exact jC 2 [] [(1,a_ 2 b3)] [(2,[(5,.slice B (c.data.length) (p))])] (NS (jC 2 [] [(1,a_ 2 b3)] [(2,[(12,vI 0)])] (NS (jC 3 [] [(2,a_ 2 b3)] [(2,[(11,vI (e))])] (NZ (jK 4 [15] [(1,a_ 2 b3)] (sP 15 ((c.op:Int)=(11:Int)) (λO3=>jK 4 [19] [] (NT (SR (jC 8 [] [(1,a_ 2 b3),(3,a_ 2 b3),(5,a_ 2 b3),(7,a_ 2 b3)] [(2,[(2,vI 0),(6,vI 0),(7,vI 0),(8,vI 0)])] (NN (ak.region (jC 3 [] [(2,A_ 2 b3 2)] [(2,[(9,vI 0),(10,vI 0)])] (NS (jC 2 [] [(0,A_ 2 b3 13),(1,A_ 3 b4 13)] [(3,(yR1 c B p e))] (eS (v:=(.agg ⟨aO (gP {c with other:=0,mode:=0,bg:=0,bh:=0,aT:=0,aJ:=0,code:=e,answer:=0} B p)⟩)) [A_ 3 b4 13] ⟨B,p,ail (λx=>Value.agg ⟨aO x⟩) (show _=gP (iR c e) B p by unfold iR;rw [aik zc]<;>rfl),rfl⟩)))))))))) (λO3=>jK 4 [19] [(1,a_ 2 b3)] (NN (cP ((c.op:Int)=(12:Int)) (λG9=>SR (jC 8 [] [(1,a_ 2 b3),(3,a_ 2 b3),(5,a_ 2 b3),(7,a_ 2 b3)] [(2,[(2,vI 0),(6,vI 0),(7,vI 0),(8,vI 0)])] (NN (ak.region (jC 3 [] [(2,A_ 2 b3 2)] [(2,[(9,vI 0),(10,vI 0)])] (NS (jC 2 [] [(0,A_ 2 b3 13),(1,A_ 3 b4 13)] [(3,(yR1 c B p e))] (eS (v:=(.agg ⟨aO (gP {c with other:=0,mode:=0,bg:=0,bh:=0,aT:=0,aJ:=0,code:=e,answer:=0} B p)⟩)) [A_ 3 b4 13] ⟨B,p,ail (λx=>Value.agg ⟨aO x⟩) (show _=gP (iR c e) B p by unfold iR;rw [aik zc]<;>rfl),rfl⟩)))))))) (λG9=>KX (SR (jC 2 [] [(0,A_ 2 b3 13),(1,A_ 3 b4 13)] [(3,[(0,vI (c.op)),(1,vI (c.aG)),(2,vI (c.other)),(3,.string c.name),(4,.string c.text),(5,.slice B (c.data.length) (p)),(6,vI (c.mode)),(7,vI (c.bg)),(8,vI (c.bh)),(9,vI (c.aT)),(10,vI (c.aJ)),(11,vI (e))])] (eS (v:=(.agg ⟨aO (gP {c with code:=e,answer:=0} B p)⟩)) [A_ 3 b4 13] ⟨B,p,ail (λx=>Value.agg ⟨aO x⟩) (show _=gP (iR c e) B p by unfold iR;rw [aij zc]<;>rfl),rfl⟩))))))))))))))
theorem YU {β:Bs} {S:br} {g:List Int} (hp:Pair S g) (Y:RL) (hR:dF β (toR S g) Y) (aj:Int) (U:UL) (nf:Nat) (xs:List dh) (k:Nat) (hk:k<=1048576) (hA:cA β U.B (cI kA xs)) (hX:jq xs 1048576) {SW:br} (hSW:kW aj S (dN xs ((k+1:Nat):Int))=SW) :
 bU Tryz.prog β 33 #[.agg ⟨uV (toR S g) Y aj U nf xs.length ((k:Nat):Int)⟩] [] (λβ' v l=>∃g' Y',v=.agg ⟨uV (toR SW g') Y' aj U nf xs.length ((k:Nat):Int)⟩/\l=[]/\Pair SW g'/\dF β' (toR SW g') Y'):=by
 subst hSW
 have hxl:=hX.len
 refine mM Tryz.func33 Tryz.ntmps33 (λav R=>SR (jB 1 [1] (λb5=>.ax b5 (uV (toR S g) Y aj U nf xs.length (↑k)) 47) (λb5=>jB 1 [2] (λb6=>.ax b6 (uZ) 47) (λb6=>NZ (jK 1 [3] [] (NN (ak.block (lB (ι:=Nat×Bs×br×(List Int)×RL) (λ(j,b,S2,g2,Y2)=>b) (λ(j,b,S2,g2,Y2)=>(j<=xs.length)/\(β.le b)/\(cA b U.B (cI kA xs))/\(Pair S2 g2)/\(dF b (toR S2 g2) Y2)/\(S2=kW aj S (dN (xs.take j) ((k+1:Nat):Int)))) (λ(j,b,S2,g2,Y2)=>xs.length-j) (λ(j,b,S2,g2,Y2)=>[(1,vP b5),(2,vP b6),(3,vI ↑j)]) (λ(j,b,S2,g2,Y2)=>[.ax b5 (uV (toR S2 g2) Y2 aj U nf xs.length (↑k)) 47,.ax b6 (uZ) 47,.abs R]) (0,β,S,g,Y) [1,2,0] (⟨aio _,av,hA,hp,hR,rfl⟩) ?_))))))))
 rintro⟨j,b,S2,g2,Y2⟩ ⟨hj,av,hA,hp,hR,hS⟩
 refine SQ (jK 6 [11] [(3,a_ 0 b5)] (NN (cP ((((j:Nat):Int):Int)<(((xs.length:Nat):Int):Int)) (λh11=>KX (ak.seq (ak.block (ak.seq (rQ (jQ 11 [24] [(2,a_ 0 b5),(4,x_ j xs.length (Oq hA (i:=j) zc)),(6,r_ (rz hA (i:=j) zc (j:=0) rfl)),(8,a_ 0 b5),(9,wJ ((k:Int)+1) (↑(k+1)))] (NQ (NX (cP (((act xs j).at_:Int)=(((k+1:Nat):Int):Int)) (λrY=>ak.seq (ak.tj (S:=[.ax b5 (uV (toR S2 g2) Y2 aj U nf xs.length (↑k)) 47,.ax b6 (uZ) 47]) (Bg [0,1,2,3,4,5,6,7,8,9] (oJ 14 [(false,15),(false,16)] [(false,10),(true,11),(true,12),(true,13)])) [0,1] (gT (oJ 14 [(false,15),(false,16)] [(false,10),(true,11),(true,12),(true,13)]) [(1,vP b5),(2,vP b6),(3,vI ↑j),(27,.agg ⟨rV (toR S2 g2) Y2⟩),(29,vI (aj)),(35,.agg #[vI ((act xs j).at_),vI ((act xs j).op),.string (act xs j).path,.string (act xs j).to,.string (act xs j).text])] [0,1,2,3,4,5,6,7,8,9] [(1,A_ 0 b5 12),(3,a_ 0 b5),(6,a_ 0 b5),(8,x_ j xs.length (Oq hA (i:=j) zc)),(9,p_ ⟨[.old (.int .i64 ((act xs j).at_)),.old (.int .i64 ((act xs j).op)),.old (.string (act xs j).path),.old (.string (act xs j).to),.old (.string (act xs j).text)],none,none,none,none⟩ [(Rd b ⟨(bG U.B),bE U.B+j*5+4,none⟩ (.string (act xs j).text)),(Rd b ⟨(bG U.B),bE U.B+j*5+3,none⟩ (.string (act xs j).to)),(Rd b ⟨(bG U.B),bE U.B+j*5+2,none⟩ (.string (act xs j).path)),(Rd b ⟨(bG U.B),bE U.B+j*5+1,none⟩ (vI ((act xs j).op))),(Rd b ⟨(bG U.B),bE U.B+j*5,none⟩ (vI ((act xs j).at_)))] ⟨rz hA (i:=j) zc (j:=4) rfl,rz hA (i:=j) zc (j:=3) rfl,rz hA (i:=j) zc (j:=2) rfl,rz hA (i:=j) zc (j:=1) rfl,rz hA (i:=j) zc (j:=0) rfl,trivial⟩)] (qu.one (j:=14) (dj:=4) (R:=λf_ l_=>∃g3:List Int,∃Y3:RL,f_=[(38,vI ((cK S2 aj (act xs j)).1)),(37,.agg ⟨rV (toR (cK S2 aj (act xs j)).2 g3) Y3⟩),(25,.tuple #[.agg ⟨rV (toR (cK S2 aj (act xs j)).2 g3) Y3⟩,vI ((cK S2 aj (act xs j)).1)]),(36,.tuple #[.agg ⟨rV (toR (cK S2 aj (act xs j)).2 g3) Y3⟩,vI ((cK S2 aj (act xs j)).1)]),(1,vP b5),(2,vP b6),(3,vI ↑j),(27,.agg ⟨rV (toR S2 g2) Y2⟩),(29,vI (aj)),(35,.agg #[vI ((act xs j).at_),vI ((act xs j).op),.string (act xs j).path,.string (act xs j).to,.string (act xs j).text])]/\l_=[.abs (kT b (λβ'=>Pair (cK S2 aj (act xs j)).2 g3/\dF β' (toR (cK S2 aj (act xs j)).2 g3) Y3))]) [0,1] [(false,10,36),(true,11,25),(true,12,37),(true,13,38)] (kG.of (ι:=Nat) (v:=λ(b7:Nat)=>vP b7) (l:=λ(b7:Nat)=>[.ax b7 (rZ) 45]) [36,25,37,38] rfl rfl rfl rfl ?_) ?_ ?_)))) (λrY=>KX (ak.region (jK 3 [3] [(1,wJ ((j:Int)+1) (↑(j+1)))] (NL (tB ((j+1),b,S2,g2,Y2) [0,1,2] (⟨zc,av,hA,hp,hR,by rw [hS,VR zc zc]⟩))))))))))))))) (λh11=>XX (SR (jC 2 [] [(0,A_ 0 b5 16),(1,A_ 1 b6 16)] [(1,(zC (uV (toR S2 g2) Y2 aj U nf xs.length (↑k))))] (eO (v:=(.agg ⟨uV (toR S2 g2) Y2 aj U nf xs.length (↑k)⟩)) [A_ 1 b6 16] av (by rw [ai4 (show xs.length<=j by omega)] at hS;subst hS;exact⟨g2,Y2,rfl,rfl,hp,hR⟩) [2])))))))
 ·intro u Aq
  exact jB 1 [4] (λb7=>.ax b7 (rZ) 45) (λb7=>NL (MD b7 [4,36,25,37,38,1,2,3,27,29,35] [1,0]))
 ·refine eY.step (kG.of (ι:=(List Int)×RL) (v:=λ((g3,Y3):(List Int)×RL)=>.tuple #[.agg ⟨rV (toR (cK S2 aj (act xs j)).2 g3) Y3⟩,vI ((cK S2 aj (act xs j)).1)]) (l:=λ((g3,Y3):(List Int)×RL)=>[.abs (kT b (λβ'=>Pair (cK S2 aj (act xs j)).2 g3/\dF β' (toR (cK S2 aj (act xs j)).2 g3) Y3))]) [4] rfl rfl rfl rfl ?_) ?_
  ·intro u Aq
   refine gL [] (abK hp hR aj (act xs j) (hX.q _ (Mj (show j<xs.length by omega))).path (hX.q _ (Mj (show j<xs.length by omega))).to (hX.q _ (Mj (show j<xs.length by omega))).text) ?_
   rintro _ _ ⟨g3,Y3,rfl,rfl⟩
   exact NL (MD (g3,Y3) [36,4,1,2,3,27,29,35] [0,1])
  rintro _ _ ⟨⟨g3,Y3⟩,rfl,rfl⟩
  exact eY.read (.tuple #[.agg ⟨rV (toR (cK S2 aj (act xs j)).2 g3) Y3⟩,vI ((cK S2 aj (act xs j)).1)]) (eY.read (.agg ⟨rV (toR (cK S2 aj (act xs j)).2 g3) Y3⟩) (eY.read (.int .i64 ((cK S2 aj (act xs j)).1)) ⟨g3,Y3,rfl,rfl⟩))
 rintro _ _ ⟨g3,Y3,rfl,rfl⟩ _ _ ⟨b7,rfl,rfl⟩
 refine kC [2,3] [] [(0,A_ 1 b7 12)] [(1,(zC (rV (toR (cK S2 aj (act xs j)).2 g3) Y3)))] (eH.last KB (jK 1 [] [] (NL (ay.np (NX (ak.region (ar.ux 0 [1,2,3,4] (eX:=[.ax b7 (rV (toR (cK S2 aj (act xs j)).2 g3) Y3) 45,.ax b5 (uV (toR S2 g2) Y2 aj U nf xs.length (↑k)) 47,.ax b6 (uZ) 47,.abs R]) rfl rfl KB (λQA oW ⟨hp3,mF⟩=>?_))))))))
 replace hA:=hA.le oW
 replace av:=av.trans oW
 exact jC 3 [] [(0,A_ 0 b7 12),(2,A_ 1 b5 12)] [(1,(zC (rV (toR (cK S2 aj (act xs j)).2 g3) Y3)))] (LX (ak.region (jK 3 [3] [(1,wJ ((j:Int)+1) (↑(j+1)))] (NL (tB ((j+1),QA,(cK S2 aj (act xs j)).2,g3,Y3) [1,2,3] (⟨zc,av,hA,hp3,mF,by rw [hS,VQ zc zc]⟩))))))
end
section
open Go.RowKit Go.Maps bF aD
attribute [local irreducible] ar bN ak ay bZ
noncomputable abbrev yS1 (b4:Nat):=(.ax b4 [vI 0,vI 0,vI 0,.string ⟨#[]⟩,.string ⟨#[]⟩,.slice none (0) (0),vI 0,vI 0,vI 0,vI 0,vI 0,vI 0,vI 0] 53:HP)
noncomputable abbrev YV (B3)(aj)(c)(p3):=(.abs (aF 5 1 B3 ((ct aj c).data.length) p3 (dQ (ct aj c).data)):HP)
noncomputable abbrev yS3 (cx:aH) (B3) (aj) (c) (p3):=([(0,vI (cx.op)),(1,vI (cx.aG)),(2,vI (cx.other)),(3,.string cx.name),(4,.string cx.text),(5,.slice B3 ((ct aj c).data.length) (p3)),(6,vI (cx.mode)),(7,vI (cx.bg)),(8,vI (cx.bh)),(9,vI (cx.aT)),(10,vI (cx.aJ)),(11,vI (cx.code)),(12,vI (cx.answer))]:Fr)
noncomputable abbrev yS4 (b1:Nat) (b2:Nat) (b3:Nat) (b4:Nat):=([(2,vP b1),(3,vP b2),(4,vP b3),(5,vP b4)]:Fr)
theorem abO {β:Bs} {S S2:br} {g:List Int} {c c2:aH} (hp:Pair S g) (Y:RL) (hR:dF β (toR S g) Y) (aj:Int) (U:UL) (fs:List cL) (xs:List dh) (k:Nat) (hk:k<=1048576) (hF:cA β U.A (cI jg fs)) (hfl:fs.length<=2097152) (hA:cA β U.B (cI kA xs)) (hX:jq xs 1048576) (hD:gM fs xs aj (k+1) S c=(S2,c2)) (hn:c.name.size<=1048576) (ht:c.text.size<=1048576) (hb:bp β c.dA c.data) (hl:c.data.length<=140737488355328) (hc:c.data.length<=c.dC) :
 bU Tryz.prog β 10 #[.agg ⟨uV (toR S g) Y aj U fs.length xs.length ((k:Nat):Int)⟩,.agg ⟨aO c⟩] [] (λβ' v l=>∃g' Y' B p,v=.tuple #[.agg ⟨uV (toR S2 g') Y' aj U fs.length xs.length (((k+1):Nat):Int)⟩,.agg ⟨aO (gP c2 B p)⟩]/\l=[]/\Pair S2 g'/\dF β' (toR S2 g') Y'/\bp β' B c2.data):=by
 have hwn:(ct aj c).name.size<=1048576:=by rw [VT];exact hn
 have Jt:(ct aj c).text.size<=1048576:=by rw [VU];exact ht
 have vH:bp β (ct aj c).dA (ct aj c).data:=by rw [abL,zK];exact hb
 have hwl:(ct aj c).data.length<=140737488355328:=by rw [zK];exact hl
 have hwc:(ct aj c).data.length<=(ct aj c).dC:=by rw [zK,abM];exact hc
 obtain⟨SW,hSW⟩:∃q,kW aj S (dN xs ((k+1:Nat):Int))=q:=⟨_,rfl⟩
 obtain⟨kf,Co⟩:∃q,iQ fs ((k+1:Nat):Int)=q:=⟨_,rfl⟩
 replace hD:dW kf SW (ct aj c)=(S2,c2):=by rw [←Co,←hSW];exact hD
 refine mM Tryz.func10 Tryz.ntmps10 (λav R=>SR (jB 1 [2] (λb1=>.ax b1 (uV (toR S g) Y aj U fs.length xs.length (↑k)) 47) (λb1=>jB 1 [3] (λb2=>.ax b2 (aO c) 53) (λb2=>jB 1 [4] (λb3=>.ax b3 (uZ) 47) (λb3=>jB 1 [5] (λb4=>.ax b4 [vI 0,vI 0,vI 0,.string ⟨#[]⟩,.string ⟨#[]⟩,.slice none (0) (0),vI 0,vI 0,vI 0,vI 0,vI 0,vI 0,vI 0] 53) (λb4=>NS (jK 1 [12] [(0,A_ 1 b1 16)] (gu [] (YU hp Y hR aj U fs.length xs k hk hA hX hSW) ?_))))))))
 rintro KR _ _ kg ⟨g1,Y1,rfl,rfl,hp1,uQ⟩
 replace hF:=hF.le kg
 replace vH:=vH.le kg
 replace av:=av.trans kg
 refine jC 1 [] [(0,A_ 1 b1 16)] [(1,(zC (rV (toR SW g1) Y1)))] (NS (jK 1 [14] [(0,A_ 1 b1 16)] (gE [] (YT (toR SW g1) Y1 aj U fs xs.length k hk hF hfl Co) (jK 1 [6] [] (NS (jC 5 [] [(1,a_ 1 b1),(2,wJ ((k:Int)+1) (↑(k+1))),(4,a_ 1 b1)] [(1,[(15,vI ↑(k+1))])] (NN (ak.join (ι:=Unit) (λ(u:Unit)=>True) (λ(u:Unit)=>(yS4 b1 b2 b3 b4++[(6,vI (kf))])) (λ(u:Unit)=>[.abs R,.ax b1 (uV (toR SW g1) Y1 aj U fs.length xs.length (↑(k+1))) 47,pC b2 (ct aj c),.ax b3 (uZ) 47,yS1 b4]) ?_ (SR (jK 3 [22] [(1,a_ 2 b2)] (NN (cP ((c.op:Int)=(1:Int)) (λsU=>ak.region (jC 4 [] [(1,a_ 1 b1),(3,a_ 2 b2)] [(2,[(2,vI (aj))])] (NL (ay.gA [(2,.ax b2 (aO (ct aj c)) 53)] (λw hS=>by rw [show (ct aj c)={c with other:=aj} from aik sU];exact hS) (mJ () [0,1,2,3,4] (trivial)))))) (λsU=>ak.skip (ay.gA [(2,.ax b2 (aO (ct aj c)) 53)] (λw hS=>by rw [show (ct aj c)=c from aij sU];exact hS) (mJ () [0,1,2,3,4] (trivial))))))))))))))))
 rintro u _
 refine SQ (jK 2 [27] [] (NN (cP ((kf:Int)=(1:Int)) (λyt=>?_) (λyt=>?_))))
 ·refine SQ (jK 3 [30] [(1,a_ 2 b2)] (NN (cP (((ct aj c).op:Int)=(13:Int)) (λnX=>?_) (λnX=>?_))))
  ·refine SR (jK 3 [33,34] [(1,A_ 1 b1 12),(2,A_ 2 b2 13)] ?_)
   obtain⟨Sx,cx,KY⟩:∃S2 c2,gj SW (ct aj c)=(S2,c2):=⟨_,_,rfl⟩
   refine gu [] (Gf hp1 uQ KY hwn Jt vH hwl hwc) ?_
   rintro XD _ _ vS ⟨g2,Y2,B2,p2,rfl,rfl,hp2,uq,Ky⟩
   replace vH:=vH.le vS
   replace av:=av.trans vS
   refine jB 4 [7,36,37] (λb7=>.ax b7 (rZ) 45) (λb7=>jN 3 [] (λb8=>[(1,A_ 5 b7 12),(2,A_ 6 b8 13)]) (λb8=>[(5,(zC (rV (toR Sx g2) Y2)))]) (λb8=>.ax b8 (aO (gP cx B2 p2)) 53) (λb8=>NN (ak.region (jC 3 [] [(0,A_ 5 b7 12),(2,A_ 1 b1 12)] [(1,(zC (rV (toR Sx g2) Y2)))] (NN (ak.seq (rM (List.range 5) 2 [1,2] (jR 2 [4,5,40,41] [(0,A_ 0 b1 16),(1,A_ 1 b2 13)] (mL [2,3] [] (C0 (ct aj c) vH hwl 180) ?_ (by rintro _ _ ⟨B3,p3,rfl,rfl⟩;rfl))))))))))
   rintro _ _ ⟨B3,p3,rfl,rfl⟩
   refine nC [2,3] [] [(0,A_ 4 b3 16)] [(4,(zC (uV (toR Sx g2) Y2 aj U fs.length xs.length (↑(k+1)))))] (bZ.last rfl rfl (jC 1 [] [(0,A_ 5 b4 13)] [(5,(zC (aO (gP (iR (ct aj c) 180) B3 p3))))] (NL (ay.np (NX (ak.ret (ay.bB (ay.cO [0] [YV B3 aj c p3] (λβ9 uo hL=>?_)))))))))
   have KZ:=hL.bytes
   replace uq:=uq.le uo
   replace av:=av.trans uo
   have BO:((Sx,iR (ct aj c) 180):br×aH)=(S2,c2):=(show dW kf SW (ct aj c)=_ from by unfold dW;rw [aik yt,aik nX,KY]).symm.trans hD
   exact rB (.tuple #[.agg ⟨uV (toR Sx g2) Y2 aj U fs.length xs.length (↑(k+1))⟩,.agg ⟨aO (gP (iR (ct aj c) 180) B3 p3)⟩]) [A_ 3 b3 16,A_ 4 b4 13] [0] av (by cases BO;exact⟨g2,Y2,B3,p3,rfl,rfl,hp2,uq,by rw [wm];exact KZ⟩)
  refine KX (ak.seq (rM (List.range 5) 2 [1,2] (jR 2 [4,5,40,41] [(0,A_ 0 b1 16),(1,A_ 1 b2 13)] (mL [2,3] [] (C0 (ct aj c) vH hwl 180) ?_ (by rintro _ _ ⟨B3,p3,rfl,rfl⟩;rfl)))))
  rintro _ _ ⟨B3,p3,rfl,rfl⟩
  refine nC [2,3] [] [(0,A_ 4 b3 16)] [(4,(zC (uV (toR SW g1) Y1 aj U fs.length xs.length (↑(k+1)))))] (bZ.last rfl rfl (jC 1 [] [(0,A_ 5 b4 13)] [(5,(zC (aO (gP (iR (ct aj c) 180) B3 p3))))] (NL (ay.np (NX (ak.ret (ay.bB (ay.cO [0] [YV B3 aj c p3] (λFR ji hL=>?_)))))))))
  have KZ:=hL.bytes
  replace uQ:=uQ.le ji
  replace av:=av.trans ji
  have BO:((SW,iR (ct aj c) 180):br×aH)=(S2,c2):=(show dW kf SW (ct aj c)=_ from by unfold dW;rw [aik yt,aij nX]).symm.trans hD
  exact rB (.tuple #[.agg ⟨uV (toR SW g1) Y1 aj U fs.length xs.length (↑(k+1))⟩,.agg ⟨aO (gP (iR (ct aj c) 180) B3 p3)⟩]) [A_ 3 b3 16,A_ 4 b4 13] [0] av (by cases BO;exact⟨g1,Y1,B3,p3,rfl,rfl,hp1,uQ,by rw [wm];exact KZ⟩)
 refine KX (ak.seq (ak.join (ι:=Bool) (λ(T9:Bool)=>(T9=decide (kf=2/\((ct aj c).op=4\/(ct aj c).op=5\/(ct aj c).op=6\/(ct aj c).op=7\/(ct aj c).op=9)))) (λ(T9:Bool)=>(yS4 b1 b2 b3 b4++[(6,vI (kf)),(59,.bool T9)])) (λ(T9:Bool)=>[.abs R,.ax b1 (uV (toR SW g1) Y1 aj U fs.length xs.length (↑(k+1))) 47,pC b2 (ct aj c),.ax b3 (uZ) 47,yS1 b4]) ?_ (ak.region (jK 3 [45] [] (sP 45 ((kf:Int)=(2:Int)) (λO8=>jK 4 [49] [(1,a_ 2 b2)] (sP 49 (((ct aj c).op:Int)>=(4:Int)) (λzq=>jK 5 [54] [(1,a_ 2 b2)] (sP 54 (((ct aj c).op:Int)<=(7:Int)) (λF5=>jK 5 [59] [] (NL (mJ true [0,1,2,3,4] ((aiD zc).symm)))) (λF5=>jK 5 [59] [(1,a_ 2 b2)] (NL (mJ ((decide (((ct aj c).op:Int)=(9:Int)))) [0,1,2,3,4] ((aiz.2 ⟨λh=>zc,λh=>zc⟩))))))) (λzq=>jK 10 [59] [(6,a_ 2 b2)] (NL (mJ ((decide (((ct aj c).op:Int)=(9:Int)))) [0,1,2,3,4] ((aiz.2 ⟨λh=>zc,λh=>zc⟩))))))) (λO8=>jK 14 [59] [] (NL (mJ false [0,1,2,3,4] ((aip zc).symm)))))))))
 rintro T9 hq1
 refine ak.cond (b:=T9) (λ_=>KB) (λwL=>?_) (λwL=>?_)
 ·refine ak.seq (rM (List.range 5) 2 [1,2] (jR 2 [4,5,60,61] [(0,A_ 0 b1 16),(1,A_ 1 b2 13)] (mL [2,3] [] (C0 (ct aj c) vH hwl 176) ?_ (by rintro _ _ ⟨B3,p3,rfl,rfl⟩;rfl))))
  rintro _ _ ⟨B3,p3,rfl,rfl⟩
  refine nC [2,3] [] [(0,A_ 4 b3 16)] [(4,(zC (uV (toR SW g1) Y1 aj U fs.length xs.length (↑(k+1)))))] (bZ.last rfl rfl (jC 1 [] [(0,A_ 5 b4 13)] [(5,(zC (aO (gP (iR (ct aj c) 176) B3 p3))))] (NL (ay.np (NX (ak.ret (ay.bB (ay.cO [0] [YV B3 aj c p3] (λJf p4 hL=>?_)))))))))
  have KZ:=hL.bytes
  replace uQ:=uQ.le p4
  replace av:=av.trans p4
  have BO:((SW,iR (ct aj c) 176):br×aH)=(S2,c2):=(show dW kf SW (ct aj c)=_ from by unfold dW;rw [aij yt,aik (aja (hq1.symm.trans wL))]).symm.trans hD
  exact rB (.tuple #[.agg ⟨uV (toR SW g1) Y1 aj U fs.length xs.length (↑(k+1))⟩,.agg ⟨aO (gP (iR (ct aj c) 176) B3 p3)⟩]) [A_ 3 b3 16,A_ 4 b4 13] [0] av (by cases BO;exact⟨g1,Y1,B3,p3,rfl,rfl,hp1,uQ,by rw [wm];exact KZ⟩)
 refine KX (SR (jK 3 [9] [(1,a_ 2 b2)] (NN (ak.seq (ak.join (ι:=Bool) (λ(Ua:Bool)=>(Ua=decide (kf=3/\(ct aj c).op=9/\2<=(ct aj c).data.length))) (λ(Ua:Bool)=>(yS4 b1 b2 b3 b4++[(9,.slice (ct aj c).dA ((ct aj c).data.length) ((ct aj c).dC)),(76,.bool Ua)])) (λ(Ua:Bool)=>[.abs R,.ax b1 (uV (toR SW g1) Y1 aj U fs.length xs.length (↑(k+1))) 47,pC b2 (ct aj c),.ax b3 (uZ) 47,yS1 b4]) ?_ (ak.region (jK 3 [67] [] (sP 67 ((kf:Int)=(3:Int)) (λJM=>jK 5 [72] [(1,a_ 2 b2)] (sP 72 (((ct aj c).op:Int)=(9:Int)) (λh72=>jK 4 [76] [] (NL (mJ ((decide (((((ct aj c).data.length:Nat):Int):Int)>=(2:Int)))) [0,1,2,3,4] ((aiz.2 ⟨λh=>zc,λh=>zc⟩))))) (λh72=>jK 4 [76] [] (NL (mJ false [0,1,2,3,4] ((aip zc).symm)))))) (λJM=>jK 9 [76] [] (NL (mJ false [0,1,2,3,4] ((aip zc).symm))))))))))))
 rintro Ua KE
 refine ak.cond (b:=Ua) (λ_=>KB) (λh76=>?_) (λh76=>?_)
 ·refine ak.region (jK 5 [81] [(3,w_ (.int .i64 ↑(((ct aj c).data.length) / 2)) (vV (Int.ofNat_tdiv _ _).symm zc zc)),(4,xP ((ct aj c).data.length / 2) (((ct aj c).data.length / 2)<=(ct aj c).dC))] (sl 81 (.slice (ct aj c).dA (((ct aj c).data.length / 2)) ((ct aj c).dC)) (.slice (ct aj c).dA (((ct aj c).data.take ((ct aj c).data.length / 2)).length) ((ct aj c).dC)) (by rw [aiH,ajh zc]) (jC 2 [] [(1,a_ 2 b2)] [(2,[(5,.slice (ct aj c).dA (((ct aj c).data.take ((ct aj c).data.length / 2)).length) ((ct aj c).dC))])] (NS (jK 3 [85,86] [(1,A_ 1 b1 12),(2,A_ 2 b2 13)] ?_)))))
  obtain⟨Sx,cx,KY⟩:∃S2 c2,gj SW { (ct aj c) with data:=(ct aj c).data.take ((ct aj c).data.length / 2)}=(S2,c2):=⟨_,_,rfl⟩
  refine gu [] (Gf hp1 uQ KY hwn Jt (vH.take _) (by simp only [aiH];omega) (by simp only [aiH];omega)) ?_
  rintro I6 _ _ qW ⟨g2,Y2,B2,p2,rfl,rfl,hp2,uq,Ky⟩
  replace vH:=vH.le qW
  replace av:=av.trans qW
  refine jB 4 [10,88,89] (λb13=>.ax b13 (rZ) 45) (λb13=>jN 3 [11] (λb14=>[(1,A_ 5 b13 12),(2,A_ 6 b14 13)]) (λb14=>[(5,(zC (rV (toR Sx g2) Y2)))]) (λb14=>.ax b14 (aO (gP cx B2 p2)) 53) (λb14=>NS (jC 3 [] [(0,A_ 5 b13 12),(2,A_ 1 b1 12)] [(1,(zC (rV (toR Sx g2) Y2)))] (NS (jK 1 [92] [] (gL [] (sZ (ct aj c).dA (ct aj c).dC (ct aj c).data vH hwl) ?_))))))
  rintro _ _ ⟨B3,p3,rfl,rfl⟩
  refine jC 2 [] [(1,a_ 7 b14)] [(7,[(5,.slice B3 ((ct aj c).data.length) (p3))])] (NN (ak.seq (rM [0,1,2,3] 2 [2,7] (jR 2 [4,5,95,96] [(0,A_ 0 b1 16),(1,A_ 1 b14 13)] (nC [2,7] [] [(0,A_ 4 b3 16)] [(4,(zC (uV (toR Sx g2) Y2 aj U fs.length xs.length (↑(k+1)))))] (bZ.last rfl rfl (jC 1 [] [(0,A_ 5 b4 13)] [(5,(yS3 cx B3 aj c p3))] (NL (ay.np (NX (ak.ret (ay.cO [0] [YV B3 aj c p3] (λF6 qY hL=>?_)))))))))))))
  have KZ:=hL.bytes
  replace uq:=uq.le qY
  replace av:=av.trans qY
  have BO:((Sx,{cx with dA:=(ct aj c).dA,dC:=(ct aj c).dC,data:=(ct aj c).data}):br×aH)=(S2,c2):=(show dW kf SW (ct aj c)=_ from by unfold dW;rw [aij yt,aij (of_decide_eq_false (hq1.symm.trans wL)),aik (aja (KE.symm.trans h76)),KY]).symm.trans hD
  exact rB (.tuple #[.agg ⟨uV (toR Sx g2) Y2 aj U fs.length xs.length (↑(k+1))⟩,.agg #[vI (cx.op),vI (cx.aG),vI (cx.other),.string cx.name,.string cx.text,.slice B3 ((ct aj c).data.length) (p3),vI (cx.mode),vI (cx.bg),vI (cx.bh),vI (cx.aT),vI (cx.aJ),vI (cx.code),vI (cx.answer)]]) [A_ 3 b3 16,A_ 4 b4 13] [0] av (by cases BO;exact⟨g2,Y2,B3,p3,rfl,rfl,hp2,uq,KZ⟩)
 refine KX (SR (jK 3 [85,86] [(1,A_ 1 b1 12),(2,A_ 2 b2 13)] ?_))
 obtain⟨Sx,cx,KY⟩:∃S2 c2,gj SW (ct aj c)=(S2,c2):=⟨_,_,rfl⟩
 refine gu [] (Gf hp1 uQ KY hwn Jt vH hwl hwc) ?_
 rintro QB _ _ tT ⟨g2,Y2,B2,p2,rfl,rfl,hp2,uq,Ky⟩
 replace vH:=vH.le tT
 replace av:=av.trans tT
 refine jB 4 [10,88,89] (λb17=>.ax b17 (rZ) 45) (λb17=>jN 3 [11] (λb18=>[(1,A_ 5 b17 12),(2,A_ 6 b18 13)]) (λb18=>[(5,(zC (rV (toR Sx g2) Y2)))]) (λb18=>.ax b18 (aO (gP cx B2 p2)) 53) (λb18=>NS (jC 3 [] [(0,A_ 5 b17 12),(2,A_ 1 b1 12)] [(1,(zC (rV (toR Sx g2) Y2)))] (NS (jK 1 [92] [] (gL [] (sZ (ct aj c).dA (ct aj c).dC (ct aj c).data vH hwl) ?_))))))
 rintro _ _ ⟨B3,p3,rfl,rfl⟩
 refine jC 2 [] [(1,a_ 7 b18)] [(7,[(5,.slice B3 ((ct aj c).data.length) (p3))])] (NN (ak.seq (rM [0,1,2,3] 2 [2,7] (jR 2 [4,5,95,96] [(0,A_ 0 b1 16),(1,A_ 1 b18 13)] (nC [2,7] [] [(0,A_ 4 b3 16)] [(4,(zC (uV (toR Sx g2) Y2 aj U fs.length xs.length (↑(k+1)))))] (bZ.last rfl rfl (jC 1 [] [(0,A_ 5 b4 13)] [(5,(yS3 cx B3 aj c p3))] (NL (ay.np (NX (ak.ret (ay.cO [0] [YV B3 aj c p3] (λaib Rx hL=>?_)))))))))))))
 have KZ:=hL.bytes
 replace uq:=uq.le Rx
 replace av:=av.trans Rx
 have BO:((Sx,{cx with data:=(ct aj c).data}):br×aH)=(S2,c2):=(show dW kf SW (ct aj c)=_ from by unfold dW;rw [aij yt,aij (of_decide_eq_false (hq1.symm.trans wL)),aij (of_decide_eq_false (KE.symm.trans h76)),KY,abN (VW KY)]).symm.trans hD
 exact rB (.tuple #[.agg ⟨uV (toR Sx g2) Y2 aj U fs.length xs.length (↑(k+1))⟩,.agg #[vI (cx.op),vI (cx.aG),vI (cx.other),.string cx.name,.string cx.text,.slice B3 ((ct aj c).data.length) (p3),vI (cx.mode),vI (cx.bg),vI (cx.bh),vI (cx.aT),vI (cx.aJ),vI (cx.code),vI (cx.answer)]]) [A_ 3 b3 16,A_ 4 b4 13] [0] av (by cases BO;exact⟨g2,Y2,B3,p3,rfl,rfl,hp2,uq,KZ⟩)
end
section
open Go.RowKit Go.Maps bF aD
theorem SB {X:FM} {ns:List aL} {aj:Int} (h:¬(kX X/\cr ns)):fw X ns aj=Ge X:=by
 by_cases h1:kX X
 ·rw [Bn h1 (λh2=>h ⟨h1,h2⟩)];exact (aik h1).symm
 rw [Eb h1];exact (aij h1).symm
end
section
open Go.RowKit Go.Maps bF aD
attribute [local irreducible] ar bN ak ay bZ
theorem Ub {β:Bs} {X:FM} {ns:List aL} {Y:eP} {fs:List cL} {xs:List dh} {Af Aa:Option Addr} (A:Option Addr) (c:Nat) (hG:aN β A ns Y) (hB:j6 ns 1048576) (aj:Int) (cf:Nat) (hF:cA β Af (cI jg fs)) (o5:lg fs 2097152) (ca:Nat) (hA:cA β Aa (cI kA xs)) (dR:jq xs 1048576) :
 bU Tryz.prog β 8 #[.agg #[.slice A (ns.length) (c)],vI (aj),.agg #[vI (X.cN),vI (X.cB),vI (X.cH),vI (X.cS),vI (X.cZ)],.agg #[.slice Af (fs.length) (cf),.slice Aa (xs.length) (ca)]] [] (λβ' v l=>(fw X ns aj≠0/\v=.tuple #[.agg ⟨uZ⟩,vI (fw X ns aj)]/\l=[])\/(fw X ns aj=0/\∃B cp K U,v=.tuple #[.agg #[.slice B (ns.length) (cp),.slice none (0) (0),vI (X.cH),vI 0,.slice none (0) (0),.slice none (0) (0),vI (X.cN),vI (X.cB),vI (X.cH),vI (X.cS),vI (X.cZ),vI ((if ns.length=0 then 0 else (nd ns (ns.length-1)).id)),vI (aj),.slice U.A (fs.length) (U.a),.slice U.B (xs.length) (U.b),vI 0],vI 0]/\l=[]/\aN β' B ns K/\KW β' U fs xs)):=by
 have hnl:=wi hB
 refine mM Tryz.func8 Tryz.ntmps8 (λav R=>SR (jB 1 [4] (λb1=>.ax b1 [.slice A (ns.length) (c)] 24) (λb1=>jB 1 [6] (λb2=>.ax b2 [vI (X.cN),vI (X.cB),vI (X.cH),vI (X.cS),vI (X.cZ)] 28) (λb2=>jB 1 [7] (λb3=>.ax b3 [.slice Af (fs.length) (cf),.slice Aa (xs.length) (ca)] 32) (λb3=>jB 2 [8] (λb4=>.ax b4 (uZ) 47) (λb4=>NN (ak.seq ?_)))))))
 by_cases l6:kX X/\cr ns
 ·refine ak.region (jK 2 [14,15] [(0,a_ 1 b1),(1,A_ 2 b2 5)] (gu [] (abw l6.1 l6.2 A c hG hB) ?_))
  rintro KR _ _ kg ⟨B,cp,K,rfl,rfl,hK⟩
  replace hG:=hG.le kg
  replace hF:=hF.le kg
  replace hA:=hA.le kg
  replace av:=av.trans kg
  refine jN 6 [10,11] (λb6=>[(4,A_ 5 b6 12)]) (λ_=>[]) (λb6=>.ax b6 [.slice B (ns.length) (cp),.slice none (0) (0),vI (X.cH),vI 0,.slice none (0) (0),.slice none (0) (0),vI (X.cN),vI (X.cB),vI (X.cH),vI (X.cS),vI (X.cZ),vI ((if ns.length=0 then 0 else (nd ns (ns.length-1)).id))] 45) (λb6=>NZ (jK 2 [20] [] (NF (KX (ak.seq ?_)))))
  rcases P7 ns aj with ⟨r,hr⟩|iV
  ·have hr1:r<ns.length:=hr.1
   refine ak.region (jK 2 [23,24] [(0,a_ 1 b1)] (gE [] (zA A c ns Y hG l6.2.fD (wi hB) aj) (jK 1 [12] [] (NZ (sl 12 (vI ((gF ns aj))) (.int .i64 ↑r) (ail (Value.int .i64) (Il l6.2.fD hr.1 hr.2.1)) (jK 2 [27] [(1,wF (((r:Int):Int)<(0:Int)))] (NF (KX (SQ (jK 7 [35] [(1,a_ 1 b1),(3,x_ r ns.length (aN.hd hG (i:=r) zc)),(5,r_ (aN.rd hG (i:=r) zc (j:=1) rfl))] (NN (cN (((nd ns r).kind:Int)=(2:Int)) (λnY=>SR (jC 3 [9] [(1,A_ 4 b4 16)] [] (eO (v:=(.tuple #[.agg ⟨uZ⟩,vI 173])) [A_ 4 b4 16] av (.inl ⟨by rw [zM l6.1 l6.2 hr zc];decide,by rw [zM l6.1 l6.2 hr zc],rfl⟩)))) (λnY=>KX (ak.seq (rM (List.range 7) 3 [5,3] (jR 3 [8,37,38,39] [(0,A_ 0 b6 12),(2,A_ 1 b3 2)] (mL [7,5] [] (ze Af cf fs hF (by have:=o5.len;omega) Aa ca xs hA (by have:=dR.len;omega)) ?_ (by rintro _ _ ⟨Bf,bf,Bx,bx,rfl,rfl⟩;rfl))))))))))))))))))
   rintro _ _ ⟨Bf,bf,Bx,bx,rfl,rfl⟩
   refine nC [7,5] [41] [] [] (nC [7,5] [] [(0,A_ 6 b4 16)] [(6,[(0,.slice B (ns.length) (cp)),(2,vI (X.cH)),(6,vI (X.cN)),(7,vI (X.cB)),(8,vI (X.cH)),(9,vI (X.cS)),(10,vI (X.cZ)),(11,vI ((if ns.length=0 then 0 else (nd ns (ns.length-1)).id))),(12,vI (aj)),(13,.slice Bf (fs.length) (bf)),(14,.slice Bx (xs.length) (bx))])] (bZ.last rfl rfl (jK 1 [9] [] (NL (ay.np (NX (ak.ret (ay.cO [0,1] [.abs (aF 66 2 Bf fs.length bf (cI jg fs)),.abs (aF 68 5 Bx xs.length bx (cI kA xs))] (λFV kN hL=>?_)))))))))
   have hU:KW _ ⟨Bf,bf,Bx,bx⟩ fs xs:=⟨hL.rowAt 0 rfl,hL.rowAt 1 rfl⟩
   replace hK:=hK.le kN
   replace av:=av.trans kN
   exact rB (.tuple #[.agg #[.slice B (ns.length) (cp),.slice none (0) (0),vI (X.cH),vI 0,.slice none (0) (0),.slice none (0) (0),vI (X.cN),vI (X.cB),vI (X.cH),vI (X.cS),vI (X.cZ),vI ((if ns.length=0 then 0 else (nd ns (ns.length-1)).id)),vI (aj),.slice Bf (fs.length) (bf),.slice Bx (xs.length) (bx),vI 0],vI 0]) [A_ 4 b4 16] [0] av (.inr ⟨Ec l6.1 l6.2 hr zc,B,cp,K,⟨Bf,bf,Bx,bx⟩,rfl,rfl,hK,hU⟩)
  exact ak.region (jK 2 [23,24] [(0,a_ 1 b1)] (gE [] (zA A c ns Y hG l6.2.fD (wi hB) aj) (jK 1 [12] [] (NZ (sl 12 (vI ((gF ns aj))) (.int .i64 (-1)) (ail (Value.int .i64) (DM iV)) (jK 2 [27] [] (NT (SR (jC 3 [9] [(1,A_ 4 b4 16)] [] (eO (v:=(.tuple #[.agg ⟨uZ⟩,vI 141])) [A_ 4 b4 16] av (.inl ⟨by rw [xZ l6.1 l6.2 iV];decide,by rw [xZ l6.1 l6.2 iV],rfl⟩)))))))))))
 refine ak.region (jK 2 [14,15] [(0,a_ 1 b1),(1,A_ 2 b2 5)] (gu [] (abx l6 A c hG hB) ?_))
 rintro QA _ _ oW ⟨rfl,rfl⟩
 replace av:=av.trans oW
 exact jN 6 [10,11] (λb9=>[(4,A_ 5 b9 12)]) (λ_=>[]) (λb9=>.ax b9 (rZ) 45) (λb9=>NZ (jK 2 [20] [] (NN (cN (((Ge X):Int)=(0:Int)) (λpQ=>SR (jC 4 [9] [(2,A_ 4 b4 16)] [] (eO (v:=(.tuple #[.agg ⟨uZ⟩,vI ((Ge X))])) [A_ 4 b4 16] av (.inl ⟨Ef l6,by rw [SB l6],rfl⟩)))) (λpQ=>ain pQ (adL X))))))
end
section
open Go.RowKit Go.Maps bF aD
attribute [local irreducible] ar bN ak ay eH
theorem VX {β:Bs} {S:br} {g:List Int} (hp:Pair S g) (Y:RL) (hR:dF β (toR S g) Y) (G:WG) (fs:List cL) (xs:List dh) (aj:Int) (V:WV) (tr:List aH) (U:UL) (nf na:Nat) {n:Nat} (hn:(tr.length:Int)=(n:Int)) :
 aU Tryz.prog β 14 #[vP G.w,.agg ⟨uV (toR S g) Y aj U nf na ((n:Nat):Int)⟩] [wA G fs xs aj S V tr] (λv l=>v=.bool true/\l=[wA G fs xs aj S V tr]):=by
 have hI:bO S:=hp.inv
 refine SE Tryz.func14 Tryz.ntmps14 (λR=>SR (jN 2 [3] (λ_=>[]) (λ_=>[]) (λb1=>.ax b1 (uV (toR S g) Y aj U nf na (↑n)) 47) (λb1=>NN (ak.seq (jM [0,2,3,4,501,505,6,7,9,10,11,12,13,508,14,15,16,17,19,20,21,22,518,23,24,25,26,28,29,527,30,31,532] [2] (jG 4 [0,3,5,9] [(3,a_ 0 b1)] (kL [5] [0] (Np (G:=G) (fs:=fs) (xs:=xs) (aj:=aj) (S:=S) (V:=V) (tr:=tr) hI) ?_ (by rintro _ _ ⟨Ao,co,Ko,rfl,rfl⟩;kernel_rfl))))))))
 rintro _ _ ⟨Ao,co,Ko,rfl,rfl⟩
 refine kL [5] [1,2,3] (Oa Ao Y.A co Y.c (aV S) (aV S) Ko Y.L hR.n (aay hI.toInv0) (aaw hI.toInv0) (aiD rfl)) ?_ (by rintro _ _ ⟨rfl,rfl⟩;kernel_rfl)
 rintro _ _ ⟨rfl,rfl⟩
 refine jG 7 [0,3,11,12,18] [(5,a_ 0 b1)] (kL [5] [3] ((aaF (G:=G) (fs:=fs) (xs:=xs) (aj:=aj) (S:=S) (V:=V) (tr:=tr)).val (ail (Value.int .i64) (show (S.us.length:Int)=((toR S g).us.length:Int) from ail Nat.cast Dy.symm))) ?_ (by rintro _ _ ⟨rfl,rfl⟩;kernel_rfl))
 rintro _ _ ⟨rfl,rfl⟩
 refine jG 8 [0,3,21,22,27] [(0,p_ ⟨[],none,none,none,some (.bool true)⟩ [(Value.bool (decide (((((toR S g).us.length:Nat):Int):Int)=((((toR S g).us.length:Nat):Int):Int))))=(.bool true)] ⟨aii,trivial⟩),(7,a_ 0 b1)] (kL [5] [0] ((aaG (G:=G) (fs:=fs) (xs:=xs) (aj:=aj) (S:=S) (V:=V) (tr:=tr)).val (ail (Value.int .i64) (show S.aI=(toR S g).aI from rfl))) ?_ (by rintro _ _ ⟨rfl,rfl⟩;kernel_rfl))
 rintro _ _ ⟨rfl,rfl⟩
 refine jG 6 [30,31,34] [(0,p_ ⟨[],none,none,none,some (.bool true)⟩ [(Value.bool (decide (((toR S g).aI:Int)=((toR S g).aI:Int))))=(.bool true)] ⟨aii,trivial⟩),(5,a_ 0 b1)] (kL [5] [0] ((Nn (G:=G) (fs:=fs) (xs:=xs) (aj:=aj) (S:=S) (V:=V) (tr:=tr)).val (ail (Value.int .i64) hn)) ?_ (by rintro _ _ ⟨rfl,rfl⟩;kernel_rfl))
 rintro _ _ ⟨rfl,rfl⟩
 exact jG 2 [36] [(0,p_ ⟨[],none,none,none,some (.bool true)⟩ [(Value.bool (decide ((((n:Nat):Int):Int)=(((n:Nat):Int):Int))))=(.bool true)] ⟨aii,trivial⟩)] (eH.last KB (jK 1 [4] [] (NL (ay.np (NX (ak.ret (RT (.bool true) [0,4] (⟨rfl,rfl⟩))))))))
end
section
open Go.RowKit Go.Maps bF aD
section n
variable {β:Bs} {X:FM} {ns:List aL} {Y:eP} {fs:List cL} {xs:List dh} {Af Aa:Option Addr} {aj:Int}
theorem YW (h0:¬fw X ns aj=0) (A:Option Addr) (c:Nat) (hG:aN β A ns Y) (hB:j6 ns 1048576) (cf:Nat) (hF:cA β Af (cI jg fs)) (o5:lg fs 2097152) (ca:Nat) (hA:cA β Aa (cI kA xs)) (dR:jq xs 1048576) :
 bU Tryz.prog β 8 #[.agg #[.slice A ns.length c],.int .i64 aj,.agg #[.int .i64 X.cN,.int .i64 X.cB,.int .i64 X.cH,.int .i64 X.cS,.int .i64 X.cZ],.agg #[.slice Af fs.length cf,.slice Aa xs.length ca]] [] (λ_ v l=>v=.tuple #[.agg ⟨rZ++[.int .i64 0,.slice none 0 0,.slice none 0 0,.int .i64 0]⟩,.int .i64 (fw X ns aj)]/\l=[]):=
 (Ub A c hG hB aj cf hF o5 ca hA dR).mono (by
  rintro β' v l _ (⟨_,h1,h2⟩|⟨h,_⟩)
  ·exact⟨h1,h2⟩
  exact ain h h0)
theorem YX (h0:fw X ns aj=0) (N:Ee X ns) (A:Option Addr) (c:Nat) (hG:aN β A ns Y) (hB:j6 ns 1048576) (cf:Nat) (hF:cA β Af (cI jg fs)) (o5:lg fs 2097152) (ca:Nat) (hA:cA β Aa (cI kA xs)) (dR:jq xs 1048576) :
 bU Tryz.prog β 8 #[.agg #[.slice A ns.length c],.int .i64 aj,.agg #[.int .i64 X.cN,.int .i64 X.cB,.int .i64 X.cH,.int .i64 X.cS,.int .i64 X.cZ],.agg #[.slice Af fs.length cf,.slice Aa xs.length ca]] [] (λβ' v l=>∃Y' U,v=.tuple #[.agg ⟨uV (toR N.1 []) Y' aj U fs.length xs.length 0⟩,.int .i64 0]/\l=[]/\dF β' (toR N.1 []) Y'/\KW β' U fs xs):=by
 refine (Ub A c hG hB aj cf hF o5 ca hA dR).mono ?_
 rintro β' v l _ (⟨h,_⟩|⟨_,B,cp,K,U,rfl,rfl,h1,h2⟩)
 ·exact ain h0 h
 have e:=(NM N.2 (FB h0).2).2
 rw [e]
 refine⟨⟨B,cp,K,none,0,none,0,none,0⟩,U,?_,rfl,⟨⟨cA.nil,cA.nil,cA.nil⟩,h1⟩,h2⟩
 have hl:(if ns.length=0 then 0 else (nd ns (ns.length-1)).id)=rH ns ns.length:=by cases ns.length<;>rfl
 rw [hl]
 rfl
end n
theorem NY {β:Bs} {S S2:br} {g:List Int} {c c2:aH} (hp:Pair S g) (Y:RL) (hR:dF β (toR S g) Y) (aj:Int) (U:UL) (fs:List cL) (xs:List dh) (k:Nat) (hk:k<=1048576) (hU:KW β U fs xs) (hfl:fs.length<=2097152) (hX:jq xs 1048576) (hD:gM fs xs aj (k+1) S c=(S2,c2)) (hn:c.name.size<=1048576) (ht:c.text.size<=1048576) (hb:bp β c.dA c.data) (hl:c.data.length<=140737488355328) (hc:c.data.length<=c.dC) :
 aU Tryz.prog β 10 #[.agg ⟨uV (toR S g) Y aj U fs.length xs.length k⟩,.agg ⟨aO c⟩] [] (λv l=>∃g' Y' B p,v=.tuple #[.agg ⟨uV (toR S2 g') Y' aj U fs.length xs.length ((k+1:Nat):Int)⟩,.agg ⟨aO (gP c2 B p)⟩]/\l=[.abs (kT β (λβ'=>Pair S2 g'/\dF β' (toR S2 g') Y'/\bp β' B c2.data))]):=
 (bU.Ke (ι:=List Int×RL×Option Addr×Nat) (vv:=λx=>.tuple #[.agg ⟨uV (toR S2 x.1) x.2.1 aj U fs.length xs.length ((k+1:Nat):Int)⟩,.agg ⟨aO (gP c2 x.2.2.1 x.2.2.2)⟩]) (ll:=λ_=>[]) (Φ:=λx β'=>Pair S2 x.1/\dF β' (toR S2 x.1) x.2.1/\bp β' x.2.2.1 c2.data)
  ((abO hp Y hR aj U fs xs k hk hU.f hfl hU.x hX hD hn ht hb hl hc).mono (by rintro β' v l _ ⟨g',Y',B,p,rfl,rfl,h1,h2,h3⟩;exact⟨(g',Y',B,p),rfl,rfl,h1,h2,h3⟩))).mono (by rintro v l ⟨⟨g',Y',B,p⟩,rfl,rfl⟩;exact⟨g',Y',B,p,rfl,rfl⟩)
end
section
open Go.RowKit Go.Maps bF aD
attribute [local irreducible] ar bN ak ay
noncomputable abbrev yP1 (o)(q:Nat) (f:Nat) (aj) (am) (tr:List aH):=(.ax o [.iface 109 (vP q),vP f,vI (aj),.map (some am),vI ↑tr.length] 113:HP)
noncomputable abbrev yP2 (q:Nat) (f:Nat) (km) (tr:List aH):=(.ax q [.iface 76 (vP f),.map (some km),vI ↑tr.length] 111:HP)
theorem Ry {β:Bs} (c:Nat):aU Tryz.prog β 42 #[.slice none 0 c] [] (λv l=>∃B cap,v=.slice B 0 cap/\l=[.abs (aF 53 13 B 0 cap [])]):=by
 exact SE Tryz.func42 Tryz.ntmps42 (λR=>SR (jK 1 [] [] (NZ (jK 2 [4] [] (NT (SR (jK 1 [2] [] (NN (ak.ret (ay.bB (ay.mem (λw hS=>(hS.mQ (e:=53) (size:=13)).pick (aq:=[1,0]) (l':=[.abs (aF 53 13 none 0 0 ([])),.abs R]) rfl KB) (RT (.slice none (0) (0)) [0,1] (⟨none,0,rfl,rfl⟩)))))))))))))
theorem Od {β:Bs} (a:Addr) (c:Nat) (d:List aH) (hA:cA β (some a) (cI aO d)) (hl:d.length<=1048576):aU Tryz.prog β 42 #[.slice (some a) d.length c] [] (λv l=>∃B cap,v=.slice B d.length cap/\l=[Ts B d cap]):=by
 exact SE Tryz.func42 Tryz.ntmps42 (λR=>SR (jK 1 [] [] (NZ (jK 2 [4] [] (NF (KX (SR (jB 1 [5] (λb1=>.ax b1 [] 53) (λb1=>ar.mem (λw hS=>hS.o9 (i:=1) (b:=b1) (cs:=[]) (e:=53) 13 0 KB rfl Pd) (jK 1 [6] [] (ar.append 1 (d:=(some 7)) (t:=35) (e:=53) (z:=.agg #[vI 0,vI 0,vI 0,.string ⟨#[]⟩,.string ⟨#[]⟩,.slice none (0) (0),vI 0,vI 0,vI 0,vI 0,vI 0,vI 0,vI 0]) (size:=13) (bytes:=136) (n:=0) (cap:=0) (A:=some ⟨b1,0,none⟩) (xs:=[]) (s:=(.tmp 5)) (x:=(.tmp 6)) (ats:=#[35,35]) (A':=(some a)) (m:=d.length) (c':=c) (news:=(cI aO d)) (λ_=>KB) rfl KB (λ_=>KB) (λ_=>KB) Tryz.underlying35 KB rfl Pd (yS (f:=aO) (s:=13) (λ_=>rfl) _) (yg (W5) _ _) (hA.src) (by unfold maxLen;omega) zc (λA2 c3=>ar.cJ 1 (p:=.abs (aF 53 13 A2 (0+d.length) c3 ([]++(cI aO d)))) (p':=.abs (aF 53 13 A2 d.length c3 (cI aO d))) KB (by rw [aiE,List.nil_append]) (sl 7 (.slice A2 (0+d.length) (c3)) (.slice A2 (d.length) (c3)) (by rw [aiE]) (jK 1 [2] [] (eN (v:=(.slice A2 (d.length) (c3))) ⟨A2,c3,rfl,rfl⟩ [1,0])))))))))))))))
theorem Oe {β:Bs} (A:Option Addr) (c:Nat) (d:List aH) (hA:cA β A (cI aO d)) (hl:d.length<=1048576):aU Tryz.prog β 42 #[.slice A d.length c] [] (λv l=>∃B cap,v=.slice B d.length cap/\l=[Ts B d cap]):=by
 cases A with
 |some a=>exact Od a c d hA hl
 |none=>
   cases d with
   |nil=>exact Ry c
   |cons b r=>have h:=(Kb (s:=13) (i:=0) (j:=0) hA (λ_=>rfl) rfl rfl).1;cases h
theorem VY {β:Bs} (A:Option Addr) (c:Nat) (d:List aH) (hl:d.length<=1048576):aU Tryz.prog β 42 #[.slice A d.length c] [tR A c d] (λv l=>∃B cap,v=.slice B d.length cap/\l=[.abs (aF 53 13 B d.length cap (cI aO d)),tR A c d]):=
 (aU.wY (pre:=[]) (R:=[tR A c d]) (λ_ h=>Oe A c d (let ⟨_,h1,h2⟩:=h.get 0 rfl;cA.iM h1 h2 rfl) hl)).mono (by rintro v l ⟨l0,⟨B,cap,rfl,rfl⟩,rfl⟩;exact⟨B,cap,rfl,rfl⟩)
theorem VZ {β:Bs} (S:br) (L:HL) (w o q f m t am an km kn:Nat) (Z:AZ) (fs:List cL) (xs:List dh) (aj:Int) (tr:List aH) (tA:Option Addr) (tC:Nat) (hn:tr.length<=1048576) (hT:xA β tr) :
 bU Tryz.prog β 16 #[vP w] (Hu w f o aj tA tr tC q am km Z xs an fs kn m t S L) (λβ' v l=>∃A' c' os,v=.slice A' tr.length c'/\l=(Hu w f o aj tA tr tC q am km Z xs an fs kn m t S L)/\vU β' A' os/\os.map bare=tr.map bare):=by
 refine mM Tryz.func16 Tryz.ntmps16 (λav R=>SR (jK 1 [] [] (NS (jK 4 [8] [(3,a_ 0 w)] (gL [5] (VY tA tC tr zc) ?_)))))
 rintro _ _ ⟨B,cp,rfl,rfl⟩
 refine jK 1 [3] [] (NZ (jK 3 [11,12] [] (NN (ak.block (lB (ι:=Nat×Bs×(List aH)) (λ(i,b,os)=>b) (λ(i,b,os)=>(i<=tr.length)/\(β.le b)/\(xA b tr)/\(xA b os)/\(os.map bare=(tr.take i).map bare)/\(os.length=i)) (λ(i,b,os)=>tr.length-i) (λ(i,b,os)=>[(3,.slice B (tr.length) (cp)),(11,vI ↑tr.length),(12,vI ↑i)]) (λ(i,b,os)=>[Ts tA tr tC,zF1 w f o aj tA tr tC,yP1 o q f aj am tr,yP2 q f km tr,zF4 am Z xs an,zF5 km fs kn,pF f m t S.X,pI m L S.aq,zF7 t S L,pO S.O L,pD S.O L,pE S.O L,.abs (aF 53 13 B tr.length cp (cI aO (os++tr.drop i))),.abs R]) (0,β,[]) [1,2,3,4,5,6,7,8,9,10,11,12,0,13] (⟨aio _,av,hT,λc hc=>(by cases hc),rfl,rfl⟩) ?_)))))
 rintro⟨i,b,os⟩ ⟨hi,av,hT,hO,hm,hol⟩
 show ak _ b _ _ [(3,.slice B (tr.length) (cp)),(11,vI ↑tr.length),(12,vI ↑i)] [Ts tA tr tC,zF1 w f o aj tA tr tC,yP1 o q f aj am tr,yP2 q f km tr,zF4 am Z xs an,zF5 km fs kn,pF f m t S.X,pI m L S.aq,zF7 t S L,pO S.O L,pD S.O L,pE S.O L,.abs (aF 53 13 B tr.length cp (cI aO (os++tr.drop i))),.abs R] _
 refine SR (jK 1 [13] [] (NN (ak.seq (cP ((((i:Nat):Int):Int)<(((tr.length:Nat):Int):Int)) (λtL=>?_) (λtL=>?_)))))
 ·refine KX (ak.seq (ak.block (SR (jK 2 [4] [] (NN (ak.region ?_))))))
  have hin:i<tr.length:=zc
  refine ar.tell (p:=∃g,B=some ⟨g,0,none⟩) (λw hS=>let ⟨F,h⟩:=hS.get (i:=12) rfl;aF.head h zc) (λ⟨g4,hg⟩=>?_)
  subst hg
  refine jK 7 [15,16,21] [(4,p_ ⟨[],some i,none,none,some (.pointer (some ⟨g4,i*13,none⟩))⟩ [(Value.pointer (some ⟨g4,0+i*13,none⟩))=(.pointer (some ⟨g4,i*13,none⟩)),((i:Nat):Int)=((i:Nat):Int),i<tr.length,(⟨g4,0,none⟩:Addr).spot=none] ⟨aii,rfl,hin,rfl,trivial⟩),(6,p_ ⟨[.view 12 (.slice (bq tr i).dA ((bq tr i).data.length) ((bq tr i).dC))],none,none,none,none⟩ [(∀F w,(aF 53 13 (some ⟨g4,0,none⟩) tr.length cp (cI aO (os++tr.drop i))).h F w->w.cell? ⟨g4,i*13+5,none⟩=some (.slice (bq tr i).dA ((bq tr i).data.length) ((bq tr i).dC)))] ⟨aF.cell (afv hol hin Pd rfl),trivial⟩)] (gu [] (FU (bq tr i).dA (bq tr i).dC (bq tr i).data (hT _ (Dz hin)).1 (hT _ (Dz hin)).2) ?_)
  rintro FV _ _ kN ⟨B5,p6,rfl,rfl,hB5,_⟩
  replace hT:=hT.le kN
  replace hO:=hO.le kN
  replace av:=av.trans kN
  exact jK 2 [24] [(0,p_ ⟨[],some i,none,none,some (.pointer (some ⟨g4,i*13,none⟩))⟩ [(Value.pointer (some ⟨g4,0+i*13,none⟩))=(.pointer (some ⟨g4,i*13,none⟩)),((i:Nat):Int)=((i:Nat):Int),i<tr.length,(⟨g4,0,none⟩:Addr).spot=none] ⟨aii,rfl,hin,rfl,trivial⟩)] (ar.ER 12 (i*13+5) (d:=none) (T:=51) (e:=53) (size:=13) (n:=tr.length) (cap:=cp) (g:=g4) (xs:=(cI aO (os++tr.drop i))) (u:=.slice B5 ((bq tr i).data.length) (p6)) (a:=(.tmp 24)) (y:=(.tmp 22)) (λ_=>KB) KB (λ_=>KB) (λ_=>KB) KB rfl (by rw [yS (f:=aO) (s:=13) (λ_=>rfl),afw hol zc];omega) (ar.cJ 12 (p':=.abs (aF 53 13 (some ⟨g4,0,none⟩) tr.length cp (cI aO ((os++[cY B5 p6 (bq tr i)])++tr.drop (i+1))))) rfl (ail (λx=>HP.abs (aF 53 13 _ _ _ x)) (afx hol hin)) (LX (ak.region (jK 2 [12] [(0,wJ ((i:Int)+1) (↑(i+1)))] (NL (tB ((i+1),FV,(os++[(cY B5 p6 (bq tr i))])) [0,1,2,3,4,5,6,7,8,9,10,11,12,13] (⟨zc,av,hT,hO.snoc (c:=(cY B5 p6 (bq tr i))) hB5 (hT _ (Dz hin)).2,afy hm hin adM,by rw [ait,hol];rfl⟩))))))))
 refine XX (SR ?_)
 have hos:os++tr.drop i=os:=by rw [show i=tr.length by omega,List.drop_length,List.append_nil]
 have hmt:os.map bare=tr.map bare:=by rw [hm,show i=tr.length by omega,aiK]
 refine ar.cJ 12 (p:=.abs (aF 53 13 B tr.length cp (cI aO (os++tr.drop i)))) (p':=.abs (aF 53 13 B tr.length cp (cI aO os))) KB (by rw [hos]) (ar.nw (Φ:=λβ'=>cA β' B (cI aO os)) 12 [0,1,2,3,4,5,6,7,8,9,10,11,13] (eX:=[Ts tA tr tC,zF1 w f o aj tA tr tC,yP1 o q f aj am tr,yP2 q f km tr,zF4 am Z xs an,zF5 km fs kn,pF f m t S.X,pI m L S.aq,zF7 t S L,pO S.O L,pD S.O L,pE S.O L,.abs R]) rfl rfl KB (λF w h β' h1 h2=>cA.iM h h1 h2) (λQA oW hR=>?_))
 replace hO:=hO.le oW
 replace av:=av.trans oW
 exact jK 2 [2] [] (eO (v:=(.slice B (tr.length) (cp))) [] av ⟨B,cp,os,rfl,rfl,⟨hR,hO⟩,hmt⟩ [1,2,3,4,5,0,6,7,8,9,10,11,12])
theorem YZ {β:Bs} {fs:List cL} {xs:List dh} {aj:Int} {S:br} {V:WV} {tr:List aH} {G:WG} (hn:tr.length<=1048576) (hT:xA β tr):bU Tryz.prog β 16 #[vP G.w] [wA G fs xs aj S V tr] (λβ' v l=>∃A' c' os,v=.slice A' tr.length c'/\l=[wA G fs xs aj S V tr]/\vU β' A' os/\os.map bare=tr.map bare):=
 (VZ S V.L G.w G.o G.q G.f G.m G.t G.am G.an G.km G.kn G.Z fs xs aj tr V.A V.c hn hT).one.mono (by
  rintro β' v l _ ⟨l0,⟨A',c',os,rfl,rfl,h1,h2⟩,rfl⟩
  exact⟨A',c',os,rfl,rfl,h1,h2⟩)
end
section
open Go.RowKit Go.Maps bF aD
attribute [local irreducible] ar bN ak ay eH kr
theorem law_worldClients (W:World) (A:Option Addr) (c:Nat) (ns:List aL) (Y:eP) (hG:aN (B0 W) A ns Y) (hB:j6 ns 1048576) (X:FM) (aj:Int) (Af:Option Addr) (cf:Nat) (fs:List cL) (hF:cA (B0 W) Af (cI jg fs)) (o5:lg fs 1048576) (Aa:Option Addr) (ca:Nat) (xs:List dh) (hA:cA (B0 W) Aa (cI kA xs)) (dR:jq xs 1048576) (hrw:(Lit.int .i64 aj).wf=true) (A1:Option Addr) (c1:Nat) (cs:List aH) (hS:jA (B0 W) A1 cs) (_aic:cs.length<=1048576) (hxc:cs.length<=c1) (hg:kH (B0 W)) :
 aU Tryz.prog (B0 W) 5 #[.agg #[.slice A (ns.length) (c),vI (aj),vI (X.cN),vI (X.cB),vI (X.cH),vI (X.cS),vI (X.cZ),.slice Af (fs.length) (cf),.slice Aa (xs.length) (ca)],.slice A1 (cs.length) (c1)] [] (λv _=>v=.bool true):=by
 have av:=B0.refl W
 have hfl:=o5.len
 have hxn:=dR.len
 refine SE Tryz.func5 Tryz.ntmps5 (λR=>SR (jB 2 [2] (λb1=>.ax b1 [.slice A (ns.length) (c),vI (aj),vI (X.cN),vI (X.cB),vI (X.cH),vI (X.cS),vI (X.cZ),.slice Af (fs.length) (cf),.slice Aa (xs.length) (ca)] 34) (λb1=>NZ (gu [] (abB hg) ?_))))
 rintro ox _ _ fo ⟨rfl,rfl⟩
 replace hG:=hG.le fo
 replace hF:=hF.le fo
 replace hA:=hA.le fo
 replace hS:=hS.le fo
 replace hg:=hg.le fo
 replace av:=av.trans fo
 refine jK 1 [20] [] (NF (KX (ak.seq ?_)))
 by_cases h0:fw X ns aj=0
 ·have hok:=FB h0
  refine ak.region (jK 1 [22] [(0,A_ 1 b1 9)] (gu [] (KV (β:=ox) (X:=X) h0 A c Y hG hB Af cf fs hF (o5.wide Pd) Aa ca xs hA dR) ?_))
  rintro yV _ _ iq ⟨N,G,V,rfl,rfl,iL⟩
  replace hG:=hG.le iq
  replace hF:=hF.le iq
  replace hA:=hA.le iq
  replace hS:=hS.le iq
  replace hg:=hg.le iq
  replace av:=av.trans iq
  refine jK 5 [5,6] [] (NS (jK 8 [28,30,32,34] [(1,a_ 2 b1),(3,a_ 2 b1),(5,A_ 2 b1 5),(7,A_ 2 b1 2)] (gu [] (YX (β:=yV) h0 N A c hG hB cf hF (o5.wide Pd) ca hA dR) ?_)))
  rintro Dw _ _ kP ⟨Yd,U,rfl,rfl,hR,hU⟩
  replace hG:=hG.le kP
  replace hF:=hF.le kP
  replace hA:=hA.le kP
  replace hS:=hS.le kP
  replace hg:=hg.le kP
  replace iL:=iL.le kP
  replace av:=av.trans kP
  refine jN 6 [7,8] (λb5=>[(4,A_ 3 b5 16)]) (λ_=>[]) (λb5=>.ax b5 (uV (toR N.1 []) Yd aj U fs.length xs.length 0) 47) (λb5=>NZ (jK 7 [44] [] (NF (KX (SR (jK 1 [56] [] (gL [] (aeS A1 c1 cs hxc) ?_)))))))
  rintro _ _ ⟨n,hn,hn3,rfl,rfl⟩
  refine jK 1 [1] [] (NZ (jK 1 [9] [] (NN (ak.block (lB (ι:=Nat×Bs×br×(List Int)×RL×WV×(List aH)) (λ(i,b,S,g,Yd,V,tr)=>b) (λ(i,b,S,g,Yd,V,tr)=>(i<=n)/\((B0 W).le b)/\(jA b A1 cs)/\(kH b)/\(Pair S g)/\(dF b (toR S g) Yd)/\(nH b G.Z xs)/\(KW b U fs xs)/\(tr.length=i)/\(xA b tr)) (λ(i,b,S,g,Yd,V,tr)=>n-i) (λ(i,b,S,g,Yd,V,tr)=>[(1,.slice A1 (n) (c1)),(5,vP G.w),(7,vP b5),(9,vI ↑i)]) (λ(i,b,S,g,Yd,V,tr)=>[.ax b1 [.slice A (ns.length) (c),vI (aj),vI (X.cN),vI (X.cB),vI (X.cH),vI (X.cS),vI (X.cZ),.slice Af (fs.length) (cf),.slice Aa (xs.length) (ca)] 34,.ax b5 (uV (toR S g) Yd aj U fs.length xs.length (↑i)) 47,wA G fs xs aj S V tr,.abs R]) (0,Dw,N.1,[],Yd,V,[]) [2,3,0,1] (⟨aio _,av,hS,hg,.start N hok.2,hR,iL,hU,rfl,λc hc=>(by cases hc)⟩) ?_)))))
  rintro⟨i,b,S,g,Yd,V,tr⟩ ⟨hi,av,hS,hg,hp,hR,iL,hU,htr,hT⟩
  refine SQ (jK 4 [61] [] (NN (cP ((((i:Nat):Int):Int)<(((n:Nat):Int):Int)) (λWl=>KX (ak.seq (ak.block (SR (jN 6 [10] (λb6=>[(2,x_ i n (jA.hd hS (i:=i) zc)),(3,p_ ⟨[.old (.int .i64 ((bq cs i).op)),.old (.int .i64 ((bq cs i).aG)),.old (.int .i64 ((bq cs i).other)),.old (.string (bq cs i).name),.old (.string (bq cs i).text),.old (.slice (bq cs i).dA ((bq cs i).data.length) ((bq cs i).dC)),.old (.int .i64 ((bq cs i).mode)),.old (.int .i64 ((bq cs i).bg)),.old (.int .i64 ((bq cs i).bh)),.old (.int .i64 ((bq cs i).aT)),.old (.int .i64 ((bq cs i).aJ)),.old (.int .i64 ((bq cs i).code)),.old (.int .i64 ((bq cs i).answer))],none,none,none,none⟩ [(Rd b ⟨(bG A1),bE A1+i*13+12,none⟩ (vI ((bq cs i).answer))),(Rd b ⟨(bG A1),bE A1+i*13+11,none⟩ (vI ((bq cs i).code))),(Rd b ⟨(bG A1),bE A1+i*13+10,none⟩ (vI ((bq cs i).aJ))),(Rd b ⟨(bG A1),bE A1+i*13+9,none⟩ (vI ((bq cs i).aT))),(Rd b ⟨(bG A1),bE A1+i*13+8,none⟩ (vI ((bq cs i).bh))),(Rd b ⟨(bG A1),bE A1+i*13+7,none⟩ (vI ((bq cs i).bg))),(Rd b ⟨(bG A1),bE A1+i*13+6,none⟩ (vI ((bq cs i).mode))),(Rd b ⟨(bG A1),bE A1+i*13+5,none⟩ (.slice (bq cs i).dA ((bq cs i).data.length) ((bq cs i).dC))),(Rd b ⟨(bG A1),bE A1+i*13+4,none⟩ (.string (bq cs i).text)),(Rd b ⟨(bG A1),bE A1+i*13+3,none⟩ (.string (bq cs i).name)),(Rd b ⟨(bG A1),bE A1+i*13+2,none⟩ (vI ((bq cs i).other))),(Rd b ⟨(bG A1),bE A1+i*13+1,none⟩ (vI ((bq cs i).aG))),(Rd b ⟨(bG A1),bE A1+i*13,none⟩ (vI ((bq cs i).op)))] ⟨jA.rd hS (i:=i) zc (j:=12) rfl,jA.rd hS (i:=i) zc (j:=11) rfl,jA.rd hS (i:=i) zc (j:=10) rfl,jA.rd hS (i:=i) zc (j:=9) rfl,jA.rd hS (i:=i) zc (j:=8) rfl,jA.rd hS (i:=i) zc (j:=7) rfl,jA.rd hS (i:=i) zc (j:=6) rfl,jA.rd hS (i:=i) zc (j:=5) rfl,jA.rd hS (i:=i) zc (j:=4) rfl,jA.rd hS (i:=i) zc (j:=3) rfl,jA.rd hS (i:=i) zc (j:=2) rfl,jA.rd hS (i:=i) zc (j:=1) rfl,jA.rd hS (i:=i) zc (j:=0) rfl,trivial⟩),(5,A_ 4 b6 13)]) (λ_=>[]) (λb6=>.ax b6 (aO (bq cs i)) 53) (λb6=>NS (jN 9 [11] (λb7=>[(1,a_ 4 b6),(3,a_ 4 b6),(5,a_ 4 b6),(8,A_ 5 b7 13)]) (λ_=>[]) (λb7=>.ax b7 [vI ((bq cs i).op),vI ((bq cs i).aG),vI 0,.string (bq cs i).name,.string ⟨#[]⟩,.slice none (0) (0),vI 0,vI 0,vI 0,vI 0,vI 0,vI 0,vI 0] 53) (λb7=>NS (jK 1 [] [] (NS (jK 1 [13] [] (NN (ak.Vx (ι:=Bs×aH×br×aH×WV×(Option Addr)×Nat×Int) (λ(b2,Q,S2,c2,V2,X1,x1,Ro)=>b2) (λ(b2,Q,S2,c2,V2,X1,x1,Ro)=>((B0 W).le b2)/\(jA b2 A1 cs)/\(kH b2)/\(dF b2 (toR S g) Yd)/\(nH b2 G.Z xs)/\(KW b2 U fs xs)/\(xA b2 tr)/\(gM fs xs aj (i+1) S Q=(S2,c2))/\(bp b2 Q.dA Q.data)/\(Q.data.length<=1048576)/\(Q.data.length<=Q.dC)/\(Q.name.size<=1048576)/\(Q.text.size<=1048576)/\(bp b2 X1 c2.data)/\(c2.answer=Ro)) (λ(b2,Q,S2,c2,V2,X1,x1,Ro)=>[(1,.slice A1 (n) (c1)),(5,vP G.w),(7,vP b5),(9,vI ↑i),(11,vP b7),(12,vI (c2.code)),(13,vI (Ro))]) (λ(b2,Q,S2,c2,V2,X1,x1,Ro)=>[.ax b1 [.slice A (ns.length) (c),vI (aj),vI (X.cN),vI (X.cB),vI (X.cH),vI (X.cS),vI (X.cZ),.slice Af (fs.length) (cf),.slice Aa (xs.length) (ca)] 34,.ax b5 (uV (toR S g) Yd aj U fs.length xs.length (↑i)) 47,pC b7 Q,wA G fs xs aj S2 V2 (tr++[cY X1 x1 c2]),.abs R]) ?_ ?_))))))))))))) (λWl=>XX (SR (jK 1 [4] [] (NN (ak.ret (ay.adX (v:=.bool true) (l:=[]) (eV:=[]) [] [3] av (λ_=>KB) trivial rfl KB (rfl))))))))))
  ·rintro⟨b2,Q,S2,c2,V2,X1,x1,Ro⟩ ⟨av,hS,hg,hR,iL,hU,hT,qp,Y0,hQl,hQc,hQn,hQt,K1,han⟩
   have hd2:c2.data=Q.data:=by have h:=CS (fs:=fs) (xs:=xs) (aj:=aj) (n:=i+1) (S:=S) (c:=Q);rw [qp] at h;exact h
   have Uc:=hT.snoc (c:=cY X1 x1 c2) K1 (by show c2.data.length<=_;rw [hd2];exact hQl)
   have V0:(tr++[cY X1 x1 c2]).length=i+1:=by rw [ait,htr];rfl
   refine SR (jK 2 [203,204] [(0,A_ 1 b5 16),(1,A_ 2 b7 13)] (gL [] (NY hp Yd hR aj U fs xs i zc hU zc dR qp hQn hQt Y0 (air hQl Pd) hQc) ?_))
   rintro _ _ ⟨g2,Y2,B2,p2,rfl,rfl⟩
   refine jB 4 [16,206,207] (λb8=>.ax b8 (uZ) 47) (λb8=>jN 3 [17] (λb9=>[(1,A_ 6 b8 16),(2,A_ 7 b9 13)]) (λb9=>[(6,(zC (uV (toR S2 g2) Y2 aj U fs.length xs.length (↑(i+1)))))]) (λb9=>.ax b9 (aO (gP c2 B2 p2)) 53) (λb9=>NS (ar.ux 0 [1,2,3,4,5,6,7] (eX:=[.ax b1 [.slice A (ns.length) (c),vI (aj),vI (X.cN),vI (X.cB),vI (X.cH),vI (X.cS),vI (X.cZ),.slice Af (fs.length) (cf),.slice Aa (xs.length) (ca)] 34,.ax b5 (uV (toR S g) Yd aj U fs.length xs.length (↑i)) 47,.ax b7 (aO Q) 53,wA G fs xs aj S2 V2 (tr++[cY X1 x1 c2]),.abs R,.ax b8 (uV (toR S2 g2) Y2 aj U fs.length xs.length (↑(i+1))) 47,.ax b9 (aO (gP c2 B2 p2)) 53]) rfl rfl KB (λFR ji ⟨hp2,uq,Ky⟩=>?_))))
   replace hS:=hS.le ji
   replace hg:=hg.le ji
   replace hR:=hR.le ji
   replace iL:=iL.le ji
   replace hU:=hU.le ji
   replace hT:=hT.le ji
   replace Y0:=Y0.le ji
   replace K1:=K1.le ji
   replace Uc:=Uc.le ji
   replace av:=av.trans ji
   refine jC 2 [] [(0,A_ 5 b8 16),(1,A_ 1 b5 16)] [(1,[(0,.slice Y2.A ((toR S2 g2).ns.length) (Y2.c)),(1,.slice Y2.G ((toR S2 g2).aE.length) (Y2.cg)),(2,vI ((toR S2 g2).cH)),(3,vI ((toR S2 g2).aI)),(4,.slice Y2.H ((toR S2 g2).us.length) (Y2.ch)),(5,.slice Y2.V ((toR S2 g2).us.length) (Y2.cv)),(6,vI ((toR S2 g2).cN)),(7,vI ((toR S2 g2).cB)),(8,vI ((toR S2 g2).cH)),(9,vI ((toR S2 g2).cS)),(10,vI ((toR S2 g2).cZ)),(11,vI ((toR S2 g2).last)),(15,vI ↑(i+1))])] (NS (jK 1 [209] [] (gu [3] (YZ (β:=FR) (G:=G) (fs:=fs) (xs:=xs) (aj:=aj) (S:=S2) (V:=V2) (tr:=(tr++[cY X1 x1 c2])) zc Uc) ?_)))
   rintro pZ _ _ j4 ⟨nK,Bd,os,rfl,rfl,hO,hM1⟩
   replace hS:=hS.le j4
   replace hg:=hg.le j4
   replace hR:=hR.le j4
   replace iL:=iL.le j4
   replace hU:=hU.le j4
   replace hT:=hT.le j4
   replace Y0:=Y0.le j4
   replace K1:=K1.le j4
   replace Uc:=Uc.le j4
   replace uq:=uq.le j4
   replace Ky:=Ky.le j4
   replace av:=av.trans j4
   have hol:os.length=i+1:=(adP hM1).trans V0
   refine sl 210 (.slice nK ((tr++[cY X1 x1 c2]).length) (Bd)) (.slice nK ((i+1)) (Bd)) (ail (λn=>Value.slice _ n _) V0) (jK 1 [18] [] (NN (ak.seq (jM [0,1,2,3,4,5,6,7,8,9,10,11,12,13,14,15,16,17,18,19,20,21,22,23,24,25,26,27,28,29,530,31,32,33,34,35,536,37,538] [6,2] (jG 30 [1,5,7,9,233,239,240] [(2,a_ 0 b9),(3,wNT ((c2.code:Int)=(c2.code:Int)) rfl),(7,a_ 0 b9),(8,w_ (.bool false) (ail (λb=>Value.bool !b) (aiD han.symm))),(14,a_ 1 b5),(15,wNT (((((i+1):Nat):Int):Int)=((((i+1):Nat):Int):Int)) rfl),(20,wF (((((i+1):Nat):Int):Int)=(0:Int))),(26,wJ ((((i+1):Nat):Int)-1) (↑i)),(27,x_ i (i+1) (vU.hd hO (i:=i) zc)),(28,p_ ⟨[.old (.int .i64 ((bq os i).op)),.old (.int .i64 ((bq os i).aG)),.old (.int .i64 ((bq os i).other)),.old (.string (bq os i).name),.old (.string (bq os i).text),.old (.slice (bq os i).dA ((bq os i).data.length) ((bq os i).dC)),.old (.int .i64 ((bq os i).mode)),.old (.int .i64 ((bq os i).bg)),.old (.int .i64 ((bq os i).bh)),.old (.int .i64 ((bq os i).aT)),.old (.int .i64 ((bq os i).aJ)),.old (.int .i64 ((bq os i).code)),.old (.int .i64 ((bq os i).answer))],none,none,none,none⟩ [(Rd pZ ⟨(bG nK),bE nK+i*13+12,none⟩ (vI ((bq os i).answer))),(Rd pZ ⟨(bG nK),bE nK+i*13+11,none⟩ (vI ((bq os i).code))),(Rd pZ ⟨(bG nK),bE nK+i*13+10,none⟩ (vI ((bq os i).aJ))),(Rd pZ ⟨(bG nK),bE nK+i*13+9,none⟩ (vI ((bq os i).aT))),(Rd pZ ⟨(bG nK),bE nK+i*13+8,none⟩ (vI ((bq os i).bh))),(Rd pZ ⟨(bG nK),bE nK+i*13+7,none⟩ (vI ((bq os i).bg))),(Rd pZ ⟨(bG nK),bE nK+i*13+6,none⟩ (vI ((bq os i).mode))),(Rd pZ ⟨(bG nK),bE nK+i*13+5,none⟩ (.slice (bq os i).dA ((bq os i).data.length) ((bq os i).dC))),(Rd pZ ⟨(bG nK),bE nK+i*13+4,none⟩ (.string (bq os i).text)),(Rd pZ ⟨(bG nK),bE nK+i*13+3,none⟩ (.string (bq os i).name)),(Rd pZ ⟨(bG nK),bE nK+i*13+2,none⟩ (vI ((bq os i).other))),(Rd pZ ⟨(bG nK),bE nK+i*13+1,none⟩ (vI ((bq os i).aG))),(Rd pZ ⟨(bG nK),bE nK+i*13,none⟩ (vI ((bq os i).op)))] ⟨vU.rd hO (i:=i) zc (j:=12) rfl,vU.rd hO (i:=i) zc (j:=11) rfl,vU.rd hO (i:=i) zc (j:=10) rfl,vU.rd hO (i:=i) zc (j:=9) rfl,vU.rd hO (i:=i) zc (j:=8) rfl,vU.rd hO (i:=i) zc (j:=7) rfl,vU.rd hO (i:=i) zc (j:=6) rfl,vU.rd hO (i:=i) zc (j:=5) rfl,vU.rd hO (i:=i) zc (j:=4) rfl,vU.rd hO (i:=i) zc (j:=3) rfl,vU.rd hO (i:=i) zc (j:=2) rfl,vU.rd hO (i:=i) zc (j:=1) rfl,vU.rd hO (i:=i) zc (j:=0) rfl,trivial⟩),(29,A_ 0 b9 13)] (kL [6,2] [] (Rq (bq os i) (cY B2 p2 c2) (adQ (d:=cY X1 x1 c2) hM1 htr) (hO.dat _ (Dz zc)).1 Ky (air (hO.dat _ (Dz zc)).2 Pd)) ?_ (by rintro _ _ ⟨rfl,rfl⟩;kernel_rfl)))))))
   rintro _ _ ⟨rfl,rfl⟩
   refine jG 5 [1,5,7,9,244,245,246] [(4,A_ 1 b5 16)] (kL [6,2] [0] ((VX (β:=pZ) hp2 Y2 uq G fs xs aj V2 (tr++[cY X1 x1 c2]) U fs.length xs.length (n:=i+1) (by rw [V0]))) ?_ (by rintro _ _ ⟨rfl,rfl⟩;kernel_rfl))
   rintro _ _ ⟨rfl,rfl⟩
   exact jG 1 [1,5,7,9,244,248] [] (eH.last KB (jK 1 [249] [] (NL (ay.np (NX (CF (KX (ak.region (jK 3 [9] [(1,wJ ((i:Int)+1) (↑(i+1)))] (NL (tB ((i+1),pZ,S2,g2,Y2,V2,(tr++[cY X1 x1 c2])) [1,2,0,4] (⟨zc,av,hS,hg,hp2,uq,iL,hU,V0,Uc⟩))))))))))))
  refine SR (jK 2 [76] [(1,a_ 4 b6)] (NN (ak.block (SR (jK 2 [88] [] (NN (cP (((bq cs i).op:Int)=(1:Int)) (λh88=>?_) (λh88=>?_))))))))
  ·refine SR (jC 6 [] [(1,a_ 4 b6),(3,a_ 4 b6),(5,A_ 5 b7 13)] [(5,[(1,vI 0),(2,vI ((bq cs i).other)),(3,.string ⟨#[]⟩)])] (NN ?_))
   skip
   obtain⟨⟨S2,c2⟩,qp⟩:∃q,gM fs xs aj (i+1) S (⟨1,0,(bq cs i).other,⟨#[]⟩,⟨#[]⟩,none,0,[],0,0,0,0,0,0,0⟩:aH)=q:=⟨_,rfl⟩
   refine ak.qZ (S:=[.ax b6 (aO (bq cs i)) 53,.abs (o8 G)]) [(true,0),(true,1),(true,2),(true,3),(true,4),(true,5),(false,6),(true,7),(true,8),(true,9),(true,10),(false,11)] KB KB (λ_ h=>(h.BI (i:=2) rfl).pick (aq:=[4,2]) rfl rfl) (jG 6 [1,5,7,9,11,99,101] [(3,p_ ⟨[.view 1 (.iface 37 (vP G.w))],none,none,none,none⟩ [(∀F w,(o8 G).h F w->w.cell? ⟨G.w,0,none⟩=some (.iface 37 (vP G.w)))] ⟨o3,trivial⟩),(5,a_ 0 b6)] (eH.Mz ?_))
   have oY:Grown b b:=.inl rfl
   refine kr.CG (ι:=Bs×WV×(Option Addr)×Nat) (B:=λ((sJ,K2,HZ,K3):Bs×WV×(Option Addr)×Nat)=>sJ) (Φ:=λ((sJ,K2,HZ,K3):Bs×WV×(Option Addr)×Nat)=>(bp sJ HZ c2.data)) (bL:=λ((sJ,K2,HZ,K3):Bs×WV×(Option Addr)×Nat)=>[(1,.slice A1 (n) (c1)),(5,vP G.w),(7,vP b5),(9,vI ↑i),(11,vP b7),(102,.tuple #[vI (c2.answer),vI (c2.code)])]) (cR:=λ((sJ,K2,HZ,K3):Bs×WV×(Option Addr)×Nat)=>[wA G fs xs aj S2 K2 (tr++[cY HZ K3 c2]),.ax b1 [.slice A (ns.length) (c),vI (aj),vI (X.cN),vI (X.cB),vI (X.cH),vI (X.cS),vI (X.cZ),.slice Af (fs.length) (cf),.slice Aa (xs.length) (ca)] 34,.ax b5 (uV (toR S g) Yd aj U fs.length xs.length (↑i)) 47,.abs R,.ax b6 (aO (bq cs i)) 53,.ax b7 [vI ((bq cs i).op),vI 0,vI ((bq cs i).other),.string ⟨#[]⟩,.string ⟨#[]⟩,.slice none (0) (0),vI 0,vI 0,vI 0,vI 0,vI 0,vI 0,vI 0] 53]) oY KB ?_ (λ_ _ h=>(h.BI (i:=0) rfl).pick (aq:=[4,0]) rfl rfl) ?_
   ·refine gu [2] (aaH (β:=b) (G:=G) (fs:=fs) (xs:=xs) (S:=S) (V:=V) (tr:=tr) (S2:=S2) (c2:=c2) hrw hp.inv zc iL dR hg (bq cs i).other (hS.q i zc).ow (by rw [htr];exact qp)) ?_
    rintro sJ _ _ gV ⟨K2,HZ,K3,rfl,rfl,abP⟩
    replace hS:=hS.le gV
    replace hg:=hg.le gV
    replace iL:=iL.le gV
    replace hR:=hR.le gV
    replace hU:=hU.le gV
    replace hT:=hT.le gV
    replace av:=av.trans gV
    exact NL (ay.DJ (sJ,K2,HZ,K3) rfl gV (abP) (aq:=[1,5,7,9,11,102]) (pk:=[0,1,2,3,4,5]) (λ_=>KB) rfl KB)
   rintro⟨sJ,K2,HZ,K3⟩ gV abP
   show kr _ sJ _ _ _ _ _ [(1,.slice A1 (n) (c1)),(5,vP G.w),(7,vP b5),(9,vI ↑i),(11,vP b7),(102,.tuple #[vI (c2.answer),vI (c2.code)])] [wA G fs xs aj S2 K2 (tr++[cY HZ K3 c2]),.ax b1 [.slice A (ns.length) (c),vI (aj),vI (X.cN),vI (X.cB),vI (X.cH),vI (X.cS),vI (X.cZ),.slice Af (fs.length) (cf),.slice Aa (xs.length) (ca)] 34,.ax b5 (uV (toR S g) Yd aj U fs.length xs.length (↑i)) 47,.abs R,pC b6 (bq cs i),.ax b7 [vI ((bq cs i).op),vI 0,vI ((bq cs i).other),.string ⟨#[]⟩,.string ⟨#[]⟩,.slice none (0) (0),vI 0,vI 0,vI 0,vI 0,vI 0,vI 0,vI 0] 53] _
   replace hS:=hS.le gV
   replace hg:=hg.le gV
   replace iL:=iL.le gV
   replace hR:=hR.le gV
   replace hU:=hU.le gV
   replace hT:=hT.le gV
   replace av:=av.trans gV
   replace oY:=oY.trans gV
   exact gH [(false,11)] [(1,.slice A1 (n) (c1)),(5,vP G.w),(7,vP b5),(9,vI ↑i),(11,vP b7),(13,vI (c2.answer)),(104,vI (c2.code))] [7,8,9,10] [] (kr.last KB (jK 1 [12] [] (NL (ay.np (ay.gh (ay.zQ (sJ,(⟨(bq cs i).op,0,(bq cs i).other,⟨#[]⟩,⟨#[]⟩,none,0,[],0,0,0,0,0,0,0⟩:aH),S2,c2,K2,HZ,K3,c2.answer) rfl (aq:=[1,5,7,9,11,12,13]) (pk:=[1,2,5,0,3]) (⟨av,hS,hg,hR,iL,hU,hT,(by rw [h88];exact qp),(λj v h=>by cases h),aio _,aio _,aio _,aio _,abP,rfl⟩) (λ_=>KB) rfl KB))))))
  refine SR (jK 2 [105] [] (NN (cP (((bq cs i).op:Int)=(2:Int)) (λafK=>?_) (λafK=>?_))))
  ·skip
   obtain⟨⟨S2,c2⟩,qp⟩:∃q,gM fs xs aj (i+1) S (⟨2,(bq cs i).aG,0,(bq cs i).name,⟨#[]⟩,none,0,[],0,0,0,0,0,0,0⟩:aH)=q:=⟨_,rfl⟩
   refine ak.qZ (S:=[.ax b6 (aO (bq cs i)) 53,.abs (o8 G)]) [(true,0),(true,1),(true,2),(true,3),(true,4),(true,5),(true,6),(true,7),(false,8),(true,9),(true,10),(true,11),(true,12),(false,13)] KB KB (λ_ h=>(h.BI (i:=2) rfl).pick (aq:=[4,2]) rfl rfl) (jG 8 [1,5,7,9,11,111,113,115] [(3,p_ ⟨[.view 1 (.iface 37 (vP G.w))],none,none,none,none⟩ [(∀F w,(o8 G).h F w->w.cell? ⟨G.w,0,none⟩=some (.iface 37 (vP G.w)))] ⟨o3,trivial⟩),(5,a_ 0 b6),(7,a_ 0 b6)] (eH.Mz ?_))
   have oY:Grown b b:=.inl rfl
   refine kr.CG (ι:=Bs×WV×(Option Addr)×Nat) (B:=λ((vg,K5,H6,x20):Bs×WV×(Option Addr)×Nat)=>vg) (Φ:=λ((vg,K5,H6,x20):Bs×WV×(Option Addr)×Nat)=>(bp vg H6 c2.data)) (bL:=λ((vg,K5,H6,x20):Bs×WV×(Option Addr)×Nat)=>[(1,.slice A1 (n) (c1)),(5,vP G.w),(7,vP b5),(9,vI ↑i),(11,vP b7),(116,.tuple #[vI (c2.answer),vI (c2.code)])]) (cR:=λ((vg,K5,H6,x20):Bs×WV×(Option Addr)×Nat)=>[wA G fs xs aj S2 K5 (tr++[cY H6 x20 c2]),.ax b1 [.slice A (ns.length) (c),vI (aj),vI (X.cN),vI (X.cB),vI (X.cH),vI (X.cS),vI (X.cZ),.slice Af (fs.length) (cf),.slice Aa (xs.length) (ca)] 34,.ax b5 (uV (toR S g) Yd aj U fs.length xs.length (↑i)) 47,.abs R,.ax b6 (aO (bq cs i)) 53,.ax b7 [vI ((bq cs i).op),vI ((bq cs i).aG),vI 0,.string (bq cs i).name,.string ⟨#[]⟩,.slice none (0) (0),vI 0,vI 0,vI 0,vI 0,vI 0,vI 0,vI 0] 53]) oY KB ?_ (λ_ _ h=>(h.BI (i:=0) rfl).pick (aq:=[4,0]) rfl rfl) ?_
   ·refine gu [2] (Sj (β:=b) (G:=G) (fs:=fs) (xs:=xs) (S:=S) (V:=V) (tr:=tr) (S2:=S2) (c2:=c2) hrw hp.inv zc iL dR hg (bq cs i).aG (hS.q i zc).hw (bq cs i).name (hS.q i zc).name (by rw [htr];exact qp)) ?_
    rintro vg _ _ iJ ⟨K5,H6,x20,rfl,rfl,abQ⟩
    replace hS:=hS.le iJ
    replace hg:=hg.le iJ
    replace iL:=iL.le iJ
    replace hR:=hR.le iJ
    replace hU:=hU.le iJ
    replace hT:=hT.le iJ
    replace av:=av.trans iJ
    exact NL (ay.DJ (vg,K5,H6,x20) rfl iJ (abQ) (aq:=[1,5,7,9,11,116]) (pk:=[0,1,2,3,4,5]) (λ_=>KB) rfl KB)
   rintro⟨vg,K5,H6,x20⟩ iJ abQ
   show kr _ vg _ _ _ _ _ [(1,.slice A1 (n) (c1)),(5,vP G.w),(7,vP b5),(9,vI ↑i),(11,vP b7),(116,.tuple #[vI (c2.answer),vI (c2.code)])] [wA G fs xs aj S2 K5 (tr++[cY H6 x20 c2]),.ax b1 [.slice A (ns.length) (c),vI (aj),vI (X.cN),vI (X.cB),vI (X.cH),vI (X.cS),vI (X.cZ),.slice Af (fs.length) (cf),.slice Aa (xs.length) (ca)] 34,.ax b5 (uV (toR S g) Yd aj U fs.length xs.length (↑i)) 47,.abs R,pC b6 (bq cs i),.ax b7 [vI ((bq cs i).op),vI ((bq cs i).aG),vI 0,.string (bq cs i).name,.string ⟨#[]⟩,.slice none (0) (0),vI 0,vI 0,vI 0,vI 0,vI 0,vI 0,vI 0] 53] _
   replace hS:=hS.le iJ
   replace hg:=hg.le iJ
   replace iL:=iL.le iJ
   replace hR:=hR.le iJ
   replace hU:=hU.le iJ
   replace hT:=hT.le iJ
   replace av:=av.trans iJ
   replace oY:=oY.trans iJ
   exact gH [(false,13)] [(1,.slice A1 (n) (c1)),(5,vP G.w),(7,vP b5),(9,vI ↑i),(11,vP b7),(13,vI (c2.answer)),(118,vI (c2.code))] [9,10,11,12] [] (kr.last KB (jK 1 [12] [] (NL (ay.np (ay.gh (ay.zQ (vg,(⟨(bq cs i).op,(bq cs i).aG,0,(bq cs i).name,⟨#[]⟩,none,0,[],0,0,0,0,0,0,0⟩:aH),S2,c2,K5,H6,x20,c2.answer) rfl (aq:=[1,5,7,9,11,12,13]) (pk:=[1,2,5,0,3]) (⟨av,hS,hg,hR,iL,hU,hT,(by rw [afK];exact qp),(λj v h=>by cases h),aio _,aio _,(hS.q i zc).name,aio _,abQ,rfl⟩) (λ_=>KB) rfl KB))))))
  refine SR (jK 2 [119] [] (NN (cP (((bq cs i).op:Int)=(4:Int)) (λDU=>?_) (λDU=>?_))))
  ·refine SR (jC 4 [] [(1,a_ 4 b6),(3,a_ 5 b7)] [(5,[(6,vI ((bq cs i).mode))])] (NN ?_))
   skip
   obtain⟨⟨S2,c2⟩,qp⟩:∃q,gM fs xs aj (i+1) S (⟨4,(bq cs i).aG,0,(bq cs i).name,⟨#[]⟩,none,0,[],(bq cs i).mode,0,0,0,0,0,0⟩:aH)=q:=⟨_,rfl⟩
   refine ak.qZ (S:=[.ax b6 (aO (bq cs i)) 53,.abs (o8 G)]) [(true,0),(true,1),(true,2),(true,3),(true,4),(true,5),(true,6),(true,7),(true,8),(true,9),(false,10),(false,11)] KB KB (λ_ h=>(h.BI (i:=2) rfl).pick (aq:=[4,2]) rfl rfl) (jG 10 [1,5,7,9,11,13,127,129,131,133] [(3,p_ ⟨[.view 1 (.iface 37 (vP G.w))],none,none,none,none⟩ [(∀F w,(o8 G).h F w->w.cell? ⟨G.w,0,none⟩=some (.iface 37 (vP G.w)))] ⟨o3,trivial⟩),(5,a_ 0 b6),(7,a_ 0 b6),(9,a_ 0 b6)] (eH.Mz ?_))
   have oY:Grown b b:=.inl rfl
   refine kr.CG (ι:=Bs×WV×(Option Addr)×Nat) (B:=λ((C2,K6,H7,K7):Bs×WV×(Option Addr)×Nat)=>C2) (Φ:=λ((C2,K6,H7,K7):Bs×WV×(Option Addr)×Nat)=>(bp C2 H7 c2.data)) (bL:=λ((C2,K6,H7,K7):Bs×WV×(Option Addr)×Nat)=>[(1,.slice A1 (n) (c1)),(5,vP G.w),(7,vP b5),(9,vI ↑i),(11,vP b7),(13,vI 0),(134,vI (c2.code))]) (cR:=λ((C2,K6,H7,K7):Bs×WV×(Option Addr)×Nat)=>[wA G fs xs aj S2 K6 (tr++[cY H7 K7 c2]),.ax b1 [.slice A (ns.length) (c),vI (aj),vI (X.cN),vI (X.cB),vI (X.cH),vI (X.cS),vI (X.cZ),.slice Af (fs.length) (cf),.slice Aa (xs.length) (ca)] 34,.ax b5 (uV (toR S g) Yd aj U fs.length xs.length (↑i)) 47,.abs R,.ax b6 (aO (bq cs i)) 53,.ax b7 [vI ((bq cs i).op),vI ((bq cs i).aG),vI 0,.string (bq cs i).name,.string ⟨#[]⟩,.slice none (0) (0),vI ((bq cs i).mode),vI 0,vI 0,vI 0,vI 0,vI 0,vI 0] 53]) oY KB ?_ (λ_ _ h=>(h.BI (i:=0) rfl).pick (aq:=[4,0]) rfl rfl) ?_
   ·refine gu [2] (XE (β:=b) (G:=G) (fs:=fs) (xs:=xs) (S:=S) (V:=V) (tr:=tr) (S2:=S2) (c2:=c2) hrw hp.inv zc iL dR hg (bq cs i).aG (hS.q i zc).hw (bq cs i).name (hS.q i zc).name (bq cs i).mode (by rw [htr];exact qp)) ?_
    rintro C2 _ _ lM ⟨K6,H7,K7,rfl,rfl,abR⟩
    replace hS:=hS.le lM
    replace hg:=hg.le lM
    replace iL:=iL.le lM
    replace hR:=hR.le lM
    replace hU:=hU.le lM
    replace hT:=hT.le lM
    replace av:=av.trans lM
    exact NL (ay.DJ (C2,K6,H7,K7) rfl lM (abR) (aq:=[1,5,7,9,11,13,134]) (pk:=[0,1,2,3,4,5]) (λ_=>KB) rfl KB)
   rintro⟨C2,K6,H7,K7⟩ lM abR
   show kr _ C2 _ _ _ _ _ [(1,.slice A1 (n) (c1)),(5,vP G.w),(7,vP b5),(9,vI ↑i),(11,vP b7),(13,vI 0),(134,vI (c2.code))] [wA G fs xs aj S2 K6 (tr++[cY H7 K7 c2]),.ax b1 [.slice A (ns.length) (c),vI (aj),vI (X.cN),vI (X.cB),vI (X.cH),vI (X.cS),vI (X.cZ),.slice Af (fs.length) (cf),.slice Aa (xs.length) (ca)] 34,.ax b5 (uV (toR S g) Yd aj U fs.length xs.length (↑i)) 47,.abs R,pC b6 (bq cs i),.ax b7 [vI ((bq cs i).op),vI ((bq cs i).aG),vI 0,.string (bq cs i).name,.string ⟨#[]⟩,.slice none (0) (0),vI ((bq cs i).mode),vI 0,vI 0,vI 0,vI 0,vI 0,vI 0] 53] _
   replace hS:=hS.le lM
   replace hg:=hg.le lM
   replace iL:=iL.le lM
   replace hR:=hR.le lM
   replace hU:=hU.le lM
   replace hT:=hT.le lM
   replace av:=av.trans lM
   replace oY:=oY.trans lM
   exact kr.last KB (jK 1 [12] [] (NL (ay.np (ay.gh (ay.zQ (C2,(⟨(bq cs i).op,(bq cs i).aG,0,(bq cs i).name,⟨#[]⟩,none,0,[],(bq cs i).mode,0,0,0,0,0,0⟩:aH),S2,c2,K6,H7,K7,0) rfl (aq:=[1,5,7,9,11,12,13]) (pk:=[1,2,5,0,3]) (⟨av,hS,hg,hR,iL,hU,hT,(by rw [DU];exact qp),(λj v h=>by cases h),aio _,aio _,(hS.q i zc).name,aio _,abR,(by have h:=CZ (fs:=fs) (xs:=xs) (aj:=aj) (n:=i+1) (S:=S) (c:=(⟨4,(bq cs i).aG,0,(bq cs i).name,⟨#[]⟩,none,0,[],(bq cs i).mode,0,0,0,0,0,0⟩:aH)) (by show (4:Int)=4\/(4:Int)=8\/(4:Int)=13;decide);rw [qp] at h;exact h)⟩) (λ_=>KB) rfl KB)))))
  refine SR (jK 2 [135] [] (NN (cP (((bq cs i).op:Int)=(5:Int)) (λafL=>?_) (λafL=>?_))))
  ·refine SR (jC 4 [] [(1,a_ 4 b6),(3,a_ 5 b7)] [(5,[(6,vI ((bq cs i).mode))])] (NN ?_))
   skip
   obtain⟨⟨S2,c2⟩,qp⟩:∃q,gM fs xs aj (i+1) S (⟨5,(bq cs i).aG,0,(bq cs i).name,⟨#[]⟩,none,0,[],(bq cs i).mode,0,0,0,0,0,0⟩:aH)=q:=⟨_,rfl⟩
   refine ak.qZ (S:=[.ax b6 (aO (bq cs i)) 53,.abs (o8 G)]) [(true,0),(true,1),(true,2),(true,3),(true,4),(true,5),(true,6),(true,7),(true,8),(true,9),(false,10),(true,11),(true,12),(true,13),(true,14),(false,15)] KB KB (λ_ h=>(h.BI (i:=2) rfl).pick (aq:=[4,2]) rfl rfl) (jG 10 [1,5,7,9,11,144,146,148,150] [(3,p_ ⟨[.view 1 (.iface 37 (vP G.w))],none,none,none,none⟩ [(∀F w,(o8 G).h F w->w.cell? ⟨G.w,0,none⟩=some (.iface 37 (vP G.w)))] ⟨o3,trivial⟩),(5,a_ 0 b6),(7,a_ 0 b6),(9,a_ 0 b6)] (eH.Mz ?_))
   have oY:Grown b b:=.inl rfl
   refine kr.CG (ι:=Bs×WV×(Option Addr)×Nat) (B:=λ((C3,K8,H8,x28):Bs×WV×(Option Addr)×Nat)=>C3) (Φ:=λ((C3,K8,H8,x28):Bs×WV×(Option Addr)×Nat)=>(bp C3 H8 c2.data)) (bL:=λ((C3,K8,H8,x28):Bs×WV×(Option Addr)×Nat)=>[(1,.slice A1 (n) (c1)),(5,vP G.w),(7,vP b5),(9,vI ↑i),(11,vP b7),(151,.tuple #[vI (c2.answer),vI (c2.code)])]) (cR:=λ((C3,K8,H8,x28):Bs×WV×(Option Addr)×Nat)=>[wA G fs xs aj S2 K8 (tr++[cY H8 x28 c2]),.ax b1 [.slice A (ns.length) (c),vI (aj),vI (X.cN),vI (X.cB),vI (X.cH),vI (X.cS),vI (X.cZ),.slice Af (fs.length) (cf),.slice Aa (xs.length) (ca)] 34,.ax b5 (uV (toR S g) Yd aj U fs.length xs.length (↑i)) 47,.abs R,.ax b6 (aO (bq cs i)) 53,.ax b7 [vI ((bq cs i).op),vI ((bq cs i).aG),vI 0,.string (bq cs i).name,.string ⟨#[]⟩,.slice none (0) (0),vI ((bq cs i).mode),vI 0,vI 0,vI 0,vI 0,vI 0,vI 0] 53]) oY KB ?_ (λ_ _ h=>(h.BI (i:=0) rfl).pick (aq:=[4,0]) rfl rfl) ?_
   ·refine gu [2] (Vp (β:=b) (G:=G) (fs:=fs) (xs:=xs) (S:=S) (V:=V) (tr:=tr) (S2:=S2) (c2:=c2) hrw hp.inv zc iL dR hg (bq cs i).aG (hS.q i zc).hw (bq cs i).name (hS.q i zc).name (bq cs i).mode (by rw [htr];exact qp)) ?_
    rintro C3 _ _ lN ⟨K8,H8,x28,rfl,rfl,abS⟩
    replace hS:=hS.le lN
    replace hg:=hg.le lN
    replace iL:=iL.le lN
    replace hR:=hR.le lN
    replace hU:=hU.le lN
    replace hT:=hT.le lN
    replace av:=av.trans lN
    exact NL (ay.DJ (C3,K8,H8,x28) rfl lN (abS) (aq:=[1,5,7,9,11,151]) (pk:=[0,1,2,3,4,5]) (λ_=>KB) rfl KB)
   rintro⟨C3,K8,H8,x28⟩ lN abS
   show kr _ C3 _ _ _ _ _ [(1,.slice A1 (n) (c1)),(5,vP G.w),(7,vP b5),(9,vI ↑i),(11,vP b7),(151,.tuple #[vI (c2.answer),vI (c2.code)])] [wA G fs xs aj S2 K8 (tr++[cY H8 x28 c2]),.ax b1 [.slice A (ns.length) (c),vI (aj),vI (X.cN),vI (X.cB),vI (X.cH),vI (X.cS),vI (X.cZ),.slice Af (fs.length) (cf),.slice Aa (xs.length) (ca)] 34,.ax b5 (uV (toR S g) Yd aj U fs.length xs.length (↑i)) 47,.abs R,pC b6 (bq cs i),.ax b7 [vI ((bq cs i).op),vI ((bq cs i).aG),vI 0,.string (bq cs i).name,.string ⟨#[]⟩,.slice none (0) (0),vI ((bq cs i).mode),vI 0,vI 0,vI 0,vI 0,vI 0,vI 0] 53] _
   replace hS:=hS.le lN
   replace hg:=hg.le lN
   replace iL:=iL.le lN
   replace hR:=hR.le lN
   replace hU:=hU.le lN
   replace hT:=hT.le lN
   replace av:=av.trans lN
   replace oY:=oY.trans lN
   exact gH [(false,15)] [(1,.slice A1 (n) (c1)),(5,vP G.w),(7,vP b5),(9,vI ↑i),(11,vP b7),(13,vI (c2.answer)),(153,vI (c2.code))] [11,12,13,14] [] (kr.last KB (jK 1 [12] [] (NL (ay.np (ay.gh (ay.zQ (C3,(⟨(bq cs i).op,(bq cs i).aG,0,(bq cs i).name,⟨#[]⟩,none,0,[],(bq cs i).mode,0,0,0,0,0,0⟩:aH),S2,c2,K8,H8,x28,c2.answer) rfl (aq:=[1,5,7,9,11,12,13]) (pk:=[1,2,5,0,3]) (⟨av,hS,hg,hR,iL,hU,hT,(by rw [afL];exact qp),(λj v h=>by cases h),aio _,aio _,(hS.q i zc).name,aio _,abS,rfl⟩) (λ_=>KB) rfl KB))))))
  refine SR (jK 2 [154] [] (NN (cP (((bq cs i).op:Int)=(8:Int)) (λafM=>?_) (λafM=>?_))))
  ·skip
   obtain⟨⟨S2,c2⟩,qp⟩:∃q,gM fs xs aj (i+1) S (⟨8,(bq cs i).aG,0,(bq cs i).name,⟨#[]⟩,none,0,[],0,0,0,0,0,0,0⟩:aH)=q:=⟨_,rfl⟩
   refine ak.qZ (S:=[.ax b6 (aO (bq cs i)) 53,.abs (o8 G)]) [(true,0),(true,1),(true,2),(true,3),(true,4),(true,5),(true,6),(true,7),(false,8),(false,9)] KB KB (λ_ h=>(h.BI (i:=2) rfl).pick (aq:=[4,2]) rfl rfl) (jG 8 [1,5,7,9,11,13,159,161,163] [(3,p_ ⟨[.view 1 (.iface 37 (vP G.w))],none,none,none,none⟩ [(∀F w,(o8 G).h F w->w.cell? ⟨G.w,0,none⟩=some (.iface 37 (vP G.w)))] ⟨o3,trivial⟩),(5,a_ 0 b6),(7,a_ 0 b6)] (eH.Mz ?_))
   have oY:Grown b b:=.inl rfl
   refine kr.CG (ι:=Bs×WV×(Option Addr)×Nat) (B:=λ((zf,K9,H9,x32):Bs×WV×(Option Addr)×Nat)=>zf) (Φ:=λ((zf,K9,H9,x32):Bs×WV×(Option Addr)×Nat)=>(bp zf H9 c2.data)) (bL:=λ((zf,K9,H9,x32):Bs×WV×(Option Addr)×Nat)=>[(1,.slice A1 (n) (c1)),(5,vP G.w),(7,vP b5),(9,vI ↑i),(11,vP b7),(13,vI 0),(164,vI (c2.code))]) (cR:=λ((zf,K9,H9,x32):Bs×WV×(Option Addr)×Nat)=>[wA G fs xs aj S2 K9 (tr++[cY H9 x32 c2]),.ax b1 [.slice A (ns.length) (c),vI (aj),vI (X.cN),vI (X.cB),vI (X.cH),vI (X.cS),vI (X.cZ),.slice Af (fs.length) (cf),.slice Aa (xs.length) (ca)] 34,.ax b5 (uV (toR S g) Yd aj U fs.length xs.length (↑i)) 47,.abs R,.ax b6 (aO (bq cs i)) 53,.ax b7 [vI ((bq cs i).op),vI ((bq cs i).aG),vI 0,.string (bq cs i).name,.string ⟨#[]⟩,.slice none (0) (0),vI 0,vI 0,vI 0,vI 0,vI 0,vI 0,vI 0] 53]) oY KB ?_ (λ_ _ h=>(h.BI (i:=0) rfl).pick (aq:=[4,0]) rfl rfl) ?_
   ·refine gu [2] (Vq (β:=b) (G:=G) (fs:=fs) (xs:=xs) (S:=S) (V:=V) (tr:=tr) (S2:=S2) (c2:=c2) hrw hp.inv zc iL dR hg (bq cs i).aG (hS.q i zc).hw (bq cs i).name (hS.q i zc).name (by rw [htr];exact qp)) ?_
    rintro zf _ _ kD ⟨K9,H9,x32,rfl,rfl,abT⟩
    replace hS:=hS.le kD
    replace hg:=hg.le kD
    replace iL:=iL.le kD
    replace hR:=hR.le kD
    replace hU:=hU.le kD
    replace hT:=hT.le kD
    replace av:=av.trans kD
    exact NL (ay.DJ (zf,K9,H9,x32) rfl kD (abT) (aq:=[1,5,7,9,11,13,164]) (pk:=[0,1,2,3,4,5]) (λ_=>KB) rfl KB)
   rintro⟨zf,K9,H9,x32⟩ kD abT
   show kr _ zf _ _ _ _ _ [(1,.slice A1 (n) (c1)),(5,vP G.w),(7,vP b5),(9,vI ↑i),(11,vP b7),(13,vI 0),(164,vI (c2.code))] [wA G fs xs aj S2 K9 (tr++[cY H9 x32 c2]),.ax b1 [.slice A (ns.length) (c),vI (aj),vI (X.cN),vI (X.cB),vI (X.cH),vI (X.cS),vI (X.cZ),.slice Af (fs.length) (cf),.slice Aa (xs.length) (ca)] 34,.ax b5 (uV (toR S g) Yd aj U fs.length xs.length (↑i)) 47,.abs R,pC b6 (bq cs i),.ax b7 [vI ((bq cs i).op),vI ((bq cs i).aG),vI 0,.string (bq cs i).name,.string ⟨#[]⟩,.slice none (0) (0),vI 0,vI 0,vI 0,vI 0,vI 0,vI 0,vI 0] 53] _
   replace hS:=hS.le kD
   replace hg:=hg.le kD
   replace iL:=iL.le kD
   replace hR:=hR.le kD
   replace hU:=hU.le kD
   replace hT:=hT.le kD
   replace av:=av.trans kD
   replace oY:=oY.trans kD
   exact kr.last KB (jK 1 [12] [] (NL (ay.np (ay.gh (ay.zQ (zf,(⟨(bq cs i).op,(bq cs i).aG,0,(bq cs i).name,⟨#[]⟩,none,0,[],0,0,0,0,0,0,0⟩:aH),S2,c2,K9,H9,x32,0) rfl (aq:=[1,5,7,9,11,12,13]) (pk:=[1,2,5,0,3]) (⟨av,hS,hg,hR,iL,hU,hT,(by rw [afM];exact qp),(λj v h=>by cases h),aio _,aio _,(hS.q i zc).name,aio _,abT,(by have h:=CZ (fs:=fs) (xs:=xs) (aj:=aj) (n:=i+1) (S:=S) (c:=(⟨8,(bq cs i).aG,0,(bq cs i).name,⟨#[]⟩,none,0,[],0,0,0,0,0,0,0⟩:aH)) (by show (8:Int)=4\/(8:Int)=8\/(8:Int)=13;decide);rw [qp] at h;exact h)⟩) (λ_=>KB) rfl KB)))))
  refine SR (jK 2 [165] [] (NN (cP (((bq cs i).op:Int)=(9:Int)) (λCX=>?_) (λCX=>?_))))
  ·refine ak.seq (jM [0,1,2,3,4,5,506,7,508] [4] (jG 6 [1,5,7,9,10,11,168,170,172] [(1,a_ 0 b6),(3,a_ 0 b6),(5,a_ 0 b6)] (eH.Mz ?_)))
   have oY:Grown b b:=.inl rfl
   refine kr.agH (ι:=(Option Addr)×Nat×Bs) (B:=λ((wR,wS,xK):(Option Addr)×Nat×Bs)=>xK) (Φ:=λ((wR,wS,xK):(Option Addr)×Nat×Bs)=>(BH xK wR wS (bq cs i).data)) (bL:=λ((wR,wS,xK):(Option Addr)×Nat×Bs)=>[(1,.slice A1 (n) (c1)),(5,vP G.w),(7,vP b5),(9,vI ↑i),(10,vP b6),(11,vP b7),(168,vI ((bq cs i).op)),(170,vI ((bq cs i).aG)),(173,.slice wR ((bq cs i).data.length) (wS))]) (cR:=λ((wR,wS,xK):(Option Addr)×Nat×Bs)=>[.ax b1 [.slice A (ns.length) (c),vI (aj),vI (X.cN),vI (X.cB),vI (X.cH),vI (X.cS),vI (X.cZ),.slice Af (fs.length) (cf),.slice Aa (xs.length) (ca)] 34,.ax b5 (uV (toR S g) Yd aj U fs.length xs.length (↑i)) 47,wA G fs xs aj S V tr,.abs R,.ax b6 (aO (bq cs i)) 53,.ax b7 [vI ((bq cs i).op),vI ((bq cs i).aG),vI 0,.string (bq cs i).name,.string ⟨#[]⟩,.slice none (0) (0),vI 0,vI 0,vI 0,vI 0,vI 0,vI 0,vI 0] 53]) [4] oY KB ?_ rfl (λ_=>KB) ?_
   ·refine gu [] (EM (bq cs i).dA (bq cs i).dC (bq cs i).data (hS.q i zc).data (hS.q i zc).len) ?_
    rintro xK _ _ kE ⟨wR,wS,rfl,rfl,zh⟩
    replace hS:=hS.le kE
    replace hg:=hg.le kE
    replace iL:=iL.le kE
    replace hR:=hR.le kE
    replace hU:=hU.le kE
    replace hT:=hT.le kE
    replace av:=av.trans kE
    exact NL (ay.DJ (wR,wS,xK) rfl kE (zh) (aq:=[1,5,7,9,10,11,168,170,173]) (pk:=[0,1,2,3,4,5]) (λ_=>KB) rfl KB)
   rintro⟨wR,wS,xK⟩ kE zh
   show kr _ xK _ _ _ _ _ [(1,.slice A1 (n) (c1)),(5,vP G.w),(7,vP b5),(9,vI ↑i),(10,vP b6),(11,vP b7),(168,vI ((bq cs i).op)),(170,vI ((bq cs i).aG)),(173,.slice wR ((bq cs i).data.length) (wS))] [.ax b1 [.slice A (ns.length) (c),vI (aj),vI (X.cN),vI (X.cB),vI (X.cH),vI (X.cS),vI (X.cZ),.slice Af (fs.length) (cf),.slice Aa (xs.length) (ca)] 34,.ax b5 (uV (toR S g) Yd aj U fs.length xs.length (↑i)) 47,wA G fs xs aj S V tr,.abs R,pC b6 (bq cs i),.ax b7 [vI ((bq cs i).op),vI ((bq cs i).aG),vI 0,.string (bq cs i).name,.string ⟨#[]⟩,.slice none (0) (0),vI 0,vI 0,vI 0,vI 0,vI 0,vI 0,vI 0] 53] _
   replace hS:=hS.le kE
   replace hg:=hg.le kE
   replace iL:=iL.le kE
   replace hR:=hR.le kE
   replace hU:=hU.le kE
   replace hT:=hT.le kE
   replace av:=av.trans kE
   replace oY:=oY.trans kE
   refine gH [(false,8)] [(1,.slice A1 (n) (c1)),(5,vP G.w),(7,vP b5),(9,vI ↑i),(10,vP b6),(11,vP b7),(174,.agg #[vI ((bq cs i).op),vI ((bq cs i).aG),vI 0,.string ⟨#[]⟩,.string ⟨#[]⟩,.slice wR ((bq cs i).data.length) (wS),vI 0,vI 0,vI 0,vI 0,vI 0,vI 0,vI 0])] [7] [] (kr.last KB (jC 1 [] [(0,A_ 5 b7 13)] [(5,[(3,.string ⟨#[]⟩),(5,.slice wR ((bq cs i).data.length) (wS))])] (NL (ay.np (NX ?_)))))
   skip
   obtain⟨⟨S2,c2⟩,qp⟩:∃q,gM fs xs aj (i+1) S (⟨9,(bq cs i).aG,0,⟨#[]⟩,⟨#[]⟩,wR,wS,(bq cs i).data,0,0,0,0,0,0,0⟩:aH)=q:=⟨_,rfl⟩
   refine ak.qZ (S:=[.ax b6 (aO (bq cs i)) 53,.abs (o8 G)]) [(true,0),(true,1),(true,2),(true,3),(true,4),(true,5),(true,6),(true,7),(false,8),(false,9),(true,10),(true,11),(true,12),(true,13),(false,14)] KB KB (λ_ h=>(h.BI (i:=2) rfl).pick (aq:=[4,2]) rfl rfl) (jG 8 [1,5,7,9,11,179,181,183] [(3,p_ ⟨[.view 1 (.iface 37 (vP G.w))],none,none,none,none⟩ [(∀F w,(o8 G).h F w->w.cell? ⟨G.w,0,none⟩=some (.iface 37 (vP G.w)))] ⟨o3,trivial⟩),(5,a_ 0 b6),(7,a_ 0 b6)] (eH.Mz ?_))
   have oY:Grown xK xK:=.inl rfl
   refine kr.CG (ι:=(Option Addr)×Nat×Bs) (B:=λ((EN,EO,C4):(Option Addr)×Nat×Bs)=>C4) (Φ:=λ((EN,EO,C4):(Option Addr)×Nat×Bs)=>(BH C4 EN EO (bq cs i).data)) (bL:=λ((EN,EO,C4):(Option Addr)×Nat×Bs)=>[(1,.slice A1 (n) (c1)),(5,vP G.w),(7,vP b5),(9,vI ↑i),(11,vP b7),(179,.agg #[.iface 37 (vP G.w)]),(181,vI ((bq cs i).aG)),(184,.slice EN ((bq cs i).data.length) (EO))]) (cR:=λ((EN,EO,C4):(Option Addr)×Nat×Bs)=>[.ax b1 [.slice A (ns.length) (c),vI (aj),vI (X.cN),vI (X.cB),vI (X.cH),vI (X.cS),vI (X.cZ),.slice Af (fs.length) (cf),.slice Aa (xs.length) (ca)] 34,.ax b5 (uV (toR S g) Yd aj U fs.length xs.length (↑i)) 47,wA G fs xs aj S V tr,.abs R,.ax b6 (aO (bq cs i)) 53,.ax b7 [vI ((bq cs i).op),vI ((bq cs i).aG),vI 0,.string ⟨#[]⟩,.string ⟨#[]⟩,.slice wR ((bq cs i).data.length) (wS),vI 0,vI 0,vI 0,vI 0,vI 0,vI 0,vI 0] 53]) oY KB ?_ (λ_ _ h=>(h.BI (i:=2) rfl).pick (aq:=[4,2]) rfl rfl) ?_
   ·refine gu [] (EM (bq cs i).dA (bq cs i).dC (bq cs i).data (hS.q i zc).data (hS.q i zc).len) ?_
    rintro C4 _ _ kF ⟨EN,EO,rfl,rfl,Jr⟩
    replace hS:=hS.le kF
    replace hg:=hg.le kF
    replace iL:=iL.le kF
    replace hR:=hR.le kF
    replace hU:=hU.le kF
    replace hT:=hT.le kF
    replace zh:=zh.le kF
    replace av:=av.trans kF
    exact NL (ay.DJ (EN,EO,C4) rfl kF (Jr) (aq:=[1,5,7,9,11,179,181,184]) (pk:=[0,1,2,3,4,5]) (λ_=>KB) rfl KB)
   rintro⟨EN,EO,C4⟩ kF Jr
   show kr _ C4 _ _ _ _ _ [(1,.slice A1 (n) (c1)),(5,vP G.w),(7,vP b5),(9,vI ↑i),(11,vP b7),(179,.agg #[.iface 37 (vP G.w)]),(181,vI ((bq cs i).aG)),(184,.slice EN ((bq cs i).data.length) (EO))] [.ax b1 [.slice A (ns.length) (c),vI (aj),vI (X.cN),vI (X.cB),vI (X.cH),vI (X.cS),vI (X.cZ),.slice Af (fs.length) (cf),.slice Aa (xs.length) (ca)] 34,.ax b5 (uV (toR S g) Yd aj U fs.length xs.length (↑i)) 47,wA G fs xs aj S V tr,.abs R,pC b6 (bq cs i),.ax b7 [vI ((bq cs i).op),vI ((bq cs i).aG),vI 0,.string ⟨#[]⟩,.string ⟨#[]⟩,.slice wR ((bq cs i).data.length) (wS),vI 0,vI 0,vI 0,vI 0,vI 0,vI 0,vI 0] 53] _
   replace hS:=hS.le kF
   replace hg:=hg.le kF
   replace iL:=iL.le kF
   replace hR:=hR.le kF
   replace hU:=hU.le kF
   replace hT:=hT.le kF
   replace zh:=zh.le kF
   replace av:=av.trans kF
   replace oY:=oY.trans kF
   refine kr.CG (ι:=Bs×WV×(Option Addr)×Nat) (B:=λ((C5,La,Ia,Lb):Bs×WV×(Option Addr)×Nat)=>C5) (Φ:=λ((C5,La,Ia,Lb):Bs×WV×(Option Addr)×Nat)=>(bp C5 Ia c2.data)) (bL:=λ((C5,La,Ia,Lb):Bs×WV×(Option Addr)×Nat)=>[(1,.slice A1 (n) (c1)),(5,vP G.w),(7,vP b5),(9,vI ↑i),(11,vP b7),(185,.tuple #[vI (c2.answer),vI (c2.code)])]) (cR:=λ((C5,La,Ia,Lb):Bs×WV×(Option Addr)×Nat)=>[wA G fs xs aj S2 La (tr++[cY Ia Lb c2]),.ax b1 [.slice A (ns.length) (c),vI (aj),vI (X.cN),vI (X.cB),vI (X.cH),vI (X.cS),vI (X.cZ),.slice Af (fs.length) (cf),.slice Aa (xs.length) (ca)] 34,.ax b5 (uV (toR S g) Yd aj U fs.length xs.length (↑i)) 47,.abs R,.ax b6 (aO (bq cs i)) 53,.ax b7 [vI ((bq cs i).op),vI ((bq cs i).aG),vI 0,.string ⟨#[]⟩,.string ⟨#[]⟩,.slice wR ((bq cs i).data.length) (wS),vI 0,vI 0,vI 0,vI 0,vI 0,vI 0,vI 0] 53]) oY KB ?_ (λ_ _ h=>(h.BI (i:=0) rfl).pick (aq:=[4,0]) rfl rfl) ?_
   ·refine gu [2] (XF (β:=C4) (G:=G) (fs:=fs) (xs:=xs) (S:=S) (V:=V) (tr:=tr) (S2:=S2) (c2:=(cY EN EO c2)) hrw hp.inv zc iL dR hg (bq cs i).aG (hS.q i zc).hw EN EO (bq cs i).data Jr.b (hS.q i zc).len (by rw [htr];exact (MR (A:=EN) (m:=EO) (c:=(⟨9,(bq cs i).aG,0,⟨#[]⟩,⟨#[]⟩,wR,wS,(bq cs i).data,0,0,0,0,0,0,0⟩:aH))).trans (by rw [qp]))) ?_
    rintro C5 _ _ jO ⟨La,Ia,Lb,rfl,rfl,abU⟩
    replace hS:=hS.le jO
    replace hg:=hg.le jO
    replace iL:=iL.le jO
    replace hR:=hR.le jO
    replace hU:=hU.le jO
    replace hT:=hT.le jO
    replace zh:=zh.le jO
    replace Jr:=Jr.le jO
    replace av:=av.trans jO
    exact NL (ay.DJ (C5,La,Ia,Lb) rfl jO (abU) (aq:=[1,5,7,9,11,185]) (pk:=[0,1,2,3,4,5]) (λ_=>KB) rfl KB)
   rintro⟨C5,La,Ia,Lb⟩ jO abU
   show kr _ C5 _ _ _ _ _ [(1,.slice A1 (n) (c1)),(5,vP G.w),(7,vP b5),(9,vI ↑i),(11,vP b7),(185,.tuple #[vI (c2.answer),vI (c2.code)])] [wA G fs xs aj S2 La (tr++[cY Ia Lb c2]),.ax b1 [.slice A (ns.length) (c),vI (aj),vI (X.cN),vI (X.cB),vI (X.cH),vI (X.cS),vI (X.cZ),.slice Af (fs.length) (cf),.slice Aa (xs.length) (ca)] 34,.ax b5 (uV (toR S g) Yd aj U fs.length xs.length (↑i)) 47,.abs R,pC b6 (bq cs i),.ax b7 [vI ((bq cs i).op),vI ((bq cs i).aG),vI 0,.string ⟨#[]⟩,.string ⟨#[]⟩,.slice wR ((bq cs i).data.length) (wS),vI 0,vI 0,vI 0,vI 0,vI 0,vI 0,vI 0] 53] _
   replace hS:=hS.le jO
   replace hg:=hg.le jO
   replace iL:=iL.le jO
   replace hR:=hR.le jO
   replace hU:=hU.le jO
   replace hT:=hT.le jO
   replace zh:=zh.le jO
   replace Jr:=Jr.le jO
   replace av:=av.trans jO
   replace oY:=oY.trans jO
   exact gH [(false,14)] [(1,.slice A1 (n) (c1)),(5,vP G.w),(7,vP b5),(9,vI ↑i),(11,vP b7),(13,vI (c2.answer)),(187,vI (c2.code))] [10,11,12,13] [] (kr.last KB (jK 1 [12] [] (NL (ay.np (ay.gh (ay.zQ (C5,(⟨(bq cs i).op,(bq cs i).aG,0,⟨#[]⟩,⟨#[]⟩,wR,wS,(bq cs i).data,0,0,0,0,0,0,0⟩:aH),S2,c2,La,Ia,Lb,c2.answer) rfl (aq:=[1,5,7,9,11,12,13]) (pk:=[1,2,5,0,3]) (⟨av,hS,hg,hR,iL,hU,hT,(by rw [CX];exact qp),zh.b,(hS.q i zc).len,zh.l,aio _,aio _,abU,rfl⟩) (λ_=>KB) rfl KB))))))
  refine SR (jK 2 [188] [] (NN (cP (((bq cs i).op:Int)=(13:Int)) (λafN=>?_) (λafN=>?_))))
  ·refine SR (jC 6 [] [(1,a_ 4 b6),(3,a_ 4 b6),(5,A_ 5 b7 13)] [(5,[(3,.string ⟨#[]⟩)])] (NN ?_))
   skip
   obtain⟨⟨S2,c2⟩,qp⟩:∃q,gM fs xs aj (i+1) S (⟨13,(bq cs i).aG,0,⟨#[]⟩,⟨#[]⟩,none,0,[],0,0,0,0,0,0,0⟩:aH)=q:=⟨_,rfl⟩
   refine ak.qZ (S:=[.ax b6 (aO (bq cs i)) 53,.abs (o8 G)]) [(true,0),(true,1),(true,2),(true,3),(true,4),(true,5),(false,6),(false,7)] KB KB (λ_ h=>(h.BI (i:=2) rfl).pick (aq:=[4,2]) rfl rfl) (jG 6 [1,5,7,9,11,13,198,200] [(3,p_ ⟨[.view 1 (.iface 37 (vP G.w))],none,none,none,none⟩ [(∀F w,(o8 G).h F w->w.cell? ⟨G.w,0,none⟩=some (.iface 37 (vP G.w)))] ⟨o3,trivial⟩),(5,a_ 0 b6)] (eH.Mz ?_))
   have oY:Grown b b:=.inl rfl
   refine kr.CG (ι:=Bs×WV×(Option Addr)×Nat) (B:=λ((C6,Lc,Ib,Ld):Bs×WV×(Option Addr)×Nat)=>C6) (Φ:=λ((C6,Lc,Ib,Ld):Bs×WV×(Option Addr)×Nat)=>(bp C6 Ib c2.data)) (bL:=λ((C6,Lc,Ib,Ld):Bs×WV×(Option Addr)×Nat)=>[(1,.slice A1 (n) (c1)),(5,vP G.w),(7,vP b5),(9,vI ↑i),(11,vP b7),(13,vI 0),(201,vI (c2.code))]) (cR:=λ((C6,Lc,Ib,Ld):Bs×WV×(Option Addr)×Nat)=>[wA G fs xs aj S2 Lc (tr++[cY Ib Ld c2]),.ax b1 [.slice A (ns.length) (c),vI (aj),vI (X.cN),vI (X.cB),vI (X.cH),vI (X.cS),vI (X.cZ),.slice Af (fs.length) (cf),.slice Aa (xs.length) (ca)] 34,.ax b5 (uV (toR S g) Yd aj U fs.length xs.length (↑i)) 47,.abs R,.ax b6 (aO (bq cs i)) 53,.ax b7 [vI ((bq cs i).op),vI ((bq cs i).aG),vI 0,.string ⟨#[]⟩,.string ⟨#[]⟩,.slice none (0) (0),vI 0,vI 0,vI 0,vI 0,vI 0,vI 0,vI 0] 53]) oY KB ?_ (λ_ _ h=>(h.BI (i:=0) rfl).pick (aq:=[4,0]) rfl rfl) ?_
   ·refine gu [2] (XG (β:=b) (G:=G) (fs:=fs) (xs:=xs) (S:=S) (V:=V) (tr:=tr) (S2:=S2) (c2:=c2) hrw hp.inv zc iL dR hg (bq cs i).aG (hS.q i zc).hw (by rw [htr];exact qp)) ?_
    rintro C6 _ _ lP ⟨Lc,Ib,Ld,rfl,rfl,abV⟩
    replace hS:=hS.le lP
    replace hg:=hg.le lP
    replace iL:=iL.le lP
    replace hR:=hR.le lP
    replace hU:=hU.le lP
    replace hT:=hT.le lP
    replace av:=av.trans lP
    exact NL (ay.DJ (C6,Lc,Ib,Ld) rfl lP (abV) (aq:=[1,5,7,9,11,13,201]) (pk:=[0,1,2,3,4,5]) (λ_=>KB) rfl KB)
   rintro⟨C6,Lc,Ib,Ld⟩ lP abV
   show kr _ C6 _ _ _ _ _ [(1,.slice A1 (n) (c1)),(5,vP G.w),(7,vP b5),(9,vI ↑i),(11,vP b7),(13,vI 0),(201,vI (c2.code))] [wA G fs xs aj S2 Lc (tr++[cY Ib Ld c2]),.ax b1 [.slice A (ns.length) (c),vI (aj),vI (X.cN),vI (X.cB),vI (X.cH),vI (X.cS),vI (X.cZ),.slice Af (fs.length) (cf),.slice Aa (xs.length) (ca)] 34,.ax b5 (uV (toR S g) Yd aj U fs.length xs.length (↑i)) 47,.abs R,pC b6 (bq cs i),.ax b7 [vI ((bq cs i).op),vI ((bq cs i).aG),vI 0,.string ⟨#[]⟩,.string ⟨#[]⟩,.slice none (0) (0),vI 0,vI 0,vI 0,vI 0,vI 0,vI 0,vI 0] 53] _
   replace hS:=hS.le lP
   replace hg:=hg.le lP
   replace iL:=iL.le lP
   replace hR:=hR.le lP
   replace hU:=hU.le lP
   replace hT:=hT.le lP
   replace av:=av.trans lP
   replace oY:=oY.trans lP
   exact kr.last KB (jK 1 [12] [] (NL (ay.np (ay.gh (ay.zQ (C6,(⟨(bq cs i).op,(bq cs i).aG,0,⟨#[]⟩,⟨#[]⟩,none,0,[],0,0,0,0,0,0,0⟩:aH),S2,c2,Lc,Ib,Ld,0) rfl (aq:=[1,5,7,9,11,12,13]) (pk:=[1,2,5,0,3]) (⟨av,hS,hg,hR,iL,hU,hT,(by rw [afN];exact qp),(λj v h=>by cases h),aio _,aio _,aio _,aio _,abV,(by have h:=CZ (fs:=fs) (xs:=xs) (aj:=aj) (n:=i+1) (S:=S) (c:=(⟨13,(bq cs i).aG,0,⟨#[]⟩,⟨#[]⟩,none,0,[],0,0,0,0,0,0,0⟩:aH)) (by show (13:Int)=4\/(13:Int)=8\/(13:Int)=13;decide);rw [qp] at h;exact h)⟩) (λ_=>KB) rfl KB)))))
  refine SR (jK 2 [77,78] [(1,A_ 4 b6 13)] ?_)
  obtain⟨⟨S2,c2⟩,qp⟩:∃q,gM fs xs aj (i+1) S (bq cs i)=q:=⟨_,rfl⟩
  have hd2:c2.data=(bq cs i).data:=by have h:=CS (fs:=fs) (xs:=xs) (aj:=aj) (n:=i+1) (S:=S) (c:=(bq cs i));rw [qp] at h;exact h
  refine gu [] (Rt (bq cs i) (hS.q i zc).data (hS.q i zc).len) ?_
  rintro ahB _ _ vz ⟨A48,c49,rfl,rfl,Rz⟩
  replace hS:=hS.le vz
  replace hg:=hg.le vz
  replace iL:=iL.le vz
  replace hR:=hR.le vz
  replace hU:=hU.le vz
  replace hT:=hT.le vz
  replace av:=av.trans vz
  refine gu [2] (Du (β:=ahB) (G:=G) (fs:=fs) (xs:=xs) (S:=S) (V:=V) (tr:=tr) (c:=cY A48 c49 (bq cs i)) (c2:=cY A48 c49 c2) (S2:=S2) hrw hp.inv zc iL dR hg Rz.b (hS.q i zc).len (hS.q i zc).hw (hS.q i zc).ow (hS.q i zc).name (hS.q i zc).text rfl (MR.trans (by rw [htr,qp]))) ?_
  rintro aie _ _ tW ⟨V2,X1,x1,X2,x2,rfl,rfl,K1,hX2,_⟩
  replace hS:=hS.le tW
  replace hg:=hg.le tW
  replace iL:=iL.le tW
  replace hR:=hR.le tW
  replace hU:=hU.le tW
  replace hT:=hT.le tW
  replace Rz:=Rz.le tW
  replace av:=av.trans tW
  refine NS (jK 2 [82,83] [(0,A_ 2 b5 16),(1,A_ 4 b6 13)] (gL [] (NY hp Yd hR aj U fs xs i zc hU zc dR qp (hS.q i zc).name (hS.q i zc).text (hS.q i zc).data (air (hS.q i zc).len Pd) (hS.q i zc).cap) ?_))
  rintro _ _ ⟨g2,Y2,B2,p2,rfl,rfl⟩
  refine jB 4 [14,85,86] (λY4=>.ax Y4 (uZ) 47) (λY4=>jN 3 [] (λUd=>[(1,A_ 7 Y4 16),(2,A_ 8 Ud 13)]) (λUd=>[(7,(zC (uV (toR S2 g2) Y2 aj U fs.length xs.length (↑(i+1)))))]) (λUd=>.ax Ud (aO (gP c2 B2 p2)) 53) (λUd=>NS (ar.ux 0 [1,2,3,4,5,6,7,8] (eX:=[wA G fs xs aj S2 V2 (tr++[cY X1 x1 c2]),.ax b1 [.slice A (ns.length) (c),vI (aj),vI (X.cN),vI (X.cB),vI (X.cH),vI (X.cS),vI (X.cZ),.slice Af (fs.length) (cf),.slice Aa (xs.length) (ca)] 34,.ax b5 (uV (toR S g) Yd aj U fs.length xs.length (↑i)) 47,.abs R,.ax b6 (aO (bq cs i)) 53,.ax b7 [vI ((bq cs i).op),vI ((bq cs i).aG),vI 0,.string (bq cs i).name,.string ⟨#[]⟩,.slice none (0) (0),vI 0,vI 0,vI 0,vI 0,vI 0,vI 0,vI 0] 53,.ax Y4 (uV (toR S2 g2) Y2 aj U fs.length xs.length (↑(i+1))) 47,.ax Ud (aO (gP c2 B2 p2)) 53]) rfl rfl KB (λahC sO ⟨hp2,uq,Ky⟩=>?_))))
  replace hS:=hS.le sO
  replace hg:=hg.le sO
  replace iL:=iL.le sO
  replace hR:=hR.le sO
  replace hU:=hU.le sO
  replace hT:=hT.le sO
  replace Rz:=Rz.le sO
  replace K1:=K1.le sO
  replace av:=av.trans sO
  exact jC 2 [] [(0,A_ 6 Y4 16),(1,A_ 2 b5 16)] [(2,[(0,.slice Y2.A ((toR S2 g2).ns.length) (Y2.c)),(1,.slice Y2.G ((toR S2 g2).aE.length) (Y2.cg)),(2,vI ((toR S2 g2).cH)),(3,vI ((toR S2 g2).aI)),(4,.slice Y2.H ((toR S2 g2).us.length) (Y2.ch)),(5,.slice Y2.V ((toR S2 g2).us.length) (Y2.cv)),(6,vI ((toR S2 g2).cN)),(7,vI ((toR S2 g2).cB)),(8,vI ((toR S2 g2).cH)),(9,vI ((toR S2 g2).cS)),(10,vI ((toR S2 g2).cZ)),(11,vI ((toR S2 g2).last)),(15,vI ↑(i+1))])] (NN (ak.exit (ay.Ml Pd (ay.oZ (ay.uW (NX (ak.region (jK 3 [9] [(1,wJ ((i:Int)+1) (↑(i+1)))] (NL (tB ((i+1),ahC,S2,g2,Y2,V2,(tr++[cY X1 x1 c2])) [1,2,0,3] (⟨zc,av,hS,hg,hp2,uq,iL,hU,by rw [ait,htr];rfl,hT.snoc (c:=cY X1 x1 c2) K1 (by show c2.data.length<=_;rw [hd2];exact (hS.q i zc).len)⟩)))))))))))
 refine ak.region (jK 1 [22] [(0,A_ 1 b1 9)] (gu [] (VL (β:=ox) (X:=X) h0 A c Y hG hB Af cf fs hF (o5.wide Pd) Aa ca xs hA dR) ?_))
 rintro ahD _ _ xL ⟨rfl,rfl⟩
 replace hG:=hG.le xL
 replace hF:=hF.le xL
 replace hA:=hA.le xL
 replace hS:=hS.le xL
 replace hg:=hg.le xL
 replace av:=av.trans xL
 refine jK 5 [5,6] [] (NS (jK 8 [28,30,32,34] [(1,a_ 1 b1),(3,a_ 1 b1),(5,A_ 1 b1 5),(7,A_ 1 b1 2)] (gu [] (YW (β:=ahD) (X:=X) h0 A c hG hB cf hF (o5.wide Pd) ca hA dR) ?_)))
 rintro aif _ _ xM ⟨rfl,rfl⟩
 replace hG:=hG.le xM
 replace hF:=hF.le xM
 replace hA:=hA.le xM
 replace hS:=hS.le xM
 replace hg:=hg.le xM
 replace av:=av.trans xM
 exact jN 6 [7,8] (λb57=>[(4,A_ 2 b57 16)]) (λ_=>[]) (λb57=>.ax b57 (uZ) 47) (λb57=>NZ (jK 7 [44] [(2,p_ ⟨[],none,none,none,some (.bool false)⟩ [(Value.bool (!decide (((fw X ns aj):Int)=((fw X ns aj):Int))))=(.bool false)] ⟨aii,trivial⟩)] (NT (SR (jK 12 [4] [(5,p_ ⟨[],none,none,none,some (.bool true)⟩ [(Value.bool (decide (((fw X ns aj):Int)=((fw X ns aj):Int))))=(.bool true)] ⟨aii,trivial⟩),(9,OL (((fw X ns aj):Int)=(0:Int)) h0)] (NN (ak.ret (ay.bB (ay.adX (v:=.bool true) (l:=[]) (eV:=[]) [] [0] av (λ_=>KB) trivial rfl KB (rfl))))))))))
end
section
open Go.RowKit
theorem glob_ok {W:World} (h:W.ShapedOpen Tryz.prog):kH (B0 W):=by
 obtain⟨m,hm⟩:=cell_of_shapedOpen_int (g:=0) (t:=3) (zero:=#[.int .i64 0]) (k:=.i64) h (aiR KB) KB rfl KB KB Tryz.underlying3
 exact⟨m,SJ hm,hm⟩
end
end Go.Proofs.YtbnfiigafobejaaGreat
