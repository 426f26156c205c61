/-
  PROVED HERE: lemmas and contracts of functions (texts of this repo, joined; what the claim does not use is left out): WG, Wl, Wf, Wk, WH, Wq, Wy, XQ, Zg, Lv.
  CONDITIONS: as the theorems say.
-/
import Derived.Test.YtidjcblbdmfalaaGreatMWquiet5
import Derived.ChangeMaps5
import Derived.Leaving
import Derived.JoinedCond
set_option maxRecDepth 100000
set_option maxHeartbeats 4000000
namespace Go.Proofs.YtidjcblbdmfalaaGreat
section
open Go.RowKit Go.Maps bG aE
attribute [local irreducible] aj aP af ai
noncomputable abbrev FR (b1:Nat) (A:Option Addr) (ns:List aK) (c) (root) (X:FM) (Af) (fs:List bR) (cf) (Aa) (xs:List cI) (ca):=(.blk b1 [.slice A (ns.length) (c),vI (root),vI (X.cN),vI (X.cB),vI (X.cH),vI (X.cS),vI (X.cZ),.slice Af (fs.length) (cf),.slice Aa (xs.length) (ca)] 34:HP)
noncomputable abbrev Od (B)(ns:List aK) (cp) (root) (X:FM):=([(6,.agg #[.slice B (ns.length) (cp)]),(8,vI (root)),(10,.agg #[vI (X.cN),vI (X.cB),vI (X.cH),vI (X.cS),vI (X.cZ)])]:Fr)
noncomputable abbrev Ta (root)(X:FM):=([(8,vI (root)),(10,.agg #[vI (X.cN),vI (X.cB),vI (X.cH),vI (X.cS),vI (X.cZ)])]:Fr)
theorem DI {β:Bs} (A:Option Addr) (c:Nat) (ns:List aK) (Y:Lay) (hG:ay β A ns Y) (hB:fW ns 1048576) (X:FM) (root:Int) (Af:Option Addr) (cf:Nat) (fs:List bR) (hF:cM β Af (bN eH fs)) (lV:gq fs 2097152) (Aa:Option Addr) (ca:Nat) (xs:List cI) (hA:cM β Aa (bN fF xs)) (hab:iO xs 1048576) :
    cq Tryz.prog β 15 #[.agg #[.slice A (ns.length) (c),vI (root),vI (X.cN),vI (X.cB),vI (X.cH),vI (X.cS),vI (X.cZ),.slice Af (fs.length) (cf),.slice Aa (xs.length) (ca)]] [] (fun β' v l=>(cO X ns root≠0/\v=.tuple #[.pointer none,vI (cO X ns root)]/\l=[])\/(cO X ns root=0/\∃ (N:qI X ns) (G:WG) (V:WV),v=.tuple #[vP G.w,vI 0]/\l=[wA G fs xs root N.1 V []]/\jK β' G.Z xs)):=by
 refine cq.enter Tryz.func15 rfl Tryz.ntmps15 (Nat.le_of_ble_eq_true rfl) (fun hle0 R=>?_)
 refine SR (gN 3 (fun b1=>[(1,vP b1)]) (fun _=>[]) (fun _=>[]) (fun b1=>.blk b1 [.slice A (ns.length) (c),vI (root),vI (X.cN),vI (X.cB),vI (X.cH),vI (X.cS),vI (X.cZ),.slice Af (fs.length) (cf),.slice Aa (xs.length) (ca)] 34) (fun b1=>?_))
 refine NN (af.seq ?_)
 by_cases h0:cO X ns root=0
 ·refine af.kV (S:=[FR b1 A ns c root X Af fs cf Aa xs ca]) [(true,0),(true,1),(true,3),(true,4),(true,5),(true,6),(true,7),(true,8),(false,2),(false,9),(false,10),(true,11),(true,12),(true,13),(false,14)] [1] (by kernel_rfl) (by kernel_rfl) rfl (by kernel_rfl) ?_
  refine gG [(false,2),(false,9),(false,10),(true,11),(true,12),(true,13),(false,14)] ([(5,.agg #[.slice A (ns.length) (c)])]++Ta root X++[(12,.agg #[.slice Af (fs.length) (cf),.slice Aa (xs.length) (ca)])]) [0,1,3,4,5,6,7,8] [(1,a_ 0 b1),(3,a_ 0 b1),(5,A_ 0 b1 5),(7,A_ 0 b1 2)] ?_
  refine gZ.cut (ι:=(Option Addr)×Nat) (fr':=fun ((B,cp):(Option Addr)×Nat)=>(Od B ns cp root X++[(12,.agg #[.slice Af (fs.length) (cf),.slice Aa (xs.length) (ca)])])) (hp':=fun ((B,cp):(Option Addr)×Nat)=>[.abs (kD β (fun β'=>∃ K,ay β' B ns K)),.abs R,FR b1 A ns c root X Af fs cf Aa xs ca]) [2] (by kernel_rfl) ?_ rfl (fun _=>by kernel_rfl) ?_
  ·refine gL [] (wh (β:=β) A c ns Y hG (vE hB) (Br hB)) ?_
   rintro _ _ ⟨B,cp,rfl,rfl⟩
   refine NL ?_
   exact MD (B,cp) [6,8,10,12] [0,1,2]
  rintro⟨B,cp⟩
  refine gZ.cut (ι:=(Option Addr)×Nat×(Option Addr)×Nat) (fr':=fun ((Bf,bf,Ba,ba):(Option Addr)×Nat×(Option Addr)×Nat)=>(Od B ns cp root X++[(13,.agg #[.slice Bf (fs.length) (bf),.slice Ba (xs.length) (ba)])])) (hp':=fun ((Bf,bf,Ba,ba):(Option Addr)×Nat×(Option Addr)×Nat)=>[.abs (aH 39 2 Bf fs.length bf (bN eH fs)),.abs (aH 41 5 Ba xs.length ba (bN fF xs)),.abs (kD β (fun β'=>∃ K,ay β' B ns K)),.abs R,FR b1 A ns c root X Af fs cf Aa xs ca]) [4] (by kernel_rfl) ?_ rfl (fun _=>by kernel_rfl) ?_
  ·refine gL [] (wi (β:=β) Af cf fs hF lV.len Aa ca xs hA (Nat.le_trans hab.len (by decide))) ?_
   rintro _ _ ⟨Bf,bf,Ba,ba,rfl,rfl⟩
   refine NL ?_
   exact MD (Bf,bf,Ba,ba) [6,8,10,13] [0,1,2,3,4]
  rintro⟨Bf,bf,Ba,ba⟩
  refine gZ.cut (ι:=(qI X ns)×WG×WV) (fr':=fun ((N,G,V):(qI X ns)×WG×WV)=>[(14,.tuple #[vP G.w,vI 0])]) (hp':=fun ((N,G,V):(qI X ns)×WG×WV)=>[.abs (kD β (fun β'=>jK β' G.Z xs)),wA G fs xs root N.1 V ([]),.abs R,.blk b1 [.slice A (ns.length) (c),vI (root),vI (X.cN),vI (X.cB),vI (X.cH),vI (X.cS),vI (X.cZ),.slice Af (fs.length) (cf),.slice Aa (xs.length) (ca)] 34]) [3] (by kernel_rfl) ?_ rfl (fun _=>by kernel_rfl) ?_
  ·refine gL [2,0,1] (Na (β:=β) (X:=X) (Bf:=Bf) (Ba:=Ba) h0 B cp hB bf ba lV hab) ?_
   rintro _ _ ⟨N,G,V,rfl,rfl⟩
   refine NL ?_
   exact MD (N,G,V) [14] [0,1,2,3]
  rintro⟨N,G,V⟩
  refine gG [(false,14)] [(2,vP G.w),(16,vI 0)] [11,12,13] [] ?_
  refine gZ.last (by kernel_rfl) ?_
  refine gK 1 [(3,vI 0)] [] ?_
  refine NL (ai.np (NX (af.ret ?_)))
  refine ai.Fy 0 [1,2,3] (cF:=[wA G fs xs root N.1 V ([]),.abs R,.blk b1 [.slice A (ns.length) (c),vI (root),vI (X.cN),vI (X.cB),vI (X.cH),vI (X.cS),vI (X.cZ),.slice Af (fs.length) (cf),.slice Aa (xs.length) (ca)] 34]) rfl (by kernel_rfl) rfl (fun Ei iX hz=>?_)
  replace hG:=hG.le iX
  replace hF:=hF.le iX
  replace hA:=hA.le iX
  replace hle0:=hle0.trans iX
  exact ai.oZ (v:=.tuple #[vP G.w,vI 0]) (l:=[wA G fs xs root N.1 V ([])]) (bA:=[]) [] [0,1] hle0 (fun _=>by kernel_rfl) trivial rfl (by kernel_rfl) (.inr ⟨h0,N,G,V,rfl,rfl,hz⟩)
 refine af.kV (S:=[FR b1 A ns c root X Af fs cf Aa xs ca]) [(true,0),(true,1),(true,3),(true,4),(true,5),(true,6),(true,7),(true,8),(false,2),(false,9),(false,10),(true,11),(true,12),(true,13),(false,14)] [1] (by kernel_rfl) (by kernel_rfl) rfl (by kernel_rfl) ?_
 refine gG [(false,2),(false,9),(false,10),(true,11),(true,12),(true,13),(false,14)] ([(5,.agg #[.slice A (ns.length) (c)])]++Ta root X++[(12,.agg #[.slice Af (fs.length) (cf),.slice Aa (xs.length) (ca)])]) [0,1,3,4,5,6,7,8] [(1,a_ 0 b1),(3,a_ 0 b1),(5,A_ 0 b1 5),(7,A_ 0 b1 2)] ?_
 refine gZ.cut (ι:=(Option Addr)×Nat) (fr':=fun ((B,cp):(Option Addr)×Nat)=>(Od B ns cp root X++[(12,.agg #[.slice Af (fs.length) (cf),.slice Aa (xs.length) (ca)])])) (hp':=fun ((B,cp):(Option Addr)×Nat)=>[.abs (kD β (fun β'=>∃ K,ay β' B ns K)),.abs R,FR b1 A ns c root X Af fs cf Aa xs ca]) [2] (by kernel_rfl) ?_ rfl (fun _=>by kernel_rfl) ?_
 ·refine gL [] (wh (β:=β) A c ns Y hG (vE hB) (Br hB)) ?_
  rintro _ _ ⟨B,cp,rfl,rfl⟩
  refine NL ?_
  exact MD (B,cp) [6,8,10,12] [0,1,2]
 rintro⟨B,cp⟩
 refine gZ.cut (ι:=(Option Addr)×Nat×(Option Addr)×Nat) (fr':=fun ((Bf,bf,Ba,ba):(Option Addr)×Nat×(Option Addr)×Nat)=>(Od B ns cp root X++[(13,.agg #[.slice Bf (fs.length) (bf),.slice Ba (xs.length) (ba)])])) (hp':=fun ((Bf,bf,Ba,ba):(Option Addr)×Nat×(Option Addr)×Nat)=>[.abs (aH 39 2 Bf fs.length bf (bN eH fs)),.abs (aH 41 5 Ba xs.length ba (bN fF xs)),.abs (kD β (fun β'=>∃ K,ay β' B ns K)),.abs R,FR b1 A ns c root X Af fs cf Aa xs ca]) [4] (by kernel_rfl) ?_ rfl (fun _=>by kernel_rfl) ?_
 ·refine gL [] (wi (β:=β) Af cf fs hF lV.len Aa ca xs hA (Nat.le_trans hab.len (by decide))) ?_
  rintro _ _ ⟨Bf,bf,Ba,ba,rfl,rfl⟩
  refine NL ?_
  exact MD (Bf,bf,Ba,ba) [6,8,10,13] [0,1,2,3,4]
 rintro⟨Bf,bf,Ba,ba⟩
 refine gZ.cut (ι:=Unit) (fr':=fun (_:Unit)=>[(14,.tuple #[.pointer none,vI (cO X ns root)])]) (hp':=fun (_:Unit)=>[.abs R,FR b1 A ns c root X Af fs cf Aa xs ca]) [1] (by kernel_rfl) ?_ rfl (fun _=>by kernel_rfl) ?_
 ·refine gL [2,0,1] (Lb (β:=β) (X:=X) (Bf:=Bf) (Ba:=Ba) h0 B cp hB bf ba lV hab) ?_
  rintro _ _ ⟨rfl,rfl⟩
  refine NL ?_
  exact MD () [14] [0,1]
 rintro _
 refine gG [(false,14)] [(2,.pointer none),(16,vI ((cO X ns root)))] [11,12,13] [] ?_
 refine gZ.last (by kernel_rfl) ?_
 refine gK 1 [(3,vI ((cO X ns root)))] [] ?_
 refine NL (ai.np (NX (af.ret ?_)))
 exact ai.oZ (v:=.tuple #[.pointer none,vI ((cO X ns root))]) (l:=[]) (bA:=[]) [] [0] hle0 (fun _=>by kernel_rfl) trivial rfl (by kernel_rfl) (.inl ⟨h0,rfl,rfl⟩)
end
section
open Go.RowKit Go.Maps bG aE
def U5:aK:=⟨1,2,493,0,0,0,0,[],⟨#[]⟩,[]⟩
def uL:List aK:=[U5]
def xT:List bR:=[⟨2,1⟩]
theorem HF {i:Nat} (h:i < uL.length):i=0:=by
  have h:i < 1:=h
  omega
theorem RX:bM uL:=by
  refine⟨by decide,fun i hi=>?_,fun i hi=>?_,fun i j hij hj=>?_,by decide,fun i hi j hj=>?_,by decide,fun z=>?_⟩
  ·obtain rfl:=HF hi
   exact⟨by decide,by decide,by decide,by decide,Dy,fun _=>rfl,fun h=>absurd rfl h,.inl ⟨by decide,rfl⟩⟩
  ·obtain rfl:=HF hi
   exact⟨by decide,by decide⟩
  ·have:=HF hj;omega
  ·obtain rfl:=HF hi
   exact absurd hj (Nat.not_lt_zero j)
  have e:(fC uL uL.length).map (iZ uL)=[]:=by decide
  rw [e]
  exact⟨0,rfl⟩
theorem Q6:jb (FC 99):=OV (by decide)
theorem RY {β:Bs} {B:Option Addr} (hR:cM β B (dr ⟨fun _=>none,fun _=>none,fun _=>0,fun _=>0⟩ uL)):ay β B uL ⟨fun _=>none,fun _=>none,fun _=>0,fun _=>0⟩:=by
  have hn:∀ {A:Option Addr},cM β A []:=fun j v hj=>by simp at hj
  refine⟨hR,fun i hi=>?_,fun i hi=>?_⟩<;>(obtain rfl:=HF hi;exact hn)
structure Nb (S:aG):Prop where
  inv:Inv S
  idx:S.idx=[(1,⟨1,2⟩)]
  us:S.us=[]
  X:S.X=⟨9,99,9,0,0,1,0,0⟩
  o1:∃ l u,obj S.O 1=⟨1,493,0,0,0,0,l,0,false,2,[],⟨#[]⟩,[],u⟩
section v
variable {S:aG}
theorem Q7 (h:fe (FC 99) uL uL.length 0 S):Nb S:=by
  obtain⟨l1,u1,h1⟩:=h.ob 0 (by decide)
  exact⟨h.full,h.idx,h.us,h.cap,⟨l1,u1,h1⟩⟩
def nD:aB:=⟨1,0,0,⟨#[]⟩,⟨#[]⟩,none,0,[],0,0,0,0,0,0,0⟩
def mZ:aB:=⟨4,1,0,⟨#[100]⟩,⟨#[]⟩,none,0,[],0,0,0,0,0,0,0⟩
theorem T7 (h:Nb S):iT xT [] 1 1 S nD=(S1 S,{ nD with other:=1,answer:=1,code:=0 }):=by
  have:=OW (S:=S) (c:={ nD with other:=1 }) (t:=⟨1,2⟩) rfl (by rw [h.idx];rfl) rfl (by rw [h.us,h.X];show (0:Int) < 9;decide)
  rw [h.us] at this
  exact this
theorem T8:iT xT [] 1 2 S mZ=(S,{ mZ with code:=180 }):=rfl
theorem T9 (h:Nb S):∃ S2,iT xT [] 1 3 (S1 S) mZ=(S2,{ mZ with answer:=0,code:=0 })/\S2.idx.length=2:=by
  obtain⟨l,u,h1⟩:=h.o1
  have e1:obj (S1 S).O 1=⟨1,493,0,0,0,0,l,1,false,2,[],⟨#[]⟩,[],u⟩:=by
    rw [TY,h1];rfl
  have hX:(S1 S).X=⟨9,99,9,0,0,1,0,0⟩:=h.X
  have hi:(S1 S).idx=[(1,⟨1,2⟩)]:=h.idx
  have ha:dU (S1 S).O (S1 S).us 1 ⟨#[100]⟩ 192=.ok 1:=MT (t:=⟨1,2⟩) rfl rfl (by rw [e1]) QK (by rw [e1];exact QL)
  refine⟨_,show bQ (S1 S) mZ=_ from MU (S:=S1 S) (c:=mZ) rfl ha ⟨by decide,by decide⟩ (by rw [e1];rfl) ⟨by rw [hX,hi];show (1:Int) < 9;decide,by rw [hX];show (1:Int) < 1099511627776;decide,by rw [hX];show (0:Int) < 8192;decide⟩,?_⟩
  show (ins _ _ (S1 S).idx).length=2
  rw [hX,hi];rfl
end v
end
section
open Go.RowKit Go.Maps bG aE
section f
variable {β:Bs} {fs:List bR} {xs:List cI} {root:Int} {ns:List aK} {X:FM}
theorem BO {ns:List aK} (h0:cO X ns root=0) (A:Option Addr) (c:Nat) (Y:Lay) (hG:ay β A ns Y) (hB:fW ns 1048576) (Af:Option Addr) (cf:Nat) (fs:List bR) (hF:cM β Af (bN eH fs)) (lV:gq fs 2097152) (Aa:Option Addr) (ca:Nat) (xs:List cI) (hA:cM β Aa (bN fF xs)) (hab:iO xs 1048576) :
    cq Tryz.prog β 15 #[CR A ns.length c root X Af fs.length cf Aa xs.length ca] [] (fun β' v l=>∃ (N:qI X ns) (G:WG) (V:WV),v=.tuple #[vP G.w,.int .i64 0]/\l=[wA G fs xs root N.1 V []]/\jK β' G.Z xs):=
  (DI A c ns Y hG hB X root Af cf fs hF lV Aa ca xs hA hab).mono (by
    rintro β' v l _ (⟨h,_⟩|⟨_,h⟩)
    ·exact absurd h0 h
    exact h)
theorem Js {ns:List aK} (h0:¬ cO X ns root=0) (A:Option Addr) (c:Nat) (Y:Lay) (hG:ay β A ns Y) (hB:fW ns 1048576) (Af:Option Addr) (cf:Nat) (fs:List bR) (hF:cM β Af (bN eH fs)) (lV:gq fs 2097152) (Aa:Option Addr) (ca:Nat) (xs:List cI) (hA:cM β Aa (bN fF xs)) (hab:iO xs 1048576) :
    cq Tryz.prog β 15 #[CR A ns.length c root X Af fs.length cf Aa xs.length ca] [] (fun _ v l=>v=.tuple #[.pointer none,.int .i64 (cO X ns root)]/\l=[]):=
  (DI A c ns Y hG hB X root Af cf fs hF lV Aa ca xs hA hab).mono (by
    rintro β' v l _ (⟨_,h1,h2⟩|⟨h,_⟩)
    ·exact⟨h1,h2⟩
    exact absurd h h0)
theorem Q8:cO (FC 99) uL 1=0:=BA Q6 RX (i:=0) ⟨by decide,rfl,fun q h=>absurd h (Nat.not_lt_zero q)⟩ rfl
theorem Ua:fW uL 1048576:=⟨by decide,fun i hi=>by
  obtain rfl:=HF hi
  exact⟨by unfold qQ;decide,by decide,by decide,by decide,fun j hj=>absurd hj (Nat.not_lt_zero j)⟩⟩
theorem RZ:gq xT 2097152:=⟨by decide,fun a ha=>by
  obtain rfl:=List.mem_singleton.1 ha
  decide⟩
theorem vH:iO [] 1048576:=⟨by decide,fun a ha=>by cases ha⟩
end f
end
section
open Go.RowKit Go.Maps bG aE
attribute [local irreducible] aj aP af ai
noncomputable abbrev Tb (b4:Nat):=(.blk b4 [.slice none (0) (0),vI 0,vI 0,vI 0,vI 0,vI 0,vI 0,.slice none (0) (0),.slice none (0) (0)] 34:HP)
noncomputable abbrev Q9 (b18:Nat) (HM) (p16):=(.blk b18 [vI 1,vI 0,vI 1,.string ⟨#[]⟩,.string ⟨#[]⟩,.slice HM (0) (p16),vI 0,vI 0,vI 0,vI 0,vI 0,vI 0,vI 1] 48:HP)
noncomputable abbrev Tc (oL:Nat) (Lc) (Ld):=(.blk oL [vI 4,vI 1,vI 0,.string ⟨#[100]⟩,.string ⟨#[]⟩,.slice Lc (0) (Ld),vI 0,vI 0,vI 0,vI 0,vI 0,vI 180,vI 0] 48:HP)
theorem Gt {β:Bs} (c:aB) (hD:bg β c.dA c.data) (hl:c.data.length<=1048576) :
    cq Tryz.prog β 17 #[.agg ⟨bK c⟩] [] (fun β' v l=>∃ B cp,v=.agg ⟨bK { c with dA:=B,dC:=cp }⟩/\l=[]/\bg β' B c.data/\c.data.length<=cp):=by
 refine cq.enter Tryz.func17 rfl Tryz.ntmps17 (Nat.le_of_ble_eq_true rfl) (fun hle0 R=>?_)
 refine SR (gN 1 (fun b1=>[(1,vP b1)]) (fun _=>[]) (fun _=>[]) (fun b1=>pC b1 c) (fun b1=>?_))
 refine gN 1 (fun b2=>[(2,vP b2)]) (fun _=>[]) (fun _=>[]) (fun b2=>.blk b2 [vI 0,vI 0,vI 0,.string ⟨#[]⟩,.string ⟨#[]⟩,.slice none (0) (0),vI 0,vI 0,vI 0,vI 0,vI 0,vI 0,vI 0] 48) (fun b2=>?_)
 refine NS (gK 2 [(4,.slice c.dA (c.data.length) (c.dC))] [(1,a_ 1 b1)] ?_)
 refine aj.iG (d:=(some 5)) (R:=[.abs R,pC b1 c,oW b2]) (pk:=[0,1,2]) (fun _=>by kernel_rfl) (DR c.dA c.dC c.data hD hl) rfl (by kernel_rfl) ?_
 rintro K7 _ _ kE ⟨B,cp,rfl,rfl,hB,Fw⟩
 replace hle0:=hle0.trans kE
 refine gC 2 [] [(1,a_ 1 b1)] [(1,[(5,.slice B (c.data.length) (cp))])] ?_
 refine NS (gC 2 [] [(0,A_ 1 b1 13),(1,A_ 2 b2 13)] [(2,(M6 c B cp))] ?_)
 refine NN (af.ret ?_)
 exact ai.oZ (v:=.agg ⟨bK (bE B cp c)⟩) (l:=[]) (bA:=[b2=b2,b2=b2,b2=b2,b2=b2,b2=b2,b2=b2,b2=b2,b2=b2,b2=b2,b2=b2,b2=b2,b2=b2,b2=b2]) [.at 2,.at 2,.at 2,.at 2,.at 2,.at 2,.at 2,.at 2,.at 2,.at 2,.at 2,.at 2,.at 2] [0] hle0 (fun _=>by kernel_rfl) ⟨rfl,rfl,rfl,rfl,rfl,rfl,rfl,rfl,rfl,rfl,rfl,rfl,rfl,trivial⟩ rfl (by kernel_rfl) (⟨B,cp,rfl,rfl,hB,Fw⟩)
theorem Gu {β:Bs}:cq Tryz.prog β 57 #[] [] (fun β' v l=>∃ B Bf,v=.agg #[.slice B 1 1,vI 1,vI 9,vI 99,vI 9,vI 0,vI 0,.slice Bf 1 1,.slice none 0 0]/\l=[]/\cM β' B (dr ⟨fun _=>none,fun _=>none,fun _=>0,fun _=>0⟩ uL)/\cM β' Bf (bN eH xT)):=by
 refine cq.enter Tryz.func57 rfl Tryz.ntmps57 (Nat.le_of_ble_eq_true rfl) (fun hle0 R=>?_)
 refine SR (gN 1 (fun b4=>[(0,vP b4)]) (fun _=>[]) (fun _=>[]) (fun b4=>.blk b4 [.slice none (0) (0),vI 0,vI 0,vI 0,vI 0,vI 0,vI 0,.slice none (0) (0),.slice none (0) (0)] 34) (fun b4=>?_))
 refine NS (gN 3 (fun b5=>[(4,.agg #[.slice (some ⟨b5,0,none⟩) (1) (1)])]) (fun _=>[]) (fun _=>[]) (fun b5=>.blk b5 [vI 1,vI 2,vI 493,vI 0,vI 0,vI 0,vI 0,.slice none (0) (0),.string ⟨#[]⟩,.slice none (0) (0)] 70) (fun b5=>?_))
 refine gN 2 (fun b6=>[(1,vP b6)]) (fun b6=>[(1,a_ 3 b6)]) (fun _=>[]) (fun b6=>.blk b6 [.slice (some ⟨b5,0,none⟩) (1) (1)] 24) (fun b6=>?_)
 refine NS (aj.mem (fun w hS=>hS.qX (i:=2) (b:=b5) (cs:=[vI 1,vI 2,vI 493,vI 0,vI 0,vI 0,vI 0,.slice none (0) (0),.string ⟨#[]⟩,.slice none (0) (0)]) (e:=70) 10 1 (by kernel_rfl) rfl (by decide)) ?_)
 refine aj.qb (Φ:=fun β'=>cM β' (some ⟨b5,0,none⟩) (dr ⟨fun _=>none,fun _=>none,fun _=>0,fun _=>0⟩ uL)) 2 [0,1,3] (cF:=[.abs R,Tb b4,.blk b6 [.slice (some ⟨b5,0,none⟩) (1) (1)] 24]) rfl rfl (by kernel_rfl) (fun F w h β' h1 h2=>cM.j9 h h1 h2) (fun qR fA hR=>?_)
 replace hle0:=hle0.trans fA
 refine gN 4 (fun b8=>[(5,.agg #[.slice (some ⟨b5,0,none⟩) (1) (1)]),(6,.agg #[vI 9,vI 99,vI 9,vI 0,vI 0]),(8,.slice (some ⟨b8,0,none⟩) (1) (1))]) (fun b8=>[(0,a_ 2 b6)]) (fun _=>[]) (fun b8=>.blk b8 [vI 2,vI 1] 39) (fun b8=>?_)
 refine aj.mem (fun w hS=>hS.qX (i:=3) (b:=b8) (cs:=[vI 2,vI 1]) (e:=39) 2 1 (by kernel_rfl) rfl (by decide)) ?_
 refine aj.qb (Φ:=fun β'=>cM β' (some ⟨b8,0,none⟩) (bN eH xT)) 3 [0,1,2] (cF:=[.abs R,Tb b4,.blk b6 [.slice (some ⟨b5,0,none⟩) (1) (1)] 24]) rfl rfl (by kernel_rfl) (fun F w h β' h1 h2=>cM.j9 h h1 h2) (fun V3 HT hQ=>?_)
 replace hR:=hR.le HT
 replace hle0:=hle0.trans HT
 refine gC 3 [] [(2,A_ 1 b4 9)] [(1,[(0,.slice (some ⟨b5,0,none⟩) (1) (1)),(1,vI 1),(2,vI 9),(3,vI 99),(4,vI 9),(7,.slice (some ⟨b8,0,none⟩) (1) (1))])] ?_
 refine NN (af.ret ?_)
 exact ai.oZ (v:=.agg #[.slice (some ⟨b5,0,none⟩) (1) (1),vI 1,vI 9,vI 99,vI 9,vI 0,vI 0,.slice (some ⟨b8,0,none⟩) (1) (1),.slice none (0) (0)]) (l:=[]) (bA:=[b4=b4,b4=b4,b4=b4,b4=b4,b4=b4,b4=b4,b4=b4,b4=b4,b4=b4]) [.at 1,.at 1,.at 1,.at 1,.at 1,.at 1,.at 1,.at 1,.at 1] [0] hle0 (fun _=>by kernel_rfl) ⟨rfl,rfl,rfl,rfl,rfl,rfl,rfl,rfl,rfl,trivial⟩ rfl (by kernel_rfl) (⟨_,_,rfl,rfl,hR,hQ⟩)
theorem Nc {β:Bs} (hg:iU β):cq Tryz.prog β 13 #[] [] (fun _ v l=>v=.bool true/\l=[]):=by
 refine cq.enter Tryz.func13 rfl Tryz.ntmps13 (Nat.le_of_ble_eq_true rfl) (fun hle0 R=>?_)
 refine SR (gK 1 [] [] ?_)
 refine NS (aj.iG (d:=(some 7)) (R:=[.abs R]) (pk:=[0]) (fun _=>by kernel_rfl) (Gu) rfl (by kernel_rfl) ?_)
 rintro Jp _ _ nU ⟨B,Bf,rfl,rfl,hR,hQ⟩
 replace hg:=hg.le nU
 replace hle0:=hle0.trans nU
 refine aj.iG (d:=(some 8)) (R:=[.abs R]) (pk:=[0]) (fun _=>by kernel_rfl) (BO (β:=Jp) (X:=FC 99) Q8 B 1 _ (RY hR) Ua Bf 1 xT hQ RZ none 0 [] (fun j v hj=>by simp [bN,cY] at hj) vH) rfl (by kernel_rfl) ?_
 rintro Ub _ _ vJ ⟨N,G,V,rfl,rfl,hZ⟩
 replace hg:=hg.le vJ
 replace hR:=hR.le vJ
 replace hQ:=hQ.le vJ
 replace hle0:=hle0.trans vJ
 refine gK 5 [(1,vP G.w),(2,vI 0)] [] ?_
 refine NN (af.seq (SR (gK 6 [(16,.bool false)] [] ?_)))
 refine NN (CF (af.skip (NX (SR (gK 2 [(17,vP G.w),(18,.agg #[vI 1,vI 0,vI 0,.string ⟨#[]⟩,.string ⟨#[]⟩,.slice none (0) (0),vI 0,vI 0,vI 0,vI 0,vI 0,vI 0,vI 0])] [] ?_)))))
 have hv:=Q7 N.2
 have e1:=T7 hv
 have cg:Inv (S1 N.1):=by have h:=Inv.iT (fs:=xT) (xs:=[]) (root:=1) (n:=1) (c:=nD) hv.inv;rw [e1] at h;exact h
 obtain⟨S3,e3,U6⟩:=T9 hv
 have U7:Inv S3:=by have h:=Inv.iT (fs:=xT) (xs:=[]) (root:=1) (n:=3) (c:=mZ) cg;rw [e3] at h;exact h
 refine aj.iG (d:=(some 19)) (R:=[.abs R]) (pk:=[0,1]) (fun _=>by kernel_rfl) (BM (β:=Ub) (G:=G) (V:=V) (tr:=[]) (c:=nD) (by decide) hv.inv (by show 0<=1048575;decide) hZ vH hg (fun j v hj=>by cases hj) (by decide) (by decide) (by decide) (by decide) (by decide) e1) rfl (by kernel_rfl) ?_
 rintro Uc _ _ sJ ⟨U8,Le,Lf,HM,p16,rfl,rfl,_,_,_⟩
 replace hg:=hg.le sJ
 replace hR:=hR.le sJ
 replace hQ:=hQ.le sJ
 replace hZ:=hZ.le sJ
 replace hle0:=hle0.trans sJ
 refine gN 2 (fun b18=>[(3,vP b18)]) (fun b18=>[(1,A_ 2 b18 13)]) (fun _=>[]) (fun b18=>.blk b18 [vI 1,vI 0,vI 1,.string ⟨#[]⟩,.string ⟨#[]⟩,.slice HM (0) (p16),vI 0,vI 0,vI 0,vI 0,vI 0,vI 0,vI 1] 48) (fun b18=>?_)
 refine NS (gK 2 [(20,vP G.w),(21,.agg #[vI 4,vI 1,vI 0,.string ⟨#[100]⟩,.string ⟨#[]⟩,.slice none (0) (0),vI 0,vI 0,vI 0,vI 0,vI 0,vI 0,vI 0])] [] ?_)
 refine aj.iG (d:=(some 22)) (R:=[.abs R,Q9 b18 HM p16]) (pk:=[0,1,2]) (fun _=>by kernel_rfl) (BM (β:=Uc) (G:=G) (V:=U8) (tr:=([]++[bE Le Lf ({ nD with other:=1,answer:=1,code:=0 })])) (c:=mZ) (by decide) cg (by show 1<=1048575;decide) hZ vH hg (fun j v hj=>by cases hj) (by decide) (by decide) (by decide) (by decide) (by decide) T8) rfl (by kernel_rfl) ?_
 rintro Ud _ _ sK ⟨U9,Oe,Og,Lc,Ld,rfl,rfl,_,_,_⟩
 replace hg:=hg.le sK
 replace hR:=hR.le sK
 replace hQ:=hQ.le sK
 replace hZ:=hZ.le sK
 replace hle0:=hle0.trans sK
 refine gN 2 (fun oL=>[(4,vP oL)]) (fun oL=>[(1,A_ 3 oL 13)]) (fun _=>[]) (fun oL=>.blk oL [vI 4,vI 1,vI 0,.string ⟨#[100]⟩,.string ⟨#[]⟩,.slice Lc (0) (Ld),vI 0,vI 0,vI 0,vI 0,vI 0,vI 180,vI 0] 48) (fun oL=>?_)
 refine NS (gK 2 [(23,vP G.w),(24,.agg #[vI 4,vI 1,vI 0,.string ⟨#[100]⟩,.string ⟨#[]⟩,.slice none (0) (0),vI 0,vI 0,vI 0,vI 0,vI 0,vI 0,vI 0])] [] ?_)
 refine aj.iG (d:=(some 25)) (R:=[.abs R,Q9 b18 HM p16,Tc oL Lc Ld]) (pk:=[0,1,2,3]) (fun _=>by kernel_rfl) (BM (β:=Ud) (G:=G) (V:=U9) (tr:=(([]++[bE Le Lf ({ nD with other:=1,answer:=1,code:=0 })])++[bE Oe Og ({ mZ with code:=180 })])) (c:=mZ) (by decide) cg (by show 2<=1048575;decide) hZ vH hg (fun j v hj=>by cases hj) (by decide) (by decide) (by decide) (by decide) (by decide) e3) rfl (by kernel_rfl) ?_
 rintro Ra _ _ sM ⟨Td,Rb,Rc,Te,Tf,rfl,rfl,_,_,_⟩
 replace hg:=hg.le sM
 replace hR:=hR.le sM
 replace hQ:=hQ.le sM
 replace hZ:=hZ.le sM
 replace hle0:=hle0.trans sM
 refine gN 2 (fun b32=>[(5,vP b32)]) (fun b32=>[(1,A_ 4 b32 13)]) (fun _=>[]) (fun b32=>.blk b32 [vI 4,vI 1,vI 0,.string ⟨#[100]⟩,.string ⟨#[]⟩,.slice Te (0) (Tf),vI 0,vI 0,vI 0,vI 0,vI 0,vI 0,vI 0] 48) (fun b32=>?_)
 refine NS (gK 20 [(44,.bool true),(45,vP G.w)] [(1,a_ 2 b18),(5,a_ 2 b18),(10,a_ 3 oL),(15,a_ 4 b32)] ?_)
 refine gL [0] (K9 (β:=Ra) (G:=G) (fs:=xT) (xs:=[]) (root:=1) (S:=S3) (V:=Td) (tr:=((([]++[bE Le Lf ({ nD with other:=1,answer:=1,code:=0 })])++[bE Oe Og ({ mZ with code:=180 })])++[bE Rb Rc ({ mZ with answer:=0,code:=0 })]))) ?_
 rintro _ _ ⟨rfl,rfl⟩
 refine gK 4 [(49,.bool true),(50,vP G.w)] [(0,p_ ⟨[],none,none,none,some (.bool true)⟩ [((.bool (decide (((((((([]++[bE Le Lf ({ nD with other:=1,answer:=1,code:=0 })])++[bE Oe Og ({ mZ with code:=180 })])++[bE Rb Rc ({ mZ with answer:=0,code:=0 })])).length:Nat):Int):Int)=(3:Int))):Value))=(.bool true)] ⟨rfl,trivial⟩)] ?_
 refine aj.iG (d:=(some 51)) (R:=[.abs R,Q9 b18 HM p16,Tc oL Lc Ld,.blk b32 [vI 4,vI 1,vI 0,.string ⟨#[100]⟩,.string ⟨#[]⟩,.slice Te (0) (Tf),vI 0,vI 0,vI 0,vI 0,vI 0,vI 0,vI 0] 48]) (pk:=[0,1,2,3,4]) (fun _=>by kernel_rfl) (BN (β:=Ra) (G:=G) (fs:=xT) (xs:=[]) (root:=1) (S:=S3) (V:=Td) (tr:=((([]++[bE Le Lf ({ nD with other:=1,answer:=1,code:=0 })])++[bE Oe Og ({ mZ with code:=180 })])++[bE Rb Rc ({ mZ with answer:=0,code:=0 })])) U7) rfl (by kernel_rfl) ?_
 rintro Ue _ _ j5 ⟨A4,c4,K4,rfl,rfl,_⟩
 replace hg:=hg.le j5
 replace hR:=hR.le j5
 replace hQ:=hQ.le j5
 replace hZ:=hZ.le j5
 replace hle0:=hle0.trans j5
 refine gK 5 [(0,.bool (decide ((((2:Nat):Int):Int)=(2:Int))))] [(1,p_ ⟨[],none,none,none,some (vI (((2:Nat):Int)))⟩ [((.int .i64 ↑((aS S3).length):Value))=(.int .i64 (((2:Nat):Int)))] ⟨by rw [oJ,U6],trivial⟩)] ?_
 refine NN (af.ret ?_)
 exact ai.oZ (v:=.bool (decide ((((2:Nat):Int):Int)=(2:Int)))) (l:=[]) (bA:=[]) [] [1] hle0 (fun _=>by kernel_rfl) trivial rfl (by kernel_rfl) (⟨rfl,rfl⟩)
end
section
open Go.RowKit Go.Maps bG aE
section q
variable {β:Bs} {ns:List aK} {Y:Lay} {X:FM} {root cX:Int} {S S2:aG} {c c2:aB} {n:Nat} {A:Option Addr} {p:Nat}
theorem Nd (N:qI X ns) (hcap:jb X) (hok:bM ns) (A:Option Addr) (c:Nat) (hG:ay β A ns Y) (hB:fW ns 1048576) :
    Spec Tryz.prog β 21 #[.agg #[.slice A ns.length c],.agg #[.int .i64 X.cN,.int .i64 X.cB,.int .i64 X.cH,.int .i64 X.cS,.int .i64 X.cZ]] [] (fun v l=>∃ (f m t:Nat) (L:HL),v=.tuple #[.pointer (some ⟨f,0,none⟩),.int .i64 0]/\l=pA f m t L N.1):=
  (FH hcap hok A c hG hB).mono (by
    rintro v l ⟨S,f,m,t,L,rfl,rfl⟩
    exact⟨f,m,t,L,rfl,by rw [show S.1=N.1 from S.2.uniq N.2]⟩)
theorem Jt (h:cX=if c.op=1 then root else c.other):mQ root { c with other:=cX }={ c with other:=cX }:=by
  unfold mQ
  by_cases e:c.op=1
  ·rw [if_pos e] at h
   subst h
   exact if_pos e
  exact if_neg e
theorem Nf (h:cX=if c.op=1 then root else c.other) (hd:bQ S { c with other:=cX }=(S2,c2)):iT [] [] root n S { c with other:=cX }=(S2,c2):=by
  unfold iT
  rw [Jt h]
  show bp 0 S { c with other:=cX }=_
  unfold bp
  rw [if_neg (by decide),if_neg (fun e=>by have:=e.1;omega),if_neg (fun e=>by have:=e.1;omega)]
  exact hd
theorem R3 (hd:bQ S c=(S2,c2)):bQ S (bE A p c)=(S2,bE A p c2):=by rw [Bu,hd]
theorem HV (hd:bQ S c=(S2,c2)):c2.data=c.data:=by
  have:=Fu (S:=S) (c:=c)
  rw [hd] at this
  exact this
structure uM (β:Bs) (B:Option Addr) (p:Nat) (d:List UInt8):Prop where
  b:bg β B d
  l:d.length<=p
theorem uM.le {β':Bs} {d:List UInt8} (h:uM β A p d) (g:β.le β'):uM β' A p d:=⟨h.b.le g,h.l⟩
theorem sN (c:aB) (hD:bg β c.dA c.data) (hl:c.data.length<=1048576):cq Tryz.prog β 17 #[.agg ⟨bK c⟩] [] (fun β' v l=>∃ B p,v=.agg ⟨bK (bE B p c)⟩/\l=[]/\uM β' B p c.data):=
  (Gt c hD hl).mono (by
    rintro β' v l _ ⟨B,p,rfl,rfl,h1,h2⟩
    exact⟨B,p,rfl,rfl,h1,h2⟩)
theorem O4 (L:HL) (f m t:Nat) (hI:Inv S) (hC:fL β (bE A p c)) (hd:bQ S c=(S2,c2)):Spec Tryz.prog β 24 #[vP f,.agg ⟨bK (bE A p c)⟩] (pA f m t L S) (fun v l=>∃ L2,v=.agg ⟨bK (bE A p c2)⟩/\l=pA f m t L2 S2):=by
  have h:=Bh (β:=β) S L f m t hI (bE A p c) hC
  rw [R3 hd] at h
  exact h
theorem FT:gq [] 2097152:=⟨by decide,fun a ha=>by cases ha⟩
theorem HX:cM β none (bN eH []):=fun j v hj=>by simp [bN,cY] at hj
theorem HY:cM β none (bN fF []):=fun j v hj=>by simp [bN,cY] at hj
end q
end
section
open Go.RowKit
section y
variable {P:Program} {β qL:Bs} {N:Nat} {ops:Array Oper} {S:List HP} {l l':List (Bool×Nat)} {fr fr':Fr} {hps:List HP} {Q:Post} {i:Nat} {bA:List Prop}
def jV (P:Program) (ops:Array Oper) (Q:Post) (R S:World->Prop):List (Bool×Nat)->Act->World->Prop
  | [],a,w=>Q .normal a w
  | (false,i)::l,a,w=>wpOp P ops Q i (fun a' w'=>(l=[]\/S w')/\jV P ops Q R S l a' w') a w
  | (true,i)::l,a,w=>∃ o v,ops[i]?=some o/\YieldsIf P ops R o v a/\jV P ops Q R S l (a.put o.dst v) w
theorem zU {R S:World->Prop} (hs:∀ w,S w->R w):∀ (l:List (Bool×Nat)) (a:Act) (w:World),jV P ops Q R S l a w->jU P ops Q S l a w
  | [],_,_,h=>h
  | (false,i)::l,a,w,h=>by
    unfold jV at h;unfold jU
    exact wpOp_mono (fun a' w' h'=>⟨h'.1,zU hs l a' w' h'.2⟩) h
  | (true,i)::l,a,w,h=>by
    unfold jV at h;unfold jU
    obtain⟨o,v,h1,h2,h3⟩:=h
    exact⟨o,v,h1,h2.imp (fun q=>⟨q.1,fun w hw=>q.2 w (hs w hw)⟩) id,zU hs l _ w h3⟩
def Bs.bare (β:Bs):Bs:=⟨fun _=>False,β.w0⟩
theorem Sat.bare {w:World} (h:Sat β S w):Sat β.bare [] w:=by
  obtain⟨ho,_⟩:=h
  exact⟨⟨ho.os,ho.tape,ho.output,ho.size,fun k hk=>hk.elim⟩,fun _ _=>False,fun i p h=>absurd h (by simp),fun i hi=>absurd hi (Nat.not_lt_zero i),fun i j hi=>absurd hi (Nat.not_lt_zero i)⟩
def Grown (a b:Bs):Prop:=a=b\/a.le b
theorem Grown.trans {a b c:Bs} (h:Grown a b) (g:b.le c):Grown a c:=.inr (h.elim (fun e=>e ▸ g) (fun h=>h.trans g))
theorem Grown.sat {a b:Bs} {w:World} (h:Grown a b) (hS:Sat b S w):Sat a S w:=h.elim (fun e=>e ▸ hS) (fun h=>hS.Ab h)
def iy (P:Program) (β qL:Bs) (N:Nat) (ops:Array Oper) (S:List HP) (l:List (Bool×Nat)) (fr:Fr) (hps:List HP) (Q:Post):Prop:=
  ∀ junk w,Sat β hps w->jV P ops (NP Q) (Sat qL.bare []) (Sat qL S) l (bW N fr junk) w
theorem gZ.Tg (K:iy P β β N ops S l fr hps Q):gZ P β N ops S l fr hps Q:=fun junk w hS=>zU (fun _ h=>h.bare) _ _ _ (K junk w hS)
theorem iy.CU {ι:Type} {B:ι->Bs} {Φ:ι->Prop} {fr':ι->Fr} {hp':ι->List HP} (pk:List Nat) (hle:Grown qL β) (hg:gB ops i=true) (h:aj P β N (nJ ops i) i fr hps (NP (Px β N B Φ fr' hp'))) (hn:bq pk=true) (hp:∀ j,bT (hp' j) pk=some S)
    (K:∀ j,β.le (B j)->Φ j->iy P (B j) qL N ops S l (fr' j) (hp' j) Q):iy P β qL N ops S ((false,i)::l) fr hps Q:=by
  intro junk w hS
  unfold jV
  refine mq hg (kU (Q':=_) (fun a w ⟨j,fI,hle2,wv,ha,dg⟩=>?_) _ (h junk w hS))
  subst ha
  exact⟨.inr ((hle.trans hle2).sat (dg.pick hn (hp j))),K j hle2 wv fI w dg⟩
theorem iy.cut {ι:Type} {fr':ι->Fr} {hp':ι->List HP} (pk:List Nat) (hle:Grown qL β) (hg:gB ops i=true) (h:aj P β N (nJ ops i) i fr hps (NP (ni β N fr' hp'))) (hn:bq pk=true) (hp:∀ j,bT (hp' j) pk=some S)
    (K:∀ j,iy P β qL N ops S l (fr' j) (hp' j) Q):iy P β qL N ops S ((false,i)::l) fr hps Q:=by
  intro junk w hS
  unfold jV
  refine mq hg (kU (Q':=_) (fun a w ⟨j,fI,ha,dg⟩=>?_) _ (h junk w hS))
  subst ha
  exact⟨.inr (hle.sat (dg.pick hn (hp j))),K j fI w dg⟩
theorem iy.last (hg:gB ops i=true) (h:aj P β N (nJ ops i) i fr hps (NP Q)):iy P β qL N ops S [(false,i)] fr hps Q:=by
  intro junk w hS
  unfold jV
  exact mq hg (kU (Q':=_) (fun a w hq=>⟨.inl rfl,by unfold jV;exact hq⟩) _ (h junk w hS))
theorem sO {junk:Nat->Value} {w:World} {S2:World->Prop}:∀ {hs:List OH} {is:List Nat} {fr fr':Fr} {T T':SS},oI P β N junk ops hs is fr T=some (fr',T')->(∀ p,p∈T'.bA->p)->T.used=true->T.hps=S →
    jV P ops (NP Q) (Sat β S) S2 l (bW N fr' junk) w->jV P ops (NP Q) (Sat β S) S2 (is.map (fun i=>(true,i))++l) (bW N fr junk) w
  | [],[],fr,fr',T,T',h,ho,hu,hT,hK=>by cases h;exact hK
  | h::hs,i::is,fr,fr',T,T',hr,ho,hu,hT,hK=>by
    unfold oI at hr
    repeat' split at hr
    all_goals first|(cases hr;done)|skip
    ·rename_i o hget _ vo _ v T1 h0 _ hv
     obtain⟨e1,e2⟩:=rH h0
     rw [List.map_cons,List.cons_append]
     unfold jV
     refine⟨o,v,hget,.inl ⟨by rw [eu];exact vo,fun w' dg=>?_⟩,?_⟩
     ·rw [d9]
      obtain⟨w2,h1,_,_,h4⟩:=kI h0 (fun p hp=>ho p (rC hr p hp)) (by rw [hT];exact dg) (fun e=>by rw [hu] at e;cases e)
      obtain⟨ew,_⟩:=h4 rfl
      rw [ew] at h1
      rcases h1 with h1|⟨h1,_⟩
      ·exact h1
      exact absurd h1 (qd hv)
     rw [dP]
     exact sO hr ho (e2.trans hu) (e1.trans hT) hK
    rename_i o hget _ vo
    rw [List.map_cons,List.cons_append]
    unfold jV
    refine⟨o,undef,hget,.inr ⟨by rw [eu];exact vo,rfl⟩,?_⟩
    rw [dP]
    exact sO hr ho hu hT hK
  | [],_::_,_,_,_,_,h,_,_,_,_=>by cases h
  | _::_,[],_,_,_,_,h,_,_,_,_=>by cases h
theorem gH (l2:List (Bool×Nat)) (mR:Fr) (is:List Nat) (os:List (Nat×OP)) (K:iy P β qL N ops S l2 mR hps Q)
    (h:∀ junk,sA P qL.bare N junk ops (jf (gD is.length os 0)) is fr [] (bU mR)=some (mR,owed (gD is.length os 0)):=by intro _;kernel_rfl) (hl:l'=is.map (fun i=>(true,i))++l2:=by rfl):iy P β qL N ops S l' fr hps Q:=by
  intro junk w hS
  subst hl
  have h0:=h junk
  unfold sA at h0
  split at h0
  ·rename_i kF S1 h1
   injection h0 with h0
   injection h0 with e1 e2
   have hK:=K (lk kF junk) w hS
   rw [← e1,← jd] at hK
   exact sO h1 (fun p hp=>(nL _).mem (by rw [← e2];exact hp)) rfl rfl hK
  cases h0
end y
end
section
open Go.RowKit Go.Maps bG aE
attribute [local irreducible] aj aP af ai
theorem law_worldQuiet (W:World) (A:Option Addr) (c:Nat) (ns:List aK) (Y:Lay) (hG:ay (B0 W) A ns Y) (hB:fW ns 1048576) (X:FM) (root:Int) (Af:Option Addr) (cf:Nat) (fs:List bR) (_V4:cM (B0 W) Af (bN eH fs)) (lV:gq fs 1048576) (Aa:Option Addr) (ca:Nat) (xs:List cI) (_V5:cM (B0 W) Aa (bN fF xs)) (hab:iO xs 1048576) (hrw:(Lit.int .i64 root).wf=true) (A1:Option Addr) (c1:Nat) (cs:List aB) (hS:d6 (B0 W) A1 cs) (_VE:cs.length<=1048576) (hxc:cs.length<=c1) (hg:iU (B0 W)) :
    Spec Tryz.prog (B0 W) 4 #[.agg #[.slice A (ns.length) (c),vI (root),vI (X.cN),vI (X.cB),vI (X.cH),vI (X.cS),vI (X.cZ),.slice Af (fs.length) (cf),.slice Aa (xs.length) (ca)],.slice A1 (cs.length) (c1)] [] (fun v _=>v=.bool true):=by
 have hle0:=B0.refl W
 have hfl:=lV.len
 have hxn:=hab.len
 refine Spec.enter Tryz.func4 rfl Tryz.ntmps4 (Nat.le_of_ble_eq_true rfl) (fun R=>?_)
 refine SR (gN 2 (fun b1=>[(2,vP b1)]) (fun _=>[]) (fun _=>[]) (fun b1=>.blk b1 [.slice A (ns.length) (c),vI (root),vI (X.cN),vI (X.cB),vI (X.cH),vI (X.cS),vI (X.cZ),.slice Af (fs.length) (cf),.slice Aa (xs.length) (ca)] 34) (fun b1=>?_))
 refine NN (af.seq (SR (aj.iG (d:=(some 10)) (R:=[.abs R,.blk b1 [.slice A (ns.length) (c),vI (root),vI (X.cN),vI (X.cB),vI (X.cH),vI (X.cS),vI (X.cZ),.slice Af (fs.length) (cf),.slice Aa (xs.length) (ca)] 34]) (pk:=[0,1]) (fun _=>by kernel_rfl) (Nc hg) rfl (by kernel_rfl) ?_)))
 rintro Ei _ _ iX ⟨rfl,rfl⟩
 replace hG:=hG.le iX
 replace hS:=hS.le iX
 replace hg:=hg.le iX
 replace hle0:=hle0.trans iX
 refine gK 1 [(11,.bool false)] [] ?_
 refine NN (CF (af.skip (NX (SR (gC 3 [] [(2,A_ 1 b1 2)] [(1,[(7,.slice none (0) (0)),(8,.slice none (0) (0))])] ?_)))))
 refine NN (af.seq ?_)
 by_cases h0:cO X ns root=0
 ·have hok:=Dx h0
  refine af.region (gK 1 [(15,.agg #[.slice A (ns.length) (c),vI (root),vI (X.cN),vI (X.cB),vI (X.cH),vI (X.cS),vI (X.cZ),.slice none (0) (0),.slice none (0) (0)])] [(0,A_ 1 b1 9)] ?_)
  refine aj.iG (d:=(some 16)) (R:=[.abs R,.blk b1 [.slice A (ns.length) (c),vI (root),vI (X.cN),vI (X.cB),vI (X.cH),vI (X.cS),vI (X.cZ),.slice none (0) (0),.slice none (0) (0)] 34]) (pk:=[0,1]) (fun _=>by kernel_rfl) (BO (β:=Ei) (X:=X) h0 A c Y hG hB none 0 ([]) HX FT none 0 ([]) HY vH) rfl (by kernel_rfl) ?_
  rintro K7 _ _ kE ⟨N,G,V,rfl,rfl,jv⟩
  replace hG:=hG.le kE
  replace hS:=hS.le kE
  replace hg:=hg.le kE
  replace hle0:=hle0.trans kE
  refine gK 5 [(5,vP G.w),(6,vI 0)] [] ?_
  refine NN (af.seq (SR (gK 6 [(24,.bool false)] [(1,p_ ⟨[],none,none,none,some (.bool false)⟩ [((.bool false:Value))=(.bool false)] ⟨rfl,trivial⟩)] ?_)))
  refine NN (CF (af.skip (NX (af.seq (af.kV (S:=[.blk b1 [.slice A (ns.length) (c),vI (root),vI (X.cN),vI (X.cB),vI (X.cH),vI (X.cS),vI (X.cZ),.slice none (0) (0),.slice none (0) (0)] 34]) [(true,0),(true,1),(true,3),(true,4),(false,2),(false,5),(true,6),(true,7),(true,8),(true,9),(false,10)] [2] (by kernel_rfl) (by kernel_rfl) rfl (by kernel_rfl) ?_)))))
  refine gG [(false,2),(false,5),(true,6),(true,7),(true,8),(true,9),(false,10)] [(1,.slice A1 (cs.length) (c1)),(2,vP b1),(5,vP G.w),(33,.agg #[.slice A (ns.length) (c)]),(36,.agg #[vI (X.cN),vI (X.cB),vI (X.cH),vI (X.cS),vI (X.cZ)])] [0,1,3,4] [(1,a_ 0 b1),(3,A_ 0 b1 5)] ?_
  refine gZ.Tg ?_
  have mA:Grown K7 K7:=.inl rfl
  refine iy.CU (ι:=Nat×Bs×(Option Addr)×Lay) (B:=fun ((c5,qR,B4,K6):Nat×Bs×(Option Addr)×Lay)=>qR) (Φ:=fun ((c5,qR,B4,K6):Nat×Bs×(Option Addr)×Lay)=>(ay qR B4 ns K6)) (fr':=fun ((c5,qR,B4,K6):Nat×Bs×(Option Addr)×Lay)=>[(1,.slice A1 (cs.length) (c1)),(2,vP b1),(5,vP G.w),(34,.agg #[.slice B4 (ns.length) (c5)]),(36,.agg #[vI (X.cN),vI (X.cB),vI (X.cH),vI (X.cS),vI (X.cZ)])]) (hp':=fun ((c5,qR,B4,K6):Nat×Bs×(Option Addr)×Lay)=>[wA G ([]) ([]) root N.1 V ([]),.abs R,.blk b1 [.slice A (ns.length) (c),vI (root),vI (X.cN),vI (X.cB),vI (X.cH),vI (X.cS),vI (X.cZ),.slice none (0) (0),.slice none (0) (0)] 34]) [2] mA (by kernel_rfl) ?_ rfl (fun _=>by kernel_rfl) ?_
  ·refine aj.iG (d:=(some 34)) (R:=[wA G ([]) ([]) root N.1 V ([]),.abs R,.blk b1 [.slice A (ns.length) (c),vI (root),vI (X.cN),vI (X.cB),vI (X.cH),vI (X.cS),vI (X.cZ),.slice none (0) (0),.slice none (0) (0)] 34]) (pk:=[0,1,2]) (fun _=>by kernel_rfl) (wH A c ns Y hG (vE hB) (Br hB)) rfl (by kernel_rfl) ?_
   rintro qR _ _ fA ⟨B4,c5,K6,rfl,rfl,GH⟩
   replace hG:=hG.le fA
   replace hS:=hS.le fA
   replace hg:=hg.le fA
   replace jv:=jv.le fA
   replace hle0:=hle0.trans fA
   refine NL ?_
   exact ai.Cd (c5,qR,B4,K6) rfl fA (GH) (idx:=[1,2,5,34,36]) (pk:=[0,1,2]) (fun _=>by kernel_rfl) rfl (by kernel_rfl)
  rintro⟨c5,qR,B4,K6⟩ fA GH
  show iy _ qR _ _ _ _ _ [(1,.slice A1 (cs.length) (c1)),(2,vP b1),(5,vP G.w),(34,.agg #[.slice B4 (ns.length) (c5)]),(36,.agg #[vI (X.cN),vI (X.cB),vI (X.cH),vI (X.cS),vI (X.cZ)])] [wA G ([]) ([]) root N.1 V ([]),.abs R,.blk b1 [.slice A (ns.length) (c),vI (root),vI (X.cN),vI (X.cB),vI (X.cH),vI (X.cS),vI (X.cZ),.slice none (0) (0),.slice none (0) (0)] 34] _
  replace hG:=hG.le fA
  replace hS:=hS.le fA
  replace hg:=hg.le fA
  replace jv:=jv.le fA
  replace hle0:=hle0.trans fA
  replace mA:=mA.trans fA
  refine iy.cut (ι:=Nat×Nat×Nat×HL) (fr':=fun ((f,m,t,L):Nat×Nat×Nat×HL)=>[(1,.slice A1 (cs.length) (c1)),(2,vP b1),(5,vP G.w),(37,.tuple #[vP f,vI 0])]) (hp':=fun ((f,m,t,L):Nat×Nat×Nat×HL)=>[.blk f [vI (N.1.X.cN),vI (N.1.X.cB),vI (N.1.X.cH),vI (N.1.X.cS),vI (N.1.X.cZ),.map (some m),vP t,vI (N.1.X.last),vI (N.1.X.ah),vI (N.1.X.used)] 126,.abs (aJ Tryz.prog 3 m (aW (aV L N.1.idx)) N.1.idx.length),.abs (bS 197 t N.1.X.cH N.1.ar (aV L N.1.us)),.abs (ax (bB N.1.O L)),.abs (ax (bC N.1.O L)),.abs (ax (bV N.1.O L)),wA G ([]) ([]) root N.1 V ([]),.abs R,.blk b1 [.slice A (ns.length) (c),vI (root),vI (X.cN),vI (X.cB),vI (X.cH),vI (X.cS),vI (X.cZ),.slice none (0) (0),.slice none (0) (0)] 34]) [8] mA (by kernel_rfl) ?_ rfl (fun _=>by kernel_rfl) ?_
  ·refine gL [] (Nd N hok.1 hok.2 B4 c5 GH hB) ?_
   rintro _ _ ⟨f,m,t,L,rfl,rfl⟩
   refine NL ?_
   exact MD (f,m,t,L) [1,2,5,37] [0,1,2,3,4,5,6,7,8]
  rintro⟨f,m,t,L⟩
  refine gH [(false,10)] [(1,.slice A1 (cs.length) (c1)),(2,vP b1),(5,vP G.w),(7,vP f),(39,vI 0)] [6,7,8,9] [] ?_
  refine iy.last (by kernel_rfl) ?_
  refine gK 1 [(6,vI 0)] [] ?_
  refine NL (ai.np (NX (af.seq (SR ?_))))
  refine gK 6 [(45,.bool false)] [] ?_
  refine NN (CF (af.skip (NX (SR (gK 1 [(46,.slice A1 (cs.length) (c1))] [] ?_)))))
  refine gL [] (QN A1 c1 cs hxc) ?_
  rintro _ _ ⟨n,hn,V6,rfl,rfl⟩
  refine gK 1 [(1,.slice A1 (n) (c1))] [] ?_
  refine NN (af.seq (SR (gK 1 [(8,vI 0)] [] ?_)))
  refine NN (af.block ?_)
  refine af.Ni (ι:=Nat×Bs×aG×WV×(List aB)×HL) (fun ((i,b,S,V,tr,L):Nat×Bs×aG×WV×(List aB)×HL)=>b) (fun ((i,b,S,V,tr,L):Nat×Bs×aG×WV×(List aB)×HL)=>(i<=n)/\((B0 W).le b)/\(d6 b A1 cs)/\(iU b)/\(Inv S)/\(jK b G.Z [])/\(tr.length=i)) (fun ((i,b,S,V,tr,L):Nat×Bs×aG×WV×(List aB)×HL)=>n - i) (fun ((i,b,S,V,tr,L):Nat×Bs×aG×WV×(List aB)×HL)=>[(1,.slice A1 (n) (c1)),(2,vP b1),(5,vP G.w),(7,vP f),(8,vI ↑i)]) (fun ((i,b,S,V,tr,L):Nat×Bs×aG×WV×(List aB)×HL)=>[.blk b1 [.slice A (ns.length) (c),vI (root),vI (X.cN),vI (X.cB),vI (X.cH),vI (X.cS),vI (X.cZ),.slice none (0) (0),.slice none (0) (0)] 34,wA G ([]) ([]) root S V tr,pF f m t S.X,pI m L S.idx,pT t S.X.cH S.ar L S.us,pO S.O L,pD S.O L,pE S.O L,.abs R]) (0,qR,N.1,V,[],L) rfl (idx:=[1,2,5,7,8]) (pk:=[8,6,0,1,2,3,4,5,7]) (show (0<=n)/\((B0 W).le qR)/\(d6 qR A1 cs)/\(iU qR)/\(Inv N.1)/\(jK qR G.Z [])/\(([]).length=0) from ⟨Nat.zero_le _,hle0,hS,hg,N.2.full,jv,rfl⟩) (fun _=>by kernel_rfl) rfl (by kernel_rfl) ?_
  rintro⟨i,b,S,V,tr,L⟩ ⟨hi,hle0,hS,hg,hI,jv,htr⟩
  show af _ b _ _ [(1,.slice A1 (n) (c1)),(2,vP b1),(5,vP G.w),(7,vP f),(8,vI ↑i)] [.blk b1 [.slice A (ns.length) (c),vI (root),vI (X.cN),vI (X.cB),vI (X.cH),vI (X.cS),vI (X.cZ),.slice none (0) (0),.slice none (0) (0)] 34,wA G ([]) ([]) root S V tr,pF f m t S.X,pI m L S.idx,pT t S.X.cH S.ar L S.us,pO S.O L,pD S.O L,pE S.O L,.abs R] _
  refine af.seq (SR (gK 4 [(51,.bool (decide ((((i:Nat):Int):Int) < (((n:Nat):Int):Int))))] [] ?_))
  refine NN (af.aZ (p:=(((i:Nat):Int):Int) < (((n:Nat):Int):Int)) (fun _=>by kernel_rfl) (fun Va=>?_) (fun Va=>?_))
  ·refine af.skip (NX (af.seq (af.block (SR ?_))))
   refine gK 4 [(57,.agg #[vI ((aq cs i).op),vI ((aq cs i).handle),vI ((aq cs i).other),.string (aq cs i).name,.string (aq cs i).text,.slice (aq cs i).dA ((aq cs i).data.length) ((aq cs i).dC),vI ((aq cs i).mode),vI ((aq cs i).uid),vI ((aq cs i).gid),vI ((aq cs i).sec),vI ((aq cs i).nano),vI ((aq cs i).code),vI ((aq cs i).answer)])] [(2,p_ ⟨[],some i,none,some ⟨(av A1),au A1,none⟩,none⟩ [((i:Nat):Int)=((i:Nat):Int),i < n,(⟨(av A1),au A1,none⟩:Addr).spot=none,(A1:Option Addr)=some ⟨(av A1),au A1,none⟩] ⟨rfl,by omega,rfl,d6.hd hS (i:=i) (by omega),trivial⟩),(3,p_ ⟨[.old (.int .i64 ((aq cs i).op)),.old (.int .i64 ((aq cs i).handle)),.old (.int .i64 ((aq cs i).other)),.old (.string (aq cs i).name),.old (.string (aq cs i).text),.old (.slice (aq cs i).dA ((aq cs i).data.length) ((aq cs i).dC)),.old (.int .i64 ((aq cs i).mode)),.old (.int .i64 ((aq cs i).uid)),.old (.int .i64 ((aq cs i).gid)),.old (.int .i64 ((aq cs i).sec)),.old (.int .i64 ((aq cs i).nano)),.old (.int .i64 ((aq cs i).code)),.old (.int .i64 ((aq cs i).answer))],none,none,none,none⟩ [(Rd b ⟨(av A1),au A1+i * 13+12,none⟩ (.int .i64 ((aq cs i).answer))),(Rd b ⟨(av A1),au A1+i * 13+11,none⟩ (.int .i64 ((aq cs i).code))),(Rd b ⟨(av A1),au A1+i * 13+10,none⟩ (.int .i64 ((aq cs i).nano))),(Rd b ⟨(av A1),au A1+i * 13+9,none⟩ (.int .i64 ((aq cs i).sec))),(Rd b ⟨(av A1),au A1+i * 13+8,none⟩ (.int .i64 ((aq cs i).gid))),(Rd b ⟨(av A1),au A1+i * 13+7,none⟩ (.int .i64 ((aq cs i).uid))),(Rd b ⟨(av A1),au A1+i * 13+6,none⟩ (.int .i64 ((aq cs i).mode))),(Rd b ⟨(av A1),au A1+i * 13+5,none⟩ (.slice (aq cs i).dA ((aq cs i).data.length) ((aq cs i).dC))),(Rd b ⟨(av A1),au A1+i * 13+4,none⟩ (.string (aq cs i).text)),(Rd b ⟨(av A1),au A1+i * 13+3,none⟩ (.string (aq cs i).name)),(Rd b ⟨(av A1),au A1+i * 13+2,none⟩ (.int .i64 ((aq cs i).other))),(Rd b ⟨(av A1),au A1+i * 13+1,none⟩ (.int .i64 ((aq cs i).handle))),(Rd b ⟨(av A1),au A1+i * 13,none⟩ (.int .i64 ((aq cs i).op)))] ⟨d6.rd hS (i:=i) (by omega) (j:=12) rfl,d6.rd hS (i:=i) (by omega) (j:=11) rfl,d6.rd hS (i:=i) (by omega) (j:=10) rfl,d6.rd hS (i:=i) (by omega) (j:=9) rfl,d6.rd hS (i:=i) (by omega) (j:=8) rfl,d6.rd hS (i:=i) (by omega) (j:=7) rfl,d6.rd hS (i:=i) (by omega) (j:=6) rfl,d6.rd hS (i:=i) (by omega) (j:=5) rfl,d6.rd hS (i:=i) (by omega) (j:=4) rfl,d6.rd hS (i:=i) (by omega) (j:=3) rfl,d6.rd hS (i:=i) (by omega) (j:=2) rfl,d6.rd hS (i:=i) (by omega) (j:=1) rfl,d6.rd hS (i:=i) (by omega) (j:=0) rfl,trivial⟩)] ?_
   refine aj.iG (d:=(some 58)) (R:=[.blk b1 [.slice A (ns.length) (c),vI (root),vI (X.cN),vI (X.cB),vI (X.cH),vI (X.cS),vI (X.cZ),.slice none (0) (0),.slice none (0) (0)] 34,wA G ([]) ([]) root S V tr,pF f m t S.X,pI m L S.idx,pT t S.X.cH S.ar L S.us,pO S.O L,pD S.O L,pE S.O L,.abs R]) (pk:=[0,1,2,3,4,5,6,7,8]) (fun _=>by kernel_rfl) (sN (aq cs i) (hS.q i (by omega)).data (hS.q i (by omega)).len) rfl (by kernel_rfl) ?_
   rintro Ti _ _ yH ⟨Bc,pc,rfl,rfl,mU⟩
   replace hS:=hS.le yH
   replace hg:=hg.le yH
   replace jv:=jv.le yH
   replace hle0:=hle0.trans yH
   refine gN 2 (fun b9=>[(9,vP b9)]) (fun b9=>[(1,A_ 9 b9 13)]) (fun _=>[]) (fun b9=>.blk b9 [vI ((aq cs i).op),vI ((aq cs i).handle),vI ((aq cs i).other),.string (aq cs i).name,.string (aq cs i).text,.slice Bc ((aq cs i).data.length) (pc),vI ((aq cs i).mode),vI ((aq cs i).uid),vI ((aq cs i).gid),vI ((aq cs i).sec),vI ((aq cs i).nano),vI ((aq cs i).code),vI ((aq cs i).answer)] 48) (fun b9=>?_)
   refine NN (af.join (ι:=Int×aG×aB) (fun ((cX,S2,c2):Int×aG×aB)=>(cX=if (aq cs i).op=1 then root else (aq cs i).other)/\((Lit.int .i64 cX).wf=true)/\(bQ S { (aq cs i) with other:=cX }=(S2,c2))/\(Inv S2)) (fun ((cX,S2,c2):Int×aG×aB)=>[(1,.slice A1 (n) (c1)),(2,vP b1),(5,vP G.w),(7,vP f),(8,vI ↑i),(9,vP b9)]) (fun ((cX,S2,c2):Int×aG×aB)=>[.blk b1 [.slice A (ns.length) (c),vI (root),vI (X.cN),vI (X.cB),vI (X.cH),vI (X.cS),vI (X.cZ),.slice none (0) (0),.slice none (0) (0)] 34,wA G ([]) ([]) root S V tr,pF f m t S.X,pI m L S.idx,pT t S.X.cH S.ar L S.us,pO S.O L,pD S.O L,pE S.O L,.abs R,.blk b9 [vI ((aq cs i).op),vI ((aq cs i).handle),vI (cX),.string (aq cs i).name,.string (aq cs i).text,.slice Bc ((aq cs i).data.length) (pc),vI ((aq cs i).mode),vI ((aq cs i).uid),vI ((aq cs i).gid),vI ((aq cs i).sec),vI ((aq cs i).nano),vI ((aq cs i).code),vI ((aq cs i).answer)] 48]) ?_ ?_)
   ·rintro⟨cX,S2,c2⟩ ⟨hoth,how,hd,FN⟩
    show af _ _ _ _ [(1,.slice A1 (n) (c1)),(2,vP b1),(5,vP G.w),(7,vP f),(8,vI ↑i),(9,vP b9)] [.blk b1 [.slice A (ns.length) (c),vI (root),vI (X.cN),vI (X.cB),vI (X.cH),vI (X.cS),vI (X.cZ),.slice none (0) (0),.slice none (0) (0)] 34,wA G ([]) ([]) root S V tr,pF f m t S.X,pI m L S.idx,pT t S.X.cH S.ar L S.us,pO S.O L,pD S.O L,pE S.O L,.abs R,.blk b9 [vI ((aq cs i).op),vI ((aq cs i).handle),vI (cX),.string (aq cs i).name,.string (aq cs i).text,.slice Bc ((aq cs i).data.length) (pc),vI ((aq cs i).mode),vI ((aq cs i).uid),vI ((aq cs i).gid),vI ((aq cs i).sec),vI ((aq cs i).nano),vI ((aq cs i).code),vI ((aq cs i).answer)] 48] _
    refine af.seq (af.kV (S:=[.blk b9 [vI ((aq cs i).op),vI ((aq cs i).handle),vI (cX),.string (aq cs i).name,.string (aq cs i).text,.slice Bc ((aq cs i).data.length) (pc),vI ((aq cs i).mode),vI ((aq cs i).uid),vI ((aq cs i).gid),vI ((aq cs i).sec),vI ((aq cs i).nano),vI ((aq cs i).code),vI ((aq cs i).answer)] 48]) [(true,0),(true,1),(true,4),(true,5),(false,2),(false,3),(false,6),(false,7),(false,8),(true,9),(true,10),(true,11),(true,13),(false,12),(false,14),(false,15),(true,16),(false,17)] [9] (by kernel_rfl) (by kernel_rfl) rfl (by kernel_rfl) ?_)
    refine gG [(false,2),(false,3),(false,6),(false,7),(false,8),(true,9),(true,10),(true,11),(true,13),(false,12),(false,14),(false,15),(true,16),(false,17)] [(1,.slice A1 (n) (c1)),(2,vP b1),(5,vP G.w),(7,vP f),(8,vI ↑i),(65,vP G.w),(66,.agg #[vI ((aq cs i).op),vI ((aq cs i).handle),vI (cX),.string (aq cs i).name,.string (aq cs i).text,.slice Bc ((aq cs i).data.length) (pc),vI ((aq cs i).mode),vI ((aq cs i).uid),vI ((aq cs i).gid),vI ((aq cs i).sec),vI ((aq cs i).nano),vI ((aq cs i).code),vI ((aq cs i).answer)]),(69,vP f),(70,.agg #[vI ((aq cs i).op),vI ((aq cs i).handle),vI (cX),.string (aq cs i).name,.string (aq cs i).text,.slice Bc ((aq cs i).data.length) (pc),vI ((aq cs i).mode),vI ((aq cs i).uid),vI ((aq cs i).gid),vI ((aq cs i).sec),vI ((aq cs i).nano),vI ((aq cs i).code),vI ((aq cs i).answer)])] [0,1,4,5] [(1,A_ 0 b9 13),(3,A_ 0 b9 13)] ?_
    refine gZ.Tg ?_
    have mA:Grown Ti Ti:=.inl rfl
    refine iy.CU (ι:=(Option Addr)×Nat×Bs) (B:=fun ((jA,c11,tU):(Option Addr)×Nat×Bs)=>tU) (Φ:=fun ((jA,c11,tU):(Option Addr)×Nat×Bs)=>(uM tU jA c11 (aq cs i).data)) (fr':=fun ((jA,c11,tU):(Option Addr)×Nat×Bs)=>[(1,.slice A1 (n) (c1)),(2,vP b1),(5,vP G.w),(7,vP f),(8,vI ↑i),(65,vP G.w),(67,.agg #[vI ((aq cs i).op),vI ((aq cs i).handle),vI (cX),.string (aq cs i).name,.string (aq cs i).text,.slice jA ((aq cs i).data.length) (c11),vI ((aq cs i).mode),vI ((aq cs i).uid),vI ((aq cs i).gid),vI ((aq cs i).sec),vI ((aq cs i).nano),vI ((aq cs i).code),vI ((aq cs i).answer)]),(69,vP f),(70,.agg #[vI ((aq cs i).op),vI ((aq cs i).handle),vI (cX),.string (aq cs i).name,.string (aq cs i).text,.slice Bc ((aq cs i).data.length) (pc),vI ((aq cs i).mode),vI ((aq cs i).uid),vI ((aq cs i).gid),vI ((aq cs i).sec),vI ((aq cs i).nano),vI ((aq cs i).code),vI ((aq cs i).answer)])]) (hp':=fun ((jA,c11,tU):(Option Addr)×Nat×Bs)=>[.blk b1 [.slice A (ns.length) (c),vI (root),vI (X.cN),vI (X.cB),vI (X.cH),vI (X.cS),vI (X.cZ),.slice none (0) (0),.slice none (0) (0)] 34,wA G ([]) ([]) root S V tr,.blk f [vI (S.X.cN),vI (S.X.cB),vI (S.X.cH),vI (S.X.cS),vI (S.X.cZ),.map (some m),vP t,vI (S.X.last),vI (S.X.ah),vI (S.X.used)] 126,.abs (aJ Tryz.prog 3 m (aW (aV L S.idx)) S.idx.length),.abs (bS 197 t S.X.cH S.ar (aV L S.us)),.abs (ax (bB S.O L)),.abs (ax (bC S.O L)),.abs (ax (bV S.O L)),.abs R,.blk b9 [vI ((aq cs i).op),vI ((aq cs i).handle),vI (cX),.string (aq cs i).name,.string (aq cs i).text,.slice Bc ((aq cs i).data.length) (pc),vI ((aq cs i).mode),vI ((aq cs i).uid),vI ((aq cs i).gid),vI ((aq cs i).sec),vI ((aq cs i).nano),vI ((aq cs i).code),vI ((aq cs i).answer)] 48]) [9] mA (by kernel_rfl) ?_ rfl (fun _=>by kernel_rfl) ?_
    ·refine aj.iG (d:=(some 67)) (R:=[.blk b1 [.slice A (ns.length) (c),vI (root),vI (X.cN),vI (X.cB),vI (X.cH),vI (X.cS),vI (X.cZ),.slice none (0) (0),.slice none (0) (0)] 34,wA G ([]) ([]) root S V tr,pF f m t S.X,pI m L S.idx,pT t S.X.cH S.ar L S.us,pO S.O L,pD S.O L,pE S.O L,.abs R,.blk b9 [vI ((aq cs i).op),vI ((aq cs i).handle),vI (cX),.string (aq cs i).name,.string (aq cs i).text,.slice Bc ((aq cs i).data.length) (pc),vI ((aq cs i).mode),vI ((aq cs i).uid),vI ((aq cs i).gid),vI ((aq cs i).sec),vI ((aq cs i).nano),vI ((aq cs i).code),vI ((aq cs i).answer)] 48]) (pk:=[0,1,2,3,4,5,6,7,8,9]) (fun _=>by kernel_rfl) (sN (bE Bc pc { (aq cs i) with other:=cX }) mU.b (hS.q i (by omega)).len) rfl (by kernel_rfl) ?_
     rintro tU _ _ iL ⟨jA,c11,rfl,rfl,ld⟩
     replace hS:=hS.le iL
     replace hg:=hg.le iL
     replace jv:=jv.le iL
     replace mU:=mU.le iL
     replace hle0:=hle0.trans iL
     refine NL ?_
     exact ai.Cd (jA,c11,tU) rfl iL (ld) (idx:=[1,2,5,7,8,65,67,69,70]) (pk:=[0,1,2,3,4,5,6,7,8,9]) (fun _=>by kernel_rfl) rfl (by kernel_rfl)
    rintro⟨jA,c11,tU⟩ iL ld
    show iy _ tU _ _ _ _ _ [(1,.slice A1 (n) (c1)),(2,vP b1),(5,vP G.w),(7,vP f),(8,vI ↑i),(65,vP G.w),(67,.agg #[vI ((aq cs i).op),vI ((aq cs i).handle),vI (cX),.string (aq cs i).name,.string (aq cs i).text,.slice jA ((aq cs i).data.length) (c11),vI ((aq cs i).mode),vI ((aq cs i).uid),vI ((aq cs i).gid),vI ((aq cs i).sec),vI ((aq cs i).nano),vI ((aq cs i).code),vI ((aq cs i).answer)]),(69,vP f),(70,.agg #[vI ((aq cs i).op),vI ((aq cs i).handle),vI (cX),.string (aq cs i).name,.string (aq cs i).text,.slice Bc ((aq cs i).data.length) (pc),vI ((aq cs i).mode),vI ((aq cs i).uid),vI ((aq cs i).gid),vI ((aq cs i).sec),vI ((aq cs i).nano),vI ((aq cs i).code),vI ((aq cs i).answer)])] [.blk b1 [.slice A (ns.length) (c),vI (root),vI (X.cN),vI (X.cB),vI (X.cH),vI (X.cS),vI (X.cZ),.slice none (0) (0),.slice none (0) (0)] 34,wA G ([]) ([]) root S V tr,pF f m t S.X,pI m L S.idx,pT t S.X.cH S.ar L S.us,pO S.O L,pD S.O L,pE S.O L,.abs R,.blk b9 [vI ((aq cs i).op),vI ((aq cs i).handle),vI (cX),.string (aq cs i).name,.string (aq cs i).text,.slice Bc ((aq cs i).data.length) (pc),vI ((aq cs i).mode),vI ((aq cs i).uid),vI ((aq cs i).gid),vI ((aq cs i).sec),vI ((aq cs i).nano),vI ((aq cs i).code),vI ((aq cs i).answer)] 48] _
    replace hS:=hS.le iL
    replace hg:=hg.le iL
    replace jv:=jv.le iL
    replace mU:=mU.le iL
    replace hle0:=hle0.trans iL
    replace mA:=mA.trans iL
    refine iy.CU (ι:=Bs×(Option Addr)×Nat×(Option Addr)×Nat×WV) (B:=fun ((vK,mV,mW,uN,wj,nE):Bs×(Option Addr)×Nat×(Option Addr)×Nat×WV)=>vK) (Φ:=fun ((vK,mV,mW,uN,wj,nE):Bs×(Option Addr)×Nat×(Option Addr)×Nat×WV)=>(bg vK uN c2.data)) (fr':=fun ((vK,mV,mW,uN,wj,nE):Bs×(Option Addr)×Nat×(Option Addr)×Nat×WV)=>[(1,.slice A1 (n) (c1)),(2,vP b1),(5,vP G.w),(7,vP f),(8,vI ↑i),(68,.agg #[vI (c2.op),vI (c2.handle),vI (c2.other),.string c2.name,.string c2.text,.slice uN (c2.data.length) (wj),vI (c2.mode),vI (c2.uid),vI (c2.gid),vI (c2.sec),vI (c2.nano),vI (c2.code),vI (c2.answer)]),(69,vP f),(70,.agg #[vI ((aq cs i).op),vI ((aq cs i).handle),vI (cX),.string (aq cs i).name,.string (aq cs i).text,.slice Bc ((aq cs i).data.length) (pc),vI ((aq cs i).mode),vI ((aq cs i).uid),vI ((aq cs i).gid),vI ((aq cs i).sec),vI ((aq cs i).nano),vI ((aq cs i).code),vI ((aq cs i).answer)])]) (hp':=fun ((vK,mV,mW,uN,wj,nE):Bs×(Option Addr)×Nat×(Option Addr)×Nat×WV)=>[wA G ([]) ([]) root S2 nE (tr++[bE mV mW c2]),.blk b1 [.slice A (ns.length) (c),vI (root),vI (X.cN),vI (X.cB),vI (X.cH),vI (X.cS),vI (X.cZ),.slice none (0) (0),.slice none (0) (0)] 34,.blk f [vI (S.X.cN),vI (S.X.cB),vI (S.X.cH),vI (S.X.cS),vI (S.X.cZ),.map (some m),vP t,vI (S.X.last),vI (S.X.ah),vI (S.X.used)] 126,.abs (aJ Tryz.prog 3 m (aW (aV L S.idx)) S.idx.length),.abs (bS 197 t S.X.cH S.ar (aV L S.us)),.abs (ax (bB S.O L)),.abs (ax (bC S.O L)),.abs (ax (bV S.O L)),.abs R,.blk b9 [vI ((aq cs i).op),vI ((aq cs i).handle),vI (cX),.string (aq cs i).name,.string (aq cs i).text,.slice Bc ((aq cs i).data.length) (pc),vI ((aq cs i).mode),vI ((aq cs i).uid),vI ((aq cs i).gid),vI ((aq cs i).sec),vI ((aq cs i).nano),vI ((aq cs i).code),vI ((aq cs i).answer)] 48]) [9] mA (by kernel_rfl) ?_ rfl (fun _=>by kernel_rfl) ?_
    ·refine aj.iG (d:=(some 68)) (R:=[.blk b1 [.slice A (ns.length) (c),vI (root),vI (X.cN),vI (X.cB),vI (X.cH),vI (X.cS),vI (X.cZ),.slice none (0) (0),.slice none (0) (0)] 34,pF f m t S.X,pI m L S.idx,pT t S.X.cH S.ar L S.us,pO S.O L,pD S.O L,pE S.O L,.abs R,.blk b9 [vI ((aq cs i).op),vI ((aq cs i).handle),vI (cX),.string (aq cs i).name,.string (aq cs i).text,.slice Bc ((aq cs i).data.length) (pc),vI ((aq cs i).mode),vI ((aq cs i).uid),vI ((aq cs i).gid),vI ((aq cs i).sec),vI ((aq cs i).nano),vI ((aq cs i).code),vI ((aq cs i).answer)] 48]) (pk:=[1,0,2,3,4,5,6,7,8,9]) (fun _=>by kernel_rfl) (BM (β:=tU) (G:=G) (fs:=[]) (xs:=[]) (S:=S) (V:=V) (tr:=tr) (c:=bE jA c11 { (aq cs i) with other:=cX }) (c2:=bE jA c11 c2) (S2:=S2) hrw hI (by omega) jv vH hg ld.b (hS.q i (by omega)).len (hS.q i (by omega)).hw how (hS.q i (by omega)).name (hS.q i (by omega)).text (KO.trans (by rw [Nf hoth hd]))) rfl (by kernel_rfl) ?_
     rintro vK _ _ gT ⟨nE,mV,mW,uN,wj,rfl,rfl,_,nV,_⟩
     replace hS:=hS.le gT
     replace hg:=hg.le gT
     replace jv:=jv.le gT
     replace mU:=mU.le gT
     replace ld:=ld.le gT
     replace hle0:=hle0.trans gT
     refine NL ?_
     exact ai.Cd (vK,mV,mW,uN,wj,nE) rfl gT (nV) (idx:=[1,2,5,7,8,68,69,70]) (pk:=[0,1,2,3,4,5,6,7,8,9]) (fun _=>by kernel_rfl) rfl (by kernel_rfl)
    rintro⟨vK,mV,mW,uN,wj,nE⟩ gT nV
    show iy _ vK _ _ _ _ _ [(1,.slice A1 (n) (c1)),(2,vP b1),(5,vP G.w),(7,vP f),(8,vI ↑i),(68,.agg #[vI (c2.op),vI (c2.handle),vI (c2.other),.string c2.name,.string c2.text,.slice uN (c2.data.length) (wj),vI (c2.mode),vI (c2.uid),vI (c2.gid),vI (c2.sec),vI (c2.nano),vI (c2.code),vI (c2.answer)]),(69,vP f),(70,.agg #[vI ((aq cs i).op),vI ((aq cs i).handle),vI (cX),.string (aq cs i).name,.string (aq cs i).text,.slice Bc ((aq cs i).data.length) (pc),vI ((aq cs i).mode),vI ((aq cs i).uid),vI ((aq cs i).gid),vI ((aq cs i).sec),vI ((aq cs i).nano),vI ((aq cs i).code),vI ((aq cs i).answer)])] [wA G ([]) ([]) root S2 nE (tr++[bE mV mW c2]),.blk b1 [.slice A (ns.length) (c),vI (root),vI (X.cN),vI (X.cB),vI (X.cH),vI (X.cS),vI (X.cZ),.slice none (0) (0),.slice none (0) (0)] 34,pF f m t S.X,pI m L S.idx,pT t S.X.cH S.ar L S.us,pO S.O L,pD S.O L,pE S.O L,.abs R,.blk b9 [vI ((aq cs i).op),vI ((aq cs i).handle),vI (cX),.string (aq cs i).name,.string (aq cs i).text,.slice Bc ((aq cs i).data.length) (pc),vI ((aq cs i).mode),vI ((aq cs i).uid),vI ((aq cs i).gid),vI ((aq cs i).sec),vI ((aq cs i).nano),vI ((aq cs i).code),vI ((aq cs i).answer)] 48] _
    replace hS:=hS.le gT
    replace hg:=hg.le gT
    replace jv:=jv.le gT
    replace mU:=mU.le gT
    replace ld:=ld.le gT
    replace hle0:=hle0.trans gT
    replace mA:=mA.trans gT
    refine iy.CU (ι:=(Option Addr)×Nat×Bs) (B:=fun ((wk,wm,sP):(Option Addr)×Nat×Bs)=>sP) (Φ:=fun ((wk,wm,sP):(Option Addr)×Nat×Bs)=>(uM sP wk wm (aq cs i).data)) (fr':=fun ((wk,wm,sP):(Option Addr)×Nat×Bs)=>[(1,.slice A1 (n) (c1)),(2,vP b1),(5,vP G.w),(7,vP f),(8,vI ↑i),(68,.agg #[vI (c2.op),vI (c2.handle),vI (c2.other),.string c2.name,.string c2.text,.slice uN (c2.data.length) (wj),vI (c2.mode),vI (c2.uid),vI (c2.gid),vI (c2.sec),vI (c2.nano),vI (c2.code),vI (c2.answer)]),(69,vP f),(71,.agg #[vI ((aq cs i).op),vI ((aq cs i).handle),vI (cX),.string (aq cs i).name,.string (aq cs i).text,.slice wk ((aq cs i).data.length) (wm),vI ((aq cs i).mode),vI ((aq cs i).uid),vI ((aq cs i).gid),vI ((aq cs i).sec),vI ((aq cs i).nano),vI ((aq cs i).code),vI ((aq cs i).answer)])]) (hp':=fun ((wk,wm,sP):(Option Addr)×Nat×Bs)=>[wA G ([]) ([]) root S2 nE (tr++[bE mV mW c2]),.blk b1 [.slice A (ns.length) (c),vI (root),vI (X.cN),vI (X.cB),vI (X.cH),vI (X.cS),vI (X.cZ),.slice none (0) (0),.slice none (0) (0)] 34,.blk f [vI (S.X.cN),vI (S.X.cB),vI (S.X.cH),vI (S.X.cS),vI (S.X.cZ),.map (some m),vP t,vI (S.X.last),vI (S.X.ah),vI (S.X.used)] 126,.abs (aJ Tryz.prog 3 m (aW (aV L S.idx)) S.idx.length),.abs (bS 197 t S.X.cH S.ar (aV L S.us)),.abs (ax (bB S.O L)),.abs (ax (bC S.O L)),.abs (ax (bV S.O L)),.abs R,.blk b9 [vI ((aq cs i).op),vI ((aq cs i).handle),vI (cX),.string (aq cs i).name,.string (aq cs i).text,.slice Bc ((aq cs i).data.length) (pc),vI ((aq cs i).mode),vI ((aq cs i).uid),vI ((aq cs i).gid),vI ((aq cs i).sec),vI ((aq cs i).nano),vI ((aq cs i).code),vI ((aq cs i).answer)] 48]) [9] mA (by kernel_rfl) ?_ rfl (fun _=>by kernel_rfl) ?_
    ·refine aj.iG (d:=(some 71)) (R:=[wA G ([]) ([]) root S2 nE (tr++[bE mV mW c2]),.blk b1 [.slice A (ns.length) (c),vI (root),vI (X.cN),vI (X.cB),vI (X.cH),vI (X.cS),vI (X.cZ),.slice none (0) (0),.slice none (0) (0)] 34,pF f m t S.X,pI m L S.idx,pT t S.X.cH S.ar L S.us,pO S.O L,pD S.O L,pE S.O L,.abs R,.blk b9 [vI ((aq cs i).op),vI ((aq cs i).handle),vI (cX),.string (aq cs i).name,.string (aq cs i).text,.slice Bc ((aq cs i).data.length) (pc),vI ((aq cs i).mode),vI ((aq cs i).uid),vI ((aq cs i).gid),vI ((aq cs i).sec),vI ((aq cs i).nano),vI ((aq cs i).code),vI ((aq cs i).answer)] 48]) (pk:=[0,1,2,3,4,5,6,7,8,9]) (fun _=>by kernel_rfl) (sN (bE Bc pc { (aq cs i) with other:=cX }) mU.b (hS.q i (by omega)).len) rfl (by kernel_rfl) ?_
     rintro sP _ _ fR ⟨wk,wm,rfl,rfl,pU⟩
     replace hS:=hS.le fR
     replace hg:=hg.le fR
     replace jv:=jv.le fR
     replace mU:=mU.le fR
     replace ld:=ld.le fR
     replace nV:=nV.le fR
     replace hle0:=hle0.trans fR
     refine NL ?_
     exact ai.Cd (wk,wm,sP) rfl fR (pU) (idx:=[1,2,5,7,8,68,69,71]) (pk:=[0,1,2,3,4,5,6,7,8,9]) (fun _=>by kernel_rfl) rfl (by kernel_rfl)
    rintro⟨wk,wm,sP⟩ fR pU
    show iy _ sP _ _ _ _ _ [(1,.slice A1 (n) (c1)),(2,vP b1),(5,vP G.w),(7,vP f),(8,vI ↑i),(68,.agg #[vI (c2.op),vI (c2.handle),vI (c2.other),.string c2.name,.string c2.text,.slice uN (c2.data.length) (wj),vI (c2.mode),vI (c2.uid),vI (c2.gid),vI (c2.sec),vI (c2.nano),vI (c2.code),vI (c2.answer)]),(69,vP f),(71,.agg #[vI ((aq cs i).op),vI ((aq cs i).handle),vI (cX),.string (aq cs i).name,.string (aq cs i).text,.slice wk ((aq cs i).data.length) (wm),vI ((aq cs i).mode),vI ((aq cs i).uid),vI ((aq cs i).gid),vI ((aq cs i).sec),vI ((aq cs i).nano),vI ((aq cs i).code),vI ((aq cs i).answer)])] [wA G ([]) ([]) root S2 nE (tr++[bE mV mW c2]),.blk b1 [.slice A (ns.length) (c),vI (root),vI (X.cN),vI (X.cB),vI (X.cH),vI (X.cS),vI (X.cZ),.slice none (0) (0),.slice none (0) (0)] 34,pF f m t S.X,pI m L S.idx,pT t S.X.cH S.ar L S.us,pO S.O L,pD S.O L,pE S.O L,.abs R,.blk b9 [vI ((aq cs i).op),vI ((aq cs i).handle),vI (cX),.string (aq cs i).name,.string (aq cs i).text,.slice Bc ((aq cs i).data.length) (pc),vI ((aq cs i).mode),vI ((aq cs i).uid),vI ((aq cs i).gid),vI ((aq cs i).sec),vI ((aq cs i).nano),vI ((aq cs i).code),vI ((aq cs i).answer)] 48] _
    replace hS:=hS.le fR
    replace hg:=hg.le fR
    replace jv:=jv.le fR
    replace mU:=mU.le fR
    replace ld:=ld.le fR
    replace nV:=nV.le fR
    replace hle0:=hle0.trans fR
    replace mA:=mA.trans fR
    refine iy.cut (ι:=HL) (fr':=fun (L2:HL)=>[(1,.slice A1 (n) (c1)),(2,vP b1),(5,vP G.w),(7,vP f),(8,vI ↑i),(68,.agg #[vI (c2.op),vI (c2.handle),vI (c2.other),.string c2.name,.string c2.text,.slice uN (c2.data.length) (wj),vI (c2.mode),vI (c2.uid),vI (c2.gid),vI (c2.sec),vI (c2.nano),vI (c2.code),vI (c2.answer)]),(72,.agg #[vI (c2.op),vI (c2.handle),vI (c2.other),.string c2.name,.string c2.text,.slice wk (c2.data.length) (wm),vI (c2.mode),vI (c2.uid),vI (c2.gid),vI (c2.sec),vI (c2.nano),vI (c2.code),vI (c2.answer)])]) (hp':=fun (L2:HL)=>[.blk f [vI (S2.X.cN),vI (S2.X.cB),vI (S2.X.cH),vI (S2.X.cS),vI (S2.X.cZ),.map (some m),vP t,vI (S2.X.last),vI (S2.X.ah),vI (S2.X.used)] 126,.abs (aJ Tryz.prog 3 m (aW (aV L2 S2.idx)) S2.idx.length),.abs (bS 197 t S2.X.cH S2.ar (aV L2 S2.us)),.abs (ax (bB S2.O L2)),.abs (ax (bC S2.O L2)),.abs (ax (bV S2.O L2)),wA G ([]) ([]) root S2 nE (tr++[bE mV mW c2]),.blk b1 [.slice A (ns.length) (c),vI (root),vI (X.cN),vI (X.cB),vI (X.cH),vI (X.cS),vI (X.cZ),.slice none (0) (0),.slice none (0) (0)] 34,.abs R,.blk b9 [vI ((aq cs i).op),vI ((aq cs i).handle),vI (cX),.string (aq cs i).name,.string (aq cs i).text,.slice Bc ((aq cs i).data.length) (pc),vI ((aq cs i).mode),vI ((aq cs i).uid),vI ((aq cs i).gid),vI ((aq cs i).sec),vI ((aq cs i).nano),vI ((aq cs i).code),vI ((aq cs i).answer)] 48]) [9] mA (by kernel_rfl) ?_ rfl (fun _=>by kernel_rfl) ?_
    ·refine gL [2,3,4,5,6,7] (O4 (β:=sP) (S2:=S2) (c2:=c2) L f m t hI (A:=wk) (p:=wm) (c:={ (aq cs i) with other:=cX }) ⟨(hS.q i (by omega)).hw,how,(hS.q i (by omega)).name,(hS.q i (by omega)).text,pU.b,Nat.le_trans (hS.q i (by omega)).len (by decide),pU.l⟩ hd) ?_
     rintro _ _ ⟨L2,rfl,rfl⟩
     refine NL ?_
     exact MD L2 [1,2,5,7,8,68,72] [0,1,2,3,4,5,6,7,8,9]
    rintro L2
    refine iy.cut (ι:=Unit) (fr':=fun (_:Unit)=>[(1,.slice A1 (n) (c1)),(2,vP b1),(5,vP G.w),(7,vP f),(8,vI ↑i),(73,.bool true)]) (hp':=fun (_:Unit)=>[.blk f [vI (S2.X.cN),vI (S2.X.cB),vI (S2.X.cH),vI (S2.X.cS),vI (S2.X.cZ),.map (some m),vP t,vI (S2.X.last),vI (S2.X.ah),vI (S2.X.used)] 126,.abs (aJ Tryz.prog 3 m (aW (aV L2 S2.idx)) S2.idx.length),.abs (bS 197 t S2.X.cH S2.ar (aV L2 S2.us)),.abs (ax (bB S2.O L2)),.abs (ax (bC S2.O L2)),.abs (ax (bV S2.O L2)),wA G ([]) ([]) root S2 nE (tr++[bE mV mW c2]),.blk b1 [.slice A (ns.length) (c),vI (root),vI (X.cN),vI (X.cB),vI (X.cH),vI (X.cS),vI (X.cZ),.slice none (0) (0),.slice none (0) (0)] 34,.abs R,.blk b9 [vI ((aq cs i).op),vI ((aq cs i).handle),vI (cX),.string (aq cs i).name,.string (aq cs i).text,.slice Bc ((aq cs i).data.length) (pc),vI ((aq cs i).mode),vI ((aq cs i).uid),vI ((aq cs i).gid),vI ((aq cs i).sec),vI ((aq cs i).nano),vI ((aq cs i).code),vI ((aq cs i).answer)] 48]) [9] mA (by kernel_rfl) ?_ rfl (fun _=>by kernel_rfl) ?_
    ·refine gL [] (Fq c2 uN wk wj wm nV (by rw [HV hd];exact pU.b) (by rw [HV hd];exact Nat.le_trans (hS.q i (by omega)).len (by decide))) ?_
     rintro _ _ ⟨rfl,rfl⟩
     refine NL ?_
     exact MD () [1,2,5,7,8,73] [0,1,2,3,4,5,6,7,8,9]
    rintro _
    refine gH [(false,12),(false,14),(false,15),(true,16),(false,17)] [(1,.slice A1 (n) (c1)),(2,vP b1),(5,vP G.w),(7,vP f),(8,vI ↑i),(75,.bool false),(76,vP G.w),(78,vP f)] [9,10,11,13] [] ?_
    refine iy.CU (ι:=(Option Addr)×Nat×Bs×Lay) (B:=fun ((wo,xU,tV,DJ):(Option Addr)×Nat×Bs×Lay)=>tV) (Φ:=fun ((wo,xU,tV,DJ):(Option Addr)×Nat×Bs×Lay)=>(ay tV wo (aS S2) DJ)) (fr':=fun ((wo,xU,tV,DJ):(Option Addr)×Nat×Bs×Lay)=>[(1,.slice A1 (n) (c1)),(2,vP b1),(5,vP G.w),(7,vP f),(8,vI ↑i),(75,.bool false),(77,.agg #[.slice wo ((aS S2).length) (xU)]),(78,vP f)]) (hp':=fun ((wo,xU,tV,DJ):(Option Addr)×Nat×Bs×Lay)=>[wA G ([]) ([]) root S2 nE (tr++[bE mV mW c2]),.blk f [vI (S2.X.cN),vI (S2.X.cB),vI (S2.X.cH),vI (S2.X.cS),vI (S2.X.cZ),.map (some m),vP t,vI (S2.X.last),vI (S2.X.ah),vI (S2.X.used)] 126,.abs (aJ Tryz.prog 3 m (aW (aV L2 S2.idx)) S2.idx.length),.abs (bS 197 t S2.X.cH S2.ar (aV L2 S2.us)),.abs (ax (bB S2.O L2)),.abs (ax (bC S2.O L2)),.abs (ax (bV S2.O L2)),.blk b1 [.slice A (ns.length) (c),vI (root),vI (X.cN),vI (X.cB),vI (X.cH),vI (X.cS),vI (X.cZ),.slice none (0) (0),.slice none (0) (0)] 34,.abs R,.blk b9 [vI ((aq cs i).op),vI ((aq cs i).handle),vI (cX),.string (aq cs i).name,.string (aq cs i).text,.slice Bc ((aq cs i).data.length) (pc),vI ((aq cs i).mode),vI ((aq cs i).uid),vI ((aq cs i).gid),vI ((aq cs i).sec),vI ((aq cs i).nano),vI ((aq cs i).code),vI ((aq cs i).answer)] 48]) [9] mA (by kernel_rfl) ?_ rfl (fun _=>by kernel_rfl) ?_
    ·refine aj.iG (d:=(some 77)) (R:=((pA f m t L2 S2)++[.blk b1 [.slice A (ns.length) (c),vI (root),vI (X.cN),vI (X.cB),vI (X.cH),vI (X.cS),vI (X.cZ),.slice none (0) (0),.slice none (0) (0)] 34,.abs R,.blk b9 [vI ((aq cs i).op),vI ((aq cs i).handle),vI (cX),.string (aq cs i).name,.string (aq cs i).text,.slice Bc ((aq cs i).data.length) (pc),vI ((aq cs i).mode),vI ((aq cs i).uid),vI ((aq cs i).gid),vI ((aq cs i).sec),vI ((aq cs i).nano),vI ((aq cs i).code),vI ((aq cs i).answer)] 48])) (pk:=[6,0,1,2,3,4,5,7,8,9]) (fun _=>by kernel_rfl) (BN (β:=sP) (G:=G) (fs:=[]) (xs:=[]) (root:=root) (S:=S2) (V:=nE) (tr:=(tr++[bE mV mW c2])) FN) rfl (by kernel_rfl) ?_
     rintro tV _ _ fk ⟨wo,xU,DJ,rfl,rfl,hH1⟩
     replace hS:=hS.le fk
     replace hg:=hg.le fk
     replace jv:=jv.le fk
     replace mU:=mU.le fk
     replace ld:=ld.le fk
     replace nV:=nV.le fk
     replace pU:=pU.le fk
     replace hle0:=hle0.trans fk
     refine NL ?_
     exact ai.Cd (wo,xU,tV,DJ) rfl fk (hH1) (idx:=[1,2,5,7,8,75,77,78]) (pk:=[0,1,2,3,4,5,6,7,8,9]) (fun _=>by kernel_rfl) rfl (by kernel_rfl)
    rintro⟨wo,xU,tV,DJ⟩ fk hH1
    show iy _ tV _ _ _ _ _ [(1,.slice A1 (n) (c1)),(2,vP b1),(5,vP G.w),(7,vP f),(8,vI ↑i),(75,.bool false),(77,.agg #[.slice wo ((aS S2).length) (xU)]),(78,vP f)] [wA G ([]) ([]) root S2 nE (tr++[bE mV mW c2]),pF f m t S2.X,pI m L2 S2.idx,pT t S2.X.cH S2.ar L2 S2.us,pO S2.O L2,pD S2.O L2,pE S2.O L2,.blk b1 [.slice A (ns.length) (c),vI (root),vI (X.cN),vI (X.cB),vI (X.cH),vI (X.cS),vI (X.cZ),.slice none (0) (0),.slice none (0) (0)] 34,.abs R,.blk b9 [vI ((aq cs i).op),vI ((aq cs i).handle),vI (cX),.string (aq cs i).name,.string (aq cs i).text,.slice Bc ((aq cs i).data.length) (pc),vI ((aq cs i).mode),vI ((aq cs i).uid),vI ((aq cs i).gid),vI ((aq cs i).sec),vI ((aq cs i).nano),vI ((aq cs i).code),vI ((aq cs i).answer)] 48] _
    replace hS:=hS.le fk
    replace hg:=hg.le fk
    replace jv:=jv.le fk
    replace mU:=mU.le fk
    replace ld:=ld.le fk
    replace nV:=nV.le fk
    replace pU:=pU.le fk
    replace hle0:=hle0.trans fk
    replace mA:=mA.trans fk
    refine iy.CU (ι:=(Option Addr)×Nat×Bs×Lay) (B:=fun ((lp,lS,oO,DK):(Option Addr)×Nat×Bs×Lay)=>oO) (Φ:=fun ((lp,lS,oO,DK):(Option Addr)×Nat×Bs×Lay)=>(ay oO lp (aS S2) DK)) (fr':=fun ((lp,lS,oO,DK):(Option Addr)×Nat×Bs×Lay)=>[(1,.slice A1 (n) (c1)),(2,vP b1),(5,vP G.w),(7,vP f),(8,vI ↑i),(75,.bool false),(77,.agg #[.slice wo ((aS S2).length) (xU)]),(79,.agg #[.slice lp ((aS S2).length) (lS)])]) (hp':=fun ((lp,lS,oO,DK):(Option Addr)×Nat×Bs×Lay)=>[.blk f [vI (S2.X.cN),vI (S2.X.cB),vI (S2.X.cH),vI (S2.X.cS),vI (S2.X.cZ),.map (some m),vP t,vI (S2.X.last),vI (S2.X.ah),vI (S2.X.used)] 126,.abs (aJ Tryz.prog 3 m (aW (aV L2 S2.idx)) S2.idx.length),.abs (ax (bB S2.O L2)),.abs (ax (bC S2.O L2)),.abs (ax (bV S2.O L2)),wA G ([]) ([]) root S2 nE (tr++[bE mV mW c2]),.abs (bS 197 t S2.X.cH S2.ar (aV L2 S2.us)),.blk b1 [.slice A (ns.length) (c),vI (root),vI (X.cN),vI (X.cB),vI (X.cH),vI (X.cS),vI (X.cZ),.slice none (0) (0),.slice none (0) (0)] 34,.abs R,.blk b9 [vI ((aq cs i).op),vI ((aq cs i).handle),vI (cX),.string (aq cs i).name,.string (aq cs i).text,.slice Bc ((aq cs i).data.length) (pc),vI ((aq cs i).mode),vI ((aq cs i).uid),vI ((aq cs i).gid),vI ((aq cs i).sec),vI ((aq cs i).nano),vI ((aq cs i).code),vI ((aq cs i).answer)] 48]) [9] mA (by kernel_rfl) ?_ rfl (fun _=>by kernel_rfl) ?_
    ·refine aj.iG (d:=(some 79)) (R:=[wA G ([]) ([]) root S2 nE (tr++[bE mV mW c2]),pT t S2.X.cH S2.ar L2 S2.us,.blk b1 [.slice A (ns.length) (c),vI (root),vI (X.cN),vI (X.cB),vI (X.cH),vI (X.cS),vI (X.cZ),.slice none (0) (0),.slice none (0) (0)] 34,.abs R,.blk b9 [vI ((aq cs i).op),vI ((aq cs i).handle),vI (cX),.string (aq cs i).name,.string (aq cs i).text,.slice Bc ((aq cs i).data.length) (pc),vI ((aq cs i).mode),vI ((aq cs i).uid),vI ((aq cs i).gid),vI ((aq cs i).sec),vI ((aq cs i).nano),vI ((aq cs i).code),vI ((aq cs i).answer)] 48]) (pk:=[1,2,4,5,6,0,3,7,8,9]) (fun _=>by kernel_rfl) (Jm (β:=tV) (S:=S2) (L:=L2) (f:=f) (m:=m) (t:=t) FN) rfl (by kernel_rfl) ?_
     rintro oO _ _ eF ⟨lp,lS,DK,rfl,rfl,hH2⟩
     replace hS:=hS.le eF
     replace hg:=hg.le eF
     replace jv:=jv.le eF
     replace mU:=mU.le eF
     replace ld:=ld.le eF
     replace nV:=nV.le eF
     replace pU:=pU.le eF
     replace hH1:=hH1.le eF
     replace hle0:=hle0.trans eF
     refine NL ?_
     exact ai.Cd (lp,lS,oO,DK) rfl eF (hH2) (idx:=[1,2,5,7,8,75,77,79]) (pk:=[0,1,2,3,4,5,6,7,8,9]) (fun _=>by kernel_rfl) rfl (by kernel_rfl)
    rintro⟨lp,lS,oO,DK⟩ eF hH2
    show iy _ oO _ _ _ _ _ [(1,.slice A1 (n) (c1)),(2,vP b1),(5,vP G.w),(7,vP f),(8,vI ↑i),(75,.bool false),(77,.agg #[.slice wo ((aS S2).length) (xU)]),(79,.agg #[.slice lp ((aS S2).length) (lS)])] [pF f m t S2.X,pI m L2 S2.idx,pO S2.O L2,pD S2.O L2,pE S2.O L2,wA G ([]) ([]) root S2 nE (tr++[bE mV mW c2]),pT t S2.X.cH S2.ar L2 S2.us,.blk b1 [.slice A (ns.length) (c),vI (root),vI (X.cN),vI (X.cB),vI (X.cH),vI (X.cS),vI (X.cZ),.slice none (0) (0),.slice none (0) (0)] 34,.abs R,.blk b9 [vI ((aq cs i).op),vI ((aq cs i).handle),vI (cX),.string (aq cs i).name,.string (aq cs i).text,.slice Bc ((aq cs i).data.length) (pc),vI ((aq cs i).mode),vI ((aq cs i).uid),vI ((aq cs i).gid),vI ((aq cs i).sec),vI ((aq cs i).nano),vI ((aq cs i).code),vI ((aq cs i).answer)] 48] _
    replace hS:=hS.le eF
    replace hg:=hg.le eF
    replace jv:=jv.le eF
    replace mU:=mU.le eF
    replace ld:=ld.le eF
    replace nV:=nV.le eF
    replace pU:=pU.le eF
    replace hH1:=hH1.le eF
    replace hle0:=hle0.trans eF
    replace mA:=mA.trans eF
    refine iy.cut (ι:=Unit) (fr':=fun (_:Unit)=>[(1,.slice A1 (n) (c1)),(2,vP b1),(5,vP G.w),(7,vP f),(8,vI ↑i),(75,.bool false),(80,.bool true)]) (hp':=fun (_:Unit)=>[.blk f [vI (S2.X.cN),vI (S2.X.cB),vI (S2.X.cH),vI (S2.X.cS),vI (S2.X.cZ),.map (some m),vP t,vI (S2.X.last),vI (S2.X.ah),vI (S2.X.used)] 126,.abs (aJ Tryz.prog 3 m (aW (aV L2 S2.idx)) S2.idx.length),.abs (ax (bB S2.O L2)),.abs (ax (bC S2.O L2)),.abs (ax (bV S2.O L2)),wA G ([]) ([]) root S2 nE (tr++[bE mV mW c2]),.abs (bS 197 t S2.X.cH S2.ar (aV L2 S2.us)),.blk b1 [.slice A (ns.length) (c),vI (root),vI (X.cN),vI (X.cB),vI (X.cH),vI (X.cS),vI (X.cZ),.slice none (0) (0),.slice none (0) (0)] 34,.abs R,.blk b9 [vI ((aq cs i).op),vI ((aq cs i).handle),vI (cX),.string (aq cs i).name,.string (aq cs i).text,.slice Bc ((aq cs i).data.length) (pc),vI ((aq cs i).mode),vI ((aq cs i).uid),vI ((aq cs i).gid),vI ((aq cs i).sec),vI ((aq cs i).nano),vI ((aq cs i).code),vI ((aq cs i).answer)] 48]) [9] mA (by kernel_rfl) ?_ rfl (fun _=>by kernel_rfl) ?_
    ·refine gL [] ((Ej wo lp xU lS (aS S2) (aS S2) DJ DK hH1 hH2 (MX FN.toInv0) (MW FN.toInv0)).val (congrArg Value.bool (decide_eq_true rfl))) ?_
     rintro _ _ ⟨rfl,rfl⟩
     refine NL ?_
     exact MD () [1,2,5,7,8,75,80] [0,1,2,3,4,5,6,7,8,9]
    rintro _
    refine gH [(false,17)] [(1,.slice A1 (n) (c1)),(2,vP b1),(5,vP G.w),(7,vP f),(8,vI ↑i),(75,.bool false),(81,.bool false)] [16] [] ?_
    refine iy.last (by kernel_rfl) ?_
    refine gK 1 [(82,.bool false)] [] ?_
    refine NL (ai.np (NX ?_))
    refine CF (af.skip (ai.aN (NX (af.region ?_))))
    refine gK 3 [(8,vI ↑(i+1))] [(1,p_ ⟨[],none,none,none,some (vI ↑(i+1))⟩ [(Value.int .i64 (IntKind.wrap .i64 (((i:Nat):Int)+1)))=(.int .i64 ↑(i+1))] ⟨bD (by omega) (by omega) (by omega),trivial⟩)] ?_
    refine NL ?_
    exact ai.Nj ((i+1),oO,S2,nE,(tr++[bE mV mW c2]),L2) (hb:=rfl) (idx:=[1,2,5,7,8]) (pk:=[7,5,0,1,6,2,3,4,8]) (show (((i+1))<=n)/\((B0 W).le oO)/\(d6 oO A1 cs)/\(iU oO)/\(Inv S2)/\(jK oO G.Z [])/\(((tr++[bE mV mW c2])).length=((i+1))) from ⟨by omega,hle0,hS,hg,FN,jv,by rw [List.length_append,htr];rfl⟩) (by show n - ((i+1)) < n - i;omega) (fun _=>by kernel_rfl) rfl (by kernel_rfl)
   refine SR (gK 3 [(61,.bool (decide (((aq cs i).op:Int)=(1:Int))))] [(1,a_ 9 b9)] ?_)
   refine NN (af.aZ (p:=((aq cs i).op:Int)=(1:Int)) (fun _=>by kernel_rfl) (fun Rf=>?_) (fun Rf=>?_))
   ·refine af.region (gC 4 [] [(1,a_ 0 b1),(3,a_ 9 b9)] [(9,[(2,vI (root))])] ?_)
    refine NL ?_
    exact ai.meet (root,(bQ S { (aq cs i) with other:=root }).1,(bQ S { (aq cs i) with other:=root }).2) (idx:=[1,2,5,7,8,9]) (pk:=[0,1,2,3,4,5,6,7,8,9]) (show (root=if (aq cs i).op=1 then root else (aq cs i).other)/\((Lit.int .i64 root).wf=true)/\(bQ S { (aq cs i) with other:=root }=(((bQ S { (aq cs i) with other:=root }).1),((bQ S { (aq cs i) with other:=root }).2)))/\(Inv ((bQ S { (aq cs i) with other:=root }).1)) from ⟨(if_pos Rf).symm,hrw,rfl,hI.bQ _⟩) (fun _=>by kernel_rfl) rfl (by kernel_rfl)
   refine af.skip ?_
   exact ai.meet ((aq cs i).other,(bQ S (aq cs i)).1,(bQ S (aq cs i)).2) (idx:=[1,2,5,7,8,9]) (pk:=[0,1,2,3,4,5,6,7,8,9]) (show (((aq cs i).other)=if (aq cs i).op=1 then root else (aq cs i).other)/\((Lit.int .i64 ((aq cs i).other)).wf=true)/\(bQ S { (aq cs i) with other:=((aq cs i).other) }=(((bQ S (aq cs i)).1),((bQ S (aq cs i)).2)))/\(Inv ((bQ S (aq cs i)).1)) from ⟨(if_neg Rf).symm,(hS.q i (by omega)).ow,rfl,hI.bQ _⟩) (fun _=>by kernel_rfl) rfl (by kernel_rfl)
  refine af.exit (ai.aX (ai.aX (ai.cP (NX (SR ?_)))))
  refine gK 1 [(83,vP G.w)] [] ?_
  refine gL [1] (M7 (β:=b) (G:=G) (fs:=[]) (xs:=[]) (root:=root) (S:=S) (V:=V) (tr:=tr)) ?_
  rintro _ _ ⟨rfl,rfl⟩
  refine gK 1 [(85,vP f)] [] ?_
  refine aj.iG (d:=(some 86)) (R:=[wA G ([]) ([]) root S V tr,.blk b1 [.slice A (ns.length) (c),vI (root),vI (X.cN),vI (X.cB),vI (X.cH),vI (X.cS),vI (X.cZ),.slice none (0) (0),.slice none (0) (0)] 34,pI m L S.idx,pO S.O L,pD S.O L,pE S.O L,.abs R]) (pk:=[2,4,0,1,3,5,6,7,8]) (fun _=>by kernel_rfl) (Jo S L f m t) rfl (by kernel_rfl) ?_
  rintro Uf _ _ vL ⟨V7,V8,rfl,rfl,_⟩
  replace hS:=hS.le vL
  replace hg:=hg.le vL
  replace jv:=jv.le vL
  replace hle0:=hle0.trans vL
  refine gK 4 [(89,.bool true),(90,vP G.w)] [(1,p_ ⟨[],none,none,none,some (.bool true)⟩ [(Value.bool (decide ((((S.us.length:Nat):Int):Int)=(((S.us.length:Nat):Int):Int))))=(.bool true)] ⟨by simp,trivial⟩)] ?_
  refine gL [2] (M8 (β:=Uf) (G:=G) (fs:=[]) (xs:=[]) (root:=root) (S:=S) (V:=V) (tr:=tr)) ?_
  rintro _ _ ⟨rfl,rfl⟩
  refine gK 1 [(92,vP f)] [] ?_
  refine gL [1,2] (FE S L f m t) ?_
  rintro _ _ ⟨rfl,rfl⟩
  refine gK 3 [(4,.bool true)] [(0,p_ ⟨[],none,none,none,some (.bool true)⟩ [(Value.bool (decide ((S.ar:Int)=(S.ar:Int))))=(.bool true)] ⟨by simp,trivial⟩)] ?_
  refine NN (af.ret ?_)
  exact ai.O7 (v:=.bool true) (l:=[]) (bA:=[]) [] [8] hle0 (fun _=>by kernel_rfl) trivial rfl (by kernel_rfl) (rfl)
 refine af.region (gK 1 [(15,.agg #[.slice A (ns.length) (c),vI (root),vI (X.cN),vI (X.cB),vI (X.cH),vI (X.cS),vI (X.cZ),.slice none (0) (0),.slice none (0) (0)])] [(0,A_ 1 b1 9)] ?_)
 refine aj.iG (d:=(some 16)) (R:=[.abs R,.blk b1 [.slice A (ns.length) (c),vI (root),vI (X.cN),vI (X.cB),vI (X.cH),vI (X.cS),vI (X.cZ),.slice none (0) (0),.slice none (0) (0)] 34]) (pk:=[0,1]) (fun _=>by kernel_rfl) (Js (β:=Ei) (X:=X) h0 A c Y hG hB none 0 ([]) HX FT none 0 ([]) HY vH) rfl (by kernel_rfl) ?_
 rintro Ue _ _ j5 ⟨rfl,rfl⟩
 replace hG:=hG.le j5
 replace hS:=hS.le j5
 replace hg:=hg.le j5
 replace hle0:=hle0.trans j5
 refine gK 5 [(5,.pointer none),(6,vI ((cO X ns root)))] [] ?_
 refine NN (af.seq (SR (gK 6 [(24,.bool true)] [(1,p_ ⟨[],none,none,none,some (.bool true)⟩ [((.bool (!(decide (((cO X ns root):Int)=(0:Int)))):Value))=(.bool true)] ⟨congrArg (fun b=>Value.bool !b) (decide_eq_false h0),trivial⟩)] ?_)))
 refine NN (CT (SR (gK 7 [(4,.bool true)] [(4,p_ ⟨[],none,none,none,some (.bool true)⟩ [((.bool (!(decide (((cO X ns root):Int)=(0:Int)))):Value))=(.bool true)] ⟨congrArg (fun b=>Value.bool !b) (decide_eq_false h0),trivial⟩)] ?_)))
 refine NN (af.ret (ai.ak ?_))
 exact ai.O7 (v:=.bool true) (l:=[]) (bA:=[]) [] [0] hle0 (fun _=>by kernel_rfl) trivial rfl (by kernel_rfl) (rfl)
end
section
open Go.RowKit
theorem glob_ok {W:World} (h:W.ShapedOpen Tryz.prog):iU (B0 W):=by
  obtain⟨m,hm⟩:=cell_of_shapedOpen_int (g:=0) (t:=3) (zero:=#[.int .i64 0]) (k:=.i64) h (Nat.le_of_ble_eq_true (by kernel_rfl)) (by kernel_rfl) rfl (by kernel_rfl) (by kernel_rfl) Tryz.underlying3
  exact⟨m,Ht hm,hm⟩
end
section
theorem zV {a:Assume} {stops:Option Stop.Interp} {C:Checked} {os:Os} {f:FuncId} {r:Go.Reach} {okInput:Program->World->Go.Reach->Nat->FuncId->Input->Prop} {Pre:World->Array Value->Prop} {Post:World->Array Value->Value->World->Prop} {always:Machine->Prop}
    (h:ReturnsInOpen a stops C os f r okInput Pre Post (aloneAtReturn C.prog) always):ReturnsInOpen a stops C os f r okInput Pre Post (leavingAtReturn C.prog) always:=by
  obtain⟨g0,g1,g2,g3,Ug⟩:=h
  refine⟨g0,g1,g2,g3,fun w tape i hf=>?_⟩
  obtain⟨n,v,w',hn,hc,hr,hp,⟨j,last,hj,hs,hq,hh,he⟩,ha⟩:=Ug w tape i hf
  exact⟨n,v,w',hn,hc,hr,hp,⟨j,last,hj,hs,hh,onlyLeaving_of_quiet hq,he⟩,ha⟩
theorem holds_leaving {p:Pinned} {s:OpenSpec} {c:OpenClaim} (hw:c.wf s=true) (hst:c.start=.entering) (hs:c.stops=[]) (hl:c.leaving=true) (h:({ c with leaving:=false }:OpenClaim).holds p s):c.holds p s:=by
  obtain⟨k1,k2,k3,k4,k5,k6,k7,k8,f,fn,k9,k10,k11,k12,k13,k14,k15,k16,k17,k18,k19,k20,k21,k22,k23,k24,k25,k26,k27,k28,Vb,L,Vc,hf⟩:=h
  refine⟨hw,k2,k3,k4,k5,k6,k7,k8,f,fn,k9,k10,k11,k12,k13,k14,k15,k16,k17,k18,k19,k20,k21,k22,k23,k24,k25,k26,k27,k28,Vb,L,Vc,fun os h1 h2 H enc inj=>?_⟩
  have h3:=hf os h1 h2 H enc inj
  unfold OpenClaim.form at h3 ⊢
  simp only [hst,hs] at h3 ⊢
  intro F
  have h4:=zV (h3 F)
  unfold OpenClaim.atReturn
  rw [hl]
  exact h4
end
end Go.Proofs.YtidjcblbdmfalaaGreat
