/-
  PROVED HERE: lemmas and contracts of functions (texts of this repo, joined; what the claim does not use is left out): HD, H10, H11, H12, Lw, LA, Lc, HW, Il, Ib, Og, LC, Oh, Wm, Nb, WE, WF, WA, HA, HB, WB, Wc, GFb, GFc, Cn, Rt, Sr, Sd, WC, Wd, Dl, DR, DT, Dp, DP, Dm, Do.
  CONDITIONS: as the theorems say.
-/
import Derived.Test.YtfececghhgeapaaGreatDoorMRcalls3
set_option maxRecDepth 100000
set_option maxHeartbeats 4000000
namespace Go.Proofs.YtfececghhgeapaaGreatDoor
section
open Go.RowKit Go.Maps bw aH
def PD:List Nat:=[200,201,202,203,204,205,206,207,208,209,210,211,212,213,214]
def hnV:Value:=.agg ⟨.nilFunc::PD.map (λf=>.func (.func f) #[] #[])⟩
theorem UZ {n:Int} (h:1<=n/\n<=15):n=1\/n=2\/n=3\/n=4\/n=5\/n=6\/n=7\/n=8\/n=9\/n=10\/n=11\/n=12\/n=13\/n=14\/n=15:=d5
theorem aeG {w:World} {o:Oper} {ev:Operand->Value} {x y:Operand} {n:Int} (ho:o.op=.index 319 x y) (hx:ev x=hnV) (hy:ev y=.int .i64 n) (hn:1<=n/\n<=15):sB Tryz.prog ev o w (.func (.func (PD.getD (n.toNat-1) 0)) #[] #[]) w:=by
 obtain⟨dst,op,type,pos,after,guard⟩:=o
 cases ho
 refine .inl ?_
 simp only [execOp,hx,hy]
 rcases UZ hn with h|h|h|h|h|h|h|h|h|h|h|h|h|h|h<;>subst h<;>kernel_rfl
theorem aB.hn {β:Bs} {N:fP} {k:Nat} {ops:Array Oper} {fr:Fr} {ay:List HP} {Q:Post} {d:Option Tmp} {x y:Operand} {n:Int} (hn:1<=n/\n<=15) (K:aB Tryz.prog β N ops (k+1) (eX fr d (.func (.func (PD.getD (n.toNat-1) 0)) #[] #[])) ay Q)
 (cD:∀ar,iZ N ar ops fr k=some (.index 319 x y,d):=by intro _;kernel_rfl) (hx:∀ar,fo N fr ar x=hnV:=by intro _;kernel_rfl) (hy:∀ar,fo N fr ar y=.int .i64 n:=by intro _;kernel_rfl):aB Tryz.prog β N ops k fr ay Q:=
 aB.nH cD (λ_ ar w ho hS=>⟨w,aeG ho (hx ar) (hy ar) hn,hS⟩) K
theorem agt {β:Bs} {S:aZ} {L:HL} {f m t b:Nat} {c:aK} (n:Int) (hI:bB S) (hC:qP β c) (h:1<=n/\n<=15) (he:c.op=n):aU Tryz.prog β (PD.getD (n.toNat-1) 0) #[vP f,vP b] (pA f m t L S++[pC b c]) (λv l=>∃L2,v=vI (iL S c).1/\l=pA f m t L2 (iL S c).2.1++[pC b (iL S c).2.2]):=by
 subst he
 rcases UZ h with h|h|h|h|h|h|h|h|h|h|h|h|h|h|h<;>rw [h]
 ·rw [vM h];exact UW S L f m t hI b c hC
 ·rw [uj h];exact Nf S L f m t hI b c hC
 ·exact KB hC.op (by rw [h];unfold mE;decide)
 ·rw [vN h];exact Rv S L f m t hI b c hC
 ·exact KB hC.op (by rw [h];unfold mE;decide)
 ·exact KB hC.op (by rw [h];unfold mE;decide)
 ·exact KB hC.op (by rw [h];unfold mE;decide)
 ·exact KB hC.op (by rw [h];unfold mE;decide)
 ·exact KB hC.op (by rw [h];unfold mE;decide)
 ·exact KB hC.op (by rw [h];unfold mE;decide)
 ·exact KB hC.op (by rw [h];unfold mE;decide)
 ·exact KB hC.op (by rw [h];unfold mE;decide)
 ·rw [sU h];exact Rw S L f m t hI b c hC
 ·exact KB hC.op (by rw [h];unfold mE;decide)
 exact KB hC.op (by rw [h];unfold mE;decide)
theorem Xf {S:aZ} {c:aK} (h:1<=c.op/\c.op<=15):(iL S c).2.2.op=c.op:=by
 rcases UZ h with h|h|h|h|h|h|h|h|h|h|h|h|h|h|h
 ·rw [vM h];exact ac0
 ·rw [uj h];exact Un
 ·rw [Gg h];exact Rh
 ·rw [vN h];exact Uo
 ·rw [Gh h];exact Ri
 ·rw [Gi h];exact O5
 ·rw [Gj h];exact WL
 ·rw [Gl h];exact Rj
 ·rw [Gm h];exact Ur
 ·rw [CN h];exact Us
 ·rw [CO h];exact ac1
 ·rw [CP h];exact WM
 ·rw [sU h];exact ZU
 ·rw [CQ h];exact Uq
 rw [CR h];exact Rk
end
section
open Go.RowKit Go.Maps bw aH
attribute [local irreducible] aB bJ av aF cC
abbrev zj1 (b3:Nat):=(.aD b3 [vI 0,vI 0,vI 0,.string ⟨#[]⟩,.string ⟨#[]⟩,.slice none (0) (0),vI 0,vI 0,vI 0,vI 0,vI 0,vI 0,vI 0] 63:HP)
abbrev zj2 (c:aK):=([(0,vI (c.op)),(1,vI (c.bA)),(2,vI (c.other)),(3,.string c.name),(4,.string c.text),(5,.slice c.dA (c.data.length) (c.dC)),(6,vI (c.mode)),(7,vI (c.cM)),(8,vI (c.cO)),(9,vI (c.bH)),(10,vI (c.bh)),(11,vI 230)]:Fr)
theorem Rx {β:Bs}:aU Tryz.prog β 199 #[] [] (λv l=>v=.agg #[.nilFunc,.func (.func 200) #[] #[],.func (.func 201) #[] #[],.func (.func 202) #[] #[],.func (.func 203) #[] #[],.func (.func 204) #[] #[],.func (.func 205) #[] #[],.func (.func 206) #[] #[],.func (.func 207) #[] #[],.func (.func 208) #[] #[],.func (.func 209) #[] #[],.func (.func 210) #[] #[],.func (.func 211) #[] #[],.func (.func 212) #[] #[],.func (.func 213) #[] #[],.func (.func 214) #[] #[]]/\l=[]):=by
 exact SE Tryz.func199 Tryz.ntmps199 (λR=>SR (jB 1 [0] (λb1=>.aD b1 [.nilFunc,.nilFunc,.nilFunc,.nilFunc,.nilFunc,.nilFunc,.nilFunc,.nilFunc,.nilFunc,.nilFunc,.nilFunc,.nilFunc,.nilFunc,.nilFunc,.nilFunc,.nilFunc] 319) (λb1=>NS (jC 2 [] [(1,A_ 1 b1 16)] [(1,[(1,.func (.func 200) #[] #[]),(2,.func (.func 201) #[] #[]),(3,.func (.func 202) #[] #[]),(4,.func (.func 203) #[] #[]),(5,.func (.func 204) #[] #[]),(6,.func (.func 205) #[] #[]),(7,.func (.func 206) #[] #[]),(8,.func (.func 207) #[] #[]),(9,.func (.func 208) #[] #[]),(10,.func (.func 209) #[] #[]),(11,.func (.func 210) #[] #[]),(12,.func (.func 211) #[] #[]),(13,.func (.func 212) #[] #[]),(14,.func (.func 213) #[] #[]),(15,.func (.func 214) #[] #[])])] (eS [A_ 1 b1 16] ⟨rfl,rfl⟩)))))
theorem PE {β:Bs} (S:aZ) (L:HL) (f m t:Nat) (hI:bB S) (c:aK) (hC:qP β c) :
 aU Tryz.prog β 198 #[vP f,.agg ⟨aW c⟩] (pA f m t L S) (λv l=>∃L2,v=.agg ⟨aW (fF S c).2⟩/\l=(pA f m t L2 ((fF S c).1))):=by
 have hX:=hI.hX
 refine SE Tryz.func198 Tryz.ntmps198 (λR=>SR (jB 1 [3] (λb2=>.aD b2 (aW c) 63) (λb2=>jB 1 [4] (λb3=>.aD b3 [vI 0,vI 0,vI 0,.string ⟨#[]⟩,.string ⟨#[]⟩,.slice none (0) (0),vI 0,vI 0,vI 0,vI 0,vI 0,vI 0,vI 0] 63) (λb3=>NS (jC 2 [] [(1,a_ 7 b2)] [(7,[(12,vI 0)])] (NS (jC 2 [] [(1,a_ 7 b2)] [(7,[(11,vI 230)])] (NZ (jK 4 [10] [(1,a_ 7 b2)] (sP 10 ((c.op:Int)>=(1:Int)) (λh10=>jK 4 [14] [(1,a_ 7 b2)] (NN (cP ((c.op:Int)<=(15:Int)) (λnO=>?_) (λnO=>KX (SR (jC 2 [] [(0,A_ 7 b2 13),(1,A_ 8 b3 13)] [(8,(zj2 c))] (eS [A_ 8 b3 13] ⟨L,by unfold fF;rw [z7 (S:=S) (c:=(c0 c)) gn];exact⟨rfl,rfl⟩⟩))))))) (λh10=>jK 4 [14] [] (NF (KX (SR (jC 2 [] [(0,A_ 7 b2 13),(1,A_ 8 b3 13)] [(8,(zj2 c))] (eS [A_ 8 b3 13] ⟨L,by unfold fF;rw [z7 (S:=S) (c:=(c0 c)) gn];exact⟨rfl,rfl⟩⟩))))))))))))))))
 have cD:1<=c.op/\c.op<=15:=⟨h10,nO⟩
 refine av.UX (S:=[.abs (CW b2 (.int .i64 c.op))]) [1,2,4,0,3,5,6,7] 3 d6 d6 (λw hS=>hS.first (i:=7) (b:=b2) rfl rfl) (jR 3 [3,4,17,19] [(1,p_ ⟨[.view 0 (.int .i64 (c.op))],none,none,none,none⟩ [(∀F w,(CW b2 (.int .i64 c.op)).h F w->w.cell? ⟨b2,0,none⟩=some (vI (c.op)))] ⟨CW.cell,trivial⟩)] (cC.UY (ι:=Unit) (bN:=λ(_:Unit)=>[(3,vP b2),(4,vP b3),(15,.agg #[.nilFunc,.func (.func 200) #[] #[],.func (.func 201) #[] #[],.func (.func 202) #[] #[],.func (.func 203) #[] #[],.func (.func 204) #[] #[],.func (.func 205) #[] #[],.func (.func 206) #[] #[],.func (.func 207) #[] #[],.func (.func 208) #[] #[],.func (.func 209) #[] #[],.func (.func 210) #[] #[],.func (.func 211) #[] #[],.func (.func 212) #[] #[],.func (.func 213) #[] #[],.func (.func 214) #[] #[]]),(17,vI (c.op)),(19,vP f)]) (dh:=λ(_:Unit)=>((pA f m t L S)++[.abs R,pC b2 (c0 c),zj1 b3])) rfl rfl ?_ (by rintro _ w hS;exact hS.first (i:=7) (b:=b2) rfl rfl) ?_))
 ·exact gE [] (Rx) (NL (MD () [3,4,15,17,19] [0,1,2,3,4,5,6,7,8]))
 rintro _
 refine cC.UY (ι:=Unit) (bN:=λ(_:Unit)=>[(3,vP b2),(4,vP b3),(18,.func (.func (PD.getD (c.op.toNat-1) 0)) #[] #[]),(19,vP f)]) (dh:=λ(_:Unit)=>((pA f m t L S)++[.abs R,pC b2 (c0 c),zj1 b3])) rfl rfl ?_ (by rintro _ w hS;exact hS.first (i:=7) (b:=b2) rfl rfl) ?_
 ·exact aB.hn (x:=(.tmp 15)) (y:=(.tmp 17)) (d:=(some 18)) cD (NL (MD () [3,4,18,19] [0,1,2,3,4,5,6,7,8]))
 rintro _
 refine cC.UY (ι:=HL) (bN:=λ(L2:HL)=>[(3,vP b2),(4,vP b3),(20,vI ((iL S (c0 c)).1))]) (dh:=λ(L2:HL)=>((pA f m t L2 ((iL S (c0 c)).2.1))++[pC b2 ((iL S (c0 c)).2.2),.abs R,zj1 b3])) rfl rfl ?_ (by rintro L2 w hS;exact hS.first (i:=6) (b:=b2) rfl (zc (λz=>some (Value.int .i64 z)) (Xf (c:=(c0 c)) cD))) ?_
 ·refine gL [0,1,2,3,4,5,7] (agt (S:=S) (L:=L) (f:=f) (m:=m) (t:=t) (b:=b2) (c:=(c0 c)) c.op hI ⟨hC.hw,hC.ow,hC.nm,hC.tx,hC.da,hC.dl,hC.dc,hC.op⟩ cD rfl) ?_ (by intro _;rcases UZ cD with h|h|h|h|h|h|h|h|h|h|h|h|h|h|h<;>rw [h]<;>kernel_rfl)
  rintro _ _ ⟨L2,rfl,rfl⟩
  exact NL (MD L2 [3,4,20] [0,1,2,3,4,5,6,7,8])
 rintro L2
 refine cC.UY (ι:=Unit) (bN:=λ(_:Unit)=>[(3,vP b2),(4,vP b3),(20,vI ((iL S (c0 c)).1)),(21,.pointer (some ⟨b2,11,none⟩))]) (dh:=λ(_:Unit)=>((pA f m t L2 ((iL S (c0 c)).2.1))++[pC b2 ((iL S (c0 c)).2.2),.abs R,zj1 b3])) rfl rfl ?_ (by rintro _ w hS;exact hS.first (i:=6) (b:=b2) rfl (zc (λz=>some (Value.int .i64 z)) (Xf (c:=(c0 c)) cD))) ?_
 ·exact jK 1 [21] [] (NL (MD () [3,4,20,21] [0,1,2,3,4,5,6,7,8]))
 rintro _
 exact cC.last rfl rfl (jC 1 [] [(0,a_ 6 b2)] [(6,[(11,vI ((iL S (c0 c)).1))])] (NL (aF.np (NX (SR (jC 2 [] [(0,A_ 6 b2 13),(1,A_ 8 b3 13)] [(8,(zC (aW { (iL S (c0 c)).2.2 with code:=(iL S (c0 c)).1})))] (eS [A_ 8 b3 13] ⟨L2,rfl,rfl⟩ [0,1,2,3,4,5,7])))))))
end
section
open Go.RowKit Go.Maps bw aH
attribute [local irreducible] aB bJ av aF cC lX
abbrev SD (B)(d:List UInt8) (cap):=(.abs (aI 5 1 B d.length cap (d9 d)):HP)
abbrev zk2 (b5:Nat) (An:Option Addr) (i:Nat) (cn:Nat):=(.aD b5 [.slice An (i) (cn)] 24:HP)
abbrev zk3 (An:Option Addr) (i:Nat) (cn:Nat) (K:fq) (S:aZ):=(.abs (aI 102 10 An i cn (bS K ((aV S).take i))):HP)
abbrev zk4 (S:aZ) (i:Nat) (K:fq):=(.abs (ld (qR ((aV S).take i) K) i):HP)
abbrev zk5 (S:aZ) (i:Nat) (K:fq):=(.abs (ld (mI ((aV S).take i) K) i):HP)
abbrev zk6 (A7:Option Addr) (S:aZ) (c8:Nat):=(.abs (aI 3 1 A7 ((aY S.ax).length) c8 (bL (aY S.ax))):HP)
abbrev zk7 (b4:Nat):=(.aD b4 [.slice none (0) (0)] 24:HP)
abbrev zk8 (b9:Nat):=(.aD b9 [vI 0,vI 0,vI 0,vI 0,vI 0,vI 0,vI 0,.slice none (0) (0),.string ⟨#[]⟩,.slice none (0) (0)] 102:HP)
abbrev aeH (S:aZ) (L:HL) (tk:Nat):=(.abs (bp (pU (iE S.O L) tk eG.none)):HP)
abbrev U0 (L:HL) (tk:Nat) (S:aZ):=(.abs (bM Tryz.prog 9 (L.m tk) (nI L (ah S.O tk).aq) ((ah S.O tk).aq.length)):HP)
abbrev U1 (b15:Nat) (S:aZ) (i:Nat) (tk:Nat) (Ae:Option Addr) (j:Nat) (ce:Nat):=(.aD b15 [vI ((iy S i)),vI 2,vI ((ah S.O tk).mode),vI ((ah S.O tk).cM),vI ((ah S.O tk).cO),vI ((ah S.O tk).bH),vI ((ah S.O tk).bh),.slice none (0) (0),.string ⟨#[]⟩,.slice Ae (j) (ce)] 102:HP)
abbrev U2 (oO:Option Addr) (S:aZ) (tk:Nat) (c18:Nat):=(.abs (aI 9 1 oO ((ah S.O tk).aq.length) c18 (ye (ah S.O tk).aq)):HP)
abbrev aak (og:Option Addr) (j:Nat) (oh:Nat) (S:aZ) (tk:Nat):=(.abs (aI 126 2 og (j+1) oh (mQ (((ah S.O tk).aq.take (j+1)).map (gM S.O)))):HP)
abbrev Le (S:aZ) (tk:Nat):=([(39,vI ((ah S.O tk).mode)),(43,vI ((ah S.O tk).cM)),(47,vI ((ah S.O tk).cO)),(51,.agg #[vI ((ah S.O tk).bH),vI ((ah S.O tk).bh)])]:Fr)
abbrev Ff (f:Nat) (b4:Nat) (b5:Nat):=([(0,vP f),(2,vP b4),(3,vP b5)]:Fr)
abbrev PF (b5:Nat) (An:Option Addr) (i:Nat) (cn:Nat) (K:fq) (S:aZ) (A7:Option Addr) (c8:Nat) (b4:Nat) (f:Nat) (m:Nat) (t) (L:HL):=([zk2 b5 An i cn,zk3 An i cn K S,zk4 S i K,zk5 S i K,zk6 A7 S c8,zk7 b4,pF f m t S.X,pI m L S.ax,pO S.O L]:List HP)
abbrev Fg (A7:Option Addr) (S:aZ) (c8:Nat) (i:Nat):=([(19,.slice A7 ((aY S.ax).length) (c8)),(20,vI ↑((aY S.ax).length)),(21,vI ↑i)]:Fr)
abbrev aal (f:Nat) (b4:Nat) (b5:Nat) (b15:Nat) (L:HL) (tk:Nat) (A7:Option Addr) (S:aZ) (c8:Nat) (i:Nat) (oO:Option Addr) (c18:Nat) (j:Nat) (og:Option Addr) (oh:Nat):=([(0,vP f),(2,vP b4),(3,vP b5),(8,vP b15),(11,vP (L.b tk)),(19,.slice A7 ((aY S.ax).length) (c8)),(20,vI ↑((aY S.ax).length)),(21,vI ↑i),(79,.slice oO ((ah S.O tk).aq.length) (c18)),(80,vI ↑((ah S.O tk).aq.length)),(81,vI ↑j),(100,.slice og ((j+1)) (oh))]:Fr)
abbrev aam (S:aZ) (tk:Nat):=([(2,vI ((ah S.O tk).mode)),(3,vI ((ah S.O tk).cM)),(4,vI ((ah S.O tk).cO)),(5,vI ((ah S.O tk).bH)),(6,vI ((ah S.O tk).bh))]:Fr)
abbrev aan (S:aZ) (L:HL) (tk:Nat) (R:eG) (b19:Nat) (j:Nat) (ek:Nat):=([pD S.O L,aeH S L tk,.abs R,.aD b19 [.string (nU (ah S.O tk).aq j),vI ((ah S.O ek).id)] 126]:List HP)
theorem Lf {β:Bs} (c:Nat):aU Tryz.prog β 48 #[.slice none 0 c] [] (λv l=>∃B cap,v=.slice B 0 cap/\l=[.abs (aI 5 1 B 0 cap [])]):=by
 exact SE Tryz.func48 Tryz.ntmps48 (λR=>SR (jK 1 [] [] (NZ (jK 2 [4] [] (NT (SR (jK 1 [2] [] (NN (av.ret (aF.br (aF.mem (λw hS=>(hS.nN (e:=5) (size:=1)).pick (ax:=[1,0]) (l':=[.abs (aI 5 1 none 0 0 ([])),.abs R]) rfl d6) (RT _ [0,1] (⟨none,0,rfl,rfl⟩)))))))))))))
theorem JT {β:Bs} (a:Addr) (c:Nat) (d:List UInt8) (hA:bO β (some a) d) (hl:d.length<=140737488355328):aU Tryz.prog β 48 #[.slice (some a) d.length c] [] (λv l=>∃B cap,v=.slice B d.length cap/\l=[SD B d cap]):=by
 exact SE Tryz.func48 Tryz.ntmps48 (λR=>SR (jK 1 [] [] (NZ (jK 2 [4] [] (NF (KX (SR (jB 1 [5] (λb1=>.aD b1 [] 5) (λb1=>aB.mem (λw hS=>hS.nW (i:=1) (b:=b1) (cs:=[]) (e:=5) 1 0 d6 rfl d8) (jK 1 [6] [] (VX 1 61 (some a) d.length c (d9 d) rfl (hA.src) (λA2 c3=>aB.cR 1 rfl (by rw [ain,List.nil_append]) (sl 7 (.slice A2 (0+d.length) (c3)) (.slice A2 (d.length) (c3)) (by rw [ain]) (jK 1 [2] [] (eN ⟨A2,c3,rfl,rfl⟩ [1,0])))) (hl:=by rw [vF,Nat.mul_one]) (h1:=r8 d))))))))))))
theorem Cs {β:Bs} (A:Option Addr) (c:Nat) (d:List UInt8) (hA:bO β A d) (hl:d.length<=140737488355328):aU Tryz.prog β 48 #[.slice A d.length c] [] (λv l=>∃B cap,v=.slice B d.length cap/\l=[SD B d cap]):=by
 cases A with
 |some a=>exact JT a c d hA hl
 |none=>
   cases d with
   |nil=>exact Lf c
   |cons b r=>have h:=bO.hd hA (j:=0) nh;cases h
theorem PG {β:Bs} (A:Option Addr) (c:Nat) (d:List UInt8) (hl:d.length<=140737488355328):aU Tryz.prog β 48 #[.slice A d.length c] [SD A d c] (λv l=>∃B cap,v=.slice B d.length cap/\l=[SD B d cap,SD A d c]):=
 (aU.sF (pre:=[]) (R:=[SD A d c]) (λ_ h=>Cs A c d h.bytes hl)).mono gn
theorem PI {β:Bs} (L:HL) (b bk:Nat) (ax:bC Th) (hr:aH.dM (aY ax)) (hn:ax.length<=4096) :
 aU Tryz.prog β 71 #[Jt bk] [pI b L ax,.aD bk [.map (some b)] 170] (λv l=>∃A cap,v=.slice A (aY ax).length cap/\l=[pI b L ax,.aD bk [.map (some b)] 170,.abs (aI 3 1 A (aY ax).length cap (bL (aY ax)))]):=
 (Ju b bk ax.length (dw (dQ L ax)) d5).mono (by
  rintro v l ⟨A,cap,ss,rfl,hk,_,rfl⟩
  have e:=Sj (us:=dQ L ax) (by rw [Ik];exact hr) hk
  rw [Ik] at e
  subst e
  exact⟨A,cap,rfl,rfl⟩)
theorem Xg {β:Bs} (S:aZ) (L:HL) (f m t:Nat) (hI:bB S) :
 aU Tryz.prog β 45 #[vP f] [pF f m t S.X,pI m L S.ax,pO S.O L,pD S.O L,pE S.O L] (λv l=>∃A c K,v=.agg #[.slice A (aV S).length c]/\l=[pF f m t S.X,pI m L S.ax,pO S.O L,pD S.O L,pE S.O L]++K1 A c (aV S) K):=by
 have hX:=hI.hX
 have hkl:(aY S.ax).length=S.ax.length:=Ir _
 have hil:=hI.len
 refine SE Tryz.func45 Tryz.ntmps45 (λR=>SR (jB 1 [2] (λb4=>.aD b4 [.slice none (0) (0)] 24) (λb4=>NS (jB 1 [3] (λb5=>.aD b5 [.slice none (0) (0)] 24) (λb5=>NZ (jK 4 [17] [(3,a_ 0 f)] (gX [] (OG (some m)) (λb6=>gL [2,0] (PI L m b6 S.ax hI.fU hI.len) ?_))))))))
 rintro _ _ ⟨A7,c8,rfl,rfl⟩
 refine jK 1 [20] [] (aB.mem (λw hS=>hS.nN (e:=102) (size:=10)) (aB.mem (λw hS=>hS.Ja (qR [] Iu)) (aB.mem (λw hS=>hS.Ja (mI [] Iu)) (jK 1 [21] [] (NN (av.block (lJ (λ(i,An,cn,K)=>(i<=S.ax.length)) (λ(i,An,cn,K)=>S.ax.length-i) (λ(i,An,cn,K)=>(Ff f b4 b5++Fg A7 S c8 i)) (λ(i,An,cn,K)=>(PF b5 An i cn K S A7 c8 b4 f m t L++[pD S.O L,pE S.O L,.abs R])) (0,none,0,Iu) [9,10,11,12,2,8,3,0,4,5,6,7] ((L4 _)) ?_)))))))
 rintro⟨i,An,cn,K⟩ hi
 refine SR (jK 1 [22] [] (NN (av.seq (cP ((((i:Nat):Int):Int)<((((aY S.ax).length:Nat):Int):Int)) (λtH=>?_) (λtH=>?_)))))
 ·have hi2:i<S.ax.length:=d5
  refine KX (av.seq (av.block (SR (aB.tell (p:=(A7=some ⟨bG A7,bE A7,none⟩)) (λw hS=>let ⟨F,h⟩:=hS.get (i:=4) rfl;(aI.I4 h d5).1) (λhAk=>jK 3 [5] [(0,x_ i ((aY S.ax).length) (hAk)),(1,p_ ⟨[.view 4 (.int .i64 ((iy S i)))],none,none,none,none⟩ [(∀F w,(aI 3 1 A7 ((aY S.ax).length) c8 (bL (aY S.ax))).h F w->w.cell? ⟨(bG A7),bE A7+i*1,none⟩=some (vI ((iy S i))))] ⟨aI.cellAt (i:=i) (j:=0) d5 (Z4 hi2),trivial⟩)] (NN (av.seq ?_)))))))
  have aib:=(K2 hI.toInv0 hi2).1
  have hget:=get_at hI.toInv0 hi2
  rcases agi hI.toInv0 hi2 with ⟨tk,qA,cY⟩|⟨tk,qA,cY⟩|⟨tk,qA,cY⟩
  ·have cA:(ah S.O tk).kind=1:=hI.kind cY
   have hel:(ah S.O tk).aq.length<=8192:=hI.mw cY
   have hdl:(ah S.O tk).data.length<=140737488355328:=hI.Ui cY
   refine av.region (jK 5 [28,29] [(3,a_ 6 f)] (aB.jo 7 (d:=(some 30)) (t:=170) (K:=3) (E:=175) (b:=m) (n:=S.ax.length) (f:=(dw (dQ L S.ax))) (x:=(.tmp 28)) (ix:=(.tmp 29)) (key:=vI ((iy S i))) (z:=.nilIface) (kl:=(.int .i64 (iy S i))) (r:=(some (jl L ⟨tk,1⟩))) (λ_=>d6) d6 (λ_=>d6) (λ_=>d6) jf Tryz.underlying170 (λ_=>d6) (mr (K3 hI.toInv0 hi2)) (by rw [kB,hget,qA];rfl) (jK 1 [6] [] (NS (jK 1 [31] [] (gE [] (iN (L.b tk)) (jK 1 [7] [] (NN (av.seq (av.pW (S:=[pO S.O L]) (wo [0,1,3,4,5,6,7,8,9,10,11,12,13,14,15,16,17,18] (oJ 20 [(false,21)] [(false,2),(false,19)])) [8] (gT (oJ 20 [(false,21)] [(false,2),(false,19)]) (Ff f b4 b5++[(6,.iface 184 (vP (L.b tk)))]++Fg A7 S c8 i++[(33,vI ((iy S i))),(34,.iface 184 (vP (L.b tk)))]++Le S tk) [0,1,3,4,5,6,7,8,9,10,11,12,13,14,15,16,17,18] [(5,v_ 0 (JJ L cA)),(9,v_ 0 (UC L cA)),(13,v_ 0 (UD L cA)),(17,p_ ⟨[.view 0 (.int .i64 ((ah S.O tk).bH)),.view 0 (.int .i64 ((ah S.O tk).bh))],none,none,none,none⟩ [(∀F w,(bp (fV S.O L)).h F w->w.cell? ⟨(L.b tk),5,none⟩=some (vI ((ah S.O tk).bh))),(∀F w,(bp (fV S.O L)).h F w->w.cell? ⟨(L.b tk),4,none⟩=some (vI ((ah S.O tk).bH)))] ⟨lf (by rw [cA];decide) (rfl),lf (by rw [cA];decide) (rfl),trivial⟩)] (lX.one (j:=20) (dj:=8) (R:=λf_ l_=>f_=([(52,.agg #[vI ((iy S i)),vI 1,vI ((ah S.O tk).mode),vI ((ah S.O tk).cM),vI ((ah S.O tk).cO),vI ((ah S.O tk).bH),vI ((ah S.O tk).bh),.slice none (0) (0),.string ⟨#[]⟩,.slice none (0) (0)]),(35,vI 1)]++Ff f b4 b5++[(6,.iface 184 (vP (L.b tk)))]++Fg A7 S c8 i++[(33,vI ((iy S i))),(34,.iface 184 (vP (L.b tk)))]++Le S tk)/\l_=[]) [8] [(false,2,35),(false,19,52)] (iJ.of (ι:=Nat) (v:=λ(b9:Nat)=>vP b9) (l:=λ(b9:Nat)=>[zk8 b9]) [35,52] rfl rfl rfl rfl ?_) ?_ ?_))))))))))))
   ·intro u Aq
    exact jB 1 [8] (λb9=>.aD b9 [vI 0,vI 0,vI 0,vI 0,vI 0,vI 0,vI 0,.slice none (0) (0),.string ⟨#[]⟩,.slice none (0) (0)] 102) (λb9=>NL (MD b9 [8,35,52,0,2,3,6,19,20,21,33,34,39,43,47,51] [1,0]))
   ·refine ef.step (iJ.of (ι:=Unit) (v:=λ(_:Unit)=>.int .i64 1) (l:=λ(_:Unit)=>[]) [8] rfl rfl rfl rfl ?_) ?_
    ·intro u Aq
     exact gE [] (Ab (vP (L.b tk))) (NL (MD () [35,8,0,2,3,6,19,20,21,33,34,39,43,47,51] [0]))
    rintro _ _ ⟨_,rfl,rfl⟩
    refine ef.step (iJ.of (ι:=Unit) (v:=λ(_:Unit)=>.agg #[vI ((iy S i)),vI 1,vI ((ah S.O tk).mode),vI ((ah S.O tk).cM),vI ((ah S.O tk).cO),vI ((ah S.O tk).bH),vI ((ah S.O tk).bh),.slice none (0) (0),.string ⟨#[]⟩,.slice none (0) (0)]) (l:=λ(_:Unit)=>[]) [8] rfl rfl rfl rfl ?_) ?_
    ·intro u Aq
     exact jK 1 [52] [] (NL (MD () [52,8,35,0,2,3,6,19,20,21,33,34,39,43,47,51] [0]))
    rintro _ _ ⟨_,rfl,rfl⟩
    exact⟨rfl,rfl⟩
   rintro _ _ ⟨rfl,rfl⟩ _ _ ⟨b9,rfl,rfl⟩
   refine eH.last d6 (jC 1 [] [(0,A_ 0 b9 10)] [(0,([(0,vI ((iy S i))),(1,vI 1)]++aam S tk))] (NL (aF.np (NX (SQ (jK 1 [53] [] (NN (av.block (SR (jK 3 [55,56] [] (NT (SR (jK 1 [9] [] (NN (av.region (jK 4 [60] [(3,v_ 9 (Pk L cA))] (aB.mem (λw hS=>hS.Wl (i:=10) (k:=tk) rfl cA) (gL [13] (PG (L.dA tk) (L.dC tk) (ah S.O tk).data hdl) ?_))))))))))))))))))
   rintro _ _ ⟨Fh,c11,rfl,rfl⟩
   exact aB.mem (λw hS=>hS.aev (i:=12) (j:=1) (ix:=[0,2,3,4,5,6,7,8,9,10,11,13,14]) rfl rfl d6 rfl cA) (jC 2 [] [(1,a_ 2 b9)] [(2,[(7,.slice Fh ((ah S.O tk).data.length) (c11))])] (LX (av.region (jN 4 [104,106] (λb12=>[(1,a_ 3 b5),(2,A_ 2 b9 10)]) (λ_=>[]) (λb12=>.aD b12 [vI ((iy S i)),vI 1,vI ((ah S.O tk).mode),vI ((ah S.O tk).cM),vI ((ah S.O tk).cO),vI ((ah S.O tk).bH),vI ((ah S.O tk).bh),.slice Fh ((ah S.O tk).data.length) (c11),.string ⟨#[]⟩,.slice none (0) (0)] 102) (λb12=>mO 4 22 (some ⟨b12,0,none⟩) 1 1 [vI ((iy S i)),vI 1,vI ((ah S.O tk).mode),vI ((ah S.O tk).cM),vI ((ah S.O tk).cO),vI ((ah S.O tk).bH),vI ((ah S.O tk).bh),.slice Fh ((ah S.O tk).data.length) (c11),.string ⟨#[]⟩,.slice none (0) (0)] rfl (gq (j:=14) rfl) (λMx c14=>aB.cR 4 rfl (zc (λx=>HP.abs (aI 102 10 _ _ _ x)) (vR (iR d5) (yh hI.toInv0 hi2 qA cY) rfl rfl)) (sl 107 (.slice Mx (i+1) (c14)) (.slice Mx ((i+1)) (c14)) (rfl) (jC 2 [] [(1,a_ 3 b5)] [(3,[(0,.slice Mx ((i+1)) (c14))])] (LX (av.region (jK 2 [21] [(0,wJ ((i:Int)+1) (↑(i+1)))] (NL (aF.mem (λw hS=>hS.nN (e:=126) (size:=2)) (aF.mem (λw hS=>hS.uQ (R':=(mI ((aV S).take (i+1)) (K.put i Fh c11 none 0))) (i:=6) (j:=1) (ax:=[0,2,3,4,5,7,8,9,10,11,12,13,14,15]) rfl rfl d6 rfl (Dy (iR d5) (yh hI.toInv0 hi2 qA cY)) (Bw (iR d5) (yh hI.toInv0 hi2 qA cY) rfl)) (aF.mem (λw hS=>hS.uQ (R':=(qR ((aV S).take (i+1)) (K.put i Fh c11 none 0))) (i:=5) (j:=14) (ax:=[0,1,2,3,4,6,7,8,9,10,11,12,13]) rfl rfl d6 rfl (Dz (iR d5) (yh hI.toInv0 hi2 qA cY)) ((Bz (iR d5) (yh hI.toInv0 hi2 qA cY) rfl))) (tJ ((i+1),Mx,c14,(K.put i Fh c11 none 0)) [4,5,0,1,6,7,8,9,10,2,11,12] (d5)))))))))))))))))
  ·have cA:(ah S.O tk).kind=2:=hI.kind cY
   have hel:(ah S.O tk).aq.length<=8192:=hI.mw cY
   have hdl:(ah S.O tk).data.length<=140737488355328:=hI.Ui cY
   refine av.region (jK 5 [28,29] [(3,a_ 6 f)] (aB.jo 7 (d:=(some 30)) (t:=170) (K:=3) (E:=175) (b:=m) (n:=S.ax.length) (f:=(dw (dQ L S.ax))) (x:=(.tmp 28)) (ix:=(.tmp 29)) (key:=vI ((iy S i))) (z:=.nilIface) (kl:=(.int .i64 (iy S i))) (r:=(some (jl L ⟨tk,2⟩))) (λ_=>d6) d6 (λ_=>d6) (λ_=>d6) jf Tryz.underlying170 (λ_=>d6) (mr (K3 hI.toInv0 hi2)) (by rw [kB,hget,qA];rfl) (jK 1 [6] [] (NS (jK 1 [31] [] (gE [] (iN (L.b tk)) (jK 1 [7] [] (NN (av.seq (av.pW (S:=[pO S.O L]) (wo [0,1,3,4,5,6,7,8,9,10,11,12,13,14,15,16,17,18] (oJ 20 [(false,21)] [(false,2),(false,19)])) [8] (gT (oJ 20 [(false,21)] [(false,2),(false,19)]) (Ff f b4 b5++[(6,.iface 190 (vP (L.b tk)))]++Fg A7 S c8 i++[(33,vI ((iy S i))),(34,.iface 190 (vP (L.b tk)))]++Le S tk) [0,1,3,4,5,6,7,8,9,10,11,12,13,14,15,16,17,18] [(5,v_ 0 (JJ L cA)),(9,v_ 0 (UC L cA)),(13,v_ 0 (UD L cA)),(17,p_ ⟨[.view 0 (.int .i64 ((ah S.O tk).bH)),.view 0 (.int .i64 ((ah S.O tk).bh))],none,none,none,none⟩ [(∀F w,(bp (fV S.O L)).h F w->w.cell? ⟨(L.b tk),5,none⟩=some (vI ((ah S.O tk).bh))),(∀F w,(bp (fV S.O L)).h F w->w.cell? ⟨(L.b tk),4,none⟩=some (vI ((ah S.O tk).bH)))] ⟨lf (by rw [cA];decide) (rfl),lf (by rw [cA];decide) (rfl),trivial⟩)] (lX.one (j:=20) (dj:=8) (R:=λf_ l_=>f_=([(52,.agg #[vI ((iy S i)),vI 2,vI ((ah S.O tk).mode),vI ((ah S.O tk).cM),vI ((ah S.O tk).cO),vI ((ah S.O tk).bH),vI ((ah S.O tk).bh),.slice none (0) (0),.string ⟨#[]⟩,.slice none (0) (0)]),(35,vI 2)]++Ff f b4 b5++[(6,.iface 190 (vP (L.b tk)))]++Fg A7 S c8 i++[(33,vI ((iy S i))),(34,.iface 190 (vP (L.b tk)))]++Le S tk)/\l_=[]) [8] [(false,2,35),(false,19,52)] (iJ.of (ι:=Nat) (v:=λ(b15:Nat)=>vP b15) (l:=λ(b15:Nat)=>[zk8 b15]) [35,52] rfl rfl rfl rfl ?_) ?_ ?_))))))))))))
   ·intro u Aq
    exact jB 1 [8] (λb15=>.aD b15 [vI 0,vI 0,vI 0,vI 0,vI 0,vI 0,vI 0,.slice none (0) (0),.string ⟨#[]⟩,.slice none (0) (0)] 102) (λb15=>NL (MD b15 [8,35,52,0,2,3,6,19,20,21,33,34,39,43,47,51] [1,0]))
   ·refine ef.step (iJ.of (ι:=Unit) (v:=λ(_:Unit)=>.int .i64 2) (l:=λ(_:Unit)=>[]) [8] rfl rfl rfl rfl ?_) ?_
    ·intro u Aq
     exact gE [] (Ac (vP (L.b tk))) (NL (MD () [35,8,0,2,3,6,19,20,21,33,34,39,43,47,51] [0]))
    rintro _ _ ⟨_,rfl,rfl⟩
    refine ef.step (iJ.of (ι:=Unit) (v:=λ(_:Unit)=>.agg #[vI ((iy S i)),vI 2,vI ((ah S.O tk).mode),vI ((ah S.O tk).cM),vI ((ah S.O tk).cO),vI ((ah S.O tk).bH),vI ((ah S.O tk).bh),.slice none (0) (0),.string ⟨#[]⟩,.slice none (0) (0)]) (l:=λ(_:Unit)=>[]) [8] rfl rfl rfl rfl ?_) ?_
    ·intro u Aq
     exact jK 1 [52] [] (NL (MD () [52,8,35,0,2,3,6,19,20,21,33,34,39,43,47,51] [0]))
    rintro _ _ ⟨_,rfl,rfl⟩
    exact⟨rfl,rfl⟩
   rintro _ _ ⟨rfl,rfl⟩ _ _ ⟨b15,rfl,rfl⟩
   refine eH.last d6 (jC 1 [] [(0,A_ 0 b15 10)] [(0,([(0,vI ((iy S i))),(1,vI 2)]++aam S tk))] (NL (aF.np (NX (SQ (jK 1 [53] [] (NN (av.block (SR (jK 3 [55,56] [] (NF (SR (jK 3 [64,65] [] (NF (SR (jK 3 [72,73] [] (NT (SR (jK 1 [11] [] (NS (jK 4 [77] [(3,v_ 9 (eE L cA))] (aB.mem (λw hS=>hS.ad9 (i:=11) (k:=tk) rfl (cA)) (gX [] (Z0 (some (L.m tk))) (λb16=>gL [14,0] (Uy L (L.m tk) b16 (ah S.O tk).aq.length (ah S.O tk).aq (hI.sorted _ cY) hel) ?_))))))))))))))))))))))))
   rintro _ _ ⟨oO,c18,rfl,rfl⟩
   refine jK 1 [80] [] (aB.mem (λw hS=>hS.nN (e:=126) (size:=2)) (jK 1 [81] [] (NN (av.block (lJ (λ(j,Ae,ce)=>(j<=(ah S.O tk).aq.length)) (λ(j,Ae,ce)=>(ah S.O tk).aq.length-j) (λ(j,Ae,ce)=>(Ff f b4 b5++[(8,vP b15),(11,vP (L.b tk))]++Fg A7 S c8 i++[(79,.slice oO ((ah S.O tk).aq.length) (c18)),(80,vI ↑((ah S.O tk).aq.length)),(81,vI ↑j)])) (λ(j,Ae,ce)=>([U1 b15 S i tk Ae j ce,.abs (aI 126 2 Ae j ce (mQ (((ah S.O tk).aq.take j).map (gM S.O)))),U0 L tk S,.aD b16 [.map (some (L.m tk))] 195,U2 oO S tk c18]++PF b5 An i cn K S A7 c8 b4 f m t L++[pD S.O L,aeH S L tk,.abs R])) (0,none,0) [3,16,0,1,2,4,5,6,7,8,9,10,11,12,13,14,15] ((L4 _)) ?_)))))
   rintro⟨j,Ae,ce⟩ hj
   refine SR (jK 1 [82] [] (NN (av.seq (cP ((((j:Nat):Int):Int)<((((ah S.O tk).aq.length:Nat):Int):Int)) (λMz=>?_) (λMz=>?_)))))
   ·have hj2:j<(ah S.O tk).aq.length:=d5
    refine KX (av.seq (av.block (SR (aB.tell (p:=(oO=some ⟨bG oO,bE oO,none⟩)) (λw hS=>let ⟨F,h⟩:=hS.get (i:=4) rfl;(aI.I4 h d5).1) (λhAs=>jK 3 [13] [(0,x_ j ((ah S.O tk).aq.length) (hAs)),(1,p_ ⟨[.view 4 (.string (nU (ah S.O tk).aq j))],none,none,none,none⟩ [(∀F w,(aI 9 1 oO ((ah S.O tk).aq.length) c18 (ye (ah S.O tk).aq)).h F w->w.cell? ⟨(bG oO),bE oO+j*1,none⟩=some (.string (nU (ah S.O tk).aq j)))] ⟨aI.cellAt (i:=j) (j:=0) d5 (Uz hj2),trivial⟩)] (NN ?_))))))
    obtain⟨hgd,h4⟩:=agY hI.toInv0 cY hj2
    have hgs:(nU (ah S.O tk).aq j).size<=255:=hgd.2.1
    rcases h4 with ⟨ek,dP,PJ,Xh⟩|⟨ek,dP,PJ,Xh⟩|⟨ek,dP,PJ,Xh⟩
    ·have hke:(ah S.O ek).kind=1:=hI.kind PJ
     refine rM (List.range 18) 9 [2,13,0] (jR 8 [0,2,3,8,11,19,20,21,79,80,81,86,87,91,92] [(1,a_ 2 b15),(6,v_ 1 (eE L cA))] (cC.jo 0 (d:=(some 93)) (t:=195) (K:=9) (E:=175) (b:=(L.m tk)) (cnt:=(ah S.O tk).aq.length) (f:=(nI L (ah S.O tk).aq)) (x:=(.tmp 91)) (ix:=(.tmp 92)) (key:=.string (nU (ah S.O tk).aq j)) (z:=.nilIface) (kl:=(.string (nU (ah S.O tk).aq j).data.toList)) (q:=(some (jl L ⟨ek,1⟩))) d6 d6 (λ_=>d6) (λ_=>d6) Ig Tryz.underlying195 (λ_=>d6) (KE d5) (by rw [y9,dP];rfl) d6 (mL [2,13,0] [] (iN (L.b ek)) ?_ (by rintro _ _ ⟨rfl,rfl⟩;rfl))))
     rintro _ _ ⟨rfl,rfl⟩
     refine nC [2,13,0] [95] [] [] (nC [2,13,0] [96] [] [] (nC [2,13,0] [97] [(0,v_ 13 (DG L hke))] [] (nC [2,13,0] [98] [] [] (mN [2,13,0] (λb19=>[(99,.slice (some ⟨b19,0,none⟩) (1) (1))]) (λ_=>[]) (λb19=>.aD b19 [.string (nU (ah S.O tk).aq j),vI ((ah S.O ek).id)] 126) (λb19=>cC.cut (ι:=(Option Addr)×Nat) (bN:=λ((og,oh):(Option Addr)×Nat)=>(aal f b4 b5 b15 L tk A7 S c8 i oO c18 j og oh)) (dh:=λ((og,oh):(Option Addr)×Nat)=>([U1 b15 S i tk Ae j ce,aak og j oh S tk,U0 L tk S,.aD b16 [.map (some (L.m tk))] 195,U2 oO S tk c18]++PF b5 An i cn K S A7 c8 b4 f m t L++aan S L tk R b19 j ek)) [2,13,0] rfl rfl ?_ rfl (λ_=>d6) ?_)))))
     ·exact mO 1 100 (some ⟨b19,0,none⟩) 1 1 [.string (nU (ah S.O tk).aq j),vI ((ah S.O ek).id)] rfl (gq (j:=17) rfl) (λog oh=>aB.cR 1 rfl (zc (λx=>HP.abs (aI 126 2 _ _ _ x)) (EW hj2 Xh)) (sl 100 (.slice og (j+1) (oh)) (.slice og ((j+1)) (oh)) (rfl) (NL (MD (og,oh) [0,2,3,8,11,19,20,21,79,80,81,100] [0,1,2,3,4,5,6,7,8,9,10,11,12,13,14,15,16,17]))))
     rintro⟨og,oh⟩
     exact nC [2,13,0] [101] [] [] (cC.last rfl rfl (jC 1 [] [(0,a_ 0 b15)] [(0,[(9,.slice og ((j+1)) (oh))])] (NL (aF.np (BX (av.region (jK 2 [81] [(0,wJ ((j:Int)+1) (↑(j+1)))] (NL (tJ ((j+1),og,oh) [0,1,2,3,4,5,6,7,8,9,10,11,12,13,14,15,16] (d5))))))))))
    ·have hke:(ah S.O ek).kind=2:=hI.kind PJ
     refine rM (List.range 18) 9 [2,13,0] (jR 8 [0,2,3,8,11,19,20,21,79,80,81,86,87,91,92] [(1,a_ 2 b15),(6,v_ 1 (eE L cA))] (cC.jo 0 (d:=(some 93)) (t:=195) (K:=9) (E:=175) (b:=(L.m tk)) (cnt:=(ah S.O tk).aq.length) (f:=(nI L (ah S.O tk).aq)) (x:=(.tmp 91)) (ix:=(.tmp 92)) (key:=.string (nU (ah S.O tk).aq j)) (z:=.nilIface) (kl:=(.string (nU (ah S.O tk).aq j).data.toList)) (q:=(some (jl L ⟨ek,2⟩))) d6 d6 (λ_=>d6) (λ_=>d6) Ig Tryz.underlying195 (λ_=>d6) (KE d5) (by rw [y9,dP];rfl) d6 (mL [2,13,0] [] (iN (L.b ek)) ?_ (by rintro _ _ ⟨rfl,rfl⟩;rfl))))
     rintro _ _ ⟨rfl,rfl⟩
     refine nC [2,13,0] [95] [] [] (nC [2,13,0] [96] [] [] (nC [2,13,0] [97] [(0,v_ 13 (DG L hke))] [] (nC [2,13,0] [98] [] [] (mN [2,13,0] (λo6=>[(99,.slice (some ⟨o6,0,none⟩) (1) (1))]) (λ_=>[]) (λo6=>.aD o6 [.string (nU (ah S.O tk).aq j),vI ((ah S.O ek).id)] 126) (λo6=>cC.cut (ι:=(Option Addr)×Nat) (bN:=λ((tU,tV):(Option Addr)×Nat)=>(aal f b4 b5 b15 L tk A7 S c8 i oO c18 j tU tV)) (dh:=λ((tU,tV):(Option Addr)×Nat)=>([U1 b15 S i tk Ae j ce,aak tU j tV S tk,U0 L tk S,.aD b16 [.map (some (L.m tk))] 195,U2 oO S tk c18]++PF b5 An i cn K S A7 c8 b4 f m t L++aan S L tk R o6 j ek)) [2,13,0] rfl rfl ?_ rfl (λ_=>d6) ?_)))))
     ·exact mO 1 100 (some ⟨o6,0,none⟩) 1 1 [.string (nU (ah S.O tk).aq j),vI ((ah S.O ek).id)] rfl (gq (j:=17) rfl) (λtU tV=>aB.cR 1 rfl (zc (λx=>HP.abs (aI 126 2 _ _ _ x)) (EW hj2 Xh)) (sl 100 (.slice tU (j+1) (tV)) (.slice tU ((j+1)) (tV)) (rfl) (NL (MD (tU,tV) [0,2,3,8,11,19,20,21,79,80,81,100] [0,1,2,3,4,5,6,7,8,9,10,11,12,13,14,15,16,17]))))
     rintro⟨tU,tV⟩
     exact nC [2,13,0] [101] [] [] (cC.last rfl rfl (jC 1 [] [(0,a_ 0 b15)] [(0,[(9,.slice tU ((j+1)) (tV))])] (NL (aF.np (BX (av.region (jK 2 [81] [(0,wJ ((j:Int)+1) (↑(j+1)))] (NL (tJ ((j+1),tU,tV) [0,1,2,3,4,5,6,7,8,9,10,11,12,13,14,15,16] (d5))))))))))
    have hke:(ah S.O ek).kind=3:=hI.kind PJ
    refine rM (List.range 18) 9 [2,13,0] (jR 8 [0,2,3,8,11,19,20,21,79,80,81,86,87,91,92] [(1,a_ 2 b15),(6,v_ 1 (eE L cA))] (cC.jo 0 (d:=(some 93)) (t:=195) (K:=9) (E:=175) (b:=(L.m tk)) (cnt:=(ah S.O tk).aq.length) (f:=(nI L (ah S.O tk).aq)) (x:=(.tmp 91)) (ix:=(.tmp 92)) (key:=.string (nU (ah S.O tk).aq j)) (z:=.nilIface) (kl:=(.string (nU (ah S.O tk).aq j).data.toList)) (q:=(some (jl L ⟨ek,3⟩))) d6 d6 (λ_=>d6) (λ_=>d6) Ig Tryz.underlying195 (λ_=>d6) (KE d5) (by rw [y9,dP];rfl) d6 (mL [2,13,0] [] (iN (L.b ek)) ?_ (by rintro _ _ ⟨rfl,rfl⟩;rfl))))
    rintro _ _ ⟨rfl,rfl⟩
    refine nC [2,13,0] [95] [] [] (nC [2,13,0] [96] [] [] (nC [2,13,0] [97] [(0,v_ 13 (DG L hke))] [] (nC [2,13,0] [98] [] [] (mN [2,13,0] (λvW=>[(99,.slice (some ⟨vW,0,none⟩) (1) (1))]) (λ_=>[]) (λvW=>.aD vW [.string (nU (ah S.O tk).aq j),vI ((ah S.O ek).id)] 126) (λvW=>cC.cut (ι:=(Option Addr)×Nat) (bN:=λ((qh,qi):(Option Addr)×Nat)=>(aal f b4 b5 b15 L tk A7 S c8 i oO c18 j qh qi)) (dh:=λ((qh,qi):(Option Addr)×Nat)=>([U1 b15 S i tk Ae j ce,aak qh j qi S tk,U0 L tk S,.aD b16 [.map (some (L.m tk))] 195,U2 oO S tk c18]++PF b5 An i cn K S A7 c8 b4 f m t L++aan S L tk R vW j ek)) [2,13,0] rfl rfl ?_ rfl (λ_=>d6) ?_)))))
    ·exact mO 1 100 (some ⟨vW,0,none⟩) 1 1 [.string (nU (ah S.O tk).aq j),vI ((ah S.O ek).id)] rfl (gq (j:=17) rfl) (λqh qi=>aB.cR 1 rfl (zc (λx=>HP.abs (aI 126 2 _ _ _ x)) (EW hj2 Xh)) (sl 100 (.slice qh (j+1) (qi)) (.slice qh ((j+1)) (qi)) (rfl) (NL (MD (qh,qi) [0,2,3,8,11,19,20,21,79,80,81,100] [0,1,2,3,4,5,6,7,8,9,10,11,12,13,14,15,16,17]))))
    rintro⟨qh,qi⟩
    exact nC [2,13,0] [101] [] [] (cC.last rfl rfl (jC 1 [] [(0,a_ 0 b15)] [(0,[(9,.slice qh ((j+1)) (qi))])] (NL (aF.np (BX (av.region (jK 2 [81] [(0,wJ ((j:Int)+1) (↑(j+1)))] (NL (tJ ((j+1),qh,qi) [0,1,2,3,4,5,6,7,8,9,10,11,12,13,14,15,16] (d5))))))))))
   refine XX (av.region ?_)
   have hjl:j=(ah S.O tk).aq.length:=d5
   exact aB.mem (λw hS=>hS.aea (i:=15) (j:=2) (ax:=[0,1,3,4,5,6,7,8,9,10,11,12,13,14,16]) (k:=tk) rfl rfl d6 rfl (cA)) (jN 4 [104,106] (λnE=>[(1,a_ 5 b5),(2,A_ 1 b15 10)]) (λ_=>[]) (λnE=>.aD nE [vI ((iy S i)),vI 2,vI ((ah S.O tk).mode),vI ((ah S.O tk).cM),vI ((ah S.O tk).cO),vI ((ah S.O tk).bH),vI ((ah S.O tk).bh),.slice none (0) (0),.string ⟨#[]⟩,.slice Ae (j) (ce)] 102) (λnE=>mO 6 22 (some ⟨nE,0,none⟩) 1 1 [vI ((iy S i)),vI 2,vI ((ah S.O tk).mode),vI ((ah S.O tk).cM),vI ((ah S.O tk).cO),vI ((ah S.O tk).bH),vI ((ah S.O tk).bh),.slice none (0) (0),.string ⟨#[]⟩,.slice Ae (j) (ce)] rfl (gq (j:=16) rfl) (λAA AB=>aB.cR 6 rfl (zc (λx=>HP.abs (aI 102 10 _ _ _ x)) (vR (iR d5) (z8 hI.toInv0 hi2 qA cY) rfl (by show ((ah S.O tk).aq.map (gM S.O)).length=j;rw [aip,hjl]))) (sl 107 (.slice AA (i+1) (AB)) (.slice AA ((i+1)) (AB)) (rfl) (jC 2 [] [(1,a_ 5 b5)] [(5,[(0,.slice AA ((i+1)) (AB))])] (LX (av.region (jK 2 [21] [(0,wJ ((i:Int)+1) (↑(i+1)))] (NL (aF.mem (λw hS=>hS.nN (e:=5) (size:=1)) (aF.mem (λw hS=>hS.uQ (R':=(mI ((aV S).take (i+1)) (K.put i none 0 Ae ce))) (i:=8) (j:=17) (ax:=[0,1,2,3,4,5,6,7,9,10,11,12,13,14,15,16]) rfl rfl d6 rfl (Dy (iR d5) (z8 hI.toInv0 hi2 qA cY)) (Bw (iR d5) (z8 hI.toInv0 hi2 qA cY) rfl)) (aF.mem (λw hS=>hS.uQ (R':=(qR ((aV S).take (i+1)) (K.put i none 0 Ae ce))) (i:=8) (j:=3) (ax:=[0,1,2,4,5,6,7,9,10,11,12,13,14,15,16]) rfl rfl d6 rfl (Dz (iR d5) (z8 hI.toInv0 hi2 qA cY)) ((Bz (iR d5) (z8 hI.toInv0 hi2 qA cY) (by show ((ah S.O tk).aq.map (gM S.O)).length=j;rw [aip,hjl])).trans (by rw [hjl,aiu]))) (tJ ((i+1),AA,AB,(K.put i none 0 Ae ce)) [6,7,0,1,8,9,10,11,12,13,2,14] (d5))))))))))))))
  have cA:(ah S.O tk).kind=3:=hI.kind cY
  have hel:(ah S.O tk).aq.length<=8192:=hI.mw cY
  have hdl:(ah S.O tk).data.length<=140737488355328:=hI.Ui cY
  refine av.region (jK 5 [28,29] [(3,a_ 6 f)] (aB.jo 7 (d:=(some 30)) (t:=170) (K:=3) (E:=175) (b:=m) (n:=S.ax.length) (f:=(dw (dQ L S.ax))) (x:=(.tmp 28)) (ix:=(.tmp 29)) (key:=vI ((iy S i))) (z:=.nilIface) (kl:=(.int .i64 (iy S i))) (r:=(some (jl L ⟨tk,3⟩))) (λ_=>d6) d6 (λ_=>d6) (λ_=>d6) jf Tryz.underlying170 (λ_=>d6) (mr (K3 hI.toInv0 hi2)) (by rw [kB,hget,qA];rfl) (jK 1 [6] [] (NS (jK 1 [31] [] (gE [] (iN (L.b tk)) (jK 1 [7] [] (NN (av.seq (av.pW (S:=[pO S.O L]) (wo [0,1,3,4,5,6,7,8,9,10,11,12,13,14,15,16,17,18] (oJ 20 [(false,21)] [(false,2),(false,19)])) [8] (gT (oJ 20 [(false,21)] [(false,2),(false,19)]) (Ff f b4 b5++[(6,.iface 187 (vP (L.b tk)))]++Fg A7 S c8 i++[(33,vI ((iy S i))),(34,.iface 187 (vP (L.b tk)))]++Le S tk) [0,1,3,4,5,6,7,8,9,10,11,12,13,14,15,16,17,18] [(5,v_ 0 (JJ L cA)),(9,v_ 0 (UC L cA)),(13,v_ 0 (UD L cA)),(17,p_ ⟨[.view 0 (.int .i64 ((ah S.O tk).bH)),.view 0 (.int .i64 ((ah S.O tk).bh))],none,none,none,none⟩ [(∀F w,(bp (fV S.O L)).h F w->w.cell? ⟨(L.b tk),5,none⟩=some (vI ((ah S.O tk).bh))),(∀F w,(bp (fV S.O L)).h F w->w.cell? ⟨(L.b tk),4,none⟩=some (vI ((ah S.O tk).bH)))] ⟨lf (by rw [cA];decide) (rfl),lf (by rw [cA];decide) (rfl),trivial⟩)] (lX.one (j:=20) (dj:=8) (R:=λf_ l_=>f_=([(52,.agg #[vI ((iy S i)),vI 3,vI ((ah S.O tk).mode),vI ((ah S.O tk).cM),vI ((ah S.O tk).cO),vI ((ah S.O tk).bH),vI ((ah S.O tk).bh),.slice none (0) (0),.string ⟨#[]⟩,.slice none (0) (0)]),(35,vI 3)]++Ff f b4 b5++[(6,.iface 187 (vP (L.b tk)))]++Fg A7 S c8 i++[(33,vI ((iy S i))),(34,.iface 187 (vP (L.b tk)))]++Le S tk)/\l_=[]) [8] [(false,2,35),(false,19,52)] (iJ.of (ι:=Nat) (v:=λ(tW:Nat)=>vP tW) (l:=λ(tW:Nat)=>[zk8 tW]) [35,52] rfl rfl rfl rfl ?_) ?_ ?_))))))))))))
  ·intro u Aq
   exact jB 1 [8] (λtW=>.aD tW [vI 0,vI 0,vI 0,vI 0,vI 0,vI 0,vI 0,.slice none (0) (0),.string ⟨#[]⟩,.slice none (0) (0)] 102) (λtW=>NL (MD tW [8,35,52,0,2,3,6,19,20,21,33,34,39,43,47,51] [1,0]))
  ·refine ef.step (iJ.of (ι:=Unit) (v:=λ(_:Unit)=>.int .i64 3) (l:=λ(_:Unit)=>[]) [8] rfl rfl rfl rfl ?_) ?_
   ·intro u Aq
    exact gE [] (Ad (vP (L.b tk))) (NL (MD () [35,8,0,2,3,6,19,20,21,33,34,39,43,47,51] [0]))
   rintro _ _ ⟨_,rfl,rfl⟩
   refine ef.step (iJ.of (ι:=Unit) (v:=λ(_:Unit)=>.agg #[vI ((iy S i)),vI 3,vI ((ah S.O tk).mode),vI ((ah S.O tk).cM),vI ((ah S.O tk).cO),vI ((ah S.O tk).bH),vI ((ah S.O tk).bh),.slice none (0) (0),.string ⟨#[]⟩,.slice none (0) (0)]) (l:=λ(_:Unit)=>[]) [8] rfl rfl rfl rfl ?_) ?_
   ·intro u Aq
    exact jK 1 [52] [] (NL (MD () [52,8,35,0,2,3,6,19,20,21,33,34,39,43,47,51] [0]))
   rintro _ _ ⟨_,rfl,rfl⟩
   exact⟨rfl,rfl⟩
  rintro _ _ ⟨rfl,rfl⟩ _ _ ⟨tW,rfl,rfl⟩
  exact eH.last d6 (jC 1 [] [(0,A_ 0 tW 10)] [(0,([(0,vI ((iy S i))),(1,vI 3)]++aam S tk))] (NL (aF.np (NX (SQ (jK 1 [53] [] (NN (av.block (SR (jK 3 [55,56] [] (NF (SR (jK 3 [64,65] [] (NT (SR (jK 1 [10] [] (NN (av.region (jC 6 [] [(3,v_ 9 (agj L cA)),(5,a_ 0 tW)] [(0,[(8,.string (ah S.O tk).target)])] (LX (av.region (jN 4 [104,106] (λb32=>[(1,a_ 1 b5),(2,A_ 0 tW 10)]) (λ_=>[]) (λb32=>.aD b32 [vI ((iy S i)),vI 3,vI ((ah S.O tk).mode),vI ((ah S.O tk).cM),vI ((ah S.O tk).cO),vI ((ah S.O tk).bH),vI ((ah S.O tk).bh),.slice none (0) (0),.string (ah S.O tk).target,.slice none (0) (0)] 102) (λb32=>mO 2 22 (some ⟨b32,0,none⟩) 1 1 [vI ((iy S i)),vI 3,vI ((ah S.O tk).mode),vI ((ah S.O tk).cM),vI ((ah S.O tk).cO),vI ((ah S.O tk).bH),vI ((ah S.O tk).bh),.slice none (0) (0),.string (ah S.O tk).target,.slice none (0) (0)] rfl (gq (j:=13) rfl) (λMB MC=>aB.cR 2 rfl (zc (λx=>HP.abs (aI 102 10 _ _ _ x)) (vR (iR d5) (yj hI.toInv0 hi2 qA cY) rfl rfl)) (sl 107 (.slice MB (i+1) (MC)) (.slice MB ((i+1)) (MC)) (rfl) (jC 2 [] [(1,a_ 1 b5)] [(1,[(0,.slice MB ((i+1)) (MC))])] (LX (av.region (jK 2 [21] [(0,wJ ((i:Int)+1) (↑(i+1)))] (NL (aF.mem (λw hS=>hS.nN (e:=5) (size:=1)) (aF.mem (λw hS=>hS.nN (e:=126) (size:=2)) (aF.mem (λw hS=>hS.uQ (R':=(mI ((aV S).take (i+1)) (K.put i none 0 none 0))) (i:=4) (j:=14) (ax:=[0,1,2,3,5,6,7,8,9,10,11,12,13,15]) rfl rfl d6 rfl (Dy (iR d5) (yj hI.toInv0 hi2 qA cY)) (Bw (iR d5) (yj hI.toInv0 hi2 qA cY) rfl)) (aF.mem (λw hS=>hS.uQ (R':=(qR ((aV S).take (i+1)) (K.put i none 0 none 0))) (i:=4) (j:=14) (ax:=[0,1,2,3,5,6,7,8,9,10,11,12,13]) rfl rfl d6 rfl (Dz (iR d5) (yj hI.toInv0 hi2 qA cY)) ((Bz (iR d5) (yj hI.toInv0 hi2 qA cY) rfl))) (tJ ((i+1),MB,MC,(K.put i none 0 none 0)) [3,4,0,1,5,6,7,8,9,10,11,12] (d5))))))))))))))))))))))))))))))))))))
 refine XX (SR ?_)
 have hie:(aV S).length=i:=by rw [iM];omega
 have hgt:((aV S).take i)=(aV S):=by rw [←hie,aiu]
 exact aB.cR 1 (p:=.abs (aI 102 10 An i cn (bS K ((aV S).take i)))) (p':=.abs (aI 102 10 An ((aV S).length) cn (bS K (aV S)))) d6 (by rw [hgt,hie]) (aB.cR 2 (p:=.abs (ld (qR ((aV S).take i) K) i)) (p':=.abs (ld (qR (aV S) K) ((aV S).length))) d6 (by rw [hgt,hie]) (aB.cR 3 (p:=.abs (ld (mI ((aV S).take i) K) i)) (p':=.abs (ld (mI (aV S) K) ((aV S).length))) d6 (by rw [hgt,hie]) (jC 2 [] [(0,a_ 0 b5),(1,a_ 5 b4)] [(5,[(0,.slice An (i) (cn))])] (eS [a_ 5 b4] ⟨An,cn,K,by rw [hie],rfl⟩ [6,7,8,9,10,1,2,3,11]))))
end
section
open Go.RowKit Go.Maps bw aH
attribute [local irreducible] aB bJ av aF cC eH lX
abbrev zl1 (b2:Nat) (X:FM):=(.aD b2 [vI (X.cN),vI (X.cB),vI (X.cH),vI (X.cS),vI (X.cZ)] 28:HP)
abbrev SF (b1:Nat) (A:Option Addr) (ns:List aO) (c):=(.aD b1 [.slice A (ns.length) (c)] 24:HP)
abbrev zl3 (b9:Nat) (ns) (k:Nat):=(.aD b9 [vI ((nd ns k).id),vI ((nd ns k).mode),vI ((nd ns k).cM),vI ((nd ns k).cO),vI ((nd ns k).bH),vI ((nd ns k).bh),vI 0,vI 0,.bool false] 183:HP)
abbrev zl4 (b1:Nat) (X:FM):=([(2,vP b1),(39,.agg #[vI (X.cN),vI (X.cB),vI (X.cH),vI (X.cS),vI (X.cZ)])]:Fr)
abbrev zl5 (b7:Nat) (m3:Nat) (t4:Nat) (S:aZ) (L:HL) (R:eG):=([pF b7 m3 t4 S.X,pI m3 L S.ax,pT t4 S.X.cH S.aL L S.us,pO S.O L,pD S.O L,pE S.O L,.abs R]:List HP)
theorem SG {β:Bs} (A:Option Addr) (c:Nat) (ns:List aO) (Y:fq) (hG:aN β A ns Y) (hl:ns.length<=1048576) (hd:∀i,i<ns.length->(nd ns i).data.length<=1048576/\(nd ns i).aq.length<=1048576) (hwf:∀i,i<ns.length->∀j,j<(nd ns i).aq.length->-9223372036854775808<=(bR ns i j).id/\(bR ns i j).id<=9223372036854775807) (hnm:∀i,i<ns.length->∀j,j<(nd ns i).aq.length->(bR ns i j).name.size<=1048576) (X:FM) :
 aU Tryz.prog β 50 #[.agg #[.slice A (ns.length) (c)],.agg #[vI (X.cN),vI (X.cB),vI (X.cH),vI (X.cS),vI (X.cZ)]] [] (λv l=>(¬kW X/\v=.tuple #[.pointer none,vI 179]/\l=[])\/(kW X/\¬cE ns/\v=.tuple #[.pointer none,vI 140]/\l=[])\/(kW X/\cE ns/\∃S f m t L,kV X ns ns.length 0 S/\v=.tuple #[vP f,vI 0]/\l=pA f m t L S)):=by
 refine SE Tryz.func50 Tryz.ntmps50 (λR=>SR (jB 1 [2] (λb1=>.aD b1 [.slice A (ns.length) (c)] 24) (λb1=>jB 3 [3] (λb2=>.aD b2 [vI (X.cN),vI (X.cB),vI (X.cH),vI (X.cS),vI (X.cZ)] 28) (λb2=>NZ (jK 2 [15] [(1,a_ 2 b2)] (gE [] (y4 X.cN 4096) (jK 2 [18] [] (sN 18 ((0<=X.cN/\X.cN<=4096)) (λpQ=>jK 17 [35] [] (NT (zR (.inl ⟨λh=>pQ h.cN,rfl,rfl⟩)))) (λpQ=>jK 2 [20] [(1,a_ 2 b2)] (gE [] (y4 X.cB 1099511627776) (jK 3 [24] [] (sN 24 ((0<=X.cB/\X.cB<=1099511627776)) (λq6=>jK 11 [35] [] (NT (zR (.inl ⟨λh=>q6 h.cB,rfl,rfl⟩)))) (λq6=>jK 2 [26] [(1,a_ 2 b2)] (gE [] (y4 X.cH 1024) (jK 3 [30] [] (sN 30 ((0<=X.cH/\X.cH<=1024)) (λrF=>jK 5 [35] [] (NT (zR (.inl ⟨λh=>rF h.cH,rfl,rfl⟩)))) (λrF=>jK 2 [32] [(1,A_ 2 b2 2)] (gE [] (sj X.cS X.cZ) (jK 2 [35] [] (NN (cN (iU X.cS X.cZ) (λyR=>zR (.inl ⟨λh=>yR h.now,rfl,rfl⟩)) (λyR=>?_))))))))))))))))))))))
 have hcap:kW X:=⟨pQ,q6,rF,yR⟩
 refine KX (SQ (jK 1 [36] [(0,a_ 1 b1)] (gE [] (Zp A c ns Y hG hl (λi hi=>⟨Pe (hd i hi).1 d8,(hd i hi).2⟩) hwf hnm) (jK 1 [38] [] (NN (cN (((if cE ns then 0 else 140):Int)=(0:Int)) (λh38=>?_) (λh38=>?_)))))))
 ·have hng:¬cE ns:=λh=>h38 (t8 h)
  exact zR (.inr (.inl ⟨hcap,hng,rfl,rfl⟩))
 have hok:cE ns:=aiy (λh=>gn)
 refine KX (av.seq (av.pW (S:=[zl1 b2 X]) (wo [0,2,3] (oJ 4 [(false,5),(false,6),(false,7)] [(false,1)])) [2] (gT (oJ 4 [(false,5),(false,6),(false,7)] [(false,1)]) (zl4 b1 X++[(42,vI (X.cH))]) [0,2,3] [(0,A_ 0 b2 5),(2,a_ 0 b2)] (lX.one (j:=4) (dj:=43) (R:=λf_ l_=>∃m3:Nat,f_=(40,.map (some m3))::(zl4 b1 X++[(42,vI (X.cH))])/\l_=[.abs (bM Tryz.prog 3 m3 (λ_=>none) 0)]) [2] [(false,1,40)] (iJ.of (ι:=Nat) (v:=λ(t4:Nat)=>vP t4) (l:=λ(t4:Nat)=>[.abs (iP 233 t4 (min (max X.cH 0) 1024) 0 [])]) [40] rfl rfl rfl rfl ?_) ?_ ?_))))
 ·intro u Aq
  exact gX [] (ZE X.cH) (λt4=>NL (MD t4 [43,40,2,39,42] [0,1]))
 ·refine ef.step (iJ.of (ι:=Nat) (v:=λ(m3:Nat)=>.map (some m3)) (l:=λ(m3:Nat)=>[.abs (bM Tryz.prog 3 m3 (λ_=>none) 0)]) [43] rfl rfl rfl rfl ?_) ?_
  ·intro u Aq
   exact aB.sX (d:=(some 40)) (t:=170) (λ_=>d6) Tryz.prog rfl 3 (λm3=>NL (MD m3 [40,43,2,39,42] [1,0]))
  rintro _ _ ⟨m3,rfl,rfl⟩
  exact⟨m3,rfl,rfl⟩
 rintro _ _ ⟨m3,rfl,rfl⟩ _ _ ⟨t4,rfl,rfl⟩
 refine eH.cut (ι:=Unit) (bN:=λ(_:Unit)=>[(2,vP b1),(44,.agg #[vI (X.cN),vI (X.cB),vI (X.cH),vI (X.cS),vI (X.cZ),.map (some m3),vP t4,vI 0,vI 0,vI 0])]) (dh:=λ(_:Unit)=>[.abs (iP 233 t4 (min (max X.cH 0) 1024) 0 []),.abs R,SF b1 A ns c,zl1 b2 X,.abs (bM Tryz.prog 3 m3 (λ_=>none) 0)]) [3] d6 ?_ rfl (λ_=>d6) ?_
 ·exact jK 1 [44] [] (NL (MD () [2,44] [1,2,3,4,0]))
 rintro _
 refine eH.cut (ι:=Nat) (bN:=λ(b7:Nat)=>[(2,vP b1),(45,vP b7)]) (dh:=λ(b7:Nat)=>[.abs (iP 233 t4 (min (max X.cH 0) 1024) 0 []),.abs R,SF b1 A ns c,zl1 b2 X,.abs (bM Tryz.prog 3 m3 (λ_=>none) 0),pF b7 m3 t4 {X with last:=0,aq:=0,used:=0}]) [3] d6 ?_ rfl (λ_=>d6) ?_
 ·exact jB 1 [45] (λb7=>pF b7 m3 t4 {X with last:=0,aq:=0,used:=0}) (λb7=>NL (MD b7 [2,45] [0,1,2,3,4,5]))
 rintro b7
 refine eH.last d6 (jK 1 [6] [] (NL (aF.np (NX (av.seq (SR ?_))))))
 obtain⟨L,hL0⟩:∃L:HL,L=⟨λ_=>0,λ_=>0,λ_=>none,λ_=>0⟩:=⟨_,rfl⟩
 refine aB.mem (λw hS=>hS.Nt (fV (BM X).O L) (IE X L).1) (aB.mem (λw hS=>hS.Nt (eY (BM X).O L) (IE X L).2.1) (aB.mem (λw hS=>hS.Nt (iE (BM X).O L) (IE X L).2.2) ?_))
 have hc:min (max X.cH 0) 1024=X.cH:=by have:=hcap.cH;omega
 refine aB.mem (λw hS=>by rw [hc,←OE] at hS;exact hS) (jK 4 [47,48,49] [(1,a_ 2 b1)] (NN (av.block (lJ (λ(k,S,L)=>(k<=ns.length)/\(xH X ns k S)) (λ(k,S,L)=>ns.length-k) (λ(k,S,L)=>[(2,vP b1),(6,vP b7),(47,.slice A (ns.length) (c)),(48,vI ↑ns.length),(49,vI ↑k)]) (λ(k,S,L)=>([SF b1 A ns c]++zl5 b7 m3 t4 S L R)) (0,(BM X),L) [2,5,4,0,6,7,8,1] (⟨L4 _,Xc hcap⟩) ?_))))
 rintro⟨k,S,L⟩ ⟨hk,hB⟩
 refine SR (jK 1 [50] [] (NN (av.seq (cP ((((k:Nat):Int):Int)<(((ns.length:Nat):Int):Int)) (λh50=>?_) (λh50=>?_)))))
 ·have hk2:k<ns.length:=d5
  have hdk:=hd k hk2
  have hds:=Mv (λi hi=>(hd i hi).1) hk
  have yH:=hok.ids k hk2
  have hni:=hB.new hok hk2
  have xg:(Lit.int .i64 (nd ns k).id).wf=true:=WalkArith.wf_i64 d5
  have hkk:=(hok.node k hk2).kind
  have qW:S.X.used=(fZ ns k:Int):=by rw [hB.cap]
  have hil:=hB.inv.len
  refine KX (av.seq (av.block (SR (jN 4 [8] (λb8=>[(0,x_ k ns.length (aN.hd hG (i:=k) d5)),(1,Et (iT Y k (nd ns k)) (λ_ _ h=>aN.rd hG d5 h)),(3,A_ 8 b8 10)]) (λ_=>[]) (λb8=>.aD b8 (iT Y k (nd ns k)) 102) (λb8=>NS (jN 13 [9] (λb9=>[(1,a_ 8 b8),(3,a_ 8 b8),(5,a_ 8 b8),(7,a_ 8 b8),(9,A_ 8 b8 2),(12,A_ 9 b9 9)]) (λ_=>[]) (λb9=>.aD b9 [vI ((nd ns k).id),vI ((nd ns k).mode),vI ((nd ns k).cM),vI ((nd ns k).cO),vI ((nd ns k).bH),vI ((nd ns k).bh),vI 0,vI 0,.bool false] 183) (λb9=>NZ (jK 2 [65] [(1,a_ 8 b8)] (NN (av.block (SR (jK 2 [77] [] (NN (cP (((nd ns k).kind:Int)=(1:Int)) (λhk1=>?_) (λhk1=>?_)))))))))))))))
  ·refine rM (List.range 14) 9 [1,8,9] (jR 9 [2,6,8,47,48,49,82,84,85,87] [(3,a_ 0 b7),(5,a_ 1 b8),(6,A_ 2 b9 9),(8,a_ 1 b8)] (mL [2,9,10] [] (Cs (Y.dA k) (Y.dC k) (nd ns k).data (hG.data k d5) (by have:=(hd k d5).1;omega)) ?_ (by rintro _ _ ⟨Fh,c11,rfl,rfl⟩;rfl)))
   rintro _ _ ⟨Fh,c11,rfl,rfl⟩
   refine nC [2,9,10] [89] [] [] (mN [2,9,10] (λb12=>[(90,vP b12)]) (λ_=>[]) (λb12=>.aD b12 [vI ((nd ns k).id),vI ((nd ns k).mode),vI ((nd ns k).cM),vI ((nd ns k).cO),vI ((nd ns k).bH),vI ((nd ns k).bh),vI 0,vI 0,.bool false,.slice Fh ((nd ns k).data.length) (c11)] 186) (λb12=>nC [2,9,10] [91] [] [] (cC.last rfl rfl ?_)))
   obtain⟨L2,jE⟩:∃L2:HL,L2=L.put (j6 (nd ns k)) b12 0 Fh c11:=⟨_,rfl⟩
   have hfr:=hB.fresh hok d5
   refine aB.mem (λw hS=>hS.Ge jE hfr (o:=(wD (nd ns k))) (i:=5) (j:=11) (ix:=[0,1,2,3,4,6,7,8,9,10]) rfl rfl d6 rfl (by show (nd ns k).kind≠0;rw [hk1];decide) ((xX (L:=L2) (k:=(j6 (nd ns k))) (o:=(wD (nd ns k))) hk1).trans (by rw [show L2.dA (j6 (nd ns k))=Fh by rw [jE];exact t8 rfl,show L2.dC (j6 (nd ns k))=c11 by rw [jE];exact t8 rfl];rfl)) (by show yG (nd ns k).kind=_;rw [hk1]<;>rfl)) (aB.jq [(7,.abs (bp (iE ((gi S (nd ns k)).O) L2)))] (λw hS=>hS.Jx jE hfr (o:=(wD (nd ns k))) (i:=7) rfl (by show ¬(nd ns k).kind=2;rw [hk1];decide)) (aB.mem (λw hS=>hS.ags jE (o:=(wD (nd ns k))) (i:=6) (j:=1) (ix:=[0,2,3,4,5,7,8,9,10]) rfl rfl d6 rfl hk1) (aB.jq [(4,.abs (bM Tryz.prog 3 m3 (dw (dQ L2 S.ax)) S.ax.length)),(5,.abs (iP 233 t4 S.X.cH S.aL (dQ L2 S.us)))] (λw hS=>by rw [pY jE hfr.ax,pY jE hfr.us];exact hS) ?_)))
   have PK:jl L2 (vm (nd ns k))=.iface 184 (vP b12):=by unfold vm;rw [zf jE,hk1];rfl
   exact aB.qI 4 (d:=none) (t:=170) (K:=3) (E:=175) (b:=m3) (n:=S.ax.length) (f:=(dw (dQ L2 S.ax))) (x:=(.tmp 82)) (ix:=(.tmp 84)) (y:=(.tmp 91)) (key:=vI ((nd ns k).id)) (u:=.iface 184 (vP b12)) (kl:=(.int .i64 (nd ns k).id)) (n':=(S.ax.length+1)) (f':=(dw (dQ L2 (ins (nd ns k).id (vm (nd ns k)) S.ax)))) (λ_=>d6) d6 (λ_=>d6) (λ_=>d6) (λ_=>d6) jf Tryz.underlying170 (by unfold maxLen;omega) (mr xg) (by rw [kB,hni];rfl) (by rw [←PK];exact ze hni) (NL (aF.np (BX (SR (jC 6 [] [(2,a_ 8 b8),(5,a_ 3 b7)] [(3,[(7,vI ((nd ns k).id))])] (NN (rM (List.range 11) 10 [3,8] (jR 10 [2,6,47,48,49,118,120] [(3,a_ 0 b7),(5,a_ 1 b8),(7,wJ (S.X.used+(((nd ns k).data.length:Nat):Int)) (S.X.used+(((nd ns k).data.length:Nat):Int)))] (cC.last rfl rfl (jC 1 [] [(0,a_ 3 b7)] [(3,[(9,vI (S.X.used+(((nd ns k).data.length:Nat):Int)))])] (NL (aF.np (BX (av.region (jK 2 [49] [(0,wJ ((k:Int)+1) (↑(k+1)))] (NL (aF.jq [(3,.aD b7 [vI ((gi S (nd ns k)).X.cN),vI ((gi S (nd ns k)).X.cB),vI ((gi S (nd ns k)).X.cH),vI ((gi S (nd ns k)).X.cS),vI ((gi S (nd ns k)).X.cZ),.map (some m3),vP t4,vI ((gi S (nd ns k)).X.last),vI ((gi S (nd ns k)).X.aq),vI ((gi S (nd ns k)).X.used)] 173),(4,.abs (bM Tryz.prog 3 m3 (dw (dQ L2 (gi S (nd ns k)).ax)) ((gi S (nd ns k)).ax.length))),(5,.abs (iP 233 t4 (gi S (nd ns k)).X.cH (gi S (nd ns k)).aL (dQ L2 (gi S (nd ns k)).us)))] (λw hS=>by rw [show (gi S (nd ns k)).ax.length=S.ax.length+1 from kR _ _ _];exact hS) (tJ ((k+1),(gi S (nd ns k)),L2) [2,3,4,5,1,0,6,7] (⟨d5,Fc hok (λi hi=>(hd i hi).1) d5 hB⟩)))))))))))))))))))
  refine SR (jK 2 [92] [] (NN (cP (((nd ns k).kind:Int)=(3:Int)) (λhk3=>?_) (λhk3=>?_))))
  ·refine rM (List.range 13) 10 [1,8,9] (jR 10 [2,6,8,47,48,49,97,99,103] [(3,a_ 0 b7),(5,a_ 1 b8),(6,A_ 2 b9 9),(8,a_ 1 b8)] (mN [1,8,9] (λb13=>[(104,vP b13)]) (λ_=>[]) (λb13=>.aD b13 [vI ((nd ns k).id),vI ((nd ns k).mode),vI ((nd ns k).cM),vI ((nd ns k).cO),vI ((nd ns k).bH),vI ((nd ns k).bh),vI 0,vI 0,.bool false,.string (nd ns k).target] 189) (λb13=>nC [1,8,9] [105] [] [] (cC.last rfl rfl ?_))))
   obtain⟨L2,jE⟩:∃L2:HL,L2=L.put (j6 (nd ns k)) b13 0 none 0:=⟨_,rfl⟩
   have hfr:=hB.fresh hok d5
   refine aB.mem (λw hS=>hS.Ge jE hfr (o:=(wD (nd ns k))) (i:=4) (j:=10) (ix:=[0,1,2,3,5,6,7,8,9]) rfl rfl d6 rfl (by show (nd ns k).kind≠0;rw [hk3];decide) ((EJ (L:=L2) (k:=(j6 (nd ns k))) (o:=(wD (nd ns k))) hk3).trans iu) (by show yG (nd ns k).kind=_;rw [hk3]<;>rfl)) (aB.jq [(6,.abs (bp (iE ((gi S (nd ns k)).O) L2)))] (λw hS=>hS.Jx jE hfr (o:=(wD (nd ns k))) (i:=6) rfl (by show ¬(nd ns k).kind=2;rw [hk3];decide)) (aB.jq [(5,.abs (bp (eY ((gi S (nd ns k)).O) L2)))] (λw hS=>hS.Jy jE (o:=(wD (nd ns k))) (i:=5) rfl (by show ¬(nd ns k).kind=1;rw [hk3];decide)) (aB.jq [(3,.abs (bM Tryz.prog 3 m3 (dw (dQ L2 S.ax)) S.ax.length)),(4,.abs (iP 233 t4 S.X.cH S.aL (dQ L2 S.us)))] (λw hS=>by rw [pY jE hfr.ax,pY jE hfr.us];exact hS) ?_)))
   have PK:jl L2 (vm (nd ns k))=.iface 187 (vP b13):=by unfold vm;rw [zf jE,hk3];rfl
   exact aB.qI 3 (d:=none) (t:=170) (K:=3) (E:=175) (b:=m3) (n:=S.ax.length) (f:=(dw (dQ L2 S.ax))) (x:=(.tmp 97)) (ix:=(.tmp 99)) (y:=(.tmp 105)) (key:=vI ((nd ns k).id)) (u:=.iface 187 (vP b13)) (kl:=(.int .i64 (nd ns k).id)) (n':=(S.ax.length+1)) (f':=(dw (dQ L2 (ins (nd ns k).id (vm (nd ns k)) S.ax)))) (λ_=>d6) d6 (λ_=>d6) (λ_=>d6) (λ_=>d6) jf Tryz.underlying170 (by unfold maxLen;omega) (mr xg) (by rw [kB,hni];rfl) (by rw [←PK];exact ze hni) (NL (aF.np (BX (SR (jC 6 [] [(2,a_ 8 b8),(5,a_ 2 b7)] [(2,[(7,vI ((nd ns k).id))])] (NN (rM (List.range 11) 10 [2,8] (jR 10 [2,6,47,48,49,118,120] [(3,a_ 0 b7),(5,a_ 1 b8),(7,wJ (S.X.used+(((nd ns k).data.length:Nat):Int)) (S.X.used+(((nd ns k).data.length:Nat):Int)))] (cC.last rfl rfl (jC 1 [] [(0,a_ 2 b7)] [(2,[(9,vI (S.X.used+(((nd ns k).data.length:Nat):Int)))])] (NL (aF.np (BX (av.region (jK 2 [49] [(0,wJ ((k:Int)+1) (↑(k+1)))] (NL (aF.jq [(2,.aD b7 [vI ((gi S (nd ns k)).X.cN),vI ((gi S (nd ns k)).X.cB),vI ((gi S (nd ns k)).X.cH),vI ((gi S (nd ns k)).X.cS),vI ((gi S (nd ns k)).X.cZ),.map (some m3),vP t4,vI ((gi S (nd ns k)).X.last),vI ((gi S (nd ns k)).X.aq),vI ((gi S (nd ns k)).X.used)] 173),(3,.abs (bM Tryz.prog 3 m3 (dw (dQ L2 (gi S (nd ns k)).ax)) ((gi S (nd ns k)).ax.length))),(4,.abs (iP 233 t4 (gi S (nd ns k)).X.cH (gi S (nd ns k)).aL (dQ L2 (gi S (nd ns k)).us)))] (λw hS=>by rw [show (gi S (nd ns k)).ax.length=S.ax.length+1 from kR _ _ _];exact hS) (tJ ((k+1),(gi S (nd ns k)),L2) [1,2,3,4,0,5,6,7] (⟨d5,Fc hok (λi hi=>(hd i hi).1) d5 hB⟩)))))))))))))))))))
  have uF:(nd ns k).kind=2:=d5
  refine rM (List.range 12) 7 [1,8,9] (jR 7 [2,6,8,47,48,49,69,71,72] [(3,a_ 0 b7),(5,a_ 1 b8),(6,A_ 2 b9 9)] (cC.cut (ι:=Nat) (bN:=λ(m14:Nat)=>[(2,vP b1),(6,vP b7),(8,vP b8),(47,.slice A (ns.length) (c)),(48,vI ↑ns.length),(49,vI ↑k),(69,.map (some m3)),(71,vI ((nd ns k).id)),(72,.agg #[vI ((nd ns k).id),vI ((nd ns k).mode),vI ((nd ns k).cM),vI ((nd ns k).cO),vI ((nd ns k).bH),vI ((nd ns k).bh),vI 0,vI 0,.bool false]),(73,.map (some m14))]) (dh:=λ(m14:Nat)=>([SF b1 A ns c]++zl5 b7 m3 t4 S L R++[.aD b8 (iT Y k (nd ns k)) 102,zl3 b9 ns k,.abs (bM Tryz.prog 9 m14 (λ_=>none) 0)])) [1,8,9] rfl rfl ?_ rfl (λ_=>d6) ?_))
  ·exact aB.sX (d:=(some 73)) (t:=195) (λ_=>d6) Tryz.prog rfl 9 (λm14=>NL (MD m14 [2,6,8,47,48,49,69,71,72,73] [0,1,2,3,4,5,6,7,8,9,10]))
  rintro m14
  refine nC [1,8,9] [74] [] [] (mN [1,8,9] (λb15=>[(75,vP b15)]) (λ_=>[]) (λb15=>.aD b15 [vI ((nd ns k).id),vI ((nd ns k).mode),vI ((nd ns k).cM),vI ((nd ns k).cO),vI ((nd ns k).bH),vI ((nd ns k).bh),vI 0,vI 0,.bool false,.map (some m14),.pointer none] 197) (λb15=>nC [1,8,9] [76] [] [] (cC.last rfl rfl ?_)))
  obtain⟨L2,jE⟩:∃L2:HL,L2=L.put (j6 (nd ns k)) b15 m14 none 0:=⟨_,rfl⟩
  have hfr:=hB.fresh hok d5
  refine aB.mem (λw hS=>hS.Ge jE hfr (o:=(wD (nd ns k))) (i:=4) (j:=11) (ix:=[0,1,2,3,5,6,7,8,9,10]) rfl rfl d6 rfl (by show (nd ns k).kind≠0;rw [uF];decide) ((uy (L:=L2) (k:=(j6 (nd ns k))) (o:=(wD (nd ns k))) uF).trans (by rw [OV jE];rfl)) (by show yG (nd ns k).kind=_;rw [uF]<;>rfl)) (aB.mem (λw hS=>hS.abS jE hfr (o:=(wD (nd ns k))) (i:=6) (j:=10) (ix:=[0,1,2,3,4,5,7,8,9]) rfl rfl d6 rfl uF rfl) (aB.jq [(6,.abs (bp (eY ((gi S (nd ns k)).O) L2)))] (λw hS=>hS.Jy jE (o:=(wD (nd ns k))) (i:=6) rfl (by show ¬(nd ns k).kind=1;rw [uF];decide)) (aB.jq [(4,.abs (bM Tryz.prog 3 m3 (dw (dQ L2 S.ax)) S.ax.length)),(5,.abs (iP 233 t4 S.X.cH S.aL (dQ L2 S.us)))] (λw hS=>by rw [pY jE hfr.ax,pY jE hfr.us];exact hS) ?_)))
  have PK:jl L2 (vm (nd ns k))=.iface 190 (vP b15):=by unfold vm;rw [zf jE,uF];rfl
  exact aB.qI 4 (d:=none) (t:=170) (K:=3) (E:=175) (b:=m3) (n:=S.ax.length) (f:=(dw (dQ L2 S.ax))) (x:=(.tmp 69)) (ix:=(.tmp 71)) (y:=(.tmp 76)) (key:=vI ((nd ns k).id)) (u:=.iface 190 (vP b15)) (kl:=(.int .i64 (nd ns k).id)) (n':=(S.ax.length+1)) (f':=(dw (dQ L2 (ins (nd ns k).id (vm (nd ns k)) S.ax)))) (λ_=>d6) d6 (λ_=>d6) (λ_=>d6) (λ_=>d6) jf Tryz.underlying170 (by unfold maxLen;omega) (mr xg) (by rw [kB,hni];rfl) (by rw [←PK];exact ze hni) (NL (aF.np (BX (SR (jC 6 [] [(2,a_ 8 b8),(5,a_ 3 b7)] [(3,[(7,vI ((nd ns k).id))])] (NN (rM (List.range 11) 10 [3,8] (jR 10 [2,6,47,48,49,118,120] [(3,a_ 0 b7),(5,a_ 1 b8),(7,wJ (S.X.used+(((nd ns k).data.length:Nat):Int)) (S.X.used+(((nd ns k).data.length:Nat):Int)))] (cC.last rfl rfl (jC 1 [] [(0,a_ 3 b7)] [(3,[(9,vI (S.X.used+(((nd ns k).data.length:Nat):Int)))])] (NL (aF.np (BX (av.region (jK 2 [49] [(0,wJ ((k:Int)+1) (↑(k+1)))] (NL (aF.jq [(3,.aD b7 [vI ((gi S (nd ns k)).X.cN),vI ((gi S (nd ns k)).X.cB),vI ((gi S (nd ns k)).X.cH),vI ((gi S (nd ns k)).X.cS),vI ((gi S (nd ns k)).X.cZ),.map (some m3),vP t4,vI ((gi S (nd ns k)).X.last),vI ((gi S (nd ns k)).X.aq),vI ((gi S (nd ns k)).X.used)] 173),(4,.abs (bM Tryz.prog 3 m3 (dw (dQ L2 (gi S (nd ns k)).ax)) ((gi S (nd ns k)).ax.length))),(5,.abs (iP 233 t4 (gi S (nd ns k)).X.cH (gi S (nd ns k)).aL (dQ L2 (gi S (nd ns k)).us)))] (λw hS=>by rw [show (gi S (nd ns k)).ax.length=S.ax.length+1 from kR _ _ _];exact hS) (tJ ((k+1),(gi S (nd ns k)),L2) [2,3,4,5,1,6,0,7] (⟨d5,Fc hok (λi hi=>(hd i hi).1) d5 hB⟩)))))))))))))))))))
 refine XX (SQ (jK 4 [123,124,125] [(1,a_ 0 b1)] (NN (av.block (lJ (λ(i,S1)=>(i<=ns.length)/\(kV X ns i 0 S1)) (λ(i,S1)=>ns.length-i) (λ(i,S1)=>[(6,vP b7),(123,.slice A (ns.length) (c)),(124,vI ↑ns.length),(125,vI ↑i)]) (λ(i,S1)=>([SF b1 A ns c]++zl5 b7 m3 t4 S1 L R)) (0,S) [0,1,2,3,4,5,6,7] (⟨L4 _,by have h:=hB;rw [show k=ns.length by omega] at h;exact h.aq⟩) ?_)))))
 rintro⟨i,S1⟩ ⟨hi,hE⟩
 refine SR (jK 1 [126] [] (NN (av.seq (cP ((((i:Nat):Int):Int)<(((ns.length:Nat):Int):Int)) (λag8=>KX (av.seq (av.block (SR (jN 4 [11] (λb16=>[(0,x_ i ns.length (aN.hd hG (i:=i) d5)),(1,Et (iT Y i (nd ns i)) (λ_ _ h=>aN.rd hG d5 h)),(3,A_ 8 b16 10)]) (λ_=>[]) (λb16=>.aD b16 (iT Y i (nd ns i)) 102) (λb16=>NS (jK 4 [130,131,132] [(1,a_ 8 b16)] (NN (av.block (lJ (λ(j,S2)=>(j<=(nd ns i).aq.length)/\(kV X ns i j S2)) (λ(j,S2)=>(nd ns i).aq.length-j) (λ(j,S2)=>[(6,vP b7),(11,vP b16),(123,.slice A (ns.length) (c)),(124,vI ↑ns.length),(125,vI ↑i),(130,.slice (Y.eA i) ((nd ns i).aq.length) ((Y.eC i))),(131,vI ↑((nd ns i).aq.length)),(132,vI ↑j)]) (λ(j,S2)=>([.aD b16 (iT Y i (nd ns i)) 102,SF b1 A ns c]++zl5 b7 m3 t4 S2 L R)) (0,S1) [8,0,1,2,3,4,5,6,7] (⟨L4 _,hE⟩) ?_)))))))))) (λag8=>XX (zR (.inr (.inr ⟨hcap,hok,S1,b7,m3,t4,L,gn,rfl,rfl⟩)) [1,2,3,4,5,6,7]))))))
 rintro⟨j,S2⟩ ⟨hj,xS⟩
 refine SR (jK 1 [133] [] (NN (av.seq (cP ((((j:Nat):Int):Int)<((((nd ns i).aq.length:Nat):Int):Int)) (λag9=>?_) (λag9=>XX (av.region (jK 2 [125] [(0,wJ ((i:Int)+1) (↑(i+1)))] (NL (tJ ((i+1),S2) [1,2,3,4,5,6,7,8] (⟨d5,by have h:=xS;rw [show j=(nd ns i).aq.length by omega] at h;exact h.next⟩))))))))))
 have hj2:j<(nd ns i).aq.length:=d5
 have hi2:i<ns.length:=d5
 have aha:=xS.get hi2
 obtain⟨hes,jD,hk2⟩:=xS.look hok hi2 hj2
 have hti:=Ax hok hi2 hj2
 have hgi:aH.get S2.ax (nd ns i).id=some ⟨(j6 (nd ns i)),2⟩:=by rw [aha];unfold vm;rw [hk2]
 have hge:aH.get S2.ax (bR ns i j).id=some (qC ns (bR ns i j)):=by rw [←hti.2];exact xS.get hti.1
 have yH:=hok.ids i hi2
 have hiw:(Lit.int .i64 (nd ns i).id).wf=true:=WalkArith.wf_i64 d5
 have hew:(Lit.int .i64 (bR ns i j).id).wf=true:=WalkArith.wf_i64 (by have:=hwf i hi2 j hj2;omega)
 have hld:=xS.live hok hi2
 have fX:=xS.live hok hti.1
 have eM:(ah S2.O (j6 (nd ns i))).kind=2:=(xS.inv.kind hld).trans hk2
 have cA:(ah S2.O (qC ns (bR ns i j)).k).kind=(qC ns (bR ns i j)).kind:=xS.inv.kind fX
 have h3:(qC ns (bR ns i j)).kind=1\/(qC ns (bR ns i j)).kind=2\/(qC ns (bR ns i j)).kind=3:=(xS.inv.ob _ fX).2.2
 have hlb:0<=(ah S2.O (qC ns (bR ns i j)).k).aT/\(ah S2.O (qC ns (bR ns i j)).k).aT<=8192:=xS.inv.lb fX
 have hel:(ah S2.O (j6 (nd ns i))).aq.length<=8192:=xS.inv.mw hld
 have eV:=hnm i hi2 j hj2
 have hde:=hd i hi2
 have ME:=xS.inv.hX
 exact KX (av.seq (av.block (SR (jN 4 [13] (λb17=>[(0,x_ j ((nd ns i).aq.length) (cV.hd (hG.aq i d5) (i:=j) d5)),(1,r2 (cV.rd (hG.aq i d5) (i:=j) d5 (j:=0) rfl) (cV.rd (hG.aq i d5) (i:=j) d5 (j:=1) rfl)),(3,A_ 9 b17 2)]) (λ_=>[]) (λb17=>.aD b17 [.string (en (nd ns i).aq j).name,vI ((en (nd ns i).aq j).id)] 126) (λb17=>NN (av.seq (rM (List.range 18) 17 [2,3,0,9] (jR 6 [6,11,13,123,124,125,130,131,132,139,141] [(3,a_ 0 b7),(5,a_ 2 b16)] (cC.jo 1 (d:=(some 142)) (t:=170) (K:=3) (E:=175) (b:=m3) (cnt:=S2.ax.length) (f:=(dw (dQ L S2.ax))) (x:=(.tmp 139)) (ix:=(.tmp 141)) (key:=vI ((nd ns i).id)) (z:=.nilIface) (kl:=(.int .i64 (nd ns i).id)) (q:=(some (jl L ⟨(j6 (nd ns i)),2⟩))) d6 d6 (λ_=>d6) (λ_=>d6) jf Tryz.underlying170 (λ_=>d6) (mr hiw) (by rw [kB,hgi];rfl) d6 (jR 9 [6,11,123,124,125,130,131,132,143,145,149,151] [(2,a_ 3 b17),(6,a_ 0 b7),(8,a_ 3 b17)] (cC.jo 1 (d:=(some 152)) (t:=170) (K:=3) (E:=175) (b:=m3) (cnt:=S2.ax.length) (f:=(dw (dQ L S2.ax))) (x:=(.tmp 149)) (ix:=(.tmp 151)) (key:=vI ((en (nd ns i).aq j).id)) (z:=.nilIface) (kl:=(.int .i64 (bR ns i j).id)) (q:=(some (jl L (qC ns (bR ns i j))))) d6 d6 (λ_=>d6) (λ_=>d6) jf Tryz.underlying170 (λ_=>d6) (mr hew) (by rw [kB,hge];rfl) d6 (cC.last rfl rfl (gE [5,7] (SB S2.O L (j6 (nd ns i)) eM (bR ns i j).name eV jD d5 (qC ns (bR ns i j)) cA h3 d5) (NL (aF.np (NX (av.region (jC 8 [] [(3,a_ 4 b7),(4,wJ (S2.X.aq+1) (S2.X.aq+1)),(7,a_ 4 b7)] [(4,[(8,vI (S2.X.aq+1))])] (LX (av.region (jK 2 [132] [(0,wJ ((j:Int)+1) (↑(j+1)))] (NL (aF.jq [(0,.abs (bp (fV ((rO ns S2 (nd ns i) (bR ns i j)).O) L))),(1,.abs (bp (iE ((rO ns S2 (nd ns i) (bR ns i j)).O) L))),(4,.aD b7 [vI ((rO ns S2 (nd ns i) (bR ns i j)).X.cN),vI ((rO ns S2 (nd ns i) (bR ns i j)).X.cB),vI ((rO ns S2 (nd ns i) (bR ns i j)).X.cH),vI ((rO ns S2 (nd ns i) (bR ns i j)).X.cS),vI ((rO ns S2 (nd ns i) (bR ns i j)).X.cZ),.map (some m3),vP t4,vI ((rO ns S2 (nd ns i) (bR ns i j)).X.last),vI ((rO ns S2 (nd ns i) (bR ns i j)).X.aq),vI ((rO ns S2 (nd ns i) (bR ns i j)).X.used)] 173),(5,.abs (bM Tryz.prog 3 m3 (dw (dQ L (rO ns S2 (nd ns i) (bR ns i j)).ax)) ((rO ns S2 (nd ns i) (bR ns i j)).ax.length))),(6,.abs (iP 233 t4 (rO ns S2 (nd ns i) (bR ns i j)).X.cH (rO ns S2 (nd ns i) (bR ns i j)).aL (dQ L (rO ns S2 (nd ns i) (bR ns i j)).us))),(7,.abs (bp (eY ((rO ns S2 (nd ns i) (bR ns i j)).O) L)))] (λw hS=>by rw [show eY (rO ns S2 (nd ns i) (bR ns i j)).O L=eY S2.O L from adf];exact hS) (tJ ((j+1),(rO ns S2 (nd ns i) (bR ns i j))) [2,3,4,5,6,0,7,1,8] (⟨d5,xS.step hok d5 d5⟩)))))))))))))))))))))))))
end
section
open Go.RowKit Go.Maps bw aH
theorem AF {b:UInt8} (h0:¬b=0) (h1:¬b=47) (h2:¬b=46):bW ⟨#[b]⟩:=by
 refine⟨N6 _,(by show 1<=255;decide),λe=>h2 ?_,λe=>?_,λj hj=>?_⟩
 ·grind
 ·grind
 have:j=0:=by have hj:j<1:=hj;omega
 subst this
 show ¬b.toNat=0/\¬b.toNat=47
 exact⟨λe=>h0 (aiI.1 e),λe=>h1 (aiI.1 e)⟩
theorem BO:iU 0 0:=⟨d8,d8,d8,d8,d8⟩
def PL (room:Int):FM:=⟨9,room,9,0,0,0,0,0⟩
theorem adg {room:Int} (h:0<=room/\room<=1099511627776):kW (PL room):=⟨by show (0:Int)<=9/\(9:Int)<=4096;decide,h,by show (0:Int)<=9/\(9:Int)<=1024;decide,BO⟩
section ops
variable {S:aZ} {c:aK} {t:Th} {d:Nat}
theorem DT {O:eu} {us:bC Th} {h:Int} {name:ByteArray} {fH:Int} (h1:aH.get us h=some t) (h2:t.kind=2) (h3:(ah O t.k).aJ=false) (h4:bW name) (h5:bits BinOp.and .i64 (ah O t.k).mode fH=fH):ic O us h name fH=.ok t.k:=by
 grind [ic]
theorem adh (cD:c.op=1) (h1:aH.get S.ax c.other=some t) (h2:t.kind=2) (h3:(S.us.length:Int)<S.X.cH):fF S c=({S with O:=bD S.O t.k (λo=>{o with aQ:=o.aQ+1}),us:=ins (aR S.us) t S.us,aL:=max S.aL ((S.us.length:Int)+1)},{c with answer:=aR S.us,code:=0}):=by
 grind [fF,vM,kP,mB]
theorem JU (cD:c.op=2) (ha:ic S.O S.us c.bA c.name 64=.ok d) (hl:bF c.name (ah S.O d).aq=some t) (h2:t.kind=2) (h3:(S.us.length:Int)<S.X.cH):fF S c=({S with O:=bD S.O t.k (λo=>{o with aQ:=o.aQ+1}),us:=ins (aR S.us) t S.us,aL:=max S.aL ((S.us.length:Int)+1)},{c with answer:=aR S.us,code:=0}):=by
 grind [fF,uj,gh,jU,mB]
theorem aao (cD:c.op=4) (ha:ic S.O S.us c.bA c.name 192=.ok d) (hm:mT c.mode) (hl:bF c.name (ah S.O d).aq=none) (hr:Room S.X S.ax):fF S c=(iw S d c.name (dN S.X 2 c.mode),{c with answer:=0,code:=0}):=by
 grind [fF,vN,iQ,lP,iB]
theorem aap (cD:c.op=13) (h1:aH.get S.us c.bA=some t):fF S c=({S with
 X:={S.X with used:=oQ (mD S.O t.k) S.X.used t}
 O:=mD S.O t.k
 ax:=kg (mD S.O t.k) S.ax t
 us:=del c.bA S.us},{c with answer:=0,code:=0}):=by
 grind [fF,sU,ju]
end ops
structure aic (room:Int) (S:aZ):Prop where
 inv:bB S
 ax:S.ax=[(1,⟨1,2⟩),(2,⟨2,1⟩)]
 us:S.us=[]
 X:S.X=⟨9,room,9,0,0,2,1,0⟩
 o1:∃l u,ah S.O 1=⟨1,493,0,0,0,0,l,0,false,2,[],⟨#[]⟩,[(⟨#[102]⟩,⟨2,1⟩)],u⟩
 o2:∃u,ah S.O 2=⟨2,420,0,0,0,0,1,0,false,1,[],⟨#[]⟩,[],u⟩
theorem aeI:bits BinOp.and .i64 493 192=192:=d6
theorem JV:bits BinOp.and .i64 493 64=64:=d6
section chain
variable {room:Int} {S:aZ}
def S1 (S:aZ):aZ:={S with O:=bD S.O 1 (λo=>{o with aQ:=o.aQ+1}),us:=[(1,⟨1,2⟩)],aL:=max S.aL 1}
theorem ahb:ah (S1 S).O 1={ah S.O 1 with aQ:=(ah S.O 1).aQ+1}:=rfl
theorem ahc:ah (S1 S).O 2=ah S.O 2:=rfl
structure WrS (room:Int) (ds:List UInt8) (S:aZ):Prop where
 inv:bB S
 ax:S.ax=[(1,⟨1,2⟩),(2,⟨2,1⟩)]
 us:S.us=[(1,⟨1,2⟩),(2,⟨2,1⟩)]
 X:S.X=⟨9,room,9,0,0,2,1,ds.length⟩
 o1:∃l n u,ah S.O 1=⟨1,493,0,0,0,0,l,n,false,2,[],⟨#[]⟩,[(⟨#[102]⟩,⟨2,1⟩)],u⟩
 o2:∃u,ah S.O 2=⟨2,420,0,0,0,0,1,1,false,1,ds,⟨#[]⟩,[],u⟩
structure UnS (ds:List UInt8) (S:aZ):Prop where
 inv:bB S
 ax:S.ax=[(1,⟨1,2⟩),(2,⟨2,1⟩)]
 us:S.us=[(1,⟨1,2⟩),(2,⟨2,1⟩)]
 used:S.X.used=ds.length
 o2:∃s z u,ah S.O 2=⟨2,420,0,0,s,z,0,1,true,1,ds,⟨#[]⟩,[],u⟩
end chain
theorem aU.ab6 {P:Program} {β:Bs} {f:FuncId} {args:Array Value} {pre:List HP} {post:Value->List HP->Prop} {Ψ:Bs->Value->List HP->Prop} (h:aU P β f args pre post) (GK:∀v l,post v l->∃l1 l2,l=l1++l2/\∀β',oe β l2 β'->Ψ β' v l1):bK P β f args pre Ψ:=by
 intro A w hS
 refine (h A w hS).mono ?_
 rintro e w' ⟨v,l,h1,h2,h3⟩
 obtain⟨l1,l2,rfl,hl⟩:=GK v l h2
 have h4:aP β (([.abs A]++l1)++l2) w':=by rw [aiv];exact aP.turn h3
 obtain⟨β',g1,_,g3⟩:=h4.sF
 exact⟨β',v,l1,g1.le,h1,hl β' g1,aP.turn g3⟩
section c
variable {β:Bs} {S S2:aZ} {L:HL} {f m t:Nat} {c c2:aK}
end c
theorem PN {V:Type} {g:Int×V->Nat}:∀{a b:bC V},ig g (a++b)=ig g a+ig g b
 |[],b=>(ain _).symm
 |p::r,b=>by
   show g p+ig g (r++b)=g p+ig g r+ig g b
   rw [PN];omega
theorem Ry {ns:List aO} {i j:Nat} (h:i<=j):fZ ns i<=fZ ns j:=by
 induction j with
 |zero=>rw [Nat.le_zero.1 h];exact N6 _
 |succ j ih=>
   grind [fZ]
theorem JW {ns:List aO} {i:Nat} (h:i<=ns.length):fZ ns i<=fZ ns ns.length:=Ry h
section at_
variable {S:aZ} {i j:Nat}
theorem qx (hi:i<S.ax.length):nd (aV S) i=jZ S.O (iy S i) (jy S i):=by
 grind [nd,aV,yg]
theorem aeJ {t:Th} (hl:aS S.ax t):∃i,i<S.ax.length/\jy S i=t/\iy S i=(t.k:Int):=by
 obtain⟨i,hi,e⟩:=aiT (get_mem hl)
 have h1:=yg hi
 grind
theorem BP (f:bV->Nat) (s:List aO->Nat->Nat) (h0:∀ns,s ns 0=0) (hs:∀k,k<S.ax.length->s (aV S) (k+1)=s (aV S) k+f (ah S.O (jy S k).k)):∀k,k<=S.ax.length->s (aV S) k=ig (λp=>f (ah S.O p.2.k)) (S.ax.take k)
 |0,_=>by rw [h0];rfl
 |k+1,hk=>by
   rw [hs k hk,BP f s h0 hs k d5,aiC,yg hk,PN]
   rfl
theorem PO:fZ (aV S) S.ax.length=bytes S.ax S.O:=by
 have h:=BP (S:=S) (λo=>o.data.length) fZ (λ_=>rfl) (λk hk=>by show fZ (aV S) k+_=_;rw [qx hk];rfl) S.ax.length (N6 _)
 rw [aiu] at h
 exact h
theorem Fj:dX (aV S) S.ax.length=tot S.ax S.O:=by
 have h:=BP (S:=S) (λo=>o.aq.length) dX (λ_=>rfl) (λk hk=>by
  show dX (aV S) k+_=_
  rw [qx hk]
  show _+((ah S.O (jy S k).k).aq.map _).length=_
  rw [aip]) S.ax.length (N6 _)
 rw [aiu] at h
 exact h
end at_
end
section
open Go.RowKit bw aH Go.Maps
theorem Xi {l:List Int} {j:Nat} (h:j<l.length):(bL l)[j]?=some (.int .i64 (l.getD j 0)):=by
 simp [bL,List.getD_eq_getElem?_getD,h]
theorem JX {ks:List Int} (h:aH.dM ks) {i j:Nat} (hij:i<j) (hj:j<ks.length):ks.getD i 0<ks.getD j 0:=by
 have:=aiZ.1 h i j d5 hj hij
 grind
theorem BQ {ks:List Int} {j:Nat} (h:j<ks.length):ks.getD j 0∈ks:=by
 grind
section bL
variable {β:Bs} {A:Option Addr} {l:List Int} {j:Nat}
theorem xJ.get (h:cq β A (bL l)) (hj:j<l.length):A=some ⟨bG A,bE A,none⟩/\Rd β ⟨bG A,bE A+j*1,none⟩ (.int .i64 (l.getD j 0)):=by
 grind [bL,cq,bG,bE,Rd]
theorem xJ.hd (h:cq β A (bL l)) (hj:j<l.length):A=some ⟨bG A,bE A,none⟩:=(xJ.get h hj).1
theorem xJ.rd (h:cq β A (bL l)) (hj:j<l.length):Rd β ⟨bG A,bE A+j*1,none⟩ (.int .i64 (l.getD j 0)):=(xJ.get h hj).2
end bL
theorem aU.Y8 {P:Program} {β:Bs} {f:FuncId} {args:Array Value} {pre R:List HP} {post:Value->List HP->Prop} (h:∀β':Bs,oe β R β'->aU P β' f args pre post):aU P β f args (pre++R) (λv l=>∃l0,post v l0/\l=l0++R):=by
 intro A w hS
 have h1:=aP.turn hS
 rw [←aiv] at h1
 obtain⟨β',g1,_,g3⟩:=h1.sF
 refine (h β' g1 A w (aP.turn g3)).mono ?_
 rintro e w' ⟨v,l,h1,h2,h3⟩
 refine⟨v,l++R,h1,⟨l,h2,rfl⟩,?_⟩
 have h4:=g1.back (aP.turn h3)
 rw [aiv] at h4
 exact aP.turn h4
theorem Ng {β:Bs} (A B:Option Addr) (c c':Nat) (ns ms:List aO) (L K:fq) (hH:aN β B ms K) (hl:ns.length<=1048576) (hd:∀i,i<ns.length->(nd ns i).data.length<=140737488355328/\(nd ns i).aq.length<=1048576) {b:Bool} (hb:decide (ns=ms)=b) :
 aU Tryz.prog β 18 #[.agg #[.slice A ns.length c],.agg #[.slice B ms.length c']] (K1 A c ns L) (λv l=>v=.bool b/\l=K1 A c ns L):=
 (aU.Y8 (pre:=[]) (λ_ g=>N0 A B c c' ns ms L K g.graph (hH.le g.le) hl hd)).mono (by rintro v l ⟨l0,⟨rfl,rfl⟩,rfl⟩;exact⟨zc Value.bool hb,rfl⟩)
theorem PS {β:Bs} (t:Nat) (most aL:Int) (L:HL) (us:bC Th) :
 aU Tryz.prog β 70 #[.pointer (some ⟨t,0,none⟩)] [.abs (iP 233 t most aL (dQ L us))] (λv l=>∃A c,v=.slice A us.length c/\l=[.abs (iP 233 t most aL (dQ L us)),.abs (aI 3 1 A us.length c (bL (aY us)))]):=by
 have h:=OI (β:=β) t most aL (dQ L us)
 have e:aY (dQ L us)=aY us:=keys_map (jl L) us
 grind [aY]
theorem aaq {S:aZ} (h:Inv0 S):∀i,i<(aV S).length->(nd (aV S) i).data.length<=140737488355328/\(nd (aV S) i).aq.length<=1048576:=λi hi=>by
 rw [iM] at hi
 have h1:(ah S.O (jy S i).k).data.length<=bytes S.ax S.O:=sA (g:=λp:Int×Th=>(ah S.O p.2.k).data.length) (get_at h hi)
 have h2:(ah S.O (jy S i).k).aq.length<=tot S.ax S.O:=sA (g:=λp:Int×Th=>(ah S.O p.2.k).aq.length) (get_at h hi)
 have h3:=h.used
 have h4:=h.total
 rw [qx hi]
 refine⟨by show (ah S.O (jy S i).k).data.length<=_;omega,?_⟩
 show ((ah S.O (jy S i).k).aq.map _).length<=_
 rw [aip]
 omega
theorem yI {β:Bs} (A:Option Addr) (c:Nat) (ns:List aO) (L:fq) (hG:aN β A ns L) (hl:ns.length<=1048576) (hd:∀i,i<ns.length->(nd ns i).data.length<=1048576/\(nd ns i).aq.length<=1048576) :
 aU Tryz.prog β 27 #[.agg #[.slice A ns.length c]] [] (λv l=>∃B cap,v=.agg #[.slice B ns.length cap]/\l=[.abs (jL β (λβ'=>∃K,aN β' B ns K))]):=
 (bK.G0 (ι:=Option Addr×Nat) (vv:=λx=>.agg #[.slice x.1 ns.length x.2]) (ll:=λ_=>[]) (Φ:=λx β'=>∃K,aN β' x.1 ns K)
  ((NY A c ns L hG hl hd).mono (by rintro β' v l _ ⟨B,cap,K,rfl,rfl,h⟩;exact⟨(B,cap),rfl,rfl,K,h⟩))).mono (by rintro v l ⟨⟨B,cap⟩,rfl,rfl⟩;exact⟨B,cap,rfl,rfl⟩)
end
section
open Go.RowKit Go.Maps bw aH
attribute [local irreducible] aB bJ av aF
theorem Xj {β:Bs} (S:aZ) (L:HL) (f m t:Nat):aU Tryz.prog β 43 #[vP f] [pF f m t S.X,pT t S.X.cH S.aL L S.us] (λv l=>∃A c,v=.slice A S.us.length c/\l=[pF f m t S.X,pT t S.X.cH S.aL L S.us,.abs (aI 3 1 A S.us.length c (bL (aY S.us)))]):=by
 refine SE Tryz.func43 Tryz.ntmps43 (λR=>SR (jK 1 [] [] (NS (jK 4 [6] [(3,a_ 0 f)] (gL [1] (PS t S.X.cH S.aL L S.us) ?_)))))
 rintro _ _ ⟨A,c,rfl,rfl⟩
 exact jK 1 [2] [] (eN ⟨A,c,rfl,rfl⟩ [2,0,1,3])
theorem Xk {β:Bs} (most:Int) (h:0<=most/\most<=1024):aU Tryz.prog β 57 #[vI most] [] (λv l=>v=.agg #[vI most,vI 0,.slice none 0 0,.slice none 0 0]/\l=[]):=by
 exact SE Tryz.func57 Tryz.ntmps57 (λR=>SR (jB 1 [2] (λb1=>.aD b1 [vI 0,vI 0,.slice none (0) (0),.slice none (0) (0)] 43) (λb1=>NZ (jK 2 [4] [] (NN (cP ((most:Int)<(0:Int)) (λh4=>KB h4 (by omega)) (λh4=>KX (SQ (jK 2 [6] [] (NN (cP ((most:Int)>(1024:Int)) (λh6=>KB h6 (by omega)) (λh6=>KX (SR (jC 3 [] [(2,A_ 1 b1 4)] [(1,[(0,vI (most))])] (eS [A_ 1 b1 4] ⟨rfl,rfl⟩)))))))))))))))
end
section
open Go.RowKit bw aH Go.Maps
abbrev DU (X:FM) (ns:List aO):={S:aZ // kV X ns ns.length 0 S}
theorem Ir (us:bC Th):us.length=(aY us).length:=(aip ..).symm
theorem aar {S:aZ} (h:Inv0 S):(aV S).length<=1048576:=by
 rw [iM]
 have:=h.len
 omega
end
section
open Go.RowKit Go.Maps bw aH
section m
variable {β:Bs} {ns:List aO} {Y:fq} {X:FM} {af:Int}
theorem aas (hcap:kW X) (hok:cE ns) (A:Option Addr) (c:Nat) (hG:aN β A ns Y) (hB:kA ns 1048576) :
 aU Tryz.prog β 50 #[.agg #[.slice A ns.length c],.agg #[.int .i64 X.cN,.int .i64 X.cB,.int .i64 X.cH,.int .i64 X.cS,.int .i64 X.cZ]] [] (λv l=>∃(S:DU X ns) (f m t:Nat) (L:HL),v=.tuple #[.pointer (some ⟨f,0,none⟩),.int .i64 0]/\l=pA f m t L S.1):=
 (SG A c ns Y hG (vJ hB) (F8 hB) (Jo hB) (Jp hB) X).mono (by
  rintro v l (⟨h,_⟩|⟨_,h,_⟩|⟨_,_,h⟩)
  ·exact KB hcap h
  ·exact KB hok h
  obtain⟨S,f,m,t,L,h1,h2,h3⟩:=h
  exact⟨⟨S,h1⟩,f,m,t,L,h2,h3⟩)
theorem aat (Fk:¬(kW X/\cE ns)) (A:Option Addr) (c:Nat) (hG:aN β A ns Y) (hB:kA ns 1048576) :
 aU Tryz.prog β 50 #[.agg #[.slice A ns.length c],.agg #[.int .i64 X.cN,.int .i64 X.cB,.int .i64 X.cH,.int .i64 X.cS,.int .i64 X.cZ]] [] (λv l=>v=.tuple #[.pointer none,.int .i64 (fN X ns af)]/\l=[]):=
 (SG A c ns Y hG (vJ hB) (F8 hB) (Jo hB) (Jp hB) X).mono (by
  rintro v l (⟨h,h1,h2⟩|⟨h,h',h1,h2⟩|⟨h1,h2,_⟩)
  ·exact⟨by rw [DR h];exact h1,h2⟩
  ·exact⟨by rw [Az h h'];exact h1,h2⟩
  exact KB ⟨h1,h2⟩ Fk)
theorem DV (Fk:¬(kW X/\cE ns)):fN X ns af≠0:=λh=>Fk (Fe h)
theorem Xl {i:Nat} (hi:Ay ns af i) (A:Option Addr) (c:Nat) (hG:aN β A ns Y) (hB:kA ns 1048576) (b:Nat) :
 aU Tryz.prog β 51 #[.slice A ns.length c,.func (.func 52) #[] #[.pointer (some ⟨b,0,none⟩)]] [.aD b [.int .i64 af] 3] (λv l=>v=.int .i64 (i:Int)/\l=[.aD b [.int .i64 af] 3]):=
 (PB A c ns Y hG (vJ hB) b af).mono (by
  rintro v l (⟨j,hj,h1,h2⟩|⟨h,_⟩)
  ·have e:i=j:=by
    obtain⟨a1,a2,a3⟩:=hi
    obtain⟨b1,b2,b3⟩:=hj
    rcases aiS i j with h|h|h
    ·exact KB a2 (b3 i h)
    ·exact h
    exact KB b2 (a3 j h)
   subst e
   exact⟨h1,h2⟩
  exact KB hi.2.1 (h i hi.1))
theorem aau (hi:∀q,q<ns.length->(nd ns q).id≠af) (A:Option Addr) (c:Nat) (hG:aN β A ns Y) (hB:kA ns 1048576) (b:Nat) :
 aU Tryz.prog β 51 #[.slice A ns.length c,.func (.func 52) #[] #[.pointer (some ⟨b,0,none⟩)]] [.aD b [.int .i64 af] 3] (λv l=>v=.int .i64 (-1)/\l=[.aD b [.int .i64 af] 3]):=
 (PB A c ns Y hG (vJ hB) b af).mono (by
  rintro v l (⟨j,hj,_⟩|⟨_,h1,h2⟩)
  ·exact KB hj.2.1 (hi j hj.1)
  exact⟨h1,h2⟩)
end m
def NB (β β':Bs):Bs:=⟨λk=>β'.O k/\¬β.O k,β'.w0⟩
section n
variable {a b c β β' oV:Bs} {A:Option Addr} {d:List UInt8} {Z:AZ} {xs:List cI} {l R:List HP} {w:World} {p:HP} {i:Nat} {P:Program} {f:FuncId} {args:Array Value} {pre:List HP}
theorem NB.le (h:b.le c):(NB a b).le (NB a c):=⟨λk hk=>⟨h.O k hk.1,hk.2⟩,h.os,h.tape,h.output,h.size,λk hk=>h.old k hk.1⟩
structure Fl (a b:Bs) (A:Option Addr) (d:List UInt8):Prop where
 at_:bO b A d
 nb:bO (NB a b) A d
theorem Fl.le (h:Fl a b A d) (g:b.le c):Fl a c A d:=⟨h.at_.le g,h.nb.le (NB.le g)⟩
structure aav (a b:Bs) (Z:AZ) (xs:List cI):Prop where
 at_:kK b Z xs
 nb:kK (NB a b) Z xs
theorem oe.aeK (h:oe β R β') (i:Nat) (hp:R[i]?=some p):∃F,p.h F β'.w0/\∀k,F k->(NB β β').O k:=by
 obtain⟨φ,h1,h2,_⟩:=h.fp
 exact⟨φ i,(h1 i p hp).1,λk hk=>⟨(h1 i p hp).2 k hk,h2 i (dH hp) k hk⟩⟩
theorem MF {β:Bs} (A:Option Addr) (c:Nat) (d:List UInt8) (hA:bO β A d) (hl:d.length<=1048576):bK Tryz.prog β 48 #[.slice A d.length c] [] (λβ' v l=>∃B cap,v=.slice B d.length cap/\l=[]/\Fl β β' B d/\d.length<=cap):=
 (Cs A c d hA d5).ab6 (by
  rintro v l ⟨B,cap,rfl,rfl⟩
  refine⟨[],_,rfl,λβ' h=>⟨B,cap,rfl,rfl,⟨h.bytes,?_⟩,?_⟩⟩
  ·obtain⟨F,h1,h2⟩:=h.aeK 0 rfl
   exact cq.gZ h1 h2 rfl
  obtain⟨F,h1,_⟩:=h.get 0 rfl
  exact (aI.len h1).2)
end n
end
section
open Go.RowKit Go.Maps bw aH
attribute [local irreducible] aB bJ av aF cC
theorem aaw {β:Bs} (A:Option Addr) (c:Nat) (ns:List aO) (Y:fq) (hG:aN β A ns Y) (hB:kA ns 1048576) (X:FM) (af:Int) (Af:Option Addr) (cf:Nat) (fs:List ck) (hF:cq β Af (cJ jv fs)) (ox:lI fs 2097152) (Aa:Option Addr) (ca:Nat) (xs:List cI) (hA:cq β Aa (cJ kr xs)) (gF:fS xs 1048576) :
 bK Tryz.prog β 26 #[.agg #[.slice A (ns.length) (c)],vI (af),.agg #[vI (X.cN),vI (X.cB),vI (X.cH),vI (X.cS),vI (X.cZ)],.agg #[.slice Af (fs.length) (cf),.slice Aa (xs.length) (ca)]] [] (λβ' v l=>(fN X ns af≠0/\v=.tuple #[.pointer none,vI (fN X ns af)]/\l=[])\/(fN X ns af=0/\∃(N:DU X ns) (L:HL) (w o q f m t am an km kn:Nat) (Z:AZ),v=.tuple #[vP w,vI 0]/\l=[.aD w [.iface 37 (vP w),vP f,.iface 137 (vP o),vI (af),.slice none (0) (0)] 60,.aD o [.iface 138 (vP q),vP f,vI (af),.map (some am),vI 0] 142,.aD q [.iface 56 (vP f),.map (some km),vI 0] 140,.abs (bM Tryz.prog 3 am (kG Z xs) an),.abs (bM Tryz.prog 3 km (iD fs) kn),.abs (aI 63 13 none 0 0 ([])),.aD f [vI (N.1.X.cN),vI (N.1.X.cB),vI (N.1.X.cH),vI (N.1.X.cS),vI (N.1.X.cZ),.map (some m),vP t,vI (N.1.X.last),vI (N.1.X.aq),vI (N.1.X.used)] 173,.abs (bM Tryz.prog 3 m (dw (dQ L N.1.ax)) N.1.ax.length),.abs (iP 233 t N.1.X.cH N.1.aL (dQ L N.1.us)),.abs (bp (fV N.1.O L)),.abs (bp (eY N.1.O L)),.abs (bp (iE N.1.O L))]/\aav β β' Z xs)):=by
 have hfl:=ox.len
 have hxl:=gF.len
 refine lW Tryz.func26 Tryz.ntmps26 (λaE R=>SR (jB 1 [4] (λb1=>.aD b1 [.slice A (ns.length) (c)] 24) (λb1=>jB 1 [5] (λb2=>.aD b2 [vI (af)] 3) (λb2=>jB 1 [6] (λb3=>.aD b3 [vI (X.cN),vI (X.cB),vI (X.cH),vI (X.cS),vI (X.cZ)] 28) (λb3=>jB 3 [7] (λb4=>.aD b4 [.slice Af (fs.length) (cf),.slice Aa (xs.length) (ca)] 32) (λb4=>NN (av.seq ?_)))))))
 by_cases lK:kW X/\cE ns
 ·refine av.region (jK 2 [21,22] [(0,a_ 1 b1),(1,A_ 3 b3 5)] (gL [] (aas (β:=β) lK.1 lK.2 A c hG hB) ?_))
  rintro _ _ ⟨N,f,m,t,L,rfl,rfl⟩
  refine jK 5 [10,11] [] (NZ (jK 2 [27] [] (NF (KX (av.seq ?_)))))
  rcases PA ns af with ⟨r,hr⟩|jD
  ·have hr1:r<ns.length:=hr.1
   refine av.region (jK 3 [30,31] [(1,a_ 7 b1)] (gE [8] (Xl (β:=β) hr A c hG hB b2) (jK 1 [12] [] (NZ (jK 2 [34] [(1,wF (((r:Int):Int)<(0:Int)))] (NF (KX (SQ (jK 7 [41] [(1,a_ 8 b1),(3,x_ r ns.length (aN.hd hG (i:=r) d5)),(5,r_ (aN.rd hG (i:=r) d5 (j:=1) rfl))] (NN (cN (((nd ns r).kind:Int)=(2:Int)) (λAi=>SR (jK 2 [8,9] [] (eO (v:=(.tuple #[.pointer none,vI 173])) [] aE (.inl ⟨by rw [y5 lK.1 lK.2 hr Ai];decide,by rw [y5 lK.1 lK.2 hr Ai],rfl⟩) [7]))) (λAi=>KX (SR (aB.sX (d:=(some 42)) (t:=131) (λ_=>d6) Tryz.prog rfl 3 (λm5=>jK 1 [13] [] (NZ (aB.cR 11 (p':=.abs (bM Tryz.prog 3 m5 (kG AZ.none (xs.take 0)) 0)) rfl (zc (λf=>HP.abs (bM Tryz.prog 3 _ f 0)) Z6.symm) (aB.mem (gj:=[.aD b2 [vI (af)] 3,pF f m t N.1.X,pI m L N.1.ax,pT t N.1.X.cH N.1.aL L N.1.us,pO N.1.O L,pD N.1.O L,pE N.1.O L,.abs R,.aD b1 [.slice A (ns.length) (c)] 24,.aD b3 [vI (X.cN),vI (X.cB),vI (X.cH),vI (X.cS),vI (X.cZ)] 28,.aD b4 [.slice Af (fs.length) (cf),.slice Aa (xs.length) (ca)] 32,.abs (bM Tryz.prog 3 m5 (kG AZ.none (xs.take 0)) 0),.abs (bp (sV AZ.none (xs.take 0)))]) (λw hS=>hS.aex) (jK 4 [44,45,46] [(1,a_ 10 b4)] (NN (av.block (lJ (ι:=Nat×AZ×Nat) (λ(i,Z,an)=>(i<=xs.length)/\(an<=i)) (λ(i,Z,an)=>xs.length-i) (λ(i,Z,an)=>[(5,vP b2),(7,vP b4),(10,vP f),(13,.map (some m5)),(44,.slice Aa (xs.length) (ca)),(45,vI ↑xs.length),(46,vI ↑i)]) (λ(i,Z,an)=>[.aD b2 [vI (af)] 3,pF f m t N.1.X,pI m L N.1.ax,pT t N.1.X.cH N.1.aL L N.1.us,pO N.1.O L,pD N.1.O L,pE N.1.O L,.aD b1 [.slice A (ns.length) (c)] 24,.aD b3 [vI (X.cN),vI (X.cB),vI (X.cH),vI (X.cS),vI (X.cZ)] 28,.aD b4 [.slice Af (fs.length) (cf),.slice Aa (xs.length) (ca)] 32,.abs (bM Tryz.prog 3 m5 (kG Z (xs.take i)) an),.abs (bp (sV Z (xs.take i))),.abs R]) (0,AZ.none,0) [0,1,2,3,4,5,6,8,9,10,11,12,7] (⟨L4 _,N6 _⟩) ?_))))))))))))))))))))))
   rintro⟨i,Z,an⟩ ⟨hi,han⟩
   refine SR (jK 1 [47] [] (NN (av.seq (cP ((((i:Nat):Int):Int)<(((xs.length:Nat):Int):Int)) (λR7=>?_) (λR7=>?_)))))
   ·refine KX (av.seq (av.block (SR (jN 4 [15] (λb6=>[(0,x_ i xs.length (Nw hA (i:=i) d5)),(1,p_ ⟨[.old (.int .i64 ((act xs i).at_)),.old (.int .i64 ((act xs i).op)),.old (.string (act xs i).path),.old (.string (act xs i).to),.old (.string (act xs i).text)],none,none,none,none⟩ [(Rd β ⟨(bG Aa),bE Aa+i*5+4,none⟩ (.string (act xs i).text)),(Rd β ⟨(bG Aa),bE Aa+i*5+3,none⟩ (.string (act xs i).to)),(Rd β ⟨(bG Aa),bE Aa+i*5+2,none⟩ (.string (act xs i).path)),(Rd β ⟨(bG Aa),bE Aa+i*5+1,none⟩ (vI ((act xs i).op))),(Rd β ⟨(bG Aa),bE Aa+i*5,none⟩ (vI ((act xs i).at_)))] ⟨qF hA (i:=i) d5 (j:=4) rfl,qF hA (i:=i) d5 (j:=3) rfl,qF hA (i:=i) d5 (j:=2) rfl,qF hA (i:=i) d5 (j:=1) rfl,qF hA (i:=i) d5 (j:=0) rfl,trivial⟩),(3,A_ 13 b6 5)]) (λ_=>[]) (λb6=>.aD b6 [vI ((act xs i).at_),vI ((act xs i).op),.string (act xs i).path,.string (act xs i).to,.string (act xs i).text] 133) (λb6=>NN (rM (List.range 11) 8 [10,13] (jR 6 [5,7,10,13,15,44,45,46,50,52,53,55] [(2,a_ 1 b6),(5,a_ 1 b6)] (cC.jo 0 (d:=(some 56)) (t:=131) (K:=3) (E:=30) (b:=m5) (cnt:=an) (f:=(kG Z (xs.take i))) (x:=(.tmp 53)) (ix:=(.tmp 55)) (key:=vI ((act xs i).at_)) (z:=.slice none (0) (0)) (kl:=(Lit.int IntKind.i64 (act xs i).at_)) (q:=(kG Z (xs.take i) (Lit.int IntKind.i64 (act xs i).at_))) d6 d6 (λ_=>d6) (λ_=>d6) jf Tryz.underlying131 (λ_=>d6) (mr (gF.at d5).aw) (rfl) (by rw [Ix];rfl) (jR 1 [5,7,10,13,44,45,46,50,52,56,57] [(0,A_ 1 b6 5)] (mN [10,13] (λb7=>[(58,.slice (some ⟨b7,0,none⟩) (1) (1))]) (λ_=>[]) (λb7=>.aD b7 [vI ((act xs i).at_),vI ((act xs i).op),.string (act xs i).path,.string (act xs i).to,.string (act xs i).text] 133) (λb7=>cC.cut (ι:=(Option Addr)×Nat) (bN:=λ((A8,c9):(Option Addr)×Nat)=>[(5,vP b2),(7,vP b4),(10,vP f),(13,.map (some m5)),(44,.slice Aa (xs.length) (ca)),(45,vI ↑xs.length),(46,vI ↑i),(50,.map (some m5)),(52,vI ((act xs i).at_)),(59,.slice A8 (((dm (xs.take i) (act xs i).at_).length+1)) (c9))]) (dh:=λ((A8,c9):(Option Addr)×Nat)=>[.aD b2 [vI (af)] 3,pF f m t N.1.X,pI m L N.1.ax,pT t N.1.X.cH N.1.aL L N.1.us,pO N.1.O L,pD N.1.O L,pE N.1.O L,.aD b1 [.slice A (ns.length) (c)] 24,.aD b3 [vI (X.cN),vI (X.cB),vI (X.cH),vI (X.cS),vI (X.cZ)] 28,.aD b4 [.slice Af (fs.length) (cf),.slice Aa (xs.length) (ca)] 32,.abs (bM Tryz.prog 3 m5 (kG Z (xs.take i)) an),.abs (bp (pU (sV Z (xs.take i)) (zz (act xs i).at_) eG.none)),.abs R,.aD b6 [vI ((act xs i).at_),vI ((act xs i).op),.string (act xs i).path,.string (act xs i).to,.string (act xs i).text] 133,.aD b7 [vI ((act xs i).at_),vI ((act xs i).op),.string (act xs i).path,.string (act xs i).to,.string (act xs i).text] 133,.abs (aI 133 5 A8 ((dm (xs.take i) (act xs i).at_).length+1) c9 (cJ kr (dm (xs.take i) (act xs i).at_)++kr (act xs i)))]) [10,13] rfl rfl ?_ rfl (λ_=>d6) ?_)))))))))))
    ·refine sl 56 (((kG Z (xs.take i) (Lit.int IntKind.i64 (act xs i).at_)).getD (.slice none 0 0))) (.slice (aA Z (xs.take i) (act xs i).at_) ((dm (xs.take i) (act xs i).at_).length) ((aC Z (xs.take i) (act xs i).at_))) (Ix) (aB.mem (gj:=[.aD b2 [vI (af)] 3,pF f m t N.1.X,pI m L N.1.ax,pT t N.1.X.cH N.1.aL L N.1.us,pO N.1.O L,pD N.1.O L,pE N.1.O L,.aD b1 [.slice A (ns.length) (c)] 24,.aD b3 [vI (X.cN),vI (X.cB),vI (X.cH),vI (X.cS),vI (X.cZ)] 28,.aD b4 [.slice Af (fs.length) (cf),.slice Aa (xs.length) (ca)] 32,.abs (bM Tryz.prog 3 m5 (kG Z (xs.take i)) an),.abs (bp (pU (sV Z (xs.take i)) (zz (act xs i).at_) eG.none)),.abs R,.aD b6 [vI ((act xs i).at_),vI ((act xs i).op),.string (act xs i).path,.string (act xs i).to,.string (act xs i).text] 133,.aD b7 [vI ((act xs i).at_),vI ((act xs i).op),.string (act xs i).path,.string (act xs i).to,.string (act xs i).text] 133,.abs (aI 133 5 (aA Z (xs.take i) (act xs i).at_) ((dm (xs.take i) (act xs i).at_).length) (aC Z (xs.take i) (act xs i).at_) (cJ kr (dm (xs.take i) (act xs i).at_)))]) (λw hS=>hS.ac6 (i:=11) rfl (act xs i).at_) ?_)
     have hay:(dm (xs.take i) (act xs i).at_).length<=1048576:=Pe (JG _) (by rw [aiz];omega)
     exact mO 15 30 (some ⟨b7,0,none⟩) 1 1 [vI ((act xs i).at_),vI ((act xs i).op),.string (act xs i).path,.string (act xs i).to,.string (act xs i).text] rfl (gq (j:=14) rfl) (λA8 c9=>aB.cR 15 (p':=.abs (aI 133 5 A8 ((dm (xs.take i) (act xs i).at_).length+1) c9 (cJ kr (dm (xs.take i) (act xs i).at_)++kr (act xs i)))) rfl (rfl) (sl 59 (.slice A8 (((dm (xs.take i) (act xs i).at_).length)+1) (c9)) (.slice A8 (((dm (xs.take i) (act xs i).at_).length+1)) (c9)) (rfl) (NL (MD (A8,c9) [5,7,10,13,44,45,46,50,52,59] [0,1,2,3,4,5,6,7,8,9,10,11,12,13,14,15]))))
    rintro⟨A8,c9⟩
    exact cC.last rfl rfl (aB.mem (gj:=[.abs (bp (sV (Z.put (act xs i).at_ A8 c9) (xs.take (i+1)))),.aD b2 [vI (af)] 3,.aD f [vI (N.1.X.cN),vI (N.1.X.cB),vI (N.1.X.cH),vI (N.1.X.cS),vI (N.1.X.cZ),.map (some m),vP t,vI (N.1.X.last),vI (N.1.X.aq),vI (N.1.X.used)] 173,.abs (bM Tryz.prog 3 m (dw (dQ L N.1.ax)) N.1.ax.length),.abs (iP 233 t N.1.X.cH N.1.aL (dQ L N.1.us)),.abs (bp (fV N.1.O L)),.abs (bp (eY N.1.O L)),.abs (bp (iE N.1.O L)),.aD b1 [.slice A (ns.length) (c)] 24,.aD b3 [vI (X.cN),vI (X.cB),vI (X.cH),vI (X.cS),vI (X.cZ)] 28,.aD b4 [.slice Af (fs.length) (cf),.slice Aa (xs.length) (ca)] 32,.abs (bM Tryz.prog 3 m5 (kG Z (xs.take i)) an),.abs R,.aD b6 [vI ((act xs i).at_),vI ((act xs i).op),.string (act xs i).path,.string (act xs i).to,.string (act xs i).text] 133,.aD b7 [vI ((act xs i).at_),vI ((act xs i).op),.string (act xs i).path,.string (act xs i).to,.string (act xs i).text] 133]) (λw hS=>by rw [DE d5];exact hS.aey (i:=11) (j:=15) (ax:=[0,1,2,3,4,5,6,7,8,9,10,12,13,14]) rfl rfl d6 rfl) (aB.qI 11 (d:=none) (t:=131) (K:=3) (E:=30) (b:=m5) (n:=an) (f:=(kG Z (xs.take i))) (x:=(.tmp 50)) (ix:=(.tmp 52)) (y:=(.tmp 59)) (key:=vI ((act xs i).at_)) (u:=.slice A8 (((dm (xs.take i) (act xs i).at_).length+1)) (c9)) (kl:=(Lit.int IntKind.i64 (act xs i).at_)) (n':=(if (kG Z (xs.take i) (Lit.int IntKind.i64 (act xs i).at_)).isSome then an else an+1)) (f':=(kG (Z.put (act xs i).at_ A8 c9) (xs.take (i+1)))) (λ_=>d6) d6 (λ_=>d6) (λ_=>d6) (λ_=>d6) jf Tryz.underlying131 (by unfold maxLen;omega) (mr (gF.at d5).aw) (rfl) (by rw [DE d5];exact Z7) (NL (aF.np (BX (av.region (jK 2 [46] [(0,wJ ((i:Int)+1) (↑(i+1)))] (NL (tJ ((i+1),(Z.put (act xs i).at_ A8 c9),(if (kG Z (xs.take i) (Lit.int IntKind.i64 (act xs i).at_)).isSome then an else an+1)) [1,2,3,4,5,6,7,8,9,10,11,0,12] (⟨d5,by split<;>omega⟩))))))))))
   refine XX (SR (aB.sF (l:=[.aD b2 [vI (af)] 3,.aD f [vI (N.1.X.cN),vI (N.1.X.cB),vI (N.1.X.cH),vI (N.1.X.cS),vI (N.1.X.cZ),.map (some m),vP t,vI (N.1.X.last),vI (N.1.X.aq),vI (N.1.X.used)] 173,.abs (bM Tryz.prog 3 m (dw (dQ L N.1.ax)) N.1.ax.length),.abs (iP 233 t N.1.X.cH N.1.aL (dQ L N.1.us)),.abs (bp (fV N.1.O L)),.abs (bp (eY N.1.O L)),.abs (bp (iE N.1.O L)),.aD b1 [.slice A (ns.length) (c)] 24,.aD b3 [vI (X.cN),vI (X.cB),vI (X.cH),vI (X.cS),vI (X.cZ)] 28,.aD b4 [.slice Af (fs.length) (cf),.slice Aa (xs.length) (ca)] 32,.abs (bM Tryz.prog 3 m5 (kG Z (xs.take i)) an),.abs R]) [.abs (bp (sV Z (xs.take i)))] [0,1,2,3,4,5,6,7,8,9,10,12,11] rfl d6 (λLg iH _ hL=>?_)))
   have hZ:aav β Lg Z xs:=by obtain⟨F,h,h2⟩:=hL.aeK 0 rfl;rw [show xs.take i=xs by rw [show i=xs.length by omega,aiu]] at h;exact⟨kK.of h (λk hk=>(h2 k hk).1) rfl,kK.of h (λk hk=>⟨(h2 k hk).1,λz=>(h2 k hk).2 (aE.O k z)⟩) rfl⟩
   replace hG:=hG.le iH
   replace hA:=hA.le iH
   replace hF:=hF.le iH
   replace aE:=aE.trans iH
   refine aB.cR 10 (p:=.abs (bM Tryz.prog 3 m5 (kG Z (xs.take i)) an)) (p':=.abs (bM Tryz.prog 3 m5 (kG Z xs) an)) d6 (by rw [show xs.take i=xs by rw [show i=xs.length by omega,aiu]]) (aB.sX (d:=(some 61)) (t:=134) (λ_=>d6) Tryz.prog rfl 3 (λm11=>jK 1 [16] [] (NZ (aB.cR 12 (p':=.abs (bM Tryz.prog 3 m11 (iD (fs.take 0)) 0)) rfl (zc (λf=>HP.abs (bM Tryz.prog 3 _ f 0)) WQ.symm) (jK 4 [63,64,65] [(1,a_ 9 b4)] (NN (av.block (lJ (ι:=Nat×Nat) (λ(j,kn)=>(j<=fs.length)/\(kn<=j)) (λ(j,kn)=>fs.length-j) (λ(j,kn)=>[(5,vP b2),(10,vP f),(13,.map (some m5)),(16,.map (some m11)),(63,.slice Af (fs.length) (cf)),(64,vI ↑fs.length),(65,vI ↑j)]) (λ(j,kn)=>[.aD b2 [vI (af)] 3,pF f m t N.1.X,pI m L N.1.ax,pT t N.1.X.cH N.1.aL L N.1.us,pO N.1.O L,pD N.1.O L,pE N.1.O L,.aD b1 [.slice A (ns.length) (c)] 24,.aD b3 [vI (X.cN),vI (X.cB),vI (X.cH),vI (X.cS),vI (X.cZ)] 28,.aD b4 [.slice Af (fs.length) (cf),.slice Aa (xs.length) (ca)] 32,.abs (bM Tryz.prog 3 m5 (kG Z xs) an),.abs (bM Tryz.prog 3 m11 (iD (fs.take j)) kn),.abs R]) (0,0) [0,1,2,3,4,5,6,7,8,9,10,12,11] (⟨L4 _,N6 _⟩) ?_))))))))
   rintro⟨j,kn⟩ ⟨hj,hkn⟩
   refine SR (jK 1 [66] [] (NN (av.seq (cP ((((j:Nat):Int):Int)<(((fs.length:Nat):Int):Int)) (λqz=>KX (av.seq (av.block (SR (jN 4 [18] (λb12=>[(0,x_ j fs.length (abT hF (i:=j) d5)),(1,r2 (Nx hF (i:=j) d5 (j:=0) rfl) (Nx hF (i:=j) d5 (j:=1) rfl)),(3,A_ 13 b12 2)]) (λ_=>[]) (λb12=>.aD b12 [vI ((pG fs j).at_),vI ((pG fs j).kind)] 136) (λb12=>NS (jK 4 [72] [(1,a_ 13 b12)] (sP 72 (((pG fs j).kind:Int)>=(1:Int)) (λh72=>jK 5 [77] [(1,a_ 13 b12)] (sP 77 (((pG fs j).kind:Int)<=(3:Int)) (λh77=>jK 3 [78,80] [(2,a_ 13 b12)] (aB.jo 11 (d:=(some 81)) (t:=134) (K:=3) (E:=3) (b:=m11) (n:=kn) (f:=(iD (fs.take j))) (x:=(.tmp 78)) (ix:=(.tmp 80)) (key:=vI ((pG fs j).at_)) (z:=.int .i64 0) (kl:=(Lit.int IntKind.i64 (pG fs j).at_)) (r:=(iD (fs.take j) (Lit.int IntKind.i64 (pG fs j).at_))) (λ_=>d6) d6 (λ_=>d6) (λ_=>d6) jf Tryz.underlying134 (λ_=>d6) (mr (ox.at d5)) (rfl) (sl 81 (((iD (fs.take j) (Lit.int IntKind.i64 (pG fs j).at_)).getD (.int .i64 0))) (.int .i64 ((jb (fs.take j) (pG fs j).at_))) (Mn) (jK 2 [83] [] (NN (cP (((jb (fs.take j) (pG fs j).at_):Int)=(0:Int)) (λh83=>av.region (jK 5 [84,86,88] [(2,a_ 13 b12),(4,a_ 13 b12)] (aB.qI 11 (d:=none) (t:=134) (K:=3) (E:=3) (b:=m11) (n:=kn) (f:=(iD (fs.take j))) (x:=(.tmp 84)) (ix:=(.tmp 86)) (y:=(.tmp 88)) (key:=vI ((pG fs j).at_)) (u:=.int .i64 ((pG fs j).kind)) (kl:=(Lit.int IntKind.i64 (pG fs j).at_)) (n':=(if (iD (fs.take j) (Lit.int IntKind.i64 (pG fs j).at_)).isSome then kn else kn+1)) (f':=(iD (fs.take (j+1)))) (λ_=>d6) d6 (λ_=>d6) (λ_=>d6) (λ_=>d6) jf Tryz.underlying134 (by unfold maxLen;omega) (mr (ox.at d5)) (rfl) (by rw [wY d5];exact WR ⟨d5,d5⟩ d5) (LX (av.region (jK 2 [65] [(0,wJ ((j:Int)+1) (↑(j+1)))] (NL (tJ ((j+1),(if (iD (fs.take j) (Lit.int IntKind.i64 (pG fs j).at_)).isSome then kn else kn+1)) [0,1,2,3,4,5,6,7,8,9,10,11,12] (⟨d5,by split<;>omega⟩))))))))) (λh83=>KX (av.region (aB.cR 11 (p:=.abs (bM Tryz.prog 3 m11 (iD (fs.take j)) kn)) (p':=.abs (bM Tryz.prog 3 m11 (iD (fs.take (j+1))) kn)) d6 (by rw [wY d5,DC];unfold FK;omega) (jK 2 [65] [(0,wJ ((j:Int)+1) (↑(j+1)))] (NL (tJ ((j+1),kn) [0,1,2,3,4,5,6,7,8,9,10,11,12] (⟨d5,d5⟩))))))))))))) (λh77=>jK 4 [81] [] (jK 2 [83] [] (NF (KX (av.region (aB.cR 11 (p:=.abs (bM Tryz.prog 3 m11 (iD (fs.take j)) kn)) (p':=.abs (bM Tryz.prog 3 m11 (iD (fs.take (j+1))) kn)) d6 (by rw [wY d5,DC];unfold FK;omega) (jK 2 [65] [(0,wJ ((j:Int)+1) (↑(j+1)))] (NL (tJ ((j+1),kn) [0,1,2,3,4,5,6,7,8,9,10,11,12] (⟨d5,d5⟩)))))))))))) (λh72=>jK 9 [77,81] [] (jK 2 [83] [] (NF (KX (av.region (aB.cR 11 (p:=.abs (bM Tryz.prog 3 m11 (iD (fs.take j)) kn)) (p':=.abs (bM Tryz.prog 3 m11 (iD (fs.take (j+1))) kn)) d6 (by rw [wY d5,DC];unfold FK;omega) (jK 2 [65] [(0,wJ ((j:Int)+1) (↑(j+1)))] (NL (tJ ((j+1),kn) [0,1,2,3,4,5,6,7,8,9,10,11,12] (⟨d5,d5⟩)))))))))))))))))) (λqz=>?_)))))
   exact XX (SR (aB.cR 11 (p:=.abs (bM Tryz.prog 3 m11 (iD (fs.take j)) kn)) (p':=.abs (bM Tryz.prog 3 m11 (iD fs) kn)) d6 (by rw [show fs.take j=fs by rw [show j=fs.length by omega,aiu]]) (jN 5 [19] (λb13=>[(1,a_ 0 b2)]) (λ_=>[]) (λb13=>.aD b13 [.nilIface,vP f,.nilIface,vI (af),.slice none (0) (0)] 60) (λb13=>NS (jN 11 [94,104] (λb14=>[(8,a_ 0 b2)]) (λ_=>[]) (λb14=>.aD b14 [.iface 56 (vP f),.map (some m11),vI 0] 140) (λb14=>jN 5 [] (λb15=>[(4,a_ 13 b13)]) (λb15=>[(13,[(2,.iface 137 (vP b15))])]) (λb15=>.aD b15 [.iface 138 (vP b14),vP f,vI (af),.map (some m5),vI 0] 142) (λb15=>NS (jK 3 [109,111] [] (gE [] (aeF b13) (jC 3 [] [(2,a_ 13 b13)] [(13,[(0,.iface 37 (vP b13))])] (NS (jK 3 [8,9] [] (NN (av.ret (aF.mem (gj:=[.aD b2 [vI (af)] 3,pF f m t N.1.X,pI m L N.1.ax,pT t N.1.X.cH N.1.aL L N.1.us,pO N.1.O L,pD N.1.O L,pE N.1.O L,.aD b1 [.slice A (ns.length) (c)] 24,.aD b3 [vI (X.cN),vI (X.cB),vI (X.cH),vI (X.cS),vI (X.cZ)] 28,.aD b4 [.slice Af (fs.length) (cf),.slice Aa (xs.length) (ca)] 32,.abs (bM Tryz.prog 3 m5 (kG Z xs) an),.abs (bM Tryz.prog 3 m11 (iD fs) kn),.abs R,.aD b13 [.iface 37 (vP b13),vP f,.iface 137 (vP b15),vI (af),.slice none (0) (0)] 60,.aD b14 [.iface 56 (vP f),.map (some m11),vI 0] 140,.aD b15 [.iface 138 (vP b14),vP f,vI (af),.map (some m5),vI 0] 142,.abs (aI 63 13 none 0 0 ([]))]) (λw hS=>hS.nN (e:=63) (size:=13)) (rB (.tuple #[vP b13,vI 0]) [] [13,15,14,10,11,16,1,2,3,4,5,6,12] aE (.inr ⟨DS lK.1 lK.2 hr Ai,N,L,b13,b15,b14,f,m,t,m5,an,m11,kn,Z,rfl,rfl,hZ⟩)))))))))))))))))
  exact av.region (jK 3 [30,31] [(1,a_ 7 b1)] (gE [8] (aau (β:=β) jD A c hG hB b2) (jK 1 [12] [] (NZ (jK 2 [34] [] (NT (SR (jK 2 [8,9] [] (eO (v:=(.tuple #[.pointer none,vI 141])) [] aE (.inl ⟨by rw [xI lK.1 lK.2 jD];decide,by rw [xI lK.1 lK.2 jD],rfl⟩) [7])))))))))
 exact av.region (jK 2 [21,22] [(0,a_ 1 b1),(1,A_ 3 b3 5)] (gE [] (aat (β:=β) (af:=af) lK A c hG hB) (jK 5 [10,11] [] (NZ (jK 2 [27] [] (NN (cN (((fN X ns af):Int)=(0:Int)) (λyN=>SR (jK 3 [8,9] [] (eO (v:=(.tuple #[.pointer none,vI ((fN X ns af))])) [] aE (.inl ⟨DV lK,rfl,rfl⟩)))) (λyN=>KB yN (DV lK)))))))))
end
section
open Go.RowKit Go.Maps bw aH
attribute [local irreducible] aB bJ av aF
noncomputable abbrev zF1 (w)(f:Nat) (o) (af) (tA) (tr:List aK) (tC):=(.aD w [.iface 37 (vP w),vP f,.iface 137 (vP o),vI (af),.slice tA (tr.length) (tC)] 60:HP)
noncomputable abbrev zF2 (o)(q:Nat) (f:Nat) (af) (am) (tr:List aK):=(.aD o [.iface 138 (vP q),vP f,vI (af),.map (some am),vI (((tr.length:Nat):Int))] 142:HP)
noncomputable abbrev zF3 (q:Nat) (f:Nat) (km) (tr:List aK):=(.aD q [.iface 56 (vP f),.map (some km),vI (((tr.length:Nat):Int))] 140:HP)
noncomputable abbrev zF4 (am)(Z)(xs)(an):=(.abs (bM Tryz.prog 3 am (kG Z xs) an):HP)
noncomputable abbrev zF5 (km)(fs)(kn):=(.abs (bM Tryz.prog 3 km (iD fs) kn):HP)
noncomputable abbrev SH (tA)(tr:List aK) (tC):=(.abs (aI 63 13 tA tr.length tC (cJ aW tr)):HP)
noncomputable abbrev zF7 (t)(S:aZ) (L:HL):=(pT t S.X.cH S.aL L S.us:HP)
noncomputable abbrev SI (w)(f:Nat) (o) (af) (tA) (tr) (tC) (q:Nat) (am) (km) (Z) (xs) (an) (fs) (kn) (m:Nat) (t) (S:aZ) (L:HL):=([zF1 w f o af tA tr tC,zF2 o q f af am tr,zF3 q f km tr,zF4 am Z xs an,zF5 km fs kn,SH tA tr tC,pF f m t S.X,pI m L S.ax,zF7 t S L,pO S.O L,pD S.O L,pE S.O L]:List HP)
theorem Xm {β:Bs} (S:aZ) (L:HL) (w o q f m t am an km kn:Nat) (Z:AZ) (fs:List ck) (xs:List cI) (af:Int) (tr:List aK) (tA:Option Addr) (tC:Nat)  :
 aU Tryz.prog β 17 #[vP w] (SI w f o af tA tr tC q am km Z xs an fs kn m t S L) (λv l=>v=vI (S.us.length:Int)/\l=(SI w f o af tA tr tC q am km Z xs an fs kn m t S L)):=by
 refine SE Tryz.func17 Tryz.ntmps17 (λR=>SR (jK 1 [] [] (NS (jK 4 [6] [(3,a_ 0 w)] (gL [6,8] (Xj S L f m t) ?_)))))
 rintro _ _ ⟨Ah,ch,rfl,rfl⟩
 exact jK 2 [2] [] (eN (v:=(vI ↑S.us.length)) ⟨rfl,rfl⟩ [3,4,5,6,7,8,0,9,1,10,11,12,13])
theorem U3 {β:Bs} (S:aZ) (L:HL) (w o q f m t am an km kn:Nat) (Z:AZ) (fs:List ck) (xs:List cI) (af:Int) (tr:List aK) (tA:Option Addr) (tC:Nat) (hI:bB S) :
 aU Tryz.prog β 19 #[vP w] (SI w f o af tA tr tC q am km Z xs an fs kn m t S L) (λv l=>∃A cp K,v=.agg #[.slice A (aV S).length cp]/\l=(SI w f o af tA tr tC q am km Z xs an fs kn m t S L)++[.abs (aI 102 10 A (aV S).length cp (bS K (aV S))),.abs (ld (qR (aV S) K) (aV S).length),.abs (ld (mI (aV S) K) (aV S).length)]):=by
 refine SE Tryz.func19 Tryz.ntmps19 (λR=>SR (jB 1 [2] (λb1=>.aD b1 [.slice none (0) (0)] 24) (λb1=>NS (jK 4 [6] [(3,a_ 0 w)] (gL [6,7,9,10,11] (Xg S L f m t hI) ?_)))))
 rintro _ _ ⟨Ao,cp,K,rfl,rfl⟩
 exact jC 1 [] [(0,a_ 16 b1)] [(16,[(0,.slice Ao ((aV S).length) (cp))])] (eS (v:=(.agg #[.slice Ao ((aV S).length) (cp)])) [a_ 16 b1] ⟨Ao,cp,K,rfl,rfl⟩ [8,9,10,11,12,13,0,1,14,2,3,4,5,6,7,15])
theorem yJ {β:Bs} (Af:Option Addr) (cf:Nat) (fs:List ck) (hF:cq β Af (cJ jv fs)) (hfl:fs.length<=2097152) (Aa:Option Addr) (ca:Nat) (xs:List cI) (hA:cq β Aa (cJ kr xs)) (hxl:xs.length<=2097152) :
 aU Tryz.prog β 28 #[.agg #[.slice Af (fs.length) (cf),.slice Aa (xs.length) (ca)]] [] (λv l=>∃B b C c,v=.agg #[.slice B fs.length b,.slice C xs.length c]/\l=[.abs (aI 136 2 B fs.length b (cJ jv fs)),.abs (aI 133 5 C xs.length c (cJ kr xs))]):=by
 exact SE Tryz.func28 Tryz.ntmps28 (λR=>SR (jB 1 [1] (λb2=>.aD b2 [.slice Af (fs.length) (cf),.slice Aa (xs.length) (ca)] 32) (λb2=>jB 1 [2] (λb3=>.aD b3 [.slice none (0) (0),.slice none (0) (0)] 32) (λb3=>NS (jB 2 [3] (λb4=>.aD b4 [] 136) (λb4=>NS (aB.mem (λw hS=>hS.nW (i:=3) (b:=b4) (cs:=[]) (e:=136) 2 0 d6 rfl d8) (jK 3 [6,8] [(2,a_ 1 b2)] (mO 3 29 Af fs.length cf (cJ jv fs) rfl (hF.src) (λA5 c6=>aB.cR 3 (p:=.abs (aI 136 2 A5 (0+fs.length) c6 ([]++(cJ jv fs)))) (p':=.abs (aI 136 2 A5 fs.length c6 (cJ jv fs))) d6 (by rw [ain,List.nil_append]) (sl 9 (.slice A5 (0+fs.length) (c6)) (.slice A5 (fs.length) (c6)) (by rw [ain]) (jK 1 [3] [] (NS (jB 2 [4] (λb7=>.aD b7 [] 133) (λb7=>NS (aB.mem (λw hS=>hS.nW (i:=4) (b:=b7) (cs:=[]) (e:=133) 5 0 d6 rfl d8) (jK 3 [11,13] [(2,a_ 1 b2)] (mO 4 30 Aa xs.length ca (cJ kr xs) rfl (hA.src) (λA8 c9=>aB.cR 4 (p:=.abs (aI 133 5 A8 (0+xs.length) c9 ([]++(cJ kr xs)))) (p':=.abs (aI 133 5 A8 xs.length c9 (cJ kr xs))) d6 (by rw [ain,List.nil_append]) (sl 14 (.slice A8 (0+xs.length) (c9)) (.slice A8 (xs.length) (c9)) (by rw [ain]) (jK 1 [4] [] (NS (jC 4 [] [(3,A_ 2 b3 2)] [(2,[(0,.slice A5 (fs.length) (c6)),(1,.slice A8 (xs.length) (c9))])] (eS (v:=(.agg #[.slice A5 (fs.length) (c6),.slice A8 (xs.length) (c9)])) [A_ 2 b3 2] ⟨A5,c6,A8,c9,rfl,rfl⟩ [3,4,0])))))) (hl:=yq (f:=kr) (s:=5) (λ_=>rfl) _) (h1:=xR (Z5) _ _)))))))))) (hl:=yq (f:=jv) (s:=2) (λ_=>rfl) _) (h1:=xR (UB) _ _))))))))))
end
section
open Go.RowKit Go.Maps bw aH
attribute [local irreducible] aB bJ av aF cC
noncomputable abbrev zA1 (b4:Nat):=(.aD b4 [vI 0,vI 0,vI 0,.string ⟨#[]⟩,.string ⟨#[]⟩,.slice none (0) (0),vI 0,vI 0,vI 0,vI 0,vI 0,vI 0,vI 0] 63:HP)
noncomputable abbrev zA2:=([(2,vI 0),(6,vI 0),(7,vI 0),(8,vI 0),(9,vI 0),(10,vI 0),(11,vI 0),(12,vI 0)]:Fr)
noncomputable abbrev zA3 (c:aK):=([(3,.string c.name),(4,.string c.text),(5,.slice c.dA (c.data.length) (c.dC))]:Fr)
noncomputable abbrev zA4 (km)(fs)(kn)(f:Nat) (m:Nat) (t) (S:aZ) (L:HL):=([.abs (bM Tryz.prog 3 km (iD fs) kn),pF f m t S.X,pI m L S.ax,pT t S.X.cH S.aL L S.us,pO S.O L,pD S.O L,pE S.O L]:List HP)
theorem Fm {β:Bs} (c:aK) (e:Int) :
 aU Tryz.prog β 260 #[.agg ⟨aW c⟩,vI (e)] [] (λv l=>v=.agg ⟨aW (iI c e)⟩/\l=[]):=by
 exact SE Tryz.func260 Tryz.ntmps260 (λR=>SR (jB 1 [2] (λb1=>.aD b1 (aW c) 63) (λb1=>jB 1 [4] (λb2=>.aD b2 [vI 0,vI 0,vI 0,.string ⟨#[]⟩,.string ⟨#[]⟩,.slice none (0) (0),vI 0,vI 0,vI 0,vI 0,vI 0,vI 0,vI 0] 63) (λb2=>NZ (jK 4 [8] [(1,a_ 1 b1)] (sP 8 ((c.op:Int)=(11:Int)) (λh8=>jK 4 [12] [] (NT (av.region (jC 12 [] [(1,a_ 1 b1),(3,a_ 1 b1),(5,a_ 1 b1),(7,a_ 1 b1),(9,a_ 1 b1),(11,A_ 1 b1 13)] [(1,(zA2))] (NS (jC 5 [] [(2,a_ 1 b1),(4,a_ 1 b1)] [(1,[(11,vI (e))])] (NS (jC 2 [] [(0,A_ 1 b1 13),(1,A_ 2 b2 13)] [(2,([(0,vI (c.op)),(1,vI (c.bA))]++zA3 c++[(11,vI (e))]))] (eS (v:=(.agg ⟨aW {c with other:=0,mode:=0,cM:=0,cO:=0,bH:=0,bh:=0,code:=e,answer:=0}⟩)) [A_ 2 b2 13] ⟨zc (λx=>Value.agg ⟨aW x⟩) (aiL (t8 d5:iI c e=_)),rfl⟩))))))))) (λh8=>jK 4 [12] [(1,a_ 1 b1)] (NN (cP ((c.op:Int)=(12:Int)) (λh12=>av.region (jC 12 [] [(1,a_ 1 b1),(3,a_ 1 b1),(5,a_ 1 b1),(7,a_ 1 b1),(9,a_ 1 b1),(11,A_ 1 b1 13)] [(1,(zA2))] (NS (jC 5 [] [(2,a_ 1 b1),(4,a_ 1 b1)] [(1,[(11,vI (e))])] (NS (jC 2 [] [(0,A_ 1 b1 13),(1,A_ 2 b2 13)] [(2,([(0,vI (c.op)),(1,vI (c.bA))]++zA3 c++[(11,vI (e))]))] (eS (v:=(.agg ⟨aW {c with other:=0,mode:=0,cM:=0,cO:=0,bH:=0,bh:=0,code:=e,answer:=0}⟩)) [A_ 2 b2 13] ⟨zc (λx=>Value.agg ⟨aW x⟩) (aiL (t8 d5:iI c e=_)),rfl⟩))))))) (λh12=>KX (SR (jC 5 [] [(2,a_ 1 b1),(4,a_ 1 b1)] [(1,[(11,vI (e)),(12,vI 0)])] (NS (jC 2 [] [(0,A_ 1 b1 13),(1,A_ 2 b2 13)] [(2,([(0,vI (c.op)),(1,vI (c.bA)),(2,vI (c.other))]++zA3 c++[(6,vI (c.mode)),(7,vI (c.cM)),(8,vI (c.cO)),(9,vI (c.bH)),(10,vI (c.bh)),(11,vI (e))]))] (eS (v:=(.agg ⟨aW {c with code:=e,answer:=0}⟩)) [A_ 2 b2 13] ⟨zc (λx=>Value.agg ⟨aW x⟩) (aiL (nw d5:iI c e=_)),rfl⟩)))))))))))))))
theorem aeL {β:Bs} (S:aZ) (L:HL) (q f m t km kn n:Nat) (fs:List ck) (hI:bB S) (hn:n<=8388608) (k:Int) (hk:jb fs ((n+1:Nat):Int)=k) (c:aK) (hC:qP β c) :
 aU Tryz.prog β 259 #[vP q,.agg ⟨aW c⟩] ([.aD q [.iface 56 (vP f),.map (some km),vI (((n:Nat):Int))] 140]++zA4 km fs kn f m t S L) (λv l=>∃L2,v=.agg ⟨aW (dY k S c).2⟩/\l=[.aD q [.iface 56 (vP f),.map (some km),vI ((((n+1):Nat):Int))] 140,.abs (bM Tryz.prog 3 km (iD fs) kn),pF f m t ((dY k S c).1.X),pI m L2 (dY k S c).1.ax,pT t (dY k S c).1.X.cH ((dY k S c).1.aL) L2 ((dY k S c).1.us),pO ((dY k S c).1.O) L2,pD ((dY k S c).1.O) L2,pE ((dY k S c).1.O) L2]):=by
 have hdl:=hC.dl
 have hdc:=hC.dc
 refine SE Tryz.func259 Tryz.ntmps259 (λR=>SR (jB 1 [3] (λb3=>.aD b3 (aW c) 63) (λb3=>jB 1 [4] (λb4=>.aD b4 [vI 0,vI 0,vI 0,.string ⟨#[]⟩,.string ⟨#[]⟩,.slice none (0) (0),vI 0,vI 0,vI 0,vI 0,vI 0,vI 0,vI 0] 63) (λb4=>NS (jC 8 [] [(3,a_ 0 q),(4,wJ ((n:Int)+1) (↑(n+1))),(7,a_ 0 q)] [(0,[(2,vI ↑(n+1))])] (NN (av.join (ι:=Unit) (λ(u:Unit)=>(¬k=1)/\(¬(k=2/\(c.op=4\/c.op=5\/c.op=6\/c.op=7\/c.op=9)))/\(¬(k=3/\c.op=9/\2<=c.data.length))) (λ(u:Unit)=>[(0,vP q),(3,vP b3),(4,vP b4)]) (λ(u:Unit)=>([.aD q [.iface 56 (vP f),.map (some km),vI ↑(n+1)] 140]++zA4 km fs kn f m t S L++[.abs R,pC b3 c,zA1 b4])) ?_ ?_)))))))
 ·rintro u ⟨uL,hj2,hj3⟩
  refine av.seq (rM (List.range 7) 5 [0,9] (jR 5 [4,78,79] [(3,a_ 0 q),(4,A_ 1 b3 13)] (mL [6,9] [2,3,4,5,6,7] (PE S L f m t hI c hC) ?_ (by rintro _ _ ⟨L2,rfl,rfl⟩;rfl))))
  rintro _ _ ⟨L2,rfl,rfl⟩
  exact cC.last rfl rfl (jC 1 [] [(0,A_ 10 b4 13)] [(10,(zC (aW ((fF S c).2))))] (NL (aF.np (NX (av.ret (rT (.agg ⟨aW ((fF S c).2)⟩) [A_ 10 b4 13] [6,7,0,1,2,3,4,5,8] (⟨L2,by rw [show dY k S c=((fF S c).1,(fF S c).2) by unfold dY;rw [nw uL,nw hj2,nw hj3]]<;>exact⟨rfl,rfl⟩⟩)))))))
 refine av.seq (rQ (jQ 8 [16,20] [(3,a_ 0 q),(7,a_ 0 q)] (bJ.jo 1 (d:=(some 21)) (t:=134) (K:=3) (E:=3) (b:=km) (n:=kn) (f:=(iD fs)) (x:=(.tmp 16)) (ix:=(.tmp 20)) (key:=vI ↑(n+1)) (z:=.int .i64 0) (kl:=(.int .i64 ((n+1:Nat):Int))) (r:=(iD fs (.int .i64 ((n+1:Nat):Int)))) (λ_=>d6) d6 (λ_=>d6) (λ_=>d6) jf Tryz.underlying134 (λ_=>d6) (mr (WS d5)) (rfl) (NQ (NX (av.block (SR (sl 21 (((iD fs (.int .i64 ((n+1:Nat):Int))).getD (.int .i64 0))) (.int .i64 (k)) (Mn.trans (zc (Value.int .i64) hk)) (jK 2 [22] [] (NN (cP ((k:Int)=(1:Int)) (λtH=>SQ (jK 3 [26] [(1,a_ 9 b3)] (NN (cP ((c.op:Int)=(13:Int)) (λwq=>rM (List.range 6) 5 [0,9] (jR 5 [3,4,30,31] [(3,a_ 0 q),(4,A_ 1 b3 13)] (cC.last rfl rfl (gX [2,3,4,5,6,7] (PE S L f m t hI c hC) (λL2=>NL (aF.np (NX (SR (jK 1 [33] [(0,A_ 9 b3 13)] (gE [] (Fm c 180) (jC 1 [] [(0,A_ 10 b4 13)] [(10,(zC (aW (iI c 180))))] (eS (v:=(.agg ⟨aW (iI c 180)⟩)) [A_ 10 b4 13] ⟨L2,by rw [show dY k S c=((fF S c).1,iI c 180) by unfold dY;rw [t8 tH,t8 wq]]<;>exact⟨rfl,rfl⟩⟩ [6,7,0,1,2,3,4,5,8])))))))))))) (λwq=>KX (SR (jK 1 [33] [(0,A_ 9 b3 13)] (gE [] (Fm c 180) (jC 1 [] [(0,A_ 10 b4 13)] [(10,(zC (aW (iI c 180))))] (eS (v:=(.agg ⟨aW (iI c 180)⟩)) [A_ 10 b4 13] ⟨L,by rw [show dY k S c=(S,iI c 180) by unfold dY;rw [t8 tH,nw wq]]<;>exact⟨rfl,rfl⟩⟩)))))))))) (λtH=>SR (jK 2 [35] [] (NN (cP ((k:Int)=(2:Int)) (λyR=>?_) (λyR=>?_))))))))))))))))
 ·refine SR (jK 2 [38] [(1,a_ 9 b3)] (NN (av.block (av.join (ι:=Bool) (λ(fl:Bool)=>(fl=true↔(c.op=4\/c.op=5\/c.op=6\/c.op=7\/c.op=9))) (λ(fl:Bool)=>[(0,vP q),(3,vP b3),(4,vP b4),(39,.bool fl)]) (λ(fl:Bool)=>([.aD q [.iface 56 (vP f),.map (some km),vI ↑(n+1)] 140]++zA4 km fs kn f m t S L++[.abs R,pC b3 c,zA1 b4])) ?_ (SR (jK 2 [39] [] (NN (cP ((c.op:Int)=(4:Int)) (λlY=>av.skip (aF.slot 39 (.bool (decide ((c.op:Int)=(4:Int)))) (.bool true) (λ_=>d6) (zc Value.bool (aio lY)) (mJ true [0,1,2,3,4,5,6,7,8,9,10] (⟨λ_=>d5,λ_=>rfl⟩)))) (λlY=>SR (jK 2 [39] [] (NN (cP ((c.op:Int)=(5:Int)) (λlY=>av.skip (aF.slot 39 (.bool (decide ((c.op:Int)=(5:Int)))) (.bool true) (λ_=>d6) (zc Value.bool (aio lY)) (mJ true [0,1,2,3,4,5,6,7,8,9,10] (⟨λ_=>d5,λ_=>rfl⟩)))) (λlY=>SR (jK 2 [39] [] (NN (cP ((c.op:Int)=(6:Int)) (λlY=>av.skip (aF.slot 39 (.bool (decide ((c.op:Int)=(6:Int)))) (.bool true) (λ_=>d6) (zc Value.bool (aio lY)) (mJ true [0,1,2,3,4,5,6,7,8,9,10] (⟨λ_=>d5,λ_=>rfl⟩)))) (λlY=>SR (jK 2 [39] [] (NN (cP ((c.op:Int)=(7:Int)) (λlY=>av.skip (aF.slot 39 (.bool (decide ((c.op:Int)=(7:Int)))) (.bool true) (λ_=>d6) (zc Value.bool (aio lY)) (mJ true [0,1,2,3,4,5,6,7,8,9,10] (⟨λ_=>d5,λ_=>rfl⟩)))) (λlY=>av.region (jK 2 [39] [] (NL (mJ ((decide (c.op=9))) [0,1,2,3,4,5,6,7,8,9,10] (⟨λh=>by have:=aiQ h;omega,λh=>aio d5⟩)))))))))))))))))))))))))
  rintro fl hfl
  exact av.cond (b:=fl) (λ_=>d6) (λlY=>SR (jK 1 [45] [(0,A_ 9 b3 13)] (gE [] (Fm c 176) (jC 1 [] [(0,A_ 10 b4 13)] [(10,(zC (aW (iI c 176))))] (eS (v:=(.agg ⟨aW (iI c 176)⟩)) [A_ 10 b4 13] ⟨L,by rw [show dY k S c=(S,iI c 176) by unfold dY;rw [nw d5,t8 ⟨yR,hfl.1 lY⟩]]<;>exact⟨rfl,rfl⟩⟩))))) (λlY=>av.skip (aF.j8 (aF.j8 (mJ () [0,1,2,3,4,5,6,7,8,9,10] (⟨tH,λh=>KB (lY.symm.trans (hfl.2 h.2)) d8,λh=>d5⟩)))))
 refine SR (jK 2 [47] [] (NN (cP ((k:Int)=(3:Int)) (λR7=>SR (jK 4 [52] [(1,a_ 9 b3)] (sP 52 ((c.op:Int)=(9:Int)) (λuW=>jK 5 [57] [(1,a_ 9 b3)] (NN (cP ((((c.data.length:Nat):Int):Int)>=(2:Int)) (λh57=>SR (jK 3 [5] [(1,a_ 9 b3)] (NS (jK 5 [64] [(3,w_ (.int .i64 ↑(c.data.length / 2)) (vw (Int.ofNat_tdiv _ _).symm d5 d5)),(4,xP (c.data.length / 2) ((c.data.length / 2)<=c.dC))] (sl 64 (.slice c.dA ((c.data.length / 2)) (c.dC)) (.slice c.dA ((c.data.take (c.data.length / 2)).length) (c.dC)) (by rw [aiz,ai4 d5]) (jC 2 [] [(1,a_ 9 b3)] [(9,[(5,.slice c.dA ((c.data.take (c.data.length / 2)).length) (c.dC))])] (NN (av.seq (rM (List.range 7) 5 [0,9] (jR 5 [3,4,5,69,70] [(3,a_ 0 q),(4,A_ 1 b3 13)] (mL [6,9] [2,3,4,5,6,7] (PE S L f m t hI {c with data:=c.data.take (c.data.length / 2)} (Rs hC)) ?_ (by rintro _ _ ⟨L2,rfl,rfl⟩;rfl)))))))))))) (λh57=>av.skip (aF.j8 (mJ () [0,1,2,3,4,5,6,7,8,9,10] (⟨tH,λh=>yR h.1,λh=>d5⟩))))))) (λuW=>jK 5 [57] [] (NF (av.skip (aF.j8 (mJ () [0,1,2,3,4,5,6,7,8,9,10] (⟨tH,λh=>yR h.1,λh=>d5⟩))))))))) (λR7=>av.skip (aF.j8 (mJ () [0,1,2,3,4,5,6,7,8,9,10] (⟨tH,λh=>yR h.1,λh=>d5⟩)))))))
 rintro _ _ ⟨L2,rfl,rfl⟩
 exact cC.last rfl rfl (jC 1 [] [(0,A_ 9 b3 13)] [(9,(zC (aW ((fF S {c with data:=c.data.take (c.data.length / 2)}).2))))] (NL (aF.np (NX (SR (jC 3 [] [(2,a_ 9 b3)] [(9,[(5,.slice c.dA (c.data.length) (c.dC))])] (NS (jC 2 [] [(0,A_ 9 b3 13),(1,A_ 10 b4 13)] [(10,[(0,vI ((fF S {c with data:=c.data.take (c.data.length / 2)}).2.op)),(1,vI ((fF S {c with data:=c.data.take (c.data.length / 2)}).2.bA)),(2,vI ((fF S {c with data:=c.data.take (c.data.length / 2)}).2.other)),(3,.string (fF S {c with data:=c.data.take (c.data.length / 2)}).2.name),(4,.string (fF S {c with data:=c.data.take (c.data.length / 2)}).2.text),(5,.slice c.dA (c.data.length) (c.dC)),(6,vI ((fF S {c with data:=c.data.take (c.data.length / 2)}).2.mode)),(7,vI ((fF S {c with data:=c.data.take (c.data.length / 2)}).2.cM)),(8,vI ((fF S {c with data:=c.data.take (c.data.length / 2)}).2.cO)),(9,vI ((fF S {c with data:=c.data.take (c.data.length / 2)}).2.bH)),(10,vI ((fF S {c with data:=c.data.take (c.data.length / 2)}).2.bh)),(11,vI ((fF S {c with data:=c.data.take (c.data.length / 2)}).2.code)),(12,vI ((fF S {c with data:=c.data.take (c.data.length / 2)}).2.answer))])] (eS (v:=(.agg #[vI ((fF S {c with data:=c.data.take (c.data.length / 2)}).2.op),vI ((fF S {c with data:=c.data.take (c.data.length / 2)}).2.bA),vI ((fF S {c with data:=c.data.take (c.data.length / 2)}).2.other),.string (fF S {c with data:=c.data.take (c.data.length / 2)}).2.name,.string (fF S {c with data:=c.data.take (c.data.length / 2)}).2.text,.slice c.dA (c.data.length) (c.dC),vI ((fF S {c with data:=c.data.take (c.data.length / 2)}).2.mode),vI ((fF S {c with data:=c.data.take (c.data.length / 2)}).2.cM),vI ((fF S {c with data:=c.data.take (c.data.length / 2)}).2.cO),vI ((fF S {c with data:=c.data.take (c.data.length / 2)}).2.bH),vI ((fF S {c with data:=c.data.take (c.data.length / 2)}).2.bh),vI ((fF S {c with data:=c.data.take (c.data.length / 2)}).2.code),vI ((fF S {c with data:=c.data.take (c.data.length / 2)}).2.answer)])) [A_ 10 b4 13] ⟨L2,by rw [show dY k S c=((fF S {c with data:=c.data.take (c.data.length / 2)}).1,{ (fF S {c with data:=c.data.take (c.data.length / 2)}).2 with dA:=c.dA,dC:=c.dC,data:=c.data}) by unfold dY;rw [nw d5,nw d5,t8 ⟨R7,d5,d5⟩]]<;>exact⟨rfl,rfl⟩⟩ [6,7,0,1,2,3,4,5,8])))))))))
end
section
open Go.RowKit Go.Maps bw aH
attribute [local irreducible] aB bJ av aF
theorem Gr {β:Bs} (S:aZ) (L:HL) (f:Nat) (hI:bB S) (d:Nat) (hd:aS S.ax ⟨d,2⟩) (path:ByteArray) (eV:path.size<=1048576) (hg:iO β) :
 aU Tryz.prog β 246 #[vP f,vP (L.b d),.string path] [.abs (bp (fV S.O L)),.abs (bp (iE S.O L))] (λv l=>v=Iz L (mV S.O d path)/\l=[.abs (bp (fV S.O L)),.abs (bp (iE S.O L))]):=by
 have eM:(ah S.O d).kind=2:=hI.kind hd
 obtain⟨ps,ay⟩:∃ps,ps=bQ path:=⟨_,rfl⟩
 have hpl:1<=ps.length/\ps.length<=1048577:=by rw [ay,DJ];have:=Aj path;omega
 have Xn:∀q,q<ps.length->(pc ps q).size<=1048576:=λq hq=>Pe (G5 (ay ▸ Pu hq)) eV
 refine SE Tryz.func246 Tryz.ntmps246 (λR=>SR (jK 3 [] [] (NS (jK 1 [19] [] (gX [] (W6 hg path eV ay) (λb1=>jK 1 [9] [] (NN (SQ (jK 3 [21,22,23] [] (NN (av.block (lJ (λ(j:Nat)=>(j<=ps.length)/\(∀q,q<j->bW (pc ps q))) (λ(j:Nat)=>ps.length-j) (λ(j:Nat)=>[(1,vP (L.b d)),(9,.slice (some ⟨b1,0,none⟩) (ps.length) (ps.length)),(21,.slice (some ⟨b1,0,none⟩) (ps.length) (ps.length)),(22,vI ↑ps.length),(23,vI ↑j)]) (λ(j:Nat)=>[pO S.O L,pE S.O L,.abs (aI 9 1 (some ⟨b1,0,none⟩) ps.length ps.length (kx ps)),.abs R]) 0 [1,2,0,3] (⟨L4 _,λq h=>KB h (N5 q)⟩) ?_))))))))))))
 rintro j ⟨hj,hgd⟩
 refine SR (jK 1 [24] [] (NN (av.seq (cP ((((j:Nat):Int):Int)<(((ps.length:Nat):Int):Int)) (λq6=>av.skip (NX (av.seq (av.block (SR (jK 3 [11] [(0,p_ ⟨[],some j,none,none,some (.pointer (some ⟨b1,j,none⟩))⟩ [(Value.pointer (some ⟨b1,0+j*1,none⟩))=(.pointer (some ⟨b1,j,none⟩)),((j:Nat):Int)=((j:Nat):Int),j<ps.length,(⟨b1,0,none⟩:Addr).spot=none] ⟨nh,rfl,d5,rfl,trivial⟩),(1,p_ ⟨[.view 2 (.string (pc ps j))],none,none,none,none⟩ [(∀F w,(aI 9 1 (some ⟨b1,0,none⟩) ps.length ps.length (kx ps)).h F w->w.cell? ⟨b1,j,none⟩=some (.string (pc ps j)))] ⟨aI.cell (Ak d5),trivial⟩)] (NS (jK 1 [27] [] (gE [] (zP (pc ps j) (by have:=Xn j d5;omega)) (jK 1 [29] [] (NN (cN (bW (pc ps j)) (λCX=>SR (jK 3 [6,7,8] [] (NN (av.ret (aF.fM (aF.br (aF.br (aF.fM (aF.br (RT _ [0,1,3] (⟨zc (Iz L) (aiL (show mV S.O d path=.error 95 from nw (λh=>CX (DK.1 (ay ▸ h) j d5)))),rfl⟩))))))))))) (λCX=>av.skip (BX (av.region (jK 2 [23] [(0,wJ ((j:Int)+1) (↑(j+1)))] (NL (tJ ((j+1)) [0,1,2,3] (⟨d5,λq hq=>(Pd.1 hq).elim (hgd q) (λe=>e ▸ CX)⟩))))))))))))))))))) (λq6=>XX (SR ?_))))))
 have j3:∀p∈ps,bW p:=DK.2 (λq hq=>hgd q d5)
 refine jK 4 [12] [(2,wJ ((ps.length:Int)-1) (↑(ps.length-1)))] (NN (SQ (jK 5 [36,37,38] [(2,xP (ps.length-1) ((ps.length-1)<=ps.length))] (NN (av.block (lJ (λ(j,e)=>(j<=ps.length-1)/\(aS S.ax ⟨e,2⟩)/\(pV S.O d ps=pV S.O e (ps.drop j))) (λ(j,e)=>ps.length-1-j) (λ(j,e)=>[(1,vP (L.b e)),(9,.slice (some ⟨b1,0,none⟩) (ps.length) (ps.length)),(12,vI ↑(ps.length-1)),(36,.slice (some ⟨b1,0,none⟩) ((ps.length-1)) (ps.length)),(37,vI ↑(ps.length-1)),(38,vI ↑j)]) (λ(j,e)=>[pO S.O L,pE S.O L,.abs (aI 9 1 (some ⟨b1,0,none⟩) ps.length ps.length (kx ps)),.abs R]) (0,d) [0,1,2,3] (⟨L4 _,hd,by rw [List.drop_zero]⟩) ?_))))))
 rintro⟨j,e⟩ ⟨hj,dP,hw⟩
 have hke:(ah S.O e).kind=2:=hI.kind dP
 refine SR (jK 1 [39] [] (NN (av.seq (cP ((((j:Nat):Int):Int)<((((ps.length-1):Nat):Int):Int)) (λlY=>?_) (λlY=>?_)))))
 ·have vS:(pc ps j).size<=1048576:=Xn j d5
  have hee:(ah S.O e).aq.length<=8192:=hI.mw dP
  refine av.skip (NX (av.seq (av.block (SR (jK 3 [14] [(0,p_ ⟨[],some j,none,none,some (.pointer (some ⟨b1,j,none⟩))⟩ [(Value.pointer (some ⟨b1,0+j*1,none⟩))=(.pointer (some ⟨b1,j,none⟩)),((j:Nat):Int)=((j:Nat):Int),j<(ps.length-1),(⟨b1,0,none⟩:Addr).spot=none] ⟨nh,rfl,d5,rfl,trivial⟩),(1,p_ ⟨[.view 2 (.string (pc ps j))],none,none,none,none⟩ [(∀F w,(aI 9 1 (some ⟨b1,0,none⟩) ps.length ps.length (kx ps)).h F w->w.cell? ⟨b1,j,none⟩=some (.string (pc ps j)))] ⟨aI.cell (Ak d5),trivial⟩)] (NN (av.seq ?_)))))))
  rcases hI.vL dP (pc ps j) with fC|⟨tk,fC,cY⟩|⟨tk,fC,cY⟩|⟨tk,fC,cY⟩
  ·exact av.region (jK 5 [45,46] [(3,v_ 0 (eE L hke))] (mW 1 hke fC (NN (av.block (SR (jK 1 [48] [] (NN (CT (SR (jK 1 [] [] (NS (jK 3 [6,7,8] [] (NN (av.ret (aF.fM (aF.fM (aF.br (aF.br (aF.fM (aF.br (RT _ [0,1,3] (⟨zc (Iz L) (aiL (show mV S.O d path=.error 170 from (show mV S.O d path=pV S.O d ps by unfold mV;rw [←ay];exact t8 j3).trans (hw.trans ((BJ d5).trans (by rw [fC]<;>rfl))))),rfl⟩))))))))))))))))))))))
  ·have cA:(ah S.O tk).kind=1:=hI.kind cY
   exact av.region (jK 5 [45,46] [(3,v_ 0 (eE L hke))] (mW 1 hke fC (NN (av.block (SR (jK 1 [48] [] (NN (CF (SR (jK 3 [50,51] [] (NN (CF (SR (jK 3 [53,54] [] (NN (CT (SR (jK 1 [] [] (NS (jK 3 [6,7,8] [] (eN ⟨zc (Iz L) (aiL (show mV S.O d path=.error 173 from (show mV S.O d path=pV S.O d ps by unfold mV;rw [←ay];exact t8 j3).trans (hw.trans ((BJ d5).trans (by rw [fC]<;>rfl))))),rfl⟩ [0,1,3])))))))))))))))))))))
  ·have cA:(ah S.O tk).kind=2:=hI.kind cY
   exact av.region (jK 5 [45,46] [(3,v_ 0 (eE L hke))] (mW 1 hke fC (NN (av.block (SR (jK 1 [48] [] (NF (SR (jK 3 [50,51] [] (NF (SR (jK 3 [53,54] [] (NF (SR (jK 3 [56,57] [] (NT (SR (jK 1 [18] [] (NN (av.region (jK 2 [1] [] (LX (av.region (jK 2 [38] [(0,wJ ((j:Int)+1) (↑(j+1)))] (NL (tJ ((j+1),tk) [0,1,2,3] (⟨d5,cY,hw.trans ((BJ d5).trans (by rw [fC]<;>rfl))⟩)))))))))))))))))))))))))))
  have cA:(ah S.O tk).kind=3:=hI.kind cY
  exact av.region (jK 5 [45,46] [(3,v_ 0 (eE L hke))] (mW 1 hke fC (NN (av.block (SR (jK 1 [48] [] (NF (SR (jK 3 [50,51] [] (NT (SR (jK 1 [] [] (NS (jK 3 [6,7,8] [] (eN ⟨zc (Iz L) (aiL (show mV S.O d path=.error 174 from (show mV S.O d path=pV S.O d ps by unfold mV;rw [←ay];exact t8 j3).trans (hw.trans ((BJ d5).trans (by rw [fC]<;>rfl))))),rfl⟩ [0,1,3])))))))))))))))
 have ej:j=ps.length-1:=d5
 exact XX (SQ (jK 5 [64] [(4,v_ 0 (yt L hke))] (NN (av.cond (b:=(ah S.O e).aJ) (λ_=>d6) (λXo=>zR ⟨zc (Iz L) (aiL ((show mV S.O d path=pV S.O d ps by unfold mV;rw [←ay];exact t8 j3).trans (hw.trans ((Mr d5).trans (t8 Xo))))),rfl⟩ [0,1,3]) (λXo=>KX (av.seq (rQ (jQ 8 [6,7,8] [(3,p_ ⟨[],some (ps.length-1),none,none,some (.pointer (some ⟨b1,(ps.length-1),none⟩))⟩ [(Value.pointer (some ⟨b1,0+(ps.length-1)*1,none⟩))=(.pointer (some ⟨b1,(ps.length-1),none⟩)),(((ps.length-1):Nat):Int)=(((ps.length-1):Nat):Int),(ps.length-1)<ps.length,(⟨b1,0,none⟩:Addr).spot=none] ⟨nh,rfl,d5,rfl,trivial⟩),(4,p_ ⟨[.view 2 (.string (pc ps (ps.length-1)))],none,none,none,none⟩ [(∀F w,(aI 9 1 (some ⟨b1,0,none⟩) ps.length ps.length (kx ps)).h F w->w.cell? ⟨b1,(ps.length-1),none⟩=some (.string (pc ps (ps.length-1))))] ⟨aI.cell (Ak d5),trivial⟩)] (NQ (NX (av.ret (RT (.tuple #[vP (L.b e),.string (pc ps (ps.length-1)),vI 0]) [0,1,3] (⟨by rw [←ej];exact zc (Iz L) (aiL (show mV S.O d path=.ok (e,pc ps j) from (show mV S.O d path=pV S.O d ps by unfold mV;rw [←ay];exact t8 j3).trans (hw.trans ((Mr d5).trans (nw (by rw [Xo];exact Bool.false_ne_true)))))),rfl⟩)))))))))))))
theorem adi {β:Bs} (S:aZ) (L:HL) (f m t:Nat) (hI:bB S) (af:Int) (hrw:(Lit.int .i64 af).wf=true) (a:cI) (Xn:a.path.size<=1048576) (htz:a.to.size<=1048576) (hxz:a.text.size<=1048576) (hg:iO β) :
 aU Tryz.prog β 245 #[vP f,vI (af),.agg #[vI (a.at_),vI (a.op),.string a.path,.string a.to,.string a.text]] [.aD f [vI (S.X.cN),vI (S.X.cB),vI (S.X.cH),vI (S.X.cS),vI (S.X.cZ),.map (some m),vP t,vI (S.X.last),vI (S.X.aq),vI (S.X.used)] 173,.abs (bM Tryz.prog 3 m (dw (dQ L S.ax)) S.ax.length),.abs (iP 233 t S.X.cH S.aL (dQ L S.us)),.abs (bp (fV S.O L)),.abs (bp (eY S.O L)),.abs (bp (iE S.O L))] (λv l=>∃L2,v=vI (cK S af a).1/\l=[.aD f [vI ((cK S af a).2.X.cN),vI ((cK S af a).2.X.cB),vI ((cK S af a).2.X.cH),vI ((cK S af a).2.X.cS),vI ((cK S af a).2.X.cZ),.map (some m),vP t,vI ((cK S af a).2.X.last),vI ((cK S af a).2.X.aq),vI ((cK S af a).2.X.used)] 173,.abs (bM Tryz.prog 3 m (dw (dQ L2 (cK S af a).2.ax)) ((cK S af a).2.ax.length)),.abs (iP 233 t (cK S af a).2.X.cH ((cK S af a).2.aL) (dQ L2 ((cK S af a).2.us))),.abs (bp (fV ((cK S af a).2.O) L2)),.abs (bp (eY ((cK S af a).2.O) L2)),.abs (bp (iE ((cK S af a).2.O) L2))]):=by
 have hX:=hI.hX
 refine SE Tryz.func245 Tryz.ntmps245 (λR=>SR (jB 2 [5] (λb1=>.aD b1 [vI (a.at_),vI (a.op),.string a.path,.string a.to,.string a.text] 133) (λb1=>NZ (jK 4 [25] [(1,a_ 7 b1)] (sP 25 ((a.op:Int)<(1:Int)) (λqJ=>jK 4 [29] [] (NT (zR ⟨L,by rw [show (cK S af a)=(230,S) by unfold cK;exact t8 d5]<;>exact⟨rfl,rfl⟩⟩))) (λqJ=>jK 4 [29] [(1,a_ 7 b1)] (NN (cP ((a.op:Int)>(7:Int)) (λCX=>zR ⟨L,by rw [show (cK S af a)=(230,S) by unfold cK;exact t8 d5]<;>exact⟨rfl,rfl⟩⟩) (λCX=>KX (av.seq ?_))))))))))
 rcases hI.aek af with fT|⟨tk,fT,cY⟩|⟨tk,fT,cY⟩|⟨tk,fT,cY⟩
 ·exact av.region (jK 5 [33,34] [(3,a_ 0 f)] (aB.jo 1 (d:=(some 35)) (t:=170) (K:=3) (E:=175) (b:=m) (n:=S.ax.length) (f:=(dw (dQ L S.ax))) (x:=(.tmp 33)) (ix:=(.tmp 34)) (key:=vI (af)) (z:=.nilIface) (kl:=(.int .i64 af)) (r:=none) (λ_=>d6) d6 (λ_=>d6) (λ_=>d6) jf Tryz.underlying170 (λ_=>d6) (mr hrw) (by rw [kB,fT];rfl) (jK 1 [7] [] (NZ (jK 2 [37] [] (NT (zR ⟨L,by rw [show (cK S af a)=(141,S) by unfold cK;rw [nw d5,fT]]<;>exact⟨rfl,rfl⟩⟩)))))))
 ·have cA:(ah S.O tk).kind=1:=hI.kind cY
  exact av.region (jK 5 [33,34] [(3,a_ 0 f)] (aB.jo 1 (d:=(some 35)) (t:=170) (K:=3) (E:=175) (b:=m) (n:=S.ax.length) (f:=(dw (dQ L S.ax))) (x:=(.tmp 33)) (ix:=(.tmp 34)) (key:=vI (af)) (z:=.nilIface) (kl:=(.int .i64 af)) (r:=(some (jl L ⟨tk,1⟩))) (λ_=>d6) d6 (λ_=>d6) (λ_=>d6) jf Tryz.underlying170 (λ_=>d6) (mr hrw) (by rw [kB,fT];rfl) (jK 1 [7] [] (NZ (jK 2 [37] [] (NF (KX (SR (jK 7 [8,9] [] (NZ (jK 2 [44] [] (NT (zR ⟨L,by rw [show (cK S af a)=(173,S) by unfold cK;rw [nw d5,fT];simp only;exact nw nh]<;>exact⟨rfl,rfl⟩⟩)))))))))))))
 ·have cA:(ah S.O tk).kind=2:=hI.kind cY
  refine av.region (jK 5 [33,34] [(3,a_ 0 f)] (aB.jo 1 (d:=(some 35)) (t:=170) (K:=3) (E:=175) (b:=m) (n:=S.ax.length) (f:=(dw (dQ L S.ax))) (x:=(.tmp 33)) (ix:=(.tmp 34)) (key:=vI (af)) (z:=.nilIface) (kl:=(.int .i64 af)) (r:=(some (jl L ⟨tk,2⟩))) (λ_=>d6) d6 (λ_=>d6) (λ_=>d6) jf Tryz.underlying170 (λ_=>d6) (mr hrw) (by rw [kB,fT];rfl) (jK 1 [7] [] (NZ (jK 2 [37] [] (NF (KX (SR (jK 7 [8,9] [] (NZ (jK 2 [44] [] (NF (KX (SR (jK 4 [46,47,49] [(3,a_ 7 b1)] ?_)))))))))))))))
  rcases yw hI cY a.path with ⟨e,pu,cF⟩|⟨d,name,pu,hd,nB,hgn⟩
  ·exact gE [3,5] ((by have h:=Gr (β:=β) S L f hI tk cY a.path Xn hg;rw [pu] at h;exact h)) (jK 7 [10,11,12] [] (NZ (jK 2 [55] [] (NN (cN ((e:Int)=(0:Int)) (λh55=>zR ⟨L,by rw [show (cK S af a)=(e,S) by unfold cK;rw [nw d5,fT];simp only;rw [t8 trivial,pu]]<;>exact⟨rfl,rfl⟩⟩ [2,3,4,0,5,1,6]) (λh55=>KB h55 cF))))))
  have eM:(ah S.O d).kind=2:=hI.kind hd
  have eV:name.size<=1048576:=Mq hgn
  refine gE [3,5] ((by have h:=Gr (β:=β) S L f hI tk cY a.path Xn hg;rw [pu] at h;exact h)) (jK 7 [10,11,12] [] (NZ (jK 2 [55] [] (NF (KX (SQ (jK 2 [58] [(1,a_ 7 b1)] (NN (av.block (SR (jK 2 [59] [] (NN (cP ((a.op:Int)=(1:Int)) (λxV=>?_) (λxV=>?_))))))))))))))
  ·refine SQ (jK 3 [61,62,63] [] (gE [2,3,1,0] (E7 S L f m t hI d hd name eV) (jK 1 [12] [] (NS (jK 2 [66] [] (NN (cN (((iB S.X S.O S.ax d name):Int)=(0:Int)) (λh0=>zR ⟨L,by rw [show (cK S af a)=(iB S.X S.O S.ax d name,S) by unfold cK;rw [nw d5,fT];simp only;rw [t8 trivial,pu];simp only;unfold nJ;rw [t8 d5];unfold qQ;exact nw h0]<;>exact⟨rfl,rfl⟩⟩ [0,1,4,3,5,2,6]) (λh0=>?_))))))))
   have jD:=x7 h0
   refine KX (SR (jK 1 [68] [] (gE [0] (E0 S.X f m t hX 420) (jB 2 [71] (λb2=>.aD b2 [vI (S.X.last+1),vI (420),vI 0,vI 0,vI (S.X.cS),vI (S.X.cZ),vI 0,vI 0,.bool false,.slice none (0) (0)] 186) (λb2=>?_)))))
   obtain⟨L2,jE⟩:∃L2:HL,L2=L.put (dx S.X) b2 0 none 0:=⟨_,rfl⟩
   have hfr:=hI.toInv0.fresh
   refine aB.mem (λw hS=>hS.Ge jE hfr (o:=(dN S.X 1 420)) (i:=3) (j:=8) (ix:=[0,1,2,4,5,6,7]) rfl rfl d6 rfl (by show (1:Int)≠0;decide) ((xX (L:=L2) (k:=(dx S.X)) (o:=(dN S.X 1 420)) rfl).trans (by rw [show L2.dA (dx S.X)=none by rw [jE];exact t8 rfl,show L2.dC (dx S.X)=0 by rw [jE];exact t8 rfl];rfl)) rfl) (aB.jq [(3,pE (bD S.O (dx S.X) (λ_=>(dN S.X 1 420))) L2)] (λw hS=>hS.Jx jE hfr (o:=(dN S.X 1 420)) (i:=3) rfl (by show (1:Int)≠2;decide)) (aB.mem (λw hS=>hS.nN (e:=5) (size:=1)) (aB.mem (λw hS=>hS.agb jE (o:=(dN S.X 1 420)) (i:=5) (j:=8) (ix:=[0,1,2,3,4,6,7]) rfl rfl d6 rfl rfl rfl) (aB.jq [(3,.abs (bM Tryz.prog 3 m (dw (dQ L2 S.ax)) S.ax.length)),(5,.abs (iP 233 t S.X.cH S.aL (dQ L2 S.us)))] (λw hS=>by rw [pY jE hfr.ax,pY jE hfr.us];exact hS) (jK 1 [13] [] (NS (jK 5 [72,73,74,76] [] (gE [2,3,1,4] ((by have h:=DI (β:=β) S L2 f m t hI.toInv0 d hd name eV jD (dN S.X 1 420) rfl (by simp [dN]) rfl (Cq h0);rw [Gd jE (hI.EQ hd),zf jE] at h;exact h)) (NS (aB.jq [(4,.abs (bp (eY ((iw S d name (dN S.X 1 420)).O) L2)))] (λw hS=>by rw [show eY ((iw S d name (dN S.X 1 420)).O) L2=eY (bD S.O (dx S.X) (λ_=>(dN S.X 1 420))) L2 from oW];exact hS) ?_))))))))))
   have vX:bB (iw S d name (dN S.X 1 420)):=hI.Gn hd nB hgn h0 (.inl rfl) ⟨d8,d8⟩ (.inl ⟨d8,rfl⟩)
   have Wj:aS (iw S d name (dN S.X 1 420)).ax ⟨(dx S.X),1⟩:=O7 hI (o:=(dN S.X 1 420))
   exact jK 4 [78,79,81] [(3,a_ 7 b1)] (aB.DL (d:=(some 82)) (t1:=9) (t2:=61) (e:=5) (x:=(.tmp 81)) (s:=a.text) (λ_=>d6) (λ_=>d6) Tryz.underlying9 Tryz.underlying61 Tryz.underlying5 (λb3 c4 ahd=>gX [8,0,1,5,2,4,3] ((by have h:=JO (β:=β) (iw S d name (dN S.X 1 420)) L2 f m t vX (dx S.X) Wj (some ⟨b3,0,none⟩) c4 a.text.data.toList (by rw [Array.length_toList];have:a.text.data.size=a.text.size:=rfl;omega) ahd;rw [OU jE] at h;exact h)) (λL3=>NS (jK 1 [6] [] (eN ⟨L3,by rw [show (cK S af a)=(0,(iC (iw S d name (dN S.X 1 420)) (dx S.X) a.text.data.toList).2.2) by unfold cK;rw [nw d5,fT];simp only;rw [t8 trivial,pu];simp only;unfold nJ;rw [t8 d5];unfold qQ;exact t8 h0]<;>exact⟨rfl,rfl⟩⟩)))))
  refine SR (jK 2 [84] [] (NN (cP ((a.op:Int)=(2:Int)) (λh84=>SR (jK 3 [86,87,88] [] (gX [2,3,4,0,5,1] (Mp S L f m t hI d hd name eV 493) (λL2=>jK 1 [6] [] (eN ⟨L2,by rw [show (cK S af a)=((lP S d name 493).1,(lP S d name 493).2) by unfold cK;rw [nw d5,fT];simp only;rw [t8 trivial,pu];simp only;unfold nJ;rw [nw d5];exact t8 d5]<;>exact⟨rfl,rfl⟩⟩))))) (λh84=>SR (jK 2 [90] [] (NN (cP ((a.op:Int)=(3:Int)) (λwv=>SR (jK 5 [92,93,94,96] [(4,a_ 7 b1)] (gX [2,3,4,0,5,1] (Ru S L f m t hI d hd name eV a.text hxz) (λL2=>jK 1 [6] [] (eN ⟨L2,by rw [show (cK S af a)=((j4 S d name a.text).1,(j4 S d name a.text).2) by unfold cK;rw [nw d5,fT];simp only;rw [t8 trivial,pu];simp only;unfold nJ;rw [nw d5];rw [nw d5];exact t8 d5]<;>exact⟨rfl,rfl⟩⟩))))) (λwv=>SR (jK 2 [98] [] (NN (cP ((a.op:Int)=(4:Int)) (λXp=>SR (jK 3 [100,101,102] [] (gX [2,3,4,0,5,1] (UR S L f m t hI d hd name eV) (λL2=>jK 1 [6] [] (eN ⟨L2,by rw [show (cK S af a)=((iW S d name).1,(iW S d name).2) by unfold cK;rw [nw d5,fT];simp only;rw [t8 trivial,pu];simp only;unfold nJ;rw [nw d5];rw [nw d5];rw [nw d5];exact t8 d5]<;>exact⟨rfl,rfl⟩⟩))))) (λXp=>SR (jK 2 [104] [] (NN (cP ((a.op:Int)=(5:Int)) (λahe=>SR (jK 3 [106,107,108] [] (gX [2,3,4,0,5,1] (W4 S L f m t hI d hd name eV) (λL2=>jK 1 [6] [] (eN ⟨L2,by rw [show (cK S af a)=((jt S d name).1,(jt S d name).2) by unfold cK;rw [nw d5,fT];simp only;rw [t8 trivial,pu];simp only;unfold nJ;rw [nw d5];rw [nw d5];rw [nw d5];rw [nw d5];exact t8 d5]<;>exact⟨rfl,rfl⟩⟩))))) (λahe=>SR (jK 2 [110] [] (NN (cP ((a.op:Int)=(6:Int)) (λahf=>?_) (λahf=>?_))))))))))))))))))))
  ·refine SR (jK 4 [113,114,116] [(3,a_ 7 b1)] ?_)
   rcases yw hI cY a.to with ⟨e2,JY,ahg⟩|⟨to,aG,JY,hd2,aie,ahh⟩
   ·exact gE [0,1] ((by have h:=Gr (β:=β) S L f hI tk cY a.to htz hg;rw [JY] at h;exact h)) (jK 7 [14,15,16] [] (NZ (jK 2 [122] [] (NN (cN ((e2:Int)=(0:Int)) (λTY=>zR ⟨L,by rw [show (cK S af a)=(e2,S) by unfold cK;rw [nw d5,fT];simp only;rw [t8 trivial,pu];simp only;unfold nJ;rw [nw d5];rw [nw d5];rw [nw d5];rw [nw d5];rw [nw d5];rw [t8 d5];rw [JY]]<;>exact⟨rfl,rfl⟩⟩ [2,3,4,0,5,1,6]) (λTY=>KB TY ahg))))))
   have oH:(ah S.O to).kind=2:=hI.kind hd2
   have vS:aG.size<=1048576:=Mq ahh
   exact gE [0,1] ((by have h:=Gr (β:=β) S L f hI tk cY a.to htz hg;rw [JY] at h;exact h)) (jK 7 [14,15,16] [] (NZ (jK 2 [122] [] (NF (KX (SR (jK 5 [124,125,126,127,128] [] (gX [2,3,4,0,5,1] (UU S L f m t hI d hd name eV to hd2 aG vS) (λL2=>jK 1 [6] [] (eN ⟨L2,by rw [show (cK S af a)=((dG S d name to aG).1,(dG S d name to aG).2) by unfold cK;rw [nw d5,fT];simp only;rw [t8 trivial,pu];simp only;unfold nJ;rw [nw d5];rw [nw d5];rw [nw d5];rw [nw d5];rw [nw d5];rw [t8 d5];rw [JY]]<;>exact⟨rfl,rfl⟩⟩))))))))))
  refine KX (av.seq (av.seq ?_))
  have hel:(ah S.O d).aq.length<=8192:=hI.mw hd
  have ahF:=eV
  rcases hI.vL hd name with gu|⟨ok,gu,l6⟩|⟨ok,gu,l6⟩|⟨ok,gu,l6⟩
  ·exact av.region (jK 5 [133,134] [(3,v_ 0 (eE L eM))] (mW 1 eM gu (NN (av.block (SR (jK 3 [137,138] [] (NF (SR (jK 3 [140,141] [] (NF (SR (jK 3 [143,144] [] (NF (KX (zR ⟨L,by rw [show (cK S af a)=(170,S) by unfold cK;rw [nw d5,fT];simp only;rw [t8 trivial,pu];simp only;unfold nJ;rw [nw d5];rw [nw d5];rw [nw d5];rw [nw d5];rw [nw d5];rw [nw d5];unfold oG;rw [gu]]<;>exact⟨rfl,rfl⟩⟩ [2,3,4,0,5,1,6])))))))))))))))
  ·have vT:(ah S.O ok).kind=1:=hI.kind l6
   exact av.region (jK 5 [133,134] [(3,v_ 0 (eE L eM))] (mW 1 eM gu (NN (av.block (SR (jK 3 [137,138] [] (NF (SR (jK 3 [140,141] [] (NF (SR (jK 3 [143,144] [] (NT (SR (jK 1 [19] [] (NS (jK 4 [146,147,149] [(3,a_ 7 b1)] (aB.DL (d:=(some 150)) (t1:=9) (t2:=61) (e:=5) (x:=(.tmp 149)) (s:=a.text) (λ_=>d6) (λ_=>d6) Tryz.underlying9 Tryz.underlying61 Tryz.underlying5 (λb6 c7 ahi=>gX [8,2,3,4,0,5,1] (JO (β:=β) S L f m t hI ok l6 (some ⟨b6,0,none⟩) c7 a.text.data.toList (by rw [Array.length_toList];have:a.text.data.size=a.text.size:=rfl;omega) ahi) (λL3=>jK 5 [21] [] (NS (jK 2 [6] [] (eN ⟨L3,by rw [show (cK S af a)=((iC S ok a.text.data.toList).2.1,(iC S ok a.text.data.toList).2.2) by unfold cK;rw [nw d5,fT];simp only;rw [t8 trivial,pu];simp only;unfold nJ;rw [nw d5];rw [nw d5];rw [nw d5];rw [nw d5];rw [nw d5];rw [nw d5];unfold oG;rw [gu];exact (nw nh).trans (nw nh)]<;>exact⟨rfl,rfl⟩⟩)))))))))))))))))))))))
  ·have vT:(ah S.O ok).kind=2:=hI.kind l6
   exact av.region (jK 5 [133,134] [(3,v_ 0 (eE L eM))] (mW 1 eM gu (NN (av.block (SR (jK 3 [137,138] [] (NF (SR (jK 3 [140,141] [] (NT (SR (jK 1 [] [] (NS (jK 1 [6] [] (eN ⟨L,by rw [show (cK S af a)=(172,S) by unfold cK;rw [nw d5,fT];simp only;rw [t8 trivial,pu];simp only;unfold nJ;rw [nw d5];rw [nw d5];rw [nw d5];rw [nw d5];rw [nw d5];rw [nw d5];unfold oG;rw [gu];exact (nw nh).trans (t8 rfl)]<;>exact⟨rfl,rfl⟩⟩ [2,3,4,0,5,1,6])))))))))))))))
  have vT:(ah S.O ok).kind=3:=hI.kind l6
  exact av.region (jK 5 [133,134] [(3,v_ 0 (eE L eM))] (mW 1 eM gu (NN (av.block (SR (jK 3 [137,138] [] (NT (SR (jK 1 [] [] (NS (jK 1 [6] [] (eN ⟨L,by rw [show (cK S af a)=(174,S) by unfold cK;rw [nw d5,fT];simp only;rw [t8 trivial,pu];simp only;unfold nJ;rw [nw d5];rw [nw d5];rw [nw d5];rw [nw d5];rw [nw d5];rw [nw d5];unfold oG;rw [gu];exact t8 rfl]<;>exact⟨rfl,rfl⟩⟩ [2,3,4,0,5,1,6]))))))))))))
 have cA:(ah S.O tk).kind=3:=hI.kind cY
 exact av.region (jK 5 [33,34] [(3,a_ 0 f)] (aB.jo 1 (d:=(some 35)) (t:=170) (K:=3) (E:=175) (b:=m) (n:=S.ax.length) (f:=(dw (dQ L S.ax))) (x:=(.tmp 33)) (ix:=(.tmp 34)) (key:=vI (af)) (z:=.nilIface) (kl:=(.int .i64 af)) (r:=(some (jl L ⟨tk,3⟩))) (λ_=>d6) d6 (λ_=>d6) (λ_=>d6) jf Tryz.underlying170 (λ_=>d6) (mr hrw) (by rw [kB,fT];rfl) (jK 1 [7] [] (NZ (jK 2 [37] [] (NF (KX (SR (jK 7 [8,9] [] (NZ (jK 2 [44] [] (NT (zR ⟨L,by rw [show (cK S af a)=(173,S) by unfold cK;rw [nw d5,fT];simp only;exact nw nh]<;>exact⟨rfl,rfl⟩⟩)))))))))))))
end
section
open Go.RowKit Go.Maps bw aH
attribute [local irreducible] aB bJ av aF cC
theorem aeM {β:Bs} (S:aZ) (L:HL) (o q f m t am an km kn n:Nat) (Z:AZ) (fs:List ck) (xs:List cI) (af:Int) (hrw:(Lit.int .i64 af).wf=true) (hI:bB S) (hn:n<=8388608) (k:Int) (hk:jb fs ((n+1:Nat):Int)=k) (hZ:kK β Z xs) (hX:fS xs 1048576) (hg:iO β) (c:aK) (hC:qP β c) :
 aU Tryz.prog β 244 #[vP o,.agg ⟨aW c⟩] ([.aD o [.iface 138 (vP q),vP f,vI (af),.map (some am),vI (((n:Nat):Int))] 142,.aD q [.iface 56 (vP f),.map (some km),vI (((n:Nat):Int))] 140,.abs (bM Tryz.prog 3 am (kG Z xs) an)]++zA4 km fs kn f m t S L) (λv l=>∃L2,v=.agg ⟨aW (dY k (jh af S (dm xs ((n+1:Nat):Int))) c).2⟩/\l=[.aD o [.iface 138 (vP q),vP f,vI (af),.map (some am),vI ((((n+1):Nat):Int))] 142,.aD q [.iface 56 (vP f),.map (some km),vI ((((n+1):Nat):Int))] 140,.abs (bM Tryz.prog 3 am (kG Z xs) an),.abs (bM Tryz.prog 3 km (iD fs) kn),pF f m t ((dY k (jh af S (dm xs ((n+1:Nat):Int))) c).1.X),.abs (bM Tryz.prog 3 m (dw (dQ L2 (dY k (jh af S (dm xs ((n+1:Nat):Int))) c).1.ax)) ((dY k (jh af S (dm xs ((n+1:Nat):Int))) c).1.ax.length)),pT t (dY k (jh af S (dm xs ((n+1:Nat):Int))) c).1.X.cH ((dY k (jh af S (dm xs ((n+1:Nat):Int))) c).1.aL) L2 ((dY k (jh af S (dm xs ((n+1:Nat):Int))) c).1.us),pO ((dY k (jh af S (dm xs ((n+1:Nat):Int))) c).1.O) L2,pD ((dY k (jh af S (dm xs ((n+1:Nat):Int))) c).1.O) L2,pE ((dY k (jh af S (dm xs ((n+1:Nat):Int))) c).1.O) L2]):=by
 obtain⟨ys,hys⟩:∃ys,dm xs ((n+1:Nat):Int)=ys:=⟨_,rfl⟩
 obtain⟨Ec,has⟩:∃a,aA Z xs ((n+1:Nat):Int)=a:=⟨_,rfl⟩
 obtain⟨ac_,hac⟩:∃a,aC Z xs ((n+1:Nat):Int)=a:=⟨_,rfl⟩
 have hrow:=hZ ((n+1:Nat):Int)
 rw [hys,has] at hrow
 have hyb:∀{i},i<ys.length->EV (act ys i) 1048576:=λ{i} h=>hX.q _ (Uu (x:=((n+1:Nat):Int)) (by rw [hys];exact aiF (zh h)))
 have tG:ys.length<=1048576:=by rw [←hys];exact Pe (JG _) hX.len
 rw [show dm xs ((n+1:Nat):Int)=ys from hys]
 obtain⟨SA,hSA⟩:∃SA,jh af S ys=SA:=⟨_,rfl⟩
 rw [hSA]
 refine SE Tryz.func244 Tryz.ntmps244 (λR=>SR (jB 1 [3] (λb1=>.aD b1 (aW c) 63) (λb1=>jB 1 [4] (λb2=>.aD b2 [vI 0,vI 0,vI 0,.string ⟨#[]⟩,.string ⟨#[]⟩,.slice none (0) (0),vI 0,vI 0,vI 0,vI 0,vI 0,vI 0,vI 0] 63) (λb2=>NS (jC 8 [] [(3,a_ 0 o),(4,wJ ((n:Int)+1) (↑(n+1))),(7,a_ 0 o)] [(0,[(4,vI ↑(n+1))])] (NN (av.seq (av.seq (rQ (jQ 8 [17,21] [(3,a_ 0 o),(7,a_ 0 o)] (bJ.jo 2 (d:=(some 22)) (t:=131) (K:=3) (E:=30) (b:=am) (n:=an) (f:=(kG Z xs)) (x:=(.tmp 17)) (ix:=(.tmp 21)) (key:=vI ↑(n+1)) (z:=.slice none (0) (0)) (kl:=(.int .i64 ((n+1:Nat):Int))) (r:=(kG Z xs (.int .i64 ((n+1:Nat):Int)))) (λ_=>d6) d6 (λ_=>d6) (λ_=>d6) jf Tryz.underlying131 (λ_=>d6) (mr (WS d5)) (rfl) (bJ.slot 22 (((kG Z xs (.int .i64 ((n+1:Nat):Int))).getD (.slice none 0 0))) (.slice Ec (ys.length) (ac_)) (λ_=>d6) (Ix.trans (by rw [hys,has,hac])) (jQ 2 [23,24] [] (NQ (NX (av.block (lJ (ι:=Nat×aZ×HL) (λ(i,S1,L1)=>(i<=ys.length)/\(S1=jh af S (ys.take i))/\(bB S1)) (λ(i,S1,L1)=>ys.length-i) (λ(i,S1,L1)=>[(0,vP o),(3,vP b1),(4,vP b2),(22,.slice Ec (ys.length) (ac_)),(23,vI ↑ys.length),(24,vI ↑i)]) (λ(i,S1,L1)=>[.aD o [.iface 138 (vP q),vP f,vI (af),.map (some am),vI ↑(n+1)] 142,.aD q [.iface 56 (vP f),.map (some km),vI ↑n] 140,.abs (bM Tryz.prog 3 am (kG Z xs) an),.abs (bM Tryz.prog 3 km (iD fs) kn),pC b1 c,zA1 b2,pF f m t S1.X,pI m L1 S1.ax,pT t S1.X.cH S1.aL L1 S1.us,pO S1.O L1,pD S1.O L1,pE S1.O L1,.abs R]) (0,S,L) [0,1,2,3,11,12,4,5,6,7,8,9,10] (⟨L4 _,rfl,hI⟩) ?_)))))))))))))))))
 rintro⟨i,S1,L1⟩ ⟨hi,hs1,dz⟩
 refine SR (jK 1 [25] [] (NN (av.seq (cP ((((i:Nat):Int):Int)<(((ys.length:Nat):Int):Int)) (λqJ=>KX (av.seq (av.block (SR (jN 4 [6] (λb3=>[(0,x_ i ys.length (Nw hrow (i:=i) d5)),(1,p_ ⟨[.old (.int .i64 ((act ys i).at_)),.old (.int .i64 ((act ys i).op)),.old (.string (act ys i).path),.old (.string (act ys i).to),.old (.string (act ys i).text)],none,none,none,none⟩ [(Rd β ⟨(bG Ec),bE Ec+i*5+4,none⟩ (.string (act ys i).text)),(Rd β ⟨(bG Ec),bE Ec+i*5+3,none⟩ (.string (act ys i).to)),(Rd β ⟨(bG Ec),bE Ec+i*5+2,none⟩ (.string (act ys i).path)),(Rd β ⟨(bG Ec),bE Ec+i*5+1,none⟩ (vI ((act ys i).op))),(Rd β ⟨(bG Ec),bE Ec+i*5,none⟩ (vI ((act ys i).at_)))] ⟨qF hrow (i:=i) d5 (j:=4) rfl,qF hrow (i:=i) d5 (j:=3) rfl,qF hrow (i:=i) d5 (j:=2) rfl,qF hrow (i:=i) d5 (j:=1) rfl,qF hrow (i:=i) d5 (j:=0) rfl,trivial⟩),(3,A_ 13 b3 5)]) (λ_=>[]) (λb3=>.aD b3 [vI ((act ys i).at_),vI ((act ys i).op),.string (act ys i).path,.string (act ys i).to,.string (act ys i).text] 133) (λb3=>NN (rM (List.range 10) 9 [0,13] (jR 9 [0,3,4,22,23,24,31,35,36] [(3,a_ 0 o),(7,a_ 0 o),(8,A_ 1 b3 5)] (cC.last rfl rfl (gX [6,7,8,9,10,11] (adi S1 L1 f m t dz af hrw (act ys i) (hyb d5).path (hyb d5).to (hyb d5).text hg) (λL2=>NL (aF.np (BX (av.region (jK 2 [24] [(0,wJ ((i:Int)+1) (↑(i+1)))] (NL (tJ ((i+1),(cK S1 af (act ys i)).2,L2) [6,7,8,9,10,11,0,1,2,3,4,5,12] (⟨d5,by rw [hs1];exact (Uv d5).symm,dz.cK⟩)))))))))))))))))) (λqJ=>XX (av.seq (rM (List.range 7) 5 [0,4] (jR 5 [4,42,43] [(3,a_ 0 o),(4,A_ 1 b1 13)] (mL [8,10] [1,3,6,7,8,9,10,11] (aeL S1 L1 q f m t km kn n fs dz hn k hk c hC) ?_ (by rintro _ _ ⟨L2,rfl,rfl⟩;rfl))))))))))
 rintro _ _ ⟨L2,rfl,rfl⟩
 refine cC.last rfl rfl (jC 1 [] [(0,A_ 11 b2 13)] [(11,(zC (aW ((dY k S1 c).2))))] (NL (aF.np (NX (av.ret ?_)))))
 have hs2:S1=SA:=by rw [hs1,show i=ys.length by omega,aiu];exact hSA
 subst hs2
 exact rT (.agg ⟨aW ((dY k S1 c).2)⟩) [A_ 11 b2 13] [8,0,9,1,2,3,4,5,6,7,12] (⟨L2,rfl,rfl⟩)
end
section
open Go.RowKit Go.Maps bw aH
theorem MG {β:Bs} (A:Option Addr) (c:Nat) (d:List UInt8) (hA:bO β A d) (hl:d.length<=1048576):bK Tryz.prog β 48 #[.slice A d.length c] [] (λβ' v l=>∃B cap,v=.slice B d.length cap/\l=[]/\bO β' B d/\d.length<=cap):=
 (MF A c d hA hl).mono (by rintro β' v l _ ⟨B,cap,rfl,rfl,h1,h2⟩;exact⟨B,cap,rfl,rfl,h1.at_,h2⟩)
theorem adj {β:Bs} (S:aZ) (L:HL) (o q f m t am an km kn n:Nat) (Z:AZ) (fs:List ck) (xs:List cI) (af:Int) (hrw:(Lit.int .i64 af).wf=true) (hI:bB S) (hn:n<=8388608) (hZ:kK β Z xs) (hX:fS xs 1048576) (hg:iO β) (c:aK) (B:Option Addr) (p:Nat) {sG:Int} (ho:sG=if c.op=1 then af else c.other) (hC:qP β {fB B p c with other:=sG}) {S2:aZ} {c2:aK} (hW:bq fs xs af (n+1) S c=(S2,c2)) :
 aU Tryz.prog β 244 #[vP o,.agg ⟨aW {fB B p c with other:=sG}⟩] ([oB o q f af am n,qB q f km n,aM am an Z xs,kM km kn fs]++pA f m t L S) (λv l=>∃L2,v=.agg ⟨aW (fB B p c2)⟩/\l=[oB o q f af am (n+1),qB q f km (n+1),aM am an Z xs,kM km kn fs]++pA f m t L2 S2):=by
 have e:({fB B p c with other:=sG}:aK)=fB B p (cr af c):=by rw [Ro ho];rfl
 rw [e] at hC ⊢
 have h:=aeM S L o q f m t am an km kn n Z fs xs af hrw hI hn _ rfl hZ hX hg (fB B p (cr af c)) hC
 rw [Mh] at h
 have hW:dY (jb fs ((n+1:Nat):Int)) (jh af S (dm xs ((n+1:Nat):Int))) (cr af c)=(S2,c2):=hW
 rw [hW] at h
 exact h
end
section
open Go.RowKit Go.Maps
def agu (l:List ByteArray):List Value:=l.map Value.string
def sAt (l:List ByteArray) (i:Nat):ByteArray:=l.getD i ⟨#[]⟩
def ahG (β:Bs) (A:Option Addr) (l:List ByteArray):Prop:=cq β A (agu l)
section strs
variable {β β':Bs} {A:Option Addr} {l:List ByteArray}
end strs
def Sorted (es:List fO):Prop:=∀i j,i<j->j<es.length->vA (en es i).name (en es j).name<0
def BR (es:List fO) (p:ByteArray):Option Nat:=es.findIdx? (λe=>decide (e.name=p))
theorem U4 {es:List fO} {p:ByteArray} (h:∀j,j<es.length->¬(en es j).name=p):BR es p=none:=by
 unfold BR
 rw [List.findIdx?_eq_none_iff]
 intro x hx
 obtain⟨j,hj,rfl⟩:=aiT hx
 grind [en]
section find
variable {ns:List aO} {k i:Nat} {ps:List ByteArray}
end find
end
section
open Go.RowKit
def je (es:List fO) (id:Int):Nat->Nat
 |0=>0
 |j+1=>je es id j+(if (en es j).id=id then 1 else 0)
def nP (ns:List aO) (id:Int):Nat->Nat
 |0=>0
 |i+1=>nP ns id i+je (nd ns i).aq id (nd ns i).aq.length
theorem MH (es:List fO) (id:Int) (j:Nat):je es id j<=j:=by
 induction j with
 |zero=>exact N6 _
 |succ j ih=>
   rw [je]
   split<;>omega
theorem JZ {es:List fO} {id:Int} {j:Nat} (h:(en es j).id=id):je es id j+1=je es id (j+1):=by rw [je,t8 h]
theorem G7 {es:List fO} {id:Int} {j:Nat} (h:¬(en es j).id=id):je es id j=je es id (j+1):=by rw [je,nw h];rfl
theorem U5 (ns:List aO) (id:Int) (i:Nat):nP ns id i<=dX ns i:=by
 induction i with
 |zero=>exact N6 _
 |succ i ih=>
   grind [nP,dX,MH,nd]
end
section
open Go.RowKit bw aH Go.Maps
theorem lT.get {β:Bs} {A:Option Addr} {l:List Int} (h:cq β A (bL l)) {j:Nat} (hj:j<l.length):A=some ⟨bG A,bE A,none⟩/\Rd β ⟨bG A,bE A+j*1,none⟩ (.int .i64 (l.getD j 0)):=by
 have:=h j _ (Xi hj)
 rw [Nat.mul_one];exact this
theorem lT.hd {β:Bs} {A:Option Addr} {l:List Int} (h:cq β A (bL l)) {j:Nat} (hj:j<l.length):A=some ⟨bG A,bE A,none⟩:=(lT.get h hj).1
theorem lT.rd {β:Bs} {A:Option Addr} {l:List Int} (h:cq β A (bL l)) {j:Nat} (hj:j<l.length):Rd β ⟨bG A,bE A+j*1,none⟩ (.int .i64 (l.getD j 0)):=(lT.get h hj).2
def ji (us:bC Int):List Int:=us.map (·.2)
theorem mF (us:bC Int):(ji us).length=us.length:=by simp [ji]
theorem kD {V:Type} (us:bC V):(aY us).length=us.length:=by simp [aY]
def tX:List Int->Int->Int
 |[],_=>-1
 |k::r,h=>if k=h then 0 else if tX r h<0 then -1 else tX r h+1
theorem PU {ks:List Int} {h:Int}:(∀j,j<ks.length->¬ks.getD j 0=h)->tX ks h = -1:=by
 induction ks with
 |nil=>intro _;rfl
 |cons k r ih=>
   intro hn
   have h0:¬k=h:=hn 0 nh
   have:=ih (λj hj=>by have:=hn (j+1) (by simpa using hj);simpa using this)
   rw [tX,nw h0,this];rfl
theorem Xq:∀{ks:List Int} {h:Int} {i:Nat},i<ks.length->ks.getD i 0=h->(∀j,j<i->¬ks.getD j 0=h)->tX ks h=i
 |k::r,h,0,_,e,_=>by
   have e:k=h:=e
   rw [tX,t8 e];rfl
 |k::r,h,i+1,hi,e,hn=>by
   have h0:¬k=h:=hn 0 d5
   have:=Xq (ks:=r) (h:=h) (i:=i) (by simpa using hi) (by simpa using e) (λj hj=>gn)
   rw [tX,nw h0,this,nw d5]
   omega
theorem SJ {ks:List Int} {h:Int} (hm:h∈ks):∃i:Nat,tX ks h=i/\i<ks.length/\ks.getD i 0=h:=by
 induction ks with
 |nil=>cases hm
 |cons k r ih=>
   by_cases e:k=h
   ·exact⟨0,by rw [tX,t8 e];rfl,nh,e⟩
   rcases T8.1 hm with e2|hm
   ·exact KB e2.symm e
   obtain⟨i,h1,h2,h3⟩:=ih hm
   exact⟨i+1,by grind [tX],by simpa using h2,by simpa using h3⟩
theorem SK {ks:List Int} {h:Int} (hm:h∉ks):tX ks h = -1:=PU (λ_ hj e=>hm (e ▸ BQ hj))
theorem SM {ks:List Int} {h:Int}:0<=tX ks h↔h∈ks:=by
 grind [SJ,SK]
theorem sR:∀(ks:List Int) (h:Int),kS h ks<=h+ks.length
 |[],h=>by simp [kS]
 |k::r,h=>by
   rw [kS]
   split
   ·have:=sR r (h+1);simp only [aix];omega
   simp only [aix];omega
theorem aax {V:Type} (us:bC V):aH.aR us<=1+us.length:=by
 have:=sR (aY us) 1
 rw [kD] at this
 exact this
theorem U6 {V:Type} {us:bC V} (hr:aH.dM (aY us)) (hp:∀x∈aY us,1<=x):1<=aH.aR us/\aH.aR us∉aY us/\∀x,1<=x->x<aH.aR us->x∈aY us:=qM (aY us) 1 hr hp
section ins
variable {h v:Int}
theorem PV:∀{l:bC Int},(∀p∈l,¬h<p.1)->ins h v l=l++[(h,v)]
 |[],_=>rfl
 |p::r,hn=>by
   rw [ins,nw (hn p (T5 ..)),PV (λq hq=>hn q (T4 _ hq))];rfl
theorem MI:∀{l:bC Int} {x:Int×Int},(∀p∈l,¬h<p.1)->h<x.1->ins h v (l++[x])=l++[(h,v),x]
 |[],x,_,hx=>by grind [ins]
 |p::r,x,hn,hx=>by
   rw [aiE,ins,nw (hn p (T5 ..)),MI (λq hq=>hn q (T4 _ hq)) hx];rfl
theorem PW:∀{l:bC Int} {x:Int×Int},(∃p∈l,h<p.1)->ins h v (l++[x])=ins h v l++[x]
 |[],_,hd=>by obtain⟨p,hp,_⟩:=hd;cases hp
 |p::r,x,hd=>by
   rw [aiE,ins,ins]
   split
   ·rfl
   rename_i hp
   obtain⟨q,hq,fX⟩:=hd
   rcases T8.1 hq with e|hq
   ·exact KB (e ▸ fX) hp
   rw [PW ⟨q,hq,fX⟩];rfl
end ins
def pr (us:bC Int) (i:Nat):Int×Int:=us.getD i (0,0)
theorem zm {us:bC Int} {i:Nat} (hi:i<us.length):us.take (i+1)=us.take i++[pr us i]:=by
 rw [aiC]
 grind [pr]
theorem zn {us:bC Int} {i:Nat} (hi:i<us.length):(aY us).getD i 0=(pr us i).1/\(ji us).getD i 0=(pr us i).2:=by
 grind [aY,ji,pr]
structure lU (us:bC Int) (h v:Int) (i:Nat) (d:Bool) (q:bC Int):Prop where
 yes:d=true->(∃p∈us.take i,h<p.1)/\q=ins h v (us.take i)
 no:d=false->(∀p∈us.take i,¬h<p.1)/\q=us.take i
 len:q.length=i+(if d then 1 else 0)
section put
variable {us q:bC Int} {h v:Int} {i:Nat} {d:Bool}
theorem lU.zero:lU us h v 0 false []:=⟨λe=>(by cases e),λ_=>⟨λp hp=>(by simp at hp),nh⟩,rfl⟩
theorem lU.hit (hp:lU us h v i false q) (hi:i<us.length) (hk:h<(pr us i).1):lU us h v (i+1) true (q++[(h,v)]++[pr us i]):=by
 obtain⟨h1,rfl⟩:=hp.no rfl
 refine⟨λ_=>⟨⟨pr us i,by rw [zm hi];simp,hk⟩,by rw [zm hi,MI h1 hk];simp⟩,λe=>(by cases e),?_⟩
 simp
 omega
theorem lU.miss (hp:lU us h v i false q) (hi:i<us.length) (hk:¬h<(pr us i).1):lU us h v (i+1) false (q++[pr us i]):=by
 obtain⟨h1,rfl⟩:=hp.no rfl
 refine⟨λe=>(by cases e),λ_=>⟨λp hpm=>?_,(zm hi).symm⟩,by simp;omega⟩
 grind [zm]
theorem lU.more (hp:lU us h v i true q) (hi:i<us.length):lU us h v (i+1) true (q++[pr us i]):=by
 obtain⟨⟨p,h1,h2⟩,rfl⟩:=hp.yes rfl
 refine⟨λ_=>⟨⟨p,gn,h2⟩,by grind [zm,PW]⟩,λe=>(by cases e),?_⟩
 have:=hp.len
 simp at this ⊢
 omega
theorem lU.last (hp:lU us h v us.length false q):q++[(h,v)]=ins h v us:=by
 obtain⟨h1,rfl⟩:=hp.no rfl
 grind [PV]
theorem lU.end_ (hp:lU us h v us.length true q):q=ins h v us:=by
 obtain⟨_,rfl⟩:=hp.yes rfl
 rw [aiu]
end put
theorem aay (q:bC Int) (x:Int×Int):ji (q++[x])=ji q++[x.2]:=by simp [ji]
theorem Mg (q:bC Int) (x:Int×Int):aY (q++[x])=aY q++[x.1]:=by simp [aY]
theorem PX {us:bC Int} {h:Int} {i:Nat} (hi:i<us.length):del h (us.take (i+1))=if (pr us i).1=h then del h (us.take i) else del h (us.take i)++[pr us i]:=by
 grind [zm,del,pr]
theorem U7 {us:bC Int} {h:Int}:(del h us).length<=us.length:=aiV ..
theorem J0 {us:bC Int} (hr:aH.dM (aY us)) {i j:Nat} (hi:i<us.length) (hj:j<us.length) (e:(pr us i).1=(pr us j).1):i=j:=by
 rw [←(zn hi).1,←(zn hj).1] at e
 rcases aiS i j with h|h|h
 ·have:=JX hr h (by rw [kD];exact hj);omega
 ·exact h
 have:=JX hr h (by rw [kD];exact hi);omega
theorem aeN {us:bC Int} (hr:aH.dM (aY us)) {i:Nat} (hi:i<us.length) {h:Int} (e:(pr us i).1=h):aH.get us h=some (pr us i).2:=by
 have hm:pr us i∈us:=by grind [pr]
 unfold aH.get
 cases hf:us.find? (λp=>p.1 == h) with
 |none=>
   grind
 |some p=>
   have h1:=List.mem_of_find?_eq_some hf
   have h2:=List.find?_some hf
   obtain⟨j,hj,rfl⟩:=aiT h1
   grind [pr,J0]
end
section
open Go.RowKit Go.Maps bw aH
noncomputable section
structure RS where
 ns:List aO
 aJ:List Int
 us:bC Int
 aL:Int
 cN:Int
 cB:Int
 cH:Int
 cS:Int
 cZ:Int
 last:Int
def mK (name:ByteArray) (id:Int):List fO->List fO
 |[]=>[⟨name,id⟩]
 |e::r=>if ¬ja e.name name then ⟨name,id⟩::e::r else e::mK name id r
def rP (name:ByteArray) (es:List fO):List fO:=es.filter (λe=>decide (e.name≠name))
def nK (s z:Int) (ns:List aO) (d:Nat) (es:List fO):List aO:=ns.set d {nd ns d with aq:=es,bH:=s,bh:=z}
def cQ (ns:List aO) (d:Nat) (name:ByteArray):Int:=match BR (nd ns d).aq name with|none=>-1|some j=>gU ns (en (nd ns d).aq j).id
def tY (ns:List aO) (id:Int):Int:=(nP ns id ns.length:Int)
def q5 (name:ByteArray):List fO->Int->Int
 |[],z=>z
 |e::r,z=>q5 name r (if e.name=name then e.id else z)
variable (R:RS)
def oU (h:Int):Except Int Nat:=match aH.get R.us h with|none=>.error 131|some id=>.ok (bZ R.ns id)
def lM (h:Int) (name:ByteArray) (fH:Int):Except Int Nat:=
 match oU R h with
 |.error e=>.error e
 |.ok d=>
   if (nd R.ns d).kind=2 then
    if (nd R.ns d).id∈R.aJ then .error 170
    else if bW name then if bits BinOp.and .i64 (nd R.ns d).mode fH=fH then .ok d else .error 175
    else .error 95
   else .error 173
def dW (d:Nat) (name:ByteArray) (id:Int):RS:={R with ns:=nK R.cS R.cZ R.ns d (mK name id (nd R.ns d).aq)}
def dg (d:Nat) (name:ByteArray) (free:Bool):RS:=
 let ns:=nK R.cS R.cZ R.ns d (rP name (nd R.ns d).aq)
 let id:=q5 name (nd R.ns d).aq 0
 {R with ns:=ns,aJ:=if free=true/\tY ns id=0 then R.aJ++[id] else R.aJ}
def rR (n:aO):Bool:=decide (n.id∈R.aJ->n.id∈ji R.us)
def gD:RS:={R with ns:=R.ns.filter (rR R),aJ:=((R.ns.filter (rR R)).filter (λn=>decide (n.id∈R.aJ))).map aO.id}
def kz (d:Nat) (name:ByteArray) (n:aO):RS:=
 let id:=R.last+1
 let R1:=dW {R with last:=id} d name id
 {R1 with ns:=R1.ns++[{n with id:=id,bH:=R.cS,bh:=R.cZ}]}
def vY:Prop:=(R.ns.length:Int)<R.cN/\R.last<1099511627776/\(dX R.ns R.ns.length:Int)<8192
instance:Decidable (vY R):=inferInstanceAs (Decidable (_/\_/\_))
abbrev xu:=RS×Int×Int
def mg (k:Nat):xu:=
 if (R.us.length:Int)<R.cH then ({R with us:=ins (aR R.us) (nd R.ns k).id R.us,aL:=max R.aL ((R.us.length:Int)+1)},aR R.us,0) else (R,0,130)
def kZ (k:Nat) (bs:List UInt8):xu:=
 if bs=[] then (R,0,0)
 else if R.cB-(fZ R.ns R.ns.length:Int)<=0 then (R,0,176)
 else
  let n:=(min (bs.length:Int) (R.cB-(fZ R.ns R.ns.length:Int))).toNat
  ({R with ns:=R.ns.set k {nd R.ns k with data:=(nd R.ns k).data++bs.take n,bH:=R.cS,bh:=R.cZ}},(n:Int),0)
def cG (d:Nat) (name:ByteArray) (n:aO):RS×Int:=
 if n.kind=3/\lF n.target≠0 then (R,lF n.target)
 else if 0<=cQ R.ns d name then (R,171)
 else if vY R then (kz R d name n,0) else (R,177)
def jV (d:Nat) (name:ByteArray) (dir:Bool):RS×Int:=
 if 0<=cQ R.ns d name then
  let k:=(cQ R.ns d name).toNat
  if dir=false/\(nd R.ns k).kind=2 then (R,172)
  else if dir=true/\(nd R.ns k).kind≠2 then (R,173)
  else if dir=true/\0<(nd R.ns k).aq.length then (R,178)
  else (gD (dg R d name true),0)
 else (R,170)
def oA (ns:List aO) (id:Int):Nat->Int
 |0=>-1
 |i+1=>if 0<je (nd ns i).aq id (nd ns i).aq.length then (i:Int) else oA ns id i
def jO (ns:List aO) (top:Nat):Nat->Nat->Bool
 |0,_=>false
 |k+1,d=>if d=top then true else if oA ns (nd ns d).id ns.length<0 then false else jO ns top k (oA ns (nd ns d).id ns.length).toNat
def jW (f:Nat) (name:ByteArray) (to:Nat) (aG:ByteArray):RS×Int:=
 if 0<=cQ R.ns f name then
  let k:=(cQ R.ns f name).toNat
  if (nd R.ns k).kind=2/\jO R.ns k (R.ns.length+1) to=true then (R,174)
  else if cQ R.ns to aG=(k:Int) then (R,0)
  else if 0<=cQ R.ns to aG then
   if (nd R.ns (cQ R.ns to aG).toNat).kind=2 then (R,172)
   else if (nd R.ns k).kind=2 then (R,173)
   else (gD (dW (dg (dg R to aG true) f name false) to aG (nd R.ns k).id),0)
  else (gD (dW (dg R f name false) to aG (nd R.ns k).id),0)
 else (R,170)
def kX (c:aK) (want:Int):xu:=
 match lM R c.bA c.name 64 with
 |.error e=>(R,0,e)
 |.ok d=>
   if 0<=cQ R.ns d c.name then
    let k:=(cQ R.ns d c.name).toNat
    if (nd R.ns k).kind=3 then (R,0,174)
    else if (nd R.ns k).kind≠want then (R,0,if (nd R.ns k).kind=1 then 173 else 172)
    else mg R k
   else (R,0,170)
def aeO (c:aK) (fH:Int):Except Int (Nat×Nat):=
 match lM R c.bA c.name fH with
 |.error e=>.error e
 |.ok f=>match lM R c.other c.text 192 with
   |.error e=>.error e
   |.ok to=>.ok (f,to)
def ab7 (c:aK):xu:=
 match oU R c.bA with
 |.error e=>(R,0,e)
 |.ok k=>
   if (nd R.ns k).kind=2/\(nd R.ns k).id∈R.aJ then (R,0,170)
   else if mT c.mode then
    if Dv c.cM/\Dv c.cO then
     if iU c.bH c.bh then ({R with ns:=R.ns.set k {nd R.ns k with mode:=c.mode,cM:=c.cM,cO:=c.cO,bH:=c.bH,bh:=c.bh}},0,0)
     else (R,0,20)
    else (R,0,11)
   else (R,0,120)
def mZ (c:aK) (d:Nat):xu:=
 if c.op=8\/c.op=14 then ((jV R d c.name (decide (c.op=14))).1,0,(jV R d c.name (decide (c.op=14))).2)
 else if c.op=6 then ((cG R d c.name ⟨0,3,511,0,0,0,0,[],c.text,[]⟩).1,0,(cG R d c.name ⟨0,3,511,0,0,0,0,[],c.text,[]⟩).2)
 else if mT c.mode then
  if c.op=5 then
   let m:=cG R d c.name ⟨0,1,c.mode,0,0,0,0,[],⟨#[]⟩,[]⟩
   if m.2=0 then mg m.1 (m.1.ns.length-1) else (m.1,0,m.2)
  else ((cG R d c.name ⟨0,2,c.mode,0,0,0,0,[],⟨#[]⟩,[]⟩).1,0,(cG R d c.name ⟨0,2,c.mode,0,0,0,0,[],⟨#[]⟩,[]⟩).2)
 else (R,0,120)
def ab8 (c:aK):xu:=
 match aeO R c 64 with
 |.error e=>(R,0,e)
 |.ok (f,to)=>
   if 0<=cQ R.ns f c.name then
    if (nd R.ns (cQ R.ns f c.name).toNat).kind=2 then (R,0,172)
    else if 0<=cQ R.ns to c.text then (R,0,171)
    else if (dX R.ns R.ns.length:Int)<8192 then (dW R to c.text (nd R.ns (cQ R.ns f c.name).toNat).id,0,0)
    else (R,0,177)
   else (R,0,170)
def dI (c:aK):xu:=
 if c.op=1 then
  if 0<=gU R.ns c.other then if (nd R.ns (bZ R.ns c.other)).kind=2 then mg R (bZ R.ns c.other) else (R,0,173)
  else (R,0,141)
 else if c.op=2 then kX R c 2
 else if c.op=3 then kX R c 1
 else if c.op=4\/c.op=5\/c.op=6\/c.op=8\/c.op=14 then
  match lM R c.bA c.name 192 with
  |.error e=>(R,0,e)
  |.ok d=>mZ R c d
 else if c.op=7 then ab8 R c
 else if c.op=9 then
  match oU R c.bA with
  |.error e=>(R,0,e)
  |.ok k=>if (nd R.ns k).kind=2 then (R,0,172) else kZ R k c.data
 else if c.op=10 then ab7 R c
 else if c.op=13 then
  if c.bA∈aY R.us then (gD {R with us:=del c.bA R.us},0,0) else (gD R,0,131)
 else if c.op=15 then
  match aeO R c 192 with
  |.error e=>(R,0,e)
  |.ok (f,to)=>((jW R f c.name to c.text).1,0,(jW R f c.name to c.text).2)
 else (R,0,230)
def ab9 (c:aK) (k:Nat):aK:={c with answer:=(nd R.ns k).id,other:=(nd R.ns k).kind,mode:=(nd R.ns k).mode,cM:=(nd R.ns k).cM,cO:=(nd R.ns k).cO,bH:=(nd R.ns k).bH,bh:=(nd R.ns k).bh,code:=0}
def U8 (c:aK) (e:Int):aK:={c with answer:=0,other:=0,mode:=0,cM:=0,cO:=0,bH:=0,bh:=0,code:=e}
def agv (c:aK):aK:=
 if c.op=12 then
  match lM R c.bA c.name 64 with
  |.error e=>U8 c e
  |.ok d=>if 0<=cQ R.ns d c.name then ab9 R c (cQ R.ns d c.name).toNat else U8 c 170
 else match oU R c.bA with
  |.error e=>U8 c e
  |.ok k=>ab9 R c k
def ul (c:aK):RS×aK:=
 if c.op=11\/c.op=12 then (R,agv R c)
 else if (dI R c).2.2=0 then ((dI R c).1,{c with answer:=(dI R c).2.1,code:=0}) else (R,{c with answer:=0,code:=(dI R c).2.2})
end
structure RL where
 A:Option Addr
 c:Nat
 L:fq
 G:Option Addr
 cg:Nat
 H:Option Addr
 ch:Nat
 V:Option Addr
 cv:Nat
def rV (R:RS) (Y:RL):List Value:=[.slice Y.A R.ns.length Y.c,.slice Y.G R.aJ.length Y.cg,.int .i64 R.cH,.int .i64 R.aL,.slice Y.H R.us.length Y.ch,.slice Y.V R.us.length Y.cv,.int .i64 R.cN,.int .i64 R.cB,.int .i64 R.cH,.int .i64 R.cS,.int .i64 R.cZ,.int .i64 R.last]
abbrev iz (c:aK) (A:Option Addr) (p:Nat):aK:={c with dA:=A,dC:=p}
def rW (R:RS) (A:Option Addr) (c:Nat) (G:Option Addr) (cg:Nat) (H:Option Addr) (ch:Nat) (V:Option Addr) (cv:Nat):List Value:=rV R ⟨A,c,⟨λ_=>none,λ_=>none,λ_=>0,λ_=>0⟩,G,cg,H,ch,V,cv⟩
def rZ:List Value:=[.slice none 0 0,.slice none 0 0,.int .i64 0,.int .i64 0,.slice none 0 0,.slice none 0 0,.int .i64 0,.int .i64 0,.int .i64 0,.int .i64 0,.int .i64 0,.int .i64 0]
structure RowsAt (β:Bs) (R:RS) (Y:RL):Prop where
 g:cq β Y.G (bL R.aJ)
 h:cq β Y.H (bL (aY R.us))
 v:cq β Y.V (bL (ji R.us))
structure dJ (β:Bs) (R:RS) (Y:RL):Prop extends RowsAt β R Y where
 n:aN β Y.A R.ns Y.L
structure RB (R:RS):Prop where
 ns:R.ns.length<=4097
 aJ:R.aJ.length<=8200
 us:R.us.length<=1024
 aq:dX R.ns R.ns.length<=8200
 dat:fZ R.ns R.ns.length<=140737488355328
structure RC (R:RS):Prop extends RB R where
 fU:dM R.ns
 hand:∀id∈ji R.us,0<=gU R.ns id
 kind:∀i,i<R.ns.length->(nd R.ns i).kind=1\/(nd R.ns i).kind=2\/(nd R.ns i).kind=3
 cap:0<=R.cN/\R.cN<=4096/\0<=R.cB/\R.cB<=1099511627776/\0<=R.cH/\R.cH<=1024/\0<=R.last/\R.last<=1099511627776/\0<=R.aL/\R.aL<=R.cH
 usr:aH.dM (aY R.us)
 wC:∀z∈aY R.us,1<=z
 EP:(R.us.length:Int)<=R.cH
section d
variable {β β':Bs} {R:RS} {Y:RL} {i:Nat}
theorem RowsAt.le (h:RowsAt β R Y) (dP:β.le β'):RowsAt β' R Y:=⟨h.g.le dP,h.h.le dP,h.v.le dP⟩
theorem dJ.le (h:dJ β R Y) (dP:β.le β'):dJ β' R Y:=⟨h.toRowsAt.le dP,h.n.le dP⟩
theorem RB.row (h:RB R) (hi:i<R.ns.length):(nd R.ns i).aq.length<=8200:=by
 have h1:=qv (ns:=R.ns) (show i+1<=R.ns.length by omega)
 have h2:=h.aq
 grind [dX,nd]
end d
end
section
open Go.RowKit Go.Maps bw aH
attribute [local irreducible] aB bJ av aF cC
theorem adk {β:Bs} (S:aZ) (L:HL) (w o q f m t am an km kn:Nat) (Z:AZ) (fs:List ck) (xs:List cI) (af:Int) (tr:List aK) (tA:Option Addr) (tC:Nat) (hrw:(Lit.int .i64 af).wf=true) (hI:bB S) (hn:tr.length<=8388607) (hZ:kK β Z xs) (hX:fS xs 1048576) (hg:iO β) (c:aK) (hD:bO β c.dA c.data) (hl:c.data.length<=1048576) (hw:(Lit.int .i64 c.bA).wf=true) (how:(Lit.int .i64 c.other).wf=true) (hnm:c.name.size<=1048576) (tZ:c.text.size<=1048576) (cD:mE c.op) {S2:aZ} {c2:aK} (hW:bq fs xs af (tr.length+1) S c=(S2,c2)) :
 bK Tryz.prog β 196 #[vP w,.agg ⟨aW c⟩] [.aD w [.iface 37 (vP w),vP f,.iface 137 (vP o),vI (af),.slice tA (tr.length) (tC)] 60,.aD o [.iface 138 (vP q),vP f,vI (af),.map (some am),vI (((tr.length:Nat):Int))] 142,.aD q [.iface 56 (vP f),.map (some km),vI (((tr.length:Nat):Int))] 140,.abs (bM Tryz.prog 3 am (kG Z xs) an),.abs (bM Tryz.prog 3 km (iD fs) kn),.abs (aI 63 13 tA tr.length tC (cJ aW tr)),.aD f [vI (S.X.cN),vI (S.X.cB),vI (S.X.cH),vI (S.X.cS),vI (S.X.cZ),.map (some m),vP t,vI (S.X.last),vI (S.X.aq),vI (S.X.used)] 173,.abs (bM Tryz.prog 3 m (dw (dQ L S.ax)) S.ax.length),.abs (iP 233 t S.X.cH S.aL (dQ L S.us)),.abs (bp (fV S.O L)),.abs (bp (eY S.O L)),.abs (bp (iE S.O L))] (λβ' v l=>∃B1 p1 B2 p2 A' k' L2,v=.agg ⟨aW (fB B2 p2 c2)⟩/\l=[.aD w [.iface 37 (vP w),vP f,.iface 137 (vP o),vI (af),.slice A' ((tr.length+1)) (k')] 60,.aD o [.iface 138 (vP q),vP f,vI (af),.map (some am),vI ((((tr.length+1):Nat):Int))] 142,.aD q [.iface 56 (vP f),.map (some km),vI ((((tr.length+1):Nat):Int))] 140,.abs (bM Tryz.prog 3 am (kG Z xs) an),.abs (bM Tryz.prog 3 km (iD fs) kn),.abs (aI 63 13 A' (tr.length+1) k' (cJ aW (tr++[fB B1 p1 c2]))),.aD f [vI (S2.X.cN),vI (S2.X.cB),vI (S2.X.cH),vI (S2.X.cS),vI (S2.X.cZ),.map (some m),vP t,vI (S2.X.last),vI (S2.X.aq),vI (S2.X.used)] 173,.abs (bM Tryz.prog 3 m (dw (dQ L2 S2.ax)) S2.ax.length),.abs (iP 233 t S2.X.cH S2.aL (dQ L2 S2.us)),.abs (bp (fV S2.O L2)),.abs (bp (eY S2.O L2)),.abs (bp (iE S2.O L2))]/\Fl β β' B1 c2.data/\bO β' B2 c2.data/\c2.data.length<=p2):=by
 have hd2:c2.data=c.data:=by have h:=Rn (fs:=fs) (xs:=xs) (af:=af) (n:=tr.length+1) (S:=S) (c:=c);rw [hW] at h;exact h
 refine lW Tryz.func196 Tryz.ntmps196 (λaE R=>SR (jB 1 [3] (λb1=>.aD b1 (aW c) 63) (λb1=>jB 1 [4] (λb2=>.aD b2 [vI 0,vI 0,vI 0,.string ⟨#[]⟩,.string ⟨#[]⟩,.slice none (0) (0),vI 0,vI 0,vI 0,vI 0,vI 0,vI 0,vI 0] 63) (λb2=>NS (jK 2 [6] [(1,a_ 13 b1)] (ia [] (MF c.dA c.dC c.data hD hl) ?_))))))
 rintro vn _ _ fY ⟨B1,p1,rfl,rfl,G8,hp1⟩
 replace hD:=hD.le fY
 replace hZ:=hZ.le fY
 replace hg:=hg.le fY
 replace aE:=aE.trans fY
 refine jC 2 [] [(1,a_ 13 b1)] [(13,[(5,.slice B1 (c.data.length) (p1))])] (NN (av.join (ι:=Int) (λ(sG:Int)=>(sG=if c.op=1 then af else c.other)/\((Lit.int .i64 sG).wf=true)) (λ(sG:Int)=>[(0,vP w),(3,vP b1),(4,vP b2)]) (λ(sG:Int)=>[.aD w [.iface 37 (vP w),vP f,.iface 137 (vP o),vI (af),.slice tA (tr.length) (tC)] 60,.aD o [.iface 138 (vP q),vP f,vI (af),.map (some am),vI ↑tr.length] 142,.aD q [.iface 56 (vP f),.map (some km),vI ↑tr.length] 140,.abs (bM Tryz.prog 3 am (kG Z xs) an),.abs (bM Tryz.prog 3 km (iD fs) kn),.abs (aI 63 13 tA tr.length tC (cJ aW tr)),pF f m t S.X,pI m L S.ax,pT t S.X.cH S.aL L S.us,pO S.O L,pD S.O L,pE S.O L,.abs R,.aD b1 (aW (iz {c with other:=sG} B1 p1)) 63,.aD b2 [vI 0,vI 0,vI 0,.string ⟨#[]⟩,.string ⟨#[]⟩,.slice none (0) (0),vI 0,vI 0,vI 0,vI 0,vI 0,vI 0,vI 0] 63]) ?_ (SR (jK 3 [11] [(1,a_ 13 b1)] (NN (cP ((c.op:Int)=(1:Int)) (λh11=>av.region (jC 6 [] [(3,a_ 0 w),(5,a_ 13 b1)] [(13,[(2,vI (af))])] (NL (mJ af [0,1,2,3,4,5,6,7,8,9,10,11,12,13,14] (⟨(t8 h11).symm,hrw⟩))))) (λh11=>av.skip (mJ c.other [0,1,2,3,4,5,6,7,8,9,10,11,12,13,14] (⟨(nw h11).symm,how⟩)))))))))
 rintro sG ⟨hoth,how⟩
 refine av.seq (rM (List.range 7) 5 [0,13] (jR 5 [0,3,4,20,21] [(3,a_ 0 w),(4,A_ 1 b1 13)] (mL [10,13] [1,2,3,4,6,7,8,9,10,11] (adj (β:=vn) S L o q f m t am an km kn tr.length Z fs xs af hrw hI d5 hZ hX hg c B1 p1 hoth ⟨hw,how,hnm,tZ,G8.at_,Pe hl d8,hp1,cD⟩ hW) ?_ (by rintro _ _ ⟨L2,rfl,rfl⟩;rfl))))
 rintro _ _ ⟨L2,rfl,rfl⟩
 refine cC.last rfl rfl (jC 1 [] [(0,A_ 13 b1 13)] [(13,(zC (aW (iz c2 B1 p1))))] (NL (aF.np (NX (av.seq (rM (List.range 11) 6 [10,13] (jR 6 [3,4,23,27,28] [(4,a_ 0 w),(5,A_ 1 b1 13)] (mN [10,13] (λb4=>[(29,.slice (some ⟨b4,0,none⟩) (1) (1))]) (λ_=>[]) (λb4=>.aD b4 (aW (iz c2 B1 p1)) 63) (λb4=>cC.cut (ι:=(Option Addr)×Nat) (bN:=λ((A5,c6):(Option Addr)×Nat)=>[(3,vP b1),(4,vP b2),(23,vP w),(30,.slice A5 ((tr.length+1)) (c6))]) (dh:=λ((A5,c6):(Option Addr)×Nat)=>[.aD o [.iface 138 (vP q),vP f,vI (af),.map (some am),vI ↑(tr.length+1)] 142,.aD q [.iface 56 (vP f),.map (some km),vI ↑(tr.length+1)] 140,.abs (bM Tryz.prog 3 am (kG Z xs) an),.abs (bM Tryz.prog 3 km (iD fs) kn),pF f m t S2.X,pI m L2 S2.ax,pT t S2.X.cH S2.aL L2 S2.us,pO S2.O L2,pD S2.O L2,pE S2.O L2,.aD w [.iface 37 (vP w),vP f,.iface 137 (vP o),vI (af),.slice tA (tr.length) (tC)] 60,.abs (aI 63 13 A5 (tr.length+1) c6 (cJ aW (tr++[fB B1 p1 c2]))),.abs R,.aD b1 (aW (iz c2 B1 p1)) 63,.aD b2 [vI 0,vI 0,vI 0,.string ⟨#[]⟩,.string ⟨#[]⟩,.slice none (0) (0),vI 0,vI 0,vI 0,vI 0,vI 0,vI 0,vI 0] 63,.aD b4 (aW (iz c2 B1 p1)) 63]) [10,13] rfl rfl ?_ rfl (λ_=>d6) ?_)))))))))
 ·exact aB.append 11 (d:=(some 30)) (t:=58) (e:=63) (z:=.agg #[vI 0,vI 0,vI 0,.string ⟨#[]⟩,.string ⟨#[]⟩,.slice none (0) (0),vI 0,vI 0,vI 0,vI 0,vI 0,vI 0,vI 0]) (size:=13) (bytes:=136) (n:=tr.length) (cap:=tC) (A:=tA) (xs:=(cJ aW tr)) (s:=(.tmp 27)) (x:=(.tmp 29)) (ats:=#[58,58]) (A':=some ⟨b4,0,none⟩) (m:=1) (c':=1) (news:=[vI (c2.op),vI (c2.bA),vI (c2.other),.string c2.name,.string c2.text,.slice B1 (c2.data.length) (p1),vI (c2.mode),vI (c2.cM),vI (c2.cO),vI (c2.bH),vI (c2.bh),vI (c2.code),vI (c2.answer)]) (λ_=>d6) rfl d6 (λ_=>d6) (λ_=>d6) Tryz.underlying58 d6 rfl d8 (rfl) (by simp [Value.oneCell']) (gq (j:=15) rfl) (by unfold maxLen;omega) d5 (λA5 c6=>aB.cR 11 (p':=.abs (aI 63 13 A5 (tr.length+1) c6 (cJ aW (tr++[fB B1 p1 c2])))) rfl (zc (λx=>HP.abs (aI 63 13 _ _ _ x)) (DB aW (fB B1 p1 c2) tr).symm) (sl 30 (.slice A5 (tr.length+1) (c6)) (.slice A5 ((tr.length+1)) (c6)) (rfl) (NL (MD (A5,c6) [3,4,23,30] [0,1,2,3,4,5,6,7,8,9,10,11,12,13,14,15]))))
 rintro⟨A5,c6⟩
 refine nC [10,13] [31] [] [] (nC [10,13] [32] [] [] (cC.last rfl rfl (jC 1 [] [(0,a_ 10 w)] [(10,[(4,.slice A5 ((tr.length+1)) (c6))])] (NL (aF.np (NX (SR (jK 2 [34] [(1,a_ 13 b1)] (ia [] (MG B1 p1 c2.data (by rw [hd2];exact G8.at_) (by rw [hd2];exact hl)) ?_)))))))))
 rintro ql _ _ cU ⟨B2,p2,rfl,rfl,hB2,hp2⟩
 replace hD:=hD.le cU
 replace hZ:=hZ.le cU
 replace hg:=hg.le cU
 replace G8:=G8.le cU
 replace aE:=aE.trans cU
 exact jC 2 [] [(1,a_ 13 b1)] [(13,[(5,.slice B2 (c2.data.length) (p2))])] (NS (jC 2 [] [(0,A_ 13 b1 13),(1,A_ 14 b2 13)] [(14,(zC (aW (iz c2 B2 p2))))] (eO (v:=(.agg ⟨aW (iz c2 B2 p2)⟩)) [A_ 14 b2 13] aE ⟨B1,p1,B2,p2,A5,c6,L2,rfl,rfl,by rw [hd2];exact G8,hB2,hp2⟩ [10,0,1,2,3,11,4,5,6,7,8,9,12])))
end
section
open Go.RowKit Go.Maps bw aH
section d
variable {β:Bs} {fs:List ck} {xs:List cI} {af:Int} {S S2:aZ} {V:WV} {tr:List aK} {c c2:aK} {G:WG}
theorem Xr (hrw:(Lit.int .i64 af).wf=true) (hI:bB S) (hn:tr.length<=8388607) (hZ:kK β G.Z xs) (hX:fS xs 1048576) (hg:iO β) (hD:bO β c.dA c.data) (hl:c.data.length<=1048576) (hw:(Lit.int .i64 c.bA).wf=true) (how:(Lit.int .i64 c.other).wf=true) (hnm:c.name.size<=1048576) (tZ:c.text.size<=1048576) (cD:mE c.op) (hW:bq fs xs af (tr.length+1) S c=(S2,c2)) :
 bK Tryz.prog β 196 #[vP G.w,.agg ⟨aW c⟩] [wA G fs xs af S V tr] (λβ' v l=>∃(V':WV) (B1:Option Addr) (p1:Nat) (B2:Option Addr) (p2:Nat),v=.agg ⟨aW (fB B2 p2 c2)⟩/\l=[wA G fs xs af S2 V' (tr++[fB B1 p1 c2])]/\bO β' B1 c2.data/\bO β' B2 c2.data/\c2.data.length<=p2):=
 (adk S V.L G.w G.o G.q G.f G.m G.t G.am G.an G.km G.kn G.Z fs xs af tr V.A V.c hrw hI hn hZ hX hg c hD hl hw how hnm tZ cD hW).one.mono (by
  rintro β' v l _ ⟨l0,⟨B1,p1,B2,p2,A',k',L2,rfl,rfl,h1,h2,h3⟩,rfl⟩
  refine⟨⟨L2,A',k'⟩,B1,p1,B2,p2,rfl,?_,h1.at_,h2,h3⟩
  unfold wA wP tR
  rw [T3]
  rfl)
theorem aaz:aU Tryz.prog β 17 #[vP G.w] [wA G fs xs af S V tr] (λv l=>v=.int .i64 (S.us.length:Int)/\l=[wA G fs xs af S V tr]):=
 (Xm S V.L G.w G.o G.q G.f G.m G.t G.am G.an G.km G.kn G.Z fs xs af tr V.A V.c).one.mono (by rintro v l ⟨l0,⟨rfl,rfl⟩,rfl⟩;exact⟨rfl,rfl⟩)
theorem MJ (hI:bB S):aU Tryz.prog β 19 #[vP G.w] [wA G fs xs af S V tr] (λv l=>∃A cp K,v=.agg #[.slice A (aV S).length cp]/\l=[wA G fs xs af S V tr]++K1 A cp (aV S) K):=by
 intro R w hS
 have h1:aP β ([.abs R]++[wA G fs xs af S V tr]) w:=aP.turn hS
 refine (U3 S V.L G.w G.o G.q G.f G.m G.t G.am G.an G.km G.kn G.Z fs xs af tr V.A V.c hI R w (aP.turn (aP.rX h1))).mono ?_
 rintro e w' ⟨v,l,h2,⟨A,cp,K,h3,rfl⟩,h4⟩
 refine⟨v,_,h2,⟨A,cp,K,h3,rfl⟩,?_⟩
 rw [aiv] at h4
 have h5:=(aP.turn h4).gy
 rw [aiv] at h5 ⊢
 exact aP.turn h5
theorem Vd (hI:bB S):bK Tryz.prog β 19 #[vP G.w] [wA G fs xs af S V tr] (λβ' v l=>∃A cp K,v=.agg #[.slice A (aV S).length cp]/\l=[wA G fs xs af S V tr]/\aN β' A (aV S) K):=
 (MJ hI).ab6 (by
  rintro v l ⟨A,cp,K,rfl,rfl⟩
  exact⟨_,_,rfl,λβ' h=>⟨A,cp,K,rfl,rfl,h.graph⟩⟩)
theorem adl {ns:List aO} {Y:fq} {X:FM} (A:Option Addr) (cp:Nat) (hG:aN β A ns Y) (hB:kA ns 1048576) {Af Aa:Option Addr} (cf ca:Nat) (hF:cq β Af (cJ jv fs)) (ox:lI fs 2097152) (hA:cq β Aa (cJ kr xs)) (gF:fS xs 1048576) :
 bK Tryz.prog β 26 #[.agg #[.slice A ns.length cp],.int .i64 af,.agg #[.int .i64 X.cN,.int .i64 X.cB,.int .i64 X.cH,.int .i64 X.cS,.int .i64 X.cZ],.agg #[.slice Af fs.length cf,.slice Aa xs.length ca]] [] (λβ' v l=>(fN X ns af≠0/\v=.tuple #[.pointer none,.int .i64 (fN X ns af)]/\l=[])\/(fN X ns af=0/\∃(N:DU X ns) (G:WG) (V:WV),v=.tuple #[vP G.w,.int .i64 0]/\l=[wA G fs xs af N.1 V []]/\aav β β' G.Z xs)):=
 ((aaw A cp ns Y hG hB X af Af cf fs hF ox Aa ca xs hA gF).aeA (by
   rintro β' v l (⟨h1,h2,rfl⟩|⟨h1,N,L,w,o,q,f,m,t,am,an,km,kn,Z,h2,rfl,h3⟩)
   ·exact .inl ⟨rfl,.inl ⟨h1,h2,rfl⟩⟩
   exact .inr (.inr ⟨h1,N,⟨w,o,q,am,km,an,kn,f,m,t,Z⟩,⟨L,none,0⟩,h2,rfl,h3⟩)))
end d
section l
variable {ns:List aO} {es:List fO} {name:ByteArray} {id:Int} {i j d top k:Nat} {R:RS} {l:List Int}
theorem Xs (hj:j<es.length) (e:(en es j).name=name) (jD:∀q,q<j->¬(en es q).name=name):BR es name=some j:=by
 unfold BR
 rw [aiN]
 have hg:∀k (hk:k<es.length),en es k=es[k]:=λk hk=>by
  grind [en]
 grind
theorem Xt (hj:j<(nd ns d).aq.length) (e:(en (nd ns d).aq j).name=name) (jD:∀q,q<j->¬(en (nd ns d).aq q).name=name):gU ns (en (nd ns d).aq j).id=cQ ns d name:=by
 unfold cQ;rw [Xs hj e jD]
theorem Ve (jD:∀q,q<(nd ns d).aq.length->¬(en (nd ns d).aq q).name=name):(-1:Int)=cQ ns d name:=by
 unfold cQ;rw [U4 jD]
theorem adm (hj:j<l.length) (e:l.getD j 0=id):true=decide (id∈l):=by
 grind
theorem aaA (jD:∀q,q<l.length->¬l.getD q 0=id):false=decide (id∈l):=by
 refine (Lk (λh=>?_)).symm
 obtain⟨j,hj,e⟩:=aiT h
 grind
def BS (ns:List aO) (id:Int) (i j:Nat):Int:=if 0<je (nd ns i).aq id j then (i:Int) else oA ns id i
theorem aaB:oA ns id i=BS ns id i 0:=by unfold BS;rw [nw (by unfold je;omega)]
theorem adn:BS ns id i (nd ns i).aq.length=oA ns id (i+1):=rfl
theorem ado (e:(en (nd ns i).aq j).id=id):(i:Int)=BS ns id i (j+1):=by unfold BS;rw [t8 (by have:=JZ e;omega)]
theorem aaC (e:¬(en (nd ns i).aq j).id=id):BS ns id i j=BS ns id i (j+1):=by unfold BS;rw [G7 e]
theorem Xu:∀n:Nat,-1<=oA ns id n/\oA ns id n<n
 |0=>⟨by unfold oA;omega,by unfold oA;omega⟩
 |n+1=>by
   have:=Xu n
   unfold oA
   split<;>omega
theorem Xv:jO ns d (k+1) d=true:=by unfold jO;rw [t8 rfl]
theorem Vf (h:¬d=top) (hu:oA ns (nd ns d).id ns.length<0):jO ns top (k+1) d=false:=by unfold jO;rw [nw h,t8 hu]
theorem aaD (h:¬d=top) (hu:¬oA ns (nd ns d).id ns.length<0):jO ns top (k+1) d=jO ns top k (oA ns (nd ns d).id ns.length).toNat:=by
 grind [jO]
end l
end
section
open Go.RowKit Go.Maps bw aH
attribute [local irreducible] aB bJ av aF eH
theorem AJ {β:Bs} (Z:RS) (Y:RL) (hR:dJ β Z Y) (hB:RB Z) (id:Int) :
 aU Tryz.prog β 111 #[.agg ⟨rV Z Y⟩,vI (id)] [] (λv l=>v=.bool (decide (id∈Z.aJ))/\l=[]):=by
 refine SE Tryz.func111 Tryz.ntmps111 (λR=>SR (jB 2 [2] (λb1=>.aD b1 (rV Z Y) 45) (λb1=>NZ (jK 1 [5] [] (NN (av.block (lJ (λ(i:Nat)=>(i<=Z.aJ.length)/\(∀q,q<i->¬Z.aJ.getD q 0=id)) (λ(i:Nat)=>Z.aJ.length-i) (λ(i:Nat)=>[(1,vI (id)),(2,vP b1),(5,vI ↑i)]) (λ(i:Nat)=>[.abs R,.aD b1 (rV Z Y) 45]) 0 [0,1] (⟨L4 _,λq hq=>KB hq (N5 q)⟩) ?_)))))))
 rintro i ⟨hi,jD⟩
 have hbg:=hB.aJ
 exact SQ (jK 5 [10] [(2,a_ 1 b1)] (NN (cP ((((i:Nat):Int):Int)<(((Z.aJ.length:Nat):Int):Int)) (λh10=>KX (av.seq (av.block (SR (jK 7 [19] [(1,a_ 1 b1),(3,x_ i Z.aJ.length (xJ.hd (l:=Z.aJ) hR.g (j:=i) gn)),(4,r_ (xJ.rd (l:=Z.aJ) hR.g (j:=i) gn))] (NN (cP (((Z.aJ.getD i 0):Int)=(id:Int)) (λhhit=>zR ⟨zc Value.bool (adm (j:=i) d5 hhit),rfl⟩) (λhhit=>KX (av.region (jK 3 [5] [(1,wJ ((i:Int)+1) (↑(i+1)))] (NL (tJ ((i+1)) [0,1] (⟨d5,λq hq=>gn⟩))))))))))))) (λh10=>XX (zR ⟨zc Value.bool (aaA (λq hq=>jD q d5)),rfl⟩)))))
theorem aaE {β:Bs} (Z:RS) (Y:RL) (hR:dJ β Z Y) (hB:RB Z) :
 aU Tryz.prog β 117 #[.agg ⟨rV Z Y⟩] [] (λv l=>v=vI ((fZ Z.ns Z.ns.length:Nat):Int)/\l=[]):=by
 refine SE Tryz.func117 Tryz.ntmps117 (λR=>SR (jB 2 [1] (λb2=>.aD b2 (rV Z Y) 45) (λb2=>NS (jK 1 [3] [] (NZ (jK 1 [4] [] (NN (av.block (lJ (λ(i:Nat)=>(i<=Z.ns.length)) (λ(i:Nat)=>Z.ns.length-i) (λ(i:Nat)=>[(1,vP b2),(3,vI ↑(fZ Z.ns i)),(4,vI ↑i)]) (λ(i:Nat)=>[.abs R,.aD b2 (rV Z Y) 45]) 0 [0,1] (L4 _) ?_)))))))))
 rintro i hi
 have hbn:=hB.ns
 have hbd:=hB.dat
 have hdt:=JW (ns:=Z.ns) (i:=i) hi
 exact SQ (jK 6 [10] [(3,a_ 1 b2)] (NN (cP ((((i:Nat):Int):Int)<(((Z.ns.length:Nat):Int):Int)) (λh10=>KX (av.seq (av.block (av.region (jK 11 [3] [(3,a_ 1 b2),(5,x_ i Z.ns.length (aN.hd hR.n (i:=i) d5)),(7,r_ (aN.rd hR.n (i:=i) d5 (j:=7) rfl)),(9,w_ (.int .i64 ↑(fZ Z.ns (i+1))) (vw (Int.natCast_add _ _).symm d5 (by grind [JW])))] (LX (av.region (jK 3 [4] [(1,wJ ((i:Int)+1) (↑(i+1)))] (NL (tJ ((i+1)) [0,1] d5)))))))))) (λh10=>XX (zR (v:=(vI ↑(fZ Z.ns i))) ⟨by rw [show i=Z.ns.length by omega],rfl⟩)))))
theorem aaF {β:Bs} (Z:RS) (Y:RL) (hR:dJ β Z Y) (hB:RB Z) :
 aU Tryz.prog β 92 #[.agg ⟨rV Z Y⟩] [] (λv l=>v=vI ((dX Z.ns Z.ns.length:Nat):Int)/\l=[]):=by
 refine SE Tryz.func92 Tryz.ntmps92 (λR=>SR (jB 2 [1] (λb3=>.aD b3 (rV Z Y) 45) (λb3=>NS (jK 1 [3] [] (NZ (jK 1 [4] [] (NN (av.block (lJ (λ(i:Nat)=>(i<=Z.ns.length)) (λ(i:Nat)=>Z.ns.length-i) (λ(i:Nat)=>[(1,vP b3),(3,vI ↑(dX Z.ns i)),(4,vI ↑i)]) (λ(i:Nat)=>[.abs R,.aD b3 (rV Z Y) 45]) 0 [0,1] (L4 _) ?_)))))))))
 rintro i hi
 have hbn:=hB.ns
 have hbe:=hB.aq
 have hmo:=qv (ns:=Z.ns) hi
 exact SQ (jK 6 [10] [(3,a_ 1 b3)] (NN (cP ((((i:Nat):Int):Int)<(((Z.ns.length:Nat):Int):Int)) (λh10=>KX (av.seq (av.block (av.region (jK 11 [3] [(3,a_ 1 b3),(5,x_ i Z.ns.length (aN.hd hR.n (i:=i) d5)),(7,r_ (aN.rd hR.n (i:=i) d5 (j:=9) rfl)),(9,w_ (.int .i64 ↑(dX Z.ns (i+1))) (vw (Int.natCast_add _ _).symm d5 (by have:=qv (ns:=Z.ns) (show i+1<=Z.ns.length by omega);have:=hB.aq;omega)))] (LX (av.region (jK 3 [4] [(1,wJ ((i:Int)+1) (↑(i+1)))] (NL (tJ ((i+1)) [0,1] d5)))))))))) (λh10=>XX (zR (v:=(vI ↑(dX Z.ns i))) ⟨by rw [show i=Z.ns.length by omega],rfl⟩)))))
theorem Xw {β:Bs} (Z:RS) (Y:RL) (hR:dJ β Z Y) (hB:RB Z) (id:Int) :
 aU Tryz.prog β 131 #[.agg ⟨rV Z Y⟩,vI (id)] [] (λv l=>v=vI (tY Z.ns id)/\l=[]):=by
 refine SE Tryz.func131 Tryz.ntmps131 (λR=>SR (jB 2 [2] (λb4=>.aD b4 (rV Z Y) 45) (λb4=>NS (jK 1 [5] [] (NZ (jK 1 [6] [] (NN (av.block (lJ (λ(i:Nat)=>(i<=Z.ns.length)) (λ(i:Nat)=>Z.ns.length-i) (λ(i:Nat)=>[(1,vI (id)),(2,vP b4),(5,vI ↑(nP Z.ns id i)),(6,vI ↑i)]) (λ(i:Nat)=>[.abs R,.aD b4 (rV Z Y) 45]) 0 [0,1] (L4 _) ?_)))))))))
 rintro i hi
 have hbn:=hB.ns
 have hbe:=hB.aq
 have hcs:=U5 Z.ns id i
 have hmo:=qv (ns:=Z.ns) hi
 refine SQ (jK 6 [13] [(3,a_ 1 b4)] (NN (cP ((((i:Nat):Int):Int)<(((Z.ns.length:Nat):Int):Int)) (λsH=>KX (av.seq (av.block (SR (jK 1 [7] [] (NN (av.block (lJ (λ(j:Nat)=>(j<=(nd Z.ns i).aq.length)) (λ(j:Nat)=>(nd Z.ns i).aq.length-j) (λ(j:Nat)=>[(1,vI (id)),(2,vP b4),(5,vI ↑(nP Z.ns id i+je (nd Z.ns i).aq id j)),(6,vI ↑i),(7,vI ↑j)]) (λ(j:Nat)=>[.abs R,.aD b4 (rV Z Y) 45]) 0 [0,1] (L4 _) ?_)))))))) (λsH=>XX (zR (v:=(vI ↑(nP Z.ns id i))) ⟨by rw [show i=Z.ns.length by omega];rfl,rfl⟩)))))
 rintro j hj
 have hrl:=MH (nd Z.ns i).aq id j
 have hrw:=hB.row (i:=i) d5
 exact SQ (jK 10 [25] [(3,a_ 1 b4),(5,x_ i Z.ns.length (aN.hd hR.n (i:=i) d5)),(7,r_ (aN.rd hR.n (i:=i) d5 (j:=9) rfl))] (NN (cP ((((j:Nat):Int):Int)<((((nd Z.ns i).aq.length:Nat):Int):Int)) (λqJ=>KX (av.seq (av.block (SR (jK 13 [40] [(2,a_ 1 b4),(4,x_ i Z.ns.length (aN.hd hR.n (i:=i) d5)),(6,r_ (aN.rd hR.n (i:=i) d5 (j:=9) rfl)),(8,x_ j ((nd Z.ns i).aq.length) (cV.hd (hR.n.aq i d5) (i:=j) d5)),(10,r_ (cV.rd (hR.n.aq i d5) (i:=j) d5 (j:=1) rfl))] (NN (cP (((en (nd Z.ns i).aq j).id:Int)=(id:Int)) (λtT=>av.region (jK 3 [5] [(1,wJ (((nP Z.ns id i+je (nd Z.ns i).aq id j:Nat):Int)+1) (↑((nP Z.ns id i+je (nd Z.ns i).aq id j)+1)))] (LX (av.region (sl 5 (vI ↑((nP Z.ns id i+je (nd Z.ns i).aq id j)+1)) (.int .i64 ↑(nP Z.ns id i+je (nd Z.ns i).aq id (j+1))) (by rw [←JZ tT,ai7]) (jK 3 [7] [(1,wJ ((j:Int)+1) (↑(j+1)))] (NL (tJ ((j+1)) [0,1] (d5))))))))) (λtT=>KX (av.region (sl 5 (vI ↑(nP Z.ns id i+je (nd Z.ns i).aq id j)) (.int .i64 ↑(nP Z.ns id i+je (nd Z.ns i).aq id (j+1))) (by rw [←G7 tT]) (jK 3 [7] [(1,wJ ((j:Int)+1) (↑(j+1)))] (NL (tJ ((j+1)) [0,1] (d5)))))))))))))) (λqJ=>XX (av.region (sl 5 (vI ↑(nP Z.ns id i+je (nd Z.ns i).aq id j)) (.int .i64 ↑(nP Z.ns id (i+1))) (by rw [nP,show j=(nd Z.ns i).aq.length by omega]) (jK 3 [6] [(1,wJ ((i:Int)+1) (↑(i+1)))] (NL (tJ ((i+1)) [0,1] (d5))))))))))
theorem mz {β:Bs} (Z:RS) (Y:RL) (hR:dJ β Z Y) (hB:RC Z) (d:Nat) (hd:d<Z.ns.length) (name:ByteArray) :
 aU Tryz.prog β 87 #[.agg ⟨rV Z Y⟩,vI (((d:Nat):Int)),.string name] [] (λv l=>v=vI (cQ Z.ns d name)/\l=[]):=by
 refine SE Tryz.func87 Tryz.ntmps87 (λR=>SR (jB 2 [3] (λb5=>.aD b5 (rV Z Y) 45) (λb5=>NZ (jK 1 [7] [] (NN (av.block (lJ (λ(j:Nat)=>(j<=(nd Z.ns d).aq.length)/\(∀q,q<j->¬(en (nd Z.ns d).aq q).name=name)) (λ(j:Nat)=>(nd Z.ns d).aq.length-j) (λ(j:Nat)=>[(1,vI ↑d),(2,.string name),(3,vP b5),(7,vI ↑j)]) (λ(j:Nat)=>[.abs R,.aD b5 (rV Z Y) 45]) 0 [0,1] (⟨L4 _,λq hq=>KB hq (N5 q)⟩) ?_)))))))
 rintro j ⟨hj,jD⟩
 have hrw:=hB.toRB.row hd
 refine SQ (jK 10 [17] [(3,a_ 1 b5),(5,x_ d Z.ns.length (aN.hd hR.n (i:=d) d5)),(7,r_ (aN.rd hR.n (i:=d) d5 (j:=9) rfl))] (NN (cP ((((j:Nat):Int):Int)<((((nd Z.ns d).aq.length:Nat):Int):Int)) (λJg=>KX (av.seq (av.block (SR (jK 13 [32] [(2,a_ 1 b5),(4,x_ d Z.ns.length (aN.hd hR.n (i:=d) d5)),(6,r_ (aN.rd hR.n (i:=d) d5 (j:=9) rfl)),(8,x_ j ((nd Z.ns d).aq.length) (cV.hd (hR.n.aq d d5) (i:=j) d5)),(10,r_ (cV.rd (hR.n.aq d d5) (i:=j) d5 (j:=0) rfl)),(12,w_ (.bool (decide (((en (nd Z.ns d).aq j).name:ByteArray)=name))) (qH _ _))] (NN (cP (((en (nd Z.ns d).aq j).name:ByteArray)=name) (λr9=>av.seq (jM [0,1,2,3,4,5,6,7,8,9,10,11,12,513,514] [1] (jG 13 [34,45] [(1,a_ 0 b5),(4,a_ 0 b5),(6,x_ d Z.ns.length (aN.hd hR.n (i:=d) d5)),(8,r_ (aN.rd hR.n (i:=d) d5 (j:=9) rfl)),(10,x_ j ((nd Z.ns d).aq.length) (cV.hd (hR.n.aq d d5) (i:=j) d5)),(12,r_ (cV.rd (hR.n.aq d d5) (i:=j) d5 (j:=1) rfl))] (kL [1] [] (yV Y.A Y.c Z.ns Y.L hR.n hB.fU (by have:=hB.ns;omega) (en (nd Z.ns d).aq j).id) ?_ (by rintro _ _ ⟨rfl,rfl⟩;kernel_rfl))))) (λr9=>KX (av.region (jK 3 [7] [(1,wJ ((j:Int)+1) (↑(j+1)))] (NL (tJ ((j+1)) [0,1] (⟨d5,λq hq=>gn⟩))))))))))))) (λJg=>XX (zR ⟨zc (Value.int .i64) (Ve (λq hq=>jD q d5)),rfl⟩)))))
 rintro _ _ ⟨rfl,rfl⟩
 exact eH.last d6 (jK 1 [6] [] (NL (aF.np (NX (av.ret (aF.fM (aF.br (aF.br (aF.fM (aF.br (RT _ [0] (⟨zc (Value.int .i64) (Xt d5 r9 jD),rfl⟩))))))))))))
end
section
open Go.RowKit Go.Maps bw aH
attribute [local irreducible] aB bJ av aF cC
theorem MK (l:List Int) (x:Int):bL l++[vI x]=bL (l++[x]):=by simp [bL]
theorem jc (q:bC Int) (x:Int×Int):(q++[x]).length=q.length+1:=T3
theorem Lh {q:bC Int} {x:Int×Int} {B:Option Addr} {c:Nat} {k:Int} (h:k=x.1):HP.abs (aI 3 1 B (q.length+1) c (bL (aY q)++[vI k]))=HP.abs (aI 3 1 B (q++[x]).length c (bL (aY (q++[x])))):=by
 rw [Mg,←MK,jc,h]
theorem Li {q:bC Int} {x:Int×Int} {B:Option Addr} {c:Nat} {k:Int} (h:k=x.2):HP.abs (aI 3 1 B (q.length+1) c (bL (ji q)++[vI k]))=HP.abs (aI 3 1 B (q++[x]).length c (bL (ji (q++[x])))):=by
 rw [aay,←MK,jc,h]
theorem lU.keep {us q:bC Int} {h v:Int} {i:Nat} {d:Bool} (hp:lU us h v i d q) (hi:i<us.length) (hk:¬h<(pr us i).1):lU us h v (i+1) d (q++[pr us i]):=by
 cases d with
 |false=>exact hp.miss hi hk
 |true=>exact hp.more hi
theorem Fo {β:Bs} (M p:Int) (A B:Option Addr) (c d:Nat) (us:bC Int) (hA:cq β A (bL (aY us))) (hl:us.length<=16777216) (h:Int) :
 aU Tryz.prog β 114 #[.agg #[vI (M),vI (p),.slice A (us.length) (c),.slice B (us.length) (d)],vI h] [] (λv l=>v=vI (tX (aY us) h)/\l=[]):=by
 refine SE Tryz.func114 Tryz.ntmps114 (λR=>SR (jB 2 [2] (λb1=>.aD b1 [vI (M),vI (p),.slice A (us.length) (c),.slice B (us.length) (d)] 43) (λb1=>NZ (jK 1 [5] [] (NN (av.block (lJ (λ(i:Nat)=>(i<=us.length)/\(∀j,j<i->¬(aY us).getD j 0=h)) (λ(i:Nat)=>us.length-i) (λ(i:Nat)=>[(1,vI (h)),(2,vP b1),(5,vI ↑i)]) (λ(i:Nat)=>[.abs R,.aD b1 [vI (M),vI (p),.slice A (us.length) (c),.slice B (us.length) (d)] 43]) 0 [0,1] (⟨L4 _,λj hj=>KB hj (N5 j)⟩) ?_)))))))
 rintro i ⟨hi,jD⟩
 exact SQ (jK 5 [10] [(2,a_ 1 b1)] (NN (cP ((((i:Nat):Int):Int)<(((us.length:Nat):Int):Int)) (λh10=>KX (av.seq (av.block (SR (jK 7 [19] [(1,a_ 1 b1),(3,x_ i us.length (lT.hd hA (j:=i) (by rw [kD];omega))),(4,r_ (lT.rd hA (j:=i) (by rw [kD];omega)))] (NN (cP ((((aY us).getD i 0):Int)=(h:Int)) (λGS=>zR (v:=(vI ↑i)) ⟨by grind [Xq,kD],rfl⟩) (λGS=>KX (av.region (jK 3 [5] [(1,wJ ((i:Int)+1) (↑(i+1)))] (NL (tJ ((i+1)) [0,1] (⟨d5,λj hj=>(Pd.1 hj).elim (jD j) (λe=>e ▸ GS)⟩))))))))))))) (λh10=>XX (zR (v:=(vI (-1))) ⟨by grind [PU,kD],rfl⟩)))))
theorem aaG {β:Bs} (M p:Int) (A B:Option Addr) (c d:Nat) (us:bC Int) (x:Int) (hf:M<=(us.length:Int)) :
 aU Tryz.prog β 115 #[.agg #[vI (M),vI (p),.slice A (us.length) (c),.slice B (us.length) (d)],vI x] [] (λv l=>v=.tuple #[.agg #[vI (M),vI (p),.slice A (us.length) (c),.slice B (us.length) (d)],vI 0,vI 130]/\l=[]):=by
 exact SE Tryz.func115 Tryz.ntmps115 (λR=>SR (jB 1 [2] (λb2=>.aD b2 [vI (M),vI (p),.slice A (us.length) (c),.slice B (us.length) (d)] 43) (λb2=>jB 3 [4] (λb3=>.aD b3 [vI 0,vI 0,.slice none (0) (0),.slice none (0) (0)] 43) (λb3=>NZ (jK 6 [16] [(1,a_ 1 b2),(4,a_ 1 b2)] (NN (cP ((((us.length:Nat):Int):Int)>=(M:Int)) (λpz=>SR (jC 4 [5,6] [(0,A_ 1 b2 4),(1,A_ 2 b3 4)] [(2,[(0,vI (M)),(1,vI (p)),(2,.slice A (us.length) (c)),(3,.slice B (us.length) (d))])] (eS [A_ 2 b3 4] ⟨rfl,rfl⟩))) (λpz=>KB pz (by omega)))))))))
theorem adp {β:Bs} (M p:Int) (A B:Option Addr) (c d:Nat) (us:bC Int) (hA:cq β A (bL (aY us))) (hB:cq β B (bL (ji us))) (hl:us.length<=16777216) (hr:aH.dM (aY us)) (hp:∀z∈aY us,1<=z) (x:Int) (hf:(us.length:Int)<M) :
 aU Tryz.prog β 115 #[.agg #[vI (M),vI (p),.slice A (us.length) (c),.slice B (us.length) (d)],vI x] [] (λv l=>∃A' c' B' d',v=.tuple #[.agg #[vI (M),vI (max p ((us.length:Int)+1)),.slice A' (ins (aH.aR us) x us).length c',.slice B' (ins (aH.aR us) x us).length d'],vI (aH.aR us),vI 0]/\l=[.abs (aI 3 1 A' (ins (aH.aR us) x us).length c' (bL (aY (ins (aH.aR us) x us)))),.abs (aI 3 1 B' (ins (aH.aR us) x us).length d' (bL (ji (ins (aH.aR us) x us))))]):=by
 have hls:=U6 hr hp
 have dP:=aax us
 refine SE Tryz.func115 Tryz.ntmps115 (λR=>SR (jB 1 [2] (λb4=>.aD b4 [vI (M),vI (p),.slice A (us.length) (c),.slice B (us.length) (d)] 43) (λb4=>jB 3 [4] (λb5=>.aD b5 [vI 0,vI 0,.slice none (0) (0),.slice none (0) (0)] 43) (λb5=>NZ (jK 6 [16] [(1,a_ 1 b4),(4,a_ 1 b4)] (NN (cP ((((us.length:Nat):Int):Int)>=(M:Int)) (λpz=>KB pz (by omega)) (λpz=>KX (SR (jK 1 [7] [] (NN (av.seq (av.block (lJ (λ(g:Int)=>(1<=g)/\(g<=aH.aR us)) (λ(g:Int)=>(aH.aR us+1-g).toNat) (λ(g:Int)=>[(1,vI (x)),(2,vP b4),(4,vP b5),(7,vI (g))]) (λ(g:Int)=>[.abs R,.aD b4 [vI (M),vI (p),.slice A (us.length) (c),.slice B (us.length) (d)] 43,.aD b5 [vI 0,vI 0,.slice none (0) (0),.slice none (0) (0)] 43]) 1 [0,1,2] (⟨d5,hls.1⟩) ?_))))))))))))))
 rintro g ⟨hg1,hg2⟩
 refine SQ (jK 2 [18,19] [(0,A_ 1 b4 4)] (gE [] (Fo M p A B c d us hA hl g) (jK 1 [21] [] (NN (cP (((tX (aY us) g):Int)>=(0:Int)) (λyQ=>KX (av.block (av.region (jK 3 [7] [(1,wJ (g+1) (g+1))] (NL (aF.j8 (tJ ((g+1)) [0,1,2] (⟨d5,by grind [aY,SM]⟩)))))))) (λyQ=>XX (SR (sl 7 (vI (g)) (.int .i64 ((aH.aR us))) (abI (by rcases Int.lt_or_le g (aH.aR us) with h0|h0;exact KB (SM.2 (hls.2.2 g d5 h0)) yQ;omega)) (jN 7 [8] (λb6=>[(1,a_ 1 b4),(3,a_ 1 b4),(6,A_ 3 b6 4)]) (λ_=>[]) (λb6=>.aD b6 [vI (M),vI (p),.slice none (0) (0),.slice none (0) (0)] 43) (λb6=>NS (aB.mem (λw hS=>(hS.nN (e:=3) (size:=1)).nN (e:=3) (size:=1)) (jK 1 [9] [] (NZ (jK 1 [10] [] (NN (av.block (lJ (λ(i,dn,q,Ah,ch,Av,cv)=>(i<=us.length)/\(lU us (aH.aR us) x i dn q)) (λ(i,dn,q,Ah,ch,Av,cv)=>us.length-i) (λ(i,dn,q,Ah,ch,Av,cv)=>[(1,vI (x)),(2,vP b4),(4,vP b5),(7,vI ((aH.aR us))),(8,vP b6),(9,.bool dn),(10,vI ↑i)]) (λ(i,dn,q,Ah,ch,Av,cv)=>[.aD b4 [vI (M),vI (p),.slice A (us.length) (c),.slice B (us.length) (d)] 43,.aD b6 [vI (M),vI (p),.slice Ah (q.length) (ch),.slice Av (q.length) (cv)] 43,.abs (aI 3 1 Ah q.length ch (bL (aY q))),.abs (aI 3 1 Av q.length cv (bL (ji q))),.aD b5 [vI 0,vI 0,.slice none (0) (0),.slice none (0) (0)] 43,.abs R]) (0,false,[],none,0,none,0) [1,3,4,5,2,0] (⟨L4 _,lU.zero⟩) ?_)))))))))))))))))
 rintro⟨i,dn,q,Ah,ch,Av,cv⟩ ⟨hi,hpt⟩
 refine SQ (jK 5 [33] [(2,a_ 0 b4)] (NN (cP ((((i:Nat):Int):Int)<(((us.length:Nat):Int):Int)) (λL6=>?_) (λL6=>?_))))
 ·refine KX (av.seq (av.block (av.seq (SR ?_))))
  have hpi:=zn (us:=us) (i:=i) d5
  have wE:q.length<=i+1:=by have:=hpt.len;cases dn<;>simp at this<;>omega
  refine jK 8 [43] [(1,a_ 0 b4),(3,x_ i us.length (lT.hd hA (j:=i) (by rw [kD];omega))),(4,r_ (lT.rd hA (j:=i) (by rw [kD];omega)))] (sP 43 ((((aY us).getD i 0):Int)>((aH.aR us):Int)) (λJi=>?_) (λJi=>?_))
  ·refine jK 3 [46] [] (NN (av.cond (b:=(!dn)) (λ_=>d6) (λh46=>?_) (λh46=>?_)))
   ·refine SR (jN 4 [48,50] (λb7=>[(1,a_ 1 b6)]) (λ_=>[]) (λb7=>.aD b7 [vI ((aH.aR us))] 3) (λb7=>mO 2 41 (some ⟨b7,0,none⟩) 1 1 [vI ((aH.aR us))] rfl (gq (j:=6) rfl) (λA8 c9=>aB.cR 2 rfl (Lh (x:=(aH.aR us,x)) rfl) (sl 51 (.slice A8 (q.length+1) (c9)) (.slice A8 ((q++[(aH.aR us,x)]).length) (c9)) (by rw [jc q (aH.aR us,x)]) (jC 2 [] [(1,a_ 1 b6)] [(1,[(2,.slice A8 ((q++[(aH.aR us,x)]).length) (c9))])] (NS (jN 4 [54,56] (λb10=>[(1,a_ 1 b6)]) (λ_=>[]) (λb10=>.aD b10 [vI (x)] 3) (λb10=>mO 3 41 (some ⟨b10,0,none⟩) 1 1 [vI (x)] rfl (gq (j:=7) rfl) (λG9 c12=>aB.cR 3 rfl (Li (x:=(aH.aR us,x)) rfl) (sl 57 (.slice G9 (q.length+1) (c12)) (.slice G9 ((q++[(aH.aR us,x)]).length) (c12)) (by rw [jc q (aH.aR us,x)]) (jC 2 [] [(1,a_ 1 b6)] [(1,[(3,.slice G9 ((q++[(aH.aR us,x)]).length) (c12))])] (NN (av.region (jK 1 [9] [] (NN (av.seq (rM (List.range 11) 7 [0,1,4,5,6,7] (jR 7 [1,2,4,7,8,9,10,60,65] [(1,a_ 1 b6),(3,a_ 0 b4),(5,x_ i us.length (lT.hd hA (j:=i) (by rw [kD];omega))),(6,r_ (lT.rd hA (j:=i) (by rw [kD];omega)))] (mN [0,1,4,5,6,7] (λb13=>[(66,.slice (some ⟨b13,0,none⟩) (1) (1))]) (λ_=>[]) (λb13=>.aD b13 [vI (((aY us).getD i 0))] 3) (λb13=>cC.cut (ι:=(Option Addr)×Nat) (bN:=λ((Ed,c15):(Option Addr)×Nat)=>[(1,vI (x)),(2,vP b4),(4,vP b5),(7,vI (aH.aR us)),(8,vP b6),(9,.bool true),(10,vI ↑i),(67,.slice Ed (((q++[(aH.aR us,x)])++[(pr us i)]).length) (c15))]) (dh:=λ((Ed,c15):(Option Addr)×Nat)=>[.aD b4 [vI (M),vI (p),.slice A (us.length) (c),.slice B (us.length) (d)] 43,.aD b6 [vI (M),vI (p),.slice A8 ((q++[(aH.aR us,x)]).length) (c9),.slice G9 ((q++[(aH.aR us,x)]).length) (c12)] 43,.abs (aI 3 1 Ed (((q++[(aH.aR us,x)])++[(pr us i)]).length) c15 (bL (aY ((q++[(aH.aR us,x)])++[(pr us i)])))),.abs (aI 3 1 G9 ((q++[(aH.aR us,x)]).length) c12 (bL (ji (q++[(aH.aR us,x)])))),.aD b5 [vI 0,vI 0,.slice none (0) (0),.slice none (0) (0)] 43,.abs R,.aD b7 [vI ((aH.aR us))] 3,.aD b10 [vI (x)] 3,.aD b13 [vI (((aY us).getD i 0))] 3]) [0,1,4,5,6,7] rfl rfl ?_ rfl (λ_=>d6) ?_)))))))))))) (n:=q.length) (hb:=by have:=wE;have:=jc q (aH.aR us,x);omega))))))) (n:=q.length) (hb:=by have:=wE;have:=jc q (aH.aR us,x);omega)))
    ·exact mO 2 41 (some ⟨b13,0,none⟩) 1 1 [vI (((aY us).getD i 0))] rfl (gq (j:=8) rfl) (λEd c15=>aB.cR 2 rfl (Lh (x:=(pr us i)) hpi.1) (sl 67 (.slice Ed (((q++[(aH.aR us,x)]).length)+1) (c15)) (.slice Ed (((q++[(aH.aR us,x)])++[(pr us i)]).length) (c15)) (by rw [jc (q++[(aH.aR us,x)]) (pr us i)]) (NL (MD (Ed,c15) [1,2,4,7,8,9,10,67] [0,1,2,3,4,5,6,7,8])))) (n:=(q++[(aH.aR us,x)]).length) (hb:=by have:=wE;have:=jc q (aH.aR us,x);omega)
    rintro⟨Ed,c15⟩
    refine nC [0,1,4,5,6,7] [68] [] [] (cC.last rfl rfl (jC 1 [] [(0,a_ 1 b6)] [(1,[(2,.slice Ed (((q++[(aH.aR us,x)])++[(pr us i)]).length) (c15))])] (NL (aF.np (NX (rM (List.range 11) 7 [0,1,4,5,6,7,8] (jR 7 [1,2,4,7,8,9,10,70,75] [(1,a_ 1 b6),(3,a_ 0 b4),(5,x_ i us.length (lT.hd hB (j:=i) (by rw [mF];omega))),(6,r_ (lT.rd hB (j:=i) (by rw [mF];omega)))] (mN [0,1,4,5,6,7,8] (λb16=>[(76,.slice (some ⟨b16,0,none⟩) (1) (1))]) (λ_=>[]) (λb16=>.aD b16 [vI (((ji us).getD i 0))] 3) (λb16=>cC.cut (ι:=(Option Addr)×Nat) (bN:=λ((oO,c18):(Option Addr)×Nat)=>[(1,vI (x)),(2,vP b4),(4,vP b5),(7,vI (aH.aR us)),(8,vP b6),(9,.bool true),(10,vI ↑i),(77,.slice oO (((q++[(aH.aR us,x)])++[(pr us i)]).length) (c18))]) (dh:=λ((oO,c18):(Option Addr)×Nat)=>[.aD b4 [vI (M),vI (p),.slice A (us.length) (c),.slice B (us.length) (d)] 43,.aD b6 [vI (M),vI (p),.slice Ed (((q++[(aH.aR us,x)])++[(pr us i)]).length) (c15),.slice G9 ((q++[(aH.aR us,x)]).length) (c12)] 43,.abs (aI 3 1 Ed (((q++[(aH.aR us,x)])++[(pr us i)]).length) c15 (bL (aY ((q++[(aH.aR us,x)])++[(pr us i)])))),.abs (aI 3 1 oO (((q++[(aH.aR us,x)])++[(pr us i)]).length) c18 (bL (ji ((q++[(aH.aR us,x)])++[(pr us i)])))),.aD b5 [vI 0,vI 0,.slice none (0) (0),.slice none (0) (0)] 43,.abs R,.aD b7 [vI ((aH.aR us))] 3,.aD b10 [vI (x)] 3,.aD b13 [vI (((aY us).getD i 0))] 3,.aD b16 [vI (((ji us).getD i 0))] 3]) [0,1,4,5,6,7,8] rfl rfl ?_ rfl (λ_=>d6) ?_)))))))))
    ·exact mO 3 41 (some ⟨b16,0,none⟩) 1 1 [vI (((ji us).getD i 0))] rfl (gq (j:=9) rfl) (λoO c18=>aB.cR 3 rfl (Li (x:=(pr us i)) hpi.2) (sl 77 (.slice oO (((q++[(aH.aR us,x)]).length)+1) (c18)) (.slice oO (((q++[(aH.aR us,x)])++[(pr us i)]).length) (c18)) (by rw [jc (q++[(aH.aR us,x)]) (pr us i)]) (NL (MD (oO,c18) [1,2,4,7,8,9,10,77] [0,1,2,3,4,5,6,7,8,9])))) (n:=(q++[(aH.aR us,x)]).length) (hb:=by have:=wE;have:=jc q (aH.aR us,x);omega)
    rintro⟨oO,c18⟩
    exact nC [0,1,4,5,6,7,8] [78] [] [] (cC.last rfl rfl (jC 1 [] [(0,a_ 1 b6)] [(1,[(3,.slice oO (((q++[(aH.aR us,x)])++[(pr us i)]).length) (c18))])] (NL (aF.np (BX (av.region (jK 3 [10] [(1,wJ ((i:Int)+1) (↑(i+1)))] (NL (tJ ((i+1),true,((q++[(aH.aR us,x)])++[(pr us i)]),Ed,c15,oO,c18) [0,1,2,3,4,5] (⟨d5,lU.hit ((show dn=false by simpa using h46) ▸ hpt) d5 (by rw [←hpi.1];omega)⟩))))))))))
   refine KX (av.seq (rM (List.range 11) 7 [0,1,4,5] (jR 7 [1,2,4,7,8,9,10,60,65] [(1,a_ 1 b6),(3,a_ 0 b4),(5,x_ i us.length (lT.hd hA (j:=i) (by rw [kD];omega))),(6,r_ (lT.rd hA (j:=i) (by rw [kD];omega)))] (mN [0,1,4,5] (λb19=>[(66,.slice (some ⟨b19,0,none⟩) (1) (1))]) (λ_=>[]) (λb19=>.aD b19 [vI (((aY us).getD i 0))] 3) (λb19=>cC.cut (ι:=(Option Addr)×Nat) (bN:=λ((og,oh):(Option Addr)×Nat)=>[(1,vI (x)),(2,vP b4),(4,vP b5),(7,vI (aH.aR us)),(8,vP b6),(9,.bool dn),(10,vI ↑i),(67,.slice og ((q++[(pr us i)]).length) (oh))]) (dh:=λ((og,oh):(Option Addr)×Nat)=>[.aD b4 [vI (M),vI (p),.slice A (us.length) (c),.slice B (us.length) (d)] 43,.aD b6 [vI (M),vI (p),.slice Ah (q.length) (ch),.slice Av (q.length) (cv)] 43,.abs (aI 3 1 og ((q++[(pr us i)]).length) oh (bL (aY (q++[(pr us i)])))),.abs (aI 3 1 Av q.length cv (bL (ji q))),.aD b5 [vI 0,vI 0,.slice none (0) (0),.slice none (0) (0)] 43,.abs R,.aD b19 [vI (((aY us).getD i 0))] 3]) [0,1,4,5] rfl rfl ?_ rfl (λ_=>d6) ?_)))))
   ·exact mO 2 41 (some ⟨b19,0,none⟩) 1 1 [vI (((aY us).getD i 0))] rfl (gq (j:=6) rfl) (λog oh=>aB.cR 2 rfl (Lh (x:=(pr us i)) hpi.1) (sl 67 (.slice og (q.length+1) (oh)) (.slice og ((q++[(pr us i)]).length) (oh)) (by rw [jc q (pr us i)]) (NL (MD (og,oh) [1,2,4,7,8,9,10,67] [0,1,2,3,4,5,6])))) (n:=q.length) (hb:=by have:=wE;have:=jc q (aH.aR us,x);omega)
   rintro⟨og,oh⟩
   refine nC [0,1,4,5] [68] [] [] (cC.last rfl rfl (jC 1 [] [(0,a_ 1 b6)] [(1,[(2,.slice og ((q++[(pr us i)]).length) (oh))])] (NL (aF.np (NX (rM (List.range 11) 7 [0,1,4,5,6] (jR 7 [1,2,4,7,8,9,10,70,75] [(1,a_ 1 b6),(3,a_ 0 b4),(5,x_ i us.length (lT.hd hB (j:=i) (by rw [mF];omega))),(6,r_ (lT.rd hB (j:=i) (by rw [mF];omega)))] (mN [0,1,4,5,6] (λo6=>[(76,.slice (some ⟨o6,0,none⟩) (1) (1))]) (λ_=>[]) (λo6=>.aD o6 [vI (((ji us).getD i 0))] 3) (λo6=>cC.cut (ι:=(Option Addr)×Nat) (bN:=λ((tU,tV):(Option Addr)×Nat)=>[(1,vI (x)),(2,vP b4),(4,vP b5),(7,vI (aH.aR us)),(8,vP b6),(9,.bool dn),(10,vI ↑i),(77,.slice tU ((q++[(pr us i)]).length) (tV))]) (dh:=λ((tU,tV):(Option Addr)×Nat)=>[.aD b4 [vI (M),vI (p),.slice A (us.length) (c),.slice B (us.length) (d)] 43,.aD b6 [vI (M),vI (p),.slice og ((q++[(pr us i)]).length) (oh),.slice Av (q.length) (cv)] 43,.abs (aI 3 1 og ((q++[(pr us i)]).length) oh (bL (aY (q++[(pr us i)])))),.abs (aI 3 1 tU ((q++[(pr us i)]).length) tV (bL (ji (q++[(pr us i)])))),.aD b5 [vI 0,vI 0,.slice none (0) (0),.slice none (0) (0)] 43,.abs R,.aD b19 [vI (((aY us).getD i 0))] 3,.aD o6 [vI (((ji us).getD i 0))] 3]) [0,1,4,5,6] rfl rfl ?_ rfl (λ_=>d6) ?_)))))))))
   ·exact mO 3 41 (some ⟨o6,0,none⟩) 1 1 [vI (((ji us).getD i 0))] rfl (gq (j:=7) rfl) (λtU tV=>aB.cR 3 rfl (Li (x:=(pr us i)) hpi.2) (sl 77 (.slice tU (q.length+1) (tV)) (.slice tU ((q++[(pr us i)]).length) (tV)) (by rw [jc q (pr us i)]) (NL (MD (tU,tV) [1,2,4,7,8,9,10,77] [0,1,2,3,4,5,6,7])))) (n:=q.length) (hb:=by have:=wE;have:=jc q (aH.aR us,x);omega)
   rintro⟨tU,tV⟩
   exact nC [0,1,4,5,6] [78] [] [] (cC.last rfl rfl (jC 1 [] [(0,a_ 1 b6)] [(1,[(3,.slice tU ((q++[(pr us i)]).length) (tV))])] (NL (aF.np (BX (av.region (jK 3 [10] [(1,wJ ((i:Int)+1) (↑(i+1)))] (NL (tJ ((i+1),dn,(q++[(pr us i)]),og,oh,tU,tV) [0,1,2,3,4,5] (⟨d5,(show dn=true by simpa using h46) ▸ lU.more ((show dn=true by simpa using h46) ▸ hpt) d5⟩))))))))))
  refine jK 3 [46] [] (NF (KX (av.seq (rM (List.range 11) 7 [0,1,4,5] (jR 7 [1,2,4,7,8,9,10,60,65] [(1,a_ 1 b6),(3,a_ 0 b4),(5,x_ i us.length (lT.hd hA (j:=i) (by rw [kD];omega))),(6,r_ (lT.rd hA (j:=i) (by rw [kD];omega)))] (mN [0,1,4,5] (λvW=>[(66,.slice (some ⟨vW,0,none⟩) (1) (1))]) (λ_=>[]) (λvW=>.aD vW [vI (((aY us).getD i 0))] 3) (λvW=>cC.cut (ι:=(Option Addr)×Nat) (bN:=λ((qh,qi):(Option Addr)×Nat)=>[(1,vI (x)),(2,vP b4),(4,vP b5),(7,vI (aH.aR us)),(8,vP b6),(9,.bool dn),(10,vI ↑i),(67,.slice qh ((q++[(pr us i)]).length) (qi))]) (dh:=λ((qh,qi):(Option Addr)×Nat)=>[.aD b4 [vI (M),vI (p),.slice A (us.length) (c),.slice B (us.length) (d)] 43,.aD b6 [vI (M),vI (p),.slice Ah (q.length) (ch),.slice Av (q.length) (cv)] 43,.abs (aI 3 1 qh ((q++[(pr us i)]).length) qi (bL (aY (q++[(pr us i)])))),.abs (aI 3 1 Av q.length cv (bL (ji q))),.aD b5 [vI 0,vI 0,.slice none (0) (0),.slice none (0) (0)] 43,.abs R,.aD vW [vI (((aY us).getD i 0))] 3]) [0,1,4,5] rfl rfl ?_ rfl (λ_=>d6) ?_)))))))
  ·exact mO 2 41 (some ⟨vW,0,none⟩) 1 1 [vI (((aY us).getD i 0))] rfl (gq (j:=6) rfl) (λqh qi=>aB.cR 2 rfl (Lh (x:=(pr us i)) hpi.1) (sl 67 (.slice qh (q.length+1) (qi)) (.slice qh ((q++[(pr us i)]).length) (qi)) (by rw [jc q (pr us i)]) (NL (MD (qh,qi) [1,2,4,7,8,9,10,67] [0,1,2,3,4,5,6])))) (n:=q.length) (hb:=by have:=wE;have:=jc q (aH.aR us,x);omega)
  rintro⟨qh,qi⟩
  refine nC [0,1,4,5] [68] [] [] (cC.last rfl rfl (jC 1 [] [(0,a_ 1 b6)] [(1,[(2,.slice qh ((q++[(pr us i)]).length) (qi))])] (NL (aF.np (NX (rM (List.range 11) 7 [0,1,4,5,6] (jR 7 [1,2,4,7,8,9,10,70,75] [(1,a_ 1 b6),(3,a_ 0 b4),(5,x_ i us.length (lT.hd hB (j:=i) (by rw [mF];omega))),(6,r_ (lT.rd hB (j:=i) (by rw [mF];omega)))] (mN [0,1,4,5,6] (λnE=>[(76,.slice (some ⟨nE,0,none⟩) (1) (1))]) (λ_=>[]) (λnE=>.aD nE [vI (((ji us).getD i 0))] 3) (λnE=>cC.cut (ι:=(Option Addr)×Nat) (bN:=λ((AA,AB):(Option Addr)×Nat)=>[(1,vI (x)),(2,vP b4),(4,vP b5),(7,vI (aH.aR us)),(8,vP b6),(9,.bool dn),(10,vI ↑i),(77,.slice AA ((q++[(pr us i)]).length) (AB))]) (dh:=λ((AA,AB):(Option Addr)×Nat)=>[.aD b4 [vI (M),vI (p),.slice A (us.length) (c),.slice B (us.length) (d)] 43,.aD b6 [vI (M),vI (p),.slice qh ((q++[(pr us i)]).length) (qi),.slice Av (q.length) (cv)] 43,.abs (aI 3 1 qh ((q++[(pr us i)]).length) qi (bL (aY (q++[(pr us i)])))),.abs (aI 3 1 AA ((q++[(pr us i)]).length) AB (bL (ji (q++[(pr us i)])))),.aD b5 [vI 0,vI 0,.slice none (0) (0),.slice none (0) (0)] 43,.abs R,.aD vW [vI (((aY us).getD i 0))] 3,.aD nE [vI (((ji us).getD i 0))] 3]) [0,1,4,5,6] rfl rfl ?_ rfl (λ_=>d6) ?_)))))))))
  ·exact mO 3 41 (some ⟨nE,0,none⟩) 1 1 [vI (((ji us).getD i 0))] rfl (gq (j:=7) rfl) (λAA AB=>aB.cR 3 rfl (Li (x:=(pr us i)) hpi.2) (sl 77 (.slice AA (q.length+1) (AB)) (.slice AA ((q++[(pr us i)]).length) (AB)) (by rw [jc q (pr us i)]) (NL (MD (AA,AB) [1,2,4,7,8,9,10,77] [0,1,2,3,4,5,6,7])))) (n:=q.length) (hb:=by have:=wE;have:=jc q (aH.aR us,x);omega)
  rintro⟨AA,AB⟩
  exact nC [0,1,4,5,6] [78] [] [] (cC.last rfl rfl (jC 1 [] [(0,a_ 1 b6)] [(1,[(3,.slice AA ((q++[(pr us i)]).length) (AB))])] (NL (aF.np (BX (av.region (jK 3 [10] [(1,wJ ((i:Int)+1) (↑(i+1)))] (NL (tJ ((i+1),dn,(q++[(pr us i)]),qh,qi,AA,AB) [0,1,2,3,4,5] (⟨d5,hpt.keep d5 (by rw [←hpi.1];omega)⟩))))))))))
 refine XX (av.seq (SR ?_))
 have hiu:i=us.length:=d5
 subst hiu
 have wE:q.length<=us.length+1:=by have:=hpt.len;cases dn<;>simp at this<;>omega
 refine jK 2 [80] [] (NN (av.cond (b:=(!dn)) (λ_=>d6) (λXx=>?_) (λXx=>?_)))
 ·refine SR (jN 4 [82,84] (λtW=>[(1,a_ 1 b6)]) (λ_=>[]) (λtW=>.aD tW [vI ((aH.aR us))] 3) (λtW=>mO 2 41 (some ⟨tW,0,none⟩) 1 1 [vI ((aH.aR us))] rfl (gq (j:=6) rfl) (λJ1 J2=>aB.cR 2 rfl (Lh (x:=(aH.aR us,x)) rfl) (sl 85 (.slice J1 (q.length+1) (J2)) (.slice J1 ((q++[(aH.aR us,x)]).length) (J2)) (by rw [jc q (aH.aR us,x)]) (jC 2 [] [(1,a_ 1 b6)] [(1,[(2,.slice J1 ((q++[(aH.aR us,x)]).length) (J2))])] (NN (av.region (jN 4 [88,90] (λvG=>[(1,a_ 1 b6)]) (λ_=>[]) (λvG=>.aD vG [vI (x)] 3) (λvG=>mO 3 41 (some ⟨vG,0,none⟩) 1 1 [vI (x)] rfl (gq (j:=7) rfl) (λJ3 J4=>aB.cR 3 rfl (Li (x:=(aH.aR us,x)) rfl) (sl 91 (.slice J3 (q.length+1) (J4)) (.slice J3 ((q++[(aH.aR us,x)]).length) (J4)) (by rw [jc q (aH.aR us,x)]) (jC 2 [] [(1,a_ 1 b6)] [(1,[(3,.slice J3 ((q++[(aH.aR us,x)]).length) (J4))])] (NZ (jK 6 [98] [(1,a_ 1 b6),(4,a_ 1 b6)] (NN (cP (((((q++[(aH.aR us,x)]).length:Nat):Int):Int)>(p:Int)) (λXp=>?_) (λXp=>?_)))))))) (n:=q.length) (hb:=by have:=wE;have:=jc q (aH.aR us,x);omega)))))))) (n:=q.length) (hb:=by have:=wE;have:=jc q (aH.aR us,x);omega)))
  ·refine av.region (jC 5 [] [(1,a_ 1 b6),(4,a_ 1 b6)] [(1,[(1,vI ↑((q++[(aH.aR us,x)]).length))])] (NS (jC 5 [5,6] [(0,A_ 1 b6 4),(2,A_ 4 b5 4)] [(4,[(0,vI (M)),(1,vI ↑((q++[(aH.aR us,x)]).length)),(2,.slice J1 ((q++[(aH.aR us,x)]).length) (J2)),(3,.slice J3 ((q++[(aH.aR us,x)]).length) (J4))])] (NN (av.ret ?_)))))
   have hq:(q++[(aH.aR us,x)])=ins (aH.aR us) x us:=lU.last ((show dn=false by simpa using Xx) ▸ hpt)
   have hql:((q++[(aH.aR us,x)])).length=us.length+1:=by rw [hq,kR]
   skip
   exact rT (.tuple #[.agg #[vI (M),vI ↑((q++[(aH.aR us,x)]).length),.slice J1 ((q++[(aH.aR us,x)]).length) (J2),.slice J3 ((q++[(aH.aR us,x)]).length) (J4)],vI ((aH.aR us)),vI 0]) [A_ 4 b5 4] [2,3,5] (⟨J1,J2,J3,J4,gn,by rw [←hq]⟩)
  refine KX (SR (jC 5 [5,6] [(0,A_ 1 b6 4),(2,A_ 4 b5 4)] [(4,[(0,vI (M)),(1,vI (p)),(2,.slice J1 ((q++[(aH.aR us,x)]).length) (J2)),(3,.slice J3 ((q++[(aH.aR us,x)]).length) (J4))])] (NN (av.ret ?_))))
  have hq:(q++[(aH.aR us,x)])=ins (aH.aR us) x us:=lU.last ((show dn=false by simpa using Xx) ▸ hpt)
  have hql:((q++[(aH.aR us,x)])).length=us.length+1:=by rw [hq,kR]
  skip
  exact rT (.tuple #[.agg #[vI (M),vI (p),.slice J1 ((q++[(aH.aR us,x)]).length) (J2),.slice J3 ((q++[(aH.aR us,x)]).length) (J4)],vI ((aH.aR us)),vI 0]) [A_ 4 b5 4] [2,3,5] (⟨J1,J2,J3,J4,gn,by rw [←hq]⟩)
 refine KX (SQ (jK 6 [98] [(1,a_ 1 b6),(4,a_ 1 b6)] (NN (cP ((((q.length:Nat):Int):Int)>(p:Int)) (λXp=>?_) (λXp=>?_)))))
 ·refine av.region (jC 5 [] [(1,a_ 1 b6),(4,a_ 1 b6)] [(1,[(1,vI ↑q.length)])] (NS (jC 5 [5,6] [(0,A_ 1 b6 4),(2,A_ 4 b5 4)] [(4,[(0,vI (M)),(1,vI ↑q.length),(2,.slice Ah (q.length) (ch)),(3,.slice Av (q.length) (cv))])] (NN (av.ret ?_)))))
  have hq:q=ins (aH.aR us) x us:=lU.end_ ((show dn=true by simpa using Xx) ▸ hpt)
  have hql:(q).length=us.length+1:=by rw [hq,kR]
  skip
  exact rT (.tuple #[.agg #[vI (M),vI ↑q.length,.slice Ah (q.length) (ch),.slice Av (q.length) (cv)],vI ((aH.aR us)),vI 0]) [A_ 4 b5 4] [2,3,5] (⟨Ah,ch,Av,cv,gn,by rw [←hq]⟩)
 refine KX (SR (jC 5 [5,6] [(0,A_ 1 b6 4),(2,A_ 4 b5 4)] [(4,[(0,vI (M)),(1,vI (p)),(2,.slice Ah (q.length) (ch)),(3,.slice Av (q.length) (cv))])] (NN (av.ret ?_))))
 have hq:q=ins (aH.aR us) x us:=lU.end_ ((show dn=true by simpa using Xx) ▸ hpt)
 have hql:(q).length=us.length+1:=by rw [hq,kR]
 skip
 exact rT (.tuple #[.agg #[vI (M),vI (p),.slice Ah (q.length) (ch),.slice Av (q.length) (cv)],vI ((aH.aR us)),vI 0]) [A_ 4 b5 4] [2,3,5] (⟨Ah,ch,Av,cv,gn,by rw [←hq]⟩)
theorem aaH {β:Bs} (M p:Int) (A B:Option Addr) (c d:Nat) (us:bC Int) (hA:cq β A (bL (aY us))) (hB:cq β B (bL (ji us))) (hl:us.length<=16777216) (h:Int) (hr:aH.dM (aY us)) (k:Nat) (hk:k<us.length) (fT:tX (aY us) h=(k:Int)) (hx:(aY us).getD k 0=h) :
 aU Tryz.prog β 96 #[.agg #[vI (M),vI (p),.slice A (us.length) (c),.slice B (us.length) (d)],vI h] [] (λv l=>∃A' c' B' d',v=.tuple #[.agg #[vI (M),vI (p),.slice A' (del h us).length c',.slice B' (del h us).length d'],vI ((ji us).getD k 0),vI 0]/\l=[.abs (aI 3 1 A' (del h us).length c' (bL (aY (del h us)))),.abs (aI 3 1 B' (del h us).length d' (bL (ji (del h us))))]):=by
 have hkp:=zn hk
 refine SE Tryz.func96 Tryz.ntmps96 (λR=>SR (jB 1 [2] (λAK=>.aD AK [vI (M),vI (p),.slice A (us.length) (c),.slice B (us.length) (d)] 43) (λAK=>jB 3 [4] (λAL=>.aD AL [vI 0,vI 0,.slice none (0) (0),.slice none (0) (0)] 43) (λAL=>NS (jK 2 [10,11] [(0,A_ 1 AK 4)] (gE [] (Fo M p A B c d us hA hl h) (sl 12 (vI ((tX (aY us) h))) (.int .i64 ↑k) (abI fT) (jK 1 [7] [] (NZ (jK 2 [14] [(1,wF (((k:Int):Int)<(0:Int)))] (NF (KX (SR (jN 7 [8] (λAO=>[(1,a_ 1 AK),(3,a_ 1 AK),(6,A_ 3 AO 4)]) (λ_=>[]) (λAO=>.aD AO [vI (M),vI (p),.slice none (0) (0),.slice none (0) (0)] 43) (λAO=>NZ (aB.mem (λw hS=>(hS.nN (e:=3) (size:=1)).nN (e:=3) (size:=1)) (jK 1 [9] [] (NN (av.block (lJ (λ(i,q,Ah,ch,Av,cv)=>(i<=us.length)/\(q=del h (us.take i))/\(q.length<=i)) (λ(i,q,Ah,ch,Av,cv)=>us.length-i) (λ(i,q,Ah,ch,Av,cv)=>[(2,vP AK),(4,vP AL),(7,vI ↑k),(8,vP AO),(9,vI ↑i)]) (λ(i,q,Ah,ch,Av,cv)=>[.aD AK [vI (M),vI (p),.slice A (us.length) (c),.slice B (us.length) (d)] 43,.aD AO [vI (M),vI (p),.slice Ah (q.length) (ch),.slice Av (q.length) (cv)] 43,.abs (aI 3 1 Ah q.length ch (bL (aY q))),.abs (aI 3 1 Av q.length cv (bL (ji q))),.aD AL [vI 0,vI 0,.slice none (0) (0),.slice none (0) (0)] 43,.abs R]) (0,[],none,0,none,0) [1,3,4,5,2,0] (⟨L4 _,by rw [List.take_zero];rfl,N6 _⟩) ?_))))))))))))))))))))
 rintro⟨i,q,Ah,ch,Av,cv⟩ ⟨hi,hq,wE⟩
 refine SQ (jK 5 [25] [(2,a_ 0 AK)] (NN (cP ((((i:Nat):Int):Int)<(((us.length:Nat):Int):Int)) (λqJ=>?_) (λqJ=>?_))))
 ·refine KX (av.seq (av.block (SR ?_)))
  have hpi:=zn (us:=us) (i:=i) d5
  refine jK 3 [30] [] (NN (cN ((((i:Nat):Int):Int)=(((k:Nat):Int):Int)) (λrF=>av.seq (rM (List.range 11) 7 [0,1,4,5] (jR 7 [2,4,7,8,9,32,37] [(1,a_ 1 AO),(3,a_ 0 AK),(5,x_ i us.length (lT.hd hA (j:=i) (by rw [kD];omega))),(6,r_ (lT.rd hA (j:=i) (by rw [kD];omega)))] (mN [0,1,4,5] (λPY=>[(38,.slice (some ⟨PY,0,none⟩) (1) (1))]) (λ_=>[]) (λPY=>.aD PY [vI (((aY us).getD i 0))] 3) (λPY=>cC.cut (ι:=(Option Addr)×Nat) (bN:=λ((Ee,Ef):(Option Addr)×Nat)=>[(2,vP AK),(4,vP AL),(7,vI ↑k),(8,vP AO),(9,vI ↑i),(39,.slice Ee ((q++[(pr us i)]).length) (Ef))]) (dh:=λ((Ee,Ef):(Option Addr)×Nat)=>[.aD AK [vI (M),vI (p),.slice A (us.length) (c),.slice B (us.length) (d)] 43,.aD AO [vI (M),vI (p),.slice Ah (q.length) (ch),.slice Av (q.length) (cv)] 43,.abs (aI 3 1 Ee ((q++[(pr us i)]).length) Ef (bL (aY (q++[(pr us i)])))),.abs (aI 3 1 Av q.length cv (bL (ji q))),.aD AL [vI 0,vI 0,.slice none (0) (0),.slice none (0) (0)] 43,.abs R,.aD PY [vI (((aY us).getD i 0))] 3]) [0,1,4,5] rfl rfl ?_ rfl (λ_=>d6) ?_))))) (λrF=>KX (av.region (jK 3 [9] [(1,wJ ((i:Int)+1) (↑(i+1)))] (NL (tJ ((i+1),q,Ah,ch,Av,cv) [0,1,2,3,4,5] (⟨d5,by grind [PX],gn⟩))))))))
  ·exact mO 2 41 (some ⟨PY,0,none⟩) 1 1 [vI (((aY us).getD i 0))] rfl (gq (j:=6) rfl) (λEe Ef=>aB.cR 2 rfl (Lh (x:=(pr us i)) hpi.1) (sl 39 (.slice Ee (q.length+1) (Ef)) (.slice Ee ((q++[(pr us i)]).length) (Ef)) (by rw [jc q (pr us i)]) (NL (MD (Ee,Ef) [2,4,7,8,9,39] [0,1,2,3,4,5,6])))) (n:=q.length) (hb:=by have:=wE;have:=wE;omega)
  rintro⟨Ee,Ef⟩
  refine nC [0,1,4,5] [40] [] [] (cC.last rfl rfl (jC 1 [] [(0,a_ 1 AO)] [(1,[(2,.slice Ee ((q++[(pr us i)]).length) (Ef))])] (NL (aF.np (NX (rM (List.range 11) 7 [0,1,4,5,6] (jR 7 [2,4,7,8,9,42,47] [(1,a_ 1 AO),(3,a_ 0 AK),(5,x_ i us.length (lT.hd hB (j:=i) (by rw [mF];omega))),(6,r_ (lT.rd hB (j:=i) (by rw [mF];omega)))] (mN [0,1,4,5,6] (λSN=>[(48,.slice (some ⟨SN,0,none⟩) (1) (1))]) (λ_=>[]) (λSN=>.aD SN [vI (((ji us).getD i 0))] 3) (λSN=>cC.cut (ι:=(Option Addr)×Nat) (bN:=λ((He,Hf):(Option Addr)×Nat)=>[(2,vP AK),(4,vP AL),(7,vI ↑k),(8,vP AO),(9,vI ↑i),(49,.slice He ((q++[(pr us i)]).length) (Hf))]) (dh:=λ((He,Hf):(Option Addr)×Nat)=>[.aD AK [vI (M),vI (p),.slice A (us.length) (c),.slice B (us.length) (d)] 43,.aD AO [vI (M),vI (p),.slice Ee ((q++[(pr us i)]).length) (Ef),.slice Av (q.length) (cv)] 43,.abs (aI 3 1 Ee ((q++[(pr us i)]).length) Ef (bL (aY (q++[(pr us i)])))),.abs (aI 3 1 He ((q++[(pr us i)]).length) Hf (bL (ji (q++[(pr us i)])))),.aD AL [vI 0,vI 0,.slice none (0) (0),.slice none (0) (0)] 43,.abs R,.aD PY [vI (((aY us).getD i 0))] 3,.aD SN [vI (((ji us).getD i 0))] 3]) [0,1,4,5,6] rfl rfl ?_ rfl (λ_=>d6) ?_)))))))))
  ·exact mO 3 41 (some ⟨SN,0,none⟩) 1 1 [vI (((ji us).getD i 0))] rfl (gq (j:=7) rfl) (λHe Hf=>aB.cR 3 rfl (Li (x:=(pr us i)) hpi.2) (sl 49 (.slice He (q.length+1) (Hf)) (.slice He ((q++[(pr us i)]).length) (Hf)) (by rw [jc q (pr us i)]) (NL (MD (He,Hf) [2,4,7,8,9,49] [0,1,2,3,4,5,6,7])))) (n:=q.length) (hb:=by have:=wE;have:=wE;omega)
  rintro⟨He,Hf⟩
  exact nC [0,1,4,5,6] [50] [] [] (cC.last rfl rfl (jC 1 [] [(0,a_ 1 AO)] [(1,[(3,.slice He ((q++[(pr us i)]).length) (Hf))])] (NL (aF.np (BX (av.region (jK 3 [9] [(1,wJ ((i:Int)+1) (↑(i+1)))] (NL (tJ ((i+1),(q++[(pr us i)]),Ee,Ef,He,Hf) [0,1,2,3,4,5] (⟨d5,(by grind [PX,J0]),gn⟩))))))))))
 refine XX (av.seq (rM (List.range 9) 6 [0,1] (jR 6 [4,51,56] [(0,A_ 1 AO 4),(2,a_ 0 AK),(4,x_ k us.length (lT.hd hB (j:=k) (by rw [mF];omega))),(5,r_ (lT.rd hB (j:=k) (by rw [mF];omega)))] (nC [0,1] [] [(0,A_ 4 AL 4)] [(4,[(0,vI (M)),(1,vI (p)),(2,.slice Ah (q.length) (ch)),(3,.slice Av (q.length) (cv))])] (nC [0,1] [5] [] [] (cC.last rfl rfl (jK 1 [6] [] (NL (aF.np (NX (av.ret ?_)))))))))))
 have CY:q=del h us:=gn
 exact rT _ [A_ 4 AL 4] [2,3,5] (⟨Ah,ch,Av,cv,by rw [←CY],by rw [←CY]⟩)
theorem Vg {β:Bs} (M p:Int) (A B:Option Addr) (c d:Nat) (us:bC Int) (hA:cq β A (bL (aY us))) (hl:us.length<=16777216) (h:Int) (fT:tX (aY us) h = -1) :
 aU Tryz.prog β 96 #[.agg #[vI (M),vI (p),.slice A (us.length) (c),.slice B (us.length) (d)],vI h] [] (λv l=>v=.tuple #[.agg #[vI (M),vI (p),.slice A (us.length) (c),.slice B (us.length) (d)],vI 0,vI 131]/\l=[]):=by
 exact SE Tryz.func96 Tryz.ntmps96 (λR=>SR (jB 1 [2] (λt6=>.aD t6 [vI (M),vI (p),.slice A (us.length) (c),.slice B (us.length) (d)] 43) (λt6=>jB 3 [4] (λyA=>.aD yA [vI 0,vI 0,.slice none (0) (0),.slice none (0) (0)] 43) (λyA=>NS (jK 2 [10,11] [(0,A_ 1 t6 4)] (gE [] (Fo M p A B c d us hA hl h) (jK 1 [7] [] (NZ (jK 2 [14] [] (NN (cP (((tX (aY us) h):Int)<(0:Int)) (λnO=>SR (jC 4 [5,6] [(0,A_ 1 t6 4),(1,A_ 2 yA 4)] [(2,[(0,vI (M)),(1,vI (p)),(2,.slice A (us.length) (c)),(3,.slice B (us.length) (d))])] (eS [A_ 2 yA 4] ⟨rfl,rfl⟩))) (λnO=>KB nO (by omega)))))))))))))
end
section
open Go.RowKit Go.Maps bw aH
section p
variable {R:RS} {h fH e id:Int} {name:ByteArray} {d k to:Nat} {c:aK} {n:aO}
def exV:Except Int Nat->Value
 |.error e=>.tuple #[.int .i64 0,.int .i64 e]
 |.ok k=>.tuple #[.int .i64 k,.int .i64 0]
theorem Xy {us:bC Int} (hr:aH.dM (aY us)) {h:Int} (hm:h∈aY us):∃k:Nat,tX (aY us) h=(k:Int)/\k<us.length/\(aY us).getD k 0=h/\aH.get us h=some ((ji us).getD k 0):=by
 grind [SJ,kD,zn,aeN]
theorem Lj (hm:h∉aY R.us):tX (aY R.us) h = -1/\oU R h=.error 131:=⟨SK hm,by unfold oU;rw [get_none.2 hm]⟩
theorem SV (hC:RC R) (hm:h∈aY R.us):∃k:Nat,tX (aY R.us) h=(k:Int)/\k<R.us.length/\oU R h=.ok (bZ R.ns ((ji R.us).getD k 0))/\gU R.ns ((ji R.us).getD k 0)=(bZ R.ns ((ji R.us).getD k 0):Int):=by
 obtain⟨k,h1,h2,h3,h4⟩:=Xy hC.usr hm
 exact⟨k,h1,h2,by unfold oU;rw [h4],(mR (hC.hand _ (BQ (by rw [mF];exact h2)))).2.2⟩
theorem J5 (hC:RC R) (h:Int):oU R h=.error 131\/∃k,oU R h=.ok k/\k<R.ns.length:=by
 by_cases hm:h∈aY R.us
 ·obtain⟨k,_,h2,h3,_⟩:=SV hC hm
  exact .inr ⟨_,h3,(mR (hC.hand _ (BQ (by rw [mF];exact h2)))).1⟩
 exact .inl (Lj hm).2
theorem Xz (hh:oU R h=.error e):lM R h name fH=.error e:=by unfold lM;rw [hh]
theorem SX (hh:oU R h=.ok d) (hk:¬(nd R.ns d).kind=2):lM R h name fH=.error 173:=by unfold lM;rw [hh];exact nw hk
theorem PZ (hh:oU R h=.ok d) (hk:(nd R.ns d).kind=2) (hg:(nd R.ns d).id∈R.aJ):lM R h name fH=.error 170:=by unfold lM;rw [hh];exact (t8 hk).trans (t8 hg)
theorem P0 (hh:oU R h=.ok d) (hk:(nd R.ns d).kind=2) (hg:¬(nd R.ns d).id∈R.aJ) (hn:¬bW name):lM R h name fH=.error 95:=by unfold lM;rw [hh];exact (t8 hk).trans ((nw hg).trans (nw hn))
theorem P4 (hh:oU R h=.ok d) (hk:(nd R.ns d).kind=2) (hg:¬(nd R.ns d).id∈R.aJ) (hn:bW name) (hb:¬bits BinOp.and .i64 (nd R.ns d).mode fH=fH):lM R h name fH=.error 175:=by unfold lM;rw [hh];exact (t8 hk).trans ((nw hg).trans ((t8 hn).trans (nw hb)))
theorem XA (hh:oU R h=.ok d) (hk:(nd R.ns d).kind=2) (hg:¬(nd R.ns d).id∈R.aJ) (hn:bW name) (hb:bits BinOp.and .i64 (nd R.ns d).mode fH=fH):lM R h name fH=.ok d:=by unfold lM;rw [hh];exact (t8 hk).trans ((nw hg).trans ((t8 hn).trans (t8 hb)))
theorem ML (hC:RC R) (h:Int) (name:ByteArray) (fH:Int):(∃e,lM R h name fH=.error e/\¬e=0)\/∃d,lM R h name fH=.ok d/\d<R.ns.length:=by
 rcases J5 hC h with hh|⟨k,hh,hk⟩
 all_goals grind [Xz,nd,PZ,bW,XA,P4,P0,SX]
theorem nY (ns:List aO) (d:Nat) (name:ByteArray):cQ ns d name = -1\/∃k:Nat,cQ ns d name=(k:Int)/\k<ns.length:=by
 unfold cQ
 split
 ·exact .inl rfl
 rename_i j _
 by_cases h:0<=gU ns (en (nd ns d).aq j).id
 ·exact .inr ⟨_,(mR h).2.2,(mR h).1⟩
 exact .inl (CI h)
theorem aaI (h:¬(R.ns.length:Int)<R.cN):false=decide (vY R):=(Lk (λq=>h q.1)).symm
theorem aaJ (h:¬R.last<1099511627776):false=decide (vY R):=(Lk (λq=>h q.2.1)).symm
theorem aeP (h:(R.ns.length:Int)<R.cN) (h2:R.last<1099511627776):decide ((dX R.ns R.ns.length:Int)<8192)=decide (vY R):=aii.2 ⟨λq=>⟨h,h2,q⟩,λq=>q.2.2⟩
theorem aeQ (h:¬0<=id):false=decide (mT id):=(Lk (λq=>h q.1)).symm
theorem agw (h:0<=id):decide (id<=4095)=decide (mT id):=aii.2 ⟨λq=>⟨h,q⟩,λq=>q.2⟩
theorem aaK (h:name=⟨#[]⟩):90=lF name:=by unfold lF;rw [t8 h]
theorem XB (h:¬name=⟨#[]⟩) (h2:4096<(name.size:Int)):93=lF name:=by unfold lF;rw [nw h,t8 d5]
theorem XC (h:¬name=⟨#[]⟩) (h2:¬4096<(name.size:Int)) (h3:∀q,q<name.size->¬dS name q=0):0=lF name:=by unfold lF;rw [nw h,nw d5,t8 (show qE name from h3)]
theorem aaL (h:¬name=⟨#[]⟩) (h2:¬4096<(name.size:Int)) {q:Nat} (hq:q<name.size) (h3:dS name q=0):91=lF name:=by unfold lF;rw [nw h,nw d5,nw (λg=>g q hq h3)]
end p
end
section
open Go.RowKit Go.Maps bw aH
attribute [local irreducible] aB bJ av aF
noncomputable abbrev zQ1 (dc)(top)(b5:Nat) (st):=([(1,vI ↑dc),(2,vI ↑top),(3,vP b5),(7,vI ↑st)]:Fr)
theorem aaM {β:Bs} (Z:RS) (Y:RL) (hR:dJ β Z Y) (hB:RB Z) :
 aU Tryz.prog β 129 #[.agg ⟨rV Z Y⟩] [] (λv l=>v=.bool (decide (vY Z))/\l=[]):=by
 exact SE Tryz.func129 Tryz.ntmps129 (λR=>SR (jB 2 [1] (λb1=>.aD b1 (rV Z Y) 45) (λb1=>NS (jK 9 [11] [(2,a_ 1 b1),(6,a_ 1 b1)] (sP 11 ((((Z.ns.length:Nat):Int):Int)<(Z.cN:Int)) (λh11=>jK 5 [16] [(1,a_ 1 b1)] (sP 16 ((Z.last:Int)<(1099511627776:Int)) (λpz=>jK 1 [17] [(0,A_ 1 b1 12)] (gE [] (aaF Z Y hR hB) (jK 3 [2] [] (eN ⟨zc Value.bool (aeP h11 pz),rfl⟩)))) (λpz=>jK 5 [2] [] (eN ⟨zc Value.bool (aaJ pz),rfl⟩)))) (λh11=>jK 10 [2] [] (eN ⟨zc Value.bool (aaI h11),rfl⟩)))))))
theorem P5 {β:Bs} (Z:RS) (Y:RL) (hR:dJ β Z Y) (hC:RC Z) (hx:Int) :
 aU Tryz.prog β 85 #[.agg ⟨rV Z Y⟩,vI (hx)] [] (λv l=>v=exV (oU Z hx)/\l=[]):=by
 refine SE Tryz.func85 Tryz.ntmps85 (λR=>SR (jB 3 [2] (λb2=>.aD b2 (rV Z Y) 45) (λb2=>NN (av.seq ?_))))
 by_cases hm:hx∈aY Z.us
 ·obtain⟨k,fT,hk,hh,hat⟩:=SV hC hm
  exact av.region (jK 3 [8,9] [(1,A_ 1 b2 4)] (gE [] ((Fo Z.cH Z.aL Y.H Y.V Y.ch Y.cv Z.us hR.h (by have:=hC.us;omega) hx).val (zc (Value.int .i64) fT)) (jK 1 [6] [] (NZ (jK 2 [12] [(1,wF (((k:Int):Int)<(0:Int)))] (NF (KX (av.seq (rQ (jQ 8 [14,20] [(1,a_ 1 b2),(4,a_ 1 b2),(6,x_ k Z.us.length (xJ.hd (l:=(ji Z.us)) hR.v (j:=k) (by grind [kD,mF]))),(7,r_ (xJ.rd (l:=(ji Z.us)) hR.v (j:=k) (by grind [kD,mF])))] (zH [] [0,1] (.int .i64 ↑(bZ Z.ns ((ji Z.us).getD k 0))) ((yV Y.A Y.c Z.ns Y.L hR.n hC.fU (by have:=hC.ns;omega) ((ji Z.us).getD k 0)).val (zc (Value.int .i64) hat)) (jQ 2 [4,5] [] (NQ (NX (av.ret (RT _ [0] (⟨(zc exV hh).symm,rfl⟩)))))))))))))))))
 obtain⟨fT,hh⟩:=Lj hm
 exact av.region (jK 3 [8,9] [(1,A_ 1 b2 4)] (gE [] ((Fo Z.cH Z.aL Y.H Y.V Y.ch Y.cv Z.us hR.h (by have:=hC.us;omega) hx).val (zc (Value.int .i64) fT)) (jK 1 [6] [] (NZ (jK 2 [12] [] (NT (zR ⟨(zc exV hh).symm,rfl⟩)))))))
theorem BU {β:Bs} (Z:RS) (Y:RL) (hR:dJ β Z Y) (hC:RC Z) (hx:Int) (name:ByteArray) (hn:name.size<=1048576) (fH:Int) :
 aU Tryz.prog β 86 #[.agg ⟨rV Z Y⟩,vI (hx),.string name,vI (fH)] [] (λv l=>v=exV (lM Z hx name fH)/\l=[]):=by
 refine SE Tryz.func86 Tryz.ntmps86 (λR=>SR (jB 3 [4] (λb3=>.aD b3 (rV Z Y) 45) (λb3=>NS (jK 2 [14,15] [(0,A_ 1 b3 12)] ?_))))
 rcases J5 hC hx with hh|⟨d,hh,hd⟩
 ·exact gE [] ((P5 Z Y hR hC hx).val (zc exV hh)) (jK 5 [10,11] [] (NZ (jK 2 [20] [] (NT (zR ⟨(zc exV (Xz hh)).symm,rfl⟩)))))
 exact gE [] ((P5 Z Y hR hC hx).val (zc exV hh)) (jK 5 [10,11] [] (NZ (jK 2 [20] [] (NF (KX (SR (jN 8 [12] (λb4=>[(2,a_ 1 b3),(4,x_ d Z.ns.length (aN.hd hR.n (i:=d) d5)),(5,Et (iT Y.L d (nd Z.ns d)) (λ_ _ h=>aN.rd hR.n d5 h)),(7,A_ 2 b4 10)]) (λ_=>[]) (λb4=>.aD b4 (iT Y.L d (nd Z.ns d)) 102) (λb4=>NZ (jK 3 [30] [(1,a_ 2 b4)] (NN (cN (((nd Z.ns d).kind:Int)=(2:Int)) (λrF=>zR ⟨(zc exV (SX hh rF)).symm,rfl⟩) (λrF=>KX (SQ (jK 3 [31,33] [(0,A_ 1 b3 12),(2,a_ 2 b4)] (gE [] (AJ Z Y hR hC.toRB (nd Z.ns d).id) (NN (cP ((nd Z.ns d).id∈Z.aJ) (λxU=>zR ⟨(zc exV (PZ hh rF xU)).symm,rfl⟩) (λxU=>KX (SQ (jK 1 [35] [] (gE [] (Dl name hn) (jK 1 [37] [] (NN (cN (bW name) (λyO=>zR ⟨(zc exV (P0 hh rF xU yO)).symm,rfl⟩) (λyO=>KX (SQ (jK 6 [43] [(1,a_ 2 b4)] (NN (cN ((bits BinOp.and .i64 ((nd Z.ns d).mode) fH:Int)=(fH:Int)) (λJi=>zR ⟨(zc exV (P4 hh rF xU yO Ji)).symm,rfl⟩) (λJi=>KX (zR ⟨(zc exV (XA hh rF xU yO Ji)).symm,rfl⟩)))))))))))))))))))))))))))))))
theorem aaN {β:Bs} (name:ByteArray) (hn:name.size<=1048576) :
 aU Tryz.prog β 128 #[.string name] [] (λv l=>v=vI (lF name)/\l=[]):=by
 refine SE Tryz.func128 Tryz.ntmps128 (λR=>SR (jK 1 [] [] (NZ (jK 2 [5] [(1,w_ (.bool (decide ((name:ByteArray)=⟨#[]⟩))) (qH _ _))] (NN (cP ((name:ByteArray)=⟨#[]⟩) (λh5=>zR ⟨zc (Value.int .i64) (aaK h5),rfl⟩) (λh5=>KX (SQ (jK 3 [8] [] (NN (cP (((((name:ByteArray).size:Nat):Int):Int)>(4096:Int)) (λh8=>zR ⟨zc (Value.int .i64) (XB h5 h8),rfl⟩) (λh8=>KX (SQ (jK 1 [3] [] (NN (av.block (lJ (λ(i:Nat)=>(i<=name.size)/\(∀q,q<i->¬dS name q=0)) (λ(i:Nat)=>name.size-i) (λ(i:Nat)=>[(0,.string name),(3,vI ↑i)]) (λ(i:Nat)=>[.abs R]) 0 [0] (⟨L4 _,λq hq=>KB hq (N5 q)⟩) ?_)))))))))))))))))
 rintro i ⟨hi,jD⟩
 exact SQ (jK 4 [12] [] (NN (cP ((((i:Nat):Int):Int)<((((name:ByteArray).size:Nat):Int):Int)) (λh12=>KX (av.seq (av.block (SR (jK 4 [18] [(2,xP i (i<(name:ByteArray).size))] (NN (cP ((((((name:ByteArray).data.getD (i) 0).toNat:Nat):Int):Int)=(0:Int)) (λpQ=>zR ⟨zc (Value.int .i64) (aaL h5 h8 (q:=i) d5 (by unfold dS;omega)),rfl⟩) (λpQ=>KX (av.region (jK 3 [3] [(1,wJ ((i:Int)+1) (↑(i+1)))] (NL (tJ ((i+1)) [0] (⟨d5,λq hq=>by grind [dS]⟩))))))))))))) (λh12=>XX (zR ⟨zc (Value.int .i64) (XC h5 h8 (λq hq=>jD q d5)),rfl⟩)))))
theorem aaO {β:Bs} (m:Int) :
 aU Tryz.prog β 116 #[vI m] [] (λv l=>v=.bool (decide (mT m))/\l=[]):=by
 exact SE Tryz.func116 Tryz.ntmps116 (λR=>SR (jK 1 [] [] (NS (jK 3 [5] [] (sP 5 ((m:Int)>=(0:Int)) (λh5=>jK 4 [2] [] (eN ⟨zc Value.bool (agw h5),rfl⟩)) (λh5=>jK 4 [2] [] (eN ⟨zc Value.bool (aeQ h5),rfl⟩)))))))
theorem XD {β:Bs} (Z:RS) (Y:RL) (hR:dJ β Z Y) (hB:RB Z) (d top:Nat) (hd:d<Z.ns.length) :
 aU Tryz.prog β 118 #[.agg ⟨rV Z Y⟩,vI (((d:Nat):Int)),vI (((top:Nat):Int))] [] (λv l=>v=.bool (jO Z.ns top (Z.ns.length+1) d)/\l=[]):=by
 refine SE Tryz.func118 Tryz.ntmps118 (λR=>SR (jB 2 [3] (λb5=>.aD b5 (rV Z Y) 45) (λb5=>NZ (jK 1 [7] [] (NN (av.block (lJ (λ(st,dc)=>(st<=Z.ns.length+1)/\(dc<Z.ns.length)/\(jO Z.ns top (Z.ns.length+1-st) dc=(jO Z.ns top (Z.ns.length+1) d))) (λ(st,dc)=>Z.ns.length+1-st) (λ(st,dc)=>(zQ1 dc top b5 st)) (λ(st,dc)=>[.abs R,.aD b5 (rV Z Y) 45]) (0,d) [0,1] (⟨L4 _,hd,rfl⟩) ?_)))))))
 rintro⟨st,dc⟩ ⟨hst,hdc,hbl⟩
 have hbn:=hB.ns
 refine SQ (jK 6 [16] [(3,a_ 1 b5)] (NN (cP ((((st:Nat):Int):Int)<=(((Z.ns.length:Nat):Int):Int)) (λpz=>KX (av.seq (av.block (SQ (jK 3 [21] [] (NN (cP ((((dc:Nat):Int):Int)=(((top:Nat):Int):Int)) (λyQ=>?_) (λyQ=>?_)))))))) (λpz=>XX (zR (v:=(.bool false)) ⟨by rw [←hbl,show Z.ns.length+1-st=0 by omega];rfl,rfl⟩)))))
 ·replace yQ:dc=top:=d5
  exact zR ⟨by rw [←hbl,show Z.ns.length+1-st=(Z.ns.length-st)+1 by omega,yQ,Xv],rfl⟩
 replace yQ:¬dc=top:=d5
 refine KX (SR (jK 1 [8] [] (NZ (sl 8 (vI (-1)) (.int .i64 ((oA Z.ns (nd Z.ns dc).id 0))) (rfl) (jK 1 [9] [] (NN (av.block (lJ (λ(i:Nat)=>(i<=Z.ns.length)) (λ(i:Nat)=>Z.ns.length-i) (λ(i:Nat)=>(zQ1 dc top b5 st++[(8,vI ((oA Z.ns (nd Z.ns dc).id i))),(9,vI ↑i)])) (λ(i:Nat)=>[.abs R,.aD b5 (rV Z Y) 45]) 0 [0,1] (L4 _) ?_))))))))
 rintro i hi
 refine SQ (jK 6 [27] [(3,a_ 1 b5)] (NN (cP ((((i:Nat):Int):Int)<(((Z.ns.length:Nat):Int):Int)) (λyN=>KX (av.seq (av.block (SR (sl 8 (vI ((oA Z.ns (nd Z.ns dc).id i))) (.int .i64 ((BS Z.ns (nd Z.ns dc).id i 0))) (zc (Value.int .i64) aaB) (jK 1 [10] [] (NN (av.block (lJ (λ(j:Nat)=>(j<=(nd Z.ns i).aq.length)) (λ(j:Nat)=>(nd Z.ns i).aq.length-j) (λ(j:Nat)=>(zQ1 dc top b5 st++[(8,vI ((BS Z.ns (nd Z.ns dc).id i j))),(9,vI ↑i),(10,vI ↑j)])) (λ(j:Nat)=>[.abs R,.aD b5 (rV Z Y) 45]) 0 [0,1] (L4 _) ?_))))))))) (λyN=>XX (SQ (sl 8 (vI ((oA Z.ns (nd Z.ns dc).id i))) (.int .i64 ((oA Z.ns (nd Z.ns dc).id Z.ns.length))) (by rw [show i=Z.ns.length by omega]) (jK 2 [63] [] (NN (cP (((oA Z.ns (nd Z.ns dc).id Z.ns.length):Int)<(0:Int)) (λh63=>zR ⟨by rw [←hbl,show Z.ns.length+1-st=(Z.ns.length-st)+1 by omega,Vf yQ h63],rfl⟩) (λh63=>KX (av.region (sl 8 (vI ((oA Z.ns (nd Z.ns dc).id Z.ns.length))) (.int .i64 ↑((oA Z.ns (nd Z.ns dc).id Z.ns.length).toNat)) (zc (Value.int .i64) d5) (jK 2 [1] [] (LX (av.region (jK 3 [7] [(1,wJ ((st:Int)+1) (↑(st+1)))] (NL (tJ ((st+1),(oA Z.ns (nd Z.ns dc).id Z.ns.length).toNat) [0,1] (⟨d5,by have:=Xu (ns:=Z.ns) (id:=(nd Z.ns dc).id) Z.ns.length;omega,by rw [←hbl,show Z.ns.length+1-st=(Z.ns.length+1-(st+1))+1 by omega,aaD yQ h63]⟩)))))))))))))))))))
 rintro j hj
 have hrw:=hB.row (i:=i) d5
 exact SQ (jK 10 [39] [(3,a_ 1 b5),(5,x_ i Z.ns.length (aN.hd hR.n (i:=i) d5)),(7,r_ (aN.rd hR.n (i:=i) d5 (j:=9) rfl))] (NN (cP ((((j:Nat):Int):Int)<((((nd Z.ns i).aq.length:Nat):Int):Int)) (λlY=>KX (av.seq (av.block (av.seq (rQ (jQ 19 [60] [(2,a_ 1 b5),(4,x_ i Z.ns.length (aN.hd hR.n (i:=i) d5)),(6,r_ (aN.rd hR.n (i:=i) d5 (j:=9) rfl)),(8,x_ j ((nd Z.ns i).aq.length) (cV.hd (hR.n.aq i d5) (i:=j) d5)),(10,r_ (cV.rd (hR.n.aq i d5) (i:=j) d5 (j:=1) rfl)),(13,a_ 1 b5),(15,x_ dc Z.ns.length (aN.hd hR.n (i:=dc) d5)),(17,r_ (aN.rd hR.n (i:=dc) d5 (j:=0) rfl))] (NQ (NX (cP (((en (nd Z.ns i).aq j).id:Int)=((nd Z.ns dc).id:Int)) (λOh=>av.region (jK 2 [8] [] (LX (av.region (sl 8 (vI ↑i) (.int .i64 ((BS Z.ns (nd Z.ns dc).id i (j+1)))) (zc (Value.int .i64) (ado Oh)) (jK 3 [10] [(1,wJ ((j:Int)+1) (↑(j+1)))] (NL (tJ ((j+1)) [0,1] (d5))))))))) (λOh=>KX (av.region (sl 8 (vI ((BS Z.ns (nd Z.ns dc).id i j))) (.int .i64 ((BS Z.ns (nd Z.ns dc).id i (j+1)))) (zc (Value.int .i64) (aaC Oh)) (jK 3 [10] [(1,wJ ((j:Int)+1) (↑(j+1)))] (NL (tJ ((j+1)) [0,1] (d5)))))))))))))))) (λlY=>XX (av.region (sl 8 (vI ((BS Z.ns (nd Z.ns dc).id i j))) (.int .i64 ((oA Z.ns (nd Z.ns dc).id (i+1)))) (by rw [←adn,show j=(nd Z.ns i).aq.length by omega]) (jK 3 [9] [(1,wJ ((i:Int)+1) (↑(i+1)))] (NL (tJ ((i+1)) [0,1] (d5))))))))))
end
section
open Go.RowKit Go.Maps bw aH
section m
variable {ns:List aO} {es l:List fO} {name:ByteArray} {id z:Int} {i j d k:Nat} {R:RS} {x:fO}
theorem MN:∀{l:List fO},(∀e∈l,ja e.name name)->mK name id l=l++[⟨name,id⟩]
 |[],_=>rfl
 |e::r,h=>by
   unfold mK
   rw [nw (λq=>q (h e (T5 ..))),MN (λy hy=>h y (T4 _ hy))];rfl
theorem J6:∀{l:List fO},(∀e∈l,ja e.name name)->¬ja x.name name->mK name id (l++[x])=l++[⟨name,id⟩,x]
 |[],_,hx=>by grind [mK]
 |e::r,h,hx=>by
   show mK name id (e::(r++[x]))=_
   unfold mK
   rw [nw (λq=>q (h e (T5 ..))),J6 (λy hy=>h y (T4 _ hy)) hx];rfl
theorem MO:∀{l:List fO},(∃e∈l,¬ja e.name name)->mK name id (l++[x])=mK name id l++[x]
 |[],h=>by obtain⟨_,h,_⟩:=h;cases h
 |e::r,h=>by
   show mK name id (e::(r++[x]))=mK name id (e::r)++[x]
   unfold mK
   by_cases he:¬ja e.name name
   ·rw [t8 he,t8 he];rfl
   rw [nw he,nw he]
   obtain⟨y,hy,hny⟩:=h
   rcases T8.1 hy with rfl|hy
   ·exact KB hny he
   rw [MO ⟨y,hy,hny⟩];rfl
theorem xw (hj:j<es.length):es.take (j+1)=es.take j++[en es j]:=by
 rw [aiC,T6 hj]
 grind [en]
def gV (es:List fO) (name:ByteArray) (id:Int) (j:Nat) (put:Bool) (out:List fO):Prop:=
 (put=false/\out=es.take j/\∀e∈es.take j,ja e.name name)\/(put=true/\out=mK name id (es.take j)/\∃e∈es.take j,¬ja e.name name)
theorem gV.start:gV es name id 0 false []:=.inl ⟨rfl,rfl,λe he=>by cases he⟩
theorem gV.put (h:gV es name id j false l) (hj:j<es.length) (hx:¬ja (en es j).name name):gV es name id (j+1) true (l++[⟨name,id⟩]++[en es j]):=by
 grind [en,xw,J6,gV,ja]
theorem gV.more (h:gV es name id j true l) (hj:j<es.length):gV es name id (j+1) true (l++[en es j]):=by
 grind [xw,MO,gV,en]
theorem gV.miss (h:gV es name id j false l) (hj:j<es.length) (hx:ja (en es j).name name):gV es name id (j+1) false (l++[en es j]):=by
 grind [xw,gV,ja,en]
theorem gV.last (h:gV es name id es.length false l):l++[⟨name,id⟩]=mK name id es:=by
 grind [MN,gV,mK]
theorem gV.end_ (h:gV es name id es.length true l):l=mK name id es:=by
 grind [gV,mK]
theorem gV.len {b:Bool} (h:gV es name id j b l) (hj:j<=es.length):l.length<=j+1:=by
 have hl:∀q:List fO,(mK name id q).length=q.length+1:=λq=>by
  induction q with
  |nil=>rfl
  |cons e r ih=>
    grind [mK]
 grind [gV]
theorem Nh (hj:j<es.length) (h:(en es j).name=name):rP name (es.take j)=rP name (es.take (j+1)):=by
 grind [rP,xw]
theorem Ll (hj:j<es.length) (h:¬(en es j).name=name):rP name (es.take j)++[en es j]=rP name (es.take (j+1)):=by
 grind [rP,xw]
theorem Lm:∀(l:List fO) (z:Int),q5 name (l++[x]) z=if x.name=name then x.id else q5 name l z
 |[],z=>rfl
 |e::r,z=>by
   show q5 name (r++[x]) _=_
   rw [Lm r]
   split<;>rfl
theorem adq (hj:j<es.length) (h:(en es j).name=name):(en es j).id=q5 name (es.take (j+1)) z:=by rw [xw hj,Lm,t8 h]
theorem aaP (hj:j<es.length) (h:¬(en es j).name=name):q5 name (es.take j) z=q5 name (es.take (j+1)) z:=by rw [xw hj,Lm,nw h]
theorem aaQ:(rP name (es.take j)).length<=j:=Pe (aiV ..) (by rw [aiz];omega)
theorem uJ (hj:j<ns.length):ns.take (j+1)=ns.take j++[nd ns j]:=by
 rw [aiC,T6 hj]
 grind [nd]
def tF (R:RS) (i:Nat):List aO:=(R.ns.take i).filter (rR R)
def pP (R:RS) (i:Nat):List Int:=((tF R i).filter (λn=>decide (n.id∈R.aJ))).map aO.id
theorem BV (hi:i<R.ns.length) (h:rR R (nd R.ns i)=true):tF R (i+1)=tF R i++[nd R.ns i]:=by
 grind [tF,uJ]
theorem P6 (hi:i<R.ns.length) (h:¬rR R (nd R.ns i)=true):tF R (i+1)=tF R i:=by
 grind [tF,uJ]
theorem MP (hi:i<R.ns.length) (h:rR R (nd R.ns i)=true) (hg:(nd R.ns i).id∈R.aJ):pP R (i+1)=pP R i++[(nd R.ns i).id]:=by
 unfold pP;rw [BV hi h,List.filter_append,aiM];simp [hg]
theorem P7 (hi:i<R.ns.length) (h:rR R (nd R.ns i)=true) (hg:¬(nd R.ns i).id∈R.aJ):pP R (i+1)=pP R i:=by
 grind [pP,BV]
theorem Vh (hi:i<R.ns.length) (h:¬rR R (nd R.ns i)=true):pP R (i+1)=pP R i:=by
 unfold pP;rw [P6 hi h]
theorem IG {n:aO}:rR R n=true↔(n.id∈R.aJ->n.id∈ji R.us):=by unfold rR;exact decide_eq_true_iff
theorem MQ:gD R={R with ns:=tF R R.ns.length,aJ:=pP R R.ns.length}:=by
 unfold gD pP tF
 rw [aiu]
theorem MR:(tF R i).length<=i:=Pe (aiV ..) (by rw [aiz];omega)
theorem XE:(pP R i).length<=i:=by
 grind [pP,MR]
end m
section fl
theorem MS {α:Type} {f g:Nat->α->List Value} {s:Nat} (hf:∀i a,(f i a).length=s) (hg:∀i a,(g i a).length=s):∀(xs:List α) (b k j:Nat) (a:α) (u:Value),k<xs.length->j<s →
 (∀i,i≠k->∀x,xs[i]?=some x->g (b+i) x=f (b+i) x)->(∀x,xs[k]?=some x->g (b+k) a=(f (b+k) x).set j u)->(fA f b xs).set (k*s+j) u=fA g b (xs.set k a)
 |[],_,k,_,_,_,h,_,_,_=>KB h (N5 k)
 |x::r,b,0,j,a,u,_,hj,h1,h2=>by
   rw [fA,List.set_cons_zero,fA,Nat.zero_mul,ain,List.set_append_left _ _ (by rw [hf];exact hj)]
   have e:=h2 x rfl
   rw [Nat.add_zero] at e
   rw [e]
   congr 1
   exact Cn _ _ (λi a hi=>by
    have:=h1 (i+1) d5 a (by simpa using hi)
    rw [show b+1+i=b+(i+1) by omega]
    exact this.symm)
 |x::r,b,k+1,j,a,u,h,hj,h1,h2=>by
   rw [fA,List.set_cons_succ,fA,List.set_append_right _ _ (by rw [hf,Nat.add_mul];omega),hf]
   have e0:=h1 0 d5 x rfl
   rw [Nat.add_zero] at e0
   rw [e0,show (k+1)*s+j-s=k*s+j by rw [Nat.add_mul];omega]
   congr 1
   refine MS hf hg r (b+1) k j a u (by simpa using h) hj (λi hi y hy=>?_) (λy hy=>?_)
   ·rw [show b+1+i=b+(i+1) by omega];exact h1 (i+1) d5 y (by simpa using hy)
   rw [show b+1+k=b+(k+1) by omega];exact h2 y (by simpa using hy)
end fl
section st
variable {P:Program} {β:Bs} {N:fP} {ops:Array Oper} {k:Nat} {fr:Fr} {ay:List HP} {Q:Post} {d:Option Tmp}
theorem aB.adr (i j:Nat) {T e:TypeId} {size n cap g:Nat} {xs:List Value} {u u2:Value} {a y:Operand} (cD:∀ar,iZ N ar ops fr k=some (.store T a y,d)) (hp:ay[i]?=some (.abs (aI e size (some ⟨g,0,none⟩) n cap xs)))
 (ha:∀ar,fo N fr ar a=.pointer (some ⟨g,j,none⟩)) (hy:∀ar,fo N fr ar y=.agg #[u,u2]) (hT:(P.info? T).map (·.size)=some 2) (hu:u.oneCell'=true) (SY:u2.oneCell'=true) (hj:j+1<xs.length)
 (K':aB P β N ops (k+1) (eX fr d undef) (ay.set i (.abs (aI e size (some ⟨g,0,none⟩) n cap ((xs.set j u).set (j+1) u2)))) Q):aB P β N ops k fr ay Q:=by
 refine aB.nH cD (λo ar w ho hS=>?_) K'
 have uL:j<xs.length:=d5
 have hi:=dH hp
 have yP:=hS.set hp (Cl (u:=u) uL)
 have hp2:(ay.set i (.abs (aI e size (some ⟨g,0,none⟩) n cap (xs.set j u))))[i]?=some (.abs (aI e size (some ⟨g,0,none⟩) n cap (xs.set j u))):=ai8 hi
 have hS3:=yP.set hp2 (Cl (u:=u2) (by rw [T7];exact hj))
 rw [List.set_set] at hS3
 refine⟨_,.inr ⟨rfl,?_⟩,hS3⟩
 have key:∀(w:World) (l:List HP) (ys:List Value) (q:Nat),aP β l w->l[i]?=some (.abs (aI e size (some ⟨g,0,none⟩) n cap ys))->q<ys.length->(∃x,w.cell? ⟨g,q,none⟩=some x)/\w.frozen? ⟨g,q,none⟩=false:=λw l ys q hS hp hq=>by
  obtain⟨F,hF⟩:=hS.get hp
  obtain⟨x,hx⟩:=lq hq
  refine⟨⟨x,aI.cell hx F w hF⟩,?_⟩
  obtain⟨⟨_,h2⟩,_⟩:=hF
  rcases h2 with ⟨e,_⟩|⟨g',cp,cur,e,_,hb,_⟩
  ·cases e
  cases e;simp [World.frozen?,hb]
 obtain⟨⟨x1,hc1⟩,hf1⟩:=key w ay xs j hS hp uL
 obtain⟨⟨x2,hc2⟩,hf2⟩:=key _ _ _ (j+1) yP hp2 (by rw [T7];exact hj)
 obtain⟨inf,hi,eV⟩:∃inf,P.info? T=some inf/\inf.size=2:=by
  cases h:P.info? T with
  |none=>rw [h] at hT;cases hT
  |some inf=>rw [h] at hT;exact⟨inf,rfl,by simpa using hT⟩
 have h3:=sx hi w
 rw [eV] at h3
 obtain⟨dst,op,type,pos,after,guard⟩:=o
 cases ho
 have st:∀(u x:Value) (a:Addr) (w:World),u.oneCell'=true->w.cell? a=some x->w.frozen? a=false->Sem.run P (Sem.store Mode.plain a u (Sem.pure ())) w=.ok () (w.setCell a u):=λu x a w hu hc hf=>by
  cases u<;>first
   |(simp [Value.oneCell'] at hu;done)
   |simp [Sem.run,hc,hf]
 simp only [execOp,ha ar,hy ar]
 simp [go_sem,Instr.storeAt,Instr.sureAddr,storeVar,h3,Value.cells,storeCells,store,Addr.add,st u x1 _ _ hu hc1 hf1,st u2 x2 _ _ SY hc2 hf2]
theorem aB.Ln (i j:Nat) {T e:TypeId} {size n cap:Nat} {A:Option Addr} {xs:List Value} {u:Value} {a y:Operand} (cD:∀ar,iZ N ar ops fr k=some (.store T a y,d)) (hp:ay[i]?=some (.abs (aI e size A n cap xs)))
 (ha:∀ar,fo N fr ar a=.pointer (some ⟨bG A,bE A+j,none⟩)) (hy:∀ar,fo N fr ar y=u) (hT:(P.info? T).map (·.size)=some 1) (hu:u.oneCell'=true) (hn:0<n) (hj:j<xs.length)
 (K':aB P β N ops (k+1) (eX fr d undef) (ay.set i (.abs (aI e size A n cap (xs.set j u)))) Q):aB P β N ops k fr ay Q:=by
 refine aB.tell (p:=∃g,A=some ⟨g,0,none⟩) (λ_ hS=>let ⟨_,h⟩:=hS.get hp;aI.head h hn) ?_
 rintro⟨g,rfl⟩
 exact aB.Em i j cD hp (λar=>(ha ar).trans (zc (λo=>Value.pointer (some ⟨g,o,none⟩)) (ain j))) hy hT hu hj K'
theorem aB.II (i j:Nat) {T e:TypeId} {size n cap:Nat} {A:Option Addr} {xs:List Value} {u u2:Value} {a y:Operand} (cD:∀ar,iZ N ar ops fr k=some (.store T a y,d)) (hp:ay[i]?=some (.abs (aI e size A n cap xs)))
 (ha:∀ar,fo N fr ar a=.pointer (some ⟨bG A,bE A+j,none⟩)) (hy:∀ar,fo N fr ar y=.agg #[u,u2]) (hT:(P.info? T).map (·.size)=some 2) (hu:u.oneCell'=true) (SY:u2.oneCell'=true) (hn:0<n) (hj:j+1<xs.length)
 (K':aB P β N ops (k+1) (eX fr d undef) (ay.set i (.abs (aI e size A n cap ((xs.set j u).set (j+1) u2)))) Q):aB P β N ops k fr ay Q:=by
 refine aB.tell (p:=∃g,A=some ⟨g,0,none⟩) (λ_ hS=>let ⟨_,h⟩:=hS.get hp;aI.head h hn) ?_
 rintro⟨g,rfl⟩
 exact aB.adr i j cD hp (λar=>(ha ar).trans (zc (λo=>Value.pointer (some ⟨g,o,none⟩)) (ain j))) hy hT hu SY hj K'
theorem aB.vZ (i:Nat) {e:TypeId} {size n cap:Nat} {A:Option Addr} {xs:List Value} (hp:ay[i]?=some (.abs (aI e size A n cap xs))) (hn:0<n) (K:A=some ⟨bG A,bE A,none⟩->aB P β N ops k fr ay Q):aB P β N ops k fr ay Q:=
 aB.tell (λ_ hS=>let ⟨_,h⟩:=hS.get hp;(aI.I4 h hn).1) K
end st
theorem aeR (x y:ByteArray):Value.bool (!(Op.bytesLess x.toList y.toList || (x.toList == y.toList)))=Value.bool (!(decide (ja x y))):=zc (λv=>match v with|Value.bool b=>Value.bool (!b)|v=>v) (Oi x y)
theorem gV.keep {es l:List fO} {name:ByteArray} {id:Int} {j:Nat} {p:Bool} (h:gV es name id j p l) (hj:j<es.length) (hx:p=false->ja (en es j).name name):gV es name id (j+1) p (l++[en es j]):=by
 cases p with
 |true=>exact h.more hj
 |false=>exact h.miss hj (hx rfl)
theorem DW {q:List fO} {e:fO} {B:Option Addr} {c:Nat}:HP.abs (aI 126 2 B (q.length+1) c (mQ q++[.string e.name,.int .i64 e.id]))=HP.abs (aI 126 2 B (q++[e]).length c (mQ (q++[e]))):=by
 rw [JI,T3];rfl
theorem oo {α:Type} {q:List α} {e:α}:q.length+1=(q++[e]).length:=by rw [T3];rfl
section o
variable {P:Program} {β β':Bs} {R:RS} {Y:RL} {f:FuncId} {args:Array Value} {x u:Value} {d k i j:Nat} {ns:List aO} {L L':fq} {n:aO} {es:List fO} {B:Option Addr} {c:Nat}
theorem y6 (hk:k<ns.length) (hj:j<10) (hL:∀i,i≠k->∀x,iT L' i x=iT L i x) (h:iT L' k n=(iT L k (nd ns k)).set j u):(bS L ns).set (k*10+j) u=bS L' (ns.set k n):=by
 refine MS (s:=10) (λ_ _=>rfl) (λ_ _=>rfl) ns 0 k j _ _ hk hj (λi hi x _=>?_) (λx hx=>?_)
 all_goals grind [nd]
theorem Vi (hk:k<ns.length) {v:Value} (hv:(iT L k (nd ns k))[j]?=some v):(bS L ns)[k*10+j]?=some v:=by
 have hj:j<10:=dH hv
 have h1:=uT (f:=iT L) (s:=10) (λ_ _=>rfl) ns 0 k j _ (getD_some (x:=default) hk) hj
 rw [ain] at h1
 exact h1.trans hv
theorem wg (hk:k<ns.length):nd (ns.set k n) i=if i=k then n else nd ns i:=by
 grind [nd]
def fq.bR (L:fq) (k:Nat) (B:Option Addr) (c:Nat):fq:=⟨L.dA,λi=>if i=k then B else L.eA i,L.dC,λi=>if i=k then c else L.eC i⟩
def fq.dat (L:fq) (k:Nat) (B:Option Addr) (c:Nat):fq:=⟨λi=>if i=k then B else L.dA i,L.eA,λi=>if i=k then c else L.dC i,L.eC⟩
structure mP (β:Bs) (R:RS) (L:fq) (H V:Option Addr):Prop where
 data:∀i,i<R.ns.length->bO β (L.dA i) (nd R.ns i).data
 aq:∀i,i<R.ns.length->cV β (L.eA i) (nd R.ns i).aq
 h:cq β H (bL (aY R.us))
 v:cq β V (bL (ji R.us))
theorem mP.le {H V:Option Addr} (h:mP β R L H V) (dP:β.le β'):mP β' R L H V:=⟨λi hi=>(h.data i hi).le dP,λi hi=>(h.aq i hi).le dP,h.h.le dP,h.v.le dP⟩
theorem mP.at {A G H V:Option Addr} {c cg ch cv:Nat} (h:mP β R L H V) (g:oe β [.abs (aI 102 10 A R.ns.length c (bS L R.ns)),.abs (aI 3 1 G R.aJ.length cg (bL R.aJ))] β'):dJ β' R ⟨A,c,L,G,cg,H,ch,V,cv⟩:=by
 obtain⟨F,h1,h2⟩:=g.get 0 rfl
 obtain⟨G,g1,g2⟩:=g.get 1 rfl
 have h':=h.le g.le
 exact⟨⟨cq.gZ g1 g2 rfl,h'.h,h'.v⟩,cq.gZ h1 h2 rfl,h'.data,h'.aq⟩
theorem jm {A G H V:Option Addr} {c cg ch cv:Nat} (h:mP β R L H V) (hs:∀β',β.le β'->dJ β' R ⟨A,c,L,G,cg,H,ch,V,cv⟩->aU P β' f args [] (λv l=>v=x/\l=[])) :
 aU P β f args [.abs (aI 102 10 A R.ns.length c (bS L R.ns)),.abs (aI 3 1 G R.aJ.length cg (bL R.aJ))] (λv l=>v=x/\l=[.abs (aI 102 10 A R.ns.length c (bS L R.ns)),.abs (aI 3 1 G R.aJ.length cg (bL R.aJ))]):=
 (aU.sF (pre:=[]) (R:=[.abs (aI 102 10 A R.ns.length c (bS L R.ns)),.abs (aI 3 1 G R.aJ.length cg (bL R.aJ))]) (λβ' g=>hs β' g.le (h.at g))).mono (by rintro v l ⟨l0,⟨rfl,rfl⟩,rfl⟩;exact⟨rfl,rfl⟩)
theorem nA (ns:List aO) (L:fq) (A:Option Addr) (cap i j:Nat) (hi:i<ns.length) {v:Value} (hv:(iT L i (nd ns i))[j]?=some v):∀F w,(aI 102 10 A ns.length cap (bS L ns)).h F w->w.cell? ⟨bG A,bE A+i*10+j,none⟩=some v:=aI.cellAt hi (Vi hi hv)
theorem Rz (hk:k<ns.length):(bS L ns).set (k*10+9) (.slice B es.length c)=bS (L.bR k B c) (ns.set k {nd ns k with aq:=es}):=
 y6 hk d8 (λi hi x=>by unfold iT fq.bR;simp [hi]) (by unfold iT fq.bR;simp)
theorem Vj (hk:k<ns.length) {bs:List UInt8}:(bS L ns).set (k*10+7) (.slice B bs.length c)=bS (L.dat k B c) (ns.set k {nd ns k with data:=bs}):=
 y6 hk d8 (λi hi x=>by unfold iT fq.dat;simp [hi]) (by unfold iT fq.dat;simp)
theorem Hg (hk:k<ns.length) {s z:Int}:((bS L ns).set (k*10+5) (.int .i64 s)).set (k*10+5+1) (.int .i64 z)=bS L (ns.set k {nd ns k with bH:=s,bh:=z}):=by
 rw [y6 (n:={nd ns k with bH:=s}) hk d8 (λ_ _ _=>rfl) rfl]
 have:=y6 (ns:=ns.set k {nd ns k with bH:=s}) (L:=L) (L':=L) (k:=k) (j:=6) (n:={nd ns k with bH:=s,bh:=z}) (u:=.int .i64 z) (by rw [T7];exact hk) d8 (λ_ _ _=>rfl) (by rw [wg hk,t8 rfl];rfl)
 rw [List.set_set] at this
 exact this
theorem RA (hk:k<ns.length) {s z:Int}:(((bS L ns).set (k*10+9) (.slice B es.length c)).set (k*10+5) (.int .i64 s)).set (k*10+5+1) (.int .i64 z)=bS (L.bR k B c) (nK s z ns k es):=by
 rw [Rz hk,Hg (by rw [T7];exact hk),wg hk,t8 rfl,List.set_set];rfl
theorem AP {s z:Int}:(nK s z ns k es).length=ns.length:=T7 ..
theorem SZ {s z:Int} (hk:k<ns.length):nd (nK s z ns k es) i=if i=k then {nd ns k with aq:=es,bH:=s,bh:=z} else nd ns i:=wg hk
theorem S5 {A:Option Addr} {cN:Nat} {ns':List aO} {s z:Int} (hk:k<ns.length) (h:ns'=nK s z ns k es) :
 HP.abs (aI 102 10 A ns.length cN ((((bS L ns).set (k*10+9) (.slice B es.length c)).set (k*10+5) (.int .i64 s)).set (k*10+5+1) (.int .i64 z)))=HP.abs (aI 102 10 A ns'.length cN (bS (L.bR k B c) ns')):=by
 rw [RA hk,h,AP]
theorem mP.nK {H V:Option Addr} (h:mP β R L H V) (hk:k<R.ns.length) (he:cV β B es) {R':RS} (hn:R'.ns=nK R.cS R.cZ R.ns k es) (hu:R'.us=R.us):mP β R' (L.bR k B c) H V:=by
 refine⟨λi hi=>?_,λi hi=>?_,by rw [hu];exact h.h,by rw [hu];exact h.v⟩
 ·rw [hn,AP] at hi
  rw [hn,SZ hk]
  by_cases e:i=k
  ·rw [t8 e];subst e;exact h.data i hi
  rw [nw e];exact h.data i hi
 rw [hn,AP] at hi
 rw [hn,SZ hk]
 show cV β (if i=k then B else L.eA i) _
 by_cases e:i=k
 ·rw [t8 e,t8 e];exact he
 rw [nw e,nw e];exact h.aq i hi
theorem Gs {name:ByteArray} {id:Int}:(dW R d name id).ns.length=R.ns.length:=T7 ..
theorem vo {name:ByteArray} {b:Bool}:(dg R d name b).ns.length=R.ns.length:=T7 ..
theorem ahj {L:fq} {F:Fp} {w:World} {m:Nat} (h:(HP.abs (ld (qR ns L) m)).h F w) (h1:∀k,F k->β'.O k) (h2:β'.w0=w):∀i,i<m->cV β' (L.eA i) (nd ns i).aq:=
 ld.base h h1 h2 (Φ:=λi b=>cV b (L.eA i) (nd ns i).aq) (λi _ F hF hO=>cq.gZ (show (HP.abs (aI 126 2 (L.eA i) (nd ns i).aq.length (L.eC i) (mQ (nd ns i).aq))).h F _ from hF) hO h2)
theorem aeS {L:fq} {F:Fp} {w:World} {m:Nat} (h:(HP.abs (ld (mI ns L) m)).h F w) (h1:∀k,F k->β'.O k) (h2:β'.w0=w):∀i,i<m->bO β' (L.dA i) (nd ns i).data:=
 ld.base h h1 h2 (Φ:=λi b=>bO b (L.dA i) (nd ns i).data) (λi _ F hF hO=>cq.gZ (show (HP.abs (aI 5 1 (L.dA i) (nd ns i).data.length (L.dC i) (d9 (nd ns i).data))).h F _ from hF) hO h2)
theorem P8:∀m,i<m->(nd ns i).data.length<=fZ ns m
 |0,h=>KB h (N5 _)
 |m+1,h=>by
   show _<=fZ ns m+(nd ns m).data.length
   by_cases e:i=m
   ·subst e;omega
   have:=P8 m d5;omega
theorem RB.hd (h:RB R):∀i,i<R.ns.length->(nd R.ns i).data.length<=140737488355328/\(nd R.ns i).aq.length<=1048576:=λi hi=>⟨Pe (P8 _ hi) h.dat,Pe (h.row hi) d8⟩
structure RD (q:Nat) (R:RS):Prop where
 ns:R.ns.length<=4097
 aJ:R.aJ.length<=4096+q
 us:R.us.length<=1024
 aq:dX R.ns R.ns.length<=8192+q
 dat:fZ R.ns R.ns.length<=140737488355328
theorem RD.rb {q:Nat} (h:RD q R) (hq:q<=8):RB R:=⟨h.ns,by have:=h.aJ;omega,h.us,by have:=h.aq;omega,h.dat⟩
theorem RD.up {q m:Nat} (h:RD q R) (hm:q<=m):RD m R:=⟨h.ns,by have:=h.aJ;omega,h.us,by have:=h.aq;omega,h.dat⟩
theorem J7 (hk:k<ns.length):∀m:Nat,dX (ns.set k n) m+(if k<m then (nd ns k).aq.length else 0)=dX ns m+(if k<m then n.aq.length else 0)
 |0=>rfl
 |m+1=>by
   have h:=J7 hk m
   show dX (ns.set k n) m+(nd (ns.set k n) m).aq.length+_=dX ns m+(nd ns m).aq.length+_
   rw [wg hk]
   by_cases e:m=k
   ·subst e
    rw [nw (ai1 _),nw (ai1 _)] at h
    rw [t8 rfl,t8 (aiA _),t8 (aiA _)]
    omega
   rw [nw e]
   by_cases e2:k<m
   ·rw [t8 e2,t8 e2] at h;rw [t8 d5,t8 d5];omega
   rw [nw e2,nw e2] at h;rw [nw d5,nw d5];omega
theorem J8 (hk:k<ns.length):∀m:Nat,fZ (ns.set k n) m+(if k<m then (nd ns k).data.length else 0)=fZ ns m+(if k<m then n.data.length else 0)
 |0=>rfl
 |m+1=>by
   have h:=J8 hk m
   show fZ (ns.set k n) m+(nd (ns.set k n) m).data.length+_=fZ ns m+(nd ns m).data.length+_
   rw [wg hk]
   by_cases e:m=k
   ·subst e
    rw [nw (ai1 _),nw (ai1 _)] at h
    rw [t8 rfl,t8 (aiA _),t8 (aiA _)]
    omega
   rw [nw e]
   by_cases e2:k<m
   ·rw [t8 e2,t8 e2] at h;rw [t8 d5,t8 d5];omega
   rw [nw e2,nw e2] at h;rw [nw d5,nw d5];omega
theorem XF {s z:Int} (hk:k<ns.length) (he:es.length<=(nd ns k).aq.length+1):dX (nK s z ns k es) (nK s z ns k es).length<=dX ns ns.length+1/\fZ (nK s z ns k es) (nK s z ns k es).length=fZ ns ns.length:=by
 grind [AP,J7,nd,J8,nK]
theorem RD.nK {q:Nat} (h:RD q R) (hk:k<R.ns.length) (he:es.length<=(nd R.ns k).aq.length+1) {R':RS} (hn:R'.ns=nK R.cS R.cZ R.ns k es) (hu:R'.us=R.us) (hg:R'.aJ.length<=R.aJ.length+1):RD (q+1) R':=by
 have h1:=XF (s:=R.cS) (z:=R.cZ) hk he
 have h2:R'.ns.length=R.ns.length:=by rw [hn,AP]
 refine⟨by rw [h2];exact h.ns,by have:=h.aJ;omega,by rw [hu];exact h.us,?_,?_⟩
 ·rw [hn];have:=h.aq;omega
 rw [hn];have:=h.dat;omega
def DX (R:RS) (d:Nat) (name:ByteArray):RS:={R with ns:=nK R.cS R.cZ R.ns d (rP name (nd R.ns d).aq)}
theorem ads {name:ByteArray}:(DX R d name).ns.length=R.ns.length:=T7 ..
theorem S6 {name:ByteArray} {b:Bool} (hf:b=true) (h:tY (DX R d name).ns (q5 name (nd R.ns d).aq 0)=0):(dg R d name b).aJ=R.aJ++[q5 name (nd R.ns d).aq 0]:=t8 ⟨hf,h⟩
theorem J9 {name:ByteArray} {b:Bool} (h:b=true->¬tY (DX R d name).ns (q5 name (nd R.ns d).aq 0)=0):(dg R d name b).aJ=R.aJ:=nw (λq=>h q.1 q.2)
theorem XG {name:ByteArray}:(rP name es).length<=es.length:=aiV ..
theorem RD.del {q:Nat} {name:ByteArray} (h:RD q R) (hk:d<R.ns.length):RD (q+1) (DX R d name):=h.nK hk (Nat.le_succ_of_le XG) rfl rfl (Nat.le_succ _)
theorem RD.S7 {q:Nat} {name:ByteArray} {b:Bool} (h:RD q R) (hk:d<R.ns.length):RD (q+1) (dg R d name b):=by
 refine h.nK hk (Nat.le_succ_of_le XG) rfl rfl ?_
 grind [dg]
theorem S8 {name:ByteArray} {id:Int}:∀l:List fO,(mK name id l).length=l.length+1
 |[]=>rfl
 |e::r=>by
   unfold mK
   split
   ·rfl
   rw [aix,S8 r];rfl
theorem RD.bR {q:Nat} {name:ByteArray} {id:Int} (h:RD q R) (hk:d<R.ns.length):RD (q+1) (dW R d name id):=h.nK hk (Nat.le_of_eq (S8 _)) rfl rfl (Nat.le_succ _)
theorem Fq {q:List Int} {z:Int} {B:Option Addr} {c:Nat}:HP.abs (aI 3 1 B (q.length+1) c (bL q++[.int .i64 z]))=HP.abs (aI 3 1 B (q++[z]).length c (bL (q++[z]))):=by
 rw [GU,T3];rfl
theorem P9 (l:List Int):∀u∈bL l,u.oneCell'=true:=by
 intro u hu
 obtain⟨b,_,rfl⟩:=aik.1 hu
 rfl
theorem mP.same {H V:Option Addr} (h:mP β R L H V) {R':RS} (hn:R'.ns=R.ns) (hu:R'.us=R.us):mP β R' L H V:=⟨by rw [hn];exact h.data,by rw [hn];exact h.aq,by rw [hu];exact h.h,by rw [hu];exact h.v⟩
theorem mP.snoc {H V:Option Addr} (h:mP β R L H V) {R':RS} (hn:R'.ns=R.ns++[n]) (hd:n.data=[]) (he:n.aq=[]) (hu:R'.us=R.us):mP β R' (L.put R.ns.length none 0 none 0) H V:=by
 have h0:∀{xs:List Value},xs=[]->cq β none xs:=λe j v hj=>by rw [e] at hj;cases hj
 have hl:R'.ns.length=R.ns.length+1:=by rw [hn,T3];rfl
 refine⟨λi hi=>?_,λi hi=>?_,by rw [hu];exact h.h,by rw [hu];exact h.v⟩
 ·rw [hn]
  show bO β (if i=R.ns.length then none else L.dA i) _
  by_cases e:i=R.ns.length
  ·subst e;rw [t8 rfl,wX,hd];exact h0 rfl
  rw [nw e,zk d5];exact h.data i d5
 rw [hn]
 show cV β (if i=R.ns.length then none else L.eA i) _
 by_cases e:i=R.ns.length
 ·subst e;rw [t8 rfl,wX,he];exact h0 rfl
 rw [nw e,zk d5];exact h.aq i d5
theorem RD.last {q:Nat} (h:RD q R) (z:Int):RD q {R with last:=z}:=⟨h.ns,h.aJ,h.us,h.aq,h.dat⟩
theorem Qa (h:(R.us.length:Int)<R.cH):mg R k=({R with us:=ins (aR R.us) (nd R.ns k).id R.us,aL:=max R.aL ((R.us.length:Int)+1)},aR R.us,0):=t8 h
theorem S9 (h:¬(R.us.length:Int)<R.cH):mg R k=(R,0,130):=nw h
structure RU (R:RS):Prop where
 us:R.us.length<=1024
 usr:aH.dM (aY R.us)
 wC:∀z∈aY R.us,1<=z
theorem RC.ru (h:RC R):RU R:=⟨h.us,h.usr,h.wC⟩
theorem ahk {z:Int}:z∈ji R.us↔∃q,q<R.us.length/\(ji R.us).getD q 0=z:=by
 have hl:=mF R.us
 refine⟨λh=>?_,λ⟨q,h1,h2⟩=>h2 ▸ BQ d5⟩
 obtain⟨q,hq,e⟩:=aiT h
 exact⟨q,d5,gn⟩
theorem Qb {p:List aO} (h:p=tF R R.ns.length):(gD R).ns=p:=by rw [MQ,h]
theorem Ka {l:List Int} (h:l=pP R R.ns.length):(gD R).aJ=l:=by rw [MQ,h]
theorem aaR {An Ag:Option Addr} {cn cg:Nat} {p:List aO} {l:List Int} {K:fq} (hR:dJ β R Y) (hN:cq β An (bS K p)) (hG:cq β Ag (bL l)) (hp:p=tF R R.ns.length) (hl:l=pP R R.ns.length) (hK:ou β p p.length K):dJ β (gD R) ⟨An,cn,K,Ag,cg,Y.H,Y.ch,Y.V,Y.cv⟩:=by
 have e1:=Qb hp
 have e2:=Ka hl
 exact⟨⟨by rw [e2];exact hG,hR.h,hR.v⟩,⟨by rw [e1];exact hN,by rw [e1];exact hK.data,by rw [e1];exact hK.aq⟩⟩
theorem ou.snoc {p:List aO} {K:fq} {dA eA:Option Addr} {dC eC:Nat} (h:ou β p p.length K) (hd:bO β dA n.data) (he:cV β eA n.aq):ou β (p++[n]) (p++[n]).length (K.put p.length dA dC eA eC):=by
 have e:(p++[n]).length=p.length+1:=by rw [T3];rfl
 rw [e]
 refine ou.put (k:=p.length) ⟨λi hi=>?_,λi hi=>?_⟩ (by rw [wX];exact hd) (by rw [wX];exact he)
 ·rw [zk hi];exact h.data i hi
 rw [zk hi];exact h.aq i hi
theorem IJ {p:List aO} {K:fq} {dA eA A:Option Addr} {dC eC cN:Nat} {dn en:Nat} (hd:n.data.length=dn) (he:n.aq.length=en) :
 HP.abs (aI 102 10 A (p.length+1) cN (bS K p++[.int .i64 n.id,.int .i64 n.kind,.int .i64 n.mode,.int .i64 n.cM,.int .i64 n.cO,.int .i64 n.bH,.int .i64 n.bh,.slice dA dn dC,.string n.target,.slice eA en eC]))=HP.abs (aI 102 10 A (p++[n]).length cN (bS (K.put p.length dA dC eA eC) (p++[n]))):=by
 grind [vR]
end o
end
end Go.Proofs.YtfececghhgeapaaGreatDoor
